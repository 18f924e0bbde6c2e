
import Derived.Test.YtgpbbhplnbndeaaGreatDoorVq
namespace Go.Vw
open Go.RowKit Dat
theorem DrE.push {rs:List c_}{q:c_}(h:DrE ⟨rs⟩)(hq:DrR rs.length q):DrE ⟨rs++[q]⟩:=by
 have hpos:0<rs.length:=h.some_;refine ⟨by simp,λhh=>?_,λj hj=>?_⟩
 .simp only [List.getElem_append_left hpos];exact h.first hpos
 .simp only [List.length_append,lC_,List.length_nil] at hj
  by_cases hlt:j<rs.length
  .simp only [List.getElem_append_left hlt];exact h.each j hlt
  .have hje:j=rs.length:=by omega
   subst hje
   simp only [List.getElem_concat_length];exact hq
end Go.Vw
