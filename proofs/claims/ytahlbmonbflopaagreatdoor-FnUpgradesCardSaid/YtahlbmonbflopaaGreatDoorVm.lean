import Derived.Test.YtahlbmonbflopaaGreatDoorVl
import Derived.Test.YtahlbmonbflopaaGreatDoorVk
namespace Go.Vw
open Go.RowKit Dat
theorem DrE.sm {d:c_}(h:DrE d)(G:d.rules.length<=8):SmD d:=by
 have hMX:=MXv;refine ⟨by omega,λr hr=>?_⟩;obtain ⟨i,hi,rfl⟩:=List.getElem_of_mem hr;have g:=h.each i hi;have h1:=g.name;have h2:=g.bytes;have h3:=g.names.1;have h4:=g.tags;have h5:=g.kidn;exact ⟨by omega,by omega,by omega,by omega,by omega,λs hs=>by have:=g.names.2 s hs;omega⟩
end Go.Vw
namespace Go.Vw
open Go.RowKit Dat
structure WV (d:c_):Prop where
 few:d.rules.length<=10
 seq:∀j (hj:j<d.rules.length),(d.rules[j]).kind=6->(d.rules[j]).kids.length<=5
 opt:∀j (hj:j<d.rules.length),8<=j->(d.rules[j]).kind=8
 fix:∀j (hj:j<d.rules.length),(d.rules[j]).kind=3->(d.rules[j]).size<=5
end Go.Vw
namespace Go.Vw
open Go.RowKit Dat
theorem DrE.push {rs:List b_}{q:b_}(h:DrE ⟨rs⟩)(hq:DrR rs.length q):DrE ⟨rs++[q]⟩:=by
 have hpos:0<rs.length:=h.some_;refine ⟨by simp,λhh=>?_,λj hj=>?_⟩
 .simp only [List.getElem_append_left hpos];exact h.first hpos
 .simp only [List.length_append,lC_,List.length_nil] at hj
  by_cases hlt:j<rs.length
  .simp only [List.getElem_append_left hlt];exact h.each j hlt
  .have hje:j=rs.length:=by omega
   subst hje
   simp only [List.getElem_concat_length];exact hq
end Go.Vw
