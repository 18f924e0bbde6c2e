
import Derived.Test.YtllmonllbkaflaaGreatDoorVx
namespace Go.Vw
open Go.RowKit Dat
theorem u_1 {α:Type}{m:α->Bool}{l:List α}{k:Nat}(hk:k<l.length)(hm:m l[k]=true):(l.filter m)[((l.take k).filter m).length]? = some l[k]:=by
 have:l.filter m=(l.take k).filter m++(l[k]::(l.drop<|k+1).filter m):=by
  conv=>lhs;rw [← List.take_append_drop k l]
  rw [List.filter_append,dC_ hk,List.filter_cons_of_pos hm]
 rw [this,List.getElem?_append_right<|Nat.le_refl _]
 simp
section
variable {d:c_}{b:Bt}
end
end Go.Vw
