
import Derived.Test.YtbhbfaljeoeciaaGreatDoorVm
import Derived.Test.YtbhbfaljeoeciaaGreatDoorVn
namespace Go.Vw
open Go.RowKit Dat
section
variable {d:c_}
theorem j_O:∀{m M:Nat}(v:Val),m<=M->vsz m v<=vsz M v
 | 0,0,v,_=>Nat.le_refl _
 | 0,M+1,v,_=>by
  show v.bytes.length<=v.bytes.length+lsz M v.items
  omega
 | m+1,M+1,v,h=>by
  show v.bytes.length+lsz m v.items<=v.bytes.length+lsz M v.items
  have:∀l:List Val,lsz m l<=lsz M l:=fun l=>by
   induction l with
   | nil=>exact Nat.le_refl _
   | cons x l ih =>
    rw [d_1,d_1]
    have:=j_O (m:=m) (M:=M) x (by omega)
    omega
  have:=this v.items
  omega
end
end Go.Vw
