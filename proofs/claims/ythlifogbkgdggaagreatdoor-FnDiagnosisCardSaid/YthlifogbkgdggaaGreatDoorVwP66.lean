
import Derived.Test.YthlifogbkgdggaaGreatDoorVwP65
import Derived.Test.YthlifogbkgdggaaGreatDoorVwP54
namespace Go.Vw
open Go.RowKit Dat
theorem k_9 (x y:Int):d_P x y=some (min x y):=by
 unfold d_P h_j
 have:y_ (σ:=Int) (ρ:=Int) (fun L=>(fun H=>bd (idx [y] ((L:Nat):Int)) fun G=>bd (f_X G H) fun I=>bd (α:=Int) (if I=true then some G else some H)<|fun J=>some<|.next J)) [y].length 0 x=some (.inl<|min x y):=by
  unfold f_X
  simp only [lC_,List.length_nil,y_,ix_ (show 0<[y].length by simp),List.getElem_cons_zero,bd_some]
  by_cases h:y<x
  ·rw [dT_ h,iP_ rfl,bd_some,Int.min_eq_right (by omega)]
  ·rw [dF_ h,iN_ (by simp),bd_some,Int.min_eq_left (by omega)]
 rw [this,bd_some,el_inl,bd_some]
section
variable {d:d_}{r:g_}{v:Val}
end
section
variable {d:d_}{b:List UInt8}
end
end Go.Vw
