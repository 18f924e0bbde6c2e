
import Derived.Test.YtnncfaaebnkcbaaGreatDoorVwP65
import Derived.Test.YtnncfaaebnkcbaaGreatDoorVwP54
namespace Go.Vw
open Go.RowKit Dat
theorem m_F (x y:Int):f_Y x y=some (min x y):=by
 unfold f_Y j_0
 have:w_ (σ:=Int) (ρ:=Int) (fun L=>(fun H=>bd (idx [y] ((L:Nat):Int)) fun G=>bd (h_H G H) fun I=>bd (α:=Int) (if I=true then some G else some H)<|fun J=>some<|.next J)) [y].length 0 x=some (.inl<|min x y):=by
  unfold h_H
  simp only [lC_,List.length_nil,w_,ix_ (show 0<[y].length by simp),List.getElem_cons_zero,bd_some]
  by_cases h:y<x
  ·rw [dT_ h,iP_ rfl,bd_some,Int.min_eq_right (by omega)]
  ·rw [dF_ h,iN_ (by simp),bd_some,Int.min_eq_left (by omega)]
 rw [this,bd_some,el_inl,bd_some]
theorem m_G (x y:Int):f_X x y=some (min x y):=by
 unfold f_X
 by_cases h:y<x
 ·rw [dT_ h,iP_ rfl,Int.min_eq_right (by omega)]
 ·rw [dF_ h,iN_ (by simp),Int.min_eq_left (by omega)]
theorem m_H {s:Int}(h1:1<=s)(h4:s<=4):∃x,d_E s=some x/\q_ x 1=256 ^ s.toNat - 1:=by
 have:=f_u h1 h4
 rw [g_K (by omega) (by omega)] at this
 exact ⟨_,q_r h1 h4,this.1⟩
section
variable {d:f_}{r:b_}{v:Val}
end
section
variable {d:f_}{b:List UInt8}
end
end Go.Vw
