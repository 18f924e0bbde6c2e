
import Derived.Test.YtdgimlkkidpmmaaGreatDoorV7
import Derived.Test.YtdgimlkkidpmmaaGreatDoorVc
namespace Go.Vw
open Go.RowKit Dat
theorem p_O (x y:Int):d_Y x y=some (min x y):=by
 unfold d_Y j_C
 have:t_ (σ:=Int) (ρ:=Int) (λL=>(λH=>bd (idx [y] ((L:Nat):Int)) λG=>bd (g_y G H) λI=>bd (α:=Int) (if I then some G else some H)<|λJ=>some<|.next J)) [y].length 0 x=some (.inl<|min x y):=by
  unfold g_y
  simp only [lC_,List.length_nil,t_,ix_ (show 0<[y].length by simp),List.getElem_cons_zero,bd_some]
  by_cases h:y<x
  .rw [dT_ h,iP_ rfl,bd_some,Int.min_eq_right (by omega)]
  .rw [dF_ h,iN_ (by simp),bd_some,Int.min_eq_left (by omega)]
 rw [this,bd_some,el_inl,bd_some]
theorem p_P (x y:Int):b_L x y=some (min x y):=by
 unfold b_L
 by_cases h:y<x
 .rw [dT_ h,iP_ rfl,Int.min_eq_right (by omega)]
 .rw [dF_ h,iN_ (by simp),Int.min_eq_left (by omega)]
theorem n_6 {s:Int}(h1:1<=s)(h4:s<=4):∃x,c_F s=some x/\h_ x 1=256 ^ s.toNat - 1:=by
 have:=h_o h1 h4
 rw [c_D (by omega) (by omega)] at this
 exact ⟨_,p_w h1 h4,this.1⟩
section
variable {d:c_}{r:b_}{v:Val}
end
section
variable {d:c_}{b:Bt}
end
end Go.Vw
