
import Derived.Test.YtgpbbhplnbndeaaGreatDoorVa
import Derived.Test.YtgpbbhplnbndeaaGreatDoorVf
namespace Go.Vw
open Go.RowKit Dat
theorem e_g (x y:Int):c_l x y=some (min x y):=by
 unfold c_l j_C
 have:n_ (σ:=Int) (ρ:=Int) (λL=>(λH=>bd (idx [y] ((L:Nat):Int)) λG=>bd (i_k G H) λI=>bd (α:=Int) (if I then some G else some H)<|λJ=>some<|.next J)) [y].length 0 x=some (.inl<|min x y):=by
  unfold i_k
  simp only [lC_,List.length_nil,n_,ix_ (show 0<[y].length by simp),List.getElem_cons_zero,bd_some]
  by_cases h:y<x
  .rw [dT_ h,iP_ rfl,bd_some,Int.min_eq_right (by omega)]
  .rw [dF_ h,iN_ (by simp),bd_some,Int.min_eq_left (by omega)]
 rw [this,bd_some,el_inl,bd_some]
theorem n_3 (x y:Int):c_k x y=some (min x y):=by
 unfold c_k
 by_cases h:y<x
 .rw [dT_ h,iP_ rfl,Int.min_eq_right (by omega)]
 .rw [dF_ h,iN_ (by simp),Int.min_eq_left (by omega)]
theorem k_W {s:Int}(h1:1<=s)(h4:s<=4):∃x,c_R s=some x/\k_ x 1=256 ^ s.toNat - 1:=by
 have:=g_s h1 h4
 rw [d_G (by omega) (by omega)] at this
 exact ⟨_,m_K h1 h4,this.1⟩
section
variable {d:b_}{r:c_}{v:Val}
end
section
variable {d:b_}{b:Bt}
end
end Go.Vw
