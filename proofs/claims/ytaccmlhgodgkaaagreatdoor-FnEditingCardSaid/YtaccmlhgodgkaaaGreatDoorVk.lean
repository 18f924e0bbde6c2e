
import Derived.Test.YtaccmlhgodgkaaaGreatDoorVe
import Derived.Test.YtaccmlhgodgkaaaGreatDoorVj
namespace Go.Vw
open Go.RowKit Dat
theorem n_f (x y:Int):g_C x y=some (min x y):=by
 unfold g_C j_K
 have:D_ (σ:=Int) (ρ:=Int) (λL=>(λH=>bd (idx [y] ((L:Nat):Int)) λG=>bd (i_k G H) λI=>bd (α:=Int) (if I then some G else some H)<|λJ=>some<|.next J)) [y].length 0 x=some (.inl<|min x y):=by
  unfold i_k
  simp only [lC_,List.length_nil,D_,ix_ (show 0<[y].length by simp),List.getElem_cons_zero,bd_some]
  by_cases h:y<x
  .rw [dT_ h,iP_ rfl,bd_some,Int.min_eq_right (by omega)]
  .rw [dF_ h,iN_ (by simp),bd_some,Int.min_eq_left (by omega)]
 rw [this,bd_some,el_inl,bd_some]
theorem n_g (x y:Int):d_d x y=some (min x y):=by
 unfold d_d
 by_cases h:y<x
 .rw [dT_ h,iP_ rfl,Int.min_eq_right (by omega)]
 .rw [dF_ h,iN_ (by simp),Int.min_eq_left (by omega)]
theorem n_h {s:Int}(h1:1<=s)(h4:s<=4):∃x,d_a s=some x/\y_ x 1=256 ^ s.toNat - 1:=by
 have:=g_c h1 h4
 rw [e_2 (by omega) (by omega)] at this
 exact ⟨_,r_h h1 h4,this.1⟩
section
variable {d:e_}{r:f_}{v:Val}
end
section
variable {d:e_}{b:Bt}
end
end Go.Vw
