
import Derived.Test.YteocmnebeeammaaGreatDoorVwP11
namespace Go.Vw
open Go.RowKit Dat
variable {d:d_}{b:Bt}
theorem n_c:(a_Q d b).length<=10000:=by
 unfold a_Q
 cases h:okF d b
 .simp
 .obtain ⟨hv,hb,hlt,hroot,hok,G,hrf⟩:=g_V h
  simp only [iP_]
  exact l_r hv hb hlt ⟨[]⟩ (Nat.zero_le _) hok
theorem f_6 {σ ρ:Type}{body:Nat->σ->Option (Out σ ρ)}(f:Nat->σ){n:Nat}{s:σ}(G:s=f 0)(h:∀j,j<n->body j (f j)=some (.next<|f<|j+1)):r_ body n 0 s=some (.inl<|f n):=by
 subst G;exact b_P f h
end Go.Vw
