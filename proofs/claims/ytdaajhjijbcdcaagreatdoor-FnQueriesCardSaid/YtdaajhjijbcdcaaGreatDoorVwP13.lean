
import Derived.Test.YtdaajhjijbcdcaaGreatDoorVwP11
namespace Go.Vw
open Go.RowKit Dat
variable {d:g_}{b:Bt}
theorem j_Y:(a_7 d b).length<=10000:=by
 unfold a_7
 cases h:okF d b
 .simp
 .obtain ⟨hv,hb,hlt,hroot,hok,G,hrf⟩:=e_P h
  simp only [iP_]
  exact k_r hv hb hlt ⟨[]⟩ (Nat.zero_le _) hok
theorem f_G {σ ρ:Type}{body:Nat->σ->Option (Out σ ρ)}(f:Nat->σ){n:Nat}{s:σ}(G:s=f 0)(h:∀j,j<n->body j (f j)=some (.next<|f<|j+1)):C_ body n 0 s=some (.inl<|f n):=by
 subst G;exact d_Z f h
end Go.Vw
