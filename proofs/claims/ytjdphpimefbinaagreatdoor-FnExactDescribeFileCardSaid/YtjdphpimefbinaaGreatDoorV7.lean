
import Derived.Test.YtjdphpimefbinaaGreatDoorV6
namespace Go.Vw
open Go.RowKit Dat
variable {d:c_}{b:Bt}
theorem s_K:(a_D d b).length<=10000:=by
 unfold a_D
 cases h:okF d b
 .simp
 .obtain ⟨hv,hb,hlt,hroot,hok,G,hrf⟩:=h_r h
  simp only [iP_]
  exact m_q hv hb hlt ⟨[]⟩ (Nat.zero_le _) hok
theorem s_L {σ ρ:Type}{body:Nat->σ->Option (Out σ ρ)}(f:Nat->σ){n:Nat}{s:σ}(G:s=f 0)(h:∀j,j<n->body j (f j)=some (.next<|f<|j+1)):v_ body n 0 s=some (.inl<|f n):=by
 subst G;exact b_A f h
end Go.Vw
