
import Derived.Test.YtllmonllbkaflaaGreatDoorV6
namespace Go.Vw
open Go.RowKit Dat
variable {d:c_}{b:Bt}
theorem o_0:(a_X d b).length<=10000:=by
 unfold a_X
 cases h:okF d b
 .simp
 .obtain ⟨hv,hb,hlt,hroot,hok,G,hrf⟩:=i_c h
  simp only [iP_]
  exact m_G hv hb hlt ⟨[]⟩ (Nat.zero_le _) hok
theorem g_2 {σ ρ:Type}{body:Nat->σ->Option (Out σ ρ)}(f:Nat->σ){n:Nat}{s:σ}(G:s=f 0)(h:∀j,j<n->body j (f j)=some (.next<|f<|j+1)):p_ body n 0 s=some (.inl<|f n):=by
 subst G;exact d_y f h
end Go.Vw
