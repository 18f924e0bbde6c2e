
import Derived.Test.YtajhmimbhplkfaaGreatDoorV6
namespace Go.Vw
open Go.RowKit Dat
variable {d:e_}{b:List UInt8}
theorem n_H:(b_0 d b).length<=10000:=by
 unfold b_0
 cases h:okF d b
 ·simp
 ·obtain ⟨hv,hb,hlt,hroot,hok,G,hrf⟩:=j_Q h
  simp only [iP_]
  exact m_5 hv hb hlt ⟨[]⟩ (Nat.zero_le _) hok
theorem e_F {σ ρ:Type}{body:Nat->σ->Option (Out σ ρ)}(f:Nat->σ){n:Nat}{s:σ}(G:s=f 0)(h:∀j,j<n->body j (f j)=some (.next<|f<|j+1)):t_ body n 0 s=some (.inl<|f n):=by
 subst G;exact b_T f h
end Go.Vw
