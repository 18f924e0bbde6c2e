
import Derived.Test.YtgpbbhplnbndeaaGreatDoorV5
namespace Go.Vw
open Go.RowKit Dat
theorem c_e {σ ρ:Type}{body:Nat->σ->Option (Out σ ρ)}(I:Nat->σ->Prop)(R:ρ->Prop){n:Nat}(h:∀k s,k<n->I k s->(∃s',body k s=some (.next s')/\I (k+1) s')∨(∃r,body k s=some (.ret r)/\R r)) :
  ∀m k s,k+m=n->I k s->(∃s',n_ body m k s=some (.inl s')/\I n s')∨(∃r,n_ body m k s=some (.inr r)/\R r)
 | 0,k,s,hk,hi=>.inl ⟨s,rfl,by rw [← hk];exact hi⟩
 | m+1,k,s,hk,hi=>by
  unfold n_
  rcases h k s (by omega) hi with ⟨s',h1,h2⟩ | ⟨r,h1,h2⟩
  .rw [h1];exact c_e I R h m (k+1) s' (by omega) h2
  .rw [h1];exact .inr ⟨r,rfl,h2⟩
theorem e_a {σ ρ:Type}{step:σ->Option (Out σ ρ)}(I:σ->Prop)(μ:σ->Nat)(B:σ->Prop)(h:∀s,I s->(∃s',step s=some (.next s')/\I s'/\μ s'<μ s)∨(∃s',step s=some (.brk s')/\B s')) :
  ∀n s,I s->μ s<n->∃s',G_ step n s=some (.inl s')/\B s'
 | 0,s,_,hm=>by omega
 | n+1,s,hi,hm=>by
  unfold G_
  rcases h s hi with ⟨s',h1,h2,h3⟩ | ⟨s',h1,h2⟩
  .rw [h1];exact e_a I μ B h n s' h2 (by omega)
  .rw [h1];exact ⟨s',rfl,h2⟩
end Go.Vw
