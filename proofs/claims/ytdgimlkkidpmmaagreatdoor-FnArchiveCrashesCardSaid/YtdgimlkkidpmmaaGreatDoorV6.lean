import Derived.Test.YtdgimlkkidpmmaaGreatDoorV5
namespace Go.Vw
open Go.RowKit Dat
theorem d_r {σ ρ:Type}{body:Nat->σ->Option (Out σ ρ)}(I:Nat->σ->Prop)(R:ρ->Prop){n:Nat}(h:∀k s,k<n->I k s->(∃s',body k s=some (.next s')/\I (k+1) s')∨(∃r,body k s=some (.ret r)/\R r)) :
  ∀m k s,k+m=n->I k s->(∃s',t_ body m k s=some (.inl s')/\I n s')∨(∃r,t_ body m k s=some (.inr r)/\R r)
 | 0,k,s,hk,hi=>.inl ⟨s,rfl,by rw [← hk];exact hi⟩
 | m+1,k,s,hk,hi=>by
  unfold t_
  rcases h k s (by omega) hi with ⟨s',h1,h2⟩ | ⟨r,h1,h2⟩
  .rw [h1];exact d_r I R h m (k+1) s' (by omega) h2
  .rw [h1];exact .inr ⟨r,rfl,h2⟩
theorem c_A {σ ρ:Type}{step:σ->Option (Out σ ρ)}(I:σ->Prop)(μ:σ->Nat)(B:σ->Prop)(h:∀s,I s->(∃s',step s=some (.next s')/\I s'/\μ s'<μ s)∨(∃s',step s=some (.brk s')/\B s')) :
  ∀n s,I s->μ s<n->∃s',C_ step n s=some (.inl s')/\B s'
 | 0,s,_,hm=>by omega
 | n+1,s,hi,hm=>by
  unfold C_
  rcases h s hi with ⟨s',h1,h2,h3⟩ | ⟨s',h1,h2⟩
  .rw [h1];exact c_A I μ B h n s' h2 (by omega)
  .rw [h1];exact ⟨s',rfl,h2⟩
end Go.Vw
namespace Go.Vw
open Go.RowKit Dat
theorem e_U (x:Nat):Lib.itoa x=Lib.decDigits x:=by unfold Lib.itoa;rw [iN_ (by omega)];simp
theorem m_o {α:Type}{l:List α}{k:Nat}(h:k<l.length):l.take (k+1)=l.take k++[l[k]]:=by rw [List.take_add_one,gG_ h];rfl
end Go.Vw
namespace Go.Vw
open Go.RowKit Dat
def vsz:Nat->Val->Nat
 | 0,v=>v.bytes.length
 | m+1,v=>v.bytes.length+(v.items.map<|λx=>1+vsz m x).sum
def lsz (m:Nat)(l:List Val):Nat:=(l.map<|λx=>1+vsz m x).sum
theorem o_F (m:Nat)(v:Val)(l:List Val):lsz m (v::l)=1+vsz m v+lsz m l:=by unfold lsz;simp
theorem o_G {m:Nat}{v:Val}:∀{l:List Val},v∈l->1+vsz m v<=lsz m l
 | a::l,h=>by
  rw [o_F]
  rcases List.mem_cons.1 h with rfl | h
  .omega
  .have:=o_G (m:=m) h;omega
section
variable {d:c_}{b:Bt}
end
theorem m_t {σ ρ:Type}{body:Nat->σ->Option (Out σ ρ)}(f:Nat->σ){n:Nat}{s:σ}(G:s=f 0)(h:∀j,j<n->body j (f j)=some (.next<|f<|j+1)):t_ body n 0 s=some (.inl<|f n):=by
 subst G;exact d_g f h
end Go.Vw
