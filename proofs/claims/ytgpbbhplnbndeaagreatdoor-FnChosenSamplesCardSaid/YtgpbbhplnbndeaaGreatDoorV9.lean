
import Derived.Test.YtgpbbhplnbndeaaGreatDoorV8
namespace Go.Vw
open Go.RowKit Dat
def vsz:Nat->Val->Nat
 | 0,v=>v.bytes.length
 | m+1,v=>v.bytes.length+(v.items.map<|λx=>1+vsz m x).sum
def lsz (m:Nat)(l:List Val):Nat:=(l.map<|λx=>1+vsz m x).sum
theorem m_w (m:Nat)(v:Val)(l:List Val):lsz m (v::l)=1+vsz m v+lsz m l:=by unfold lsz;simp
theorem m_x {m:Nat}{v:Val}:∀{l:List Val},v∈l->1+vsz m v<=lsz m l
 | a::l,h=>by
  rw [m_w]
  rcases List.mem_cons.1 h with rfl | h
  .omega
  .have:=m_x (m:=m) h;omega
section
variable {d:b_}{b:Bt}
end
theorem f_i {σ ρ:Type}{body:Nat->σ->Option (Out σ ρ)}(f:Nat->σ){n:Nat}{s:σ}(G:s=f 0)(h:∀j,j<n->body j (f j)=some (.next<|f<|j+1)):n_ body n 0 s=some (.inl<|f n):=by
 subst G;exact c_P f h
end Go.Vw
