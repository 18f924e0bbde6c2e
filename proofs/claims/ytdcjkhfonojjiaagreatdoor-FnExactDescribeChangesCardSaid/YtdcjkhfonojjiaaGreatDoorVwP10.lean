
import Derived.Test.YtdcjkhfonojjiaaGreatDoorVwP9
namespace Go.Vw
open Go.RowKit Dat
section
variable {d:d_}{b:List UInt8}
def okF (d:d_)(b:List UInt8):Bool:=(a_u d b).2.2==0
theorem g_2 (h:okF d b=true):a_0 d=true/\b.length<=400/\d.rules.length - 1<d.rules.length/\b_f d=((d.rules.length - 1:Nat):Int)/\(rdW d.rules b (d.rules.length - 1) 0).2.2=0/\(a_u d b).1=(rdW d.rules b (d.rules.length - 1) 0).1/\a_u d b=b_M (rdW d.rules b (d.rules.length - 1) 0):=by
 unfold okF a_u at h
 have h1:¬((b_B d (b_f d) b 0).2.2=0/\(b_B d (b_f d) b 0).2.1<(b.length:Int)):=by
  intro hc;rw [iP_ hc] at h;simp at h
 rw [iN_ h1] at h
 have h2:(b_B d (b_f d) b 0).2.2=0:=by simpa using h
 have h3:okV d b (b_f d) 0=true:=by
  rcases Bool.eq_false_or_eq_true (okV d b (b_f d) 0) with h | h
  ·exact h
  ·unfold b_B at h2;rw [h] at h2;simp at h2
 obtain ⟨hv,hb,i,p,hi,hp,hil,_⟩:=j_Q h3;have hl:=b_V hv;have hroot:b_f d=((d.rules.length - 1:Nat):Int):=by unfold b_f;omega
 have e:b_B d (b_f d) b 0=b_M (rdW d.rules b (d.rules.length - 1) 0):=by
  unfold b_B;rw [iP_ h3,hroot];rfl
 have G:a_u d b=b_M (rdW d.rules b (d.rules.length - 1) 0):=by unfold a_u;rw [iN_ h1,e]
 refine ⟨hv,hb,by omega,hroot,?_,?_,G⟩
 ·rw [e] at h2;exact h2
 ·rw [G];rfl
theorem l_N (hd:SmD d){n:Nat}(hn:500<=n):f_w n d b=some (okF d b):=by
 unfold f_w okF
 rw [j_U hd hn];rfl
end
end Go.Vw
