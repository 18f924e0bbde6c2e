
import Derived.Test.YtnncfaaebnkcbaaGreatDoorVwP9
namespace Go.Vw
open Go.RowKit Dat
section
variable {d:f_}{b:List UInt8}
def okF (d:f_)(b:List UInt8):Bool:=(b_B d b).2.2==0
theorem okF_ok (h:okF d b=true):a_5 d=true/\b.length<=400/\d.rules.length - 1<d.rules.length/\b_7 d=((d.rules.length - 1:Nat):Int)/\(rdW d.rules b (d.rules.length - 1) 0).2.2=0/\(b_B d b).1=(rdW d.rules b (d.rules.length - 1) 0).1/\b_B d b=c_7 (rdW d.rules b (d.rules.length - 1) 0):=by
 unfold okF b_B at h
 have h1:¬((b_A d (b_7 d) b 0).2.2=0/\(b_A d (b_7 d) b 0).2.1<(b.length:Int)):=by
  intro hc;rw [iP_ hc] at h;simp at h
 rw [iN_ h1] at h
 have h2:(b_A d (b_7 d) b 0).2.2=0:=by simpa using h
 have h3:okV d b (b_7 d) 0=true:=by
  rcases Bool.eq_false_or_eq_true (okV d b (b_7 d) 0) with h | h
  ·exact h
  ·unfold b_A at h2;rw [h] at h2;simp at h2
 obtain ⟨hv,hb,i,p,hi,hp,hil,_⟩:=k_4 h3;have hl:=c_N hv;have hroot:b_7 d=((d.rules.length - 1:Nat):Int):=by unfold b_7;omega
 have e:b_A d (b_7 d) b 0=c_7 (rdW d.rules b (d.rules.length - 1) 0):=by
  unfold b_A;rw [iP_ h3,hroot];rfl
 have G:b_B d b=c_7 (rdW d.rules b (d.rules.length - 1) 0):=by unfold b_B;rw [iN_ h1,e]
 refine ⟨hv,hb,by omega,hroot,?_,?_,G⟩
 ·rw [e] at h2;exact h2
 ·rw [G];rfl
end
end Go.Vw
