
import Derived.Test.YtfjlanohfpolnaaGreatDoorVwP9
namespace Go.Vw
open Go.RowKit Dat
section
variable {d:e_}{b:List UInt8}
def okF (d:e_)(b:List UInt8):Bool:=(a_x d b).2.2==0
theorem g_l (h:okF d b=true):a_4 d=true/\b.length<=400/\d.rules.length - 1<d.rules.length/\b_k d=((d.rules.length - 1:Nat):Int)/\(rdW d.rules b (d.rules.length - 1) 0).2.2=0/\(a_x d b).1=(rdW d.rules b (d.rules.length - 1) 0).1/\a_x d b=b_R (rdW d.rules b (d.rules.length - 1) 0):=by
 unfold okF a_x at h
 have h1:¬((b_G d (b_k d) b 0).2.2=0/\(b_G d (b_k d) b 0).2.1<(b.length:Int)):=by
  intro hc;rw [iP_ hc] at h;simp at h
 rw [iN_ h1] at h
 have h2:(b_G d (b_k d) b 0).2.2=0:=by simpa using h
 have h3:okV d b (b_k d) 0=true:=by
  rcases Bool.eq_false_or_eq_true (okV d b (b_k d) 0) with h | h
  ·exact h
  ·unfold b_G at h2;rw [h] at h2;simp at h2
 obtain ⟨hv,hb,i,p,hi,hp,hil,_⟩:=k_N h3;have hl:=c_2 hv;have hroot:b_k d=((d.rules.length - 1:Nat):Int):=by unfold b_k;omega
 have e:b_G d (b_k d) b 0=b_R (rdW d.rules b (d.rules.length - 1) 0):=by
  unfold b_G;rw [iP_ h3,hroot];rfl
 have G:a_x d b=b_R (rdW d.rules b (d.rules.length - 1) 0):=by unfold a_x;rw [iN_ h1,e]
 refine ⟨hv,hb,by omega,hroot,?_,?_,G⟩
 ·rw [e] at h2;exact h2
 ·rw [G];rfl
end
end Go.Vw
