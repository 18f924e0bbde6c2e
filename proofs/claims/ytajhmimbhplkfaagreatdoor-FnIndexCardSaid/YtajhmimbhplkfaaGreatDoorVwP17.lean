
import Derived.Test.YtajhmimbhplkfaaGreatDoorVwP16
set_option linter.unusedVariables false
namespace Go.Vw
open Go.RowKit Dat
def e_q (ss:List Str):List UInt8:=ss.flatMap (fun s=>47::s.b)
inductive g_Z (d:d_) (b:List UInt8):Nat→Nat→List Str→Nat→Nat→Prop
 | nil (i p:Nat):g_Z d b i p [] i p
 | cons {i p i' p' k q:Nat} {s:Str} {ss:List Str} (h:k_E d b i p s k q) (hr:g_Z d b k q ss i' p'):g_Z d b i p (s::ss) i' p'
structure o_o (d:d_) (b:List UInt8) (path:Str) (i p:Nat) (e:k_) (ss:List Str) (i' p':Nat):Prop where
 path:e.path.b=path.b++e_q ss
 good : ∀ s∈ss,c_Q s
 rule:e.rule=i'
 start:e.start=p'
 end_:e.end_=((rdW d.rules b i' p').2.1:Nat)
 reach:g_Z d b i p ss i' p'
 len:ss.length+i'≤i
 hi:i'<d.rules.length
 hp:p'≤b.length
 ok:(rdW d.rules b i' p').2.2=0
section
variable {d:d_} {b:List UInt8}
theorem h_0 {f:Int→Nat→Str→List k_} {en:Int→Nat→Nat} {r:e_} {path:Str} {x:k_} : ∀ (ks:List Int) (j pos:Nat),x∈ixL f en r path ks j pos → ∃ m,∃ hm:m<ks.length,x∈f ks[m] (b_p en ks pos m) (b_9 r path<|j+m)
 | [],_,_,h=>by simp [ixL] at h
 | k::ks,j,pos,h=>by
  unfold ixL at h
  rcases List.mem_append.1 h with h | h
  ·exact ⟨0,by simp,h⟩
  ·obtain ⟨m,hm,h⟩:=h_0 ks (j+1) (en k pos) h;refine ⟨m+1,by simpa using hm,?_⟩
   rw [f_i]
   rw [show j+(m+1)=j+1+m by omega]
   exact h
theorem o_p (hv:a_1 d=true) (hd:SmD d) (hb:b.length≤400) : ∀ (i:Nat),i<d.rules.length → ∀ (at_:Nat) (path:Str) (e:k_),at_≤b.length→(rdW d.rules b i at_).2.2=0→e∈ixW d.rules b i at_ path → ∃ ss i' p',o_o d b path i at_ e ss i' p':=by
 intro i
 induction i using Nat.strongRecOn with
 | _ i ih =>
  intro hi at_ path x ha hok hx;obtain ⟨ks,e,h⟩:=c_w hv hi ha hok
  rw [d_l hv hi h path] at hx
  rcases List.mem_cons.1 hx with rfl | hx
  ·exact ⟨[],i,at_,by simp [e_q],fun _ h=>by simp at h,rfl,rfl,rfl,.nil _ _,by simp,hi,ha,hok⟩
  ·obtain ⟨m,hm,hx⟩:=h_0 _ _ _ hx;have hkr:=(a_P hv hi).kids _ (h.kids _<|gE_ hm);have hP:=e_p h.ch m hm
   rw [Nat.zero_add] at hx
   obtain ⟨ss,i',p',L⟩:=ih ks[m].toNat (by omega) (by omega) _ _ x hP.1 hP.2 hx;obtain ⟨S,G⟩:=o_n hv hd hb hi ha hok h hm;refine ⟨a_m d.rules[i] m::ss,i',p',?_,?_,L.rule,L.start,L.end_,.cons S L.reach,?_,L.hi,L.hp,L.ok⟩
   ·rw [L.path];simp [b_9,e_q]
   ·intro s hs
    rcases List.mem_cons.1 hs with rfl | hs
    ·exact G
    ·exact L.good s hs
   ·have:=L.len;simp;omega
theorem k_F : ∀ (ss:List Str),(∀ s∈ss,c_Q s)→(e_q ss).length≤22 * ss.length
 | [],_=>by simp [e_q]
 | s::ss,h=>by
  have:=k_F ss<|fun s hs=>h s<|mT_ _ hs;have:=(h s mS_).len
  simp [e_q] at *;omega
end
section
variable {d:d_} {b:List UInt8}
theorem indexP_len':(b_t d b).length≤10000:=by
 unfold b_t
 split
 ·rename_i h
  obtain ⟨hv,hb,hi,_,hok,_⟩:=e_n h;exact h_d hv hb hi _ (Nat.zero_le _) hok
 ·simp
end
end Go.Vw
