
import Derived.Test.YtajhmimbhplkfaaGreatDoorVwP16
set_option linter.unusedVariables false
namespace Go.Vw
open Go.RowKit Dat
section
variable {d:f_} {b:List UInt8}
theorem l_w {f:Int→Nat→Str→List K_} {en:Int→Nat→Nat} {r:e_} {path:Str} {x:K_} : ∀ (ks:List Int) (j pos:Nat),x∈ixL f en r path ks j pos → ∃ m,∃ hm:m<ks.length,x∈f ks[m] (e_r en ks pos m) (d_t r path<|j+m)
 | [],_,_,h=>by simp [ixL] at h
 | k::ks,j,pos,h=>by
  unfold ixL at h
  rcases List.mem_append.1 h with h | h
  ·exact ⟨0,by simp,h⟩
  ·obtain ⟨m,hm,h⟩:=l_w ks (j+1) (en k pos) h;refine ⟨m+1,by simpa using hm,?_⟩
   rw [j_U]
   rw [show j+(m+1)=j+1+m by omega]
   exact h
theorem p_6 (hv:S_ d=true) (hb:b.length≤400) {i p:Nat} (hi:i<d.rules.length) (hp:p≤b.length):a_S d i b p=b_A (rdW d.rules b i p):=by
 unfold a_S
 rw [iP_]
 ·simp
 ·unfold okV b_K
  rw [hv,dT_ (show (0:Int)≤(i:Int) by omega),dT_ (show (i:Int)<(d.rules.length:Int) by omega),dT_ (show (0:Int)≤(p:Int) by omega),dT_ (show (p:Int)≤(b.length:Int) by omega),dT_ (show (b.length:Int)≤400 by omega)]
  rfl
end
section
variable {d:f_} {b:List UInt8}
theorem indexP_len':(b_2 d b).length≤10000:=by
 unfold b_2
 split
 ·rename_i h
  obtain ⟨hv,hb,hi,_,hok,_⟩:=i_e h;exact m_m hv hb hi _ (Nat.zero_le _) hok
 ·simp
end
end Go.Vw
