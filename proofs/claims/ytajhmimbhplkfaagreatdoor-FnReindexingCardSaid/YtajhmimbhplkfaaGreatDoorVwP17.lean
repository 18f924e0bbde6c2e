
import Derived.Test.YtajhmimbhplkfaaGreatDoorVwP16
set_option linter.unusedVariables false
namespace Go.Vw
open Go.RowKit Dat
section
variable {d:d_} {b:List UInt8}
theorem j_1 {f:Int→Nat→Str→List e_} {en:Int→Nat→Nat} {r:g_} {path:Str} {x:e_} : ∀ (ks:List Int) (j pos:Nat),x∈ixL f en r path ks j pos → ∃ m,∃ hm:m<ks.length,x∈f ks[m] (d_E en ks pos m) (b_S r path<|j+m)
 | [],_,_,h=>by simp [ixL] at h
 | k::ks,j,pos,h=>by
  unfold ixL at h
  rcases List.mem_append.1 h with h | h
  ·exact ⟨0,by simp,h⟩
  ·obtain ⟨m,hm,h⟩:=j_1 ks (j+1) (en k pos) h;refine ⟨m+1,by simpa using hm,?_⟩
   rw [i_Z]
   rw [show j+(m+1)=j+1+m by omega]
   exact h
end
section
variable {d:d_} {b:List UInt8}
theorem indexP_len':(b_e d b).length≤10000:=by
 unfold b_e
 split
 ·rename_i h
  obtain ⟨hv,hb,hi,_,hok,_⟩:=g_W h;exact j_j hv hb hi _ (Nat.zero_le _) hok
 ·simp
end
end Go.Vw
