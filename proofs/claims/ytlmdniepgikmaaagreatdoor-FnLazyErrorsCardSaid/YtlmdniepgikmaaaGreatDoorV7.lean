
import Derived.Test.YtlmdniepgikmaaaGreatDoorV6
namespace Go.Vw
open Go.RowKit Dat
variable {d:f_}{b:Bt}
theorem q_Z:(b_8 d b).length<=10000:=by
 unfold b_8
 cases h:okF d b
 .simp
 .obtain ⟨hv,hb,hlt,hroot,hok,G,hrf⟩:=j_2 h
  simp only [iP_]
  exact n_G hv hb hlt ⟨[]⟩ (Nat.zero_le _) hok
end Go.Vw
