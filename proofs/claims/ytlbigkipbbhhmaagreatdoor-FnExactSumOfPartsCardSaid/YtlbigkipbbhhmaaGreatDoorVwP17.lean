import Derived.Test.YtlbigkipbbhhmaaGreatDoorVwP16
namespace Go.Vw
open Go.RowKit Dat
section
variable {d : Desc} {b : List UInt8}
theorem mem_ixL {f : Int → Nat → Str → List Entry} {en : Int → Nat → Nat} {r : Rule} {path : Str} {x : Entry} : ∀ (ks : List Int) (j pos : Nat), x ∈ ixL f en r path ks j pos → ∃ m, ∃ hm : m < ks.length, x ∈ f ks[m] (posN en ks pos m) (pathP r path (j + m))
 | [], _, _, h => by simp [ixL] at h
 | k :: ks, j, pos, h => by
  unfold ixL at h
  rcases List.mem_append.1 h with h | h
  ·exact ⟨0, by simp, h⟩
  ·obtain ⟨m, hm, h⟩ := mem_ixL ks (j + 1) (en k pos) h
   refine ⟨m + 1, by simpa using hm, ?_⟩
   rw [posN_cons]
   rw [show j + (m + 1) = j + 1 + m by omega]
   exact h
end
section
variable {d : Desc} {b : List UInt8}
end
end Go.Vw
