import Derived.Test.YtlbigkipbbhhmaaGreatDoorVwP15
namespace Go.Vw
open Go.RowKit Dat
section
variable {d : Desc} {b : List UInt8}
def posN (en : Int → Nat → Nat) (ks : List Int) (p : Nat) : Nat → Nat
 | 0 => p
 | m + 1 => en (ks.getD m 0) (posN en ks p m)
theorem posN_cons (en : Int → Nat → Nat) (k : Int) (ks : List Int) (p : Nat) : ∀ m, posN en (k :: ks) p (m + 1) = posN en ks (en k p) m
 | 0 => rfl
 | m + 1 => by
  rw [posN, posN_cons en k ks p m]; rfl
theorem chain_pos {rd : Int → Nat → RR} {L : Nat} : ∀ {ks : List Int} {p : Nat} {vs : List Val} {e : Nat}, chain rd L ks p vs e → ∀ m (hm : m < ks.length), posN (fun k p => (rd k p).2.1) ks p m ≤ L ∧ (rd ks[m] (posN (fun k p => (rd k p).2.1) ks p m)).2.2 = 0
 | k :: ks, p, vs, e, h, 0, _ => by
  obtain ⟨h1, h2, _⟩ := h
  exact ⟨h1, h2⟩
 | k :: ks, p, vs, e, h, m + 1, hm => by
  obtain ⟨_, _, ws, _, h3⟩ := h
  have := chain_pos h3 m (by simpa using hm)
  rw [posN_cons]
  exact this
end
end Go.Vw
