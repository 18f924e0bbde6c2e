import Derived.Test.YteefdabnmfpogaaGreatDoorVwP22
namespace Go.Vw
open Go.RowKit Dat
variable {d : Desc} {b : List UInt8}
theorem piece_len' (b : List UInt8) (p n : Nat) : (piece b p (p + n)).length ≤ n := by unfold piece; simp; omega
theorem bytesP_le (p : Nat) (n : Int) : (bytesP b p n).1.bytes.length + p ≤ (bytesP b p n).2.1 := by
 unfold bytesP
 split
 ·show 0 + p ≤ p; omega
 ·have := piece_len' b p n.toNat
  show (piece b p (p + n.toNat)).length + p ≤ p + n.toNat
  omega
section
variable {b' : List UInt8} {e : Nat}
end
end Go.Vw
