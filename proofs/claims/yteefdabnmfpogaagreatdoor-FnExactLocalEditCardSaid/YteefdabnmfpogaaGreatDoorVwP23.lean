import Derived.Test.YteefdabnmfpogaaGreatDoorVwP24
namespace Go.Vw
open Go.RowKit Dat
section
variable {d : Desc} {b : List UInt8}
end
theorem forN_nextV {σ ρ : Type} {body : Nat → σ → Option (Out σ ρ)} (f : Nat → σ) {n : Nat} {s : σ} (h0 : s = f 0) (h : ∀ j, j < n → body j (f j) = some (.next (f (j + 1)))) : forN body n 0 s = some (.inl (f n)) := by
 subst h0; exact forN_next f h
def markB (n : Nat) (k : Int) : List UInt8 := (List.range n).map (fun (i : Nat) => mkB (k + i))
theorem held_bytes {m : Nat} {k : Int} (h0 : 0 ≤ k) (hk : k + m ≤ 1152921504606846976) : M_laws_heldByteS (markB m k) k = some (k + m) := by
 unfold M_laws_heldByteS
 rw [forN_nextV (fun j => k + (j : Int)) (n := (markB m k).length) (by simp) (fun j hj => by
  rw [idx_get hj]
  unfold markB at hj ⊢
  simp at hj
  simp only [bd_some, List.getElem_map, List.getElem_range]
  rw [iadd_of (x := k + (j : Int)) (by omega) (by omega)]
  simp only [bne_self_eq_false, Bool.false_eq_true, if_false]
  congr 2
  omega)]
 unfold markB
 simp
end Go.Vw
