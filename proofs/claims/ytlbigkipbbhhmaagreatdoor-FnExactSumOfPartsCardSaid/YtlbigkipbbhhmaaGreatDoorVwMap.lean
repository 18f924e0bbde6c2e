import Derived.Test.YtlbigkipbbhhmaaGreatDoorVwGen6
import Derived.DeepKeys4
namespace Go.Vw
open Go.RowKit Dat
section
variable {α : Type} {kv : α → Value} {ok : α → Prop} {w w' : World} {g : Nat} {f : α → Bool}
variable {X : Nat → Prop} {P : Program} {N : Nat} {e : Env} {dst : Option Tmp} {ty : TypeId} {p : String} {aft : Array Edge} {gd : Option (Nat × Bool)} {x y z : Operand} {T : Nat} {k : α}
end
theorem nm0 {k : Nat} : k ∉ ([] : List Nat) := by simp
theorem rd_sliceT {X : Nat → Prop} {P : Program} {N : Nat} {e : Env} {w : World} {dst : Option Tmp} {ty : TypeId} {p : String} {aft : Array Edge} {gd : Option (Nat × Bool)} {x : Operand} {T : Nat} {s t : Str} {a b : Int} {lo hi : Option Operand} (hT : P.underlying T = some .string) (hx : ev e x = some s.v)
  (hlo : evo e lo 0 a) (hhi : evo e hi s.b.length b) (hs : s.b.length ≤ LEN) (hm : slcT s a b = some t) : Rd X P N ⟨dst, .slice T x lo hi none, ty, p, aft, gd⟩ e w t.v := by
 unfold slcT at hm
 obtain ⟨m, hm1, rfl⟩ := Option.map_eq_some_iff.1 hm
 obtain ⟨g1, g2, g3, rfl⟩ := slcS hm1
 have := LEN_le
 intro act ha w' _
 have hsz : (⟨s.b.toArray⟩ : ByteArray).size = s.b.length := by show s.b.toArray.size = _; simp
 have hb : ∀ code, (Instr.sliceBound (vI b) s.b.length code).run P w' = .ok b.toNat w' := fun code => run_sliceBound w' .i64 b s.b.length code (by omega) (by omega)
 have hal : ∀ code, (Instr.sliceBound (vI a) b.toNat code).run P w' = .ok a.toNat w' := fun code => run_sliceBound w' .i64 a b.toNat code g1 (by omega)
 have hbs : (Instr.sliceBounds false s.b.length s.b.length (lo.map act.eval) (hi.map act.eval) none).run P w' = .ok (a.toNat, b.toNat, s.b.length) w' := by
  cases lo with
  | none =>
   obtain rfl : a = 0 := hlo
   cases hi with
   | none =>
    obtain rfl : b = (s.b.length : Int) := hhi
    simp [Instr.sliceBounds]
   | some y => simp [Instr.sliceBounds, ha.ev hhi, hb]
  | some u =>
   cases hi with
   | none =>
    obtain rfl : b = (s.b.length : Int) := hhi
    have hal' : ∀ code, (Instr.sliceBound (vI a) s.b.length code).run P w' = .ok a.toNat w' := fun code => by simpa using hal code
    simp [Instr.sliceBounds, ha.ev hlo, hal']
   | some y => simp [Instr.sliceBounds, ha.ev hlo, ha.ev hhi, hb, hal]
 have he : (⟨s.b.toArray⟩ : ByteArray).extract a.toNat b.toNat = ⟨((s.b.take b.toNat).drop a.toNat).toArray⟩ := by
  apply ByteArray.ext
  rw [ByteArray.data_extract]
  simp [List.drop_take]
 have h1 : (Instr.sliceAt T s.v (lo.map act.eval) (hi.map act.eval) none).run P w' = .ok (.string ((⟨s.b.toArray⟩ : ByteArray).extract a.toNat b.toNat)) w' := by
  show (Instr.sliceAt T (.string ⟨s.b.toArray⟩) _ _ none).run P w' = _
  simp [Instr.sliceAt, run_underlying hT, Instr.slice, hsz, hbs]
 simp only [execOp, ha.ev hx, Option.map_none, Sem.run_bind, h1, Result.andThen_ok, he]
 rfl
end Go.Vw
