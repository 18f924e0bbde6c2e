import Derived.Test.YtfdcdeahjejlmaaGreatDoorVqMem
set_option linter.unusedVariables false
namespace Go.Vw
open Go.RowKit
def c_ (x y : Int) : Int := IntKind.i64.wrap (x + y)
def y_ (x y : Int) : Int := IntKind.i64.wrap (x - y)
def b_6 (x y : Int) : Int := IntKind.i64.wrap (x * y)
def c_b (x y : Int) : Int := IntKind.i64.wrap (x.tdiv y)
def a_C (x y : Int) : Int := x.tmod y
def e_t (x : Int) : Int := IntKind.i64.wrap (0 - x)
def b_f (k : IntKind) (f : BitVec k.bits → BitVec k.bits → BitVec k.bits) (x y : Int) : Int := k.wrap (f (BitVec.ofInt k.bits x) (BitVec.ofInt k.bits y)).toNat
def a_P (k : IntKind) (x y : Int) : Int := k.wrap (x * 2 ^ (min y.toNat k.bits))
def b_T (k : IntKind) (x y : Int) : Int := x.fdiv (2 ^ (min y.toNat k.bits))
section
variable {X : Nat → Prop} {P : Program} {N : Nat} {e : Env} {w : World} {dst : Option Tmp} {ty : TypeId} {pos : String} {aft : Array Edge} {gd : Option (Nat × Bool)} {x y z : Operand}
theorem h_j {v : Value} (h : ev e x = some v) : Rd X P N ⟨dst, .move x, ty, pos, aft, gd⟩ e w v := fun a ha w' _ => by
 simp [execOp, ha.ev h]
theorem h_k {v : Value} (h : ev e x = some v) : Rd X P N ⟨dst, .assign x, ty, pos, aft, gd⟩ e w v := fun a ha w' _ => by
 simp [execOp, ha.ev h]
theorem c_c {p : Addr} (h : ev e x = some (.pointer (some p))) : Rd X P N ⟨dst, .nilCheck x, ty, pos, aft, gd⟩ e w (.pointer (some p)) := fun a ha w' _ => by
 simp [execOp, ha.ev h]
theorem p_f {v : Value} {y z : Operand} (h : ev e x = some (.bool true)) (hy : ev e y = some v) : Rd X P N ⟨dst, .pick x y z, ty, pos, aft, gd⟩ e w v := fun a ha w' _ => by
 simp [execOp, ha.ev h, ha.ev hy, asBool]
theorem p_g {v : Value} {y z : Operand} (h : ev e x = some (.bool false)) (hz : ev e z = some v) : Rd X P N ⟨dst, .pick x y z, ty, pos, aft, gd⟩ e w v := fun a ha w' _ => by
 simp [execOp, ha.ev h, ha.ev hz, asBool]
def Fld (P : Program) (T k off : Nat) : Prop := ∃ fs f, P.underlying T = some (.struct fs) ∧ fs[k]? = some f ∧ f.offset = off ∧ ∃ n, (∀ w, (sizeOf f.type).run P w = .ok n w) ∧ n ≠ 0
theorem j_w {T k off g o : Nat} (hf : Fld P T k off) (h : ev e x = some (.pointer (some ⟨g, o, none⟩))) : Rd X P N ⟨dst, .fieldAddr T x k, ty, pos, aft, gd⟩ e w (.pointer (some ⟨g, o + off, none⟩)) := fun a ha w' _ => by
 obtain ⟨fs, f, h1, h2, h3, n, h4, h5⟩ := hf
 simp [execOp, ha.ev h, Instr.fieldAt, Instr.sureAddr, run_underlying h1, h2, fieldPlace, h4, h5, h3, Addr.add_lit]
theorem j_x {T g o : Nat} {v : Value} (hT : ∀ w, (isAgg T).run P w = .ok false w) (h : ev e x = some (.pointer (some ⟨g, o, none⟩))) (hX : ¬ X g) (hc : w.cell? ⟨g, o, none⟩ = some v) : Rd X P N ⟨dst, .load T x, ty, pos, aft, gd⟩ e w v := fun a ha w' hb => by
 have hc' : w'.cell? ⟨g, o, none⟩ = some v := (World.cell?_of_block (w := w) (a := ⟨g, o, none⟩) (hb.block g (World.block_lt_of_cell? w _ hc) hX)).trans hc
 simp [execOp, ha.ev h, Instr.loadAt, Instr.sureAddr, loadVar, hT, hc']
theorem j_y {T g o n : Nat} {vs : List Value} (hT : ∀ w, (isAgg T).run P w = .ok true w) (hs : ∀ w, (sizeOf T).run P w = .ok n w) (h : ev e x = some (.pointer (some ⟨g, o, none⟩))) (hl : vs.length = n) (hX : ¬ X g) (hc : M_ w g o vs) : Rd X P N ⟨dst, .load T x, ty, pos, aft, gd⟩ e w (.agg vs.toArray) := fun a ha w' hb => by
 have hc' : ∀ j v, vs[j]? = some v → w'.cell? ((⟨g, o, none⟩ : Addr).add j) = some v := fun j v hv => by
  rw [Addr.add_lit]
  have := hc j v hv
  exact (World.cell?_of_block (w := w) (a := ⟨g, o + j, none⟩) (hb.block g (World.block_lt_of_cell? w _ this) hX)).trans this
 have hr := run_loadCells_list (P := P) (w := w') ⟨g, o, none⟩ vs hc'
 subst hl
 simp [execOp, ha.ev h, Instr.loadAt, Instr.sureAddr, loadVar, hT, hs, hr]
theorem h_l {T E b o len cap sz : Nat} {k : IntKind} {i : Int} (hT : P.underlying T = some (.slice E)) (hs : ∀ w, (sizeOf E).run P w = .ok sz w) (h : ev e x = some (.slice (some ⟨b, o, none⟩) len cap)) (hi : ev e y = some (.int k i)) (h0 : 0 ≤ i) (h1 : i < len) :
  Rd X P N ⟨dst, .indexAddr T x y, ty, pos, aft, gd⟩ e w (.pointer (some ⟨b, o + i.toNat * sz, none⟩)) := fun a ha w' _ => by
 simp [execOp, ha.ev h, ha.ev hi, Instr.indexAt, asIntOf, run_underlying hT, hs, h0, h1, Addr.add_lit]
theorem h_m {T : Nat} {s : Str} {k : IntKind} {i : Int} {c : UInt8} (hT : P.underlying T = some .string) (h : ev e x = some s.v) (hi : ev e y = some (.int k i)) (h0 : 0 ≤ i) (h1 : s.b[i.toNat]? = some c) :
  Rd X P N ⟨dst, .index T x y, ty, pos, aft, gd⟩ e w (vU (byteI c)) := fun a ha w' _ => by
 have : (⟨s.b.toArray⟩ : ByteArray)[i.toNat]? = some c := by
  have hlt := (List.getElem?_eq_some_iff.1 h1)
  obtain ⟨hlt, hv⟩ := hlt
  show (if h : i.toNat < s.b.toArray.size then some (s.b.toArray[i.toNat]) else none) = some c
  rw [dif_pos (by simpa using hlt)]
  simpa using hv
 simp [execOp, ha.ev h, ha.ev hi, Instr.index, asIntOf, run_underlying hT, h0, this]
theorem j_z {vs : Array Value} {i : Nat} {v : Value} (h : ev e x = some (.tuple vs)) (hv : vs[i]? = some v) : Rd X P N ⟨dst, .extract x i, ty, pos, aft, gd⟩ e w v := fun a ha w' _ => by
 simp [execOp, ha.ev h, Instr.extract, hv]
theorem p_h {T E : Nat} {ao : Option Addr} {len cap : Nat} {args : Array Operand} {tys : Array TypeId} (hT : P.underlying T = some (.slice E)) (h : ev e x = some (.slice ao len cap)) :
  Rd X P N ⟨dst, .call { callee := .builtin .len, args := #[x], argTypes := #[T] }, ty, pos, aft, gd⟩ e w (vI len) := fun a ha w' _ => by
 simp [execOp, resolve, invoke, builtin, Builtin.len_, ha.ev h, run_underlying hT, goInt]
theorem j_A {T : Nat} {s : Str} (hT : P.underlying T = some .string) (h : ev e x = some s.v) :
  Rd X P N ⟨dst, .call { callee := .builtin .len, args := #[x], argTypes := #[T] }, ty, pos, aft, gd⟩ e w (vI s.b.length) := fun a ha w' _ => by
 simp [execOp, resolve, invoke, builtin, Builtin.len_, ha.ev h, run_underlying hT, goInt]
 show ((s.b.toArray.size : Nat) : Int) = _
 simp
theorem a_Z {op : BinOp} {T T' : Nat} {a1 a2 v : Value} (h1 : ev e x = some a1) (h2 : ev e y = some a2) (hr : ∀ w, ((do eqGuard op T x y a1 a2; binOp op T a1 a2) : Sem Value).run P w = .ok v w) :
  Rd X P N ⟨dst, .binOp op T x y T', ty, pos, aft, gd⟩ e w v := fun a ha w' _ => by
 have := hr w'
 simp only [execOp, ha.ev h1, ha.ev h2]
 rw [Sem.run_bind, this]
 rfl
section
variable {T T' : Nat} {p q : Int} {k : IntKind}
theorem h_n (h1 : ev e x = some (vI p)) (h2 : ev e y = some (vI q)) : Rd X P N ⟨dst, .binOp .add T x y T', ty, pos, aft, gd⟩ e w (vI (c_ p q)) := a_Z h1 h2 fun w => by simp [eqGuard, binOp, Op.intArith, c_]
theorem j_B (h1 : ev e x = some (vI p)) (h2 : ev e y = some (vI q)) : Rd X P N ⟨dst, .binOp .sub T x y T', ty, pos, aft, gd⟩ e w (vI (y_ p q)) := a_Z h1 h2 fun w => by simp [eqGuard, binOp, Op.intArith, y_]
theorem h_o (h1 : ev e x = some (vI p)) (h2 : ev e y = some (vI q)) : Rd X P N ⟨dst, .binOp .mul T x y T', ty, pos, aft, gd⟩ e w (vI (b_6 p q)) := a_Z h1 h2 fun w => by simp [eqGuard, binOp, Op.intArith, b_6]
theorem l_e (h1 : ev e x = some (vI p)) (h2 : ev e y = some (vI q)) (h0 : q ≠ 0) : Rd X P N ⟨dst, .binOp .quo T x y T', ty, pos, aft, gd⟩ e w (vI (c_b p q)) := a_Z h1 h2 fun w => by simp [eqGuard, binOp, Op.intDiv, h0, c_b]
theorem f_u (h1 : ev e x = some (vI p)) (h2 : ev e y = some (vI q)) (h0 : q ≠ 0) : Rd X P N ⟨dst, .binOp .rem T x y T', ty, pos, aft, gd⟩ e w (vI (a_C p q)) := a_Z h1 h2 fun w => by simp [eqGuard, binOp, Op.intDiv, h0, a_C]
theorem j_C (h1 : ev e x = some (.int k p)) (h2 : ev e y = some (.int k q)) : Rd X P N ⟨dst, .binOp .or T x y T', ty, pos, aft, gd⟩ e w (.int k (b_f k (· ||| ·) p q)) := a_Z h1 h2 fun w => by simp [eqGuard, binOp, Op.intBits, b_f]
theorem f_v {k' : IntKind} (h1 : ev e x = some (.int k p)) (h2 : ev e y = some (.int k' q)) (h0 : 0 ≤ q) : Rd X P N ⟨dst, .binOp .shl T x y T', ty, pos, aft, gd⟩ e w (.int k (a_P k p q)) := a_Z h1 h2 fun w => by simp [eqGuard, binOp, Op.shift, Int.not_lt.2 h0, a_P]
theorem l_f {k' : IntKind} (h1 : ev e x = some (.int k p)) (h2 : ev e y = some (.int k' q)) (h0 : 0 ≤ q) : Rd X P N ⟨dst, .binOp .shr T x y T', ty, pos, aft, gd⟩ e w (.int k (b_T k p q)) := a_Z h1 h2 fun w => by simp [eqGuard, binOp, Op.shift, Int.not_lt.2 h0, b_T]
theorem j_D (h1 : ev e x = some (.int k p)) (h2 : ev e y = some (.int k q)) : Rd X P N ⟨dst, .binOp .eql T x y T', ty, pos, aft, gd⟩ e w (vB (p == q)) := a_Z h1 h2 fun w => by simp [eqGuard, binOp, Op.intCmp]
theorem j_E (h1 : ev e x = some (.int k p)) (h2 : ev e y = some (.int k q)) : Rd X P N ⟨dst, .binOp .neq T x y T', ty, pos, aft, gd⟩ e w (vB (p != q)) := a_Z h1 h2 fun w => by simp [eqGuard, binOp, Op.intCmp]
theorem j_F (h1 : ev e x = some (.int k p)) (h2 : ev e y = some (.int k q)) : Rd X P N ⟨dst, .binOp .lss T x y T', ty, pos, aft, gd⟩ e w (vB (decide (p < q))) := a_Z h1 h2 fun w => by simp [eqGuard, binOp, Op.intCmp]
theorem c_F (h1 : ev e x = some (.int k p)) (h2 : ev e y = some (.int k q)) : Rd X P N ⟨dst, .binOp .leq T x y T', ty, pos, aft, gd⟩ e w (vB (decide (p ≤ q))) := a_Z h1 h2 fun w => by simp [eqGuard, binOp, Op.intCmp]
theorem a_c (h1 : ev e x = some (.int k p)) (h2 : ev e y = some (.int k q)) : Rd X P N ⟨dst, .binOp .gtr T x y T', ty, pos, aft, gd⟩ e w (vB (decide (q < p))) := a_Z h1 h2 fun w => by simp [eqGuard, binOp, Op.intCmp]
theorem a_M (h1 : ev e x = some (.int k p)) (h2 : ev e y = some (.int k q)) : Rd X P N ⟨dst, .binOp .geq T x y T', ty, pos, aft, gd⟩ e w (vB (decide (q ≤ p))) := a_Z h1 h2 fun w => by simp [eqGuard, binOp, Op.intCmp]
end
section
variable {T T' : Nat} {p q : Bool}
theorem p_i (d : Nat) (hT : P.underlying T = some .bool) (w : World) : (Op.equalIn (d + 1) T (.bool p) (.bool q)).run P w = .ok (p == q) w := by
 simp [Op.equalIn, run_underlying hT]
theorem p_j (hT : P.underlying T = some .bool) (h1 : ev e x = some (vB p)) (h2 : ev e y = some (vB q)) : Rd X P N ⟨dst, .binOp .neq T x y T', ty, pos, aft, gd⟩ e w (vB (p != q)) := a_Z h1 h2 fun w => by simp [eqGuard, binOp, Op.equal, Op.maxDepth, p_i 9999 hT, bne]
theorem j_G (h1 : ev e x = some (vB p)) : Rd X P N ⟨dst, .unOp .not T x, ty, pos, aft, gd⟩ e w (vB (!p)) := fun a ha w' _ => by
 simp [execOp, ha.ev h1, Op.unary]
theorem rd_neg {p : Int} (h1 : ev e x = some (vI p)) : Rd X P N ⟨dst, .unOp .neg T x, ty, pos, aft, gd⟩ e w (vI (e_t p)) := fun a ha w' _ => by
 simp [execOp, ha.ev h1, Op.unary, Op.intArith, e_t]
end
theorem p_k (a b : List UInt8) : (⟨a.toArray⟩ : ByteArray) ++ ⟨b.toArray⟩ = ⟨(a ++ b).toArray⟩ := by
 apply ByteArray.ext
 rw [ByteArray.data_append]
 simp
section
variable {T T' : Nat} {s t : Str}
theorem e_u (h1 : ev e x = some s.v) (h2 : ev e y = some t.v) : Rd X P N ⟨dst, .binOp .eql T x y T', ty, pos, aft, gd⟩ e w (vB (s.b == t.b)) := a_Z h1 h2 fun w => by simp [eqGuard, binOp, Op.stringOp]
theorem h_p (h1 : ev e x = some s.v) (h2 : ev e y = some t.v) : Rd X P N ⟨dst, .binOp .neq T x y T', ty, pos, aft, gd⟩ e w (vB (s.b != t.b)) := a_Z h1 h2 fun w => by simp [eqGuard, binOp, Op.stringOp, bne]
theorem p_l (h1 : ev e x = some s.v) (h2 : ev e y = some t.v) (hl : s.b.length + t.b.length ≤ LEN) : Rd X P N ⟨dst, .binOp .add T x y T', ty, pos, aft, gd⟩ e w (Str.v ⟨s.b ++ t.b⟩) := a_Z h1 h2 fun w => by
 have h : ¬ ((s.b.length : Int) + (t.b.length : Int)) > 9223372036854775807 := by have := H_; omega
 have hm : IntKind.i64.max = 9223372036854775807 := by decide
 simp only [eqGuard, binOp, Op.stringOp]
 simp [ByteArray.size, hm, p_k]
 omega
end
theorem l_g {S D : Nat} {k k' : IntKind} {p : Int} {d : TypeDesc} (hS : P.underlying S = some d) (hD : P.underlying D = some (.int k')) (h : ev e x = some (.int k p)) : Rd X P N ⟨dst, .convert S D x, ty, pos, aft, gd⟩ e w (.int k' (k'.wrap p)) := fun a ha w' _ => by
 simp [execOp, ha.ev h, convert, run_underlying hS, run_underlying hD, Conv.intToInt]
theorem f_w {T : Nat} {v : Value} {d : TypeDesc} (hT : P.underlying T = some d) (hd : ∀ ms, d ≠ .interface ms) (h : ev e x = some v) : Rd X P N ⟨dst, .makeInterface T x, ty, pos, aft, gd⟩ e w (.iface T v) := fun a ha w' _ => by
 have : (Instr.makeInterface T v).run P w' = .ok (.iface T v) w' := by
  unfold Instr.makeInterface
  rw [Sem.run_bind, run_underlying hT]
  cases d <;> first | rfl | exact absurd rfl (hd _)
 simp [execOp, ha.ev h, this]
end
end Go.Vw
