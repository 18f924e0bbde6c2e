import Derived.Test.YtfdcdeahjejlmaaGreatDoorVqGen4
import Derived.Laws.BytesString
set_option linter.unusedVariables false
namespace Go.Vw
open Go.RowKit Dat
theorem j_n {x : Int} (h : inI x) : x.toNat ≤ 9223372036854775807 := by unfold inI at h; omega
theorem j_o {k n : Nat} (h : k ≤ n) (hn : n ≤ 9223372036854775807) : inI (k : Int) := by unfold inI; omega
theorem h_e {k : Nat} {x : Int} (hk : k < x.toNat) (hc : decide ((k : Int) < x) = false) : False := by simp at hc; omega
theorem h_f {x : Int} (hc : decide ((x.toNat : Int) < x) = true) : False := by simp at hc; omega
theorem sn {e : Env} : sub e [] := trivial
theorem sc {e e' : Env} {k : Nat} {v : Value} (h : q_ e k = some v) (t : sub e e') : sub e ((k, v) :: e') := ⟨h, t⟩
theorem bcon {b : Bool} (h : b = true) (h' : b = false) : False := by rw [h] at h'; cases h'
theorem nmL {q : Nat → Prop} {A B : List Nat} (h : ∀ k, q k → k ∉ A ++ B) : ∀ k, q k → k ∉ A := fun k hk hm => h k hk (List.mem_append_left _ hm)
theorem nmR {q : Nat → Prop} {A B : List Nat} (h : ∀ k, q k → k ∉ A ++ B) : ∀ k, q k → k ∉ B := fun k hk hm => h k hk (List.mem_append_right _ hm)
theorem nnS {y : Int} {u : Unit} (h : nn y = some u) : 0 ≤ y := by
 unfold nn at h; split at h
 ·assumption
 ·cases h
theorem a_p {n : Nat} {l : List Value} (h : l.all (fun v => Nat.beq v.cells.size n) = true) : ∀ v ∈ l, v.cells.size = n := fun v hv => Nat.eq_of_beq_eq_true (List.all_eq_true.1 h v hv)
theorem o_P {x y : Int} (_ : inI x) : inI (a_P .i64 x y) := e_o _
theorem l_4 (f : BitVec IntKind.i64.bits → BitVec IntKind.i64.bits → BitVec IntKind.i64.bits) (x y : Int) : inI (b_f .i64 f x y) := e_o _
theorem M_.at0 {w : World} {b o : Nat} {cs : List Value} {v : Value} (h : M_ w b o cs) (hv : cs[0]? = some v) : w.cell? ⟨b, o, none⟩ = some v := h 0 v hv
theorem a_.mono {α : Type} [Dat α] {w : World} {B B' : Zone} {v : Value} {l : List α} (h : a_ w B v l) (hb : B ≤ B') : a_ w B' v l := a_.of (rep_mono h.rep hb)
theorem d_2 {α : Type} [Dat α] {w : World} {B : Zone} {cs : List Value} {l : List α} (h : rep w B cs l) : ∃ ao n c, cs = [.slice ao n c] ∧ a_ w B (.slice ao n c) l := by
 obtain ⟨ao, c, h1, h2⟩ := o_D h
 exact ⟨ao, _, c, h1, h2⟩
theorem o_Q {α : Type} [Dat α] {w : World} {B : Zone} {ao : Option Addr} {n c : Nat} {l : List α} (h : a_ w B (.slice ao n c) l) : rep w B [.slice ao n c] l := h.rep
theorem e_q {α : Type} [Dat α] {w : World} {S : List Nat} {ao : Option Addr} {n c : Nat} {l : List α} (h : b_ w S (.slice ao n c) l) : own w S [.slice ao n c] l := h.own
theorem fnE {P : Program} {i : Nat} {fn : Func} (h : P.funcs[i]? = some fn) : ∃ f, P.funcs[i]? = some f ∧ f.body = fn.body ∧ f.ntmps = fn.ntmps ∧ f.results = fn.results := ⟨fn, h, rfl, rfl, rfl⟩
theorem f_m {σ ρ : Type} {b : Nat} {D : σ → Act → World → Prop} {Qr : ρ → Exit → Act → World → Prop} {o : Out σ ρ} {r : ρ} {ex : Exit} {a : Act} {w : World} (he : o = .ret r) (h : Qr r ex a w) : QO b D Qr o ex a w := .inr ⟨r, he, h⟩
theorem j_p {P : Program} {N : Nat} {e : Env} {w : World} {fn : Func} {σ ρ : Type} {b : Nat} {D : σ → Act → World → Prop} {Rr : ρ → Value → World → Prop} {o : Out σ ρ} {r : ρ} (he : o = .ret r) (h : ∀ a, Sat N e a → v_ P fn (Rr r) a w) : ∀ a, Sat N e a → QO b D (fun r ex a w => ex = .ret ∧ v_ P fn (Rr r) a w) o .ret a w := fun a ha => f_m he ⟨rfl, h a ha⟩
theorem l_5 {w : World} : own w [] [.int .u8 0] (0 : UInt8) := ⟨rfl, _, rfl, rfl⟩
theorem a_F {σ ρ : Type} {b : Nat} {D : σ → Act → World → Prop} {Qr : ρ → Exit → Act → World → Prop} {o : Out σ ρ} {s : σ} {a : Act} {w : World} (he : o = .brk s) (h : D s a w) : QO b D Qr o (.exit b) a w := .inl ⟨rfl, s, he, h⟩
section
variable {P : Program} {N : Nat} {e : Env} {w : World} {fn : Func}
end
section
variable {X : Nat → Prop} {P : Program} {N : Nat} {e : Env} {w : World} {dst : Option Tmp} {ty : TypeId} {pos : String} {aft : Array Edge} {gd : Option (Nat × Bool)} {x y z : Operand} {T T' E : Nat}
theorem b_R {s t u : Str} (h1 : ev e x = some s.v) (h2 : ev e y = some t.v) (h : cat s t = some u) : Rd X P N ⟨dst, .binOp .add T x y T', ty, pos, aft, gd⟩ e w (Str.v u) := by
 obtain ⟨rfl, hl⟩ := catS h
 exact p_l h1 h2 hl
theorem l_6 : ∀ (l : List UInt8) (s : ByteArray), ((l.map byteI).foldl (fun r (n : Int) => r.push (UInt8.ofNat n.toNat)) s) = ⟨s.data ++ l.toArray⟩
 | [], s => by simp
 | c :: l, s => by
  rw [List.map_cons, List.foldl_cons, l_6 l]
  have h : UInt8.ofNat (byteI c).toNat = c := by unfold byteI; simp
  rw [h]
  simp [ByteArray.push]
theorem e_r {S D : Nat} {B : Zone} {n c : Nat} {ao : Option Addr} {l : List UInt8} (hS : P.underlying S = some (.slice E)) (hD : P.underlying D = some .string) (hE : P.underlying E = some (.int .u8)) (hs : ∀ w, (sizeOf E).run P w = .ok 1 w) (hx : ev e x = some (.slice ao n c)) (hr : a_ w B (.slice ao n c) l) :
  Rd noX P N ⟨dst, .convert S D x, ty, pos, aft, gd⟩ e w (Str.v ⟨l⟩) := fun a ha w' hb => by
 obtain ⟨ao', c', h0, h1, h2, h3, h4⟩ := hr
 cases h0
 have hrun : (Conv.bytesToString (.slice ao l.length c)).run P w' = .ok (Str.v ⟨l⟩) w' := by
  cases ao with
  | none =>
   obtain rfl := h3 rfl
   rfl
  | some p =>
   obtain ⟨g1, g2, g3⟩ := h4 p rfl
   have hc : ∀ (j : Nat) v, ((l.map byteI).map (Value.int .u8))[j]? = some v → w'.cell? (p.add j) = some v := fun j v hv => by
    rw [List.getElem?_map, List.getElem?_map] at hv
    cases hj : l[j]? with
    | none => rw [hj] at hv; cases hv
    | some x =>
     rw [hj] at hv
     obtain rfl := Option.some.inj hv
     obtain ⟨cs, k1, k2⟩ := g3 j x hj
     obtain rfl := h_a k2
     have hne : l ≠ [] := by intro h; rw [h] at hj; cases hj
     have k3 := k1 0 _ rfl
     have hp : p.add j = ⟨p.block, p.off + j * sz UInt8 + 0, none⟩ := by
      have e1 : sz UInt8 = 1 := rfl
      cases p with
      | mk b o sp =>
       obtain rfl : sp = none := g1 hne
       rw [Addr.add_lit, e1]; simp
     rw [hp]
     exact (World.cell?_of_block (w := w) (hb.block _ (World.block_lt_of_cell? w _ k3) (fun h => h))).trans k3
   have hl := run_loadCells_list (P := P) w' p ((l.map byteI).map (Value.int .u8)) hc
   rw [List.length_map, List.length_map] at hl
   rw [run_bytesToString w' p l.length c (l.map byteI) hl, l_6]
   simp [Str.v]
 simp only [execOp, ha.ev hx]
 rw [Sem.run_bind, run_convert_bytes_string w' S D E ao l.length c hS hE hD, hrun]
 rfl
end
def a_k (T : Nat) (w : World) (S : List Nat) (v : Value) : Option (Int × Int) → Prop
 | none => v = .nilIface ∧ S = []
 | some (p, c) => ∃ b, v = .iface T (.pointer (some ⟨b, 0, none⟩)) ∧ S = [b] ∧ Blk w b [vI p, vI c] ∧ inI p ∧ inI c
section
variable {T : Nat} {S : List Nat} {w w' : World} {v : Value} {o : Option (Int × Int)}
theorem d_s : a_k T w [] .nilIface none := ⟨rfl, rfl⟩
theorem o_R {g : Nat} {p c : Int} (h : Blk w g [vI p, vI c]) (hp : inI p) (hc : inI c) : a_k T w [g] (.iface T (.pointer (some ⟨g, 0, none⟩))) (some (p, c)) := ⟨g, rfl, rfl, h, hp, hc⟩
theorem o_S {g : Nat} {off : Nat} {p c : Int} (h : Blk w g [vI p, vI c]) (hp : inI p) (hc : inI c) (h0 : off = 0) : a_k T w [g] (.iface T (.pointer (some ⟨g, off, none⟩))) (some (p, c)) := by subst h0; exact o_R h hp hc
theorem a_k.chg {X : Nat → Prop} (h : a_k T w S v o) (hc : Chg X w w') (hx : ∀ k ∈ S, ¬ X k) : a_k T w' S v o := by
 cases o with
 | none => exact h
 | some pc => obtain ⟨b, h1, rfl, h3, h4⟩ := h; exact ⟨b, h1, rfl, h3.chg hc (hx b (List.mem_singleton.2 rfl)), h4⟩
theorem a_k.ext (h : a_k T w S v o) (hb : Below w.heap.size w w') : a_k T w' S v o := h.chg (Vw.Below.chg hb (fun _ => False)) (fun _ _ h => h)
theorem a_k.lt (h : a_k T w S v o) : ∀ k ∈ S, k < w.heap.size := by
 cases o with
 | none => obtain ⟨_, rfl⟩ := h; exact all_nil
 | some pc => obtain ⟨b, h1, rfl, h3, h4⟩ := h; exact f_ h3.lt
variable {X : Nat → Prop} {P : Program} {N : Nat} {e : Env} {dst : Option Tmp} {ty : TypeId} {pos : String} {aft : Array Edge} {gd : Option (Nat × Bool)} {x y : Operand} {T1 T2 : Nat}
theorem chgIn {g : Nat} {M : List Nat} {w w' : World} (hm : g ∈ M) (h : Chg (· = g) w w') : Chg (· ∈ M) w w' := h.mono fun _ _ hk => hk ▸ hm
theorem b_S {g n : Nat} {M : List Nat} {w w' : World} (hm : n ≤ g) (h : Chg (· = g) w w') : Chg (fun k => k ∈ M ∨ n ≤ k) w w' := h.mono fun _ _ hk => .inr (hk ▸ hm)
theorem d_6 {k n : Nat} {M : List Nat} (h : k ∉ M) (hl : k < n) : ¬ (k ∈ M ∨ n ≤ k) := fun h' => h'.elim h (fun h2 => absurd hl (Nat.not_lt.2 h2))
theorem A_ {X : Nat → Prop} {w w' : World} (h : Below w.heap.size w w') : Chg X w w' := Vw.Below.chg h X
theorem o_T (d : Nat) {D : TypeDesc} (hT : P.underlying T1 = some D) (hD : (match D with | .interface _ => true | _ => false) = true) (h : a_k T w S v o) (w1 : World) : (Op.equalIn (d + 1) T1 v .nilIface).run P w1 = .ok o.isNone w1 := by
 cases D <;> simp at hD
 cases o with
 | none => obtain ⟨rfl, _⟩ := h; simp [Op.equalIn, run_underlying hT]
 | some pc => obtain ⟨p, c⟩ := pc; obtain ⟨b, rfl, _⟩ := h; simp [Op.equalIn, run_underlying hT]
theorem o_U {op : BinOp} {u : Value} (w1 : World) : (eqGuard op T1 x (.const .nilIface) u .nilIface).run P w1 = .ok () w1 := by
 unfold eqGuard
 cases u <;> cases op <;> simp
theorem d_7 {D : TypeDesc} (hT : P.underlying T1 = some D) (hD : (match D with | .interface _ => true | _ => false) = true) (hx : ev e x = some v) (h : a_k T w S v o) : Rd X P N ⟨dst, .binOp .neq T1 x (.const .nilIface) T2, ty, pos, aft, gd⟩ e w (vB o.isSome) :=
 a_Z (a2 := .nilIface) hx rfl fun w1 => by
  have h1 := o_T 9999 hT hD h w1
  have h0 : (binOp .neq T1 v .nilIface) = (do pure (.bool (!(← Op.equal T1 v .nilIface))) : Sem Value) := by
   cases o with
   | none => obtain ⟨rfl, _⟩ := h; rfl
   | some pc => obtain ⟨p, c⟩ := pc; obtain ⟨b, rfl, _⟩ := h; rfl
  rw [Sem.run_bind, o_U, h0]
  cases o <;> simp [Op.equal, Op.maxDepth, h1]
end
def dec (s : Str) (pos : Nat) : Int × Nat := ((Utf8.decode ⟨s.b.toArray⟩ pos).1, (Utf8.decode ⟨s.b.toArray⟩ pos).2)
def b_B (w : World) (g : Nat) (s : Str) (pos : Nat) : Prop := w.heap[g]? = some (.stringIter ⟨s.b.toArray⟩ pos)
section
variable {w w' : World} {g : Nat} {s : Str} {pos : Nat}
theorem b_B.lt (h : b_B w g s pos) : g < w.heap.size := (Array.getElem?_eq_some_iff.1 h).1
theorem b_B.ext (h : b_B w g s pos) (hb : Below w.heap.size w w') : b_B w' g s pos := (hb.block g h.lt).trans h
variable {P : Program} {N : Nat} {e : Env} {dst : Option Tmp} {ty : TypeId} {p : String} {aft : Array Edge} {gd : Option (Nat × Bool)} {x : Operand} {T : Nat}
theorem o_V (hT : P.underlying T = some .string) (hx : ev e x = some s.v) : Ef P N ⟨dst, .range T x, ty, p, aft, gd⟩ e w (fun v w' => v = .pointer (some ⟨w.heap.size, 0, none⟩) ∧ Below w.heap.size w w' ∧ b_B w' w.heap.size s 0) :=
 c_Z fun a ha => ⟨_, w.alloc (.stringIter ⟨s.b.toArray⟩ 0), by simp [execOp, Instr.range, ha.ev hx, run_underlying hT], rfl, a_B w _, heap_alloc_new w _⟩
theorem o_W (hx : ev e x = some (.pointer (some ⟨g, 0, none⟩))) (h : b_B w g s pos) (hp : pos < s.b.length) : Ef P N ⟨dst, .next x true, ty, p, aft, gd⟩ e w (fun v w' => v = .tuple #[.bool true, vI (pos : Int), .int .i32 (dec s pos).1] ∧ b_B w' g s (pos + (dec s pos).2) ∧ Chg (· ∈ [g]) w w') := by
 have hg : (getObj g).run P w = .ok (.stringIter ⟨s.b.toArray⟩ pos) w := by simp [getObj, Sem.run, show w.heap[g]? = _ from h]
 have hs : ∀ o, (setObj g o).run P w = .ok () { w with heap := w.heap.setIfInBounds g o } := fun o => by simp [setObj, Sem.run, show w.heap[g]? = _ from h]
 have hsz : (⟨s.b.toArray⟩ : ByteArray).size = s.b.length := by show s.b.toArray.size = _; simp
 refine c_Z fun a ha => ⟨_, { w with heap := w.heap.setIfInBounds g (.stringIter ⟨s.b.toArray⟩ (pos + (dec s pos).2)) }, ?_, rfl, ?_, ?_⟩
 ·simp [execOp, Instr.next, ha.ev hx, hg, hsz, hp, hs, goInt, dec]
 ·simp [b_B, h.lt]
 ·exact ⟨rfl, rfl, rfl, by simp, fun k hk hx => by
   have : g ≠ k := fun h => hx (List.mem_singleton.2 h.symm)
   simp [Array.getElem?_setIfInBounds_ne this]⟩
theorem o_X (hx : ev e x = some (.pointer (some ⟨g, 0, none⟩))) (h : b_B w g s pos) (hp : ¬ pos < s.b.length) : Ef P N ⟨dst, .next x true, ty, p, aft, gd⟩ e w (fun v w' => v = .tuple #[.bool false] ∧ Below w.heap.size w w') := by
 have hg : (getObj g).run P w = .ok (.stringIter ⟨s.b.toArray⟩ pos) w := by simp [getObj, Sem.run, show w.heap[g]? = _ from h]
 have hsz : (⟨s.b.toArray⟩ : ByteArray).size = s.b.length := by show s.b.toArray.size = _; simp
 refine c_Z fun a ha => ⟨_, w, ?_, rfl, Below.refl _ _⟩
 simp [execOp, Instr.next, ha.ev hx, hg, hsz, hp]
end
section
variable {A : List Nat} {B C Z : Zone} {i j k l m n : Nat}
theorem k_ (h : ∀ k ∈ A, ¬ B k) : ∀ k, B k → k ∉ A := fun k hk ha => h k ha hk
theorem r_ (h : B ≤ bl n) : ∀ k, n ≤ k → ¬ B k := fun k hk hb => absurd (h k hb) (Nat.not_lt.2 hk)
theorem c_a (h : ∀ k, n ≤ k → ¬ B k) (h' : j ≤ n) : ∀ k, n ≤ k → ¬ zn B i j k := fun k hk hz => hz.elim (h k hk) fun g => absurd g.2 (Nat.not_lt.2 (Nat.le_trans h' hk))
theorem nznL (h : ∀ k ∈ A, ¬ B k) (h1 : ∀ k ∈ A, k < m) (h2 : m ≤ i) : ∀ k ∈ A, ¬ zn B i j k := fun k hk hz => hz.elim (h k hk) fun g => absurd (h1 k hk) (Nat.not_lt.2 (Nat.le_trans h2 g.1))
theorem nbl (h : ∀ k ∈ A, n ≤ k) : ∀ k ∈ A, ¬ bl n k := fun k hk hz => absurd hz (Nat.not_lt.2 (h k hk))
theorem zin (h1 : ∀ k ∈ A, i ≤ k) (h2 : ∀ k ∈ A, k < j) : ∀ k ∈ A, zn B i j k := fun k hk => .inr ⟨h1 k hk, h2 k hk⟩
theorem zall (h : ∀ k ∈ A, B k) (h' : B ≤ C) : ∀ k ∈ A, C k := fun k hk => h' k (h k hk)
theorem znI (h : k ≤ i) (h' : j ≤ l) : ∀ q, i ≤ q → q < j → zn B k l q := fun _ h1 h2 => .inr ⟨Nat.le_trans h h1, Nat.lt_of_lt_of_le h2 h'⟩
theorem zns (h : B ≤ Z) (h' : ∀ q, i ≤ q → q < j → Z q) : zn B i j ≤ Z := fun q hq => hq.elim (h q) fun g => h' q g.1 g.2
theorem zap' (h : B ≤ C) (hk : B k) : C k := h k hk
end
structure Ag (B : Zone) (w w' : World) : Prop where
 eq : ∀ k, B k → k < w.heap.size → w'.heap[k]? = w.heap[k]?
 size : w.heap.size ≤ w'.heap.size
theorem _root_.Go.RowKit.Below.ag {w w' : World} (h : Below w.heap.size w w') (B : Zone) : Ag B w w' := ⟨fun k _ hk => h.block k hk, h.size⟩
theorem Chg.agc {X : Nat → Prop} {w w' : World} (h : Chg X w w') (B : Zone) (hx : ∀ k, B k → ¬ X k) : Ag B w w' := ⟨fun k hk hl => h.block k hl (hx k hk), h.size⟩
theorem Ag.e {B : Zone} {w w' w2 : World} (h : Ag B w w') (h' : Below w'.heap.size w' w2) : Ag B w w2 := ⟨fun k hk hl => (h'.block k (Nat.lt_of_lt_of_le hl h.size)).trans (h.eq k hk hl), Nat.le_trans h.size h'.size⟩
theorem Ag.c {B : Zone} {X : Nat → Prop} {w w' w2 : World} (h : Ag B w w') (h' : Chg X w' w2) (hx : ∀ k, B k → ¬ X k) : Ag B w w2 := ⟨fun k hk hl => (h'.block k (Nat.lt_of_lt_of_le hl h.size) (hx k hk)).trans (h.eq k hk hl), Nat.le_trans h.size h'.size⟩
theorem a_.g {α : Type} [Dat α] {w w' : World} {B : Zone} {v : Value} {l : List α} (h : a_ w B v l) (a : Ag B w w') : a_ w' B v l := a_.of (rep_eq h.rep a.eq)
end Go.Vw
