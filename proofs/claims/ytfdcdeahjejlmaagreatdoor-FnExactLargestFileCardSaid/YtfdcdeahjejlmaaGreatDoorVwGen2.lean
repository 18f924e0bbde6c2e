import Derived.Test.YtfdcdeahjejlmaaGreatDoorVwGen
import Derived.Laws.BytesString
namespace Go.Vw
open Go.RowKit Dat
theorem byteI_lt (c : UInt8) : byteI c < 256 := by have := c.toNat_lt; unfold byteI; omega
theorem byteI_nn (c : UInt8) : 0 ≤ byteI c := by unfold byteI; omega
def mkB (x : Int) : UInt8 := UInt8.ofNat (IntKind.u8.wrap x).toNat
theorem byteI_mkB (x : Int) : byteI (mkB x) = IntKind.u8.wrap x := by
 unfold byteI mkB
 have h : 0 ≤ IntKind.u8.wrap x ∧ IntKind.u8.wrap x < 256 := by rw [IntKind.wrap_u8]; omega
 rw [UInt8.toNat_ofNat']
 omega
theorem inI_byte (c : UInt8) : inI (byteI c) := by unfold inI; have := byteI_lt c; have := byteI_nn c; omega
theorem inI_of (x : Int) (h : (decide (-9223372036854775808 ≤ x) && decide (x ≤ 9223372036854775807)) = true) : inI x := by
 simp at h; exact h
section
variable {X : Nat → Prop} {P : Program} {N : Nat} {e : Env} {w : World} {dst : Option Tmp} {ty : TypeId} {pos : String} {aft : Array Edge} {gd : Option (Nat × Bool)} {x y z : Operand} {T T' : Nat}
theorem rd_convU {S D : Nat} {k : IntKind} {p : Int} {d : TypeDesc} (hS : P.underlying S = some d) (hD : P.underlying D = some (.int .u8)) (h : ev e x = some (.int k p)) : Rd X P N ⟨dst, .convert S D x, ty, pos, aft, gd⟩ e w (vU (byteI (mkB p))) := by
 rw [byteI_mkB]; exact rd_convI hS hD h
theorem rd_convUI {S D : Nat} {c : UInt8} {d : TypeDesc} (hS : P.underlying S = some d) (hD : P.underlying D = some (.int .i64)) (h : ev e x = some (vU (byteI c))) : Rd X P N ⟨dst, .convert S D x, ty, pos, aft, gd⟩ e w (vI (byteI c)) := by
 have := rd_convI (X := X) (P := P) (N := N) (w := w) (dst := dst) (ty := ty) (pos := pos) (aft := aft) (gd := gd) hS hD h
 rwa [toI_byte] at this
theorem rd_inc {k n : Nat} (hk : k < n) (hn : n ≤ 9223372036854775807) (h1 : ev e x = some (vI (k : Int))) (h2 : ev e y = some (vI 1)) : Rd X P N ⟨dst, .binOp .add T x y T', ty, pos, aft, gd⟩ e w (vI ((k + 1 : Nat) : Int)) := by
 rw [← iinc hk hn]; exact rd_add h1 h2
end
section
variable {w : World} {B : Nat} {S : List Nat} {cs : List Value}
theorem Int_open {x : Int} (h : rep w B cs x) : cs = [vI x] ∧ inI x := by obtain ⟨v, rfl, rfl, h⟩ := h; exact ⟨rfl, h⟩
theorem Bool_open {x : Bool} (h : rep w B cs x) : cs = [vB x] := by obtain ⟨v, rfl, rfl⟩ := h; rfl
theorem UInt8_open {x : UInt8} (h : rep w B cs x) : cs = [vU (byteI x)] := by obtain ⟨v, rfl, rfl⟩ := h; rfl
theorem Str_open {x : Str} (h : rep w B cs x) : cs = [x.v] ∧ x.b.length ≤ LEN := by obtain ⟨v, rfl, rfl, h⟩ := h; exact ⟨rfl, h⟩
theorem List_open {α : Type} [Dat α] {l : List α} (h : rep w B cs l) : ∃ ao c, cs = [.slice ao l.length c] ∧ repS w B (.slice ao l.length c) l := by
 obtain ⟨v, rfl, h⟩ := h
 obtain ⟨ao, c, rfl⟩ := repS.shape h
 exact ⟨ao, c, rfl, h⟩
theorem Int_mk {x : Int} (h : inI x) : rep w B [vI x] x := ⟨_, rfl, rfl, h⟩
theorem Str_mk {x : Str} (h : x.b.length ≤ LEN) : rep w B [x.v] x := ⟨_, rfl, rfl, h⟩
theorem Int_own {x : Int} (h : inI x) : own w [] [vI x] x := ⟨rfl, _, rfl, rfl, h⟩
theorem Bool_own {x : Bool} : own w [] [vB x] x := ⟨rfl, _, rfl, rfl⟩
theorem UInt8_own {x : UInt8} : own w [] [vU (byteI x)] x := ⟨rfl, _, rfl, rfl⟩
theorem Str_own {x : Str} (h : x.b.length ≤ LEN) : own w [] [x.v] x := ⟨rfl, _, rfl, rfl, h⟩
end
theorem pair_rep {α β : Type} [Dat α] [Dat β] {w : World} {B : Nat} {c d : List Value} {x : α} {y : β} (h1 : rep w B c x) (h2 : rep w B d y) : rep w B (c ++ d) (x, y) := ⟨c, d, rfl, h1, h2⟩
theorem pair_own {α β : Type} [Dat α] [Dat β] {w : World} {S1 S2 : List Nat} {c d : List Value} {x : α} {y : β} (h1 : own w S1 c x) (h2 : own w S2 d y) : own w (S1 ++ S2) (c ++ d) (x, y) := ⟨c, d, S1, S2, rfl, rfl, h1, h2⟩
theorem ownS_nil {α : Type} [Dat α] (w : World) : ownS w [] (.slice none 0 0) ([] : List α) := .inl ⟨rfl, rfl, rfl⟩
theorem ownS_new0 {α : Type} [Dat α] {w w' : World} (h : New w w' []) : ownS w' [w.heap.size] (.slice (some ⟨w.heap.size, 0, none⟩) 0 0) ([] : List α) :=
 .inr ⟨w.heap.size, 0, [], [], rfl, Nat.le_refl _, Nat.zero_le _, h.blk, by simp, rfl, rfl, fun i x Si hx => by simp at hx⟩
theorem oneAll {l : List Value} (h : l.all Value.oneCell' = true) : ∀ u ∈ l, u.oneCell' = true := fun u hu => List.all_eq_true.1 h u hu
theorem ownS_new1 {α : Type} [Dat α] {w w' : World} {cs : List Value} {Si : List Nat} {x : α} (h : New w w' cs) (ho : own w Si cs x) : ownS w' (w.heap.size :: Si) (.slice (some ⟨w.heap.size, 0, none⟩) 1 1) [x] := by
 have hl := rep_len (own_rep' ho)
 refine .inr ⟨w.heap.size, 1, cs, [Si], rfl, Nat.le_refl _, by simp [LEN], h.blk, by simp [hl], by simp, rfl, fun i y Sj hy hS => ?_⟩
 cases i with
 | zero =>
  simp at hy hS
  subst hy hS
  have := chunk_one cs _ hl
  unfold chunk at this
  rw [this]
  exact own_ext ho h.below
 | succ i => simp at hy
theorem pshS {α : Type} {l : List α} {x : α} {m : List α} (h : psh l x = some m) : m = l ++ [x] ∧ l.length < LIM := by
 unfold psh at h
 split at h
 ·rename_i hl; exact ⟨(Option.some.inj h).symm, hl⟩
 ·cases h
theorem appS {α : Type} {l x m : List α} (h : app l x = some m) : m = l ++ x ∧ l.length + x.length ≤ LIM := by
 unfold app at h
 split at h
 ·rename_i hl; exact ⟨(Option.some.inj h).symm, hl⟩
 ·cases h
theorem LIM_mul {n b : Nat} (h : n ≤ LIM) (hb : Nat.ble b 32768 = true) : n * b ≤ 140737488355328 := by
 have h2 : b ≤ 32768 := Nat.le_of_ble_eq_true hb
 calc n * b ≤ LIM * 32768 := Nat.mul_le_mul h h2
  _ = 140737488355328 := by decide
section
variable {X : Nat → Prop} {P : Program} {N : Nat} {e : Env} {w : World} {dst : Option Tmp} {ty : TypeId} {pos : String} {aft : Array Edge} {gd : Option (Nat × Bool)} {x y z : Operand} {T T' : Nat}
theorem ef_push {α : Type} [Dat α] {E bytes : Nat} {zz : Value} (hE : El P T E (sz α) bytes zz) {S Si : List Nat} {sv : Value} {l m : List α} {v : α} {g : Nat} {cs : List Value} (hm : psh l v = some m) (hx : ev e x = some sv) (hy : ev e y = some (.slice (some ⟨g, 0, none⟩) 1 1))
  (ho : ownS w S sv l) (hN : S.Nodup) (hB : Blk w g cs) (hv : own w Si cs v) (hD : ∀ k ∈ Si, k ∉ S) (hSi : Si.Nodup) :
  Ef P N ⟨dst, .call { callee := .builtin .append, args := #[x, y], argTypes := #[T, T] }, ty, pos, aft, gd⟩ e w (fun v' w' => ∃ S' ao c, v' = .slice ao m.length c ∧ ownS w' S' (.slice ao m.length c) m ∧ S'.Nodup ∧ Chg (· ∈ S) w w' ∧ (∀ k ∈ S', k ∈ S ∨ k ∈ Si ∨ k = w.heap.size)) := by
 obtain ⟨rfl, hl⟩ := pshS hm
 have hcs := rep_len (own_rep' hv)
 have h := ef_append (P := P) (N := N) (dst := dst) (ty := ty) (pos := pos) (aft := aft) (gd := gd) hE hx ho hN (p := ⟨g, 0, none⟩) (c' := 1) (news := cs) (xs := [v]) (Ts := [Si]) hy rfl (fun _ => rfl) (by simp [hcs]) hB.all rfl
  (fun i a Ti ha hT => by
   cases i with
   | zero =>
    simp at ha hT
    subst ha hT
    rw [chunk_one cs _ hcs]
    exact hv
   | succ i => simp at ha) (by simpa using hD) (by simpa using hSi) (by have := LIM_le; simp; omega) (LIM_mul (by simp; omega) hE.sm)
 constructor
 intro a ha Q
 refine Oper.wp_mono ?_ (h.run a ha Q)
 rintro a' w' ⟨v', rfl, S', h1, h2, h3, h4⟩
 obtain ⟨ao, c, rfl⟩ := ownS.shape h1
 exact ⟨_, rfl, S', ao, c, rfl, h1, h2, h3, by simpa using h4⟩
theorem ef_appendS {α : Type} [Dat α] [FlatDat α] {E bytes : Nat} {zz : Value} (hE : El P T E (sz α) bytes zz) {S : List Nat} {sv : Value} {l m xs : List α} {B c0 : Nat} {ao0 : Option Addr} (hm : app l xs = some m) (hx : ev e x = some sv) (hy : ev e y = some (.slice ao0 xs.length c0))
  (ho : ownS w S sv l) (hN : S.Nodup) (hr : repS w B (.slice ao0 xs.length c0) xs) :
  Ef P N ⟨dst, .call { callee := .builtin .append, args := #[x, y], argTypes := #[T, T] }, ty, pos, aft, gd⟩ e w (fun v' w' => ∃ S' ao c, v' = .slice ao m.length c ∧ ownS w' S' (.slice ao m.length c) m ∧ S'.Nodup ∧ Chg (· ∈ S) w w' ∧ (∀ k ∈ S', k ∈ S ∨ k ∈ ([] : List Nat) ∨ k = w.heap.size)) := by
 obtain ⟨rfl, hl⟩ := appS hm
 obtain ⟨ao, c, he, h1, h2, h3, h4⟩ := hr
 simp only [Value.slice.injEq, true_and] at he
 obtain ⟨rfl, rfl⟩ := he
 cases ao0 with
 | none =>
  obtain rfl := h3 rfl
  constructor
  intro a ha Q
  obtain ⟨ao, c, rfl⟩ := ownS.shape ho
  have hc : l.length ≤ c := by
   rcases ho with ⟨h, rfl, _⟩ | ⟨_, _, _, _, h, hh, _⟩ <;> cases h
   ·exact Nat.le_refl _
   ·exact hh
  have h0 : c0 = c0 := rfl
  unfold Oper.wp
  obtain ⟨i, hi, hz, _, _⟩ := info_parts hE.info
  have hr : (execOp a.eval ⟨dst, .call { callee := .builtin .append, args := #[x, y], argTypes := #[T, T] }, ty, pos, aft, gd⟩).run P w = .ok (.value (.slice ao l.length c)) w := by
   have : (Builtin.append_ #[T, T] ty #[.slice ao l.length c, .slice none 0 c0]).run P w = .ok (.slice ao l.length c) w := by
    cases ao <;> simp [Builtin.append_, run_underlying hE.sl, sizeOf, typeInfo, hi, Builtin.lenOf, Builtin.firstCells, hc, storeCells]
   have hy' : a.eval y = .slice none 0 c0 := ha.ev hy
   simp [execOp, resolve, invoke, builtin, ha.ev hx, hy', this]
  rw [hr]
  refine ⟨_, rfl, S, ao, c, by simp, by simpa using ho, hN, Chg.refl _ _, fun k hk => .inl hk⟩
 | some p =>
  obtain ⟨k1, _, k3⟩ := h4 p rfl
  obtain ⟨news, g1, g2, g3⟩ := repS_row xs k3
  have h := ef_append (P := P) (N := N) (dst := dst) (ty := ty) (pos := pos) (aft := aft) (gd := gd) hE hx ho hN (p := p) (c' := c0) (news := news) (xs := xs) (Ts := List.replicate xs.length []) hy rfl (fun hne => k1 (fun hx => hne (List.eq_nil_of_length_eq_zero (by rw [g1, hx]; simp)))) g1 g2 (by simp)
   (fun i a Ti ha hT => by
    have : Ti = [] := by
     rw [List.getElem?_replicate] at hT
     split at hT <;> simp at hT
     first | exact hT | exact hT.symm
    subst this
    exact FlatDat.flat (g3 i a ha)) (by simp) (by simp) (by have := LIM_le; omega) (LIM_mul hl hE.sm)
  constructor
  intro a ha Q
  refine Oper.wp_mono ?_ (h.run a ha Q)
  rintro a' w' ⟨v', rfl, S', h1, h2, h3, h4⟩
  obtain ⟨ao, c, rfl⟩ := ownS.shape h1
  exact ⟨_, rfl, S', ao, c, rfl, h1, h2, h3, by simpa using h4⟩
def evo (e : Env) (o : Option Operand) (d b : Int) : Prop := match o with
 | none => b = d
 | some x => ev e x = some (vI b)
theorem slcS {α : Type} {l m : List α} {a b : Int} (h : slc l a b = some m) : 0 ≤ a ∧ a ≤ b ∧ b ≤ l.length ∧ m = (l.take b.toNat).drop a.toNat := by
 unfold slc at h
 split at h
 ·rename_i hl; exact ⟨hl.1, hl.2.1, hl.2.2, (Option.some.inj h).symm⟩
 ·cases h
theorem slcS_len {α : Type} {l m : List α} {a b : Int} (h : slc l a b = some m) : (m.length : Int) = b - a := by
 obtain ⟨h1, h2, h3, rfl⟩ := slcS h
 simp; omega
theorem repS_part {α : Type} [Dat α] {B n c sz' : Nat} {ao : Option Addr} {l m : List α} {a b mx : Int} (hsz : sz' = sz α) (h : repS w B (.slice ao n c) l) (hs : slc l a b = some m) (h1 : b ≤ mx) (h2 : mx ≤ c) :
  repS w B (.slice (if mx.toNat = a.toNat then ao else ao.map (·.add (a.toNat * sz'))) m.length (mx.toNat - a.toNat)) m := by
 subst hsz
 obtain ⟨g1, g2, g3, rfl⟩ := slcS hs
 obtain ⟨ao', c', he, k1, k2, k3, k4⟩ := h
 simp only [Value.slice.injEq] at he
 obtain ⟨rfl, rfl, rfl⟩ := he
 refine ⟨_, _, rfl, by simp; omega, by simp; omega, fun hn => ?_, fun p hp => ?_⟩
 ·have : ao = none := by
   split at hn
   ·exact hn
   ·simpa using hn
  rw [k3 this]
  simp
 ·by_cases hmx : mx.toNat = a.toNat
  ·rw [if_pos hmx] at hp
   obtain ⟨j1, j2, j3⟩ := k4 p hp
   have hnil : (l.take b.toNat).drop a.toNat = [] := by
    apply List.drop_of_length_le; simp; omega
   rw [hnil]
   exact ⟨fun h => absurd rfl h, fun h => absurd rfl h, fun i x hx => by simp at hx⟩
  ·rw [if_neg hmx] at hp
   cases ao with
   | none => simp at hp
   | some q =>
    simp only [Option.map_some, Option.some.injEq] at hp
    subst hp
    obtain ⟨j1, j2, j3⟩ := k4 q rfl
    by_cases hemp : (l.take b.toNat).drop a.toNat = []
    ·rw [hemp]
     exact ⟨fun h => absurd rfl h, fun h => absurd rfl h, fun i x hx => by simp at hx⟩
    have j1' := j1 (fun h => hemp (by rw [h]; simp))
    have hq : q = ⟨q.block, q.off, none⟩ := by cases q; simp_all
    rw [hq, Addr.add_lit]
    refine ⟨fun _ => rfl, fun hne => j2 (fun h => hne (by rw [h]; simp)), fun i x hx => ?_⟩
    rw [List.getElem?_drop, List.getElem?_take] at hx
    split at hx
    ·obtain ⟨cs, e1, e2⟩ := j3 _ _ hx
     refine ⟨cs, ?_, e2⟩
     have : q.off + a.toNat * sz α + i * sz α = q.off + (a.toNat + i) * sz α := by rw [Nat.add_mul]; omega
     rw [this]
     exact e1
    ·cases hx
theorem rd_slice {α : Type} [Dat α] {E B n c sz' : Nat} {ao : Option Addr} {l m : List α} {a b : Int} {lo hi : Option Operand} (hT : P.underlying T = some (.slice E)) (hs : ∀ w, (sizeOf E).run P w = .ok sz' w) (hsz : sz' = sz α) (hx : ev e x = some (.slice ao n c)) (h : repS w B (.slice ao n c) l)
  (hlo : evo e lo 0 a) (hhi : evo e hi n b) (hm : slc l a b = some m) :
  ∃ ao' c', Rd X P N ⟨dst, .slice T x lo hi none, ty, pos, aft, gd⟩ e w (.slice ao' m.length c') ∧ repS w B (.slice ao' m.length c') m := by
 obtain ⟨g1, g2, g3, _⟩ := slcS hm
 have hml := slcS_len hm
 have h' := h
 obtain ⟨ao', c', he, k1, k2, k3, k4⟩ := h'
 simp only [Value.slice.injEq] at he
 obtain ⟨rfl, rfl, rfl⟩ := he
 refine ⟨_, _, ?_, repS_part (mx := (c : Int)) hsz h hm (by omega) (by omega)⟩
 intro act ha w' _
 have hsl : (Instr.sliceAt T (.slice ao l.length c) (lo.map act.eval) (hi.map act.eval) none).run P w' = .ok (.slice (if c = a.toNat then ao else ao.map (·.add (a.toNat * sz'))) (b.toNat - a.toNat) (c - a.toNat)) w' := by
  have hb : ∀ code, (Instr.sliceBound (vI b) c code).run P w' = .ok b.toNat w' := fun code => run_sliceBound w' .i64 b c code (by omega) (by omega)
  have hal : ∀ code, (Instr.sliceBound (vI a) b.toNat code).run P w' = .ok a.toNat w' := fun code => run_sliceBound w' .i64 a b.toNat code g1 (by omega)
  have hbs : (Instr.sliceBounds true l.length c (lo.map act.eval) (hi.map act.eval) none).run P w' = .ok (a.toNat, b.toNat, c) w' := by
   cases lo with
   | none =>
    obtain rfl : a = 0 := hlo
    cases hi with
    | none =>
     obtain rfl : b = (l.length : Int) := hhi
     simp [Instr.sliceBounds]
    | some y => simp [Instr.sliceBounds, ha.ev hhi, hb]
   | some u =>
    cases hi with
    | none =>
     obtain rfl : b = (l.length : Int) := hhi
     have hal' : ∀ code, (Instr.sliceBound (vI a) l.length code).run P w' = .ok a.toNat w' := fun code => by simpa using hal code
     simp [Instr.sliceBounds, ha.ev hlo, hal']
    | some y => simp [Instr.sliceBounds, ha.ev hlo, ha.ev hhi, hb, hal]
  simp [Instr.sliceAt, run_underlying hT, Instr.slice, hbs, hs]
 have hmm : b.toNat - a.toNat = m.length := by omega
 have hc1 : ((c : Int)).toNat = c := by simp
 simp only [execOp, ha.ev hx, Option.map_none, Sem.run_bind, hsl, Result.andThen_ok, hmm, hc1]
 rfl
structure BuildT (P : Program) (T : Nat) (zs : List Value) (places : List (Nat × Nat)) : Prop where
 zero : ∀ w, (zeroValue T).run P w = .ok (.agg zs.toArray) w
 und : ∃ fs, P.underlying T = some (.struct fs) ∧ ∀ w, (fs.toList.mapM fun f => Functor.map (Prod.mk f.offset) (sizeOf f.type)).run P w = .ok places w
theorem rd_build {zs cs : List Value} {places : List (Nat × Nat)} {parts : Array (Nat × Operand)} {vs : List (Nat × Value)} (hB : BuildT P T zs places) (hv : ∀ a, Sat N e a → (parts.map fun (i, x) => (i, a.eval x)).toList = vs) (hf : Instr.fill (places.toArray[·]?) zs.toArray vs = some cs.toArray) :
  Rd X P N ⟨dst, .build T parts, ty, pos, aft, gd⟩ e w (.agg cs.toArray) := fun a ha w' _ => by
 obtain ⟨fs, hu, hpl⟩ := hB.und
 have h1 : (Instr.build T (parts.map fun (i, x) => (i, a.eval x))).run P w' = .ok (.agg cs.toArray) w' := by
  unfold Instr.build
  have hp : (fs.mapM fun f => Functor.map (Prod.mk f.offset) (sizeOf f.type) : Sem (Array (Nat × Nat))).run P w' = .ok places.toArray w' := by
   rw [Array.mapM_eq_mapM_toList]
   simp [hpl]
  have hp2 : (fs.mapM fun f => do pure (f.offset, ← sizeOf f.type) : Sem (Array (Nat × Nat))).run P w' = .ok places.toArray w' := hp
  simp only [Sem.run_bind, hB.zero, Result.andThen_ok, run_underlying hu, Value.cells, hp2, hv a ha, hf]
  rfl
 simp only [execOp, Sem.run_bind, h1, Result.andThen_ok]
 rfl
end
end Go.Vw
