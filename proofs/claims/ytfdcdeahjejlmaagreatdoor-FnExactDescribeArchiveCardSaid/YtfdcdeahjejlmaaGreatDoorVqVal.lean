import Derived.Test.YtfdcdeahjejlmaaGreatDoorVqGen5
set_option linter.unusedVariables false
namespace Go.Vw
open Go.RowKit Dat
inductive Val where
 | mk (number : Int) (bytes : List UInt8) (items : List Val)
deriving Inhabited
def Val.number : Val → Int
 | .mk n _ _ => n
def Val.bytes : Val → List UInt8
 | .mk _ b _ => b
def Val.items : Val → List Val
 | .mk _ _ i => i
inductive RepV (w : World) (B : Zone) : List Value → Val → Prop
 | mk {x : Int} {bs : List UInt8} {vs : List Val} {v1 : Value} {ao : Option Addr} {c : Nat} {css : Nat → List Value} (hx : inI x) (hb : a_ w B v1 bs)
   (h1 : vs.length ≤ c) (h2 : vs.length ≤ LEN) (h3 : ao = none → vs = [])
   (h4 : ∀ p, ao = some p → (vs ≠ [] → p.spot = none) ∧ (vs ≠ [] → B p.block))
   (h5 : ∀ p, ao = some p → ∀ (i : Nat) (y : Val), vs[i]? = some y → M_ w p.block (p.off + i * 3) (css i))
   (h6 : ∀ (i : Nat) (y : Val), vs[i]? = some y → RepV w B (css i) y) : RepV w B [vI x, v1, .slice ao vs.length c] (.mk x bs vs)
inductive f_b (w : World) : List Nat → List Value → Val → Prop
 | nil {x : Int} {bs : List UInt8} {v1 : Value} {S1 : List Nat} (hx : inI x) (hb : b_ w S1 v1 bs) : f_b w S1 [vI x, v1, .slice none 0 0] (.mk x bs [])
 | mk {x : Int} {bs : List UInt8} {vs : List Val} {v1 : Value} {S1 : List Nat} {g c : Nat} {cur : List Value} {Ss : List (List Nat)} (hx : inI x) (hb : b_ w S1 v1 bs)
   (h1 : vs.length ≤ c) (h2 : vs.length ≤ LEN) (h3 : Blk w g cur) (h4 : cur.length = c * 3) (h5 : Ss.length = vs.length)
   (h6 : ∀ (i : Nat) (y : Val) (Si : List Nat), vs[i]? = some y → Ss[i]? = some Si → f_b w Si ((cur.drop (i * 3)).take 3) y) : f_b w (S1 ++ g :: List.flatten Ss) [vI x, v1, .slice (some ⟨g, 0, none⟩) vs.length c] (.mk x bs vs)
theorem r_p {α : Type} [Dat α] {w : World} {B : Zone} {v : Value} {l : List α} (h : a_ w B v l) : v.oneCell' = true := by
 obtain ⟨ao, c, rfl, _⟩ := h; rfl
theorem r_q {α : Type} [Dat α] {w w' : World} {B : Zone} {v : Value} {l : List α} (h : a_ w B v l) (he : ∀ k, B k → k < w.heap.size → w'.heap[k]? = w.heap[k]?) : a_ w' B v l := a_.of (rep_eq h.rep he)
theorem n_d {α : Type} [Dat α] {w w' : World} {S : List Nat} {v : Value} {l : List α} (h : b_ w S v l) (he : ∀ k ∈ S, w'.heap[k]? = w.heap[k]?) : b_ w' S v l := b_.of (own_eq h.own he)
theorem e_i {α : Type} [Dat α] {w : World} {S : List Nat} {v : Value} {l : List α} {B : Zone} (h : b_ w S v l) (he : ∀ k ∈ S, B k) : a_ w B v l := a_.of (own_rep h.own he)
instance : Dat Val where
 sz := 3
 rep w B cs x := RepV w B cs x
 own w S cs x := f_b w S cs x
 rep_len := by rintro _ _ _ _ ⟨⟩; rfl
 rep_one := by
  rintro _ _ _ _ ⟨_, hb⟩ c hc
  simp at hc
  rcases hc with rfl | rfl | rfl
  ·rfl
  ·exact r_p hb
  ·rfl
 rep_eq := by
  intro w w' B cs x h he
  induction h with
  | mk hx hb h1 h2 h3 h4 h5 h6 ih =>
   refine .mk hx (r_q hb he) h1 h2 h3 h4 (fun p hp i y hy => (h5 p hp i y hy).of_block (he _ ((h4 p hp).2 (by rintro rfl; simp at hy)) ((h5 p hp i y hy).lt ?_))) ih
   rintro hn
   have := h6 i y hy
   rw [hn] at this
   cases this
 rep_mono := by
  intro w B B' cs x h hb
  induction h with
  | mk hx hb' h1 h2 h3 h4 h5 h6 ih => exact .mk hx (a_.mono hb' hb) h1 h2 h3 (fun p hp => ⟨(h4 p hp).1, fun hn => hb _ ((h4 p hp).2 hn)⟩) h5 ih
 own_eq := by
  intro w w' S cs x h he
  induction h with
  | nil hx hb => exact .nil hx (n_d hb he)
  | mk hx hb h1 h2 h3 h4 h5 h6 ih =>
   exact .mk hx (n_d hb fun k hk => he k (List.mem_append_left _ hk)) h1 h2 (h3.of_eq (he _ (List.mem_append_right _ List.mem_cons_self))) h4 h5 fun i y Si hy hS => ih i y Si hy hS fun k hk => he k (List.mem_append_right _ (List.mem_cons_of_mem _ (d_c hS hk)))
 own_lt := by
  intro w S cs x h
  induction h with
  | nil hx hb => exact hb.lt
  | mk hx hb h1 h2 h3 h4 h5 h6 ih =>
   intro k hk
   rcases List.mem_append.1 hk with hk | hk
   ·exact hb.lt k hk
   ·rcases List.mem_cons.1 hk with rfl | hk
    ·exact h3.lt
    ·obtain ⟨Si, hSi, hk⟩ := List.mem_flatten.1 hk
     obtain ⟨i, hi⟩ := List.getElem?_of_mem hSi
     obtain ⟨y, hy⟩ := zip_some' h5 hi
     exact ih i y Si hy hi k hk
 own_rep := by
  intro w S cs x B h hB
  induction h with
  | nil hx hb => exact .mk (css := fun _ => []) hx (e_i hb hB) (Nat.zero_le _) (Nat.zero_le _) (fun _ => rfl) (fun p hp => by cases hp) (fun p hp => by cases hp) (fun i y hy => by simp at hy)
  | @mk x bs vs v1 S1 g c cur Ss hx hb h1 h2 h3 h4 h5 h6 ih =>
   refine .mk (css := fun i => (cur.drop (i * 3)).take 3) hx (e_i hb fun k hk => hB k (List.mem_append_left _ hk)) h1 h2 (fun h => by cases h) ?_ ?_ ?_
   ·intro p hp
    obtain rfl := Option.some.inj hp
    exact ⟨fun _ => rfl, fun _ => hB g (List.mem_append_right _ List.mem_cons_self)⟩
   ·intro p hp i y hy
    obtain rfl := Option.some.inj hp
    simpa using h3.cells (i * 3) 3
   ·intro i y hy
    obtain ⟨Si, hSi⟩ := f_t h5 hy
    exact ih i y Si hy hSi fun k hk => hB k (List.mem_append_right _ (List.mem_cons_of_mem _ (d_c hSi hk)))
 pos := by decide
theorem n_e {w : World} {x : Val} {a1 : Option Addr} {n1 c1 : Nat} {a2 : Option Addr} {n2 c2 : Nat} {S1 S2 : List Nat} (p0 : inI x.number) (p1 : b_ w S1 (.slice a1 n1 c1) x.bytes) (p2 : b_ w S2 (.slice a2 n2 c2) x.items) : own w (S1 ++ S2) [vI x.number, .slice a1 n1 c1, .slice a2 n2 c2] x := by
 obtain ⟨x, bs, vs⟩ := x
 rcases p2 with ⟨he, hv, rfl⟩ | ⟨g, c, cur, Ss, he, h1, h2, h3, h4, rfl, h6, h7⟩
 ·cases he
  cases (show vs = [] from hv)
  rw [List.append_nil]
  exact f_b.nil p0 p1
 ·cases he
  exact f_b.mk p0 p1 h1 h2 h3 h4 h6 h7
end Go.Vw
