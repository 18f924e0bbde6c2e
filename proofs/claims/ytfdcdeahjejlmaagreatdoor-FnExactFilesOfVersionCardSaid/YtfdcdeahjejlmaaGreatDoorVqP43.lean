import Derived.Test.YtfdcdeahjejlmaaGreatDoorVqP40
set_option linter.unusedVariables false
namespace Go.Vw
open Go.RowKit Dat
theorem m_a {a : D_} (h : b_A a = true) : (b_y a.log.bytes).length ≤ 20 := by
 unfold b_A at h
 simp only [aE_, dE_] at h
 exact h.2.2.1
section
variable {l : List p_} {g : p_ → List Str}
theorem m_b {k : Nat} (hk : k < l.length) : (l.take (k + 1)).flatMap g = (l.take k).flatMap g ++ g l[k] := by
 rw [h_o hk, List.flatMap_append]; simp
theorem h_x (hg : ∀ f, (g f).length ≤ 1) : ∀ l : List p_, (l.flatMap g).length ≤ l.length
 | [] => by simp
 | f :: l => by
  have h1 := hg f
  have h2 := h_x hg l
  simp only [List.flatMap_cons, List.length_append, lC_]
  omega
theorem p_N {ρ : Type} (hg : ∀ f, (g f).length ≤ 1) (hl : l.length ≤ 20) {body : Nat → List Str → Option (Out (List Str) ρ)} (hb : ∀ k (hk : k < l.length) (c : List Str), c.length ≤ 20 → body k c = some (.next (c ++ g l[k]))) :
  w_ body l.length 0 [] = some (.inl (l.flatMap g)) := by
 have h := f_p (body := body) (fun k => (l.take k).flatMap g) (n := l.length) (s := []) rfl (fun k hk => by
  have h1 := h_x hg (l.take k)
  rw [List.length_take] at h1
  rw [hb k hk _ (by omega), m_b hk])
 rw [h, List.take_length]
theorem p_O {n : Nat} {ok : Bool} (hg : ∀ f, (g f).length ≤ 1) (hl : ok = true → l.length ≤ 20) {step : List Str × Int → Option (Out (List Str × Int) (List Str))}
  (h1 : ∀ k (hk : k < l.length) (c : List Str), ok = true → c.length ≤ 20 → step (c, (k : Int)) = some (.next (c ++ g l[k], ((k + 1 : Nat) : Int))))
  (h2 : ∀ (c : List Str) (k : Nat), ok = false ∨ k = l.length → step (c, (k : Int)) = some (.brk (c, (k : Int)))) (hn : 21 ≤ n) :
  ∃ k : Int, I_ step n ([], 0) = some (.inl (if ok = true then l.flatMap g else [], k)) := by
 cases ok with
 | false =>
  obtain ⟨m, rfl⟩ : ∃ m, n = m + 1 := ⟨n - 1, by omega⟩
  refine ⟨0, ?_⟩
  unfold I_
  rw [show step ([], 0) = some (.brk ([], 0)) from h2 [] 0 (.inl rfl)]
  rfl
 | true =>
  have hl := hl rfl
  refine ⟨(l.length : Int), ?_⟩
  rw [iP_ rfl]
  exact e_q (step := step) (fun k => ((l.take k).flatMap g, (k : Int))) (s := (l.flatMap g, (l.length : Int))) (m := n) (j0 := l.length) (by omega) (fun k hk => by
   have h3 := h_x hg (l.take k)
   rw [List.length_take] at h3
   rw [h1 k hk _ rfl (by omega), m_b hk]) (by
   have h4 := h2 ((l.take l.length).flatMap g) l.length (.inr rfl)
   rw [List.take_length] at h4
   simp only [List.take_length]
   exact h4)
end
theorem m_c (a : D_) : (c_u a).length ≤ 20 := by
 unfold c_u
 split
 ·rename_i h; exact m_a h
 ·simp
def d_V (v : Int) (f : p_) : List Str := if (f.version == v) = true then [f.name] else []
theorem j_E (v : Int) (f : p_) : (d_V v f).length ≤ 1 := by unfold d_V; split <;> simp
theorem p_P {a : D_} (h : SmA a) (v : Int) {n : Nat} (hn : 1060100 ≤ n) : e_S n a v = some ((c_u a).flatMap (d_V v)) := by
 have hLIM := a_o
 unfold e_S
 rw [p_s h hn, bd_some]
 have hl := m_c a
 generalize c_u a = l at hl
 unfold h_T h_R h_S
 rw [p_N (j_E v) hl (fun k hk c hc => by
  rw [ix_ hk, bd_some, bd_some]
  unfold d_V
  cases (l[k].version == v) with
  | false => simp only [bF_, fF_, bd_some, List.append_nil]
  | true => simp only [fT_, bd_some]; rw [a_Z (by omega), bd_some, bd_some])]
 rfl
theorem p_Q {a : D_} (h : SmA a) (v : Int) {n : Nat} (hn : 1060100 ≤ n) : g_J n a v = some ((c_u a).flatMap (d_V v)) := by
 have hLIM := a_o; have hML := MLv
 unfold g_J c_u
 rw [p_t h hn, bd_some, p_r h hn]
 have hfl := p_u h.bytes
 obtain ⟨l, hle, hl1, hl2⟩ : ∃ l : List p_, (if b_z a.log = true then b_y a.log.bytes else []) = l ∧ (b_A a = true → l.length ≤ 20 ∧ l = b_y a.log.bytes) ∧ l.length ≤ ML := by
  refine ⟨_, rfl, fun h => ?_, ?_⟩
  ·rw [iP_ (l_U h)]; exact ⟨m_a h, rfl⟩
  ·split
   ·exact hfl
   ·simp
 rw [hle]
 obtain ⟨k, hk⟩ := p_O (n := n) (l := l) (ok := b_A a) (j_E v) (fun h => (hl1 h).1) (step := un2 fun x234 x242 => bd (α := Bool) (if (decide (x242 < (l.length : Int))) = true then bd (some (b_A a)) fun r299 => some r299 else some false) (fun x279 => if x279 = true then bd (idx l x242) fun x384 => bd (α := (List Str)) (if (x384.version == v) = true then bd (idx l x242) fun x454 => bd (psh x234 x454.name) fun x485 => some x485 else some x234) (fun x441 => some (.next (x441, c_ x242 1))) else some (.brk (x234, x242))))
  (fun k hk c hok hc => by
   simp only [un2]
   rw [dT_ (show (k : Int) < (l.length : Int) by omega), iP_ rfl, bd_some, bd_some, hok, iP_ rfl, ix_ hk, bd_some, ia_ (by omega) (by omega)]
   unfold d_V
   cases (l[k].version == v) with
   | false => simp only [bF_, fF_, bd_some, List.append_nil]; rfl
   | true => simp only [fT_]; rw [bd_some, a_Z (by omega), bd_some, bd_some]; rfl)
  (fun c k hk => by
   simp only [un2]
   by_cases hkl : (k : Int) < (l.length : Int)
   ·rcases hk with hk | hk
    ·rw [dT_ hkl, iP_ rfl, bd_some, bd_some, hk]; rfl
    ·omega
   ·rw [dF_ hkl]; rfl) (by omega)
 rw [hk, bd_some, el_inl]
 cases ha : b_A a with
 | false => rfl
 | true => rw [(hl1 ha).2]; rfl
theorem p_R {n : Nat} (hn : 4000000 ≤ n) {a : D_} {v : Int} (ha : LnA a) : g_K n a v = some true := by
 have hMX := MXv
 unfold g_K
 obtain ⟨r, hr, hr2⟩ := p_G ha
 rw [hr, bd_some]
 by_cases h2 : r < 0
 ·rw [dT_ h2]; rfl
 rw [dF_ h2]
 obtain ⟨_, hs, hb, hm⟩ := hr2.resolve_left h2
 simp only [bF_, fF_, p_I hs hb, bd_some, p_Q hs _ (show 1060100 ≤ n by omega), p_P hs _ (show 1060100 ≤ n by omega), p_K, k_S, nT_]
 have hu := h_x (j_E v) (c_u a)
 have hf := m_c a
 generalize (c_u a).flatMap (d_V v) = u at *
 have hx := p_L n a 1
 rw [p_M hs (by omega) (by omega) (by omega)]
 simp only [bd3_some]
 rw [dF_ (by omega)]
 simp only [bF_, fF_, bd_some]
 rw [k_X (by omega) (by omega) (by omega) (by omega)]
 simp only [bd2_some]
 rw [p_v (by omega) (by omega) (by omega)]
 simp only [bd_some]
 rw [dF_ (show ¬ 1 + ((u.length : Nat) : Int) < 0 by omega)]
 simp only [bF_, fF_, bN_]
end Go.Vw
