import Derived.Test.YtfdcdeahjejlmaaGreatDoorVqP40
set_option linter.unusedVariables false
namespace Go.Vw
open Go.RowKit Dat
theorem k_k {a : C_} (h : b_a a = true) : (b_g a.log.bytes).length ≤ 20 := by
 unfold b_a at h
 simp only [aE_, dE_] at h
 exact h.2.2.1
section
variable {l : List n_} {g : n_ → List Str}
theorem m_Q {k : Nat} (hk : k < l.length) : (l.take (k + 1)).flatMap g = (l.take k).flatMap g ++ g l[k] := by
 rw [h_I hk, List.flatMap_append]; simp
theorem f_H (hg : ∀ f, (g f).length ≤ 1) : ∀ l : List n_, (l.flatMap g).length ≤ l.length
 | [] => by simp
 | f :: l => by
  have h1 := hg f
  have h2 := f_H hg l
  simp only [List.flatMap_cons, List.length_append, lC_]
  omega
theorem m_R {ρ : Type} (hg : ∀ f, (g f).length ≤ 1) (hl : l.length ≤ 20) {body : Nat → List Str → Option (Out (List Str) ρ)} (hb : ∀ k (hk : k < l.length) (c : List Str), c.length ≤ 20 → body k c = some (.next (c ++ g l[k]))) :
  w_ body l.length 0 [] = some (.inl (l.flatMap g)) := by
 have h := f_C (body := body) (fun k => (l.take k).flatMap g) (n := l.length) (s := []) rfl (fun k hk => by
  have h1 := f_H hg (l.take k)
  rw [List.length_take] at h1
  rw [hb k hk _ (by omega), m_Q hk])
 rw [h, List.take_length]
theorem m_S {n : Nat} {ok : Bool} (hg : ∀ f, (g f).length ≤ 1) (hl : ok = true → l.length ≤ 20) {step : List Str × Int → Option (Out (List Str × Int) (List Str))}
  (h1 : ∀ k (hk : k < l.length) (c : List Str), ok = true → c.length ≤ 20 → step (c, (k : Int)) = some (.next (c ++ g l[k], ((k + 1 : Nat) : Int))))
  (h2 : ∀ (c : List Str) (k : Nat), ok = false ∨ k = l.length → step (c, (k : Int)) = some (.brk (c, (k : Int)))) (hn : 21 ≤ n) :
  ∃ k : Int, E_ step n ([], 0) = some (.inl (if ok = true then l.flatMap g else [], k)) := by
 cases ok with
 | false =>
  obtain ⟨m, rfl⟩ : ∃ m, n = m + 1 := ⟨n - 1, by omega⟩
  refine ⟨0, ?_⟩
  unfold E_
  rw [show step ([], 0) = some (.brk ([], 0)) from h2 [] 0 (.inl rfl)]
  rfl
 | true =>
  have hl := hl rfl
  refine ⟨(l.length : Int), ?_⟩
  rw [iP_ rfl]
  exact e_E (step := step) (fun k => ((l.take k).flatMap g, (k : Int))) (s := (l.flatMap g, (l.length : Int))) (m := n) (j0 := l.length) (by omega) (fun k hk => by
   have h3 := f_H hg (l.take k)
   rw [List.length_take] at h3
   rw [h1 k hk _ rfl (by omega), m_Q hk]) (by
   have h4 := h2 ((l.take l.length).flatMap g) l.length (.inr rfl)
   rw [List.take_length] at h4
   simp only [List.take_length]
   exact h4)
end
theorem h_R (a : C_) : (b_b a).length ≤ 20 := by
 unfold b_b
 split
 ·rename_i h; exact k_k h
 ·simp
def e_5 (v : Int) (f : n_) : List Str := if (f.version == v) = true then [f.name] else []
theorem k_l (v : Int) (f : n_) : (e_5 v f).length ≤ 1 := by unfold e_5; split <;> simp
theorem q_S {a : C_} (h : SmA a) (v : Int) {n : Nat} (hn : 1060100 ≤ n) : i_c n a v = some ((b_b a).flatMap (e_5 v)) := by
 have hLIM := a_e
 unfold i_c
 rw [m_s h hn, bd_some]
 have hl := h_R a
 generalize b_b a = l at hl
 unfold n_b n_9 n_a
 rw [m_R (k_l v) hl (fun k hk c hc => by
  rw [ix_ hk, bd_some, bd_some]
  unfold e_5
  cases (l[k].version == v) with
  | false => simp only [bF_, fF_, bd_some, List.append_nil]
  | true => simp only [fT_, bd_some]; rw [a_Q (by omega), bd_some, bd_some])]
 rfl
theorem q_T {a : C_} (h : SmA a) (v : Int) {n : Nat} (hn : 1060100 ≤ n) : k_u n a v = some ((b_b a).flatMap (e_5 v)) := by
 have hLIM := a_e; have hML := MLv
 unfold k_u b_b
 rw [m_t h hn, bd_some, m_r h hn]
 have hfl := m_u h.bytes
 obtain ⟨l, hle, hl1, hl2⟩ : ∃ l : List n_, (if b_u a.log = true then b_g a.log.bytes else []) = l ∧ (b_a a = true → l.length ≤ 20 ∧ l = b_g a.log.bytes) ∧ l.length ≤ ML := by
  refine ⟨_, rfl, fun h => ?_, ?_⟩
  ·rw [iP_ (k_9 h)]; exact ⟨k_k h, rfl⟩
  ·split
   ·exact hfl
   ·simp
 rw [hle]
 obtain ⟨k, hk⟩ := m_S (n := n) (l := l) (ok := b_a a) (k_l v) (fun h => (hl1 h).1) (step := un2 fun x234 x242 => bd (α := Bool) (if (decide (x242 < (l.length : Int))) = true then bd (some (b_a a)) fun r299 => some r299 else some false) (fun x279 => if x279 = true then bd (idx l x242) fun x384 => bd (α := (List Str)) (if (x384.version == v) = true then bd (idx l x242) fun x454 => bd (psh x234 x454.name) fun x485 => some x485 else some x234) (fun x441 => some (.next (x441, c_ x242 1))) else some (.brk (x234, x242))))
  (fun k hk c hok hc => by
   simp only [un2]
   rw [dT_ (show (k : Int) < (l.length : Int) by omega), iP_ rfl, bd_some, bd_some, hok, iP_ rfl, ix_ hk, bd_some, ia_ (by omega) (by omega)]
   unfold e_5
   cases (l[k].version == v) with
   | false => simp only [bF_, fF_, bd_some, List.append_nil]; rfl
   | true => simp only [fT_]; rw [bd_some, a_Q (by omega), bd_some, bd_some]; rfl)
  (fun c k hk => by
   simp only [un2]
   by_cases hkl : (k : Int) < (l.length : Int)
   ·rcases hk with hk | hk
    ·rw [dT_ hkl, iP_ rfl, bd_some, bd_some, hk]; rfl
    ·omega
   ·rw [dF_ hkl]; rfl) (by omega)
 rw [hk, bd_some, el_inl]
 cases ha : b_a a with
 | false => rfl
 | true => rw [(hl1 ha).2]; rfl
theorem r_r {n : Nat} (hn : 4000000 ≤ n) {a : C_} {v : Int} (ha : LnA a) : n_c n a v = some true := by
 have hMX := MXv
 unfold n_c
 obtain ⟨r, hr, hr2⟩ := m_L ha
 rw [hr, bd_some]
 by_cases h2 : r < 0
 ·rw [dT_ h2]; rfl
 rw [dF_ h2]
 obtain ⟨_, hs, hb, hm⟩ := hr2.resolve_left h2
 simp only [bF_, fF_, m_M hs hb, bd_some, q_T hs _ (show 1060100 ≤ n by omega), q_S hs _ (show 1060100 ≤ n by omega), m_N, j_I, nT_]
 have hu := f_H (k_l v) (b_b a)
 have hf := h_R a
 generalize (b_b a).flatMap (e_5 v) = u at *
 have hx := m_O n a 1
 rw [m_P hs (by omega) (by omega) (by omega)]
 simp only [bd3_some]
 rw [dF_ (by omega)]
 simp only [bF_, fF_, bd_some]
 rw [j_K (by omega) (by omega) (by omega) (by omega)]
 simp only [bd2_some]
 rw [m_A (by omega) (by omega) (by omega)]
 simp only [bd_some]
 rw [dF_ (show ¬ 1 + ((u.length : Nat) : Int) < 0 by omega)]
 simp only [bF_, fF_, bN_]
def okS (f : n_) : Prop := f.name.b.length ≤ 12 ∧ 0 ≤ f.version ∧ f.version ≤ 7 ∧ f.data.length ≤ 400
theorem m_T : ∀ (rs : List o_) (l : List n_), (∀ f ∈ l, okS f) → (∀ r ∈ rs, a_G r = true) → ∀ f ∈ rs.foldl b_s l, okS f
 | [], _, h, _ => h
 | r :: rs, l, h, hr => by
  refine m_T rs (b_s l r) ?_ (fun x hx => hr x (mT_ _ hx))
  have hv := d_x (hr r mS_)
  have h0 : okS (b_Z r) := ⟨hv.1, hv.2.1, hv.2.2.1, hv.2.2.2.1⟩
  intro f hf
  unfold b_s at hf
  split at hf
  ·split at hf
   ·rcases List.mem_or_eq_of_mem_set hf with hf | rfl
    ·exact h f hf
    ·exact h0
   ·exact h f (List.mem_of_mem_eraseIdx hf)
  ·split at hf
   ·rcases List.mem_append.1 hf with hf | hf
    ·exact h f hf
    ·rw [List.mem_singleton] at hf; subst hf; exact h0
   ·exact h f hf
theorem m_U (s : List UInt8) : ∀ f ∈ b_g s, okS f :=
 m_T _ _ (fun f hf => by cases hf) (e_1 _ s (Nat.le_refl _)).2.2
theorem q_U (a : C_) : ∀ f ∈ b_b a, okS f := by
 unfold b_b
 split
 ·exact m_U _
 ·intro f hf; cases hf
def c_l (f : n_) : Str := ⟨(((f.name.b ++ [32, 118]) ++ Lib.itoa f.version) ++ [32]) ++ Lib.itoa (f.data.length : Int)⟩
theorem m_V {f : n_} (h : okS f) : ∃ i : Nat, f.version = i ∧ i ≤ 7 := ⟨f.version.toNat, by have := h.2.1; omega, by have := h.2.2.1; omega⟩
theorem q_V {f : n_} (h : okS f) : g_R f = some (c_l f) := by
 have hLIM := a_e
 obtain ⟨i, hi, hi7⟩ := m_V h
 have h1 := h.1; have h4 := h.2.2.2
 have e1 := h_r i (by omega); have e2 := h_r f.data.length (by omega)
 unfold g_R g_v j_q c_l
 rw [hi] at *
 rw [c_n (by simp; omega), bd_some, bd_some, bd_some, c_n (by simp; omega), bd_some, c_n (by simp; omega), bd_some, bd_some, bd_some, c_n (by simp; omega), bd_some]
theorem q_W {f : n_} (h : okS f) {n : Nat} (hn : 30 ≤ n) {α : Type} (K : Str → Option α) : (bd (cat f.name (⟨[32, 118]⟩ : Str)) fun x530 => bd (c_P n f.version) fun r568 => bd (cat x530 r568) fun x574 => bd (cat x574 (⟨[32]⟩ : Str)) fun x577 => bd (c_P n (f.data.length : Int)) fun r582 => bd (cat x577 r582) fun x588 => K x588) = K (c_l f) := by
 have hLIM := a_e
 obtain ⟨i, hi, hi7⟩ := m_V h
 have h1 := h.1; have h4 := h.2.2.2
 have e1 := h_r i (by omega); have e2 := h_r f.data.length (by omega)
 unfold c_l
 rw [hi, l_m hn i (by omega), l_m hn f.data.length (by omega)]
 rw [c_n (by simp; omega), bd_some, bd_some, c_n (by simp; omega), bd_some, c_n (by simp; omega), bd_some, bd_some, c_n (by simp; omega), bd_some]
theorem k_m (f : n_) : ([c_l f] : List Str).length ≤ 1 := Nat.le_refl _
theorem q_X {a : C_} (h : SmA a) {n : Nat} (hn : 1060100 ≤ n) : f_9 n a = some ((b_b a).flatMap fun f => [c_l f]) := by
 have hLIM := a_e
 unfold f_9
 rw [m_s h hn, bd_some]
 have hl := h_R a; have ho := q_U a
 generalize b_b a = l at hl ho
 unfold i_f i_e
 rw [m_R (g := fun f => [c_l f]) k_m hl (fun k hk c hc => by
  rw [ix_ hk, bd_some, bd_some, iP_ rfl, q_V (ho _ (gE_ hk)), bd_some, a_Q (by omega), bd_some, bd_some])]
 rfl
theorem q_Y {a : C_} (h : SmA a) {n : Nat} (hn : 1060100 ≤ n) : g_T n a = some ((b_b a).flatMap fun f => [c_l f]) := by
 have hLIM := a_e; have hML := MLv
 unfold g_T b_b
 rw [m_t h hn, bd_some, m_r h hn]
 have hfl := m_u h.bytes
 obtain ⟨l, hle, hl1, hl2, ho⟩ : ∃ l : List n_, (if b_u a.log = true then b_g a.log.bytes else []) = l ∧ (b_a a = true → l.length ≤ 20 ∧ l = b_g a.log.bytes) ∧ l.length ≤ ML ∧ ∀ f ∈ l, okS f := by
  refine ⟨_, rfl, fun h => ?_, ?_, ?_⟩
  ·rw [iP_ (k_9 h)]; exact ⟨k_k h, rfl⟩
  ·split
   ·exact hfl
   ·simp
  ·split
   ·exact m_U _
   ·intro f hf; cases hf
 rw [hle]
 obtain ⟨k, hk⟩ := m_S (n := n) (l := l) (ok := b_a a) (g := fun f => [c_l f]) k_m (fun h => (hl1 h).1) (step := un2 fun x316 x324 => bd (α := Bool) (if (decide (x324 < (l.length : Int))) = true then bd (some (b_a a)) fun r381 => some r381 else some false) (fun x361 => if x361 = true then bd (idx l x324) fun x509 => bd (cat x509.name (⟨[32, 118]⟩ : Str)) fun x530 => bd (idx l x324) fun x533 => bd (idx l x324) fun x548 => bd (c_P n x533.version) fun r568 => bd (cat x530 r568) fun x574 => bd (cat x574 (⟨[32]⟩ : Str)) fun x577 => bd (c_P n (x548.data.length : Int)) fun r582 => bd (cat x577 r582) fun x588 => bd (psh x316 x588) fun x610 => some (.next (x610, c_ x324 1)) else some (.brk (x316, x324))))
  (fun k hk c hok hc => by
   simp only [un2]
   rw [dT_ (show (k : Int) < (l.length : Int) by omega), iP_ rfl, bd_some, bd_some, hok, iP_ rfl, ix_ hk]
   simp only [bd_some]
   refine (q_W (ho _ (gE_ hk)) (by omega) _).trans ?_
   rw [a_Q (by omega), bd_some, ia_ (by omega) (by omega)]; rfl)
  (fun c k hk => by
   simp only [un2]
   by_cases hkl : (k : Int) < (l.length : Int)
   ·rcases hk with hk | hk
    ·rw [dT_ hkl, iP_ rfl, bd_some, bd_some, hk]; rfl
    ·omega
   ·rw [dF_ hkl]; rfl) (by omega)
 rw [hk, bd_some, el_inl]
 cases ha : b_a a with
 | false => rfl
 | true => rw [(hl1 ha).2]; rfl
theorem q_Z {n : Nat} (hn : 4000000 ≤ n) {a : C_} (ha : LnA a) : g_U n a = some true := by
 have hMX := MXv
 unfold g_U
 obtain ⟨r, hr, hr2⟩ := m_L ha
 rw [hr, bd_some]
 by_cases h2 : r < 0
 ·rw [dT_ h2]; rfl
 rw [dF_ h2]
 obtain ⟨_, hs, hb, hm⟩ := hr2.resolve_left h2
 simp only [bF_, fF_, m_M hs hb, bd_some, q_Y hs (show 1060100 ≤ n by omega), q_X hs (show 1060100 ≤ n by omega), m_N, j_I, nT_]
 have hu := f_H (g := fun f => [c_l f]) k_m (b_b a)
 have hf := h_R a
 generalize ((b_b a).flatMap fun f => [c_l f]) = u at *
 have hx := m_O n a 1
 rw [m_P hs (by omega) (by omega) (by omega)]
 simp only [bd3_some]
 rw [dF_ (by omega)]
 simp only [bF_, fF_, bd_some]
 rw [j_K (by omega) (by omega) (by omega) (by omega)]
 simp only [bd2_some]
 rw [m_A (by omega) (by omega) (by omega)]
 simp only [bd_some]
 rw [dF_ (show ¬ 1 + ((u.length : Nat) : Int) < 0 by omega)]
 simp only [bF_, fF_, bN_]
end Go.Vw
