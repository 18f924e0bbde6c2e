import Derived.Test.YtfdcdeahjejlmaaGreatDoorVqP40
set_option linter.unusedVariables false
namespace Go.Vw
open Go.RowKit Dat
theorem i_f {α ρ : Type} {l : List α} {body : Nat → List α → Option (Out (List α) ρ)} (hl : l.length ≤ MX) (hb : ∀ k (hk : k < l.length) (c : List α), c.length ≤ MX → body k c = some (.next (c ++ [l[k]]))) :
  u_ body l.length 0 [] = some (.inl l) := by
 have h := d_A (body := body) (fun k => l.take k) (n := l.length) (s := []) rfl (fun k hk => by
  rw [hb k hk _ (by rw [List.length_take]; omega), f_N hk])
 rw [h, List.take_length]
theorem f_R {α : Type} {l : List α} (h : l.length ≤ ML) : app ([] : List α) l = some l := by
 have := MLv; have := a_l
 rw [b_d (by simp only [List.length_nil]; omega)]; rfl
theorem n_4 {r : c_} (h : SmR r) : h_7 r = some r := by
 have hMX := MXv; have hML := MLv
 have h1 := h.bytes; have h2 := h.names; have h3 := h.tags; have h4 := h.kids
 unfold h_7
 rw [f_R (by omega), bd_some, f_R (by omega), bd_some, f_R (by omega), bd_some, f_R (by omega), bd_some]
theorem q_Z {r : c_} (h : SmR r) : i_A r = some r := n_4 h
theorem r_0 {d : g_} (h : SmD d) : h_8 d = some d := by
 have hMX := MXv; have hLIM := a_l; have hr := h.rules
 unfold h_8
 rw [d_F (by omega), bd_some, i_f h.rules (fun k hk c hc => by
  rw [ix_ hk, bd_some, n_4 (h.each _ (gE_ hk)), bd_some, b_2 (by omega), bd_some])]
 rfl
theorem r_1 {d : g_} (h : SmD d) : h_3 d = some d := by
 have hMX := MXv; have hLIM := a_l; have hr := h.rules
 unfold h_3
 rw [i_f h.rules (fun k hk c hc => by
  rw [ix_ hk, bd_some, q_Z (h.each _ (gE_ hk)), bd_some, b_2 (by omega), bd_some])]
 rfl
theorem r_2 {r : B_} (hl : r.versions.length ≤ MX) (h : ∀ d ∈ r.versions, SmD d) : h_9 r = some r := by
 have hMX := MXv; have hLIM := a_l
 unfold h_9
 rw [ia_ (by omega) (by omega), show (r.versions.length : Int) + 1 = ((r.versions.length + 1 : Nat) : Int) from rfl, d_F (by omega), bd_some, i_f hl (fun k hk c hc => by
  rw [ix_ hk, bd_some, r_0 (h _ (gE_ hk)), bd_some, b_2 (by omega), bd_some])]
 rfl
theorem r_3 {r : B_} (hl : r.versions.length ≤ MX) (h : ∀ d ∈ r.versions, SmD d) : h_4 r = some r := by
 have hMX := MXv; have hLIM := a_l
 unfold h_4
 rw [i_f hl (fun k hk c hc => by
  rw [ix_ hk, bd_some, r_1 (h _ (gE_ hk)), bd_some, b_2 (by omega), bd_some])]
 rfl
theorem k_G {l : Log} (h : l.bytes.length ≤ ML) : f_a l = some l := by
 unfold f_a
 rw [f_R h, bd_some]
theorem n_5 {l : Log} (h : l.bytes.length ≤ ML) : h_5 l = some l := k_G h
theorem r_4 {a : w_} (h : SmA a) : h_a a = some a := by
 unfold h_a
 rw [r_2 h.len h.each, bd_some, k_G h.bytes, bd_some]
theorem r_5 {a : w_} (h : SmA a) : h_6 a = some a := by
 unfold h_6
 rw [r_3 h.len h.each, bd_some, n_5 h.bytes, bd_some]
theorem i_g (r : o_) : (a_r r).length ≤ 1001 := by
 unfold a_r
 cases hv : a_s r with
 | false => simp
 | true =>
  have := k_l hv
  simp only [fT_, List.length_append, lC_, List.length_nil]; omega
def e_G (l : Log) (r : o_) : Log × Bool := if (a_s r && b_o l) = true then (⟨l.bytes ++ a_r r, l.stored⟩, true) else (l, false)
theorem r_6 {l : Log} (h : l.bytes.length ≤ ML) (r : o_) {n : Nat} (hn : 1060100 ≤ n) : h_e n l r = some (e_G l r) := by
 have hML := MLv; have hLIM := a_l; have he := i_g r
 unfold h_e e_G
 rw [k_G h, bd_some, k_k (by omega), bd_some]
 cases a_s r with
 | false => rfl
 | true =>
  simp only [nT_, bF_, fF_, Bool.true_and]
  rw [m_I h hn, bd_some, bd_some]
  cases b_o l with
  | false => rfl
  | true =>
   simp only [nT_, bF_, fF_, fT_]
   rw [m_z (by omega), bd_some, b_d (by omega), bd_some]
theorem r_7 {l : Log} (h : l.bytes.length ≤ ML) (r : o_) {n : Nat} (hn : 1060100 ≤ n) : h_d n l r = some (e_G l r) := by
 have hML := MLv; have hLIM := a_l; have he := i_g r
 unfold h_d e_G
 rw [n_5 h, bd_some, k_q h hn, bd_some]
 cases b_o l with
 | false => cases a_s r <;> rfl
 | true =>
  simp only [nT_, bF_, fF_, Bool.and_true]
  rw [m_y, bd_some, bd_some]
  cases a_s r with
  | false => rfl
  | true =>
   simp only [nT_, bF_, fF_, fT_]
   rw [k_m (by omega), bd_some, b_d (by omega), bd_some]
def putA (a : w_) (r : o_) : w_ := ⟨a.registry, ⟨a.log.bytes ++ a_r r, a.log.stored⟩⟩
theorem r_8 {a : w_} (h : SmA a) (hb : a.log.bytes.length ≤ MX) (r : o_) : SmA (putA a r) := by
 have hML := MLv; have hMX := MXv; have he := i_g r
 exact ⟨h.len, h.each, by unfold putA; simp only [List.length_append]; omega⟩
end Go.Vw
