import Derived.Test.YtfdcdeahjejlmaaGreatDoorVqP40
set_option linter.unusedVariables false
namespace Go.Vw
open Go.RowKit Dat
theorem i_7 {α ρ : Type} {l : List α} {body : Nat → List α → Option (Out (List α) ρ)} (hl : l.length ≤ MX) (hb : ∀ k (hk : k < l.length) (c : List α), c.length ≤ MX → body k c = some (.next (c ++ [l[k]]))) :
  u_ body l.length 0 [] = some (.inl l) := by
 have h := d_c (body := body) (fun k => l.take k) (n := l.length) (s := []) rfl (fun k hk => by
  rw [hb k hk _ (by rw [List.length_take]; omega), e_B hk])
 rw [h, List.take_length]
theorem f_M {α : Type} {l : List α} (h : l.length ≤ ML) : app ([] : List α) l = some l := by
 have := MLv; have := a_k
 rw [b_b (by simp only [List.length_nil]; omega)]; rfl
theorem m_T {r : c_} (h : SmR r) : h_2 r = some r := by
 have hMX := MXv; have hML := MLv
 have h1 := h.bytes; have h2 := h.names; have h3 := h.tags; have h4 := h.kids
 unfold h_2
 rw [f_M (by omega), bd_some, f_M (by omega), bd_some, f_M (by omega), bd_some, f_M (by omega), bd_some]
theorem q_U {r : c_} (h : SmR r) : i_s r = some r := m_T h
theorem q_V {d : g_} (h : SmD d) : h_3 d = some d := by
 have hMX := MXv; have hLIM := a_k; have hr := h.rules
 unfold h_3
 rw [d_C (by omega), bd_some, i_7 h.rules (fun k hk c hc => by
  rw [ix_ hk, bd_some, m_T (h.each _ (gE_ hk)), bd_some, b_1 (by omega), bd_some])]
 rfl
theorem q_W {d : g_} (h : SmD d) : g_Z d = some d := by
 have hMX := MXv; have hLIM := a_k; have hr := h.rules
 unfold g_Z
 rw [i_7 h.rules (fun k hk c hc => by
  rw [ix_ hk, bd_some, q_U (h.each _ (gE_ hk)), bd_some, b_1 (by omega), bd_some])]
 rfl
theorem q_X {r : C_} (hl : r.versions.length ≤ MX) (h : ∀ d ∈ r.versions, SmD d) : h_4 r = some r := by
 have hMX := MXv; have hLIM := a_k
 unfold h_4
 rw [ia_ (by omega) (by omega), show (r.versions.length : Int) + 1 = ((r.versions.length + 1 : Nat) : Int) from rfl, d_C (by omega), bd_some, i_7 hl (fun k hk c hc => by
  rw [ix_ hk, bd_some, q_V (h _ (gE_ hk)), bd_some, b_1 (by omega), bd_some])]
 rfl
theorem q_Y {r : C_} (hl : r.versions.length ≤ MX) (h : ∀ d ∈ r.versions, SmD d) : h_0 r = some r := by
 have hMX := MXv; have hLIM := a_k
 unfold h_0
 rw [i_7 hl (fun k hk c hc => by
  rw [ix_ hk, bd_some, q_W (h _ (gE_ hk)), bd_some, b_1 (by omega), bd_some])]
 rfl
theorem m_U {l : Log} (h : l.bytes.length ≤ ML) : h_5 l = some l := by
 unfold h_5
 rw [f_M h, bd_some]
theorem q_Z {l : Log} (h : l.bytes.length ≤ ML) : i_t l = some l := m_U h
theorem r_0 {a : x_} (h : SmA a) : h_6 a = some a := by
 unfold h_6
 rw [q_X h.len h.each, bd_some, m_U h.bytes, bd_some]
theorem r_1 {a : x_} (h : SmA a) : h_1 a = some a := by
 unfold h_1
 rw [q_Y h.len h.each, bd_some, q_Z h.bytes, bd_some]
theorem k_s (r : p_) : (a_o r).length ≤ 1001 := by
 unfold a_o
 cases hv : a_P r with
 | false => simp
 | true =>
  have := k_a hv
  simp only [fT_, List.length_append, lC_, List.length_nil]; omega
end Go.Vw
