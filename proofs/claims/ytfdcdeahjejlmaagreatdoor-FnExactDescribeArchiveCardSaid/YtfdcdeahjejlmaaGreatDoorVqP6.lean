import Derived.Test.YtfdcdeahjejlmaaGreatDoorVqP4
set_option linter.unusedVariables false
namespace Go.Vw
open Go.RowKit Dat
theorem k_n {ρ : Type} (rd : Int → Nat → RR) (ks : List Int) (L : Nat) (er : Nat → Nat → Int → ρ) (body : Nat → Int × List Val → Option (Out (Int × List Val) ρ))
  (hbody : ∀ k (hk : k < ks.length) (p : Nat) vs, p ≤ L → vs.length ≤ k → body k ((p : Int), vs) = some (if (rd ks[k] p).2.2 = 0 then .next (((rd ks[k] p).2.1 : Int), vs ++ [(rd ks[k] p).1]) else .ret (er p (rd ks[k] p).2.1 (rd ks[k] p).2.2)))
  (hle : ∀ k ∈ ks, ∀ p, p ≤ L → (rd k p).2.1 ≤ L) : ∀ m k (p : Nat) vs, k + m = ks.length → p ≤ L → vs.length ≤ k →
  ∃ pe, w_ body m k ((p : Int), vs) = some (if (a_4 rd (ks.drop k) p).2.2 = 0 then .inl (((a_4 rd (ks.drop k) p).2.1 : Int), vs ++ (a_4 rd (ks.drop k) p).1) else .inr (er pe (a_4 rd (ks.drop k) p).2.1 (a_4 rd (ks.drop k) p).2.2))
 | 0, k, p, vs, hk, _, _ => by
  rw [List.drop_of_length_le (by omega)]
  exact ⟨0, by simp [w_, a_4]⟩
 | m + 1, k, p, vs, hk, hp, hv => by
  have hlt : k < ks.length := by omega
  rw [dC_ hlt]
  unfold w_ a_4
  rw [hbody k hlt p vs hp hv]
  by_cases h0 : (rd ks[k] p).2.2 = 0
  ·rw [iP_ h0, iP_ h0]
   obtain ⟨pe, h⟩ := k_n rd ks L er body hbody hle m (k + 1) (rd ks[k] p).2.1 (vs ++ [(rd ks[k] p).1]) (by omega) (hle _ (gE_ hlt) p hp) (by simp; omega)
   simp only
   rw [h]
   refine ⟨pe, ?_⟩
   by_cases h1 : (a_4 rd (ks.drop (k + 1)) (rd ks[k] p).2.1).2.2 = 0
   ·rw [iP_ h1, iP_ h1, iP_ rfl]; simp
   ·rw [iN_ h1, iN_ h1, iN_ h1]
  ·rw [iN_ h0, iN_ h0]
   simp only
   exact ⟨p, by rw [iN_ h0]⟩
section
variable {d : g_} {b : List UInt8}
def c_m (x : RR) : Val × Int × Int := (x.1, (x.2.1 : Int), x.2.2)
def d_D (x : List Val × Nat × Int) : Val × Int × Int := if x.2.2 = 0 then (⟨0, [], x.1⟩, (x.2.1 : Int), 0) else (zV, (x.2.1 : Int), x.2.2)
theorem m_W (v : Val) : (⟨v.number, v.bytes, v.items⟩ : Val) = v := by cases v; rfl
theorem r_0 {n : Nat} {r : e_} {num : Int} {ks : List Int} {i : Nat} (hk : k_d r) (hks : ∀ k (hk : k < ks.length), c_j r num k = ks[k])
  (hkk : ∀ k ∈ ks, 0 ≤ k ∧ k < (i : Int)) (h40 : ks.length ≤ 40) (ih : ∀ k, k < i → ∀ p, p ≤ b.length → h_X n d k b p = some (c_m (rdW d.rules b k p)))
  (hle : ∀ k, k < i → ∀ p, p ≤ b.length → (rdW d.rules b k p).2.1 ≤ b.length) {p : Nat} (hp : p ≤ b.length) :
  e_b (n + 1) d r num (ks.length : Int) b p = some (d_D (a_4 (fun k p => rdW d.rules b k.toNat p) ks p)) := by
 show f_Y n (a_6 n) d r num (ks.length : Int) b p = _
 unfold f_Y
 rw [show ((ks.length : Int)).toNat = ks.length from rfl]
 obtain ⟨pe, h⟩ := k_n (fun k p => rdW d.rules b k.toNat p) ks b.length (fun _ e c => (zV, (e : Int), c)) (fun k770 => (un2 fun x756 x758 => bd (α := Int × (List UInt8) × (List Val) × Int × Int) (bd (d_E r num ((k770 : Nat) : Int)) fun r1494 => bd3 ((a_6 n).spec_l11Read d r1494 b x756) fun r1518 r1519 r1520 => some (r1518.number, r1518.bytes, r1518.items, r1519, r1520)) (un5 fun x1404 x1406 x1414 x1425 x1427 => if (x1427 != 0) = true then some (.ret ((⟨0, ([] : List UInt8), ([] : List Val)⟩ : Val), x1425, x1427)) else bd (psh x758 (⟨x1404, x1406, x1414⟩ : Val)) fun x1809 => some (.next (x1425, x1809)))))
  (fun k hlt p vs hp hv => by
   have hkr := hkk _ (gE_ hlt)
   simp only [un2]
   rw [m_E hk, bd_some, hks k hlt]
   have hrd := ih ks[k].toNat (by omega) p hp
   rw [show ((ks[k].toNat : Nat) : Int) = ks[k] by omega] at hrd
   rw [show (a_6 n).spec_l11Read d ks[k] b p = h_X n d ks[k] b p from rfl, hrd]
   unfold c_m
   simp only [bd3_some, bd_some]
   generalize rdW d.rules b ks[k].toNat p = x
   show (if (x.2.2 != 0) = true then some (Out.ret (zV, (x.2.1 : Int), x.2.2)) else bd (psh vs (⟨x.1.number, x.1.bytes, x.1.items⟩ : Val)) fun y => some (.next ((x.2.1 : Int), y))) = _
   by_cases h0 : x.2.2 = 0
   ·rw [iP_ h0, h0]
    simp only [bN_, bF_, fF_]
    rw [a_Q (by rw [a_e]; omega), m_W]; rfl
   ·rw [iN_ h0, show (x.2.2 != 0) = true by simpa using h0]; rfl)
  (fun k hk p hp => by have := hkk k hk; exact hle k.toNat (by omega) p hp) ks.length 0 p [] (by omega) hp (Nat.zero_le _)
 rw [h]
 rw [List.drop_zero]
 unfold d_D
 generalize a_4 (fun k p => rdW d.rules b k.toNat p) ks p = x
 by_cases h0 : x.2.2 = 0
 ·rw [iP_ h0, iP_ h0]; rfl
 ·rw [iN_ h0, iN_ h0]; rfl
theorem r_1 (hv : a_m d = true) (hd : SmD d) (hb : b.length ≤ 400) : ∀ (i : Nat), i < d.rules.length → ∀ n, 3 * i + 410 ≤ n → ∀ at_, at_ ≤ b.length → h_X n d i b at_ = some (c_m (rdW d.rules b i at_)) := by
 have hMX := MXv
 intro i
 induction i using Nat.strongRecOn with
 | _ i ih =>
  intro hi n hn at_ ha
  have hlen := (h_L hv).2
  obtain ⟨m, rfl⟩ : ∃ m, n = m + 3 := ⟨n - 3, by omega⟩
  rw [k_j hv hi ha]
  have hr := h_M hv hi
  have hal := h_O hr.kind
  have hsm := hd.each d.rules[i] (gE_ hi)
  have hidx : idx d.rules (i : Int) = some d.rules[i] := ix_ hi
  generalize hrr : d.rules[i] = r at *
  have hkk := m_G hr.kind
  show f_X (m + 2) (a_6 (m + 2)) d i b at_ = _
  unfold f_X rdB
  rw [hidx, bd_some]
  have hle : ∀ k, k < i → ∀ p, p ≤ b.length → (rdW d.rules b k p).2.1 ≤ b.length := fun k hk p hp => (h_Q hv k (by omega) p hp).2
  have hit : ∀ q, m ≤ q → ∀ (num : Int) (ks : List Int), (∀ k (hk : k < ks.length), c_j r num k = ks[k]) → (∀ k ∈ ks, k ∈ r.kids) → ks.length ≤ 40 → ∀ p, p ≤ b.length →
    e_b (q + 1) d r num (ks.length : Int) b p = some (d_D (a_4 (fun k p => rdW d.rules b k.toNat p) ks p)) := fun q hq num ks h1 h2 h3 p hp =>
   r_0 hkk h1 (fun k hk => hr.kids k (h2 k hk)) h3 (fun k hk p hp => ih k hk (by omega) q (by omega) p hp) hle hp
  by_cases h1 : r.kind = 1
  ·rw [h1]; simp only [bQ_, fT_]
   rw [k_c hidx (k_e hr.kind h1) (by omega) ha]
   cases a_r b r at_ <;> rfl
  rw [show (r.kind == 1) = false by simpa using h1]
  by_cases h2 : r.kind = 2
  ·rw [h2]; simp only [bQ_, fT_, bF_, fF_]
   rw [q_I (by omega) ha hsm.bytes]; rfl
  rw [show (r.kind == 2) = false by simpa using h2]
  by_cases h3 : r.kind = 3
  ·rw [h3]; simp only [bQ_, fT_, bF_, fF_]
   have := k_f hr.kind h3
   rw [m_C (by omega) ha (by omega) (by omega)]; rfl
  rw [show (r.kind == 3) = false by simpa using h3]
  by_cases h10 : r.kind = 10
  ·rw [h10]; simp only [bQ_, fT_, bF_, fF_, show ((10 : Int) == 4) = false from rfl]
   have hb1 := m_F hr.kind h10
   rw [d_h (by omega), bd_some, a_W (show 0 < r.bytes.length by omega), p_Y _ _ _ _ (by omega) ha (by omega)]
   cases d_e b at_ r.bytes[0] <;> rfl
  rw [show (r.kind == 10) = false by simpa using h10]
  by_cases h6 : r.kind = 6
  ·rw [h6]; simp only [bQ_, fT_, bF_, fF_, show ((6 : Int) == 4) = false from rfl]
   have hs := k_h hr.kind h6
   rw [show (a_6 (m + 2)).spec_l11Items d r 0 (r.kids.length : Int) b at_ = e_b ((m + 1) + 1) d r 0 (r.kids.length : Int) b at_ from rfl]
   rw [hit (m + 1) (by omega) 0 r.kids (fun k hk => by unfold c_j; rw [h6]; simp [hk]) (fun k hk => hk) (by omega) at_ ha]
   rw [show a_v d.rules b r at_ = .inr (0, r.kids, at_) by unfold a_v; rw [h6]; rfl]
   simp only
   unfold d_D c_m b_l
   generalize a_4 (fun k p => rdW d.rules b k.toNat p) r.kids at_ = x
   rw [h6]
   by_cases h0 : x.2.2 = 0
   ·rw [iP_ h0, iP_ h0]; rfl
   ·rw [iN_ h0, iN_ h0]; rfl
  rw [show (r.kind == 6) = false by simpa using h6]
  by_cases h7 : r.kind = 7
  ·rw [h7]; simp only [bQ_, fT_, bF_, fF_, show ((7 : Int) == 4) = false from rfl]
   have hs := h_N hr.kind h7
   have hq := d_B hs.1
   rw [show (a_6 (m + 2)).spec_l11Choice d r b at_ = f_Z (m + 1) (a_6 (m + 1)) d r b at_ from rfl]
   unfold f_Z
   rw [c_g (by omega), bd_some, k_c hq.1 hq.2 (by omega) ha]
   have hhd : a_v d.rules b r at_ = (match a_r b (Z_ d.rules (I_ r)) at_ with | none => .inl 1 | some n => match b_k r.tags n with | none => .inl 3 | some k => .inr (n, [r.kids.getD (k + 1) 0], at_ + (Z_ d.rules (I_ r)).size.toNat)) := by unfold a_v; rw [h7]; rfl
   rw [hhd]
   cases hi : a_r b (Z_ d.rules (I_ r)) at_ with
   | none => rfl
   | some num =>
    have hrg := c_M hq.2 hi
    simp only [bd3_some, nT_, bF_, fF_]
    rw [show d_E r num 0 = some (c_j r num 0) from m_E hkk num 0, bd_some]
    have hitem : c_j r num 0 = (match b_k r.tags num with | some k => r.kids.getD (k + 1) 0 | none => -1) := by unfold c_j; rw [h7]; rfl
    rw [hitem]
    cases ht : b_k r.tags num with
    | none => rfl
    | some k =>
     have htl := k_i ht
     have hmem : r.kids.getD (k + 1) 0 ∈ r.kids := c_k (by omega)
     have hk0 := hr.kids _ hmem
     simp only
     rw [dF_ (show ¬ r.kids.getD (k + 1) 0 < 0 by omega)]
     simp only [bF_, fF_]
     rw [show (a_6 (m + 1)).spec_l11Items d r num 1 b ((at_ + (Z_ d.rules (I_ r)).size.toNat : Nat) : Int) = e_b (m + 1) d r num (([r.kids.getD (k + 1) 0].length : Nat) : Int) b ((at_ + (Z_ d.rules (I_ r)).size.toNat : Nat) : Int) from rfl]
     rw [hit m (by omega) num [r.kids.getD (k + 1) 0] (fun j hj => by
      have : j = 0 := by simpa using hj
      subst this
      rw [hitem, ht]; rfl) (fun k' hk' => by rw [List.mem_singleton.1 hk']; exact hmem) (by simp) _ (by omega)]
     unfold d_D c_m b_l
     generalize a_4 (fun k p => rdW d.rules b k.toNat p) [r.kids.getD (k + 1) 0] (at_ + (Z_ d.rules (I_ r)).size.toNat) = x
     rw [h7]
     by_cases h0 : x.2.2 = 0
     ·rw [iP_ h0, iP_ h0]; rfl
     ·rw [iN_ h0, iN_ h0]
      simp only [bd3_some]
      rw [show (x.2.2 == 0) = false by simpa using h0]
      rfl
  rw [show (r.kind == 7) = false by simpa using h7]
  by_cases h8 : r.kind = 8
  ·rw [h8]; simp only [bQ_, fT_, bF_, fF_, show ((8 : Int) == 4) = false from rfl]
   have hs := d_C hr.kind (.inl h8)
   rw [show (a_6 (m + 2)).spec_l11Option d r b at_ = g_0 (m + 1) (a_6 (m + 1)) d r b at_ from rfl]
   unfold g_0
   have hhd : a_v d.rules b r at_ = (match b[at_]? with | none => .inl 1 | some c => if 1 < byteI c then .inl 4 else .inr (0, List.replicate c.toNat (r.kids.getD 0 0), at_ + 1)) := by unfold a_v; rw [h8]; rfl
   rw [hhd]
   by_cases hlt : at_ < b.length
   ·rw [dF_ (show ¬ (b.length : Int) ≤ (at_ : Int) by omega), ix_ hlt, gG_ hlt]
    simp only [bF_, fF_, bd_some]
    by_cases hc : 1 < byteI b[at_]
    ·rw [iP_ hc, dT_ (show byteI (1 : UInt8) < byteI b[at_] from hc)]; rfl
    ·rw [iN_ hc, dF_ (show ¬ byteI (1 : UInt8) < byteI b[at_] from hc)]
     simp only [bF_, fF_]
     rw [ia_ (x := (at_ : Int)) (by omega) (by omega)]
     rw [show (a_6 (m + 1)).spec_l11Items d r 0 (byteI b[at_]) b ((at_ : Int) + 1) = e_b (m + 1) d r 0 (((List.replicate b[at_].toNat (r.kids.getD 0 0)).length : Nat) : Int) b ((at_ + 1 : Nat) : Int) by rw [List.length_replicate]; rfl]
     rw [hit m (by omega) 0 _ (fun j hj => by unfold c_j; rw [h8]; simp) (fun k' hk' => by rw [List.eq_of_mem_replicate hk']; exact c_k (by omega)) (by unfold byteI at hc; simp; omega) _ (by omega)]
     unfold d_D c_m b_l
     generalize a_4 (fun k p => rdW d.rules b k.toNat p) (List.replicate b[at_].toNat (r.kids.getD 0 0)) (at_ + 1) = x
     rw [h8]
     by_cases h0 : x.2.2 = 0
     ·rw [iP_ h0, iP_ h0]; rfl
     ·rw [iN_ h0, iN_ h0]; rfl
   ·rw [dT_ (show (b.length : Int) ≤ (at_ : Int) by omega), gN_ (by omega)]; rfl
  rw [show (r.kind == 8) = false by simpa using h8]
  by_cases h9 : r.kind = 9
  ·rw [h9]; simp only [bQ_, fT_, bF_, fF_, show ((9 : Int) == 4) = false from rfl]
   have hs := d_C hr.kind (.inr h9)
   rw [show (a_6 (m + 2)).spec_l11Checked d r b at_ = g_1 (m + 1) (a_6 (m + 1)) d r b at_ from rfl]
   unfold g_1
   rw [show a_v d.rules b r at_ = .inr (0, [r.kids.getD 0 0], at_) by unfold a_v; rw [h9]; rfl]
   rw [show (a_6 (m + 1)).spec_l11Items d r 0 1 b (at_ : Int) = e_b (m + 1) d r 0 (([r.kids.getD 0 0].length : Nat) : Int) b (at_ : Int) from rfl]
   rw [hit m (by omega) 0 [r.kids.getD 0 0] (fun j hj => by
    have : j = 0 := by simpa using hj
    subst this
    unfold c_j; rw [h9]; rfl) (fun k' hk' => by rw [List.mem_singleton.1 hk']; exact c_k (by omega)) (by simp) _ ha]
   simp only
   have hx := h_P (rd := fun k p => rdW d.rules b k.toNat p) (L := b.length) [r.kids.getD 0 0] at_ ha (fun k hk p hp => by
    have hmem : k ∈ r.kids := by rw [List.mem_singleton.1 hk]; exact c_k (by omega)
    have := hr.kids k hmem
    exact h_Q hv k.toNat (by omega) p hp)
   unfold d_D c_m b_l
   generalize a_4 (fun k p => rdW d.rules b k.toNat p) [r.kids.getD 0 0] at_ = x at hx
   rw [h9]
   by_cases h0 : x.2.2 = 0
   ·rw [iP_ h0, iP_ h0]
    simp only [bd3_some, bN_, bF_, fF_, bQ_, fT_]
    by_cases hlt : x.2.1 < b.length
    ·rw [dF_ (show ¬ (b.length : Int) ≤ (x.2.1 : Int) by omega), ix_ hlt, gG_ hlt]
     simp only [bF_, fF_, bd_some]
     rw [f_D hx.1 (by omega), bd_some, l_J, bd_some, ia_ (x := (x.2.1 : Int)) (by omega) (by omega)]
     by_cases hsum : byteI b[x.2.1] = b_X (b_j b at_ x.2.1)
     ·rw [iP_ hsum, show (byteI b[x.2.1] != b_X (b_j b at_ x.2.1)) = false by simpa using hsum]; rfl
     ·rw [iN_ hsum, show (byteI b[x.2.1] != b_X (b_j b at_ x.2.1)) = true by simpa using hsum]; rfl
    ·rw [dT_ (show (b.length : Int) ≤ (x.2.1 : Int) by omega), gN_ (by omega)]; rfl
   ·rw [iN_ h0, iN_ h0]
    simp only [bd3_some]
    rw [show (x.2.2 != 0) = true by simpa using h0]; rfl
  rw [show (r.kind == 9) = false by simpa using h9]
  simp only [bF_, fF_]
  have h45 : r.kind = 4 ∨ r.kind = 5 := by omega
  have hlim : 0 < lim d.rules (I_ r) ∧ 0 < r.kids.length := by
   rcases h45 with h | h
   ·have := k_g hr.kind h; exact ⟨this.1, by omega⟩
   ·have := f_F hr.kind h; exact ⟨this.1, by omega⟩
  have hq := d_B hlim.1
  rw [c_g hlim.2, bd_some, k_c hq.1 hq.2 (by omega) ha]
  rcases h45 with h4 | h5
  ·rw [h4]; simp only [bQ_, fT_]
   cases hi : a_r b (Z_ d.rules (I_ r)) at_ with
   | none => rfl
   | some num =>
    have hrg := c_M hq.2 hi
    simp only [bd3_some, nT_, bF_, fF_]
    rw [m_C (by omega) (by omega) (by omega) (by omega)]; rfl
  ·rw [h5]; simp only [show ((5 : Int) == 4) = false from rfl, bF_, fF_]
   have hs := f_F hr.kind h5
   have hhd : a_v d.rules b r at_ = (match a_r b (Z_ d.rules (I_ r)) at_ with | none => .inl 1 | some n => if 40 < n then .inl 6 else .inr (0, List.replicate n.toNat (r.kids.getD 1 0), at_ + (Z_ d.rules (I_ r)).size.toNat)) := by unfold a_v; rw [h5]; rfl
   rw [hhd]
   cases hi : a_r b (Z_ d.rules (I_ r)) at_ with
   | none => rfl
   | some num =>
    have hrg := c_M hq.2 hi
    simp only [bd3_some, nT_, bF_, fF_]
    by_cases h40 : 40 < num
    ·rw [dT_ h40, iP_ h40]; rfl
    ·rw [dF_ h40, iN_ h40]
     simp only [bF_, fF_]
     rw [show (a_6 (m + 2)).spec_l11Items d r 0 num b ((at_ + (Z_ d.rules (I_ r)).size.toNat : Nat) : Int) = e_b ((m + 1) + 1) d r 0 (((List.replicate num.toNat (r.kids.getD 1 0)).length : Nat) : Int) b ((at_ + (Z_ d.rules (I_ r)).size.toNat : Nat) : Int) by rw [List.length_replicate, show ((num.toNat : Nat) : Int) = num by omega]; rfl]
     rw [hit (m + 1) (by omega) 0 _ (fun j hj => by unfold c_j; rw [h5]; simp) (fun k' hk' => by rw [List.eq_of_mem_replicate hk']; exact c_k (by omega)) (by simp; omega) _ (by omega)]
     unfold d_D c_m b_l
     generalize a_4 (fun k p => rdW d.rules b k.toNat p) (List.replicate num.toNat (r.kids.getD 1 0)) (at_ + (Z_ d.rules (I_ r)).size.toNat) = x
     rw [h5]
     by_cases h0 : x.2.2 = 0
     ·rw [iP_ h0, iP_ h0]; rfl
     ·rw [iN_ h0, iN_ h0]; rfl
end
end Go.Vw
set_option linter.unusedVariables false
namespace Go.Vw
open Go.RowKit Dat
theorem r_2 {ts : List Int} {n : Int} {k : Nat} (h : b_k ts n = some k) : k < ts.length ∧ ts.getD k 0 = n ∧ ∀ j, j < k → ts.getD j 0 ≠ n := by
 have hlt := k_i h
 unfold b_k at h
 obtain ⟨hp, as, bs, hl, has⟩ := List.find?_eq_some_iff_append.1 h
 refine ⟨hlt, by simpa using hp, fun j hj => ?_⟩
 have hlen : as.length < ts.length := by have := congrArg List.length hl; simp at this; omega
 have hke : as.length = k := by
  have h2 : (List.range ts.length)[as.length]? = some k := by rw [hl]; simp
  rw [List.getElem?_range hlen] at h2
  exact Option.some.inj h2
 have hj' : j < as.length := by omega
 have h2 : (List.range ts.length)[j]? = some (as[j]) := by rw [hl, List.getElem?_append_left hj']; simp
 rw [List.getElem?_range (by omega)] at h2
 have h3 := has as[j] (gE_ hj')
 rw [← Option.some.inj h2] at h3
 simpa using h3
theorem r_3 {ts : List Int} {n : Int} (h : b_k ts n = none) : ∀ j, j < ts.length → ts.getD j 0 ≠ n := fun j hj => by
 have := List.find?_eq_none.1 h j (List.mem_range.2 hj)
 simpa using this
theorem m_X {l : List Int} (h : l.length = 1) : l = [l.getD 0 0] := by
 cases l with
 | nil => cases h
 | cons a t =>
  cases t with
  | nil => rfl
  | cons _ _ => simp at h
theorem m_Y {b : List UInt8} {p : Nat} (h : p < b.length) : b_j b p (p + 1) = [b[p]] := by
 unfold b_j
 rw [List.take_add_one, gG_ h, Option.toList_some, List.drop_append_of_le_length (by simp; omega), List.drop_of_length_le (by simp; omega)]
 rfl
theorem r_4 {l : List Int} {k : Nat} (h : k + 1 < l.length) (hl : l.length ≤ MX) : slc l ((k + 1 : Nat) : Int) (c_ (k : Int) 2) = some [l.getD (k + 1) 0] := by
 have := MXv
 rw [ia_ (x := (k : Int)) (by omega) (by omega), e_6 (by omega) (by omega) (by omega), show ((k : Int) + 2).toNat = (k + 1) + 1 by omega, show (((k + 1 : Nat) : Int)).toNat = k + 1 from rfl, List.take_add_one, gG_ h, Option.toList_some, List.drop_append_of_le_length (by simp; omega), List.drop_of_length_le (by simp; omega), a_W h]
 rfl
theorem r_5 {α : Type} (m k : Nat) (z x : α) (h : k < m) : (List.replicate k x ++ List.replicate (m - k) z).set k x = List.replicate (k + 1) x ++ List.replicate (m - (k + 1)) z := by
 rw [List.set_append_right _ _ (by simp), List.length_replicate, Nat.sub_self, show m - k = (m - (k + 1)) + 1 by omega, List.replicate_succ, List.set_cons_zero, List.replicate_succ', List.append_assoc]
 rfl
theorem r_6 {ρ : Type} {ks : List Int} {x : Int} (hx : idx ks 1 = some x) (m : Nat) : w_ (σ := List Int) (ρ := ρ) (fun k239 => (fun x228 => bd (idx ks 1) fun x284 => bd (upd x228 ((k239 : Nat) : Int) x284) fun x300 => some (.next x300))) m 0 (List.replicate m 0) = some (.inl (List.replicate m x)) := by
 have h := b_n (n := m) (σ := List Int) (ρ := ρ) (body := (fun k239 => (fun x228 => bd (idx ks 1) fun x284 => bd (upd x228 ((k239 : Nat) : Int) x284) fun x300 => some (.next x300)))) (fun k => List.replicate k x ++ List.replicate (m - k) 0) (fun j hj => by
  rw [hx, bd_some, c_2 (by simp; omega), bd_some, r_5 m j 0 x hj])
 simpa using h
section
variable {d : g_} {b : List UInt8}
def c_1 (x : RR) (nx : Int) : Val × Int × Option (Int × Int) := if x.2.2 = 0 then (x.1, (x.2.1 : Int), none) else (zV, nx, some ((x.2.1 : Int), x.2.2))
def d_g (v : Val) (x : List Val × Nat × Int) (nx : Int) : Val × Int × Option (Int × Int) := if x.2.2 = 0 then (⟨v.number, v.bytes, x.1⟩, (x.2.1 : Int), none) else (zV, nx, some ((x.2.1 : Int), x.2.2))
theorem r_7 {n : Nat} {r : e_} {ks : List Int} {i : Nat} (v : Val) (hv0 : v.items = [])
  (hkk : ∀ k ∈ ks, 0 ≤ k ∧ k < (i : Int)) (h40 : ks.length ≤ 40) (ih : ∀ k, k < i → ∀ p, p ≤ b.length → ∃ nx, h_Y n ⟨d, b⟩ k p = some (c_1 (rdW d.rules b k p) nx))
  (hle : ∀ k, k < i → ∀ p, p ≤ b.length → (rdW d.rules b k p).2.1 ≤ b.length) {p : Nat} (hp : p ≤ b.length) :
  ∃ nx, e_e (n + 1) ⟨d, b⟩ v ks p = some (d_g v (a_4 (fun k p => rdW d.rules b k.toNat p) ks p) nx) := by
 show ∃ nx, g_l n (Y_ n) ⟨d, b⟩ v ks p = _
 unfold g_l
 obtain ⟨pe, h⟩ := k_n (fun k p => rdW d.rules b k.toNat p) ks b.length (fun p e c => (zV, (p : Int), some ((e : Int), c))) (fun k341 => (un2 fun x327 x329 => bd (idx ks ((k341 : Nat) : Int)) fun x495 => bd3 ((Y_ n).impl_fileReader_value ⟨d, b⟩ x495 x327) fun r519 r520 r521 => if r521.isSome = true then some (.ret ((⟨0, ([] : List UInt8), ([] : List Val)⟩ : Val), x327, r521)) else bd (psh x329 r519) fun x644 => some (.next (r520, x644))))
  (fun k hlt p vs hp hv => by
   have hkr := hkk _ (gE_ hlt)
   obtain ⟨nx, hrd⟩ := ih ks[k].toNat (by omega) p hp
   rw [show ((ks[k].toNat : Nat) : Int) = ks[k] by omega] at hrd
   simp only [un2]
   rw [ix_ hlt, bd_some, show (Y_ n).impl_fileReader_value ⟨d, b⟩ ks[k] p = h_Y n ⟨d, b⟩ ks[k] p from rfl, hrd]
   unfold c_1
   generalize rdW d.rules b ks[k].toNat p = x
   by_cases h0 : x.2.2 = 0
   ·rw [iP_ h0, iP_ h0]
    simp only [bd3_some, Option.isSome_none, bF_, fF_]
    rw [a_Q (by rw [a_e]; omega)]; rfl
   ·rw [iN_ h0, iN_ h0]; rfl)
  (fun k hk p hp => by have := hkk k hk; exact hle k.toNat (by omega) p hp) ks.length 0 p [] (by omega) hp (Nat.zero_le _)
 rw [hv0, h, List.drop_zero]
 unfold d_g
 generalize a_4 (fun k p => rdW d.rules b k.toNat p) ks p = x
 by_cases h0 : x.2.2 = 0
 ·rw [iP_ h0]; exact ⟨0, by rw [iP_ h0]; rfl⟩
 ·rw [iN_ h0]
  exact ⟨pe, by rw [iN_ h0]; rfl⟩
theorem r_8 (hv : a_m d = true) (hd : SmD d) (hb : b.length ≤ 400) : ∀ (i : Nat), i < d.rules.length → ∀ n, 3 * i + 410 ≤ n → ∀ at_, at_ ≤ b.length → ∃ nx, h_Y n ⟨d, b⟩ i at_ = some (c_1 (rdW d.rules b i at_) nx) := by
 have hMX := MXv
 intro i
 induction i using Nat.strongRecOn with
 | _ i ih =>
  intro hi n hn at_ ha
  have hlen := (h_L hv).2
  obtain ⟨m, rfl⟩ : ∃ m, n = m + 3 := ⟨n - 3, by omega⟩
  rw [k_j hv hi ha]
  have hr := h_M hv hi
  have hal := h_O hr.kind
  have hsm := hd.each d.rules[i] (gE_ hi)
  have hidx : idx d.rules (i : Int) = some d.rules[i] := ix_ hi
  generalize hrr : d.rules[i] = r at *
  have hkk := m_G hr.kind
  show ∃ nx, g_j (m + 2) (Y_ (m + 2)) ⟨d, b⟩ i at_ = _
  unfold g_j rdB
  simp only
  rw [hidx, bd_some]
  have hle : ∀ k, k < i → ∀ p, p ≤ b.length → (rdW d.rules b k p).2.1 ≤ b.length := fun k hk p hp => (h_Q hv k (by omega) p hp).2
  have hit : ∀ q, m ≤ q → ∀ (v : Val) (ks : List Int), v.items = [] → (∀ k ∈ ks, k ∈ r.kids) → ks.length ≤ 40 → ∀ p, p ≤ b.length →
    ∃ nx, e_e (q + 1) ⟨d, b⟩ v ks p = some (d_g v (a_4 (fun k p => rdW d.rules b k.toNat p) ks p) nx) := fun q hq v ks h1 h2 h3 p hp =>
   r_7 (r := r) v h1 (fun k hk => hr.kids k (h2 k hk)) h3 (fun k hk p hp => ih k hk (by omega) q (by omega) p hp) hle hp
  by_cases h1 : r.kind = 1
  ·rw [h1]; simp only [bQ_, fT_]
   rw [h_K hidx (k_e hr.kind h1) (by omega) ha]
   cases a_r b r at_ with
   | none => exact ⟨_, rfl⟩
   | some n => exact ⟨0, rfl⟩
  rw [show (r.kind == 1) = false by simpa using h1]
  by_cases h2 : r.kind = 2
  ·rw [h2]; simp only [bQ_, fT_, bF_, fF_]
   rw [q_J (by omega) ha hsm.bytes]
   unfold c_1
   by_cases h0 : (b_F b r.bytes at_).2 = 0
   ·rw [iP_ h0]; exact ⟨0, by rw [iP_ h0]; rfl⟩
   ·rw [iN_ h0]; exact ⟨_, by rw [iN_ h0]; rfl⟩
  rw [show (r.kind == 2) = false by simpa using h2]
  by_cases h3 : r.kind = 3
  ·rw [h3]; simp only [bQ_, fT_, bF_, fF_]
   have := k_f hr.kind h3
   rw [m_D (by omega) ha (by omega) (by omega)]
   unfold c_1
   by_cases h0 : (a_X b at_ r.size).2.2 = 0
   ·rw [iP_ h0]; exact ⟨0, by rw [iP_ h0]; rfl⟩
   ·rw [iN_ h0]; exact ⟨_, by rw [iN_ h0]; rfl⟩
  rw [show (r.kind == 3) = false by simpa using h3]
  by_cases h4 : r.kind = 4
  ·rw [h4]; simp only [bQ_, fT_, bF_, fF_]
   have hs := k_g hr.kind h4
   have hq := d_B hs.1
   rw [c_g (by omega), bd_some, h_K hq.1 hq.2 (by omega) ha]
   cases hi : a_r b (Z_ d.rules (I_ r)) at_ with
   | none => exact ⟨_, rfl⟩
   | some num =>
    have hrg := c_M hq.2 hi
    simp only [bd3_some, Option.isSome_none, bF_, fF_]
    rw [m_D (by omega) (by omega) (by omega) (by omega)]
    unfold c_1
    by_cases h0 : (a_X b (at_ + (Z_ d.rules (I_ r)).size.toNat) num).2.2 = 0
    ·rw [iP_ h0]; exact ⟨0, by rw [iP_ h0]; rfl⟩
    ·rw [iN_ h0]; exact ⟨_, by rw [iN_ h0]; rfl⟩
  rw [show (r.kind == 4) = false by simpa using h4]
  by_cases h10 : r.kind = 10
  ·rw [h10]; simp only [bQ_, fT_, bF_, fF_, show ((10 : Int) == 5) = false from rfl, show ((10 : Int) == 6) = false from rfl, show ((10 : Int) == 7) = false from rfl, show ((10 : Int) == 8) = false from rfl, show ((10 : Int) == 9) = false from rfl]
   have hb1 := m_F hr.kind h10
   rw [d_h (by omega), bd_some, a_W (show 0 < r.bytes.length by omega), p_X _ _ _ _ (by omega) ha (by omega)]
   cases d_e b at_ r.bytes[0] with
   | none => exact ⟨_, rfl⟩
   | some x => exact ⟨0, rfl⟩
  rw [show (r.kind == 10) = false by simpa using h10]
  by_cases h5 : r.kind = 5
  ·rw [h5]; simp only [bQ_, fT_, bF_, fF_]
   have hs := f_F hr.kind h5
   have hq := d_B hs.1
   rw [show (Y_ (m + 2)).impl_fileReader_array ⟨d, b⟩ r at_ = g_k (m + 1) (Y_ (m + 1)) ⟨d, b⟩ r at_ from rfl]
   unfold g_k b_p
   rw [c_g (by omega), bd_some, h_K hq.1 hq.2 (by omega) ha]
   have hhd : a_v d.rules b r at_ = (match a_r b (Z_ d.rules (I_ r)) at_ with | none => .inl 1 | some n => if 40 < n then .inl 6 else .inr (0, List.replicate n.toNat (r.kids.getD 1 0), at_ + (Z_ d.rules (I_ r)).size.toNat)) := by unfold a_v; rw [h5]; rfl
   rw [hhd]
   cases hi : a_r b (Z_ d.rules (I_ r)) at_ with
   | none => exact ⟨_, rfl⟩
   | some num =>
    have hrg := c_M hq.2 hi
    simp only [bd3_some, Option.isSome_none, bF_, fF_]
    by_cases h40 : 40 < num
    ·rw [dT_ h40, iP_ h40]; exact ⟨_, rfl⟩
    ·rw [dF_ h40, iN_ h40]
     simp only [bF_, fF_]
     rw [r_d (by omega) (by rw [a_e]; omega), bd_some, List.length_replicate]
     rw [r_6 (x := r.kids.getD 1 0) (by rw [n_1 (by omega), a_W (by omega)]) num.toNat]
     simp only [bd_some, el_inl]
     rw [show (Y_ (m + 1)).impl_fileReader_items = e_e (m + 1) from rfl]
     obtain ⟨nx, h⟩ := hit m (by omega) zV (List.replicate num.toNat (r.kids.getD 1 0)) rfl (fun k' hk' => by rw [List.eq_of_mem_replicate hk']; exact c_k (by omega)) (by simp; omega) (at_ + (Z_ d.rules (I_ r)).size.toNat) (by omega)
     rw [h]
     unfold d_g c_1 b_l
     generalize a_4 (fun k p => rdW d.rules b k.toNat p) (List.replicate num.toNat (r.kids.getD 1 0)) (at_ + (Z_ d.rules (I_ r)).size.toNat) = x
     rw [h5]
     refine ⟨nx, ?_⟩
     by_cases h0 : x.2.2 = 0
     ·rw [iP_ h0, iP_ h0]; rfl
     ·rw [iN_ h0, iN_ h0]
      simp only [iN_ h0]; rfl
  rw [show (r.kind == 5) = false by simpa using h5]
  by_cases h6 : r.kind = 6
  ·rw [h6]; simp only [bQ_, fT_, bF_, fF_]
   have hs := k_h hr.kind h6
   rw [show (Y_ (m + 2)).impl_fileReader_items = e_e ((m + 1) + 1) from rfl]
   obtain ⟨nx, h⟩ := hit (m + 1) (by omega) zV r.kids rfl (fun k hk => hk) (by omega) at_ ha
   rw [h]
   rw [show a_v d.rules b r at_ = .inr (0, r.kids, at_) by unfold a_v; rw [h6]; rfl]
   simp only
   unfold d_g c_1 b_l
   generalize a_4 (fun k p => rdW d.rules b k.toNat p) r.kids at_ = x
   rw [h6]
   refine ⟨nx, ?_⟩
   by_cases h0 : x.2.2 = 0
   ·rw [iP_ h0, iP_ h0]; rfl
   ·rw [iN_ h0, iN_ h0]
    simp only [iN_ h0]; rfl
  rw [show (r.kind == 6) = false by simpa using h6]
  by_cases h7 : r.kind = 7
  ·rw [h7]; simp only [bQ_, fT_, bF_, fF_]
   have hs := h_N hr.kind h7
   have hq := d_B hs.1
   rw [show (Y_ (m + 2)).impl_fileReader_choice ⟨d, b⟩ r at_ = g_m (m + 1) (Y_ (m + 1)) ⟨d, b⟩ r at_ from rfl]
   unfold g_m b_p
   rw [c_g (by omega), bd_some, h_K hq.1 hq.2 (by omega) ha]
   have hhd : a_v d.rules b r at_ = (match a_r b (Z_ d.rules (I_ r)) at_ with | none => .inl 1 | some n => match b_k r.tags n with | none => .inl 3 | some k => .inr (n, [r.kids.getD (k + 1) 0], at_ + (Z_ d.rules (I_ r)).size.toNat)) := by unfold a_v; rw [h7]; rfl
   rw [hhd]
   cases hi : a_r b (Z_ d.rules (I_ r)) at_ with
   | none => exact ⟨_, rfl⟩
   | some num =>
    have hrg := c_M hq.2 hi
    simp only [bd3_some, Option.isSome_none, bF_, fF_]
    cases ht : b_k r.tags num with
    | none =>
     have htn := r_3 ht
     rw [b_n (fun _ => ()) (n := r.tags.length) (fun j hj => by
      have := htn j hj
      rw [a_W hj] at this
      rw [ix_ hj, bd_some, show (r.tags[j] == num) = false by simpa using this]; rfl)]
     exact ⟨_, rfl⟩
    | some k =>
     obtain ⟨htl, hte, htb⟩ := r_2 ht
     have hmem : r.kids.getD (k + 1) 0 ∈ r.kids := c_k (by omega)
     obtain ⟨nx, h⟩ := hit m (by omega) ⟨num, [], []⟩ [r.kids.getD (k + 1) 0] rfl (fun k' hk' => by rw [List.mem_singleton.1 hk']; exact hmem) (by simp) (at_ + (Z_ d.rules (I_ r)).size.toNat) (by omega)
     rw [n_3 (fun _ => ()) (n := r.tags.length) (j0 := k) (r := d_g ⟨num, [], []⟩ (a_4 (fun k p => rdW d.rules b k.toNat p) [r.kids.getD (k + 1) 0] (at_ + (Z_ d.rules (I_ r)).size.toNat)) nx) htl (fun j hj => by
      have := htb j hj
      rw [a_W (show j < r.tags.length by omega)] at this
      rw [ix_ (show j < r.tags.length by omega), bd_some, show (r.tags[j] == num) = false by simpa using this]; rfl) (by
      rw [a_W htl] at hte
      rw [ix_ htl, bd_some, show (r.tags[k] == num) = true by simpa using hte, iP_ rfl, r_4 (by omega) hsm.kids, bd_some,
       show (Y_ (m + 1)).impl_fileReader_items = e_e (m + 1) from rfl, h]
      rfl)]
     simp only [bd_some, el_inr]
     unfold d_g c_1 b_l
     generalize a_4 (fun k p => rdW d.rules b k.toNat p) [r.kids.getD (k + 1) 0] (at_ + (Z_ d.rules (I_ r)).size.toNat) = x
     rw [h7]
     refine ⟨nx, ?_⟩
     by_cases h0 : x.2.2 = 0
     ·rw [iP_ h0, iP_ h0]; rfl
     ·rw [iN_ h0, iN_ h0]
      simp only [iN_ h0]; rfl
  rw [show (r.kind == 7) = false by simpa using h7]
  by_cases h8 : r.kind = 8
  ·rw [h8]; simp only [bQ_, fT_, bF_, fF_]
   have hs := d_C hr.kind (.inl h8)
   rw [show (Y_ (m + 2)).impl_fileReader_option ⟨d, b⟩ r at_ = g_n (m + 1) (Y_ (m + 1)) ⟨d, b⟩ r at_ from rfl]
   unfold g_n b_p
   have hhd : a_v d.rules b r at_ = (match b[at_]? with | none => .inl 1 | some c => if 1 < byteI c then .inl 4 else .inr (0, List.replicate c.toNat (r.kids.getD 0 0), at_ + 1)) := by unfold a_v; rw [h8]; rfl
   rw [hhd, h_J (by omega) ha (by omega) (by omega)]
   by_cases hlt : at_ < b.length
   ·rw [iN_ (show ¬ (b.length : Int) - at_ < 1 by omega), gG_ hlt]
    simp only [bd2_some, Option.isSome_none, bF_, fF_]
    rw [show (1 : Int).toNat = 1 from rfl, m_Y hlt, d_h (by simp)]
    simp only [bd_some, List.getElem_cons_zero]
    by_cases hc : 1 < byteI b[at_]
    ·rw [iP_ hc, dT_ (show byteI (1 : UInt8) < byteI b[at_] from hc)]; exact ⟨_, rfl⟩
    ·rw [iN_ hc, dF_ (show ¬ byteI (1 : UInt8) < byteI b[at_] from hc)]
     simp only [bF_, fF_]
     rw [ia_ (x := (at_ : Int)) (by omega) (by omega)]
     by_cases hz : byteI b[at_] = 0
     ·rw [show (byteI b[at_] == byteI (0 : UInt8)) = true by rw [beq_iff_eq]; exact hz]
      rw [show b[at_].toNat = 0 by unfold byteI at hz; omega]
      unfold b_l
      rw [h8]
      exact ⟨0, rfl⟩
     ·rw [show (byteI b[at_] == byteI (0 : UInt8)) = false by rw [beq_eq_false_iff_ne]; exact hz]
      rw [show b[at_].toNat = 1 by unfold byteI at hz hc; omega]
      simp only [bF_, fF_]
      rw [show (Y_ (m + 1)).impl_fileReader_items = e_e (m + 1) from rfl]
      obtain ⟨nx, h⟩ := hit m (by omega) zV r.kids rfl (fun k hk => hk) (by omega) (at_ + 1) (by omega)
      rw [show (at_ : Int) + 1 = ((at_ + 1 : Nat) : Int) by omega, h]
      rw [show List.replicate 1 (r.kids.getD 0 0) = r.kids from (m_X hs).symm]
      unfold d_g c_1 b_l
      generalize a_4 (fun k p => rdW d.rules b k.toNat p) r.kids (at_ + 1) = x
      rw [h8]
      refine ⟨nx, ?_⟩
      by_cases h0 : x.2.2 = 0
      ·rw [iP_ h0, iP_ h0]; rfl
      ·rw [iN_ h0, iN_ h0]
       simp only [iN_ h0]; rfl
   ·rw [iP_ (show (b.length : Int) - at_ < 1 by omega), gN_ (by omega)]; exact ⟨_, rfl⟩
  rw [show (r.kind == 8) = false by simpa using h8]
  have h9 : r.kind = 9 := by omega
  rw [h9]; simp only [bQ_, fT_, bF_, fF_]
  have hs := d_C hr.kind (.inr h9)
  rw [show (Y_ (m + 2)).impl_fileReader_checked ⟨d, b⟩ r at_ = g_o (m + 1) (Y_ (m + 1)) ⟨d, b⟩ r at_ from rfl]
  unfold g_o b_p
  rw [show a_v d.rules b r at_ = .inr (0, r.kids, at_) by unfold a_v; rw [h9, ← m_X hs]; rfl]
  rw [show (Y_ (m + 1)).impl_fileReader_items = e_e (m + 1) from rfl]
  obtain ⟨nx, h⟩ := hit m (by omega) zV r.kids rfl (fun k hk => hk) (by omega) at_ ha
  rw [h]
  simp only
  have hx := h_P (rd := fun k p => rdW d.rules b k.toNat p) (L := b.length) r.kids at_ ha (fun k hk p hp => by
   have := hr.kids k hk
   exact h_Q hv k.toNat (by omega) p hp)
  unfold d_g c_1 b_l
  generalize a_4 (fun k p => rdW d.rules b k.toNat p) r.kids at_ = x at hx
  rw [h9]
  by_cases h0 : x.2.2 = 0
  ·rw [iP_ h0, iP_ h0]
   simp only [bd3_some, Option.isSome_none, bF_, fF_, bQ_, fT_]
   rw [h_J (by omega) hx.2 (by omega) (by omega)]
   by_cases hlt : x.2.1 < b.length
   ·rw [iN_ (show ¬ (b.length : Int) - x.2.1 < 1 by omega), gG_ hlt]
    simp only [bd2_some, Option.isSome_none, bF_, fF_]
    rw [show (1 : Int).toNat = 1 from rfl, m_Y hlt, d_h (by simp)]
    simp only [bd_some, List.getElem_cons_zero]
    rw [f_D hx.1 (by omega), bd_some, l_I _ (by rw [e_A (by omega)]; omega), bd_some, ia_ (x := (x.2.1 : Int)) (by omega) (by omega)]
    by_cases hsum : byteI b[x.2.1] = b_X (b_j b at_ x.2.1)
    ·rw [show (byteI b[x.2.1] != b_X (b_j b at_ x.2.1)) = false by simpa using hsum, iP_ hsum]; exact ⟨0, rfl⟩
    ·rw [show (byteI b[x.2.1] != b_X (b_j b at_ x.2.1)) = true by simpa using hsum, iN_ hsum]; exact ⟨_, rfl⟩
   ·rw [iP_ (show (b.length : Int) - x.2.1 < 1 by omega), gN_ (by omega)]; exact ⟨_, rfl⟩
  ·rw [iN_ h0, iN_ h0]
   simp only [iN_ h0]
   exact ⟨_, rfl⟩
end
end Go.Vw
