import Derived.Test.YtlbigkipbbhhmaaGreatDoorVwP6
namespace Go.Vw
open Go.RowKit Dat
theorem itemsP_one (rd : Int → Nat → RR) (k : Int) (p : Nat) : (itemsP rd [k] p).2 = ((rd k p).2.1, (rd k p).2.2) := by
 unfold itemsP
 by_cases h : (rd k p).2.2 = 0
 ·rw [iP_ h]; simp [itemsP, h]
 ·rw [iN_ h]
section
variable {d : Desc} {b : List UInt8}
theorem check_seq {rec_ : Checker → Int → Int → Option (Spot × Int)} {ks : List Int} (rd : Int → Nat → RR) (L : Nat)
  (ih : ∀ k ∈ ks, ∀ (ap : Int) (p : Nat), p ≤ L → ∃ ap', rec_ ⟨⟨d.rules⟩, b, ap⟩ k p = some (⟨((rd k p).2.1 : Int), (rd k p).2.2⟩, ap')) (hle : ∀ k ∈ ks, ∀ p, p ≤ L → (rd k p).2.1 ≤ L) :
  ∀ m k (ap : Int) (p : Nat), k + m = ks.length → p ≤ L → ∃ ap', forN (σ := Int × Int × Int) (ρ := Spot × Int) (fun k3794 => (un3 fun x3783 x3786 x3788 => bd (idx ks ((k3794 : Nat) : Int)) fun x3855 => bd2 (rec_ (⟨(⟨d.rules⟩ : Desc), b, x3783⟩ : Checker) x3855 x3786) fun r3879 r3882 => if (r3879.code != 0) = true then some (.brk (r3882, r3879.at_, r3879.code)) else some (.next (r3882, r3879.at_, r3879.code)))) m k (ap, (p : Int), 0) = some (.inl (ap', ((itemsP rd (ks.drop k) p).2.1 : Int), (itemsP rd (ks.drop k) p).2.2))
 | 0, k, ap, p, hk, _ => by
  rw [List.drop_of_length_le (by omega)]
  exact ⟨ap, rfl⟩
 | m + 1, k, ap, p, hk, hp => by
  have hlt : k < ks.length := by omega
  have hmem := gE_ hlt
  rw [dC_ hlt]
  unfold forN itemsP
  obtain ⟨ap1, h1⟩ := ih ks[k] hmem ap p hp
  simp only [un3]
  rw [ix_ hlt, bd_some, h1]
  simp only [bd2_some]
  by_cases h0 : (rd ks[k] p).2.2 = 0
  ·rw [show ((rd ks[k] p).2.2 != 0) = false by simpa using h0, iP_ h0]
   obtain ⟨ap2, h2⟩ := check_seq rd L ih hle m (k + 1) ap1 (rd ks[k] p).2.1 (by omega) (hle _ hmem p hp)
   refine ⟨ap2, ?_⟩
   simp only [bF_, fF_]
   rw [h0, h2]
   by_cases h3 : (itemsP rd (ks.drop (k + 1)) (rd ks[k] p).2.1).2.2 = 0
   ·rw [iP_ h3, h3]
   ·rw [iN_ h3]
  ·rw [show ((rd ks[k] p).2.2 != 0) = true by simpa using h0, iN_ h0]
   exact ⟨ap1, rfl⟩
theorem check_arr {rec_ : Checker → Int → Int → Option (Spot × Int)} {ks : List Int} {kid : Int} (hkid : idx ks 1 = some kid) (rd : Int → Nat → RR) (L : Nat)
  (ih : ∀ (ap : Int) (p : Nat), p ≤ L → ∃ ap', rec_ ⟨⟨d.rules⟩, b, ap⟩ kid p = some (⟨((rd kid p).2.1 : Int), (rd kid p).2.2⟩, ap')) (hle : ∀ p, p ≤ L → (rd kid p).2.1 ≤ L) :
  ∀ (c : Nat) (ap : Int) (p : Nat), p ≤ L → c ≤ 40 → ∀ n, c + 2 ≤ n → ∃ x ap', iter (σ := Int × Int × Int × Int) (ρ := Spot × Int) (un4 fun x307 x309 x312 x314 => bd (α := Bool) (if (decide (0 < x307)) = true then some (x314 == 0) else some false) (fun x339 => if x339 = true then bd (idx ks 1) fun x439 => bd2 (rec_ (⟨(⟨d.rules⟩ : Desc), b, x309⟩ : Checker) x439 x312) fun r478 r481 => some (.next (isub x307 1, r481, r478.at_, r478.code)) else some (.brk (x307, x309, x312, x314)))) n ((c : Int), ap, (p : Int), 0) = some (.inl (x, ap', ((itemsP rd (List.replicate c kid) p).2.1 : Int), (itemsP rd (List.replicate c kid) p).2.2))
 | 0, ap, p, hp, hc, n, hn => by
  obtain ⟨m, rfl⟩ : ∃ m, n = m + 1 := ⟨n - 1, by omega⟩
  exact ⟨0, ap, rfl⟩
 | c + 1, ap, p, hp, hc, n, hn => by
  obtain ⟨m, rfl⟩ : ∃ m, n = m + 2 := ⟨n - 2, by omega⟩
  obtain ⟨ap1, h1⟩ := ih ap p hp
  rw [List.replicate_succ]
  unfold iter itemsP
  simp only [un4]
  rw [dT_ (show (0 : Int) < ((c + 1 : Nat) : Int) by omega), hkid]
  simp only [fT_, bd_some, bQ_]
  rw [h1]
  simp only [bd2_some]
  rw [isub_of (x := ((c + 1 : Nat) : Int)) (by omega) (by omega), show ((c + 1 : Nat) : Int) - 1 = (c : Int) by omega]
  by_cases h0 : (rd kid p).2.2 = 0
  ·rw [iP_ h0]
   obtain ⟨x, ap2, h2⟩ := check_arr hkid rd L ih hle c ap1 (rd kid p).2.1 (hle p hp) (by omega) (m + 1) (by omega)
   refine ⟨x, ap2, ?_⟩
   simp only [hkid, bd_some] at h2
   rw [h0]
   rw [h2]
   by_cases h3 : (itemsP rd (List.replicate c kid) (rd kid p).2.1).2.2 = 0
   ·rw [iP_ h3, h3]
   ·rw [iN_ h3]
  ·rw [iN_ h0]
   refine ⟨(c : Int), ap1, ?_⟩
   unfold iter
   simp only [un4]
   rw [show ((rd kid p).2.2 == 0) = false by simpa using h0]
   cases decide (0 < (c : Int)) <;> rfl
theorem impl_check (hv : valid d = true) (hd : SmD d) (hb : b.length ≤ 400) : ∀ (i : Nat), i < d.rules.length → ∀ n, 3 * i + 410 ≤ n → ∀ at_, at_ ≤ b.length → ∀ ap, ∃ ap', M_impl_checker_value n ⟨d, b, ap⟩ i at_ = some (⟨((rdW d.rules b i at_).2.1 : Int), (rdW d.rules b i at_).2.2⟩, ap') := by
 have hMX := MXv
 intro i
 induction i using Nat.strongRecOn with
 | _ i ih =>
  intro hi n hn at_ ha ap
  have hlen := (valid_len hv).2
  obtain ⟨m, rfl⟩ : ∃ m, n = m + 3 := ⟨n - 3, by omega⟩
  rw [rdW_eq hv hi ha]
  have hr := valid_rule hv hi
  have hal := k_all hr.kind
  have hsm := hd.each d.rules[i] (gE_ hi)
  have hidx : idx d.rules (i : Int) = some d.rules[i] := ix_ hi
  generalize hrr : d.rules[i] = r at *
  have hkk := k_kids hr.kind
  show ∃ ap', B_impl_checker_value (m + 2) (F_impl_checker_value (m + 2)) ⟨d, b, ap⟩ i at_ = _
  unfold B_impl_checker_value rdB
  simp only
  rw [hidx, bd_some]
  have hle : ∀ k ∈ r.kids, ∀ p, p ≤ b.length → p ≤ (rdW d.rules b k.toNat p).2.1 ∧ (rdW d.rules b k.toNat p).2.1 ≤ b.length := fun k hk p hp => by
   have := hr.kids k hk
   exact rdW_le hv k.toNat (by omega) p hp
  have hrec : ∀ q, m ≤ q → ∀ k ∈ r.kids, ∀ (ap : Int) (p : Nat), p ≤ b.length → ∃ ap', (F_impl_checker_value q).impl_checker_value ⟨⟨d.rules⟩, b, ap⟩ k p = some (⟨((rdW d.rules b k.toNat p).2.1 : Int), (rdW d.rules b k.toNat p).2.2⟩, ap') := fun q hq k hk ap p hp => by
   have := hr.kids k hk
   have h := ih k.toNat (by omega) (by omega) q (by omega) p hp ap
   rw [show ((k.toNat : Nat) : Int) = k by omega] at h
   exact h
  by_cases h1 : r.kind = 1
  ·rw [h1]; simp only [bQ_, fT_]
   rw [impl_number hidx (k_int hr.kind h1) (by omega) ha]
   cases rdInt b r at_ <;> exact ⟨_, rfl⟩
  rw [show (r.kind == 1) = false by simpa using h1]
  by_cases h2 : r.kind = 2
  ·rw [h2]; simp only [bQ_, fT_, bF_, fF_]
   rw [impl_cconstant (by omega) ha hsm.bytes]
   exact ⟨_, rfl⟩
  rw [show (r.kind == 2) = false by simpa using h2]
  by_cases h3 : r.kind = 3
  ·rw [h3]; simp only [bQ_, fT_, bF_, fF_]
   have := k_fixed hr.kind h3
   rw [impl_skip (by omega) ha (by omega) (by omega)]
   unfold bytesP
   split <;> exact ⟨_, rfl⟩
  rw [show (r.kind == 3) = false by simpa using h3]
  by_cases h4 : r.kind = 4
  ·rw [h4]; simp only [bQ_, fT_, bF_, fF_]
   have hs := k_sized hr.kind h4
   have hq := lim_int hs.1
   rw [kid0_idx (by omega), bd_some, impl_number hq.1 hq.2 (by omega) ha]
   cases hi : rdInt b (ruleAt d.rules (kid0 r)) at_ with
   | none => exact ⟨_, rfl⟩
   | some num =>
    have hrg := rdInt_range hq.2 hi
    simp only [bd3_some, bN_, bF_, fF_]
    rw [impl_skip (by omega) (by omega) (by omega) (by omega)]
    unfold bytesP
    split <;> exact ⟨_, rfl⟩
  rw [show (r.kind == 4) = false by simpa using h4]
  by_cases h10 : r.kind = 10
  ·rw [h10]; simp only [bQ_, fT_, bF_, fF_, show ((10 : Int) == 5) = false from rfl, show ((10 : Int) == 6) = false from rfl, show ((10 : Int) == 7) = false from rfl, show ((10 : Int) == 8) = false from rfl, show ((10 : Int) == 9) = false from rfl]
   have hb1 := k_term hr.kind h10
   rw [idx_zero (by omega), bd_some, getD_get (show 0 < r.bytes.length by omega), impl_ReadTerminated _ _ _ _ (by omega) ha (by omega)]
   cases termP b at_ r.bytes[0] with
   | none => exact ⟨_, rfl⟩
   | some x => exact ⟨_, rfl⟩
  rw [show (r.kind == 10) = false by simpa using h10]
  by_cases h5 : r.kind = 5
  ·rw [h5]; simp only [bQ_, fT_, bF_, fF_]
   have hs := k_array hr.kind h5
   have hq := lim_int hs.1
   have hmem : r.kids.getD 1 0 ∈ r.kids := getD_mem (by omega)
   rw [show (F_impl_checker_value (m + 2)).impl_checker_array = B_impl_checker_array (m + 1) (F_impl_checker_value (m + 1)) from rfl]
   unfold B_impl_checker_array
   simp only
   rw [kid0_idx (by omega), bd_some, impl_number hq.1 hq.2 (by omega) ha]
   have hhd : headC d.rules b r at_ = (match rdInt b (ruleAt d.rules (kid0 r)) at_ with | none => .inl 1 | some n => if 40 < n then .inl 6 else .inr (0, List.replicate n.toNat (r.kids.getD 1 0), at_ + (ruleAt d.rules (kid0 r)).size.toNat)) := by unfold headC; rw [h5]; rfl
   rw [hhd]
   cases hi : rdInt b (ruleAt d.rules (kid0 r)) at_ with
   | none => exact ⟨_, rfl⟩
   | some num =>
    have hrg := rdInt_range hq.2 hi
    simp only [bd3_some, bQ_, fT_, bd_some]
    by_cases h40 : 40 < num
    ·rw [dT_ h40, iP_ h40]; exact ⟨_, rfl⟩
    ·rw [dF_ h40, iN_ h40]
     simp only [bF_, fF_]
     obtain ⟨x, ap', h⟩ := check_arr (d := d) (b := b) (rec_ := (F_impl_checker_value (m + 1)).impl_checker_value) (ks := r.kids) (kid := r.kids.getD 1 0) (by rw [idx_one (by omega), getD_get (by omega)]) (fun k p => rdW d.rules b k.toNat p) b.length (fun ap p hp => hrec (m + 1) (by omega) _ hmem ap p hp) (fun p hp => (hle _ hmem p hp).2) num.toNat (iadd (iadd ap 1) 1) (at_ + (ruleAt d.rules (kid0 r)).size.toNat) (by omega) (by omega) (m + 1) (by omega)
     rw [show ((num.toNat : Nat) : Int) = num by omega] at h
     rw [h]
     unfold finC
     generalize itemsP (fun k p => rdW d.rules b k.toNat p) (List.replicate num.toNat (r.kids.getD 1 0)) (at_ + (ruleAt d.rules (kid0 r)).size.toNat) = y
     rw [h5]
     refine ⟨ap', ?_⟩
     by_cases h0 : y.2.2 = 0
     ·rw [iP_ h0, h0]; rfl
     ·rw [iN_ h0]; rfl
  rw [show (r.kind == 5) = false by simpa using h5]
  by_cases h6 : r.kind = 6
  ·rw [h6]; simp only [bQ_, fT_, bF_, fF_]
   have hs := k_seq hr.kind h6
   obtain ⟨ap', h⟩ := check_seq (d := d) (b := b) (rec_ := (F_impl_checker_value (m + 2)).impl_checker_value) (ks := r.kids) (fun k p => rdW d.rules b k.toNat p) b.length (fun k hk ap p hp => hrec (m + 2) (by omega) k hk ap p hp) (fun k hk p hp => (hle k hk p hp).2) r.kids.length 0 (iadd ap 1) at_ (by omega) ha
   rw [h]
   rw [show headC d.rules b r at_ = .inr (0, r.kids, at_) by unfold headC; rw [h6]; rfl]
   simp only
   unfold finC
   rw [List.drop_zero]
   generalize itemsP (fun k p => rdW d.rules b k.toNat p) r.kids at_ = y
   rw [h6]
   refine ⟨ap', ?_⟩
   by_cases h0 : y.2.2 = 0
   ·rw [iP_ h0, h0]; rfl
   ·rw [iN_ h0]; rfl
  rw [show (r.kind == 6) = false by simpa using h6]
  by_cases h7 : r.kind = 7
  ·rw [h7]; simp only [bQ_, fT_, bF_, fF_]
   have hs := k_choice hr.kind h7
   have hq := lim_int hs.1
   rw [show (F_impl_checker_value (m + 2)).impl_checker_choice = B_impl_checker_choice (m + 1) (F_impl_checker_value (m + 1)) from rfl]
   unfold B_impl_checker_choice
   simp only
   rw [kid0_idx (by omega), bd_some, impl_number hq.1 hq.2 (by omega) ha]
   have hhd : headC d.rules b r at_ = (match rdInt b (ruleAt d.rules (kid0 r)) at_ with | none => .inl 1 | some n => match tagIx r.tags n with | none => .inl 3 | some k => .inr (n, [r.kids.getD (k + 1) 0], at_ + (ruleAt d.rules (kid0 r)).size.toNat)) := by unfold headC; rw [h7]; rfl
   rw [hhd]
   cases hi : rdInt b (ruleAt d.rules (kid0 r)) at_ with
   | none => exact ⟨_, rfl⟩
   | some num =>
    have hrg := rdInt_range hq.2 hi
    simp only [bd3_some, bN_, bF_, fF_]
    cases ht : tagIx r.tags num with
    | none =>
     have htn := tagIx_none ht
     rw [forN_next (fun _ => ()) (n := r.tags.length) (fun j hj => by
      have := htn j hj
      rw [getD_get hj] at this
      rw [ix_ hj, bd_some, show (r.tags[j] == num) = false by simpa using this]; rfl)]
     exact ⟨_, rfl⟩
    | some k =>
     obtain ⟨htl, hte, htb⟩ := tagIx_some ht
     have hmem : r.kids.getD (k + 1) 0 ∈ r.kids := getD_mem (by omega)
     obtain ⟨ap', h⟩ := hrec (m + 1) (by omega) _ hmem (iadd (iadd ap 1) 1) (at_ + (ruleAt d.rules (kid0 r)).size.toNat) (by omega)
     rw [forN_ret (fun _ => ()) (n := r.tags.length) (j0 := k) (r := (⟨((rdW d.rules b (r.kids.getD (k + 1) 0).toNat (at_ + (ruleAt d.rules (kid0 r)).size.toNat)).2.1 : Int), (rdW d.rules b (r.kids.getD (k + 1) 0).toNat (at_ + (ruleAt d.rules (kid0 r)).size.toNat)).2.2⟩, ap')) htl (fun j hj => by
      have := htb j hj
      rw [getD_get (show j < r.tags.length by omega)] at this
      rw [ix_ (show j < r.tags.length by omega), bd_some, show (r.tags[j] == num) = false by simpa using this]; rfl) (by
      rw [getD_get htl] at hte
      rw [ix_ htl, bd_some, show (r.tags[k] == num) = true by simpa using hte, iP_ rfl, ix_ (show k + 1 < r.kids.length by omega), bd_some, ← getD_get (x := 0) (show k + 1 < r.kids.length by omega), h]
      rfl)]
     simp only [bd_some, el_inr]
     unfold finC
     have ho := itemsP_one (fun k p => rdW d.rules b k.toNat p) (r.kids.getD (k + 1) 0) (at_ + (ruleAt d.rules (kid0 r)).size.toNat)
     generalize itemsP (fun k p => rdW d.rules b k.toNat p) [r.kids.getD (k + 1) 0] (at_ + (ruleAt d.rules (kid0 r)).size.toNat) = y at ho
     rw [h7, ho]
     refine ⟨ap', ?_⟩
     by_cases h0 : (rdW d.rules b (r.kids.getD (k + 1) 0).toNat (at_ + (ruleAt d.rules (kid0 r)).size.toNat)).2.2 = 0
     ·rw [iP_ h0, h0]; rfl
     ·rw [iN_ h0]; rfl
  rw [show (r.kind == 7) = false by simpa using h7]
  by_cases h8 : r.kind = 8
  ·rw [h8]; simp only [bQ_, fT_, bF_, fF_]
   have hs := k_one hr.kind (.inl h8)
   have hmem : r.kids.getD 0 0 ∈ r.kids := getD_mem (by omega)
   rw [show (F_impl_checker_value (m + 2)).impl_checker_option = B_impl_checker_option (m + 1) (F_impl_checker_value (m + 1)) from rfl]
   unfold B_impl_checker_option
   simp only
   have hhd : headC d.rules b r at_ = (match b[at_]? with | none => .inl 1 | some c => if 1 < byteI c then .inl 4 else .inr (0, List.replicate c.toNat (r.kids.getD 0 0), at_ + 1)) := by unfold headC; rw [h8]; rfl
   rw [hhd, impl_skip (by omega) ha (by omega) (by omega)]
   by_cases hlt : at_ < b.length
   ·rw [iN_ (show ¬ (b.length : Int) - at_ < 1 by omega), gG_ hlt]
    simp only [bd_some, bN_, bF_, fF_]
    rw [ix_ hlt]
    simp only [bd_some]
    by_cases hz : byteI b[at_] = 0
    ·rw [show (byteI b[at_] == byteI (0 : UInt8)) = true by rw [beq_iff_eq]; exact hz, iN_ (show ¬ 1 < byteI b[at_] by rw [hz]; omega)]
     rw [show b[at_].toNat = 0 by unfold byteI at hz; omega]
     unfold finC
     rw [h8]
     exact ⟨_, rfl⟩
    ·rw [show (byteI b[at_] == byteI (0 : UInt8)) = false by rw [beq_eq_false_iff_ne]; exact hz]
     simp only [bF_, fF_]
     by_cases hc : 1 < byteI b[at_]
     ·rw [iP_ hc, dT_ (show byteI (1 : UInt8) < byteI b[at_] from hc)]; exact ⟨_, rfl⟩
     ·rw [iN_ hc, dF_ (show ¬ byteI (1 : UInt8) < byteI b[at_] from hc)]
      simp only [bF_, fF_]
      rw [show b[at_].toNat = 1 by unfold byteI at hz hc; omega]
      obtain ⟨ap', h⟩ := hrec (m + 1) (by omega) _ hmem (iadd ap 1) (at_ + 1) (by omega)
      rw [idx_zero (by omega), bd_some, ← getD_get (x := 0) (show 0 < r.kids.length by omega)]
      rw [show (1 : Int).toNat = 1 from rfl, h]
      unfold finC
      have ho := itemsP_one (fun k p => rdW d.rules b k.toNat p) (r.kids.getD 0 0) (at_ + 1)
      rw [show List.replicate 1 (r.kids.getD 0 0) = [r.kids.getD 0 0] from rfl]
      generalize itemsP (fun k p => rdW d.rules b k.toNat p) [r.kids.getD 0 0] (at_ + 1) = y at ho
      rw [h8, ho]
      refine ⟨ap', ?_⟩
      by_cases h0 : (rdW d.rules b (r.kids.getD 0 0).toNat (at_ + 1)).2.2 = 0
      ·rw [iP_ h0, h0]; rfl
      ·rw [iN_ h0]; rfl
   ·rw [iP_ (show (b.length : Int) - at_ < 1 by omega), gN_ (by omega)]; exact ⟨_, rfl⟩
  rw [show (r.kind == 8) = false by simpa using h8]
  have h9 : r.kind = 9 := by omega
  rw [h9]; simp only [bQ_, fT_, bF_, fF_]
  have hs := k_one hr.kind (.inr h9)
  have hmem : r.kids.getD 0 0 ∈ r.kids := getD_mem (by omega)
  rw [show (F_impl_checker_value (m + 2)).impl_checker_checked = B_impl_checker_checked (m + 1) (F_impl_checker_value (m + 1)) from rfl]
  unfold B_impl_checker_checked
  simp only
  rw [show headC d.rules b r at_ = .inr (0, [r.kids.getD 0 0], at_) by unfold headC; rw [h9]; rfl]
  obtain ⟨ap', h⟩ := hrec (m + 1) (by omega) _ hmem (iadd ap 1) at_ ha
  rw [idx_zero (by omega), bd_some, ← getD_get (x := 0) (show 0 < r.kids.length by omega), h]
  simp only
  have hx := hle _ hmem at_ ha
  have ho := itemsP_one (fun k p => rdW d.rules b k.toNat p) (r.kids.getD 0 0) at_
  unfold finC
  generalize itemsP (fun k p => rdW d.rules b k.toNat p) [r.kids.getD 0 0] at_ = y at ho
  rw [h9, ho]
  generalize rdW d.rules b (r.kids.getD 0 0).toNat at_ = x at hx
  simp only [bd2_some]
  by_cases h0 : x.2.2 = 0
  ·rw [iP_ h0, show (x.2.2 != 0) = false by simpa using h0]
   simp only [bF_, fF_, bQ_, fT_]
   rw [impl_skip (by omega) hx.2 (by omega) (by omega)]
   by_cases hlt : x.2.1 < b.length
   ·rw [iN_ (show ¬ (b.length : Int) - x.2.1 < 1 by omega), gG_ hlt]
    simp only [bd_some, bQ_, fT_]
    rw [ix_ hlt, bd_some, slc_piece hx.1 (by omega), bd_some, impl_SumOfBytes _ (by rw [piece_len (by omega)]; omega), bd_some]
    by_cases hsum : byteI b[x.2.1] = sumB (piece b at_ x.2.1)
    ·rw [show (byteI b[x.2.1] != sumB (piece b at_ x.2.1)) = false by simpa using hsum, iP_ hsum]; exact ⟨_, rfl⟩
    ·rw [show (byteI b[x.2.1] != sumB (piece b at_ x.2.1)) = true by simpa using hsum, iN_ hsum]; exact ⟨_, rfl⟩
   ·rw [iP_ (show (b.length : Int) - x.2.1 < 1 by omega), gN_ (by omega)]; exact ⟨_, rfl⟩
  ·rw [iN_ h0, show (x.2.2 != 0) = true by simpa using h0]
   exact ⟨_, rfl⟩
end
end Go.Vw
