import Derived.Test.YtfdcdeahjejlmaaGreatDoorVqAW1
set_option linter.unusedVariables false
namespace Go.Vw
open Go.RowKit Dat Go.Proofs
open Go.Proofs.Tryz
open Go.Vw renaming h_6 → Wq, h_7 → Wg, WC.of_KC → Wo, f_f → Wl, i_J → Wc, i_H → Wr, j_u → Wu, j_h → pT, j_i → pF, j_w → fd, j_x → l1, j_y → lN, h_j → mv, h_k → asg, j_j → lnR, j_F → lss, j_D → eql, j_z → ext_, j_l → bP, h_n → add_, j_2 → inc_, j_G → not_, j_k → at_, i_V → fc, f_j → fs, i_U → fb, i_T → fa, j_a → sr, j_f → cr, j_g → cM, j_e → bM, i_Y → iS, i_X → iA, j_1 → br, j_4 → oA, j_6 → bs, ltge → lg, inor → io, j_E → nq, j_A → lnT, j_B → sb_, j_8 → ar_, j_7 → al_, j_9 → ds, k_r → m1, j_c → nr_, j_b → nl_, h_b → aa_, all_nil → an_, e_n → Wb, h_a → u8, i_O → pD, i_I → We, j_0 → Wt, i_W → fS, e_i → or_, j_v → Wf, j_p → qL, i_N → Wd, h_d → fN, h_c → na_, j_d → nj, j_m → f0, f_l → rX, j_n → tl_, j_o → ic
variable {A0 : Option Addr} {N0 C0 : Nat} {B : Zone} {w0 : World} {A9 : Option Addr} {A8 : Option Addr} {AA : Option Addr} {AB : Option Addr} {N9 C9 : Nat} {N8 C8 : Nat} {NA CA : Nat} {NB CB : Nat} {A1 : Option Addr} {N1 C1 : Nat} {n : Nat} {AD : Option Addr} {ND CD : Nat} {A6 : Option Addr} {N6 C6 : Nat} {AH : Option Addr} {NH CH : Nat} {A3 : Option Addr} {A4 : Option Addr} {A2 : Option Addr} {A5 : Option Addr} {N3 C3 : Nat} {N4 C4 : Nat} {N2 C2 : Nat} {N5 C5 : Nat} {A7 : Option Addr} {N7 C7 : Nat} {AE : Option Addr} {NE CE : Nat} {AC : Option Addr} {NC CC : Nat}
theorem W_w2p {x1 : g_} {x2 : List UInt8} {res : Val × Int × Int} (hm : g_7 n x1 x2 = some res) (hBw : B ≤ w0.z) (p1_0 : a_ w0 B (sl A0 N0 C0) x1.rules) (p2_0 : a_ w0 B (sl A6 N6 C6) x2) : j_ prog 101 [(.agg #[sl A0 N0 C0]), sl A6 N6 C6] w0 (Q17 w0 B res) := by
 unfold g_7 at hm
 refine goF func101 z z (lb z) fun fn hr => Ws<|E z (fb z) ?_
 rintro _ wl ⟨rfl, h1g⟩
 have h2 := h1g.below
 have hv : Blk wl w0.z [sl A0 N0 C0] := h1g.blk
 refine E z (fa a_9) ?_
 rintro _ w5 ⟨rfl, h1h⟩
 have h1 := h1h.below
 have hn : Blk w5 wl.z [vI 0, sl none 0 0, sl none 0 0] := h1h.blk
 refine Ra z<|Ra z<|Wn<|Wq ?_
 obtain ⟨u30, hu1i, hm31⟩ := bdS hm
 refine Wt (fun a w => ∃ (xb : Int) (xw : List UInt8) (xx : List Val) (xc : Int) (xd : Int), (xb, xw, xx, xc, xd) = u30 ∧ ∃ ae nf cg S6 ah ni cj S7 g8, Sat 32 [(1, sl A6 N6 C6), (4, pt wl.z), (7, pt g8), (8, vI xc), (9, vI xd)] a ∧ Below w5.z w5 w ∧ inI xb ∧ b_ w S6 (sl ae nf cg) xw ∧ S6.Nodup ∧ (∀ k ∈ S6, w5.z ≤ k) ∧ b_ w S7 (sl ah ni cj) xx ∧ S7.Nodup ∧ (∀ k ∈ S7, w5.z ≤ k) ∧ (∀ k ∈ S7, k ∉ S6) ∧ inI xc ∧ inI xd ∧ Blk w g8 [vI xb, sl ae nf cg, sl ah ni cj] ∧ w5.z ≤ g8 ∧ (∀ k ∈ S6, k ∉ [g8]) ∧ (∀ k ∈ S7, k ∉ [g8])) ?_ ?_
 ·refine Wd (X := fun k => k ∈ ([] : List Nat) ∨ w5.z ≤ k) 0 (.rd 0 (.rd 1 (.rd 3 (.br 2 (.br 4 (.rd 5 (.rd 6 (.rd 7 (.rd 8 (.ef 9 (.ef 10 (.rd 11 (.rd 12 .done)))))))) 9 (.ef 4 (.rd 5 (.rd 6 (.rd 7 (.rd 8 (.ef 10 (.rd 11 (.rd 12 .done))))))))) 9 (.ef 2 (.ef 4 (.rd 5 (.rd 6 (.rd 7 (.rd 8 (.ef 10 (.rd 11 (.rd 12 .done))))))))))))) mo (by kernel_rfl) fun w1j s0 _ => ?_
  have h1k := (hv.e h1).e s0
  refine dR z z (lN (vs := [sl A0 N0 C0]) P_ F_ z z (d_6 nm0<|Nat.lt_of_lt_of_le hv.lt h1.s)<|h1k.row 0 1 z)<|dR z z (lN (vs := [sl A0 N0 C0]) P_ F_ z z (d_6 nm0<|Nat.lt_of_lt_of_le hv.lt h1.s)<|h1k.row 0 1 z)<|dR z z (mv z)<|d_o ?_ ?_
  ·have hy := ((h2.ag B).e h1).e s0
   have hz := lt_ (lt_ h2.s h1.s) s0.s
   obtain ⟨r4r, e32, hm1l⟩ := bdS hu1i
   refine dE z z (fc call129 z<|W_w0x (B := B) e32 (zt' hBw hz)<|p1_0.g hy) (.inr fun _ _ h => A_<|h.1) ?_
   rintro _ w1m ⟨s4, rfl, h1n⟩
   refine d_o ?_ ?_
   ·have h1o := hy.e s4
    obtain ⟨rm, r33, r34, e35, hm36⟩ := O_ hm1l
    refine dE z z (fc call128 z<|i_v (B := B) e35 (zt' hBw<|lt_ hz s4.s) (p1_0.g h1o) h1n (p2_0.g h1o)<|ii z) (.inr fun _ _ h => A_<|h.1) ?_
    rintro _ w1p ⟨s1q, a1r, n1s, c1t, S37, a1u, n1v, c1w, S38, rfl, h39, h1x, h1y, h3a, h3b, h10, h1z⟩
    refine dR z z (mv z) ?_
    iterate 3 refine dR z z (ext_ z z) ?_
    refine dE z z (fa a_9) (.inr fun _ _ h => A_<|h.2.below) ?_
    rintro _ w3c ⟨rfl, h20⟩
    have h11 := h20.below
    have h3d : Blk w3c w1p.z [vI 0, sl none 0 0, sl none 0 0] := h20.blk
    have h12 := lt_ s0.s s4.s
    have h13 := m1<|lt_ h12 s1q.s
    refine dE0 z (fs (cur' := [vI rm.number, sl a1r n1s c1t, sl a1u n1v c1w]) i_ z z h3d z (lb z) (oA z) z) (.inr fun _ _ h => b_S (atp h13) h.2) ?_
    rintro _ w4s ⟨h3e, s3f⟩
    have h14 := s3f.one
    refine dR z z (asg z)<|dR z z (asg z)<|pD ?_
    have h21 := mnr<|b_.lt h1x
    have h22 := mnr<|b_.lt h1y
    exact fun _ q => ⟨rm.number, rm.bytes, rm.items, r33, r34, som hm36, a1r, n1s, c1t, S37, a1u, n1v, c1w, S38, w1p.z, (q.k<|s5 z z z z z), (bM (bup (bup (bup s0 s4) s1q) h11) h14 h13), h39, ((h1x.e h11).c h14<|ds h21), (nl_ h10), (m_ (al_ h1z) h12), ((h1y.e h11).c h14<|ds h22), (nr_ h10), (m_ (ar_ h1z) h12), (ds<|nj h10), h3a, h3b, h3e, (atp h13), (ds h21), (ds h22)⟩
   refine dE z z (fa a_9) (.inr fun _ _ h => A_<|h.2.below) ?_
   rintro _ w3g ⟨rfl, h23⟩
   have ho := h23.below
   have h15 : Blk w3g w1m.z [vI 0, sl none 0 0, sl none 0 0] := h23.blk
   have h24 := (hy.e s4).e ho
   obtain ⟨rp, r3h, r3i, e3j, hm3k⟩ := O_ hm1l
   refine dE z z (fc call128 z<|i_v (B := B) e3j (zt' hBw<|lt_ (lt_ hz s4.s) ho.s) (p1_0.g h24) h1n (p2_0.g h24)<|ii z) (.inr fun _ _ h => A_<|h.1) ?_
   rintro _ w4t ⟨s25, a26, n27, c28, S3l, a29, n2a, c2b, S3m, rfl, h3n, h3o, h3p, h3q, h3r, h16, hq⟩
   refine dR z z (mv z) ?_
   iterate 3 refine dR z z (ext_ z z) ?_
   have h2c := lt_ s0.s s4.s
   have h17 := m1 h2c
   refine dE0 z (fs (cur' := [vI rp.number, sl a26 n27 c28, sl a29 n2a c2b]) i_ z z (h15.e s25) z (lb z) (oA z) z) (.inr fun _ _ h => b_S (atp h17) h.2) ?_
   rintro _ w4u ⟨h3s, s3t⟩
   have h18 := s3t.one
   refine dR z z (asg z)<|dR z z (asg z)<|pD ?_
   have h2d := p_ (al_ hq) h15.lt lr
   have h2e := lt_ h2c ho.s
   have h2f := p_ (ar_ hq) h15.lt lr
   exact fun _ q => ⟨rp.number, rp.bytes, rp.items, r3h, r3i, som hm3k, a26, n27, c28, S3l, a29, n2a, c2b, S3m, w1m.z, (q.k<|s5 z z z z z), (bM (bup (bup (bup s0 s4) ho) s25) h18 h17), h3n, (h3o.c h18 h2d), (nl_ h16), (m_ (al_ hq) h2e), (h3p.c h18 h2f), (nr_ h16), (m_ (ar_ hq) h2e), (ds<|nj h16), h3q, h3r, h3s, (atp h17), h2d, h2f⟩
  refine dE z z (fa a_9) (.inr fun _ _ h => A_<|h.2.below) ?_
  rintro _ w3u ⟨rfl, h2g⟩
  have ht := h2g.below
  have h19 : Blk w3u w1j.z [vI 0, sl none 0 0, sl none 0 0] := h2g.blk
  have h2h := (((h2.ag B).e h1).e s0).e ht
  have h2i := lt_ (lt_ (lt_ h2.s h1.s) s0.s) ht.s
  obtain ⟨r4v, e3v, hm3w⟩ := bdS hu1i
  refine dE z z (fc call129 z<|W_w0x (B := B) e3v (zt' hBw h2i)<|p1_0.g h2h) (.inr fun _ _ h => A_<|h.1) ?_
  rintro _ w4w ⟨s9, rfl, h3x⟩
  have h2j := h2h.e s9
  obtain ⟨rr, r3y, r3z, e40, hm41⟩ := O_ hm3w
  refine dE z z (fc call128 z<|i_v (B := B) e40 (zt' hBw<|lt_ h2i s9.s) (p1_0.g h2j) h3x (p2_0.g h2j)<|ii z) (.inr fun _ _ h => A_<|h.1) ?_
  rintro _ w4x ⟨s2k, a2l, n2m, c2n, S42, a2o, n2p, c2q, S43, rfl, h44, h45, h46, h47, h48, h1a, hu⟩
  refine dR z z (mv z) ?_
  iterate 3 refine dR z z (ext_ z z) ?_
  have h1b := m1 s0.s
  refine dE0 z (fs (cur' := [vI rr.number, sl a2l n2m c2n, sl a2o n2p c2q]) i_ z z ((h19.e s9).e s2k) z (lb z) (oA z) z) (.inr fun _ _ h => b_S (atp h1b) h.2) ?_
  rintro _ w4y ⟨h49, s4a⟩
  have h1c := s4a.one
  refine dR z z (asg z)<|dR z z (asg z)<|pD ?_
  have h2r := p_ (al_ hu) h19.lt s9.s
  have h2s := lt_ (lt_ s0.s ht.s) s9.s
  have h2t := p_ (ar_ hu) h19.lt s9.s
  exact fun _ q => ⟨rr.number, rr.bytes, rr.items, r3y, r3z, som hm41, a2l, n2m, c2n, S42, a2o, n2p, c2q, S43, w1j.z, (q.k<|s5 z z z z z), (bM (bup (bup (bup s0 ht) s9) s2k) h1c h1b), h44, (h45.c h1c h2r), (nl_ h1a), (m_ (al_ hu) h2s), (h46.c h1c h2t), (nr_ h1a), (m_ (ar_ hu) h2s), (ds<|nj h1a), h47, h48, h49, (atp h1b), h2r, h2t⟩
 rintro a4b ws ⟨xb, xw, xx, xc, xd, rfl, ae, nf, cg, S6, ah, ni, cj, S7, g8, hS4z, sk, h4c, h4d, h4e, h2u, h4f, h4g, h2v, h4h, h2w, h4i, h4j, h50, h51, h52⟩
 have hm4k := un5S hm31
 revert a4b
 refine Wo<|Wq<|Wq ?_
 obtain ⟨u4l, hu2x, hm2y⟩ := bdS hm4k
 refine Wt (fun a w => ∃ (x1d : Bool), x1d = u4l ∧ Sat 32 [(4, pt wl.z), (7, pt g8), (8, vI xc), (9, vI xd), (26, vB x1d)] a ∧ Below ws.z ws w) ?_ ?_
 ·refine Wg<|Rm z<|R z (eql z z)<|Rm z ?_
  rcases bs (xd == 0) with hc3 | hc3
  ·exact Rh z hc3 (mv z)<|Rh z hc3 (mv z)<|Rh z hc3 (lnR h_ z<|p2_0.g<|((h2.ag B).e h1).e sk)<|Rh z hc3 (lss z z)<|R z (pT z hc3 z)<|Wl (fun _ q => ⟨decide (xc < (x2.length : Int)), som<|ifT hu2x hc3, (q.k<|s5 z z z z z), (br ws)⟩)
  iterate 4 refine Nh z hc3 ?_
  exact R z (pF z hc3 z)<|Wl (fun _ q => ⟨false, som<|ifF hu2x hc3, (q.k<|s5 z z z z z), (br ws)⟩)
 rintro a4m w53 ⟨x1d, rfl, hS54, sa⟩
 revert a4m
 refine Wo<|Wc z (fun hc1e => ?_) (fun hc1e => ?_)
 ·refine Ws<|R z (bP (parts := []) (cs := [vI 0, sl none 0 0, sl none 0 0]) Q_ z z)<|Rm z<|E0 (fs (cur' := [vI 0, sl none 0 0, sl none 0 0]) i_ z z ((hn.e sk).e sa) z (lb z) (oA z) z) ?_
  rintro _ w55 ⟨h4n, s4o⟩
  refine Ra z<|Ra z<|Wn ?_
  obtain rfl := som (ifT hm2y hc1e)
  exact Wr<|s_ hr (u_ x_ i_ z h4n z) z z ⟨(bM (bup (bup (bup h2 h1) sk) sa) s4o.one<|m1 h2.s), none, 0, 0, [], none, 0, 0, [], z, (ii z), onL, onL, h2w, (ii z), nd0, al0⟩
 refine Wk<|Ws<|R z (lN (vs := [vI xb, sl ae nf cg, sl ah ni cj]) x_ i_ z z fid<|(h4j.e sa).row 0 3 z)<|Rm z<|Rm z<|E0 (fs (cur' := [vI xb, sl ae nf cg, sl ah ni cj]) i_ z z ((hn.e sk).e sa) z (lb z) (oA z) z) ?_
 rintro _ w56 ⟨h4p, s4q⟩
 have h1f := s4q.one
 refine Ra z<|Ra z<|Wn ?_
 obtain rfl := som (ifF hm2y hc1e)
 have h2z := lt_ h2.s h1.s
 exact Wr<|s_ hr (u_ x_ i_ z h4p z) z z ⟨(bM (bup (bup (bup h2 h1) sk) sa) h1f<|m1 h2.s), ae, nf, cg, S6, ah, ni, cj, S7, z, h4c, ((h4d.e sa).c h1f<|p_ h2u hn.lt lr), ((h4f.e sa).c h1f<|p_ h2v hn.lt lr), h2w, h4i, (na_ h4e h4g<|ds h4h), (aa_ (m_ h2u h2z)<|m_ h2v h2z)⟩
theorem W_w2q {x1 : g_} {x2 : List UInt8} {res : Bool} (hm : g_8 n x1 x2 = some res) (hBw : B ≤ w0.z) (p1_0 : a_ w0 B (sl A0 N0 C0) x1.rules) (p2_0 : a_ w0 B (sl A6 N6 C6) x2) : j_ prog 69 [(.agg #[sl A0 N0 C0]), sl A6 N6 C6] w0 (Q11 w0 B res) := by
 unfold g_8 at hm
 refine goF func69 z z (lb z) fun fn hr => Ws<|E z (fb z) ?_
 rintro _ w4 ⟨rfl, h1⟩
 have h0 := h1.below
 have h5 : Blk w4 w0.z [sl A0 N0 C0] := h1.blk
 refine Ra z<|Wn<|Ws<|R z (lN (vs := [sl A0 N0 C0]) P_ F_ z z fid<|h5.row 0 1 z)<|Rm z ?_
 obtain ⟨r6, rj, rk, e7, hm8⟩ := O_ hm
 refine E z (fc call101 z<|W_w2p (B := B) e7 (zt' hBw h0.s) (p1_0.e h0)<|p2_0.e h0) ?_
 rintro _ w9 ⟨s2, aa, nb, cc, Sl, ad, ne, cf, Sm, rfl, hn, ho, hp, hq, ht, hu, hv⟩
 refine Rm z ?_
 iterate 3 refine R z (ext_ z z) ?_
 refine E z (fa a_9) ?_
 rintro _ wg ⟨rfl, h3⟩
 have hh : Blk wg w9.z [vI 0, sl none 0 0, sl none 0 0] := h3.blk
 refine E0 (fs (cur' := [vI r6.number, sl aa nb cc, sl ad ne cf]) i_ z z hh z (lb z) (oA z) z) ?_
 rintro _ wr ⟨hw, si⟩
 refine Ra z<|Ra z<|Wn<|Ws<|Rm z<|R z (eql z z)<|Ra z<|Wn ?_
 obtain rfl := som hm8
 exact Wr<|d_ hr z ⟨(bM (bup (bup h0 s2) h3.below) si.one<|m1<|lt_ h0.s s2.s), z⟩
theorem W_w2r {x1 : C_} {res : Bool} (hm : f_3 n x1 = some res) (hBw : B ≤ w0.z) (p1_0 : a_ w0 B (sl A0 N0 C0) x1.registry.versions) (p1_1 : a_ w0 B (sl A1 N1 C1) x1.log.bytes) (p1_2 : inI x1.log.stored) : j_ prog 35 [(.agg #[sl A0 N0 C0, sl A1 N1 C1, vI x1.log.stored])] w0 (Q11 w0 B res) := by
 unfold f_3 at hm
 refine goF func35 z z (lb z) fun fn hr => Ws<|E z (fb z) ?_
 rintro _ we ⟨rfl, hl⟩
 have h4 := hl.below
 have hf : Blk we w0.z [sl A0 N0 C0, sl A1 N1 C1, vI x1.log.stored] := hl.blk
 refine Ra z<|Wn<|Wq<|Wq ?_
 obtain ⟨u19, hu1a, hmm⟩ := bdS hm
 refine Wt (fun a w => ∃ (xg : Bool), xg = u19 ∧ Sat 74 [(1, pt w0.z), (23, vB xg)] a ∧ Below we.z we w) ?_ ?_
 ·refine Wg<|R z (fd c_u z)<|R z (lN (vs := [sl A0 N0 C0]) d_k c_x z z fid<|hf.row 0 1 z) ?_
  obtain ⟨r1b, e1c, hmn⟩ := bdS hu1a
  refine E z (fc call67 z<|W_w2l (B := B) (x1 := (⟨x1.registry.versions⟩ : V_)) e1c (zt' hBw h4.s)<|p1_0.e h4) ?_
  rintro _ w2s ⟨s7, rfl⟩
  refine R z (not_ z)<|Rm z ?_
  rcases bs (!r1b) with hc3 | hc3
  ·iterate 4 refine Nh z hc3 ?_
   exact R z (pT z hc3 z)<|Rm z<|Nh z z<|Nh z z<|Nh z z<|Nh z z<|Nh z z<|Nh z z<|R z (pT z z z)<|Wl (fun _ q => ⟨true, som<|ifT hmn hc3, (q.k<|s2 z z), s7⟩)
  refine Rh z hc3 (fd b_H z) ?_
  have ho := hf.e s7
  refine Rh z hc3 (lN (vs := [sl A1 N1 C1, vI x1.log.stored]) c_Q c_5 z z fid<|ho.row 1 2 z) ?_
  have hp := (h4.ag B).e s7
  have hq := lt_ h4.s s7.s
  obtain ⟨r1d, e1e, hmr⟩ := bdS (ifF hmn hc3)
  refine Eg z z hc3 z (fc call65 z<|W_w0u (B := B) (x1 := (⟨x1.log.bytes, x1.log.stored⟩ : Log)) e1e (zt' hBw hq) (p1_1.g hp) p1_2) ?_
  rintro _ w2t ⟨sb, rfl⟩
  refine Rh z hc3 (not_ z)<|R z (pF z hc3 z)<|Rm z ?_
  rcases bs (!r1d) with hc2 | hc2
  ·iterate 6 refine Nh z hc2 ?_
   exact R z (pT z hc2 z)<|Wl (fun _ q => ⟨true, som<|ifT hmr hc2, (q.k<|s2 z z), (bup s7 sb)⟩)
  refine Rh z hc2 (fd b_H z)<|Rh z hc2 (fd b_h z)<|Rh z hc2 (l1 J_ z fid<|(ho.e sb).at z) ?_
  obtain ⟨r1f, e1g, hm1h⟩ := bdS (ifF hmr hc2)
  refine Eg z z hc2 z (fc call66 z<|W_w0v (B := B) e1g (zt' hBw<|lt_ hq sb.s)<|p1_1.g<|hp.e sb) ?_
  rintro _ w2u ⟨s1i, a2v, n2w, c2x, rfl, h1j⟩
  exact Rh z hc2 (lnR b_c z h1j)<|Rh z hc2 (a_c z z)<|R z (pF z hc2 z)<|Wl (fun _ q => ⟨decide (20 < (r1f.length : Int)), som hm1h, (q.k<|s2 z z), (bup (bup s7 sb) s1i)⟩)
 rintro a1k w2y ⟨xg, rfl, hS2z, s8⟩
 revert a1k
 refine Wo<|Wc z (fun hch => ?_) (fun hch => ?_)
 ·refine Ws<|Ra z<|Wn ?_
  obtain rfl := som (ifT hmm hch)
  exact Wr<|d_ hr z ⟨(bup h4 s8), z⟩
 refine Wk<|Ws<|R z (fd b_H z)<|R z (fd b_h z) ?_
 have ht := hf.e s8
 refine R z (l1 J_ z fid<|ht.at z) ?_
 have hu := (h4.ag B).e s8
 have hv := lt_ h4.s s8.s
 obtain ⟨r30, r31, e1l, hm1m⟩ := a_y (ifF hmm hch)
 refine E z (fc call68 z<|h_2 (B := B) e1l (zt' hBw hv)<|p1_1.g hu) ?_
 rintro _ w9 ⟨sc, aw, ns, cx, S32, rfl, h5, h33, h34, h35⟩
 refine Rm z<|R z (ext_ z z)<|R z (ext_ z z)<|Ra z<|Ra z<|Wn<|Wq<|Ws<|Ra z<|Wn ?_
 obtain ⟨u36, hu1n, hmy⟩ := bdS hm1m
 refine Wf (σ := Unit) (ρ := Bool) (fun (ki : Nat) (_ : Unit) a w => Sat 74 [(1, pt w0.z), (3, sl aw ns cx), (5, (vI ((ki : Nat) : Int)))] a ∧ Below w9.z w9 w) (fun (_ : Unit) a w => Sat 74 [] a ∧ Below w9.z w9 w) (fun r ex a w => ex = .ret ∧ v_ prog fn (Q11 w0 B r) a w) hu1n ?_ ?_ ?_ ?_ ?_
 ·exact fun _ q => ⟨(q.k<|s3 z z z), (br w9)⟩
 ·rintro ki _ a37 wz o38 hk10 ⟨hS1o, sa⟩ hm1p
  refine Wu ?_ hS1o
  refine Wq<|Ws<|Rm z<|Rm z ?_
  have h11 := h5.e sa
  refine R z (lnR b_I z<|or_ h11<|b_.lt h5)<|R z (lss z z)<|Wn<|Wc z (fun _ => ?_) (fun hc => (R_ hk10 hc).elim)
  refine Wk<|Wq<|Wb<|Wq ?_
  obtain ⟨u1q, hu1r, hm12⟩ := bdS hm1p
  refine Wt (fun a w => ∃ (xj : Bool), xj = u1q ∧ Sat 74 [(1, pt w0.z), (3, sl aw ns cx), (5, (vI ((ki : Nat) : Int))), (73, vB xj)] a ∧ Below wz.z wz w) ?_ ?_
  ·refine Wd (X := noX) 0 (.rd 0 (.rd 1 (.rd 2 (.rd 3 (.rd 4 (.rd 5 (.rd 6 (.rd 7 (.rd 8 (.rd 9 (.rd 10 (.rd 11 (.rd 12 (.rd 13 (.rd 14 (.rd 15 (.rd 16 (.rd 17 (.rd 18 (.rd 19 (.rd 20 (.rd 21 (.rd 22 (.rd 23 (.rd 24 (.rd 25 (.rd 26 (.rd 27 (.rd 28 (.rd 29 (.rd 30 (.rd 31 (.rd 32 (.ef 33 (.rd 34 (.rd 35 (.rd 36 .done))))))))))))))))))))))))))))))))))))) mo (by kernel_rfl) fun w39 s6 _ => dR z z (mv z)<|dR z z (mv z) ?_
   obtain ⟨x1s, e1t, hm13⟩ := bdS hu1r
   have hd := h11.e s6
   refine dRX z z (at_ (α := o_) b_I T_ z z z (or_ hd<|b_.lt h5) e1t) ?_
   rintro _ ⟨b3a, o3b, cs3c, rfl, h1u, h1v, h3d⟩
   obtain ⟨a3e, n3f, c3g, rfl, h3h, h3i, h3j, h3k⟩ := d_Q h1v
   refine dR z z (fd b_N z)<|dR z z (l1 g_3 z fid<|h1u.at (j := 0) z)<|dR z z (eql z z)<|dR z z (mv z) ?_
   rcases bs (x1s.kind == 1) with hc1 | hc1
   ·refine dRg z z z hc1 z (mv z)<|dRg z z z hc1 z (mv z) ?_
    obtain ⟨x1w, e1x, hm14⟩ := bdS (ifT hm13 hc1)
    refine a_K z z z hc1 z (at_ (α := o_) b_I T_ z z z (or_ hd<|b_.lt h5) e1x) ?_
    rintro _ ⟨b3l, o3m, cs3n, rfl, h1y, h1z, h3o⟩
    obtain ⟨a3p, n3q, c3r, rfl, h3s, h3t, h3u, h3v⟩ := d_Q h1z
    refine dRg z z z hc1 z (fd b_O z)<|dRg z z z hc1 z (l1 g_3 z fid<|h1y.at (j := 2) z)<|dRg z z z hc1 z (fd c_u z)<|dRg z z z hc1 z (fd b_y z) ?_
    have h15 := ((ht.e sc).e sa).e s6
    refine dRg z z z hc1 z (l1 b_G z fid<|h15.at z) ?_
    have h16 := p1_0.g<|((hu.e sc).e sa).e s6
    refine dRg z z z hc1 z (lnR a_S z h16)<|dRg z z z hc1 z (a_M z z)<|dRg z z z hc1 z (mv z) ?_
    rcases bs (decide ((x1.registry.versions.length : Int) ≤ x1w.version)) with hc0 | hc0
    ·iterate 15 refine dRn z z z hc0 z ?_
     exact dEn z z z hc0 z<|dRn z z z hc0 z<|dRg z z z hc1 z (pT z hc0 z)<|dR z z (pT z hc1 z)<|pD (fun _ q => ⟨true, som<|ifT hm14 hc0, (q.k<|s4 z z z z), s6⟩)
    refine dRg z z z hc0 z (fd c_u z)<|dRg z z z hc0 z (fd b_y z)<|dRg z z z hc0 z (l1 b_G z fid<|h15.at z)<|dRg z z z hc0 z (mv z)<|dRg z z z hc0 z (mv z) ?_
    obtain ⟨x3w, e20, hm21⟩ := bdS (ifF hm14 hc0)
    refine a_K z z z hc0 z (at_ (α := o_) b_I T_ z z z (or_ hd<|b_.lt h5) e20) ?_
    rintro _ ⟨b3x, o3y, cs3z, rfl, h22, h23, h40⟩
    obtain ⟨a41, n42, c43, rfl, h44, h45, h46, h47⟩ := d_Q h23
    refine dRg z z z hc0 z (fd b_O z)<|dRg z z z hc0 z (l1 g_3 z fid<|h22.at (j := 2) z) ?_
    obtain ⟨x48, e24, hm25⟩ := bdS hm21
    refine a_K z z z hc0 z (at_ (α := g_) a_S F_ z z z h16 e24) ?_
    rintro _ ⟨b49, o4a, cs4b, rfl, h26, h27, h4c⟩
    obtain ⟨a28, n29, c2a, rfl, h2b⟩ := d_q h27
    refine dRg z z z hc0 z (lN (vs := [sl a28 n29 c2a]) P_ F_ z z fid h26)<|dRg z z z hc0 z (mv z)<|dRg z z z hc0 z (mv z) ?_
    obtain ⟨x4d, e2c, hm2d⟩ := bdS hm25
    refine a_K z z z hc0 z (at_ (α := o_) b_I T_ z z z (or_ hd<|b_.lt h5) e2c) ?_
    rintro _ ⟨b4e, o4f, cs4g, rfl, h2e, h2f, h4h⟩
    obtain ⟨a4i, n4j, c4k, rfl, h4l, h4m, h4n, h2g⟩ := d_Q h2f
    refine dRg z z z hc0 z (fd c_w z)<|dRg z z z hc0 z (l1 J_ z fid<|h2e.at (j := 3) z) ?_
    obtain ⟨r2h, e2i, hm2j⟩ := bdS hm2d
    refine dEg z z z hc0 z (fc call69 z<|W_w2q (B := w9.z) e2i (b_5<|lt_ sa.s s6.s) (a_.mono h2b<|zt' hBw<|lt_ hv sc.s) h2g) (.inr fun _ _ h => A_<|h.1) ?_
    rintro _ w4o ⟨s2k, rfl⟩
    exact dRg z z z hc0 z (not_ z)<|dRg z z z hc1 z (pF z hc0 z)<|dR z z (pT z hc1 z)<|pD (fun _ q => ⟨!r2h, som hm2j, (q.k<|s4 z z z z), (bup s6 s2k)⟩)
   iterate 11 refine dRn z z z hc1 z ?_
   iterate 15 refine dRu z z z z ?_
   exact dEu z z z z<|dRu z z z z<|dRn z z z hc1 z<|dR z z (pF z hc1 z)<|pD (fun _ q => ⟨false, som<|ifF hm13 hc1, (q.k<|s4 z z z z), s6⟩)
  rintro a2l w4p ⟨xj, rfl, hS4q, s17⟩
  revert a2l
  refine Wo<|Wc z (fun hck => ?_) (fun hck => ?_)
  ·exact Ws<|Ra z<|Wn<|Wr<|rtO<|qL (som<|ifT hm12 hck).symm<|d_ hr z ⟨(bup (bup (bup (bup h4 s8) sc) sa) s17), z⟩
  exact Wk<|Wg<|Rm z<|R z (inc_ hk10 (lt_ (b_.len h5) H_) z z)<|Ra z<|Wl (fun _ q => ⟨(), (som<|ifF hm12 hck).symm, ⟨(q.k<|s3 z z z), (bup sa s17)⟩⟩)
 ·rintro _ a4r w4s ⟨hS2m, s18⟩
  refine Wu ?_ hS2m
  refine Wq<|Ws<|Rm z<|Rm z<|R z (lnR b_I z<|or_ (h5.e s18)<|b_.lt h5)<|R z (lss z z)<|Wn<|Wc z (fun hc => (S_ hc).elim) (fun _ => ?_)
  exact We (fun a' ha' => ⟨rfl, ⟨(Sat.weaken ha' sn), s18⟩⟩)
 ·rintro _ a2n w4t rfl ⟨hS4u, s2o⟩
  have hm2p := elL hmy
  revert a2n
  refine Wo<|Ws<|Ra z<|Wn ?_
  obtain rfl := som hm2p
  exact Wr<|d_ hr z ⟨(bup (bup (bup h4 s8) sc) s2o), z⟩
 rintro r4v ex4w a4x w4y rfl ⟨rfl, hq2q⟩
 have hm2r := elR hmy
 obtain rfl := som hm2r
 exact ⟨hq2q, z⟩
def Q19 (w0 : World) (B : Zone) (r : Str) (v : Value) (w' : World) : Prop := Bw w0 w' ∧ (fun r1 => (Str.v r1) = v ∧ r1.b.length ≤ LEN) r
theorem W_w13 {x1 : Int} {res : Str} (hm : c_P n x1 = some res) (hBw : B ≤ w0.z) (p1_0 : inI x1) : j_ prog 59 [vI x1] w0 (Q19 w0 B res) := by
 unfold c_P at hm
 refine goF func59 z z (lb z) fun fn hr => Ws<|Ra z<|Wn<|Wq<|Ws<|Rm z<|R z (eql z z)<|Wn<|Wc z (fun hc4 => ?_) (fun hc4 => ?_)
 ·refine Ws<|Ra z<|Wn ?_
  obtain rfl := som (ifT hm hc4)
  exact Wr<|d_ hr z ⟨(br w0), z, (lb z)⟩
 refine Wk<|Ws<|Ra z<|Wn<|Wq<|Ws<|Rm z<|Ra z<|Wn ?_
 obtain ⟨uz, huj, hmb⟩ := bdS (ifF hm hc4)
 refine a_L (σ := Str × Int) (ρ := Str) (fun s a w => un2 (fun x2 x0 => Sat 31 [(0, vI x1), (3, Str.v x2), (4, vI x0)] a ∧ Below w0.z w0 w ∧ x2.b.length ≤ LEN ∧ inI x0) s) (fun s a w => un2 (fun x2 x0 => Sat 31 [(0, vI x1), (3, Str.v x2)] a ∧ Below w0.z w0 w ∧ x2.b.length ≤ LEN ∧ inI x0) s) (fun r ex a w => ex = .ret ∧ v_ prog fn (Q19 w0 B r) a w) huj ?_ ?_ ?_ ?_
 ·exact fun _ q => ⟨(q.k<|s3 z z z), (br w0), (lb z), p1_0⟩
 ·rintro ⟨x2, x0⟩ a10 w1 o11 ⟨hSk, sc, h5, h6⟩ hml
  have hmd := a_2 hml
  refine Wu ?_ hSk
  refine Wq<|Ws<|Rm z<|R z (nq z z)<|Wn<|Wc z (fun hc7 => ?_) (fun hc7 => ?_)
  ·refine Wk<|Wq<|Wb<|Ws<|Rm z<|R z (f_u z z (by decide))<|Ra z<|Wn<|Wq<|Ws<|Rm z<|R z (lss z z)<|Wn ?_
   obtain ⟨um, hue, hmn⟩ := bdS (ifT hmd hc7)
   refine Wt (fun a w => ∃ (x3 : Int), x3 = um ∧ Sat 31 [(0, vI x1), (3, Str.v x2), (4, vI x0), (5, vI x3)] a ∧ Below w1.z w1 w ∧ inI x3) ?_ ?_
   ·refine Wc z (fun hc8 => ?_) (fun hc8 => ?_)
    ·exact Wg<|Rm z<|R z (rd_neg z)<|Ra z<|Wl (fun _ q => ⟨e_t<|a_C x0 10, som<|ifT hue hc8, (q.k<|s4 z z z z), (br w1), (o_z _)⟩)
    exact a_J (fun _ q => ⟨a_C x0 10, som<|ifF hue hc8, (q.k<|s4 z z z z), (br w1), (i_Z h6)⟩)
   rintro ao wp ⟨x3, rfl, hS12, sq, h13⟩
   revert ao
   refine Wo<|Wg<|Rm z<|R z (add_ z z)<|R z (b_3 d_3 d_5 z)<|E z (fS [(.tmp 21)] D_ z z z (a_p z) (lb z)<|lb z) ?_
   rintro _ wr ⟨rfl, h9⟩
   have h14 : Blk wr wp.z [(vU (byteI (mkB (c_ 48 x3))))] := h9.blk
   refine R z (e_r h_ d_9 d_5 z_5 z<|b_.rep<|b_r h9 a_z)<|Rm z ?_
   obtain ⟨xs, ef, hmt⟩ := bdS hmn
   exact R z (b_R z z ef)<|Ra z<|Wn<|Wg<|Rm z<|R z (l_e z z (by decide))<|Ra z<|Wl (fun _ q => ⟨(xs, c_b x0 10), (som hmt).symm, ⟨(q.k<|s3 z z z), (bup (bup sc sq) h9.below), (d_T ef), (l_2 _ _)⟩⟩)
  exact We (fun a' ha' => a_F (som<|ifF hmd hc7).symm ⟨(Sat.weaken ha'<|s2 z z), sc, h5, h6⟩)
 ·rintro ⟨x2, x0⟩ au w15 rfl ⟨hS16, sg, h5, h6⟩
  have hmv := elL hmb
  have hmh := a_2 hmv
  revert au
  refine Wo<|Wq<|Ws<|Rm z<|R z (lss z z)<|Wn<|Wc z (fun hca => ?_) (fun hca => ?_)
  ·refine Ws<|Rm z ?_
   obtain ⟨x17, ei, hmw⟩ := bdS (ifT hmh hca)
   refine R z (b_R z z ei)<|Ra z<|Wn ?_
   obtain rfl := som hmw
   exact Wr<|d_ hr z ⟨sg, z, (d_T ei)⟩
  refine Wk<|Ws<|Rm z<|Ra z<|Wn ?_
  obtain rfl := som (ifF hmh hca)
  exact Wr<|d_ hr z ⟨sg, z, h5⟩
 rintro r18 ex19 a1a w1b rfl ⟨rfl, hqx⟩
 have hmy := elR hmb
 obtain rfl := som hmy
 exact ⟨hqx, z⟩
theorem W_w2s {x1 : C_} {res : (List Str)} (hm : g_T n x1 = some res) (hBw : B ≤ w0.z) (p1_0 : a_ w0 B (sl A0 N0 C0) x1.registry.versions) (p1_1 : a_ w0 B (sl A1 N1 C1) x1.log.bytes) (p1_2 : inI x1.log.stored) : j_ prog 30 [(.agg #[sl A0 N0 C0, sl A1 N1 C1, vI x1.log.stored])] w0 (Q2 w0 B res) := by
 unfold g_T at hm
 refine goF func30 z z (lb z) fun fn hr => Ws<|E z (fb z) ?_
 rintro _ w1 ⟨rfl, hv⟩
 have hb := hv.below
 have hw : Blk w1 w0.z [sl A0 N0 C0, sl A1 N1 C1, vI x1.log.stored] := hv.blk
 refine Ra z<|Wn<|Ws<|E z (f0 (α := Str) d_M) ?_
 rintro _ wl ⟨a1g, n1h, c1i, rfl, sf, hn⟩
 refine Ra z<|Wn<|Ws ?_
 have hx := hw.e sf
 refine R z (lN (vs := [sl A0 N0 C0, sl A1 N1 C1, vI x1.log.stored]) c_p b_P z z fid<|hx.row 0 3 z) ?_
 have ho := (hb.ag B).e sf
 have hg := lt_ hb.s sf.s
 obtain ⟨r1j, e1k, hm1l⟩ := bdS hm
 refine E z (fc call34 z<|W_w2f (B := B) e1k (zt' hBw hg) (p1_0.g ho) (p1_1.g ho) p1_2) ?_
 rintro _ w2 ⟨s9, ay, nz, c10, rfl, h11⟩
 refine Ra z<|Wn<|Wq<|Ws<|Ra z<|Wn ?_
 obtain ⟨u3j, hu1m, hm12⟩ := bdS hm1l
 refine a_L (σ := (List Str) × Int) (ρ := (List Str)) (fun s a w => un2 (fun xc x6 => ∃ a3 n4 c5 S0, Sat 45 [(1, pt w0.z), (3, sl a3 n4 c5), (4, sl ay nz c10), (5, vI x6)] a ∧ Chg (· ∈ [w1.z]) w2 w ∧ b_ w S0 (sl a3 n4 c5) xc ∧ S0.Nodup ∧ (∀ k ∈ S0, k ∈ [w1.z] ∨ w2.z ≤ k) ∧ inI x6) s) (fun s a w => un2 (fun xc x6 => ∃ a3 n4 c5 S0, Sat 45 [(3, sl a3 n4 c5)] a ∧ Chg (· ∈ [w1.z]) w2 w ∧ b_ w S0 (sl a3 n4 c5) xc ∧ S0.Nodup ∧ (∀ k ∈ S0, k ∈ [w1.z] ∨ w2.z ≤ k) ∧ inI x6) s) (fun r ex a w => ex = .ret ∧ v_ prog fn (Q2 w0 B r) a w) hu1m ?_ ?_ ?_ ?_
 ·exact fun _ q => ⟨a1g, n1h, c1i, [w1.z], (q.k<|s4 z z z z), (cr [w1.z] w2), (hn.e s9), a_0, (io sr), (ii z)⟩
 ·rintro ⟨xc, x6⟩ a3k wd o3l ⟨a3, n4, c5, S0, hS1n, s7, hh, hi, hj, h13⟩ hm1o
  have hm1p := a_2 hm1o
  refine Wu ?_ hS1n
  refine Wq<|Wq ?_
  obtain ⟨u1q, hu14, hm15⟩ := bdS hm1p
  refine Wt (fun a w => ∃ (xm : Bool), xm = u1q ∧ Sat 45 [(1, pt w0.z), (3, sl a3 n4 c5), (4, sl ay nz c10), (5, vI x6), (16, vB xm)] a ∧ Below wd.z wd w) ?_ ?_
  ·refine Wg<|Rm z<|Rm z ?_
   have h16 : ∀ k ∈ [w1.z], ¬ B k := or0 (f_ lr)  (r_ (zt' hBw hb.s))
   have h1r : ∀ k ∈ [w1.z], ¬ (zn B wl.z w2.z) k := (nznL h16 (b_.lt hn) lr)
   refine R z (lnR b_c z<|h11.c s7<|k_ h1r)<|R z (lss z z)<|Rm z ?_
   rcases bs (decide (x6 < (r1j.length : Int))) with hc8 | hc8
   ·refine Rh z hc8 (lN (vs := [sl A0 N0 C0, sl A1 N1 C1, vI x1.log.stored]) c_p b_P z z fid<|((hx.e s9).c s7<|djs<|mmr hw.lt).row 0 3 z) ?_
    have h17 := (ho.e s9).c s7<|k_ h16
    obtain ⟨r1s, e1t, hm1u⟩ := bdS (ifT hu14 hc8)
    refine Eg z z hc8 z (fc call35 z<|W_w2r (B := B) e1t (zt' hBw<|lt_ (lt_ hg s9.s) s7.s) (p1_0.g h17) (p1_1.g h17) p1_2) ?_
    rintro _ w3m ⟨s1v, rfl⟩
    exact R z (pT z hc8 z)<|Wl (fun _ q => ⟨r1s, som hm1u, (q.k<|s5 z z z z z), s1v⟩)
   exact Nh z hc8<|Nh z hc8<|R z (pF z hc8 z)<|Wl (fun _ q => ⟨false, som<|ifF hu14 hc8, (q.k<|s5 z z z z z), (br wd)⟩)
  rintro a1w w18 ⟨xm, rfl, hS3n, sa⟩
  revert a1w
  refine Wo<|Wc z (fun hcp => ?_) (fun hcp => ?_)
  ·refine Wk<|Wq<|Wb (Wd (X := noX) 16777216 (.rd 0 (.rd 1 (.rd 2 (.rd 3 (.rd 4 (.rd 5 (.rd 6 (.rd 7 (.rd 8 (.rd 9 (.rd 10 (.rd 11 (.rd 15 (.rd 16 (.rd 17 (.rd 18 (.rd 19 (.rd 20 (.ef 12 (.rd 13 (.rd 14 (.ef 21 (.rd 22 (.ef 23 (.ef 24 (.rd 25 .done)))))))))))))))))))))))))) mo (by kernel_rfl) fun w1x se _ => ?_)
   iterate 3 refine dR z z (mv z) ?_
   obtain ⟨x3o, e1y, hm1z⟩ := bdS (ifT hm15 hcp)
   have h20 : ∀ k ∈ [w1.z], ¬ B k := or0 (f_ lr)  (r_ (zt' hBw hb.s))
   have h21 : ∀ k ∈ [w1.z], ¬ (zn B wl.z w2.z) k := (nznL h20 (b_.lt hn) lr)
   have hq := h11.g<|((s7.agc (zn B wl.z w2.z)<|k_ h21).e sa).e se
   refine dRX z z (at_ (α := n_) b_c a_s z z z hq e1y) ?_
   rintro _ ⟨b3p, o3q, cs3r, rfl, h22, h23, h3s⟩
   obtain ⟨a3t, n3u, c3v, rfl, h3w, h3x, h3y⟩ := d_P h23
   refine dR z z (fd g_Y z)<|dR z z (l1 g_9 z fid<|h22.at (j := 0) z) ?_
   obtain ⟨x3z, e24, hm25⟩ := bdS hm1z
   refine dR z z (b_R z z e24)<|dR z z (mv z)<|dR z z (mv z) ?_
   obtain ⟨x40, e26, hm27⟩ := bdS hm25
   refine dRX z z (at_ (α := n_) b_c a_s z z z hq e26) ?_
   rintro _ ⟨b41, o42, cs43, rfl, h28, h29, h44⟩
   obtain ⟨a45, n46, c47, rfl, h48, h2a, h49⟩ := d_P h29
   refine dR z z (fd k_I z)<|dR z z (l1 g_3 z fid<|h28.at (j := 1) z)<|dR z z (mv z)<|dR z z (mv z) ?_
   obtain ⟨x4a, e2b, hm2c⟩ := bdS hm27
   refine dRX z z (at_ (α := n_) b_c a_s z z z hq e2b) ?_
   rintro _ ⟨b4b, o4c, cs4d, rfl, h2d, h2e, h4e⟩
   obtain ⟨a4f, n4g, c4h, rfl, h4i, h4j, h19⟩ := d_P h2e
   refine dR z z (fd k_J z)<|dR z z (l1 J_ z fid<|h2d.at (j := 2) z)<|dR z z (lnR h_ z h19) ?_
   have h1a := lt_ (lt_ (lt_ (lt_ hg s9.s) s7.s) sa.s) se.s
   obtain ⟨r4k, e2f, hm2g⟩ := bdS hm2c
   refine dE z z (fc call59 z<|W_w13 (B := B) e2f (zt' hBw h1a) h2a) (.inr fun _ _ h => A_<|h.1) ?_
   rintro _ w2h ⟨sk, rfl, h4l⟩
   obtain ⟨x4m, e2i, hm2j⟩ := bdS hm2g
   refine dR z z (b_R z z e2i) ?_
   obtain ⟨x4n, e2k, hm2l⟩ := bdS hm2j
   refine dR z z (b_R z z e2k) ?_
   obtain ⟨r4o, e2m, hm2n⟩ := bdS hm2l
   refine dE z z (fc call59 z<|W_w13 (B := B) e2m (zt' hBw<|lt_ h1a sk.s)<|b_2<|a_.len h19) (.inr fun _ _ h => A_<|h.1) ?_
   rintro _ w1b ⟨ss, rfl, h4p⟩
   obtain ⟨x2o, er, hm2p⟩ := bdS hm2n
   refine dR z z (b_R z z er)<|dE z z (fS [(.tmp 41)] d_M z z z (a_p z) (lb z)<|lb z) (.inr fun _ _ h => A_<|h.2.below) ?_
   rintro _ w1c ⟨rfl, ht⟩
   have hu := ht.below
   have h2q : Blk w1c w1b.z [Str.v x2o] := ht.blk
   have h4q := b_r ht<|d_0<|d_T er
   obtain ⟨x2r, e2s, hm2t⟩ := bdS hm2p
   refine dE z z (b_d (α := Str) d_M e2s z z (((((hh.e sa).e se).e sk).e ss).e hu) hi h2q (d_0<|d_T er) an_ K_) (.inl z) ?_
   rintro _ w2u ⟨S1d, a2v, n2w, c2x, rfl, s2y, h2z, h30, h31⟩
   refine dR z z (asg z)<|pD<|Wo<|Wg<|Rm z<|R z (add_ z z)<|Ra z<|Wl ?_
   have h1e : ∀ k ∈ S0, k ∈ [w1.z] ∨ w2.z ≤ k := or1 hj (io sr) (l_ lr)
   have h32 : ∀ k ∈ S1d, k ∈ [w1.z] ∨ w2.z ≤ k := or2 h31 h1e an_ (l_ (lt_ (lt_ (lt_ (lt_ (lt_ s7.s sa.s) se.s) sk.s) ss.s) hu.s))
   have h33 : Chg (· ∈ [w1.z]) w2 wd := cM (cr [w1.z] w2) s7 (io sr)
   have h34 : Chg (· ∈ [w1.z]) w2 w18 := z_ h33 sa
   have h35 : Chg (· ∈ [w1.z]) w2 w1x := z_ h34 se
   have h36 : Chg (· ∈ [w1.z]) w2 w2h := z_ h35 sk
   have h37 : Chg (· ∈ [w1.z]) w2 w1b := z_ h36 ss
   have h38 : Chg (· ∈ [w1.z]) w2 w1c := z_ h37 hu
   have h39 : Chg (· ∈ [w1.z]) w2 w2u := cM h38 s2y h1e
   exact fun _ q => ⟨(x2r, c_ x6 1), (som hm2t).symm, ⟨a2v, n2w, c2x, S1d, (q.k<|s4 z z z z), h39, h2z, h30, h32, (iA _ _)⟩⟩
  have h3a : ∀ k ∈ S0, k ∈ [w1.z] ∨ w2.z ≤ k := or1 hj (io sr) (l_ lr)
  have h3b : Chg (· ∈ [w1.z]) w2 wd := cM (cr [w1.z] w2) s7 (io sr)
  have h3c : Chg (· ∈ [w1.z]) w2 w18 := z_ h3b sa
  exact We (fun a' ha' => a_F (som<|ifF hm15 hcp).symm ⟨a3, n4, c5, S0, (Sat.weaken ha'<|s1 z), h3c, (hh.e sa), hi, h3a, h13⟩)
 ·rintro ⟨xc, x6⟩ a3d w4r rfl ⟨a3, n4, c5, S0, hS4s, s3e, hh, hi, hj, h13⟩
  have hm3f := elL hm12
  have hm3g := a_2 hm3f
  revert a3d
  refine Wo<|Ws<|Rm z<|Ra z<|Wn ?_
  obtain rfl := som hm3g
  have h1f := m1 hb.s
  exact Wr<|d_ hr z ⟨(bM (bup (bup hb sf) s9) s3e h1f), a3, n4, c5, S0, z, hh, hi, (a_x hj h1f<|lt_ hg s9.s)⟩
 rintro r4t ex4u a4v w4w rfl ⟨rfl, hq3h⟩
 have hm3i := elR hm12
 obtain rfl := som hm3i
 exact ⟨hq3h, z⟩
theorem c_z {x1 : Int} {x2 : Int} {x3 : Int} {res : Bool} (hm : b_w x1 x2 x3 = some res) (hBw : B ≤ w0.z) (p1_0 : inI x1) (p2_0 : inI x2) (p3_0 : inI x3) : j_ prog 117 [vI x1, vI x2, vI x3] w0 (Q11 w0 B res) := by
 unfold b_w at hm
 refine goF func117 z z (lb z) fun fn hr => Ws<|Ra z<|Wn<|Wq ?_
 obtain ⟨u2, hu1, hm3⟩ := bdS hm
 refine Wt (fun a w => ∃ (x4 : Bool), x4 = u2 ∧ Sat 15 [(6, vB x4)] a ∧ Below w0.z w0 w) ?_ ?_
 ·refine Wg<|Rm z<|Rm z<|R z (c_F z z)<|Rm z ?_
  rcases bs (decide (x2 ≤ x1)) with hc0 | hc0
  ·exact Rh z hc0 (mv z)<|Rh z hc0 (mv z)<|Rh z hc0 (c_F z z)<|R z (pT z hc0 z)<|Ra z<|Wl (fun _ q => ⟨decide (x1 ≤ x3), som<|ifT hu1 hc0, (q.k<|s1 z), (br w0)⟩)
  iterate 3 refine Nh z hc0 ?_
  exact R z (pF z hc0 z)<|Ra z<|Wl (fun _ q => ⟨false, som<|ifF hu1 hc0, (q.k<|s1 z), (br w0)⟩)
 rintro a5 w7 ⟨x4, rfl, hS8, s6⟩
 revert a5
 refine Wo ?_
 obtain rfl := som hm3
 exact Wr<|d_ hr z ⟨s6, z⟩
theorem i_w {x1 : g_} {x2 : Int} {res : Bool} (hm : d_G x1 x2 = some res) (hBw : B ≤ w0.z) (p1_0 : a_ w0 B (sl A0 N0 C0) x1.rules) (p2_0 : inI x2) : j_ prog 150 [(.agg #[sl A0 N0 C0]), vI x2] w0 (Q11 w0 B res) := by
 unfold d_G at hm
 refine goF func150 z z (lb z) fun fn hr => Ws<|E z (fb z) ?_
 rintro _ w1 ⟨rfl, h2⟩
 have h4 := h2.below
 have h6 : Blk w1 w0.z [sl A0 N0 C0] := h2.blk
 refine Ra z<|Wn<|Wq ?_
 obtain ⟨u7, hu5, hm8⟩ := bdS hm
 refine Wt (fun a w => ∃ (x3 : Bool), x3 = u7 ∧ Sat 14 [(4, vB x3)] a ∧ Below w1.z w1 w) ?_ ?_
 ·refine Wg<|Rm z<|R z (a_M z z)<|Rm z ?_
  rcases bs (decide (0 ≤ x2)) with hc0 | hc0
  ·exact Rh z hc0 (mv z)<|Rh z hc0 (fd a_j z)<|Rh z hc0 (l1 a_o z fid<|h6.at z)<|Rh z hc0 (lnR X_ z<|p1_0.e h4)<|Rh z hc0 (lss z z)<|R z (pT z hc0 z)<|Ra z<|Wl (fun _ q => ⟨decide (x2 < (x1.rules.length : Int)), som<|ifT hu5 hc0, (q.k<|s1 z), (br w1)⟩)
  iterate 5 refine Nh z hc0 ?_
  exact R z (pF z hc0 z)<|Ra z<|Wl (fun _ q => ⟨false, som<|ifF hu5 hc0, (q.k<|s1 z), (br w1)⟩)
 rintro a9 wb ⟨x3, rfl, hSc, sa⟩
 revert a9
 refine Wo ?_
 obtain rfl := som hm8
 exact Wr<|d_ hr z ⟨(bup h4 sa), z⟩
theorem i_x {x1 : Str} {res : Bool} (hm : d_F n x1 = some res) (hBw : B ≤ w0.z) (p1_0 : x1.b.length ≤ LEN) : j_ prog 116 [Str.v x1] w0 (Q11 w0 B res) := by
 unfold d_F at hm
 refine goF func116 z z (lb z) fun fn hr => Ws<|Ra z<|Wn<|Wq<|Wq ?_
 obtain ⟨u12, huo, hmp⟩ := bdS hm
 refine Wt (fun a w => ∃ (xg : Bool), xg = u12 ∧ Sat 43 [(0, Str.v x1), (14, vB xg)] a ∧ Below w0.z w0 w) ?_ ?_
 ·refine Wg<|Rm z<|R z (lnT d_9 z)<|R z (lss z z)<|Rm z ?_
  rcases bs (decide ((x1.b.length : Int) < 1)) with hc4 | hc4
  ·iterate 3 refine Nh z hc4 ?_
   exact R z (pT z hc4 z)<|Wl (fun _ q => ⟨true, som<|ifT huo hc4, (q.k<|s2 z z), (br w0)⟩)
  exact Rh z hc4 (mv z)<|Rh z hc4 (lnT d_9 z)<|Rh z hc4 (a_c z z)<|R z (pF z hc4 z)<|Wl (fun _ q => ⟨decide (12 < (x1.b.length : Int)), som<|ifF huo hc4, (q.k<|s2 z z), (br w0)⟩)
 rintro a13 w1 ⟨xg, rfl, hS1u, s9⟩
 revert a13
 refine Wo<|Wc z (fun hch => ?_) (fun hch => ?_)
 ·refine Ws<|Ra z<|Wn ?_
  obtain rfl := som (ifT hmp hch)
  exact Wr<|d_ hr z ⟨s9, z⟩
 refine Wk<|Wq<|Ws<|Rm z<|E z (o_V d_9 z) ?_
 rintro _ w3 ⟨rfl, sq, h14⟩
 refine Wn ?_
 obtain ⟨u1v, hu15, hmr⟩ := bdS (ifF hmp hch)
 refine a_L (σ := Nat) (ρ := Bool) (fun (x0 : Nat) a w => Sat 43 [(16, pt w1.z)] a ∧ Chg (· ∈ [w1.z]) w3 w ∧ b_B w w1.z x1 x0) (fun (x0 : Nat) a w => Sat 43 [] a ∧ Chg (· ∈ [w1.z]) w3 w ∧ b_B w w1.z x1 x0) (fun r ex a w => ex = .ret ∧ v_ prog fn (Q11 w0 B r) a w) hu15 ?_ ?_ ?_ ?_
 ·exact fun _ q => ⟨(q.k<|s1 z), (cr [w1.z] w3), h14⟩
 ·rintro x0 a1w ws o1x ⟨hS16, si, he⟩ hmt
  refine Wu ?_ hS16
  refine Ws ?_
  rcases bs (decide (x0 < x1.b.length)) with hca | hca
  ·refine E z (o_W z he<|of_decide_eq_true hca) ?_
   rintro _ wb ⟨rfl, h17, su⟩
   refine R z (ext_ z z)<|Wn<|Wq<|Wc z (fun _ => ?_) (fun hc => (bcon z hc).elim)
   refine Wk<|Wb<|Ws<|R z (ext_ z z)<|R z (ext_ z z)<|Ra z<|Ra z<|Wn<|Wq ?_
   obtain ⟨u18, huv, hm19⟩ := bdS (ifT hmt hca)
   refine Wt (fun a w => ∃ (xc : Bool), xc = u18 ∧ Sat 43 [(3, vI (x0 : Int)), (4, (.int .i32<|(dec x1 x0).1)), (5, vB xc), (16, pt w1.z)] a ∧ Below wb.z wb w) ?_ ?_
   ·refine Wg<|Rm z<|R z (a_M z z)<|Rm z ?_
    rcases bs (decide (97 ≤ ((dec x1 x0).1))) with hc5 | hc5
    ·exact Rh z hc5 (mv z)<|Rh z hc5 (c_F z z)<|R z (pT z hc5 z)<|Ra z<|Wl (fun _ q => ⟨decide (((dec x1 x0).1) ≤ 122), som<|ifT huv hc5, (q.k<|s4 z z z z), (br wb)⟩)
    exact Nh z hc5<|Nh z hc5<|R z (pF z hc5 z)<|Ra z<|Wl (fun _ q => ⟨false, som<|ifF huv hc5, (q.k<|s4 z z z z), (br wb)⟩)
   rintro a1a wd ⟨xc, rfl, hS1y, sj⟩
   revert a1a
   refine Wo<|Wq ?_
   obtain ⟨u1b, huw, hm1c⟩ := bdS hm19
   refine Wt (fun a w => ∃ (xf : Bool), xf = u1b ∧ Sat 43 [(3, vI (x0 : Int)), (5, vB xc), (6, vB xf), (16, pt w1.z)] a ∧ Below wd.z wd w) ?_ ?_
   ·refine Wg<|Rm z<|R z (a_M z z)<|Rm z ?_
    rcases bs (decide (48 ≤ ((dec x1 x0).1))) with hc6 | hc6
    ·exact Rh z hc6 (mv z)<|Rh z hc6 (c_F z z)<|R z (pT z hc6 z)<|Ra z<|Wl (fun _ q => ⟨decide (((dec x1 x0).1) ≤ 57), som<|ifT huw hc6, (q.k<|s4 z z z z), (br wd)⟩)
    exact Nh z hc6<|Nh z hc6<|R z (pF z hc6 z)<|Ra z<|Wl (fun _ q => ⟨false, som<|ifF huw hc6, (q.k<|s4 z z z z), (br wd)⟩)
   rintro a1d w8 ⟨xf, rfl, hS1z, sk⟩
   revert a1d
   refine Wo<|Wq ?_
   obtain ⟨u1e, hux, hmy⟩ := bdS hm1c
   refine Wt (fun a w => ∃ (xl : Bool), xl = u1e ∧ Sat 43 [(16, pt w1.z), (42, vB xl)] a ∧ Below w8.z w8 w) ?_ ?_
   ·refine Wg<|Rm z<|R z (not_ z)<|Rm z ?_
    rcases bs (!xc) with hc2 | hc2
    ·have hmz := ifT hux hc2
     refine Rh z hc2 (mv z)<|Rh z hc2 (not_ z)<|Rh z hc2 (mv z) ?_
     rcases bs (!xf) with hc7 | hc7
     ·exact Nh z hc7<|Nh z hc7<|Rh z hc2 (pT z hc7 z)<|R z (pT z hc2 z)<|Wl (fun _ q => ⟨true, som<|ifT hmz hc7, (q.k<|s2 z z), (br w8)⟩)
     exact Rh z hc7 (mv z)<|Rh z hc7 (eql z z)<|Rh z hc2 (pF z hc7 z)<|R z (pT z hc2 z)<|Wl (fun _ q => ⟨(x0 : Int) == 0, som<|ifF hmz hc7, (q.k<|s2 z z), (br w8)⟩)
    iterate 3 refine Nh z hc2 ?_
    exact Nv z<|Nv z<|Nh z hc2<|R z (pF z hc2 z)<|Wl (fun _ q => ⟨false, som<|ifF hux hc2, (q.k<|s2 z z), (br w8)⟩)
   rintro a1f w1g ⟨xl, rfl, hS20, sm⟩
   revert a1f
   refine Wo<|Wc z (fun hcn => ?_) (fun hcn => ?_)
   ·refine Ws<|Ra z<|Wn ?_
    have h10 := m1 s9.s
    exact Wr<|rtO<|qL (som<|ifT hmy hcn).symm<|d_ hr z ⟨(bup (bup (bup (bM (bM (bup s9 sq) si h10) su h10) sj) sk) sm), z⟩
   refine a_J ?_
   have h1h : Chg (· ∈ [w1.z]) w3 ws := cM (cr [w1.z] w3) si (io sr)
   have h1i : Chg (· ∈ [w1.z]) w3 wb := cM h1h su (io sr)
   have h1j : Chg (· ∈ [w1.z]) w3 wd := z_ h1i sj
   have h1k : Chg (· ∈ [w1.z]) w3 w8 := z_ h1j sk
   have h1l : Chg (· ∈ [w1.z]) w3 w1g := z_ h1k sm
   exact fun _ q => ⟨x0 + (dec x1 x0).2, (som<|ifF hmy hcn).symm, ⟨(q.k<|s1 z), h1l, (((h17.e sj).e sk).e sm)⟩⟩
  refine E z (o_X z he<|of_decide_eq_false hca) ?_
  rintro _ w1m ⟨rfl, s11⟩
  refine R z (ext_ z z)<|Wn<|Wq<|Wc z (fun hc => (bcon hc z).elim) (fun _ => ?_)
  have h1n : Chg (· ∈ [w1.z]) w3 ws := cM (cr [w1.z] w3) si (io sr)
  have h1o : Chg (· ∈ [w1.z]) w3 w1m := z_ h1n s11
  exact We (fun a' ha' => a_F (som<|ifF hmt hca).symm ⟨(Sat.weaken ha' sn), h1o, (he.e s11)⟩)
 ·rintro x0 a1p w21 rfl ⟨hS22, s1q, he⟩
  have hm1r := elL hmr
  revert a1p
  refine Wo<|Ws<|Ra z<|Wn ?_
  obtain rfl := som hm1r
  exact Wr<|d_ hr z ⟨(bM (bup s9 sq) s1q<|m1 s9.s), z⟩
 rintro r23 ex24 a25 w26 rfl ⟨rfl, hq1s⟩
 have hm1t := elR hmr
 obtain rfl := som hm1t
 exact ⟨hq1s, z⟩
theorem c_W {x1 : e_} {x2 : Bool} {x3 : Bool} {x4 : Bool} {x5 : Bool} {x6 : Int} {res : Bool} (hm : b_L x1 x2 x3 x4 x5 x6 = some res) (hBw : B ≤ w0.z) (p1_0 : x1.name.b.length ≤ LEN) (p1_1 : inI x1.kind) (p1_2 : inI x1.size) (p1_4 : a_ w0 B (sl A9 N9 C9) x1.bytes) (p1_5 : a_ w0 B (sl A8 N8 C8) x1.names) (p1_6 : a_ w0 B (sl AA NA CA) x1.tags) (p1_7 : a_ w0 B (sl AB NB CB) x1.kids) (p6_0 : inI x6) : j_ prog 177 [(.agg #[Str.v x1.name, vI x1.kind, vI x1.size, vB x1.little, sl A9 N9 C9, sl A8 N8 C8, sl AA NA CA, sl AB NB CB]), vB x2, vB x3, vB x4, vB x5, vI x6] w0 (Q11 w0 B res) := by
 unfold b_L at hm
 refine goF func177 z z (lb z) fun fn hr => Ws<|E z (fb z) ?_
 rintro _ w9 ⟨rfl, hd⟩
 have ha := hd.below
 have hb : Blk w9 w0.z (vR x1 A9 N9 C9 A8 N8 C8 AA NA CA AB NB CB) := hd.blk
 refine Ra z<|Wn<|Wq ?_
 obtain ⟨ur, hus, hmt⟩ := bdS hm
 refine Wt (fun a w => ∃ (xc : Bool), xc = ur ∧ Sat 57 [(12, vB xc)] a ∧ Below w9.z w9 w) ?_ ?_
 ·refine Wg<|Rm z<|Rm z ?_
  obtain ⟨ue, huf, hmu⟩ := bdS hus
  refine c_Y 18 ue 4 ?_ ?_
  ·rcases bs x2 with hc8 | hc8
   ·iterate 3 refine Nh z hc8 ?_
    exact R z (pT z hc8 z)<|WLq 4 (ifT huf hc8) z z z
   exact Rh z hc8 (fd a_D z)<|Rh z hc8 (l1 g_3 z fid<|hb.at z)<|Rh z hc8 (eql z z)<|R z (pF z hc8 z)<|WLq 4 (ifF huf hc8) z z z
  refine Rm z ?_
  obtain ⟨ug, huh, hmv⟩ := bdS hmu
  refine c_Y 27 ug 8 ?_ ?_
  ·rcases bs ue with hc0 | hc0
   ·have hmi := ifT huh hc0
    refine Rh z hc0 (mv z)<|Rh z hc0 (mv z) ?_
    rcases bs x3 with hc5 | hc5
    ·iterate 4 refine Nh z hc5 ?_
     exact Rh z hc0 (pT z hc5 z)<|R z (pT z hc0 z)<|WLq 8 (ifT hmi hc5) z z z
    exact Rh z hc5 (fd a_R z)<|Rh z hc5 (l1 J_ z fid<|hb.at z)<|Rh z hc5 (lnR h_ z<|p1_4.e ha)<|Rh z hc5 (eql z z)<|Rh z hc0 (pF z hc5 z)<|R z (pT z hc0 z)<|WLq 8 (ifF hmi hc5) z z z
   exact Nh z hc0<|Nh z hc0<|Nv z<|Nv z<|Nv z<|Nv z<|Nh z hc0<|R z (pF z hc0 z)<|WLq 8 (ifF huh hc0) z z z
  refine Rm z ?_
  obtain ⟨uj, huk, hmw⟩ := bdS hmv
  refine c_Y 36 uj 8 ?_ ?_
  ·rcases bs ug with hc1 | hc1
   ·have hml := ifT huk hc1
    refine Rh z hc1 (mv z)<|Rh z hc1 (mv z) ?_
    rcases bs x4 with hc6 | hc6
    ·iterate 4 refine Nh z hc6 ?_
     exact Rh z hc1 (pT z hc6 z)<|R z (pT z hc1 z)<|WLq 8 (ifT hml hc6) z z z
    exact Rh z hc6 (fd c_4 z)<|Rh z hc6 (l1 b_M z fid<|hb.at z)<|Rh z hc6 (lnR a_1 z<|p1_5.e ha)<|Rh z hc6 (eql z z)<|Rh z hc1 (pF z hc6 z)<|R z (pT z hc1 z)<|WLq 8 (ifF hml hc6) z z z
   exact Nh z hc1<|Nh z hc1<|Nv z<|Nv z<|Nv z<|Nv z<|Nh z hc1<|R z (pF z hc1 z)<|WLq 8 (ifF huk hc1) z z z
  refine Rm z ?_
  obtain ⟨um, hun, hmo⟩ := bdS hmw
  refine c_Y 45 um 8 ?_ ?_
  ·rcases bs uj with hc2 | hc2
   ·have hmp := ifT hun hc2
    refine Rh z hc2 (mv z)<|Rh z hc2 (mv z) ?_
    rcases bs x5 with hc7 | hc7
    ·iterate 4 refine Nh z hc7 ?_
     exact Rh z hc2 (pT z hc7 z)<|R z (pT z hc2 z)<|WLq 8 (ifT hmp hc7) z z z
    exact Rh z hc7 (fd a_O z)<|Rh z hc7 (l1 G_ z fid<|hb.at z)<|Rh z hc7 (lnR B_ z<|p1_6.e ha)<|Rh z hc7 (eql z z)<|Rh z hc2 (pF z hc7 z)<|R z (pT z hc2 z)<|WLq 8 (ifF hmp hc7) z z z
   exact Nh z hc2<|Nh z hc2<|Nv z<|Nv z<|Nv z<|Nv z<|Nh z hc2<|R z (pF z hc2 z)<|WLq 8 (ifF hun hc2) z z z
  refine Rm z ?_
  rcases bs um with hc3 | hc3
  ·have hmq := ifT hmo hc3
   refine Rh z hc3 (mv z)<|Rh z hc3 (lss z z)<|Rh z hc3 (mv z) ?_
   rcases bs (decide (x6 < 0)) with hc4 | hc4
   ·iterate 5 refine Nh z hc4 ?_
    exact Rh z hc3 (pT z hc4 z)<|R z (pT z hc3 z)<|Ra z<|Wl (fun _ q => ⟨true, som<|ifT hmq hc4, (q.k<|s1 z), (br w9)⟩)
   exact Rh z hc4 (fd a_8 z)<|Rh z hc4 (l1 G_ z fid<|hb.at z)<|Rh z hc4 (lnR B_ z<|p1_7.e ha)<|Rh z hc4 (mv z)<|Rh z hc4 (eql z z)<|Rh z hc3 (pF z hc4 z)<|R z (pT z hc3 z)<|Ra z<|Wl (fun _ q => ⟨(x1.kids.length : Int) == x6, som<|ifF hmq hc4, (q.k<|s1 z), (br w9)⟩)
  iterate 3 refine Nh z hc3 ?_
  exact Nv z<|Nv z<|Nv z<|Nv z<|Nv z<|Nh z hc3<|R z (pF z hc3 z)<|Ra z<|Wl (fun _ q => ⟨false, som<|ifF hmo hc3, (q.k<|s1 z), (br w9)⟩)
 rintro ax wz ⟨xc, rfl, hS10, sy⟩
 revert ax
 refine Wo ?_
 obtain rfl := som hmt
 exact Wr<|d_ hr z ⟨(bup ha sy), z⟩
theorem i_y {x1 : g_} {x2 : Int} {res : Int} (hm : e_c x1 x2 = some res) (hBw : B ≤ w0.z) (p1_0 : a_ w0 B (sl A0 N0 C0) x1.rules) (p2_0 : inI x2) : j_ prog 178 [(.agg #[sl A0 N0 C0]), vI x2] w0 (Q0 w0 B res) := by
 unfold e_c at hm
 refine goF func178 z z (lb z) fun fn hr => Ws<|E z (fb z) ?_
 rintro _ w3 ⟨rfl, h9⟩
 have h2 := h9.below
 have h6 : Blk w3 w0.z [sl A0 N0 C0] := h9.blk
 refine Ra z<|Wn<|Wq<|Wq ?_
 obtain ⟨uf, hug, hma⟩ := bdS hm
 refine Wt (fun a w => ∃ (x7 : Bool), x7 = uf ∧ Sat 37 [(1, vI x2), (2, pt w0.z), (27, vB x7)] a ∧ Below w3.z w3 w) ?_ ?_
 ·refine Wg<|R z (lN (vs := [sl A0 N0 C0]) P_ F_ z z fid<|h6.row 0 1 z)<|Rm z ?_
  obtain ⟨rh, ei, hmb⟩ := bdS hug
  refine E z (fc call150 z<|i_w (B := B) ei (zt' hBw h2.s) (p1_0.e h2) p2_0) ?_
  rintro _ w13 ⟨s4, rfl⟩
  refine R z (not_ z)<|Rm z ?_
  rcases bs (!rh) with hc1 | hc1
  ·iterate 7 refine Nh z hc1 ?_
   exact R z (pT z hc1 z)<|Rm z<|Nh z z<|Nh z z<|Nh z z<|Nh z z<|Nh z z<|Nh z z<|Nh z z<|Nh z z<|R z (pT z z z)<|Wl (fun _ q => ⟨true, som<|ifT hmb hc1, (q.k<|s3 z z z), s4⟩)
  refine Rh z hc1 (fd a_j z) ?_
  have hc := h6.e s4
  refine Rh z hc1 (l1 a_o z fid<|hc.at z)<|Rh z hc1 (mv z) ?_
  obtain ⟨xj, ek, hmd⟩ := bdS (ifF hmb hc1)
  have he := p1_0.g<|(h2.ag B).e s4
  refine RXg z z hc1 z (at_ (α := e_) X_ t_ z z z he ek) ?_
  rintro _ ⟨b14, o15, cs16, rfl, hl, hn, h17⟩
  obtain ⟨a18, n19, c1a, a1b, n1c, c1d, a1e, n1f, c1g, a1h, n1i, c1j, rfl, h1k, h1l, h1m, h1n, h1o, h1p, h1q⟩ := b_1 hn
  refine Rh z hc1 (fd b_x z)<|Rh z hc1 (l1 g_3 z fid<|hl.at (j := 1) z)<|Rh z hc1 (nq z z)<|R z (pF z hc1 z)<|Rm z ?_
  rcases bs (xj.kind != 1) with hc0 | hc0
  ·iterate 8 refine Nh z hc0 ?_
   exact R z (pT z hc0 z)<|Wl (fun _ q => ⟨true, som<|ifT hmd hc0, (q.k<|s3 z z z), s4⟩)
  refine Rh z hc0 (fd a_j z)<|Rh z hc0 (l1 a_o z fid<|hc.at z)<|Rh z hc0 (mv z) ?_
  obtain ⟨x1r, em, hmo⟩ := bdS (ifF hmd hc0)
  refine RXg z z hc0 z (at_ (α := e_) X_ t_ z z z he em) ?_
  rintro _ ⟨b1s, o1t, cs1u, rfl, hp, hq, h1v⟩
  obtain ⟨a1w, n1x, c1y, a1z, n20, c21, a22, n23, c24, a25, n26, c27, rfl, h28, h29, ht, h2a, h2b, h2c, h2d⟩ := b_1 hq
  refine Rh z hc0 (fd a_D z)<|Rh z hc0 (l1 g_3 z fid<|hp.at (j := 2) z) ?_
  obtain ⟨rr, es, hmu⟩ := bdS hmo
  refine Eg z z hc0 z (fc call117 z<|c_z (B := B) es (zt' hBw<|lt_ h2.s s4.s) ht (ii z)<|ii z) ?_
  rintro _ w2e ⟨sv, rfl⟩
  exact Rh z hc0 (not_ z)<|R z (pF z hc0 z)<|Wl (fun _ q => ⟨!rr, som hmu, (q.k<|s3 z z z), (bup s4 sv)⟩)
 rintro aw w2f ⟨x7, rfl, hS2g, s5⟩
 revert aw
 refine Wo<|Wc z (fun hc8 => ?_) (fun hc8 => ?_)
 ·refine Ws<|Ra z<|Wn ?_
  obtain rfl := som (ifT hma hc8)
  exact Wr<|d_ hr z ⟨(bup h2 s5), z, (ii z)⟩
 refine Wk<|Ws<|R z (fd a_j z)<|R z (l1 a_o z fid<|(h6.e s5).at z)<|Rm z ?_
 obtain ⟨x2h, ex, hmy⟩ := bdS (ifF hma hc8)
 refine RX z (at_ (α := e_) X_ t_ z z z (p1_0.g<|(h2.ag B).e s5) ex) ?_
 rintro _ ⟨b2i, o2j, cs2k, rfl, hz, h10, h2l⟩
 obtain ⟨a2m, n2n, c2o, a2p, n2q, c2r, a2s, n2t, c2u, a2v, n2w, c2x, rfl, h2y, h2z, h30, h31, h32, h33, h34⟩ := b_1 h10
 refine R z (fd a_D z)<|R z (l1 g_3 z fid<|hz.at (j := 2) z)<|R z (h_o z z) ?_
 obtain ⟨u35, e11, hm12⟩ := bdS hmy
 refine R z (f_v z z<|nnS e11)<|R z (sb_ z z)<|Ra z<|Wn ?_
 obtain rfl := som hm12
 exact Wr<|d_ hr z ⟨(bup h2 s5), z, (iS _ _)⟩
theorem W_w2t {x1 : List Str} {x2 : Str} {res : Bool} (hm : e_P x1 x2 = some res) (hBw : B ≤ w0.z) (p1_0 : a_ w0 B (sl A0 N0 C0) x1) (p2_0 : x2.b.length ≤ LEN) : j_ prog 202 [sl A0 N0 C0, Str.v x2] w0 (Q11 w0 B res) := by
 unfold e_P at hm
 refine goF func202 z z (lb z) fun fn hr => Ws<|Ra z<|Wn<|Wq<|Ws<|Rm z<|R z (lnR a_1 z p1_0)<|Rm z<|Wn ?_
 obtain ⟨uj, hu6, hm2⟩ := bdS hm
 refine Wf (σ := Unit) (ρ := Bool) (fun (k3 : Nat) (_ : Unit) a w => Sat 17 [(1, Str.v x2), (7, sl A0 N0 C0), (8, vI (x1.length : Int)), (9, (vI ((k3 : Nat) : Int)))] a ∧ Below w0.z w0 w) (fun (_ : Unit) a w => Sat 17 [] a ∧ Below w0.z w0 w) (fun r ex a w => ex = .ret ∧ v_ prog fn (Q11 w0 B r) a w) hu6 ?_ ?_ ?_ ?_ ?_
 ·exact fun _ q => ⟨(q.k<|s4 z z z z), (br w0)⟩
 ·rintro k3 _ ak wl om hk4 ⟨hS7, s0⟩ hm8
  refine Wu ?_ hS7
  refine Ws<|R z (lss z z)<|Wn<|Wq<|Wc z (fun _ => ?_) (fun hc => (R_ hk4 hc).elim)
  refine Wk<|Wq<|Wb<|Ws ?_
  obtain ⟨xn, e9, hm5⟩ := bdS hm8
  refine RX z (at_ (α := Str) a_1 z_9 z z z (p1_0.e s0) e9) ?_
  rintro _ ⟨bo, op, csq, rfl, ha, hb, ht⟩
  obtain ⟨rfl, hu⟩ := b_J hb
  refine R z (l1 g_9 z fid<|ha.at0 z)<|Ra z<|Wn<|Ws<|Rm z<|Rm z<|R z (e_u z z)<|Wn<|Wc z (fun hc1 => ?_) (fun hc1 => ?_)
  ·exact Ws<|Ra z<|Wn<|Wr<|rtO<|qL (som<|ifT hm5 hc1).symm<|d_ hr z ⟨s0, z⟩
  exact Wk<|Wg<|R z (inc_ hk4 (lt_ (a_.len p1_0) H_) z z)<|Rm z<|Wl (fun _ q => ⟨(), (som<|ifF hm5 hc1).symm, ⟨(q.k<|s4 z z z z), s0⟩⟩)
 ·rintro _ ar ws ⟨hSc, sd⟩
  refine Wu ?_ hSc
  refine Ws<|R z (lss z z)<|Wn<|Wq<|Wc z (fun hc => (S_ hc).elim) (fun _ => ?_)
  exact We (fun a' ha' => ⟨rfl, ⟨(Sat.weaken ha' sn), sd⟩⟩)
 ·rintro _ ae wv rfl ⟨hSw, sf⟩
  have hmg := elL hm2
  revert ae
  refine Wo<|Ws<|Ra z<|Wn ?_
  obtain rfl := som hmg
  exact Wr<|d_ hr z ⟨sf, z⟩
 rintro rx exy az w10 rfl ⟨rfl, hqh⟩
 have hmi := elR hm2
 obtain rfl := som hmi
 exact ⟨hqh, z⟩
theorem W_w2u {x1 : e_} {res : Bool} (hm : g_a n x1 = some res) (hBw : B ≤ w0.z) (p1_0 : x1.name.b.length ≤ LEN) (p1_1 : inI x1.kind) (p1_2 : inI x1.size) (p1_4 : a_ w0 B (sl A9 N9 C9) x1.bytes) (p1_5 : a_ w0 B (sl A8 N8 C8) x1.names) (p1_6 : a_ w0 B (sl AA NA CA) x1.tags) (p1_7 : a_ w0 B (sl AB NB CB) x1.kids) : j_ prog 179 [(.agg #[Str.v x1.name, vI x1.kind, vI x1.size, vB x1.little, sl A9 N9 C9, sl A8 N8 C8, sl AA NA CA, sl AB NB CB])] w0 (Q11 w0 B res) := by
 unfold g_a at hm
 refine goF func179 z z (lb z) fun fn hr => Ws<|E z (fb z) ?_
 rintro _ w5 ⟨rfl, hi⟩
 have h1 := hi.below
 have ha : Blk w5 w0.z (vR x1 A9 N9 C9 A8 N8 C8 AA NA CA AB NB CB) := hi.blk
 refine Ra z<|Wn<|Wq<|Wq ?_
 obtain ⟨uy, huz, hmj⟩ := bdS hm
 refine Wt (fun a w => ∃ (xb : Bool), xb = uy ∧ Sat 44 [(1, pt w0.z), (23, vB xb)] a ∧ Below w5.z w5 w) ?_ ?_
 ·refine Wg<|R z (lN (vs := (vR x1 A9 N9 C9 A8 N8 C8 AA NA CA AB NB CB)) N_ t_ z z fid<|ha.row 0 8 z) ?_
  obtain ⟨r10, e11, hmk⟩ := bdS huz
  refine E z (fc call177 z<|c_W (B := B) e11 (zt' hBw h1.s) p1_0 p1_1 p1_2 (p1_4.e h1) (p1_5.e h1) (p1_6.e h1) (p1_7.e h1)<|ii z) ?_
  rintro _ w1x ⟨s6, rfl⟩
  refine R z (not_ z)<|Rm z ?_
  rcases bs (!r10) with hc0 | hc0
  ·iterate 7 refine Nh z hc0 ?_
   exact R z (pT z hc0 z)<|Rm z<|Nh z z<|Nh z z<|Nh z z<|Nh z z<|Nh z z<|R z (pT z z z)<|Wl (fun _ q => ⟨true, som<|ifT hmk hc0, (q.k<|s2 z z), s6⟩)
  have hml := ifF hmk hc0
  refine Rh z hc0 (fd a_8 z) ?_
  have hd := ha.e s6
  refine Rh z hc0 (l1 G_ z fid<|hd.at z) ?_
  have hn := (h1.ag B).e s6
  have he := p1_7.g hn
  refine Rh z hc0 (lnR B_ z he)<|Rh z hc0 (fd c_4 z)<|Rh z hc0 (l1 b_M z fid<|hd.at z)<|Rh z hc0 (lnR a_1 z<|p1_5.g hn)<|Rh z hc0 (nq z z)<|R z (pF z hc0 z)<|Rm z ?_
  rcases bs ((x1.kids.length : Int) != (x1.names.length : Int)) with hc3 | hc3
  ·iterate 5 refine Nh z hc3 ?_
   exact R z (pT z hc3 z)<|Wl (fun _ q => ⟨true, som<|ifT hml hc3, (q.k<|s2 z z), s6⟩)
  refine Rh z hc3 (fd a_8 z)<|Rh z hc3 (l1 G_ z fid<|hd.at z)<|Rh z hc3 (lnR B_ z he) ?_
  obtain ⟨r12, e13, hm14⟩ := bdS (ifF hml hc3)
  refine Eg z z hc3 z (fc call117 z<|c_z (B := B) e13 (zt' hBw<|lt_ h1.s s6.s) (b_2<|a_.len he) (ii z)<|ii z) ?_
  rintro _ w1y ⟨s15, rfl⟩
  exact Rh z hc3 (not_ z)<|R z (pF z hc3 z)<|Wl (fun _ q => ⟨!r12, som hm14, (q.k<|s2 z z), (bup s6 s15)⟩)
 rintro a16 w4 ⟨xb, rfl, hS1z, s7⟩
 revert a16
 refine Wo<|Wc z (fun hcc => ?_) (fun hcc => ?_)
 ·refine Ws<|Ra z<|Wn ?_
  obtain rfl := som (ifT hmj hcc)
  exact Wr<|d_ hr z ⟨(bup h1 s7), z⟩
 refine Wk<|Wq<|Ws<|R z (fd c_4 z) ?_
 have ho := ha.e s7
 refine R z (l1 b_M z fid<|ho.at z) ?_
 have hp := (h1.ag B).e s7
 refine R z (lnR a_1 z<|p1_5.g hp)<|Rm z<|Wn ?_
 obtain ⟨u20, hu17, hmm⟩ := bdS (ifF hmj hcc)
 refine Wf (σ := Unit) (ρ := Bool) (fun (kf : Nat) (_ : Unit) a w => Sat 44 [(1, pt w0.z), (25, sl A8 N8 C8), (26, vI (x1.names.length : Int)), (27, (vI ((kf : Nat) : Int)))] a ∧ Below w4.z w4 w) (fun (_ : Unit) a w => Sat 44 [] a ∧ Below w4.z w4 w) (fun r ex a w => ex = .ret ∧ v_ prog fn (Q11 w0 B r) a w) hu17 ?_ ?_ ?_ ?_ ?_
 ·exact fun _ q => ⟨(q.k<|s4 z z z z), (br w4)⟩
 ·rintro kf _ a21 wq o22 hkr ⟨hS18, s8⟩ hm19
  refine Wu ?_ hS18
  refine Ws<|R z (lss z z)<|Wn<|Wq<|Wc z (fun _ => ?_) (fun hc => (R_ hkr hc).elim)
  refine Wk<|Wq<|Wb<|Ws<|Rm z ?_
  obtain ⟨x23, e1a, hm1b⟩ := bdS hm19
  have ht := hp.e s8
  refine RX z (at_ (α := Str) a_1 z_9 z z z (p1_5.g ht) e1a) ?_
  rintro _ ⟨b24, o25, cs26, rfl, h1c, h1d, h27⟩
  obtain ⟨rfl, hu⟩ := b_J h1d
  refine R z (l1 g_9 z fid<|h1c.at0 z)<|Ra z<|Ra z<|Wn<|Wq ?_
  obtain ⟨u1e, hu1f, hms⟩ := bdS hm1b
  refine Wt (fun a w => ∃ (xg : Bool), xg = u1e ∧ Sat 44 [(1, pt w0.z), (25, sl A8 N8 C8), (26, vI (x1.names.length : Int)), (27, (vI ((kf : Nat) : Int))), (42, vB xg)] a ∧ Below wq.z wq w) ?_ ?_
  ·refine Wg<|Rm z ?_
   have hv := lt_ (lt_ h1.s s7.s) s8.s
   obtain ⟨r1g, e1h, hmw⟩ := bdS hu1f
   refine E z (fc call116 z<|i_x (B := B) e1h (zt' hBw hv) hu) ?_
   rintro _ w28 ⟨s9, rfl⟩
   refine R z (not_ z)<|Rm z ?_
   rcases bs (!r1g) with hc2 | hc2
   ·iterate 6 refine Nh z hc2 ?_
    exact R z (pT z hc2 z)<|Wl (fun _ q => ⟨true, som<|ifT hmw hc2, (q.k<|s5 z z z z z), s9⟩)
   refine Rh z hc2 (fd c_4 z)<|Rh z hc2 (l1 b_M z fid<|((ho.e s8).e s9).at z)<|Rh z hc2 (mv z) ?_
   obtain ⟨x29, e1i, hm1j⟩ := bdS (ifF hmw hc2)
   refine RXg z z hc2 z (rX a_1 z_9 z z (p1_5.g<|ht.e s9) z z e1i) ?_
   rintro _ ⟨a2a, n2b, c2c, rfl, h1k⟩
   refine Rh z hc2 (mv z) ?_
   obtain ⟨r1l, e1m, hm1n⟩ := bdS hm1j
   refine Eg z z hc2 z (fc call202 z<|W_w2t (B := B) e1m (zt' hBw<|lt_ hv s9.s) h1k hu) ?_
   rintro _ w2d ⟨s1o, rfl⟩
   exact R z (pF z hc2 z)<|Wl (fun _ q => ⟨r1l, som hm1n, (q.k<|s5 z z z z z), (bup s9 s1o)⟩)
  rintro a1p w2e ⟨xg, rfl, hS2f, sx⟩
  revert a1p
  refine Wo<|Wc z (fun hch => ?_) (fun hch => ?_)
  ·exact Ws<|Ra z<|Wn<|Wr<|rtO<|qL (som<|ifT hms hch).symm<|d_ hr z ⟨(bup (bup (bup h1 s7) s8) sx), z⟩
  exact Wk<|Wg<|R z (inc_ hkr (lt_ (a_.len p1_5) H_) z z)<|Rm z<|Wl (fun _ q => ⟨(), (som<|ifF hms hch).symm, ⟨(q.k<|s4 z z z z), (bup s8 sx)⟩⟩)
 ·rintro _ a2g w2h ⟨hS1q, s1r⟩
  refine Wu ?_ hS1q
  refine Ws<|R z (lss z z)<|Wn<|Wq<|Wc z (fun hc => (S_ hc).elim) (fun _ => ?_)
  exact We (fun a' ha' => ⟨rfl, ⟨(Sat.weaken ha' sn), s1r⟩⟩)
 ·rintro _ a1s w2i rfl ⟨hS2j, s1t⟩
  have hm1u := elL hmm
  revert a1s
  refine Wo<|Ws<|Ra z<|Wn ?_
  obtain rfl := som hm1u
  exact Wr<|d_ hr z ⟨(bup (bup h1 s7) s1t), z⟩
 rintro r2k ex2l a2m w2n rfl ⟨rfl, hq1v⟩
 have hm1w := elR hmm
 obtain rfl := som hm1w
 exact ⟨hq1v, z⟩
theorem W_w2v {x1 : g_} {x2 : e_} {res : Bool} (hm : g_b x1 x2 = some res) (hBw : B ≤ w0.z) (p1_0 : a_ w0 B (sl A0 N0 C0) x1.rules) (p2_0 : x2.name.b.length ≤ LEN) (p2_1 : inI x2.kind) (p2_2 : inI x2.size) (p2_4 : a_ w0 B (sl A3 N3 C3) x2.bytes) (p2_5 : a_ w0 B (sl A4 N4 C4) x2.names) (p2_6 : a_ w0 B (sl A2 N2 C2) x2.tags) (p2_7 : a_ w0 B (sl A5 N5 C5) x2.kids) : j_ prog 180 [(.agg #[sl A0 N0 C0]), (.agg #[Str.v x2.name, vI x2.kind, vI x2.size, vB x2.little, sl A3 N3 C3, sl A4 N4 C4, sl A2 N2 C2, sl A5 N5 C5])] w0 (Q11 w0 B res) := by
 unfold g_b at hm
 refine goF func180 z z (lb z) fun fn hr => Ws<|E z (fb z) ?_
 rintro _ w5 ⟨rfl, hn⟩
 have h4 := hn.below
 have h16 : Blk w5 w0.z [sl A0 N0 C0] := hn.blk
 refine E z (fb z) ?_
 rintro _ wg ⟨rfl, ho⟩
 have h3 := ho.below
 have he : Blk wg w5.z (vR x2 A3 N3 C3 A4 N4 C4 A2 N2 C2 A5 N5 C5) := ho.blk
 refine Ra z<|Wn<|Wq<|Wq ?_
 obtain ⟨u17, hu18, hmp⟩ := bdS hm
 refine Wt (fun a w => ∃ (xh : Bool), xh = u17 ∧ Sat 57 [(2, pt w0.z), (3, pt w5.z), (21, vB xh)] a ∧ Below wg.z wg w) ?_ ?_
 ·refine Wg<|R z (lN (vs := (vR x2 A3 N3 C3 A4 N4 C4 A2 N2 C2 A5 N5 C5)) N_ t_ z z fid<|he.row 0 8 z)<|R z (fd a_O z)<|R z (l1 G_ z fid<|he.at z) ?_
  have h6 := (h4.ag B).e h3
  have hq := p2_6.g h6
  refine R z (lnR B_ z hq)<|R z (add_ z z) ?_
  have ht := lt_ h4.s h3.s
  obtain ⟨r19, e1a, hmr⟩ := bdS hu18
  refine E z (fc call177 z<|c_W (B := B) e1a (zt' hBw ht) p2_0 p2_1 p2_2 (p2_4.g h6) (p2_5.g h6) hq (p2_7.g h6)<|iA _ _) ?_
  rintro _ w2e ⟨s9, rfl⟩
  refine R z (not_ z)<|Rm z ?_
  rcases bs (!r19) with hc2 | hc2
  ·iterate 5 refine Nh z hc2 ?_
   exact R z (pT z hc2 z)<|Wl (fun _ q => ⟨true, som<|ifT hmr hc2, (q.k<|s3 z z z), s9⟩)
  refine Rh z hc2 (fd a_O z)<|Rh z hc2 (l1 G_ z fid<|(he.e s9).at z) ?_
  have hu := p2_6.g<|h6.e s9
  refine Rh z hc2 (lnR B_ z hu) ?_
  obtain ⟨r1b, e1c, hm1d⟩ := bdS (ifF hmr hc2)
  refine Eg z z hc2 z (fc call117 z<|c_z (B := B) e1c (zt' hBw<|lt_ ht s9.s) (b_2<|a_.len hu) (ii z)<|ii z) ?_
  rintro _ w2f ⟨s1e, rfl⟩
  exact Rh z hc2 (not_ z)<|R z (pF z hc2 z)<|Wl (fun _ q => ⟨!r1b, som hm1d, (q.k<|s3 z z z), (bup s9 s1e)⟩)
 rintro a1f w2g ⟨xh, rfl, hS2h, s7⟩
 revert a1f
 refine Wo<|Wc z (fun hci => ?_) (fun hci => ?_)
 ·refine Ws<|Ra z<|Wn ?_
  obtain rfl := som (ifT hmp hci)
  exact Wr<|d_ hr z ⟨(bup (bup h4 h3) s7), z⟩
 refine Wk<|Wq (Wd (X := noX) 0 (.rd 0 (.rd 1 (.rd 2 (.rd 3 (.rd 4 (.ef 5 (.rd 6 .done))))))) mo (by kernel_rfl) fun w2i s8 _ => dR z z (lN (vs := [sl A0 N0 C0]) P_ F_ z z fid<|(((h16.e h3).e s7).e s8).row 0 1 z)<|dR z z (fd a_8 z) ?_)
 have hv := (he.e s7).e s8
 refine dR z z (l1 G_ z fid<|hv.at z) ?_
 obtain ⟨x2j, e1g, hm1h⟩ := bdS (ifF hmp hci)
 have hj := (((h4.ag B).e h3).e s7).e s8
 refine dRX z z (at_ (α := Int) B_ z_3 z z z (p2_7.g hj) e1g) ?_
 rintro _ ⟨b2k, o2l, cs2m, rfl, h1i, h1j, h2n⟩
 obtain ⟨rfl, h1k⟩ := a_7 h1j
 refine dR z z (l1 g_3 z fid<|h1i.at0 z) ?_
 have hw := lt_ (lt_ (lt_ h4.s h3.s) s7.s) s8.s
 obtain ⟨rk, e1l, hm1m⟩ := bdS hm1h
 refine dE z z (fc call178 z<|i_y (B := B) e1l (zt' hBw hw) (p1_0.g hj) h1k) (.inr fun _ _ h => A_<|h.1) ?_
 rintro _ wa ⟨sb, rfl, h1n⟩
 refine dR z z (asg z)<|pD<|Wo<|Wq<|Ws<|R z (fd a_O z) ?_
 have hx := hv.e sb
 refine R z (l1 G_ z fid<|hx.at z) ?_
 have hy := hj.e sb
 refine R z (lnR B_ z<|p2_6.g hy)<|Rm z<|Wn ?_
 obtain ⟨u2o, hu1o, hms⟩ := bdS hm1m
 refine Wf (σ := Unit) (ρ := Bool) (fun (kf : Nat) (_ : Unit) a w => Sat 57 [(3, pt w5.z), (5, vI rk), (29, sl A2 N2 C2), (30, vI (x2.tags.length : Int)), (31, (vI ((kf : Nat) : Int)))] a ∧ Below wa.z wa w) (fun (_ : Unit) a w => Sat 57 [(5, vI rk)] a ∧ Below wa.z wa w) (fun r ex a w => ex = .ret ∧ v_ prog fn (Q11 w0 B r) a w) hu1o ?_ ?_ ?_ ?_ ?_
 ·exact fun _ q => ⟨(q.k<|s5 z z z z z), (br wa)⟩
 ·rintro kf _ a2p wz o2q hk10 ⟨hS1p, sc⟩ hm1q
  refine Wu ?_ hS1p
  refine Ws<|R z (lss z z)<|Wn<|Wq<|Wc z (fun _ => ?_) (fun hc => (R_ hk10 hc).elim)
  refine Wk<|Wq<|Wb<|Ws<|Rm z ?_
  obtain ⟨x1r, e1s, hm1t⟩ := bdS hm1q
  have h11 := hy.e sc
  refine RX z (at_ (α := Int) B_ z_3 z z z (p2_6.g h11) e1s) ?_
  rintro _ ⟨b2r, o2s, cs2t, rfl, h1u, h1v, h2u⟩
  obtain ⟨rfl, h1w⟩ := a_7 h1v
  refine R z (l1 g_3 z fid<|h1u.at0 z)<|Ra z<|Ra z<|Wn<|Wq ?_
  obtain ⟨u1x, hu1y, hm12⟩ := bdS hm1t
  refine Wt (fun a w => ∃ (xl : Bool), xl = u1x ∧ Sat 57 [(3, pt w5.z), (5, vI rk), (29, sl A2 N2 C2), (30, vI (x2.tags.length : Int)), (31, (vI ((kf : Nat) : Int))), (53, vB xl)] a ∧ Below wz.z wz w) ?_ ?_
  ·refine Wg<|Rm z<|Rm z ?_
   obtain ⟨r1z, e20, hm13⟩ := bdS hu1y
   refine E z (fc call117 z<|c_z (B := B) e20 (zt' hBw<|lt_ (lt_ hw sb.s) sc.s) h1w (ii z) h1n) ?_
   rintro _ w2v ⟨sd, rfl⟩
   refine R z (not_ z)<|Rm z ?_
   rcases bs (!r1z) with hc1 | hc1
   ·iterate 3 refine Nh z hc1 ?_
    exact Nv z<|Nv z<|Nv z<|Nv z<|Nv z<|Nv z<|Nv z<|Nv z<|Nh z hc1<|R z (pT z hc1 z)<|Wl (fun _ q => ⟨true, som<|ifT hm13 hc1, (q.k<|s6 z z z z z z), sd⟩)
   have hm14 := ifF hm13 hc1
   refine Rh z hc1 (mv z)<|Rh z hc1 (a_c z z)<|Rh z hc1 (mv z) ?_
   rcases bs (decide (0 < ((kf : Nat) : Int))) with hc0 | hc0
   ·refine Rh z hc0 (fd a_O z)<|Rh z hc0 (l1 G_ z fid<|((hx.e sc).e sd).at z)<|Rh z hc0 (mv z)<|Rh z hc0 (sb_ z z) ?_
    obtain ⟨x21, e22, hm23⟩ := bdS (ifT hm14 hc0)
    refine RXg z z hc0 z (at_ (α := Int) B_ z_3 z z z (p2_6.g<|h11.e sd) e22) ?_
    rintro _ ⟨b2w, o2x, cs2y, rfl, h24, h25, h2z⟩
    obtain ⟨rfl, h30⟩ := a_7 h25
    exact Rh z hc0 (l1 g_3 z fid<|h24.at0 z)<|Rh z hc0 (mv z)<|Rh z hc0 (a_M z z)<|Rh z hc1 (pT z hc0 z)<|R z (pF z hc1 z)<|Wl (fun _ q => ⟨decide (x1r ≤ x21), som hm23, (q.k<|s6 z z z z z z), sd⟩)
   iterate 8 refine Nh z hc0 ?_
   exact Rh z hc1 (pF z hc0 z)<|R z (pF z hc1 z)<|Wl (fun _ q => ⟨false, som<|ifF hm14 hc0, (q.k<|s6 z z z z z z), sd⟩)
  rintro a26 w31 ⟨xl, rfl, hS32, s15⟩
  revert a26
  refine Wo<|Wc z (fun hcm => ?_) (fun hcm => ?_)
  ·exact Ws<|Ra z<|Wn<|Wr<|rtO<|qL (som<|ifT hm12 hcm).symm<|d_ hr z ⟨(bup (bup (bup (bup (bup (bup h4 h3) s7) s8) sb) sc) s15), z⟩
  exact Wk<|Wg<|R z (inc_ hk10 (lt_ (a_.len p2_6) H_) z z)<|Rm z<|Wl (fun _ q => ⟨(), (som<|ifF hm12 hcm).symm, ⟨(q.k<|s5 z z z z z), (bup sc s15)⟩⟩)
 ·rintro _ a33 w34 ⟨hS27, s28⟩
  refine Wu ?_ hS27
  refine Ws<|R z (lss z z)<|Wn<|Wq<|Wc z (fun hc => (S_ hc).elim) (fun _ => ?_)
  exact We (fun a' ha' => ⟨rfl, ⟨(Sat.weaken ha'<|s1 z), s28⟩⟩)
 ·rintro _ a29 w35 rfl ⟨hS36, s2a⟩
  have hm2b := elL hms
  revert a29
  refine Wo<|Ws<|Rm z<|R z (a_c z z)<|Ra z<|Wn ?_
  obtain rfl := som hm2b
  exact Wr<|d_ hr z ⟨(bup (bup (bup (bup (bup h4 h3) s7) s8) sb) s2a), z⟩
 rintro r37 ex38 a39 w3a rfl ⟨rfl, hq2c⟩
 have hm2d := elR hms
 obtain rfl := som hm2d
 exact ⟨hq2c, z⟩
theorem W_w2w {x1 : g_} {x2 : e_} {res : Bool} (hm : g_c n x1 x2 = some res) (hBw : B ≤ w0.z) (p1_0 : a_ w0 B (sl A0 N0 C0) x1.rules) (p2_0 : x2.name.b.length ≤ LEN) (p2_1 : inI x2.kind) (p2_2 : inI x2.size) (p2_4 : a_ w0 B (sl A3 N3 C3) x2.bytes) (p2_5 : a_ w0 B (sl A4 N4 C4) x2.names) (p2_6 : a_ w0 B (sl A2 N2 C2) x2.tags) (p2_7 : a_ w0 B (sl A5 N5 C5) x2.kids) : j_ prog 151 [(.agg #[sl A0 N0 C0]), (.agg #[Str.v x2.name, vI x2.kind, vI x2.size, vB x2.little, sl A3 N3 C3, sl A4 N4 C4, sl A2 N2 C2, sl A5 N5 C5])] w0 (Q11 w0 B res) := by
 unfold g_c at hm
 refine goF func151 z z (lb z) fun fn hr => Ws<|E z (fb z) ?_
 rintro _ ww ⟨rfl, h1f⟩
 have h1 := h1f.below
 have hx : Blk ww w0.z [sl A0 N0 C0] := h1f.blk
 refine E z (fb z) ?_
 rintro _ w2 ⟨rfl, h1g⟩
 have h0 := h1g.below
 have h6 : Blk w2 ww.z (vR x2 A3 N3 C3 A4 N4 C4 A2 N2 C2 A5 N5 C5) := h1g.blk
 refine Ra z<|Wn<|Wq<|Ws<|R z (fd b_x z)<|R z (l1 g_3 z fid<|h6.at z)<|Wn<|Wb<|Ws<|R z (eql z z)<|Ra z<|Wn<|Wc z (fun hcy => ?_) (fun hcy => ?_)
 ·refine Wq ?_
  obtain ⟨u2f, hu2g, hm2h⟩ := bdS (ifT hm hcy)
  refine Wt (fun a w => ∃ (xz : Bool), xz = u2f ∧ Sat 102 [(4, vB xz)] a ∧ Below w2.z w2 w) ?_ ?_
  ·refine Wg<|R z (lN (vs := (vR x2 A3 N3 C3 A4 N4 C4 A2 N2 C2 A5 N5 C5)) N_ t_ z z fid<|h6.row 0 8 z) ?_
   have hq := (h1.ag B).e h0
   have h1h := lt_ h1.s h0.s
   obtain ⟨r2i, e2j, hm1i⟩ := bdS hu2g
   refine E z (fc call177 z<|c_W (B := B) e2j (zt' hBw h1h) p2_0 p2_1 p2_2 (p2_4.g hq) (p2_5.g hq) (p2_6.g hq) (p2_7.g hq)<|ii z) ?_
   rintro _ w4t ⟨se, rfl⟩
   refine Rm z ?_
   rcases bs r2i with hca | hca
   ·refine Rh z hca (fd a_D z) ?_
    have h1j := h6.e se
    refine Rh z hca (l1 g_3 z fid<|h1j.at z) ?_
    obtain ⟨r2k, e2l, hm1k⟩ := bdS (ifT hm1i hca)
    refine Eg z z hca z (fc call117 z<|c_z (B := B) e2l (zt' hBw<|lt_ h1h se.s) p2_2 (ii z)<|ii z) ?_
    rintro _ w4u ⟨sr, rfl⟩
    refine R z (pT z hca z)<|Rm z ?_
    rcases bs r2k with hc5 | hc5
    ·have hm1l := ifT hm1k hc5
     refine Rh z hc5 (fd c_t z) ?_
     have h1m := h1j.e sr
     refine Rh z hc5 (l1 g_4 z fid<|h1m.at z)<|Rh z hc5 (not_ z)<|Rh z hc5 (mv z) ?_
     rcases bs (!x2.little) with hcb | hcb
     ·iterate 3 refine Nh z hcb ?_
      exact Rh z hc5 (pT z hcb z)<|R z (pT z hc5 z)<|Ra z<|Wl (fun _ q => ⟨true, som<|ifT hm1l hcb, (q.k<|s1 z), (bup se sr)⟩)
     exact Rh z hcb (fd a_D z)<|Rh z hcb (l1 g_3 z fid<|h1m.at z)<|Rh z hcb (a_c z z)<|Rh z hc5 (pF z hcb z)<|R z (pT z hc5 z)<|Ra z<|Wl (fun _ q => ⟨decide (1 < x2.size), som<|ifF hm1l hcb, (q.k<|s1 z), (bup se sr)⟩)
    iterate 4 refine Nh z hc5 ?_
    exact Nv z<|Nv z<|Nv z<|Nh z hc5<|R z (pF z hc5 z)<|Ra z<|Wl (fun _ q => ⟨false, som<|ifF hm1k hc5, (q.k<|s1 z), (bup se sr)⟩)
   iterate 3 refine Nh z hca ?_
   exact R z (pF z hca z)<|Rm z<|Nh z z<|Nh z z<|Nh z z<|Nh z z<|Nv z<|Nv z<|Nv z<|Nh z z<|R z (pF z z z)<|Ra z<|Wl (fun _ q => ⟨false, som<|ifF hm1i hca, (q.k<|s1 z), se⟩)
  rintro a2m w4v ⟨xz, rfl, hS4w, s2n⟩
  revert a2m
  refine Wo ?_
  obtain rfl := som hm2h
  exact Wr<|rtO<|d_ hr z ⟨(bup (bup h1 h0) s2n), z⟩
 have hm1n := ifF hm hcy
 refine Ws<|R z (eql z z)<|Ra z<|Wn<|Wc z (fun hc10 => ?_) (fun hc10 => ?_)
 ·refine Wq ?_
  obtain ⟨u2o, hu2p, hm2q⟩ := bdS (ifT hm1n hc10)
  refine Wt (fun a w => ∃ (x11 : Bool), x11 = u2o ∧ Sat 102 [(4, vB x11)] a ∧ Below w2.z w2 w) ?_ ?_
  ·refine Wg<|R z (lN (vs := (vR x2 A3 N3 C3 A4 N4 C4 A2 N2 C2 A5 N5 C5)) N_ t_ z z fid<|h6.row 0 8 z) ?_
   have hj := (h1.ag B).e h0
   have h1o := lt_ h1.s h0.s
   obtain ⟨r2r, e2s, hm1p⟩ := bdS hu2p
   refine E z (fc call177 z<|c_W (B := B) e2s (zt' hBw h1o) p2_0 p2_1 p2_2 (p2_4.g hj) (p2_5.g hj) (p2_6.g hj) (p2_7.g hj)<|ii z) ?_
   rintro _ w4x ⟨sk, rfl⟩
   refine Rm z ?_
   rcases bs r2r with hc8 | hc8
   ·refine Rh z hc8 (fd a_R z)<|Rh z hc8 (l1 J_ z fid<|(h6.e sk).at z) ?_
    have h1q := p2_4.g<|hj.e sk
    refine Rh z hc8 (lnR h_ z h1q) ?_
    obtain ⟨r2t, e2u, hm2v⟩ := bdS (ifT hm1p hc8)
    refine Eg z z hc8 z (fc call117 z<|c_z (B := B) e2u (zt' hBw<|lt_ h1o sk.s) (b_2<|a_.len h1q) (ii z)<|ii z) ?_
    rintro _ w4y ⟨s2w, rfl⟩
    exact R z (pT z hc8 z)<|Ra z<|Wl (fun _ q => ⟨r2t, som hm2v, (q.k<|s1 z), (bup sk s2w)⟩)
   iterate 4 refine Nh z hc8 ?_
   exact R z (pF z hc8 z)<|Ra z<|Wl (fun _ q => ⟨false, som<|ifF hm1p hc8, (q.k<|s1 z), sk⟩)
  rintro a2x w4z ⟨x11, rfl, hS50, s2y⟩
  revert a2x
  refine Wo ?_
  obtain rfl := som hm2q
  exact Wr<|rtO<|d_ hr z ⟨(bup (bup h1 h0) s2y), z⟩
 have hm1r := ifF hm1n hc10
 refine Ws<|R z (eql z z)<|Ra z<|Wn<|Wc z (fun hc12 => ?_) (fun hc12 => ?_)
 ·refine Wq ?_
  obtain ⟨u2z, hu30, hm31⟩ := bdS (ifT hm1r hc12)
  refine Wt (fun a w => ∃ (x13 : Bool), x13 = u2z ∧ Sat 102 [(4, vB x13)] a ∧ Below w2.z w2 w) ?_ ?_
  ·refine Wg<|R z (lN (vs := (vR x2 A3 N3 C3 A4 N4 C4 A2 N2 C2 A5 N5 C5)) N_ t_ z z fid<|h6.row 0 8 z) ?_
   have ht := (h1.ag B).e h0
   have h1s := lt_ h1.s h0.s
   obtain ⟨r32, e33, hm1t⟩ := bdS hu30
   refine E z (fc call177 z<|c_W (B := B) e33 (zt' hBw h1s) p2_0 p2_1 p2_2 (p2_4.g ht) (p2_5.g ht) (p2_6.g ht) (p2_7.g ht)<|ii z) ?_
   rintro _ w51 ⟨ss, rfl⟩
   refine Rm z ?_
   rcases bs r32 with hcc | hcc
   ·refine Rh z hcc (fd a_D z)<|Rh z hcc (l1 g_3 z fid<|(h6.e ss).at z) ?_
    obtain ⟨r34, e35, hm36⟩ := bdS (ifT hm1t hcc)
    refine Eg z z hcc z (fc call117 z<|c_z (B := B) e35 (zt' hBw<|lt_ h1s ss.s) p2_2 (ii z)<|ii z) ?_
    rintro _ w52 ⟨s37, rfl⟩
    exact R z (pT z hcc z)<|Ra z<|Wl (fun _ q => ⟨r34, som hm36, (q.k<|s1 z), (bup ss s37)⟩)
   iterate 3 refine Nh z hcc ?_
   exact R z (pF z hcc z)<|Ra z<|Wl (fun _ q => ⟨false, som<|ifF hm1t hcc, (q.k<|s1 z), ss⟩)
  rintro a38 w53 ⟨x13, rfl, hS54, s39⟩
  revert a38
  refine Wo ?_
  obtain rfl := som hm31
  exact Wr<|rtO<|d_ hr z ⟨(bup (bup h1 h0) s39), z⟩
 have hm1u := ifF hm1r hc12
 refine Ws<|R z (eql z z)<|Ra z<|Wn<|Wc z (fun hc14 => ?_) (fun hc14 => ?_)
 ·refine Wq ?_
  obtain ⟨u3a, hu3b, hm3c⟩ := bdS (ifT hm1u hc14)
  refine Wt (fun a w => ∃ (x15 : Bool), x15 = u3a ∧ Sat 102 [(4, vB x15)] a ∧ Below w2.z w2 w) ?_ ?_
  ·refine Wd (X := noX) 0 (.rd 0 (.ef 1 (.rd 2 (.rd 3 (.rd 4 (.rd 5 (.rd 6 (.rd 7 (.ef 8 (.rd 9 (.rd 10 (.rd 11 .done)))))))))))) mo (by kernel_rfl) fun w55 sf _ => ?_
   have h1v := h6.e sf
   refine dR z z (lN (vs := (vR x2 A3 N3 C3 A4 N4 C4 A2 N2 C2 A5 N5 C5)) N_ t_ z z fid<|h1v.row 0 8 z) ?_
   have hl := ((h1.ag B).e h0).e sf
   have h1w := lt_ (lt_ h1.s h0.s) sf.s
   obtain ⟨r3d, e3e, hm1x⟩ := bdS hu3b
   refine dE z z (fc call177 z<|c_W (B := B) e3e (zt' hBw h1w) p2_0 p2_1 p2_2 (p2_4.g hl) (p2_5.g hl) (p2_6.g hl) (p2_7.g hl)<|ii z) (.inr fun _ _ h => A_<|h.1) ?_
   rintro _ w56 ⟨sg, rfl⟩
   refine dR z z (mv z) ?_
   rcases bs r3d with hc3 | hc3
   ·refine dRg z z z hc3 z (lN (vs := [sl A0 N0 C0]) P_ F_ z z fid<|(((hx.e h0).e sf).e sg).row 0 1 z)<|dRg z z z hc3 z (fd a_8 z)<|dRg z z z hc3 z (l1 G_ z fid<|(h1v.e sg).at z) ?_
    obtain ⟨x57, e3f, hm3g⟩ := bdS (ifT hm1x hc3)
    have h1y := hl.e sg
    refine a_K z z z hc3 z (at_ (α := Int) B_ z_3 z z z (p2_7.g h1y) e3f) ?_
    rintro _ ⟨b58, o59, cs5a, rfl, h3h, h3i, h5b⟩
    obtain ⟨rfl, h3j⟩ := a_7 h3i
    refine dRg z z z hc3 z (l1 g_3 z fid<|h3h.at0 z) ?_
    obtain ⟨r3k, e3l, hm3m⟩ := bdS hm3g
    refine dEg z z z hc3 z (fc call178 z<|i_y (B := B) e3l (zt' hBw<|lt_ h1w sg.s) (p1_0.g h1y) h3j) (.inr fun _ _ h => A_<|h.1) ?_
    rintro _ w5c ⟨s3n, rfl, h5d⟩
    exact dRg z z z hc3 z (a_c z z)<|dR z z (pT z hc3 z)<|dR z z (asg z)<|pD (fun _ q => ⟨decide (0 < r3k), som hm3m, (q.k<|s1 z), (bup (bup sf sg) s3n)⟩)
   iterate 5 refine dRn z z z hc3 z ?_
   exact dEn z z z hc3 z<|dRn z z z hc3 z<|dR z z (pF z hc3 z)<|dR z z (asg z)<|pD (fun _ q => ⟨false, som<|ifF hm1x hc3, (q.k<|s1 z), (bup sf sg)⟩)
  rintro a3o w5e ⟨x15, rfl, hS5f, s3p⟩
  revert a3o
  refine Wo ?_
  obtain rfl := som hm3c
  exact Wr<|rtO<|d_ hr z ⟨(bup (bup h1 h0) s3p), z⟩
 have hm1z := ifF hm1u hc14
 refine Ws<|R z (eql z z)<|Ra z<|Wn<|Wc z (fun hc16 => ?_) (fun hc16 => ?_)
 ·refine Wq ?_
  obtain ⟨u3q, hu3r, hm3s⟩ := bdS (ifT hm1z hc16)
  refine Wt (fun a w => ∃ (x17 : Bool), x17 = u3q ∧ Sat 102 [(4, vB x17)] a ∧ Below w2.z w2 w) ?_ ?_
  ·refine Wd (X := noX) 0 (.rd 0 (.ef 1 (.rd 2 (.rd 3 (.rd 4 (.rd 5 (.rd 6 (.rd 7 (.ef 8 (.rd 9 (.rd 10 (.rd 11 .done)))))))))))) mo (by kernel_rfl) fun w5g sh _ => ?_
   have h20 := h6.e sh
   refine dR z z (lN (vs := (vR x2 A3 N3 C3 A4 N4 C4 A2 N2 C2 A5 N5 C5)) N_ t_ z z fid<|h20.row 0 8 z) ?_
   have hn := ((h1.ag B).e h0).e sh
   have h21 := lt_ (lt_ h1.s h0.s) sh.s
   obtain ⟨r3t, e3u, hm22⟩ := bdS hu3r
   refine dE z z (fc call177 z<|c_W (B := B) e3u (zt' hBw h21) p2_0 p2_1 p2_2 (p2_4.g hn) (p2_5.g hn) (p2_6.g hn) (p2_7.g hn)<|ii z) (.inr fun _ _ h => A_<|h.1) ?_
   rintro _ w5h ⟨si, rfl⟩
   refine dR z z (mv z) ?_
   rcases bs r3t with hc4 | hc4
   ·refine dRg z z z hc4 z (lN (vs := [sl A0 N0 C0]) P_ F_ z z fid<|(((hx.e h0).e sh).e si).row 0 1 z)<|dRg z z z hc4 z (fd a_8 z)<|dRg z z z hc4 z (l1 G_ z fid<|(h20.e si).at z) ?_
    obtain ⟨x5i, e3v, hm3w⟩ := bdS (ifT hm22 hc4)
    have h23 := hn.e si
    refine a_K z z z hc4 z (at_ (α := Int) B_ z_3 z z z (p2_7.g h23) e3v) ?_
    rintro _ ⟨b5j, o5k, cs5l, rfl, h3x, h3y, h5m⟩
    obtain ⟨rfl, h3z⟩ := a_7 h3y
    refine dRg z z z hc4 z (l1 g_3 z fid<|h3x.at0 z) ?_
    obtain ⟨r40, e41, hm42⟩ := bdS hm3w
    refine dEg z z z hc4 z (fc call178 z<|i_y (B := B) e41 (zt' hBw<|lt_ h21 si.s) (p1_0.g h23) h3z) (.inr fun _ _ h => A_<|h.1) ?_
    rintro _ w5n ⟨s43, rfl, h5o⟩
    exact dRg z z z hc4 z (a_c z z)<|dR z z (pT z hc4 z)<|dR z z (asg z)<|pD (fun _ q => ⟨decide (0 < r40), som hm42, (q.k<|s1 z), (bup (bup sh si) s43)⟩)
   iterate 5 refine dRn z z z hc4 z ?_
   exact dEn z z z hc4 z<|dRn z z z hc4 z<|dR z z (pF z hc4 z)<|dR z z (asg z)<|pD (fun _ q => ⟨false, som<|ifF hm22 hc4, (q.k<|s1 z), (bup sh si)⟩)
  rintro a44 w5p ⟨x17, rfl, hS5q, s45⟩
  revert a44
  refine Wo ?_
  obtain rfl := som hm3s
  exact Wr<|rtO<|d_ hr z ⟨(bup (bup h1 h0) s45), z⟩
 have hm24 := ifF hm1z hc16
 refine Ws<|R z (eql z z)<|Ra z<|Wn<|Wc z (fun hc18 => ?_) (fun hc18 => ?_)
 ·refine Ws<|R z (lN (vs := (vR x2 A3 N3 C3 A4 N4 C4 A2 N2 C2 A5 N5 C5)) N_ t_ z z fid<|h6.row 0 8 z) ?_
  have hu := (h1.ag B).e h0
  obtain ⟨r5r, e46, hm47⟩ := bdS (ifT hm24 hc18)
  refine E z (fc call179 z<|W_w2u (B := B) e46 (zt' hBw<|lt_ h1.s h0.s) p2_0 p2_1 p2_2 (p2_4.g hu) (p2_5.g hu) (p2_6.g hu)<|p2_7.g hu) ?_
  rintro _ w5s ⟨s48, rfl⟩
  refine Ra z<|Wn ?_
  obtain rfl := som hm47
  exact Wr<|rtO<|d_ hr z ⟨(bup (bup h1 h0) s48), z⟩
 have hm25 := ifF hm24 hc18
 refine Ws<|R z (eql z z)<|Ra z<|Wn<|Wc z (fun hc19 => ?_) (fun hc19 => ?_)
 ·refine Ws<|R z (lN (vs := [sl A0 N0 C0]) P_ F_ z z fid<|(hx.e h0).row 0 1 z)<|R z (lN (vs := (vR x2 A3 N3 C3 A4 N4 C4 A2 N2 C2 A5 N5 C5)) N_ t_ z z fid<|h6.row 0 8 z) ?_
  have ho := (h1.ag B).e h0
  obtain ⟨r5t, e49, hm4a⟩ := bdS (ifT hm25 hc19)
  refine E z (fc call180 z<|W_w2v (B := B) e49 (zt' hBw<|lt_ h1.s h0.s) (p1_0.g ho) p2_0 p2_1 p2_2 (p2_4.g ho) (p2_5.g ho) (p2_6.g ho)<|p2_7.g ho) ?_
  rintro _ w5u ⟨s4b, rfl⟩
  refine Ra z<|Wn ?_
  obtain rfl := som hm4a
  exact Wr<|rtO<|d_ hr z ⟨(bup (bup h1 h0) s4b), z⟩
 refine Wq<|Ws<|R z (eql z z)<|Ra z<|Wn ?_
 obtain ⟨u4c, hu26, hm27⟩ := bdS (ifF hm25 hc19)
 refine Wt (fun a w => ∃ (x1a : Bool), x1a = u4c ∧ Sat 102 [(3, pt ww.z), (6, vI x2.kind), (80, vB x1a)] a ∧ Below w2.z w2 w) ?_ ?_
 ·refine Wc z (fun hc1b => ?_) (fun hc1b => ?_)
  ·exact a_J (fun _ q => ⟨x2.kind == 8, som<|ifT hu26 hc1b, (q.k<|s3 z z z), (br w2)⟩)
  exact Wg<|R z (eql z z)<|Ra z<|Wl (fun _ q => ⟨x2.kind == 9, som<|ifF hu26 hc1b, (q.k<|s3 z z z), (br w2)⟩)
 rintro a4d w28 ⟨x1a, rfl, hS5v, sd⟩
 revert a4d
 refine Wo<|Wc z (fun hc1c => ?_) (fun hc1c => ?_)
 ·refine Ws<|R z (lN (vs := (vR x2 A3 N3 C3 A4 N4 C4 A2 N2 C2 A5 N5 C5)) N_ t_ z z fid<|(h6.e sd).row 0 8 z) ?_
  have hv := ((h1.ag B).e h0).e sd
  obtain ⟨r5w, e4e, hm4f⟩ := bdS (ifT hm27 hc1c)
  refine E z (fc call177 z<|c_W (B := B) e4e (zt' hBw<|lt_ (lt_ h1.s h0.s) sd.s) p2_0 p2_1 p2_2 (p2_4.g hv) (p2_5.g hv) (p2_6.g hv) (p2_7.g hv)<|ii z) ?_
  rintro _ w5x ⟨s4g, rfl⟩
  refine Ra z<|Wn ?_
  obtain rfl := som hm4f
  exact Wr<|rtO<|d_ hr z ⟨(bup (bup (bup h1 h0) sd) s4g), z⟩
 have hm29 := ifF hm27 hc1c
 refine Ws<|R z (eql z z)<|Ra z<|Wn<|Wc z (fun hc1d => ?_) (fun hc1d => ?_)
 ·refine Wq ?_
  obtain ⟨u4h, hu4i, hm4j⟩ := bdS (ifT hm29 hc1d)
  refine Wt (fun a w => ∃ (x1e : Bool), x1e = u4h ∧ Sat 102 [(4, vB x1e)] a ∧ Below w28.z w28 w) ?_ ?_
  ·refine Wg ?_
   have h2a := h6.e sd
   refine R z (lN (vs := (vR x2 A3 N3 C3 A4 N4 C4 A2 N2 C2 A5 N5 C5)) N_ t_ z z fid<|h2a.row 0 8 z) ?_
   have hp := ((h1.ag B).e h0).e sd
   obtain ⟨r4k, e4l, hm2b⟩ := bdS hu4i
   refine E z (fc call177 z<|c_W (B := B) e4l (zt' hBw<|lt_ (lt_ h1.s h0.s) sd.s) p2_0 p2_1 p2_2 (p2_4.g hp) (p2_5.g hp) (p2_6.g hp) (p2_7.g hp)<|ii z) ?_
   rintro _ w5y ⟨sm, rfl⟩
   refine Rm z ?_
   rcases bs r4k with hc9 | hc9
   ·have hm2c := ifT hm2b hc9
    refine Rh z hc9 (fd a_R z) ?_
    have h2d := h2a.e sm
    refine Rh z hc9 (l1 J_ z fid<|h2d.at z) ?_
    have h2e := p2_4.g<|hp.e sm
    refine Rh z hc9 (lnR h_ z h2e)<|Rh z hc9 (eql z z)<|R z (pT z hc9 z)<|Rm z ?_
    rcases bs ((x2.bytes.length : Int) == 1) with hc7 | hc7
    ·refine Rh z hc7 (fd a_R z)<|Rh z hc7 (l1 J_ z fid<|h2d.at z) ?_
     obtain ⟨x4m, e4n, hm4o⟩ := bdS (ifT hm2c hc7)
     refine RXg z z hc7 z (at_ (α := UInt8) h_ z_5 z z z h2e e4n) ?_
     rintro _ ⟨b5z, o60, cs61, rfl, h4p, h4q, h62⟩
     obtain rfl := u8 h4q
     exact Rh z hc7 (l1 g_5 z fid<|h4p.at0 z)<|Rh z hc7 (nq z z)<|R z (pT z hc7 z)<|Ra z<|Wl (fun _ q => ⟨(byteI x4m) != (byteI (92 : UInt8)), som hm4o, (q.k<|s1 z), sm⟩)
    iterate 5 refine Nh z hc7 ?_
    exact R z (pF z hc7 z)<|Ra z<|Wl (fun _ q => ⟨false, som<|ifF hm2c hc7, (q.k<|s1 z), sm⟩)
   iterate 4 refine Nh z hc9 ?_
   exact R z (pF z hc9 z)<|Rm z<|Nh z z<|Nh z z<|Nh z z<|Nh z z<|Nh z z<|R z (pF z z z)<|Ra z<|Wl (fun _ q => ⟨false, som<|ifF hm2b hc9, (q.k<|s1 z), sm⟩)
  rintro a4r w63 ⟨x1e, rfl, hS64, s4s⟩
  revert a4r
  refine Wo ?_
  obtain rfl := som hm4j
  exact Wr<|rtO<|d_ hr z ⟨(bup (bup (bup h1 h0) sd) s4s), z⟩
 refine Wk<|Ws<|Ra z<|Wn ?_
 obtain rfl := som (ifF hm29 hc1d)
 exact Wr<|d_ hr z ⟨(bup (bup h1 h0) sd), z⟩
theorem W_w2x {x1 : g_} {x2 : Int} {res : Bool} (hm : g_d n x1 x2 = some res) (hBw : B ≤ w0.z) (p1_0 : a_ w0 B (sl A0 N0 C0) x1.rules) (p2_0 : inI x2) : j_ prog 135 [(.agg #[sl A0 N0 C0]), vI x2] w0 (Q11 w0 B res) := by
 unfold g_d at hm
 refine goF func135 z z (lb z) fun fn hr => Ws<|E z (fb z) ?_
 rintro _ w2e ⟨rfl, h1a⟩
 have h2 := h1a.below
 have ho : Blk w2e w0.z [sl A0 N0 C0] := h1a.blk
 refine Ra z<|Wn<|Wq<|Ws<|R z (lN (vs := [sl A0 N0 C0]) P_ F_ z z fid<|ho.row 0 1 z)<|Rm z ?_
 obtain ⟨r41, e2f, hm1b⟩ := bdS hm
 refine E z (fc call150 z<|i_w (B := B) e2f (zt' hBw h2.s) (p1_0.e h2) p2_0) ?_
 rintro _ w8 ⟨s5, rfl⟩
 refine R z (not_ z)<|Wn<|Wc z (fun hcp => ?_) (fun hcp => ?_)
 ·refine Ws<|Ra z<|Wn ?_
  obtain rfl := som (ifT hm1b hcp)
  exact Wr<|d_ hr z ⟨(bup h2 s5), z⟩
 refine Wk<|Ws<|R z (fd a_j z) ?_
 have h1c := ho.e s5
 refine R z (l1 a_o z fid<|h1c.at z)<|Rm z ?_
 obtain ⟨x9, e2g, hm2h⟩ := bdS (ifF hm1b hcp)
 have h1d := (h2.ag B).e s5
 refine RX z (at_ (α := e_) X_ t_ z z z (p1_0.g h1d) e2g) ?_
 rintro _ ⟨b42, o43, cs44, rfl, h2i, h2j, h45⟩
 obtain ⟨aq, nr, cs, au, nt, cv, aw, nx, cy, ae, nf, cg, rfl, h1e, h2k, h2l, h2m, h2n, h2o, hj⟩ := b_1 h2j
 refine R z (lN (vs := (vR x9 aq nr cs au nt cv aw nx cy ae nf cg)) N_ t_ z z fid h2i)<|E z (fa c_T) ?_
 rintro _ w2p ⟨rfl, h1f⟩
 have h4 := h1f.below
 have h1g : Blk w2p w8.z [(Str.v (⟨[]⟩ : Str)), vI 0, vI 0, vB false, sl none 0 0, sl none 0 0, sl none 0 0, sl none 0 0] := h1f.blk
 refine E0 (fs (cur' := (vR x9 aq nr cs au nt cv aw nx cy ae nf cg)) t_ z z h1g z (lb z) (oA z) z) ?_
 rintro _ w1h ⟨hk, s2q⟩
 have h3 := s2q.one
 refine Wn<|Wq<|Wq ?_
 obtain ⟨u2r, hu2s, hm1i⟩ := bdS hm2h
 refine Wt (fun a w => ∃ (xz : Bool), xz = u2r ∧ Sat 65 [(1, vI x2), (2, pt w0.z), (5, pt w8.z), (31, vB xz)] a ∧ Below w1h.z w1h w) ?_ ?_
 ·refine Wg<|R z (fd c_s z)<|R z (l1 g_9 z fid<|hk.at z) ?_
  obtain ⟨r2t, e2u, hm1j⟩ := bdS hu2s
  refine E z (fc call116 z<|i_x (B := B) e2u (zt' hBw<|lt_ (lt_ (lt_ h2.s s5.s) h4.s) h3.s) h1e) ?_
  rintro _ w46 ⟨sm, rfl⟩
  refine R z (not_ z)<|Rm z ?_
  rcases bs (!r2t) with hc0 | hc0
  ·iterate 3 refine Nh z hc0 ?_
   exact Nv z<|Nv z<|Nv z<|Nh z hc0<|R z (pT z hc0 z)<|Wl (fun _ q => ⟨true, som<|ifT hm1j hc0, (q.k<|s4 z z z z), sm⟩)
  have hm1k := ifF hm1j hc0
  refine Rh z hc0 (fd c_t z) ?_
  have h1l := hk.e sm
  refine Rh z hc0 (l1 g_4 z fid<|h1l.at z)<|Rh z hc0 (mv z) ?_
  rcases bs x9.little with hc6 | hc6
  ·exact Rh z hc6 (fd b_x z)<|Rh z hc6 (l1 g_3 z fid<|h1l.at z)<|Rh z hc6 (nq z z)<|Rh z hc0 (pT z hc6 z)<|R z (pF z hc0 z)<|Wl (fun _ q => ⟨x9.kind != 1, som<|ifT hm1k hc6, (q.k<|s4 z z z z), sm⟩)
  iterate 3 refine Nh z hc6 ?_
  exact Rh z hc0 (pF z hc6 z)<|R z (pF z hc0 z)<|Wl (fun _ q => ⟨false, som<|ifF hm1k hc6, (q.k<|s4 z z z z), sm⟩)
 rintro a2v wh ⟨xz, rfl, hS47, s1⟩
 revert a2v
 refine Wo<|Wc z (fun hc10 => ?_) (fun hc10 => ?_)
 ·refine Ws<|Ra z<|Wn ?_
  obtain rfl := som (ifT hm1i hc10)
  exact Wr<|d_ hr z ⟨(bup (bM (bup (bup h2 s5) h4) h3<|m1<|lt_ h2.s s5.s) s1), z⟩
 refine Wk<|Wq<|Ws<|R z (fd a_j z) ?_
 have h1m := ((h1c.e h4).c h3<|djs<|mm1 ho.lt s5.s).e s1
 refine R z (l1 a_o z fid<|h1m.at z)<|Rm z ?_
 obtain ⟨x2w, e2x, hm2y⟩ := bdS (ifF hm1i hc10)
 have hd := lt_ h2.s s5.s
 have h1n : ∀ k ∈ [w8.z], ¬ B k := or0 (f_ lr)  (r_ (zt' hBw hd))
 have h1o := ((h1d.e h4).c h3<|k_ h1n).e s1
 refine RX z (rX X_ t_ z z (p1_0.g h1o) z z e2x) ?_
 rintro _ ⟨a2z, n30, c31, rfl, h11⟩
 refine R z (lnR X_ z h11)<|Rm z<|Wn ?_
 obtain ⟨u48, hu32, hm1p⟩ := bdS hm2y
 refine Wf (σ := Unit) (ρ := Bool) (fun (k1q : Nat) (_ : Unit) a w => Sat 65 [(1, vI x2), (2, pt w0.z), (5, pt w8.z), (35, sl a2z n30 c31), (36, vI (x2w.length : Int)), (37, (vI ((k1q : Nat) : Int)))] a ∧ Below wh.z wh w) (fun (_ : Unit) a w => Sat 65 [(1, vI x2), (2, pt w0.z), (5, pt w8.z)] a ∧ Below wh.z wh w) (fun r ex a w => ex = .ret ∧ v_ prog fn (Q11 w0 B r) a w) hu32 ?_ ?_ ?_ ?_ ?_
 ·exact fun _ q => ⟨(q.k<|s6 z z z z z z), (br wh)⟩
 ·rintro k1q _ a49 w33 o4a hk1r ⟨hS34, sa⟩ hm35
  refine Wu ?_ hS34
  refine Ws<|R z (lss z z)<|Wn<|Wq<|Wc z (fun _ => ?_) (fun hc => (R_ hk1r hc).elim)
  refine Wk<|Wq<|Wb<|Ws ?_
  obtain ⟨x1s, e36, hm1t⟩ := bdS hm35
  refine RX z (at_ (α := e_) X_ t_ z z z (h11.e sa) e36) ?_
  rintro _ ⟨b4b, o4c, cs4d, rfl, h37, h38, h4e⟩
  obtain ⟨a1u, n1v, c1w, a1x, n1y, c1z, a20, n21, c22, a23, n24, c25, rfl, h4f, h4g, h4h, h4i, h4j, h4k, h4l⟩ := b_1 h38
  refine R z (lN (vs := (vR x1s a1u n1v c1w a1x n1y c1z a20 n21 c22 a23 n24 c25)) N_ t_ z z fid h37)<|E z (fa c_T) ?_
  rintro _ w39 ⟨rfl, h26⟩
  have h12 := h26.below
  have h3a : Blk w39 w33.z [(Str.v (⟨[]⟩ : Str)), vI 0, vI 0, vB false, sl none 0 0, sl none 0 0, sl none 0 0, sl none 0 0] := h26.blk
  refine E0 (fs (cur' := (vR x1s a1u n1v c1w a1x n1y c1z a20 n21 c22 a23 n24 c25)) t_ z z h3a z (lb z) (oA z) z) ?_
  rintro _ w4m ⟨h3b, s3c⟩
  have h13 := s3c.one
  refine Wn<|Ws<|R z (fd c_s z)<|R z (l1 g_9 z fid<|h3b.at z)<|R z (fd c_s z)<|R z (l1 g_9 z fid<|((((hk.e s1).e sa).e h12).c h13<|djs<|mm1 h1g.lt<|lt_ (lt_ h3.s s1.s) sa.s).at z)<|R z (e_u z z)<|Wn<|Wc z (fun hc14 => ?_) (fun hc14 => ?_)
  ·exact Ws<|Ra z<|Wn<|Wr<|rtO<|qL (som<|ifT hm1t hc14).symm<|d_ hr z ⟨(bM (bup (bup (bup (bM (bup (bup h2 s5) h4) h3<|m1 hd) s1) sa) h12) h13<|m1<|lt_ (lt_ (lt_ (lt_ hd h4.s) h3.s) s1.s) sa.s), z⟩
  exact Wk<|Wg<|R z (inc_ hk1r (lt_ (a_.len h11) H_) z z)<|Rm z<|Wl (fun _ q => ⟨(), (som<|ifF hm1t hc14).symm, ⟨(q.k<|s6 z z z z z z), (bM (bup sa h12) h13<|m1 sa.s)⟩⟩)
 ·rintro _ a4n w4o ⟨hS3d, s3e⟩
  refine Wu ?_ hS3d
  refine Ws<|R z (lss z z)<|Wn<|Wq<|Wc z (fun hc => (S_ hc).elim) (fun _ => ?_)
  exact We (fun a' ha' => ⟨rfl, ⟨(Sat.weaken ha'<|s3 z z z), s3e⟩⟩)
 ·rintro _ a3f wi rfl ⟨hS4p, sb⟩
  have hm3g := elL hm1p
  revert a3f
  refine Wo<|Wq<|Ws<|R z (fd a_8 z) ?_
  have h27 := (hk.e s1).e sb
  refine R z (l1 G_ z fid<|h27.at z) ?_
  have h15 := (((h4.ag B).c h3<|k_ h1n).e s1).e sb
  refine R z (lnR B_ z<|hj.g h15)<|Rm z<|Wn ?_
  obtain ⟨u4q, hu3h, hm28⟩ := bdS hm3g
  refine Wf (σ := Unit) (ρ := Bool) (fun (k16 : Nat) (_ : Unit) a w => Sat 65 [(1, vI x2), (2, pt w0.z), (5, pt w8.z), (48, sl ae nf cg), (49, vI (x9.kids.length : Int)), (50, (vI ((k16 : Nat) : Int)))] a ∧ Below wi.z wi w) (fun (_ : Unit) a w => Sat 65 [(2, pt w0.z), (5, pt w8.z)] a ∧ Below wi.z wi w) (fun r ex a w => ex = .ret ∧ v_ prog fn (Q11 w0 B r) a w) hu3h ?_ ?_ ?_ ?_ ?_
  ·exact fun _ q => ⟨(q.k<|s6 z z z z z z), (br wi)⟩
  ·rintro k16 _ a4r wl o4s hk29 ⟨hS3i, s17⟩ hm3j
   refine Wu ?_ hS3i
   refine Ws<|R z (lss z z)<|Wn<|Wq<|Wc z (fun _ => ?_) (fun hc => (R_ hk29 hc).elim)
   refine Wk<|Wq<|Wb<|Ws ?_
   obtain ⟨x2a, e3k, hm3l⟩ := bdS hm3j
   refine RX z (at_ (α := Int) B_ z_3 z z z (hj.g<|h15.e s17) e3k) ?_
   rintro _ ⟨b4t, o4u, cs4v, rfl, h3m, h3n, h4w⟩
   obtain ⟨rfl, h4x⟩ := a_7 h3n
   refine R z (l1 g_3 z fid<|h3m.at0 z)<|Ra z<|Wn<|Wq ?_
   obtain ⟨u3o, hu2b, hm2c⟩ := bdS hm3l
   refine Wt (fun a w => ∃ (x18 : Bool), x18 = u3o ∧ Sat 65 [(1, vI x2), (2, pt w0.z), (5, pt w8.z), (48, sl ae nf cg), (49, vI (x9.kids.length : Int)), (50, (vI ((k16 : Nat) : Int))), (60, vB x18)] a ∧ Below wl.z wl w) ?_ ?_
   ·refine Wg<|Rm z<|R z (lss z z)<|Rm z ?_
    rcases bs (decide (x2a < 0)) with hc7 | hc7
    ·iterate 3 refine Nh z hc7 ?_
     exact R z (pT z hc7 z)<|Wl (fun _ q => ⟨true, som<|ifT hu2b hc7, (q.k<|s7 z z z z z z z), (br wl)⟩)
    exact Rh z hc7 (mv z)<|Rh z hc7 (mv z)<|Rh z hc7 (a_M z z)<|R z (pF z hc7 z)<|Wl (fun _ q => ⟨decide (x2 ≤ x2a), som<|ifF hu2b hc7, (q.k<|s7 z z z z z z z), (br wl)⟩)
   rintro a3p w4y ⟨x18, rfl, hS4z, s2d⟩
   revert a3p
   refine Wo<|Wc z (fun hc19 => ?_) (fun hc19 => ?_)
   ·exact Ws<|Ra z<|Wn<|Wr<|rtO<|qL (som<|ifT hm2c hc19).symm<|d_ hr z ⟨(bup (bup (bup (bup (bM (bup (bup h2 s5) h4) h3<|m1 hd) s1) sb) s17) s2d), z⟩
   exact Wk<|Wg<|R z (inc_ hk29 (lt_ (a_.len hj) H_) z z)<|Rm z<|Wl (fun _ q => ⟨(), (som<|ifF hm2c hc19).symm, ⟨(q.k<|s6 z z z z z z), (bup s17 s2d)⟩⟩)
  ·rintro _ a50 w51 ⟨hS3q, s3r⟩
   refine Wu ?_ hS3q
   refine Ws<|R z (lss z z)<|Wn<|Wq<|Wc z (fun hc => (S_ hc).elim) (fun _ => ?_)
   exact We (fun a' ha' => ⟨rfl, ⟨(Sat.weaken ha'<|s2 z z), s3r⟩⟩)
  ·rintro _ a3s w52 rfl ⟨hS53, sc⟩
   have hm3t := elL hm28
   revert a3s
   refine Wo<|Ws<|R z (lN (vs := [sl A0 N0 C0]) P_ F_ z z fid<|((h1m.e sb).e sc).row 0 1 z)<|R z (lN (vs := (vR x9 aq nr cs au nt cv aw nx cy ae nf cg)) N_ t_ z z fid<|(h27.e sc).row 0 8 z) ?_
   have hn := h15.e sc
   obtain ⟨r54, e3u, hm3v⟩ := bdS hm3t
   refine E z (fc call151 z<|W_w2w (B := B) e3u (zt' hBw<|lt_ (lt_ (lt_ (lt_ (lt_ hd h4.s) h3.s) s1.s) sb.s) sc.s) (p1_0.g<|(h1o.e sb).e sc) h1e h2k h2l (h2m.g hn) (h2n.g hn) (h2o.g hn)<|hj.g hn) ?_
   rintro _ w55 ⟨s3w, rfl⟩
   refine Ra z<|Wn ?_
   obtain rfl := som hm3v
   exact Wr<|d_ hr z ⟨(bup (bup (bup (bup (bM (bup (bup h2 s5) h4) h3<|m1 hd) s1) sb) sc) s3w), z⟩
  rintro r56 ex57 a58 w59 rfl ⟨rfl, hq3x⟩
  have hm3y := elR hm28
  obtain rfl := som hm3y
  exact ⟨hq3x, z⟩
 rintro r5a ex5b a5c w5d rfl ⟨rfl, hq3z⟩
 have hm40 := elR hm1p
 obtain rfl := som hm40
 exact ⟨hq3z, z⟩
theorem W_w14 {x1 : g_} {res : Bool} (hm : e_Q n x1 = some res) (hBw : B ≤ w0.z) (p1_0 : a_ w0 B (sl A0 N0 C0) x1.rules) : j_ prog 111 [(.agg #[sl A0 N0 C0])] w0 (Q11 w0 B res) := by
 unfold e_Q at hm
 refine goF func111 z z (lb z) fun fn hr => Ws<|E z (fb z) ?_
 rintro _ wh ⟨rfl, h7⟩
 have h0 := h7.below
 have h8 : Blk wh w0.z [sl A0 N0 C0] := h7.blk
 refine Ra z<|Wn<|Wq<|Ws<|R z (fd a_j z)<|R z (l1 a_o z fid<|h8.at z) ?_
 have h9 := p1_0.e h0
 refine R z (lnR X_ z h9) ?_
 obtain ⟨ru, ei, hma⟩ := bdS hm
 refine E z (fc call117 z<|c_z (B := B) ei (zt' hBw h0.s) (b_2<|a_.len h9) (ii z)<|ii z) ?_
 rintro _ w2 ⟨s1, rfl⟩
 refine R z (not_ z)<|Wn<|Wc z (fun hc3 => ?_) (fun hc3 => ?_)
 ·refine Ws<|Ra z<|Wn ?_
  obtain rfl := som (ifT hma hc3)
  exact Wr<|d_ hr z ⟨(bup h0 s1), z⟩
 refine Wk<|Wq<|Ws<|R z (fd a_j z) ?_
 have hb := h8.e s1
 refine R z (l1 a_o z fid<|hb.at z) ?_
 have hd := (h0.ag B).e s1
 refine R z (lnR X_ z<|p1_0.g hd)<|Rm z<|Wn ?_
 obtain ⟨uv, huj, hmc⟩ := bdS (ifF hma hc3)
 refine Wf (σ := Unit) (ρ := Bool) (fun (ke : Nat) (_ : Unit) a w => Sat 20 [(1, pt w0.z), (11, vI (x1.rules.length : Int)), (12, (vI ((ke : Nat) : Int)))] a ∧ Below w2.z w2 w) (fun (_ : Unit) a w => Sat 20 [] a ∧ Below w2.z w2 w) (fun r ex a w => ex = .ret ∧ v_ prog fn (Q11 w0 B r) a w) huj ?_ ?_ ?_ ?_ ?_
 ·exact fun _ q => ⟨(q.k<|s3 z z z), (br w2)⟩
 ·rintro ke _ aw wx oy hk5 ⟨hSk, s4⟩ hml
  refine Wu ?_ hSk
  refine Ws<|R z (lss z z)<|Wn<|Wq<|Wc z (fun _ => ?_) (fun hc => (R_ hk5 hc).elim)
  refine Wk<|Wq<|Wb<|Ws<|Rm z<|Ra z<|Wn<|Ws<|R z (lN (vs := [sl A0 N0 C0]) P_ F_ z z fid<|(hb.e s4).row 0 1 z)<|Rm z ?_
  obtain ⟨rz, em, hmf⟩ := bdS hml
  refine E z (fc call135 z<|W_w2x (B := B) em (zt' hBw<|lt_ (lt_ h0.s s1.s) s4.s) (p1_0.g<|hd.e s4)<|ic (Nat.le_of_lt hk5)<|lt_ (a_.len p1_0) H_) ?_
  rintro _ w10 ⟨sg, rfl⟩
  refine R z (not_ z)<|Wn<|Wc z (fun hc6 => ?_) (fun hc6 => ?_)
  ·exact Ws<|Ra z<|Wn<|Wr<|rtO<|qL (som<|ifT hmf hc6).symm<|d_ hr z ⟨(bup (bup (bup h0 s1) s4) sg), z⟩
  exact Wk<|Wg<|R z (inc_ hk5 (lt_ (a_.len p1_0) H_) z z)<|Rm z<|Wl (fun _ q => ⟨(), (som<|ifF hmf hc6).symm, ⟨(q.k<|s3 z z z), (bup s4 sg)⟩⟩)
 ·rintro _ a11 w12 ⟨hSn, so⟩
  refine Wu ?_ hSn
  refine Ws<|R z (lss z z)<|Wn<|Wq<|Wc z (fun hc => (S_ hc).elim) (fun _ => ?_)
  exact We (fun a' ha' => ⟨rfl, ⟨(Sat.weaken ha' sn), so⟩⟩)
 ·rintro _ ap w13 rfl ⟨hS14, sq⟩
  have hmr := elL hmc
  revert ap
  refine Wo<|Ws<|Ra z<|Wn ?_
  obtain rfl := som hmr
  exact Wr<|d_ hr z ⟨(bup (bup h0 s1) sq), z⟩
 rintro r15 ex16 a17 w18 rfl ⟨rfl, hqs⟩
 have hmt := elR hmc
 obtain rfl := som hmt
 exact ⟨hqs, z⟩
theorem W_w2y {x1 : V_} {res : Bool} (hm : g_G n x1 = some res) (hBw : B ≤ w0.z) (p1_0 : a_ w0 B (sl A0 N0 C0) x1.versions) : j_ prog 82 [(.agg #[sl A0 N0 C0])] w0 (Q11 w0 B res) := by
 unfold g_G at hm
 refine goF func82 z z (lb z) fun fn hr => Ws<|E z (fb z) ?_
 rintro _ w1 ⟨rfl, hb⟩
 have h0 := hb.below
 have hd : Blk w1 w0.z [sl A0 N0 C0] := hb.blk
 refine Ra z<|Wn<|Wq<|Ws<|R z (fd b_y z)<|R z (l1 b_G z fid<|hd.at z) ?_
 have he := p1_0.e h0
 refine R z (lnR a_S z he)<|R z (a_c z z)<|Wn<|Wc z (fun hc5 => ?_) (fun hc5 => ?_)
 ·refine Ws<|Ra z<|Wn ?_
  obtain rfl := som (ifT hm hc5)
  exact Wr<|d_ hr z ⟨h0, z⟩
 refine Wk<|Wq<|Ws<|R z (fd b_y z)<|R z (l1 b_G z fid<|hd.at z)<|R z (lnR a_S z he)<|Rm z<|Wn ?_
 obtain ⟨u16, hul, hmc⟩ := bdS (ifF hm hc5)
 refine Wf (σ := Unit) (ρ := Bool) (fun (kf : Nat) (_ : Unit) a w => Sat 20 [(10, sl A0 N0 C0), (11, vI (x1.versions.length : Int)), (12, (vI ((kf : Nat) : Int)))] a ∧ Below w1.z w1 w) (fun (_ : Unit) a w => Sat 20 [] a ∧ Below w1.z w1 w) (fun r ex a w => ex = .ret ∧ v_ prog fn (Q11 w0 B r) a w) hul ?_ ?_ ?_ ?_ ?_
 ·exact fun _ q => ⟨(q.k<|s3 z z z), (br w1)⟩
 ·rintro kf _ a17 wg o18 hkh ⟨hSm, s2⟩ hmn
  refine Wu ?_ hSm
  refine Ws<|R z (lss z z)<|Wn<|Wq<|Wc z (fun _ => ?_) (fun hc => (R_ hkh hc).elim)
  refine Wk<|Wq<|Wb<|Ws ?_
  obtain ⟨x19, eo, hmp⟩ := bdS hmn
  refine RX z (at_ (α := g_) a_S F_ z z z (p1_0.g<|(h0.ag B).e s2) eo) ?_
  rintro _ ⟨b1a, o1b, cs1c, rfl, hq, ht, h1d⟩
  obtain ⟨a6, n7, c8, rfl, hu⟩ := d_q ht
  refine R z (lN (vs := [sl a6 n7 c8]) P_ F_ z z fid hq)<|E z (fa i_l) ?_
  rintro _ wr ⟨rfl, hi⟩
  have h3 := hi.below
  have hv : Blk wr wg.z [sl none 0 0] := hi.blk
  refine E0 (fs (cur' := [sl a6 n7 c8]) F_ z z hv z (lb z) (oA z) z) ?_
  rintro _ w1e ⟨hw, ss⟩
  have h4 := ss.one
  refine Wn<|Ws<|R z (lN (vs := [sl a6 n7 c8]) P_ F_ z z fid<|hw.row 0 1 z) ?_
  have h9 := lt_ h0.s s2.s
  have hx : ∀ k ∈ [wg.z], ¬ B k := or0 (f_ lr)  (r_ (zt' hBw h9))
  obtain ⟨r1f, ey, hmj⟩ := bdS hmp
  refine E z (fc call111 z<|W_w14 (B := B) ey (zt' hBw<|lt_ (lt_ h9 h3.s) h4.s)<|hu.g<|(h3.ag B).c h4<|k_ hx) ?_
  rintro _ w1g ⟨sk, rfl⟩
  refine R z (not_ z)<|Wn<|Wc z (fun hca => ?_) (fun hca => ?_)
  ·exact Ws<|Ra z<|Wn<|Wr<|rtO<|qL (som<|ifT hmj hca).symm<|d_ hr z ⟨(bup (bM (bup (bup h0 s2) h3) h4<|m1 h9) sk), z⟩
  exact Wk<|Wg<|R z (inc_ hkh (lt_ (a_.len p1_0) H_) z z)<|Rm z<|Wl (fun _ q => ⟨(), (som<|ifF hmj hca).symm, ⟨(q.k<|s3 z z z), (bup (bM (bup s2 h3) h4<|m1 s2.s) sk)⟩⟩)
 ·rintro _ a1h w1i ⟨hSz, s10⟩
  refine Wu ?_ hSz
  refine Ws<|R z (lss z z)<|Wn<|Wq<|Wc z (fun hc => (S_ hc).elim) (fun _ => ?_)
  exact We (fun a' ha' => ⟨rfl, ⟨(Sat.weaken ha' sn), s10⟩⟩)
 ·rintro _ a11 w1j rfl ⟨hS1k, s12⟩
  have hm13 := elL hmc
  revert a11
  refine Wo<|Ws<|Ra z<|Wn ?_
  obtain rfl := som hm13
  exact Wr<|d_ hr z ⟨(bup h0 s12), z⟩
 rintro r1l ex1m a1n w1o rfl ⟨rfl, hq14⟩
 have hm15 := elR hmc
 obtain rfl := som hm15
 exact ⟨hq14, z⟩
theorem W_w2z {x1 : List UInt8} {res : (List UInt8) × Bool} (hm : g_H n x1 = some res) (hBw : B ≤ w0.z) (p1_0 : a_ w0 B (sl A0 N0 C0) x1) : j_ prog 136 [sl A0 N0 C0] w0 (Q12 w0 B res) := by
 unfold g_H at hm
 refine goF func136 z z (lb z) fun fn hr => Ws<|Ra z<|Ra z<|Wn<|Ws<|E z (f0 (α := UInt8) D_) ?_
 rintro _ w3 ⟨a1v, n1w, c1x, rfl, s7, h1y⟩
 refine Ra z<|Wn<|Wq<|Ws<|Ra z<|Wn ?_
 obtain ⟨u4r, hu1z, hm19⟩ := bdS hm
 refine a_L (σ := (List UInt8) × Int) (ρ := (List UInt8) × Bool) (fun s a w => un2 (fun xk x4 => ∃ a5 n8 c9 S0, Sat 73 [(0, sl A0 N0 C0), (4, sl a5 n8 c9), (5, vI x4)] a ∧ Chg (· ∈ [w0.z]) w3 w ∧ b_ w S0 (sl a5 n8 c9) xk ∧ S0.Nodup ∧ (∀ k ∈ S0, k ∈ [w0.z] ∨ w3.z ≤ k) ∧ inI x4) s) (fun s a w => un2 (fun xk x4 => ∃ a5 n8 c9 S0, Sat 73 [(4, sl a5 n8 c9)] a ∧ Chg (· ∈ [w0.z]) w3 w ∧ b_ w S0 (sl a5 n8 c9) xk ∧ S0.Nodup ∧ (∀ k ∈ S0, k ∈ [w0.z] ∨ w3.z ≤ k) ∧ inI x4) s) (fun r ex a w => ex = .ret ∧ v_ prog fn (Q12 w0 B r) a w) hu1z ?_ ?_ ?_ ?_
 ·exact fun _ q => ⟨a1v, n1w, c1x, [w0.z], (q.k<|s3 z z z), (cr [w0.z] w3), h1y, a_0, (io sr), (ii z)⟩
 ·rintro ⟨xk, x4⟩ a4s wg o4t ⟨a5, n8, c9, S0, hS20, sa, hl, hn, hi, h1a⟩ hm21
  have hm1b := a_2 hm21
  refine Wu ?_ hS20
  refine Wq<|Ws<|Rm z<|Rm z ?_
  have h1c : ∀ k ∈ [w0.z], ¬ B k := or0 (f_ lr)  (r_ hBw)
  have hw := (s7.ag B).c sa<|k_ h1c
  have hx := p1_0.g hw
  refine R z (lnR h_ z hx)<|R z (lss z z)<|Wn<|Wc z (fun hcy => ?_) (fun hcy => ?_)
  ·refine Wk<|Wb<|Ws<|Rm z<|Rm z ?_
   obtain ⟨xm, e22, hm23⟩ := bdS (ifT hm1b hcy)
   refine RX z (at_ (α := UInt8) h_ z_5 z z z hx e22) ?_
   rintro _ ⟨b4u, o4v, cs4w, rfl, h24, h25, h4x⟩
   obtain rfl := u8 h25
   refine R z (l1 g_5 z fid<|h24.at0 z)<|R z (b_4 d_5 d_3 z)<|Ra z<|Wn<|Ws<|Rm z<|R z (add_ z z)<|Ra z<|Wn<|Wq<|Wb<|Wq ?_
   obtain ⟨u26, hu1d, hm1e⟩ := bdS hm23
   refine Wt (fun a w => ∃ (xz : Bool), xz = u26 ∧ Sat 73 [(0, sl A0 N0 C0), (4, sl a5 n8 c9), (5, vI<|c_ x4 1), (6, vI<|byteI xm), (33, vB xz)] a ∧ Below wg.z wg w) ?_ ?_
   ·refine Wg<|Rm z<|R z (eql z z)<|Rm z ?_
    rcases bs ((byteI xm) == 0) with hcf | hcf
    ·exact Nh z hcf<|Nh z hcf<|R z (pT z hcf z)<|Rm z<|Nh z z<|Nh z z<|Nh z z<|Nh z z<|R z (pT z z z)<|Ra z<|Wl (fun _ q => ⟨true, som<|ifT hu1d hcf, (q.k<|s5 z z z z z), (br wg)⟩)
    have hm1f := ifF hu1d hcf
    refine Rh z hcf (mv z)<|Rh z hcf (eql z z)<|R z (pF z hcf z)<|Rm z ?_
    rcases bs ((byteI xm) == 128) with hcb | hcb
    ·iterate 4 refine Nh z hcb ?_
     exact R z (pT z hcb z)<|Ra z<|Wl (fun _ q => ⟨true, som<|ifT hm1f hcb, (q.k<|s5 z z z z z), (br wg)⟩)
    exact Rh z hcb (mv z)<|Rh z hcb (mv z)<|Rh z hcb (lnR h_ z hx)<|Rh z hcb (eql z z)<|R z (pF z hcb z)<|Ra z<|Wl (fun _ q => ⟨(c_ x4 1) == (x1.length : Int), som<|ifF hm1f hcb, (q.k<|s5 z z z z z), (br wg)⟩)
   rintro a27 w1 ⟨xz, rfl, hS4y, s6⟩
   revert a27
   refine Wo<|Wc z (fun hc10 => ?_) (fun hc10 => ?_)
   ·refine Ws<|E z (f0 (α := UInt8) D_) ?_
    rintro _ w4z ⟨a28, n29, c2a, rfl, s2b, h2c⟩
    exact Ra z<|Ra z<|Wn<|Wr<|rtO<|rtO<|qL (som<|ifT hm1e hc10).symm<|b_e hr z z ⟨(bup (bup (bM s7 sa<|f_ lr) s6) s2b), a28, n29, c2a, [w1.z], z, h2c, a_0, (m1<|lt_ (lt_ s7.s sa.s) s6.s)⟩
   refine Ws<|Rm z<|R z (lss z z)<|Ra z<|Wn ?_
   obtain ⟨u2d, hu1g, hm11⟩ := bdS (ifF hm1e hc10)
   refine Wt (fun a w => ∃ (xr : List UInt8) (xo : Int), Sum.inl (xr, xo) = u2d ∧ ∃ au ns cv Sj, Sat 73 [(0, sl A0 N0 C0), (4, sl au ns cv), (5, vI xo)] a ∧ Chg (· ∈ S0) w1 w ∧ b_ w Sj (sl au ns cv) xr ∧ Sj.Nodup ∧ (∀ k ∈ Sj, k ∈ S0 ∨ w1.z ≤ k) ∧ inI xo) ?_ ?_
   ·refine Wc z (fun hc12 => ?_) (fun hc12 => ?_)
    ·have hm1h := ifT hu1g hc12
     refine Wq<|Ws<|Rm z<|Rm z ?_
     have h1i := p1_0.g<|hw.e s6
     refine R z (lnR h_ z h1i)<|Rm z<|R z (sb_ z z)<|R z (a_c z z)<|Wn<|Wc z (fun hc13 => ?_) (fun hc13 => ?_)
     ·refine Ws<|E z (f0 (α := UInt8) D_) ?_
      rintro _ w50 ⟨a2e, n2f, c2g, rfl, s2h, h2i⟩
      refine Ra z<|Ra z<|Wn ?_
      obtain rfl := som (ifT hm1h hc13)
      have hm2j := elR hm11
      exact Wr<|rtO<|rtO<|qL (som hm2j).symm<|b_e hr z z ⟨(bup (bup (bM s7 sa<|f_ lr) s6) s2h), a2e, n2f, c2g, [w1.z], z, h2i, a_0, (m1<|lt_ (lt_ s7.s sa.s) s6.s)⟩
     refine Wk<|Ws<|Rm z<|Rm z<|Rm z<|Rm z<|Rm z<|R z (add_ z z) ?_
     obtain ⟨x51, e2k, hm2l⟩ := bdS (ifF hm1h hc13)
     refine RX z (rX h_ z_5 z z h1i z z e2k) ?_
     rintro _ ⟨a52, n53, c54, rfl, h2m⟩
     obtain ⟨x2n, e2o, hm2p⟩ := bdS hm2l
     refine E z (fN (α := UInt8) D_ e2o z z (hl.e s6) hn h2m) ?_
     rintro _ w2q ⟨S1j, a2r, n2s, c2t, rfl, s2u, h2v, h2w, h2x⟩
     refine Ra z<|Wn<|Wg<|Rm z<|Rm z<|R z (add_ z z)<|Ra z<|Wl ?_
     have h2y : ∀ k ∈ S1j, k ∈ S0 ∨ w1.z ≤ k := or1 h2x (io sr) (l_ lr)
     have h2z : Chg (· ∈ S0) w1 w2q := cM (cr S0 w1) s2u (io sr)
     exact fun _ q => ⟨x2n, c_ (c_ x4 1)<|byteI xm, som hm2p, a2r, n2s, c2t, S1j, (q.k<|s3 z z z), h2z, h2v, h2w, h2y, (iA _ _)⟩
    refine Wq<|Ws<|Rm z<|R z (sb_ z z)<|Rm z<|Wn ?_
    obtain ⟨u55, hu30, hm1k⟩ := bdS (ifF hu1g hc12)
    refine Wf (σ := (List UInt8)) (ρ := (List UInt8) × Bool) (fun (k1l : Nat) (xh : List UInt8) a w => ∃ ac nd ce S2, Sat 73 [(0, sl A0 N0 C0), (4, sl ac nd ce), (5, vI<|c_ x4 1), (20, (vI<|y_ (byteI xm) 128)), (21, (vI ((k1l : Nat) : Int)))] a ∧ Chg (· ∈ S0) w1 w ∧ b_ w S2 (sl ac nd ce) xh ∧ S2.Nodup ∧ (∀ k ∈ S2, k ∈ S0 ∨ w1.z ≤ k)) (fun (xh : List UInt8) a w => ∃ ac nd ce S2, Sat 73 [(0, sl A0 N0 C0), (4, sl ac nd ce), (5, vI<|c_ x4 1)] a ∧ Chg (· ∈ S0) w1 w ∧ b_ w S2 (sl ac nd ce) xh ∧ S2.Nodup ∧ (∀ k ∈ S2, k ∈ S0 ∨ w1.z ≤ k)) (fun r ex a w => ex = .ret ∧ v_ prog fn (Q12 w0 B r) a w) hu30 ?_ ?_ ?_ ?_ ?_
    ·exact fun _ q => ⟨a5, n8, c9, S0, (q.k<|s5 z z z z z), (cr S0 w1), (hl.e s6), hn, (io sr)⟩
    ·rintro k1l xh a56 w1m o57 hk1n ⟨ac, nd, ce, S2, hS31, s14, hp, hq, ht⟩ hm32
     refine Wu ?_ hS31
     refine Ws<|R z (lss z z)<|Wn<|Wq<|Wc z (fun _ => ?_) (fun hc => (h_e hk1n hc).elim)
     refine Wk<|Wq<|Wb<|Wg<|Rm z<|Rm z<|Rm z ?_
     obtain ⟨x33, e34, hm35⟩ := bdS hm32
     have h36 : ∀ k ∈ S0, ¬ B k := or1 hi h1c (r_ (zt' hBw s7.s))
     refine RX z (at_ (α := UInt8) h_ z_5 z z z (p1_0.g<|(hw.e s6).c s14<|k_ h36) e34) ?_
     rintro _ ⟨b58, o59, cs5a, rfl, h37, h38, h5b⟩
     obtain rfl := u8 h38
     refine R z (l1 g_5 z fid<|h37.at0 z)<|E z (fS [(.tmp 27)] D_ z z z (a_p z) (lb z)<|lb z) ?_
     rintro _ w1o ⟨rfl, h15⟩
     have h16 := h15.below
     have h39 : Blk w1o w1m.z [vU (byteI x33)] := h15.blk
     have h5c := b_r h15 a_z
     obtain ⟨x3a, e3b, hm3c⟩ := bdS hm35
     refine E z (b_d (α := UInt8) D_ e3b z z (hp.e h16) hq h39 a_z an_ K_) ?_
     rintro _ w3d ⟨S1p, a3e, n3f, c3g, rfl, s3h, h3i, h3j, h3k⟩
     refine Ra z<|Wn<|Wg<|R z (inc_ hk1n (tl_<|iS _ _) z z)<|Rm z<|Wl ?_
     have h1q : ∀ k ∈ S2, k ∈ S0 ∨ w1.z ≤ k := or1 ht (io sr) (l_ lr)
     have h3l : ∀ k ∈ S1p, k ∈ S0 ∨ w1.z ≤ k := or2 h3k h1q an_ (l_ (lt_ s14.s h16.s))
     have h3m : Chg (· ∈ S0) w1 w1m := cM (cr S0 w1) s14 (io sr)
     have h3n : Chg (· ∈ S0) w1 w1o := z_ h3m h16
     have h3o : Chg (· ∈ S0) w1 w3d := cM h3n s3h h1q
     exact fun _ q => ⟨x3a, (som hm3c).symm, ⟨a3e, n3f, c3g, S1p, (q.k<|s5 z z z z z), h3o, h3i, h3j, h3l⟩⟩
    ·rintro xh a5d w3p ⟨ac, nd, ce, S2, hS3q, s3r, hp, hq, ht⟩
     refine Wu ?_ hS3q
     refine Ws<|R z (lss z z)<|Wn<|Wq<|Wc z (fun hc => (h_f hc).elim) (fun _ => ?_)
     have h3s : ∀ k ∈ S2, k ∈ S0 ∨ w1.z ≤ k := or1 ht (io sr) (l_ lr)
     have h3t : Chg (· ∈ S0) w1 w3p := cM (cr S0 w1) s3r (io sr)
     exact We (fun a' ha' => ⟨rfl, ⟨ac, nd, ce, S2, (Sat.weaken ha'<|s3 z z z), h3t, hp, hq, h3s⟩⟩)
    ·rintro xh a3u w3v rfl ⟨ac, nd, ce, S2, hS5e, s3w, hp, hq, ht⟩
     have hm3x := elL hm1k
     revert a3u
     refine Wo<|Wg<|Rm z<|R z (add_ z z)<|Ra z<|Wl ?_
     have h3y : ∀ k ∈ S2, k ∈ S0 ∨ w1.z ≤ k := or1 ht (io sr) (l_ lr)
     have h3z : Chg (· ∈ S0) w1 w3v := cM (cr S0 w1) s3w (io sr)
     exact fun _ q => ⟨xh, c_ (c_ x4 1) 1, som hm3x, ac, nd, ce, S2, (q.k<|s3 z z z), h3z, hp, hq, h3y, (iA _ _)⟩
    rintro r5f ex5g a5h w5i rfl ⟨rfl, hq40⟩
    have hm41 := elR hm1k
    obtain rfl := som hm41
    have hm42 := elR hm11
    exact ⟨(e_F<|e_F<|f_m (som hm42).symm ⟨rfl, hq40⟩), z⟩
   rintro a43 w1r ⟨xr, xo, rfl, au, ns, cv, Sj, hS5j, s17, h1s, h44, h45, h46⟩
   have hm47 := elL hm11
   have hm1t := a_2 hm47
   revert a43
   refine Wo<|Ws<|Rm z<|R z (lnR h_ z<|b_.rep h1s)<|R z (a_c z z)<|Wn<|Wc z (fun hc18 => ?_) (fun hc18 => ?_)
   ·refine Ws<|E z (f0 (α := UInt8) D_) ?_
    rintro _ w5k ⟨a48, n49, c4a, rfl, s4b, h4c⟩
    refine Ra z<|Ra z<|Wn ?_
    have h4d : ∀ k ∈ S0, w0.z ≤ k := or1 hi (f_ lr) (a_E s7.s)
    exact Wr<|rtO<|qL (som<|ifT hm1t hc18).symm<|b_e hr z z ⟨(bup (bM (bup (bM s7 sa<|f_ lr) s6) s17 h4d) s4b), a48, n49, c4a, [w1r.z], z, h4c, a_0, (m1<|lt_ (lt_ (lt_ s7.s sa.s) s6.s) s17.s)⟩
   refine a_J ?_
   have h1u : ∀ k ∈ S0, k ∈ [w0.z] ∨ w3.z ≤ k := or1 hi (io sr) (l_ lr)
   have h4e : ∀ k ∈ Sj, k ∈ [w0.z] ∨ w3.z ≤ k := or1 h45 h1u (l_ (lt_ sa.s s6.s))
   have h4f : Chg (· ∈ [w0.z]) w3 wg := cM (cr [w0.z] w3) sa (io sr)
   have h4g : Chg (· ∈ [w0.z]) w3 w1 := z_ h4f s6
   have h4h : Chg (· ∈ [w0.z]) w3 w1r := cM h4g s17 h1u
   exact fun _ q => ⟨(xr, xo), (som<|ifF hm1t hc18).symm, ⟨au, ns, cv, Sj, (q.k<|s3 z z z), h4h, h1s, h44, h4e, h46⟩⟩
  have h4i : ∀ k ∈ S0, k ∈ [w0.z] ∨ w3.z ≤ k := or1 hi (io sr) (l_ lr)
  have h4j : Chg (· ∈ [w0.z]) w3 wg := cM (cr [w0.z] w3) sa (io sr)
  exact We (fun a' ha' => a_F (som<|ifF hm1b hcy).symm ⟨a5, n8, c9, S0, (Sat.weaken ha'<|s1 z), h4j, hl, hn, h4i, h1a⟩)
 ·rintro ⟨xk, x4⟩ a4k w5l rfl ⟨a5, n8, c9, S0, hS5m, s4l, hl, hn, hi, h1a⟩
  have hm4m := elL hm19
  have hm4n := a_2 hm4m
  revert a4k
  refine Wo<|Ws<|Rm z<|Ra z<|Ra z<|Wn ?_
  obtain rfl := som hm4n
  have h4o : ∀ k ∈ S0, w0.z ≤ k := or1 hi (f_ lr) (a_E s7.s)
  exact Wr<|b_e hr z z ⟨(bM s7 s4l<|f_ lr), a5, n8, c9, S0, z, hl, hn, h4o⟩
 rintro r5n ex5o a5p w5q rfl ⟨rfl, hq4p⟩
 have hm4q := elR hm19
 obtain rfl := som hm4q
 exact ⟨hq4p, z⟩
theorem W_w15 {x1 : o_} {res : Bool} (hm : f_4 n x1 = some res) (hBw : B ≤ w0.z) (p1_0 : inI x1.kind) (p1_1 : x1.name.b.length ≤ LEN) (p1_2 : inI x1.version) (p1_3 : a_ w0 B (sl AD ND CD) x1.data) : j_ prog 89 [(.agg #[vI x1.kind, Str.v x1.name, vI x1.version, sl AD ND CD])] w0 (Q11 w0 B res) := by
 unfold f_4 at hm
 refine goF func89 z z (lb z) fun fn hr => Ws<|E z (fb z) ?_
 rintro _ wb ⟨rfl, hg⟩
 have h5 := hg.below
 have hc : Blk wb w0.z [vI x1.kind, Str.v x1.name, vI x1.version, sl AD ND CD] := hg.blk
 refine Ra z<|Wn<|Wq<|Wq ?_
 obtain ⟨uo, hup, hmh⟩ := bdS hm
 refine Wt (fun a w => ∃ (xd : Bool), xd = uo ∧ Sat 38 [(1, pt w0.z), (18, vB xd)] a ∧ Below wb.z wb w) ?_ ?_
 ·refine Wg<|R z (fd c_v z)<|R z (l1 g_9 z fid<|hc.at z) ?_
  obtain ⟨rq, er, hmi⟩ := bdS hup
  refine E z (fc call116 z<|i_x (B := B) er (zt' hBw h5.s) p1_1) ?_
  rintro _ wz ⟨s6, rfl⟩
  refine R z (not_ z)<|Rm z ?_
  rcases bs (!rq) with hc1 | hc1
  ·iterate 4 refine Nh z hc1 ?_
   exact R z (pT z hc1 z)<|Rm z<|Nh z z<|Nh z z<|Nh z z<|Nh z z<|R z (pT z z z)<|Wl (fun _ q => ⟨true, som<|ifT hmi hc1, (q.k<|s2 z z), s6⟩)
  refine Rh z hc1 (fd b_O z) ?_
  have hj := hc.e s6
  refine Rh z hc1 (l1 g_3 z fid<|hj.at z) ?_
  obtain ⟨rs, et, hmk⟩ := bdS (ifF hmi hc1)
  refine Eg z z hc1 z (fc call117 z<|c_z (B := B) et (zt' hBw<|lt_ h5.s s6.s) p1_2 (ii z)<|ii z) ?_
  rintro _ w10 ⟨s8, rfl⟩
  refine Rh z hc1 (not_ z)<|R z (pF z hc1 z)<|Rm z ?_
  rcases bs (!rs) with hc2 | hc2
  ·iterate 4 refine Nh z hc2 ?_
   exact R z (pT z hc2 z)<|Wl (fun _ q => ⟨true, som<|ifT hmk hc2, (q.k<|s2 z z), (bup s6 s8)⟩)
  exact Rh z hc2 (fd c_w z)<|Rh z hc2 (l1 J_ z fid<|(hj.e s8).at z)<|Rh z hc2 (lnR h_ z<|p1_3.g<|((h5.ag B).e s6).e s8)<|Rh z hc2 (a_c z z)<|R z (pF z hc2 z)<|Wl (fun _ q => ⟨decide (400 < (x1.data.length : Int)), som<|ifF hmk hc2, (q.k<|s2 z z), (bup s6 s8)⟩)
 rintro au w7 ⟨xd, rfl, hS11, s9⟩
 revert au
 refine Wo<|Wc z (fun hce => ?_) (fun hce => ?_)
 ·refine Ws<|Ra z<|Wn ?_
  obtain rfl := som (ifT hmh hce)
  exact Wr<|d_ hr z ⟨(bup h5 s9), z⟩
 refine Wk<|Wq ?_
 obtain ⟨uv, hul, hmw⟩ := bdS (ifF hmh hce)
 refine Wt (fun a w => ∃ (xf : Bool), xf = uv ∧ Sat 38 [(2, vB xf)] a ∧ Below w7.z w7 w) ?_ ?_
 ·refine Wg<|R z (fd b_N z) ?_
  have ha := hc.e s9
  refine R z (l1 g_3 z fid<|ha.at z)<|R z (eql z z)<|Rm z ?_
  rcases bs (x1.kind == 1) with hc0 | hc0
  ·iterate 4 refine Nh z hc0 ?_
   exact Nv z<|Nv z<|Nv z<|Nh z hc0<|Nh z hc0<|Nv z<|Nv z<|Nv z<|Nv z<|Nh z hc0<|R z (pT z hc0 z)<|Ra z<|Wl (fun _ q => ⟨true, som<|ifT hul hc0, (q.k<|s1 z), (br w7)⟩)
  have hmm := ifF hul hc0
  refine Rh z hc0 (fd b_N z)<|Rh z hc0 (l1 g_3 z fid<|ha.at z)<|Rh z hc0 (eql z z)<|Rh z hc0 (mv z) ?_
  rcases bs (x1.kind == 2) with hc4 | hc4
  ·have hmn := ifT hmm hc4
   refine Rh z hc4 (fd b_O z)<|Rh z hc4 (l1 g_3 z fid<|ha.at z)<|Rh z hc4 (eql z z)<|Rh z hc0 (pT z hc4 z)<|Rh z hc0 (mv z) ?_
   rcases bs (x1.version == 0) with hc3 | hc3
   ·exact Rh z hc3 (fd c_w z)<|Rh z hc3 (l1 J_ z fid<|ha.at z)<|Rh z hc3 (lnR h_ z<|p1_3.g<|(h5.ag B).e s9)<|Rh z hc3 (eql z z)<|Rh z hc0 (pT z hc3 z)<|R z (pF z hc0 z)<|Ra z<|Wl (fun _ q => ⟨(x1.data.length : Int) == 0, som<|ifT hmn hc3, (q.k<|s1 z), (br w7)⟩)
   iterate 4 refine Nh z hc3 ?_
   exact Rh z hc0 (pF z hc3 z)<|R z (pF z hc0 z)<|Ra z<|Wl (fun _ q => ⟨false, som<|ifF hmn hc3, (q.k<|s1 z), (br w7)⟩)
  iterate 3 refine Nh z hc4 ?_
  exact Rh z hc0 (pF z hc4 z)<|Rh z hc0 (mv z)<|Nh z z<|Nh z z<|Nh z z<|Nh z z<|Rh z hc0 (pF z z z)<|R z (pF z hc0 z)<|Ra z<|Wl (fun _ q => ⟨false, som<|ifF hmm hc4, (q.k<|s1 z), (br w7)⟩)
 rintro ax w12 ⟨xf, rfl, hS13, sy⟩
 revert ax
 refine Wo ?_
 obtain rfl := som hmw
 exact Wr<|d_ hr z ⟨(bup (bup h5 s9) sy), z⟩
theorem W_w16 {x1 : List UInt8} {x2 : Int} {res : Bool} (hm : e_h x1 x2 = some res) (hBw : B ≤ w0.z) (p1_0 : a_ w0 B (sl A0 N0 C0) x1) (p2_0 : inI x2) : j_ prog 118 [sl A0 N0 C0, vI x2] w0 (Q11 w0 B res) := by
 unfold e_h at hm
 refine goF func118 z z (lb z) fun fn hr => Ws<|Ra z<|Wn<|Wq ?_
 obtain ⟨u7, hu5, hm8⟩ := bdS hm
 refine Wt (fun a w => ∃ (x4 : Bool), x4 = u7 ∧ Sat 34 [(4, vB x4)] a ∧ Below w0.z w0 w) ?_ ?_
 ·refine Wd (X := noX) 0 (.rd 0 (.rd 1 (.rd 2 (.rd 3 (.rd 4 (.rd 5 (.rd 6 (.rd 7 (.rd 8 (.rd 9 (.rd 10 (.rd 11 (.rd 12 (.rd 13 (.rd 14 (.rd 15 (.rd 16 (.rd 17 (.rd 18 (.rd 19 (.rd 20 (.rd 21 (.rd 22 (.rd 23 (.rd 24 (.rd 25 (.rd 26 (.rd 27 (.rd 28 (.rd 29 .done)))))))))))))))))))))))))))))) mo (by kernel_rfl) fun wu s3 _ => dR z z (mv z)<|dR z z (add_ z z)<|dR z z (mv z) ?_
  have h2 := p1_0.e s3
  refine dR z z (lnR h_ z h2)<|dR z z (lss z z)<|dR z z (mv z) ?_
  rcases bs (decide ((c_ x2 2) < (x1.length : Int))) with hc0 | hc0
  ·refine dRg z z z hc0 z (mv z)<|dRg z z z hc0 z (mv z) ?_
   obtain ⟨x9, ea, hmb⟩ := bdS (ifT hu5 hc0)
   refine a_K z z z hc0 z (at_ (α := UInt8) h_ z_5 z z z h2 ea) ?_
   rintro _ ⟨bv, ow, csx, rfl, hc, hd, hy⟩
   obtain rfl := u8 hd
   refine dRg z z z hc0 z (l1 g_5 z fid<|hc.at0 z)<|dRg z z z hc0 z (mv z)<|dRg z z z hc0 z (mv z)<|dRg z z z hc0 z (add_ z z) ?_
   obtain ⟨xe, ef, hm6⟩ := bdS hmb
   refine a_K z z z hc0 z (at_ (α := UInt8) h_ z_5 z z z h2 ef) ?_
   rintro _ ⟨bz, o10, cs11, rfl, hg, hh, h12⟩
   obtain rfl := u8 hh
   refine dRg z z z hc0 z (l1 g_5 z fid<|hg.at0 z)<|dRg z z z hc0 z (eql z z)<|dR z z (pT z hc0 z)<|dR z z (mv z) ?_
   rcases bs ((byteI x9) == (byteI xe)) with hc1 | hc1
   ·refine dRg z z z hc1 z (mv z)<|dRg z z z hc1 z (mv z) ?_
    obtain ⟨xi, ej, hmk⟩ := bdS (ifT hm6 hc1)
    refine a_K z z z hc1 z (at_ (α := UInt8) h_ z_5 z z z h2 ej) ?_
    rintro _ ⟨b13, o14, cs15, rfl, hl, hn, h16⟩
    obtain rfl := u8 hn
    refine dRg z z z hc1 z (l1 g_5 z fid<|hl.at0 z)<|dRg z z z hc1 z (mv z)<|dRg z z z hc1 z (mv z)<|dRg z z z hc1 z (add_ z z) ?_
    obtain ⟨xm, eo, hmp⟩ := bdS hmk
    refine a_K z z z hc1 z (at_ (α := UInt8) h_ z_5 z z z h2 eo) ?_
    rintro _ ⟨b17, o18, cs19, rfl, hq, ht, h1a⟩
    obtain rfl := u8 ht
    exact dRg z z z hc1 z (l1 g_5 z fid<|hq.at0 z)<|dRg z z z hc1 z (eql z z)<|dR z z (pT z hc1 z)<|dR z z (asg z)<|pD (fun _ q => ⟨(byteI xi) == (byteI xm), som hmp, (q.k<|s1 z), s3⟩)
   iterate 10 refine dRn z z z hc1 z ?_
   exact dR z z (pF z hc1 z)<|dR z z (asg z)<|pD (fun _ q => ⟨false, som<|ifF hm6 hc1, (q.k<|s1 z), s3⟩)
  iterate 10 refine dRn z z z hc0 z ?_
  refine dR z z (pF z hc0 z)<|dR z z (mv z) ?_
  iterate 10 refine dRn z z z z z ?_
  exact dR z z (pF z z z)<|dR z z (asg z)<|pD (fun _ q => ⟨false, som<|ifF hu5 hc0, (q.k<|s1 z), s3⟩)
 rintro ar w1b ⟨x4, rfl, hS1c, ss⟩
 revert ar
 refine Wo ?_
 obtain rfl := som hm8
 exact Wr<|d_ hr z ⟨ss, z⟩
theorem W_w30 {x1 : List UInt8} {x2 : Int} {res : Int} (hm : g_I n x1 x2 = some res) (hBw : B ≤ w0.z) (p1_0 : a_ w0 B (sl A0 N0 C0) x1) (p2_0 : inI x2) : j_ prog 120 [sl A0 N0 C0, vI x2] w0 (Q0 w0 B res) := by
 unfold g_I at hm
 refine goF func120 z z (lb z) fun fn hr => Ws<|Ra z<|Wn<|Wq<|Wq ?_
 obtain ⟨uk, hud, hme⟩ := bdS hm
 refine Wt (fun a w => ∃ (x4 : Bool), x4 = uk ∧ Sat 36 [(0, sl A0 N0 C0), (1, vI x2), (13, vB x4)] a ∧ Below w0.z w0 w) ?_ ?_
 ·refine Wg<|Rm z<|R z (lss z z)<|Rm z ?_
  rcases bs (decide (x2 < 0)) with hc1 | hc1
  ·iterate 4 refine Nh z hc1 ?_
   exact R z (pT z hc1 z)<|Wl (fun _ q => ⟨true, som<|ifT hud hc1, (q.k<|s3 z z z), (br w0)⟩)
  exact Rh z hc1 (mv z)<|Rh z hc1 (mv z)<|Rh z hc1 (lnR h_ z p1_0)<|Rh z hc1 (a_M z z)<|R z (pF z hc1 z)<|Wl (fun _ q => ⟨decide ((x1.length : Int) ≤ x2), som<|ifF hud hc1, (q.k<|s3 z z z), (br w0)⟩)
 rintro al w2 ⟨x4, rfl, hS16, s5⟩
 revert al
 refine Wo<|Wc z (fun hc6 => ?_) (fun hc6 => ?_)
 ·refine Ws<|Ra z<|Wn ?_
  obtain rfl := som (ifT hme hc6)
  exact Wr<|d_ hr z ⟨s5, z, (ii z)⟩
 refine Wk<|Ws<|Ra z<|Wn<|Wq ?_
 obtain ⟨u17, hum, hmf⟩ := bdS (ifF hme hc6)
 refine a_L (σ := Int) (ρ := Int) (fun (x3 : Int) a w => Sat 36 [(0, sl A0 N0 C0), (1, vI x2), (5, vI x3)] a ∧ Below w2.z w2 w ∧ inI x3) (fun (x3 : Int) a w => Sat 36 [(5, vI x3)] a ∧ Below w2.z w2 w ∧ inI x3) (fun r ex a w => ex = .ret ∧ v_ prog fn (Q0 w0 B r) a w) hum ?_ ?_ ?_ ?_
 ·exact fun _ q => ⟨(q.k<|s3 z z z), (br w2), (ii z)⟩
 ·rintro x3 a18 wg o19 ⟨hSn, s7, h8⟩ hmo
  refine Wu ?_ hSn
  refine Wq<|Wq ?_
  obtain ⟨up, huh, hmi⟩ := bdS hmo
  refine Wt (fun a w => ∃ (x9 : Bool), x9 = up ∧ Sat 36 [(0, sl A0 N0 C0), (1, vI x2), (5, vI x3), (32, vB x9)] a ∧ Below wg.z wg w) ?_ ?_
  ·refine Wd (X := noX) 0 (.rd 0 (.rd 1 (.rd 2 (.rd 3 (.rd 4 (.rd 5 (.rd 6 (.rd 7 (.rd 8 (.rd 9 (.rd 10 (.rd 11 (.rd 12 (.rd 13 (.rd 14 (.rd 15 (.rd 16 (.rd 17 (.rd 18 .done))))))))))))))))))) mo (by kernel_rfl) fun w1a sa _ => dR z z (mv z)<|dR z z (mv z)<|dR z z (add_ z z)<|dR z z (mv z) ?_
   have hb := p1_0.g<|((s5.ag B).e s7).e sa
   refine dR z z (lnR h_ z hb)<|dR z z (lss z z)<|dR z z (mv z) ?_
   rcases bs (decide ((c_ x2 x3) < (x1.length : Int))) with hc0 | hc0
   ·iterate 3 refine dRg z z z hc0 z (mv z) ?_
    refine dRg z z z hc0 z (add_ z z) ?_
    obtain ⟨xq, er, hms⟩ := bdS (ifT huh hc0)
    refine a_K z z z hc0 z (at_ (α := UInt8) h_ z_5 z z z hb er) ?_
    rintro _ ⟨b1b, o1c, cs1d, rfl, ht, hu, h1e⟩
    obtain rfl := u8 hu
    refine dRg z z z hc0 z (l1 g_5 z fid<|ht.at0 z)<|dRg z z z hc0 z (mv z)<|dRg z z z hc0 z (mv z) ?_
    obtain ⟨xv, ew, hmx⟩ := bdS hms
    refine a_K z z z hc0 z (at_ (α := UInt8) h_ z_5 z z z hb ew) ?_
    rintro _ ⟨b1f, o1g, cs1h, rfl, hy, hz, h1i⟩
    obtain rfl := u8 hz
    exact dRg z z z hc0 z (l1 g_5 z fid<|hy.at0 z)<|dRg z z z hc0 z (eql z z)<|dR z z (pT z hc0 z)<|pD (fun _ q => ⟨(byteI xq) == (byteI xv), som hmx, (q.k<|s4 z z z z), sa⟩)
   iterate 11 refine dRn z z z hc0 z ?_
   exact dR z z (pF z hc0 z)<|pD (fun _ q => ⟨false, som<|ifF huh hc0, (q.k<|s4 z z z z), sa⟩)
  rintro a10 w1j ⟨x9, rfl, hS1k, sj⟩
  revert a10
  refine Wo<|Wc z (fun hcc => ?_) (fun hcc => ?_)
  ·exact Wk<|Wb<|Wg<|Rm z<|R z (add_ z z)<|Ra z<|Wl (fun _ q => ⟨c_ x3 1, (som<|ifT hmi hcc).symm, ⟨(q.k<|s3 z z z), (bup s7 sj), (iA _ _)⟩⟩)
  exact We (fun a' ha' => a_F (som<|ifF hmi hcc).symm ⟨(Sat.weaken ha'<|s1 z), (bup s7 sj), h8⟩)
 ·rintro x3 a11 w1l rfl ⟨hS1m, s12, h8⟩
  have hm13 := elL hmf
  revert a11
  refine Wo<|Ws<|Rm z<|Ra z<|Wn ?_
  obtain rfl := som hm13
  exact Wr<|d_ hr z ⟨(bup s5 s12), z, h8⟩
 rintro r1n ex1o a1p w1q rfl ⟨rfl, hq14⟩
 have hm15 := elR hmf
 obtain rfl := som hm15
 exact ⟨hq14, z⟩
theorem W_w31 {x1 : Int} {x2 : Int} {res : Bool} (hm : g_J x1 x2 = some res) (hBw : B ≤ w0.z) (p1_0 : inI x1) (p2_0 : inI x2) : j_ prog 141 [vI x1, vI x2] w0 (Q11 w0 B res) := by
 unfold g_J at hm
 refine goF func141 z z (lb z) fun fn hr => Ws<|Ra z<|Wn<|Ws<|Rm z<|Rm z<|R z (lss z z)<|Ra z<|Wn ?_
 obtain rfl := som hm
 exact Wr<|d_ hr z ⟨(br w0), z⟩
theorem W_w32 {x2 : Int} {x3 : List Int} {res : Int} (hm : i_5 x2 x3 = some res) (hBw : B ≤ w0.z) (p2_0 : inI x2) (p3_0 : a_ w0 B (sl A7 N7 C7) x3) : j_ prog 140 [(.func (.func 141) #[] #[]), vI x2, sl A7 N7 C7] w0 (Q0 w0 B res) := by
 unfold i_5 at hm
 refine goF func140 z z (lb z) fun fn hr => Ws<|Ra z<|Wn<|Wq<|Ws<|Rm z<|R z (lnR B_ z p3_0)<|Rm z<|Wn ?_
 obtain ⟨uy, hub, hm7⟩ := bdS hm
 refine Wf (σ := Int) (ρ := Int) (fun (k3 : Nat) (x0 : Int) a w => Sat 22 [(0, (.func (.func 141) #[] #[])), (1, vI x0), (9, sl A7 N7 C7), (10, vI (x3.length : Int)), (11, (vI ((k3 : Nat) : Int)))] a ∧ Below w0.z w0 w ∧ inI x0) (fun (x0 : Int) a w => Sat 22 [(1, vI x0)] a ∧ Below w0.z w0 w ∧ inI x0) (fun r ex a w => ex = .ret ∧ v_ prog fn (Q0 w0 B r) a w) hub ?_ ?_ ?_ ?_ ?_
 ·exact fun _ q => ⟨(q.k<|s5 z z z z z), (br w0), p2_0⟩
 ·rintro k3 x0 az w10 o11 hk8 ⟨hSc, s6, h1⟩ hmd
  refine Wu ?_ hSc
  refine Ws<|R z (lss z z)<|Wn<|Wq<|Wc z (fun _ => ?_) (fun hc => (R_ hk8 hc).elim)
  refine Wk<|Wq<|Wb<|Ws ?_
  obtain ⟨xe, ef, hmg⟩ := bdS hmd
  refine RX z (at_ (α := Int) B_ z_3 z z z (p3_0.e s6) ef) ?_
  rintro _ ⟨b12, o13, cs14, rfl, hh, hi, h15⟩
  obtain ⟨rfl, h9⟩ := a_7 hi
  refine R z (l1 g_3 z fid<|hh.at0 z)<|Ra z<|Wn<|Ws<|Rm z<|Rm z<|Rm z ?_
  obtain ⟨r16, ej, hmk⟩ := bdS hmg
  refine E z (h_9 call141 z z<|W_w31 (B := B) ej (zt' hBw s6.s) h9 h1) ?_
  rintro _ w2 ⟨sm, rfl⟩
  refine Wn ?_
  obtain ⟨ul, hua, hmn⟩ := bdS hmk
  refine Wt (fun a w => ∃ (x4 : Int), x4 = ul ∧ Sat 22 [(0, (.func (.func 141) #[] #[])), (1, vI x4), (9, sl A7 N7 C7), (10, vI (x3.length : Int)), (11, (vI ((k3 : Nat) : Int)))] a ∧ Below w2.z w2 w ∧ inI x4) ?_ ?_
  ·refine Wc z (fun hc5 => ?_) (fun hc5 => ?_)
   ·exact Wg<|Rm z<|Ra z<|Wl (fun _ q => ⟨xe, som<|ifT hua hc5, (q.k<|s5 z z z z z), (br w2), h9⟩)
   exact a_J (fun _ q => ⟨x0, som<|ifF hua hc5, (q.k<|s5 z z z z z), (br w2), h1⟩)
  rintro ao w17 ⟨x4, rfl, hS18, sp, hq⟩
  revert ao
  exact Wo<|Wg<|R z (inc_ hk8 (lt_ (a_.len p3_0) H_) z z)<|Rm z<|Wl (fun _ q => ⟨x4, (som hmn).symm, ⟨(q.k<|s5 z z z z z), (bup (bup s6 sm) sp), hq⟩⟩)
 ·rintro x0 a19 w1a ⟨hSr, ss, h1⟩
  refine Wu ?_ hSr
  refine Ws<|R z (lss z z)<|Wn<|Wq<|Wc z (fun hc => (S_ hc).elim) (fun _ => ?_)
  exact We (fun a' ha' => ⟨rfl, ⟨(Sat.weaken ha'<|s1 z), ss, h1⟩⟩)
 ·rintro x0 au w1b rfl ⟨hS1c, st, h1⟩
  have hmv := elL hm7
  revert au
  refine Wo<|Ws<|Rm z<|Ra z<|Wn ?_
  obtain rfl := som hmv
  exact Wr<|d_ hr z ⟨st, z, h1⟩
 rintro r1d ex1e a1f w1g rfl ⟨rfl, hqw⟩
 have hmx := elR hm7
 obtain rfl := som hmx
 exact ⟨hqw, z⟩
theorem W_w33 {x1 : Int} {x2 : Int} {res : Int} (hm : g_K x1 x2 = some res) (hBw : B ≤ w0.z) (p1_0 : inI x1) (p2_0 : inI x2) : j_ prog 119 [vI x1, vI x2] w0 (Q0 w0 B res) := by
 unfold g_K at hm
 refine goF func119 z z (lb z) fun fn hr => Ws<|Ra z<|Wn<|Ws<|Rm z<|Rm z<|E z (fS [(.tmp 6)] i_i z z z (a_p z) (lb z)<|lb z) ?_
 rintro _ w1 ⟨rfl, h0⟩
 have h6 : Blk w1 w0.z [vI x2] := h0.blk
 obtain ⟨r7, e2, hm3⟩ := bdS hm
 refine E z (fc call140 z<|W_w32 (B := w1.z) e2 zr p1_0<|b_.rep<|b_r h0<|c_C p2_0) ?_
 rintro _ w8 ⟨s4, rfl, h5⟩
 refine Ra z<|Wn ?_
 obtain rfl := som hm3
 exact Wr<|d_ hr z ⟨(bup h0.below s4), z, h5⟩
theorem W_w34 {x1 : List UInt8} {res : (List UInt8)} (hm : g_L n x1 = some res) (hBw : B ≤ w0.z) (p1_0 : a_ w0 B (sl A0 N0 C0) x1) : j_ prog 90 [sl A0 N0 C0] w0 (Q1 w0 B res) := by
 unfold g_L at hm
 refine goF func90 z z (lb z) fun fn hr => Ws<|Ra z<|Wn<|Ws<|E z (f0 (α := UInt8) D_) ?_
 rintro _ w2 ⟨a1v, n1w, c1x, rfl, sd, h1y⟩
 refine Ra z<|Wn<|Wq<|Ws<|Ra z<|Wn ?_
 obtain ⟨u4q, hu1z, hm19⟩ := bdS hm
 refine a_L (σ := (List UInt8) × Int) (ρ := (List UInt8)) (fun s a w => un2 (fun xe x4 => ∃ a5 n6 c7 S0, Sat 67 [(0, sl A0 N0 C0), (3, sl a5 n6 c7), (4, vI x4)] a ∧ Chg (· ∈ [w0.z]) w2 w ∧ b_ w S0 (sl a5 n6 c7) xe ∧ S0.Nodup ∧ (∀ k ∈ S0, k ∈ [w0.z] ∨ w2.z ≤ k) ∧ inI x4) s) (fun s a w => un2 (fun xe x4 => ∃ a5 n6 c7 S0, Sat 67 [(3, sl a5 n6 c7)] a ∧ Chg (· ∈ [w0.z]) w2 w ∧ b_ w S0 (sl a5 n6 c7) xe ∧ S0.Nodup ∧ (∀ k ∈ S0, k ∈ [w0.z] ∨ w2.z ≤ k) ∧ inI x4) s) (fun r ex a w => ex = .ret ∧ v_ prog fn (Q1 w0 B r) a w) hu1z ?_ ?_ ?_ ?_
 ·exact fun _ q => ⟨a1v, n1w, c1x, [w0.z], (q.k<|s3 z z z), (cr [w0.z] w2), h1y, a_0, (io sr), (ii z)⟩
 ·rintro ⟨xe, x4⟩ a4r w1 o4s ⟨a5, n6, c7, S0, hS20, sf, hg, hh, hi, hl⟩ hm21
  have hm1a := a_2 hm21
  refine Wu ?_ hS20
  refine Wq<|Ws<|Rm z<|Rm z ?_
  have h1b : ∀ k ∈ [w0.z], ¬ B k := or0 (f_ lr)  (r_ hBw)
  have hn := (sd.ag B).c sf<|k_ h1b
  have h1c := p1_0.g hn
  refine R z (lnR h_ z h1c)<|R z (lss z z)<|Wn<|Wc z (fun hcz => ?_) (fun hcz => ?_)
  ·refine Wk ?_
   obtain ⟨u22, hu23, hm1d⟩ := bdS (ifT hm1a hcz)
   refine Wt (fun a w => ∃ (xm : List UInt8) (xj : Int), Sum.inl (xm, xj) = u22 ∧ ∃ ao np cq Sc, Sat 67 [(0, sl A0 N0 C0), (3, sl ao np cq), (4, vI xj)] a ∧ Chg (· ∈ S0) w1 w ∧ b_ w Sc (sl ao np cq) xm ∧ Sc.Nodup ∧ (∀ k ∈ Sc, k ∈ S0 ∨ w1.z ≤ k) ∧ inI xj) ?_ ?_
   ·refine Wb<|Wq<|Ws<|Rm z<|Rm z ?_
    have h10 := lt_ sd.s sf.s
    obtain ⟨r4t, e24, hm1e⟩ := bdS hu23
    refine E z (fc call118 z<|W_w16 (B := B) e24 (zt' hBw h10) h1c hl) ?_
    rintro _ wb ⟨s8, rfl⟩
    refine Wn<|Wc z (fun hc11 => ?_) (fun hc11 => ?_)
    ·refine Ws<|Rm z<|Rm z ?_
     have h1f := hn.e s8
     have h1g := lt_ h10 s8.s
     obtain ⟨r4u, e25, hm26⟩ := bdS (ifT hm1e hc11)
     refine E z (fc call120 z<|W_w30 (B := B) e25 (zt' hBw h1g) (p1_0.g h1f) hl) ?_
     rintro _ w27 ⟨sk, rfl, h28⟩
     obtain ⟨rr, e29, hm2a⟩ := bdS hm26
     refine E z (fc call119 z<|W_w33 (B := B) e29 (zt' hBw<|lt_ h1g sk.s) h28<|ii z) ?_
     rintro _ ws ⟨st, rfl, h4v⟩
     refine Ra z<|Wn<|Ws<|Rm z<|Rm z<|R z (add_ z z)<|R z (b_3 d_3 d_5 z)<|Rm z<|Rm z ?_
     obtain ⟨x12, e2b, hm2c⟩ := bdS hm2a
     refine RX z (at_ (α := UInt8) h_ z_5 z z z (p1_0.g<|(h1f.e sk).e st) e2b) ?_
     rintro _ ⟨b4w, o4x, cs4y, rfl, h2d, h2e, h4z⟩
     obtain rfl := u8 h2e
     refine R z (l1 g_5 z fid<|h2d.at0 z)<|E z (fS [(.tmp 22), (.tmp 26)] D_ z z z (a_p z) (lb z)<|lb z) ?_
     rintro _ w13 ⟨rfl, h1h⟩
     have h14 := h1h.below
     have h2f : Blk w13 ws.z [(vU (byteI (mkB (c_ 128 rr)))), vU (byteI x12)] := h1h.blk
     have h2g : b_ w13 [ws.z] (sl (some ⟨ws.z, 0, none⟩) 2 2) [mkB (c_ 128 rr), x12] := f_e (l := [mkB (c_ 128 rr), x12]) h2f z
     obtain ⟨x2h, e2i, hm2j⟩ := bdS hm2c
     refine E z (fN (α := UInt8) D_ e2i z z ((((hg.e s8).e sk).e st).e h14) hh<|b_.rep h2g) ?_
     rintro _ w2k ⟨S1i, a2l, n2m, c2n, rfl, s2o, h2p, h2q, h2r⟩
     refine Ra z<|Wn<|Ws<|Rm z<|Rm z<|R z (add_ z z)<|Ra z<|Wn<|We<|exH ?_
     have h2s : ∀ k ∈ S1i, k ∈ S0 ∨ w1.z ≤ k := or1 h2r (io sr) (l_ (lt_ (lt_ (lt_ s8.s sk.s) st.s) h14.s))
     have h2t : Chg (· ∈ S0) w1 wb := z_ (cr S0 w1) s8
     have h2u : Chg (· ∈ S0) w1 w27 := z_ h2t sk
     have h2v : Chg (· ∈ S0) w1 ws := z_ h2u st
     have h2w : Chg (· ∈ S0) w1 w13 := z_ h2v h14
     have h2x : Chg (· ∈ S0) w1 w2k := cM h2w s2o (io sr)
     exact fun _ q => ⟨x2h, c_ x4 rr, som hm2j, a2l, n2m, c2n, S1i, (q.k<|s3 z z z), h2x, h2p, h2q, h2s, (iA _ _)⟩
    refine Wk<|Ws<|Rm z<|R z (add_ z z)<|Ra z<|Wn<|Wq ?_
    obtain ⟨u50, hu2y, hm1j⟩ := bdS (ifF hm1e hc11)
    refine a_L (σ := Int) (ρ := (List UInt8)) (fun (x3 : Int) a w => Sat 67 [(0, sl A0 N0 C0), (3, sl a5 n6 c7), (4, vI x4), (6, vI x3)] a ∧ Below wb.z wb w ∧ inI x3) (fun (x3 : Int) a w => Sat 67 [(0, sl A0 N0 C0), (3, sl a5 n6 c7), (4, vI x4), (6, vI x3)] a ∧ Below wb.z wb w ∧ inI x3) (fun r ex a w => ex = .ret ∧ v_ prog fn (Q1 w0 B r) a w) hu2y ?_ ?_ ?_ ?_
    ·exact fun _ q => ⟨(q.k<|s4 z z z z), (br wb), (iA _ _)⟩
    ·rintro x3 a51 wu o52 ⟨hS2z, sv, hw⟩ hm30
     refine Wu ?_ hS2z
     refine Wq<|Wq ?_
     obtain ⟨u31, hu1k, hm1l⟩ := bdS hm30
     refine Wt (fun a w => ∃ (x15 : Bool), x15 = u31 ∧ Sat 67 [(0, sl A0 N0 C0), (3, sl a5 n6 c7), (4, vI x4), (6, vI x3), (49, vB x15)] a ∧ Below wu.z wu w) ?_ ?_
     ·refine Wg<|Rm z<|Rm z ?_
      have h1m := p1_0.g<|(hn.e s8).e sv
      refine R z (lnR h_ z h1m)<|R z (lss z z)<|Rm z ?_
      rcases bs (decide (x3 < (x1.length : Int))) with hc9 | hc9
      ·have hm1n := ifT hu1k hc9
       refine Rh z hc9 (mv z)<|Rh z hc9 (mv z)<|Rh z hc9 (sb_ z z)<|Rh z hc9 (lss z z)<|R z (pT z hc9 z)<|Rm z ?_
       rcases bs (decide ((y_ x3 x4) < 127)) with hca | hca
       ·refine Rh z hca (mv z)<|Rh z hca (mv z) ?_
        obtain ⟨r32, e33, hm34⟩ := bdS (ifT hm1n hca)
        refine Eg z z hca z (fc call118 z<|W_w16 (B := B) e33 (zt' hBw<|lt_ (lt_ h10 s8.s) sv.s) h1m hw) ?_
        rintro _ w53 ⟨s35, rfl⟩
        exact Rh z hca (not_ z)<|R z (pT z hca z)<|Wl (fun _ q => ⟨!r32, som hm34, (q.k<|s5 z z z z z), s35⟩)
       iterate 4 refine Nh z hca ?_
       exact R z (pF z hca z)<|Wl (fun _ q => ⟨false, som<|ifF hm1n hca, (q.k<|s5 z z z z z), (br wu)⟩)
      iterate 4 refine Nh z hc9 ?_
      exact R z (pF z hc9 z)<|Rm z<|Nh z z<|Nh z z<|Nh z z<|Nh z z<|R z (pF z z z)<|Wl (fun _ q => ⟨false, som<|ifF hu1k hc9, (q.k<|s5 z z z z z), (br wu)⟩)
     rintro a36 w54 ⟨x15, rfl, hS55, s1o⟩
     revert a36
     refine Wo<|Wc z (fun hc16 => ?_) (fun hc16 => ?_)
     ·exact Wk<|Wb<|Wg<|Rm z<|R z (add_ z z)<|Ra z<|Wl (fun _ q => ⟨c_ x3 1, (som<|ifT hm1l hc16).symm, ⟨(q.k<|s4 z z z z), (bup sv s1o), (iA _ _)⟩⟩)
     exact We (fun a' ha' => a_F (som<|ifF hm1l hc16).symm ⟨(Sat.weaken ha'<|s4 z z z z), (bup sv s1o), hw⟩)
    ·rintro x3 a37 w1p rfl ⟨hS56, sx, hw⟩
     have hm38 := elL hm1j
     revert a37
     refine Wo<|Ws<|Rm z<|Rm z<|Rm z<|R z (sb_ z z)<|R z (b_3 d_3 d_5 z)<|E z (fS [(.tmp 56)] D_ z z z (a_p z) (lb z)<|lb z) ?_
     rintro _ w1q ⟨rfl, h17⟩
     have hy := h17.below
     have h39 : Blk w1q w1p.z [(vU (byteI (mkB (y_ x3 x4))))] := h17.blk
     have h57 := b_r h17 a_z
     obtain ⟨x58, e3a, hm3b⟩ := bdS hm38
     refine E z (b_d (α := UInt8) D_ e3a z z (((hg.e s8).e sx).e hy) hh h39 a_z an_ K_) ?_
     rintro _ w3c ⟨S3d, a59, n5a, c5b, rfl, s18, h3e, h3f, h3g⟩
     refine Ra z<|Wn<|Ws<|Rm z<|Rm z<|Rm z<|Rm z ?_
     obtain ⟨x5c, e3h, hm3i⟩ := bdS hm3b
     have h3j : ∀ k ∈ S0, ¬ B k := or1 hi h1b (r_ (zt' hBw sd.s))
     refine RX z (rX h_ z_5 z z (p1_0.g<|(((hn.e s8).e sx).e hy).c s18<|k_ h3j) z z e3h) ?_
     rintro _ ⟨a5d, n5e, c5f, rfl, h3k⟩
     obtain ⟨x3l, e3m, hm3n⟩ := bdS hm3i
     refine E z (fN (α := UInt8) D_ e3m z z h3e h3f h3k) ?_
     rintro _ w3o ⟨S1r, a3p, n3q, c3r, rfl, s3s, h3t, h3u, h3v⟩
     refine Ra z<|Wn<|Wg<|Rm z<|Ra z<|Wl ?_
     have h1s := lt_ (lt_ s8.s sx.s) hy.s
     have h1t : ∀ k ∈ S3d, k ∈ S0 ∨ w1.z ≤ k := or2 h3g (io sr) an_ (l_ h1s)
     have h3w : ∀ k ∈ S1r, k ∈ S0 ∨ w1.z ≤ k := or1 h3v h1t (l_ (lt_ h1s s18.s))
     have h3x : Chg (· ∈ S0) w1 wb := z_ (cr S0 w1) s8
     have h3y : Chg (· ∈ S0) w1 w1p := z_ h3x sx
     have h3z : Chg (· ∈ S0) w1 w1q := z_ h3y hy
     have h40 : Chg (· ∈ S0) w1 w3c := cM h3z s18 (io sr)
     have h41 : Chg (· ∈ S0) w1 w3o := cM h40 s3s h1t
     exact fun _ q => ⟨x3l, x3, som hm3n, a3p, n3q, c3r, S1r, (q.k<|s3 z z z), h41, h3t, h3u, h3w, hw⟩
    rintro r5g ex5h a5i w5j rfl ⟨rfl, hq42⟩
    have hm43 := elR hm1j
    obtain rfl := som hm43
    have hm44 := elR hm1d
    exact ⟨(e_F<|f_m (som hm44).symm ⟨rfl, hq42⟩), z⟩
   rintro a45 w46 ⟨xm, xj, rfl, ao, np, cq, Sc, hS5k, s47, h48, h49, h4a, h4b⟩
   have hm4c := elL hm1d
   have hm4d := a_2 hm4c
   revert a45
   have h1u : ∀ k ∈ S0, k ∈ [w0.z] ∨ w2.z ≤ k := or1 hi (io sr) (l_ lr)
   have h4e : ∀ k ∈ Sc, k ∈ [w0.z] ∨ w2.z ≤ k := or1 h4a h1u (l_ sf.s)
   have h4f : Chg (· ∈ [w0.z]) w2 w1 := cM (cr [w0.z] w2) sf (io sr)
   have h4g : Chg (· ∈ [w0.z]) w2 w46 := cM h4f s47 h1u
   exact fun _ q => ⟨(xm, xj), (som hm4d).symm, ⟨ao, np, cq, Sc, (q.k<|s3 z z z), h4g, h48, h49, h4e, h4b⟩⟩
  have h4h : ∀ k ∈ S0, k ∈ [w0.z] ∨ w2.z ≤ k := or1 hi (io sr) (l_ lr)
  have h4i : Chg (· ∈ [w0.z]) w2 w1 := cM (cr [w0.z] w2) sf (io sr)
  exact We (fun a' ha' => a_F (som<|ifF hm1a hcz).symm ⟨a5, n6, c7, S0, (Sat.weaken ha'<|s1 z), h4i, hg, hh, h4h, hl⟩)
 ·rintro ⟨xe, x4⟩ a4j w5l rfl ⟨a5, n6, c7, S0, hS5m, s4k, hg, hh, hi, hl⟩
  have hm4l := elL hm19
  have hm4m := a_2 hm4l
  revert a4j
  refine Wo<|Ws<|Rm z<|Ra z<|Wn ?_
  obtain rfl := som hm4m
  have h4n : ∀ k ∈ S0, w0.z ≤ k := or1 hi (f_ lr) (a_E sd.s)
  exact Wr<|d_ hr z ⟨(bM sd s4k<|f_ lr), a5, n6, c7, S0, z, hg, hh, h4n⟩
 rintro r5n ex5o a5p w5q rfl ⟨rfl, hq4o⟩
 have hm4p := elR hm19
 obtain rfl := som hm4p
 exact ⟨hq4o, z⟩
theorem W_w17 {x1 : List UInt8} {res : Int} (hm : e_R x1 = some res) (hBw : B ≤ w0.z) (p1_0 : a_ w0 B (sl A0 N0 C0) x1) : j_ prog 91 [sl A0 N0 C0] w0 (Q0 w0 B res) := by
 unfold e_R at hm
 refine goF func91 z z (lb z) fun fn hr => Ws<|Ra z<|Wn<|Ws<|Ra z<|Wn<|Wq<|Ws<|Rm z<|R z (lnR h_ z p1_0)<|Rm z<|Wn ?_
 obtain ⟨ul, hu6, hm2⟩ := bdS hm
 refine Wf (σ := Int) (ρ := Int) (fun (k3 : Nat) (x0 : Int) a w => Sat 19 [(3, vI x0), (6, sl A0 N0 C0), (7, vI (x1.length : Int)), (8, (vI ((k3 : Nat) : Int)))] a ∧ Below w0.z w0 w ∧ inI x0) (fun (x0 : Int) a w => Sat 19 [(3, vI x0)] a ∧ Below w0.z w0 w ∧ inI x0) (fun r ex a w => ex = .ret ∧ v_ prog fn (Q0 w0 B r) a w) hu6 ?_ ?_ ?_ ?_ ?_
 ·exact fun _ q => ⟨(q.k<|s4 z z z z), (br w0), (ii z)⟩
 ·rintro k3 x0 am wn oo hk4 ⟨hS7, s5, h1⟩ hm8
  refine Wu ?_ hS7
  refine Ws<|R z (lss z z)<|Wn<|Wq<|Wc z (fun _ => ?_) (fun hc => (R_ hk4 hc).elim)
  refine Wk<|Wq<|Wb<|Ws ?_
  obtain ⟨x9, ea, hmb⟩ := bdS hm8
  refine RX z (at_ (α := UInt8) h_ z_5 z z z (p1_0.e s5) ea) ?_
  rintro _ ⟨bp, oq, csr, rfl, hd, he, ht⟩
  obtain rfl := u8 he
  exact R z (l1 g_5 z fid<|hd.at0 z)<|Ra z<|Wn<|Wg<|Rm z<|Rm z<|R z (b_4 d_5 d_3 z)<|R z (add_ z z)<|Ra z<|Wn<|Wg<|R z (inc_ hk4 (lt_ (a_.len p1_0) H_) z z)<|Rm z<|Wl (fun _ q => ⟨c_ x0<|byteI x9, (som hmb).symm, ⟨(q.k<|s4 z z z z), s5, (iA _ _)⟩⟩)
 ·rintro x0 au ws ⟨hSc, sf, h1⟩
  refine Wu ?_ hSc
  refine Ws<|R z (lss z z)<|Wn<|Wq<|Wc z (fun hc => (S_ hc).elim) (fun _ => ?_)
  exact We (fun a' ha' => ⟨rfl, ⟨(Sat.weaken ha'<|s1 z), sf, h1⟩⟩)
 ·rintro x0 ag wv rfl ⟨hSw, sh, h1⟩
  have hmi := elL hm2
  revert ag
  refine Wo<|Ws<|Rm z<|R z (f_u z z (by decide))<|Ra z<|Wn ?_
  obtain rfl := som hmi
  exact Wr<|d_ hr z ⟨sh, z, (i_Z h1)⟩
 rintro rx exy az w10 rfl ⟨rfl, hqj⟩
 have hmk := elR hm2
 obtain rfl := som hmk
 exact ⟨hqj, z⟩
theorem W_w35 {x1 : o_} {res : (List UInt8)} (hm : g_M n x1 = some res) (hBw : B ≤ w0.z) (p1_0 : inI x1.kind) (p1_1 : x1.name.b.length ≤ LEN) (p1_2 : inI x1.version) (p1_3 : a_ w0 B (sl AD ND CD) x1.data) : j_ prog 52 [(.agg #[vI x1.kind, Str.v x1.name, vI x1.version, sl AD ND CD])] w0 (Q1 w0 B res) := by
 unfold g_M at hm
 refine goF func52 z z (lb z) fun fn hr => Ws<|E z (fb z) ?_
 rintro _ w14 ⟨rfl, hi⟩
 have h0 := hi.below
 have h8 : Blk w14 w0.z [vI x1.kind, Str.v x1.name, vI x1.version, sl AD ND CD] := hi.blk
 refine Ra z<|Wn<|Wq<|Ws<|R z (lN (vs := [vI x1.kind, Str.v x1.name, vI x1.version, sl AD ND CD]) a_H T_ z z fid<|h8.row 0 4 z) ?_
 obtain ⟨r2c, e15, hmj⟩ := bdS hm
 refine E z (fc call89 z<|W_w15 (B := B) e15 (zt' hBw h0.s) p1_0 p1_1 p1_2<|p1_3.e h0) ?_
 rintro _ w16 ⟨s1, rfl⟩
 refine R z (not_ z)<|Wn<|Wc z (fun hc9 => ?_) (fun hc9 => ?_)
 ·refine Ws<|E z (f0 (α := UInt8) D_) ?_
  rintro _ w2d ⟨a17, n18, c19, rfl, s1a, h1b⟩
  refine Ra z<|Wn ?_
  obtain rfl := som (ifT hmj hc9)
  exact Wr<|d_ hr z ⟨(bup (bup h0 s1) s1a), a17, n18, c19, [w16.z], z, h1b, a_0, (m1<|lt_ h0.s s1.s)⟩
 refine Wk<|Ws<|R z (fd c_w z) ?_
 have hk := h8.e s1
 refine R z (l1 J_ z fid<|hk.at z) ?_
 have hl := lt_ h0.s s1.s
 obtain ⟨r2, e1c, hm1d⟩ := bdS (ifF hmj hc9)
 refine E z (fc call90 z<|W_w34 (B := B) e1c (zt' hBw hl)<|p1_3.g<|(h0.ag B).e s1) ?_
 rintro _ wa ⟨s5, a2e, n2f, c2g, S2h, rfl, h3, h2i, h2j⟩
 refine Ra z<|Wn<|Ws<|R z (fd b_N z) ?_
 have hb := hk.e s5
 refine R z (l1 g_3 z fid<|hb.at z)<|R z (b_3 d_3 d_5 z)<|R z (fd c_v z)<|R z (l1 g_9 z fid<|hb.at z)<|R z (lnT d_9 z)<|R z (b_3 d_3 d_5 z)<|E z (fS [(.tmp 14), (.tmp 18)] D_ z z z (a_p z) (lb z)<|lb z) ?_
 rintro _ wm ⟨rfl, hn⟩
 have h4 := hn.below
 have h1e : Blk wm wa.z [(vU (byteI (mkB x1.kind))), (vU (byteI (mkB (x1.name.b.length : Int))))] := hn.blk
 have h1f : b_ wm [wa.z] (sl (some ⟨wa.z, 0, none⟩) 2 2) [mkB x1.kind, mkB (x1.name.b.length : Int)] := f_e (l := [mkB x1.kind, mkB (x1.name.b.length : Int)]) h1e z
 refine Ra z<|Wn<|Ws<|Rm z<|R z (fd c_v z) ?_
 have ho := hb.e h4
 refine R z (l1 g_9 z fid<|ho.at z) ?_
 obtain ⟨x2k, e1g, hm1h⟩ := bdS hm1d
 refine E z (n_X D_ d_9 e1g z z h1f a_0) ?_
 rintro _ wc ⟨S2l, a2m, n2n, c2o, rfl, s6, h1i, h1j, hp⟩
 refine Ra z<|Wn<|Ws<|Rm z<|R z (fd b_O z)<|R z (l1 g_3 z fid<|(ho.c s6<|djs<|mm1 h8.lt<|lt_ s1.s s5.s).at z)<|R z (b_3 d_3 d_5 z)<|Rm z ?_
 have hq := mnr<|b_.lt h3
 have hd := (h3.e h4).c s6<|ds hq
 refine R z (lnR h_ z<|or_ hd<|b_.lt h3)<|R z (l_f z z (by decide))<|R z (b_3 d_3 d_5 z)<|Rm z<|R z (lnR h_ z<|or_ hd<|b_.lt h3)<|R z (b_3 d_3 d_5 z)<|E z (fS [(.tmp 27), (.tmp 31), (.tmp 34)] D_ z z z (a_p z) (lb z)<|lb z) ?_
 rintro _ wr ⟨rfl, ht⟩
 have h7 := ht.below
 have h1k : Blk wr wc.z [(vU (byteI (mkB x1.version))), (vU (byteI (mkB (b_T .i64 (r2.length : Int) 8)))), (vU (byteI (mkB (r2.length : Int))))] := ht.blk
 have h1l : b_ wr [wc.z] (sl (some ⟨wc.z, 0, none⟩) 3 3) [mkB x1.version, mkB (b_T .i64 (r2.length : Int) 8), mkB (r2.length : Int)] := f_e (l := [mkB x1.version, mkB (b_T .i64 (r2.length : Int) 8), mkB (r2.length : Int)]) h1k z
 obtain ⟨x2p, e1m, hm1n⟩ := bdS hm1h
 refine E z (fN (α := UInt8) D_ e1m z z (h1i.e h7) h1j<|b_.rep h1l) ?_
 rintro _ w2q ⟨S2r, a2s, n2t, c2u, rfl, se, h1o, h1p, h1q⟩
 refine Ra z<|Wn<|Ws<|Rm z<|Rm z ?_
 obtain ⟨x2v, e1r, hm1s⟩ := bdS hm1n
 refine E z (fN (α := UInt8) D_ e1r z z h1o h1p<|or_ ((hd.e h7).c se<|ds<|b_o hp hq (b_.lt h3) h4.s)<|b_.lt h3) ?_
 rintro _ w1t ⟨S2w, a2x, n2y, c2z, rfl, ss, hu, h1u, h1v⟩
 refine Ra z<|Wn<|Ws<|Rm z<|Rm z ?_
 obtain ⟨r1w, e1x, hm1y⟩ := bdS hm1s
 refine E z (fc call91 z<|W_w17 (B := w1t.z) e1x zr<|b_.rep hu) ?_
 rintro _ w1z ⟨sf, rfl, h30⟩
 refine R z (b_3 d_3 d_5 z)<|E z (fS [(.tmp 43)] D_ z z z (a_p z) (lb z)<|lb z) ?_
 rintro _ w20 ⟨rfl, hg⟩
 have hh := hg.below
 have h21 : Blk w20 w1z.z [(vU (byteI (mkB r1w)))] := hg.blk
 have h31 := b_r hg a_z
 obtain ⟨x32, e22, hm23⟩ := bdS hm1y
 refine E z (b_d (α := UInt8) D_ e22 z z ((hu.e sf).e hh) h1u h21 a_z an_ K_) ?_
 rintro _ w33 ⟨Sv, a24, n25, c26, rfl, s27, h28, h29, h2a⟩
 refine Ra z<|Wn ?_
 obtain rfl := som hm23
 have hw := lt_ hl s5.s
 have hx := m1 hw
 have hy := lt_ hw h4.s
 have hz := a_x hp hx hy
 have h10 := lt_ (lt_ hy s6.s) h7.s
 have h11 := a_x h1q hz h10
 have h12 := lt_ h10 se.s
 have h13 := a_x h1v h11 h12
 have h2b : ∀ k ∈ Sv, w0.z ≤ k := or2 h2a h13 an_ (a_E (lt_ (lt_ (lt_ h12 ss.s) sf.s) hh.s))
 exact Wr<|d_ hr z ⟨(bM (bup (bup (bM (bM (bup (bM (bup (bup (bup h0 s1) s5) h4) s6 hx) h7) se hz) ss h11) sf) hh) s27 h13), a24, n25, c26, Sv, z, h28, h29, h2b⟩
theorem W_w36 {x1 : List UInt8} {x2 : List UInt8} {res : Bool} (hm : k_t x1 x2 = some res) (hBw : B ≤ w0.z) (p1_0 : a_ w0 B (sl A0 N0 C0) x1) (p2_0 : a_ w0 B (sl A6 N6 C6) x2) : j_ prog 152 [sl A0 N0 C0, sl A6 N6 C6] w0 (Q11 w0 B res) := by
 unfold k_t at hm
 refine goF func152 z z (lb z) fun fn hr => Ws<|Ra z<|Wn<|Ws<|Rm z<|R z (e_r h_ d_9 d_5 z_5 z p1_0)<|Rm z<|R z (e_r h_ d_9 d_5 z_5 z p2_0)<|R z (e_u z z)<|Ra z<|Wn ?_
 obtain rfl := som hm
 exact Wr<|d_ hr z ⟨(br w0), z⟩
theorem W_w37 {x1 : List UInt8} {x2 : List UInt8} {res : Bool} (hm : h_Z x1 x2 = some res) (hBw : B ≤ w0.z) (p1_0 : a_ w0 B (sl A0 N0 C0) x1) (p2_0 : a_ w0 B (sl A6 N6 C6) x2) : j_ prog 137 [sl A0 N0 C0, sl A6 N6 C6] w0 (Q11 w0 B res) := by
 unfold h_Z at hm
 refine goF func137 z z (lb z) fun fn hr => Ws<|Ra z<|Wn<|Ws<|Rm z<|Rm z ?_
 obtain ⟨r3, e0, hm1⟩ := bdS hm
 refine E z (fc call152 z<|W_w36 (B := B) e0 hBw p1_0 p2_0) ?_
 rintro _ w4 ⟨s2, rfl⟩
 refine Ra z<|Wn ?_
 obtain rfl := som hm1
 exact Wr<|d_ hr z ⟨s2, z⟩
theorem W_w18 {x1 : List UInt8} {x2 : Int} {res : o_ × Int × Bool} (hm : d_L n x1 x2 = some res) (hBw : B ≤ w0.z) (p1_0 : a_ w0 B (sl A0 N0 C0) x1) (p2_0 : inI x2) : j_ prog 114 [sl A0 N0 C0, vI x2] w0 (Q13 w0 B res) := by
 unfold d_L at hm
 refine goF func114 z z (lb z) fun fn hr => Ws<|E z (fa c_U) ?_
 rintro _ wl ⟨rfl, h12⟩
 have hd := h12.below
 have h6 : Blk wl w0.z [vI 0, (Str.v (⟨[]⟩ : Str)), vI 0, sl none 0 0] := h12.blk
 refine Ra z<|Ra z<|Wn<|Wq<|Wq ?_
 obtain ⟨u1u, hu13, hm14⟩ := bdS hm
 refine Wt (fun a w => ∃ (xr : Bool), xr = u1u ∧ Sat 126 [(0, sl A0 N0 C0), (1, vI x2), (4, pt w0.z), (28, vB xr)] a ∧ Below wl.z wl w) ?_ ?_
 ·refine Wg<|Rm z<|R z (lss z z)<|Rm z ?_
  rcases bs (decide (x2 < 0)) with hc8 | hc8
  ·iterate 4 refine Nh z hc8 ?_
   exact R z (pT z hc8 z)<|Rm z<|Nh z z<|Nh z z<|Nh z z<|Nh z z<|Nh z z<|R z (pT z z z)<|Wl (fun _ q => ⟨true, som<|ifT hu13 hc8, (q.k<|s4 z z z z), (br wl)⟩)
  have hm15 := ifF hu13 hc8
  refine Rh z hc8 (mv z)<|Rh z hc8 (mv z) ?_
  have h16 := p1_0.e hd
  refine Rh z hc8 (lnR h_ z h16)<|Rh z hc8 (a_c z z)<|R z (pF z hc8 z)<|Rm z ?_
  rcases bs (decide ((x1.length : Int) < x2)) with hc3 | hc3
  ·iterate 5 refine Nh z hc3 ?_
   exact R z (pT z hc3 z)<|Wl (fun _ q => ⟨true, som<|ifT hm15 hc3, (q.k<|s4 z z z z), (br wl)⟩)
  exact Rh z hc3 (mv z)<|Rh z hc3 (lnR h_ z h16)<|Rh z hc3 (mv z)<|Rh z hc3 (sb_ z z)<|Rh z hc3 (lss z z)<|R z (pF z hc3 z)<|Wl (fun _ q => ⟨decide ((y_ (x1.length : Int) x2) < 2), som<|ifF hm15 hc3, (q.k<|s4 z z z z), (br wl)⟩)
 rintro a1v w3v ⟨xr, rfl, hS3w, s2⟩
 revert a1v
 refine Wo<|Wc z (fun hcs => ?_) (fun hcs => ?_)
 ·refine Ws<|R z (bP (parts := []) (cs := [vI 0, (Str.v (⟨[]⟩ : Str)), vI 0, sl none 0 0]) c_r z z)<|Rm z<|E0 (fs (cur' := [vI 0, (Str.v (⟨[]⟩ : Str)), vI 0, sl none 0 0]) T_ z z (h6.e s2) z (lb z) (oA z) z) ?_
  rintro _ w3x ⟨h1w, s1x⟩
  refine Ra z<|Ra z<|Wn ?_
  obtain rfl := som (ifT hm14 hcs)
  exact Wr<|s_ hr (u_ a_H T_ z h1w z) z z ⟨(bM (bup hd s2) s1x.one<|f_ lr), none, 0, 0, [], z, (ii z), (lb z), (ii z), onL, p2_0, K_, an_⟩
 refine Wk<|Ws<|Rm z<|Rm z ?_
 obtain ⟨x3y, e1y, hm1z⟩ := bdS (ifF hm14 hcs)
 refine RX z (rX h_ z_5 z z (p1_0.g<|(hd.ag B).e s2) z z e1y) ?_
 rintro _ ⟨a3z, n40, c41, rfl, hn⟩
 refine Ra z<|Wn<|Ws<|Rm z ?_
 obtain ⟨x20, e21, hm17⟩ := bdS hm1z
 refine RX z (at_ (α := UInt8) h_ z_5 z z z hn e21) ?_
 rintro _ ⟨b42, o43, cs44, rfl, h22, h23, h45⟩
 obtain rfl := u8 h23
 refine R z (l1 g_5 z fid<|h22.at0 z)<|R z (b_4 d_5 d_3 z)<|Ra z<|Wn<|Wq<|Ws<|Rm z<|R z (lnR h_ z hn)<|Rm z<|R z (add_ z z)<|R z (lss z z)<|Wn<|Wc z (fun hcu => ?_) (fun hcu => ?_)
 ·refine Ws<|R z (bP (parts := []) (cs := [vI 0, (Str.v (⟨[]⟩ : Str)), vI 0, sl none 0 0]) c_r z z)<|Rm z<|E0 (fs (cur' := [vI 0, (Str.v (⟨[]⟩ : Str)), vI 0, sl none 0 0]) T_ z z (h6.e s2) z (lb z) (oA z) z) ?_
  rintro _ w46 ⟨h24, s25⟩
  refine Ra z<|Ra z<|Wn ?_
  obtain rfl := som (ifT hm17 hcu)
  exact Wr<|s_ hr (u_ a_H T_ z h24 z) z z ⟨(bM (bup hd s2) s25.one<|f_ lr), none, 0, 0, [], z, (ii z), (lb z), (ii z), onL, p2_0, K_, an_⟩
 refine Wk<|Wq (Wd (X := noX) 0 (.rd 0 (.rd 1 (.rd 2 (.rd 3 (.rd 4 (.rd 5 (.rd 6 (.rd 7 (.rd 8 (.rd 9 (.rd 10 (.rd 11 (.rd 12 (.rd 13 (.rd 14 .done))))))))))))))) mo (by kernel_rfl) fun w26 s5 _ => dR z z (mv z)<|dR z z (mv z)<|dR z z (add_ z z) ?_)
 obtain ⟨x27, e28, hm29⟩ := bdS (ifF hm17 hcu)
 have hv := hn.e s5
 refine dRX z z (at_ (α := UInt8) h_ z_5 z z z hv e28) ?_
 rintro _ ⟨b47, o48, cs49, rfl, h2a, h2b, h4a⟩
 obtain rfl := u8 h2b
 refine dR z z (l1 g_5 z fid<|h2a.at0 z)<|dR z z (b_4 d_5 d_3 z)<|dR z z (f_v z z (by decide))<|dR z z (mv z)<|dR z z (mv z)<|dR z z (add_ z z) ?_
 obtain ⟨x2c, e2d, hm18⟩ := bdS hm29
 refine dRX z z (at_ (α := UInt8) h_ z_5 z z z hv e2d) ?_
 rintro _ ⟨b4b, o4c, cs4d, rfl, h2e, h2f, h4e⟩
 obtain rfl := u8 h2f
 refine dR z z (l1 g_5 z fid<|h2e.at0 z)<|dR z z (b_4 d_5 d_3 z)<|dR z z (j_C z z)<|dR z z (asg z)<|pD<|Wo<|Wq<|Ws<|Rm z<|R z (lnR h_ z hv)<|Rm z<|R z (add_ z z)<|Rm z<|R z (add_ z z)<|R z (lss z z)<|Wn<|Wc z (fun hcw => ?_) (fun hcw => ?_)
 ·refine Ws<|R z (bP (parts := []) (cs := [vI 0, (Str.v (⟨[]⟩ : Str)), vI 0, sl none 0 0]) c_r z z)<|Rm z<|E0 (fs (cur' := [vI 0, (Str.v (⟨[]⟩ : Str)), vI 0, sl none 0 0]) T_ z z ((h6.e s2).e s5) z (lb z) (oA z) z) ?_
  rintro _ w4f ⟨h2g, s2h⟩
  refine Ra z<|Ra z<|Wn ?_
  obtain rfl := som (ifT hm18 hcw)
  exact Wr<|s_ hr (u_ a_H T_ z h2g z) z z ⟨(bM (bup (bup hd s2) s5) s2h.one<|f_ lr), none, 0, 0, [], z, (ii z), (lb z), (ii z), onL, p2_0, K_, an_⟩
 refine Wk<|Ws<|Rm z ?_
 obtain ⟨x4g, e2i, hm2j⟩ := bdS (ifF hm18 hcw)
 refine E z (d_V (α := UInt8) D_ (fun _ => l_5) e2i z z) ?_
 rintro _ w2k ⟨a4h, n4i, c4j, rfl, s9, h19⟩
 refine Ra z<|Wn<|Ws<|Rm z<|Rm z<|Rm z<|R z (add_ z z) ?_
 obtain ⟨x4k, e2l, hm2m⟩ := bdS hm2j
 have h1a := (s5.ag B).e s9
 refine RX z (rX h_ z_5 z z (hn.g h1a) z z e2l) ?_
 rintro _ ⟨a4l, n4m, c4n, rfl, h2n⟩
 refine E z (n_V h_ z_5 z z h19 h2n) ?_
 rintro _ w4o ⟨rfl, s7, h2o⟩
 refine Wn<|Ws<|Rm z ?_
 obtain ⟨r1b, r2p, e2q, hm2r⟩ := a_y hm2m
 refine E z (fc call136 z<|W_w2z (B := w2k.z) e2q (b_5 s7.s)<|or_ h2o<|b_.lt h19) ?_
 rintro _ w1c ⟨sa, ai, nj, ck, S2s, rfl, ho, h2t, h1d⟩
 refine Rm z<|R z (ext_ z z)<|R z (ext_ z z)<|Ra z<|Ra z<|Wn<|Wq (Wd (X := noX) 262144 (.rd 0 (.rd 1 (.rd 2 (.rd 3 (.rd 4 (.rd 5 (.rd 6 (.rd 7 (.rd 8 (.rd 9 (.rd 10 (.rd 11 (.rd 12 (.rd 13 (.rd 14 (.rd 15 (.rd 16 (.ef 17 (.ef 18 .done))))))))))))))))))) mo (by kernel_rfl) fun wx s1 _ => dR z z (mv z) ?_)
 obtain ⟨xe, e2u, hm2v⟩ := bdS hm2r
 have hp := lt_ (lt_ hd.s s2.s) s5.s
 have h2w : ∀ k ∈ [w26.z], ¬ B k := or0 (f_ lr)  (r_ (zt' hBw hp))
 have h1e := ((h1a.c s7<|k_ h2w).e sa).e s1
 have hy := hn.g h1e
 refine dRX z z (at_ (α := UInt8) h_ z_5 z z z hy e2u) ?_
 rintro _ ⟨b4p, o4q, cs4r, rfl, h2x, h2y, h4s⟩
 obtain rfl := u8 h2y
 refine dR z z (l1 g_5 z fid<|h2x.at0 z)<|dR z z (b_4 d_5 d_3 z)<|dR z z (mv z)<|dR z z (mv z)<|dR z z (add_ z z) ?_
 obtain ⟨xf, e2z, hm30⟩ := bdS hm2v
 refine dRX z z (rX h_ z_5 z z hy z z e2z) ?_
 rintro _ ⟨a4t, n4u, c4v, rfl, ht⟩
 refine dR z z (e_r h_ d_9 d_5 z_5 z ht)<|dR z z (mv z)<|dR z z (mv z)<|dR z z (add_ z z) ?_
 obtain ⟨xg, e31, hm32⟩ := bdS hm30
 refine dRX z z (at_ (α := UInt8) h_ z_5 z z z hy e31) ?_
 rintro _ ⟨b4w, o4x, cs4y, rfl, h33, h34, h4z⟩
 obtain rfl := u8 h34
 refine dR z z (l1 g_5 z fid<|h33.at0 z)<|dR z z (b_4 d_5 d_3 z)<|dR z z (mv z)<|dR z z (bP (parts := [(0, (.tmp 84)), (1, (.tmp 89)), (2, (.tmp 95)), (3, (.tmp 96))]) (cs := [vI (byteI xe), Str.v (⟨xf⟩ : Str), vI<|byteI xg, sl ai nj ck]) c_r z z)<|dE z z (fa c_U) (.inr fun _ _ h => A_<|h.2.below) ?_
 rintro _ w35 ⟨rfl, h1f⟩
 have hb := h1f.below
 have h36 : Blk w35 wx.z [vI 0, (Str.v (⟨[]⟩ : Str)), vI 0, sl none 0 0] := h1f.blk
 refine dE0 z (fs (cur' := [vI (byteI xe), Str.v (⟨xf⟩ : Str), vI<|byteI xg, sl ai nj ck]) T_ z z h36 z (lb z) (oA z) z) (.inl z) ?_
 rintro _ w1g ⟨h1h, s37⟩
 have hc := s37.one
 refine pD<|Wo<|Wq<|Wq ?_
 obtain ⟨u38, hu1i, hm1j⟩ := bdS hm32
 refine Wt (fun a w => ∃ (xz : Bool), xz = u38 ∧ Sat 126 [(1, vI x2), (4, pt w0.z), (8, vI<|byteI x20), (9, (vI<|b_f .i64 (· ||| ·) (a_P .i64 (byteI x27) 8)<|byteI x2c)), (13, pt wx.z), (116, vB xz)] a ∧ Below w1g.z w1g w) ?_ ?_
 ·refine Wd (X := noX) 0 (.rd 0 (.rd 1 (.rd 2 (.rd 3 (.ef 4 (.rd 5 (.rd 6 (.rd 7 (.rd 8 (.rd 10 (.rd 11 (.rd 12 (.rd 13 (.rd 14 (.rd 15 (.ef 9 (.ef 16 (.rd 17 (.rd 18 .done))))))))))))))))))) mo (by kernel_rfl) fun w50 sh _ => dR z z (mv z)<|dR z z (not_ z)<|dR z z (mv z) ?_
  rcases bs (!r2p) with hc4 | hc4
  ·refine dRn z z z hc4 z<|dEn z z z hc4 z<|dRn z z z hc4 z<|dR z z (pT z hc4 z)<|dR z z (mv z) ?_
   iterate 7 refine dRn z z z z z ?_
   exact dEn z z z z z<|dEn z z z z z<|dRn z z z z z<|dR z z (pT z z z)<|pD (fun _ q => ⟨true, som<|ifT hu1i hc4, (q.k<|s6 z z z z z z), sh⟩)
  have h1k := h1h.e sh
  refine dRg z z z hc4 z (lN (vs := [vI (byteI xe), Str.v (⟨xf⟩ : Str), vI<|byteI xg, sl ai nj ck]) a_H T_ z z fid<|h1k.row 0 4 z) ?_
  have h1l := (((ho.e s1).e hb).c hc<|ds<|mno (b_.lt ho) s1.s).e sh
  have h1m := lt_ (lt_ (lt_ s1.s hb.s) hc.s) sh.s
  obtain ⟨r39, e3a, hm1n⟩ := bdS (ifF hu1i hc4)
  refine dEg z z z hc4 z (fc call89 z<|W_w15 (B := w1c.z) (x1 := (⟨byteI xe, (⟨xf⟩ : Str), byteI xg, r1b⟩ : o_)) e3a (b_5 h1m) (c_7 _) (a_.len ht) (c_7 _)<|or_ h1l<|b_.lt ho) (.inr fun _ _ h => A_<|h.1) ?_
  rintro _ w51 ⟨sm, rfl⟩
  refine dRg z z z hc4 z (not_ z)<|dR z z (pF z hc4 z)<|dR z z (mv z) ?_
  rcases bs (!r39) with hc0 | hc0
  ·iterate 7 refine dRn z z z hc0 z ?_
   exact dEn z z z hc0 z<|dEn z z z hc0 z<|dRn z z z hc0 z<|dR z z (pT z hc0 z)<|pD (fun _ q => ⟨true, som<|ifT hm1n hc0, (q.k<|s6 z z z z z z), (bup sh sm)⟩)
  refine dRg z z z hc0 z (lN (vs := [vI (byteI xe), Str.v (⟨xf⟩ : Str), vI<|byteI xg, sl ai nj ck]) a_H T_ z z fid<|(h1k.e sm).row 0 4 z)<|dRg z z z hc0 z (mv z)<|dRg z z z hc0 z (mv z)<|dRg z z z hc0 z (add_ z z)<|dRg z z z hc0 z (mv z)<|dRg z z z hc0 z (add_ z z) ?_
  obtain ⟨x52, e3b, hm3c⟩ := bdS (ifF hm1n hc0)
  have h1o := lt_ (lt_ (lt_ (lt_ hp s9.s) s7.s) sa.s) s1.s
  have h3d : ∀ k ∈ [wx.z], ¬ B k := or0 (f_ lr)  (r_ (zt' hBw h1o))
  refine a_K z z z hc0 z (rX h_ z_5 z z (hn.g<|(((h1e.e hb).c hc<|k_ h3d).e sh).e sm) z z e3b) ?_
  rintro _ ⟨a53, n54, c55, rfl, h3e⟩
  obtain ⟨r56, e3f, hm3g⟩ := bdS hm3c
  refine dEg z z z hc0 z (fc call52 z<|W_w35 (B := w1c.z) (x1 := (⟨byteI xe, (⟨xf⟩ : Str), byteI xg, r1b⟩ : o_)) e3f (b_5<|lt_ h1m sm.s) (c_7 _) (a_.len ht) (c_7 _)<|or_ (h1l.e sm)<|b_.lt ho) (.inr fun _ _ h => A_<|h.1) ?_
  rintro _ w3h ⟨s10, a57, n58, c59, S5a, rfl, h3i, h5b, h5c⟩
  obtain ⟨r3j, e3k, hm3l⟩ := bdS hm3g
  refine dEg z z z hc0 z (fc call137 z<|W_w37 (B := w3h.z) e3k zr (b_.rep h3i)<|a_.mono (h3e.e s10)<|zt' hBw<|lt_ (lt_ (lt_ (lt_ (lt_ h1o hb.s) hc.s) sh.s) sm.s) s10.s) (.inr fun _ _ h => A_<|h.1) ?_
  rintro _ w5d ⟨s3m, rfl⟩
  exact dRg z z z hc0 z (not_ z)<|dR z z (pF z hc0 z)<|pD (fun _ q => ⟨!r3j, som hm3l, (q.k<|s6 z z z z z z), (bup (bup (bup sh sm) s10) s3m)⟩)
 rintro a3n w5e ⟨xz, rfl, hS5f, sq⟩
 revert a3n
 refine Wo<|Wc z (fun hc11 => ?_) (fun hc11 => ?_)
 ·refine Ws<|R z (bP (parts := []) (cs := [vI 0, (Str.v (⟨[]⟩ : Str)), vI 0, sl none 0 0]) c_r z z)<|Rm z ?_
  have h1p := lt_ s2.s s5.s
  have h3o := (((((((h6.e s2).e s5).e s9).c s7<|djs<|mm1 h6.lt h1p).e sa).e s1).e hb).c hc<|djs<|mm1 h6.lt<|lt_ (lt_ (lt_ (lt_ h1p s9.s) s7.s) sa.s) s1.s
  refine E0 (fs (cur' := [vI 0, (Str.v (⟨[]⟩ : Str)), vI 0, sl none 0 0]) T_ z z (h3o.e sq) z (lb z) (oA z) z) ?_
  rintro _ w5g ⟨h3p, s3q⟩
  refine Ra z<|Ra z<|Wn ?_
  obtain rfl := som (ifT hm1j hc11)
  have h3r := bM (bup (bM (bup (bup (bup (bM (bup (bup (bup hd s2) s5) s9) s7<|m1 hp) sa) s1) hb) hc<|m1<|lt_ (lt_ (lt_ (lt_ hp s9.s) s7.s) sa.s) s1.s) sq) s3q.one<|f_ lr
  exact Wr<|s_ hr (u_ a_H T_ z h3p z) z z ⟨h3r, none, 0, 0, [], z, (ii z), (lb z), (ii z), onL, p2_0, K_, an_⟩
 refine Wk<|Ws<|R z (lN (vs := [vI (byteI xe), Str.v (⟨xf⟩ : Str), vI<|byteI xg, sl ai nj ck]) a_H T_ z z fid<|(h1h.e sq).row 0 4 z)<|Rm z<|Rm z<|R z (add_ z z)<|R z (add_ z z)<|Rm z<|R z (add_ z z) ?_
 have h1q := lt_ s2.s s5.s
 have h1r := lt_ (lt_ h1q s9.s) s7.s
 have h3s := (((((((h6.e s2).e s5).e s9).c s7<|djs<|mm1 h6.lt h1q).e sa).e s1).e hb).c hc<|djs<|mm1 h6.lt<|lt_ (lt_ h1r sa.s) s1.s
 refine E0 (fs (cur' := [vI (byteI xe), Str.v (⟨xf⟩ : Str), vI<|byteI xg, sl ai nj ck]) T_ z z (h3s.e sq) z (lb z) (oA z) z) ?_
 rintro _ w5h ⟨h3t, s3u⟩
 have h1s := s3u.one
 refine Ra z<|Ra z<|Wn ?_
 obtain rfl := som (ifF hm1j hc11)
 have h1t := lt_ (lt_ hp s9.s) s7.s
 exact Wr<|s_ hr (u_ a_H T_ z h3t z) z z ⟨(bM (bup (bM (bup (bup (bup (bM (bup (bup (bup hd s2) s5) s9) s7<|m1 hp) sa) s1) hb) hc<|m1<|lt_ (lt_ h1t sa.s) s1.s) sq) h1s<|f_ lr), ai, nj, ck, S2s, z, (c_7 _), (a_.len ht), (c_7 _), (((((ho.e s1).e hb).c hc<|ds<|mno (b_.lt ho) s1.s).e sq).c h1s<|p_ h1d h6.lt h1r), (iA _ _), h2t, (m_ h1d h1t)⟩
theorem W_w38 {x1 : Log} {res : Bool} (hm : i_6 n x1 = some res) (hBw : B ≤ w0.z) (p1_0 : a_ w0 B (sl A0 N0 C0) x1.bytes) (p1_1 : inI x1.stored) : Calls prog 113 [(.agg #[sl A0 N0 C0, vI x1.stored])].toArray w0 (m_Z (.iface 129 (.agg #[])) (fun q w' => q = res ∧ Bw w0 w')) := by
 unfold i_6 at hm
 obtain ⟨fn, hf, hb, hN, hr⟩ := fnE func113
 refine r_a hf (hb.trans z) (hN.trans z) (lb z)<|Ws<|E z (fb z) ?_
 rintro _ wz ⟨rfl, hl⟩
 have h1 := hl.below
 have h8 : Blk wz w0.z [sl A0 N0 C0, vI x1.stored] := hl.blk
 refine Wn<|Wq<|Ws<|R z (fd c_R z)<|R z (l1 g_3 z fid<|h8.at z)<|R z (fd b_h z)<|R z (l1 J_ z fid<|h8.at z) ?_
 have hn := p1_0.e h1
 refine R z (lnR h_ z hn) ?_
 obtain ⟨r1l, e10, hmm⟩ := bdS hm
 refine E z (fc call117 z<|c_z (B := B) e10 (zt' hBw h1.s) p1_1 (ii z)<|b_2<|a_.len hn) ?_
 rintro _ w7 ⟨s2, rfl⟩
 refine R z (not_ z)<|Wn<|Wc z (fun hcb => ?_) (fun hcb => ?_)
 ·refine Wg<|R z (bP (parts := []) (cs := []) i_h z z)<|R z (f_w i_j (fun _ h => by cases h) z) ?_
  obtain rfl := som (ifT hmm hcb)
  exact k_o z fun _ ha => ⟨false, .inr ⟨rfl, z, ha.defers, z, (bup h1 s2)⟩⟩
 refine Wk<|Ws<|R z (fd c_R z) ?_
 have ho := h8.e s2
 refine R z (l1 g_3 z fid<|ho.at z)<|R z (eql z z)<|Ra z<|Wn<|Wq<|Ws<|Ra z<|Wn ?_
 obtain ⟨u1m, hu11, hmp⟩ := bdS (ifF hmm hcb)
 refine r_b (σ := Bool × Int) (ρ := Bool) (fun s a w => un2 (fun x3 x5 => Sat 48 [(1, pt w0.z), (2, vB x3), (3, vI x5)] a ∧ Below w7.z w7 w ∧ inI x5) s) (fun s a w => un2 (fun x3 x5 => Sat 48 [(2, vB x3)] a ∧ Below w7.z w7 w ∧ inI x5) s) (fun r ex a w => r = false ∧ ex = .panic (h_S (.iface 129 (.agg #[]))) ∧ a.defers = [] ∧ Below w0.z w0 w) hu11 ?_ ?_ ?_ ?_
 ·exact fun _ q => ⟨(q.k<|s3 z z z), (br w7), (ii z)⟩
 ·rintro ⟨x3, x5⟩ a1n w1o o1p ⟨hS12, s4, hc⟩ hm13
  have hmq := a_2 hm13
  refine Wu ?_ hS12
  refine Wq<|Ws<|Rm z<|R z (fd b_h z) ?_
  have hd := ho.e s4
  refine R z (l1 J_ z fid<|hd.at z) ?_
  have ht := p1_0.g<|((h1.ag B).e s2).e s4
  refine R z (lnR h_ z ht)<|R z (lss z z)<|Wn<|Wc z (fun hce => ?_) (fun hce => ?_)
  ·refine Wk<|Wb<|Ws<|R z (fd b_h z)<|R z (l1 J_ z fid<|hd.at z)<|Rm z ?_
   have hu := lt_ (lt_ h1.s s2.s) s4.s
   obtain ⟨rf, rg, r1q, e14, hmr⟩ := O_ (ifT hmq hce)
   refine E z (fc call114 z<|W_w18 (B := B) e14 (zt' hBw hu) ht hc) ?_
   rintro _ w15 ⟨s6, a16, n17, c18, S1r, rfl, h1s, h1t, h1u, h1v, h19, h1w, h1x⟩
   refine Rm z ?_
   iterate 3 refine R z (ext_ z z) ?_
   refine E z (fa c_U) ?_
   rintro _ w1a ⟨rfl, hv⟩
   have hh := hv.below
   have h1b : Blk w1a w15.z [vI 0, (Str.v (⟨[]⟩ : Str)), vI 0, sl none 0 0] := hv.blk
   refine E0 (fs (cur' := [vI rf.kind, Str.v rf.name, vI rf.version, sl a16 n17 c18]) T_ z z h1b z (lb z) (oA z) z) ?_
   rintro _ w9 ⟨h1y, s1c⟩
   have hi := s1c.one
   refine Ra z<|Ra z<|Wn<|Wq<|Ws<|Rm z<|R z (not_ z)<|Wn<|Wc z (fun hcj => ?_) (fun hcj => ?_)
   ·exact Wg<|R z (bP (parts := []) (cs := []) i_h z z)<|R z (f_w i_j (fun _ h => by cases h) z) (k_o z fun _ ha => .inr ⟨false, (som<|ifT hmr hcj).symm, z, z, ha.defers, (bM (bup (bup (bup (bup h1 s2) s4) s6) hh) hi<|m1<|lt_ hu s6.s)⟩)
   refine Wk<|Ws<|Rm z<|Ra z<|Wn ?_
   obtain ⟨u1d, hus, hm1e⟩ := bdS (ifF hmr hcj)
   refine Wt (fun a w => ∃ (xa : Bool), xa = u1d ∧ Sat 48 [(1, pt w0.z), (2, vB xa), (3, vI rg)] a ∧ Below w9.z w9 w) ?_ ?_
   ·refine Wg<|Rm z<|Rm z ?_
    rcases bs x3 with hc0 | hc0
    ·iterate 4 refine Nh z hc0 ?_
     exact R z (pT z hc0 z)<|Ra z<|Wl (fun _ q => ⟨true, som<|ifT hus hc0, (q.k<|s3 z z z), (br w9)⟩)
    exact Rh z hc0 (mv z)<|Rh z hc0 (fd c_R z)<|Rh z hc0 (l1 g_3 z fid<|(((hd.e s6).e hh).c hi<|djs<|mm1 h8.lt<|lt_ (lt_ s2.s s4.s) s6.s).at z)<|Rh z hc0 (eql z z)<|R z (pF z hc0 z)<|Ra z<|Wl (fun _ q => ⟨rg == x1.stored, som<|ifF hus hc0, (q.k<|s3 z z z), (br w9)⟩)
   rintro a1f w1z ⟨xa, rfl, hS20, s1g⟩
   revert a1f
   exact fun _ q => ⟨(xa, rg), (som hm1e).symm, ⟨(q.k<|s3 z z z), (bup (bM (bup (bup s4 s6) hh) hi<|m1<|lt_ s4.s s6.s) s1g), h19⟩⟩
  exact We (fun a' ha' => a_F (som<|ifF hmq hce).symm ⟨(Sat.weaken ha'<|s1 z), s4, hc⟩)
 ·rintro ⟨x3, x5⟩ a1h w21 rfl ⟨hS22, sw, hc⟩
  have hm1i := elL hmp
  have hmx := a_2 hm1i
  revert a1h
  refine Wo<|Ws<|Rm z<|R z (not_ z)<|Wn<|Wc z (fun hck => ?_) (fun hck => ?_)
  ·refine Wg<|R z (bP (parts := []) (cs := []) i_h z z)<|R z (f_w i_j (fun _ h => by cases h) z) ?_
   obtain rfl := som (ifT hmx hck)
   exact k_o z fun _ ha => ⟨false, .inr ⟨rfl, z, ha.defers, z, (bup (bup h1 s2) sw)⟩⟩
  refine a_J ?_
  obtain rfl := som (ifF hmx hck)
  exact ret0 hr ⟨rfl, (bup (bup h1 s2) sw)⟩
 rintro r23 exy a24 w25 rfl ⟨rfl, rfl, hq1j, exy⟩
 have hm1k := elR hmp
 obtain rfl := som hm1k
 exact ⟨⟨false, .inr ⟨rfl, z, hq1j, z, exy⟩⟩, _, z⟩
theorem n_N (w : World) : (Instr.typeAssert (.iface 129 (.agg #[])) 20 129 true).run Tryz.prog w = .ok (.tuple #[.agg #[], .bool true]) w := by kernel_rfl
theorem n_O (w : World) : (Instr.typeAssert .nilIface 20 129 true).run Tryz.prog w = .ok (.tuple #[.agg #[], .bool false]) w := by kernel_rfl
set_option maxRecDepth 4000 in
theorem n_P (p : Addr) (b : Bool) (older : List PanicEntry) (w : World) (hc : w.cell? p = some (vB b)) (hz : w.frozen? p = false) (hp : p.block < w.heap.size) :
    CallsD Tryz.prog 112 #[.pointer (some p)] (.panicking ({ v := .iface 129 (.agg #[]), recovered := false } :: older)) w fun e u' w' =>
      e = .returned (.tuple #[]) ∧ u' = .panicking ({ v := .iface 129 (.agg #[]), recovered := true } :: older) ∧ w' = (w.alloc (.cells #[] 129)).setCell p (vB false) := by
  refine callsD_of_wpS Tryz.func112 rfl fun c₀ cs hu => ?_
  apply wpS_seq
  apply wpS_region
  simp [wpOpsS, go_sem, recoverD, hu, Tryz.ntmps112, Exit.thenS, n_N]
  apply wpS_seq
  apply wpS_region
  simp [wpOpsS, go_sem, Exit.thenS]
  refine wpS_cond (t := true) (by simp [Act.eval]) ?_
  simp only [if_true]
  apply wpS_region
  have hb := a_B w (.cells #[] 129)
  have hc1 : (w.alloc (.cells #[] 129)).cell? p = some (vB b) := (hb.cell (p := p) hp).trans hc
  have hz1 : (w.alloc (.cells #[] 129)).frozen? p = false := (hb.frozen (p := p) hp).trans hz
  simp [wpOpsS, go_sem, bodyPostS, results, Tryz.results112, hc1, hz1]
set_option maxRecDepth 4000 in
theorem n_Q (p : Addr) (w : World) :
    CallsD Tryz.prog 112 #[.pointer (some p)] .returning w fun e u' w' => e = .returned (.tuple #[]) ∧ u' = .returning ∧ w' = w.alloc (.cells #[] 129) := by
  refine callsD_of_wpS Tryz.func112 rfl fun c₀ cs hu => ?_
  apply wpS_seq
  apply wpS_region
  simp [wpOpsS, go_sem, recoverD, hu, Tryz.ntmps112, Exit.thenS, n_O]
  apply wpS_seq
  apply wpS_region
  simp [wpOpsS, go_sem, Exit.thenS]
  refine wpS_cond (t := false) (by simp [Act.eval]) ?_
  simp only [Bool.false_eq_true, if_false]
  refine wpS_of_wp (wp_skip ?_)
  cases c₀
  simp_all [bodyPostS, results, Tryz.results112]
theorem n_R {w0 : World} {a b : Value} : (∀ w', Below ((w0.alloc (.cells #[a, b] 35)).alloc (.cells #[.bool false] 4)).heap.size ((w0.alloc (.cells #[a, b] 35)).alloc (.cells #[.bool false] 4)) w' →
    (w'.cell? ⟨w0.heap.size + 1, 0, none⟩ = some (vB false) ∧ w'.frozen? ⟨w0.heap.size + 1, 0, none⟩ = false ∧ Bw w0 w' ∧ w0.heap.size + 1 < w'.heap.size)) ∧ Below w0.heap.size w0 ((w0.alloc (.cells #[a, b] 35)).alloc (.cells #[.bool false] 4)) := by
  have hB1 : Below w0.heap.size w0 ((w0.alloc (.cells #[a, b] 35)).alloc (.cells #[.bool false] 4)) :=
    (a_B w0 _).trans ((a_B (w0.alloc (.cells #[a, b] 35)) (.cells #[.bool false] 4)).mono (by simp))
  refine ⟨fun w' hb => ?_, hB1⟩
  have hs0 : ((w0.alloc (.cells #[a, b] 35)).alloc (.cells #[.bool false] 4)).heap.size = w0.heap.size + 2 := by simp
  have hsz := hb.size
  refine ⟨(hb.cell (p := ⟨w0.heap.size + 1, 0, none⟩) (by rw [hs0]; simp only; omega)).trans (by simp [go_sem]), (hb.frozen (p := ⟨w0.heap.size + 1, 0, none⟩) (by rw [hs0]; simp only; omega)).trans (by simp [go_sem]), hB1.trans (hb.mono hB1.size), by omega⟩
theorem W_w19 {n : Nat} {B : Zone} {x1 : Log} {A0 : Option Addr} {N0 C0 : Nat} {res : Bool} {w0 : World} (hm : g_N n x1 = some res) (hBw : B ≤ w0.heap.size) (p1_0 : a_ w0 B (sl A0 N0 C0) x1.bytes) (p1_1 : inI x1.stored) : j_ Tryz.prog 83 [(.agg #[(sl A0 N0 C0), (vI x1.stored)])] w0 (fun v w' => Bw w0 w' ∧ vB res = v) := by
  constructor
  have hmf : ∀ (fn : Fn) (first cap : Array Value) (w : World), (Instr.makeFunc fn first cap).run Tryz.prog w = .ok (.func fn first cap) w := fun _ _ _ _ => rfl
  have L := n_R (w0 := w0) (a := sl A0 N0 C0) (b := vI x1.stored)
  have hmb := W_w38 (B := B) hm (zt' hBw L.2.size) (p1_0.ext L.2) p1_1
  have H := Lib.hid L.1
  clear L hm p1_0 hBw
  go_enter_defers Tryz.func83, Tryz.ntmps83
  go_wp2_with (go_at_call 113; refine hmb.mono ?_; (rintro e w' (⟨v, rfl, rfl, hb⟩ | ⟨rfl, rfl, hb⟩) <;> (obtain ⟨hc, hz, hB, hsz⟩ := H.out _ hb; clear hmb hb H)))
  · refine leaves_cons (f := 112) (args := #[.pointer (some ⟨w0.heap.size + 1, 0, none⟩)]) (by simp) (by simp [go_sem]) ?_
    refine (n_Q _ _).mono ?_
    rintro e u' w'' ⟨rfl, rfl, rfl⟩
    have hB2 := hB.setCell (p := ⟨w0.heap.size + 1, 0, none⟩) (by simp) (vB true)
    have hB3 := hB2.trans ((a_B (w'.setCell ⟨w0.heap.size + 1, 0, none⟩ (vB true)) (.cells #[] 129)).mono hB2.size)
    have hc3 : ((w'.setCell ⟨w0.heap.size + 1, 0, none⟩ (vB true)).alloc (.cells #[] 129)).cell? ⟨w0.heap.size + 1, 0, none⟩ = some (vB true) :=
      ((a_B (w'.setCell ⟨w0.heap.size + 1, 0, none⟩ (vB true)) (.cells #[] 129)).cell (p := ⟨w0.heap.size + 1, 0, none⟩) (by simpa using hsz)).trans (World.cell?_setCell_same _ _ _ hc)
    simp [Leaves, settle, results, Tryz.results83, go_sem, hc3]
    exact hB3
  · refine leaves_cons (f := 112) (args := #[.pointer (some ⟨w0.heap.size + 1, 0, none⟩)]) (by simp) (by simp [go_sem]) ?_
    refine (n_P ⟨w0.heap.size + 1, 0, none⟩ false [] _ hc hz hsz).mono ?_
    rintro e u' w'' ⟨rfl, rfl, rfl⟩
    have hB2 := hB.trans ((a_B w' (.cells #[] 129)).mono hB.size)
    have hB3 := hB2.setCell (p := ⟨w0.heap.size + 1, 0, none⟩) (by simp) (vB false)
    have hc2 : (w'.alloc (.cells #[] 129)).cell? ⟨w0.heap.size + 1, 0, none⟩ = some (vB false) :=
      ((a_B w' (.cells #[] 129)).cell (p := ⟨w0.heap.size + 1, 0, none⟩) hsz).trans hc
    have hc3 : ((w'.alloc (.cells #[] 129)).setCell ⟨w0.heap.size + 1, 0, none⟩ (vB false)).cell? ⟨w0.heap.size + 1, 0, none⟩ = some (vB false) := World.cell?_setCell_same _ _ _ hc2
    simp [Leaves, settle, results, Tryz.results83, go_sem, hc3]
    exact hB3
theorem W_w1a {x1 : List UInt8} {res : (List o_) × Int} (hm : f_5 n x1 = some res) (hBw : B ≤ w0.z) (p1_0 : a_ w0 B (sl A0 N0 C0) x1) : j_ prog 84 [sl A0 N0 C0] w0 (Q14 w0 B res) := by
 unfold f_5 at hm
 refine goF func84 z z (lb z) fun fn hr => Ws<|Ra z<|Ra z<|Wn<|Ws<|E z (f0 (α := o_) e_j) ?_
 rintro _ w1 ⟨a11, n12, c13, rfl, sc, h14⟩
 refine Ra z<|Wn<|Ws<|Ra z<|Wn ?_
 obtain ⟨u2d, hu15, hmo⟩ := bdS hm
 refine a_L (σ := (List o_) × Int) (ρ := (List o_) × Int) (fun s a w => un2 (fun xd x9 => ∃ a4 n5 c6 S0, Sat 26 [(0, sl A0 N0 C0), (2, sl none 0 0), (3, vI 0), (4, sl a4 n5 c6), (5, vI x9)] a ∧ Chg (· ∈ [w0.z]) w1 w ∧ b_ w S0 (sl a4 n5 c6) xd ∧ S0.Nodup ∧ (∀ k ∈ S0, k ∈ [w0.z] ∨ w1.z ≤ k) ∧ inI x9) s) (fun s a w => un2 (fun xd x9 => ∃ a4 n5 c6 S0, Sat 26 [(2, sl none 0 0), (3, vI 0)] a ∧ Chg (· ∈ [w0.z]) w1 w ∧ b_ w S0 (sl a4 n5 c6) xd ∧ S0.Nodup ∧ (∀ k ∈ S0, k ∈ [w0.z] ∨ w1.z ≤ k) ∧ inI x9) s) (fun r ex a w => ex = .ret ∧ v_ prog fn (Q14 w0 B r) a w) hu15 ?_ ?_ ?_ ?_
 ·exact fun _ q => ⟨a11, n12, c13, [w0.z], (q.k<|s5 z z z z z), (cr [w0.z] w1), h14, a_0, (io sr), (ii z)⟩
 ·rintro ⟨xd, x9⟩ a2e w16 o2f ⟨a4, n5, c6, S0, hS17, sa, hb, hg, hh, hi⟩ hm18
  have hm19 := a_2 hm18
  refine Wu ?_ hS17
  refine Wb<|Ws<|Rm z<|Rm z ?_
  have h1a : ∀ k ∈ [w0.z], ¬ B k := or0 (f_ lr)  (r_ hBw)
  have hp := lt_ sc.s sa.s
  obtain ⟨r2, r1b, r2g, e1c, hmq⟩ := O_ hm19
  refine E z (fc call114 z<|W_w18 (B := B) e1c (zt' hBw hp) (p1_0.g<|(sc.ag B).c sa<|k_ h1a) hi) ?_
  rintro _ wj ⟨s3, ak, nl, cm, Sr, rfl, h1d, h1e, h1f, he, h1g, h1h, ht⟩
  refine Rm z ?_
  iterate 3 refine R z (ext_ z z) ?_
  refine E z (fa c_U) ?_
  rintro _ ws ⟨rfl, hu⟩
  have h7 := hu.below
  have h1i : Blk ws wj.z [vI 0, (Str.v (⟨[]⟩ : Str)), vI 0, sl none 0 0] := hu.blk
  refine E0 (fs (cur' := [vI r2.kind, Str.v r2.name, vI r2.version, sl ak nl cm]) T_ z z h1i z (lb z) (oA z) z) ?_
  rintro _ wv ⟨h1j, s1k⟩
  have h8 := s1k.one
  refine Ra z<|Ra z<|Wn<|Wq<|Ws<|Rm z<|R z (not_ z)<|Wn<|Wc z (fun hcn => ?_) (fun hcn => ?_)
  ·refine Ws<|Rm z<|Rm z<|Ra z<|Ra z<|Wn ?_
   have h1l : ∀ k ∈ S0, w0.z ≤ k := or1 hh (f_ lr) (a_E sc.s)
   exact Wr<|rtO<|qL (som<|ifT hmq hcn).symm<|b_e hr z z ⟨(bM (bup (bup (bM sc sa<|f_ lr) s3) h7) h8<|m1<|lt_ hp s3.s), a4, n5, c6, S0, z, (((hb.e s3).e h7).c h8<|ds<|mno (b_.lt hb) s3.s), hi, hg, h1l⟩
  refine Wk<|Ws<|Rm z<|R z (lN (vs := [vI r2.kind, Str.v r2.name, vI r2.version, sl ak nl cm]) a_H T_ z z fid<|h1j.row 0 4 z)<|E z (fS [(.tmp 22)] e_j z z z (a_p z) (lb z)<|lb z) ?_
  rintro _ ww ⟨rfl, hx⟩
  have hf := hx.below
  have h1m : Blk ww wv.z [vI r2.kind, Str.v r2.name, vI r2.version, sl ak nl cm] := hx.blk
  have h2h := (he.e h7).c h8<|ds<|mnr<|b_.lt he
  obtain ⟨x1n, e1o, hm1p⟩ := bdS (ifF hmq hcn)
  refine E z (b_d (α := o_) e_j e1o z z ((((hb.e s3).e h7).c h8<|ds<|mno (b_.lt hb) s3.s).e hf) hg h1m (k_Z (x := r2) (S1 := Sr) h1d h1e h1f<|((he.e h7).c h8<|ds<|mnr<|b_.lt he).e hf) (a_u ht (b_.lt hb) lr) h1h) ?_
  rintro _ w1q ⟨Sy, a1r, n1s, c1t, rfl, s1u, h1v, h1w, h1x⟩
  refine Ra z<|Wn<|Wg<|Rm z<|Ra z<|Wl ?_
  have hz := lt_ sa.s s3.s
  have h10 : ∀ k ∈ S0, k ∈ [w0.z] ∨ w1.z ≤ k := or1 hh (io sr) (l_ lr)
  have h1y : ∀ k ∈ Sr, k ∈ [w0.z] ∨ w1.z ≤ k := or0 ht  (l_ sa.s)
  have h1z : ∀ k ∈ Sy, k ∈ [w0.z] ∨ w1.z ≤ k := or2 h1x h10 h1y (l_ (lt_ (lt_ (lt_ hz h7.s) h8.s) hf.s))
  have h20 : Chg (· ∈ [w0.z]) w1 w16 := cM (cr [w0.z] w1) sa (io sr)
  have h21 : Chg (· ∈ [w0.z]) w1 wj := z_ h20 s3
  have h22 : Chg (· ∈ [w0.z]) w1 ws := z_ h21 h7
  have h23 : ∀ k ∈ [wj.z], k ∈ [w0.z] ∨ w1.z ≤ k := mor hz
  have h24 : Chg (· ∈ [w0.z]) w1 wv := cM h22 h8 h23
  have h25 : Chg (· ∈ [w0.z]) w1 ww := z_ h24 hf
  have h26 : Chg (· ∈ [w0.z]) w1 w1q := cM h25 s1u h10
  exact fun _ q => ⟨(x1n, r1b), (som hm1p).symm, ⟨a1r, n1s, c1t, Sy, (q.k<|s5 z z z z z), h26, h1v, h1w, h1z, h1g⟩⟩
 ·rintro ⟨xd, x9⟩ a27 w2i rfl ⟨a4, n5, c6, S0, hS2j, s28, hb, hg, hh, hi⟩
  have hm29 := elL hmo
  have hm2a := a_2 hm29
  revert a27
  obtain rfl := som hm2a
  exact b_e hr z z ⟨(bM sc s28<|f_ lr), none, 0, 0, [], z, onL, (ii z), K_, an_⟩
 rintro r2k ex2l a2m w2n rfl ⟨rfl, hq2b⟩
 have hm2c := elR hmo
 obtain rfl := som hm2c
 exact ⟨hq2b, z⟩
theorem W_w39 {x1 : n_} {x2 : o_} {b2 o2 : Nat} {res : Bool} (hm : i_7 x1 x2 = some res) (hBw : B ≤ w0.z) (p1_0 : x1.name.b.length ≤ LEN) (p1_1 : inI x1.version) (p1_2 : a_ w0 B (sl AE NE CE) x1.data) (p2_0 : inI x2.kind) (p2_1 : x2.name.b.length ≤ LEN) (p2_2 : inI x2.version) (p2_3 : a_ w0 B (sl AH NH CH) x2.data) (hC2 : M_ w0 b2 o2 [vI x2.kind, Str.v x2.name, vI x2.version, sl AH NH CH]) (hC2b : B b2) : j_ prog 88 [(.agg #[Str.v x1.name, vI x1.version, sl AE NE CE]), (.pointer (some ⟨b2, o2, none⟩))] w0 (Q11 w0 B res) := by
 unfold i_7 at hm
 refine goF func88 z z (lb z) fun fn hr => Ws<|E z (fb z) ?_
 rintro _ w2 ⟨rfl, h0⟩
 have h1 := h0.below
 have h3 : Blk w2 w0.z [Str.v x1.name, vI x1.version, sl AE NE CE] := h0.blk
 refine Ra z<|Wn<|Ws<|R z (fd g_Y z)<|R z (l1 g_9 z fid<|h3.at z)<|R z (fd c_v z)<|R z (l1 g_9 z fid<|(hC2.e h1).at (j := 1) z)<|R z (e_u z z)<|Ra z<|Wn ?_
 obtain rfl := som hm
 exact Wr<|d_ hr z ⟨h1, z⟩
theorem W_w3a {x1 : List n_} {x2c0 : o_} {pa2c0_3 : Option Addr} {pn2c0_3 pc2c0_3 : Nat} {b2c0 o2c0 : Nat} {res : Int} (hm : g_O x1 x2c0 = some res) (hBw : B ≤ w0.z) (p1_0 : a_ w0 B (sl A0 N0 C0) x1) (p2c0_0 : inI x2c0.kind) (p2c0_1 : x2c0.name.b.length ≤ LEN) (p2c0_2 : inI x2c0.version) (p2c0_3 : a_ w0 B (sl pa2c0_3 pn2c0_3 pc2c0_3) x2c0.data) (hC2c0 : M_ w0 b2c0 o2c0 [vI x2c0.kind, Str.v x2c0.name, vI x2c0.version, sl pa2c0_3 pn2c0_3 pc2c0_3]) (hC2c0b : B b2c0) : j_ prog 87 [sl A0 N0 C0, (.func (.func 88) #[] #[(.pointer (some ⟨b2c0, o2c0, none⟩))])] w0 (Q0 w0 B res) := by
 unfold g_O at hm
 refine goF func87 z z (lb z) fun fn hr => Ws<|Ra z<|Wn<|Wq<|Ws<|Rm z<|R z (lnR b_c z p1_0)<|Rm z<|Wn ?_
 obtain ⟨u12, hug, hma⟩ := bdS hm
 refine Wf (σ := Unit) (ρ := Int) (fun (kb : Nat) (_ : Unit) a w => Sat 19 [(1, (.func (.func 88) #[] #[(.pointer<|some ⟨b2c0, o2c0, none⟩)])), (7, sl A0 N0 C0), (8, vI (x1.length : Int)), (9, (vI ((kb : Nat) : Int)))] a ∧ Below w0.z w0 w) (fun (_ : Unit) a w => Sat 19 [] a ∧ Below w0.z w0 w) (fun r ex a w => ex = .ret ∧ v_ prog fn (Q0 w0 B r) a w) hug ?_ ?_ ?_ ?_ ?_
 ·exact fun _ q => ⟨(q.k<|s4 z z z z), (br w0)⟩
 ·rintro kb _ a13 wc o14 hk4 ⟨hSh, s0⟩ hmi
  refine Wu ?_ hSh
  refine Ws<|R z (lss z z)<|Wn<|Wq<|Wc z (fun _ => ?_) (fun hc => (R_ hk4 hc).elim)
  refine Wk<|Wq<|Wb<|Ws<|Rm z ?_
  obtain ⟨x2, ej, hmk⟩ := bdS hmi
  refine RX z (at_ (α := n_) b_c a_s z z z (p1_0.e s0) ej) ?_
  rintro _ ⟨b15, o16, cs17, rfl, hl, hn, h18⟩
  obtain ⟨a5, n6, c7, rfl, ho, hp, hq⟩ := d_P hn
  refine R z (lN (vs := [Str.v x2.name, vI x2.version, sl a5 n6 c7]) c_q a_s z z fid hl)<|E z (fa e_l) ?_
  rintro _ wm ⟨rfl, hd⟩
  have h1 := hd.below
  have ht : Blk wm wc.z [(Str.v (⟨[]⟩ : Str)), vI 0, sl none 0 0] := hd.blk
  refine Ra z<|E0 (fs (cur' := [Str.v x2.name, vI x2.version, sl a5 n6 c7]) a_s z z ht z (lb z) (oA z) z) ?_
  rintro _ w19 ⟨hu, sr⟩
  have h3 := sr.one
  refine Wn<|Ws<|Rm z<|R z (lN (vs := [Str.v x2.name, vI x2.version, sl a5 n6 c7]) c_q a_s z z fid<|hu.row 0 3 z) ?_
  have h8 : ∀ k ∈ [wc.z], ¬ B k := or0 (f_ lr)  (r_ (zt' hBw s0.s))
  obtain ⟨r1a, es, hme⟩ := bdS hmk
  refine E z (h_9 call88 z z<|W_w39 (B := B) es (zt' hBw<|lt_ (lt_ s0.s h1.s) h3.s) ho hp (hq.g<|(h1.ag B).c h3<|k_ h8) p2c0_0 p2c0_1 p2c0_2 (p2c0_3.g<|((s0.ag B).e h1).c h3<|k_ h8) (((hC2c0.e s0).e h1).c h3<|(k_ h8) _ hC2c0b) hC2c0b) ?_
  rintro _ w1b ⟨sf, rfl⟩
  refine Wn<|Wc z (fun hc9 => ?_) (fun hc9 => ?_)
  ·exact Ws<|Rm z<|Ra z<|Wn<|Wr<|rtO<|qL (som<|ifT hme hc9).symm<|d_ hr z ⟨(bup (bM (bup s0 h1) h3<|m1 s0.s) sf), z, (ic (Nat.le_of_lt hk4)<|lt_ (a_.len p1_0) H_)⟩
  exact Wk<|Wg<|R z (inc_ hk4 (lt_ (a_.len p1_0) H_) z z)<|Rm z<|Wl (fun _ q => ⟨(), (som<|ifF hme hc9).symm, ⟨(q.k<|s4 z z z z), (bup (bM (bup s0 h1) h3<|m1 s0.s) sf)⟩⟩)
 ·rintro _ a1c w1d ⟨hSv, sw⟩
  refine Wu ?_ hSv
  refine Ws<|R z (lss z z)<|Wn<|Wq<|Wc z (fun hc => (S_ hc).elim) (fun _ => ?_)
  exact We (fun a' ha' => ⟨rfl, ⟨(Sat.weaken ha' sn), sw⟩⟩)
 ·rintro _ ax w1e rfl ⟨hS1f, sy⟩
  have hmz := elL hma
  revert ax
  refine Wo<|Ws<|Ra z<|Wn ?_
  obtain rfl := som hmz
  exact Wr<|d_ hr z ⟨sy, z, (ii z)⟩
 rintro r1g ex1h a1i w1j rfl ⟨rfl, hq10⟩
 have hm11 := elR hma
 obtain rfl := som hm11
 exact ⟨hq10, z⟩
theorem W_w1b {x1 : C_} {b1 o1 : Nat} {res : (List n_)} (hm : f_6 n x1 = some res) (hBw : B ≤ w0.z) (p1_0 : a_ w0 B (sl A0 N0 C0) x1.registry.versions) (p1_1 : a_ w0 B (sl A1 N1 C1) x1.log.bytes) (p1_2 : inI x1.log.stored) (hC1 : M_ w0 b1 o1 [sl A0 N0 C0, sl A1 N1 C1, vI x1.log.stored]) (hC1b : B b1) : j_ prog 51 [(.pointer (some ⟨b1, o1, none⟩))] w0 (Q15 w0 B res) := by
 unfold f_6 at hm
 refine goF func51 z z (lb z) fun fn hr => Ws<|Ra z<|Wn<|Ws<|E z (n_8 (α := n_) b_q B) ?_
 rintro _ w6 ⟨a2k, rfl, sn, h2l⟩
 refine Ra z<|Wn<|Ws<|Rm z<|R z (c_c z)<|R z (fd b_H z)<|R z (fd b_h z)<|R z (l1 J_ z fid<|(hC1.e sn).at (j := 1) z) ?_
 obtain ⟨ru, r5h, e2m, hm2n⟩ := a_y hm
 refine E z (fc call84 z<|W_w1a (B := B) e2m (zt' hBw sn.s)<|p1_1.e sn) ?_
 rintro _ w4 ⟨so, av, nw, cx, S5i, rfl, hy, h5j, h5k, h1t⟩
 refine Rm z<|R z (ext_ z z)<|R z (ext_ z z)<|Ra z<|Ra z<|Wn<|Wq<|Ws<|Rm z<|R z (lnR b_I z<|or_ hy<|zin (B := B) h1t<|b_.lt hy)<|Rm z<|Wn ?_
 obtain ⟨u5l, hu2o, hm1u⟩ := bdS hm2n
 refine Wf (σ := (List n_)) (ρ := (List n_)) (fun (kp : Nat) (xi : List n_) a w => ∃ a7 n8 c9 S0, Sat 69 [(3, sl a7 n8 c9), (20, sl av nw cx), (21, vI (ru.length : Int)), (22, (vI ((kp : Nat) : Int)))] a ∧ Below w4.z w4 w ∧ L_ w S0 (zn B w6.z w4.z) (sl a7 n8 c9) xi ∧ S0.Nodup ∧ (∀ k ∈ S0, w4.z ≤ k)) (fun (xi : List n_) a w => ∃ a7 n8 c9 S0, Sat 69 [(3, sl a7 n8 c9)] a ∧ Below w4.z w4 w ∧ L_ w S0 (zn B w6.z w4.z) (sl a7 n8 c9) xi ∧ S0.Nodup ∧ (∀ k ∈ S0, w4.z ≤ k)) (fun r ex a w => ex = .ret ∧ v_ prog fn (Q15 w0 B r) a w) hu2o ?_ ?_ ?_ ?_ ?_
 ·exact fun _ q => ⟨a2k, 0, 0, ([] : List Nat), (q.k<|s4 z z z z), (br w4), (L_.mono (h2l.e so) d_b), K_, an_⟩
 ·rintro kp xi a5m w1j o5n hk1v ⟨a7, n8, c9, S0, hS2p, sh, ha, hj, hd⟩ hm2q
  refine Wu ?_ hS2p
  refine Ws<|R z (lss z z)<|Wn<|Wq<|Wc z (fun _ => ?_) (fun hc => (R_ hk1v hc).elim)
  refine Wk<|Wq<|Wb<|Ws ?_
  obtain ⟨x2, e2r, hm2s⟩ := bdS hm2q
  refine RX z (at_ (α := o_) b_I T_ z z z (or_ (hy.e sh)<|zin (B := B) h1t<|b_.lt hy) e2r) ?_
  rintro _ ⟨b5o, o5p, cs5q, rfl, h2t, h2u, h5r⟩
  obtain ⟨ak, nl, cm, rfl, h2v, h1k, h1l, h1m⟩ := d_Q h2u
  refine R z (lN (vs := [vI x2.kind, Str.v x2.name, vI x2.version, sl ak nl cm]) a_H T_ z z fid h2t)<|E z (fa c_U) ?_
  rintro _ w1w ⟨rfl, h1x⟩
  have he := h1x.below
  have h13 : Blk w1w w1j.z [vI 0, (Str.v (⟨[]⟩ : Str)), vI 0, sl none 0 0] := h1x.blk
  refine E0 (fs (cur' := [vI x2.kind, Str.v x2.name, vI x2.version, sl ak nl cm]) T_ z z h13 z (lb z) (oA z) z) ?_
  rintro _ w5s ⟨h1y, s2w⟩
  have h5 := s2w.one
  refine Wn<|Ws<|Rm z<|R z (o_x z) ?_
  have h14 := lt_ sn.s so.s
  have h1z := lt_ h14 sh.s
  have h20 : ∀ k ∈ [w1j.z], ¬ (zn B w6.z w4.z) k := or0 (f_ lr)  (c_a (r_ (zt' hBw h1z)) sh.s)
  have hz := (ha.e he).c h5 (ds<|mnr<|L_.lt ha)<|k_ h20
  have h1n := (he.ag<|zn B w6.z w4.z).c h5<|k_ h20
  have hq := lt_ sh.s he.s
  have h10 := lt_ (lt_ h1z he.s) h5.s
  obtain ⟨r21, e2x, hm2y⟩ := bdS hm2s
  refine E z (fc call87 z<|W_w3a (B := (zn B w6.z w1w.z)) e2x (f_s (zt' hBw h10) h5.s) (a_.mono (L_.rep hz (zall (zin (B := B) hd<|L_.lt ha)<|b_i so.s lr)<|b_i lr sh.s)<|b_i lr he.s) h2v h1k h1l (a_.mono (h1m.g h1n)<|b_i lr hq) (h1y.row 0 4 z)<|zap' (b_i (lt_ so.s sh.s) lr)<|atp<|zin (B := B) (f_ lr)<|f_ h13.lt) ?_
  rintro _ wr ⟨s3, rfl, h5t⟩
  refine Ra z<|Wn<|Ws<|R z (fd c_v z) ?_
  have h11 := h1y.e s3
  refine R z (l1 g_9 z fid<|h11.at z)<|R z (fd b_O z)<|R z (l1 g_3 z fid<|h11.at z)<|R z (fd c_w z)<|R z (l1 J_ z fid<|h11.at z)<|R z (bP (parts := [(0, (.tmp 30)), (1, (.tmp 32)), (2, (.tmp 34))]) (cs := [Str.v x2.name, vI x2.version, sl ak nl cm]) g_V z z)<|E z (fa e_l) ?_
  rintro _ w2z ⟨rfl, h22⟩
  have hf := h22.below
  have h30 : Blk w2z wr.z [(Str.v (⟨[]⟩ : Str)), vI 0, sl none 0 0] := h22.blk
  refine E0 (fs (cur' := [Str.v x2.name, vI x2.version, sl ak nl cm]) a_s z z h30 z (lb z) (oA z) z) ?_
  rintro _ w15 ⟨h23, s31⟩
  have hg := s31.one
  refine Wn<|Wb<|Wq ?_
  obtain ⟨u32, hu24, hm33⟩ := bdS hm2y
  refine Wt (fun a w => ∃ (x1o : Bool), x1o = u32 ∧ Sat 69 [(3, sl a7 n8 c9), (7, pt w1j.z), (8, vI r21), (9, pt wr.z), (20, sl av nw cx), (21, vI (ru.length : Int)), (22, (vI ((kp : Nat) : Int))), (36, vB x1o)] a ∧ Below w15.z w15 w) ?_ ?_
  ·refine Wg<|R z (fd b_N z)<|R z (l1 g_3 z fid<|((h11.e hf).c hg<|djs<|mm1 h13.lt<|lt_ h5.s s3.s).at z)<|R z (eql z z)<|Rm z ?_
   rcases bs (x2.kind == 1) with hcc | hcc
   ·exact Rh z hcc (mv z)<|Rh z hcc (a_M z z)<|R z (pT z hcc z)<|Ra z<|Wl (fun _ q => ⟨decide (0 ≤ r21), som<|ifT hu24 hcc, (q.k<|s8 z z z z z z z z), (br w15)⟩)
   exact Nh z hcc<|Nh z hcc<|R z (pF z hcc z)<|Ra z<|Wl (fun _ q => ⟨false, som<|ifF hu24 hcc, (q.k<|s8 z z z z z z z z), (br w15)⟩)
  rintro a34 w1 ⟨x1o, rfl, hS5u, sb⟩
  revert a34
  refine Wo ?_
  obtain ⟨u35, hu25, hm36⟩ := bdS hm33
  refine Wt (fun a w => ∃ (x16 : List n_), x16 = u35 ∧ ∃ a17 n18 c19 S12, Sat 69 [(3, sl a17 n18 c19), (20, sl av nw cx), (21, vI (ru.length : Int)), (22, (vI ((kp : Nat) : Int)))] a ∧ Chg (· ∈ S0) w1 w ∧ L_ w S12 (zn B w6.z w4.z) (sl a17 n18 c19) x16 ∧ S12.Nodup ∧ (∀ k ∈ S12, k ∈ S0 ∨ w1.z ≤ k)) ?_ ?_
  ·refine Wc z (fun hc1p => ?_) (fun hc1p => ?_)
   ·refine Wg<|Rm z<|Rm z<|R z (lN (vs := [Str.v x2.name, vI x2.version, sl ak nl cm]) c_q a_s z z fid<|(h23.e sb).row 0 3 z) ?_
    obtain ⟨x37, e26, hm38⟩ := bdS (ifT hu25 hc1p)
    have h27 : ∀ k ∈ [wr.z], ¬ (zn B w6.z w4.z) k := or0 (f_ lr)  (c_a (r_ (zt' hBw (lt_ h10 s3.s))) (lt_ (lt_ hq h5.s) s3.s))
    have h28 := (((hz.e s3).e hf).c hg (ds<|mno (L_.lt ha)<|lt_ (lt_ he.s h5.s) s3.s)<|k_ h27).e sb
    refine RX z (r_o (α := n_) b_c a_s z z h28 e26) ?_
    rintro _ ⟨g5v, h39, rfl⟩
    have h3a : ∀ k ∈ S0, ¬ (zn B w6.z w4.z) k := or0 hd  (c_a (r_ (zt' hBw h14)) lr)
    refine E0 (r_i (α := n_) a_s z h39 z z z e26 h28 hj (f_i (x := (⟨x2.name, x2.version, x2.data⟩ : n_)) h1k h1l<|h1m.g<|(((h1n.e s3).e hf).c hg<|k_ h27).e sb) h3a) ?_
    rintro _ w3b ⟨S29, s3c, h3d, h3e, h3f⟩
    refine Wl ?_
    have h3g : ∀ k ∈ S29, k ∈ S0 ∨ w1.z ≤ k := or1 h3f (io sr) (l_ lr)
    have h3h : Chg (· ∈ S0) w1 w3b := cM (cr S0 w1) s3c (io sr)
    exact fun _ q => ⟨x37, som hm38, a7, n8, c9, S29, (q.k<|s4 z z z z), h3h, h3d, h3e, h3g⟩
   refine Ws<|R z (fd b_N z)<|R z (l1 g_3 z fid<|(((h11.e hf).c hg<|djs<|mm1 h13.lt<|lt_ h5.s s3.s).e sb).at z)<|R z (eql z z)<|Ra z<|Wn ?_
   obtain ⟨u3i, hu2a, hm3j⟩ := bdS (ifF hu25 hc1p)
   refine Wt (fun a w => ∃ (x1a : List n_), x1a = u3i ∧ ∃ a1b n1c c1d Ss, Sat 69 [(3, sl a1b n1c c1d), (20, sl av nw cx), (21, vI (ru.length : Int)), (22, (vI ((kp : Nat) : Int)))] a ∧ Chg (· ∈ S0) w1 w ∧ L_ w Ss (zn B w6.z w4.z) (sl a1b n1c c1d) x1a ∧ Ss.Nodup ∧ (∀ k ∈ Ss, k ∈ S0 ∨ w1.z ≤ k)) ?_ ?_
   ·refine Wc z (fun hc1q => ?_) (fun hc1q => ?_)
    ·refine Wg<|Rm z<|R z (lN (vs := [Str.v x2.name, vI x2.version, sl ak nl cm]) c_q a_s z z fid<|(h23.e sb).row 0 3 z)<|E z (fS [(.tmp 53)] b_q z z z (a_p z) (lb z)<|lb z) ?_
     rintro _ w2b ⟨rfl, h2c⟩
     have h1e := h2c.below
     have h3k : Blk w2b w1.z [Str.v x2.name, vI x2.version, sl ak nl cm] := h2c.blk
     have h2d : ∀ k ∈ [wr.z], ¬ (zn B w6.z w4.z) k := or0 (f_ lr)  (c_a (r_ (zt' hBw (lt_ h10 s3.s))) (lt_ (lt_ hq h5.s) s3.s))
     obtain ⟨x3l, e3m, hm3n⟩ := bdS (ifT hu2a hc1q)
     have h3o : ∀ k ∈ S0, ¬ (zn B w6.z w4.z) k := or0 hd  (c_a (r_ (zt' hBw h14)) lr)
     refine E z (h_U (α := n_) b_q e3m z z (((((hz.e s3).e hf).c hg (ds<|mno (L_.lt ha)<|lt_ (lt_ he.s h5.s) s3.s)<|k_ h2d).e sb).e h1e) hj h3k (f_i (x := (⟨x2.name, x2.version, x2.data⟩ : n_)) h1k h1l<|h1m.g<|((((h1n.e s3).e hf).c hg<|k_ h2d).e sb).e h1e) h3o) ?_
     rintro _ w3p ⟨S2e, a3q, n3r, c3s, rfl, s3t, h3u, h3v, h3w⟩
     refine Ra z<|Wl ?_
     have h3x : ∀ k ∈ S2e, k ∈ S0 ∨ w1.z ≤ k := or1 h3w (io sr) (l_ h1e.s)
     have h3y : Chg (· ∈ S0) w1 w2b := z_ (cr S0 w1) h1e
     have h3z : Chg (· ∈ S0) w1 w3p := cM h3y s3t (io sr)
     exact fun _ q => ⟨x3l, som hm3n, a3q, n3r, c3s, S2e, (q.k<|s4 z z z z), h3z, h3u, h3v, h3x⟩
    refine Ws<|Rm z<|R z (a_M z z)<|Ra z<|Wn ?_
    obtain ⟨u40, hu2f, hm41⟩ := bdS (ifF hu2a hc1q)
    refine Wt (fun a w => ∃ (x1f : List n_), x1f = u40 ∧ ∃ a1g n1h c1i St, Sat 69 [(3, sl a1g n1h c1i), (20, sl av nw cx), (21, vI (ru.length : Int)), (22, (vI ((kp : Nat) : Int)))] a ∧ Chg (· ∈ S0) w1 w ∧ L_ w St (zn B w6.z w4.z) (sl a1g n1h c1i) x1f ∧ St.Nodup ∧ (∀ k ∈ St, k ∈ S0 ∨ w1.z ≤ k)) ?_ ?_
    ·refine Wc z (fun hc1r => ?_) (fun hc1r => ?_)
     ·refine Wd (X := noX) 128 (.rd 0 (.rd 1 (.rd 2 (.rd 3 (.rd 4 (.rd 5 (.rd 6 (.ef 7 (.rd 8 .done))))))))) mo (by kernel_rfl) fun w42 s1s _ => dR z z (mv z)<|dR z z (mv z) ?_
      obtain ⟨x5w, e43, hm44⟩ := bdS (ifT hu2f hc1r)
      have h45 : ∀ k ∈ [wr.z], ¬ (zn B w6.z w4.z) k := or0 (f_ lr)  (c_a (r_ (zt' hBw (lt_ h10 s3.s))) (lt_ (lt_ hq h5.s) s3.s))
      have h2g := ((((hz.e s3).e hf).c hg (ds<|mno (L_.lt ha)<|lt_ (lt_ he.s h5.s) s3.s)<|k_ h45).e sb).e s1s
      refine dRX z z (r_n b_c a_s z h2g z e43) ?_
      rintro _ ⟨n5x, rfl, h46⟩
      refine dR z z (mv z)<|dR z z (mv z)<|dR z z (add_ z z) ?_
      obtain ⟨x5y, e47, hm48⟩ := bdS hm44
      refine dRX z z (r_k b_c a_s z z h2g z z e47) ?_
      rintro _ ⟨a5z, n60, c61, rfl, h49⟩
      obtain ⟨x4a, e4b, hm4c⟩ := bdS hm48
      have h4d : ∀ k ∈ S0, ¬ (zn B w6.z w4.z) k := or0 hd  (c_a (r_ (zt' hBw h14)) lr)
      refine dE z z (r_j (α := n_) b_q e4b z z h46 hj h49 h4d) (.inl z) ?_
      rintro _ w4e ⟨S2h, a4f, n4g, c4h, rfl, s4i, h4j, h4k, h4l⟩
      refine dR z z (asg z)<|pD ?_
      have h4m : ∀ k ∈ S2h, k ∈ S0 ∨ w1.z ≤ k := or1 h4l (io sr) (l_ s1s.s)
      have h4n : Chg (· ∈ S0) w1 w42 := z_ (cr S0 w1) s1s
      have h4o : Chg (· ∈ S0) w1 w4e := cM h4n s4i (io sr)
      exact fun _ q => ⟨x4a, som hm4c, a4f, n4g, c4h, S2h, (q.k<|s4 z z z z), h4o, h4j, h4k, h4m⟩
     refine a_J ?_
     have h4p : ∀ k ∈ [wr.z], ¬ (zn B w6.z w4.z) k := or0 (f_ lr)  (c_a (r_ (zt' hBw (lt_ h10 s3.s))) (lt_ (lt_ hq h5.s) s3.s))
     exact fun _ q => ⟨xi, som<|ifF hu2f hc1r, a7, n8, c9, S0, (q.k<|s4 z z z z), (cr S0 w1), ((((hz.e s3).e hf).c hg (ds<|mno (L_.lt ha)<|lt_ (lt_ he.s h5.s) s3.s)<|k_ h4p).e sb), hj, (io sr)⟩
    rintro a4q w4r ⟨x1f, rfl, a1g, n1h, c1i, St, hS62, s4s, h4t, h4u, h4v⟩
    revert a4q
    have h4w : ∀ k ∈ St, k ∈ S0 ∨ w1.z ≤ k := or1 h4v (io sr) (l_ lr)
    have h4x : Chg (· ∈ S0) w1 w4r := cM (cr S0 w1) s4s (io sr)
    exact fun _ q => ⟨x1f, som hm41, a1g, n1h, c1i, St, (q.k<|s4 z z z z), h4x, h4t, h4u, h4w⟩
   rintro a4y w4z ⟨x1a, rfl, a1b, n1c, c1d, Ss, hS63, s50, h51, h52, h53⟩
   revert a4y
   have h54 : ∀ k ∈ Ss, k ∈ S0 ∨ w1.z ≤ k := or1 h53 (io sr) (l_ lr)
   have h55 : Chg (· ∈ S0) w1 w4z := cM (cr S0 w1) s50 (io sr)
   exact fun _ q => ⟨x1a, som hm3j, a1b, n1c, c1d, Ss, (q.k<|s4 z z z z), h55, h51, h52, h54⟩
  rintro a56 w64 ⟨x16, rfl, a17, n18, c19, S12, hS65, s57, h58, h59, h5a⟩
  revert a56
  refine Wo<|Wg<|R z (inc_ hk1v (lt_ (b_.len hy) H_) z z)<|Rm z<|Wl ?_
  have h2i := lt_ (lt_ hq h5.s) s3.s
  exact fun _ q => ⟨x16, (som hm36).symm, ⟨a17, n18, c19, S12, (q.k<|s4 z z z z), (bM (bup (bM (bup (bup (bM (bup sh he) h5<|m1 sh.s) s3) hf) hg<|m1 h2i) sb) s57 hd), h58, h59, (a_x h5a hd<|lt_ (lt_ (lt_ h2i hf.s) hg.s) sb.s)⟩⟩
 ·rintro xi a66 w67 ⟨a7, n8, c9, S0, hS5b, s5c, ha, hj, hd⟩
  refine Wu ?_ hS5b
  refine Ws<|R z (lss z z)<|Wn<|Wq<|Wc z (fun hc => (S_ hc).elim) (fun _ => ?_)
  exact We (fun a' ha' => ⟨rfl, ⟨a7, n8, c9, S0, (Sat.weaken ha'<|s1 z), s5c, ha, hj, hd⟩⟩)
 ·rintro xi a5d w68 rfl ⟨a7, n8, c9, S0, hS69, s2j, ha, hj, hd⟩
  have hm5e := elL hm1u
  revert a5d
  refine Wo<|Ws<|Rm z<|Ra z<|Wn ?_
  obtain rfl := som hm5e
  exact Wr<|d_ hr z ⟨(bup (bup sn so) s2j), a7, n8, c9, z, (a_.mono (L_.rep ha (zall (zin (B := B) hd<|L_.lt ha)<|b_i so.s lr)<|b_i lr s2j.s)<|b_i sn.s lr)⟩
 rintro r6a ex6b a6c w6d rfl ⟨rfl, hq5f⟩
 have hm5g := elR hm1u
 obtain rfl := som hm5g
 exact ⟨hq5f, z⟩
theorem W_w3b {x1 : V_} {x2 : Int} {res : Bool} (hm : i_8 x1 x2 = some res) (hBw : B ≤ w0.z) (p1_0 : a_ w0 B (sl A0 N0 C0) x1.versions) (p2_0 : inI x2) : j_ prog 85 [(.agg #[sl A0 N0 C0]), vI x2] w0 (Q11 w0 B res) := by
 unfold i_8 at hm
 refine goF func85 z z (lb z) fun fn hr => Ws<|E z (fb z) ?_
 rintro _ w1 ⟨rfl, h2⟩
 have h4 := h2.below
 have h6 : Blk w1 w0.z [sl A0 N0 C0] := h2.blk
 refine Ra z<|Wn<|Wq ?_
 obtain ⟨u7, hu5, hm8⟩ := bdS hm
 refine Wt (fun a w => ∃ (x3 : Bool), x3 = u7 ∧ Sat 14 [(4, vB x3)] a ∧ Below w1.z w1 w) ?_ ?_
 ·refine Wg<|Rm z<|R z (a_M z z)<|Rm z ?_
  rcases bs (decide (0 ≤ x2)) with hc0 | hc0
  ·exact Rh z hc0 (mv z)<|Rh z hc0 (fd b_y z)<|Rh z hc0 (l1 b_G z fid<|h6.at z)<|Rh z hc0 (lnR a_S z<|p1_0.e h4)<|Rh z hc0 (lss z z)<|R z (pT z hc0 z)<|Ra z<|Wl (fun _ q => ⟨decide (x2 < (x1.versions.length : Int)), som<|ifT hu5 hc0, (q.k<|s1 z), (br w1)⟩)
  iterate 5 refine Nh z hc0 ?_
  exact R z (pF z hc0 z)<|Ra z<|Wl (fun _ q => ⟨false, som<|ifF hu5 hc0, (q.k<|s1 z), (br w1)⟩)
 rintro a9 wb ⟨x3, rfl, hSc, sa⟩
 revert a9
 refine Wo ?_
 obtain rfl := som hm8
 exact Wr<|d_ hr z ⟨(bup h4 sa), z⟩
theorem W_w1c {x1 : g_} {res : Int} (hm : g_e x1 = some res) (hBw : B ≤ w0.z) (p1_0 : a_ w0 B (sl A0 N0 C0) x1.rules) : j_ prog 139 [(.agg #[sl A0 N0 C0])] w0 (Q0 w0 B res) := by
 unfold g_e at hm
 refine goF func139 z z (lb z) fun fn hr => Ws<|E z (fb z) ?_
 rintro _ w2 ⟨rfl, h0⟩
 have h1 := h0.below
 have h3 : Blk w2 w0.z [sl A0 N0 C0] := h0.blk
 refine Ra z<|Wn<|Ws<|R z (fd a_j z)<|R z (l1 a_o z fid<|h3.at z)<|R z (lnR X_ z<|p1_0.e h1)<|R z (sb_ z z)<|Ra z<|Wn ?_
 obtain rfl := som hm
 exact Wr<|d_ hr z ⟨h1, z, (iS _ _)⟩
theorem W_w3c {x1 : g_} {x2 : Int} {res : Bool} (hm : g_f n x1 x2 = some res) (hBw : B ≤ w0.z) (p1_0 : a_ w0 B (sl A0 N0 C0) x1.rules) (p2_0 : inI x2) : j_ prog 153 [(.agg #[sl A0 N0 C0]), vI x2] w0 (Q11 w0 B res) := by
 unfold g_f at hm
 refine goF func153 z z (lb z) fun fn hr => Ws<|E z (fb z) ?_
 rintro _ w3 ⟨rfl, h5⟩
 have h1 := h5.below
 have h6 : Blk w3 w0.z [sl A0 N0 C0] := h5.blk
 refine Ra z<|Wn<|Wq ?_
 obtain ⟨u8, hu9, hma⟩ := bdS hm
 refine Wt (fun a w => ∃ (x4 : Bool), x4 = u8 ∧ Sat 12 [(4, vB x4)] a ∧ Below w3.z w3 w) ?_ ?_
 ·refine Wg<|R z (lN (vs := [sl A0 N0 C0]) P_ F_ z z fid<|h6.row 0 1 z) ?_
  obtain ⟨rb, ec, hm7⟩ := bdS hu9
  refine E z (fc call111 z<|W_w14 (B := B) ec (zt' hBw h1.s)<|p1_0.e h1) ?_
  rintro _ wj ⟨s2, rfl⟩
  refine Rm z ?_
  rcases bs rb with hc0 | hc0
  ·refine Rh z hc0 (lN (vs := [sl A0 N0 C0]) P_ F_ z z fid<|(h6.e s2).row 0 1 z)<|Rh z hc0 (mv z) ?_
   obtain ⟨rd, ee, hmf⟩ := bdS (ifT hm7 hc0)
   refine Eg z z hc0 z (fc call150 z<|i_w (B := B) ee (zt' hBw<|lt_ h1.s s2.s) (p1_0.g<|(h1.ag B).e s2) p2_0) ?_
   rintro _ wk ⟨sg, rfl⟩
   exact R z (pT z hc0 z)<|Ra z<|Wl (fun _ q => ⟨rd, som hmf, (q.k<|s1 z), (bup s2 sg)⟩)
  iterate 3 refine Nh z hc0 ?_
  exact R z (pF z hc0 z)<|Ra z<|Wl (fun _ q => ⟨false, som<|ifF hm7 hc0, (q.k<|s1 z), s2⟩)
 rintro ah wl ⟨x4, rfl, hSm, si⟩
 revert ah
 refine Wo ?_
 obtain rfl := som hma
 exact Wr<|d_ hr z ⟨(bup h1 si), z⟩
def Q20 (w0 : World) (B : Zone) (r : (Option (Int × Int))) (v : Value) (w' : World) : Prop := Bw w0 w' ∧ (fun r1 => ∃ (v1 : Value) (S1 : List Nat), v1 = v ∧ a_k 162 w' S1 v1 r1 ∧ (∀ k ∈ S1, w0.z ≤ k)) r
theorem d_n {x1 : Int} {x2 : Int} {res : (Option (Int × Int))} (hm : b_p x1 x2 = some res) (hBw : B ≤ w0.z) (p1_0 : inI x1) (p2_0 : inI x2) : j_ prog 190 [vI x1, vI x2] w0 (Q20 w0 B res) := by
 unfold b_p at hm
 refine goF func190 z z (lb z) fun fn hr => Ws<|Ra z<|Wn<|Ws<|Rm z<|Rm z<|R z (bP (parts := [(0, (.tmp 5)), (1, (.tmp 6))]) (cs := [vI x1, vI x2]) n_F z z)<|E z (fb z) ?_
 rintro _ w1 ⟨rfl, h0⟩
 have h2 : Blk w1 w0.z [vI x1, vI x2] := h0.blk
 refine R z (f_w d_162 (fun _ h => by cases h) z)<|Ra z<|Wn ?_
 obtain rfl := som hm
 exact Wr<|d_ hr z ⟨h0.below, (.iface 162<|pt w0.z), [w0.z], z, (o_S h2 p1_0 p2_0 z), (f_ lr)⟩
def Q21 (w0 : World) (B : Zone) (r : (List UInt8) × (Option (Int × Int))) (v : Value) (w' : World) : Prop := Bw w0 w' ∧ un2 (fun r1 r2 => ∃ (a1 : Option Addr) (n1 c1 : Nat) (v2 : Value) (S2 : List Nat), v = .tuple #[sl a1 n1 c1, v2] ∧ a_ w' w'.z (sl a1 n1 c1) r1 ∧ a_k 162 w' S2 v2 r2 ∧ (∀ k ∈ S2, w0.z ≤ k)) r
theorem h_3 {x1 : a_b} {b1 o1 : Nat} {x2 : Int} {x3 : Int} {res : (List UInt8) × (Option (Int × Int))} (hm : d_H x1 x2 x3 = some res) (hBw : B ≤ w0.z) (p1_0 : a_ w0 B (sl A0 N0 C0) x1.d.rules) (p1_1 : a_ w0 B (sl A1 N1 C1) x1.b) (hC1 : M_ w0 b1 o1 [sl A0 N0 C0, sl A1 N1 C1]) (hC1b : B b1) (p2_0 : inI x2) (p3_0 : inI x3) : j_ prog 203 [(.pointer (some ⟨b1, o1, none⟩)), vI x2, vI x3] w0 (Q21 w0 B res) := by
 unfold d_H at hm
 refine goF func203 z z (lb z) fun fn hr => Ws<|Ra z<|Ra z<|Wn<|Wq<|Ws<|Rm z<|Rm z<|R z (c_c z)<|R z (fd e_k z)<|R z (l1 J_ z fid<|hC1.at (j := 1) z)<|R z (lnR h_ z p1_1)<|Rm z<|R z (sb_ z z)<|R z (a_c z z)<|Wn<|Wc z (fun hc0 => ?_) (fun hc0 => ?_)
 ·refine Ws<|Rm z ?_
  obtain ⟨re, e2, hm3⟩ := bdS (ifT hm hc0)
  refine E z (fc call190 z<|d_n (B := B) e2 hBw p2_0<|ii z) ?_
  rintro _ wf ⟨s1, v4, S5, rfl, h6, h7⟩
  refine Ra z<|Ra z<|Wn ?_
  obtain rfl := som hm3
  exact Wr<|b_e hr z z ⟨s1, none, 0, 0, v4, S5, z, (a_.mono (or_ onL an_)<|b_5 s1.s), h6, h7⟩
 refine Wk<|Ws<|Rm z<|R z (c_c z)<|R z (fd e_k z)<|R z (l1 J_ z fid<|hC1.at (j := 1) z)<|Rm z<|Rm z<|Rm z<|R z (add_ z z) ?_
 obtain ⟨xg, e8, hm9⟩ := bdS (ifF hm hc0)
 refine RX z (rX h_ z_5 z z p1_1 z z e8) ?_
 rintro _ ⟨aa, nb, cc, rfl, hd⟩
 refine Ra z<|Ra z<|Wn ?_
 obtain rfl := som hm9
 exact Wr<|b_e hr z z ⟨(br w0), aa, nb, cc, .nilIface, ([] : List Nat), z, (a_.mono hd hBw), d_s, an_⟩
theorem W_w3d {x1 : List UInt8} {x2 : Bool} {res : Int} (hm : g_g x1 x2 = some res) (hBw : B ≤ w0.z) (p1_0 : a_ w0 B (sl A0 N0 C0) x1) : j_ prog 204 [sl A0 N0 C0, vB x2] w0 (Q0 w0 B res) := by
 unfold g_g at hm
 refine goF func204 z z (lb z) fun fn hr => Ws<|Ra z<|Wn<|Wq<|Ws<|Rm z<|R z (lnR h_ z p1_0)<|R z (a_c z z)<|Wn<|Wc z (fun hc4 => ?_) (fun hc4 => ?_)
 ·refine Ws<|Ra z<|Wn ?_
  obtain rfl := som (ifT hm hc4)
  exact Wr<|d_ hr z ⟨(br w0), z, (ii z)⟩
 refine Wk<|Ws<|Ra z<|Wn<|Wq<|Ws<|Rm z<|R z (lnR h_ z p1_0)<|Rm z<|Wn ?_
 obtain ⟨u11, huc, hm8⟩ := bdS (ifF hm hc4)
 refine Wf (σ := Int) (ρ := Int) (fun (k5 : Nat) (x0 : Int) a w => Sat 38 [(0, sl A0 N0 C0), (1, vB x2), (5, vI x0), (11, vI (x1.length : Int)), (12, (vI ((k5 : Nat) : Int)))] a ∧ Below w0.z w0 w ∧ inI x0) (fun (x0 : Int) a w => Sat 38 [(5, vI x0)] a ∧ Below w0.z w0 w ∧ inI x0) (fun r ex a w => ex = .ret ∧ v_ prog fn (Q0 w0 B r) a w) huc ?_ ?_ ?_ ?_ ?_
 ·exact fun _ q => ⟨(q.k<|s5 z z z z z), (br w0), (ii z)⟩
 ·rintro k5 x0 a12 w1 o13 hk9 ⟨hSd, s6, h2⟩ hme
  refine Wu ?_ hSd
  refine Ws<|R z (lss z z)<|Wn<|Wq<|Wc z (fun _ => ?_) (fun hc => (R_ hk9 hc).elim)
  refine Wk<|Wq<|Wb<|Ws<|Rm z<|Ra z<|Wn<|Ws<|Rm z<|Wn ?_
  obtain ⟨uf, hua, hmg⟩ := bdS hme
  refine Wt (fun a w => ∃ (x3 : Int), x3 = uf ∧ Sat 38 [(0, sl A0 N0 C0), (1, vB x2), (5, vI x3), (11, vI (x1.length : Int)), (12, (vI ((k5 : Nat) : Int)))] a ∧ Below w1.z w1 w ∧ inI x3) ?_ ?_
  ·refine Wc z (fun hc7 => ?_) (fun hc7 => ?_)
   ·refine Wg<|Rm z<|R z (f_v z z (by decide))<|Rm z<|Rm z ?_
    have hb := p1_0.e s6
    refine R z (lnR h_ z hb)<|R z (sb_ z z)<|Rm z<|R z (sb_ z z) ?_
    obtain ⟨xh, ei, hmj⟩ := bdS (ifT hua hc7)
    refine RX z (at_ (α := UInt8) h_ z_5 z z z hb ei) ?_
    rintro _ ⟨b14, o15, cs16, rfl, hk, hl, h17⟩
    obtain rfl := u8 hl
    exact R z (l1 g_5 z fid<|hk.at0 z)<|R z (b_4 d_5 d_3 z)<|R z (j_C z z)<|Ra z<|Wl (fun _ q => ⟨b_f .i64 (· ||| ·) (a_P .i64 x0 8)<|byteI xh, som hmj, (q.k<|s5 z z z z z), (br w1), (l_4 _ _ _)⟩)
   refine Wg<|Rm z<|R z (f_v z z (by decide))<|Rm z<|Rm z ?_
   obtain ⟨xm, en, hmo⟩ := bdS (ifF hua hc7)
   refine RX z (at_ (α := UInt8) h_ z_5 z z z (p1_0.e s6) en) ?_
   rintro _ ⟨b18, o19, cs1a, rfl, hp, hq, h1b⟩
   obtain rfl := u8 hq
   exact R z (l1 g_5 z fid<|hp.at0 z)<|R z (b_4 d_5 d_3 z)<|R z (j_C z z)<|Ra z<|Wl (fun _ q => ⟨b_f .i64 (· ||| ·) (a_P .i64 x0 8)<|byteI xm, som hmo, (q.k<|s5 z z z z z), (br w1), (l_4 _ _ _)⟩)
  rintro ar w1c ⟨x3, rfl, hS1d, ss, ht⟩
  revert ar
  exact Wo<|Wg<|R z (inc_ hk9 (lt_ (a_.len p1_0) H_) z z)<|Rm z<|Wl (fun _ q => ⟨x3, (som hmg).symm, ⟨(q.k<|s5 z z z z z), (bup s6 ss), ht⟩⟩)
 ·rintro x0 a1e w1f ⟨hSu, sv, h2⟩
  refine Wu ?_ hSu
  refine Ws<|R z (lss z z)<|Wn<|Wq<|Wc z (fun hc => (S_ hc).elim) (fun _ => ?_)
  exact We (fun a' ha' => ⟨rfl, ⟨(Sat.weaken ha'<|s1 z), sv, h2⟩⟩)
 ·rintro x0 aw w1g rfl ⟨hS1h, sx, h2⟩
  have hmy := elL hm8
  revert aw
  refine Wo<|Ws<|Rm z<|Ra z<|Wn ?_
  obtain rfl := som hmy
  exact Wr<|d_ hr z ⟨sx, z, h2⟩
 rintro r1i ex1j a1k w1l rfl ⟨rfl, hqz⟩
 have hm10 := elR hm8
 obtain rfl := som hm10
 exact ⟨hqz, z⟩
def Q22 (w0 : World) (B : Zone) (r : Int × Int × (Option (Int × Int))) (v : Value) (w' : World) : Prop := Bw w0 w' ∧ un3 (fun r1 r2 r3 => ∃ (v1 : Value) (S1 : List Nat), v = .tuple #[vI r1, vI r2, v1] ∧ inI r1 ∧ inI r2 ∧ a_k 162 w' S1 v1 r3 ∧ (∀ k ∈ S1, w0.z ≤ k)) r
theorem h_4 {x1 : a_b} {b1 o1 : Nat} {x2 : Int} {x3 : Int} {res : Int × Int × (Option (Int × Int))} (hm : d_I x1 x2 x3 = some res) (hBw : B ≤ w0.z) (p1_0 : a_ w0 B (sl A0 N0 C0) x1.d.rules) (p1_1 : a_ w0 B (sl A1 N1 C1) x1.b) (hC1 : M_ w0 b1 o1 [sl A0 N0 C0, sl A1 N1 C1]) (hC1b : B b1) (p2_0 : inI x2) (p3_0 : inI x3) : j_ prog 181 [(.pointer (some ⟨b1, o1, none⟩)), vI x2, vI x3] w0 (Q22 w0 B res) := by
 unfold d_I at hm
 refine goF func181 z z (lb z) fun fn hr => Ws<|Ra z<|Ra z<|Ra z<|Wn<|Ws<|Rm z<|R z (c_c z)<|R z (fd k_D z)<|R z (fd a_j z)<|R z (l1 a_o z fid<|hC1.at (j := 0) z)<|Rm z ?_
 obtain ⟨x5, eq, hmr⟩ := bdS hm
 refine RX z (at_ (α := e_) X_ t_ z z z p1_0 eq) ?_
 rintro _ ⟨b18, o19, cs1a, rfl, ht, hu, h1b⟩
 obtain ⟨a6, n7, c8, a9, na, cb, ac, nd, ce, af, ng, ch, rfl, h1c, h1d, hv, h1e, h1f, h1g, h1h⟩ := b_1 hu
 refine R z (lN (vs := (vR x5 a6 n7 c8 a9 na cb ac nd ce af ng ch)) N_ t_ z z fid ht)<|E z (fa c_T) ?_
 rintro _ ws ⟨rfl, hi⟩
 have h0 := hi.below
 have hw : Blk ws w0.z [(Str.v (⟨[]⟩ : Str)), vI 0, vI 0, vB false, sl none 0 0, sl none 0 0, sl none 0 0, sl none 0 0] := hi.blk
 refine E0 (fs (cur' := (vR x5 a6 n7 c8 a9 na cb ac nd ce af ng ch)) t_ z z hw z (lb z) (oA z) z) ?_
 rintro _ w1i ⟨hj, sx⟩
 have h1 := sx.one
 refine Wn<|Ws<|Rm z<|Rm z<|R z (fd a_D z)<|R z (l1 g_3 z fid<|hj.at z) ?_
 have hk : ∀ k ∈ [w0.z], ¬ B k := or0 (f_ lr)  (r_ hBw)
 have hl := (h0.ag B).c h1<|k_ hk
 have hn := lt_ h0.s h1.s
 obtain ⟨r1j, r1k, ey, hmm⟩ := a_y hmr
 refine E z (fc call203 z<|h_3 (B := B) ey (zt' hBw hn) (p1_0.g hl) (p1_1.g hl) ((hC1.e h0).c h1<|(k_ hk) _ hC1b) hC1b p3_0 hv) ?_
 rintro _ wz ⟨s3, a1l, n1m, c1n, v10, S11, rfl, h12, ho, h13⟩
 refine Rm z<|R z (ext_ z z)<|R z (ext_ z z)<|Ra z<|Ra z<|Wn<|Wq<|Ws<|Rm z<|R z (d_7 c_S z z ho)<|Wn<|Wc z (fun hc4 => ?_) (fun hc4 => ?_)
 ·refine Ws<|Rm z<|Rm z<|Ra z<|Ra z<|Ra z<|Wn ?_
  obtain rfl := som (ifT hmm hc4)
  exact Wr<|s_ hr z z z ⟨(bup (bM h0 h1<|f_ lr) s3), v10, S11, z, (ii z), p3_0, ho, (m_ h13 hn)⟩
 refine Wk<|Wq (Wd (X := noX) 0 (.rd 0 (.rd 1 (.rd 2 (.rd 4 (.rd 5 (.rd 6 (.rd 7 (.ef 3 (.rd 8 (.rd 9 (.rd 10 .done))))))))))) mo (by kernel_rfl) fun w1o s2 _ => dR z z (mv z)<|dR z z (fd c_t z) ?_)
 have hp := (hj.e s3).e s2
 refine dR z z (l1 g_4 z fid<|hp.at z)<|dR z z (mv z)<|dR z z (fd a_D z)<|dR z z (l1 g_3 z fid<|hp.at z)<|dR z z (add_ z z) ?_
 obtain ⟨r1p, e14, hm15⟩ := bdS (ifF hmm hc4)
 refine dE z z (fc call204 z<|W_w3d (B := wz.z) e14 (b_5 s2.s)<|h12.e s2) (.inr fun _ _ h => A_<|h.1) ?_
 rintro _ w1q ⟨s16, rfl, h17⟩
 iterate 3 refine dR z z (asg z) ?_
 refine pD<|Wo ?_
 obtain rfl := som hm15
 exact Wr<|s_ hr z z z ⟨(bup (bup (bup (bM h0 h1<|f_ lr) s3) s2) s16), .nilIface, ([] : List Nat), z, h17, (iA _ _), d_s, an_⟩
def Q23 (w0 : World) (B : Zone) (r : Int × (Option (Int × Int))) (v : Value) (w' : World) : Prop := Bw w0 w' ∧ un2 (fun r1 r2 => ∃ (v1 : Value) (S1 : List Nat), v = .tuple #[vI r1, v1] ∧ inI r1 ∧ a_k 162 w' S1 v1 r2 ∧ (∀ k ∈ S1, w0.z ≤ k)) r
theorem W_w3e {x1 : a_b} {b1 o1 : Nat} {x2 : e_} {x3 : Int} {res : Int × (Option (Int × Int))} (hm : g_i x1 x2 x3 = some res) (hBw : B ≤ w0.z) (p1_0 : a_ w0 B (sl A0 N0 C0) x1.d.rules) (p1_1 : a_ w0 B (sl A1 N1 C1) x1.b) (hC1 : M_ w0 b1 o1 [sl A0 N0 C0, sl A1 N1 C1]) (hC1b : B b1) (p2_0 : x2.name.b.length ≤ LEN) (p2_1 : inI x2.kind) (p2_2 : inI x2.size) (p2_4 : a_ w0 B (sl A3 N3 C3) x2.bytes) (p2_5 : a_ w0 B (sl A4 N4 C4) x2.names) (p2_6 : a_ w0 B (sl A2 N2 C2) x2.tags) (p2_7 : a_ w0 B (sl A5 N5 C5) x2.kids) (p3_0 : inI x3) : j_ prog 182 [(.pointer (some ⟨b1, o1, none⟩)), (.agg #[Str.v x2.name, vI x2.kind, vI x2.size, vB x2.little, sl A3 N3 C3, sl A4 N4 C4, sl A2 N2 C2, sl A5 N5 C5]), vI x3] w0 (Q23 w0 B res) := by
 unfold g_i at hm
 refine goF func182 z z (lb z) fun fn hr => Ws<|E z (fb z) ?_
 rintro _ w2 ⟨rfl, h6⟩
 have h0 := h6.below
 have h7 : Blk w2 w0.z (vR x2 A3 N3 C3 A4 N4 C4 A2 N2 C2 A5 N5 C5) := h6.blk
 refine Ra z<|Ra z<|Wn<|Wq<|Ws<|R z (fd a_R z)<|R z (l1 J_ z fid<|h7.at z)<|R z (lnR h_ z<|p2_4.e h0)<|Rm z<|Wn ?_
 obtain ⟨u1b, hui, hm8⟩ := bdS hm
 refine Wf (σ := Unit) (ρ := Int × (Option<|Int × Int)) (fun (k9 : Nat) (_ : Unit) a w => Sat 52 [(0, (.pointer<|some ⟨b1, o1, none⟩)), (2, vI x3), (4, pt w0.z), (11, sl A3 N3 C3), (12, vI (x2.bytes.length : Int)), (13, (vI ((k9 : Nat) : Int)))] a ∧ Below w2.z w2 w) (fun (_ : Unit) a w => Sat 52 [(2, vI x3), (4, pt w0.z)] a ∧ Below w2.z w2 w) (fun r ex a w => ex = .ret ∧ v_ prog fn (Q23 w0 B r) a w) hui ?_ ?_ ?_ ?_ ?_
 ·exact fun _ q => ⟨(q.k<|s6 z z z z z z), (br w2)⟩
 ·rintro k9 _ a1c w1d o1e hka ⟨hSj, s1⟩ hmk
  refine Wu ?_ hSj
  refine Ws<|R z (lss z z)<|Wn<|Wq<|Wc z (fun _ => ?_) (fun hc => (R_ hka hc).elim)
  refine Wk<|Wq<|Wb<|Ws<|Rm z ?_
  obtain ⟨x1f, el, hmb⟩ := bdS hmk
  have hd := (h0.ag B).e s1
  refine RX z (at_ (α := UInt8) h_ z_5 z z z (p2_4.g hd) el) ?_
  rintro _ ⟨b1g, o1h, cs1i, rfl, hn, ho, h1j⟩
  obtain rfl := u8 ho
  refine R z (l1 g_5 z fid<|hn.at0 z)<|Ra z<|Ra z<|Wn<|Wq<|Ws<|Rm z<|Rm z<|R z (add_ z z)<|Rm z<|R z (c_c z)<|R z (fd e_k z) ?_
  have he := (hC1.e h0).e s1
  refine R z (l1 J_ z fid<|he.at (j := 1) z) ?_
  have hf := p1_1.g hd
  refine R z (lnR h_ z hf)<|R z (a_M z z)<|Wn<|Wc z (fun hc3 => ?_) (fun hc3 => ?_)
  ·refine Ws<|Rm z<|Rm z ?_
   have hg := lt_ h0.s s1.s
   obtain ⟨r1k, em, hmp⟩ := bdS (ifT hmb hc3)
   refine E z (fc call190 z<|d_n (B := B) em (zt' hBw hg) p3_0<|ii z) ?_
   rintro _ w1l ⟨sq, vr, Ss, rfl, ht, hu⟩
   exact Ra z<|Ra z<|Wn<|Wr<|rtO<|qL (som hmp).symm<|b_e hr z z ⟨(bup (bup h0 s1) sq), vr, Ss, z, p3_0, ht, (m_ hu hg)⟩
  refine Wk<|Ws<|Rm z<|R z (c_c z)<|R z (fd e_k z)<|R z (l1 J_ z fid<|he.at (j := 1) z)<|Rm z<|Rm z<|R z (add_ z z) ?_
  obtain ⟨x1m, ev, hmc⟩ := bdS (ifF hmb hc3)
  refine RX z (at_ (α := UInt8) h_ z_5 z z z hf ev) ?_
  rintro _ ⟨b1n, o1o, cs1p, rfl, hw, hx, h1q⟩
  obtain rfl := u8 hx
  refine R z (l1 g_5 z fid<|hw.at0 z)<|Rm z<|R z (nq z z)<|Wn<|Wc z (fun hc4 => ?_) (fun hc4 => ?_)
  ·refine Ws<|Rm z<|Rm z<|Rm z<|R z (add_ z z) ?_
   have hh := lt_ h0.s s1.s
   obtain ⟨r1r, ey, hmz⟩ := bdS (ifT hmc hc4)
   refine E z (fc call190 z<|d_n (B := B) ey (zt' hBw hh) (iA _ _)<|ii z) ?_
   rintro _ w1s ⟨s10, v11, S12, rfl, h13, h14⟩
   exact Ra z<|Ra z<|Wn<|Wr<|rtO<|qL (som hmz).symm<|b_e hr z z ⟨(bup (bup h0 s1) s10), v11, S12, z, p3_0, h13, (m_ h14 hh)⟩
  exact Wk<|Wg<|R z (inc_ hka (lt_ (a_.len p2_4) H_) z z)<|Rm z<|Wl (fun _ q => ⟨(), (som<|ifF hmc hc4).symm, ⟨(q.k<|s6 z z z z z z), s1⟩⟩)
 ·rintro _ a1t w1u ⟨hS15, s16⟩
  refine Wu ?_ hS15
  refine Ws<|R z (lss z z)<|Wn<|Wq<|Wc z (fun hc => (S_ hc).elim) (fun _ => ?_)
  exact We (fun a' ha' => ⟨rfl, ⟨(Sat.weaken ha'<|s2 z z), s16⟩⟩)
 ·rintro _ a17 w1v rfl ⟨hS1w, s5⟩
  have hm18 := elL hm8
  revert a17
  refine Wo<|Ws<|Rm z<|R z (fd a_R z)<|R z (l1 J_ z fid<|(h7.e s5).at z)<|R z (lnR h_ z<|p2_4.g<|(h0.ag B).e s5)<|R z (add_ z z)<|Ra z<|Ra z<|Wn ?_
  obtain rfl := som hm18
  exact Wr<|b_e hr z z ⟨(bup h0 s5), .nilIface, ([] : List Nat), z, (iA _ _), d_s, an_⟩
 rintro r1x ex1y a1z w20 rfl ⟨rfl, hq19⟩
 have hm1a := elR hm8
 obtain rfl := som hm1a
 exact ⟨hq19, z⟩
def Q24 (w0 : World) (B : Zone) (r : Val × Int × (Option (Int × Int))) (v : Value) (w' : World) : Prop := Bw w0 w' ∧ un3 (fun r1 r2 r3 => ∃ (a1 : Option Addr) (n1 c1 : Nat) (S1 : List Nat) (a2 : Option Addr) (n2 c2 : Nat) (S2 : List Nat) (v3 : Value) (S3 : List Nat), v = .tuple #[(.agg #[vI r1.number, sl a1 n1 c1, sl a2 n2 c2]), vI r2, v3] ∧ inI r1.number ∧ b_ w' S1 (sl a1 n1 c1) r1.bytes ∧ b_ w' S2 (sl a2 n2 c2) r1.items ∧ inI r2 ∧ a_k 162 w' S3 v3 r3 ∧ (∀ k ∈ S3, w0.z ≤ k) ∧ (S1 ++ S2).Nodup ∧ (∀ k ∈ (S1 ++ S2), w0.z ≤ k)) r
theorem W_w1d {x1 : a_b} {b1 o1 : Nat} {x2 : Int} {x3 : Int} {res : Val × Int × (Option (Int × Int))} (hm : e_S x1 x2 x3 = some res) (hBw : B ≤ w0.z) (p1_0 : a_ w0 B (sl A0 N0 C0) x1.d.rules) (p1_1 : a_ w0 B (sl A1 N1 C1) x1.b) (hC1 : M_ w0 b1 o1 [sl A0 N0 C0, sl A1 N1 C1]) (hC1b : B b1) (p2_0 : inI x2) (p3_0 : inI x3) : j_ prog 183 [(.pointer (some ⟨b1, o1, none⟩)), vI x2, vI x3] w0 (Q24 w0 B res) := by
 unfold e_S at hm
 refine goF func183 z z (lb z) fun fn hr => Ws<|E z (fa a_9) ?_
 rintro _ wk ⟨rfl, h8⟩
 have h0 := h8.below
 have h2 : Blk wk w0.z [vI 0, sl none 0 0, sl none 0 0] := h8.blk
 refine Ra z<|Ra z<|Wn<|Ws<|Rm z<|Rm z<|Rm z ?_
 obtain ⟨rz, r10, el, hm9⟩ := a_y hm
 refine E z (fc call203 z<|h_3 (B := B) el (zt' hBw h0.s) (p1_0.e h0) (p1_1.e h0) (hC1.e h0) hC1b p2_0 p3_0) ?_
 rintro _ w11 ⟨s1, a12, n13, c14, vm, Sn, rfl, ho, ha, hb⟩
 refine Rm z<|R z (ext_ z z)<|R z (ext_ z z)<|Ra z<|Ra z<|Wn<|Wq<|Ws<|Rm z<|R z (d_7 c_S z z ha)<|Wn<|Wc z (fun hc4 => ?_) (fun hc4 => ?_)
 ·refine Ws<|R z (bP (parts := []) (cs := [vI 0, sl none 0 0, sl none 0 0]) Q_ z z)<|Rm z<|Rm z<|E0 (fs (cur' := [vI 0, sl none 0 0, sl none 0 0]) i_ z z (h2.e s1) z (lb z) (oA z) z) ?_
  rintro _ w15 ⟨hp, sq⟩
  have hc := sq.one
  refine Ra z<|Ra z<|Wn ?_
  obtain rfl := som (ifT hm9 hc4)
  exact Wr<|s_ hr (u_ x_ i_ z hp z) z z ⟨(bM (bup h0 s1) hc<|f_ lr), none, 0, 0, [], none, 0, 0, [], vm, Sn, z, (ii z), onL, onL, p2_0, (ha.c hc<|p_ hb h2.lt lr), (m_ hb h0.s), nd0, al0⟩
 refine Wk<|Ws<|E z (f0 (α := UInt8) D_) ?_
 rintro _ w16 ⟨a17, n18, c19, rfl, s3, ht⟩
 refine Rm z ?_
 obtain ⟨x1a, er, hms⟩ := bdS (ifF hm9 hc4)
 refine E z (fN (α := UInt8) D_ er z z ht a_0<|ho.e s3) ?_
 rintro _ w1b ⟨Sd, a5, n6, c7, rfl, se, hu, hv, hf⟩
 refine R z (bP (parts := [(1, (.tmp 25))]) (cs := [vI 0, sl a5 n6 c7, sl none 0 0]) Q_ z z)<|Rm z<|Rm z<|R z (add_ z z) ?_
 have hg := mm1 h2.lt s1.s
 refine E0 (fs (cur' := [vI 0, sl a5 n6 c7, sl none 0 0]) i_ z z (((h2.e s1).e s3).c se<|djs hg) z (lb z) (oA z) z) ?_
 rintro _ w1c ⟨hw, sx⟩
 have hh := sx.one
 refine Ra z<|Ra z<|Wn ?_
 obtain rfl := som hms
 have hy : ∀ k ∈ Sd, k ∉ [w0.z] := or1 hf hg (a_A (f_ h2.lt) (lt_ s1.s s3.s))
 have hi := lt_ h0.s s1.s
 have hj := m1 hi
 exact Wr<|s_ hr (u_ x_ i_ z hw z) z z ⟨(bM (bM (bup (bup h0 s1) s3) se hj) hh<|f_ lr), a5, n6, c7, Sd, none, 0, 0, [], .nilIface, ([] : List Nat), z, (ii z), (hu.c hh hy), onL, (iA _ _), d_s, an_, (na_ hv K_<|nmN _), (aa_ (a_x hf hj<|lt_ hi s3.s) an_)⟩
theorem W_w3f {x1 : List UInt8} {x2 : Int} {x3 : UInt8} {res : (List UInt8) × Int × Bool} (hm : g_h n x1 x2 x3 = some res) (hBw : B ≤ w0.z) (p1_0 : a_ w0 B (sl A0 N0 C0) x1) (p2_0 : inI x2) : j_ prog 189 [sl A0 N0 C0, vI x2, vU (byteI x3)] w0 (Q18 w0 B res) := by
 unfold g_h at hm
 refine goF func189 z z (lb z) fun fn hr => Ws<|Ra z<|Ra z<|Ra z<|Wn<|Ws<|E z (f0 (α := UInt8) D_) ?_
 rintro _ wg ⟨aj, nk, cl, rfl, s8, hv⟩
 refine Ra z<|Wn<|Wq<|Wq ?_
 obtain ⟨u1a, huw, hmx⟩ := bdS hm
 refine Wt (fun a w => ∃ (xm : Bool), xm = u1a ∧ Sat 58 [(0, sl A0 N0 C0), (1, vI x2), (2, vU<|byteI x3), (9, sl aj nk cl), (19, vB xm)] a ∧ Below wg.z wg w) ?_ ?_
 ·refine Wg<|Rm z<|R z (lss z z)<|Rm z ?_
  rcases bs (decide (x2 < 0)) with hc2 | hc2
  ·iterate 4 refine Nh z hc2 ?_
   exact R z (pT z hc2 z)<|Wl (fun _ q => ⟨true, som<|ifT huw hc2, (q.k<|s5 z z z z z), (br wg)⟩)
  exact Rh z hc2 (mv z)<|Rh z hc2 (mv z)<|Rh z hc2 (lnR h_ z<|p1_0.e s8)<|Rh z hc2 (a_c z z)<|R z (pF z hc2 z)<|Wl (fun _ q => ⟨decide ((x1.length : Int) < x2), som<|ifF huw hc2, (q.k<|s5 z z z z z), (br wg)⟩)
 rintro a1b w1 ⟨xm, rfl, hS2t, s6⟩
 revert a1b
 refine Wo<|Wc z (fun hcn => ?_) (fun hcn => ?_)
 ·refine Ws<|Rm z<|Rm z<|Ra z<|Ra z<|Ra z<|Wn ?_
  obtain rfl := som (ifT hmx hcn)
  exact Wr<|s_ hr z z z ⟨(bup s8 s6), aj, nk, cl, [w0.z], z, (hv.e s6), p2_0, a_0, (f_ lr)⟩
 refine Wk<|Wq<|Ws<|Rm z<|Ra z<|Wn ?_
 obtain ⟨u2u, hu1c, hmy⟩ := bdS (ifF hmx hcn)
 refine a_L (σ := (List UInt8) × Int) (ρ := (List UInt8) × Int × Bool) (fun s a w => un2 (fun xb x7 => ∃ a3 n4 c5 S0, Sat 58 [(0, sl A0 N0 C0), (1, vI x2), (2, vU<|byteI x3), (9, sl a3 n4 c5), (10, vI x7)] a ∧ Chg (· ∈ [w0.z]) w1 w ∧ b_ w S0 (sl a3 n4 c5) xb ∧ S0.Nodup ∧ (∀ k ∈ S0, k ∈ [w0.z] ∨ w1.z ≤ k) ∧ inI x7) s) (fun s a w => un2 (fun xb x7 => ∃ a3 n4 c5 S0, Sat 58 [(1, vI x2)] a ∧ Chg (· ∈ [w0.z]) w1 w ∧ b_ w S0 (sl a3 n4 c5) xb ∧ S0.Nodup ∧ (∀ k ∈ S0, k ∈ [w0.z] ∨ w1.z ≤ k) ∧ inI x7) s) (fun r ex a w => ex = .ret ∧ v_ prog fn (Q18 w0 B r) a w) hu1c ?_ ?_ ?_ ?_
 ·exact fun _ q => ⟨aj, nk, cl, [w0.z], (q.k<|s5 z z z z z), (cr [w0.z] w1), (hv.e s6), a_0, (io sr), p2_0⟩
 ·rintro ⟨xb, x7⟩ a2v w9 o2w ⟨a3, n4, c5, S0, hS1d, sa, hc, hd, he, ho⟩ hm1e
  have hmz := a_2 hm1e
  refine Wu ?_ hS1d
  refine Wq<|Ws<|Rm z<|Rm z ?_
  have h1f : ∀ k ∈ [w0.z], ¬ B k := or0 (f_ lr)  (r_ hBw)
  have h10 := ((s8.ag B).e s6).c sa<|k_ h1f
  have hh := p1_0.g h10
  refine R z (lnR h_ z hh)<|R z (lss z z)<|Wn<|Wc z (fun hcp => ?_) (fun hcp => ?_)
  ·refine Wk<|Wq<|Wb<|Wq<|Ws<|Rm z<|Rm z ?_
   obtain ⟨x2x, e1g, hm11⟩ := bdS (ifT hmz hcp)
   refine RX z (at_ (α := UInt8) h_ z_5 z z z hh e1g) ?_
   rintro _ ⟨b2y, o2z, cs30, rfl, h1h, h1i, h31⟩
   obtain rfl := u8 h1i
   refine R z (l1 g_5 z fid<|h1h.at0 z)<|Rm z<|R z (eql z z)<|Wn<|Wc z (fun hcq => ?_) (fun hcq => ?_)
   ·refine Ws<|Rm z<|Rm z<|R z (add_ z z)<|Ra z<|Ra z<|Ra z<|Wn ?_
    have h1j : ∀ k ∈ S0, w0.z ≤ k := or1 he (f_ lr) (a_E (lt_ s8.s s6.s))
    exact Wr<|rtO<|qL (som<|ifT hm11 hcq).symm<|s_ hr z z z ⟨(bM (bup s8 s6) sa<|f_ lr), a3, n4, c5, S0, z, hc, (iA _ _), hd, h1j⟩
   refine Wk<|Wq<|Ws<|Rm z<|Rm z ?_
   obtain ⟨x32, e1k, hm1l⟩ := bdS (ifF hm11 hcq)
   refine RX z (at_ (α := UInt8) h_ z_5 z z z hh e1k) ?_
   rintro _ ⟨b33, o34, cs35, rfl, h1m, h1n, h36⟩
   obtain rfl := u8 h1n
   refine R z (l1 g_5 z fid<|h1m.at0 z)<|R z (eql z z)<|Wn ?_
   obtain ⟨u1o, hu12, hm13⟩ := bdS hm1l
   refine Wt (fun a w => ∃ (xf : Int), Sum.inl xf = u1o ∧ Sat 58 [(0, sl A0 N0 C0), (1, vI x2), (2, vU<|byteI x3), (9, sl a3 n4 c5), (10, vI xf)] a ∧ Below w9.z w9 w ∧ inI xf) ?_ ?_
   ·refine Wc z (fun hcr => ?_) (fun hcr => ?_)
    ·have hm14 := ifT hu12 hcr
     refine Ws<|Rm z<|R z (add_ z z)<|Ra z<|Wn<|Ws<|Rm z<|Rm z<|R z (lnR h_ z hh)<|R z (eql z z)<|Wn<|Wc z (fun hcs => ?_) (fun hcs => ?_)
     ·obtain rfl := som (ifT hm14 hcs)
      have hm1p := elR hm13
      have h1q : ∀ k ∈ S0, k ∈ [w0.z] ∨ w1.z ≤ k := or1 he (io sr) (l_ lr)
      have h1r : Chg (· ∈ [w0.z]) w1 w9 := cM (cr [w0.z] w1) sa (io sr)
      exact We<|exO z (fun a' ha' => a_F (som hm1p).symm ⟨a3, n4, c5, S0, (Sat.weaken ha'<|s1 z), h1r, hc, hd, h1q, (iA _ _)⟩)
     exact a_J (fun _ q => ⟨c_ x7 1, som<|ifF hm14 hcs, (q.k<|s5 z z z z z), (br w9), (iA _ _)⟩)
    exact a_J (fun _ q => ⟨x7, som<|ifF hu12 hcr, (q.k<|s5 z z z z z), (br w9), ho⟩)
   rintro a1s w15 ⟨xf, rfl, hS37, si, h38⟩
   have hm1t := elL hm13
   revert a1s
   refine Wo<|Wg<|Rm z<|Rm z<|Rm z ?_
   obtain ⟨x1u, e1v, hm1w⟩ := bdS hm1t
   refine RX z (at_ (α := UInt8) h_ z_5 z z z (p1_0.g<|h10.e si) e1v) ?_
   rintro _ ⟨b39, o3a, cs3b, rfl, h1x, h1y, h3c⟩
   obtain rfl := u8 h1y
   refine R z (l1 g_5 z fid<|h1x.at0 z)<|E z (fS [(.tmp 53)] D_ z z z (a_p z) (lb z)<|lb z) ?_
   rintro _ w16 ⟨rfl, ht⟩
   have hu := ht.below
   have h1z : Blk w16 w15.z [vU (byteI x1u)] := ht.blk
   have h3d := b_r ht a_z
   obtain ⟨x20, e21, hm22⟩ := bdS hm1w
   refine E z (b_d (α := UInt8) D_ e21 z z ((hc.e si).e hu) hd h1z a_z an_ K_) ?_
   rintro _ w23 ⟨S17, a24, n25, c26, rfl, s27, h28, h29, h2a⟩
   refine Ra z<|Wn<|Wg<|Rm z<|R z (add_ z z)<|Ra z<|Wl ?_
   have h18 : ∀ k ∈ S0, k ∈ [w0.z] ∨ w1.z ≤ k := or1 he (io sr) (l_ lr)
   have h2b : ∀ k ∈ S17, k ∈ [w0.z] ∨ w1.z ≤ k := or2 h2a h18 an_ (l_ (lt_ (lt_ sa.s si.s) hu.s))
   have h2c : Chg (· ∈ [w0.z]) w1 w9 := cM (cr [w0.z] w1) sa (io sr)
   have h2d : Chg (· ∈ [w0.z]) w1 w15 := z_ h2c si
   have h2e : Chg (· ∈ [w0.z]) w1 w16 := z_ h2d hu
   have h2f : Chg (· ∈ [w0.z]) w1 w23 := cM h2e s27 h18
   exact fun _ q => ⟨(x20, c_ xf 1), (som hm22).symm, ⟨a24, n25, c26, S17, (q.k<|s5 z z z z z), h2f, h28, h29, h2b, (iA _ _)⟩⟩
  have h2g : ∀ k ∈ S0, k ∈ [w0.z] ∨ w1.z ≤ k := or1 he (io sr) (l_ lr)
  have h2h : Chg (· ∈ [w0.z]) w1 w9 := cM (cr [w0.z] w1) sa (io sr)
  exact We (fun a' ha' => a_F (som<|ifF hmz hcp).symm ⟨a3, n4, c5, S0, (Sat.weaken ha'<|s1 z), h2h, hc, hd, h2g, ho⟩)
 ·rintro ⟨xb, x7⟩ a2i w2j rfl ⟨a3, n4, c5, S0, hS3e, s19, hc, hd, he, ho⟩
  have hm2k := elL hmy
  have hm2l := a_2 hm2k
  revert a2i
  refine Wo<|Ws<|E z (f0 (α := UInt8) D_) ?_
  rintro _ w3f ⟨a2m, n2n, c2o, rfl, s2p, h2q⟩
  refine Rm z<|Ra z<|Ra z<|Ra z<|Wn ?_
  obtain rfl := som hm2l
  exact Wr<|s_ hr z z z ⟨(bup (bM (bup s8 s6) s19<|f_ lr) s2p), a2m, n2n, c2o, [w2j.z], z, h2q, p2_0, a_0, (m1<|lt_ (lt_ s8.s s6.s) s19.s)⟩
 rintro r3g ex3h a3i w3j rfl ⟨rfl, hq2r⟩
 have hm2s := elR hmy
 obtain rfl := som hm2s
 exact ⟨hq2r, z⟩
def Q25 (w0 : World) (B : Zone) (S2_1 : List Nat) (S2_2 : List Nat) (r : Val × Int × (Option (Int × Int))) (v : Value) (w' : World) : Prop := Chg (· ∈ (S2_1 ++ S2_2)) w0 w' ∧ un3 (fun r1 r2 r3 => ∃ (a1 : Option Addr) (n1 c1 : Nat) (S1 : List Nat) (a2 : Option Addr) (n2 c2 : Nat) (S2 : List Nat) (v3 : Value) (S3 : List Nat), v = .tuple #[(.agg #[vI r1.number, sl a1 n1 c1, sl a2 n2 c2]), vI r2, v3] ∧ inI r1.number ∧ b_ w' S1 (sl a1 n1 c1) r1.bytes ∧ b_ w' S2 (sl a2 n2 c2) r1.items ∧ inI r2 ∧ a_k 162 w' S3 v3 r3 ∧ (∀ k ∈ S3, w0.z ≤ k) ∧ (S1 ++ S2).Nodup ∧ (∀ k ∈ (S1 ++ S2), k ∈ (S2_1 ++ S2_2) ∨ w0.z ≤ k)) r
structure i_z (f : a_b → Int → Int → Option (Val × Int × (Option (Int × Int)))) : Prop where
  run : ∀ {A0 A1 : Option Addr} {N0 C0 N1 C1 b1 o1 : Nat} {B : Zone} {x1 : a_b} {x2 : Int} {x3 : Int} {res : Val × Int × (Option (Int × Int))} {w0 : World} (hm : f x1 x2 x3 = some res) (hBw : B ≤ w0.z) (p1_0 : a_ w0 B (sl A0 N0 C0) x1.d.rules) (p1_1 : a_ w0 B (sl A1 N1 C1) x1.b) (hC1 : M_ w0 b1 o1 [sl A0 N0 C0, sl A1 N1 C1]) (hC1b : B b1) (p2_0 : inI x2) (p3_0 : inI x3), j_ prog 154 [(.pointer (some ⟨b1, o1, none⟩)), vI x2, vI x3] w0 (Q24 w0 B res)
structure i_A (f : a_b → e_ → Int → Option (Val × Int × (Option (Int × Int)))) : Prop where
  run : ∀ {A0 A1 A3 A4 A2 A5 : Option Addr} {N0 C0 N1 C1 b1 o1 N3 C3 N4 C4 N2 C2 N5 C5 : Nat} {B : Zone} {x1 : a_b} {x2 : e_} {x3 : Int} {res : Val × Int × (Option (Int × Int))} {w0 : World} (hm : f x1 x2 x3 = some res) (hBw : B ≤ w0.z) (p1_0 : a_ w0 B (sl A0 N0 C0) x1.d.rules) (p1_1 : a_ w0 B (sl A1 N1 C1) x1.b) (hC1 : M_ w0 b1 o1 [sl A0 N0 C0, sl A1 N1 C1]) (hC1b : B b1) (p2_0 : x2.name.b.length ≤ LEN) (p2_1 : inI x2.kind) (p2_2 : inI x2.size) (p2_4 : a_ w0 B (sl A3 N3 C3) x2.bytes) (p2_5 : a_ w0 B (sl A4 N4 C4) x2.names) (p2_6 : a_ w0 B (sl A2 N2 C2) x2.tags) (p2_7 : a_ w0 B (sl A5 N5 C5) x2.kids) (p3_0 : inI x3), j_ prog 184 [(.pointer (some ⟨b1, o1, none⟩)), (.agg #[Str.v x2.name, vI x2.kind, vI x2.size, vB x2.little, sl A3 N3 C3, sl A4 N4 C4, sl A2 N2 C2, sl A5 N5 C5]), vI x3] w0 (Q24 w0 B res)
structure i_B (f : a_b → Val → (List Int) → Int → Option (Val × Int × (Option (Int × Int)))) : Prop where
  run : ∀ {A0 A1 AC AG A7 : Option Addr} {N0 C0 N1 C1 b1 o1 NC CC NG CG N7 C7 : Nat} {S2_1 S2_2 : List Nat} {B : Zone} {x1 : a_b} {x2 : Val} {x3 : List Int} {x4 : Int} {res : Val × Int × (Option (Int × Int))} {w0 : World} (hm : f x1 x2 x3 x4 = some res) (hBw : B ≤ w0.z) (p1_0 : a_ w0 B (sl A0 N0 C0) x1.d.rules) (p1_1 : a_ w0 B (sl A1 N1 C1) x1.b) (hC1 : M_ w0 b1 o1 [sl A0 N0 C0, sl A1 N1 C1]) (hC1b : B b1) (p2_0 : inI x2.number) (p2_1 : b_ w0 S2_1 (sl AC NC CC) x2.bytes) (p2_1n : S2_1.Nodup) (p2_1g : ∀ k ∈ S2_1, ¬ B k) (p2_2 : b_ w0 S2_2 (sl AG NG CG) x2.items) (p2_2n : S2_2.Nodup) (p2_2g : ∀ k ∈ S2_2, ¬ B k) (p2_2d1 : ∀ k ∈ S2_2, k ∉ S2_1) (p3_0 : a_ w0 B (sl A7 N7 C7) x3) (p4_0 : inI x4), j_ prog 185 [(.pointer (some ⟨b1, o1, none⟩)), (.agg #[vI x2.number, sl AC NC CC, sl AG NG CG]), sl A7 N7 C7, vI x4] w0 (Q25 w0 B S2_1 S2_2 res)
structure i_C (f : a_b → e_ → Int → Option (Val × Int × (Option (Int × Int)))) : Prop where
  run : ∀ {A0 A1 A3 A4 A2 A5 : Option Addr} {N0 C0 N1 C1 b1 o1 N3 C3 N4 C4 N2 C2 N5 C5 : Nat} {B : Zone} {x1 : a_b} {x2 : e_} {x3 : Int} {res : Val × Int × (Option (Int × Int))} {w0 : World} (hm : f x1 x2 x3 = some res) (hBw : B ≤ w0.z) (p1_0 : a_ w0 B (sl A0 N0 C0) x1.d.rules) (p1_1 : a_ w0 B (sl A1 N1 C1) x1.b) (hC1 : M_ w0 b1 o1 [sl A0 N0 C0, sl A1 N1 C1]) (hC1b : B b1) (p2_0 : x2.name.b.length ≤ LEN) (p2_1 : inI x2.kind) (p2_2 : inI x2.size) (p2_4 : a_ w0 B (sl A3 N3 C3) x2.bytes) (p2_5 : a_ w0 B (sl A4 N4 C4) x2.names) (p2_6 : a_ w0 B (sl A2 N2 C2) x2.tags) (p2_7 : a_ w0 B (sl A5 N5 C5) x2.kids) (p3_0 : inI x3), j_ prog 186 [(.pointer (some ⟨b1, o1, none⟩)), (.agg #[Str.v x2.name, vI x2.kind, vI x2.size, vB x2.little, sl A3 N3 C3, sl A4 N4 C4, sl A2 N2 C2, sl A5 N5 C5]), vI x3] w0 (Q24 w0 B res)
structure i_D (f : a_b → e_ → Int → Option (Val × Int × (Option (Int × Int)))) : Prop where
  run : ∀ {A0 A1 A3 A4 A2 A5 : Option Addr} {N0 C0 N1 C1 b1 o1 N3 C3 N4 C4 N2 C2 N5 C5 : Nat} {B : Zone} {x1 : a_b} {x2 : e_} {x3 : Int} {res : Val × Int × (Option (Int × Int))} {w0 : World} (hm : f x1 x2 x3 = some res) (hBw : B ≤ w0.z) (p1_0 : a_ w0 B (sl A0 N0 C0) x1.d.rules) (p1_1 : a_ w0 B (sl A1 N1 C1) x1.b) (hC1 : M_ w0 b1 o1 [sl A0 N0 C0, sl A1 N1 C1]) (hC1b : B b1) (p2_0 : x2.name.b.length ≤ LEN) (p2_1 : inI x2.kind) (p2_2 : inI x2.size) (p2_4 : a_ w0 B (sl A3 N3 C3) x2.bytes) (p2_5 : a_ w0 B (sl A4 N4 C4) x2.names) (p2_6 : a_ w0 B (sl A2 N2 C2) x2.tags) (p2_7 : a_ w0 B (sl A5 N5 C5) x2.kids) (p3_0 : inI x3), j_ prog 187 [(.pointer (some ⟨b1, o1, none⟩)), (.agg #[Str.v x2.name, vI x2.kind, vI x2.size, vB x2.little, sl A3 N3 C3, sl A4 N4 C4, sl A2 N2 C2, sl A5 N5 C5]), vI x3] w0 (Q24 w0 B res)
structure i_E (f : a_b → e_ → Int → Option (Val × Int × (Option (Int × Int)))) : Prop where
  run : ∀ {A0 A1 A3 A4 A2 A5 : Option Addr} {N0 C0 N1 C1 b1 o1 N3 C3 N4 C4 N2 C2 N5 C5 : Nat} {B : Zone} {x1 : a_b} {x2 : e_} {x3 : Int} {res : Val × Int × (Option (Int × Int))} {w0 : World} (hm : f x1 x2 x3 = some res) (hBw : B ≤ w0.z) (p1_0 : a_ w0 B (sl A0 N0 C0) x1.d.rules) (p1_1 : a_ w0 B (sl A1 N1 C1) x1.b) (hC1 : M_ w0 b1 o1 [sl A0 N0 C0, sl A1 N1 C1]) (hC1b : B b1) (p2_0 : x2.name.b.length ≤ LEN) (p2_1 : inI x2.kind) (p2_2 : inI x2.size) (p2_4 : a_ w0 B (sl A3 N3 C3) x2.bytes) (p2_5 : a_ w0 B (sl A4 N4 C4) x2.names) (p2_6 : a_ w0 B (sl A2 N2 C2) x2.tags) (p2_7 : a_ w0 B (sl A5 N5 C5) x2.kids) (p3_0 : inI x3), j_ prog 188 [(.pointer (some ⟨b1, o1, none⟩)), (.agg #[Str.v x2.name, vI x2.kind, vI x2.size, vB x2.little, sl A3 N3 C3, sl A4 N4 C4, sl A2 N2 C2, sl A5 N5 C5]), vI x3] w0 (Q24 w0 B res)
abbrev d_N (n : Nat) : Prop := i_z (Y_ n).impl_fileReader_value ∧ i_A (Y_ n).impl_fileReader_array ∧ i_B (Y_ n).impl_fileReader_items ∧ i_C (Y_ n).impl_fileReader_choice ∧ i_D (Y_ n).impl_fileReader_option ∧ i_E (Y_ n).impl_fileReader_checked
theorem T_w01 (ih : d_N n) : i_z (g_j n (Y_ n)) := by
 obtain ⟨ih0, ih1, ih2, ih3, ih4, ih5⟩ := ih
 constructor
 intro A0 A1 N0 C0 N1 C1 b1 o1 B x1 x2 x3 res w0 hm hBw p1_0 p1_1 hC1 hC1b p2_0 p3_0
 unfold g_j at hm
 refine goF func154 z z (lb z) fun fn hr => Ws<|E z (fa a_9) ?_
 rintro _ w4 ⟨rfl, h2n⟩
 have h2 := h2n.below
 have h3 : Blk w4 w0.z [vI 0, sl none 0 0, sl none 0 0] := h2n.blk
 refine Ra z<|Ra z<|Wn<|Ws<|Rm z<|R z (c_c z)<|R z (fd k_D z)<|R z (fd a_j z) ?_
 have h5 := hC1.e h2
 refine R z (l1 a_o z fid<|h5.at (j := 0) z)<|Rm z ?_
 obtain ⟨x9, e5g, hm2o⟩ := bdS hm
 refine RX z (at_ (α := e_) X_ t_ z z z (p1_0.e h2) e5g) ?_
 rintro _ ⟨b9n, o9o, cs9p, rfl, h5h, h5i, h9q⟩
 obtain ⟨aa, nb, cc, ad, ne, cf, ah, ng, ci, aj, nk, cl, rfl, hq, ht, ho, hp, hu, hv, hn⟩ := b_1 h5i
 refine R z (lN (vs := (vR x9 aa nb cc ad ne cf ah ng ci aj nk cl)) N_ t_ z z fid h5h)<|E z (fa c_T) ?_
 rintro _ w5j ⟨rfl, h2p⟩
 have h0 := h2p.below
 have h5k : Blk w5j w4.z [(Str.v (⟨[]⟩ : Str)), vI 0, vI 0, vB false, sl none 0 0, sl none 0 0, sl none 0 0, sl none 0 0] := h2p.blk
 refine E0 (fs (cur' := (vR x9 aa nb cc ad ne cf ah ng ci aj nk cl)) t_ z z h5k z (lb z) (oA z) z) ?_
 rintro _ w9r ⟨h7, s5l⟩
 have h1 := s5l.one
 refine Wn<|Wq<|Ws<|R z (fd b_x z)<|R z (l1 g_3 z fid<|h7.at z)<|Wn<|Wb<|Ws<|R z (eql z z)<|Ra z<|Wn<|Wc z (fun hcr => ?_) (fun hcr => ?_)
 ·refine Ws<|Rm z<|Rm z<|Rm z ?_
  have h2q : ∀ k ∈ [w4.z], ¬ B k := or0 (f_ lr)  (r_ (zt' hBw h2.s))
  have h2r := ((h2.ag B).e h0).c h1<|k_ h2q
  have h2s := lt_ (lt_ h2.s h0.s) h1.s
  obtain ⟨r2t, r9s, r9t, e5m, hm5n⟩ := O_ (ifT hm2o hcr)
  refine E z (fc call181 z<|h_4 (B := B) e5m (zt' hBw h2s) (p1_0.g h2r) (p1_1.g h2r) ((h5.e h0).c h1<|(k_ h2q) _ hC1b) hC1b p2_0 p3_0) ?_
  rintro _ w9u ⟨s2u, v5o, S5p, rfl, h5q, h5r, h5s, h2v⟩
  refine Rm z ?_
  iterate 3 refine R z (ext_ z z) ?_
  refine Ra z<|Ra z<|Ra z<|Wn<|Ws<|Rm z<|R z (bP (parts := [(0, (.tmp 41))]) (cs := [vI r2t, sl none 0 0, sl none 0 0]) Q_ z z)<|Rm z<|Rm z<|E0 (fs (cur' := [vI r2t, sl none 0 0, sl none 0 0]) i_ z z (((h3.e h0).c h1<|djs<|mmr h3.lt).e s2u) z (lb z) (oA z) z) ?_
  rintro _ w9v ⟨h5t, s5u⟩
  have h2w := s5u.one
  refine Ra z<|Ra z<|Wn ?_
  obtain rfl := som hm5n
  exact Wr<|rtO<|s_ hr (u_ x_ i_ z h5t z) z z ⟨(bM (bup (bM (bup h2 h0) h1<|m1 h2.s) s2u) h2w<|f_ lr), none, 0, 0, [], none, 0, 0, [], v5o, S5p, z, h5q, onL, onL, h5r, (h5s.c h2w<|p_ h2v h3.lt<|lt_ h0.s h1.s), (m_ h2v h2s), nd0, al0⟩
 have hm2x := ifF hm2o hcr
 refine Ws<|R z (eql z z)<|Ra z<|Wn<|Wc z (fun hcs => ?_) (fun hcs => ?_)
 ·refine Ws<|Rm z<|R z (lN (vs := (vR x9 aa nb cc ad ne cf ah ng ci aj nk cl)) N_ t_ z z fid<|h7.row 0 8 z)<|Rm z ?_
  have h1m : ∀ k ∈ [w4.z], ¬ B k := or0 (f_ lr)  (r_ (zt' hBw h2.s))
  have h2y := ((h2.ag B).e h0).c h1<|k_ h1m
  have hw := (h0.ag B).c h1<|k_ h1m
  have h2z := lt_ (lt_ h2.s h0.s) h1.s
  obtain ⟨r9w, r9x, e5v, hm5w⟩ := a_y (ifT hm2x hcs)
  refine E z (fc call182 z<|W_w3e (B := B) e5v (zt' hBw h2z) (p1_0.g h2y) (p1_1.g h2y) ((h5.e h0).c h1<|(k_ h1m) _ hC1b) hC1b hq ht ho (hp.g hw) (hu.g hw) (hv.g hw) (hn.g hw) p3_0) ?_
  rintro _ w9y ⟨s30, v5x, S5y, rfl, h5z, h60, h31⟩
  refine Rm z<|R z (ext_ z z)<|R z (ext_ z z)<|Ra z<|Ra z<|Wn<|Ws<|R z (bP (parts := []) (cs := [vI 0, sl none 0 0, sl none 0 0]) Q_ z z)<|Rm z<|Rm z<|E0 (fs (cur' := [vI 0, sl none 0 0, sl none 0 0]) i_ z z (((h3.e h0).c h1<|djs<|mmr h3.lt).e s30) z (lb z) (oA z) z) ?_
  rintro _ w9z ⟨h61, s62⟩
  have h32 := s62.one
  refine Ra z<|Ra z<|Wn ?_
  obtain rfl := som hm5w
  exact Wr<|rtO<|s_ hr (u_ x_ i_ z h61 z) z z ⟨(bM (bup (bM (bup h2 h0) h1<|m1 h2.s) s30) h32<|f_ lr), none, 0, 0, [], none, 0, 0, [], v5x, S5y, z, (ii z), onL, onL, h5z, (h60.c h32<|p_ h31 h3.lt<|lt_ h0.s h1.s), (m_ h31 h2z), nd0, al0⟩
 have hm33 := ifF hm2x hcs
 refine Ws<|R z (eql z z)<|Ra z<|Wn<|Wc z (fun hc1n => ?_) (fun hc1n => ?_)
 ·refine Ws<|Rm z<|Rm z<|R z (fd a_D z)<|R z (l1 g_3 z fid<|h7.at z) ?_
  have h34 : ∀ k ∈ [w4.z], ¬ B k := or0 (f_ lr)  (r_ (zt' hBw h2.s))
  have h35 := ((h2.ag B).e h0).c h1<|k_ h34
  have hx := lt_ (lt_ h2.s h0.s) h1.s
  obtain ⟨r63, r100, r101, e64, hm65⟩ := O_ (ifT hm33 hc1n)
  refine E z (fc call183 z<|W_w1d (B := B) e64 (zt' hBw hx) (p1_0.g h35) (p1_1.g h35) ((h5.e h0).c h1<|(k_ h34) _ hC1b) hC1b p3_0 ho) ?_
  rintro _ w102 ⟨s36, a37, n38, c39, S66, a3a, n3b, c3c, S67, v68, S69, rfl, h6a, h6b, h6c, h6d, h6e, h3d, h1o, hy⟩
  iterate 3 refine R z (ext_ z z) ?_
  refine E0 (fs (cur' := [vI r63.number, sl a37 n38 c39, sl a3a n3b c3c]) i_ z z (((h3.e h0).c h1<|djs<|mmr h3.lt).e s36) z (lb z) (oA z) z) ?_
  rintro _ w103 ⟨h6f, s6g⟩
  have hz := s6g.one
  refine Ra z<|Ra z<|Wn ?_
  obtain rfl := som hm65
  have h1p := lt_ h0.s h1.s
  exact Wr<|rtO<|s_ hr (u_ x_ i_ z h6f z) z z ⟨(bM (bup (bM (bup h2 h0) h1<|m1 h2.s) s36) hz<|f_ lr), a37, n38, c39, S66, a3a, n3b, c3c, S67, v68, S69, z, h6a, (h6b.c hz<|p_ (al_ hy) h3.lt h1p), (h6c.c hz<|p_ (ar_ hy) h3.lt h1p), h6d, (h6e.c hz<|p_ h3d h3.lt h1p), (m_ h3d hx), (na_ (nl_ h1o) (nr_ h1o)<|nj h1o), (aa_ (m_ (al_ hy) hx)<|m_ (ar_ hy) hx)⟩
 have hm3e := ifF hm33 hc1n
 refine Ws<|R z (eql z z)<|Ra z<|Wn<|Wc z (fun hc1q => ?_) (fun hc1q => ?_)
 ·refine Ws<|Rm z<|R z (fd a_8 z)<|R z (l1 G_ z fid<|h7.at z) ?_
  obtain ⟨x104, e6h, hm6i⟩ := bdS (ifT hm3e hc1q)
  have h1r : ∀ k ∈ [w4.z], ¬ B k := or0 (f_ lr)  (r_ (zt' hBw h2.s))
  refine RX z (at_ (α := Int) B_ z_3 z z z (hn.g<|(h0.ag B).c h1<|k_ h1r) e6h) ?_
  rintro _ ⟨b105, o106, cs107, rfl, h6j, h6k, h108⟩
  obtain ⟨rfl, h6l⟩ := a_7 h6k
  refine R z (l1 g_3 z fid<|h6j.at0 z)<|Rm z ?_
  have h3f := (h5.e h0).c h1<|(k_ h1r) _ hC1b
  have h1s := ((h2.ag B).e h0).c h1<|k_ h1r
  have h1t := lt_ (lt_ h2.s h0.s) h1.s
  obtain ⟨r109, r10a, r10b, e6m, hm3g⟩ := O_ hm6i
  refine E z (fc call181 z<|h_4 (B := B) e6m (zt' hBw h1t) (p1_0.g h1s) (p1_1.g h1s) h3f hC1b h6l p3_0) ?_
  rintro _ w10c ⟨s8, v6n, S6o, rfl, h6p, h6q, h3h, h3i⟩
  refine Rm z ?_
  iterate 3 refine R z (ext_ z z) ?_
  refine Ra z<|Ra z<|Ra z<|Wn<|Wq<|Ws<|Rm z<|R z (d_7 c_S z z h3h)<|Wn<|Wc z (fun hc1u => ?_) (fun hc1u => ?_)
  ·refine Ws<|R z (bP (parts := []) (cs := [vI 0, sl none 0 0, sl none 0 0]) Q_ z z)<|Rm z<|Rm z<|E0 (fs (cur' := [vI 0, sl none 0 0, sl none 0 0]) i_ z z (((h3.e h0).c h1<|djs<|mmr h3.lt).e s8) z (lb z) (oA z) z) ?_
   rintro _ w10d ⟨h6r, s6s⟩
   have h3j := s6s.one
   refine Ra z<|Ra z<|Wn ?_
   obtain rfl := som (ifT hm3g hc1u)
   exact Wr<|rtO<|s_ hr (u_ x_ i_ z h6r z) z z ⟨(bM (bup (bM (bup h2 h0) h1<|m1 h2.s) s8) h3j<|f_ lr), none, 0, 0, [], none, 0, 0, [], v6n, S6o, z, (ii z), onL, onL, p3_0, (h3h.c h3j<|p_ h3i h3.lt<|lt_ h0.s h1.s), (m_ h3i h1t), nd0, al0⟩
  refine Wk<|Ws<|Rm z<|Rm z<|Rm z ?_
  have h3k := h1s.e s8
  have h10 := lt_ h1t s8.s
  obtain ⟨r6t, r10e, r10f, e6u, hm6v⟩ := O_ (ifF hm3g hc1u)
  refine E z (fc call183 z<|W_w1d (B := B) e6u (zt' hBw h10) (p1_0.g h3k) (p1_1.g h3k) (h3f.e s8) hC1b h6q h6p) ?_
  rintro _ w10g ⟨s3l, a3m, n3n, c3o, S6w, a3p, n3q, c3r, S6x, v6y, S6z, rfl, h70, h71, h72, h73, h74, h3s, h1v, h11⟩
  iterate 3 refine R z (ext_ z z) ?_
  refine E0 (fs (cur' := [vI r6t.number, sl a3m n3n c3o, sl a3p n3q c3r]) i_ z z ((((h3.e h0).c h1<|djs<|mmr h3.lt).e s8).e s3l) z (lb z) (oA z) z) ?_
  rintro _ w10h ⟨h75, s76⟩
  have h12 := s76.one
  refine Ra z<|Ra z<|Wn ?_
  obtain rfl := som hm6v
  have h1w := lt_ (lt_ h0.s h1.s) s8.s
  exact Wr<|rtO<|s_ hr (u_ x_ i_ z h75 z) z z ⟨(bM (bup (bup (bM (bup h2 h0) h1<|m1 h2.s) s8) s3l) h12<|f_ lr), a3m, n3n, c3o, S6w, a3p, n3q, c3r, S6x, v6y, S6z, z, h70, (h71.c h12<|p_ (al_ h11) h3.lt h1w), (h72.c h12<|p_ (ar_ h11) h3.lt h1w), h73, (h74.c h12<|p_ h3s h3.lt h1w), (m_ h3s h10), (na_ (nl_ h1v) (nr_ h1v)<|nj h1v), (aa_ (m_ (al_ h11) h10)<|m_ (ar_ h11) h10)⟩
 have hm3t := ifF hm3e hc1q
 refine Ws<|R z (eql z z)<|Ra z<|Wn<|Wc z (fun hc1x => ?_) (fun hc1x => ?_)
 ·refine Ws<|Rm z<|R z (lN (vs := (vR x9 aa nb cc ad ne cf ah ng ci aj nk cl)) N_ t_ z z fid<|h7.row 0 8 z)<|Rm z ?_
  have h1y : ∀ k ∈ [w4.z], ¬ B k := or0 (f_ lr)  (r_ (zt' hBw h2.s))
  have h3u := ((h2.ag B).e h0).c h1<|k_ h1y
  have h13 := (h0.ag B).c h1<|k_ h1y
  have h14 := lt_ (lt_ h2.s h0.s) h1.s
  obtain ⟨r77, r10i, r10j, e78, hm79⟩ := O_ (ifT hm3t hc1x)
  refine E z (fc call184 z<|ih1.run (B := B) e78 (zt' hBw h14) (p1_0.g h3u) (p1_1.g h3u) ((h5.e h0).c h1<|(k_ h1y) _ hC1b) hC1b hq ht ho (hp.g h13) (hu.g h13) (hv.g h13) (hn.g h13) p3_0) ?_
  rintro _ w10k ⟨s3v, a3w, n3x, c3y, S7a, a3z, n40, c41, S7b, v7c, S7d, rfl, h7e, h7f, h7g, h7h, h7i, h42, h1z, h15⟩
  iterate 3 refine R z (ext_ z z) ?_
  refine E0 (fs (cur' := [vI r77.number, sl a3w n3x c3y, sl a3z n40 c41]) i_ z z (((h3.e h0).c h1<|djs<|mmr h3.lt).e s3v) z (lb z) (oA z) z) ?_
  rintro _ w10l ⟨h7j, s7k⟩
  have h16 := s7k.one
  refine Ra z<|Ra z<|Wn ?_
  obtain rfl := som hm79
  have h20 := lt_ h0.s h1.s
  exact Wr<|rtO<|s_ hr (u_ x_ i_ z h7j z) z z ⟨(bM (bup (bM (bup h2 h0) h1<|m1 h2.s) s3v) h16<|f_ lr), a3w, n3x, c3y, S7a, a3z, n40, c41, S7b, v7c, S7d, z, h7e, (h7f.c h16<|p_ (al_ h15) h3.lt h20), (h7g.c h16<|p_ (ar_ h15) h3.lt h20), h7h, (h7i.c h16<|p_ h42 h3.lt h20), (m_ h42 h14), (na_ (nl_ h1z) (nr_ h1z)<|nj h1z), (aa_ (m_ (al_ h15) h14)<|m_ (ar_ h15) h14)⟩
 have hm43 := ifF hm3t hc1x
 refine Ws<|R z (eql z z)<|Ra z<|Wn<|Wc z (fun hc21 => ?_) (fun hc21 => ?_)
 ·refine Ws<|Rm z<|R z (bP (parts := []) (cs := [vI 0, sl none 0 0, sl none 0 0]) Q_ z z)<|R z (fd a_8 z)<|R z (l1 G_ z fid<|h7.at z)<|Rm z ?_
  have h22 : ∀ k ∈ [w4.z], ¬ B k := or0 (f_ lr)  (r_ (zt' hBw h2.s))
  have h44 := ((h2.ag B).e h0).c h1<|k_ h22
  have h17 := lt_ (lt_ h2.s h0.s) h1.s
  obtain ⟨r7l, r10m, r10n, e7m, hm7n⟩ := O_ (ifT hm43 hc21)
  refine E z (fc call185 z<|ih2.run (B := B) (x2 := (⟨0, ([] : List UInt8), ([] : List Val)⟩ : Val)) e7m (zt' hBw h17) (p1_0.g h44) (p1_1.g h44) ((h5.e h0).c h1<|(k_ h22) _ hC1b) hC1b (ii z) onL K_ an_ onL K_ an_ an_ (hn.g<|(h0.ag B).c h1<|k_ h22) p3_0) ?_
  rintro _ w10o ⟨s45, a46, n47, c48, S49, a4a, n4b, c4c, S4d, v7o, S7p, rfl, h7q, h7r, h7s, h7t, h7u, h4e, h23, h18⟩
  iterate 3 refine R z (ext_ z z) ?_
  refine E0 (fs (cur' := [vI r7l.number, sl a46 n47 c48, sl a4a n4b c4c]) i_ z z (((h3.e h0).c h1<|djs<|mmr h3.lt).c s45<|atp<|nmA (nmN _)<|nmN _) z (lb z) (oA z) z) ?_
  rintro _ w10p ⟨h7v, s7w⟩
  have h19 := s7w.one
  refine Ra z<|Ra z<|Wn ?_
  obtain rfl := som hm7n
  have h24 := lt_ h0.s h1.s
  have h7x : ∀ k ∈ S49, k ∉ [w0.z] := or1 (al_ h18) al0 (a_A (f_ h3.lt) h24)
  have h7y : ∀ k ∈ S4d, k ∉ [w0.z] := or1 (ar_ h18) al0 (a_A (f_ h3.lt) h24)
  exact Wr<|rtO<|s_ hr (u_ x_ i_ z h7v z) z z ⟨(bM (bM (bM (bup h2 h0) h1<|m1 h2.s) s45 al0) h19<|f_ lr), a46, n47, c48, S49, a4a, n4b, c4c, S4d, v7o, S7p, z, h7q, (h7r.c h19 h7x), (h7s.c h19 h7y), h7t, (h7u.c h19<|p_ h4e h3.lt h24), (m_ h4e h17), (na_ (nl_ h23) (nr_ h23)<|nj h23), (aa_ (a_x (al_ h18) al0 h17)<|a_x (ar_ h18) al0 h17)⟩
 have hm4f := ifF hm43 hc21
 refine Ws<|R z (eql z z)<|Ra z<|Wn<|Wc z (fun hc25 => ?_) (fun hc25 => ?_)
 ·refine Ws<|Rm z<|R z (lN (vs := (vR x9 aa nb cc ad ne cf ah ng ci aj nk cl)) N_ t_ z z fid<|h7.row 0 8 z)<|Rm z ?_
  have h26 : ∀ k ∈ [w4.z], ¬ B k := or0 (f_ lr)  (r_ (zt' hBw h2.s))
  have h4g := ((h2.ag B).e h0).c h1<|k_ h26
  have h1a := (h0.ag B).c h1<|k_ h26
  have h1b := lt_ (lt_ h2.s h0.s) h1.s
  obtain ⟨r7z, r10q, r10r, e80, hm81⟩ := O_ (ifT hm4f hc25)
  refine E z (fc call186 z<|ih3.run (B := B) e80 (zt' hBw h1b) (p1_0.g h4g) (p1_1.g h4g) ((h5.e h0).c h1<|(k_ h26) _ hC1b) hC1b hq ht ho (hp.g h1a) (hu.g h1a) (hv.g h1a) (hn.g h1a) p3_0) ?_
  rintro _ w10s ⟨s4h, a4i, n4j, c4k, S82, a4l, n4m, c4n, S83, v84, S85, rfl, h86, h87, h88, h89, h8a, h4o, h27, h1c⟩
  iterate 3 refine R z (ext_ z z) ?_
  refine E0 (fs (cur' := [vI r7z.number, sl a4i n4j c4k, sl a4l n4m c4n]) i_ z z (((h3.e h0).c h1<|djs<|mmr h3.lt).e s4h) z (lb z) (oA z) z) ?_
  rintro _ w10t ⟨h8b, s8c⟩
  have h1d := s8c.one
  refine Ra z<|Ra z<|Wn ?_
  obtain rfl := som hm81
  have h28 := lt_ h0.s h1.s
  exact Wr<|rtO<|s_ hr (u_ x_ i_ z h8b z) z z ⟨(bM (bup (bM (bup h2 h0) h1<|m1 h2.s) s4h) h1d<|f_ lr), a4i, n4j, c4k, S82, a4l, n4m, c4n, S83, v84, S85, z, h86, (h87.c h1d<|p_ (al_ h1c) h3.lt h28), (h88.c h1d<|p_ (ar_ h1c) h3.lt h28), h89, (h8a.c h1d<|p_ h4o h3.lt h28), (m_ h4o h1b), (na_ (nl_ h27) (nr_ h27)<|nj h27), (aa_ (m_ (al_ h1c) h1b)<|m_ (ar_ h1c) h1b)⟩
 have hm4p := ifF hm4f hc25
 refine Ws<|R z (eql z z)<|Ra z<|Wn<|Wc z (fun hc29 => ?_) (fun hc29 => ?_)
 ·refine Ws<|Rm z<|R z (lN (vs := (vR x9 aa nb cc ad ne cf ah ng ci aj nk cl)) N_ t_ z z fid<|h7.row 0 8 z)<|Rm z ?_
  have h2a : ∀ k ∈ [w4.z], ¬ B k := or0 (f_ lr)  (r_ (zt' hBw h2.s))
  have h4q := ((h2.ag B).e h0).c h1<|k_ h2a
  have h1e := (h0.ag B).c h1<|k_ h2a
  have h1f := lt_ (lt_ h2.s h0.s) h1.s
  obtain ⟨r8d, r10u, r10v, e8e, hm8f⟩ := O_ (ifT hm4p hc29)
  refine E z (fc call187 z<|ih4.run (B := B) e8e (zt' hBw h1f) (p1_0.g h4q) (p1_1.g h4q) ((h5.e h0).c h1<|(k_ h2a) _ hC1b) hC1b hq ht ho (hp.g h1e) (hu.g h1e) (hv.g h1e) (hn.g h1e) p3_0) ?_
  rintro _ w10w ⟨s4r, a4s, n4t, c4u, S8g, a4v, n4w, c4x, S8h, v8i, S8j, rfl, h8k, h8l, h8m, h8n, h8o, h4y, h2b, h1g⟩
  iterate 3 refine R z (ext_ z z) ?_
  refine E0 (fs (cur' := [vI r8d.number, sl a4s n4t c4u, sl a4v n4w c4x]) i_ z z (((h3.e h0).c h1<|djs<|mmr h3.lt).e s4r) z (lb z) (oA z) z) ?_
  rintro _ w10x ⟨h8p, s8q⟩
  have h1h := s8q.one
  refine Ra z<|Ra z<|Wn ?_
  obtain rfl := som hm8f
  have h2c := lt_ h0.s h1.s
  exact Wr<|rtO<|s_ hr (u_ x_ i_ z h8p z) z z ⟨(bM (bup (bM (bup h2 h0) h1<|m1 h2.s) s4r) h1h<|f_ lr), a4s, n4t, c4u, S8g, a4v, n4w, c4x, S8h, v8i, S8j, z, h8k, (h8l.c h1h<|p_ (al_ h1g) h3.lt h2c), (h8m.c h1h<|p_ (ar_ h1g) h3.lt h2c), h8n, (h8o.c h1h<|p_ h4y h3.lt h2c), (m_ h4y h1f), (na_ (nl_ h2b) (nr_ h2b)<|nj h2b), (aa_ (m_ (al_ h1g) h1f)<|m_ (ar_ h1g) h1f)⟩
 have hm4z := ifF hm4p hc29
 refine Ws<|R z (eql z z)<|Ra z<|Wn<|Wc z (fun hc2d => ?_) (fun hc2d => ?_)
 ·refine Ws<|Rm z<|R z (lN (vs := (vR x9 aa nb cc ad ne cf ah ng ci aj nk cl)) N_ t_ z z fid<|h7.row 0 8 z)<|Rm z ?_
  have h2e : ∀ k ∈ [w4.z], ¬ B k := or0 (f_ lr)  (r_ (zt' hBw h2.s))
  have h50 := ((h2.ag B).e h0).c h1<|k_ h2e
  have h1i := (h0.ag B).c h1<|k_ h2e
  have h1j := lt_ (lt_ h2.s h0.s) h1.s
  obtain ⟨r8r, r10y, r10z, e8s, hm8t⟩ := O_ (ifT hm4z hc2d)
  refine E z (fc call188 z<|ih5.run (B := B) e8s (zt' hBw h1j) (p1_0.g h50) (p1_1.g h50) ((h5.e h0).c h1<|(k_ h2e) _ hC1b) hC1b hq ht ho (hp.g h1i) (hu.g h1i) (hv.g h1i) (hn.g h1i) p3_0) ?_
  rintro _ w110 ⟨s51, a52, n53, c54, S8u, a55, n56, c57, S8v, v8w, S8x, rfl, h8y, h8z, h90, h91, h92, h58, h2f, h1k⟩
  iterate 3 refine R z (ext_ z z) ?_
  refine E0 (fs (cur' := [vI r8r.number, sl a52 n53 c54, sl a55 n56 c57]) i_ z z (((h3.e h0).c h1<|djs<|mmr h3.lt).e s51) z (lb z) (oA z) z) ?_
  rintro _ w111 ⟨h93, s94⟩
  have h1l := s94.one
  refine Ra z<|Ra z<|Wn ?_
  obtain rfl := som hm8t
  have h2g := lt_ h0.s h1.s
  exact Wr<|rtO<|s_ hr (u_ x_ i_ z h93 z) z z ⟨(bM (bup (bM (bup h2 h0) h1<|m1 h2.s) s51) h1l<|f_ lr), a52, n53, c54, S8u, a55, n56, c57, S8v, v8w, S8x, z, h8y, (h8z.c h1l<|p_ (al_ h1k) h3.lt h2g), (h90.c h1l<|p_ (ar_ h1k) h3.lt h2g), h91, (h92.c h1l<|p_ h58 h3.lt h2g), (m_ h58 h1j), (na_ (nl_ h2f) (nr_ h2f)<|nj h2f), (aa_ (m_ (al_ h1k) h1j)<|m_ (ar_ h1k) h1j)⟩
 refine Wk<|Wq (Wd (X := noX) 0 (.rd 0 (.rd 1 (.rd 2 (.rd 3 (.rd 4 (.rd 5 (.rd 6 (.rd 7 (.rd 8 (.ef 9 (.rd 10 (.rd 11 (.rd 12 (.rd 13 (.rd 14 (.rd 15 (.rd 16 .done))))))))))))))))) mo (by kernel_rfl) fun w112 s6 _ => dR z z (mv z)<|dR z z (c_c z)<|dR z z (fd e_k z) ?_)
 have h2h : ∀ k ∈ [w4.z], ¬ B k := or0 (f_ lr)  (r_ (zt' hBw h2.s))
 refine dR z z (l1 J_ z fid<|(((h5.e h0).c h1<|(k_ h2h) _ hC1b).e s6).at (j := 1) z)<|dR z z (mv z)<|dR z z (fd a_R z)<|dR z z (l1 J_ z fid<|(h7.e s6).at z) ?_
 obtain ⟨x113, e95, hm96⟩ := bdS (ifF hm4z hc2d)
 refine dRX z z (at_ (α := UInt8) h_ z_5 z z z (hp.g<|((h0.ag B).c h1<|k_ h2h).e s6) e95) ?_
 rintro _ ⟨b114, o115, cs116, rfl, h97, h98, h117⟩
 obtain rfl := u8 h98
 refine dR z z (l1 g_5 z fid<|h97.at0 z) ?_
 have h2i := lt_ (lt_ (lt_ h2.s h0.s) h1.s) s6.s
 obtain ⟨r118, r119, r11a, e99, hm59⟩ := O_ hm96
 refine dE z z (fc call189 z<|W_w3f (B := B) e99 (zt' hBw h2i) (p1_1.g<|(((h2.ag B).e h0).c h1<|k_ h2h).e s6) p3_0) (.inr fun _ _ h => A_<|h.1) ?_
 rintro _ w11b ⟨sm, a2j, n2k, c2l, S9a, rfl, h9b, h9c, h9d, h5a⟩
 refine dR z z (mv z) ?_
 iterate 3 refine dR z z (ext_ z z) ?_
 iterate 3 refine dR z z (asg z) ?_
 refine pD<|Wo<|Wq<|Ws<|Rm z<|R z (not_ z)<|Wn<|Wc z (fun hc2m => ?_) (fun hc2m => ?_)
 ·refine Ws<|R z (bP (parts := []) (cs := [vI 0, sl none 0 0, sl none 0 0]) Q_ z z)<|Rm z<|Rm z ?_
  have h5b := lt_ h2i sm.s
  obtain ⟨r11c, e9e, hm9f⟩ := bdS (ifT hm59 hc2m)
  refine E z (fc call190 z<|d_n (B := B) e9e (zt' hBw h5b) p3_0<|ii z) ?_
  rintro _ w11d ⟨s5c, v9g, S9h, rfl, h9i, h5d⟩
  refine E0 (fs (cur' := [vI 0, sl none 0 0, sl none 0 0]) i_ z z (((((h3.e h0).c h1<|djs<|mmr h3.lt).e s6).e sm).e s5c) z (lb z) (oA z) z) ?_
  rintro _ w11e ⟨h9j, s9k⟩
  have h5e := s9k.one
  refine Ra z<|Ra z<|Wn ?_
  obtain rfl := som hm9f
  exact Wr<|s_ hr (u_ x_ i_ z h9j z) z z ⟨(bM (bup (bup (bup (bM (bup h2 h0) h1<|m1 h2.s) s6) sm) s5c) h5e<|f_ lr), none, 0, 0, [], none, 0, 0, [], v9g, S9h, z, (ii z), onL, onL, p3_0, (h9i.c h5e<|p_ h5d h3.lt<|lt_ (lt_ (lt_ h0.s h1.s) s6.s) sm.s), (m_ h5d h5b), nd0, al0⟩
 refine Wk<|Ws<|Rm z<|R z (bP (parts := [(1, (.tmp 159))]) (cs := [vI 0, sl a2j n2k c2l, sl none 0 0]) Q_ z z)<|Rm z<|E0 (fs (cur' := [vI 0, sl a2j n2k c2l, sl none 0 0]) i_ z z ((((h3.e h0).c h1<|djs<|mmr h3.lt).e s6).e sm) z (lb z) (oA z) z) ?_
 rintro _ w11f ⟨h9l, s9m⟩
 have h5f := s9m.one
 refine Ra z<|Ra z<|Wn ?_
 obtain rfl := som (ifF hm59 hc2m)
 exact Wr<|s_ hr (u_ x_ i_ z h9l z) z z ⟨(bM (bup (bup (bM (bup h2 h0) h1<|m1 h2.s) s6) sm) h5f<|f_ lr), a2j, n2k, c2l, S9a, none, 0, 0, [], .nilIface, ([] : List Nat), z, (ii z), (h9b.c h5f<|p_ h5a h3.lt<|lt_ (lt_ h0.s h1.s) s6.s), onL, h9c, d_s, an_, (na_ h9d K_<|nmN _), (aa_ (m_ h5a h2i) an_)⟩
theorem T_w1e (ih : d_N n) : i_A (g_k n (Y_ n)) := by
 obtain ⟨ih0, ih1, ih2, ih3, ih4, ih5⟩ := ih
 constructor
 intro A0 A1 A3 A4 A2 A5 N0 C0 N1 C1 b1 o1 N3 C3 N4 C4 N2 C2 N5 C5 B x1 x2 x3 res w0 hm hBw p1_0 p1_1 hC1 hC1b p2_0 p2_1 p2_2 p2_4 p2_5 p2_6 p2_7 p3_0
 unfold g_k at hm
 refine goF func184 z z (lb z) fun fn hr => Ws<|E z (fb z) ?_
 rintro _ w7 ⟨rfl, hw⟩
 have h4 := hw.below
 have hx : Blk w7 w0.z (vR x2 A3 N3 C3 A4 N4 C4 A2 N2 C2 A5 N5 C5) := hw.blk
 refine E z (fa a_9) ?_
 rintro _ w1r ⟨rfl, hy⟩
 have h6 := hy.below
 have h5 : Blk w1r w7.z [vI 0, sl none 0 0, sl none 0 0] := hy.blk
 refine Ra z<|Ra z<|Wn<|Ws<|Rm z<|R z (fd a_8 z) ?_
 have hz := hx.e h6
 refine R z (l1 G_ z fid<|hz.at z) ?_
 obtain ⟨x3m, e1s, hm1t⟩ := bdS hm
 have hd := (h4.ag B).e h6
 refine RX z (at_ (α := Int) B_ z_3 z z z (p2_7.g hd) e1s) ?_
 rintro _ ⟨b3n, o3o, cs3p, rfl, h1u, h1v, h3q⟩
 obtain ⟨rfl, h1w⟩ := a_7 h1v
 refine R z (l1 g_3 z fid<|h1u.at0 z)<|Rm z ?_
 have h10 := (hC1.e h4).e h6
 have he := lt_ h4.s h6.s
 obtain ⟨r3r, rr, r3s, e1x, hms⟩ := O_ hm1t
 refine E z (fc call181 z<|h_4 (B := B) e1x (zt' hBw he) (p1_0.g hd) (p1_1.g hd) h10 hC1b h1w p3_0) ?_
 rintro _ w1 ⟨s0, v1y, S1z, rfl, h3t, h20, h11, h12⟩
 refine Rm z ?_
 iterate 3 refine R z (ext_ z z) ?_
 refine Ra z<|Ra z<|Ra z<|Wn<|Wq<|Ws<|Rm z<|R z (d_7 c_S z z h11)<|Wn<|Wc z (fun hcm => ?_) (fun hcm => ?_)
 ·refine Ws<|R z (bP (parts := []) (cs := [vI 0, sl none 0 0, sl none 0 0]) Q_ z z)<|Rm z<|Rm z<|E0 (fs (cur' := [vI 0, sl none 0 0, sl none 0 0]) i_ z z (h5.e s0) z (lb z) (oA z) z) ?_
  rintro _ w3u ⟨h21, s22⟩
  have h13 := s22.one
  refine Ra z<|Ra z<|Wn ?_
  obtain rfl := som (ifT hms hcm)
  exact Wr<|s_ hr (u_ x_ i_ z h21 z) z z ⟨(bM (bup (bup h4 h6) s0) h13<|m1 h4.s), none, 0, 0, [], none, 0, 0, [], v1y, S1z, z, (ii z), onL, onL, p3_0, (h11.c h13<|p_ h12 h5.lt lr), (m_ h12 he), nd0, al0⟩
 have hm14 := ifF hms hcm
 refine Wk<|Wq<|Ws<|Rm z<|R z (a_c z z)<|Wn<|Wc z (fun hco => ?_) (fun hco => ?_)
 ·refine Ws<|R z (bP (parts := []) (cs := [vI 0, sl none 0 0, sl none 0 0]) Q_ z z)<|Rm z<|Rm z ?_
  have h15 := lt_ he s0.s
  obtain ⟨r3v, e23, hm24⟩ := bdS (ifT hm14 hco)
  refine E z (fc call190 z<|d_n (B := B) e23 (zt' hBw h15) p3_0<|ii z) ?_
  rintro _ w3w ⟨s16, v25, S26, rfl, h27, h17⟩
  refine E0 (fs (cur' := [vI 0, sl none 0 0, sl none 0 0]) i_ z z ((h5.e s0).e s16) z (lb z) (oA z) z) ?_
  rintro _ w3x ⟨h28, s29⟩
  have h18 := s29.one
  refine Ra z<|Ra z<|Wn ?_
  obtain rfl := som hm24
  exact Wr<|s_ hr (u_ x_ i_ z h28 z) z z ⟨(bM (bup (bup (bup h4 h6) s0) s16) h18<|m1 h4.s), none, 0, 0, [], none, 0, 0, [], v25, S26, z, (ii z), onL, onL, p3_0, (h27.c h18<|p_ h17 h5.lt s0.s), (m_ h17 h15), nd0, al0⟩
 refine Wk<|Ws<|Rm z ?_
 obtain ⟨x2a, e2b, hm2c⟩ := bdS (ifF hm14 hco)
 refine E z (d_V (α := Int) i_i (fun _ => (c_C<|ii z)) e2b z z) ?_
 rintro _ w2 ⟨ac, nf, cg, rfl, s8, hp⟩
 refine Ra z<|Wn<|Wq<|Ws<|Rm z<|R z (lnR B_ z<|b_.rep hp)<|Rm z<|Wn ?_
 obtain ⟨u3y, hu2d, hm19⟩ := bdS hm2c
 refine Wf (σ := (List Int)) (ρ := Val × Int × (Option<|Int × Int)) (fun (k1a : Nat) (x9 : List Int) a w => ∃  (S3 : List Nat), Sat 59 [(0, (.pointer<|some ⟨b1, o1, none⟩)), (4, pt w0.z), (6, pt w7.z), (10, vI rr), (12, sl ac nf cg), (39, vI (x2a.length : Int)), (40, (vI ((k1a : Nat) : Int)))] a ∧ Chg (· ∈ [w1.z]) w2 w ∧ b_ w S3 (sl ac nf cg) x9 ∧ S3.Nodup ∧ (∀ k ∈ S3, k ∈ [w1.z] ∨ w2.z ≤ k)) (fun (x9 : List Int) a w => ∃  (S3 : List Nat), Sat 59 [(0, (.pointer<|some ⟨b1, o1, none⟩)), (6, pt w7.z), (10, vI rr), (12, sl ac nf cg)] a ∧ Chg (· ∈ [w1.z]) w2 w ∧ b_ w S3 (sl ac nf cg) x9 ∧ S3.Nodup ∧ (∀ k ∈ S3, k ∈ [w1.z] ∨ w2.z ≤ k)) (fun r ex a w => ex = .ret ∧ v_ prog fn (Q24 w0 B r) a w) hu2d ?_ ?_ ?_ ?_ ?_
 ·exact fun _ q => ⟨[w1.z], (q.k<|s7 z z z z z z z), (cr [w1.z] w2), hp, a_0, (io sr)⟩
 ·rintro k1a x9 a3z w2e o40 hk1b ⟨S3, hS2f, sh, ha, hi, hj⟩ hm2g
  refine Wu ?_ hS2f
  refine Ws<|R z (lss z z)<|Wn<|Wq<|Wc z (fun _ => ?_) (fun hc => (R_ hk1b hc).elim)
  refine Wk<|Wq<|Wb<|Ws<|Rm z<|Ra z<|Wn<|Wg<|Rm z<|Rm z<|R z (fd a_8 z)<|R z (l1 G_ z fid<|(((hz.e s0).e s8).c sh<|djs<|mm1 hx.lt<|lt_ h6.s s0.s).at z) ?_
  obtain ⟨x41, e2h, hm2i⟩ := bdS hm2g
  have h2j : ∀ k ∈ [w1.z], ¬ B k := or0 (f_ lr)  (r_ (zt' hBw (lt_ he s0.s)))
  refine RX z (at_ (α := Int) B_ z_3 z z z (p2_7.g<|((hd.e s0).e s8).c sh<|k_ h2j) e2h) ?_
  rintro _ ⟨b42, o43, cs44, rfl, h2k, h2l, h45⟩
  obtain ⟨rfl, h2m⟩ := a_7 h2l
  refine R z (l1 g_3 z fid<|h2k.at0 z) ?_
  obtain ⟨x2n, e1c, hm2o⟩ := bdS hm2i
  refine RX z (d_1 (α := Int) B_ z_3 z z ha e1c) ?_
  rintro _ ⟨g46, h2p, rfl⟩
  refine E0 (c_E (α := Int) z_3 z h2p z z z e1c ha hi (c_C h2m) an_ K_) ?_
  rintro _ w2q ⟨S1d, s2r, h2s, h2t, h2u⟩
  refine Wn<|Wg<|R z (inc_ hk1b (lt_ (b_.len hp) H_) z z)<|Rm z<|Wl ?_
  have h1e : ∀ k ∈ S3, k ∈ [w1.z] ∨ w2.z ≤ k := or1 hj (io sr) (l_ lr)
  have h2v : ∀ k ∈ S1d, k ∈ [w1.z] ∨ w2.z ≤ k := or2 h2u h1e an_ (l_ sh.s)
  have h2w : Chg (· ∈ [w1.z]) w2 w2e := cM (cr [w1.z] w2) sh (io sr)
  have h2x : Chg (· ∈ [w1.z]) w2 w2q := cM h2w s2r h1e
  exact fun _ q => ⟨x2n, (som hm2o).symm, ⟨S1d, (q.k<|s7 z z z z z z z), h2x, h2s, h2t, h2v⟩⟩
 ·rintro x9 a47 w2y ⟨S3, hS2z, s30, ha, hi, hj⟩
  refine Wu ?_ hS2z
  refine Ws<|R z (lss z z)<|Wn<|Wq<|Wc z (fun hc => (S_ hc).elim) (fun _ => ?_)
  have h31 : ∀ k ∈ S3, k ∈ [w1.z] ∨ w2.z ≤ k := or1 hj (io sr) (l_ lr)
  have h32 : Chg (· ∈ [w1.z]) w2 w2y := cM (cr [w1.z] w2) s30 (io sr)
  exact We (fun a' ha' => ⟨rfl, ⟨S3, (Sat.weaken ha'<|s4 z z z z), h32, ha, hi, h31⟩⟩)
 ·rintro x9 a33 w34 rfl ⟨S3, hS48, sb, ha, hi, hj⟩
  have hm35 := elL hm19
  revert a33
  refine Wo<|Ws<|Rm z<|R z (bP (parts := []) (cs := [vI 0, sl none 0 0, sl none 0 0]) Q_ z z)<|Rm z<|Rm z ?_
  have hq := lt_ he s0.s
  have h1f : ∀ k ∈ [w1.z], ¬ B k := or0 (f_ lr)  (r_ (zt' hBw hq))
  have h1g := ((hd.e s0).e s8).c sb<|k_ h1f
  have hk := lt_ (lt_ hq s8.s) sb.s
  have ht := zt' hBw hk
  obtain ⟨r36, r49, r4a, e37, hm38⟩ := O_ hm35
  refine E z (fc call185 z<|ih2.run (B := w34.z) (x2 := (⟨0, ([] : List UInt8), ([] : List Val)⟩ : Val)) e37 zr (a_.mono (p1_0.g h1g) ht) (a_.mono (p1_1.g h1g) ht) (((h10.e s0).e s8).c sb<|(k_ h1f) _ hC1b) (zap' ht hC1b) (ii z) onL K_ (nbl an_) onL K_ (nbl an_) an_ (b_.rep ha) h20) ?_
  rintro _ w4b ⟨s1h, a1i, n1j, c1k, S1l, a1m, n1n, c1o, S1p, v39, S3a, rfl, h3b, h3c, h3d, h3e, h3f, h1q, hu, hl⟩
  iterate 3 refine R z (ext_ z z) ?_
  refine E0 (fs (cur' := [vI r36.number, sl a1i n1j c1k, sl a1m n1n c1o]) i_ z z ((((h5.e s0).e s8).c sb<|djs<|mm1 h5.lt s0.s).c s1h<|atp<|nmA (nmN _)<|nmN _) z (lb z) (oA z) z) ?_
  rintro _ w4c ⟨h3g, s3h⟩
  have hn := s3h.one
  refine Ra z<|Ra z<|Wn ?_
  obtain rfl := som hm38
  have hv := lt_ (lt_ s0.s s8.s) sb.s
  have h3i : ∀ k ∈ S1l, k ∉ [w7.z] := or1 (al_ hl) al0 (a_A (f_ h5.lt) hv)
  have h3j : ∀ k ∈ S1p, k ∉ [w7.z] := or1 (ar_ hl) al0 (a_A (f_ h5.lt) hv)
  exact Wr<|s_ hr (u_ x_ i_ z h3g z) z z ⟨(bM (bM (bM (bup (bup (bup h4 h6) s0) s8) sb<|m1 hq) s1h al0) hn<|m1 h4.s), a1i, n1j, c1k, S1l, a1m, n1n, c1o, S1p, v39, S3a, z, h3b, (h3c.c hn h3i), (h3d.c hn h3j), h3e, (h3f.c hn<|p_ h1q h5.lt hv), (m_ h1q hk), (na_ (nl_ hu) (nr_ hu)<|nj hu), (aa_ (a_x (al_ hl) al0 hk)<|a_x (ar_ hl) al0 hk)⟩
 rintro r4d ex4e a4f w4g rfl ⟨rfl, hq3k⟩
 have hm3l := elR hm19
 obtain rfl := som hm3l
 exact ⟨hq3k, z⟩
theorem T_w1f (ih : d_N n) : i_B (g_l n (Y_ n)) := by
 obtain ⟨ih0, ih1, ih2, ih3, ih4, ih5⟩ := ih
 constructor
 intro A0 A1 AC AG A7 N0 C0 N1 C1 b1 o1 NC CC NG CG N7 C7 S2_1 S2_2 B x1 x2 x3 x4 res w0 hm hBw p1_0 p1_1 hC1 hC1b p2_0 p2_1 p2_1n p2_1g p2_2 p2_2n p2_2g p2_2d1 p3_0 p4_0
 unfold g_l at hm
 refine goF func185 z z (lb z) fun fn hr => Ws<|E z (fb z) ?_
 rintro _ wb ⟨rfl, h17⟩
 have h2 := h17.below
 have he : Blk wb w0.z [vI x2.number, sl AC NC CC, sl AG NG CG] := h17.blk
 refine E z (fa a_9) ?_
 rintro _ w1 ⟨rfl, h18⟩
 have h9 := h18.below
 have hk : Blk w1 wb.z [vI 0, sl none 0 0, sl none 0 0] := h18.blk
 refine Ra z<|Ra z<|Wn<|Wq<|Ws<|Rm z ?_
 have h19 := (h2.ag B).e h9
 refine R z (lnR B_ z<|p3_0.g h19)<|Rm z<|Wn ?_
 obtain ⟨u47, hu21, hm1a⟩ := bdS hm
 refine Wf (σ := Int × (List Val)) (ρ := Val × Int × (Option<|Int × Int)) (fun (k1b : Nat) s a w => un2 (fun xc xh => ∃ a3 n4 c5 S0, Sat 45 [(0, (.pointer<|some ⟨b1, o1, none⟩)), (3, vI xc), (5, pt w0.z), (8, pt wb.z), (16, sl A7 N7 C7), (17, vI (x3.length : Int)), (18, (vI ((k1b : Nat) : Int)))] a ∧ Chg (· ∈ (S2_2 ++ [w0.z])) w1 w ∧ inI xc ∧ b_ w S0 (sl a3 n4 c5) xh ∧ S0.Nodup ∧ (∀ k ∈ S0, k ∈ S2_2 ∨ w1.z ≤ k) ∧ Blk w w0.z [vI x2.number, sl AC NC CC, sl a3 n4 c5]) s) (fun s a w => un2 (fun xc xh => ∃ a3 n4 c5 S0, Sat 45 [(3, vI xc), (5, pt w0.z), (8, pt wb.z)] a ∧ Chg (· ∈ (S2_2 ++ [w0.z])) w1 w ∧ inI xc ∧ b_ w S0 (sl a3 n4 c5) xh ∧ S0.Nodup ∧ (∀ k ∈ S0, k ∈ S2_2 ∨ w1.z ≤ k) ∧ Blk w w0.z [vI x2.number, sl AC NC CC, sl a3 n4 c5]) s) (fun r ex a w => ex = .ret ∧ v_ prog fn (Q25 w0 B S2_1 S2_2 r) a w) hu21 ?_ ?_ ?_ ?_ ?_
 ·exact fun _ q => ⟨AG, NG, CG, S2_2, (q.k<|s7 z z z z z z z), (cr (S2_2 ++ [w0.z]) w1), p4_0, ((p2_2.e h2).e h9), p2_2n, (io sr), (he.e h9)⟩
 ·rintro k1b ⟨xc, xh⟩ a48 w1c o49 hk1d ⟨a3, n4, c5, S0, hS22, s6, hi, hf, hl, hd, hn⟩ hm23
  have hm24 := a_2 hm23
  refine Wu ?_ hS22
  refine Ws<|R z (lss z z)<|Wn<|Wq<|Wc z (fun _ => ?_) (fun hc => (R_ hk1d hc).elim)
  refine Wk<|Wq<|Wb<|Ws ?_
  obtain ⟨x4a, e25, hm26⟩ := bdS hm24
  have h1e : ∀ k ∈ [w0.z], ¬ B k := or0 (f_ lr)  (r_ hBw)
  have ht := h19.c s6<|nmA (k_ p2_2g)<|k_ h1e
  refine RX z (at_ (α := Int) B_ z_3 z z z (p3_0.g ht) e25) ?_
  rintro _ ⟨b4b, o4c, cs4d, rfl, h27, h28, h4e⟩
  obtain ⟨rfl, h29⟩ := a_7 h28
  refine R z (l1 g_3 z fid<|h27.at0 z)<|Ra z<|Wn<|Ws<|Rm z<|Rm z<|Rm z ?_
  have hu := lt_ (lt_ h2.s h9.s) s6.s
  obtain ⟨ro, r2a, r4f, e2b, hm1f⟩ := O_ hm26
  refine E z (fc call154 z<|ih0.run (B := B) e2b (zt' hBw hu) (p1_0.g ht) (p1_1.g ht) (((hC1.e h2).e h9).c s6<|(nmA (k_ p2_2g)<|k_ h1e) _ hC1b) hC1b h29 hi) ?_
  rintro _ wm ⟨sa, ar, ns, cv, S1g, aw, nx, cy, S1h, v2c, S2d, rfl, h2e, hp, hq, h2f, h1i, h1j, hz, hj⟩
  refine Rm z ?_
  iterate 3 refine R z (ext_ z z) ?_
  refine E z (fa a_9) ?_
  rintro _ w10 ⟨rfl, h1k⟩
  have h7 := h1k.below
  have h2g : Blk w10 wm.z [vI 0, sl none 0 0, sl none 0 0] := h1k.blk
  refine E0 (fs (cur' := [vI ro.number, sl ar ns cv, sl aw nx cy]) i_ z z h2g z (lb z) (oA z) z) ?_
  rintro _ w11 ⟨h2h, s2i⟩
  have h8 := s2i.one
  refine Ra z<|Ra z<|Wn<|Wq<|Ws<|Rm z ?_
  have h1l := (h1i.e h7).c h8<|ds<|mnr<|a_k.lt h1i
  refine R z (d_7 c_S z z h1l)<|Wn<|Wc z (fun hc12 => ?_) (fun hc12 => ?_)
  ·refine Ws<|R z (bP (parts := []) (cs := [vI 0, sl none 0 0, sl none 0 0]) Q_ z z)<|Rm z<|Rm z ?_
   have h2j := (((hk.c s6<|atp<|nmA (mno (b_.lt p2_2) h2.s)<|mmr he.lt).e sa).e h7).c h8<|djs<|mm1 hk.lt<|lt_ s6.s sa.s
   refine E0 (fs (cur' := [vI 0, sl none 0 0, sl none 0 0]) i_ z z h2j z (lb z) (oA z) z) ?_
   rintro _ w2k ⟨h2l, s2m⟩
   have h1m := s2m.one
   refine Ra z<|Ra z<|Wn ?_
   have h2n : Chg (· ∈ (S2_1 ++ S2_2)) w0 wb := z_ (cr (S2_1 ++ S2_2) w0) h2
   have h2o : Chg (· ∈ (S2_1 ++ S2_2)) w0 w1 := z_ h2n h9
   have h2p : ∀ k ∈ [w0.z], k ∈ (S2_1 ++ S2_2) ∨ w0.z ≤ k := mor lr
   have h2q : Chg (· ∈ (S2_1 ++ S2_2)) w0 w1c := cM h2o s6 (aa_ (io (a_5 sr)) h2p)
   have h2r : Chg (· ∈ (S2_1 ++ S2_2)) w0 wm := z_ h2q sa
   have h2s : Chg (· ∈ (S2_1 ++ S2_2)) w0 w10 := z_ h2r h7
   have h2t : ∀ k ∈ [wm.z], k ∈ (S2_1 ++ S2_2) ∨ w0.z ≤ k := mor (lt_ hu sa.s)
   have h2u : Chg (· ∈ (S2_1 ++ S2_2)) w0 w11 := cM h2s h8 h2t
   have h2v : ∀ k ∈ [wb.z], k ∈ (S2_1 ++ S2_2) ∨ w0.z ≤ k := mor h2.s
   have h2w : Chg (· ∈ (S2_1 ++ S2_2)) w0 w2k := cM h2u h1m h2v
   exact Wr<|rtO<|qL (som<|ifT hm1f hc12).symm<|s_ hr (u_ x_ i_ z h2l z) z z ⟨h2w, none, 0, 0, [], none, 0, 0, [], v2c, S2d, z, (ii z), onL, onL, hi, (h1l.c h1m<|p_ h1j hk.lt s6.s), (m_ h1j hu), nd0, al0⟩
  refine Wk<|Ws<|R z (fd g_X z) ?_
  have h13 := lt_ h9.s s6.s
  have h1n := lt_ h13 sa.s
  have h1o := ((hn.e sa).e h7).c h8<|djs<|mm1 he.lt h1n
  refine R z (l1 g_116 z fid<|h1o.at z)<|R z (lN (vs := [vI ro.number, sl ar ns cv, sl aw nx cy]) x_ i_ z z fid<|h2h.row 0 3 z)<|E z (fS [(.tmp 37)] g_W z z z (a_p z) (lb z)<|lb z) ?_
  rintro _ w1p ⟨rfl, h1q⟩
  have hg := h1q.below
  have h2x : Blk w1p w11.z [vI ro.number, sl ar ns cv, sl aw nx cy] := h1q.blk
  have h4g := (hp.e h7).c h8<|ds<|mnr<|b_.lt hp
  have h4h := (hq.e h7).c h8<|ds<|mnr<|b_.lt hq
  obtain ⟨x2y, e2z, hm30⟩ := bdS (ifF hm1f hc12)
  refine E z (b_d (α := Val) g_W e2z z z ((((hf.e sa).e h7).c h8<|ds<|mno (b_.lt hf) sa.s).e hg) hl h2x (n_e (x := ro) (S1 := S1g) (S2 := S1h) h2e (((hp.e h7).c h8<|ds<|mnr<|b_.lt hp).e hg)<|((hq.e h7).c h8<|ds<|mnr<|b_.lt hq).e hg) (aa_ (a_u (al_ hj) (b_.lt hf) lr)<|a_u (ar_ hj) (b_.lt hf) lr)<|na_ (nl_ hz) (nr_ hz)<|nj hz) ?_
  rintro _ w31 ⟨S14, a1r, n1s, c1t, rfl, s1u, h32, h33, h1v⟩
  refine R z (fd g_X z) ?_
  have h1w : ∀ k ∈ S0, k ∉ [w0.z] := or1 hd (ds (mnr (b_.lt p2_2))) (a_A (f_ he.lt) h9.s)
  refine E0 (fs (cur' := [vI x2.number, sl AC NC CC, sl a1r n1s c1t]) z_116 z z ((h1o.e hg).c s1u<|djs h1w) z (lb z) (oA z) z) ?_
  rintro _ w34 ⟨h35, s36⟩
  have h1x := s36.one
  refine Wn<|Wg<|Rm z<|Ra z<|Wn<|Wg<|R z (inc_ hk1d (lt_ (a_.len p3_0) H_) z z)<|Rm z<|Wl ?_
  have h37 : ∀ k ∈ S14, k ∉ [w0.z] := or2 h1v h1w (aa_ (p_ (al_ hj) he.lt h13) (p_ (ar_ hj) he.lt h13)) (a_A (f_ he.lt) (lt_ (lt_ (lt_ h1n h7.s) h8.s) hg.s))
  have h1y := lt_ s6.s sa.s
  have h38 : ∀ k ∈ S0, k ∈ S2_2 ∨ w1.z ≤ k := or1 hd (io sr) (l_ lr)
  have h39 : ∀ k ∈ S1g, k ∈ S2_2 ∨ w1.z ≤ k := or0 (al_ hj)  (l_ s6.s)
  have h3a : ∀ k ∈ S1h, k ∈ S2_2 ∨ w1.z ≤ k := or0 (ar_ hj)  (l_ s6.s)
  have h3b : ∀ k ∈ S14, k ∈ S2_2 ∨ w1.z ≤ k := or2 h1v h38 (aa_ h39 h3a) (l_ (lt_ (lt_ (lt_ h1y h7.s) h8.s) hg.s))
  have h3c : Chg (· ∈ (S2_2 ++ [w0.z])) w1 w1c := cM (cr (S2_2 ++ [w0.z]) w1) s6 (aa_ (io (a_T sr)) (io (a_5 sr)))
  have h3d : Chg (· ∈ (S2_2 ++ [w0.z])) w1 wm := z_ h3c sa
  have h3e : Chg (· ∈ (S2_2 ++ [w0.z])) w1 w10 := z_ h3d h7
  have h3f : ∀ k ∈ [wm.z], k ∈ (S2_2 ++ [w0.z]) ∨ w1.z ≤ k := mor h1y
  have h3g : Chg (· ∈ (S2_2 ++ [w0.z])) w1 w11 := cM h3e h8 h3f
  have h3h : Chg (· ∈ (S2_2 ++ [w0.z])) w1 w1p := z_ h3g hg
  have h3i : ∀ k ∈ S0, k ∈ (S2_2 ++ [w0.z]) ∨ w1.z ≤ k := or1 hd (io (a_T sr)) (l_ lr)
  have h3j : Chg (· ∈ (S2_2 ++ [w0.z])) w1 w31 := cM h3h s1u h3i
  have h3k : Chg (· ∈ (S2_2 ++ [w0.z])) w1 w34 := cM h3j h1x (io (a_5 sr))
  exact fun _ q => ⟨(r2a, x2y), (som hm30).symm, ⟨a1r, n1s, c1t, S14, (q.k<|s7 z z z z z z z), h3k, h2f, (h32.c h1x h37), h33, h3b, h35⟩⟩
 ·rintro ⟨xc, xh⟩ a4i w3l ⟨a3, n4, c5, S0, hS3m, s3n, hi, hf, hl, hd, hn⟩
  refine Wu ?_ hS3m
  refine Ws<|R z (lss z z)<|Wn<|Wq<|Wc z (fun hc => (S_ hc).elim) (fun _ => ?_)
  have h3o : ∀ k ∈ S0, k ∈ S2_2 ∨ w1.z ≤ k := or1 hd (io sr) (l_ lr)
  have h3p : Chg (· ∈ (S2_2 ++ [w0.z])) w1 w3l := cM (cr (S2_2 ++ [w0.z]) w1) s3n (aa_ (io (a_T sr)) (io (a_5 sr)))
  exact We (fun a' ha' => ⟨rfl, ⟨a3, n4, c5, S0, (Sat.weaken ha'<|s3 z z z), h3p, hi, hf, hl, h3o, hn⟩⟩)
 ·rintro ⟨xc, xh⟩ a3q w3r rfl ⟨a3, n4, c5, S0, hS4j, s15, hi, hf, hl, hd, hn⟩
  have hm3s := elL hm1a
  have hm3t := a_2 hm3s
  revert a3q
  refine Wo<|Ws<|R z (lN (vs := [vI x2.number, sl AC NC CC, sl a3 n4 c5]) x_ i_ z z fid<|hn.row 0 3 z)<|Rm z ?_
  have h1z := mno (b_.lt p2_2) h2.s
  refine E0 (fs (cur' := [vI x2.number, sl AC NC CC, sl a3 n4 c5]) i_ z z (hk.c s15<|atp<|nmA h1z<|mmr he.lt) z (lb z) (oA z) z) ?_
  rintro _ w3u ⟨h3v, s3w⟩
  have h16 := s3w.one
  refine Ra z<|Ra z<|Wn ?_
  obtain rfl := som hm3t
  have h3x : ∀ k ∈ S0, k ∉ [wb.z] := or1 hd (ds h1z) (a_A (f_ hk.lt) lr)
  have h3y : Chg (· ∈ (S2_1 ++ S2_2)) w0 wb := z_ (cr (S2_1 ++ S2_2) w0) h2
  have h3z : Chg (· ∈ (S2_1 ++ S2_2)) w0 w1 := z_ h3y h9
  have h40 : ∀ k ∈ [w0.z], k ∈ (S2_1 ++ S2_2) ∨ w0.z ≤ k := mor lr
  have h41 : Chg (· ∈ (S2_1 ++ S2_2)) w0 w3r := cM h3z s15 (aa_ (io (a_5 sr)) h40)
  have h42 : ∀ k ∈ [wb.z], k ∈ (S2_1 ++ S2_2) ∨ w0.z ≤ k := mor h2.s
  have h43 : Chg (· ∈ (S2_1 ++ S2_2)) w0 w3u := cM h41 h16 h42
  have h20 := lt_ h2.s h9.s
  have h44 : ∀ k ∈ S0, k ∈ (S2_1 ++ S2_2) ∨ w0.z ≤ k := or1 hd (io (a_5 sr)) (l_ h20)
  exact Wr<|s_ hr (u_ x_ i_ z h3v z) z z ⟨h43, AC, NC, CC, S2_1, a3, n4, c5, S0, .nilIface, ([] : List Nat), z, p2_0, ((((p2_1.e h2).e h9).c s15<|nmA (ds p2_2d1)<|ds<|mnr<|b_.lt p2_1).c h16<|ds<|mno (b_.lt p2_1) h2.s), (hf.c h16 h3x), hi, d_s, an_, (na_ p2_1n hl<|ds<|b_o hd p2_2d1 (b_.lt p2_1) h20), (aa_ (io<|a_T sr) h44)⟩
 rintro r4k ex4l a4m w4n rfl ⟨rfl, hq45⟩
 have hm46 := elR hm1a
 obtain rfl := som hm46
 exact ⟨hq45, z⟩
theorem T_w1g (ih : d_N n) : i_C (g_m n (Y_ n)) := by
 obtain ⟨ih0, ih1, ih2, ih3, ih4, ih5⟩ := ih
 constructor
 intro A0 A1 A3 A4 A2 A5 N0 C0 N1 C1 b1 o1 N3 C3 N4 C4 N2 C2 N5 C5 B x1 x2 x3 res w0 hm hBw p1_0 p1_1 hC1 hC1b p2_0 p2_1 p2_2 p2_4 p2_5 p2_6 p2_7 p3_0
 unfold g_m at hm
 refine goF func186 z z (lb z) fun fn hr => Ws<|E z (fb z) ?_
 rintro _ w5 ⟨rfl, hk⟩
 have h1 := hk.below
 have h1b : Blk w5 w0.z (vR x2 A3 N3 C3 A4 N4 C4 A2 N2 C2 A5 N5 C5) := hk.blk
 refine E z (fa a_9) ?_
 rintro _ w1c ⟨rfl, hl⟩
 have h4 := hl.below
 have h2 : Blk w1c w5.z [vI 0, sl none 0 0, sl none 0 0] := hl.blk
 refine Ra z<|Ra z<|Wn<|Ws<|Rm z<|R z (fd a_8 z) ?_
 have hn := h1b.e h4
 refine R z (l1 G_ z fid<|hn.at z) ?_
 obtain ⟨x2q, e1d, hm1e⟩ := bdS hm
 have h7 := (h1.ag B).e h4
 refine RX z (at_ (α := Int) B_ z_3 z z z (p2_7.g h7) e1d) ?_
 rintro _ ⟨b2r, o2s, cs2t, rfl, h1f, h1g, h2u⟩
 obtain ⟨rfl, h1h⟩ := a_7 h1g
 refine R z (l1 g_3 z fid<|h1f.at0 z)<|Rm z ?_
 have ho := (hC1.e h1).e h4
 have h8 := lt_ h1.s h4.s
 obtain ⟨re, r1i, r2v, e1j, hmm⟩ := O_ hm1e
 refine E z (fc call181 z<|h_4 (B := B) e1j (zt' hBw h8) (p1_0.g h7) (p1_1.g h7) ho hC1b h1h p3_0) ?_
 rintro _ w6 ⟨s0, v1k, S1l, rfl, h1m, h1n, hp, hq⟩
 refine Rm z ?_
 iterate 3 refine R z (ext_ z z) ?_
 refine Ra z<|Ra z<|Ra z<|Wn<|Wq<|Ws<|Rm z<|R z (d_7 c_S z z hp)<|Wn<|Wc z (fun hcf => ?_) (fun hcf => ?_)
 ·refine Ws<|R z (bP (parts := []) (cs := [vI 0, sl none 0 0, sl none 0 0]) Q_ z z)<|Rm z<|Rm z<|E0 (fs (cur' := [vI 0, sl none 0 0, sl none 0 0]) i_ z z (h2.e s0) z (lb z) (oA z) z) ?_
  rintro _ w2w ⟨h1o, s1p⟩
  have ht := s1p.one
  refine Ra z<|Ra z<|Wn ?_
  obtain rfl := som (ifT hmm hcf)
  exact Wr<|s_ hr (u_ x_ i_ z h1o z) z z ⟨(bM (bup (bup h1 h4) s0) ht<|m1 h1.s), none, 0, 0, [], none, 0, 0, [], v1k, S1l, z, (ii z), onL, onL, p3_0, (hp.c ht<|p_ hq h2.lt lr), (m_ hq h8), nd0, al0⟩
 refine Wk<|Wq<|Ws<|R z (fd a_O z) ?_
 have hu := hn.e s0
 refine R z (l1 G_ z fid<|hu.at z) ?_
 have hv := h7.e s0
 refine R z (lnR B_ z<|p2_6.g hv)<|Rm z<|Wn ?_
 obtain ⟨u2x, hu1q, hmr⟩ := bdS (ifF hmm hcf)
 refine Wf (σ := Unit) (ρ := Val × Int × (Option<|Int × Int)) (fun (ks : Nat) (_ : Unit) a w => Sat 61 [(0, (.pointer<|some ⟨b1, o1, none⟩)), (2, vI x3), (4, pt w0.z), (6, pt w5.z), (9, vI re), (10, vI r1i), (31, sl A2 N2 C2), (32, vI (x2.tags.length : Int)), (33, (vI ((ks : Nat) : Int)))] a ∧ Below w6.z w6 w) (fun (_ : Unit) a w => Sat 61 [(2, vI x3), (6, pt w5.z)] a ∧ Below w6.z w6 w) (fun r ex a w => ex = .ret ∧ v_ prog fn (Q24 w0 B r) a w) hu1q ?_ ?_ ?_ ?_ ?_
 ·exact fun _ q => ⟨(q.k<|s9 z z z z z z z z z), (br w6)⟩
 ·rintro ks _ a2y w2z o30 hkg ⟨hS1r, s3⟩ hm1s
  refine Wu ?_ hS1r
  refine Ws<|R z (lss z z)<|Wn<|Wq<|Wc z (fun _ => ?_) (fun hc => (R_ hkg hc).elim)
  refine Wk<|Wq<|Wb<|Ws<|Rm z ?_
  obtain ⟨x31, e1t, hmw⟩ := bdS hm1s
  have h9 := hv.e s3
  refine RX z (at_ (α := Int) B_ z_3 z z z (p2_6.g h9) e1t) ?_
  rintro _ ⟨b32, o33, cs34, rfl, h1u, h1v, h35⟩
  obtain ⟨rfl, h36⟩ := a_7 h1v
  refine R z (l1 g_3 z fid<|h1u.at0 z)<|Ra z<|Ra z<|Wn<|Ws<|Rm z<|Rm z<|R z (eql z z)<|Wn<|Wc z (fun hch => ?_) (fun hch => ?_)
  ·refine Ws<|Rm z<|Rm z<|R z (bP (parts := [(0, (.tmp 42))]) (cs := [vI re, sl none 0 0, sl none 0 0]) Q_ z z)<|R z (fd a_8 z)<|R z (l1 G_ z fid<|(hu.e s3).at z)<|Rm z<|R z (inc_ hkg (lt_ (a_.len p2_6) H_) z z)<|Rm z<|R z (add_ z z) ?_
   obtain ⟨x37, e1w, hm1x⟩ := bdS (ifT hmw hch)
   refine RX z (rX B_ z_3 z z (p2_7.g h9) z z e1w) ?_
   rintro _ ⟨a38, n39, c3a, rfl, h1y⟩
   refine Rm z ?_
   have ha := lt_ (lt_ h8 s0.s) s3.s
   obtain ⟨r1z, r3b, r3c, e20, hm21⟩ := O_ hm1x
   refine E z (fc call185 z<|ih2.run (B := B) (x2 := (⟨re, ([] : List UInt8), ([] : List Val)⟩ : Val)) e20 (zt' hBw ha) (p1_0.g h9) (p1_1.g h9) ((ho.e s0).e s3) hC1b h1m onL K_ an_ onL K_ an_ an_ h1y h1n) ?_
   rintro _ w3d ⟨sx, ay, nz, c10, S11, a12, n13, c14, S15, v22, S23, rfl, h24, h25, h26, h27, h28, h16, hi, hb⟩
   iterate 3 refine R z (ext_ z z) ?_
   refine E0 (fs (cur' := [vI r1z.number, sl ay nz c10, sl a12 n13 c14]) i_ z z (((h2.e s0).e s3).c sx<|atp<|nmA (nmN _)<|nmN _) z (lb z) (oA z) z) ?_
   rintro _ w3e ⟨h29, s2a⟩
   have hd := s2a.one
   refine Ra z<|Ra z<|Wn ?_
   have hj := lt_ s0.s s3.s
   have h2b : ∀ k ∈ S11, k ∉ [w5.z] := or1 (al_ hb) al0 (a_A (f_ h2.lt) hj)
   have h2c : ∀ k ∈ S15, k ∉ [w5.z] := or1 (ar_ hb) al0 (a_A (f_ h2.lt) hj)
   exact Wr<|rtO<|qL (som hm21).symm<|s_ hr (u_ x_ i_ z h29 z) z z ⟨(bM (bM (bup (bup (bup h1 h4) s0) s3) sx al0) hd<|m1 h1.s), ay, nz, c10, S11, a12, n13, c14, S15, v22, S23, z, h24, (h25.c hd h2b), (h26.c hd h2c), h27, (h28.c hd<|p_ h16 h2.lt hj), (m_ h16 ha), (na_ (nl_ hi) (nr_ hi)<|nj hi), (aa_ (a_x (al_ hb) al0 ha)<|a_x (ar_ hb) al0 ha)⟩
  exact Wk<|Wg<|R z (inc_ hkg (lt_ (a_.len p2_6) H_) z z)<|Rm z<|Wl (fun _ q => ⟨(), (som<|ifF hmw hch).symm, ⟨(q.k<|s9 z z z z z z z z z), s3⟩⟩)
 ·rintro _ a3f w3g ⟨hS2d, s2e⟩
  refine Wu ?_ hS2d
  refine Ws<|R z (lss z z)<|Wn<|Wq<|Wc z (fun hc => (S_ hc).elim) (fun _ => ?_)
  exact We (fun a' ha' => ⟨rfl, ⟨(Sat.weaken ha'<|s2 z z), s2e⟩⟩)
 ·rintro _ a2f w3h rfl ⟨hS3i, sc⟩
  have hm2g := elL hmr
  revert a2f
  refine Wo<|Ws<|R z (bP (parts := []) (cs := [vI 0, sl none 0 0, sl none 0 0]) Q_ z z)<|Rm z<|Rm z ?_
  have h17 := lt_ (lt_ h8 s0.s) sc.s
  obtain ⟨r3j, e2h, hm2i⟩ := bdS hm2g
  refine E z (fc call190 z<|d_n (B := B) e2h (zt' hBw h17) p3_0<|ii z) ?_
  rintro _ w3k ⟨s18, v2j, S2k, rfl, h2l, h19⟩
  refine E0 (fs (cur' := [vI 0, sl none 0 0, sl none 0 0]) i_ z z (((h2.e s0).e sc).e s18) z (lb z) (oA z) z) ?_
  rintro _ w3l ⟨h2m, s2n⟩
  have h1a := s2n.one
  refine Ra z<|Ra z<|Wn ?_
  obtain rfl := som hm2i
  exact Wr<|s_ hr (u_ x_ i_ z h2m z) z z ⟨(bM (bup (bup (bup (bup h1 h4) s0) sc) s18) h1a<|m1 h1.s), none, 0, 0, [], none, 0, 0, [], v2j, S2k, z, (ii z), onL, onL, p3_0, (h2l.c h1a<|p_ h19 h2.lt<|lt_ s0.s sc.s), (m_ h19 h17), nd0, al0⟩
 rintro r3m ex3n a3o w3p rfl ⟨rfl, hq2o⟩
 have hm2p := elR hmr
 obtain rfl := som hm2p
 exact ⟨hq2o, z⟩
theorem T_w1h (ih : d_N n) : i_D (g_n n (Y_ n)) := by
 obtain ⟨ih0, ih1, ih2, ih3, ih4, ih5⟩ := ih
 constructor
 intro A0 A1 A3 A4 A2 A5 N0 C0 N1 C1 b1 o1 N3 C3 N4 C4 N2 C2 N5 C5 B x1 x2 x3 res w0 hm hBw p1_0 p1_1 hC1 hC1b p2_0 p2_1 p2_2 p2_4 p2_5 p2_6 p2_7 p3_0
 unfold g_n at hm
 refine goF func187 z z (lb z) fun fn hr => Ws<|E z (fb z) ?_
 rintro _ w4 ⟨rfl, hf⟩
 have h1 := hf.below
 have h13 : Blk w4 w0.z (vR x2 A3 N3 C3 A4 N4 C4 A2 N2 C2 A5 N5 C5) := hf.blk
 refine E z (fa a_9) ?_
 rintro _ w14 ⟨rfl, hg⟩
 have h3 := hg.below
 have h2 : Blk w14 w4.z [vI 0, sl none 0 0, sl none 0 0] := hg.blk
 refine Ra z<|Ra z<|Wn<|Ws<|Rm z<|Rm z ?_
 have hh := (hC1.e h1).e h3
 have h9 := (h1.ag B).e h3
 have h5 := lt_ h1.s h3.s
 obtain ⟨r23, r24, e15, hmi⟩ := a_y hm
 refine E z (fc call203 z<|h_3 (B := B) e15 (zt' hBw h5) (p1_0.g h9) (p1_1.g h9) hh hC1b p3_0<|ii z) ?_
 rintro _ w25 ⟨s0, a26, n27, c28, v16, S17, rfl, hj, hk, hl⟩
 refine Rm z<|R z (ext_ z z)<|R z (ext_ z z)<|Ra z<|Ra z<|Wn<|Wq<|Wb<|Ws<|Rm z<|R z (d_7 c_S z z hk)<|Ra z<|Wn<|Wc z (fun hca => ?_) (fun hca => ?_)
 ·refine Ws<|R z (bP (parts := []) (cs := [vI 0, sl none 0 0, sl none 0 0]) Q_ z z)<|Rm z<|Rm z<|E0 (fs (cur' := [vI 0, sl none 0 0, sl none 0 0]) i_ z z (h2.e s0) z (lb z) (oA z) z) ?_
  rintro _ w29 ⟨h18, s19⟩
  have hn := s19.one
  refine Ra z<|Ra z<|Wn ?_
  obtain rfl := som (ifT hmi hca)
  exact Wr<|rtO<|s_ hr (u_ x_ i_ z h18 z) z z ⟨(bM (bup (bup h1 h3) s0) hn<|m1 h1.s), none, 0, 0, [], none, 0, 0, [], v16, S17, z, (ii z), onL, onL, p3_0, (hk.c hn<|p_ hl h2.lt lr), (m_ hl h5), nd0, al0⟩
 refine Ws<|Rm z ?_
 obtain ⟨x2a, e1a, hmm⟩ := bdS (ifF hmi hca)
 refine RX z (at_ (α := UInt8) h_ z_5 z z z hj e1a) ?_
 rintro _ ⟨b2b, o2c, cs2d, rfl, h1b, h1c, h2e⟩
 obtain rfl := u8 h1c
 refine R z (l1 g_5 z fid<|h1b.at0 z)<|R z (a_c z z)<|Ra z<|Wn<|Wc z (fun hcb => ?_) (fun hcb => ?_)
 ·refine Ws<|R z (bP (parts := []) (cs := [vI 0, sl none 0 0, sl none 0 0]) Q_ z z)<|Rm z<|Rm z ?_
  have ho := lt_ h5 s0.s
  obtain ⟨r2f, e1d, hm1e⟩ := bdS (ifT hmm hcb)
  refine E z (fc call190 z<|d_n (B := B) e1d (zt' hBw ho) p3_0<|ii z) ?_
  rintro _ w2g ⟨sp, v1f, S1g, rfl, h1h, hq⟩
  refine E0 (fs (cur' := [vI 0, sl none 0 0, sl none 0 0]) i_ z z ((h2.e s0).e sp) z (lb z) (oA z) z) ?_
  rintro _ w2h ⟨h1i, s1j⟩
  have ht := s1j.one
  refine Ra z<|Ra z<|Wn ?_
  obtain rfl := som hm1e
  exact Wr<|rtO<|s_ hr (u_ x_ i_ z h1i z) z z ⟨(bM (bup (bup (bup h1 h3) s0) sp) ht<|m1 h1.s), none, 0, 0, [], none, 0, 0, [], v1f, S1g, z, (ii z), onL, onL, p3_0, (h1h.c ht<|p_ hq h2.lt s0.s), (m_ hq ho), nd0, al0⟩
 refine Ws<|Rm z ?_
 obtain ⟨x2i, e1k, hmr⟩ := bdS (ifF hmm hcb)
 refine RX z (at_ (α := UInt8) h_ z_5 z z z hj e1k) ?_
 rintro _ ⟨b2j, o2k, cs2l, rfl, h1l, h1m, h2m⟩
 obtain rfl := u8 h1m
 refine R z (l1 g_5 z fid<|h1l.at0 z)<|R z (eql z z)<|Ra z<|Wn<|Wc z (fun hcc => ?_) (fun hcc => ?_)
 ·refine Ws<|R z (bP (parts := []) (cs := [vI 0, sl none 0 0, sl none 0 0]) Q_ z z)<|Rm z<|R z (add_ z z)<|E0 (fs (cur' := [vI 0, sl none 0 0, sl none 0 0]) i_ z z (h2.e s0) z (lb z) (oA z) z) ?_
  rintro _ w2n ⟨h1n, s1o⟩
  refine Ra z<|Ra z<|Wn ?_
  obtain rfl := som (ifT hmr hcc)
  exact Wr<|rtO<|s_ hr (u_ x_ i_ z h1n z) z z ⟨(bM (bup (bup h1 h3) s0) s1o.one<|m1 h1.s), none, 0, 0, [], none, 0, 0, [], .nilIface, ([] : List Nat), z, (ii z), onL, onL, (iA _ _), d_s, an_, nd0, al0⟩
 refine Wk<|Ws<|Rm z<|R z (bP (parts := []) (cs := [vI 0, sl none 0 0, sl none 0 0]) Q_ z z)<|R z (fd a_8 z)<|R z (l1 G_ z fid<|((h13.e h3).e s0).at z)<|Rm z<|R z (add_ z z) ?_
 have hd := h9.e s0
 have h6 := lt_ h5 s0.s
 obtain ⟨r1p, r2o, r2p, e1q, hm1r⟩ := O_ (ifF hmr hcc)
 refine E z (fc call185 z<|ih2.run (B := B) (x2 := (⟨0, ([] : List UInt8), ([] : List Val)⟩ : Val)) e1q (zt' hBw h6) (p1_0.g hd) (p1_1.g hd) (hh.e s0) hC1b (ii z) onL K_ an_ onL K_ an_ an_ (p2_7.g hd)<|iA _ _) ?_
 rintro _ w2q ⟨ss, au, nv, cw, Sx, ay, nz, c10, S11, v1s, S1t, rfl, h1u, h1v, h1w, h1x, h1y, h12, he, h7⟩
 iterate 3 refine R z (ext_ z z) ?_
 refine E0 (fs (cur' := [vI r1p.number, sl au nv cw, sl ay nz c10]) i_ z z ((h2.e s0).c ss<|atp<|nmA (nmN _)<|nmN _) z (lb z) (oA z) z) ?_
 rintro _ w2r ⟨h1z, s20⟩
 have h8 := s20.one
 refine Ra z<|Ra z<|Wn ?_
 obtain rfl := som hm1r
 have h21 : ∀ k ∈ Sx, k ∉ [w4.z] := or1 (al_ h7) al0 (a_A (f_ h2.lt) s0.s)
 have h22 : ∀ k ∈ S11, k ∉ [w4.z] := or1 (ar_ h7) al0 (a_A (f_ h2.lt) s0.s)
 exact Wr<|s_ hr (u_ x_ i_ z h1z z) z z ⟨(bM (bM (bup (bup h1 h3) s0) ss al0) h8<|m1 h1.s), au, nv, cw, Sx, ay, nz, c10, S11, v1s, S1t, z, h1u, (h1v.c h8 h21), (h1w.c h8 h22), h1x, (h1y.c h8<|p_ h12 h2.lt s0.s), (m_ h12 h6), (na_ (nl_ he) (nr_ he)<|nj he), (aa_ (a_x (al_ h7) al0 h6)<|a_x (ar_ h7) al0 h6)⟩
theorem T_w1i (ih : d_N n) : i_E (g_o n (Y_ n)) := by
 obtain ⟨ih0, ih1, ih2, ih3, ih4, ih5⟩ := ih
 constructor
 intro A0 A1 A3 A4 A2 A5 N0 C0 N1 C1 b1 o1 N3 C3 N4 C4 N2 C2 N5 C5 B x1 x2 x3 res w0 hm hBw p1_0 p1_1 hC1 hC1b p2_0 p2_1 p2_2 p2_4 p2_5 p2_6 p2_7 p3_0
 unfold g_o at hm
 refine goF func188 z z (lb z) fun fn hr => Ws<|E z (fb z) ?_
 rintro _ wb ⟨rfl, hu⟩
 have h6 := hu.below
 have h1j : Blk wb w0.z (vR x2 A3 N3 C3 A4 N4 C4 A2 N2 C2 A5 N5 C5) := hu.blk
 refine E z (fa a_9) ?_
 rintro _ w1k ⟨rfl, hv⟩
 have h8 := hv.below
 have h3 : Blk w1k wb.z [vI 0, sl none 0 0, sl none 0 0] := hv.blk
 refine Ra z<|Ra z<|Wn<|Ws<|Rm z<|R z (bP (parts := []) (cs := [vI 0, sl none 0 0, sl none 0 0]) Q_ z z)<|R z (fd a_8 z)<|R z (l1 G_ z fid<|(h1j.e h8).at z)<|Rm z ?_
 have hw := (hC1.e h6).e h8
 have hc := (h6.ag B).e h8
 have h9 := lt_ h6.s h8.s
 obtain ⟨rk, r2k, r2l, e1l, hmr⟩ := O_ hm
 refine E z (fc call185 z<|ih2.run (B := B) (x2 := (⟨0, ([] : List UInt8), ([] : List Val)⟩ : Val)) e1l (zt' hBw h9) (p1_0.g hc) (p1_1.g hc) hw hC1b (ii z) onL K_ an_ onL K_ an_ an_ (p2_7.g hc) p3_0) ?_
 rintro _ ws ⟨s0, ad, ne, cf, Sx, ah, ng, ci, Sy, v1m, S1n, rfl, h1o, hz, h10, h11, h12, h13, hl, hj⟩
 refine Rm z ?_
 iterate 3 refine R z (ext_ z z) ?_
 refine E z (fa a_9) ?_
 rintro _ w1p ⟨rfl, h14⟩
 have h1 := h14.below
 have h1q : Blk w1p ws.z [vI 0, sl none 0 0, sl none 0 0] := h14.blk
 refine E0 (fs (cur' := [vI rk.number, sl ad ne cf, sl ah ng ci]) i_ z z h1q z (lb z) (oA z) z) ?_
 rintro _ w2m ⟨h1r, s1s⟩
 have h2 := s1s.one
 refine Ra z<|Ra z<|Wn<|Wq<|Ws<|Rm z ?_
 have h15 := (h12.e h1).c h2<|ds<|mnr<|a_k.lt h12
 refine R z (d_7 c_S z z h15)<|Wn<|Wc z (fun hcm => ?_) (fun hcm => ?_)
 ·refine Ws<|R z (bP (parts := []) (cs := [vI 0, sl none 0 0, sl none 0 0]) Q_ z z)<|Rm z<|Rm z<|E0 (fs (cur' := [vI 0, sl none 0 0, sl none 0 0]) i_ z z (((h3.c s0<|atp<|nmA (nmN _)<|nmN _).e h1).c h2<|djs<|mm1 h3.lt s0.s) z (lb z) (oA z) z) ?_
  rintro _ w2n ⟨h1t, s1u⟩
  have h16 := s1u.one
  refine Ra z<|Ra z<|Wn ?_
  obtain rfl := som (ifT hmr hcm)
  exact Wr<|s_ hr (u_ x_ i_ z h1t z) z z ⟨(bM (bM (bup (bM (bup h6 h8) s0 al0) h1) h2<|m1<|lt_ h9 s0.s) h16<|m1 h6.s), none, 0, 0, [], none, 0, 0, [], v1m, S1n, z, (ii z), onL, onL, p3_0, (h15.c h16<|p_ h13 h3.lt lr), (m_ h13 h9), nd0, al0⟩
 refine Wk<|Ws<|Rm z<|Rm z ?_
 have ha := lt_ h9 s0.s
 have h17 : ∀ k ∈ [ws.z], ¬ B k := or0 (f_ lr)  (r_ (zt' hBw ha))
 have h18 := ((hw.c s0<|(nmA (k_ an_)<|k_ an_) _ hC1b).e h1).c h2<|(k_ h17) _ hC1b
 have hn := ((hc.c s0<|nmA (k_ an_)<|k_ an_).e h1).c h2<|k_ h17
 have ho := lt_ (lt_ ha h1.s) h2.s
 obtain ⟨r2o, r2p, e1v, hm19⟩ := a_y (ifF hmr hcm)
 refine E z (fc call203 z<|h_3 (B := B) e1v (zt' hBw ho) (p1_0.g hn) (p1_1.g hn) h18 hC1b h11<|ii z) ?_
 rintro _ w2q ⟨s4, a2r, n2s, c2t, v1w, S1x, rfl, h1y, h1a, h1b⟩
 refine Rm z<|R z (ext_ z z)<|R z (ext_ z z)<|Ra z<|Ra z<|Wn<|Wq<|Ws<|Rm z<|R z (d_7 c_S z z h1a)<|Wn<|Wc z (fun hcp => ?_) (fun hcp => ?_)
 ·refine Ws<|R z (bP (parts := []) (cs := [vI 0, sl none 0 0, sl none 0 0]) Q_ z z)<|Rm z<|Rm z<|E0 (fs (cur' := [vI 0, sl none 0 0, sl none 0 0]) i_ z z ((((h3.c s0<|atp<|nmA (nmN _)<|nmN _).e h1).c h2<|djs<|mm1 h3.lt s0.s).e s4) z (lb z) (oA z) z) ?_
  rintro _ w2u ⟨h1z, s20⟩
  have h1c := s20.one
  refine Ra z<|Ra z<|Wn ?_
  obtain rfl := som (ifT hm19 hcp)
  exact Wr<|s_ hr (u_ x_ i_ z h1z z) z z ⟨(bM (bup (bM (bup (bM (bup h6 h8) s0 al0) h1) h2<|m1 ha) s4) h1c<|m1 h6.s), none, 0, 0, [], none, 0, 0, [], v1w, S1x, z, (ii z), onL, onL, p3_0, (h1a.c h1c<|p_ h1b h3.lt<|lt_ (lt_ s0.s h1.s) h2.s), (m_ h1b ho), nd0, al0⟩
 refine Wk<|Wq<|Wq (Wd (X := noX) 0 (.rd 0 (.rd 1 (.rd 2 (.rd 3 (.rd 4 (.rd 5 (.rd 6 (.rd 7 (.rd 8 (.rd 9 (.rd 10 (.ef 11 (.rd 12 .done))))))))))))) mo (by kernel_rfl) fun w2v s5 _ => dR z z (mv z) ?_)
 obtain ⟨x2w, e21, hm22⟩ := bdS (ifF hm19 hcp)
 refine dRX z z (at_ (α := UInt8) h_ z_5 z z z (h1y.e s5) e21) ?_
 rintro _ ⟨b2x, o2y, cs2z, rfl, h23, h24, h30⟩
 obtain rfl := u8 h24
 refine dR z z (l1 g_5 z fid<|h23.at0 z)<|dR z z (b_4 d_5 d_3 z)<|dR z z (mv z)<|dR z z (c_c z)<|dR z z (fd e_k z)<|dR z z (l1 J_ z fid<|((h18.e s4).e s5).at (j := 1) z)<|dR z z (mv z)<|dR z z (mv z) ?_
 obtain ⟨x31, e25, hm26⟩ := bdS hm22
 refine dRX z z (rX h_ z_5 z z (p1_1.g<|(hn.e s4).e s5) z z e25) ?_
 rintro _ ⟨a32, n33, c34, rfl, h27⟩
 have h1d := lt_ (lt_ ho s4.s) s5.s
 obtain ⟨r35, e28, hm1e⟩ := bdS hm26
 refine dE z z (fc call91 z<|W_w17 (B := B) e28 (zt' hBw h1d) h27) (.inr fun _ _ h => A_<|h.1) ?_
 rintro _ w36 ⟨s7, rfl, h37⟩
 refine dR z z (nq z z)<|pD<|Wo<|Wc z (fun hcq => ?_) (fun hcq => ?_)
 ·refine Ws<|R z (bP (parts := []) (cs := [vI 0, sl none 0 0, sl none 0 0]) Q_ z z)<|Rm z<|Rm z ?_
  have h1f := lt_ h1d s7.s
  obtain ⟨r38, e29, hm2a⟩ := bdS (ifT hm1e hcq)
  refine E z (fc call190 z<|d_n (B := B) e29 (zt' hBw h1f) h11<|ii z) ?_
  rintro _ w39 ⟨s1g, v2b, S2c, rfl, h2d, h1h⟩
  refine E0 (fs (cur' := [vI 0, sl none 0 0, sl none 0 0]) i_ z z (((((((h3.c s0<|atp<|nmA (nmN _)<|nmN _).e h1).c h2<|djs<|mm1 h3.lt s0.s).e s4).e s5).e s7).e s1g) z (lb z) (oA z) z) ?_
  rintro _ w3a ⟨h2e, s2f⟩
  have h1i := s2f.one
  refine Ra z<|Ra z<|Wn ?_
  obtain rfl := som hm2a
  exact Wr<|s_ hr (u_ x_ i_ z h2e z) z z ⟨(bM (bup (bup (bup (bup (bM (bup (bM (bup h6 h8) s0 al0) h1) h2<|m1 ha) s4) s5) s7) s1g) h1i<|m1 h6.s), none, 0, 0, [], none, 0, 0, [], v2b, S2c, z, (ii z), onL, onL, p3_0, (h2d.c h1i<|p_ h1h h3.lt<|lt_ (lt_ (lt_ (lt_ (lt_ s0.s h1.s) h2.s) s4.s) s5.s) s7.s), (m_ h1h h1f), nd0, al0⟩
 refine Wk<|Ws<|R z (lN (vs := [vI rk.number, sl ad ne cf, sl ah ng ci]) x_ i_ z z fid<|(((h1r.e s4).e s5).e s7).row 0 3 z)<|Rm z<|R z (add_ z z)<|E0 (fs (cur' := [vI rk.number, sl ad ne cf, sl ah ng ci]) i_ z z ((((((h3.c s0<|atp<|nmA (nmN _)<|nmN _).e h1).c h2<|djs<|mm1 h3.lt s0.s).e s4).e s5).e s7) z (lb z) (oA z) z) ?_
 rintro _ w3b ⟨h2g, s2h⟩
 have ht := s2h.one
 refine Ra z<|Ra z<|Wn ?_
 obtain rfl := som (ifF hm1e hcq)
 have h2i : ∀ k ∈ Sx, k ∉ [wb.z] := or1 (al_ hj) al0 (a_A (f_ h3.lt) lr)
 have h2j : ∀ k ∈ Sy, k ∉ [wb.z] := or1 (ar_ hj) al0 (a_A (f_ h3.lt) lr)
 exact Wr<|s_ hr (u_ x_ i_ z h2g z) z z ⟨(bM (bup (bup (bup (bM (bup (bM (bup h6 h8) s0 al0) h1) h2<|m1 ha) s4) s5) s7) ht<|m1 h6.s), ad, ne, cf, Sx, ah, ng, ci, Sy, .nilIface, ([] : List Nat), z, h1o, ((((((hz.e h1).c h2<|ds<|mnr<|b_.lt hz).e s4).e s5).e s7).c ht h2i), ((((((h10.e h1).c h2<|ds<|mnr<|b_.lt h10).e s4).e s5).e s7).c ht h2j), (iA _ _), d_s, an_, (na_ (nl_ hl) (nr_ hl)<|nj hl), (aa_ (a_x (al_ hj) al0 h9)<|a_x (ar_ hj) al0 h9)⟩
theorem b_Q : ∀ n, d_N n
  | 0 => ⟨⟨fun hm => by intros; exact nomatch (show none = some _ from hm)⟩, ⟨fun hm => by intros; exact nomatch (show none = some _ from hm)⟩, ⟨fun hm => by intros; exact nomatch (show none = some _ from hm)⟩, ⟨fun hm => by intros; exact nomatch (show none = some _ from hm)⟩, ⟨fun hm => by intros; exact nomatch (show none = some _ from hm)⟩, ⟨fun hm => by intros; exact nomatch (show none = some _ from hm)⟩⟩
  | n + 1 => ⟨T_w01 (b_Q n), T_w1e (b_Q n), T_w1f (b_Q n), T_w1g (b_Q n), T_w1h (b_Q n), T_w1i (b_Q n)⟩
theorem W_w01 : i_z (Y_ n).impl_fileReader_value := (b_Q n).1
theorem W_w1e : i_A (Y_ n).impl_fileReader_array := (b_Q n).2.1
theorem W_w1f : i_B (Y_ n).impl_fileReader_items := (b_Q n).2.2.1
theorem W_w1g : i_C (Y_ n).impl_fileReader_choice := (b_Q n).2.2.2.1
theorem W_w1h : i_D (Y_ n).impl_fileReader_option := (b_Q n).2.2.2.2.1
theorem W_w1i : i_E (Y_ n).impl_fileReader_checked := (b_Q n).2.2.2.2.2

theorem i_F {x1 : g_} {x2 : Int} {x3 : List UInt8} {x4 : Int} {res : Val × Int × Int} (hm : g_p n x1 x2 x3 x4 = some res) (hBw : B ≤ w0.z) (hG : Gl w0 B) (p1_0 : a_ w0 B (sl A0 N0 C0) x1.rules) (p2_0 : inI x2) (p3_0 : a_ w0 B (sl A7 N7 C7) x3) (p4_0 : inI x4) : j_ prog 138 [(.agg #[sl A0 N0 C0]), vI x2, sl A7 N7 C7, vI x4] w0 (Q17 w0 B res) := by
 unfold g_p at hm
 refine goF func138 z z (lb z) fun fn hr => Ws<|E z (fb z) ?_
 rintro _ wc ⟨rfl, h10⟩
 have h1 := h10.below
 have h11 : Blk wc w0.z [sl A0 N0 C0] := h10.blk
 refine E z (fa a_9) ?_
 rintro _ wp ⟨rfl, h12⟩
 have h4 := h12.below
 have h5 : Blk wp wc.z [vI 0, sl none 0 0, sl none 0 0] := h12.blk
 refine Ra z<|Ra z<|Wn<|Wq<|Wq ?_
 obtain ⟨u1v, hu1w, hm13⟩ := bdS hm
 refine Wt (fun a w => ∃ (xq : Bool), xq = u1v ∧ Sat 62 [(1, vI x2), (2, sl A7 N7 C7), (3, vI x4), (4, pt w0.z), (8, pt wc.z), (34, vB xq)] a ∧ Below wp.z wp w) ?_ ?_
 ·refine Wg<|R z (lN (vs := [sl A0 N0 C0]) P_ F_ z z fid<|(h11.e h4).row 0 1 z)<|Rm z ?_
  have h14 := (h1.ag B).e h4
  obtain ⟨r1x, e1y, hm15⟩ := bdS hu1w
  refine E z (fc call153 z<|W_w3c (B := B) e1y (zt' hBw<|lt_ h1.s h4.s) (p1_0.g h14) p2_0) ?_
  rintro _ w2s ⟨sd, rfl⟩
  refine R z (not_ z)<|Rm z ?_
  rcases bs (!r1x) with hc8 | hc8
  ·exact Nh z hc8<|Nh z hc8<|R z (pT z hc8 z)<|Rm z<|Nh z z<|Nh z z<|Nh z z<|Nh z z<|R z (pT z z z)<|Rm z<|Nh z z<|Nh z z<|Nh z z<|R z (pT z z z)<|Wl (fun _ q => ⟨true, som<|ifT hm15 hc8, (q.k<|s6 z z z z z z), sd⟩)
  have hm16 := ifF hm15 hc8
  refine Rh z hc8 (mv z)<|Rh z hc8 (lss z z)<|R z (pF z hc8 z)<|Rm z ?_
  rcases bs (decide (x4 < 0)) with hc6 | hc6
  ·iterate 4 refine Nh z hc6 ?_
   exact R z (pT z hc6 z)<|Rm z<|Nh z z<|Nh z z<|Nh z z<|R z (pT z z z)<|Wl (fun _ q => ⟨true, som<|ifT hm16 hc6, (q.k<|s6 z z z z z z), sd⟩)
  have hm17 := ifF hm16 hc6
  refine Rh z hc6 (mv z)<|Rh z hc6 (mv z) ?_
  have h18 := p3_0.g<|h14.e sd
  refine Rh z hc6 (lnR h_ z h18)<|Rh z hc6 (a_c z z)<|R z (pF z hc6 z)<|Rm z ?_
  rcases bs (decide ((x3.length : Int) < x4)) with hc9 | hc9
  ·iterate 3 refine Nh z hc9 ?_
   exact R z (pT z hc9 z)<|Wl (fun _ q => ⟨true, som<|ifT hm17 hc9, (q.k<|s6 z z z z z z), sd⟩)
  exact Rh z hc9 (mv z)<|Rh z hc9 (lnR h_ z h18)<|Rh z hc9 (a_c z z)<|R z (pF z hc9 z)<|Wl (fun _ q => ⟨decide (400 < (x3.length : Int)), som<|ifF hm17 hc9, (q.k<|s6 z z z z z z), sd⟩)
 rintro a1z w20 ⟨xq, rfl, hS2t, s0⟩
 revert a1z
 refine Wo<|Wc z (fun hcr => ?_) (fun hcr => ?_)
 ·refine Ws<|R z (bP (parts := []) (cs := [vI 0, sl none 0 0, sl none 0 0]) Q_ z z)<|E0 (fs (cur' := [vI 0, sl none 0 0, sl none 0 0]) i_ z z (h5.e s0) z (lb z) (oA z) z) ?_
  rintro _ w2u ⟨h21, s22⟩
  refine Ra z<|Ra z<|Wn ?_
  obtain rfl := som (ifT hm13 hcr)
  exact Wr<|s_ hr (u_ x_ i_ z h21 z) z z ⟨(bM (bup (bup h1 h4) s0) s22.one<|m1 h1.s), none, 0, 0, [], none, 0, 0, [], z, (ii z), onL, onL, (ii z), (ii z), nd0, al0⟩
 refine Wk<|Ws<|R z (lN (vs := [sl A0 N0 C0]) P_ F_ z z fid<|((h11.e h4).e s0).row 0 1 z)<|Rm z<|R z (bP (parts := [(0, (.tmp 36)), (1, (.tmp 37))]) (cs := [sl A0 N0 C0, sl A7 N7 C7]) n_E z z)<|E z (fb z) ?_
 rintro _ w19 ⟨rfl, h1a⟩
 have ha := h1a.below
 have h1b : Blk w19 w20.z [sl A0 N0 C0, sl A7 N7 C7] := h1a.blk
 refine Ra z<|Wn<|Ws<|Rm z<|Rm z<|Rm z ?_
 have h1c := (((h1.ag B).e h4).e s0).e ha
 have he := lt_ (lt_ (lt_ h1.s h4.s) s0.s) ha.s
 have h1d := zt' hBw he
 obtain ⟨rs, r2v, r23, e24, hm1e⟩ := O_ (ifF hm13 hcr)
 refine E z (fc call154 z<|W_w01.run (B := w19.z) e24 zr (a_.mono (p1_0.g h1c) h1d) (a_.mono (p3_0.g h1c) h1d) (h1b.row 0 2 z) h1b.lt p2_0 p4_0) ?_
 rintro _ w1f ⟨sb, ah, ng, ci, S25, aj, nk, cl, S26, v2w, S2x, rfl, h27, h1g, h1h, h28, ht, h29, hu, hn⟩
 refine Rm z ?_
 iterate 3 refine R z (ext_ z z) ?_
 refine E z (fa a_9) ?_
 rintro _ w2a ⟨rfl, h1i⟩
 have h2 := h1i.below
 have h2b : Blk w2a w1f.z [vI 0, sl none 0 0, sl none 0 0] := h1i.blk
 refine E0 (fs (cur' := [vI rs.number, sl ah ng ci, sl aj nk cl]) i_ z z h2b z (lb z) (oA z) z) ?_
 rintro _ w1j ⟨h2c, s2d⟩
 have h3 := s2d.one
 refine Ra z<|Ra z<|Wn<|Ws<|E z (fa n_M) ?_
 rintro _ w2e ⟨rfl, h1k⟩
 have h7 := h1k.below
 have h1l : Blk w2e w1j.z [(.pointer none)] := h1k.blk
 refine Wn<|Wq<|Ws<|Rm z<|R z (f_w d_164 (fun _ h => by cases h) z) ?_
 have h1m := ((ht.e h2).c h3<|ds<|mnr<|a_k.lt ht).e h7
 rcases bs (r23.isSome) with hcm | hcm
 ·obtain ⟨r2y, r2z, e2f, hm2g⟩ := a_y (ifT hm1e hcm)
  have hv := lt_ he sb.s
  have h2h : ∀ k ∈ [w1f.z], ¬ B k := or0 (f_ lr)  (r_ (zt' hBw hv))
  refine E z (fc call155 z<|n_D ((((((((hG.e h1).e h4).e s0).e ha).e sb).e h2).c h3<|k_ h2h).e h7) h1m e2f h1l) ?_
  rintro _ w30 ⟨g1n, rfl, s2i, h2j, h2k, h1o, h2l, h2m⟩
  have hw := s2i.one
  refine Wn<|Wc z (fun _ => ?_) (fun hc => (bcon z hc).elim)
  refine Wq (Wd (X := (· ∈ [wc.z])) 0 (.rd 0 (.rd 1 (.rd 2 (.rd 3 (.rd 4 (.rd 5 (.rd 6 (.rd 7 (.rd 8 (.ef 9 (.rd 10 (.rd 11 .done)))))))))))) mo (by kernel_rfl) fun w31 so _ => dR z z (bP (parts := []) (cs := [vI 0, sl none 0 0, sl none 0 0]) Q_ z z) ?_)
  have h1p := h2j.e so
  have h1q := lt_ s0.s ha.s
  have h1r := lt_ h1q sb.s
  have h1s := lt_ (lt_ h1r h2.s) h3.s
  have hx := mm1 h5.lt h1s
  refine dR z z (l1 g_162 z (atp hx)<|h1p.at z)<|dR z z (c_c z)<|dR z z (fd n_K z) ?_
  have h2n : ∀ k ∈ [g1n], k ∉ [w1j.z] := or1 (f_ (.inl h1o)) (ds (mno (a_k.lt ht) (lt_ h2.s h3.s))) (a_A (f_ h1l.lt) lr)
  have h1t := (h2k.c hw<|atp h2n).e so
  have h1u : ∀ k ∈ [g1n], k ∉ [wc.z] := or1 (f_ (.inl h1o)) (p_ h29 h5.lt h1q) (a_A (f_ h5.lt) (lt_ h1s h7.s))
  refine dR z z (l1 g_3 z (atp h1u)<|h1t.at z)<|dR z z (l1 g_162 z (atp hx)<|h1p.at z)<|dR z z (c_c z)<|dR z z (fd n_L z)<|dR z z (l1 g_3 z (atp h1u)<|h1t.at z)<|dE0 z (fs (cur' := [vI 0, sl none 0 0, sl none 0 0]) i_ z z ((((((((h5.e s0).e ha).e sb).e h2).c h3<|djs<|mm1 h5.lt h1r).e h7).c hw<|djs hx).e so) z (lb z) (oA z) z) (.inr fun _ _ h => chgIn (List.mem_singleton.2 z) h.2) ?_
  rintro _ w32 ⟨h2o, s2p⟩
  refine dR z z (asg z)<|dR z z (asg z)<|pD<|Wo ?_
  obtain rfl := som hm2g
  exact Wr<|s_ hr (u_ x_ i_ z h2o z) z z ⟨(bM (bup (bM (bup (bM (bup (bup (bup (bup (bup h1 h4) s0) ha) sb) h2) h3<|m1 hv) h7) hw<|m1<|lt_ (lt_ hv h2.s) h3.s) so) s2p.one<|m1 h1.s), none, 0, 0, [], none, 0, 0, [], z, (ii z), onL, onL, h2l, h2m, nd0, al0⟩
 refine E z (fc call155 z<|n_C h1m hcm) ?_
 rintro _ w33 ⟨rfl, sf⟩
 refine Wn<|Wc z (fun hc => (bcon hc z).elim) (fun _ => ?_)
 refine Wk<|Ws<|R z (lN (vs := [vI rs.number, sl ah ng ci, sl aj nk cl]) x_ i_ z z fid<|((h2c.e h7).e sf).row 0 3 z)<|Rm z ?_
 have hy := lt_ s0.s ha.s
 refine E0 (fs (cur' := [vI rs.number, sl ah ng ci, sl aj nk cl]) i_ z z (((((((h5.e s0).e ha).e sb).e h2).c h3<|djs<|mm1 h5.lt<|lt_ hy sb.s).e h7).e sf) z (lb z) (oA z) z) ?_
 rintro _ w34 ⟨h2q, s2r⟩
 have hz := s2r.one
 refine Ra z<|Ra z<|Wn ?_
 obtain rfl := som (ifF hm1e hcm)
 exact Wr<|s_ hr (u_ x_ i_ z h2q z) z z ⟨(bM (bup (bup (bM (bup (bup (bup (bup (bup h1 h4) s0) ha) sb) h2) h3<|m1<|lt_ he sb.s) h7) sf) hz<|m1 h1.s), ah, ng, ci, S25, aj, nk, cl, S26, z, h27, (((((h1g.e h2).c h3<|ds<|mnr<|b_.lt h1g).e h7).e sf).c hz<|p_ (al_ hn) h5.lt hy), (((((h1h.e h2).c h3<|ds<|mnr<|b_.lt h1h).e h7).e sf).c hz<|p_ (ar_ hn) h5.lt hy), h28, (ii z), (na_ (nl_ hu) (nr_ hu)<|nj hu), (aa_ (m_ (al_ hn) he)<|m_ (ar_ hn) he)⟩
end Go.Vw

