import Derived.Test.YtfdcdeahjejlmaaGreatDoorVqAW2
set_option linter.unusedVariables false
namespace Go.Vw
open Go.RowKit Dat Go.Proofs
open Go.Proofs.Tryz
open Go.Vw renaming h_6 → Wq, h_7 → Wg, WC.of_KC → Wo, f_f → Wl, i_J → Wc, i_H → Wr, j_u → Wu, j_h → pT, j_i → pF, j_w → fd, j_x → l1, j_y → lN, h_j → mv, h_k → asg, j_j → lnR, j_F → lss, j_D → eql, j_z → ext_, j_l → bP, h_n → add_, j_2 → inc_, j_G → not_, j_k → at_, i_V → fc, f_j → fs, i_U → fb, i_T → fa, j_a → sr, j_f → cr, j_g → cM, j_e → bM, i_Y → iS, i_X → iA, j_1 → br, j_4 → oA, j_6 → bs, ltge → lg, inor → io, j_E → nq, j_A → lnT, j_B → sb_, j_8 → ar_, j_7 → al_, j_9 → ds, k_r → m1, j_c → nr_, j_b → nl_, h_b → aa_, all_nil → an_, e_n → Wb, h_a → u8, i_O → pD, i_I → We, j_0 → Wt, i_W → fS, e_i → or_, j_v → Wf, j_p → qL, i_N → Wd, h_d → fN, h_c → na_, j_d → nj, j_m → f0, f_l → rX, j_n → tl_, j_o → ic
variable {A0 : Option Addr} {N0 C0 : Nat} {B : Zone} {w0 : World} {A9 : Option Addr} {A8 : Option Addr} {AA : Option Addr} {AB : Option Addr} {N9 C9 : Nat} {N8 C8 : Nat} {NA CA : Nat} {NB CB : Nat} {A1 : Option Addr} {N1 C1 : Nat} {n : Nat} {AD : Option Addr} {ND CD : Nat} {A6 : Option Addr} {N6 C6 : Nat} {AH : Option Addr} {NH CH : Nat} {A3 : Option Addr} {A4 : Option Addr} {A2 : Option Addr} {A5 : Option Addr} {N3 C3 : Nat} {N4 C4 : Nat} {N2 C2 : Nat} {N5 C5 : Nat} {A7 : Option Addr} {N7 C7 : Nat} {AE : Option Addr} {NE CE : Nat} {AC : Option Addr} {NC CC : Nat}
theorem W_w3g {x1 : g_} {x2 : List UInt8} {res : Val × Int × Int} (hm : g_q n x1 x2 = some res) (hBw : B ≤ w0.z) (hG : Gl w0 B) (p1_0 : a_ w0 B (sl A0 N0 C0) x1.rules) (p2_0 : a_ w0 B (sl A6 N6 C6) x2) : j_ prog 115 [(.agg #[sl A0 N0 C0]), sl A6 N6 C6] w0 (Q17 w0 B res) := by
 unfold g_q at hm
 refine goF func115 z z (lb z) fun fn hr => Ws<|E z (fb z) ?_
 rintro _ wn ⟨rfl, h1g⟩
 have h2 := h1g.below
 have hv : Blk wn w0.z [sl A0 N0 C0] := h1g.blk
 refine E z (fa a_9) ?_
 rintro _ w5 ⟨rfl, h1h⟩
 have h1 := h1h.below
 have ho : Blk w5 wn.z [vI 0, sl none 0 0, sl none 0 0] := h1h.blk
 refine Ra z<|Ra z<|Wn<|Wq ?_
 obtain ⟨u30, hu1i, hm31⟩ := bdS hm
 refine Wt (fun a w => ∃ (xb : Int) (xw : List UInt8) (xx : List Val) (xc : Int) (xd : Int), (xb, xw, xx, xc, xd) = u30 ∧ ∃ ae nf cg S7 ah ni cj S8 g9, Sat 32 [(1, sl A6 N6 C6), (4, pt wn.z), (7, pt g9), (8, vI xc), (9, vI xd)] a ∧ Below w5.z w5 w ∧ inI xb ∧ b_ w S7 (sl ae nf cg) xw ∧ S7.Nodup ∧ (∀ k ∈ S7, w5.z ≤ k) ∧ b_ w S8 (sl ah ni cj) xx ∧ S8.Nodup ∧ (∀ k ∈ S8, w5.z ≤ k) ∧ (∀ k ∈ S8, k ∉ S7) ∧ inI xc ∧ inI xd ∧ Blk w g9 [vI xb, sl ae nf cg, sl ah ni cj] ∧ w5.z ≤ g9 ∧ (∀ k ∈ S7, k ∉ [g9]) ∧ (∀ k ∈ S8, k ∉ [g9])) ?_ ?_
 ·refine Wd (X := fun k => k ∈ ([] : List Nat) ∨ w5.z ≤ k) 0 (.rd 0 (.rd 1 (.rd 3 (.br 2 (.br 4 (.rd 5 (.rd 6 (.rd 7 (.rd 8 (.ef 9 (.ef 10 (.rd 11 (.rd 12 .done)))))))) 9 (.ef 4 (.rd 5 (.rd 6 (.rd 7 (.rd 8 (.ef 10 (.rd 11 (.rd 12 .done))))))))) 9 (.ef 2 (.ef 4 (.rd 5 (.rd 6 (.rd 7 (.rd 8 (.ef 10 (.rd 11 (.rd 12 .done))))))))))))) mo (by kernel_rfl) fun w1j s0 _ => ?_
  have h1k := (hv.e h1).e s0
  refine dR z z (lN (vs := [sl A0 N0 C0]) P_ F_ z z (d_6 nm0<|Nat.lt_of_lt_of_le hv.lt h1.s)<|h1k.row 0 1 z)<|dR z z (lN (vs := [sl A0 N0 C0]) P_ F_ z z (d_6 nm0<|Nat.lt_of_lt_of_le hv.lt h1.s)<|h1k.row 0 1 z)<|dR z z (mv z)<|d_o ?_ ?_
  ·have hy := ((h2.ag B).e h1).e s0
   have hz := lt_ (lt_ h2.s h1.s) s0.s
   obtain ⟨r4r, e32, hm1l⟩ := bdS hu1i
   refine dE z z (fc call139 z<|W_w1c (B := B) e32 (zt' hBw hz)<|p1_0.g hy) (.inr fun _ _ h => A_<|h.1) ?_
   rintro _ w1m ⟨s3, rfl, h1n⟩
   refine d_o ?_ ?_
   ·have h1o := hy.e s3
    obtain ⟨rp, r33, r34, e35, hm36⟩ := O_ hm1l
    refine dE z z (fc call138 z<|i_F (B := B) e35 (zt' hBw<|lt_ hz s3.s) ((((hG.e h2).e h1).e s0).e s3) (p1_0.g h1o) h1n (p2_0.g h1o)<|ii z) (.inr fun _ _ h => A_<|h.1) ?_
    rintro _ w1p ⟨s1q, a1r, n1s, c1t, S37, a1u, n1v, c1w, S38, rfl, h39, h1x, h1y, h3a, h3b, h10, h1z⟩
    refine dR z z (mv z) ?_
    iterate 3 refine dR z z (ext_ z z) ?_
    refine dE z z (fa a_9) (.inr fun _ _ h => A_<|h.2.below) ?_
    rintro _ w3c ⟨rfl, h20⟩
    have h11 := h20.below
    have h3d : Blk w3c w1p.z [vI 0, sl none 0 0, sl none 0 0] := h20.blk
    have h12 := lt_ s0.s s3.s
    have h13 := m1<|lt_ h12 s1q.s
    refine dE0 z (fs (cur' := [vI rp.number, sl a1r n1s c1t, sl a1u n1v c1w]) i_ z z h3d z (lb z) (oA z) z) (.inr fun _ _ h => b_S (atp h13) h.2) ?_
    rintro _ w4s ⟨h3e, s3f⟩
    have h14 := s3f.one
    refine dR z z (asg z)<|dR z z (asg z)<|pD ?_
    have h21 := mnr<|b_.lt h1x
    have h22 := mnr<|b_.lt h1y
    exact fun _ q => ⟨rp.number, rp.bytes, rp.items, r33, r34, som hm36, a1r, n1s, c1t, S37, a1u, n1v, c1w, S38, w1p.z, (q.k<|s5 z z z z z), (bM (bup (bup (bup s0 s3) s1q) h11) h14 h13), h39, ((h1x.e h11).c h14<|ds h21), (nl_ h10), (m_ (al_ h1z) h12), ((h1y.e h11).c h14<|ds h22), (nr_ h10), (m_ (ar_ h1z) h12), (ds<|nj h10), h3a, h3b, h3e, (atp h13), (ds h21), (ds h22)⟩
   refine dE z z (fa a_9) (.inr fun _ _ h => A_<|h.2.below) ?_
   rintro _ w3g ⟨rfl, h23⟩
   have hk := h23.below
   have h15 : Blk w3g w1m.z [vI 0, sl none 0 0, sl none 0 0] := h23.blk
   have h24 := (hy.e s3).e hk
   obtain ⟨rq, r3h, r3i, e3j, hm3k⟩ := O_ hm1l
   refine dE z z (fc call138 z<|i_F (B := B) e3j (zt' hBw<|lt_ (lt_ hz s3.s) hk.s) (((((hG.e h2).e h1).e s0).e s3).e hk) (p1_0.g h24) h1n (p2_0.g h24)<|ii z) (.inr fun _ _ h => A_<|h.1) ?_
   rintro _ w4t ⟨s25, a26, n27, c28, S3l, a29, n2a, c2b, S3m, rfl, h3n, h3o, h3p, h3q, h3r, h16, ht⟩
   refine dR z z (mv z) ?_
   iterate 3 refine dR z z (ext_ z z) ?_
   have h2c := lt_ s0.s s3.s
   have h17 := m1 h2c
   refine dE0 z (fs (cur' := [vI rq.number, sl a26 n27 c28, sl a29 n2a c2b]) i_ z z (h15.e s25) z (lb z) (oA z) z) (.inr fun _ _ h => b_S (atp h17) h.2) ?_
   rintro _ w4u ⟨h3s, s3t⟩
   have h18 := s3t.one
   refine dR z z (asg z)<|dR z z (asg z)<|pD ?_
   have h2d := p_ (al_ ht) h15.lt lr
   have h2e := lt_ h2c hk.s
   have h2f := p_ (ar_ ht) h15.lt lr
   exact fun _ q => ⟨rq.number, rq.bytes, rq.items, r3h, r3i, som hm3k, a26, n27, c28, S3l, a29, n2a, c2b, S3m, w1m.z, (q.k<|s5 z z z z z), (bM (bup (bup (bup s0 s3) hk) s25) h18 h17), h3n, (h3o.c h18 h2d), (nl_ h16), (m_ (al_ ht) h2e), (h3p.c h18 h2f), (nr_ h16), (m_ (ar_ ht) h2e), (ds<|nj h16), h3q, h3r, h3s, (atp h17), h2d, h2f⟩
  refine dE z z (fa a_9) (.inr fun _ _ h => A_<|h.2.below) ?_
  rintro _ w3u ⟨rfl, h2g⟩
  have hl := h2g.below
  have h19 : Blk w3u w1j.z [vI 0, sl none 0 0, sl none 0 0] := h2g.blk
  have h2h := (((h2.ag B).e h1).e s0).e hl
  have h2i := lt_ (lt_ (lt_ h2.s h1.s) s0.s) hl.s
  obtain ⟨r4v, e3v, hm3w⟩ := bdS hu1i
  refine dE z z (fc call139 z<|W_w1c (B := B) e3v (zt' hBw h2i)<|p1_0.g h2h) (.inr fun _ _ h => A_<|h.1) ?_
  rintro _ w4w ⟨s6, rfl, h3x⟩
  have h2j := h2h.e s6
  obtain ⟨rr, r3y, r3z, e40, hm41⟩ := O_ hm3w
  refine dE z z (fc call138 z<|i_F (B := B) e40 (zt' hBw<|lt_ h2i s6.s) (((((hG.e h2).e h1).e s0).e hl).e s6) (p1_0.g h2j) h3x (p2_0.g h2j)<|ii z) (.inr fun _ _ h => A_<|h.1) ?_
  rintro _ w4x ⟨s2k, a2l, n2m, c2n, S42, a2o, n2p, c2q, S43, rfl, h44, h45, h46, h47, h48, h1a, hu⟩
  refine dR z z (mv z) ?_
  iterate 3 refine dR z z (ext_ z z) ?_
  have h1b := m1 s0.s
  refine dE0 z (fs (cur' := [vI rr.number, sl a2l n2m c2n, sl a2o n2p c2q]) i_ z z ((h19.e s6).e s2k) z (lb z) (oA z) z) (.inr fun _ _ h => b_S (atp h1b) h.2) ?_
  rintro _ w4y ⟨h49, s4a⟩
  have h1c := s4a.one
  refine dR z z (asg z)<|dR z z (asg z)<|pD ?_
  have h2r := p_ (al_ hu) h19.lt s6.s
  have h2s := lt_ (lt_ s0.s hl.s) s6.s
  have h2t := p_ (ar_ hu) h19.lt s6.s
  exact fun _ q => ⟨rr.number, rr.bytes, rr.items, r3y, r3z, som hm41, a2l, n2m, c2n, S42, a2o, n2p, c2q, S43, w1j.z, (q.k<|s5 z z z z z), (bM (bup (bup (bup s0 hl) s6) s2k) h1c h1b), h44, (h45.c h1c h2r), (nl_ h1a), (m_ (al_ hu) h2s), (h46.c h1c h2t), (nr_ h1a), (m_ (ar_ hu) h2s), (ds<|nj h1a), h47, h48, h49, (atp h1b), h2r, h2t⟩
 rintro a4b ws ⟨xb, xw, xx, xc, xd, rfl, ae, nf, cg, S7, ah, ni, cj, S8, g9, hS4z, sm, h4c, h4d, h4e, h2u, h4f, h4g, h2v, h4h, h2w, h4i, h4j, h50, h51, h52⟩
 have hm4k := un5S hm31
 revert a4b
 refine Wo<|Wq<|Wq ?_
 obtain ⟨u4l, hu2x, hm2y⟩ := bdS hm4k
 refine Wt (fun a w => ∃ (x1d : Bool), x1d = u4l ∧ Sat 32 [(4, pt wn.z), (7, pt g9), (8, vI xc), (9, vI xd), (26, vB x1d)] a ∧ Below ws.z ws w) ?_ ?_
 ·refine Wg<|Rm z<|R z (eql z z)<|Rm z ?_
  rcases bs (xd == 0) with hc4 | hc4
  ·exact Rh z hc4 (mv z)<|Rh z hc4 (mv z)<|Rh z hc4 (lnR h_ z<|p2_0.g<|((h2.ag B).e h1).e sm)<|Rh z hc4 (lss z z)<|R z (pT z hc4 z)<|Wl (fun _ q => ⟨decide (xc < (x2.length : Int)), som<|ifT hu2x hc4, (q.k<|s5 z z z z z), (br ws)⟩)
  iterate 4 refine Nh z hc4 ?_
  exact R z (pF z hc4 z)<|Wl (fun _ q => ⟨false, som<|ifF hu2x hc4, (q.k<|s5 z z z z z), (br ws)⟩)
 rintro a4m w53 ⟨x1d, rfl, hS54, sa⟩
 revert a4m
 refine Wo<|Wc z (fun hc1e => ?_) (fun hc1e => ?_)
 ·refine Ws<|R z (bP (parts := []) (cs := [vI 0, sl none 0 0, sl none 0 0]) Q_ z z)<|Rm z<|E0 (fs (cur' := [vI 0, sl none 0 0, sl none 0 0]) i_ z z ((ho.e sm).e sa) z (lb z) (oA z) z) ?_
  rintro _ w55 ⟨h4n, s4o⟩
  refine Ra z<|Ra z<|Wn ?_
  obtain rfl := som (ifT hm2y hc1e)
  exact Wr<|s_ hr (u_ x_ i_ z h4n z) z z ⟨(bM (bup (bup (bup h2 h1) sm) sa) s4o.one<|m1 h2.s), none, 0, 0, [], none, 0, 0, [], z, (ii z), onL, onL, h2w, (ii z), nd0, al0⟩
 refine Wk<|Ws<|R z (lN (vs := [vI xb, sl ae nf cg, sl ah ni cj]) x_ i_ z z fid<|(h4j.e sa).row 0 3 z)<|Rm z<|Rm z<|E0 (fs (cur' := [vI xb, sl ae nf cg, sl ah ni cj]) i_ z z ((ho.e sm).e sa) z (lb z) (oA z) z) ?_
 rintro _ w56 ⟨h4p, s4q⟩
 have h1f := s4q.one
 refine Ra z<|Ra z<|Wn ?_
 obtain rfl := som (ifF hm2y hc1e)
 have h2z := lt_ h2.s h1.s
 exact Wr<|s_ hr (u_ x_ i_ z h4p z) z z ⟨(bM (bup (bup (bup h2 h1) sm) sa) h1f<|m1 h2.s), ae, nf, cg, S7, ah, ni, cj, S8, z, h4c, ((h4d.e sa).c h1f<|p_ h2u ho.lt lr), ((h4f.e sa).c h1f<|p_ h2v ho.lt lr), h2w, h4i, (na_ h4e h4g<|ds h4h), (aa_ (m_ h2u h2z)<|m_ h2v h2z)⟩
theorem W_w3h {x1 : g_} {x2 : List UInt8} {res : Bool} (hm : g_r n x1 x2 = some res) (hBw : B ≤ w0.z) (hG : Gl w0 B) (p1_0 : a_ w0 B (sl A0 N0 C0) x1.rules) (p2_0 : a_ w0 B (sl A6 N6 C6) x2) : j_ prog 86 [(.agg #[sl A0 N0 C0]), sl A6 N6 C6] w0 (Q11 w0 B res) := by
 unfold g_r at hm
 refine goF func86 z z (lb z) fun fn hr => Ws<|E z (fb z) ?_
 rintro _ w4 ⟨rfl, h1⟩
 have h0 := h1.below
 have h5 : Blk w4 w0.z [sl A0 N0 C0] := h1.blk
 refine Ra z<|Wn<|Ws<|R z (lN (vs := [sl A0 N0 C0]) P_ F_ z z fid<|h5.row 0 1 z)<|Rm z ?_
 obtain ⟨r6, rj, rk, e7, hm8⟩ := O_ hm
 refine E z (fc call115 z<|W_w3g (B := B) e7 (zt' hBw h0.s) (hG.e h0) (p1_0.e h0)<|p2_0.e h0) ?_
 rintro _ w9 ⟨s2, aa, nb, cc, Sl, ad, ne, cf, Sm, rfl, hn, ho, hp, hq, ht, hu, hv⟩
 refine Rm z ?_
 iterate 3 refine R z (ext_ z z) ?_
 refine E z (fa a_9) ?_
 rintro _ wg ⟨rfl, h3⟩
 have hh : Blk wg w9.z [vI 0, sl none 0 0, sl none 0 0] := h3.blk
 refine E0 (fs (cur' := [vI r6.number, sl aa nb cc, sl ad ne cf]) i_ z z hh z (lb z) (oA z) z) ?_
 rintro _ wr ⟨hw, si⟩
 refine Ra z<|Ra z<|Wn<|Ws<|Rm z<|R z (eql z z)<|Ra z<|Wn ?_
 obtain rfl := som hm8
 exact Wr<|d_ hr z ⟨(bM (bup (bup h0 s2) h3.below) si.one<|m1<|lt_ h0.s s2.s), z⟩
theorem W_w3i {x1 : C_} {res : Bool} (hm : g_P n x1 = some res) (hBw : B ≤ w0.z) (hG : Gl w0 B) (p1_0 : a_ w0 B (sl A0 N0 C0) x1.registry.versions) (p1_1 : a_ w0 B (sl A1 N1 C1) x1.log.bytes) (p1_2 : inI x1.log.stored) : j_ prog 50 [(.agg #[sl A0 N0 C0, sl A1 N1 C1, vI x1.log.stored])] w0 (Q11 w0 B res) := by
 unfold g_P at hm
 refine goF func50 z z (lb z) fun fn hr => Ws<|E z (fb z) ?_
 rintro _ wh ⟨rfl, hq⟩
 have h2 := hq.below
 have hg : Blk wh w0.z [sl A0 N0 C0, sl A1 N1 C1, vI x1.log.stored] := hq.blk
 refine Ra z<|Wn<|Wq<|Wq ?_
 obtain ⟨u1n, hu1o, hmr⟩ := bdS hm
 refine Wt (fun a w => ∃ (xj : Bool), xj = u1n ∧ Sat 60 [(1, pt w0.z), (21, vB xj)] a ∧ Below wh.z wh w) ?_ ?_
 ·refine Wg<|R z (fd c_u z)<|R z (lN (vs := [sl A0 N0 C0]) d_k c_x z z fid<|hg.row 0 1 z) ?_
  obtain ⟨r1p, e1q, hms⟩ := bdS hu1o
  refine E z (fc call82 z<|W_w2y (B := B) (x1 := (⟨x1.registry.versions⟩ : V_)) e1q (zt' hBw h2.s)<|p1_0.e h2) ?_
  rintro _ w31 ⟨sc, rfl⟩
  refine R z (not_ z)<|Rm z ?_
  rcases bs (!r1p) with hc4 | hc4
  ·iterate 4 refine Nh z hc4 ?_
   exact R z (pT z hc4 z)<|Rm z<|Nh z z<|Nh z z<|Nh z z<|R z (pT z z z)<|Wl (fun _ q => ⟨true, som<|ifT hms hc4, (q.k<|s2 z z), sc⟩)
  refine Rh z hc4 (fd b_H z) ?_
  have ht := hg.e sc
  refine Rh z hc4 (lN (vs := [sl A1 N1 C1, vI x1.log.stored]) c_Q c_5 z z fid<|ht.row 1 2 z) ?_
  have hu := (h2.ag B).e sc
  have hv := lt_ h2.s sc.s
  obtain ⟨r1r, e1s, hmw⟩ := bdS (ifF hms hc4)
  refine Eg z z hc4 z (fc call83 z<|W_w19 (B := B) (x1 := (⟨x1.log.bytes, x1.log.stored⟩ : Log)) e1s (zt' hBw hv) (p1_1.g hu) p1_2) ?_
  rintro _ w32 ⟨sf, rfl⟩
  refine Rh z hc4 (not_ z)<|R z (pF z hc4 z)<|Rm z ?_
  rcases bs (!r1r) with hc5 | hc5
  ·iterate 3 refine Nh z hc5 ?_
   exact R z (pT z hc5 z)<|Wl (fun _ q => ⟨true, som<|ifT hmw hc5, (q.k<|s2 z z), (bup sc sf)⟩)
  have hx := hu.e sf
  obtain ⟨r1t, e1u, hm1v⟩ := bdS (ifF hmw hc5)
  refine Eg z z hc5 z (fc call51 z<|W_w1b (B := (zn B w0.z wh.z)) e1u (f_s (zt' hBw<|lt_ hv sf.s)<|lt_ sc.s sf.s) (a_.mono (p1_0.g hx) d_b) (a_.mono (p1_1.g hx) d_b) p1_2 ((ht.e sf).row 0 3 z)<|atp<|zin (B := B) (f_ lr)<|f_ hg.lt) ?_
  rintro _ w33 ⟨s1w, a34, n35, c36, rfl, h1x⟩
  exact Rh z hc5 (lnR b_c z h1x)<|Rh z hc5 (a_c z z)<|R z (pF z hc5 z)<|Wl (fun _ q => ⟨decide (20 < (r1t.length : Int)), som hm1v, (q.k<|s2 z z), (bup (bup sc sf) s1w)⟩)
 rintro a1y w37 ⟨xj, rfl, hS38, s7⟩
 revert a1y
 refine Wo<|Wc z (fun hck => ?_) (fun hck => ?_)
 ·refine Ws<|Ra z<|Wn ?_
  obtain rfl := som (ifT hmr hck)
  exact Wr<|d_ hr z ⟨(bup h2 s7), z⟩
 refine Wk<|Ws<|R z (fd b_H z)<|R z (fd b_h z) ?_
 have hy := hg.e s7
 refine R z (l1 J_ z fid<|hy.at z) ?_
 have hz := (h2.ag B).e s7
 have hl := lt_ h2.s s7.s
 obtain ⟨r10, r39, e1z, hm20⟩ := a_y (ifF hmr hck)
 refine E z (fc call84 z<|W_w1a (B := B) e1z (zt' hBw hl)<|p1_1.g hz) ?_
 rintro _ wd ⟨s8, a11, n12, c13, S3a, rfl, hi, h3b, h3c, h3d⟩
 refine Rm z<|R z (ext_ z z)<|R z (ext_ z z)<|Ra z<|Ra z<|Wn<|Wq<|Ws<|Rm z<|R z (lnR b_I z<|b_.rep hi)<|Rm z<|Wn ?_
 obtain ⟨u3e, hu21, hm14⟩ := bdS hm20
 refine Wf (σ := Unit) (ρ := Bool) (fun (km : Nat) (_ : Unit) a w => Sat 60 [(1, pt w0.z), (29, sl a11 n12 c13), (30, vI (r10.length : Int)), (31, (vI ((km : Nat) : Int)))] a ∧ Below wd.z wd w) (fun (_ : Unit) a w => Sat 60 [] a ∧ Below wd.z wd w) (fun r ex a w => ex = .ret ∧ v_ prog fn (Q11 w0 B r) a w) hu21 ?_ ?_ ?_ ?_ ?_
 ·exact fun _ q => ⟨(q.k<|s4 z z z z), (br wd)⟩
 ·rintro km _ a3f w15 o3g hk16 ⟨hS22, s3⟩ hm23
  refine Wu ?_ hS22
  refine Ws<|R z (lss z z)<|Wn<|Wq<|Wc z (fun _ => ?_) (fun hc => (R_ hk16 hc).elim)
  refine Wk<|Wq<|Wb<|Ws ?_
  obtain ⟨xe, e24, hm25⟩ := bdS hm23
  refine RX z (at_ (α := o_) b_I T_ z z z (or_ (hi.e s3)<|b_.lt hi) e24) ?_
  rintro _ ⟨b3h, o3i, cs3j, rfl, h26, h27, h3k⟩
  obtain ⟨a17, n18, c19, rfl, h3l, h3m, h28, h29⟩ := d_Q h27
  refine R z (lN (vs := [vI xe.kind, Str.v xe.name, vI xe.version, sl a17 n18 c19]) a_H T_ z z fid h26)<|E z (fa c_U) ?_
  rintro _ w2a ⟨rfl, h1a⟩
  have h9 := h1a.below
  have h2b : Blk w2a w15.z [vI 0, (Str.v (⟨[]⟩ : Str)), vI 0, sl none 0 0] := h1a.blk
  refine E0 (fs (cur' := [vI xe.kind, Str.v xe.name, vI xe.version, sl a17 n18 c19]) T_ z z h2b z (lb z) (oA z) z) ?_
  rintro _ w1b ⟨h2c, s2d⟩
  have ha := s2d.one
  refine Wn<|Wq ?_
  obtain ⟨u2e, hu1c, hm1d⟩ := bdS hm25
  refine Wt (fun a w => ∃ (xn : Bool), xn = u2e ∧ Sat 60 [(1, pt w0.z), (29, sl a11 n12 c13), (30, vI (r10.length : Int)), (31, (vI ((km : Nat) : Int))), (58, vB xn)] a ∧ Below w1b.z w1b w) ?_ ?_
  ·refine Wd (X := noX) 0 (.rd 0 (.rd 1 (.rd 2 (.rd 3 (.rd 4 (.rd 5 (.rd 6 (.rd 7 (.ef 8 (.rd 9 (.rd 10 (.rd 11 (.rd 12 (.rd 13 (.rd 14 (.rd 15 (.rd 16 (.rd 17 (.rd 18 (.rd 19 (.ef 20 (.rd 21 (.rd 22 (.rd 23 .done)))))))))))))))))))))))) mo (by kernel_rfl) fun w3n s6 _ => dR z z (fd b_N z) ?_
   have ho := h2c.e s6
   refine dR z z (l1 g_3 z fid<|ho.at z)<|dR z z (eql z z)<|dR z z (mv z) ?_
   rcases bs (xe.kind == 1) with hc0 | hc0
   ·refine dRg z z z hc0 z (fd c_u z) ?_
    have h1e := ((((hy.e s8).e s3).e h9).c ha<|djs<|mm1 hg.lt<|lt_ (lt_ s7.s s8.s) s3.s).e s6
    refine dRg z z z hc0 z (lN (vs := [sl A0 N0 C0]) d_k c_x z z fid<|h1e.row 0 1 z)<|dRg z z z hc0 z (fd b_O z)<|dRg z z z hc0 z (l1 g_3 z fid<|ho.at z) ?_
    have h1f := lt_ hl s8.s
    have h1g := lt_ h1f s3.s
    have h1h : ∀ k ∈ [w15.z], ¬ B k := or0 (f_ lr)  (r_ (zt' hBw h1g))
    have h1i := ((((hz.e s8).e s3).e h9).c ha<|k_ h1h).e s6
    obtain ⟨r2f, e2g, hm1j⟩ := bdS (ifT hu1c hc0)
    refine dEg z z z hc0 z (fc call85 z<|W_w3b (B := B) (x1 := (⟨x1.registry.versions⟩ : V_)) e2g (zt' hBw<|lt_ (lt_ (lt_ h1g h9.s) ha.s) s6.s) (p1_0.g h1i) h28) (.inr fun _ _ h => A_<|h.1) ?_
    rintro _ w3o ⟨sb, rfl⟩
    refine dRg z z z hc0 z (not_ z)<|dRg z z z hc0 z (mv z) ?_
    rcases bs (!r2f) with hc1 | hc1
    ·iterate 9 refine dRn z z z hc1 z ?_
     exact dEn z z z hc1 z<|dRn z z z hc1 z<|dRg z z z hc0 z (pT z hc1 z)<|dR z z (pT z hc0 z)<|pD (fun _ q => ⟨true, som<|ifT hm1j hc1, (q.k<|s5 z z z z z), (bup s6 sb)⟩)
    refine dRg z z z hc1 z (fd c_u z)<|dRg z z z hc1 z (fd b_y z)<|dRg z z z hc1 z (l1 b_G z fid<|(h1e.e sb).at z)<|dRg z z z hc1 z (fd b_O z) ?_
    have h1k := ho.e sb
    refine dRg z z z hc1 z (l1 g_3 z fid<|h1k.at z) ?_
    obtain ⟨x3p, e2h, hm2i⟩ := bdS (ifF hm1j hc1)
    refine a_K z z z hc1 z (at_ (α := g_) a_S F_ z z z (p1_0.g<|h1i.e sb) e2h) ?_
    rintro _ ⟨b3q, o3r, cs3s, rfl, h2j, h2k, h3t⟩
    obtain ⟨a2l, n2m, c2n, rfl, h2o⟩ := d_q h2k
    refine dRg z z z hc1 z (lN (vs := [sl a2l n2m c2n]) P_ F_ z z fid h2j)<|dRg z z z hc1 z (fd c_w z)<|dRg z z z hc1 z (l1 J_ z fid<|h1k.at z) ?_
    have h1l := zt' hBw h1f
    obtain ⟨r2p, e2q, hm2r⟩ := bdS hm2i
    refine dEg z z z hc1 z (fc call86 z<|W_w3h (B := wd.z) e2q (b_5<|lt_ (lt_ (lt_ (lt_ s3.s h9.s) ha.s) s6.s) sb.s) (((((((((hG.e h2).e s7).e s8).e s3).e h9).c ha<|k_ h1h).e s6).e sb).mono h1l) (a_.mono h2o h1l)<|h29.g<|(((h9.ag<|bl wd.z).c ha<|lg<|m1 s3.s).e s6).e sb) (.inr fun _ _ h => A_<|h.1) ?_
    rintro _ w3u ⟨s2s, rfl⟩
    exact dRg z z z hc1 z (not_ z)<|dRg z z z hc0 z (pF z hc1 z)<|dR z z (pT z hc0 z)<|pD (fun _ q => ⟨!r2p, som hm2r, (q.k<|s5 z z z z z), (bup (bup s6 sb) s2s)⟩)
   iterate 4 refine dRn z z z hc0 z ?_
   refine dEn z z z hc0 z<|dRn z z z hc0 z<|dRn z z z hc0 z ?_
   iterate 9 refine dRu z z z z ?_
   exact dEu z z z z<|dRu z z z z<|dRn z z z hc0 z<|dR z z (pF z hc0 z)<|pD (fun _ q => ⟨false, som<|ifF hu1c hc0, (q.k<|s5 z z z z z), s6⟩)
  rintro a2t w3v ⟨xn, rfl, hS3w, s1m⟩
  revert a2t
  refine Wo<|Wc z (fun hcp => ?_) (fun hcp => ?_)
  ·exact Ws<|Ra z<|Wn<|Wr<|rtO<|qL (som<|ifT hm1d hcp).symm<|d_ hr z ⟨(bup (bM (bup (bup (bup (bup h2 s7) s8) s3) h9) ha<|m1<|lt_ (lt_ hl s8.s) s3.s) s1m), z⟩
  exact Wk<|Wg<|R z (inc_ hk16 (lt_ (b_.len hi) H_) z z)<|Rm z<|Wl (fun _ q => ⟨(), (som<|ifF hm1d hcp).symm, ⟨(q.k<|s4 z z z z), (bup (bM (bup s3 h9) ha<|m1 s3.s) s1m)⟩⟩)
 ·rintro _ a3x w3y ⟨hS2u, s2v⟩
  refine Wu ?_ hS2u
  refine Ws<|R z (lss z z)<|Wn<|Wq<|Wc z (fun hc => (S_ hc).elim) (fun _ => ?_)
  exact We (fun a' ha' => ⟨rfl, ⟨(Sat.weaken ha' sn), s2v⟩⟩)
 ·rintro _ a2w w3z rfl ⟨hS40, s2x⟩
  have hm2y := elL hm14
  revert a2w
  refine Wo<|Ws<|Ra z<|Wn ?_
  obtain rfl := som hm2y
  exact Wr<|d_ hr z ⟨(bup (bup (bup h2 s7) s8) s2x), z⟩
 rintro r41 ex42 a43 w44 rfl ⟨rfl, hq2z⟩
 have hm30 := elR hm14
 obtain rfl := som hm30
 exact ⟨hq2z, z⟩
theorem W_w3j {x1 : C_} {res : (List n_)} (hm : i_9 n x1 = some res) (hBw : B ≤ w0.z) (p1_0 : a_ w0 B (sl A0 N0 C0) x1.registry.versions) (p1_1 : a_ w0 B (sl A1 N1 C1) x1.log.bytes) (p1_2 : inI x1.log.stored) : j_ prog 71 [(.agg #[sl A0 N0 C0, sl A1 N1 C1, vI x1.log.stored])] w0 (Q15 w0 B res) := by
 unfold i_9 at hm
 refine goF func71 z z (lb z) fun fn hr => Ws<|E z (fb z) ?_
 rintro _ w4 ⟨rfl, h5⟩
 have h1 := h5.below
 have h2 : Blk w4 w0.z [sl A0 N0 C0, sl A1 N1 C1, vI x1.log.stored] := h5.blk
 refine Ra z<|Wn<|Wq<|Ws<|R z (fd b_H z)<|R z (lN (vs := [sl A1 N1 C1, vI x1.log.stored]) c_Q c_5 z z fid<|h2.row 1 2 z) ?_
 obtain ⟨rm, eb, hm6⟩ := bdS hm
 refine E z (fc call83 z<|W_w19 (B := B) (x1 := (⟨x1.log.bytes, x1.log.stored⟩ : Log)) eb (zt' hBw h1.s) (p1_1.e h1) p1_2) ?_
 rintro _ wn ⟨s0, rfl⟩
 refine R z (not_ z)<|Wn<|Wc z (fun hc3 => ?_) (fun hc3 => ?_)
 ·refine Ws<|E z (f0 (α := n_) b_q) ?_
  rintro _ wo ⟨ac, nd, ce, rfl, sf, h7⟩
  refine Ra z<|Wn ?_
  obtain rfl := som (ifT hm6 hc3)
  exact Wr<|d_ hr z ⟨(bup (bup h1 s0) sf), ac, nd, ce, z, (a_.mono (or_ h7<|zin (B := B) (f_ lr)<|b_.lt h7)<|b_i (lt_ h1.s s0.s) lr)⟩
 refine Wk<|Ws ?_
 have h8 := (h1.ag B).e s0
 have h9 := lt_ h1.s s0.s
 obtain ⟨rp, eg, hmh⟩ := bdS (ifF hm6 hc3)
 refine E z (fc call51 z<|W_w1b (B := (zn B w0.z w4.z)) eg (f_s (zt' hBw h9) s0.s) (a_.mono (p1_0.g h8) d_b) (a_.mono (p1_1.g h8) d_b) p1_2 ((h2.e s0).row 0 3 z)<|atp<|zin (B := B) (f_ lr)<|f_ h2.lt) ?_
 rintro _ wq ⟨sa, ai, nj, ck, rfl, hl⟩
 refine Ra z<|Wn ?_
 obtain rfl := som hmh
 exact Wr<|d_ hr z ⟨(bup (bup h1 s0) sa), ai, nj, ck, z, (a_.mono hl<|zns (zns d_b<|znI lr<|lt_ s0.s sa.s)<|znI h9 lr)⟩
theorem W_w3k {x1 : C_} {res : (List n_)} (hm : f_7 n x1 = some res) (hBw : B ≤ w0.z) (hG : Gl w0 B) (p1_0 : a_ w0 B (sl A0 N0 C0) x1.registry.versions) (p1_1 : a_ w0 B (sl A1 N1 C1) x1.log.bytes) (p1_2 : inI x1.log.stored) : j_ prog 38 [(.agg #[sl A0 N0 C0, sl A1 N1 C1, vI x1.log.stored])] w0 (Q15 w0 B res) := by
 unfold f_7 at hm
 refine goF func38 z z (lb z) fun fn hr => Ws<|E z (fb z) ?_
 rintro _ w9 ⟨rfl, h3⟩
 have h0 := h3.below
 have h4 : Blk w9 w0.z [sl A0 N0 C0, sl A1 N1 C1, vI x1.log.stored] := h3.blk
 refine Ra z<|Wn<|Wq<|Ws<|R z (lN (vs := [sl A0 N0 C0, sl A1 N1 C1, vI x1.log.stored]) c_p b_P z z fid<|h4.row 0 3 z) ?_
 obtain ⟨rm, ea, hm5⟩ := bdS hm
 refine E z (fc call50 z<|W_w3i (B := B) ea (zt' hBw h0.s) (hG.e h0) (p1_0.e h0) (p1_1.e h0) p1_2) ?_
 rintro _ wn ⟨s1, rfl⟩
 refine R z (not_ z)<|Wn<|Wc z (fun hc2 => ?_) (fun hc2 => ?_)
 ·refine Ws<|E z (f0 (α := n_) b_q) ?_
  rintro _ wo ⟨ab, nc, cd, rfl, se, h6⟩
  refine Ra z<|Wn ?_
  obtain rfl := som (ifT hm5 hc2)
  exact Wr<|d_ hr z ⟨(bup (bup h0 s1) se), ab, nc, cd, z, (a_.mono (or_ h6<|zin (B := B) (f_ lr)<|b_.lt h6)<|b_i (lt_ h0.s s1.s) lr)⟩
 refine Wk<|Ws<|R z (lN (vs := [sl A0 N0 C0, sl A1 N1 C1, vI x1.log.stored]) c_p b_P z z fid<|(h4.e s1).row 0 3 z) ?_
 have h7 := (h0.ag B).e s1
 have h8 := lt_ h0.s s1.s
 obtain ⟨rp, ef, hmg⟩ := bdS (ifF hm5 hc2)
 refine E z (fc call71 z<|W_w3j (B := B) ef (zt' hBw h8) (p1_0.g h7) (p1_1.g h7) p1_2) ?_
 rintro _ wq ⟨sh, ai, nj, ck, rfl, hl⟩
 refine Ra z<|Wn ?_
 obtain rfl := som hmg
 exact Wr<|d_ hr z ⟨(bup (bup h0 s1) sh), ai, nj, ck, z, (a_.mono hl<|b_i h8 lr)⟩
theorem W_w3l {x1 : n_} {res : Bool} (hm : i_e x1 = some res) (hBw : B ≤ w0.z) (p1_0 : x1.name.b.length ≤ LEN) (p1_1 : inI x1.version) (p1_2 : a_ w0 B (sl AE NE CE) x1.data) : j_ prog 60 [(.agg #[Str.v x1.name, vI x1.version, sl AE NE CE])] w0 (Q11 w0 B res) := by
 unfold i_e at hm
 refine goF func60 z z (lb z) fun fn hr => Ws<|E z (fb z) ?_
 rintro _ w1 ⟨rfl, h0⟩
 have h2 : Blk w1 w0.z [Str.v x1.name, vI x1.version, sl AE NE CE] := h0.blk
 refine Ra z<|Wn<|Ws<|Ra z<|Wn ?_
 obtain rfl := som hm
 exact Wr<|d_ hr z ⟨h0.below, z⟩
theorem W_w1j {x1 : Int} {res : Str} (hm : g_v x1 = some res) (hBw : B ≤ w0.z) (hG : Gl w0 B) (p1_0 : inI x1) : j_ prog 62 [vI x1] w0 (Q19 w0 B res) := by
 unfold g_v at hm
 refine goF func62 z z (lb z) fun fn hr => Ws<|Ra z<|Wn<|Ws<|Rm z ?_
 obtain ⟨r4, e0, hm1⟩ := bdS hm
 refine E z (fc call95 z<|n_g (B := B) e0 hBw hG p1_0) ?_
 rintro _ w5 ⟨s2, rfl, h3⟩
 refine Ra z<|Wn ?_
 obtain rfl := som hm1
 exact Wr<|d_ hr z ⟨s2, z, h3⟩
theorem W_w3m {x1 : n_} {res : Str} (hm : g_R x1 = some res) (hBw : B ≤ w0.z) (hG : Gl w0 B) (p1_0 : x1.name.b.length ≤ LEN) (p1_1 : inI x1.version) (p1_2 : a_ w0 B (sl AE NE CE) x1.data) : j_ prog 61 [(.agg #[Str.v x1.name, vI x1.version, sl AE NE CE])] w0 (Q19 w0 B res) := by
 unfold g_R at hm
 refine goF func61 z z (lb z) fun fn hr => Ws<|E z (fb z) ?_
 rintro _ w9 ⟨rfl, h4⟩
 have h1 := h4.below
 have ha : Blk w9 w0.z [Str.v x1.name, vI x1.version, sl AE NE CE] := h4.blk
 refine Ra z<|Wn<|Wq (Wd (X := noX) 0 (.rd 0 (.rd 1 (.rd 2 (.rd 3 (.rd 4 (.rd 8 (.rd 9 (.rd 10 (.ef 5 (.rd 6 (.rd 7 (.ef 11 (.rd 12 (.rd 13 .done)))))))))))))) mo (by kernel_rfl) fun wn s0 _ => dR z z (fd g_Y z) ?_)
 have h2 := ha.e s0
 refine dR z z (l1 g_9 z fid<|h2.at z) ?_
 obtain ⟨xo, eb, hmc⟩ := bdS hm
 refine dR z z (b_R z z eb)<|dR z z (fd k_I z)<|dR z z (l1 g_3 z fid<|h2.at z)<|dR z z (fd k_J z)<|dR z z (l1 J_ z fid<|h2.at z) ?_
 have h5 := p1_2.g<|(h1.ag B).e s0
 refine dR z z (lnR h_ z h5) ?_
 have h6 := (hG.e h1).e s0
 have h7 := lt_ h1.s s0.s
 obtain ⟨rp, ed, hme⟩ := bdS hmc
 refine dE z z (fc call62 z<|W_w1j (B := B) ed (zt' hBw h7) h6 p1_1) (.inr fun _ _ h => A_<|h.1) ?_
 rintro _ wq ⟨s3, rfl, ht⟩
 obtain ⟨xr, eg, hmf⟩ := bdS hme
 refine dR z z (b_R z z eg) ?_
 obtain ⟨xs, eh, hmi⟩ := bdS hmf
 refine dR z z (b_R z z eh) ?_
 obtain ⟨ru, ej, hmk⟩ := bdS hmi
 refine dE z z (fc call62 z<|W_w1j (B := B) ej (zt' hBw<|lt_ h7 s3.s) (h6.e s3)<|b_2<|a_.len h5) (.inr fun _ _ h => A_<|h.1) ?_
 rintro _ wv ⟨sm, rfl, hw⟩
 obtain ⟨xx, e8, hml⟩ := bdS hmk
 refine dR z z (b_R z z e8)<|dR z z (asg z)<|pD<|Wo ?_
 obtain rfl := som hml
 exact Wr<|d_ hr z ⟨(bup (bup (bup h1 s0) s3) sm), z, (d_T e8)⟩
theorem W_w3n {x1 : List n_} {res : (List Str)} (hm : i_f x1 = some res) (hBw : B ≤ w0.z) (hG : Gl w0 B) (p1_0 : a_ w0 B (sl A0 N0 C0) x1) : j_ prog 41 [sl A0 N0 C0, (.func (.func 60) #[] #[]), (.func (.func 61) #[] #[])] w0 (Q2 w0 B res) := by
 unfold i_f at hm
 refine goF func41 z z (lb z) fun fn hr => Ws<|Ra z<|Wn<|Ws<|E z (f0 (α := Str) d_M) ?_
 rintro _ w1 ⟨a1d, n1e, c1f, rfl, sc, h1g⟩
 refine Ra z<|Wn<|Wq<|Ws<|Rm z<|R z (lnR b_c z<|p1_0.e sc)<|Rm z<|Wn ?_
 obtain ⟨u32, hu1h, hmr⟩ := bdS hm
 refine Wf (σ := (List Str)) (ρ := (List Str)) (fun (kp : Nat) (x9 : List Str) a w => ∃ a2 n3 c4 S0, Sat 28 [(1, (.func (.func 60) #[] #[])), (2, (.func (.func 61) #[] #[])), (7, sl a2 n3 c4), (11, sl A0 N0 C0), (12, vI (x1.length : Int)), (13, (vI ((kp : Nat) : Int)))] a ∧ Chg (· ∈ [w0.z]) w1 w ∧ b_ w S0 (sl a2 n3 c4) x9 ∧ S0.Nodup ∧ (∀ k ∈ S0, k ∈ [w0.z] ∨ w1.z ≤ k)) (fun (x9 : List Str) a w => ∃ a2 n3 c4 S0, Sat 28 [(7, sl a2 n3 c4)] a ∧ Chg (· ∈ [w0.z]) w1 w ∧ b_ w S0 (sl a2 n3 c4) x9 ∧ S0.Nodup ∧ (∀ k ∈ S0, k ∈ [w0.z] ∨ w1.z ≤ k)) (fun r ex a w => ex = .ret ∧ v_ prog fn (Q2 w0 B r) a w) hu1h ?_ ?_ ?_ ?_ ?_
 ·exact fun _ q => ⟨a1d, n1e, c1f, [w0.z], (q.k<|s6 z z z z z z), (cr [w0.z] w1), h1g, a_0, (io sr)⟩
 ·rintro kp x9 a33 wh o34 hkv ⟨a2, n3, c4, S0, hS1i, sd, h6, he, hg⟩ hm1j
  refine Wu ?_ hS1i
  refine Ws<|R z (lss z z)<|Wn<|Wq<|Wc z (fun _ => ?_) (fun hc => (R_ hkv hc).elim)
  refine Wk<|Wq<|Wb<|Ws ?_
  obtain ⟨x7, e1k, hm1l⟩ := bdS hm1j
  have hw : ∀ k ∈ [w0.z], ¬ B k := or0 (f_ lr)  (r_ hBw)
  refine RX z (at_ (α := n_) b_c a_s z z z (p1_0.g<|(sc.ag B).c sd<|k_ hw) e1k) ?_
  rintro _ ⟨b35, o36, cs37, rfl, h1m, h1n, h38⟩
  obtain ⟨ai, nj, ck, rfl, hx, hy, hz⟩ := d_P h1n
  refine R z (lN (vs := [Str.v x7.name, vI x7.version, sl ai nj ck]) c_q a_s z z fid h1m)<|E z (fa e_l) ?_
  rintro _ w10 ⟨rfl, h11⟩
  have ha := h11.below
  have h1o : Blk w10 wh.z [(Str.v (⟨[]⟩ : Str)), vI 0, sl none 0 0] := h11.blk
  refine E0 (fs (cur' := [Str.v x7.name, vI x7.version, sl ai nj ck]) a_s z z h1o z (lb z) (oA z) z) ?_
  rintro _ w1p ⟨h12, s1q⟩
  have hb := s1q.one
  refine Wn<|Ws<|Rm z<|R z (lN (vs := [Str.v x7.name, vI x7.version, sl ai nj ck]) c_q a_s z z fid<|h12.row 0 3 z) ?_
  have h13 := lt_ sc.s sd.s
  have h14 : ∀ k ∈ [wh.z], ¬ B k := or0 (f_ lr)  (r_ (zt' hBw h13))
  have h15 := (ha.ag B).c hb<|k_ h14
  have h16 := lt_ (lt_ h13 ha.s) hb.s
  obtain ⟨r39, e1r, hm1s⟩ := bdS hm1l
  refine E z (h_9 call60 z z<|W_w3l (B := B) e1r (zt' hBw h16) hx hy<|hz.g h15) ?_
  rintro _ w5 ⟨s8, rfl⟩
  refine Wn ?_
  obtain ⟨u1t, hu17, hm1u⟩ := bdS hm1s
  refine Wt (fun a w => ∃ (xl : List Str), xl = u1t ∧ ∃ am nn co Sf, Sat 28 [(1, (.func (.func 60) #[] #[])), (2, (.func (.func 61) #[] #[])), (7, sl am nn co), (11, sl A0 N0 C0), (12, vI (x1.length : Int)), (13, (vI ((kp : Nat) : Int)))] a ∧ Chg (· ∈ S0) w5 w ∧ b_ w Sf (sl am nn co) xl ∧ Sf.Nodup ∧ (∀ k ∈ Sf, k ∈ S0 ∨ w5.z ≤ k)) ?_ ?_
  ·refine Wc z (fun hcq => ?_) (fun hcq => ?_)
   ·refine Wg<|Rm z<|Rm z<|R z (lN (vs := [Str.v x7.name, vI x7.version, sl ai nj ck]) c_q a_s z z fid<|(h12.e s8).row 0 3 z) ?_
    obtain ⟨r1v, e1w, hm1x⟩ := bdS (ifT hu17 hcq)
    refine E z (h_9 call61 z z<|W_w3m (B := B) e1w (zt' hBw<|lt_ h16 s8.s) (((((hG.e sc).c sd<|k_ hw).e ha).c hb<|k_ h14).e s8) hx hy<|hz.g<|h15.e s8) ?_
    rintro _ w18 ⟨ss, rfl, h19⟩
    refine E z (fS [(.tmp 23)] d_M z z z (a_p z) (lb z)<|lb z) ?_
    rintro _ w1a ⟨rfl, ht⟩
    have hu := ht.below
    have h1y : Blk w1a w18.z [Str.v r1v] := ht.blk
    have h3a := b_r ht<|d_0 h19
    obtain ⟨x1z, e20, hm21⟩ := bdS hm1x
    refine E z (b_d (α := Str) d_M e20 z z (((((h6.e ha).c hb<|ds<|mnr<|b_.lt h6).e s8).e ss).e hu) he h1y (d_0 h19) an_ K_) ?_
    rintro _ w22 ⟨S1b, a23, n24, c25, rfl, s26, h27, h28, h29⟩
    refine Ra z<|Wl ?_
    have h2a : ∀ k ∈ S1b, k ∈ S0 ∨ w5.z ≤ k := or2 h29 (io sr) an_ (l_ (lt_ ss.s hu.s))
    have h2b : Chg (· ∈ S0) w5 w18 := z_ (cr S0 w5) ss
    have h2c : Chg (· ∈ S0) w5 w1a := z_ h2b hu
    have h2d : Chg (· ∈ S0) w5 w22 := cM h2c s26 (io sr)
    exact fun _ q => ⟨x1z, som hm21, a23, n24, c25, S1b, (q.k<|s6 z z z z z z), h2d, h27, h28, h2a⟩
   exact a_J (fun _ q => ⟨x9, som<|ifF hu17 hcq, a2, n3, c4, S0, (q.k<|s6 z z z z z z), (cr S0 w5), (((h6.e ha).c hb<|ds<|mnr<|b_.lt h6).e s8), he, (io sr)⟩)
  rintro a2e w2f ⟨xl, rfl, am, nn, co, Sf, hS3b, s2g, h2h, h2i, h2j⟩
  revert a2e
  refine Wo<|Wg<|R z (inc_ hkv (lt_ (a_.len p1_0) H_) z z)<|Rm z<|Wl ?_
  have h1c : ∀ k ∈ S0, k ∈ [w0.z] ∨ w1.z ≤ k := or1 hg (io sr) (l_ lr)
  have h2k : ∀ k ∈ Sf, k ∈ [w0.z] ∨ w1.z ≤ k := or1 h2j h1c (l_ (lt_ (lt_ (lt_ sd.s ha.s) hb.s) s8.s))
  have h2l : Chg (· ∈ [w0.z]) w1 wh := cM (cr [w0.z] w1) sd (io sr)
  have h2m : Chg (· ∈ [w0.z]) w1 w10 := z_ h2l ha
  have h2n : ∀ k ∈ [wh.z], k ∈ [w0.z] ∨ w1.z ≤ k := mor sd.s
  have h2o : Chg (· ∈ [w0.z]) w1 w1p := cM h2m hb h2n
  have h2p : Chg (· ∈ [w0.z]) w1 w5 := z_ h2o s8
  have h2q : Chg (· ∈ [w0.z]) w1 w2f := cM h2p s2g h1c
  exact fun _ q => ⟨xl, (som hm1u).symm, ⟨am, nn, co, Sf, (q.k<|s6 z z z z z z), h2q, h2h, h2i, h2k⟩⟩
 ·rintro x9 a3c w2r ⟨a2, n3, c4, S0, hS2s, s2t, h6, he, hg⟩
  refine Wu ?_ hS2s
  refine Ws<|R z (lss z z)<|Wn<|Wq<|Wc z (fun hc => (S_ hc).elim) (fun _ => ?_)
  have h2u : ∀ k ∈ S0, k ∈ [w0.z] ∨ w1.z ≤ k := or1 hg (io sr) (l_ lr)
  have h2v : Chg (· ∈ [w0.z]) w1 w2r := cM (cr [w0.z] w1) s2t (io sr)
  exact We (fun a' ha' => ⟨rfl, ⟨a2, n3, c4, S0, (Sat.weaken ha'<|s1 z), h2v, h6, he, h2u⟩⟩)
 ·rintro x9 a2w w3d rfl ⟨a2, n3, c4, S0, hS3e, s2x, h6, he, hg⟩
  have hm2y := elL hmr
  revert a2w
  refine Wo<|Ws<|Rm z<|Ra z<|Wn ?_
  obtain rfl := som hm2y
  have h2z : ∀ k ∈ S0, w0.z ≤ k := or1 hg (f_ lr) (a_E sc.s)
  exact Wr<|d_ hr z ⟨(bM sc s2x<|f_ lr), a2, n3, c4, S0, z, h6, he, h2z⟩
 rintro r3f ex3g a3h w3i rfl ⟨rfl, hq30⟩
 have hm31 := elR hmr
 obtain rfl := som hm31
 exact ⟨hq30, z⟩
theorem W_w1k {x1 : C_} {res : (List Str)} (hm : f_9 n x1 = some res) (hBw : B ≤ w0.z) (hG : Gl w0 B) (p1_0 : a_ w0 B (sl A0 N0 C0) x1.registry.versions) (p1_1 : a_ w0 B (sl A1 N1 C1) x1.log.bytes) (p1_2 : inI x1.log.stored) : j_ prog 31 [(.agg #[sl A0 N0 C0, sl A1 N1 C1, vI x1.log.stored])] w0 (Q2 w0 B res) := by
 unfold f_9 at hm
 refine goF func31 z z (lb z) fun fn hr => Ws<|E z (fb z) ?_
 rintro _ w2 ⟨rfl, h3⟩
 have h0 := h3.below
 have h6 : Blk w2 w0.z [sl A0 N0 C0, sl A1 N1 C1, vI x1.log.stored] := h3.blk
 refine Ra z<|Wn<|Ws<|R z (lN (vs := [sl A0 N0 C0, sl A1 N1 C1, vI x1.log.stored]) c_p b_P z z fid<|h6.row 0 3 z) ?_
 have h4 := hG.e h0
 obtain ⟨rl, e7, hm8⟩ := bdS hm
 refine E z (fc call38 z<|W_w3k (B := B) e7 (zt' hBw h0.s) h4 (p1_0.e h0) (p1_1.e h0) p1_2) ?_
 rintro _ w9 ⟨s1, am, nn, co, rfl, ha⟩
 have h5 := lt_ h0.s s1.s
 obtain ⟨rp, eb, hmc⟩ := bdS hm8
 refine E z (fc call41 z<|W_w3n (B := (zn B w2.z w9.z)) eb (f_s (zt' hBw h5) lr) ((h4.e s1).mono d_b) ha) ?_
 rintro _ wq ⟨sd, ae, nf, cg, Sh, rfl, hi, hj, hk⟩
 refine Ra z<|Wn ?_
 obtain rfl := som hmc
 exact Wr<|d_ hr z ⟨(bup (bup h0 s1) sd), ae, nf, cg, Sh, z, hi, hj, (m_ hk h5)⟩
theorem h_5 {x1 : List Str} {x2 : List Str} {res : Bool} (hm : c_o x1 x2 = some res) (hBw : B ≤ w0.z) (p1_0 : a_ w0 B (sl A0 N0 C0) x1) (p2_0 : a_ w0 B (sl A6 N6 C6) x2) : j_ prog 16 [sl A0 N0 C0, sl A6 N6 C6] w0 (Q11 w0 B res) := by
 unfold c_o at hm
 refine goF func16 z z (lb z) fun fn hr => Ws<|Ra z<|Wn<|Wq<|Ws<|Rm z<|R z (lnR a_1 z p1_0)<|Rm z<|R z (lnR a_1 z p2_0)<|R z (nq z z)<|Wn<|Wc z (fun hc1 => ?_) (fun hc1 => ?_)
 ·refine Ws<|Ra z<|Wn ?_
  obtain rfl := som (ifT hm hc1)
  exact Wr<|d_ hr z ⟨(br w0), z⟩
 refine Wk<|Wq<|Ws<|Ra z<|Wn ?_
 obtain ⟨uq, hua, hm4⟩ := bdS (ifF hm hc1)
 refine Wf (σ := Unit) (ρ := Bool) (fun (k5 : Nat) (_ : Unit) a w => Sat 26 [(0, sl A0 N0 C0), (1, sl A6 N6 C6), (5, (vI ((k5 : Nat) : Int)))] a ∧ Below w0.z w0 w) (fun (_ : Unit) a w => Sat 26 [] a ∧ Below w0.z w0 w) (fun r ex a w => ex = .ret ∧ v_ prog fn (Q11 w0 B r) a w) hua ?_ ?_ ?_ ?_ ?_
 ·exact fun _ q => ⟨(q.k<|s3 z z z), (br w0)⟩
 ·rintro k5 _ ar ws ot hk6 ⟨hSb, s0⟩ hmc
  refine Wu ?_ hSb
  refine Wq<|Ws<|Rm z<|Rm z<|R z (lnR a_1 z<|p1_0.e s0)<|R z (lss z z)<|Wn<|Wc z (fun _ => ?_) (fun hc => (R_ hk6 hc).elim)
  refine Wk<|Wq<|Wb<|Wq (Wd (X := noX) 0 (.rd 0 (.rd 1 (.rd 2 (.rd 3 (.rd 4 (.rd 5 (.rd 6 (.rd 7 (.rd 8 .done))))))))) mo (by kernel_rfl) fun wu s2 _ => dR z z (mv z)<|dR z z (mv z) ?_)
  obtain ⟨xv, ed, hme⟩ := bdS hmc
  have h7 := (s0.ag B).e s2
  refine dRX z z (at_ (α := Str) a_1 z_9 z z z (p1_0.g h7) ed) ?_
  rintro _ ⟨bw, ox, csy, rfl, hf, hg, hz⟩
  obtain ⟨rfl, h10⟩ := b_J hg
  refine dR z z (l1 g_9 z fid<|hf.at0 z)<|dR z z (mv z)<|dR z z (mv z) ?_
  obtain ⟨x11, eh, hm8⟩ := bdS hme
  refine dRX z z (at_ (α := Str) a_1 z_9 z z z (p2_0.g h7) eh) ?_
  rintro _ ⟨b12, o13, cs14, rfl, hi, hj, h15⟩
  obtain ⟨rfl, h16⟩ := b_J hj
  refine dR z z (l1 g_9 z fid<|hi.at0 z)<|dR z z (h_p z z)<|pD<|Wo<|Wc z (fun hc3 => ?_) (fun hc3 => ?_)
  ·exact Ws<|Ra z<|Wn<|Wr<|rtO<|qL (som<|ifT hm8 hc3).symm<|d_ hr z ⟨(bup s0 s2), z⟩
  exact Wk<|Wg<|Rm z<|R z (inc_ hk6 (lt_ (a_.len p1_0) H_) z z)<|Ra z<|Wl (fun _ q => ⟨(), (som<|ifF hm8 hc3).symm, ⟨(q.k<|s3 z z z), (bup s0 s2)⟩⟩)
 ·rintro _ a17 w18 ⟨hSk, s9⟩
  refine Wu ?_ hSk
  refine Wq<|Ws<|Rm z<|Rm z<|R z (lnR a_1 z<|p1_0.e s9)<|R z (lss z z)<|Wn<|Wc z (fun hc => (S_ hc).elim) (fun _ => ?_)
  exact We (fun a' ha' => ⟨rfl, ⟨(Sat.weaken ha' sn), s9⟩⟩)
 ·rintro _ al w19 rfl ⟨hS1a, sm⟩
  have hmn := elL hm4
  revert al
  refine Wo<|Ws<|Ra z<|Wn ?_
  obtain rfl := som hmn
  exact Wr<|d_ hr z ⟨sm, z⟩
 rintro r1b ex1c a1d w1e rfl ⟨rfl, hqo⟩
 have hmp := elR hm4
 obtain rfl := som hmp
 exact ⟨hqo, z⟩
theorem W_w1l {x1 : List UInt8} {x2 : List UInt8} {res : Bool} (hm : e_T x1 x2 = some res) (hBw : B ≤ w0.z) (p1_0 : a_ w0 B (sl A0 N0 C0) x1) (p2_0 : a_ w0 B (sl A6 N6 C6) x2) : j_ prog 26 [sl A0 N0 C0, sl A6 N6 C6] w0 (Q11 w0 B res) := by
 unfold e_T at hm
 refine goF func26 z z (lb z) fun fn hr => Ws<|Ra z<|Wn<|Wq<|Ws<|Rm z<|R z (lnR h_ z p1_0)<|Rm z<|R z (lnR h_ z p2_0)<|R z (nq z z)<|Wn<|Wc z (fun hc1 => ?_) (fun hc1 => ?_)
 ·refine Ws<|Ra z<|Wn ?_
  obtain rfl := som (ifT hm hc1)
  exact Wr<|d_ hr z ⟨(br w0), z⟩
 refine Wk<|Wq<|Ws<|Ra z<|Wn ?_
 obtain ⟨uq, hua, hm4⟩ := bdS (ifF hm hc1)
 refine Wf (σ := Unit) (ρ := Bool) (fun (k5 : Nat) (_ : Unit) a w => Sat 26 [(0, sl A0 N0 C0), (1, sl A6 N6 C6), (5, (vI ((k5 : Nat) : Int)))] a ∧ Below w0.z w0 w) (fun (_ : Unit) a w => Sat 26 [] a ∧ Below w0.z w0 w) (fun r ex a w => ex = .ret ∧ v_ prog fn (Q11 w0 B r) a w) hua ?_ ?_ ?_ ?_ ?_
 ·exact fun _ q => ⟨(q.k<|s3 z z z), (br w0)⟩
 ·rintro k5 _ ar ws ot hk6 ⟨hSb, s0⟩ hmc
  refine Wu ?_ hSb
  refine Wq<|Ws<|Rm z<|Rm z<|R z (lnR h_ z<|p1_0.e s0)<|R z (lss z z)<|Wn<|Wc z (fun _ => ?_) (fun hc => (R_ hk6 hc).elim)
  refine Wk<|Wq<|Wb<|Wq (Wd (X := noX) 0 (.rd 0 (.rd 1 (.rd 2 (.rd 3 (.rd 4 (.rd 5 (.rd 6 (.rd 7 (.rd 8 .done))))))))) mo (by kernel_rfl) fun wu s2 _ => dR z z (mv z)<|dR z z (mv z) ?_)
  obtain ⟨xv, ed, hme⟩ := bdS hmc
  have h7 := (s0.ag B).e s2
  refine dRX z z (at_ (α := UInt8) h_ z_5 z z z (p1_0.g h7) ed) ?_
  rintro _ ⟨bw, ox, csy, rfl, hf, hg, hz⟩
  obtain rfl := u8 hg
  refine dR z z (l1 g_5 z fid<|hf.at0 z)<|dR z z (mv z)<|dR z z (mv z) ?_
  obtain ⟨x10, eh, hm8⟩ := bdS hme
  refine dRX z z (at_ (α := UInt8) h_ z_5 z z z (p2_0.g h7) eh) ?_
  rintro _ ⟨b11, o12, cs13, rfl, hi, hj, h14⟩
  obtain rfl := u8 hj
  refine dR z z (l1 g_5 z fid<|hi.at0 z)<|dR z z (nq z z)<|pD<|Wo<|Wc z (fun hc3 => ?_) (fun hc3 => ?_)
  ·exact Ws<|Ra z<|Wn<|Wr<|rtO<|qL (som<|ifT hm8 hc3).symm<|d_ hr z ⟨(bup s0 s2), z⟩
  exact Wk<|Wg<|Rm z<|R z (inc_ hk6 (lt_ (a_.len p1_0) H_) z z)<|Ra z<|Wl (fun _ q => ⟨(), (som<|ifF hm8 hc3).symm, ⟨(q.k<|s3 z z z), (bup s0 s2)⟩⟩)
 ·rintro _ a15 w16 ⟨hSk, s9⟩
  refine Wu ?_ hSk
  refine Wq<|Ws<|Rm z<|Rm z<|R z (lnR h_ z<|p1_0.e s9)<|R z (lss z z)<|Wn<|Wc z (fun hc => (S_ hc).elim) (fun _ => ?_)
  exact We (fun a' ha' => ⟨rfl, ⟨(Sat.weaken ha' sn), s9⟩⟩)
 ·rintro _ al w17 rfl ⟨hS18, sm⟩
  have hmn := elL hm4
  revert al
  refine Wo<|Ws<|Ra z<|Wn ?_
  obtain rfl := som hmn
  exact Wr<|d_ hr z ⟨sm, z⟩
 rintro r19 ex1a a1b w1c rfl ⟨rfl, hqo⟩
 have hmp := elR hm4
 obtain rfl := som hmp
 exact ⟨hqo, z⟩
theorem W_w1m {x1 : List Int} {x2 : List Int} {res : Bool} (hm : e_U x1 x2 = some res) (hBw : B ≤ w0.z) (p1_0 : a_ w0 B (sl A0 N0 C0) x1) (p2_0 : a_ w0 B (sl A6 N6 C6) x2) : j_ prog 176 [sl A0 N0 C0, sl A6 N6 C6] w0 (Q11 w0 B res) := by
 unfold e_U at hm
 refine goF func176 z z (lb z) fun fn hr => Ws<|Ra z<|Wn<|Wq<|Ws<|Rm z<|R z (lnR B_ z p1_0)<|Rm z<|R z (lnR B_ z p2_0)<|R z (nq z z)<|Wn<|Wc z (fun hc1 => ?_) (fun hc1 => ?_)
 ·refine Ws<|Ra z<|Wn ?_
  obtain rfl := som (ifT hm hc1)
  exact Wr<|d_ hr z ⟨(br w0), z⟩
 refine Wk<|Wq<|Ws<|Ra z<|Wn ?_
 obtain ⟨uq, hua, hm4⟩ := bdS (ifF hm hc1)
 refine Wf (σ := Unit) (ρ := Bool) (fun (k5 : Nat) (_ : Unit) a w => Sat 26 [(0, sl A0 N0 C0), (1, sl A6 N6 C6), (5, (vI ((k5 : Nat) : Int)))] a ∧ Below w0.z w0 w) (fun (_ : Unit) a w => Sat 26 [] a ∧ Below w0.z w0 w) (fun r ex a w => ex = .ret ∧ v_ prog fn (Q11 w0 B r) a w) hua ?_ ?_ ?_ ?_ ?_
 ·exact fun _ q => ⟨(q.k<|s3 z z z), (br w0)⟩
 ·rintro k5 _ ar ws ot hk6 ⟨hSb, s0⟩ hmc
  refine Wu ?_ hSb
  refine Wq<|Ws<|Rm z<|Rm z<|R z (lnR B_ z<|p1_0.e s0)<|R z (lss z z)<|Wn<|Wc z (fun _ => ?_) (fun hc => (R_ hk6 hc).elim)
  refine Wk<|Wq<|Wb<|Wq (Wd (X := noX) 0 (.rd 0 (.rd 1 (.rd 2 (.rd 3 (.rd 4 (.rd 5 (.rd 6 (.rd 7 (.rd 8 .done))))))))) mo (by kernel_rfl) fun wu s2 _ => dR z z (mv z)<|dR z z (mv z) ?_)
  obtain ⟨xv, ed, hme⟩ := bdS hmc
  have h7 := (s0.ag B).e s2
  refine dRX z z (at_ (α := Int) B_ z_3 z z z (p1_0.g h7) ed) ?_
  rintro _ ⟨bw, ox, csy, rfl, hf, hg, hz⟩
  obtain ⟨rfl, h10⟩ := a_7 hg
  refine dR z z (l1 g_3 z fid<|hf.at0 z)<|dR z z (mv z)<|dR z z (mv z) ?_
  obtain ⟨x11, eh, hm8⟩ := bdS hme
  refine dRX z z (at_ (α := Int) B_ z_3 z z z (p2_0.g h7) eh) ?_
  rintro _ ⟨b12, o13, cs14, rfl, hi, hj, h15⟩
  obtain ⟨rfl, h16⟩ := a_7 hj
  refine dR z z (l1 g_3 z fid<|hi.at0 z)<|dR z z (nq z z)<|pD<|Wo<|Wc z (fun hc3 => ?_) (fun hc3 => ?_)
  ·exact Ws<|Ra z<|Wn<|Wr<|rtO<|qL (som<|ifT hm8 hc3).symm<|d_ hr z ⟨(bup s0 s2), z⟩
  exact Wk<|Wg<|Rm z<|R z (inc_ hk6 (lt_ (a_.len p1_0) H_) z z)<|Ra z<|Wl (fun _ q => ⟨(), (som<|ifF hm8 hc3).symm, ⟨(q.k<|s3 z z z), (bup s0 s2)⟩⟩)
 ·rintro _ a17 w18 ⟨hSk, s9⟩
  refine Wu ?_ hSk
  refine Wq<|Ws<|Rm z<|Rm z<|R z (lnR B_ z<|p1_0.e s9)<|R z (lss z z)<|Wn<|Wc z (fun hc => (S_ hc).elim) (fun _ => ?_)
  exact We (fun a' ha' => ⟨rfl, ⟨(Sat.weaken ha' sn), s9⟩⟩)
 ·rintro _ al w19 rfl ⟨hS1a, sm⟩
  have hmn := elL hm4
  revert al
  refine Wo<|Ws<|Ra z<|Wn ?_
  obtain rfl := som hmn
  exact Wr<|d_ hr z ⟨sm, z⟩
 rintro r1b ex1c a1d w1e rfl ⟨rfl, hqo⟩
 have hmp := elR hm4
 obtain rfl := som hmp
 exact ⟨hqo, z⟩
theorem W_w3o {x1 : e_} {x2 : e_} {res : Bool} (hm : g_s x1 x2 = some res) (hBw : B ≤ w0.z) (p1_0 : x1.name.b.length ≤ LEN) (p1_1 : inI x1.kind) (p1_2 : inI x1.size) (p1_4 : a_ w0 B (sl A9 N9 C9) x1.bytes) (p1_5 : a_ w0 B (sl A8 N8 C8) x1.names) (p1_6 : a_ w0 B (sl AA NA CA) x1.tags) (p1_7 : a_ w0 B (sl AB NB CB) x1.kids) (p2_0 : x2.name.b.length ≤ LEN) (p2_1 : inI x2.kind) (p2_2 : inI x2.size) (p2_4 : a_ w0 B (sl A3 N3 C3) x2.bytes) (p2_5 : a_ w0 B (sl A4 N4 C4) x2.names) (p2_6 : a_ w0 B (sl A2 N2 C2) x2.tags) (p2_7 : a_ w0 B (sl A5 N5 C5) x2.kids) : j_ prog 149 [(.agg #[Str.v x1.name, vI x1.kind, vI x1.size, vB x1.little, sl A9 N9 C9, sl A8 N8 C8, sl AA NA CA, sl AB NB CB]), (.agg #[Str.v x2.name, vI x2.kind, vI x2.size, vB x2.little, sl A3 N3 C3, sl A4 N4 C4, sl A2 N2 C2, sl A5 N5 C5])] w0 (Q11 w0 B res) := by
 unfold g_s at hm
 refine goF func149 z z (lb z) fun fn hr => Ws<|E z (fb z) ?_
 rintro _ wi ⟨rfl, hj⟩
 have h1 := hj.below
 have h11 : Blk wi w0.z (vR x1 A9 N9 C9 A8 N8 C8 AA NA CA AB NB CB) := hj.blk
 refine E z (fb z) ?_
 rintro _ w12 ⟨rfl, hk⟩
 have h0 := hk.below
 have h5 : Blk w12 wi.z (vR x2 A3 N3 C3 A4 N4 C4 A2 N2 C2 A5 N5 C5) := hk.blk
 refine Ra z<|Wn<|Wq<|Ws<|R z (fd c_s z) ?_
 have h6 := h11.e h0
 refine R z (l1 g_9 z fid<|h6.at z)<|R z (fd c_s z)<|R z (l1 g_9 z fid<|h5.at z)<|R z (h_p z z)<|Wn<|Wc z (fun hc7 => ?_) (fun hc7 => ?_)
 ·refine Ws<|Ra z<|Wn ?_
  obtain rfl := som (ifT hm hc7)
  exact Wr<|d_ hr z ⟨(bup h1 h0), z⟩
 have hml := ifF hm hc7
 refine Wk<|Wq<|Ws<|R z (fd b_x z)<|R z (l1 g_3 z fid<|h6.at z)<|R z (fd b_x z)<|R z (l1 g_3 z fid<|h5.at z)<|R z (nq z z)<|Wn<|Wc z (fun hc8 => ?_) (fun hc8 => ?_)
 ·refine Ws<|Ra z<|Wn ?_
  obtain rfl := som (ifT hml hc8)
  exact Wr<|d_ hr z ⟨(bup h1 h0), z⟩
 have hmm := ifF hml hc8
 refine Wk<|Wq<|Ws<|R z (fd a_D z)<|R z (l1 g_3 z fid<|h6.at z)<|R z (fd a_D z)<|R z (l1 g_3 z fid<|h5.at z)<|R z (nq z z)<|Wn<|Wc z (fun hc9 => ?_) (fun hc9 => ?_)
 ·refine Ws<|Ra z<|Wn ?_
  obtain rfl := som (ifT hmm hc9)
  exact Wr<|d_ hr z ⟨(bup h1 h0), z⟩
 have hmn := ifF hmm hc9
 refine Wk<|Wq<|Ws<|R z (fd c_t z)<|R z (l1 g_4 z fid<|h6.at z)<|R z (fd c_t z)<|R z (l1 g_4 z fid<|h5.at z)<|R z (p_j d_4 z z)<|Wn<|Wc z (fun hca => ?_) (fun hca => ?_)
 ·refine Ws<|Ra z<|Wn ?_
  obtain rfl := som (ifT hmn hca)
  exact Wr<|d_ hr z ⟨(bup h1 h0), z⟩
 refine Wk<|Wq<|Ws<|R z (fd a_R z)<|R z (l1 J_ z fid<|h6.at z)<|R z (fd a_R z)<|R z (l1 J_ z fid<|h5.at z) ?_
 have hb := (h1.ag B).e h0
 have ho := lt_ h1.s h0.s
 obtain ⟨r17, e13, hmp⟩ := bdS (ifF hmn hca)
 refine E z (fc call26 z<|W_w1l (B := B) e13 (zt' hBw ho) (p1_4.g hb)<|p2_4.g hb) ?_
 rintro _ w18 ⟨s2, rfl⟩
 refine R z (not_ z)<|Wn<|Wc z (fun hcc => ?_) (fun hcc => ?_)
 ·refine Ws<|Ra z<|Wn ?_
  obtain rfl := som (ifT hmp hcc)
  exact Wr<|d_ hr z ⟨(bup (bup h1 h0) s2), z⟩
 refine Wk<|Wq<|Ws<|R z (fd c_4 z) ?_
 have hq := h6.e s2
 refine R z (l1 b_M z fid<|hq.at z)<|R z (fd c_4 z) ?_
 have ht := h5.e s2
 refine R z (l1 b_M z fid<|ht.at z) ?_
 have hd := hb.e s2
 have hu := lt_ ho s2.s
 obtain ⟨r19, e14, hmr⟩ := bdS (ifF hmp hcc)
 refine E z (fc call16 z<|h_5 (B := B) e14 (zt' hBw hu) (p1_5.g hd)<|p2_5.g hd) ?_
 rintro _ w1a ⟨s3, rfl⟩
 refine R z (not_ z)<|Wn<|Wc z (fun hce => ?_) (fun hce => ?_)
 ·refine Ws<|Ra z<|Wn ?_
  obtain rfl := som (ifT hmr hce)
  exact Wr<|d_ hr z ⟨(bup (bup (bup h1 h0) s2) s3), z⟩
 refine Wk<|Wq<|Ws<|R z (fd a_O z) ?_
 have hv := hq.e s3
 refine R z (l1 G_ z fid<|hv.at z)<|R z (fd a_O z) ?_
 have hw := ht.e s3
 refine R z (l1 G_ z fid<|hw.at z) ?_
 have hf := hd.e s3
 have hx := lt_ hu s3.s
 obtain ⟨r1b, e15, hms⟩ := bdS (ifF hmr hce)
 refine E z (fc call176 z<|W_w1m (B := B) e15 (zt' hBw hx) (p1_6.g hf)<|p2_6.g hf) ?_
 rintro _ w1c ⟨s4, rfl⟩
 refine R z (not_ z)<|Wn<|Wc z (fun hcg => ?_) (fun hcg => ?_)
 ·refine Ws<|Ra z<|Wn ?_
  obtain rfl := som (ifT hms hcg)
  exact Wr<|d_ hr z ⟨(bup (bup (bup (bup h1 h0) s2) s3) s4), z⟩
 refine Wk<|Wq<|Ws<|R z (fd a_8 z)<|R z (l1 G_ z fid<|(hv.e s4).at z)<|R z (fd a_8 z)<|R z (l1 G_ z fid<|(hw.e s4).at z) ?_
 have hy := hf.e s4
 obtain ⟨r1d, e16, hmz⟩ := bdS (ifF hms hcg)
 refine E z (fc call176 z<|W_w1m (B := B) e16 (zt' hBw<|lt_ hx s4.s) (p1_7.g hy)<|p2_7.g hy) ?_
 rintro _ w1e ⟨s10, rfl⟩
 refine R z (not_ z)<|Wn<|Wc z (fun hch => ?_) (fun hch => ?_)
 ·refine Ws<|Ra z<|Wn ?_
  obtain rfl := som (ifT hmz hch)
  exact Wr<|d_ hr z ⟨(bup (bup (bup (bup (bup h1 h0) s2) s3) s4) s10), z⟩
 refine Wk<|Ws<|Ra z<|Wn ?_
 obtain rfl := som (ifF hmz hch)
 exact Wr<|d_ hr z ⟨(bup (bup (bup (bup (bup h1 h0) s2) s3) s4) s10), z⟩
theorem W_w3p {x1 : List e_} {x2 : List e_} {res : Bool} (hm : i_0 x1 x2 = some res) (hBw : B ≤ w0.z) (p1_0 : a_ w0 B (sl A0 N0 C0) x1) (p2_0 : a_ w0 B (sl A6 N6 C6) x2) : j_ prog 131 [sl A0 N0 C0, sl A6 N6 C6] w0 (Q11 w0 B res) := by
 unfold i_0 at hm
 refine goF func131 z z (lb z) fun fn hr => Ws<|Ra z<|Wn<|Wq<|Ws<|Rm z<|R z (lnR X_ z p1_0)<|Rm z<|R z (lnR X_ z p2_0)<|R z (nq z z)<|Wn<|Wc z (fun hc2 => ?_) (fun hc2 => ?_)
 ·refine Ws<|Ra z<|Wn ?_
  obtain rfl := som (ifT hm hc2)
  exact Wr<|d_ hr z ⟨(br w0), z⟩
 refine Wk<|Wq<|Ws<|Ra z<|Wn ?_
 obtain ⟨u1x, hub, hm4⟩ := bdS (ifF hm hc2)
 refine Wf (σ := Unit) (ρ := Bool) (fun (k5 : Nat) (_ : Unit) a w => Sat 27 [(0, sl A0 N0 C0), (1, sl A6 N6 C6), (5, (vI ((k5 : Nat) : Int)))] a ∧ Below w0.z w0 w) (fun (_ : Unit) a w => Sat 27 [] a ∧ Below w0.z w0 w) (fun r ex a w => ex = .ret ∧ v_ prog fn (Q11 w0 B r) a w) hub ?_ ?_ ?_ ?_ ?_
 ·exact fun _ q => ⟨(q.k<|s3 z z z), (br w0)⟩
 ·rintro k5 _ a1y w1z o20 hk6 ⟨hSc, s0⟩ hmd
  refine Wu ?_ hSc
  refine Wq<|Ws<|Rm z<|Rm z<|R z (lnR X_ z<|p1_0.e s0)<|R z (lss z z)<|Wn<|Wc z (fun _ => ?_) (fun hc => (R_ hk6 hc).elim)
  refine Wk<|Wq<|Wb<|Wq (Wd (X := noX) 0 (.rd 0 (.rd 1 (.rd 2 (.rd 3 (.rd 4 (.rd 5 (.rd 6 (.rd 7 (.ef 8 (.rd 9 .done)))))))))) mo (by kernel_rfl) fun w21 s1 _ => dR z z (mv z)<|dR z z (mv z) ?_)
  obtain ⟨xe, eg, hmf⟩ := bdS hmd
  have h7 := (s0.ag B).e s1
  refine dRX z z (at_ (α := e_) X_ t_ z z z (p1_0.g h7) eg) ?_
  rintro _ ⟨b22, o23, cs24, rfl, hh, hi, h25⟩
  obtain ⟨aj, nk, cl, am, nn, co, ap, nr, cq, au, ns, ct, rfl, hv, hw, hx, hy, hz, h10, h11⟩ := b_1 hi
  refine dR z z (lN (vs := (vR xe aj nk cl am nn co ap nr cq au ns ct)) N_ t_ z z fid hh)<|dR z z (mv z)<|dR z z (mv z) ?_
  obtain ⟨x12, e13, hm14⟩ := bdS hmf
  refine dRX z z (at_ (α := e_) X_ t_ z z z (p2_0.g h7) e13) ?_
  rintro _ ⟨b26, o27, cs28, rfl, h15, h16, h29⟩
  obtain ⟨a17, n18, c19, a1a, n1b, c1c, a1d, n1e, c1f, a1g, n1h, c1i, rfl, h1j, h1k, h1l, h1m, h1n, h1o, h1p⟩ := b_1 h16
  refine dR z z (lN (vs := (vR x12 a17 n18 c19 a1a n1b c1c a1d n1e c1f a1g n1h c1i)) N_ t_ z z fid h15) ?_
  obtain ⟨r2a, e1q, hm8⟩ := bdS hm14
  refine dE z z (fc call149 z<|W_w3o (B := B) e1q (zt' hBw<|lt_ s0.s s1.s) hv hw hx hy hz h10 h11 h1j h1k h1l h1m h1n h1o h1p) (.inr fun _ _ h => A_<|h.1) ?_
  rintro _ w2b ⟨s9, rfl⟩
  refine dR z z (not_ z)<|pD<|Wo<|Wc z (fun hc3 => ?_) (fun hc3 => ?_)
  ·exact Ws<|Ra z<|Wn<|Wr<|rtO<|qL (som<|ifT hm8 hc3).symm<|d_ hr z ⟨(bup (bup s0 s1) s9), z⟩
  exact Wk<|Wg<|Rm z<|R z (inc_ hk6 (lt_ (a_.len p1_0) H_) z z)<|Ra z<|Wl (fun _ q => ⟨(), (som<|ifF hm8 hc3).symm, ⟨(q.k<|s3 z z z), (bup (bup s0 s1) s9)⟩⟩)
 ·rintro _ a2c w2d ⟨hS1r, sa⟩
  refine Wu ?_ hS1r
  refine Wq<|Ws<|Rm z<|Rm z<|R z (lnR X_ z<|p1_0.e sa)<|R z (lss z z)<|Wn<|Wc z (fun hc => (S_ hc).elim) (fun _ => ?_)
  exact We (fun a' ha' => ⟨rfl, ⟨(Sat.weaken ha' sn), sa⟩⟩)
 ·rintro _ a1s w2e rfl ⟨hS2f, s1t⟩
  have hm1u := elL hm4
  revert a1s
  refine Wo<|Ws<|Ra z<|Wn ?_
  obtain rfl := som hm1u
  exact Wr<|d_ hr z ⟨s1t, z⟩
 rintro r2g ex2h a2i w2j rfl ⟨rfl, hq1v⟩
 have hm1w := elR hm4
 obtain rfl := som hm1w
 exact ⟨hq1v, z⟩
theorem W_w3q {x1 : g_} {x2 : g_} {res : Bool} (hm : g_t x1 x2 = some res) (hBw : B ≤ w0.z) (p1_0 : a_ w0 B (sl A0 N0 C0) x1.rules) (p2_0 : a_ w0 B (sl A6 N6 C6) x2.rules) : j_ prog 103 [(.agg #[sl A0 N0 C0]), (.agg #[sl A6 N6 C6])] w0 (Q11 w0 B res) := by
 unfold g_t at hm
 refine goF func103 z z (lb z) fun fn hr => Ws<|E z (fb z) ?_
 rintro _ w3 ⟨rfl, h4⟩
 have h1 := h4.below
 have h9 : Blk w3 w0.z [sl A0 N0 C0] := h4.blk
 refine E z (fb z) ?_
 rintro _ wa ⟨rfl, h5⟩
 have h0 := h5.below
 have hb : Blk wa w3.z [sl A6 N6 C6] := h5.blk
 refine Ra z<|Wn<|Wq<|Ws<|R z (fd a_j z)<|R z (l1 a_o z fid<|(h9.e h0).at z)<|R z (fd a_j z)<|R z (l1 a_o z fid<|hb.at z) ?_
 have h6 := (h1.ag B).e h0
 obtain ⟨rd, ec, hm7⟩ := bdS hm
 refine E z (fc call131 z<|W_w3p (B := B) ec (zt' hBw<|lt_ h1.s h0.s) (p1_0.g h6)<|p2_0.g h6) ?_
 rintro _ we ⟨s8, rfl⟩
 refine R z (not_ z)<|Wn<|Wc z (fun hc2 => ?_) (fun hc2 => ?_)
 ·refine Ws<|Ra z<|Wn ?_
  obtain rfl := som (ifT hm7 hc2)
  exact Wr<|d_ hr z ⟨(bup (bup h1 h0) s8), z⟩
 refine Wk<|Ws<|Ra z<|Wn ?_
 obtain rfl := som (ifF hm7 hc2)
 exact Wr<|d_ hr z ⟨(bup (bup h1 h0) s8), z⟩
theorem W_w3r {x1 : List g_} {x2 : List g_} {res : Bool} (hm : g_Q x1 x2 = some res) (hBw : B ≤ w0.z) (p1_0 : a_ w0 B (sl A0 N0 C0) x1) (p2_0 : a_ w0 B (sl A6 N6 C6) x2) : j_ prog 72 [sl A0 N0 C0, sl A6 N6 C6] w0 (Q11 w0 B res) := by
 unfold g_Q at hm
 refine goF func72 z z (lb z) fun fn hr => Ws<|Ra z<|Wn<|Wq<|Ws<|Rm z<|R z (lnR a_S z p1_0)<|Rm z<|R z (lnR a_S z p2_0)<|R z (nq z z)<|Wn<|Wc z (fun hc2 => ?_) (fun hc2 => ?_)
 ·refine Ws<|Ra z<|Wn ?_
  obtain rfl := som (ifT hm hc2)
  exact Wr<|d_ hr z ⟨(br w0), z⟩
 refine Wk<|Wq<|Ws<|Ra z<|Wn ?_
 obtain ⟨u11, hub, hm4⟩ := bdS (ifF hm hc2)
 refine Wf (σ := Unit) (ρ := Bool) (fun (k5 : Nat) (_ : Unit) a w => Sat 27 [(0, sl A0 N0 C0), (1, sl A6 N6 C6), (5, (vI ((k5 : Nat) : Int)))] a ∧ Below w0.z w0 w) (fun (_ : Unit) a w => Sat 27 [] a ∧ Below w0.z w0 w) (fun r ex a w => ex = .ret ∧ v_ prog fn (Q11 w0 B r) a w) hub ?_ ?_ ?_ ?_ ?_
 ·exact fun _ q => ⟨(q.k<|s3 z z z), (br w0)⟩
 ·rintro k5 _ a12 w13 o14 hk6 ⟨hSc, s0⟩ hmd
  refine Wu ?_ hSc
  refine Wq<|Ws<|Rm z<|Rm z<|R z (lnR a_S z<|p1_0.e s0)<|R z (lss z z)<|Wn<|Wc z (fun _ => ?_) (fun hc => (R_ hk6 hc).elim)
  refine Wk<|Wq<|Wb<|Wq (Wd (X := noX) 0 (.rd 0 (.rd 1 (.rd 2 (.rd 3 (.rd 4 (.rd 5 (.rd 6 (.rd 7 (.ef 8 (.rd 9 .done)))))))))) mo (by kernel_rfl) fun w15 s1 _ => dR z z (mv z)<|dR z z (mv z) ?_)
  obtain ⟨x16, ee, hmf⟩ := bdS hmd
  have h7 := (s0.ag B).e s1
  refine dRX z z (at_ (α := g_) a_S F_ z z z (p1_0.g h7) ee) ?_
  rintro _ ⟨b17, o18, cs19, rfl, hg, hh, h1a⟩
  obtain ⟨ai, nj, ck, rfl, hl⟩ := d_q hh
  refine dR z z (lN (vs := [sl ai nj ck]) P_ F_ z z fid hg)<|dR z z (mv z)<|dR z z (mv z) ?_
  obtain ⟨x1b, em, hmn⟩ := bdS hmf
  refine dRX z z (at_ (α := g_) a_S F_ z z z (p2_0.g h7) em) ?_
  rintro _ ⟨b1c, o1d, cs1e, rfl, ho, hp, h1f⟩
  obtain ⟨aq, nr, cs, rfl, ht⟩ := d_q hp
  refine dR z z (lN (vs := [sl aq nr cs]) P_ F_ z z fid ho) ?_
  obtain ⟨r1g, eu, hm8⟩ := bdS hmn
  refine dE z z (fc call103 z<|W_w3q (B := B) eu (zt' hBw<|lt_ s0.s s1.s) hl ht) (.inr fun _ _ h => A_<|h.1) ?_
  rintro _ w1h ⟨s9, rfl⟩
  refine dR z z (not_ z)<|pD<|Wo<|Wc z (fun hc3 => ?_) (fun hc3 => ?_)
  ·exact Ws<|Ra z<|Wn<|Wr<|rtO<|qL (som<|ifT hm8 hc3).symm<|d_ hr z ⟨(bup (bup s0 s1) s9), z⟩
  exact Wk<|Wg<|Rm z<|R z (inc_ hk6 (lt_ (a_.len p1_0) H_) z z)<|Ra z<|Wl (fun _ q => ⟨(), (som<|ifF hm8 hc3).symm, ⟨(q.k<|s3 z z z), (bup (bup s0 s1) s9)⟩⟩)
 ·rintro _ a1i w1j ⟨hSv, sa⟩
  refine Wu ?_ hSv
  refine Wq<|Ws<|Rm z<|Rm z<|R z (lnR a_S z<|p1_0.e sa)<|R z (lss z z)<|Wn<|Wc z (fun hc => (S_ hc).elim) (fun _ => ?_)
  exact We (fun a' ha' => ⟨rfl, ⟨(Sat.weaken ha' sn), sa⟩⟩)
 ·rintro _ aw w1k rfl ⟨hS1l, sx⟩
  have hmy := elL hm4
  revert aw
  refine Wo<|Ws<|Ra z<|Wn ?_
  obtain rfl := som hmy
  exact Wr<|d_ hr z ⟨sx, z⟩
 rintro r1m ex1n a1o w1p rfl ⟨rfl, hqz⟩
 have hm10 := elR hm4
 obtain rfl := som hm10
 exact ⟨hqz, z⟩
theorem W_w3s {x1 : V_} {x2 : V_} {res : Bool} (hm : i_a x1 x2 = some res) (hBw : B ≤ w0.z) (p1_0 : a_ w0 B (sl A0 N0 C0) x1.versions) (p2_0 : a_ w0 B (sl A6 N6 C6) x2.versions) : j_ prog 39 [(.agg #[sl A0 N0 C0]), (.agg #[sl A6 N6 C6])] w0 (Q11 w0 B res) := by
 unfold i_a at hm
 refine goF func39 z z (lb z) fun fn hr => Ws<|E z (fb z) ?_
 rintro _ w3 ⟨rfl, h4⟩
 have h1 := h4.below
 have h9 : Blk w3 w0.z [sl A0 N0 C0] := h4.blk
 refine E z (fb z) ?_
 rintro _ wa ⟨rfl, h5⟩
 have h0 := h5.below
 have hb : Blk wa w3.z [sl A6 N6 C6] := h5.blk
 refine Ra z<|Wn<|Wq<|Ws<|R z (fd b_y z)<|R z (l1 b_G z fid<|(h9.e h0).at z)<|R z (fd b_y z)<|R z (l1 b_G z fid<|hb.at z) ?_
 have h6 := (h1.ag B).e h0
 obtain ⟨rd, ec, hm7⟩ := bdS hm
 refine E z (fc call72 z<|W_w3r (B := B) ec (zt' hBw<|lt_ h1.s h0.s) (p1_0.g h6)<|p2_0.g h6) ?_
 rintro _ we ⟨s8, rfl⟩
 refine R z (not_ z)<|Wn<|Wc z (fun hc2 => ?_) (fun hc2 => ?_)
 ·refine Ws<|Ra z<|Wn ?_
  obtain rfl := som (ifT hm7 hc2)
  exact Wr<|d_ hr z ⟨(bup (bup h1 h0) s8), z⟩
 refine Wk<|Ws<|Ra z<|Wn ?_
 obtain rfl := som (ifF hm7 hc2)
 exact Wr<|d_ hr z ⟨(bup (bup h1 h0) s8), z⟩
theorem W_w3t {x1 : Log} {x2 : Log} {res : Bool} (hm : i_b x1 x2 = some res) (hBw : B ≤ w0.z) (p1_0 : a_ w0 B (sl A0 N0 C0) x1.bytes) (p1_1 : inI x1.stored) (p2_0 : a_ w0 B (sl A6 N6 C6) x2.bytes) (p2_1 : inI x2.stored) : j_ prog 40 [(.agg #[sl A0 N0 C0, vI x1.stored]), (.agg #[sl A6 N6 C6, vI x2.stored])] w0 (Q11 w0 B res) := by
 unfold i_b at hm
 refine goF func40 z z (lb z) fun fn hr => Ws<|E z (fb z) ?_
 rintro _ w5 ⟨rfl, h6⟩
 have h1 := h6.below
 have hd : Blk w5 w0.z [sl A0 N0 C0, vI x1.stored] := h6.blk
 refine E z (fb z) ?_
 rintro _ we ⟨rfl, h7⟩
 have h0 := h7.below
 have h8 : Blk we w5.z [sl A6 N6 C6, vI x2.stored] := h7.blk
 refine Ra z<|Wn<|Wq<|Ws<|R z (fd b_h z) ?_
 have h9 := hd.e h0
 refine R z (l1 J_ z fid<|h9.at z)<|R z (fd b_h z)<|R z (l1 J_ z fid<|h8.at z) ?_
 have ha := (h1.ag B).e h0
 obtain ⟨rg, ef, hmb⟩ := bdS hm
 refine E z (fc call26 z<|W_w1l (B := B) ef (zt' hBw<|lt_ h1.s h0.s) (p1_0.g ha)<|p2_0.g ha) ?_
 rintro _ wh ⟨s2, rfl⟩
 refine R z (not_ z)<|Wn<|Wc z (fun hc3 => ?_) (fun hc3 => ?_)
 ·refine Ws<|Ra z<|Wn ?_
  obtain rfl := som (ifT hmb hc3)
  exact Wr<|d_ hr z ⟨(bup (bup h1 h0) s2), z⟩
 have hmc := ifF hmb hc3
 refine Wk<|Wq<|Ws<|R z (fd c_R z)<|R z (l1 g_3 z fid<|(h9.e s2).at z)<|R z (fd c_R z)<|R z (l1 g_3 z fid<|(h8.e s2).at z)<|R z (nq z z)<|Wn<|Wc z (fun hc4 => ?_) (fun hc4 => ?_)
 ·refine Ws<|Ra z<|Wn ?_
  obtain rfl := som (ifT hmc hc4)
  exact Wr<|d_ hr z ⟨(bup (bup h1 h0) s2), z⟩
 refine Wk<|Ws<|Ra z<|Wn ?_
 obtain rfl := som (ifF hmc hc4)
 exact Wr<|d_ hr z ⟨(bup (bup h1 h0) s2), z⟩
theorem W_w3u {x1 : C_} {x2 : C_} {res : Bool} (hm : f_8 x1 x2 = some res) (hBw : B ≤ w0.z) (p1_0 : a_ w0 B (sl A0 N0 C0) x1.registry.versions) (p1_1 : a_ w0 B (sl A1 N1 C1) x1.log.bytes) (p1_2 : inI x1.log.stored) (p2_0 : a_ w0 B (sl A6 N6 C6) x2.registry.versions) (p2_1 : a_ w0 B (sl AC NC CC) x2.log.bytes) (p2_2 : inI x2.log.stored) : j_ prog 13 [(.agg #[sl A0 N0 C0, sl A1 N1 C1, vI x1.log.stored]), (.agg #[sl A6 N6 C6, sl AC NC CC, vI x2.log.stored])] w0 (Q11 w0 B res) := by
 unfold f_8 at hm
 refine goF func13 z z (lb z) fun fn hr => Ws<|E z (fb z) ?_
 rintro _ w6 ⟨rfl, h7⟩
 have h2 := h7.below
 have hg : Blk w6 w0.z [sl A0 N0 C0, sl A1 N1 C1, vI x1.log.stored] := h7.blk
 refine E z (fb z) ?_
 rintro _ wh ⟨rfl, h8⟩
 have h1 := h8.below
 have h9 : Blk wh w6.z [sl A6 N6 C6, sl AC NC CC, vI x2.log.stored] := h8.blk
 refine Ra z<|Wn<|Wq<|Ws<|R z (fd c_u z) ?_
 have ha := hg.e h1
 refine R z (lN (vs := [sl A0 N0 C0]) d_k c_x z z fid<|ha.row 0 1 z)<|R z (fd c_u z)<|R z (lN (vs := [sl A6 N6 C6]) d_k c_x z z fid<|h9.row 0 1 z) ?_
 have h3 := (h2.ag B).e h1
 have hb := lt_ h2.s h1.s
 obtain ⟨rk, ei, hmc⟩ := bdS hm
 refine E z (fc call39 z<|W_w3s (B := B) (x1 := (⟨x1.registry.versions⟩ : V_)) (x2 := (⟨x2.registry.versions⟩ : V_)) ei (zt' hBw hb) (p1_0.g h3)<|p2_0.g h3) ?_
 rintro _ wl ⟨s0, rfl⟩
 refine R z (not_ z)<|Wn<|Wc z (fun hc4 => ?_) (fun hc4 => ?_)
 ·refine Ws<|Ra z<|Wn ?_
  obtain rfl := som (ifT hmc hc4)
  exact Wr<|d_ hr z ⟨(bup (bup h2 h1) s0), z⟩
 refine Wk<|Wq<|Ws<|R z (fd b_H z)<|R z (lN (vs := [sl A1 N1 C1, vI x1.log.stored]) c_Q c_5 z z fid<|(ha.e s0).row 1 2 z)<|R z (fd b_H z)<|R z (lN (vs := [sl AC NC CC, vI x2.log.stored]) c_Q c_5 z z fid<|(h9.e s0).row 1 2 z) ?_
 have hd := h3.e s0
 obtain ⟨rm, ej, hme⟩ := bdS (ifF hmc hc4)
 refine E z (fc call40 z<|W_w3t (B := B) (x1 := (⟨x1.log.bytes, x1.log.stored⟩ : Log)) (x2 := (⟨x2.log.bytes, x2.log.stored⟩ : Log)) ej (zt' hBw<|lt_ hb s0.s) (p1_1.g hd) p1_2 (p2_1.g hd) p2_2) ?_
 rintro _ wn ⟨sf, rfl⟩
 refine R z (not_ z)<|Wn<|Wc z (fun hc5 => ?_) (fun hc5 => ?_)
 ·refine Ws<|Ra z<|Wn ?_
  obtain rfl := som (ifT hme hc5)
  exact Wr<|d_ hr z ⟨(bup (bup (bup h2 h1) s0) sf), z⟩
 refine Wk<|Ws<|Ra z<|Wn ?_
 obtain rfl := som (ifF hme hc5)
 exact Wr<|d_ hr z ⟨(bup (bup (bup h2 h1) s0) sf), z⟩
theorem i_G {x1 : Int} {res : Str} (hm : d_j n x1 = some res) (hBw : B ≤ w0.z) (p1_0 : inI x1) : j_ prog 46 [vI x1] w0 (Q19 w0 B res) := by
 unfold d_j at hm
 refine goF func46 z z (lb z) fun fn hr => Ws<|Ra z<|Wn<|Wq<|Ws<|Rm z<|R z (c_F z z)<|Wn<|Wc z (fun hc1 => ?_) (fun hc1 => ?_)
 ·refine Ws<|Ra z<|Wn ?_
  obtain rfl := som (ifT hm hc1)
  exact Wr<|d_ hr z ⟨(br w0), z, (lb z)⟩
 refine Wk<|Ws<|Ra z<|Wn<|Wq ?_
 obtain ⟨uq, huc, hm5⟩ := bdS (ifF hm hc1)
 refine a_L (σ := Int × Str) (ρ := Str) (fun s a w => un2 (fun x0 x2 => Sat 20 [(0, vI x0), (3, Str.v x2)] a ∧ Below w0.z w0 w ∧ inI x0 ∧ x2.b.length ≤ LEN) s) (fun s a w => un2 (fun x0 x2 => Sat 20 [(3, Str.v x2)] a ∧ Below w0.z w0 w ∧ inI x0 ∧ x2.b.length ≤ LEN) s) (fun r ex a w => ex = .ret ∧ v_ prog fn (Q19 w0 B r) a w) huc ?_ ?_ ?_ ?_
 ·exact fun _ q => ⟨(q.k<|s2 z z), (br w0), p1_0, (lb z)⟩
 ·rintro ⟨x0, x2⟩ ar wd os ⟨hSe, s6, h7, h8⟩ hmf
  have hm9 := a_2 hmf
  refine Wu ?_ hSe
  refine Wq<|Ws<|Rm z<|R z (a_c z z)<|Wn<|Wc z (fun hc3 => ?_) (fun hc3 => ?_)
  ·refine Wk<|Wb<|Ws<|Rm z<|R z (f_u z z (by decide))<|R z (add_ z z)<|R z (b_3 d_3 d_5 z)<|E z (fS [(.tmp 11)] D_ z z z (a_p z) (lb z)<|lb z) ?_
   rintro _ wg ⟨rfl, h4⟩
   have ht : Blk wg wd.z [(vU (byteI (mkB (c_ 48 (a_C x0 10)))))] := h4.blk
   refine R z (e_r h_ d_9 d_5 z_5 z<|b_.rep<|b_r h4 a_z)<|Rm z ?_
   obtain ⟨xh, ea, hmi⟩ := bdS (ifT hm9 hc3)
   exact R z (b_R z z ea)<|Ra z<|Wn<|Wg<|Rm z<|R z (l_e z z (by decide))<|Ra z<|Wl (fun _ q => ⟨(c_b x0 10, xh), (som hmi).symm, ⟨(q.k<|s2 z z), (bup s6 h4.below), (l_2 _ _), (d_T ea)⟩⟩)
  exact We (fun a' ha' => a_F (som<|ifF hm9 hc3).symm ⟨(Sat.weaken ha'<|s1 z), s6, h7, h8⟩)
 ·rintro ⟨x0, x2⟩ aj wu rfl ⟨hSv, sk, h7, h8⟩
  have hml := elL hm5
  have hmm := a_2 hml
  revert aj
  refine Wo<|Ws<|Rm z ?_
  obtain ⟨xw, eb, hmn⟩ := bdS hmm
  refine R z (b_R z z eb)<|Ra z<|Wn ?_
  obtain rfl := som hmn
  exact Wr<|d_ hr z ⟨sk, z, (d_T eb)⟩
 rintro rx exy az w10 rfl ⟨rfl, hqo⟩
 have hmp := elR hm5
 obtain rfl := som hmp
 exact ⟨hqo, z⟩
def Q26 (w0 : World) (B : Zone) (A0 : Option Addr) (N0 C0 : Nat) (S1_0 : List Nat) (r : Int × (List UInt8)) (v : Value) (w' : World) : Prop := Chg (· ∈ S1_0) w0 w' ∧ un2 (fun r1 r2 => ∃ S1, (vI r1) = v ∧ inI r1 ∧ b_ w' S1 (sl A0 N0 C0) r2 ∧ S1.Nodup ∧ (∀ k ∈ S1, k ∈ S1_0 ∨ w0.z ≤ k)) r
theorem W_w1n {x1 : List UInt8} {S1_0 : List Nat} {x2 : Int} {res : Int × (List UInt8)} (hm : e_V n x1 x2 = some res) (hBw : B ≤ w0.z) (p1_0 : b_ w0 S1_0 (sl A0 N0 C0) x1) (p1_0n : S1_0.Nodup) (p1_0g : ∀ k ∈ S1_0, ¬ B k) (p2_0 : inI x2) : j_ prog 27 [sl A0 N0 C0, vI x2] w0 (Q26 w0 B A0 N0 C0 S1_0 res) := by
 unfold e_V at hm
 refine goF func27 z z (lb z) fun fn hr => Ws<|Ra z<|Wn<|Wq<|Ws<|Ra z<|Wn ?_
 obtain ⟨u16, huh, hma⟩ := bdS hm
 refine a_L (σ := (List UInt8) × Int × Int) (ρ := Int × (List UInt8)) (fun s a w => un3 (fun x5 x3 x4 => ∃  (S0 : List Nat), Sat 20 [(0, sl A0 N0 C0), (1, vI x3), (5, vI x4)] a ∧ Chg (· ∈ S1_0) w0 w ∧ b_ w S0 (sl A0 N0 C0) x5 ∧ S0.Nodup ∧ (∀ k ∈ S0, k ∈ S1_0 ∨ w0.z ≤ k) ∧ inI x3 ∧ inI x4) s) (fun s a w => un3 (fun x5 x3 x4 => ∃  (S0 : List Nat), Sat 20 [(0, sl A0 N0 C0), (1, vI x3)] a ∧ Chg (· ∈ S1_0) w0 w ∧ b_ w S0 (sl A0 N0 C0) x5 ∧ S0.Nodup ∧ (∀ k ∈ S0, k ∈ S1_0 ∨ w0.z ≤ k) ∧ inI x3 ∧ inI x4) s) (fun r ex a w => ex = .ret ∧ v_ prog fn (Q26 w0 B A0 N0 C0 S1_0 r) a w) huh ?_ ?_ ?_ ?_
 ·exact fun _ q => ⟨S1_0, (q.k<|s3 z z z), (cr S1_0 w0), p1_0, p1_0n, (io sr), p2_0, (ii z)⟩
 ·rintro ⟨x5, x3, x4⟩ a17 wb o18 ⟨S0, hSi, s7, h1, h2, h6, h8, hc⟩ hmj
  have hmd := c_9 hmj
  refine Wu ?_ hSi
  refine Wq<|Ws<|Rm z<|Rm z<|R z (lnR h_ z<|b_.rep h1)<|R z (lss z z)<|Wn<|Wc z (fun hc9 => ?_) (fun hc9 => ?_)
  ·refine Wk<|Wq<|Wb<|Ws<|Rm z<|Rm z<|Rm z<|R z (b_3 d_3 d_5 z) ?_
   obtain ⟨xk, ee, hml⟩ := bdS (ifT hmd hc9)
   refine RX z (d_1 (α := UInt8) h_ z_5 z z h1 ee) ?_
   rintro _ ⟨g19, hn, rfl⟩
   refine E0 (c_E (α := UInt8) z_5 z hn z z z ee h1 h2 a_z an_ K_) ?_
   rintro _ wm ⟨Sf, so, hp, hq, ht⟩
   refine Wn<|Wg<|Rm z<|R z (add_ z z)<|Ra z<|Wn<|Wg<|Rm z<|R z (add_ z z)<|Ra z<|Wl ?_
   have hg : ∀ k ∈ S0, k ∈ S1_0 ∨ w0.z ≤ k := or1 h6 (io sr) (l_ lr)
   have hu : ∀ k ∈ Sf, k ∈ S1_0 ∨ w0.z ≤ k := or2 ht hg an_ (l_ s7.s)
   have hv : Chg (· ∈ S1_0) w0 wb := cM (cr S1_0 w0) s7 (io sr)
   have hw : Chg (· ∈ S1_0) w0 wm := cM hv so hg
   exact fun _ q => ⟨(xk, c_ x3 1, c_ x4 1), (som hml).symm, ⟨Sf, (q.k<|s3 z z z), hw, hp, hq, hu, (iA _ _), (iA _ _)⟩⟩
  have hx : ∀ k ∈ S0, k ∈ S1_0 ∨ w0.z ≤ k := or1 h6 (io sr) (l_ lr)
  have hy : Chg (· ∈ S1_0) w0 wb := cM (cr S1_0 w0) s7 (io sr)
  exact We (fun a' ha' => a_F (som<|ifF hmd hc9).symm ⟨S0, (Sat.weaken ha'<|s2 z z), hy, h1, h2, hx, h8, hc⟩)
 ·rintro ⟨x5, x3, x4⟩ ar ws rfl ⟨S0, hS1a, sz, h1, h2, h6, h8, hc⟩
  have hm10 := elL hma
  have hm11 := c_9 hm10
  revert ar
  refine Wo<|Ws<|Rm z<|Ra z<|Wn ?_
  obtain rfl := som hm11
  have h12 : Chg (· ∈ S1_0) w0 ws := cM (cr S1_0 w0) sz (io sr)
  have h13 : ∀ k ∈ S0, k ∈ S1_0 ∨ w0.z ≤ k := or1 h6 (io sr) (l_ lr)
  exact Wr<|d_ hr z ⟨h12, S0, z, h8, h1, h2, h13⟩
 rintro r1b ex1c a1d w1e rfl ⟨rfl, hq14⟩
 have hm15 := elR hma
 obtain rfl := som hm15
 exact ⟨hq14, z⟩
def Q27 (w0 : World) (B : Zone) (A0 : Option Addr) (N0 C0 : Nat) (S1_0 : List Nat) (r : Int × (List Str)) (v : Value) (w' : World) : Prop := Chg (· ∈ S1_0) w0 w' ∧ un2 (fun r1 r2 => ∃ S1, (vI r1) = v ∧ inI r1 ∧ b_ w' S1 (sl A0 N0 C0) r2 ∧ S1.Nodup ∧ (∀ k ∈ S1, k ∈ S1_0 ∨ w0.z ≤ k)) r
theorem W_w1o {x1 : List Str} {S1_0 : List Nat} {x2 : Int} {res : Int × (List Str)} (hm : e_f n x1 x2 = some res) (hBw : B ≤ w0.z) (p1_0 : b_ w0 S1_0 (sl A0 N0 C0) x1) (p1_0n : S1_0.Nodup) (p1_0g : ∀ k ∈ S1_0, ¬ B k) (p2_0 : inI x2) : j_ prog 18 [sl A0 N0 C0, vI x2] w0 (Q27 w0 B A0 N0 C0 S1_0 res) := by
 unfold e_f at hm
 refine goF func18 z z (lb z) fun fn hr => Ws<|Ra z<|Wn<|Wq<|Ws<|Ra z<|Wn ?_
 obtain ⟨u1d, huj, hmb⟩ := bdS hm
 refine a_L (σ := (List Str) × Int × Int) (ρ := Int × (List Str)) (fun s a w => un3 (fun x5 x3 x4 => ∃  (S0 : List Nat), Sat 20 [(0, sl A0 N0 C0), (1, vI x3), (5, vI x4)] a ∧ Chg (· ∈ S1_0) w0 w ∧ b_ w S0 (sl A0 N0 C0) x5 ∧ S0.Nodup ∧ (∀ k ∈ S0, k ∈ S1_0 ∨ w0.z ≤ k) ∧ inI x3 ∧ inI x4) s) (fun s a w => un3 (fun x5 x3 x4 => ∃  (S0 : List Nat), Sat 20 [(0, sl A0 N0 C0), (1, vI x3)] a ∧ Chg (· ∈ S1_0) w0 w ∧ b_ w S0 (sl A0 N0 C0) x5 ∧ S0.Nodup ∧ (∀ k ∈ S0, k ∈ S1_0 ∨ w0.z ≤ k) ∧ inI x3 ∧ inI x4) s) (fun r ex a w => ex = .ret ∧ v_ prog fn (Q27 w0 B A0 N0 C0 S1_0 r) a w) huj ?_ ?_ ?_ ?_
 ·exact fun _ q => ⟨S1_0, (q.k<|s3 z z z), (cr S1_0 w0), p1_0, p1_0n, (io sr), p2_0, (ii z)⟩
 ·rintro ⟨x5, x3, x4⟩ a1e wc o1f ⟨S0, hSk, s6, h1, h2, h7, h8, hd⟩ hml
  have hme := c_9 hml
  refine Wu ?_ hSk
  refine Wq<|Ws<|Rm z<|Rm z<|R z (lnR a_1 z<|b_.rep h1)<|R z (lss z z)<|Wn<|Wc z (fun hc9 => ?_) (fun hc9 => ?_)
  ·refine Wk<|Wq<|Wb<|Ws<|Rm z<|Rm z<|Rm z ?_
   obtain ⟨r1g, em, hmn⟩ := bdS (ifT hme hc9)
   refine E z (fc call46 z<|i_G (B := B) em (zt' hBw s6.s) h8) ?_
   rintro _ wo ⟨sa, rfl, hp⟩
   obtain ⟨xq, ef, hmr⟩ := bdS hmn
   have hg := h1.e sa
   refine RX z (d_1 (α := Str) a_1 z_9 z z hg ef) ?_
   rintro _ ⟨g1h, ht, rfl⟩
   refine E0 (c_E (α := Str) z_9 z ht z z z ef hg h2 (d_0 hp) an_ K_) ?_
   rintro _ ws ⟨Sh, su, hv, hw, hx⟩
   refine Wn<|Wg<|Rm z<|R z (add_ z z)<|Ra z<|Wn<|Wg<|Rm z<|R z (add_ z z)<|Ra z<|Wl ?_
   have hi : ∀ k ∈ S0, k ∈ S1_0 ∨ w0.z ≤ k := or1 h7 (io sr) (l_ lr)
   have hy : ∀ k ∈ Sh, k ∈ S1_0 ∨ w0.z ≤ k := or2 hx hi an_ (l_ (lt_ s6.s sa.s))
   have hz : Chg (· ∈ S1_0) w0 wc := cM (cr S1_0 w0) s6 (io sr)
   have h10 : Chg (· ∈ S1_0) w0 wo := z_ hz sa
   have h11 : Chg (· ∈ S1_0) w0 ws := cM h10 su hi
   exact fun _ q => ⟨(xq, c_ x3 1, c_ x4 1), (som hmr).symm, ⟨Sh, (q.k<|s3 z z z), h11, hv, hw, hy, (iA _ _), (iA _ _)⟩⟩
  have h12 : ∀ k ∈ S0, k ∈ S1_0 ∨ w0.z ≤ k := or1 h7 (io sr) (l_ lr)
  have h13 : Chg (· ∈ S1_0) w0 wc := cM (cr S1_0 w0) s6 (io sr)
  exact We (fun a' ha' => a_F (som<|ifF hme hc9).symm ⟨S0, (Sat.weaken ha'<|s2 z z), h13, h1, h2, h12, h8, hd⟩)
 ·rintro ⟨x5, x3, x4⟩ a14 w15 rfl ⟨S0, hS1i, s16, h1, h2, h7, h8, hd⟩
  have hm17 := elL hmb
  have hm18 := c_9 hm17
  revert a14
  refine Wo<|Ws<|Rm z<|Ra z<|Wn ?_
  obtain rfl := som hm18
  have h19 : Chg (· ∈ S1_0) w0 w15 := cM (cr S1_0 w0) s16 (io sr)
  have h1a : ∀ k ∈ S0, k ∈ S1_0 ∨ w0.z ≤ k := or1 h7 (io sr) (l_ lr)
  exact Wr<|d_ hr z ⟨h19, S0, z, h8, h1, h2, h1a⟩
 rintro r1j ex1k a1l w1m rfl ⟨rfl, hq1b⟩
 have hm1c := elR hmb
 obtain rfl := som hm1c
 exact ⟨hq1b, z⟩
def Q28 (w0 : World) (B : Zone) (A0 : Option Addr) (N0 C0 : Nat) (S1_0 : List Nat) (r : Int × (List Int)) (v : Value) (w' : World) : Prop := Chg (· ∈ S1_0) w0 w' ∧ un2 (fun r1 r2 => ∃ S1, (vI r1) = v ∧ inI r1 ∧ b_ w' S1 (sl A0 N0 C0) r2 ∧ S1.Nodup ∧ (∀ k ∈ S1, k ∈ S1_0 ∨ w0.z ≤ k)) r
theorem W_w1p {x1 : List Int} {S1_0 : List Nat} {x2 : Int} {res : Int × (List Int)} (hm : e_W n x1 x2 = some res) (hBw : B ≤ w0.z) (p1_0 : b_ w0 S1_0 (sl A0 N0 C0) x1) (p1_0n : S1_0.Nodup) (p1_0g : ∀ k ∈ S1_0, ¬ B k) (p2_0 : inI x2) : j_ prog 132 [sl A0 N0 C0, vI x2] w0 (Q28 w0 B A0 N0 C0 S1_0 res) := by
 unfold e_W at hm
 refine goF func132 z z (lb z) fun fn hr => Ws<|Ra z<|Wn<|Wq<|Ws<|Ra z<|Wn ?_
 obtain ⟨u16, huh, hma⟩ := bdS hm
 refine a_L (σ := (List Int) × Int × Int) (ρ := Int × (List Int)) (fun s a w => un3 (fun x5 x3 x4 => ∃  (S0 : List Nat), Sat 19 [(0, sl A0 N0 C0), (1, vI x3), (5, vI x4)] a ∧ Chg (· ∈ S1_0) w0 w ∧ b_ w S0 (sl A0 N0 C0) x5 ∧ S0.Nodup ∧ (∀ k ∈ S0, k ∈ S1_0 ∨ w0.z ≤ k) ∧ inI x3 ∧ inI x4) s) (fun s a w => un3 (fun x5 x3 x4 => ∃  (S0 : List Nat), Sat 19 [(0, sl A0 N0 C0), (1, vI x3)] a ∧ Chg (· ∈ S1_0) w0 w ∧ b_ w S0 (sl A0 N0 C0) x5 ∧ S0.Nodup ∧ (∀ k ∈ S0, k ∈ S1_0 ∨ w0.z ≤ k) ∧ inI x3 ∧ inI x4) s) (fun r ex a w => ex = .ret ∧ v_ prog fn (Q28 w0 B A0 N0 C0 S1_0 r) a w) huh ?_ ?_ ?_ ?_
 ·exact fun _ q => ⟨S1_0, (q.k<|s3 z z z), (cr S1_0 w0), p1_0, p1_0n, (io sr), p2_0, (ii z)⟩
 ·rintro ⟨x5, x3, x4⟩ a17 wb o18 ⟨S0, hSi, s8, h1, h2, h6, h7, hc⟩ hmj
  have hmd := c_9 hmj
  refine Wu ?_ hSi
  refine Wq<|Ws<|Rm z<|Rm z<|R z (lnR B_ z<|b_.rep h1)<|R z (lss z z)<|Wn<|Wc z (fun hc9 => ?_) (fun hc9 => ?_)
  ·refine Wk<|Wq<|Wb<|Ws<|Rm z<|Rm z<|Rm z ?_
   obtain ⟨xk, ee, hml⟩ := bdS (ifT hmd hc9)
   refine RX z (d_1 (α := Int) B_ z_3 z z h1 ee) ?_
   rintro _ ⟨g19, hn, rfl⟩
   refine E0 (c_E (α := Int) z_3 z hn z z z ee h1 h2 (c_C h7) an_ K_) ?_
   rintro _ wm ⟨Sf, so, hp, hq, ht⟩
   refine Wn<|Wg<|Rm z<|R z (add_ z z)<|Ra z<|Wn<|Wg<|Rm z<|R z (add_ z z)<|Ra z<|Wl ?_
   have hg : ∀ k ∈ S0, k ∈ S1_0 ∨ w0.z ≤ k := or1 h6 (io sr) (l_ lr)
   have hu : ∀ k ∈ Sf, k ∈ S1_0 ∨ w0.z ≤ k := or2 ht hg an_ (l_ s8.s)
   have hv : Chg (· ∈ S1_0) w0 wb := cM (cr S1_0 w0) s8 (io sr)
   have hw : Chg (· ∈ S1_0) w0 wm := cM hv so hg
   exact fun _ q => ⟨(xk, c_ x3 1, c_ x4 1), (som hml).symm, ⟨Sf, (q.k<|s3 z z z), hw, hp, hq, hu, (iA _ _), (iA _ _)⟩⟩
  have hx : ∀ k ∈ S0, k ∈ S1_0 ∨ w0.z ≤ k := or1 h6 (io sr) (l_ lr)
  have hy : Chg (· ∈ S1_0) w0 wb := cM (cr S1_0 w0) s8 (io sr)
  exact We (fun a' ha' => a_F (som<|ifF hmd hc9).symm ⟨S0, (Sat.weaken ha'<|s2 z z), hy, h1, h2, hx, h7, hc⟩)
 ·rintro ⟨x5, x3, x4⟩ ar ws rfl ⟨S0, hS1a, sz, h1, h2, h6, h7, hc⟩
  have hm10 := elL hma
  have hm11 := c_9 hm10
  revert ar
  refine Wo<|Ws<|Rm z<|Ra z<|Wn ?_
  obtain rfl := som hm11
  have h12 : Chg (· ∈ S1_0) w0 ws := cM (cr S1_0 w0) sz (io sr)
  have h13 : ∀ k ∈ S0, k ∈ S1_0 ∨ w0.z ≤ k := or1 h6 (io sr) (l_ lr)
  exact Wr<|d_ hr z ⟨h12, S0, z, h7, h1, h2, h13⟩
 rintro r1b ex1c a1d w1e rfl ⟨rfl, hq14⟩
 have hm15 := elR hma
 obtain rfl := som hm15
 exact ⟨hq14, z⟩
def Q29 (w0 : World) (B : Zone) (A0 : Option Addr) (N0 C0 : Nat) (S1_0 : List Nat) (r : Int × (List e_)) (v : Value) (w' : World) : Prop := Chg (· ∈ S1_0) w0 w' ∧ un2 (fun r1 r2 => ∃ S1, (vI r1) = v ∧ inI r1 ∧ b_ w' S1 (sl A0 N0 C0) r2 ∧ S1.Nodup ∧ (∀ k ∈ S1, k ∈ S1_0 ∨ w0.z ≤ k)) r
theorem W_w3v {x1 : List e_} {S1_0 : List Nat} {x2 : Int} {res : Int × (List e_)} (hm : g_u n x1 x2 = some res) (hBw : B ≤ w0.z) (p1_0 : b_ w0 S1_0 (sl A0 N0 C0) x1) (p1_0n : S1_0.Nodup) (p1_0g : ∀ k ∈ S1_0, ¬ B k) (p2_0 : inI x2) : j_ prog 104 [sl A0 N0 C0, vI x2] w0 (Q29 w0 B A0 N0 C0 S1_0 res) := by
 unfold g_u at hm
 refine goF func104 z z (lb z) fun fn hr => Ws<|Ra z<|Wn<|Wq<|Ws<|Ra z<|Wn ?_
 obtain ⟨u7o, hu3u, hm1q⟩ := bdS hm
 refine a_L (σ := (List e_) × Int × Int) (ρ := Int × (List e_)) (fun s a w => un3 (fun xi xa x9 => ∃  (S0 : List Nat), Sat 72 [(0, sl A0 N0 C0), (1, vI xa), (5, vI x9)] a ∧ Chg (· ∈ S1_0) w0 w ∧ b_ w S0 (sl A0 N0 C0) xi ∧ S0.Nodup ∧ (∀ k ∈ S0, k ∈ S1_0 ∨ w0.z ≤ k) ∧ inI xa ∧ inI x9) s) (fun s a w => un3 (fun xi xa x9 => ∃  (S0 : List Nat), Sat 72 [(0, sl A0 N0 C0), (1, vI xa)] a ∧ Chg (· ∈ S1_0) w0 w ∧ b_ w S0 (sl A0 N0 C0) xi ∧ S0.Nodup ∧ (∀ k ∈ S0, k ∈ S1_0 ∨ w0.z ≤ k) ∧ inI xa ∧ inI x9) s) (fun r ex a w => ex = .ret ∧ v_ prog fn (Q29 w0 B A0 N0 C0 S1_0 r) a w) hu3u ?_ ?_ ?_ ?_
 ·exact fun _ q => ⟨S1_0, (q.k<|s3 z z z), (cr S1_0 w0), p1_0, p1_0n, (io sr), p2_0, (ii z)⟩
 ·rintro ⟨xi, xa, x9⟩ a7p w1r o7q ⟨S0, hS3v, st, hj, hu, hl, hv, h1s⟩ hm3w
  have hm1t := c_9 hm3w
  refine Wu ?_ hS3v
  refine Wq<|Ws<|Rm z<|Rm z<|R z (lnR X_ z<|b_.rep hj)<|R z (lss z z)<|Wn<|Wc z (fun hc1g => ?_) (fun hc1g => ?_)
  ·refine Wk<|Wq<|Wb<|Ws<|Rm z<|Rm z<|Rm z ?_
   obtain ⟨r3x, e3y, hm3z⟩ := bdS (ifT hm1t hc1g)
   refine E z (fc call46 z<|i_G (B := B) e3y (zt' hBw st.s) hv) ?_
   rintro _ w40 ⟨s1h, rfl, h41⟩
   obtain ⟨xb, e1u, hm42⟩ := bdS hm3z
   have h1v := hj.e s1h
   refine RX z (d_8 (α := e_) X_ t_ z z h1v e1u) ?_
   rintro _ ⟨g7r, h43, rfl⟩
   refine R z (fd c_s z) ?_
   obtain ⟨x7s, e44, hm45⟩ := bdS hm42
   refine E0 (h_g (α := e_) (v' := (⟨r3x, xb.kind, xb.size, xb.little, xb.bytes, xb.names, xb.tags, xb.kids⟩ : e_)) z_9 z h43 z z z z e1u e44 h1v hu (lb z) (fun _ _ _ h => o_j h h41)) ?_
   rintro _ w46 ⟨S1w, s1x, h1y, h47, h1z⟩
   refine Wn<|Ws<|Rm z<|R z (add_ z z)<|Ra z<|Wn<|Ws<|Rm z<|Rm z<|Rm z ?_
   obtain ⟨xc, e20, hm48⟩ := bdS hm45
   refine RX z (d_8 (α := e_) X_ t_ z z h1y e20) ?_
   rintro _ ⟨g7t, h49, rfl⟩
   refine R z (fd b_x z) ?_
   obtain ⟨x7u, e4a, hm4b⟩ := bdS hm48
   refine E0 (h_g (α := e_) (v' := (⟨xc.name, c_ xa 1, xc.size, xc.little, xc.bytes, xc.names, xc.tags, xc.kids⟩ : e_)) z_3 z h49 z z z z e20 e4a h1y h47 (lb z) (fun _ _ _ h => o_k h<|iA _ _)) ?_
   rintro _ w4c ⟨S21, s22, h23, h4d, h24⟩
   refine Wn<|Ws<|Rm z<|R z (add_ z z)<|Ra z<|Wn<|Ws<|Rm z<|Rm z<|Rm z ?_
   obtain ⟨xd, e25, hm4e⟩ := bdS hm4b
   refine RX z (d_8 (α := e_) X_ t_ z z h23 e25) ?_
   rintro _ ⟨g7v, h4f, rfl⟩
   refine R z (fd a_D z) ?_
   obtain ⟨x7w, e4g, hm4h⟩ := bdS hm4e
   refine E0 (h_g (α := e_) (v' := (⟨xd.name, xd.kind, c_ (c_ xa 1) 1, xd.little, xd.bytes, xd.names, xd.tags, xd.kids⟩ : e_)) z_3 z h4f z z z z e25 e4g h23 h4d (lb z) (fun _ _ _ h => o_l h<|iA _ _)) ?_
   rintro _ w4i ⟨S26, s27, h28, h4j, h29⟩
   refine Wn<|Ws<|Rm z<|R z (add_ z z)<|Ra z<|Wn<|Ws<|Rm z<|Rm z<|Rm z<|R z (f_u z z (by decide))<|R z (eql z z) ?_
   obtain ⟨xe, e2a, hm4k⟩ := bdS hm4h
   refine RX z (d_8 (α := e_) X_ t_ z z h28 e2a) ?_
   rintro _ ⟨g7x, h4l, rfl⟩
   refine R z (fd c_t z) ?_
   obtain ⟨x4m, e4n, hm4o⟩ := bdS hm4k
   refine E0 (h_g (α := e_) (v' := (⟨xe.name, xe.kind, xe.size, (a_C (c_ (c_ (c_ xa 1) 1) 1) 3) == 0, xe.bytes, xe.names, xe.tags, xe.kids⟩ : e_)) z_4 z h4l z z z z e2a e4n h28 h4j (lb z) (fun _ _ _ h => o_m h)) ?_
   rintro _ ww ⟨S2b, s2c, h2d, h4p, h2e⟩
   refine Wn<|Ws<|Rm z<|R z (add_ z z)<|Ra z<|Wn<|Ws<|Rm z<|Rm z ?_
   obtain ⟨x3, e2f, hm4q⟩ := bdS hm4o
   refine RX z (d_8 (α := e_) X_ t_ z z h2d e2f) ?_
   rintro _ ⟨g7y, h4r, rfl⟩
   obtain ⟨cs7z, S80, h4s, h4t, h1, h2g, h81, h4u⟩ := f_p h4r h2d h4p e2f
   obtain ⟨a82, n83, c84, a85, n86, c87, a88, n89, c8a, a8b, n8c, c8d, Sk, Sx, Sy, Sz, rfl, rfl, h4v, h4w, h4x, h4y, h2h, h2i, h2j⟩ := d_p h4t
   refine R z (fd a_R z)<|R z (l1 J_ z fid<|h4s.at (j := 4) z)<|Rm z ?_
   have h1i := lt_ st.s s1h.s
   have h1j := lt_ h1i s1x.s
   have h1k := lt_ h1j s22.s
   have h1l := lt_ h1k s27.s
   have h10 := lt_ h1l s2c.s
   have h1m := zt' hBw h10
   have h4z : ∀ k ∈ S0, ¬ B k := or1 hl p1_0g (r_ hBw)
   have h50 : ∀ k ∈ S1w, ¬ B k := or1 h1z h4z (r_ (zt' hBw h1i))
   have h51 : ∀ k ∈ S21, ¬ B k := or1 h24 h50 (r_ (zt' hBw h1j))
   have h52 : ∀ k ∈ S26, ¬ B k := or1 h29 h51 (r_ (zt' hBw h1k))
   have h2k : ∀ k ∈ S2b, ¬ B k := or1 h2e h52 (r_ (zt' hBw h1l))
   have h53 : ∀ k ∈ Sk, ¬ B k := or1 (fun k hk => .inl (h2g k (List.mem_append_left _ hk))) h2k (r_ h1m)
   obtain ⟨r8e, r2l, e54, hm55⟩ := a_y hm4q
   refine E z (fc call27 z<|W_w1n (B := B) e54 h1m h4y (nl_ h1) h53<|iA _ _) ?_
   rintro _ wm ⟨sf, S2m, rfl, h56, h57, h58, h11⟩
   have h59 : Chg (· ∈ (Sk ++ (Sx ++ (Sy ++ Sz)))) ww wm := cM (cr (Sk ++ (Sx ++ (Sy ++ Sz))) ww) sf (io (a_T sr))
   have h5a : ∀ k ∈ S2m, k ∈ (Sk ++ (Sx ++ (Sy ++ Sz))) ∨ ww.z ≤ k := or1 h11 (io (a_T sr)) (l_ lr)
   obtain ⟨S2n, h2o, h5b, h2p⟩ := h4u _ _ _ h59 (c_B (x := (⟨x3.name, x3.kind, x3.size, x3.little, r2l, x3.names, x3.tags, x3.kids⟩ : e_)) (S1 := S2m) (S2 := Sx) (S3 := Sy) (S4 := Sz) h4v h4w h4x h57 (h2h.c sf (ds (nmL (nj h1)))) (h2i.c sf (ds (nmL (nmR (nj h1))))) (h2j.c sf (ds (nmR (nmR (nj h1)))))) (na_ h58 (na_ (nl_ (nr_ h1)) (na_ (nl_ (nr_ (nr_ h1))) (nr_ (nr_ (nr_ h1))) (nj (nr_ (nr_ h1)))) (nmA (nmL (nj (nr_ h1))) (nmR (nj (nr_ h1))))) (nmA (b_o h11 (nmL (nj h1)) (b_.lt h2h) lr) (nmA (b_o h11 (nmL (nmR (nj h1))) (b_.lt h2i) lr) (b_o h11 (nmR (nmR (nj h1))) (b_.lt h2j) lr)))) (aa_ h5a (aa_ (io (a_5 (a_T sr))) (aa_ (io (a_5 (a_5 (a_T sr)))) (io (a_5 (a_5 (a_5 sr)))))))
   refine Ra z<|Wn<|Ws<|Rm z<|Rm z ?_
   obtain ⟨x4, e2q, hm5c⟩ := bdS hm55
   refine RX z (d_8 (α := e_) X_ t_ z z h2o e2q) ?_
   rintro _ ⟨g8f, h5d, rfl⟩
   obtain ⟨cs8g, S8h, h5e, h5f, h2, h2r, h8i, h5g⟩ := f_p h5d h2o h5b e2q
   obtain ⟨a8j, n8k, c8l, a8m, n8n, c8o, a8p, n8q, c8r, a8s, n8t, c8u, S12, Sn, S13, S14, rfl, rfl, h5h, h5i, h5j, h2s, h5k, h2t, h2u⟩ := d_p h5f
   refine R z (fd c_4 z)<|R z (l1 b_M z fid<|h5e.at (j := 5) z)<|Rm z ?_
   have h15 := lt_ h10 sf.s
   have h1n := zt' hBw h15
   have h2v : ∀ k ∈ S2n, ¬ B k := or1 h2p h2k (r_ h1m)
   have h5l : ∀ k ∈ Sn, ¬ B k := or1 (fun k hk => .inl ((fun k hk => h2r k (List.mem_append_right _ hk)) k (List.mem_append_left _ hk))) h2v (r_ h1n)
   obtain ⟨r8v, r2w, e5m, hm5n⟩ := a_y hm5c
   refine E z (fc call18 z<|W_w1o (B := B) e5m h1n h5k (nl_<|nr_ h2) h5l h56) ?_
   rintro _ wo ⟨sg, S2x, rfl, h5o, h5p, h5q, h16⟩
   have h5r : Chg (· ∈ (S12 ++ (Sn ++ (S13 ++ S14)))) wm wo := cM (cr (S12 ++ (Sn ++ (S13 ++ S14))) wm) sg (io (a_5 (a_T sr)))
   have h5s : ∀ k ∈ S2x, k ∈ (S12 ++ (Sn ++ (S13 ++ S14))) ∨ wm.z ≤ k := or1 h16 (io (a_5 (a_T sr))) (l_ lr)
   obtain ⟨S2y, h2z, h5t, h30⟩ := h5g _ _ _ h5r (c_B (x := (⟨x4.name, x4.kind, x4.size, x4.little, x4.bytes, r2w, x4.tags, x4.kids⟩ : e_)) (S1 := S12) (S2 := S2x) (S3 := S13) (S4 := S14) h5h h5i h5j (h2s.c sg (nmL (nj h2))) h5p (h2t.c sg (ds (nmL (nj (nr_ h2))))) (h2u.c sg (ds (nmR (nj (nr_ h2)))))) (na_ (nl_ h2) (na_ h5q (na_ (nl_ (nr_ (nr_ h2))) (nr_ (nr_ (nr_ h2))) (nj (nr_ (nr_ h2)))) (nmA (b_o h16 (nmL (nj (nr_ h2))) (b_.lt h2t) lr) (b_o h16 (nmR (nj (nr_ h2))) (b_.lt h2u) lr))) (nmA (ds (b_o h16 (ds (nmL (nj h2))) (b_.lt h2s) lr)) (nmA (nmL (nmR (nj h2))) (nmR (nmR (nj h2)))))) (aa_ (io (a_T sr)) (aa_ h5s (aa_ (io (a_5 (a_5 (a_T sr)))) (io (a_5 (a_5 (a_5 sr)))))))
   refine Ra z<|Wn<|Ws<|Rm z<|Rm z ?_
   obtain ⟨x5, e31, hm5u⟩ := bdS hm5n
   refine RX z (d_8 (α := e_) X_ t_ z z h2z e31) ?_
   rintro _ ⟨g8w, h5v, rfl⟩
   obtain ⟨cs8x, S8y, h5w, h5x, h7, h32, h8z, h5y⟩ := f_p h5v h2z h5t e31
   obtain ⟨a90, n91, c92, a93, n94, c95, a96, n97, c98, a99, n9a, c9b, S17, S18, Sp, S19, rfl, rfl, h5z, h60, h61, h33, h34, h62, h35⟩ := d_p h5x
   refine R z (fd a_O z)<|R z (l1 G_ z fid<|h5w.at (j := 6) z)<|Rm z ?_
   have h1a := lt_ h15 sg.s
   have h1o := zt' hBw h1a
   have h36 : ∀ k ∈ S2y, ¬ B k := or1 h30 h2v (r_ h1n)
   have h63 : ∀ k ∈ Sp, ¬ B k := or1 (fun k hk => .inl ((fun k hk => (fun k hk => h32 k (List.mem_append_right _ hk)) k (List.mem_append_right _ hk)) k (List.mem_append_left _ hk))) h36 (r_ h1o)
   obtain ⟨r9c, r37, e64, hm65⟩ := a_y hm5u
   refine E z (fc call132 z<|W_w1p (B := B) e64 h1o h62 (nl_<|nr_<|nr_ h7) h63 h5o) ?_
   rintro _ wq ⟨sh, S38, rfl, h66, h67, h68, h1b⟩
   have h69 : Chg (· ∈ (S17 ++ (S18 ++ (Sp ++ S19)))) wo wq := cM (cr (S17 ++ (S18 ++ (Sp ++ S19))) wo) sh (io (a_5 (a_5 (a_T sr))))
   have h6a : ∀ k ∈ S38, k ∈ (S17 ++ (S18 ++ (Sp ++ S19))) ∨ wo.z ≤ k := or1 h1b (io (a_5 (a_5 (a_T sr)))) (l_ lr)
   obtain ⟨S39, h3a, h6b, h3b⟩ := h5y _ _ _ h69 (c_B (x := (⟨x5.name, x5.kind, x5.size, x5.little, x5.bytes, x5.names, r37, x5.kids⟩ : e_)) (S1 := S17) (S2 := S18) (S3 := S38) (S4 := S19) h5z h60 h61 (h33.c sh (nmL (nmR (nj h7)))) (h34.c sh (nmL (nj (nr_ h7)))) h67 (h35.c sh (ds (nj (nr_ (nr_ h7)))))) (na_ (nl_ h7) (na_ (nl_ (nr_ h7)) (na_ h68 (nr_ (nr_ (nr_ h7))) (b_o h1b (nj (nr_ (nr_ h7))) (b_.lt h35) lr)) (nmA (ds (b_o h1b (ds (nmL (nj (nr_ h7)))) (b_.lt h34) lr)) (nmR (nj (nr_ h7))))) (nmA (nmL (nj h7)) (nmA (ds (b_o h1b (ds (nmL (nmR (nj h7)))) (b_.lt h33) lr)) (nmR (nmR (nj h7)))))) (aa_ (io (a_T sr)) (aa_ (io (a_5 (a_T sr))) (aa_ h6a (io (a_5 (a_5 (a_5 sr)))))))
   refine Ra z<|Wn<|Wg<|Rm z<|Rm z ?_
   obtain ⟨x6, e3c, hm6c⟩ := bdS hm65
   refine RX z (d_8 (α := e_) X_ t_ z z h3a e3c) ?_
   rintro _ ⟨g9d, h6d, rfl⟩
   obtain ⟨cs9e, S9f, h6e, h6f, h8, h3d, h9g, h6g⟩ := f_p h6d h3a h6b e3c
   obtain ⟨a9h, n9i, c9j, a9k, n9l, c9m, a9n, n9o, c9p, a9q, n9r, c9s, S1c, S1d, S1e, Sr, rfl, rfl, h6h, h6i, h6j, h3e, h3f, h3g, h6k⟩ := d_p h6f
   refine R z (fd a_8 z)<|R z (l1 G_ z fid<|h6e.at (j := 7) z)<|Rm z ?_
   have h1p := lt_ h1a sh.s
   have h3h := zt' hBw h1p
   have h6l : ∀ k ∈ S39, ¬ B k := or1 h3b h36 (r_ h1o)
   have h6m : ∀ k ∈ Sr, ¬ B k := or1 (fun k hk => .inl ((fun k hk => (fun k hk => (fun k hk => h3d k (List.mem_append_right _ hk)) k (List.mem_append_right _ hk)) k (List.mem_append_right _ hk)) k hk)) h6l (r_ h3h)
   obtain ⟨r6n, r3i, e6o, hm6p⟩ := a_y hm6c
   refine E z (fc call132 z<|W_w1p (B := B) e6o h3h h6k (nr_<|nr_<|nr_ h8) h6m h66) ?_
   rintro _ w3j ⟨ss, S3k, rfl, h6q, h6r, h6s, h1f⟩
   have h6t : Chg (· ∈ (S1c ++ (S1d ++ (S1e ++ Sr)))) wq w3j := cM (cr (S1c ++ (S1d ++ (S1e ++ Sr))) wq) ss (io (a_5 (a_5 (a_5 sr))))
   have h6u : ∀ k ∈ S3k, k ∈ (S1c ++ (S1d ++ (S1e ++ Sr))) ∨ wq.z ≤ k := or1 h1f (io (a_5 (a_5 (a_5 sr)))) (l_ lr)
   obtain ⟨S3l, h6v, h6w, h6x⟩ := h6g _ _ _ h6t (c_B (x := (⟨x6.name, x6.kind, x6.size, x6.little, x6.bytes, x6.names, x6.tags, r3i⟩ : e_)) (S1 := S1c) (S2 := S1d) (S3 := S1e) (S4 := S3k) h6h h6i h6j (h3e.c ss (nmR (nmR (nj h8)))) (h3f.c ss (nmR (nj (nr_ h8)))) (h3g.c ss (nj (nr_ (nr_ h8)))) h6r) (na_ (nl_ h8) (na_ (nl_ (nr_ h8)) (na_ (nl_ (nr_ (nr_ h8))) h6s (ds (b_o h1f (ds (nj (nr_ (nr_ h8)))) (b_.lt h3g) lr))) (nmA (nmL (nj (nr_ h8))) (ds (b_o h1f (ds (nmR (nj (nr_ h8)))) (b_.lt h3f) lr)))) (nmA (nmL (nj h8)) (nmA (nmL (nmR (nj h8))) (ds (b_o h1f (ds (nmR (nmR (nj h8)))) (b_.lt h3e) lr))))) (aa_ (io (a_T sr)) (aa_ (io (a_5 (a_T sr))) (aa_ (io (a_5 (a_5 (a_T sr)))) h6u)))
   refine Ra z<|Wn<|Wg<|Rm z<|R z (add_ z z)<|Ra z<|Wl ?_
   have h3m : ∀ k ∈ S0, k ∈ S1_0 ∨ w0.z ≤ k := or1 hl (io sr) (l_ lr)
   have h3n : ∀ k ∈ S1w, k ∈ S1_0 ∨ w0.z ≤ k := or1 h1z h3m (l_ h1i)
   have h3o : ∀ k ∈ S21, k ∈ S1_0 ∨ w0.z ≤ k := or1 h24 h3n (l_ h1j)
   have h3p : ∀ k ∈ S26, k ∈ S1_0 ∨ w0.z ≤ k := or1 h29 h3o (l_ h1k)
   have h3q : ∀ k ∈ S2b, k ∈ S1_0 ∨ w0.z ≤ k := or1 h2e h3p (l_ h1l)
   have h3r : ∀ k ∈ S2n, k ∈ S1_0 ∨ w0.z ≤ k := or1 h2p h3q (l_ h10)
   have h3s : ∀ k ∈ S2y, k ∈ S1_0 ∨ w0.z ≤ k := or1 h30 h3r (l_ h15)
   have h3t : ∀ k ∈ S39, k ∈ S1_0 ∨ w0.z ≤ k := or1 h3b h3s (l_ h1a)
   have h6y : ∀ k ∈ S3l, k ∈ S1_0 ∨ w0.z ≤ k := or1 h6x h3t (l_ h1p)
   have h6z : Chg (· ∈ S1_0) w0 w1r := cM (cr S1_0 w0) st (io sr)
   have h70 : Chg (· ∈ S1_0) w0 w40 := z_ h6z s1h
   have h71 : Chg (· ∈ S1_0) w0 w46 := cM h70 s1x h3m
   have h72 : Chg (· ∈ S1_0) w0 w4c := cM h71 s22 h3n
   have h73 : Chg (· ∈ S1_0) w0 w4i := cM h72 s27 h3o
   have h74 : Chg (· ∈ S1_0) w0 ww := cM h73 s2c h3p
   have h75 : ∀ k ∈ Sk, k ∈ S1_0 ∨ w0.z ≤ k := or1 (fun k hk => .inl (h2g k (List.mem_append_left _ hk))) h3q (l_ h10)
   have h76 : Chg (· ∈ S1_0) w0 wm := cM h74 sf h75
   have h77 : ∀ k ∈ Sn, k ∈ S1_0 ∨ w0.z ≤ k := or1 (fun k hk => .inl ((fun k hk => h2r k (List.mem_append_right _ hk)) k (List.mem_append_left _ hk))) h3r (l_ h15)
   have h78 : Chg (· ∈ S1_0) w0 wo := cM h76 sg h77
   have h79 : ∀ k ∈ Sp, k ∈ S1_0 ∨ w0.z ≤ k := or1 (fun k hk => .inl ((fun k hk => (fun k hk => h32 k (List.mem_append_right _ hk)) k (List.mem_append_right _ hk)) k (List.mem_append_left _ hk))) h3s (l_ h1a)
   have h7a : Chg (· ∈ S1_0) w0 wq := cM h78 sh h79
   have h7b : ∀ k ∈ Sr, k ∈ S1_0 ∨ w0.z ≤ k := or1 (fun k hk => .inl ((fun k hk => (fun k hk => (fun k hk => h3d k (List.mem_append_right _ hk)) k (List.mem_append_right _ hk)) k (List.mem_append_right _ hk)) k hk)) h3t (l_ h1p)
   have h7c : Chg (· ∈ S1_0) w0 w3j := cM h7a ss h7b
   exact fun _ q => ⟨(((((x4m.set (x9).toNat (⟨x3.name, x3.kind, x3.size, x3.little, r2l, x3.names, x3.tags, x3.kids⟩ : e_)).set (x9).toNat (⟨x4.name, x4.kind, x4.size, x4.little, x4.bytes, r2w, x4.tags, x4.kids⟩ : e_)).set (x9).toNat (⟨x5.name, x5.kind, x5.size, x5.little, x5.bytes, x5.names, r37, x5.kids⟩ : e_)).set (x9).toNat (⟨x6.name, x6.kind, x6.size, x6.little, x6.bytes, x6.names, x6.tags, r3i⟩ : e_)), r6n, c_ x9 1), (som hm6p).symm, ⟨S3l, (q.k<|s3 z z z), h7c, h6v, h6w, h6y, h6q, (iA _ _)⟩⟩
  have h7d : ∀ k ∈ S0, k ∈ S1_0 ∨ w0.z ≤ k := or1 hl (io sr) (l_ lr)
  have h7e : Chg (· ∈ S1_0) w0 w1r := cM (cr S1_0 w0) st (io sr)
  exact We (fun a' ha' => a_F (som<|ifF hm1t hc1g).symm ⟨S0, (Sat.weaken ha'<|s2 z z), h7e, hj, hu, h7d, hv, h1s⟩)
 ·rintro ⟨xi, xa, x9⟩ a7f w7g rfl ⟨S0, hS9t, s7h, hj, hu, hl, hv, h1s⟩
  have hm7i := elL hm1q
  have hm7j := c_9 hm7i
  revert a7f
  refine Wo<|Ws<|Rm z<|Ra z<|Wn ?_
  obtain rfl := som hm7j
  have h7k : Chg (· ∈ S1_0) w0 w7g := cM (cr S1_0 w0) s7h (io sr)
  have h7l : ∀ k ∈ S0, k ∈ S1_0 ∨ w0.z ≤ k := or1 hl (io sr) (l_ lr)
  exact Wr<|d_ hr z ⟨h7k, S0, z, hv, hj, hu, h7l⟩
 rintro r9u ex9v a9w w9x rfl ⟨rfl, hq7m⟩
 have hm7n := elR hm1q
 obtain rfl := som hm7n
 exact ⟨hq7m, z⟩
def Q30 (w0 : World) (B : Zone) (A0 : Option Addr) (N0 C0 : Nat) (S1_0 : List Nat) (r : Int × (List g_)) (v : Value) (w' : World) : Prop := Chg (· ∈ S1_0) w0 w' ∧ un2 (fun r1 r2 => ∃ S1, (vI r1) = v ∧ inI r1 ∧ b_ w' S1 (sl A0 N0 C0) r2 ∧ S1.Nodup ∧ (∀ k ∈ S1, k ∈ S1_0 ∨ w0.z ≤ k)) r
theorem W_w3w {x1 : List g_} {S1_0 : List Nat} {x2 : Int} {res : Int × (List g_)} (hm : g_S n x1 x2 = some res) (hBw : B ≤ w0.z) (p1_0 : b_ w0 S1_0 (sl A0 N0 C0) x1) (p1_0n : S1_0.Nodup) (p1_0g : ∀ k ∈ S1_0, ¬ B k) (p2_0 : inI x2) : j_ prog 73 [sl A0 N0 C0, vI x2] w0 (Q30 w0 B A0 N0 C0 S1_0 res) := by
 unfold g_S at hm
 refine goF func73 z z (lb z) fun fn hr => Ws<|Ra z<|Wn<|Wq<|Ws<|Ra z<|Wn ?_
 obtain ⟨u1r, huo, hmc⟩ := bdS hm
 refine a_L (σ := (List g_) × Int × Int) (ρ := Int × (List g_)) (fun s a w => un3 (fun x5 x4 x3 => ∃  (S0 : List Nat), Sat 20 [(0, sl A0 N0 C0), (1, vI x4), (5, vI x3)] a ∧ Chg (· ∈ S1_0) w0 w ∧ b_ w S0 (sl A0 N0 C0) x5 ∧ S0.Nodup ∧ (∀ k ∈ S0, k ∈ S1_0 ∨ w0.z ≤ k) ∧ inI x4 ∧ inI x3) s) (fun s a w => un3 (fun x5 x4 x3 => ∃  (S0 : List Nat), Sat 20 [(0, sl A0 N0 C0), (1, vI x4)] a ∧ Chg (· ∈ S1_0) w0 w ∧ b_ w S0 (sl A0 N0 C0) x5 ∧ S0.Nodup ∧ (∀ k ∈ S0, k ∈ S1_0 ∨ w0.z ≤ k) ∧ inI x4 ∧ inI x3) s) (fun r ex a w => ex = .ret ∧ v_ prog fn (Q30 w0 B A0 N0 C0 S1_0 r) a w) huo ?_ ?_ ?_ ?_
 ·exact fun _ q => ⟨S1_0, (q.k<|s3 z z z), (cr S1_0 w0), p1_0, p1_0n, (io sr), p2_0, (ii z)⟩
 ·rintro ⟨x5, x4, x3⟩ a1s w2 o1t ⟨S0, hSp, s6, h1, h9, h7, ha, hd⟩ hmq
  have hme := c_9 hmq
  refine Wu ?_ hSp
  refine Wq<|Ws<|Rm z<|Rm z<|R z (lnR a_S z<|b_.rep h1)<|R z (lss z z)<|Wn<|Wc z (fun hcb => ?_) (fun hcb => ?_)
  ·refine Wk<|Wq<|Wb<|Wg<|Rm z<|Rm z ?_
   obtain ⟨x1u, ef, hmr⟩ := bdS (ifT hme hcb)
   refine RX z (d_8 (α := g_) a_S F_ z z h1 ef) ?_
   rintro _ ⟨g1v, ht, rfl⟩
   obtain ⟨cs1w, S8, hu, hv, hw, hg, h1x, hx⟩ := f_p ht h1 h9 ef
   obtain ⟨a1y, n1z, c20, S21, rfl, rfl, hy⟩ := o_n hv
   refine R z (fd a_j z)<|R z (l1 a_o z fid<|hu.at (j := 0) z)<|Rm z ?_
   have hh := zt' hBw s6.s
   have hz : ∀ k ∈ S0, ¬ B k := or1 h7 p1_0g (r_ hBw)
   have h10 : ∀ k ∈ S8, ¬ B k := or1 (fun k hk => .inl (hg k hk)) hz (r_ hh)
   obtain ⟨rs, ri, e11, hm12⟩ := a_y hmr
   refine E z (fc call104 z<|W_w3v (B := B) e11 hh hy hw h10 ha) ?_
   rintro _ wj ⟨sk, Sl, rfl, h13, h14, h15, h16⟩
   have h17 : Chg (· ∈ S8) w2 wj := cM (cr S8 w2) sk (io sr)
   have h18 : ∀ k ∈ Sl, k ∈ S8 ∨ w2.z ≤ k := or1 h16 (io sr) (l_ lr)
   obtain ⟨Sm, h19, h1a, h1b⟩ := hx _ _ _ h17 (i_R (x := (⟨ri⟩ : g_)) (S1 := Sl) h14) h15 h18
   refine Ra z<|Wn<|Wg<|Rm z<|R z (add_ z z)<|Ra z<|Wl ?_
   have hn : ∀ k ∈ S0, k ∈ S1_0 ∨ w0.z ≤ k := or1 h7 (io sr) (l_ lr)
   have h1c : ∀ k ∈ Sm, k ∈ S1_0 ∨ w0.z ≤ k := or1 h1b hn (l_ s6.s)
   have h1d : Chg (· ∈ S1_0) w0 w2 := cM (cr S1_0 w0) s6 (io sr)
   have h1e : ∀ k ∈ S8, k ∈ S1_0 ∨ w0.z ≤ k := or1 (fun k hk => .inl (hg k hk)) hn (l_ s6.s)
   have h1f : Chg (· ∈ S1_0) w0 wj := cM h1d sk h1e
   exact fun _ q => ⟨((x5.set (x3).toNat (⟨ri⟩ : g_)), rs, c_ x3 1), (som hm12).symm, ⟨Sm, (q.k<|s3 z z z), h1f, h19, h1a, h1c, h13, (iA _ _)⟩⟩
  have h1g : ∀ k ∈ S0, k ∈ S1_0 ∨ w0.z ≤ k := or1 h7 (io sr) (l_ lr)
  have h1h : Chg (· ∈ S1_0) w0 w2 := cM (cr S1_0 w0) s6 (io sr)
  exact We (fun a' ha' => a_F (som<|ifF hme hcb).symm ⟨S0, (Sat.weaken ha'<|s2 z z), h1h, h1, h9, h1g, ha, hd⟩)
 ·rintro ⟨x5, x4, x3⟩ a1i w1j rfl ⟨S0, hS22, s1k, h1, h9, h7, ha, hd⟩
  have hm1l := elL hmc
  have hm1m := c_9 hm1l
  revert a1i
  refine Wo<|Ws<|Rm z<|Ra z<|Wn ?_
  obtain rfl := som hm1m
  have h1n : Chg (· ∈ S1_0) w0 w1j := cM (cr S1_0 w0) s1k (io sr)
  have h1o : ∀ k ∈ S0, k ∈ S1_0 ∨ w0.z ≤ k := or1 h7 (io sr) (l_ lr)
  exact Wr<|d_ hr z ⟨h1n, S0, z, ha, h1, h9, h1o⟩
 rintro r23 ex24 a25 w26 rfl ⟨rfl, hq1p⟩
 have hm1q := elR hmc
 obtain rfl := som hm1q
 exact ⟨hq1p, z⟩
theorem W_w3x {x1 : V_} {S1_0 : List Nat} {x2 : Int} {res : Int × (List g_)} (hm : i_g n x1 x2 = some res) (hBw : B ≤ w0.z) (p1_0 : b_ w0 S1_0 (sl A0 N0 C0) x1.versions) (p1_0n : S1_0.Nodup) (p1_0g : ∀ k ∈ S1_0, ¬ B k) (p2_0 : inI x2) : j_ prog 44 [(.agg #[sl A0 N0 C0]), vI x2] w0 (Q30 w0 B A0 N0 C0 S1_0 res) := by
 unfold i_g at hm
 refine goF func44 z z (lb z) fun fn hr => Ws<|E z (fb z) ?_
 rintro _ w1 ⟨rfl, h2⟩
 have h0 := h2.below
 have h4 : Blk w1 w0.z [sl A0 N0 C0] := h2.blk
 refine Ra z<|Wn<|Ws<|R z (fd b_y z)<|R z (l1 b_G z fid<|h4.at z)<|Rm z ?_
 obtain ⟨rg, rh, e5, hm6⟩ := a_y hm
 refine E z (fc call73 z<|W_w3w (B := B) e5 (zt' hBw h0.s) (p1_0.e h0) p1_0n p1_0g p2_0) ?_
 rintro _ w7 ⟨s8, S3, rfl, h9, ha, hb, hc⟩
 refine Ra z<|Wn<|Ws<|Rm z<|Ra z<|Wn ?_
 obtain rfl := som hm6
 have hd : Chg (· ∈ S1_0) w0 w1 := z_ (cr S1_0 w0) h0
 have he : Chg (· ∈ S1_0) w0 w7 := cM hd s8 (io sr)
 have hf : ∀ k ∈ S3, k ∈ S1_0 ∨ w0.z ≤ k := or1 hc (io sr) (l_ h0.s)
 exact Wr<|d_ hr z ⟨he, S3, z, h9, ha, hb, hf⟩
theorem W_w3y {x1 : Log} {S1_0 : List Nat} {x2 : Int} {res : Int × (List UInt8)} (hm : i_d n x1 x2 = some res) (hBw : B ≤ w0.z) (p1_0 : b_ w0 S1_0 (sl A0 N0 C0) x1.bytes) (p1_0n : S1_0.Nodup) (p1_0g : ∀ k ∈ S1_0, ¬ B k) (p1_1 : inI x1.stored) (p2_0 : inI x2) : j_ prog 45 [(.agg #[sl A0 N0 C0, vI x1.stored]), vI x2] w0 (Q26 w0 B A0 N0 C0 S1_0 res) := by
 unfold i_d at hm
 refine goF func45 z z (lb z) fun fn hr => Ws<|E z (fb z) ?_
 rintro _ w1 ⟨rfl, h2⟩
 have h0 := h2.below
 have h4 : Blk w1 w0.z [sl A0 N0 C0, vI x1.stored] := h2.blk
 refine Ra z<|Wn<|Ws<|R z (fd b_h z)<|R z (l1 J_ z fid<|h4.at z)<|Rm z ?_
 obtain ⟨rg, rh, e5, hm6⟩ := a_y hm
 refine E z (fc call27 z<|W_w1n (B := B) e5 (zt' hBw h0.s) (p1_0.e h0) p1_0n p1_0g p2_0) ?_
 rintro _ w7 ⟨s8, S3, rfl, h9, ha, hb, hc⟩
 refine Ra z<|Wn<|Ws<|Rm z<|Ra z<|Wn ?_
 obtain rfl := som hm6
 have hd : Chg (· ∈ S1_0) w0 w1 := z_ (cr S1_0 w0) h0
 have he : Chg (· ∈ S1_0) w0 w7 := cM hd s8 (io sr)
 have hf : ∀ k ∈ S3, k ∈ S1_0 ∨ w0.z ≤ k := or1 hc (io sr) (l_ h0.s)
 exact Wr<|d_ hr z ⟨he, S3, z, h9, ha, hb, hf⟩
def Q31 (w0 : World) (B : Zone) (A0 : Option Addr) (N0 C0 : Nat) (S1_0 : List Nat) (A1 : Option Addr) (N1 C1 : Nat) (S1_1 : List Nat) (r : Int × (List g_) × (List UInt8)) (v : Value) (w' : World) : Prop := Chg (· ∈ (S1_0 ++ S1_1)) w0 w' ∧ un3 (fun r1 r2 r3 => ∃ S1 S2, (vI r1) = v ∧ inI r1 ∧ b_ w' S1 (sl A0 N0 C0) r2 ∧ S1.Nodup ∧ (∀ k ∈ S1, k ∈ S1_0 ∨ w0.z ≤ k) ∧ b_ w' S2 (sl A1 N1 C1) r3 ∧ S2.Nodup ∧ (∀ k ∈ S2, k ∈ S1_1 ∨ w0.z ≤ k)) r
theorem W_w3z {x1 : C_} {S1_0 : List Nat} {S1_1 : List Nat} {x2 : Int} {res : Int × (List g_) × (List UInt8)} (hm : f_a n x1 x2 = some res) (hBw : B ≤ w0.z) (p1_0 : b_ w0 S1_0 (sl A0 N0 C0) x1.registry.versions) (p1_0n : S1_0.Nodup) (p1_0g : ∀ k ∈ S1_0, ¬ B k) (p1_1 : b_ w0 S1_1 (sl A1 N1 C1) x1.log.bytes) (p1_1n : S1_1.Nodup) (p1_1g : ∀ k ∈ S1_1, ¬ B k) (p1_1d1 : ∀ k ∈ S1_1, k ∉ S1_0) (p1_2 : inI x1.log.stored) (p2_0 : inI x2) : j_ prog 17 [(.agg #[sl A0 N0 C0, sl A1 N1 C1, vI x1.log.stored]), vI x2] w0 (Q31 w0 B A0 N0 C0 S1_0 A1 N1 C1 S1_1 res) := by
 unfold f_a at hm
 refine goF func17 z z (lb z) fun fn hr => Ws<|E z (fb z) ?_
 rintro _ w2 ⟨rfl, h3⟩
 have h0 := h3.below
 have h4 : Blk w2 w0.z [sl A0 N0 C0, sl A1 N1 C1, vI x1.log.stored] := h3.blk
 refine Ra z<|Wn<|Ws<|R z (fd c_u z)<|R z (lN (vs := [sl A0 N0 C0]) d_k c_x z z fid<|h4.row 0 1 z)<|Rm z ?_
 obtain ⟨rm, rr, ea, hmb⟩ := a_y hm
 refine E z (fc call44 z<|W_w3x (B := B) (x1 := (⟨x1.registry.versions⟩ : V_)) ea (zt' hBw h0.s) (p1_0.e h0) p1_0n p1_0g p2_0) ?_
 rintro _ wc ⟨s1, S5, rfl, hd, he, hf, h6⟩
 refine Ra z<|Wn<|Ws<|R z (fd b_H z)<|R z (lN (vs := [sl A1 N1 C1, vI x1.log.stored]) c_Q c_5 z z fid<|(h4.c s1<|atp<|mnr<|b_.lt p1_0).row 1 2 z)<|Rm z ?_
 have h7 := lt_ h0.s s1.s
 obtain ⟨rs, rv, eg, hmh⟩ := a_y hmb
 refine E z (fc call45 z<|W_w3y (B := B) (x1 := (⟨x1.log.bytes, x1.log.stored⟩ : Log)) eg (zt' hBw h7) ((p1_1.e h0).c s1 p1_1d1) p1_1n p1_1g p1_2 hd) ?_
 rintro _ wi ⟨s8, S9, rfl, hj, hk, hl, hn⟩
 refine Ra z<|Wn<|Ws<|Rm z<|Ra z<|Wn ?_
 obtain rfl := som hmh
 have ho : Chg (· ∈ (S1_0 ++ S1_1)) w0 w2 := z_ (cr (S1_0 ++ S1_1) w0) h0
 have hp : Chg (· ∈ (S1_0 ++ S1_1)) w0 wc := cM ho s1 (io (a_T sr))
 have hq : Chg (· ∈ (S1_0 ++ S1_1)) w0 wi := cM hp s8 (io (a_5 sr))
 have ht : ∀ k ∈ S5, k ∈ S1_0 ∨ w0.z ≤ k := or1 h6 (io sr) (l_ h0.s)
 have hu : ∀ k ∈ S9, k ∈ S1_1 ∨ w0.z ≤ k := or1 hn (io sr) (l_ h7)
 exact Wr<|d_ hr z ⟨hq, S5, S9, z, hj, (he.c s8<|b_o h6 (ds p1_1d1) (b_.lt p1_1) h0.s), hf, ht, hk, hl, hu⟩
theorem W_w1q {x1 : List Str} {x2 : Int} {res : Int} (hm : d_J n x1 x2 = some res) (hBw : B ≤ w0.z) (p1_0 : a_ w0 B (sl A0 N0 C0) x1) (p2_0 : inI x2) : j_ prog 19 [sl A0 N0 C0, vI x2] w0 (Q0 w0 B res) := by
 unfold d_J at hm
 refine goF func19 z z (lb z) fun fn hr => Ws<|Ra z<|Wn<|Wq<|Ws<|Ra z<|Wn ?_
 obtain ⟨up, hub, hm5⟩ := bdS hm
 refine Wf (σ := Int) (ρ := Int) (fun (k6 : Nat) (x0 : Int) a w => Sat 22 [(0, sl A0 N0 C0), (1, vI x0), (5, (vI ((k6 : Nat) : Int)))] a ∧ Below w0.z w0 w ∧ inI x0) (fun (x0 : Int) a w => Sat 22 [(1, vI x0)] a ∧ Below w0.z w0 w ∧ inI x0) (fun r ex a w => ex = .ret ∧ v_ prog fn (Q0 w0 B r) a w) hub ?_ ?_ ?_ ?_ ?_
 ·exact fun _ q => ⟨(q.k<|s3 z z z), (br w0), p2_0⟩
 ·rintro k6 x0 aq wr os hk7 ⟨hSc, s2, h1⟩ hmd
  refine Wu ?_ hSc
  refine Wq<|Ws<|Rm z<|Rm z<|R z (lnR a_1 z<|p1_0.e s2)<|R z (lss z z)<|Wn<|Wc z (fun _ => ?_) (fun hc => (R_ hk7 hc).elim)
  refine Wk<|Wq<|Wb<|Wq<|Wq (Wd (X := noX) 0 (.rd 0 (.rd 1 (.rd 2 (.rd 3 (.rd 4 (.ef 5 (.rd 6 .done))))))) mo (by kernel_rfl) fun wt s4 _ => dR z z (mv z)<|dR z z (mv z) ?_)
  obtain ⟨xu, ee, hmf⟩ := bdS hmd
  refine dRX z z (at_ (α := Str) a_1 z_9 z z z (p1_0.g<|(s2.ag B).e s4) ee) ?_
  rintro _ ⟨bv, ow, csx, rfl, hg, hh, hy⟩
  obtain ⟨rfl, hz⟩ := b_J hh
  refine dR z z (l1 g_9 z fid<|hg.at0 z)<|dR z z (mv z) ?_
  obtain ⟨r10, ei, hm8⟩ := bdS hmf
  refine dE z z (fc call46 z<|i_G (B := B) ei (zt' hBw<|lt_ s2.s s4.s) h1) (.inr fun _ _ h => A_<|h.1) ?_
  rintro _ w11 ⟨s9, rfl, h12⟩
  refine dR z z (h_p z z)<|pD<|Wo<|Wc z (fun hc3 => ?_) (fun hc3 => ?_)
  ·exact Ws<|Ra z<|Wn<|Wr<|rtO<|qL (som<|ifT hm8 hc3).symm<|d_ hr z ⟨(bup (bup s2 s4) s9), z, (ii z)⟩
  exact Wk<|Wg<|Rm z<|R z (add_ z z)<|Ra z<|Wn<|Wg<|Rm z<|R z (inc_ hk7 (lt_ (a_.len p1_0) H_) z z)<|Ra z<|Wl (fun _ q => ⟨c_ x0 1, (som<|ifF hm8 hc3).symm, ⟨(q.k<|s3 z z z), (bup (bup s2 s4) s9), (iA _ _)⟩⟩)
 ·rintro x0 a13 w14 ⟨hSj, sa, h1⟩
  refine Wu ?_ hSj
  refine Wq<|Ws<|Rm z<|Rm z<|R z (lnR a_1 z<|p1_0.e sa)<|R z (lss z z)<|Wn<|Wc z (fun hc => (S_ hc).elim) (fun _ => ?_)
  exact We (fun a' ha' => ⟨rfl, ⟨(Sat.weaken ha'<|s1 z), sa, h1⟩⟩)
 ·rintro x0 ak w15 rfl ⟨hS16, sm, h1⟩
  have hml := elL hm5
  revert ak
  refine Wo<|Ws<|Rm z<|Ra z<|Wn ?_
  obtain rfl := som hml
  exact Wr<|d_ hr z ⟨sm, z, h1⟩
 rintro r17 ex18 a19 w1a rfl ⟨rfl, hqn⟩
 have hmo := elR hm5
 obtain rfl := som hmo
 exact ⟨hqn, z⟩
def n_S (w0 : World) (B : Zone) (r : Bool) (v : Value) (w' : World) : Prop := Bw w0 w' ∧ (fun r1 => (vB r1) = v) r
theorem n_T {x1 : C_} {res : Bool} (hm : g_U n x1 = some res) (hBw : B ≤ w0.z) (hG : Gl w0 B) (p1_0 : a_ w0 B (sl A0 N0 C0) x1.registry.versions) (p1_1 : a_ w0 B (sl A1 N1 C1) x1.log.bytes) (p1_2 : inI x1.log.stored) : j_ prog 8 [(.agg #[sl A0 N0 C0, sl A1 N1 C1, vI x1.log.stored])] w0 (n_S w0 B res) := by
 unfold g_U at hm
 refine goF func8 z z (lb z) fun fn hr => Ws<|E z (fb z) ?_
 rintro _ w2r ⟨rfl, h1s⟩
 have ha := h1s.below
 have hp : Blk w2r w0.z [sl A0 N0 C0, sl A1 N1 C1, vI x1.log.stored] := h1s.blk
 refine Ra z<|Wn<|Ws<|Ra z<|Wn<|Ws<|R z (lN (vs := [sl A0 N0 C0, sl A1 N1 C1, vI x1.log.stored]) g_29 z_29 z z fid<|hp.row 0 3 z)<|Rm z ?_
 obtain ⟨r4n, e2s, hm1t⟩ := bdS hm
 refine E z (fc call9 z<|W_w1y (B := B) e2s (zt' hBw ha.s) (p1_0.e ha) (p1_1.e ha) p1_2<|ii z) ?_
 rintro _ w4o ⟨sc, rfl, h4p⟩
 refine Ra z<|Wn<|Wq<|Ws<|Rm z<|R z (lss z z)<|Wn<|Wc z (fun hc12 => ?_) (fun hc12 => ?_)
 ·refine Ws<|Ra z<|Wn ?_
  obtain rfl := som (ifT hm1t hc12)
  exact Wr<|d_ hr z ⟨(bup ha sc), z⟩
 refine Wk<|Ws ?_
 have h1u := hp.e sc
 refine R z (lN (vs := [sl A0 N0 C0, sl A1 N1 C1, vI x1.log.stored]) g_29 z_29 z z fid<|h1u.row 0 3 z) ?_
 have h13 := (ha.ag B).e sc
 have h1v := lt_ ha.s sc.s
 obtain ⟨r4q, e2t, hm2u⟩ := bdS (ifF hm1t hc12)
 refine E z (fc call11 z<|h_1 (B := B) e2t (zt' hBw h1v) (p1_0.g h13) (p1_1.g h13) p1_2) ?_
 rintro _ w2v ⟨sd, a4r, n4s, c4t, S4u, a4v, n4w, c4x, S4y, rfl, h2w, h2x, h2y, h4z, h50⟩
 obtain ⟨r51, e2z, hm30⟩ := bdS hm2u
 refine E z (fc call30 z<|W_w2s (B := w2v.z) e2z zr (b_.rep h2w) (b_.rep h2x) h2y) ?_
 rintro _ w52 ⟨se, a31, n32, c33, S53, rfl, hk, h54, h55⟩
 refine Ra z<|Wn<|Ws ?_
 have h1w := (h1u.e sd).e se
 refine R z (lN (vs := [sl A0 N0 C0, sl A1 N1 C1, vI x1.log.stored]) g_29 z_29 z z fid<|h1w.row 0 3 z) ?_
 have h14 := (h13.e sd).e se
 have hb := lt_ (lt_ h1v sd.s) se.s
 have h15 := zt' hBw hb
 obtain ⟨rs, e34, hm35⟩ := bdS hm30
 refine E z (fc call11 z<|h_1 (B := B) e34 h15 (p1_0.g h14) (p1_1.g h14) p1_2) ?_
 rintro _ w16 ⟨s8, av, nw, cx, S36, ay, nz, c10, S37, rfl, hq, ht, h17, h18, h1⟩
 refine E z (fa i_k) ?_
 rintro _ w38 ⟨rfl, h1x⟩
 have h4 := h1x.below
 have h39 : Blk w38 w16.z [sl none 0 0, sl none 0 0, vI 0] := h1x.blk
 refine E0 (fs (cur' := [sl av nw cx, sl ay nz c10, vI rs.log.stored]) b_P z z h39 z (lb z) (oA z) z) ?_
 rintro _ w56 ⟨h1y, s3a⟩
 have h6 := s3a.one
 refine Wn<|Ws<|R z (lN (vs := [sl av nw cx, sl ay nz c10, vI rs.log.stored]) c_p b_P z z fid<|h1y.row 0 3 z) ?_
 have h1z := (hq.e h4).c h6<|ds<|mnr<|b_.lt hq
 have h20 := (ht.e h4).c h6<|ds<|mnr<|b_.lt ht
 have hj := lt_ hb s8.s
 have h21 := zt' hBw hj
 have h22 : ∀ k ∈ [w16.z], ¬ B k := or0 (f_ lr)  (r_ h21)
 have h23 := ((((((hG.e ha).e sc).e sd).e se).e s8).e h4).c h6<|k_ h22
 have hu := lt_ h4.s h6.s
 obtain ⟨r57, e3b, hm3c⟩ := bdS hm35
 refine E z (fc call31 z<|W_w1k (B := w16.z) e3b (b_5 hu) (h23.mono h21) (or_ h1z<|b_.lt hq) (or_ h20<|b_.lt ht) h17) ?_
 rintro _ w24 ⟨s7, a3d, n3e, c3f, S3g, rfl, h11, h3h, hh⟩
 refine Ra z<|Wn<|Wq<|Ws<|Rm z<|Rm z ?_
 have h19 := (((hk.e s8).e h4).c h6<|ds<|mno (b_.lt hk) s8.s).e s7
 have h25 := lt_ (lt_ s8.s h4.s) h6.s
 have h1a := lt_ h25 s7.s
 obtain ⟨r58, e3i, hm26⟩ := bdS hm3c
 refine E z (fc call16 z<|h_5 (B := w24.z) e3i zr (b_.rep h11)<|a_.mono (or_ h19<|b_.lt hk)<|b_5 h1a) ?_
 rintro _ w59 ⟨s0, rfl⟩
 refine R z (not_ z)<|Wn<|Wc z (fun hc1b => ?_) (fun hc1b => ?_)
 ·refine Ws<|Ra z<|Wn ?_
  obtain rfl := som (ifT hm26 hc1b)
  exact Wr<|d_ hr z ⟨(bup (bup (bM (bup (bup (bup (bup (bup ha sc) sd) se) s8) h4) h6<|m1 hj) s7) s0), z⟩
 refine Wk<|Wq<|Wq (Wd (X := noX) 0 (.rd 0 (.rd 1 (.ef 2 (.ef 3 (.rd 4 .done))))) mo (by kernel_rfl) fun w5a s2 _ => ?_)
 have h27 := ((h1y.e s7).e s0).e s2
 refine dR z z (lN (vs := [sl av nw cx, sl ay nz c10, vI rs.log.stored]) c_p b_P z z fid<|h27.row 0 3 z) ?_
 have h1c := lt_ (lt_ sc.s sd.s) se.s
 have h28 := lt_ h1c s8.s
 have h29 := (((((h1w.e s8).e h4).c h6<|djs<|mm1 hp.lt h28).e s7).e s0).e s2
 refine dR z z (lN (vs := [sl A0 N0 C0, sl A1 N1 C1, vI x1.log.stored]) g_29 z_29 z z fid<|h29.row 0 3 z) ?_
 have h1d := (((((h14.e s8).e h4).c h6<|k_ h22).e s7).e s0).e s2
 have hn := lt_ (lt_ hj h4.s) h6.s
 have h2a := lt_ (lt_ (lt_ hn s7.s) s0.s) s2.s
 obtain ⟨r5b, e3j, hm3k⟩ := bdS (ifF hm26 hc1b)
 refine dE z z (fc call11 z<|h_1 (B := B) e3j (zt' hBw h2a) (p1_0.g h1d) (p1_1.g h1d) p1_2) (.inr fun _ _ h => A_<|h.1) ?_
 rintro _ w3l ⟨s3, a5c, n5d, c5e, S5f, a5g, n5h, c5i, S5j, rfl, h3m, h3n, h3o, h5k, h5l⟩
 have h2b := (((h1z.e s7).e s0).e s2).e s3
 have h2c := (((h20.e s7).e s0).e s2).e s3
 have h2d := lt_ (lt_ (lt_ (lt_ hu s7.s) s0.s) s2.s) s3.s
 obtain ⟨r5m, e3p, hm2e⟩ := bdS hm3k
 refine dE z z (fc call13 z<|W_w3u (B := w3l.z) e3p zr (a_.mono (or_ h2b<|b_.lt hq)<|b_5 h2d) (a_.mono (or_ h2c<|b_.lt ht)<|b_5 h2d) h17 (b_.rep h3m) (b_.rep h3n) h3o) (.inr fun _ _ h => A_<|h.1) ?_
 rintro _ w5n ⟨s5, rfl⟩
 refine dR z z (not_ z)<|pD<|Wo<|Wc z (fun hc1e => ?_) (fun hc1e => ?_)
 ·refine Ws<|Ra z<|Wn ?_
  obtain rfl := som (ifT hm2e hc1e)
  exact Wr<|d_ hr z ⟨(bup (bup (bup (bup (bup (bM (bup (bup (bup (bup (bup ha sc) sd) se) s8) h4) h6<|m1 hj) s7) s0) s2) s3) s5), z⟩
 refine Wk<|Ws<|Ra z<|Wn<|Ws<|R z (lN (vs := [sl av nw cx, sl ay nz c10, vI rs.log.stored]) c_p b_P z z fid<|((h27.e s3).e s5).row 0 3 z)<|Rm z ?_
 have h1f : ∀ k ∈ S36, ¬ B k := or0 (al_ h1)  (r_ h15)
 have h1g : ∀ k ∈ S37, ¬ B k := or0 (ar_ h1)  (r_ h15)
 have h2f := lt_ (lt_ h2a s3.s) s5.s
 obtain ⟨r3q, r5o, r5p, e3r, hm3s⟩ := O_ (ifF hm2e hc1e)
 refine E z (fc call17 z<|W_w3z (B := B) e3r (zt' hBw h2f) (h2b.e s5) (nl_ h18) h1f (h2c.e s5) (nr_ h18) h1g (ds<|nj h18) h17<|ii z) ?_
 rintro _ w1h ⟨s9, S5q, S5r, rfl, h5s, h5t, h5u, h5v, h5w, h5x, h5y⟩
 refine Ra z<|Wn<|Wq<|Wq ?_
 obtain ⟨u3t, hu2g, hm2h⟩ := bdS hm3s
 refine Wt (fun a w => ∃ (x1i : Bool), x1i = u3t ∧ Sat 69 [(1, pt w0.z), (4, sl a31 n32 c33), (6, sl a3d n3e c3f), (42, vB x1i)] a ∧ Below w1h.z w1h w) ?_ ?_
 ·refine Wg<|Rm z<|R z (lss z z)<|Rm z ?_
  rcases bs (decide (r3q < 0)) with hcl | hcl
  ·iterate 4 refine Nh z hcl ?_
   exact R z (pT z hcl z)<|Wl (fun _ q => ⟨true, som<|ifT hu2g hcl, (q.k<|s4 z z z z), (br w1h)⟩)
  refine Rh z hcl (mv z)<|Rh z hcl (mv z) ?_
  obtain ⟨r3u, e3v, hm3w⟩ := bdS (ifF hu2g hcl)
  refine Eg z z hcl z (fc call16 z<|h_5 (B := w24.z) e3v (b_5<|lt_ (lt_ (lt_ (lt_ s0.s s2.s) s3.s) s5.s) s9.s) (or_ (((((h11.e s0).e s2).e s3).e s5).c s9<|nmA (a_u hh (b_.lt hq) hu)<|a_u hh (b_.lt ht) hu)<|b_.lt h11)<|a_.mono (or_ (((((h19.e s0).e s2).e s3).e s5).c s9<|nmA (ds<|a_u (al_ h1) (b_.lt hk) lr)<|ds<|a_u (ar_ h1) (b_.lt hk) lr)<|b_.lt hk)<|b_5 h1a) ?_
  rintro _ w5z ⟨s3x, rfl⟩
  exact Rh z hcl (not_ z)<|R z (pF z hcl z)<|Wl (fun _ q => ⟨!r3u, som hm3w, (q.k<|s4 z z z z), s3x⟩)
 rintro a3y w60 ⟨x1i, rfl, hS61, sf⟩
 revert a3y
 refine Wo<|Wc z (fun hc1j => ?_) (fun hc1j => ?_)
 ·refine Ws<|Ra z<|Wn ?_
  obtain rfl := som (ifT hm2h hc1j)
  have h3z := bM (bup (bup (bup (bup (bup (bM (bup (bup (bup (bup (bup ha sc) sd) se) s8) h4) h6<|m1 hj) s7) s0) s2) s3) s5) s9<|aa_ (m_ (al_ h1) hb)<|m_ (ar_ h1) hb
  exact Wr<|d_ hr z ⟨(bup h3z sf), z⟩
 refine Wk<|Ws<|Ra z<|Wn<|Ws<|Rm z<|Rm z ?_
 have h1k : ∀ k ∈ S3g, ¬ B k := or0 hh  (r_ (zt' hBw hn))
 have h2i := lt_ (lt_ h2f s9.s) sf.s
 obtain ⟨r62, r63, e40, hm41⟩ := a_y (ifF hm2h hc1j)
 refine E z (fc call18 z<|W_w1o (B := B) e40 (zt' hBw h2i) ((((((h11.e s0).e s2).e s3).e s5).c s9<|nmA (a_u hh (b_.lt hq) hu)<|a_u hh (b_.lt ht) hu).e sf) h3h h1k<|ii z) ?_
 rintro _ w2j ⟨si, S64, rfl, h65, h1l, h66, h67⟩
 refine Ra z<|Wn<|Ws<|Ra z<|Wn<|Ws<|Rm z<|Rm z ?_
 obtain ⟨r68, e42, hm2k⟩ := bdS hm41
 refine E z (fc call19 z<|W_w1q (B := w2j.z) e42 zr (b_.rep h1l)<|ii z) ?_
 rintro _ w69 ⟨sg, rfl, h6a⟩
 refine Ra z<|Wn<|Wq<|Ws<|Rm z<|R z (lss z z)<|Wn<|Wc z (fun hc1m => ?_) (fun hc1m => ?_)
 ·refine Ws<|Ra z<|Wn ?_
  obtain rfl := som (ifT hm2k hc1m)
  have h43 := bM (bup (bup (bup (bup (bup (bM (bup (bup (bup (bup (bup ha sc) sd) se) s8) h4) h6<|m1 hj) s7) s0) s2) s3) s5) s9<|aa_ (m_ (al_ h1) hb)<|m_ (ar_ h1) hb
  exact Wr<|d_ hr z ⟨(bup (bM (bup h43 sf) si<|m_ hh hn) sg), z⟩
 have hm2l := ifF hm2k hc1m
 refine Wk<|Wq<|Ws<|Rm z<|Rm z<|R z (nq z z)<|Wn<|Wc z (fun hc1n => ?_) (fun hc1n => ?_)
 ·refine Ws<|Ra z<|Wn ?_
  obtain rfl := som (ifT hm2l hc1n)
  have h44 := bM (bup (bup (bup (bup (bup (bM (bup (bup (bup (bup (bup ha sc) sd) se) s8) h4) h6<|m1 hj) s7) s0) s2) s3) s5) s9<|aa_ (m_ (al_ h1) hb)<|m_ (ar_ h1) hb
  exact Wr<|d_ hr z ⟨(bup (bM (bup h44 sf) si<|m_ hh hn) sg), z⟩
 refine Wk<|Ws ?_
 have h45 := ((((h29.e s3).e s5).c s9<|atp<|nmA (ds<|p_ (al_ h1) hp.lt h1c)<|ds<|p_ (ar_ h1) hp.lt h1c).e sf).c si<|djs<|p_ hh hp.lt<|lt_ (lt_ h28 h4.s) h6.s
 refine R z (lN (vs := [sl A0 N0 C0, sl A1 N1 C1, vI x1.log.stored]) g_29 z_29 z z fid<|(h45.e sg).row 0 3 z) ?_
 have h2m := (((((h1d.e s3).e s5).c s9<|nmA (k_ h1f)<|k_ h1g).e sf).c si<|k_ h1k).e sg
 have h2n := lt_ (lt_ h2i si.s) sg.s
 obtain ⟨r6b, e46, hm47⟩ := bdS (ifF hm2l hc1n)
 refine E z (fc call11 z<|h_1 (B := B) e46 (zt' hBw h2n) (p1_0.g h2m) (p1_1.g h2m) p1_2) ?_
 rintro _ w48 ⟨sm, a6c, n6d, c6e, S6f, a6g, n6h, c6i, S6j, rfl, h49, h4a, h4b, h6k, h6l⟩
 obtain ⟨r6m, e4c, hm4d⟩ := bdS hm47
 refine E z (fc call31 z<|W_w1k (B := w48.z) e4c zr (((((((((((h23.e s7).e s0).e s2).e s3).e s5).c s9<|nmA (k_ h1f)<|k_ h1g).e sf).c si<|k_ h1k).e sg).e sm).mono<|zt' hBw<|lt_ h2n sm.s) (b_.rep h49) (b_.rep h4a) h4b) ?_
 rintro _ w4e ⟨so, a6n, n6o, c6p, S6q, rfl, h4f, h6r, h6s⟩
 refine Ra z<|Wn<|Wq<|Ws<|Rm z<|Rm z ?_
 have h4g := (((((h19.e s0).e s2).e s3).e s5).c s9<|nmA (ds<|a_u (al_ h1) (b_.lt hk) lr)<|ds<|a_u (ar_ h1) (b_.lt hk) lr).e sf
 obtain ⟨r6t, e4h, hm2o⟩ := bdS hm4d
 refine E z (fc call16 z<|h_5 (B := w4e.z) e4h zr (b_.rep h4f)<|a_.mono (or_ ((((h4g.c si<|ds<|a_u hh (b_.lt hk) h25).e sg).e sm).e so)<|b_.lt hk)<|b_5<|lt_ (lt_ (lt_ (lt_ (lt_ (lt_ (lt_ (lt_ (lt_ (lt_ h1a s0.s) s2.s) s3.s) s5.s) s9.s) sf.s) si.s) sg.s) sm.s) so.s) ?_
 rintro _ w6u ⟨sr, rfl⟩
 refine R z (not_ z)<|Wn<|Wc z (fun hc1o => ?_) (fun hc1o => ?_)
 ·refine Ws<|Ra z<|Wn ?_
  obtain rfl := som (ifT hm2o hc1o)
  have h4i := bM (bup (bup (bup (bup (bup (bM (bup (bup (bup (bup (bup ha sc) sd) se) s8) h4) h6<|m1 hj) s7) s0) s2) s3) s5) s9<|aa_ (m_ (al_ h1) hb)<|m_ (ar_ h1) hb
  exact Wr<|d_ hr z ⟨(bup (bup (bup (bup (bM (bup h4i sf) si<|m_ hh hn) sg) sm) so) sr), z⟩
 refine Wk<|Ws<|Ra z<|Wn<|Ws<|Rm z<|Rm z ?_
 obtain ⟨r6v, e4j, hm2p⟩ := bdS (ifF hm2o hc1o)
 refine E z (fc call19 z<|W_w1q (B := w2j.z) e4j (b_5<|lt_ (lt_ (lt_ sg.s sm.s) so.s) sr.s) (or_ ((((h1l.e sg).e sm).e so).e sr)<|b_.lt h1l)<|ii z) ?_
 rintro _ w6w ⟨s1p, rfl, h6x⟩
 refine Ra z<|Wn<|Wq<|Ws<|Rm z<|R z (lss z z)<|Wn<|Wc z (fun hc1q => ?_) (fun hc1q => ?_)
 ·refine Ws<|Ra z<|Wn ?_
  obtain rfl := som (ifT hm2p hc1q)
  have h4k := bM (bup (bup (bup (bup (bup (bM (bup (bup (bup (bup (bup ha sc) sd) se) s8) h4) h6<|m1 hj) s7) s0) s2) s3) s5) s9<|aa_ (m_ (al_ h1) hb)<|m_ (ar_ h1) hb
  exact Wr<|d_ hr z ⟨(bup (bup (bup (bup (bup (bM (bup h4k sf) si<|m_ hh hn) sg) sm) so) sr) s1p), z⟩
 have hm2q := ifF hm2p hc1q
 refine Wk<|Wq<|Ws<|Rm z<|Rm z<|R z (nq z z)<|Wn<|Wc z (fun hc1r => ?_) (fun hc1r => ?_)
 ·refine Ws<|Ra z<|Wn ?_
  obtain rfl := som (ifT hm2q hc1r)
  have h4l := bM (bup (bup (bup (bup (bup (bM (bup (bup (bup (bup (bup ha sc) sd) se) s8) h4) h6<|m1 hj) s7) s0) s2) s3) s5) s9<|aa_ (m_ (al_ h1) hb)<|m_ (ar_ h1) hb
  exact Wr<|d_ hr z ⟨(bup (bup (bup (bup (bup (bM (bup h4l sf) si<|m_ hh hn) sg) sm) so) sr) s1p), z⟩
 refine Wk<|Ws<|Ra z<|Wn ?_
 obtain rfl := som (ifF hm2q hc1r)
 have h4m := bM (bup (bup (bup (bup (bup (bM (bup (bup (bup (bup (bup ha sc) sd) se) s8) h4) h6<|m1 hj) s7) s0) s2) s3) s5) s9<|aa_ (m_ (al_ h1) hb)<|m_ (ar_ h1) hb
 exact Wr<|d_ hr z ⟨(bup (bup (bup (bup (bup (bM (bup h4m sf) si<|m_ hh hn) sg) sm) so) sr) s1p), z⟩
end Go.Vw

