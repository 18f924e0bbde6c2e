import Derived.Test.YtfdcdeahjejlmaaGreatDoorVqDW1
set_option linter.unusedVariables false
namespace Go.Vw
open Go.RowKit Dat Go.Proofs
open Go.Proofs.Tryz
open Go.Vw renaming h_l → Wq, h_m → Wg, WC.of_KC → Wo, f_j → Wl, i_H → Wc, i_F → Wr, j_M → Wu, j_B → pT, j_C → pF, j_O → fd, j_P → l1, j_Q → lN, h_K → mv, h_L → asg, j_D → lnR, j_X → lss, j_V → eql, j_R → ext_, j_F → bP, h_O → add_, j_n → inc_, j_Y → not_, j_E → at_, j_g → fc, f_q → fs, j_f → fb, j_e → fa, j_u → sr, j_z → cr, j_A → cM, j_y → bM, j_k → iS, j_j → iA, j_m → br, j_p → oA, j_q → bs, ltge → lg, inor → io, j_W → nq, j_S → lnT, j_T → sb_, j_s → ar_, j_r → al_, j_t → ds, k_M → m1, j_w → nr_, j_v → nl_, h_B → aa_, all_nil → an_, e_k → Wb, h_z → u8, i_M → pD, i_G → We, j_l → Wt, j_h → fS, e_j → or_, j_N → Wf, j_J → qL, i_L → Wd, h_D → fN, h_C → na_, j_x → nj, j_G → f0, f_t → rX, j_H → tl_, j_I → ic
variable {A0 : Option Addr} {N0 C0 : Nat} {B : Zone} {w0 : World} {AB : Option Addr} {A7 : Option Addr} {AA : Option Addr} {A8 : Option Addr} {NB CB : Nat} {N7 C7 : Nat} {NA CA : Nat} {N8 C8 : Nat} {A1 : Option Addr} {N1 C1 : Nat} {A3 : Option Addr} {A4 : Option Addr} {A2 : Option Addr} {A5 : Option Addr} {N3 C3 : Nat} {N4 C4 : Nat} {N2 C2 : Nat} {N5 C5 : Nat} {n : Nat} {AE : Option Addr} {NE CE : Nat} {A6 : Option Addr} {N6 C6 : Nat} {AC : Option Addr} {NC CC : Nat} {A9 : Option Addr} {N9 C9 : Nat} {AG : Option Addr} {NG CG : Nat} {AD : Option Addr} {ND CD : Nat}
theorem T_w13 (ih : e_s n) : i_X (g_c n (a_d n)) := by
 obtain ⟨ih0, ih1, ih2, ih3, ih4⟩ := ih
 constructor
 intro A0 A3 A4 A2 A5 AF N0 C0 N3 C3 N4 C4 N2 C2 N5 C5 NF CF B x1 x2 x3 x4 x5 x6 res w0 hm hBw p1_0 p2_0 p2_1 p2_2 p2_4 p2_5 p2_6 p2_7 p3_0 p4_0 p5_0 p6_0
 unfold g_c at hm
 refine goF func170 z z (lb z) fun fn hr => Ws<|E z (fb z) ?_
 rintro _ w15 ⟨rfl, h23⟩
 have hd := h23.below
 have h1h : Blk w15 w0.z [sl A0 N0 C0] := h23.blk
 refine E z (fb z) ?_
 rintro _ wr ⟨rfl, h24⟩
 have hb := h24.below
 have h1i : Blk wr w15.z (vR x2 A3 N3 C3 A4 N4 C4 A2 N2 C2 A5 N5 C5) := h24.blk
 refine E z (fa a_f) ?_
 rintro _ w1 ⟨rfl, h25⟩
 have h5 := h25.below
 have hu : Blk w1 wr.z [vI 0, sl none 0 0, sl none 0 0] := h25.blk
 refine Ra z<|Ra z<|Wn<|Ws<|R z (bP (parts := []) (cs := [vI 0, sl none 0 0, sl none 0 0]) Y_ z z)<|E z (fa a_f) ?_
 rintro _ w4b ⟨rfl, h26⟩
 have h3 := h26.below
 have hv : Blk w4b w1.z [vI 0, sl none 0 0, sl none 0 0] := h26.blk
 refine E0 (fs (cur' := [vI 0, sl none 0 0, sl none 0 0]) k_ z z hv z (lb z) (oA z) z) ?_
 rintro _ w2 ⟨h4c, s4d⟩
 have h0 := s4d.one
 refine Wn<|Wq<|Ws<|Ra z<|Wn ?_
 obtain ⟨u6x, hu4e, hm27⟩ := bdS hm
 refine Wf (σ := Int × (List Val)) (ρ := Val × Int × Int) (fun (k1j : Nat) s a w => un2 (fun xc xp => ∃ a8 n9 ca S6, Sat 52 [(2, vI x3), (3, vI x4), (4, sl AF NF CF), (5, vI xc), (6, pt w0.z), (7, pt w15.z), (12, pt wr.z), (15, pt w1.z), (16, (vI ((k1j : Nat) : Int)))] a ∧ Chg (· ∈ [w1.z]) w2 w ∧ inI xc ∧ a_ w S6 (sl a8 n9 ca) xp ∧ S6.Nodup ∧ (∀ k ∈ S6, w2.z ≤ k) ∧ Blk w w1.z [vI 0, sl none 0 0, sl a8 n9 ca]) s) (fun s a w => un2 (fun xc xp => ∃ a8 n9 ca S6, Sat 52 [(5, vI xc), (12, pt wr.z), (15, pt w1.z)] a ∧ Chg (· ∈ [w1.z]) w2 w ∧ inI xc ∧ a_ w S6 (sl a8 n9 ca) xp ∧ S6.Nodup ∧ (∀ k ∈ S6, w2.z ≤ k) ∧ Blk w w1.z [vI 0, sl none 0 0, sl a8 n9 ca]) s) (fun r ex a w => ex = .ret ∧ v_ prog fn (Q17 w0 B r) a w) hu4e ?_ ?_ ?_ ?_ ?_
 ·exact fun _ q => ⟨none, 0, 0, [], (q.k<|s9 z z z z z z z z z), (cr [w1.z] w2), p6_0, onL, R_, an_, h4c⟩
 ·rintro k1j ⟨xc, xp⟩ a6y wg o6z hk16 ⟨a8, n9, ca, S6, hS4f, s4, hh, hi, hw, he, hx⟩ hm4g
  have hm4h := a_h hm4g
  refine Wu ?_ hS4f
  refine Wq<|Ws<|Rm z<|Rm z<|R z (lss z z)<|Wn<|Wc z (fun _ => ?_) (fun hc => (h_E hk16 hc).elim)
  refine Wk<|Wq<|Wb<|Wq ?_
  obtain ⟨u4i, hu28, hm4j⟩ := bdS hm4h
  refine Wt (fun a w => ∃ (xj : Int) (x17 : List UInt8) (x18 : List Val) (xs : Int) (x19 : Int), (xj, x17, x18, xs, x19) = u4i ∧ ∃ ay nz c10 Sk a11 n12 c13 Sl gq, Sat 52 [(2, vI x3), (3, vI x4), (4, sl AF NF CF), (6, pt w0.z), (7, pt w15.z), (12, pt wr.z), (15, pt w1.z), (16, (vI ((k1j : Nat) : Int))), (17, pt gq), (18, vI xs), (19, vI x19)] a ∧ Below wg.z wg w ∧ inI xj ∧ a_ w Sk (sl ay nz c10) x17 ∧ Sk.Nodup ∧ (∀ k ∈ Sk, wg.z ≤ k) ∧ a_ w Sl (sl a11 n12 c13) x18 ∧ Sl.Nodup ∧ (∀ k ∈ Sl, wg.z ≤ k) ∧ (∀ k ∈ Sl, k ∉ Sk) ∧ inI xs ∧ inI x19 ∧ Blk w gq [vI xj, sl ay nz c10, sl a11 n12 c13] ∧ wg.z ≤ gq ∧ (∀ k ∈ Sk, k ∉ [gq]) ∧ (∀ k ∈ Sl, k ∉ [gq])) ?_ ?_
  ·refine Wd (X := fun k => k ∈ ([] : List Nat) ∨ wg.z ≤ k) 0 (.rd 0 (.rd 1 (.rd 2 (.rd 3 (.rd 5 (.rd 6 (.br 4 (.br 7 (.rd 8 (.rd 9 (.rd 10 (.rd 11 (.ef 12 (.ef 13 (.rd 14 (.rd 15 .done)))))))) 12 (.ef 7 (.rd 8 (.rd 9 (.rd 10 (.rd 11 (.ef 13 (.rd 14 (.rd 15 .done))))))))) 12 (.ef 4 (.ef 7 (.rd 8 (.rd 9 (.rd 10 (.rd 11 (.ef 13 (.rd 14 (.rd 15 .done)))))))))))))))) mo (by kernel_rfl) fun w29 s7 _ => ?_
   have h2a := lt_ hb.s h5.s
   have h2b := mm1 h1h.lt h2a
   refine dR z z (lN (vs := [sl A0 N0 C0]) P_ D_ z z (b_O nm0<|Nat.lt_of_lt_of_le h1h.lt<|lt_ (lt_ (lt_ h2a h3.s) h0.s) s4.s)<|((((((h1h.e hb).e h5).e h3).c h0<|djs h2b).c s4<|djs h2b).e s7).row 0 1 z) ?_
   have h2c := mm1 h1i.lt h5.s
   refine dR z z (lN (vs := (vR x2 A3 N3 C3 A4 N4 C4 A2 N2 C2 A5 N5 C5)) K_ q_ z z (b_O nm0<|Nat.lt_of_lt_of_le h1i.lt<|lt_ (lt_ (lt_ h5.s h3.s) h0.s) s4.s)<|(((((h1i.e h5).e h3).c h0<|djs h2c).c s4<|djs h2c).e s7).row 0 8 z) ?_
   iterate 4 refine dR z z (mv z) ?_
   refine d_j ?_ ?_
   ·have h2d := lt_ (lt_ hd.s hb.s) h5.s
    have h2e : ∀ k ∈ [w1.z], ¬ B k := or0 (f_ lr)  (p_ (zt' hBw h2d))
    have ht := ((((((hd.ag B).e hb).e h5).e h3).c h0<|h_ h2e).c s4<|h_ h2e).e s7
    have h1k := lt_ (lt_ (lt_ (lt_ h2d h3.s) h0.s) s4.s) s7.s
    obtain ⟨r70, e4k, hm2f⟩ := bdS hu28
    refine dE z z (fc call201 z<|i_V (B := B) e4k (zt' hBw h1k) p2_0 p2_1 p2_2 (p2_4.g ht) (p2_5.g ht) (p2_6.g ht) (p2_7.g ht) p3_0<|ic (Nat.le_of_lt hk16)<|tl_ p4_0) (.inr fun _ _ h => z_<|h.1) ?_
    rintro _ w2g ⟨sf, rfl, h2h⟩
    refine d_j ?_ ?_
    ·have h2i := ht.e sf
     obtain ⟨r1a, r4l, r4m, e4n, hm4o⟩ := W_ hm2f
     refine dE z z (fc call147 z<|ih0.run (B := B) e4n (zt' hBw<|lt_ h1k sf.s) (p1_0.g h2i) h2h (p5_0.g h2i) hh) (.inr fun _ _ h => z_<|h.1) ?_
     rintro _ w2j ⟨s2k, a2l, n2m, c2n, S4p, a2o, n2p, c2q, S4q, rfl, h4r, h2r, h2s, h4s, h4t, h1l, h2t⟩
     refine dR z z (mv z) ?_
     iterate 3 refine dR z z (ext_ z z) ?_
     refine dE z z (fa a_f) (.inr fun _ _ h => z_<|h.2.below) ?_
     rintro _ w4u ⟨rfl, h2u⟩
     have h1m := h2u.below
     have h4v : Blk w4u w2j.z [vI 0, sl none 0 0, sl none 0 0] := h2u.blk
     have h1n := lt_ s7.s sf.s
     have h1o := m1<|lt_ h1n s2k.s
     refine dE0 z (fs (cur' := [vI r1a.number, sl a2l n2m c2n, sl a2o n2p c2q]) k_ z z h4v z (lb z) (oA z) z) (.inr fun _ _ h => c_3 (atp h1o) h.2) ?_
     rintro _ w71 ⟨h4w, s4x⟩
     have h1p := s4x.one
     refine dR z z (asg z)<|dR z z (asg z)<|pD ?_
     have h2v := mnr<|a_.lt h2r
     have h2w := mnr<|a_.lt h2s
     exact fun _ q => ⟨r1a.number, r1a.bytes, r1a.items, r4l, r4m, som hm4o, a2l, n2m, c2n, S4p, a2o, n2p, c2q, S4q, w2j.z, (q.k<|sc z<|sc z<|sc z<|sc z<|sc z<|sc z<|sc z<|sc z<|sc z<|sc z<|sc z sn), (bM (bup (bup (bup s7 sf) s2k) h1m) h1p h1o), h4r, ((h2r.e h1m).c h1p<|ds h2v), (nl_ h1l), (l_ (al_ h2t) h1n), ((h2s.e h1m).c h1p<|ds h2w), (nr_ h1l), (l_ (ar_ h2t) h1n), (ds<|nj h1l), h4s, h4t, h4w, (atp h1o), (ds h2v), (ds h2w)⟩
    refine dE z z (fa a_f) (.inr fun _ _ h => z_<|h.2.below) ?_
    rintro _ w4y ⟨rfl, h2x⟩
    have h1b := h2x.below
    have h1q : Blk w4y w2g.z [vI 0, sl none 0 0, sl none 0 0] := h2x.blk
    have h2y := (ht.e sf).e h1b
    obtain ⟨r1c, r4z, r50, e51, hm52⟩ := W_ hm2f
    refine dE z z (fc call147 z<|ih0.run (B := B) e51 (zt' hBw<|lt_ (lt_ h1k sf.s) h1b.s) (p1_0.g h2y) h2h (p5_0.g h2y) hh) (.inr fun _ _ h => z_<|h.1) ?_
    rintro _ w72 ⟨s2z, a30, n31, c32, S53, a33, n34, c35, S54, rfl, h55, h56, h57, h58, h59, h1r, h1d⟩
    refine dR z z (mv z) ?_
    iterate 3 refine dR z z (ext_ z z) ?_
    have h36 := lt_ s7.s sf.s
    have h1s := m1 h36
    refine dE0 z (fs (cur' := [vI r1c.number, sl a30 n31 c32, sl a33 n34 c35]) k_ z z (h1q.e s2z) z (lb z) (oA z) z) (.inr fun _ _ h => c_3 (atp h1s) h.2) ?_
    rintro _ w73 ⟨h5a, s5b⟩
    have h1t := s5b.one
    refine dR z z (asg z)<|dR z z (asg z)<|pD ?_
    have h37 := m_ (al_ h1d) h1q.lt lr
    have h38 := lt_ h36 h1b.s
    have h39 := m_ (ar_ h1d) h1q.lt lr
    exact fun _ q => ⟨r1c.number, r1c.bytes, r1c.items, r4z, r50, som hm52, a30, n31, c32, S53, a33, n34, c35, S54, w2g.z, (q.k<|sc z<|sc z<|sc z<|sc z<|sc z<|sc z<|sc z<|sc z<|sc z<|sc z<|sc z sn), (bM (bup (bup (bup s7 sf) h1b) s2z) h1t h1s), h55, (h56.c h1t h37), (nl_ h1r), (l_ (al_ h1d) h38), (h57.c h1t h39), (nr_ h1r), (l_ (ar_ h1d) h38), (ds<|nj h1r), h58, h59, h5a, (atp h1s), h37, h39⟩
   refine dE z z (fa a_f) (.inr fun _ _ h => z_<|h.2.below) ?_
   rintro _ w5c ⟨rfl, h3a⟩
   have h1e := h3a.below
   have h1u : Blk w5c w29.z [vI 0, sl none 0 0, sl none 0 0] := h3a.blk
   have h3b := lt_ (lt_ hd.s hb.s) h5.s
   have h3c : ∀ k ∈ [w1.z], ¬ B k := or0 (f_ lr)  (p_ (zt' hBw h3b))
   have h14 := (((((((hd.ag B).e hb).e h5).e h3).c h0<|h_ h3c).c s4<|h_ h3c).e s7).e h1e
   have h3d := lt_ (lt_ (lt_ (lt_ (lt_ h3b h3.s) h0.s) s4.s) s7.s) h1e.s
   obtain ⟨r74, e5d, hm5e⟩ := bdS hu28
   refine dE z z (fc call201 z<|i_V (B := B) e5d (zt' hBw h3d) p2_0 p2_1 p2_2 (p2_4.g h14) (p2_5.g h14) (p2_6.g h14) (p2_7.g h14) p3_0<|ic (Nat.le_of_lt hk16)<|tl_ p4_0) (.inr fun _ _ h => z_<|h.1) ?_
   rintro _ w75 ⟨sm, rfl, h5f⟩
   have h3e := h14.e sm
   obtain ⟨r1f, r5g, r5h, e5i, hm5j⟩ := W_ hm5e
   refine dE z z (fc call147 z<|ih0.run (B := B) e5i (zt' hBw<|lt_ h3d sm.s) (p1_0.g h3e) h5f (p5_0.g h3e) hh) (.inr fun _ _ h => z_<|h.1) ?_
   rintro _ w76 ⟨s3f, a3g, n3h, c3i, S5k, a3j, n3k, c3l, S5l, rfl, h5m, h5n, h5o, h5p, h5q, h1v, h1g⟩
   refine dR z z (mv z) ?_
   iterate 3 refine dR z z (ext_ z z) ?_
   have h1w := m1 s7.s
   refine dE0 z (fs (cur' := [vI r1f.number, sl a3g n3h c3i, sl a3j n3k c3l]) k_ z z ((h1u.e sm).e s3f) z (lb z) (oA z) z) (.inr fun _ _ h => c_3 (atp h1w) h.2) ?_
   rintro _ w77 ⟨h5r, s5s⟩
   have h1x := s5s.one
   refine dR z z (asg z)<|dR z z (asg z)<|pD ?_
   have h3m := m_ (al_ h1g) h1u.lt sm.s
   have h3n := lt_ (lt_ s7.s h1e.s) sm.s
   have h3o := m_ (ar_ h1g) h1u.lt sm.s
   exact fun _ q => ⟨r1f.number, r1f.bytes, r1f.items, r5g, r5h, som hm5j, a3g, n3h, c3i, S5k, a3j, n3k, c3l, S5l, w29.z, (q.k<|sc z<|sc z<|sc z<|sc z<|sc z<|sc z<|sc z<|sc z<|sc z<|sc z<|sc z sn), (bM (bup (bup (bup s7 h1e) sm) s3f) h1x h1w), h5m, (h5n.c h1x h3m), (nl_ h1v), (l_ (al_ h1g) h3n), (h5o.c h1x h3o), (nr_ h1v), (l_ (ar_ h1g) h3n), (ds<|nj h1v), h5p, h5q, h5r, (atp h1w), h3m, h3o⟩
  rintro a5t w3p ⟨xj, x17, x18, xs, x19, rfl, ay, nz, c10, Sk, a11, n12, c13, Sl, gq, hS78, so, h5u, h5v, h5w, h1y, h5x, h5y, h1z, h5z, h3q, h60, h61, h79, h7a, h7b⟩
  have hm3r := un5S hm4j
  revert a5t
  refine Wo<|Wq<|Ws<|Rm z<|R z (nq z z)<|Wn<|Wc z (fun hc20 => ?_) (fun hc20 => ?_)
  ·refine Ws<|R z (bP (parts := []) (cs := [vI 0, sl none 0 0, sl none 0 0]) Y_ z z)<|Rm z<|Rm z ?_
   have h3s := mmr hu.lt
   refine E0 (fs (cur' := [vI 0, sl none 0 0, sl none 0 0]) k_ z z ((((hu.e h3).c h0<|djs h3s).c s4<|djs h3s).e so) z (lb z) (oA z) z) ?_
   rintro _ w7c ⟨h62, s63⟩
   refine Ra z<|Ra z<|Wn ?_
   have h3t := lt_ hd.s hb.s
   have h3u := m1<|lt_ h3t h5.s
   exact Wr<|rtO<|qL (som<|ifT hm3r hc20).symm<|x_ hr (r_ y_ k_ z h62 z) z z ⟨(bM (bup (bM (bM (bup (bup (bup hd hb) h5) h3) h0 h3u) s4 h3u) so) s63.one<|m1 h3t), none, 0, 0, [], none, 0, 0, [], z, (ii z), onL, onL, h3q, h60, nd0, al0⟩
  refine Wk<|Ws<|R z (fd h_p z) ?_
  have h3v := hx.e so
  refine R z (l1 g_116 z fid<|h3v.at z)<|R z (lN (vs := [vI xj, sl ay nz c10, sl a11 n12 c13]) y_ k_ z z fid<|h61.row 0 3 z)<|E z (fS [(.tmp 45)] h_o z z z (a_x z) (lb z)<|lb z) ?_
  rintro _ w3w ⟨rfl, h3x⟩
  have hn := h3x.below
  have h64 : Blk w3w w3p.z [vI xj, sl ay nz c10, sl a11 n12 c13] := h3x.blk
  obtain ⟨x65, e66, hm67⟩ := bdS (ifF hm3r hc20)
  refine E z (b_b (α := Val) h_o e66 z z ((hi.e so).e hn) hw h64 (n_k (x := (⟨xj, x17, x18⟩ : Val)) (S1 := Sk) (S2 := Sl) h5u (h5v.e hn)<|h5x.e hn) (aa_ (U_ h1y (a_.lt hi) lr)<|U_ h1z (a_.lt hi) lr)<|na_ h5w h5y<|ds h5z) ?_
  rintro _ w68 ⟨S21, a3y, n3z, c40, rfl, s41, h69, h6a, h42⟩
  refine R z (fd h_p z) ?_
  have h43 := m_ he hv.lt h0.s
  refine E0 (fs (cur' := [vI 0, sl none 0 0, sl a3y n3z c40]) z_116 z z ((h3v.e hn).c s41<|djs h43) z (lb z) (oA z) z) ?_
  rintro _ w6b ⟨h6c, s6d⟩
  have h44 := s6d.one
  refine Wn<|Wg<|Rm z<|Ra z<|Wn<|Wg<|Rm z<|R z (inc_ hk16 (tl_ p4_0) z z)<|Ra z<|Wl ?_
  have h22 := lt_ h0.s s4.s
  have h6e : ∀ k ∈ S21, k ∉ [w1.z] := or2 h42 h43 (aa_ (m_ h1y hv.lt h22) (m_ h1z hv.lt h22)) (Q_ (f_ hv.lt) (lt_ (lt_ h22 so.s) hn.s))
  have h6f : ∀ k ∈ S21, w2.z ≤ k := or2 h42 he (aa_ (l_ h1y s4.s) (l_ h1z s4.s)) (a_Q (lt_ (lt_ s4.s so.s) hn.s))
  have h6g : Chg (· ∈ [w1.z]) w2 wg := cM (cr [w1.z] w2) s4 (io sr)
  have h6h : Chg (· ∈ [w1.z]) w2 w3p := E_ h6g so
  have h6i : Chg (· ∈ [w1.z]) w2 w3w := E_ h6h hn
  have h6j : ∀ k ∈ S6, k ∈ [w1.z] ∨ w2.z ≤ k := or0 he  (n_ lr)
  have h6k : Chg (· ∈ [w1.z]) w2 w68 := cM h6i s41 h6j
  have h6l : Chg (· ∈ [w1.z]) w2 w6b := cM h6k h44 (io sr)
  exact fun _ q => ⟨(xs, x65), (som hm67).symm, ⟨a3y, n3z, c40, S21, (q.k<|s9 z z z z z z z z z), h6l, h3q, (h69.c h44 h6e), h6a, h6f, h6c⟩⟩
 ·rintro ⟨xc, xp⟩ a7d w6m ⟨a8, n9, ca, S6, hS6n, s6o, hh, hi, hw, he, hx⟩
  refine Wu ?_ hS6n
  refine Wq<|Ws<|Rm z<|Rm z<|R z (lss z z)<|Wn<|Wc z (fun hc => (h_F hc).elim) (fun _ => ?_)
  have h6p : Chg (· ∈ [w1.z]) w2 w6m := cM (cr [w1.z] w2) s6o (io sr)
  exact We (fun a' ha' => ⟨rfl, ⟨a8, n9, ca, S6, (Sat.weaken ha'<|s3 z z z), h6p, hh, hi, hw, he, hx⟩⟩)
 ·rintro ⟨xc, xp⟩ a6q w7e rfl ⟨a8, n9, ca, S6, hS7f, s45, hh, hi, hw, he, hx⟩
  have hm6r := elL hm27
  have hm6s := a_h hm6r
  revert a6q
  refine Wo<|Ws<|R z (lN (vs := [vI 0, sl none 0 0, sl a8 n9 ca]) y_ k_ z z fid<|hx.row 0 3 z)<|Rm z ?_
  have h46 := mmr hu.lt
  refine E0 (fs (cur' := [vI 0, sl none 0 0, sl a8 n9 ca]) k_ z z (((hu.e h3).c h0<|djs h46).c s45<|djs h46) z (lb z) (oA z) z) ?_
  rintro _ w7g ⟨h6t, s6u⟩
  have h47 := s6u.one
  refine Ra z<|Ra z<|Wn ?_
  obtain rfl := som hm6s
  have h48 := lt_ hd.s hb.s
  have h49 := lt_ h48 h5.s
  have h4a := m1 h49
  exact Wr<|x_ hr (r_ y_ k_ z h6t z) z z ⟨(bM (bM (bM (bup (bup (bup hd hb) h5) h3) h0 h4a) s45 h4a) h47<|m1 h48), none, 0, 0, [], a8, n9, ca, S6, z, (ii z), onL, (hi.c h47<|m_ he hu.lt<|lt_ h3.s h0.s), hh, (ii z), (na_ R_ hw an_), (aa_ an_<|l_ he<|lt_ (lt_ h49 h3.s) h0.s)⟩
 rintro r7h ex7i a7j w7k rfl ⟨rfl, hq6v⟩
 have hm6w := elR hm27
 obtain rfl := som hm6w
 exact ⟨hq6v, z⟩
theorem T_w14 (ih : e_s n) : i_Y (g_d n (a_d n)) := by
 obtain ⟨ih0, ih1, ih2, ih3, ih4⟩ := ih
 constructor
 intro A0 A3 A4 A2 A5 A9 N0 C0 N3 C3 N4 C4 N2 C2 N5 C5 N9 C9 B x1 x2 x3 x4 res w0 hm hBw p1_0 p2_0 p2_1 p2_2 p2_4 p2_5 p2_6 p2_7 p3_0 p4_0
 unfold g_d at hm
 refine goF func171 z z (lb z) fun fn hr => Ws<|E z (fb z) ?_
 rintro _ wy ⟨rfl, hz⟩
 have hf := hz.below
 have h1k : Blk wy w0.z [sl A0 N0 C0] := hz.blk
 refine E z (fb z) ?_
 rintro _ wq ⟨rfl, h10⟩
 have h5 := h10.below
 have h1l : Blk wq wy.z (vR x2 A3 N3 C3 A4 N4 C4 A2 N2 C2 A5 N5 C5) := h10.blk
 refine E z (fa a_f) ?_
 rintro _ w1m ⟨rfl, h11⟩
 have h3 := h11.below
 have h6 : Blk w1m wq.z [vI 0, sl none 0 0, sl none 0 0] := h11.blk
 refine Ra z<|Ra z<|Wn<|Wq (Wd (X := noX) 0 (.rd 0 (.rd 1 (.rd 2 (.rd 3 (.rd 4 (.rd 5 (.rd 6 (.ef 7 (.rd 8 (.rd 9 (.rd 10 (.rd 11 (.rd 12 (.rd 13 (.rd 14 .done))))))))))))))) mo (by kernel_rfl) fun w2m s0 _ => ?_)
 have h12 := ((h1k.e h5).e h3).e s0
 refine dR z z (lN (vs := [sl A0 N0 C0]) P_ D_ z z fid<|h12.row 0 1 z)<|dR z z (fd a_5 z) ?_
 have h13 := (h1l.e h3).e s0
 refine dR z z (l1 H_ z fid<|h13.at z) ?_
 obtain ⟨x2n, e1n, hm1o⟩ := bdS hm
 have hh := (((hf.ag B).e h5).e h3).e s0
 refine dRX z z (at_ (α := Int) F_ z_3 z z z (p2_7.g hh) e1n) ?_
 rintro _ ⟨b2o, o2p, cs2q, rfl, h1p, h1q, h2r⟩
 obtain ⟨rfl, h1r⟩ := a_c h1q
 refine dR z z (l1 g_3 z fid<|h1p.at0 z)<|dR z z (mv z)<|dR z z (mv z) ?_
 have hi := lt_ hf.s h5.s
 have h14 := lt_ (lt_ hi h3.s) s0.s
 obtain ⟨r15, r2s, r2t, e1s, hm16⟩ := W_ hm1o
 refine dE z z (fc call166 z<|i_U (B := B) e1s (zt' hBw h14) (p1_0.g hh) h1r (p3_0.g hh) p4_0) (.inr fun _ _ h => z_<|h.1) ?_
 rintro _ w2u ⟨s1, rfl, ht, h1t⟩
 refine dR z z (mv z) ?_
 iterate 3 refine dR z z (ext_ z z) ?_
 iterate 3 refine dR z z (asg z) ?_
 refine pD<|Wo<|Wq<|Ws<|Rm z<|R z (not_ z)<|Wn<|Wc z (fun hcr => ?_) (fun hcr => ?_)
 ·refine Ws<|R z (bP (parts := []) (cs := [vI 0, sl none 0 0, sl none 0 0]) Y_ z z)<|Rm z<|E0 (fs (cur' := [vI 0, sl none 0 0, sl none 0 0]) k_ z z ((h6.e s0).e s1) z (lb z) (oA z) z) ?_
  rintro _ w2v ⟨h1u, s1v⟩
  refine Ra z<|Ra z<|Wn ?_
  obtain rfl := som (ifT hm16 hcr)
  exact Wr<|x_ hr (r_ y_ k_ z h1u z) z z ⟨(bM (bup (bup (bup (bup hf h5) h3) s0) s1) s1v.one<|m1 hi), none, 0, 0, [], none, 0, 0, [], z, (ii z), onL, onL, p4_0, (ii z), nd0, al0⟩
 refine Wk<|Wq<|Ws ?_
 have h17 := h13.e s1
 refine R z (lN (vs := (vR x2 A3 N3 C3 A4 N4 C4 A2 N2 C2 A5 N5 C5)) K_ q_ z z fid<|h17.row 0 8 z)<|Rm z ?_
 have hg := hh.e s1
 have h18 := lt_ h14 s1.s
 obtain ⟨r2w, e1w, hm19⟩ := bdS (ifF hm16 hcr)
 refine E z (fc call201 z<|i_V (B := B) e1w (zt' hBw h18) p2_0 p2_1 p2_2 (p2_4.g hg) (p2_5.g hg) (p2_6.g hg) (p2_7.g hg) ht<|ii z) ?_
 rintro _ w2x ⟨s2, rfl, h2y⟩
 refine R z (lss z z)<|Wn<|Wc z (fun hcs => ?_) (fun hcs => ?_)
 ·refine Ws<|R z (bP (parts := []) (cs := [vI 0, sl none 0 0, sl none 0 0]) Y_ z z)<|Rm z<|E0 (fs (cur' := [vI 0, sl none 0 0, sl none 0 0]) k_ z z (((h6.e s0).e s1).e s2) z (lb z) (oA z) z) ?_
  rintro _ w2z ⟨h1x, s1y⟩
  refine Ra z<|Ra z<|Wn ?_
  obtain rfl := som (ifT hm19 hcs)
  exact Wr<|x_ hr (r_ y_ k_ z h1x z) z z ⟨(bM (bup (bup (bup (bup (bup hf h5) h3) s0) s1) s2) s1y.one<|m1 hi), none, 0, 0, [], none, 0, 0, [], z, (ii z), onL, onL, p4_0, (ii z), nd0, al0⟩
 refine Wk<|Ws<|R z (lN (vs := [sl A0 N0 C0]) P_ D_ z z fid<|((h12.e s1).e s2).row 0 1 z)<|R z (lN (vs := (vR x2 A3 N3 C3 A4 N4 C4 A2 N2 C2 A5 N5 C5)) K_ q_ z z fid<|(h17.e s2).row 0 8 z)<|Rm z<|Rm z<|Rm z ?_
 have h7 := hg.e s2
 have hj := lt_ h18 s2.s
 obtain ⟨r1a, r1z, r20, e21, hm22⟩ := W_ (ifF hm19 hcs)
 refine E z (fc call170 z<|ih1.run (B := B) e21 (zt' hBw hj) (p1_0.g h7) p2_0 p2_1 p2_2 (p2_4.g h7) (p2_5.g h7) (p2_6.g h7) (p2_7.g h7) ht (ii z) (p3_0.g h7) h1t) ?_
 rintro _ w4 ⟨sk, a8, n9, ca, S23, ab, nc, cd, S24, rfl, h25, h1b, h1c, h26, h27, hu, hl⟩
 refine Rm z ?_
 iterate 3 refine R z (ext_ z z) ?_
 refine E z (fa a_f) ?_
 rintro _ w28 ⟨rfl, h1d⟩
 have hn := h1d.below
 have h29 : Blk w28 w4.z [vI 0, sl none 0 0, sl none 0 0] := h1d.blk
 refine E0 (fs (cur' := [vI r1a.number, sl a8 n9 ca, sl ab nc cd]) k_ z z h29 z (lb z) (oA z) z) ?_
 rintro _ wm ⟨h1e, s2a⟩
 have ho := s2a.one
 refine Ra z<|Ra z<|Wn<|Wq<|Ws<|Rm z<|R z (eql z z)<|Wn ?_
 obtain ⟨u2b, hu1f, hm2c⟩ := bdS hm22
 refine Wt (fun a w => ∃ (xe : Int), xe = u2b ∧ Sat 56 [(8, pt wq.z), (14, pt w4.z), (15, vI r1z), (16, vI r20)] a ∧ Chg (· ∈ [w4.z]) wm w ∧ inI xe ∧ Blk w w4.z [vI xe, sl a8 n9 ca, sl ab nc cd]) ?_ ?_
 ·refine Wc z (fun hcv => ?_) (fun hcv => ?_)
  ·refine Wg<|Rm z<|R z (fd o_9 z)<|E0 (fs (cur' := [vI r15, sl a8 n9 ca, sl ab nc cd]) z_3 z z h1e z (lb z) (oA z) z) ?_
   rintro _ w2d ⟨h2e, s2f⟩
   refine Wl ?_
   have h2g : Chg (· ∈ [w4.z]) wm w2d := cM (cr [w4.z] wm) s2f.one (io sr)
   exact fun _ q => ⟨r15, som<|ifT hu1f hcv, (q.k<|s4 z z z z), h2g, ht, h2e⟩
  exact b_3 (fun _ q => ⟨r1a.number, som<|ifF hu1f hcv, (q.k<|s4 z z z z), (cr [w4.z] wm), h25, h1e⟩)
 rintro a2h w30 ⟨xe, rfl, hS31, sp, h2i, h2j⟩
 revert a2h
 refine Wo<|Ws<|R z (lN (vs := [vI xe, sl a8 n9 ca, sl ab nc cd]) y_ k_ z z fid<|h2j.row 0 3 z)<|Rm z<|Rm z ?_
 have hw := lt_ (lt_ s0.s s1.s) s2.s
 have h1g := mm1 h6.lt<|lt_ hw sk.s
 refine E0 (fs (cur' := [vI xe, sl a8 n9 ca, sl ab nc cd]) k_ z z (((((((h6.e s0).e s1).e s2).e sk).e hn).c ho<|djs h1g).c sp<|djs h1g) z (lb z) (oA z) z) ?_
 rintro _ w32 ⟨h2k, s2l⟩
 have hx := s2l.one
 refine Ra z<|Ra z<|Wn ?_
 obtain rfl := som hm2c
 have h1h := mnr<|a_.lt h1b
 have h1i := mnr<|a_.lt h1c
 have h1j := m1<|lt_ hj sk.s
 exact Wr<|x_ hr (r_ y_ k_ z h2k z) z z ⟨(bM (bM (bM (bup (bup (bup (bup (bup (bup (bup hf h5) h3) s0) s1) s2) sk) hn) ho h1j) sp h1j) hx<|m1 hi), a8, n9, ca, S23, ab, nc, cd, S24, z, h2i, ((((h1b.e hn).c ho<|ds h1h).c sp<|ds h1h).c hx<|m_ (al_ hl) h6.lt hw), ((((h1c.e hn).c ho<|ds h1i).c sp<|ds h1i).c hx<|m_ (ar_ hl) h6.lt hw), h26, h27, (na_ (nl_ hu) (nr_ hu)<|nj hu), (aa_ (l_ (al_ hl) hj)<|l_ (ar_ hl) hj)⟩
theorem T_w15 (ih : e_s n) : i_Z (g_e n (a_d n)) := by
 obtain ⟨ih0, ih1, ih2, ih3, ih4⟩ := ih
 constructor
 intro A0 A3 A4 A2 A5 A9 N0 C0 N3 C3 N4 C4 N2 C2 N5 C5 N9 C9 B x1 x2 x3 x4 res w0 hm hBw p1_0 p2_0 p2_1 p2_2 p2_4 p2_5 p2_6 p2_7 p3_0 p4_0
 unfold g_e at hm
 refine goF func172 z z (lb z) fun fn hr => Ws<|E z (fb z) ?_
 rintro _ wc ⟨rfl, hd⟩
 have h2 := hd.below
 have hu : Blk wc w0.z [sl A0 N0 C0] := hd.blk
 refine E z (fb z) ?_
 rintro _ we ⟨rfl, hf⟩
 have h0 := hf.below
 have hv : Blk we wc.z (vR x2 A3 N3 C3 A4 N4 C4 A2 N2 C2 A5 N5 C5) := hf.blk
 refine E z (fa a_f) ?_
 rintro _ ws ⟨rfl, hg⟩
 have h3 := hg.below
 have h5 : Blk ws we.z [vI 0, sl none 0 0, sl none 0 0] := hg.blk
 refine Ra z<|Ra z<|Wn<|Wq<|Wb<|Ws<|Rm z<|Rm z ?_
 have hh := ((h2.ag B).e h0).e h3
 have hi := p3_0.g hh
 refine R z (lnR i_ z hi)<|R z (a_W z z)<|Ra z<|Wn<|Wc z (fun hc7 => ?_) (fun hc7 => ?_)
 ·refine Ws<|R z (bP (parts := []) (cs := [vI 0, sl none 0 0, sl none 0 0]) Y_ z z)<|Rm z<|E0 (fs (cur' := [vI 0, sl none 0 0, sl none 0 0]) k_ z z h5 z (lb z) (oA z) z) ?_
  rintro _ w1j ⟨hw, sx⟩
  refine Ra z<|Ra z<|Wn ?_
  obtain rfl := som (ifT hm hc7)
  exact Wr<|rtO<|x_ hr (r_ y_ k_ z hw z) z z ⟨(bM (bup (bup h2 h0) h3) sx.one<|m1<|lt_ h2.s h0.s), none, 0, 0, [], none, 0, 0, [], z, (ii z), onL, onL, p4_0, (ii z), nd0, al0⟩
 refine Ws<|Rm z<|Rm z ?_
 obtain ⟨x1k, ey, hmj⟩ := bdS (ifF hm hc7)
 refine RX z (at_ (α := UInt8) i_ z_5 z z z hi ey) ?_
 rintro _ ⟨b1l, o1m, cs1n, rfl, hz, h10, h1o⟩
 obtain rfl := u8 h10
 refine R z (l1 g_5 z fid<|hz.at0 z)<|R z (a_i z z)<|Ra z<|Wn<|Wc z (fun hc8 => ?_) (fun hc8 => ?_)
 ·refine Ws<|R z (bP (parts := []) (cs := [vI 0, sl none 0 0, sl none 0 0]) Y_ z z)<|Rm z<|E0 (fs (cur' := [vI 0, sl none 0 0, sl none 0 0]) k_ z z h5 z (lb z) (oA z) z) ?_
  rintro _ w1p ⟨h11, s12⟩
  refine Ra z<|Ra z<|Wn ?_
  obtain rfl := som (ifT hmj hc8)
  exact Wr<|rtO<|x_ hr (r_ y_ k_ z h11 z) z z ⟨(bM (bup (bup h2 h0) h3) s12.one<|m1<|lt_ h2.s h0.s), none, 0, 0, [], none, 0, 0, [], z, (ii z), onL, onL, p4_0, (ii z), nd0, al0⟩
 refine Wk<|Wq (Wd (X := noX) 16384 (.rd 0 (.rd 1 (.rd 2 (.rd 3 (.rd 4 (.rd 5 (.rd 6 (.rd 7 (.rd 8 (.rd 9 (.ef 10 (.rd 11 (.rd 12 (.rd 13 (.ef 14 (.rd 15 (.rd 16 .done))))))))))))))))) mo (by kernel_rfl) fun w1q s1 _ => dR z z (lN (vs := [sl A0 N0 C0]) P_ D_ z z fid<|(((hu.e h0).e h3).e s1).row 0 1 z)<|dR z z (lN (vs := (vR x2 A3 N3 C3 A4 N4 C4 A2 N2 C2 A5 N5 C5)) K_ q_ z z fid<|((hv.e h3).e s1).row 0 8 z)<|dR z z (mv z)<|dR z z (mv z) ?_)
 obtain ⟨x1r, e13, hm14⟩ := bdS (ifF hmj hc8)
 have h4 := hh.e s1
 have hk := p3_0.g h4
 refine dRX z z (at_ (α := UInt8) i_ z_5 z z z hk e13) ?_
 rintro _ ⟨b1s, o1t, cs1u, rfl, h15, h16, h1v⟩
 obtain rfl := u8 h16
 refine dR z z (l1 g_5 z fid<|h15.at0 z)<|dR z z (b_g d_5 d_3 z)<|dR z z (mv z)<|dR z z (mv z)<|dR z z (add_ z z) ?_
 have hl := lt_ h2.s h0.s
 have h9 := lt_ (lt_ hl h3.s) s1.s
 obtain ⟨r17, r1w, r1x, e18, hm19⟩ := W_ hm14
 refine dE z z (fc call170 z<|ih1.run (B := B) e18 (zt' hBw h9) (p1_0.g h4) p2_0 p2_1 p2_2 (p2_4.g h4) (p2_5.g h4) (p2_6.g h4) (p2_7.g h4) (ii z) (c_k _) hk<|iA _ _) (.inr fun _ _ h => z_<|h.1) ?_
 rintro _ w1y ⟨sm, an, no, cp, S1a, aq, nr, ct, S1b, rfl, h1c, h1d, h1e, h1f, h1g, ha, h6⟩
 iterate 3 refine dR z z (ext_ z z) ?_
 refine dE0 z (fs (cur' := [vI r17.number, sl an no cp, sl aq nr ct]) k_ z z ((h5.e s1).e sm) z (lb z) (oA z) z) (.inl z) ?_
 rintro _ w1z ⟨h1h, s1i⟩
 have hb := s1i.one
 refine dR z z (asg z)<|dR z z (asg z)<|pD<|Wo ?_
 obtain rfl := som hm19
 exact Wr<|x_ hr (r_ y_ k_ z h1h z) z z ⟨(bM (bup (bup (bup (bup h2 h0) h3) s1) sm) hb<|m1 hl), an, no, cp, S1a, aq, nr, ct, S1b, z, h1c, (h1d.c hb<|m_ (al_ h6) h5.lt s1.s), (h1e.c hb<|m_ (ar_ h6) h5.lt s1.s), h1f, h1g, (na_ (nl_ ha) (nr_ ha)<|nj ha), (aa_ (l_ (al_ h6) h9)<|l_ (ar_ h6) h9)⟩
theorem T_w16 (ih : e_s n) : j_0 (g_f n (a_d n)) := by
 obtain ⟨ih0, ih1, ih2, ih3, ih4⟩ := ih
 constructor
 intro A0 A3 A4 A2 A5 A9 N0 C0 N3 C3 N4 C4 N2 C2 N5 C5 N9 C9 B x1 x2 x3 x4 res w0 hm hBw p1_0 p2_0 p2_1 p2_2 p2_4 p2_5 p2_6 p2_7 p3_0 p4_0
 unfold g_f at hm
 refine goF func173 z z (lb z) fun fn hr => Ws<|E z (fb z) ?_
 rintro _ wu ⟨rfl, hv⟩
 have hh := hv.below
 have h1a : Blk wu w0.z [sl A0 N0 C0] := hv.blk
 refine E z (fb z) ?_
 rintro _ ww ⟨rfl, hx⟩
 have h7 := hx.below
 have h1b : Blk ww wu.z (vR x2 A3 N3 C3 A4 N4 C4 A2 N2 C2 A5 N5 C5) := hx.blk
 refine E z (fa a_f) ?_
 rintro _ w1c ⟨rfl, hy⟩
 have h5 := hy.below
 have h3 : Blk w1c ww.z [vI 0, sl none 0 0, sl none 0 0] := hy.blk
 refine Ra z<|Ra z<|Wn<|Ws<|R z (lN (vs := [sl A0 N0 C0]) P_ D_ z z fid<|((h1a.e h7).e h5).row 0 1 z)<|R z (lN (vs := (vR x2 A3 N3 C3 A4 N4 C4 A2 N2 C2 A5 N5 C5)) K_ q_ z z fid<|(h1b.e h5).row 0 8 z)<|Rm z<|Rm z ?_
 have h8 := ((hh.ag B).e h7).e h5
 have hj := lt_ hh.s h7.s
 have h9 := lt_ hj h5.s
 obtain ⟨rk, r1z, r20, e1d, hmz⟩ := W_ hm
 refine E z (fc call170 z<|ih1.run (B := B) e1d (zt' hBw h9) (p1_0.g h8) p2_0 p2_1 p2_2 (p2_4.g h8) (p2_5.g h8) (p2_6.g h8) (p2_7.g h8) (ii z) (ii z) (p3_0.g h8) p4_0) ?_
 rintro _ w10 ⟨s0, aa, nb, cc, S11, ad, ne, cf, S12, rfl, h13, hn, ho, hp, h1e, hi, h6⟩
 refine Rm z ?_
 iterate 3 refine R z (ext_ z z) ?_
 refine E z (fa a_f) ?_
 rintro _ w1f ⟨rfl, h14⟩
 have h1 := h14.below
 have h1g : Blk w1f w10.z [vI 0, sl none 0 0, sl none 0 0] := h14.blk
 refine E0 (fs (cur' := [vI rk.number, sl aa nb cc, sl ad ne cf]) k_ z z h1g z (lb z) (oA z) z) ?_
 rintro _ w21 ⟨h15, s1h⟩
 have h2 := s1h.one
 refine Ra z<|Ra z<|Wn<|Wq<|Wb<|Ws<|Rm z<|R z (nq z z)<|Ra z<|Wn<|Wc z (fun hcm => ?_) (fun hcm => ?_)
 ·refine Ws<|R z (lN (vs := [vI rk.number, sl aa nb cc, sl ad ne cf]) y_ k_ z z fid<|h15.row 0 3 z)<|Rm z<|Rm z<|E0 (fs (cur' := [vI rk.number, sl aa nb cc, sl ad ne cf]) k_ z z (((h3.e s0).e h1).c h2<|djs<|mm1 h3.lt s0.s) z (lb z) (oA z) z) ?_
  rintro _ w22 ⟨h1i, s1j⟩
  have hq := s1j.one
  refine Ra z<|Ra z<|Wn ?_
  obtain rfl := som (ifT hmz hcm)
  exact Wr<|rtO<|x_ hr (r_ y_ k_ z h1i z) z z ⟨(bM (bM (bup (bup (bup (bup hh h7) h5) s0) h1) h2<|m1<|lt_ h9 s0.s) hq<|m1 hj), aa, nb, cc, S11, ad, ne, cf, S12, z, h13, (((hn.e h1).c h2<|ds<|mnr<|a_.lt hn).c hq<|m_ (al_ h6) h3.lt lr), (((ho.e h1).c h2<|ds<|mnr<|a_.lt ho).c hq<|m_ (ar_ h6) h3.lt lr), hp, h1e, (na_ (nl_ hi) (nr_ hi)<|nj hi), (aa_ (l_ (al_ h6) h9)<|l_ (ar_ h6) h9)⟩
 have hm16 := ifF hmz hcm
 refine Ws<|Rm z<|Rm z ?_
 have hl := lt_ h9 s0.s
 have h1k : ∀ k ∈ [w10.z], ¬ B k := or0 (f_ lr)  (p_ (zt' hBw hl))
 have h17 := ((h8.e s0).e h1).c h2<|h_ h1k
 refine R z (lnR i_ z<|p3_0.g h17)<|R z (a_W z z)<|Ra z<|Wn<|Wc z (fun hcr => ?_) (fun hcr => ?_)
 ·refine Ws<|R z (bP (parts := []) (cs := [vI 0, sl none 0 0, sl none 0 0]) Y_ z z)<|Rm z<|E0 (fs (cur' := [vI 0, sl none 0 0, sl none 0 0]) k_ z z (((h3.e s0).e h1).c h2<|djs<|mm1 h3.lt s0.s) z (lb z) (oA z) z) ?_
  rintro _ w23 ⟨h1l, s1m⟩
  refine Ra z<|Ra z<|Wn ?_
  obtain rfl := som (ifT hm16 hcr)
  exact Wr<|rtO<|x_ hr (r_ y_ k_ z h1l z) z z ⟨(bM (bM (bup (bup (bup (bup hh h7) h5) s0) h1) h2<|m1 hl) s1m.one<|m1 hj), none, 0, 0, [], none, 0, 0, [], z, (ii z), onL, onL, hp, (ii z), nd0, al0⟩
 refine Wq (Wd (X := noX) 0 (.rd 0 (.rd 1 (.rd 2 (.rd 3 (.rd 4 (.rd 5 (.rd 6 (.rd 7 (.rd 8 (.ef 9 (.rd 10 (.rd 11 .done)))))))))))) mo (by kernel_rfl) fun w24 s4 _ => dR z z (mv z)<|dR z z (mv z) ?_)
 obtain ⟨x25, e1n, hm1o⟩ := bdS (ifF hm16 hcr)
 have h18 := p3_0.g<|h17.e s4
 refine dRX z z (at_ (α := UInt8) i_ z_5 z z z h18 e1n) ?_
 rintro _ ⟨b26, o27, cs28, rfl, h1p, h1q, h29⟩
 obtain rfl := u8 h1q
 refine dR z z (l1 g_5 z fid<|h1p.at0 z)<|dR z z (b_g d_5 d_3 z) ?_
 iterate 3 refine dR z z (mv z) ?_
 obtain ⟨x2a, e1r, hm1s⟩ := bdS hm1o
 refine dRX z z (rX i_ z_5 z z h18 z z e1r) ?_
 rintro _ ⟨a2b, n2c, c2d, rfl, h1t⟩
 obtain ⟨r2e, e1u, hm19⟩ := bdS hm1s
 refine dE z z (fc call79 z<|W_w0y (B := B) e1u (zt' hBw<|lt_ (lt_ (lt_ hl h1.s) h2.s) s4.s) h1t) (.inr fun _ _ h => z_<|h.1) ?_
 rintro _ w2f ⟨sg, rfl, h2g⟩
 refine dR z z (nq z z)<|dR z z (asg z)<|pD<|Wo<|Wc z (fun hcs => ?_) (fun hcs => ?_)
 ·refine Ws<|R z (bP (parts := []) (cs := [vI 0, sl none 0 0, sl none 0 0]) Y_ z z)<|Rm z<|E0 (fs (cur' := [vI 0, sl none 0 0, sl none 0 0]) k_ z z (((((h3.e s0).e h1).c h2<|djs<|mm1 h3.lt s0.s).e s4).e sg) z (lb z) (oA z) z) ?_
  rintro _ w2h ⟨h1v, s1w⟩
  refine Ra z<|Ra z<|Wn ?_
  obtain rfl := som (ifT hm19 hcs)
  exact Wr<|rtO<|x_ hr (r_ y_ k_ z h1v z) z z ⟨(bM (bup (bup (bM (bup (bup (bup (bup hh h7) h5) s0) h1) h2<|m1 hl) s4) sg) s1w.one<|m1 hj), none, 0, 0, [], none, 0, 0, [], z, (ii z), onL, onL, hp, (ii z), nd0, al0⟩
 refine Wk<|Ws<|R z (lN (vs := [vI rk.number, sl aa nb cc, sl ad ne cf]) y_ k_ z z fid<|((h15.e s4).e sg).row 0 3 z)<|Rm z<|R z (add_ z z)<|E0 (fs (cur' := [vI rk.number, sl aa nb cc, sl ad ne cf]) k_ z z (((((h3.e s0).e h1).c h2<|djs<|mm1 h3.lt s0.s).e s4).e sg) z (lb z) (oA z) z) ?_
 rintro _ w2i ⟨h1x, s1y⟩
 have ht := s1y.one
 refine Ra z<|Ra z<|Wn ?_
 obtain rfl := som (ifF hm19 hcs)
 exact Wr<|x_ hr (r_ y_ k_ z h1x z) z z ⟨(bM (bup (bup (bM (bup (bup (bup (bup hh h7) h5) s0) h1) h2<|m1 hl) s4) sg) ht<|m1 hj), aa, nb, cc, S11, ad, ne, cf, S12, z, h13, (((((hn.e h1).c h2<|ds<|mnr<|a_.lt hn).e s4).e sg).c ht<|m_ (al_ h6) h3.lt lr), (((((ho.e h1).c h2<|ds<|mnr<|a_.lt ho).e s4).e sg).c ht<|m_ (ar_ h6) h3.lt lr), (iA _ _), (ii z), (na_ (nl_ hi) (nr_ hi)<|nj hi), (aa_ (l_ (al_ h6) h9)<|l_ (ar_ h6) h9)⟩
theorem c_D : ∀ n, e_s n
  | 0 => ⟨⟨fun hm => by intros; exact nomatch (show none = some _ from hm)⟩, ⟨fun hm => by intros; exact nomatch (show none = some _ from hm)⟩, ⟨fun hm => by intros; exact nomatch (show none = some _ from hm)⟩, ⟨fun hm => by intros; exact nomatch (show none = some _ from hm)⟩, ⟨fun hm => by intros; exact nomatch (show none = some _ from hm)⟩⟩
  | n + 1 => ⟨T_w02 (c_D n), T_w13 (c_D n), T_w14 (c_D n), T_w15 (c_D n), T_w16 (c_D n)⟩
theorem W_w02 : i_W (a_d n).spec_l11Read := (c_D n).1
theorem W_w13 : i_X (a_d n).spec_l11Items := (c_D n).2.1
theorem W_w14 : i_Y (a_d n).spec_l11Choice := (c_D n).2.2.1
theorem W_w15 : i_Z (a_d n).spec_l11Option := (c_D n).2.2.2.1
theorem W_w16 : j_0 (a_d n).spec_l11Checked := (c_D n).2.2.2.2

theorem j_1 {x1 : g_} {x2 : Int} {x3 : List UInt8} {x4 : Int} {res : Val × Int × Int} (hm : g_h n x1 x2 x3 x4 = some res) (hBw : B ≤ w0.z) (p1_0 : b_ w0 B (sl A0 N0 C0) x1.rules) (p2_0 : inI x2) (p3_0 : b_ w0 B (sl A9 N9 C9) x3) (p4_0 : inI x4) : j_ prog 128 [(.agg #[sl A0 N0 C0]), vI x2, sl A9 N9 C9, vI x4] w0 (Q17 w0 B res) := by
 unfold g_h at hm
 refine goF func128 z z (lb z) fun fn hr => Ws<|E z (fb z) ?_
 rintro _ w8 ⟨rfl, hg⟩
 have h3 := hg.below
 have hh : Blk w8 w0.z [sl A0 N0 C0] := hg.blk
 refine E z (fa a_f) ?_
 rintro _ w9 ⟨rfl, hi⟩
 have h4 := hi.below
 have h6 : Blk w9 w8.z [vI 0, sl none 0 0, sl none 0 0] := hi.blk
 refine Ra z<|Ra z<|Wn<|Wq<|Wq ?_
 obtain ⟨uy, huz, hmj⟩ := bdS hm
 refine Wt (fun a w => ∃ (xa : Bool), xa = uy ∧ Sat 36 [(1, vI x2), (2, sl A9 N9 C9), (3, vI x4), (4, pt w0.z), (8, pt w8.z), (26, vB xa)] a ∧ Below w9.z w9 w) ?_ ?_
 ·refine Wg<|R z (lN (vs := [sl A0 N0 C0]) P_ D_ z z fid<|(hh.e h4).row 0 1 z)<|Rm z ?_
  have hk := (h3.ag B).e h4
  have hl := lt_ h3.s h4.s
  obtain ⟨r10, e11, hmm⟩ := bdS huz
  refine E z (fc call146 z<|W_w2s (B := B) e11 (zt' hBw hl) (p1_0.g hk) p2_0) ?_
  rintro _ w1j ⟨s5, rfl⟩
  refine R z (not_ z)<|Rm z ?_
  rcases bs (!r10) with hc0 | hc0
  ·iterate 5 refine Nh z hc0 ?_
   exact R z (pT z hc0 z)<|Rm z<|Nh z z<|Nh z z<|Nh z z<|R z (pT z z z)<|Wl (fun _ q => ⟨true, som<|ifT hmm hc0, (q.k<|s6 z z z z z z), s5⟩)
  refine Rh z hc0 (mv z)<|Rh z hc0 (mv z) ?_
  have hn := hk.e s5
  have ho := p3_0.g hn
  refine Rh z hc0 (lnR i_ z ho) ?_
  obtain ⟨r12, e13, hmp⟩ := bdS (ifF hmm hc0)
  refine Eg z z hc0 z (fc call97 z<|a_U (B := B) e13 (zt' hBw<|lt_ hl s5.s) p4_0 (ii z)<|b_q<|b_.len ho) ?_
  rintro _ w1k ⟨sb, rfl⟩
  refine Rh z hc0 (not_ z)<|R z (pF z hc0 z)<|Rm z ?_
  rcases bs (!r12) with hc1 | hc1
  ·iterate 3 refine Nh z hc1 ?_
   exact R z (pT z hc1 z)<|Wl (fun _ q => ⟨true, som<|ifT hmp hc1, (q.k<|s6 z z z z z z), (bup s5 sb)⟩)
  exact Rh z hc1 (mv z)<|Rh z hc1 (lnR i_ z<|p3_0.g<|hn.e sb)<|Rh z hc1 (a_i z z)<|R z (pF z hc1 z)<|Wl (fun _ q => ⟨decide (400 < (x3.length : Int)), som<|ifF hmp hc1, (q.k<|s6 z z z z z z), (bup s5 sb)⟩)
 rintro a14 w1l ⟨xa, rfl, hS1m, s2⟩
 revert a14
 refine Wo<|Wc z (fun hcc => ?_) (fun hcc => ?_)
 ·refine Ws<|R z (bP (parts := []) (cs := [vI 0, sl none 0 0, sl none 0 0]) Y_ z z)<|E0 (fs (cur' := [vI 0, sl none 0 0, sl none 0 0]) k_ z z (h6.e s2) z (lb z) (oA z) z) ?_
  rintro _ w1n ⟨h15, s16⟩
  refine Ra z<|Ra z<|Wn ?_
  obtain rfl := som (ifT hmj hcc)
  exact Wr<|x_ hr (r_ y_ k_ z h15 z) z z ⟨(bM (bup (bup h3 h4) s2) s16.one<|m1 h3.s), none, 0, 0, [], none, 0, 0, [], z, (ii z), onL, onL, (ii z), (ii z), nd0, al0⟩
 refine Wk<|Ws<|R z (lN (vs := [sl A0 N0 C0]) P_ D_ z z fid<|((hh.e h4).e s2).row 0 1 z)<|Rm z<|Rm z<|Rm z ?_
 have hq := ((h3.ag B).e h4).e s2
 have hd := lt_ (lt_ h3.s h4.s) s2.s
 obtain ⟨r17, r1o, r1p, e18, hm19⟩ := W_ (ifF hmj hcc)
 refine E z (fc call147 z<|W_w02.run (B := B) e18 (zt' hBw hd) (p1_0.g hq) p2_0 (p3_0.g hq) p4_0) ?_
 rintro _ w1q ⟨sr, au, ns, ct, S1a, av, nw, cx, S1b, rfl, h1c, h1d, h1e, h1f, h1g, he, h7⟩
 iterate 3 refine R z (ext_ z z) ?_
 refine E0 (fs (cur' := [vI r17.number, sl au ns ct, sl av nw cx]) k_ z z ((h6.e s2).e sr) z (lb z) (oA z) z) ?_
 rintro _ w1r ⟨h1h, s1i⟩
 have hf := s1i.one
 refine Ra z<|Ra z<|Wn ?_
 obtain rfl := som hm19
 exact Wr<|x_ hr (r_ y_ k_ z h1h z) z z ⟨(bM (bup (bup (bup h3 h4) s2) sr) hf<|m1 h3.s), au, ns, ct, S1a, av, nw, cx, S1b, z, h1c, (h1d.c hf<|m_ (al_ h7) h6.lt s2.s), (h1e.c hf<|m_ (ar_ h7) h6.lt s2.s), h1f, h1g, (na_ (nl_ he) (nr_ he)<|nj he), (aa_ (l_ (al_ h7) hd)<|l_ (ar_ h7) hd)⟩
theorem W_w2v {x1 : g_} {x2 : List UInt8} {res : Val × Int × Int} (hm : g_i n x1 x2 = some res) (hBw : B ≤ w0.z) (p1_0 : b_ w0 B (sl A0 N0 C0) x1.rules) (p2_0 : b_ w0 B (sl A6 N6 C6) x2) : j_ prog 101 [(.agg #[sl A0 N0 C0]), sl A6 N6 C6] w0 (Q17 w0 B res) := by
 unfold g_i at hm
 refine goF func101 z z (lb z) fun fn hr => Ws<|E z (fb z) ?_
 rintro _ wl ⟨rfl, h1g⟩
 have h2 := h1g.below
 have hv : Blk wl w0.z [sl A0 N0 C0] := h1g.blk
 refine E z (fa a_f) ?_
 rintro _ w5 ⟨rfl, h1h⟩
 have h1 := h1h.below
 have hn : Blk w5 wl.z [vI 0, sl none 0 0, sl none 0 0] := h1h.blk
 refine Ra z<|Ra z<|Wn<|Wq ?_
 obtain ⟨u30, hu1i, hm31⟩ := bdS hm
 refine Wt (fun a w => ∃ (xb : Int) (xw : List UInt8) (xx : List Val) (xc : Int) (xd : Int), (xb, xw, xx, xc, xd) = u30 ∧ ∃ ae nf cg S6 ah ni cj S7 g8, Sat 32 [(1, sl A6 N6 C6), (4, pt wl.z), (7, pt g8), (8, vI xc), (9, vI xd)] a ∧ Below w5.z w5 w ∧ inI xb ∧ a_ w S6 (sl ae nf cg) xw ∧ S6.Nodup ∧ (∀ k ∈ S6, w5.z ≤ k) ∧ a_ w S7 (sl ah ni cj) xx ∧ S7.Nodup ∧ (∀ k ∈ S7, w5.z ≤ k) ∧ (∀ k ∈ S7, k ∉ S6) ∧ inI xc ∧ inI xd ∧ Blk w g8 [vI xb, sl ae nf cg, sl ah ni cj] ∧ w5.z ≤ g8 ∧ (∀ k ∈ S6, k ∉ [g8]) ∧ (∀ k ∈ S7, k ∉ [g8])) ?_ ?_
 ·refine Wd (X := fun k => k ∈ ([] : List Nat) ∨ w5.z ≤ k) 0 (.rd 0 (.rd 1 (.rd 3 (.br 2 (.br 4 (.rd 5 (.rd 6 (.rd 7 (.rd 8 (.ef 9 (.ef 10 (.rd 11 (.rd 12 .done)))))))) 9 (.ef 4 (.rd 5 (.rd 6 (.rd 7 (.rd 8 (.ef 10 (.rd 11 (.rd 12 .done))))))))) 9 (.ef 2 (.ef 4 (.rd 5 (.rd 6 (.rd 7 (.rd 8 (.ef 10 (.rd 11 (.rd 12 .done))))))))))))) mo (by kernel_rfl) fun w1j s0 _ => ?_
  have h1k := (hv.e h1).e s0
  refine dR z z (lN (vs := [sl A0 N0 C0]) P_ D_ z z (b_O nm0<|Nat.lt_of_lt_of_le hv.lt h1.s)<|h1k.row 0 1 z)<|dR z z (lN (vs := [sl A0 N0 C0]) P_ D_ z z (b_O nm0<|Nat.lt_of_lt_of_le hv.lt h1.s)<|h1k.row 0 1 z)<|dR z z (mv z)<|d_j ?_ ?_
  ·have hy := ((h2.ag B).e h1).e s0
   have hz := lt_ (lt_ h2.s h1.s) s0.s
   obtain ⟨r4r, e32, hm1l⟩ := bdS hu1i
   refine dE z z (fc call129 z<|W_w11 (B := B) e32 (zt' hBw hz)<|p1_0.g hy) (.inr fun _ _ h => z_<|h.1) ?_
   rintro _ w1m ⟨s4, rfl, h1n⟩
   refine d_j ?_ ?_
   ·have h1o := hy.e s4
    obtain ⟨rm, r33, r34, e35, hm36⟩ := W_ hm1l
    refine dE z z (fc call128 z<|j_1 (B := B) e35 (zt' hBw<|lt_ hz s4.s) (p1_0.g h1o) h1n (p2_0.g h1o)<|ii z) (.inr fun _ _ h => z_<|h.1) ?_
    rintro _ w1p ⟨s1q, a1r, n1s, c1t, S37, a1u, n1v, c1w, S38, rfl, h39, h1x, h1y, h3a, h3b, h10, h1z⟩
    refine dR z z (mv z) ?_
    iterate 3 refine dR z z (ext_ z z) ?_
    refine dE z z (fa a_f) (.inr fun _ _ h => z_<|h.2.below) ?_
    rintro _ w3c ⟨rfl, h20⟩
    have h11 := h20.below
    have h3d : Blk w3c w1p.z [vI 0, sl none 0 0, sl none 0 0] := h20.blk
    have h12 := lt_ s0.s s4.s
    have h13 := m1<|lt_ h12 s1q.s
    refine dE0 z (fs (cur' := [vI rm.number, sl a1r n1s c1t, sl a1u n1v c1w]) k_ z z h3d z (lb z) (oA z) z) (.inr fun _ _ h => c_3 (atp h13) h.2) ?_
    rintro _ w4s ⟨h3e, s3f⟩
    have h14 := s3f.one
    refine dR z z (asg z)<|dR z z (asg z)<|pD ?_
    have h21 := mnr<|a_.lt h1x
    have h22 := mnr<|a_.lt h1y
    exact fun _ q => ⟨rm.number, rm.bytes, rm.items, r33, r34, som hm36, a1r, n1s, c1t, S37, a1u, n1v, c1w, S38, w1p.z, (q.k<|s5 z z z z z), (bM (bup (bup (bup s0 s4) s1q) h11) h14 h13), h39, ((h1x.e h11).c h14<|ds h21), (nl_ h10), (l_ (al_ h1z) h12), ((h1y.e h11).c h14<|ds h22), (nr_ h10), (l_ (ar_ h1z) h12), (ds<|nj h10), h3a, h3b, h3e, (atp h13), (ds h21), (ds h22)⟩
   refine dE z z (fa a_f) (.inr fun _ _ h => z_<|h.2.below) ?_
   rintro _ w3g ⟨rfl, h23⟩
   have ho := h23.below
   have h15 : Blk w3g w1m.z [vI 0, sl none 0 0, sl none 0 0] := h23.blk
   have h24 := (hy.e s4).e ho
   obtain ⟨rp, r3h, r3i, e3j, hm3k⟩ := W_ hm1l
   refine dE z z (fc call128 z<|j_1 (B := B) e3j (zt' hBw<|lt_ (lt_ hz s4.s) ho.s) (p1_0.g h24) h1n (p2_0.g h24)<|ii z) (.inr fun _ _ h => z_<|h.1) ?_
   rintro _ w4t ⟨s25, a26, n27, c28, S3l, a29, n2a, c2b, S3m, rfl, h3n, h3o, h3p, h3q, h3r, h16, hq⟩
   refine dR z z (mv z) ?_
   iterate 3 refine dR z z (ext_ z z) ?_
   have h2c := lt_ s0.s s4.s
   have h17 := m1 h2c
   refine dE0 z (fs (cur' := [vI rp.number, sl a26 n27 c28, sl a29 n2a c2b]) k_ z z (h15.e s25) z (lb z) (oA z) z) (.inr fun _ _ h => c_3 (atp h17) h.2) ?_
   rintro _ w4u ⟨h3s, s3t⟩
   have h18 := s3t.one
   refine dR z z (asg z)<|dR z z (asg z)<|pD ?_
   have h2d := m_ (al_ hq) h15.lt lr
   have h2e := lt_ h2c ho.s
   have h2f := m_ (ar_ hq) h15.lt lr
   exact fun _ q => ⟨rp.number, rp.bytes, rp.items, r3h, r3i, som hm3k, a26, n27, c28, S3l, a29, n2a, c2b, S3m, w1m.z, (q.k<|s5 z z z z z), (bM (bup (bup (bup s0 s4) ho) s25) h18 h17), h3n, (h3o.c h18 h2d), (nl_ h16), (l_ (al_ hq) h2e), (h3p.c h18 h2f), (nr_ h16), (l_ (ar_ hq) h2e), (ds<|nj h16), h3q, h3r, h3s, (atp h17), h2d, h2f⟩
  refine dE z z (fa a_f) (.inr fun _ _ h => z_<|h.2.below) ?_
  rintro _ w3u ⟨rfl, h2g⟩
  have ht := h2g.below
  have h19 : Blk w3u w1j.z [vI 0, sl none 0 0, sl none 0 0] := h2g.blk
  have h2h := (((h2.ag B).e h1).e s0).e ht
  have h2i := lt_ (lt_ (lt_ h2.s h1.s) s0.s) ht.s
  obtain ⟨r4v, e3v, hm3w⟩ := bdS hu1i
  refine dE z z (fc call129 z<|W_w11 (B := B) e3v (zt' hBw h2i)<|p1_0.g h2h) (.inr fun _ _ h => z_<|h.1) ?_
  rintro _ w4w ⟨s9, rfl, h3x⟩
  have h2j := h2h.e s9
  obtain ⟨rr, r3y, r3z, e40, hm41⟩ := W_ hm3w
  refine dE z z (fc call128 z<|j_1 (B := B) e40 (zt' hBw<|lt_ h2i s9.s) (p1_0.g h2j) h3x (p2_0.g h2j)<|ii z) (.inr fun _ _ h => z_<|h.1) ?_
  rintro _ w4x ⟨s2k, a2l, n2m, c2n, S42, a2o, n2p, c2q, S43, rfl, h44, h45, h46, h47, h48, h1a, hu⟩
  refine dR z z (mv z) ?_
  iterate 3 refine dR z z (ext_ z z) ?_
  have h1b := m1 s0.s
  refine dE0 z (fs (cur' := [vI rr.number, sl a2l n2m c2n, sl a2o n2p c2q]) k_ z z ((h19.e s9).e s2k) z (lb z) (oA z) z) (.inr fun _ _ h => c_3 (atp h1b) h.2) ?_
  rintro _ w4y ⟨h49, s4a⟩
  have h1c := s4a.one
  refine dR z z (asg z)<|dR z z (asg z)<|pD ?_
  have h2r := m_ (al_ hu) h19.lt s9.s
  have h2s := lt_ (lt_ s0.s ht.s) s9.s
  have h2t := m_ (ar_ hu) h19.lt s9.s
  exact fun _ q => ⟨rr.number, rr.bytes, rr.items, r3y, r3z, som hm41, a2l, n2m, c2n, S42, a2o, n2p, c2q, S43, w1j.z, (q.k<|s5 z z z z z), (bM (bup (bup (bup s0 ht) s9) s2k) h1c h1b), h44, (h45.c h1c h2r), (nl_ h1a), (l_ (al_ hu) h2s), (h46.c h1c h2t), (nr_ h1a), (l_ (ar_ hu) h2s), (ds<|nj h1a), h47, h48, h49, (atp h1b), h2r, h2t⟩
 rintro a4b ws ⟨xb, xw, xx, xc, xd, rfl, ae, nf, cg, S6, ah, ni, cj, S7, g8, hS4z, sk, h4c, h4d, h4e, h2u, h4f, h4g, h2v, h4h, h2w, h4i, h4j, h50, h51, h52⟩
 have hm4k := un5S hm31
 revert a4b
 refine Wo<|Wq<|Wq ?_
 obtain ⟨u4l, hu2x, hm2y⟩ := bdS hm4k
 refine Wt (fun a w => ∃ (x1d : Bool), x1d = u4l ∧ Sat 32 [(4, pt wl.z), (7, pt g8), (8, vI xc), (9, vI xd), (26, vB x1d)] a ∧ Below ws.z ws w) ?_ ?_
 ·refine Wg<|Rm z<|R z (eql z z)<|Rm z ?_
  rcases bs (xd == 0) with hc3 | hc3
  ·exact Rh z hc3 (mv z)<|Rh z hc3 (mv z)<|Rh z hc3 (lnR i_ z<|p2_0.g<|((h2.ag B).e h1).e sk)<|Rh z hc3 (lss z z)<|R z (pT z hc3 z)<|Wl (fun _ q => ⟨decide (xc < (x2.length : Int)), som<|ifT hu2x hc3, (q.k<|s5 z z z z z), (br ws)⟩)
  iterate 4 refine Nh z hc3 ?_
  exact R z (pF z hc3 z)<|Wl (fun _ q => ⟨false, som<|ifF hu2x hc3, (q.k<|s5 z z z z z), (br ws)⟩)
 rintro a4m w53 ⟨x1d, rfl, hS54, sa⟩
 revert a4m
 refine Wo<|Wc z (fun hc1e => ?_) (fun hc1e => ?_)
 ·refine Ws<|R z (bP (parts := []) (cs := [vI 0, sl none 0 0, sl none 0 0]) Y_ z z)<|Rm z<|E0 (fs (cur' := [vI 0, sl none 0 0, sl none 0 0]) k_ z z ((hn.e sk).e sa) z (lb z) (oA z) z) ?_
  rintro _ w55 ⟨h4n, s4o⟩
  refine Ra z<|Ra z<|Wn ?_
  obtain rfl := som (ifT hm2y hc1e)
  exact Wr<|x_ hr (r_ y_ k_ z h4n z) z z ⟨(bM (bup (bup (bup h2 h1) sk) sa) s4o.one<|m1 h2.s), none, 0, 0, [], none, 0, 0, [], z, (ii z), onL, onL, h2w, (ii z), nd0, al0⟩
 refine Wk<|Ws<|R z (lN (vs := [vI xb, sl ae nf cg, sl ah ni cj]) y_ k_ z z fid<|(h4j.e sa).row 0 3 z)<|Rm z<|Rm z<|E0 (fs (cur' := [vI xb, sl ae nf cg, sl ah ni cj]) k_ z z ((hn.e sk).e sa) z (lb z) (oA z) z) ?_
 rintro _ w56 ⟨h4p, s4q⟩
 have h1f := s4q.one
 refine Ra z<|Ra z<|Wn ?_
 obtain rfl := som (ifF hm2y hc1e)
 have h2z := lt_ h2.s h1.s
 exact Wr<|x_ hr (r_ y_ k_ z h4p z) z z ⟨(bM (bup (bup (bup h2 h1) sk) sa) h1f<|m1 h2.s), ae, nf, cg, S6, ah, ni, cj, S7, z, h4c, ((h4d.e sa).c h1f<|m_ h2u hn.lt lr), ((h4f.e sa).c h1f<|m_ h2v hn.lt lr), h2w, h4i, (na_ h4e h4g<|ds h4h), (aa_ (l_ h2u h2z)<|l_ h2v h2z)⟩
theorem W_w2w {x1 : g_} {x2 : List UInt8} {res : Bool} (hm : g_j n x1 x2 = some res) (hBw : B ≤ w0.z) (p1_0 : b_ w0 B (sl A0 N0 C0) x1.rules) (p2_0 : b_ w0 B (sl A6 N6 C6) x2) : j_ prog 69 [(.agg #[sl A0 N0 C0]), sl A6 N6 C6] w0 (Q11 w0 B res) := by
 unfold g_j at hm
 refine goF func69 z z (lb z) fun fn hr => Ws<|E z (fb z) ?_
 rintro _ w4 ⟨rfl, h1⟩
 have h0 := h1.below
 have h5 : Blk w4 w0.z [sl A0 N0 C0] := h1.blk
 refine Ra z<|Wn<|Ws<|R z (lN (vs := [sl A0 N0 C0]) P_ D_ z z fid<|h5.row 0 1 z)<|Rm z ?_
 obtain ⟨r6, rj, rk, e7, hm8⟩ := W_ hm
 refine E z (fc call101 z<|W_w2v (B := B) e7 (zt' hBw h0.s) (p1_0.e h0)<|p2_0.e h0) ?_
 rintro _ w9 ⟨s2, aa, nb, cc, Sl, ad, ne, cf, Sm, rfl, hn, ho, hp, hq, ht, hu, hv⟩
 refine Rm z ?_
 iterate 3 refine R z (ext_ z z) ?_
 refine E z (fa a_f) ?_
 rintro _ wg ⟨rfl, h3⟩
 have hh : Blk wg w9.z [vI 0, sl none 0 0, sl none 0 0] := h3.blk
 refine E0 (fs (cur' := [vI r6.number, sl aa nb cc, sl ad ne cf]) k_ z z hh z (lb z) (oA z) z) ?_
 rintro _ wr ⟨hw, si⟩
 refine Ra z<|Ra z<|Wn<|Ws<|Rm z<|R z (eql z z)<|Ra z<|Wn ?_
 obtain rfl := som hm8
 exact Wr<|d_ hr z ⟨(bM (bup (bup h0 s2) h3.below) si.one<|m1<|lt_ h0.s s2.s), z⟩
theorem W_w2x {x1 : w_} {res : Bool} (hm : g_S n x1 = some res) (hBw : B ≤ w0.z) (p1_0 : b_ w0 B (sl A0 N0 C0) x1.registry.versions) (p1_1 : b_ w0 B (sl A1 N1 C1) x1.log.bytes) (p1_2 : inI x1.log.stored) : j_ prog 35 [(.agg #[sl A0 N0 C0, sl A1 N1 C1, vI x1.log.stored])] w0 (Q11 w0 B res) := by
 unfold g_S at hm
 refine goF func35 z z (lb z) fun fn hr => Ws<|E z (fb z) ?_
 rintro _ we ⟨rfl, hl⟩
 have h4 := hl.below
 have hf : Blk we w0.z [sl A0 N0 C0, sl A1 N1 C1, vI x1.log.stored] := hl.blk
 refine Ra z<|Wn<|Wq<|Wq ?_
 obtain ⟨u19, hu1a, hmm⟩ := bdS hm
 refine Wt (fun a w => ∃ (xg : Bool), xg = u19 ∧ Sat 74 [(1, pt w0.z), (23, vB xg)] a ∧ Below we.z we w) ?_ ?_
 ·refine Wg<|R z (fd b_L z)<|R z (lN (vs := [sl A0 N0 C0]) b_w a_Z z z fid<|hf.row 0 1 z) ?_
  obtain ⟨r1b, e1c, hmn⟩ := bdS hu1a
  refine E z (fc call67 z<|W_w2k (B := B) (x1 := (⟨x1.registry.versions⟩ : B_)) e1c (zt' hBw h4.s)<|p1_0.e h4) ?_
  rintro _ w2s ⟨s7, rfl⟩
  refine R z (not_ z)<|Rm z ?_
  rcases bs (!r1b) with hc3 | hc3
  ·iterate 4 refine Nh z hc3 ?_
   exact R z (pT z hc3 z)<|Rm z<|Nh z z<|Nh z z<|Nh z z<|Nh z z<|Nh z z<|Nh z z<|R z (pT z z z)<|Wl (fun _ q => ⟨true, som<|ifT hmn hc3, (q.k<|s2 z z), s7⟩)
  refine Rh z hc3 (fd b_a z) ?_
  have ho := hf.e s7
  refine Rh z hc3 (lN (vs := [sl A1 N1 C1, vI x1.log.stored]) a_u a_2 z z fid<|ho.row 1 2 z) ?_
  have hp := (h4.ag B).e s7
  have hq := lt_ h4.s s7.s
  obtain ⟨r1d, e1e, hmr⟩ := bdS (ifF hmn hc3)
  refine Eg z z hc3 z (fc call65 z<|i_T (B := B) (x1 := (⟨x1.log.bytes, x1.log.stored⟩ : Log)) e1e (zt' hBw hq) (p1_1.g hp) p1_2) ?_
  rintro _ w2t ⟨sb, rfl⟩
  refine Rh z hc3 (not_ z)<|R z (pF z hc3 z)<|Rm z ?_
  rcases bs (!r1d) with hc2 | hc2
  ·iterate 6 refine Nh z hc2 ?_
   exact R z (pT z hc2 z)<|Wl (fun _ q => ⟨true, som<|ifT hmr hc2, (q.k<|s2 z z), (bup s7 sb)⟩)
  refine Rh z hc2 (fd b_a z)<|Rh z hc2 (fd a_S z)<|Rh z hc2 (l1 I_ z fid<|(ho.e sb).at z) ?_
  obtain ⟨r1f, e1g, hm1h⟩ := bdS (ifF hmr hc2)
  refine Eg z z hc2 z (fc call66 z<|W_w10 (B := B) e1g (zt' hBw<|lt_ hq sb.s)<|p1_1.g<|hp.e sb) ?_
  rintro _ w2u ⟨s1i, a2v, n2w, c2x, rfl, h1j⟩
  exact Rh z hc2 (lnR b_l z h1j)<|Rh z hc2 (a_i z z)<|R z (pF z hc2 z)<|Wl (fun _ q => ⟨decide (20 < (r1f.length : Int)), som hm1h, (q.k<|s2 z z), (bup (bup s7 sb) s1i)⟩)
 rintro a1k w2y ⟨xg, rfl, hS2z, s8⟩
 revert a1k
 refine Wo<|Wc z (fun hch => ?_) (fun hch => ?_)
 ·refine Ws<|Ra z<|Wn ?_
  obtain rfl := som (ifT hmm hch)
  exact Wr<|d_ hr z ⟨(bup h4 s8), z⟩
 refine Wk<|Ws<|R z (fd b_a z)<|R z (fd a_S z) ?_
 have ht := hf.e s8
 refine R z (l1 I_ z fid<|ht.at z) ?_
 have hu := (h4.ag B).e s8
 have hv := lt_ h4.s s8.s
 obtain ⟨r30, r31, e1l, hm1m⟩ := a_w (ifF hmm hch)
 refine E z (fc call68 z<|h_u (B := B) e1l (zt' hBw hv)<|p1_1.g hu) ?_
 rintro _ w9 ⟨sc, aw, ns, cx, S32, rfl, h5, h33, h34, h35⟩
 refine Rm z<|R z (ext_ z z)<|R z (ext_ z z)<|Ra z<|Ra z<|Wn<|Wq<|Ws<|Ra z<|Wn ?_
 obtain ⟨u36, hu1n, hmy⟩ := bdS hm1m
 refine Wf (σ := Unit) (ρ := Bool) (fun (ki : Nat) (_ : Unit) a w => Sat 74 [(1, pt w0.z), (3, sl aw ns cx), (5, (vI ((ki : Nat) : Int)))] a ∧ Below w9.z w9 w) (fun (_ : Unit) a w => Sat 74 [] a ∧ Below w9.z w9 w) (fun r ex a w => ex = .ret ∧ v_ prog fn (Q11 w0 B r) a w) hu1n ?_ ?_ ?_ ?_ ?_
 ·exact fun _ q => ⟨(q.k<|s3 z z z), (br w9)⟩
 ·rintro ki _ a37 wz o38 hk10 ⟨hS1o, sa⟩ hm1p
  refine Wu ?_ hS1o
  refine Wq<|Ws<|Rm z<|Rm z ?_
  have h11 := h5.e sa
  refine R z (lnR b_M z<|or_ h11<|a_.lt h5)<|R z (lss z z)<|Wn<|Wc z (fun _ => ?_) (fun hc => (N_ hk10 hc).elim)
  refine Wk<|Wq<|Wb<|Wq ?_
  obtain ⟨u1q, hu1r, hm12⟩ := bdS hm1p
  refine Wt (fun a w => ∃ (xj : Bool), xj = u1q ∧ Sat 74 [(1, pt w0.z), (3, sl aw ns cx), (5, (vI ((ki : Nat) : Int))), (73, vB xj)] a ∧ Below wz.z wz w) ?_ ?_
  ·refine Wd (X := noX) 0 (.rd 0 (.rd 1 (.rd 2 (.rd 3 (.rd 4 (.rd 5 (.rd 6 (.rd 7 (.rd 8 (.rd 9 (.rd 10 (.rd 11 (.rd 12 (.rd 13 (.rd 14 (.rd 15 (.rd 16 (.rd 17 (.rd 18 (.rd 19 (.rd 20 (.rd 21 (.rd 22 (.rd 23 (.rd 24 (.rd 25 (.rd 26 (.rd 27 (.rd 28 (.rd 29 (.rd 30 (.rd 31 (.rd 32 (.ef 33 (.rd 34 (.rd 35 (.rd 36 .done))))))))))))))))))))))))))))))))))))) mo (by kernel_rfl) fun w39 s6 _ => dR z z (mv z)<|dR z z (mv z) ?_
   obtain ⟨x1s, e1t, hm13⟩ := bdS hu1r
   have hd := h11.e s6
   refine dRX z z (at_ (α := o_) b_M V_ z z z (or_ hd<|a_.lt h5) e1t) ?_
   rintro _ ⟨b3a, o3b, cs3c, rfl, h1u, h1v, h3d⟩
   obtain ⟨a3e, n3f, c3g, rfl, h3h, h3i, h3j, h3k⟩ := d_R h1v
   refine dR z z (fd b_W z)<|dR z z (l1 g_3 z fid<|h1u.at (j := 0) z)<|dR z z (eql z z)<|dR z z (mv z) ?_
   rcases bs (x1s.kind == 1) with hc1 | hc1
   ·refine dRg z z z hc1 z (mv z)<|dRg z z z hc1 z (mv z) ?_
    obtain ⟨x1w, e1x, hm14⟩ := bdS (ifT hm13 hc1)
    refine a_V z z z hc1 z (at_ (α := o_) b_M V_ z z z (or_ hd<|a_.lt h5) e1x) ?_
    rintro _ ⟨b3l, o3m, cs3n, rfl, h1y, h1z, h3o⟩
    obtain ⟨a3p, n3q, c3r, rfl, h3s, h3t, h3u, h3v⟩ := d_R h1z
    refine dRg z z z hc1 z (fd b_X z)<|dRg z z z hc1 z (l1 g_3 z fid<|h1y.at (j := 2) z)<|dRg z z z hc1 z (fd b_L z)<|dRg z z z hc1 z (fd a_P z) ?_
    have h15 := ((ht.e sc).e sa).e s6
    refine dRg z z z hc1 z (l1 a_Y z fid<|h15.at z) ?_
    have h16 := p1_0.g<|((hu.e sc).e sa).e s6
    refine dRg z z z hc1 z (lnR a_v z h16)<|dRg z z z hc1 z (a_W z z)<|dRg z z z hc1 z (mv z) ?_
    rcases bs (decide ((x1.registry.versions.length : Int) ≤ x1w.version)) with hc0 | hc0
    ·iterate 15 refine dRn z z z hc0 z ?_
     exact dEn z z z hc0 z<|dRn z z z hc0 z<|dRg z z z hc1 z (pT z hc0 z)<|dR z z (pT z hc1 z)<|pD (fun _ q => ⟨true, som<|ifT hm14 hc0, (q.k<|s4 z z z z), s6⟩)
    refine dRg z z z hc0 z (fd b_L z)<|dRg z z z hc0 z (fd a_P z)<|dRg z z z hc0 z (l1 a_Y z fid<|h15.at z)<|dRg z z z hc0 z (mv z)<|dRg z z z hc0 z (mv z) ?_
    obtain ⟨x3w, e20, hm21⟩ := bdS (ifF hm14 hc0)
    refine a_V z z z hc0 z (at_ (α := o_) b_M V_ z z z (or_ hd<|a_.lt h5) e20) ?_
    rintro _ ⟨b3x, o3y, cs3z, rfl, h22, h23, h40⟩
    obtain ⟨a41, n42, c43, rfl, h44, h45, h46, h47⟩ := d_R h23
    refine dRg z z z hc0 z (fd b_X z)<|dRg z z z hc0 z (l1 g_3 z fid<|h22.at (j := 2) z) ?_
    obtain ⟨x48, e24, hm25⟩ := bdS hm21
    refine a_V z z z hc0 z (at_ (α := g_) a_v D_ z z z h16 e24) ?_
    rintro _ ⟨b49, o4a, cs4b, rfl, h26, h27, h4c⟩
    obtain ⟨a28, n29, c2a, rfl, h2b⟩ := c_j h27
    refine dRg z z z hc0 z (lN (vs := [sl a28 n29 c2a]) P_ D_ z z fid h26)<|dRg z z z hc0 z (mv z)<|dRg z z z hc0 z (mv z) ?_
    obtain ⟨x4d, e2c, hm2d⟩ := bdS hm25
    refine a_V z z z hc0 z (at_ (α := o_) b_M V_ z z z (or_ hd<|a_.lt h5) e2c) ?_
    rintro _ ⟨b4e, o4f, cs4g, rfl, h2e, h2f, h4h⟩
    obtain ⟨a4i, n4j, c4k, rfl, h4l, h4m, h4n, h2g⟩ := d_R h2f
    refine dRg z z z hc0 z (fd c_B z)<|dRg z z z hc0 z (l1 I_ z fid<|h2e.at (j := 3) z) ?_
    obtain ⟨r2h, e2i, hm2j⟩ := bdS hm2d
    refine dEg z z z hc0 z (fc call69 z<|W_w2w (B := w9.z) e2i (a_A<|lt_ sa.s s6.s) (b_.mono h2b<|zt' hBw<|lt_ hv sc.s) h2g) (.inr fun _ _ h => z_<|h.1) ?_
    rintro _ w4o ⟨s2k, rfl⟩
    exact dRg z z z hc0 z (not_ z)<|dRg z z z hc1 z (pF z hc0 z)<|dR z z (pT z hc1 z)<|pD (fun _ q => ⟨!r2h, som hm2j, (q.k<|s4 z z z z), (bup s6 s2k)⟩)
   iterate 11 refine dRn z z z hc1 z ?_
   iterate 15 refine dRu z z z z ?_
   exact dEu z z z z<|dRu z z z z<|dRn z z z hc1 z<|dR z z (pF z hc1 z)<|pD (fun _ q => ⟨false, som<|ifF hm13 hc1, (q.k<|s4 z z z z), s6⟩)
  rintro a2l w4p ⟨xj, rfl, hS4q, s17⟩
  revert a2l
  refine Wo<|Wc z (fun hck => ?_) (fun hck => ?_)
  ·exact Ws<|Ra z<|Wn<|Wr<|rtO<|qL (som<|ifT hm12 hck).symm<|d_ hr z ⟨(bup (bup (bup (bup h4 s8) sc) sa) s17), z⟩
  exact Wk<|Wg<|Rm z<|R z (inc_ hk10 (lt_ (a_.len h5) G_) z z)<|Ra z<|Wl (fun _ q => ⟨(), (som<|ifF hm12 hck).symm, ⟨(q.k<|s3 z z z), (bup sa s17)⟩⟩)
 ·rintro _ a4r w4s ⟨hS2m, s18⟩
  refine Wu ?_ hS2m
  refine Wq<|Ws<|Rm z<|Rm z<|R z (lnR b_M z<|or_ (h5.e s18)<|a_.lt h5)<|R z (lss z z)<|Wn<|Wc z (fun hc => (O_ hc).elim) (fun _ => ?_)
  exact We (fun a' ha' => ⟨rfl, ⟨(Sat.weaken ha' sn), s18⟩⟩)
 ·rintro _ a2n w4t rfl ⟨hS4u, s2o⟩
  have hm2p := elL hmy
  revert a2n
  refine Wo<|Ws<|Ra z<|Wn ?_
  obtain rfl := som hm2p
  exact Wr<|d_ hr z ⟨(bup (bup (bup h4 s8) sc) s2o), z⟩
 rintro r4v ex4w a4x w4y rfl ⟨rfl, hq2q⟩
 have hm2r := elR hmy
 obtain rfl := som hm2r
 exact ⟨hq2q, z⟩
theorem W_w2y {x1 : w_} {res : (List s_)} (hm : g_Q n x1 = some res) (hBw : B ≤ w0.z) (p1_0 : b_ w0 B (sl A0 N0 C0) x1.registry.versions) (p1_1 : b_ w0 B (sl A1 N1 C1) x1.log.bytes) (p1_2 : inI x1.log.stored) : j_ prog 34 [(.agg #[sl A0 N0 C0, sl A1 N1 C1, vI x1.log.stored])] w0 (Q15 w0 B res) := by
 unfold g_Q at hm
 refine goF func34 z z (lb z) fun fn hr => Ws<|E z (fb z) ?_
 rintro _ w8 ⟨rfl, h3⟩
 have h0 := h3.below
 have h4 : Blk w8 w0.z [sl A0 N0 C0, sl A1 N1 C1, vI x1.log.stored] := h3.blk
 refine Ra z<|Wn<|Wq<|Ws<|R z (fd b_a z)<|R z (lN (vs := [sl A1 N1 C1, vI x1.log.stored]) a_u a_2 z z fid<|h4.row 1 2 z) ?_
 obtain ⟨rl, e9, hm5⟩ := bdS hm
 refine E z (fc call65 z<|i_T (B := B) (x1 := (⟨x1.log.bytes, x1.log.stored⟩ : Log)) e9 (zt' hBw h0.s) (p1_1.e h0) p1_2) ?_
 rintro _ wm ⟨s1, rfl⟩
 refine R z (not_ z)<|Wn<|Wc z (fun hc2 => ?_) (fun hc2 => ?_)
 ·refine Ws<|E z (f0 (α := s_) b_K) ?_
  rintro _ wn ⟨aa, nb, cc, rfl, sd, h6⟩
  refine Ra z<|Wn ?_
  obtain rfl := som (ifT hm5 hc2)
  exact Wr<|d_ hr z ⟨(bup (bup h0 s1) sd), aa, nb, cc, z, (b_.mono (or_ h6<|zin (B := B) (f_ lr)<|a_.lt h6)<|b_P (lt_ h0.s s1.s) lr)⟩
 refine Wk<|Ws<|R z (fd b_a z)<|R z (fd a_S z)<|R z (l1 I_ z fid<|(h4.e s1).at z) ?_
 have h7 := lt_ h0.s s1.s
 obtain ⟨ro, ee, hmf⟩ := bdS (ifF hm5 hc2)
 refine E z (fc call66 z<|W_w10 (B := B) ee (zt' hBw h7)<|p1_1.g<|(h0.ag B).e s1) ?_
 rintro _ wp ⟨sg, ah, ni, cj, rfl, hk⟩
 refine Ra z<|Wn ?_
 obtain rfl := som hmf
 exact Wr<|d_ hr z ⟨(bup (bup h0 s1) sg), ah, ni, cj, z, (b_.mono hk<|b_P h7 lr)⟩
theorem W_w2z {x1 : List s_} {x2 : Str} {res : Int} (hm : h_f x1 x2 = some res) (hBw : B ≤ w0.z) (p1_0 : b_ w0 B (sl A0 N0 C0) x1) (p2_0 : x2.b.length ≤ LEN) : j_ prog 57 [sl A0 N0 C0, Str.v x2] w0 (Q0 w0 B res) := by
 unfold h_f at hm
 refine goF func57 z z (lb z) fun fn hr => Ws<|Ra z<|Wn<|Wq<|Ws<|Ra z<|Wn ?_
 obtain ⟨uk, hu8, hm3⟩ := bdS hm
 refine Wf (σ := Unit) (ρ := Int) (fun (k4 : Nat) (_ : Unit) a w => Sat 20 [(0, sl A0 N0 C0), (1, Str.v x2), (5, (vI ((k4 : Nat) : Int)))] a ∧ Below w0.z w0 w) (fun (_ : Unit) a w => Sat 20 [] a ∧ Below w0.z w0 w) (fun r ex a w => ex = .ret ∧ v_ prog fn (Q0 w0 B r) a w) hu8 ?_ ?_ ?_ ?_ ?_
 ·exact fun _ q => ⟨(q.k<|s3 z z z), (br w0)⟩
 ·rintro k4 _ al wm on hk0 ⟨hS9, s1⟩ hma
  refine Wu ?_ hS9
  refine Wq<|Ws<|Rm z<|Rm z ?_
  have h5 := p1_0.e s1
  refine R z (lnR b_l z h5)<|R z (lss z z)<|Wn<|Wc z (fun _ => ?_) (fun hc => (N_ hk0 hc).elim)
  refine Wk<|Wq<|Wb<|Ws<|Rm z<|Rm z ?_
  obtain ⟨xo, eb, hm6⟩ := bdS hma
  refine RX z (at_ (α := s_) b_l a_q z z z h5 eb) ?_
  rintro _ ⟨bp, oq, csr, rfl, hd, he, ht⟩
  obtain ⟨au, ns, cv, rfl, hw, hx, hy⟩ := e_t he
  refine R z (fd h_q z)<|R z (l1 g_9 z fid<|hd.at (j := 0) z)<|Rm z<|R z (d_s z z)<|Wn<|Wc z (fun hc2 => ?_) (fun hc2 => ?_)
  ·exact Ws<|Rm z<|Ra z<|Wn<|Wr<|rtO<|qL (som<|ifT hm6 hc2).symm<|d_ hr z ⟨s1, z, (ic (Nat.le_of_lt hk0)<|lt_ (b_.len p1_0) G_)⟩
  exact Wk<|Wg<|Rm z<|R z (inc_ hk0 (lt_ (b_.len p1_0) G_) z z)<|Ra z<|Wl (fun _ q => ⟨(), (som<|ifF hm6 hc2).symm, ⟨(q.k<|s3 z z z), s1⟩⟩)
 ·rintro _ az w10 ⟨hSc, s7⟩
  refine Wu ?_ hSc
  refine Wq<|Ws<|Rm z<|Rm z<|R z (lnR b_l z<|p1_0.e s7)<|R z (lss z z)<|Wn<|Wc z (fun hc => (O_ hc).elim) (fun _ => ?_)
  exact We (fun a' ha' => ⟨rfl, ⟨(Sat.weaken ha' sn), s7⟩⟩)
 ·rintro _ af w11 rfl ⟨hS12, sg⟩
  have hmh := elL hm3
  revert af
  refine Wo<|Ws<|Ra z<|Wn ?_
  obtain rfl := som hmh
  exact Wr<|d_ hr z ⟨sg, z, (ii z)⟩
 rintro r13 ex14 a15 w16 rfl ⟨rfl, hqi⟩
 have hmj := elR hm3
 obtain rfl := som hmj
 exact ⟨hqi, z⟩
def Q19 (w0 : World) (B : Zone) (r : Log × Bool) (v : Value) (w' : World) : Prop := Bw w0 w' ∧ un2 (fun r1 r2 => ∃ a1 n1 c1 S1, v = .tuple #[(.agg #[.slice a1 n1 c1, vI r1.stored]), vB r2] ∧ a_ w' S1 (sl a1 n1 c1) r1.bytes ∧ inI r1.stored ∧ S1.Nodup ∧ (∀ k ∈ S1, w0.z ≤ k)) r
theorem W_w30 {x1 : Log} {x2 : o_} {res : Log × Bool} (hm : h_d n x1 x2 = some res) (hBw : B ≤ w0.z) (p1_0 : b_ w0 B (sl A0 N0 C0) x1.bytes) (p1_1 : inI x1.stored) (p2_0 : inI x2.kind) (p2_1 : x2.name.b.length ≤ LEN) (p2_2 : inI x2.version) (p2_3 : b_ w0 B (sl AC NC CC) x2.data) : j_ prog 55 [(.agg #[sl A0 N0 C0, vI x1.stored]), (.agg #[vI x2.kind, Str.v x2.name, vI x2.version, sl AC NC CC])] w0 (Q19 w0 B res) := by
 unfold h_d at hm
 refine goF func55 z z (lb z) fun fn hr => Ws<|E z (fb z) ?_
 rintro _ wp ⟨rfl, h10⟩
 have he := h10.below
 have h11 : Blk wp w0.z [sl A0 N0 C0, vI x1.stored] := h10.blk
 refine E z (fb z) ?_
 rintro _ wf ⟨rfl, h12⟩
 have h9 := h12.below
 have hg : Blk wf wp.z [vI x2.kind, Str.v x2.name, vI x2.version, sl AC NC CC] := h12.blk
 refine E z (fa c_C) ?_
 rintro _ w1o ⟨rfl, h13⟩
 have h4 := h13.below
 have h7 : Blk w1o wf.z [sl none 0 0, vI 0] := h13.blk
 refine Ra z<|Wn<|Ws ?_
 have h14 := (h11.e h9).e h4
 refine R z (lN (vs := [sl A0 N0 C0, vI x1.stored]) a_u a_2 z z fid<|h14.row 0 2 z) ?_
 have hq := ((he.ag B).e h9).e h4
 have ht := lt_ he.s h9.s
 have ha := lt_ ht h4.s
 obtain ⟨rb, e1p, hm1q⟩ := bdS hm
 refine E z (fc call75 z<|W_w0s (B := B) e1p (zt' hBw ha) (p1_0.g hq) p1_1) ?_
 rintro _ wc ⟨s0, ah, ni, cj, S1r, rfl, hk, h15, h16, hl⟩
 refine E z (fa c_C) ?_
 rintro _ w1s ⟨rfl, h17⟩
 have h2 := h17.below
 have h18 : Blk w1s wc.z [sl none 0 0, vI 0] := h17.blk
 refine E0 (fs (cur' := [sl ah ni cj, vI rb.stored]) a_2 z z h18 z (lb z) (oA z) z) ?_
 rintro _ w19 ⟨h1a, s1t⟩
 have h1 := s1t.one
 refine Wn<|Wq<|Wq ?_
 obtain ⟨u1u, hu1v, hm1b⟩ := bdS hm1q
 refine Wt (fun a w => ∃ (xr : Bool), xr = u1u ∧ Sat 25 [(3, pt wp.z), (4, pt wf.z), (6, pt wc.z), (16, vB xr)] a ∧ Below w19.z w19 w) ?_ ?_
 ·refine Wg<|R z (lN (vs := [sl A0 N0 C0, vI x1.stored]) a_u a_2 z z fid<|(((h14.e s0).e h2).c h1<|djs<|mm1 h11.lt<|lt_ (lt_ h9.s h4.s) s0.s).row 0 2 z) ?_
  have h1c := lt_ ha s0.s
  have h1w : ∀ k ∈ [wc.z], ¬ B k := or0 (f_ lr)  (p_ (zt' hBw h1c))
  have h1d := ((hq.e s0).e h2).c h1<|h_ h1w
  have h1e := lt_ (lt_ h1c h2.s) h1.s
  obtain ⟨r1x, e1y, hm1f⟩ := bdS hu1v
  refine E z (fc call65 z<|i_T (B := B) e1y (zt' hBw h1e) (p1_0.g h1d) p1_1) ?_
  rintro _ w2l ⟨sd, rfl⟩
  refine R z (not_ z)<|Rm z ?_
  rcases bs (!r1x) with hc5 | hc5
  ·iterate 3 refine Nh z hc5 ?_
   exact R z (pT z hc5 z)<|Wl (fun _ q => ⟨true, som<|ifT hm1f hc5, (q.k<|s4 z z z z), sd⟩)
  refine Rh z hc5 (lN (vs := [vI x2.kind, Str.v x2.name, vI x2.version, sl AC NC CC]) a_I V_ z z fid<|(((((hg.e h4).e s0).e h2).c h1<|djs<|mm1 hg.lt<|lt_ h4.s s0.s).e sd).row 0 4 z) ?_
  obtain ⟨r1z, e20, hm21⟩ := bdS (ifF hm1f hc5)
  refine Eg z z hc5 z (fc call76 z<|W_w0w (B := B) e20 (zt' hBw<|lt_ h1e sd.s) p2_0 p2_1 p2_2<|p2_3.g<|h1d.e sd) ?_
  rintro _ w2m ⟨s22, rfl⟩
  exact Rh z hc5 (not_ z)<|R z (pF z hc5 z)<|Wl (fun _ q => ⟨!r1z, som hm21, (q.k<|s4 z z z z), (bup sd s22)⟩)
 rintro a23 w2n ⟨xr, rfl, hS2o, s3⟩
 revert a23
 refine Wo<|Wc z (fun hcs => ?_) (fun hcs => ?_)
 ·refine Ws<|R z (lN (vs := [sl ah ni cj, vI rb.stored]) a_u a_2 z z fid<|(h1a.e s3).row 0 2 z)<|E0 (fs (cur' := [sl ah ni cj, vI rb.stored]) a_2 z z ((((h7.e s0).e h2).c h1<|djs<|mm1 h7.lt s0.s).e s3) z (lb z) (oA z) z) ?_
  rintro _ w2p ⟨h24, s25⟩
  have h1g := s25.one
  refine Ra z<|Wn ?_
  obtain rfl := som (ifT hm1b hcs)
  exact Wr<|a_z hr (r_ a_u a_2 z h24 z) z ⟨(bM (bup (bM (bup (bup (bup (bup he h9) h4) s0) h2) h1<|m1<|lt_ ha s0.s) s3) h1g<|m1 ht), ah, ni, cj, S1r, z, ((((hk.e h2).c h1<|ds<|mnr<|a_.lt hk).e s3).c h1g<|m_ hl h7.lt lr), h15, h16, (l_ hl ha)⟩
 refine Wk<|Wq (Wd (X := noX) 80 (.rd 0 (.rd 1 (.rd 2 (.ef 3 (.ef 4 (.rd 5 (.ef 6 .done))))))) mo (by kernel_rfl) fun w2q s6 _ => dR z z (fd a_S z) ?_)
 have h1h := (h1a.e s3).e s6
 refine dR z z (l1 I_ z fid<|h1h.at z)<|dR z z (lN (vs := [vI x2.kind, Str.v x2.name, vI x2.version, sl AC NC CC]) a_I V_ z z fid<|((((((hg.e h4).e s0).e h2).c h1<|djs<|mm1 hg.lt<|lt_ h4.s s0.s).e s3).e s6).row 0 4 z) ?_
 have hu := lt_ ha s0.s
 have h26 : ∀ k ∈ [wc.z], ¬ B k := or0 (f_ lr)  (p_ (zt' hBw hu))
 have h1i := lt_ (lt_ (lt_ (lt_ hu h2.s) h1.s) s3.s) s6.s
 obtain ⟨r2r, e27, hm28⟩ := bdS (ifF hm1b hcs)
 refine dE z z (fc call48 z<|W_w0z (B := B) e27 (zt' hBw h1i) p2_0 p2_1 p2_2<|p2_3.g<|((((hq.e s0).e h2).c h1<|h_ h26).e s3).e s6) (.inr fun _ _ h => z_<|h.1) ?_
 rintro _ w2s ⟨s8, a2t, n2u, c2v, S2w, rfl, h29, h2x, h2y⟩
 have hv := mnr<|a_.lt hk
 obtain ⟨x2z, e2a, hm2b⟩ := bdS hm28
 refine dE z z (fN (α := UInt8) C_ e2a z z (((((hk.e h2).c h1<|ds hv).e s3).e s6).e s8) h16<|a_.rep h29) (.inl z) ?_
 rintro _ w30 ⟨Sw, am, nn, co, rfl, sx, h2c, h2d, hy⟩
 refine dR z z (fd a_S z)<|dE0 z (fs (cur' := [sl am nn co, vI rb.stored]) e_q z z ((h1h.e s8).c sx<|atp hv) z (lb z) (oA z) z) (.inl z) ?_
 rintro _ w31 ⟨h2e, s2f⟩
 have hz := s2f.one
 refine pD<|Wo<|Ws<|R z (lN (vs := [sl am nn co, vI rb.stored]) a_u a_2 z z fid<|h2e.row 0 2 z) ?_
 have h1j := mm1 h7.lt s0.s
 have h1k := m_ hl h7.lt lr
 have h2g := (((((((h7.e s0).e h2).c h1<|djs h1j).e s3).e s6).e s8).c sx<|djs h1k).c hz<|djs h1j
 refine E0 (fs (cur' := [sl am nn co, vI rb.stored]) a_2 z z h2g z (lb z) (oA z) z) ?_
 rintro _ w32 ⟨h2h, s2i⟩
 have h1l := s2i.one
 refine Ra z<|Wn ?_
 obtain rfl := som hm2b
 have h2j : ∀ k ∈ Sw, k ∉ [wc.z] := or1 hy (ds hv) (Q_ (f_ h18.lt) (lt_ (lt_ (lt_ h1.s s3.s) s6.s) s8.s))
 have h2k : ∀ k ∈ Sw, k ∉ [wf.z] := or1 hy h1k (Q_ (f_ h7.lt) (lt_ (lt_ (lt_ (lt_ (lt_ s0.s h2.s) h1.s) s3.s) s6.s) s8.s))
 have h1m := m1 hu
 have h1n := l_ hl ha
 exact Wr<|a_z hr (r_ a_u a_2 z h2h z) z ⟨(bM (bM (bM (bup (bup (bup (bM (bup (bup (bup (bup he h9) h4) s0) h2) h1 h1m) s3) s6) s8) sx h1n) hz h1m) h1l<|m1 ht), am, nn, co, Sw, z, ((h2c.c hz h2j).c h1l h2k), h15, h2d, (a_b hy h1n<|lt_ h1i s8.s)⟩
def Q20 (w0 : World) (B : Zone) (r : w_ × Bool) (v : Value) (w' : World) : Prop := Bw w0 w' ∧ un2 (fun r1 r2 => ∃ a1 n1 c1 S1 a2 n2 c2 S2, v = .tuple #[(.agg #[.slice a1 n1 c1, sl a2 n2 c2, vI r1.log.stored]), vB r2] ∧ a_ w' S1 (sl a1 n1 c1) r1.registry.versions ∧ a_ w' S2 (sl a2 n2 c2) r1.log.bytes ∧ inI r1.log.stored ∧ (S1 ++ S2).Nodup ∧ (∀ k ∈ (S1 ++ S2), w0.z ≤ k)) r
theorem W_w31 {x1 : w_} {x2 : Str} {res : w_ × Bool} (hm : h_g n x1 x2 = some res) (hBw : B ≤ w0.z) (p1_0 : b_ w0 B (sl A0 N0 C0) x1.registry.versions) (p1_1 : b_ w0 B (sl A1 N1 C1) x1.log.bytes) (p1_2 : inI x1.log.stored) (p2_0 : x2.b.length ≤ LEN) : j_ prog 28 [(.agg #[sl A0 N0 C0, sl A1 N1 C1, vI x1.log.stored]), Str.v x2] w0 (Q20 w0 B res) := by
 unfold h_g at hm
 refine goF func28 z z (lb z) fun fn hr => Ws<|E z (fb z) ?_
 rintro _ wr ⟨rfl, h16⟩
 have hc := h16.below
 have hw : Blk wr w0.z [sl A0 N0 C0, sl A1 N1 C1, vI x1.log.stored] := h16.blk
 refine E z (fa b_Y) ?_
 rintro _ w1t ⟨rfl, h17⟩
 have ha := h17.below
 have h5 : Blk w1t wr.z [sl none 0 0, sl none 0 0, vI 0] := h17.blk
 refine Ra z<|Wn<|Ws ?_
 have hx := hw.e ha
 refine R z (lN (vs := [sl A0 N0 C0, sl A1 N1 C1, vI x1.log.stored]) a_n Z_ z z fid<|hx.row 0 3 z) ?_
 have hn := (hc.ag B).e ha
 have hb := lt_ hc.s ha.s
 obtain ⟨rs, e1u, hm1v⟩ := bdS hm
 refine E z (fc call47 z<|W_w2e (B := B) e1u (zt' hBw hb) (p1_0.g hn) (p1_1.g hn) p1_2) ?_
 rintro _ wm ⟨s0, a6, n7, c8, S18, ao, np, cq, S1w, rfl, hd, h19, h1x, ht, he⟩
 refine E z (fa b_Y) ?_
 rintro _ w1y ⟨rfl, h1a⟩
 have h2 := h1a.below
 have hy : Blk w1y wm.z [sl none 0 0, sl none 0 0, vI 0] := h1a.blk
 refine E0 (fs (cur' := [sl a6 n7 c8, sl ao np cq, vI rs.log.stored]) Z_ z z hy z (lb z) (oA z) z) ?_
 rintro _ w1b ⟨h1c, s1z⟩
 have h1 := s1z.one
 refine Wn<|Wq<|Wq ?_
 obtain ⟨u20, hu21, hm1d⟩ := bdS hm1v
 refine Wt (fun a w => ∃ (xz : Bool), xz = u20 ∧ Sat 34 [(1, Str.v x2), (2, pt w0.z), (4, pt wr.z), (6, pt wm.z), (20, vB xz)] a ∧ Below w1b.z w1b w) ?_ ?_
 ·refine Wg ?_
  have h1e := ((hx.e s0).e h2).c h1<|djs<|mm1 hw.lt<|lt_ ha.s s0.s
  refine R z (lN (vs := [sl A0 N0 C0, sl A1 N1 C1, vI x1.log.stored]) a_n Z_ z z fid<|h1e.row 0 3 z) ?_
  have h1f := lt_ hb s0.s
  have h22 : ∀ k ∈ [wm.z], ¬ B k := or0 (f_ lr)  (p_ (zt' hBw h1f))
  have h10 := ((hn.e s0).e h2).c h1<|h_ h22
  have h1g := lt_ (lt_ h1f h2.s) h1.s
  obtain ⟨r23, e24, hm1h⟩ := bdS hu21
  refine E z (fc call35 z<|W_w2x (B := B) e24 (zt' hBw h1g) (p1_0.g h10) (p1_1.g h10) p1_2) ?_
  rintro _ w25 ⟨si, rfl⟩
  refine R z (not_ z)<|Rm z ?_
  rcases bs (!r23) with hc4 | hc4
  ·iterate 5 refine Nh z hc4 ?_
   exact R z (pT z hc4 z)<|Wl (fun _ q => ⟨true, som<|ifT hm1h hc4, (q.k<|s5 z z z z z), si⟩)
  refine Rh z hc4 (lN (vs := [sl A0 N0 C0, sl A1 N1 C1, vI x1.log.stored]) a_n Z_ z z fid<|(h1e.e si).row 0 3 z) ?_
  have h1i := h10.e si
  have h1j := lt_ h1g si.s
  obtain ⟨r2y, e26, hm27⟩ := bdS (ifF hm1h hc4)
  refine Eg z z hc4 z (fc call34 z<|W_w2y (B := B) e26 (zt' hBw h1j) (p1_0.g h1i) (p1_1.g h1i) p1_2) ?_
  rintro _ w28 ⟨s1k, a2z, n30, c31, rfl, h29⟩
  refine Rh z hc4 (mv z) ?_
  obtain ⟨r2a, e2b, hm2c⟩ := bdS hm27
  refine Eg z z hc4 z (fc call57 z<|W_w2z (B := (zn B w25.z w28.z)) e2b (e_y (zt' hBw<|lt_ h1j s1k.s) lr) h29 p2_0) ?_
  rintro _ w32 ⟨s2d, rfl, h33⟩
  exact Rh z hc4 (lss z z)<|R z (pF z hc4 z)<|Wl (fun _ q => ⟨decide (r2a < 0), som hm2c, (q.k<|s5 z z z z z), (bup (bup si s1k) s2d)⟩)
 rintro a2e w34 ⟨xz, rfl, hS35, s3⟩
 revert a2e
 refine Wo<|Wc z (fun hc11 => ?_) (fun hc11 => ?_)
 ·refine Ws<|R z (lN (vs := [sl a6 n7 c8, sl ao np cq, vI rs.log.stored]) a_n Z_ z z fid<|(h1c.e s3).row 0 3 z)<|E0 (fs (cur' := [sl a6 n7 c8, sl ao np cq, vI rs.log.stored]) Z_ z z ((((h5.e s0).e h2).c h1<|djs<|mm1 h5.lt s0.s).e s3) z (lb z) (oA z) z) ?_
  rintro _ w36 ⟨h2f, s2g⟩
  have h12 := s2g.one
  refine Ra z<|Wn ?_
  obtain rfl := som (ifT hm1d hc11)
  exact Wr<|a_z hr (r_ a_n Z_ z h2f z) z ⟨(bM (bup (bM (bup (bup (bup hc ha) s0) h2) h1<|m1<|lt_ hb s0.s) s3) h12<|m1 hc.s), a6, n7, c8, S18, ao, np, cq, S1w, z, ((((hd.e h2).c h1<|ds<|mnr<|a_.lt hd).e s3).c h12<|m_ (al_ he) h5.lt lr), ((((h19.e h2).c h1<|ds<|mnr<|a_.lt h19).e s3).c h12<|m_ (ar_ he) h5.lt lr), h1x, (na_ (nl_ ht) (nr_ ht)<|nj ht), (aa_ (l_ (al_ he) hb)<|l_ (ar_ he) hb)⟩
 refine Wk<|Ws<|R z (fd b_a z)<|R z (lN (vs := [sl A1 N1 C1, vI x1.log.stored]) a_u a_2 z z fid<|((((hx.e s0).e h2).c h1<|djs<|mm1 hw.lt<|lt_ ha.s s0.s).e s3).row 1 2 z)<|Rm z<|R z (bP (parts := [(0, (.const (.int .i64 2))), (1, (.tmp 25))]) (cs := [vI 2, Str.v x2, vI 0, sl none 0 0]) b_V z z) ?_
 have h13 := lt_ hb s0.s
 have h2h : ∀ k ∈ [wm.z], ¬ B k := or0 (f_ lr)  (p_ (zt' hBw h13))
 have h14 := lt_ (lt_ (lt_ h13 h2.s) h1.s) s3.s
 obtain ⟨rj, r37, e2i, hm2j⟩ := a_w (ifF hm1d hc11)
 refine E z (fc call55 z<|W_w30 (B := w0.z) (x1 := (⟨x1.log.bytes, x1.log.stored⟩ : Log)) (x2 := (⟨2, x2, 0, ([] : List UInt8)⟩ : o_)) e2i (a_A h14) (b_.mono (p1_1.g<|(((hn.e s0).e h2).c h1<|h_ h2h).e s3) hBw) p1_2 (ii z) p2_0 (ii z)<|or_ onL an_) ?_
 rintro _ w2k ⟨s9, af, ng, ch, S2l, rfl, h1l, h2m, h2n, hu⟩
 refine Rm z<|R z (ext_ z z)<|R z (ext_ z z)<|E z (fa c_C) ?_
 rintro _ w2o ⟨rfl, h1m⟩
 have hk := h1m.below
 have h2p : Blk w2o w2k.z [sl none 0 0, vI 0] := h1m.blk
 refine E0 (fs (cur' := [sl af ng ch, vI rj.stored]) a_2 z z h2p z (lb z) (oA z) z) ?_
 rintro _ w38 ⟨h2q, s2r⟩
 have hl := s2r.one
 refine Ra z<|Wn<|Ws<|R z (lN (vs := [sl af ng ch, vI rj.stored]) a_u a_2 z z fid<|h2q.row 0 2 z)<|R z (fd b_a z) ?_
 have h1n := lt_ h1.s s3.s
 refine E0 (fs (cur' := [sl a6 n7 c8, sl af ng ch, vI rj.stored]) a_2 z z ((((h1c.e s3).e s9).e hk).c hl<|djs<|mm1 hy.lt<|lt_ h1n s9.s) z (lb z) (oA z) z) ?_
 rintro _ w39 ⟨h2s, s2t⟩
 have hv := s2t.one
 refine Wn<|Ws<|R z (lN (vs := [sl a6 n7 c8, sl af ng ch, vI rj.stored]) a_n Z_ z z fid<|h2s.row 0 3 z)<|Rm z ?_
 have h1o := mm1 h5.lt s0.s
 have h1p := lt_ (lt_ (lt_ s0.s h2.s) h1.s) s3.s
 have h2u := (((((((h5.e s0).e h2).c h1<|djs h1o).e s3).e s9).e hk).c hl<|djs<|mm1 h5.lt<|lt_ h1p s9.s).c hv<|djs h1o
 refine E0 (fs (cur' := [sl a6 n7 c8, sl af ng ch, vI rj.stored]) Z_ z z h2u z (lb z) (oA z) z) ?_
 rintro _ w3a ⟨h2v, s2w⟩
 have h15 := s2w.one
 refine Ra z<|Wn ?_
 obtain rfl := som hm2j
 have h1q := mnr<|a_.lt hd
 have h1r := lt_ (lt_ h2.s h1.s) s3.s
 have h2x := (((((((hd.e h2).c h1<|ds h1q).e s3).e s9).e hk).c hl<|ds<|mno (a_.lt hd)<|lt_ h1r s9.s).c hv<|ds h1q).c h15<|m_ (al_ he) h5.lt lr
 have h1s := m1 h13
 exact Wr<|a_z hr (r_ a_n Z_ z h2v z) z ⟨(bM (bM (bM (bup (bup (bup (bM (bup (bup (bup hc ha) s0) h2) h1 h1s) s3) s9) hk) hl<|m1<|lt_ h14 s9.s) hv h1s) h15<|m1 hc.s), a6, n7, c8, S18, af, ng, ch, S2l, z, h2x, ((((h1l.e hk).c hl<|ds<|mnr<|a_.lt h1l).c hv<|m_ hu hy.lt h1n).c h15<|m_ hu h5.lt h1p), h2m, (na_ (nl_ ht) h2n<|ds<|U_ hu (a_.lt hd) h1r), (aa_ (l_ (al_ he) hb)<|l_ hu h14)⟩
theorem W_w32 {x1 : c_} {res : c_} (hm : h_7 x1 = some res) (hBw : B ≤ w0.z) (p1_0 : x1.name.b.length ≤ LEN) (p1_1 : inI x1.kind) (p1_2 : inI x1.size) (p1_4 : b_ w0 B (sl AB NB CB) x1.bytes) (p1_5 : b_ w0 B (sl A7 N7 C7) x1.names) (p1_6 : b_ w0 B (sl AA NA CA) x1.tags) (p1_7 : b_ w0 B (sl A8 N8 C8) x1.kids) : j_ prog 134 [(.agg #[Str.v x1.name, vI x1.kind, vI x1.size, vB x1.little, sl AB NB CB, sl A7 N7 C7, sl AA NA CA, sl A8 N8 C8])] w0 (Q4 w0 B res) := by
 unfold h_7 at hm
 refine goF func134 z z (lb z) fun fn hr => Ws<|E z (fb z) ?_
 rintro _ wg ⟨rfl, h1c⟩
 have hv := h1c.below
 have h5 : Blk wg w0.z (vR x1 AB NB CB A7 N7 C7 AA NA CA A8 N8 C8) := h1c.blk
 refine E z (fa b_N) ?_
 rintro _ w1d ⟨rfl, h1e⟩
 have hh := h1e.below
 have h6 : Blk w1d wg.z [(Str.v (⟨[]⟩ : Str)), vI 0, vI 0, vB false, sl none 0 0, sl none 0 0, sl none 0 0, sl none 0 0] := h1e.blk
 refine Wn<|Ws<|E z (f0 (α := UInt8) C_) ?_
 rintro _ w3u ⟨a3v, n3w, c3x, rfl, sa, h2q⟩
 refine R z (fd a_N z) ?_
 have h1f := (h5.e hh).e sa
 refine R z (l1 I_ z fid<|h1f.at z) ?_
 obtain ⟨x3y, e2r, hm2s⟩ := bdS hm
 have h1g := ((hv.ag B).e hh).e sa
 refine E z (fN (α := UInt8) C_ e2r z z h2q X_<|p1_4.g h1g) ?_
 rintro _ w3z ⟨S11, ab, nc, cd, rfl, se, hf, h2t, h12⟩
 refine R z (fd a_N z) ?_
 have h1h := mm1 h5.lt hh.s
 refine E0 (fs (cur' := (vR x1 ab nc cd A7 N7 C7 AA NA CA A8 N8 C8)) e_q z z (h1f.c se<|djs h1h) z (lb z) (oA z) z) ?_
 rintro _ w2u ⟨h2v, s2w⟩
 have h7 := s2w.one
 refine Wn<|Ws<|E z (f0 (α := Str) f_n) ?_
 rintro _ w40 ⟨a41, n42, c43, rfl, s8, h2x⟩
 refine R z (fd b_p z) ?_
 have h1i := h2v.e s8
 refine R z (l1 b_x z fid<|h1i.at z) ?_
 obtain ⟨x44, e2y, hm2z⟩ := bdS hm2s
 have h13 := lt_ hv.s hh.s
 have h30 : ∀ k ∈ [w1d.z], ¬ B k := or0 (f_ lr)  (p_ (zt' hBw h13))
 have h14 : ∀ k ∈ [w0.z], ¬ B k := or0 (f_ lr)  (p_ hBw)
 have h1j := ((h1g.c se<|h_ h30).c h7<|h_ h14).e s8
 refine E z (fN (α := Str) f_n e2y z z h2x X_<|p1_5.g h1j) ?_
 rintro _ w45 ⟨S15, ai, nj, ck, rfl, s9, ho, h31, hw⟩
 refine R z (fd b_p z) ?_
 have h1k := lt_ hh.s sa.s
 have h1l := lt_ (lt_ h1k se.s) h7.s
 have h1m := mm1 h5.lt h1l
 refine E0 (fs (cur' := (vR x1 ab nc cd ai nj ck AA NA CA A8 N8 C8)) z_41 z z (h1i.c s9<|djs h1m) z (lb z) (oA z) z) ?_
 rintro _ w32 ⟨h33, s34⟩
 have h2 := s34.one
 refine Wn<|Ws<|E z (f0 (α := Int) c_f) ?_
 rintro _ w46 ⟨a47, n48, c49, rfl, s3, h35⟩
 refine R z (fd a_J z) ?_
 have h1n := h33.e s3
 refine R z (l1 H_ z fid<|h1n.at z) ?_
 obtain ⟨x4a, e36, hm37⟩ := bdS hm2z
 have h1o := lt_ h13 sa.s
 have h16 := lt_ (lt_ h1o se.s) h7.s
 have h38 : ∀ k ∈ [w2u.z], ¬ B k := or0 (f_ lr)  (p_ (zt' hBw h16))
 have h1p := ((h1j.c s9<|h_ h38).c h2<|h_ h14).e s3
 refine E z (fN (α := Int) c_f e36 z z h35 X_<|p1_6.g h1p) ?_
 rintro _ w4b ⟨S17, ap, nq, cr, rfl, s4, h18, h39, ht⟩
 refine R z (fd a_J z) ?_
 have h1q := lt_ h1l s8.s
 have h1r := lt_ (lt_ h1q s9.s) h2.s
 have h1s := mm1 h5.lt h1r
 refine E0 (fs (cur' := (vR x1 ab nc cd ai nj ck ap nq cr A8 N8 C8)) e_p z z (h1n.c s4<|djs h1s) z (lb z) (oA z) z) ?_
 rintro _ w4c ⟨h3a, s3b⟩
 have h0 := s3b.one
 refine Wn<|Ws<|E z (f0 (α := Int) c_f) ?_
 rintro _ w4d ⟨a4e, n4f, c4g, rfl, s1, h3c⟩
 refine R z (fd a_5 z) ?_
 have h1t := h3a.e s1
 refine R z (l1 H_ z fid<|h1t.at z) ?_
 obtain ⟨x4h, e3d, hm3e⟩ := bdS hm37
 have h1u := lt_ h16 s8.s
 have h19 := lt_ (lt_ h1u s9.s) h2.s
 have h3f : ∀ k ∈ [w32.z], ¬ B k := or0 (f_ lr)  (p_ (zt' hBw h19))
 refine E z (fN (α := Int) c_f e3d z z h3c X_<|p1_7.g<|((h1p.c s4<|h_ h3f).c h0<|h_ h14).e s1) ?_
 rintro _ w4i ⟨S1a, ax, ns, cy, rfl, sm, h3g, h3h, hl⟩
 refine R z (fd a_5 z) ?_
 have h1v := lt_ h1r s3.s
 have h1w := lt_ (lt_ h1v s4.s) h0.s
 have h1x := mm1 h5.lt h1w
 refine E0 (fs (cur' := (vR x1 ab nc cd ai nj ck ap nq cr ax ns cy)) e_p z z (h1t.c sm<|djs h1x) z (lb z) (oA z) z) ?_
 rintro _ w4j ⟨h3i, s3j⟩
 have hn := s3j.one
 refine Wn<|Ws<|R z (lN (vs := (vR x1 ab nc cd ai nj ck ap nq cr ax ns cy)) K_ q_ z z fid<|h3i.row 0 8 z) ?_
 have h1y := mmr h6.lt
 have hz := mmr h5.lt
 have h1z := lt_ (lt_ sa.s se.s) h7.s
 have h20 := mm1 h6.lt h1z
 have h3k := (((((h6.e sa).c se<|djs h1y).c h7<|atp hz).e s8).c s9<|djs h20).c h2<|atp hz
 have h21 := lt_ h1z s8.s
 have h22 := lt_ (lt_ h21 s9.s) h2.s
 have h23 := mm1 h6.lt h22
 have h24 := lt_ h22 s3.s
 have h25 := lt_ (lt_ h24 s4.s) h0.s
 have h26 := mm1 h6.lt h25
 have h3l := (((((h3k.e s3).c s4<|djs h23).c h0<|atp hz).e s1).c sm<|djs h26).c hn<|atp hz
 refine E0 (fs (cur' := (vR x1 ab nc cd ai nj ck ap nq cr ax ns cy)) q_ z z h3l z (lb z) (oA z) z) ?_
 rintro _ w4k ⟨h3m, s3n⟩
 have hu := s3n.one
 refine Wn ?_
 obtain rfl := som hm3e
 have h10 : ∀ k ∈ S11, k ∉ [w0.z] := or1 h12 h1h (Q_ (f_ h5.lt) h1k)
 have h27 := mno (a_.lt hf) h7.s
 have h28 := lt_ h7.s s8.s
 have h29 := lt_ (lt_ h28 s9.s) h2.s
 have h2a := mno (a_.lt hf) h29
 have h2b := lt_ h29 s3.s
 have h2c := lt_ (lt_ h2b s4.s) h0.s
 have h2d := mno (a_.lt hf) h2c
 have h3o : ∀ k ∈ S11, k ∉ [wg.z] := or1 h12 h1y (Q_ (f_ h6.lt) sa.s)
 have h1b : ∀ k ∈ S15, k ∉ [w0.z] := or1 hw h1m (Q_ (f_ h5.lt) h1q)
 have h2e := mno (a_.lt ho) h2.s
 have h2f := lt_ h2.s s3.s
 have h2g := lt_ (lt_ h2f s4.s) h0.s
 have h2h := mno (a_.lt ho) h2g
 have h3p : ∀ k ∈ S15, k ∉ [wg.z] := or1 hw h20 (Q_ (f_ h6.lt) h21)
 have h2i : ∀ k ∈ S17, k ∉ [w0.z] := or1 ht h1s (Q_ (f_ h5.lt) h1v)
 have h2j := mno (a_.lt h18) h0.s
 have h3q : ∀ k ∈ S17, k ∉ [wg.z] := or1 ht h23 (Q_ (f_ h6.lt) h24)
 have h3r : ∀ k ∈ S1a, k ∉ [w0.z] := or1 hl h1x (Q_ (f_ h5.lt) (lt_ h1w s1.s))
 have h3s : ∀ k ∈ S1a, k ∉ [wg.z] := or1 hl h26 (Q_ (f_ h6.lt) (lt_ h25 s1.s))
 have h2k := m1 h13
 have h2l := m1 h16
 have h2m := m1 h19
 have h2n := lt_ h19 s3.s
 have h2o := lt_ (lt_ h2n s4.s) h0.s
 have h2p := m1 h2o
 have h3t := bM (bM (bup (bM (bM (bup (bM (bM (bup (bM (bM (bup (bup hv hh) sa) se h2k) h7<|f_ lr) s8) s9 h2l) h2<|f_ lr) s3) s4 h2m) h0<|f_ lr) s1) sm h2p) hn<|f_ lr
 exact Wr<|d_ hr (r_ K_ q_ z h3m z) ⟨(bM h3t hu<|m1 hv.s), ab, nc, cd, S11, ai, nj, ck, S15, ap, nq, cr, S17, ax, ns, cy, S1a, z, p1_0, p1_1, p1_2, (((((((((((hf.c h7 h10).e s8).c s9<|ds h27).c h2 h10).e s3).c s4<|ds h2a).c h0 h10).e s1).c sm<|ds h2d).c hn h10).c hu h3o), ((((((((ho.c h2 h1b).e s3).c s4<|ds h2e).c h0 h1b).e s1).c sm<|ds h2h).c hn h1b).c hu h3p), (((((h18.c h0 h2i).e s1).c sm<|ds h2j).c hn h2i).c hu h3q), ((h3g.c hn h3r).c hu h3s), (na_ h2t (na_ h31 (na_ h39 h3h<|ds<|a_H hl h2j (a_.lt h18)<|lt_ h0.s s1.s)<|nmA (ds<|a_H ht h2e (a_.lt ho) h2f)<|ds<|a_H hl h2h (a_.lt ho)<|lt_ h2g s1.s)<|nmA (ds<|a_H hw h27 (a_.lt hf) h28)<|nmA (ds<|a_H ht h2a (a_.lt hf) h2b)<|ds<|a_H hl h2d (a_.lt hf)<|lt_ h2c s1.s), (aa_ (a_b h12 h2k h1o)<|aa_ (a_b hw h2l h1u)<|aa_ (a_b ht h2m h2n)<|a_b hl h2p<|lt_ h2o s1.s)⟩
theorem W_w33 {x1 : g_} {res : g_} (hm : h_8 x1 = some res) (hBw : B ≤ w0.z) (p1_0 : b_ w0 B (sl A0 N0 C0) x1.rules) : j_ prog 110 [(.agg #[sl A0 N0 C0])] w0 (Q6 w0 B res) := by
 unfold h_8 at hm
 refine goF func110 z z (lb z) fun fn hr => Ws<|E z (fb z) ?_
 rintro _ wl ⟨rfl, h1h⟩
 have hu := h1h.below
 have h1i : Blk wl w0.z [sl A0 N0 C0] := h1h.blk
 refine E z (fa d_n) ?_
 rintro _ w1 ⟨rfl, h1j⟩
 have hn := h1j.below
 have hv : Blk w1 wl.z [sl none 0 0] := h1j.blk
 refine Wn<|Ws<|R z (fd a_7 z) ?_
 have h1k := h1i.e hn
 refine R z (l1 a_e z fid<|h1k.at z) ?_
 have h1l := (hu.ag B).e hn
 refine R z (lnR J_ z<|p1_0.g h1l) ?_
 obtain ⟨u4w, e2i, hm2j⟩ := bdS hm
 refine E z (l_r (α := c_) e_n e2i z z) ?_
 rintro _ w3 ⟨az, ns, c10, rfl, sc, h11⟩
 refine R z (bP (parts := [(0, (.tmp 9))]) (cs := [sl az ns c10]) l_4 z z)<|E z (fa d_n) ?_
 rintro _ w2k ⟨rfl, h1m⟩
 have he := h1m.below
 have hf : Blk w2k w3.z [sl none 0 0] := h1m.blk
 refine E0 (fs (cur' := [sl az ns c10]) D_ z z hf z (lb z) (oA z) z) ?_
 rintro _ w2 ⟨h2l, s2m⟩
 have h8 := s2m.one
 refine Wn<|Wq<|Ws<|R z (fd a_7 z)<|R z (l1 a_e z fid<|(((h1k.e sc).e he).c h8<|djs<|mm1 h1i.lt<|lt_ hn.s sc.s).at z) ?_
 have h12 := lt_ hu.s hn.s
 have hw := lt_ h12 sc.s
 have h1n : ∀ k ∈ [w3.z], ¬ B k := or0 (f_ lr)  (p_ (zt' hBw hw))
 have h1o := ((h1l.e sc).e he).c h8<|h_ h1n
 refine R z (lnR J_ z<|p1_0.g h1o)<|Rm z<|Wn ?_
 obtain ⟨u4x, hu2n, hm1p⟩ := bdS hm2j
 refine Wf (σ := (List c_)) (ρ := g_) (fun (k1q : Nat) (xj : List c_) a w => ∃ a4 n5 c6 S0, Sat 27 [(2, pt wl.z), (3, pt w3.z), (12, sl A0 N0 C0), (13, vI (x1.rules.length : Int)), (14, (vI ((k1q : Nat) : Int)))] a ∧ Chg (· ∈ ([w1.z] ++ [w3.z])) w2 w ∧ a_ w S0 (sl a4 n5 c6) xj ∧ S0.Nodup ∧ (∀ k ∈ S0, k ∈ [w1.z] ∨ w2.z ≤ k) ∧ Blk w w3.z [sl a4 n5 c6]) (fun (xj : List c_) a w => ∃ a4 n5 c6 S0, Sat 27 [(2, pt wl.z), (3, pt w3.z)] a ∧ Chg (· ∈ ([w1.z] ++ [w3.z])) w2 w ∧ a_ w S0 (sl a4 n5 c6) xj ∧ S0.Nodup ∧ (∀ k ∈ S0, k ∈ [w1.z] ∨ w2.z ≤ k) ∧ Blk w w3.z [sl a4 n5 c6]) (fun r ex a w => ex = .ret ∧ v_ prog fn (Q6 w0 B r) a w) hu2n ?_ ?_ ?_ ?_ ?_
 ·exact fun _ q => ⟨az, ns, c10, [w1.z], (q.k<|s5 z z z z z), (cr ([w1.z] ++ [w3.z]) w2), ((h11.e he).c h8<|ds<|mnr<|a_.lt h11), X_, (io sr), h2l⟩
 ·rintro k1q xj a4y wr o4z hk1r ⟨a4, n5, c6, S0, hS2o, sk, h9, ho, hg, hp⟩ hm2p
  refine Wu ?_ hS2o
  refine Ws<|R z (lss z z)<|Wn<|Wq<|Wc z (fun _ => ?_) (fun hc => (N_ hk1r hc).elim)
  refine Wk<|Wq<|Wb<|Ws ?_
  obtain ⟨x13, e2q, hm2r⟩ := bdS hm2p
  have h2s : ∀ k ∈ [w1.z], ¬ B k := or0 (f_ lr)  (p_ (zt' hBw h12))
  refine RX z (at_ (α := c_) J_ q_ z z z (p1_0.g<|h1o.c sk<|nmA (h_ h2s)<|h_ h1n) e2q) ?_
  rintro _ ⟨b50, o51, cs52, rfl, h2t, h2u, h53⟩
  obtain ⟨a14, n15, c16, a17, n18, c19, a1a, n1b, c1c, a1d, n1e, c1f, rfl, h2v, h2w, h2x, h2y, h2z, h30, h31⟩ := a_E h2u
  refine R z (lN (vs := (vR x13 a14 n15 c16 a17 n18 c19 a1a n1b c1c a1d n1e c1f)) K_ q_ z z fid h2t)<|E z (fa b_N) ?_
  rintro _ w1s ⟨rfl, h1t⟩
  have hh := h1t.below
  have h32 : Blk w1s wr.z [(Str.v (⟨[]⟩ : Str)), vI 0, vI 0, vB false, sl none 0 0, sl none 0 0, sl none 0 0, sl none 0 0] := h1t.blk
  refine E0 (fs (cur' := (vR x13 a14 n15 c16 a17 n18 c19 a1a n1b c1c a1d n1e c1f)) q_ z z h32 z (lb z) (oA z) z) ?_
  rintro _ w33 ⟨h34, s35⟩
  have hi := s35.one
  refine Wn (Wd (X := noX) 160 (.rd 0 (.rd 1 (.rd 2 (.ef 3 (.ef 4 (.ef 5 (.rd 6 (.ef 7 .done)))))))) mo (by kernel_rfl) fun w36 sb _ => dR z z (fd a_7 z) ?_)
  have h1u := lt_ h8.s sk.s
  have h1v := ((hp.e hh).c hi<|djs<|mm1 hf.lt h1u).e sb
  refine dR z z (l1 a_e z fid<|h1v.at z)<|dR z z (lN (vs := (vR x13 a14 n15 c16 a17 n18 c19 a1a n1b c1c a1d n1e c1f)) K_ q_ z z fid<|(h34.e sb).row 0 8 z) ?_
  have h1w := lt_ (lt_ (lt_ hw he.s) h8.s) sk.s
  have h37 : ∀ k ∈ [wr.z], ¬ B k := or0 (f_ lr)  (p_ (zt' hBw h1w))
  have hx := ((hh.ag B).c hi<|h_ h37).e sb
  obtain ⟨r1x, e38, hm39⟩ := bdS hm2r
  refine dE z z (fc call134 z<|W_w32 (B := B) e38 (zt' hBw<|lt_ (lt_ (lt_ h1w hh.s) hi.s) sb.s) h2v h2w h2x (h2y.g hx) (h2z.g hx) (h30.g hx)<|h31.g hx) (.inr fun _ _ h => z_<|h.1) ?_
  rintro _ w1y ⟨sm, a3a, n3b, c3c, S1z, a3d, n3e, c3f, S20, a3g, n3h, c3i, S21, a3j, n3k, c3l, S22, rfl, h3m, h3n, h3o, h3p, h3q, h3r, h3s, ha, h7⟩
  refine dE z z (fS [(.tmp 21)] e_n z z z (a_x z) (lb z)<|lb z) (.inr fun _ _ h => z_<|h.2.below) ?_
  rintro _ w23 ⟨rfl, h24⟩
  have hd := h24.below
  have h3t : Blk w23 w1y.z (vR r1x a3a n3b c3c a3d n3e c3f a3g n3h c3i a3j n3k c3l) := h24.blk
  obtain ⟨x3u, e3v, hm3w⟩ := bdS hm39
  have hy := lt_ (lt_ hh.s hi.s) sb.s
  refine dE z z (b_b (α := c_) e_n e3v z z (((((h9.e hh).c hi<|ds<|mnr<|a_.lt h9).e sb).e sm).e hd) ho h3t (c_0 (x := r1x) (S1 := S1z) (S2 := S20) (S3 := S21) (S4 := S22) h3m h3n h3o (h3p.e hd) (h3q.e hd) (h3r.e hd)<|h3s.e hd) (aa_ (U_ (al_ h7) (a_.lt h9) hy)<|aa_ (U_ (al_<|ar_ h7) (a_.lt h9) hy)<|aa_ (U_ (al_<|ar_<|ar_ h7) (a_.lt h9) hy)<|U_ (ar_<|ar_<|ar_ h7) (a_.lt h9) hy)<|na_ (nl_ ha) (na_ (nl_<|nr_ ha) (na_ (nl_<|nr_<|nr_ ha) (nr_<|nr_<|nr_ ha)<|nj<|nr_<|nr_ ha)<|nmA (nmL<|nj<|nr_ ha)<|nmR<|nj<|nr_ ha)<|nmA (nmL<|nj ha)<|nmA (nmL<|nmR<|nj ha)<|nmR<|nmR<|nj ha) (.inl z) ?_
  rintro _ w3x ⟨S1g, a25, n26, c27, rfl, s28, h3y, h3z, h29⟩
  refine dR z z (fd a_7 z) ?_
  have h2a : ∀ k ∈ S0, k ∉ [w3.z] := or1 hg (ds (mnr (a_.lt h11))) (Q_ (f_ hf.lt) h8.s)
  refine dE0 z (fs (cur' := [sl a25 n26 c27]) z_93 z z (((h1v.e sm).e hd).c s28<|djs h2a) z (lb z) (oA z) z) (.inl z) ?_
  rintro _ w40 ⟨h41, s42⟩
  have h2b := s42.one
  refine pD<|Wo<|Wg<|R z (inc_ hk1r (lt_ (b_.len p1_0) G_) z z)<|Rm z<|Wl ?_
  have hq := lt_ (lt_ (lt_ h1u hh.s) hi.s) sb.s
  have h43 : ∀ k ∈ S1g, k ∉ [w3.z] := or2 h29 h2a (aa_ (m_ (al_ h7) hf.lt hq) (aa_ (m_ (al_ (ar_ h7)) hf.lt hq) (aa_ (m_ (al_ (ar_ (ar_ h7))) hf.lt hq) (m_ (ar_ (ar_ (ar_ h7))) hf.lt hq)))) (Q_ (f_ hf.lt) (lt_ (lt_ hq sm.s) hd.s))
  have ht := lt_ (lt_ (lt_ sk.s hh.s) hi.s) sb.s
  have h44 : ∀ k ∈ S0, k ∈ [w1.z] ∨ w2.z ≤ k := or1 hg (io sr) (n_ lr)
  have h45 : ∀ k ∈ S1z, k ∈ [w1.z] ∨ w2.z ≤ k := or0 (al_ h7)  (n_ ht)
  have h46 : ∀ k ∈ S20, k ∈ [w1.z] ∨ w2.z ≤ k := or0 (al_ (ar_ h7))  (n_ ht)
  have h47 : ∀ k ∈ S21, k ∈ [w1.z] ∨ w2.z ≤ k := or0 (al_ (ar_ (ar_ h7)))  (n_ ht)
  have h48 : ∀ k ∈ S22, k ∈ [w1.z] ∨ w2.z ≤ k := or0 (ar_ (ar_ (ar_ h7)))  (n_ ht)
  have h49 : ∀ k ∈ S1g, k ∈ [w1.z] ∨ w2.z ≤ k := or2 h29 h44 (aa_ h45 (aa_ h46 (aa_ h47 h48))) (n_ (lt_ (lt_ ht sm.s) hd.s))
  have h4a : Chg (· ∈ ([w1.z] ++ [w3.z])) w2 wr := cM (cr ([w1.z] ++ [w3.z]) w2) sk (aa_ (io (a_K sr)) (io (a_3 sr)))
  have h4b : Chg (· ∈ ([w1.z] ++ [w3.z])) w2 w1s := E_ h4a hh
  have h4c : ∀ k ∈ [wr.z], k ∈ ([w1.z] ++ [w3.z]) ∨ w2.z ≤ k := mor sk.s
  have h4d : Chg (· ∈ ([w1.z] ++ [w3.z])) w2 w33 := cM h4b hi h4c
  have h4e : Chg (· ∈ ([w1.z] ++ [w3.z])) w2 w36 := E_ h4d sb
  have h4f : Chg (· ∈ ([w1.z] ++ [w3.z])) w2 w1y := E_ h4e sm
  have h4g : Chg (· ∈ ([w1.z] ++ [w3.z])) w2 w23 := E_ h4f hd
  have h4h : ∀ k ∈ S0, k ∈ ([w1.z] ++ [w3.z]) ∨ w2.z ≤ k := or1 hg (io (a_K sr)) (n_ lr)
  have h4i : Chg (· ∈ ([w1.z] ++ [w3.z])) w2 w3x := cM h4g s28 h4h
  have h4j : Chg (· ∈ ([w1.z] ++ [w3.z])) w2 w40 := cM h4i h2b (io (a_3 sr))
  exact fun _ q => ⟨x3u, (som hm3w).symm, ⟨a25, n26, c27, S1g, (q.k<|s5 z z z z z), h4j, (h3y.c h2b h43), h3z, h49, h41⟩⟩
 ·rintro xj a54 w4k ⟨a4, n5, c6, S0, hS4l, s4m, h9, ho, hg, hp⟩
  refine Wu ?_ hS4l
  refine Ws<|R z (lss z z)<|Wn<|Wq<|Wc z (fun hc => (O_ hc).elim) (fun _ => ?_)
  have h4n : ∀ k ∈ S0, k ∈ [w1.z] ∨ w2.z ≤ k := or1 hg (io sr) (n_ lr)
  have h4o : Chg (· ∈ ([w1.z] ++ [w3.z])) w2 w4k := cM (cr ([w1.z] ++ [w3.z]) w2) s4m (aa_ (io (a_K sr)) (io (a_3 sr)))
  exact We (fun a' ha' => ⟨rfl, ⟨a4, n5, c6, S0, (Sat.weaken ha'<|s2 z z), h4o, h9, ho, h4n, hp⟩⟩)
 ·rintro xj a4p w55 rfl ⟨a4, n5, c6, S0, hS56, s2c, h9, ho, hg, hp⟩
  have hm4q := elL hm1p
  revert a4p
  refine Wo<|Ws<|R z (lN (vs := [sl a4 n5 c6]) P_ D_ z z fid<|hp.row 0 1 z) ?_
  have h2d := mm1 hv.lt sc.s
  have h2e := mmr hv.lt
  refine E0 (fs (cur' := [sl a4 n5 c6]) D_ z z ((((hv.e sc).e he).c h8<|djs h2d).c s2c<|atp<|nmA (ds h2e)<|ds h2d) z (lb z) (oA z) z) ?_
  rintro _ w57 ⟨h4r, s4s⟩
  have h2f := s4s.one
  refine Wn ?_
  obtain rfl := som hm4q
  have h4t : ∀ k ∈ S0, k ∉ [wl.z] := or1 hg h2e (Q_ (f_ hv.lt) (lt_ (lt_ sc.s he.s) h8.s))
  have h2g := m1 hw
  have h2h := m1 h12
  exact Wr<|d_ hr (r_ P_ D_ z h4r z) ⟨(bM (bM (bM (bup (bup (bup hu hn) sc) he) h8 h2g) s2c<|aa_ h2h h2g) h2f<|m1 hu.s), a4, n5, c6, S0, z, (h9.c h2f h4t), ho, (a_b hg h2h<|lt_ (lt_ hw he.s) h8.s)⟩
 rintro r58 ex59 a5a w5b rfl ⟨rfl, hq4u⟩
 have hm4v := elR hm1p
 obtain rfl := som hm4v
 exact ⟨hq4u, z⟩
theorem W_w34 {x1 : B_} {res : B_} (hm : h_9 x1 = some res) (hBw : B ≤ w0.z) (p1_0 : b_ w0 B (sl A0 N0 C0) x1.versions) : j_ prog 80 [(.agg #[sl A0 N0 C0])] w0 (Q8 w0 B res) := by
 unfold h_9 at hm
 refine goF func80 z z (lb z) fun fn hr => Ws<|E z (fb z) ?_
 rintro _ wi ⟨rfl, h12⟩
 have ho := h12.below
 have h13 : Blk wi w0.z [sl A0 N0 C0] := h12.blk
 refine E z (fa e_r) ?_
 rintro _ w1 ⟨rfl, h14⟩
 have hj := h14.below
 have hp : Blk w1 wi.z [sl none 0 0] := h14.blk
 refine Wn<|Ws<|R z (fd a_P z) ?_
 have h15 := h13.e hj
 refine R z (l1 a_Y z fid<|h15.at z) ?_
 have h16 := (ho.ag B).e hj
 refine R z (lnR a_v z<|p1_0.g h16)<|R z (add_ z z) ?_
 obtain ⟨u3t, e21, hm22⟩ := bdS hm
 refine E z (l_r (α := g_) e_l e21 z z) ?_
 rintro _ w2 ⟨au, ns, ct, rfl, s9, hv⟩
 refine R z (bP (parts := [(0, (.tmp 10))]) (cs := [sl au ns ct]) l_1 z z)<|E z (fa e_r) ?_
 rintro _ w23 ⟨rfl, h17⟩
 have ha := h17.below
 have hk : Blk w23 w2.z [sl none 0 0] := h17.blk
 refine E0 (fs (cur' := [sl au ns ct]) a_Z z z hk z (lb z) (oA z) z) ?_
 rintro _ w3 ⟨h24, s25⟩
 have h7 := s25.one
 refine Wn<|Wq<|Ws<|R z (fd a_P z)<|R z (l1 a_Y z fid<|(((h15.e s9).e ha).c h7<|djs<|mm1 h13.lt<|lt_ hj.s s9.s).at z) ?_
 have hw := lt_ ho.s hj.s
 have hq := lt_ hw s9.s
 have h18 : ∀ k ∈ [w2.z], ¬ B k := or0 (f_ lr)  (p_ (zt' hBw hq))
 have h19 := ((h16.e s9).e ha).c h7<|h_ h18
 refine R z (lnR a_v z<|p1_0.g h19)<|Rm z<|Wn ?_
 obtain ⟨u3u, hu26, hm1a⟩ := bdS hm22
 refine Wf (σ := (List g_)) (ρ := B_) (fun (k1b : Nat) (xc : List g_) a w => ∃ a4 n5 c6 S0, Sat 28 [(2, pt wi.z), (3, pt w2.z), (13, sl A0 N0 C0), (14, vI (x1.versions.length : Int)), (15, (vI ((k1b : Nat) : Int)))] a ∧ Chg (· ∈ ([w1.z] ++ [w2.z])) w3 w ∧ a_ w S0 (sl a4 n5 c6) xc ∧ S0.Nodup ∧ (∀ k ∈ S0, k ∈ [w1.z] ∨ w3.z ≤ k) ∧ Blk w w2.z [sl a4 n5 c6]) (fun (xc : List g_) a w => ∃ a4 n5 c6 S0, Sat 28 [(2, pt wi.z), (3, pt w2.z)] a ∧ Chg (· ∈ ([w1.z] ++ [w2.z])) w3 w ∧ a_ w S0 (sl a4 n5 c6) xc ∧ S0.Nodup ∧ (∀ k ∈ S0, k ∈ [w1.z] ∨ w3.z ≤ k) ∧ Blk w w2.z [sl a4 n5 c6]) (fun r ex a w => ex = .ret ∧ v_ prog fn (Q8 w0 B r) a w) hu26 ?_ ?_ ?_ ?_ ?_
 ·exact fun _ q => ⟨au, ns, ct, [w1.z], (q.k<|s5 z z z z z), (cr ([w1.z] ++ [w2.z]) w3), ((hv.e ha).c h7<|ds<|mnr<|a_.lt hv), X_, (io sr), h24⟩
 ·rintro k1b xc a3v wr o3w hk1c ⟨a4, n5, c6, S0, hS27, sg, hf, hl, hb, hn⟩ hm28
  refine Wu ?_ hS27
  refine Ws<|R z (lss z z)<|Wn<|Wq<|Wc z (fun _ => ?_) (fun hc => (N_ hk1c hc).elim)
  refine Wk<|Wq<|Wb<|Ws ?_
  obtain ⟨x3x, e29, hm2a⟩ := bdS hm28
  have h2b : ∀ k ∈ [w1.z], ¬ B k := or0 (f_ lr)  (p_ (zt' hBw hw))
  refine RX z (at_ (α := g_) a_v D_ z z z (p1_0.g<|h19.c sg<|nmA (h_ h2b)<|h_ h18) e29) ?_
  rintro _ ⟨b3y, o3z, cs40, rfl, h2c, h2d, h41⟩
  obtain ⟨ax, ny, cz, rfl, h2e⟩ := c_j h2d
  refine R z (lN (vs := [sl ax ny cz]) P_ D_ z z fid h2c)<|E z (fa d_n) ?_
  rintro _ w1d ⟨rfl, h1e⟩
  have hd := h1e.below
  have h2f : Blk w1d wr.z [sl none 0 0] := h1e.blk
  refine E0 (fs (cur' := [sl ax ny cz]) D_ z z h2f z (lb z) (oA z) z) ?_
  rintro _ w2g ⟨h2h, s2i⟩
  have he := s2i.one
  refine Wn (Wd (X := noX) 160 (.rd 0 (.rd 1 (.rd 2 (.ef 3 (.ef 4 (.ef 5 (.rd 6 (.ef 7 .done)))))))) mo (by kernel_rfl) fun w2j s8 _ => dR z z (fd a_P z) ?_)
  have h1f := lt_ h7.s sg.s
  have h1g := ((hn.e hd).c he<|djs<|mm1 hk.lt h1f).e s8
  refine dR z z (l1 a_Y z fid<|h1g.at z)<|dR z z (lN (vs := [sl ax ny cz]) P_ D_ z z fid<|(h2h.e s8).row 0 1 z) ?_
  have h1h := lt_ (lt_ (lt_ hq ha.s) h7.s) sg.s
  have h2k : ∀ k ∈ [wr.z], ¬ B k := or0 (f_ lr)  (p_ (zt' hBw h1h))
  obtain ⟨r2l, e2m, hm2n⟩ := bdS hm2a
  refine dE z z (fc call110 z<|W_w33 (B := B) e2m (zt' hBw<|lt_ (lt_ (lt_ h1h hd.s) he.s) s8.s)<|h2e.g<|((hd.ag B).c he<|h_ h2k).e s8) (.inr fun _ _ h => z_<|h.1) ?_
  rintro _ w1i ⟨sm, a2o, n2p, c2q, S1j, rfl, h2r, h2s, h10⟩
  refine dE z z (fS [(.tmp 22)] e_l z z z (a_x z) (lb z)<|lb z) (.inr fun _ _ h => z_<|h.2.below) ?_
  rintro _ w1k ⟨rfl, h1l⟩
  have hh := h1l.below
  have h2t : Blk w1k w1i.z [sl a2o n2p c2q] := h1l.blk
  obtain ⟨x2u, e2v, hm2w⟩ := bdS hm2n
  refine dE z z (b_b (α := g_) e_l e2v z z (((((hf.e hd).c he<|ds<|mnr<|a_.lt hf).e s8).e sm).e hh) hl h2t (f_o (x := r2l) (S1 := S1j)<|h2r.e hh) (U_ h10 (a_.lt hf)<|lt_ (lt_ hd.s he.s) s8.s) h2s) (.inl z) ?_
  rintro _ w2x ⟨S11, a1m, n1n, c1o, rfl, s1p, h2y, h2z, h1q⟩
  refine dR z z (fd a_P z) ?_
  have h1r : ∀ k ∈ S0, k ∉ [w2.z] := or1 hb (ds (mnr (a_.lt hv))) (Q_ (f_ hk.lt) h7.s)
  refine dE0 z (fs (cur' := [sl a1m n1n c1o]) z_32 z z (((h1g.e sm).e hh).c s1p<|djs h1r) z (lb z) (oA z) z) (.inl z) ?_
  rintro _ w30 ⟨h31, s32⟩
  have h1s := s32.one
  refine pD<|Wo<|Wg<|R z (inc_ hk1c (lt_ (b_.len p1_0) G_) z z)<|Rm z<|Wl ?_
  have h1t := lt_ (lt_ (lt_ h1f hd.s) he.s) s8.s
  have h33 : ∀ k ∈ S11, k ∉ [w2.z] := or2 h1q h1r (m_ h10 hk.lt h1t) (Q_ (f_ hk.lt) (lt_ (lt_ h1t sm.s) hh.s))
  have h1u := lt_ (lt_ (lt_ sg.s hd.s) he.s) s8.s
  have h34 : ∀ k ∈ S0, k ∈ [w1.z] ∨ w3.z ≤ k := or1 hb (io sr) (n_ lr)
  have h35 : ∀ k ∈ S1j, k ∈ [w1.z] ∨ w3.z ≤ k := or0 h10  (n_ h1u)
  have h36 : ∀ k ∈ S11, k ∈ [w1.z] ∨ w3.z ≤ k := or2 h1q h34 h35 (n_ (lt_ (lt_ h1u sm.s) hh.s))
  have h37 : Chg (· ∈ ([w1.z] ++ [w2.z])) w3 wr := cM (cr ([w1.z] ++ [w2.z]) w3) sg (aa_ (io (a_K sr)) (io (a_3 sr)))
  have h38 : Chg (· ∈ ([w1.z] ++ [w2.z])) w3 w1d := E_ h37 hd
  have h39 : ∀ k ∈ [wr.z], k ∈ ([w1.z] ++ [w2.z]) ∨ w3.z ≤ k := mor sg.s
  have h3a : Chg (· ∈ ([w1.z] ++ [w2.z])) w3 w2g := cM h38 he h39
  have h3b : Chg (· ∈ ([w1.z] ++ [w2.z])) w3 w2j := E_ h3a s8
  have h3c : Chg (· ∈ ([w1.z] ++ [w2.z])) w3 w1i := E_ h3b sm
  have h3d : Chg (· ∈ ([w1.z] ++ [w2.z])) w3 w1k := E_ h3c hh
  have h3e : ∀ k ∈ S0, k ∈ ([w1.z] ++ [w2.z]) ∨ w3.z ≤ k := or1 hb (io (a_K sr)) (n_ lr)
  have h3f : Chg (· ∈ ([w1.z] ++ [w2.z])) w3 w2x := cM h3d s1p h3e
  have h3g : Chg (· ∈ ([w1.z] ++ [w2.z])) w3 w30 := cM h3f h1s (io (a_3 sr))
  exact fun _ q => ⟨x2u, (som hm2w).symm, ⟨a1m, n1n, c1o, S11, (q.k<|s5 z z z z z), h3g, (h2y.c h1s h33), h2z, h36, h31⟩⟩
 ·rintro xc a42 w3h ⟨a4, n5, c6, S0, hS3i, s3j, hf, hl, hb, hn⟩
  refine Wu ?_ hS3i
  refine Ws<|R z (lss z z)<|Wn<|Wq<|Wc z (fun hc => (O_ hc).elim) (fun _ => ?_)
  have h3k : ∀ k ∈ S0, k ∈ [w1.z] ∨ w3.z ≤ k := or1 hb (io sr) (n_ lr)
  have h3l : Chg (· ∈ ([w1.z] ++ [w2.z])) w3 w3h := cM (cr ([w1.z] ++ [w2.z]) w3) s3j (aa_ (io (a_K sr)) (io (a_3 sr)))
  exact We (fun a' ha' => ⟨rfl, ⟨a4, n5, c6, S0, (Sat.weaken ha'<|s2 z z), h3l, hf, hl, h3k, hn⟩⟩)
 ·rintro xc a3m w43 rfl ⟨a4, n5, c6, S0, hS44, s1v, hf, hl, hb, hn⟩
  have hm3n := elL hm1a
  revert a3m
  refine Wo<|Ws<|R z (lN (vs := [sl a4 n5 c6]) b_w a_Z z z fid<|hn.row 0 1 z) ?_
  have h1w := mm1 hp.lt s9.s
  have h1x := mmr hp.lt
  refine E0 (fs (cur' := [sl a4 n5 c6]) a_Z z z ((((hp.e s9).e ha).c h7<|djs h1w).c s1v<|atp<|nmA (ds h1x)<|ds h1w) z (lb z) (oA z) z) ?_
  rintro _ w45 ⟨h3o, s3p⟩
  have h1y := s3p.one
  refine Wn ?_
  obtain rfl := som hm3n
  have h3q : ∀ k ∈ S0, k ∉ [wi.z] := or1 hb h1x (Q_ (f_ hp.lt) (lt_ (lt_ s9.s ha.s) h7.s))
  have h1z := m1 hq
  have h20 := m1 hw
  exact Wr<|d_ hr (r_ b_w a_Z z h3o z) ⟨(bM (bM (bM (bup (bup (bup ho hj) s9) ha) h7 h1z) s1v<|aa_ h20 h1z) h1y<|m1 ho.s), a4, n5, c6, S0, z, (hf.c h1y h3q), hl, (a_b hb h20<|lt_ (lt_ hq ha.s) h7.s)⟩
 rintro r46 ex47 a48 w49 rfl ⟨rfl, hq3r⟩
 have hm3s := elR hm1a
 obtain rfl := som hm3s
 exact ⟨hq3r, z⟩
theorem W_w17 {x1 : Log} {res : Log} (hm : f_a x1 = some res) (hBw : B ≤ w0.z) (p1_0 : b_ w0 B (sl A0 N0 C0) x1.bytes) (p1_1 : inI x1.stored) : j_ prog 81 [(.agg #[sl A0 N0 C0, vI x1.stored])] w0 (Q9 w0 B res) := by
 unfold f_a at hm
 refine goF func81 z z (lb z) fun fn hr => Ws<|E z (fb z) ?_
 rintro _ w4 ⟨rfl, hb⟩
 have h3 := hb.below
 have h5 : Blk w4 w0.z [sl A0 N0 C0, vI x1.stored] := hb.blk
 refine E z (fa c_C) ?_
 rintro _ w6 ⟨rfl, hc⟩
 have h1 := hc.below
 have h7 : Blk w6 w4.z [sl none 0 0, vI 0] := hc.blk
 refine Wn<|Wq (Wd (X := fun k => k ∈ ([] : List Nat) ∨ w6.z ≤ k) 128 (.rd 1 (.rd 2 (.rd 4 (.rd 5 (.ef 0 (.ef 3 (.rd 6 (.ef 7 .done)))))))) mo (by kernel_rfl) fun wk s0 _ => dR z z (fd a_S z) ?_)
 have hd := (h5.e h1).e s0
 refine dR z z (l1 I_ z (b_O nm0<|Nat.lt_of_lt_of_le h5.lt h1.s)<|hd.at z)<|dR z z (fd c_i z)<|dR z z (l1 g_3 z (b_O nm0<|Nat.lt_of_lt_of_le h5.lt h1.s)<|hd.at z)<|dE z z (f0 (α := UInt8) C_) (.inr fun _ _ h => z_ (by obtain ⟨_, _, _, _, h, _⟩ := h; exact h)) ?_
 rintro _ ws ⟨aw, nx, cy, rfl, s2, hn⟩
 obtain ⟨xz, em, hmo⟩ := bdS hm
 have hp : ∀ k ∈ [wk.z], k ∈ ([] : List Nat) ∨ w6.z ≤ k := mor s0.s
 refine dE z z (fN (α := UInt8) C_ em z z hn X_<|p1_0.g<|(((h3.ag B).e h1).e s0).e s2) (.inr fun _ _ h => by obtain ⟨_, _, _, _, _, h, _⟩ := h; exact h.mono fun k _ hk => hp k hk) ?_
 rintro _ w10 ⟨Se, a8, n9, ca, rfl, sf, hq, ht, hg⟩
 refine dR z z (bP (parts := [(0, (.tmp 6)), (1, (.tmp 8))]) (cs := [sl a8 n9 ca, vI x1.stored]) l_2 z z) ?_
 have hh := mm1 h7.lt s0.s
 refine dE0 z (fs (cur' := [sl a8 n9 ca, vI x1.stored]) a_2 z z (((h7.e s0).e s2).c sf<|djs hh) z (lb z) (oA z) z) (.inl z) ?_
 rintro _ w11 ⟨hu, sr⟩
 have hi := sr.one
 refine pD<|Wo ?_
 obtain rfl := som hmo
 have hv : ∀ k ∈ Se, k ∉ [w4.z] := or1 hg hh (Q_ (f_ h7.lt) (lt_ s0.s s2.s))
 have hj := lt_ (lt_ h3.s h1.s) s0.s
 have hl := m1 hj
 exact Wr<|d_ hr (r_ a_u a_2 z hu z) ⟨(bM (bM (bup (bup (bup h3 h1) s0) s2) sf hl) hi<|m1 h3.s), a8, n9, ca, Se, z, (hq.c hi hv), p1_1, ht, (a_b hg hl<|lt_ hj s2.s)⟩
theorem W_w35 {x1 : w_} {b1 o1 : Nat} {res : w_} (hm : h_a x1 = some res) (hBw : B ≤ w0.z) (p1_0 : b_ w0 B (sl A0 N0 C0) x1.registry.versions) (p1_1 : b_ w0 B (sl A1 N1 C1) x1.log.bytes) (p1_2 : inI x1.log.stored) (hC1 : L_ w0 b1 o1 [sl A0 N0 C0, sl A1 N1 C1, vI x1.log.stored]) (hC1b : B b1) : j_ prog 49 [(.pointer (some ⟨b1, o1, none⟩))] w0 (Q10 w0 B res) := by
 unfold h_a at hm
 refine goF func49 z z (lb z) fun fn hr => Ws<|E z (fa b_Y) ?_
 rintro _ wl ⟨rfl, he⟩
 have h2 := he.below
 have h3 : Blk wl w0.z [sl none 0 0, sl none 0 0, vI 0] := he.blk
 refine Wn<|Wq (Wd (X := noX) 2048 (.rd 0 (.rd 1 (.rd 2 (.rd 3 (.rd 5 (.rd 6 (.rd 7 (.rd 8 (.ef 4 (.ef 9 (.rd 10 (.ef 11 .done)))))))))))) mo (by kernel_rfl) fun wy s0 _ => dR z z (mv z)<|dR z z (b_Q z)<|dR z z (fd b_L z) ?_)
 have hf := (hC1.e h2).e s0
 refine dR z z (lN (vs := [sl A0 N0 C0]) b_w a_Z z z fid<|hf.sub (j := 0) (n := 1) z)<|dR z z (mv z)<|dR z z (b_Q z)<|dR z z (fd b_a z)<|dR z z (lN (vs := [sl A1 N1 C1, vI x1.log.stored]) a_u a_2 z z fid<|hf.sub (j := 1) (n := 2) z) ?_
 have hg := (h2.ag B).e s0
 have h4 := lt_ h2.s s0.s
 obtain ⟨rz, em, hmn⟩ := bdS hm
 refine dE z z (fc call80 z<|W_w34 (B := B) (x1 := (⟨x1.registry.versions⟩ : B_)) em (zt' hBw h4)<|p1_0.g hg) (.inr fun _ _ h => z_<|h.1) ?_
 rintro _ w10 ⟨s1, a5, n6, c7, So, rfl, hh, hp, hi⟩
 have hj := lt_ h4 s1.s
 obtain ⟨rk, eq, hmr⟩ := bdS hmn
 refine dE z z (fc call81 z<|W_w17 (B := B) (x1 := (⟨x1.log.bytes, x1.log.stored⟩ : Log)) eq (zt' hBw hj) (p1_1.g<|hg.e s1) p1_2) (.inr fun _ _ h => z_<|h.1) ?_
 rintro _ w11 ⟨s8, a9, na, cb, Ss, rfl, ht, hu, hv, hc⟩
 refine dR z z (bP (parts := [(0, (.tmp 7)), (1, (.tmp 12))]) (cs := [sl a5 n6 c7, sl a9 na cb, vI rk.stored]) l_3 z z)<|dE0 z (fs (cur' := [sl a5 n6 c7, sl a9 na cb, vI rk.stored]) Z_ z z (((h3.e s0).e s1).e s8) z (lb z) (oA z) z) (.inl z) ?_
 rintro _ w12 ⟨hw, sx⟩
 have hd := sx.one
 refine pD<|Wo ?_
 obtain rfl := som hmr
 exact Wr<|d_ hr (r_ a_n Z_ z hw z) ⟨(bM (bup (bup (bup h2 s0) s1) s8) hd<|f_ lr), a5, n6, c7, So, a9, na, cb, Ss, z, ((hh.e s8).c hd<|m_ hi h3.lt s0.s), (ht.c hd<|m_ hc h3.lt<|lt_ s0.s s1.s), hu, (na_ hp hv<|ds<|U_ hc (a_.lt hh) lr), (aa_ (l_ hi h4)<|l_ hc hj)⟩
theorem c_E {x1 : Int} {x2 : Int} {x3 : Int} {res : Bool} (hm : b_B x1 x2 x3 = some res) (hBw : B ≤ w0.z) (p1_0 : inI x1) (p2_0 : inI x2) (p3_0 : inI x3) : j_ prog 117 [vI x1, vI x2, vI x3] w0 (Q11 w0 B res) := by
 unfold b_B at hm
 refine goF func117 z z (lb z) fun fn hr => Ws<|Ra z<|Wn<|Wq ?_
 obtain ⟨u2, hu1, hm3⟩ := bdS hm
 refine Wt (fun a w => ∃ (x4 : Bool), x4 = u2 ∧ Sat 15 [(6, vB x4)] a ∧ Below w0.z w0 w) ?_ ?_
 ·refine Wg<|Rm z<|Rm z<|R z (c_I z z)<|Rm z ?_
  rcases bs (decide (x2 ≤ x1)) with hc0 | hc0
  ·exact Rh z hc0 (mv z)<|Rh z hc0 (mv z)<|Rh z hc0 (c_I z z)<|R z (pT z hc0 z)<|Ra z<|Wl (fun _ q => ⟨decide (x1 ≤ x3), som<|ifT hu1 hc0, (q.k<|s1 z), (br w0)⟩)
  iterate 3 refine Nh z hc0 ?_
  exact R z (pF z hc0 z)<|Ra z<|Wl (fun _ q => ⟨false, som<|ifF hu1 hc0, (q.k<|s1 z), (br w0)⟩)
 rintro a5 w7 ⟨x4, rfl, hS8, s6⟩
 revert a5
 refine Wo ?_
 obtain rfl := som hm3
 exact Wr<|d_ hr z ⟨s6, z⟩
theorem j_2 {x1 : g_} {x2 : Int} {res : Bool} (hm : d_I x1 x2 = some res) (hBw : B ≤ w0.z) (p1_0 : b_ w0 B (sl A0 N0 C0) x1.rules) (p2_0 : inI x2) : j_ prog 150 [(.agg #[sl A0 N0 C0]), vI x2] w0 (Q11 w0 B res) := by
 unfold d_I at hm
 refine goF func150 z z (lb z) fun fn hr => Ws<|E z (fb z) ?_
 rintro _ w1 ⟨rfl, h2⟩
 have h4 := h2.below
 have h6 : Blk w1 w0.z [sl A0 N0 C0] := h2.blk
 refine Ra z<|Wn<|Wq ?_
 obtain ⟨u7, hu5, hm8⟩ := bdS hm
 refine Wt (fun a w => ∃ (x3 : Bool), x3 = u7 ∧ Sat 14 [(4, vB x3)] a ∧ Below w1.z w1 w) ?_ ?_
 ·refine Wg<|Rm z<|R z (a_W z z)<|Rm z ?_
  rcases bs (decide (0 ≤ x2)) with hc0 | hc0
  ·exact Rh z hc0 (mv z)<|Rh z hc0 (fd a_7 z)<|Rh z hc0 (l1 a_e z fid<|h6.at z)<|Rh z hc0 (lnR J_ z<|p1_0.e h4)<|Rh z hc0 (lss z z)<|R z (pT z hc0 z)<|Ra z<|Wl (fun _ q => ⟨decide (x2 < (x1.rules.length : Int)), som<|ifT hu5 hc0, (q.k<|s1 z), (br w1)⟩)
  iterate 5 refine Nh z hc0 ?_
  exact R z (pF z hc0 z)<|Ra z<|Wl (fun _ q => ⟨false, som<|ifF hu5 hc0, (q.k<|s1 z), (br w1)⟩)
 rintro a9 wb ⟨x3, rfl, hSc, sa⟩
 revert a9
 refine Wo ?_
 obtain rfl := som hm8
 exact Wr<|d_ hr z ⟨(bup h4 sa), z⟩
theorem j_3 {x1 : Str} {res : Bool} (hm : d_H n x1 = some res) (hBw : B ≤ w0.z) (p1_0 : x1.b.length ≤ LEN) : j_ prog 116 [Str.v x1] w0 (Q11 w0 B res) := by
 unfold d_H at hm
 refine goF func116 z z (lb z) fun fn hr => Ws<|Ra z<|Wn<|Wq<|Wq ?_
 obtain ⟨u12, huo, hmp⟩ := bdS hm
 refine Wt (fun a w => ∃ (xg : Bool), xg = u12 ∧ Sat 43 [(0, Str.v x1), (14, vB xg)] a ∧ Below w0.z w0 w) ?_ ?_
 ·refine Wg<|Rm z<|R z (lnT d_9 z)<|R z (lss z z)<|Rm z ?_
  rcases bs (decide ((x1.b.length : Int) < 1)) with hc4 | hc4
  ·iterate 3 refine Nh z hc4 ?_
   exact R z (pT z hc4 z)<|Wl (fun _ q => ⟨true, som<|ifT huo hc4, (q.k<|s2 z z), (br w0)⟩)
  exact Rh z hc4 (mv z)<|Rh z hc4 (lnT d_9 z)<|Rh z hc4 (a_i z z)<|R z (pF z hc4 z)<|Wl (fun _ q => ⟨decide (12 < (x1.b.length : Int)), som<|ifF huo hc4, (q.k<|s2 z z), (br w0)⟩)
 rintro a13 w1 ⟨xg, rfl, hS1u, s9⟩
 revert a13
 refine Wo<|Wc z (fun hch => ?_) (fun hch => ?_)
 ·refine Ws<|Ra z<|Wn ?_
  obtain rfl := som (ifT hmp hch)
  exact Wr<|d_ hr z ⟨s9, z⟩
 refine Wk<|Wq<|Ws<|Rm z<|E z (o_Y d_9 z) ?_
 rintro _ w3 ⟨rfl, sq, h14⟩
 refine Wn ?_
 obtain ⟨u1v, hu15, hmr⟩ := bdS (ifF hmp hch)
 refine b_4 (σ := Nat) (ρ := Bool) (fun (x0 : Nat) a w => Sat 43 [(16, pt w1.z)] a ∧ Chg (· ∈ [w1.z]) w3 w ∧ b_F w w1.z x1 x0) (fun (x0 : Nat) a w => Sat 43 [] a ∧ Chg (· ∈ [w1.z]) w3 w ∧ b_F w w1.z x1 x0) (fun r ex a w => ex = .ret ∧ v_ prog fn (Q11 w0 B r) a w) hu15 ?_ ?_ ?_ ?_
 ·exact fun _ q => ⟨(q.k<|s1 z), (cr [w1.z] w3), h14⟩
 ·rintro x0 a1w ws o1x ⟨hS16, si, he⟩ hmt
  refine Wu ?_ hS16
  refine Ws ?_
  rcases bs (decide (x0 < x1.b.length)) with hca | hca
  ·refine E z (o_Z z he<|of_decide_eq_true hca) ?_
   rintro _ wb ⟨rfl, h17, su⟩
   refine R z (ext_ z z)<|Wn<|Wq<|Wc z (fun _ => ?_) (fun hc => (bcon z hc).elim)
   refine Wk<|Wb<|Ws<|R z (ext_ z z)<|R z (ext_ z z)<|Ra z<|Ra z<|Wn<|Wq ?_
   obtain ⟨u18, huv, hm19⟩ := bdS (ifT hmt hca)
   refine Wt (fun a w => ∃ (xc : Bool), xc = u18 ∧ Sat 43 [(3, vI (x0 : Int)), (4, (.int .i32<|(dec x1 x0).1)), (5, vB xc), (16, pt w1.z)] a ∧ Below wb.z wb w) ?_ ?_
   ·refine Wg<|Rm z<|R z (a_W z z)<|Rm z ?_
    rcases bs (decide (97 ≤ ((dec x1 x0).1))) with hc5 | hc5
    ·exact Rh z hc5 (mv z)<|Rh z hc5 (c_I z z)<|R z (pT z hc5 z)<|Ra z<|Wl (fun _ q => ⟨decide (((dec x1 x0).1) ≤ 122), som<|ifT huv hc5, (q.k<|s4 z z z z), (br wb)⟩)
    exact Nh z hc5<|Nh z hc5<|R z (pF z hc5 z)<|Ra z<|Wl (fun _ q => ⟨false, som<|ifF huv hc5, (q.k<|s4 z z z z), (br wb)⟩)
   rintro a1a wd ⟨xc, rfl, hS1y, sj⟩
   revert a1a
   refine Wo<|Wq ?_
   obtain ⟨u1b, huw, hm1c⟩ := bdS hm19
   refine Wt (fun a w => ∃ (xf : Bool), xf = u1b ∧ Sat 43 [(3, vI (x0 : Int)), (5, vB xc), (6, vB xf), (16, pt w1.z)] a ∧ Below wd.z wd w) ?_ ?_
   ·refine Wg<|Rm z<|R z (a_W z z)<|Rm z ?_
    rcases bs (decide (48 ≤ ((dec x1 x0).1))) with hc6 | hc6
    ·exact Rh z hc6 (mv z)<|Rh z hc6 (c_I z z)<|R z (pT z hc6 z)<|Ra z<|Wl (fun _ q => ⟨decide (((dec x1 x0).1) ≤ 57), som<|ifT huw hc6, (q.k<|s4 z z z z), (br wd)⟩)
    exact Nh z hc6<|Nh z hc6<|R z (pF z hc6 z)<|Ra z<|Wl (fun _ q => ⟨false, som<|ifF huw hc6, (q.k<|s4 z z z z), (br wd)⟩)
   rintro a1d w8 ⟨xf, rfl, hS1z, sk⟩
   revert a1d
   refine Wo<|Wq ?_
   obtain ⟨u1e, hux, hmy⟩ := bdS hm1c
   refine Wt (fun a w => ∃ (xl : Bool), xl = u1e ∧ Sat 43 [(16, pt w1.z), (42, vB xl)] a ∧ Below w8.z w8 w) ?_ ?_
   ·refine Wg<|Rm z<|R z (not_ z)<|Rm z ?_
    rcases bs (!xc) with hc2 | hc2
    ·have hmz := ifT hux hc2
     refine Rh z hc2 (mv z)<|Rh z hc2 (not_ z)<|Rh z hc2 (mv z) ?_
     rcases bs (!xf) with hc7 | hc7
     ·exact Nh z hc7<|Nh z hc7<|Rh z hc2 (pT z hc7 z)<|R z (pT z hc2 z)<|Wl (fun _ q => ⟨true, som<|ifT hmz hc7, (q.k<|s2 z z), (br w8)⟩)
     exact Rh z hc7 (mv z)<|Rh z hc7 (eql z z)<|Rh z hc2 (pF z hc7 z)<|R z (pT z hc2 z)<|Wl (fun _ q => ⟨(x0 : Int) == 0, som<|ifF hmz hc7, (q.k<|s2 z z), (br w8)⟩)
    iterate 3 refine Nh z hc2 ?_
    exact Nv z<|Nv z<|Nh z hc2<|R z (pF z hc2 z)<|Wl (fun _ q => ⟨false, som<|ifF hux hc2, (q.k<|s2 z z), (br w8)⟩)
   rintro a1f w1g ⟨xl, rfl, hS20, sm⟩
   revert a1f
   refine Wo<|Wc z (fun hcn => ?_) (fun hcn => ?_)
   ·refine Ws<|Ra z<|Wn ?_
    have h10 := m1 s9.s
    exact Wr<|rtO<|qL (som<|ifT hmy hcn).symm<|d_ hr z ⟨(bup (bup (bup (bM (bM (bup s9 sq) si h10) su h10) sj) sk) sm), z⟩
   refine b_3 ?_
   have h1h : Chg (· ∈ [w1.z]) w3 ws := cM (cr [w1.z] w3) si (io sr)
   have h1i : Chg (· ∈ [w1.z]) w3 wb := cM h1h su (io sr)
   have h1j : Chg (· ∈ [w1.z]) w3 wd := E_ h1i sj
   have h1k : Chg (· ∈ [w1.z]) w3 w8 := E_ h1j sk
   have h1l : Chg (· ∈ [w1.z]) w3 w1g := E_ h1k sm
   exact fun _ q => ⟨x0 + (dec x1 x0).2, (som<|ifF hmy hcn).symm, ⟨(q.k<|s1 z), h1l, (((h17.e sj).e sk).e sm)⟩⟩
  refine E z (p_0 z he<|of_decide_eq_false hca) ?_
  rintro _ w1m ⟨rfl, s11⟩
  refine R z (ext_ z z)<|Wn<|Wq<|Wc z (fun hc => (bcon hc z).elim) (fun _ => ?_)
  have h1n : Chg (· ∈ [w1.z]) w3 ws := cM (cr [w1.z] w3) si (io sr)
  have h1o : Chg (· ∈ [w1.z]) w3 w1m := E_ h1n s11
  exact We (fun a' ha' => b_0 (som<|ifF hmt hca).symm ⟨(Sat.weaken ha' sn), h1o, (he.e s11)⟩)
 ·rintro x0 a1p w21 rfl ⟨hS22, s1q, he⟩
  have hm1r := elL hmr
  revert a1p
  refine Wo<|Ws<|Ra z<|Wn ?_
  obtain rfl := som hm1r
  exact Wr<|d_ hr z ⟨(bM (bup s9 sq) s1q<|m1 s9.s), z⟩
 rintro r23 ex24 a25 w26 rfl ⟨rfl, hq1s⟩
 have hm1t := elR hmr
 obtain rfl := som hm1t
 exact ⟨hq1s, z⟩
theorem c_Z {x1 : c_} {x2 : Bool} {x3 : Bool} {x4 : Bool} {x5 : Bool} {x6 : Int} {res : Bool} (hm : b_T x1 x2 x3 x4 x5 x6 = some res) (hBw : B ≤ w0.z) (p1_0 : x1.name.b.length ≤ LEN) (p1_1 : inI x1.kind) (p1_2 : inI x1.size) (p1_4 : b_ w0 B (sl AB NB CB) x1.bytes) (p1_5 : b_ w0 B (sl A7 N7 C7) x1.names) (p1_6 : b_ w0 B (sl AA NA CA) x1.tags) (p1_7 : b_ w0 B (sl A8 N8 C8) x1.kids) (p6_0 : inI x6) : j_ prog 177 [(.agg #[Str.v x1.name, vI x1.kind, vI x1.size, vB x1.little, sl AB NB CB, sl A7 N7 C7, sl AA NA CA, sl A8 N8 C8]), vB x2, vB x3, vB x4, vB x5, vI x6] w0 (Q11 w0 B res) := by
 unfold b_T at hm
 refine goF func177 z z (lb z) fun fn hr => Ws<|E z (fb z) ?_
 rintro _ w9 ⟨rfl, hd⟩
 have ha := hd.below
 have hb : Blk w9 w0.z (vR x1 AB NB CB A7 N7 C7 AA NA CA A8 N8 C8) := hd.blk
 refine Ra z<|Wn<|Wq ?_
 obtain ⟨ur, hus, hmt⟩ := bdS hm
 refine Wt (fun a w => ∃ (xc : Bool), xc = ur ∧ Sat 57 [(12, vB xc)] a ∧ Below w9.z w9 w) ?_ ?_
 ·refine Wg<|Rm z<|Rm z ?_
  obtain ⟨ue, huf, hmu⟩ := bdS hus
  refine c_V 18 ue 4 ?_ ?_
  ·rcases bs x2 with hc8 | hc8
   ·iterate 3 refine Nh z hc8 ?_
    exact R z (pT z hc8 z)<|WLq 4 (ifT huf hc8) z z z
   exact Rh z hc8 (fd a_O z)<|Rh z hc8 (l1 g_3 z fid<|hb.at z)<|Rh z hc8 (eql z z)<|R z (pF z hc8 z)<|WLq 4 (ifF huf hc8) z z z
  refine Rm z ?_
  obtain ⟨ug, huh, hmv⟩ := bdS hmu
  refine c_V 27 ug 8 ?_ ?_
  ·rcases bs ue with hc0 | hc0
   ·have hmi := ifT huh hc0
    refine Rh z hc0 (mv z)<|Rh z hc0 (mv z) ?_
    rcases bs x3 with hc5 | hc5
    ·iterate 4 refine Nh z hc5 ?_
     exact Rh z hc0 (pT z hc5 z)<|R z (pT z hc0 z)<|WLq 8 (ifT hmi hc5) z z z
    exact Rh z hc5 (fd a_N z)<|Rh z hc5 (l1 I_ z fid<|hb.at z)<|Rh z hc5 (lnR i_ z<|p1_4.e ha)<|Rh z hc5 (eql z z)<|Rh z hc0 (pF z hc5 z)<|R z (pT z hc0 z)<|WLq 8 (ifF hmi hc5) z z z
   exact Nh z hc0<|Nh z hc0<|Nv z<|Nv z<|Nv z<|Nv z<|Nh z hc0<|R z (pF z hc0 z)<|WLq 8 (ifF huh hc0) z z z
  refine Rm z ?_
  obtain ⟨uj, huk, hmw⟩ := bdS hmv
  refine c_V 36 uj 8 ?_ ?_
  ·rcases bs ug with hc1 | hc1
   ·have hml := ifT huk hc1
    refine Rh z hc1 (mv z)<|Rh z hc1 (mv z) ?_
    rcases bs x4 with hc6 | hc6
    ·iterate 4 refine Nh z hc6 ?_
     exact Rh z hc1 (pT z hc6 z)<|R z (pT z hc1 z)<|WLq 8 (ifT hml hc6) z z z
    exact Rh z hc6 (fd b_p z)<|Rh z hc6 (l1 b_x z fid<|hb.at z)<|Rh z hc6 (lnR a_8 z<|p1_5.e ha)<|Rh z hc6 (eql z z)<|Rh z hc1 (pF z hc6 z)<|R z (pT z hc1 z)<|WLq 8 (ifF hml hc6) z z z
   exact Nh z hc1<|Nh z hc1<|Nv z<|Nv z<|Nv z<|Nv z<|Nh z hc1<|R z (pF z hc1 z)<|WLq 8 (ifF huk hc1) z z z
  refine Rm z ?_
  obtain ⟨um, hun, hmo⟩ := bdS hmw
  refine c_V 45 um 8 ?_ ?_
  ·rcases bs uj with hc2 | hc2
   ·have hmp := ifT hun hc2
    refine Rh z hc2 (mv z)<|Rh z hc2 (mv z) ?_
    rcases bs x5 with hc7 | hc7
    ·iterate 4 refine Nh z hc7 ?_
     exact Rh z hc2 (pT z hc7 z)<|R z (pT z hc2 z)<|WLq 8 (ifT hmp hc7) z z z
    exact Rh z hc7 (fd a_J z)<|Rh z hc7 (l1 H_ z fid<|hb.at z)<|Rh z hc7 (lnR F_ z<|p1_6.e ha)<|Rh z hc7 (eql z z)<|Rh z hc2 (pF z hc7 z)<|R z (pT z hc2 z)<|WLq 8 (ifF hmp hc7) z z z
   exact Nh z hc2<|Nh z hc2<|Nv z<|Nv z<|Nv z<|Nv z<|Nh z hc2<|R z (pF z hc2 z)<|WLq 8 (ifF hun hc2) z z z
  refine Rm z ?_
  rcases bs um with hc3 | hc3
  ·have hmq := ifT hmo hc3
   refine Rh z hc3 (mv z)<|Rh z hc3 (lss z z)<|Rh z hc3 (mv z) ?_
   rcases bs (decide (x6 < 0)) with hc4 | hc4
   ·iterate 5 refine Nh z hc4 ?_
    exact Rh z hc3 (pT z hc4 z)<|R z (pT z hc3 z)<|Ra z<|Wl (fun _ q => ⟨true, som<|ifT hmq hc4, (q.k<|s1 z), (br w9)⟩)
   exact Rh z hc4 (fd a_5 z)<|Rh z hc4 (l1 H_ z fid<|hb.at z)<|Rh z hc4 (lnR F_ z<|p1_7.e ha)<|Rh z hc4 (mv z)<|Rh z hc4 (eql z z)<|Rh z hc3 (pF z hc4 z)<|R z (pT z hc3 z)<|Ra z<|Wl (fun _ q => ⟨(x1.kids.length : Int) == x6, som<|ifF hmq hc4, (q.k<|s1 z), (br w9)⟩)
  iterate 3 refine Nh z hc3 ?_
  exact Nv z<|Nv z<|Nv z<|Nv z<|Nv z<|Nh z hc3<|R z (pF z hc3 z)<|Ra z<|Wl (fun _ q => ⟨false, som<|ifF hmo hc3, (q.k<|s1 z), (br w9)⟩)
 rintro ax wz ⟨xc, rfl, hS10, sy⟩
 revert ax
 refine Wo ?_
 obtain rfl := som hmt
 exact Wr<|d_ hr z ⟨(bup ha sy), z⟩
theorem j_4 {x1 : g_} {x2 : Int} {res : Int} (hm : e_c x1 x2 = some res) (hBw : B ≤ w0.z) (p1_0 : b_ w0 B (sl A0 N0 C0) x1.rules) (p2_0 : inI x2) : j_ prog 178 [(.agg #[sl A0 N0 C0]), vI x2] w0 (Q0 w0 B res) := by
 unfold e_c at hm
 refine goF func178 z z (lb z) fun fn hr => Ws<|E z (fb z) ?_
 rintro _ w3 ⟨rfl, h9⟩
 have h2 := h9.below
 have h6 : Blk w3 w0.z [sl A0 N0 C0] := h9.blk
 refine Ra z<|Wn<|Wq<|Wq ?_
 obtain ⟨uf, hug, hma⟩ := bdS hm
 refine Wt (fun a w => ∃ (x7 : Bool), x7 = uf ∧ Sat 37 [(1, vI x2), (2, pt w0.z), (27, vB x7)] a ∧ Below w3.z w3 w) ?_ ?_
 ·refine Wg<|R z (lN (vs := [sl A0 N0 C0]) P_ D_ z z fid<|h6.row 0 1 z)<|Rm z ?_
  obtain ⟨rh, ei, hmb⟩ := bdS hug
  refine E z (fc call150 z<|j_2 (B := B) ei (zt' hBw h2.s) (p1_0.e h2) p2_0) ?_
  rintro _ w13 ⟨s4, rfl⟩
  refine R z (not_ z)<|Rm z ?_
  rcases bs (!rh) with hc1 | hc1
  ·iterate 7 refine Nh z hc1 ?_
   exact R z (pT z hc1 z)<|Rm z<|Nh z z<|Nh z z<|Nh z z<|Nh z z<|Nh z z<|Nh z z<|Nh z z<|Nh z z<|R z (pT z z z)<|Wl (fun _ q => ⟨true, som<|ifT hmb hc1, (q.k<|s3 z z z), s4⟩)
  refine Rh z hc1 (fd a_7 z) ?_
  have hc := h6.e s4
  refine Rh z hc1 (l1 a_e z fid<|hc.at z)<|Rh z hc1 (mv z) ?_
  obtain ⟨xj, ek, hmd⟩ := bdS (ifF hmb hc1)
  have he := p1_0.g<|(h2.ag B).e s4
  refine RXg z z hc1 z (at_ (α := c_) J_ q_ z z z he ek) ?_
  rintro _ ⟨b14, o15, cs16, rfl, hl, hn, h17⟩
  obtain ⟨a18, n19, c1a, a1b, n1c, c1d, a1e, n1f, c1g, a1h, n1i, c1j, rfl, h1k, h1l, h1m, h1n, h1o, h1p, h1q⟩ := a_E hn
  refine Rh z hc1 (fd b_y z)<|Rh z hc1 (l1 g_3 z fid<|hl.at (j := 1) z)<|Rh z hc1 (nq z z)<|R z (pF z hc1 z)<|Rm z ?_
  rcases bs (xj.kind != 1) with hc0 | hc0
  ·iterate 8 refine Nh z hc0 ?_
   exact R z (pT z hc0 z)<|Wl (fun _ q => ⟨true, som<|ifT hmd hc0, (q.k<|s3 z z z), s4⟩)
  refine Rh z hc0 (fd a_7 z)<|Rh z hc0 (l1 a_e z fid<|hc.at z)<|Rh z hc0 (mv z) ?_
  obtain ⟨x1r, em, hmo⟩ := bdS (ifF hmd hc0)
  refine RXg z z hc0 z (at_ (α := c_) J_ q_ z z z he em) ?_
  rintro _ ⟨b1s, o1t, cs1u, rfl, hp, hq, h1v⟩
  obtain ⟨a1w, n1x, c1y, a1z, n20, c21, a22, n23, c24, a25, n26, c27, rfl, h28, h29, ht, h2a, h2b, h2c, h2d⟩ := a_E hq
  refine Rh z hc0 (fd a_O z)<|Rh z hc0 (l1 g_3 z fid<|hp.at (j := 2) z) ?_
  obtain ⟨rr, es, hmu⟩ := bdS hmo
  refine Eg z z hc0 z (fc call117 z<|c_E (B := B) es (zt' hBw<|lt_ h2.s s4.s) ht (ii z)<|ii z) ?_
  rintro _ w2e ⟨sv, rfl⟩
  exact Rh z hc0 (not_ z)<|R z (pF z hc0 z)<|Wl (fun _ q => ⟨!rr, som hmu, (q.k<|s3 z z z), (bup s4 sv)⟩)
 rintro aw w2f ⟨x7, rfl, hS2g, s5⟩
 revert aw
 refine Wo<|Wc z (fun hc8 => ?_) (fun hc8 => ?_)
 ·refine Ws<|Ra z<|Wn ?_
  obtain rfl := som (ifT hma hc8)
  exact Wr<|d_ hr z ⟨(bup h2 s5), z, (ii z)⟩
 refine Wk<|Ws<|R z (fd a_7 z)<|R z (l1 a_e z fid<|(h6.e s5).at z)<|Rm z ?_
 obtain ⟨x2h, ex, hmy⟩ := bdS (ifF hma hc8)
 refine RX z (at_ (α := c_) J_ q_ z z z (p1_0.g<|(h2.ag B).e s5) ex) ?_
 rintro _ ⟨b2i, o2j, cs2k, rfl, hz, h10, h2l⟩
 obtain ⟨a2m, n2n, c2o, a2p, n2q, c2r, a2s, n2t, c2u, a2v, n2w, c2x, rfl, h2y, h2z, h30, h31, h32, h33, h34⟩ := a_E h10
 refine R z (fd a_O z)<|R z (l1 g_3 z fid<|hz.at (j := 2) z)<|R z (h_P z z) ?_
 obtain ⟨u35, e11, hm12⟩ := bdS hmy
 refine R z (f_D z z<|nnS e11)<|R z (sb_ z z)<|Ra z<|Wn ?_
 obtain rfl := som hm12
 exact Wr<|d_ hr z ⟨(bup h2 s5), z, (iS _ _)⟩
theorem W_w36 {x1 : List Str} {x2 : Str} {res : Bool} (hm : e_T x1 x2 = some res) (hBw : B ≤ w0.z) (p1_0 : b_ w0 B (sl A0 N0 C0) x1) (p2_0 : x2.b.length ≤ LEN) : j_ prog 202 [sl A0 N0 C0, Str.v x2] w0 (Q11 w0 B res) := by
 unfold e_T at hm
 refine goF func202 z z (lb z) fun fn hr => Ws<|Ra z<|Wn<|Wq<|Ws<|Rm z<|R z (lnR a_8 z p1_0)<|Rm z<|Wn ?_
 obtain ⟨uj, hu6, hm2⟩ := bdS hm
 refine Wf (σ := Unit) (ρ := Bool) (fun (k3 : Nat) (_ : Unit) a w => Sat 17 [(1, Str.v x2), (7, sl A0 N0 C0), (8, vI (x1.length : Int)), (9, (vI ((k3 : Nat) : Int)))] a ∧ Below w0.z w0 w) (fun (_ : Unit) a w => Sat 17 [] a ∧ Below w0.z w0 w) (fun r ex a w => ex = .ret ∧ v_ prog fn (Q11 w0 B r) a w) hu6 ?_ ?_ ?_ ?_ ?_
 ·exact fun _ q => ⟨(q.k<|s4 z z z z), (br w0)⟩
 ·rintro k3 _ ak wl om hk4 ⟨hS7, s0⟩ hm8
  refine Wu ?_ hS7
  refine Ws<|R z (lss z z)<|Wn<|Wq<|Wc z (fun _ => ?_) (fun hc => (N_ hk4 hc).elim)
  refine Wk<|Wq<|Wb<|Ws ?_
  obtain ⟨xn, e9, hm5⟩ := bdS hm8
  refine RX z (at_ (α := Str) a_8 z_9 z z z (p1_0.e s0) e9) ?_
  rintro _ ⟨bo, op, csq, rfl, ha, hb, ht⟩
  obtain ⟨rfl, hu⟩ := b_E hb
  refine R z (l1 g_9 z fid<|ha.at0 z)<|Ra z<|Wn<|Ws<|Rm z<|Rm z<|R z (d_s z z)<|Wn<|Wc z (fun hc1 => ?_) (fun hc1 => ?_)
  ·exact Ws<|Ra z<|Wn<|Wr<|rtO<|qL (som<|ifT hm5 hc1).symm<|d_ hr z ⟨s0, z⟩
  exact Wk<|Wg<|R z (inc_ hk4 (lt_ (b_.len p1_0) G_) z z)<|Rm z<|Wl (fun _ q => ⟨(), (som<|ifF hm5 hc1).symm, ⟨(q.k<|s4 z z z z), s0⟩⟩)
 ·rintro _ ar ws ⟨hSc, sd⟩
  refine Wu ?_ hSc
  refine Ws<|R z (lss z z)<|Wn<|Wq<|Wc z (fun hc => (O_ hc).elim) (fun _ => ?_)
  exact We (fun a' ha' => ⟨rfl, ⟨(Sat.weaken ha' sn), sd⟩⟩)
 ·rintro _ ae wv rfl ⟨hSw, sf⟩
  have hmg := elL hm2
  revert ae
  refine Wo<|Ws<|Ra z<|Wn ?_
  obtain rfl := som hmg
  exact Wr<|d_ hr z ⟨sf, z⟩
 rintro rx exy az w10 rfl ⟨rfl, hqh⟩
 have hmi := elR hm2
 obtain rfl := som hmi
 exact ⟨hqh, z⟩
theorem W_w37 {x1 : c_} {res : Bool} (hm : g_k n x1 = some res) (hBw : B ≤ w0.z) (p1_0 : x1.name.b.length ≤ LEN) (p1_1 : inI x1.kind) (p1_2 : inI x1.size) (p1_4 : b_ w0 B (sl AB NB CB) x1.bytes) (p1_5 : b_ w0 B (sl A7 N7 C7) x1.names) (p1_6 : b_ w0 B (sl AA NA CA) x1.tags) (p1_7 : b_ w0 B (sl A8 N8 C8) x1.kids) : j_ prog 179 [(.agg #[Str.v x1.name, vI x1.kind, vI x1.size, vB x1.little, sl AB NB CB, sl A7 N7 C7, sl AA NA CA, sl A8 N8 C8])] w0 (Q11 w0 B res) := by
 unfold g_k at hm
 refine goF func179 z z (lb z) fun fn hr => Ws<|E z (fb z) ?_
 rintro _ w5 ⟨rfl, hi⟩
 have h1 := hi.below
 have ha : Blk w5 w0.z (vR x1 AB NB CB A7 N7 C7 AA NA CA A8 N8 C8) := hi.blk
 refine Ra z<|Wn<|Wq<|Wq ?_
 obtain ⟨uy, huz, hmj⟩ := bdS hm
 refine Wt (fun a w => ∃ (xb : Bool), xb = uy ∧ Sat 44 [(1, pt w0.z), (23, vB xb)] a ∧ Below w5.z w5 w) ?_ ?_
 ·refine Wg<|R z (lN (vs := (vR x1 AB NB CB A7 N7 C7 AA NA CA A8 N8 C8)) K_ q_ z z fid<|ha.row 0 8 z) ?_
  obtain ⟨r10, e11, hmk⟩ := bdS huz
  refine E z (fc call177 z<|c_Z (B := B) e11 (zt' hBw h1.s) p1_0 p1_1 p1_2 (p1_4.e h1) (p1_5.e h1) (p1_6.e h1) (p1_7.e h1)<|ii z) ?_
  rintro _ w1x ⟨s6, rfl⟩
  refine R z (not_ z)<|Rm z ?_
  rcases bs (!r10) with hc0 | hc0
  ·iterate 7 refine Nh z hc0 ?_
   exact R z (pT z hc0 z)<|Rm z<|Nh z z<|Nh z z<|Nh z z<|Nh z z<|Nh z z<|R z (pT z z z)<|Wl (fun _ q => ⟨true, som<|ifT hmk hc0, (q.k<|s2 z z), s6⟩)
  have hml := ifF hmk hc0
  refine Rh z hc0 (fd a_5 z) ?_
  have hd := ha.e s6
  refine Rh z hc0 (l1 H_ z fid<|hd.at z) ?_
  have hn := (h1.ag B).e s6
  have he := p1_7.g hn
  refine Rh z hc0 (lnR F_ z he)<|Rh z hc0 (fd b_p z)<|Rh z hc0 (l1 b_x z fid<|hd.at z)<|Rh z hc0 (lnR a_8 z<|p1_5.g hn)<|Rh z hc0 (nq z z)<|R z (pF z hc0 z)<|Rm z ?_
  rcases bs ((x1.kids.length : Int) != (x1.names.length : Int)) with hc3 | hc3
  ·iterate 5 refine Nh z hc3 ?_
   exact R z (pT z hc3 z)<|Wl (fun _ q => ⟨true, som<|ifT hml hc3, (q.k<|s2 z z), s6⟩)
  refine Rh z hc3 (fd a_5 z)<|Rh z hc3 (l1 H_ z fid<|hd.at z)<|Rh z hc3 (lnR F_ z he) ?_
  obtain ⟨r12, e13, hm14⟩ := bdS (ifF hml hc3)
  refine Eg z z hc3 z (fc call117 z<|c_E (B := B) e13 (zt' hBw<|lt_ h1.s s6.s) (b_q<|b_.len he) (ii z)<|ii z) ?_
  rintro _ w1y ⟨s15, rfl⟩
  exact Rh z hc3 (not_ z)<|R z (pF z hc3 z)<|Wl (fun _ q => ⟨!r12, som hm14, (q.k<|s2 z z), (bup s6 s15)⟩)
 rintro a16 w4 ⟨xb, rfl, hS1z, s7⟩
 revert a16
 refine Wo<|Wc z (fun hcc => ?_) (fun hcc => ?_)
 ·refine Ws<|Ra z<|Wn ?_
  obtain rfl := som (ifT hmj hcc)
  exact Wr<|d_ hr z ⟨(bup h1 s7), z⟩
 refine Wk<|Wq<|Ws<|R z (fd b_p z) ?_
 have ho := ha.e s7
 refine R z (l1 b_x z fid<|ho.at z) ?_
 have hp := (h1.ag B).e s7
 refine R z (lnR a_8 z<|p1_5.g hp)<|Rm z<|Wn ?_
 obtain ⟨u20, hu17, hmm⟩ := bdS (ifF hmj hcc)
 refine Wf (σ := Unit) (ρ := Bool) (fun (kf : Nat) (_ : Unit) a w => Sat 44 [(1, pt w0.z), (25, sl A7 N7 C7), (26, vI (x1.names.length : Int)), (27, (vI ((kf : Nat) : Int)))] a ∧ Below w4.z w4 w) (fun (_ : Unit) a w => Sat 44 [] a ∧ Below w4.z w4 w) (fun r ex a w => ex = .ret ∧ v_ prog fn (Q11 w0 B r) a w) hu17 ?_ ?_ ?_ ?_ ?_
 ·exact fun _ q => ⟨(q.k<|s4 z z z z), (br w4)⟩
 ·rintro kf _ a21 wq o22 hkr ⟨hS18, s8⟩ hm19
  refine Wu ?_ hS18
  refine Ws<|R z (lss z z)<|Wn<|Wq<|Wc z (fun _ => ?_) (fun hc => (N_ hkr hc).elim)
  refine Wk<|Wq<|Wb<|Ws<|Rm z ?_
  obtain ⟨x23, e1a, hm1b⟩ := bdS hm19
  have ht := hp.e s8
  refine RX z (at_ (α := Str) a_8 z_9 z z z (p1_5.g ht) e1a) ?_
  rintro _ ⟨b24, o25, cs26, rfl, h1c, h1d, h27⟩
  obtain ⟨rfl, hu⟩ := b_E h1d
  refine R z (l1 g_9 z fid<|h1c.at0 z)<|Ra z<|Ra z<|Wn<|Wq ?_
  obtain ⟨u1e, hu1f, hms⟩ := bdS hm1b
  refine Wt (fun a w => ∃ (xg : Bool), xg = u1e ∧ Sat 44 [(1, pt w0.z), (25, sl A7 N7 C7), (26, vI (x1.names.length : Int)), (27, (vI ((kf : Nat) : Int))), (42, vB xg)] a ∧ Below wq.z wq w) ?_ ?_
  ·refine Wg<|Rm z ?_
   have hv := lt_ (lt_ h1.s s7.s) s8.s
   obtain ⟨r1g, e1h, hmw⟩ := bdS hu1f
   refine E z (fc call116 z<|j_3 (B := B) e1h (zt' hBw hv) hu) ?_
   rintro _ w28 ⟨s9, rfl⟩
   refine R z (not_ z)<|Rm z ?_
   rcases bs (!r1g) with hc2 | hc2
   ·iterate 6 refine Nh z hc2 ?_
    exact R z (pT z hc2 z)<|Wl (fun _ q => ⟨true, som<|ifT hmw hc2, (q.k<|s5 z z z z z), s9⟩)
   refine Rh z hc2 (fd b_p z)<|Rh z hc2 (l1 b_x z fid<|((ho.e s8).e s9).at z)<|Rh z hc2 (mv z) ?_
   obtain ⟨x29, e1i, hm1j⟩ := bdS (ifF hmw hc2)
   refine RXg z z hc2 z (rX a_8 z_9 z z (p1_5.g<|ht.e s9) z z e1i) ?_
   rintro _ ⟨a2a, n2b, c2c, rfl, h1k⟩
   refine Rh z hc2 (mv z) ?_
   obtain ⟨r1l, e1m, hm1n⟩ := bdS hm1j
   refine Eg z z hc2 z (fc call202 z<|W_w36 (B := B) e1m (zt' hBw<|lt_ hv s9.s) h1k hu) ?_
   rintro _ w2d ⟨s1o, rfl⟩
   exact R z (pF z hc2 z)<|Wl (fun _ q => ⟨r1l, som hm1n, (q.k<|s5 z z z z z), (bup s9 s1o)⟩)
  rintro a1p w2e ⟨xg, rfl, hS2f, sx⟩
  revert a1p
  refine Wo<|Wc z (fun hch => ?_) (fun hch => ?_)
  ·exact Ws<|Ra z<|Wn<|Wr<|rtO<|qL (som<|ifT hms hch).symm<|d_ hr z ⟨(bup (bup (bup h1 s7) s8) sx), z⟩
  exact Wk<|Wg<|R z (inc_ hkr (lt_ (b_.len p1_5) G_) z z)<|Rm z<|Wl (fun _ q => ⟨(), (som<|ifF hms hch).symm, ⟨(q.k<|s4 z z z z), (bup s8 sx)⟩⟩)
 ·rintro _ a2g w2h ⟨hS1q, s1r⟩
  refine Wu ?_ hS1q
  refine Ws<|R z (lss z z)<|Wn<|Wq<|Wc z (fun hc => (O_ hc).elim) (fun _ => ?_)
  exact We (fun a' ha' => ⟨rfl, ⟨(Sat.weaken ha' sn), s1r⟩⟩)
 ·rintro _ a1s w2i rfl ⟨hS2j, s1t⟩
  have hm1u := elL hmm
  revert a1s
  refine Wo<|Ws<|Ra z<|Wn ?_
  obtain rfl := som hm1u
  exact Wr<|d_ hr z ⟨(bup (bup h1 s7) s1t), z⟩
 rintro r2k ex2l a2m w2n rfl ⟨rfl, hq1v⟩
 have hm1w := elR hmm
 obtain rfl := som hm1w
 exact ⟨hq1v, z⟩
theorem W_w38 {x1 : g_} {x2 : c_} {res : Bool} (hm : g_l x1 x2 = some res) (hBw : B ≤ w0.z) (p1_0 : b_ w0 B (sl A0 N0 C0) x1.rules) (p2_0 : x2.name.b.length ≤ LEN) (p2_1 : inI x2.kind) (p2_2 : inI x2.size) (p2_4 : b_ w0 B (sl A3 N3 C3) x2.bytes) (p2_5 : b_ w0 B (sl A4 N4 C4) x2.names) (p2_6 : b_ w0 B (sl A2 N2 C2) x2.tags) (p2_7 : b_ w0 B (sl A5 N5 C5) x2.kids) : j_ prog 180 [(.agg #[sl A0 N0 C0]), (.agg #[Str.v x2.name, vI x2.kind, vI x2.size, vB x2.little, sl A3 N3 C3, sl A4 N4 C4, sl A2 N2 C2, sl A5 N5 C5])] w0 (Q11 w0 B res) := by
 unfold g_l at hm
 refine goF func180 z z (lb z) fun fn hr => Ws<|E z (fb z) ?_
 rintro _ w5 ⟨rfl, hn⟩
 have h4 := hn.below
 have h16 : Blk w5 w0.z [sl A0 N0 C0] := hn.blk
 refine E z (fb z) ?_
 rintro _ wg ⟨rfl, ho⟩
 have h3 := ho.below
 have he : Blk wg w5.z (vR x2 A3 N3 C3 A4 N4 C4 A2 N2 C2 A5 N5 C5) := ho.blk
 refine Ra z<|Wn<|Wq<|Wq ?_
 obtain ⟨u17, hu18, hmp⟩ := bdS hm
 refine Wt (fun a w => ∃ (xh : Bool), xh = u17 ∧ Sat 57 [(2, pt w0.z), (3, pt w5.z), (21, vB xh)] a ∧ Below wg.z wg w) ?_ ?_
 ·refine Wg<|R z (lN (vs := (vR x2 A3 N3 C3 A4 N4 C4 A2 N2 C2 A5 N5 C5)) K_ q_ z z fid<|he.row 0 8 z)<|R z (fd a_J z)<|R z (l1 H_ z fid<|he.at z) ?_
  have h6 := (h4.ag B).e h3
  have hq := p2_6.g h6
  refine R z (lnR F_ z hq)<|R z (add_ z z) ?_
  have ht := lt_ h4.s h3.s
  obtain ⟨r19, e1a, hmr⟩ := bdS hu18
  refine E z (fc call177 z<|c_Z (B := B) e1a (zt' hBw ht) p2_0 p2_1 p2_2 (p2_4.g h6) (p2_5.g h6) hq (p2_7.g h6)<|iA _ _) ?_
  rintro _ w2e ⟨s9, rfl⟩
  refine R z (not_ z)<|Rm z ?_
  rcases bs (!r19) with hc2 | hc2
  ·iterate 5 refine Nh z hc2 ?_
   exact R z (pT z hc2 z)<|Wl (fun _ q => ⟨true, som<|ifT hmr hc2, (q.k<|s3 z z z), s9⟩)
  refine Rh z hc2 (fd a_J z)<|Rh z hc2 (l1 H_ z fid<|(he.e s9).at z) ?_
  have hu := p2_6.g<|h6.e s9
  refine Rh z hc2 (lnR F_ z hu) ?_
  obtain ⟨r1b, e1c, hm1d⟩ := bdS (ifF hmr hc2)
  refine Eg z z hc2 z (fc call117 z<|c_E (B := B) e1c (zt' hBw<|lt_ ht s9.s) (b_q<|b_.len hu) (ii z)<|ii z) ?_
  rintro _ w2f ⟨s1e, rfl⟩
  exact Rh z hc2 (not_ z)<|R z (pF z hc2 z)<|Wl (fun _ q => ⟨!r1b, som hm1d, (q.k<|s3 z z z), (bup s9 s1e)⟩)
 rintro a1f w2g ⟨xh, rfl, hS2h, s7⟩
 revert a1f
 refine Wo<|Wc z (fun hci => ?_) (fun hci => ?_)
 ·refine Ws<|Ra z<|Wn ?_
  obtain rfl := som (ifT hmp hci)
  exact Wr<|d_ hr z ⟨(bup (bup h4 h3) s7), z⟩
 refine Wk<|Wq (Wd (X := noX) 0 (.rd 0 (.rd 1 (.rd 2 (.rd 3 (.rd 4 (.ef 5 (.rd 6 .done))))))) mo (by kernel_rfl) fun w2i s8 _ => dR z z (lN (vs := [sl A0 N0 C0]) P_ D_ z z fid<|(((h16.e h3).e s7).e s8).row 0 1 z)<|dR z z (fd a_5 z) ?_)
 have hv := (he.e s7).e s8
 refine dR z z (l1 H_ z fid<|hv.at z) ?_
 obtain ⟨x2j, e1g, hm1h⟩ := bdS (ifF hmp hci)
 have hj := (((h4.ag B).e h3).e s7).e s8
 refine dRX z z (at_ (α := Int) F_ z_3 z z z (p2_7.g hj) e1g) ?_
 rintro _ ⟨b2k, o2l, cs2m, rfl, h1i, h1j, h2n⟩
 obtain ⟨rfl, h1k⟩ := a_c h1j
 refine dR z z (l1 g_3 z fid<|h1i.at0 z) ?_
 have hw := lt_ (lt_ (lt_ h4.s h3.s) s7.s) s8.s
 obtain ⟨rk, e1l, hm1m⟩ := bdS hm1h
 refine dE z z (fc call178 z<|j_4 (B := B) e1l (zt' hBw hw) (p1_0.g hj) h1k) (.inr fun _ _ h => z_<|h.1) ?_
 rintro _ wa ⟨sb, rfl, h1n⟩
 refine dR z z (asg z)<|pD<|Wo<|Wq<|Ws<|R z (fd a_J z) ?_
 have hx := hv.e sb
 refine R z (l1 H_ z fid<|hx.at z) ?_
 have hy := hj.e sb
 refine R z (lnR F_ z<|p2_6.g hy)<|Rm z<|Wn ?_
 obtain ⟨u2o, hu1o, hms⟩ := bdS hm1m
 refine Wf (σ := Unit) (ρ := Bool) (fun (kf : Nat) (_ : Unit) a w => Sat 57 [(3, pt w5.z), (5, vI rk), (29, sl A2 N2 C2), (30, vI (x2.tags.length : Int)), (31, (vI ((kf : Nat) : Int)))] a ∧ Below wa.z wa w) (fun (_ : Unit) a w => Sat 57 [(5, vI rk)] a ∧ Below wa.z wa w) (fun r ex a w => ex = .ret ∧ v_ prog fn (Q11 w0 B r) a w) hu1o ?_ ?_ ?_ ?_ ?_
 ·exact fun _ q => ⟨(q.k<|s5 z z z z z), (br wa)⟩
 ·rintro kf _ a2p wz o2q hk10 ⟨hS1p, sc⟩ hm1q
  refine Wu ?_ hS1p
  refine Ws<|R z (lss z z)<|Wn<|Wq<|Wc z (fun _ => ?_) (fun hc => (N_ hk10 hc).elim)
  refine Wk<|Wq<|Wb<|Ws<|Rm z ?_
  obtain ⟨x1r, e1s, hm1t⟩ := bdS hm1q
  have h11 := hy.e sc
  refine RX z (at_ (α := Int) F_ z_3 z z z (p2_6.g h11) e1s) ?_
  rintro _ ⟨b2r, o2s, cs2t, rfl, h1u, h1v, h2u⟩
  obtain ⟨rfl, h1w⟩ := a_c h1v
  refine R z (l1 g_3 z fid<|h1u.at0 z)<|Ra z<|Ra z<|Wn<|Wq ?_
  obtain ⟨u1x, hu1y, hm12⟩ := bdS hm1t
  refine Wt (fun a w => ∃ (xl : Bool), xl = u1x ∧ Sat 57 [(3, pt w5.z), (5, vI rk), (29, sl A2 N2 C2), (30, vI (x2.tags.length : Int)), (31, (vI ((kf : Nat) : Int))), (53, vB xl)] a ∧ Below wz.z wz w) ?_ ?_
  ·refine Wg<|Rm z<|Rm z ?_
   obtain ⟨r1z, e20, hm13⟩ := bdS hu1y
   refine E z (fc call117 z<|c_E (B := B) e20 (zt' hBw<|lt_ (lt_ hw sb.s) sc.s) h1w (ii z) h1n) ?_
   rintro _ w2v ⟨sd, rfl⟩
   refine R z (not_ z)<|Rm z ?_
   rcases bs (!r1z) with hc1 | hc1
   ·iterate 3 refine Nh z hc1 ?_
    exact Nv z<|Nv z<|Nv z<|Nv z<|Nv z<|Nv z<|Nv z<|Nv z<|Nh z hc1<|R z (pT z hc1 z)<|Wl (fun _ q => ⟨true, som<|ifT hm13 hc1, (q.k<|s6 z z z z z z), sd⟩)
   have hm14 := ifF hm13 hc1
   refine Rh z hc1 (mv z)<|Rh z hc1 (a_i z z)<|Rh z hc1 (mv z) ?_
   rcases bs (decide (0 < ((kf : Nat) : Int))) with hc0 | hc0
   ·refine Rh z hc0 (fd a_J z)<|Rh z hc0 (l1 H_ z fid<|((hx.e sc).e sd).at z)<|Rh z hc0 (mv z)<|Rh z hc0 (sb_ z z) ?_
    obtain ⟨x21, e22, hm23⟩ := bdS (ifT hm14 hc0)
    refine RXg z z hc0 z (at_ (α := Int) F_ z_3 z z z (p2_6.g<|h11.e sd) e22) ?_
    rintro _ ⟨b2w, o2x, cs2y, rfl, h24, h25, h2z⟩
    obtain ⟨rfl, h30⟩ := a_c h25
    exact Rh z hc0 (l1 g_3 z fid<|h24.at0 z)<|Rh z hc0 (mv z)<|Rh z hc0 (a_W z z)<|Rh z hc1 (pT z hc0 z)<|R z (pF z hc1 z)<|Wl (fun _ q => ⟨decide (x1r ≤ x21), som hm23, (q.k<|s6 z z z z z z), sd⟩)
   iterate 8 refine Nh z hc0 ?_
   exact Rh z hc1 (pF z hc0 z)<|R z (pF z hc1 z)<|Wl (fun _ q => ⟨false, som<|ifF hm14 hc0, (q.k<|s6 z z z z z z), sd⟩)
  rintro a26 w31 ⟨xl, rfl, hS32, s15⟩
  revert a26
  refine Wo<|Wc z (fun hcm => ?_) (fun hcm => ?_)
  ·exact Ws<|Ra z<|Wn<|Wr<|rtO<|qL (som<|ifT hm12 hcm).symm<|d_ hr z ⟨(bup (bup (bup (bup (bup (bup h4 h3) s7) s8) sb) sc) s15), z⟩
  exact Wk<|Wg<|R z (inc_ hk10 (lt_ (b_.len p2_6) G_) z z)<|Rm z<|Wl (fun _ q => ⟨(), (som<|ifF hm12 hcm).symm, ⟨(q.k<|s5 z z z z z), (bup sc s15)⟩⟩)
 ·rintro _ a33 w34 ⟨hS27, s28⟩
  refine Wu ?_ hS27
  refine Ws<|R z (lss z z)<|Wn<|Wq<|Wc z (fun hc => (O_ hc).elim) (fun _ => ?_)
  exact We (fun a' ha' => ⟨rfl, ⟨(Sat.weaken ha'<|s1 z), s28⟩⟩)
 ·rintro _ a29 w35 rfl ⟨hS36, s2a⟩
  have hm2b := elL hms
  revert a29
  refine Wo<|Ws<|Rm z<|R z (a_i z z)<|Ra z<|Wn ?_
  obtain rfl := som hm2b
  exact Wr<|d_ hr z ⟨(bup (bup (bup (bup (bup h4 h3) s7) s8) sb) s2a), z⟩
 rintro r37 ex38 a39 w3a rfl ⟨rfl, hq2c⟩
 have hm2d := elR hms
 obtain rfl := som hm2d
 exact ⟨hq2c, z⟩
theorem W_w39 {x1 : g_} {x2 : c_} {res : Bool} (hm : g_m n x1 x2 = some res) (hBw : B ≤ w0.z) (p1_0 : b_ w0 B (sl A0 N0 C0) x1.rules) (p2_0 : x2.name.b.length ≤ LEN) (p2_1 : inI x2.kind) (p2_2 : inI x2.size) (p2_4 : b_ w0 B (sl A3 N3 C3) x2.bytes) (p2_5 : b_ w0 B (sl A4 N4 C4) x2.names) (p2_6 : b_ w0 B (sl A2 N2 C2) x2.tags) (p2_7 : b_ w0 B (sl A5 N5 C5) x2.kids) : j_ prog 151 [(.agg #[sl A0 N0 C0]), (.agg #[Str.v x2.name, vI x2.kind, vI x2.size, vB x2.little, sl A3 N3 C3, sl A4 N4 C4, sl A2 N2 C2, sl A5 N5 C5])] w0 (Q11 w0 B res) := by
 unfold g_m at hm
 refine goF func151 z z (lb z) fun fn hr => Ws<|E z (fb z) ?_
 rintro _ ww ⟨rfl, h1f⟩
 have h1 := h1f.below
 have hx : Blk ww w0.z [sl A0 N0 C0] := h1f.blk
 refine E z (fb z) ?_
 rintro _ w2 ⟨rfl, h1g⟩
 have h0 := h1g.below
 have h6 : Blk w2 ww.z (vR x2 A3 N3 C3 A4 N4 C4 A2 N2 C2 A5 N5 C5) := h1g.blk
 refine Ra z<|Wn<|Wq<|Ws<|R z (fd b_y z)<|R z (l1 g_3 z fid<|h6.at z)<|Wn<|Wb<|Ws<|R z (eql z z)<|Ra z<|Wn<|Wc z (fun hcy => ?_) (fun hcy => ?_)
 ·refine Wq ?_
  obtain ⟨u2f, hu2g, hm2h⟩ := bdS (ifT hm hcy)
  refine Wt (fun a w => ∃ (xz : Bool), xz = u2f ∧ Sat 102 [(4, vB xz)] a ∧ Below w2.z w2 w) ?_ ?_
  ·refine Wg<|R z (lN (vs := (vR x2 A3 N3 C3 A4 N4 C4 A2 N2 C2 A5 N5 C5)) K_ q_ z z fid<|h6.row 0 8 z) ?_
   have hq := (h1.ag B).e h0
   have h1h := lt_ h1.s h0.s
   obtain ⟨r2i, e2j, hm1i⟩ := bdS hu2g
   refine E z (fc call177 z<|c_Z (B := B) e2j (zt' hBw h1h) p2_0 p2_1 p2_2 (p2_4.g hq) (p2_5.g hq) (p2_6.g hq) (p2_7.g hq)<|ii z) ?_
   rintro _ w4t ⟨se, rfl⟩
   refine Rm z ?_
   rcases bs r2i with hca | hca
   ·refine Rh z hca (fd a_O z) ?_
    have h1j := h6.e se
    refine Rh z hca (l1 g_3 z fid<|h1j.at z) ?_
    obtain ⟨r2k, e2l, hm1k⟩ := bdS (ifT hm1i hca)
    refine Eg z z hca z (fc call117 z<|c_E (B := B) e2l (zt' hBw<|lt_ h1h se.s) p2_2 (ii z)<|ii z) ?_
    rintro _ w4u ⟨sr, rfl⟩
    refine R z (pT z hca z)<|Rm z ?_
    rcases bs r2k with hc5 | hc5
    ·have hm1l := ifT hm1k hc5
     refine Rh z hc5 (fd c_h z) ?_
     have h1m := h1j.e sr
     refine Rh z hc5 (l1 g_4 z fid<|h1m.at z)<|Rh z hc5 (not_ z)<|Rh z hc5 (mv z) ?_
     rcases bs (!x2.little) with hcb | hcb
     ·iterate 3 refine Nh z hcb ?_
      exact Rh z hc5 (pT z hcb z)<|R z (pT z hc5 z)<|Ra z<|Wl (fun _ q => ⟨true, som<|ifT hm1l hcb, (q.k<|s1 z), (bup se sr)⟩)
     exact Rh z hcb (fd a_O z)<|Rh z hcb (l1 g_3 z fid<|h1m.at z)<|Rh z hcb (a_i z z)<|Rh z hc5 (pF z hcb z)<|R z (pT z hc5 z)<|Ra z<|Wl (fun _ q => ⟨decide (1 < x2.size), som<|ifF hm1l hcb, (q.k<|s1 z), (bup se sr)⟩)
    iterate 4 refine Nh z hc5 ?_
    exact Nv z<|Nv z<|Nv z<|Nh z hc5<|R z (pF z hc5 z)<|Ra z<|Wl (fun _ q => ⟨false, som<|ifF hm1k hc5, (q.k<|s1 z), (bup se sr)⟩)
   iterate 3 refine Nh z hca ?_
   exact R z (pF z hca z)<|Rm z<|Nh z z<|Nh z z<|Nh z z<|Nh z z<|Nv z<|Nv z<|Nv z<|Nh z z<|R z (pF z z z)<|Ra z<|Wl (fun _ q => ⟨false, som<|ifF hm1i hca, (q.k<|s1 z), se⟩)
  rintro a2m w4v ⟨xz, rfl, hS4w, s2n⟩
  revert a2m
  refine Wo ?_
  obtain rfl := som hm2h
  exact Wr<|rtO<|d_ hr z ⟨(bup (bup h1 h0) s2n), z⟩
 have hm1n := ifF hm hcy
 refine Ws<|R z (eql z z)<|Ra z<|Wn<|Wc z (fun hc10 => ?_) (fun hc10 => ?_)
 ·refine Wq ?_
  obtain ⟨u2o, hu2p, hm2q⟩ := bdS (ifT hm1n hc10)
  refine Wt (fun a w => ∃ (x11 : Bool), x11 = u2o ∧ Sat 102 [(4, vB x11)] a ∧ Below w2.z w2 w) ?_ ?_
  ·refine Wg<|R z (lN (vs := (vR x2 A3 N3 C3 A4 N4 C4 A2 N2 C2 A5 N5 C5)) K_ q_ z z fid<|h6.row 0 8 z) ?_
   have hj := (h1.ag B).e h0
   have h1o := lt_ h1.s h0.s
   obtain ⟨r2r, e2s, hm1p⟩ := bdS hu2p
   refine E z (fc call177 z<|c_Z (B := B) e2s (zt' hBw h1o) p2_0 p2_1 p2_2 (p2_4.g hj) (p2_5.g hj) (p2_6.g hj) (p2_7.g hj)<|ii z) ?_
   rintro _ w4x ⟨sk, rfl⟩
   refine Rm z ?_
   rcases bs r2r with hc8 | hc8
   ·refine Rh z hc8 (fd a_N z)<|Rh z hc8 (l1 I_ z fid<|(h6.e sk).at z) ?_
    have h1q := p2_4.g<|hj.e sk
    refine Rh z hc8 (lnR i_ z h1q) ?_
    obtain ⟨r2t, e2u, hm2v⟩ := bdS (ifT hm1p hc8)
    refine Eg z z hc8 z (fc call117 z<|c_E (B := B) e2u (zt' hBw<|lt_ h1o sk.s) (b_q<|b_.len h1q) (ii z)<|ii z) ?_
    rintro _ w4y ⟨s2w, rfl⟩
    exact R z (pT z hc8 z)<|Ra z<|Wl (fun _ q => ⟨r2t, som hm2v, (q.k<|s1 z), (bup sk s2w)⟩)
   iterate 4 refine Nh z hc8 ?_
   exact R z (pF z hc8 z)<|Ra z<|Wl (fun _ q => ⟨false, som<|ifF hm1p hc8, (q.k<|s1 z), sk⟩)
  rintro a2x w4z ⟨x11, rfl, hS50, s2y⟩
  revert a2x
  refine Wo ?_
  obtain rfl := som hm2q
  exact Wr<|rtO<|d_ hr z ⟨(bup (bup h1 h0) s2y), z⟩
 have hm1r := ifF hm1n hc10
 refine Ws<|R z (eql z z)<|Ra z<|Wn<|Wc z (fun hc12 => ?_) (fun hc12 => ?_)
 ·refine Wq ?_
  obtain ⟨u2z, hu30, hm31⟩ := bdS (ifT hm1r hc12)
  refine Wt (fun a w => ∃ (x13 : Bool), x13 = u2z ∧ Sat 102 [(4, vB x13)] a ∧ Below w2.z w2 w) ?_ ?_
  ·refine Wg<|R z (lN (vs := (vR x2 A3 N3 C3 A4 N4 C4 A2 N2 C2 A5 N5 C5)) K_ q_ z z fid<|h6.row 0 8 z) ?_
   have ht := (h1.ag B).e h0
   have h1s := lt_ h1.s h0.s
   obtain ⟨r32, e33, hm1t⟩ := bdS hu30
   refine E z (fc call177 z<|c_Z (B := B) e33 (zt' hBw h1s) p2_0 p2_1 p2_2 (p2_4.g ht) (p2_5.g ht) (p2_6.g ht) (p2_7.g ht)<|ii z) ?_
   rintro _ w51 ⟨ss, rfl⟩
   refine Rm z ?_
   rcases bs r32 with hcc | hcc
   ·refine Rh z hcc (fd a_O z)<|Rh z hcc (l1 g_3 z fid<|(h6.e ss).at z) ?_
    obtain ⟨r34, e35, hm36⟩ := bdS (ifT hm1t hcc)
    refine Eg z z hcc z (fc call117 z<|c_E (B := B) e35 (zt' hBw<|lt_ h1s ss.s) p2_2 (ii z)<|ii z) ?_
    rintro _ w52 ⟨s37, rfl⟩
    exact R z (pT z hcc z)<|Ra z<|Wl (fun _ q => ⟨r34, som hm36, (q.k<|s1 z), (bup ss s37)⟩)
   iterate 3 refine Nh z hcc ?_
   exact R z (pF z hcc z)<|Ra z<|Wl (fun _ q => ⟨false, som<|ifF hm1t hcc, (q.k<|s1 z), ss⟩)
  rintro a38 w53 ⟨x13, rfl, hS54, s39⟩
  revert a38
  refine Wo ?_
  obtain rfl := som hm31
  exact Wr<|rtO<|d_ hr z ⟨(bup (bup h1 h0) s39), z⟩
 have hm1u := ifF hm1r hc12
 refine Ws<|R z (eql z z)<|Ra z<|Wn<|Wc z (fun hc14 => ?_) (fun hc14 => ?_)
 ·refine Wq ?_
  obtain ⟨u3a, hu3b, hm3c⟩ := bdS (ifT hm1u hc14)
  refine Wt (fun a w => ∃ (x15 : Bool), x15 = u3a ∧ Sat 102 [(4, vB x15)] a ∧ Below w2.z w2 w) ?_ ?_
  ·refine Wd (X := noX) 0 (.rd 0 (.ef 1 (.rd 2 (.rd 3 (.rd 4 (.rd 5 (.rd 6 (.rd 7 (.ef 8 (.rd 9 (.rd 10 (.rd 11 .done)))))))))))) mo (by kernel_rfl) fun w55 sf _ => ?_
   have h1v := h6.e sf
   refine dR z z (lN (vs := (vR x2 A3 N3 C3 A4 N4 C4 A2 N2 C2 A5 N5 C5)) K_ q_ z z fid<|h1v.row 0 8 z) ?_
   have hl := ((h1.ag B).e h0).e sf
   have h1w := lt_ (lt_ h1.s h0.s) sf.s
   obtain ⟨r3d, e3e, hm1x⟩ := bdS hu3b
   refine dE z z (fc call177 z<|c_Z (B := B) e3e (zt' hBw h1w) p2_0 p2_1 p2_2 (p2_4.g hl) (p2_5.g hl) (p2_6.g hl) (p2_7.g hl)<|ii z) (.inr fun _ _ h => z_<|h.1) ?_
   rintro _ w56 ⟨sg, rfl⟩
   refine dR z z (mv z) ?_
   rcases bs r3d with hc3 | hc3
   ·refine dRg z z z hc3 z (lN (vs := [sl A0 N0 C0]) P_ D_ z z fid<|(((hx.e h0).e sf).e sg).row 0 1 z)<|dRg z z z hc3 z (fd a_5 z)<|dRg z z z hc3 z (l1 H_ z fid<|(h1v.e sg).at z) ?_
    obtain ⟨x57, e3f, hm3g⟩ := bdS (ifT hm1x hc3)
    have h1y := hl.e sg
    refine a_V z z z hc3 z (at_ (α := Int) F_ z_3 z z z (p2_7.g h1y) e3f) ?_
    rintro _ ⟨b58, o59, cs5a, rfl, h3h, h3i, h5b⟩
    obtain ⟨rfl, h3j⟩ := a_c h3i
    refine dRg z z z hc3 z (l1 g_3 z fid<|h3h.at0 z) ?_
    obtain ⟨r3k, e3l, hm3m⟩ := bdS hm3g
    refine dEg z z z hc3 z (fc call178 z<|j_4 (B := B) e3l (zt' hBw<|lt_ h1w sg.s) (p1_0.g h1y) h3j) (.inr fun _ _ h => z_<|h.1) ?_
    rintro _ w5c ⟨s3n, rfl, h5d⟩
    exact dRg z z z hc3 z (a_i z z)<|dR z z (pT z hc3 z)<|dR z z (asg z)<|pD (fun _ q => ⟨decide (0 < r3k), som hm3m, (q.k<|s1 z), (bup (bup sf sg) s3n)⟩)
   iterate 5 refine dRn z z z hc3 z ?_
   exact dEn z z z hc3 z<|dRn z z z hc3 z<|dR z z (pF z hc3 z)<|dR z z (asg z)<|pD (fun _ q => ⟨false, som<|ifF hm1x hc3, (q.k<|s1 z), (bup sf sg)⟩)
  rintro a3o w5e ⟨x15, rfl, hS5f, s3p⟩
  revert a3o
  refine Wo ?_
  obtain rfl := som hm3c
  exact Wr<|rtO<|d_ hr z ⟨(bup (bup h1 h0) s3p), z⟩
 have hm1z := ifF hm1u hc14
 refine Ws<|R z (eql z z)<|Ra z<|Wn<|Wc z (fun hc16 => ?_) (fun hc16 => ?_)
 ·refine Wq ?_
  obtain ⟨u3q, hu3r, hm3s⟩ := bdS (ifT hm1z hc16)
  refine Wt (fun a w => ∃ (x17 : Bool), x17 = u3q ∧ Sat 102 [(4, vB x17)] a ∧ Below w2.z w2 w) ?_ ?_
  ·refine Wd (X := noX) 0 (.rd 0 (.ef 1 (.rd 2 (.rd 3 (.rd 4 (.rd 5 (.rd 6 (.rd 7 (.ef 8 (.rd 9 (.rd 10 (.rd 11 .done)))))))))))) mo (by kernel_rfl) fun w5g sh _ => ?_
   have h20 := h6.e sh
   refine dR z z (lN (vs := (vR x2 A3 N3 C3 A4 N4 C4 A2 N2 C2 A5 N5 C5)) K_ q_ z z fid<|h20.row 0 8 z) ?_
   have hn := ((h1.ag B).e h0).e sh
   have h21 := lt_ (lt_ h1.s h0.s) sh.s
   obtain ⟨r3t, e3u, hm22⟩ := bdS hu3r
   refine dE z z (fc call177 z<|c_Z (B := B) e3u (zt' hBw h21) p2_0 p2_1 p2_2 (p2_4.g hn) (p2_5.g hn) (p2_6.g hn) (p2_7.g hn)<|ii z) (.inr fun _ _ h => z_<|h.1) ?_
   rintro _ w5h ⟨si, rfl⟩
   refine dR z z (mv z) ?_
   rcases bs r3t with hc4 | hc4
   ·refine dRg z z z hc4 z (lN (vs := [sl A0 N0 C0]) P_ D_ z z fid<|(((hx.e h0).e sh).e si).row 0 1 z)<|dRg z z z hc4 z (fd a_5 z)<|dRg z z z hc4 z (l1 H_ z fid<|(h20.e si).at z) ?_
    obtain ⟨x5i, e3v, hm3w⟩ := bdS (ifT hm22 hc4)
    have h23 := hn.e si
    refine a_V z z z hc4 z (at_ (α := Int) F_ z_3 z z z (p2_7.g h23) e3v) ?_
    rintro _ ⟨b5j, o5k, cs5l, rfl, h3x, h3y, h5m⟩
    obtain ⟨rfl, h3z⟩ := a_c h3y
    refine dRg z z z hc4 z (l1 g_3 z fid<|h3x.at0 z) ?_
    obtain ⟨r40, e41, hm42⟩ := bdS hm3w
    refine dEg z z z hc4 z (fc call178 z<|j_4 (B := B) e41 (zt' hBw<|lt_ h21 si.s) (p1_0.g h23) h3z) (.inr fun _ _ h => z_<|h.1) ?_
    rintro _ w5n ⟨s43, rfl, h5o⟩
    exact dRg z z z hc4 z (a_i z z)<|dR z z (pT z hc4 z)<|dR z z (asg z)<|pD (fun _ q => ⟨decide (0 < r40), som hm42, (q.k<|s1 z), (bup (bup sh si) s43)⟩)
   iterate 5 refine dRn z z z hc4 z ?_
   exact dEn z z z hc4 z<|dRn z z z hc4 z<|dR z z (pF z hc4 z)<|dR z z (asg z)<|pD (fun _ q => ⟨false, som<|ifF hm22 hc4, (q.k<|s1 z), (bup sh si)⟩)
  rintro a44 w5p ⟨x17, rfl, hS5q, s45⟩
  revert a44
  refine Wo ?_
  obtain rfl := som hm3s
  exact Wr<|rtO<|d_ hr z ⟨(bup (bup h1 h0) s45), z⟩
 have hm24 := ifF hm1z hc16
 refine Ws<|R z (eql z z)<|Ra z<|Wn<|Wc z (fun hc18 => ?_) (fun hc18 => ?_)
 ·refine Ws<|R z (lN (vs := (vR x2 A3 N3 C3 A4 N4 C4 A2 N2 C2 A5 N5 C5)) K_ q_ z z fid<|h6.row 0 8 z) ?_
  have hu := (h1.ag B).e h0
  obtain ⟨r5r, e46, hm47⟩ := bdS (ifT hm24 hc18)
  refine E z (fc call179 z<|W_w37 (B := B) e46 (zt' hBw<|lt_ h1.s h0.s) p2_0 p2_1 p2_2 (p2_4.g hu) (p2_5.g hu) (p2_6.g hu)<|p2_7.g hu) ?_
  rintro _ w5s ⟨s48, rfl⟩
  refine Ra z<|Wn ?_
  obtain rfl := som hm47
  exact Wr<|rtO<|d_ hr z ⟨(bup (bup h1 h0) s48), z⟩
 have hm25 := ifF hm24 hc18
 refine Ws<|R z (eql z z)<|Ra z<|Wn<|Wc z (fun hc19 => ?_) (fun hc19 => ?_)
 ·refine Ws<|R z (lN (vs := [sl A0 N0 C0]) P_ D_ z z fid<|(hx.e h0).row 0 1 z)<|R z (lN (vs := (vR x2 A3 N3 C3 A4 N4 C4 A2 N2 C2 A5 N5 C5)) K_ q_ z z fid<|h6.row 0 8 z) ?_
  have ho := (h1.ag B).e h0
  obtain ⟨r5t, e49, hm4a⟩ := bdS (ifT hm25 hc19)
  refine E z (fc call180 z<|W_w38 (B := B) e49 (zt' hBw<|lt_ h1.s h0.s) (p1_0.g ho) p2_0 p2_1 p2_2 (p2_4.g ho) (p2_5.g ho) (p2_6.g ho)<|p2_7.g ho) ?_
  rintro _ w5u ⟨s4b, rfl⟩
  refine Ra z<|Wn ?_
  obtain rfl := som hm4a
  exact Wr<|rtO<|d_ hr z ⟨(bup (bup h1 h0) s4b), z⟩
 refine Wq<|Ws<|R z (eql z z)<|Ra z<|Wn ?_
 obtain ⟨u4c, hu26, hm27⟩ := bdS (ifF hm25 hc19)
 refine Wt (fun a w => ∃ (x1a : Bool), x1a = u4c ∧ Sat 102 [(3, pt ww.z), (6, vI x2.kind), (80, vB x1a)] a ∧ Below w2.z w2 w) ?_ ?_
 ·refine Wc z (fun hc1b => ?_) (fun hc1b => ?_)
  ·exact b_3 (fun _ q => ⟨x2.kind == 8, som<|ifT hu26 hc1b, (q.k<|s3 z z z), (br w2)⟩)
  exact Wg<|R z (eql z z)<|Ra z<|Wl (fun _ q => ⟨x2.kind == 9, som<|ifF hu26 hc1b, (q.k<|s3 z z z), (br w2)⟩)
 rintro a4d w28 ⟨x1a, rfl, hS5v, sd⟩
 revert a4d
 refine Wo<|Wc z (fun hc1c => ?_) (fun hc1c => ?_)
 ·refine Ws<|R z (lN (vs := (vR x2 A3 N3 C3 A4 N4 C4 A2 N2 C2 A5 N5 C5)) K_ q_ z z fid<|(h6.e sd).row 0 8 z) ?_
  have hv := ((h1.ag B).e h0).e sd
  obtain ⟨r5w, e4e, hm4f⟩ := bdS (ifT hm27 hc1c)
  refine E z (fc call177 z<|c_Z (B := B) e4e (zt' hBw<|lt_ (lt_ h1.s h0.s) sd.s) p2_0 p2_1 p2_2 (p2_4.g hv) (p2_5.g hv) (p2_6.g hv) (p2_7.g hv)<|ii z) ?_
  rintro _ w5x ⟨s4g, rfl⟩
  refine Ra z<|Wn ?_
  obtain rfl := som hm4f
  exact Wr<|rtO<|d_ hr z ⟨(bup (bup (bup h1 h0) sd) s4g), z⟩
 have hm29 := ifF hm27 hc1c
 refine Ws<|R z (eql z z)<|Ra z<|Wn<|Wc z (fun hc1d => ?_) (fun hc1d => ?_)
 ·refine Wq ?_
  obtain ⟨u4h, hu4i, hm4j⟩ := bdS (ifT hm29 hc1d)
  refine Wt (fun a w => ∃ (x1e : Bool), x1e = u4h ∧ Sat 102 [(4, vB x1e)] a ∧ Below w28.z w28 w) ?_ ?_
  ·refine Wg ?_
   have h2a := h6.e sd
   refine R z (lN (vs := (vR x2 A3 N3 C3 A4 N4 C4 A2 N2 C2 A5 N5 C5)) K_ q_ z z fid<|h2a.row 0 8 z) ?_
   have hp := ((h1.ag B).e h0).e sd
   obtain ⟨r4k, e4l, hm2b⟩ := bdS hu4i
   refine E z (fc call177 z<|c_Z (B := B) e4l (zt' hBw<|lt_ (lt_ h1.s h0.s) sd.s) p2_0 p2_1 p2_2 (p2_4.g hp) (p2_5.g hp) (p2_6.g hp) (p2_7.g hp)<|ii z) ?_
   rintro _ w5y ⟨sm, rfl⟩
   refine Rm z ?_
   rcases bs r4k with hc9 | hc9
   ·have hm2c := ifT hm2b hc9
    refine Rh z hc9 (fd a_N z) ?_
    have h2d := h2a.e sm
    refine Rh z hc9 (l1 I_ z fid<|h2d.at z) ?_
    have h2e := p2_4.g<|hp.e sm
    refine Rh z hc9 (lnR i_ z h2e)<|Rh z hc9 (eql z z)<|R z (pT z hc9 z)<|Rm z ?_
    rcases bs ((x2.bytes.length : Int) == 1) with hc7 | hc7
    ·refine Rh z hc7 (fd a_N z)<|Rh z hc7 (l1 I_ z fid<|h2d.at z) ?_
     obtain ⟨x4m, e4n, hm4o⟩ := bdS (ifT hm2c hc7)
     refine RXg z z hc7 z (at_ (α := UInt8) i_ z_5 z z z h2e e4n) ?_
     rintro _ ⟨b5z, o60, cs61, rfl, h4p, h4q, h62⟩
     obtain rfl := u8 h4q
     exact Rh z hc7 (l1 g_5 z fid<|h4p.at0 z)<|Rh z hc7 (nq z z)<|R z (pT z hc7 z)<|Ra z<|Wl (fun _ q => ⟨(byteI x4m) != (byteI (92 : UInt8)), som hm4o, (q.k<|s1 z), sm⟩)
    iterate 5 refine Nh z hc7 ?_
    exact R z (pF z hc7 z)<|Ra z<|Wl (fun _ q => ⟨false, som<|ifF hm2c hc7, (q.k<|s1 z), sm⟩)
   iterate 4 refine Nh z hc9 ?_
   exact R z (pF z hc9 z)<|Rm z<|Nh z z<|Nh z z<|Nh z z<|Nh z z<|Nh z z<|R z (pF z z z)<|Ra z<|Wl (fun _ q => ⟨false, som<|ifF hm2b hc9, (q.k<|s1 z), sm⟩)
  rintro a4r w63 ⟨x1e, rfl, hS64, s4s⟩
  revert a4r
  refine Wo ?_
  obtain rfl := som hm4j
  exact Wr<|rtO<|d_ hr z ⟨(bup (bup (bup h1 h0) sd) s4s), z⟩
 refine Wk<|Ws<|Ra z<|Wn ?_
 obtain rfl := som (ifF hm29 hc1d)
 exact Wr<|d_ hr z ⟨(bup (bup h1 h0) sd), z⟩
theorem W_w3a {x1 : g_} {x2 : Int} {res : Bool} (hm : g_n n x1 x2 = some res) (hBw : B ≤ w0.z) (p1_0 : b_ w0 B (sl A0 N0 C0) x1.rules) (p2_0 : inI x2) : j_ prog 135 [(.agg #[sl A0 N0 C0]), vI x2] w0 (Q11 w0 B res) := by
 unfold g_n at hm
 refine goF func135 z z (lb z) fun fn hr => Ws<|E z (fb z) ?_
 rintro _ w2e ⟨rfl, h1a⟩
 have h2 := h1a.below
 have ho : Blk w2e w0.z [sl A0 N0 C0] := h1a.blk
 refine Ra z<|Wn<|Wq<|Ws<|R z (lN (vs := [sl A0 N0 C0]) P_ D_ z z fid<|ho.row 0 1 z)<|Rm z ?_
 obtain ⟨r41, e2f, hm1b⟩ := bdS hm
 refine E z (fc call150 z<|j_2 (B := B) e2f (zt' hBw h2.s) (p1_0.e h2) p2_0) ?_
 rintro _ w8 ⟨s5, rfl⟩
 refine R z (not_ z)<|Wn<|Wc z (fun hcp => ?_) (fun hcp => ?_)
 ·refine Ws<|Ra z<|Wn ?_
  obtain rfl := som (ifT hm1b hcp)
  exact Wr<|d_ hr z ⟨(bup h2 s5), z⟩
 refine Wk<|Ws<|R z (fd a_7 z) ?_
 have h1c := ho.e s5
 refine R z (l1 a_e z fid<|h1c.at z)<|Rm z ?_
 obtain ⟨x9, e2g, hm2h⟩ := bdS (ifF hm1b hcp)
 have h1d := (h2.ag B).e s5
 refine RX z (at_ (α := c_) J_ q_ z z z (p1_0.g h1d) e2g) ?_
 rintro _ ⟨b42, o43, cs44, rfl, h2i, h2j, h45⟩
 obtain ⟨aq, nr, cs, au, nt, cv, aw, nx, cy, ae, nf, cg, rfl, h1e, h2k, h2l, h2m, h2n, h2o, hj⟩ := a_E h2j
 refine R z (lN (vs := (vR x9 aq nr cs au nt cv aw nx cy ae nf cg)) K_ q_ z z fid h2i)<|E z (fa b_N) ?_
 rintro _ w2p ⟨rfl, h1f⟩
 have h4 := h1f.below
 have h1g : Blk w2p w8.z [(Str.v (⟨[]⟩ : Str)), vI 0, vI 0, vB false, sl none 0 0, sl none 0 0, sl none 0 0, sl none 0 0] := h1f.blk
 refine E0 (fs (cur' := (vR x9 aq nr cs au nt cv aw nx cy ae nf cg)) q_ z z h1g z (lb z) (oA z) z) ?_
 rintro _ w1h ⟨hk, s2q⟩
 have h3 := s2q.one
 refine Wn<|Wq<|Wq ?_
 obtain ⟨u2r, hu2s, hm1i⟩ := bdS hm2h
 refine Wt (fun a w => ∃ (xz : Bool), xz = u2r ∧ Sat 65 [(1, vI x2), (2, pt w0.z), (5, pt w8.z), (31, vB xz)] a ∧ Below w1h.z w1h w) ?_ ?_
 ·refine Wg<|R z (fd c_g z)<|R z (l1 g_9 z fid<|hk.at z) ?_
  obtain ⟨r2t, e2u, hm1j⟩ := bdS hu2s
  refine E z (fc call116 z<|j_3 (B := B) e2u (zt' hBw<|lt_ (lt_ (lt_ h2.s s5.s) h4.s) h3.s) h1e) ?_
  rintro _ w46 ⟨sm, rfl⟩
  refine R z (not_ z)<|Rm z ?_
  rcases bs (!r2t) with hc0 | hc0
  ·iterate 3 refine Nh z hc0 ?_
   exact Nv z<|Nv z<|Nv z<|Nh z hc0<|R z (pT z hc0 z)<|Wl (fun _ q => ⟨true, som<|ifT hm1j hc0, (q.k<|s4 z z z z), sm⟩)
  have hm1k := ifF hm1j hc0
  refine Rh z hc0 (fd c_h z) ?_
  have h1l := hk.e sm
  refine Rh z hc0 (l1 g_4 z fid<|h1l.at z)<|Rh z hc0 (mv z) ?_
  rcases bs x9.little with hc6 | hc6
  ·exact Rh z hc6 (fd b_y z)<|Rh z hc6 (l1 g_3 z fid<|h1l.at z)<|Rh z hc6 (nq z z)<|Rh z hc0 (pT z hc6 z)<|R z (pF z hc0 z)<|Wl (fun _ q => ⟨x9.kind != 1, som<|ifT hm1k hc6, (q.k<|s4 z z z z), sm⟩)
  iterate 3 refine Nh z hc6 ?_
  exact Rh z hc0 (pF z hc6 z)<|R z (pF z hc0 z)<|Wl (fun _ q => ⟨false, som<|ifF hm1k hc6, (q.k<|s4 z z z z), sm⟩)
 rintro a2v wh ⟨xz, rfl, hS47, s1⟩
 revert a2v
 refine Wo<|Wc z (fun hc10 => ?_) (fun hc10 => ?_)
 ·refine Ws<|Ra z<|Wn ?_
  obtain rfl := som (ifT hm1i hc10)
  exact Wr<|d_ hr z ⟨(bup (bM (bup (bup h2 s5) h4) h3<|m1<|lt_ h2.s s5.s) s1), z⟩
 refine Wk<|Wq<|Ws<|R z (fd a_7 z) ?_
 have h1m := ((h1c.e h4).c h3<|djs<|mm1 ho.lt s5.s).e s1
 refine R z (l1 a_e z fid<|h1m.at z)<|Rm z ?_
 obtain ⟨x2w, e2x, hm2y⟩ := bdS (ifF hm1i hc10)
 have hd := lt_ h2.s s5.s
 have h1n : ∀ k ∈ [w8.z], ¬ B k := or0 (f_ lr)  (p_ (zt' hBw hd))
 have h1o := ((h1d.e h4).c h3<|h_ h1n).e s1
 refine RX z (rX J_ q_ z z (p1_0.g h1o) z z e2x) ?_
 rintro _ ⟨a2z, n30, c31, rfl, h11⟩
 refine R z (lnR J_ z h11)<|Rm z<|Wn ?_
 obtain ⟨u48, hu32, hm1p⟩ := bdS hm2y
 refine Wf (σ := Unit) (ρ := Bool) (fun (k1q : Nat) (_ : Unit) a w => Sat 65 [(1, vI x2), (2, pt w0.z), (5, pt w8.z), (35, sl a2z n30 c31), (36, vI (x2w.length : Int)), (37, (vI ((k1q : Nat) : Int)))] a ∧ Below wh.z wh w) (fun (_ : Unit) a w => Sat 65 [(1, vI x2), (2, pt w0.z), (5, pt w8.z)] a ∧ Below wh.z wh w) (fun r ex a w => ex = .ret ∧ v_ prog fn (Q11 w0 B r) a w) hu32 ?_ ?_ ?_ ?_ ?_
 ·exact fun _ q => ⟨(q.k<|s6 z z z z z z), (br wh)⟩
 ·rintro k1q _ a49 w33 o4a hk1r ⟨hS34, sa⟩ hm35
  refine Wu ?_ hS34
  refine Ws<|R z (lss z z)<|Wn<|Wq<|Wc z (fun _ => ?_) (fun hc => (N_ hk1r hc).elim)
  refine Wk<|Wq<|Wb<|Ws ?_
  obtain ⟨x1s, e36, hm1t⟩ := bdS hm35
  refine RX z (at_ (α := c_) J_ q_ z z z (h11.e sa) e36) ?_
  rintro _ ⟨b4b, o4c, cs4d, rfl, h37, h38, h4e⟩
  obtain ⟨a1u, n1v, c1w, a1x, n1y, c1z, a20, n21, c22, a23, n24, c25, rfl, h4f, h4g, h4h, h4i, h4j, h4k, h4l⟩ := a_E h38
  refine R z (lN (vs := (vR x1s a1u n1v c1w a1x n1y c1z a20 n21 c22 a23 n24 c25)) K_ q_ z z fid h37)<|E z (fa b_N) ?_
  rintro _ w39 ⟨rfl, h26⟩
  have h12 := h26.below
  have h3a : Blk w39 w33.z [(Str.v (⟨[]⟩ : Str)), vI 0, vI 0, vB false, sl none 0 0, sl none 0 0, sl none 0 0, sl none 0 0] := h26.blk
  refine E0 (fs (cur' := (vR x1s a1u n1v c1w a1x n1y c1z a20 n21 c22 a23 n24 c25)) q_ z z h3a z (lb z) (oA z) z) ?_
  rintro _ w4m ⟨h3b, s3c⟩
  have h13 := s3c.one
  refine Wn<|Ws<|R z (fd c_g z)<|R z (l1 g_9 z fid<|h3b.at z)<|R z (fd c_g z)<|R z (l1 g_9 z fid<|((((hk.e s1).e sa).e h12).c h13<|djs<|mm1 h1g.lt<|lt_ (lt_ h3.s s1.s) sa.s).at z)<|R z (d_s z z)<|Wn<|Wc z (fun hc14 => ?_) (fun hc14 => ?_)
  ·exact Ws<|Ra z<|Wn<|Wr<|rtO<|qL (som<|ifT hm1t hc14).symm<|d_ hr z ⟨(bM (bup (bup (bup (bM (bup (bup h2 s5) h4) h3<|m1 hd) s1) sa) h12) h13<|m1<|lt_ (lt_ (lt_ (lt_ hd h4.s) h3.s) s1.s) sa.s), z⟩
  exact Wk<|Wg<|R z (inc_ hk1r (lt_ (b_.len h11) G_) z z)<|Rm z<|Wl (fun _ q => ⟨(), (som<|ifF hm1t hc14).symm, ⟨(q.k<|s6 z z z z z z), (bM (bup sa h12) h13<|m1 sa.s)⟩⟩)
 ·rintro _ a4n w4o ⟨hS3d, s3e⟩
  refine Wu ?_ hS3d
  refine Ws<|R z (lss z z)<|Wn<|Wq<|Wc z (fun hc => (O_ hc).elim) (fun _ => ?_)
  exact We (fun a' ha' => ⟨rfl, ⟨(Sat.weaken ha'<|s3 z z z), s3e⟩⟩)
 ·rintro _ a3f wi rfl ⟨hS4p, sb⟩
  have hm3g := elL hm1p
  revert a3f
  refine Wo<|Wq<|Ws<|R z (fd a_5 z) ?_
  have h27 := (hk.e s1).e sb
  refine R z (l1 H_ z fid<|h27.at z) ?_
  have h15 := (((h4.ag B).c h3<|h_ h1n).e s1).e sb
  refine R z (lnR F_ z<|hj.g h15)<|Rm z<|Wn ?_
  obtain ⟨u4q, hu3h, hm28⟩ := bdS hm3g
  refine Wf (σ := Unit) (ρ := Bool) (fun (k16 : Nat) (_ : Unit) a w => Sat 65 [(1, vI x2), (2, pt w0.z), (5, pt w8.z), (48, sl ae nf cg), (49, vI (x9.kids.length : Int)), (50, (vI ((k16 : Nat) : Int)))] a ∧ Below wi.z wi w) (fun (_ : Unit) a w => Sat 65 [(2, pt w0.z), (5, pt w8.z)] a ∧ Below wi.z wi w) (fun r ex a w => ex = .ret ∧ v_ prog fn (Q11 w0 B r) a w) hu3h ?_ ?_ ?_ ?_ ?_
  ·exact fun _ q => ⟨(q.k<|s6 z z z z z z), (br wi)⟩
  ·rintro k16 _ a4r wl o4s hk29 ⟨hS3i, s17⟩ hm3j
   refine Wu ?_ hS3i
   refine Ws<|R z (lss z z)<|Wn<|Wq<|Wc z (fun _ => ?_) (fun hc => (N_ hk29 hc).elim)
   refine Wk<|Wq<|Wb<|Ws ?_
   obtain ⟨x2a, e3k, hm3l⟩ := bdS hm3j
   refine RX z (at_ (α := Int) F_ z_3 z z z (hj.g<|h15.e s17) e3k) ?_
   rintro _ ⟨b4t, o4u, cs4v, rfl, h3m, h3n, h4w⟩
   obtain ⟨rfl, h4x⟩ := a_c h3n
   refine R z (l1 g_3 z fid<|h3m.at0 z)<|Ra z<|Wn<|Wq ?_
   obtain ⟨u3o, hu2b, hm2c⟩ := bdS hm3l
   refine Wt (fun a w => ∃ (x18 : Bool), x18 = u3o ∧ Sat 65 [(1, vI x2), (2, pt w0.z), (5, pt w8.z), (48, sl ae nf cg), (49, vI (x9.kids.length : Int)), (50, (vI ((k16 : Nat) : Int))), (60, vB x18)] a ∧ Below wl.z wl w) ?_ ?_
   ·refine Wg<|Rm z<|R z (lss z z)<|Rm z ?_
    rcases bs (decide (x2a < 0)) with hc7 | hc7
    ·iterate 3 refine Nh z hc7 ?_
     exact R z (pT z hc7 z)<|Wl (fun _ q => ⟨true, som<|ifT hu2b hc7, (q.k<|s7 z z z z z z z), (br wl)⟩)
    exact Rh z hc7 (mv z)<|Rh z hc7 (mv z)<|Rh z hc7 (a_W z z)<|R z (pF z hc7 z)<|Wl (fun _ q => ⟨decide (x2 ≤ x2a), som<|ifF hu2b hc7, (q.k<|s7 z z z z z z z), (br wl)⟩)
   rintro a3p w4y ⟨x18, rfl, hS4z, s2d⟩
   revert a3p
   refine Wo<|Wc z (fun hc19 => ?_) (fun hc19 => ?_)
   ·exact Ws<|Ra z<|Wn<|Wr<|rtO<|qL (som<|ifT hm2c hc19).symm<|d_ hr z ⟨(bup (bup (bup (bup (bM (bup (bup h2 s5) h4) h3<|m1 hd) s1) sb) s17) s2d), z⟩
   exact Wk<|Wg<|R z (inc_ hk29 (lt_ (b_.len hj) G_) z z)<|Rm z<|Wl (fun _ q => ⟨(), (som<|ifF hm2c hc19).symm, ⟨(q.k<|s6 z z z z z z), (bup s17 s2d)⟩⟩)
  ·rintro _ a50 w51 ⟨hS3q, s3r⟩
   refine Wu ?_ hS3q
   refine Ws<|R z (lss z z)<|Wn<|Wq<|Wc z (fun hc => (O_ hc).elim) (fun _ => ?_)
   exact We (fun a' ha' => ⟨rfl, ⟨(Sat.weaken ha'<|s2 z z), s3r⟩⟩)
  ·rintro _ a3s w52 rfl ⟨hS53, sc⟩
   have hm3t := elL hm28
   revert a3s
   refine Wo<|Ws<|R z (lN (vs := [sl A0 N0 C0]) P_ D_ z z fid<|((h1m.e sb).e sc).row 0 1 z)<|R z (lN (vs := (vR x9 aq nr cs au nt cv aw nx cy ae nf cg)) K_ q_ z z fid<|(h27.e sc).row 0 8 z) ?_
   have hn := h15.e sc
   obtain ⟨r54, e3u, hm3v⟩ := bdS hm3t
   refine E z (fc call151 z<|W_w39 (B := B) e3u (zt' hBw<|lt_ (lt_ (lt_ (lt_ (lt_ hd h4.s) h3.s) s1.s) sb.s) sc.s) (p1_0.g<|(h1o.e sb).e sc) h1e h2k h2l (h2m.g hn) (h2n.g hn) (h2o.g hn)<|hj.g hn) ?_
   rintro _ w55 ⟨s3w, rfl⟩
   refine Ra z<|Wn ?_
   obtain rfl := som hm3v
   exact Wr<|d_ hr z ⟨(bup (bup (bup (bup (bM (bup (bup h2 s5) h4) h3<|m1 hd) s1) sb) sc) s3w), z⟩
  rintro r56 ex57 a58 w59 rfl ⟨rfl, hq3x⟩
  have hm3y := elR hm28
  obtain rfl := som hm3y
  exact ⟨hq3x, z⟩
 rintro r5a ex5b a5c w5d rfl ⟨rfl, hq3z⟩
 have hm40 := elR hm1p
 obtain rfl := som hm40
 exact ⟨hq3z, z⟩
theorem W_w18 {x1 : g_} {res : Bool} (hm : e_U n x1 = some res) (hBw : B ≤ w0.z) (p1_0 : b_ w0 B (sl A0 N0 C0) x1.rules) : j_ prog 111 [(.agg #[sl A0 N0 C0])] w0 (Q11 w0 B res) := by
 unfold e_U at hm
 refine goF func111 z z (lb z) fun fn hr => Ws<|E z (fb z) ?_
 rintro _ wh ⟨rfl, h7⟩
 have h0 := h7.below
 have h8 : Blk wh w0.z [sl A0 N0 C0] := h7.blk
 refine Ra z<|Wn<|Wq<|Ws<|R z (fd a_7 z)<|R z (l1 a_e z fid<|h8.at z) ?_
 have h9 := p1_0.e h0
 refine R z (lnR J_ z h9) ?_
 obtain ⟨ru, ei, hma⟩ := bdS hm
 refine E z (fc call117 z<|c_E (B := B) ei (zt' hBw h0.s) (b_q<|b_.len h9) (ii z)<|ii z) ?_
 rintro _ w2 ⟨s1, rfl⟩
 refine R z (not_ z)<|Wn<|Wc z (fun hc3 => ?_) (fun hc3 => ?_)
 ·refine Ws<|Ra z<|Wn ?_
  obtain rfl := som (ifT hma hc3)
  exact Wr<|d_ hr z ⟨(bup h0 s1), z⟩
 refine Wk<|Wq<|Ws<|R z (fd a_7 z) ?_
 have hb := h8.e s1
 refine R z (l1 a_e z fid<|hb.at z) ?_
 have hd := (h0.ag B).e s1
 refine R z (lnR J_ z<|p1_0.g hd)<|Rm z<|Wn ?_
 obtain ⟨uv, huj, hmc⟩ := bdS (ifF hma hc3)
 refine Wf (σ := Unit) (ρ := Bool) (fun (ke : Nat) (_ : Unit) a w => Sat 20 [(1, pt w0.z), (11, vI (x1.rules.length : Int)), (12, (vI ((ke : Nat) : Int)))] a ∧ Below w2.z w2 w) (fun (_ : Unit) a w => Sat 20 [] a ∧ Below w2.z w2 w) (fun r ex a w => ex = .ret ∧ v_ prog fn (Q11 w0 B r) a w) huj ?_ ?_ ?_ ?_ ?_
 ·exact fun _ q => ⟨(q.k<|s3 z z z), (br w2)⟩
 ·rintro ke _ aw wx oy hk5 ⟨hSk, s4⟩ hml
  refine Wu ?_ hSk
  refine Ws<|R z (lss z z)<|Wn<|Wq<|Wc z (fun _ => ?_) (fun hc => (N_ hk5 hc).elim)
  refine Wk<|Wq<|Wb<|Ws<|Rm z<|Ra z<|Wn<|Ws<|R z (lN (vs := [sl A0 N0 C0]) P_ D_ z z fid<|(hb.e s4).row 0 1 z)<|Rm z ?_
  obtain ⟨rz, em, hmf⟩ := bdS hml
  refine E z (fc call135 z<|W_w3a (B := B) em (zt' hBw<|lt_ (lt_ h0.s s1.s) s4.s) (p1_0.g<|hd.e s4)<|ic (Nat.le_of_lt hk5)<|lt_ (b_.len p1_0) G_) ?_
  rintro _ w10 ⟨sg, rfl⟩
  refine R z (not_ z)<|Wn<|Wc z (fun hc6 => ?_) (fun hc6 => ?_)
  ·exact Ws<|Ra z<|Wn<|Wr<|rtO<|qL (som<|ifT hmf hc6).symm<|d_ hr z ⟨(bup (bup (bup h0 s1) s4) sg), z⟩
  exact Wk<|Wg<|R z (inc_ hk5 (lt_ (b_.len p1_0) G_) z z)<|Rm z<|Wl (fun _ q => ⟨(), (som<|ifF hmf hc6).symm, ⟨(q.k<|s3 z z z), (bup s4 sg)⟩⟩)
 ·rintro _ a11 w12 ⟨hSn, so⟩
  refine Wu ?_ hSn
  refine Ws<|R z (lss z z)<|Wn<|Wq<|Wc z (fun hc => (O_ hc).elim) (fun _ => ?_)
  exact We (fun a' ha' => ⟨rfl, ⟨(Sat.weaken ha' sn), so⟩⟩)
 ·rintro _ ap w13 rfl ⟨hS14, sq⟩
  have hmr := elL hmc
  revert ap
  refine Wo<|Ws<|Ra z<|Wn ?_
  obtain rfl := som hmr
  exact Wr<|d_ hr z ⟨(bup (bup h0 s1) sq), z⟩
 rintro r15 ex16 a17 w18 rfl ⟨rfl, hqs⟩
 have hmt := elR hmc
 obtain rfl := som hmt
 exact ⟨hqs, z⟩
theorem W_w3b {x1 : B_} {res : Bool} (hm : g_T n x1 = some res) (hBw : B ≤ w0.z) (p1_0 : b_ w0 B (sl A0 N0 C0) x1.versions) : j_ prog 82 [(.agg #[sl A0 N0 C0])] w0 (Q11 w0 B res) := by
 unfold g_T at hm
 refine goF func82 z z (lb z) fun fn hr => Ws<|E z (fb z) ?_
 rintro _ w1 ⟨rfl, hb⟩
 have h0 := hb.below
 have hd : Blk w1 w0.z [sl A0 N0 C0] := hb.blk
 refine Ra z<|Wn<|Wq<|Ws<|R z (fd a_P z)<|R z (l1 a_Y z fid<|hd.at z) ?_
 have he := p1_0.e h0
 refine R z (lnR a_v z he)<|R z (a_i z z)<|Wn<|Wc z (fun hc5 => ?_) (fun hc5 => ?_)
 ·refine Ws<|Ra z<|Wn ?_
  obtain rfl := som (ifT hm hc5)
  exact Wr<|d_ hr z ⟨h0, z⟩
 refine Wk<|Wq<|Ws<|R z (fd a_P z)<|R z (l1 a_Y z fid<|hd.at z)<|R z (lnR a_v z he)<|Rm z<|Wn ?_
 obtain ⟨u16, hul, hmc⟩ := bdS (ifF hm hc5)
 refine Wf (σ := Unit) (ρ := Bool) (fun (kf : Nat) (_ : Unit) a w => Sat 20 [(10, sl A0 N0 C0), (11, vI (x1.versions.length : Int)), (12, (vI ((kf : Nat) : Int)))] a ∧ Below w1.z w1 w) (fun (_ : Unit) a w => Sat 20 [] a ∧ Below w1.z w1 w) (fun r ex a w => ex = .ret ∧ v_ prog fn (Q11 w0 B r) a w) hul ?_ ?_ ?_ ?_ ?_
 ·exact fun _ q => ⟨(q.k<|s3 z z z), (br w1)⟩
 ·rintro kf _ a17 wg o18 hkh ⟨hSm, s2⟩ hmn
  refine Wu ?_ hSm
  refine Ws<|R z (lss z z)<|Wn<|Wq<|Wc z (fun _ => ?_) (fun hc => (N_ hkh hc).elim)
  refine Wk<|Wq<|Wb<|Ws ?_
  obtain ⟨x19, eo, hmp⟩ := bdS hmn
  refine RX z (at_ (α := g_) a_v D_ z z z (p1_0.g<|(h0.ag B).e s2) eo) ?_
  rintro _ ⟨b1a, o1b, cs1c, rfl, hq, ht, h1d⟩
  obtain ⟨a6, n7, c8, rfl, hu⟩ := c_j ht
  refine R z (lN (vs := [sl a6 n7 c8]) P_ D_ z z fid hq)<|E z (fa d_n) ?_
  rintro _ wr ⟨rfl, hi⟩
  have h3 := hi.below
  have hv : Blk wr wg.z [sl none 0 0] := hi.blk
  refine E0 (fs (cur' := [sl a6 n7 c8]) D_ z z hv z (lb z) (oA z) z) ?_
  rintro _ w1e ⟨hw, ss⟩
  have h4 := ss.one
  refine Wn<|Ws<|R z (lN (vs := [sl a6 n7 c8]) P_ D_ z z fid<|hw.row 0 1 z) ?_
  have h9 := lt_ h0.s s2.s
  have hx : ∀ k ∈ [wg.z], ¬ B k := or0 (f_ lr)  (p_ (zt' hBw h9))
  obtain ⟨r1f, ey, hmj⟩ := bdS hmp
  refine E z (fc call111 z<|W_w18 (B := B) ey (zt' hBw<|lt_ (lt_ h9 h3.s) h4.s)<|hu.g<|(h3.ag B).c h4<|h_ hx) ?_
  rintro _ w1g ⟨sk, rfl⟩
  refine R z (not_ z)<|Wn<|Wc z (fun hca => ?_) (fun hca => ?_)
  ·exact Ws<|Ra z<|Wn<|Wr<|rtO<|qL (som<|ifT hmj hca).symm<|d_ hr z ⟨(bup (bM (bup (bup h0 s2) h3) h4<|m1 h9) sk), z⟩
  exact Wk<|Wg<|R z (inc_ hkh (lt_ (b_.len p1_0) G_) z z)<|Rm z<|Wl (fun _ q => ⟨(), (som<|ifF hmj hca).symm, ⟨(q.k<|s3 z z z), (bup (bM (bup s2 h3) h4<|m1 s2.s) sk)⟩⟩)
 ·rintro _ a1h w1i ⟨hSz, s10⟩
  refine Wu ?_ hSz
  refine Ws<|R z (lss z z)<|Wn<|Wq<|Wc z (fun hc => (O_ hc).elim) (fun _ => ?_)
  exact We (fun a' ha' => ⟨rfl, ⟨(Sat.weaken ha' sn), s10⟩⟩)
 ·rintro _ a11 w1j rfl ⟨hS1k, s12⟩
  have hm13 := elL hmc
  revert a11
  refine Wo<|Ws<|Ra z<|Wn ?_
  obtain rfl := som hm13
  exact Wr<|d_ hr z ⟨(bup h0 s12), z⟩
 rintro r1l ex1m a1n w1o rfl ⟨rfl, hq14⟩
 have hm15 := elR hmc
 obtain rfl := som hm15
 exact ⟨hq14, z⟩
theorem W_w3c {x1 : List UInt8} {res : (List UInt8) × Bool} (hm : g_U n x1 = some res) (hBw : B ≤ w0.z) (p1_0 : b_ w0 B (sl A0 N0 C0) x1) : j_ prog 136 [sl A0 N0 C0] w0 (Q12 w0 B res) := by
 unfold g_U at hm
 refine goF func136 z z (lb z) fun fn hr => Ws<|Ra z<|Ra z<|Wn<|Ws<|E z (f0 (α := UInt8) C_) ?_
 rintro _ w3 ⟨a1v, n1w, c1x, rfl, s7, h1y⟩
 refine Ra z<|Wn<|Wq<|Ws<|Ra z<|Wn ?_
 obtain ⟨u4r, hu1z, hm19⟩ := bdS hm
 refine b_4 (σ := (List UInt8) × Int) (ρ := (List UInt8) × Bool) (fun s a w => un2 (fun xk x4 => ∃ a5 n8 c9 S0, Sat 73 [(0, sl A0 N0 C0), (4, sl a5 n8 c9), (5, vI x4)] a ∧ Chg (· ∈ [w0.z]) w3 w ∧ a_ w S0 (sl a5 n8 c9) xk ∧ S0.Nodup ∧ (∀ k ∈ S0, k ∈ [w0.z] ∨ w3.z ≤ k) ∧ inI x4) s) (fun s a w => un2 (fun xk x4 => ∃ a5 n8 c9 S0, Sat 73 [(4, sl a5 n8 c9)] a ∧ Chg (· ∈ [w0.z]) w3 w ∧ a_ w S0 (sl a5 n8 c9) xk ∧ S0.Nodup ∧ (∀ k ∈ S0, k ∈ [w0.z] ∨ w3.z ≤ k) ∧ inI x4) s) (fun r ex a w => ex = .ret ∧ v_ prog fn (Q12 w0 B r) a w) hu1z ?_ ?_ ?_ ?_
 ·exact fun _ q => ⟨a1v, n1w, c1x, [w0.z], (q.k<|s3 z z z), (cr [w0.z] w3), h1y, X_, (io sr), (ii z)⟩
 ·rintro ⟨xk, x4⟩ a4s wg o4t ⟨a5, n8, c9, S0, hS20, sa, hl, hn, hi, h1a⟩ hm21
  have hm1b := a_h hm21
  refine Wu ?_ hS20
  refine Wq<|Ws<|Rm z<|Rm z ?_
  have h1c : ∀ k ∈ [w0.z], ¬ B k := or0 (f_ lr)  (p_ hBw)
  have hw := (s7.ag B).c sa<|h_ h1c
  have hx := p1_0.g hw
  refine R z (lnR i_ z hx)<|R z (lss z z)<|Wn<|Wc z (fun hcy => ?_) (fun hcy => ?_)
  ·refine Wk<|Wb<|Ws<|Rm z<|Rm z ?_
   obtain ⟨xm, e22, hm23⟩ := bdS (ifT hm1b hcy)
   refine RX z (at_ (α := UInt8) i_ z_5 z z z hx e22) ?_
   rintro _ ⟨b4u, o4v, cs4w, rfl, h24, h25, h4x⟩
   obtain rfl := u8 h25
   refine R z (l1 g_5 z fid<|h24.at0 z)<|R z (b_g d_5 d_3 z)<|Ra z<|Wn<|Ws<|Rm z<|R z (add_ z z)<|Ra z<|Wn<|Wq<|Wb<|Wq ?_
   obtain ⟨u26, hu1d, hm1e⟩ := bdS hm23
   refine Wt (fun a w => ∃ (xz : Bool), xz = u26 ∧ Sat 73 [(0, sl A0 N0 C0), (4, sl a5 n8 c9), (5, vI<|e_ x4 1), (6, vI<|byteI xm), (33, vB xz)] a ∧ Below wg.z wg w) ?_ ?_
   ·refine Wg<|Rm z<|R z (eql z z)<|Rm z ?_
    rcases bs ((byteI xm) == 0) with hcf | hcf
    ·exact Nh z hcf<|Nh z hcf<|R z (pT z hcf z)<|Rm z<|Nh z z<|Nh z z<|Nh z z<|Nh z z<|R z (pT z z z)<|Ra z<|Wl (fun _ q => ⟨true, som<|ifT hu1d hcf, (q.k<|s5 z z z z z), (br wg)⟩)
    have hm1f := ifF hu1d hcf
    refine Rh z hcf (mv z)<|Rh z hcf (eql z z)<|R z (pF z hcf z)<|Rm z ?_
    rcases bs ((byteI xm) == 128) with hcb | hcb
    ·iterate 4 refine Nh z hcb ?_
     exact R z (pT z hcb z)<|Ra z<|Wl (fun _ q => ⟨true, som<|ifT hm1f hcb, (q.k<|s5 z z z z z), (br wg)⟩)
    exact Rh z hcb (mv z)<|Rh z hcb (mv z)<|Rh z hcb (lnR i_ z hx)<|Rh z hcb (eql z z)<|R z (pF z hcb z)<|Ra z<|Wl (fun _ q => ⟨(e_ x4 1) == (x1.length : Int), som<|ifF hm1f hcb, (q.k<|s5 z z z z z), (br wg)⟩)
   rintro a27 w1 ⟨xz, rfl, hS4y, s6⟩
   revert a27
   refine Wo<|Wc z (fun hc10 => ?_) (fun hc10 => ?_)
   ·refine Ws<|E z (f0 (α := UInt8) C_) ?_
    rintro _ w4z ⟨a28, n29, c2a, rfl, s2b, h2c⟩
    exact Ra z<|Ra z<|Wn<|Wr<|rtO<|rtO<|qL (som<|ifT hm1e hc10).symm<|a_z hr z z ⟨(bup (bup (bM s7 sa<|f_ lr) s6) s2b), a28, n29, c2a, [w1.z], z, h2c, X_, (m1<|lt_ (lt_ s7.s sa.s) s6.s)⟩
   refine Ws<|Rm z<|R z (lss z z)<|Ra z<|Wn ?_
   obtain ⟨u2d, hu1g, hm11⟩ := bdS (ifF hm1e hc10)
   refine Wt (fun a w => ∃ (xr : List UInt8) (xo : Int), Sum.inl (xr, xo) = u2d ∧ ∃ au ns cv Sj, Sat 73 [(0, sl A0 N0 C0), (4, sl au ns cv), (5, vI xo)] a ∧ Chg (· ∈ S0) w1 w ∧ a_ w Sj (sl au ns cv) xr ∧ Sj.Nodup ∧ (∀ k ∈ Sj, k ∈ S0 ∨ w1.z ≤ k) ∧ inI xo) ?_ ?_
   ·refine Wc z (fun hc12 => ?_) (fun hc12 => ?_)
    ·have hm1h := ifT hu1g hc12
     refine Wq<|Ws<|Rm z<|Rm z ?_
     have h1i := p1_0.g<|hw.e s6
     refine R z (lnR i_ z h1i)<|Rm z<|R z (sb_ z z)<|R z (a_i z z)<|Wn<|Wc z (fun hc13 => ?_) (fun hc13 => ?_)
     ·refine Ws<|E z (f0 (α := UInt8) C_) ?_
      rintro _ w50 ⟨a2e, n2f, c2g, rfl, s2h, h2i⟩
      refine Ra z<|Ra z<|Wn ?_
      obtain rfl := som (ifT hm1h hc13)
      have hm2j := elR hm11
      exact Wr<|rtO<|rtO<|qL (som hm2j).symm<|a_z hr z z ⟨(bup (bup (bM s7 sa<|f_ lr) s6) s2h), a2e, n2f, c2g, [w1.z], z, h2i, X_, (m1<|lt_ (lt_ s7.s sa.s) s6.s)⟩
     refine Wk<|Ws<|Rm z<|Rm z<|Rm z<|Rm z<|Rm z<|R z (add_ z z) ?_
     obtain ⟨x51, e2k, hm2l⟩ := bdS (ifF hm1h hc13)
     refine RX z (rX i_ z_5 z z h1i z z e2k) ?_
     rintro _ ⟨a52, n53, c54, rfl, h2m⟩
     obtain ⟨x2n, e2o, hm2p⟩ := bdS hm2l
     refine E z (fN (α := UInt8) C_ e2o z z (hl.e s6) hn h2m) ?_
     rintro _ w2q ⟨S1j, a2r, n2s, c2t, rfl, s2u, h2v, h2w, h2x⟩
     refine Ra z<|Wn<|Wg<|Rm z<|Rm z<|R z (add_ z z)<|Ra z<|Wl ?_
     have h2y : ∀ k ∈ S1j, k ∈ S0 ∨ w1.z ≤ k := or1 h2x (io sr) (n_ lr)
     have h2z : Chg (· ∈ S0) w1 w2q := cM (cr S0 w1) s2u (io sr)
     exact fun _ q => ⟨x2n, e_ (e_ x4 1)<|byteI xm, som hm2p, a2r, n2s, c2t, S1j, (q.k<|s3 z z z), h2z, h2v, h2w, h2y, (iA _ _)⟩
    refine Wq<|Ws<|Rm z<|R z (sb_ z z)<|Rm z<|Wn ?_
    obtain ⟨u55, hu30, hm1k⟩ := bdS (ifF hu1g hc12)
    refine Wf (σ := (List UInt8)) (ρ := (List UInt8) × Bool) (fun (k1l : Nat) (xh : List UInt8) a w => ∃ ac nd ce S2, Sat 73 [(0, sl A0 N0 C0), (4, sl ac nd ce), (5, vI<|e_ x4 1), (20, (vI<|A_ (byteI xm) 128)), (21, (vI ((k1l : Nat) : Int)))] a ∧ Chg (· ∈ S0) w1 w ∧ a_ w S2 (sl ac nd ce) xh ∧ S2.Nodup ∧ (∀ k ∈ S2, k ∈ S0 ∨ w1.z ≤ k)) (fun (xh : List UInt8) a w => ∃ ac nd ce S2, Sat 73 [(0, sl A0 N0 C0), (4, sl ac nd ce), (5, vI<|e_ x4 1)] a ∧ Chg (· ∈ S0) w1 w ∧ a_ w S2 (sl ac nd ce) xh ∧ S2.Nodup ∧ (∀ k ∈ S2, k ∈ S0 ∨ w1.z ≤ k)) (fun r ex a w => ex = .ret ∧ v_ prog fn (Q12 w0 B r) a w) hu30 ?_ ?_ ?_ ?_ ?_
    ·exact fun _ q => ⟨a5, n8, c9, S0, (q.k<|s5 z z z z z), (cr S0 w1), (hl.e s6), hn, (io sr)⟩
    ·rintro k1l xh a56 w1m o57 hk1n ⟨ac, nd, ce, S2, hS31, s14, hp, hq, ht⟩ hm32
     refine Wu ?_ hS31
     refine Ws<|R z (lss z z)<|Wn<|Wq<|Wc z (fun _ => ?_) (fun hc => (h_E hk1n hc).elim)
     refine Wk<|Wq<|Wb<|Wg<|Rm z<|Rm z<|Rm z ?_
     obtain ⟨x33, e34, hm35⟩ := bdS hm32
     have h36 : ∀ k ∈ S0, ¬ B k := or1 hi h1c (p_ (zt' hBw s7.s))
     refine RX z (at_ (α := UInt8) i_ z_5 z z z (p1_0.g<|(hw.e s6).c s14<|h_ h36) e34) ?_
     rintro _ ⟨b58, o59, cs5a, rfl, h37, h38, h5b⟩
     obtain rfl := u8 h38
     refine R z (l1 g_5 z fid<|h37.at0 z)<|E z (fS [(.tmp 27)] C_ z z z (a_x z) (lb z)<|lb z) ?_
     rintro _ w1o ⟨rfl, h15⟩
     have h16 := h15.below
     have h39 : Blk w1o w1m.z [vU (byteI x33)] := h15.blk
     have h5c := c_1 h15 a_T
     obtain ⟨x3a, e3b, hm3c⟩ := bdS hm35
     refine E z (b_b (α := UInt8) C_ e3b z z (hp.e h16) hq h39 a_T an_ R_) ?_
     rintro _ w3d ⟨S1p, a3e, n3f, c3g, rfl, s3h, h3i, h3j, h3k⟩
     refine Ra z<|Wn<|Wg<|R z (inc_ hk1n (tl_<|iS _ _) z z)<|Rm z<|Wl ?_
     have h1q : ∀ k ∈ S2, k ∈ S0 ∨ w1.z ≤ k := or1 ht (io sr) (n_ lr)
     have h3l : ∀ k ∈ S1p, k ∈ S0 ∨ w1.z ≤ k := or2 h3k h1q an_ (n_ (lt_ s14.s h16.s))
     have h3m : Chg (· ∈ S0) w1 w1m := cM (cr S0 w1) s14 (io sr)
     have h3n : Chg (· ∈ S0) w1 w1o := E_ h3m h16
     have h3o : Chg (· ∈ S0) w1 w3d := cM h3n s3h h1q
     exact fun _ q => ⟨x3a, (som hm3c).symm, ⟨a3e, n3f, c3g, S1p, (q.k<|s5 z z z z z), h3o, h3i, h3j, h3l⟩⟩
    ·rintro xh a5d w3p ⟨ac, nd, ce, S2, hS3q, s3r, hp, hq, ht⟩
     refine Wu ?_ hS3q
     refine Ws<|R z (lss z z)<|Wn<|Wq<|Wc z (fun hc => (h_F hc).elim) (fun _ => ?_)
     have h3s : ∀ k ∈ S2, k ∈ S0 ∨ w1.z ≤ k := or1 ht (io sr) (n_ lr)
     have h3t : Chg (· ∈ S0) w1 w3p := cM (cr S0 w1) s3r (io sr)
     exact We (fun a' ha' => ⟨rfl, ⟨ac, nd, ce, S2, (Sat.weaken ha'<|s3 z z z), h3t, hp, hq, h3s⟩⟩)
    ·rintro xh a3u w3v rfl ⟨ac, nd, ce, S2, hS5e, s3w, hp, hq, ht⟩
     have hm3x := elL hm1k
     revert a3u
     refine Wo<|Wg<|Rm z<|R z (add_ z z)<|Ra z<|Wl ?_
     have h3y : ∀ k ∈ S2, k ∈ S0 ∨ w1.z ≤ k := or1 ht (io sr) (n_ lr)
     have h3z : Chg (· ∈ S0) w1 w3v := cM (cr S0 w1) s3w (io sr)
     exact fun _ q => ⟨xh, e_ (e_ x4 1) 1, som hm3x, ac, nd, ce, S2, (q.k<|s3 z z z), h3z, hp, hq, h3y, (iA _ _)⟩
    rintro r5f ex5g a5h w5i rfl ⟨rfl, hq40⟩
    have hm41 := elR hm1k
    obtain rfl := som hm41
    have hm42 := elR hm11
    exact ⟨(e_J<|e_J<|f_u (som hm42).symm ⟨rfl, hq40⟩), z⟩
   rintro a43 w1r ⟨xr, xo, rfl, au, ns, cv, Sj, hS5j, s17, h1s, h44, h45, h46⟩
   have hm47 := elL hm11
   have hm1t := a_h hm47
   revert a43
   refine Wo<|Ws<|Rm z<|R z (lnR i_ z<|a_.rep h1s)<|R z (a_i z z)<|Wn<|Wc z (fun hc18 => ?_) (fun hc18 => ?_)
   ·refine Ws<|E z (f0 (α := UInt8) C_) ?_
    rintro _ w5k ⟨a48, n49, c4a, rfl, s4b, h4c⟩
    refine Ra z<|Ra z<|Wn ?_
    have h4d : ∀ k ∈ S0, w0.z ≤ k := or1 hi (f_ lr) (a_Q s7.s)
    exact Wr<|rtO<|qL (som<|ifT hm1t hc18).symm<|a_z hr z z ⟨(bup (bM (bup (bM s7 sa<|f_ lr) s6) s17 h4d) s4b), a48, n49, c4a, [w1r.z], z, h4c, X_, (m1<|lt_ (lt_ (lt_ s7.s sa.s) s6.s) s17.s)⟩
   refine b_3 ?_
   have h1u : ∀ k ∈ S0, k ∈ [w0.z] ∨ w3.z ≤ k := or1 hi (io sr) (n_ lr)
   have h4e : ∀ k ∈ Sj, k ∈ [w0.z] ∨ w3.z ≤ k := or1 h45 h1u (n_ (lt_ sa.s s6.s))
   have h4f : Chg (· ∈ [w0.z]) w3 wg := cM (cr [w0.z] w3) sa (io sr)
   have h4g : Chg (· ∈ [w0.z]) w3 w1 := E_ h4f s6
   have h4h : Chg (· ∈ [w0.z]) w3 w1r := cM h4g s17 h1u
   exact fun _ q => ⟨(xr, xo), (som<|ifF hm1t hc18).symm, ⟨au, ns, cv, Sj, (q.k<|s3 z z z), h4h, h1s, h44, h4e, h46⟩⟩
  have h4i : ∀ k ∈ S0, k ∈ [w0.z] ∨ w3.z ≤ k := or1 hi (io sr) (n_ lr)
  have h4j : Chg (· ∈ [w0.z]) w3 wg := cM (cr [w0.z] w3) sa (io sr)
  exact We (fun a' ha' => b_0 (som<|ifF hm1b hcy).symm ⟨a5, n8, c9, S0, (Sat.weaken ha'<|s1 z), h4j, hl, hn, h4i, h1a⟩)
 ·rintro ⟨xk, x4⟩ a4k w5l rfl ⟨a5, n8, c9, S0, hS5m, s4l, hl, hn, hi, h1a⟩
  have hm4m := elL hm19
  have hm4n := a_h hm4m
  revert a4k
  refine Wo<|Ws<|Rm z<|Ra z<|Ra z<|Wn ?_
  obtain rfl := som hm4n
  have h4o : ∀ k ∈ S0, w0.z ≤ k := or1 hi (f_ lr) (a_Q s7.s)
  exact Wr<|a_z hr z z ⟨(bM s7 s4l<|f_ lr), a5, n8, c9, S0, z, hl, hn, h4o⟩
 rintro r5n ex5o a5p w5q rfl ⟨rfl, hq4p⟩
 have hm4q := elR hm19
 obtain rfl := som hm4q
 exact ⟨hq4p, z⟩
theorem j_5 {x1 : o_} {res : Bool} (hm : e_h n x1 = some res) (hBw : B ≤ w0.z) (p1_0 : inI x1.kind) (p1_1 : x1.name.b.length ≤ LEN) (p1_2 : inI x1.version) (p1_3 : b_ w0 B (sl AE NE CE) x1.data) : j_ prog 89 [(.agg #[vI x1.kind, Str.v x1.name, vI x1.version, sl AE NE CE])] w0 (Q11 w0 B res) := by
 unfold e_h at hm
 refine goF func89 z z (lb z) fun fn hr => Ws<|E z (fb z) ?_
 rintro _ wb ⟨rfl, hg⟩
 have h5 := hg.below
 have hc : Blk wb w0.z [vI x1.kind, Str.v x1.name, vI x1.version, sl AE NE CE] := hg.blk
 refine Ra z<|Wn<|Wq<|Wq ?_
 obtain ⟨uo, hup, hmh⟩ := bdS hm
 refine Wt (fun a w => ∃ (xd : Bool), xd = uo ∧ Sat 38 [(1, pt w0.z), (18, vB xd)] a ∧ Below wb.z wb w) ?_ ?_
 ·refine Wg<|R z (fd c_A z)<|R z (l1 g_9 z fid<|hc.at z) ?_
  obtain ⟨rq, er, hmi⟩ := bdS hup
  refine E z (fc call116 z<|j_3 (B := B) er (zt' hBw h5.s) p1_1) ?_
  rintro _ wz ⟨s6, rfl⟩
  refine R z (not_ z)<|Rm z ?_
  rcases bs (!rq) with hc1 | hc1
  ·iterate 4 refine Nh z hc1 ?_
   exact R z (pT z hc1 z)<|Rm z<|Nh z z<|Nh z z<|Nh z z<|Nh z z<|R z (pT z z z)<|Wl (fun _ q => ⟨true, som<|ifT hmi hc1, (q.k<|s2 z z), s6⟩)
  refine Rh z hc1 (fd b_X z) ?_
  have hj := hc.e s6
  refine Rh z hc1 (l1 g_3 z fid<|hj.at z) ?_
  obtain ⟨rs, et, hmk⟩ := bdS (ifF hmi hc1)
  refine Eg z z hc1 z (fc call117 z<|c_E (B := B) et (zt' hBw<|lt_ h5.s s6.s) p1_2 (ii z)<|ii z) ?_
  rintro _ w10 ⟨s8, rfl⟩
  refine Rh z hc1 (not_ z)<|R z (pF z hc1 z)<|Rm z ?_
  rcases bs (!rs) with hc2 | hc2
  ·iterate 4 refine Nh z hc2 ?_
   exact R z (pT z hc2 z)<|Wl (fun _ q => ⟨true, som<|ifT hmk hc2, (q.k<|s2 z z), (bup s6 s8)⟩)
  exact Rh z hc2 (fd c_B z)<|Rh z hc2 (l1 I_ z fid<|(hj.e s8).at z)<|Rh z hc2 (lnR i_ z<|p1_3.g<|((h5.ag B).e s6).e s8)<|Rh z hc2 (a_i z z)<|R z (pF z hc2 z)<|Wl (fun _ q => ⟨decide (400 < (x1.data.length : Int)), som<|ifF hmk hc2, (q.k<|s2 z z), (bup s6 s8)⟩)
 rintro au w7 ⟨xd, rfl, hS11, s9⟩
 revert au
 refine Wo<|Wc z (fun hce => ?_) (fun hce => ?_)
 ·refine Ws<|Ra z<|Wn ?_
  obtain rfl := som (ifT hmh hce)
  exact Wr<|d_ hr z ⟨(bup h5 s9), z⟩
 refine Wk<|Wq ?_
 obtain ⟨uv, hul, hmw⟩ := bdS (ifF hmh hce)
 refine Wt (fun a w => ∃ (xf : Bool), xf = uv ∧ Sat 38 [(2, vB xf)] a ∧ Below w7.z w7 w) ?_ ?_
 ·refine Wg<|R z (fd b_W z) ?_
  have ha := hc.e s9
  refine R z (l1 g_3 z fid<|ha.at z)<|R z (eql z z)<|Rm z ?_
  rcases bs (x1.kind == 1) with hc0 | hc0
  ·iterate 4 refine Nh z hc0 ?_
   exact Nv z<|Nv z<|Nv z<|Nh z hc0<|Nh z hc0<|Nv z<|Nv z<|Nv z<|Nv z<|Nh z hc0<|R z (pT z hc0 z)<|Ra z<|Wl (fun _ q => ⟨true, som<|ifT hul hc0, (q.k<|s1 z), (br w7)⟩)
  have hmm := ifF hul hc0
  refine Rh z hc0 (fd b_W z)<|Rh z hc0 (l1 g_3 z fid<|ha.at z)<|Rh z hc0 (eql z z)<|Rh z hc0 (mv z) ?_
  rcases bs (x1.kind == 2) with hc4 | hc4
  ·have hmn := ifT hmm hc4
   refine Rh z hc4 (fd b_X z)<|Rh z hc4 (l1 g_3 z fid<|ha.at z)<|Rh z hc4 (eql z z)<|Rh z hc0 (pT z hc4 z)<|Rh z hc0 (mv z) ?_
   rcases bs (x1.version == 0) with hc3 | hc3
   ·exact Rh z hc3 (fd c_B z)<|Rh z hc3 (l1 I_ z fid<|ha.at z)<|Rh z hc3 (lnR i_ z<|p1_3.g<|(h5.ag B).e s9)<|Rh z hc3 (eql z z)<|Rh z hc0 (pT z hc3 z)<|R z (pF z hc0 z)<|Ra z<|Wl (fun _ q => ⟨(x1.data.length : Int) == 0, som<|ifT hmn hc3, (q.k<|s1 z), (br w7)⟩)
   iterate 4 refine Nh z hc3 ?_
   exact Rh z hc0 (pF z hc3 z)<|R z (pF z hc0 z)<|Ra z<|Wl (fun _ q => ⟨false, som<|ifF hmn hc3, (q.k<|s1 z), (br w7)⟩)
  iterate 3 refine Nh z hc4 ?_
  exact Rh z hc0 (pF z hc4 z)<|Rh z hc0 (mv z)<|Nh z z<|Nh z z<|Nh z z<|Nh z z<|Rh z hc0 (pF z z z)<|R z (pF z hc0 z)<|Ra z<|Wl (fun _ q => ⟨false, som<|ifF hmm hc4, (q.k<|s1 z), (br w7)⟩)
 rintro ax w12 ⟨xf, rfl, hS13, sy⟩
 revert ax
 refine Wo ?_
 obtain rfl := som hmw
 exact Wr<|d_ hr z ⟨(bup (bup h5 s9) sy), z⟩
theorem W_w19 {x1 : List UInt8} {x2 : Int} {res : Bool} (hm : e_i x1 x2 = some res) (hBw : B ≤ w0.z) (p1_0 : b_ w0 B (sl A0 N0 C0) x1) (p2_0 : inI x2) : j_ prog 118 [sl A0 N0 C0, vI x2] w0 (Q11 w0 B res) := by
 unfold e_i at hm
 refine goF func118 z z (lb z) fun fn hr => Ws<|Ra z<|Wn<|Wq ?_
 obtain ⟨u7, hu5, hm8⟩ := bdS hm
 refine Wt (fun a w => ∃ (x4 : Bool), x4 = u7 ∧ Sat 34 [(4, vB x4)] a ∧ Below w0.z w0 w) ?_ ?_
 ·refine Wd (X := noX) 0 (.rd 0 (.rd 1 (.rd 2 (.rd 3 (.rd 4 (.rd 5 (.rd 6 (.rd 7 (.rd 8 (.rd 9 (.rd 10 (.rd 11 (.rd 12 (.rd 13 (.rd 14 (.rd 15 (.rd 16 (.rd 17 (.rd 18 (.rd 19 (.rd 20 (.rd 21 (.rd 22 (.rd 23 (.rd 24 (.rd 25 (.rd 26 (.rd 27 (.rd 28 (.rd 29 .done)))))))))))))))))))))))))))))) mo (by kernel_rfl) fun wu s3 _ => dR z z (mv z)<|dR z z (add_ z z)<|dR z z (mv z) ?_
  have h2 := p1_0.e s3
  refine dR z z (lnR i_ z h2)<|dR z z (lss z z)<|dR z z (mv z) ?_
  rcases bs (decide ((e_ x2 2) < (x1.length : Int))) with hc0 | hc0
  ·refine dRg z z z hc0 z (mv z)<|dRg z z z hc0 z (mv z) ?_
   obtain ⟨x9, ea, hmb⟩ := bdS (ifT hu5 hc0)
   refine a_V z z z hc0 z (at_ (α := UInt8) i_ z_5 z z z h2 ea) ?_
   rintro _ ⟨bv, ow, csx, rfl, hc, hd, hy⟩
   obtain rfl := u8 hd
   refine dRg z z z hc0 z (l1 g_5 z fid<|hc.at0 z)<|dRg z z z hc0 z (mv z)<|dRg z z z hc0 z (mv z)<|dRg z z z hc0 z (add_ z z) ?_
   obtain ⟨xe, ef, hm6⟩ := bdS hmb
   refine a_V z z z hc0 z (at_ (α := UInt8) i_ z_5 z z z h2 ef) ?_
   rintro _ ⟨bz, o10, cs11, rfl, hg, hh, h12⟩
   obtain rfl := u8 hh
   refine dRg z z z hc0 z (l1 g_5 z fid<|hg.at0 z)<|dRg z z z hc0 z (eql z z)<|dR z z (pT z hc0 z)<|dR z z (mv z) ?_
   rcases bs ((byteI x9) == (byteI xe)) with hc1 | hc1
   ·refine dRg z z z hc1 z (mv z)<|dRg z z z hc1 z (mv z) ?_
    obtain ⟨xi, ej, hmk⟩ := bdS (ifT hm6 hc1)
    refine a_V z z z hc1 z (at_ (α := UInt8) i_ z_5 z z z h2 ej) ?_
    rintro _ ⟨b13, o14, cs15, rfl, hl, hn, h16⟩
    obtain rfl := u8 hn
    refine dRg z z z hc1 z (l1 g_5 z fid<|hl.at0 z)<|dRg z z z hc1 z (mv z)<|dRg z z z hc1 z (mv z)<|dRg z z z hc1 z (add_ z z) ?_
    obtain ⟨xm, eo, hmp⟩ := bdS hmk
    refine a_V z z z hc1 z (at_ (α := UInt8) i_ z_5 z z z h2 eo) ?_
    rintro _ ⟨b17, o18, cs19, rfl, hq, ht, h1a⟩
    obtain rfl := u8 ht
    exact dRg z z z hc1 z (l1 g_5 z fid<|hq.at0 z)<|dRg z z z hc1 z (eql z z)<|dR z z (pT z hc1 z)<|dR z z (asg z)<|pD (fun _ q => ⟨(byteI xi) == (byteI xm), som hmp, (q.k<|s1 z), s3⟩)
   iterate 10 refine dRn z z z hc1 z ?_
   exact dR z z (pF z hc1 z)<|dR z z (asg z)<|pD (fun _ q => ⟨false, som<|ifF hm6 hc1, (q.k<|s1 z), s3⟩)
  iterate 10 refine dRn z z z hc0 z ?_
  refine dR z z (pF z hc0 z)<|dR z z (mv z) ?_
  iterate 10 refine dRn z z z z z ?_
  exact dR z z (pF z z z)<|dR z z (asg z)<|pD (fun _ q => ⟨false, som<|ifF hu5 hc0, (q.k<|s1 z), s3⟩)
 rintro ar w1b ⟨x4, rfl, hS1c, ss⟩
 revert ar
 refine Wo ?_
 obtain rfl := som hm8
 exact Wr<|d_ hr z ⟨ss, z⟩
theorem W_w3d {x1 : List UInt8} {x2 : Int} {res : Int} (hm : g_V n x1 x2 = some res) (hBw : B ≤ w0.z) (p1_0 : b_ w0 B (sl A0 N0 C0) x1) (p2_0 : inI x2) : j_ prog 120 [sl A0 N0 C0, vI x2] w0 (Q0 w0 B res) := by
 unfold g_V at hm
 refine goF func120 z z (lb z) fun fn hr => Ws<|Ra z<|Wn<|Wq<|Wq ?_
 obtain ⟨uk, hud, hme⟩ := bdS hm
 refine Wt (fun a w => ∃ (x4 : Bool), x4 = uk ∧ Sat 36 [(0, sl A0 N0 C0), (1, vI x2), (13, vB x4)] a ∧ Below w0.z w0 w) ?_ ?_
 ·refine Wg<|Rm z<|R z (lss z z)<|Rm z ?_
  rcases bs (decide (x2 < 0)) with hc1 | hc1
  ·iterate 4 refine Nh z hc1 ?_
   exact R z (pT z hc1 z)<|Wl (fun _ q => ⟨true, som<|ifT hud hc1, (q.k<|s3 z z z), (br w0)⟩)
  exact Rh z hc1 (mv z)<|Rh z hc1 (mv z)<|Rh z hc1 (lnR i_ z p1_0)<|Rh z hc1 (a_W z z)<|R z (pF z hc1 z)<|Wl (fun _ q => ⟨decide ((x1.length : Int) ≤ x2), som<|ifF hud hc1, (q.k<|s3 z z z), (br w0)⟩)
 rintro al w2 ⟨x4, rfl, hS16, s5⟩
 revert al
 refine Wo<|Wc z (fun hc6 => ?_) (fun hc6 => ?_)
 ·refine Ws<|Ra z<|Wn ?_
  obtain rfl := som (ifT hme hc6)
  exact Wr<|d_ hr z ⟨s5, z, (ii z)⟩
 refine Wk<|Ws<|Ra z<|Wn<|Wq ?_
 obtain ⟨u17, hum, hmf⟩ := bdS (ifF hme hc6)
 refine b_4 (σ := Int) (ρ := Int) (fun (x3 : Int) a w => Sat 36 [(0, sl A0 N0 C0), (1, vI x2), (5, vI x3)] a ∧ Below w2.z w2 w ∧ inI x3) (fun (x3 : Int) a w => Sat 36 [(5, vI x3)] a ∧ Below w2.z w2 w ∧ inI x3) (fun r ex a w => ex = .ret ∧ v_ prog fn (Q0 w0 B r) a w) hum ?_ ?_ ?_ ?_
 ·exact fun _ q => ⟨(q.k<|s3 z z z), (br w2), (ii z)⟩
 ·rintro x3 a18 wg o19 ⟨hSn, s7, h8⟩ hmo
  refine Wu ?_ hSn
  refine Wq<|Wq ?_
  obtain ⟨up, huh, hmi⟩ := bdS hmo
  refine Wt (fun a w => ∃ (x9 : Bool), x9 = up ∧ Sat 36 [(0, sl A0 N0 C0), (1, vI x2), (5, vI x3), (32, vB x9)] a ∧ Below wg.z wg w) ?_ ?_
  ·refine Wd (X := noX) 0 (.rd 0 (.rd 1 (.rd 2 (.rd 3 (.rd 4 (.rd 5 (.rd 6 (.rd 7 (.rd 8 (.rd 9 (.rd 10 (.rd 11 (.rd 12 (.rd 13 (.rd 14 (.rd 15 (.rd 16 (.rd 17 (.rd 18 .done))))))))))))))))))) mo (by kernel_rfl) fun w1a sa _ => dR z z (mv z)<|dR z z (mv z)<|dR z z (add_ z z)<|dR z z (mv z) ?_
   have hb := p1_0.g<|((s5.ag B).e s7).e sa
   refine dR z z (lnR i_ z hb)<|dR z z (lss z z)<|dR z z (mv z) ?_
   rcases bs (decide ((e_ x2 x3) < (x1.length : Int))) with hc0 | hc0
   ·iterate 3 refine dRg z z z hc0 z (mv z) ?_
    refine dRg z z z hc0 z (add_ z z) ?_
    obtain ⟨xq, er, hms⟩ := bdS (ifT huh hc0)
    refine a_V z z z hc0 z (at_ (α := UInt8) i_ z_5 z z z hb er) ?_
    rintro _ ⟨b1b, o1c, cs1d, rfl, ht, hu, h1e⟩
    obtain rfl := u8 hu
    refine dRg z z z hc0 z (l1 g_5 z fid<|ht.at0 z)<|dRg z z z hc0 z (mv z)<|dRg z z z hc0 z (mv z) ?_
    obtain ⟨xv, ew, hmx⟩ := bdS hms
    refine a_V z z z hc0 z (at_ (α := UInt8) i_ z_5 z z z hb ew) ?_
    rintro _ ⟨b1f, o1g, cs1h, rfl, hy, hz, h1i⟩
    obtain rfl := u8 hz
    exact dRg z z z hc0 z (l1 g_5 z fid<|hy.at0 z)<|dRg z z z hc0 z (eql z z)<|dR z z (pT z hc0 z)<|pD (fun _ q => ⟨(byteI xq) == (byteI xv), som hmx, (q.k<|s4 z z z z), sa⟩)
   iterate 11 refine dRn z z z hc0 z ?_
   exact dR z z (pF z hc0 z)<|pD (fun _ q => ⟨false, som<|ifF huh hc0, (q.k<|s4 z z z z), sa⟩)
  rintro a10 w1j ⟨x9, rfl, hS1k, sj⟩
  revert a10
  refine Wo<|Wc z (fun hcc => ?_) (fun hcc => ?_)
  ·exact Wk<|Wb<|Wg<|Rm z<|R z (add_ z z)<|Ra z<|Wl (fun _ q => ⟨e_ x3 1, (som<|ifT hmi hcc).symm, ⟨(q.k<|s3 z z z), (bup s7 sj), (iA _ _)⟩⟩)
  exact We (fun a' ha' => b_0 (som<|ifF hmi hcc).symm ⟨(Sat.weaken ha'<|s1 z), (bup s7 sj), h8⟩)
 ·rintro x3 a11 w1l rfl ⟨hS1m, s12, h8⟩
  have hm13 := elL hmf
  revert a11
  refine Wo<|Ws<|Rm z<|Ra z<|Wn ?_
  obtain rfl := som hm13
  exact Wr<|d_ hr z ⟨(bup s5 s12), z, h8⟩
 rintro r1n ex1o a1p w1q rfl ⟨rfl, hq14⟩
 have hm15 := elR hmf
 obtain rfl := som hm15
 exact ⟨hq14, z⟩
theorem W_w3e {x1 : Int} {x2 : Int} {res : Bool} (hm : g_W x1 x2 = some res) (hBw : B ≤ w0.z) (p1_0 : inI x1) (p2_0 : inI x2) : j_ prog 141 [vI x1, vI x2] w0 (Q11 w0 B res) := by
 unfold g_W at hm
 refine goF func141 z z (lb z) fun fn hr => Ws<|Ra z<|Wn<|Ws<|Rm z<|Rm z<|R z (lss z z)<|Ra z<|Wn ?_
 obtain rfl := som hm
 exact Wr<|d_ hr z ⟨(br w0), z⟩
theorem W_w3f {x2 : Int} {x3 : List Int} {res : Int} (hm : i_t x2 x3 = some res) (hBw : B ≤ w0.z) (p2_0 : inI x2) (p3_0 : b_ w0 B (sl A9 N9 C9) x3) : j_ prog 140 [(.func (.func 141) #[] #[]), vI x2, sl A9 N9 C9] w0 (Q0 w0 B res) := by
 unfold i_t at hm
 refine goF func140 z z (lb z) fun fn hr => Ws<|Ra z<|Wn<|Wq<|Ws<|Rm z<|R z (lnR F_ z p3_0)<|Rm z<|Wn ?_
 obtain ⟨uy, hub, hm7⟩ := bdS hm
 refine Wf (σ := Int) (ρ := Int) (fun (k3 : Nat) (x0 : Int) a w => Sat 22 [(0, (.func (.func 141) #[] #[])), (1, vI x0), (9, sl A9 N9 C9), (10, vI (x3.length : Int)), (11, (vI ((k3 : Nat) : Int)))] a ∧ Below w0.z w0 w ∧ inI x0) (fun (x0 : Int) a w => Sat 22 [(1, vI x0)] a ∧ Below w0.z w0 w ∧ inI x0) (fun r ex a w => ex = .ret ∧ v_ prog fn (Q0 w0 B r) a w) hub ?_ ?_ ?_ ?_ ?_
 ·exact fun _ q => ⟨(q.k<|s5 z z z z z), (br w0), p2_0⟩
 ·rintro k3 x0 az w10 o11 hk8 ⟨hSc, s6, h1⟩ hmd
  refine Wu ?_ hSc
  refine Ws<|R z (lss z z)<|Wn<|Wq<|Wc z (fun _ => ?_) (fun hc => (N_ hk8 hc).elim)
  refine Wk<|Wq<|Wb<|Ws ?_
  obtain ⟨xe, ef, hmg⟩ := bdS hmd
  refine RX z (at_ (α := Int) F_ z_3 z z z (p3_0.e s6) ef) ?_
  rintro _ ⟨b12, o13, cs14, rfl, hh, hi, h15⟩
  obtain ⟨rfl, h9⟩ := a_c hi
  refine R z (l1 g_3 z fid<|hh.at0 z)<|Ra z<|Wn<|Ws<|Rm z<|Rm z<|Rm z ?_
  obtain ⟨r16, ej, hmk⟩ := bdS hmg
  refine E z (j_i call141 z z<|W_w3e (B := B) ej (zt' hBw s6.s) h9 h1) ?_
  rintro _ w2 ⟨sm, rfl⟩
  refine Wn ?_
  obtain ⟨ul, hua, hmn⟩ := bdS hmk
  refine Wt (fun a w => ∃ (x4 : Int), x4 = ul ∧ Sat 22 [(0, (.func (.func 141) #[] #[])), (1, vI x4), (9, sl A9 N9 C9), (10, vI (x3.length : Int)), (11, (vI ((k3 : Nat) : Int)))] a ∧ Below w2.z w2 w ∧ inI x4) ?_ ?_
  ·refine Wc z (fun hc5 => ?_) (fun hc5 => ?_)
   ·exact Wg<|Rm z<|Ra z<|Wl (fun _ q => ⟨xe, som<|ifT hua hc5, (q.k<|s5 z z z z z), (br w2), h9⟩)
   exact b_3 (fun _ q => ⟨x0, som<|ifF hua hc5, (q.k<|s5 z z z z z), (br w2), h1⟩)
  rintro ao w17 ⟨x4, rfl, hS18, sp, hq⟩
  revert ao
  exact Wo<|Wg<|R z (inc_ hk8 (lt_ (b_.len p3_0) G_) z z)<|Rm z<|Wl (fun _ q => ⟨x4, (som hmn).symm, ⟨(q.k<|s5 z z z z z), (bup (bup s6 sm) sp), hq⟩⟩)
 ·rintro x0 a19 w1a ⟨hSr, ss, h1⟩
  refine Wu ?_ hSr
  refine Ws<|R z (lss z z)<|Wn<|Wq<|Wc z (fun hc => (O_ hc).elim) (fun _ => ?_)
  exact We (fun a' ha' => ⟨rfl, ⟨(Sat.weaken ha'<|s1 z), ss, h1⟩⟩)
 ·rintro x0 au w1b rfl ⟨hS1c, st, h1⟩
  have hmv := elL hm7
  revert au
  refine Wo<|Ws<|Rm z<|Ra z<|Wn ?_
  obtain rfl := som hmv
  exact Wr<|d_ hr z ⟨st, z, h1⟩
 rintro r1d ex1e a1f w1g rfl ⟨rfl, hqw⟩
 have hmx := elR hm7
 obtain rfl := som hmx
 exact ⟨hqw, z⟩
theorem W_w3g {x1 : Int} {x2 : Int} {res : Int} (hm : g_X x1 x2 = some res) (hBw : B ≤ w0.z) (p1_0 : inI x1) (p2_0 : inI x2) : j_ prog 119 [vI x1, vI x2] w0 (Q0 w0 B res) := by
 unfold g_X at hm
 refine goF func119 z z (lb z) fun fn hr => Ws<|Ra z<|Wn<|Ws<|Rm z<|Rm z<|E z (fS [(.tmp 6)] c_f z z z (a_x z) (lb z)<|lb z) ?_
 rintro _ w1 ⟨rfl, h0⟩
 have h6 : Blk w1 w0.z [vI x2] := h0.blk
 obtain ⟨r7, e2, hm3⟩ := bdS hm
 refine E z (fc call140 z<|W_w3f (B := w1.z) e2 zr p1_0<|a_.rep<|c_1 h0<|c_F p2_0) ?_
 rintro _ w8 ⟨s4, rfl, h5⟩
 refine Ra z<|Wn ?_
 obtain rfl := som hm3
 exact Wr<|d_ hr z ⟨(bup h0.below s4), z, h5⟩
theorem W_w3h {x1 : List UInt8} {res : (List UInt8)} (hm : g_Y n x1 = some res) (hBw : B ≤ w0.z) (p1_0 : b_ w0 B (sl A0 N0 C0) x1) : j_ prog 90 [sl A0 N0 C0] w0 (Q1 w0 B res) := by
 unfold g_Y at hm
 refine goF func90 z z (lb z) fun fn hr => Ws<|Ra z<|Wn<|Ws<|E z (f0 (α := UInt8) C_) ?_
 rintro _ w2 ⟨a1v, n1w, c1x, rfl, sd, h1y⟩
 refine Ra z<|Wn<|Wq<|Ws<|Ra z<|Wn ?_
 obtain ⟨u4q, hu1z, hm19⟩ := bdS hm
 refine b_4 (σ := (List UInt8) × Int) (ρ := (List UInt8)) (fun s a w => un2 (fun xe x4 => ∃ a5 n6 c7 S0, Sat 67 [(0, sl A0 N0 C0), (3, sl a5 n6 c7), (4, vI x4)] a ∧ Chg (· ∈ [w0.z]) w2 w ∧ a_ w S0 (sl a5 n6 c7) xe ∧ S0.Nodup ∧ (∀ k ∈ S0, k ∈ [w0.z] ∨ w2.z ≤ k) ∧ inI x4) s) (fun s a w => un2 (fun xe x4 => ∃ a5 n6 c7 S0, Sat 67 [(3, sl a5 n6 c7)] a ∧ Chg (· ∈ [w0.z]) w2 w ∧ a_ w S0 (sl a5 n6 c7) xe ∧ S0.Nodup ∧ (∀ k ∈ S0, k ∈ [w0.z] ∨ w2.z ≤ k) ∧ inI x4) s) (fun r ex a w => ex = .ret ∧ v_ prog fn (Q1 w0 B r) a w) hu1z ?_ ?_ ?_ ?_
 ·exact fun _ q => ⟨a1v, n1w, c1x, [w0.z], (q.k<|s3 z z z), (cr [w0.z] w2), h1y, X_, (io sr), (ii z)⟩
 ·rintro ⟨xe, x4⟩ a4r w1 o4s ⟨a5, n6, c7, S0, hS20, sf, hg, hh, hi, hl⟩ hm21
  have hm1a := a_h hm21
  refine Wu ?_ hS20
  refine Wq<|Ws<|Rm z<|Rm z ?_
  have h1b : ∀ k ∈ [w0.z], ¬ B k := or0 (f_ lr)  (p_ hBw)
  have hn := (sd.ag B).c sf<|h_ h1b
  have h1c := p1_0.g hn
  refine R z (lnR i_ z h1c)<|R z (lss z z)<|Wn<|Wc z (fun hcz => ?_) (fun hcz => ?_)
  ·refine Wk ?_
   obtain ⟨u22, hu23, hm1d⟩ := bdS (ifT hm1a hcz)
   refine Wt (fun a w => ∃ (xm : List UInt8) (xj : Int), Sum.inl (xm, xj) = u22 ∧ ∃ ao np cq Sc, Sat 67 [(0, sl A0 N0 C0), (3, sl ao np cq), (4, vI xj)] a ∧ Chg (· ∈ S0) w1 w ∧ a_ w Sc (sl ao np cq) xm ∧ Sc.Nodup ∧ (∀ k ∈ Sc, k ∈ S0 ∨ w1.z ≤ k) ∧ inI xj) ?_ ?_
   ·refine Wb<|Wq<|Ws<|Rm z<|Rm z ?_
    have h10 := lt_ sd.s sf.s
    obtain ⟨r4t, e24, hm1e⟩ := bdS hu23
    refine E z (fc call118 z<|W_w19 (B := B) e24 (zt' hBw h10) h1c hl) ?_
    rintro _ wb ⟨s8, rfl⟩
    refine Wn<|Wc z (fun hc11 => ?_) (fun hc11 => ?_)
    ·refine Ws<|Rm z<|Rm z ?_
     have h1f := hn.e s8
     have h1g := lt_ h10 s8.s
     obtain ⟨r4u, e25, hm26⟩ := bdS (ifT hm1e hc11)
     refine E z (fc call120 z<|W_w3d (B := B) e25 (zt' hBw h1g) (p1_0.g h1f) hl) ?_
     rintro _ w27 ⟨sk, rfl, h28⟩
     obtain ⟨rr, e29, hm2a⟩ := bdS hm26
     refine E z (fc call119 z<|W_w3g (B := B) e29 (zt' hBw<|lt_ h1g sk.s) h28<|ii z) ?_
     rintro _ ws ⟨st, rfl, h4v⟩
     refine Ra z<|Wn<|Ws<|Rm z<|Rm z<|R z (add_ z z)<|R z (b_f d_3 d_5 z)<|Rm z<|Rm z ?_
     obtain ⟨x12, e2b, hm2c⟩ := bdS hm2a
     refine RX z (at_ (α := UInt8) i_ z_5 z z z (p1_0.g<|(h1f.e sk).e st) e2b) ?_
     rintro _ ⟨b4w, o4x, cs4y, rfl, h2d, h2e, h4z⟩
     obtain rfl := u8 h2e
     refine R z (l1 g_5 z fid<|h2d.at0 z)<|E z (fS [(.tmp 22), (.tmp 26)] C_ z z z (a_x z) (lb z)<|lb z) ?_
     rintro _ w13 ⟨rfl, h1h⟩
     have h14 := h1h.below
     have h2f : Blk w13 ws.z [(vU (byteI (mkB (e_ 128 rr)))), vU (byteI x12)] := h1h.blk
     have h2g : a_ w13 [ws.z] (sl (some ⟨ws.z, 0, none⟩) 2 2) [mkB (e_ 128 rr), x12] := f_i (l := [mkB (e_ 128 rr), x12]) h2f z
     obtain ⟨x2h, e2i, hm2j⟩ := bdS hm2c
     refine E z (fN (α := UInt8) C_ e2i z z ((((hg.e s8).e sk).e st).e h14) hh<|a_.rep h2g) ?_
     rintro _ w2k ⟨S1i, a2l, n2m, c2n, rfl, s2o, h2p, h2q, h2r⟩
     refine Ra z<|Wn<|Ws<|Rm z<|Rm z<|R z (add_ z z)<|Ra z<|Wn<|We<|exH ?_
     have h2s : ∀ k ∈ S1i, k ∈ S0 ∨ w1.z ≤ k := or1 h2r (io sr) (n_ (lt_ (lt_ (lt_ s8.s sk.s) st.s) h14.s))
     have h2t : Chg (· ∈ S0) w1 wb := E_ (cr S0 w1) s8
     have h2u : Chg (· ∈ S0) w1 w27 := E_ h2t sk
     have h2v : Chg (· ∈ S0) w1 ws := E_ h2u st
     have h2w : Chg (· ∈ S0) w1 w13 := E_ h2v h14
     have h2x : Chg (· ∈ S0) w1 w2k := cM h2w s2o (io sr)
     exact fun _ q => ⟨x2h, e_ x4 rr, som hm2j, a2l, n2m, c2n, S1i, (q.k<|s3 z z z), h2x, h2p, h2q, h2s, (iA _ _)⟩
    refine Wk<|Ws<|Rm z<|R z (add_ z z)<|Ra z<|Wn<|Wq ?_
    obtain ⟨u50, hu2y, hm1j⟩ := bdS (ifF hm1e hc11)
    refine b_4 (σ := Int) (ρ := (List UInt8)) (fun (x3 : Int) a w => Sat 67 [(0, sl A0 N0 C0), (3, sl a5 n6 c7), (4, vI x4), (6, vI x3)] a ∧ Below wb.z wb w ∧ inI x3) (fun (x3 : Int) a w => Sat 67 [(0, sl A0 N0 C0), (3, sl a5 n6 c7), (4, vI x4), (6, vI x3)] a ∧ Below wb.z wb w ∧ inI x3) (fun r ex a w => ex = .ret ∧ v_ prog fn (Q1 w0 B r) a w) hu2y ?_ ?_ ?_ ?_
    ·exact fun _ q => ⟨(q.k<|s4 z z z z), (br wb), (iA _ _)⟩
    ·rintro x3 a51 wu o52 ⟨hS2z, sv, hw⟩ hm30
     refine Wu ?_ hS2z
     refine Wq<|Wq ?_
     obtain ⟨u31, hu1k, hm1l⟩ := bdS hm30
     refine Wt (fun a w => ∃ (x15 : Bool), x15 = u31 ∧ Sat 67 [(0, sl A0 N0 C0), (3, sl a5 n6 c7), (4, vI x4), (6, vI x3), (49, vB x15)] a ∧ Below wu.z wu w) ?_ ?_
     ·refine Wg<|Rm z<|Rm z ?_
      have h1m := p1_0.g<|(hn.e s8).e sv
      refine R z (lnR i_ z h1m)<|R z (lss z z)<|Rm z ?_
      rcases bs (decide (x3 < (x1.length : Int))) with hc9 | hc9
      ·have hm1n := ifT hu1k hc9
       refine Rh z hc9 (mv z)<|Rh z hc9 (mv z)<|Rh z hc9 (sb_ z z)<|Rh z hc9 (lss z z)<|R z (pT z hc9 z)<|Rm z ?_
       rcases bs (decide ((A_ x3 x4) < 127)) with hca | hca
       ·refine Rh z hca (mv z)<|Rh z hca (mv z) ?_
        obtain ⟨r32, e33, hm34⟩ := bdS (ifT hm1n hca)
        refine Eg z z hca z (fc call118 z<|W_w19 (B := B) e33 (zt' hBw<|lt_ (lt_ h10 s8.s) sv.s) h1m hw) ?_
        rintro _ w53 ⟨s35, rfl⟩
        exact Rh z hca (not_ z)<|R z (pT z hca z)<|Wl (fun _ q => ⟨!r32, som hm34, (q.k<|s5 z z z z z), s35⟩)
       iterate 4 refine Nh z hca ?_
       exact R z (pF z hca z)<|Wl (fun _ q => ⟨false, som<|ifF hm1n hca, (q.k<|s5 z z z z z), (br wu)⟩)
      iterate 4 refine Nh z hc9 ?_
      exact R z (pF z hc9 z)<|Rm z<|Nh z z<|Nh z z<|Nh z z<|Nh z z<|R z (pF z z z)<|Wl (fun _ q => ⟨false, som<|ifF hu1k hc9, (q.k<|s5 z z z z z), (br wu)⟩)
     rintro a36 w54 ⟨x15, rfl, hS55, s1o⟩
     revert a36
     refine Wo<|Wc z (fun hc16 => ?_) (fun hc16 => ?_)
     ·exact Wk<|Wb<|Wg<|Rm z<|R z (add_ z z)<|Ra z<|Wl (fun _ q => ⟨e_ x3 1, (som<|ifT hm1l hc16).symm, ⟨(q.k<|s4 z z z z), (bup sv s1o), (iA _ _)⟩⟩)
     exact We (fun a' ha' => b_0 (som<|ifF hm1l hc16).symm ⟨(Sat.weaken ha'<|s4 z z z z), (bup sv s1o), hw⟩)
    ·rintro x3 a37 w1p rfl ⟨hS56, sx, hw⟩
     have hm38 := elL hm1j
     revert a37
     refine Wo<|Ws<|Rm z<|Rm z<|Rm z<|R z (sb_ z z)<|R z (b_f d_3 d_5 z)<|E z (fS [(.tmp 56)] C_ z z z (a_x z) (lb z)<|lb z) ?_
     rintro _ w1q ⟨rfl, h17⟩
     have hy := h17.below
     have h39 : Blk w1q w1p.z [(vU (byteI (mkB (A_ x3 x4))))] := h17.blk
     have h57 := c_1 h17 a_T
     obtain ⟨x58, e3a, hm3b⟩ := bdS hm38
     refine E z (b_b (α := UInt8) C_ e3a z z (((hg.e s8).e sx).e hy) hh h39 a_T an_ R_) ?_
     rintro _ w3c ⟨S3d, a59, n5a, c5b, rfl, s18, h3e, h3f, h3g⟩
     refine Ra z<|Wn<|Ws<|Rm z<|Rm z<|Rm z<|Rm z ?_
     obtain ⟨x5c, e3h, hm3i⟩ := bdS hm3b
     have h3j : ∀ k ∈ S0, ¬ B k := or1 hi h1b (p_ (zt' hBw sd.s))
     refine RX z (rX i_ z_5 z z (p1_0.g<|(((hn.e s8).e sx).e hy).c s18<|h_ h3j) z z e3h) ?_
     rintro _ ⟨a5d, n5e, c5f, rfl, h3k⟩
     obtain ⟨x3l, e3m, hm3n⟩ := bdS hm3i
     refine E z (fN (α := UInt8) C_ e3m z z h3e h3f h3k) ?_
     rintro _ w3o ⟨S1r, a3p, n3q, c3r, rfl, s3s, h3t, h3u, h3v⟩
     refine Ra z<|Wn<|Wg<|Rm z<|Ra z<|Wl ?_
     have h1s := lt_ (lt_ s8.s sx.s) hy.s
     have h1t : ∀ k ∈ S3d, k ∈ S0 ∨ w1.z ≤ k := or2 h3g (io sr) an_ (n_ h1s)
     have h3w : ∀ k ∈ S1r, k ∈ S0 ∨ w1.z ≤ k := or1 h3v h1t (n_ (lt_ h1s s18.s))
     have h3x : Chg (· ∈ S0) w1 wb := E_ (cr S0 w1) s8
     have h3y : Chg (· ∈ S0) w1 w1p := E_ h3x sx
     have h3z : Chg (· ∈ S0) w1 w1q := E_ h3y hy
     have h40 : Chg (· ∈ S0) w1 w3c := cM h3z s18 (io sr)
     have h41 : Chg (· ∈ S0) w1 w3o := cM h40 s3s h1t
     exact fun _ q => ⟨x3l, x3, som hm3n, a3p, n3q, c3r, S1r, (q.k<|s3 z z z), h41, h3t, h3u, h3w, hw⟩
    rintro r5g ex5h a5i w5j rfl ⟨rfl, hq42⟩
    have hm43 := elR hm1j
    obtain rfl := som hm43
    have hm44 := elR hm1d
    exact ⟨(e_J<|f_u (som hm44).symm ⟨rfl, hq42⟩), z⟩
   rintro a45 w46 ⟨xm, xj, rfl, ao, np, cq, Sc, hS5k, s47, h48, h49, h4a, h4b⟩
   have hm4c := elL hm1d
   have hm4d := a_h hm4c
   revert a45
   have h1u : ∀ k ∈ S0, k ∈ [w0.z] ∨ w2.z ≤ k := or1 hi (io sr) (n_ lr)
   have h4e : ∀ k ∈ Sc, k ∈ [w0.z] ∨ w2.z ≤ k := or1 h4a h1u (n_ sf.s)
   have h4f : Chg (· ∈ [w0.z]) w2 w1 := cM (cr [w0.z] w2) sf (io sr)
   have h4g : Chg (· ∈ [w0.z]) w2 w46 := cM h4f s47 h1u
   exact fun _ q => ⟨(xm, xj), (som hm4d).symm, ⟨ao, np, cq, Sc, (q.k<|s3 z z z), h4g, h48, h49, h4e, h4b⟩⟩
  have h4h : ∀ k ∈ S0, k ∈ [w0.z] ∨ w2.z ≤ k := or1 hi (io sr) (n_ lr)
  have h4i : Chg (· ∈ [w0.z]) w2 w1 := cM (cr [w0.z] w2) sf (io sr)
  exact We (fun a' ha' => b_0 (som<|ifF hm1a hcz).symm ⟨a5, n6, c7, S0, (Sat.weaken ha'<|s1 z), h4i, hg, hh, h4h, hl⟩)
 ·rintro ⟨xe, x4⟩ a4j w5l rfl ⟨a5, n6, c7, S0, hS5m, s4k, hg, hh, hi, hl⟩
  have hm4l := elL hm19
  have hm4m := a_h hm4l
  revert a4j
  refine Wo<|Ws<|Rm z<|Ra z<|Wn ?_
  obtain rfl := som hm4m
  have h4n : ∀ k ∈ S0, w0.z ≤ k := or1 hi (f_ lr) (a_Q sd.s)
  exact Wr<|d_ hr z ⟨(bM sd s4k<|f_ lr), a5, n6, c7, S0, z, hg, hh, h4n⟩
 rintro r5n ex5o a5p w5q rfl ⟨rfl, hq4o⟩
 have hm4p := elR hm19
 obtain rfl := som hm4p
 exact ⟨hq4o, z⟩
theorem W_w1a {x1 : List UInt8} {res : Int} (hm : e_V x1 = some res) (hBw : B ≤ w0.z) (p1_0 : b_ w0 B (sl A0 N0 C0) x1) : j_ prog 91 [sl A0 N0 C0] w0 (Q0 w0 B res) := by
 unfold e_V at hm
 refine goF func91 z z (lb z) fun fn hr => Ws<|Ra z<|Wn<|Ws<|Ra z<|Wn<|Wq<|Ws<|Rm z<|R z (lnR i_ z p1_0)<|Rm z<|Wn ?_
 obtain ⟨ul, hu6, hm2⟩ := bdS hm
 refine Wf (σ := Int) (ρ := Int) (fun (k3 : Nat) (x0 : Int) a w => Sat 19 [(3, vI x0), (6, sl A0 N0 C0), (7, vI (x1.length : Int)), (8, (vI ((k3 : Nat) : Int)))] a ∧ Below w0.z w0 w ∧ inI x0) (fun (x0 : Int) a w => Sat 19 [(3, vI x0)] a ∧ Below w0.z w0 w ∧ inI x0) (fun r ex a w => ex = .ret ∧ v_ prog fn (Q0 w0 B r) a w) hu6 ?_ ?_ ?_ ?_ ?_
 ·exact fun _ q => ⟨(q.k<|s4 z z z z), (br w0), (ii z)⟩
 ·rintro k3 x0 am wn oo hk4 ⟨hS7, s5, h1⟩ hm8
  refine Wu ?_ hS7
  refine Ws<|R z (lss z z)<|Wn<|Wq<|Wc z (fun _ => ?_) (fun hc => (N_ hk4 hc).elim)
  refine Wk<|Wq<|Wb<|Ws ?_
  obtain ⟨x9, ea, hmb⟩ := bdS hm8
  refine RX z (at_ (α := UInt8) i_ z_5 z z z (p1_0.e s5) ea) ?_
  rintro _ ⟨bp, oq, csr, rfl, hd, he, ht⟩
  obtain rfl := u8 he
  exact R z (l1 g_5 z fid<|hd.at0 z)<|Ra z<|Wn<|Wg<|Rm z<|Rm z<|R z (b_g d_5 d_3 z)<|R z (add_ z z)<|Ra z<|Wn<|Wg<|R z (inc_ hk4 (lt_ (b_.len p1_0) G_) z z)<|Rm z<|Wl (fun _ q => ⟨e_ x0<|byteI x9, (som hmb).symm, ⟨(q.k<|s4 z z z z), s5, (iA _ _)⟩⟩)
 ·rintro x0 au ws ⟨hSc, sf, h1⟩
  refine Wu ?_ hSc
  refine Ws<|R z (lss z z)<|Wn<|Wq<|Wc z (fun hc => (O_ hc).elim) (fun _ => ?_)
  exact We (fun a' ha' => ⟨rfl, ⟨(Sat.weaken ha'<|s1 z), sf, h1⟩⟩)
 ·rintro x0 ag wv rfl ⟨hSw, sh, h1⟩
  have hmi := elL hm2
  revert ag
  refine Wo<|Ws<|Rm z<|R z (f_C z z (by decide))<|Ra z<|Wn ?_
  obtain rfl := som hmi
  exact Wr<|d_ hr z ⟨sh, z, (l_o h1)⟩
 rintro rx exy az w10 rfl ⟨rfl, hqj⟩
 have hmk := elR hm2
 obtain rfl := som hmk
 exact ⟨hqj, z⟩
theorem W_w1b {x1 : o_} {res : (List UInt8)} (hm : f_7 n x1 = some res) (hBw : B ≤ w0.z) (p1_0 : inI x1.kind) (p1_1 : x1.name.b.length ≤ LEN) (p1_2 : inI x1.version) (p1_3 : b_ w0 B (sl AE NE CE) x1.data) : j_ prog 52 [(.agg #[vI x1.kind, Str.v x1.name, vI x1.version, sl AE NE CE])] w0 (Q1 w0 B res) := by
 unfold f_7 at hm
 refine goF func52 z z (lb z) fun fn hr => Ws<|E z (fb z) ?_
 rintro _ w14 ⟨rfl, hi⟩
 have h0 := hi.below
 have h8 : Blk w14 w0.z [vI x1.kind, Str.v x1.name, vI x1.version, sl AE NE CE] := hi.blk
 refine Ra z<|Wn<|Wq<|Ws<|R z (lN (vs := [vI x1.kind, Str.v x1.name, vI x1.version, sl AE NE CE]) a_I V_ z z fid<|h8.row 0 4 z) ?_
 obtain ⟨r2c, e15, hmj⟩ := bdS hm
 refine E z (fc call89 z<|j_5 (B := B) e15 (zt' hBw h0.s) p1_0 p1_1 p1_2<|p1_3.e h0) ?_
 rintro _ w16 ⟨s1, rfl⟩
 refine R z (not_ z)<|Wn<|Wc z (fun hc9 => ?_) (fun hc9 => ?_)
 ·refine Ws<|E z (f0 (α := UInt8) C_) ?_
  rintro _ w2d ⟨a17, n18, c19, rfl, s1a, h1b⟩
  refine Ra z<|Wn ?_
  obtain rfl := som (ifT hmj hc9)
  exact Wr<|d_ hr z ⟨(bup (bup h0 s1) s1a), a17, n18, c19, [w16.z], z, h1b, X_, (m1<|lt_ h0.s s1.s)⟩
 refine Wk<|Ws<|R z (fd c_B z) ?_
 have hk := h8.e s1
 refine R z (l1 I_ z fid<|hk.at z) ?_
 have hl := lt_ h0.s s1.s
 obtain ⟨r2, e1c, hm1d⟩ := bdS (ifF hmj hc9)
 refine E z (fc call90 z<|W_w3h (B := B) e1c (zt' hBw hl)<|p1_3.g<|(h0.ag B).e s1) ?_
 rintro _ wa ⟨s5, a2e, n2f, c2g, S2h, rfl, h3, h2i, h2j⟩
 refine Ra z<|Wn<|Ws<|R z (fd b_W z) ?_
 have hb := hk.e s5
 refine R z (l1 g_3 z fid<|hb.at z)<|R z (b_f d_3 d_5 z)<|R z (fd c_A z)<|R z (l1 g_9 z fid<|hb.at z)<|R z (lnT d_9 z)<|R z (b_f d_3 d_5 z)<|E z (fS [(.tmp 14), (.tmp 18)] C_ z z z (a_x z) (lb z)<|lb z) ?_
 rintro _ wm ⟨rfl, hn⟩
 have h4 := hn.below
 have h1e : Blk wm wa.z [(vU (byteI (mkB x1.kind))), (vU (byteI (mkB (x1.name.b.length : Int))))] := hn.blk
 have h1f : a_ wm [wa.z] (sl (some ⟨wa.z, 0, none⟩) 2 2) [mkB x1.kind, mkB (x1.name.b.length : Int)] := f_i (l := [mkB x1.kind, mkB (x1.name.b.length : Int)]) h1e z
 refine Ra z<|Wn<|Ws<|Rm z<|R z (fd c_A z) ?_
 have ho := hb.e h4
 refine R z (l1 g_9 z fid<|ho.at z) ?_
 obtain ⟨x2k, e1g, hm1h⟩ := bdS hm1d
 refine E z (n_o C_ d_9 e1g z z h1f X_) ?_
 rintro _ wc ⟨S2l, a2m, n2n, c2o, rfl, s6, h1i, h1j, hp⟩
 refine Ra z<|Wn<|Ws<|Rm z<|R z (fd b_X z)<|R z (l1 g_3 z fid<|(ho.c s6<|djs<|mm1 h8.lt<|lt_ s1.s s5.s).at z)<|R z (b_f d_3 d_5 z)<|Rm z ?_
 have hq := mnr<|a_.lt h3
 have hd := (h3.e h4).c s6<|ds hq
 refine R z (lnR i_ z<|or_ hd<|a_.lt h3)<|R z (l_D z z (by decide))<|R z (b_f d_3 d_5 z)<|Rm z<|R z (lnR i_ z<|or_ hd<|a_.lt h3)<|R z (b_f d_3 d_5 z)<|E z (fS [(.tmp 27), (.tmp 31), (.tmp 34)] C_ z z z (a_x z) (lb z)<|lb z) ?_
 rintro _ wr ⟨rfl, ht⟩
 have h7 := ht.below
 have h1k : Blk wr wc.z [(vU (byteI (mkB x1.version))), (vU (byteI (mkB (c_4 .i64 (r2.length : Int) 8)))), (vU (byteI (mkB (r2.length : Int))))] := ht.blk
 have h1l : a_ wr [wc.z] (sl (some ⟨wc.z, 0, none⟩) 3 3) [mkB x1.version, mkB (c_4 .i64 (r2.length : Int) 8), mkB (r2.length : Int)] := f_i (l := [mkB x1.version, mkB (c_4 .i64 (r2.length : Int) 8), mkB (r2.length : Int)]) h1k z
 obtain ⟨x2p, e1m, hm1n⟩ := bdS hm1h
 refine E z (fN (α := UInt8) C_ e1m z z (h1i.e h7) h1j<|a_.rep h1l) ?_
 rintro _ w2q ⟨S2r, a2s, n2t, c2u, rfl, se, h1o, h1p, h1q⟩
 refine Ra z<|Wn<|Ws<|Rm z<|Rm z ?_
 obtain ⟨x2v, e1r, hm1s⟩ := bdS hm1n
 refine E z (fN (α := UInt8) C_ e1r z z h1o h1p<|or_ ((hd.e h7).c se<|ds<|a_H hp hq (a_.lt h3) h4.s)<|a_.lt h3) ?_
 rintro _ w1t ⟨S2w, a2x, n2y, c2z, rfl, ss, hu, h1u, h1v⟩
 refine Ra z<|Wn<|Ws<|Rm z<|Rm z ?_
 obtain ⟨r1w, e1x, hm1y⟩ := bdS hm1s
 refine E z (fc call91 z<|W_w1a (B := w1t.z) e1x zr<|a_.rep hu) ?_
 rintro _ w1z ⟨sf, rfl, h30⟩
 refine R z (b_f d_3 d_5 z)<|E z (fS [(.tmp 43)] C_ z z z (a_x z) (lb z)<|lb z) ?_
 rintro _ w20 ⟨rfl, hg⟩
 have hh := hg.below
 have h21 : Blk w20 w1z.z [(vU (byteI (mkB r1w)))] := hg.blk
 have h31 := c_1 hg a_T
 obtain ⟨x32, e22, hm23⟩ := bdS hm1y
 refine E z (b_b (α := UInt8) C_ e22 z z ((hu.e sf).e hh) h1u h21 a_T an_ R_) ?_
 rintro _ w33 ⟨Sv, a24, n25, c26, rfl, s27, h28, h29, h2a⟩
 refine Ra z<|Wn ?_
 obtain rfl := som hm23
 have hw := lt_ hl s5.s
 have hx := m1 hw
 have hy := lt_ hw h4.s
 have hz := a_b hp hx hy
 have h10 := lt_ (lt_ hy s6.s) h7.s
 have h11 := a_b h1q hz h10
 have h12 := lt_ h10 se.s
 have h13 := a_b h1v h11 h12
 have h2b : ∀ k ∈ Sv, w0.z ≤ k := or2 h2a h13 an_ (a_Q (lt_ (lt_ (lt_ h12 ss.s) sf.s) hh.s))
 exact Wr<|d_ hr z ⟨(bM (bup (bup (bM (bM (bup (bM (bup (bup (bup h0 s1) s5) h4) s6 hx) h7) se hz) ss h11) sf) hh) s27 h13), a24, n25, c26, Sv, z, h28, h29, h2b⟩
theorem W_w3i {x1 : List UInt8} {x2 : List UInt8} {res : Bool} (hm : k_O x1 x2 = some res) (hBw : B ≤ w0.z) (p1_0 : b_ w0 B (sl A0 N0 C0) x1) (p2_0 : b_ w0 B (sl A6 N6 C6) x2) : j_ prog 152 [sl A0 N0 C0, sl A6 N6 C6] w0 (Q11 w0 B res) := by
 unfold k_O at hm
 refine goF func152 z z (lb z) fun fn hr => Ws<|Ra z<|Wn<|Ws<|Rm z<|R z (f_v i_ d_9 d_5 z_5 z p1_0)<|Rm z<|R z (f_v i_ d_9 d_5 z_5 z p2_0)<|R z (d_s z z)<|Ra z<|Wn ?_
 obtain rfl := som hm
 exact Wr<|d_ hr z ⟨(br w0), z⟩
theorem W_w3j {x1 : List UInt8} {x2 : List UInt8} {res : Bool} (hm : i_n x1 x2 = some res) (hBw : B ≤ w0.z) (p1_0 : b_ w0 B (sl A0 N0 C0) x1) (p2_0 : b_ w0 B (sl A6 N6 C6) x2) : j_ prog 137 [sl A0 N0 C0, sl A6 N6 C6] w0 (Q11 w0 B res) := by
 unfold i_n at hm
 refine goF func137 z z (lb z) fun fn hr => Ws<|Ra z<|Wn<|Ws<|Rm z<|Rm z ?_
 obtain ⟨r3, e0, hm1⟩ := bdS hm
 refine E z (fc call152 z<|W_w3i (B := B) e0 hBw p1_0 p2_0) ?_
 rintro _ w4 ⟨s2, rfl⟩
 refine Ra z<|Wn ?_
 obtain rfl := som hm1
 exact Wr<|d_ hr z ⟨s2, z⟩
theorem W_w1c {x1 : List UInt8} {x2 : Int} {res : o_ × Int × Bool} (hm : d_N n x1 x2 = some res) (hBw : B ≤ w0.z) (p1_0 : b_ w0 B (sl A0 N0 C0) x1) (p2_0 : inI x2) : j_ prog 114 [sl A0 N0 C0, vI x2] w0 (Q13 w0 B res) := by
 unfold d_N at hm
 refine goF func114 z z (lb z) fun fn hr => Ws<|E z (fa c_X) ?_
 rintro _ wl ⟨rfl, h12⟩
 have hd := h12.below
 have h6 : Blk wl w0.z [vI 0, (Str.v (⟨[]⟩ : Str)), vI 0, sl none 0 0] := h12.blk
 refine Ra z<|Ra z<|Wn<|Wq<|Wq ?_
 obtain ⟨u1u, hu13, hm14⟩ := bdS hm
 refine Wt (fun a w => ∃ (xr : Bool), xr = u1u ∧ Sat 126 [(0, sl A0 N0 C0), (1, vI x2), (4, pt w0.z), (28, vB xr)] a ∧ Below wl.z wl w) ?_ ?_
 ·refine Wg<|Rm z<|R z (lss z z)<|Rm z ?_
  rcases bs (decide (x2 < 0)) with hc8 | hc8
  ·iterate 4 refine Nh z hc8 ?_
   exact R z (pT z hc8 z)<|Rm z<|Nh z z<|Nh z z<|Nh z z<|Nh z z<|Nh z z<|R z (pT z z z)<|Wl (fun _ q => ⟨true, som<|ifT hu13 hc8, (q.k<|s4 z z z z), (br wl)⟩)
  have hm15 := ifF hu13 hc8
  refine Rh z hc8 (mv z)<|Rh z hc8 (mv z) ?_
  have h16 := p1_0.e hd
  refine Rh z hc8 (lnR i_ z h16)<|Rh z hc8 (a_i z z)<|R z (pF z hc8 z)<|Rm z ?_
  rcases bs (decide ((x1.length : Int) < x2)) with hc3 | hc3
  ·iterate 5 refine Nh z hc3 ?_
   exact R z (pT z hc3 z)<|Wl (fun _ q => ⟨true, som<|ifT hm15 hc3, (q.k<|s4 z z z z), (br wl)⟩)
  exact Rh z hc3 (mv z)<|Rh z hc3 (lnR i_ z h16)<|Rh z hc3 (mv z)<|Rh z hc3 (sb_ z z)<|Rh z hc3 (lss z z)<|R z (pF z hc3 z)<|Wl (fun _ q => ⟨decide ((A_ (x1.length : Int) x2) < 2), som<|ifF hm15 hc3, (q.k<|s4 z z z z), (br wl)⟩)
 rintro a1v w3v ⟨xr, rfl, hS3w, s2⟩
 revert a1v
 refine Wo<|Wc z (fun hcs => ?_) (fun hcs => ?_)
 ·refine Ws<|R z (bP (parts := []) (cs := [vI 0, (Str.v (⟨[]⟩ : Str)), vI 0, sl none 0 0]) b_V z z)<|Rm z<|E0 (fs (cur' := [vI 0, (Str.v (⟨[]⟩ : Str)), vI 0, sl none 0 0]) V_ z z (h6.e s2) z (lb z) (oA z) z) ?_
  rintro _ w3x ⟨h1w, s1x⟩
  refine Ra z<|Ra z<|Wn ?_
  obtain rfl := som (ifT hm14 hcs)
  exact Wr<|x_ hr (r_ a_I V_ z h1w z) z z ⟨(bM (bup hd s2) s1x.one<|f_ lr), none, 0, 0, [], z, (ii z), (lb z), (ii z), onL, p2_0, R_, an_⟩
 refine Wk<|Ws<|Rm z<|Rm z ?_
 obtain ⟨x3y, e1y, hm1z⟩ := bdS (ifF hm14 hcs)
 refine RX z (rX i_ z_5 z z (p1_0.g<|(hd.ag B).e s2) z z e1y) ?_
 rintro _ ⟨a3z, n40, c41, rfl, hn⟩
 refine Ra z<|Wn<|Ws<|Rm z ?_
 obtain ⟨x20, e21, hm17⟩ := bdS hm1z
 refine RX z (at_ (α := UInt8) i_ z_5 z z z hn e21) ?_
 rintro _ ⟨b42, o43, cs44, rfl, h22, h23, h45⟩
 obtain rfl := u8 h23
 refine R z (l1 g_5 z fid<|h22.at0 z)<|R z (b_g d_5 d_3 z)<|Ra z<|Wn<|Wq<|Ws<|Rm z<|R z (lnR i_ z hn)<|Rm z<|R z (add_ z z)<|R z (lss z z)<|Wn<|Wc z (fun hcu => ?_) (fun hcu => ?_)
 ·refine Ws<|R z (bP (parts := []) (cs := [vI 0, (Str.v (⟨[]⟩ : Str)), vI 0, sl none 0 0]) b_V z z)<|Rm z<|E0 (fs (cur' := [vI 0, (Str.v (⟨[]⟩ : Str)), vI 0, sl none 0 0]) V_ z z (h6.e s2) z (lb z) (oA z) z) ?_
  rintro _ w46 ⟨h24, s25⟩
  refine Ra z<|Ra z<|Wn ?_
  obtain rfl := som (ifT hm17 hcu)
  exact Wr<|x_ hr (r_ a_I V_ z h24 z) z z ⟨(bM (bup hd s2) s25.one<|f_ lr), none, 0, 0, [], z, (ii z), (lb z), (ii z), onL, p2_0, R_, an_⟩
 refine Wk<|Wq (Wd (X := noX) 0 (.rd 0 (.rd 1 (.rd 2 (.rd 3 (.rd 4 (.rd 5 (.rd 6 (.rd 7 (.rd 8 (.rd 9 (.rd 10 (.rd 11 (.rd 12 (.rd 13 (.rd 14 .done))))))))))))))) mo (by kernel_rfl) fun w26 s5 _ => dR z z (mv z)<|dR z z (mv z)<|dR z z (add_ z z) ?_)
 obtain ⟨x27, e28, hm29⟩ := bdS (ifF hm17 hcu)
 have hv := hn.e s5
 refine dRX z z (at_ (α := UInt8) i_ z_5 z z z hv e28) ?_
 rintro _ ⟨b47, o48, cs49, rfl, h2a, h2b, h4a⟩
 obtain rfl := u8 h2b
 refine dR z z (l1 g_5 z fid<|h2a.at0 z)<|dR z z (b_g d_5 d_3 z)<|dR z z (f_D z z (by decide))<|dR z z (mv z)<|dR z z (mv z)<|dR z z (add_ z z) ?_
 obtain ⟨x2c, e2d, hm18⟩ := bdS hm29
 refine dRX z z (at_ (α := UInt8) i_ z_5 z z z hv e2d) ?_
 rintro _ ⟨b4b, o4c, cs4d, rfl, h2e, h2f, h4e⟩
 obtain rfl := u8 h2f
 refine dR z z (l1 g_5 z fid<|h2e.at0 z)<|dR z z (b_g d_5 d_3 z)<|dR z z (j_U z z)<|dR z z (asg z)<|pD<|Wo<|Wq<|Ws<|Rm z<|R z (lnR i_ z hv)<|Rm z<|R z (add_ z z)<|Rm z<|R z (add_ z z)<|R z (lss z z)<|Wn<|Wc z (fun hcw => ?_) (fun hcw => ?_)
 ·refine Ws<|R z (bP (parts := []) (cs := [vI 0, (Str.v (⟨[]⟩ : Str)), vI 0, sl none 0 0]) b_V z z)<|Rm z<|E0 (fs (cur' := [vI 0, (Str.v (⟨[]⟩ : Str)), vI 0, sl none 0 0]) V_ z z ((h6.e s2).e s5) z (lb z) (oA z) z) ?_
  rintro _ w4f ⟨h2g, s2h⟩
  refine Ra z<|Ra z<|Wn ?_
  obtain rfl := som (ifT hm18 hcw)
  exact Wr<|x_ hr (r_ a_I V_ z h2g z) z z ⟨(bM (bup (bup hd s2) s5) s2h.one<|f_ lr), none, 0, 0, [], z, (ii z), (lb z), (ii z), onL, p2_0, R_, an_⟩
 refine Wk<|Ws<|Rm z ?_
 obtain ⟨x4g, e2i, hm2j⟩ := bdS (ifF hm18 hcw)
 refine E z (d_V (α := UInt8) C_ (fun _ => l_t) e2i z z) ?_
 rintro _ w2k ⟨a4h, n4i, c4j, rfl, s9, h19⟩
 refine Ra z<|Wn<|Ws<|Rm z<|Rm z<|Rm z<|R z (add_ z z) ?_
 obtain ⟨x4k, e2l, hm2m⟩ := bdS hm2j
 have h1a := (s5.ag B).e s9
 refine RX z (rX i_ z_5 z z (hn.g h1a) z z e2l) ?_
 rintro _ ⟨a4l, n4m, c4n, rfl, h2n⟩
 refine E z (n_m i_ z_5 z z h19 h2n) ?_
 rintro _ w4o ⟨rfl, s7, h2o⟩
 refine Wn<|Ws<|Rm z ?_
 obtain ⟨r1b, r2p, e2q, hm2r⟩ := a_w hm2m
 refine E z (fc call136 z<|W_w3c (B := w2k.z) e2q (a_A s7.s)<|or_ h2o<|a_.lt h19) ?_
 rintro _ w1c ⟨sa, ai, nj, ck, S2s, rfl, ho, h2t, h1d⟩
 refine Rm z<|R z (ext_ z z)<|R z (ext_ z z)<|Ra z<|Ra z<|Wn<|Wq (Wd (X := noX) 262144 (.rd 0 (.rd 1 (.rd 2 (.rd 3 (.rd 4 (.rd 5 (.rd 6 (.rd 7 (.rd 8 (.rd 9 (.rd 10 (.rd 11 (.rd 12 (.rd 13 (.rd 14 (.rd 15 (.rd 16 (.ef 17 (.ef 18 .done))))))))))))))))))) mo (by kernel_rfl) fun wx s1 _ => dR z z (mv z) ?_)
 obtain ⟨xe, e2u, hm2v⟩ := bdS hm2r
 have hp := lt_ (lt_ hd.s s2.s) s5.s
 have h2w : ∀ k ∈ [w26.z], ¬ B k := or0 (f_ lr)  (p_ (zt' hBw hp))
 have h1e := ((h1a.c s7<|h_ h2w).e sa).e s1
 have hy := hn.g h1e
 refine dRX z z (at_ (α := UInt8) i_ z_5 z z z hy e2u) ?_
 rintro _ ⟨b4p, o4q, cs4r, rfl, h2x, h2y, h4s⟩
 obtain rfl := u8 h2y
 refine dR z z (l1 g_5 z fid<|h2x.at0 z)<|dR z z (b_g d_5 d_3 z)<|dR z z (mv z)<|dR z z (mv z)<|dR z z (add_ z z) ?_
 obtain ⟨xf, e2z, hm30⟩ := bdS hm2v
 refine dRX z z (rX i_ z_5 z z hy z z e2z) ?_
 rintro _ ⟨a4t, n4u, c4v, rfl, ht⟩
 refine dR z z (f_v i_ d_9 d_5 z_5 z ht)<|dR z z (mv z)<|dR z z (mv z)<|dR z z (add_ z z) ?_
 obtain ⟨xg, e31, hm32⟩ := bdS hm30
 refine dRX z z (at_ (α := UInt8) i_ z_5 z z z hy e31) ?_
 rintro _ ⟨b4w, o4x, cs4y, rfl, h33, h34, h4z⟩
 obtain rfl := u8 h34
 refine dR z z (l1 g_5 z fid<|h33.at0 z)<|dR z z (b_g d_5 d_3 z)<|dR z z (mv z)<|dR z z (bP (parts := [(0, (.tmp 84)), (1, (.tmp 89)), (2, (.tmp 95)), (3, (.tmp 96))]) (cs := [vI (byteI xe), Str.v (⟨xf⟩ : Str), vI<|byteI xg, sl ai nj ck]) b_V z z)<|dE z z (fa c_X) (.inr fun _ _ h => z_<|h.2.below) ?_
 rintro _ w35 ⟨rfl, h1f⟩
 have hb := h1f.below
 have h36 : Blk w35 wx.z [vI 0, (Str.v (⟨[]⟩ : Str)), vI 0, sl none 0 0] := h1f.blk
 refine dE0 z (fs (cur' := [vI (byteI xe), Str.v (⟨xf⟩ : Str), vI<|byteI xg, sl ai nj ck]) V_ z z h36 z (lb z) (oA z) z) (.inl z) ?_
 rintro _ w1g ⟨h1h, s37⟩
 have hc := s37.one
 refine pD<|Wo<|Wq<|Wq ?_
 obtain ⟨u38, hu1i, hm1j⟩ := bdS hm32
 refine Wt (fun a w => ∃ (xz : Bool), xz = u38 ∧ Sat 126 [(1, vI x2), (4, pt w0.z), (8, vI<|byteI x20), (9, (vI<|b_n .i64 (· ||| ·) (b_1 .i64 (byteI x27) 8)<|byteI x2c)), (13, pt wx.z), (116, vB xz)] a ∧ Below w1g.z w1g w) ?_ ?_
 ·refine Wd (X := noX) 0 (.rd 0 (.rd 1 (.rd 2 (.rd 3 (.ef 4 (.rd 5 (.rd 6 (.rd 7 (.rd 8 (.rd 10 (.rd 11 (.rd 12 (.rd 13 (.rd 14 (.rd 15 (.ef 9 (.ef 16 (.rd 17 (.rd 18 .done))))))))))))))))))) mo (by kernel_rfl) fun w50 sh _ => dR z z (mv z)<|dR z z (not_ z)<|dR z z (mv z) ?_
  rcases bs (!r2p) with hc4 | hc4
  ·refine dRn z z z hc4 z<|dEn z z z hc4 z<|dRn z z z hc4 z<|dR z z (pT z hc4 z)<|dR z z (mv z) ?_
   iterate 7 refine dRn z z z z z ?_
   exact dEn z z z z z<|dEn z z z z z<|dRn z z z z z<|dR z z (pT z z z)<|pD (fun _ q => ⟨true, som<|ifT hu1i hc4, (q.k<|s6 z z z z z z), sh⟩)
  have h1k := h1h.e sh
  refine dRg z z z hc4 z (lN (vs := [vI (byteI xe), Str.v (⟨xf⟩ : Str), vI<|byteI xg, sl ai nj ck]) a_I V_ z z fid<|h1k.row 0 4 z) ?_
  have h1l := (((ho.e s1).e hb).c hc<|ds<|mno (a_.lt ho) s1.s).e sh
  have h1m := lt_ (lt_ (lt_ s1.s hb.s) hc.s) sh.s
  obtain ⟨r39, e3a, hm1n⟩ := bdS (ifF hu1i hc4)
  refine dEg z z z hc4 z (fc call89 z<|j_5 (B := w1c.z) (x1 := (⟨byteI xe, (⟨xf⟩ : Str), byteI xg, r1b⟩ : o_)) e3a (a_A h1m) (c_k _) (b_.len ht) (c_k _)<|or_ h1l<|a_.lt ho) (.inr fun _ _ h => z_<|h.1) ?_
  rintro _ w51 ⟨sm, rfl⟩
  refine dRg z z z hc4 z (not_ z)<|dR z z (pF z hc4 z)<|dR z z (mv z) ?_
  rcases bs (!r39) with hc0 | hc0
  ·iterate 7 refine dRn z z z hc0 z ?_
   exact dEn z z z hc0 z<|dEn z z z hc0 z<|dRn z z z hc0 z<|dR z z (pT z hc0 z)<|pD (fun _ q => ⟨true, som<|ifT hm1n hc0, (q.k<|s6 z z z z z z), (bup sh sm)⟩)
  refine dRg z z z hc0 z (lN (vs := [vI (byteI xe), Str.v (⟨xf⟩ : Str), vI<|byteI xg, sl ai nj ck]) a_I V_ z z fid<|(h1k.e sm).row 0 4 z)<|dRg z z z hc0 z (mv z)<|dRg z z z hc0 z (mv z)<|dRg z z z hc0 z (add_ z z)<|dRg z z z hc0 z (mv z)<|dRg z z z hc0 z (add_ z z) ?_
  obtain ⟨x52, e3b, hm3c⟩ := bdS (ifF hm1n hc0)
  have h1o := lt_ (lt_ (lt_ (lt_ hp s9.s) s7.s) sa.s) s1.s
  have h3d : ∀ k ∈ [wx.z], ¬ B k := or0 (f_ lr)  (p_ (zt' hBw h1o))
  refine a_V z z z hc0 z (rX i_ z_5 z z (hn.g<|(((h1e.e hb).c hc<|h_ h3d).e sh).e sm) z z e3b) ?_
  rintro _ ⟨a53, n54, c55, rfl, h3e⟩
  obtain ⟨r56, e3f, hm3g⟩ := bdS hm3c
  refine dEg z z z hc0 z (fc call52 z<|W_w1b (B := w1c.z) (x1 := (⟨byteI xe, (⟨xf⟩ : Str), byteI xg, r1b⟩ : o_)) e3f (a_A<|lt_ h1m sm.s) (c_k _) (b_.len ht) (c_k _)<|or_ (h1l.e sm)<|a_.lt ho) (.inr fun _ _ h => z_<|h.1) ?_
  rintro _ w3h ⟨s10, a57, n58, c59, S5a, rfl, h3i, h5b, h5c⟩
  obtain ⟨r3j, e3k, hm3l⟩ := bdS hm3g
  refine dEg z z z hc0 z (fc call137 z<|W_w3j (B := w3h.z) e3k zr (a_.rep h3i)<|b_.mono (h3e.e s10)<|zt' hBw<|lt_ (lt_ (lt_ (lt_ (lt_ h1o hb.s) hc.s) sh.s) sm.s) s10.s) (.inr fun _ _ h => z_<|h.1) ?_
  rintro _ w5d ⟨s3m, rfl⟩
  exact dRg z z z hc0 z (not_ z)<|dR z z (pF z hc0 z)<|pD (fun _ q => ⟨!r3j, som hm3l, (q.k<|s6 z z z z z z), (bup (bup (bup sh sm) s10) s3m)⟩)
 rintro a3n w5e ⟨xz, rfl, hS5f, sq⟩
 revert a3n
 refine Wo<|Wc z (fun hc11 => ?_) (fun hc11 => ?_)
 ·refine Ws<|R z (bP (parts := []) (cs := [vI 0, (Str.v (⟨[]⟩ : Str)), vI 0, sl none 0 0]) b_V z z)<|Rm z ?_
  have h1p := lt_ s2.s s5.s
  have h3o := (((((((h6.e s2).e s5).e s9).c s7<|djs<|mm1 h6.lt h1p).e sa).e s1).e hb).c hc<|djs<|mm1 h6.lt<|lt_ (lt_ (lt_ (lt_ h1p s9.s) s7.s) sa.s) s1.s
  refine E0 (fs (cur' := [vI 0, (Str.v (⟨[]⟩ : Str)), vI 0, sl none 0 0]) V_ z z (h3o.e sq) z (lb z) (oA z) z) ?_
  rintro _ w5g ⟨h3p, s3q⟩
  refine Ra z<|Ra z<|Wn ?_
  obtain rfl := som (ifT hm1j hc11)
  have h3r := bM (bup (bM (bup (bup (bup (bM (bup (bup (bup hd s2) s5) s9) s7<|m1 hp) sa) s1) hb) hc<|m1<|lt_ (lt_ (lt_ (lt_ hp s9.s) s7.s) sa.s) s1.s) sq) s3q.one<|f_ lr
  exact Wr<|x_ hr (r_ a_I V_ z h3p z) z z ⟨h3r, none, 0, 0, [], z, (ii z), (lb z), (ii z), onL, p2_0, R_, an_⟩
 refine Wk<|Ws<|R z (lN (vs := [vI (byteI xe), Str.v (⟨xf⟩ : Str), vI<|byteI xg, sl ai nj ck]) a_I V_ z z fid<|(h1h.e sq).row 0 4 z)<|Rm z<|Rm z<|R z (add_ z z)<|R z (add_ z z)<|Rm z<|R z (add_ z z) ?_
 have h1q := lt_ s2.s s5.s
 have h1r := lt_ (lt_ h1q s9.s) s7.s
 have h3s := (((((((h6.e s2).e s5).e s9).c s7<|djs<|mm1 h6.lt h1q).e sa).e s1).e hb).c hc<|djs<|mm1 h6.lt<|lt_ (lt_ h1r sa.s) s1.s
 refine E0 (fs (cur' := [vI (byteI xe), Str.v (⟨xf⟩ : Str), vI<|byteI xg, sl ai nj ck]) V_ z z (h3s.e sq) z (lb z) (oA z) z) ?_
 rintro _ w5h ⟨h3t, s3u⟩
 have h1s := s3u.one
 refine Ra z<|Ra z<|Wn ?_
 obtain rfl := som (ifF hm1j hc11)
 have h1t := lt_ (lt_ hp s9.s) s7.s
 exact Wr<|x_ hr (r_ a_I V_ z h3t z) z z ⟨(bM (bup (bM (bup (bup (bup (bM (bup (bup (bup hd s2) s5) s9) s7<|m1 hp) sa) s1) hb) hc<|m1<|lt_ (lt_ h1t sa.s) s1.s) sq) h1s<|f_ lr), ai, nj, ck, S2s, z, (c_k _), (b_.len ht), (c_k _), (((((ho.e s1).e hb).c hc<|ds<|mno (a_.lt ho) s1.s).e sq).c h1s<|m_ h1d h6.lt h1r), (iA _ _), h2t, (l_ h1d h1t)⟩
theorem W_w3k {x1 : Log} {res : Bool} (hm : i_u n x1 = some res) (hBw : B ≤ w0.z) (p1_0 : b_ w0 B (sl A0 N0 C0) x1.bytes) (p1_1 : inI x1.stored) : Calls prog 113 [(.agg #[sl A0 N0 C0, vI x1.stored])].toArray w0 (n_9 (.iface 129 (.agg #[])) (fun q w' => q = res ∧ Bw w0 w')) := by
 unfold i_u at hm
 obtain ⟨fn, hf, hb, hN, hr⟩ := fnE func113
 refine r_q hf (hb.trans z) (hN.trans z) (lb z)<|Ws<|E z (fb z) ?_
 rintro _ wz ⟨rfl, hl⟩
 have h1 := hl.below
 have h8 : Blk wz w0.z [sl A0 N0 C0, vI x1.stored] := hl.blk
 refine Wn<|Wq<|Ws<|R z (fd c_i z)<|R z (l1 g_3 z fid<|h8.at z)<|R z (fd a_S z)<|R z (l1 I_ z fid<|h8.at z) ?_
 have hn := p1_0.e h1
 refine R z (lnR i_ z hn) ?_
 obtain ⟨r1l, e10, hmm⟩ := bdS hm
 refine E z (fc call117 z<|c_E (B := B) e10 (zt' hBw h1.s) p1_1 (ii z)<|b_q<|b_.len hn) ?_
 rintro _ w7 ⟨s2, rfl⟩
 refine R z (not_ z)<|Wn<|Wc z (fun hcb => ?_) (fun hcb => ?_)
 ·refine Wg<|R z (bP (parts := []) (cs := []) i_P z z)<|R z (f_G i_Q (fun _ h => by cases h) z) ?_
  obtain rfl := som (ifT hmm hcb)
  exact k_I z fun _ ha => ⟨false, .inr ⟨rfl, z, ha.defers, z, (bup h1 s2)⟩⟩
 refine Wk<|Ws<|R z (fd c_i z) ?_
 have ho := h8.e s2
 refine R z (l1 g_3 z fid<|ho.at z)<|R z (eql z z)<|Ra z<|Wn<|Wq<|Ws<|Ra z<|Wn ?_
 obtain ⟨u1m, hu11, hmp⟩ := bdS (ifF hmm hcb)
 refine r_r (σ := Bool × Int) (ρ := Bool) (fun s a w => un2 (fun x3 x5 => Sat 48 [(1, pt w0.z), (2, vB x3), (3, vI x5)] a ∧ Below w7.z w7 w ∧ inI x5) s) (fun s a w => un2 (fun x3 x5 => Sat 48 [(2, vB x3)] a ∧ Below w7.z w7 w ∧ inI x5) s) (fun r ex a w => r = false ∧ ex = .panic (i_h (.iface 129 (.agg #[]))) ∧ a.defers = [] ∧ Below w0.z w0 w) hu11 ?_ ?_ ?_ ?_
 ·exact fun _ q => ⟨(q.k<|s3 z z z), (br w7), (ii z)⟩
 ·rintro ⟨x3, x5⟩ a1n w1o o1p ⟨hS12, s4, hc⟩ hm13
  have hmq := a_h hm13
  refine Wu ?_ hS12
  refine Wq<|Ws<|Rm z<|R z (fd a_S z) ?_
  have hd := ho.e s4
  refine R z (l1 I_ z fid<|hd.at z) ?_
  have ht := p1_0.g<|((h1.ag B).e s2).e s4
  refine R z (lnR i_ z ht)<|R z (lss z z)<|Wn<|Wc z (fun hce => ?_) (fun hce => ?_)
  ·refine Wk<|Wb<|Ws<|R z (fd a_S z)<|R z (l1 I_ z fid<|hd.at z)<|Rm z ?_
   have hu := lt_ (lt_ h1.s s2.s) s4.s
   obtain ⟨rf, rg, r1q, e14, hmr⟩ := W_ (ifT hmq hce)
   refine E z (fc call114 z<|W_w1c (B := B) e14 (zt' hBw hu) ht hc) ?_
   rintro _ w15 ⟨s6, a16, n17, c18, S1r, rfl, h1s, h1t, h1u, h1v, h19, h1w, h1x⟩
   refine Rm z ?_
   iterate 3 refine R z (ext_ z z) ?_
   refine E z (fa c_X) ?_
   rintro _ w1a ⟨rfl, hv⟩
   have hh := hv.below
   have h1b : Blk w1a w15.z [vI 0, (Str.v (⟨[]⟩ : Str)), vI 0, sl none 0 0] := hv.blk
   refine E0 (fs (cur' := [vI rf.kind, Str.v rf.name, vI rf.version, sl a16 n17 c18]) V_ z z h1b z (lb z) (oA z) z) ?_
   rintro _ w9 ⟨h1y, s1c⟩
   have hi := s1c.one
   refine Ra z<|Ra z<|Wn<|Wq<|Ws<|Rm z<|R z (not_ z)<|Wn<|Wc z (fun hcj => ?_) (fun hcj => ?_)
   ·exact Wg<|R z (bP (parts := []) (cs := []) i_P z z)<|R z (f_G i_Q (fun _ h => by cases h) z) (k_I z fun _ ha => .inr ⟨false, (som<|ifT hmr hcj).symm, z, z, ha.defers, (bM (bup (bup (bup (bup h1 s2) s4) s6) hh) hi<|m1<|lt_ hu s6.s)⟩)
   refine Wk<|Ws<|Rm z<|Ra z<|Wn ?_
   obtain ⟨u1d, hus, hm1e⟩ := bdS (ifF hmr hcj)
   refine Wt (fun a w => ∃ (xa : Bool), xa = u1d ∧ Sat 48 [(1, pt w0.z), (2, vB xa), (3, vI rg)] a ∧ Below w9.z w9 w) ?_ ?_
   ·refine Wg<|Rm z<|Rm z ?_
    rcases bs x3 with hc0 | hc0
    ·iterate 4 refine Nh z hc0 ?_
     exact R z (pT z hc0 z)<|Ra z<|Wl (fun _ q => ⟨true, som<|ifT hus hc0, (q.k<|s3 z z z), (br w9)⟩)
    exact Rh z hc0 (mv z)<|Rh z hc0 (fd c_i z)<|Rh z hc0 (l1 g_3 z fid<|(((hd.e s6).e hh).c hi<|djs<|mm1 h8.lt<|lt_ (lt_ s2.s s4.s) s6.s).at z)<|Rh z hc0 (eql z z)<|R z (pF z hc0 z)<|Ra z<|Wl (fun _ q => ⟨rg == x1.stored, som<|ifF hus hc0, (q.k<|s3 z z z), (br w9)⟩)
   rintro a1f w1z ⟨xa, rfl, hS20, s1g⟩
   revert a1f
   exact fun _ q => ⟨(xa, rg), (som hm1e).symm, ⟨(q.k<|s3 z z z), (bup (bM (bup (bup s4 s6) hh) hi<|m1<|lt_ s4.s s6.s) s1g), h19⟩⟩
  exact We (fun a' ha' => b_0 (som<|ifF hmq hce).symm ⟨(Sat.weaken ha'<|s1 z), s4, hc⟩)
 ·rintro ⟨x3, x5⟩ a1h w21 rfl ⟨hS22, sw, hc⟩
  have hm1i := elL hmp
  have hmx := a_h hm1i
  revert a1h
  refine Wo<|Ws<|Rm z<|R z (not_ z)<|Wn<|Wc z (fun hck => ?_) (fun hck => ?_)
  ·refine Wg<|R z (bP (parts := []) (cs := []) i_P z z)<|R z (f_G i_Q (fun _ h => by cases h) z) ?_
   obtain rfl := som (ifT hmx hck)
   exact k_I z fun _ ha => ⟨false, .inr ⟨rfl, z, ha.defers, z, (bup (bup h1 s2) sw)⟩⟩
  refine b_3 ?_
  obtain rfl := som (ifF hmx hck)
  exact ret0 hr ⟨rfl, (bup (bup h1 s2) sw)⟩
 rintro r23 exy a24 w25 rfl ⟨rfl, rfl, hq1j, exy⟩
 have hm1k := elR hmp
 obtain rfl := som hm1k
 exact ⟨⟨false, .inr ⟨rfl, z, hq1j, z, exy⟩⟩, _, z⟩
theorem o_g (w : World) : (Instr.typeAssert (.iface 129 (.agg #[])) 20 129 true).run Tryz.prog w = .ok (.tuple #[.agg #[], .bool true]) w := by kernel_rfl
theorem o_h (w : World) : (Instr.typeAssert .nilIface 20 129 true).run Tryz.prog w = .ok (.tuple #[.agg #[], .bool false]) w := by kernel_rfl
set_option maxRecDepth 4000 in
theorem o_i (p : Addr) (b : Bool) (older : List PanicEntry) (w : World) (hc : w.cell? p = some (vB b)) (hz : w.frozen? p = false) (hp : p.block < w.heap.size) :
    CallsD Tryz.prog 112 #[.pointer (some p)] (.panicking ({ v := .iface 129 (.agg #[]), recovered := false } :: older)) w fun e u' w' =>
      e = .returned (.tuple #[]) ∧ u' = .panicking ({ v := .iface 129 (.agg #[]), recovered := true } :: older) ∧ w' = (w.alloc (.cells #[] 129)).setCell p (vB false) := by
  refine callsD_of_wpS Tryz.func112 rfl fun c₀ cs hu => ?_
  apply wpS_seq
  apply wpS_region
  simp [wpOpsS, go_sem, recoverD, hu, Tryz.ntmps112, Exit.thenS, o_g]
  apply wpS_seq
  apply wpS_region
  simp [wpOpsS, go_sem, Exit.thenS]
  refine wpS_cond (t := true) (by simp [Act.eval]) ?_
  simp only [if_true]
  apply wpS_region
  have hb := a_R w (.cells #[] 129)
  have hc1 : (w.alloc (.cells #[] 129)).cell? p = some (vB b) := (hb.cell (p := p) hp).trans hc
  have hz1 : (w.alloc (.cells #[] 129)).frozen? p = false := (hb.frozen (p := p) hp).trans hz
  simp [wpOpsS, go_sem, bodyPostS, results, Tryz.results112, hc1, hz1]
set_option maxRecDepth 4000 in
theorem o_j (p : Addr) (w : World) :
    CallsD Tryz.prog 112 #[.pointer (some p)] .returning w fun e u' w' => e = .returned (.tuple #[]) ∧ u' = .returning ∧ w' = w.alloc (.cells #[] 129) := by
  refine callsD_of_wpS Tryz.func112 rfl fun c₀ cs hu => ?_
  apply wpS_seq
  apply wpS_region
  simp [wpOpsS, go_sem, recoverD, hu, Tryz.ntmps112, Exit.thenS, o_h]
  apply wpS_seq
  apply wpS_region
  simp [wpOpsS, go_sem, Exit.thenS]
  refine wpS_cond (t := false) (by simp [Act.eval]) ?_
  simp only [Bool.false_eq_true, if_false]
  refine wpS_of_wp (wp_skip ?_)
  cases c₀
  simp_all [bodyPostS, results, Tryz.results112]
theorem o_k {w0 : World} {a b : Value} : (∀ w', Below ((w0.alloc (.cells #[a, b] 35)).alloc (.cells #[.bool false] 4)).heap.size ((w0.alloc (.cells #[a, b] 35)).alloc (.cells #[.bool false] 4)) w' →
    (w'.cell? ⟨w0.heap.size + 1, 0, none⟩ = some (vB false) ∧ w'.frozen? ⟨w0.heap.size + 1, 0, none⟩ = false ∧ Bw w0 w' ∧ w0.heap.size + 1 < w'.heap.size)) ∧ Below w0.heap.size w0 ((w0.alloc (.cells #[a, b] 35)).alloc (.cells #[.bool false] 4)) := by
  have hB1 : Below w0.heap.size w0 ((w0.alloc (.cells #[a, b] 35)).alloc (.cells #[.bool false] 4)) :=
    (a_R w0 _).trans ((a_R (w0.alloc (.cells #[a, b] 35)) (.cells #[.bool false] 4)).mono (by simp))
  refine ⟨fun w' hb => ?_, hB1⟩
  have hs0 : ((w0.alloc (.cells #[a, b] 35)).alloc (.cells #[.bool false] 4)).heap.size = w0.heap.size + 2 := by simp
  have hsz := hb.size
  refine ⟨(hb.cell (p := ⟨w0.heap.size + 1, 0, none⟩) (by rw [hs0]; simp only; omega)).trans (by simp [go_sem]), (hb.frozen (p := ⟨w0.heap.size + 1, 0, none⟩) (by rw [hs0]; simp only; omega)).trans (by simp [go_sem]), hB1.trans (hb.mono hB1.size), by omega⟩
theorem W_w1d {n : Nat} {B : Zone} {x1 : Log} {A0 : Option Addr} {N0 C0 : Nat} {res : Bool} {w0 : World} (hm : g_Z n x1 = some res) (hBw : B ≤ w0.heap.size) (p1_0 : b_ w0 B (sl A0 N0 C0) x1.bytes) (p1_1 : inI x1.stored) : j_ Tryz.prog 83 [(.agg #[(sl A0 N0 C0), (vI x1.stored)])] w0 (fun v w' => Bw w0 w' ∧ vB res = v) := by
  constructor
  have hmf : ∀ (fn : Fn) (first cap : Array Value) (w : World), (Instr.makeFunc fn first cap).run Tryz.prog w = .ok (.func fn first cap) w := fun _ _ _ _ => rfl
  have L := o_k (w0 := w0) (a := sl A0 N0 C0) (b := vI x1.stored)
  have hmb := W_w3k (B := B) hm (zt' hBw L.2.size) (p1_0.ext L.2) p1_1
  have H := Lib.hid L.1
  clear L hm p1_0 hBw
  go_enter_defers Tryz.func83, Tryz.ntmps83
  go_wp2_with (go_at_call 113; refine hmb.mono ?_; (rintro e w' (⟨v, rfl, rfl, hb⟩ | ⟨rfl, rfl, hb⟩) <;> (obtain ⟨hc, hz, hB, hsz⟩ := H.out _ hb; clear hmb hb H)))
  · refine leaves_cons (f := 112) (args := #[.pointer (some ⟨w0.heap.size + 1, 0, none⟩)]) (by simp) (by simp [go_sem]) ?_
    refine (o_j _ _).mono ?_
    rintro e u' w'' ⟨rfl, rfl, rfl⟩
    have hB2 := hB.setCell (p := ⟨w0.heap.size + 1, 0, none⟩) (by simp) (vB true)
    have hB3 := hB2.trans ((a_R (w'.setCell ⟨w0.heap.size + 1, 0, none⟩ (vB true)) (.cells #[] 129)).mono hB2.size)
    have hc3 : ((w'.setCell ⟨w0.heap.size + 1, 0, none⟩ (vB true)).alloc (.cells #[] 129)).cell? ⟨w0.heap.size + 1, 0, none⟩ = some (vB true) :=
      ((a_R (w'.setCell ⟨w0.heap.size + 1, 0, none⟩ (vB true)) (.cells #[] 129)).cell (p := ⟨w0.heap.size + 1, 0, none⟩) (by simpa using hsz)).trans (World.cell?_setCell_same _ _ _ hc)
    simp [Leaves, settle, results, Tryz.results83, go_sem, hc3]
    exact hB3
  · refine leaves_cons (f := 112) (args := #[.pointer (some ⟨w0.heap.size + 1, 0, none⟩)]) (by simp) (by simp [go_sem]) ?_
    refine (o_i ⟨w0.heap.size + 1, 0, none⟩ false [] _ hc hz hsz).mono ?_
    rintro e u' w'' ⟨rfl, rfl, rfl⟩
    have hB2 := hB.trans ((a_R w' (.cells #[] 129)).mono hB.size)
    have hB3 := hB2.setCell (p := ⟨w0.heap.size + 1, 0, none⟩) (by simp) (vB false)
    have hc2 : (w'.alloc (.cells #[] 129)).cell? ⟨w0.heap.size + 1, 0, none⟩ = some (vB false) :=
      ((a_R w' (.cells #[] 129)).cell (p := ⟨w0.heap.size + 1, 0, none⟩) hsz).trans hc
    have hc3 : ((w'.alloc (.cells #[] 129)).setCell ⟨w0.heap.size + 1, 0, none⟩ (vB false)).cell? ⟨w0.heap.size + 1, 0, none⟩ = some (vB false) := World.cell?_setCell_same _ _ _ hc2
    simp [Leaves, settle, results, Tryz.results83, go_sem, hc3]
    exact hB3
theorem W_w1e {x1 : List UInt8} {res : (List o_) × Int} (hm : f_8 n x1 = some res) (hBw : B ≤ w0.z) (p1_0 : b_ w0 B (sl A0 N0 C0) x1) : j_ prog 84 [sl A0 N0 C0] w0 (Q14 w0 B res) := by
 unfold f_8 at hm
 refine goF func84 z z (lb z) fun fn hr => Ws<|Ra z<|Ra z<|Wn<|Ws<|E z (f0 (α := o_) e_m) ?_
 rintro _ w1 ⟨a11, n12, c13, rfl, sc, h14⟩
 refine Ra z<|Wn<|Ws<|Ra z<|Wn ?_
 obtain ⟨u2d, hu15, hmo⟩ := bdS hm
 refine b_4 (σ := (List o_) × Int) (ρ := (List o_) × Int) (fun s a w => un2 (fun xd x9 => ∃ a4 n5 c6 S0, Sat 26 [(0, sl A0 N0 C0), (2, sl none 0 0), (3, vI 0), (4, sl a4 n5 c6), (5, vI x9)] a ∧ Chg (· ∈ [w0.z]) w1 w ∧ a_ w S0 (sl a4 n5 c6) xd ∧ S0.Nodup ∧ (∀ k ∈ S0, k ∈ [w0.z] ∨ w1.z ≤ k) ∧ inI x9) s) (fun s a w => un2 (fun xd x9 => ∃ a4 n5 c6 S0, Sat 26 [(2, sl none 0 0), (3, vI 0)] a ∧ Chg (· ∈ [w0.z]) w1 w ∧ a_ w S0 (sl a4 n5 c6) xd ∧ S0.Nodup ∧ (∀ k ∈ S0, k ∈ [w0.z] ∨ w1.z ≤ k) ∧ inI x9) s) (fun r ex a w => ex = .ret ∧ v_ prog fn (Q14 w0 B r) a w) hu15 ?_ ?_ ?_ ?_
 ·exact fun _ q => ⟨a11, n12, c13, [w0.z], (q.k<|s5 z z z z z), (cr [w0.z] w1), h14, X_, (io sr), (ii z)⟩
 ·rintro ⟨xd, x9⟩ a2e w16 o2f ⟨a4, n5, c6, S0, hS17, sa, hb, hg, hh, hi⟩ hm18
  have hm19 := a_h hm18
  refine Wu ?_ hS17
  refine Wb<|Ws<|Rm z<|Rm z ?_
  have h1a : ∀ k ∈ [w0.z], ¬ B k := or0 (f_ lr)  (p_ hBw)
  have hp := lt_ sc.s sa.s
  obtain ⟨r2, r1b, r2g, e1c, hmq⟩ := W_ hm19
  refine E z (fc call114 z<|W_w1c (B := B) e1c (zt' hBw hp) (p1_0.g<|(sc.ag B).c sa<|h_ h1a) hi) ?_
  rintro _ wj ⟨s3, ak, nl, cm, Sr, rfl, h1d, h1e, h1f, he, h1g, h1h, ht⟩
  refine Rm z ?_
  iterate 3 refine R z (ext_ z z) ?_
  refine E z (fa c_X) ?_
  rintro _ ws ⟨rfl, hu⟩
  have h7 := hu.below
  have h1i : Blk ws wj.z [vI 0, (Str.v (⟨[]⟩ : Str)), vI 0, sl none 0 0] := hu.blk
  refine E0 (fs (cur' := [vI r2.kind, Str.v r2.name, vI r2.version, sl ak nl cm]) V_ z z h1i z (lb z) (oA z) z) ?_
  rintro _ wv ⟨h1j, s1k⟩
  have h8 := s1k.one
  refine Ra z<|Ra z<|Wn<|Wq<|Ws<|Rm z<|R z (not_ z)<|Wn<|Wc z (fun hcn => ?_) (fun hcn => ?_)
  ·refine Ws<|Rm z<|Rm z<|Ra z<|Ra z<|Wn ?_
   have h1l : ∀ k ∈ S0, w0.z ≤ k := or1 hh (f_ lr) (a_Q sc.s)
   exact Wr<|rtO<|qL (som<|ifT hmq hcn).symm<|a_z hr z z ⟨(bM (bup (bup (bM sc sa<|f_ lr) s3) h7) h8<|m1<|lt_ hp s3.s), a4, n5, c6, S0, z, (((hb.e s3).e h7).c h8<|ds<|mno (a_.lt hb) s3.s), hi, hg, h1l⟩
  refine Wk<|Ws<|Rm z<|R z (lN (vs := [vI r2.kind, Str.v r2.name, vI r2.version, sl ak nl cm]) a_I V_ z z fid<|h1j.row 0 4 z)<|E z (fS [(.tmp 22)] e_m z z z (a_x z) (lb z)<|lb z) ?_
  rintro _ ww ⟨rfl, hx⟩
  have hf := hx.below
  have h1m : Blk ww wv.z [vI r2.kind, Str.v r2.name, vI r2.version, sl ak nl cm] := hx.blk
  have h2h := (he.e h7).c h8<|ds<|mnr<|a_.lt he
  obtain ⟨x1n, e1o, hm1p⟩ := bdS (ifF hmq hcn)
  refine E z (b_b (α := o_) e_m e1o z z ((((hb.e s3).e h7).c h8<|ds<|mno (a_.lt hb) s3.s).e hf) hg h1m (l_j (x := r2) (S1 := Sr) h1d h1e h1f<|((he.e h7).c h8<|ds<|mnr<|a_.lt he).e hf) (U_ ht (a_.lt hb) lr) h1h) ?_
  rintro _ w1q ⟨Sy, a1r, n1s, c1t, rfl, s1u, h1v, h1w, h1x⟩
  refine Ra z<|Wn<|Wg<|Rm z<|Ra z<|Wl ?_
  have hz := lt_ sa.s s3.s
  have h10 : ∀ k ∈ S0, k ∈ [w0.z] ∨ w1.z ≤ k := or1 hh (io sr) (n_ lr)
  have h1y : ∀ k ∈ Sr, k ∈ [w0.z] ∨ w1.z ≤ k := or0 ht  (n_ sa.s)
  have h1z : ∀ k ∈ Sy, k ∈ [w0.z] ∨ w1.z ≤ k := or2 h1x h10 h1y (n_ (lt_ (lt_ (lt_ hz h7.s) h8.s) hf.s))
  have h20 : Chg (· ∈ [w0.z]) w1 w16 := cM (cr [w0.z] w1) sa (io sr)
  have h21 : Chg (· ∈ [w0.z]) w1 wj := E_ h20 s3
  have h22 : Chg (· ∈ [w0.z]) w1 ws := E_ h21 h7
  have h23 : ∀ k ∈ [wj.z], k ∈ [w0.z] ∨ w1.z ≤ k := mor hz
  have h24 : Chg (· ∈ [w0.z]) w1 wv := cM h22 h8 h23
  have h25 : Chg (· ∈ [w0.z]) w1 ww := E_ h24 hf
  have h26 : Chg (· ∈ [w0.z]) w1 w1q := cM h25 s1u h10
  exact fun _ q => ⟨(x1n, r1b), (som hm1p).symm, ⟨a1r, n1s, c1t, Sy, (q.k<|s5 z z z z z), h26, h1v, h1w, h1z, h1g⟩⟩
 ·rintro ⟨xd, x9⟩ a27 w2i rfl ⟨a4, n5, c6, S0, hS2j, s28, hb, hg, hh, hi⟩
  have hm29 := elL hmo
  have hm2a := a_h hm29
  revert a27
  obtain rfl := som hm2a
  exact a_z hr z z ⟨(bM sc s28<|f_ lr), none, 0, 0, [], z, onL, (ii z), R_, an_⟩
 rintro r2k ex2l a2m w2n rfl ⟨rfl, hq2b⟩
 have hm2c := elR hmo
 obtain rfl := som hm2c
 exact ⟨hq2b, z⟩
theorem W_w3l {x1 : s_} {x2 : o_} {b2 o2 : Nat} {res : Bool} (hm : i_v x1 x2 = some res) (hBw : B ≤ w0.z) (p1_0 : x1.name.b.length ≤ LEN) (p1_1 : inI x1.version) (p1_2 : b_ w0 B (sl AG NG CG) x1.data) (p2_0 : inI x2.kind) (p2_1 : x2.name.b.length ≤ LEN) (p2_2 : inI x2.version) (p2_3 : b_ w0 B (sl AC NC CC) x2.data) (hC2 : L_ w0 b2 o2 [vI x2.kind, Str.v x2.name, vI x2.version, sl AC NC CC]) (hC2b : B b2) : j_ prog 88 [(.agg #[Str.v x1.name, vI x1.version, sl AG NG CG]), (.pointer (some ⟨b2, o2, none⟩))] w0 (Q11 w0 B res) := by
 unfold i_v at hm
 refine goF func88 z z (lb z) fun fn hr => Ws<|E z (fb z) ?_
 rintro _ w2 ⟨rfl, h0⟩
 have h1 := h0.below
 have h3 : Blk w2 w0.z [Str.v x1.name, vI x1.version, sl AG NG CG] := h0.blk
 refine Ra z<|Wn<|Ws<|R z (fd h_q z)<|R z (l1 g_9 z fid<|h3.at z)<|R z (fd c_A z)<|R z (l1 g_9 z fid<|(hC2.e h1).at (j := 1) z)<|R z (d_s z z)<|Ra z<|Wn ?_
 obtain rfl := som hm
 exact Wr<|d_ hr z ⟨h1, z⟩
theorem W_w3m {x1 : List s_} {x2c0 : o_} {pa2c0_3 : Option Addr} {pn2c0_3 pc2c0_3 : Nat} {b2c0 o2c0 : Nat} {res : Int} (hm : h_0 x1 x2c0 = some res) (hBw : B ≤ w0.z) (p1_0 : b_ w0 B (sl A0 N0 C0) x1) (p2c0_0 : inI x2c0.kind) (p2c0_1 : x2c0.name.b.length ≤ LEN) (p2c0_2 : inI x2c0.version) (p2c0_3 : b_ w0 B (sl pa2c0_3 pn2c0_3 pc2c0_3) x2c0.data) (hC2c0 : L_ w0 b2c0 o2c0 [vI x2c0.kind, Str.v x2c0.name, vI x2c0.version, sl pa2c0_3 pn2c0_3 pc2c0_3]) (hC2c0b : B b2c0) : j_ prog 87 [sl A0 N0 C0, (.func (.func 88) #[] #[(.pointer (some ⟨b2c0, o2c0, none⟩))])] w0 (Q0 w0 B res) := by
 unfold h_0 at hm
 refine goF func87 z z (lb z) fun fn hr => Ws<|Ra z<|Wn<|Wq<|Ws<|Rm z<|R z (lnR b_l z p1_0)<|Rm z<|Wn ?_
 obtain ⟨u12, hug, hma⟩ := bdS hm
 refine Wf (σ := Unit) (ρ := Int) (fun (kb : Nat) (_ : Unit) a w => Sat 19 [(1, (.func (.func 88) #[] #[(.pointer<|some ⟨b2c0, o2c0, none⟩)])), (7, sl A0 N0 C0), (8, vI (x1.length : Int)), (9, (vI ((kb : Nat) : Int)))] a ∧ Below w0.z w0 w) (fun (_ : Unit) a w => Sat 19 [] a ∧ Below w0.z w0 w) (fun r ex a w => ex = .ret ∧ v_ prog fn (Q0 w0 B r) a w) hug ?_ ?_ ?_ ?_ ?_
 ·exact fun _ q => ⟨(q.k<|s4 z z z z), (br w0)⟩
 ·rintro kb _ a13 wc o14 hk4 ⟨hSh, s0⟩ hmi
  refine Wu ?_ hSh
  refine Ws<|R z (lss z z)<|Wn<|Wq<|Wc z (fun _ => ?_) (fun hc => (N_ hk4 hc).elim)
  refine Wk<|Wq<|Wb<|Ws<|Rm z ?_
  obtain ⟨x2, ej, hmk⟩ := bdS hmi
  refine RX z (at_ (α := s_) b_l a_q z z z (p1_0.e s0) ej) ?_
  rintro _ ⟨b15, o16, cs17, rfl, hl, hn, h18⟩
  obtain ⟨a5, n6, c7, rfl, ho, hp, hq⟩ := e_t hn
  refine R z (lN (vs := [Str.v x2.name, vI x2.version, sl a5 n6 c7]) b_U a_q z z fid hl)<|E z (fa d_m) ?_
  rintro _ wm ⟨rfl, hd⟩
  have h1 := hd.below
  have ht : Blk wm wc.z [(Str.v (⟨[]⟩ : Str)), vI 0, sl none 0 0] := hd.blk
  refine Ra z<|E0 (fs (cur' := [Str.v x2.name, vI x2.version, sl a5 n6 c7]) a_q z z ht z (lb z) (oA z) z) ?_
  rintro _ w19 ⟨hu, sr⟩
  have h3 := sr.one
  refine Wn<|Ws<|Rm z<|R z (lN (vs := [Str.v x2.name, vI x2.version, sl a5 n6 c7]) b_U a_q z z fid<|hu.row 0 3 z) ?_
  have h8 : ∀ k ∈ [wc.z], ¬ B k := or0 (f_ lr)  (p_ (zt' hBw s0.s))
  obtain ⟨r1a, es, hme⟩ := bdS hmk
  refine E z (j_i call88 z z<|W_w3l (B := B) es (zt' hBw<|lt_ (lt_ s0.s h1.s) h3.s) ho hp (hq.g<|(h1.ag B).c h3<|h_ h8) p2c0_0 p2c0_1 p2c0_2 (p2c0_3.g<|((s0.ag B).e h1).c h3<|h_ h8) (((hC2c0.e s0).e h1).c h3<|(h_ h8) _ hC2c0b) hC2c0b) ?_
  rintro _ w1b ⟨sf, rfl⟩
  refine Wn<|Wc z (fun hc9 => ?_) (fun hc9 => ?_)
  ·exact Ws<|Rm z<|Ra z<|Wn<|Wr<|rtO<|qL (som<|ifT hme hc9).symm<|d_ hr z ⟨(bup (bM (bup s0 h1) h3<|m1 s0.s) sf), z, (ic (Nat.le_of_lt hk4)<|lt_ (b_.len p1_0) G_)⟩
  exact Wk<|Wg<|R z (inc_ hk4 (lt_ (b_.len p1_0) G_) z z)<|Rm z<|Wl (fun _ q => ⟨(), (som<|ifF hme hc9).symm, ⟨(q.k<|s4 z z z z), (bup (bM (bup s0 h1) h3<|m1 s0.s) sf)⟩⟩)
 ·rintro _ a1c w1d ⟨hSv, sw⟩
  refine Wu ?_ hSv
  refine Ws<|R z (lss z z)<|Wn<|Wq<|Wc z (fun hc => (O_ hc).elim) (fun _ => ?_)
  exact We (fun a' ha' => ⟨rfl, ⟨(Sat.weaken ha' sn), sw⟩⟩)
 ·rintro _ ax w1e rfl ⟨hS1f, sy⟩
  have hmz := elL hma
  revert ax
  refine Wo<|Ws<|Ra z<|Wn ?_
  obtain rfl := som hmz
  exact Wr<|d_ hr z ⟨sy, z, (ii z)⟩
 rintro r1g ex1h a1i w1j rfl ⟨rfl, hq10⟩
 have hm11 := elR hma
 obtain rfl := som hm11
 exact ⟨hq10, z⟩
theorem W_w1f {x1 : w_} {b1 o1 : Nat} {res : (List s_)} (hm : f_9 n x1 = some res) (hBw : B ≤ w0.z) (p1_0 : b_ w0 B (sl A0 N0 C0) x1.registry.versions) (p1_1 : b_ w0 B (sl A1 N1 C1) x1.log.bytes) (p1_2 : inI x1.log.stored) (hC1 : L_ w0 b1 o1 [sl A0 N0 C0, sl A1 N1 C1, vI x1.log.stored]) (hC1b : B b1) : j_ prog 51 [(.pointer (some ⟨b1, o1, none⟩))] w0 (Q15 w0 B res) := by
 unfold f_9 at hm
 refine goF func51 z z (lb z) fun fn hr => Ws<|Ra z<|Wn<|Ws<|E z (n_i (α := s_) b_K B) ?_
 rintro _ w6 ⟨a2k, rfl, sn, h2l⟩
 refine Ra z<|Wn<|Ws<|Rm z<|R z (b_Q z)<|R z (fd b_a z)<|R z (fd a_S z)<|R z (l1 I_ z fid<|(hC1.e sn).at (j := 1) z) ?_
 obtain ⟨ru, r5h, e2m, hm2n⟩ := a_w hm
 refine E z (fc call84 z<|W_w1e (B := B) e2m (zt' hBw sn.s)<|p1_1.e sn) ?_
 rintro _ w4 ⟨so, av, nw, cx, S5i, rfl, hy, h5j, h5k, h1t⟩
 refine Rm z<|R z (ext_ z z)<|R z (ext_ z z)<|Ra z<|Ra z<|Wn<|Wq<|Ws<|Rm z<|R z (lnR b_M z<|or_ hy<|zin (B := B) h1t<|a_.lt hy)<|Rm z<|Wn ?_
 obtain ⟨u5l, hu2o, hm1u⟩ := bdS hm2n
 refine Wf (σ := (List s_)) (ρ := (List s_)) (fun (kp : Nat) (xi : List s_) a w => ∃ a7 n8 c9 S0, Sat 69 [(3, sl a7 n8 c9), (20, sl av nw cx), (21, vI (ru.length : Int)), (22, (vI ((kp : Nat) : Int)))] a ∧ Below w4.z w4 w ∧ T_ w S0 (zn B w6.z w4.z) (sl a7 n8 c9) xi ∧ S0.Nodup ∧ (∀ k ∈ S0, w4.z ≤ k)) (fun (xi : List s_) a w => ∃ a7 n8 c9 S0, Sat 69 [(3, sl a7 n8 c9)] a ∧ Below w4.z w4 w ∧ T_ w S0 (zn B w6.z w4.z) (sl a7 n8 c9) xi ∧ S0.Nodup ∧ (∀ k ∈ S0, w4.z ≤ k)) (fun r ex a w => ex = .ret ∧ v_ prog fn (Q15 w0 B r) a w) hu2o ?_ ?_ ?_ ?_ ?_
 ·exact fun _ q => ⟨a2k, 0, 0, ([] : List Nat), (q.k<|s4 z z z z), (br w4), (T_.mono (h2l.e so) zn_l), R_, an_⟩
 ·rintro kp xi a5m w1j o5n hk1v ⟨a7, n8, c9, S0, hS2p, sh, ha, hj, hd⟩ hm2q
  refine Wu ?_ hS2p
  refine Ws<|R z (lss z z)<|Wn<|Wq<|Wc z (fun _ => ?_) (fun hc => (N_ hk1v hc).elim)
  refine Wk<|Wq<|Wb<|Ws ?_
  obtain ⟨x2, e2r, hm2s⟩ := bdS hm2q
  refine RX z (at_ (α := o_) b_M V_ z z z (or_ (hy.e sh)<|zin (B := B) h1t<|a_.lt hy) e2r) ?_
  rintro _ ⟨b5o, o5p, cs5q, rfl, h2t, h2u, h5r⟩
  obtain ⟨ak, nl, cm, rfl, h2v, h1k, h1l, h1m⟩ := d_R h2u
  refine R z (lN (vs := [vI x2.kind, Str.v x2.name, vI x2.version, sl ak nl cm]) a_I V_ z z fid h2t)<|E z (fa c_X) ?_
  rintro _ w1w ⟨rfl, h1x⟩
  have he := h1x.below
  have h13 : Blk w1w w1j.z [vI 0, (Str.v (⟨[]⟩ : Str)), vI 0, sl none 0 0] := h1x.blk
  refine E0 (fs (cur' := [vI x2.kind, Str.v x2.name, vI x2.version, sl ak nl cm]) V_ z z h13 z (lb z) (oA z) z) ?_
  rintro _ w5s ⟨h1y, s2w⟩
  have h5 := s2w.one
  refine Wn<|Ws<|Rm z<|R z (l_n z) ?_
  have h14 := lt_ sn.s so.s
  have h1z := lt_ h14 sh.s
  have h20 : ∀ k ∈ [w1j.z], ¬ (zn B w6.z w4.z) k := or0 (f_ lr)  (c_n (p_ (zt' hBw h1z)) sh.s)
  have hz := (ha.e he).c h5 (ds<|mnr<|T_.lt ha)<|h_ h20
  have h1n := (he.ag<|zn B w6.z w4.z).c h5<|h_ h20
  have hq := lt_ sh.s he.s
  have h10 := lt_ (lt_ h1z he.s) h5.s
  obtain ⟨r21, e2x, hm2y⟩ := bdS hm2s
  refine E z (fc call87 z<|W_w3m (B := (zn B w6.z w1w.z)) e2x (e_y (zt' hBw h10) h5.s) (b_.mono (T_.rep hz (zall (zin (B := B) hd<|T_.lt ha)<|b_P so.s lr)<|b_P lr sh.s)<|b_P lr he.s) h2v h1k h1l (b_.mono (h1m.g h1n)<|b_P lr hq) (h1y.row 0 4 z)<|zap' (b_P (lt_ so.s sh.s) lr)<|atp<|zin (B := B) (f_ lr)<|f_ h13.lt) ?_
  rintro _ wr ⟨s3, rfl, h5t⟩
  refine Ra z<|Wn<|Ws<|R z (fd c_A z) ?_
  have h11 := h1y.e s3
  refine R z (l1 g_9 z fid<|h11.at z)<|R z (fd b_X z)<|R z (l1 g_3 z fid<|h11.at z)<|R z (fd c_B z)<|R z (l1 I_ z fid<|h11.at z)<|R z (bP (parts := [(0, (.tmp 30)), (1, (.tmp 32)), (2, (.tmp 34))]) (cs := [Str.v x2.name, vI x2.version, sl ak nl cm]) f_m z z)<|E z (fa d_m) ?_
  rintro _ w2z ⟨rfl, h22⟩
  have hf := h22.below
  have h30 : Blk w2z wr.z [(Str.v (⟨[]⟩ : Str)), vI 0, sl none 0 0] := h22.blk
  refine E0 (fs (cur' := [Str.v x2.name, vI x2.version, sl ak nl cm]) a_q z z h30 z (lb z) (oA z) z) ?_
  rintro _ w15 ⟨h23, s31⟩
  have hg := s31.one
  refine Wn<|Wb<|Wq ?_
  obtain ⟨u32, hu24, hm33⟩ := bdS hm2y
  refine Wt (fun a w => ∃ (x1o : Bool), x1o = u32 ∧ Sat 69 [(3, sl a7 n8 c9), (7, pt w1j.z), (8, vI r21), (9, pt wr.z), (20, sl av nw cx), (21, vI (ru.length : Int)), (22, (vI ((kp : Nat) : Int))), (36, vB x1o)] a ∧ Below w15.z w15 w) ?_ ?_
  ·refine Wg<|R z (fd b_W z)<|R z (l1 g_3 z fid<|((h11.e hf).c hg<|djs<|mm1 h13.lt<|lt_ h5.s s3.s).at z)<|R z (eql z z)<|Rm z ?_
   rcases bs (x2.kind == 1) with hcc | hcc
   ·exact Rh z hcc (mv z)<|Rh z hcc (a_W z z)<|R z (pT z hcc z)<|Ra z<|Wl (fun _ q => ⟨decide (0 ≤ r21), som<|ifT hu24 hcc, (q.k<|s8 z z z z z z z z), (br w15)⟩)
   exact Nh z hcc<|Nh z hcc<|R z (pF z hcc z)<|Ra z<|Wl (fun _ q => ⟨false, som<|ifF hu24 hcc, (q.k<|s8 z z z z z z z z), (br w15)⟩)
  rintro a34 w1 ⟨x1o, rfl, hS5u, sb⟩
  revert a34
  refine Wo ?_
  obtain ⟨u35, hu25, hm36⟩ := bdS hm33
  refine Wt (fun a w => ∃ (x16 : List s_), x16 = u35 ∧ ∃ a17 n18 c19 S12, Sat 69 [(3, sl a17 n18 c19), (20, sl av nw cx), (21, vI (ru.length : Int)), (22, (vI ((kp : Nat) : Int)))] a ∧ Chg (· ∈ S0) w1 w ∧ T_ w S12 (zn B w6.z w4.z) (sl a17 n18 c19) x16 ∧ S12.Nodup ∧ (∀ k ∈ S12, k ∈ S0 ∨ w1.z ≤ k)) ?_ ?_
  ·refine Wc z (fun hc1p => ?_) (fun hc1p => ?_)
   ·refine Wg<|Rm z<|Rm z<|R z (lN (vs := [Str.v x2.name, vI x2.version, sl ak nl cm]) b_U a_q z z fid<|(h23.e sb).row 0 3 z) ?_
    obtain ⟨x37, e26, hm38⟩ := bdS (ifT hu25 hc1p)
    have h27 : ∀ k ∈ [wr.z], ¬ (zn B w6.z w4.z) k := or0 (f_ lr)  (c_n (p_ (zt' hBw (lt_ h10 s3.s))) (lt_ (lt_ hq h5.s) s3.s))
    have h28 := (((hz.e s3).e hf).c hg (ds<|mno (T_.lt ha)<|lt_ (lt_ he.s h5.s) s3.s)<|h_ h27).e sb
    refine RX z (r_F (α := s_) b_l a_q z z h28 e26) ?_
    rintro _ ⟨g5v, h39, rfl⟩
    have h3a : ∀ k ∈ S0, ¬ (zn B w6.z w4.z) k := or0 hd  (c_n (p_ (zt' hBw h14)) lr)
    refine E0 (r_z (α := s_) a_q z h39 z z z e26 h28 hj (f_p (x := (⟨x2.name, x2.version, x2.data⟩ : s_)) h1k h1l<|h1m.g<|(((h1n.e s3).e hf).c hg<|h_ h27).e sb) h3a) ?_
    rintro _ w3b ⟨S29, s3c, h3d, h3e, h3f⟩
    refine Wl ?_
    have h3g : ∀ k ∈ S29, k ∈ S0 ∨ w1.z ≤ k := or1 h3f (io sr) (n_ lr)
    have h3h : Chg (· ∈ S0) w1 w3b := cM (cr S0 w1) s3c (io sr)
    exact fun _ q => ⟨x37, som hm38, a7, n8, c9, S29, (q.k<|s4 z z z z), h3h, h3d, h3e, h3g⟩
   refine Ws<|R z (fd b_W z)<|R z (l1 g_3 z fid<|(((h11.e hf).c hg<|djs<|mm1 h13.lt<|lt_ h5.s s3.s).e sb).at z)<|R z (eql z z)<|Ra z<|Wn ?_
   obtain ⟨u3i, hu2a, hm3j⟩ := bdS (ifF hu25 hc1p)
   refine Wt (fun a w => ∃ (x1a : List s_), x1a = u3i ∧ ∃ a1b n1c c1d Ss, Sat 69 [(3, sl a1b n1c c1d), (20, sl av nw cx), (21, vI (ru.length : Int)), (22, (vI ((kp : Nat) : Int)))] a ∧ Chg (· ∈ S0) w1 w ∧ T_ w Ss (zn B w6.z w4.z) (sl a1b n1c c1d) x1a ∧ Ss.Nodup ∧ (∀ k ∈ Ss, k ∈ S0 ∨ w1.z ≤ k)) ?_ ?_
   ·refine Wc z (fun hc1q => ?_) (fun hc1q => ?_)
    ·refine Wg<|Rm z<|R z (lN (vs := [Str.v x2.name, vI x2.version, sl ak nl cm]) b_U a_q z z fid<|(h23.e sb).row 0 3 z)<|E z (fS [(.tmp 53)] b_K z z z (a_x z) (lb z)<|lb z) ?_
     rintro _ w2b ⟨rfl, h2c⟩
     have h1e := h2c.below
     have h3k : Blk w2b w1.z [Str.v x2.name, vI x2.version, sl ak nl cm] := h2c.blk
     have h2d : ∀ k ∈ [wr.z], ¬ (zn B w6.z w4.z) k := or0 (f_ lr)  (c_n (p_ (zt' hBw (lt_ h10 s3.s))) (lt_ (lt_ hq h5.s) s3.s))
     obtain ⟨x3l, e3m, hm3n⟩ := bdS (ifT hu2a hc1q)
     have h3o : ∀ k ∈ S0, ¬ (zn B w6.z w4.z) k := or0 hd  (c_n (p_ (zt' hBw h14)) lr)
     refine E z (i_i (α := s_) b_K e3m z z (((((hz.e s3).e hf).c hg (ds<|mno (T_.lt ha)<|lt_ (lt_ he.s h5.s) s3.s)<|h_ h2d).e sb).e h1e) hj h3k (f_p (x := (⟨x2.name, x2.version, x2.data⟩ : s_)) h1k h1l<|h1m.g<|((((h1n.e s3).e hf).c hg<|h_ h2d).e sb).e h1e) h3o) ?_
     rintro _ w3p ⟨S2e, a3q, n3r, c3s, rfl, s3t, h3u, h3v, h3w⟩
     refine Ra z<|Wl ?_
     have h3x : ∀ k ∈ S2e, k ∈ S0 ∨ w1.z ≤ k := or1 h3w (io sr) (n_ h1e.s)
     have h3y : Chg (· ∈ S0) w1 w2b := E_ (cr S0 w1) h1e
     have h3z : Chg (· ∈ S0) w1 w3p := cM h3y s3t (io sr)
     exact fun _ q => ⟨x3l, som hm3n, a3q, n3r, c3s, S2e, (q.k<|s4 z z z z), h3z, h3u, h3v, h3x⟩
    refine Ws<|Rm z<|R z (a_W z z)<|Ra z<|Wn ?_
    obtain ⟨u40, hu2f, hm41⟩ := bdS (ifF hu2a hc1q)
    refine Wt (fun a w => ∃ (x1f : List s_), x1f = u40 ∧ ∃ a1g n1h c1i St, Sat 69 [(3, sl a1g n1h c1i), (20, sl av nw cx), (21, vI (ru.length : Int)), (22, (vI ((kp : Nat) : Int)))] a ∧ Chg (· ∈ S0) w1 w ∧ T_ w St (zn B w6.z w4.z) (sl a1g n1h c1i) x1f ∧ St.Nodup ∧ (∀ k ∈ St, k ∈ S0 ∨ w1.z ≤ k)) ?_ ?_
    ·refine Wc z (fun hc1r => ?_) (fun hc1r => ?_)
     ·refine Wd (X := noX) 128 (.rd 0 (.rd 1 (.rd 2 (.rd 3 (.rd 4 (.rd 5 (.rd 6 (.ef 7 (.rd 8 .done))))))))) mo (by kernel_rfl) fun w42 s1s _ => dR z z (mv z)<|dR z z (mv z) ?_
      obtain ⟨x5w, e43, hm44⟩ := bdS (ifT hu2f hc1r)
      have h45 : ∀ k ∈ [wr.z], ¬ (zn B w6.z w4.z) k := or0 (f_ lr)  (c_n (p_ (zt' hBw (lt_ h10 s3.s))) (lt_ (lt_ hq h5.s) s3.s))
      have h2g := ((((hz.e s3).e hf).c hg (ds<|mno (T_.lt ha)<|lt_ (lt_ he.s h5.s) s3.s)<|h_ h45).e sb).e s1s
      refine dRX z z (r_E b_l a_q z h2g z e43) ?_
      rintro _ ⟨n5x, rfl, h46⟩
      refine dR z z (mv z)<|dR z z (mv z)<|dR z z (add_ z z) ?_
      obtain ⟨x5y, e47, hm48⟩ := bdS hm44
      refine dRX z z (r_B b_l a_q z z h2g z z e47) ?_
      rintro _ ⟨a5z, n60, c61, rfl, h49⟩
      obtain ⟨x4a, e4b, hm4c⟩ := bdS hm48
      have h4d : ∀ k ∈ S0, ¬ (zn B w6.z w4.z) k := or0 hd  (c_n (p_ (zt' hBw h14)) lr)
      refine dE z z (r_A (α := s_) b_K e4b z z h46 hj h49 h4d) (.inl z) ?_
      rintro _ w4e ⟨S2h, a4f, n4g, c4h, rfl, s4i, h4j, h4k, h4l⟩
      refine dR z z (asg z)<|pD ?_
      have h4m : ∀ k ∈ S2h, k ∈ S0 ∨ w1.z ≤ k := or1 h4l (io sr) (n_ s1s.s)
      have h4n : Chg (· ∈ S0) w1 w42 := E_ (cr S0 w1) s1s
      have h4o : Chg (· ∈ S0) w1 w4e := cM h4n s4i (io sr)
      exact fun _ q => ⟨x4a, som hm4c, a4f, n4g, c4h, S2h, (q.k<|s4 z z z z), h4o, h4j, h4k, h4m⟩
     refine b_3 ?_
     have h4p : ∀ k ∈ [wr.z], ¬ (zn B w6.z w4.z) k := or0 (f_ lr)  (c_n (p_ (zt' hBw (lt_ h10 s3.s))) (lt_ (lt_ hq h5.s) s3.s))
     exact fun _ q => ⟨xi, som<|ifF hu2f hc1r, a7, n8, c9, S0, (q.k<|s4 z z z z), (cr S0 w1), ((((hz.e s3).e hf).c hg (ds<|mno (T_.lt ha)<|lt_ (lt_ he.s h5.s) s3.s)<|h_ h4p).e sb), hj, (io sr)⟩
    rintro a4q w4r ⟨x1f, rfl, a1g, n1h, c1i, St, hS62, s4s, h4t, h4u, h4v⟩
    revert a4q
    have h4w : ∀ k ∈ St, k ∈ S0 ∨ w1.z ≤ k := or1 h4v (io sr) (n_ lr)
    have h4x : Chg (· ∈ S0) w1 w4r := cM (cr S0 w1) s4s (io sr)
    exact fun _ q => ⟨x1f, som hm41, a1g, n1h, c1i, St, (q.k<|s4 z z z z), h4x, h4t, h4u, h4w⟩
   rintro a4y w4z ⟨x1a, rfl, a1b, n1c, c1d, Ss, hS63, s50, h51, h52, h53⟩
   revert a4y
   have h54 : ∀ k ∈ Ss, k ∈ S0 ∨ w1.z ≤ k := or1 h53 (io sr) (n_ lr)
   have h55 : Chg (· ∈ S0) w1 w4z := cM (cr S0 w1) s50 (io sr)
   exact fun _ q => ⟨x1a, som hm3j, a1b, n1c, c1d, Ss, (q.k<|s4 z z z z), h55, h51, h52, h54⟩
  rintro a56 w64 ⟨x16, rfl, a17, n18, c19, S12, hS65, s57, h58, h59, h5a⟩
  revert a56
  refine Wo<|Wg<|R z (inc_ hk1v (lt_ (a_.len hy) G_) z z)<|Rm z<|Wl ?_
  have h2i := lt_ (lt_ hq h5.s) s3.s
  exact fun _ q => ⟨x16, (som hm36).symm, ⟨a17, n18, c19, S12, (q.k<|s4 z z z z), (bM (bup (bM (bup (bup (bM (bup sh he) h5<|m1 sh.s) s3) hf) hg<|m1 h2i) sb) s57 hd), h58, h59, (a_b h5a hd<|lt_ (lt_ (lt_ h2i hf.s) hg.s) sb.s)⟩⟩
 ·rintro xi a66 w67 ⟨a7, n8, c9, S0, hS5b, s5c, ha, hj, hd⟩
  refine Wu ?_ hS5b
  refine Ws<|R z (lss z z)<|Wn<|Wq<|Wc z (fun hc => (O_ hc).elim) (fun _ => ?_)
  exact We (fun a' ha' => ⟨rfl, ⟨a7, n8, c9, S0, (Sat.weaken ha'<|s1 z), s5c, ha, hj, hd⟩⟩)
 ·rintro xi a5d w68 rfl ⟨a7, n8, c9, S0, hS69, s2j, ha, hj, hd⟩
  have hm5e := elL hm1u
  revert a5d
  refine Wo<|Ws<|Rm z<|Ra z<|Wn ?_
  obtain rfl := som hm5e
  exact Wr<|d_ hr z ⟨(bup (bup sn so) s2j), a7, n8, c9, z, (b_.mono (T_.rep ha (zall (zin (B := B) hd<|T_.lt ha)<|b_P so.s lr)<|b_P lr s2j.s)<|b_P sn.s lr)⟩
 rintro r6a ex6b a6c w6d rfl ⟨rfl, hq5f⟩
 have hm5g := elR hm1u
 obtain rfl := som hm5g
 exact ⟨hq5f, z⟩
theorem W_w3n {x1 : B_} {x2 : Int} {res : Bool} (hm : i_w x1 x2 = some res) (hBw : B ≤ w0.z) (p1_0 : b_ w0 B (sl A0 N0 C0) x1.versions) (p2_0 : inI x2) : j_ prog 85 [(.agg #[sl A0 N0 C0]), vI x2] w0 (Q11 w0 B res) := by
 unfold i_w at hm
 refine goF func85 z z (lb z) fun fn hr => Ws<|E z (fb z) ?_
 rintro _ w1 ⟨rfl, h2⟩
 have h4 := h2.below
 have h6 : Blk w1 w0.z [sl A0 N0 C0] := h2.blk
 refine Ra z<|Wn<|Wq ?_
 obtain ⟨u7, hu5, hm8⟩ := bdS hm
 refine Wt (fun a w => ∃ (x3 : Bool), x3 = u7 ∧ Sat 14 [(4, vB x3)] a ∧ Below w1.z w1 w) ?_ ?_
 ·refine Wg<|Rm z<|R z (a_W z z)<|Rm z ?_
  rcases bs (decide (0 ≤ x2)) with hc0 | hc0
  ·exact Rh z hc0 (mv z)<|Rh z hc0 (fd a_P z)<|Rh z hc0 (l1 a_Y z fid<|h6.at z)<|Rh z hc0 (lnR a_v z<|p1_0.e h4)<|Rh z hc0 (lss z z)<|R z (pT z hc0 z)<|Ra z<|Wl (fun _ q => ⟨decide (x2 < (x1.versions.length : Int)), som<|ifT hu5 hc0, (q.k<|s1 z), (br w1)⟩)
  iterate 5 refine Nh z hc0 ?_
  exact R z (pF z hc0 z)<|Ra z<|Wl (fun _ q => ⟨false, som<|ifF hu5 hc0, (q.k<|s1 z), (br w1)⟩)
 rintro a9 wb ⟨x3, rfl, hSc, sa⟩
 revert a9
 refine Wo ?_
 obtain rfl := som hm8
 exact Wr<|d_ hr z ⟨(bup h4 sa), z⟩
theorem W_w1g {x1 : g_} {res : Int} (hm : g_o x1 = some res) (hBw : B ≤ w0.z) (p1_0 : b_ w0 B (sl A0 N0 C0) x1.rules) : j_ prog 139 [(.agg #[sl A0 N0 C0])] w0 (Q0 w0 B res) := by
 unfold g_o at hm
 refine goF func139 z z (lb z) fun fn hr => Ws<|E z (fb z) ?_
 rintro _ w2 ⟨rfl, h0⟩
 have h1 := h0.below
 have h3 : Blk w2 w0.z [sl A0 N0 C0] := h0.blk
 refine Ra z<|Wn<|Ws<|R z (fd a_7 z)<|R z (l1 a_e z fid<|h3.at z)<|R z (lnR J_ z<|p1_0.e h1)<|R z (sb_ z z)<|Ra z<|Wn ?_
 obtain rfl := som hm
 exact Wr<|d_ hr z ⟨h1, z, (iS _ _)⟩
theorem W_w3o {x1 : g_} {x2 : Int} {res : Bool} (hm : g_p n x1 x2 = some res) (hBw : B ≤ w0.z) (p1_0 : b_ w0 B (sl A0 N0 C0) x1.rules) (p2_0 : inI x2) : j_ prog 153 [(.agg #[sl A0 N0 C0]), vI x2] w0 (Q11 w0 B res) := by
 unfold g_p at hm
 refine goF func153 z z (lb z) fun fn hr => Ws<|E z (fb z) ?_
 rintro _ w3 ⟨rfl, h5⟩
 have h1 := h5.below
 have h6 : Blk w3 w0.z [sl A0 N0 C0] := h5.blk
 refine Ra z<|Wn<|Wq ?_
 obtain ⟨u8, hu9, hma⟩ := bdS hm
 refine Wt (fun a w => ∃ (x4 : Bool), x4 = u8 ∧ Sat 12 [(4, vB x4)] a ∧ Below w3.z w3 w) ?_ ?_
 ·refine Wg<|R z (lN (vs := [sl A0 N0 C0]) P_ D_ z z fid<|h6.row 0 1 z) ?_
  obtain ⟨rb, ec, hm7⟩ := bdS hu9
  refine E z (fc call111 z<|W_w18 (B := B) ec (zt' hBw h1.s)<|p1_0.e h1) ?_
  rintro _ wj ⟨s2, rfl⟩
  refine Rm z ?_
  rcases bs rb with hc0 | hc0
  ·refine Rh z hc0 (lN (vs := [sl A0 N0 C0]) P_ D_ z z fid<|(h6.e s2).row 0 1 z)<|Rh z hc0 (mv z) ?_
   obtain ⟨rd, ee, hmf⟩ := bdS (ifT hm7 hc0)
   refine Eg z z hc0 z (fc call150 z<|j_2 (B := B) ee (zt' hBw<|lt_ h1.s s2.s) (p1_0.g<|(h1.ag B).e s2) p2_0) ?_
   rintro _ wk ⟨sg, rfl⟩
   exact R z (pT z hc0 z)<|Ra z<|Wl (fun _ q => ⟨rd, som hmf, (q.k<|s1 z), (bup s2 sg)⟩)
  iterate 3 refine Nh z hc0 ?_
  exact R z (pF z hc0 z)<|Ra z<|Wl (fun _ q => ⟨false, som<|ifF hm7 hc0, (q.k<|s1 z), s2⟩)
 rintro ah wl ⟨x4, rfl, hSm, si⟩
 revert ah
 refine Wo ?_
 obtain rfl := som hma
 exact Wr<|d_ hr z ⟨(bup h1 si), z⟩
def Q21 (w0 : World) (B : Zone) (r : (Option (Int × Int))) (v : Value) (w' : World) : Prop := Bw w0 w' ∧ (fun r1 => ∃ (v1 : Value) (S1 : List Nat), v1 = v ∧ a_y 162 w' S1 v1 r1 ∧ (∀ k ∈ S1, w0.z ≤ k)) r
theorem d_o {x1 : Int} {x2 : Int} {res : (Option (Int × Int))} (hm : b_v x1 x2 = some res) (hBw : B ≤ w0.z) (p1_0 : inI x1) (p2_0 : inI x2) : j_ prog 190 [vI x1, vI x2] w0 (Q21 w0 B res) := by
 unfold b_v at hm
 refine goF func190 z z (lb z) fun fn hr => Ws<|Ra z<|Wn<|Ws<|Rm z<|Rm z<|R z (bP (parts := [(0, (.tmp 5)), (1, (.tmp 6))]) (cs := [vI x1, vI x2]) o_8 z z)<|E z (fb z) ?_
 rintro _ w1 ⟨rfl, h0⟩
 have h2 : Blk w1 w0.z [vI x1, vI x2] := h0.blk
 refine R z (f_G d_162 (fun _ h => by cases h) z)<|Ra z<|Wn ?_
 obtain rfl := som hm
 exact Wr<|d_ hr z ⟨h0.below, (.iface 162<|pt w0.z), [w0.z], z, (o_V h2 p1_0 p2_0 z), (f_ lr)⟩
def Q22 (w0 : World) (B : Zone) (r : (List UInt8) × (Option (Int × Int))) (v : Value) (w' : World) : Prop := Bw w0 w' ∧ un2 (fun r1 r2 => ∃ (a1 : Option Addr) (n1 c1 : Nat) (v2 : Value) (S2 : List Nat), v = .tuple #[sl a1 n1 c1, v2] ∧ b_ w' w'.z (sl a1 n1 c1) r1 ∧ a_y 162 w' S2 v2 r2 ∧ (∀ k ∈ S2, w0.z ≤ k)) r
theorem h_v {x1 : a_g} {b1 o1 : Nat} {x2 : Int} {x3 : Int} {res : (List UInt8) × (Option (Int × Int))} (hm : d_J x1 x2 x3 = some res) (hBw : B ≤ w0.z) (p1_0 : b_ w0 B (sl A0 N0 C0) x1.d.rules) (p1_1 : b_ w0 B (sl A1 N1 C1) x1.b) (hC1 : L_ w0 b1 o1 [sl A0 N0 C0, sl A1 N1 C1]) (hC1b : B b1) (p2_0 : inI x2) (p3_0 : inI x3) : j_ prog 203 [(.pointer (some ⟨b1, o1, none⟩)), vI x2, vI x3] w0 (Q22 w0 B res) := by
 unfold d_J at hm
 refine goF func203 z z (lb z) fun fn hr => Ws<|Ra z<|Ra z<|Wn<|Wq<|Ws<|Rm z<|Rm z<|R z (b_Q z)<|R z (fd e_o z)<|R z (l1 I_ z fid<|hC1.at (j := 1) z)<|R z (lnR i_ z p1_1)<|Rm z<|R z (sb_ z z)<|R z (a_i z z)<|Wn<|Wc z (fun hc0 => ?_) (fun hc0 => ?_)
 ·refine Ws<|Rm z ?_
  obtain ⟨re, e2, hm3⟩ := bdS (ifT hm hc0)
  refine E z (fc call190 z<|d_o (B := B) e2 hBw p2_0<|ii z) ?_
  rintro _ wf ⟨s1, v4, S5, rfl, h6, h7⟩
  refine Ra z<|Ra z<|Wn ?_
  obtain rfl := som hm3
  exact Wr<|a_z hr z z ⟨s1, none, 0, 0, v4, S5, z, (b_.mono (or_ onL an_)<|a_A s1.s), h6, h7⟩
 refine Wk<|Ws<|Rm z<|R z (b_Q z)<|R z (fd e_o z)<|R z (l1 I_ z fid<|hC1.at (j := 1) z)<|Rm z<|Rm z<|Rm z<|R z (add_ z z) ?_
 obtain ⟨xg, e8, hm9⟩ := bdS (ifF hm hc0)
 refine RX z (rX i_ z_5 z z p1_1 z z e8) ?_
 rintro _ ⟨aa, nb, cc, rfl, hd⟩
 refine Ra z<|Ra z<|Wn ?_
 obtain rfl := som hm9
 exact Wr<|a_z hr z z ⟨(br w0), aa, nb, cc, .nilIface, ([] : List Nat), z, (b_.mono hd hBw), d_q, an_⟩
theorem W_w3p {x1 : List UInt8} {x2 : Bool} {res : Int} (hm : g_q x1 x2 = some res) (hBw : B ≤ w0.z) (p1_0 : b_ w0 B (sl A0 N0 C0) x1) : j_ prog 204 [sl A0 N0 C0, vB x2] w0 (Q0 w0 B res) := by
 unfold g_q at hm
 refine goF func204 z z (lb z) fun fn hr => Ws<|Ra z<|Wn<|Wq<|Ws<|Rm z<|R z (lnR i_ z p1_0)<|R z (a_i z z)<|Wn<|Wc z (fun hc4 => ?_) (fun hc4 => ?_)
 ·refine Ws<|Ra z<|Wn ?_
  obtain rfl := som (ifT hm hc4)
  exact Wr<|d_ hr z ⟨(br w0), z, (ii z)⟩
 refine Wk<|Ws<|Ra z<|Wn<|Wq<|Ws<|Rm z<|R z (lnR i_ z p1_0)<|Rm z<|Wn ?_
 obtain ⟨u11, huc, hm8⟩ := bdS (ifF hm hc4)
 refine Wf (σ := Int) (ρ := Int) (fun (k5 : Nat) (x0 : Int) a w => Sat 38 [(0, sl A0 N0 C0), (1, vB x2), (5, vI x0), (11, vI (x1.length : Int)), (12, (vI ((k5 : Nat) : Int)))] a ∧ Below w0.z w0 w ∧ inI x0) (fun (x0 : Int) a w => Sat 38 [(5, vI x0)] a ∧ Below w0.z w0 w ∧ inI x0) (fun r ex a w => ex = .ret ∧ v_ prog fn (Q0 w0 B r) a w) huc ?_ ?_ ?_ ?_ ?_
 ·exact fun _ q => ⟨(q.k<|s5 z z z z z), (br w0), (ii z)⟩
 ·rintro k5 x0 a12 w1 o13 hk9 ⟨hSd, s6, h2⟩ hme
  refine Wu ?_ hSd
  refine Ws<|R z (lss z z)<|Wn<|Wq<|Wc z (fun _ => ?_) (fun hc => (N_ hk9 hc).elim)
  refine Wk<|Wq<|Wb<|Ws<|Rm z<|Ra z<|Wn<|Ws<|Rm z<|Wn ?_
  obtain ⟨uf, hua, hmg⟩ := bdS hme
  refine Wt (fun a w => ∃ (x3 : Int), x3 = uf ∧ Sat 38 [(0, sl A0 N0 C0), (1, vB x2), (5, vI x3), (11, vI (x1.length : Int)), (12, (vI ((k5 : Nat) : Int)))] a ∧ Below w1.z w1 w ∧ inI x3) ?_ ?_
  ·refine Wc z (fun hc7 => ?_) (fun hc7 => ?_)
   ·refine Wg<|Rm z<|R z (f_D z z (by decide))<|Rm z<|Rm z ?_
    have hb := p1_0.e s6
    refine R z (lnR i_ z hb)<|R z (sb_ z z)<|Rm z<|R z (sb_ z z) ?_
    obtain ⟨xh, ei, hmj⟩ := bdS (ifT hua hc7)
    refine RX z (at_ (α := UInt8) i_ z_5 z z z hb ei) ?_
    rintro _ ⟨b14, o15, cs16, rfl, hk, hl, h17⟩
    obtain rfl := u8 hl
    exact R z (l1 g_5 z fid<|hk.at0 z)<|R z (b_g d_5 d_3 z)<|R z (j_U z z)<|Ra z<|Wl (fun _ q => ⟨b_n .i64 (· ||| ·) (b_1 .i64 x0 8)<|byteI xh, som hmj, (q.k<|s5 z z z z z), (br w1), (l_s _ _ _)⟩)
   refine Wg<|Rm z<|R z (f_D z z (by decide))<|Rm z<|Rm z ?_
   obtain ⟨xm, en, hmo⟩ := bdS (ifF hua hc7)
   refine RX z (at_ (α := UInt8) i_ z_5 z z z (p1_0.e s6) en) ?_
   rintro _ ⟨b18, o19, cs1a, rfl, hp, hq, h1b⟩
   obtain rfl := u8 hq
   exact R z (l1 g_5 z fid<|hp.at0 z)<|R z (b_g d_5 d_3 z)<|R z (j_U z z)<|Ra z<|Wl (fun _ q => ⟨b_n .i64 (· ||| ·) (b_1 .i64 x0 8)<|byteI xm, som hmo, (q.k<|s5 z z z z z), (br w1), (l_s _ _ _)⟩)
  rintro ar w1c ⟨x3, rfl, hS1d, ss, ht⟩
  revert ar
  exact Wo<|Wg<|R z (inc_ hk9 (lt_ (b_.len p1_0) G_) z z)<|Rm z<|Wl (fun _ q => ⟨x3, (som hmg).symm, ⟨(q.k<|s5 z z z z z), (bup s6 ss), ht⟩⟩)
 ·rintro x0 a1e w1f ⟨hSu, sv, h2⟩
  refine Wu ?_ hSu
  refine Ws<|R z (lss z z)<|Wn<|Wq<|Wc z (fun hc => (O_ hc).elim) (fun _ => ?_)
  exact We (fun a' ha' => ⟨rfl, ⟨(Sat.weaken ha'<|s1 z), sv, h2⟩⟩)
 ·rintro x0 aw w1g rfl ⟨hS1h, sx, h2⟩
  have hmy := elL hm8
  revert aw
  refine Wo<|Ws<|Rm z<|Ra z<|Wn ?_
  obtain rfl := som hmy
  exact Wr<|d_ hr z ⟨sx, z, h2⟩
 rintro r1i ex1j a1k w1l rfl ⟨rfl, hqz⟩
 have hm10 := elR hm8
 obtain rfl := som hm10
 exact ⟨hqz, z⟩
def Q23 (w0 : World) (B : Zone) (r : Int × Int × (Option (Int × Int))) (v : Value) (w' : World) : Prop := Bw w0 w' ∧ un3 (fun r1 r2 r3 => ∃ (v1 : Value) (S1 : List Nat), v = .tuple #[vI r1, vI r2, v1] ∧ inI r1 ∧ inI r2 ∧ a_y 162 w' S1 v1 r3 ∧ (∀ k ∈ S1, w0.z ≤ k)) r
theorem h_w {x1 : a_g} {b1 o1 : Nat} {x2 : Int} {x3 : Int} {res : Int × Int × (Option (Int × Int))} (hm : d_K x1 x2 x3 = some res) (hBw : B ≤ w0.z) (p1_0 : b_ w0 B (sl A0 N0 C0) x1.d.rules) (p1_1 : b_ w0 B (sl A1 N1 C1) x1.b) (hC1 : L_ w0 b1 o1 [sl A0 N0 C0, sl A1 N1 C1]) (hC1b : B b1) (p2_0 : inI x2) (p3_0 : inI x3) : j_ prog 181 [(.pointer (some ⟨b1, o1, none⟩)), vI x2, vI x3] w0 (Q23 w0 B res) := by
 unfold d_K at hm
 refine goF func181 z z (lb z) fun fn hr => Ws<|Ra z<|Ra z<|Ra z<|Wn<|Ws<|Rm z<|R z (b_Q z)<|R z (fd l_b z)<|R z (fd a_7 z)<|R z (l1 a_e z fid<|hC1.at (j := 0) z)<|Rm z ?_
 obtain ⟨x5, eq, hmr⟩ := bdS hm
 refine RX z (at_ (α := c_) J_ q_ z z z p1_0 eq) ?_
 rintro _ ⟨b18, o19, cs1a, rfl, ht, hu, h1b⟩
 obtain ⟨a6, n7, c8, a9, na, cb, ac, nd, ce, af, ng, ch, rfl, h1c, h1d, hv, h1e, h1f, h1g, h1h⟩ := a_E hu
 refine R z (lN (vs := (vR x5 a6 n7 c8 a9 na cb ac nd ce af ng ch)) K_ q_ z z fid ht)<|E z (fa b_N) ?_
 rintro _ ws ⟨rfl, hi⟩
 have h0 := hi.below
 have hw : Blk ws w0.z [(Str.v (⟨[]⟩ : Str)), vI 0, vI 0, vB false, sl none 0 0, sl none 0 0, sl none 0 0, sl none 0 0] := hi.blk
 refine E0 (fs (cur' := (vR x5 a6 n7 c8 a9 na cb ac nd ce af ng ch)) q_ z z hw z (lb z) (oA z) z) ?_
 rintro _ w1i ⟨hj, sx⟩
 have h1 := sx.one
 refine Wn<|Ws<|Rm z<|Rm z<|R z (fd a_O z)<|R z (l1 g_3 z fid<|hj.at z) ?_
 have hk : ∀ k ∈ [w0.z], ¬ B k := or0 (f_ lr)  (p_ hBw)
 have hl := (h0.ag B).c h1<|h_ hk
 have hn := lt_ h0.s h1.s
 obtain ⟨r1j, r1k, ey, hmm⟩ := a_w hmr
 refine E z (fc call203 z<|h_v (B := B) ey (zt' hBw hn) (p1_0.g hl) (p1_1.g hl) ((hC1.e h0).c h1<|(h_ hk) _ hC1b) hC1b p3_0 hv) ?_
 rintro _ wz ⟨s3, a1l, n1m, c1n, v10, S11, rfl, h12, ho, h13⟩
 refine Rm z<|R z (ext_ z z)<|R z (ext_ z z)<|Ra z<|Ra z<|Wn<|Wq<|Ws<|Rm z<|R z (d_6 c_W z z ho)<|Wn<|Wc z (fun hc4 => ?_) (fun hc4 => ?_)
 ·refine Ws<|Rm z<|Rm z<|Ra z<|Ra z<|Ra z<|Wn ?_
  obtain rfl := som (ifT hmm hc4)
  exact Wr<|x_ hr z z z ⟨(bup (bM h0 h1<|f_ lr) s3), v10, S11, z, (ii z), p3_0, ho, (l_ h13 hn)⟩
 refine Wk<|Wq (Wd (X := noX) 0 (.rd 0 (.rd 1 (.rd 2 (.rd 4 (.rd 5 (.rd 6 (.rd 7 (.ef 3 (.rd 8 (.rd 9 (.rd 10 .done))))))))))) mo (by kernel_rfl) fun w1o s2 _ => dR z z (mv z)<|dR z z (fd c_h z) ?_)
 have hp := (hj.e s3).e s2
 refine dR z z (l1 g_4 z fid<|hp.at z)<|dR z z (mv z)<|dR z z (fd a_O z)<|dR z z (l1 g_3 z fid<|hp.at z)<|dR z z (add_ z z) ?_
 obtain ⟨r1p, e14, hm15⟩ := bdS (ifF hmm hc4)
 refine dE z z (fc call204 z<|W_w3p (B := wz.z) e14 (a_A s2.s)<|h12.e s2) (.inr fun _ _ h => z_<|h.1) ?_
 rintro _ w1q ⟨s16, rfl, h17⟩
 iterate 3 refine dR z z (asg z) ?_
 refine pD<|Wo ?_
 obtain rfl := som hm15
 exact Wr<|x_ hr z z z ⟨(bup (bup (bup (bM h0 h1<|f_ lr) s3) s2) s16), .nilIface, ([] : List Nat), z, h17, (iA _ _), d_q, an_⟩
def Q24 (w0 : World) (B : Zone) (r : Int × (Option (Int × Int))) (v : Value) (w' : World) : Prop := Bw w0 w' ∧ un2 (fun r1 r2 => ∃ (v1 : Value) (S1 : List Nat), v = .tuple #[vI r1, v1] ∧ inI r1 ∧ a_y 162 w' S1 v1 r2 ∧ (∀ k ∈ S1, w0.z ≤ k)) r
theorem W_w3q {x1 : a_g} {b1 o1 : Nat} {x2 : c_} {x3 : Int} {res : Int × (Option (Int × Int))} (hm : g_s x1 x2 x3 = some res) (hBw : B ≤ w0.z) (p1_0 : b_ w0 B (sl A0 N0 C0) x1.d.rules) (p1_1 : b_ w0 B (sl A1 N1 C1) x1.b) (hC1 : L_ w0 b1 o1 [sl A0 N0 C0, sl A1 N1 C1]) (hC1b : B b1) (p2_0 : x2.name.b.length ≤ LEN) (p2_1 : inI x2.kind) (p2_2 : inI x2.size) (p2_4 : b_ w0 B (sl A3 N3 C3) x2.bytes) (p2_5 : b_ w0 B (sl A4 N4 C4) x2.names) (p2_6 : b_ w0 B (sl A2 N2 C2) x2.tags) (p2_7 : b_ w0 B (sl A5 N5 C5) x2.kids) (p3_0 : inI x3) : j_ prog 182 [(.pointer (some ⟨b1, o1, none⟩)), (.agg #[Str.v x2.name, vI x2.kind, vI x2.size, vB x2.little, sl A3 N3 C3, sl A4 N4 C4, sl A2 N2 C2, sl A5 N5 C5]), vI x3] w0 (Q24 w0 B res) := by
 unfold g_s at hm
 refine goF func182 z z (lb z) fun fn hr => Ws<|E z (fb z) ?_
 rintro _ w2 ⟨rfl, h6⟩
 have h0 := h6.below
 have h7 : Blk w2 w0.z (vR x2 A3 N3 C3 A4 N4 C4 A2 N2 C2 A5 N5 C5) := h6.blk
 refine Ra z<|Ra z<|Wn<|Wq<|Ws<|R z (fd a_N z)<|R z (l1 I_ z fid<|h7.at z)<|R z (lnR i_ z<|p2_4.e h0)<|Rm z<|Wn ?_
 obtain ⟨u1b, hui, hm8⟩ := bdS hm
 refine Wf (σ := Unit) (ρ := Int × (Option<|Int × Int)) (fun (k9 : Nat) (_ : Unit) a w => Sat 52 [(0, (.pointer<|some ⟨b1, o1, none⟩)), (2, vI x3), (4, pt w0.z), (11, sl A3 N3 C3), (12, vI (x2.bytes.length : Int)), (13, (vI ((k9 : Nat) : Int)))] a ∧ Below w2.z w2 w) (fun (_ : Unit) a w => Sat 52 [(2, vI x3), (4, pt w0.z)] a ∧ Below w2.z w2 w) (fun r ex a w => ex = .ret ∧ v_ prog fn (Q24 w0 B r) a w) hui ?_ ?_ ?_ ?_ ?_
 ·exact fun _ q => ⟨(q.k<|s6 z z z z z z), (br w2)⟩
 ·rintro k9 _ a1c w1d o1e hka ⟨hSj, s1⟩ hmk
  refine Wu ?_ hSj
  refine Ws<|R z (lss z z)<|Wn<|Wq<|Wc z (fun _ => ?_) (fun hc => (N_ hka hc).elim)
  refine Wk<|Wq<|Wb<|Ws<|Rm z ?_
  obtain ⟨x1f, el, hmb⟩ := bdS hmk
  have hd := (h0.ag B).e s1
  refine RX z (at_ (α := UInt8) i_ z_5 z z z (p2_4.g hd) el) ?_
  rintro _ ⟨b1g, o1h, cs1i, rfl, hn, ho, h1j⟩
  obtain rfl := u8 ho
  refine R z (l1 g_5 z fid<|hn.at0 z)<|Ra z<|Ra z<|Wn<|Wq<|Ws<|Rm z<|Rm z<|R z (add_ z z)<|Rm z<|R z (b_Q z)<|R z (fd e_o z) ?_
  have he := (hC1.e h0).e s1
  refine R z (l1 I_ z fid<|he.at (j := 1) z) ?_
  have hf := p1_1.g hd
  refine R z (lnR i_ z hf)<|R z (a_W z z)<|Wn<|Wc z (fun hc3 => ?_) (fun hc3 => ?_)
  ·refine Ws<|Rm z<|Rm z ?_
   have hg := lt_ h0.s s1.s
   obtain ⟨r1k, em, hmp⟩ := bdS (ifT hmb hc3)
   refine E z (fc call190 z<|d_o (B := B) em (zt' hBw hg) p3_0<|ii z) ?_
   rintro _ w1l ⟨sq, vr, Ss, rfl, ht, hu⟩
   exact Ra z<|Ra z<|Wn<|Wr<|rtO<|qL (som hmp).symm<|a_z hr z z ⟨(bup (bup h0 s1) sq), vr, Ss, z, p3_0, ht, (l_ hu hg)⟩
  refine Wk<|Ws<|Rm z<|R z (b_Q z)<|R z (fd e_o z)<|R z (l1 I_ z fid<|he.at (j := 1) z)<|Rm z<|Rm z<|R z (add_ z z) ?_
  obtain ⟨x1m, ev, hmc⟩ := bdS (ifF hmb hc3)
  refine RX z (at_ (α := UInt8) i_ z_5 z z z hf ev) ?_
  rintro _ ⟨b1n, o1o, cs1p, rfl, hw, hx, h1q⟩
  obtain rfl := u8 hx
  refine R z (l1 g_5 z fid<|hw.at0 z)<|Rm z<|R z (nq z z)<|Wn<|Wc z (fun hc4 => ?_) (fun hc4 => ?_)
  ·refine Ws<|Rm z<|Rm z<|Rm z<|R z (add_ z z) ?_
   have hh := lt_ h0.s s1.s
   obtain ⟨r1r, ey, hmz⟩ := bdS (ifT hmc hc4)
   refine E z (fc call190 z<|d_o (B := B) ey (zt' hBw hh) (iA _ _)<|ii z) ?_
   rintro _ w1s ⟨s10, v11, S12, rfl, h13, h14⟩
   exact Ra z<|Ra z<|Wn<|Wr<|rtO<|qL (som hmz).symm<|a_z hr z z ⟨(bup (bup h0 s1) s10), v11, S12, z, p3_0, h13, (l_ h14 hh)⟩
  exact Wk<|Wg<|R z (inc_ hka (lt_ (b_.len p2_4) G_) z z)<|Rm z<|Wl (fun _ q => ⟨(), (som<|ifF hmc hc4).symm, ⟨(q.k<|s6 z z z z z z), s1⟩⟩)
 ·rintro _ a1t w1u ⟨hS15, s16⟩
  refine Wu ?_ hS15
  refine Ws<|R z (lss z z)<|Wn<|Wq<|Wc z (fun hc => (O_ hc).elim) (fun _ => ?_)
  exact We (fun a' ha' => ⟨rfl, ⟨(Sat.weaken ha'<|s2 z z), s16⟩⟩)
 ·rintro _ a17 w1v rfl ⟨hS1w, s5⟩
  have hm18 := elL hm8
  revert a17
  refine Wo<|Ws<|Rm z<|R z (fd a_N z)<|R z (l1 I_ z fid<|(h7.e s5).at z)<|R z (lnR i_ z<|p2_4.g<|(h0.ag B).e s5)<|R z (add_ z z)<|Ra z<|Ra z<|Wn ?_
  obtain rfl := som hm18
  exact Wr<|a_z hr z z ⟨(bup h0 s5), .nilIface, ([] : List Nat), z, (iA _ _), d_q, an_⟩
 rintro r1x ex1y a1z w20 rfl ⟨rfl, hq19⟩
 have hm1a := elR hm8
 obtain rfl := som hm1a
 exact ⟨hq19, z⟩
def Q25 (w0 : World) (B : Zone) (r : Val × Int × (Option (Int × Int))) (v : Value) (w' : World) : Prop := Bw w0 w' ∧ un3 (fun r1 r2 r3 => ∃ (a1 : Option Addr) (n1 c1 : Nat) (S1 : List Nat) (a2 : Option Addr) (n2 c2 : Nat) (S2 : List Nat) (v3 : Value) (S3 : List Nat), v = .tuple #[(.agg #[vI r1.number, sl a1 n1 c1, sl a2 n2 c2]), vI r2, v3] ∧ inI r1.number ∧ a_ w' S1 (sl a1 n1 c1) r1.bytes ∧ a_ w' S2 (sl a2 n2 c2) r1.items ∧ inI r2 ∧ a_y 162 w' S3 v3 r3 ∧ (∀ k ∈ S3, w0.z ≤ k) ∧ (S1 ++ S2).Nodup ∧ (∀ k ∈ (S1 ++ S2), w0.z ≤ k)) r
theorem W_w1h {x1 : a_g} {b1 o1 : Nat} {x2 : Int} {x3 : Int} {res : Val × Int × (Option (Int × Int))} (hm : e_W x1 x2 x3 = some res) (hBw : B ≤ w0.z) (p1_0 : b_ w0 B (sl A0 N0 C0) x1.d.rules) (p1_1 : b_ w0 B (sl A1 N1 C1) x1.b) (hC1 : L_ w0 b1 o1 [sl A0 N0 C0, sl A1 N1 C1]) (hC1b : B b1) (p2_0 : inI x2) (p3_0 : inI x3) : j_ prog 183 [(.pointer (some ⟨b1, o1, none⟩)), vI x2, vI x3] w0 (Q25 w0 B res) := by
 unfold e_W at hm
 refine goF func183 z z (lb z) fun fn hr => Ws<|E z (fa a_f) ?_
 rintro _ wk ⟨rfl, h8⟩
 have h0 := h8.below
 have h2 : Blk wk w0.z [vI 0, sl none 0 0, sl none 0 0] := h8.blk
 refine Ra z<|Ra z<|Wn<|Ws<|Rm z<|Rm z<|Rm z ?_
 obtain ⟨rz, r10, el, hm9⟩ := a_w hm
 refine E z (fc call203 z<|h_v (B := B) el (zt' hBw h0.s) (p1_0.e h0) (p1_1.e h0) (hC1.e h0) hC1b p2_0 p3_0) ?_
 rintro _ w11 ⟨s1, a12, n13, c14, vm, Sn, rfl, ho, ha, hb⟩
 refine Rm z<|R z (ext_ z z)<|R z (ext_ z z)<|Ra z<|Ra z<|Wn<|Wq<|Ws<|Rm z<|R z (d_6 c_W z z ha)<|Wn<|Wc z (fun hc4 => ?_) (fun hc4 => ?_)
 ·refine Ws<|R z (bP (parts := []) (cs := [vI 0, sl none 0 0, sl none 0 0]) Y_ z z)<|Rm z<|Rm z<|E0 (fs (cur' := [vI 0, sl none 0 0, sl none 0 0]) k_ z z (h2.e s1) z (lb z) (oA z) z) ?_
  rintro _ w15 ⟨hp, sq⟩
  have hc := sq.one
  refine Ra z<|Ra z<|Wn ?_
  obtain rfl := som (ifT hm9 hc4)
  exact Wr<|x_ hr (r_ y_ k_ z hp z) z z ⟨(bM (bup h0 s1) hc<|f_ lr), none, 0, 0, [], none, 0, 0, [], vm, Sn, z, (ii z), onL, onL, p2_0, (ha.c hc<|m_ hb h2.lt lr), (l_ hb h0.s), nd0, al0⟩
 refine Wk<|Ws<|E z (f0 (α := UInt8) C_) ?_
 rintro _ w16 ⟨a17, n18, c19, rfl, s3, ht⟩
 refine Rm z ?_
 obtain ⟨x1a, er, hms⟩ := bdS (ifF hm9 hc4)
 refine E z (fN (α := UInt8) C_ er z z ht X_<|ho.e s3) ?_
 rintro _ w1b ⟨Sd, a5, n6, c7, rfl, se, hu, hv, hf⟩
 refine R z (bP (parts := [(1, (.tmp 25))]) (cs := [vI 0, sl a5 n6 c7, sl none 0 0]) Y_ z z)<|Rm z<|Rm z<|R z (add_ z z) ?_
 have hg := mm1 h2.lt s1.s
 refine E0 (fs (cur' := [vI 0, sl a5 n6 c7, sl none 0 0]) k_ z z (((h2.e s1).e s3).c se<|djs hg) z (lb z) (oA z) z) ?_
 rintro _ w1c ⟨hw, sx⟩
 have hh := sx.one
 refine Ra z<|Ra z<|Wn ?_
 obtain rfl := som hms
 have hy : ∀ k ∈ Sd, k ∉ [w0.z] := or1 hf hg (Q_ (f_ h2.lt) (lt_ s1.s s3.s))
 have hi := lt_ h0.s s1.s
 have hj := m1 hi
 exact Wr<|x_ hr (r_ y_ k_ z hw z) z z ⟨(bM (bM (bup (bup h0 s1) s3) se hj) hh<|f_ lr), a5, n6, c7, Sd, none, 0, 0, [], .nilIface, ([] : List Nat), z, (ii z), (hu.c hh hy), onL, (iA _ _), d_q, an_, (na_ hv R_<|nmN _), (aa_ (a_b hf hj<|lt_ hi s3.s) an_)⟩
theorem W_w3r {x1 : List UInt8} {x2 : Int} {x3 : UInt8} {res : (List UInt8) × Int × Bool} (hm : g_r n x1 x2 x3 = some res) (hBw : B ≤ w0.z) (p1_0 : b_ w0 B (sl A0 N0 C0) x1) (p2_0 : inI x2) : j_ prog 189 [sl A0 N0 C0, vI x2, vU (byteI x3)] w0 (Q18 w0 B res) := by
 unfold g_r at hm
 refine goF func189 z z (lb z) fun fn hr => Ws<|Ra z<|Ra z<|Ra z<|Wn<|Ws<|E z (f0 (α := UInt8) C_) ?_
 rintro _ wg ⟨aj, nk, cl, rfl, s8, hv⟩
 refine Ra z<|Wn<|Wq<|Wq ?_
 obtain ⟨u1a, huw, hmx⟩ := bdS hm
 refine Wt (fun a w => ∃ (xm : Bool), xm = u1a ∧ Sat 58 [(0, sl A0 N0 C0), (1, vI x2), (2, vU<|byteI x3), (9, sl aj nk cl), (19, vB xm)] a ∧ Below wg.z wg w) ?_ ?_
 ·refine Wg<|Rm z<|R z (lss z z)<|Rm z ?_
  rcases bs (decide (x2 < 0)) with hc2 | hc2
  ·iterate 4 refine Nh z hc2 ?_
   exact R z (pT z hc2 z)<|Wl (fun _ q => ⟨true, som<|ifT huw hc2, (q.k<|s5 z z z z z), (br wg)⟩)
  exact Rh z hc2 (mv z)<|Rh z hc2 (mv z)<|Rh z hc2 (lnR i_ z<|p1_0.e s8)<|Rh z hc2 (a_i z z)<|R z (pF z hc2 z)<|Wl (fun _ q => ⟨decide ((x1.length : Int) < x2), som<|ifF huw hc2, (q.k<|s5 z z z z z), (br wg)⟩)
 rintro a1b w1 ⟨xm, rfl, hS2t, s6⟩
 revert a1b
 refine Wo<|Wc z (fun hcn => ?_) (fun hcn => ?_)
 ·refine Ws<|Rm z<|Rm z<|Ra z<|Ra z<|Ra z<|Wn ?_
  obtain rfl := som (ifT hmx hcn)
  exact Wr<|x_ hr z z z ⟨(bup s8 s6), aj, nk, cl, [w0.z], z, (hv.e s6), p2_0, X_, (f_ lr)⟩
 refine Wk<|Wq<|Ws<|Rm z<|Ra z<|Wn ?_
 obtain ⟨u2u, hu1c, hmy⟩ := bdS (ifF hmx hcn)
 refine b_4 (σ := (List UInt8) × Int) (ρ := (List UInt8) × Int × Bool) (fun s a w => un2 (fun xb x7 => ∃ a3 n4 c5 S0, Sat 58 [(0, sl A0 N0 C0), (1, vI x2), (2, vU<|byteI x3), (9, sl a3 n4 c5), (10, vI x7)] a ∧ Chg (· ∈ [w0.z]) w1 w ∧ a_ w S0 (sl a3 n4 c5) xb ∧ S0.Nodup ∧ (∀ k ∈ S0, k ∈ [w0.z] ∨ w1.z ≤ k) ∧ inI x7) s) (fun s a w => un2 (fun xb x7 => ∃ a3 n4 c5 S0, Sat 58 [(1, vI x2)] a ∧ Chg (· ∈ [w0.z]) w1 w ∧ a_ w S0 (sl a3 n4 c5) xb ∧ S0.Nodup ∧ (∀ k ∈ S0, k ∈ [w0.z] ∨ w1.z ≤ k) ∧ inI x7) s) (fun r ex a w => ex = .ret ∧ v_ prog fn (Q18 w0 B r) a w) hu1c ?_ ?_ ?_ ?_
 ·exact fun _ q => ⟨aj, nk, cl, [w0.z], (q.k<|s5 z z z z z), (cr [w0.z] w1), (hv.e s6), X_, (io sr), p2_0⟩
 ·rintro ⟨xb, x7⟩ a2v w9 o2w ⟨a3, n4, c5, S0, hS1d, sa, hc, hd, he, ho⟩ hm1e
  have hmz := a_h hm1e
  refine Wu ?_ hS1d
  refine Wq<|Ws<|Rm z<|Rm z ?_
  have h1f : ∀ k ∈ [w0.z], ¬ B k := or0 (f_ lr)  (p_ hBw)
  have h10 := ((s8.ag B).e s6).c sa<|h_ h1f
  have hh := p1_0.g h10
  refine R z (lnR i_ z hh)<|R z (lss z z)<|Wn<|Wc z (fun hcp => ?_) (fun hcp => ?_)
  ·refine Wk<|Wq<|Wb<|Wq<|Ws<|Rm z<|Rm z ?_
   obtain ⟨x2x, e1g, hm11⟩ := bdS (ifT hmz hcp)
   refine RX z (at_ (α := UInt8) i_ z_5 z z z hh e1g) ?_
   rintro _ ⟨b2y, o2z, cs30, rfl, h1h, h1i, h31⟩
   obtain rfl := u8 h1i
   refine R z (l1 g_5 z fid<|h1h.at0 z)<|Rm z<|R z (eql z z)<|Wn<|Wc z (fun hcq => ?_) (fun hcq => ?_)
   ·refine Ws<|Rm z<|Rm z<|R z (add_ z z)<|Ra z<|Ra z<|Ra z<|Wn ?_
    have h1j : ∀ k ∈ S0, w0.z ≤ k := or1 he (f_ lr) (a_Q (lt_ s8.s s6.s))
    exact Wr<|rtO<|qL (som<|ifT hm11 hcq).symm<|x_ hr z z z ⟨(bM (bup s8 s6) sa<|f_ lr), a3, n4, c5, S0, z, hc, (iA _ _), hd, h1j⟩
   refine Wk<|Wq<|Ws<|Rm z<|Rm z ?_
   obtain ⟨x32, e1k, hm1l⟩ := bdS (ifF hm11 hcq)
   refine RX z (at_ (α := UInt8) i_ z_5 z z z hh e1k) ?_
   rintro _ ⟨b33, o34, cs35, rfl, h1m, h1n, h36⟩
   obtain rfl := u8 h1n
   refine R z (l1 g_5 z fid<|h1m.at0 z)<|R z (eql z z)<|Wn ?_
   obtain ⟨u1o, hu12, hm13⟩ := bdS hm1l
   refine Wt (fun a w => ∃ (xf : Int), Sum.inl xf = u1o ∧ Sat 58 [(0, sl A0 N0 C0), (1, vI x2), (2, vU<|byteI x3), (9, sl a3 n4 c5), (10, vI xf)] a ∧ Below w9.z w9 w ∧ inI xf) ?_ ?_
   ·refine Wc z (fun hcr => ?_) (fun hcr => ?_)
    ·have hm14 := ifT hu12 hcr
     refine Ws<|Rm z<|R z (add_ z z)<|Ra z<|Wn<|Ws<|Rm z<|Rm z<|R z (lnR i_ z hh)<|R z (eql z z)<|Wn<|Wc z (fun hcs => ?_) (fun hcs => ?_)
     ·obtain rfl := som (ifT hm14 hcs)
      have hm1p := elR hm13
      have h1q : ∀ k ∈ S0, k ∈ [w0.z] ∨ w1.z ≤ k := or1 he (io sr) (n_ lr)
      have h1r : Chg (· ∈ [w0.z]) w1 w9 := cM (cr [w0.z] w1) sa (io sr)
      exact We<|exO z (fun a' ha' => b_0 (som hm1p).symm ⟨a3, n4, c5, S0, (Sat.weaken ha'<|s1 z), h1r, hc, hd, h1q, (iA _ _)⟩)
     exact b_3 (fun _ q => ⟨e_ x7 1, som<|ifF hm14 hcs, (q.k<|s5 z z z z z), (br w9), (iA _ _)⟩)
    exact b_3 (fun _ q => ⟨x7, som<|ifF hu12 hcr, (q.k<|s5 z z z z z), (br w9), ho⟩)
   rintro a1s w15 ⟨xf, rfl, hS37, si, h38⟩
   have hm1t := elL hm13
   revert a1s
   refine Wo<|Wg<|Rm z<|Rm z<|Rm z ?_
   obtain ⟨x1u, e1v, hm1w⟩ := bdS hm1t
   refine RX z (at_ (α := UInt8) i_ z_5 z z z (p1_0.g<|h10.e si) e1v) ?_
   rintro _ ⟨b39, o3a, cs3b, rfl, h1x, h1y, h3c⟩
   obtain rfl := u8 h1y
   refine R z (l1 g_5 z fid<|h1x.at0 z)<|E z (fS [(.tmp 53)] C_ z z z (a_x z) (lb z)<|lb z) ?_
   rintro _ w16 ⟨rfl, ht⟩
   have hu := ht.below
   have h1z : Blk w16 w15.z [vU (byteI x1u)] := ht.blk
   have h3d := c_1 ht a_T
   obtain ⟨x20, e21, hm22⟩ := bdS hm1w
   refine E z (b_b (α := UInt8) C_ e21 z z ((hc.e si).e hu) hd h1z a_T an_ R_) ?_
   rintro _ w23 ⟨S17, a24, n25, c26, rfl, s27, h28, h29, h2a⟩
   refine Ra z<|Wn<|Wg<|Rm z<|R z (add_ z z)<|Ra z<|Wl ?_
   have h18 : ∀ k ∈ S0, k ∈ [w0.z] ∨ w1.z ≤ k := or1 he (io sr) (n_ lr)
   have h2b : ∀ k ∈ S17, k ∈ [w0.z] ∨ w1.z ≤ k := or2 h2a h18 an_ (n_ (lt_ (lt_ sa.s si.s) hu.s))
   have h2c : Chg (· ∈ [w0.z]) w1 w9 := cM (cr [w0.z] w1) sa (io sr)
   have h2d : Chg (· ∈ [w0.z]) w1 w15 := E_ h2c si
   have h2e : Chg (· ∈ [w0.z]) w1 w16 := E_ h2d hu
   have h2f : Chg (· ∈ [w0.z]) w1 w23 := cM h2e s27 h18
   exact fun _ q => ⟨(x20, e_ xf 1), (som hm22).symm, ⟨a24, n25, c26, S17, (q.k<|s5 z z z z z), h2f, h28, h29, h2b, (iA _ _)⟩⟩
  have h2g : ∀ k ∈ S0, k ∈ [w0.z] ∨ w1.z ≤ k := or1 he (io sr) (n_ lr)
  have h2h : Chg (· ∈ [w0.z]) w1 w9 := cM (cr [w0.z] w1) sa (io sr)
  exact We (fun a' ha' => b_0 (som<|ifF hmz hcp).symm ⟨a3, n4, c5, S0, (Sat.weaken ha'<|s1 z), h2h, hc, hd, h2g, ho⟩)
 ·rintro ⟨xb, x7⟩ a2i w2j rfl ⟨a3, n4, c5, S0, hS3e, s19, hc, hd, he, ho⟩
  have hm2k := elL hmy
  have hm2l := a_h hm2k
  revert a2i
  refine Wo<|Ws<|E z (f0 (α := UInt8) C_) ?_
  rintro _ w3f ⟨a2m, n2n, c2o, rfl, s2p, h2q⟩
  refine Rm z<|Ra z<|Ra z<|Ra z<|Wn ?_
  obtain rfl := som hm2l
  exact Wr<|x_ hr z z z ⟨(bup (bM (bup s8 s6) s19<|f_ lr) s2p), a2m, n2n, c2o, [w2j.z], z, h2q, p2_0, X_, (m1<|lt_ (lt_ s8.s s6.s) s19.s)⟩
 rintro r3g ex3h a3i w3j rfl ⟨rfl, hq2r⟩
 have hm2s := elR hmy
 obtain rfl := som hm2s
 exact ⟨hq2r, z⟩
def Q26 (w0 : World) (B : Zone) (S2_1 : List Nat) (S2_2 : List Nat) (r : Val × Int × (Option (Int × Int))) (v : Value) (w' : World) : Prop := Chg (· ∈ (S2_1 ++ S2_2)) w0 w' ∧ un3 (fun r1 r2 r3 => ∃ (a1 : Option Addr) (n1 c1 : Nat) (S1 : List Nat) (a2 : Option Addr) (n2 c2 : Nat) (S2 : List Nat) (v3 : Value) (S3 : List Nat), v = .tuple #[(.agg #[vI r1.number, sl a1 n1 c1, sl a2 n2 c2]), vI r2, v3] ∧ inI r1.number ∧ a_ w' S1 (sl a1 n1 c1) r1.bytes ∧ a_ w' S2 (sl a2 n2 c2) r1.items ∧ inI r2 ∧ a_y 162 w' S3 v3 r3 ∧ (∀ k ∈ S3, w0.z ≤ k) ∧ (S1 ++ S2).Nodup ∧ (∀ k ∈ (S1 ++ S2), k ∈ (S2_1 ++ S2_2) ∨ w0.z ≤ k)) r
structure j_6 (f : a_g → Int → Int → Option (Val × Int × (Option (Int × Int)))) : Prop where
  run : ∀ {A0 A1 : Option Addr} {N0 C0 N1 C1 b1 o1 : Nat} {B : Zone} {x1 : a_g} {x2 : Int} {x3 : Int} {res : Val × Int × (Option (Int × Int))} {w0 : World} (hm : f x1 x2 x3 = some res) (hBw : B ≤ w0.z) (p1_0 : b_ w0 B (sl A0 N0 C0) x1.d.rules) (p1_1 : b_ w0 B (sl A1 N1 C1) x1.b) (hC1 : L_ w0 b1 o1 [sl A0 N0 C0, sl A1 N1 C1]) (hC1b : B b1) (p2_0 : inI x2) (p3_0 : inI x3), j_ prog 154 [(.pointer (some ⟨b1, o1, none⟩)), vI x2, vI x3] w0 (Q25 w0 B res)
structure j_7 (f : a_g → c_ → Int → Option (Val × Int × (Option (Int × Int)))) : Prop where
  run : ∀ {A0 A1 A3 A4 A2 A5 : Option Addr} {N0 C0 N1 C1 b1 o1 N3 C3 N4 C4 N2 C2 N5 C5 : Nat} {B : Zone} {x1 : a_g} {x2 : c_} {x3 : Int} {res : Val × Int × (Option (Int × Int))} {w0 : World} (hm : f x1 x2 x3 = some res) (hBw : B ≤ w0.z) (p1_0 : b_ w0 B (sl A0 N0 C0) x1.d.rules) (p1_1 : b_ w0 B (sl A1 N1 C1) x1.b) (hC1 : L_ w0 b1 o1 [sl A0 N0 C0, sl A1 N1 C1]) (hC1b : B b1) (p2_0 : x2.name.b.length ≤ LEN) (p2_1 : inI x2.kind) (p2_2 : inI x2.size) (p2_4 : b_ w0 B (sl A3 N3 C3) x2.bytes) (p2_5 : b_ w0 B (sl A4 N4 C4) x2.names) (p2_6 : b_ w0 B (sl A2 N2 C2) x2.tags) (p2_7 : b_ w0 B (sl A5 N5 C5) x2.kids) (p3_0 : inI x3), j_ prog 184 [(.pointer (some ⟨b1, o1, none⟩)), (.agg #[Str.v x2.name, vI x2.kind, vI x2.size, vB x2.little, sl A3 N3 C3, sl A4 N4 C4, sl A2 N2 C2, sl A5 N5 C5]), vI x3] w0 (Q25 w0 B res)
structure j_8 (f : a_g → Val → (List Int) → Int → Option (Val × Int × (Option (Int × Int)))) : Prop where
  run : ∀ {A0 A1 AD AH A9 : Option Addr} {N0 C0 N1 C1 b1 o1 ND CD NH CH N9 C9 : Nat} {S2_1 S2_2 : List Nat} {B : Zone} {x1 : a_g} {x2 : Val} {x3 : List Int} {x4 : Int} {res : Val × Int × (Option (Int × Int))} {w0 : World} (hm : f x1 x2 x3 x4 = some res) (hBw : B ≤ w0.z) (p1_0 : b_ w0 B (sl A0 N0 C0) x1.d.rules) (p1_1 : b_ w0 B (sl A1 N1 C1) x1.b) (hC1 : L_ w0 b1 o1 [sl A0 N0 C0, sl A1 N1 C1]) (hC1b : B b1) (p2_0 : inI x2.number) (p2_1 : a_ w0 S2_1 (sl AD ND CD) x2.bytes) (p2_1n : S2_1.Nodup) (p2_1g : ∀ k ∈ S2_1, ¬ B k) (p2_2 : a_ w0 S2_2 (sl AH NH CH) x2.items) (p2_2n : S2_2.Nodup) (p2_2g : ∀ k ∈ S2_2, ¬ B k) (p2_2d1 : ∀ k ∈ S2_2, k ∉ S2_1) (p3_0 : b_ w0 B (sl A9 N9 C9) x3) (p4_0 : inI x4), j_ prog 185 [(.pointer (some ⟨b1, o1, none⟩)), (.agg #[vI x2.number, sl AD ND CD, sl AH NH CH]), sl A9 N9 C9, vI x4] w0 (Q26 w0 B S2_1 S2_2 res)
structure j_9 (f : a_g → c_ → Int → Option (Val × Int × (Option (Int × Int)))) : Prop where
  run : ∀ {A0 A1 A3 A4 A2 A5 : Option Addr} {N0 C0 N1 C1 b1 o1 N3 C3 N4 C4 N2 C2 N5 C5 : Nat} {B : Zone} {x1 : a_g} {x2 : c_} {x3 : Int} {res : Val × Int × (Option (Int × Int))} {w0 : World} (hm : f x1 x2 x3 = some res) (hBw : B ≤ w0.z) (p1_0 : b_ w0 B (sl A0 N0 C0) x1.d.rules) (p1_1 : b_ w0 B (sl A1 N1 C1) x1.b) (hC1 : L_ w0 b1 o1 [sl A0 N0 C0, sl A1 N1 C1]) (hC1b : B b1) (p2_0 : x2.name.b.length ≤ LEN) (p2_1 : inI x2.kind) (p2_2 : inI x2.size) (p2_4 : b_ w0 B (sl A3 N3 C3) x2.bytes) (p2_5 : b_ w0 B (sl A4 N4 C4) x2.names) (p2_6 : b_ w0 B (sl A2 N2 C2) x2.tags) (p2_7 : b_ w0 B (sl A5 N5 C5) x2.kids) (p3_0 : inI x3), j_ prog 186 [(.pointer (some ⟨b1, o1, none⟩)), (.agg #[Str.v x2.name, vI x2.kind, vI x2.size, vB x2.little, sl A3 N3 C3, sl A4 N4 C4, sl A2 N2 C2, sl A5 N5 C5]), vI x3] w0 (Q25 w0 B res)
structure j_a (f : a_g → c_ → Int → Option (Val × Int × (Option (Int × Int)))) : Prop where
  run : ∀ {A0 A1 A3 A4 A2 A5 : Option Addr} {N0 C0 N1 C1 b1 o1 N3 C3 N4 C4 N2 C2 N5 C5 : Nat} {B : Zone} {x1 : a_g} {x2 : c_} {x3 : Int} {res : Val × Int × (Option (Int × Int))} {w0 : World} (hm : f x1 x2 x3 = some res) (hBw : B ≤ w0.z) (p1_0 : b_ w0 B (sl A0 N0 C0) x1.d.rules) (p1_1 : b_ w0 B (sl A1 N1 C1) x1.b) (hC1 : L_ w0 b1 o1 [sl A0 N0 C0, sl A1 N1 C1]) (hC1b : B b1) (p2_0 : x2.name.b.length ≤ LEN) (p2_1 : inI x2.kind) (p2_2 : inI x2.size) (p2_4 : b_ w0 B (sl A3 N3 C3) x2.bytes) (p2_5 : b_ w0 B (sl A4 N4 C4) x2.names) (p2_6 : b_ w0 B (sl A2 N2 C2) x2.tags) (p2_7 : b_ w0 B (sl A5 N5 C5) x2.kids) (p3_0 : inI x3), j_ prog 187 [(.pointer (some ⟨b1, o1, none⟩)), (.agg #[Str.v x2.name, vI x2.kind, vI x2.size, vB x2.little, sl A3 N3 C3, sl A4 N4 C4, sl A2 N2 C2, sl A5 N5 C5]), vI x3] w0 (Q25 w0 B res)
structure j_b (f : a_g → c_ → Int → Option (Val × Int × (Option (Int × Int)))) : Prop where
  run : ∀ {A0 A1 A3 A4 A2 A5 : Option Addr} {N0 C0 N1 C1 b1 o1 N3 C3 N4 C4 N2 C2 N5 C5 : Nat} {B : Zone} {x1 : a_g} {x2 : c_} {x3 : Int} {res : Val × Int × (Option (Int × Int))} {w0 : World} (hm : f x1 x2 x3 = some res) (hBw : B ≤ w0.z) (p1_0 : b_ w0 B (sl A0 N0 C0) x1.d.rules) (p1_1 : b_ w0 B (sl A1 N1 C1) x1.b) (hC1 : L_ w0 b1 o1 [sl A0 N0 C0, sl A1 N1 C1]) (hC1b : B b1) (p2_0 : x2.name.b.length ≤ LEN) (p2_1 : inI x2.kind) (p2_2 : inI x2.size) (p2_4 : b_ w0 B (sl A3 N3 C3) x2.bytes) (p2_5 : b_ w0 B (sl A4 N4 C4) x2.names) (p2_6 : b_ w0 B (sl A2 N2 C2) x2.tags) (p2_7 : b_ w0 B (sl A5 N5 C5) x2.kids) (p3_0 : inI x3), j_ prog 188 [(.pointer (some ⟨b1, o1, none⟩)), (.agg #[Str.v x2.name, vI x2.kind, vI x2.size, vB x2.little, sl A3 N3 C3, sl A4 N4 C4, sl A2 N2 C2, sl A5 N5 C5]), vI x3] w0 (Q25 w0 B res)
abbrev d_Q (n : Nat) : Prop := j_6 (a_4 n).impl_fileReader_value ∧ j_7 (a_4 n).impl_fileReader_array ∧ j_8 (a_4 n).impl_fileReader_items ∧ j_9 (a_4 n).impl_fileReader_choice ∧ j_a (a_4 n).impl_fileReader_option ∧ j_b (a_4 n).impl_fileReader_checked
end Go.Vw

