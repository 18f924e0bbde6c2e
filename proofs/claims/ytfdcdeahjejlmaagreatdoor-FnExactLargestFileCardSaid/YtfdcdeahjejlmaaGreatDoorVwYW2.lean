import Derived.Test.YtfdcdeahjejlmaaGreatDoorVwYW1
set_option linter.unusedVariables false
namespace Go.Vw
open Go.RowKit Dat Go.Proofs
open Go.Proofs.Tryz
open Go.Vw renaming WC_seq → Wq, WC_region → Wg, WC.of_KC → Wo, WL_nil → Wl, WC_cond → Wc, WC_ret → Wr, WC_run → Wu, rd_pickT → pT, rd_pickF → pF, rd_field → fd, rd_load1 → l1, rd_loadN → lN, rd_move → mv, rd_assign → asg, rd_lenR → lnR, rd_lss → lss, rd_eql → eql, rd_extract → ext_, rd_buildP → bP, rd_add → add_, rd_inc → inc_, rd_not → not_, rd_at → at_, ef_call → fc, ef_store → fs, ef_box → fb, ef_alloc → fa, sub_refl → sr, crefl → cr, cchgM → cM, bchgM → bM, inI_sub → iS, inI_add → iA, brefl → br, oneAll → oA, bsplit → bs, ltge → lg, inor → io, rd_neq → nq, rd_lenT → lnT, rd_sub → sb_
variable {A0 : Option Addr} {N0 C0 : Nat} {B : Nat} {w0 : World} {A9 : Option Addr} {A8 : Option Addr} {AA : Option Addr} {AB : Option Addr} {N9 C9 : Nat} {N8 C8 : Nat} {NA CA : Nat} {NB CB : Nat} {A3 : Option Addr} {N3 C3 : Nat} {n : Nat} {AD : Option Addr} {ND CD : Nat} {A6 : Option Addr} {N6 C6 : Nat} {AG : Option Addr} {NG CG : Nat} {A2 : Option Addr} {A4 : Option Addr} {A1 : Option Addr} {A5 : Option Addr} {N2 C2 : Nat} {N4 C4 : Nat} {N1 C1 : Nat} {N5 C5 : Nat} {A7 : Option Addr} {N7 C7 : Nat} {AH : Option Addr} {NH CH : Nat} {AC : Option Addr} {NC CC : Nat}
theorem T_w0y (ih : I_spec_l11Read n) : S_spec_l11Choice (B_spec_l11Choice n (F_spec_l11Read n)) := by
 obtain ⟨ih0, ih1, ih2, ih3, ih4⟩ := ih
 constructor
 intro B N0 C0 N2 C2 N4 C4 N1 C1 N5 C5 N7 C7 A0 A2 A4 A1 A5 A7 x1 x2 x3 x4 res w0 hm hBw p1_0 p2_0 p2_1 p2_2 p2_4 p2_5 p2_6 p2_7 p3_0 p4_0
 unfold B_spec_l11Choice at hm
 refine goF func171 z z (lb z) fun fn hr => Ws (E z (fb z) ?_)
 rintro _ w1v ⟨rfl, h1w⟩
 have h15 := h1w.below
 have h2o : Blk w1v w0.z [sl A0 N0 C0] := h1w.blk
 refine E z (fb z) ?_
 rintro _ w1n ⟨rfl, h1x⟩
 have h14 := h1x.below
 have h2p : Blk w1n w1v.z (vR x2 A2 N2 C2 A4 N4 C4 A1 N1 C1 A5 N5 C5) := h1x.blk
 refine E z (fa zero_118) ?_
 rintro _ w2q ⟨rfl, h1y⟩
 have h13 := h1y.below
 have h17 : Blk w2q w1n.z [vI 0, sl none 0 0, sl none 0 0] := h1y.blk
 refine Ra z (Ra z (Wn (Wq (WC_draw (X := noX) 0 (.rd 0 (.rd 1 (.rd 2 (.rd 3 (.rd 4 (.rd 5 (.rd 6 (.ef 7 (.rd 8 (.rd 9 (.rd 10 (.rd 11 (.rd 12 (.rd 13 (.rd 14 .done))))))))))))))) mo (by kernel_rfl) fun w3q s10 _ => ?_))))
 have h1z := ((h2o.ext h14).ext h13).ext s10
 refine dR z z (lN (vs := [sl A0 N0 C0]) g_95 z_95 z z fid (h1z.row 0 1 z)) (dR z z (fd f_144_7 z) ?_)
 have h20 := (h2p.ext h13).ext s10
 refine dR z z (l1 g_142 z fid (h20.at z)) ?_
 obtain ⟨x3r, e2r, hm2s⟩ := bdS hm
 have h21 := (((p2_7.ext h15).ext h14).ext h13).ext s10
 refine dRX z z (at_ (α := Int) d_142 z_3 z z z h21 e2r) ?_
 rintro _ ⟨b3s, o3t, cs3u, rfl, h2t, h2u, h3v⟩
 obtain ⟨rfl, h2v⟩ := Int_open h2u
 refine dR z z (l1 g_3 z fid (h2t.at0 z)) (dR z z (mv z) (dR z z (mv z) ?_))
 have h22 := (((p1_0.ext h15).ext h14).ext h13).ext s10
 have h23 := (((p3_0.ext h15).ext h14).ext h13).ext s10
 have h1f := lt_ h15.size h14.size
 have h24 := lt_ (lt_ h1f h13.size) s10.size
 obtain ⟨r25, r3w, r3x, e2w, hm26⟩ := bd3S hm2s
 refine dE z z (fc call166 z (W_w0d (B := B) e2w (lt_ hBw h24) h22 h2v h23 p4_0)) (.inr fun _ _ h => chgB (h.1)) ?_
 rintro _ w3y ⟨s11, rfl, h1o, h2x⟩
 refine dR z z (mv z) ?_
 iterate 3 refine dR z z (ext_ z z) ?_
 iterate 3 refine dR z z (asg z) ?_
 refine PR_done (Wo (Wq (Ws (Rm z (R z (not_ z) (Wn (Wc z (fun hc1p => ?_) (fun hc1p => ?_))))))))
 ·refine Ws (R z (bP (parts := []) (cs := [vI 0, sl none 0 0, sl none 0 0]) build_118 z z) (Rm z (E0 (fs (cur' := [vI 0, sl none 0 0, sl none 0 0]) z_118 z z ((h17.ext s10).ext s11) z (lb z) (oA z) z) ?_)))
  rintro _ w3z ⟨h2y, s2z⟩
  refine Ra z (Ra z (Wn ?_))
  obtain rfl := som (ifT hm26 hc1p)
  exact Wr (ret3 hr (resC g_118 z_118 z h2y z) z z ⟨(bM (bup (bup (bup (bup h15 h14) h13) s10) s11) s2z.one (mem1le h1f)), none, 0, 0, [], none, 0, 0, [], z, (ii z), onL, onL, p4_0, (ii z), nd0, al0⟩)
 refine Wk (Wq (Ws ?_))
 have h27 := h20.ext s11
 refine R z (lN (vs := (vR x2 A2 N2 C2 A4 N4 C4 A1 N1 C1 A5 N5 C5)) g_144 z_144 z z fid (h27.row 0 8 z)) (Rm z ?_)
 have h28 := ((((p2_4.ext h15).ext h14).ext h13).ext s10).ext s11
 have h29 := ((((p2_5.ext h15).ext h14).ext h13).ext s10).ext s11
 have h2a := ((((p2_6.ext h15).ext h14).ext h13).ext s10).ext s11
 have h2b := h21.ext s11
 have h2c := lt_ h24 s11.size
 obtain ⟨r40, e30, hm2d⟩ := bdS (ifF hm26 hc1p)
 refine E z (fc call201 z (W_w0e (B := B) e30 (lt_ hBw h2c) p2_0 p2_1 p2_2 h28 h29 h2a h2b h1o (ii z))) ?_
 rintro _ w41 ⟨s12, rfl, h42⟩
 refine R z (lss z z) (Wn (Wc z (fun hc1q => ?_) (fun hc1q => ?_)))
 ·refine Ws (R z (bP (parts := []) (cs := [vI 0, sl none 0 0, sl none 0 0]) build_118 z z) (Rm z (E0 (fs (cur' := [vI 0, sl none 0 0, sl none 0 0]) z_118 z z (((h17.ext s10).ext s11).ext s12) z (lb z) (oA z) z) ?_)))
  rintro _ w43 ⟨h31, s32⟩
  refine Ra z (Ra z (Wn ?_))
  obtain rfl := som (ifT hm2d hc1q)
  exact Wr (ret3 hr (resC g_118 z_118 z h31 z) z z ⟨(bM (bup (bup (bup (bup (bup h15 h14) h13) s10) s11) s12) s32.one (mem1le h1f)), none, 0, 0, [], none, 0, 0, [], z, (ii z), onL, onL, p4_0, (ii z), nd0, al0⟩)
 refine Wk (Ws (R z (lN (vs := [sl A0 N0 C0]) g_95 z_95 z z fid (((h1z.ext s11).ext s12).row 0 1 z)) (R z (lN (vs := (vR x2 A2 N2 C2 A4 N4 C4 A1 N1 C1 A5 N5 C5)) g_144 z_144 z z fid ((h27.ext s12).row 0 8 z)) (Rm z (Rm z (Rm z ?_))))))
 have h1g := lt_ h2c s12.size
 obtain ⟨r2e, r33, r34, e35, hm36⟩ := bd3S (ifF hm2d hc1q)
 refine E z (fc call170 z (ih1.run (B := B) e35 (lt_ hBw h1g) ((h22.ext s11).ext s12) p2_0 p2_1 p2_2 (h28.ext s12) (h29.ext s12) (h2a.ext s12) (h2b.ext s12) h1o (ii z) ((h23.ext s11).ext s12) h2x)) ?_
 rintro _ w16 ⟨s1h, a18, n19, c1a, S37, a1b, n1c, c1d, S38, rfl, h39, h2f, h2g, h3a, h3b, h1r, h1i⟩
 refine Rm z ?_
 iterate 3 refine R z (ext_ z z) ?_
 refine E z (fa zero_118) ?_
 rintro _ w3c ⟨rfl, h2h⟩
 have h1j := h2h.below
 have h3d : Blk w3c w16.z [vI 0, sl none 0 0, sl none 0 0] := h2h.blk
 refine E0 (fs (cur' := [vI r2e.number, sl a18 n19 c1a, sl a1b n1c c1d]) z_118 z z h3d z (lb z) (oA z) z) ?_
 rintro _ w1k ⟨h2i, s3e⟩
 have h1l := s3e.one
 refine Ra z (Ra z (Wn (Wq (Ws (Rm z (R z (eql z z) (Wn ?_)))))))
 obtain ⟨u3f, hu2j, hm3g⟩ := bdS hm36
 refine WC_cut (fun a w => ∃ (x1e : Int), x1e = u3f ∧ Sat 56 [(8, pt w1n.z), (14, pt w16.z), (15, vI r33), (16, vI r34)] a ∧ Chg (· ∈ [w16.z]) w1k w ∧ inI x1e ∧ Blk w w16.z [vI x1e, sl a18 n19 c1a, sl a1b n1c c1d]) ?_ ?_
 ·refine Wc z (fun hc1s => ?_) (fun hc1s => ?_)
  ·refine Wg (Rm z (R z (fd f_118_0 z) (E0 (fs (cur' := [vI r25, sl a18 n19 c1a, sl a1b n1c c1d]) z_3 z z h2i z (lb z) (oA z) z) ?_)))
   rintro _ w3h ⟨h3i, s3j⟩
   refine Wl ?_
   have h3k : Chg (· ∈ [w16.z]) w1k w3h := cM (cr [w16.z] w1k) s3j.one (io sr)
   exact fun _ q => ⟨r25, som (ifT hu2j hc1s), (q.k (s4 z z z z)), h3k, h1o, h3i⟩
  exact WC_skip (fun _ q => ⟨r2e.number, som (ifF hu2j hc1s), (q.k (s4 z z z z)), (cr [w16.z] w1k), h39, h2i⟩)
 rintro a3l w44 ⟨x1e, rfl, hS45, s1m, h3m, h3n⟩
 revert a3l
 refine Wo (Ws (R z (lN (vs := [vI x1e, sl a18 n19 c1a, sl a1b n1c c1d]) g_118 z_118 z z fid (h3n.row 0 3 z)) (Rm z (Rm z ?_))))
 have h1t := lt_ (lt_ s10.size s11.size) s12.size
 have h2k := mm1 h17.lt (lt_ h1t s1h.size)
 refine E0 (fs (cur' := [vI x1e, sl a18 n19 c1a, sl a1b n1c c1d]) z_118 z z (((((((h17.ext s10).ext s11).ext s12).ext s1h).ext h1j).chg h1l (djs h2k)).chg s1m (djs h2k)) z (lb z) (oA z) z) ?_
 rintro _ w46 ⟨h3o, s3p⟩
 have h1u := s3p.one
 refine Ra z (Ra z (Wn ?_))
 obtain rfl := som hm3g
 have h2l := mnr (ownS.lt h2f)
 have h2m := mnr (ownS.lt h2g)
 have h2n := mem1le (lt_ h1g s1h.size)
 exact Wr (ret3 hr (resC g_118 z_118 z h3o z) z z ⟨(bM (bM (bM (bup (bup (bup (bup (bup (bup (bup h15 h14) h13) s10) s11) s12) s1h) h1j) h1l h2n) s1m h2n) h1u (mem1le h1f)), a18, n19, c1a, S37, a1b, n1c, c1d, S38, z, h3m, ((((h2f.ext h1j).chg h1l (dj_symm h2l)).chg s1m (dj_symm h2l)).chg h1u (o0n1 (all_left h1i) h17.lt h1t)), ((((h2g.ext h1j).chg h1l (dj_symm h2m)).chg s1m (dj_symm h2m)).chg h1u (o0n1 (all_right h1i) h17.lt h1t)), h3a, h3b, (nd_app (nd_left h1r) (nd_right h1r) (nd_dj h1r)), (all_app (o0le (all_left h1i) h1g) (o0le (all_right h1i) h1g))⟩)
theorem T_w0z (ih : I_spec_l11Read n) : S_spec_l11Option (B_spec_l11Option n (F_spec_l11Read n)) := by
 obtain ⟨ih0, ih1, ih2, ih3, ih4⟩ := ih
 constructor
 intro B N0 C0 N2 C2 N4 C4 N1 C1 N5 C5 N7 C7 A0 A2 A4 A1 A5 A7 x1 x2 x3 x4 res w0 hm hBw p1_0 p2_0 p2_1 p2_2 p2_4 p2_5 p2_6 p2_7 p3_0 p4_0
 unfold B_spec_l11Option at hm
 refine goF func172 z z (lb z) fun fn hr => Ws (E z (fb z) ?_)
 rintro _ w1c ⟨rfl, h1d⟩
 have h12 := h1d.below
 have h1r : Blk w1c w0.z [sl A0 N0 C0] := h1d.blk
 refine E z (fb z) ?_
 rintro _ w1e ⟨rfl, h1f⟩
 have h10 := h1f.below
 have h1s : Blk w1e w1c.z (vR x2 A2 N2 C2 A4 N4 C4 A1 N1 C1 A5 N5 C5) := h1f.blk
 refine E z (fa zero_118) ?_
 rintro _ w1t ⟨rfl, h1g⟩
 have h13 := h1g.below
 have h14 : Blk w1t w1e.z [vI 0, sl none 0 0, sl none 0 0] := h1g.blk
 refine Ra z (Ra z (Wn (Wq (WC_block (Ws (Rm z (Rm z ?_)))))))
 have h16 := ((p3_0.ext h12).ext h10).ext h13
 refine R z (lnR d_25 z h16) (R z (rd_geq z z) (Ra z (Wn (Wc z (fun hc17 => ?_) (fun hc17 => ?_)))))
 ·refine Ws (R z (bP (parts := []) (cs := [vI 0, sl none 0 0, sl none 0 0]) build_118 z z) (Rm z (E0 (fs (cur' := [vI 0, sl none 0 0, sl none 0 0]) z_118 z z h14 z (lb z) (oA z) z) ?_)))
  rintro _ w2h ⟨h1u, s1v⟩
  refine Ra z (Ra z (Wn ?_))
  obtain rfl := som (ifT hm hc17)
  exact Wr (rtO (ret3 hr (resC g_118 z_118 z h1u z) z z ⟨(bM (bup (bup h12 h10) h13) s1v.one (mem1le (lt_ h12.size h10.size))), none, 0, 0, [], none, 0, 0, [], z, (ii z), onL, onL, p4_0, (ii z), nd0, al0⟩))
 refine Ws (Rm z (Rm z ?_))
 obtain ⟨x2i, e1w, hm1h⟩ := bdS (ifF hm hc17)
 refine RX z (at_ (α := UInt8) d_25 z_5 z z z h16 e1w) ?_
 rintro _ ⟨b2j, o2k, cs2l, rfl, h1x, h1y, h2m⟩
 obtain rfl := UInt8_open h1y
 refine R z (l1 g_5 z fid (h1x.at0 z)) (R z (rd_gtr z z) (Ra z (Wn (Wc z (fun hc18 => ?_) (fun hc18 => ?_)))))
 ·refine Ws (R z (bP (parts := []) (cs := [vI 0, sl none 0 0, sl none 0 0]) build_118 z z) (Rm z (E0 (fs (cur' := [vI 0, sl none 0 0, sl none 0 0]) z_118 z z h14 z (lb z) (oA z) z) ?_)))
  rintro _ w2n ⟨h1z, s20⟩
  refine Ra z (Ra z (Wn ?_))
  obtain rfl := som (ifT hm1h hc18)
  exact Wr (rtO (ret3 hr (resC g_118 z_118 z h1z z) z z ⟨(bM (bup (bup h12 h10) h13) s20.one (mem1le (lt_ h12.size h10.size))), none, 0, 0, [], none, 0, 0, [], z, (ii z), onL, onL, p4_0, (ii z), nd0, al0⟩))
 refine Wk (Wq (WC_draw (X := noX) 16384 (.rd 0 (.rd 1 (.rd 2 (.rd 3 (.rd 4 (.rd 5 (.rd 6 (.rd 7 (.rd 8 (.rd 9 (.ef 10 (.rd 11 (.rd 12 (.rd 13 (.ef 14 (.rd 15 (.rd 16 .done))))))))))))))))) mo (by kernel_rfl) fun w2o s11 _ => dR z z (lN (vs := [sl A0 N0 C0]) g_95 z_95 z z fid ((((h1r.ext h10).ext h13).ext s11).row 0 1 z)) (dR z z (lN (vs := (vR x2 A2 N2 C2 A4 N4 C4 A1 N1 C1 A5 N5 C5)) g_144 z_144 z z fid (((h1s.ext h13).ext s11).row 0 8 z)) (dR z z (mv z) (dR z z (mv z) ?_)))))
 obtain ⟨x2p, e21, hm22⟩ := bdS (ifF hm1h hc18)
 have h1i := h16.ext s11
 refine dRX z z (at_ (α := UInt8) d_25 z_5 z z z h1i e21) ?_
 rintro _ ⟨b2q, o2r, cs2s, rfl, h23, h24, h2t⟩
 obtain rfl := UInt8_open h24
 refine dR z z (l1 g_5 z fid (h23.at0 z)) (dR z z (rd_convUI d_5 d_3 z) (dR z z (mv z) (dR z z (mv z) (dR z z (add_ z z) ?_))))
 have h1j := lt_ h12.size h10.size
 have h19 := lt_ (lt_ h1j h13.size) s11.size
 obtain ⟨r25, r2u, r2v, e26, hm27⟩ := bd3S hm22
 refine dE z z (fc call170 z (ih1.run (B := B) e26 (lt_ hBw h19) ((((p1_0.ext h12).ext h10).ext h13).ext s11) p2_0 p2_1 p2_2 ((((p2_4.ext h12).ext h10).ext h13).ext s11) ((((p2_5.ext h12).ext h10).ext h13).ext s11) ((((p2_6.ext h12).ext h10).ext h13).ext s11) ((((p2_7.ext h12).ext h10).ext h13).ext s11) (ii z) (inI_byte _) h1i (iA _ _))) (.inr fun _ _ h => chgB (h.1)) ?_
 rintro _ w2w ⟨s1k, a1l, n1m, c1n, S28, a1o, n1p, c1q, S29, rfl, h2a, h2b, h2c, h2d, h2e, h1a, h15⟩
 iterate 3 refine dR z z (ext_ z z) ?_
 refine dE0 z (fs (cur' := [vI r25.number, sl a1l n1m c1n, sl a1o n1p c1q]) z_118 z z ((h14.ext s11).ext s1k) z (lb z) (oA z) z) (.inl z) ?_
 rintro _ w2x ⟨h2f, s2g⟩
 have h1b := s2g.one
 refine dR z z (asg z) (dR z z (asg z) (PR_done (Wo ?_)))
 obtain rfl := som hm27
 exact Wr (ret3 hr (resC g_118 z_118 z h2f z) z z ⟨(bM (bup (bup (bup (bup h12 h10) h13) s11) s1k) h1b (mem1le h1j)), a1l, n1m, c1n, S28, a1o, n1p, c1q, S29, z, h2a, (h2b.chg h1b (o0n1 (all_left h15) h14.lt s11.size)), (h2c.chg h1b (o0n1 (all_right h15) h14.lt s11.size)), h2d, h2e, (nd_app (nd_left h1a) (nd_right h1a) (nd_dj h1a)), (all_app (o0le (all_left h15) h19) (o0le (all_right h15) h19))⟩)
theorem T_w10 (ih : I_spec_l11Read n) : S_spec_l11Checked (B_spec_l11Checked n (F_spec_l11Read n)) := by
 obtain ⟨ih0, ih1, ih2, ih3, ih4⟩ := ih
 constructor
 intro B N0 C0 N2 C2 N4 C4 N1 C1 N5 C5 N7 C7 A0 A2 A4 A1 A5 A7 x1 x2 x3 x4 res w0 hm hBw p1_0 p2_0 p2_1 p2_2 p2_4 p2_5 p2_6 p2_7 p3_0 p4_0
 unfold B_spec_l11Checked at hm
 refine goF func173 z z (lb z) fun fn hr => Ws (E z (fb z) ?_)
 rintro _ w1t ⟨rfl, h1u⟩
 have h16 := h1u.below
 have h29 : Blk w1t w0.z [sl A0 N0 C0] := h1u.blk
 refine E z (fb z) ?_
 rintro _ w1v ⟨rfl, h1w⟩
 have h14 := h1w.below
 have h2a : Blk w1v w1t.z (vR x2 A2 N2 C2 A4 N4 C4 A1 N1 C1 A5 N5 C5) := h1w.blk
 refine E z (fa zero_118) ?_
 rintro _ w2b ⟨rfl, h1x⟩
 have h13 := h1x.below
 have h15 : Blk w2b w1v.z [vI 0, sl none 0 0, sl none 0 0] := h1x.blk
 refine Ra z (Ra z (Wn (Ws (R z (lN (vs := [sl A0 N0 C0]) g_95 z_95 z z fid (((h29.ext h14).ext h13).row 0 1 z)) (R z (lN (vs := (vR x2 A2 N2 C2 A4 N4 C4 A1 N1 C1 A5 N5 C5)) g_144 z_144 z z fid ((h2a.ext h13).row 0 8 z)) (Rm z (Rm z ?_)))))))
 have h1y := ((p3_0.ext h16).ext h14).ext h13
 have h1i := lt_ h16.size h14.size
 have h19 := lt_ h1i h13.size
 obtain ⟨r1j, r2y, r2z, e2c, hm1z⟩ := bd3S hm
 refine E z (fc call170 z (ih1.run (B := B) e2c (lt_ hBw h19) (((p1_0.ext h16).ext h14).ext h13) p2_0 p2_1 p2_2 (((p2_4.ext h16).ext h14).ext h13) (((p2_5.ext h16).ext h14).ext h13) (((p2_6.ext h16).ext h14).ext h13) (((p2_7.ext h16).ext h14).ext h13) (ii z) (ii z) h1y p4_0)) ?_
 rintro _ w2d ⟨s10, a1a, n1b, c1c, S20, a1d, n1e, c1f, S21, rfl, h22, h1l, h1m, h1n, h2e, h1h, h18⟩
 refine Rm z ?_
 iterate 3 refine R z (ext_ z z) ?_
 refine E z (fa zero_118) ?_
 rintro _ w2f ⟨rfl, h23⟩
 have h11 := h23.below
 have h2g : Blk w2f w2d.z [vI 0, sl none 0 0, sl none 0 0] := h23.blk
 refine E0 (fs (cur' := [vI r1j.number, sl a1a n1b c1c, sl a1d n1e c1f]) z_118 z z h2g z (lb z) (oA z) z) ?_
 rintro _ w30 ⟨h24, s2h⟩
 have h12 := s2h.one
 refine Ra z (Ra z (Wn (Wq (WC_block (Ws (Rm z (R z (nq z z) (Ra z (Wn (Wc z (fun hc1o => ?_) (fun hc1o => ?_)))))))))))
 ·refine Ws (R z (lN (vs := [vI r1j.number, sl a1a n1b c1c, sl a1d n1e c1f]) g_118 z_118 z z fid (h24.row 0 3 z)) (Rm z (Rm z (E0 (fs (cur' := [vI r1j.number, sl a1a n1b c1c, sl a1d n1e c1f]) z_118 z z (((h15.ext s10).ext h11).chg h12 (djs (mm1 h15.lt s10.size))) z (lb z) (oA z) z) ?_))))
  rintro _ w31 ⟨h2i, s2j⟩
  have h1p := s2j.one
  refine Ra z (Ra z (Wn ?_))
  obtain rfl := som (ifT hm1z hc1o)
  exact Wr (rtO (ret3 hr (resC g_118 z_118 z h2i z) z z ⟨(bM (bM (bup (bup (bup (bup h16 h14) h13) s10) h11) h12 (mem1le (lt_ h19 s10.size))) h1p (mem1le h1i)), a1a, n1b, c1c, S20, a1d, n1e, c1f, S21, z, h22, (((h1l.ext h11).chg h12 (dj_symm (mnr (ownS.lt h1l)))).chg h1p (o0n1 (all_left h18) h15.lt lr)), (((h1m.ext h11).chg h12 (dj_symm (mnr (ownS.lt h1m)))).chg h1p (o0n1 (all_right h18) h15.lt lr)), h1n, h2e, (nd_app (nd_left h1h) (nd_right h1h) (nd_dj h1h)), (all_app (o0le (all_left h18) h19) (o0le (all_right h18) h19))⟩))
 have hm25 := ifF hm1z hc1o
 refine Ws (Rm z (Rm z ?_))
 have h1k := lt_ h19 s10.size
 have h26 := ((h1y.ext s10).ext h11).chg h12 (lg (mem1le (lt_ hBw h1k)))
 refine R z (lnR d_25 z h26) (R z (rd_geq z z) (Ra z (Wn (Wc z (fun hc1q => ?_) (fun hc1q => ?_)))))
 ·refine Ws (R z (bP (parts := []) (cs := [vI 0, sl none 0 0, sl none 0 0]) build_118 z z) (Rm z (E0 (fs (cur' := [vI 0, sl none 0 0, sl none 0 0]) z_118 z z (((h15.ext s10).ext h11).chg h12 (djs (mm1 h15.lt s10.size))) z (lb z) (oA z) z) ?_)))
  rintro _ w32 ⟨h2k, s2l⟩
  refine Ra z (Ra z (Wn ?_))
  obtain rfl := som (ifT hm25 hc1q)
  exact Wr (rtO (ret3 hr (resC g_118 z_118 z h2k z) z z ⟨(bM (bM (bup (bup (bup (bup h16 h14) h13) s10) h11) h12 (mem1le h1k)) s2l.one (mem1le h1i)), none, 0, 0, [], none, 0, 0, [], z, (ii z), onL, onL, h1n, (ii z), nd0, al0⟩))
 refine Wq (WC_draw (X := noX) 0 (.rd 0 (.rd 1 (.rd 2 (.rd 3 (.rd 4 (.rd 5 (.rd 6 (.rd 7 (.rd 8 (.ef 9 (.rd 10 (.rd 11 .done)))))))))))) mo (by kernel_rfl) fun w33 s17 _ => dR z z (mv z) (dR z z (mv z) ?_))
 obtain ⟨x34, e2m, hm2n⟩ := bdS (ifF hm25 hc1q)
 have h27 := h26.ext s17
 refine dRX z z (at_ (α := UInt8) d_25 z_5 z z z h27 e2m) ?_
 rintro _ ⟨b35, o36, cs37, rfl, h2o, h2p, h38⟩
 obtain rfl := UInt8_open h2p
 refine dR z z (l1 g_5 z fid (h2o.at0 z)) (dR z z (rd_convUI d_5 d_3 z) ?_)
 iterate 3 refine dR z z (mv z) ?_
 obtain ⟨x39, e2q, hm2r⟩ := bdS hm2n
 refine dRX z z (rd_sliceX d_25 z_5 z z h27 z z e2q) ?_
 rintro _ ⟨a3a, n3b, c3c, rfl, h2s⟩
 obtain ⟨r3d, e2t, hm28⟩ := bdS hm2r
 refine dE z z (fc call79 z (W_w0r (B := B) e2t (lt_ hBw (lt_ (lt_ (lt_ h1k h11.size) h12.size) s17.size)) h2s)) (.inr fun _ _ h => chgB (h.1)) ?_
 rintro _ w3e ⟨s1g, rfl, h3f⟩
 refine dR z z (nq z z) (dR z z (asg z) (PR_done (Wo (Wc z (fun hc1r => ?_) (fun hc1r => ?_)))))
 ·refine Ws (R z (bP (parts := []) (cs := [vI 0, sl none 0 0, sl none 0 0]) build_118 z z) (Rm z (E0 (fs (cur' := [vI 0, sl none 0 0, sl none 0 0]) z_118 z z (((((h15.ext s10).ext h11).chg h12 (djs (mm1 h15.lt s10.size))).ext s17).ext s1g) z (lb z) (oA z) z) ?_)))
  rintro _ w3g ⟨h2u, s2v⟩
  refine Ra z (Ra z (Wn ?_))
  obtain rfl := som (ifT hm28 hc1r)
  exact Wr (rtO (ret3 hr (resC g_118 z_118 z h2u z) z z ⟨(bM (bup (bup (bM (bup (bup (bup (bup h16 h14) h13) s10) h11) h12 (mem1le h1k)) s17) s1g) s2v.one (mem1le h1i)), none, 0, 0, [], none, 0, 0, [], z, (ii z), onL, onL, h1n, (ii z), nd0, al0⟩))
 refine Wk (Ws (R z (lN (vs := [vI r1j.number, sl a1a n1b c1c, sl a1d n1e c1f]) g_118 z_118 z z fid (((h24.ext s17).ext s1g).row 0 3 z)) (Rm z (R z (add_ z z) (E0 (fs (cur' := [vI r1j.number, sl a1a n1b c1c, sl a1d n1e c1f]) z_118 z z (((((h15.ext s10).ext h11).chg h12 (djs (mm1 h15.lt s10.size))).ext s17).ext s1g) z (lb z) (oA z) z) ?_)))))
 rintro _ w3h ⟨h2w, s2x⟩
 have h1s := s2x.one
 refine Ra z (Ra z (Wn ?_))
 obtain rfl := som (ifF hm28 hc1r)
 exact Wr (ret3 hr (resC g_118 z_118 z h2w z) z z ⟨(bM (bup (bup (bM (bup (bup (bup (bup h16 h14) h13) s10) h11) h12 (mem1le h1k)) s17) s1g) h1s (mem1le h1i)), a1a, n1b, c1c, S20, a1d, n1e, c1f, S21, z, h22, (((((h1l.ext h11).chg h12 (dj_symm (mnr (ownS.lt h1l)))).ext s17).ext s1g).chg h1s (o0n1 (all_left h18) h15.lt lr)), (((((h1m.ext h11).chg h12 (dj_symm (mnr (ownS.lt h1m)))).ext s17).ext s1g).chg h1s (o0n1 (all_right h18) h15.lt lr)), (iA _ _), (ii z), (nd_app (nd_left h1h) (nd_right h1h) (nd_dj h1h)), (all_app (o0le (all_left h18) h19) (o0le (all_right h18) h19))⟩)
theorem A_w02 : ∀ n, I_spec_l11Read n
  | 0 => ⟨⟨fun hm => by intros; exact nomatch (show none = some _ from hm)⟩, ⟨fun hm => by intros; exact nomatch (show none = some _ from hm)⟩, ⟨fun hm => by intros; exact nomatch (show none = some _ from hm)⟩, ⟨fun hm => by intros; exact nomatch (show none = some _ from hm)⟩, ⟨fun hm => by intros; exact nomatch (show none = some _ from hm)⟩⟩
  | n + 1 => ⟨T_w02 (A_w02 n), T_w0x (A_w02 n), T_w0y (A_w02 n), T_w0z (A_w02 n), T_w10 (A_w02 n)⟩
theorem W_w02 : S_spec_l11Read (F_spec_l11Read n).spec_l11Read := (A_w02 n).1
theorem W_w0x : S_spec_l11Items (F_spec_l11Read n).spec_l11Items := (A_w02 n).2.1
theorem W_w0y : S_spec_l11Choice (F_spec_l11Read n).spec_l11Choice := (A_w02 n).2.2.1
theorem W_w0z : S_spec_l11Option (F_spec_l11Read n).spec_l11Option := (A_w02 n).2.2.2.1
theorem W_w10 : S_spec_l11Checked (F_spec_l11Read n).spec_l11Checked := (A_w02 n).2.2.2.2

theorem W_w0f {x1 : Desc} {x2 : Int} {x3 : List UInt8} {x4 : Int} {res : Val × Int × Int} (hm : M_spec_ReadValue n x1 x2 x3 x4 = some res) (hBw : B ≤ w0.z) (p1_0 : repS w0 B (sl A0 N0 C0) x1.rules) (p2_0 : inI x2) (p3_0 : repS w0 B (sl A7 N7 C7) x3) (p4_0 : inI x4) : CallsR prog 128 [(.agg #[sl A0 N0 C0]), vI x2, sl A7 N7 C7, vI x4] w0 (Q17 w0 B res) := by
 unfold M_spec_ReadValue at hm
 refine goF func128 z z (lb z) fun fn hr => Ws (E z (fb z) ?_)
 rintro _ w18 ⟨rfl, h1h⟩
 have h11 := h1h.below
 have h1i : Blk w18 w0.z [sl A0 N0 C0] := h1h.blk
 refine E z (fa zero_118) ?_
 rintro _ w19 ⟨rfl, h1j⟩
 have h12 := h1j.below
 have h16 : Blk w19 w18.z [vI 0, sl none 0 0, sl none 0 0] := h1j.blk
 refine Ra z (Ra z (Wn (Wq (Wq ?_))))
 obtain ⟨u1v, hu1w, hm1k⟩ := bdS hm
 refine WC_cut (fun a w => ∃ (x1a : Bool), x1a = u1v ∧ Sat 36 [(1, vI x2), (2, sl A7 N7 C7), (3, vI x4), (4, pt w0.z), (8, pt w18.z), (26, vB x1a)] a ∧ Below w19.z w19 w) ?_ ?_
 ·refine Wg (R z (lN (vs := [sl A0 N0 C0]) g_95 z_95 z z fid ((h1i.ext h12).row 0 1 z)) (Rm z ?_))
  have h1l := lt_ h11.size h12.size
  obtain ⟨r1x, e1y, hm1m⟩ := bdS hu1w
  refine E z (fc call146 z (W_w2d (B := B) e1y (lt_ hBw h1l) ((p1_0.ext h11).ext h12) p2_0)) ?_
  rintro _ w2g ⟨s15, rfl⟩
  refine R z (not_ z) (Rm z ?_)
  rcases bs (!r1x) with hc10 | hc10
  ·iterate 5 refine Nh z hc10 ?_
   exact R z (pT z hc10 z) (Rm z (Nh z z (Nh z z (Nh z z (R z (pT z z z) (Wl (fun _ q => ⟨true, som (ifT hm1m hc10), (q.k (s6 z z z z z z)), s15⟩)))))))
  refine Rh z hc10 (mv z) (Rh z hc10 (mv z) ?_)
  have h1b := ((p3_0.ext h11).ext h12).ext s15
  refine Rh z hc10 (lnR d_25 z h1b) ?_
  obtain ⟨r1z, e20, hm1n⟩ := bdS (ifF hm1m hc10)
  refine Eg z z hc10 z (fc call97 z (W_w00 (B := B) e20 (lt_ hBw (lt_ h1l s15.size)) p4_0 (ii z) (inI_len (repS.len h1b)))) ?_
  rintro _ w2h ⟨s1c, rfl⟩
  refine Rh z hc10 (not_ z) (R z (pF z hc10 z) (Rm z ?_))
  rcases bs (!r1z) with hc14 | hc14
  ·iterate 3 refine Nh z hc14 ?_
   exact R z (pT z hc14 z) (Wl (fun _ q => ⟨true, som (ifT hm1n hc14), (q.k (s6 z z z z z z)), (bup s15 s1c)⟩))
  exact Rh z hc14 (mv z) (Rh z hc14 (lnR d_25 z (h1b.ext s1c)) (Rh z hc14 (rd_gtr z z) (R z (pF z hc14 z) (Wl (fun _ q => ⟨decide (400 < (x3.length : Int)), som (ifF hm1n hc14), (q.k (s6 z z z z z z)), (bup s15 s1c)⟩)))))
 rintro a21 w2i ⟨x1a, rfl, hS2j, s13⟩
 revert a21
 refine Wo (Wc z (fun hc1d => ?_) (fun hc1d => ?_))
 ·refine Ws (R z (bP (parts := []) (cs := [vI 0, sl none 0 0, sl none 0 0]) build_118 z z) (E0 (fs (cur' := [vI 0, sl none 0 0, sl none 0 0]) z_118 z z (h16.ext s13) z (lb z) (oA z) z) ?_))
  rintro _ w2k ⟨h22, s23⟩
  refine Ra z (Ra z (Wn ?_))
  obtain rfl := som (ifT hm1k hc1d)
  exact Wr (ret3 hr (resC g_118 z_118 z h22 z) z z ⟨(bM (bup (bup h11 h12) s13) s23.one (mem1le h11.size)), none, 0, 0, [], none, 0, 0, [], z, (ii z), onL, onL, (ii z), (ii z), nd0, al0⟩)
 refine Wk (Ws (R z (lN (vs := [sl A0 N0 C0]) g_95 z_95 z z fid (((h1i.ext h12).ext s13).row 0 1 z)) (Rm z (Rm z (Rm z ?_)))))
 have h1e := lt_ (lt_ h11.size h12.size) s13.size
 obtain ⟨r24, r2l, r2m, e25, hm26⟩ := bd3S (ifF hm1k hc1d)
 refine E z (fc call147 z (W_w02.run (B := B) e25 (lt_ hBw h1e) (((p1_0.ext h11).ext h12).ext s13) p2_0 (((p3_0.ext h11).ext h12).ext s13) p4_0)) ?_
 rintro _ w2n ⟨s1o, a1p, n1q, c1r, S27, a1s, n1t, c1u, S28, rfl, h29, h2a, h2b, h2c, h2d, h1f, h17⟩
 iterate 3 refine R z (ext_ z z) ?_
 refine E0 (fs (cur' := [vI r24.number, sl a1p n1q c1r, sl a1s n1t c1u]) z_118 z z ((h16.ext s13).ext s1o) z (lb z) (oA z) z) ?_
 rintro _ w2o ⟨h2e, s2f⟩
 have h1g := s2f.one
 refine Ra z (Ra z (Wn ?_))
 obtain rfl := som hm26
 exact Wr (ret3 hr (resC g_118 z_118 z h2e z) z z ⟨(bM (bup (bup (bup h11 h12) s13) s1o) h1g (mem1le h11.size)), a1p, n1q, c1r, S27, a1s, n1t, c1u, S28, z, h29, (h2a.chg h1g (o0n1 (all_left h17) h16.lt s13.size)), (h2b.chg h1g (o0n1 (all_right h17) h16.lt s13.size)), h2c, h2d, (nd_app (nd_left h1f) (nd_right h1f) (nd_dj h1f)), (all_app (o0le (all_left h17) h1e) (o0le (all_right h17) h1e))⟩)
theorem W_w2g {x1 : Desc} {x2 : List UInt8} {res : Val × Int × Int} (hm : M_spec_ReadFile n x1 x2 = some res) (hBw : B ≤ w0.z) (p1_0 : repS w0 B (sl A0 N0 C0) x1.rules) (p2_0 : repS w0 B (sl A6 N6 C6) x2) : CallsR prog 101 [(.agg #[sl A0 N0 C0]), sl A6 N6 C6] w0 (Q17 w0 B res) := by
 unfold M_spec_ReadFile at hm
 refine goF func101 z z (lb z) fun fn hr => Ws (E z (fb z) ?_)
 rintro _ w1n ⟨rfl, h2g⟩
 have h12 := h2g.below
 have h1v : Blk w1n w0.z [sl A0 N0 C0] := h2g.blk
 refine E z (fa zero_118) ?_
 rintro _ w16 ⟨rfl, h2h⟩
 have h11 := h2h.below
 have h1o : Blk w16 w1n.z [vI 0, sl none 0 0, sl none 0 0] := h2h.blk
 refine Ra z (Ra z (Wn (Wq ?_)))
 obtain ⟨u3x, hu2i, hm3y⟩ := bdS hm
 refine WC_cut (fun a w => ∃ (x1b : Int) (x1w : List UInt8) (x1x : List Val) (x1c : Int) (x1d : Int), (x1b, x1w, x1x, x1c, x1d) = u3x ∧ ∃ a1e n1f c1g S17 a1h n1i c1j S18 g19, Sat 32 [(1, sl A6 N6 C6), (4, pt w1n.z), (7, pt g19), (8, vI x1c), (9, vI x1d)] a ∧ Below w16.z w16 w ∧ inI x1b ∧ ownS w S17 (sl a1e n1f c1g) x1w ∧ S17.Nodup ∧ (∀ k ∈ S17, w16.z ≤ k) ∧ ownS w S18 (sl a1h n1i c1j) x1x ∧ S18.Nodup ∧ (∀ k ∈ S18, w16.z ≤ k) ∧ (∀ k ∈ S18, k ∉ S17) ∧ inI x1c ∧ inI x1d ∧ Blk w g19 [vI x1b, sl a1e n1f c1g, sl a1h n1i c1j] ∧ w16.z ≤ g19 ∧ (∀ k ∈ S17, k ∉ [g19]) ∧ (∀ k ∈ S18, k ∉ [g19])) ?_ ?_
 ·refine WC_draw (X := fun k => k ∈ ([] : List Nat) ∨ w16.z ≤ k) 0 (.rd 0 (.rd 1 (.rd 3 (.br 2 (.br 4 (.rd 5 (.rd 6 (.rd 7 (.rd 8 (.ef 9 (.ef 10 (.rd 11 (.rd 12 .done)))))))) 9 (.ef 4 (.rd 5 (.rd 6 (.rd 7 (.rd 8 (.ef 10 (.rd 11 (.rd 12 .done))))))))) 9 (.ef 2 (.ef 4 (.rd 5 (.rd 6 (.rd 7 (.rd 8 (.ef 10 (.rd 11 (.rd 12 .done))))))))))))) mo (by kernel_rfl) fun w2j s10 _ => ?_
  have h2k := (h1v.ext h11).ext s10
  refine dR z z (lN (vs := [sl A0 N0 C0]) g_95 z_95 z z (notNew nm0 (Nat.lt_of_lt_of_le h1v.lt h11.size)) (h2k.row 0 1 z)) (dR z z (lN (vs := [sl A0 N0 C0]) g_95 z_95 z z (notNew nm0 (Nat.lt_of_lt_of_le h1v.lt h11.size)) (h2k.row 0 1 z)) (dR z z (mv z) (PR_br ?_ ?_)))
  ·have h1y := ((p1_0.ext h12).ext h11).ext s10
   have h1z := lt_ (lt_ h12.size h11.size) s10.size
   obtain ⟨r5o, e3z, hm2l⟩ := bdS hu2i
   refine dE z z (fc call129 z (W_w0v (B := B) e3z (lt_ hBw h1z) h1y)) (.inr fun _ _ h => chgB (h.1)) ?_
   rintro _ w2m ⟨s13, rfl, h2n⟩
   refine PR_br ?_ ?_
   ·obtain ⟨r1p, r40, r41, e42, hm43⟩ := bd3S hm2l
    refine dE z z (fc call128 z (W_w0f (B := B) e42 (lt_ hBw (lt_ h1z s13.size)) (h1y.ext s13) h2n ((((p2_0.ext h12).ext h11).ext s10).ext s13) (ii z))) (.inr fun _ _ h => chgB (h.1)) ?_
    rintro _ w2o ⟨s2p, a2q, n2r, c2s, S44, a2t, n2u, c2v, S45, rfl, h46, h2w, h2x, h47, h48, h20, h2y⟩
    refine dR z z (mv z) ?_
    iterate 3 refine dR z z (ext_ z z) ?_
    refine dE z z (fa zero_118) (.inr fun _ _ h => chgB (h.2.below)) ?_
    rintro _ w49 ⟨rfl, h2z⟩
    have h21 := h2z.below
    have h4a : Blk w49 w2o.z [vI 0, sl none 0 0, sl none 0 0] := h2z.blk
    have h22 := lt_ s10.size s13.size
    have h23 := mem1le (lt_ h22 s2p.size)
    refine dE0 z (fs (cur' := [vI r1p.number, sl a2q n2r c2s, sl a2t n2u c2v]) z_118 z z h4a z (lb z) (oA z) z) (.inr fun _ _ h => chgNew (atp h23) h.2) ?_
    rintro _ w5p ⟨h4b, s4c⟩
    have h24 := s4c.one
    refine dR z z (asg z) (dR z z (asg z) (PR_done ?_))
    have h30 := mnr (ownS.lt h2w)
    have h31 := mnr (ownS.lt h2x)
    exact fun _ q => ⟨r1p.number, r1p.bytes, r1p.items, r40, r41, som hm43, a2q, n2r, c2s, S44, a2t, n2u, c2v, S45, w2o.z, (q.k (s5 z z z z z)), (bM (bup (bup (bup s10 s13) s2p) h21) h24 h23), h46, ((h2w.ext h21).chg h24 (dj_symm h30)), (nd_left h20), (o0le (all_left h2y) h22), ((h2x.ext h21).chg h24 (dj_symm h31)), (nd_right h20), (o0le (all_right h2y) h22), (dj_symm (nd_dj h20)), h47, h48, h4b, (atp h23), (dj_symm h30), (dj_symm h31)⟩
   refine dE z z (fa zero_118) (.inr fun _ _ h => chgB (h.2.below)) ?_
   rintro _ w4d ⟨rfl, h32⟩
   have h1k := h32.below
   have h25 : Blk w4d w2m.z [vI 0, sl none 0 0, sl none 0 0] := h32.blk
   obtain ⟨r1q, r4e, r4f, e4g, hm4h⟩ := bd3S hm2l
   refine dE z z (fc call128 z (W_w0f (B := B) e4g (lt_ hBw (lt_ (lt_ h1z s13.size) h1k.size)) ((h1y.ext s13).ext h1k) h2n (((((p2_0.ext h12).ext h11).ext s10).ext s13).ext h1k) (ii z))) (.inr fun _ _ h => chgB (h.1)) ?_
   rintro _ w5q ⟨s33, a34, n35, c36, S4i, a37, n38, c39, S4j, rfl, h4k, h4l, h4m, h4n, h4o, h26, h1r⟩
   refine dR z z (mv z) ?_
   iterate 3 refine dR z z (ext_ z z) ?_
   have h3a := lt_ s10.size s13.size
   have h27 := mem1le h3a
   refine dE0 z (fs (cur' := [vI r1q.number, sl a34 n35 c36, sl a37 n38 c39]) z_118 z z (h25.ext s33) z (lb z) (oA z) z) (.inr fun _ _ h => chgNew (atp h27) h.2) ?_
   rintro _ w5r ⟨h4p, s4q⟩
   have h28 := s4q.one
   refine dR z z (asg z) (dR z z (asg z) (PR_done ?_))
   have h3b := o0n1 (all_left h1r) h25.lt lr
   have h3c := lt_ h3a h1k.size
   have h3d := o0n1 (all_right h1r) h25.lt lr
   exact fun _ q => ⟨r1q.number, r1q.bytes, r1q.items, r4e, r4f, som hm4h, a34, n35, c36, S4i, a37, n38, c39, S4j, w2m.z, (q.k (s5 z z z z z)), (bM (bup (bup (bup s10 s13) h1k) s33) h28 h27), h4k, (h4l.chg h28 h3b), (nd_left h26), (o0le (all_left h1r) h3c), (h4m.chg h28 h3d), (nd_right h26), (o0le (all_right h1r) h3c), (dj_symm (nd_dj h26)), h4n, h4o, h4p, (atp h27), h3b, h3d⟩
  refine dE z z (fa zero_118) (.inr fun _ _ h => chgB (h.2.below)) ?_
  rintro _ w4r ⟨rfl, h3e⟩
  have h1l := h3e.below
  have h29 : Blk w4r w2j.z [vI 0, sl none 0 0, sl none 0 0] := h3e.blk
  have h3f := (((p1_0.ext h12).ext h11).ext s10).ext h1l
  have h3g := lt_ (lt_ (lt_ h12.size h11.size) s10.size) h1l.size
  obtain ⟨r5s, e4s, hm4t⟩ := bdS hu2i
  refine dE z z (fc call129 z (W_w0v (B := B) e4s (lt_ hBw h3g) h3f)) (.inr fun _ _ h => chgB (h.1)) ?_
  rintro _ w5t ⟨s15, rfl, h4u⟩
  obtain ⟨r1s, r4v, r4w, e4x, hm4y⟩ := bd3S hm4t
  refine dE z z (fc call128 z (W_w0f (B := B) e4x (lt_ hBw (lt_ h3g s15.size)) (h3f.ext s15) h4u (((((p2_0.ext h12).ext h11).ext s10).ext h1l).ext s15) (ii z))) (.inr fun _ _ h => chgB (h.1)) ?_
  rintro _ w5u ⟨s3h, a3i, n3j, c3k, S4z, a3l, n3m, c3n, S50, rfl, h51, h52, h53, h54, h55, h2a, h1t⟩
  refine dR z z (mv z) ?_
  iterate 3 refine dR z z (ext_ z z) ?_
  have h2b := mem1le s10.size
  refine dE0 z (fs (cur' := [vI r1s.number, sl a3i n3j c3k, sl a3l n3m c3n]) z_118 z z ((h29.ext s15).ext s3h) z (lb z) (oA z) z) (.inr fun _ _ h => chgNew (atp h2b) h.2) ?_
  rintro _ w5v ⟨h56, s57⟩
  have h2c := s57.one
  refine dR z z (asg z) (dR z z (asg z) (PR_done ?_))
  have h3o := o0n1 (all_left h1t) h29.lt s15.size
  have h3p := lt_ (lt_ s10.size h1l.size) s15.size
  have h3q := o0n1 (all_right h1t) h29.lt s15.size
  exact fun _ q => ⟨r1s.number, r1s.bytes, r1s.items, r4v, r4w, som hm4y, a3i, n3j, c3k, S4z, a3l, n3m, c3n, S50, w2j.z, (q.k (s5 z z z z z)), (bM (bup (bup (bup s10 h1l) s15) s3h) h2c h2b), h51, (h52.chg h2c h3o), (nd_left h2a), (o0le (all_left h1t) h3p), (h53.chg h2c h3q), (nd_right h2a), (o0le (all_right h1t) h3p), (dj_symm (nd_dj h2a)), h54, h55, h56, (atp h2b), h3o, h3q⟩
 rintro a58 w1u ⟨x1b, x1w, x1x, x1c, x1d, rfl, a1e, n1f, c1g, S17, a1h, n1i, c1j, S18, g19, hS5w, s1m, h59, h5a, h5b, h3r, h5c, h5d, h3s, h5e, h3t, h5f, h5g, h5x, h5y, h5z⟩
 have hm5h := un5S hm3y
 revert a58
 refine Wo (Wq (Wq ?_))
 obtain ⟨u5i, hu3u, hm3v⟩ := bdS hm5h
 refine WC_cut (fun a w => ∃ (x2d : Bool), x2d = u5i ∧ Sat 32 [(4, pt w1n.z), (7, pt g19), (8, vI x1c), (9, vI x1d), (26, vB x2d)] a ∧ Below w1u.z w1u w) ?_ ?_
 ·refine Wg (Rm z (R z (eql z z) (Rm z ?_)))
  rcases bs (x1d == 0) with hc14 | hc14
  ·exact Rh z hc14 (mv z) (Rh z hc14 (mv z) (Rh z hc14 (lnR d_25 z (((p2_0.ext h12).ext h11).ext s1m)) (Rh z hc14 (lss z z) (R z (pT z hc14 z) (Wl (fun _ q => ⟨decide (x1c < (x2.length : Int)), som (ifT hu3u hc14), (q.k (s5 z z z z z)), (br w1u)⟩))))))
  iterate 4 refine Nh z hc14 ?_
  exact R z (pF z hc14 z) (Wl (fun _ q => ⟨false, som (ifF hu3u hc14), (q.k (s5 z z z z z)), (br w1u)⟩))
 rintro a5j w60 ⟨x2d, rfl, hS61, s1a⟩
 revert a5j
 refine Wo (Wc z (fun hc2e => ?_) (fun hc2e => ?_))
 ·refine Ws (R z (bP (parts := []) (cs := [vI 0, sl none 0 0, sl none 0 0]) build_118 z z) (Rm z (E0 (fs (cur' := [vI 0, sl none 0 0, sl none 0 0]) z_118 z z ((h1o.ext s1m).ext s1a) z (lb z) (oA z) z) ?_)))
  rintro _ w62 ⟨h5k, s5l⟩
  refine Ra z (Ra z (Wn ?_))
  obtain rfl := som (ifT hm3v hc2e)
  exact Wr (ret3 hr (resC g_118 z_118 z h5k z) z z ⟨(bM (bup (bup (bup h12 h11) s1m) s1a) s5l.one (mem1le h12.size)), none, 0, 0, [], none, 0, 0, [], z, (ii z), onL, onL, h3t, (ii z), nd0, al0⟩)
 refine Wk (Ws (R z (lN (vs := [vI x1b, sl a1e n1f c1g, sl a1h n1i c1j]) g_118 z_118 z z fid ((h5g.ext s1a).row 0 3 z)) (Rm z (Rm z (E0 (fs (cur' := [vI x1b, sl a1e n1f c1g, sl a1h n1i c1j]) z_118 z z ((h1o.ext s1m).ext s1a) z (lb z) (oA z) z) ?_)))))
 rintro _ w63 ⟨h5m, s5n⟩
 have h2f := s5n.one
 refine Ra z (Ra z (Wn ?_))
 obtain rfl := som (ifF hm3v hc2e)
 have h3w := lt_ h12.size h11.size
 exact Wr (ret3 hr (resC g_118 z_118 z h5m z) z z ⟨(bM (bup (bup (bup h12 h11) s1m) s1a) h2f (mem1le h12.size)), a1e, n1f, c1g, S17, a1h, n1i, c1j, S18, z, h59, ((h5a.ext s1a).chg h2f (o0n1 h3r h1o.lt lr)), ((h5c.ext s1a).chg h2f (o0n1 h3s h1o.lt lr)), h3t, h5f, (nd_app h5b h5d (dj_symm h5e)), (all_app (o0le h3r h3w) (o0le h3s h3w))⟩)
theorem W_w2h {x1 : Desc} {x2 : List UInt8} {res : Bool} (hm : M_spec_IsFileOf n x1 x2 = some res) (hBw : B ≤ w0.z) (p1_0 : repS w0 B (sl A0 N0 C0) x1.rules) (p2_0 : repS w0 B (sl A6 N6 C6) x2) : CallsR prog 69 [(.agg #[sl A0 N0 C0]), sl A6 N6 C6] w0 (Q11 w0 B res) := by
 unfold M_spec_IsFileOf at hm
 refine goF func69 z z (lb z) fun fn hr => Ws (E z (fb z) ?_)
 rintro _ w14 ⟨rfl, h11⟩
 have h10 := h11.below
 have h15 : Blk w14 w0.z [sl A0 N0 C0] := h11.blk
 refine Ra z (Wn (Ws (R z (lN (vs := [sl A0 N0 C0]) g_95 z_95 z z fid (h15.row 0 1 z)) (Rm z ?_))))
 obtain ⟨r16, r1j, r1k, e17, hm18⟩ := bd3S hm
 refine E z (fc call101 z (W_w2g (B := B) e17 (lt_ hBw h10.size) (p1_0.ext h10) (p2_0.ext h10))) ?_
 rintro _ w19 ⟨s12, a1a, n1b, c1c, S1l, a1d, n1e, c1f, S1m, rfl, h1n, h1o, h1p, h1q, h1r, h1s, h1t⟩
 refine Rm z ?_
 iterate 3 refine R z (ext_ z z) ?_
 refine E z (fa zero_118) ?_
 rintro _ w1g ⟨rfl, h13⟩
 have h1h : Blk w1g w19.z [vI 0, sl none 0 0, sl none 0 0] := h13.blk
 refine E0 (fs (cur' := [vI r16.number, sl a1a n1b c1c, sl a1d n1e c1f]) z_118 z z h1h z (lb z) (oA z) z) ?_
 rintro _ w1u ⟨h1v, s1i⟩
 refine Ra z (Ra z (Wn (Ws (Rm z (R z (eql z z) (Ra z (Wn ?_)))))))
 obtain rfl := som hm18
 exact Wr (ret1 hr z ⟨(bM (bup (bup h10 s12) h13.below) s1i.one (mem1le (lt_ h10.size s12.size))), z⟩)
theorem W_w2i {x1 : Archive} {res : Bool} (hm : M_spec_IsValidArchive n x1 = some res) (hBw : B ≤ w0.z) (p1_0 : repS w0 B (sl A0 N0 C0) x1.registry.versions) (p1_1 : repS w0 B (sl A3 N3 C3) x1.log.bytes) (p1_2 : inI x1.log.stored) : CallsR prog 35 [(.agg #[sl A0 N0 C0, sl A3 N3 C3, vI x1.log.stored])] w0 (Q11 w0 B res) := by
 unfold M_spec_IsValidArchive at hm
 refine goF func35 z z (lb z) fun fn hr => Ws (E z (fb z) ?_)
 rintro _ w1i ⟨rfl, h1o⟩
 have h13 := h1o.below
 have h1j : Blk w1i w0.z [sl A0 N0 C0, sl A3 N3 C3, vI x1.log.stored] := h1o.blk
 refine Ra z (Wn (Wq (Wq ?_)))
 obtain ⟨u28, hu29, hm1p⟩ := bdS hm
 refine WC_cut (fun a w => ∃ (x1k : Bool), x1k = u28 ∧ Sat 74 [(1, pt w0.z), (23, vB x1k)] a ∧ Below w1i.z w1i w) ?_ ?_
 ·refine Wg (R z (fd f_37_0 z) (R z (lN (vs := [sl A0 N0 C0]) g_34 z_34 z z fid (h1j.row 0 1 z)) ?_))
  obtain ⟨r2a, e2b, hm1q⟩ := bdS hu29
  refine E z (fc call67 z (W_w2c (B := B) (x1 := (⟨x1.registry.versions⟩ : Registry)) e2b (lt_ hBw h13.size) (p1_0.ext h13))) ?_
  rintro _ w3s ⟨s18, rfl⟩
  refine R z (not_ z) (Rm z ?_)
  rcases bs (!r2a) with hc14 | hc14
  ·iterate 4 refine Nh z hc14 ?_
   exact R z (pT z hc14 z) (Rm z (Nh z z (Nh z z (Nh z z (Nh z z (Nh z z (Nh z z (R z (pT z z z) (Wl (fun _ q => ⟨true, som (ifT hm1q hc14), (q.k (s2 z z)), s18⟩))))))))))
  refine Rh z hc14 (fd f_37_1 z) ?_
  have h1r := h1j.ext s18
  refine Rh z hc14 (lN (vs := [sl A3 N3 C3, vI x1.log.stored]) g_35 z_35 z z fid (h1r.row 1 2 z)) ?_
  have h1s := (p1_1.ext h13).ext s18
  have h1t := lt_ h13.size s18.size
  obtain ⟨r2c, e2d, hm1u⟩ := bdS (ifF hm1q hc14)
  refine Eg z z hc14 z (fc call65 z (W_w0s (B := B) (x1 := (⟨x1.log.bytes, x1.log.stored⟩ : Log)) e2d (lt_ hBw h1t) h1s p1_2)) ?_
  rintro _ w3t ⟨s1b, rfl⟩
  refine Rh z hc14 (not_ z) (R z (pF z hc14 z) (Rm z ?_))
  rcases bs (!r2c) with hc12 | hc12
  ·iterate 6 refine Nh z hc12 ?_
   exact R z (pT z hc12 z) (Wl (fun _ q => ⟨true, som (ifT hm1u hc12), (q.k (s2 z z)), (bup s18 s1b)⟩))
  refine Rh z hc12 (fd f_37_1 z) (Rh z hc12 (fd f_35_0 z) (Rh z hc12 (l1 g_25 z fid ((h1r.ext s1b).at z)) ?_))
  obtain ⟨r2e, e2f, hm2g⟩ := bdS (ifF hm1u hc12)
  refine Eg z z hc12 z (fc call66 z (W_w0t (B := B) e2f (lt_ hBw (lt_ h1t s1b.size)) (h1s.ext s1b))) ?_
  rintro _ w3u ⟨s2h, a3v, n3w, c3x, rfl, h2i⟩
  exact Rh z hc12 (lnR d_59 z h2i) (Rh z hc12 (rd_gtr z z) (R z (pF z hc12 z) (Wl (fun _ q => ⟨decide (20 < (r2e.length : Int)), som hm2g, (q.k (s2 z z)), (bup (bup s18 s1b) s2h)⟩))))
 rintro a2j w3y ⟨x1k, rfl, hS3z, s16⟩
 revert a2j
 refine Wo (Wc z (fun hc1l => ?_) (fun hc1l => ?_))
 ·refine Ws (Ra z (Wn ?_))
  obtain rfl := som (ifT hm1p hc1l)
  exact Wr (ret1 hr z ⟨(bup h13 s16), z⟩)
 refine Wk (Ws (R z (fd f_37_1 z) (R z (fd f_35_0 z) ?_)))
 have h1v := h1j.ext s16
 refine R z (l1 g_25 z fid (h1v.at z)) ?_
 have h1w := lt_ h13.size s16.size
 obtain ⟨r2k, r40, e2l, hm2m⟩ := bd2S (ifF hm1p hc1l)
 refine E z (fc call68 z (W_w07 (B := B) e2l (lt_ hBw h1w) ((p1_1.ext h13).ext s16))) ?_
 rintro _ w19 ⟨s1c, a1d, n1e, c1f, S41, rfl, h15, h42, h43, h44⟩
 refine Rm z (R z (ext_ z z) (R z (ext_ z z) (Ra z (Ra z (Wn (Wq (Ws (Ra z (Wn ?_)))))))))
 obtain ⟨u45, hu2n, hm1x⟩ := bdS hm2m
 refine WC_forN (σ := Unit) (ρ := Bool) (fun (k1g : Nat) (_ : Unit) a w => Sat 74 [(1, pt w0.z), (3, sl a1d n1e c1f), (5, (vI ((k1g : Nat) : Int)))] a ∧ Below w19.z w19 w) (fun (_ : Unit) a w => Sat 74 [] a ∧ Below w19.z w19 w) (fun r ex a w => ex = .ret ∧ RetPost prog fn (Q11 w0 B r) a w) hu2n ?_ ?_ ?_ ?_ ?_
 ·exact fun _ q => ⟨(q.k (s3 z z z)), (br w19)⟩
 ·rintro k1g _ a46 w1y o47 hk1z ⟨hS2o, s1a⟩ hm2p
  refine Wu ?_ hS2o
  refine Wq (Ws (Rm z (Rm z ?_)))
  have h20 := h15.ext s1a
  refine R z (lnR d_89 z (ownS_rep h20 (ownS.lt h15))) (R z (lss z z) (Wn (Wc z (fun _ => ?_) (fun hc => (nolt hk1z hc).elim))))
  refine Wk (Wq (WC_block (Wq ?_)))
  obtain ⟨u2q, hu2r, hm21⟩ := bdS hm2p
  refine WC_cut (fun a w => ∃ (x1m : Bool), x1m = u2q ∧ Sat 74 [(1, pt w0.z), (3, sl a1d n1e c1f), (5, (vI ((k1g : Nat) : Int))), (73, vB x1m)] a ∧ Below w1y.z w1y w) ?_ ?_
  ·refine WC_draw (X := noX) 0 (.rd 0 (.rd 1 (.rd 2 (.rd 3 (.rd 4 (.rd 5 (.rd 6 (.rd 7 (.rd 8 (.rd 9 (.rd 10 (.rd 11 (.rd 12 (.rd 13 (.rd 14 (.rd 15 (.rd 16 (.rd 17 (.rd 18 (.rd 19 (.rd 20 (.rd 21 (.rd 22 (.rd 23 (.rd 24 (.rd 25 (.rd 26 (.rd 27 (.rd 28 (.rd 29 (.rd 30 (.rd 31 (.rd 32 (.ef 33 (.rd 34 (.rd 35 (.rd 36 .done))))))))))))))))))))))))))))))))))))) mo (by kernel_rfl) fun w48 s17 _ => dR z z (mv z) (dR z z (mv z) ?_)
   obtain ⟨x2s, e2t, hm22⟩ := bdS hu2r
   have h1h := h20.ext s17
   refine dRX z z (at_ (α := Record) d_89 z_76 z z z (ownS_rep h1h (ownS.lt h15)) e2t) ?_
   rintro _ ⟨b49, o4a, cs4b, rfl, h2u, h2v, h4c⟩
   obtain ⟨a4d, n4e, c4f, rfl, h4g, h4h, h4i, h4j⟩ := Record_open h2v
   refine dR z z (fd f_76_0 z) (dR z z (l1 g_3 z fid (h2u.at (j := 0) z)) (dR z z (eql z z) (dR z z (mv z) ?_)))
   rcases bs (x2s.kind == 1) with hc11 | hc11
   ·refine dRg z z z hc11 z (mv z) (dRg z z z hc11 z (mv z) ?_)
    obtain ⟨x2w, e2x, hm23⟩ := bdS (ifT hm22 hc11)
    refine dRXg z z z hc11 z (at_ (α := Record) d_89 z_76 z z z (ownS_rep h1h (ownS.lt h15)) e2x) ?_
    rintro _ ⟨b4k, o4l, cs4m, rfl, h2y, h2z, h4n⟩
    obtain ⟨a4o, n4p, c4q, rfl, h4r, h4s, h4t, h4u⟩ := Record_open h2z
    refine dRg z z z hc11 z (fd f_76_2 z) (dRg z z z hc11 z (l1 g_3 z fid (h2y.at (j := 2) z)) (dRg z z z hc11 z (fd f_37_0 z) (dRg z z z hc11 z (fd f_34_0 z) ?_)))
    have h24 := ((h1v.ext s1c).ext s1a).ext s17
    refine dRg z z z hc11 z (l1 g_32 z fid (h24.at z)) ?_
    have h25 := ((((p1_0.ext h13).ext s16).ext s1c).ext s1a).ext s17
    refine dRg z z z hc11 z (lnR d_32 z h25) (dRg z z z hc11 z (rd_geq z z) (dRg z z z hc11 z (mv z) ?_))
    rcases bs (decide ((x1.registry.versions.length : Int) ≤ x2w.version)) with hc10 | hc10
    ·iterate 15 refine dRn z z z hc10 z ?_
     exact dEn z z z hc10 z (dRn z z z hc10 z (dRg z z z hc11 z (pT z hc10 z) (dR z z (pT z hc11 z) (PR_done (fun _ q => ⟨true, som (ifT hm23 hc10), (q.k (s4 z z z z)), s17⟩)))))
    refine dRg z z z hc10 z (fd f_37_0 z) (dRg z z z hc10 z (fd f_34_0 z) (dRg z z z hc10 z (l1 g_32 z fid (h24.at z)) (dRg z z z hc10 z (mv z) (dRg z z z hc10 z (mv z) ?_))))
    obtain ⟨x4v, e30, hm31⟩ := bdS (ifF hm23 hc10)
    refine dRXg z z z hc10 z (at_ (α := Record) d_89 z_76 z z z (ownS_rep h1h (ownS.lt h15)) e30) ?_
    rintro _ ⟨b4w, o4x, cs4y, rfl, h32, h33, h4z⟩
    obtain ⟨a50, n51, c52, rfl, h53, h54, h55, h56⟩ := Record_open h33
    refine dRg z z z hc10 z (fd f_76_2 z) (dRg z z z hc10 z (l1 g_3 z fid (h32.at (j := 2) z)) ?_)
    obtain ⟨x57, e34, hm35⟩ := bdS hm31
    refine dRXg z z z hc10 z (at_ (α := Desc) d_32 z_95 z z z h25 e34) ?_
    rintro _ ⟨b58, o59, cs5a, rfl, h36, h37, h5b⟩
    obtain ⟨a38, n39, c3a, rfl, h3b⟩ := Desc_open h37
    refine dRg z z z hc10 z (lN (vs := [sl a38 n39 c3a]) g_95 z_95 z z fid h36) (dRg z z z hc10 z (mv z) (dRg z z z hc10 z (mv z) ?_))
    obtain ⟨x5c, e3c, hm3d⟩ := bdS hm35
    refine dRXg z z z hc10 z (at_ (α := Record) d_89 z_76 z z z (ownS_rep h1h (ownS.lt h15)) e3c) ?_
    rintro _ ⟨b5d, o5e, cs5f, rfl, h3e, h3f, h5g⟩
    obtain ⟨a5h, n5i, c5j, rfl, h5k, h5l, h5m, h3g⟩ := Record_open h3f
    refine dRg z z z hc10 z (fd f_76_3 z) (dRg z z z hc10 z (l1 g_25 z fid (h3e.at (j := 3) z)) ?_)
    obtain ⟨r3h, e3i, hm3j⟩ := bdS hm3d
    refine dEg z z z hc10 z (fc call69 z (W_w2h (B := w19.z) e3i (lt_ s1a.size s17.size) (repS.mono h3b (lt_ hBw (lt_ h1w s1c.size))) h3g)) (.inr fun _ _ h => chgB (h.1)) ?_
    rintro _ w5n ⟨s3k, rfl⟩
    exact dRg z z z hc10 z (not_ z) (dRg z z z hc11 z (pF z hc10 z) (dR z z (pT z hc11 z) (PR_done (fun _ q => ⟨!r3h, som hm3j, (q.k (s4 z z z z)), (bup s17 s3k)⟩))))
   iterate 11 refine dRn z z z hc11 z ?_
   iterate 15 refine dRu z z z z ?_
   exact dEu z z z z (dRu z z z z (dRn z z z hc11 z (dR z z (pF z hc11 z) (PR_done (fun _ q => ⟨false, som (ifF hm22 hc11), (q.k (s4 z z z z)), s17⟩)))))
  rintro a3l w5o ⟨x1m, rfl, hS5p, s26⟩
  revert a3l
  refine Wo (Wc z (fun hc1n => ?_) (fun hc1n => ?_))
  ·exact Ws (Ra z (Wn (Wr (rtO (QO_retL (som (ifT hm21 hc1n)).symm (ret1 hr z ⟨(bup (bup (bup (bup h13 s16) s1c) s1a) s26), z⟩))))))
  exact Wk (Wg (Rm z (R z (inc_ hk1z (lt_ (ownS.len h15) LEN_le) z z) (Ra z (Wl (fun _ q => ⟨(), (som (ifF hm21 hc1n)).symm, ⟨(q.k (s3 z z z)), (bup s1a s26)⟩⟩))))))
 ·rintro _ a5q w5r ⟨hS3m, s27⟩
  refine Wu ?_ hS3m
  refine Wq (Ws (Rm z (Rm z (R z (lnR d_89 z (ownS_rep (h15.ext s27) (ownS.lt h15))) (R z (lss z z) (Wn (Wc z (fun hc => (noltt hc).elim) (fun _ => ?_))))))))
  exact WC_exit (fun a' ha' => ⟨rfl, ⟨(Sat.weaken ha' sn), s27⟩⟩)
 ·rintro _ a3n w5s rfl ⟨hS5t, s3o⟩
  have hm3p := elL hm1x
  revert a3n
  refine Wo (Ws (Ra z (Wn ?_)))
  obtain rfl := som hm3p
  exact Wr (ret1 hr z ⟨(bup (bup (bup h13 s16) s1c) s3o), z⟩)
 rintro r5u ex5v a5w w5x rfl ⟨rfl, hq3q⟩
 have hm3r := elR hm1x
 obtain rfl := som hm3r
 exact ⟨hq3q, z⟩
def Q19 (w0 : World) (B : Nat) (r : Str) (v : Value) (w' : World) : Prop := Bw w0 w' ∧ (fun r1 => (Str.v r1) = v ∧ r1.b.length ≤ LEN) r
theorem W_w2j {x1 : Archive} {res : Str} (hm : M_spec_LargestFile n x1 = some res) (hBw : B ≤ w0.z) (p1_0 : repS w0 B (sl A0 N0 C0) x1.registry.versions) (p1_1 : repS w0 B (sl A3 N3 C3) x1.log.bytes) (p1_2 : inI x1.log.stored) : CallsR prog 10 [(.agg #[sl A0 N0 C0, sl A3 N3 C3, vI x1.log.stored])] w0 (Q19 w0 B res) := by
 unfold M_spec_LargestFile at hm
 refine goF func10 z z (lb z) fun fn hr => Ws (E z (fb z) ?_)
 rintro _ w21 ⟨rfl, h1p⟩
 have h15 := h1p.below
 have h1q : Blk w21 w0.z [sl A0 N0 C0, sl A3 N3 C3, vI x1.log.stored] := h1p.blk
 refine Ra z (Wn (Ws (Ra z (Wn (Ws (R z (lN (vs := [sl A0 N0 C0, sl A3 N3 C3, vI x1.log.stored]) g_37 z_37 z z fid (h1q.row 0 3 z)) ?_))))))
 have h1r := p1_0.ext h15
 have h1s := p1_1.ext h15
 obtain ⟨r22, e23, hm24⟩ := bdS hm
 refine E z (fc call34 z (W_w26 (B := B) e23 (lt_ hBw h15.size) h1r h1s p1_2)) ?_
 rintro _ w1a ⟨s16, a17, n18, c19, rfl, h1d⟩
 refine Ra z (Wn (Wq (Ws (Ra z (Wn ?_)))))
 obtain ⟨u39, hu25, hm1t⟩ := bdS hm24
 refine WC_iter (σ := Int × Int) (ρ := Str) (fun s a w => un2 (fun x12 x11 => Sat 43 [(1, pt w0.z), (3, vI x12), (4, sl a17 n18 c19), (5, vI x11)] a ∧ Below w1a.z w1a w ∧ inI x12 ∧ inI x11) s) (fun s a w => un2 (fun x12 x11 => Sat 43 [(3, vI x12), (4, sl a17 n18 c19)] a ∧ Below w1a.z w1a w ∧ inI x12 ∧ inI x11) s) (fun r ex a w => ex = .ret ∧ RetPost prog fn (Q19 w0 B r) a w) hu25 ?_ ?_ ?_ ?_
 ·exact fun _ q => ⟨(q.k (s4 z z z z)), (br w1a), (ii z), (ii z)⟩
 ·rintro ⟨x12, x11⟩ a3a w1e o3b ⟨hS26, s14, h1f, h1g⟩ hm27
  have hm28 := un2S hm27
  refine Wu ?_ hS26
  refine Wq (Wq ?_)
  obtain ⟨u29, hu1u, hm1v⟩ := bdS hm28
  refine WC_cut (fun a w => ∃ (x1h : Bool), x1h = u29 ∧ Sat 43 [(1, pt w0.z), (3, vI x12), (4, sl a17 n18 c19), (5, vI x11), (15, vB x1h)] a ∧ Below w1e.z w1e w) ?_ ?_
  ·refine Wg (Rm z (Rm z (R z (lnR d_59 z (h1d.ext s14)) (R z (lss z z) (Rm z ?_)))))
   rcases bs (decide (x11 < (r22.length : Int))) with hc13 | hc13
   ·refine Rh z hc13 (lN (vs := [sl A0 N0 C0, sl A3 N3 C3, vI x1.log.stored]) g_37 z_37 z z fid (((h1q.ext s16).ext s14).row 0 3 z)) ?_
    obtain ⟨r2a, e2b, hm2c⟩ := bdS (ifT hu1u hc13)
    refine Eg z z hc13 z (fc call35 z (W_w2i (B := B) e2b (lt_ hBw (lt_ (lt_ h15.size s16.size) s14.size)) ((h1r.ext s16).ext s14) ((h1s.ext s16).ext s14) p1_2)) ?_
    rintro _ w3c ⟨s2d, rfl⟩
    exact R z (pT z hc13 z) (Wl (fun _ q => ⟨r2a, som hm2c, (q.k (s5 z z z z z)), s2d⟩))
   exact Nh z hc13 (Nh z hc13 (R z (pF z hc13 z) (Wl (fun _ q => ⟨false, som (ifF hu1u hc13), (q.k (s5 z z z z z)), (br w1e)⟩))))
  rintro a2e w1w ⟨x1h, rfl, hS3d, s1i⟩
  revert a2e
  refine Wo (Wc z (fun hc1j => ?_) (fun hc1j => ?_))
  ·refine Wk (Wq (WC_block (Wq ?_)))
   obtain ⟨u2f, hu1x, hm2g⟩ := bdS (ifT hm1v hc1j)
   refine WC_cut (fun a w => ∃ (x1k : Bool), x1k = u2f ∧ Sat 43 [(1, pt w0.z), (3, vI x12), (4, sl a17 n18 c19), (5, vI x11), (34, vB x1k)] a ∧ Below w1w.z w1w w) ?_ ?_
   ·refine WC_draw (X := noX) 0 (.rd 0 (.rd 1 (.rd 2 (.rd 3 (.rd 4 (.rd 5 (.rd 6 (.rd 7 (.rd 8 (.rd 9 (.rd 10 (.rd 11 (.rd 12 (.rd 13 (.rd 14 (.rd 15 (.rd 16 .done))))))))))))))))) mo (by kernel_rfl) fun w3e s1l _ => dR z z (mv z) (dR z z (lss z z) (dR z z (mv z) ?_))
    rcases bs (decide (x12 < 0)) with hc10 | hc10
    ·iterate 13 refine dRn z z z hc10 z ?_
     exact dR z z (pT z hc10 z) (PR_done (fun _ q => ⟨true, som (ifT hu1x hc10), (q.k (s5 z z z z z)), s1l⟩))
    refine dRg z z z hc10 z (mv z) (dRg z z z hc10 z (mv z) ?_)
    obtain ⟨x2h, e2i, hm2j⟩ := bdS (ifF hu1x hc10)
    have h1y := ((h1d.ext s14).ext s1i).ext s1l
    refine dRXg z z z hc10 z (at_ (α := StoredFile) d_59 z_63 z z z h1y e2i) ?_
    rintro _ ⟨b3f, o3g, cs3h, rfl, h2k, h2l, h3i⟩
    obtain ⟨a3j, n3k, c3l, rfl, h3m, h3n, h2m⟩ := StoredFile_open h2l
    refine dRg z z z hc10 z (fd f_63_2 z) (dRg z z z hc10 z (l1 g_25 z fid (h2k.at (j := 2) z)) (dRg z z z hc10 z (lnR d_25 z h2m) (dRg z z z hc10 z (mv z) (dRg z z z hc10 z (mv z) ?_))))
    obtain ⟨x2n, e2o, hm2p⟩ := bdS hm2j
    refine dRXg z z z hc10 z (at_ (α := StoredFile) d_59 z_63 z z z h1y e2o) ?_
    rintro _ ⟨b3o, o3p, cs3q, rfl, h2q, h2r, h3r⟩
    obtain ⟨a3s, n3t, c3u, rfl, h3v, h3w, h2s⟩ := StoredFile_open h2r
    exact dRg z z z hc10 z (fd f_63_2 z) (dRg z z z hc10 z (l1 g_25 z fid (h2q.at (j := 2) z)) (dRg z z z hc10 z (lnR d_25 z h2s) (dRg z z z hc10 z (rd_gtr z z) (dR z z (pF z hc10 z) (PR_done (fun _ q => ⟨decide ((x2n.data.length : Int) < (x2h.data.length : Int)), som hm2p, (q.k (s5 z z z z z)), s1l⟩))))))
   rintro a2t w1c ⟨x1k, rfl, hS3x, s2u⟩
   revert a2t
   refine Wo ?_
   obtain ⟨u2v, hu1z, hm2w⟩ := bdS hm2g
   refine WC_cut (fun a w => ∃ (x1b : Int), x1b = u2v ∧ Sat 43 [(1, pt w0.z), (3, vI x1b), (4, sl a17 n18 c19), (5, vI x11)] a ∧ Below w1c.z w1c w ∧ inI x1b) ?_ ?_
   ·refine Wc z (fun hc1m => ?_) (fun hc1m => ?_)
    ·exact Wg (Rm z (Ra z (Wl (fun _ q => ⟨x11, som (ifT hu1z hc1m), (q.k (s4 z z z z)), (br w1c), h1g⟩))))
    exact WC_skip (fun _ q => ⟨x12, som (ifF hu1z hc1m), (q.k (s4 z z z z)), (br w1c), h1f⟩)
   rintro a2x w3y ⟨x1b, rfl, hS3z, s2y, h2z⟩
   revert a2x
   exact Wo (Wg (Rm z (R z (add_ z z) (Ra z (Wl (fun _ q => ⟨(x1b, iadd x11 1), (som hm2w).symm, ⟨(q.k (s4 z z z z)), (bup (bup (bup s14 s1i) s2u) s2y), h2z, (iA _ _)⟩⟩))))))
  exact WC_exit (fun a' ha' => QO_brk (som (ifF hm1v hc1j)).symm ⟨(Sat.weaken ha' (s2 z z)), (bup s14 s1i), h1f, h1g⟩)
 ·rintro ⟨x12, x11⟩ a30 w40 rfl ⟨hS41, s1n, h1f, h1g⟩
  have hm31 := elL hm1t
  have hm20 := un2S hm31
  revert a30
  refine Wo (Wq (Ws (Rm z (R z (lss z z) (Wn (Wc z (fun hc1o => ?_) (fun hc1o => ?_)))))))
  ·refine Ws (Ra z (Wn ?_))
   obtain rfl := som (ifT hm20 hc1o)
   exact Wr (ret1 hr z ⟨(bup (bup h15 s16) s1n), z, (lb z)⟩)
  refine Wk (Ws (Rm z (Rm z ?_)))
  obtain ⟨x42, e32, hm33⟩ := bdS (ifF hm20 hc1o)
  refine RX z (at_ (α := StoredFile) d_59 z_63 z z z (h1d.ext s1n) e32) ?_
  rintro _ ⟨b43, o44, cs45, rfl, h34, h35, h46⟩
  obtain ⟨a47, n48, c49, rfl, h36, h4a, h4b⟩ := StoredFile_open h35
  refine R z (fd f_63_0 z) (R z (l1 g_9 z fid (h34.at (j := 0) z)) (Ra z (Wn ?_)))
  obtain rfl := som hm33
  exact Wr (ret1 hr z ⟨(bup (bup h15 s16) s1n), z, h36⟩)
 rintro r4c ex4d a4e w4f rfl ⟨rfl, hq37⟩
 have hm38 := elR hm1t
 obtain rfl := som hm38
 exact ⟨hq37, z⟩
theorem W_w03 {x1 : Int} {x2 : Int} {x3 : Int} {res : Bool} (hm : M_impl_InRange x1 x2 x3 = some res) (hBw : B ≤ w0.z) (p1_0 : inI x1) (p2_0 : inI x2) (p3_0 : inI x3) : CallsR prog 117 [vI x1, vI x2, vI x3] w0 (Q11 w0 B res) := by
 unfold M_impl_InRange at hm
 refine goF func117 z z (lb z) fun fn hr => Ws (Ra z (Wn (Wq ?_)))
 obtain ⟨u13, hu12, hm14⟩ := bdS hm
 refine WC_cut (fun a w => ∃ (x11 : Bool), x11 = u13 ∧ Sat 15 [(6, vB x11)] a ∧ Below w0.z w0 w) ?_ ?_
 ·refine Wg (Rm z (Rm z (R z (rd_leq z z) (Rm z ?_))))
  rcases bs (decide (x2 ≤ x1)) with hc10 | hc10
  ·exact Rh z hc10 (mv z) (Rh z hc10 (mv z) (Rh z hc10 (rd_leq z z) (R z (pT z hc10 z) (Ra z (Wl (fun _ q => ⟨decide (x1 ≤ x3), som (ifT hu12 hc10), (q.k (s1 z)), (br w0)⟩))))))
  iterate 3 refine Nh z hc10 ?_
  exact R z (pF z hc10 z) (Ra z (Wl (fun _ q => ⟨false, som (ifF hu12 hc10), (q.k (s1 z)), (br w0)⟩)))
 rintro a15 w17 ⟨x11, rfl, hS18, s16⟩
 revert a15
 refine Wo ?_
 obtain rfl := som hm14
 exact Wr (ret1 hr z ⟨s16, z⟩)
theorem W_w0g {x1 : Desc} {x2 : Int} {res : Bool} (hm : M_impl_hasRule x1 x2 = some res) (hBw : B ≤ w0.z) (p1_0 : repS w0 B (sl A0 N0 C0) x1.rules) (p2_0 : inI x2) : CallsR prog 150 [(.agg #[sl A0 N0 C0]), vI x2] w0 (Q11 w0 B res) := by
 unfold M_impl_hasRule at hm
 refine goF func150 z z (lb z) fun fn hr => Ws (E z (fb z) ?_)
 rintro _ w11 ⟨rfl, h13⟩
 have h14 := h13.below
 have h16 : Blk w11 w0.z [sl A0 N0 C0] := h13.blk
 refine Ra z (Wn (Wq ?_))
 obtain ⟨u17, hu15, hm18⟩ := bdS hm
 refine WC_cut (fun a w => ∃ (x12 : Bool), x12 = u17 ∧ Sat 14 [(4, vB x12)] a ∧ Below w11.z w11 w) ?_ ?_
 ·refine Wg (Rm z (R z (rd_geq z z) (Rm z ?_)))
  rcases bs (decide (0 ≤ x2)) with hc10 | hc10
  ·exact Rh z hc10 (mv z) (Rh z hc10 (fd f_95_0 z) (Rh z hc10 (l1 g_93 z fid (h16.at z)) (Rh z hc10 (lnR d_93 z (p1_0.ext h14)) (Rh z hc10 (lss z z) (R z (pT z hc10 z) (Ra z (Wl (fun _ q => ⟨decide (x2 < (x1.rules.length : Int)), som (ifT hu15 hc10), (q.k (s1 z)), (br w11)⟩))))))))
  iterate 5 refine Nh z hc10 ?_
  exact R z (pF z hc10 z) (Ra z (Wl (fun _ q => ⟨false, som (ifF hu15 hc10), (q.k (s1 z)), (br w11)⟩)))
 rintro a19 w1b ⟨x12, rfl, hS1c, s1a⟩
 revert a19
 refine Wo ?_
 obtain rfl := som hm18
 exact Wr (ret1 hr z ⟨(bup h14 s1a), z⟩)
theorem W_w0h {x1 : Str} {res : Bool} (hm : M_impl_IsName n x1 = some res) (hBw : B ≤ w0.z) (p1_0 : x1.b.length ≤ LEN) : CallsR prog 116 [Str.v x1] w0 (Q11 w0 B res) := by
 unfold M_impl_IsName at hm
 refine goF func116 z z (lb z) fun fn hr => Ws (Ra z (Wn (Wq (Wq ?_))))
 obtain ⟨u22, hu1o, hm1p⟩ := bdS hm
 refine WC_cut (fun a w => ∃ (x1g : Bool), x1g = u22 ∧ Sat 43 [(0, Str.v x1), (14, vB x1g)] a ∧ Below w0.z w0 w) ?_ ?_
 ·refine Wg (Rm z (R z (lnT d_9 z) (R z (lss z z) (Rm z ?_))))
  rcases bs (decide ((x1.b.length : Int) < 1)) with hc14 | hc14
  ·iterate 3 refine Nh z hc14 ?_
   exact R z (pT z hc14 z) (Wl (fun _ q => ⟨true, som (ifT hu1o hc14), (q.k (s2 z z)), (br w0)⟩))
  exact Rh z hc14 (mv z) (Rh z hc14 (lnT d_9 z) (Rh z hc14 (rd_gtr z z) (R z (pF z hc14 z) (Wl (fun _ q => ⟨decide (12 < (x1.b.length : Int)), som (ifF hu1o hc14), (q.k (s2 z z)), (br w0)⟩)))))
 rintro a23 w10 ⟨x1g, rfl, hS2u, s19⟩
 revert a23
 refine Wo (Wc z (fun hc1h => ?_) (fun hc1h => ?_))
 ·refine Ws (Ra z (Wn ?_))
  obtain rfl := som (ifT hm1p hc1h)
  exact Wr (ret1 hr z ⟨s19, z⟩)
 refine Wk (Wq (Ws (Rm z (E z (ef_range d_9 z) ?_))))
 rintro _ w13 ⟨rfl, s1q, h24⟩
 refine Wn ?_
 obtain ⟨u2v, hu25, hm1r⟩ := bdS (ifF hm1p hc1h)
 refine WC_iter (σ := Nat) (ρ := Bool) (fun (x11 : Nat) a w => Sat 43 [(16, pt w10.z)] a ∧ Chg (· ∈ [w10.z]) w13 w ∧ IterAt w w10.z x1 x11) (fun (x11 : Nat) a w => Sat 43 [] a ∧ Chg (· ∈ [w10.z]) w13 w ∧ IterAt w w10.z x1 x11) (fun r ex a w => ex = .ret ∧ RetPost prog fn (Q11 w0 B r) a w) hu25 ?_ ?_ ?_ ?_
 ·exact fun _ q => ⟨(q.k (s1 z)), (cr [w10.z] w13), h24⟩
 ·rintro x11 a2w w1s o2x ⟨hS26, s1i, h1e⟩ hm1t
  refine Wu ?_ hS26
  refine Ws ?_
  rcases bs (decide (x11 < x1.b.length)) with hc1a | hc1a
  ·refine E z (ef_nextT z h1e (of_decide_eq_true hc1a)) ?_
   rintro _ w1b ⟨rfl, h27, s1u⟩
   refine R z (ext_ z z) (Wn (Wq (Wc z (fun _ => ?_) (fun hc => (bcon z hc).elim))))
   refine Wk (WC_block (Ws (R z (ext_ z z) (R z (ext_ z z) (Ra z (Ra z (Wn (Wq ?_))))))))
   obtain ⟨u28, hu1v, hm29⟩ := bdS (ifT hm1t hc1a)
   refine WC_cut (fun a w => ∃ (x1c : Bool), x1c = u28 ∧ Sat 43 [(3, vI (x11 : Int)), (4, (.int .i32 ((dec x1 x11).1))), (5, vB x1c), (16, pt w10.z)] a ∧ Below w1b.z w1b w) ?_ ?_
   ·refine Wg (Rm z (R z (rd_geq z z) (Rm z ?_)))
    rcases bs (decide (97 ≤ ((dec x1 x11).1))) with hc15 | hc15
    ·exact Rh z hc15 (mv z) (Rh z hc15 (rd_leq z z) (R z (pT z hc15 z) (Ra z (Wl (fun _ q => ⟨decide (((dec x1 x11).1) ≤ 122), som (ifT hu1v hc15), (q.k (s4 z z z z)), (br w1b)⟩)))))
    exact Nh z hc15 (Nh z hc15 (R z (pF z hc15 z) (Ra z (Wl (fun _ q => ⟨false, som (ifF hu1v hc15), (q.k (s4 z z z z)), (br w1b)⟩)))))
   rintro a2a w1d ⟨x1c, rfl, hS2y, s1j⟩
   revert a2a
   refine Wo (Wq ?_)
   obtain ⟨u2b, hu1w, hm2c⟩ := bdS hm29
   refine WC_cut (fun a w => ∃ (x1f : Bool), x1f = u2b ∧ Sat 43 [(3, vI (x11 : Int)), (5, vB x1c), (6, vB x1f), (16, pt w10.z)] a ∧ Below w1d.z w1d w) ?_ ?_
   ·refine Wg (Rm z (R z (rd_geq z z) (Rm z ?_)))
    rcases bs (decide (48 ≤ ((dec x1 x11).1))) with hc16 | hc16
    ·exact Rh z hc16 (mv z) (Rh z hc16 (rd_leq z z) (R z (pT z hc16 z) (Ra z (Wl (fun _ q => ⟨decide (((dec x1 x11).1) ≤ 57), som (ifT hu1w hc16), (q.k (s4 z z z z)), (br w1d)⟩)))))
    exact Nh z hc16 (Nh z hc16 (R z (pF z hc16 z) (Ra z (Wl (fun _ q => ⟨false, som (ifF hu1w hc16), (q.k (s4 z z z z)), (br w1d)⟩)))))
   rintro a2d w18 ⟨x1f, rfl, hS2z, s1k⟩
   revert a2d
   refine Wo (Wq ?_)
   obtain ⟨u2e, hu1x, hm1y⟩ := bdS hm2c
   refine WC_cut (fun a w => ∃ (x1l : Bool), x1l = u2e ∧ Sat 43 [(16, pt w10.z), (42, vB x1l)] a ∧ Below w18.z w18 w) ?_ ?_
   ·refine Wg (Rm z (R z (not_ z) (Rm z ?_)))
    rcases bs (!x1c) with hc12 | hc12
    ·have hm1z := ifT hu1x hc12
     refine Rh z hc12 (mv z) (Rh z hc12 (not_ z) (Rh z hc12 (mv z) ?_))
     rcases bs (!x1f) with hc17 | hc17
     ·exact Nh z hc17 (Nh z hc17 (Rh z hc12 (pT z hc17 z) (R z (pT z hc12 z) (Wl (fun _ q => ⟨true, som (ifT hm1z hc17), (q.k (s2 z z)), (br w18)⟩)))))
     exact Rh z hc17 (mv z) (Rh z hc17 (eql z z) (Rh z hc12 (pF z hc17 z) (R z (pT z hc12 z) (Wl (fun _ q => ⟨(x11 : Int) == 0, som (ifF hm1z hc17), (q.k (s2 z z)), (br w18)⟩)))))
    iterate 3 refine Nh z hc12 ?_
    exact Nv z (Nv z (Nh z hc12 (R z (pF z hc12 z) (Wl (fun _ q => ⟨false, som (ifF hu1x hc12), (q.k (s2 z z)), (br w18)⟩)))))
   rintro a2f w2g ⟨x1l, rfl, hS30, s1m⟩
   revert a2f
   refine Wo (Wc z (fun hc1n => ?_) (fun hc1n => ?_))
   ·refine Ws (Ra z (Wn ?_))
    have h20 := mem1le s19.size
    exact Wr (rtO (QO_retL (som (ifT hm1y hc1n)).symm (ret1 hr z ⟨(bup (bup (bup (bM (bM (bup s19 s1q) s1i h20) s1u h20) s1j) s1k) s1m), z⟩)))
   refine WC_skip ?_
   have h2h : Chg (· ∈ [w10.z]) w13 w1s := cM (cr [w10.z] w13) s1i (io sr)
   have h2i : Chg (· ∈ [w10.z]) w13 w1b := cM h2h s1u (io sr)
   have h2j : Chg (· ∈ [w10.z]) w13 w1d := cext h2i s1j
   have h2k : Chg (· ∈ [w10.z]) w13 w18 := cext h2j s1k
   have h2l : Chg (· ∈ [w10.z]) w13 w2g := cext h2k s1m
   exact fun _ q => ⟨x11 + (dec x1 x11).2, (som (ifF hm1y hc1n)).symm, ⟨(q.k (s1 z)), h2l, (((h27.ext s1j).ext s1k).ext s1m)⟩⟩
  refine E z (ef_nextF z h1e (of_decide_eq_false hc1a)) ?_
  rintro _ w2m ⟨rfl, s21⟩
  refine R z (ext_ z z) (Wn (Wq (Wc z (fun hc => (bcon hc z).elim) (fun _ => ?_))))
  have h2n : Chg (· ∈ [w10.z]) w13 w1s := cM (cr [w10.z] w13) s1i (io sr)
  have h2o : Chg (· ∈ [w10.z]) w13 w2m := cext h2n s21
  exact WC_exit (fun a' ha' => QO_brk (som (ifF hm1t hc1a)).symm ⟨(Sat.weaken ha' sn), h2o, (h1e.ext s21)⟩)
 ·rintro x11 a2p w31 rfl ⟨hS32, s2q, h1e⟩
  have hm2r := elL hm1r
  revert a2p
  refine Wo (Ws (Ra z (Wn ?_)))
  obtain rfl := som hm2r
  exact Wr (ret1 hr z ⟨(bM (bup s19 s1q) s2q (mem1le s19.size)), z⟩)
 rintro r33 ex34 a35 w36 rfl ⟨rfl, hq2s⟩
 have hm2t := elR hm1r
 obtain rfl := som hm2t
 exact ⟨hq2s, z⟩
theorem W_w05 {x1 : Rule} {x2 : Bool} {x3 : Bool} {x4 : Bool} {x5 : Bool} {x6 : Int} {res : Bool} (hm : M_impl_plainRule x1 x2 x3 x4 x5 x6 = some res) (hBw : B ≤ w0.z) (p1_0 : x1.name.b.length ≤ LEN) (p1_1 : inI x1.kind) (p1_2 : inI x1.size) (p1_4 : repS w0 B (sl A9 N9 C9) x1.bytes) (p1_5 : repS w0 B (sl A8 N8 C8) x1.names) (p1_6 : repS w0 B (sl AA NA CA) x1.tags) (p1_7 : repS w0 B (sl AB NB CB) x1.kids) (p6_0 : inI x6) : CallsR prog 177 [(.agg #[Str.v x1.name, vI x1.kind, vI x1.size, vB x1.little, sl A9 N9 C9, sl A8 N8 C8, sl AA NA CA, sl AB NB CB]), vB x2, vB x3, vB x4, vB x5, vI x6] w0 (Q11 w0 B res) := by
 unfold M_impl_plainRule at hm
 refine goF func177 z z (lb z) fun fn hr => Ws (E z (fb z) ?_)
 rintro _ w19 ⟨rfl, h1d⟩
 have h1a := h1d.below
 have h1b : Blk w19 w0.z (vR x1 A9 N9 C9 A8 N8 C8 AA NA CA AB NB CB) := h1d.blk
 refine Ra z (Wn (Wq ?_))
 obtain ⟨u1r, hu1s, hm1t⟩ := bdS hm
 refine WC_cut (fun a w => ∃ (x1c : Bool), x1c = u1r ∧ Sat 57 [(12, vB x1c)] a ∧ Below w19.z w19 w) ?_ ?_
 ·refine Wg (Rm z (Rm z ?_))
  obtain ⟨u1e, hu1f, hm1u⟩ := bdS hu1s
  refine WLcut 18 u1e 4 ?_ ?_
  ·rcases bs x2 with hc18 | hc18
   ·iterate 3 refine Nh z hc18 ?_
    exact R z (pT z hc18 z) (WLq 4 (ifT hu1f hc18) z z z)
   exact Rh z hc18 (fd f_144_2 z) (Rh z hc18 (l1 g_3 z fid (h1b.at z)) (Rh z hc18 (eql z z) (R z (pF z hc18 z) (WLq 4 (ifF hu1f hc18) z z z))))
  refine Rm z ?_
  obtain ⟨u1g, hu1h, hm1v⟩ := bdS hm1u
  refine WLcut 27 u1g 8 ?_ ?_
  ·rcases bs u1e with hc10 | hc10
   ·have hm1i := ifT hu1h hc10
    refine Rh z hc10 (mv z) (Rh z hc10 (mv z) ?_)
    rcases bs x3 with hc15 | hc15
    ·iterate 4 refine Nh z hc15 ?_
     exact Rh z hc10 (pT z hc15 z) (R z (pT z hc10 z) (WLq 8 (ifT hm1i hc15) z z z))
    exact Rh z hc15 (fd f_144_4 z) (Rh z hc15 (l1 g_25 z fid (h1b.at z)) (Rh z hc15 (lnR d_25 z (p1_4.ext h1a)) (Rh z hc15 (eql z z) (Rh z hc10 (pF z hc15 z) (R z (pT z hc10 z) (WLq 8 (ifF hm1i hc15) z z z))))))
   exact Nh z hc10 (Nh z hc10 (Nv z (Nv z (Nv z (Nv z (Nh z hc10 (R z (pF z hc10 z) (WLq 8 (ifF hu1h hc10) z z z))))))))
  refine Rm z ?_
  obtain ⟨u1j, hu1k, hm1w⟩ := bdS hm1v
  refine WLcut 36 u1j 8 ?_ ?_
  ·rcases bs u1g with hc11 | hc11
   ·have hm1l := ifT hu1k hc11
    refine Rh z hc11 (mv z) (Rh z hc11 (mv z) ?_)
    rcases bs x4 with hc16 | hc16
    ·iterate 4 refine Nh z hc16 ?_
     exact Rh z hc11 (pT z hc16 z) (R z (pT z hc11 z) (WLq 8 (ifT hm1l hc16) z z z))
    exact Rh z hc16 (fd f_144_5 z) (Rh z hc16 (l1 g_41 z fid (h1b.at z)) (Rh z hc16 (lnR d_41 z (p1_5.ext h1a)) (Rh z hc16 (eql z z) (Rh z hc11 (pF z hc16 z) (R z (pT z hc11 z) (WLq 8 (ifF hm1l hc16) z z z))))))
   exact Nh z hc11 (Nh z hc11 (Nv z (Nv z (Nv z (Nv z (Nh z hc11 (R z (pF z hc11 z) (WLq 8 (ifF hu1k hc11) z z z))))))))
  refine Rm z ?_
  obtain ⟨u1m, hu1n, hm1o⟩ := bdS hm1w
  refine WLcut 45 u1m 8 ?_ ?_
  ·rcases bs u1j with hc12 | hc12
   ·have hm1p := ifT hu1n hc12
    refine Rh z hc12 (mv z) (Rh z hc12 (mv z) ?_)
    rcases bs x5 with hc17 | hc17
    ·iterate 4 refine Nh z hc17 ?_
     exact Rh z hc12 (pT z hc17 z) (R z (pT z hc12 z) (WLq 8 (ifT hm1p hc17) z z z))
    exact Rh z hc17 (fd f_144_6 z) (Rh z hc17 (l1 g_142 z fid (h1b.at z)) (Rh z hc17 (lnR d_142 z (p1_6.ext h1a)) (Rh z hc17 (eql z z) (Rh z hc12 (pF z hc17 z) (R z (pT z hc12 z) (WLq 8 (ifF hm1p hc17) z z z))))))
   exact Nh z hc12 (Nh z hc12 (Nv z (Nv z (Nv z (Nv z (Nh z hc12 (R z (pF z hc12 z) (WLq 8 (ifF hu1n hc12) z z z))))))))
  refine Rm z ?_
  rcases bs u1m with hc13 | hc13
  ·have hm1q := ifT hm1o hc13
   refine Rh z hc13 (mv z) (Rh z hc13 (lss z z) (Rh z hc13 (mv z) ?_))
   rcases bs (decide (x6 < 0)) with hc14 | hc14
   ·iterate 5 refine Nh z hc14 ?_
    exact Rh z hc13 (pT z hc14 z) (R z (pT z hc13 z) (Ra z (Wl (fun _ q => ⟨true, som (ifT hm1q hc14), (q.k (s1 z)), (br w19)⟩))))
   exact Rh z hc14 (fd f_144_7 z) (Rh z hc14 (l1 g_142 z fid (h1b.at z)) (Rh z hc14 (lnR d_142 z (p1_7.ext h1a)) (Rh z hc14 (mv z) (Rh z hc14 (eql z z) (Rh z hc13 (pF z hc14 z) (R z (pT z hc13 z) (Ra z (Wl (fun _ q => ⟨(x1.kids.length : Int) == x6, som (ifF hm1q hc14), (q.k (s1 z)), (br w19)⟩)))))))))
  iterate 3 refine Nh z hc13 ?_
  exact Nv z (Nv z (Nv z (Nv z (Nv z (Nh z hc13 (R z (pF z hc13 z) (Ra z (Wl (fun _ q => ⟨false, som (ifF hm1o hc13), (q.k (s1 z)), (br w19)⟩)))))))))
 rintro a1x w1z ⟨x1c, rfl, hS20, s1y⟩
 revert a1x
 refine Wo ?_
 obtain rfl := som hm1t
 exact Wr (ret1 hr z ⟨(bup h1a s1y), z⟩)
theorem W_w0i {x1 : Desc} {x2 : Int} {res : Int} (hm : M_impl_IntegerLimit x1 x2 = some res) (hBw : B ≤ w0.z) (p1_0 : repS w0 B (sl A0 N0 C0) x1.rules) (p2_0 : inI x2) : CallsR prog 178 [(.agg #[sl A0 N0 C0]), vI x2] w0 (Q0 w0 B res) := by
 unfold M_impl_IntegerLimit at hm
 refine goF func178 z z (lb z) fun fn hr => Ws (E z (fb z) ?_)
 rintro _ w15 ⟨rfl, h19⟩
 have h12 := h19.below
 have h16 : Blk w15 w0.z [sl A0 N0 C0] := h19.blk
 refine Ra z (Wn (Wq (Wq ?_)))
 obtain ⟨u1g, hu1h, hm1a⟩ := bdS hm
 refine WC_cut (fun a w => ∃ (x17 : Bool), x17 = u1g ∧ Sat 37 [(1, vI x2), (2, pt w0.z), (27, vB x17)] a ∧ Below w15.z w15 w) ?_ ?_
 ·refine Wg (R z (lN (vs := [sl A0 N0 C0]) g_95 z_95 z z fid (h16.row 0 1 z)) (Rm z ?_))
  have h1b := p1_0.ext h12
  obtain ⟨r1i, e1j, hm1c⟩ := bdS hu1h
  refine E z (fc call150 z (W_w0g (B := B) e1j (lt_ hBw h12.size) h1b p2_0)) ?_
  rintro _ w24 ⟨s13, rfl⟩
  refine R z (not_ z) (Rm z ?_)
  rcases bs (!r1i) with hc11 | hc11
  ·iterate 7 refine Nh z hc11 ?_
   exact R z (pT z hc11 z) (Rm z (Nh z z (Nh z z (Nh z z (Nh z z (Nh z z (Nh z z (Nh z z (Nh z z (R z (pT z z z) (Wl (fun _ q => ⟨true, som (ifT hm1c hc11), (q.k (s3 z z z)), s13⟩))))))))))))
  refine Rh z hc11 (fd f_95_0 z) ?_
  have h1d := h16.ext s13
  refine Rh z hc11 (l1 g_93 z fid (h1d.at z)) (Rh z hc11 (mv z) ?_)
  obtain ⟨x1k, e1l, hm1e⟩ := bdS (ifF hm1c hc11)
  have h1f := h1b.ext s13
  refine RXg z z hc11 z (at_ (α := Rule) d_93 z_144 z z z h1f e1l) ?_
  rintro _ ⟨b25, o26, cs27, rfl, h1m, h1n, h28⟩
  obtain ⟨a29, n2a, c2b, a2c, n2d, c2e, a2f, n2g, c2h, a2i, n2j, c2k, rfl, h2l, h2m, h2n, h2o, h2p, h2q, h2r⟩ := Rule_open h1n
  refine Rh z hc11 (fd f_144_1 z) (Rh z hc11 (l1 g_3 z fid (h1m.at (j := 1) z)) (Rh z hc11 (nq z z) (R z (pF z hc11 z) (Rm z ?_))))
  rcases bs (x1k.kind != 1) with hc10 | hc10
  ·iterate 8 refine Nh z hc10 ?_
   exact R z (pT z hc10 z) (Wl (fun _ q => ⟨true, som (ifT hm1e hc10), (q.k (s3 z z z)), s13⟩))
  refine Rh z hc10 (fd f_95_0 z) (Rh z hc10 (l1 g_93 z fid (h1d.at z)) (Rh z hc10 (mv z) ?_))
  obtain ⟨x2s, e1o, hm1p⟩ := bdS (ifF hm1e hc10)
  refine RXg z z hc10 z (at_ (α := Rule) d_93 z_144 z z z h1f e1o) ?_
  rintro _ ⟨b2t, o2u, cs2v, rfl, h1q, h1r, h2w⟩
  obtain ⟨a2x, n2y, c2z, a30, n31, c32, a33, n34, c35, a36, n37, c38, rfl, h39, h3a, h1s, h3b, h3c, h3d, h3e⟩ := Rule_open h1r
  refine Rh z hc10 (fd f_144_2 z) (Rh z hc10 (l1 g_3 z fid (h1q.at (j := 2) z)) ?_)
  obtain ⟨r1t, e1u, hm1v⟩ := bdS hm1p
  refine Eg z z hc10 z (fc call117 z (W_w03 (B := B) e1u (lt_ hBw (lt_ h12.size s13.size)) h1s (ii z) (ii z))) ?_
  rintro _ w3f ⟨s1w, rfl⟩
  exact Rh z hc10 (not_ z) (R z (pF z hc10 z) (Wl (fun _ q => ⟨!r1t, som hm1v, (q.k (s3 z z z)), (bup s13 s1w)⟩)))
 rintro a1x w3g ⟨x17, rfl, hS3h, s14⟩
 revert a1x
 refine Wo (Wc z (fun hc18 => ?_) (fun hc18 => ?_))
 ·refine Ws (Ra z (Wn ?_))
  obtain rfl := som (ifT hm1a hc18)
  exact Wr (ret1 hr z ⟨(bup h12 s14), z, (ii z)⟩)
 refine Wk (Ws (R z (fd f_95_0 z) (R z (l1 g_93 z fid ((h16.ext s14).at z)) (Rm z ?_))))
 obtain ⟨x3i, e1y, hm1z⟩ := bdS (ifF hm1a hc18)
 refine RX z (at_ (α := Rule) d_93 z_144 z z z ((p1_0.ext h12).ext s14) e1y) ?_
 rintro _ ⟨b3j, o3k, cs3l, rfl, h20, h21, h3m⟩
 obtain ⟨a3n, n3o, c3p, a3q, n3r, c3s, a3t, n3u, c3v, a3w, n3x, c3y, rfl, h3z, h40, h41, h42, h43, h44, h45⟩ := Rule_open h21
 refine R z (fd f_144_2 z) (R z (l1 g_3 z fid (h20.at (j := 2) z)) (R z (rd_mul z z) ?_))
 obtain ⟨u46, e22, hm23⟩ := bdS hm1z
 refine R z (rd_shl z z (nnS e22)) (R z (sb_ z z) (Ra z (Wn ?_)))
 obtain rfl := som hm23
 exact Wr (ret1 hr z ⟨(bup h12 s14), z, (iS _ _)⟩)
theorem W_w2k {x1 : List Str} {x2 : Str} {res : Bool} (hm : M_impl_ContainsText x1 x2 = some res) (hBw : B ≤ w0.z) (p1_0 : repS w0 B (sl A0 N0 C0) x1) (p2_0 : x2.b.length ≤ LEN) : CallsR prog 202 [sl A0 N0 C0, Str.v x2] w0 (Q11 w0 B res) := by
 unfold M_impl_ContainsText at hm
 refine goF func202 z z (lb z) fun fn hr => Ws (Ra z (Wn (Wq (Ws (Rm z (R z (lnR d_41 z p1_0) (Rm z (Wn ?_))))))))
 obtain ⟨u1j, hu16, hm13⟩ := bdS hm
 refine WC_forN (σ := Unit) (ρ := Bool) (fun (k10 : Nat) (_ : Unit) a w => Sat 17 [(1, Str.v x2), (7, sl A0 N0 C0), (8, vI (x1.length : Int)), (9, (vI ((k10 : Nat) : Int)))] a ∧ Below w0.z w0 w) (fun (_ : Unit) a w => Sat 17 [] a ∧ Below w0.z w0 w) (fun r ex a w => ex = .ret ∧ RetPost prog fn (Q11 w0 B r) a w) hu16 ?_ ?_ ?_ ?_ ?_
 ·exact fun _ q => ⟨(q.k (s4 z z z z)), (br w0)⟩
 ·rintro k10 _ a1k w1l o1m hk14 ⟨hS17, s11⟩ hm18
  refine Wu ?_ hS17
  refine Ws (R z (lss z z) (Wn (Wq (Wc z (fun _ => ?_) (fun hc => (nolt hk14 hc).elim)))))
  refine Wk (Wq (WC_block (Ws ?_)))
  obtain ⟨x1n, e19, hm15⟩ := bdS hm18
  refine RX z (at_ (α := Str) d_41 z_9 z z z (p1_0.ext s11) e19) ?_
  rintro _ ⟨b1o, o1p, cs1q, rfl, h1a, h1b, h1r⟩
  obtain ⟨rfl, h1s⟩ := Str_open h1b
  refine R z (l1 g_9 z fid (h1a.at0 z)) (Ra z (Wn (Ws (Rm z (Rm z (R z (rd_eqlT z z) (Wn (Wc z (fun hc12 => ?_) (fun hc12 => ?_)))))))))
  ·exact Ws (Ra z (Wn (Wr (rtO (QO_retL (som (ifT hm15 hc12)).symm (ret1 hr z ⟨s11, z⟩))))))
  exact Wk (Wg (R z (inc_ hk14 (lt_ (repS.len p1_0) LEN_le) z z) (Rm z (Wl (fun _ q => ⟨(), (som (ifF hm15 hc12)).symm, ⟨(q.k (s4 z z z z)), s11⟩⟩)))))
 ·rintro _ a1t w1u ⟨hS1c, s1d⟩
  refine Wu ?_ hS1c
  refine Ws (R z (lss z z) (Wn (Wq (Wc z (fun hc => (noltt hc).elim) (fun _ => ?_)))))
  exact WC_exit (fun a' ha' => ⟨rfl, ⟨(Sat.weaken ha' sn), s1d⟩⟩)
 ·rintro _ a1e w1v rfl ⟨hS1w, s1f⟩
  have hm1g := elL hm13
  revert a1e
  refine Wo (Ws (Ra z (Wn ?_)))
  obtain rfl := som hm1g
  exact Wr (ret1 hr z ⟨s1f, z⟩)
 rintro r1x ex1y a1z w20 rfl ⟨rfl, hq1h⟩
 have hm1i := elR hm13
 obtain rfl := som hm1i
 exact ⟨hq1h, z⟩
theorem W_w2l {x1 : Rule} {res : Bool} (hm : M_impl_validSequence n x1 = some res) (hBw : B ≤ w0.z) (p1_0 : x1.name.b.length ≤ LEN) (p1_1 : inI x1.kind) (p1_2 : inI x1.size) (p1_4 : repS w0 B (sl A9 N9 C9) x1.bytes) (p1_5 : repS w0 B (sl A8 N8 C8) x1.names) (p1_6 : repS w0 B (sl AA NA CA) x1.tags) (p1_7 : repS w0 B (sl AB NB CB) x1.kids) : CallsR prog 179 [(.agg #[Str.v x1.name, vI x1.kind, vI x1.size, vB x1.little, sl A9 N9 C9, sl A8 N8 C8, sl AA NA CA, sl AB NB CB])] w0 (Q11 w0 B res) := by
 unfold M_impl_validSequence at hm
 refine goF func179 z z (lb z) fun fn hr => Ws (E z (fb z) ?_)
 rintro _ w1a ⟨rfl, h1i⟩
 have h12 := h1i.below
 have h1b : Blk w1a w0.z (vR x1 A9 N9 C9 A8 N8 C8 AA NA CA AB NB CB) := h1i.blk
 refine Ra z (Wn (Wq (Wq ?_)))
 obtain ⟨u1z, hu20, hm1j⟩ := bdS hm
 refine WC_cut (fun a w => ∃ (x1c : Bool), x1c = u1z ∧ Sat 44 [(1, pt w0.z), (23, vB x1c)] a ∧ Below w1a.z w1a w) ?_ ?_
 ·refine Wg (R z (lN (vs := (vR x1 A9 N9 C9 A8 N8 C8 AA NA CA AB NB CB)) g_144 z_144 z z fid (h1b.row 0 8 z)) ?_)
  have h1k := p1_5.ext h12
  have h1l := p1_7.ext h12
  obtain ⟨r21, e22, hm1m⟩ := bdS hu20
  refine E z (fc call177 z (W_w05 (B := B) e22 (lt_ hBw h12.size) p1_0 p1_1 p1_2 (p1_4.ext h12) h1k (p1_6.ext h12) h1l (ii z))) ?_
  rintro _ w2y ⟨s14, rfl⟩
  refine R z (not_ z) (Rm z ?_)
  rcases bs (!r21) with hc10 | hc10
  ·iterate 7 refine Nh z hc10 ?_
   exact R z (pT z hc10 z) (Rm z (Nh z z (Nh z z (Nh z z (Nh z z (Nh z z (R z (pT z z z) (Wl (fun _ q => ⟨true, som (ifT hm1m hc10), (q.k (s2 z z)), s14⟩)))))))))
  have hm1n := ifF hm1m hc10
  refine Rh z hc10 (fd f_144_7 z) ?_
  have h1d := h1b.ext s14
  refine Rh z hc10 (l1 g_142 z fid (h1d.at z)) ?_
  have h1e := h1l.ext s14
  refine Rh z hc10 (lnR d_142 z h1e) (Rh z hc10 (fd f_144_5 z) (Rh z hc10 (l1 g_41 z fid (h1d.at z)) (Rh z hc10 (lnR d_41 z (h1k.ext s14)) (Rh z hc10 (nq z z) (R z (pF z hc10 z) (Rm z ?_))))))
  rcases bs ((x1.kids.length : Int) != (x1.names.length : Int)) with hc13 | hc13
  ·iterate 5 refine Nh z hc13 ?_
   exact R z (pT z hc13 z) (Wl (fun _ q => ⟨true, som (ifT hm1n hc13), (q.k (s2 z z)), s14⟩))
  refine Rh z hc13 (fd f_144_7 z) (Rh z hc13 (l1 g_142 z fid (h1d.at z)) (Rh z hc13 (lnR d_142 z h1e) ?_))
  obtain ⟨r23, e24, hm25⟩ := bdS (ifF hm1n hc13)
  refine Eg z z hc13 z (fc call117 z (W_w03 (B := B) e24 (lt_ hBw (lt_ h12.size s14.size)) (inI_len (repS.len h1e)) (ii z) (ii z))) ?_
  rintro _ w2z ⟨s26, rfl⟩
  exact Rh z hc13 (not_ z) (R z (pF z hc13 z) (Wl (fun _ q => ⟨!r23, som hm25, (q.k (s2 z z)), (bup s14 s26)⟩)))
 rintro a27 w16 ⟨x1c, rfl, hS30, s15⟩
 revert a27
 refine Wo (Wc z (fun hc1f => ?_) (fun hc1f => ?_))
 ·refine Ws (Ra z (Wn ?_))
  obtain rfl := som (ifT hm1j hc1f)
  exact Wr (ret1 hr z ⟨(bup h12 s15), z⟩)
 refine Wk (Wq (Ws (R z (fd f_144_5 z) ?_)))
 have h1o := h1b.ext s15
 refine R z (l1 g_41 z fid (h1o.at z)) ?_
 have h1p := (p1_5.ext h12).ext s15
 refine R z (lnR d_41 z h1p) (Rm z (Wn ?_))
 obtain ⟨u31, hu28, hm1q⟩ := bdS (ifF hm1j hc1f)
 refine WC_forN (σ := Unit) (ρ := Bool) (fun (k19 : Nat) (_ : Unit) a w => Sat 44 [(1, pt w0.z), (25, sl A8 N8 C8), (26, vI (x1.names.length : Int)), (27, (vI ((k19 : Nat) : Int)))] a ∧ Below w16.z w16 w) (fun (_ : Unit) a w => Sat 44 [] a ∧ Below w16.z w16 w) (fun r ex a w => ex = .ret ∧ RetPost prog fn (Q11 w0 B r) a w) hu28 ?_ ?_ ?_ ?_ ?_
 ·exact fun _ q => ⟨(q.k (s4 z z z z)), (br w16)⟩
 ·rintro k19 _ a32 w1r o33 hk1s ⟨hS29, s17⟩ hm2a
  refine Wu ?_ hS29
  refine Ws (R z (lss z z) (Wn (Wq (Wc z (fun _ => ?_) (fun hc => (nolt hk1s hc).elim)))))
  refine Wk (Wq (WC_block (Ws (Rm z ?_))))
  obtain ⟨x34, e2b, hm2c⟩ := bdS hm2a
  have h1t := h1p.ext s17
  refine RX z (at_ (α := Str) d_41 z_9 z z z h1t e2b) ?_
  rintro _ ⟨b35, o36, cs37, rfl, h2d, h2e, h38⟩
  obtain ⟨rfl, h1u⟩ := Str_open h2e
  refine R z (l1 g_9 z fid (h2d.at0 z)) (Ra z (Ra z (Wn (Wq ?_))))
  obtain ⟨u2f, hu2g, hm1v⟩ := bdS hm2c
  refine WC_cut (fun a w => ∃ (x1g : Bool), x1g = u2f ∧ Sat 44 [(1, pt w0.z), (25, sl A8 N8 C8), (26, vI (x1.names.length : Int)), (27, (vI ((k19 : Nat) : Int))), (42, vB x1g)] a ∧ Below w1r.z w1r w) ?_ ?_
  ·refine Wg (Rm z ?_)
   have h1w := lt_ (lt_ h12.size s15.size) s17.size
   obtain ⟨r2h, e2i, hm1x⟩ := bdS hu2g
   refine E z (fc call116 z (W_w0h (B := B) e2i (lt_ hBw h1w) h1u)) ?_
   rintro _ w39 ⟨s18, rfl⟩
   refine R z (not_ z) (Rm z ?_)
   rcases bs (!r2h) with hc11 | hc11
   ·iterate 6 refine Nh z hc11 ?_
    exact R z (pT z hc11 z) (Wl (fun _ q => ⟨true, som (ifT hm1x hc11), (q.k (s5 z z z z z)), s18⟩))
   refine Rh z hc11 (fd f_144_5 z) (Rh z hc11 (l1 g_41 z fid (((h1o.ext s17).ext s18).at z)) (Rh z hc11 (mv z) ?_))
   obtain ⟨x3a, e2j, hm2k⟩ := bdS (ifF hm1x hc11)
   refine RXg z z hc11 z (rd_sliceX d_41 z_9 z z (h1t.ext s18) z z e2j) ?_
   rintro _ ⟨a3b, n3c, c3d, rfl, h2l⟩
   refine Rh z hc11 (mv z) ?_
   obtain ⟨r2m, e2n, hm2o⟩ := bdS hm2k
   refine Eg z z hc11 z (fc call202 z (W_w2k (B := B) e2n (lt_ hBw (lt_ h1w s18.size)) h2l h1u)) ?_
   rintro _ w3e ⟨s2p, rfl⟩
   exact R z (pF z hc11 z) (Wl (fun _ q => ⟨r2m, som hm2o, (q.k (s5 z z z z z)), (bup s18 s2p)⟩))
  rintro a2q w3f ⟨x1g, rfl, hS3g, s1y⟩
  revert a2q
  refine Wo (Wc z (fun hc1h => ?_) (fun hc1h => ?_))
  ·exact Ws (Ra z (Wn (Wr (rtO (QO_retL (som (ifT hm1v hc1h)).symm (ret1 hr z ⟨(bup (bup (bup h12 s15) s17) s1y), z⟩))))))
  exact Wk (Wg (R z (inc_ hk1s (lt_ (repS.len p1_5) LEN_le) z z) (Rm z (Wl (fun _ q => ⟨(), (som (ifF hm1v hc1h)).symm, ⟨(q.k (s4 z z z z)), (bup s17 s1y)⟩⟩)))))
 ·rintro _ a3h w3i ⟨hS2r, s2s⟩
  refine Wu ?_ hS2r
  refine Ws (R z (lss z z) (Wn (Wq (Wc z (fun hc => (noltt hc).elim) (fun _ => ?_)))))
  exact WC_exit (fun a' ha' => ⟨rfl, ⟨(Sat.weaken ha' sn), s2s⟩⟩)
 ·rintro _ a2t w3j rfl ⟨hS3k, s2u⟩
  have hm2v := elL hm1q
  revert a2t
  refine Wo (Ws (Ra z (Wn ?_)))
  obtain rfl := som hm2v
  exact Wr (ret1 hr z ⟨(bup (bup h12 s15) s2u), z⟩)
 rintro r3l ex3m a3n w3o rfl ⟨rfl, hq2w⟩
 have hm2x := elR hm1q
 obtain rfl := som hm2x
 exact ⟨hq2w, z⟩
theorem W_w2m {x1 : Desc} {x2 : Rule} {res : Bool} (hm : M_impl_validChoice x1 x2 = some res) (hBw : B ≤ w0.z) (p1_0 : repS w0 B (sl A0 N0 C0) x1.rules) (p2_0 : x2.name.b.length ≤ LEN) (p2_1 : inI x2.kind) (p2_2 : inI x2.size) (p2_4 : repS w0 B (sl A2 N2 C2) x2.bytes) (p2_5 : repS w0 B (sl A4 N4 C4) x2.names) (p2_6 : repS w0 B (sl A1 N1 C1) x2.tags) (p2_7 : repS w0 B (sl A5 N5 C5) x2.kids) : CallsR prog 180 [(.agg #[sl A0 N0 C0]), (.agg #[Str.v x2.name, vI x2.kind, vI x2.size, vB x2.little, sl A2 N2 C2, sl A4 N4 C4, sl A1 N1 C1, sl A5 N5 C5])] w0 (Q11 w0 B res) := by
 unfold M_impl_validChoice at hm
 refine goF func180 z z (lb z) fun fn hr => Ws (E z (fb z) ?_)
 rintro _ w17 ⟨rfl, h1m⟩
 have h13 := h1m.below
 have h24 : Blk w17 w0.z [sl A0 N0 C0] := h1m.blk
 refine E z (fb z) ?_
 rintro _ w1g ⟨rfl, h1n⟩
 have h11 := h1n.below
 have h1f : Blk w1g w17.z (vR x2 A2 N2 C2 A4 N4 C4 A1 N1 C1 A5 N5 C5) := h1n.blk
 refine Ra z (Wn (Wq (Wq ?_)))
 obtain ⟨u25, hu26, hm1o⟩ := bdS hm
 refine WC_cut (fun a w => ∃ (x1h : Bool), x1h = u25 ∧ Sat 57 [(2, pt w0.z), (3, pt w17.z), (21, vB x1h)] a ∧ Below w1g.z w1g w) ?_ ?_
 ·refine Wg (R z (lN (vs := (vR x2 A2 N2 C2 A4 N4 C4 A1 N1 C1 A5 N5 C5)) g_144 z_144 z z fid (h1f.row 0 8 z)) (R z (fd f_144_6 z) (R z (l1 g_142 z fid (h1f.at z)) ?_)))
  have h1i := (p2_6.ext h13).ext h11
  refine R z (lnR d_142 z h1i) (R z (add_ z z) ?_)
  have h1p := lt_ h13.size h11.size
  obtain ⟨r27, e28, hm1q⟩ := bdS hu26
  refine E z (fc call177 z (W_w05 (B := B) e28 (lt_ hBw h1p) p2_0 p2_1 p2_2 ((p2_4.ext h13).ext h11) ((p2_5.ext h13).ext h11) h1i ((p2_7.ext h13).ext h11) (iA _ _))) ?_
  rintro _ w3c ⟨s18, rfl⟩
  refine R z (not_ z) (Rm z ?_)
  rcases bs (!r27) with hc14 | hc14
  ·iterate 5 refine Nh z hc14 ?_
   exact R z (pT z hc14 z) (Wl (fun _ q => ⟨true, som (ifT hm1q hc14), (q.k (s3 z z z)), s18⟩))
  refine Rh z hc14 (fd f_144_6 z) (Rh z hc14 (l1 g_142 z fid ((h1f.ext s18).at z)) ?_)
  have h1r := h1i.ext s18
  refine Rh z hc14 (lnR d_142 z h1r) ?_
  obtain ⟨r29, e2a, hm2b⟩ := bdS (ifF hm1q hc14)
  refine Eg z z hc14 z (fc call117 z (W_w03 (B := B) e2a (lt_ hBw (lt_ h1p s18.size)) (inI_len (repS.len h1r)) (ii z) (ii z))) ?_
  rintro _ w3d ⟨s2c, rfl⟩
  exact Rh z hc14 (not_ z) (R z (pF z hc14 z) (Wl (fun _ q => ⟨!r29, som hm2b, (q.k (s3 z z z)), (bup s18 s2c)⟩)))
 rintro a2d w3e ⟨x1h, rfl, hS3f, s15⟩
 revert a2d
 refine Wo (Wc z (fun hc1j => ?_) (fun hc1j => ?_))
 ·refine Ws (Ra z (Wn ?_))
  obtain rfl := som (ifT hm1o hc1j)
  exact Wr (ret1 hr z ⟨(bup (bup h13 h11) s15), z⟩)
 refine Wk (Wq (WC_draw (X := noX) 0 (.rd 0 (.rd 1 (.rd 2 (.rd 3 (.rd 4 (.ef 5 (.rd 6 .done))))))) mo (by kernel_rfl) fun w3g s16 _ => dR z z (lN (vs := [sl A0 N0 C0]) g_95 z_95 z z fid ((((h24.ext h11).ext s15).ext s16).row 0 1 z)) (dR z z (fd f_144_7 z) ?_)))
 have h1s := (h1f.ext s15).ext s16
 refine dR z z (l1 g_142 z fid (h1s.at z)) ?_
 obtain ⟨x3h, e2e, hm2f⟩ := bdS (ifF hm1o hc1j)
 refine dRX z z (at_ (α := Int) d_142 z_3 z z z ((((p2_7.ext h13).ext h11).ext s15).ext s16) e2e) ?_
 rintro _ ⟨b3i, o3j, cs3k, rfl, h2g, h2h, h3l⟩
 obtain ⟨rfl, h2i⟩ := Int_open h2h
 refine dR z z (l1 g_3 z fid (h2g.at0 z)) ?_
 have h1t := lt_ (lt_ (lt_ h13.size h11.size) s15.size) s16.size
 obtain ⟨r19, e2j, hm2k⟩ := bdS hm2f
 refine dE z z (fc call178 z (W_w0i (B := B) e2j (lt_ hBw h1t) ((((p1_0.ext h13).ext h11).ext s15).ext s16) h2i)) (.inr fun _ _ h => chgB (h.1)) ?_
 rintro _ w1a ⟨s1b, rfl, h2l⟩
 refine dR z z (asg z) (PR_done (Wo (Wq (Ws (R z (fd f_144_6 z) ?_)))))
 have h1u := h1s.ext s1b
 refine R z (l1 g_142 z fid (h1u.at z)) ?_
 have h1v := ((((p2_6.ext h13).ext h11).ext s15).ext s16).ext s1b
 refine R z (lnR d_142 z h1v) (Rm z (Wn ?_))
 obtain ⟨u3m, hu2m, hm1w⟩ := bdS hm2k
 refine WC_forN (σ := Unit) (ρ := Bool) (fun (k1c : Nat) (_ : Unit) a w => Sat 57 [(3, pt w17.z), (5, vI r19), (29, sl A1 N1 C1), (30, vI (x2.tags.length : Int)), (31, (vI ((k1c : Nat) : Int)))] a ∧ Below w1a.z w1a w) (fun (_ : Unit) a w => Sat 57 [(5, vI r19)] a ∧ Below w1a.z w1a w) (fun r ex a w => ex = .ret ∧ RetPost prog fn (Q11 w0 B r) a w) hu2m ?_ ?_ ?_ ?_ ?_
 ·exact fun _ q => ⟨(q.k (s5 z z z z z)), (br w1a)⟩
 ·rintro k1c _ a3n w1x o3o hk1y ⟨hS2n, s1d⟩ hm2o
  refine Wu ?_ hS2n
  refine Ws (R z (lss z z) (Wn (Wq (Wc z (fun _ => ?_) (fun hc => (nolt hk1y hc).elim)))))
  refine Wk (Wq (WC_block (Ws (Rm z ?_))))
  obtain ⟨x2p, e2q, hm2r⟩ := bdS hm2o
  have h1z := h1v.ext s1d
  refine RX z (at_ (α := Int) d_142 z_3 z z z h1z e2q) ?_
  rintro _ ⟨b3p, o3q, cs3r, rfl, h2s, h2t, h3s⟩
  obtain ⟨rfl, h2u⟩ := Int_open h2t
  refine R z (l1 g_3 z fid (h2s.at0 z)) (Ra z (Ra z (Wn (Wq ?_))))
  obtain ⟨u2v, hu2w, hm20⟩ := bdS hm2r
  refine WC_cut (fun a w => ∃ (x1k : Bool), x1k = u2v ∧ Sat 57 [(3, pt w17.z), (5, vI r19), (29, sl A1 N1 C1), (30, vI (x2.tags.length : Int)), (31, (vI ((k1c : Nat) : Int))), (53, vB x1k)] a ∧ Below w1x.z w1x w) ?_ ?_
  ·refine Wg (Rm z (Rm z ?_))
   obtain ⟨r2x, e2y, hm21⟩ := bdS hu2w
   refine E z (fc call117 z (W_w03 (B := B) e2y (lt_ hBw (lt_ (lt_ h1t s1b.size) s1d.size)) h2u (ii z) h2l)) ?_
   rintro _ w3t ⟨s1e, rfl⟩
   refine R z (not_ z) (Rm z ?_)
   rcases bs (!r2x) with hc12 | hc12
   ·iterate 3 refine Nh z hc12 ?_
    exact Nv z (Nv z (Nv z (Nv z (Nv z (Nv z (Nv z (Nv z (Nh z hc12 (R z (pT z hc12 z) (Wl (fun _ q => ⟨true, som (ifT hm21 hc12), (q.k (s6 z z z z z z)), s1e⟩)))))))))))
   have hm22 := ifF hm21 hc12
   refine Rh z hc12 (mv z) (Rh z hc12 (rd_gtr z z) (Rh z hc12 (mv z) ?_))
   rcases bs (decide (0 < ((k1c : Nat) : Int))) with hc10 | hc10
   ·refine Rh z hc10 (fd f_144_6 z) (Rh z hc10 (l1 g_142 z fid (((h1u.ext s1d).ext s1e).at z)) (Rh z hc10 (mv z) (Rh z hc10 (sb_ z z) ?_)))
    obtain ⟨x2z, e30, hm31⟩ := bdS (ifT hm22 hc10)
    refine RXg z z hc10 z (at_ (α := Int) d_142 z_3 z z z (h1z.ext s1e) e30) ?_
    rintro _ ⟨b3u, o3v, cs3w, rfl, h32, h33, h3x⟩
    obtain ⟨rfl, h3y⟩ := Int_open h33
    exact Rh z hc10 (l1 g_3 z fid (h32.at0 z)) (Rh z hc10 (mv z) (Rh z hc10 (rd_geq z z) (Rh z hc12 (pT z hc10 z) (R z (pF z hc12 z) (Wl (fun _ q => ⟨decide (x2p ≤ x2z), som hm31, (q.k (s6 z z z z z z)), s1e⟩))))))
   iterate 8 refine Nh z hc10 ?_
   exact Rh z hc12 (pF z hc10 z) (R z (pF z hc12 z) (Wl (fun _ q => ⟨false, som (ifF hm22 hc10), (q.k (s6 z z z z z z)), s1e⟩)))
  rintro a34 w3z ⟨x1k, rfl, hS40, s23⟩
  revert a34
  refine Wo (Wc z (fun hc1l => ?_) (fun hc1l => ?_))
  ·exact Ws (Ra z (Wn (Wr (rtO (QO_retL (som (ifT hm20 hc1l)).symm (ret1 hr z ⟨(bup (bup (bup (bup (bup (bup h13 h11) s15) s16) s1b) s1d) s23), z⟩))))))
  exact Wk (Wg (R z (inc_ hk1y (lt_ (repS.len p2_6) LEN_le) z z) (Rm z (Wl (fun _ q => ⟨(), (som (ifF hm20 hc1l)).symm, ⟨(q.k (s5 z z z z z)), (bup s1d s23)⟩⟩)))))
 ·rintro _ a41 w42 ⟨hS35, s36⟩
  refine Wu ?_ hS35
  refine Ws (R z (lss z z) (Wn (Wq (Wc z (fun hc => (noltt hc).elim) (fun _ => ?_)))))
  exact WC_exit (fun a' ha' => ⟨rfl, ⟨(Sat.weaken ha' (s1 z)), s36⟩⟩)
 ·rintro _ a37 w43 rfl ⟨hS44, s38⟩
  have hm39 := elL hm1w
  revert a37
  refine Wo (Ws (Rm z (R z (rd_gtr z z) (Ra z (Wn ?_)))))
  obtain rfl := som hm39
  exact Wr (ret1 hr z ⟨(bup (bup (bup (bup (bup h13 h11) s15) s16) s1b) s38), z⟩)
 rintro r45 ex46 a47 w48 rfl ⟨rfl, hq3a⟩
 have hm3b := elR hm1w
 obtain rfl := som hm3b
 exact ⟨hq3a, z⟩
theorem W_w2n {x1 : Desc} {x2 : Rule} {res : Bool} (hm : M_impl_validKind n x1 x2 = some res) (hBw : B ≤ w0.z) (p1_0 : repS w0 B (sl A0 N0 C0) x1.rules) (p2_0 : x2.name.b.length ≤ LEN) (p2_1 : inI x2.kind) (p2_2 : inI x2.size) (p2_4 : repS w0 B (sl A2 N2 C2) x2.bytes) (p2_5 : repS w0 B (sl A4 N4 C4) x2.names) (p2_6 : repS w0 B (sl A1 N1 C1) x2.tags) (p2_7 : repS w0 B (sl A5 N5 C5) x2.kids) : CallsR prog 151 [(.agg #[sl A0 N0 C0]), (.agg #[Str.v x2.name, vI x2.kind, vI x2.size, vB x2.little, sl A2 N2 C2, sl A4 N4 C4, sl A1 N1 C1, sl A5 N5 C5])] w0 (Q11 w0 B res) := by
 unfold M_impl_validKind at hm
 refine goF func151 z z (lb z) fun fn hr => Ws (E z (fb z) ?_)
 rintro _ w1n ⟨rfl, h26⟩
 have h11 := h26.below
 have h1o : Blk w1n w0.z [sl A0 N0 C0] := h26.blk
 refine E z (fb z) ?_
 rintro _ w12 ⟨rfl, h27⟩
 have h10 := h27.below
 have h17 : Blk w12 w1n.z (vR x2 A2 N2 C2 A4 N4 C4 A1 N1 C1 A5 N5 C5) := h27.blk
 refine Ra z (Wn (Wq (Ws (R z (fd f_144_1 z) (R z (l1 g_3 z fid (h17.at z)) (Wn (WC_block (Ws (R z (eql z z) (Ra z (Wn (Wc z (fun hc1p => ?_) (fun hc1p => ?_)))))))))))))
 ·refine Wq ?_
  obtain ⟨u38, hu39, hm3a⟩ := bdS (ifT hm hc1p)
  refine WC_cut (fun a w => ∃ (x1q : Bool), x1q = u38 ∧ Sat 102 [(4, vB x1q)] a ∧ Below w12.z w12 w) ?_ ?_
  ·refine Wg (R z (lN (vs := (vR x2 A2 N2 C2 A4 N4 C4 A1 N1 C1 A5 N5 C5)) g_144 z_144 z z fid (h17.row 0 8 z)) ?_)
   have h28 := lt_ h11.size h10.size
   obtain ⟨r3b, e3c, hm29⟩ := bdS hu39
   refine E z (fc call177 z (W_w05 (B := B) e3c (lt_ hBw h28) p2_0 p2_1 p2_2 ((p2_4.ext h11).ext h10) ((p2_5.ext h11).ext h10) ((p2_6.ext h11).ext h10) ((p2_7.ext h11).ext h10) (ii z))) ?_
   rintro _ w5m ⟨s1i, rfl⟩
   refine Rm z ?_
   rcases bs r3b with hc1d | hc1d
   ·refine Rh z hc1d (fd f_144_2 z) ?_
    have h2a := h17.ext s1i
    refine Rh z hc1d (l1 g_3 z fid (h2a.at z)) ?_
    obtain ⟨r3d, e3e, hm2b⟩ := bdS (ifT hm29 hc1d)
    refine Eg z z hc1d z (fc call117 z (W_w03 (B := B) e3e (lt_ hBw (lt_ h28 s1i.size)) p2_2 (ii z) (ii z))) ?_
    rintro _ w5n ⟨s1l, rfl⟩
    refine R z (pT z hc1d z) (Rm z ?_)
    rcases bs r3d with hc16 | hc16
    ·have hm2c := ifT hm2b hc16
     refine Rh z hc16 (fd f_144_3 z) ?_
     have h2d := h2a.ext s1l
     refine Rh z hc16 (l1 g_4 z fid (h2d.at z)) (Rh z hc16 (not_ z) (Rh z hc16 (mv z) ?_))
     rcases bs (!x2.little) with hc1e | hc1e
     ·iterate 3 refine Nh z hc1e ?_
      exact Rh z hc16 (pT z hc1e z) (R z (pT z hc16 z) (Ra z (Wl (fun _ q => ⟨true, som (ifT hm2c hc1e), (q.k (s1 z)), (bup s1i s1l)⟩))))
     exact Rh z hc1e (fd f_144_2 z) (Rh z hc1e (l1 g_3 z fid (h2d.at z)) (Rh z hc1e (rd_gtr z z) (Rh z hc16 (pF z hc1e z) (R z (pT z hc16 z) (Ra z (Wl (fun _ q => ⟨decide (1 < x2.size), som (ifF hm2c hc1e), (q.k (s1 z)), (bup s1i s1l)⟩)))))))
    iterate 4 refine Nh z hc16 ?_
    exact Nv z (Nv z (Nv z (Nh z hc16 (R z (pF z hc16 z) (Ra z (Wl (fun _ q => ⟨false, som (ifF hm2b hc16), (q.k (s1 z)), (bup s1i s1l)⟩)))))))
   iterate 3 refine Nh z hc1d ?_
   exact R z (pF z hc1d z) (Rm z (Nh z z (Nh z z (Nh z z (Nh z z (Nv z (Nv z (Nv z (Nh z z (R z (pF z z z) (Ra z (Wl (fun _ q => ⟨false, som (ifF hm29 hc1d), (q.k (s1 z)), s1i⟩)))))))))))))
  rintro a3f w5o ⟨x1q, rfl, hS5p, s3g⟩
  revert a3f
  refine Wo ?_
  obtain rfl := som hm3a
  exact Wr (rtO (ret1 hr z ⟨(bup (bup h11 h10) s3g), z⟩))
 have hm2e := ifF hm hc1p
 refine Ws (R z (eql z z) (Ra z (Wn (Wc z (fun hc1r => ?_) (fun hc1r => ?_)))))
 ·refine Wq ?_
  obtain ⟨u3h, hu3i, hm3j⟩ := bdS (ifT hm2e hc1r)
  refine WC_cut (fun a w => ∃ (x1s : Bool), x1s = u3h ∧ Sat 102 [(4, vB x1s)] a ∧ Below w12.z w12 w) ?_ ?_
  ·refine Wg (R z (lN (vs := (vR x2 A2 N2 C2 A4 N4 C4 A1 N1 C1 A5 N5 C5)) g_144 z_144 z z fid (h17.row 0 8 z)) ?_)
   have h2f := (p2_4.ext h11).ext h10
   have h2g := lt_ h11.size h10.size
   obtain ⟨r3k, e3l, hm2h⟩ := bdS hu3i
   refine E z (fc call177 z (W_w05 (B := B) e3l (lt_ hBw h2g) p2_0 p2_1 p2_2 h2f ((p2_5.ext h11).ext h10) ((p2_6.ext h11).ext h10) ((p2_7.ext h11).ext h10) (ii z))) ?_
   rintro _ w5q ⟨s1j, rfl⟩
   refine Rm z ?_
   rcases bs r3k with hc19 | hc19
   ·refine Rh z hc19 (fd f_144_4 z) (Rh z hc19 (l1 g_25 z fid ((h17.ext s1j).at z)) ?_)
    have h2i := h2f.ext s1j
    refine Rh z hc19 (lnR d_25 z h2i) ?_
    obtain ⟨r3m, e3n, hm3o⟩ := bdS (ifT hm2h hc19)
    refine Eg z z hc19 z (fc call117 z (W_w03 (B := B) e3n (lt_ hBw (lt_ h2g s1j.size)) (inI_len (repS.len h2i)) (ii z) (ii z))) ?_
    rintro _ w5r ⟨s3p, rfl⟩
    exact R z (pT z hc19 z) (Ra z (Wl (fun _ q => ⟨r3m, som hm3o, (q.k (s1 z)), (bup s1j s3p)⟩)))
   iterate 4 refine Nh z hc19 ?_
   exact R z (pF z hc19 z) (Ra z (Wl (fun _ q => ⟨false, som (ifF hm2h hc19), (q.k (s1 z)), s1j⟩)))
  rintro a3q w5s ⟨x1s, rfl, hS5t, s3r⟩
  revert a3q
  refine Wo ?_
  obtain rfl := som hm3j
  exact Wr (rtO (ret1 hr z ⟨(bup (bup h11 h10) s3r), z⟩))
 have hm2j := ifF hm2e hc1r
 refine Ws (R z (eql z z) (Ra z (Wn (Wc z (fun hc1t => ?_) (fun hc1t => ?_)))))
 ·refine Wq ?_
  obtain ⟨u3s, hu3t, hm3u⟩ := bdS (ifT hm2j hc1t)
  refine WC_cut (fun a w => ∃ (x1u : Bool), x1u = u3s ∧ Sat 102 [(4, vB x1u)] a ∧ Below w12.z w12 w) ?_ ?_
  ·refine Wg (R z (lN (vs := (vR x2 A2 N2 C2 A4 N4 C4 A1 N1 C1 A5 N5 C5)) g_144 z_144 z z fid (h17.row 0 8 z)) ?_)
   have h2k := lt_ h11.size h10.size
   obtain ⟨r3v, e3w, hm2l⟩ := bdS hu3t
   refine E z (fc call177 z (W_w05 (B := B) e3w (lt_ hBw h2k) p2_0 p2_1 p2_2 ((p2_4.ext h11).ext h10) ((p2_5.ext h11).ext h10) ((p2_6.ext h11).ext h10) ((p2_7.ext h11).ext h10) (ii z))) ?_
   rintro _ w5u ⟨s1m, rfl⟩
   refine Rm z ?_
   rcases bs r3v with hc1f | hc1f
   ·refine Rh z hc1f (fd f_144_2 z) (Rh z hc1f (l1 g_3 z fid ((h17.ext s1m).at z)) ?_)
    obtain ⟨r3x, e3y, hm3z⟩ := bdS (ifT hm2l hc1f)
    refine Eg z z hc1f z (fc call117 z (W_w03 (B := B) e3y (lt_ hBw (lt_ h2k s1m.size)) p2_2 (ii z) (ii z))) ?_
    rintro _ w5v ⟨s40, rfl⟩
    exact R z (pT z hc1f z) (Ra z (Wl (fun _ q => ⟨r3x, som hm3z, (q.k (s1 z)), (bup s1m s40)⟩)))
   iterate 3 refine Nh z hc1f ?_
   exact R z (pF z hc1f z) (Ra z (Wl (fun _ q => ⟨false, som (ifF hm2l hc1f), (q.k (s1 z)), s1m⟩)))
  rintro a41 w5w ⟨x1u, rfl, hS5x, s42⟩
  revert a41
  refine Wo ?_
  obtain rfl := som hm3u
  exact Wr (rtO (ret1 hr z ⟨(bup (bup h11 h10) s42), z⟩))
 have hm2m := ifF hm2j hc1t
 refine Ws (R z (eql z z) (Ra z (Wn (Wc z (fun hc1v => ?_) (fun hc1v => ?_)))))
 ·refine Wq ?_
  obtain ⟨u43, hu44, hm45⟩ := bdS (ifT hm2m hc1v)
  refine WC_cut (fun a w => ∃ (x1w : Bool), x1w = u43 ∧ Sat 102 [(4, vB x1w)] a ∧ Below w12.z w12 w) ?_ ?_
  ·refine WC_draw (X := noX) 0 (.rd 0 (.ef 1 (.rd 2 (.rd 3 (.rd 4 (.rd 5 (.rd 6 (.rd 7 (.ef 8 (.rd 9 (.rd 10 (.rd 11 .done)))))))))))) mo (by kernel_rfl) fun w5y s1a _ => ?_
   have h2n := h17.ext s1a
   refine dR z z (lN (vs := (vR x2 A2 N2 C2 A4 N4 C4 A1 N1 C1 A5 N5 C5)) g_144 z_144 z z fid (h2n.row 0 8 z)) ?_
   have h2o := ((p2_7.ext h11).ext h10).ext s1a
   have h2p := lt_ (lt_ h11.size h10.size) s1a.size
   obtain ⟨r46, e47, hm2q⟩ := bdS hu44
   refine dE z z (fc call177 z (W_w05 (B := B) e47 (lt_ hBw h2p) p2_0 p2_1 p2_2 (((p2_4.ext h11).ext h10).ext s1a) (((p2_5.ext h11).ext h10).ext s1a) (((p2_6.ext h11).ext h10).ext s1a) h2o (ii z))) (.inr fun _ _ h => chgB (h.1)) ?_
   rintro _ w5z ⟨s1g, rfl⟩
   refine dR z z (mv z) ?_
   rcases bs r46 with hc13 | hc13
   ·refine dRg z z z hc13 z (lN (vs := [sl A0 N0 C0]) g_95 z_95 z z fid ((((h1o.ext h10).ext s1a).ext s1g).row 0 1 z)) (dRg z z z hc13 z (fd f_144_7 z) (dRg z z z hc13 z (l1 g_142 z fid ((h2n.ext s1g).at z)) ?_))
    obtain ⟨x60, e48, hm49⟩ := bdS (ifT hm2q hc13)
    refine dRXg z z z hc13 z (at_ (α := Int) d_142 z_3 z z z (h2o.ext s1g) e48) ?_
    rintro _ ⟨b61, o62, cs63, rfl, h4a, h4b, h64⟩
    obtain ⟨rfl, h4c⟩ := Int_open h4b
    refine dRg z z z hc13 z (l1 g_3 z fid (h4a.at0 z)) ?_
    obtain ⟨r4d, e4e, hm4f⟩ := bdS hm49
    refine dEg z z z hc13 z (fc call178 z (W_w0i (B := B) e4e (lt_ hBw (lt_ h2p s1g.size)) ((((p1_0.ext h11).ext h10).ext s1a).ext s1g) h4c)) (.inr fun _ _ h => chgB (h.1)) ?_
    rintro _ w65 ⟨s4g, rfl, h66⟩
    exact dRg z z z hc13 z (rd_gtr z z) (dR z z (pT z hc13 z) (dR z z (asg z) (PR_done (fun _ q => ⟨decide (0 < r4d), som hm4f, (q.k (s1 z)), (bup (bup s1a s1g) s4g)⟩))))
   iterate 5 refine dRn z z z hc13 z ?_
   exact dEn z z z hc13 z (dRn z z z hc13 z (dR z z (pF z hc13 z) (dR z z (asg z) (PR_done (fun _ q => ⟨false, som (ifF hm2q hc13), (q.k (s1 z)), (bup s1a s1g)⟩)))))
  rintro a4h w67 ⟨x1w, rfl, hS68, s4i⟩
  revert a4h
  refine Wo ?_
  obtain rfl := som hm45
  exact Wr (rtO (ret1 hr z ⟨(bup (bup h11 h10) s4i), z⟩))
 have hm2r := ifF hm2m hc1v
 refine Ws (R z (eql z z) (Ra z (Wn (Wc z (fun hc1x => ?_) (fun hc1x => ?_)))))
 ·refine Wq ?_
  obtain ⟨u4j, hu4k, hm4l⟩ := bdS (ifT hm2r hc1x)
  refine WC_cut (fun a w => ∃ (x1y : Bool), x1y = u4j ∧ Sat 102 [(4, vB x1y)] a ∧ Below w12.z w12 w) ?_ ?_
  ·refine WC_draw (X := noX) 0 (.rd 0 (.ef 1 (.rd 2 (.rd 3 (.rd 4 (.rd 5 (.rd 6 (.rd 7 (.ef 8 (.rd 9 (.rd 10 (.rd 11 .done)))))))))))) mo (by kernel_rfl) fun w69 s1b _ => ?_
   have h2s := h17.ext s1b
   refine dR z z (lN (vs := (vR x2 A2 N2 C2 A4 N4 C4 A1 N1 C1 A5 N5 C5)) g_144 z_144 z z fid (h2s.row 0 8 z)) ?_
   have h2t := ((p2_7.ext h11).ext h10).ext s1b
   have h2u := lt_ (lt_ h11.size h10.size) s1b.size
   obtain ⟨r4m, e4n, hm2v⟩ := bdS hu4k
   refine dE z z (fc call177 z (W_w05 (B := B) e4n (lt_ hBw h2u) p2_0 p2_1 p2_2 (((p2_4.ext h11).ext h10).ext s1b) (((p2_5.ext h11).ext h10).ext s1b) (((p2_6.ext h11).ext h10).ext s1b) h2t (ii z))) (.inr fun _ _ h => chgB (h.1)) ?_
   rintro _ w6a ⟨s1h, rfl⟩
   refine dR z z (mv z) ?_
   rcases bs r4m with hc14 | hc14
   ·refine dRg z z z hc14 z (lN (vs := [sl A0 N0 C0]) g_95 z_95 z z fid ((((h1o.ext h10).ext s1b).ext s1h).row 0 1 z)) (dRg z z z hc14 z (fd f_144_7 z) (dRg z z z hc14 z (l1 g_142 z fid ((h2s.ext s1h).at z)) ?_))
    obtain ⟨x6b, e4o, hm4p⟩ := bdS (ifT hm2v hc14)
    refine dRXg z z z hc14 z (at_ (α := Int) d_142 z_3 z z z (h2t.ext s1h) e4o) ?_
    rintro _ ⟨b6c, o6d, cs6e, rfl, h4q, h4r, h6f⟩
    obtain ⟨rfl, h4s⟩ := Int_open h4r
    refine dRg z z z hc14 z (l1 g_3 z fid (h4q.at0 z)) ?_
    obtain ⟨r4t, e4u, hm4v⟩ := bdS hm4p
    refine dEg z z z hc14 z (fc call178 z (W_w0i (B := B) e4u (lt_ hBw (lt_ h2u s1h.size)) ((((p1_0.ext h11).ext h10).ext s1b).ext s1h) h4s)) (.inr fun _ _ h => chgB (h.1)) ?_
    rintro _ w6g ⟨s4w, rfl, h6h⟩
    exact dRg z z z hc14 z (rd_gtr z z) (dR z z (pT z hc14 z) (dR z z (asg z) (PR_done (fun _ q => ⟨decide (0 < r4t), som hm4v, (q.k (s1 z)), (bup (bup s1b s1h) s4w)⟩))))
   iterate 5 refine dRn z z z hc14 z ?_
   exact dEn z z z hc14 z (dRn z z z hc14 z (dR z z (pF z hc14 z) (dR z z (asg z) (PR_done (fun _ q => ⟨false, som (ifF hm2v hc14), (q.k (s1 z)), (bup s1b s1h)⟩)))))
  rintro a4x w6i ⟨x1y, rfl, hS6j, s4y⟩
  revert a4x
  refine Wo ?_
  obtain rfl := som hm4l
  exact Wr (rtO (ret1 hr z ⟨(bup (bup h11 h10) s4y), z⟩))
 have hm2w := ifF hm2r hc1x
 refine Ws (R z (eql z z) (Ra z (Wn (Wc z (fun hc1z => ?_) (fun hc1z => ?_)))))
 ·refine Ws (R z (lN (vs := (vR x2 A2 N2 C2 A4 N4 C4 A1 N1 C1 A5 N5 C5)) g_144 z_144 z z fid (h17.row 0 8 z)) ?_)
  obtain ⟨r6k, e4z, hm50⟩ := bdS (ifT hm2w hc1z)
  refine E z (fc call179 z (W_w2l (B := B) e4z (lt_ hBw (lt_ h11.size h10.size)) p2_0 p2_1 p2_2 ((p2_4.ext h11).ext h10) ((p2_5.ext h11).ext h10) ((p2_6.ext h11).ext h10) ((p2_7.ext h11).ext h10))) ?_
  rintro _ w6l ⟨s51, rfl⟩
  refine Ra z (Wn ?_)
  obtain rfl := som hm50
  exact Wr (rtO (ret1 hr z ⟨(bup (bup h11 h10) s51), z⟩))
 have hm2x := ifF hm2w hc1z
 refine Ws (R z (eql z z) (Ra z (Wn (Wc z (fun hc20 => ?_) (fun hc20 => ?_)))))
 ·refine Ws (R z (lN (vs := [sl A0 N0 C0]) g_95 z_95 z z fid ((h1o.ext h10).row 0 1 z)) (R z (lN (vs := (vR x2 A2 N2 C2 A4 N4 C4 A1 N1 C1 A5 N5 C5)) g_144 z_144 z z fid (h17.row 0 8 z)) ?_))
  obtain ⟨r6m, e52, hm53⟩ := bdS (ifT hm2x hc20)
  refine E z (fc call180 z (W_w2m (B := B) e52 (lt_ hBw (lt_ h11.size h10.size)) ((p1_0.ext h11).ext h10) p2_0 p2_1 p2_2 ((p2_4.ext h11).ext h10) ((p2_5.ext h11).ext h10) ((p2_6.ext h11).ext h10) ((p2_7.ext h11).ext h10))) ?_
  rintro _ w6n ⟨s54, rfl⟩
  refine Ra z (Wn ?_)
  obtain rfl := som hm53
  exact Wr (rtO (ret1 hr z ⟨(bup (bup h11 h10) s54), z⟩))
 refine Wq (Ws (R z (eql z z) (Ra z (Wn ?_))))
 obtain ⟨u55, hu2y, hm2z⟩ := bdS (ifF hm2x hc20)
 refine WC_cut (fun a w => ∃ (x21 : Bool), x21 = u55 ∧ Sat 102 [(3, pt w1n.z), (6, vI x2.kind), (80, vB x21)] a ∧ Below w12.z w12 w) ?_ ?_
 ·refine Wc z (fun hc22 => ?_) (fun hc22 => ?_)
  ·exact WC_skip (fun _ q => ⟨x2.kind == 8, som (ifT hu2y hc22), (q.k (s3 z z z)), (br w12)⟩)
  exact Wg (R z (eql z z) (Ra z (Wl (fun _ q => ⟨x2.kind == 9, som (ifF hu2y hc22), (q.k (s3 z z z)), (br w12)⟩))))
 rintro a56 w30 ⟨x21, rfl, hS6o, s15⟩
 revert a56
 refine Wo (Wc z (fun hc23 => ?_) (fun hc23 => ?_))
 ·refine Ws (R z (lN (vs := (vR x2 A2 N2 C2 A4 N4 C4 A1 N1 C1 A5 N5 C5)) g_144 z_144 z z fid ((h17.ext s15).row 0 8 z)) ?_)
  obtain ⟨r6p, e57, hm58⟩ := bdS (ifT hm2z hc23)
  refine E z (fc call177 z (W_w05 (B := B) e57 (lt_ hBw (lt_ (lt_ h11.size h10.size) s15.size)) p2_0 p2_1 p2_2 (((p2_4.ext h11).ext h10).ext s15) (((p2_5.ext h11).ext h10).ext s15) (((p2_6.ext h11).ext h10).ext s15) (((p2_7.ext h11).ext h10).ext s15) (ii z))) ?_
  rintro _ w6q ⟨s59, rfl⟩
  refine Ra z (Wn ?_)
  obtain rfl := som hm58
  exact Wr (rtO (ret1 hr z ⟨(bup (bup (bup h11 h10) s15) s59), z⟩))
 have hm31 := ifF hm2z hc23
 refine Ws (R z (eql z z) (Ra z (Wn (Wc z (fun hc24 => ?_) (fun hc24 => ?_)))))
 ·refine Wq ?_
  obtain ⟨u5a, hu5b, hm5c⟩ := bdS (ifT hm31 hc24)
  refine WC_cut (fun a w => ∃ (x25 : Bool), x25 = u5a ∧ Sat 102 [(4, vB x25)] a ∧ Below w30.z w30 w) ?_ ?_
  ·refine Wg ?_
   have h32 := h17.ext s15
   refine R z (lN (vs := (vR x2 A2 N2 C2 A4 N4 C4 A1 N1 C1 A5 N5 C5)) g_144 z_144 z z fid (h32.row 0 8 z)) ?_
   have h33 := ((p2_4.ext h11).ext h10).ext s15
   obtain ⟨r5d, e5e, hm34⟩ := bdS hu5b
   refine E z (fc call177 z (W_w05 (B := B) e5e (lt_ hBw (lt_ (lt_ h11.size h10.size) s15.size)) p2_0 p2_1 p2_2 h33 (((p2_5.ext h11).ext h10).ext s15) (((p2_6.ext h11).ext h10).ext s15) (((p2_7.ext h11).ext h10).ext s15) (ii z))) ?_
   rintro _ w6r ⟨s1k, rfl⟩
   refine Rm z ?_
   rcases bs r5d with hc1c | hc1c
   ·have hm35 := ifT hm34 hc1c
    refine Rh z hc1c (fd f_144_4 z) ?_
    have h36 := h32.ext s1k
    refine Rh z hc1c (l1 g_25 z fid (h36.at z)) ?_
    have h37 := h33.ext s1k
    refine Rh z hc1c (lnR d_25 z h37) (Rh z hc1c (eql z z) (R z (pT z hc1c z) (Rm z ?_)))
    rcases bs ((x2.bytes.length : Int) == 1) with hc18 | hc18
    ·refine Rh z hc18 (fd f_144_4 z) (Rh z hc18 (l1 g_25 z fid (h36.at z)) ?_)
     obtain ⟨x5f, e5g, hm5h⟩ := bdS (ifT hm35 hc18)
     refine RXg z z hc18 z (at_ (α := UInt8) d_25 z_5 z z z h37 e5g) ?_
     rintro _ ⟨b6s, o6t, cs6u, rfl, h5i, h5j, h6v⟩
     obtain rfl := UInt8_open h5j
     exact Rh z hc18 (l1 g_5 z fid (h5i.at0 z)) (Rh z hc18 (nq z z) (R z (pT z hc18 z) (Ra z (Wl (fun _ q => ⟨(byteI x5f) != (byteI (92 : UInt8)), som hm5h, (q.k (s1 z)), s1k⟩)))))
    iterate 5 refine Nh z hc18 ?_
    exact R z (pF z hc18 z) (Ra z (Wl (fun _ q => ⟨false, som (ifF hm35 hc18), (q.k (s1 z)), s1k⟩)))
   iterate 4 refine Nh z hc1c ?_
   exact R z (pF z hc1c z) (Rm z (Nh z z (Nh z z (Nh z z (Nh z z (Nh z z (R z (pF z z z) (Ra z (Wl (fun _ q => ⟨false, som (ifF hm34 hc1c), (q.k (s1 z)), s1k⟩))))))))))
  rintro a5k w6w ⟨x25, rfl, hS6x, s5l⟩
  revert a5k
  refine Wo ?_
  obtain rfl := som hm5c
  exact Wr (rtO (ret1 hr z ⟨(bup (bup (bup h11 h10) s15) s5l), z⟩))
 refine Wk (Ws (Ra z (Wn ?_)))
 obtain rfl := som (ifF hm31 hc24)
 exact Wr (ret1 hr z ⟨(bup (bup h11 h10) s15), z⟩)
theorem W_w2o {x1 : Desc} {x2 : Int} {res : Bool} (hm : M_impl_IsValidRule n x1 x2 = some res) (hBw : B ≤ w0.z) (p1_0 : repS w0 B (sl A0 N0 C0) x1.rules) (p2_0 : inI x2) : CallsR prog 135 [(.agg #[sl A0 N0 C0]), vI x2] w0 (Q11 w0 B res) := by
 unfold M_impl_IsValidRule at hm
 refine goF func135 z z (lb z) fun fn hr => Ws (E z (fb z) ?_)
 rintro _ w3i ⟨rfl, h2f⟩
 have h17 := h2f.below
 have h1q : Blk w3i w0.z [sl A0 N0 C0] := h2f.blk
 refine Ra z (Wn (Wq (Ws (R z (lN (vs := [sl A0 N0 C0]) g_95 z_95 z z fid (h1q.row 0 1 z)) (Rm z ?_)))))
 have h2g := p1_0.ext h17
 obtain ⟨r51, e3j, hm2h⟩ := bdS hm
 refine E z (fc call150 z (W_w0g (B := B) e3j (lt_ hBw h17.size) h2g p2_0)) ?_
 rintro _ w15 ⟨s16, rfl⟩
 refine R z (not_ z) (Wn (Wc z (fun hc1r => ?_) (fun hc1r => ?_)))
 ·refine Ws (Ra z (Wn ?_))
  obtain rfl := som (ifT hm2h hc1r)
  exact Wr (ret1 hr z ⟨(bup h17 s16), z⟩)
 refine Wk (Ws (R z (fd f_95_0 z) ?_))
 have h2i := h1q.ext s16
 refine R z (l1 g_93 z fid (h2i.at z)) (Rm z ?_)
 obtain ⟨x10, e3k, hm3l⟩ := bdS (ifF hm2h hc1r)
 have h2j := h2g.ext s16
 refine RX z (at_ (α := Rule) d_93 z_144 z z z h2j e3k) ?_
 rintro _ ⟨b52, o53, cs54, rfl, h3m, h3n, h55⟩
 obtain ⟨a1s, n1t, c1u, a1v, n1w, c1x, a1y, n1z, c20, a1d, n1e, c1f, rfl, h2k, h3o, h3p, h3q, h3r, h3s, h2l⟩ := Rule_open h3n
 refine R z (lN (vs := (vR x10 a1s n1t c1u a1v n1w c1x a1y n1z c20 a1d n1e c1f)) g_144 z_144 z z fid h3m) (E z (fa zero_144) ?_)
 rintro _ w3t ⟨rfl, h2m⟩
 have h13 := h2m.below
 have h2n : Blk w3t w15.z [(Str.v (⟨[]⟩ : Str)), vI 0, vI 0, vB false, sl none 0 0, sl none 0 0, sl none 0 0, sl none 0 0] := h2m.blk
 refine E0 (fs (cur' := (vR x10 a1s n1t c1u a1v n1w c1x a1y n1z c20 a1d n1e c1f)) z_144 z z h2n z (lb z) (oA z) z) ?_
 rintro _ w2o ⟨h1l, s3u⟩
 have h12 := s3u.one
 refine Wn (Wq (Wq ?_))
 obtain ⟨u3v, hu3w, hm2p⟩ := bdS hm3l
 refine WC_cut (fun a w => ∃ (x21 : Bool), x21 = u3v ∧ Sat 65 [(1, vI x2), (2, pt w0.z), (5, pt w15.z), (31, vB x21)] a ∧ Below w2o.z w2o w) ?_ ?_
 ·refine Wg (R z (fd f_144_0 z) (R z (l1 g_9 z fid (h1l.at z)) ?_))
  obtain ⟨r3x, e3y, hm2q⟩ := bdS hu3w
  refine E z (fc call116 z (W_w0h (B := B) e3y (lt_ hBw (lt_ (lt_ (lt_ h17.size s16.size) h13.size) h12.size)) h2k)) ?_
  rintro _ w56 ⟨s1m, rfl⟩
  refine R z (not_ z) (Rm z ?_)
  rcases bs (!r3x) with hc14 | hc14
  ·iterate 3 refine Nh z hc14 ?_
   exact Nv z (Nv z (Nv z (Nh z hc14 (R z (pT z hc14 z) (Wl (fun _ q => ⟨true, som (ifT hm2q hc14), (q.k (s4 z z z z)), s1m⟩))))))
  have hm2r := ifF hm2q hc14
  refine Rh z hc14 (fd f_144_3 z) ?_
  have h2s := h1l.ext s1m
  refine Rh z hc14 (l1 g_4 z fid (h2s.at z)) (Rh z hc14 (mv z) ?_)
  rcases bs x10.little with hc19 | hc19
  ·exact Rh z hc19 (fd f_144_1 z) (Rh z hc19 (l1 g_3 z fid (h2s.at z)) (Rh z hc19 (nq z z) (Rh z hc14 (pT z hc19 z) (R z (pF z hc14 z) (Wl (fun _ q => ⟨x10.kind != 1, som (ifT hm2r hc19), (q.k (s4 z z z z)), s1m⟩))))))
  iterate 3 refine Nh z hc19 ?_
  exact Rh z hc14 (pF z hc19 z) (R z (pF z hc14 z) (Wl (fun _ q => ⟨false, som (ifF hm2r hc19), (q.k (s4 z z z z)), s1m⟩)))
 rintro a3z w1i ⟨x21, rfl, hS57, s11⟩
 revert a3z
 refine Wo (Wc z (fun hc22 => ?_) (fun hc22 => ?_))
 ·refine Ws (Ra z (Wn ?_))
  obtain rfl := som (ifT hm2p hc22)
  exact Wr (ret1 hr z ⟨(bup (bM (bup (bup h17 s16) h13) h12 (mem1le (lt_ h17.size s16.size))) s11), z⟩)
 refine Wk (Wq (Ws (R z (fd f_95_0 z) ?_)))
 have h2t := ((h2i.ext h13).chg h12 (djs (mm1 h1q.lt s16.size))).ext s11
 refine R z (l1 g_93 z fid (h2t.at z)) (Rm z ?_)
 obtain ⟨x1n, e40, hm41⟩ := bdS (ifF hm2p hc22)
 have h1h := lt_ h17.size s16.size
 have h1j := mem1le (lt_ hBw h1h)
 have h2u := ((h2j.ext h13).chg h12 (lg h1j)).ext s11
 refine RX z (rd_sliceX d_93 z_144 z z h2u z z e40) ?_
 rintro _ ⟨a23, n24, c25, rfl, h26⟩
 refine R z (lnR d_93 z h26) (Rm z (Wn ?_))
 obtain ⟨u58, hu42, hm2v⟩ := bdS hm41
 refine WC_forN (σ := Unit) (ρ := Bool) (fun (k27 : Nat) (_ : Unit) a w => Sat 65 [(1, vI x2), (2, pt w0.z), (5, pt w15.z), (35, sl a23 n24 c25), (36, vI (x1n.length : Int)), (37, (vI ((k27 : Nat) : Int)))] a ∧ Below w1i.z w1i w) (fun (_ : Unit) a w => Sat 65 [(1, vI x2), (2, pt w0.z), (5, pt w15.z)] a ∧ Below w1i.z w1i w) (fun r ex a w => ex = .ret ∧ RetPost prog fn (Q11 w0 B r) a w) hu42 ?_ ?_ ?_ ?_ ?_
 ·exact fun _ q => ⟨(q.k (s6 z z z z z z)), (br w1i)⟩
 ·rintro k27 _ a59 w43 o5a hk2w ⟨hS44, s1g⟩ hm45
  refine Wu ?_ hS44
  refine Ws (R z (lss z z) (Wn (Wq (Wc z (fun _ => ?_) (fun hc => (nolt hk2w hc).elim)))))
  refine Wk (Wq (WC_block (Ws ?_)))
  obtain ⟨x1c, e46, hm2x⟩ := bdS hm45
  refine RX z (at_ (α := Rule) d_93 z_144 z z z (h26.ext s1g) e46) ?_
  rintro _ ⟨b5b, o5c, cs5d, rfl, h47, h48, h5e⟩
  obtain ⟨a2y, n2z, c30, a31, n32, c33, a34, n35, c36, a37, n38, c39, rfl, h5f, h5g, h5h, h5i, h5j, h5k, h5l⟩ := Rule_open h48
  refine R z (lN (vs := (vR x1c a2y n2z c30 a31 n32 c33 a34 n35 c36 a37 n38 c39)) g_144 z_144 z z fid h47) (E z (fa zero_144) ?_)
  rintro _ w49 ⟨rfl, h3a⟩
  have h28 := h3a.below
  have h4a : Blk w49 w43.z [(Str.v (⟨[]⟩ : Str)), vI 0, vI 0, vB false, sl none 0 0, sl none 0 0, sl none 0 0, sl none 0 0] := h3a.blk
  refine E0 (fs (cur' := (vR x1c a2y n2z c30 a31 n32 c33 a34 n35 c36 a37 n38 c39)) z_144 z z h4a z (lb z) (oA z) z) ?_
  rintro _ w5m ⟨h4b, s4c⟩
  have h29 := s4c.one
  refine Wn (Ws (R z (fd f_144_0 z) (R z (l1 g_9 z fid (h4b.at z)) (R z (fd f_144_0 z) (R z (l1 g_9 z fid (((((h1l.ext s11).ext s1g).ext h28).chg h29 (djs (mm1 h2n.lt (lt_ (lt_ h12.size s11.size) s1g.size)))).at z)) (R z (rd_eqlT z z) (Wn (Wc z (fun hc2a => ?_) (fun hc2a => ?_)))))))))
  ·exact Ws (Ra z (Wn (Wr (rtO (QO_retL (som (ifT hm2x hc2a)).symm (ret1 hr z ⟨(bM (bup (bup (bup (bM (bup (bup h17 s16) h13) h12 (mem1le h1h)) s11) s1g) h28) h29 (mem1le (lt_ (lt_ (lt_ (lt_ h1h h13.size) h12.size) s11.size) s1g.size))), z⟩))))))
  exact Wk (Wg (R z (inc_ hk2w (lt_ (repS.len h26) LEN_le) z z) (Rm z (Wl (fun _ q => ⟨(), (som (ifF hm2x hc2a)).symm, ⟨(q.k (s6 z z z z z z)), (bM (bup s1g h28) h29 (mem1le s1g.size))⟩⟩)))))
 ·rintro _ a5n w5o ⟨hS4d, s4e⟩
  refine Wu ?_ hS4d
  refine Ws (R z (lss z z) (Wn (Wq (Wc z (fun hc => (noltt hc).elim) (fun _ => ?_)))))
  exact WC_exit (fun a' ha' => ⟨rfl, ⟨(Sat.weaken ha' (s3 z z z)), s4e⟩⟩)
 ·rintro _ a4f w1k rfl ⟨hS5p, s18⟩
  have hm4g := elL hm2v
  revert a4f
  refine Wo (Wq (Ws (R z (fd f_144_7 z) ?_)))
  have h3b := (h1l.ext s11).ext s18
  refine R z (l1 g_142 z fid (h3b.at z)) ?_
  have h2b := (((h2l.ext h13).chg h12 (lg h1j)).ext s11).ext s18
  refine R z (lnR d_142 z h2b) (Rm z (Wn ?_))
  obtain ⟨u5q, hu4h, hm3c⟩ := bdS hm4g
  refine WC_forN (σ := Unit) (ρ := Bool) (fun (k1o : Nat) (_ : Unit) a w => Sat 65 [(1, vI x2), (2, pt w0.z), (5, pt w15.z), (48, sl a1d n1e c1f), (49, vI (x10.kids.length : Int)), (50, (vI ((k1o : Nat) : Int)))] a ∧ Below w1k.z w1k w) (fun (_ : Unit) a w => Sat 65 [(2, pt w0.z), (5, pt w15.z)] a ∧ Below w1k.z w1k w) (fun r ex a w => ex = .ret ∧ RetPost prog fn (Q11 w0 B r) a w) hu4h ?_ ?_ ?_ ?_ ?_
  ·exact fun _ q => ⟨(q.k (s6 z z z z z z)), (br w1k)⟩
  ·rintro k1o _ a5r w1p o5s hk3d ⟨hS4i, s2c⟩ hm4j
   refine Wu ?_ hS4i
   refine Ws (R z (lss z z) (Wn (Wq (Wc z (fun _ => ?_) (fun hc => (nolt hk3d hc).elim)))))
   refine Wk (Wq (WC_block (Ws ?_)))
   obtain ⟨x3e, e4k, hm4l⟩ := bdS hm4j
   refine RX z (at_ (α := Int) d_142 z_3 z z z (h2b.ext s2c) e4k) ?_
   rintro _ ⟨b5t, o5u, cs5v, rfl, h4m, h4n, h5w⟩
   obtain ⟨rfl, h5x⟩ := Int_open h4n
   refine R z (l1 g_3 z fid (h4m.at0 z)) (Ra z (Wn (Wq ?_)))
   obtain ⟨u4o, hu3f, hm3g⟩ := bdS hm4l
   refine WC_cut (fun a w => ∃ (x2d : Bool), x2d = u4o ∧ Sat 65 [(1, vI x2), (2, pt w0.z), (5, pt w15.z), (48, sl a1d n1e c1f), (49, vI (x10.kids.length : Int)), (50, (vI ((k1o : Nat) : Int))), (60, vB x2d)] a ∧ Below w1p.z w1p w) ?_ ?_
   ·refine Wg (Rm z (R z (lss z z) (Rm z ?_)))
    rcases bs (decide (x3e < 0)) with hc1a | hc1a
    ·iterate 3 refine Nh z hc1a ?_
     exact R z (pT z hc1a z) (Wl (fun _ q => ⟨true, som (ifT hu3f hc1a), (q.k (s7 z z z z z z z)), (br w1p)⟩))
    exact Rh z hc1a (mv z) (Rh z hc1a (mv z) (Rh z hc1a (rd_geq z z) (R z (pF z hc1a z) (Wl (fun _ q => ⟨decide (x2 ≤ x3e), som (ifF hu3f hc1a), (q.k (s7 z z z z z z z)), (br w1p)⟩)))))
   rintro a4p w5y ⟨x2d, rfl, hS5z, s3h⟩
   revert a4p
   refine Wo (Wc z (fun hc2e => ?_) (fun hc2e => ?_))
   ·exact Ws (Ra z (Wn (Wr (rtO (QO_retL (som (ifT hm3g hc2e)).symm (ret1 hr z ⟨(bup (bup (bup (bup (bM (bup (bup h17 s16) h13) h12 (mem1le h1h)) s11) s18) s2c) s3h), z⟩))))))
   exact Wk (Wg (R z (inc_ hk3d (lt_ (repS.len h2l) LEN_le) z z) (Rm z (Wl (fun _ q => ⟨(), (som (ifF hm3g hc2e)).symm, ⟨(q.k (s6 z z z z z z)), (bup s2c s3h)⟩⟩)))))
  ·rintro _ a60 w61 ⟨hS4q, s4r⟩
   refine Wu ?_ hS4q
   refine Ws (R z (lss z z) (Wn (Wq (Wc z (fun hc => (noltt hc).elim) (fun _ => ?_)))))
   exact WC_exit (fun a' ha' => ⟨rfl, ⟨(Sat.weaken ha' (s2 z z)), s4r⟩⟩)
  ·rintro _ a4s w62 rfl ⟨hS63, s1b⟩
   have hm4t := elL hm3c
   revert a4s
   refine Wo (Ws (R z (lN (vs := [sl A0 N0 C0]) g_95 z_95 z z fid (((h2t.ext s18).ext s1b).row 0 1 z)) (R z (lN (vs := (vR x10 a1s n1t c1u a1v n1w c1x a1y n1z c20 a1d n1e c1f)) g_144 z_144 z z fid ((h3b.ext s1b).row 0 8 z)) ?_)))
   obtain ⟨r64, e4u, hm4v⟩ := bdS hm4t
   refine E z (fc call151 z (W_w2n (B := B) e4u (lt_ hBw (lt_ (lt_ (lt_ (lt_ (lt_ h1h h13.size) h12.size) s11.size) s18.size) s1b.size)) ((h2u.ext s18).ext s1b) h2k h3o h3p (((((h3q.ext h13).chg h12 (lg h1j)).ext s11).ext s18).ext s1b) (((((h3r.ext h13).chg h12 (lg h1j)).ext s11).ext s18).ext s1b) (((((h3s.ext h13).chg h12 (lg h1j)).ext s11).ext s18).ext s1b) (h2b.ext s1b))) ?_
   rintro _ w65 ⟨s4w, rfl⟩
   refine Ra z (Wn ?_)
   obtain rfl := som hm4v
   exact Wr (ret1 hr z ⟨(bup (bup (bup (bup (bM (bup (bup h17 s16) h13) h12 (mem1le h1h)) s11) s18) s1b) s4w), z⟩)
  rintro r66 ex67 a68 w69 rfl ⟨rfl, hq4x⟩
  have hm4y := elR hm3c
  obtain rfl := som hm4y
  exact ⟨hq4x, z⟩
 rintro r6a ex6b a6c w6d rfl ⟨rfl, hq4z⟩
 have hm50 := elR hm2v
 obtain rfl := som hm50
 exact ⟨hq4z, z⟩
theorem W_w11 {x1 : Desc} {res : Bool} (hm : M_impl_IsValidDescription n x1 = some res) (hBw : B ≤ w0.z) (p1_0 : repS w0 B (sl A0 N0 C0) x1.rules) : CallsR prog 111 [(.agg #[sl A0 N0 C0])] w0 (Q11 w0 B res) := by
 unfold M_impl_IsValidDescription at hm
 refine goF func111 z z (lb z) fun fn hr => Ws (E z (fb z) ?_)
 rintro _ w1h ⟨rfl, h19⟩
 have h10 := h19.below
 have h1a : Blk w1h w0.z [sl A0 N0 C0] := h19.blk
 refine Ra z (Wn (Wq (Ws (R z (fd f_95_0 z) (R z (l1 g_93 z fid (h1a.at z)) ?_)))))
 have h14 := p1_0.ext h10
 refine R z (lnR d_93 z h14) ?_
 obtain ⟨r1u, e1i, hm1b⟩ := bdS hm
 refine E z (fc call117 z (W_w03 (B := B) e1i (lt_ hBw h10.size) (inI_len (repS.len h14)) (ii z) (ii z))) ?_
 rintro _ w12 ⟨s11, rfl⟩
 refine R z (not_ z) (Wn (Wc z (fun hc15 => ?_) (fun hc15 => ?_)))
 ·refine Ws (Ra z (Wn ?_))
  obtain rfl := som (ifT hm1b hc15)
  exact Wr (ret1 hr z ⟨(bup h10 s11), z⟩)
 refine Wk (Wq (Ws (R z (fd f_95_0 z) ?_)))
 have h1c := h1a.ext s11
 refine R z (l1 g_93 z fid (h1c.at z)) ?_
 have h1d := h14.ext s11
 refine R z (lnR d_93 z h1d) (Rm z (Wn ?_))
 obtain ⟨u1v, hu1j, hm1e⟩ := bdS (ifF hm1b hc15)
 refine WC_forN (σ := Unit) (ρ := Bool) (fun (k16 : Nat) (_ : Unit) a w => Sat 20 [(1, pt w0.z), (11, vI (x1.rules.length : Int)), (12, (vI ((k16 : Nat) : Int)))] a ∧ Below w12.z w12 w) (fun (_ : Unit) a w => Sat 20 [] a ∧ Below w12.z w12 w) (fun r ex a w => ex = .ret ∧ RetPost prog fn (Q11 w0 B r) a w) hu1j ?_ ?_ ?_ ?_ ?_
 ·exact fun _ q => ⟨(q.k (s3 z z z)), (br w12)⟩
 ·rintro k16 _ a1w w1x o1y hk17 ⟨hS1k, s13⟩ hm1l
  refine Wu ?_ hS1k
  refine Ws (R z (lss z z) (Wn (Wq (Wc z (fun _ => ?_) (fun hc => (nolt hk17 hc).elim)))))
  refine Wk (Wq (WC_block (Ws (Rm z (Ra z (Wn (Ws (R z (lN (vs := [sl A0 N0 C0]) g_95 z_95 z z fid ((h1c.ext s13).row 0 1 z)) (Rm z ?_)))))))))
  obtain ⟨r1z, e1m, hm1f⟩ := bdS hm1l
  refine E z (fc call135 z (W_w2o (B := B) e1m (lt_ hBw (lt_ (lt_ h10.size s11.size) s13.size)) (h1d.ext s13) (inI_cnt (Nat.le_of_lt hk17) (lt_ (repS.len p1_0) LEN_le)))) ?_
  rintro _ w20 ⟨s1g, rfl⟩
  refine R z (not_ z) (Wn (Wc z (fun hc18 => ?_) (fun hc18 => ?_)))
  ·exact Ws (Ra z (Wn (Wr (rtO (QO_retL (som (ifT hm1f hc18)).symm (ret1 hr z ⟨(bup (bup (bup h10 s11) s13) s1g), z⟩))))))
  exact Wk (Wg (R z (inc_ hk17 (lt_ (repS.len p1_0) LEN_le) z z) (Rm z (Wl (fun _ q => ⟨(), (som (ifF hm1f hc18)).symm, ⟨(q.k (s3 z z z)), (bup s13 s1g)⟩⟩)))))
 ·rintro _ a21 w22 ⟨hS1n, s1o⟩
  refine Wu ?_ hS1n
  refine Ws (R z (lss z z) (Wn (Wq (Wc z (fun hc => (noltt hc).elim) (fun _ => ?_)))))
  exact WC_exit (fun a' ha' => ⟨rfl, ⟨(Sat.weaken ha' sn), s1o⟩⟩)
 ·rintro _ a1p w23 rfl ⟨hS24, s1q⟩
  have hm1r := elL hm1e
  revert a1p
  refine Wo (Ws (Ra z (Wn ?_)))
  obtain rfl := som hm1r
  exact Wr (ret1 hr z ⟨(bup (bup h10 s11) s1q), z⟩)
 rintro r25 ex26 a27 w28 rfl ⟨rfl, hq1s⟩
 have hm1t := elR hm1e
 obtain rfl := som hm1t
 exact ⟨hq1s, z⟩
theorem W_w2p {x1 : Registry} {res : Bool} (hm : M_impl_IsValidRegistry n x1 = some res) (hBw : B ≤ w0.z) (p1_0 : repS w0 B (sl A0 N0 C0) x1.versions) : CallsR prog 82 [(.agg #[sl A0 N0 C0])] w0 (Q11 w0 B res) := by
 unfold M_impl_IsValidRegistry at hm
 refine goF func82 z z (lb z) fun fn hr => Ws (E z (fb z) ?_)
 rintro _ w10 ⟨rfl, h1d⟩
 have h11 := h1d.below
 have h1e : Blk w10 w0.z [sl A0 N0 C0] := h1d.blk
 refine Ra z (Wn (Wq (Ws (R z (fd f_34_0 z) (R z (l1 g_32 z fid (h1e.at z)) ?_)))))
 have h15 := p1_0.ext h11
 refine R z (lnR d_32 z h15) (R z (rd_gtr z z) (Wn (Wc z (fun hc16 => ?_) (fun hc16 => ?_))))
 ·refine Ws (Ra z (Wn ?_))
  obtain rfl := som (ifT hm hc16)
  exact Wr (ret1 hr z ⟨h11, z⟩)
 refine Wk (Wq (Ws (R z (fd f_34_0 z) (R z (l1 g_32 z fid (h1e.at z)) (R z (lnR d_32 z h15) (Rm z (Wn ?_)))))))
 obtain ⟨u25, hu1k, hm1f⟩ := bdS (ifF hm hc16)
 refine WC_forN (σ := Unit) (ρ := Bool) (fun (k17 : Nat) (_ : Unit) a w => Sat 20 [(10, sl A0 N0 C0), (11, vI (x1.versions.length : Int)), (12, (vI ((k17 : Nat) : Int)))] a ∧ Below w10.z w10 w) (fun (_ : Unit) a w => Sat 20 [] a ∧ Below w10.z w10 w) (fun r ex a w => ex = .ret ∧ RetPost prog fn (Q11 w0 B r) a w) hu1k ?_ ?_ ?_ ?_ ?_
 ·exact fun _ q => ⟨(q.k (s3 z z z)), (br w10)⟩
 ·rintro k17 _ a26 w1l o27 hk1g ⟨hS1m, s12⟩ hm1n
  refine Wu ?_ hS1m
  refine Ws (R z (lss z z) (Wn (Wq (Wc z (fun _ => ?_) (fun hc => (nolt hk1g hc).elim)))))
  refine Wk (Wq (WC_block (Ws ?_)))
  obtain ⟨x28, e1o, hm1p⟩ := bdS hm1n
  refine RX z (at_ (α := Desc) d_32 z_95 z z z (h15.ext s12) e1o) ?_
  rintro _ ⟨b29, o2a, cs2b, rfl, h1q, h1r, h2c⟩
  obtain ⟨a18, n19, c1a, rfl, h1s⟩ := Desc_open h1r
  refine R z (lN (vs := [sl a18 n19 c1a]) g_95 z_95 z z fid h1q) (E z (fa zero_95) ?_)
  rintro _ w1t ⟨rfl, h1h⟩
  have h13 := h1h.below
  have h1u : Blk w1t w1l.z [sl none 0 0] := h1h.blk
  refine E0 (fs (cur' := [sl a18 n19 c1a]) z_95 z z h1u z (lb z) (oA z) z) ?_
  rintro _ w2d ⟨h1v, s1w⟩
  have h14 := s1w.one
  refine Wn (Ws (R z (lN (vs := [sl a18 n19 c1a]) g_95 z_95 z z fid (h1v.row 0 1 z)) ?_))
  have h1b := lt_ h11.size s12.size
  obtain ⟨r2e, e1x, hm1i⟩ := bdS hm1p
  refine E z (fc call111 z (W_w11 (B := B) e1x (lt_ hBw (lt_ (lt_ h1b h13.size) h14.size)) ((h1s.ext h13).chg h14 (lg (mem1le (lt_ hBw h1b)))))) ?_
  rintro _ w2f ⟨s1j, rfl⟩
  refine R z (not_ z) (Wn (Wc z (fun hc1c => ?_) (fun hc1c => ?_)))
  ·exact Ws (Ra z (Wn (Wr (rtO (QO_retL (som (ifT hm1i hc1c)).symm (ret1 hr z ⟨(bup (bM (bup (bup h11 s12) h13) h14 (mem1le h1b)) s1j), z⟩))))))
  exact Wk (Wg (R z (inc_ hk1g (lt_ (repS.len p1_0) LEN_le) z z) (Rm z (Wl (fun _ q => ⟨(), (som (ifF hm1i hc1c)).symm, ⟨(q.k (s3 z z z)), (bup (bM (bup s12 h13) h14 (mem1le s12.size)) s1j)⟩⟩)))))
 ·rintro _ a2g w2h ⟨hS1y, s1z⟩
  refine Wu ?_ hS1y
  refine Ws (R z (lss z z) (Wn (Wq (Wc z (fun hc => (noltt hc).elim) (fun _ => ?_)))))
  exact WC_exit (fun a' ha' => ⟨rfl, ⟨(Sat.weaken ha' sn), s1z⟩⟩)
 ·rintro _ a20 w2i rfl ⟨hS2j, s21⟩
  have hm22 := elL hm1f
  revert a20
  refine Wo (Ws (Ra z (Wn ?_)))
  obtain rfl := som hm22
  exact Wr (ret1 hr z ⟨(bup h11 s21), z⟩)
 rintro r2k ex2l a2m w2n rfl ⟨rfl, hq23⟩
 have hm24 := elR hm1f
 obtain rfl := som hm24
 exact ⟨hq23, z⟩
theorem W_w2q {x1 : List UInt8} {res : (List UInt8) × Bool} (hm : M_impl_UnpackBytes n x1 = some res) (hBw : B ≤ w0.z) (p1_0 : repS w0 B (sl A0 N0 C0) x1) : CallsR prog 136 [sl A0 N0 C0] w0 (Q12 w0 B res) := by
 unfold M_impl_UnpackBytes at hm
 refine goF func136 z z (lb z) fun fn hr => Ws (Ra z (Ra z (Wn (Ws (E z (ef_lit0 (α := UInt8) el_25) ?_)))))
 rintro _ w14 ⟨a2u, n2v, c2w, rfl, s1c, h2x⟩
 refine Ra z (Wn (Wq (Ws (Ra z (Wn ?_)))))
 obtain ⟨u5p, hu2y, hm29⟩ := bdS hm
 refine WC_iter (σ := (List UInt8) × Int) (ρ := (List UInt8) × Bool) (fun s a w => un2 (fun x1l x12 => ∃ a15 n16 c17 S10, Sat 73 [(0, sl A0 N0 C0), (4, sl a15 n16 c17), (5, vI x12)] a ∧ Chg (· ∈ [w0.z]) w14 w ∧ ownS w S10 (sl a15 n16 c17) x1l ∧ S10.Nodup ∧ (∀ k ∈ S10, k ∈ [w0.z] ∨ w14.z ≤ k) ∧ inI x12) s) (fun s a w => un2 (fun x1l x12 => ∃ a15 n16 c17 S10, Sat 73 [(4, sl a15 n16 c17)] a ∧ Chg (· ∈ [w0.z]) w14 w ∧ ownS w S10 (sl a15 n16 c17) x1l ∧ S10.Nodup ∧ (∀ k ∈ S10, k ∈ [w0.z] ∨ w14.z ≤ k) ∧ inI x12) s) (fun r ex a w => ex = .ret ∧ RetPost prog fn (Q12 w0 B r) a w) hu2y ?_ ?_ ?_ ?_
 ·exact fun _ q => ⟨a2u, n2v, c2w, [w0.z], (q.k (s3 z z z)), (cr [w0.z] w14), h2x, nd_one, (io sr), (ii z)⟩
 ·rintro ⟨x1l, x12⟩ a5q w1h o5r ⟨a15, n16, c17, S10, hS2z, s1d, h1m, h1n, h1j, h2a⟩ hm30
  have hm2b := un2S hm30
  refine Wu ?_ hS2z
  refine Wq (Ws (Rm z (Rm z ?_)))
  have h2c := mem1le hBw
  have h1o := (p1_0.ext s1c).chg s1d (lg h2c)
  refine R z (lnR d_25 z h1o) (R z (lss z z) (Wn (Wc z (fun hc1x => ?_) (fun hc1x => ?_))))
  ·refine Wk (WC_block (Ws (Rm z (Rm z ?_))))
   obtain ⟨x1g, e31, hm32⟩ := bdS (ifT hm2b hc1x)
   refine RX z (at_ (α := UInt8) d_25 z_5 z z z h1o e31) ?_
   rintro _ ⟨b5s, o5t, cs5u, rfl, h33, h34, h5v⟩
   obtain rfl := UInt8_open h34
   refine R z (l1 g_5 z fid (h33.at0 z)) (R z (rd_convUI d_5 d_3 z) (Ra z (Wn (Ws (Rm z (R z (add_ z z) (Ra z (Wn (Wq (WC_block (Wq ?_)))))))))))
   obtain ⟨u35, hu2d, hm2e⟩ := bdS hm32
   refine WC_cut (fun a w => ∃ (x1y : Bool), x1y = u35 ∧ Sat 73 [(0, sl A0 N0 C0), (4, sl a15 n16 c17), (5, vI (iadd x12 1)), (6, vI (byteI x1g)), (33, vB x1y)] a ∧ Below w1h.z w1h w) ?_ ?_
   ·refine Wg (Rm z (R z (eql z z) (Rm z ?_)))
    rcases bs ((byteI x1g) == 0) with hc1f | hc1f
    ·exact Nh z hc1f (Nh z hc1f (R z (pT z hc1f z) (Rm z (Nh z z (Nh z z (Nh z z (Nh z z (R z (pT z z z) (Ra z (Wl (fun _ q => ⟨true, som (ifT hu2d hc1f), (q.k (s5 z z z z z)), (br w1h)⟩)))))))))))
    have hm2f := ifF hu2d hc1f
    refine Rh z hc1f (mv z) (Rh z hc1f (eql z z) (R z (pF z hc1f z) (Rm z ?_)))
    rcases bs ((byteI x1g) == 128) with hc1e | hc1e
    ·iterate 4 refine Nh z hc1e ?_
     exact R z (pT z hc1e z) (Ra z (Wl (fun _ q => ⟨true, som (ifT hm2f hc1e), (q.k (s5 z z z z z)), (br w1h)⟩)))
    exact Rh z hc1e (mv z) (Rh z hc1e (mv z) (Rh z hc1e (lnR d_25 z h1o) (Rh z hc1e (eql z z) (R z (pF z hc1e z) (Ra z (Wl (fun _ q => ⟨(iadd x12 1) == (x1.length : Int), som (ifF hm2f hc1e), (q.k (s5 z z z z z)), (br w1h)⟩)))))))
   rintro a36 w11 ⟨x1y, rfl, hS5w, s18⟩
   revert a36
   refine Wo (Wc z (fun hc1z => ?_) (fun hc1z => ?_))
   ·refine Ws (E z (ef_lit0 (α := UInt8) el_25) ?_)
    rintro _ w5x ⟨a37, n38, c39, rfl, s3a, h3b⟩
    exact Ra z (Ra z (Wn (Wr (rtO (rtO (QO_retL (som (ifT hm2e hc1z)).symm (ret2 hr z z ⟨(bup (bup (bM s1c s1d (mem1 lr)) s18) s3a), a37, n38, c39, [w11.z], z, h3b, nd_one, (mem1le (lt_ (lt_ s1c.size s1d.size) s18.size))⟩)))))))
   refine Ws (Rm z (R z (lss z z) (Ra z (Wn ?_))))
   obtain ⟨u3c, hu2g, hm20⟩ := bdS (ifF hm2e hc1z)
   refine WC_cut (fun a w => ∃ (x1t : List UInt8) (x1p : Int), Sum.inl (x1t, x1p) = u3c ∧ ∃ a1u n1v c1w S1k, Sat 73 [(0, sl A0 N0 C0), (4, sl a1u n1v c1w), (5, vI x1p)] a ∧ Chg (· ∈ S10) w11 w ∧ ownS w S1k (sl a1u n1v c1w) x1t ∧ S1k.Nodup ∧ (∀ k ∈ S1k, k ∈ S10 ∨ w11.z ≤ k) ∧ inI x1p) ?_ ?_
   ·refine Wc z (fun hc21 => ?_) (fun hc21 => ?_)
    ·have hm2h := ifT hu2g hc21
     refine Wq (Ws (Rm z (Rm z ?_)))
     have h2i := h1o.ext s18
     refine R z (lnR d_25 z h2i) (Rm z (R z (sb_ z z) (R z (rd_gtr z z) (Wn (Wc z (fun hc22 => ?_) (fun hc22 => ?_))))))
     ·refine Ws (E z (ef_lit0 (α := UInt8) el_25) ?_)
      rintro _ w5y ⟨a3d, n3e, c3f, rfl, s3g, h3h⟩
      refine Ra z (Ra z (Wn ?_))
      obtain rfl := som (ifT hm2h hc22)
      have hm3i := elR hm20
      exact Wr (rtO (rtO (QO_retL (som hm3i).symm (ret2 hr z z ⟨(bup (bup (bM s1c s1d (mem1 lr)) s18) s3g), a3d, n3e, c3f, [w11.z], z, h3h, nd_one, (mem1le (lt_ (lt_ s1c.size s1d.size) s18.size))⟩))))
     refine Wk (Ws (Rm z (Rm z (Rm z (Rm z (Rm z (R z (add_ z z) ?_)))))))
     obtain ⟨x5z, e3j, hm3k⟩ := bdS (ifF hm2h hc22)
     refine RX z (rd_sliceX d_25 z_5 z z h2i z z e3j) ?_
     rintro _ ⟨a60, n61, c62, rfl, h3l⟩
     obtain ⟨x3m, e3n, hm3o⟩ := bdS hm3k
     refine E z (ef_appendN (α := UInt8) el_25 e3n z z (h1m.ext s18) h1n h3l) ?_
     rintro _ w3p ⟨S2j, a3q, n3r, c3s, rfl, s3t, h3u, h3v, h3w⟩
     refine Ra z (Wn (Wg (Rm z (Rm z (R z (add_ z z) (Ra z (Wl ?_)))))))
     have h3x : ∀ k ∈ S2j, k ∈ S10 ∨ w11.z ≤ k := or1 h3w (io sr) (leor lr)
     have h3y : Chg (· ∈ S10) w11 w3p := cM (cr S10 w11) s3t (io sr)
     exact fun _ q => ⟨x3m, iadd (iadd x12 1) (byteI x1g), som hm3o, a3q, n3r, c3s, S2j, (q.k (s3 z z z)), h3y, h3u, h3v, h3x, (iA _ _)⟩
    refine Wq (Ws (Rm z (R z (sb_ z z) (Rm z (Wn ?_)))))
    obtain ⟨u63, hu3z, hm2k⟩ := bdS (ifF hu2g hc21)
    refine WC_forN (σ := (List UInt8)) (ρ := (List UInt8) × Bool) (fun (k23 : Nat) (x1i : List UInt8) a w => ∃ a19 n1a c1b S13, Sat 73 [(0, sl A0 N0 C0), (4, sl a19 n1a c1b), (5, vI (iadd x12 1)), (20, (vI (isub (byteI x1g) 128))), (21, (vI ((k23 : Nat) : Int)))] a ∧ Chg (· ∈ S10) w11 w ∧ ownS w S13 (sl a19 n1a c1b) x1i ∧ S13.Nodup ∧ (∀ k ∈ S13, k ∈ S10 ∨ w11.z ≤ k)) (fun (x1i : List UInt8) a w => ∃ a19 n1a c1b S13, Sat 73 [(0, sl A0 N0 C0), (4, sl a19 n1a c1b), (5, vI (iadd x12 1))] a ∧ Chg (· ∈ S10) w11 w ∧ ownS w S13 (sl a19 n1a c1b) x1i ∧ S13.Nodup ∧ (∀ k ∈ S13, k ∈ S10 ∨ w11.z ≤ k)) (fun r ex a w => ex = .ret ∧ RetPost prog fn (Q12 w0 B r) a w) hu3z ?_ ?_ ?_ ?_ ?_
    ·exact fun _ q => ⟨a15, n16, c17, S10, (q.k (s5 z z z z z)), (cr S10 w11), (h1m.ext s18), h1n, (io sr)⟩
    ·rintro k23 x1i a64 w2l o65 hk2m ⟨a19, n1a, c1b, S13, hS40, s24, h1q, h1r, h1s⟩ hm41
     refine Wu ?_ hS40
     refine Ws (R z (lss z z) (Wn (Wq (Wc z (fun _ => ?_) (fun hc => (noltI hk2m hc).elim)))))
     refine Wk (Wq (WC_block (Wg (Rm z (Rm z (Rm z ?_))))))
     obtain ⟨x42, e43, hm44⟩ := bdS hm41
     refine RX z (at_ (α := UInt8) d_25 z_5 z z z ((h1o.ext s18).chg s24 (lg (o1le h1j h2c (lt_ hBw s1c.size)))) e43) ?_
     rintro _ ⟨b66, o67, cs68, rfl, h45, h46, h69⟩
     obtain rfl := UInt8_open h46
     refine R z (l1 g_5 z fid (h45.at0 z)) (E z (ef_buildSlice [(.tmp 27)] el_25 z z z (szAll z) (lb z) (lb z)) ?_)
     rintro _ w2n ⟨rfl, h25⟩
     have h26 := h25.below
     have h47 : Blk w2n w2l.z [vU (byteI x42)] := h25.blk
     have h6a := ownS_new1 h25 UInt8_own
     obtain ⟨x48, e49, hm4a⟩ := bdS hm44
     refine E z (ef_pushN (α := UInt8) el_25 e49 z z (h1q.ext h26) h1r h47 UInt8_own all_nil nd_nil) ?_
     rintro _ w4b ⟨S2o, a4c, n4d, c4e, rfl, s4f, h4g, h4h, h4i⟩
     refine Ra z (Wn (Wg (R z (inc_ hk2m (toNat_le (iS _ _)) z z) (Rm z (Wl ?_)))))
     have h2p : ∀ k ∈ S13, k ∈ S10 ∨ w11.z ≤ k := or1 h1s (io sr) (leor lr)
     have h4j : ∀ k ∈ S2o, k ∈ S10 ∨ w11.z ≤ k := or2 h4i h2p all_nil (leor (lt_ s24.size h26.size))
     have h4k : Chg (· ∈ S10) w11 w2l := cM (cr S10 w11) s24 (io sr)
     have h4l : Chg (· ∈ S10) w11 w2n := cext h4k h26
     have h4m : Chg (· ∈ S10) w11 w4b := cM h4l s4f h2p
     exact fun _ q => ⟨x48, (som hm4a).symm, ⟨a4c, n4d, c4e, S2o, (q.k (s5 z z z z z)), h4m, h4g, h4h, h4j⟩⟩
    ·rintro x1i a6b w4n ⟨a19, n1a, c1b, S13, hS4o, s4p, h1q, h1r, h1s⟩
     refine Wu ?_ hS4o
     refine Ws (R z (lss z z) (Wn (Wq (Wc z (fun hc => (nolttI hc).elim) (fun _ => ?_)))))
     have h4q : ∀ k ∈ S13, k ∈ S10 ∨ w11.z ≤ k := or1 h1s (io sr) (leor lr)
     have h4r : Chg (· ∈ S10) w11 w4n := cM (cr S10 w11) s4p (io sr)
     exact WC_exit (fun a' ha' => ⟨rfl, ⟨a19, n1a, c1b, S13, (Sat.weaken ha' (s3 z z z)), h4r, h1q, h1r, h4q⟩⟩)
    ·rintro x1i a4s w4t rfl ⟨a19, n1a, c1b, S13, hS6c, s4u, h1q, h1r, h1s⟩
     have hm4v := elL hm2k
     revert a4s
     refine Wo (Wg (Rm z (R z (add_ z z) (Ra z (Wl ?_)))))
     have h4w : ∀ k ∈ S13, k ∈ S10 ∨ w11.z ≤ k := or1 h1s (io sr) (leor lr)
     have h4x : Chg (· ∈ S10) w11 w4t := cM (cr S10 w11) s4u (io sr)
     exact fun _ q => ⟨x1i, iadd (iadd x12 1) 1, som hm4v, a19, n1a, c1b, S13, (q.k (s3 z z z)), h4x, h1q, h1r, h4w, (iA _ _)⟩
    rintro r6d ex6e a6f w6g rfl ⟨rfl, hq4y⟩
    have hm4z := elR hm2k
    obtain rfl := som hm4z
    have hm50 := elR hm20
    exact ⟨(inbR (inbR (QO_ret (som hm50).symm ⟨rfl, hq4y⟩))), z⟩
   rintro a51 w2q ⟨x1t, x1p, rfl, a1u, n1v, c1w, S1k, hS6h, s27, h2r, h52, h53, h54⟩
   have hm55 := elL hm20
   have hm2s := un2S hm55
   revert a51
   refine Wo (Ws (Rm z (R z (lnR d_25 z (ownS.rep h2r)) (R z (rd_gtr z z) (Wn (Wc z (fun hc28 => ?_) (fun hc28 => ?_)))))))
   ·refine Ws (E z (ef_lit0 (α := UInt8) el_25) ?_)
    rintro _ w6i ⟨a56, n57, c58, rfl, s59, h5a⟩
    refine Ra z (Ra z (Wn ?_))
    have h5b : ∀ k ∈ S10, w0.z ≤ k := or1 h1j (mem1 lr) (lele s1c.size)
    exact Wr (rtO (QO_retL (som (ifT hm2s hc28)).symm (ret2 hr z z ⟨(bup (bM (bup (bM s1c s1d (mem1 lr)) s18) s27 h5b) s59), a56, n57, c58, [w2q.z], z, h5a, nd_one, (mem1le (lt_ (lt_ (lt_ s1c.size s1d.size) s18.size) s27.size))⟩)))
   refine WC_skip ?_
   have h2t : ∀ k ∈ S10, k ∈ [w0.z] ∨ w14.z ≤ k := or1 h1j (io sr) (leor lr)
   have h5c : ∀ k ∈ S1k, k ∈ [w0.z] ∨ w14.z ≤ k := or1 h53 h2t (leor (lt_ s1d.size s18.size))
   have h5d : Chg (· ∈ [w0.z]) w14 w1h := cM (cr [w0.z] w14) s1d (io sr)
   have h5e : Chg (· ∈ [w0.z]) w14 w11 := cext h5d s18
   have h5f : Chg (· ∈ [w0.z]) w14 w2q := cM h5e s27 h2t
   exact fun _ q => ⟨(x1t, x1p), (som (ifF hm2s hc28)).symm, ⟨a1u, n1v, c1w, S1k, (q.k (s3 z z z)), h5f, h2r, h52, h5c, h54⟩⟩
  have h5g : ∀ k ∈ S10, k ∈ [w0.z] ∨ w14.z ≤ k := or1 h1j (io sr) (leor lr)
  have h5h : Chg (· ∈ [w0.z]) w14 w1h := cM (cr [w0.z] w14) s1d (io sr)
  exact WC_exit (fun a' ha' => QO_brk (som (ifF hm2b hc1x)).symm ⟨a15, n16, c17, S10, (Sat.weaken ha' (s1 z)), h5h, h1m, h1n, h5g, h2a⟩)
 ·rintro ⟨x1l, x12⟩ a5i w6j rfl ⟨a15, n16, c17, S10, hS6k, s5j, h1m, h1n, h1j, h2a⟩
  have hm5k := elL hm29
  have hm5l := un2S hm5k
  revert a5i
  refine Wo (Ws (Rm z (Ra z (Ra z (Wn ?_)))))
  obtain rfl := som hm5l
  have h5m : ∀ k ∈ S10, w0.z ≤ k := or1 h1j (mem1 lr) (lele s1c.size)
  exact Wr (ret2 hr z z ⟨(bM s1c s5j (mem1 lr)), a15, n16, c17, S10, z, h1m, h1n, h5m⟩)
 rintro r6l ex6m a6n w6o rfl ⟨rfl, hq5n⟩
 have hm5o := elR hm29
 obtain rfl := som hm5o
 exact ⟨hq5n, z⟩
theorem W_w12 {x1 : Record} {res : Bool} (hm : M_impl_IsValidRecord n x1 = some res) (hBw : B ≤ w0.z) (p1_0 : inI x1.kind) (p1_1 : x1.name.b.length ≤ LEN) (p1_2 : inI x1.version) (p1_3 : repS w0 B (sl AD ND CD) x1.data) : CallsR prog 89 [(.agg #[vI x1.kind, Str.v x1.name, vI x1.version, sl AD ND CD])] w0 (Q11 w0 B res) := by
 unfold M_impl_IsValidRecord at hm
 refine goF func89 z z (lb z) fun fn hr => Ws (E z (fb z) ?_)
 rintro _ w1b ⟨rfl, h1g⟩
 have h15 := h1g.below
 have h1c : Blk w1b w0.z [vI x1.kind, Str.v x1.name, vI x1.version, sl AD ND CD] := h1g.blk
 refine Ra z (Wn (Wq (Wq ?_)))
 obtain ⟨u1o, hu1p, hm1h⟩ := bdS hm
 refine WC_cut (fun a w => ∃ (x1d : Bool), x1d = u1o ∧ Sat 38 [(1, pt w0.z), (18, vB x1d)] a ∧ Below w1b.z w1b w) ?_ ?_
 ·refine Wg (R z (fd f_76_1 z) (R z (l1 g_9 z fid (h1c.at z)) ?_))
  obtain ⟨r1q, e1r, hm1i⟩ := bdS hu1p
  refine E z (fc call116 z (W_w0h (B := B) e1r (lt_ hBw h15.size) p1_1)) ?_
  rintro _ w1z ⟨s16, rfl⟩
  refine R z (not_ z) (Rm z ?_)
  rcases bs (!r1q) with hc11 | hc11
  ·iterate 4 refine Nh z hc11 ?_
   exact R z (pT z hc11 z) (Rm z (Nh z z (Nh z z (Nh z z (Nh z z (R z (pT z z z) (Wl (fun _ q => ⟨true, som (ifT hm1i hc11), (q.k (s2 z z)), s16⟩))))))))
  refine Rh z hc11 (fd f_76_2 z) ?_
  have h1j := h1c.ext s16
  refine Rh z hc11 (l1 g_3 z fid (h1j.at z)) ?_
  obtain ⟨r1s, e1t, hm1k⟩ := bdS (ifF hm1i hc11)
  refine Eg z z hc11 z (fc call117 z (W_w03 (B := B) e1t (lt_ hBw (lt_ h15.size s16.size)) p1_2 (ii z) (ii z))) ?_
  rintro _ w20 ⟨s18, rfl⟩
  refine Rh z hc11 (not_ z) (R z (pF z hc11 z) (Rm z ?_))
  rcases bs (!r1s) with hc12 | hc12
  ·iterate 4 refine Nh z hc12 ?_
   exact R z (pT z hc12 z) (Wl (fun _ q => ⟨true, som (ifT hm1k hc12), (q.k (s2 z z)), (bup s16 s18)⟩))
  exact Rh z hc12 (fd f_76_3 z) (Rh z hc12 (l1 g_25 z fid ((h1j.ext s18).at z)) (Rh z hc12 (lnR d_25 z (((p1_3.ext h15).ext s16).ext s18)) (Rh z hc12 (rd_gtr z z) (R z (pF z hc12 z) (Wl (fun _ q => ⟨decide (400 < (x1.data.length : Int)), som (ifF hm1k hc12), (q.k (s2 z z)), (bup s16 s18)⟩))))))
 rintro a1u w17 ⟨x1d, rfl, hS21, s19⟩
 revert a1u
 refine Wo (Wc z (fun hc1e => ?_) (fun hc1e => ?_))
 ·refine Ws (Ra z (Wn ?_))
  obtain rfl := som (ifT hm1h hc1e)
  exact Wr (ret1 hr z ⟨(bup h15 s19), z⟩)
 refine Wk (Wq ?_)
 obtain ⟨u1v, hu1l, hm1w⟩ := bdS (ifF hm1h hc1e)
 refine WC_cut (fun a w => ∃ (x1f : Bool), x1f = u1v ∧ Sat 38 [(2, vB x1f)] a ∧ Below w17.z w17 w) ?_ ?_
 ·refine Wg (R z (fd f_76_0 z) ?_)
  have h1a := h1c.ext s19
  refine R z (l1 g_3 z fid (h1a.at z)) (R z (eql z z) (Rm z ?_))
  rcases bs (x1.kind == 1) with hc10 | hc10
  ·iterate 4 refine Nh z hc10 ?_
   exact Nv z (Nv z (Nv z (Nh z hc10 (Nh z hc10 (Nv z (Nv z (Nv z (Nv z (Nh z hc10 (R z (pT z hc10 z) (Ra z (Wl (fun _ q => ⟨true, som (ifT hu1l hc10), (q.k (s1 z)), (br w17)⟩)))))))))))))
  have hm1m := ifF hu1l hc10
  refine Rh z hc10 (fd f_76_0 z) (Rh z hc10 (l1 g_3 z fid (h1a.at z)) (Rh z hc10 (eql z z) (Rh z hc10 (mv z) ?_)))
  rcases bs (x1.kind == 2) with hc14 | hc14
  ·have hm1n := ifT hm1m hc14
   refine Rh z hc14 (fd f_76_2 z) (Rh z hc14 (l1 g_3 z fid (h1a.at z)) (Rh z hc14 (eql z z) (Rh z hc10 (pT z hc14 z) (Rh z hc10 (mv z) ?_))))
   rcases bs (x1.version == 0) with hc13 | hc13
   ·exact Rh z hc13 (fd f_76_3 z) (Rh z hc13 (l1 g_25 z fid (h1a.at z)) (Rh z hc13 (lnR d_25 z ((p1_3.ext h15).ext s19)) (Rh z hc13 (eql z z) (Rh z hc10 (pT z hc13 z) (R z (pF z hc10 z) (Ra z (Wl (fun _ q => ⟨(x1.data.length : Int) == 0, som (ifT hm1n hc13), (q.k (s1 z)), (br w17)⟩))))))))
   iterate 4 refine Nh z hc13 ?_
   exact Rh z hc10 (pF z hc13 z) (R z (pF z hc10 z) (Ra z (Wl (fun _ q => ⟨false, som (ifF hm1n hc13), (q.k (s1 z)), (br w17)⟩))))
  iterate 3 refine Nh z hc14 ?_
  exact Rh z hc10 (pF z hc14 z) (Rh z hc10 (mv z) (Nh z z (Nh z z (Nh z z (Nh z z (Rh z hc10 (pF z z z) (R z (pF z hc10 z) (Ra z (Wl (fun _ q => ⟨false, som (ifF hm1m hc14), (q.k (s1 z)), (br w17)⟩))))))))))
 rintro a1x w22 ⟨x1f, rfl, hS23, s1y⟩
 revert a1x
 refine Wo ?_
 obtain rfl := som hm1w
 exact Wr (ret1 hr z ⟨(bup (bup h15 s19) s1y), z⟩)
theorem W_w13 {x1 : List UInt8} {x2 : Int} {res : Bool} (hm : M_impl_startsRun x1 x2 = some res) (hBw : B ≤ w0.z) (p1_0 : repS w0 B (sl A0 N0 C0) x1) (p2_0 : inI x2) : CallsR prog 118 [sl A0 N0 C0, vI x2] w0 (Q11 w0 B res) := by
 unfold M_impl_startsRun at hm
 refine goF func118 z z (lb z) fun fn hr => Ws (Ra z (Wn (Wq ?_)))
 obtain ⟨u17, hu15, hm18⟩ := bdS hm
 refine WC_cut (fun a w => ∃ (x14 : Bool), x14 = u17 ∧ Sat 34 [(4, vB x14)] a ∧ Below w0.z w0 w) ?_ ?_
 ·refine WC_draw (X := noX) 0 (.rd 0 (.rd 1 (.rd 2 (.rd 3 (.rd 4 (.rd 5 (.rd 6 (.rd 7 (.rd 8 (.rd 9 (.rd 10 (.rd 11 (.rd 12 (.rd 13 (.rd 14 (.rd 15 (.rd 16 (.rd 17 (.rd 18 (.rd 19 (.rd 20 (.rd 21 (.rd 22 (.rd 23 (.rd 24 (.rd 25 (.rd 26 (.rd 27 (.rd 28 (.rd 29 .done)))))))))))))))))))))))))))))) mo (by kernel_rfl) fun w1u s13 _ => dR z z (mv z) (dR z z (add_ z z) (dR z z (mv z) ?_))
  have h12 := p1_0.ext s13
  refine dR z z (lnR d_25 z h12) (dR z z (lss z z) (dR z z (mv z) ?_))
  rcases bs (decide ((iadd x2 2) < (x1.length : Int))) with hc10 | hc10
  ·refine dRg z z z hc10 z (mv z) (dRg z z z hc10 z (mv z) ?_)
   obtain ⟨x19, e1a, hm1b⟩ := bdS (ifT hu15 hc10)
   refine dRXg z z z hc10 z (at_ (α := UInt8) d_25 z_5 z z z h12 e1a) ?_
   rintro _ ⟨b1v, o1w, cs1x, rfl, h1c, h1d, h1y⟩
   obtain rfl := UInt8_open h1d
   refine dRg z z z hc10 z (l1 g_5 z fid (h1c.at0 z)) (dRg z z z hc10 z (mv z) (dRg z z z hc10 z (mv z) (dRg z z z hc10 z (add_ z z) ?_)))
   obtain ⟨x1e, e1f, hm16⟩ := bdS hm1b
   refine dRXg z z z hc10 z (at_ (α := UInt8) d_25 z_5 z z z h12 e1f) ?_
   rintro _ ⟨b1z, o20, cs21, rfl, h1g, h1h, h22⟩
   obtain rfl := UInt8_open h1h
   refine dRg z z z hc10 z (l1 g_5 z fid (h1g.at0 z)) (dRg z z z hc10 z (eql z z) (dR z z (pT z hc10 z) (dR z z (mv z) ?_)))
   rcases bs ((byteI x19) == (byteI x1e)) with hc11 | hc11
   ·refine dRg z z z hc11 z (mv z) (dRg z z z hc11 z (mv z) ?_)
    obtain ⟨x1i, e1j, hm1k⟩ := bdS (ifT hm16 hc11)
    refine dRXg z z z hc11 z (at_ (α := UInt8) d_25 z_5 z z z h12 e1j) ?_
    rintro _ ⟨b23, o24, cs25, rfl, h1l, h1m, h26⟩
    obtain rfl := UInt8_open h1m
    refine dRg z z z hc11 z (l1 g_5 z fid (h1l.at0 z)) (dRg z z z hc11 z (mv z) (dRg z z z hc11 z (mv z) (dRg z z z hc11 z (add_ z z) ?_)))
    obtain ⟨x1n, e1o, hm1p⟩ := bdS hm1k
    refine dRXg z z z hc11 z (at_ (α := UInt8) d_25 z_5 z z z h12 e1o) ?_
    rintro _ ⟨b27, o28, cs29, rfl, h1q, h1r, h2a⟩
    obtain rfl := UInt8_open h1r
    exact dRg z z z hc11 z (l1 g_5 z fid (h1q.at0 z)) (dRg z z z hc11 z (eql z z) (dR z z (pT z hc11 z) (dR z z (asg z) (PR_done (fun _ q => ⟨(byteI x1i) == (byteI x1n), som hm1p, (q.k (s1 z)), s13⟩)))))
   iterate 10 refine dRn z z z hc11 z ?_
   exact dR z z (pF z hc11 z) (dR z z (asg z) (PR_done (fun _ q => ⟨false, som (ifF hm16 hc11), (q.k (s1 z)), s13⟩)))
  iterate 10 refine dRn z z z hc10 z ?_
  refine dR z z (pF z hc10 z) (dR z z (mv z) ?_)
  iterate 10 refine dRn z z z z z ?_
  exact dR z z (pF z z z) (dR z z (asg z) (PR_done (fun _ q => ⟨false, som (ifF hu15 hc10), (q.k (s1 z)), s13⟩)))
 rintro a1s w2b ⟨x14, rfl, hS2c, s1t⟩
 revert a1s
 refine Wo ?_
 obtain rfl := som hm18
 exact Wr (ret1 hr z ⟨s1t, z⟩)
theorem W_w2r {x1 : List UInt8} {x2 : Int} {res : Int} (hm : M_impl_RunAt n x1 x2 = some res) (hBw : B ≤ w0.z) (p1_0 : repS w0 B (sl A0 N0 C0) x1) (p2_0 : inI x2) : CallsR prog 120 [sl A0 N0 C0, vI x2] w0 (Q0 w0 B res) := by
 unfold M_impl_RunAt at hm
 refine goF func120 z z (lb z) fun fn hr => Ws (Ra z (Wn (Wq (Wq ?_))))
 obtain ⟨u1k, hu1d, hm1e⟩ := bdS hm
 refine WC_cut (fun a w => ∃ (x14 : Bool), x14 = u1k ∧ Sat 36 [(0, sl A0 N0 C0), (1, vI x2), (13, vB x14)] a ∧ Below w0.z w0 w) ?_ ?_
 ·refine Wg (Rm z (R z (lss z z) (Rm z ?_)))
  rcases bs (decide (x2 < 0)) with hc12 | hc12
  ·iterate 4 refine Nh z hc12 ?_
   exact R z (pT z hc12 z) (Wl (fun _ q => ⟨true, som (ifT hu1d hc12), (q.k (s3 z z z)), (br w0)⟩))
  exact Rh z hc12 (mv z) (Rh z hc12 (mv z) (Rh z hc12 (lnR d_25 z p1_0) (Rh z hc12 (rd_geq z z) (R z (pF z hc12 z) (Wl (fun _ q => ⟨decide ((x1.length : Int) ≤ x2), som (ifF hu1d hc12), (q.k (s3 z z z)), (br w0)⟩))))))
 rintro a1l w13 ⟨x14, rfl, hS26, s15⟩
 revert a1l
 refine Wo (Wc z (fun hc16 => ?_) (fun hc16 => ?_))
 ·refine Ws (Ra z (Wn ?_))
  obtain rfl := som (ifT hm1e hc16)
  exact Wr (ret1 hr z ⟨s15, z, (ii z)⟩)
 refine Wk (Ws (Ra z (Wn (Wq ?_))))
 obtain ⟨u27, hu1m, hm1f⟩ := bdS (ifF hm1e hc16)
 refine WC_iter (σ := Int) (ρ := Int) (fun (x11 : Int) a w => Sat 36 [(0, sl A0 N0 C0), (1, vI x2), (5, vI x11)] a ∧ Below w13.z w13 w ∧ inI x11) (fun (x11 : Int) a w => Sat 36 [(5, vI x11)] a ∧ Below w13.z w13 w ∧ inI x11) (fun r ex a w => ex = .ret ∧ RetPost prog fn (Q0 w0 B r) a w) hu1m ?_ ?_ ?_ ?_
 ·exact fun _ q => ⟨(q.k (s3 z z z)), (br w13), (ii z)⟩
 ·rintro x11 a28 w1g o29 ⟨hS1n, s17, h18⟩ hm1o
  refine Wu ?_ hS1n
  refine Wq (Wq ?_)
  obtain ⟨u1p, hu1h, hm1i⟩ := bdS hm1o
  refine WC_cut (fun a w => ∃ (x19 : Bool), x19 = u1p ∧ Sat 36 [(0, sl A0 N0 C0), (1, vI x2), (5, vI x11), (32, vB x19)] a ∧ Below w1g.z w1g w) ?_ ?_
  ·refine WC_draw (X := noX) 0 (.rd 0 (.rd 1 (.rd 2 (.rd 3 (.rd 4 (.rd 5 (.rd 6 (.rd 7 (.rd 8 (.rd 9 (.rd 10 (.rd 11 (.rd 12 (.rd 13 (.rd 14 (.rd 15 (.rd 16 (.rd 17 (.rd 18 .done))))))))))))))))))) mo (by kernel_rfl) fun w2a s1a _ => dR z z (mv z) (dR z z (mv z) (dR z z (add_ z z) (dR z z (mv z) ?_)))
   have h1b := ((p1_0.ext s15).ext s17).ext s1a
   refine dR z z (lnR d_25 z h1b) (dR z z (lss z z) (dR z z (mv z) ?_))
   rcases bs (decide ((iadd x2 x11) < (x1.length : Int))) with hc10 | hc10
   ·iterate 3 refine dRg z z z hc10 z (mv z) ?_
    refine dRg z z z hc10 z (add_ z z) ?_
    obtain ⟨x1q, e1r, hm1s⟩ := bdS (ifT hu1h hc10)
    refine dRXg z z z hc10 z (at_ (α := UInt8) d_25 z_5 z z z h1b e1r) ?_
    rintro _ ⟨b2b, o2c, cs2d, rfl, h1t, h1u, h2e⟩
    obtain rfl := UInt8_open h1u
    refine dRg z z z hc10 z (l1 g_5 z fid (h1t.at0 z)) (dRg z z z hc10 z (mv z) (dRg z z z hc10 z (mv z) ?_))
    obtain ⟨x1v, e1w, hm1x⟩ := bdS hm1s
    refine dRXg z z z hc10 z (at_ (α := UInt8) d_25 z_5 z z z h1b e1w) ?_
    rintro _ ⟨b2f, o2g, cs2h, rfl, h1y, h1z, h2i⟩
    obtain rfl := UInt8_open h1z
    exact dRg z z z hc10 z (l1 g_5 z fid (h1y.at0 z)) (dRg z z z hc10 z (eql z z) (dR z z (pT z hc10 z) (PR_done (fun _ q => ⟨(byteI x1q) == (byteI x1v), som hm1x, (q.k (s4 z z z z)), s1a⟩))))
   iterate 11 refine dRn z z z hc10 z ?_
   exact dR z z (pF z hc10 z) (PR_done (fun _ q => ⟨false, som (ifF hu1h hc10), (q.k (s4 z z z z)), s1a⟩))
  rintro a20 w2j ⟨x19, rfl, hS2k, s1j⟩
  revert a20
  refine Wo (Wc z (fun hc1c => ?_) (fun hc1c => ?_))
  ·exact Wk (WC_block (Wg (Rm z (R z (add_ z z) (Ra z (Wl (fun _ q => ⟨iadd x11 1, (som (ifT hm1i hc1c)).symm, ⟨(q.k (s3 z z z)), (bup s17 s1j), (iA _ _)⟩⟩)))))))
  exact WC_exit (fun a' ha' => QO_brk (som (ifF hm1i hc1c)).symm ⟨(Sat.weaken ha' (s1 z)), (bup s17 s1j), h18⟩)
 ·rintro x11 a21 w2l rfl ⟨hS2m, s22, h18⟩
  have hm23 := elL hm1f
  revert a21
  refine Wo (Ws (Rm z (Ra z (Wn ?_))))
  obtain rfl := som hm23
  exact Wr (ret1 hr z ⟨(bup s15 s22), z, h18⟩)
 rintro r2n ex2o a2p w2q rfl ⟨rfl, hq24⟩
 have hm25 := elR hm1f
 obtain rfl := som hm25
 exact ⟨hq24, z⟩
theorem W_w2s {x1 : Int} {x2 : Int} {res : Bool} (hm : M_impl_Min_1 x1 x2 = some res) (hBw : B ≤ w0.z) (p1_0 : inI x1) (p2_0 : inI x2) : CallsR prog 141 [vI x1, vI x2] w0 (Q11 w0 B res) := by
 unfold M_impl_Min_1 at hm
 refine goF func141 z z (lb z) fun fn hr => Ws (Ra z (Wn (Ws (Rm z (Rm z (R z (lss z z) (Ra z (Wn ?_))))))))
 obtain rfl := som hm
 exact Wr (ret1 hr z ⟨(br w0), z⟩)
theorem W_w2t {x2 : Int} {x3 : List Int} {res : Int} (hm : M_impl_pick_impl_Min_1 x2 x3 = some res) (hBw : B ≤ w0.z) (p2_0 : inI x2) (p3_0 : repS w0 B (sl A7 N7 C7) x3) : CallsR prog 140 [(.func (.func 141) #[] #[]), vI x2, sl A7 N7 C7] w0 (Q0 w0 B res) := by
 unfold M_impl_pick_impl_Min_1 at hm
 refine goF func140 z z (lb z) fun fn hr => Ws (Ra z (Wn (Wq (Ws (Rm z (R z (lnR d_142 z p3_0) (Rm z (Wn ?_))))))))
 obtain ⟨u1y, hu1b, hm17⟩ := bdS hm
 refine WC_forN (σ := Int) (ρ := Int) (fun (k13 : Nat) (x10 : Int) a w => Sat 22 [(0, (.func (.func 141) #[] #[])), (1, vI x10), (9, sl A7 N7 C7), (10, vI (x3.length : Int)), (11, (vI ((k13 : Nat) : Int)))] a ∧ Below w0.z w0 w ∧ inI x10) (fun (x10 : Int) a w => Sat 22 [(1, vI x10)] a ∧ Below w0.z w0 w ∧ inI x10) (fun r ex a w => ex = .ret ∧ RetPost prog fn (Q0 w0 B r) a w) hu1b ?_ ?_ ?_ ?_ ?_
 ·exact fun _ q => ⟨(q.k (s5 z z z z z)), (br w0), p2_0⟩
 ·rintro k13 x10 a1z w20 o21 hk18 ⟨hS1c, s15, h11⟩ hm1d
  refine Wu ?_ hS1c
  refine Ws (R z (lss z z) (Wn (Wq (Wc z (fun _ => ?_) (fun hc => (nolt hk18 hc).elim)))))
  refine Wk (Wq (WC_block (Ws ?_)))
  obtain ⟨x1e, e1f, hm1g⟩ := bdS hm1d
  refine RX z (at_ (α := Int) d_142 z_3 z z z (p3_0.ext s15) e1f) ?_
  rintro _ ⟨b22, o23, cs24, rfl, h1h, h1i, h25⟩
  obtain ⟨rfl, h19⟩ := Int_open h1i
  refine R z (l1 g_3 z fid (h1h.at0 z)) (Ra z (Wn (Ws (Rm z (Rm z (Rm z ?_))))))
  obtain ⟨r26, e1j, hm1k⟩ := bdS hm1g
  refine E z (ef_callV call141 z z (W_w2s (B := B) e1j (lt_ hBw s15.size) h19 h11)) ?_
  rintro _ w14 ⟨s1l, rfl⟩
  refine Wn ?_
  obtain ⟨u1m, hu1a, hm1n⟩ := bdS hm1k
  refine WC_cut (fun a w => ∃ (x12 : Int), x12 = u1m ∧ Sat 22 [(0, (.func (.func 141) #[] #[])), (1, vI x12), (9, sl A7 N7 C7), (10, vI (x3.length : Int)), (11, (vI ((k13 : Nat) : Int)))] a ∧ Below w14.z w14 w ∧ inI x12) ?_ ?_
  ·refine Wc z (fun hc16 => ?_) (fun hc16 => ?_)
   ·exact Wg (Rm z (Ra z (Wl (fun _ q => ⟨x1e, som (ifT hu1a hc16), (q.k (s5 z z z z z)), (br w14), h19⟩))))
   exact WC_skip (fun _ q => ⟨x10, som (ifF hu1a hc16), (q.k (s5 z z z z z)), (br w14), h11⟩)
  rintro a1o w27 ⟨x12, rfl, hS28, s1p, h1q⟩
  revert a1o
  exact Wo (Wg (R z (inc_ hk18 (lt_ (repS.len p3_0) LEN_le) z z) (Rm z (Wl (fun _ q => ⟨x12, (som hm1n).symm, ⟨(q.k (s5 z z z z z)), (bup (bup s15 s1l) s1p), h1q⟩⟩)))))
 ·rintro x10 a29 w2a ⟨hS1r, s1s, h11⟩
  refine Wu ?_ hS1r
  refine Ws (R z (lss z z) (Wn (Wq (Wc z (fun hc => (noltt hc).elim) (fun _ => ?_)))))
  exact WC_exit (fun a' ha' => ⟨rfl, ⟨(Sat.weaken ha' (s1 z)), s1s, h11⟩⟩)
 ·rintro x10 a1t w2b rfl ⟨hS2c, s1u, h11⟩
  have hm1v := elL hm17
  revert a1t
  refine Wo (Ws (Rm z (Ra z (Wn ?_))))
  obtain rfl := som hm1v
  exact Wr (ret1 hr z ⟨s1u, z, h11⟩)
 rintro r2d ex2e a2f w2g rfl ⟨rfl, hq1w⟩
 have hm1x := elR hm17
 obtain rfl := som hm1x
 exact ⟨hq1w, z⟩
theorem W_w2u {x1 : Int} {x2 : Int} {res : Int} (hm : M_impl_Min x1 x2 = some res) (hBw : B ≤ w0.z) (p1_0 : inI x1) (p2_0 : inI x2) : CallsR prog 119 [vI x1, vI x2] w0 (Q0 w0 B res) := by
 unfold M_impl_Min at hm
 refine goF func119 z z (lb z) fun fn hr => Ws (Ra z (Wn (Ws (Rm z (Rm z (E z (ef_buildSlice [(.tmp 6)] el_142 z z z (szAll z) (lb z) (lb z)) ?_))))))
 rintro _ w11 ⟨rfl, h10⟩
 have h16 : Blk w11 w0.z [vI x2] := h10.blk
 obtain ⟨r17, e12, hm13⟩ := bdS hm
 refine E z (fc call140 z (W_w2t (B := w11.z) e12 lr p1_0 (ownS.rep (ownS_new1 h10 (Int_own p2_0))))) ?_
 rintro _ w18 ⟨s14, rfl, h15⟩
 refine Ra z (Wn ?_)
 obtain rfl := som hm13
 exact Wr (ret1 hr z ⟨(bup h10.below s14), z, h15⟩)
theorem W_w2v {x1 : List UInt8} {res : (List UInt8)} (hm : M_impl_PackBytes n x1 = some res) (hBw : B ≤ w0.z) (p1_0 : repS w0 B (sl A0 N0 C0) x1) : CallsR prog 90 [sl A0 N0 C0] w0 (Q1 w0 B res) := by
 unfold M_impl_PackBytes at hm
 refine goF func90 z z (lb z) fun fn hr => Ws (Ra z (Wn (Ws (E z (ef_lit0 (α := UInt8) el_25) ?_))))
 rintro _ w17 ⟨a2u, n2v, c2w, rfl, s1d, h2x⟩
 refine Ra z (Wn (Wq (Ws (Ra z (Wn ?_)))))
 obtain ⟨u5o, hu2y, hm29⟩ := bdS hm
 refine WC_iter (σ := (List UInt8) × Int) (ρ := (List UInt8)) (fun s a w => un2 (fun x1e x12 => ∃ a13 n14 c15 S10, Sat 67 [(0, sl A0 N0 C0), (3, sl a13 n14 c15), (4, vI x12)] a ∧ Chg (· ∈ [w0.z]) w17 w ∧ ownS w S10 (sl a13 n14 c15) x1e ∧ S10.Nodup ∧ (∀ k ∈ S10, k ∈ [w0.z] ∨ w17.z ≤ k) ∧ inI x12) s) (fun s a w => un2 (fun x1e x12 => ∃ a13 n14 c15 S10, Sat 67 [(3, sl a13 n14 c15)] a ∧ Chg (· ∈ [w0.z]) w17 w ∧ ownS w S10 (sl a13 n14 c15) x1e ∧ S10.Nodup ∧ (∀ k ∈ S10, k ∈ [w0.z] ∨ w17.z ≤ k) ∧ inI x12) s) (fun r ex a w => ex = .ret ∧ RetPost prog fn (Q1 w0 B r) a w) hu2y ?_ ?_ ?_ ?_
 ·exact fun _ q => ⟨a2u, n2v, c2w, [w0.z], (q.k (s3 z z z)), (cr [w0.z] w17), h2x, nd_one, (io sr), (ii z)⟩
 ·rintro ⟨x1e, x12⟩ a5p w11 o5q ⟨a13, n14, c15, S10, hS2z, s1f, h1g, h1h, h1i, h1m⟩ hm30
  have hm2a := un2S hm30
  refine Wu ?_ hS2z
  refine Wq (Ws (Rm z (Rm z ?_)))
  have h2b := mem1le hBw
  have h1j := (p1_0.ext s1d).chg s1f (lg h2b)
  refine R z (lnR d_25 z h1j) (R z (lss z z) (Wn (Wc z (fun hc1z => ?_) (fun hc1z => ?_))))
  ·refine Wk ?_
   obtain ⟨u31, hu32, hm2c⟩ := bdS (ifT hm2a hc1z)
   refine WC_cut (fun a w => ∃ (x1n : List UInt8) (x1k : Int), Sum.inl (x1n, x1k) = u31 ∧ ∃ a1o n1p c1q S1c, Sat 67 [(0, sl A0 N0 C0), (3, sl a1o n1p c1q), (4, vI x1k)] a ∧ Chg (· ∈ S10) w11 w ∧ ownS w S1c (sl a1o n1p c1q) x1n ∧ S1c.Nodup ∧ (∀ k ∈ S1c, k ∈ S10 ∨ w11.z ≤ k) ∧ inI x1k) ?_ ?_
   ·refine WC_block (Wq (Ws (Rm z (Rm z ?_))))
    have h20 := lt_ s1d.size s1f.size
    obtain ⟨r5r, e33, hm2d⟩ := bdS hu32
    refine E z (fc call118 z (W_w13 (B := B) e33 (lt_ hBw h20) h1j h1m)) ?_
    rintro _ w1b ⟨s18, rfl⟩
    refine Wn (Wc z (fun hc21 => ?_) (fun hc21 => ?_))
    ·refine Ws (Rm z (Rm z ?_))
     have h2e := h1j.ext s18
     have h2f := lt_ h20 s18.size
     obtain ⟨r5s, e34, hm35⟩ := bdS (ifT hm2d hc21)
     refine E z (fc call120 z (W_w2r (B := B) e34 (lt_ hBw h2f) h2e h1m)) ?_
     rintro _ w36 ⟨s1l, rfl, h37⟩
     obtain ⟨r1r, e38, hm39⟩ := bdS hm35
     refine E z (fc call119 z (W_w2u (B := B) e38 (lt_ hBw (lt_ h2f s1l.size)) h37 (ii z))) ?_
     rintro _ w1s ⟨s1t, rfl, h5t⟩
     refine Ra z (Wn (Ws (Rm z (Rm z (R z (add_ z z) (R z (rd_convU d_3 d_5 z) (Rm z (Rm z ?_))))))))
     obtain ⟨x22, e3a, hm3b⟩ := bdS hm39
     refine RX z (at_ (α := UInt8) d_25 z_5 z z z ((h2e.ext s1l).ext s1t) e3a) ?_
     rintro _ ⟨b5u, o5v, cs5w, rfl, h3c, h3d, h5x⟩
     obtain rfl := UInt8_open h3d
     refine R z (l1 g_5 z fid (h3c.at0 z)) (E z (ef_buildSlice [(.tmp 22), (.tmp 26)] el_25 z z z (szAll z) (lb z) (lb z)) ?_)
     rintro _ w23 ⟨rfl, h2g⟩
     have h24 := h2g.below
     have h3e : Blk w23 w1s.z [(vU (byteI (mkB (iadd 128 r1r)))), vU (byteI x22)] := h2g.blk
     have h3f : ownS w23 [w1s.z] (sl (some ⟨w1s.z, 0, none⟩) 2 2) [mkB (iadd 128 r1r), x22] := own_lit (l := [mkB (iadd 128 r1r), x22]) h3e z
     obtain ⟨x3g, e3h, hm3i⟩ := bdS hm3b
     refine E z (ef_appendN (α := UInt8) el_25 e3h z z ((((h1g.ext s18).ext s1l).ext s1t).ext h24) h1h (ownS.rep h3f)) ?_
     rintro _ w3j ⟨S2h, a3k, n3l, c3m, rfl, s3n, h3o, h3p, h3q⟩
     refine Ra z (Wn (Ws (Rm z (Rm z (R z (add_ z z) (Ra z (Wn (WC_exit (exH ?_)))))))))
     have h3r : ∀ k ∈ S2h, k ∈ S10 ∨ w11.z ≤ k := or1 h3q (io sr) (leor (lt_ (lt_ (lt_ s18.size s1l.size) s1t.size) h24.size))
     have h3s : Chg (· ∈ S10) w11 w1b := cext (cr S10 w11) s18
     have h3t : Chg (· ∈ S10) w11 w36 := cext h3s s1l
     have h3u : Chg (· ∈ S10) w11 w1s := cext h3t s1t
     have h3v : Chg (· ∈ S10) w11 w23 := cext h3u h24
     have h3w : Chg (· ∈ S10) w11 w3j := cM h3v s3n (io sr)
     exact fun _ q => ⟨x3g, iadd x12 r1r, som hm3i, a3k, n3l, c3m, S2h, (q.k (s3 z z z)), h3w, h3o, h3p, h3r, (iA _ _)⟩
    refine Wk (Ws (Rm z (R z (add_ z z) (Ra z (Wn (Wq ?_))))))
    obtain ⟨u5y, hu3x, hm2i⟩ := bdS (ifF hm2d hc21)
    refine WC_iter (σ := Int) (ρ := (List UInt8)) (fun (x16 : Int) a w => Sat 67 [(0, sl A0 N0 C0), (3, sl a13 n14 c15), (4, vI x12), (6, vI x16)] a ∧ Below w1b.z w1b w ∧ inI x16) (fun (x16 : Int) a w => Sat 67 [(0, sl A0 N0 C0), (3, sl a13 n14 c15), (4, vI x12), (6, vI x16)] a ∧ Below w1b.z w1b w ∧ inI x16) (fun r ex a w => ex = .ret ∧ RetPost prog fn (Q1 w0 B r) a w) hu3x ?_ ?_ ?_ ?_
    ·exact fun _ q => ⟨(q.k (s4 z z z z)), (br w1b), (iA _ _)⟩
    ·rintro x16 a5z w1u o60 ⟨hS3y, s1v, h1w⟩ hm3z
     refine Wu ?_ hS3y
     refine Wq (Wq ?_)
     obtain ⟨u40, hu2j, hm2k⟩ := bdS hm3z
     refine WC_cut (fun a w => ∃ (x25 : Bool), x25 = u40 ∧ Sat 67 [(0, sl A0 N0 C0), (3, sl a13 n14 c15), (4, vI x12), (6, vI x16), (49, vB x25)] a ∧ Below w1u.z w1u w) ?_ ?_
     ·refine Wg (Rm z (Rm z ?_))
      have h2l := (h1j.ext s18).ext s1v
      refine R z (lnR d_25 z h2l) (R z (lss z z) (Rm z ?_))
      rcases bs (decide (x16 < (x1.length : Int))) with hc19 | hc19
      ·have hm2m := ifT hu2j hc19
       refine Rh z hc19 (mv z) (Rh z hc19 (mv z) (Rh z hc19 (sb_ z z) (Rh z hc19 (lss z z) (R z (pT z hc19 z) (Rm z ?_)))))
       rcases bs (decide ((isub x16 x12) < 127)) with hc1a | hc1a
       ·refine Rh z hc1a (mv z) (Rh z hc1a (mv z) ?_)
        obtain ⟨r41, e42, hm43⟩ := bdS (ifT hm2m hc1a)
        refine Eg z z hc1a z (fc call118 z (W_w13 (B := B) e42 (lt_ hBw (lt_ (lt_ h20 s18.size) s1v.size)) h2l h1w)) ?_
        rintro _ w61 ⟨s44, rfl⟩
        exact Rh z hc1a (not_ z) (R z (pT z hc1a z) (Wl (fun _ q => ⟨!r41, som hm43, (q.k (s5 z z z z z)), s44⟩)))
       iterate 4 refine Nh z hc1a ?_
       exact R z (pF z hc1a z) (Wl (fun _ q => ⟨false, som (ifF hm2m hc1a), (q.k (s5 z z z z z)), (br w1u)⟩))
      iterate 4 refine Nh z hc19 ?_
      exact R z (pF z hc19 z) (Rm z (Nh z z (Nh z z (Nh z z (Nh z z (R z (pF z z z) (Wl (fun _ q => ⟨false, som (ifF hu2j hc19), (q.k (s5 z z z z z)), (br w1u)⟩))))))))
     rintro a45 w62 ⟨x25, rfl, hS63, s2n⟩
     revert a45
     refine Wo (Wc z (fun hc26 => ?_) (fun hc26 => ?_))
     ·exact Wk (WC_block (Wg (Rm z (R z (add_ z z) (Ra z (Wl (fun _ q => ⟨iadd x16 1, (som (ifT hm2k hc26)).symm, ⟨(q.k (s4 z z z z)), (bup s1v s2n), (iA _ _)⟩⟩)))))))
     exact WC_exit (fun a' ha' => QO_brk (som (ifF hm2k hc26)).symm ⟨(Sat.weaken ha' (s4 z z z z)), (bup s1v s2n), h1w⟩)
    ·rintro x16 a46 w2o rfl ⟨hS64, s1x, h1w⟩
     have hm47 := elL hm2i
     revert a46
     refine Wo (Ws (Rm z (Rm z (Rm z (R z (sb_ z z) (R z (rd_convU d_3 d_5 z) (E z (ef_buildSlice [(.tmp 56)] el_25 z z z (szAll z) (lb z) (lb z)) ?_)))))))
     rintro _ w2p ⟨rfl, h27⟩
     have h1y := h27.below
     have h48 : Blk w2p w2o.z [(vU (byteI (mkB (isub x16 x12))))] := h27.blk
     have h65 := ownS_new1 h27 UInt8_own
     obtain ⟨x66, e49, hm4a⟩ := bdS hm47
     refine E z (ef_pushN (α := UInt8) el_25 e49 z z (((h1g.ext s18).ext s1x).ext h1y) h1h h48 UInt8_own all_nil nd_nil) ?_
     rintro _ w4b ⟨S4c, a67, n68, c69, rfl, s28, h4d, h4e, h4f⟩
     refine Ra z (Wn (Ws (Rm z (Rm z (Rm z (Rm z ?_))))))
     obtain ⟨x6a, e4g, hm4h⟩ := bdS hm4a
     refine RX z (rd_sliceX d_25 z_5 z z ((((h1j.ext s18).ext s1x).ext h1y).chg s28 (lg (o1le h1i h2b (lt_ hBw s1d.size)))) z z e4g) ?_
     rintro _ ⟨a6b, n6c, c6d, rfl, h4i⟩
     obtain ⟨x4j, e4k, hm4l⟩ := bdS hm4h
     refine E z (ef_appendN (α := UInt8) el_25 e4k z z h4d h4e h4i) ?_
     rintro _ w4m ⟨S2q, a4n, n4o, c4p, rfl, s4q, h4r, h4s, h4t⟩
     refine Ra z (Wn (Wg (Rm z (Ra z (Wl ?_)))))
     have h2r := lt_ (lt_ s18.size s1x.size) h1y.size
     have h2s : ∀ k ∈ S4c, k ∈ S10 ∨ w11.z ≤ k := or2 h4f (io sr) all_nil (leor h2r)
     have h4u : ∀ k ∈ S2q, k ∈ S10 ∨ w11.z ≤ k := or1 h4t h2s (leor (lt_ h2r s28.size))
     have h4v : Chg (· ∈ S10) w11 w1b := cext (cr S10 w11) s18
     have h4w : Chg (· ∈ S10) w11 w2o := cext h4v s1x
     have h4x : Chg (· ∈ S10) w11 w2p := cext h4w h1y
     have h4y : Chg (· ∈ S10) w11 w4b := cM h4x s28 (io sr)
     have h4z : Chg (· ∈ S10) w11 w4m := cM h4y s4q h2s
     exact fun _ q => ⟨x4j, x16, som hm4l, a4n, n4o, c4p, S2q, (q.k (s3 z z z)), h4z, h4r, h4s, h4u, h1w⟩
    rintro r6e ex6f a6g w6h rfl ⟨rfl, hq50⟩
    have hm51 := elR hm2i
    obtain rfl := som hm51
    have hm52 := elR hm2c
    exact ⟨(inbR (QO_ret (som hm52).symm ⟨rfl, hq50⟩)), z⟩
   rintro a53 w54 ⟨x1n, x1k, rfl, a1o, n1p, c1q, S1c, hS6i, s55, h56, h57, h58, h59⟩
   have hm5a := elL hm2c
   have hm5b := un2S hm5a
   revert a53
   have h2t : ∀ k ∈ S10, k ∈ [w0.z] ∨ w17.z ≤ k := or1 h1i (io sr) (leor lr)
   have h5c : ∀ k ∈ S1c, k ∈ [w0.z] ∨ w17.z ≤ k := or1 h58 h2t (leor s1f.size)
   have h5d : Chg (· ∈ [w0.z]) w17 w11 := cM (cr [w0.z] w17) s1f (io sr)
   have h5e : Chg (· ∈ [w0.z]) w17 w54 := cM h5d s55 h2t
   exact fun _ q => ⟨(x1n, x1k), (som hm5b).symm, ⟨a1o, n1p, c1q, S1c, (q.k (s3 z z z)), h5e, h56, h57, h5c, h59⟩⟩
  have h5f : ∀ k ∈ S10, k ∈ [w0.z] ∨ w17.z ≤ k := or1 h1i (io sr) (leor lr)
  have h5g : Chg (· ∈ [w0.z]) w17 w11 := cM (cr [w0.z] w17) s1f (io sr)
  exact WC_exit (fun a' ha' => QO_brk (som (ifF hm2a hc1z)).symm ⟨a13, n14, c15, S10, (Sat.weaken ha' (s1 z)), h5g, h1g, h1h, h5f, h1m⟩)
 ·rintro ⟨x1e, x12⟩ a5h w6j rfl ⟨a13, n14, c15, S10, hS6k, s5i, h1g, h1h, h1i, h1m⟩
  have hm5j := elL hm29
  have hm5k := un2S hm5j
  revert a5h
  refine Wo (Ws (Rm z (Ra z (Wn ?_))))
  obtain rfl := som hm5k
  have h5l : ∀ k ∈ S10, w0.z ≤ k := or1 h1i (mem1 lr) (lele s1d.size)
  exact Wr (ret1 hr z ⟨(bM s1d s5i (mem1 lr)), a13, n14, c15, S10, z, h1g, h1h, h5l⟩)
 rintro r6l ex6m a6n w6o rfl ⟨rfl, hq5m⟩
 have hm5n := elR hm29
 obtain rfl := som hm5n
 exact ⟨hq5m, z⟩
theorem W_w14 {x1 : List UInt8} {res : Int} (hm : M_impl_SumOfBytes x1 = some res) (hBw : B ≤ w0.z) (p1_0 : repS w0 B (sl A0 N0 C0) x1) : CallsR prog 91 [sl A0 N0 C0] w0 (Q0 w0 B res) := by
 unfold M_impl_SumOfBytes at hm
 refine goF func91 z z (lb z) fun fn hr => Ws (Ra z (Wn (Ws (Ra z (Wn (Wq (Ws (Rm z (R z (lnR d_25 z p1_0) (Rm z (Wn ?_)))))))))))
 obtain ⟨u1l, hu16, hm13⟩ := bdS hm
 refine WC_forN (σ := Int) (ρ := Int) (fun (k12 : Nat) (x10 : Int) a w => Sat 19 [(3, vI x10), (6, sl A0 N0 C0), (7, vI (x1.length : Int)), (8, (vI ((k12 : Nat) : Int)))] a ∧ Below w0.z w0 w ∧ inI x10) (fun (x10 : Int) a w => Sat 19 [(3, vI x10)] a ∧ Below w0.z w0 w ∧ inI x10) (fun r ex a w => ex = .ret ∧ RetPost prog fn (Q0 w0 B r) a w) hu16 ?_ ?_ ?_ ?_ ?_
 ·exact fun _ q => ⟨(q.k (s4 z z z z)), (br w0), (ii z)⟩
 ·rintro k12 x10 a1m w1n o1o hk14 ⟨hS17, s15, h11⟩ hm18
  refine Wu ?_ hS17
  refine Ws (R z (lss z z) (Wn (Wq (Wc z (fun _ => ?_) (fun hc => (nolt hk14 hc).elim)))))
  refine Wk (Wq (WC_block (Ws ?_)))
  obtain ⟨x19, e1a, hm1b⟩ := bdS hm18
  refine RX z (at_ (α := UInt8) d_25 z_5 z z z (p1_0.ext s15) e1a) ?_
  rintro _ ⟨b1p, o1q, cs1r, rfl, h1c, h1d, h1s⟩
  obtain rfl := UInt8_open h1d
  exact R z (l1 g_5 z fid (h1c.at0 z)) (Ra z (Wn (Wg (Rm z (Rm z (R z (rd_convUI d_5 d_3 z) (R z (add_ z z) (Ra z (Wn (Wg (R z (inc_ hk14 (lt_ (repS.len p1_0) LEN_le) z z) (Rm z (Wl (fun _ q => ⟨iadd x10 (byteI x19), (som hm1b).symm, ⟨(q.k (s4 z z z z)), s15, (iA _ _)⟩⟩))))))))))))))
 ·rintro x10 a1t w1u ⟨hS1e, s1f, h11⟩
  refine Wu ?_ hS1e
  refine Ws (R z (lss z z) (Wn (Wq (Wc z (fun hc => (noltt hc).elim) (fun _ => ?_)))))
  exact WC_exit (fun a' ha' => ⟨rfl, ⟨(Sat.weaken ha' (s1 z)), s1f, h11⟩⟩)
 ·rintro x10 a1g w1v rfl ⟨hS1w, s1h, h11⟩
  have hm1i := elL hm13
  revert a1g
  refine Wo (Ws (Rm z (R z (rd_rem z z (by decide)) (Ra z (Wn ?_)))))
  obtain rfl := som hm1i
  exact Wr (ret1 hr z ⟨s1h, z, (inI_rem h11)⟩)
 rintro r1x ex1y a1z w20 rfl ⟨rfl, hq1j⟩
 have hm1k := elR hm13
 obtain rfl := som hm1k
 exact ⟨hq1j, z⟩
theorem W_w2w {x1 : Record} {res : (List UInt8)} (hm : M_impl_EncodeRecord n x1 = some res) (hBw : B ≤ w0.z) (p1_0 : inI x1.kind) (p1_1 : x1.name.b.length ≤ LEN) (p1_2 : inI x1.version) (p1_3 : repS w0 B (sl AD ND CD) x1.data) : CallsR prog 52 [(.agg #[vI x1.kind, Str.v x1.name, vI x1.version, sl AD ND CD])] w0 (Q1 w0 B res) := by
 unfold M_impl_EncodeRecord at hm
 refine goF func52 z z (lb z) fun fn hr => Ws (E z (fb z) ?_)
 rintro _ w25 ⟨rfl, h1i⟩
 have h11 := h1i.below
 have h18 : Blk w25 w0.z [vI x1.kind, Str.v x1.name, vI x1.version, sl AD ND CD] := h1i.blk
 refine Ra z (Wn (Wq (Ws (R z (lN (vs := [vI x1.kind, Str.v x1.name, vI x1.version, sl AD ND CD]) g_76 z_76 z z fid (h18.row 0 4 z)) ?_))))
 have h1j := p1_3.ext h11
 obtain ⟨r3d, e26, hm1k⟩ := bdS hm
 refine E z (fc call89 z (W_w12 (B := B) e26 (lt_ hBw h11.size) p1_0 p1_1 p1_2 h1j)) ?_
 rintro _ w27 ⟨s10, rfl⟩
 refine R z (not_ z) (Wn (Wc z (fun hc19 => ?_) (fun hc19 => ?_)))
 ·refine Ws (E z (ef_lit0 (α := UInt8) el_25) ?_)
  rintro _ w3e ⟨a28, n29, c2a, rfl, s2b, h2c⟩
  refine Ra z (Wn ?_)
  obtain rfl := som (ifT hm1k hc19)
  exact Wr (ret1 hr z ⟨(bup (bup h11 s10) s2b), a28, n29, c2a, [w27.z], z, h2c, nd_one, (mem1le (lt_ h11.size s10.size))⟩)
 refine Wk (Ws (R z (fd f_76_3 z) ?_))
 have h1l := h18.ext s10
 refine R z (l1 g_25 z fid (h1l.at z)) ?_
 have h1m := lt_ h11.size s10.size
 obtain ⟨r12, e2d, hm2e⟩ := bdS (ifF hm1k hc19)
 refine E z (fc call90 z (W_w2v (B := B) e2d (lt_ hBw h1m) (h1j.ext s10))) ?_
 rintro _ w1a ⟨s15, a3f, n3g, c3h, S3i, rfl, h13, h3j, h3k⟩
 refine Ra z (Wn (Ws (R z (fd f_76_0 z) ?_)))
 have h1b := h1l.ext s15
 refine R z (l1 g_3 z fid (h1b.at z)) (R z (rd_convU d_3 d_5 z) (R z (fd f_76_1 z) (R z (l1 g_9 z fid (h1b.at z)) (R z (lnT d_9 z) (R z (rd_convU d_3 d_5 z) (E z (ef_buildSlice [(.tmp 14), (.tmp 18)] el_25 z z z (szAll z) (lb z) (lb z)) ?_))))))
 rintro _ w1n ⟨rfl, h1o⟩
 have h14 := h1o.below
 have h2f : Blk w1n w1a.z [(vU (byteI (mkB x1.kind))), (vU (byteI (mkB (x1.name.b.length : Int))))] := h1o.blk
 have h2g : ownS w1n [w1a.z] (sl (some ⟨w1a.z, 0, none⟩) 2 2) [mkB x1.kind, mkB (x1.name.b.length : Int)] := own_lit (l := [mkB x1.kind, mkB (x1.name.b.length : Int)]) h2f z
 refine Ra z (Wn (Ws (Rm z (R z (fd f_76_1 z) ?_))))
 have h1p := h1b.ext h14
 refine R z (l1 g_9 z fid (h1p.at z)) ?_
 obtain ⟨x3l, e2h, hm2i⟩ := bdS hm2e
 refine E z (ef_appendT el_25 d_9 e2h z z h2g nd_one) ?_
 rintro _ w1c ⟨S3m, a3n, n3o, c3p, rfl, s16, h2j, h2k, h1q⟩
 refine Ra z (Wn (Ws (Rm z (R z (fd f_76_2 z) (R z (l1 g_3 z fid ((h1p.chg s16 (djs (mm1 h18.lt (lt_ s10.size s15.size)))).at z)) (R z (rd_convU d_3 d_5 z) (Rm z ?_)))))))
 have h1r := mnr (ownS.lt h13)
 have h1d := (h13.ext h14).chg s16 (dj_symm h1r)
 refine R z (lnR d_25 z (ownS_rep h1d (ownS.lt h13))) (R z (rd_shr z z (by decide)) (R z (rd_convU d_3 d_5 z) (Rm z (R z (lnR d_25 z (ownS_rep h1d (ownS.lt h13))) (R z (rd_convU d_3 d_5 z) (E z (ef_buildSlice [(.tmp 27), (.tmp 31), (.tmp 34)] el_25 z z z (szAll z) (lb z) (lb z)) ?_))))))
 rintro _ w1s ⟨rfl, h1t⟩
 have h17 := h1t.below
 have h2l : Blk w1s w1c.z [(vU (byteI (mkB x1.version))), (vU (byteI (mkB (shrK .i64 (r12.length : Int) 8)))), (vU (byteI (mkB (r12.length : Int))))] := h1t.blk
 have h2m : ownS w1s [w1c.z] (sl (some ⟨w1c.z, 0, none⟩) 3 3) [mkB x1.version, mkB (shrK .i64 (r12.length : Int) 8), mkB (r12.length : Int)] := own_lit (l := [mkB x1.version, mkB (shrK .i64 (r12.length : Int) 8), mkB (r12.length : Int)]) h2l z
 obtain ⟨x3q, e2n, hm2o⟩ := bdS hm2i
 refine E z (ef_appendN (α := UInt8) el_25 e2n z z (h2j.ext h17) h2k (ownS.rep h2m)) ?_
 rintro _ w3r ⟨S3s, a3t, n3u, c3v, rfl, s1e, h2p, h2q, h2r⟩
 refine Ra z (Wn (Ws (Rm z (Rm z ?_))))
 obtain ⟨x3w, e2s, hm2t⟩ := bdS hm2o
 refine E z (ef_appendN (α := UInt8) el_25 e2s z z h2p h2q (ownS_rep ((h1d.ext h17).chg s1e (dj_symm (o1no h1q h1r (ownS.lt h13) h14.size))) (ownS.lt h13))) ?_
 rintro _ w2u ⟨S3x, a3y, n3z, c40, rfl, s1u, h1v, h2v, h2w⟩
 refine Ra z (Wn (Ws (Rm z (Rm z ?_))))
 obtain ⟨r2x, e2y, hm2z⟩ := bdS hm2t
 refine E z (fc call91 z (W_w14 (B := w2u.z) e2y lr (ownS.rep h1v))) ?_
 rintro _ w30 ⟨s1f, rfl, h41⟩
 refine R z (rd_convU d_3 d_5 z) (E z (ef_buildSlice [(.tmp 43)] el_25 z z z (szAll z) (lb z) (lb z)) ?_)
 rintro _ w31 ⟨rfl, h1g⟩
 have h1h := h1g.below
 have h32 : Blk w31 w30.z [(vU (byteI (mkB r2x)))] := h1g.blk
 have h42 := ownS_new1 h1g UInt8_own
 obtain ⟨x43, e33, hm34⟩ := bdS hm2z
 refine E z (ef_pushN (α := UInt8) el_25 e33 z z ((h1v.ext s1f).ext h1h) h2v h32 UInt8_own all_nil nd_nil) ?_
 rintro _ w44 ⟨S1w, a35, n36, c37, rfl, s38, h39, h3a, h3b⟩
 refine Ra z (Wn ?_)
 obtain rfl := som hm34
 have h1x := lt_ h1m s15.size
 have h1y := mem1le h1x
 have h1z := lt_ h1x h14.size
 have h20 := o1le h1q h1y h1z
 have h21 := lt_ (lt_ h1z s16.size) h17.size
 have h22 := o1le h2r h20 h21
 have h23 := lt_ h21 s1e.size
 have h24 := o1le h2w h22 h23
 have h3c : ∀ k ∈ S1w, w0.z ≤ k := or2 h3b h24 all_nil (lele (lt_ (lt_ (lt_ h23 s1u.size) s1f.size) h1h.size))
 exact Wr (ret1 hr z ⟨(bM (bup (bup (bM (bM (bup (bM (bup (bup (bup h11 s10) s15) h14) s16 h1y) h17) s1e h20) s1u h22) s1f) h1h) s38 h24), a35, n36, c37, S1w, z, h39, h3a, h3c⟩)
theorem W_w2x {x1 : List UInt8} {x2 : List UInt8} {res : Bool} (hm : M_bytes_Equal x1 x2 = some res) (hBw : B ≤ w0.z) (p1_0 : repS w0 B (sl A0 N0 C0) x1) (p2_0 : repS w0 B (sl A6 N6 C6) x2) : CallsR prog 152 [sl A0 N0 C0, sl A6 N6 C6] w0 (Q11 w0 B res) := by
 unfold M_bytes_Equal at hm
 refine goF func152 z z (lb z) fun fn hr => Ws (Ra z (Wn (Ws (Rm z (R z (rd_convST d_25 d_9 d_5 z_5 z p1_0) (Rm z (R z (rd_convST d_25 d_9 d_5 z_5 z p2_0) (R z (rd_eqlT z z) (Ra z (Wn ?_))))))))))
 obtain rfl := som hm
 exact Wr (ret1 hr z ⟨(br w0), z⟩)
theorem W_w2y {x1 : List UInt8} {x2 : List UInt8} {res : Bool} (hm : M_impl_EqualBytes x1 x2 = some res) (hBw : B ≤ w0.z) (p1_0 : repS w0 B (sl A0 N0 C0) x1) (p2_0 : repS w0 B (sl A6 N6 C6) x2) : CallsR prog 137 [sl A0 N0 C0, sl A6 N6 C6] w0 (Q11 w0 B res) := by
 unfold M_impl_EqualBytes at hm
 refine goF func137 z z (lb z) fun fn hr => Ws (Ra z (Wn (Ws (Rm z (Rm z ?_)))))
 obtain ⟨r13, e10, hm11⟩ := bdS hm
 refine E z (fc call152 z (W_w2x (B := B) e10 hBw p1_0 p2_0)) ?_
 rintro _ w14 ⟨s12, rfl⟩
 refine Ra z (Wn ?_)
 obtain rfl := som hm11
 exact Wr (ret1 hr z ⟨s12, z⟩)
theorem W_w15 {x1 : List UInt8} {x2 : Int} {res : Record × Int × Bool} (hm : M_impl_DecodeRecord n x1 x2 = some res) (hBw : B ≤ w0.z) (p1_0 : repS w0 B (sl A0 N0 C0) x1) (p2_0 : inI x2) : CallsR prog 114 [sl A0 N0 C0, vI x2] w0 (Q13 w0 B res) := by
 unfold M_impl_DecodeRecord at hm
 refine goF func114 z z (lb z) fun fn hr => Ws (E z (fa zero_76) ?_)
 rintro _ w1m ⟨rfl, h21⟩
 have h1d := h21.below
 have h16 : Blk w1m w0.z [vI 0, (Str.v (⟨[]⟩ : Str)), vI 0, sl none 0 0] := h21.blk
 refine Ra z (Ra z (Wn (Wq (Wq ?_))))
 obtain ⟨u2t, hu22, hm23⟩ := bdS hm
 refine WC_cut (fun a w => ∃ (x1t : Bool), x1t = u2t ∧ Sat 126 [(0, sl A0 N0 C0), (1, vI x2), (4, pt w0.z), (28, vB x1t)] a ∧ Below w1m.z w1m w) ?_ ?_
 ·refine Wg (Rm z (R z (lss z z) (Rm z ?_)))
  rcases bs (decide (x2 < 0)) with hc17 | hc17
  ·iterate 4 refine Nh z hc17 ?_
   exact R z (pT z hc17 z) (Rm z (Nh z z (Nh z z (Nh z z (Nh z z (Nh z z (R z (pT z z z) (Wl (fun _ q => ⟨true, som (ifT hu22 hc17), (q.k (s4 z z z z)), (br w1m)⟩)))))))))
  have hm24 := ifF hu22 hc17
  refine Rh z hc17 (mv z) (Rh z hc17 (mv z) ?_)
  have h25 := p1_0.ext h1d
  refine Rh z hc17 (lnR d_25 z h25) (Rh z hc17 (rd_gtr z z) (R z (pF z hc17 z) (Rm z ?_)))
  rcases bs (decide ((x1.length : Int) < x2)) with hc13 | hc13
  ·iterate 5 refine Nh z hc13 ?_
   exact R z (pT z hc13 z) (Wl (fun _ q => ⟨true, som (ifT hm24 hc13), (q.k (s4 z z z z)), (br w1m)⟩))
  exact Rh z hc13 (mv z) (Rh z hc13 (lnR d_25 z h25) (Rh z hc13 (mv z) (Rh z hc13 (sb_ z z) (Rh z hc13 (lss z z) (R z (pF z hc13 z) (Wl (fun _ q => ⟨decide ((isub (x1.length : Int) x2) < 2), som (ifF hm24 hc13), (q.k (s4 z z z z)), (br w1m)⟩)))))))
 rintro a2u w4r ⟨x1t, rfl, hS4s, s12⟩
 revert a2u
 refine Wo (Wc z (fun hc1u => ?_) (fun hc1u => ?_))
 ·refine Ws (R z (bP (parts := []) (cs := [vI 0, (Str.v (⟨[]⟩ : Str)), vI 0, sl none 0 0]) build_76 z z) (Rm z (E0 (fs (cur' := [vI 0, (Str.v (⟨[]⟩ : Str)), vI 0, sl none 0 0]) z_76 z z (h16.ext s12) z (lb z) (oA z) z) ?_)))
  rintro _ w4t ⟨h2v, s2w⟩
  refine Ra z (Ra z (Wn ?_))
  obtain rfl := som (ifT hm23 hc1u)
  exact Wr (ret3 hr (resC g_76 z_76 z h2v z) z z ⟨(bM (bup h1d s12) s2w.one (mem1 lr)), none, 0, 0, [], z, (ii z), (lb z), (ii z), onL, p2_0, nd_nil, all_nil⟩)
 refine Wk (Ws (Rm z (Rm z ?_)))
 obtain ⟨x4u, e2x, hm2y⟩ := bdS (ifF hm23 hc1u)
 refine RX z (rd_sliceX d_25 z_5 z z ((p1_0.ext h1d).ext s12) z z e2x) ?_
 rintro _ ⟨a4v, n4w, c4x, rfl, h1v⟩
 refine Ra z (Wn (Ws (Rm z ?_)))
 obtain ⟨x2z, e30, hm26⟩ := bdS hm2y
 refine RX z (at_ (α := UInt8) d_25 z_5 z z z h1v e30) ?_
 rintro _ ⟨b4y, o4z, cs50, rfl, h31, h32, h51⟩
 obtain rfl := UInt8_open h32
 refine R z (l1 g_5 z fid (h31.at0 z)) (R z (rd_convUI d_5 d_3 z) (Ra z (Wn (Wq (Ws (Rm z (R z (lnR d_25 z h1v) (Rm z (R z (add_ z z) (R z (lss z z) (Wn (Wc z (fun hc1w => ?_) (fun hc1w => ?_)))))))))))))
 ·refine Ws (R z (bP (parts := []) (cs := [vI 0, (Str.v (⟨[]⟩ : Str)), vI 0, sl none 0 0]) build_76 z z) (Rm z (E0 (fs (cur' := [vI 0, (Str.v (⟨[]⟩ : Str)), vI 0, sl none 0 0]) z_76 z z (h16.ext s12) z (lb z) (oA z) z) ?_)))
  rintro _ w52 ⟨h33, s34⟩
  refine Ra z (Ra z (Wn ?_))
  obtain rfl := som (ifT hm26 hc1w)
  exact Wr (ret3 hr (resC g_76 z_76 z h33 z) z z ⟨(bM (bup h1d s12) s34.one (mem1 lr)), none, 0, 0, [], z, (ii z), (lb z), (ii z), onL, p2_0, nd_nil, all_nil⟩)
 refine Wk (Wq (WC_draw (X := noX) 0 (.rd 0 (.rd 1 (.rd 2 (.rd 3 (.rd 4 (.rd 5 (.rd 6 (.rd 7 (.rd 8 (.rd 9 (.rd 10 (.rd 11 (.rd 12 (.rd 13 (.rd 14 .done))))))))))))))) mo (by kernel_rfl) fun w53 s18 _ => dR z z (mv z) (dR z z (mv z) (dR z z (add_ z z) ?_))))
 obtain ⟨x35, e36, hm37⟩ := bdS (ifF hm26 hc1w)
 have h1q := h1v.ext s18
 refine dRX z z (at_ (α := UInt8) d_25 z_5 z z z h1q e36) ?_
 rintro _ ⟨b54, o55, cs56, rfl, h38, h39, h57⟩
 obtain rfl := UInt8_open h39
 refine dR z z (l1 g_5 z fid (h38.at0 z)) (dR z z (rd_convUI d_5 d_3 z) (dR z z (rd_shl z z (by decide)) (dR z z (mv z) (dR z z (mv z) (dR z z (add_ z z) ?_)))))
 obtain ⟨x3a, e3b, hm27⟩ := bdS hm37
 refine dRX z z (at_ (α := UInt8) d_25 z_5 z z z h1q e3b) ?_
 rintro _ ⟨b58, o59, cs5a, rfl, h3c, h3d, h5b⟩
 obtain rfl := UInt8_open h3d
 refine dR z z (l1 g_5 z fid (h3c.at0 z)) (dR z z (rd_convUI d_5 d_3 z) (dR z z (rd_or z z) (dR z z (asg z) (PR_done (Wo (Wq (Ws (Rm z (R z (lnR d_25 z h1q) (Rm z (R z (add_ z z) (Rm z (R z (add_ z z) (R z (lss z z) (Wn (Wc z (fun hc1x => ?_) (fun hc1x => ?_)))))))))))))))))
 ·refine Ws (R z (bP (parts := []) (cs := [vI 0, (Str.v (⟨[]⟩ : Str)), vI 0, sl none 0 0]) build_76 z z) (Rm z (E0 (fs (cur' := [vI 0, (Str.v (⟨[]⟩ : Str)), vI 0, sl none 0 0]) z_76 z z ((h16.ext s12).ext s18) z (lb z) (oA z) z) ?_)))
  rintro _ w5c ⟨h3e, s3f⟩
  refine Ra z (Ra z (Wn ?_))
  obtain rfl := som (ifT hm27 hc1x)
  exact Wr (ret3 hr (resC g_76 z_76 z h3e z) z z ⟨(bM (bup (bup h1d s12) s18) s3f.one (mem1 lr)), none, 0, 0, [], z, (ii z), (lb z), (ii z), onL, p2_0, nd_nil, all_nil⟩)
 refine Wk (Ws (Rm z ?_))
 obtain ⟨x5d, e3g, hm3h⟩ := bdS (ifF hm27 hc1x)
 refine E z (ef_makeN (α := UInt8) el_25 (fun _ => UInt8_own0) e3g z z) ?_
 rintro _ w3i ⟨a5e, n5f, c5g, rfl, s19, h28⟩
 refine Ra z (Wn (Ws (Rm z (Rm z (Rm z (R z (add_ z z) ?_))))))
 obtain ⟨x5h, e3j, hm3k⟩ := bdS hm3h
 have h29 := h1q.ext s19
 refine RX z (rd_sliceX d_25 z_5 z z h29 z z e3j) ?_
 rintro _ ⟨a5i, n5j, c5k, rfl, h3l⟩
 refine E z (ef_copyB d_25 z_5 z z h28 h3l) ?_
 rintro _ w5l ⟨rfl, s14, h3m⟩
 refine Wn (Ws (Rm z ?_))
 obtain ⟨r2a, r3n, e3o, hm3p⟩ := bd2S hm3k
 refine E z (fc call136 z (W_w2q (B := w3i.z) e3o s14.size (ownS_rep h3m (ownS.lt h28)))) ?_
 rintro _ w2b ⟨s1a, a1i, n1j, c1k, S3q, rfl, h1n, h3r, h2c⟩
 refine Rm z (R z (ext_ z z) (R z (ext_ z z) (Ra z (Ra z (Wn (Wq (WC_draw (X := noX) 262144 (.rd 0 (.rd 1 (.rd 2 (.rd 3 (.rd 4 (.rd 5 (.rd 6 (.rd 7 (.rd 8 (.rd 9 (.rd 10 (.rd 11 (.rd 12 (.rd 13 (.rd 14 (.rd 15 (.rd 16 (.ef 17 (.ef 18 .done))))))))))))))))))) mo (by kernel_rfl) fun w2d s11 _ => dR z z (mv z) ?_)))))))
 obtain ⟨x1e, e3s, hm3t⟩ := bdS hm3p
 have h1o := lt_ (lt_ h1d.size s12.size) s18.size
 have h1r := ((h29.chg s14 (lg (mem1le (lt_ hBw h1o)))).ext s1a).ext s11
 refine dRX z z (at_ (α := UInt8) d_25 z_5 z z z h1r e3s) ?_
 rintro _ ⟨b5m, o5n, cs5o, rfl, h3u, h3v, h5p⟩
 obtain rfl := UInt8_open h3v
 refine dR z z (l1 g_5 z fid (h3u.at0 z)) (dR z z (rd_convUI d_5 d_3 z) (dR z z (mv z) (dR z z (mv z) (dR z z (add_ z z) ?_))))
 obtain ⟨x1f, e3w, hm3x⟩ := bdS hm3t
 refine dRX z z (rd_sliceX d_25 z_5 z z h1r z z e3w) ?_
 rintro _ ⟨a5q, n5r, c5s, rfl, h1s⟩
 refine dR z z (rd_convST d_25 d_9 d_5 z_5 z h1s) (dR z z (mv z) (dR z z (mv z) (dR z z (add_ z z) ?_)))
 obtain ⟨x1g, e3y, hm3z⟩ := bdS hm3x
 refine dRX z z (at_ (α := UInt8) d_25 z_5 z z z h1r e3y) ?_
 rintro _ ⟨b5t, o5u, cs5v, rfl, h40, h41, h5w⟩
 obtain rfl := UInt8_open h41
 refine dR z z (l1 g_5 z fid (h40.at0 z)) (dR z z (rd_convUI d_5 d_3 z) (dR z z (mv z) (dR z z (bP (parts := [(0, (.tmp 84)), (1, (.tmp 89)), (2, (.tmp 95)), (3, (.tmp 96))]) (cs := [vI (byteI x1e), Str.v (⟨x1f⟩ : Str), vI (byteI x1g), sl a1i n1j c1k]) build_76 z z) (dE z z (fa zero_76) (.inr fun _ _ h => chgB (h.2.below)) ?_))))
 rintro _ w42 ⟨rfl, h2e⟩
 have h1b := h2e.below
 have h43 : Blk w42 w2d.z [vI 0, (Str.v (⟨[]⟩ : Str)), vI 0, sl none 0 0] := h2e.blk
 refine dE0 z (fs (cur' := [vI (byteI x1e), Str.v (⟨x1f⟩ : Str), vI (byteI x1g), sl a1i n1j c1k]) z_76 z z h43 z (lb z) (oA z) z) (.inl z) ?_
 rintro _ w2f ⟨h2g, s44⟩
 have h1c := s44.one
 refine PR_done (Wo (Wq (Wq ?_)))
 obtain ⟨u45, hu2h, hm2i⟩ := bdS hm3z
 refine WC_cut (fun a w => ∃ (x1y : Bool), x1y = u45 ∧ Sat 126 [(1, vI x2), (4, pt w0.z), (8, vI (byteI x2z)), (9, (vI (bitop .i64 (· ||| ·) (shlK .i64 (byteI x35) 8) (byteI x3a)))), (13, pt w2d.z), (116, vB x1y)] a ∧ Below w2f.z w2f w) ?_ ?_
 ·refine WC_draw (X := noX) 0 (.rd 0 (.rd 1 (.rd 2 (.rd 3 (.ef 4 (.rd 5 (.rd 6 (.rd 7 (.rd 8 (.rd 10 (.rd 11 (.rd 12 (.rd 13 (.rd 14 (.rd 15 (.ef 9 (.ef 16 (.rd 17 (.rd 18 .done))))))))))))))))))) mo (by kernel_rfl) fun w5x s1h _ => dR z z (mv z) (dR z z (not_ z) (dR z z (mv z) ?_))
  rcases bs (!r3n) with hc15 | hc15
  ·refine dRn z z z hc15 z (dEn z z z hc15 z (dRn z z z hc15 z (dR z z (pT z hc15 z) (dR z z (mv z) ?_))))
   iterate 7 refine dRn z z z z z ?_
   exact dEn z z z z z (dEn z z z z z (dRn z z z z z (dR z z (pT z z z) (PR_done (fun _ q => ⟨true, som (ifT hu2h hc15), (q.k (s6 z z z z z z)), s1h⟩)))))
  have h2j := h2g.ext s1h
  refine dRg z z z hc15 z (lN (vs := [vI (byteI x1e), Str.v (⟨x1f⟩ : Str), vI (byteI x1g), sl a1i n1j c1k]) g_76 z_76 z z fid (h2j.row 0 4 z)) ?_
  have h2k := (((h1n.ext s11).ext h1b).chg h1c (dj_symm (mno (ownS.lt h1n) s11.size))).ext s1h
  have h2l := lt_ (lt_ (lt_ s11.size h1b.size) h1c.size) s1h.size
  obtain ⟨r46, e47, hm2m⟩ := bdS (ifF hu2h hc15)
  refine dEg z z z hc15 z (fc call89 z (W_w12 (B := w2b.z) (x1 := (⟨byteI x1e, (⟨x1f⟩ : Str), byteI x1g, r2a⟩ : Record)) e47 h2l (inI_byte _) (repS.len h1s) (inI_byte _) (ownS_rep h2k (ownS.lt h1n)))) (.inr fun _ _ h => chgB (h.1)) ?_
  rintro _ w5y ⟨s1l, rfl⟩
  refine dRg z z z hc15 z (not_ z) (dR z z (pF z hc15 z) (dR z z (mv z) ?_))
  rcases bs (!r46) with hc10 | hc10
  ·iterate 7 refine dRn z z z hc10 z ?_
   exact dEn z z z hc10 z (dEn z z z hc10 z (dRn z z z hc10 z (dR z z (pT z hc10 z) (PR_done (fun _ q => ⟨true, som (ifT hm2m hc10), (q.k (s6 z z z z z z)), (bup s1h s1l)⟩)))))
  refine dRg z z z hc10 z (lN (vs := [vI (byteI x1e), Str.v (⟨x1f⟩ : Str), vI (byteI x1g), sl a1i n1j c1k]) g_76 z_76 z z fid ((h2j.ext s1l).row 0 4 z)) (dRg z z z hc10 z (mv z) (dRg z z z hc10 z (mv z) (dRg z z z hc10 z (add_ z z) (dRg z z z hc10 z (mv z) (dRg z z z hc10 z (add_ z z) ?_)))))
  obtain ⟨x5z, e48, hm49⟩ := bdS (ifF hm2m hc10)
  have h2n := lt_ (lt_ (lt_ (lt_ h1o s19.size) s14.size) s1a.size) s11.size
  refine dRXg z z z hc10 z (rd_sliceX d_25 z_5 z z ((((h1r.ext h1b).chg h1c (lg (mem1le (lt_ hBw h2n)))).ext s1h).ext s1l) z z e48) ?_
  rintro _ ⟨a60, n61, c62, rfl, h4a⟩
  obtain ⟨r63, e4b, hm4c⟩ := bdS hm49
  refine dEg z z z hc10 z (fc call52 z (W_w2w (B := w2b.z) (x1 := (⟨byteI x1e, (⟨x1f⟩ : Str), byteI x1g, r2a⟩ : Record)) e4b (lt_ h2l s1l.size) (inI_byte _) (repS.len h1s) (inI_byte _) (ownS_rep (h2k.ext s1l) (ownS.lt h1n)))) (.inr fun _ _ h => chgB (h.1)) ?_
  rintro _ w4d ⟨s1z, a64, n65, c66, S67, rfl, h4e, h68, h69⟩
  obtain ⟨r4f, e4g, hm4h⟩ := bdS hm4c
  refine dEg z z z hc10 z (fc call137 z (W_w2y (B := w4d.z) e4g lr (ownS.rep h4e) (repS.mono (h4a.ext s1z) (lt_ hBw (lt_ (lt_ (lt_ (lt_ (lt_ h2n h1b.size) h1c.size) s1h.size) s1l.size) s1z.size))))) (.inr fun _ _ h => chgB (h.1)) ?_
  rintro _ w6a ⟨s4i, rfl⟩
  exact dRg z z z hc10 z (not_ z) (dR z z (pF z hc10 z) (PR_done (fun _ q => ⟨!r4f, som hm4h, (q.k (s6 z z z z z z)), (bup (bup (bup s1h s1l) s1z) s4i)⟩)))
 rintro a4j w6b ⟨x1y, rfl, hS6c, s1p⟩
 revert a4j
 refine Wo (Wc z (fun hc20 => ?_) (fun hc20 => ?_))
 ·refine Ws (R z (bP (parts := []) (cs := [vI 0, (Str.v (⟨[]⟩ : Str)), vI 0, sl none 0 0]) build_76 z z) (Rm z ?_))
  have h2o := lt_ s12.size s18.size
  have h4k := (((((((h16.ext s12).ext s18).ext s19).chg s14 (djs (mm1 h16.lt h2o))).ext s1a).ext s11).ext h1b).chg h1c (djs (mm1 h16.lt (lt_ (lt_ (lt_ (lt_ h2o s19.size) s14.size) s1a.size) s11.size)))
  refine E0 (fs (cur' := [vI 0, (Str.v (⟨[]⟩ : Str)), vI 0, sl none 0 0]) z_76 z z (h4k.ext s1p) z (lb z) (oA z) z) ?_
  rintro _ w6d ⟨h4l, s4m⟩
  refine Ra z (Ra z (Wn ?_))
  obtain rfl := som (ifT hm2i hc20)
  have h4n := bM (bup (bM (bup (bup (bup (bM (bup (bup (bup h1d s12) s18) s19) s14 (mem1le h1o)) s1a) s11) h1b) h1c (mem1le (lt_ (lt_ (lt_ (lt_ h1o s19.size) s14.size) s1a.size) s11.size))) s1p) s4m.one (mem1 lr)
  exact Wr (ret3 hr (resC g_76 z_76 z h4l z) z z ⟨h4n, none, 0, 0, [], z, (ii z), (lb z), (ii z), onL, p2_0, nd_nil, all_nil⟩)
 refine Wk (Ws (R z (lN (vs := [vI (byteI x1e), Str.v (⟨x1f⟩ : Str), vI (byteI x1g), sl a1i n1j c1k]) g_76 z_76 z z fid ((h2g.ext s1p).row 0 4 z)) (Rm z (Rm z (R z (add_ z z) (R z (add_ z z) (Rm z (R z (add_ z z) ?_))))))))
 have h2p := lt_ s12.size s18.size
 have h2q := lt_ (lt_ h2p s19.size) s14.size
 have h4o := (((((((h16.ext s12).ext s18).ext s19).chg s14 (djs (mm1 h16.lt h2p))).ext s1a).ext s11).ext h1b).chg h1c (djs (mm1 h16.lt (lt_ (lt_ h2q s1a.size) s11.size)))
 refine E0 (fs (cur' := [vI (byteI x1e), Str.v (⟨x1f⟩ : Str), vI (byteI x1g), sl a1i n1j c1k]) z_76 z z (h4o.ext s1p) z (lb z) (oA z) z) ?_
 rintro _ w6e ⟨h4p, s4q⟩
 have h2r := s4q.one
 refine Ra z (Ra z (Wn ?_))
 obtain rfl := som (ifF hm2i hc20)
 have h2s := lt_ (lt_ h1o s19.size) s14.size
 exact Wr (ret3 hr (resC g_76 z_76 z h4p z) z z ⟨(bM (bup (bM (bup (bup (bup (bM (bup (bup (bup h1d s12) s18) s19) s14 (mem1le h1o)) s1a) s11) h1b) h1c (mem1le (lt_ (lt_ h2s s1a.size) s11.size))) s1p) h2r (mem1 lr)), a1i, n1j, c1k, S3q, z, (inI_byte _), (repS.len h1s), (inI_byte _), (((((h1n.ext s11).ext h1b).chg h1c (dj_symm (mno (ownS.lt h1n) s11.size))).ext s1p).chg h2r (o0n1 h2c h16.lt h2q)), (iA _ _), h3r, (o0le h2c h2s)⟩)
theorem W_w2z {x1 : Log} {res : Bool} (hm : M_impl_mustBeLog n x1 = some res) (hBw : B ≤ w0.z) (p1_0 : repS w0 B (sl A0 N0 C0) x1.bytes) (p1_1 : inI x1.stored) : Calls prog 113 [(.agg #[sl A0 N0 C0, vI x1.stored])].toArray w0 (PanEnd (.iface 129 (.agg #[])) (fun q w' => q = res ∧ Bw w0 w')) := by
 unfold M_impl_mustBeLog at hm
 obtain ⟨fn, hf, hb, hN, hr⟩ := fnE func113
 refine CallsP_of_WC hf (hb.trans z) (hN.trans z) (lb z) (Ws (E z (fb z) ?_))
 rintro _ w1z ⟨rfl, h1m⟩
 have h13 := h1m.below
 have h18 : Blk w1z w0.z [sl A0 N0 C0, vI x1.stored] := h1m.blk
 refine Wn (Wq (Ws (R z (fd f_35_1 z) (R z (l1 g_3 z fid (h18.at z)) (R z (fd f_35_0 z) (R z (l1 g_25 z fid (h18.at z)) ?_))))))
 have h1b := p1_0.ext h13
 refine R z (lnR d_25 z h1b) ?_
 obtain ⟨r2l, e20, hm1n⟩ := bdS hm
 refine E z (fc call117 z (W_w03 (B := B) e20 (lt_ hBw h13.size) p1_1 (ii z) (inI_len (repS.len h1b)))) ?_
 rintro _ w17 ⟨s11, rfl⟩
 refine R z (not_ z) (Wn (Wc z (fun hc1c => ?_) (fun hc1c => ?_)))
 ·refine Wg (R z (bP (parts := []) (cs := []) build_129 z z) (R z (rd_makeIface d_129 (fun _ h => by cases h) z) ?_))
  obtain rfl := som (ifT hm1n hc1c)
  exact WL_panic z fun _ ha => ⟨false, .inr ⟨rfl, z, ha.defers, z, (bup h13 s11)⟩⟩
 refine Wk (Ws (R z (fd f_35_1 z) ?_))
 have h1o := h18.ext s11
 refine R z (l1 g_3 z fid (h1o.at z)) (R z (eql z z) (Ra z (Wn (Wq (Ws (Ra z (Wn ?_)))))))
 obtain ⟨u2m, hu21, hm1p⟩ := bdS (ifF hm1n hc1c)
 refine WC_iterP (σ := Bool × Int) (ρ := Bool) (fun s a w => un2 (fun x14 x15 => Sat 48 [(1, pt w0.z), (2, vB x14), (3, vI x15)] a ∧ Below w17.z w17 w ∧ inI x15) s) (fun s a w => un2 (fun x14 x15 => Sat 48 [(2, vB x14)] a ∧ Below w17.z w17 w ∧ inI x15) s) (fun r ex a w => r = false ∧ ex = .panic (chainOf (.iface 129 (.agg #[]))) ∧ a.defers = [] ∧ Below w0.z w0 w) hu21 ?_ ?_ ?_ ?_
 ·exact fun _ q => ⟨(q.k (s3 z z z)), (br w17), (ii z)⟩
 ·rintro ⟨x14, x15⟩ a2n w2o o2p ⟨hS22, s12, h1d⟩ hm23
  have hm1q := un2S hm23
  refine Wu ?_ hS22
  refine Wq (Ws (Rm z (R z (fd f_35_0 z) ?_)))
  have h1e := h1o.ext s12
  refine R z (l1 g_25 z fid (h1e.at z)) ?_
  have h1r := (h1b.ext s11).ext s12
  refine R z (lnR d_25 z h1r) (R z (lss z z) (Wn (Wc z (fun hc1f => ?_) (fun hc1f => ?_))))
  ·refine Wk (WC_block (Ws (R z (fd f_35_0 z) (R z (l1 g_25 z fid (h1e.at z)) (Rm z ?_)))))
   have h1s := lt_ (lt_ h13.size s11.size) s12.size
   obtain ⟨r1g, r1h, r2q, e24, hm1t⟩ := bd3S (ifT hm1q hc1f)
   refine E z (fc call114 z (W_w15 (B := B) e24 (lt_ hBw h1s) h1r h1d)) ?_
   rintro _ w25 ⟨s16, a26, n27, c28, S2r, rfl, h2s, h2t, h2u, h2v, h29, h2w, h2x⟩
   refine Rm z ?_
   iterate 3 refine R z (ext_ z z) ?_
   refine E z (fa zero_76) ?_
   rintro _ w2a ⟨rfl, h1u⟩
   have h1i := h1u.below
   have h2b : Blk w2a w25.z [vI 0, (Str.v (⟨[]⟩ : Str)), vI 0, sl none 0 0] := h1u.blk
   refine E0 (fs (cur' := [vI r1g.kind, Str.v r1g.name, vI r1g.version, sl a26 n27 c28]) z_76 z z h2b z (lb z) (oA z) z) ?_
   rintro _ w19 ⟨h2y, s2c⟩
   have h1j := s2c.one
   refine Ra z (Ra z (Wn (Wq (Ws (Rm z (R z (not_ z) (Wn (Wc z (fun hc1k => ?_) (fun hc1k => ?_)))))))))
   ·exact Wg (R z (bP (parts := []) (cs := []) build_129 z z) (R z (rd_makeIface d_129 (fun _ h => by cases h) z) (WL_panic z fun _ ha => .inr ⟨false, (som (ifT hm1t hc1k)).symm, z, z, ha.defers, (bM (bup (bup (bup (bup h13 s11) s12) s16) h1i) h1j (mem1le (lt_ h1s s16.size)))⟩)))
   refine Wk (Ws (Rm z (Ra z (Wn ?_))))
   obtain ⟨u2d, hu1v, hm2e⟩ := bdS (ifF hm1t hc1k)
   refine WC_cut (fun a w => ∃ (x1a : Bool), x1a = u2d ∧ Sat 48 [(1, pt w0.z), (2, vB x1a), (3, vI r1h)] a ∧ Below w19.z w19 w) ?_ ?_
   ·refine Wg (Rm z (Rm z ?_))
    rcases bs x14 with hc10 | hc10
    ·iterate 4 refine Nh z hc10 ?_
     exact R z (pT z hc10 z) (Ra z (Wl (fun _ q => ⟨true, som (ifT hu1v hc10), (q.k (s3 z z z)), (br w19)⟩)))
    exact Rh z hc10 (mv z) (Rh z hc10 (fd f_35_1 z) (Rh z hc10 (l1 g_3 z fid ((((h1e.ext s16).ext h1i).chg h1j (djs (mm1 h18.lt (lt_ (lt_ s11.size s12.size) s16.size)))).at z)) (Rh z hc10 (eql z z) (R z (pF z hc10 z) (Ra z (Wl (fun _ q => ⟨r1h == x1.stored, som (ifF hu1v hc10), (q.k (s3 z z z)), (br w19)⟩)))))))
   rintro a2f w2z ⟨x1a, rfl, hS30, s2g⟩
   revert a2f
   exact fun _ q => ⟨(x1a, r1h), (som hm2e).symm, ⟨(q.k (s3 z z z)), (bup (bM (bup (bup s12 s16) h1i) h1j (mem1le (lt_ s12.size s16.size))) s2g), h29⟩⟩
  exact WC_exit (fun a' ha' => QO_brk (som (ifF hm1q hc1f)).symm ⟨(Sat.weaken ha' (s1 z)), s12, h1d⟩)
 ·rintro ⟨x14, x15⟩ a2h w31 rfl ⟨hS32, s1w, h1d⟩
  have hm2i := elL hm1p
  have hm1x := un2S hm2i
  revert a2h
  refine Wo (Ws (Rm z (R z (not_ z) (Wn (Wc z (fun hc1l => ?_) (fun hc1l => ?_))))))
  ·refine Wg (R z (bP (parts := []) (cs := []) build_129 z z) (R z (rd_makeIface d_129 (fun _ h => by cases h) z) ?_))
   obtain rfl := som (ifT hm1x hc1l)
   exact WL_panic z fun _ ha => ⟨false, .inr ⟨rfl, z, ha.defers, z, (bup (bup h13 s11) s1w)⟩⟩
  refine WC_skip ?_
  obtain rfl := som (ifF hm1x hc1l)
  exact ret0 hr ⟨rfl, (bup (bup h13 s11) s1w)⟩
 rintro r33 ex1y a34 w35 rfl ⟨rfl, rfl, hq2j, ex1y⟩
 have hm2k := elR hm1p
 obtain rfl := som hm2k
 exact ⟨⟨false, .inr ⟨rfl, z, hq2j, z, ex1y⟩⟩, _, z⟩
theorem log_as1 (w : World) : (Instr.typeAssert (.iface 129 (.agg #[])) 20 129 true).run Tryz.prog w = .ok (.tuple #[.agg #[], .bool true]) w := by kernel_rfl
theorem log_as0 (w : World) : (Instr.typeAssert .nilIface 20 129 true).run Tryz.prog w = .ok (.tuple #[.agg #[], .bool false]) w := by kernel_rfl
set_option maxRecDepth 4000 in
theorem catch_yes (p : Addr) (b : Bool) (older : List PanicEntry) (w : World) (hc : w.cell? p = some (vB b)) (hz : w.frozen? p = false) (hp : p.block < w.heap.size) :
    CallsD Tryz.prog 112 #[.pointer (some p)] (.panicking ({ v := .iface 129 (.agg #[]), recovered := false } :: older)) w fun e u' w' =>
      e = .returned (.tuple #[]) ∧ u' = .panicking ({ v := .iface 129 (.agg #[]), recovered := true } :: older) ∧ w' = (w.alloc (.cells #[] 129)).setCell p (vB false) := by
  refine callsD_of_wpS Tryz.func112 rfl fun c₀ cs hu => ?_
  apply wpS_seq
  apply wpS_region
  simp [wpOpsS, go_sem, recoverD, hu, Tryz.ntmps112, Exit.thenS, log_as1]
  apply wpS_seq
  apply wpS_region
  simp [wpOpsS, go_sem, Exit.thenS]
  refine wpS_cond (t := true) (by simp [Act.eval]) ?_
  simp only [if_true]
  apply wpS_region
  have hb := alloc_below w (.cells #[] 129)
  have hc1 : (w.alloc (.cells #[] 129)).cell? p = some (vB b) := (hb.cell (p := p) hp).trans hc
  have hz1 : (w.alloc (.cells #[] 129)).frozen? p = false := (hb.frozen (p := p) hp).trans hz
  simp [wpOpsS, go_sem, bodyPostS, results, Tryz.results112, hc1, hz1]
set_option maxRecDepth 4000 in
theorem catch_no (p : Addr) (w : World) :
    CallsD Tryz.prog 112 #[.pointer (some p)] .returning w fun e u' w' => e = .returned (.tuple #[]) ∧ u' = .returning ∧ w' = w.alloc (.cells #[] 129) := by
  refine callsD_of_wpS Tryz.func112 rfl fun c₀ cs hu => ?_
  apply wpS_seq
  apply wpS_region
  simp [wpOpsS, go_sem, recoverD, hu, Tryz.ntmps112, Exit.thenS, log_as0]
  apply wpS_seq
  apply wpS_region
  simp [wpOpsS, go_sem, Exit.thenS]
  refine wpS_cond (t := false) (by simp [Act.eval]) ?_
  simp only [Bool.false_eq_true, if_false]
  refine wpS_of_wp (wp_skip ?_)
  cases c₀
  simp_all [bodyPostS, results, Tryz.results112]
theorem log_world {w0 : World} {a b : Value} : (∀ w', Below ((w0.alloc (.cells #[a, b] 35)).alloc (.cells #[.bool false] 4)).heap.size ((w0.alloc (.cells #[a, b] 35)).alloc (.cells #[.bool false] 4)) w' →
    (w'.cell? ⟨w0.heap.size + 1, 0, none⟩ = some (vB false) ∧ w'.frozen? ⟨w0.heap.size + 1, 0, none⟩ = false ∧ Bw w0 w' ∧ w0.heap.size + 1 < w'.heap.size)) ∧ Below w0.heap.size w0 ((w0.alloc (.cells #[a, b] 35)).alloc (.cells #[.bool false] 4)) := by
  have hB1 : Below w0.heap.size w0 ((w0.alloc (.cells #[a, b] 35)).alloc (.cells #[.bool false] 4)) :=
    (alloc_below w0 _).trans ((alloc_below (w0.alloc (.cells #[a, b] 35)) (.cells #[.bool false] 4)).mono (by simp))
  refine ⟨fun w' hb => ?_, hB1⟩
  have hs0 : ((w0.alloc (.cells #[a, b] 35)).alloc (.cells #[.bool false] 4)).heap.size = w0.heap.size + 2 := by simp
  have hsz := hb.size
  refine ⟨(hb.cell (p := ⟨w0.heap.size + 1, 0, none⟩) (by rw [hs0]; simp only; omega)).trans (by simp [go_sem]), (hb.frozen (p := ⟨w0.heap.size + 1, 0, none⟩) (by rw [hs0]; simp only; omega)).trans (by simp [go_sem]), hB1.trans (hb.mono hB1.size), by omega⟩
theorem W_w16 {n : Nat} {B : Nat} {x1 : Log} {A0 : Option Addr} {N0 C0 : Nat} {res : Bool} {w0 : World} (hm : M_impl_IsValidLog n x1 = some res) (hBw : B ≤ w0.heap.size) (p1_0 : repS w0 B (sl A0 N0 C0) x1.bytes) (p1_1 : inI x1.stored) : CallsR Tryz.prog 83 [(.agg #[(sl A0 N0 C0), (vI x1.stored)])] w0 (fun v w' => Bw w0 w' ∧ vB res = v) := by
  constructor
  have hmf : ∀ (fn : Fn) (first cap : Array Value) (w : World), (Instr.makeFunc fn first cap).run Tryz.prog w = .ok (.func fn first cap) w := fun _ _ _ _ => rfl
  have L := log_world (w0 := w0) (a := sl A0 N0 C0) (b := vI x1.stored)
  have hmb := W_w2z (B := B) hm (Nat.le_trans hBw L.2.size) (p1_0.ext L.2) p1_1
  have H := Lib.hid L.1
  clear L hm p1_0 hBw
  go_enter_defers Tryz.func83, Tryz.ntmps83
  go_wp2_with (go_at_call 113; refine hmb.mono ?_; (rintro e w' (⟨v, rfl, rfl, hb⟩ | ⟨rfl, rfl, hb⟩) <;> (obtain ⟨hc, hz, hB, hsz⟩ := H.out _ hb; clear hmb hb H)))
  · refine leaves_cons (f := 112) (args := #[.pointer (some ⟨w0.heap.size + 1, 0, none⟩)]) (by simp) (by simp [go_sem]) ?_
    refine (catch_no _ _).mono ?_
    rintro e u' w'' ⟨rfl, rfl, rfl⟩
    have hB2 := hB.setCell (p := ⟨w0.heap.size + 1, 0, none⟩) (by simp) (vB true)
    have hB3 := hB2.trans ((alloc_below (w'.setCell ⟨w0.heap.size + 1, 0, none⟩ (vB true)) (.cells #[] 129)).mono hB2.size)
    have hc3 : ((w'.setCell ⟨w0.heap.size + 1, 0, none⟩ (vB true)).alloc (.cells #[] 129)).cell? ⟨w0.heap.size + 1, 0, none⟩ = some (vB true) :=
      ((alloc_below (w'.setCell ⟨w0.heap.size + 1, 0, none⟩ (vB true)) (.cells #[] 129)).cell (p := ⟨w0.heap.size + 1, 0, none⟩) (by simpa using hsz)).trans (World.cell?_setCell_same _ _ _ hc)
    simp [Leaves, settle, results, Tryz.results83, go_sem, hc3]
    exact hB3
  · refine leaves_cons (f := 112) (args := #[.pointer (some ⟨w0.heap.size + 1, 0, none⟩)]) (by simp) (by simp [go_sem]) ?_
    refine (catch_yes ⟨w0.heap.size + 1, 0, none⟩ false [] _ hc hz hsz).mono ?_
    rintro e u' w'' ⟨rfl, rfl, rfl⟩
    have hB2 := hB.trans ((alloc_below w' (.cells #[] 129)).mono hB.size)
    have hB3 := hB2.setCell (p := ⟨w0.heap.size + 1, 0, none⟩) (by simp) (vB false)
    have hc2 : (w'.alloc (.cells #[] 129)).cell? ⟨w0.heap.size + 1, 0, none⟩ = some (vB false) :=
      ((alloc_below w' (.cells #[] 129)).cell (p := ⟨w0.heap.size + 1, 0, none⟩) hsz).trans hc
    have hc3 : ((w'.alloc (.cells #[] 129)).setCell ⟨w0.heap.size + 1, 0, none⟩ (vB false)).cell? ⟨w0.heap.size + 1, 0, none⟩ = some (vB false) := World.cell?_setCell_same _ _ _ hc2
    simp [Leaves, settle, results, Tryz.results83, go_sem, hc3]
    exact hB3
theorem W_w17 {x1 : List UInt8} {res : (List Record) × Int} (hm : M_impl_ReadRecords n x1 = some res) (hBw : B ≤ w0.z) (p1_0 : repS w0 B (sl A0 N0 C0) x1) : CallsR prog 84 [sl A0 N0 C0] w0 (Q14 w0 B res) := by
 unfold M_impl_ReadRecords at hm
 refine goF func84 z z (lb z) fun fn hr => Ws (Ra z (Ra z (Wn (Ws (E z (ef_lit0 (α := Record) el_89) ?_)))))
 rintro _ w10 ⟨a21, n22, c23, rfl, s1c, h24⟩
 refine Ra z (Wn (Ws (Ra z (Wn ?_))))
 obtain ⟨u3c, hu25, hm1o⟩ := bdS hm
 refine WC_iter (σ := (List Record) × Int) (ρ := (List Record) × Int) (fun s a w => un2 (fun x1d x17 => ∃ a13 n14 c15 S11, Sat 26 [(0, sl A0 N0 C0), (2, sl none 0 0), (3, vI 0), (4, sl a13 n14 c15), (5, vI x17)] a ∧ Chg (· ∈ [w0.z]) w10 w ∧ ownS w S11 (sl a13 n14 c15) x1d ∧ S11.Nodup ∧ (∀ k ∈ S11, k ∈ [w0.z] ∨ w10.z ≤ k) ∧ inI x17) s) (fun s a w => un2 (fun x1d x17 => ∃ a13 n14 c15 S11, Sat 26 [(2, sl none 0 0), (3, vI 0)] a ∧ Chg (· ∈ [w0.z]) w10 w ∧ ownS w S11 (sl a13 n14 c15) x1d ∧ S11.Nodup ∧ (∀ k ∈ S11, k ∈ [w0.z] ∨ w10.z ≤ k) ∧ inI x17) s) (fun r ex a w => ex = .ret ∧ RetPost prog fn (Q14 w0 B r) a w) hu25 ?_ ?_ ?_ ?_
 ·exact fun _ q => ⟨a21, n22, c23, [w0.z], (q.k (s5 z z z z z)), (cr [w0.z] w10), h24, nd_one, (io sr), (ii z)⟩
 ·rintro ⟨x1d, x17⟩ a3d w26 o3e ⟨a13, n14, c15, S11, hS27, s1a, h1b, h1g, h1h, h1i⟩ hm28
  have hm29 := un2S hm28
  refine Wu ?_ hS27
  refine WC_block (Ws (Rm z (Rm z ?_)))
  have h1p := lt_ s1c.size s1a.size
  obtain ⟨r12, r2a, r3f, e2b, hm1q⟩ := bd3S hm29
  refine E z (fc call114 z (W_w15 (B := B) e2b (lt_ hBw h1p) ((p1_0.ext s1c).chg s1a (lg (mem1le hBw))) h1i)) ?_
  rintro _ w1j ⟨s16, a1k, n1l, c1m, S1r, rfl, h2c, h2d, h2e, h1e, h2f, h2g, h1s⟩
  refine Rm z ?_
  iterate 3 refine R z (ext_ z z) ?_
  refine E z (fa zero_76) ?_
  rintro _ w1t ⟨rfl, h1u⟩
  have h18 := h1u.below
  have h2h : Blk w1t w1j.z [vI 0, (Str.v (⟨[]⟩ : Str)), vI 0, sl none 0 0] := h1u.blk
  refine E0 (fs (cur' := [vI r12.kind, Str.v r12.name, vI r12.version, sl a1k n1l c1m]) z_76 z z h2h z (lb z) (oA z) z) ?_
  rintro _ w1v ⟨h2i, s2j⟩
  have h19 := s2j.one
  refine Ra z (Ra z (Wn (Wq (Ws (Rm z (R z (not_ z) (Wn (Wc z (fun hc1n => ?_) (fun hc1n => ?_)))))))))
  ·refine Ws (Rm z (Rm z (Ra z (Ra z (Wn ?_)))))
   have h2k : ∀ k ∈ S11, w0.z ≤ k := or1 h1h (mem1 lr) (lele s1c.size)
   exact Wr (rtO (QO_retL (som (ifT hm1q hc1n)).symm (ret2 hr z z ⟨(bM (bup (bup (bM s1c s1a (mem1 lr)) s16) h18) h19 (mem1le (lt_ h1p s16.size))), a13, n14, c15, S11, z, (((h1b.ext s16).ext h18).chg h19 (dj_symm (mno (ownS.lt h1b) s16.size))), h1i, h1g, h2k⟩)))
  refine Wk (Ws (Rm z (R z (lN (vs := [vI r12.kind, Str.v r12.name, vI r12.version, sl a1k n1l c1m]) g_76 z_76 z z fid (h2i.row 0 4 z)) (E z (ef_buildSlice [(.tmp 22)] el_89 z z z (szAll z) (lb z) (lb z)) ?_))))
  rintro _ w1w ⟨rfl, h1x⟩
  have h1f := h1x.below
  have h2l : Blk w1w w1v.z [vI r12.kind, Str.v r12.name, vI r12.version, sl a1k n1l c1m] := h1x.blk
  have h3g := (h1e.ext h18).chg h19 (dj_symm (mnr (ownS.lt h1e)))
  obtain ⟨x2m, e2n, hm2o⟩ := bdS (ifF hm1q hc1n)
  refine E z (ef_pushN (α := Record) el_89 e2n z z ((((h1b.ext s16).ext h18).chg h19 (dj_symm (mno (ownS.lt h1b) s16.size))).ext h1f) h1g h2l (Record_mkO (x := r12) (S1 := S1r) h2c h2d h2e (((h1e.ext h18).chg h19 (dj_symm (mnr (ownS.lt h1e)))).ext h1f)) (o0no h1s (ownS.lt h1b) lr) h2g) ?_
  rintro _ w2p ⟨S1y, a2q, n2r, c2s, rfl, s2t, h2u, h2v, h2w⟩
  refine Ra z (Wn (Wg (Rm z (Ra z (Wl ?_)))))
  have h1z := lt_ s1a.size s16.size
  have h20 : ∀ k ∈ S11, k ∈ [w0.z] ∨ w10.z ≤ k := or1 h1h (io sr) (leor lr)
  have h2x : ∀ k ∈ S1r, k ∈ [w0.z] ∨ w10.z ≤ k := or0 h1s  (leor s1a.size)
  have h2y : ∀ k ∈ S1y, k ∈ [w0.z] ∨ w10.z ≤ k := or2 h2w h20 h2x (leor (lt_ (lt_ (lt_ h1z h18.size) h19.size) h1f.size))
  have h2z : Chg (· ∈ [w0.z]) w10 w26 := cM (cr [w0.z] w10) s1a (io sr)
  have h30 : Chg (· ∈ [w0.z]) w10 w1j := cext h2z s16
  have h31 : Chg (· ∈ [w0.z]) w10 w1t := cext h30 h18
  have h32 : ∀ k ∈ [w1j.z], k ∈ [w0.z] ∨ w10.z ≤ k := mor h1z
  have h33 : Chg (· ∈ [w0.z]) w10 w1v := cM h31 h19 h32
  have h34 : Chg (· ∈ [w0.z]) w10 w1w := cext h33 h1f
  have h35 : Chg (· ∈ [w0.z]) w10 w2p := cM h34 s2t h20
  exact fun _ q => ⟨(x2m, r2a), (som hm2o).symm, ⟨a2q, n2r, c2s, S1y, (q.k (s5 z z z z z)), h35, h2u, h2v, h2y, h2f⟩⟩
 ·rintro ⟨x1d, x17⟩ a36 w3h rfl ⟨a13, n14, c15, S11, hS3i, s37, h1b, h1g, h1h, h1i⟩
  have hm38 := elL hm1o
  have hm39 := un2S hm38
  revert a36
  obtain rfl := som hm39
  exact ret2 hr z z ⟨(bM s1c s37 (mem1 lr)), none, 0, 0, [], z, onL, (ii z), nd_nil, all_nil⟩
 rintro r3j ex3k a3l w3m rfl ⟨rfl, hq3a⟩
 have hm3b := elR hm1o
 obtain rfl := som hm3b
 exact ⟨hq3a, z⟩
theorem W_w30 {x1 : StoredFile} {x2 : Record} {b2 o2 : Nat} {res : Bool} (hm : M_impl_Archive_files_1 x1 x2 = some res) (hBw : B ≤ w0.z) (p1_0 : x1.name.b.length ≤ LEN) (p1_1 : inI x1.version) (p1_2 : repS w0 B (sl AH NH CH) x1.data) (p2_0 : inI x2.kind) (p2_1 : x2.name.b.length ≤ LEN) (p2_2 : inI x2.version) (p2_3 : repS w0 B (sl AG NG CG) x2.data) (hC2 : CellsAt w0 b2 o2 [vI x2.kind, Str.v x2.name, vI x2.version, sl AG NG CG]) (hC2b : b2 < B) : CallsR prog 88 [(.agg #[Str.v x1.name, vI x1.version, sl AH NH CH]), (.pointer (some ⟨b2, o2, none⟩))] w0 (Q11 w0 B res) := by
 unfold M_impl_Archive_files_1 at hm
 refine goF func88 z z (lb z) fun fn hr => Ws (E z (fb z) ?_)
 rintro _ w12 ⟨rfl, h10⟩
 have h11 := h10.below
 have h13 : Blk w12 w0.z [Str.v x1.name, vI x1.version, sl AH NH CH] := h10.blk
 refine Ra z (Wn (Ws (R z (fd f_63_0 z) (R z (l1 g_9 z fid (h13.at z)) (R z (fd f_76_1 z) (R z (l1 g_9 z fid ((hC2.ext h11).at (j := 1) z)) (R z (rd_eqlT z z) (Ra z (Wn ?_)))))))))
 obtain rfl := som hm
 exact Wr (ret1 hr z ⟨h11, z⟩)
theorem W_w31 {x1 : List StoredFile} {x2c0 : Record} {pa2c0_3 : Option Addr} {pn2c0_3 pc2c0_3 : Nat} {b2c0 o2c0 : Nat} {res : Int} (hm : M_impl_indexFunc_g_impl_Archive_files_1 x1 x2c0 = some res) (hBw : B ≤ w0.z) (p1_0 : repS w0 B (sl A0 N0 C0) x1) (p2c0_0 : inI x2c0.kind) (p2c0_1 : x2c0.name.b.length ≤ LEN) (p2c0_2 : inI x2c0.version) (p2c0_3 : repS w0 B (sl pa2c0_3 pn2c0_3 pc2c0_3) x2c0.data) (hC2c0 : CellsAt w0 b2c0 o2c0 [vI x2c0.kind, Str.v x2c0.name, vI x2c0.version, sl pa2c0_3 pn2c0_3 pc2c0_3]) (hC2c0b : b2c0 < B) : CallsR prog 87 [sl A0 N0 C0, (.func (.func 88) #[] #[(.pointer (some ⟨b2c0, o2c0, none⟩))])] w0 (Q0 w0 B res) := by
 unfold M_impl_indexFunc_g_impl_Archive_files_1 at hm
 refine goF func87 z z (lb z) fun fn hr => Ws (Ra z (Wn (Wq (Ws (Rm z (R z (lnR d_59 z p1_0) (Rm z (Wn ?_))))))))
 obtain ⟨u22, hu1f, hm1b⟩ := bdS hm
 refine WC_forN (σ := Unit) (ρ := Int) (fun (k14 : Nat) (_ : Unit) a w => Sat 19 [(1, (.func (.func 88) #[] #[(.pointer (some ⟨b2c0, o2c0, none⟩))])), (7, sl A0 N0 C0), (8, vI (x1.length : Int)), (9, (vI ((k14 : Nat) : Int)))] a ∧ Below w0.z w0 w) (fun (_ : Unit) a w => Sat 19 [] a ∧ Below w0.z w0 w) (fun r ex a w => ex = .ret ∧ RetPost prog fn (Q0 w0 B r) a w) hu1f ?_ ?_ ?_ ?_ ?_
 ·exact fun _ q => ⟨(q.k (s4 z z z z)), (br w0)⟩
 ·rintro k14 _ a23 w1g o24 hk15 ⟨hS1h, s10⟩ hm1i
  refine Wu ?_ hS1h
  refine Ws (R z (lss z z) (Wn (Wq (Wc z (fun _ => ?_) (fun hc => (nolt hk15 hc).elim)))))
  refine Wk (Wq (WC_block (Ws (Rm z ?_))))
  obtain ⟨x11, e1j, hm1k⟩ := bdS hm1i
  refine RX z (at_ (α := StoredFile) d_59 z_63 z z z (p1_0.ext s10) e1j) ?_
  rintro _ ⟨b25, o26, cs27, rfl, h1l, h1m, h28⟩
  obtain ⟨a16, n17, c18, rfl, h1n, h1o, h1p⟩ := StoredFile_open h1m
  refine R z (lN (vs := [Str.v x11.name, vI x11.version, sl a16 n17 c18]) g_63 z_63 z z fid h1l) (E z (fa zero_63) ?_)
  rintro _ w1q ⟨rfl, h1c⟩
  have h12 := h1c.below
  have h1r : Blk w1q w1g.z [(Str.v (⟨[]⟩ : Str)), vI 0, sl none 0 0] := h1c.blk
  refine Ra z (E0 (fs (cur' := [Str.v x11.name, vI x11.version, sl a16 n17 c18]) z_63 z z h1r z (lb z) (oA z) z) ?_)
  rintro _ w29 ⟨h1s, s1t⟩
  have h13 := s1t.one
  refine Wn (Ws (Rm z (R z (lN (vs := [Str.v x11.name, vI x11.version, sl a16 n17 c18]) g_63 z_63 z z fid (h1s.row 0 3 z)) ?_)))
  have h19 := mem1le (lt_ hBw s10.size)
  obtain ⟨r2a, e1u, hm1d⟩ := bdS hm1k
  refine E z (ef_callV call88 z z (W_w30 (B := B) e1u (lt_ hBw (lt_ (lt_ s10.size h12.size) h13.size)) h1n h1o ((h1p.ext h12).chg h13 (lg h19)) p2c0_0 p2c0_1 p2c0_2 (((p2c0_3.ext s10).ext h12).chg h13 (lg h19)) (((hC2c0.ext s10).ext h12).chg h13 ((lg h19) _ hC2c0b)) hC2c0b)) ?_
  rintro _ w2b ⟨s1e, rfl⟩
  refine Wn (Wc z (fun hc1a => ?_) (fun hc1a => ?_))
  ·exact Ws (Rm z (Ra z (Wn (Wr (rtO (QO_retL (som (ifT hm1d hc1a)).symm (ret1 hr z ⟨(bup (bM (bup s10 h12) h13 (mem1le s10.size)) s1e), z, (inI_cnt (Nat.le_of_lt hk15) (lt_ (repS.len p1_0) LEN_le))⟩)))))))
  exact Wk (Wg (R z (inc_ hk15 (lt_ (repS.len p1_0) LEN_le) z z) (Rm z (Wl (fun _ q => ⟨(), (som (ifF hm1d hc1a)).symm, ⟨(q.k (s4 z z z z)), (bup (bM (bup s10 h12) h13 (mem1le s10.size)) s1e)⟩⟩)))))
 ·rintro _ a2c w2d ⟨hS1v, s1w⟩
  refine Wu ?_ hS1v
  refine Ws (R z (lss z z) (Wn (Wq (Wc z (fun hc => (noltt hc).elim) (fun _ => ?_)))))
  exact WC_exit (fun a' ha' => ⟨rfl, ⟨(Sat.weaken ha' sn), s1w⟩⟩)
 ·rintro _ a1x w2e rfl ⟨hS2f, s1y⟩
  have hm1z := elL hm1b
  revert a1x
  refine Wo (Ws (Ra z (Wn ?_)))
  obtain rfl := som hm1z
  exact Wr (ret1 hr z ⟨s1y, z, (ii z)⟩)
 rintro r2g ex2h a2i w2j rfl ⟨rfl, hq20⟩
 have hm21 := elR hm1b
 obtain rfl := som hm21
 exact ⟨hq20, z⟩
theorem W_w18 {x1 : Archive} {b1 o1 : Nat} {res : (List StoredFile)} (hm : M_impl_Archive_files n x1 = some res) (hBw : B ≤ w0.z) (p1_0 : repS w0 B (sl A0 N0 C0) x1.registry.versions) (p1_1 : repS w0 B (sl A3 N3 C3) x1.log.bytes) (p1_2 : inI x1.log.stored) (hC1 : CellsAt w0 b1 o1 [sl A0 N0 C0, sl A3 N3 C3, vI x1.log.stored]) (hC1b : b1 < B) : CallsR prog 51 [(.pointer (some ⟨b1, o1, none⟩))] w0 (Q15 w0 B res) := by
 unfold M_impl_Archive_files at hm
 refine goF func51 z z (lb z) fun fn hr => Ws (Ra z (Wn (Ws (E z (ef_lit0R (α := StoredFile) el_59 B) ?_))))
 rintro _ w67 ⟨a3e, rfl, s1t, h3f⟩
 refine Ra z (Wn (Ws (Rm z (R z (rd_nil z) (R z (fd f_37_1 z) (R z (fd f_35_0 z) (R z (l1 g_25 z fid ((hC1.ext s1t).at (j := 1) z)) ?_)))))))
 obtain ⟨r1f, r68, e3g, hm3h⟩ := bd2S hm
 refine E z (fc call84 z (W_w17 (B := B) e3g (lt_ hBw s1t.size) (p1_1.ext s1t))) ?_
 rintro _ w18 ⟨s2e, a1h, n1i, c1j, S69, rfl, h1y, h6a, h6b, h6c⟩
 refine Rm z (R z (ext_ z z) (R z (ext_ z z) (Ra z (Ra z (Wn (Wq (Ws (Rm z (R z (lnR d_89 z (ownS.rep h1y)) (Rm z (Wn ?_)))))))))))
 obtain ⟨u6d, hu3i, hm2o⟩ := bdS hm3h
 refine WC_forN (σ := (List StoredFile)) (ρ := (List StoredFile)) (fun (k1k : Nat) (x1l : List StoredFile) a w => ∃ a14 n15 c16 S10, Sat 69 [(3, sl a14 n15 c16), (20, sl a1h n1i c1j), (21, vI (r1f.length : Int)), (22, (vI ((k1k : Nat) : Int)))] a ∧ Below w18.z w18 w ∧ shrS w S10 w18.z (sl a14 n15 c16) x1l ∧ S10.Nodup ∧ (∀ k ∈ S10, w18.z ≤ k)) (fun (x1l : List StoredFile) a w => ∃ a14 n15 c16 S10, Sat 69 [(3, sl a14 n15 c16)] a ∧ Below w18.z w18 w ∧ shrS w S10 w18.z (sl a14 n15 c16) x1l ∧ S10.Nodup ∧ (∀ k ∈ S10, w18.z ≤ k)) (fun r ex a w => ex = .ret ∧ RetPost prog fn (Q15 w0 B r) a w) hu3i ?_ ?_ ?_ ?_ ?_
 ·exact fun _ q => ⟨a3e, 0, 0, ([] : List Nat), (q.k (s4 z z z z)), (br w18), (shrS.mono (h3f.ext s2e) (lt_ hBw (lt_ s1t.size s2e.size))), nd_nil, all_nil⟩
 ·rintro k1k x1l a6e w2p o6f hk2q ⟨a14, n15, c16, S10, hS3j, s1u, h19, h1m, h1g⟩ hm3k
  refine Wu ?_ hS3j
  refine Ws (R z (lss z z) (Wn (Wq (Wc z (fun _ => ?_) (fun hc => (nolt hk2q hc).elim)))))
  refine Wk (Wq (WC_block (Ws ?_)))
  obtain ⟨x12, e3l, hm3m⟩ := bdS hm3k
  refine RX z (at_ (α := Record) d_89 z_76 z z z (ownS_rep (h1y.ext s1u) (ownS.lt h1y)) e3l) ?_
  rintro _ ⟨b6g, o6h, cs6i, rfl, h3n, h3o, h6j⟩
  obtain ⟨a1n, n1o, c1p, rfl, h3p, h2f, h2g, h3q⟩ := Record_open h3o
  refine R z (lN (vs := [vI x12.kind, Str.v x12.name, vI x12.version, sl a1n n1o c1p]) g_76 z_76 z z fid h3n) (E z (fa zero_76) ?_)
  rintro _ w2r ⟨rfl, h2s⟩
  have h1d := h2s.below
  have h1z : Blk w2r w2p.z [vI 0, (Str.v (⟨[]⟩ : Str)), vI 0, sl none 0 0] := h2s.blk
  refine E0 (fs (cur' := [vI x12.kind, Str.v x12.name, vI x12.version, sl a1n n1o c1p]) z_76 z z h1z z (lb z) (oA z) z) ?_
  rintro _ w6k ⟨h2t, s3r⟩
  have h17 := s3r.one
  refine Wn (Ws (Rm z (R z (rd_makeFunc z) ?_)))
  have h2h := mem1le s1u.size
  have h1v := (h19.ext h1d).chg h17 (dj_symm (mnr (shrS.lt h19))) (lg h2h)
  have h2i := (h3q.ext h1d).chg h17 (lg h2h)
  have h1q := lt_ s1u.size h1d.size
  obtain ⟨r2u, e3s, hm3t⟩ := bdS hm3m
  refine E z (fc call87 z (W_w31 (B := w2r.z) e3s h17.size (repS.mono (shrS.rep h1v (shrS.lt h19) s1u.size) h1d.size) h3p h2f h2g (repS.mono h2i h1q) (h2t.row 0 4 z) h1z.lt)) ?_
  rintro _ w2v ⟨s13, rfl, h6l⟩
  refine Ra z (Wn (Ws (R z (fd f_76_1 z) ?_)))
  have h1w := h2t.ext s13
  refine R z (l1 g_9 z fid (h1w.at z)) (R z (fd f_76_2 z) (R z (l1 g_3 z fid (h1w.at z)) (R z (fd f_76_3 z) (R z (l1 g_25 z fid (h1w.at z)) (R z (bP (parts := [(0, (.tmp 30)), (1, (.tmp 32)), (2, (.tmp 34))]) (cs := [Str.v x12.name, vI x12.version, sl a1n n1o c1p]) build_63 z z) (E z (fa zero_63) ?_))))))
  rintro _ w3u ⟨rfl, h2w⟩
  have h1b := h2w.below
  have h3v : Blk w3u w2v.z [(Str.v (⟨[]⟩ : Str)), vI 0, sl none 0 0] := h2w.blk
  refine E0 (fs (cur' := [Str.v x12.name, vI x12.version, sl a1n n1o c1p]) z_63 z z h3v z (lb z) (oA z) z) ?_
  rintro _ w20 ⟨h2x, s3w⟩
  have h1c := s3w.one
  refine Wn (WC_block (Wq ?_))
  obtain ⟨u3x, hu2y, hm3y⟩ := bdS hm3t
  refine WC_cut (fun a w => ∃ (x2j : Bool), x2j = u3x ∧ Sat 69 [(3, sl a14 n15 c16), (7, pt w2p.z), (8, vI r2u), (9, pt w2v.z), (20, sl a1h n1i c1j), (21, vI (r1f.length : Int)), (22, (vI ((k1k : Nat) : Int))), (36, vB x2j)] a ∧ Below w20.z w20 w) ?_ ?_
  ·refine Wg (R z (fd f_76_0 z) (R z (l1 g_3 z fid (((h1w.ext h1b).chg h1c (djs (mm1 h1z.lt (lt_ h17.size s13.size)))).at z)) (R z (eql z z) (Rm z ?_))))
   rcases bs (x12.kind == 1) with hc1e | hc1e
   ·exact Rh z hc1e (mv z) (Rh z hc1e (rd_geq z z) (R z (pT z hc1e z) (Ra z (Wl (fun _ q => ⟨decide (0 ≤ r2u), som (ifT hu2y hc1e), (q.k (s8 z z z z z z z z)), (br w20)⟩)))))
   exact Nh z hc1e (Nh z hc1e (R z (pF z hc1e z) (Ra z (Wl (fun _ q => ⟨false, som (ifF hu2y hc1e), (q.k (s8 z z z z z z z z)), (br w20)⟩)))))
  rintro a3z w11 ⟨x2j, rfl, hS6m, s1a⟩
  revert a3z
  refine Wo ?_
  obtain ⟨u40, hu2z, hm41⟩ := bdS hm3y
  refine WC_cut (fun a w => ∃ (x21 : List StoredFile), x21 = u40 ∧ ∃ a22 n23 c24 S1x, Sat 69 [(3, sl a22 n23 c24), (20, sl a1h n1i c1j), (21, vI (r1f.length : Int)), (22, (vI ((k1k : Nat) : Int)))] a ∧ Chg (· ∈ S10) w11 w ∧ shrS w S1x w18.z (sl a22 n23 c24) x21 ∧ S1x.Nodup ∧ (∀ k ∈ S1x, k ∈ S10 ∨ w11.z ≤ k)) ?_ ?_
  ·refine Wc z (fun hc2k => ?_) (fun hc2k => ?_)
   ·refine Wg (Rm z (Rm z (R z (lN (vs := [Str.v x12.name, vI x12.version, sl a1n n1o c1p]) g_63 z_63 z z fid ((h2x.ext s1a).row 0 3 z)) ?_)))
    obtain ⟨x42, e30, hm43⟩ := bdS (ifT hu2z hc2k)
    have h31 := mem1le (lt_ (lt_ h1q h17.size) s13.size)
    have h32 := (((h1v.ext s13).ext h1b).chg h1c (dj_symm (mno (shrS.lt h19) (lt_ (lt_ h1d.size h17.size) s13.size))) (lg h31)).ext s1a
    refine RX z (rd_atUR (α := StoredFile) d_59 z_63 z z h32 e30) ?_
    rintro _ ⟨g6n, h44, rfl⟩
    refine E0 (ef_setR (α := StoredFile) z_63 z h44 z z z e30 h32 h1m (StoredFile_mk (x := (⟨x12.name, x12.version, x12.data⟩ : StoredFile)) h2f h2g ((((h2i.ext s13).ext h1b).chg h1c (lg h31)).ext s1a)) h1g) ?_
    rintro _ w45 ⟨S33, s46, h47, h48, h49⟩
    refine Wl ?_
    have h4a : ∀ k ∈ S33, k ∈ S10 ∨ w11.z ≤ k := or1 h49 (io sr) (leor lr)
    have h4b : Chg (· ∈ S10) w11 w45 := cM (cr S10 w11) s46 (io sr)
    exact fun _ q => ⟨x42, som hm43, a14, n15, c16, S33, (q.k (s4 z z z z)), h4b, h47, h48, h4a⟩
   refine Ws (R z (fd f_76_0 z) (R z (l1 g_3 z fid ((((h1w.ext h1b).chg h1c (djs (mm1 h1z.lt (lt_ h17.size s13.size)))).ext s1a).at z)) (R z (eql z z) (Ra z (Wn ?_)))))
   obtain ⟨u4c, hu34, hm4d⟩ := bdS (ifF hu2z hc2k)
   refine WC_cut (fun a w => ∃ (x25 : List StoredFile), x25 = u4c ∧ ∃ a26 n27 c28 S1r, Sat 69 [(3, sl a26 n27 c28), (20, sl a1h n1i c1j), (21, vI (r1f.length : Int)), (22, (vI ((k1k : Nat) : Int)))] a ∧ Chg (· ∈ S10) w11 w ∧ shrS w S1r w18.z (sl a26 n27 c28) x25 ∧ S1r.Nodup ∧ (∀ k ∈ S1r, k ∈ S10 ∨ w11.z ≤ k)) ?_ ?_
   ·refine Wc z (fun hc2l => ?_) (fun hc2l => ?_)
    ·refine Wg (Rm z (R z (lN (vs := [Str.v x12.name, vI x12.version, sl a1n n1o c1p]) g_63 z_63 z z fid ((h2x.ext s1a).row 0 3 z)) (E z (ef_buildSlice [(.tmp 53)] el_59 z z z (szAll z) (lb z) (lb z)) ?_)))
     rintro _ w35 ⟨rfl, h36⟩
     have h29 := h36.below
     have h4e : Blk w35 w11.z [Str.v x12.name, vI x12.version, sl a1n n1o c1p] := h36.blk
     have h37 := mem1le (lt_ (lt_ h1q h17.size) s13.size)
     obtain ⟨x4f, e4g, hm4h⟩ := bdS (ifT hu34 hc2l)
     refine E z (ef_pushR (α := StoredFile) el_59 e4g z z (((((h1v.ext s13).ext h1b).chg h1c (dj_symm (mno (shrS.lt h19) (lt_ (lt_ h1d.size h17.size) s13.size))) (lg h37)).ext s1a).ext h29) h1m h4e (StoredFile_mk (x := (⟨x12.name, x12.version, x12.data⟩ : StoredFile)) h2f h2g (((((h2i.ext s13).ext h1b).chg h1c (lg h37)).ext s1a).ext h29)) h1g) ?_
     rintro _ w4i ⟨S38, a4j, n4k, c4l, rfl, s4m, h4n, h4o, h4p⟩
     refine Ra z (Wl ?_)
     have h4q : ∀ k ∈ S38, k ∈ S10 ∨ w11.z ≤ k := or1 h4p (io sr) (leor h29.size)
     have h4r : Chg (· ∈ S10) w11 w35 := cext (cr S10 w11) h29
     have h4s : Chg (· ∈ S10) w11 w4i := cM h4r s4m (io sr)
     exact fun _ q => ⟨x4f, som hm4h, a4j, n4k, c4l, S38, (q.k (s4 z z z z)), h4s, h4n, h4o, h4q⟩
    refine Ws (Rm z (R z (rd_geq z z) (Ra z (Wn ?_))))
    obtain ⟨u4t, hu39, hm4u⟩ := bdS (ifF hu34 hc2l)
    refine WC_cut (fun a w => ∃ (x2a : List StoredFile), x2a = u4t ∧ ∃ a2b n2c c2d S1s, Sat 69 [(3, sl a2b n2c c2d), (20, sl a1h n1i c1j), (21, vI (r1f.length : Int)), (22, (vI ((k1k : Nat) : Int)))] a ∧ Chg (· ∈ S10) w11 w ∧ shrS w S1s w18.z (sl a2b n2c c2d) x2a ∧ S1s.Nodup ∧ (∀ k ∈ S1s, k ∈ S10 ∨ w11.z ≤ k)) ?_ ?_
    ·refine Wc z (fun hc2m => ?_) (fun hc2m => ?_)
     ·refine WC_draw (X := noX) 128 (.rd 0 (.rd 1 (.rd 2 (.rd 3 (.rd 4 (.rd 5 (.rd 6 (.ef 7 (.rd 8 .done))))))))) mo (by kernel_rfl) fun w4v s2n _ => dR z z (mv z) (dR z z (mv z) ?_)
      obtain ⟨x6o, e4w, hm4x⟩ := bdS (ifT hu39 hc2m)
      have h3a := ((((h1v.ext s13).ext h1b).chg h1c (dj_symm (mno (shrS.lt h19) (lt_ (lt_ h1d.size h17.size) s13.size))) (lg (mem1le (lt_ (lt_ h1q h17.size) s13.size)))).ext s1a).ext s2n
      refine dRX z z (rd_slicePreR d_59 z_63 z h3a z e4w) ?_
      rintro _ ⟨n6p, rfl, h4y⟩
      refine dR z z (mv z) (dR z z (mv z) (dR z z (add_ z z) ?_))
      obtain ⟨x6q, e4z, hm50⟩ := bdS hm4x
      refine dRX z z (rd_sliceRow d_59 z_63 z z h3a z z e4z) ?_
      rintro _ ⟨a6r, n6s, c6t, rfl, h51⟩
      obtain ⟨x52, e53, hm54⟩ := bdS hm50
      refine dE z z (ef_appendR (α := StoredFile) el_59 e53 z z h4y h1m h51 h1g) (.inl z) ?_
      rintro _ w55 ⟨S3b, a56, n57, c58, rfl, s59, h5a, h5b, h5c⟩
      refine dR z z (asg z) (PR_done ?_)
      have h5d : ∀ k ∈ S3b, k ∈ S10 ∨ w11.z ≤ k := or1 h5c (io sr) (leor s2n.size)
      have h5e : Chg (· ∈ S10) w11 w4v := cext (cr S10 w11) s2n
      have h5f : Chg (· ∈ S10) w11 w55 := cM h5e s59 (io sr)
      exact fun _ q => ⟨x52, som hm54, a56, n57, c58, S3b, (q.k (s4 z z z z)), h5f, h5a, h5b, h5d⟩
     exact WC_skip (fun _ q => ⟨x1l, som (ifF hu39 hc2m), a14, n15, c16, S10, (q.k (s4 z z z z)), (cr S10 w11), ((((h1v.ext s13).ext h1b).chg h1c (dj_symm (mno (shrS.lt h19) (lt_ (lt_ h1d.size h17.size) s13.size))) (lg (mem1le (lt_ (lt_ h1q h17.size) s13.size)))).ext s1a), h1m, (io sr)⟩)
    rintro a5g w5h ⟨x2a, rfl, a2b, n2c, c2d, S1s, hS6u, s5i, h5j, h5k, h5l⟩
    revert a5g
    have h5m : ∀ k ∈ S1s, k ∈ S10 ∨ w11.z ≤ k := or1 h5l (io sr) (leor lr)
    have h5n : Chg (· ∈ S10) w11 w5h := cM (cr S10 w11) s5i (io sr)
    exact fun _ q => ⟨x2a, som hm4u, a2b, n2c, c2d, S1s, (q.k (s4 z z z z)), h5n, h5j, h5k, h5m⟩
   rintro a5o w5p ⟨x25, rfl, a26, n27, c28, S1r, hS6v, s5q, h5r, h5s, h5t⟩
   revert a5o
   have h5u : ∀ k ∈ S1r, k ∈ S10 ∨ w11.z ≤ k := or1 h5t (io sr) (leor lr)
   have h5v : Chg (· ∈ S10) w11 w5p := cM (cr S10 w11) s5q (io sr)
   exact fun _ q => ⟨x25, som hm4d, a26, n27, c28, S1r, (q.k (s4 z z z z)), h5v, h5r, h5s, h5u⟩
  rintro a5w w6w ⟨x21, rfl, a22, n23, c24, S1x, hS6x, s5x, h5y, h5z, h60⟩
  revert a5w
  refine Wo (Wg (R z (inc_ hk2q (lt_ (ownS.len h1y) LEN_le) z z) (Rm z (Wl ?_))))
  have h3c := lt_ (lt_ h1q h17.size) s13.size
  exact fun _ q => ⟨x21, (som hm41).symm, ⟨a22, n23, c24, S1x, (q.k (s4 z z z z)), (bM (bup (bM (bup (bup (bM (bup s1u h1d) h17 h2h) s13) h1b) h1c (mem1le h3c)) s1a) s5x h1g), h5y, h5z, (o1le h60 h1g (lt_ (lt_ (lt_ h3c h1b.size) h1c.size) s1a.size))⟩⟩
 ·rintro x1l a6y w6z ⟨a14, n15, c16, S10, hS61, s62, h19, h1m, h1g⟩
  refine Wu ?_ hS61
  refine Ws (R z (lss z z) (Wn (Wq (Wc z (fun hc => (noltt hc).elim) (fun _ => ?_)))))
  exact WC_exit (fun a' ha' => ⟨rfl, ⟨a14, n15, c16, S10, (Sat.weaken ha' (s1 z)), s62, h19, h1m, h1g⟩⟩)
 ·rintro x1l a63 w70 rfl ⟨a14, n15, c16, S10, hS71, s3d, h19, h1m, h1g⟩
  have hm64 := elL hm2o
  revert a63
  refine Wo (Ws (Rm z (Ra z (Wn ?_))))
  obtain rfl := som hm64
  exact Wr (ret1 hr z ⟨(bup (bup s1t s2e) s3d), a14, n15, c16, z, (shrS.rep h19 (shrS.lt h19) s3d.size)⟩)
 rintro r72 ex73 a74 w75 rfl ⟨rfl, hq65⟩
 have hm66 := elR hm2o
 obtain rfl := som hm66
 exact ⟨hq65, z⟩
theorem W_w32 {x1 : Registry} {x2 : Int} {res : Bool} (hm : M_impl_hasVersion x1 x2 = some res) (hBw : B ≤ w0.z) (p1_0 : repS w0 B (sl A0 N0 C0) x1.versions) (p2_0 : inI x2) : CallsR prog 85 [(.agg #[sl A0 N0 C0]), vI x2] w0 (Q11 w0 B res) := by
 unfold M_impl_hasVersion at hm
 refine goF func85 z z (lb z) fun fn hr => Ws (E z (fb z) ?_)
 rintro _ w11 ⟨rfl, h13⟩
 have h14 := h13.below
 have h16 : Blk w11 w0.z [sl A0 N0 C0] := h13.blk
 refine Ra z (Wn (Wq ?_))
 obtain ⟨u17, hu15, hm18⟩ := bdS hm
 refine WC_cut (fun a w => ∃ (x12 : Bool), x12 = u17 ∧ Sat 14 [(4, vB x12)] a ∧ Below w11.z w11 w) ?_ ?_
 ·refine Wg (Rm z (R z (rd_geq z z) (Rm z ?_)))
  rcases bs (decide (0 ≤ x2)) with hc10 | hc10
  ·exact Rh z hc10 (mv z) (Rh z hc10 (fd f_34_0 z) (Rh z hc10 (l1 g_32 z fid (h16.at z)) (Rh z hc10 (lnR d_32 z (p1_0.ext h14)) (Rh z hc10 (lss z z) (R z (pT z hc10 z) (Ra z (Wl (fun _ q => ⟨decide (x2 < (x1.versions.length : Int)), som (ifT hu15 hc10), (q.k (s1 z)), (br w11)⟩))))))))
  iterate 5 refine Nh z hc10 ?_
  exact R z (pF z hc10 z) (Ra z (Wl (fun _ q => ⟨false, som (ifF hu15 hc10), (q.k (s1 z)), (br w11)⟩)))
 rintro a19 w1b ⟨x12, rfl, hS1c, s1a⟩
 revert a19
 refine Wo ?_
 obtain rfl := som hm18
 exact Wr (ret1 hr z ⟨(bup h14 s1a), z⟩)
theorem W_w19 {x1 : Desc} {res : Int} (hm : M_impl_RootOf x1 = some res) (hBw : B ≤ w0.z) (p1_0 : repS w0 B (sl A0 N0 C0) x1.rules) : CallsR prog 139 [(.agg #[sl A0 N0 C0])] w0 (Q0 w0 B res) := by
 unfold M_impl_RootOf at hm
 refine goF func139 z z (lb z) fun fn hr => Ws (E z (fb z) ?_)
 rintro _ w12 ⟨rfl, h10⟩
 have h11 := h10.below
 have h13 : Blk w12 w0.z [sl A0 N0 C0] := h10.blk
 refine Ra z (Wn (Ws (R z (fd f_95_0 z) (R z (l1 g_93 z fid (h13.at z)) (R z (lnR d_93 z (p1_0.ext h11)) (R z (sb_ z z) (Ra z (Wn ?_))))))))
 obtain rfl := som hm
 exact Wr (ret1 hr z ⟨h11, z, (iS _ _)⟩)
theorem W_w33 {x1 : Desc} {x2 : Int} {res : Bool} (hm : M_impl_known n x1 x2 = some res) (hBw : B ≤ w0.z) (p1_0 : repS w0 B (sl A0 N0 C0) x1.rules) (p2_0 : inI x2) : CallsR prog 153 [(.agg #[sl A0 N0 C0]), vI x2] w0 (Q11 w0 B res) := by
 unfold M_impl_known at hm
 refine goF func153 z z (lb z) fun fn hr => Ws (E z (fb z) ?_)
 rintro _ w13 ⟨rfl, h15⟩
 have h12 := h15.below
 have h16 : Blk w13 w0.z [sl A0 N0 C0] := h15.blk
 refine Ra z (Wn (Wq ?_))
 obtain ⟨u19, hu1a, hm1b⟩ := bdS hm
 refine WC_cut (fun a w => ∃ (x14 : Bool), x14 = u19 ∧ Sat 12 [(4, vB x14)] a ∧ Below w13.z w13 w) ?_ ?_
 ·refine Wg (R z (lN (vs := [sl A0 N0 C0]) g_95 z_95 z z fid (h16.row 0 1 z)) ?_)
  have h17 := p1_0.ext h12
  obtain ⟨r1c, e1d, hm18⟩ := bdS hu1a
  refine E z (fc call111 z (W_w11 (B := B) e1d (lt_ hBw h12.size) h17)) ?_
  rintro _ w1k ⟨s11, rfl⟩
  refine Rm z ?_
  rcases bs r1c with hc10 | hc10
  ·refine Rh z hc10 (lN (vs := [sl A0 N0 C0]) g_95 z_95 z z fid ((h16.ext s11).row 0 1 z)) (Rh z hc10 (mv z) ?_)
   obtain ⟨r1e, e1f, hm1g⟩ := bdS (ifT hm18 hc10)
   refine Eg z z hc10 z (fc call150 z (W_w0g (B := B) e1f (lt_ hBw (lt_ h12.size s11.size)) (h17.ext s11) p2_0)) ?_
   rintro _ w1l ⟨s1h, rfl⟩
   exact R z (pT z hc10 z) (Ra z (Wl (fun _ q => ⟨r1e, som hm1g, (q.k (s1 z)), (bup s11 s1h)⟩)))
  iterate 3 refine Nh z hc10 ?_
  exact R z (pF z hc10 z) (Ra z (Wl (fun _ q => ⟨false, som (ifF hm18 hc10), (q.k (s1 z)), s11⟩)))
 rintro a1i w1m ⟨x14, rfl, hS1n, s1j⟩
 revert a1i
 refine Wo ?_
 obtain rfl := som hm1b
 exact Wr (ret1 hr z ⟨(bup h12 s1j), z⟩)
def Q20 (w0 : World) (B : Nat) (r : (Option (Int × Int))) (v : Value) (w' : World) : Prop := Bw w0 w' ∧ (fun r1 => ∃ (v1 : Value) (S1 : List Nat), v1 = v ∧ errR 162 w' S1 v1 r1 ∧ (∀ k ∈ S1, w0.z ≤ k)) r
theorem W_w06 {x1 : Int} {x2 : Int} {res : (Option (Int × Int))} (hm : M_impl_fail x1 x2 = some res) (hBw : B ≤ w0.z) (p1_0 : inI x1) (p2_0 : inI x2) : CallsR prog 190 [vI x1, vI x2] w0 (Q20 w0 B res) := by
 unfold M_impl_fail at hm
 refine goF func190 z z (lb z) fun fn hr => Ws (Ra z (Wn (Ws (Rm z (Rm z (R z (bP (parts := [(0, (.tmp 5)), (1, (.tmp 6))]) (cs := [vI x1, vI x2]) build_166 z z) (E z (fb z) ?_)))))))
 rintro _ w11 ⟨rfl, h10⟩
 have h12 : Blk w11 w0.z [vI x1, vI x2] := h10.blk
 refine R z (rd_makeIface d_162 (fun _ h => by cases h) z) (Ra z (Wn ?_))
 obtain rfl := som hm
 exact Wr (ret1 hr z ⟨h10.below, (.iface 162 (pt w0.z)), [w0.z], z, (errR_mkp h12 p1_0 p2_0 z), (mem1 lr)⟩)
def Q21 (w0 : World) (B : Nat) (r : (List UInt8) × (Option (Int × Int))) (v : Value) (w' : World) : Prop := Bw w0 w' ∧ un2 (fun r1 r2 => ∃ (a1 : Option Addr) (n1 c1 : Nat) (v2 : Value) (S2 : List Nat), v = .tuple #[sl a1 n1 c1, v2] ∧ repS w' w'.z (sl a1 n1 c1) r1 ∧ errR 162 w' S2 v2 r2 ∧ (∀ k ∈ S2, w0.z ≤ k)) r
theorem W_w08 {x1 : FileReader} {b1 o1 : Nat} {x2 : Int} {x3 : Int} {res : (List UInt8) × (Option (Int × Int))} (hm : M_impl_fileReader_take x1 x2 x3 = some res) (hBw : B ≤ w0.z) (p1_0 : repS w0 B (sl A0 N0 C0) x1.d.rules) (p1_1 : repS w0 B (sl A3 N3 C3) x1.b) (hC1 : CellsAt w0 b1 o1 [sl A0 N0 C0, sl A3 N3 C3]) (hC1b : b1 < B) (p2_0 : inI x2) (p3_0 : inI x3) : CallsR prog 203 [(.pointer (some ⟨b1, o1, none⟩)), vI x2, vI x3] w0 (Q21 w0 B res) := by
 unfold M_impl_fileReader_take at hm
 refine goF func203 z z (lb z) fun fn hr => Ws (Ra z (Ra z (Wn (Wq (Ws (Rm z (Rm z (R z (rd_nil z) (R z (fd f_157_1 z) (R z (l1 g_25 z fid (hC1.at (j := 1) z)) (R z (lnR d_25 z p1_1) (Rm z (R z (sb_ z z) (R z (rd_gtr z z) (Wn (Wc z (fun hc10 => ?_) (fun hc10 => ?_)))))))))))))))))
 ·refine Ws (Rm z ?_)
  obtain ⟨r1e, e12, hm13⟩ := bdS (ifT hm hc10)
  refine E z (fc call190 z (W_w06 (B := B) e12 hBw p2_0 (ii z))) ?_
  rintro _ w1f ⟨s11, v14, S15, rfl, h16, h17⟩
  refine Ra z (Ra z (Wn ?_))
  obtain rfl := som hm13
  exact Wr (ret2 hr z z ⟨s11, none, 0, 0, v14, S15, z, (repS.mono (ownS_rep onL all_nil) s11.size), h16, h17⟩)
 refine Wk (Ws (Rm z (R z (rd_nil z) (R z (fd f_157_1 z) (R z (l1 g_25 z fid (hC1.at (j := 1) z)) (Rm z (Rm z (Rm z (R z (add_ z z) ?_)))))))))
 obtain ⟨x1g, e18, hm19⟩ := bdS (ifF hm hc10)
 refine RX z (rd_sliceX d_25 z_5 z z p1_1 z z e18) ?_
 rintro _ ⟨a1a, n1b, c1c, rfl, h1d⟩
 refine Ra z (Ra z (Wn ?_))
 obtain rfl := som hm19
 exact Wr (ret2 hr z z ⟨(br w0), a1a, n1b, c1c, .nilIface, ([] : List Nat), z, (repS.mono h1d hBw), errR_nil, all_nil⟩)
theorem W_w34 {x1 : List UInt8} {x2 : Bool} {res : Int} (hm : M_impl_ReadInteger x1 x2 = some res) (hBw : B ≤ w0.z) (p1_0 : repS w0 B (sl A0 N0 C0) x1) : CallsR prog 204 [sl A0 N0 C0, vB x2] w0 (Q0 w0 B res) := by
 unfold M_impl_ReadInteger at hm
 refine goF func204 z z (lb z) fun fn hr => Ws (Ra z (Wn (Wq (Ws (Rm z (R z (lnR d_25 z p1_0) (R z (rd_gtr z z) (Wn (Wc z (fun hc15 => ?_) (fun hc15 => ?_))))))))))
 ·refine Ws (Ra z (Wn ?_))
  obtain rfl := som (ifT hm hc15)
  exact Wr (ret1 hr z ⟨(br w0), z, (ii z)⟩)
 refine Wk (Ws (Ra z (Wn (Wq (Ws (Rm z (R z (lnR d_25 z p1_0) (Rm z (Wn ?_)))))))))
 obtain ⟨u21, hu1c, hm18⟩ := bdS (ifF hm hc15)
 refine WC_forN (σ := Int) (ρ := Int) (fun (k12 : Nat) (x10 : Int) a w => Sat 38 [(0, sl A0 N0 C0), (1, vB x2), (5, vI x10), (11, vI (x1.length : Int)), (12, (vI ((k12 : Nat) : Int)))] a ∧ Below w0.z w0 w ∧ inI x10) (fun (x10 : Int) a w => Sat 38 [(5, vI x10)] a ∧ Below w0.z w0 w ∧ inI x10) (fun r ex a w => ex = .ret ∧ RetPost prog fn (Q0 w0 B r) a w) hu1c ?_ ?_ ?_ ?_ ?_
 ·exact fun _ q => ⟨(q.k (s5 z z z z z)), (br w0), (ii z)⟩
 ·rintro k12 x10 a22 w13 o23 hk19 ⟨hS1d, s16, h14⟩ hm1e
  refine Wu ?_ hS1d
  refine Ws (R z (lss z z) (Wn (Wq (Wc z (fun _ => ?_) (fun hc => (nolt hk19 hc).elim)))))
  refine Wk (Wq (WC_block (Ws (Rm z (Ra z (Wn (Ws (Rm z (Wn ?_)))))))))
  obtain ⟨u1f, hu1a, hm1g⟩ := bdS hm1e
  refine WC_cut (fun a w => ∃ (x11 : Int), x11 = u1f ∧ Sat 38 [(0, sl A0 N0 C0), (1, vB x2), (5, vI x11), (11, vI (x1.length : Int)), (12, (vI ((k12 : Nat) : Int)))] a ∧ Below w13.z w13 w ∧ inI x11) ?_ ?_
  ·refine Wc z (fun hc17 => ?_) (fun hc17 => ?_)
   ·refine Wg (Rm z (R z (rd_shl z z (by decide)) (Rm z (Rm z ?_))))
    have h1b := p1_0.ext s16
    refine R z (lnR d_25 z h1b) (R z (sb_ z z) (Rm z (R z (sb_ z z) ?_)))
    obtain ⟨x1h, e1i, hm1j⟩ := bdS (ifT hu1a hc17)
    refine RX z (at_ (α := UInt8) d_25 z_5 z z z h1b e1i) ?_
    rintro _ ⟨b24, o25, cs26, rfl, h1k, h1l, h27⟩
    obtain rfl := UInt8_open h1l
    exact R z (l1 g_5 z fid (h1k.at0 z)) (R z (rd_convUI d_5 d_3 z) (R z (rd_or z z) (Ra z (Wl (fun _ q => ⟨bitop .i64 (· ||| ·) (shlK .i64 x10 8) (byteI x1h), som hm1j, (q.k (s5 z z z z z)), (br w13), (inI_bitop _ _ _)⟩)))))
   refine Wg (Rm z (R z (rd_shl z z (by decide)) (Rm z (Rm z ?_))))
   obtain ⟨x1m, e1n, hm1o⟩ := bdS (ifF hu1a hc17)
   refine RX z (at_ (α := UInt8) d_25 z_5 z z z (p1_0.ext s16) e1n) ?_
   rintro _ ⟨b28, o29, cs2a, rfl, h1p, h1q, h2b⟩
   obtain rfl := UInt8_open h1q
   exact R z (l1 g_5 z fid (h1p.at0 z)) (R z (rd_convUI d_5 d_3 z) (R z (rd_or z z) (Ra z (Wl (fun _ q => ⟨bitop .i64 (· ||| ·) (shlK .i64 x10 8) (byteI x1m), som hm1o, (q.k (s5 z z z z z)), (br w13), (inI_bitop _ _ _)⟩)))))
  rintro a1r w2c ⟨x11, rfl, hS2d, s1s, h1t⟩
  revert a1r
  exact Wo (Wg (R z (inc_ hk19 (lt_ (repS.len p1_0) LEN_le) z z) (Rm z (Wl (fun _ q => ⟨x11, (som hm1g).symm, ⟨(q.k (s5 z z z z z)), (bup s16 s1s), h1t⟩⟩)))))
 ·rintro x10 a2e w2f ⟨hS1u, s1v, h14⟩
  refine Wu ?_ hS1u
  refine Ws (R z (lss z z) (Wn (Wq (Wc z (fun hc => (noltt hc).elim) (fun _ => ?_)))))
  exact WC_exit (fun a' ha' => ⟨rfl, ⟨(Sat.weaken ha' (s1 z)), s1v, h14⟩⟩)
 ·rintro x10 a1w w2g rfl ⟨hS2h, s1x, h14⟩
  have hm1y := elL hm18
  revert a1w
  refine Wo (Ws (Rm z (Ra z (Wn ?_))))
  obtain rfl := som hm1y
  exact Wr (ret1 hr z ⟨s1x, z, h14⟩)
 rintro r2i ex2j a2k w2l rfl ⟨rfl, hq1z⟩
 have hm20 := elR hm18
 obtain rfl := som hm20
 exact ⟨hq1z, z⟩
def Q22 (w0 : World) (B : Nat) (r : Int × Int × (Option (Int × Int))) (v : Value) (w' : World) : Prop := Bw w0 w' ∧ un3 (fun r1 r2 r3 => ∃ (v1 : Value) (S1 : List Nat), v = .tuple #[vI r1, vI r2, v1] ∧ inI r1 ∧ inI r2 ∧ errR 162 w' S1 v1 r3 ∧ (∀ k ∈ S1, w0.z ≤ k)) r
theorem W_w09 {x1 : FileReader} {b1 o1 : Nat} {x2 : Int} {x3 : Int} {res : Int × Int × (Option (Int × Int))} (hm : M_impl_fileReader_integer x1 x2 x3 = some res) (hBw : B ≤ w0.z) (p1_0 : repS w0 B (sl A0 N0 C0) x1.d.rules) (p1_1 : repS w0 B (sl A3 N3 C3) x1.b) (hC1 : CellsAt w0 b1 o1 [sl A0 N0 C0, sl A3 N3 C3]) (hC1b : b1 < B) (p2_0 : inI x2) (p3_0 : inI x3) : CallsR prog 181 [(.pointer (some ⟨b1, o1, none⟩)), vI x2, vI x3] w0 (Q22 w0 B res) := by
 unfold M_impl_fileReader_integer at hm
 refine goF func181 z z (lb z) fun fn hr => Ws (Ra z (Ra z (Ra z (Wn (Ws (Rm z (R z (rd_nil z) (R z (fd f_157_0 z) (R z (fd f_95_0 z) (R z (l1 g_93 z fid (hC1.at (j := 0) z)) (Rm z ?_)))))))))))
 obtain ⟨x10, e1p, hm1q⟩ := bdS hm
 refine RX z (at_ (α := Rule) d_93 z_144 z z z p1_0 e1p) ?_
 rintro _ ⟨b27, o28, cs29, rfl, h1r, h1s, h2a⟩
 obtain ⟨a17, n18, c19, a1a, n1b, c1c, a1d, n1e, c1f, a1g, n1h, c1i, rfl, h2b, h2c, h1t, h2d, h2e, h2f, h2g⟩ := Rule_open h1s
 refine R z (lN (vs := (vR x10 a17 n18 c19 a1a n1b c1c a1d n1e c1f a1g n1h c1i)) g_144 z_144 z z fid h1r) (E z (fa zero_144) ?_)
 rintro _ w1u ⟨rfl, h1j⟩
 have h11 := h1j.below
 have h1v : Blk w1u w0.z [(Str.v (⟨[]⟩ : Str)), vI 0, vI 0, vB false, sl none 0 0, sl none 0 0, sl none 0 0, sl none 0 0] := h1j.blk
 refine E0 (fs (cur' := (vR x10 a17 n18 c19 a1a n1b c1c a1d n1e c1f a1g n1h c1i)) z_144 z z h1v z (lb z) (oA z) z) ?_
 rintro _ w2h ⟨h1k, s1w⟩
 have h12 := s1w.one
 refine Wn (Ws (Rm z (Rm z (R z (fd f_144_2 z) (R z (l1 g_3 z fid (h1k.at z)) ?_)))))
 have h14 := mem1le hBw
 have h1l := lt_ h11.size h12.size
 obtain ⟨r2i, r2j, e1x, hm1m⟩ := bd2S hm1q
 refine E z (fc call203 z (W_w08 (B := B) e1x (lt_ hBw h1l) ((p1_0.ext h11).chg h12 (lg h14)) ((p1_1.ext h11).chg h12 (lg h14)) ((hC1.ext h11).chg h12 ((lg h14) _ hC1b)) hC1b p3_0 h1t)) ?_
 rintro _ w1y ⟨s15, a2k, n2l, c2m, v1z, S20, rfl, h21, h1n, h22⟩
 refine Rm z (R z (ext_ z z) (R z (ext_ z z) (Ra z (Ra z (Wn (Wq (Ws (Rm z (R z (rd_neqEr d_159 z z h1n) (Wn (Wc z (fun hc16 => ?_) (fun hc16 => ?_))))))))))))
 ·refine Ws (Rm z (Rm z (Ra z (Ra z (Ra z (Wn ?_))))))
  obtain rfl := som (ifT hm1m hc16)
  exact Wr (ret3 hr z z z ⟨(bup (bM h11 h12 (mem1 lr)) s15), v1z, S20, z, (ii z), p3_0, h1n, (o0le h22 h1l)⟩)
 refine Wk (Wq (WC_draw (X := noX) 0 (.rd 0 (.rd 1 (.rd 2 (.rd 4 (.rd 5 (.rd 6 (.rd 7 (.ef 3 (.rd 8 (.rd 9 (.rd 10 .done))))))))))) mo (by kernel_rfl) fun w2n s13 _ => dR z z (mv z) (dR z z (fd f_144_3 z) ?_)))
 have h1o := (h1k.ext s15).ext s13
 refine dR z z (l1 g_4 z fid (h1o.at z)) (dR z z (mv z) (dR z z (fd f_144_2 z) (dR z z (l1 g_3 z fid (h1o.at z)) (dR z z (add_ z z) ?_))))
 obtain ⟨r2o, e23, hm24⟩ := bdS (ifF hm1m hc16)
 refine dE z z (fc call204 z (W_w34 (B := w1y.z) e23 s13.size (h21.ext s13))) (.inr fun _ _ h => chgB (h.1)) ?_
 rintro _ w2p ⟨s25, rfl, h26⟩
 iterate 3 refine dR z z (asg z) ?_
 refine PR_done (Wo ?_)
 obtain rfl := som hm24
 exact Wr (ret3 hr z z z ⟨(bup (bup (bup (bM h11 h12 (mem1 lr)) s15) s13) s25), .nilIface, ([] : List Nat), z, h26, (iA _ _), errR_nil, all_nil⟩)
def Q23 (w0 : World) (B : Nat) (r : Int × (Option (Int × Int))) (v : Value) (w' : World) : Prop := Bw w0 w' ∧ un2 (fun r1 r2 => ∃ (v1 : Value) (S1 : List Nat), v = .tuple #[vI r1, v1] ∧ inI r1 ∧ errR 162 w' S1 v1 r2 ∧ (∀ k ∈ S1, w0.z ≤ k)) r
theorem W_w35 {x1 : FileReader} {b1 o1 : Nat} {x2 : Rule} {x3 : Int} {res : Int × (Option (Int × Int))} (hm : M_impl_fileReader_constant x1 x2 x3 = some res) (hBw : B ≤ w0.z) (p1_0 : repS w0 B (sl A0 N0 C0) x1.d.rules) (p1_1 : repS w0 B (sl A3 N3 C3) x1.b) (hC1 : CellsAt w0 b1 o1 [sl A0 N0 C0, sl A3 N3 C3]) (hC1b : b1 < B) (p2_0 : x2.name.b.length ≤ LEN) (p2_1 : inI x2.kind) (p2_2 : inI x2.size) (p2_4 : repS w0 B (sl A2 N2 C2) x2.bytes) (p2_5 : repS w0 B (sl A4 N4 C4) x2.names) (p2_6 : repS w0 B (sl A1 N1 C1) x2.tags) (p2_7 : repS w0 B (sl A5 N5 C5) x2.kids) (p3_0 : inI x3) : CallsR prog 182 [(.pointer (some ⟨b1, o1, none⟩)), (.agg #[Str.v x2.name, vI x2.kind, vI x2.size, vB x2.little, sl A2 N2 C2, sl A4 N4 C4, sl A1 N1 C1, sl A5 N5 C5]), vI x3] w0 (Q23 w0 B res) := by
 unfold M_impl_fileReader_constant at hm
 refine goF func182 z z (lb z) fun fn hr => Ws (E z (fb z) ?_)
 rintro _ w12 ⟨rfl, h18⟩
 have h10 := h18.below
 have h19 : Blk w12 w0.z (vR x2 A2 N2 C2 A4 N4 C4 A1 N1 C1 A5 N5 C5) := h18.blk
 refine Ra z (Ra z (Wn (Wq (Ws (R z (fd f_144_4 z) (R z (l1 g_25 z fid (h19.at z)) ?_))))))
 have h13 := p2_4.ext h10
 refine R z (lnR d_25 z h13) (Rm z (Wn ?_))
 obtain ⟨u2b, hu1i, hm1a⟩ := bdS hm
 refine WC_forN (σ := Unit) (ρ := Int × (Option (Int × Int))) (fun (k14 : Nat) (_ : Unit) a w => Sat 52 [(0, (.pointer (some ⟨b1, o1, none⟩))), (2, vI x3), (4, pt w0.z), (11, sl A2 N2 C2), (12, vI (x2.bytes.length : Int)), (13, (vI ((k14 : Nat) : Int)))] a ∧ Below w12.z w12 w) (fun (_ : Unit) a w => Sat 52 [(2, vI x3), (4, pt w0.z)] a ∧ Below w12.z w12 w) (fun r ex a w => ex = .ret ∧ RetPost prog fn (Q23 w0 B r) a w) hu1i ?_ ?_ ?_ ?_ ?_
 ·exact fun _ q => ⟨(q.k (s6 z z z z z z)), (br w12)⟩
 ·rintro k14 _ a2c w2d o2e hk1b ⟨hS1j, s11⟩ hm1k
  refine Wu ?_ hS1j
  refine Ws (R z (lss z z) (Wn (Wq (Wc z (fun _ => ?_) (fun hc => (nolt hk1b hc).elim)))))
  refine Wk (Wq (WC_block (Ws (Rm z ?_))))
  obtain ⟨x2f, e1l, hm1c⟩ := bdS hm1k
  refine RX z (at_ (α := UInt8) d_25 z_5 z z z (h13.ext s11) e1l) ?_
  rintro _ ⟨b2g, o2h, cs2i, rfl, h1m, h1n, h2j⟩
  obtain rfl := UInt8_open h1n
  refine R z (l1 g_5 z fid (h1m.at0 z)) (Ra z (Ra z (Wn (Wq (Ws (Rm z (Rm z (R z (add_ z z) (Rm z (R z (rd_nil z) (R z (fd f_157_1 z) ?_)))))))))))
  have h1d := (hC1.ext h10).ext s11
  refine R z (l1 g_25 z fid (h1d.at (j := 1) z)) ?_
  have h1e := (p1_1.ext h10).ext s11
  refine R z (lnR d_25 z h1e) (R z (rd_geq z z) (Wn (Wc z (fun hc15 => ?_) (fun hc15 => ?_))))
  ·refine Ws (Rm z (Rm z ?_))
   have h1f := lt_ h10.size s11.size
   obtain ⟨r2k, e1o, hm1p⟩ := bdS (ifT hm1c hc15)
   refine E z (fc call190 z (W_w06 (B := B) e1o (lt_ hBw h1f) p3_0 (ii z))) ?_
   rintro _ w2l ⟨s1q, v1r, S1s, rfl, h1t, h1u⟩
   exact Ra z (Ra z (Wn (Wr (rtO (QO_retL (som hm1p).symm (ret2 hr z z ⟨(bup (bup h10 s11) s1q), v1r, S1s, z, p3_0, h1t, (o0le h1u h1f)⟩))))))
  refine Wk (Ws (Rm z (R z (rd_nil z) (R z (fd f_157_1 z) (R z (l1 g_25 z fid (h1d.at (j := 1) z)) (Rm z (Rm z (R z (add_ z z) ?_))))))))
  obtain ⟨x2m, e1v, hm1g⟩ := bdS (ifF hm1c hc15)
  refine RX z (at_ (α := UInt8) d_25 z_5 z z z h1e e1v) ?_
  rintro _ ⟨b2n, o2o, cs2p, rfl, h1w, h1x, h2q⟩
  obtain rfl := UInt8_open h1x
  refine R z (l1 g_5 z fid (h1w.at0 z)) (Rm z (R z (nq z z) (Wn (Wc z (fun hc16 => ?_) (fun hc16 => ?_)))))
  ·refine Ws (Rm z (Rm z (Rm z (R z (add_ z z) ?_))))
   have h1h := lt_ h10.size s11.size
   obtain ⟨r2r, e1y, hm1z⟩ := bdS (ifT hm1g hc16)
   refine E z (fc call190 z (W_w06 (B := B) e1y (lt_ hBw h1h) (iA _ _) (ii z))) ?_
   rintro _ w2s ⟨s20, v21, S22, rfl, h23, h24⟩
   exact Ra z (Ra z (Wn (Wr (rtO (QO_retL (som hm1z).symm (ret2 hr z z ⟨(bup (bup h10 s11) s20), v21, S22, z, p3_0, h23, (o0le h24 h1h)⟩))))))
  exact Wk (Wg (R z (inc_ hk1b (lt_ (repS.len p2_4) LEN_le) z z) (Rm z (Wl (fun _ q => ⟨(), (som (ifF hm1g hc16)).symm, ⟨(q.k (s6 z z z z z z)), s11⟩⟩)))))
 ·rintro _ a2t w2u ⟨hS25, s26⟩
  refine Wu ?_ hS25
  refine Ws (R z (lss z z) (Wn (Wq (Wc z (fun hc => (noltt hc).elim) (fun _ => ?_)))))
  exact WC_exit (fun a' ha' => ⟨rfl, ⟨(Sat.weaken ha' (s2 z z)), s26⟩⟩)
 ·rintro _ a27 w2v rfl ⟨hS2w, s17⟩
  have hm28 := elL hm1a
  revert a27
  refine Wo (Ws (Rm z (R z (fd f_144_4 z) (R z (l1 g_25 z fid ((h19.ext s17).at z)) (R z (lnR d_25 z (h13.ext s17)) (R z (add_ z z) (Ra z (Ra z (Wn ?_)))))))))
  obtain rfl := som hm28
  exact Wr (ret2 hr z z ⟨(bup h10 s17), .nilIface, ([] : List Nat), z, (iA _ _), errR_nil, all_nil⟩)
 rintro r2x ex2y a2z w30 rfl ⟨rfl, hq29⟩
 have hm2a := elR hm1a
 obtain rfl := som hm2a
 exact ⟨hq29, z⟩
def Q24 (w0 : World) (B : Nat) (r : Val × Int × (Option (Int × Int))) (v : Value) (w' : World) : Prop := Bw w0 w' ∧ un3 (fun r1 r2 r3 => ∃ (a1 : Option Addr) (n1 c1 : Nat) (S1 : List Nat) (a2 : Option Addr) (n2 c2 : Nat) (S2 : List Nat) (v3 : Value) (S3 : List Nat), v = .tuple #[(.agg #[vI r1.number, sl a1 n1 c1, sl a2 n2 c2]), vI r2, v3] ∧ inI r1.number ∧ ownS w' S1 (sl a1 n1 c1) r1.bytes ∧ ownS w' S2 (sl a2 n2 c2) r1.items ∧ inI r2 ∧ errR 162 w' S3 v3 r3 ∧ (∀ k ∈ S3, w0.z ≤ k) ∧ (S1 ++ S2).Nodup ∧ (∀ k ∈ (S1 ++ S2), w0.z ≤ k)) r
theorem W_w1a {x1 : FileReader} {b1 o1 : Nat} {x2 : Int} {x3 : Int} {res : Val × Int × (Option (Int × Int))} (hm : M_impl_fileReader_content x1 x2 x3 = some res) (hBw : B ≤ w0.z) (p1_0 : repS w0 B (sl A0 N0 C0) x1.d.rules) (p1_1 : repS w0 B (sl A3 N3 C3) x1.b) (hC1 : CellsAt w0 b1 o1 [sl A0 N0 C0, sl A3 N3 C3]) (hC1b : b1 < B) (p2_0 : inI x2) (p3_0 : inI x3) : CallsR prog 183 [(.pointer (some ⟨b1, o1, none⟩)), vI x2, vI x3] w0 (Q24 w0 B res) := by
 unfold M_impl_fileReader_content at hm
 refine goF func183 z z (lb z) fun fn hr => Ws (E z (fa zero_118) ?_)
 rintro _ w1k ⟨rfl, h18⟩
 have h10 := h18.below
 have h12 : Blk w1k w0.z [vI 0, sl none 0 0, sl none 0 0] := h18.blk
 refine Ra z (Ra z (Wn (Ws (Rm z (Rm z (Rm z ?_))))))
 obtain ⟨r1z, r20, e1l, hm19⟩ := bd2S hm
 refine E z (fc call203 z (W_w08 (B := B) e1l (lt_ hBw h10.size) (p1_0.ext h10) (p1_1.ext h10) (hC1.ext h10) hC1b p2_0 p3_0)) ?_
 rintro _ w21 ⟨s11, a22, n23, c24, v1m, S1n, rfl, h1o, h1a, h1b⟩
 refine Rm z (R z (ext_ z z) (R z (ext_ z z) (Ra z (Ra z (Wn (Wq (Ws (Rm z (R z (rd_neqEr d_159 z z h1a) (Wn (Wc z (fun hc14 => ?_) (fun hc14 => ?_))))))))))))
 ·refine Ws (R z (bP (parts := []) (cs := [vI 0, sl none 0 0, sl none 0 0]) build_118 z z) (Rm z (Rm z (E0 (fs (cur' := [vI 0, sl none 0 0, sl none 0 0]) z_118 z z (h12.ext s11) z (lb z) (oA z) z) ?_))))
  rintro _ w25 ⟨h1p, s1q⟩
  have h1c := s1q.one
  refine Ra z (Ra z (Wn ?_))
  obtain rfl := som (ifT hm19 hc14)
  exact Wr (ret3 hr (resC g_118 z_118 z h1p z) z z ⟨(bM (bup h10 s11) h1c (mem1 lr)), none, 0, 0, [], none, 0, 0, [], v1m, S1n, z, (ii z), onL, onL, p2_0, (h1a.chg h1c (o0n1 h1b h12.lt lr)), (o0le h1b h10.size), nd0, al0⟩)
 refine Wk (Ws (E z (ef_lit0 (α := UInt8) el_25) ?_))
 rintro _ w26 ⟨a27, n28, c29, rfl, s13, h1r⟩
 refine Rm z ?_
 obtain ⟨x2a, e1s, hm1t⟩ := bdS (ifF hm19 hc14)
 refine E z (ef_appendN (α := UInt8) el_25 e1s z z h1r nd_one (h1o.ext s13)) ?_
 rintro _ w2b ⟨S1d, a15, n16, c17, rfl, s1e, h1u, h1v, h1f⟩
 refine R z (bP (parts := [(1, (.tmp 25))]) (cs := [vI 0, sl a15 n16 c17, sl none 0 0]) build_118 z z) (Rm z (Rm z (R z (add_ z z) ?_)))
 have h1g := mm1 h12.lt s11.size
 refine E0 (fs (cur' := [vI 0, sl a15 n16 c17, sl none 0 0]) z_118 z z (((h12.ext s11).ext s13).chg s1e (djs h1g)) z (lb z) (oA z) z) ?_
 rintro _ w2c ⟨h1w, s1x⟩
 have h1h := s1x.one
 refine Ra z (Ra z (Wn ?_))
 obtain rfl := som hm1t
 have h1y : ∀ k ∈ S1d, k ∉ [w0.z] := or1 h1f h1g (ltnot (mem1 h12.lt) (lt_ s11.size s13.size))
 have h1i := lt_ h10.size s11.size
 have h1j := mem1le h1i
 exact Wr (ret3 hr (resC g_118 z_118 z h1w z) z z ⟨(bM (bM (bup (bup h10 s11) s13) s1e h1j) h1h (mem1 lr)), a15, n16, c17, S1d, none, 0, 0, [], .nilIface, ([] : List Nat), z, (ii z), (h1u.chg h1h h1y), onL, (iA _ _), errR_nil, all_nil, (nd_app h1v nd_nil (nmN _)), (all_app (o1le h1f h1j (lt_ h1i s13.size)) all_nil)⟩)
theorem W_w36 {x1 : List UInt8} {x2 : Int} {x3 : UInt8} {res : (List UInt8) × Int × Bool} (hm : M_impl_ReadTerminated n x1 x2 x3 = some res) (hBw : B ≤ w0.z) (p1_0 : repS w0 B (sl A0 N0 C0) x1) (p2_0 : inI x2) : CallsR prog 189 [sl A0 N0 C0, vI x2, vU (byteI x3)] w0 (Q18 w0 B res) := by
 unfold M_impl_ReadTerminated at hm
 refine goF func189 z z (lb z) fun fn hr => Ws (Ra z (Ra z (Ra z (Wn (Ws (E z (ef_lit0 (α := UInt8) el_25) ?_))))))
 rintro _ w1h ⟨a1j, n1k, c1l, rfl, s18, h1v⟩
 refine Ra z (Wn (Wq (Wq ?_)))
 obtain ⟨u29, hu1w, hm1x⟩ := bdS hm
 refine WC_cut (fun a w => ∃ (x1m : Bool), x1m = u29 ∧ Sat 58 [(0, sl A0 N0 C0), (1, vI x2), (2, vU (byteI x3)), (9, sl a1j n1k c1l), (19, vB x1m)] a ∧ Below w1h.z w1h w) ?_ ?_
 ·refine Wg (Rm z (R z (lss z z) (Rm z ?_)))
  rcases bs (decide (x2 < 0)) with hc15 | hc15
  ·iterate 4 refine Nh z hc15 ?_
   exact R z (pT z hc15 z) (Wl (fun _ q => ⟨true, som (ifT hu1w hc15), (q.k (s5 z z z z z)), (br w1h)⟩))
  exact Rh z hc15 (mv z) (Rh z hc15 (mv z) (Rh z hc15 (lnR d_25 z (p1_0.ext s18)) (Rh z hc15 (rd_gtr z z) (R z (pF z hc15 z) (Wl (fun _ q => ⟨decide ((x1.length : Int) < x2), som (ifF hu1w hc15), (q.k (s5 z z z z z)), (br w1h)⟩))))))
 rintro a2a w10 ⟨x1m, rfl, hS3r, s17⟩
 revert a2a
 refine Wo (Wc z (fun hc1n => ?_) (fun hc1n => ?_))
 ·refine Ws (Rm z (Rm z (Ra z (Ra z (Ra z (Wn ?_))))))
  obtain rfl := som (ifT hm1x hc1n)
  exact Wr (ret3 hr z z z ⟨(bup s18 s17), a1j, n1k, c1l, [w0.z], z, (h1v.ext s17), p2_0, nd_one, (mem1 lr)⟩)
 refine Wk (Wq (Ws (Rm z (Ra z (Wn ?_)))))
 obtain ⟨u3s, hu2b, hm1y⟩ := bdS (ifF hm1x hc1n)
 refine WC_iter (σ := (List UInt8) × Int) (ρ := (List UInt8) × Int × Bool) (fun s a w => un2 (fun x1b x16 => ∃ a12 n13 c14 S11, Sat 58 [(0, sl A0 N0 C0), (1, vI x2), (2, vU (byteI x3)), (9, sl a12 n13 c14), (10, vI x16)] a ∧ Chg (· ∈ [w0.z]) w10 w ∧ ownS w S11 (sl a12 n13 c14) x1b ∧ S11.Nodup ∧ (∀ k ∈ S11, k ∈ [w0.z] ∨ w10.z ≤ k) ∧ inI x16) s) (fun s a w => un2 (fun x1b x16 => ∃ a12 n13 c14 S11, Sat 58 [(1, vI x2)] a ∧ Chg (· ∈ [w0.z]) w10 w ∧ ownS w S11 (sl a12 n13 c14) x1b ∧ S11.Nodup ∧ (∀ k ∈ S11, k ∈ [w0.z] ∨ w10.z ≤ k) ∧ inI x16) s) (fun r ex a w => ex = .ret ∧ RetPost prog fn (Q18 w0 B r) a w) hu2b ?_ ?_ ?_ ?_
 ·exact fun _ q => ⟨a1j, n1k, c1l, [w0.z], (q.k (s5 z z z z z)), (cr [w0.z] w10), (h1v.ext s17), nd_one, (io sr), p2_0⟩
 ·rintro ⟨x1b, x16⟩ a3t w19 o3u ⟨a12, n13, c14, S11, hS2c, s1a, h1c, h1d, h1e, h1o⟩ hm2d
  have hm1z := un2S hm2d
  refine Wu ?_ hS2c
  refine Wq (Ws (Rm z (Rm z ?_)))
  have h1f := ((p1_0.ext s18).ext s17).chg s1a (lg (mem1le hBw))
  refine R z (lnR d_25 z h1f) (R z (lss z z) (Wn (Wc z (fun hc1p => ?_) (fun hc1p => ?_))))
  ·refine Wk (Wq (WC_block (Wq (Ws (Rm z (Rm z ?_))))))
   obtain ⟨x3v, e2e, hm20⟩ := bdS (ifT hm1z hc1p)
   refine RX z (at_ (α := UInt8) d_25 z_5 z z z h1f e2e) ?_
   rintro _ ⟨b3w, o3x, cs3y, rfl, h2f, h2g, h3z⟩
   obtain rfl := UInt8_open h2g
   refine R z (l1 g_5 z fid (h2f.at0 z)) (Rm z (R z (eql z z) (Wn (Wc z (fun hc1q => ?_) (fun hc1q => ?_)))))
   ·refine Ws (Rm z (Rm z (R z (add_ z z) (Ra z (Ra z (Ra z (Wn ?_)))))))
    have h2h : ∀ k ∈ S11, w0.z ≤ k := or1 h1e (mem1 lr) (lele (lt_ s18.size s17.size))
    exact Wr (rtO (QO_retL (som (ifT hm20 hc1q)).symm (ret3 hr z z z ⟨(bM (bup s18 s17) s1a (mem1 lr)), a12, n13, c14, S11, z, h1c, (iA _ _), h1d, h2h⟩)))
   refine Wk (Wq (Ws (Rm z (Rm z ?_))))
   obtain ⟨x40, e2i, hm2j⟩ := bdS (ifF hm20 hc1q)
   refine RX z (at_ (α := UInt8) d_25 z_5 z z z h1f e2i) ?_
   rintro _ ⟨b41, o42, cs43, rfl, h2k, h2l, h44⟩
   obtain rfl := UInt8_open h2l
   refine R z (l1 g_5 z fid (h2k.at0 z)) (R z (eql z z) (Wn ?_))
   obtain ⟨u2m, hu21, hm22⟩ := bdS hm2j
   refine WC_cut (fun a w => ∃ (x1g : Int), Sum.inl x1g = u2m ∧ Sat 58 [(0, sl A0 N0 C0), (1, vI x2), (2, vU (byteI x3)), (9, sl a12 n13 c14), (10, vI x1g)] a ∧ Below w19.z w19 w ∧ inI x1g) ?_ ?_
   ·refine Wc z (fun hc1r => ?_) (fun hc1r => ?_)
    ·have hm23 := ifT hu21 hc1r
     refine Ws (Rm z (R z (add_ z z) (Ra z (Wn (Ws (Rm z (Rm z (R z (lnR d_25 z h1f) (R z (eql z z) (Wn (Wc z (fun hc1s => ?_) (fun hc1s => ?_))))))))))))
     ·obtain rfl := som (ifT hm23 hc1s)
      have hm2n := elR hm22
      have h2o : ∀ k ∈ S11, k ∈ [w0.z] ∨ w10.z ≤ k := or1 h1e (io sr) (leor lr)
      have h2p : Chg (· ∈ [w0.z]) w10 w19 := cM (cr [w0.z] w10) s1a (io sr)
      exact WC_exit (exO z (fun a' ha' => QO_brk (som hm2n).symm ⟨a12, n13, c14, S11, (Sat.weaken ha' (s1 z)), h2p, h1c, h1d, h2o, (iA _ _)⟩))
     exact WC_skip (fun _ q => ⟨iadd x16 1, som (ifF hm23 hc1s), (q.k (s5 z z z z z)), (br w19), (iA _ _)⟩)
    exact WC_skip (fun _ q => ⟨x16, som (ifF hu21 hc1r), (q.k (s5 z z z z z)), (br w19), h1o⟩)
   rintro a2q w24 ⟨x1g, rfl, hS45, s1i, h46⟩
   have hm2r := elL hm22
   revert a2q
   refine Wo (Wg (Rm z (Rm z (Rm z ?_))))
   obtain ⟨x2s, e2t, hm2u⟩ := bdS hm2r
   refine RX z (at_ (α := UInt8) d_25 z_5 z z z (h1f.ext s1i) e2t) ?_
   rintro _ ⟨b47, o48, cs49, rfl, h2v, h2w, h4a⟩
   obtain rfl := UInt8_open h2w
   refine R z (l1 g_5 z fid (h2v.at0 z)) (E z (ef_buildSlice [(.tmp 53)] el_25 z z z (szAll z) (lb z) (lb z)) ?_)
   rintro _ w25 ⟨rfl, h1t⟩
   have h1u := h1t.below
   have h2x : Blk w25 w24.z [vU (byteI x2s)] := h1t.blk
   have h4b := ownS_new1 h1t UInt8_own
   obtain ⟨x2y, e2z, hm30⟩ := bdS hm2u
   refine E z (ef_pushN (α := UInt8) el_25 e2z z z ((h1c.ext s1i).ext h1u) h1d h2x UInt8_own all_nil nd_nil) ?_
   rintro _ w31 ⟨S26, a32, n33, c34, rfl, s35, h36, h37, h38⟩
   refine Ra z (Wn (Wg (Rm z (R z (add_ z z) (Ra z (Wl ?_))))))
   have h27 : ∀ k ∈ S11, k ∈ [w0.z] ∨ w10.z ≤ k := or1 h1e (io sr) (leor lr)
   have h39 : ∀ k ∈ S26, k ∈ [w0.z] ∨ w10.z ≤ k := or2 h38 h27 all_nil (leor (lt_ (lt_ s1a.size s1i.size) h1u.size))
   have h3a : Chg (· ∈ [w0.z]) w10 w19 := cM (cr [w0.z] w10) s1a (io sr)
   have h3b : Chg (· ∈ [w0.z]) w10 w24 := cext h3a s1i
   have h3c : Chg (· ∈ [w0.z]) w10 w25 := cext h3b h1u
   have h3d : Chg (· ∈ [w0.z]) w10 w31 := cM h3c s35 h27
   exact fun _ q => ⟨(x2y, iadd x1g 1), (som hm30).symm, ⟨a32, n33, c34, S26, (q.k (s5 z z z z z)), h3d, h36, h37, h39, (iA _ _)⟩⟩
  have h3e : ∀ k ∈ S11, k ∈ [w0.z] ∨ w10.z ≤ k := or1 h1e (io sr) (leor lr)
  have h3f : Chg (· ∈ [w0.z]) w10 w19 := cM (cr [w0.z] w10) s1a (io sr)
  exact WC_exit (fun a' ha' => QO_brk (som (ifF hm1z hc1p)).symm ⟨a12, n13, c14, S11, (Sat.weaken ha' (s1 z)), h3f, h1c, h1d, h3e, h1o⟩)
 ·rintro ⟨x1b, x16⟩ a3g w3h rfl ⟨a12, n13, c14, S11, hS4c, s28, h1c, h1d, h1e, h1o⟩
  have hm3i := elL hm1y
  have hm3j := un2S hm3i
  revert a3g
  refine Wo (Ws (E z (ef_lit0 (α := UInt8) el_25) ?_))
  rintro _ w4d ⟨a3k, n3l, c3m, rfl, s3n, h3o⟩
  refine Rm z (Ra z (Ra z (Ra z (Wn ?_))))
  obtain rfl := som hm3j
  exact Wr (ret3 hr z z z ⟨(bup (bM (bup s18 s17) s28 (mem1 lr)) s3n), a3k, n3l, c3m, [w3h.z], z, h3o, p2_0, nd_one, (mem1le (lt_ (lt_ s18.size s17.size) s28.size))⟩)
 rintro r4e ex4f a4g w4h rfl ⟨rfl, hq3p⟩
 have hm3q := elR hm1y
 obtain rfl := som hm3q
 exact ⟨hq3p, z⟩
def Q25 (w0 : World) (B : Nat) (S2_1 : List Nat) (S2_2 : List Nat) (r : Val × Int × (Option (Int × Int))) (v : Value) (w' : World) : Prop := Chg (· ∈ (S2_1 ++ S2_2)) w0 w' ∧ un3 (fun r1 r2 r3 => ∃ (a1 : Option Addr) (n1 c1 : Nat) (S1 : List Nat) (a2 : Option Addr) (n2 c2 : Nat) (S2 : List Nat) (v3 : Value) (S3 : List Nat), v = .tuple #[(.agg #[vI r1.number, sl a1 n1 c1, sl a2 n2 c2]), vI r2, v3] ∧ inI r1.number ∧ ownS w' S1 (sl a1 n1 c1) r1.bytes ∧ ownS w' S2 (sl a2 n2 c2) r1.items ∧ inI r2 ∧ errR 162 w' S3 v3 r3 ∧ (∀ k ∈ S3, w0.z ≤ k) ∧ (S1 ++ S2).Nodup ∧ (∀ k ∈ (S1 ++ S2), k ∈ (S2_1 ++ S2_2) ∨ w0.z ≤ k)) r
structure S_impl_fileReader_value (f : FileReader → Int → Int → Option (Val × Int × (Option (Int × Int)))) : Prop where
  run : ∀ {B N0 C0 N3 C3 b1 o1 : Nat} {A0 A3 : Option Addr} {x1 : FileReader} {x2 : Int} {x3 : Int} {res : Val × Int × (Option (Int × Int))} {w0 : World} (hm : f x1 x2 x3 = some res) (hBw : B ≤ w0.z) (p1_0 : repS w0 B (sl A0 N0 C0) x1.d.rules) (p1_1 : repS w0 B (sl A3 N3 C3) x1.b) (hC1 : CellsAt w0 b1 o1 [sl A0 N0 C0, sl A3 N3 C3]) (hC1b : b1 < B) (p2_0 : inI x2) (p3_0 : inI x3), CallsR prog 154 [(.pointer (some ⟨b1, o1, none⟩)), vI x2, vI x3] w0 (Q24 w0 B res)
structure S_impl_fileReader_array (f : FileReader → Rule → Int → Option (Val × Int × (Option (Int × Int)))) : Prop where
  run : ∀ {B N0 C0 N3 C3 b1 o1 N2 C2 N4 C4 N1 C1 N5 C5 : Nat} {A0 A3 A2 A4 A1 A5 : Option Addr} {x1 : FileReader} {x2 : Rule} {x3 : Int} {res : Val × Int × (Option (Int × Int))} {w0 : World} (hm : f x1 x2 x3 = some res) (hBw : B ≤ w0.z) (p1_0 : repS w0 B (sl A0 N0 C0) x1.d.rules) (p1_1 : repS w0 B (sl A3 N3 C3) x1.b) (hC1 : CellsAt w0 b1 o1 [sl A0 N0 C0, sl A3 N3 C3]) (hC1b : b1 < B) (p2_0 : x2.name.b.length ≤ LEN) (p2_1 : inI x2.kind) (p2_2 : inI x2.size) (p2_4 : repS w0 B (sl A2 N2 C2) x2.bytes) (p2_5 : repS w0 B (sl A4 N4 C4) x2.names) (p2_6 : repS w0 B (sl A1 N1 C1) x2.tags) (p2_7 : repS w0 B (sl A5 N5 C5) x2.kids) (p3_0 : inI x3), CallsR prog 184 [(.pointer (some ⟨b1, o1, none⟩)), (.agg #[Str.v x2.name, vI x2.kind, vI x2.size, vB x2.little, sl A2 N2 C2, sl A4 N4 C4, sl A1 N1 C1, sl A5 N5 C5]), vI x3] w0 (Q24 w0 B res)
structure S_impl_fileReader_items (f : FileReader → Val → (List Int) → Int → Option (Val × Int × (Option (Int × Int)))) : Prop where
  run : ∀ {B N0 C0 N3 C3 b1 o1 NC CC NF CF N7 C7 : Nat} {A0 A3 AC AF A7 : Option Addr} {S2_1 S2_2 : List Nat} {x1 : FileReader} {x2 : Val} {x3 : List Int} {x4 : Int} {res : Val × Int × (Option (Int × Int))} {w0 : World} (hm : f x1 x2 x3 x4 = some res) (hBw : B ≤ w0.z) (p1_0 : repS w0 B (sl A0 N0 C0) x1.d.rules) (p1_1 : repS w0 B (sl A3 N3 C3) x1.b) (hC1 : CellsAt w0 b1 o1 [sl A0 N0 C0, sl A3 N3 C3]) (hC1b : b1 < B) (p2_0 : inI x2.number) (p2_1 : ownS w0 S2_1 (sl AC NC CC) x2.bytes) (p2_1n : S2_1.Nodup) (p2_1g : ∀ k ∈ S2_1, B ≤ k) (p2_2 : ownS w0 S2_2 (sl AF NF CF) x2.items) (p2_2n : S2_2.Nodup) (p2_2g : ∀ k ∈ S2_2, B ≤ k) (p2_2d1 : ∀ k ∈ S2_2, k ∉ S2_1) (p3_0 : repS w0 B (sl A7 N7 C7) x3) (p4_0 : inI x4), CallsR prog 185 [(.pointer (some ⟨b1, o1, none⟩)), (.agg #[vI x2.number, sl AC NC CC, sl AF NF CF]), sl A7 N7 C7, vI x4] w0 (Q25 w0 B S2_1 S2_2 res)
structure S_impl_fileReader_choice (f : FileReader → Rule → Int → Option (Val × Int × (Option (Int × Int)))) : Prop where
  run : ∀ {B N0 C0 N3 C3 b1 o1 N2 C2 N4 C4 N1 C1 N5 C5 : Nat} {A0 A3 A2 A4 A1 A5 : Option Addr} {x1 : FileReader} {x2 : Rule} {x3 : Int} {res : Val × Int × (Option (Int × Int))} {w0 : World} (hm : f x1 x2 x3 = some res) (hBw : B ≤ w0.z) (p1_0 : repS w0 B (sl A0 N0 C0) x1.d.rules) (p1_1 : repS w0 B (sl A3 N3 C3) x1.b) (hC1 : CellsAt w0 b1 o1 [sl A0 N0 C0, sl A3 N3 C3]) (hC1b : b1 < B) (p2_0 : x2.name.b.length ≤ LEN) (p2_1 : inI x2.kind) (p2_2 : inI x2.size) (p2_4 : repS w0 B (sl A2 N2 C2) x2.bytes) (p2_5 : repS w0 B (sl A4 N4 C4) x2.names) (p2_6 : repS w0 B (sl A1 N1 C1) x2.tags) (p2_7 : repS w0 B (sl A5 N5 C5) x2.kids) (p3_0 : inI x3), CallsR prog 186 [(.pointer (some ⟨b1, o1, none⟩)), (.agg #[Str.v x2.name, vI x2.kind, vI x2.size, vB x2.little, sl A2 N2 C2, sl A4 N4 C4, sl A1 N1 C1, sl A5 N5 C5]), vI x3] w0 (Q24 w0 B res)
structure S_impl_fileReader_option (f : FileReader → Rule → Int → Option (Val × Int × (Option (Int × Int)))) : Prop where
  run : ∀ {B N0 C0 N3 C3 b1 o1 N2 C2 N4 C4 N1 C1 N5 C5 : Nat} {A0 A3 A2 A4 A1 A5 : Option Addr} {x1 : FileReader} {x2 : Rule} {x3 : Int} {res : Val × Int × (Option (Int × Int))} {w0 : World} (hm : f x1 x2 x3 = some res) (hBw : B ≤ w0.z) (p1_0 : repS w0 B (sl A0 N0 C0) x1.d.rules) (p1_1 : repS w0 B (sl A3 N3 C3) x1.b) (hC1 : CellsAt w0 b1 o1 [sl A0 N0 C0, sl A3 N3 C3]) (hC1b : b1 < B) (p2_0 : x2.name.b.length ≤ LEN) (p2_1 : inI x2.kind) (p2_2 : inI x2.size) (p2_4 : repS w0 B (sl A2 N2 C2) x2.bytes) (p2_5 : repS w0 B (sl A4 N4 C4) x2.names) (p2_6 : repS w0 B (sl A1 N1 C1) x2.tags) (p2_7 : repS w0 B (sl A5 N5 C5) x2.kids) (p3_0 : inI x3), CallsR prog 187 [(.pointer (some ⟨b1, o1, none⟩)), (.agg #[Str.v x2.name, vI x2.kind, vI x2.size, vB x2.little, sl A2 N2 C2, sl A4 N4 C4, sl A1 N1 C1, sl A5 N5 C5]), vI x3] w0 (Q24 w0 B res)
structure S_impl_fileReader_checked (f : FileReader → Rule → Int → Option (Val × Int × (Option (Int × Int)))) : Prop where
  run : ∀ {B N0 C0 N3 C3 b1 o1 N2 C2 N4 C4 N1 C1 N5 C5 : Nat} {A0 A3 A2 A4 A1 A5 : Option Addr} {x1 : FileReader} {x2 : Rule} {x3 : Int} {res : Val × Int × (Option (Int × Int))} {w0 : World} (hm : f x1 x2 x3 = some res) (hBw : B ≤ w0.z) (p1_0 : repS w0 B (sl A0 N0 C0) x1.d.rules) (p1_1 : repS w0 B (sl A3 N3 C3) x1.b) (hC1 : CellsAt w0 b1 o1 [sl A0 N0 C0, sl A3 N3 C3]) (hC1b : b1 < B) (p2_0 : x2.name.b.length ≤ LEN) (p2_1 : inI x2.kind) (p2_2 : inI x2.size) (p2_4 : repS w0 B (sl A2 N2 C2) x2.bytes) (p2_5 : repS w0 B (sl A4 N4 C4) x2.names) (p2_6 : repS w0 B (sl A1 N1 C1) x2.tags) (p2_7 : repS w0 B (sl A5 N5 C5) x2.kids) (p3_0 : inI x3), CallsR prog 188 [(.pointer (some ⟨b1, o1, none⟩)), (.agg #[Str.v x2.name, vI x2.kind, vI x2.size, vB x2.little, sl A2 N2 C2, sl A4 N4 C4, sl A1 N1 C1, sl A5 N5 C5]), vI x3] w0 (Q24 w0 B res)
abbrev I_impl_fileReader_value (n : Nat) : Prop := S_impl_fileReader_value (F_impl_fileReader_value n).impl_fileReader_value ∧ S_impl_fileReader_array (F_impl_fileReader_value n).impl_fileReader_array ∧ S_impl_fileReader_items (F_impl_fileReader_value n).impl_fileReader_items ∧ S_impl_fileReader_choice (F_impl_fileReader_value n).impl_fileReader_choice ∧ S_impl_fileReader_option (F_impl_fileReader_value n).impl_fileReader_option ∧ S_impl_fileReader_checked (F_impl_fileReader_value n).impl_fileReader_checked
theorem T_w01 (ih : I_impl_fileReader_value n) : S_impl_fileReader_value (B_impl_fileReader_value n (F_impl_fileReader_value n)) := by
 obtain ⟨ih0, ih1, ih2, ih3, ih4, ih5⟩ := ih
 constructor
 intro B N0 C0 N3 C3 b1 o1 A0 A3 x1 x2 x3 res w0 hm hBw p1_0 p1_1 hC1 hC1b p2_0 p3_0
 unfold B_impl_fileReader_value at hm
 refine goF func154 z z (lb z) fun fn hr => Ws (E z (fa zero_118) ?_)
 rintro _ w3j ⟨rfl, h3k⟩
 have h12 := h3k.below
 have h13 : Blk w3j w0.z [vI 0, sl none 0 0, sl none 0 0] := h3k.blk
 refine Ra z (Ra z (Wn (Ws (Rm z (R z (rd_nil z) (R z (fd f_157_0 z) (R z (fd f_95_0 z) ?_)))))))
 have h15 := hC1.ext h12
 refine R z (l1 g_93 z fid (h15.at (j := 0) z)) (Rm z ?_)
 obtain ⟨x14, e64, hm3l⟩ := bdS hm
 have h17 := p1_0.ext h12
 refine RX z (at_ (α := Rule) d_93 z_144 z z z h17 e64) ?_
 rintro _ ⟨b10b, o10c, cs10d, rfl, h65, h66, h10e⟩
 obtain ⟨a1a, n1b, c1c, a1d, n1e, c1f, a1g, n1h, c1i, a1j, n1k, c1l, rfl, h1v, h1w, h1s, h1t, h1x, h1y, h1m⟩ := Rule_open h66
 refine R z (lN (vs := (vR x14 a1a n1b c1c a1d n1e c1f a1g n1h c1i a1j n1k c1l)) g_144 z_144 z z fid h65) (E z (fa zero_144) ?_)
 rintro _ w67 ⟨rfl, h3m⟩
 have h10 := h3m.below
 have h68 : Blk w67 w3j.z [(Str.v (⟨[]⟩ : Str)), vI 0, vI 0, vB false, sl none 0 0, sl none 0 0, sl none 0 0, sl none 0 0] := h3m.blk
 refine E0 (fs (cur' := (vR x14 a1a n1b c1c a1d n1e c1f a1g n1h c1i a1j n1k c1l)) z_144 z z h68 z (lb z) (oA z) z) ?_
 rintro _ w10f ⟨h18, s69⟩
 have h11 := s69.one
 refine Wn (Wq (Ws (R z (fd f_144_1 z) (R z (l1 g_3 z fid (h18.at z)) (Wn (WC_block (Ws (R z (eql z z) (Ra z (Wn (Wc z (fun hc2m => ?_) (fun hc2m => ?_))))))))))))
 ·refine Ws (Rm z (Rm z (Rm z ?_)))
  have h2n := mem1le (lt_ hBw h12.size)
  have h3n := lt_ (lt_ h12.size h10.size) h11.size
  obtain ⟨r3o, r10g, r10h, e6a, hm6b⟩ := bd3S (ifT hm3l hc2m)
  refine E z (fc call181 z (W_w09 (B := B) e6a (lt_ hBw h3n) ((h17.ext h10).chg h11 (lg h2n)) (((p1_1.ext h12).ext h10).chg h11 (lg h2n)) ((h15.ext h10).chg h11 ((lg h2n) _ hC1b)) hC1b p2_0 p3_0)) ?_
  rintro _ w10i ⟨s3p, v6c, S6d, rfl, h6e, h6f, h6g, h3q⟩
  refine Rm z ?_
  iterate 3 refine R z (ext_ z z) ?_
  refine Ra z (Ra z (Ra z (Wn (Ws (Rm z (R z (bP (parts := [(0, (.tmp 41))]) (cs := [vI r3o, sl none 0 0, sl none 0 0]) build_118 z z) (Rm z (Rm z (E0 (fs (cur' := [vI r3o, sl none 0 0, sl none 0 0]) z_118 z z (((h13.ext h10).chg h11 (djs (mmr h13.lt))).ext s3p) z (lb z) (oA z) z) ?_)))))))))
  rintro _ w10j ⟨h6h, s6i⟩
  have h3r := s6i.one
  refine Ra z (Ra z (Wn ?_))
  obtain rfl := som hm6b
  exact Wr (rtO (ret3 hr (resC g_118 z_118 z h6h z) z z ⟨(bM (bup (bM (bup h12 h10) h11 (mem1le h12.size)) s3p) h3r (mem1 lr)), none, 0, 0, [], none, 0, 0, [], v6c, S6d, z, h6e, onL, onL, h6f, (h6g.chg h3r (o0n1 h3q h13.lt (lt_ h10.size h11.size))), (o0le h3q h3n), nd0, al0⟩))
 have hm3s := ifF hm3l hc2m
 refine Ws (R z (eql z z) (Ra z (Wn (Wc z (fun hc2o => ?_) (fun hc2o => ?_)))))
 ·refine Ws (Rm z (R z (lN (vs := (vR x14 a1a n1b c1c a1d n1e c1f a1g n1h c1i a1j n1k c1l)) g_144 z_144 z z fid (h18.row 0 8 z)) (Rm z ?_)))
  have h1n := mem1le (lt_ hBw h12.size)
  have h3t := lt_ (lt_ h12.size h10.size) h11.size
  obtain ⟨r10k, r10l, e6j, hm6k⟩ := bd2S (ifT hm3s hc2o)
  refine E z (fc call182 z (W_w35 (B := B) e6j (lt_ hBw h3t) ((h17.ext h10).chg h11 (lg h1n)) (((p1_1.ext h12).ext h10).chg h11 (lg h1n)) ((h15.ext h10).chg h11 ((lg h1n) _ hC1b)) hC1b h1v h1w h1s ((h1t.ext h10).chg h11 (lg h1n)) ((h1x.ext h10).chg h11 (lg h1n)) ((h1y.ext h10).chg h11 (lg h1n)) ((h1m.ext h10).chg h11 (lg h1n)) p3_0)) ?_
  rintro _ w10m ⟨s3u, v6l, S6m, rfl, h6n, h6o, h3v⟩
  refine Rm z (R z (ext_ z z) (R z (ext_ z z) (Ra z (Ra z (Wn (Ws (R z (bP (parts := []) (cs := [vI 0, sl none 0 0, sl none 0 0]) build_118 z z) (Rm z (Rm z (E0 (fs (cur' := [vI 0, sl none 0 0, sl none 0 0]) z_118 z z (((h13.ext h10).chg h11 (djs (mmr h13.lt))).ext s3u) z (lb z) (oA z) z) ?_))))))))))
  rintro _ w10n ⟨h6p, s6q⟩
  have h3w := s6q.one
  refine Ra z (Ra z (Wn ?_))
  obtain rfl := som hm6k
  exact Wr (rtO (ret3 hr (resC g_118 z_118 z h6p z) z z ⟨(bM (bup (bM (bup h12 h10) h11 (mem1le h12.size)) s3u) h3w (mem1 lr)), none, 0, 0, [], none, 0, 0, [], v6l, S6m, z, (ii z), onL, onL, h6n, (h6o.chg h3w (o0n1 h3v h13.lt (lt_ h10.size h11.size))), (o0le h3v h3t), nd0, al0⟩))
 have hm3x := ifF hm3s hc2o
 refine Ws (R z (eql z z) (Ra z (Wn (Wc z (fun hc2p => ?_) (fun hc2p => ?_)))))
 ·refine Ws (Rm z (Rm z (R z (fd f_144_2 z) (R z (l1 g_3 z fid (h18.at z)) ?_))))
  have h2q := mem1le (lt_ hBw h12.size)
  have h1z := lt_ (lt_ h12.size h10.size) h11.size
  obtain ⟨r6r, r10o, r10p, e6s, hm6t⟩ := bd3S (ifT hm3x hc2p)
  refine E z (fc call183 z (W_w1a (B := B) e6s (lt_ hBw h1z) ((h17.ext h10).chg h11 (lg h2q)) (((p1_1.ext h12).ext h10).chg h11 (lg h2q)) ((h15.ext h10).chg h11 ((lg h2q) _ hC1b)) hC1b p3_0 h1s)) ?_
  rintro _ w10q ⟨s3y, a3z, n40, c41, S6u, a42, n43, c44, S6v, v6w, S6x, rfl, h6y, h6z, h70, h71, h72, h45, h2r, h20⟩
  iterate 3 refine R z (ext_ z z) ?_
  refine E0 (fs (cur' := [vI r6r.number, sl a3z n40 c41, sl a42 n43 c44]) z_118 z z (((h13.ext h10).chg h11 (djs (mmr h13.lt))).ext s3y) z (lb z) (oA z) z) ?_
  rintro _ w10r ⟨h73, s74⟩
  have h21 := s74.one
  refine Ra z (Ra z (Wn ?_))
  obtain rfl := som hm6t
  have h2s := lt_ h10.size h11.size
  exact Wr (rtO (ret3 hr (resC g_118 z_118 z h73 z) z z ⟨(bM (bup (bM (bup h12 h10) h11 (mem1le h12.size)) s3y) h21 (mem1 lr)), a3z, n40, c41, S6u, a42, n43, c44, S6v, v6w, S6x, z, h6y, (h6z.chg h21 (o0n1 (all_left h20) h13.lt h2s)), (h70.chg h21 (o0n1 (all_right h20) h13.lt h2s)), h71, (h72.chg h21 (o0n1 h45 h13.lt h2s)), (o0le h45 h1z), (nd_app (nd_left h2r) (nd_right h2r) (nd_dj h2r)), (all_app (o0le (all_left h20) h1z) (o0le (all_right h20) h1z))⟩))
 have hm46 := ifF hm3x hc2p
 refine Ws (R z (eql z z) (Ra z (Wn (Wc z (fun hc2t => ?_) (fun hc2t => ?_)))))
 ·refine Ws (Rm z (R z (fd f_144_7 z) (R z (l1 g_142 z fid (h18.at z)) ?_)))
  obtain ⟨x10s, e75, hm76⟩ := bdS (ifT hm46 hc2t)
  have h22 := mem1le (lt_ hBw h12.size)
  refine RX z (at_ (α := Int) d_142 z_3 z z z ((h1m.ext h10).chg h11 (lg h22)) e75) ?_
  rintro _ ⟨b10t, o10u, cs10v, rfl, h77, h78, h10w⟩
  obtain ⟨rfl, h79⟩ := Int_open h78
  refine R z (l1 g_3 z fid (h77.at0 z)) (Rm z ?_)
  have h47 := (h15.ext h10).chg h11 ((lg h22) _ hC1b)
  have h48 := (h17.ext h10).chg h11 (lg h22)
  have h49 := ((p1_1.ext h12).ext h10).chg h11 (lg h22)
  have h2u := lt_ (lt_ h12.size h10.size) h11.size
  obtain ⟨r10x, r10y, r10z, e7a, hm4a⟩ := bd3S hm76
  refine E z (fc call181 z (W_w09 (B := B) e7a (lt_ hBw h2u) h48 h49 h47 hC1b h79 p3_0)) ?_
  rintro _ w110 ⟨s19, v7b, S7c, rfl, h7d, h7e, h4b, h4c⟩
  refine Rm z ?_
  iterate 3 refine R z (ext_ z z) ?_
  refine Ra z (Ra z (Ra z (Wn (Wq (Ws (Rm z (R z (rd_neqEr d_159 z z h4b) (Wn (Wc z (fun hc2v => ?_) (fun hc2v => ?_))))))))))
  ·refine Ws (R z (bP (parts := []) (cs := [vI 0, sl none 0 0, sl none 0 0]) build_118 z z) (Rm z (Rm z (E0 (fs (cur' := [vI 0, sl none 0 0, sl none 0 0]) z_118 z z (((h13.ext h10).chg h11 (djs (mmr h13.lt))).ext s19) z (lb z) (oA z) z) ?_))))
   rintro _ w111 ⟨h7f, s7g⟩
   have h4d := s7g.one
   refine Ra z (Ra z (Wn ?_))
   obtain rfl := som (ifT hm4a hc2v)
   exact Wr (rtO (ret3 hr (resC g_118 z_118 z h7f z) z z ⟨(bM (bup (bM (bup h12 h10) h11 (mem1le h12.size)) s19) h4d (mem1 lr)), none, 0, 0, [], none, 0, 0, [], v7b, S7c, z, (ii z), onL, onL, p3_0, (h4b.chg h4d (o0n1 h4c h13.lt (lt_ h10.size h11.size))), (o0le h4c h2u), nd0, al0⟩))
  refine Wk (Ws (Rm z (Rm z (Rm z ?_))))
  have h23 := lt_ h2u s19.size
  obtain ⟨r7h, r112, r113, e7i, hm7j⟩ := bd3S (ifF hm4a hc2v)
  refine E z (fc call183 z (W_w1a (B := B) e7i (lt_ hBw h23) (h48.ext s19) (h49.ext s19) (h47.ext s19) hC1b h7e h7d)) ?_
  rintro _ w114 ⟨s4e, a4f, n4g, c4h, S7k, a4i, n4j, c4k, S7l, v7m, S7n, rfl, h7o, h7p, h7q, h7r, h7s, h4l, h2w, h24⟩
  iterate 3 refine R z (ext_ z z) ?_
  refine E0 (fs (cur' := [vI r7h.number, sl a4f n4g c4h, sl a4i n4j c4k]) z_118 z z ((((h13.ext h10).chg h11 (djs (mmr h13.lt))).ext s19).ext s4e) z (lb z) (oA z) z) ?_
  rintro _ w115 ⟨h7t, s7u⟩
  have h25 := s7u.one
  refine Ra z (Ra z (Wn ?_))
  obtain rfl := som hm7j
  have h2x := lt_ (lt_ h10.size h11.size) s19.size
  exact Wr (rtO (ret3 hr (resC g_118 z_118 z h7t z) z z ⟨(bM (bup (bup (bM (bup h12 h10) h11 (mem1le h12.size)) s19) s4e) h25 (mem1 lr)), a4f, n4g, c4h, S7k, a4i, n4j, c4k, S7l, v7m, S7n, z, h7o, (h7p.chg h25 (o0n1 (all_left h24) h13.lt h2x)), (h7q.chg h25 (o0n1 (all_right h24) h13.lt h2x)), h7r, (h7s.chg h25 (o0n1 h4l h13.lt h2x)), (o0le h4l h23), (nd_app (nd_left h2w) (nd_right h2w) (nd_dj h2w)), (all_app (o0le (all_left h24) h23) (o0le (all_right h24) h23))⟩))
 have hm4m := ifF hm46 hc2t
 refine Ws (R z (eql z z) (Ra z (Wn (Wc z (fun hc2y => ?_) (fun hc2y => ?_)))))
 ·refine Ws (Rm z (R z (lN (vs := (vR x14 a1a n1b c1c a1d n1e c1f a1g n1h c1i a1j n1k c1l)) g_144 z_144 z z fid (h18.row 0 8 z)) (Rm z ?_)))
  have h1o := mem1le (lt_ hBw h12.size)
  have h26 := lt_ (lt_ h12.size h10.size) h11.size
  obtain ⟨r7v, r116, r117, e7w, hm7x⟩ := bd3S (ifT hm4m hc2y)
  refine E z (fc call184 z (ih1.run (B := B) e7w (lt_ hBw h26) ((h17.ext h10).chg h11 (lg h1o)) (((p1_1.ext h12).ext h10).chg h11 (lg h1o)) ((h15.ext h10).chg h11 ((lg h1o) _ hC1b)) hC1b h1v h1w h1s ((h1t.ext h10).chg h11 (lg h1o)) ((h1x.ext h10).chg h11 (lg h1o)) ((h1y.ext h10).chg h11 (lg h1o)) ((h1m.ext h10).chg h11 (lg h1o)) p3_0)) ?_
  rintro _ w118 ⟨s4n, a4o, n4p, c4q, S7y, a4r, n4s, c4t, S7z, v80, S81, rfl, h82, h83, h84, h85, h86, h4u, h2z, h27⟩
  iterate 3 refine R z (ext_ z z) ?_
  refine E0 (fs (cur' := [vI r7v.number, sl a4o n4p c4q, sl a4r n4s c4t]) z_118 z z (((h13.ext h10).chg h11 (djs (mmr h13.lt))).ext s4n) z (lb z) (oA z) z) ?_
  rintro _ w119 ⟨h87, s88⟩
  have h28 := s88.one
  refine Ra z (Ra z (Wn ?_))
  obtain rfl := som hm7x
  have h30 := lt_ h10.size h11.size
  exact Wr (rtO (ret3 hr (resC g_118 z_118 z h87 z) z z ⟨(bM (bup (bM (bup h12 h10) h11 (mem1le h12.size)) s4n) h28 (mem1 lr)), a4o, n4p, c4q, S7y, a4r, n4s, c4t, S7z, v80, S81, z, h82, (h83.chg h28 (o0n1 (all_left h27) h13.lt h30)), (h84.chg h28 (o0n1 (all_right h27) h13.lt h30)), h85, (h86.chg h28 (o0n1 h4u h13.lt h30)), (o0le h4u h26), (nd_app (nd_left h2z) (nd_right h2z) (nd_dj h2z)), (all_app (o0le (all_left h27) h26) (o0le (all_right h27) h26))⟩))
 have hm4v := ifF hm4m hc2y
 refine Ws (R z (eql z z) (Ra z (Wn (Wc z (fun hc31 => ?_) (fun hc31 => ?_)))))
 ·refine Ws (Rm z (R z (bP (parts := []) (cs := [vI 0, sl none 0 0, sl none 0 0]) build_118 z z) (R z (fd f_144_7 z) (R z (l1 g_142 z fid (h18.at z)) (Rm z ?_)))))
  have h29 := mem1le (lt_ hBw h12.size)
  have h2a := lt_ (lt_ h12.size h10.size) h11.size
  obtain ⟨r89, r11a, r11b, e8a, hm8b⟩ := bd3S (ifT hm4v hc31)
  refine E z (fc call185 z (ih2.run (B := B) (x2 := (⟨0, ([] : List UInt8), ([] : List Val)⟩ : Val)) e8a (lt_ hBw h2a) ((h17.ext h10).chg h11 (lg h29)) (((p1_1.ext h12).ext h10).chg h11 (lg h29)) ((h15.ext h10).chg h11 ((lg h29) _ hC1b)) hC1b (ii z) onL nd_nil all_nil onL nd_nil all_nil all_nil ((h1m.ext h10).chg h11 (lg h29)) p3_0)) ?_
  rintro _ w11c ⟨s4w, a4x, n4y, c4z, S50, a51, n52, c53, S54, v8c, S8d, rfl, h8e, h8f, h8g, h8h, h8i, h55, h32, h2b⟩
  iterate 3 refine R z (ext_ z z) ?_
  refine E0 (fs (cur' := [vI r89.number, sl a4x n4y c4z, sl a51 n52 c53]) z_118 z z (((h13.ext h10).chg h11 (djs (mmr h13.lt))).chg s4w (atp (nmA (nmN _) (nmN _)))) z (lb z) (oA z) z) ?_
  rintro _ w11d ⟨h8j, s8k⟩
  have h2c := s8k.one
  refine Ra z (Ra z (Wn ?_))
  obtain rfl := som hm8b
  have h33 := lt_ h10.size h11.size
  have h8l : ∀ k ∈ S50, k ∉ [w0.z] := or1 (all_left h2b) al0 (ltnot (mem1 h13.lt) h33)
  have h8m : ∀ k ∈ S54, k ∉ [w0.z] := or1 (all_right h2b) al0 (ltnot (mem1 h13.lt) h33)
  exact Wr (rtO (ret3 hr (resC g_118 z_118 z h8j z) z z ⟨(bM (bM (bM (bup h12 h10) h11 (mem1le h12.size)) s4w al0) h2c (mem1 lr)), a4x, n4y, c4z, S50, a51, n52, c53, S54, v8c, S8d, z, h8e, (h8f.chg h2c h8l), (h8g.chg h2c h8m), h8h, (h8i.chg h2c (o0n1 h55 h13.lt h33)), (o0le h55 h2a), (nd_app (nd_left h32) (nd_right h32) (nd_dj h32)), (all_app (o1le (all_left h2b) al0 h2a) (o1le (all_right h2b) al0 h2a))⟩))
 have hm56 := ifF hm4v hc31
 refine Ws (R z (eql z z) (Ra z (Wn (Wc z (fun hc34 => ?_) (fun hc34 => ?_)))))
 ·refine Ws (Rm z (R z (lN (vs := (vR x14 a1a n1b c1c a1d n1e c1f a1g n1h c1i a1j n1k c1l)) g_144 z_144 z z fid (h18.row 0 8 z)) (Rm z ?_)))
  have h1p := mem1le (lt_ hBw h12.size)
  have h2d := lt_ (lt_ h12.size h10.size) h11.size
  obtain ⟨r8n, r11e, r11f, e8o, hm8p⟩ := bd3S (ifT hm56 hc34)
  refine E z (fc call186 z (ih3.run (B := B) e8o (lt_ hBw h2d) ((h17.ext h10).chg h11 (lg h1p)) (((p1_1.ext h12).ext h10).chg h11 (lg h1p)) ((h15.ext h10).chg h11 ((lg h1p) _ hC1b)) hC1b h1v h1w h1s ((h1t.ext h10).chg h11 (lg h1p)) ((h1x.ext h10).chg h11 (lg h1p)) ((h1y.ext h10).chg h11 (lg h1p)) ((h1m.ext h10).chg h11 (lg h1p)) p3_0)) ?_
  rintro _ w11g ⟨s57, a58, n59, c5a, S8q, a5b, n5c, c5d, S8r, v8s, S8t, rfl, h8u, h8v, h8w, h8x, h8y, h5e, h35, h2e⟩
  iterate 3 refine R z (ext_ z z) ?_
  refine E0 (fs (cur' := [vI r8n.number, sl a58 n59 c5a, sl a5b n5c c5d]) z_118 z z (((h13.ext h10).chg h11 (djs (mmr h13.lt))).ext s57) z (lb z) (oA z) z) ?_
  rintro _ w11h ⟨h8z, s90⟩
  have h2f := s90.one
  refine Ra z (Ra z (Wn ?_))
  obtain rfl := som hm8p
  have h36 := lt_ h10.size h11.size
  exact Wr (rtO (ret3 hr (resC g_118 z_118 z h8z z) z z ⟨(bM (bup (bM (bup h12 h10) h11 (mem1le h12.size)) s57) h2f (mem1 lr)), a58, n59, c5a, S8q, a5b, n5c, c5d, S8r, v8s, S8t, z, h8u, (h8v.chg h2f (o0n1 (all_left h2e) h13.lt h36)), (h8w.chg h2f (o0n1 (all_right h2e) h13.lt h36)), h8x, (h8y.chg h2f (o0n1 h5e h13.lt h36)), (o0le h5e h2d), (nd_app (nd_left h35) (nd_right h35) (nd_dj h35)), (all_app (o0le (all_left h2e) h2d) (o0le (all_right h2e) h2d))⟩))
 have hm5f := ifF hm56 hc34
 refine Ws (R z (eql z z) (Ra z (Wn (Wc z (fun hc37 => ?_) (fun hc37 => ?_)))))
 ·refine Ws (Rm z (R z (lN (vs := (vR x14 a1a n1b c1c a1d n1e c1f a1g n1h c1i a1j n1k c1l)) g_144 z_144 z z fid (h18.row 0 8 z)) (Rm z ?_)))
  have h1q := mem1le (lt_ hBw h12.size)
  have h2g := lt_ (lt_ h12.size h10.size) h11.size
  obtain ⟨r91, r11i, r11j, e92, hm93⟩ := bd3S (ifT hm5f hc37)
  refine E z (fc call187 z (ih4.run (B := B) e92 (lt_ hBw h2g) ((h17.ext h10).chg h11 (lg h1q)) (((p1_1.ext h12).ext h10).chg h11 (lg h1q)) ((h15.ext h10).chg h11 ((lg h1q) _ hC1b)) hC1b h1v h1w h1s ((h1t.ext h10).chg h11 (lg h1q)) ((h1x.ext h10).chg h11 (lg h1q)) ((h1y.ext h10).chg h11 (lg h1q)) ((h1m.ext h10).chg h11 (lg h1q)) p3_0)) ?_
  rintro _ w11k ⟨s5g, a5h, n5i, c5j, S94, a5k, n5l, c5m, S95, v96, S97, rfl, h98, h99, h9a, h9b, h9c, h5n, h38, h2h⟩
  iterate 3 refine R z (ext_ z z) ?_
  refine E0 (fs (cur' := [vI r91.number, sl a5h n5i c5j, sl a5k n5l c5m]) z_118 z z (((h13.ext h10).chg h11 (djs (mmr h13.lt))).ext s5g) z (lb z) (oA z) z) ?_
  rintro _ w11l ⟨h9d, s9e⟩
  have h2i := s9e.one
  refine Ra z (Ra z (Wn ?_))
  obtain rfl := som hm93
  have h39 := lt_ h10.size h11.size
  exact Wr (rtO (ret3 hr (resC g_118 z_118 z h9d z) z z ⟨(bM (bup (bM (bup h12 h10) h11 (mem1le h12.size)) s5g) h2i (mem1 lr)), a5h, n5i, c5j, S94, a5k, n5l, c5m, S95, v96, S97, z, h98, (h99.chg h2i (o0n1 (all_left h2h) h13.lt h39)), (h9a.chg h2i (o0n1 (all_right h2h) h13.lt h39)), h9b, (h9c.chg h2i (o0n1 h5n h13.lt h39)), (o0le h5n h2g), (nd_app (nd_left h38) (nd_right h38) (nd_dj h38)), (all_app (o0le (all_left h2h) h2g) (o0le (all_right h2h) h2g))⟩))
 have hm5o := ifF hm5f hc37
 refine Ws (R z (eql z z) (Ra z (Wn (Wc z (fun hc3a => ?_) (fun hc3a => ?_)))))
 ·refine Ws (Rm z (R z (lN (vs := (vR x14 a1a n1b c1c a1d n1e c1f a1g n1h c1i a1j n1k c1l)) g_144 z_144 z z fid (h18.row 0 8 z)) (Rm z ?_)))
  have h1r := mem1le (lt_ hBw h12.size)
  have h2j := lt_ (lt_ h12.size h10.size) h11.size
  obtain ⟨r9f, r11m, r11n, e9g, hm9h⟩ := bd3S (ifT hm5o hc3a)
  refine E z (fc call188 z (ih5.run (B := B) e9g (lt_ hBw h2j) ((h17.ext h10).chg h11 (lg h1r)) (((p1_1.ext h12).ext h10).chg h11 (lg h1r)) ((h15.ext h10).chg h11 ((lg h1r) _ hC1b)) hC1b h1v h1w h1s ((h1t.ext h10).chg h11 (lg h1r)) ((h1x.ext h10).chg h11 (lg h1r)) ((h1y.ext h10).chg h11 (lg h1r)) ((h1m.ext h10).chg h11 (lg h1r)) p3_0)) ?_
  rintro _ w11o ⟨s5p, a5q, n5r, c5s, S9i, a5t, n5u, c5v, S9j, v9k, S9l, rfl, h9m, h9n, h9o, h9p, h9q, h5w, h3b, h2k⟩
  iterate 3 refine R z (ext_ z z) ?_
  refine E0 (fs (cur' := [vI r9f.number, sl a5q n5r c5s, sl a5t n5u c5v]) z_118 z z (((h13.ext h10).chg h11 (djs (mmr h13.lt))).ext s5p) z (lb z) (oA z) z) ?_
  rintro _ w11p ⟨h9r, s9s⟩
  have h2l := s9s.one
  refine Ra z (Ra z (Wn ?_))
  obtain rfl := som hm9h
  have h3c := lt_ h10.size h11.size
  exact Wr (rtO (ret3 hr (resC g_118 z_118 z h9r z) z z ⟨(bM (bup (bM (bup h12 h10) h11 (mem1le h12.size)) s5p) h2l (mem1 lr)), a5q, n5r, c5s, S9i, a5t, n5u, c5v, S9j, v9k, S9l, z, h9m, (h9n.chg h2l (o0n1 (all_left h2k) h13.lt h3c)), (h9o.chg h2l (o0n1 (all_right h2k) h13.lt h3c)), h9p, (h9q.chg h2l (o0n1 h5w h13.lt h3c)), (o0le h5w h2j), (nd_app (nd_left h3b) (nd_right h3b) (nd_dj h3b)), (all_app (o0le (all_left h2k) h2j) (o0le (all_right h2k) h2j))⟩))
 refine Wk (Wq (WC_draw (X := noX) 0 (.rd 0 (.rd 1 (.rd 2 (.rd 3 (.rd 4 (.rd 5 (.rd 6 (.rd 7 (.rd 8 (.ef 9 (.rd 10 (.rd 11 (.rd 12 (.rd 13 (.rd 14 (.rd 15 (.rd 16 .done))))))))))))))))) mo (by kernel_rfl) fun w11q s16 _ => dR z z (mv z) (dR z z (rd_nil z) (dR z z (fd f_157_1 z) ?_))))
 have h3d := mem1le (lt_ hBw h12.size)
 refine dR z z (l1 g_25 z fid ((((h15.ext h10).chg h11 ((lg h3d) _ hC1b)).ext s16).at (j := 1) z)) (dR z z (mv z) (dR z z (fd f_144_4 z) (dR z z (l1 g_25 z fid ((h18.ext s16).at z)) ?_)))
 obtain ⟨x11r, e9t, hm9u⟩ := bdS (ifF hm5o hc3a)
 refine dRX z z (at_ (α := UInt8) d_25 z_5 z z z (((h1t.ext h10).chg h11 (lg h3d)).ext s16) e9t) ?_
 rintro _ ⟨b11s, o11t, cs11u, rfl, h9v, h9w, h11v⟩
 obtain rfl := UInt8_open h9w
 refine dR z z (l1 g_5 z fid (h9v.at0 z)) ?_
 have h3e := lt_ (lt_ (lt_ h12.size h10.size) h11.size) s16.size
 obtain ⟨r11w, r11x, r11y, e9x, hm5x⟩ := bd3S hm9u
 refine dE z z (fc call189 z (W_w36 (B := B) e9x (lt_ hBw h3e) ((((p1_1.ext h12).ext h10).chg h11 (lg h3d)).ext s16) p3_0)) (.inr fun _ _ h => chgB (h.1)) ?_
 rintro _ w11z ⟨s1u, a3f, n3g, c3h, S9y, rfl, h9z, h100, h101, h5y⟩
 refine dR z z (mv z) ?_
 iterate 3 refine dR z z (ext_ z z) ?_
 iterate 3 refine dR z z (asg z) ?_
 refine PR_done (Wo (Wq (Ws (Rm z (R z (not_ z) (Wn (Wc z (fun hc3i => ?_) (fun hc3i => ?_))))))))
 ·refine Ws (R z (bP (parts := []) (cs := [vI 0, sl none 0 0, sl none 0 0]) build_118 z z) (Rm z (Rm z ?_)))
  have h5z := lt_ h3e s1u.size
  obtain ⟨r120, e102, hm103⟩ := bdS (ifT hm5x hc3i)
  refine E z (fc call190 z (W_w06 (B := B) e102 (lt_ hBw h5z) p3_0 (ii z))) ?_
  rintro _ w121 ⟨s60, v104, S105, rfl, h106, h61⟩
  refine E0 (fs (cur' := [vI 0, sl none 0 0, sl none 0 0]) z_118 z z (((((h13.ext h10).chg h11 (djs (mmr h13.lt))).ext s16).ext s1u).ext s60) z (lb z) (oA z) z) ?_
  rintro _ w122 ⟨h107, s108⟩
  have h62 := s108.one
  refine Ra z (Ra z (Wn ?_))
  obtain rfl := som hm103
  exact Wr (ret3 hr (resC g_118 z_118 z h107 z) z z ⟨(bM (bup (bup (bup (bM (bup h12 h10) h11 (mem1le h12.size)) s16) s1u) s60) h62 (mem1 lr)), none, 0, 0, [], none, 0, 0, [], v104, S105, z, (ii z), onL, onL, p3_0, (h106.chg h62 (o0n1 h61 h13.lt (lt_ (lt_ (lt_ h10.size h11.size) s16.size) s1u.size))), (o0le h61 h5z), nd0, al0⟩)
 refine Wk (Ws (Rm z (R z (bP (parts := [(1, (.tmp 159))]) (cs := [vI 0, sl a3f n3g c3h, sl none 0 0]) build_118 z z) (Rm z (E0 (fs (cur' := [vI 0, sl a3f n3g c3h, sl none 0 0]) z_118 z z ((((h13.ext h10).chg h11 (djs (mmr h13.lt))).ext s16).ext s1u) z (lb z) (oA z) z) ?_)))))
 rintro _ w123 ⟨h109, s10a⟩
 have h63 := s10a.one
 refine Ra z (Ra z (Wn ?_))
 obtain rfl := som (ifF hm5x hc3i)
 exact Wr (ret3 hr (resC g_118 z_118 z h109 z) z z ⟨(bM (bup (bup (bM (bup h12 h10) h11 (mem1le h12.size)) s16) s1u) h63 (mem1 lr)), a3f, n3g, c3h, S9y, none, 0, 0, [], .nilIface, ([] : List Nat), z, (ii z), (h9z.chg h63 (o0n1 h5y h13.lt (lt_ (lt_ h10.size h11.size) s16.size))), onL, h100, errR_nil, all_nil, (nd_app h101 nd_nil (nmN _)), (all_app (o0le h5y h3e) all_nil)⟩)
theorem T_w1b (ih : I_impl_fileReader_value n) : S_impl_fileReader_array (B_impl_fileReader_array n (F_impl_fileReader_value n)) := by
 obtain ⟨ih0, ih1, ih2, ih3, ih4, ih5⟩ := ih
 constructor
 intro B N0 C0 N3 C3 b1 o1 N2 C2 N4 C4 N1 C1 N5 C5 A0 A3 A2 A4 A1 A5 x1 x2 x3 res w0 hm hBw p1_0 p1_1 hC1 hC1b p2_0 p2_1 p2_2 p2_4 p2_5 p2_6 p2_7 p3_0
 unfold B_impl_fileReader_array at hm
 refine goF func184 z z (lb z) fun fn hr => Ws (E z (fb z) ?_)
 rintro _ w18 ⟨rfl, h1x⟩
 have h14 := h1x.below
 have h1y : Blk w18 w0.z (vR x2 A2 N2 C2 A4 N4 C4 A1 N1 C1 A5 N5 C5) := h1x.blk
 refine E z (fa zero_118) ?_
 rintro _ w2t ⟨rfl, h1z⟩
 have h15 := h1z.below
 have h16 : Blk w2t w18.z [vI 0, sl none 0 0, sl none 0 0] := h1z.blk
 refine Ra z (Ra z (Wn (Ws (Rm z (R z (fd f_144_7 z) ?_)))))
 have h20 := h1y.ext h15
 refine R z (l1 g_142 z fid (h20.at z)) ?_
 obtain ⟨x4m, e2u, hm2v⟩ := bdS hm
 have h21 := (p2_7.ext h14).ext h15
 refine RX z (at_ (α := Int) d_142 z_3 z z z h21 e2u) ?_
 rintro _ ⟨b4n, o4o, cs4p, rfl, h2w, h2x, h4q⟩
 obtain ⟨rfl, h2y⟩ := Int_open h2x
 refine R z (l1 g_3 z fid (h2w.at0 z)) (Rm z ?_)
 have h22 := (hC1.ext h14).ext h15
 have h23 := (p1_0.ext h14).ext h15
 have h24 := (p1_1.ext h14).ext h15
 have h1f := lt_ h14.size h15.size
 obtain ⟨r4r, r1g, r4s, e2z, hm25⟩ := bd3S hm2v
 refine E z (fc call181 z (W_w09 (B := B) e2z (lt_ hBw h1f) h23 h24 h22 hC1b h2y p3_0)) ?_
 rintro _ w11 ⟨s10, v30, S31, rfl, h4t, h32, h26, h27⟩
 refine Rm z ?_
 iterate 3 refine R z (ext_ z z) ?_
 refine Ra z (Ra z (Ra z (Wn (Wq (Ws (Rm z (R z (rd_neqEr d_159 z z h26) (Wn (Wc z (fun hc1o => ?_) (fun hc1o => ?_))))))))))
 ·refine Ws (R z (bP (parts := []) (cs := [vI 0, sl none 0 0, sl none 0 0]) build_118 z z) (Rm z (Rm z (E0 (fs (cur' := [vI 0, sl none 0 0, sl none 0 0]) z_118 z z (h16.ext s10) z (lb z) (oA z) z) ?_))))
  rintro _ w4u ⟨h33, s34⟩
  have h28 := s34.one
  refine Ra z (Ra z (Wn ?_))
  obtain rfl := som (ifT hm25 hc1o)
  exact Wr (ret3 hr (resC g_118 z_118 z h33 z) z z ⟨(bM (bup (bup h14 h15) s10) h28 (mem1le h14.size)), none, 0, 0, [], none, 0, 0, [], v30, S31, z, (ii z), onL, onL, p3_0, (h26.chg h28 (o0n1 h27 h16.lt lr)), (o0le h27 h1f), nd0, al0⟩)
 have hm29 := ifF hm25 hc1o
 refine Wk (Wq (Ws (Rm z (R z (rd_gtr z z) (Wn (Wc z (fun hc1p => ?_) (fun hc1p => ?_)))))))
 ·refine Ws (R z (bP (parts := []) (cs := [vI 0, sl none 0 0, sl none 0 0]) build_118 z z) (Rm z (Rm z ?_)))
  have h2a := lt_ h1f s10.size
  obtain ⟨r4v, e35, hm36⟩ := bdS (ifT hm29 hc1p)
  refine E z (fc call190 z (W_w06 (B := B) e35 (lt_ hBw h2a) p3_0 (ii z))) ?_
  rintro _ w4w ⟨s2b, v37, S38, rfl, h39, h2c⟩
  refine E0 (fs (cur' := [vI 0, sl none 0 0, sl none 0 0]) z_118 z z ((h16.ext s10).ext s2b) z (lb z) (oA z) z) ?_
  rintro _ w4x ⟨h3a, s3b⟩
  have h2d := s3b.one
  refine Ra z (Ra z (Wn ?_))
  obtain rfl := som hm36
  exact Wr (ret3 hr (resC g_118 z_118 z h3a z) z z ⟨(bM (bup (bup (bup h14 h15) s10) s2b) h2d (mem1le h14.size)), none, 0, 0, [], none, 0, 0, [], v37, S38, z, (ii z), onL, onL, p3_0, (h39.chg h2d (o0n1 h2c h16.lt s10.size)), (o0le h2c h2a), nd0, al0⟩)
 refine Wk (Ws (Rm z ?_))
 obtain ⟨x1h, e3c, hm3d⟩ := bdS (ifF hm29 hc1p)
 refine E z (ef_makeN (α := Int) el_142 (fun _ => (Int_own (ii z))) e3c z z) ?_
 rintro _ w12 ⟨a1a, n1b, c1c, rfl, s17, h1q⟩
 refine Ra z (Wn (Wq (Ws (Rm z (R z (lnR d_142 z (ownS.rep h1q)) (Rm z (Wn ?_)))))))
 obtain ⟨u4y, hu3e, hm2e⟩ := bdS hm3d
 refine WC_forN (σ := (List Int)) (ρ := Val × Int × (Option (Int × Int))) (fun (k1r : Nat) (x1d : List Int) a w => ∃  (S13 : List Nat), Sat 59 [(0, (.pointer (some ⟨b1, o1, none⟩))), (4, pt w0.z), (6, pt w18.z), (10, vI r1g), (12, sl a1a n1b c1c), (39, vI (x1h.length : Int)), (40, (vI ((k1r : Nat) : Int)))] a ∧ Chg (· ∈ [w11.z]) w12 w ∧ ownS w S13 (sl a1a n1b c1c) x1d ∧ S13.Nodup ∧ (∀ k ∈ S13, k ∈ [w11.z] ∨ w12.z ≤ k)) (fun (x1d : List Int) a w => ∃  (S13 : List Nat), Sat 59 [(0, (.pointer (some ⟨b1, o1, none⟩))), (6, pt w18.z), (10, vI r1g), (12, sl a1a n1b c1c)] a ∧ Chg (· ∈ [w11.z]) w12 w ∧ ownS w S13 (sl a1a n1b c1c) x1d ∧ S13.Nodup ∧ (∀ k ∈ S13, k ∈ [w11.z] ∨ w12.z ≤ k)) (fun r ex a w => ex = .ret ∧ RetPost prog fn (Q24 w0 B r) a w) hu3e ?_ ?_ ?_ ?_ ?_
 ·exact fun _ q => ⟨[w11.z], (q.k (s7 z z z z z z z)), (cr [w11.z] w12), h1q, nd_one, (io sr)⟩
 ·rintro k1r x1d a4z w3f o50 hk2f ⟨S13, hS3g, s1i, h1e, h1j, h1k⟩ hm3h
  refine Wu ?_ hS3g
  refine Ws (R z (lss z z) (Wn (Wq (Wc z (fun _ => ?_) (fun hc => (nolt hk2f hc).elim)))))
  refine Wk (Wq (WC_block (Ws (Rm z (Ra z (Wn (Wg (Rm z (Rm z (R z (fd f_144_7 z) (R z (l1 g_142 z fid ((((h20.ext s10).ext s17).chg s1i (djs (mm1 h1y.lt (lt_ h15.size s10.size)))).at z)) ?_)))))))))))
  obtain ⟨x51, e3i, hm3j⟩ := bdS hm3h
  refine RX z (at_ (α := Int) d_142 z_3 z z z (((h21.ext s10).ext s17).chg s1i (lg (mem1le (lt_ hBw (lt_ h1f s10.size))))) e3i) ?_
  rintro _ ⟨b52, o53, cs54, rfl, h3k, h3l, h55⟩
  obtain ⟨rfl, h3m⟩ := Int_open h3l
  refine R z (l1 g_3 z fid (h3k.at0 z)) ?_
  obtain ⟨x3n, e2g, hm3o⟩ := bdS hm3j
  refine RX z (rd_atU (α := Int) d_142 z_3 z z h1e e2g) ?_
  rintro _ ⟨g56, h3p, rfl⟩
  refine E0 (ef_setN (α := Int) z_3 z h3p z z z e2g h1e h1j (Int_own h3m) all_nil nd_nil) ?_
  rintro _ w3q ⟨S2h, s3r, h3s, h3t, h3u⟩
  refine Wn (Wg (R z (inc_ hk2f (lt_ (ownS.len h1q) LEN_le) z z) (Rm z (Wl ?_))))
  have h2i : ∀ k ∈ S13, k ∈ [w11.z] ∨ w12.z ≤ k := or1 h1k (io sr) (leor lr)
  have h3v : ∀ k ∈ S2h, k ∈ [w11.z] ∨ w12.z ≤ k := or2 h3u h2i all_nil (leor s1i.size)
  have h3w : Chg (· ∈ [w11.z]) w12 w3f := cM (cr [w11.z] w12) s1i (io sr)
  have h3x : Chg (· ∈ [w11.z]) w12 w3q := cM h3w s3r h2i
  exact fun _ q => ⟨x3n, (som hm3o).symm, ⟨S2h, (q.k (s7 z z z z z z z)), h3x, h3s, h3t, h3v⟩⟩
 ·rintro x1d a57 w3y ⟨S13, hS3z, s40, h1e, h1j, h1k⟩
  refine Wu ?_ hS3z
  refine Ws (R z (lss z z) (Wn (Wq (Wc z (fun hc => (noltt hc).elim) (fun _ => ?_)))))
  have h41 : ∀ k ∈ S13, k ∈ [w11.z] ∨ w12.z ≤ k := or1 h1k (io sr) (leor lr)
  have h42 : Chg (· ∈ [w11.z]) w12 w3y := cM (cr [w11.z] w12) s40 (io sr)
  exact WC_exit (fun a' ha' => ⟨rfl, ⟨S13, (Sat.weaken ha' (s4 z z z z)), h42, h1e, h1j, h41⟩⟩)
 ·rintro x1d a43 w44 rfl ⟨S13, hS58, s19, h1e, h1j, h1k⟩
  have hm45 := elL hm2e
  revert a43
  refine Wo (Ws (Rm z (R z (bP (parts := []) (cs := [vI 0, sl none 0 0, sl none 0 0]) build_118 z z) (Rm z (Rm z ?_)))))
  have h1s := lt_ h1f s10.size
  have h1t := mem1le (lt_ hBw h1s)
  have h1l := lt_ (lt_ h1s s17.size) s19.size
  have h1u := lt_ hBw h1l
  obtain ⟨r46, r59, r5a, e47, hm48⟩ := bd3S hm45
  refine E z (fc call185 z (ih2.run (B := w44.z) (x2 := (⟨0, ([] : List UInt8), ([] : List Val)⟩ : Val)) e47 lr (repS.mono (((h23.ext s10).ext s17).chg s19 (lg h1t)) h1u) (repS.mono (((h24.ext s10).ext s17).chg s19 (lg h1t)) h1u) (((h22.ext s10).ext s17).chg s19 ((lg h1t) _ hC1b)) (Nat.lt_of_lt_of_le hC1b h1u) (ii z) onL nd_nil all_nil onL nd_nil all_nil all_nil (ownS.rep h1e) h32)) ?_
  rintro _ w5b ⟨s2j, a2k, n2l, c2m, S2n, a2o, n2p, c2q, S2r, v49, S4a, rfl, h4b, h4c, h4d, h4e, h4f, h2s, h1v, h1m⟩
  iterate 3 refine R z (ext_ z z) ?_
  refine E0 (fs (cur' := [vI r46.number, sl a2k n2l c2m, sl a2o n2p c2q]) z_118 z z ((((h16.ext s10).ext s17).chg s19 (djs (mm1 h16.lt s10.size))).chg s2j (atp (nmA (nmN _) (nmN _)))) z (lb z) (oA z) z) ?_
  rintro _ w5c ⟨h4g, s4h⟩
  have h1n := s4h.one
  refine Ra z (Ra z (Wn ?_))
  obtain rfl := som hm48
  have h1w := lt_ (lt_ s10.size s17.size) s19.size
  have h4i : ∀ k ∈ S2n, k ∉ [w18.z] := or1 (all_left h1m) al0 (ltnot (mem1 h16.lt) h1w)
  have h4j : ∀ k ∈ S2r, k ∉ [w18.z] := or1 (all_right h1m) al0 (ltnot (mem1 h16.lt) h1w)
  exact Wr (ret3 hr (resC g_118 z_118 z h4g z) z z ⟨(bM (bM (bM (bup (bup (bup h14 h15) s10) s17) s19 (mem1le h1s)) s2j al0) h1n (mem1le h14.size)), a2k, n2l, c2m, S2n, a2o, n2p, c2q, S2r, v49, S4a, z, h4b, (h4c.chg h1n h4i), (h4d.chg h1n h4j), h4e, (h4f.chg h1n (o0n1 h2s h16.lt h1w)), (o0le h2s h1l), (nd_app (nd_left h1v) (nd_right h1v) (nd_dj h1v)), (all_app (o1le (all_left h1m) al0 h1l) (o1le (all_right h1m) al0 h1l))⟩)
 rintro r5d ex5e a5f w5g rfl ⟨rfl, hq4k⟩
 have hm4l := elR hm2e
 obtain rfl := som hm4l
 exact ⟨hq4k, z⟩
theorem T_w1c (ih : I_impl_fileReader_value n) : S_impl_fileReader_items (B_impl_fileReader_items n (F_impl_fileReader_value n)) := by
 obtain ⟨ih0, ih1, ih2, ih3, ih4, ih5⟩ := ih
 constructor
 intro B N0 C0 N3 C3 b1 o1 NC CC NF CF N7 C7 A0 A3 AC AF A7 S2_1 S2_2 x1 x2 x3 x4 res w0 hm hBw p1_0 p1_1 hC1 hC1b p2_0 p2_1 p2_1n p2_1g p2_2 p2_2n p2_2g p2_2d1 p3_0 p4_0
 unfold B_impl_fileReader_items at hm
 refine goF func185 z z (lb z) fun fn hr => Ws (E z (fb z) ?_)
 rintro _ w1a ⟨rfl, h28⟩
 have h12 := h28.below
 have h1e : Blk w1a w0.z [vI x2.number, sl AC NC CC, sl AF NF CF] := h28.blk
 refine E z (fa zero_118) ?_
 rintro _ w10 ⟨rfl, h29⟩
 have h14 := h29.below
 have h1k : Blk w10 w1a.z [vI 0, sl none 0 0, sl none 0 0] := h29.blk
 refine Ra z (Ra z (Wn (Wq (Ws (Rm z ?_)))))
 have h2a := (p3_0.ext h12).ext h14
 refine R z (lnR d_142 z h2a) (Rm z (Wn ?_))
 obtain ⟨u56, hu30, hm2b⟩ := bdS hm
 refine WC_forN (σ := Int × (List Val)) (ρ := Val × Int × (Option (Int × Int))) (fun (k1s : Nat) s a w => un2 (fun x1b x1h => ∃ a15 n16 c17 S11, Sat 45 [(0, (.pointer (some ⟨b1, o1, none⟩))), (3, vI x1b), (5, pt w0.z), (8, pt w1a.z), (16, sl A7 N7 C7), (17, vI (x3.length : Int)), (18, (vI ((k1s : Nat) : Int)))] a ∧ Chg (· ∈ (S2_2 ++ [w0.z])) w10 w ∧ inI x1b ∧ ownS w S11 (sl a15 n16 c17) x1h ∧ S11.Nodup ∧ (∀ k ∈ S11, k ∈ S2_2 ∨ w10.z ≤ k) ∧ Blk w w0.z [vI x2.number, sl AC NC CC, sl a15 n16 c17]) s) (fun s a w => un2 (fun x1b x1h => ∃ a15 n16 c17 S11, Sat 45 [(3, vI x1b), (5, pt w0.z), (8, pt w1a.z)] a ∧ Chg (· ∈ (S2_2 ++ [w0.z])) w10 w ∧ inI x1b ∧ ownS w S11 (sl a15 n16 c17) x1h ∧ S11.Nodup ∧ (∀ k ∈ S11, k ∈ S2_2 ∨ w10.z ≤ k) ∧ Blk w w0.z [vI x2.number, sl AC NC CC, sl a15 n16 c17]) s) (fun r ex a w => ex = .ret ∧ RetPost prog fn (Q25 w0 B S2_1 S2_2 r) a w) hu30 ?_ ?_ ?_ ?_ ?_
 ·exact fun _ q => ⟨AF, NF, CF, S2_2, (q.k (s7 z z z z z z z)), (cr (S2_2 ++ [w0.z]) w10), p4_0, ((p2_2.ext h12).ext h14), p2_2n, (io sr), (h1e.ext h14)⟩
 ·rintro k1s ⟨x1b, x1h⟩ a57 w2c o58 hk2d ⟨a15, n16, c17, S11, hS31, s13, h1i, h1f, h1l, h1d, h1m⟩ hm32
  have hm33 := un2S hm32
  refine Wu ?_ hS31
  refine Ws (R z (lss z z) (Wn (Wq (Wc z (fun _ => ?_) (fun hc => (nolt hk2d hc).elim)))))
  refine Wk (Wq (WC_block (Ws ?_)))
  obtain ⟨x59, e34, hm35⟩ := bdS hm33
  have h1o := mem1le hBw
  refine RX z (at_ (α := Int) d_142 z_3 z z z (h2a.chg s13 (nmA (lg p2_2g) (lg h1o))) e34) ?_
  rintro _ ⟨b5a, o5b, cs5c, rfl, h36, h37, h5d⟩
  obtain ⟨rfl, h38⟩ := Int_open h37
  refine R z (l1 g_3 z fid (h36.at0 z)) (Ra z (Wn (Ws (Rm z (Rm z (Rm z ?_))))))
  have h1t := lt_ (lt_ h12.size h14.size) s13.size
  obtain ⟨r1p, r39, r5e, e3a, hm2e⟩ := bd3S hm35
  refine E z (fc call154 z (ih0.run (B := B) e3a (lt_ hBw h1t) (((p1_0.ext h12).ext h14).chg s13 (nmA (lg p2_2g) (lg h1o))) (((p1_1.ext h12).ext h14).chg s13 (nmA (lg p2_2g) (lg h1o))) (((hC1.ext h12).ext h14).chg s13 ((nmA (lg p2_2g) (lg h1o)) _ hC1b)) hC1b h38 h1i)) ?_
  rintro _ w1n ⟨s1c, a1u, n1v, c1w, S2f, a1x, n1y, c1z, S2g, v3b, S3c, rfl, h3d, h1q, h1r, h3e, h2h, h2i, h20, h1j⟩
  refine Rm z ?_
  iterate 3 refine R z (ext_ z z) ?_
  refine E z (fa zero_118) ?_
  rintro _ w21 ⟨rfl, h2j⟩
  have h18 := h2j.below
  have h3f : Blk w21 w1n.z [vI 0, sl none 0 0, sl none 0 0] := h2j.blk
  refine E0 (fs (cur' := [vI r1p.number, sl a1u n1v c1w, sl a1x n1y c1z]) z_118 z z h3f z (lb z) (oA z) z) ?_
  rintro _ w22 ⟨h3g, s3h⟩
  have h19 := s3h.one
  refine Ra z (Ra z (Wn (Wq (Ws (Rm z ?_)))))
  have h2k := (h2h.ext h18).chg h19 (dj_symm (mnr (errR.lt h2h)))
  refine R z (rd_neqEr d_159 z z h2k) (Wn (Wc z (fun hc23 => ?_) (fun hc23 => ?_)))
  ·refine Ws (R z (bP (parts := []) (cs := [vI 0, sl none 0 0, sl none 0 0]) build_118 z z) (Rm z (Rm z ?_)))
   have h3i := (((h1k.chg s13 (atp (nmA (mno (ownS.lt p2_2) h12.size) (mmr h1e.lt)))).ext s1c).ext h18).chg h19 (djs (mm1 h1k.lt (lt_ s13.size s1c.size)))
   refine E0 (fs (cur' := [vI 0, sl none 0 0, sl none 0 0]) z_118 z z h3i z (lb z) (oA z) z) ?_
   rintro _ w3j ⟨h3k, s3l⟩
   have h2l := s3l.one
   refine Ra z (Ra z (Wn ?_))
   have h3m : Chg (· ∈ (S2_1 ++ S2_2)) w0 w1a := cext (cr (S2_1 ++ S2_2) w0) h12
   have h3n : Chg (· ∈ (S2_1 ++ S2_2)) w0 w10 := cext h3m h14
   have h3o : ∀ k ∈ [w0.z], k ∈ (S2_1 ++ S2_2) ∨ w0.z ≤ k := mor lr
   have h3p : Chg (· ∈ (S2_1 ++ S2_2)) w0 w2c := cM h3n s13 (all_app (io (sub_r sr)) h3o)
   have h3q : Chg (· ∈ (S2_1 ++ S2_2)) w0 w1n := cext h3p s1c
   have h3r : Chg (· ∈ (S2_1 ++ S2_2)) w0 w21 := cext h3q h18
   have h3s : ∀ k ∈ [w1n.z], k ∈ (S2_1 ++ S2_2) ∨ w0.z ≤ k := mor (lt_ h1t s1c.size)
   have h3t : Chg (· ∈ (S2_1 ++ S2_2)) w0 w22 := cM h3r h19 h3s
   have h3u : ∀ k ∈ [w1a.z], k ∈ (S2_1 ++ S2_2) ∨ w0.z ≤ k := mor h12.size
   have h3v : Chg (· ∈ (S2_1 ++ S2_2)) w0 w3j := cM h3t h2l h3u
   exact Wr (rtO (QO_retL (som (ifT hm2e hc23)).symm (ret3 hr (resC g_118 z_118 z h3k z) z z ⟨h3v, none, 0, 0, [], none, 0, 0, [], v3b, S3c, z, (ii z), onL, onL, h1i, (h2k.chg h2l (o0n1 h2i h1k.lt s13.size)), (o0le h2i h1t), nd0, al0⟩)))
  refine Wk (Ws (R z (fd f_118_2 z) ?_))
  have h24 := lt_ h14.size s13.size
  have h2m := lt_ h24 s1c.size
  have h2n := ((h1m.ext s1c).ext h18).chg h19 (djs (mm1 h1e.lt h2m))
  refine R z (l1 g_116 z fid (h2n.at z)) (R z (lN (vs := [vI r1p.number, sl a1u n1v c1w, sl a1x n1y c1z]) g_118 z_118 z z fid (h3g.row 0 3 z)) (E z (ef_buildSlice [(.tmp 37)] el_116 z z z (szAll z) (lb z) (lb z)) ?_))
  rintro _ w2o ⟨rfl, h2p⟩
  have h1g := h2p.below
  have h3w : Blk w2o w22.z [vI r1p.number, sl a1u n1v c1w, sl a1x n1y c1z] := h2p.blk
  have h5f := (h1q.ext h18).chg h19 (dj_symm (mnr (ownS.lt h1q)))
  have h5g := (h1r.ext h18).chg h19 (dj_symm (mnr (ownS.lt h1r)))
  obtain ⟨x3x, e3y, hm3z⟩ := bdS (ifF hm2e hc23)
  refine E z (ef_pushN (α := Val) el_116 e3y z z ((((h1f.ext s1c).ext h18).chg h19 (dj_symm (mno (ownS.lt h1f) s1c.size))).ext h1g) h1l h3w (Val_mkO (x := r1p) (S1 := S2f) (S2 := S2g) h3d (((h1q.ext h18).chg h19 (dj_symm (mnr (ownS.lt h1q)))).ext h1g) (((h1r.ext h18).chg h19 (dj_symm (mnr (ownS.lt h1r)))).ext h1g)) (all_app (o0no (all_left h1j) (ownS.lt h1f) lr) (o0no (all_right h1j) (ownS.lt h1f) lr)) (nd_app (nd_left h20) (nd_right h20) (nd_dj h20))) ?_
  rintro _ w40 ⟨S25, a2q, n2r, c2s, rfl, s2t, h41, h42, h2u⟩
  refine R z (fd f_118_2 z) ?_
  have h2v : ∀ k ∈ S11, k ∉ [w0.z] := or1 h1d (dj_symm (mnr (ownS.lt p2_2))) (ltnot (mem1 h1e.lt) h14.size)
  refine E0 (fs (cur' := [vI x2.number, sl AC NC CC, sl a2q n2r c2s]) z_116 z z ((h2n.ext h1g).chg s2t (djs h2v)) z (lb z) (oA z) z) ?_
  rintro _ w43 ⟨h44, s45⟩
  have h2w := s45.one
  refine Wn (Wg (Rm z (Ra z (Wn (Wg (R z (inc_ hk2d (lt_ (repS.len p3_0) LEN_le) z z) (Rm z (Wl ?_))))))))
  have h46 : ∀ k ∈ S25, k ∉ [w0.z] := or2 h2u h2v (all_app (o0n1 (all_left h1j) h1e.lt h24) (o0n1 (all_right h1j) h1e.lt h24)) (ltnot (mem1 h1e.lt) (lt_ (lt_ (lt_ h2m h18.size) h19.size) h1g.size))
  have h2x := lt_ s13.size s1c.size
  have h47 : ∀ k ∈ S11, k ∈ S2_2 ∨ w10.z ≤ k := or1 h1d (io sr) (leor lr)
  have h48 : ∀ k ∈ S2f, k ∈ S2_2 ∨ w10.z ≤ k := or0 (all_left h1j)  (leor s13.size)
  have h49 : ∀ k ∈ S2g, k ∈ S2_2 ∨ w10.z ≤ k := or0 (all_right h1j)  (leor s13.size)
  have h4a : ∀ k ∈ S25, k ∈ S2_2 ∨ w10.z ≤ k := or2 h2u h47 (all_app h48 h49) (leor (lt_ (lt_ (lt_ h2x h18.size) h19.size) h1g.size))
  have h4b : Chg (· ∈ (S2_2 ++ [w0.z])) w10 w2c := cM (cr (S2_2 ++ [w0.z]) w10) s13 (all_app (io (sub_l sr)) (io (sub_r sr)))
  have h4c : Chg (· ∈ (S2_2 ++ [w0.z])) w10 w1n := cext h4b s1c
  have h4d : Chg (· ∈ (S2_2 ++ [w0.z])) w10 w21 := cext h4c h18
  have h4e : ∀ k ∈ [w1n.z], k ∈ (S2_2 ++ [w0.z]) ∨ w10.z ≤ k := mor h2x
  have h4f : Chg (· ∈ (S2_2 ++ [w0.z])) w10 w22 := cM h4d h19 h4e
  have h4g : Chg (· ∈ (S2_2 ++ [w0.z])) w10 w2o := cext h4f h1g
  have h4h : ∀ k ∈ S11, k ∈ (S2_2 ++ [w0.z]) ∨ w10.z ≤ k := or1 h1d (io (sub_l sr)) (leor lr)
  have h4i : Chg (· ∈ (S2_2 ++ [w0.z])) w10 w40 := cM h4g s2t h4h
  have h4j : Chg (· ∈ (S2_2 ++ [w0.z])) w10 w43 := cM h4i h2w (io (sub_r sr))
  exact fun _ q => ⟨(r39, x3x), (som hm3z).symm, ⟨a2q, n2r, c2s, S25, (q.k (s7 z z z z z z z)), h4j, h3e, (h41.chg h2w h46), h42, h4a, h44⟩⟩
 ·rintro ⟨x1b, x1h⟩ a5h w4k ⟨a15, n16, c17, S11, hS4l, s4m, h1i, h1f, h1l, h1d, h1m⟩
  refine Wu ?_ hS4l
  refine Ws (R z (lss z z) (Wn (Wq (Wc z (fun hc => (noltt hc).elim) (fun _ => ?_)))))
  have h4n : ∀ k ∈ S11, k ∈ S2_2 ∨ w10.z ≤ k := or1 h1d (io sr) (leor lr)
  have h4o : Chg (· ∈ (S2_2 ++ [w0.z])) w10 w4k := cM (cr (S2_2 ++ [w0.z]) w10) s4m (all_app (io (sub_l sr)) (io (sub_r sr)))
  exact WC_exit (fun a' ha' => ⟨rfl, ⟨a15, n16, c17, S11, (Sat.weaken ha' (s3 z z z)), h4o, h1i, h1f, h1l, h4n, h1m⟩⟩)
 ·rintro ⟨x1b, x1h⟩ a4p w4q rfl ⟨a15, n16, c17, S11, hS5i, s26, h1i, h1f, h1l, h1d, h1m⟩
  have hm4r := elL hm2b
  have hm4s := un2S hm4r
  revert a4p
  refine Wo (Ws (R z (lN (vs := [vI x2.number, sl AC NC CC, sl a15 n16 c17]) g_118 z_118 z z fid (h1m.row 0 3 z)) (Rm z ?_)))
  have h2y := mno (ownS.lt p2_2) h12.size
  refine E0 (fs (cur' := [vI x2.number, sl AC NC CC, sl a15 n16 c17]) z_118 z z (h1k.chg s26 (atp (nmA h2y (mmr h1e.lt)))) z (lb z) (oA z) z) ?_
  rintro _ w4t ⟨h4u, s4v⟩
  have h27 := s4v.one
  refine Ra z (Ra z (Wn ?_))
  obtain rfl := som hm4s
  have h4w : ∀ k ∈ S11, k ∉ [w1a.z] := or1 h1d (dj_symm h2y) (ltnot (mem1 h1k.lt) lr)
  have h4x : Chg (· ∈ (S2_1 ++ S2_2)) w0 w1a := cext (cr (S2_1 ++ S2_2) w0) h12
  have h4y : Chg (· ∈ (S2_1 ++ S2_2)) w0 w10 := cext h4x h14
  have h4z : ∀ k ∈ [w0.z], k ∈ (S2_1 ++ S2_2) ∨ w0.z ≤ k := mor lr
  have h50 : Chg (· ∈ (S2_1 ++ S2_2)) w0 w4q := cM h4y s26 (all_app (io (sub_r sr)) h4z)
  have h51 : ∀ k ∈ [w1a.z], k ∈ (S2_1 ++ S2_2) ∨ w0.z ≤ k := mor h12.size
  have h52 : Chg (· ∈ (S2_1 ++ S2_2)) w0 w4t := cM h50 h27 h51
  have h2z := lt_ h12.size h14.size
  have h53 : ∀ k ∈ S11, k ∈ (S2_1 ++ S2_2) ∨ w0.z ≤ k := or1 h1d (io (sub_r sr)) (leor h2z)
  exact Wr (ret3 hr (resC g_118 z_118 z h4u z) z z ⟨h52, AC, NC, CC, S2_1, a15, n16, c17, S11, .nilIface, ([] : List Nat), z, p2_0, ((((p2_1.ext h12).ext h14).chg s26 (nmA (dj_symm p2_2d1) (dj_symm (mnr (ownS.lt p2_1))))).chg h27 (dj_symm (mno (ownS.lt p2_1) h12.size))), (h1f.chg h27 h4w), h1i, errR_nil, all_nil, (nd_app p2_1n h1l (dj_symm (o1no h1d p2_2d1 (ownS.lt p2_1) h2z))), (all_app (io (sub_l sr)) h53)⟩)
 rintro r5j ex5k a5l w5m rfl ⟨rfl, hq54⟩
 have hm55 := elR hm2b
 obtain rfl := som hm55
 exact ⟨hq54, z⟩
end Go.Vw

