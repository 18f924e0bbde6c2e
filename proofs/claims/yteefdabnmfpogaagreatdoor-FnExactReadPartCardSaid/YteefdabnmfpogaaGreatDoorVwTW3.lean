import Derived.Test.YteefdabnmfpogaaGreatDoorVwTW2
set_option linter.unusedVariables false
namespace Go.Vw
open Go.RowKit Dat Go.Proofs
open Go.Proofs.Tryz
open Go.Vw renaming WC_seq → Wq, WC_region → Wg, WC.of_KC → Wo, WL_nil → Wl, WC_cond → Wc, WC_ret → Wr, WC_run → Wu, rd_pickT → pT, rd_pickF → pF, rd_field → fd, rd_load1 → l1, rd_loadN → lN, rd_move → mv, rd_assign → asg, rd_lenR → lnR, rd_lss → lss, rd_eql → eql, rd_extract → ext_, rd_buildP → bP, rd_add → add_, rd_inc → inc_, rd_not → not_, rd_at → at_, ef_call → fc, ef_store → fs, ef_box → fb, ef_alloc → fa, sub_refl → sr, crefl → cr, cchgM → cM, bchgM → bM, inI_sub → iS, inI_add → iA, brefl → br, oneAll → oA, bsplit → bs, ltge → lg, inor → io, rd_neq → nq, rd_lenT → lnT, rd_sub → sb_
variable {pa1_0 : Option Addr} {pn1_0 pc1_0 : Nat} {B : Nat} {w0 : World} {pa1_4 : Option Addr} {pa1_5 : Option Addr} {pa1_6 : Option Addr} {pa1_7 : Option Addr} {pn1_4 pc1_4 : Nat} {pn1_5 pc1_5 : Nat} {pn1_6 pc1_6 : Nat} {pn1_7 pc1_7 : Nat} {n : Nat} {pa2_4 : Option Addr} {pa2_5 : Option Addr} {pa2_6 : Option Addr} {pa2_7 : Option Addr} {pn2_4 pc2_4 : Nat} {pn2_5 pc2_5 : Nat} {pn2_6 pc2_6 : Nat} {pn2_7 pc2_7 : Nat} {pa3_0 : Option Addr} {pn3_0 pc3_0 : Nat} {pa2_0 : Option Addr} {pn2_0 pc2_0 : Nat} {pa1_1 : Option Addr} {pn1_1 pc1_1 : Nat} {pa1_2 : Option Addr} {pn1_2 pc1_2 : Nat}
theorem T_impl_fileReader_value (ih : I_impl_fileReader_value n) : S_impl_fileReader_value (B_impl_fileReader_value n (F_impl_fileReader_value n)) := by
 obtain ⟨ih0, ih1, ih2, ih3, ih4, ih5⟩ := ih
 constructor
 intro B pn1_0 pc1_0 pn1_1 pc1_1 b1 o1 pa1_0 pa1_1 x1 x2 x3 res w0 hm hBw p1_0 p1_1 hC1 hC1b p2_0 p3_0
 unfold B_impl_fileReader_value at hm
 refine goF func77 z z (lb z) fun fn hr => Ws (E z (fa zero_41) ?_)
 rintro _ w3j ⟨rfl, h3k⟩
 have h12 := h3k.below
 have h13 : Blk w3j w0.heap.size [(vI 0), (sl none 0 0), (sl none 0 0)] := h3k.blk
 refine Ra z (Ra z (Wn (Ws (Rm z (R z (rd_nil z) (R z (fd f_114_0 z) (R z (fd f_31_0 z) ?_)))))))
 have h15 := hC1.ext h12
 refine R z (l1 g_29 z fid (h15.at (j := 0) z)) (Rm z ?_)
 obtain ⟨x14, e64, hm3l⟩ := bdS hm
 have h17 := p1_0.ext h12
 refine RX z (at_ (α := Rule) d_29 z_74 z z z h17 e64) ?_
 rintro _ ⟨b10b, o10c, cs10d, rfl, h65, h66, h10e⟩
 obtain ⟨a1a, n1b, c1c, a1d, n1e, c1f, a1g, n1h, c1i, a1j, n1k, c1l, rfl, h1v, h1w, h1s, h1t, h1x, h1y, h1m⟩ := Rule_open h66
 refine R z (lN (vs := (vR x14 a1a n1b c1c a1d n1e c1f a1g n1h c1i a1j n1k c1l)) g_74 z_74 z z fid h65) (E z (fa zero_74) ?_)
 rintro _ w67 ⟨rfl, h3m⟩
 have h10 := h3m.below
 have h68 : Blk w67 w3j.heap.size [(Str.v (⟨[]⟩ : Str)), (vI 0), (vI 0), (vB false), (sl none 0 0), (sl none 0 0), (sl none 0 0), (sl none 0 0)] := h3m.blk
 refine E0 (fs (cur' := (vR x14 a1a n1b c1c a1d n1e c1f a1g n1h c1i a1j n1k c1l)) z_74 z z h68 z (lb z) (oA z) z) ?_
 rintro _ w10f ⟨h18, s69⟩
 have h11 := s69.one
 refine Wn (Wq (Ws (R z (fd f_74_1 z) (R z (l1 g_3 z fid (h18.at z)) (Wn (WC_block (Ws (R z (eql z z) (Ra z (Wn (Wc z (fun hc2m => ?_) (fun hc2m => ?_))))))))))))
 ·refine Ws (Rm z (Rm z (Rm z ?_)))
  have h2n := mem1le (lt_ hBw h12.size)
  have h3n := lt_ (lt_ h12.size h10.size) h11.size
  obtain ⟨r3o, r10g, r10h, e6a, hm6b⟩ := bd3S (ifT hm3l hc2m)
  refine E z (fc call107 z (W_impl_fileReader_integer (B := B) e6a (lt_ hBw h3n) ((h17.ext h10).chg h11 (lg h2n)) (((p1_1.ext h12).ext h10).chg h11 (lg h2n)) ((h15.ext h10).chg h11 ((lg h2n) _ hC1b)) hC1b p2_0 p3_0)) ?_
  rintro _ w10i ⟨s3p, v6c, S6d, rfl, h6e, h6f, h6g, h3q⟩
  refine Rm z ?_
  iterate 3 refine R z (ext_ z z) ?_
  refine Ra z (Ra z (Ra z (Wn (Ws (Rm z (R z (bP (parts := [(0, (.tmp 41))]) (cs := [(vI r3o), (sl none 0 0), (sl none 0 0)]) build_41 z z) (Rm z (Rm z (E0 (fs (cur' := [(vI r3o), (sl none 0 0), (sl none 0 0)]) z_41 z z (((h13.ext h10).chg h11 (djs (mmr h13.lt))).ext s3p) z (lb z) (oA z) z) ?_)))))))))
  rintro _ w10j ⟨h6h, s6i⟩
  have h3r := s6i.one
  refine Ra z (Ra z (Wn ?_))
  obtain rfl := som hm6b
  exact Wr (rtO (ret3 hr (resC g_41 z_41 z h6h z) z z ⟨(bM (bup (bM (bup h12 h10) h11 (mem1le h12.size)) s3p) h3r (mem1 lr)), none, 0, 0, [], none, 0, 0, [], v6c, S6d, z, h6e, onL, onL, h6f, (h6g.chg h3r (o0n1 h3q h13.lt (lt_ h10.size h11.size))), (o0le h3q h3n), nd0, al0⟩))
 have hm3s := ifF hm3l hc2m
 refine Ws (R z (eql z z) (Ra z (Wn (Wc z (fun hc2o => ?_) (fun hc2o => ?_)))))
 ·refine Ws (Rm z (R z (lN (vs := (vR x14 a1a n1b c1c a1d n1e c1f a1g n1h c1i a1j n1k c1l)) g_74 z_74 z z fid (h18.row 0 8 z)) (Rm z ?_)))
  have h1n := mem1le (lt_ hBw h12.size)
  have h3t := lt_ (lt_ h12.size h10.size) h11.size
  obtain ⟨r10k, r10l, e6j, hm6k⟩ := bd2S (ifT hm3s hc2o)
  refine E z (fc call108 z (W_impl_fileReader_constant (B := B) e6j (lt_ hBw h3t) ((h17.ext h10).chg h11 (lg h1n)) (((p1_1.ext h12).ext h10).chg h11 (lg h1n)) ((h15.ext h10).chg h11 ((lg h1n) _ hC1b)) hC1b h1v h1w h1s ((h1t.ext h10).chg h11 (lg h1n)) ((h1x.ext h10).chg h11 (lg h1n)) ((h1y.ext h10).chg h11 (lg h1n)) ((h1m.ext h10).chg h11 (lg h1n)) p3_0)) ?_
  rintro _ w10m ⟨s3u, v6l, S6m, rfl, h6n, h6o, h3v⟩
  refine Rm z (R z (ext_ z z) (R z (ext_ z z) (Ra z (Ra z (Wn (Ws (R z (bP (parts := []) (cs := [(vI 0), (sl none 0 0), (sl none 0 0)]) build_41 z z) (Rm z (Rm z (E0 (fs (cur' := [(vI 0), (sl none 0 0), (sl none 0 0)]) z_41 z z (((h13.ext h10).chg h11 (djs (mmr h13.lt))).ext s3u) z (lb z) (oA z) z) ?_))))))))))
  rintro _ w10n ⟨h6p, s6q⟩
  have h3w := s6q.one
  refine Ra z (Ra z (Wn ?_))
  obtain rfl := som hm6k
  exact Wr (rtO (ret3 hr (resC g_41 z_41 z h6p z) z z ⟨(bM (bup (bM (bup h12 h10) h11 (mem1le h12.size)) s3u) h3w (mem1 lr)), none, 0, 0, [], none, 0, 0, [], v6l, S6m, z, (ii z), onL, onL, h6n, (h6o.chg h3w (o0n1 h3v h13.lt (lt_ h10.size h11.size))), (o0le h3v h3t), nd0, al0⟩))
 have hm3x := ifF hm3s hc2o
 refine Ws (R z (eql z z) (Ra z (Wn (Wc z (fun hc2p => ?_) (fun hc2p => ?_)))))
 ·refine Ws (Rm z (Rm z (R z (fd f_74_2 z) (R z (l1 g_3 z fid (h18.at z)) ?_))))
  have h2q := mem1le (lt_ hBw h12.size)
  have h1z := lt_ (lt_ h12.size h10.size) h11.size
  obtain ⟨r6r, r10o, r10p, e6s, hm6t⟩ := bd3S (ifT hm3x hc2p)
  refine E z (fc call109 z (W_impl_fileReader_content (B := B) e6s (lt_ hBw h1z) ((h17.ext h10).chg h11 (lg h2q)) (((p1_1.ext h12).ext h10).chg h11 (lg h2q)) ((h15.ext h10).chg h11 ((lg h2q) _ hC1b)) hC1b p3_0 h1s)) ?_
  rintro _ w10q ⟨s3y, a3z, n40, c41, S6u, a42, n43, c44, S6v, v6w, S6x, rfl, h6y, h6z, h70, h71, h72, h45, h2r, h20⟩
  iterate 3 refine R z (ext_ z z) ?_
  refine E0 (fs (cur' := [(vI r6r.number), (sl a3z n40 c41), (sl a42 n43 c44)]) z_41 z z (((h13.ext h10).chg h11 (djs (mmr h13.lt))).ext s3y) z (lb z) (oA z) z) ?_
  rintro _ w10r ⟨h73, s74⟩
  have h21 := s74.one
  refine Ra z (Ra z (Wn ?_))
  obtain rfl := som hm6t
  have h2s := lt_ h10.size h11.size
  exact Wr (rtO (ret3 hr (resC g_41 z_41 z h73 z) z z ⟨(bM (bup (bM (bup h12 h10) h11 (mem1le h12.size)) s3y) h21 (mem1 lr)), a3z, n40, c41, S6u, a42, n43, c44, S6v, v6w, S6x, z, h6y, (h6z.chg h21 (o0n1 (all_left h20) h13.lt h2s)), (h70.chg h21 (o0n1 (all_right h20) h13.lt h2s)), h71, (h72.chg h21 (o0n1 h45 h13.lt h2s)), (o0le h45 h1z), (nd_app (nd_left h2r) (nd_right h2r) (nd_dj h2r)), (all_app (o0le (all_left h20) h1z) (o0le (all_right h20) h1z))⟩))
 have hm46 := ifF hm3x hc2p
 refine Ws (R z (eql z z) (Ra z (Wn (Wc z (fun hc2t => ?_) (fun hc2t => ?_)))))
 ·refine Ws (Rm z (R z (fd f_74_7 z) (R z (l1 g_72 z fid (h18.at z)) ?_)))
  obtain ⟨x10s, e75, hm76⟩ := bdS (ifT hm46 hc2t)
  have h22 := mem1le (lt_ hBw h12.size)
  refine RX z (at_ (α := Int) d_72 z_3 z z z ((h1m.ext h10).chg h11 (lg h22)) e75) ?_
  rintro _ ⟨b10t, o10u, cs10v, rfl, h77, h78, h10w⟩
  obtain ⟨rfl, h79⟩ := Int_open h78
  refine R z (l1 g_3 z fid (h77.at0 z)) (Rm z ?_)
  have h47 := (h15.ext h10).chg h11 ((lg h22) _ hC1b)
  have h48 := (h17.ext h10).chg h11 (lg h22)
  have h49 := ((p1_1.ext h12).ext h10).chg h11 (lg h22)
  have h2u := lt_ (lt_ h12.size h10.size) h11.size
  obtain ⟨r10x, r10y, r10z, e7a, hm4a⟩ := bd3S hm76
  refine E z (fc call107 z (W_impl_fileReader_integer (B := B) e7a (lt_ hBw h2u) h48 h49 h47 hC1b h79 p3_0)) ?_
  rintro _ w110 ⟨s19, v7b, S7c, rfl, h7d, h7e, h4b, h4c⟩
  refine Rm z ?_
  iterate 3 refine R z (ext_ z z) ?_
  refine Ra z (Ra z (Ra z (Wn (Wq (Ws (Rm z (R z (rd_neqEr d_116 z z h4b) (Wn (Wc z (fun hc2v => ?_) (fun hc2v => ?_))))))))))
  ·refine Ws (R z (bP (parts := []) (cs := [(vI 0), (sl none 0 0), (sl none 0 0)]) build_41 z z) (Rm z (Rm z (E0 (fs (cur' := [(vI 0), (sl none 0 0), (sl none 0 0)]) z_41 z z (((h13.ext h10).chg h11 (djs (mmr h13.lt))).ext s19) z (lb z) (oA z) z) ?_))))
   rintro _ w111 ⟨h7f, s7g⟩
   have h4d := s7g.one
   refine Ra z (Ra z (Wn ?_))
   obtain rfl := som (ifT hm4a hc2v)
   exact Wr (rtO (ret3 hr (resC g_41 z_41 z h7f z) z z ⟨(bM (bup (bM (bup h12 h10) h11 (mem1le h12.size)) s19) h4d (mem1 lr)), none, 0, 0, [], none, 0, 0, [], v7b, S7c, z, (ii z), onL, onL, p3_0, (h4b.chg h4d (o0n1 h4c h13.lt (lt_ h10.size h11.size))), (o0le h4c h2u), nd0, al0⟩))
  refine Wk (Ws (Rm z (Rm z (Rm z ?_))))
  have h23 := lt_ h2u s19.size
  obtain ⟨r7h, r112, r113, e7i, hm7j⟩ := bd3S (ifF hm4a hc2v)
  refine E z (fc call109 z (W_impl_fileReader_content (B := B) e7i (lt_ hBw h23) (h48.ext s19) (h49.ext s19) (h47.ext s19) hC1b h7e h7d)) ?_
  rintro _ w114 ⟨s4e, a4f, n4g, c4h, S7k, a4i, n4j, c4k, S7l, v7m, S7n, rfl, h7o, h7p, h7q, h7r, h7s, h4l, h2w, h24⟩
  iterate 3 refine R z (ext_ z z) ?_
  refine E0 (fs (cur' := [(vI r7h.number), (sl a4f n4g c4h), (sl a4i n4j c4k)]) z_41 z z ((((h13.ext h10).chg h11 (djs (mmr h13.lt))).ext s19).ext s4e) z (lb z) (oA z) z) ?_
  rintro _ w115 ⟨h7t, s7u⟩
  have h25 := s7u.one
  refine Ra z (Ra z (Wn ?_))
  obtain rfl := som hm7j
  have h2x := lt_ (lt_ h10.size h11.size) s19.size
  exact Wr (rtO (ret3 hr (resC g_41 z_41 z h7t z) z z ⟨(bM (bup (bup (bM (bup h12 h10) h11 (mem1le h12.size)) s19) s4e) h25 (mem1 lr)), a4f, n4g, c4h, S7k, a4i, n4j, c4k, S7l, v7m, S7n, z, h7o, (h7p.chg h25 (o0n1 (all_left h24) h13.lt h2x)), (h7q.chg h25 (o0n1 (all_right h24) h13.lt h2x)), h7r, (h7s.chg h25 (o0n1 h4l h13.lt h2x)), (o0le h4l h23), (nd_app (nd_left h2w) (nd_right h2w) (nd_dj h2w)), (all_app (o0le (all_left h24) h23) (o0le (all_right h24) h23))⟩))
 have hm4m := ifF hm46 hc2t
 refine Ws (R z (eql z z) (Ra z (Wn (Wc z (fun hc2y => ?_) (fun hc2y => ?_)))))
 ·refine Ws (Rm z (R z (lN (vs := (vR x14 a1a n1b c1c a1d n1e c1f a1g n1h c1i a1j n1k c1l)) g_74 z_74 z z fid (h18.row 0 8 z)) (Rm z ?_)))
  have h1o := mem1le (lt_ hBw h12.size)
  have h26 := lt_ (lt_ h12.size h10.size) h11.size
  obtain ⟨r7v, r116, r117, e7w, hm7x⟩ := bd3S (ifT hm4m hc2y)
  refine E z (fc call110 z (ih1.run (B := B) e7w (lt_ hBw h26) ((h17.ext h10).chg h11 (lg h1o)) (((p1_1.ext h12).ext h10).chg h11 (lg h1o)) ((h15.ext h10).chg h11 ((lg h1o) _ hC1b)) hC1b h1v h1w h1s ((h1t.ext h10).chg h11 (lg h1o)) ((h1x.ext h10).chg h11 (lg h1o)) ((h1y.ext h10).chg h11 (lg h1o)) ((h1m.ext h10).chg h11 (lg h1o)) p3_0)) ?_
  rintro _ w118 ⟨s4n, a4o, n4p, c4q, S7y, a4r, n4s, c4t, S7z, v80, S81, rfl, h82, h83, h84, h85, h86, h4u, h2z, h27⟩
  iterate 3 refine R z (ext_ z z) ?_
  refine E0 (fs (cur' := [(vI r7v.number), (sl a4o n4p c4q), (sl a4r n4s c4t)]) z_41 z z (((h13.ext h10).chg h11 (djs (mmr h13.lt))).ext s4n) z (lb z) (oA z) z) ?_
  rintro _ w119 ⟨h87, s88⟩
  have h28 := s88.one
  refine Ra z (Ra z (Wn ?_))
  obtain rfl := som hm7x
  have h30 := lt_ h10.size h11.size
  exact Wr (rtO (ret3 hr (resC g_41 z_41 z h87 z) z z ⟨(bM (bup (bM (bup h12 h10) h11 (mem1le h12.size)) s4n) h28 (mem1 lr)), a4o, n4p, c4q, S7y, a4r, n4s, c4t, S7z, v80, S81, z, h82, (h83.chg h28 (o0n1 (all_left h27) h13.lt h30)), (h84.chg h28 (o0n1 (all_right h27) h13.lt h30)), h85, (h86.chg h28 (o0n1 h4u h13.lt h30)), (o0le h4u h26), (nd_app (nd_left h2z) (nd_right h2z) (nd_dj h2z)), (all_app (o0le (all_left h27) h26) (o0le (all_right h27) h26))⟩))
 have hm4v := ifF hm4m hc2y
 refine Ws (R z (eql z z) (Ra z (Wn (Wc z (fun hc31 => ?_) (fun hc31 => ?_)))))
 ·refine Ws (Rm z (R z (bP (parts := []) (cs := [(vI 0), (sl none 0 0), (sl none 0 0)]) build_41 z z) (R z (fd f_74_7 z) (R z (l1 g_72 z fid (h18.at z)) (Rm z ?_)))))
  have h29 := mem1le (lt_ hBw h12.size)
  have h2a := lt_ (lt_ h12.size h10.size) h11.size
  obtain ⟨r89, r11a, r11b, e8a, hm8b⟩ := bd3S (ifT hm4v hc31)
  refine E z (fc call111 z (ih2.run (B := B) (x2 := (⟨0, ([] : List UInt8), ([] : List Val)⟩ : Val)) e8a (lt_ hBw h2a) ((h17.ext h10).chg h11 (lg h29)) (((p1_1.ext h12).ext h10).chg h11 (lg h29)) ((h15.ext h10).chg h11 ((lg h29) _ hC1b)) hC1b (ii z) onL nd_nil all_nil onL nd_nil all_nil all_nil ((h1m.ext h10).chg h11 (lg h29)) p3_0)) ?_
  rintro _ w11c ⟨s4w, a4x, n4y, c4z, S50, a51, n52, c53, S54, v8c, S8d, rfl, h8e, h8f, h8g, h8h, h8i, h55, h32, h2b⟩
  iterate 3 refine R z (ext_ z z) ?_
  refine E0 (fs (cur' := [(vI r89.number), (sl a4x n4y c4z), (sl a51 n52 c53)]) z_41 z z (((h13.ext h10).chg h11 (djs (mmr h13.lt))).chg s4w (atp (nmA (nmN _) (nmN _)))) z (lb z) (oA z) z) ?_
  rintro _ w11d ⟨h8j, s8k⟩
  have h2c := s8k.one
  refine Ra z (Ra z (Wn ?_))
  obtain rfl := som hm8b
  have h33 := lt_ h10.size h11.size
  have h8l : ∀ k ∈ S50, k ∉ [w0.heap.size] := or1 (all_left h2b) al0 (ltnot (mem1 h13.lt) h33)
  have h8m : ∀ k ∈ S54, k ∉ [w0.heap.size] := or1 (all_right h2b) al0 (ltnot (mem1 h13.lt) h33)
  exact Wr (rtO (ret3 hr (resC g_41 z_41 z h8j z) z z ⟨(bM (bM (bM (bup h12 h10) h11 (mem1le h12.size)) s4w al0) h2c (mem1 lr)), a4x, n4y, c4z, S50, a51, n52, c53, S54, v8c, S8d, z, h8e, (h8f.chg h2c h8l), (h8g.chg h2c h8m), h8h, (h8i.chg h2c (o0n1 h55 h13.lt h33)), (o0le h55 h2a), (nd_app (nd_left h32) (nd_right h32) (nd_dj h32)), (all_app (o1le (all_left h2b) al0 h2a) (o1le (all_right h2b) al0 h2a))⟩))
 have hm56 := ifF hm4v hc31
 refine Ws (R z (eql z z) (Ra z (Wn (Wc z (fun hc34 => ?_) (fun hc34 => ?_)))))
 ·refine Ws (Rm z (R z (lN (vs := (vR x14 a1a n1b c1c a1d n1e c1f a1g n1h c1i a1j n1k c1l)) g_74 z_74 z z fid (h18.row 0 8 z)) (Rm z ?_)))
  have h1p := mem1le (lt_ hBw h12.size)
  have h2d := lt_ (lt_ h12.size h10.size) h11.size
  obtain ⟨r8n, r11e, r11f, e8o, hm8p⟩ := bd3S (ifT hm56 hc34)
  refine E z (fc call112 z (ih3.run (B := B) e8o (lt_ hBw h2d) ((h17.ext h10).chg h11 (lg h1p)) (((p1_1.ext h12).ext h10).chg h11 (lg h1p)) ((h15.ext h10).chg h11 ((lg h1p) _ hC1b)) hC1b h1v h1w h1s ((h1t.ext h10).chg h11 (lg h1p)) ((h1x.ext h10).chg h11 (lg h1p)) ((h1y.ext h10).chg h11 (lg h1p)) ((h1m.ext h10).chg h11 (lg h1p)) p3_0)) ?_
  rintro _ w11g ⟨s57, a58, n59, c5a, S8q, a5b, n5c, c5d, S8r, v8s, S8t, rfl, h8u, h8v, h8w, h8x, h8y, h5e, h35, h2e⟩
  iterate 3 refine R z (ext_ z z) ?_
  refine E0 (fs (cur' := [(vI r8n.number), (sl a58 n59 c5a), (sl a5b n5c c5d)]) z_41 z z (((h13.ext h10).chg h11 (djs (mmr h13.lt))).ext s57) z (lb z) (oA z) z) ?_
  rintro _ w11h ⟨h8z, s90⟩
  have h2f := s90.one
  refine Ra z (Ra z (Wn ?_))
  obtain rfl := som hm8p
  have h36 := lt_ h10.size h11.size
  exact Wr (rtO (ret3 hr (resC g_41 z_41 z h8z z) z z ⟨(bM (bup (bM (bup h12 h10) h11 (mem1le h12.size)) s57) h2f (mem1 lr)), a58, n59, c5a, S8q, a5b, n5c, c5d, S8r, v8s, S8t, z, h8u, (h8v.chg h2f (o0n1 (all_left h2e) h13.lt h36)), (h8w.chg h2f (o0n1 (all_right h2e) h13.lt h36)), h8x, (h8y.chg h2f (o0n1 h5e h13.lt h36)), (o0le h5e h2d), (nd_app (nd_left h35) (nd_right h35) (nd_dj h35)), (all_app (o0le (all_left h2e) h2d) (o0le (all_right h2e) h2d))⟩))
 have hm5f := ifF hm56 hc34
 refine Ws (R z (eql z z) (Ra z (Wn (Wc z (fun hc37 => ?_) (fun hc37 => ?_)))))
 ·refine Ws (Rm z (R z (lN (vs := (vR x14 a1a n1b c1c a1d n1e c1f a1g n1h c1i a1j n1k c1l)) g_74 z_74 z z fid (h18.row 0 8 z)) (Rm z ?_)))
  have h1q := mem1le (lt_ hBw h12.size)
  have h2g := lt_ (lt_ h12.size h10.size) h11.size
  obtain ⟨r91, r11i, r11j, e92, hm93⟩ := bd3S (ifT hm5f hc37)
  refine E z (fc call113 z (ih4.run (B := B) e92 (lt_ hBw h2g) ((h17.ext h10).chg h11 (lg h1q)) (((p1_1.ext h12).ext h10).chg h11 (lg h1q)) ((h15.ext h10).chg h11 ((lg h1q) _ hC1b)) hC1b h1v h1w h1s ((h1t.ext h10).chg h11 (lg h1q)) ((h1x.ext h10).chg h11 (lg h1q)) ((h1y.ext h10).chg h11 (lg h1q)) ((h1m.ext h10).chg h11 (lg h1q)) p3_0)) ?_
  rintro _ w11k ⟨s5g, a5h, n5i, c5j, S94, a5k, n5l, c5m, S95, v96, S97, rfl, h98, h99, h9a, h9b, h9c, h5n, h38, h2h⟩
  iterate 3 refine R z (ext_ z z) ?_
  refine E0 (fs (cur' := [(vI r91.number), (sl a5h n5i c5j), (sl a5k n5l c5m)]) z_41 z z (((h13.ext h10).chg h11 (djs (mmr h13.lt))).ext s5g) z (lb z) (oA z) z) ?_
  rintro _ w11l ⟨h9d, s9e⟩
  have h2i := s9e.one
  refine Ra z (Ra z (Wn ?_))
  obtain rfl := som hm93
  have h39 := lt_ h10.size h11.size
  exact Wr (rtO (ret3 hr (resC g_41 z_41 z h9d z) z z ⟨(bM (bup (bM (bup h12 h10) h11 (mem1le h12.size)) s5g) h2i (mem1 lr)), a5h, n5i, c5j, S94, a5k, n5l, c5m, S95, v96, S97, z, h98, (h99.chg h2i (o0n1 (all_left h2h) h13.lt h39)), (h9a.chg h2i (o0n1 (all_right h2h) h13.lt h39)), h9b, (h9c.chg h2i (o0n1 h5n h13.lt h39)), (o0le h5n h2g), (nd_app (nd_left h38) (nd_right h38) (nd_dj h38)), (all_app (o0le (all_left h2h) h2g) (o0le (all_right h2h) h2g))⟩))
 have hm5o := ifF hm5f hc37
 refine Ws (R z (eql z z) (Ra z (Wn (Wc z (fun hc3a => ?_) (fun hc3a => ?_)))))
 ·refine Ws (Rm z (R z (lN (vs := (vR x14 a1a n1b c1c a1d n1e c1f a1g n1h c1i a1j n1k c1l)) g_74 z_74 z z fid (h18.row 0 8 z)) (Rm z ?_)))
  have h1r := mem1le (lt_ hBw h12.size)
  have h2j := lt_ (lt_ h12.size h10.size) h11.size
  obtain ⟨r9f, r11m, r11n, e9g, hm9h⟩ := bd3S (ifT hm5o hc3a)
  refine E z (fc call114 z (ih5.run (B := B) e9g (lt_ hBw h2j) ((h17.ext h10).chg h11 (lg h1r)) (((p1_1.ext h12).ext h10).chg h11 (lg h1r)) ((h15.ext h10).chg h11 ((lg h1r) _ hC1b)) hC1b h1v h1w h1s ((h1t.ext h10).chg h11 (lg h1r)) ((h1x.ext h10).chg h11 (lg h1r)) ((h1y.ext h10).chg h11 (lg h1r)) ((h1m.ext h10).chg h11 (lg h1r)) p3_0)) ?_
  rintro _ w11o ⟨s5p, a5q, n5r, c5s, S9i, a5t, n5u, c5v, S9j, v9k, S9l, rfl, h9m, h9n, h9o, h9p, h9q, h5w, h3b, h2k⟩
  iterate 3 refine R z (ext_ z z) ?_
  refine E0 (fs (cur' := [(vI r9f.number), (sl a5q n5r c5s), (sl a5t n5u c5v)]) z_41 z z (((h13.ext h10).chg h11 (djs (mmr h13.lt))).ext s5p) z (lb z) (oA z) z) ?_
  rintro _ w11p ⟨h9r, s9s⟩
  have h2l := s9s.one
  refine Ra z (Ra z (Wn ?_))
  obtain rfl := som hm9h
  have h3c := lt_ h10.size h11.size
  exact Wr (rtO (ret3 hr (resC g_41 z_41 z h9r z) z z ⟨(bM (bup (bM (bup h12 h10) h11 (mem1le h12.size)) s5p) h2l (mem1 lr)), a5q, n5r, c5s, S9i, a5t, n5u, c5v, S9j, v9k, S9l, z, h9m, (h9n.chg h2l (o0n1 (all_left h2k) h13.lt h3c)), (h9o.chg h2l (o0n1 (all_right h2k) h13.lt h3c)), h9p, (h9q.chg h2l (o0n1 h5w h13.lt h3c)), (o0le h5w h2j), (nd_app (nd_left h3b) (nd_right h3b) (nd_dj h3b)), (all_app (o0le (all_left h2k) h2j) (o0le (all_right h2k) h2j))⟩))
 refine Wk (Wq (WC_draw (X := noX) 0 (.rd 0 (.rd 1 (.rd 2 (.rd 3 (.rd 4 (.rd 5 (.rd 6 (.rd 7 (.rd 8 (.ef 9 (.rd 10 (.rd 11 (.rd 12 (.rd 13 (.rd 14 (.rd 15 (.rd 16 .done))))))))))))))))) mo (by kernel_rfl) fun w11q s16 _ => dR z z (mv z) (dR z z (rd_nil z) (dR z z (fd f_114_1 z) ?_))))
 have h3d := mem1le (lt_ hBw h12.size)
 refine dR z z (l1 g_25 z fid ((((h15.ext h10).chg h11 ((lg h3d) _ hC1b)).ext s16).at (j := 1) z)) (dR z z (mv z) (dR z z (fd f_74_4 z) (dR z z (l1 g_25 z fid ((h18.ext s16).at z)) ?_)))
 obtain ⟨x11r, e9t, hm9u⟩ := bdS (ifF hm5o hc3a)
 refine dRX z z (at_ (α := UInt8) d_25 z_5 z z z (((h1t.ext h10).chg h11 (lg h3d)).ext s16) e9t) ?_
 rintro _ ⟨b11s, o11t, cs11u, rfl, h9v, h9w, h11v⟩
 obtain rfl := UInt8_open h9w
 refine dR z z (l1 g_5 z fid (h9v.at0 z)) ?_
 have h3e := lt_ (lt_ (lt_ h12.size h10.size) h11.size) s16.size
 obtain ⟨r11w, r11x, r11y, e9x, hm5x⟩ := bd3S hm9u
 refine dE z z (fc call115 z (W_impl_ReadTerminated (B := B) e9x (lt_ hBw h3e) ((((p1_1.ext h12).ext h10).chg h11 (lg h3d)).ext s16) p3_0)) (.inr fun _ _ h => chgB (h.1)) ?_
 rintro _ w11z ⟨s1u, a3f, n3g, c3h, S9y, rfl, h9z, h100, h101, h5y⟩
 refine dR z z (mv z) ?_
 iterate 3 refine dR z z (ext_ z z) ?_
 iterate 3 refine dR z z (asg z) ?_
 refine PR_done (Wo (Wq (Ws (Rm z (R z (not_ z) (Wn (Wc z (fun hc3i => ?_) (fun hc3i => ?_))))))))
 ·refine Ws (R z (bP (parts := []) (cs := [(vI 0), (sl none 0 0), (sl none 0 0)]) build_41 z z) (Rm z (Rm z ?_)))
  have h5z := lt_ h3e s1u.size
  obtain ⟨r120, e102, hm103⟩ := bdS (ifT hm5x hc3i)
  refine E z (fc call116 z (W_impl_fail (B := B) e102 (lt_ hBw h5z) p3_0 (ii z))) ?_
  rintro _ w121 ⟨s60, v104, S105, rfl, h106, h61⟩
  refine E0 (fs (cur' := [(vI 0), (sl none 0 0), (sl none 0 0)]) z_41 z z (((((h13.ext h10).chg h11 (djs (mmr h13.lt))).ext s16).ext s1u).ext s60) z (lb z) (oA z) z) ?_
  rintro _ w122 ⟨h107, s108⟩
  have h62 := s108.one
  refine Ra z (Ra z (Wn ?_))
  obtain rfl := som hm103
  exact Wr (ret3 hr (resC g_41 z_41 z h107 z) z z ⟨(bM (bup (bup (bup (bM (bup h12 h10) h11 (mem1le h12.size)) s16) s1u) s60) h62 (mem1 lr)), none, 0, 0, [], none, 0, 0, [], v104, S105, z, (ii z), onL, onL, p3_0, (h106.chg h62 (o0n1 h61 h13.lt (lt_ (lt_ (lt_ h10.size h11.size) s16.size) s1u.size))), (o0le h61 h5z), nd0, al0⟩)
 refine Wk (Ws (Rm z (R z (bP (parts := [(1, (.tmp 159))]) (cs := [(vI 0), (sl a3f n3g c3h), (sl none 0 0)]) build_41 z z) (Rm z (E0 (fs (cur' := [(vI 0), (sl a3f n3g c3h), (sl none 0 0)]) z_41 z z ((((h13.ext h10).chg h11 (djs (mmr h13.lt))).ext s16).ext s1u) z (lb z) (oA z) z) ?_)))))
 rintro _ w123 ⟨h109, s10a⟩
 have h63 := s10a.one
 refine Ra z (Ra z (Wn ?_))
 obtain rfl := som (ifF hm5x hc3i)
 exact Wr (ret3 hr (resC g_41 z_41 z h109 z) z z ⟨(bM (bup (bup (bM (bup h12 h10) h11 (mem1le h12.size)) s16) s1u) h63 (mem1 lr)), a3f, n3g, c3h, S9y, none, 0, 0, [], .nilIface, ([] : List Nat), z, (ii z), (h9z.chg h63 (o0n1 h5y h13.lt (lt_ (lt_ h10.size h11.size) s16.size))), onL, h100, errR_nil, all_nil, (nd_app h101 nd_nil (nmN _)), (all_app (o0le h5y h3e) all_nil)⟩)
theorem T_impl_fileReader_array (ih : I_impl_fileReader_value n) : S_impl_fileReader_array (B_impl_fileReader_array n (F_impl_fileReader_value n)) := by
 obtain ⟨ih0, ih1, ih2, ih3, ih4, ih5⟩ := ih
 constructor
 intro B pn1_0 pc1_0 pn1_1 pc1_1 b1 o1 pn2_4 pc2_4 pn2_5 pc2_5 pn2_6 pc2_6 pn2_7 pc2_7 pa1_0 pa1_1 pa2_4 pa2_5 pa2_6 pa2_7 x1 x2 x3 res w0 hm hBw p1_0 p1_1 hC1 hC1b p2_0 p2_1 p2_2 p2_4 p2_5 p2_6 p2_7 p3_0
 unfold B_impl_fileReader_array at hm
 refine goF func110 z z (lb z) fun fn hr => Ws (E z (fb z) ?_)
 rintro _ w18 ⟨rfl, h1x⟩
 have h14 := h1x.below
 have h1y : Blk w18 w0.heap.size (vR x2 pa2_4 pn2_4 pc2_4 pa2_5 pn2_5 pc2_5 pa2_6 pn2_6 pc2_6 pa2_7 pn2_7 pc2_7) := h1x.blk
 refine E z (fa zero_41) ?_
 rintro _ w2t ⟨rfl, h1z⟩
 have h15 := h1z.below
 have h16 : Blk w2t w18.heap.size [(vI 0), (sl none 0 0), (sl none 0 0)] := h1z.blk
 refine Ra z (Ra z (Wn (Ws (Rm z (R z (fd f_74_7 z) ?_)))))
 have h20 := h1y.ext h15
 refine R z (l1 g_72 z fid (h20.at z)) ?_
 obtain ⟨x4m, e2u, hm2v⟩ := bdS hm
 have h21 := (p2_7.ext h14).ext h15
 refine RX z (at_ (α := Int) d_72 z_3 z z z h21 e2u) ?_
 rintro _ ⟨b4n, o4o, cs4p, rfl, h2w, h2x, h4q⟩
 obtain ⟨rfl, h2y⟩ := Int_open h2x
 refine R z (l1 g_3 z fid (h2w.at0 z)) (Rm z ?_)
 have h22 := (hC1.ext h14).ext h15
 have h23 := (p1_0.ext h14).ext h15
 have h24 := (p1_1.ext h14).ext h15
 have h1f := lt_ h14.size h15.size
 obtain ⟨r4r, r1g, r4s, e2z, hm25⟩ := bd3S hm2v
 refine E z (fc call107 z (W_impl_fileReader_integer (B := B) e2z (lt_ hBw h1f) h23 h24 h22 hC1b h2y p3_0)) ?_
 rintro _ w11 ⟨s10, v30, S31, rfl, h4t, h32, h26, h27⟩
 refine Rm z ?_
 iterate 3 refine R z (ext_ z z) ?_
 refine Ra z (Ra z (Ra z (Wn (Wq (Ws (Rm z (R z (rd_neqEr d_116 z z h26) (Wn (Wc z (fun hc1o => ?_) (fun hc1o => ?_))))))))))
 ·refine Ws (R z (bP (parts := []) (cs := [(vI 0), (sl none 0 0), (sl none 0 0)]) build_41 z z) (Rm z (Rm z (E0 (fs (cur' := [(vI 0), (sl none 0 0), (sl none 0 0)]) z_41 z z (h16.ext s10) z (lb z) (oA z) z) ?_))))
  rintro _ w4u ⟨h33, s34⟩
  have h28 := s34.one
  refine Ra z (Ra z (Wn ?_))
  obtain rfl := som (ifT hm25 hc1o)
  exact Wr (ret3 hr (resC g_41 z_41 z h33 z) z z ⟨(bM (bup (bup h14 h15) s10) h28 (mem1le h14.size)), none, 0, 0, [], none, 0, 0, [], v30, S31, z, (ii z), onL, onL, p3_0, (h26.chg h28 (o0n1 h27 h16.lt lr)), (o0le h27 h1f), nd0, al0⟩)
 have hm29 := ifF hm25 hc1o
 refine Wk (Wq (Ws (Rm z (R z (rd_gtr z z) (Wn (Wc z (fun hc1p => ?_) (fun hc1p => ?_)))))))
 ·refine Ws (R z (bP (parts := []) (cs := [(vI 0), (sl none 0 0), (sl none 0 0)]) build_41 z z) (Rm z (Rm z ?_)))
  have h2a := lt_ h1f s10.size
  obtain ⟨r4v, e35, hm36⟩ := bdS (ifT hm29 hc1p)
  refine E z (fc call116 z (W_impl_fail (B := B) e35 (lt_ hBw h2a) p3_0 (ii z))) ?_
  rintro _ w4w ⟨s2b, v37, S38, rfl, h39, h2c⟩
  refine E0 (fs (cur' := [(vI 0), (sl none 0 0), (sl none 0 0)]) z_41 z z ((h16.ext s10).ext s2b) z (lb z) (oA z) z) ?_
  rintro _ w4x ⟨h3a, s3b⟩
  have h2d := s3b.one
  refine Ra z (Ra z (Wn ?_))
  obtain rfl := som hm36
  exact Wr (ret3 hr (resC g_41 z_41 z h3a z) z z ⟨(bM (bup (bup (bup h14 h15) s10) s2b) h2d (mem1le h14.size)), none, 0, 0, [], none, 0, 0, [], v37, S38, z, (ii z), onL, onL, p3_0, (h39.chg h2d (o0n1 h2c h16.lt s10.size)), (o0le h2c h2a), nd0, al0⟩)
 refine Wk (Ws (Rm z ?_))
 obtain ⟨x1h, e3c, hm3d⟩ := bdS (ifF hm29 hc1p)
 refine E z (ef_makeN (α := Int) el_72 (fun _ => (Int_own (ii z))) e3c z z) ?_
 rintro _ w12 ⟨a1a, n1b, c1c, rfl, s17, h1q⟩
 refine Ra z (Wn (Wq (Ws (Rm z (R z (lnR d_72 z (ownS.rep h1q)) (Rm z (Wn ?_)))))))
 obtain ⟨u4y, hu3e, hm2e⟩ := bdS hm3d
 refine WC_forN (σ := (List Int)) (ρ := Val × Int × (Option (Int × Int))) (fun (k1r : Nat) (x1d : List Int) a w => ∃  (S13 : List Nat), Sat 59 [(0, (.pointer (some ⟨b1, o1, none⟩))), (4, (pt w0.heap.size)), (6, (pt w18.heap.size)), (10, (vI r1g)), (12, (sl a1a n1b c1c)), (39, (vI (x1h.length : Int))), (40, (vI ((k1r : Nat) : Int)))] a ∧ Chg (· ∈ [w11.heap.size]) w12 w ∧ ownS w S13 (sl a1a n1b c1c) x1d ∧ S13.Nodup ∧ (∀ k ∈ S13, k ∈ [w11.heap.size] ∨ w12.heap.size ≤ k)) (fun (x1d : List Int) a w => ∃  (S13 : List Nat), Sat 59 [(0, (.pointer (some ⟨b1, o1, none⟩))), (6, (pt w18.heap.size)), (10, (vI r1g)), (12, (sl a1a n1b c1c))] a ∧ Chg (· ∈ [w11.heap.size]) w12 w ∧ ownS w S13 (sl a1a n1b c1c) x1d ∧ S13.Nodup ∧ (∀ k ∈ S13, k ∈ [w11.heap.size] ∨ w12.heap.size ≤ k)) (fun r ex a w => ex = .ret ∧ RetPost prog fn (Q30 w0 B r) a w) hu3e ?_ ?_ ?_ ?_ ?_
 ·exact fun _ q => ⟨[w11.heap.size], (q.k (s7 z z z z z z z)), (cr [w11.heap.size] w12), h1q, nd_one, (io sr)⟩
 ·rintro k1r x1d a4z w3f o50 hk2f ⟨S13, hS3g, s1i, h1e, h1j, h1k⟩ hm3h
  refine Wu (e := [(0, (.pointer (some ⟨b1, o1, none⟩))), (4, (pt w0.heap.size)), (6, (pt w18.heap.size)), (10, (vI r1g)), (12, (sl a1a n1b c1c)), (39, (vI (x1h.length : Int))), (40, (vI ((k1r : Nat) : Int)))]) (N := 59) ?_ hS3g
  refine Ws (R z (lss z z) (Wn (Wq (Wc z (fun _ => ?_) (fun hc => (nolt hk2f hc).elim)))))
  refine Wk (Wq (WC_block (Ws (Rm z (Ra z (Wn (Wg (Rm z (Rm z (R z (fd f_74_7 z) (R z (l1 g_72 z fid ((((h20.ext s10).ext s17).chg s1i (djs (mm1 h1y.lt (lt_ h15.size s10.size)))).at z)) ?_)))))))))))
  obtain ⟨x51, e3i, hm3j⟩ := bdS hm3h
  refine RX z (at_ (α := Int) d_72 z_3 z z z (((h21.ext s10).ext s17).chg s1i (lg (mem1le (lt_ hBw (lt_ h1f s10.size))))) e3i) ?_
  rintro _ ⟨b52, o53, cs54, rfl, h3k, h3l, h55⟩
  obtain ⟨rfl, h3m⟩ := Int_open h3l
  refine R z (l1 g_3 z fid (h3k.at0 z)) ?_
  obtain ⟨x3n, e2g, hm3o⟩ := bdS hm3j
  refine RX z (rd_atU (α := Int) d_72 z_3 z z h1e e2g) ?_
  rintro _ ⟨g56, h3p, rfl⟩
  refine E0 (ef_setN (α := Int) z_3 z h3p z z z e2g h1e h1j (Int_own h3m) all_nil nd_nil) ?_
  rintro _ w3q ⟨S2h, s3r, h3s, h3t, h3u⟩
  refine Wn (Wg (R z (inc_ hk2f (lt_ (ownS.len h1q) LEN_le) z z) (Rm z (Wl ?_))))
  have h2i : ∀ k ∈ S13, k ∈ [w11.heap.size] ∨ w12.heap.size ≤ k := or1 h1k (io sr) (leor lr)
  have h3v : ∀ k ∈ S2h, k ∈ [w11.heap.size] ∨ w12.heap.size ≤ k := or2 h3u h2i all_nil (leor s1i.size)
  have h3w : Chg (· ∈ [w11.heap.size]) w12 w3f := cM (cr [w11.heap.size] w12) s1i (io sr)
  have h3x : Chg (· ∈ [w11.heap.size]) w12 w3q := cM h3w s3r h2i
  exact fun _ q => ⟨x3n, (som hm3o).symm, ⟨S2h, (q.k (s7 z z z z z z z)), h3x, h3s, h3t, h3v⟩⟩
 ·rintro x1d a57 w3y ⟨S13, hS3z, s40, h1e, h1j, h1k⟩
  refine Wu (e := [(0, (.pointer (some ⟨b1, o1, none⟩))), (4, (pt w0.heap.size)), (6, (pt w18.heap.size)), (10, (vI r1g)), (12, (sl a1a n1b c1c)), (39, (vI (x1h.length : Int))), (40, (vI ((x1h.length : Nat) : Int)))]) (N := 59) ?_ hS3z
  refine Ws (R z (lss z z) (Wn (Wq (Wc z (fun hc => (noltt hc).elim) (fun _ => ?_)))))
  have h41 : ∀ k ∈ S13, k ∈ [w11.heap.size] ∨ w12.heap.size ≤ k := or1 h1k (io sr) (leor lr)
  have h42 : Chg (· ∈ [w11.heap.size]) w12 w3y := cM (cr [w11.heap.size] w12) s40 (io sr)
  exact WC_exit (fun a' ha' => ⟨rfl, ⟨S13, (Sat.weaken ha' (s4 z z z z)), h42, h1e, h1j, h41⟩⟩)
 ·rintro x1d a43 w44 rfl ⟨S13, hS58, s19, h1e, h1j, h1k⟩
  have hm45 := elL hm2e
  revert a43
  refine Wo (Ws (Rm z (R z (bP (parts := []) (cs := [(vI 0), (sl none 0 0), (sl none 0 0)]) build_41 z z) (Rm z (Rm z ?_)))))
  have h1s := lt_ h1f s10.size
  have h1t := mem1le (lt_ hBw h1s)
  have h1l := lt_ (lt_ h1s s17.size) s19.size
  have h1u := lt_ hBw h1l
  obtain ⟨r46, r59, r5a, e47, hm48⟩ := bd3S hm45
  refine E z (fc call111 z (ih2.run (B := w44.heap.size) (x2 := (⟨0, ([] : List UInt8), ([] : List Val)⟩ : Val)) e47 lr (repS.mono (((h23.ext s10).ext s17).chg s19 (lg h1t)) h1u) (repS.mono (((h24.ext s10).ext s17).chg s19 (lg h1t)) h1u) (((h22.ext s10).ext s17).chg s19 ((lg h1t) _ hC1b)) (Nat.lt_of_lt_of_le hC1b h1u) (ii z) onL nd_nil all_nil onL nd_nil all_nil all_nil (ownS.rep h1e) h32)) ?_
  rintro _ w5b ⟨s2j, a2k, n2l, c2m, S2n, a2o, n2p, c2q, S2r, v49, S4a, rfl, h4b, h4c, h4d, h4e, h4f, h2s, h1v, h1m⟩
  iterate 3 refine R z (ext_ z z) ?_
  refine E0 (fs (cur' := [(vI r46.number), (sl a2k n2l c2m), (sl a2o n2p c2q)]) z_41 z z ((((h16.ext s10).ext s17).chg s19 (djs (mm1 h16.lt s10.size))).chg s2j (atp (nmA (nmN _) (nmN _)))) z (lb z) (oA z) z) ?_
  rintro _ w5c ⟨h4g, s4h⟩
  have h1n := s4h.one
  refine Ra z (Ra z (Wn ?_))
  obtain rfl := som hm48
  have h1w := lt_ (lt_ s10.size s17.size) s19.size
  have h4i : ∀ k ∈ S2n, k ∉ [w18.heap.size] := or1 (all_left h1m) al0 (ltnot (mem1 h16.lt) h1w)
  have h4j : ∀ k ∈ S2r, k ∉ [w18.heap.size] := or1 (all_right h1m) al0 (ltnot (mem1 h16.lt) h1w)
  exact Wr (ret3 hr (resC g_41 z_41 z h4g z) z z ⟨(bM (bM (bM (bup (bup (bup h14 h15) s10) s17) s19 (mem1le h1s)) s2j al0) h1n (mem1le h14.size)), a2k, n2l, c2m, S2n, a2o, n2p, c2q, S2r, v49, S4a, z, h4b, (h4c.chg h1n h4i), (h4d.chg h1n h4j), h4e, (h4f.chg h1n (o0n1 h2s h16.lt h1w)), (o0le h2s h1l), (nd_app (nd_left h1v) (nd_right h1v) (nd_dj h1v)), (all_app (o1le (all_left h1m) al0 h1l) (o1le (all_right h1m) al0 h1l))⟩)
 rintro r5d ex5e a5f w5g rfl ⟨rfl, hq4k⟩
 have hm4l := elR hm2e
 obtain rfl := som hm4l
 exact ⟨hq4k, z⟩
theorem T_impl_fileReader_items (ih : I_impl_fileReader_value n) : S_impl_fileReader_items (B_impl_fileReader_items n (F_impl_fileReader_value n)) := by
 obtain ⟨ih0, ih1, ih2, ih3, ih4, ih5⟩ := ih
 constructor
 intro B pn1_0 pc1_0 pn1_1 pc1_1 b1 o1 pn2_1 pc2_1 pn2_2 pc2_2 pn3_0 pc3_0 pa1_0 pa1_1 pa2_1 pa2_2 pa3_0 S2_1 S2_2 x1 x2 x3 x4 res w0 hm hBw p1_0 p1_1 hC1 hC1b p2_0 p2_1 p2_1n p2_1g p2_2 p2_2n p2_2g p2_2d1 p3_0 p4_0
 unfold B_impl_fileReader_items at hm
 refine goF func111 z z (lb z) fun fn hr => Ws (E z (fb z) ?_)
 rintro _ w1a ⟨rfl, h28⟩
 have h12 := h28.below
 have h1e : Blk w1a w0.heap.size [(vI x2.number), (sl pa2_1 pn2_1 pc2_1), (sl pa2_2 pn2_2 pc2_2)] := h28.blk
 refine E z (fa zero_41) ?_
 rintro _ w10 ⟨rfl, h29⟩
 have h14 := h29.below
 have h1k : Blk w10 w1a.heap.size [(vI 0), (sl none 0 0), (sl none 0 0)] := h29.blk
 refine Ra z (Ra z (Wn (Wq (Ws (Rm z ?_)))))
 have h2a := (p3_0.ext h12).ext h14
 refine R z (lnR d_72 z h2a) (Rm z (Wn ?_))
 obtain ⟨u56, hu30, hm2b⟩ := bdS hm
 refine WC_forN (σ := Int × (List Val)) (ρ := Val × Int × (Option (Int × Int))) (fun (k1s : Nat) s a w => un2 (fun x1b x1h => ∃ (a15 : Option Addr) (n16 c17 : Nat) (S11 : List Nat), Sat 45 [(0, (.pointer (some ⟨b1, o1, none⟩))), (3, (vI x1b)), (5, (pt w0.heap.size)), (8, (pt w1a.heap.size)), (16, (sl pa3_0 pn3_0 pc3_0)), (17, (vI (x3.length : Int))), (18, (vI ((k1s : Nat) : Int)))] a ∧ Chg (· ∈ (S2_2 ++ [w0.heap.size])) w10 w ∧ inI x1b ∧ ownS w S11 (sl a15 n16 c17) x1h ∧ S11.Nodup ∧ (∀ k ∈ S11, k ∈ S2_2 ∨ w10.heap.size ≤ k) ∧ Blk w w0.heap.size [(vI x2.number), (sl pa2_1 pn2_1 pc2_1), (sl a15 n16 c17)]) s) (fun s a w => un2 (fun x1b x1h => ∃ (a15 : Option Addr) (n16 c17 : Nat) (S11 : List Nat), Sat 45 [(3, (vI x1b)), (5, (pt w0.heap.size)), (8, (pt w1a.heap.size))] a ∧ Chg (· ∈ (S2_2 ++ [w0.heap.size])) w10 w ∧ inI x1b ∧ ownS w S11 (sl a15 n16 c17) x1h ∧ S11.Nodup ∧ (∀ k ∈ S11, k ∈ S2_2 ∨ w10.heap.size ≤ k) ∧ Blk w w0.heap.size [(vI x2.number), (sl pa2_1 pn2_1 pc2_1), (sl a15 n16 c17)]) s) (fun r ex a w => ex = .ret ∧ RetPost prog fn (Q31 w0 B S2_1 S2_2 r) a w) hu30 ?_ ?_ ?_ ?_ ?_
 ·exact fun _ q => ⟨pa2_2, pn2_2, pc2_2, S2_2, (q.k (s7 z z z z z z z)), (cr (S2_2 ++ [w0.heap.size]) w10), p4_0, ((p2_2.ext h12).ext h14), p2_2n, (io sr), (h1e.ext h14)⟩
 ·rintro k1s ⟨x1b, x1h⟩ a57 w2c o58 hk2d ⟨a15, n16, c17, S11, hS31, s13, h1i, h1f, h1l, h1d, h1m⟩ hm32
  have hm33 := un2S hm32
  refine Wu (e := [(0, (.pointer (some ⟨b1, o1, none⟩))), (3, (vI x1b)), (5, (pt w0.heap.size)), (8, (pt w1a.heap.size)), (16, (sl pa3_0 pn3_0 pc3_0)), (17, (vI (x3.length : Int))), (18, (vI ((k1s : Nat) : Int)))]) (N := 45) ?_ hS31
  refine Ws (R z (lss z z) (Wn (Wq (Wc z (fun _ => ?_) (fun hc => (nolt hk2d hc).elim)))))
  refine Wk (Wq (WC_block (Ws ?_)))
  obtain ⟨x59, e34, hm35⟩ := bdS hm33
  have h1o := mem1le hBw
  refine RX z (at_ (α := Int) d_72 z_3 z z z (h2a.chg s13 (nmA (lg p2_2g) (lg h1o))) e34) ?_
  rintro _ ⟨b5a, o5b, cs5c, rfl, h36, h37, h5d⟩
  obtain ⟨rfl, h38⟩ := Int_open h37
  refine R z (l1 g_3 z fid (h36.at0 z)) (Ra z (Wn (Ws (Rm z (Rm z (Rm z ?_))))))
  have h1t := lt_ (lt_ h12.size h14.size) s13.size
  obtain ⟨r1p, r39, r5e, e3a, hm2e⟩ := bd3S hm35
  refine E z (fc call77 z (ih0.run (B := B) e3a (lt_ hBw h1t) (((p1_0.ext h12).ext h14).chg s13 (nmA (lg p2_2g) (lg h1o))) (((p1_1.ext h12).ext h14).chg s13 (nmA (lg p2_2g) (lg h1o))) (((hC1.ext h12).ext h14).chg s13 ((nmA (lg p2_2g) (lg h1o)) _ hC1b)) hC1b h38 h1i)) ?_
  rintro _ w1n ⟨s1c, a1u, n1v, c1w, S2f, a1x, n1y, c1z, S2g, v3b, S3c, rfl, h3d, h1q, h1r, h3e, h2h, h2i, h20, h1j⟩
  refine Rm z ?_
  iterate 3 refine R z (ext_ z z) ?_
  refine E z (fa zero_41) ?_
  rintro _ w21 ⟨rfl, h2j⟩
  have h18 := h2j.below
  have h3f : Blk w21 w1n.heap.size [(vI 0), (sl none 0 0), (sl none 0 0)] := h2j.blk
  refine E0 (fs (cur' := [(vI r1p.number), (sl a1u n1v c1w), (sl a1x n1y c1z)]) z_41 z z h3f z (lb z) (oA z) z) ?_
  rintro _ w22 ⟨h3g, s3h⟩
  have h19 := s3h.one
  refine Ra z (Ra z (Wn (Wq (Ws (Rm z ?_)))))
  have h2k := (h2h.ext h18).chg h19 (dj_symm (mnr (errR.lt h2h)))
  refine R z (rd_neqEr d_116 z z h2k) (Wn (Wc z (fun hc23 => ?_) (fun hc23 => ?_)))
  ·refine Ws (R z (bP (parts := []) (cs := [(vI 0), (sl none 0 0), (sl none 0 0)]) build_41 z z) (Rm z (Rm z ?_)))
   have h3i := (((h1k.chg s13 (atp (nmA (mno (ownS.lt p2_2) h12.size) (mmr h1e.lt)))).ext s1c).ext h18).chg h19 (djs (mm1 h1k.lt (lt_ s13.size s1c.size)))
   refine E0 (fs (cur' := [(vI 0), (sl none 0 0), (sl none 0 0)]) z_41 z z h3i z (lb z) (oA z) z) ?_
   rintro _ w3j ⟨h3k, s3l⟩
   have h2l := s3l.one
   refine Ra z (Ra z (Wn ?_))
   have h3m : Chg (· ∈ (S2_1 ++ S2_2)) w0 w1a := cext (cr (S2_1 ++ S2_2) w0) h12
   have h3n : Chg (· ∈ (S2_1 ++ S2_2)) w0 w10 := cext h3m h14
   have h3o : ∀ k ∈ [w0.heap.size], k ∈ (S2_1 ++ S2_2) ∨ w0.heap.size ≤ k := mor lr
   have h3p : Chg (· ∈ (S2_1 ++ S2_2)) w0 w2c := cM h3n s13 (all_app (io (sub_r sr)) h3o)
   have h3q : Chg (· ∈ (S2_1 ++ S2_2)) w0 w1n := cext h3p s1c
   have h3r : Chg (· ∈ (S2_1 ++ S2_2)) w0 w21 := cext h3q h18
   have h3s : ∀ k ∈ [w1n.heap.size], k ∈ (S2_1 ++ S2_2) ∨ w0.heap.size ≤ k := mor (lt_ h1t s1c.size)
   have h3t : Chg (· ∈ (S2_1 ++ S2_2)) w0 w22 := cM h3r h19 h3s
   have h3u : ∀ k ∈ [w1a.heap.size], k ∈ (S2_1 ++ S2_2) ∨ w0.heap.size ≤ k := mor h12.size
   have h3v : Chg (· ∈ (S2_1 ++ S2_2)) w0 w3j := cM h3t h2l h3u
   exact Wr (rtO (QO_retL (som (ifT hm2e hc23)).symm (ret3 hr (resC g_41 z_41 z h3k z) z z ⟨h3v, none, 0, 0, [], none, 0, 0, [], v3b, S3c, z, (ii z), onL, onL, h1i, (h2k.chg h2l (o0n1 h2i h1k.lt s13.size)), (o0le h2i h1t), nd0, al0⟩)))
  refine Wk (Ws (R z (fd f_41_2 z) ?_))
  have h24 := lt_ h14.size s13.size
  have h2m := lt_ h24 s1c.size
  have h2n := ((h1m.ext s1c).ext h18).chg h19 (djs (mm1 h1e.lt h2m))
  refine R z (l1 g_39 z fid (h2n.at z)) (R z (lN (vs := [(vI r1p.number), (sl a1u n1v c1w), (sl a1x n1y c1z)]) g_41 z_41 z z fid (h3g.row 0 3 z)) (E z (ef_buildSlice [(.tmp 37)] el_39 z z z (szAll z) (lb z) (lb z)) ?_))
  rintro _ w2o ⟨rfl, h2p⟩
  have h1g := h2p.below
  have h3w : Blk w2o w22.heap.size [(vI r1p.number), (sl a1u n1v c1w), (sl a1x n1y c1z)] := h2p.blk
  have h5f := (h1q.ext h18).chg h19 (dj_symm (mnr (ownS.lt h1q)))
  have h5g := (h1r.ext h18).chg h19 (dj_symm (mnr (ownS.lt h1r)))
  obtain ⟨x3x, e3y, hm3z⟩ := bdS (ifF hm2e hc23)
  refine E z (ef_pushN (α := Val) el_39 e3y z z ((((h1f.ext s1c).ext h18).chg h19 (dj_symm (mno (ownS.lt h1f) s1c.size))).ext h1g) h1l h3w (Val_mkO (x := r1p) (S1 := S2f) (S2 := S2g) h3d (((h1q.ext h18).chg h19 (dj_symm (mnr (ownS.lt h1q)))).ext h1g) (((h1r.ext h18).chg h19 (dj_symm (mnr (ownS.lt h1r)))).ext h1g)) (all_app (o0no (all_left h1j) (ownS.lt h1f) lr) (o0no (all_right h1j) (ownS.lt h1f) lr)) (nd_app (nd_left h20) (nd_right h20) (nd_dj h20))) ?_
  rintro _ w40 ⟨S25, a2q, n2r, c2s, rfl, s2t, h41, h42, h2u⟩
  refine R z (fd f_41_2 z) ?_
  have h2v : ∀ k ∈ S11, k ∉ [w0.heap.size] := or1 h1d (dj_symm (mnr (ownS.lt p2_2))) (ltnot (mem1 h1e.lt) h14.size)
  refine E0 (fs (cur' := [(vI x2.number), (sl pa2_1 pn2_1 pc2_1), (sl a2q n2r c2s)]) z_39 z z ((h2n.ext h1g).chg s2t (djs h2v)) z (lb z) (oA z) z) ?_
  rintro _ w43 ⟨h44, s45⟩
  have h2w := s45.one
  refine Wn (Wg (Rm z (Ra z (Wn (Wg (R z (inc_ hk2d (lt_ (repS.len p3_0) LEN_le) z z) (Rm z (Wl ?_))))))))
  have h46 : ∀ k ∈ S25, k ∉ [w0.heap.size] := or2 h2u h2v (all_app (o0n1 (all_left h1j) h1e.lt h24) (o0n1 (all_right h1j) h1e.lt h24)) (ltnot (mem1 h1e.lt) (lt_ (lt_ (lt_ h2m h18.size) h19.size) h1g.size))
  have h2x := lt_ s13.size s1c.size
  have h47 : ∀ k ∈ S11, k ∈ S2_2 ∨ w10.heap.size ≤ k := or1 h1d (io sr) (leor lr)
  have h48 : ∀ k ∈ S2f, k ∈ S2_2 ∨ w10.heap.size ≤ k := or0 (all_left h1j)  (leor s13.size)
  have h49 : ∀ k ∈ S2g, k ∈ S2_2 ∨ w10.heap.size ≤ k := or0 (all_right h1j)  (leor s13.size)
  have h4a : ∀ k ∈ S25, k ∈ S2_2 ∨ w10.heap.size ≤ k := or2 h2u h47 (all_app h48 h49) (leor (lt_ (lt_ (lt_ h2x h18.size) h19.size) h1g.size))
  have h4b : Chg (· ∈ (S2_2 ++ [w0.heap.size])) w10 w2c := cM (cr (S2_2 ++ [w0.heap.size]) w10) s13 (all_app (io (sub_l sr)) (io (sub_r sr)))
  have h4c : Chg (· ∈ (S2_2 ++ [w0.heap.size])) w10 w1n := cext h4b s1c
  have h4d : Chg (· ∈ (S2_2 ++ [w0.heap.size])) w10 w21 := cext h4c h18
  have h4e : ∀ k ∈ [w1n.heap.size], k ∈ (S2_2 ++ [w0.heap.size]) ∨ w10.heap.size ≤ k := mor h2x
  have h4f : Chg (· ∈ (S2_2 ++ [w0.heap.size])) w10 w22 := cM h4d h19 h4e
  have h4g : Chg (· ∈ (S2_2 ++ [w0.heap.size])) w10 w2o := cext h4f h1g
  have h4h : ∀ k ∈ S11, k ∈ (S2_2 ++ [w0.heap.size]) ∨ w10.heap.size ≤ k := or1 h1d (io (sub_l sr)) (leor lr)
  have h4i : Chg (· ∈ (S2_2 ++ [w0.heap.size])) w10 w40 := cM h4g s2t h4h
  have h4j : Chg (· ∈ (S2_2 ++ [w0.heap.size])) w10 w43 := cM h4i h2w (io (sub_r sr))
  exact fun _ q => ⟨(r39, x3x), (som hm3z).symm, ⟨a2q, n2r, c2s, S25, (q.k (s7 z z z z z z z)), h4j, h3e, (h41.chg h2w h46), h42, h4a, h44⟩⟩
 ·rintro ⟨x1b, x1h⟩ a5h w4k ⟨a15, n16, c17, S11, hS4l, s4m, h1i, h1f, h1l, h1d, h1m⟩
  refine Wu (e := [(0, (.pointer (some ⟨b1, o1, none⟩))), (3, (vI x1b)), (5, (pt w0.heap.size)), (8, (pt w1a.heap.size)), (16, (sl pa3_0 pn3_0 pc3_0)), (17, (vI (x3.length : Int))), (18, (vI ((x3.length : Nat) : Int)))]) (N := 45) ?_ hS4l
  refine Ws (R z (lss z z) (Wn (Wq (Wc z (fun hc => (noltt hc).elim) (fun _ => ?_)))))
  have h4n : ∀ k ∈ S11, k ∈ S2_2 ∨ w10.heap.size ≤ k := or1 h1d (io sr) (leor lr)
  have h4o : Chg (· ∈ (S2_2 ++ [w0.heap.size])) w10 w4k := cM (cr (S2_2 ++ [w0.heap.size]) w10) s4m (all_app (io (sub_l sr)) (io (sub_r sr)))
  exact WC_exit (fun a' ha' => ⟨rfl, ⟨a15, n16, c17, S11, (Sat.weaken ha' (s3 z z z)), h4o, h1i, h1f, h1l, h4n, h1m⟩⟩)
 ·rintro ⟨x1b, x1h⟩ a4p w4q rfl ⟨a15, n16, c17, S11, hS5i, s26, h1i, h1f, h1l, h1d, h1m⟩
  have hm4r := elL hm2b
  have hm4s := un2S hm4r
  revert a4p
  refine Wo (Ws (R z (lN (vs := [(vI x2.number), (sl pa2_1 pn2_1 pc2_1), (sl a15 n16 c17)]) g_41 z_41 z z fid (h1m.row 0 3 z)) (Rm z ?_)))
  have h2y := mno (ownS.lt p2_2) h12.size
  refine E0 (fs (cur' := [(vI x2.number), (sl pa2_1 pn2_1 pc2_1), (sl a15 n16 c17)]) z_41 z z (h1k.chg s26 (atp (nmA h2y (mmr h1e.lt)))) z (lb z) (oA z) z) ?_
  rintro _ w4t ⟨h4u, s4v⟩
  have h27 := s4v.one
  refine Ra z (Ra z (Wn ?_))
  obtain rfl := som hm4s
  have h4w : ∀ k ∈ S11, k ∉ [w1a.heap.size] := or1 h1d (dj_symm h2y) (ltnot (mem1 h1k.lt) lr)
  have h4x : Chg (· ∈ (S2_1 ++ S2_2)) w0 w1a := cext (cr (S2_1 ++ S2_2) w0) h12
  have h4y : Chg (· ∈ (S2_1 ++ S2_2)) w0 w10 := cext h4x h14
  have h4z : ∀ k ∈ [w0.heap.size], k ∈ (S2_1 ++ S2_2) ∨ w0.heap.size ≤ k := mor lr
  have h50 : Chg (· ∈ (S2_1 ++ S2_2)) w0 w4q := cM h4y s26 (all_app (io (sub_r sr)) h4z)
  have h51 : ∀ k ∈ [w1a.heap.size], k ∈ (S2_1 ++ S2_2) ∨ w0.heap.size ≤ k := mor h12.size
  have h52 : Chg (· ∈ (S2_1 ++ S2_2)) w0 w4t := cM h50 h27 h51
  have h2z := lt_ h12.size h14.size
  have h53 : ∀ k ∈ S11, k ∈ (S2_1 ++ S2_2) ∨ w0.heap.size ≤ k := or1 h1d (io (sub_r sr)) (leor h2z)
  exact Wr (ret3 hr (resC g_41 z_41 z h4u z) z z ⟨h52, pa2_1, pn2_1, pc2_1, S2_1, a15, n16, c17, S11, .nilIface, ([] : List Nat), z, p2_0, ((((p2_1.ext h12).ext h14).chg s26 (nmA (dj_symm p2_2d1) (dj_symm (mnr (ownS.lt p2_1))))).chg h27 (dj_symm (mno (ownS.lt p2_1) h12.size))), (h1f.chg h27 h4w), h1i, errR_nil, all_nil, (nd_app p2_1n h1l (dj_symm (o1no h1d p2_2d1 (ownS.lt p2_1) h2z))), (all_app (io (sub_l sr)) h53)⟩)
 rintro r5j ex5k a5l w5m rfl ⟨rfl, hq54⟩
 have hm55 := elR hm2b
 obtain rfl := som hm55
 exact ⟨hq54, z⟩
theorem T_impl_fileReader_choice (ih : I_impl_fileReader_value n) : S_impl_fileReader_choice (B_impl_fileReader_choice n (F_impl_fileReader_value n)) := by
 obtain ⟨ih0, ih1, ih2, ih3, ih4, ih5⟩ := ih
 constructor
 intro B pn1_0 pc1_0 pn1_1 pc1_1 b1 o1 pn2_4 pc2_4 pn2_5 pc2_5 pn2_6 pc2_6 pn2_7 pc2_7 pa1_0 pa1_1 pa2_4 pa2_5 pa2_6 pa2_7 x1 x2 x3 res w0 hm hBw p1_0 p1_1 hC1 hC1b p2_0 p2_1 p2_2 p2_4 p2_5 p2_6 p2_7 p3_0
 unfold B_impl_fileReader_choice at hm
 refine goF func112 z z (lb z) fun fn hr => Ws (E z (fb z) ?_)
 rintro _ w14 ⟨rfl, h1k⟩
 have h11 := h1k.below
 have h2d : Blk w14 w0.heap.size (vR x2 pa2_4 pn2_4 pc2_4 pa2_5 pn2_5 pc2_5 pa2_6 pn2_6 pc2_6 pa2_7 pn2_7 pc2_7) := h1k.blk
 refine E z (fa zero_41) ?_
 rintro _ w2e ⟨rfl, h1l⟩
 have h13 := h1l.below
 have h15 : Blk w2e w14.heap.size [(vI 0), (sl none 0 0), (sl none 0 0)] := h1l.blk
 refine Ra z (Ra z (Wn (Ws (Rm z (R z (fd f_74_7 z) ?_)))))
 have h1m := h2d.ext h13
 refine R z (l1 g_72 z fid (h1m.at z)) ?_
 obtain ⟨x3r, e2f, hm2g⟩ := bdS hm
 have h1n := (p2_7.ext h11).ext h13
 refine RX z (at_ (α := Int) d_72 z_3 z z z h1n e2f) ?_
 rintro _ ⟨b3s, o3t, cs3u, rfl, h2h, h2i, h3v⟩
 obtain ⟨rfl, h2j⟩ := Int_open h2i
 refine R z (l1 g_3 z fid (h2h.at0 z)) (Rm z ?_)
 have h1o := (hC1.ext h11).ext h13
 have h1p := (p1_0.ext h11).ext h13
 have h1q := (p1_1.ext h11).ext h13
 have h18 := lt_ h11.size h13.size
 obtain ⟨r16, r1d, r3w, e2k, hm1r⟩ := bd3S hm2g
 refine E z (fc call107 z (W_impl_fileReader_integer (B := B) e2k (lt_ hBw h18) h1p h1q h1o hC1b h2j p3_0)) ?_
 rintro _ w17 ⟨s10, v2l, S2m, rfl, h2n, h2o, h1s, h1t⟩
 refine Rm z ?_
 iterate 3 refine R z (ext_ z z) ?_
 refine Ra z (Ra z (Ra z (Wn (Wq (Ws (Rm z (R z (rd_neqEr d_116 z z h1s) (Wn (Wc z (fun hc1e => ?_) (fun hc1e => ?_))))))))))
 ·refine Ws (R z (bP (parts := []) (cs := [(vI 0), (sl none 0 0), (sl none 0 0)]) build_41 z z) (Rm z (Rm z (E0 (fs (cur' := [(vI 0), (sl none 0 0), (sl none 0 0)]) z_41 z z (h15.ext s10) z (lb z) (oA z) z) ?_))))
  rintro _ w3x ⟨h2p, s2q⟩
  have h1u := s2q.one
  refine Ra z (Ra z (Wn ?_))
  obtain rfl := som (ifT hm1r hc1e)
  exact Wr (ret3 hr (resC g_41 z_41 z h2p z) z z ⟨(bM (bup (bup h11 h13) s10) h1u (mem1le h11.size)), none, 0, 0, [], none, 0, 0, [], v2l, S2m, z, (ii z), onL, onL, p3_0, (h1s.chg h1u (o0n1 h1t h15.lt lr)), (o0le h1t h18), nd0, al0⟩)
 refine Wk (Wq (Ws (R z (fd f_74_6 z) ?_)))
 have h1v := h1m.ext s10
 refine R z (l1 g_72 z fid (h1v.at z)) ?_
 have h1w := ((p2_6.ext h11).ext h13).ext s10
 refine R z (lnR d_72 z h1w) (Rm z (Wn ?_))
 obtain ⟨u3y, hu2r, hm1x⟩ := bdS (ifF hm1r hc1e)
 refine WC_forN (σ := Unit) (ρ := Val × Int × (Option (Int × Int))) (fun (k1f : Nat) (_ : Unit) a w => Sat 61 [(0, (.pointer (some ⟨b1, o1, none⟩))), (2, (vI x3)), (4, (pt w0.heap.size)), (6, (pt w14.heap.size)), (9, (vI r16)), (10, (vI r1d)), (31, (sl pa2_6 pn2_6 pc2_6)), (32, (vI (x2.tags.length : Int))), (33, (vI ((k1f : Nat) : Int)))] a ∧ Below w17.heap.size w17 w) (fun (_ : Unit) a w => Sat 61 [(2, (vI x3)), (6, (pt w14.heap.size))] a ∧ Below w17.heap.size w17 w) (fun r ex a w => ex = .ret ∧ RetPost prog fn (Q30 w0 B r) a w) hu2r ?_ ?_ ?_ ?_ ?_
 ·exact fun _ q => ⟨(q.k (s9 z z z z z z z z z)), (br w17)⟩
 ·rintro k1f _ a3z w40 o41 hk1g ⟨hS2s, s12⟩ hm2t
  refine Wu (e := [(0, (.pointer (some ⟨b1, o1, none⟩))), (2, (vI x3)), (4, (pt w0.heap.size)), (6, (pt w14.heap.size)), (9, (vI r16)), (10, (vI r1d)), (31, (sl pa2_6 pn2_6 pc2_6)), (32, (vI (x2.tags.length : Int))), (33, (vI ((k1f : Nat) : Int)))]) (N := 61) ?_ hS2s
  refine Ws (R z (lss z z) (Wn (Wq (Wc z (fun _ => ?_) (fun hc => (nolt hk1g hc).elim)))))
  refine Wk (Wq (WC_block (Ws (Rm z ?_))))
  obtain ⟨x42, e2u, hm1y⟩ := bdS hm2t
  refine RX z (at_ (α := Int) d_72 z_3 z z z (h1w.ext s12) e2u) ?_
  rintro _ ⟨b43, o44, cs45, rfl, h2v, h2w, h46⟩
  obtain ⟨rfl, h47⟩ := Int_open h2w
  refine R z (l1 g_3 z fid (h2v.at0 z)) (Ra z (Ra z (Wn (Ws (Rm z (Rm z (R z (eql z z) (Wn (Wc z (fun hc1h => ?_) (fun hc1h => ?_))))))))))
  ·refine Ws (Rm z (Rm z (R z (bP (parts := [(0, (.tmp 42))]) (cs := [(vI r16), (sl none 0 0), (sl none 0 0)]) build_41 z z) (R z (fd f_74_7 z) (R z (l1 g_72 z fid ((h1v.ext s12).at z)) (Rm z (R z (inc_ hk1g (lt_ (repS.len p2_6) LEN_le) z z) (Rm z (R z (add_ z z) ?_)))))))))
   obtain ⟨x48, e2x, hm2y⟩ := bdS (ifT hm1y hc1h)
   refine RX z (rd_sliceX d_72 z_3 z z ((h1n.ext s10).ext s12) z z e2x) ?_
   rintro _ ⟨a49, n4a, c4b, rfl, h2z⟩
   refine Rm z ?_
   have h19 := lt_ (lt_ h18 s10.size) s12.size
   obtain ⟨r30, r4c, r4d, e31, hm32⟩ := bd3S hm2y
   refine E z (fc call111 z (ih2.run (B := B) (x2 := (⟨r16, ([] : List UInt8), ([] : List Val)⟩ : Val)) e31 (lt_ hBw h19) ((h1p.ext s10).ext s12) ((h1q.ext s10).ext s12) ((h1o.ext s10).ext s12) hC1b h2n onL nd_nil all_nil onL nd_nil all_nil all_nil h2z h2o)) ?_
   rintro _ w4e ⟨s1z, a20, n21, c22, S23, a24, n25, c26, S27, v33, S34, rfl, h35, h36, h37, h38, h39, h28, h1i, h1a⟩
   iterate 3 refine R z (ext_ z z) ?_
   refine E0 (fs (cur' := [(vI r30.number), (sl a20 n21 c22), (sl a24 n25 c26)]) z_41 z z (((h15.ext s10).ext s12).chg s1z (atp (nmA (nmN _) (nmN _)))) z (lb z) (oA z) z) ?_
   rintro _ w4f ⟨h3a, s3b⟩
   have h1b := s3b.one
   refine Ra z (Ra z (Wn ?_))
   have h1j := lt_ s10.size s12.size
   have h3c : ∀ k ∈ S23, k ∉ [w14.heap.size] := or1 (all_left h1a) al0 (ltnot (mem1 h15.lt) h1j)
   have h3d : ∀ k ∈ S27, k ∉ [w14.heap.size] := or1 (all_right h1a) al0 (ltnot (mem1 h15.lt) h1j)
   exact Wr (rtO (QO_retL (som hm32).symm (ret3 hr (resC g_41 z_41 z h3a z) z z ⟨(bM (bM (bup (bup (bup h11 h13) s10) s12) s1z al0) h1b (mem1le h11.size)), a20, n21, c22, S23, a24, n25, c26, S27, v33, S34, z, h35, (h36.chg h1b h3c), (h37.chg h1b h3d), h38, (h39.chg h1b (o0n1 h28 h15.lt h1j)), (o0le h28 h19), (nd_app (nd_left h1i) (nd_right h1i) (nd_dj h1i)), (all_app (o1le (all_left h1a) al0 h19) (o1le (all_right h1a) al0 h19))⟩)))
  exact Wk (Wg (R z (inc_ hk1g (lt_ (repS.len p2_6) LEN_le) z z) (Rm z (Wl (fun _ q => ⟨(), (som (ifF hm1y hc1h)).symm, ⟨(q.k (s9 z z z z z z z z z)), s12⟩⟩)))))
 ·rintro _ a4g w4h ⟨hS3e, s3f⟩
  refine Wu (e := [(0, (.pointer (some ⟨b1, o1, none⟩))), (2, (vI x3)), (4, (pt w0.heap.size)), (6, (pt w14.heap.size)), (9, (vI r16)), (10, (vI r1d)), (31, (sl pa2_6 pn2_6 pc2_6)), (32, (vI (x2.tags.length : Int))), (33, (vI ((x2.tags.length : Nat) : Int)))]) (N := 61) ?_ hS3e
  refine Ws (R z (lss z z) (Wn (Wq (Wc z (fun hc => (noltt hc).elim) (fun _ => ?_)))))
  exact WC_exit (fun a' ha' => ⟨rfl, ⟨(Sat.weaken ha' (s2 z z)), s3f⟩⟩)
 ·rintro _ a3g w4i rfl ⟨hS4j, s1c⟩
  have hm3h := elL hm1x
  revert a3g
  refine Wo (Ws (R z (bP (parts := []) (cs := [(vI 0), (sl none 0 0), (sl none 0 0)]) build_41 z z) (Rm z (Rm z ?_))))
  have h29 := lt_ (lt_ h18 s10.size) s1c.size
  obtain ⟨r4k, e3i, hm3j⟩ := bdS hm3h
  refine E z (fc call116 z (W_impl_fail (B := B) e3i (lt_ hBw h29) p3_0 (ii z))) ?_
  rintro _ w4l ⟨s2a, v3k, S3l, rfl, h3m, h2b⟩
  refine E0 (fs (cur' := [(vI 0), (sl none 0 0), (sl none 0 0)]) z_41 z z (((h15.ext s10).ext s1c).ext s2a) z (lb z) (oA z) z) ?_
  rintro _ w4m ⟨h3n, s3o⟩
  have h2c := s3o.one
  refine Ra z (Ra z (Wn ?_))
  obtain rfl := som hm3j
  exact Wr (ret3 hr (resC g_41 z_41 z h3n z) z z ⟨(bM (bup (bup (bup (bup h11 h13) s10) s1c) s2a) h2c (mem1le h11.size)), none, 0, 0, [], none, 0, 0, [], v3k, S3l, z, (ii z), onL, onL, p3_0, (h3m.chg h2c (o0n1 h2b h15.lt (lt_ s10.size s1c.size))), (o0le h2b h29), nd0, al0⟩)
 rintro r4n ex4o a4p w4q rfl ⟨rfl, hq3p⟩
 have hm3q := elR hm1x
 obtain rfl := som hm3q
 exact ⟨hq3p, z⟩
theorem T_impl_fileReader_option (ih : I_impl_fileReader_value n) : S_impl_fileReader_option (B_impl_fileReader_option n (F_impl_fileReader_value n)) := by
 obtain ⟨ih0, ih1, ih2, ih3, ih4, ih5⟩ := ih
 constructor
 intro B pn1_0 pc1_0 pn1_1 pc1_1 b1 o1 pn2_4 pc2_4 pn2_5 pc2_5 pn2_6 pc2_6 pn2_7 pc2_7 pa1_0 pa1_1 pa2_4 pa2_5 pa2_6 pa2_7 x1 x2 x3 res w0 hm hBw p1_0 p1_1 hC1 hC1b p2_0 p2_1 p2_2 p2_4 p2_5 p2_6 p2_7 p3_0
 unfold B_impl_fileReader_option at hm
 refine goF func113 z z (lb z) fun fn hr => Ws (E z (fb z) ?_)
 rintro _ w14 ⟨rfl, h1d⟩
 have h11 := h1d.below
 have h23 : Blk w14 w0.heap.size (vR x2 pa2_4 pn2_4 pc2_4 pa2_5 pn2_5 pc2_5 pa2_6 pn2_6 pc2_6 pa2_7 pn2_7 pc2_7) := h1d.blk
 refine E z (fa zero_41) ?_
 rintro _ w24 ⟨rfl, h1e⟩
 have h12 := h1e.below
 have h13 : Blk w24 w14.heap.size [(vI 0), (sl none 0 0), (sl none 0 0)] := h1e.blk
 refine Ra z (Ra z (Wn (Ws (Rm z (Rm z ?_)))))
 have h1f := (hC1.ext h11).ext h12
 have h1g := (p1_0.ext h11).ext h12
 have h1h := (p1_1.ext h11).ext h12
 have h15 := lt_ h11.size h12.size
 obtain ⟨r33, r34, e25, hm1i⟩ := bd2S hm
 refine E z (fc call135 z (W_impl_fileReader_take (B := B) e25 (lt_ hBw h15) h1g h1h h1f hC1b p3_0 (ii z))) ?_
 rintro _ w35 ⟨s10, a36, n37, c38, v26, S27, rfl, h1j, h1k, h1l⟩
 refine Rm z (R z (ext_ z z) (R z (ext_ z z) (Ra z (Ra z (Wn (Wq (WC_block (Ws (Rm z (R z (rd_neqEr d_116 z z h1k) (Ra z (Wn (Wc z (fun hc19 => ?_) (fun hc19 => ?_))))))))))))))
 ·refine Ws (R z (bP (parts := []) (cs := [(vI 0), (sl none 0 0), (sl none 0 0)]) build_41 z z) (Rm z (Rm z (E0 (fs (cur' := [(vI 0), (sl none 0 0), (sl none 0 0)]) z_41 z z (h13.ext s10) z (lb z) (oA z) z) ?_))))
  rintro _ w39 ⟨h28, s29⟩
  have h1m := s29.one
  refine Ra z (Ra z (Wn ?_))
  obtain rfl := som (ifT hm1i hc19)
  exact Wr (rtO (ret3 hr (resC g_41 z_41 z h28 z) z z ⟨(bM (bup (bup h11 h12) s10) h1m (mem1le h11.size)), none, 0, 0, [], none, 0, 0, [], v26, S27, z, (ii z), onL, onL, p3_0, (h1k.chg h1m (o0n1 h1l h13.lt lr)), (o0le h1l h15), nd0, al0⟩))
 refine Ws (Rm z ?_)
 obtain ⟨x3a, e2a, hm1n⟩ := bdS (ifF hm1i hc19)
 refine RX z (at_ (α := UInt8) d_25 z_5 z z z h1j e2a) ?_
 rintro _ ⟨b3b, o3c, cs3d, rfl, h2b, h2c, h3e⟩
 obtain rfl := UInt8_open h2c
 refine R z (l1 g_5 z fid (h2b.at0 z)) (R z (rd_gtr z z) (Ra z (Wn (Wc z (fun hc1a => ?_) (fun hc1a => ?_)))))
 ·refine Ws (R z (bP (parts := []) (cs := [(vI 0), (sl none 0 0), (sl none 0 0)]) build_41 z z) (Rm z (Rm z ?_)))
  have h1o := lt_ h15 s10.size
  obtain ⟨r3f, e2d, hm2e⟩ := bdS (ifT hm1n hc1a)
  refine E z (fc call116 z (W_impl_fail (B := B) e2d (lt_ hBw h1o) p3_0 (ii z))) ?_
  rintro _ w3g ⟨s1p, v2f, S2g, rfl, h2h, h1q⟩
  refine E0 (fs (cur' := [(vI 0), (sl none 0 0), (sl none 0 0)]) z_41 z z ((h13.ext s10).ext s1p) z (lb z) (oA z) z) ?_
  rintro _ w3h ⟨h2i, s2j⟩
  have h1r := s2j.one
  refine Ra z (Ra z (Wn ?_))
  obtain rfl := som hm2e
  exact Wr (rtO (ret3 hr (resC g_41 z_41 z h2i z) z z ⟨(bM (bup (bup (bup h11 h12) s10) s1p) h1r (mem1le h11.size)), none, 0, 0, [], none, 0, 0, [], v2f, S2g, z, (ii z), onL, onL, p3_0, (h2h.chg h1r (o0n1 h1q h13.lt s10.size)), (o0le h1q h1o), nd0, al0⟩))
 refine Ws (Rm z ?_)
 obtain ⟨x3i, e2k, hm1s⟩ := bdS (ifF hm1n hc1a)
 refine RX z (at_ (α := UInt8) d_25 z_5 z z z h1j e2k) ?_
 rintro _ ⟨b3j, o3k, cs3l, rfl, h2l, h2m, h3m⟩
 obtain rfl := UInt8_open h2m
 refine R z (l1 g_5 z fid (h2l.at0 z)) (R z (eql z z) (Ra z (Wn (Wc z (fun hc1b => ?_) (fun hc1b => ?_)))))
 ·refine Ws (R z (bP (parts := []) (cs := [(vI 0), (sl none 0 0), (sl none 0 0)]) build_41 z z) (Rm z (R z (add_ z z) (E0 (fs (cur' := [(vI 0), (sl none 0 0), (sl none 0 0)]) z_41 z z (h13.ext s10) z (lb z) (oA z) z) ?_))))
  rintro _ w3n ⟨h2n, s2o⟩
  refine Ra z (Ra z (Wn ?_))
  obtain rfl := som (ifT hm1s hc1b)
  exact Wr (rtO (ret3 hr (resC g_41 z_41 z h2n z) z z ⟨(bM (bup (bup h11 h12) s10) s2o.one (mem1le h11.size)), none, 0, 0, [], none, 0, 0, [], .nilIface, ([] : List Nat), z, (ii z), onL, onL, (iA _ _), errR_nil, all_nil, nd0, al0⟩))
 refine Wk (Ws (Rm z (R z (bP (parts := []) (cs := [(vI 0), (sl none 0 0), (sl none 0 0)]) build_41 z z) (R z (fd f_74_7 z) (R z (l1 g_72 z fid (((h23.ext h12).ext s10).at z)) (Rm z (R z (add_ z z) ?_)))))))
 have h16 := lt_ h15 s10.size
 obtain ⟨r2p, r3o, r3p, e2q, hm2r⟩ := bd3S (ifF hm1s hc1b)
 refine E z (fc call111 z (ih2.run (B := B) (x2 := (⟨0, ([] : List UInt8), ([] : List Val)⟩ : Val)) e2q (lt_ hBw h16) (h1g.ext s10) (h1h.ext s10) (h1f.ext s10) hC1b (ii z) onL nd_nil all_nil onL nd_nil all_nil all_nil (((p2_7.ext h11).ext h12).ext s10) (iA _ _))) ?_
 rintro _ w3q ⟨s1t, a1u, n1v, c1w, S1x, a1y, n1z, c20, S21, v2s, S2t, rfl, h2u, h2v, h2w, h2x, h2y, h22, h1c, h17⟩
 iterate 3 refine R z (ext_ z z) ?_
 refine E0 (fs (cur' := [(vI r2p.number), (sl a1u n1v c1w), (sl a1y n1z c20)]) z_41 z z ((h13.ext s10).chg s1t (atp (nmA (nmN _) (nmN _)))) z (lb z) (oA z) z) ?_
 rintro _ w3r ⟨h2z, s30⟩
 have h18 := s30.one
 refine Ra z (Ra z (Wn ?_))
 obtain rfl := som hm2r
 have h31 : ∀ k ∈ S1x, k ∉ [w14.heap.size] := or1 (all_left h17) al0 (ltnot (mem1 h13.lt) s10.size)
 have h32 : ∀ k ∈ S21, k ∉ [w14.heap.size] := or1 (all_right h17) al0 (ltnot (mem1 h13.lt) s10.size)
 exact Wr (ret3 hr (resC g_41 z_41 z h2z z) z z ⟨(bM (bM (bup (bup h11 h12) s10) s1t al0) h18 (mem1le h11.size)), a1u, n1v, c1w, S1x, a1y, n1z, c20, S21, v2s, S2t, z, h2u, (h2v.chg h18 h31), (h2w.chg h18 h32), h2x, (h2y.chg h18 (o0n1 h22 h13.lt s10.size)), (o0le h22 h16), (nd_app (nd_left h1c) (nd_right h1c) (nd_dj h1c)), (all_app (o1le (all_left h17) al0 h16) (o1le (all_right h17) al0 h16))⟩)
theorem T_impl_fileReader_checked (ih : I_impl_fileReader_value n) : S_impl_fileReader_checked (B_impl_fileReader_checked n (F_impl_fileReader_value n)) := by
 obtain ⟨ih0, ih1, ih2, ih3, ih4, ih5⟩ := ih
 constructor
 intro B pn1_0 pc1_0 pn1_1 pc1_1 b1 o1 pn2_4 pc2_4 pn2_5 pc2_5 pn2_6 pc2_6 pn2_7 pc2_7 pa1_0 pa1_1 pa2_4 pa2_5 pa2_6 pa2_7 x1 x2 x3 res w0 hm hBw p1_0 p1_1 hC1 hC1b p2_0 p2_1 p2_2 p2_4 p2_5 p2_6 p2_7 p3_0
 unfold B_impl_fileReader_checked at hm
 refine goF func114 z z (lb z) fun fn hr => Ws (E z (fb z) ?_)
 rintro _ w1b ⟨rfl, h1r⟩
 have h13 := h1r.below
 have h2j : Blk w1b w0.heap.size (vR x2 pa2_4 pn2_4 pc2_4 pa2_5 pn2_5 pc2_5 pa2_6 pn2_6 pc2_6 pa2_7 pn2_7 pc2_7) := h1r.blk
 refine E z (fa zero_41) ?_
 rintro _ w2k ⟨rfl, h1s⟩
 have h17 := h1s.below
 have h14 : Blk w2k w1b.heap.size [(vI 0), (sl none 0 0), (sl none 0 0)] := h1s.blk
 refine Ra z (Ra z (Wn (Ws (Rm z (R z (bP (parts := []) (cs := [(vI 0), (sl none 0 0), (sl none 0 0)]) build_41 z z) (R z (fd f_74_7 z) (R z (l1 g_72 z fid ((h2j.ext h17).at z)) (Rm z ?_))))))))
 have h1t := (hC1.ext h13).ext h17
 have h1u := (p1_0.ext h13).ext h17
 have h1v := (p1_1.ext h13).ext h17
 have h19 := lt_ h13.size h17.size
 obtain ⟨r1j, r3l, r3m, e2l, hm1w⟩ := bd3S hm
 refine E z (fc call111 z (ih2.run (B := B) (x2 := (⟨0, ([] : List UInt8), ([] : List Val)⟩ : Val)) e2l (lt_ hBw h19) h1u h1v h1t hC1b (ii z) onL nd_nil all_nil onL nd_nil all_nil all_nil ((p2_7.ext h13).ext h17) p3_0)) ?_
 rintro _ w2m ⟨s10, a1c, n1d, c1e, S1x, a1f, n1g, c1h, S1y, v2n, S2o, rfl, h2p, h1z, h20, h21, h22, h23, h1k, h1i⟩
 refine Rm z ?_
 iterate 3 refine R z (ext_ z z) ?_
 refine E z (fa zero_41) ?_
 rintro _ w2q ⟨rfl, h24⟩
 have h11 := h24.below
 have h2r : Blk w2q w2m.heap.size [(vI 0), (sl none 0 0), (sl none 0 0)] := h24.blk
 refine E0 (fs (cur' := [(vI r1j.number), (sl a1c n1d c1e), (sl a1f n1g c1h)]) z_41 z z h2r z (lb z) (oA z) z) ?_
 rintro _ w3n ⟨h2s, s2t⟩
 have h12 := s2t.one
 refine Ra z (Ra z (Wn (Wq (Ws (Rm z ?_)))))
 have h25 := (h22.ext h11).chg h12 (dj_symm (mnr (errR.lt h22)))
 refine R z (rd_neqEr d_116 z z h25) (Wn (Wc z (fun hc1l => ?_) (fun hc1l => ?_)))
 ·refine Ws (R z (bP (parts := []) (cs := [(vI 0), (sl none 0 0), (sl none 0 0)]) build_41 z z) (Rm z (Rm z (E0 (fs (cur' := [(vI 0), (sl none 0 0), (sl none 0 0)]) z_41 z z (((h14.chg s10 (atp (nmA (nmN _) (nmN _)))).ext h11).chg h12 (djs (mm1 h14.lt s10.size))) z (lb z) (oA z) z) ?_))))
  rintro _ w3o ⟨h2u, s2v⟩
  have h26 := s2v.one
  refine Ra z (Ra z (Wn ?_))
  obtain rfl := som (ifT hm1w hc1l)
  exact Wr (ret3 hr (resC g_41 z_41 z h2u z) z z ⟨(bM (bM (bup (bM (bup h13 h17) s10 al0) h11) h12 (mem1le (lt_ h19 s10.size))) h26 (mem1le h13.size)), none, 0, 0, [], none, 0, 0, [], v2n, S2o, z, (ii z), onL, onL, p3_0, (h25.chg h26 (o0n1 h23 h14.lt lr)), (o0le h23 h19), nd0, al0⟩)
 refine Wk (Ws (Rm z (Rm z ?_)))
 have h1a := lt_ h19 s10.size
 have h1m := mem1le (lt_ hBw h1a)
 have h27 := ((h1t.chg s10 ((nmA (lg all_nil) (lg all_nil)) _ hC1b)).ext h11).chg h12 ((lg h1m) _ hC1b)
 have h28 := ((h1v.chg s10 (nmA (lg all_nil) (lg all_nil))).ext h11).chg h12 (lg h1m)
 have h1n := lt_ (lt_ h1a h11.size) h12.size
 obtain ⟨r3p, r3q, e2w, hm29⟩ := bd2S (ifF hm1w hc1l)
 refine E z (fc call135 z (W_impl_fileReader_take (B := B) e2w (lt_ hBw h1n) (((h1u.chg s10 (nmA (lg all_nil) (lg all_nil))).ext h11).chg h12 (lg h1m)) h28 h27 hC1b h21 (ii z))) ?_
 rintro _ w3r ⟨s15, a3s, n3t, c3u, v2x, S2y, rfl, h2z, h2a, h2b⟩
 refine Rm z (R z (ext_ z z) (R z (ext_ z z) (Ra z (Ra z (Wn (Wq (Ws (Rm z (R z (rd_neqEr d_116 z z h2a) (Wn (Wc z (fun hc1o => ?_) (fun hc1o => ?_))))))))))))
 ·refine Ws (R z (bP (parts := []) (cs := [(vI 0), (sl none 0 0), (sl none 0 0)]) build_41 z z) (Rm z (Rm z (E0 (fs (cur' := [(vI 0), (sl none 0 0), (sl none 0 0)]) z_41 z z ((((h14.chg s10 (atp (nmA (nmN _) (nmN _)))).ext h11).chg h12 (djs (mm1 h14.lt s10.size))).ext s15) z (lb z) (oA z) z) ?_))))
  rintro _ w3v ⟨h30, s31⟩
  have h2c := s31.one
  refine Ra z (Ra z (Wn ?_))
  obtain rfl := som (ifT hm29 hc1o)
  exact Wr (ret3 hr (resC g_41 z_41 z h30 z) z z ⟨(bM (bup (bM (bup (bM (bup h13 h17) s10 al0) h11) h12 (mem1le h1a)) s15) h2c (mem1le h13.size)), none, 0, 0, [], none, 0, 0, [], v2x, S2y, z, (ii z), onL, onL, p3_0, (h2a.chg h2c (o0n1 h2b h14.lt (lt_ (lt_ s10.size h11.size) h12.size))), (o0le h2b h1n), nd0, al0⟩)
 refine Wk (Wq (Wq (WC_draw (X := noX) 0 (.rd 0 (.rd 1 (.rd 2 (.rd 3 (.rd 4 (.rd 5 (.rd 6 (.rd 7 (.rd 8 (.rd 9 (.rd 10 (.ef 11 (.rd 12 .done))))))))))))) mo (by kernel_rfl) fun w3w s16 _ => dR z z (mv z) ?_)))
 obtain ⟨x3x, e32, hm33⟩ := bdS (ifF hm29 hc1o)
 refine dRX z z (at_ (α := UInt8) d_25 z_5 z z z (h2z.ext s16) e32) ?_
 rintro _ ⟨b3y, o3z, cs40, rfl, h34, h35, h41⟩
 obtain rfl := UInt8_open h35
 refine dR z z (l1 g_5 z fid (h34.at0 z)) (dR z z (rd_convUI d_5 d_3 z) (dR z z (mv z) (dR z z (rd_nil z) (dR z z (fd f_114_1 z) (dR z z (l1 g_25 z fid (((h27.ext s15).ext s16).at (j := 1) z)) (dR z z (mv z) (dR z z (mv z) ?_)))))))
 obtain ⟨x42, e36, hm37⟩ := bdS hm33
 refine dRX z z (rd_sliceX d_25 z_5 z z ((h28.ext s15).ext s16) z z e36) ?_
 rintro _ ⟨a43, n44, c45, rfl, h38⟩
 have h2d := lt_ (lt_ h1n s15.size) s16.size
 obtain ⟨r46, e39, hm2e⟩ := bdS hm37
 refine dE z z (fc call137 z (W_impl_SumOfBytes (B := B) e39 (lt_ hBw h2d) h38)) (.inr fun _ _ h => chgB (h.1)) ?_
 rintro _ w47 ⟨s18, rfl, h48⟩
 refine dR z z (nq z z) (PR_done (Wo (Wc z (fun hc1p => ?_) (fun hc1p => ?_))))
 ·refine Ws (R z (bP (parts := []) (cs := [(vI 0), (sl none 0 0), (sl none 0 0)]) build_41 z z) (Rm z (Rm z ?_)))
  have h2f := lt_ h2d s18.size
  obtain ⟨r49, e3a, hm3b⟩ := bdS (ifT hm2e hc1p)
  refine E z (fc call116 z (W_impl_fail (B := B) e3a (lt_ hBw h2f) h21 (ii z))) ?_
  rintro _ w4a ⟨s2g, v3c, S3d, rfl, h3e, h2h⟩
  refine E0 (fs (cur' := [(vI 0), (sl none 0 0), (sl none 0 0)]) z_41 z z (((((((h14.chg s10 (atp (nmA (nmN _) (nmN _)))).ext h11).chg h12 (djs (mm1 h14.lt s10.size))).ext s15).ext s16).ext s18).ext s2g) z (lb z) (oA z) z) ?_
  rintro _ w4b ⟨h3f, s3g⟩
  have h2i := s3g.one
  refine Ra z (Ra z (Wn ?_))
  obtain rfl := som hm3b
  exact Wr (ret3 hr (resC g_41 z_41 z h3f z) z z ⟨(bM (bup (bup (bup (bup (bM (bup (bM (bup h13 h17) s10 al0) h11) h12 (mem1le h1a)) s15) s16) s18) s2g) h2i (mem1le h13.size)), none, 0, 0, [], none, 0, 0, [], v3c, S3d, z, (ii z), onL, onL, p3_0, (h3e.chg h2i (o0n1 h2h h14.lt (lt_ (lt_ (lt_ (lt_ (lt_ s10.size h11.size) h12.size) s15.size) s16.size) s18.size))), (o0le h2h h2f), nd0, al0⟩)
 refine Wk (Ws (R z (lN (vs := [(vI r1j.number), (sl a1c n1d c1e), (sl a1f n1g c1h)]) g_41 z_41 z z fid ((((h2s.ext s15).ext s16).ext s18).row 0 3 z)) (Rm z (R z (add_ z z) (E0 (fs (cur' := [(vI r1j.number), (sl a1c n1d c1e), (sl a1f n1g c1h)]) z_41 z z ((((((h14.chg s10 (atp (nmA (nmN _) (nmN _)))).ext h11).chg h12 (djs (mm1 h14.lt s10.size))).ext s15).ext s16).ext s18) z (lb z) (oA z) z) ?_)))))
 rintro _ w4c ⟨h3h, s3i⟩
 have h1q := s3i.one
 refine Ra z (Ra z (Wn ?_))
 obtain rfl := som (ifF hm2e hc1p)
 have h3j : ∀ k ∈ S1x, k ∉ [w1b.heap.size] := or1 (all_left h1i) al0 (ltnot (mem1 h14.lt) lr)
 have h3k : ∀ k ∈ S1y, k ∉ [w1b.heap.size] := or1 (all_right h1i) al0 (ltnot (mem1 h14.lt) lr)
 exact Wr (ret3 hr (resC g_41 z_41 z h3h z) z z ⟨(bM (bup (bup (bup (bM (bup (bM (bup h13 h17) s10 al0) h11) h12 (mem1le h1a)) s15) s16) s18) h1q (mem1le h13.size)), a1c, n1d, c1e, S1x, a1f, n1g, c1h, S1y, .nilIface, ([] : List Nat), z, h2p, ((((((h1z.ext h11).chg h12 (dj_symm (mnr (ownS.lt h1z)))).ext s15).ext s16).ext s18).chg h1q h3j), ((((((h20.ext h11).chg h12 (dj_symm (mnr (ownS.lt h20)))).ext s15).ext s16).ext s18).chg h1q h3k), (iA _ _), errR_nil, all_nil, (nd_app (nd_left h1k) (nd_right h1k) (nd_dj h1k)), (all_app (o1le (all_left h1i) al0 h19) (o1le (all_right h1i) al0 h19))⟩)
theorem A_impl_fileReader_value : ∀ n, I_impl_fileReader_value n
  | 0 => ⟨⟨fun hm => by intros; exact nomatch (show none = some _ from hm)⟩, ⟨fun hm => by intros; exact nomatch (show none = some _ from hm)⟩, ⟨fun hm => by intros; exact nomatch (show none = some _ from hm)⟩, ⟨fun hm => by intros; exact nomatch (show none = some _ from hm)⟩, ⟨fun hm => by intros; exact nomatch (show none = some _ from hm)⟩, ⟨fun hm => by intros; exact nomatch (show none = some _ from hm)⟩⟩
  | n + 1 => ⟨T_impl_fileReader_value (A_impl_fileReader_value n), T_impl_fileReader_array (A_impl_fileReader_value n), T_impl_fileReader_items (A_impl_fileReader_value n), T_impl_fileReader_choice (A_impl_fileReader_value n), T_impl_fileReader_option (A_impl_fileReader_value n), T_impl_fileReader_checked (A_impl_fileReader_value n)⟩
theorem W_impl_fileReader_value : S_impl_fileReader_value (F_impl_fileReader_value n).impl_fileReader_value := (A_impl_fileReader_value n).1
theorem W_impl_fileReader_array : S_impl_fileReader_array (F_impl_fileReader_value n).impl_fileReader_array := (A_impl_fileReader_value n).2.1
theorem W_impl_fileReader_items : S_impl_fileReader_items (F_impl_fileReader_value n).impl_fileReader_items := (A_impl_fileReader_value n).2.2.1
theorem W_impl_fileReader_choice : S_impl_fileReader_choice (F_impl_fileReader_value n).impl_fileReader_choice := (A_impl_fileReader_value n).2.2.2.1
theorem W_impl_fileReader_option : S_impl_fileReader_option (F_impl_fileReader_value n).impl_fileReader_option := (A_impl_fileReader_value n).2.2.2.2.1
theorem W_impl_fileReader_checked : S_impl_fileReader_checked (F_impl_fileReader_value n).impl_fileReader_checked := (A_impl_fileReader_value n).2.2.2.2.2

theorem W_impl_ReadValue {x1 : Desc} {x2 : Int} {x3 : List UInt8} {x4 : Int} {res : Val × Int × Int} (hm : M_impl_ReadValue n x1 x2 x3 x4 = some res) (hBw : B ≤ w0.heap.size) (hG : Gl w0 B) (p1_0 : repS w0 B (sl pa1_0 pn1_0 pc1_0) x1.rules) (p2_0 : inI x2) (p3_0 : repS w0 B (sl pa3_0 pn3_0 pc3_0) x3) (p4_0 : inI x4) : CallsR prog 47 [(.agg #[(sl pa1_0 pn1_0 pc1_0)]), (vI x2), (sl pa3_0 pn3_0 pc3_0), (vI x4)] w0 (Q13 w0 B res) := by
 unfold M_impl_ReadValue at hm
 refine goF func47 z z (lb z) fun fn hr => Ws (E z (fb z) ?_)
 rintro _ w1c ⟨rfl, h20⟩
 have h10 := h20.below
 have h21 : Blk w1c w0.heap.size [(sl pa1_0 pn1_0 pc1_0)] := h20.blk
 refine E z (fa zero_41) ?_
 rintro _ w1p ⟨rfl, h22⟩
 have h12 := h22.below
 have h15 : Blk w1p w1c.heap.size [(vI 0), (sl none 0 0), (sl none 0 0)] := h22.blk
 refine Ra z (Ra z (Wn (Wq (Wq ?_))))
 obtain ⟨u2s, hu2t, hm23⟩ := bdS hm
 refine WC_cut (fun a w => ∃ (x1q : Bool), x1q = u2s ∧ Sat 62 [(1, (vI x2)), (2, (sl pa3_0 pn3_0 pc3_0)), (3, (vI x4)), (4, (pt w0.heap.size)), (8, (pt w1c.heap.size)), (34, (vB x1q))] a ∧ Below w1p.heap.size w1p w) ?_ ?_
 ·refine Wg (R z (lN (vs := [(sl pa1_0 pn1_0 pc1_0)]) g_31 z_31 z z fid ((h21.ext h12).row 0 1 z)) (Rm z ?_))
  obtain ⟨r2u, e2v, hm24⟩ := bdS hu2t
  refine E z (fc call76 z (W_impl_known (B := B) e2v (lt_ hBw (lt_ h10.size h12.size)) ((p1_0.ext h10).ext h12) p2_0)) ?_
  rintro _ w3p ⟨s1d, rfl⟩
  refine R z (not_ z) (Rm z ?_)
  rcases bs (!r2u) with hc19 | hc19
  ·exact Nh z hc19 (Nh z hc19 (R z (pT z hc19 z) (Rm z (Nh z z (Nh z z (Nh z z (Nh z z (R z (pT z z z) (Rm z (Nh z z (Nh z z (Nh z z (R z (pT z z z) (Wl (fun _ q => ⟨true, som (ifT hm24 hc19), (q.k (s6 z z z z z z)), s1d⟩)))))))))))))))
  have hm25 := ifF hm24 hc19
  refine Rh z hc19 (mv z) (Rh z hc19 (lss z z) (R z (pF z hc19 z) (Rm z ?_)))
  rcases bs (decide (x4 < 0)) with hc16 | hc16
  ·iterate 4 refine Nh z hc16 ?_
   exact R z (pT z hc16 z) (Rm z (Nh z z (Nh z z (Nh z z (R z (pT z z z) (Wl (fun _ q => ⟨true, som (ifT hm25 hc16), (q.k (s6 z z z z z z)), s1d⟩)))))))
  have hm26 := ifF hm25 hc16
  refine Rh z hc16 (mv z) (Rh z hc16 (mv z) ?_)
  have h27 := ((p3_0.ext h10).ext h12).ext s1d
  refine Rh z hc16 (lnR d_25 z h27) (Rh z hc16 (rd_gtr z z) (R z (pF z hc16 z) (Rm z ?_)))
  rcases bs (decide ((x3.length : Int) < x4)) with hc1a | hc1a
  ·iterate 3 refine Nh z hc1a ?_
   exact R z (pT z hc1a z) (Wl (fun _ q => ⟨true, som (ifT hm26 hc1a), (q.k (s6 z z z z z z)), s1d⟩))
  exact Rh z hc1a (mv z) (Rh z hc1a (lnR d_25 z h27) (Rh z hc1a (rd_gtr z z) (R z (pF z hc1a z) (Wl (fun _ q => ⟨decide (400 < (x3.length : Int)), som (ifF hm26 hc1a), (q.k (s6 z z z z z z)), s1d⟩)))))
 rintro a2w w2x ⟨x1q, rfl, hS3q, s11⟩
 revert a2w
 refine Wo (Wc z (fun hc1r => ?_) (fun hc1r => ?_))
 ·refine Ws (R z (bP (parts := []) (cs := [(vI 0), (sl none 0 0), (sl none 0 0)]) build_41 z z) (E0 (fs (cur' := [(vI 0), (sl none 0 0), (sl none 0 0)]) z_41 z z (h15.ext s11) z (lb z) (oA z) z) ?_))
  rintro _ w3r ⟨h2y, s2z⟩
  refine Ra z (Ra z (Wn ?_))
  obtain rfl := som (ifT hm23 hc1r)
  exact Wr (ret3 hr (resC g_41 z_41 z h2y z) z z ⟨(bM (bup (bup h10 h12) s11) s2z.one (mem1le h10.size)), none, 0, 0, [], none, 0, 0, [], z, (ii z), onL, onL, (ii z), (ii z), nd0, al0⟩)
 refine Wk (Ws (R z (lN (vs := [(sl pa1_0 pn1_0 pc1_0)]) g_31 z_31 z z fid (((h21.ext h12).ext s11).row 0 1 z)) (Rm z (R z (bP (parts := [(0, (.tmp 36)), (1, (.tmp 37))]) (cs := [(sl pa1_0 pn1_0 pc1_0), (sl pa3_0 pn3_0 pc3_0)]) build_114 z z) (E z (fb z) ?_)))))
 rintro _ w28 ⟨rfl, h29⟩
 have h17 := h29.below
 have h2a : Blk w28 w2x.heap.size [(sl pa1_0 pn1_0 pc1_0), (sl pa3_0 pn3_0 pc3_0)] := h29.blk
 refine Ra z (Wn (Ws (Rm z (Rm z (Rm z ?_)))))
 have h1e := lt_ (lt_ (lt_ h10.size h12.size) s11.size) h17.size
 have h2b := lt_ hBw h1e
 obtain ⟨r1s, r3s, r30, e31, hm2c⟩ := bd3S (ifF hm23 hc1r)
 refine E z (fc call77 z (W_impl_fileReader_value.run (B := w28.heap.size) e31 lr (repS.mono ((((p1_0.ext h10).ext h12).ext s11).ext h17) h2b) (repS.mono ((((p3_0.ext h10).ext h12).ext s11).ext h17) h2b) (h2a.row 0 2 z) h2a.lt p2_0 p4_0)) ?_
 rintro _ w32 ⟨s1b, a1g, n1h, c1i, S33, a1j, n1k, c1l, S34, v3t, S3u, rfl, h35, h2d, h2e, h36, h1t, h37, h1u, h1m⟩
 refine Rm z ?_
 iterate 3 refine R z (ext_ z z) ?_
 refine E z (fa zero_41) ?_
 rintro _ w38 ⟨rfl, h2f⟩
 have h13 := h2f.below
 have h39 : Blk w38 w32.heap.size [(vI 0), (sl none 0 0), (sl none 0 0)] := h2f.blk
 refine E0 (fs (cur' := [(vI r1s.number), (sl a1g n1h c1i), (sl a1j n1k c1l)]) z_41 z z h39 z (lb z) (oA z) z) ?_
 rintro _ w2g ⟨h3a, s3b⟩
 have h14 := s3b.one
 refine Ra z (Ra z (Wn (Ws (E z (fa zero_119) ?_))))
 rintro _ w3c ⟨rfl, h2h⟩
 have h18 := h2h.below
 have h2i : Blk w3c w2g.heap.size [(.pointer none)] := h2h.blk
 refine Wn (Wq (Ws (Rm z (R z (rd_makeIface d_121 (fun _ h => by cases h) z) ?_))))
 have h2j := ((h1t.ext h13).chg h14 (dj_symm (mnr (errR.lt h1t)))).ext h18
 rcases bs (r30.isSome) with hc1n | hc1n
 ·obtain ⟨r3v, r3w, e3d, hm3e⟩ := bd2S (ifT hm2c hc1n)
  have h1v := lt_ h1e s1b.size
  refine E z (fc call78 z (W_As_some ((((((((hG.ext h10).ext h12).ext s11).ext h17).ext s1b).ext h13).chg h14 (lg (mem1le (lt_ hBw h1v)))).ext h18) h2j e3d h2i)) ?_
  rintro _ w3x ⟨g2k, rfl, s3f, h3g, h3h, h2l, h3i, h3j⟩
  have h1w := s3f.one
  refine Wn (Wc z (fun _ => ?_) (fun hc => (bcon z hc).elim))
  refine Wq (WC_draw (X := (· ∈ [w1c.heap.size])) 0 (.rd 0 (.rd 1 (.rd 2 (.rd 3 (.rd 4 (.rd 5 (.rd 6 (.rd 7 (.rd 8 (.ef 9 (.rd 10 (.rd 11 .done)))))))))))) mo (by kernel_rfl) fun w3y s1o _ => dR z z (bP (parts := []) (cs := [(vI 0), (sl none 0 0), (sl none 0 0)]) build_41 z z) ?_)
  have h2m := h3g.ext s1o
  have h2n := lt_ s11.size h17.size
  have h2o := lt_ h2n s1b.size
  have h2p := lt_ (lt_ h2o h13.size) h14.size
  have h1x := mm1 h15.lt h2p
  refine dR z z (l1 g_119 z (atp h1x) (h2m.at z)) (dR z z (rd_nil z) (dR z z (fd f_123_0 z) ?_))
  have h3k : ∀ k ∈ [g2k], k ∉ [w2g.heap.size] := or1 (mem1 (.inl h2l)) (dj_symm (mno (errR.lt h1t) (lt_ h13.size h14.size))) (ltnot (mem1 h2i.lt) lr)
  have h2q := (h3h.chg h1w (atp h3k)).ext s1o
  have h2r : ∀ k ∈ [g2k], k ∉ [w1c.heap.size] := or1 (mem1 (.inl h2l)) (o0n1 h37 h15.lt h2n) (ltnot (mem1 h15.lt) (lt_ h2p h18.size))
  refine dR z z (l1 g_3 z (atp h2r) (h2q.at z)) (dR z z (l1 g_119 z (atp h1x) (h2m.at z)) (dR z z (rd_nil z) (dR z z (fd f_123_1 z) (dR z z (l1 g_3 z (atp h2r) (h2q.at z)) (dE0 z (fs (cur' := [(vI 0), (sl none 0 0), (sl none 0 0)]) z_41 z z ((((((((h15.ext s11).ext h17).ext s1b).ext h13).chg h14 (djs (mm1 h15.lt h2o))).ext h18).chg h1w (djs h1x)).ext s1o) z (lb z) (oA z) z) (.inr fun _ _ h => chgIn (List.mem_singleton.2 z) h.2) ?_)))))
  rintro _ w3z ⟨h3l, s3m⟩
  refine dR z z (asg z) (dR z z (asg z) (PR_done (Wo ?_)))
  obtain rfl := som hm3e
  exact Wr (ret3 hr (resC g_41 z_41 z h3l z) z z ⟨(bM (bup (bM (bup (bM (bup (bup (bup (bup (bup h10 h12) s11) h17) s1b) h13) h14 (mem1le h1v)) h18) h1w (mem1le (lt_ (lt_ h1v h13.size) h14.size))) s1o) s3m.one (mem1le h10.size)), none, 0, 0, [], none, 0, 0, [], z, (ii z), onL, onL, h3i, h3j, nd0, al0⟩)
 refine E z (fc call78 z (W_As_none h2j hc1n)) ?_
 rintro _ w40 ⟨rfl, s1f⟩
 refine Wn (Wc z (fun hc => (bcon hc z).elim) (fun _ => ?_))
 refine Wk (Ws (R z (lN (vs := [(vI r1s.number), (sl a1g n1h c1i), (sl a1j n1k c1l)]) g_41 z_41 z z fid (((h3a.ext h18).ext s1f).row 0 3 z)) (Rm z ?_)))
 have h1y := lt_ s11.size h17.size
 refine E0 (fs (cur' := [(vI r1s.number), (sl a1g n1h c1i), (sl a1j n1k c1l)]) z_41 z z (((((((h15.ext s11).ext h17).ext s1b).ext h13).chg h14 (djs (mm1 h15.lt (lt_ h1y s1b.size)))).ext h18).ext s1f) z (lb z) (oA z) z) ?_
 rintro _ w41 ⟨h3n, s3o⟩
 have h1z := s3o.one
 refine Ra z (Ra z (Wn ?_))
 obtain rfl := som (ifF hm2c hc1n)
 exact Wr (ret3 hr (resC g_41 z_41 z h3n z) z z ⟨(bM (bup (bup (bM (bup (bup (bup (bup (bup h10 h12) s11) h17) s1b) h13) h14 (mem1le (lt_ h1e s1b.size))) h18) s1f) h1z (mem1le h10.size)), a1g, n1h, c1i, S33, a1j, n1k, c1l, S34, z, h35, (((((h2d.ext h13).chg h14 (dj_symm (mnr (ownS.lt h2d)))).ext h18).ext s1f).chg h1z (o0n1 (all_left h1m) h15.lt h1y)), (((((h2e.ext h13).chg h14 (dj_symm (mnr (ownS.lt h2e)))).ext h18).ext s1f).chg h1z (o0n1 (all_right h1m) h15.lt h1y)), h36, (ii z), (nd_app (nd_left h1u) (nd_right h1u) (nd_dj h1u)), (all_app (o0le (all_left h1m) h1e) (o0le (all_right h1m) h1e))⟩)
def Q32 (w0 : World) (B : Nat) (r : Val × Int × Bool) (v : Value) (w' : World) : Prop := Bw w0 w' ∧ un3 (fun r1 r2 r3 => ∃ (a1 : Option Addr) (n1 c1 : Nat) (S1 : List Nat) (a2 : Option Addr) (n2 c2 : Nat) (S2 : List Nat), v = .tuple #[(.agg #[vI r1.number, sl a1 n1 c1, sl a2 n2 c2]), (vI r2), (vB r3)] ∧ inI r1.number ∧ ownS w' S1 (sl a1 n1 c1) r1.bytes ∧ ownS w' S2 (sl a2 n2 c2) r1.items ∧ inI r2 ∧ (S1 ++ S2).Nodup ∧ (∀ k ∈ (S1 ++ S2), w0.heap.size ≤ k)) r
theorem W_impl_readPart {x1 : Desc} {x2 : List UInt8} {x3 : Str} {res : Val × Int × Bool} (hm : M_impl_readPart n x1 x2 x3 = some res) (hBw : B ≤ w0.heap.size) (hG : Gl w0 B) (p1_0 : repS w0 B (sl pa1_0 pn1_0 pc1_0) x1.rules) (p2_0 : repS w0 B (sl pa2_0 pn2_0 pc2_0) x2) (p3_0 : x3.b.length ≤ LEN) : CallsR prog 39 [(.agg #[(sl pa1_0 pn1_0 pc1_0)]), (sl pa2_0 pn2_0 pc2_0), (Str.v x3)] w0 (Q32 w0 B res) := by
 unfold M_impl_readPart at hm
 refine goF func39 z z (lb z) fun fn hr => Ws (E z (fb z) ?_)
 rintro _ w1j ⟨rfl, h1t⟩
 have h13 := h1t.below
 have h1u : Blk w1j w0.heap.size [(sl pa1_0 pn1_0 pc1_0)] := h1t.blk
 refine E z (fa zero_41) ?_
 rintro _ w28 ⟨rfl, h1v⟩
 have h14 := h1v.below
 have h15 : Blk w28 w1j.heap.size [(vI 0), (sl none 0 0), (sl none 0 0)] := h1v.blk
 refine Ra z (Ra z (Wn (Ws ?_)))
 have h1w := h1u.ext h14
 refine R z (lN (vs := [(sl pa1_0 pn1_0 pc1_0)]) g_31 z_31 z z fid (h1w.row 0 1 z)) (Rm z (Rm z ?_))
 have h1x := (p1_0.ext h13).ext h14
 have h1y := (p2_0.ext h13).ext h14
 have h1k := lt_ h13.size h14.size
 obtain ⟨r1a, r2s, e29, hm1z⟩ := bd2S hm
 refine E z (fc call31 z (W_impl_LocatePart (B := B) e29 (lt_ hBw h1k) h1x h1y p3_0)) ?_
 rintro _ w2a ⟨s10, rfl, h2t, h20, h2b, h2u⟩
 refine Rm z (R z (ext_ z z) (R z (ext_ z z) (E z (fa zero_54) ?_)))
 rintro _ w2c ⟨rfl, h21⟩
 have h12 := h21.below
 have h22 : Blk w2c w2a.heap.size [(Str.v (⟨[]⟩ : Str)), (vI 0), (vI 0), (vI 0)] := h21.blk
 refine E0 (fs (cur' := [(Str.v r1a.path), (vI r1a.rule), (vI r1a.start), (vI r1a.end_)]) z_54 z z h22 z (lb z) (oA z) z) ?_
 rintro _ w2v ⟨h1l, s2d⟩
 have h11 := s2d.one
 refine Ra z (Wn (Wq (Ws (Rm z (R z (not_ z) (Wn (Wc z (fun hc1m => ?_) (fun hc1m => ?_))))))))
 ·refine Ws (R z (bP (parts := []) (cs := [(vI 0), (sl none 0 0), (sl none 0 0)]) build_41 z z) (E0 (fs (cur' := [(vI 0), (sl none 0 0), (sl none 0 0)]) z_41 z z (((h15.ext s10).ext h12).chg h11 (djs (mm1 h15.lt s10.size))) z (lb z) (oA z) z) ?_))
  rintro _ w2w ⟨h2e, s2f⟩
  refine Ra z (Ra z (Wn ?_))
  obtain rfl := som (ifT hm1z hc1m)
  exact Wr (ret3 hr (resC g_41 z_41 z h2e z) z z ⟨(bM (bM (bup (bup (bup h13 h14) s10) h12) h11 (mem1le (lt_ h1k s10.size))) s2f.one (mem1le h13.size)), none, 0, 0, [], none, 0, 0, [], z, (ii z), onL, onL, (ii z), nd0, al0⟩)
 refine Wk (Ws (R z (lN (vs := [(sl pa1_0 pn1_0 pc1_0)]) g_31 z_31 z z fid ((((h1w.ext s10).ext h12).chg h11 (djs (mm1 h1u.lt (lt_ h14.size s10.size)))).row 0 1 z)) (R z (fd f_54_1 z) (R z (l1 g_3 z fid (h1l.at z)) (Rm z (R z (fd f_54_2 z) (R z (l1 g_3 z fid (h1l.at z)) ?_)))))))
 have h1n := lt_ h1k s10.size
 have h1o := mem1le (lt_ hBw h1n)
 have h1b := lt_ (lt_ h1n h12.size) h11.size
 obtain ⟨r1p, r2x, r2y, e2g, hm2h⟩ := bd3S (ifF hm1z hc1m)
 refine E z (fc call47 z (W_impl_ReadValue (B := B) e2g (lt_ hBw h1b) (((((hG.ext h13).ext h14).ext s10).ext h12).chg h11 (lg h1o)) (((h1x.ext s10).ext h12).chg h11 (lg h1o)) h20 (((h1y.ext s10).ext h12).chg h11 (lg h1o)) h2b)) ?_
 rintro _ w2i ⟨s16, a1c, n1d, c1e, S2j, a1f, n1g, c1h, S2k, rfl, h2l, h23, h24, h2z, h30, h1q, h1i⟩
 refine Rm z ?_
 iterate 3 refine R z (ext_ z z) ?_
 refine E z (fa zero_41) ?_
 rintro _ w2m ⟨rfl, h25⟩
 have h18 := h25.below
 have h2n : Blk w2m w2i.heap.size [(vI 0), (sl none 0 0), (sl none 0 0)] := h25.blk
 refine E0 (fs (cur' := [(vI r1p.number), (sl a1c n1d c1e), (sl a1f n1g c1h)]) z_41 z z h2n z (lb z) (oA z) z) ?_
 rintro _ w31 ⟨h2o, s2p⟩
 have h19 := s2p.one
 refine Ra z (Ra z (Wn (Wq (WC_draw (X := (· ∈ [w1j.heap.size])) 0 (.rd 0 (.rd 1 (.rd 2 (.ef 3 (.rd 4 (.rd 5 .done)))))) mo (by kernel_rfl) fun w32 s17 _ => ?_))))
 have h1r := lt_ (lt_ s10.size h12.size) h11.size
 have h26 := mm1 h15.lt (lt_ h1r s16.size)
 refine dR z z (lN (vs := [(vI r1p.number), (sl a1c n1d c1e), (sl a1f n1g c1h)]) g_41 z_41 z z (atp h26) ((h2o.ext s17).row 0 3 z)) (dR z z (fd f_54_1 z) ?_)
 have h27 := mm1 h15.lt s10.size
 refine dR z z (l1 g_3 z (atp h27) (((((h1l.ext s16).ext h18).chg h19 (djs (mm1 h22.lt (lt_ h11.size s16.size)))).ext s17).at z)) (dE0 z (fs (cur' := [(vI r1p.number), (sl a1c n1d c1e), (sl a1f n1g c1h)]) z_41 z z (((((((h15.ext s10).ext h12).chg h11 (djs h27)).ext s16).ext h18).chg h19 (djs h26)).ext s17) z (lb z) (oA z) z) (.inr fun _ _ h => chgIn (List.mem_singleton.2 z) h.2) ?_)
 rintro _ w33 ⟨h2q, s2r⟩
 have h1s := s2r.one
 refine dR z z (asg z) (dR z z (asg z) (PR_done (Wo ?_)))
 obtain rfl := som hm2h
 exact Wr (ret3 hr (resC g_41 z_41 z h2q z) z z ⟨(bM (bup (bM (bup (bup (bM (bup (bup (bup h13 h14) s10) h12) h11 (mem1le h1n)) s16) h18) h19 (mem1le (lt_ h1b s16.size))) s17) h1s (mem1le h13.size)), a1c, n1d, c1e, S2j, a1f, n1g, c1h, S2k, z, h2l, ((((h23.ext h18).chg h19 (dj_symm (mnr (ownS.lt h23)))).ext s17).chg h1s (o0n1 (all_left h1i) h15.lt h1r)), ((((h24.ext h18).chg h19 (dj_symm (mnr (ownS.lt h24)))).ext s17).chg h1s (o0n1 (all_right h1i) h15.lt h1r)), h20, (nd_app (nd_left h1q) (nd_right h1q) (nd_dj h1q)), (all_app (o0le (all_left h1i) h1b) (o0le (all_right h1i) h1b))⟩)
theorem W_impl_ReadPart {x1 : Desc} {x2 : List UInt8} {x3 : Str} {res : Val × Bool} (hm : M_impl_ReadPart n x1 x2 x3 = some res) (hBw : B ≤ w0.heap.size) (hG : Gl w0 B) (p1_0 : repS w0 B (sl pa1_0 pn1_0 pc1_0) x1.rules) (p2_0 : repS w0 B (sl pa2_0 pn2_0 pc2_0) x2) (p3_0 : x3.b.length ≤ LEN) : CallsR prog 17 [(.agg #[(sl pa1_0 pn1_0 pc1_0)]), (sl pa2_0 pn2_0 pc2_0), (Str.v x3)] w0 (Q16 w0 B res) := by
 unfold M_impl_ReadPart at hm
 refine goF func17 z z (lb z) fun fn hr => Ws (E z (fb z) ?_)
 rintro _ w1h ⟨rfl, h1i⟩
 have h10 := h1i.below
 have h1n : Blk w1h w0.heap.size [(sl pa1_0 pn1_0 pc1_0)] := h1i.blk
 refine E z (fa zero_41) ?_
 rintro _ w1o ⟨rfl, h1j⟩
 have h11 := h1j.below
 have h12 : Blk w1o w1h.heap.size [(vI 0), (sl none 0 0), (sl none 0 0)] := h1j.blk
 refine Ra z (Wn (Ws (R z (lN (vs := [(sl pa1_0 pn1_0 pc1_0)]) g_31 z_31 z z fid ((h1n.ext h11).row 0 1 z)) (Rm z (Rm z ?_)))))
 have h13 := lt_ h10.size h11.size
 obtain ⟨r1e, r21, r22, e1p, hm1q⟩ := bd3S hm
 refine E z (fc call39 z (W_impl_readPart (B := B) e1p (lt_ hBw h13) ((hG.ext h10).ext h11) ((p1_0.ext h10).ext h11) ((p2_0.ext h10).ext h11) p3_0)) ?_
 rintro _ w1r ⟨s14, a15, n16, c17, S1s, a18, n19, c1a, S1t, rfl, h1u, h1k, h1l, h23, h1f, h1b⟩
 refine Rm z ?_
 iterate 3 refine R z (ext_ z z) ?_
 refine E z (fa zero_41) ?_
 rintro _ w1v ⟨rfl, h1m⟩
 have h1c := h1m.below
 have h1w : Blk w1v w1r.heap.size [(vI 0), (sl none 0 0), (sl none 0 0)] := h1m.blk
 refine E0 (fs (cur' := [(vI r1e.number), (sl a15 n16 c17), (sl a18 n19 c1a)]) z_41 z z h1w z (lb z) (oA z) z) ?_
 rintro _ w24 ⟨h1x, s1y⟩
 have h1d := s1y.one
 refine Ra z (Ra z (Wn (Ws (R z (lN (vs := [(vI r1e.number), (sl a15 n16 c17), (sl a18 n19 c1a)]) g_41 z_41 z z fid (h1x.row 0 3 z)) (Rm z (E0 (fs (cur' := [(vI r1e.number), (sl a15 n16 c17), (sl a18 n19 c1a)]) z_41 z z (((h12.ext s14).ext h1c).chg h1d (djs (mm1 h12.lt s14.size))) z (lb z) (oA z) z) ?_))))))
 rintro _ w25 ⟨h1z, s20⟩
 have h1g := s20.one
 refine Ra z (Wn ?_)
 obtain rfl := som hm1q
 exact Wr (ret2 hr (resC g_41 z_41 z h1z z) z ⟨(bM (bM (bup (bup (bup h10 h11) s14) h1c) h1d (mem1le (lt_ h13 s14.size))) h1g (mem1le h10.size)), a15, n16, c17, S1s, a18, n19, c1a, S1t, z, h1u, (((h1k.ext h1c).chg h1d (dj_symm (mnr (ownS.lt h1k)))).chg h1g (o0n1 (all_left h1b) h12.lt lr)), (((h1l.ext h1c).chg h1d (dj_symm (mnr (ownS.lt h1l)))).chg h1g (o0n1 (all_right h1b) h12.lt lr)), (nd_app (nd_left h1f) (nd_right h1f) (nd_dj h1f)), (all_app (o0le (all_left h1b) h13) (o0le (all_right h1b) h13))⟩)
theorem W_laws_eqByteS {x1 : List UInt8} {x2 : List UInt8} {res : Bool} (hm : M_laws_eqByteS x1 x2 = some res) (hBw : B ≤ w0.heap.size) (p1_0 : repS w0 B (sl pa1_0 pn1_0 pc1_0) x1) (p2_0 : repS w0 B (sl pa2_0 pn2_0 pc2_0) x2) : CallsR prog 11 [(sl pa1_0 pn1_0 pc1_0), (sl pa2_0 pn2_0 pc2_0)] w0 (Q7 w0 B res) := by
 unfold M_laws_eqByteS at hm
 refine goF func11 z z (lb z) fun fn hr => Ws (Ra z (Wn (Wq (Ws (Rm z (R z (lnR d_25 z p1_0) (Rm z (R z (lnR d_25 z p2_0) (R z (nq z z) (Wn (Wc z (fun hc12 => ?_) (fun hc12 => ?_))))))))))))
 ·refine Ws (Ra z (Wn ?_))
  obtain rfl := som (ifT hm hc12)
  exact Wr (ret1 hr z ⟨(br w0), z⟩)
 refine Wk (Wq (Ws (Ra z (Wn ?_))))
 obtain ⟨u1q, hu1a, hm15⟩ := bdS (ifF hm hc12)
 refine WC_forN (σ := Unit) (ρ := Bool) (fun (k13 : Nat) (_ : Unit) a w => Sat 26 [(0, (sl pa1_0 pn1_0 pc1_0)), (1, (sl pa2_0 pn2_0 pc2_0)), (5, (vI ((k13 : Nat) : Int)))] a ∧ Below w0.heap.size w0 w) (fun (_ : Unit) a w => Sat 26 [] a ∧ Below w0.heap.size w0 w) (fun r ex a w => ex = .ret ∧ RetPost prog fn (Q7 w0 B r) a w) hu1a ?_ ?_ ?_ ?_ ?_
 ·exact fun _ q => ⟨(q.k (s3 z z z)), (br w0)⟩
 ·rintro k13 _ a1r w1s o1t hk16 ⟨hS1b, s10⟩ hm1c
  refine Wu (e := [(0, (sl pa1_0 pn1_0 pc1_0)), (1, (sl pa2_0 pn2_0 pc2_0)), (5, (vI ((k13 : Nat) : Int)))]) (N := 26) ?_ hS1b
  refine Wq (Ws (Rm z (Rm z ?_)))
  have h17 := p1_0.ext s10
  refine R z (lnR d_25 z h17) (R z (lss z z) (Wn (Wc z (fun _ => ?_) (fun hc => (nolt hk16 hc).elim))))
  refine Wk (Wq (WC_block (Wq (WC_draw (X := noX) 0 (.rd 0 (.rd 1 (.rd 2 (.rd 3 (.rd 4 (.rd 5 (.rd 6 (.rd 7 (.rd 8 .done))))))))) mo (by kernel_rfl) fun w1u s11 _ => dR z z (mv z) (dR z z (mv z) ?_)))))
  obtain ⟨x1v, e1d, hm1e⟩ := bdS hm1c
  refine dRX z z (at_ (α := UInt8) d_25 z_5 z z z (h17.ext s11) e1d) ?_
  rintro _ ⟨b1w, o1x, cs1y, rfl, h1f, h1g, h1z⟩
  obtain rfl := UInt8_open h1g
  refine dR z z (l1 g_5 z fid (h1f.at0 z)) (dR z z (mv z) (dR z z (mv z) ?_))
  obtain ⟨x20, e1h, hm18⟩ := bdS hm1e
  refine dRX z z (at_ (α := UInt8) d_25 z_5 z z z ((p2_0.ext s10).ext s11) e1h) ?_
  rintro _ ⟨b21, o22, cs23, rfl, h1i, h1j, h24⟩
  obtain rfl := UInt8_open h1j
  refine dR z z (l1 g_5 z fid (h1i.at0 z)) (dR z z (nq z z) (PR_done (Wo (Wc z (fun hc14 => ?_) (fun hc14 => ?_)))))
  ·exact Ws (Ra z (Wn (Wr (rtO (QO_retL (som (ifT hm18 hc14)).symm (ret1 hr z ⟨(bup s10 s11), z⟩))))))
  exact Wk (Wg (Rm z (R z (inc_ hk16 (lt_ (repS.len p1_0) LEN_le) z z) (Ra z (Wl (fun _ q => ⟨(), (som (ifF hm18 hc14)).symm, ⟨(q.k (s3 z z z)), (bup s10 s11)⟩⟩))))))
 ·rintro _ a25 w26 ⟨hS1k, s19⟩
  refine Wu (e := [(0, (sl pa1_0 pn1_0 pc1_0)), (1, (sl pa2_0 pn2_0 pc2_0)), (5, (vI ((x1.length : Nat) : Int)))]) (N := 26) ?_ hS1k
  refine Wq (Ws (Rm z (Rm z (R z (lnR d_25 z (p1_0.ext s19)) (R z (lss z z) (Wn (Wc z (fun hc => (noltt hc).elim) (fun _ => ?_))))))))
  exact WC_exit (fun a' ha' => ⟨rfl, ⟨(Sat.weaken ha' sn), s19⟩⟩)
 ·rintro _ a1l w27 rfl ⟨hS28, s1m⟩
  have hm1n := elL hm15
  revert a1l
  refine Wo (Ws (Ra z (Wn ?_)))
  obtain rfl := som hm1n
  exact Wr (ret1 hr z ⟨s1m, z⟩)
 rintro r29 ex2a a2b w2c rfl ⟨rfl, hq1o⟩
 have hm1p := elR hm15
 obtain rfl := som hm1p
 exact ⟨hq1o, z⟩
structure S_laws_eqValue (f : Val → Val → Option Bool) : Prop where
  run : ∀ {B pn1_1 pc1_1 pn1_2 pc1_2 pn2_1 pc2_1 pn2_2 pc2_2 : Nat} {pa1_1 pa1_2 pa2_1 pa2_2 : Option Addr} {x1 : Val} {x2 : Val} {res : Bool} {w0 : World} (hm : f x1 x2 = some res) (hBw : B ≤ w0.heap.size) (p1_0 : inI x1.number) (p1_1 : repS w0 B (sl pa1_1 pn1_1 pc1_1) x1.bytes) (p1_2 : repS w0 B (sl pa1_2 pn1_2 pc1_2) x1.items) (p2_0 : inI x2.number) (p2_1 : repS w0 B (sl pa2_1 pn2_1 pc2_1) x2.bytes) (p2_2 : repS w0 B (sl pa2_2 pn2_2 pc2_2) x2.items), CallsR prog 18 [(.agg #[(vI x1.number), (sl pa1_1 pn1_1 pc1_1), (sl pa1_2 pn1_2 pc1_2)]), (.agg #[(vI x2.number), (sl pa2_1 pn2_1 pc2_1), (sl pa2_2 pn2_2 pc2_2)])] w0 (Q7 w0 B res)
structure S_laws_eqValueS (f : (List Val) → (List Val) → Option Bool) : Prop where
  run : ∀ {B pn1_0 pc1_0 pn2_0 pc2_0 : Nat} {pa1_0 pa2_0 : Option Addr} {x1 : List Val} {x2 : List Val} {res : Bool} {w0 : World} (hm : f x1 x2 = some res) (hBw : B ≤ w0.heap.size) (p1_0 : repS w0 B (sl pa1_0 pn1_0 pc1_0) x1) (p2_0 : repS w0 B (sl pa2_0 pn2_0 pc2_0) x2), CallsR prog 40 [(sl pa1_0 pn1_0 pc1_0), (sl pa2_0 pn2_0 pc2_0)] w0 (Q7 w0 B res)
abbrev I_laws_eqValue (n : Nat) : Prop := S_laws_eqValue (F_laws_eqValue n).laws_eqValue ∧ S_laws_eqValueS (F_laws_eqValue n).laws_eqValueS
theorem T_laws_eqValue (ih : I_laws_eqValue n) : S_laws_eqValue (B_laws_eqValue n (F_laws_eqValue n)) := by
 obtain ⟨ih0, ih1⟩ := ih
 constructor
 intro B pn1_1 pc1_1 pn1_2 pc1_2 pn2_1 pc2_1 pn2_2 pc2_2 pa1_1 pa1_2 pa2_1 pa2_2 x1 x2 res w0 hm hBw p1_0 p1_1 p1_2 p2_0 p2_1 p2_2
 unfold B_laws_eqValue at hm
 refine goF func18 z z (lb z) fun fn hr => Ws (E z (fb z) ?_)
 rintro _ w18 ⟨rfl, h19⟩
 have h11 := h19.below
 have h1f : Blk w18 w0.heap.size [(vI x1.number), (sl pa1_1 pn1_1 pc1_1), (sl pa1_2 pn1_2 pc1_2)] := h19.blk
 refine E z (fb z) ?_
 rintro _ w1g ⟨rfl, h1a⟩
 have h10 := h1a.below
 have h13 : Blk w1g w18.heap.size [(vI x2.number), (sl pa2_1 pn2_1 pc2_1), (sl pa2_2 pn2_2 pc2_2)] := h1a.blk
 refine Ra z (Wn (Wq (Ws (R z (fd f_41_0 z) ?_))))
 have h14 := h1f.ext h10
 refine R z (l1 g_3 z fid (h14.at z)) (R z (fd f_41_0 z) (R z (l1 g_3 z fid (h13.at z)) (R z (nq z z) (Wn (Wc z (fun hc15 => ?_) (fun hc15 => ?_))))))
 ·refine Ws (Ra z (Wn ?_))
  obtain rfl := som (ifT hm hc15)
  exact Wr (ret1 hr z ⟨(bup h11 h10), z⟩)
 refine Wk (Wq (Ws (R z (fd f_41_1 z) (R z (l1 g_25 z fid (h14.at z)) (R z (fd f_41_1 z) (R z (l1 g_25 z fid (h13.at z)) ?_))))))
 have h1b := lt_ h11.size h10.size
 obtain ⟨r1j, e1h, hm1c⟩ := bdS (ifF hm hc15)
 refine E z (fc call11 z (W_laws_eqByteS (B := B) e1h (lt_ hBw h1b) ((p1_1.ext h11).ext h10) ((p2_1.ext h11).ext h10))) ?_
 rintro _ w1k ⟨s12, rfl⟩
 refine R z (not_ z) (Wn (Wc z (fun hc16 => ?_) (fun hc16 => ?_)))
 ·refine Ws (Ra z (Wn ?_))
  obtain rfl := som (ifT hm1c hc16)
  exact Wr (ret1 hr z ⟨(bup (bup h11 h10) s12), z⟩)
 refine Wk (Wq (Ws (R z (fd f_41_2 z) (R z (l1 g_39 z fid ((h14.ext s12).at z)) (R z (fd f_41_2 z) (R z (l1 g_39 z fid ((h13.ext s12).at z)) ?_))))))
 obtain ⟨r1l, e1i, hm1d⟩ := bdS (ifF hm1c hc16)
 refine E z (fc call40 z (ih1.run (B := B) e1i (lt_ hBw (lt_ h1b s12.size)) (((p1_2.ext h11).ext h10).ext s12) (((p2_2.ext h11).ext h10).ext s12))) ?_
 rintro _ w1m ⟨s1e, rfl⟩
 refine R z (not_ z) (Wn (Wc z (fun hc17 => ?_) (fun hc17 => ?_)))
 ·refine Ws (Ra z (Wn ?_))
  obtain rfl := som (ifT hm1d hc17)
  exact Wr (ret1 hr z ⟨(bup (bup (bup h11 h10) s12) s1e), z⟩)
 refine Wk (Ws (Ra z (Wn ?_)))
 obtain rfl := som (ifF hm1d hc17)
 exact Wr (ret1 hr z ⟨(bup (bup (bup h11 h10) s12) s1e), z⟩)
theorem T_laws_eqValueS (ih : I_laws_eqValue n) : S_laws_eqValueS (B_laws_eqValueS n (F_laws_eqValue n)) := by
 obtain ⟨ih0, ih1⟩ := ih
 constructor
 intro B pn1_0 pc1_0 pn2_0 pc2_0 pa1_0 pa2_0 x1 x2 res w0 hm hBw p1_0 p2_0
 unfold B_laws_eqValueS at hm
 refine goF func40 z z (lb z) fun fn hr => Ws (Ra z (Wn (Wq (Ws (Rm z (R z (lnR d_39 z p1_0) (Rm z (R z (lnR d_39 z p2_0) (R z (nq z z) (Wn (Wc z (fun hc12 => ?_) (fun hc12 => ?_))))))))))))
 ·refine Ws (Ra z (Wn ?_))
  obtain rfl := som (ifT hm hc12)
  exact Wr (ret1 hr z ⟨(br w0), z⟩)
 refine Wk (Wq (Ws (Ra z (Wn ?_))))
 obtain ⟨u2d, hu1b, hm15⟩ := bdS (ifF hm hc12)
 refine WC_forN (σ := Unit) (ρ := Bool) (fun (k13 : Nat) (_ : Unit) a w => Sat 27 [(0, (sl pa1_0 pn1_0 pc1_0)), (1, (sl pa2_0 pn2_0 pc2_0)), (5, (vI ((k13 : Nat) : Int)))] a ∧ Below w0.heap.size w0 w) (fun (_ : Unit) a w => Sat 27 [] a ∧ Below w0.heap.size w0 w) (fun r ex a w => ex = .ret ∧ RetPost prog fn (Q7 w0 B r) a w) hu1b ?_ ?_ ?_ ?_ ?_
 ·exact fun _ q => ⟨(q.k (s3 z z z)), (br w0)⟩
 ·rintro k13 _ a2e w2f o2g hk16 ⟨hS1c, s10⟩ hm1d
  refine Wu (e := [(0, (sl pa1_0 pn1_0 pc1_0)), (1, (sl pa2_0 pn2_0 pc2_0)), (5, (vI ((k13 : Nat) : Int)))]) (N := 27) ?_ hS1c
  refine Wq (Ws (Rm z (Rm z ?_)))
  have h17 := p1_0.ext s10
  refine R z (lnR d_39 z h17) (R z (lss z z) (Wn (Wc z (fun _ => ?_) (fun hc => (nolt hk16 hc).elim))))
  refine Wk (Wq (WC_block (Wq (WC_draw (X := noX) 0 (.rd 0 (.rd 1 (.rd 2 (.rd 3 (.rd 4 (.rd 5 (.rd 6 (.rd 7 (.ef 8 (.rd 9 .done)))))))))) mo (by kernel_rfl) fun w2h s11 _ => dR z z (mv z) (dR z z (mv z) ?_)))))
  obtain ⟨x1e, e1f, hm1g⟩ := bdS hm1d
  refine dRX z z (at_ (α := Val) d_39 z_41 z z z (h17.ext s11) e1f) ?_
  rintro _ ⟨b2i, o2j, cs2k, rfl, h1h, h1i, h2l⟩
  obtain ⟨a1j, n1k, c1l, a1m, n1n, c1o, rfl, h1p, h1q, h1r⟩ := Val_open h1i
  refine dR z z (lN (vs := [(vI x1e.number), (sl a1j n1k c1l), (sl a1m n1n c1o)]) g_41 z_41 z z fid h1h) (dR z z (mv z) (dR z z (mv z) ?_))
  obtain ⟨x1s, e1t, hm1u⟩ := bdS hm1g
  refine dRX z z (at_ (α := Val) d_39 z_41 z z z ((p2_0.ext s10).ext s11) e1t) ?_
  rintro _ ⟨b2m, o2n, cs2o, rfl, h1v, h1w, h2p⟩
  obtain ⟨a1x, n1y, c1z, a20, n21, c22, rfl, h23, h24, h25⟩ := Val_open h1w
  refine dR z z (lN (vs := [(vI x1s.number), (sl a1x n1y c1z), (sl a20 n21 c22)]) g_41 z_41 z z fid h1v) ?_
  obtain ⟨r2q, e26, hm18⟩ := bdS hm1u
  refine dE z z (fc call18 z (ih0.run (B := B) e26 (lt_ hBw (lt_ s10.size s11.size)) h1p h1q h1r h23 h24 h25)) (.inr fun _ _ h => chgB (h.1)) ?_
  rintro _ w2r ⟨s19, rfl⟩
  refine dR z z (not_ z) (PR_done (Wo (Wc z (fun hc14 => ?_) (fun hc14 => ?_))))
  ·exact Ws (Ra z (Wn (Wr (rtO (QO_retL (som (ifT hm18 hc14)).symm (ret1 hr z ⟨(bup (bup s10 s11) s19), z⟩))))))
  exact Wk (Wg (Rm z (R z (inc_ hk16 (lt_ (repS.len p1_0) LEN_le) z z) (Ra z (Wl (fun _ q => ⟨(), (som (ifF hm18 hc14)).symm, ⟨(q.k (s3 z z z)), (bup (bup s10 s11) s19)⟩⟩))))))
 ·rintro _ a2s w2t ⟨hS27, s1a⟩
  refine Wu (e := [(0, (sl pa1_0 pn1_0 pc1_0)), (1, (sl pa2_0 pn2_0 pc2_0)), (5, (vI ((x1.length : Nat) : Int)))]) (N := 27) ?_ hS27
  refine Wq (Ws (Rm z (Rm z (R z (lnR d_39 z (p1_0.ext s1a)) (R z (lss z z) (Wn (Wc z (fun hc => (noltt hc).elim) (fun _ => ?_))))))))
  exact WC_exit (fun a' ha' => ⟨rfl, ⟨(Sat.weaken ha' sn), s1a⟩⟩)
 ·rintro _ a28 w2u rfl ⟨hS2v, s29⟩
  have hm2a := elL hm15
  revert a28
  refine Wo (Ws (Ra z (Wn ?_)))
  obtain rfl := som hm2a
  exact Wr (ret1 hr z ⟨s29, z⟩)
 rintro r2w ex2x a2y w2z rfl ⟨rfl, hq2b⟩
 have hm2c := elR hm15
 obtain rfl := som hm2c
 exact ⟨hq2b, z⟩
theorem A_laws_eqValue : ∀ n, I_laws_eqValue n
  | 0 => ⟨⟨fun hm => by intros; exact nomatch (show none = some _ from hm)⟩, ⟨fun hm => by intros; exact nomatch (show none = some _ from hm)⟩⟩
  | n + 1 => ⟨T_laws_eqValue (A_laws_eqValue n), T_laws_eqValueS (A_laws_eqValue n)⟩
theorem W_laws_eqValue : S_laws_eqValue (F_laws_eqValue n).laws_eqValue := (A_laws_eqValue n).1
theorem W_laws_eqValueS : S_laws_eqValueS (F_laws_eqValue n).laws_eqValueS := (A_laws_eqValue n).2

theorem W_laws_eqStringS {x1 : List Str} {x2 : List Str} {res : Bool} (hm : M_laws_eqStringS x1 x2 = some res) (hBw : B ≤ w0.heap.size) (p1_0 : repS w0 B (sl pa1_0 pn1_0 pc1_0) x1) (p2_0 : repS w0 B (sl pa2_0 pn2_0 pc2_0) x2) : CallsR prog 23 [(sl pa1_0 pn1_0 pc1_0), (sl pa2_0 pn2_0 pc2_0)] w0 (Q7 w0 B res) := by
 unfold M_laws_eqStringS at hm
 refine goF func23 z z (lb z) fun fn hr => Ws (Ra z (Wn (Wq (Ws (Rm z (R z (lnR d_47 z p1_0) (Rm z (R z (lnR d_47 z p2_0) (R z (nq z z) (Wn (Wc z (fun hc12 => ?_) (fun hc12 => ?_))))))))))))
 ·refine Ws (Ra z (Wn ?_))
  obtain rfl := som (ifT hm hc12)
  exact Wr (ret1 hr z ⟨(br w0), z⟩)
 refine Wk (Wq (Ws (Ra z (Wn ?_))))
 obtain ⟨u1q, hu1a, hm15⟩ := bdS (ifF hm hc12)
 refine WC_forN (σ := Unit) (ρ := Bool) (fun (k13 : Nat) (_ : Unit) a w => Sat 26 [(0, (sl pa1_0 pn1_0 pc1_0)), (1, (sl pa2_0 pn2_0 pc2_0)), (5, (vI ((k13 : Nat) : Int)))] a ∧ Below w0.heap.size w0 w) (fun (_ : Unit) a w => Sat 26 [] a ∧ Below w0.heap.size w0 w) (fun r ex a w => ex = .ret ∧ RetPost prog fn (Q7 w0 B r) a w) hu1a ?_ ?_ ?_ ?_ ?_
 ·exact fun _ q => ⟨(q.k (s3 z z z)), (br w0)⟩
 ·rintro k13 _ a1r w1s o1t hk16 ⟨hS1b, s10⟩ hm1c
  refine Wu (e := [(0, (sl pa1_0 pn1_0 pc1_0)), (1, (sl pa2_0 pn2_0 pc2_0)), (5, (vI ((k13 : Nat) : Int)))]) (N := 26) ?_ hS1b
  refine Wq (Ws (Rm z (Rm z ?_)))
  have h17 := p1_0.ext s10
  refine R z (lnR d_47 z h17) (R z (lss z z) (Wn (Wc z (fun _ => ?_) (fun hc => (nolt hk16 hc).elim))))
  refine Wk (Wq (WC_block (Wq (WC_draw (X := noX) 0 (.rd 0 (.rd 1 (.rd 2 (.rd 3 (.rd 4 (.rd 5 (.rd 6 (.rd 7 (.rd 8 .done))))))))) mo (by kernel_rfl) fun w1u s11 _ => dR z z (mv z) (dR z z (mv z) ?_)))))
  obtain ⟨x1v, e1d, hm1e⟩ := bdS hm1c
  refine dRX z z (at_ (α := Str) d_47 z_9 z z z (h17.ext s11) e1d) ?_
  rintro _ ⟨b1w, o1x, cs1y, rfl, h1f, h1g, h1z⟩
  obtain ⟨rfl, h20⟩ := Str_open h1g
  refine dR z z (l1 g_9 z fid (h1f.at0 z)) (dR z z (mv z) (dR z z (mv z) ?_))
  obtain ⟨x21, e1h, hm18⟩ := bdS hm1e
  refine dRX z z (at_ (α := Str) d_47 z_9 z z z ((p2_0.ext s10).ext s11) e1h) ?_
  rintro _ ⟨b22, o23, cs24, rfl, h1i, h1j, h25⟩
  obtain ⟨rfl, h26⟩ := Str_open h1j
  refine dR z z (l1 g_9 z fid (h1i.at0 z)) (dR z z (rd_neqT z z) (PR_done (Wo (Wc z (fun hc14 => ?_) (fun hc14 => ?_)))))
  ·exact Ws (Ra z (Wn (Wr (rtO (QO_retL (som (ifT hm18 hc14)).symm (ret1 hr z ⟨(bup s10 s11), z⟩))))))
  exact Wk (Wg (Rm z (R z (inc_ hk16 (lt_ (repS.len p1_0) LEN_le) z z) (Ra z (Wl (fun _ q => ⟨(), (som (ifF hm18 hc14)).symm, ⟨(q.k (s3 z z z)), (bup s10 s11)⟩⟩))))))
 ·rintro _ a27 w28 ⟨hS1k, s19⟩
  refine Wu (e := [(0, (sl pa1_0 pn1_0 pc1_0)), (1, (sl pa2_0 pn2_0 pc2_0)), (5, (vI ((x1.length : Nat) : Int)))]) (N := 26) ?_ hS1k
  refine Wq (Ws (Rm z (Rm z (R z (lnR d_47 z (p1_0.ext s19)) (R z (lss z z) (Wn (Wc z (fun hc => (noltt hc).elim) (fun _ => ?_))))))))
  exact WC_exit (fun a' ha' => ⟨rfl, ⟨(Sat.weaken ha' sn), s19⟩⟩)
 ·rintro _ a1l w29 rfl ⟨hS2a, s1m⟩
  have hm1n := elL hm15
  revert a1l
  refine Wo (Ws (Ra z (Wn ?_)))
  obtain rfl := som hm1n
  exact Wr (ret1 hr z ⟨s1m, z⟩)
 rintro r2b ex2c a2d w2e rfl ⟨rfl, hq1o⟩
 have hm1p := elR hm15
 obtain rfl := som hm1p
 exact ⟨hq1o, z⟩
theorem W_laws_eqIntS {x1 : List Int} {x2 : List Int} {res : Bool} (hm : M_laws_eqIntS x1 x2 = some res) (hBw : B ≤ w0.heap.size) (p1_0 : repS w0 B (sl pa1_0 pn1_0 pc1_0) x1) (p2_0 : repS w0 B (sl pa2_0 pn2_0 pc2_0) x2) : CallsR prog 101 [(sl pa1_0 pn1_0 pc1_0), (sl pa2_0 pn2_0 pc2_0)] w0 (Q7 w0 B res) := by
 unfold M_laws_eqIntS at hm
 refine goF func101 z z (lb z) fun fn hr => Ws (Ra z (Wn (Wq (Ws (Rm z (R z (lnR d_72 z p1_0) (Rm z (R z (lnR d_72 z p2_0) (R z (nq z z) (Wn (Wc z (fun hc12 => ?_) (fun hc12 => ?_))))))))))))
 ·refine Ws (Ra z (Wn ?_))
  obtain rfl := som (ifT hm hc12)
  exact Wr (ret1 hr z ⟨(br w0), z⟩)
 refine Wk (Wq (Ws (Ra z (Wn ?_))))
 obtain ⟨u1q, hu1a, hm15⟩ := bdS (ifF hm hc12)
 refine WC_forN (σ := Unit) (ρ := Bool) (fun (k13 : Nat) (_ : Unit) a w => Sat 26 [(0, (sl pa1_0 pn1_0 pc1_0)), (1, (sl pa2_0 pn2_0 pc2_0)), (5, (vI ((k13 : Nat) : Int)))] a ∧ Below w0.heap.size w0 w) (fun (_ : Unit) a w => Sat 26 [] a ∧ Below w0.heap.size w0 w) (fun r ex a w => ex = .ret ∧ RetPost prog fn (Q7 w0 B r) a w) hu1a ?_ ?_ ?_ ?_ ?_
 ·exact fun _ q => ⟨(q.k (s3 z z z)), (br w0)⟩
 ·rintro k13 _ a1r w1s o1t hk16 ⟨hS1b, s10⟩ hm1c
  refine Wu (e := [(0, (sl pa1_0 pn1_0 pc1_0)), (1, (sl pa2_0 pn2_0 pc2_0)), (5, (vI ((k13 : Nat) : Int)))]) (N := 26) ?_ hS1b
  refine Wq (Ws (Rm z (Rm z ?_)))
  have h17 := p1_0.ext s10
  refine R z (lnR d_72 z h17) (R z (lss z z) (Wn (Wc z (fun _ => ?_) (fun hc => (nolt hk16 hc).elim))))
  refine Wk (Wq (WC_block (Wq (WC_draw (X := noX) 0 (.rd 0 (.rd 1 (.rd 2 (.rd 3 (.rd 4 (.rd 5 (.rd 6 (.rd 7 (.rd 8 .done))))))))) mo (by kernel_rfl) fun w1u s11 _ => dR z z (mv z) (dR z z (mv z) ?_)))))
  obtain ⟨x1v, e1d, hm1e⟩ := bdS hm1c
  refine dRX z z (at_ (α := Int) d_72 z_3 z z z (h17.ext s11) e1d) ?_
  rintro _ ⟨b1w, o1x, cs1y, rfl, h1f, h1g, h1z⟩
  obtain ⟨rfl, h20⟩ := Int_open h1g
  refine dR z z (l1 g_3 z fid (h1f.at0 z)) (dR z z (mv z) (dR z z (mv z) ?_))
  obtain ⟨x21, e1h, hm18⟩ := bdS hm1e
  refine dRX z z (at_ (α := Int) d_72 z_3 z z z ((p2_0.ext s10).ext s11) e1h) ?_
  rintro _ ⟨b22, o23, cs24, rfl, h1i, h1j, h25⟩
  obtain ⟨rfl, h26⟩ := Int_open h1j
  refine dR z z (l1 g_3 z fid (h1i.at0 z)) (dR z z (nq z z) (PR_done (Wo (Wc z (fun hc14 => ?_) (fun hc14 => ?_)))))
  ·exact Ws (Ra z (Wn (Wr (rtO (QO_retL (som (ifT hm18 hc14)).symm (ret1 hr z ⟨(bup s10 s11), z⟩))))))
  exact Wk (Wg (Rm z (R z (inc_ hk16 (lt_ (repS.len p1_0) LEN_le) z z) (Ra z (Wl (fun _ q => ⟨(), (som (ifF hm18 hc14)).symm, ⟨(q.k (s3 z z z)), (bup s10 s11)⟩⟩))))))
 ·rintro _ a27 w28 ⟨hS1k, s19⟩
  refine Wu (e := [(0, (sl pa1_0 pn1_0 pc1_0)), (1, (sl pa2_0 pn2_0 pc2_0)), (5, (vI ((x1.length : Nat) : Int)))]) (N := 26) ?_ hS1k
  refine Wq (Ws (Rm z (Rm z (R z (lnR d_72 z (p1_0.ext s19)) (R z (lss z z) (Wn (Wc z (fun hc => (noltt hc).elim) (fun _ => ?_))))))))
  exact WC_exit (fun a' ha' => ⟨rfl, ⟨(Sat.weaken ha' sn), s19⟩⟩)
 ·rintro _ a1l w29 rfl ⟨hS2a, s1m⟩
  have hm1n := elL hm15
  revert a1l
  refine Wo (Ws (Ra z (Wn ?_)))
  obtain rfl := som hm1n
  exact Wr (ret1 hr z ⟨s1m, z⟩)
 rintro r2b ex2c a2d w2e rfl ⟨rfl, hq1o⟩
 have hm1p := elR hm15
 obtain rfl := som hm1p
 exact ⟨hq1o, z⟩
theorem W_laws_eqRule {x1 : Rule} {x2 : Rule} {res : Bool} (hm : M_laws_eqRule x1 x2 = some res) (hBw : B ≤ w0.heap.size) (p1_0 : x1.name.b.length ≤ LEN) (p1_1 : inI x1.kind) (p1_2 : inI x1.size) (p1_4 : repS w0 B (sl pa1_4 pn1_4 pc1_4) x1.bytes) (p1_5 : repS w0 B (sl pa1_5 pn1_5 pc1_5) x1.names) (p1_6 : repS w0 B (sl pa1_6 pn1_6 pc1_6) x1.tags) (p1_7 : repS w0 B (sl pa1_7 pn1_7 pc1_7) x1.kids) (p2_0 : x2.name.b.length ≤ LEN) (p2_1 : inI x2.kind) (p2_2 : inI x2.size) (p2_4 : repS w0 B (sl pa2_4 pn2_4 pc2_4) x2.bytes) (p2_5 : repS w0 B (sl pa2_5 pn2_5 pc2_5) x2.names) (p2_6 : repS w0 B (sl pa2_6 pn2_6 pc2_6) x2.tags) (p2_7 : repS w0 B (sl pa2_7 pn2_7 pc2_7) x2.kids) : CallsR prog 64 [(.agg #[(Str.v x1.name), (vI x1.kind), (vI x1.size), (vB x1.little), (sl pa1_4 pn1_4 pc1_4), (sl pa1_5 pn1_5 pc1_5), (sl pa1_6 pn1_6 pc1_6), (sl pa1_7 pn1_7 pc1_7)]), (.agg #[(Str.v x2.name), (vI x2.kind), (vI x2.size), (vB x2.little), (sl pa2_4 pn2_4 pc2_4), (sl pa2_5 pn2_5 pc2_5), (sl pa2_6 pn2_6 pc2_6), (sl pa2_7 pn2_7 pc2_7)])] w0 (Q7 w0 B res) := by
 unfold M_laws_eqRule at hm
 refine goF func64 z z (lb z) fun fn hr => Ws (E z (fb z) ?_)
 rintro _ w1f ⟨rfl, h1g⟩
 have h11 := h1g.below
 have h1x : Blk w1f w0.heap.size (vR x1 pa1_4 pn1_4 pc1_4 pa1_5 pn1_5 pc1_5 pa1_6 pn1_6 pc1_6 pa1_7 pn1_7 pc1_7) := h1g.blk
 refine E z (fb z) ?_
 rintro _ w1y ⟨rfl, h1h⟩
 have h10 := h1h.below
 have h15 : Blk w1y w1f.heap.size (vR x2 pa2_4 pn2_4 pc2_4 pa2_5 pn2_5 pc2_5 pa2_6 pn2_6 pc2_6 pa2_7 pn2_7 pc2_7) := h1h.blk
 refine Ra z (Wn (Wq (Ws (R z (fd f_74_0 z) ?_))))
 have h16 := h1x.ext h10
 refine R z (l1 g_9 z fid (h16.at z)) (R z (fd f_74_0 z) (R z (l1 g_9 z fid (h15.at z)) (R z (rd_neqT z z) (Wn (Wc z (fun hc17 => ?_) (fun hc17 => ?_))))))
 ·refine Ws (Ra z (Wn ?_))
  obtain rfl := som (ifT hm hc17)
  exact Wr (ret1 hr z ⟨(bup h11 h10), z⟩)
 have hm1i := ifF hm hc17
 refine Wk (Wq (Ws (R z (fd f_74_1 z) (R z (l1 g_3 z fid (h16.at z)) (R z (fd f_74_1 z) (R z (l1 g_3 z fid (h15.at z)) (R z (nq z z) (Wn (Wc z (fun hc18 => ?_) (fun hc18 => ?_))))))))))
 ·refine Ws (Ra z (Wn ?_))
  obtain rfl := som (ifT hm1i hc18)
  exact Wr (ret1 hr z ⟨(bup h11 h10), z⟩)
 have hm1j := ifF hm1i hc18
 refine Wk (Wq (Ws (R z (fd f_74_2 z) (R z (l1 g_3 z fid (h16.at z)) (R z (fd f_74_2 z) (R z (l1 g_3 z fid (h15.at z)) (R z (nq z z) (Wn (Wc z (fun hc19 => ?_) (fun hc19 => ?_))))))))))
 ·refine Ws (Ra z (Wn ?_))
  obtain rfl := som (ifT hm1j hc19)
  exact Wr (ret1 hr z ⟨(bup h11 h10), z⟩)
 have hm1k := ifF hm1j hc19
 refine Wk (Wq (Ws (R z (fd f_74_3 z) (R z (l1 g_4 z fid (h16.at z)) (R z (fd f_74_3 z) (R z (l1 g_4 z fid (h15.at z)) (R z (rd_neqB d_4 z z) (Wn (Wc z (fun hc1a => ?_) (fun hc1a => ?_))))))))))
 ·refine Ws (Ra z (Wn ?_))
  obtain rfl := som (ifT hm1k hc1a)
  exact Wr (ret1 hr z ⟨(bup h11 h10), z⟩)
 refine Wk (Wq (Ws (R z (fd f_74_4 z) (R z (l1 g_25 z fid (h16.at z)) (R z (fd f_74_4 z) (R z (l1 g_25 z fid (h15.at z)) ?_))))))
 have h1l := lt_ h11.size h10.size
 obtain ⟨r23, e1z, hm1m⟩ := bdS (ifF hm1k hc1a)
 refine E z (fc call11 z (W_laws_eqByteS (B := B) e1z (lt_ hBw h1l) ((p1_4.ext h11).ext h10) ((p2_4.ext h11).ext h10))) ?_
 rintro _ w24 ⟨s12, rfl⟩
 refine R z (not_ z) (Wn (Wc z (fun hc1b => ?_) (fun hc1b => ?_)))
 ·refine Ws (Ra z (Wn ?_))
  obtain rfl := som (ifT hm1m hc1b)
  exact Wr (ret1 hr z ⟨(bup (bup h11 h10) s12), z⟩)
 refine Wk (Wq (Ws (R z (fd f_74_5 z) ?_)))
 have h1n := h16.ext s12
 refine R z (l1 g_47 z fid (h1n.at z)) (R z (fd f_74_5 z) ?_)
 have h1o := h15.ext s12
 refine R z (l1 g_47 z fid (h1o.at z)) ?_
 have h1p := lt_ h1l s12.size
 obtain ⟨r25, e20, hm1q⟩ := bdS (ifF hm1m hc1b)
 refine E z (fc call23 z (W_laws_eqStringS (B := B) e20 (lt_ hBw h1p) (((p1_5.ext h11).ext h10).ext s12) (((p2_5.ext h11).ext h10).ext s12))) ?_
 rintro _ w26 ⟨s13, rfl⟩
 refine R z (not_ z) (Wn (Wc z (fun hc1c => ?_) (fun hc1c => ?_)))
 ·refine Ws (Ra z (Wn ?_))
  obtain rfl := som (ifT hm1q hc1c)
  exact Wr (ret1 hr z ⟨(bup (bup (bup h11 h10) s12) s13), z⟩)
 refine Wk (Wq (Ws (R z (fd f_74_6 z) ?_)))
 have h1r := h1n.ext s13
 refine R z (l1 g_72 z fid (h1r.at z)) (R z (fd f_74_6 z) ?_)
 have h1s := h1o.ext s13
 refine R z (l1 g_72 z fid (h1s.at z)) ?_
 have h1t := lt_ h1p s13.size
 obtain ⟨r27, e21, hm1u⟩ := bdS (ifF hm1q hc1c)
 refine E z (fc call101 z (W_laws_eqIntS (B := B) e21 (lt_ hBw h1t) ((((p1_6.ext h11).ext h10).ext s12).ext s13) ((((p2_6.ext h11).ext h10).ext s12).ext s13))) ?_
 rintro _ w28 ⟨s14, rfl⟩
 refine R z (not_ z) (Wn (Wc z (fun hc1d => ?_) (fun hc1d => ?_)))
 ·refine Ws (Ra z (Wn ?_))
  obtain rfl := som (ifT hm1u hc1d)
  exact Wr (ret1 hr z ⟨(bup (bup (bup (bup h11 h10) s12) s13) s14), z⟩)
 refine Wk (Wq (Ws (R z (fd f_74_7 z) (R z (l1 g_72 z fid ((h1r.ext s14).at z)) (R z (fd f_74_7 z) (R z (l1 g_72 z fid ((h1s.ext s14).at z)) ?_))))))
 obtain ⟨r29, e22, hm1v⟩ := bdS (ifF hm1u hc1d)
 refine E z (fc call101 z (W_laws_eqIntS (B := B) e22 (lt_ hBw (lt_ h1t s14.size)) (((((p1_7.ext h11).ext h10).ext s12).ext s13).ext s14) (((((p2_7.ext h11).ext h10).ext s12).ext s13).ext s14))) ?_
 rintro _ w2a ⟨s1w, rfl⟩
 refine R z (not_ z) (Wn (Wc z (fun hc1e => ?_) (fun hc1e => ?_)))
 ·refine Ws (Ra z (Wn ?_))
  obtain rfl := som (ifT hm1v hc1e)
  exact Wr (ret1 hr z ⟨(bup (bup (bup (bup (bup h11 h10) s12) s13) s14) s1w), z⟩)
 refine Wk (Ws (Ra z (Wn ?_)))
 obtain rfl := som (ifF hm1v hc1e)
 exact Wr (ret1 hr z ⟨(bup (bup (bup (bup (bup h11 h10) s12) s13) s14) s1w), z⟩)
theorem W_laws_eqRuleS {x1 : List Rule} {x2 : List Rule} {res : Bool} (hm : M_laws_eqRuleS x1 x2 = some res) (hBw : B ≤ w0.heap.size) (p1_0 : repS w0 B (sl pa1_0 pn1_0 pc1_0) x1) (p2_0 : repS w0 B (sl pa2_0 pn2_0 pc2_0) x2) : CallsR prog 36 [(sl pa1_0 pn1_0 pc1_0), (sl pa2_0 pn2_0 pc2_0)] w0 (Q7 w0 B res) := by
 unfold M_laws_eqRuleS at hm
 refine goF func36 z z (lb z) fun fn hr => Ws (Ra z (Wn (Wq (Ws (Rm z (R z (lnR d_29 z p1_0) (Rm z (R z (lnR d_29 z p2_0) (R z (nq z z) (Wn (Wc z (fun hc14 => ?_) (fun hc14 => ?_))))))))))))
 ·refine Ws (Ra z (Wn ?_))
  obtain rfl := som (ifT hm hc14)
  exact Wr (ret1 hr z ⟨(br w0), z⟩)
 refine Wk (Wq (Ws (Ra z (Wn ?_))))
 obtain ⟨u2x, hu1d, hm17⟩ := bdS (ifF hm hc14)
 refine WC_forN (σ := Unit) (ρ := Bool) (fun (k15 : Nat) (_ : Unit) a w => Sat 27 [(0, (sl pa1_0 pn1_0 pc1_0)), (1, (sl pa2_0 pn2_0 pc2_0)), (5, (vI ((k15 : Nat) : Int)))] a ∧ Below w0.heap.size w0 w) (fun (_ : Unit) a w => Sat 27 [] a ∧ Below w0.heap.size w0 w) (fun r ex a w => ex = .ret ∧ RetPost prog fn (Q7 w0 B r) a w) hu1d ?_ ?_ ?_ ?_ ?_
 ·exact fun _ q => ⟨(q.k (s3 z z z)), (br w0)⟩
 ·rintro k15 _ a2y w2z o30 hk18 ⟨hS1e, s10⟩ hm1f
  refine Wu (e := [(0, (sl pa1_0 pn1_0 pc1_0)), (1, (sl pa2_0 pn2_0 pc2_0)), (5, (vI ((k15 : Nat) : Int)))]) (N := 27) ?_ hS1e
  refine Wq (Ws (Rm z (Rm z ?_)))
  have h19 := p1_0.ext s10
  refine R z (lnR d_29 z h19) (R z (lss z z) (Wn (Wc z (fun _ => ?_) (fun hc => (nolt hk18 hc).elim))))
  refine Wk (Wq (WC_block (Wq (WC_draw (X := noX) 0 (.rd 0 (.rd 1 (.rd 2 (.rd 3 (.rd 4 (.rd 5 (.rd 6 (.rd 7 (.ef 8 (.rd 9 .done)))))))))) mo (by kernel_rfl) fun w31 s11 _ => dR z z (mv z) (dR z z (mv z) ?_)))))
  obtain ⟨x12, e1g, hm1h⟩ := bdS hm1f
  refine dRX z z (at_ (α := Rule) d_29 z_74 z z z (h19.ext s11) e1g) ?_
  rintro _ ⟨b32, o33, cs34, rfl, h1i, h1j, h35⟩
  obtain ⟨a1k, n1l, c1m, a1n, n1o, c1p, a1q, n1r, c1s, a1t, n1u, c1v, rfl, h1w, h1x, h1y, h1z, h20, h21, h22⟩ := Rule_open h1j
  refine dR z z (lN (vs := (vR x12 a1k n1l c1m a1n n1o c1p a1q n1r c1s a1t n1u c1v)) g_74 z_74 z z fid h1i) (dR z z (mv z) (dR z z (mv z) ?_))
  obtain ⟨x13, e23, hm24⟩ := bdS hm1h
  refine dRX z z (at_ (α := Rule) d_29 z_74 z z z ((p2_0.ext s10).ext s11) e23) ?_
  rintro _ ⟨b36, o37, cs38, rfl, h25, h26, h39⟩
  obtain ⟨a27, n28, c29, a2a, n2b, c2c, a2d, n2e, c2f, a2g, n2h, c2i, rfl, h2j, h2k, h2l, h2m, h2n, h2o, h2p⟩ := Rule_open h26
  refine dR z z (lN (vs := (vR x13 a27 n28 c29 a2a n2b c2c a2d n2e c2f a2g n2h c2i)) g_74 z_74 z z fid h25) ?_
  obtain ⟨r3a, e2q, hm1a⟩ := bdS hm24
  refine dE z z (fc call64 z (W_laws_eqRule (B := B) e2q (lt_ hBw (lt_ s10.size s11.size)) h1w h1x h1y h1z h20 h21 h22 h2j h2k h2l h2m h2n h2o h2p)) (.inr fun _ _ h => chgB (h.1)) ?_
  rintro _ w3b ⟨s1b, rfl⟩
  refine dR z z (not_ z) (PR_done (Wo (Wc z (fun hc16 => ?_) (fun hc16 => ?_))))
  ·exact Ws (Ra z (Wn (Wr (rtO (QO_retL (som (ifT hm1a hc16)).symm (ret1 hr z ⟨(bup (bup s10 s11) s1b), z⟩))))))
  exact Wk (Wg (Rm z (R z (inc_ hk18 (lt_ (repS.len p1_0) LEN_le) z z) (Ra z (Wl (fun _ q => ⟨(), (som (ifF hm1a hc16)).symm, ⟨(q.k (s3 z z z)), (bup (bup s10 s11) s1b)⟩⟩))))))
 ·rintro _ a3c w3d ⟨hS2r, s1c⟩
  refine Wu (e := [(0, (sl pa1_0 pn1_0 pc1_0)), (1, (sl pa2_0 pn2_0 pc2_0)), (5, (vI ((x1.length : Nat) : Int)))]) (N := 27) ?_ hS2r
  refine Wq (Ws (Rm z (Rm z (R z (lnR d_29 z (p1_0.ext s1c)) (R z (lss z z) (Wn (Wc z (fun hc => (noltt hc).elim) (fun _ => ?_))))))))
  exact WC_exit (fun a' ha' => ⟨rfl, ⟨(Sat.weaken ha' sn), s1c⟩⟩)
 ·rintro _ a2s w3e rfl ⟨hS3f, s2t⟩
  have hm2u := elL hm17
  revert a2s
  refine Wo (Ws (Ra z (Wn ?_)))
  obtain rfl := som hm2u
  exact Wr (ret1 hr z ⟨s2t, z⟩)
 rintro r3g ex3h a3i w3j rfl ⟨rfl, hq2v⟩
 have hm2w := elR hm17
 obtain rfl := som hm2w
 exact ⟨hq2v, z⟩
theorem W_laws_eqDescription {x1 : Desc} {x2 : Desc} {res : Bool} (hm : M_laws_eqDescription x1 x2 = some res) (hBw : B ≤ w0.heap.size) (p1_0 : repS w0 B (sl pa1_0 pn1_0 pc1_0) x1.rules) (p2_0 : repS w0 B (sl pa2_0 pn2_0 pc2_0) x2.rules) : CallsR prog 12 [(.agg #[(sl pa1_0 pn1_0 pc1_0)]), (.agg #[(sl pa2_0 pn2_0 pc2_0)])] w0 (Q7 w0 B res) := by
 unfold M_laws_eqDescription at hm
 refine goF func12 z z (lb z) fun fn hr => Ws (E z (fb z) ?_)
 rintro _ w13 ⟨rfl, h14⟩
 have h11 := h14.below
 have h18 : Blk w13 w0.heap.size [(sl pa1_0 pn1_0 pc1_0)] := h14.blk
 refine E z (fb z) ?_
 rintro _ w19 ⟨rfl, h15⟩
 have h10 := h15.below
 have h1a : Blk w19 w13.heap.size [(sl pa2_0 pn2_0 pc2_0)] := h15.blk
 refine Ra z (Wn (Wq (Ws (R z (fd f_31_0 z) (R z (l1 g_29 z fid ((h18.ext h10).at z)) (R z (fd f_31_0 z) (R z (l1 g_29 z fid (h1a.at z)) ?_)))))))
 obtain ⟨r1c, e1b, hm16⟩ := bdS hm
 refine E z (fc call36 z (W_laws_eqRuleS (B := B) e1b (lt_ hBw (lt_ h11.size h10.size)) ((p1_0.ext h11).ext h10) ((p2_0.ext h11).ext h10))) ?_
 rintro _ w1d ⟨s17, rfl⟩
 refine R z (not_ z) (Wn (Wc z (fun hc12 => ?_) (fun hc12 => ?_)))
 ·refine Ws (Ra z (Wn ?_))
  obtain rfl := som (ifT hm16 hc12)
  exact Wr (ret1 hr z ⟨(bup (bup h11 h10) s17), z⟩)
 refine Wk (Ws (Ra z (Wn ?_)))
 obtain rfl := som (ifF hm16 hc12)
 exact Wr (ret1 hr z ⟨(bup (bup h11 h10) s17), z⟩)
theorem W_laws_markText {x1 : Int} {res : Str} (hm : M_laws_markText n x1 = some res) (hBw : B ≤ w0.heap.size) (p1_0 : inI x1) : CallsR prog 49 [(vI x1)] w0 (Q8 w0 B res) := by
 unfold M_laws_markText at hm
 refine goF func49 z z (lb z) fun fn hr => Ws (Ra z (Wn (Wq (Ws (Rm z (R z (rd_leq z z) (Wn (Wc z (fun hc12 => ?_) (fun hc12 => ?_)))))))))
 ·refine Ws (Ra z (Wn ?_))
  obtain rfl := som (ifT hm hc12)
  exact Wr (ret1 hr z ⟨(br w0), z, (lb z)⟩)
 refine Wk (Ws (Ra z (Wn (Wq ?_))))
 obtain ⟨u1q, hu1c, hm15⟩ := bdS (ifF hm hc12)
 refine WC_iter (σ := Int × Str) (ρ := Str) (fun s a w => un2 (fun x10 x11 => Sat 20 [(0, (vI x10)), (3, (Str.v x11))] a ∧ Below w0.heap.size w0 w ∧ inI x10 ∧ x11.b.length ≤ LEN) s) (fun s a w => un2 (fun x10 x11 => Sat 20 [(3, (Str.v x11))] a ∧ Below w0.heap.size w0 w ∧ inI x10 ∧ x11.b.length ≤ LEN) s) (fun r ex a w => ex = .ret ∧ RetPost prog fn (Q8 w0 B r) a w) hu1c ?_ ?_ ?_ ?_
 ·exact fun _ q => ⟨(q.k (s2 z z)), (br w0), p1_0, (lb z)⟩
 ·rintro ⟨x10, x11⟩ a1r w1d o1s ⟨hS1e, s16, h17, h18⟩ hm1f
  have hm19 := un2S hm1f
  refine Wu (e := [(0, (vI x10)), (3, (Str.v x11))]) (N := 20) ?_ hS1e
  refine Wq (Ws (Rm z (R z (rd_gtr z z) (Wn (Wc z (fun hc13 => ?_) (fun hc13 => ?_))))))
  ·refine Wk (WC_block (Ws (Rm z (R z (rd_rem z z (by decide)) (R z (add_ z z) (R z (rd_convU d_3 d_5 z) (E z (ef_buildSlice [(.tmp 11)] el_25 z z z (szAll z) (lb z) (lb z)) ?_)))))))
   rintro _ w1g ⟨rfl, h14⟩
   have h1t : Blk w1g w1d.heap.size [(vU (byteI (mkB (iadd 48 (irem x10 10)))))] := h14.blk
   refine R z (rd_convST d_25 d_9 d_5 z_5 z (ownS.rep (ownS_new1 h14 UInt8_own))) (Rm z ?_)
   obtain ⟨x1h, e1a, hm1i⟩ := bdS (ifT hm19 hc13)
   exact R z (rd_catC z z e1a) (Ra z (Wn (Wg (Rm z (R z (rd_quo z z (by decide)) (Ra z (Wl (fun _ q => ⟨(iquo x10 10, x1h), (som hm1i).symm, ⟨(q.k (s2 z z)), (bup s16 h14.below), (inI_quo _ _), (cat_len e1a)⟩⟩))))))))
  exact WC_exit (fun a' ha' => QO_brk (som (ifF hm19 hc13)).symm ⟨(Sat.weaken ha' (s1 z)), s16, h17, h18⟩)
 ·rintro ⟨x10, x11⟩ a1j w1u rfl ⟨hS1v, s1k, h17, h18⟩
  have hm1l := elL hm15
  have hm1m := un2S hm1l
  revert a1j
  refine Wo (Ws (Rm z ?_))
  obtain ⟨x1w, e1b, hm1n⟩ := bdS hm1m
  refine R z (rd_catC z z e1b) (Ra z (Wn ?_))
  obtain rfl := som hm1n
  exact Wr (ret1 hr z ⟨s1k, z, (cat_len e1b)⟩)
 rintro r1x ex1y a1z w20 rfl ⟨rfl, hq1o⟩
 have hm1p := elR hm15
 obtain rfl := som hm1p
 exact ⟨hq1o, z⟩
def Q33 (w0 : World) (B : Nat) (pa1_0 : Option Addr) (pn1_0 pc1_0 : Nat) (S1_0 : List Nat) (r : Int × (List UInt8)) (v : Value) (w' : World) : Prop := Chg (· ∈ S1_0) w0 w' ∧ un2 (fun r1 r2 => ∃ (S1 : List Nat), (vI r1) = v ∧ inI r1 ∧ ownS w' S1 (sl pa1_0 pn1_0 pc1_0) r2 ∧ S1.Nodup ∧ (∀ k ∈ S1, k ∈ S1_0 ∨ w0.heap.size ≤ k)) r
theorem W_laws_markByteS {x1 : List UInt8} {S1_0 : List Nat} {x2 : Int} {res : Int × (List UInt8)} (hm : M_laws_markByteS n x1 x2 = some res) (hBw : B ≤ w0.heap.size) (p1_0 : ownS w0 S1_0 (sl pa1_0 pn1_0 pc1_0) x1) (p1_0n : S1_0.Nodup) (p1_0g : ∀ k ∈ S1_0, B ≤ k) (p2_0 : inI x2) : CallsR prog 14 [(sl pa1_0 pn1_0 pc1_0), (vI x2)] w0 (Q33 w0 B pa1_0 pn1_0 pc1_0 S1_0 res) := by
 unfold M_laws_markByteS at hm
 refine goF func14 z z (lb z) fun fn hr => Ws (Ra z (Wn (Wq (Ws (Ra z (Wn ?_))))))
 obtain ⟨u26, hu1h, hm1a⟩ := bdS hm
 refine WC_iter (σ := (List UInt8) × Int × Int) (ρ := Int × (List UInt8)) (fun s a w => un3 (fun x14 x11 x12 => ∃  (S10 : List Nat), Sat 20 [(0, (sl pa1_0 pn1_0 pc1_0)), (1, (vI x11)), (5, (vI x12))] a ∧ Chg (· ∈ S1_0) w0 w ∧ ownS w S10 (sl pa1_0 pn1_0 pc1_0) x14 ∧ S10.Nodup ∧ (∀ k ∈ S10, k ∈ S1_0 ∨ w0.heap.size ≤ k) ∧ inI x11 ∧ inI x12) s) (fun s a w => un3 (fun x14 x11 x12 => ∃  (S10 : List Nat), Sat 20 [(0, (sl pa1_0 pn1_0 pc1_0)), (1, (vI x11))] a ∧ Chg (· ∈ S1_0) w0 w ∧ ownS w S10 (sl pa1_0 pn1_0 pc1_0) x14 ∧ S10.Nodup ∧ (∀ k ∈ S10, k ∈ S1_0 ∨ w0.heap.size ≤ k) ∧ inI x11 ∧ inI x12) s) (fun r ex a w => ex = .ret ∧ RetPost prog fn (Q33 w0 B pa1_0 pn1_0 pc1_0 S1_0 r) a w) hu1h ?_ ?_ ?_ ?_
 ·exact fun _ q => ⟨S1_0, (q.k (s3 z z z)), (cr S1_0 w0), p1_0, p1_0n, (io sr), p2_0, (ii z)⟩
 ·rintro ⟨x14, x11, x12⟩ a27 w1b o28 ⟨S10, hS1i, s17, h13, h15, h16, h18, h1c⟩ hm1j
  have hm1d := un3S hm1j
  refine Wu (e := [(0, (sl pa1_0 pn1_0 pc1_0)), (1, (vI x11)), (5, (vI x12))]) (N := 20) ?_ hS1i
  refine Wq (Ws (Rm z (Rm z (R z (lnR d_25 z (ownS.rep h13)) (R z (lss z z) (Wn (Wc z (fun hc19 => ?_) (fun hc19 => ?_))))))))
  ·refine Wk (Wq (WC_block (Ws (Rm z (Rm z (Rm z (R z (rd_convU d_3 d_5 z) ?_)))))))
   obtain ⟨x1k, e1e, hm1l⟩ := bdS (ifT hm1d hc19)
   refine RX z (rd_atU (α := UInt8) d_25 z_5 z z h13 e1e) ?_
   rintro _ ⟨g29, h1m, rfl⟩
   refine E0 (ef_setN (α := UInt8) z_5 z h1m z z z e1e h13 h15 UInt8_own all_nil nd_nil) ?_
   rintro _ w1n ⟨S1f, s1o, h1p, h1q, h1r⟩
   refine Wn (Wg (Rm z (R z (add_ z z) (Ra z (Wn (Wg (Rm z (R z (add_ z z) (Ra z (Wl ?_))))))))))
   have h1g : ∀ k ∈ S10, k ∈ S1_0 ∨ w0.heap.size ≤ k := or1 h16 (io sr) (leor lr)
   have h1s : ∀ k ∈ S1f, k ∈ S1_0 ∨ w0.heap.size ≤ k := or2 h1r h1g all_nil (leor s17.size)
   have h1t : Chg (· ∈ S1_0) w0 w1b := cM (cr S1_0 w0) s17 (io sr)
   have h1u : Chg (· ∈ S1_0) w0 w1n := cM h1t s1o h1g
   exact fun _ q => ⟨(x1k, iadd x11 1, iadd x12 1), (som hm1l).symm, ⟨S1f, (q.k (s3 z z z)), h1u, h1p, h1q, h1s, (iA _ _), (iA _ _)⟩⟩
  have h1v : ∀ k ∈ S10, k ∈ S1_0 ∨ w0.heap.size ≤ k := or1 h16 (io sr) (leor lr)
  have h1w : Chg (· ∈ S1_0) w0 w1b := cM (cr S1_0 w0) s17 (io sr)
  exact WC_exit (fun a' ha' => QO_brk (som (ifF hm1d hc19)).symm ⟨S10, (Sat.weaken ha' (s2 z z)), h1w, h13, h15, h1v, h18, h1c⟩)
 ·rintro ⟨x14, x11, x12⟩ a1x w1y rfl ⟨S10, hS2a, s1z, h13, h15, h16, h18, h1c⟩
  have hm20 := elL hm1a
  have hm21 := un3S hm20
  revert a1x
  refine Wo (Ws (Rm z (Ra z (Wn ?_))))
  obtain rfl := som hm21
  have h22 : Chg (· ∈ S1_0) w0 w1y := cM (cr S1_0 w0) s1z (io sr)
  have h23 : ∀ k ∈ S10, k ∈ S1_0 ∨ w0.heap.size ≤ k := or1 h16 (io sr) (leor lr)
  exact Wr (ret1 hr z ⟨h22, S10, z, h18, h13, h15, h23⟩)
 rintro r2b ex2c a2d w2e rfl ⟨rfl, hq24⟩
 have hm25 := elR hm1a
 obtain rfl := som hm25
 exact ⟨hq24, z⟩
def Q34 (w0 : World) (B : Nat) (pa1_0 : Option Addr) (pn1_0 pc1_0 : Nat) (S1_0 : List Nat) (r : Int × (List Str)) (v : Value) (w' : World) : Prop := Chg (· ∈ S1_0) w0 w' ∧ un2 (fun r1 r2 => ∃ (S1 : List Nat), (vI r1) = v ∧ inI r1 ∧ ownS w' S1 (sl pa1_0 pn1_0 pc1_0) r2 ∧ S1.Nodup ∧ (∀ k ∈ S1, k ∈ S1_0 ∨ w0.heap.size ≤ k)) r
theorem W_laws_markStringS {x1 : List Str} {S1_0 : List Nat} {x2 : Int} {res : Int × (List Str)} (hm : M_laws_markStringS n x1 x2 = some res) (hBw : B ≤ w0.heap.size) (p1_0 : ownS w0 S1_0 (sl pa1_0 pn1_0 pc1_0) x1) (p1_0n : S1_0.Nodup) (p1_0g : ∀ k ∈ S1_0, B ≤ k) (p2_0 : inI x2) : CallsR prog 24 [(sl pa1_0 pn1_0 pc1_0), (vI x2)] w0 (Q34 w0 B pa1_0 pn1_0 pc1_0 S1_0 res) := by
 unfold M_laws_markStringS at hm
 refine goF func24 z z (lb z) fun fn hr => Ws (Ra z (Wn (Wq (Ws (Ra z (Wn ?_))))))
 obtain ⟨u2d, hu1j, hm1b⟩ := bdS hm
 refine WC_iter (σ := (List Str) × Int × Int) (ρ := Int × (List Str)) (fun s a w => un3 (fun x13 x11 x12 => ∃  (S10 : List Nat), Sat 20 [(0, (sl pa1_0 pn1_0 pc1_0)), (1, (vI x11)), (5, (vI x12))] a ∧ Chg (· ∈ S1_0) w0 w ∧ ownS w S10 (sl pa1_0 pn1_0 pc1_0) x13 ∧ S10.Nodup ∧ (∀ k ∈ S10, k ∈ S1_0 ∨ w0.heap.size ≤ k) ∧ inI x11 ∧ inI x12) s) (fun s a w => un3 (fun x13 x11 x12 => ∃  (S10 : List Nat), Sat 20 [(0, (sl pa1_0 pn1_0 pc1_0)), (1, (vI x11))] a ∧ Chg (· ∈ S1_0) w0 w ∧ ownS w S10 (sl pa1_0 pn1_0 pc1_0) x13 ∧ S10.Nodup ∧ (∀ k ∈ S10, k ∈ S1_0 ∨ w0.heap.size ≤ k) ∧ inI x11 ∧ inI x12) s) (fun r ex a w => ex = .ret ∧ RetPost prog fn (Q34 w0 B pa1_0 pn1_0 pc1_0 S1_0 r) a w) hu1j ?_ ?_ ?_ ?_
 ·exact fun _ q => ⟨S1_0, (q.k (s3 z z z)), (cr S1_0 w0), p1_0, p1_0n, (io sr), p2_0, (ii z)⟩
 ·rintro ⟨x13, x11, x12⟩ a2e w1c o2f ⟨S10, hS1k, s15, h14, h16, h17, h18, h1d⟩ hm1l
  have hm1e := un3S hm1l
  refine Wu (e := [(0, (sl pa1_0 pn1_0 pc1_0)), (1, (vI x11)), (5, (vI x12))]) (N := 20) ?_ hS1k
  refine Wq (Ws (Rm z (Rm z (R z (lnR d_47 z (ownS.rep h14)) (R z (lss z z) (Wn (Wc z (fun hc19 => ?_) (fun hc19 => ?_))))))))
  ·refine Wk (Wq (WC_block (Ws (Rm z (Rm z (Rm z ?_))))))
   obtain ⟨r2g, e1m, hm1n⟩ := bdS (ifT hm1e hc19)
   refine E z (fc call49 z (W_laws_markText (B := B) e1m (lt_ hBw s15.size) h18)) ?_
   rintro _ w1o ⟨s1a, rfl, h1p⟩
   obtain ⟨x1q, e1f, hm1r⟩ := bdS hm1n
   have h1g := h14.ext s1a
   refine RX z (rd_atU (α := Str) d_47 z_9 z z h1g e1f) ?_
   rintro _ ⟨g2h, h1s, rfl⟩
   refine E0 (ef_setN (α := Str) z_9 z h1s z z z e1f h1g h16 (Str_own h1p) all_nil nd_nil) ?_
   rintro _ w1t ⟨S1h, s1u, h1v, h1w, h1x⟩
   refine Wn (Wg (Rm z (R z (add_ z z) (Ra z (Wn (Wg (Rm z (R z (add_ z z) (Ra z (Wl ?_))))))))))
   have h1i : ∀ k ∈ S10, k ∈ S1_0 ∨ w0.heap.size ≤ k := or1 h17 (io sr) (leor lr)
   have h1y : ∀ k ∈ S1h, k ∈ S1_0 ∨ w0.heap.size ≤ k := or2 h1x h1i all_nil (leor (lt_ s15.size s1a.size))
   have h1z : Chg (· ∈ S1_0) w0 w1c := cM (cr S1_0 w0) s15 (io sr)
   have h20 : Chg (· ∈ S1_0) w0 w1o := cext h1z s1a
   have h21 : Chg (· ∈ S1_0) w0 w1t := cM h20 s1u h1i
   exact fun _ q => ⟨(x1q, iadd x11 1, iadd x12 1), (som hm1r).symm, ⟨S1h, (q.k (s3 z z z)), h21, h1v, h1w, h1y, (iA _ _), (iA _ _)⟩⟩
  have h22 : ∀ k ∈ S10, k ∈ S1_0 ∨ w0.heap.size ≤ k := or1 h17 (io sr) (leor lr)
  have h23 : Chg (· ∈ S1_0) w0 w1c := cM (cr S1_0 w0) s15 (io sr)
  exact WC_exit (fun a' ha' => QO_brk (som (ifF hm1e hc19)).symm ⟨S10, (Sat.weaken ha' (s2 z z)), h23, h14, h16, h22, h18, h1d⟩)
 ·rintro ⟨x13, x11, x12⟩ a24 w25 rfl ⟨S10, hS2i, s26, h14, h16, h17, h18, h1d⟩
  have hm27 := elL hm1b
  have hm28 := un3S hm27
  revert a24
  refine Wo (Ws (Rm z (Ra z (Wn ?_))))
  obtain rfl := som hm28
  have h29 : Chg (· ∈ S1_0) w0 w25 := cM (cr S1_0 w0) s26 (io sr)
  have h2a : ∀ k ∈ S10, k ∈ S1_0 ∨ w0.heap.size ≤ k := or1 h17 (io sr) (leor lr)
  exact Wr (ret1 hr z ⟨h29, S10, z, h18, h14, h16, h2a⟩)
 rintro r2j ex2k a2l w2m rfl ⟨rfl, hq2b⟩
 have hm2c := elR hm1b
 obtain rfl := som hm2c
 exact ⟨hq2b, z⟩
def Q35 (w0 : World) (B : Nat) (pa1_0 : Option Addr) (pn1_0 pc1_0 : Nat) (S1_0 : List Nat) (r : Int × (List Int)) (v : Value) (w' : World) : Prop := Chg (· ∈ S1_0) w0 w' ∧ un2 (fun r1 r2 => ∃ (S1 : List Nat), (vI r1) = v ∧ inI r1 ∧ ownS w' S1 (sl pa1_0 pn1_0 pc1_0) r2 ∧ S1.Nodup ∧ (∀ k ∈ S1, k ∈ S1_0 ∨ w0.heap.size ≤ k)) r
theorem W_laws_markIntS {x1 : List Int} {S1_0 : List Nat} {x2 : Int} {res : Int × (List Int)} (hm : M_laws_markIntS n x1 x2 = some res) (hBw : B ≤ w0.heap.size) (p1_0 : ownS w0 S1_0 (sl pa1_0 pn1_0 pc1_0) x1) (p1_0n : S1_0.Nodup) (p1_0g : ∀ k ∈ S1_0, B ≤ k) (p2_0 : inI x2) : CallsR prog 65 [(sl pa1_0 pn1_0 pc1_0), (vI x2)] w0 (Q35 w0 B pa1_0 pn1_0 pc1_0 S1_0 res) := by
 unfold M_laws_markIntS at hm
 refine goF func65 z z (lb z) fun fn hr => Ws (Ra z (Wn (Wq (Ws (Ra z (Wn ?_))))))
 obtain ⟨u26, hu1h, hm1a⟩ := bdS hm
 refine WC_iter (σ := (List Int) × Int × Int) (ρ := Int × (List Int)) (fun s a w => un3 (fun x14 x11 x12 => ∃  (S10 : List Nat), Sat 19 [(0, (sl pa1_0 pn1_0 pc1_0)), (1, (vI x11)), (5, (vI x12))] a ∧ Chg (· ∈ S1_0) w0 w ∧ ownS w S10 (sl pa1_0 pn1_0 pc1_0) x14 ∧ S10.Nodup ∧ (∀ k ∈ S10, k ∈ S1_0 ∨ w0.heap.size ≤ k) ∧ inI x11 ∧ inI x12) s) (fun s a w => un3 (fun x14 x11 x12 => ∃  (S10 : List Nat), Sat 19 [(0, (sl pa1_0 pn1_0 pc1_0)), (1, (vI x11))] a ∧ Chg (· ∈ S1_0) w0 w ∧ ownS w S10 (sl pa1_0 pn1_0 pc1_0) x14 ∧ S10.Nodup ∧ (∀ k ∈ S10, k ∈ S1_0 ∨ w0.heap.size ≤ k) ∧ inI x11 ∧ inI x12) s) (fun r ex a w => ex = .ret ∧ RetPost prog fn (Q35 w0 B pa1_0 pn1_0 pc1_0 S1_0 r) a w) hu1h ?_ ?_ ?_ ?_
 ·exact fun _ q => ⟨S1_0, (q.k (s3 z z z)), (cr S1_0 w0), p1_0, p1_0n, (io sr), p2_0, (ii z)⟩
 ·rintro ⟨x14, x11, x12⟩ a27 w1b o28 ⟨S10, hS1i, s18, h13, h15, h16, h17, h1c⟩ hm1j
  have hm1d := un3S hm1j
  refine Wu (e := [(0, (sl pa1_0 pn1_0 pc1_0)), (1, (vI x11)), (5, (vI x12))]) (N := 19) ?_ hS1i
  refine Wq (Ws (Rm z (Rm z (R z (lnR d_72 z (ownS.rep h13)) (R z (lss z z) (Wn (Wc z (fun hc19 => ?_) (fun hc19 => ?_))))))))
  ·refine Wk (Wq (WC_block (Ws (Rm z (Rm z (Rm z ?_))))))
   obtain ⟨x1k, e1e, hm1l⟩ := bdS (ifT hm1d hc19)
   refine RX z (rd_atU (α := Int) d_72 z_3 z z h13 e1e) ?_
   rintro _ ⟨g29, h1m, rfl⟩
   refine E0 (ef_setN (α := Int) z_3 z h1m z z z e1e h13 h15 (Int_own h17) all_nil nd_nil) ?_
   rintro _ w1n ⟨S1f, s1o, h1p, h1q, h1r⟩
   refine Wn (Wg (Rm z (R z (add_ z z) (Ra z (Wn (Wg (Rm z (R z (add_ z z) (Ra z (Wl ?_))))))))))
   have h1g : ∀ k ∈ S10, k ∈ S1_0 ∨ w0.heap.size ≤ k := or1 h16 (io sr) (leor lr)
   have h1s : ∀ k ∈ S1f, k ∈ S1_0 ∨ w0.heap.size ≤ k := or2 h1r h1g all_nil (leor s18.size)
   have h1t : Chg (· ∈ S1_0) w0 w1b := cM (cr S1_0 w0) s18 (io sr)
   have h1u : Chg (· ∈ S1_0) w0 w1n := cM h1t s1o h1g
   exact fun _ q => ⟨(x1k, iadd x11 1, iadd x12 1), (som hm1l).symm, ⟨S1f, (q.k (s3 z z z)), h1u, h1p, h1q, h1s, (iA _ _), (iA _ _)⟩⟩
  have h1v : ∀ k ∈ S10, k ∈ S1_0 ∨ w0.heap.size ≤ k := or1 h16 (io sr) (leor lr)
  have h1w : Chg (· ∈ S1_0) w0 w1b := cM (cr S1_0 w0) s18 (io sr)
  exact WC_exit (fun a' ha' => QO_brk (som (ifF hm1d hc19)).symm ⟨S10, (Sat.weaken ha' (s2 z z)), h1w, h13, h15, h1v, h17, h1c⟩)
 ·rintro ⟨x14, x11, x12⟩ a1x w1y rfl ⟨S10, hS2a, s1z, h13, h15, h16, h17, h1c⟩
  have hm20 := elL hm1a
  have hm21 := un3S hm20
  revert a1x
  refine Wo (Ws (Rm z (Ra z (Wn ?_))))
  obtain rfl := som hm21
  have h22 : Chg (· ∈ S1_0) w0 w1y := cM (cr S1_0 w0) s1z (io sr)
  have h23 : ∀ k ∈ S10, k ∈ S1_0 ∨ w0.heap.size ≤ k := or1 h16 (io sr) (leor lr)
  exact Wr (ret1 hr z ⟨h22, S10, z, h17, h13, h15, h23⟩)
 rintro r2b ex2c a2d w2e rfl ⟨rfl, hq24⟩
 have hm25 := elR hm1a
 obtain rfl := som hm25
 exact ⟨hq24, z⟩
def Q36 (w0 : World) (B : Nat) (pa1_0 : Option Addr) (pn1_0 pc1_0 : Nat) (S1_0 : List Nat) (r : Int × (List Rule)) (v : Value) (w' : World) : Prop := Chg (· ∈ S1_0) w0 w' ∧ un2 (fun r1 r2 => ∃ (S1 : List Nat), (vI r1) = v ∧ inI r1 ∧ ownS w' S1 (sl pa1_0 pn1_0 pc1_0) r2 ∧ S1.Nodup ∧ (∀ k ∈ S1, k ∈ S1_0 ∨ w0.heap.size ≤ k)) r
theorem W_laws_markRuleS {x1 : List Rule} {S1_0 : List Nat} {x2 : Int} {res : Int × (List Rule)} (hm : M_laws_markRuleS n x1 x2 = some res) (hBw : B ≤ w0.heap.size) (p1_0 : ownS w0 S1_0 (sl pa1_0 pn1_0 pc1_0) x1) (p1_0n : S1_0.Nodup) (p1_0g : ∀ k ∈ S1_0, B ≤ k) (p2_0 : inI x2) : CallsR prog 37 [(sl pa1_0 pn1_0 pc1_0), (vI x2)] w0 (Q36 w0 B pa1_0 pn1_0 pc1_0 S1_0 res) := by
 unfold M_laws_markRuleS at hm
 refine goF func37 z z (lb z) fun fn hr => Ws (Ra z (Wn (Wq (Ws (Ra z (Wn ?_))))))
 obtain ⟨u8g, hu4n, hm2q⟩ := bdS hm
 refine WC_iter (σ := (List Rule) × Int × Int) (ρ := Int × (List Rule)) (fun s a w => un3 (fun x1i x1a x19 => ∃  (S10 : List Nat), Sat 72 [(0, (sl pa1_0 pn1_0 pc1_0)), (1, (vI x1a)), (5, (vI x19))] a ∧ Chg (· ∈ S1_0) w0 w ∧ ownS w S10 (sl pa1_0 pn1_0 pc1_0) x1i ∧ S10.Nodup ∧ (∀ k ∈ S10, k ∈ S1_0 ∨ w0.heap.size ≤ k) ∧ inI x1a ∧ inI x19) s) (fun s a w => un3 (fun x1i x1a x19 => ∃  (S10 : List Nat), Sat 72 [(0, (sl pa1_0 pn1_0 pc1_0)), (1, (vI x1a))] a ∧ Chg (· ∈ S1_0) w0 w ∧ ownS w S10 (sl pa1_0 pn1_0 pc1_0) x1i ∧ S10.Nodup ∧ (∀ k ∈ S10, k ∈ S1_0 ∨ w0.heap.size ≤ k) ∧ inI x1a ∧ inI x19) s) (fun r ex a w => ex = .ret ∧ RetPost prog fn (Q36 w0 B pa1_0 pn1_0 pc1_0 S1_0 r) a w) hu4n ?_ ?_ ?_ ?_
 ·exact fun _ q => ⟨S1_0, (q.k (s3 z z z)), (cr S1_0 w0), p1_0, p1_0n, (io sr), p2_0, (ii z)⟩
 ·rintro ⟨x1i, x1a, x19⟩ a8h w2r o8i ⟨S10, hS4o, s1p, h1j, h1q, h1k, h1r, h2s⟩ hm4p
  have hm2t := un3S hm4p
  refine Wu (e := [(0, (sl pa1_0 pn1_0 pc1_0)), (1, (vI x1a)), (5, (vI x19))]) (N := 72) ?_ hS4o
  refine Wq (Ws (Rm z (Rm z (R z (lnR d_29 z (ownS.rep h1j)) (R z (lss z z) (Wn (Wc z (fun hc2g => ?_) (fun hc2g => ?_))))))))
  ·refine Wk (Wq (WC_block (Ws (Rm z (Rm z (Rm z ?_))))))
   obtain ⟨r4q, e4r, hm4s⟩ := bdS (ifT hm2t hc2g)
   refine E z (fc call49 z (W_laws_markText (B := B) e4r (lt_ hBw s1p.size) h1r)) ?_
   rintro _ w4t ⟨s2h, rfl, h4u⟩
   obtain ⟨x1b, e2u, hm4v⟩ := bdS hm4s
   have h2v := h1j.ext s2h
   refine RX z (rd_atQ (α := Rule) d_29 z_74 z z h2v e2u) ?_
   rintro _ ⟨g8j, h4w, rfl⟩
   refine R z (fd f_74_0 z) ?_
   obtain ⟨x8k, e4x, hm4y⟩ := bdS hm4v
   refine E0 (ef_setF (α := Rule) (v' := (⟨r4q, x1b.kind, x1b.size, x1b.little, x1b.bytes, x1b.names, x1b.tags, x1b.kids⟩ : Rule)) z_9 z h4w z z z z e2u e4x h2v h1q (lb z) (fun _ _ _ h => Rule_setO0 h h4u)) ?_
   rintro _ w4z ⟨S50, s2w, h2x, h51, h2y⟩
   refine Wn (Ws (Rm z (R z (add_ z z) (Ra z (Wn (Ws (Rm z (Rm z (Rm z ?_)))))))))
   obtain ⟨x1c, e2z, hm52⟩ := bdS hm4y
   refine RX z (rd_atQ (α := Rule) d_29 z_74 z z h2x e2z) ?_
   rintro _ ⟨g8l, h53, rfl⟩
   refine R z (fd f_74_1 z) ?_
   obtain ⟨x8m, e54, hm55⟩ := bdS hm52
   refine E0 (ef_setF (α := Rule) (v' := (⟨x1c.name, iadd x1a 1, x1c.size, x1c.little, x1c.bytes, x1c.names, x1c.tags, x1c.kids⟩ : Rule)) z_3 z h53 z z z z e2z e54 h2x h51 (lb z) (fun _ _ _ h => Rule_setO1 h (iA _ _))) ?_
   rintro _ w56 ⟨S57, s30, h31, h58, h32⟩
   refine Wn (Ws (Rm z (R z (add_ z z) (Ra z (Wn (Ws (Rm z (Rm z (Rm z ?_)))))))))
   obtain ⟨x1d, e33, hm59⟩ := bdS hm55
   refine RX z (rd_atQ (α := Rule) d_29 z_74 z z h31 e33) ?_
   rintro _ ⟨g8n, h5a, rfl⟩
   refine R z (fd f_74_2 z) ?_
   obtain ⟨x8o, e5b, hm5c⟩ := bdS hm59
   refine E0 (ef_setF (α := Rule) (v' := (⟨x1d.name, x1d.kind, iadd (iadd x1a 1) 1, x1d.little, x1d.bytes, x1d.names, x1d.tags, x1d.kids⟩ : Rule)) z_3 z h5a z z z z e33 e5b h31 h58 (lb z) (fun _ _ _ h => Rule_setO2 h (iA _ _))) ?_
   rintro _ w5d ⟨S5e, s34, h35, h5f, h36⟩
   refine Wn (Ws (Rm z (R z (add_ z z) (Ra z (Wn (Ws (Rm z (Rm z (Rm z (R z (rd_rem z z (by decide)) (R z (eql z z) ?_)))))))))))
   obtain ⟨x1e, e37, hm5g⟩ := bdS hm5c
   refine RX z (rd_atQ (α := Rule) d_29 z_74 z z h35 e37) ?_
   rintro _ ⟨g8p, h5h, rfl⟩
   refine R z (fd f_74_3 z) ?_
   obtain ⟨x5i, e5j, hm5k⟩ := bdS hm5g
   refine E0 (ef_setF (α := Rule) (v' := (⟨x1e.name, x1e.kind, x1e.size, (irem (iadd (iadd (iadd x1a 1) 1) 1) 3) == 0, x1e.bytes, x1e.names, x1e.tags, x1e.kids⟩ : Rule)) z_4 z h5h z z z z e37 e5j h35 h5f (lb z) (fun _ _ _ h => Rule_setO3 h)) ?_
   rintro _ w1s ⟨S5l, s38, h39, h5m, h3a⟩
   refine Wn (Ws (Rm z (R z (add_ z z) (Ra z (Wn (Ws (Rm z (Rm z ?_))))))))
   obtain ⟨x11, e3b, hm5n⟩ := bdS hm5k
   refine RX z (rd_atQ (α := Rule) d_29 z_74 z z h39 e3b) ?_
   rintro _ ⟨g8q, h5o, rfl⟩
   obtain ⟨cs8r, S8s, h5p, h5q, h15, h3c, h8t, h5r⟩ := own_lens h5o h39 h5m e3b
   obtain ⟨a8u, n8v, c8w, a8x, n8y, c8z, a90, n91, c92, a93, n94, c95, S1t, S1u, S1v, S1w, rfl, rfl, h5s, h5t, h5u, h5v, h3d, h3e, h3f⟩ := Rule_openO h5q
   refine R z (fd f_74_4 z) (R z (l1 g_25 z fid (h5p.at (j := 4) z)) (Rm z ?_))
   have h2i := lt_ s1p.size s2h.size
   have h2j := lt_ h2i s2w.size
   have h2k := lt_ h2j s30.size
   have h2l := lt_ h2k s34.size
   have h1x := lt_ h2l s38.size
   have h2m := lt_ hBw h1x
   have h3g := o1le h3a (o1le h36 (o1le h32 (o1le h2y (o1le h1k p1_0g hBw) (lt_ hBw h2i)) (lt_ hBw h2j)) (lt_ hBw h2k)) (lt_ hBw h2l)
   obtain ⟨r96, r3h, e5w, hm5x⟩ := bd2S hm5n
   refine E z (fc call14 z (W_laws_markByteS (B := B) e5w h2m h5v (nd_left h15) (o1le (fun k hk => .inl (h3c k (List.mem_append_left _ hk))) h3g h2m) (iA _ _))) ?_
   rintro _ w1l ⟨s1f, S3i, rfl, h5y, h5z, h60, h1y⟩
   have h61 : Chg (· ∈ (S1t ++ (S1u ++ (S1v ++ S1w)))) w1s w1l := cM (cr (S1t ++ (S1u ++ (S1v ++ S1w))) w1s) s1f (io (sub_l sr))
   have h62 : ∀ k ∈ S3i, k ∈ (S1t ++ (S1u ++ (S1v ++ S1w))) ∨ w1s.heap.size ≤ k := or1 h1y (io (sub_l sr)) (leor lr)
   obtain ⟨S63, h3j, h64, h3k⟩ := h5r _ _ _ h61 (Rule_mkO (x := (⟨x11.name, x11.kind, x11.size, x11.little, r3h, x11.names, x11.tags, x11.kids⟩ : Rule)) (S1 := S3i) (S2 := S1u) (S3 := S1v) (S4 := S1w) h5s h5t h5u h5z (h3d.chg s1f (dj_symm (nmL (nd_dj h15)))) (h3e.chg s1f (dj_symm (nmL (nmR (nd_dj h15))))) (h3f.chg s1f (dj_symm (nmR (nmR (nd_dj h15)))))) (nd_app h60 (nd_app (nd_left (nd_right h15)) (nd_app (nd_left (nd_right (nd_right h15))) (nd_right (nd_right (nd_right h15))) (nd_dj (nd_right (nd_right h15)))) (nmA (nmL (nd_dj (nd_right h15))) (nmR (nd_dj (nd_right h15))))) (nmA (o1no h1y (nmL (nd_dj h15)) (ownS.lt h3d) lr) (nmA (o1no h1y (nmL (nmR (nd_dj h15))) (ownS.lt h3e) lr) (o1no h1y (nmR (nmR (nd_dj h15))) (ownS.lt h3f) lr)))) (all_app h62 (all_app (io (sub_r (sub_l sr))) (all_app (io (sub_r (sub_r (sub_l sr)))) (io (sub_r (sub_r (sub_r sr)))))))
   refine Ra z (Wn (Ws (Rm z (Rm z ?_))))
   obtain ⟨x12, e3l, hm65⟩ := bdS hm5x
   refine RX z (rd_atQ (α := Rule) d_29 z_74 z z h3j e3l) ?_
   rintro _ ⟨g97, h66, rfl⟩
   obtain ⟨cs98, S99, h67, h68, h16, h3m, h9a, h69⟩ := own_lens h66 h3j h64 e3l
   obtain ⟨a9b, n9c, c9d, a9e, n9f, c9g, a9h, n9i, c9j, a9k, n9l, c9m, S1z, S20, S21, S22, rfl, rfl, h6a, h6b, h6c, h3n, h6d, h3o, h3p⟩ := Rule_openO h68
   refine R z (fd f_74_5 z) (R z (l1 g_47 z fid (h67.at (j := 5) z)) (Rm z ?_))
   have h23 := lt_ h1x s1f.size
   have h2n := lt_ hBw h23
   have h3q := o1le h3k h3g h2m
   obtain ⟨r9n, r3r, e6e, hm6f⟩ := bd2S hm65
   refine E z (fc call24 z (W_laws_markStringS (B := B) e6e h2n h6d (nd_left (nd_right h16)) (o1le (fun k hk => .inl ((fun k hk => h3m k (List.mem_append_right _ hk)) k (List.mem_append_left _ hk))) h3q h2n) h5y)) ?_
   rintro _ w1m ⟨s1g, S3s, rfl, h6g, h6h, h6i, h24⟩
   have h6j : Chg (· ∈ (S1z ++ (S20 ++ (S21 ++ S22)))) w1l w1m := cM (cr (S1z ++ (S20 ++ (S21 ++ S22))) w1l) s1g (io (sub_r (sub_l sr)))
   have h6k : ∀ k ∈ S3s, k ∈ (S1z ++ (S20 ++ (S21 ++ S22))) ∨ w1l.heap.size ≤ k := or1 h24 (io (sub_r (sub_l sr))) (leor lr)
   obtain ⟨S6l, h3t, h6m, h3u⟩ := h69 _ _ _ h6j (Rule_mkO (x := (⟨x12.name, x12.kind, x12.size, x12.little, x12.bytes, r3r, x12.tags, x12.kids⟩ : Rule)) (S1 := S1z) (S2 := S3s) (S3 := S21) (S4 := S22) h6a h6b h6c (h3n.chg s1g (nmL (nd_dj h16))) h6h (h3o.chg s1g (dj_symm (nmL (nd_dj (nd_right h16))))) (h3p.chg s1g (dj_symm (nmR (nd_dj (nd_right h16)))))) (nd_app (nd_left h16) (nd_app h6i (nd_app (nd_left (nd_right (nd_right h16))) (nd_right (nd_right (nd_right h16))) (nd_dj (nd_right (nd_right h16)))) (nmA (o1no h24 (nmL (nd_dj (nd_right h16))) (ownS.lt h3o) lr) (o1no h24 (nmR (nd_dj (nd_right h16))) (ownS.lt h3p) lr))) (nmA (dj_symm (o1no h24 (dj_symm (nmL (nd_dj h16))) (ownS.lt h3n) lr)) (nmA (nmL (nmR (nd_dj h16))) (nmR (nmR (nd_dj h16)))))) (all_app (io (sub_l sr)) (all_app h6k (all_app (io (sub_r (sub_r (sub_l sr)))) (io (sub_r (sub_r (sub_r sr)))))))
   refine Ra z (Wn (Ws (Rm z (Rm z ?_))))
   obtain ⟨x13, e3v, hm6n⟩ := bdS hm6f
   refine RX z (rd_atQ (α := Rule) d_29 z_74 z z h3t e3v) ?_
   rintro _ ⟨g9o, h6o, rfl⟩
   obtain ⟨cs9p, S9q, h6p, h6q, h17, h3w, h9r, h6r⟩ := own_lens h6o h3t h6m e3v
   obtain ⟨a9s, n9t, c9u, a9v, n9w, c9x, a9y, n9z, c100, a101, n102, c103, S25, S26, S27, S28, rfl, rfl, h6s, h6t, h6u, h3x, h3y, h6v, h3z⟩ := Rule_openO h6q
   refine R z (fd f_74_6 z) (R z (l1 g_72 z fid (h6p.at (j := 6) z)) (Rm z ?_))
   have h29 := lt_ h23 s1g.size
   have h2o := lt_ hBw h29
   have h40 := o1le h3u h3q h2n
   obtain ⟨r104, r41, e6w, hm6x⟩ := bd2S hm6n
   refine E z (fc call65 z (W_laws_markIntS (B := B) e6w h2o h6v (nd_left (nd_right (nd_right h17))) (o1le (fun k hk => .inl ((fun k hk => (fun k hk => h3w k (List.mem_append_right _ hk)) k (List.mem_append_right _ hk)) k (List.mem_append_left _ hk))) h40 h2o) h6g)) ?_
   rintro _ w1n ⟨s1h, S42, rfl, h6y, h6z, h70, h2a⟩
   have h71 : Chg (· ∈ (S25 ++ (S26 ++ (S27 ++ S28)))) w1m w1n := cM (cr (S25 ++ (S26 ++ (S27 ++ S28))) w1m) s1h (io (sub_r (sub_r (sub_l sr))))
   have h72 : ∀ k ∈ S42, k ∈ (S25 ++ (S26 ++ (S27 ++ S28))) ∨ w1m.heap.size ≤ k := or1 h2a (io (sub_r (sub_r (sub_l sr)))) (leor lr)
   obtain ⟨S73, h43, h74, h44⟩ := h6r _ _ _ h71 (Rule_mkO (x := (⟨x13.name, x13.kind, x13.size, x13.little, x13.bytes, x13.names, r41, x13.kids⟩ : Rule)) (S1 := S25) (S2 := S26) (S3 := S42) (S4 := S28) h6s h6t h6u (h3x.chg s1h (nmL (nmR (nd_dj h17)))) (h3y.chg s1h (nmL (nd_dj (nd_right h17)))) h6z (h3z.chg s1h (dj_symm (nd_dj (nd_right (nd_right h17)))))) (nd_app (nd_left h17) (nd_app (nd_left (nd_right h17)) (nd_app h70 (nd_right (nd_right (nd_right h17))) (o1no h2a (nd_dj (nd_right (nd_right h17))) (ownS.lt h3z) lr)) (nmA (dj_symm (o1no h2a (dj_symm (nmL (nd_dj (nd_right h17)))) (ownS.lt h3y) lr)) (nmR (nd_dj (nd_right h17))))) (nmA (nmL (nd_dj h17)) (nmA (dj_symm (o1no h2a (dj_symm (nmL (nmR (nd_dj h17)))) (ownS.lt h3x) lr)) (nmR (nmR (nd_dj h17)))))) (all_app (io (sub_l sr)) (all_app (io (sub_r (sub_l sr))) (all_app h72 (io (sub_r (sub_r (sub_r sr)))))))
   refine Ra z (Wn (Wg (Rm z (Rm z ?_))))
   obtain ⟨x14, e45, hm75⟩ := bdS hm6x
   refine RX z (rd_atQ (α := Rule) d_29 z_74 z z h43 e45) ?_
   rintro _ ⟨g105, h76, rfl⟩
   obtain ⟨cs106, S107, h77, h78, h18, h46, h108, h79⟩ := own_lens h76 h43 h74 e45
   obtain ⟨a109, n10a, c10b, a10c, n10d, c10e, a10f, n10g, c10h, a10i, n10j, c10k, S2b, S2c, S2d, S2e, rfl, rfl, h7a, h7b, h7c, h47, h48, h49, h7d⟩ := Rule_openO h78
   refine R z (fd f_74_7 z) (R z (l1 g_72 z fid (h77.at (j := 7) z)) (Rm z ?_))
   have h2p := lt_ h29 s1h.size
   have h4a := lt_ hBw h2p
   have h7e := o1le (fun k hk => .inl ((fun k hk => (fun k hk => (fun k hk => h46 k (List.mem_append_right _ hk)) k (List.mem_append_right _ hk)) k (List.mem_append_right _ hk)) k hk)) (o1le h44 h40 h2o) h4a
   obtain ⟨r7f, r4b, e7g, hm7h⟩ := bd2S hm75
   refine E z (fc call65 z (W_laws_markIntS (B := B) e7g h4a h7d (nd_right (nd_right (nd_right h18))) h7e h6y)) ?_
   rintro _ w4c ⟨s1o, S4d, rfl, h7i, h7j, h7k, h2f⟩
   have h7l : Chg (· ∈ (S2b ++ (S2c ++ (S2d ++ S2e)))) w1n w4c := cM (cr (S2b ++ (S2c ++ (S2d ++ S2e))) w1n) s1o (io (sub_r (sub_r (sub_r sr))))
   have h7m : ∀ k ∈ S4d, k ∈ (S2b ++ (S2c ++ (S2d ++ S2e))) ∨ w1n.heap.size ≤ k := or1 h2f (io (sub_r (sub_r (sub_r sr)))) (leor lr)
   obtain ⟨S4e, h7n, h7o, h7p⟩ := h79 _ _ _ h7l (Rule_mkO (x := (⟨x14.name, x14.kind, x14.size, x14.little, x14.bytes, x14.names, x14.tags, r4b⟩ : Rule)) (S1 := S2b) (S2 := S2c) (S3 := S2d) (S4 := S4d) h7a h7b h7c (h47.chg s1o (nmR (nmR (nd_dj h18)))) (h48.chg s1o (nmR (nd_dj (nd_right h18)))) (h49.chg s1o (nd_dj (nd_right (nd_right h18)))) h7j) (nd_app (nd_left h18) (nd_app (nd_left (nd_right h18)) (nd_app (nd_left (nd_right (nd_right h18))) h7k (dj_symm (o1no h2f (dj_symm (nd_dj (nd_right (nd_right h18)))) (ownS.lt h49) lr))) (nmA (nmL (nd_dj (nd_right h18))) (dj_symm (o1no h2f (dj_symm (nmR (nd_dj (nd_right h18)))) (ownS.lt h48) lr)))) (nmA (nmL (nd_dj h18)) (nmA (nmL (nmR (nd_dj h18))) (dj_symm (o1no h2f (dj_symm (nmR (nmR (nd_dj h18)))) (ownS.lt h47) lr))))) (all_app (io (sub_l sr)) (all_app (io (sub_r (sub_l sr))) (all_app (io (sub_r (sub_r (sub_l sr)))) h7m)))
   refine Ra z (Wn (Wg (Rm z (R z (add_ z z) (Ra z (Wl ?_))))))
   have h4f : ∀ k ∈ S10, k ∈ S1_0 ∨ w0.heap.size ≤ k := or1 h1k (io sr) (leor lr)
   have h4g : ∀ k ∈ S50, k ∈ S1_0 ∨ w0.heap.size ≤ k := or1 h2y h4f (leor h2i)
   have h4h : ∀ k ∈ S57, k ∈ S1_0 ∨ w0.heap.size ≤ k := or1 h32 h4g (leor h2j)
   have h4i : ∀ k ∈ S5e, k ∈ S1_0 ∨ w0.heap.size ≤ k := or1 h36 h4h (leor h2k)
   have h4j : ∀ k ∈ S5l, k ∈ S1_0 ∨ w0.heap.size ≤ k := or1 h3a h4i (leor h2l)
   have h4k : ∀ k ∈ S63, k ∈ S1_0 ∨ w0.heap.size ≤ k := or1 h3k h4j (leor h1x)
   have h4l : ∀ k ∈ S6l, k ∈ S1_0 ∨ w0.heap.size ≤ k := or1 h3u h4k (leor h23)
   have h4m : ∀ k ∈ S73, k ∈ S1_0 ∨ w0.heap.size ≤ k := or1 h44 h4l (leor h29)
   have h7q : ∀ k ∈ S4e, k ∈ S1_0 ∨ w0.heap.size ≤ k := or1 h7p h4m (leor h2p)
   have h7r : Chg (· ∈ S1_0) w0 w2r := cM (cr S1_0 w0) s1p (io sr)
   have h7s : Chg (· ∈ S1_0) w0 w4t := cext h7r s2h
   have h7t : Chg (· ∈ S1_0) w0 w4z := cM h7s s2w h4f
   have h7u : Chg (· ∈ S1_0) w0 w56 := cM h7t s30 h4g
   have h7v : Chg (· ∈ S1_0) w0 w5d := cM h7u s34 h4h
   have h7w : Chg (· ∈ S1_0) w0 w1s := cM h7v s38 h4i
   have h7x : ∀ k ∈ S1t, k ∈ S1_0 ∨ w0.heap.size ≤ k := or1 (fun k hk => .inl (h3c k (List.mem_append_left _ hk))) h4j (leor h1x)
   have h7y : Chg (· ∈ S1_0) w0 w1l := cM h7w s1f h7x
   have h7z : ∀ k ∈ S20, k ∈ S1_0 ∨ w0.heap.size ≤ k := or1 (fun k hk => .inl ((fun k hk => h3m k (List.mem_append_right _ hk)) k (List.mem_append_left _ hk))) h4k (leor h23)
   have h80 : Chg (· ∈ S1_0) w0 w1m := cM h7y s1g h7z
   have h81 : ∀ k ∈ S27, k ∈ S1_0 ∨ w0.heap.size ≤ k := or1 (fun k hk => .inl ((fun k hk => (fun k hk => h3w k (List.mem_append_right _ hk)) k (List.mem_append_right _ hk)) k (List.mem_append_left _ hk))) h4l (leor h29)
   have h82 : Chg (· ∈ S1_0) w0 w1n := cM h80 s1h h81
   have h83 : ∀ k ∈ S2e, k ∈ S1_0 ∨ w0.heap.size ≤ k := or1 (fun k hk => .inl ((fun k hk => (fun k hk => (fun k hk => h46 k (List.mem_append_right _ hk)) k (List.mem_append_right _ hk)) k (List.mem_append_right _ hk)) k hk)) h4m (leor h2p)
   have h84 : Chg (· ∈ S1_0) w0 w4c := cM h82 s1o h83
   exact fun _ q => ⟨(((((x5i.set (x19).toNat (⟨x11.name, x11.kind, x11.size, x11.little, r3h, x11.names, x11.tags, x11.kids⟩ : Rule)).set (x19).toNat (⟨x12.name, x12.kind, x12.size, x12.little, x12.bytes, r3r, x12.tags, x12.kids⟩ : Rule)).set (x19).toNat (⟨x13.name, x13.kind, x13.size, x13.little, x13.bytes, x13.names, r41, x13.kids⟩ : Rule)).set (x19).toNat (⟨x14.name, x14.kind, x14.size, x14.little, x14.bytes, x14.names, x14.tags, r4b⟩ : Rule)), r7f, iadd x19 1), (som hm7h).symm, ⟨S4e, (q.k (s3 z z z)), h84, h7n, h7o, h7q, h7i, (iA _ _)⟩⟩
  have h85 : ∀ k ∈ S10, k ∈ S1_0 ∨ w0.heap.size ≤ k := or1 h1k (io sr) (leor lr)
  have h86 : Chg (· ∈ S1_0) w0 w2r := cM (cr S1_0 w0) s1p (io sr)
  exact WC_exit (fun a' ha' => QO_brk (som (ifF hm2t hc2g)).symm ⟨S10, (Sat.weaken ha' (s2 z z)), h86, h1j, h1q, h85, h1r, h2s⟩)
 ·rintro ⟨x1i, x1a, x19⟩ a87 w88 rfl ⟨S10, hS10l, s89, h1j, h1q, h1k, h1r, h2s⟩
  have hm8a := elL hm2q
  have hm8b := un3S hm8a
  revert a87
  refine Wo (Ws (Rm z (Ra z (Wn ?_))))
  obtain rfl := som hm8b
  have h8c : Chg (· ∈ S1_0) w0 w88 := cM (cr S1_0 w0) s89 (io sr)
  have h8d : ∀ k ∈ S10, k ∈ S1_0 ∨ w0.heap.size ≤ k := or1 h1k (io sr) (leor lr)
  exact Wr (ret1 hr z ⟨h8c, S10, z, h1r, h1j, h1q, h8d⟩)
 rintro r10m ex10n a10o w10p rfl ⟨rfl, hq8e⟩
 have hm8f := elR hm2q
 obtain rfl := som hm8f
 exact ⟨hq8e, z⟩
theorem W_laws_markDescription {x1 : Desc} {S1_0 : List Nat} {x2 : Int} {res : Int × (List Rule)} (hm : M_laws_markDescription n x1 x2 = some res) (hBw : B ≤ w0.heap.size) (p1_0 : ownS w0 S1_0 (sl pa1_0 pn1_0 pc1_0) x1.rules) (p1_0n : S1_0.Nodup) (p1_0g : ∀ k ∈ S1_0, B ≤ k) (p2_0 : inI x2) : CallsR prog 13 [(.agg #[(sl pa1_0 pn1_0 pc1_0)]), (vI x2)] w0 (Q36 w0 B pa1_0 pn1_0 pc1_0 S1_0 res) := by
 unfold M_laws_markDescription at hm
 refine goF func13 z z (lb z) fun fn hr => Ws (E z (fb z) ?_)
 rintro _ w11 ⟨rfl, h12⟩
 have h10 := h12.below
 have h14 : Blk w11 w0.heap.size [(sl pa1_0 pn1_0 pc1_0)] := h12.blk
 refine Ra z (Wn (Ws (R z (fd f_31_0 z) (R z (l1 g_29 z fid (h14.at z)) (Rm z ?_)))))
 obtain ⟨r1g, r1h, e15, hm16⟩ := bd2S hm
 refine E z (fc call37 z (W_laws_markRuleS (B := B) e15 (lt_ hBw h10.size) (p1_0.ext h10) p1_0n p1_0g p2_0)) ?_
 rintro _ w17 ⟨s18, S13, rfl, h19, h1a, h1b, h1c⟩
 refine Ra z (Wn (Ws (Rm z (Ra z (Wn ?_)))))
 obtain rfl := som hm16
 have h1d : Chg (· ∈ S1_0) w0 w11 := cext (cr S1_0 w0) h10
 have h1e : Chg (· ∈ S1_0) w0 w17 := cM h1d s18 (io sr)
 have h1f : ∀ k ∈ S13, k ∈ S1_0 ∨ w0.heap.size ≤ k := or1 h1c (io sr) (leor h10.size)
 exact Wr (ret1 hr z ⟨h1e, S13, z, h19, h1a, h1b, h1f⟩)
def Q37 (w0 : World) (B : Nat) (pa1_0 : Option Addr) (pn1_0 pc1_0 : Nat) (S1_0 : List Nat) (r : Int × (List Val)) (v : Value) (w' : World) : Prop := Chg (· ∈ S1_0) w0 w' ∧ un2 (fun r1 r2 => ∃ (S1 : List Nat), (vI r1) = v ∧ inI r1 ∧ ownS w' S1 (sl pa1_0 pn1_0 pc1_0) r2 ∧ S1.Nodup ∧ (∀ k ∈ S1, k ∈ S1_0 ∨ w0.heap.size ≤ k)) r
structure S_laws_markValueS (f : (List Val) → Int → Option (Int × (List Val))) : Prop where
  run : ∀ {B pn1_0 pc1_0 : Nat} {pa1_0 : Option Addr} {S1_0 : List Nat} {x1 : List Val} {x2 : Int} {res : Int × (List Val)} {w0 : World} (hm : f x1 x2 = some res) (hBw : B ≤ w0.heap.size) (p1_0 : ownS w0 S1_0 (sl pa1_0 pn1_0 pc1_0) x1) (p1_0n : S1_0.Nodup) (p1_0g : ∀ k ∈ S1_0, B ≤ k) (p2_0 : inI x2), CallsR prog 41 [(sl pa1_0 pn1_0 pc1_0), (vI x2)] w0 (Q37 w0 B pa1_0 pn1_0 pc1_0 S1_0 res)
abbrev I_laws_markValueS (n : Nat) : Prop := S_laws_markValueS (F_laws_markValueS n).laws_markValueS
theorem T_laws_markValueS (ih0 : I_laws_markValueS n) : S_laws_markValueS (B_laws_markValueS n (F_laws_markValueS n)) := by
 constructor
 intro B pn1_0 pc1_0 pa1_0 S1_0 x1 x2 res w0 hm hBw p1_0 p1_0n p1_0g p2_0
 unfold B_laws_markValueS at hm
 refine goF func41 z z (lb z) fun fn hr => Ws (Ra z (Wn (Wq (Ws (Ra z (Wn ?_))))))
 obtain ⟨u49, hu2j, hm1p⟩ := bdS hm
 refine WC_iter (σ := (List Val) × Int × Int) (ρ := Int × (List Val)) (fun s a w => un3 (fun x14 x12 x11 => ∃  (S10 : List Nat), Sat 34 [(0, (sl pa1_0 pn1_0 pc1_0)), (1, (vI x12)), (5, (vI x11))] a ∧ Chg (· ∈ S1_0) w0 w ∧ ownS w S10 (sl pa1_0 pn1_0 pc1_0) x14 ∧ S10.Nodup ∧ (∀ k ∈ S10, k ∈ S1_0 ∨ w0.heap.size ≤ k) ∧ inI x12 ∧ inI x11) s) (fun s a w => un3 (fun x14 x12 x11 => ∃  (S10 : List Nat), Sat 34 [(0, (sl pa1_0 pn1_0 pc1_0)), (1, (vI x12))] a ∧ Chg (· ∈ S1_0) w0 w ∧ ownS w S10 (sl pa1_0 pn1_0 pc1_0) x14 ∧ S10.Nodup ∧ (∀ k ∈ S10, k ∈ S1_0 ∨ w0.heap.size ≤ k) ∧ inI x12 ∧ inI x11) s) (fun r ex a w => ex = .ret ∧ RetPost prog fn (Q37 w0 B pa1_0 pn1_0 pc1_0 S1_0 r) a w) hu2j ?_ ?_ ?_ ?_
 ·exact fun _ q => ⟨S1_0, (q.k (s3 z z z)), (cr S1_0 w0), p1_0, p1_0n, (io sr), p2_0, (ii z)⟩
 ·rintro ⟨x14, x12, x11⟩ a4a w1q o4b ⟨S10, hS2k, s15, h13, h18, h16, h19, h1r⟩ hm2l
  have hm1s := un3S hm2l
  refine Wu (e := [(0, (sl pa1_0 pn1_0 pc1_0)), (1, (vI x12)), (5, (vI x11))]) (N := 34) ?_ hS2k
  refine Wq (Ws (Rm z (Rm z (R z (lnR d_39 z (ownS.rep h13)) (R z (lss z z) (Wn (Wc z (fun hc1l => ?_) (fun hc1l => ?_))))))))
  ·refine Wk (Wq (WC_block (Ws (Rm z (Rm z (Rm z ?_))))))
   obtain ⟨x1t, e1u, hm2m⟩ := bdS (ifT hm1s hc1l)
   refine RX z (rd_atQ (α := Val) d_39 z_41 z z h13 e1u) ?_
   rintro _ ⟨g4c, h2n, rfl⟩
   refine R z (fd f_41_0 z) ?_
   obtain ⟨x2o, e2p, hm2q⟩ := bdS hm2m
   refine E0 (ef_setF (α := Val) (v' := (⟨x12, x1t.bytes, x1t.items⟩ : Val)) z_3 z h2n z z z z e1u e2p h13 h18 (lb z) (fun _ _ _ h => Val_setO0 h h19)) ?_
   rintro _ w1a ⟨S2r, s1v, h1w, h2s, h1x⟩
   refine Wn (Ws (Rm z (R z (add_ z z) (Ra z (Wn (Ws (Rm z (Rm z ?_))))))))
   obtain ⟨x1b, e1y, hm2t⟩ := bdS hm2q
   refine RX z (rd_atQ (α := Val) d_39 z_41 z z h1w e1y) ?_
   rintro _ ⟨g4d, h2u, rfl⟩
   obtain ⟨cs4e, S4f, h2v, h2w, h1c, h1z, h4g, h2x⟩ := own_lens h2u h1w h2s e1y
   obtain ⟨a4h, n4i, c4j, a4k, n4l, c4m, S1d, S1e, rfl, rfl, h2y, h2z, h20⟩ := Val_openO h2w
   refine R z (fd f_41_1 z) (R z (l1 g_25 z fid (h2v.at (j := 1) z)) (Rm z ?_))
   have h1f := lt_ s15.size s1v.size
   have h1m := lt_ hBw h1f
   have h21 := o1le h1x (o1le h16 p1_0g hBw) (lt_ hBw s15.size)
   obtain ⟨r4n, r22, e30, hm31⟩ := bd2S hm2t
   refine E z (fc call14 z (W_laws_markByteS (B := B) e30 h1m h2z (nd_left h1c) (o1le (fun k hk => .inl (h1z k (List.mem_append_left _ hk))) h21 h1m) (iA _ _))) ?_
   rintro _ w17 ⟨s1g, S23, rfl, h32, h33, h34, h24⟩
   have h35 : Chg (· ∈ (S1d ++ S1e)) w1a w17 := cM (cr (S1d ++ S1e) w1a) s1g (io (sub_l sr))
   have h36 : ∀ k ∈ S23, k ∈ (S1d ++ S1e) ∨ w1a.heap.size ≤ k := or1 h24 (io (sub_l sr)) (leor lr)
   obtain ⟨S37, h25, h38, h26⟩ := h2x _ _ _ h35 (Val_mkO (x := (⟨x1b.number, r22, x1b.items⟩ : Val)) (S1 := S23) (S2 := S1e) h2y h33 (h20.chg s1g (dj_symm (nd_dj h1c)))) (nd_app h34 (nd_right h1c) (o1no h24 (nd_dj h1c) (ownS.lt h20) lr)) (all_app h36 (io (sub_r sr)))
   refine Ra z (Wn (Wg (Rm z (Rm z ?_))))
   obtain ⟨x1h, e27, hm39⟩ := bdS hm31
   refine RX z (rd_atQ (α := Val) d_39 z_41 z z h25 e27) ?_
   rintro _ ⟨g4o, h3a, rfl⟩
   obtain ⟨cs4p, S4q, h3b, h3c, h1i, h28, h4r, h3d⟩ := own_lens h3a h25 h38 e27
   obtain ⟨a4s, n4t, c4u, a4v, n4w, c4x, S1j, S1k, rfl, rfl, h3e, h29, h3f⟩ := Val_openO h3c
   refine R z (fd f_41_2 z) (R z (l1 g_39 z fid (h3b.at (j := 2) z)) (Rm z ?_))
   have h1n := lt_ h1f s1g.size
   have h2a := lt_ hBw h1n
   obtain ⟨r3g, r2b, e3h, hm3i⟩ := bd2S hm39
   refine E z (fc call41 z (ih0.run (B := B) e3h h2a h3f (nd_right h1i) (o1le (fun k hk => .inl ((fun k hk => h28 k (List.mem_append_right _ hk)) k hk)) (o1le h26 h21 h1m) h2a) h32)) ?_
   rintro _ w2c ⟨s1o, S2d, rfl, h3j, h3k, h3l, h2e⟩
   have h3m : Chg (· ∈ (S1j ++ S1k)) w17 w2c := cM (cr (S1j ++ S1k) w17) s1o (io (sub_r sr))
   have h3n : ∀ k ∈ S2d, k ∈ (S1j ++ S1k) ∨ w17.heap.size ≤ k := or1 h2e (io (sub_r sr)) (leor lr)
   obtain ⟨S2f, h3o, h3p, h3q⟩ := h3d _ _ _ h3m (Val_mkO (x := (⟨x1h.number, x1h.bytes, r2b⟩ : Val)) (S1 := S1j) (S2 := S2d) h3e (h29.chg s1o (nd_dj h1i)) h3k) (nd_app (nd_left h1i) h3l (dj_symm (o1no h2e (dj_symm (nd_dj h1i)) (ownS.lt h29) lr))) (all_app (io (sub_l sr)) h3n)
   refine Ra z (Wn (Wg (Rm z (R z (add_ z z) (Ra z (Wl ?_))))))
   have h2g : ∀ k ∈ S10, k ∈ S1_0 ∨ w0.heap.size ≤ k := or1 h16 (io sr) (leor lr)
   have h2h : ∀ k ∈ S2r, k ∈ S1_0 ∨ w0.heap.size ≤ k := or1 h1x h2g (leor s15.size)
   have h2i : ∀ k ∈ S37, k ∈ S1_0 ∨ w0.heap.size ≤ k := or1 h26 h2h (leor h1f)
   have h3r : ∀ k ∈ S2f, k ∈ S1_0 ∨ w0.heap.size ≤ k := or1 h3q h2i (leor h1n)
   have h3s : Chg (· ∈ S1_0) w0 w1q := cM (cr S1_0 w0) s15 (io sr)
   have h3t : Chg (· ∈ S1_0) w0 w1a := cM h3s s1v h2g
   have h3u : ∀ k ∈ S1d, k ∈ S1_0 ∨ w0.heap.size ≤ k := or1 (fun k hk => .inl (h1z k (List.mem_append_left _ hk))) h2h (leor h1f)
   have h3v : Chg (· ∈ S1_0) w0 w17 := cM h3t s1g h3u
   have h3w : ∀ k ∈ S1k, k ∈ S1_0 ∨ w0.heap.size ≤ k := or1 (fun k hk => .inl ((fun k hk => h28 k (List.mem_append_right _ hk)) k hk)) h2i (leor h1n)
   have h3x : Chg (· ∈ S1_0) w0 w2c := cM h3v s1o h3w
   exact fun _ q => ⟨(((x2o.set (x11).toNat (⟨x1b.number, r22, x1b.items⟩ : Val)).set (x11).toNat (⟨x1h.number, x1h.bytes, r2b⟩ : Val)), r3g, iadd x11 1), (som hm3i).symm, ⟨S2f, (q.k (s3 z z z)), h3x, h3o, h3p, h3r, h3j, (iA _ _)⟩⟩
  have h3y : ∀ k ∈ S10, k ∈ S1_0 ∨ w0.heap.size ≤ k := or1 h16 (io sr) (leor lr)
  have h3z : Chg (· ∈ S1_0) w0 w1q := cM (cr S1_0 w0) s15 (io sr)
  exact WC_exit (fun a' ha' => QO_brk (som (ifF hm1s hc1l)).symm ⟨S10, (Sat.weaken ha' (s2 z z)), h3z, h13, h18, h3y, h19, h1r⟩)
 ·rintro ⟨x14, x12, x11⟩ a40 w41 rfl ⟨S10, hS4y, s42, h13, h18, h16, h19, h1r⟩
  have hm43 := elL hm1p
  have hm44 := un3S hm43
  revert a40
  refine Wo (Ws (Rm z (Ra z (Wn ?_))))
  obtain rfl := som hm44
  have h45 : Chg (· ∈ S1_0) w0 w41 := cM (cr S1_0 w0) s42 (io sr)
  have h46 : ∀ k ∈ S10, k ∈ S1_0 ∨ w0.heap.size ≤ k := or1 h16 (io sr) (leor lr)
  exact Wr (ret1 hr z ⟨h45, S10, z, h19, h13, h18, h46⟩)
 rintro r4z ex50 a51 w52 rfl ⟨rfl, hq47⟩
 have hm48 := elR hm1p
 obtain rfl := som hm48
 exact ⟨hq47, z⟩
theorem A_laws_markValueS : ∀ n, I_laws_markValueS n
  | 0 => ⟨fun hm => by intros; exact nomatch (show none = some _ from hm)⟩
  | n + 1 => T_laws_markValueS (A_laws_markValueS n)
theorem W_laws_markValueS : S_laws_markValueS (F_laws_markValueS n).laws_markValueS := A_laws_markValueS n

def Q38 (w0 : World) (B : Nat) (pa1_1 : Option Addr) (pn1_1 pc1_1 : Nat) (S1_1 : List Nat) (pa1_2 : Option Addr) (pn1_2 pc1_2 : Nat) (S1_2 : List Nat) (r : Int × (List UInt8) × (List Val)) (v : Value) (w' : World) : Prop := Chg (· ∈ (S1_1 ++ S1_2)) w0 w' ∧ un3 (fun r1 r2 r3 => ∃ (S1 : List Nat) (S2 : List Nat), (vI r1) = v ∧ inI r1 ∧ ownS w' S1 (sl pa1_1 pn1_1 pc1_1) r2 ∧ S1.Nodup ∧ (∀ k ∈ S1, k ∈ S1_1 ∨ w0.heap.size ≤ k) ∧ ownS w' S2 (sl pa1_2 pn1_2 pc1_2) r3 ∧ S2.Nodup ∧ (∀ k ∈ S2, k ∈ S1_2 ∨ w0.heap.size ≤ k)) r
theorem W_laws_markValue {x1 : Val} {S1_1 : List Nat} {S1_2 : List Nat} {x2 : Int} {res : Int × (List UInt8) × (List Val)} (hm : M_laws_markValue n x1 x2 = some res) (hBw : B ≤ w0.heap.size) (p1_0 : inI x1.number) (p1_1 : ownS w0 S1_1 (sl pa1_1 pn1_1 pc1_1) x1.bytes) (p1_1n : S1_1.Nodup) (p1_1g : ∀ k ∈ S1_1, B ≤ k) (p1_2 : ownS w0 S1_2 (sl pa1_2 pn1_2 pc1_2) x1.items) (p1_2n : S1_2.Nodup) (p1_2g : ∀ k ∈ S1_2, B ≤ k) (p1_2d1 : ∀ k ∈ S1_2, k ∉ S1_1) (p2_0 : inI x2) : CallsR prog 19 [(.agg #[(vI x1.number), (sl pa1_1 pn1_1 pc1_1), (sl pa1_2 pn1_2 pc1_2)]), (vI x2)] w0 (Q38 w0 B pa1_1 pn1_1 pc1_1 S1_1 pa1_2 pn1_2 pc1_2 S1_2 res) := by
 unfold M_laws_markValue at hm
 refine goF func19 z z (lb z) fun fn hr => Ws (E z (fb z) ?_)
 rintro _ w12 ⟨rfl, h13⟩
 have h10 := h13.below
 have h14 : Blk w12 w0.heap.size [(vI x1.number), (sl pa1_1 pn1_1 pc1_1), (sl pa1_2 pn1_2 pc1_2)] := h13.blk
 refine Ra z (Wn (Ws (R z (fd f_41_1 z) (R z (l1 g_25 z fid (h14.at z)) (Rm z ?_)))))
 obtain ⟨r1s, r1t, e1a, hm1b⟩ := bd2S hm
 refine E z (fc call14 z (W_laws_markByteS (B := B) e1a (lt_ hBw h10.size) (p1_1.ext h10) p1_1n p1_1g p2_0)) ?_
 rintro _ w1c ⟨s11, S15, rfl, h1d, h1e, h1f, h16⟩
 refine Ra z (Wn (Ws (R z (fd f_41_2 z) (R z (l1 g_39 z fid ((h14.chg s11 (atp (mnr (ownS.lt p1_1)))).at z)) (Rm z ?_)))))
 have h17 := lt_ h10.size s11.size
 obtain ⟨r1u, r1v, e1g, hm1h⟩ := bd2S hm1b
 refine E z (fc call41 z (W_laws_markValueS.run (B := B) e1g (lt_ hBw h17) ((p1_2.ext h10).chg s11 p1_2d1) p1_2n p1_2g h1d)) ?_
 rintro _ w1i ⟨s18, S19, rfl, h1j, h1k, h1l, h1m⟩
 refine Ra z (Wn (Ws (Rm z (Ra z (Wn ?_)))))
 obtain rfl := som hm1h
 have h1n : Chg (· ∈ (S1_1 ++ S1_2)) w0 w12 := cext (cr (S1_1 ++ S1_2) w0) h10
 have h1o : Chg (· ∈ (S1_1 ++ S1_2)) w0 w1c := cM h1n s11 (io (sub_l sr))
 have h1p : Chg (· ∈ (S1_1 ++ S1_2)) w0 w1i := cM h1o s18 (io (sub_r sr))
 have h1q : ∀ k ∈ S15, k ∈ S1_1 ∨ w0.heap.size ≤ k := or1 h16 (io sr) (leor h10.size)
 have h1r : ∀ k ∈ S19, k ∈ S1_2 ∨ w0.heap.size ≤ k := or1 h1m (io sr) (leor h17)
 exact Wr (ret1 hr z ⟨h1p, S15, S19, z, h1j, (h1e.chg s18 (o1no h16 (dj_symm p1_2d1) (ownS.lt p1_2) h10.size)), h1f, h1q, h1k, h1l, h1r⟩)
theorem W_laws_heldByteS {x1 : List UInt8} {x2 : Int} {res : Int} (hm : M_laws_heldByteS x1 x2 = some res) (hBw : B ≤ w0.heap.size) (p1_0 : repS w0 B (sl pa1_0 pn1_0 pc1_0) x1) (p2_0 : inI x2) : CallsR prog 15 [(sl pa1_0 pn1_0 pc1_0), (vI x2)] w0 (Q0 w0 B res) := by
 unfold M_laws_heldByteS at hm
 refine goF func15 z z (lb z) fun fn hr => Ws (Ra z (Wn (Wq (Ws (Ra z (Wn ?_))))))
 obtain ⟨u1m, hu1a, hm15⟩ := bdS hm
 refine WC_forN (σ := Int) (ρ := Int) (fun (k12 : Nat) (x10 : Int) a w => Sat 22 [(0, (sl pa1_0 pn1_0 pc1_0)), (1, (vI x10)), (5, (vI ((k12 : Nat) : Int)))] a ∧ Below w0.heap.size w0 w ∧ inI x10) (fun (x10 : Int) a w => Sat 22 [(1, (vI x10))] a ∧ Below w0.heap.size w0 w ∧ inI x10) (fun r ex a w => ex = .ret ∧ RetPost prog fn (Q0 w0 B r) a w) hu1a ?_ ?_ ?_ ?_ ?_
 ·exact fun _ q => ⟨(q.k (s3 z z z)), (br w0), p2_0⟩
 ·rintro k12 x10 a1n w1o o1p hk16 ⟨hS1b, s13, h11⟩ hm1c
  refine Wu (e := [(0, (sl pa1_0 pn1_0 pc1_0)), (1, (vI x10)), (5, (vI ((k12 : Nat) : Int)))]) (N := 22) ?_ hS1b
  refine Wq (Ws (Rm z (Rm z ?_)))
  have h17 := p1_0.ext s13
  refine R z (lnR d_25 z h17) (R z (lss z z) (Wn (Wc z (fun _ => ?_) (fun hc => (nolt hk16 hc).elim))))
  refine Wk (Wq (WC_block (Wq (Ws (Rm z (Rm z ?_))))))
  obtain ⟨x1q, e1d, hm18⟩ := bdS hm1c
  refine RX z (at_ (α := UInt8) d_25 z_5 z z z h17 e1d) ?_
  rintro _ ⟨b1r, o1s, cs1t, rfl, h1e, h1f, h1u⟩
  obtain rfl := UInt8_open h1f
  refine R z (l1 g_5 z fid (h1e.at0 z)) (Rm z (R z (rd_convU d_3 d_5 z) (R z (nq z z) (Wn (Wc z (fun hc14 => ?_) (fun hc14 => ?_))))))
  ·exact Ws (Ra z (Wn (Wr (rtO (QO_retL (som (ifT hm18 hc14)).symm (ret1 hr z ⟨s13, z, (ii z)⟩))))))
  exact Wk (Wg (Rm z (R z (add_ z z) (Ra z (Wn (Wg (Rm z (R z (inc_ hk16 (lt_ (repS.len p1_0) LEN_le) z z) (Ra z (Wl (fun _ q => ⟨iadd x10 1, (som (ifF hm18 hc14)).symm, ⟨(q.k (s3 z z z)), s13, (iA _ _)⟩⟩)))))))))))
 ·rintro x10 a1v w1w ⟨hS1g, s19, h11⟩
  refine Wu (e := [(0, (sl pa1_0 pn1_0 pc1_0)), (1, (vI x10)), (5, (vI ((x1.length : Nat) : Int)))]) (N := 22) ?_ hS1g
  refine Wq (Ws (Rm z (Rm z (R z (lnR d_25 z (p1_0.ext s19)) (R z (lss z z) (Wn (Wc z (fun hc => (noltt hc).elim) (fun _ => ?_))))))))
  exact WC_exit (fun a' ha' => ⟨rfl, ⟨(Sat.weaken ha' (s1 z)), s19, h11⟩⟩)
 ·rintro x10 a1h w1x rfl ⟨hS1y, s1i, h11⟩
  have hm1j := elL hm15
  revert a1h
  refine Wo (Ws (Rm z (Ra z (Wn ?_))))
  obtain rfl := som hm1j
  exact Wr (ret1 hr z ⟨s1i, z, h11⟩)
 rintro r1z ex20 a21 w22 rfl ⟨rfl, hq1k⟩
 have hm1l := elR hm15
 obtain rfl := som hm1l
 exact ⟨hq1k, z⟩
structure S_laws_heldValueS (f : (List Val) → Int → Option Int) : Prop where
  run : ∀ {B pn1_0 pc1_0 : Nat} {pa1_0 : Option Addr} {x1 : List Val} {x2 : Int} {res : Int} {w0 : World} (hm : f x1 x2 = some res) (hBw : B ≤ w0.heap.size) (p1_0 : repS w0 B (sl pa1_0 pn1_0 pc1_0) x1) (p2_0 : inI x2), CallsR prog 42 [(sl pa1_0 pn1_0 pc1_0), (vI x2)] w0 (Q0 w0 B res)
abbrev I_laws_heldValueS (n : Nat) : Prop := S_laws_heldValueS (F_laws_heldValueS n).laws_heldValueS
theorem T_laws_heldValueS (ih0 : I_laws_heldValueS n) : S_laws_heldValueS (B_laws_heldValueS n (F_laws_heldValueS n)) := by
 constructor
 intro B pn1_0 pc1_0 pa1_0 x1 x2 res w0 hm hBw p1_0 p2_0
 unfold B_laws_heldValueS at hm
 refine goF func42 z z (lb z) fun fn hr => Ws (Ra z (Wn (Wq (Ws (Ra z (Wn ?_))))))
 obtain ⟨u27, hu1g, hm19⟩ := bdS hm
 refine WC_forN (σ := Int) (ρ := Int) (fun (k15 : Nat) (x10 : Int) a w => Sat 40 [(0, (sl pa1_0 pn1_0 pc1_0)), (1, (vI x10)), (5, (vI ((k15 : Nat) : Int)))] a ∧ Below w0.heap.size w0 w ∧ inI x10) (fun (x10 : Int) a w => Sat 40 [(1, (vI x10))] a ∧ Below w0.heap.size w0 w ∧ inI x10) (fun r ex a w => ex = .ret ∧ RetPost prog fn (Q0 w0 B r) a w) hu1g ?_ ?_ ?_ ?_ ?_
 ·exact fun _ q => ⟨(q.k (s3 z z z)), (br w0), p2_0⟩
 ·rintro k15 x10 a28 w29 o2a hk1a ⟨hS1h, s11, h13⟩ hm1i
  refine Wu (e := [(0, (sl pa1_0 pn1_0 pc1_0)), (1, (vI x10)), (5, (vI ((k15 : Nat) : Int)))]) (N := 40) ?_ hS1h
  refine Wq (Ws (Rm z (Rm z ?_)))
  have h14 := p1_0.ext s11
  refine R z (lnR d_39 z h14) (R z (lss z z) (Wn (Wc z (fun _ => ?_) (fun hc => (nolt hk1a hc).elim))))
  refine Wk (Wq (WC_block (Wq (Ws (Rm z (Rm z ?_))))))
  obtain ⟨x2b, e1j, hm1b⟩ := bdS hm1i
  refine RX z (at_ (α := Val) d_39 z_41 z z z h14 e1j) ?_
  rintro _ ⟨b2c, o2d, cs2e, rfl, h1k, h1l, h2f⟩
  obtain ⟨a2g, n2h, c2i, a2j, n2k, c2l, rfl, h2m, h2n, h2o⟩ := Val_open h1l
  refine R z (fd f_41_0 z) (R z (l1 g_3 z fid (h1k.at (j := 0) z)) (Rm z (R z (nq z z) (Wn (Wc z (fun hc16 => ?_) (fun hc16 => ?_))))))
  ·exact Ws (Ra z (Wn (Wr (rtO (QO_retL (som (ifT hm1b hc16)).symm (ret1 hr z ⟨s11, z, (ii z)⟩))))))
  refine Wk (Ws (Rm z (R z (add_ z z) (Ra z (Wn (Ws (Rm z (Rm z ?_))))))))
  obtain ⟨x2p, e1m, hm1n⟩ := bdS (ifF hm1b hc16)
  refine RX z (at_ (α := Val) d_39 z_41 z z z h14 e1m) ?_
  rintro _ ⟨b2q, o2r, cs2s, rfl, h1o, h1p, h2t⟩
  obtain ⟨a2u, n2v, c2w, a2x, n2y, c2z, rfl, h30, h1q, h31⟩ := Val_open h1p
  refine R z (fd f_41_1 z) (R z (l1 g_25 z fid (h1o.at (j := 1) z)) (Rm z ?_))
  obtain ⟨r32, e1r, hm1c⟩ := bdS hm1n
  refine E z (fc call15 z (W_laws_heldByteS (B := B) e1r (lt_ hBw s11.size) h1q (iA _ _))) ?_
  rintro _ w33 ⟨s12, rfl, h1s⟩
  refine Ra z (Wn (Wq (Ws (Rm z (R z (lss z z) (Wn (Wc z (fun hc17 => ?_) (fun hc17 => ?_))))))))
  ·exact Ws (Ra z (Wn (Wr (rtO (QO_retL (som (ifT hm1c hc17)).symm (ret1 hr z ⟨(bup s11 s12), z, (ii z)⟩))))))
  refine Wk (Ws (Rm z (Rm z ?_)))
  obtain ⟨x34, e1t, hm1u⟩ := bdS (ifF hm1c hc17)
  refine RX z (at_ (α := Val) d_39 z_41 z z z (h14.ext s12) e1t) ?_
  rintro _ ⟨b35, o36, cs37, rfl, h1v, h1w, h38⟩
  obtain ⟨a39, n3a, c3b, a3c, n3d, c3e, rfl, h3f, h3g, h1x⟩ := Val_open h1w
  refine R z (fd f_41_2 z) (R z (l1 g_39 z fid (h1v.at (j := 2) z)) (Rm z ?_))
  obtain ⟨r1y, e1z, hm1d⟩ := bdS hm1u
  refine E z (fc call42 z (ih0.run (B := B) e1z (lt_ hBw (lt_ s11.size s12.size)) h1x h1s)) ?_
  rintro _ w3h ⟨s1e, rfl, h20⟩
  refine Ra z (Wn (Ws (Rm z (R z (lss z z) (Wn (Wc z (fun hc18 => ?_) (fun hc18 => ?_)))))))
  ·exact Ws (Ra z (Wn (Wr (rtO (QO_retL (som (ifT hm1d hc18)).symm (ret1 hr z ⟨(bup (bup s11 s12) s1e), z, (ii z)⟩))))))
  exact Wk (Wg (Rm z (R z (inc_ hk1a (lt_ (repS.len p1_0) LEN_le) z z) (Ra z (Wl (fun _ q => ⟨r1y, (som (ifF hm1d hc18)).symm, ⟨(q.k (s3 z z z)), (bup (bup s11 s12) s1e), h20⟩⟩))))))
 ·rintro x10 a3i w3j ⟨hS21, s1f, h13⟩
  refine Wu (e := [(0, (sl pa1_0 pn1_0 pc1_0)), (1, (vI x10)), (5, (vI ((x1.length : Nat) : Int)))]) (N := 40) ?_ hS21
  refine Wq (Ws (Rm z (Rm z (R z (lnR d_39 z (p1_0.ext s1f)) (R z (lss z z) (Wn (Wc z (fun hc => (noltt hc).elim) (fun _ => ?_))))))))
  exact WC_exit (fun a' ha' => ⟨rfl, ⟨(Sat.weaken ha' (s1 z)), s1f, h13⟩⟩)
 ·rintro x10 a22 w3k rfl ⟨hS3l, s23, h13⟩
  have hm24 := elL hm19
  revert a22
  refine Wo (Ws (Rm z (Ra z (Wn ?_))))
  obtain rfl := som hm24
  exact Wr (ret1 hr z ⟨s23, z, h13⟩)
 rintro r3m ex3n a3o w3p rfl ⟨rfl, hq25⟩
 have hm26 := elR hm19
 obtain rfl := som hm26
 exact ⟨hq25, z⟩
theorem A_laws_heldValueS : ∀ n, I_laws_heldValueS n
  | 0 => ⟨fun hm => by intros; exact nomatch (show none = some _ from hm)⟩
  | n + 1 => T_laws_heldValueS (A_laws_heldValueS n)
theorem W_laws_heldValueS : S_laws_heldValueS (F_laws_heldValueS n).laws_heldValueS := A_laws_heldValueS n

theorem W_laws_heldValue {x1 : Val} {x2 : Int} {res : Int} (hm : M_laws_heldValue n x1 x2 = some res) (hBw : B ≤ w0.heap.size) (p1_0 : inI x1.number) (p1_1 : repS w0 B (sl pa1_1 pn1_1 pc1_1) x1.bytes) (p1_2 : repS w0 B (sl pa1_2 pn1_2 pc1_2) x1.items) (p2_0 : inI x2) : CallsR prog 20 [(.agg #[(vI x1.number), (sl pa1_1 pn1_1 pc1_1), (sl pa1_2 pn1_2 pc1_2)]), (vI x2)] w0 (Q0 w0 B res) := by
 unfold M_laws_heldValue at hm
 refine goF func20 z z (lb z) fun fn hr => Ws (E z (fb z) ?_)
 rintro _ w19 ⟨rfl, h14⟩
 have h10 := h14.below
 have h15 : Blk w19 w0.heap.size [(vI x1.number), (sl pa1_1 pn1_1 pc1_1), (sl pa1_2 pn1_2 pc1_2)] := h14.blk
 refine Ra z (Wn (Ws (R z (fd f_41_1 z) (R z (l1 g_25 z fid (h15.at z)) (Rm z ?_)))))
 obtain ⟨r1e, e1a, hm16⟩ := bdS hm
 refine E z (fc call15 z (W_laws_heldByteS (B := B) e1a (lt_ hBw h10.size) (p1_1.ext h10) p2_0)) ?_
 rintro _ w1f ⟨s11, rfl, h1b⟩
 refine Ra z (Wn (Wq (Ws (Rm z (R z (lss z z) (Wn (Wc z (fun hc12 => ?_) (fun hc12 => ?_))))))))
 ·refine Ws (Ra z (Wn ?_))
  obtain rfl := som (ifT hm16 hc12)
  exact Wr (ret1 hr z ⟨(bup h10 s11), z, (ii z)⟩)
 refine Wk (Ws (R z (fd f_41_2 z) (R z (l1 g_39 z fid ((h15.ext s11).at z)) (Rm z ?_))))
 obtain ⟨r1g, e1c, hm17⟩ := bdS (ifF hm16 hc12)
 refine E z (fc call42 z (W_laws_heldValueS.run (B := B) e1c (lt_ hBw (lt_ h10.size s11.size)) ((p1_2.ext h10).ext s11) h1b)) ?_
 rintro _ w1h ⟨s18, rfl, h1d⟩
 refine Ra z (Wn (Wq (Ws (Rm z (R z (lss z z) (Wn (Wc z (fun hc13 => ?_) (fun hc13 => ?_))))))))
 ·refine Ws (Ra z (Wn ?_))
  obtain rfl := som (ifT hm17 hc13)
  exact Wr (ret1 hr z ⟨(bup (bup h10 s11) s18), z, (ii z)⟩)
 refine Wk (Ws (Rm z (Ra z (Wn ?_))))
 obtain rfl := som (ifF hm17 hc13)
 exact Wr (ret1 hr z ⟨(bup (bup h10 s11) s18), z, h1d⟩)
def Q_laws_FnExactReadPart (w0 : World) (B : Nat) (r : Bool) (v : Value) (w' : World) : Prop := Bw w0 w' ∧ (fun r1 => (vB r1) = v) r
theorem W_laws_FnExactReadPart {x1 : Desc} {x2 : List UInt8} {x3 : Str} {res : Bool} (hm : M_laws_FnExactReadPart n x1 x2 x3 = some res) (hBw : B ≤ w0.heap.size) (hG : Gl w0 B) (p1_0 : repS w0 B (sl pa1_0 pn1_0 pc1_0) x1.rules) (p2_0 : repS w0 B (sl pa2_0 pn2_0 pc2_0) x2) (p3_0 : x3.b.length ≤ LEN) : CallsR prog 4 [(.agg #[(sl pa1_0 pn1_0 pc1_0)]), (sl pa2_0 pn2_0 pc2_0), (Str.v x3)] w0 (Q_laws_FnExactReadPart w0 B res) := by
 unfold M_laws_FnExactReadPart at hm
 refine goF func4 z z (lb z) fun fn hr => Ws (E z (fb z) ?_)
 rintro _ w6v ⟨rfl, h4i⟩
 have h1m := h4i.below
 have h26 : Blk w6v w0.heap.size [(sl pa1_0 pn1_0 pc1_0)] := h4i.blk
 refine Ra z (Wn (Wq (Ws (Rm z ?_))))
 have h4j := p2_0.ext h1m
 refine R z (lnR d_25 z h4j) (R z (rd_gtr z z) (Wn (Wc z (fun hc3c => ?_) (fun hc3c => ?_))))
 ·refine Ws (Ra z (Wn ?_))
  obtain rfl := som (ifT hm hc3c)
  exact Wr (ret1 hr z ⟨h1m, z⟩)
 have hm4k := ifF hm hc3c
 refine Wk (Wq (Ws (Rm z (R z (lnT d_9 z) (R z (rd_gtr z z) (Wn (Wc z (fun hc3d => ?_) (fun hc3d => ?_))))))))
 ·refine Ws (Ra z (Wn ?_))
  obtain rfl := som (ifT hm4k hc3d)
  exact Wr (ret1 hr z ⟨h1m, z⟩)
 refine Wk (Ws (Ra z (Wn (Ws (R z (lN (vs := [(sl pa1_0 pn1_0 pc1_0)]) g_24 z_24 z z fid (h26.row 0 1 z)) (Rm z ?_))))))
 have h4l := p1_0.ext h1m
 obtain ⟨r105, e6w, hm4m⟩ := bdS (ifF hm4k hc3d)
 refine E z (fc call6 z (W_laws_szDescription (B := B) e6w (lt_ hBw h1m.size) h4l (ii z))) ?_
 rintro _ w106 ⟨s1r, rfl, h107⟩
 refine Ra z (Wn (Wq (Ws (Rm z (R z (lss z z) (Wn (Wc z (fun hc3e => ?_) (fun hc3e => ?_))))))))
 ·refine Ws (Ra z (Wn ?_))
  obtain rfl := som (ifT hm4m hc3e)
  exact Wr (ret1 hr z ⟨(bup h1m s1r), z⟩)
 refine Wk (Ws ?_)
 have h4n := h26.ext s1r
 refine R z (lN (vs := [(sl pa1_0 pn1_0 pc1_0)]) g_24 z_24 z z fid (h4n.row 0 1 z)) ?_
 have h4o := h4l.ext s1r
 have h4p := lt_ h1m.size s1r.size
 obtain ⟨r108, e6x, hm6y⟩ := bdS (ifF hm4m hc3e)
 refine E z (fc call8 z (W_laws_toDescription (B := B) e6x (lt_ hBw h4p) h4o)) ?_
 rintro _ w109 ⟨s1t, a10a, n10b, c10c, S10d, rfl, h4q, h10e, h10f⟩
 refine Rm z ?_
 have h4r := (h4j.ext s1r).ext s1t
 have h4s := lt_ h4p s1t.size
 obtain ⟨r10g, e6z, hm70⟩ := bdS hm6y
 refine E z (fc call9 z (W_laws_toByteS (B := B) e6z (lt_ hBw h4s) h4r)) ?_
 rintro _ w71 ⟨s1n, a10h, n10i, c10j, S10k, rfl, h72, h10l, h10m⟩
 refine Rm z ?_
 obtain ⟨r2t, r2p, e73, hm74⟩ := bd2S hm70
 refine E z (fc call16 z (W_spec_ReadPart (B := w71.heap.size) e73 lr (repS.mono (ownS_rep (h4q.ext s1n) (ownS.lt h4q)) s1n.size) (ownS.rep h72) p3_0)) ?_
 rintro _ w3f ⟨s1u, a2u, n2v, c2w, S10n, a2x, n2y, c2z, S10o, rfl, h3g, h1i, h1j, h10p, h10q⟩
 refine Rm z (R z (ext_ z z) (R z (ext_ z z) (E z (fa zero_41) ?_)))
 rintro _ w75 ⟨rfl, h4t⟩
 have h1h := h4t.below
 have h1y : Blk w75 w3f.heap.size [(vI 0), (sl none 0 0), (sl none 0 0)] := h4t.blk
 refine E0 (fs (cur' := [(vI r2t.number), (sl a2u n2v c2w), (sl a2x n2y c2z)]) z_41 z z h1y z (lb z) (oA z) z) ?_
 rintro _ w10r ⟨h3h, s76⟩
 have h1d := s76.one
 refine Ra z (Wn (Ws ?_))
 have h4u := lt_ (lt_ (lt_ s1r.size s1t.size) s1n.size) s1u.size
 have h4v := ((((h4n.ext s1t).ext s1n).ext s1u).ext h1h).chg h1d (djs (mm1 h26.lt h4u))
 refine R z (lN (vs := [(sl pa1_0 pn1_0 pc1_0)]) g_24 z_24 z z fid (h4v.row 0 1 z)) ?_
 have h21 := lt_ (lt_ h4s s1n.size) s1u.size
 have h3i := mem1le (lt_ hBw h21)
 have h4w := ((((h4o.ext s1t).ext s1n).ext s1u).ext h1h).chg h1d (lg h3i)
 have h27 := lt_ (lt_ h21 h1h.size) h1d.size
 have h4x := lt_ hBw h27
 obtain ⟨r10s, e77, hm78⟩ := bdS hm74
 refine E z (fc call8 z (W_laws_toDescription (B := B) e77 h4x h4w)) ?_
 rintro _ w4y ⟨s1c, a30, n31, c32, S10t, rfl, h24, h79, h1w⟩
 refine E z (fa zero_31) ?_
 rintro _ w7a ⟨rfl, h4z⟩
 have h19 := h4z.below
 have h50 : Blk w7a w4y.heap.size [(sl none 0 0)] := h4z.blk
 refine E0 (fs (cur' := [(sl a30 n31 c32)]) z_31 z z h50 z (lb z) (oA z) z) ?_
 rintro _ w10u ⟨h7b, s7c⟩
 have h17 := s7c.one
 refine Wn (Ws (Rm z ?_))
 have h22 := lt_ h27 s1c.size
 have h3j := mem1le (lt_ hBw h22)
 have h51 := ((((((h4r.ext s1n).ext s1u).ext h1h).chg h1d (lg h3i)).ext s1c).ext h19).chg h17 (lg h3j)
 have h28 := lt_ (lt_ h22 h19.size) h17.size
 have h52 := lt_ hBw h28
 obtain ⟨r10v, e7d, hm7e⟩ := bdS hm78
 refine E z (fc call9 z (W_laws_toByteS (B := B) e7d h52 h51)) ?_
 rintro _ w7f ⟨s14, a7g, n7h, c7i, S10w, rfl, h2c, h7j, h1v⟩
 refine Ra z (Wn (Ws ?_))
 have h53 := h7b.ext s14
 refine R z (lN (vs := [(sl a30 n31 c32)]) g_31 z_31 z z fid (h53.row 0 1 z)) (Rm z (Rm z ?_))
 have h54 := ((h24.ext h19).chg h17 (dj_symm (mnr (ownS.lt h24)))).ext s14
 have h55 := lt_ h19.size h17.size
 have h2h := lt_ h55 s14.size
 have h56 := ((((((((((hG.ext h1m).ext s1r).ext s1t).ext s1n).ext s1u).ext h1h).chg h1d (lg h3i)).ext s1c).ext h19).chg h17 (lg h3j)).ext s14
 have h1x := lt_ h28 s14.size
 have h3k := lt_ hBw h1x
 obtain ⟨r2d, r3l, e7k, hm7l⟩ := bd2S hm7e
 refine E z (fc call17 z (W_impl_ReadPart (B := w7f.heap.size) e7k lr (h56.mono h3k) (repS.mono (ownS_rep h54 (ownS.lt h24)) h2h) (ownS.rep h2c) p3_0)) ?_
 rintro _ w2i ⟨s11, a2j, n2k, c2l, S10x, a2m, n2n, c2o, S10y, rfl, h2q, h2e, h2f, h3m, h1e⟩
 refine Rm z (R z (ext_ z z) (R z (ext_ z z) (E z (fa zero_41) ?_)))
 rintro _ w7m ⟨rfl, h57⟩
 have h12 := h57.below
 have h58 : Blk w7m w2i.heap.size [(vI 0), (sl none 0 0), (sl none 0 0)] := h57.blk
 refine E0 (fs (cur' := [(vI r2d.number), (sl a2j n2k c2l), (sl a2m n2n c2o)]) z_41 z z h58 z (lb z) (oA z) z) ?_
 rintro _ w59 ⟨h3n, s7n⟩
 have h10 := s7n.one
 refine Ra z (Wn (Wq (Wq ?_)))
 obtain ⟨u7o, hu7p, hm5a⟩ := bdS hm7l
 refine WC_cut (fun a w => ∃ (x3o : Bool), x3o = u7o ∧ Sat 125 [(1, (sl pa2_0 pn2_0 pc2_0)), (2, (Str.v x3)), (3, (pt w0.heap.size)), (8, (pt w3f.heap.size)), (9, (vB r2p)), (10, (pt w4y.heap.size)), (11, (sl a7g n7h c7i)), (12, (pt w2i.heap.size)), (13, (vB r3l)), (58, (vB x3o))] a ∧ Below w59.heap.size w59 w) ?_ ?_
 ·refine Wg (R z (lN (vs := [(vI r2d.number), (sl a2j n2k c2l), (sl a2m n2n c2o)]) g_41 z_41 z z fid (h3n.row 0 3 z)) ?_)
  have h5b := lt_ h1d.size s1c.size
  have h7q := ((((((h3h.ext s1c).ext h19).chg h17 (djs (mm1 h1y.lt h5b))).ext s14).ext s11).ext h12).chg h10 (djs (mm1 h1y.lt (lt_ (lt_ (lt_ (lt_ h5b h19.size) h17.size) s14.size) s11.size)))
  refine R z (lN (vs := [(vI r2t.number), (sl a2u n2v c2w), (sl a2x n2y c2z)]) g_41 z_41 z z fid (h7q.row 0 3 z)) ?_
  have h3p := lt_ (lt_ h1h.size h1d.size) s1c.size
  have h33 := lt_ (lt_ (lt_ (lt_ h3p h19.size) h17.size) s14.size) s11.size
  have h7r := ((((((((h1i.ext h1h).chg h1d (dj_symm (mnr (ownS.lt h1i)))).ext s1c).ext h19).chg h17 (dj_symm (mno (ownS.lt h1i) h3p))).ext s14).ext s11).ext h12).chg h10 (dj_symm (mno (ownS.lt h1i) h33))
  have h7s := ((((((((h1j.ext h1h).chg h1d (dj_symm (mnr (ownS.lt h1j)))).ext s1c).ext h19).chg h17 (dj_symm (mno (ownS.lt h1j) h3p))).ext s14).ext s11).ext h12).chg h10 (dj_symm (mno (ownS.lt h1j) h33))
  obtain ⟨r7t, e7u, hm5c⟩ := bdS hu7p
  refine E z (fc call18 z (W_laws_eqValue.run (B := w2i.heap.size) e7u (lt_ h12.size h10.size) h2q (ownS_rep ((h2e.ext h12).chg h10 (dj_symm (mnr (ownS.lt h2e)))) (ownS.lt h2e)) (ownS_rep ((h2f.ext h12).chg h10 (dj_symm (mnr (ownS.lt h2f)))) (ownS.lt h2f)) h3g (repS.mono (ownS_rep h7r (ownS.lt h1i)) h33) (repS.mono (ownS_rep h7s (ownS.lt h1j)) h33))) ?_
  rintro _ w10z ⟨s5d, rfl⟩
  refine R z (not_ z) (Rm z ?_)
  rcases bs (!r7t) with hc29 | hc29
  ·iterate 3 refine Nh z hc29 ?_
   exact R z (pT z hc29 z) (Wl (fun _ q => ⟨true, som (ifT hm5c hc29), (q.k (sc z (sc z (sc z (sc z (sc z (sc z (sc z (sc z (sc z (sc z sn))))))))))), s5d⟩))
  exact Rh z hc29 (mv z) (Rh z hc29 (mv z) (Rh z hc29 (rd_neqB d_4 z z) (R z (pF z hc29 z) (Wl (fun _ q => ⟨r3l != r2p, som (ifF hm5c hc29), (q.k (sc z (sc z (sc z (sc z (sc z (sc z (sc z (sc z (sc z (sc z sn))))))))))), s5d⟩)))))
 rintro a7v w110 ⟨x3o, rfl, hS111, s13⟩
 revert a7v
 refine Wo (Wc z (fun hc3q => ?_) (fun hc3q => ?_))
 ·refine Ws (Ra z (Wn ?_))
  obtain rfl := som (ifT hm5a hc3q)
  have h7w := bM (bup (bup (bup (bM (bup (bup (bM (bup (bup (bup (bup (bup h1m s1r) s1t) s1n) s1u) h1h) h1d (mem1le h21)) s1c) h19) h17 (mem1le h22)) s14) s11) h12) h10 (mem1le (lt_ h1x s11.size))
  exact Wr (ret1 hr z ⟨(bup h7w s13), z⟩)
 refine Wk (Wq (Wq (WC_draw (X := noX) 0 (.rd 0 (.rd 1 (.ef 2 (.ef 3 (.rd 4 .done))))) mo (by kernel_rfl) fun w112 s15 _ => ?_)))
 have h5e := ((((h53.ext s11).ext h12).chg h10 (djs (mm1 h50.lt (lt_ (lt_ h17.size s14.size) s11.size)))).ext s13).ext s15
 refine dR z z (lN (vs := [(sl a30 n31 c32)]) g_31 z_31 z z fid (h5e.row 0 1 z)) ?_
 have h5f := lt_ (lt_ h4u h1h.size) h1d.size
 have h5g := lt_ h5f s1c.size
 have h5h := lt_ (lt_ h5g h19.size) h17.size
 have h3r := lt_ h5h s14.size
 have h7x := ((((((h4v.ext s1c).ext h19).chg h17 (djs (mm1 h26.lt h5g))).ext s14).ext s11).ext h12).chg h10 (djs (mm1 h26.lt (lt_ h3r s11.size)))
 have h5i := (h7x.ext s13).ext s15
 refine dR z z (lN (vs := [(sl pa1_0 pn1_0 pc1_0)]) g_24 z_24 z z fid (h5i.row 0 1 z)) ?_
 have h23 := lt_ h1x s11.size
 have h3s := mem1le (lt_ hBw h23)
 have h5j := ((((((((h4w.ext s1c).ext h19).chg h17 (lg h3j)).ext s14).ext s11).ext h12).chg h10 (lg h3s)).ext s13).ext s15
 have h5k := lt_ (lt_ (lt_ (lt_ h23 h12.size) h10.size) s13.size) s15.size
 obtain ⟨r113, e7y, hm7z⟩ := bdS (ifF hm5a hc3q)
 refine dE z z (fc call8 z (W_laws_toDescription (B := B) e7y (lt_ hBw h5k) h5j)) (.inr fun _ _ h => chgB (h.1)) ?_
 rintro _ w80 ⟨s16, a114, n115, c116, S117, rfl, h81, h118, h119⟩
 have h5l := lt_ h2h s11.size
 have h3t := mno (ownS.lt h24) h5l
 have h5m := (((((h54.ext s11).ext h12).chg h10 (dj_symm h3t)).ext s13).ext s15).ext s16
 obtain ⟨r11a, e82, hm5n⟩ := bdS hm7z
 refine dE z z (fc call12 z (W_laws_eqDescription (B := w80.heap.size) e82 lr (repS.mono (ownS_rep h5m (ownS.lt h24)) (lt_ (lt_ (lt_ (lt_ (lt_ h5l h12.size) h10.size) s13.size) s15.size) s16.size)) (ownS.rep h81))) (.inr fun _ _ h => chgB (h.1)) ?_
 rintro _ w11b ⟨s18, rfl⟩
 refine dR z z (not_ z) (PR_done (Wo (Wc z (fun hc3u => ?_) (fun hc3u => ?_))))
 ·refine Ws (Ra z (Wn ?_))
  obtain rfl := som (ifT hm5n hc3u)
  have h83 := bup (bup (bM (bup (bup (bup (bM (bup (bup (bM (bup (bup (bup (bup (bup h1m s1r) s1t) s1n) s1u) h1h) h1d (mem1le h21)) s1c) h19) h17 (mem1le h22)) s14) s11) h12) h10 (mem1le h23)) s13) s15
  exact Wr (ret1 hr z ⟨(bup (bup h83 s16) s18), z⟩)
 refine Wk (Wq (Ws (Rm z (Rm z ?_))))
 have h5o := (((((((h51.ext s14).ext s11).ext h12).chg h10 (lg h3s)).ext s13).ext s15).ext s16).ext s18
 have h5p := lt_ (lt_ h5k s16.size) s18.size
 obtain ⟨r11c, e84, hm85⟩ := bdS (ifF hm5n hc3u)
 refine E z (fc call9 z (W_laws_toByteS (B := B) e84 (lt_ hBw h5p) h5o)) ?_
 rintro _ w86 ⟨s1a, a11d, n11e, c11f, S11g, rfl, h87, h11h, h11i⟩
 have h3v := mno (ownS.lt h2c) s11.size
 have h5q := (((((((h2c.ext s11).ext h12).chg h10 (dj_symm h3v)).ext s13).ext s15).ext s16).ext s18).ext s1a
 obtain ⟨r11j, e88, hm5r⟩ := bdS hm85
 refine E z (fc call11 z (W_laws_eqByteS (B := w86.heap.size) e88 lr (repS.mono (ownS_rep h5q (ownS.lt h2c)) (lt_ (lt_ (lt_ (lt_ (lt_ (lt_ (lt_ s11.size h12.size) h10.size) s13.size) s15.size) s16.size) s18.size) s1a.size)) (ownS.rep h87))) ?_
 rintro _ w11k ⟨s1b, rfl⟩
 refine R z (not_ z) (Wn (Wc z (fun hc3w => ?_) (fun hc3w => ?_)))
 ·refine Ws (Ra z (Wn ?_))
  obtain rfl := som (ifT hm5r hc3w)
  have h89 := bup (bup (bM (bup (bup (bup (bM (bup (bup (bM (bup (bup (bup (bup (bup h1m s1r) s1t) s1n) s1u) h1h) h1d (mem1le h21)) s1c) h19) h17 (mem1le h22)) s14) s11) h12) h10 (mem1le h23)) s13) s15
  exact Wr (ret1 hr z ⟨(bup (bup (bup (bup h89 s16) s18) s1a) s1b), z⟩)
 refine Wk (Ws (Ra z (Wn (Ws (R z (lN (vs := [(sl a30 n31 c32)]) g_31 z_31 z z fid (((((h5e.ext s16).ext s18).ext s1a).ext s1b).row 0 1 z)) (Rm z ?_))))))
 have h34 := o0le h1w h4x
 have h5s := lt_ (lt_ h5p s1a.size) s1b.size
 obtain ⟨r11l, r11m, e8a, hm8b⟩ := bd2S (ifF hm5r hc3w)
 refine E z (fc call13 z (W_laws_markDescription (B := B) e8a (lt_ hBw h5s) (((h5m.ext s18).ext s1a).ext s1b) h79 h34 (ii z))) ?_
 rintro _ w11n ⟨s1f, S11o, rfl, h8c, h11p, h11q, h11r⟩
 refine Ra z (Wn (Ws (Rm z (Rm z ?_))))
 have h35 := o0le h1v h52
 have h5t := lt_ h5s s1f.size
 obtain ⟨r8d, r11s, e8e, hm8f⟩ := bd2S hm8b
 refine E z (fc call14 z (W_laws_markByteS (B := B) e8e (lt_ hBw h5t) ((h5q.ext s1b).chg s1f (o0no h1v (ownS.lt h24) h55)) h7j h35 h8c)) ?_
 rintro _ w3x ⟨s1g, S11t, rfl, h11u, h11v, h11w, h11x⟩
 refine Ra z (Wn (Wq (Wq ?_)))
 obtain ⟨u8g, hu5u, hm5v⟩ := bdS hm8f
 refine WC_cut (fun a w => ∃ (x3y : Bool), x3y = u8g ∧ Sat 125 [(1, (sl pa2_0 pn2_0 pc2_0)), (2, (Str.v x3)), (3, (pt w0.heap.size)), (8, (pt w3f.heap.size)), (9, (vB r2p)), (12, (pt w2i.heap.size)), (87, (vB x3y))] a ∧ Below w3x.heap.size w3x w) ?_ ?_
 ·refine Wg (Rm z (R z (lss z z) (Rm z ?_)))
  rcases bs (decide (r8d < 0)) with hc25 | hc25
  ·iterate 4 refine Nh z hc25 ?_
   exact R z (pT z hc25 z) (Rm z (Nh z z (Nh z z (Nh z z (R z (pT z z z) (Wl (fun _ q => ⟨true, som (ifT hu5u hc25), (q.k (s7 z z z z z z z)), (br w3x)⟩)))))))
  refine Rh z hc25 (lN (vs := [(vI r2d.number), (sl a2j n2k c2l), (sl a2m n2n c2o)]) g_41 z_41 z z fid (((((((((h3n.ext s13).ext s15).ext s16).ext s18).ext s1a).ext s1b).chg s1f (atp h3t)).chg s1g (atp h3v)).row 0 3 z)) ?_
  have h5w := lt_ h1d.size s1c.size
  have h5x := lt_ (lt_ h5w h19.size) h17.size
  have h8h := ((((((h3h.ext s1c).ext h19).chg h17 (djs (mm1 h1y.lt h5w))).ext s14).ext s11).ext h12).chg h10 (djs (mm1 h1y.lt (lt_ (lt_ h5x s14.size) s11.size)))
  have h8i := (((((((h8h.ext s13).ext s15).ext s16).ext s18).ext s1a).ext s1b).chg s1f (djs (o0n1 h1w h1y.lt h1d.size))).chg s1g (djs (o0n1 h1v h1y.lt h5x))
  refine Rh z hc25 (lN (vs := [(vI r2t.number), (sl a2u n2v c2w), (sl a2x n2y c2z)]) g_41 z_41 z z fid (h8i.row 0 3 z)) ?_
  have h8j := (((((((((h2e.ext h12).chg h10 (dj_symm (mnr (ownS.lt h2e)))).ext s13).ext s15).ext s16).ext s18).ext s1a).ext s1b).chg s1f (o0no (all_left h1e) (ownS.lt h24) h2h)).chg s1g (o0no (all_left h1e) (ownS.lt h2c) lr)
  have h8k := (((((((((h2f.ext h12).chg h10 (dj_symm (mnr (ownS.lt h2f)))).ext s13).ext s15).ext s16).ext s18).ext s1a).ext s1b).chg s1f (o0no (all_right h1e) (ownS.lt h24) h2h)).chg s1g (o0no (all_right h1e) (ownS.lt h2c) lr)
  have h3z := lt_ h1h.size h1d.size
  have h40 := lt_ h3z s1c.size
  have h41 := lt_ (lt_ h40 h19.size) h17.size
  have h36 := lt_ (lt_ h41 s14.size) s11.size
  have h8l := ((((((((h1i.ext h1h).chg h1d (dj_symm (mnr (ownS.lt h1i)))).ext s1c).ext h19).chg h17 (dj_symm (mno (ownS.lt h1i) h40))).ext s14).ext s11).ext h12).chg h10 (dj_symm (mno (ownS.lt h1i) h36))
  have h8m := ((((((((h1j.ext h1h).chg h1d (dj_symm (mnr (ownS.lt h1j)))).ext s1c).ext h19).chg h17 (dj_symm (mno (ownS.lt h1j) h40))).ext s14).ext s11).ext h12).chg h10 (dj_symm (mno (ownS.lt h1j) h36))
  obtain ⟨r8n, e8o, hm5y⟩ := bdS (ifF hu5u hc25)
  refine Eg z z hc25 z (fc call18 z (W_laws_eqValue.run (B := w2i.heap.size) e8o (lt_ (lt_ (lt_ (lt_ (lt_ (lt_ (lt_ (lt_ (lt_ h12.size h10.size) s13.size) s15.size) s16.size) s18.size) s1a.size) s1b.size) s1f.size) s1g.size) h2q (ownS_rep h8j (ownS.lt h2e)) (ownS_rep h8k (ownS.lt h2f)) h3g (repS.mono (ownS_rep ((((((((h8l.ext s13).ext s15).ext s16).ext s18).ext s1a).ext s1b).chg s1f (dj_symm (o0no h1w (ownS.lt h1i) h3z))).chg s1g (dj_symm (o0no h1v (ownS.lt h1i) h41))) (ownS.lt h1i)) h36) (repS.mono (ownS_rep ((((((((h8m.ext s13).ext s15).ext s16).ext s18).ext s1a).ext s1b).chg s1f (dj_symm (o0no h1w (ownS.lt h1j) h3z))).chg s1g (dj_symm (o0no h1v (ownS.lt h1j) h41))) (ownS.lt h1j)) h36))) ?_
  rintro _ w11y ⟨s5z, rfl⟩
  refine Rh z hc25 (not_ z) (R z (pF z hc25 z) (Rm z ?_))
  rcases bs (!r8n) with hc2a | hc2a
  ·iterate 3 refine Nh z hc2a ?_
   exact R z (pT z hc2a z) (Wl (fun _ q => ⟨true, som (ifT hm5y hc2a), (q.k (s7 z z z z z z z)), s5z⟩))
  exact Rh z hc2a (mv z) (Rh z hc2a (mv z) (Rh z hc2a (rd_neqB d_4 z z) (R z (pF z hc2a z) (Wl (fun _ q => ⟨r3l != r2p, som (ifF hm5y hc2a), (q.k (s7 z z z z z z z)), s5z⟩)))))
 rintro a8p w11z ⟨x3y, rfl, hS120, s1k⟩
 revert a8p
 refine Wo (Wc z (fun hc42 => ?_) (fun hc42 => ?_))
 ·refine Ws (Ra z (Wn ?_))
  obtain rfl := som (ifT hm5v hc42)
  have h8q := bup (bup (bM (bup (bup (bup (bM (bup (bup (bM (bup (bup (bup (bup (bup h1m s1r) s1t) s1n) s1u) h1h) h1d (mem1le h21)) s1c) h19) h17 (mem1le h22)) s14) s11) h12) h10 (mem1le h23)) s13) s15
  exact Wr (ret1 hr z ⟨(bup (bM (bM (bup (bup (bup (bup h8q s16) s18) s1a) s1b) s1f (o0le h1w h27)) s1g (o0le h1v h28)) s1k), z⟩)
 refine Wk (Ws (Ra z (Wn (Ws ?_))))
 have h60 := ((((((((h3n.ext s13).ext s15).ext s16).ext s18).ext s1a).ext s1b).chg s1f (atp h3t)).chg s1g (atp h3v)).ext s1k
 refine R z (lN (vs := [(vI r2d.number), (sl a2j n2k c2l), (sl a2m n2n c2o)]) g_41 z_41 z z fid (h60.row 0 3 z)) (Rm z ?_)
 have h61 := mnr (ownS.lt h2e)
 have h8r := (((((((((h2e.ext h12).chg h10 (dj_symm h61)).ext s13).ext s15).ext s16).ext s18).ext s1a).ext s1b).chg s1f (o0no (all_left h1e) (ownS.lt h24) h2h)).chg s1g (o0no (all_left h1e) (ownS.lt h2c) lr)
 have h37 := o0le (all_left h1e) h3k
 have h62 := mnr (ownS.lt h2f)
 have h8s := (((((((((h2f.ext h12).chg h10 (dj_symm h62)).ext s13).ext s15).ext s16).ext s18).ext s1a).ext s1b).chg s1f (o0no (all_right h1e) (ownS.lt h24) h2h)).chg s1g (o0no (all_right h1e) (ownS.lt h2c) lr)
 have h38 := o0le (all_right h1e) h3k
 have h63 := lt_ (lt_ h5t s1g.size) s1k.size
 obtain ⟨r8t, r64, r65, e8u, hm8v⟩ := bd3S (ifF hm5v hc42)
 refine E z (fc call19 z (W_laws_markValue (B := B) e8u (lt_ hBw h63) h2q (h8r.ext s1k) (nd_left h3m) h37 (h8s.ext s1k) (nd_right h3m) h38 (dj_symm (nd_dj h3m)) (ii z))) ?_
 rintro _ w66 ⟨s1o, S121, S122, rfl, h123, h39, h124, h125, h3a, h126, h127⟩
 refine Ra z (Wn (Ws (Ra z (Wn (Ws ?_)))))
 have h67 := h60.chg s1o (atp (nmA h61 h62))
 refine R z (lN (vs := [(vI r2d.number), (sl a2j n2k c2l), (sl a2m n2n c2o)]) g_41 z_41 z z fid (h67.row 0 3 z)) (Rm z ?_)
 obtain ⟨r128, e8w, hm68⟩ := bdS hm8v
 refine E z (fc call20 z (W_laws_heldValue (B := w66.heap.size) (x1 := (⟨r2d.number, r64, r65⟩ : Val)) e8w lr h2q (ownS.rep h39) (ownS.rep h3a) (ii z))) ?_
 rintro _ w129 ⟨s1l, rfl, h12a⟩
 refine Ra z (Wn (Wq (Ws (Rm z (R z (lss z z) (Wn (Wc z (fun hc43 => ?_) (fun hc43 => ?_))))))))
 ·refine Ws (Ra z (Wn ?_))
  obtain rfl := som (ifT hm68 hc43)
  have h8x := bup (bup (bM (bup (bup (bup (bM (bup (bup (bM (bup (bup (bup (bup (bup h1m s1r) s1t) s1n) s1u) h1h) h1d (mem1le h21)) s1c) h19) h17 (mem1le h22)) s14) s11) h12) h10 (mem1le h23)) s13) s15
  have h8y := bM (bup (bM (bM (bup (bup (bup (bup h8x s16) s18) s1a) s1b) s1f (o0le h1w h27)) s1g (o0le h1v h28)) s1k) s1o (all_app (o0le (all_left h1e) h1x) (o0le (all_right h1e) h1x))
  exact Wr (ret1 hr z ⟨(bup h8y s1l), z⟩)
 have hm69 := ifF hm68 hc43
 refine Wk (Wq (Ws (Rm z (Rm z (R z (nq z z) (Wn (Wc z (fun hc44 => ?_) (fun hc44 => ?_))))))))
 ·refine Ws (Ra z (Wn ?_))
  obtain rfl := som (ifT hm69 hc44)
  have h8z := bup (bup (bM (bup (bup (bup (bM (bup (bup (bM (bup (bup (bup (bup (bup h1m s1r) s1t) s1n) s1u) h1h) h1d (mem1le h21)) s1c) h19) h17 (mem1le h22)) s14) s11) h12) h10 (mem1le h23)) s13) s15
  have h90 := bM (bup (bM (bM (bup (bup (bup (bup h8z s16) s18) s1a) s1b) s1f (o0le h1w h27)) s1g (o0le h1v h28)) s1k) s1o (all_app (o0le (all_left h1e) h1x) (o0le (all_right h1e) h1x))
  exact Wr (ret1 hr z ⟨(bup h90 s1l), z⟩)
 refine Wk (Ws ?_)
 have h91 := ((((((h5i.ext s16).ext s18).ext s1a).ext s1b).chg s1f (djs (o0n1 h1w h26.lt h5f))).chg s1g (djs (o0n1 h1v h26.lt h5h))).ext s1k
 refine R z (lN (vs := [(sl pa1_0 pn1_0 pc1_0)]) g_24 z_24 z z fid (((h91.chg s1o (atp (nmA (dj_symm (o0n1 (all_left h1e) h26.lt h3r)) (dj_symm (o0n1 (all_right h1e) h26.lt h3r))))).ext s1l).row 0 1 z)) ?_
 have h6a := lt_ (lt_ h63 s1o.size) s1l.size
 obtain ⟨r12b, e92, hm93⟩ := bdS (ifF hm69 hc44)
 refine E z (fc call8 z (W_laws_toDescription (B := B) e92 (lt_ hBw h6a) (((((((((h5j.ext s16).ext s18).ext s1a).ext s1b).chg s1f (lg h34)).chg s1g (lg h35)).ext s1k).chg s1o (nmA (lg h37) (lg h38))).ext s1l))) ?_
 rintro _ w12c ⟨s1s, a12d, n12e, c12f, S12g, rfl, h6b, h12h, h12i⟩
 refine Rm z ?_
 have h6c := lt_ h6a s1s.size
 obtain ⟨r12j, e94, hm95⟩ := bdS hm93
 refine E z (fc call9 z (W_laws_toByteS (B := B) e94 (lt_ hBw h6c) ((((((((h5o.ext s1a).ext s1b).chg s1f (lg h34)).chg s1g (lg h35)).ext s1k).chg s1o (nmA (lg h37) (lg h38))).ext s1l).ext s1s))) ?_
 rintro _ w96 ⟨s1p, a12k, n12l, c12m, S12n, rfl, h97, h12o, h12p⟩
 refine Rm z ?_
 have h98 := ((((((((((((h56.ext s11).ext h12).chg h10 (lg h3s)).ext s13).ext s15).ext s16).ext s18).ext s1a).ext s1b).chg s1f (lg h34)).chg s1g (lg h35)).ext s1k).chg s1o (nmA (lg h37) (lg h38))
 have h2r := lt_ h6c s1p.size
 obtain ⟨r6d, r99, e9a, hm9b⟩ := bd2S hm95
 refine E z (fc call17 z (W_impl_ReadPart (B := w96.heap.size) e9a lr ((((h98.ext s1l).ext s1s).ext s1p).mono (lt_ hBw h2r)) (repS.mono (ownS_rep (h6b.ext s1p) (ownS.lt h6b)) s1p.size) (ownS.rep h97) p3_0)) ?_
 rintro _ w6e ⟨s1q, a6f, n6g, c6h, S12q, a6i, n6j, c6k, S12r, rfl, h9c, h45, h46, h12s, h12t⟩
 refine Rm z (R z (ext_ z z) (R z (ext_ z z) (E z (fa zero_41) ?_)))
 rintro _ w9d ⟨rfl, h6l⟩
 have h1z := h6l.below
 have h9e : Blk w9d w6e.heap.size [(vI 0), (sl none 0 0), (sl none 0 0)] := h6l.blk
 refine E0 (fs (cur' := [(vI r6d.number), (sl a6f n6g c6h), (sl a6i n6j c6k)]) z_41 z z h9e z (lb z) (oA z) z) ?_
 rintro _ w6m ⟨h9f, s9g⟩
 have h20 := s9g.one
 refine Ra z (Wn (Wq (Wq ?_)))
 obtain ⟨u9h, hu9i, hm6n⟩ := bdS hm9b
 refine WC_cut (fun a w => ∃ (x47 : Bool), x47 = u9h ∧ Sat 125 [(12, (pt w2i.heap.size)), (15, (vI r8t)), (116, (vB x47))] a ∧ Below w6m.heap.size w6m w) ?_ ?_
 ·refine Wg (R z (lN (vs := [(vI r6d.number), (sl a6f n6g c6h), (sl a6i n6j c6k)]) g_41 z_41 z z fid (h9f.row 0 3 z)) ?_)
  have h6o := lt_ h1d.size s1c.size
  have h6p := lt_ (lt_ h6o h19.size) h17.size
  have h48 := lt_ h6p s14.size
  have h6q := lt_ h48 s11.size
  have h9j := ((((((h3h.ext s1c).ext h19).chg h17 (djs (mm1 h1y.lt h6o))).ext s14).ext s11).ext h12).chg h10 (djs (mm1 h1y.lt h6q))
  have h9k := (((((((h9j.ext s13).ext s15).ext s16).ext s18).ext s1a).ext s1b).chg s1f (djs (o0n1 h1w h1y.lt h1d.size))).chg s1g (djs (o0n1 h1v h1y.lt h6p))
  have h9l := (((((h9k.ext s1k).chg s1o (atp (nmA (dj_symm (o0n1 (all_left h1e) h1y.lt h48)) (dj_symm (o0n1 (all_right h1e) h1y.lt h48))))).ext s1l).ext s1s).ext s1p).ext s1q
  have h9m := lt_ (lt_ (lt_ (lt_ (lt_ (lt_ (lt_ (lt_ (lt_ (lt_ (lt_ (lt_ (lt_ h6q h12.size) h10.size) s13.size) s15.size) s16.size) s18.size) s1a.size) s1b.size) s1f.size) s1g.size) s1k.size) s1o.size) s1l.size
  refine R z (lN (vs := [(vI r2t.number), (sl a2u n2v c2w), (sl a2x n2y c2z)]) g_41 z_41 z z fid (((h9l.ext h1z).chg h20 (djs (mm1 h1y.lt (lt_ (lt_ (lt_ h9m s1s.size) s1p.size) s1q.size)))).row 0 3 z)) ?_
  have h49 := lt_ h1h.size h1d.size
  have h4a := lt_ h49 s1c.size
  have h4b := lt_ (lt_ h4a h19.size) h17.size
  have h2s := lt_ h4b s14.size
  have h4c := lt_ h2s s11.size
  have h9n := ((((((((h1i.ext h1h).chg h1d (dj_symm (mnr (ownS.lt h1i)))).ext s1c).ext h19).chg h17 (dj_symm (mno (ownS.lt h1i) h4a))).ext s14).ext s11).ext h12).chg h10 (dj_symm (mno (ownS.lt h1i) h4c))
  have h9o := (((((((((h9n.ext s13).ext s15).ext s16).ext s18).ext s1a).ext s1b).chg s1f (dj_symm (o0no h1w (ownS.lt h1i) h49))).chg s1g (dj_symm (o0no h1v (ownS.lt h1i) h4b))).ext s1k).chg s1o (nmA (dj_symm (o0no (all_left h1e) (ownS.lt h1i) h2s)) (dj_symm (o0no (all_right h1e) (ownS.lt h1i) h2s)))
  have h9p := lt_ (lt_ (lt_ (lt_ (lt_ (lt_ (lt_ (lt_ (lt_ (lt_ (lt_ (lt_ (lt_ h4c h12.size) h10.size) s13.size) s15.size) s16.size) s18.size) s1a.size) s1b.size) s1f.size) s1g.size) s1k.size) s1o.size) s1l.size
  have h3b := lt_ (lt_ (lt_ h9p s1s.size) s1p.size) s1q.size
  have h9q := ((((((((h1j.ext h1h).chg h1d (dj_symm (mnr (ownS.lt h1j)))).ext s1c).ext h19).chg h17 (dj_symm (mno (ownS.lt h1j) h4a))).ext s14).ext s11).ext h12).chg h10 (dj_symm (mno (ownS.lt h1j) h4c))
  have h9r := (((((((((h9q.ext s13).ext s15).ext s16).ext s18).ext s1a).ext s1b).chg s1f (dj_symm (o0no h1w (ownS.lt h1j) h49))).chg s1g (dj_symm (o0no h1v (ownS.lt h1j) h4b))).ext s1k).chg s1o (nmA (dj_symm (o0no (all_left h1e) (ownS.lt h1j) h2s)) (dj_symm (o0no (all_right h1e) (ownS.lt h1j) h2s)))
  obtain ⟨r9s, e9t, hm6r⟩ := bdS hu9i
  refine E z (fc call18 z (W_laws_eqValue.run (B := w6e.heap.size) e9t (lt_ h1z.size h20.size) h9c (ownS_rep ((h45.ext h1z).chg h20 (dj_symm (mnr (ownS.lt h45)))) (ownS.lt h45)) (ownS_rep ((h46.ext h1z).chg h20 (dj_symm (mnr (ownS.lt h46)))) (ownS.lt h46)) h3g (repS.mono (ownS_rep ((((((h9o.ext s1l).ext s1s).ext s1p).ext s1q).ext h1z).chg h20 (dj_symm (mno (ownS.lt h1i) h3b))) (ownS.lt h1i)) h3b) (repS.mono (ownS_rep ((((((h9r.ext s1l).ext s1s).ext s1p).ext s1q).ext h1z).chg h20 (dj_symm (mno (ownS.lt h1j) h3b))) (ownS.lt h1j)) h3b))) ?_
  rintro _ w12u ⟨s6s, rfl⟩
  refine R z (not_ z) (Rm z ?_)
  rcases bs (!r9s) with hc2b | hc2b
  ·iterate 3 refine Nh z hc2b ?_
   exact R z (pT z hc2b z) (Wl (fun _ q => ⟨true, som (ifT hm6r hc2b), (q.k (s3 z z z)), s6s⟩))
  exact Rh z hc2b (mv z) (Rh z hc2b (mv z) (Rh z hc2b (rd_neqB d_4 z z) (R z (pF z hc2b z) (Wl (fun _ q => ⟨r99 != r2p, som (ifF hm6r hc2b), (q.k (s3 z z z)), s6s⟩)))))
 rintro a9u w12v ⟨x47, rfl, hS12w, s2g⟩
 revert a9u
 refine Wo (Wc z (fun hc4d => ?_) (fun hc4d => ?_))
 ·refine Ws (Ra z (Wn ?_))
  obtain rfl := som (ifT hm6n hc4d)
  have h9v := bup (bup (bM (bup (bup (bup (bM (bup (bup (bM (bup (bup (bup (bup (bup h1m s1r) s1t) s1n) s1u) h1h) h1d (mem1le h21)) s1c) h19) h17 (mem1le h22)) s14) s11) h12) h10 (mem1le h23)) s13) s15
  have h9w := bM (bup (bM (bM (bup (bup (bup (bup h9v s16) s18) s1a) s1b) s1f (o0le h1w h27)) s1g (o0le h1v h28)) s1k) s1o (all_app (o0le (all_left h1e) h1x) (o0le (all_right h1e) h1x))
  exact Wr (ret1 hr z ⟨(bup (bM (bup (bup (bup (bup (bup h9w s1l) s1s) s1p) s1q) h1z) h20 (mem1le (lt_ h2r s1q.size))) s2g), z⟩)
 refine Wk (Ws (Ra z (Wn (Ws ?_))))
 have h9x := lt_ (lt_ (lt_ (lt_ (lt_ (lt_ (lt_ (lt_ (lt_ (lt_ (lt_ (lt_ h10.size s13.size) s15.size) s16.size) s18.size) s1a.size) s1b.size) s1f.size) s1g.size) s1k.size) s1o.size) s1l.size) s1s.size
 refine R z (lN (vs := [(vI r2d.number), (sl a2j n2k c2l), (sl a2m n2n c2o)]) g_41 z_41 z z fid ((((((((h67.ext s1l).ext s1s).ext s1p).ext s1q).ext h1z).chg h20 (djs (mm1 h58.lt (lt_ (lt_ h9x s1p.size) s1q.size)))).ext s2g).row 0 3 z)) (Rm z ?_)
 have h4e := lt_ (lt_ (lt_ s1l.size s1s.size) s1p.size) s1q.size
 obtain ⟨r12x, e9y, hm6t⟩ := bdS (ifF hm6n hc4d)
 refine E z (fc call20 z (W_laws_heldValue (B := w66.heap.size) (x1 := (⟨r2d.number, r64, r65⟩ : Val)) e9y (lt_ (lt_ (lt_ h4e h1z.size) h20.size) s2g.size) h2q (ownS_rep (((((((h39.ext s1l).ext s1s).ext s1p).ext s1q).ext h1z).chg h20 (dj_symm (mno (ownS.lt h39) h4e))).ext s2g) (ownS.lt h39)) (ownS_rep (((((((h3a.ext s1l).ext s1s).ext s1p).ext s1q).ext h1z).chg h20 (dj_symm (mno (ownS.lt h3a) h4e))).ext s2g) (ownS.lt h3a)) (ii z))) ?_
 rintro _ w12y ⟨s4f, rfl, h12z⟩
 refine Ra z (Wn (Wq (Ws (Rm z (R z (lss z z) (Wn (Wc z (fun hc4g => ?_) (fun hc4g => ?_))))))))
 ·refine Ws (Ra z (Wn ?_))
  obtain rfl := som (ifT hm6t hc4g)
  have h9z := bup (bup (bM (bup (bup (bup (bM (bup (bup (bM (bup (bup (bup (bup (bup h1m s1r) s1t) s1n) s1u) h1h) h1d (mem1le h21)) s1c) h19) h17 (mem1le h22)) s14) s11) h12) h10 (mem1le h23)) s13) s15
  have h100 := bM (bup (bM (bM (bup (bup (bup (bup h9z s16) s18) s1a) s1b) s1f (o0le h1w h27)) s1g (o0le h1v h28)) s1k) s1o (all_app (o0le (all_left h1e) h1x) (o0le (all_right h1e) h1x))
  exact Wr (ret1 hr z ⟨(bup (bup (bM (bup (bup (bup (bup (bup h100 s1l) s1s) s1p) s1q) h1z) h20 (mem1le (lt_ h2r s1q.size))) s2g) s4f), z⟩)
 have hm6u := ifF hm6t hc4g
 refine Wk (Wq (Ws (Rm z (Rm z (R z (nq z z) (Wn (Wc z (fun hc4h => ?_) (fun hc4h => ?_))))))))
 ·refine Ws (Ra z (Wn ?_))
  obtain rfl := som (ifT hm6u hc4h)
  have h101 := bup (bup (bM (bup (bup (bup (bM (bup (bup (bM (bup (bup (bup (bup (bup h1m s1r) s1t) s1n) s1u) h1h) h1d (mem1le h21)) s1c) h19) h17 (mem1le h22)) s14) s11) h12) h10 (mem1le h23)) s13) s15
  have h102 := bM (bup (bM (bM (bup (bup (bup (bup h101 s16) s18) s1a) s1b) s1f (o0le h1w h27)) s1g (o0le h1v h28)) s1k) s1o (all_app (o0le (all_left h1e) h1x) (o0le (all_right h1e) h1x))
  exact Wr (ret1 hr z ⟨(bup (bup (bM (bup (bup (bup (bup (bup h102 s1l) s1s) s1p) s1q) h1z) h20 (mem1le (lt_ h2r s1q.size))) s2g) s4f), z⟩)
 refine Wk (Ws (Ra z (Wn ?_)))
 obtain rfl := som (ifF hm6u hc4h)
 have h103 := bup (bup (bM (bup (bup (bup (bM (bup (bup (bM (bup (bup (bup (bup (bup h1m s1r) s1t) s1n) s1u) h1h) h1d (mem1le h21)) s1c) h19) h17 (mem1le h22)) s14) s11) h12) h10 (mem1le h23)) s13) s15
 have h104 := bM (bup (bM (bM (bup (bup (bup (bup h103 s16) s18) s1a) s1b) s1f (o0le h1w h27)) s1g (o0le h1v h28)) s1k) s1o (all_app (o0le (all_left h1e) h1x) (o0le (all_right h1e) h1x))
 exact Wr (ret1 hr z ⟨(bup (bup (bM (bup (bup (bup (bup (bup h104 s1l) s1s) s1p) s1q) h1z) h20 (mem1le (lt_ h2r s1q.size))) s2g) s4f), z⟩)
end Go.Vw

