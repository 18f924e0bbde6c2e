import Derived.Test.YtfdcdeahjejlmaaGreatDoorVwYW2
set_option linter.unusedVariables false
namespace Go.Vw
open Go.RowKit Dat Go.Proofs
open Go.Proofs.Tryz
open Go.Vw renaming WC_seq → Wq, WC_region → Wg, WC.of_KC → Wo, WL_nil → Wl, WC_cond → Wc, WC_ret → Wr, WC_run → Wu, rd_pickT → pT, rd_pickF → pF, rd_field → fd, rd_load1 → l1, rd_loadN → lN, rd_move → mv, rd_assign → asg, rd_lenR → lnR, rd_lss → lss, rd_eql → eql, rd_extract → ext_, rd_buildP → bP, rd_add → add_, rd_inc → inc_, rd_not → not_, rd_at → at_, ef_call → fc, ef_store → fs, ef_box → fb, ef_alloc → fa, sub_refl → sr, crefl → cr, cchgM → cM, bchgM → bM, inI_sub → iS, inI_add → iA, brefl → br, oneAll → oA, bsplit → bs, ltge → lg, inor → io, rd_neq → nq, rd_lenT → lnT, rd_sub → sb_
variable {A0 : Option Addr} {N0 C0 : Nat} {B : Nat} {w0 : World} {A9 : Option Addr} {A8 : Option Addr} {AA : Option Addr} {AB : Option Addr} {N9 C9 : Nat} {N8 C8 : Nat} {NA CA : Nat} {NB CB : Nat} {A3 : Option Addr} {N3 C3 : Nat} {n : Nat} {AD : Option Addr} {ND CD : Nat} {A6 : Option Addr} {N6 C6 : Nat} {AG : Option Addr} {NG CG : Nat} {A2 : Option Addr} {A4 : Option Addr} {A1 : Option Addr} {A5 : Option Addr} {N2 C2 : Nat} {N4 C4 : Nat} {N1 C1 : Nat} {N5 C5 : Nat} {A7 : Option Addr} {N7 C7 : Nat} {AH : Option Addr} {NH CH : Nat} {AC : Option Addr} {NC CC : Nat}
theorem T_w1d (ih : I_impl_fileReader_value n) : S_impl_fileReader_choice (B_impl_fileReader_choice n (F_impl_fileReader_value n)) := by
 obtain ⟨ih0, ih1, ih2, ih3, ih4, ih5⟩ := ih
 constructor
 intro B N0 C0 N3 C3 b1 o1 N2 C2 N4 C4 N1 C1 N5 C5 A0 A3 A2 A4 A1 A5 x1 x2 x3 res w0 hm hBw p1_0 p1_1 hC1 hC1b p2_0 p2_1 p2_2 p2_4 p2_5 p2_6 p2_7 p3_0
 unfold B_impl_fileReader_choice at hm
 refine goF func186 z z (lb z) fun fn hr => Ws (E z (fb z) ?_)
 rintro _ w14 ⟨rfl, h1k⟩
 have h11 := h1k.below
 have h2d : Blk w14 w0.z (vR x2 A2 N2 C2 A4 N4 C4 A1 N1 C1 A5 N5 C5) := h1k.blk
 refine E z (fa zero_118) ?_
 rintro _ w2e ⟨rfl, h1l⟩
 have h13 := h1l.below
 have h15 : Blk w2e w14.z [vI 0, sl none 0 0, sl none 0 0] := h1l.blk
 refine Ra z (Ra z (Wn (Ws (Rm z (R z (fd f_144_7 z) ?_)))))
 have h1m := h2d.ext h13
 refine R z (l1 g_142 z fid (h1m.at z)) ?_
 obtain ⟨x3r, e2f, hm2g⟩ := bdS hm
 have h1n := (p2_7.ext h11).ext h13
 refine RX z (at_ (α := Int) d_142 z_3 z z z h1n e2f) ?_
 rintro _ ⟨b3s, o3t, cs3u, rfl, h2h, h2i, h3v⟩
 obtain ⟨rfl, h2j⟩ := Int_open h2i
 refine R z (l1 g_3 z fid (h2h.at0 z)) (Rm z ?_)
 have h1o := (hC1.ext h11).ext h13
 have h1p := (p1_0.ext h11).ext h13
 have h1q := (p1_1.ext h11).ext h13
 have h18 := lt_ h11.size h13.size
 obtain ⟨r16, r1d, r3w, e2k, hm1r⟩ := bd3S hm2g
 refine E z (fc call181 z (W_w09 (B := B) e2k (lt_ hBw h18) h1p h1q h1o hC1b h2j p3_0)) ?_
 rintro _ w17 ⟨s10, v2l, S2m, rfl, h2n, h2o, h1s, h1t⟩
 refine Rm z ?_
 iterate 3 refine R z (ext_ z z) ?_
 refine Ra z (Ra z (Ra z (Wn (Wq (Ws (Rm z (R z (rd_neqEr d_159 z z h1s) (Wn (Wc z (fun hc1e => ?_) (fun hc1e => ?_))))))))))
 ·refine Ws (R z (bP (parts := []) (cs := [vI 0, sl none 0 0, sl none 0 0]) build_118 z z) (Rm z (Rm z (E0 (fs (cur' := [vI 0, sl none 0 0, sl none 0 0]) z_118 z z (h15.ext s10) z (lb z) (oA z) z) ?_))))
  rintro _ w3x ⟨h2p, s2q⟩
  have h1u := s2q.one
  refine Ra z (Ra z (Wn ?_))
  obtain rfl := som (ifT hm1r hc1e)
  exact Wr (ret3 hr (resC g_118 z_118 z h2p z) z z ⟨(bM (bup (bup h11 h13) s10) h1u (mem1le h11.size)), none, 0, 0, [], none, 0, 0, [], v2l, S2m, z, (ii z), onL, onL, p3_0, (h1s.chg h1u (o0n1 h1t h15.lt lr)), (o0le h1t h18), nd0, al0⟩)
 refine Wk (Wq (Ws (R z (fd f_144_6 z) ?_)))
 have h1v := h1m.ext s10
 refine R z (l1 g_142 z fid (h1v.at z)) ?_
 have h1w := ((p2_6.ext h11).ext h13).ext s10
 refine R z (lnR d_142 z h1w) (Rm z (Wn ?_))
 obtain ⟨u3y, hu2r, hm1x⟩ := bdS (ifF hm1r hc1e)
 refine WC_forN (σ := Unit) (ρ := Val × Int × (Option (Int × Int))) (fun (k1f : Nat) (_ : Unit) a w => Sat 61 [(0, (.pointer (some ⟨b1, o1, none⟩))), (2, vI x3), (4, pt w0.z), (6, pt w14.z), (9, vI r16), (10, vI r1d), (31, sl A1 N1 C1), (32, vI (x2.tags.length : Int)), (33, (vI ((k1f : Nat) : Int)))] a ∧ Below w17.z w17 w) (fun (_ : Unit) a w => Sat 61 [(2, vI x3), (6, pt w14.z)] a ∧ Below w17.z w17 w) (fun r ex a w => ex = .ret ∧ RetPost prog fn (Q24 w0 B r) a w) hu2r ?_ ?_ ?_ ?_ ?_
 ·exact fun _ q => ⟨(q.k (s9 z z z z z z z z z)), (br w17)⟩
 ·rintro k1f _ a3z w40 o41 hk1g ⟨hS2s, s12⟩ hm2t
  refine Wu ?_ hS2s
  refine Ws (R z (lss z z) (Wn (Wq (Wc z (fun _ => ?_) (fun hc => (nolt hk1g hc).elim)))))
  refine Wk (Wq (WC_block (Ws (Rm z ?_))))
  obtain ⟨x42, e2u, hm1y⟩ := bdS hm2t
  refine RX z (at_ (α := Int) d_142 z_3 z z z (h1w.ext s12) e2u) ?_
  rintro _ ⟨b43, o44, cs45, rfl, h2v, h2w, h46⟩
  obtain ⟨rfl, h47⟩ := Int_open h2w
  refine R z (l1 g_3 z fid (h2v.at0 z)) (Ra z (Ra z (Wn (Ws (Rm z (Rm z (R z (eql z z) (Wn (Wc z (fun hc1h => ?_) (fun hc1h => ?_))))))))))
  ·refine Ws (Rm z (Rm z (R z (bP (parts := [(0, (.tmp 42))]) (cs := [vI r16, sl none 0 0, sl none 0 0]) build_118 z z) (R z (fd f_144_7 z) (R z (l1 g_142 z fid ((h1v.ext s12).at z)) (Rm z (R z (inc_ hk1g (lt_ (repS.len p2_6) LEN_le) z z) (Rm z (R z (add_ z z) ?_)))))))))
   obtain ⟨x48, e2x, hm2y⟩ := bdS (ifT hm1y hc1h)
   refine RX z (rd_sliceX d_142 z_3 z z ((h1n.ext s10).ext s12) z z e2x) ?_
   rintro _ ⟨a49, n4a, c4b, rfl, h2z⟩
   refine Rm z ?_
   have h19 := lt_ (lt_ h18 s10.size) s12.size
   obtain ⟨r30, r4c, r4d, e31, hm32⟩ := bd3S hm2y
   refine E z (fc call185 z (ih2.run (B := B) (x2 := (⟨r16, ([] : List UInt8), ([] : List Val)⟩ : Val)) e31 (lt_ hBw h19) ((h1p.ext s10).ext s12) ((h1q.ext s10).ext s12) ((h1o.ext s10).ext s12) hC1b h2n onL nd_nil all_nil onL nd_nil all_nil all_nil h2z h2o)) ?_
   rintro _ w4e ⟨s1z, a20, n21, c22, S23, a24, n25, c26, S27, v33, S34, rfl, h35, h36, h37, h38, h39, h28, h1i, h1a⟩
   iterate 3 refine R z (ext_ z z) ?_
   refine E0 (fs (cur' := [vI r30.number, sl a20 n21 c22, sl a24 n25 c26]) z_118 z z (((h15.ext s10).ext s12).chg s1z (atp (nmA (nmN _) (nmN _)))) z (lb z) (oA z) z) ?_
   rintro _ w4f ⟨h3a, s3b⟩
   have h1b := s3b.one
   refine Ra z (Ra z (Wn ?_))
   have h1j := lt_ s10.size s12.size
   have h3c : ∀ k ∈ S23, k ∉ [w14.z] := or1 (all_left h1a) al0 (ltnot (mem1 h15.lt) h1j)
   have h3d : ∀ k ∈ S27, k ∉ [w14.z] := or1 (all_right h1a) al0 (ltnot (mem1 h15.lt) h1j)
   exact Wr (rtO (QO_retL (som hm32).symm (ret3 hr (resC g_118 z_118 z h3a z) z z ⟨(bM (bM (bup (bup (bup h11 h13) s10) s12) s1z al0) h1b (mem1le h11.size)), a20, n21, c22, S23, a24, n25, c26, S27, v33, S34, z, h35, (h36.chg h1b h3c), (h37.chg h1b h3d), h38, (h39.chg h1b (o0n1 h28 h15.lt h1j)), (o0le h28 h19), (nd_app (nd_left h1i) (nd_right h1i) (nd_dj h1i)), (all_app (o1le (all_left h1a) al0 h19) (o1le (all_right h1a) al0 h19))⟩)))
  exact Wk (Wg (R z (inc_ hk1g (lt_ (repS.len p2_6) LEN_le) z z) (Rm z (Wl (fun _ q => ⟨(), (som (ifF hm1y hc1h)).symm, ⟨(q.k (s9 z z z z z z z z z)), s12⟩⟩)))))
 ·rintro _ a4g w4h ⟨hS3e, s3f⟩
  refine Wu ?_ hS3e
  refine Ws (R z (lss z z) (Wn (Wq (Wc z (fun hc => (noltt hc).elim) (fun _ => ?_)))))
  exact WC_exit (fun a' ha' => ⟨rfl, ⟨(Sat.weaken ha' (s2 z z)), s3f⟩⟩)
 ·rintro _ a3g w4i rfl ⟨hS4j, s1c⟩
  have hm3h := elL hm1x
  revert a3g
  refine Wo (Ws (R z (bP (parts := []) (cs := [vI 0, sl none 0 0, sl none 0 0]) build_118 z z) (Rm z (Rm z ?_))))
  have h29 := lt_ (lt_ h18 s10.size) s1c.size
  obtain ⟨r4k, e3i, hm3j⟩ := bdS hm3h
  refine E z (fc call190 z (W_w06 (B := B) e3i (lt_ hBw h29) p3_0 (ii z))) ?_
  rintro _ w4l ⟨s2a, v3k, S3l, rfl, h3m, h2b⟩
  refine E0 (fs (cur' := [vI 0, sl none 0 0, sl none 0 0]) z_118 z z (((h15.ext s10).ext s1c).ext s2a) z (lb z) (oA z) z) ?_
  rintro _ w4m ⟨h3n, s3o⟩
  have h2c := s3o.one
  refine Ra z (Ra z (Wn ?_))
  obtain rfl := som hm3j
  exact Wr (ret3 hr (resC g_118 z_118 z h3n z) z z ⟨(bM (bup (bup (bup (bup h11 h13) s10) s1c) s2a) h2c (mem1le h11.size)), none, 0, 0, [], none, 0, 0, [], v3k, S3l, z, (ii z), onL, onL, p3_0, (h3m.chg h2c (o0n1 h2b h15.lt (lt_ s10.size s1c.size))), (o0le h2b h29), nd0, al0⟩)
 rintro r4n ex4o a4p w4q rfl ⟨rfl, hq3p⟩
 have hm3q := elR hm1x
 obtain rfl := som hm3q
 exact ⟨hq3p, z⟩
theorem T_w1e (ih : I_impl_fileReader_value n) : S_impl_fileReader_option (B_impl_fileReader_option n (F_impl_fileReader_value n)) := by
 obtain ⟨ih0, ih1, ih2, ih3, ih4, ih5⟩ := ih
 constructor
 intro B N0 C0 N3 C3 b1 o1 N2 C2 N4 C4 N1 C1 N5 C5 A0 A3 A2 A4 A1 A5 x1 x2 x3 res w0 hm hBw p1_0 p1_1 hC1 hC1b p2_0 p2_1 p2_2 p2_4 p2_5 p2_6 p2_7 p3_0
 unfold B_impl_fileReader_option at hm
 refine goF func187 z z (lb z) fun fn hr => Ws (E z (fb z) ?_)
 rintro _ w14 ⟨rfl, h1d⟩
 have h11 := h1d.below
 have h23 : Blk w14 w0.z (vR x2 A2 N2 C2 A4 N4 C4 A1 N1 C1 A5 N5 C5) := h1d.blk
 refine E z (fa zero_118) ?_
 rintro _ w24 ⟨rfl, h1e⟩
 have h12 := h1e.below
 have h13 : Blk w24 w14.z [vI 0, sl none 0 0, sl none 0 0] := h1e.blk
 refine Ra z (Ra z (Wn (Ws (Rm z (Rm z ?_)))))
 have h1f := (hC1.ext h11).ext h12
 have h1g := (p1_0.ext h11).ext h12
 have h1h := (p1_1.ext h11).ext h12
 have h15 := lt_ h11.size h12.size
 obtain ⟨r33, r34, e25, hm1i⟩ := bd2S hm
 refine E z (fc call203 z (W_w08 (B := B) e25 (lt_ hBw h15) h1g h1h h1f hC1b p3_0 (ii z))) ?_
 rintro _ w35 ⟨s10, a36, n37, c38, v26, S27, rfl, h1j, h1k, h1l⟩
 refine Rm z (R z (ext_ z z) (R z (ext_ z z) (Ra z (Ra z (Wn (Wq (WC_block (Ws (Rm z (R z (rd_neqEr d_159 z z h1k) (Ra z (Wn (Wc z (fun hc19 => ?_) (fun hc19 => ?_))))))))))))))
 ·refine Ws (R z (bP (parts := []) (cs := [vI 0, sl none 0 0, sl none 0 0]) build_118 z z) (Rm z (Rm z (E0 (fs (cur' := [vI 0, sl none 0 0, sl none 0 0]) z_118 z z (h13.ext s10) z (lb z) (oA z) z) ?_))))
  rintro _ w39 ⟨h28, s29⟩
  have h1m := s29.one
  refine Ra z (Ra z (Wn ?_))
  obtain rfl := som (ifT hm1i hc19)
  exact Wr (rtO (ret3 hr (resC g_118 z_118 z h28 z) z z ⟨(bM (bup (bup h11 h12) s10) h1m (mem1le h11.size)), none, 0, 0, [], none, 0, 0, [], v26, S27, z, (ii z), onL, onL, p3_0, (h1k.chg h1m (o0n1 h1l h13.lt lr)), (o0le h1l h15), nd0, al0⟩))
 refine Ws (Rm z ?_)
 obtain ⟨x3a, e2a, hm1n⟩ := bdS (ifF hm1i hc19)
 refine RX z (at_ (α := UInt8) d_25 z_5 z z z h1j e2a) ?_
 rintro _ ⟨b3b, o3c, cs3d, rfl, h2b, h2c, h3e⟩
 obtain rfl := UInt8_open h2c
 refine R z (l1 g_5 z fid (h2b.at0 z)) (R z (rd_gtr z z) (Ra z (Wn (Wc z (fun hc1a => ?_) (fun hc1a => ?_)))))
 ·refine Ws (R z (bP (parts := []) (cs := [vI 0, sl none 0 0, sl none 0 0]) build_118 z z) (Rm z (Rm z ?_)))
  have h1o := lt_ h15 s10.size
  obtain ⟨r3f, e2d, hm2e⟩ := bdS (ifT hm1n hc1a)
  refine E z (fc call190 z (W_w06 (B := B) e2d (lt_ hBw h1o) p3_0 (ii z))) ?_
  rintro _ w3g ⟨s1p, v2f, S2g, rfl, h2h, h1q⟩
  refine E0 (fs (cur' := [vI 0, sl none 0 0, sl none 0 0]) z_118 z z ((h13.ext s10).ext s1p) z (lb z) (oA z) z) ?_
  rintro _ w3h ⟨h2i, s2j⟩
  have h1r := s2j.one
  refine Ra z (Ra z (Wn ?_))
  obtain rfl := som hm2e
  exact Wr (rtO (ret3 hr (resC g_118 z_118 z h2i z) z z ⟨(bM (bup (bup (bup h11 h12) s10) s1p) h1r (mem1le h11.size)), none, 0, 0, [], none, 0, 0, [], v2f, S2g, z, (ii z), onL, onL, p3_0, (h2h.chg h1r (o0n1 h1q h13.lt s10.size)), (o0le h1q h1o), nd0, al0⟩))
 refine Ws (Rm z ?_)
 obtain ⟨x3i, e2k, hm1s⟩ := bdS (ifF hm1n hc1a)
 refine RX z (at_ (α := UInt8) d_25 z_5 z z z h1j e2k) ?_
 rintro _ ⟨b3j, o3k, cs3l, rfl, h2l, h2m, h3m⟩
 obtain rfl := UInt8_open h2m
 refine R z (l1 g_5 z fid (h2l.at0 z)) (R z (eql z z) (Ra z (Wn (Wc z (fun hc1b => ?_) (fun hc1b => ?_)))))
 ·refine Ws (R z (bP (parts := []) (cs := [vI 0, sl none 0 0, sl none 0 0]) build_118 z z) (Rm z (R z (add_ z z) (E0 (fs (cur' := [vI 0, sl none 0 0, sl none 0 0]) z_118 z z (h13.ext s10) z (lb z) (oA z) z) ?_))))
  rintro _ w3n ⟨h2n, s2o⟩
  refine Ra z (Ra z (Wn ?_))
  obtain rfl := som (ifT hm1s hc1b)
  exact Wr (rtO (ret3 hr (resC g_118 z_118 z h2n z) z z ⟨(bM (bup (bup h11 h12) s10) s2o.one (mem1le h11.size)), none, 0, 0, [], none, 0, 0, [], .nilIface, ([] : List Nat), z, (ii z), onL, onL, (iA _ _), errR_nil, all_nil, nd0, al0⟩))
 refine Wk (Ws (Rm z (R z (bP (parts := []) (cs := [vI 0, sl none 0 0, sl none 0 0]) build_118 z z) (R z (fd f_144_7 z) (R z (l1 g_142 z fid (((h23.ext h12).ext s10).at z)) (Rm z (R z (add_ z z) ?_)))))))
 have h16 := lt_ h15 s10.size
 obtain ⟨r2p, r3o, r3p, e2q, hm2r⟩ := bd3S (ifF hm1s hc1b)
 refine E z (fc call185 z (ih2.run (B := B) (x2 := (⟨0, ([] : List UInt8), ([] : List Val)⟩ : Val)) e2q (lt_ hBw h16) (h1g.ext s10) (h1h.ext s10) (h1f.ext s10) hC1b (ii z) onL nd_nil all_nil onL nd_nil all_nil all_nil (((p2_7.ext h11).ext h12).ext s10) (iA _ _))) ?_
 rintro _ w3q ⟨s1t, a1u, n1v, c1w, S1x, a1y, n1z, c20, S21, v2s, S2t, rfl, h2u, h2v, h2w, h2x, h2y, h22, h1c, h17⟩
 iterate 3 refine R z (ext_ z z) ?_
 refine E0 (fs (cur' := [vI r2p.number, sl a1u n1v c1w, sl a1y n1z c20]) z_118 z z ((h13.ext s10).chg s1t (atp (nmA (nmN _) (nmN _)))) z (lb z) (oA z) z) ?_
 rintro _ w3r ⟨h2z, s30⟩
 have h18 := s30.one
 refine Ra z (Ra z (Wn ?_))
 obtain rfl := som hm2r
 have h31 : ∀ k ∈ S1x, k ∉ [w14.z] := or1 (all_left h17) al0 (ltnot (mem1 h13.lt) s10.size)
 have h32 : ∀ k ∈ S21, k ∉ [w14.z] := or1 (all_right h17) al0 (ltnot (mem1 h13.lt) s10.size)
 exact Wr (ret3 hr (resC g_118 z_118 z h2z z) z z ⟨(bM (bM (bup (bup h11 h12) s10) s1t al0) h18 (mem1le h11.size)), a1u, n1v, c1w, S1x, a1y, n1z, c20, S21, v2s, S2t, z, h2u, (h2v.chg h18 h31), (h2w.chg h18 h32), h2x, (h2y.chg h18 (o0n1 h22 h13.lt s10.size)), (o0le h22 h16), (nd_app (nd_left h1c) (nd_right h1c) (nd_dj h1c)), (all_app (o1le (all_left h17) al0 h16) (o1le (all_right h17) al0 h16))⟩)
theorem T_w1f (ih : I_impl_fileReader_value n) : S_impl_fileReader_checked (B_impl_fileReader_checked n (F_impl_fileReader_value n)) := by
 obtain ⟨ih0, ih1, ih2, ih3, ih4, ih5⟩ := ih
 constructor
 intro B N0 C0 N3 C3 b1 o1 N2 C2 N4 C4 N1 C1 N5 C5 A0 A3 A2 A4 A1 A5 x1 x2 x3 res w0 hm hBw p1_0 p1_1 hC1 hC1b p2_0 p2_1 p2_2 p2_4 p2_5 p2_6 p2_7 p3_0
 unfold B_impl_fileReader_checked at hm
 refine goF func188 z z (lb z) fun fn hr => Ws (E z (fb z) ?_)
 rintro _ w1b ⟨rfl, h1r⟩
 have h13 := h1r.below
 have h2j : Blk w1b w0.z (vR x2 A2 N2 C2 A4 N4 C4 A1 N1 C1 A5 N5 C5) := h1r.blk
 refine E z (fa zero_118) ?_
 rintro _ w2k ⟨rfl, h1s⟩
 have h17 := h1s.below
 have h14 : Blk w2k w1b.z [vI 0, sl none 0 0, sl none 0 0] := h1s.blk
 refine Ra z (Ra z (Wn (Ws (Rm z (R z (bP (parts := []) (cs := [vI 0, sl none 0 0, sl none 0 0]) build_118 z z) (R z (fd f_144_7 z) (R z (l1 g_142 z fid ((h2j.ext h17).at z)) (Rm z ?_))))))))
 have h1t := (hC1.ext h13).ext h17
 have h1u := (p1_0.ext h13).ext h17
 have h1v := (p1_1.ext h13).ext h17
 have h19 := lt_ h13.size h17.size
 obtain ⟨r1j, r3l, r3m, e2l, hm1w⟩ := bd3S hm
 refine E z (fc call185 z (ih2.run (B := B) (x2 := (⟨0, ([] : List UInt8), ([] : List Val)⟩ : Val)) e2l (lt_ hBw h19) h1u h1v h1t hC1b (ii z) onL nd_nil all_nil onL nd_nil all_nil all_nil ((p2_7.ext h13).ext h17) p3_0)) ?_
 rintro _ w2m ⟨s10, a1c, n1d, c1e, S1x, a1f, n1g, c1h, S1y, v2n, S2o, rfl, h2p, h1z, h20, h21, h22, h23, h1k, h1i⟩
 refine Rm z ?_
 iterate 3 refine R z (ext_ z z) ?_
 refine E z (fa zero_118) ?_
 rintro _ w2q ⟨rfl, h24⟩
 have h11 := h24.below
 have h2r : Blk w2q w2m.z [vI 0, sl none 0 0, sl none 0 0] := h24.blk
 refine E0 (fs (cur' := [vI r1j.number, sl a1c n1d c1e, sl a1f n1g c1h]) z_118 z z h2r z (lb z) (oA z) z) ?_
 rintro _ w3n ⟨h2s, s2t⟩
 have h12 := s2t.one
 refine Ra z (Ra z (Wn (Wq (Ws (Rm z ?_)))))
 have h25 := (h22.ext h11).chg h12 (dj_symm (mnr (errR.lt h22)))
 refine R z (rd_neqEr d_159 z z h25) (Wn (Wc z (fun hc1l => ?_) (fun hc1l => ?_)))
 ·refine Ws (R z (bP (parts := []) (cs := [vI 0, sl none 0 0, sl none 0 0]) build_118 z z) (Rm z (Rm z (E0 (fs (cur' := [vI 0, sl none 0 0, sl none 0 0]) z_118 z z (((h14.chg s10 (atp (nmA (nmN _) (nmN _)))).ext h11).chg h12 (djs (mm1 h14.lt s10.size))) z (lb z) (oA z) z) ?_))))
  rintro _ w3o ⟨h2u, s2v⟩
  have h26 := s2v.one
  refine Ra z (Ra z (Wn ?_))
  obtain rfl := som (ifT hm1w hc1l)
  exact Wr (ret3 hr (resC g_118 z_118 z h2u z) z z ⟨(bM (bM (bup (bM (bup h13 h17) s10 al0) h11) h12 (mem1le (lt_ h19 s10.size))) h26 (mem1le h13.size)), none, 0, 0, [], none, 0, 0, [], v2n, S2o, z, (ii z), onL, onL, p3_0, (h25.chg h26 (o0n1 h23 h14.lt lr)), (o0le h23 h19), nd0, al0⟩)
 refine Wk (Ws (Rm z (Rm z ?_)))
 have h1a := lt_ h19 s10.size
 have h1m := mem1le (lt_ hBw h1a)
 have h27 := ((h1t.chg s10 ((nmA (lg all_nil) (lg all_nil)) _ hC1b)).ext h11).chg h12 ((lg h1m) _ hC1b)
 have h28 := ((h1v.chg s10 (nmA (lg all_nil) (lg all_nil))).ext h11).chg h12 (lg h1m)
 have h1n := lt_ (lt_ h1a h11.size) h12.size
 obtain ⟨r3p, r3q, e2w, hm29⟩ := bd2S (ifF hm1w hc1l)
 refine E z (fc call203 z (W_w08 (B := B) e2w (lt_ hBw h1n) (((h1u.chg s10 (nmA (lg all_nil) (lg all_nil))).ext h11).chg h12 (lg h1m)) h28 h27 hC1b h21 (ii z))) ?_
 rintro _ w3r ⟨s15, a3s, n3t, c3u, v2x, S2y, rfl, h2z, h2a, h2b⟩
 refine Rm z (R z (ext_ z z) (R z (ext_ z z) (Ra z (Ra z (Wn (Wq (Ws (Rm z (R z (rd_neqEr d_159 z z h2a) (Wn (Wc z (fun hc1o => ?_) (fun hc1o => ?_))))))))))))
 ·refine Ws (R z (bP (parts := []) (cs := [vI 0, sl none 0 0, sl none 0 0]) build_118 z z) (Rm z (Rm z (E0 (fs (cur' := [vI 0, sl none 0 0, sl none 0 0]) z_118 z z ((((h14.chg s10 (atp (nmA (nmN _) (nmN _)))).ext h11).chg h12 (djs (mm1 h14.lt s10.size))).ext s15) z (lb z) (oA z) z) ?_))))
  rintro _ w3v ⟨h30, s31⟩
  have h2c := s31.one
  refine Ra z (Ra z (Wn ?_))
  obtain rfl := som (ifT hm29 hc1o)
  exact Wr (ret3 hr (resC g_118 z_118 z h30 z) z z ⟨(bM (bup (bM (bup (bM (bup h13 h17) s10 al0) h11) h12 (mem1le h1a)) s15) h2c (mem1le h13.size)), none, 0, 0, [], none, 0, 0, [], v2x, S2y, z, (ii z), onL, onL, p3_0, (h2a.chg h2c (o0n1 h2b h14.lt (lt_ (lt_ s10.size h11.size) h12.size))), (o0le h2b h1n), nd0, al0⟩)
 refine Wk (Wq (Wq (WC_draw (X := noX) 0 (.rd 0 (.rd 1 (.rd 2 (.rd 3 (.rd 4 (.rd 5 (.rd 6 (.rd 7 (.rd 8 (.rd 9 (.rd 10 (.ef 11 (.rd 12 .done))))))))))))) mo (by kernel_rfl) fun w3w s16 _ => dR z z (mv z) ?_)))
 obtain ⟨x3x, e32, hm33⟩ := bdS (ifF hm29 hc1o)
 refine dRX z z (at_ (α := UInt8) d_25 z_5 z z z (h2z.ext s16) e32) ?_
 rintro _ ⟨b3y, o3z, cs40, rfl, h34, h35, h41⟩
 obtain rfl := UInt8_open h35
 refine dR z z (l1 g_5 z fid (h34.at0 z)) (dR z z (rd_convUI d_5 d_3 z) (dR z z (mv z) (dR z z (rd_nil z) (dR z z (fd f_157_1 z) (dR z z (l1 g_25 z fid (((h27.ext s15).ext s16).at (j := 1) z)) (dR z z (mv z) (dR z z (mv z) ?_)))))))
 obtain ⟨x42, e36, hm37⟩ := bdS hm33
 refine dRX z z (rd_sliceX d_25 z_5 z z ((h28.ext s15).ext s16) z z e36) ?_
 rintro _ ⟨a43, n44, c45, rfl, h38⟩
 have h2d := lt_ (lt_ h1n s15.size) s16.size
 obtain ⟨r46, e39, hm2e⟩ := bdS hm37
 refine dE z z (fc call91 z (W_w14 (B := B) e39 (lt_ hBw h2d) h38)) (.inr fun _ _ h => chgB (h.1)) ?_
 rintro _ w47 ⟨s18, rfl, h48⟩
 refine dR z z (nq z z) (PR_done (Wo (Wc z (fun hc1p => ?_) (fun hc1p => ?_))))
 ·refine Ws (R z (bP (parts := []) (cs := [vI 0, sl none 0 0, sl none 0 0]) build_118 z z) (Rm z (Rm z ?_)))
  have h2f := lt_ h2d s18.size
  obtain ⟨r49, e3a, hm3b⟩ := bdS (ifT hm2e hc1p)
  refine E z (fc call190 z (W_w06 (B := B) e3a (lt_ hBw h2f) h21 (ii z))) ?_
  rintro _ w4a ⟨s2g, v3c, S3d, rfl, h3e, h2h⟩
  refine E0 (fs (cur' := [vI 0, sl none 0 0, sl none 0 0]) z_118 z z (((((((h14.chg s10 (atp (nmA (nmN _) (nmN _)))).ext h11).chg h12 (djs (mm1 h14.lt s10.size))).ext s15).ext s16).ext s18).ext s2g) z (lb z) (oA z) z) ?_
  rintro _ w4b ⟨h3f, s3g⟩
  have h2i := s3g.one
  refine Ra z (Ra z (Wn ?_))
  obtain rfl := som hm3b
  exact Wr (ret3 hr (resC g_118 z_118 z h3f z) z z ⟨(bM (bup (bup (bup (bup (bM (bup (bM (bup h13 h17) s10 al0) h11) h12 (mem1le h1a)) s15) s16) s18) s2g) h2i (mem1le h13.size)), none, 0, 0, [], none, 0, 0, [], v3c, S3d, z, (ii z), onL, onL, p3_0, (h3e.chg h2i (o0n1 h2h h14.lt (lt_ (lt_ (lt_ (lt_ (lt_ s10.size h11.size) h12.size) s15.size) s16.size) s18.size))), (o0le h2h h2f), nd0, al0⟩)
 refine Wk (Ws (R z (lN (vs := [vI r1j.number, sl a1c n1d c1e, sl a1f n1g c1h]) g_118 z_118 z z fid ((((h2s.ext s15).ext s16).ext s18).row 0 3 z)) (Rm z (R z (add_ z z) (E0 (fs (cur' := [vI r1j.number, sl a1c n1d c1e, sl a1f n1g c1h]) z_118 z z ((((((h14.chg s10 (atp (nmA (nmN _) (nmN _)))).ext h11).chg h12 (djs (mm1 h14.lt s10.size))).ext s15).ext s16).ext s18) z (lb z) (oA z) z) ?_)))))
 rintro _ w4c ⟨h3h, s3i⟩
 have h1q := s3i.one
 refine Ra z (Ra z (Wn ?_))
 obtain rfl := som (ifF hm2e hc1p)
 have h3j : ∀ k ∈ S1x, k ∉ [w1b.z] := or1 (all_left h1i) al0 (ltnot (mem1 h14.lt) lr)
 have h3k : ∀ k ∈ S1y, k ∉ [w1b.z] := or1 (all_right h1i) al0 (ltnot (mem1 h14.lt) lr)
 exact Wr (ret3 hr (resC g_118 z_118 z h3h z) z z ⟨(bM (bup (bup (bup (bM (bup (bM (bup h13 h17) s10 al0) h11) h12 (mem1le h1a)) s15) s16) s18) h1q (mem1le h13.size)), a1c, n1d, c1e, S1x, a1f, n1g, c1h, S1y, .nilIface, ([] : List Nat), z, h2p, ((((((h1z.ext h11).chg h12 (dj_symm (mnr (ownS.lt h1z)))).ext s15).ext s16).ext s18).chg h1q h3j), ((((((h20.ext h11).chg h12 (dj_symm (mnr (ownS.lt h20)))).ext s15).ext s16).ext s18).chg h1q h3k), (iA _ _), errR_nil, all_nil, (nd_app (nd_left h1k) (nd_right h1k) (nd_dj h1k)), (all_app (o1le (all_left h1i) al0 h19) (o1le (all_right h1i) al0 h19))⟩)
theorem A_w01 : ∀ n, I_impl_fileReader_value n
  | 0 => ⟨⟨fun hm => by intros; exact nomatch (show none = some _ from hm)⟩, ⟨fun hm => by intros; exact nomatch (show none = some _ from hm)⟩, ⟨fun hm => by intros; exact nomatch (show none = some _ from hm)⟩, ⟨fun hm => by intros; exact nomatch (show none = some _ from hm)⟩, ⟨fun hm => by intros; exact nomatch (show none = some _ from hm)⟩, ⟨fun hm => by intros; exact nomatch (show none = some _ from hm)⟩⟩
  | n + 1 => ⟨T_w01 (A_w01 n), T_w1b (A_w01 n), T_w1c (A_w01 n), T_w1d (A_w01 n), T_w1e (A_w01 n), T_w1f (A_w01 n)⟩
theorem W_w01 : S_impl_fileReader_value (F_impl_fileReader_value n).impl_fileReader_value := (A_w01 n).1
theorem W_w1b : S_impl_fileReader_array (F_impl_fileReader_value n).impl_fileReader_array := (A_w01 n).2.1
theorem W_w1c : S_impl_fileReader_items (F_impl_fileReader_value n).impl_fileReader_items := (A_w01 n).2.2.1
theorem W_w1d : S_impl_fileReader_choice (F_impl_fileReader_value n).impl_fileReader_choice := (A_w01 n).2.2.2.1
theorem W_w1e : S_impl_fileReader_option (F_impl_fileReader_value n).impl_fileReader_option := (A_w01 n).2.2.2.2.1
theorem W_w1f : S_impl_fileReader_checked (F_impl_fileReader_value n).impl_fileReader_checked := (A_w01 n).2.2.2.2.2

theorem W_w0j {x1 : Desc} {x2 : Int} {x3 : List UInt8} {x4 : Int} {res : Val × Int × Int} (hm : M_impl_ReadValue n x1 x2 x3 x4 = some res) (hBw : B ≤ w0.z) (hG : Gl w0 B) (p1_0 : repS w0 B (sl A0 N0 C0) x1.rules) (p2_0 : inI x2) (p3_0 : repS w0 B (sl A7 N7 C7) x3) (p4_0 : inI x4) : CallsR prog 138 [(.agg #[sl A0 N0 C0]), vI x2, sl A7 N7 C7, vI x4] w0 (Q17 w0 B res) := by
 unfold M_impl_ReadValue at hm
 refine goF func138 z z (lb z) fun fn hr => Ws (E z (fb z) ?_)
 rintro _ w1c ⟨rfl, h20⟩
 have h10 := h20.below
 have h21 : Blk w1c w0.z [sl A0 N0 C0] := h20.blk
 refine E z (fa zero_118) ?_
 rintro _ w1p ⟨rfl, h22⟩
 have h12 := h22.below
 have h15 : Blk w1p w1c.z [vI 0, sl none 0 0, sl none 0 0] := h22.blk
 refine Ra z (Ra z (Wn (Wq (Wq ?_))))
 obtain ⟨u2s, hu2t, hm23⟩ := bdS hm
 refine WC_cut (fun a w => ∃ (x1q : Bool), x1q = u2s ∧ Sat 62 [(1, vI x2), (2, sl A7 N7 C7), (3, vI x4), (4, pt w0.z), (8, pt w1c.z), (34, vB x1q)] a ∧ Below w1p.z w1p w) ?_ ?_
 ·refine Wg (R z (lN (vs := [sl A0 N0 C0]) g_95 z_95 z z fid ((h21.ext h12).row 0 1 z)) (Rm z ?_))
  obtain ⟨r2u, e2v, hm24⟩ := bdS hu2t
  refine E z (fc call153 z (W_w33 (B := B) e2v (lt_ hBw (lt_ h10.size h12.size)) ((p1_0.ext h10).ext h12) p2_0)) ?_
  rintro _ w3p ⟨s1d, rfl⟩
  refine R z (not_ z) (Rm z ?_)
  rcases bs (!r2u) with hc19 | hc19
  ·exact Nh z hc19 (Nh z hc19 (R z (pT z hc19 z) (Rm z (Nh z z (Nh z z (Nh z z (Nh z z (R z (pT z z z) (Rm z (Nh z z (Nh z z (Nh z z (R z (pT z z z) (Wl (fun _ q => ⟨true, som (ifT hm24 hc19), (q.k (s6 z z z z z z)), s1d⟩)))))))))))))))
  have hm25 := ifF hm24 hc19
  refine Rh z hc19 (mv z) (Rh z hc19 (lss z z) (R z (pF z hc19 z) (Rm z ?_)))
  rcases bs (decide (x4 < 0)) with hc16 | hc16
  ·iterate 4 refine Nh z hc16 ?_
   exact R z (pT z hc16 z) (Rm z (Nh z z (Nh z z (Nh z z (R z (pT z z z) (Wl (fun _ q => ⟨true, som (ifT hm25 hc16), (q.k (s6 z z z z z z)), s1d⟩)))))))
  have hm26 := ifF hm25 hc16
  refine Rh z hc16 (mv z) (Rh z hc16 (mv z) ?_)
  have h27 := ((p3_0.ext h10).ext h12).ext s1d
  refine Rh z hc16 (lnR d_25 z h27) (Rh z hc16 (rd_gtr z z) (R z (pF z hc16 z) (Rm z ?_)))
  rcases bs (decide ((x3.length : Int) < x4)) with hc1a | hc1a
  ·iterate 3 refine Nh z hc1a ?_
   exact R z (pT z hc1a z) (Wl (fun _ q => ⟨true, som (ifT hm26 hc1a), (q.k (s6 z z z z z z)), s1d⟩))
  exact Rh z hc1a (mv z) (Rh z hc1a (lnR d_25 z h27) (Rh z hc1a (rd_gtr z z) (R z (pF z hc1a z) (Wl (fun _ q => ⟨decide (400 < (x3.length : Int)), som (ifF hm26 hc1a), (q.k (s6 z z z z z z)), s1d⟩)))))
 rintro a2w w2x ⟨x1q, rfl, hS3q, s11⟩
 revert a2w
 refine Wo (Wc z (fun hc1r => ?_) (fun hc1r => ?_))
 ·refine Ws (R z (bP (parts := []) (cs := [vI 0, sl none 0 0, sl none 0 0]) build_118 z z) (E0 (fs (cur' := [vI 0, sl none 0 0, sl none 0 0]) z_118 z z (h15.ext s11) z (lb z) (oA z) z) ?_))
  rintro _ w3r ⟨h2y, s2z⟩
  refine Ra z (Ra z (Wn ?_))
  obtain rfl := som (ifT hm23 hc1r)
  exact Wr (ret3 hr (resC g_118 z_118 z h2y z) z z ⟨(bM (bup (bup h10 h12) s11) s2z.one (mem1le h10.size)), none, 0, 0, [], none, 0, 0, [], z, (ii z), onL, onL, (ii z), (ii z), nd0, al0⟩)
 refine Wk (Ws (R z (lN (vs := [sl A0 N0 C0]) g_95 z_95 z z fid (((h21.ext h12).ext s11).row 0 1 z)) (Rm z (R z (bP (parts := [(0, (.tmp 36)), (1, (.tmp 37))]) (cs := [sl A0 N0 C0, sl A7 N7 C7]) build_157 z z) (E z (fb z) ?_)))))
 rintro _ w28 ⟨rfl, h29⟩
 have h17 := h29.below
 have h2a : Blk w28 w2x.z [sl A0 N0 C0, sl A7 N7 C7] := h29.blk
 refine Ra z (Wn (Ws (Rm z (Rm z (Rm z ?_)))))
 have h1e := lt_ (lt_ (lt_ h10.size h12.size) s11.size) h17.size
 have h2b := lt_ hBw h1e
 obtain ⟨r1s, r3s, r30, e31, hm2c⟩ := bd3S (ifF hm23 hc1r)
 refine E z (fc call154 z (W_w01.run (B := w28.z) e31 lr (repS.mono ((((p1_0.ext h10).ext h12).ext s11).ext h17) h2b) (repS.mono ((((p3_0.ext h10).ext h12).ext s11).ext h17) h2b) (h2a.row 0 2 z) h2a.lt p2_0 p4_0)) ?_
 rintro _ w32 ⟨s1b, a1g, n1h, c1i, S33, a1j, n1k, c1l, S34, v3t, S3u, rfl, h35, h2d, h2e, h36, h1t, h37, h1u, h1m⟩
 refine Rm z ?_
 iterate 3 refine R z (ext_ z z) ?_
 refine E z (fa zero_118) ?_
 rintro _ w38 ⟨rfl, h2f⟩
 have h13 := h2f.below
 have h39 : Blk w38 w32.z [vI 0, sl none 0 0, sl none 0 0] := h2f.blk
 refine E0 (fs (cur' := [vI r1s.number, sl a1g n1h c1i, sl a1j n1k c1l]) z_118 z z h39 z (lb z) (oA z) z) ?_
 rintro _ w2g ⟨h3a, s3b⟩
 have h14 := s3b.one
 refine Ra z (Ra z (Wn (Ws (E z (fa zero_162) ?_))))
 rintro _ w3c ⟨rfl, h2h⟩
 have h18 := h2h.below
 have h2i : Blk w3c w2g.z [(.pointer none)] := h2h.blk
 refine Wn (Wq (Ws (Rm z (R z (rd_makeIface d_164 (fun _ h => by cases h) z) ?_))))
 have h2j := ((h1t.ext h13).chg h14 (dj_symm (mnr (errR.lt h1t)))).ext h18
 rcases bs (r30.isSome) with hc1n | hc1n
 ·obtain ⟨r3v, r3w, e3d, hm3e⟩ := bd2S (ifT hm2c hc1n)
  have h1v := lt_ h1e s1b.size
  refine E z (fc call155 z (W_As_some ((((((((hG.ext h10).ext h12).ext s11).ext h17).ext s1b).ext h13).chg h14 (lg (mem1le (lt_ hBw h1v)))).ext h18) h2j e3d h2i)) ?_
  rintro _ w3x ⟨g2k, rfl, s3f, h3g, h3h, h2l, h3i, h3j⟩
  have h1w := s3f.one
  refine Wn (Wc z (fun _ => ?_) (fun hc => (bcon z hc).elim))
  refine Wq (WC_draw (X := (· ∈ [w1c.z])) 0 (.rd 0 (.rd 1 (.rd 2 (.rd 3 (.rd 4 (.rd 5 (.rd 6 (.rd 7 (.rd 8 (.ef 9 (.rd 10 (.rd 11 .done)))))))))))) mo (by kernel_rfl) fun w3y s1o _ => dR z z (bP (parts := []) (cs := [vI 0, sl none 0 0, sl none 0 0]) build_118 z z) ?_)
  have h2m := h3g.ext s1o
  have h2n := lt_ s11.size h17.size
  have h2o := lt_ h2n s1b.size
  have h2p := lt_ (lt_ h2o h13.size) h14.size
  have h1x := mm1 h15.lt h2p
  refine dR z z (l1 g_162 z (atp h1x) (h2m.at z)) (dR z z (rd_nil z) (dR z z (fd f_166_0 z) ?_))
  have h3k : ∀ k ∈ [g2k], k ∉ [w2g.z] := or1 (mem1 (.inl h2l)) (dj_symm (mno (errR.lt h1t) (lt_ h13.size h14.size))) (ltnot (mem1 h2i.lt) lr)
  have h2q := (h3h.chg h1w (atp h3k)).ext s1o
  have h2r : ∀ k ∈ [g2k], k ∉ [w1c.z] := or1 (mem1 (.inl h2l)) (o0n1 h37 h15.lt h2n) (ltnot (mem1 h15.lt) (lt_ h2p h18.size))
  refine dR z z (l1 g_3 z (atp h2r) (h2q.at z)) (dR z z (l1 g_162 z (atp h1x) (h2m.at z)) (dR z z (rd_nil z) (dR z z (fd f_166_1 z) (dR z z (l1 g_3 z (atp h2r) (h2q.at z)) (dE0 z (fs (cur' := [vI 0, sl none 0 0, sl none 0 0]) z_118 z z ((((((((h15.ext s11).ext h17).ext s1b).ext h13).chg h14 (djs (mm1 h15.lt h2o))).ext h18).chg h1w (djs h1x)).ext s1o) z (lb z) (oA z) z) (.inr fun _ _ h => chgIn (List.mem_singleton.2 z) h.2) ?_)))))
  rintro _ w3z ⟨h3l, s3m⟩
  refine dR z z (asg z) (dR z z (asg z) (PR_done (Wo ?_)))
  obtain rfl := som hm3e
  exact Wr (ret3 hr (resC g_118 z_118 z h3l z) z z ⟨(bM (bup (bM (bup (bM (bup (bup (bup (bup (bup h10 h12) s11) h17) s1b) h13) h14 (mem1le h1v)) h18) h1w (mem1le (lt_ (lt_ h1v h13.size) h14.size))) s1o) s3m.one (mem1le h10.size)), none, 0, 0, [], none, 0, 0, [], z, (ii z), onL, onL, h3i, h3j, nd0, al0⟩)
 refine E z (fc call155 z (W_As_none h2j hc1n)) ?_
 rintro _ w40 ⟨rfl, s1f⟩
 refine Wn (Wc z (fun hc => (bcon hc z).elim) (fun _ => ?_))
 refine Wk (Ws (R z (lN (vs := [vI r1s.number, sl a1g n1h c1i, sl a1j n1k c1l]) g_118 z_118 z z fid (((h3a.ext h18).ext s1f).row 0 3 z)) (Rm z ?_)))
 have h1y := lt_ s11.size h17.size
 refine E0 (fs (cur' := [vI r1s.number, sl a1g n1h c1i, sl a1j n1k c1l]) z_118 z z (((((((h15.ext s11).ext h17).ext s1b).ext h13).chg h14 (djs (mm1 h15.lt (lt_ h1y s1b.size)))).ext h18).ext s1f) z (lb z) (oA z) z) ?_
 rintro _ w41 ⟨h3n, s3o⟩
 have h1z := s3o.one
 refine Ra z (Ra z (Wn ?_))
 obtain rfl := som (ifF hm2c hc1n)
 exact Wr (ret3 hr (resC g_118 z_118 z h3n z) z z ⟨(bM (bup (bup (bM (bup (bup (bup (bup (bup h10 h12) s11) h17) s1b) h13) h14 (mem1le (lt_ h1e s1b.size))) h18) s1f) h1z (mem1le h10.size)), a1g, n1h, c1i, S33, a1j, n1k, c1l, S34, z, h35, (((((h2d.ext h13).chg h14 (dj_symm (mnr (ownS.lt h2d)))).ext h18).ext s1f).chg h1z (o0n1 (all_left h1m) h15.lt h1y)), (((((h2e.ext h13).chg h14 (dj_symm (mnr (ownS.lt h2e)))).ext h18).ext s1f).chg h1z (o0n1 (all_right h1m) h15.lt h1y)), h36, (ii z), (nd_app (nd_left h1u) (nd_right h1u) (nd_dj h1u)), (all_app (o0le (all_left h1m) h1e) (o0le (all_right h1m) h1e))⟩)
theorem W_w37 {x1 : Desc} {x2 : List UInt8} {res : Val × Int × Int} (hm : M_impl_ReadFile n x1 x2 = some res) (hBw : B ≤ w0.z) (hG : Gl w0 B) (p1_0 : repS w0 B (sl A0 N0 C0) x1.rules) (p2_0 : repS w0 B (sl A6 N6 C6) x2) : CallsR prog 115 [(.agg #[sl A0 N0 C0]), sl A6 N6 C6] w0 (Q17 w0 B res) := by
 unfold M_impl_ReadFile at hm
 refine goF func115 z z (lb z) fun fn hr => Ws (E z (fb z) ?_)
 rintro _ w1n ⟨rfl, h2g⟩
 have h12 := h2g.below
 have h1v : Blk w1n w0.z [sl A0 N0 C0] := h2g.blk
 refine E z (fa zero_118) ?_
 rintro _ w16 ⟨rfl, h2h⟩
 have h11 := h2h.below
 have h1o : Blk w16 w1n.z [vI 0, sl none 0 0, sl none 0 0] := h2h.blk
 refine Ra z (Ra z (Wn (Wq ?_)))
 obtain ⟨u3x, hu2i, hm3y⟩ := bdS hm
 refine WC_cut (fun a w => ∃ (x1b : Int) (x1w : List UInt8) (x1x : List Val) (x1c : Int) (x1d : Int), (x1b, x1w, x1x, x1c, x1d) = u3x ∧ ∃ a1e n1f c1g S17 a1h n1i c1j S18 g19, Sat 32 [(1, sl A6 N6 C6), (4, pt w1n.z), (7, pt g19), (8, vI x1c), (9, vI x1d)] a ∧ Below w16.z w16 w ∧ inI x1b ∧ ownS w S17 (sl a1e n1f c1g) x1w ∧ S17.Nodup ∧ (∀ k ∈ S17, w16.z ≤ k) ∧ ownS w S18 (sl a1h n1i c1j) x1x ∧ S18.Nodup ∧ (∀ k ∈ S18, w16.z ≤ k) ∧ (∀ k ∈ S18, k ∉ S17) ∧ inI x1c ∧ inI x1d ∧ Blk w g19 [vI x1b, sl a1e n1f c1g, sl a1h n1i c1j] ∧ w16.z ≤ g19 ∧ (∀ k ∈ S17, k ∉ [g19]) ∧ (∀ k ∈ S18, k ∉ [g19])) ?_ ?_
 ·refine WC_draw (X := fun k => k ∈ ([] : List Nat) ∨ w16.z ≤ k) 0 (.rd 0 (.rd 1 (.rd 3 (.br 2 (.br 4 (.rd 5 (.rd 6 (.rd 7 (.rd 8 (.ef 9 (.ef 10 (.rd 11 (.rd 12 .done)))))))) 9 (.ef 4 (.rd 5 (.rd 6 (.rd 7 (.rd 8 (.ef 10 (.rd 11 (.rd 12 .done))))))))) 9 (.ef 2 (.ef 4 (.rd 5 (.rd 6 (.rd 7 (.rd 8 (.ef 10 (.rd 11 (.rd 12 .done))))))))))))) mo (by kernel_rfl) fun w2j s10 _ => ?_
  have h2k := (h1v.ext h11).ext s10
  refine dR z z (lN (vs := [sl A0 N0 C0]) g_95 z_95 z z (notNew nm0 (Nat.lt_of_lt_of_le h1v.lt h11.size)) (h2k.row 0 1 z)) (dR z z (lN (vs := [sl A0 N0 C0]) g_95 z_95 z z (notNew nm0 (Nat.lt_of_lt_of_le h1v.lt h11.size)) (h2k.row 0 1 z)) (dR z z (mv z) (PR_br ?_ ?_)))
  ·have h1y := ((p1_0.ext h12).ext h11).ext s10
   have h1z := lt_ (lt_ h12.size h11.size) s10.size
   obtain ⟨r5o, e3z, hm2l⟩ := bdS hu2i
   refine dE z z (fc call139 z (W_w19 (B := B) e3z (lt_ hBw h1z) h1y)) (.inr fun _ _ h => chgB (h.1)) ?_
   rintro _ w2m ⟨s13, rfl, h2n⟩
   refine PR_br ?_ ?_
   ·obtain ⟨r1p, r40, r41, e42, hm43⟩ := bd3S hm2l
    refine dE z z (fc call138 z (W_w0j (B := B) e42 (lt_ hBw (lt_ h1z s13.size)) ((((hG.ext h12).ext h11).ext s10).ext s13) (h1y.ext s13) h2n ((((p2_0.ext h12).ext h11).ext s10).ext s13) (ii z))) (.inr fun _ _ h => chgB (h.1)) ?_
    rintro _ w2o ⟨s2p, a2q, n2r, c2s, S44, a2t, n2u, c2v, S45, rfl, h46, h2w, h2x, h47, h48, h20, h2y⟩
    refine dR z z (mv z) ?_
    iterate 3 refine dR z z (ext_ z z) ?_
    refine dE z z (fa zero_118) (.inr fun _ _ h => chgB (h.2.below)) ?_
    rintro _ w49 ⟨rfl, h2z⟩
    have h21 := h2z.below
    have h4a : Blk w49 w2o.z [vI 0, sl none 0 0, sl none 0 0] := h2z.blk
    have h22 := lt_ s10.size s13.size
    have h23 := mem1le (lt_ h22 s2p.size)
    refine dE0 z (fs (cur' := [vI r1p.number, sl a2q n2r c2s, sl a2t n2u c2v]) z_118 z z h4a z (lb z) (oA z) z) (.inr fun _ _ h => chgNew (atp h23) h.2) ?_
    rintro _ w5p ⟨h4b, s4c⟩
    have h24 := s4c.one
    refine dR z z (asg z) (dR z z (asg z) (PR_done ?_))
    have h30 := mnr (ownS.lt h2w)
    have h31 := mnr (ownS.lt h2x)
    exact fun _ q => ⟨r1p.number, r1p.bytes, r1p.items, r40, r41, som hm43, a2q, n2r, c2s, S44, a2t, n2u, c2v, S45, w2o.z, (q.k (s5 z z z z z)), (bM (bup (bup (bup s10 s13) s2p) h21) h24 h23), h46, ((h2w.ext h21).chg h24 (dj_symm h30)), (nd_left h20), (o0le (all_left h2y) h22), ((h2x.ext h21).chg h24 (dj_symm h31)), (nd_right h20), (o0le (all_right h2y) h22), (dj_symm (nd_dj h20)), h47, h48, h4b, (atp h23), (dj_symm h30), (dj_symm h31)⟩
   refine dE z z (fa zero_118) (.inr fun _ _ h => chgB (h.2.below)) ?_
   rintro _ w4d ⟨rfl, h32⟩
   have h1k := h32.below
   have h25 : Blk w4d w2m.z [vI 0, sl none 0 0, sl none 0 0] := h32.blk
   obtain ⟨r1q, r4e, r4f, e4g, hm4h⟩ := bd3S hm2l
   refine dE z z (fc call138 z (W_w0j (B := B) e4g (lt_ hBw (lt_ (lt_ h1z s13.size) h1k.size)) (((((hG.ext h12).ext h11).ext s10).ext s13).ext h1k) ((h1y.ext s13).ext h1k) h2n (((((p2_0.ext h12).ext h11).ext s10).ext s13).ext h1k) (ii z))) (.inr fun _ _ h => chgB (h.1)) ?_
   rintro _ w5q ⟨s33, a34, n35, c36, S4i, a37, n38, c39, S4j, rfl, h4k, h4l, h4m, h4n, h4o, h26, h1r⟩
   refine dR z z (mv z) ?_
   iterate 3 refine dR z z (ext_ z z) ?_
   have h3a := lt_ s10.size s13.size
   have h27 := mem1le h3a
   refine dE0 z (fs (cur' := [vI r1q.number, sl a34 n35 c36, sl a37 n38 c39]) z_118 z z (h25.ext s33) z (lb z) (oA z) z) (.inr fun _ _ h => chgNew (atp h27) h.2) ?_
   rintro _ w5r ⟨h4p, s4q⟩
   have h28 := s4q.one
   refine dR z z (asg z) (dR z z (asg z) (PR_done ?_))
   have h3b := o0n1 (all_left h1r) h25.lt lr
   have h3c := lt_ h3a h1k.size
   have h3d := o0n1 (all_right h1r) h25.lt lr
   exact fun _ q => ⟨r1q.number, r1q.bytes, r1q.items, r4e, r4f, som hm4h, a34, n35, c36, S4i, a37, n38, c39, S4j, w2m.z, (q.k (s5 z z z z z)), (bM (bup (bup (bup s10 s13) h1k) s33) h28 h27), h4k, (h4l.chg h28 h3b), (nd_left h26), (o0le (all_left h1r) h3c), (h4m.chg h28 h3d), (nd_right h26), (o0le (all_right h1r) h3c), (dj_symm (nd_dj h26)), h4n, h4o, h4p, (atp h27), h3b, h3d⟩
  refine dE z z (fa zero_118) (.inr fun _ _ h => chgB (h.2.below)) ?_
  rintro _ w4r ⟨rfl, h3e⟩
  have h1l := h3e.below
  have h29 : Blk w4r w2j.z [vI 0, sl none 0 0, sl none 0 0] := h3e.blk
  have h3f := (((p1_0.ext h12).ext h11).ext s10).ext h1l
  have h3g := lt_ (lt_ (lt_ h12.size h11.size) s10.size) h1l.size
  obtain ⟨r5s, e4s, hm4t⟩ := bdS hu2i
  refine dE z z (fc call139 z (W_w19 (B := B) e4s (lt_ hBw h3g) h3f)) (.inr fun _ _ h => chgB (h.1)) ?_
  rintro _ w5t ⟨s15, rfl, h4u⟩
  obtain ⟨r1s, r4v, r4w, e4x, hm4y⟩ := bd3S hm4t
  refine dE z z (fc call138 z (W_w0j (B := B) e4x (lt_ hBw (lt_ h3g s15.size)) (((((hG.ext h12).ext h11).ext s10).ext h1l).ext s15) (h3f.ext s15) h4u (((((p2_0.ext h12).ext h11).ext s10).ext h1l).ext s15) (ii z))) (.inr fun _ _ h => chgB (h.1)) ?_
  rintro _ w5u ⟨s3h, a3i, n3j, c3k, S4z, a3l, n3m, c3n, S50, rfl, h51, h52, h53, h54, h55, h2a, h1t⟩
  refine dR z z (mv z) ?_
  iterate 3 refine dR z z (ext_ z z) ?_
  have h2b := mem1le s10.size
  refine dE0 z (fs (cur' := [vI r1s.number, sl a3i n3j c3k, sl a3l n3m c3n]) z_118 z z ((h29.ext s15).ext s3h) z (lb z) (oA z) z) (.inr fun _ _ h => chgNew (atp h2b) h.2) ?_
  rintro _ w5v ⟨h56, s57⟩
  have h2c := s57.one
  refine dR z z (asg z) (dR z z (asg z) (PR_done ?_))
  have h3o := o0n1 (all_left h1t) h29.lt s15.size
  have h3p := lt_ (lt_ s10.size h1l.size) s15.size
  have h3q := o0n1 (all_right h1t) h29.lt s15.size
  exact fun _ q => ⟨r1s.number, r1s.bytes, r1s.items, r4v, r4w, som hm4y, a3i, n3j, c3k, S4z, a3l, n3m, c3n, S50, w2j.z, (q.k (s5 z z z z z)), (bM (bup (bup (bup s10 h1l) s15) s3h) h2c h2b), h51, (h52.chg h2c h3o), (nd_left h2a), (o0le (all_left h1t) h3p), (h53.chg h2c h3q), (nd_right h2a), (o0le (all_right h1t) h3p), (dj_symm (nd_dj h2a)), h54, h55, h56, (atp h2b), h3o, h3q⟩
 rintro a58 w1u ⟨x1b, x1w, x1x, x1c, x1d, rfl, a1e, n1f, c1g, S17, a1h, n1i, c1j, S18, g19, hS5w, s1m, h59, h5a, h5b, h3r, h5c, h5d, h3s, h5e, h3t, h5f, h5g, h5x, h5y, h5z⟩
 have hm5h := un5S hm3y
 revert a58
 refine Wo (Wq (Wq ?_))
 obtain ⟨u5i, hu3u, hm3v⟩ := bdS hm5h
 refine WC_cut (fun a w => ∃ (x2d : Bool), x2d = u5i ∧ Sat 32 [(4, pt w1n.z), (7, pt g19), (8, vI x1c), (9, vI x1d), (26, vB x2d)] a ∧ Below w1u.z w1u w) ?_ ?_
 ·refine Wg (Rm z (R z (eql z z) (Rm z ?_)))
  rcases bs (x1d == 0) with hc14 | hc14
  ·exact Rh z hc14 (mv z) (Rh z hc14 (mv z) (Rh z hc14 (lnR d_25 z (((p2_0.ext h12).ext h11).ext s1m)) (Rh z hc14 (lss z z) (R z (pT z hc14 z) (Wl (fun _ q => ⟨decide (x1c < (x2.length : Int)), som (ifT hu3u hc14), (q.k (s5 z z z z z)), (br w1u)⟩))))))
  iterate 4 refine Nh z hc14 ?_
  exact R z (pF z hc14 z) (Wl (fun _ q => ⟨false, som (ifF hu3u hc14), (q.k (s5 z z z z z)), (br w1u)⟩))
 rintro a5j w60 ⟨x2d, rfl, hS61, s1a⟩
 revert a5j
 refine Wo (Wc z (fun hc2e => ?_) (fun hc2e => ?_))
 ·refine Ws (R z (bP (parts := []) (cs := [vI 0, sl none 0 0, sl none 0 0]) build_118 z z) (Rm z (E0 (fs (cur' := [vI 0, sl none 0 0, sl none 0 0]) z_118 z z ((h1o.ext s1m).ext s1a) z (lb z) (oA z) z) ?_)))
  rintro _ w62 ⟨h5k, s5l⟩
  refine Ra z (Ra z (Wn ?_))
  obtain rfl := som (ifT hm3v hc2e)
  exact Wr (ret3 hr (resC g_118 z_118 z h5k z) z z ⟨(bM (bup (bup (bup h12 h11) s1m) s1a) s5l.one (mem1le h12.size)), none, 0, 0, [], none, 0, 0, [], z, (ii z), onL, onL, h3t, (ii z), nd0, al0⟩)
 refine Wk (Ws (R z (lN (vs := [vI x1b, sl a1e n1f c1g, sl a1h n1i c1j]) g_118 z_118 z z fid ((h5g.ext s1a).row 0 3 z)) (Rm z (Rm z (E0 (fs (cur' := [vI x1b, sl a1e n1f c1g, sl a1h n1i c1j]) z_118 z z ((h1o.ext s1m).ext s1a) z (lb z) (oA z) z) ?_)))))
 rintro _ w63 ⟨h5m, s5n⟩
 have h2f := s5n.one
 refine Ra z (Ra z (Wn ?_))
 obtain rfl := som (ifF hm3v hc2e)
 have h3w := lt_ h12.size h11.size
 exact Wr (ret3 hr (resC g_118 z_118 z h5m z) z z ⟨(bM (bup (bup (bup h12 h11) s1m) s1a) h2f (mem1le h12.size)), a1e, n1f, c1g, S17, a1h, n1i, c1j, S18, z, h59, ((h5a.ext s1a).chg h2f (o0n1 h3r h1o.lt lr)), ((h5c.ext s1a).chg h2f (o0n1 h3s h1o.lt lr)), h3t, h5f, (nd_app h5b h5d (dj_symm h5e)), (all_app (o0le h3r h3w) (o0le h3s h3w))⟩)
theorem W_w38 {x1 : Desc} {x2 : List UInt8} {res : Bool} (hm : M_impl_IsFileOf n x1 x2 = some res) (hBw : B ≤ w0.z) (hG : Gl w0 B) (p1_0 : repS w0 B (sl A0 N0 C0) x1.rules) (p2_0 : repS w0 B (sl A6 N6 C6) x2) : CallsR prog 86 [(.agg #[sl A0 N0 C0]), sl A6 N6 C6] w0 (Q11 w0 B res) := by
 unfold M_impl_IsFileOf at hm
 refine goF func86 z z (lb z) fun fn hr => Ws (E z (fb z) ?_)
 rintro _ w14 ⟨rfl, h11⟩
 have h10 := h11.below
 have h15 : Blk w14 w0.z [sl A0 N0 C0] := h11.blk
 refine Ra z (Wn (Ws (R z (lN (vs := [sl A0 N0 C0]) g_95 z_95 z z fid (h15.row 0 1 z)) (Rm z ?_))))
 obtain ⟨r16, r1j, r1k, e17, hm18⟩ := bd3S hm
 refine E z (fc call115 z (W_w37 (B := B) e17 (lt_ hBw h10.size) (hG.ext h10) (p1_0.ext h10) (p2_0.ext h10))) ?_
 rintro _ w19 ⟨s12, a1a, n1b, c1c, S1l, a1d, n1e, c1f, S1m, rfl, h1n, h1o, h1p, h1q, h1r, h1s, h1t⟩
 refine Rm z ?_
 iterate 3 refine R z (ext_ z z) ?_
 refine E z (fa zero_118) ?_
 rintro _ w1g ⟨rfl, h13⟩
 have h1h : Blk w1g w19.z [vI 0, sl none 0 0, sl none 0 0] := h13.blk
 refine E0 (fs (cur' := [vI r16.number, sl a1a n1b c1c, sl a1d n1e c1f]) z_118 z z h1h z (lb z) (oA z) z) ?_
 rintro _ w1u ⟨h1v, s1i⟩
 refine Ra z (Ra z (Wn (Ws (Rm z (R z (eql z z) (Ra z (Wn ?_)))))))
 obtain rfl := som hm18
 exact Wr (ret1 hr z ⟨(bM (bup (bup h10 s12) h13.below) s1i.one (mem1le (lt_ h10.size s12.size))), z⟩)
theorem W_w39 {x1 : Archive} {res : Bool} (hm : M_impl_IsValidArchive n x1 = some res) (hBw : B ≤ w0.z) (hG : Gl w0 B) (p1_0 : repS w0 B (sl A0 N0 C0) x1.registry.versions) (p1_1 : repS w0 B (sl A3 N3 C3) x1.log.bytes) (p1_2 : inI x1.log.stored) : CallsR prog 50 [(.agg #[sl A0 N0 C0, sl A3 N3 C3, vI x1.log.stored])] w0 (Q11 w0 B res) := by
 unfold M_impl_IsValidArchive at hm
 refine goF func50 z z (lb z) fun fn hr => Ws (E z (fb z) ?_)
 rintro _ w1i ⟨rfl, h1v⟩
 have h13 := h1v.below
 have h1g : Blk w1i w0.z [sl A0 N0 C0, sl A3 N3 C3, vI x1.log.stored] := h1v.blk
 refine Ra z (Wn (Wq (Wq ?_)))
 obtain ⟨u2l, hu2m, hm1w⟩ := bdS hm
 refine WC_cut (fun a w => ∃ (x1o : Bool), x1o = u2l ∧ Sat 60 [(1, pt w0.z), (21, vB x1o)] a ∧ Below w1i.z w1i w) ?_ ?_
 ·refine Wg (R z (fd f_37_0 z) (R z (lN (vs := [sl A0 N0 C0]) g_34 z_34 z z fid (h1g.row 0 1 z)) ?_))
  have h1x := p1_0.ext h13
  have h1p := lt_ hBw h13.size
  obtain ⟨r2n, e2o, hm1y⟩ := bdS hu2m
  refine E z (fc call82 z (W_w2p (B := B) (x1 := (⟨x1.registry.versions⟩ : Registry)) e2o h1p h1x)) ?_
  rintro _ w40 ⟨s18, rfl⟩
  refine R z (not_ z) (Rm z ?_)
  rcases bs (!r2n) with hc14 | hc14
  ·iterate 4 refine Nh z hc14 ?_
   exact R z (pT z hc14 z) (Rm z (Nh z z (Nh z z (Nh z z (R z (pT z z z) (Wl (fun _ q => ⟨true, som (ifT hm1y hc14), (q.k (s2 z z)), s18⟩)))))))
  refine Rh z hc14 (fd f_37_1 z) ?_
  have h1z := h1g.ext s18
  refine Rh z hc14 (lN (vs := [sl A3 N3 C3, vI x1.log.stored]) g_35 z_35 z z fid (h1z.row 1 2 z)) ?_
  have h20 := (p1_1.ext h13).ext s18
  obtain ⟨r2p, e2q, hm21⟩ := bdS (ifF hm1y hc14)
  refine Eg z z hc14 z (fc call83 z (W_w16 (B := B) (x1 := (⟨x1.log.bytes, x1.log.stored⟩ : Log)) e2q (lt_ hBw (lt_ h13.size s18.size)) h20 p1_2)) ?_
  rintro _ w41 ⟨s1e, rfl⟩
  refine Rh z hc14 (not_ z) (R z (pF z hc14 z) (Rm z ?_))
  rcases bs (!r2p) with hc16 | hc16
  ·iterate 3 refine Nh z hc16 ?_
   exact R z (pT z hc16 z) (Wl (fun _ q => ⟨true, som (ifT hm21 hc16), (q.k (s2 z z)), (bup s18 s1e)⟩))
  obtain ⟨r2r, e2s, hm2t⟩ := bdS (ifF hm21 hc16)
  refine Eg z z hc16 z (fc call51 z (W_w18 (B := w1i.z) e2s (lt_ s18.size s1e.size) (repS.mono ((h1x.ext s18).ext s1e) h1p) (repS.mono (h20.ext s1e) h1p) p1_2 ((h1z.ext s1e).row 0 3 z) h1g.lt)) ?_
  rintro _ w42 ⟨s2u, a43, n44, c45, rfl, h2v⟩
  exact Rh z hc16 (lnR d_59 z h2v) (Rh z hc16 (rd_gtr z z) (R z (pF z hc16 z) (Wl (fun _ q => ⟨decide (20 < (r2r.length : Int)), som hm2t, (q.k (s2 z z)), (bup (bup s18 s1e) s2u)⟩))))
 rintro a2w w46 ⟨x1o, rfl, hS47, s17⟩
 revert a2w
 refine Wo (Wc z (fun hc1q => ?_) (fun hc1q => ?_))
 ·refine Ws (Ra z (Wn ?_))
  obtain rfl := som (ifT hm1w hc1q)
  exact Wr (ret1 hr z ⟨(bup h13 s17), z⟩)
 refine Wk (Ws (R z (fd f_37_1 z) (R z (fd f_35_0 z) ?_)))
 have h22 := h1g.ext s17
 refine R z (l1 g_25 z fid (h22.at z)) ?_
 have h1r := lt_ h13.size s17.size
 obtain ⟨r1h, r48, e2x, hm2y⟩ := bd2S (ifF hm1w hc1q)
 refine E z (fc call84 z (W_w17 (B := B) e2x (lt_ hBw h1r) ((p1_1.ext h13).ext s17))) ?_
 rintro _ w1f ⟨s19, a1j, n1k, c1l, S49, rfl, h1m, h4a, h4b, h4c⟩
 refine Rm z (R z (ext_ z z) (R z (ext_ z z) (Ra z (Ra z (Wn (Wq (Ws (Rm z (R z (lnR d_89 z (ownS.rep h1m)) (Rm z (Wn ?_)))))))))))
 obtain ⟨u4d, hu2z, hm23⟩ := bdS hm2y
 refine WC_forN (σ := Unit) (ρ := Bool) (fun (k1n : Nat) (_ : Unit) a w => Sat 60 [(1, pt w0.z), (29, sl a1j n1k c1l), (30, vI (r1h.length : Int)), (31, (vI ((k1n : Nat) : Int)))] a ∧ Below w1f.z w1f w) (fun (_ : Unit) a w => Sat 60 [] a ∧ Below w1f.z w1f w) (fun r ex a w => ex = .ret ∧ RetPost prog fn (Q11 w0 B r) a w) hu2z ?_ ?_ ?_ ?_ ?_
 ·exact fun _ q => ⟨(q.k (s4 z z z z)), (br w1f)⟩
 ·rintro k1n _ a4e w30 o4f hk24 ⟨hS31, s12⟩ hm32
  refine Wu ?_ hS31
  refine Ws (R z (lss z z) (Wn (Wq (Wc z (fun _ => ?_) (fun hc => (nolt hk24 hc).elim)))))
  refine Wk (Wq (WC_block (Ws ?_)))
  obtain ⟨x1d, e33, hm34⟩ := bdS hm32
  refine RX z (at_ (α := Record) d_89 z_76 z z z (ownS_rep (h1m.ext s12) (ownS.lt h1m)) e33) ?_
  rintro _ ⟨b4g, o4h, cs4i, rfl, h35, h36, h4j⟩
  obtain ⟨a25, n26, c27, rfl, h4k, h4l, h37, h38⟩ := Record_open h36
  refine R z (lN (vs := [vI x1d.kind, Str.v x1d.name, vI x1d.version, sl a25 n26 c27]) g_76 z_76 z z fid h35) (E z (fa zero_76) ?_)
  rintro _ w39 ⟨rfl, h28⟩
  have h1a := h28.below
  have h3a : Blk w39 w30.z [vI 0, (Str.v (⟨[]⟩ : Str)), vI 0, sl none 0 0] := h28.blk
  refine E0 (fs (cur' := [vI x1d.kind, Str.v x1d.name, vI x1d.version, sl a25 n26 c27]) z_76 z z h3a z (lb z) (oA z) z) ?_
  rintro _ w29 ⟨h3b, s3c⟩
  have h1b := s3c.one
  refine Wn (Wq ?_)
  obtain ⟨u3d, hu2a, hm2b⟩ := bdS hm34
  refine WC_cut (fun a w => ∃ (x1s : Bool), x1s = u3d ∧ Sat 60 [(1, pt w0.z), (29, sl a1j n1k c1l), (30, vI (r1h.length : Int)), (31, (vI ((k1n : Nat) : Int))), (58, vB x1s)] a ∧ Below w29.z w29 w) ?_ ?_
  ·refine WC_draw (X := noX) 0 (.rd 0 (.rd 1 (.rd 2 (.rd 3 (.rd 4 (.rd 5 (.rd 6 (.rd 7 (.ef 8 (.rd 9 (.rd 10 (.rd 11 (.rd 12 (.rd 13 (.rd 14 (.rd 15 (.rd 16 (.rd 17 (.rd 18 (.rd 19 (.ef 20 (.rd 21 (.rd 22 (.rd 23 .done)))))))))))))))))))))))) mo (by kernel_rfl) fun w4m s15 _ => dR z z (fd f_76_0 z) ?_
   have h1t := h3b.ext s15
   refine dR z z (l1 g_3 z fid (h1t.at z)) (dR z z (eql z z) (dR z z (mv z) ?_))
   rcases bs (x1d.kind == 1) with hc10 | hc10
   ·refine dRg z z z hc10 z (fd f_37_0 z) ?_
    have h2c := ((((h22.ext s19).ext s12).ext h1a).chg h1b (djs (mm1 h1g.lt (lt_ (lt_ s17.size s19.size) s12.size)))).ext s15
    refine dRg z z z hc10 z (lN (vs := [sl A0 N0 C0]) g_34 z_34 z z fid (h2c.row 0 1 z)) (dRg z z z hc10 z (fd f_76_2 z) (dRg z z z hc10 z (l1 g_3 z fid (h1t.at z)) ?_))
    have h2d := lt_ h1r s19.size
    have h2e := lt_ h2d s12.size
    have h2f := mem1le (lt_ hBw h2e)
    have h2g := ((((((p1_0.ext h13).ext s17).ext s19).ext s12).ext h1a).chg h1b (lg h2f)).ext s15
    obtain ⟨r3e, e3f, hm2h⟩ := bdS (ifT hu2a hc10)
    refine dEg z z z hc10 z (fc call85 z (W_w32 (B := B) (x1 := (⟨x1.registry.versions⟩ : Registry)) e3f (lt_ hBw (lt_ (lt_ (lt_ h2e h1a.size) h1b.size) s15.size)) h2g h37)) (.inr fun _ _ h => chgB (h.1)) ?_
    rintro _ w4n ⟨s1c, rfl⟩
    refine dRg z z z hc10 z (not_ z) (dRg z z z hc10 z (mv z) ?_)
    rcases bs (!r3e) with hc11 | hc11
    ·iterate 9 refine dRn z z z hc11 z ?_
     exact dEn z z z hc11 z (dRn z z z hc11 z (dRg z z z hc10 z (pT z hc11 z) (dR z z (pT z hc10 z) (PR_done (fun _ q => ⟨true, som (ifT hm2h hc11), (q.k (s5 z z z z z)), (bup s15 s1c)⟩)))))
    refine dRg z z z hc11 z (fd f_37_0 z) (dRg z z z hc11 z (fd f_34_0 z) (dRg z z z hc11 z (l1 g_32 z fid ((h2c.ext s1c).at z)) (dRg z z z hc11 z (fd f_76_2 z) ?_)))
    have h2i := h1t.ext s1c
    refine dRg z z z hc11 z (l1 g_3 z fid (h2i.at z)) ?_
    obtain ⟨x4o, e3g, hm3h⟩ := bdS (ifF hm2h hc11)
    refine dRXg z z z hc11 z (at_ (α := Desc) d_32 z_95 z z z (h2g.ext s1c) e3g) ?_
    rintro _ ⟨b4p, o4q, cs4r, rfl, h3i, h3j, h4s⟩
    obtain ⟨a3k, n3l, c3m, rfl, h3n⟩ := Desc_open h3j
    refine dRg z z z hc11 z (lN (vs := [sl a3k n3l c3m]) g_95 z_95 z z fid h3i) (dRg z z z hc11 z (fd f_76_3 z) (dRg z z z hc11 z (l1 g_25 z fid (h2i.at z)) ?_))
    have h2j := lt_ hBw h2d
    obtain ⟨r3o, e3p, hm3q⟩ := bdS hm3h
    refine dEg z z z hc11 z (fc call86 z (W_w38 (B := w1f.z) e3p (lt_ (lt_ (lt_ (lt_ s12.size h1a.size) h1b.size) s15.size) s1c.size) (((((((((hG.ext h13).ext s17).ext s19).ext s12).ext h1a).chg h1b (lg h2f)).ext s15).ext s1c).mono h2j) (repS.mono h3n h2j) ((((h38.ext h1a).chg h1b (lg (mem1le s12.size))).ext s15).ext s1c))) (.inr fun _ _ h => chgB (h.1)) ?_
    rintro _ w4t ⟨s3r, rfl⟩
    exact dRg z z z hc11 z (not_ z) (dRg z z z hc10 z (pF z hc11 z) (dR z z (pT z hc10 z) (PR_done (fun _ q => ⟨!r3o, som hm3q, (q.k (s5 z z z z z)), (bup (bup s15 s1c) s3r)⟩))))
   iterate 4 refine dRn z z z hc10 z ?_
   refine dEn z z z hc10 z (dRn z z z hc10 z (dRn z z z hc10 z ?_))
   iterate 9 refine dRu z z z z ?_
   exact dEu z z z z (dRu z z z z (dRn z z z hc10 z (dR z z (pF z hc10 z) (PR_done (fun _ q => ⟨false, som (ifF hu2a hc10), (q.k (s5 z z z z z)), s15⟩)))))
  rintro a3s w4u ⟨x1s, rfl, hS4v, s2k⟩
  revert a3s
  refine Wo (Wc z (fun hc1u => ?_) (fun hc1u => ?_))
  ·exact Ws (Ra z (Wn (Wr (rtO (QO_retL (som (ifT hm2b hc1u)).symm (ret1 hr z ⟨(bup (bM (bup (bup (bup (bup h13 s17) s19) s12) h1a) h1b (mem1le (lt_ (lt_ h1r s19.size) s12.size))) s2k), z⟩))))))
  exact Wk (Wg (R z (inc_ hk24 (lt_ (ownS.len h1m) LEN_le) z z) (Rm z (Wl (fun _ q => ⟨(), (som (ifF hm2b hc1u)).symm, ⟨(q.k (s4 z z z z)), (bup (bM (bup s12 h1a) h1b (mem1le s12.size)) s2k)⟩⟩)))))
 ·rintro _ a4w w4x ⟨hS3t, s3u⟩
  refine Wu ?_ hS3t
  refine Ws (R z (lss z z) (Wn (Wq (Wc z (fun hc => (noltt hc).elim) (fun _ => ?_)))))
  exact WC_exit (fun a' ha' => ⟨rfl, ⟨(Sat.weaken ha' sn), s3u⟩⟩)
 ·rintro _ a3v w4y rfl ⟨hS4z, s3w⟩
  have hm3x := elL hm23
  revert a3v
  refine Wo (Ws (Ra z (Wn ?_)))
  obtain rfl := som hm3x
  exact Wr (ret1 hr z ⟨(bup (bup (bup h13 s17) s19) s3w), z⟩)
 rintro r50 ex51 a52 w53 rfl ⟨rfl, hq3y⟩
 have hm3z := elR hm23
 obtain rfl := som hm3z
 exact ⟨hq3y, z⟩
theorem W_w3a {x1 : Archive} {res : (List StoredFile)} (hm : M_impl_ListFiles n x1 = some res) (hBw : B ≤ w0.z) (p1_0 : repS w0 B (sl A0 N0 C0) x1.registry.versions) (p1_1 : repS w0 B (sl A3 N3 C3) x1.log.bytes) (p1_2 : inI x1.log.stored) : CallsR prog 71 [(.agg #[sl A0 N0 C0, sl A3 N3 C3, vI x1.log.stored])] w0 (Q15 w0 B res) := by
 unfold M_impl_ListFiles at hm
 refine goF func71 z z (lb z) fun fn hr => Ws (E z (fb z) ?_)
 rintro _ w15 ⟨rfl, h16⟩
 have h11 := h16.below
 have h12 : Blk w15 w0.z [sl A0 N0 C0, sl A3 N3 C3, vI x1.log.stored] := h16.blk
 refine Ra z (Wn (Wq (Ws (R z (fd f_37_1 z) (R z (lN (vs := [sl A3 N3 C3, vI x1.log.stored]) g_35 z_35 z z fid (h12.row 1 2 z)) ?_)))))
 have h17 := p1_1.ext h11
 have h13 := lt_ hBw h11.size
 obtain ⟨r1m, e19, hm18⟩ := bdS hm
 refine E z (fc call83 z (W_w16 (B := B) (x1 := (⟨x1.log.bytes, x1.log.stored⟩ : Log)) e19 h13 h17 p1_2)) ?_
 rintro _ w1n ⟨s10, rfl⟩
 refine R z (not_ z) (Wn (Wc z (fun hc14 => ?_) (fun hc14 => ?_)))
 ·refine Ws (E z (ef_lit0 (α := StoredFile) el_59) ?_)
  rintro _ w1o ⟨a1a, n1b, c1c, rfl, s1d, h1e⟩
  refine Ra z (Wn ?_)
  obtain rfl := som (ifT hm18 hc14)
  exact Wr (ret1 hr z ⟨(bup (bup h11 s10) s1d), a1a, n1b, c1c, z, (ownS.rep h1e)⟩)
 refine Wk (Ws ?_)
 obtain ⟨r1p, e1f, hm1g⟩ := bdS (ifF hm18 hc14)
 refine E z (fc call51 z (W_w18 (B := w15.z) e1f s10.size (repS.mono ((p1_0.ext h11).ext s10) h13) (repS.mono (h17.ext s10) h13) p1_2 ((h12.ext s10).row 0 3 z) h12.lt)) ?_
 rintro _ w1q ⟨s1h, a1i, n1j, c1k, rfl, h1l⟩
 refine Ra z (Wn ?_)
 obtain rfl := som hm1g
 exact Wr (ret1 hr z ⟨(bup (bup h11 s10) s1h), a1i, n1j, c1k, z, h1l⟩)
theorem W_w3b {x1 : Archive} {res : (List StoredFile)} (hm : M_impl_filesOf n x1 = some res) (hBw : B ≤ w0.z) (hG : Gl w0 B) (p1_0 : repS w0 B (sl A0 N0 C0) x1.registry.versions) (p1_1 : repS w0 B (sl A3 N3 C3) x1.log.bytes) (p1_2 : inI x1.log.stored) : CallsR prog 38 [(.agg #[sl A0 N0 C0, sl A3 N3 C3, vI x1.log.stored])] w0 (Q15 w0 B res) := by
 unfold M_impl_filesOf at hm
 refine goF func38 z z (lb z) fun fn hr => Ws (E z (fb z) ?_)
 rintro _ w18 ⟨rfl, h13⟩
 have h10 := h13.below
 have h14 : Blk w18 w0.z [sl A0 N0 C0, sl A3 N3 C3, vI x1.log.stored] := h13.blk
 refine Ra z (Wn (Wq (Ws (R z (lN (vs := [sl A0 N0 C0, sl A3 N3 C3, vI x1.log.stored]) g_37 z_37 z z fid (h14.row 0 3 z)) ?_))))
 have h15 := p1_0.ext h10
 have h16 := p1_1.ext h10
 obtain ⟨r1m, e19, hm17⟩ := bdS hm
 refine E z (fc call50 z (W_w39 (B := B) e19 (lt_ hBw h10.size) (hG.ext h10) h15 h16 p1_2)) ?_
 rintro _ w1n ⟨s11, rfl⟩
 refine R z (not_ z) (Wn (Wc z (fun hc12 => ?_) (fun hc12 => ?_)))
 ·refine Ws (E z (ef_lit0 (α := StoredFile) el_59) ?_)
  rintro _ w1o ⟨a1a, n1b, c1c, rfl, s1d, h1e⟩
  refine Ra z (Wn ?_)
  obtain rfl := som (ifT hm17 hc12)
  exact Wr (ret1 hr z ⟨(bup (bup h10 s11) s1d), a1a, n1b, c1c, z, (ownS.rep h1e)⟩)
 refine Wk (Ws (R z (lN (vs := [sl A0 N0 C0, sl A3 N3 C3, vI x1.log.stored]) g_37 z_37 z z fid ((h14.ext s11).row 0 3 z)) ?_))
 obtain ⟨r1p, e1f, hm1g⟩ := bdS (ifF hm17 hc12)
 refine E z (fc call71 z (W_w3a (B := B) e1f (lt_ hBw (lt_ h10.size s11.size)) (h15.ext s11) (h16.ext s11) p1_2)) ?_
 rintro _ w1q ⟨s1h, a1i, n1j, c1k, rfl, h1l⟩
 refine Ra z (Wn ?_)
 obtain rfl := som hm1g
 exact Wr (ret1 hr z ⟨(bup (bup h10 s11) s1h), a1i, n1j, c1k, z, h1l⟩)
theorem W_w3c {x1 : Archive} {res : Str} (hm : M_impl_LargestFile n x1 = some res) (hBw : B ≤ w0.z) (hG : Gl w0 B) (p1_0 : repS w0 B (sl A0 N0 C0) x1.registry.versions) (p1_1 : repS w0 B (sl A3 N3 C3) x1.log.bytes) (p1_2 : inI x1.log.stored) : CallsR prog 12 [(.agg #[sl A0 N0 C0, sl A3 N3 C3, vI x1.log.stored])] w0 (Q19 w0 B res) := by
 unfold M_impl_LargestFile at hm
 refine goF func12 z z (lb z) fun fn hr => Ws (E z (fb z) ?_)
 rintro _ w1y ⟨rfl, h1j⟩
 have h13 := h1j.below
 have h1z : Blk w1y w0.z [sl A0 N0 C0, sl A3 N3 C3, vI x1.log.stored] := h1j.blk
 refine Ra z (Wn (Ws (Ra z (Ra z (Wn (Wq (Ws (R z (lN (vs := [sl A0 N0 C0, sl A3 N3 C3, vI x1.log.stored]) g_37 z_37 z z fid (h1z.row 0 3 z)) ?_))))))))
 obtain ⟨r14, e20, hm21⟩ := bdS hm
 refine E z (fc call38 z (W_w3b (B := B) e20 (lt_ hBw h13.size) (hG.ext h13) (p1_0.ext h13) (p1_1.ext h13) p1_2)) ?_
 rintro _ w15 ⟨s22, a19, n1a, c1b, rfl, h1e⟩
 refine R z (lnR d_59 z h1e) (Rm z (Wn ?_))
 obtain ⟨u2w, hu23, hm1k⟩ := bdS hm21
 refine WC_forN (σ := Str × Int) (ρ := Str) (fun (k1c : Nat) s a w => un2 (fun x10 x11 => Sat 26 [(3, Str.v x10), (4, vI x11), (8, sl a19 n1a c1b), (9, vI (r14.length : Int)), (10, (vI ((k1c : Nat) : Int)))] a ∧ Below w15.z w15 w ∧ x10.b.length ≤ LEN ∧ inI x11) s) (fun s a w => un2 (fun x10 x11 => Sat 26 [(3, Str.v x10)] a ∧ Below w15.z w15 w ∧ x10.b.length ≤ LEN ∧ inI x11) s) (fun r ex a w => ex = .ret ∧ RetPost prog fn (Q19 w0 B r) a w) hu23 ?_ ?_ ?_ ?_ ?_
 ·exact fun _ q => ⟨(q.k (s5 z z z z z)), (br w15), (lb z), (ii z)⟩
 ·rintro k1c ⟨x10, x11⟩ a2x w24 o2y hk1l ⟨hS25, s1f, h16, h1d⟩ hm26
  have hm27 := un2S hm26
  refine Wu ?_ hS25
  refine Ws (R z (lss z z) (Wn (Wq (Wc z (fun _ => ?_) (fun hc => (nolt hk1l hc).elim)))))
  refine Wk (Wq (WC_block (Ws ?_)))
  obtain ⟨x12, e28, hm29⟩ := bdS hm27
  refine RX z (at_ (α := StoredFile) d_59 z_63 z z z (h1e.ext s1f) e28) ?_
  rintro _ ⟨b2z, o30, cs31, rfl, h2a, h2b, h32⟩
  obtain ⟨a1m, n1n, c1o, rfl, h2c, h33, h2d⟩ := StoredFile_open h2b
  refine R z (lN (vs := [Str.v x12.name, vI x12.version, sl a1m n1n c1o]) g_63 z_63 z z fid h2a) (E z (fa zero_63) ?_)
  rintro _ w2e ⟨rfl, h1p⟩
  have h1q := h1p.below
  have h2f : Blk w2e w24.z [(Str.v (⟨[]⟩ : Str)), vI 0, sl none 0 0] := h1p.blk
  refine E0 (fs (cur' := [Str.v x12.name, vI x12.version, sl a1m n1n c1o]) z_63 z z h2f z (lb z) (oA z) z) ?_
  rintro _ w1g ⟨h1r, s2g⟩
  have h1s := s2g.one
  refine Wn (Ws (R z (fd f_63_2 z) (R z (l1 g_25 z fid (h1r.at z)) ?_)))
  have h1t := mem1le s1f.size
  have h1u := (h2d.ext h1q).chg h1s (lg h1t)
  refine R z (lnR d_25 z h1u) (Rm z (R z (rd_gtr z z) (Wn ?_)))
  obtain ⟨u2h, hu1v, hm2i⟩ := bdS hm29
  refine WC_cut (fun a w => ∃ (x17 : Str) (x18 : Int), (x17, x18) = u2h ∧ Sat 26 [(3, Str.v x17), (4, vI x18), (8, sl a19 n1a c1b), (9, vI (r14.length : Int)), (10, (vI ((k1c : Nat) : Int)))] a ∧ Below w1g.z w1g w ∧ x17.b.length ≤ LEN ∧ inI x18) ?_ ?_
  ·refine Wc z (fun hc1h => ?_) (fun hc1h => ?_)
   ·refine WC_draw (X := noX) 0 (.rd 0 (.rd 1 (.rd 2 (.rd 3 (.rd 4 (.rd 5 (.rd 6 .done))))))) mo (by kernel_rfl) fun w34 s1i _ => dR z z (fd f_63_0 z) ?_
    have h1w := h1r.ext s1i
    refine dR z z (l1 g_9 z fid (h1w.at z)) (dR z z (fd f_63_2 z) (dR z z (l1 g_25 z fid (h1w.at z)) ?_))
    have h1x := h1u.ext s1i
    exact dR z z (lnR d_25 z h1x) (dR z z (asg z) (dR z z (asg z) (PR_done (fun _ q => ⟨x12.name, (x12.data.length : Int), som (ifT hu1v hc1h), (q.k (s5 z z z z z)), s1i, h2c, (inI_len (repS.len h1x))⟩))))
   exact WC_skip (fun _ q => ⟨x10, x11, som (ifF hu1v hc1h), (q.k (s5 z z z z z)), (br w1g), h16, h1d⟩)
  rintro a2j w35 ⟨x17, x18, rfl, hS36, s2k, h2l, h2m⟩
  have hm2n := un2S hm2i
  revert a2j
  exact Wo (Wg (R z (inc_ hk1l (lt_ (repS.len h1e) LEN_le) z z) (Rm z (Wl (fun _ q => ⟨(x17, x18), (som hm2n).symm, ⟨(q.k (s5 z z z z z)), (bup (bM (bup s1f h1q) h1s h1t) s2k), h2l, h2m⟩⟩)))))
 ·rintro ⟨x10, x11⟩ a37 w38 ⟨hS2o, s2p, h16, h1d⟩
  refine Wu ?_ hS2o
  refine Ws (R z (lss z z) (Wn (Wq (Wc z (fun hc => (noltt hc).elim) (fun _ => ?_)))))
  exact WC_exit (fun a' ha' => ⟨rfl, ⟨(Sat.weaken ha' (s1 z)), s2p, h16, h1d⟩⟩)
 ·rintro ⟨x10, x11⟩ a2q w39 rfl ⟨hS3a, s2r, h16, h1d⟩
  have hm2s := elL hm1k
  have hm2t := un2S hm2s
  revert a2q
  refine Wo (Ws (Rm z (Ra z (Wn ?_))))
  obtain rfl := som hm2t
  exact Wr (ret1 hr z ⟨(bup (bup h13 s22) s2r), z, h16⟩)
 rintro r3b ex3c a3d w3e rfl ⟨rfl, hq2u⟩
 have hm2v := elR hm1k
 obtain rfl := som hm2v
 exact ⟨hq2u, z⟩
theorem W_w1g {x1 : List UInt8} {x2 : List UInt8} {res : Bool} (hm : M_laws_eqByteS x1 x2 = some res) (hBw : B ≤ w0.z) (p1_0 : repS w0 B (sl A0 N0 C0) x1) (p2_0 : repS w0 B (sl A6 N6 C6) x2) : CallsR prog 26 [sl A0 N0 C0, sl A6 N6 C6] w0 (Q11 w0 B res) := by
 unfold M_laws_eqByteS at hm
 refine goF func26 z z (lb z) fun fn hr => Ws (Ra z (Wn (Wq (Ws (Rm z (R z (lnR d_25 z p1_0) (Rm z (R z (lnR d_25 z p2_0) (R z (nq z z) (Wn (Wc z (fun hc12 => ?_) (fun hc12 => ?_))))))))))))
 ·refine Ws (Ra z (Wn ?_))
  obtain rfl := som (ifT hm hc12)
  exact Wr (ret1 hr z ⟨(br w0), z⟩)
 refine Wk (Wq (Ws (Ra z (Wn ?_))))
 obtain ⟨u1q, hu1a, hm15⟩ := bdS (ifF hm hc12)
 refine WC_forN (σ := Unit) (ρ := Bool) (fun (k13 : Nat) (_ : Unit) a w => Sat 26 [(0, sl A0 N0 C0), (1, sl A6 N6 C6), (5, (vI ((k13 : Nat) : Int)))] a ∧ Below w0.z w0 w) (fun (_ : Unit) a w => Sat 26 [] a ∧ Below w0.z w0 w) (fun r ex a w => ex = .ret ∧ RetPost prog fn (Q11 w0 B r) a w) hu1a ?_ ?_ ?_ ?_ ?_
 ·exact fun _ q => ⟨(q.k (s3 z z z)), (br w0)⟩
 ·rintro k13 _ a1r w1s o1t hk16 ⟨hS1b, s10⟩ hm1c
  refine Wu ?_ hS1b
  refine Wq (Ws (Rm z (Rm z ?_)))
  have h17 := p1_0.ext s10
  refine R z (lnR d_25 z h17) (R z (lss z z) (Wn (Wc z (fun _ => ?_) (fun hc => (nolt hk16 hc).elim))))
  refine Wk (Wq (WC_block (Wq (WC_draw (X := noX) 0 (.rd 0 (.rd 1 (.rd 2 (.rd 3 (.rd 4 (.rd 5 (.rd 6 (.rd 7 (.rd 8 .done))))))))) mo (by kernel_rfl) fun w1u s11 _ => dR z z (mv z) (dR z z (mv z) ?_)))))
  obtain ⟨x1v, e1d, hm1e⟩ := bdS hm1c
  refine dRX z z (at_ (α := UInt8) d_25 z_5 z z z (h17.ext s11) e1d) ?_
  rintro _ ⟨b1w, o1x, cs1y, rfl, h1f, h1g, h1z⟩
  obtain rfl := UInt8_open h1g
  refine dR z z (l1 g_5 z fid (h1f.at0 z)) (dR z z (mv z) (dR z z (mv z) ?_))
  obtain ⟨x20, e1h, hm18⟩ := bdS hm1e
  refine dRX z z (at_ (α := UInt8) d_25 z_5 z z z ((p2_0.ext s10).ext s11) e1h) ?_
  rintro _ ⟨b21, o22, cs23, rfl, h1i, h1j, h24⟩
  obtain rfl := UInt8_open h1j
  refine dR z z (l1 g_5 z fid (h1i.at0 z)) (dR z z (nq z z) (PR_done (Wo (Wc z (fun hc14 => ?_) (fun hc14 => ?_)))))
  ·exact Ws (Ra z (Wn (Wr (rtO (QO_retL (som (ifT hm18 hc14)).symm (ret1 hr z ⟨(bup s10 s11), z⟩))))))
  exact Wk (Wg (Rm z (R z (inc_ hk16 (lt_ (repS.len p1_0) LEN_le) z z) (Ra z (Wl (fun _ q => ⟨(), (som (ifF hm18 hc14)).symm, ⟨(q.k (s3 z z z)), (bup s10 s11)⟩⟩))))))
 ·rintro _ a25 w26 ⟨hS1k, s19⟩
  refine Wu ?_ hS1k
  refine Wq (Ws (Rm z (Rm z (R z (lnR d_25 z (p1_0.ext s19)) (R z (lss z z) (Wn (Wc z (fun hc => (noltt hc).elim) (fun _ => ?_))))))))
  exact WC_exit (fun a' ha' => ⟨rfl, ⟨(Sat.weaken ha' sn), s19⟩⟩)
 ·rintro _ a1l w27 rfl ⟨hS28, s1m⟩
  have hm1n := elL hm15
  revert a1l
  refine Wo (Ws (Ra z (Wn ?_)))
  obtain rfl := som hm1n
  exact Wr (ret1 hr z ⟨s1m, z⟩)
 rintro r29 ex2a a2b w2c rfl ⟨rfl, hq1o⟩
 have hm1p := elR hm15
 obtain rfl := som hm1p
 exact ⟨hq1o, z⟩
theorem W_w3d {x1 : List Str} {x2 : List Str} {res : Bool} (hm : M_laws_eqStringS x1 x2 = some res) (hBw : B ≤ w0.z) (p1_0 : repS w0 B (sl A0 N0 C0) x1) (p2_0 : repS w0 B (sl A6 N6 C6) x2) : CallsR prog 16 [sl A0 N0 C0, sl A6 N6 C6] w0 (Q11 w0 B res) := by
 unfold M_laws_eqStringS at hm
 refine goF func16 z z (lb z) fun fn hr => Ws (Ra z (Wn (Wq (Ws (Rm z (R z (lnR d_41 z p1_0) (Rm z (R z (lnR d_41 z p2_0) (R z (nq z z) (Wn (Wc z (fun hc12 => ?_) (fun hc12 => ?_))))))))))))
 ·refine Ws (Ra z (Wn ?_))
  obtain rfl := som (ifT hm hc12)
  exact Wr (ret1 hr z ⟨(br w0), z⟩)
 refine Wk (Wq (Ws (Ra z (Wn ?_))))
 obtain ⟨u1q, hu1a, hm15⟩ := bdS (ifF hm hc12)
 refine WC_forN (σ := Unit) (ρ := Bool) (fun (k13 : Nat) (_ : Unit) a w => Sat 26 [(0, sl A0 N0 C0), (1, sl A6 N6 C6), (5, (vI ((k13 : Nat) : Int)))] a ∧ Below w0.z w0 w) (fun (_ : Unit) a w => Sat 26 [] a ∧ Below w0.z w0 w) (fun r ex a w => ex = .ret ∧ RetPost prog fn (Q11 w0 B r) a w) hu1a ?_ ?_ ?_ ?_ ?_
 ·exact fun _ q => ⟨(q.k (s3 z z z)), (br w0)⟩
 ·rintro k13 _ a1r w1s o1t hk16 ⟨hS1b, s10⟩ hm1c
  refine Wu ?_ hS1b
  refine Wq (Ws (Rm z (Rm z ?_)))
  have h17 := p1_0.ext s10
  refine R z (lnR d_41 z h17) (R z (lss z z) (Wn (Wc z (fun _ => ?_) (fun hc => (nolt hk16 hc).elim))))
  refine Wk (Wq (WC_block (Wq (WC_draw (X := noX) 0 (.rd 0 (.rd 1 (.rd 2 (.rd 3 (.rd 4 (.rd 5 (.rd 6 (.rd 7 (.rd 8 .done))))))))) mo (by kernel_rfl) fun w1u s11 _ => dR z z (mv z) (dR z z (mv z) ?_)))))
  obtain ⟨x1v, e1d, hm1e⟩ := bdS hm1c
  refine dRX z z (at_ (α := Str) d_41 z_9 z z z (h17.ext s11) e1d) ?_
  rintro _ ⟨b1w, o1x, cs1y, rfl, h1f, h1g, h1z⟩
  obtain ⟨rfl, h20⟩ := Str_open h1g
  refine dR z z (l1 g_9 z fid (h1f.at0 z)) (dR z z (mv z) (dR z z (mv z) ?_))
  obtain ⟨x21, e1h, hm18⟩ := bdS hm1e
  refine dRX z z (at_ (α := Str) d_41 z_9 z z z ((p2_0.ext s10).ext s11) e1h) ?_
  rintro _ ⟨b22, o23, cs24, rfl, h1i, h1j, h25⟩
  obtain ⟨rfl, h26⟩ := Str_open h1j
  refine dR z z (l1 g_9 z fid (h1i.at0 z)) (dR z z (rd_neqT z z) (PR_done (Wo (Wc z (fun hc14 => ?_) (fun hc14 => ?_)))))
  ·exact Ws (Ra z (Wn (Wr (rtO (QO_retL (som (ifT hm18 hc14)).symm (ret1 hr z ⟨(bup s10 s11), z⟩))))))
  exact Wk (Wg (Rm z (R z (inc_ hk16 (lt_ (repS.len p1_0) LEN_le) z z) (Ra z (Wl (fun _ q => ⟨(), (som (ifF hm18 hc14)).symm, ⟨(q.k (s3 z z z)), (bup s10 s11)⟩⟩))))))
 ·rintro _ a27 w28 ⟨hS1k, s19⟩
  refine Wu ?_ hS1k
  refine Wq (Ws (Rm z (Rm z (R z (lnR d_41 z (p1_0.ext s19)) (R z (lss z z) (Wn (Wc z (fun hc => (noltt hc).elim) (fun _ => ?_))))))))
  exact WC_exit (fun a' ha' => ⟨rfl, ⟨(Sat.weaken ha' sn), s19⟩⟩)
 ·rintro _ a1l w29 rfl ⟨hS2a, s1m⟩
  have hm1n := elL hm15
  revert a1l
  refine Wo (Ws (Ra z (Wn ?_)))
  obtain rfl := som hm1n
  exact Wr (ret1 hr z ⟨s1m, z⟩)
 rintro r2b ex2c a2d w2e rfl ⟨rfl, hq1o⟩
 have hm1p := elR hm15
 obtain rfl := som hm1p
 exact ⟨hq1o, z⟩
theorem W_w1h {x1 : List Int} {x2 : List Int} {res : Bool} (hm : M_laws_eqIntS x1 x2 = some res) (hBw : B ≤ w0.z) (p1_0 : repS w0 B (sl A0 N0 C0) x1) (p2_0 : repS w0 B (sl A6 N6 C6) x2) : CallsR prog 176 [sl A0 N0 C0, sl A6 N6 C6] w0 (Q11 w0 B res) := by
 unfold M_laws_eqIntS at hm
 refine goF func176 z z (lb z) fun fn hr => Ws (Ra z (Wn (Wq (Ws (Rm z (R z (lnR d_142 z p1_0) (Rm z (R z (lnR d_142 z p2_0) (R z (nq z z) (Wn (Wc z (fun hc12 => ?_) (fun hc12 => ?_))))))))))))
 ·refine Ws (Ra z (Wn ?_))
  obtain rfl := som (ifT hm hc12)
  exact Wr (ret1 hr z ⟨(br w0), z⟩)
 refine Wk (Wq (Ws (Ra z (Wn ?_))))
 obtain ⟨u1q, hu1a, hm15⟩ := bdS (ifF hm hc12)
 refine WC_forN (σ := Unit) (ρ := Bool) (fun (k13 : Nat) (_ : Unit) a w => Sat 26 [(0, sl A0 N0 C0), (1, sl A6 N6 C6), (5, (vI ((k13 : Nat) : Int)))] a ∧ Below w0.z w0 w) (fun (_ : Unit) a w => Sat 26 [] a ∧ Below w0.z w0 w) (fun r ex a w => ex = .ret ∧ RetPost prog fn (Q11 w0 B r) a w) hu1a ?_ ?_ ?_ ?_ ?_
 ·exact fun _ q => ⟨(q.k (s3 z z z)), (br w0)⟩
 ·rintro k13 _ a1r w1s o1t hk16 ⟨hS1b, s10⟩ hm1c
  refine Wu ?_ hS1b
  refine Wq (Ws (Rm z (Rm z ?_)))
  have h17 := p1_0.ext s10
  refine R z (lnR d_142 z h17) (R z (lss z z) (Wn (Wc z (fun _ => ?_) (fun hc => (nolt hk16 hc).elim))))
  refine Wk (Wq (WC_block (Wq (WC_draw (X := noX) 0 (.rd 0 (.rd 1 (.rd 2 (.rd 3 (.rd 4 (.rd 5 (.rd 6 (.rd 7 (.rd 8 .done))))))))) mo (by kernel_rfl) fun w1u s11 _ => dR z z (mv z) (dR z z (mv z) ?_)))))
  obtain ⟨x1v, e1d, hm1e⟩ := bdS hm1c
  refine dRX z z (at_ (α := Int) d_142 z_3 z z z (h17.ext s11) e1d) ?_
  rintro _ ⟨b1w, o1x, cs1y, rfl, h1f, h1g, h1z⟩
  obtain ⟨rfl, h20⟩ := Int_open h1g
  refine dR z z (l1 g_3 z fid (h1f.at0 z)) (dR z z (mv z) (dR z z (mv z) ?_))
  obtain ⟨x21, e1h, hm18⟩ := bdS hm1e
  refine dRX z z (at_ (α := Int) d_142 z_3 z z z ((p2_0.ext s10).ext s11) e1h) ?_
  rintro _ ⟨b22, o23, cs24, rfl, h1i, h1j, h25⟩
  obtain ⟨rfl, h26⟩ := Int_open h1j
  refine dR z z (l1 g_3 z fid (h1i.at0 z)) (dR z z (nq z z) (PR_done (Wo (Wc z (fun hc14 => ?_) (fun hc14 => ?_)))))
  ·exact Ws (Ra z (Wn (Wr (rtO (QO_retL (som (ifT hm18 hc14)).symm (ret1 hr z ⟨(bup s10 s11), z⟩))))))
  exact Wk (Wg (Rm z (R z (inc_ hk16 (lt_ (repS.len p1_0) LEN_le) z z) (Ra z (Wl (fun _ q => ⟨(), (som (ifF hm18 hc14)).symm, ⟨(q.k (s3 z z z)), (bup s10 s11)⟩⟩))))))
 ·rintro _ a27 w28 ⟨hS1k, s19⟩
  refine Wu ?_ hS1k
  refine Wq (Ws (Rm z (Rm z (R z (lnR d_142 z (p1_0.ext s19)) (R z (lss z z) (Wn (Wc z (fun hc => (noltt hc).elim) (fun _ => ?_))))))))
  exact WC_exit (fun a' ha' => ⟨rfl, ⟨(Sat.weaken ha' sn), s19⟩⟩)
 ·rintro _ a1l w29 rfl ⟨hS2a, s1m⟩
  have hm1n := elL hm15
  revert a1l
  refine Wo (Ws (Ra z (Wn ?_)))
  obtain rfl := som hm1n
  exact Wr (ret1 hr z ⟨s1m, z⟩)
 rintro r2b ex2c a2d w2e rfl ⟨rfl, hq1o⟩
 have hm1p := elR hm15
 obtain rfl := som hm1p
 exact ⟨hq1o, z⟩
theorem W_w3e {x1 : Rule} {x2 : Rule} {res : Bool} (hm : M_laws_eqRule x1 x2 = some res) (hBw : B ≤ w0.z) (p1_0 : x1.name.b.length ≤ LEN) (p1_1 : inI x1.kind) (p1_2 : inI x1.size) (p1_4 : repS w0 B (sl A9 N9 C9) x1.bytes) (p1_5 : repS w0 B (sl A8 N8 C8) x1.names) (p1_6 : repS w0 B (sl AA NA CA) x1.tags) (p1_7 : repS w0 B (sl AB NB CB) x1.kids) (p2_0 : x2.name.b.length ≤ LEN) (p2_1 : inI x2.kind) (p2_2 : inI x2.size) (p2_4 : repS w0 B (sl A2 N2 C2) x2.bytes) (p2_5 : repS w0 B (sl A4 N4 C4) x2.names) (p2_6 : repS w0 B (sl A1 N1 C1) x2.tags) (p2_7 : repS w0 B (sl A5 N5 C5) x2.kids) : CallsR prog 149 [(.agg #[Str.v x1.name, vI x1.kind, vI x1.size, vB x1.little, sl A9 N9 C9, sl A8 N8 C8, sl AA NA CA, sl AB NB CB]), (.agg #[Str.v x2.name, vI x2.kind, vI x2.size, vB x2.little, sl A2 N2 C2, sl A4 N4 C4, sl A1 N1 C1, sl A5 N5 C5])] w0 (Q11 w0 B res) := by
 unfold M_laws_eqRule at hm
 refine goF func149 z z (lb z) fun fn hr => Ws (E z (fb z) ?_)
 rintro _ w1f ⟨rfl, h1g⟩
 have h11 := h1g.below
 have h1x : Blk w1f w0.z (vR x1 A9 N9 C9 A8 N8 C8 AA NA CA AB NB CB) := h1g.blk
 refine E z (fb z) ?_
 rintro _ w1y ⟨rfl, h1h⟩
 have h10 := h1h.below
 have h15 : Blk w1y w1f.z (vR x2 A2 N2 C2 A4 N4 C4 A1 N1 C1 A5 N5 C5) := h1h.blk
 refine Ra z (Wn (Wq (Ws (R z (fd f_144_0 z) ?_))))
 have h16 := h1x.ext h10
 refine R z (l1 g_9 z fid (h16.at z)) (R z (fd f_144_0 z) (R z (l1 g_9 z fid (h15.at z)) (R z (rd_neqT z z) (Wn (Wc z (fun hc17 => ?_) (fun hc17 => ?_))))))
 ·refine Ws (Ra z (Wn ?_))
  obtain rfl := som (ifT hm hc17)
  exact Wr (ret1 hr z ⟨(bup h11 h10), z⟩)
 have hm1i := ifF hm hc17
 refine Wk (Wq (Ws (R z (fd f_144_1 z) (R z (l1 g_3 z fid (h16.at z)) (R z (fd f_144_1 z) (R z (l1 g_3 z fid (h15.at z)) (R z (nq z z) (Wn (Wc z (fun hc18 => ?_) (fun hc18 => ?_))))))))))
 ·refine Ws (Ra z (Wn ?_))
  obtain rfl := som (ifT hm1i hc18)
  exact Wr (ret1 hr z ⟨(bup h11 h10), z⟩)
 have hm1j := ifF hm1i hc18
 refine Wk (Wq (Ws (R z (fd f_144_2 z) (R z (l1 g_3 z fid (h16.at z)) (R z (fd f_144_2 z) (R z (l1 g_3 z fid (h15.at z)) (R z (nq z z) (Wn (Wc z (fun hc19 => ?_) (fun hc19 => ?_))))))))))
 ·refine Ws (Ra z (Wn ?_))
  obtain rfl := som (ifT hm1j hc19)
  exact Wr (ret1 hr z ⟨(bup h11 h10), z⟩)
 have hm1k := ifF hm1j hc19
 refine Wk (Wq (Ws (R z (fd f_144_3 z) (R z (l1 g_4 z fid (h16.at z)) (R z (fd f_144_3 z) (R z (l1 g_4 z fid (h15.at z)) (R z (rd_neqB d_4 z z) (Wn (Wc z (fun hc1a => ?_) (fun hc1a => ?_))))))))))
 ·refine Ws (Ra z (Wn ?_))
  obtain rfl := som (ifT hm1k hc1a)
  exact Wr (ret1 hr z ⟨(bup h11 h10), z⟩)
 refine Wk (Wq (Ws (R z (fd f_144_4 z) (R z (l1 g_25 z fid (h16.at z)) (R z (fd f_144_4 z) (R z (l1 g_25 z fid (h15.at z)) ?_))))))
 have h1l := lt_ h11.size h10.size
 obtain ⟨r23, e1z, hm1m⟩ := bdS (ifF hm1k hc1a)
 refine E z (fc call26 z (W_w1g (B := B) e1z (lt_ hBw h1l) ((p1_4.ext h11).ext h10) ((p2_4.ext h11).ext h10))) ?_
 rintro _ w24 ⟨s12, rfl⟩
 refine R z (not_ z) (Wn (Wc z (fun hc1b => ?_) (fun hc1b => ?_)))
 ·refine Ws (Ra z (Wn ?_))
  obtain rfl := som (ifT hm1m hc1b)
  exact Wr (ret1 hr z ⟨(bup (bup h11 h10) s12), z⟩)
 refine Wk (Wq (Ws (R z (fd f_144_5 z) ?_)))
 have h1n := h16.ext s12
 refine R z (l1 g_41 z fid (h1n.at z)) (R z (fd f_144_5 z) ?_)
 have h1o := h15.ext s12
 refine R z (l1 g_41 z fid (h1o.at z)) ?_
 have h1p := lt_ h1l s12.size
 obtain ⟨r25, e20, hm1q⟩ := bdS (ifF hm1m hc1b)
 refine E z (fc call16 z (W_w3d (B := B) e20 (lt_ hBw h1p) (((p1_5.ext h11).ext h10).ext s12) (((p2_5.ext h11).ext h10).ext s12))) ?_
 rintro _ w26 ⟨s13, rfl⟩
 refine R z (not_ z) (Wn (Wc z (fun hc1c => ?_) (fun hc1c => ?_)))
 ·refine Ws (Ra z (Wn ?_))
  obtain rfl := som (ifT hm1q hc1c)
  exact Wr (ret1 hr z ⟨(bup (bup (bup h11 h10) s12) s13), z⟩)
 refine Wk (Wq (Ws (R z (fd f_144_6 z) ?_)))
 have h1r := h1n.ext s13
 refine R z (l1 g_142 z fid (h1r.at z)) (R z (fd f_144_6 z) ?_)
 have h1s := h1o.ext s13
 refine R z (l1 g_142 z fid (h1s.at z)) ?_
 have h1t := lt_ h1p s13.size
 obtain ⟨r27, e21, hm1u⟩ := bdS (ifF hm1q hc1c)
 refine E z (fc call176 z (W_w1h (B := B) e21 (lt_ hBw h1t) ((((p1_6.ext h11).ext h10).ext s12).ext s13) ((((p2_6.ext h11).ext h10).ext s12).ext s13))) ?_
 rintro _ w28 ⟨s14, rfl⟩
 refine R z (not_ z) (Wn (Wc z (fun hc1d => ?_) (fun hc1d => ?_)))
 ·refine Ws (Ra z (Wn ?_))
  obtain rfl := som (ifT hm1u hc1d)
  exact Wr (ret1 hr z ⟨(bup (bup (bup (bup h11 h10) s12) s13) s14), z⟩)
 refine Wk (Wq (Ws (R z (fd f_144_7 z) (R z (l1 g_142 z fid ((h1r.ext s14).at z)) (R z (fd f_144_7 z) (R z (l1 g_142 z fid ((h1s.ext s14).at z)) ?_))))))
 obtain ⟨r29, e22, hm1v⟩ := bdS (ifF hm1u hc1d)
 refine E z (fc call176 z (W_w1h (B := B) e22 (lt_ hBw (lt_ h1t s14.size)) (((((p1_7.ext h11).ext h10).ext s12).ext s13).ext s14) (((((p2_7.ext h11).ext h10).ext s12).ext s13).ext s14))) ?_
 rintro _ w2a ⟨s1w, rfl⟩
 refine R z (not_ z) (Wn (Wc z (fun hc1e => ?_) (fun hc1e => ?_)))
 ·refine Ws (Ra z (Wn ?_))
  obtain rfl := som (ifT hm1v hc1e)
  exact Wr (ret1 hr z ⟨(bup (bup (bup (bup (bup h11 h10) s12) s13) s14) s1w), z⟩)
 refine Wk (Ws (Ra z (Wn ?_)))
 obtain rfl := som (ifF hm1v hc1e)
 exact Wr (ret1 hr z ⟨(bup (bup (bup (bup (bup h11 h10) s12) s13) s14) s1w), z⟩)
theorem W_w3f {x1 : List Rule} {x2 : List Rule} {res : Bool} (hm : M_laws_eqRuleS x1 x2 = some res) (hBw : B ≤ w0.z) (p1_0 : repS w0 B (sl A0 N0 C0) x1) (p2_0 : repS w0 B (sl A6 N6 C6) x2) : CallsR prog 131 [sl A0 N0 C0, sl A6 N6 C6] w0 (Q11 w0 B res) := by
 unfold M_laws_eqRuleS at hm
 refine goF func131 z z (lb z) fun fn hr => Ws (Ra z (Wn (Wq (Ws (Rm z (R z (lnR d_93 z p1_0) (Rm z (R z (lnR d_93 z p2_0) (R z (nq z z) (Wn (Wc z (fun hc14 => ?_) (fun hc14 => ?_))))))))))))
 ·refine Ws (Ra z (Wn ?_))
  obtain rfl := som (ifT hm hc14)
  exact Wr (ret1 hr z ⟨(br w0), z⟩)
 refine Wk (Wq (Ws (Ra z (Wn ?_))))
 obtain ⟨u2x, hu1d, hm17⟩ := bdS (ifF hm hc14)
 refine WC_forN (σ := Unit) (ρ := Bool) (fun (k15 : Nat) (_ : Unit) a w => Sat 27 [(0, sl A0 N0 C0), (1, sl A6 N6 C6), (5, (vI ((k15 : Nat) : Int)))] a ∧ Below w0.z w0 w) (fun (_ : Unit) a w => Sat 27 [] a ∧ Below w0.z w0 w) (fun r ex a w => ex = .ret ∧ RetPost prog fn (Q11 w0 B r) a w) hu1d ?_ ?_ ?_ ?_ ?_
 ·exact fun _ q => ⟨(q.k (s3 z z z)), (br w0)⟩
 ·rintro k15 _ a2y w2z o30 hk18 ⟨hS1e, s10⟩ hm1f
  refine Wu ?_ hS1e
  refine Wq (Ws (Rm z (Rm z ?_)))
  have h19 := p1_0.ext s10
  refine R z (lnR d_93 z h19) (R z (lss z z) (Wn (Wc z (fun _ => ?_) (fun hc => (nolt hk18 hc).elim))))
  refine Wk (Wq (WC_block (Wq (WC_draw (X := noX) 0 (.rd 0 (.rd 1 (.rd 2 (.rd 3 (.rd 4 (.rd 5 (.rd 6 (.rd 7 (.ef 8 (.rd 9 .done)))))))))) mo (by kernel_rfl) fun w31 s11 _ => dR z z (mv z) (dR z z (mv z) ?_)))))
  obtain ⟨x12, e1g, hm1h⟩ := bdS hm1f
  refine dRX z z (at_ (α := Rule) d_93 z_144 z z z (h19.ext s11) e1g) ?_
  rintro _ ⟨b32, o33, cs34, rfl, h1i, h1j, h35⟩
  obtain ⟨a1k, n1l, c1m, a1n, n1o, c1p, a1q, n1r, c1s, a1t, n1u, c1v, rfl, h1w, h1x, h1y, h1z, h20, h21, h22⟩ := Rule_open h1j
  refine dR z z (lN (vs := (vR x12 a1k n1l c1m a1n n1o c1p a1q n1r c1s a1t n1u c1v)) g_144 z_144 z z fid h1i) (dR z z (mv z) (dR z z (mv z) ?_))
  obtain ⟨x13, e23, hm24⟩ := bdS hm1h
  refine dRX z z (at_ (α := Rule) d_93 z_144 z z z ((p2_0.ext s10).ext s11) e23) ?_
  rintro _ ⟨b36, o37, cs38, rfl, h25, h26, h39⟩
  obtain ⟨a27, n28, c29, a2a, n2b, c2c, a2d, n2e, c2f, a2g, n2h, c2i, rfl, h2j, h2k, h2l, h2m, h2n, h2o, h2p⟩ := Rule_open h26
  refine dR z z (lN (vs := (vR x13 a27 n28 c29 a2a n2b c2c a2d n2e c2f a2g n2h c2i)) g_144 z_144 z z fid h25) ?_
  obtain ⟨r3a, e2q, hm1a⟩ := bdS hm24
  refine dE z z (fc call149 z (W_w3e (B := B) e2q (lt_ hBw (lt_ s10.size s11.size)) h1w h1x h1y h1z h20 h21 h22 h2j h2k h2l h2m h2n h2o h2p)) (.inr fun _ _ h => chgB (h.1)) ?_
  rintro _ w3b ⟨s1b, rfl⟩
  refine dR z z (not_ z) (PR_done (Wo (Wc z (fun hc16 => ?_) (fun hc16 => ?_))))
  ·exact Ws (Ra z (Wn (Wr (rtO (QO_retL (som (ifT hm1a hc16)).symm (ret1 hr z ⟨(bup (bup s10 s11) s1b), z⟩))))))
  exact Wk (Wg (Rm z (R z (inc_ hk18 (lt_ (repS.len p1_0) LEN_le) z z) (Ra z (Wl (fun _ q => ⟨(), (som (ifF hm1a hc16)).symm, ⟨(q.k (s3 z z z)), (bup (bup s10 s11) s1b)⟩⟩))))))
 ·rintro _ a3c w3d ⟨hS2r, s1c⟩
  refine Wu ?_ hS2r
  refine Wq (Ws (Rm z (Rm z (R z (lnR d_93 z (p1_0.ext s1c)) (R z (lss z z) (Wn (Wc z (fun hc => (noltt hc).elim) (fun _ => ?_))))))))
  exact WC_exit (fun a' ha' => ⟨rfl, ⟨(Sat.weaken ha' sn), s1c⟩⟩)
 ·rintro _ a2s w3e rfl ⟨hS3f, s2t⟩
  have hm2u := elL hm17
  revert a2s
  refine Wo (Ws (Ra z (Wn ?_)))
  obtain rfl := som hm2u
  exact Wr (ret1 hr z ⟨s2t, z⟩)
 rintro r3g ex3h a3i w3j rfl ⟨rfl, hq2v⟩
 have hm2w := elR hm17
 obtain rfl := som hm2w
 exact ⟨hq2v, z⟩
theorem W_w3g {x1 : Desc} {x2 : Desc} {res : Bool} (hm : M_laws_eqDescription x1 x2 = some res) (hBw : B ≤ w0.z) (p1_0 : repS w0 B (sl A0 N0 C0) x1.rules) (p2_0 : repS w0 B (sl A6 N6 C6) x2.rules) : CallsR prog 103 [(.agg #[sl A0 N0 C0]), (.agg #[sl A6 N6 C6])] w0 (Q11 w0 B res) := by
 unfold M_laws_eqDescription at hm
 refine goF func103 z z (lb z) fun fn hr => Ws (E z (fb z) ?_)
 rintro _ w13 ⟨rfl, h14⟩
 have h11 := h14.below
 have h18 : Blk w13 w0.z [sl A0 N0 C0] := h14.blk
 refine E z (fb z) ?_
 rintro _ w19 ⟨rfl, h15⟩
 have h10 := h15.below
 have h1a : Blk w19 w13.z [sl A6 N6 C6] := h15.blk
 refine Ra z (Wn (Wq (Ws (R z (fd f_95_0 z) (R z (l1 g_93 z fid ((h18.ext h10).at z)) (R z (fd f_95_0 z) (R z (l1 g_93 z fid (h1a.at z)) ?_)))))))
 obtain ⟨r1c, e1b, hm16⟩ := bdS hm
 refine E z (fc call131 z (W_w3f (B := B) e1b (lt_ hBw (lt_ h11.size h10.size)) ((p1_0.ext h11).ext h10) ((p2_0.ext h11).ext h10))) ?_
 rintro _ w1d ⟨s17, rfl⟩
 refine R z (not_ z) (Wn (Wc z (fun hc12 => ?_) (fun hc12 => ?_)))
 ·refine Ws (Ra z (Wn ?_))
  obtain rfl := som (ifT hm16 hc12)
  exact Wr (ret1 hr z ⟨(bup (bup h11 h10) s17), z⟩)
 refine Wk (Ws (Ra z (Wn ?_)))
 obtain rfl := som (ifF hm16 hc12)
 exact Wr (ret1 hr z ⟨(bup (bup h11 h10) s17), z⟩)
theorem W_w3h {x1 : List Desc} {x2 : List Desc} {res : Bool} (hm : M_laws_eqDescriptionS x1 x2 = some res) (hBw : B ≤ w0.z) (p1_0 : repS w0 B (sl A0 N0 C0) x1) (p2_0 : repS w0 B (sl A6 N6 C6) x2) : CallsR prog 72 [sl A0 N0 C0, sl A6 N6 C6] w0 (Q11 w0 B res) := by
 unfold M_laws_eqDescriptionS at hm
 refine goF func72 z z (lb z) fun fn hr => Ws (Ra z (Wn (Wq (Ws (Rm z (R z (lnR d_32 z p1_0) (Rm z (R z (lnR d_32 z p2_0) (R z (nq z z) (Wn (Wc z (fun hc12 => ?_) (fun hc12 => ?_))))))))))))
 ·refine Ws (Ra z (Wn ?_))
  obtain rfl := som (ifT hm hc12)
  exact Wr (ret1 hr z ⟨(br w0), z⟩)
 refine Wk (Wq (Ws (Ra z (Wn ?_))))
 obtain ⟨u21, hu1b, hm15⟩ := bdS (ifF hm hc12)
 refine WC_forN (σ := Unit) (ρ := Bool) (fun (k13 : Nat) (_ : Unit) a w => Sat 27 [(0, sl A0 N0 C0), (1, sl A6 N6 C6), (5, (vI ((k13 : Nat) : Int)))] a ∧ Below w0.z w0 w) (fun (_ : Unit) a w => Sat 27 [] a ∧ Below w0.z w0 w) (fun r ex a w => ex = .ret ∧ RetPost prog fn (Q11 w0 B r) a w) hu1b ?_ ?_ ?_ ?_ ?_
 ·exact fun _ q => ⟨(q.k (s3 z z z)), (br w0)⟩
 ·rintro k13 _ a22 w23 o24 hk16 ⟨hS1c, s10⟩ hm1d
  refine Wu ?_ hS1c
  refine Wq (Ws (Rm z (Rm z ?_)))
  have h17 := p1_0.ext s10
  refine R z (lnR d_32 z h17) (R z (lss z z) (Wn (Wc z (fun _ => ?_) (fun hc => (nolt hk16 hc).elim))))
  refine Wk (Wq (WC_block (Wq (WC_draw (X := noX) 0 (.rd 0 (.rd 1 (.rd 2 (.rd 3 (.rd 4 (.rd 5 (.rd 6 (.rd 7 (.ef 8 (.rd 9 .done)))))))))) mo (by kernel_rfl) fun w25 s11 _ => dR z z (mv z) (dR z z (mv z) ?_)))))
  obtain ⟨x26, e1e, hm1f⟩ := bdS hm1d
  refine dRX z z (at_ (α := Desc) d_32 z_95 z z z (h17.ext s11) e1e) ?_
  rintro _ ⟨b27, o28, cs29, rfl, h1g, h1h, h2a⟩
  obtain ⟨a1i, n1j, c1k, rfl, h1l⟩ := Desc_open h1h
  refine dR z z (lN (vs := [sl a1i n1j c1k]) g_95 z_95 z z fid h1g) (dR z z (mv z) (dR z z (mv z) ?_))
  obtain ⟨x2b, e1m, hm1n⟩ := bdS hm1f
  refine dRX z z (at_ (α := Desc) d_32 z_95 z z z ((p2_0.ext s10).ext s11) e1m) ?_
  rintro _ ⟨b2c, o2d, cs2e, rfl, h1o, h1p, h2f⟩
  obtain ⟨a1q, n1r, c1s, rfl, h1t⟩ := Desc_open h1p
  refine dR z z (lN (vs := [sl a1q n1r c1s]) g_95 z_95 z z fid h1o) ?_
  obtain ⟨r2g, e1u, hm18⟩ := bdS hm1n
  refine dE z z (fc call103 z (W_w3g (B := B) e1u (lt_ hBw (lt_ s10.size s11.size)) h1l h1t)) (.inr fun _ _ h => chgB (h.1)) ?_
  rintro _ w2h ⟨s19, rfl⟩
  refine dR z z (not_ z) (PR_done (Wo (Wc z (fun hc14 => ?_) (fun hc14 => ?_))))
  ·exact Ws (Ra z (Wn (Wr (rtO (QO_retL (som (ifT hm18 hc14)).symm (ret1 hr z ⟨(bup (bup s10 s11) s19), z⟩))))))
  exact Wk (Wg (Rm z (R z (inc_ hk16 (lt_ (repS.len p1_0) LEN_le) z z) (Ra z (Wl (fun _ q => ⟨(), (som (ifF hm18 hc14)).symm, ⟨(q.k (s3 z z z)), (bup (bup s10 s11) s19)⟩⟩))))))
 ·rintro _ a2i w2j ⟨hS1v, s1a⟩
  refine Wu ?_ hS1v
  refine Wq (Ws (Rm z (Rm z (R z (lnR d_32 z (p1_0.ext s1a)) (R z (lss z z) (Wn (Wc z (fun hc => (noltt hc).elim) (fun _ => ?_))))))))
  exact WC_exit (fun a' ha' => ⟨rfl, ⟨(Sat.weaken ha' sn), s1a⟩⟩)
 ·rintro _ a1w w2k rfl ⟨hS2l, s1x⟩
  have hm1y := elL hm15
  revert a1w
  refine Wo (Ws (Ra z (Wn ?_)))
  obtain rfl := som hm1y
  exact Wr (ret1 hr z ⟨s1x, z⟩)
 rintro r2m ex2n a2o w2p rfl ⟨rfl, hq1z⟩
 have hm20 := elR hm15
 obtain rfl := som hm20
 exact ⟨hq1z, z⟩
theorem W_w3i {x1 : Registry} {x2 : Registry} {res : Bool} (hm : M_laws_eqRegistry x1 x2 = some res) (hBw : B ≤ w0.z) (p1_0 : repS w0 B (sl A0 N0 C0) x1.versions) (p2_0 : repS w0 B (sl A6 N6 C6) x2.versions) : CallsR prog 39 [(.agg #[sl A0 N0 C0]), (.agg #[sl A6 N6 C6])] w0 (Q11 w0 B res) := by
 unfold M_laws_eqRegistry at hm
 refine goF func39 z z (lb z) fun fn hr => Ws (E z (fb z) ?_)
 rintro _ w13 ⟨rfl, h14⟩
 have h11 := h14.below
 have h18 : Blk w13 w0.z [sl A0 N0 C0] := h14.blk
 refine E z (fb z) ?_
 rintro _ w19 ⟨rfl, h15⟩
 have h10 := h15.below
 have h1a : Blk w19 w13.z [sl A6 N6 C6] := h15.blk
 refine Ra z (Wn (Wq (Ws (R z (fd f_34_0 z) (R z (l1 g_32 z fid ((h18.ext h10).at z)) (R z (fd f_34_0 z) (R z (l1 g_32 z fid (h1a.at z)) ?_)))))))
 obtain ⟨r1c, e1b, hm16⟩ := bdS hm
 refine E z (fc call72 z (W_w3h (B := B) e1b (lt_ hBw (lt_ h11.size h10.size)) ((p1_0.ext h11).ext h10) ((p2_0.ext h11).ext h10))) ?_
 rintro _ w1d ⟨s17, rfl⟩
 refine R z (not_ z) (Wn (Wc z (fun hc12 => ?_) (fun hc12 => ?_)))
 ·refine Ws (Ra z (Wn ?_))
  obtain rfl := som (ifT hm16 hc12)
  exact Wr (ret1 hr z ⟨(bup (bup h11 h10) s17), z⟩)
 refine Wk (Ws (Ra z (Wn ?_)))
 obtain rfl := som (ifF hm16 hc12)
 exact Wr (ret1 hr z ⟨(bup (bup h11 h10) s17), z⟩)
theorem W_w3j {x1 : Log} {x2 : Log} {res : Bool} (hm : M_laws_eqLog x1 x2 = some res) (hBw : B ≤ w0.z) (p1_0 : repS w0 B (sl A0 N0 C0) x1.bytes) (p1_1 : inI x1.stored) (p2_0 : repS w0 B (sl A6 N6 C6) x2.bytes) (p2_1 : inI x2.stored) : CallsR prog 40 [(.agg #[sl A0 N0 C0, vI x1.stored]), (.agg #[sl A6 N6 C6, vI x2.stored])] w0 (Q11 w0 B res) := by
 unfold M_laws_eqLog at hm
 refine goF func40 z z (lb z) fun fn hr => Ws (E z (fb z) ?_)
 rintro _ w15 ⟨rfl, h16⟩
 have h11 := h16.below
 have h1c : Blk w15 w0.z [sl A0 N0 C0, vI x1.stored] := h16.blk
 refine E z (fb z) ?_
 rintro _ w1d ⟨rfl, h17⟩
 have h10 := h17.below
 have h18 : Blk w1d w15.z [sl A6 N6 C6, vI x2.stored] := h17.blk
 refine Ra z (Wn (Wq (Ws (R z (fd f_35_0 z) ?_))))
 have h19 := h1c.ext h10
 refine R z (l1 g_25 z fid (h19.at z)) (R z (fd f_35_0 z) (R z (l1 g_25 z fid (h18.at z)) ?_))
 obtain ⟨r1f, e1e, hm1a⟩ := bdS hm
 refine E z (fc call26 z (W_w1g (B := B) e1e (lt_ hBw (lt_ h11.size h10.size)) ((p1_0.ext h11).ext h10) ((p2_0.ext h11).ext h10))) ?_
 rintro _ w1g ⟨s12, rfl⟩
 refine R z (not_ z) (Wn (Wc z (fun hc13 => ?_) (fun hc13 => ?_)))
 ·refine Ws (Ra z (Wn ?_))
  obtain rfl := som (ifT hm1a hc13)
  exact Wr (ret1 hr z ⟨(bup (bup h11 h10) s12), z⟩)
 have hm1b := ifF hm1a hc13
 refine Wk (Wq (Ws (R z (fd f_35_1 z) (R z (l1 g_3 z fid ((h19.ext s12).at z)) (R z (fd f_35_1 z) (R z (l1 g_3 z fid ((h18.ext s12).at z)) (R z (nq z z) (Wn (Wc z (fun hc14 => ?_) (fun hc14 => ?_))))))))))
 ·refine Ws (Ra z (Wn ?_))
  obtain rfl := som (ifT hm1b hc14)
  exact Wr (ret1 hr z ⟨(bup (bup h11 h10) s12), z⟩)
 refine Wk (Ws (Ra z (Wn ?_)))
 obtain rfl := som (ifF hm1b hc14)
 exact Wr (ret1 hr z ⟨(bup (bup h11 h10) s12), z⟩)
theorem W_w3k {x1 : Archive} {x2 : Archive} {res : Bool} (hm : M_laws_eqArchive x1 x2 = some res) (hBw : B ≤ w0.z) (p1_0 : repS w0 B (sl A0 N0 C0) x1.registry.versions) (p1_1 : repS w0 B (sl A3 N3 C3) x1.log.bytes) (p1_2 : inI x1.log.stored) (p2_0 : repS w0 B (sl A6 N6 C6) x2.registry.versions) (p2_1 : repS w0 B (sl AC NC CC) x2.log.bytes) (p2_2 : inI x2.log.stored) : CallsR prog 13 [(.agg #[sl A0 N0 C0, sl A3 N3 C3, vI x1.log.stored]), (.agg #[sl A6 N6 C6, sl AC NC CC, vI x2.log.stored])] w0 (Q11 w0 B res) := by
 unfold M_laws_eqArchive at hm
 refine goF func13 z z (lb z) fun fn hr => Ws (E z (fb z) ?_)
 rintro _ w15 ⟨rfl, h16⟩
 have h11 := h16.below
 have h1e : Blk w15 w0.z [sl A0 N0 C0, sl A3 N3 C3, vI x1.log.stored] := h16.blk
 refine E z (fb z) ?_
 rintro _ w1f ⟨rfl, h17⟩
 have h10 := h17.below
 have h18 : Blk w1f w15.z [sl A6 N6 C6, sl AC NC CC, vI x2.log.stored] := h17.blk
 refine Ra z (Wn (Wq (Ws (R z (fd f_37_0 z) ?_))))
 have h19 := h1e.ext h10
 refine R z (lN (vs := [sl A0 N0 C0]) g_34 z_34 z z fid (h19.row 0 1 z)) (R z (fd f_37_0 z) (R z (lN (vs := [sl A6 N6 C6]) g_34 z_34 z z fid (h18.row 0 1 z)) ?_))
 have h1a := lt_ h11.size h10.size
 obtain ⟨r1i, e1g, hm1b⟩ := bdS hm
 refine E z (fc call39 z (W_w3i (B := B) (x1 := (⟨x1.registry.versions⟩ : Registry)) (x2 := (⟨x2.registry.versions⟩ : Registry)) e1g (lt_ hBw h1a) ((p1_0.ext h11).ext h10) ((p2_0.ext h11).ext h10))) ?_
 rintro _ w1j ⟨s12, rfl⟩
 refine R z (not_ z) (Wn (Wc z (fun hc13 => ?_) (fun hc13 => ?_)))
 ·refine Ws (Ra z (Wn ?_))
  obtain rfl := som (ifT hm1b hc13)
  exact Wr (ret1 hr z ⟨(bup (bup h11 h10) s12), z⟩)
 refine Wk (Wq (Ws (R z (fd f_37_1 z) (R z (lN (vs := [sl A3 N3 C3, vI x1.log.stored]) g_35 z_35 z z fid ((h19.ext s12).row 1 2 z)) (R z (fd f_37_1 z) (R z (lN (vs := [sl AC NC CC, vI x2.log.stored]) g_35 z_35 z z fid ((h18.ext s12).row 1 2 z)) ?_))))))
 obtain ⟨r1k, e1h, hm1c⟩ := bdS (ifF hm1b hc13)
 refine E z (fc call40 z (W_w3j (B := B) (x1 := (⟨x1.log.bytes, x1.log.stored⟩ : Log)) (x2 := (⟨x2.log.bytes, x2.log.stored⟩ : Log)) e1h (lt_ hBw (lt_ h1a s12.size)) (((p1_1.ext h11).ext h10).ext s12) p1_2 (((p2_1.ext h11).ext h10).ext s12) p2_2)) ?_
 rintro _ w1l ⟨s1d, rfl⟩
 refine R z (not_ z) (Wn (Wc z (fun hc14 => ?_) (fun hc14 => ?_)))
 ·refine Ws (Ra z (Wn ?_))
  obtain rfl := som (ifT hm1c hc14)
  exact Wr (ret1 hr z ⟨(bup (bup (bup h11 h10) s12) s1d), z⟩)
 refine Wk (Ws (Ra z (Wn ?_)))
 obtain rfl := som (ifF hm1c hc14)
 exact Wr (ret1 hr z ⟨(bup (bup (bup h11 h10) s12) s1d), z⟩)
def Q_laws_FnExactLargestFile (w0 : World) (B : Nat) (r : Bool) (v : Value) (w' : World) : Prop := Bw w0 w' ∧ (fun r1 => (vB r1) = v) r
theorem W_laws_FnExactLargestFile {x1 : Archive} {res : Bool} (hm : M_laws_FnExactLargestFile n x1 = some res) (hBw : B ≤ w0.z) (hG : Gl w0 B) (p1_0 : repS w0 B (sl A0 N0 C0) x1.registry.versions) (p1_1 : repS w0 B (sl A3 N3 C3) x1.log.bytes) (p1_2 : inI x1.log.stored) : CallsR prog 3 [(.agg #[sl A0 N0 C0, sl A3 N3 C3, vI x1.log.stored])] w0 (Q_laws_FnExactLargestFile w0 B res) := by
 unfold M_laws_FnExactLargestFile at hm
 refine goF func3 z z (lb z) fun fn hr => Ws (E z (fb z) ?_)
 rintro _ w2d ⟨rfl, h1p⟩
 have h15 := h1p.below
 have h1d : Blk w2d w0.z [sl A0 N0 C0, sl A3 N3 C3, vI x1.log.stored] := h1p.blk
 refine Ra z (Wn (Ws (Ra z (Wn (Ws (R z (lN (vs := [sl A0 N0 C0, sl A3 N3 C3, vI x1.log.stored]) g_29 z_29 z z fid (h1d.row 0 3 z)) (Rm z ?_)))))))
 have h1q := p1_0.ext h15
 have h1r := p1_1.ext h15
 obtain ⟨r30, e2e, hm1s⟩ := bdS hm
 refine E z (fc call9 z (W_w1p (B := B) e2e (lt_ hBw h15.size) h1q h1r p1_2 (ii z))) ?_
 rintro _ w31 ⟨s13, rfl, h32⟩
 refine Ra z (Wn (Wq (Ws (Rm z (R z (lss z z) (Wn (Wc z (fun hc1e => ?_) (fun hc1e => ?_))))))))
 ·refine Ws (Ra z (Wn ?_))
  obtain rfl := som (ifT hm1s hc1e)
  exact Wr (ret1 hr z ⟨(bup h15 s13), z⟩)
 refine Wk (Ws ?_)
 have h1t := h1d.ext s13
 refine R z (lN (vs := [sl A0 N0 C0, sl A3 N3 C3, vI x1.log.stored]) g_29 z_29 z z fid (h1t.row 0 3 z)) ?_
 have h1u := h1q.ext s13
 have h1v := h1r.ext s13
 have h1w := lt_ h15.size s13.size
 obtain ⟨r33, e2f, hm2g⟩ := bdS (ifF hm1s hc1e)
 refine E z (fc call11 z (W_w0a (B := B) e2f (lt_ hBw h1w) h1u h1v p1_2)) ?_
 rintro _ w2h ⟨s16, a34, n35, c36, S37, a38, n39, c3a, S3b, rfl, h2i, h2j, h2k, h3c, h3d⟩
 obtain ⟨r3e, e2l, hm2m⟩ := bdS hm2g
 refine E z (fc call10 z (W_w2j (B := w2h.z) e2l lr (ownS.rep h2i) (ownS.rep h2j) h2k)) ?_
 rintro _ w3f ⟨s17, rfl, h3g⟩
 refine Ra z (Wn (Ws ?_))
 have h1x := (h1t.ext s16).ext s17
 refine R z (lN (vs := [sl A0 N0 C0, sl A3 N3 C3, vI x1.log.stored]) g_29 z_29 z z fid (h1x.row 0 3 z)) ?_
 have h1y := (h1u.ext s16).ext s17
 have h1z := (h1v.ext s16).ext s17
 have h20 := lt_ (lt_ h1w s16.size) s17.size
 obtain ⟨r1f, e2n, hm2o⟩ := bdS hm2m
 refine E z (fc call11 z (W_w0a (B := B) e2n (lt_ hBw h20) h1y h1z p1_2)) ?_
 rintro _ w21 ⟨s18, a1g, n1h, c1i, S3h, a1j, n1k, c1l, S3i, rfl, h1b, h1c, h22, h3j, h3k⟩
 refine E z (fa zero_37) ?_
 rintro _ w2p ⟨rfl, h23⟩
 have h10 := h23.below
 have h2q : Blk w2p w21.z [sl none 0 0, sl none 0 0, vI 0] := h23.blk
 refine E0 (fs (cur' := [sl a1g n1h c1i, sl a1j n1k c1l, vI r1f.log.stored]) z_37 z z h2q z (lb z) (oA z) z) ?_
 rintro _ w3l ⟨h24, s2r⟩
 have h11 := s2r.one
 refine Wn (Ws (R z (lN (vs := [sl a1g n1h c1i, sl a1j n1k c1l, vI r1f.log.stored]) g_37 z_37 z z fid (h24.row 0 3 z)) ?_))
 have h25 := (h1b.ext h10).chg h11 (dj_symm (mnr (ownS.lt h1b)))
 have h26 := (h1c.ext h10).chg h11 (dj_symm (mnr (ownS.lt h1c)))
 have h19 := lt_ h20 s18.size
 have h27 := lt_ hBw h19
 have h1m := mem1le h27
 have h28 := lt_ h10.size h11.size
 obtain ⟨r3m, e2s, hm29⟩ := bdS hm2o
 refine E z (fc call12 z (W_w3c (B := w21.z) e2s h28 ((((((((hG.ext h15).ext s13).ext s16).ext s17).ext s18).ext h10).chg h11 (lg h1m)).mono h27) (ownS_rep h25 (ownS.lt h1b)) (ownS_rep h26 (ownS.lt h1c)) h22)) ?_
 rintro _ w3n ⟨s12, rfl, h3o⟩
 refine Ra z (Wn (Wq (Ws (Rm z (Rm z (R z (rd_neqT z z) (Wn (Wc z (fun hc1n => ?_) (fun hc1n => ?_)))))))))
 ·refine Ws (Ra z (Wn ?_))
  obtain rfl := som (ifT hm29 hc1n)
  exact Wr (ret1 hr z ⟨(bup (bM (bup (bup (bup (bup (bup h15 s13) s16) s17) s18) h10) h11 (mem1le h19)) s12), z⟩)
 refine Wk (Wq (Wq (WC_draw (X := noX) 0 (.rd 0 (.rd 1 (.ef 2 (.ef 3 (.rd 4 .done))))) mo (by kernel_rfl) fun w3p s14 _ => dR z z (lN (vs := [sl a1g n1h c1i, sl a1j n1k c1l, vI r1f.log.stored]) g_37 z_37 z z fid (((h24.ext s12).ext s14).row 0 3 z)) (dR z z (lN (vs := [sl A0 N0 C0, sl A3 N3 C3, vI x1.log.stored]) g_29 z_29 z z fid ((((((h1x.ext s18).ext h10).chg h11 (djs (mm1 h1d.lt (lt_ (lt_ (lt_ s13.size s16.size) s17.size) s18.size)))).ext s12).ext s14).row 0 3 z)) ?_))))
 obtain ⟨r3q, e2t, hm2u⟩ := bdS (ifF hm29 hc1n)
 refine dE z z (fc call11 z (W_w0a (B := B) e2t (lt_ hBw (lt_ (lt_ (lt_ (lt_ h19 h10.size) h11.size) s12.size) s14.size)) (((((h1y.ext s18).ext h10).chg h11 (lg h1m)).ext s12).ext s14) (((((h1z.ext s18).ext h10).chg h11 (lg h1m)).ext s12).ext s14) p1_2)) (.inr fun _ _ h => chgB (h.1)) ?_
 rintro _ w2v ⟨s1a, a3r, n3s, c3t, S3u, a3v, n3w, c3x, S3y, rfl, h2w, h2x, h2y, h3z, h40⟩
 have h2a := lt_ (lt_ (lt_ h28 s12.size) s14.size) s1a.size
 obtain ⟨r41, e2z, hm2b⟩ := bdS hm2u
 refine dE z z (fc call13 z (W_w3k (B := w2v.z) e2z lr (repS.mono (ownS_rep (((h25.ext s12).ext s14).ext s1a) (ownS.lt h1b)) h2a) (repS.mono (ownS_rep (((h26.ext s12).ext s14).ext s1a) (ownS.lt h1c)) h2a) h22 (ownS.rep h2w) (ownS.rep h2x) h2y)) (.inr fun _ _ h => chgB (h.1)) ?_
 rintro _ w42 ⟨s2c, rfl⟩
 refine dR z z (not_ z) (PR_done (Wo (Wc z (fun hc1o => ?_) (fun hc1o => ?_))))
 ·refine Ws (Ra z (Wn ?_))
  obtain rfl := som (ifT hm2b hc1o)
  exact Wr (ret1 hr z ⟨(bup (bup (bup (bup (bM (bup (bup (bup (bup (bup h15 s13) s16) s17) s18) h10) h11 (mem1le h19)) s12) s14) s1a) s2c), z⟩)
 refine Wk (Ws (Ra z (Wn ?_)))
 obtain rfl := som (ifF hm2b hc1o)
 exact Wr (ret1 hr z ⟨(bup (bup (bup (bup (bM (bup (bup (bup (bup (bup h15 s13) s16) s17) s18) h10) h11 (mem1le h19)) s12) s14) s1a) s2c), z⟩)
end Go.Vw

