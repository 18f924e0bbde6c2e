import Derived.Test.YtlbigkipbbhhmaaGreatDoorVwTW1
set_option linter.unusedVariables false
namespace Go.Vw
open Go.RowKit Dat Go.Proofs
open Go.Proofs.Tryz
open Go.Vw renaming WC_seq → Wq, WC_region → Wg, WC.of_KC → Wo, WL_nil → Wl, WC_cond → Wc, WC_ret → Wr, WC_run → Wu, rd_pickT → pT, rd_pickF → pF, rd_field → fd, rd_load1 → l1, rd_loadN → lN, rd_move → mv, rd_assign → asg, rd_lenR → lnR, rd_lss → lss, rd_eql → eql, rd_extract → ext_, rd_buildP → bP, rd_add → add_, rd_inc → inc_, rd_not → not_, rd_at → at_, ef_call → fc, ef_store → fs, ef_box → fb, ef_alloc → fa, sub_refl → sr, crefl → cr, cchgM → cM, bchgM → bM, inI_sub → iS, inI_add → iA, brefl → br, oneAll → oA, bsplit → bs, ltge → lg, inor → io, rd_neq → nq, rd_lenT → lnT, rd_sub → sb_
variable {A0 : Option Addr} {N0 C0 : Nat} {B : Nat} {w0 : World} {A9 : Option Addr} {A8 : Option Addr} {AA : Option Addr} {AB : Option Addr} {N9 C9 : Nat} {N8 C8 : Nat} {NA CA : Nat} {NB CB : Nat} {A2 : Option Addr} {A3 : Option Addr} {A1 : Option Addr} {A4 : Option Addr} {N2 C2 : Nat} {N3 C3 : Nat} {N1 C1 : Nat} {N4 C4 : Nat} {A7 : Option Addr} {N7 C7 : Nat} {A5 : Option Addr} {N5 C5 : Nat} {n : Nat} {A6 : Option Addr} {N6 C6 : Nat} {AI : Option Addr} {AJ : Option Addr} {NI CI : Nat} {NJ CJ : Nat}
theorem W_w2d {x1 : Desc} {x2 : List UInt8} {x3 : Str} {res : (List Entry)} (hm : M_spec_SelectParts n x1 x2 x3 = some res) (hBw : B ≤ w0.z) (p1_0 : repS w0 B (sl A0 N0 C0) x1.rules) (p2_0 : repS w0 B (sl A5 N5 C5) x2) (p3_0 : x3.b.length ≤ LEN) : CallsR prog 16 [(.agg #[sl A0 N0 C0]), sl A5 N5 C5, Str.v x3] w0 (Q16 w0 B res) := by
 unfold M_spec_SelectParts at hm
 refine goF func16 z z (lb z) fun fn hr => Ws (E z (fb z) ?_)
 rintro _ w11 ⟨rfl, h1x⟩
 have h1d := h1x.below
 have h2b : Blk w11 w0.z [sl A0 N0 C0] := h1x.blk
 refine Ra z (Wn (Ws (E z (ef_lit0 (α := Entry) el_36) ?_)))
 rintro _ w3x ⟨a2c, n2d, c2e, rfl, s1e, h1r⟩
 refine Ra z (Wn (Ws (R z (lN (vs := [sl A0 N0 C0]) g_30 z_30 z z fid ((h2b.ext s1e).row 0 1 z)) (Rm z ?_))))
 have h1s := lt_ h1d.size s1e.size
 obtain ⟨r2f, r3y, e2g, hm2h⟩ := bd2S hm
 refine E z (fc call39 z (W_w28 (B := B) e2g (lt_ hBw h1s) ((p1_0.ext h1d).ext s1e) ((p2_0.ext h1d).ext s1e))) ?_
 rintro _ w12 ⟨s1h, a1i, n1j, c1k, S3z, rfl, h18, h40, h1y⟩
 refine Rm z (R z (ext_ z z) (R z (ext_ z z) (Ra z (Ra z (Wn (Wq (Ws (Ra z (Wn ?_)))))))))
 obtain ⟨u41, hu2i, hm1z⟩ := bdS hm2h
 refine WC_forN (σ := (List Entry)) (ρ := (List Entry)) (fun (k1l : Nat) (x19 : List Entry) a w => ∃ a13 n14 c15 S10, Sat 39 [(2, Str.v x3), (7, sl a13 n14 c15), (8, sl a1i n1j c1k), (10, (vI ((k1l : Nat) : Int)))] a ∧ Chg (· ∈ [w11.z]) w12 w ∧ ownS w S10 (sl a13 n14 c15) x19 ∧ S10.Nodup ∧ (∀ k ∈ S10, k ∈ [w11.z] ∨ w12.z ≤ k)) (fun (x19 : List Entry) a w => ∃ a13 n14 c15 S10, Sat 39 [(7, sl a13 n14 c15)] a ∧ Chg (· ∈ [w11.z]) w12 w ∧ ownS w S10 (sl a13 n14 c15) x19 ∧ S10.Nodup ∧ (∀ k ∈ S10, k ∈ [w11.z] ∨ w12.z ≤ k)) (fun r ex a w => ex = .ret ∧ RetPost prog fn (Q16 w0 B r) a w) hu2i ?_ ?_ ?_ ?_ ?_
 ·exact fun _ q => ⟨a2c, n2d, c2e, [w11.z], (q.k (s4 z z z z)), (cr [w11.z] w12), (h1r.ext s1h), nd_one, (io sr)⟩
 ·rintro k1l x19 a42 w2j o43 hk20 ⟨a13, n14, c15, S10, hS2k, s1m, h1a, h1b, h1f⟩ hm2l
  refine Wu ?_ hS2k
  refine Wq (Ws (Rm z (Rm z ?_)))
  have h1t := h18.chg s1m (o0no h1y (ownS.lt h1r) lr)
  refine R z (lnR d_36 z (ownS_rep h1t (ownS.lt h18))) (R z (lss z z) (Wn (Wc z (fun _ => ?_) (fun hc => (nolt hk20 hc).elim))))
  refine Wk (Wq (WC_block (Ws (Rm z (Rm z (Rm z ?_))))))
  obtain ⟨x44, e2m, hm2n⟩ := bdS hm2l
  refine RX z (at_ (α := Entry) d_36 z_57 z z z (ownS_rep h1t (ownS.lt h18)) e2m) ?_
  rintro _ ⟨b45, o46, cs47, rfl, h2o, h2p, h48⟩
  obtain ⟨rfl, h2q, h49, h4a, h4b⟩ := Entry_open h2p
  refine R z (fd f_57_0 z) (R z (l1 g_9 z fid (h2o.at (j := 0) z)) ?_)
  obtain ⟨r4c, e2r, hm2s⟩ := bdS hm2n
  refine E z (fc call57 z (W_w2c (B := B) e2r (lt_ hBw (lt_ (lt_ h1s s1h.size) s1m.size)) p3_0 h2q)) ?_
  rintro _ w17 ⟨s1g, rfl⟩
  refine Wn ?_
  obtain ⟨u2t, hu21, hm2u⟩ := bdS hm2s
  refine WC_cut (fun a w => ∃ (x1n : List Entry), x1n = u2t ∧ ∃ a1o n1p c1q S1c, Sat 39 [(2, Str.v x3), (7, sl a1o n1p c1q), (8, sl a1i n1j c1k), (10, (vI ((k1l : Nat) : Int)))] a ∧ Chg (· ∈ S10) w17 w ∧ ownS w S1c (sl a1o n1p c1q) x1n ∧ S1c.Nodup ∧ (∀ k ∈ S1c, k ∈ S10 ∨ w17.z ≤ k)) ?_ ?_
  ·refine Wc z (fun hc1u => ?_) (fun hc1u => ?_)
   ·refine Wg (Rm z (Rm z (Rm z ?_)))
    obtain ⟨x16, e2v, hm2w⟩ := bdS (ifT hu21 hc1u)
    refine RX z (at_ (α := Entry) d_36 z_57 z z z (ownS_rep (h1t.ext s1g) (ownS.lt h18)) e2v) ?_
    rintro _ ⟨b4d, o4e, cs4f, rfl, h2x, h2y, h4g⟩
    obtain ⟨rfl, h22, h23, h24, h25⟩ := Entry_open h2y
    refine R z (lN (vs := [Str.v x16.path, vI x16.rule, vI x16.start, vI x16.end_]) g_57 z_57 z z fid h2x) (E z (ef_buildSlice [(.tmp 35)] el_36 z z z (szAll z) (lb z) (lb z)) ?_)
    rintro _ w26 ⟨rfl, h1v⟩
    have h1w := h1v.below
    have h2z : Blk w26 w17.z [Str.v x16.path, vI x16.rule, vI x16.start, vI x16.end_] := h1v.blk
    have h4h := ownS_new1 h1v (Entry_mkO (x := x16)  h22 h23 h24 h25)
    obtain ⟨x30, e31, hm32⟩ := bdS hm2w
    refine E z (ef_pushN (α := Entry) el_36 e31 z z ((h1a.ext s1g).ext h1w) h1b h2z (Entry_mkO (x := x16)  h22 h23 h24 h25) all_nil nd_nil) ?_
    rintro _ w33 ⟨S27, a34, n35, c36, rfl, s37, h38, h39, h3a⟩
    refine Ra z (Wl ?_)
    have h3b : ∀ k ∈ S27, k ∈ S10 ∨ w17.z ≤ k := or2 h3a (io sr) all_nil (leor h1w.size)
    have h3c : Chg (· ∈ S10) w17 w26 := cext (cr S10 w17) h1w
    have h3d : Chg (· ∈ S10) w17 w33 := cM h3c s37 (io sr)
    exact fun _ q => ⟨x30, som hm32, a34, n35, c36, S27, (q.k (s4 z z z z)), h3d, h38, h39, h3b⟩
   exact WC_skip (fun _ q => ⟨x19, som (ifF hu21 hc1u), a13, n14, c15, S10, (q.k (s4 z z z z)), (cr S10 w17), (h1a.ext s1g), h1b, (io sr)⟩)
  rintro a3e w3f ⟨x1n, rfl, a1o, n1p, c1q, S1c, hS4i, s3g, h3h, h3i, h3j⟩
  revert a3e
  refine Wo (Wg (Rm z (R z (inc_ hk20 (lt_ (ownS.len h18) LEN_le) z z) (Ra z (Wl ?_)))))
  have h28 : ∀ k ∈ S10, k ∈ [w11.z] ∨ w12.z ≤ k := or1 h1f (io sr) (leor lr)
  have h3k : ∀ k ∈ S1c, k ∈ [w11.z] ∨ w12.z ≤ k := or1 h3j h28 (leor (lt_ s1m.size s1g.size))
  have h3l : Chg (· ∈ [w11.z]) w12 w2j := cM (cr [w11.z] w12) s1m (io sr)
  have h3m : Chg (· ∈ [w11.z]) w12 w17 := cext h3l s1g
  have h3n : Chg (· ∈ [w11.z]) w12 w3f := cM h3m s3g h28
  exact fun _ q => ⟨x1n, (som hm2u).symm, ⟨a1o, n1p, c1q, S1c, (q.k (s4 z z z z)), h3n, h3h, h3i, h3k⟩⟩
 ·rintro x19 a4j w3o ⟨a13, n14, c15, S10, hS3p, s29, h1a, h1b, h1f⟩
  refine Wu ?_ hS3p
  refine Wq (Ws (Rm z (Rm z (R z (lnR d_36 z (ownS_rep (h18.chg s29 (o0no h1y (ownS.lt h1r) lr)) (ownS.lt h18))) (R z (lss z z) (Wn (Wc z (fun hc => (noltt hc).elim) (fun _ => ?_))))))))
  have h3q : ∀ k ∈ S10, k ∈ [w11.z] ∨ w12.z ≤ k := or1 h1f (io sr) (leor lr)
  have h3r : Chg (· ∈ [w11.z]) w12 w3o := cM (cr [w11.z] w12) s29 (io sr)
  exact WC_exit (fun a' ha' => ⟨rfl, ⟨a13, n14, c15, S10, (Sat.weaken ha' (s1 z)), h3r, h1a, h1b, h3q⟩⟩)
 ·rintro x19 a3s w4k rfl ⟨a13, n14, c15, S10, hS4l, s3t, h1a, h1b, h1f⟩
  have hm3u := elL hm1z
  revert a3s
  refine Wo (Ws (Rm z (Ra z (Wn ?_))))
  obtain rfl := som hm3u
  have h2a := mem1le h1d.size
  exact Wr (ret1 hr z ⟨(bM (bup (bup h1d s1e) s1h) s3t h2a), a13, n14, c15, S10, z, h1a, h1b, (o1le h1f h2a (lt_ h1s s1h.size))⟩)
 rintro r4m ex4n a4o w4p rfl ⟨rfl, hq3v⟩
 have hm3w := elR hm1z
 obtain rfl := som hm3w
 exact ⟨hq3v, z⟩
theorem W_w2e {x1 : Desc} {x2 : List UInt8} {x3 : Str} {res : Int} (hm : M_spec_SumOfParts n x1 x2 x3 = some res) (hBw : B ≤ w0.z) (p1_0 : repS w0 B (sl A0 N0 C0) x1.rules) (p2_0 : repS w0 B (sl A5 N5 C5) x2) (p3_0 : x3.b.length ≤ LEN) : CallsR prog 10 [(.agg #[sl A0 N0 C0]), sl A5 N5 C5, Str.v x3] w0 (Q0 w0 B res) := by
 unfold M_spec_SumOfParts at hm
 refine goF func10 z z (lb z) fun fn hr => Ws (E z (fb z) ?_)
 rintro _ w1t ⟨rfl, h1h⟩
 have h15 := h1h.below
 have h1i : Blk w1t w0.z [sl A0 N0 C0] := h1h.blk
 refine Ra z (Wn (Ws (Ra z (Wn (Ws (R z (lN (vs := [sl A0 N0 C0]) g_30 z_30 z z fid (h1i.row 0 1 z)) (Rm z (Rm z ?_))))))))
 have h1j := p1_0.ext h15
 have h1k := p2_0.ext h15
 obtain ⟨r1u, e1v, hm1w⟩ := bdS hm
 refine E z (fc call16 z (W_w2d (B := B) e1v (lt_ hBw h15.size) h1j h1k p3_0)) ?_
 rintro _ w16 ⟨s17, a1a, n1b, c1c, S36, rfl, h11, h37, h38⟩
 refine Ra z (Wn (Wq (Ws (Ra z (Wn ?_)))))
 obtain ⟨u39, hu1x, hm1l⟩ := bdS hm1w
 refine WC_forN (σ := Int) (ρ := Int) (fun (k1d : Nat) (x10 : Int) a w => Sat 57 [(1, sl A5 N5 C5), (3, pt w0.z), (7, vI x10), (8, sl a1a n1b c1c), (9, (vI ((k1d : Nat) : Int)))] a ∧ Below w16.z w16 w ∧ inI x10) (fun (x10 : Int) a w => Sat 57 [(7, vI x10)] a ∧ Below w16.z w16 w ∧ inI x10) (fun r ex a w => ex = .ret ∧ RetPost prog fn (Q0 w0 B r) a w) hu1x ?_ ?_ ?_ ?_ ?_
 ·exact fun _ q => ⟨(q.k (s5 z z z z z)), (br w16), (ii z)⟩
 ·rintro k1d x10 a3a w3b o3c hk1m ⟨hS1y, s12, h18⟩ hm1z
  refine Wu ?_ hS1y
  refine Wq (Ws (Rm z (Rm z ?_)))
  have h1n := h11.ext s12
  refine R z (lnR d_36 z (ownS_rep h1n (ownS.lt h11))) (R z (lss z z) (Wn (Wc z (fun _ => ?_) (fun hc => (nolt hk1m hc).elim))))
  refine Wk (Wq (WC_block (Wq (WC_draw (X := noX) 0 (.rd 0 (.rd 1 (.rd 2 (.rd 3 (.rd 4 (.rd 5 (.rd 6 (.rd 7 (.rd 8 (.rd 9 (.rd 10 .done))))))))))) mo (by kernel_rfl) fun w1e s13 _ => dR z z (fd f_30_0 z) ?_))))
  have h1o := ((h1i.ext s17).ext s12).ext s13
  refine dR z z (l1 g_28 z fid (h1o.at z)) (dR z z (mv z) (dR z z (mv z) ?_))
  obtain ⟨x3d, e20, hm21⟩ := bdS hm1z
  have h1p := h1n.ext s13
  refine dRX z z (at_ (α := Entry) d_36 z_57 z z z (ownS_rep h1p (ownS.lt h11)) e20) ?_
  rintro _ ⟨b3e, o3f, cs3g, rfl, h22, h23, h3h⟩
  obtain ⟨rfl, h3i, h3j, h3k, h3l⟩ := Entry_open h23
  refine dR z z (fd f_57_1 z) (dR z z (l1 g_3 z fid (h22.at (j := 1) z)) ?_)
  obtain ⟨x3m, e24, hm25⟩ := bdS hm21
  have h1q := ((h1j.ext s17).ext s12).ext s13
  refine dRX z z (at_ (α := Rule) d_28 z_80 z z z h1q e24) ?_
  rintro _ ⟨b3n, o3o, cs3p, rfl, h26, h27, h3q⟩
  obtain ⟨a3r, n3s, c3t, a3u, n3v, c3w, a3x, n3y, c3z, a40, n41, c42, rfl, h43, h44, h45, h46, h47, h48, h49⟩ := Rule_open h27
  refine dR z z (fd f_80_1 z) (dR z z (l1 g_3 z fid (h26.at (j := 1) z)) (dR z z (eql z z) (PR_done (Wo ?_))))
  obtain ⟨u28, hu1r, hm29⟩ := bdS hm25
  refine WC_cut (fun a w => ∃ (x19 : Int), x19 = u28 ∧ Sat 57 [(1, sl A5 N5 C5), (3, pt w0.z), (7, vI x19), (8, sl a1a n1b c1c), (9, (vI ((k1d : Nat) : Int)))] a ∧ Below w1e.z w1e w ∧ inI x19) ?_ ?_
  ·refine Wc z (fun hc1f => ?_) (fun hc1f => ?_)
   ·refine WC_draw (X := noX) 0 (.rd 0 (.rd 1 (.rd 2 (.rd 3 (.rd 4 (.rd 5 (.rd 6 (.rd 7 (.rd 8 (.rd 9 (.rd 10 (.rd 11 (.rd 12 (.rd 13 (.rd 14 (.rd 15 (.rd 16 (.rd 17 (.rd 18 (.rd 19 (.rd 20 (.rd 21 (.rd 22 (.ef 23 (.rd 24 (.rd 25 .done)))))))))))))))))))))))))) mo (by kernel_rfl) fun w4a s14 _ => ?_
    iterate 4 refine dR z z (mv z) ?_
    obtain ⟨x4b, e2a, hm2b⟩ := bdS (ifT hu1r hc1f)
    have h1g := h1p.ext s14
    refine dRX z z (at_ (α := Entry) d_36 z_57 z z z (ownS_rep h1g (ownS.lt h11)) e2a) ?_
    rintro _ ⟨b4c, o4d, cs4e, rfl, h2c, h2d, h4f⟩
    obtain ⟨rfl, h4g, h4h, h4i, h4j⟩ := Entry_open h2d
    refine dR z z (fd f_57_2 z) (dR z z (l1 g_3 z fid (h2c.at (j := 2) z)) (dR z z (mv z) (dR z z (mv z) ?_)))
    obtain ⟨x4k, e2e, hm2f⟩ := bdS hm2b
    refine dRX z z (at_ (α := Entry) d_36 z_57 z z z (ownS_rep h1g (ownS.lt h11)) e2e) ?_
    rintro _ ⟨b4l, o4m, cs4n, rfl, h2g, h2h, h4o⟩
    obtain ⟨rfl, h4p, h4q, h4r, h4s⟩ := Entry_open h2h
    refine dR z z (fd f_57_3 z) (dR z z (l1 g_3 z fid (h2g.at (j := 3) z)) ?_)
    obtain ⟨x4t, e2i, hm2j⟩ := bdS hm2f
    refine dRX z z (rd_sliceX d_25 z_5 z z ((((h1k.ext s17).ext s12).ext s13).ext s14) z z e2i) ?_
    rintro _ ⟨a4u, n4v, c4w, rfl, h2k⟩
    refine dR z z (fd f_30_0 z) (dR z z (l1 g_28 z fid ((h1o.ext s14).at z)) (dR z z (mv z) (dR z z (mv z) ?_)))
    obtain ⟨x4x, e2l, hm2m⟩ := bdS hm2j
    refine dRX z z (at_ (α := Entry) d_36 z_57 z z z (ownS_rep h1g (ownS.lt h11)) e2l) ?_
    rintro _ ⟨b4y, o4z, cs50, rfl, h2n, h2o, h51⟩
    obtain ⟨rfl, h52, h53, h54, h55⟩ := Entry_open h2o
    refine dR z z (fd f_57_1 z) (dR z z (l1 g_3 z fid (h2n.at (j := 1) z)) ?_)
    obtain ⟨x56, e2p, hm2q⟩ := bdS hm2m
    refine dRX z z (at_ (α := Rule) d_28 z_80 z z z (h1q.ext s14) e2p) ?_
    rintro _ ⟨b57, o58, cs59, rfl, h2r, h2s, h5a⟩
    obtain ⟨a5b, n5c, c5d, a5e, n5f, c5g, a5h, n5i, c5j, a5k, n5l, c5m, rfl, h5n, h5o, h5p, h5q, h5r, h5s, h5t⟩ := Rule_open h2s
    refine dR z z (fd f_80_3 z) (dR z z (l1 g_4 z fid (h2r.at (j := 3) z)) ?_)
    obtain ⟨r2t, e2u, hm2v⟩ := bdS hm2q
    refine dE z z (fc call53 z (W_w0w (B := B) e2u (lt_ hBw (lt_ (lt_ (lt_ (lt_ h15.size s17.size) s12.size) s13.size) s14.size)) h2k)) (.inr fun _ _ h => chgB (h.1)) ?_
    rintro _ w5u ⟨s2w, rfl, h5v⟩
    exact dR z z (add_ z z) (dR z z (asg z) (PR_done (fun _ q => ⟨iadd x10 r2t, som hm2v, (q.k (s5 z z z z z)), (bup s14 s2w), (iA _ _)⟩)))
   exact WC_skip (fun _ q => ⟨x10, som (ifF hu1r hc1f), (q.k (s5 z z z z z)), (br w1e), h18⟩)
  rintro a2x w5w ⟨x19, rfl, hS5x, s2y, h2z⟩
  revert a2x
  exact Wo (Wg (Rm z (R z (inc_ hk1m (lt_ (ownS.len h11) LEN_le) z z) (Ra z (Wl (fun _ q => ⟨x19, (som hm29).symm, ⟨(q.k (s5 z z z z z)), (bup (bup s12 s13) s2y), h2z⟩⟩))))))
 ·rintro x10 a5y w5z ⟨hS30, s1s, h18⟩
  refine Wu ?_ hS30
  refine Wq (Ws (Rm z (Rm z (R z (lnR d_36 z (ownS_rep (h11.ext s1s) (ownS.lt h11))) (R z (lss z z) (Wn (Wc z (fun hc => (noltt hc).elim) (fun _ => ?_))))))))
  exact WC_exit (fun a' ha' => ⟨rfl, ⟨(Sat.weaken ha' (s1 z)), s1s, h18⟩⟩)
 ·rintro x10 a31 w60 rfl ⟨hS61, s32, h18⟩
  have hm33 := elL hm1l
  revert a31
  refine Wo (Ws (Rm z (Ra z (Wn ?_))))
  obtain rfl := som hm33
  exact Wr (ret1 hr z ⟨(bup (bup h15 s17) s32), z, h18⟩)
 rintro r62 ex63 a64 w65 rfl ⟨rfl, hq34⟩
 have hm35 := elR hm1l
 obtain rfl := som hm35
 exact ⟨hq34, z⟩
theorem W_w0n {x1 : Desc} {res : Int} (hm : M_impl_RootOf x1 = some res) (hBw : B ≤ w0.z) (p1_0 : repS w0 B (sl A0 N0 C0) x1.rules) : CallsR prog 77 [(.agg #[sl A0 N0 C0])] w0 (Q0 w0 B res) := by
 unfold M_impl_RootOf at hm
 refine goF func77 z z (lb z) fun fn hr => Ws (E z (fb z) ?_)
 rintro _ w12 ⟨rfl, h10⟩
 have h11 := h10.below
 have h13 : Blk w12 w0.z [sl A0 N0 C0] := h10.blk
 refine Ra z (Wn (Ws (R z (fd f_30_0 z) (R z (l1 g_28 z fid (h13.at z)) (R z (lnR d_28 z (p1_0.ext h11)) (R z (sb_ z z) (Ra z (Wn ?_))))))))
 obtain rfl := som hm
 exact Wr (ret1 hr z ⟨h11, z, (iS _ _)⟩)
theorem W_w06 {x1 : Int} {x2 : Int} {x3 : Int} {res : Bool} (hm : M_impl_InRange x1 x2 x3 = some res) (hBw : B ≤ w0.z) (p1_0 : inI x1) (p2_0 : inI x2) (p3_0 : inI x3) : CallsR prog 176 [vI x1, vI x2, vI x3] w0 (Q7 w0 B res) := by
 unfold M_impl_InRange at hm
 refine goF func176 z z (lb z) fun fn hr => Ws (Ra z (Wn (Wq ?_)))
 obtain ⟨u13, hu12, hm14⟩ := bdS hm
 refine WC_cut (fun a w => ∃ (x11 : Bool), x11 = u13 ∧ Sat 15 [(6, vB x11)] a ∧ Below w0.z w0 w) ?_ ?_
 ·refine Wg (Rm z (Rm z (R z (rd_leq z z) (Rm z ?_))))
  rcases bs (decide (x2 ≤ x1)) with hc10 | hc10
  ·exact Rh z hc10 (mv z) (Rh z hc10 (mv z) (Rh z hc10 (rd_leq z z) (R z (pT z hc10 z) (Ra z (Wl (fun _ q => ⟨decide (x1 ≤ x3), som (ifT hu12 hc10), (q.k (s1 z)), (br w0)⟩))))))
  iterate 3 refine Nh z hc10 ?_
  exact R z (pF z hc10 z) (Ra z (Wl (fun _ q => ⟨false, som (ifF hu12 hc10), (q.k (s1 z)), (br w0)⟩)))
 rintro a15 w17 ⟨x11, rfl, hS18, s16⟩
 revert a15
 refine Wo ?_
 obtain rfl := som hm14
 exact Wr (ret1 hr z ⟨s16, z⟩)
theorem W_w0o {x1 : Desc} {x2 : Int} {res : Bool} (hm : M_impl_hasRule x1 x2 = some res) (hBw : B ≤ w0.z) (p1_0 : repS w0 B (sl A0 N0 C0) x1.rules) (p2_0 : inI x2) : CallsR prog 188 [(.agg #[sl A0 N0 C0]), vI x2] w0 (Q7 w0 B res) := by
 unfold M_impl_hasRule at hm
 refine goF func188 z z (lb z) fun fn hr => Ws (E z (fb z) ?_)
 rintro _ w11 ⟨rfl, h13⟩
 have h14 := h13.below
 have h16 : Blk w11 w0.z [sl A0 N0 C0] := h13.blk
 refine Ra z (Wn (Wq ?_))
 obtain ⟨u17, hu15, hm18⟩ := bdS hm
 refine WC_cut (fun a w => ∃ (x12 : Bool), x12 = u17 ∧ Sat 14 [(4, vB x12)] a ∧ Below w11.z w11 w) ?_ ?_
 ·refine Wg (Rm z (R z (rd_geq z z) (Rm z ?_)))
  rcases bs (decide (0 ≤ x2)) with hc10 | hc10
  ·exact Rh z hc10 (mv z) (Rh z hc10 (fd f_30_0 z) (Rh z hc10 (l1 g_28 z fid (h16.at z)) (Rh z hc10 (lnR d_28 z (p1_0.ext h14)) (Rh z hc10 (lss z z) (R z (pT z hc10 z) (Ra z (Wl (fun _ q => ⟨decide (x2 < (x1.rules.length : Int)), som (ifT hu15 hc10), (q.k (s1 z)), (br w11)⟩))))))))
  iterate 5 refine Nh z hc10 ?_
  exact R z (pF z hc10 z) (Ra z (Wl (fun _ q => ⟨false, som (ifF hu15 hc10), (q.k (s1 z)), (br w11)⟩)))
 rintro a19 w1b ⟨x12, rfl, hS1c, s1a⟩
 revert a19
 refine Wo ?_
 obtain rfl := som hm18
 exact Wr (ret1 hr z ⟨(bup h14 s1a), z⟩)
theorem W_w0p {x1 : Str} {res : Bool} (hm : M_impl_IsName n x1 = some res) (hBw : B ≤ w0.z) (p1_0 : x1.b.length ≤ LEN) : CallsR prog 181 [Str.v x1] w0 (Q7 w0 B res) := by
 unfold M_impl_IsName at hm
 refine goF func181 z z (lb z) fun fn hr => Ws (Ra z (Wn (Wq (Wq ?_))))
 obtain ⟨u22, hu1o, hm1p⟩ := bdS hm
 refine WC_cut (fun a w => ∃ (x1g : Bool), x1g = u22 ∧ Sat 43 [(0, Str.v x1), (14, vB x1g)] a ∧ Below w0.z w0 w) ?_ ?_
 ·refine Wg (Rm z (R z (lnT d_9 z) (R z (lss z z) (Rm z ?_))))
  rcases bs (decide ((x1.b.length : Int) < 1)) with hc14 | hc14
  ·iterate 3 refine Nh z hc14 ?_
   exact R z (pT z hc14 z) (Wl (fun _ q => ⟨true, som (ifT hu1o hc14), (q.k (s2 z z)), (br w0)⟩))
  exact Rh z hc14 (mv z) (Rh z hc14 (lnT d_9 z) (Rh z hc14 (rd_gtr z z) (R z (pF z hc14 z) (Wl (fun _ q => ⟨decide (12 < (x1.b.length : Int)), som (ifF hu1o hc14), (q.k (s2 z z)), (br w0)⟩)))))
 rintro a23 w10 ⟨x1g, rfl, hS2u, s19⟩
 revert a23
 refine Wo (Wc z (fun hc1h => ?_) (fun hc1h => ?_))
 ·refine Ws (Ra z (Wn ?_))
  obtain rfl := som (ifT hm1p hc1h)
  exact Wr (ret1 hr z ⟨s19, z⟩)
 refine Wk (Wq (Ws (Rm z (E z (ef_range d_9 z) ?_))))
 rintro _ w13 ⟨rfl, s1q, h24⟩
 refine Wn ?_
 obtain ⟨u2v, hu25, hm1r⟩ := bdS (ifF hm1p hc1h)
 refine WC_iter (σ := Nat) (ρ := Bool) (fun (x11 : Nat) a w => Sat 43 [(16, pt w10.z)] a ∧ Chg (· ∈ [w10.z]) w13 w ∧ IterAt w w10.z x1 x11) (fun (x11 : Nat) a w => Sat 43 [] a ∧ Chg (· ∈ [w10.z]) w13 w ∧ IterAt w w10.z x1 x11) (fun r ex a w => ex = .ret ∧ RetPost prog fn (Q7 w0 B r) a w) hu25 ?_ ?_ ?_ ?_
 ·exact fun _ q => ⟨(q.k (s1 z)), (cr [w10.z] w13), h24⟩
 ·rintro x11 a2w w1s o2x ⟨hS26, s1i, h1e⟩ hm1t
  refine Wu ?_ hS26
  refine Ws ?_
  rcases bs (decide (x11 < x1.b.length)) with hc1a | hc1a
  ·refine E z (ef_nextT z h1e (of_decide_eq_true hc1a)) ?_
   rintro _ w1b ⟨rfl, h27, s1u⟩
   refine R z (ext_ z z) (Wn (Wq (Wc z (fun _ => ?_) (fun hc => (bcon z hc).elim))))
   refine Wk (WC_block (Ws (R z (ext_ z z) (R z (ext_ z z) (Ra z (Ra z (Wn (Wq ?_))))))))
   obtain ⟨u28, hu1v, hm29⟩ := bdS (ifT hm1t hc1a)
   refine WC_cut (fun a w => ∃ (x1c : Bool), x1c = u28 ∧ Sat 43 [(3, vI (x11 : Int)), (4, (.int .i32 ((dec x1 x11).1))), (5, vB x1c), (16, pt w10.z)] a ∧ Below w1b.z w1b w) ?_ ?_
   ·refine Wg (Rm z (R z (rd_geq z z) (Rm z ?_)))
    rcases bs (decide (97 ≤ ((dec x1 x11).1))) with hc15 | hc15
    ·exact Rh z hc15 (mv z) (Rh z hc15 (rd_leq z z) (R z (pT z hc15 z) (Ra z (Wl (fun _ q => ⟨decide (((dec x1 x11).1) ≤ 122), som (ifT hu1v hc15), (q.k (s4 z z z z)), (br w1b)⟩)))))
    exact Nh z hc15 (Nh z hc15 (R z (pF z hc15 z) (Ra z (Wl (fun _ q => ⟨false, som (ifF hu1v hc15), (q.k (s4 z z z z)), (br w1b)⟩)))))
   rintro a2a w1d ⟨x1c, rfl, hS2y, s1j⟩
   revert a2a
   refine Wo (Wq ?_)
   obtain ⟨u2b, hu1w, hm2c⟩ := bdS hm29
   refine WC_cut (fun a w => ∃ (x1f : Bool), x1f = u2b ∧ Sat 43 [(3, vI (x11 : Int)), (5, vB x1c), (6, vB x1f), (16, pt w10.z)] a ∧ Below w1d.z w1d w) ?_ ?_
   ·refine Wg (Rm z (R z (rd_geq z z) (Rm z ?_)))
    rcases bs (decide (48 ≤ ((dec x1 x11).1))) with hc16 | hc16
    ·exact Rh z hc16 (mv z) (Rh z hc16 (rd_leq z z) (R z (pT z hc16 z) (Ra z (Wl (fun _ q => ⟨decide (((dec x1 x11).1) ≤ 57), som (ifT hu1w hc16), (q.k (s4 z z z z)), (br w1d)⟩)))))
    exact Nh z hc16 (Nh z hc16 (R z (pF z hc16 z) (Ra z (Wl (fun _ q => ⟨false, som (ifF hu1w hc16), (q.k (s4 z z z z)), (br w1d)⟩)))))
   rintro a2d w18 ⟨x1f, rfl, hS2z, s1k⟩
   revert a2d
   refine Wo (Wq ?_)
   obtain ⟨u2e, hu1x, hm1y⟩ := bdS hm2c
   refine WC_cut (fun a w => ∃ (x1l : Bool), x1l = u2e ∧ Sat 43 [(16, pt w10.z), (42, vB x1l)] a ∧ Below w18.z w18 w) ?_ ?_
   ·refine Wg (Rm z (R z (not_ z) (Rm z ?_)))
    rcases bs (!x1c) with hc12 | hc12
    ·have hm1z := ifT hu1x hc12
     refine Rh z hc12 (mv z) (Rh z hc12 (not_ z) (Rh z hc12 (mv z) ?_))
     rcases bs (!x1f) with hc17 | hc17
     ·exact Nh z hc17 (Nh z hc17 (Rh z hc12 (pT z hc17 z) (R z (pT z hc12 z) (Wl (fun _ q => ⟨true, som (ifT hm1z hc17), (q.k (s2 z z)), (br w18)⟩)))))
     exact Rh z hc17 (mv z) (Rh z hc17 (eql z z) (Rh z hc12 (pF z hc17 z) (R z (pT z hc12 z) (Wl (fun _ q => ⟨(x11 : Int) == 0, som (ifF hm1z hc17), (q.k (s2 z z)), (br w18)⟩)))))
    iterate 3 refine Nh z hc12 ?_
    exact Nv z (Nv z (Nh z hc12 (R z (pF z hc12 z) (Wl (fun _ q => ⟨false, som (ifF hu1x hc12), (q.k (s2 z z)), (br w18)⟩)))))
   rintro a2f w2g ⟨x1l, rfl, hS30, s1m⟩
   revert a2f
   refine Wo (Wc z (fun hc1n => ?_) (fun hc1n => ?_))
   ·refine Ws (Ra z (Wn ?_))
    have h20 := mem1le s19.size
    exact Wr (rtO (QO_retL (som (ifT hm1y hc1n)).symm (ret1 hr z ⟨(bup (bup (bup (bM (bM (bup s19 s1q) s1i h20) s1u h20) s1j) s1k) s1m), z⟩)))
   refine WC_skip ?_
   have h2h : Chg (· ∈ [w10.z]) w13 w1s := cM (cr [w10.z] w13) s1i (io sr)
   have h2i : Chg (· ∈ [w10.z]) w13 w1b := cM h2h s1u (io sr)
   have h2j : Chg (· ∈ [w10.z]) w13 w1d := cext h2i s1j
   have h2k : Chg (· ∈ [w10.z]) w13 w18 := cext h2j s1k
   have h2l : Chg (· ∈ [w10.z]) w13 w2g := cext h2k s1m
   exact fun _ q => ⟨x11 + (dec x1 x11).2, (som (ifF hm1y hc1n)).symm, ⟨(q.k (s1 z)), h2l, (((h27.ext s1j).ext s1k).ext s1m)⟩⟩
  refine E z (ef_nextF z h1e (of_decide_eq_false hc1a)) ?_
  rintro _ w2m ⟨rfl, s21⟩
  refine R z (ext_ z z) (Wn (Wq (Wc z (fun hc => (bcon hc z).elim) (fun _ => ?_))))
  have h2n : Chg (· ∈ [w10.z]) w13 w1s := cM (cr [w10.z] w13) s1i (io sr)
  have h2o : Chg (· ∈ [w10.z]) w13 w2m := cext h2n s21
  exact WC_exit (fun a' ha' => QO_brk (som (ifF hm1t hc1a)).symm ⟨(Sat.weaken ha' sn), h2o, (h1e.ext s21)⟩)
 ·rintro x11 a2p w31 rfl ⟨hS32, s2q, h1e⟩
  have hm2r := elL hm1r
  revert a2p
  refine Wo (Ws (Ra z (Wn ?_)))
  obtain rfl := som hm2r
  exact Wr (ret1 hr z ⟨(bM (bup s19 s1q) s2q (mem1le s19.size)), z⟩)
 rintro r33 ex34 a35 w36 rfl ⟨rfl, hq2s⟩
 have hm2t := elR hm1r
 obtain rfl := som hm2t
 exact ⟨hq2s, z⟩
theorem W_w05 {x1 : Rule} {x2 : Bool} {x3 : Bool} {x4 : Bool} {x5 : Bool} {x6 : Int} {res : Bool} (hm : M_impl_plainRule x1 x2 x3 x4 x5 x6 = some res) (hBw : B ≤ w0.z) (p1_0 : x1.name.b.length ≤ LEN) (p1_1 : inI x1.kind) (p1_2 : inI x1.size) (p1_4 : repS w0 B (sl A9 N9 C9) x1.bytes) (p1_5 : repS w0 B (sl A8 N8 C8) x1.names) (p1_6 : repS w0 B (sl AA NA CA) x1.tags) (p1_7 : repS w0 B (sl AB NB CB) x1.kids) (p6_0 : inI x6) : CallsR prog 224 [(.agg #[Str.v x1.name, vI x1.kind, vI x1.size, vB x1.little, sl A9 N9 C9, sl A8 N8 C8, sl AA NA CA, sl AB NB CB]), vB x2, vB x3, vB x4, vB x5, vI x6] w0 (Q7 w0 B res) := by
 unfold M_impl_plainRule at hm
 refine goF func224 z z (lb z) fun fn hr => Ws (E z (fb z) ?_)
 rintro _ w19 ⟨rfl, h1d⟩
 have h1a := h1d.below
 have h1b : Blk w19 w0.z (vR x1 A9 N9 C9 A8 N8 C8 AA NA CA AB NB CB) := h1d.blk
 refine Ra z (Wn (Wq ?_))
 obtain ⟨u1r, hu1s, hm1t⟩ := bdS hm
 refine WC_cut (fun a w => ∃ (x1c : Bool), x1c = u1r ∧ Sat 57 [(12, vB x1c)] a ∧ Below w19.z w19 w) ?_ ?_
 ·refine Wg (Rm z (Rm z ?_))
  obtain ⟨u1e, hu1f, hm1u⟩ := bdS hu1s
  refine WLcut 18 u1e 4 ?_ ?_
  ·rcases bs x2 with hc18 | hc18
   ·iterate 3 refine Nh z hc18 ?_
    exact R z (pT z hc18 z) (WLq 4 (ifT hu1f hc18) z z z)
   exact Rh z hc18 (fd f_80_2 z) (Rh z hc18 (l1 g_3 z fid (h1b.at z)) (Rh z hc18 (eql z z) (R z (pF z hc18 z) (WLq 4 (ifF hu1f hc18) z z z))))
  refine Rm z ?_
  obtain ⟨u1g, hu1h, hm1v⟩ := bdS hm1u
  refine WLcut 27 u1g 8 ?_ ?_
  ·rcases bs u1e with hc10 | hc10
   ·have hm1i := ifT hu1h hc10
    refine Rh z hc10 (mv z) (Rh z hc10 (mv z) ?_)
    rcases bs x3 with hc15 | hc15
    ·iterate 4 refine Nh z hc15 ?_
     exact Rh z hc10 (pT z hc15 z) (R z (pT z hc10 z) (WLq 8 (ifT hm1i hc15) z z z))
    exact Rh z hc15 (fd f_80_4 z) (Rh z hc15 (l1 g_25 z fid (h1b.at z)) (Rh z hc15 (lnR d_25 z (p1_4.ext h1a)) (Rh z hc15 (eql z z) (Rh z hc10 (pF z hc15 z) (R z (pT z hc10 z) (WLq 8 (ifF hm1i hc15) z z z))))))
   exact Nh z hc10 (Nh z hc10 (Nv z (Nv z (Nv z (Nv z (Nh z hc10 (R z (pF z hc10 z) (WLq 8 (ifF hu1h hc10) z z z))))))))
  refine Rm z ?_
  obtain ⟨u1j, hu1k, hm1w⟩ := bdS hm1v
  refine WLcut 36 u1j 8 ?_ ?_
  ·rcases bs u1g with hc11 | hc11
   ·have hm1l := ifT hu1k hc11
    refine Rh z hc11 (mv z) (Rh z hc11 (mv z) ?_)
    rcases bs x4 with hc16 | hc16
    ·iterate 4 refine Nh z hc16 ?_
     exact Rh z hc11 (pT z hc16 z) (R z (pT z hc11 z) (WLq 8 (ifT hm1l hc16) z z z))
    exact Rh z hc16 (fd f_80_5 z) (Rh z hc16 (l1 g_77 z fid (h1b.at z)) (Rh z hc16 (lnR d_77 z (p1_5.ext h1a)) (Rh z hc16 (eql z z) (Rh z hc11 (pF z hc16 z) (R z (pT z hc11 z) (WLq 8 (ifF hm1l hc16) z z z))))))
   exact Nh z hc11 (Nh z hc11 (Nv z (Nv z (Nv z (Nv z (Nh z hc11 (R z (pF z hc11 z) (WLq 8 (ifF hu1k hc11) z z z))))))))
  refine Rm z ?_
  obtain ⟨u1m, hu1n, hm1o⟩ := bdS hm1w
  refine WLcut 45 u1m 8 ?_ ?_
  ·rcases bs u1j with hc12 | hc12
   ·have hm1p := ifT hu1n hc12
    refine Rh z hc12 (mv z) (Rh z hc12 (mv z) ?_)
    rcases bs x5 with hc17 | hc17
    ·iterate 4 refine Nh z hc17 ?_
     exact Rh z hc12 (pT z hc17 z) (R z (pT z hc12 z) (WLq 8 (ifT hm1p hc17) z z z))
    exact Rh z hc17 (fd f_80_6 z) (Rh z hc17 (l1 g_78 z fid (h1b.at z)) (Rh z hc17 (lnR d_78 z (p1_6.ext h1a)) (Rh z hc17 (eql z z) (Rh z hc12 (pF z hc17 z) (R z (pT z hc12 z) (WLq 8 (ifF hm1p hc17) z z z))))))
   exact Nh z hc12 (Nh z hc12 (Nv z (Nv z (Nv z (Nv z (Nh z hc12 (R z (pF z hc12 z) (WLq 8 (ifF hu1n hc12) z z z))))))))
  refine Rm z ?_
  rcases bs u1m with hc13 | hc13
  ·have hm1q := ifT hm1o hc13
   refine Rh z hc13 (mv z) (Rh z hc13 (lss z z) (Rh z hc13 (mv z) ?_))
   rcases bs (decide (x6 < 0)) with hc14 | hc14
   ·iterate 5 refine Nh z hc14 ?_
    exact Rh z hc13 (pT z hc14 z) (R z (pT z hc13 z) (Ra z (Wl (fun _ q => ⟨true, som (ifT hm1q hc14), (q.k (s1 z)), (br w19)⟩))))
   exact Rh z hc14 (fd f_80_7 z) (Rh z hc14 (l1 g_78 z fid (h1b.at z)) (Rh z hc14 (lnR d_78 z (p1_7.ext h1a)) (Rh z hc14 (mv z) (Rh z hc14 (eql z z) (Rh z hc13 (pF z hc14 z) (R z (pT z hc13 z) (Ra z (Wl (fun _ q => ⟨(x1.kids.length : Int) == x6, som (ifF hm1q hc14), (q.k (s1 z)), (br w19)⟩)))))))))
  iterate 3 refine Nh z hc13 ?_
  exact Nv z (Nv z (Nv z (Nv z (Nv z (Nh z hc13 (R z (pF z hc13 z) (Ra z (Wl (fun _ q => ⟨false, som (ifF hm1o hc13), (q.k (s1 z)), (br w19)⟩)))))))))
 rintro a1x w1z ⟨x1c, rfl, hS20, s1y⟩
 revert a1x
 refine Wo ?_
 obtain rfl := som hm1t
 exact Wr (ret1 hr z ⟨(bup h1a s1y), z⟩)
theorem W_w0q {x1 : Desc} {x2 : Int} {res : Int} (hm : M_impl_IntegerLimit x1 x2 = some res) (hBw : B ≤ w0.z) (p1_0 : repS w0 B (sl A0 N0 C0) x1.rules) (p2_0 : inI x2) : CallsR prog 225 [(.agg #[sl A0 N0 C0]), vI x2] w0 (Q0 w0 B res) := by
 unfold M_impl_IntegerLimit at hm
 refine goF func225 z z (lb z) fun fn hr => Ws (E z (fb z) ?_)
 rintro _ w15 ⟨rfl, h19⟩
 have h12 := h19.below
 have h16 : Blk w15 w0.z [sl A0 N0 C0] := h19.blk
 refine Ra z (Wn (Wq (Wq ?_)))
 obtain ⟨u1g, hu1h, hm1a⟩ := bdS hm
 refine WC_cut (fun a w => ∃ (x17 : Bool), x17 = u1g ∧ Sat 37 [(1, vI x2), (2, pt w0.z), (27, vB x17)] a ∧ Below w15.z w15 w) ?_ ?_
 ·refine Wg (R z (lN (vs := [sl A0 N0 C0]) g_30 z_30 z z fid (h16.row 0 1 z)) (Rm z ?_))
  have h1b := p1_0.ext h12
  obtain ⟨r1i, e1j, hm1c⟩ := bdS hu1h
  refine E z (fc call188 z (W_w0o (B := B) e1j (lt_ hBw h12.size) h1b p2_0)) ?_
  rintro _ w24 ⟨s13, rfl⟩
  refine R z (not_ z) (Rm z ?_)
  rcases bs (!r1i) with hc11 | hc11
  ·iterate 7 refine Nh z hc11 ?_
   exact R z (pT z hc11 z) (Rm z (Nh z z (Nh z z (Nh z z (Nh z z (Nh z z (Nh z z (Nh z z (Nh z z (R z (pT z z z) (Wl (fun _ q => ⟨true, som (ifT hm1c hc11), (q.k (s3 z z z)), s13⟩))))))))))))
  refine Rh z hc11 (fd f_30_0 z) ?_
  have h1d := h16.ext s13
  refine Rh z hc11 (l1 g_28 z fid (h1d.at z)) (Rh z hc11 (mv z) ?_)
  obtain ⟨x1k, e1l, hm1e⟩ := bdS (ifF hm1c hc11)
  have h1f := h1b.ext s13
  refine RXg z z hc11 z (at_ (α := Rule) d_28 z_80 z z z h1f e1l) ?_
  rintro _ ⟨b25, o26, cs27, rfl, h1m, h1n, h28⟩
  obtain ⟨a29, n2a, c2b, a2c, n2d, c2e, a2f, n2g, c2h, a2i, n2j, c2k, rfl, h2l, h2m, h2n, h2o, h2p, h2q, h2r⟩ := Rule_open h1n
  refine Rh z hc11 (fd f_80_1 z) (Rh z hc11 (l1 g_3 z fid (h1m.at (j := 1) z)) (Rh z hc11 (nq z z) (R z (pF z hc11 z) (Rm z ?_))))
  rcases bs (x1k.kind != 1) with hc10 | hc10
  ·iterate 8 refine Nh z hc10 ?_
   exact R z (pT z hc10 z) (Wl (fun _ q => ⟨true, som (ifT hm1e hc10), (q.k (s3 z z z)), s13⟩))
  refine Rh z hc10 (fd f_30_0 z) (Rh z hc10 (l1 g_28 z fid (h1d.at z)) (Rh z hc10 (mv z) ?_))
  obtain ⟨x2s, e1o, hm1p⟩ := bdS (ifF hm1e hc10)
  refine RXg z z hc10 z (at_ (α := Rule) d_28 z_80 z z z h1f e1o) ?_
  rintro _ ⟨b2t, o2u, cs2v, rfl, h1q, h1r, h2w⟩
  obtain ⟨a2x, n2y, c2z, a30, n31, c32, a33, n34, c35, a36, n37, c38, rfl, h39, h3a, h1s, h3b, h3c, h3d, h3e⟩ := Rule_open h1r
  refine Rh z hc10 (fd f_80_2 z) (Rh z hc10 (l1 g_3 z fid (h1q.at (j := 2) z)) ?_)
  obtain ⟨r1t, e1u, hm1v⟩ := bdS hm1p
  refine Eg z z hc10 z (fc call176 z (W_w06 (B := B) e1u (lt_ hBw (lt_ h12.size s13.size)) h1s (ii z) (ii z))) ?_
  rintro _ w3f ⟨s1w, rfl⟩
  exact Rh z hc10 (not_ z) (R z (pF z hc10 z) (Wl (fun _ q => ⟨!r1t, som hm1v, (q.k (s3 z z z)), (bup s13 s1w)⟩)))
 rintro a1x w3g ⟨x17, rfl, hS3h, s14⟩
 revert a1x
 refine Wo (Wc z (fun hc18 => ?_) (fun hc18 => ?_))
 ·refine Ws (Ra z (Wn ?_))
  obtain rfl := som (ifT hm1a hc18)
  exact Wr (ret1 hr z ⟨(bup h12 s14), z, (ii z)⟩)
 refine Wk (Ws (R z (fd f_30_0 z) (R z (l1 g_28 z fid ((h16.ext s14).at z)) (Rm z ?_))))
 obtain ⟨x3i, e1y, hm1z⟩ := bdS (ifF hm1a hc18)
 refine RX z (at_ (α := Rule) d_28 z_80 z z z ((p1_0.ext h12).ext s14) e1y) ?_
 rintro _ ⟨b3j, o3k, cs3l, rfl, h20, h21, h3m⟩
 obtain ⟨a3n, n3o, c3p, a3q, n3r, c3s, a3t, n3u, c3v, a3w, n3x, c3y, rfl, h3z, h40, h41, h42, h43, h44, h45⟩ := Rule_open h21
 refine R z (fd f_80_2 z) (R z (l1 g_3 z fid (h20.at (j := 2) z)) (R z (rd_mul z z) ?_))
 obtain ⟨u46, e22, hm23⟩ := bdS hm1z
 refine R z (rd_shl z z (nnS e22)) (R z (sb_ z z) (Ra z (Wn ?_)))
 obtain rfl := som hm23
 exact Wr (ret1 hr z ⟨(bup h12 s14), z, (iS _ _)⟩)
theorem W_w2f {x1 : List Str} {x2 : Str} {res : Bool} (hm : M_impl_ContainsText x1 x2 = some res) (hBw : B ≤ w0.z) (p1_0 : repS w0 B (sl A0 N0 C0) x1) (p2_0 : x2.b.length ≤ LEN) : CallsR prog 185 [sl A0 N0 C0, Str.v x2] w0 (Q7 w0 B res) := by
 unfold M_impl_ContainsText at hm
 refine goF func185 z z (lb z) fun fn hr => Ws (Ra z (Wn (Wq (Ws (Rm z (R z (lnR d_77 z p1_0) (Rm z (Wn ?_))))))))
 obtain ⟨u1j, hu16, hm13⟩ := bdS hm
 refine WC_forN (σ := Unit) (ρ := Bool) (fun (k10 : Nat) (_ : Unit) a w => Sat 17 [(1, Str.v x2), (7, sl A0 N0 C0), (8, vI (x1.length : Int)), (9, (vI ((k10 : Nat) : Int)))] a ∧ Below w0.z w0 w) (fun (_ : Unit) a w => Sat 17 [] a ∧ Below w0.z w0 w) (fun r ex a w => ex = .ret ∧ RetPost prog fn (Q7 w0 B r) a w) hu16 ?_ ?_ ?_ ?_ ?_
 ·exact fun _ q => ⟨(q.k (s4 z z z z)), (br w0)⟩
 ·rintro k10 _ a1k w1l o1m hk14 ⟨hS17, s11⟩ hm18
  refine Wu ?_ hS17
  refine Ws (R z (lss z z) (Wn (Wq (Wc z (fun _ => ?_) (fun hc => (nolt hk14 hc).elim)))))
  refine Wk (Wq (WC_block (Ws ?_)))
  obtain ⟨x1n, e19, hm15⟩ := bdS hm18
  refine RX z (at_ (α := Str) d_77 z_9 z z z (p1_0.ext s11) e19) ?_
  rintro _ ⟨b1o, o1p, cs1q, rfl, h1a, h1b, h1r⟩
  obtain ⟨rfl, h1s⟩ := Str_open h1b
  refine R z (l1 g_9 z fid (h1a.at0 z)) (Ra z (Wn (Ws (Rm z (Rm z (R z (rd_eqlT z z) (Wn (Wc z (fun hc12 => ?_) (fun hc12 => ?_)))))))))
  ·exact Ws (Ra z (Wn (Wr (rtO (QO_retL (som (ifT hm15 hc12)).symm (ret1 hr z ⟨s11, z⟩))))))
  exact Wk (Wg (R z (inc_ hk14 (lt_ (repS.len p1_0) LEN_le) z z) (Rm z (Wl (fun _ q => ⟨(), (som (ifF hm15 hc12)).symm, ⟨(q.k (s4 z z z z)), s11⟩⟩)))))
 ·rintro _ a1t w1u ⟨hS1c, s1d⟩
  refine Wu ?_ hS1c
  refine Ws (R z (lss z z) (Wn (Wq (Wc z (fun hc => (noltt hc).elim) (fun _ => ?_)))))
  exact WC_exit (fun a' ha' => ⟨rfl, ⟨(Sat.weaken ha' sn), s1d⟩⟩)
 ·rintro _ a1e w1v rfl ⟨hS1w, s1f⟩
  have hm1g := elL hm13
  revert a1e
  refine Wo (Ws (Ra z (Wn ?_)))
  obtain rfl := som hm1g
  exact Wr (ret1 hr z ⟨s1f, z⟩)
 rintro r1x ex1y a1z w20 rfl ⟨rfl, hq1h⟩
 have hm1i := elR hm13
 obtain rfl := som hm1i
 exact ⟨hq1h, z⟩
theorem W_w2g {x1 : Rule} {res : Bool} (hm : M_impl_validSequence n x1 = some res) (hBw : B ≤ w0.z) (p1_0 : x1.name.b.length ≤ LEN) (p1_1 : inI x1.kind) (p1_2 : inI x1.size) (p1_4 : repS w0 B (sl A9 N9 C9) x1.bytes) (p1_5 : repS w0 B (sl A8 N8 C8) x1.names) (p1_6 : repS w0 B (sl AA NA CA) x1.tags) (p1_7 : repS w0 B (sl AB NB CB) x1.kids) : CallsR prog 226 [(.agg #[Str.v x1.name, vI x1.kind, vI x1.size, vB x1.little, sl A9 N9 C9, sl A8 N8 C8, sl AA NA CA, sl AB NB CB])] w0 (Q7 w0 B res) := by
 unfold M_impl_validSequence at hm
 refine goF func226 z z (lb z) fun fn hr => Ws (E z (fb z) ?_)
 rintro _ w1a ⟨rfl, h1i⟩
 have h12 := h1i.below
 have h1b : Blk w1a w0.z (vR x1 A9 N9 C9 A8 N8 C8 AA NA CA AB NB CB) := h1i.blk
 refine Ra z (Wn (Wq (Wq ?_)))
 obtain ⟨u1z, hu20, hm1j⟩ := bdS hm
 refine WC_cut (fun a w => ∃ (x1c : Bool), x1c = u1z ∧ Sat 44 [(1, pt w0.z), (23, vB x1c)] a ∧ Below w1a.z w1a w) ?_ ?_
 ·refine Wg (R z (lN (vs := (vR x1 A9 N9 C9 A8 N8 C8 AA NA CA AB NB CB)) g_80 z_80 z z fid (h1b.row 0 8 z)) ?_)
  have h1k := p1_5.ext h12
  have h1l := p1_7.ext h12
  obtain ⟨r21, e22, hm1m⟩ := bdS hu20
  refine E z (fc call224 z (W_w05 (B := B) e22 (lt_ hBw h12.size) p1_0 p1_1 p1_2 (p1_4.ext h12) h1k (p1_6.ext h12) h1l (ii z))) ?_
  rintro _ w2y ⟨s14, rfl⟩
  refine R z (not_ z) (Rm z ?_)
  rcases bs (!r21) with hc10 | hc10
  ·iterate 7 refine Nh z hc10 ?_
   exact R z (pT z hc10 z) (Rm z (Nh z z (Nh z z (Nh z z (Nh z z (Nh z z (R z (pT z z z) (Wl (fun _ q => ⟨true, som (ifT hm1m hc10), (q.k (s2 z z)), s14⟩)))))))))
  have hm1n := ifF hm1m hc10
  refine Rh z hc10 (fd f_80_7 z) ?_
  have h1d := h1b.ext s14
  refine Rh z hc10 (l1 g_78 z fid (h1d.at z)) ?_
  have h1e := h1l.ext s14
  refine Rh z hc10 (lnR d_78 z h1e) (Rh z hc10 (fd f_80_5 z) (Rh z hc10 (l1 g_77 z fid (h1d.at z)) (Rh z hc10 (lnR d_77 z (h1k.ext s14)) (Rh z hc10 (nq z z) (R z (pF z hc10 z) (Rm z ?_))))))
  rcases bs ((x1.kids.length : Int) != (x1.names.length : Int)) with hc13 | hc13
  ·iterate 5 refine Nh z hc13 ?_
   exact R z (pT z hc13 z) (Wl (fun _ q => ⟨true, som (ifT hm1n hc13), (q.k (s2 z z)), s14⟩))
  refine Rh z hc13 (fd f_80_7 z) (Rh z hc13 (l1 g_78 z fid (h1d.at z)) (Rh z hc13 (lnR d_78 z h1e) ?_))
  obtain ⟨r23, e24, hm25⟩ := bdS (ifF hm1n hc13)
  refine Eg z z hc13 z (fc call176 z (W_w06 (B := B) e24 (lt_ hBw (lt_ h12.size s14.size)) (inI_len (repS.len h1e)) (ii z) (ii z))) ?_
  rintro _ w2z ⟨s26, rfl⟩
  exact Rh z hc13 (not_ z) (R z (pF z hc13 z) (Wl (fun _ q => ⟨!r23, som hm25, (q.k (s2 z z)), (bup s14 s26)⟩)))
 rintro a27 w16 ⟨x1c, rfl, hS30, s15⟩
 revert a27
 refine Wo (Wc z (fun hc1f => ?_) (fun hc1f => ?_))
 ·refine Ws (Ra z (Wn ?_))
  obtain rfl := som (ifT hm1j hc1f)
  exact Wr (ret1 hr z ⟨(bup h12 s15), z⟩)
 refine Wk (Wq (Ws (R z (fd f_80_5 z) ?_)))
 have h1o := h1b.ext s15
 refine R z (l1 g_77 z fid (h1o.at z)) ?_
 have h1p := (p1_5.ext h12).ext s15
 refine R z (lnR d_77 z h1p) (Rm z (Wn ?_))
 obtain ⟨u31, hu28, hm1q⟩ := bdS (ifF hm1j hc1f)
 refine WC_forN (σ := Unit) (ρ := Bool) (fun (k19 : Nat) (_ : Unit) a w => Sat 44 [(1, pt w0.z), (25, sl A8 N8 C8), (26, vI (x1.names.length : Int)), (27, (vI ((k19 : Nat) : Int)))] a ∧ Below w16.z w16 w) (fun (_ : Unit) a w => Sat 44 [] a ∧ Below w16.z w16 w) (fun r ex a w => ex = .ret ∧ RetPost prog fn (Q7 w0 B r) a w) hu28 ?_ ?_ ?_ ?_ ?_
 ·exact fun _ q => ⟨(q.k (s4 z z z z)), (br w16)⟩
 ·rintro k19 _ a32 w1r o33 hk1s ⟨hS29, s17⟩ hm2a
  refine Wu ?_ hS29
  refine Ws (R z (lss z z) (Wn (Wq (Wc z (fun _ => ?_) (fun hc => (nolt hk1s hc).elim)))))
  refine Wk (Wq (WC_block (Ws (Rm z ?_))))
  obtain ⟨x34, e2b, hm2c⟩ := bdS hm2a
  have h1t := h1p.ext s17
  refine RX z (at_ (α := Str) d_77 z_9 z z z h1t e2b) ?_
  rintro _ ⟨b35, o36, cs37, rfl, h2d, h2e, h38⟩
  obtain ⟨rfl, h1u⟩ := Str_open h2e
  refine R z (l1 g_9 z fid (h2d.at0 z)) (Ra z (Ra z (Wn (Wq ?_))))
  obtain ⟨u2f, hu2g, hm1v⟩ := bdS hm2c
  refine WC_cut (fun a w => ∃ (x1g : Bool), x1g = u2f ∧ Sat 44 [(1, pt w0.z), (25, sl A8 N8 C8), (26, vI (x1.names.length : Int)), (27, (vI ((k19 : Nat) : Int))), (42, vB x1g)] a ∧ Below w1r.z w1r w) ?_ ?_
  ·refine Wg (Rm z ?_)
   have h1w := lt_ (lt_ h12.size s15.size) s17.size
   obtain ⟨r2h, e2i, hm1x⟩ := bdS hu2g
   refine E z (fc call181 z (W_w0p (B := B) e2i (lt_ hBw h1w) h1u)) ?_
   rintro _ w39 ⟨s18, rfl⟩
   refine R z (not_ z) (Rm z ?_)
   rcases bs (!r2h) with hc11 | hc11
   ·iterate 6 refine Nh z hc11 ?_
    exact R z (pT z hc11 z) (Wl (fun _ q => ⟨true, som (ifT hm1x hc11), (q.k (s5 z z z z z)), s18⟩))
   refine Rh z hc11 (fd f_80_5 z) (Rh z hc11 (l1 g_77 z fid (((h1o.ext s17).ext s18).at z)) (Rh z hc11 (mv z) ?_))
   obtain ⟨x3a, e2j, hm2k⟩ := bdS (ifF hm1x hc11)
   refine RXg z z hc11 z (rd_sliceX d_77 z_9 z z (h1t.ext s18) z z e2j) ?_
   rintro _ ⟨a3b, n3c, c3d, rfl, h2l⟩
   refine Rh z hc11 (mv z) ?_
   obtain ⟨r2m, e2n, hm2o⟩ := bdS hm2k
   refine Eg z z hc11 z (fc call185 z (W_w2f (B := B) e2n (lt_ hBw (lt_ h1w s18.size)) h2l h1u)) ?_
   rintro _ w3e ⟨s2p, rfl⟩
   exact R z (pF z hc11 z) (Wl (fun _ q => ⟨r2m, som hm2o, (q.k (s5 z z z z z)), (bup s18 s2p)⟩))
  rintro a2q w3f ⟨x1g, rfl, hS3g, s1y⟩
  revert a2q
  refine Wo (Wc z (fun hc1h => ?_) (fun hc1h => ?_))
  ·exact Ws (Ra z (Wn (Wr (rtO (QO_retL (som (ifT hm1v hc1h)).symm (ret1 hr z ⟨(bup (bup (bup h12 s15) s17) s1y), z⟩))))))
  exact Wk (Wg (R z (inc_ hk1s (lt_ (repS.len p1_5) LEN_le) z z) (Rm z (Wl (fun _ q => ⟨(), (som (ifF hm1v hc1h)).symm, ⟨(q.k (s4 z z z z)), (bup s17 s1y)⟩⟩)))))
 ·rintro _ a3h w3i ⟨hS2r, s2s⟩
  refine Wu ?_ hS2r
  refine Ws (R z (lss z z) (Wn (Wq (Wc z (fun hc => (noltt hc).elim) (fun _ => ?_)))))
  exact WC_exit (fun a' ha' => ⟨rfl, ⟨(Sat.weaken ha' sn), s2s⟩⟩)
 ·rintro _ a2t w3j rfl ⟨hS3k, s2u⟩
  have hm2v := elL hm1q
  revert a2t
  refine Wo (Ws (Ra z (Wn ?_)))
  obtain rfl := som hm2v
  exact Wr (ret1 hr z ⟨(bup (bup h12 s15) s2u), z⟩)
 rintro r3l ex3m a3n w3o rfl ⟨rfl, hq2w⟩
 have hm2x := elR hm1q
 obtain rfl := som hm2x
 exact ⟨hq2w, z⟩
theorem W_w2h {x1 : Desc} {x2 : Rule} {res : Bool} (hm : M_impl_validChoice x1 x2 = some res) (hBw : B ≤ w0.z) (p1_0 : repS w0 B (sl A0 N0 C0) x1.rules) (p2_0 : x2.name.b.length ≤ LEN) (p2_1 : inI x2.kind) (p2_2 : inI x2.size) (p2_4 : repS w0 B (sl A2 N2 C2) x2.bytes) (p2_5 : repS w0 B (sl A3 N3 C3) x2.names) (p2_6 : repS w0 B (sl A1 N1 C1) x2.tags) (p2_7 : repS w0 B (sl A4 N4 C4) x2.kids) : CallsR prog 227 [(.agg #[sl A0 N0 C0]), (.agg #[Str.v x2.name, vI x2.kind, vI x2.size, vB x2.little, sl A2 N2 C2, sl A3 N3 C3, sl A1 N1 C1, sl A4 N4 C4])] w0 (Q7 w0 B res) := by
 unfold M_impl_validChoice at hm
 refine goF func227 z z (lb z) fun fn hr => Ws (E z (fb z) ?_)
 rintro _ w17 ⟨rfl, h1m⟩
 have h13 := h1m.below
 have h24 : Blk w17 w0.z [sl A0 N0 C0] := h1m.blk
 refine E z (fb z) ?_
 rintro _ w1g ⟨rfl, h1n⟩
 have h11 := h1n.below
 have h1f : Blk w1g w17.z (vR x2 A2 N2 C2 A3 N3 C3 A1 N1 C1 A4 N4 C4) := h1n.blk
 refine Ra z (Wn (Wq (Wq ?_)))
 obtain ⟨u25, hu26, hm1o⟩ := bdS hm
 refine WC_cut (fun a w => ∃ (x1h : Bool), x1h = u25 ∧ Sat 57 [(2, pt w0.z), (3, pt w17.z), (21, vB x1h)] a ∧ Below w1g.z w1g w) ?_ ?_
 ·refine Wg (R z (lN (vs := (vR x2 A2 N2 C2 A3 N3 C3 A1 N1 C1 A4 N4 C4)) g_80 z_80 z z fid (h1f.row 0 8 z)) (R z (fd f_80_6 z) (R z (l1 g_78 z fid (h1f.at z)) ?_)))
  have h1i := (p2_6.ext h13).ext h11
  refine R z (lnR d_78 z h1i) (R z (add_ z z) ?_)
  have h1p := lt_ h13.size h11.size
  obtain ⟨r27, e28, hm1q⟩ := bdS hu26
  refine E z (fc call224 z (W_w05 (B := B) e28 (lt_ hBw h1p) p2_0 p2_1 p2_2 ((p2_4.ext h13).ext h11) ((p2_5.ext h13).ext h11) h1i ((p2_7.ext h13).ext h11) (iA _ _))) ?_
  rintro _ w3c ⟨s18, rfl⟩
  refine R z (not_ z) (Rm z ?_)
  rcases bs (!r27) with hc14 | hc14
  ·iterate 5 refine Nh z hc14 ?_
   exact R z (pT z hc14 z) (Wl (fun _ q => ⟨true, som (ifT hm1q hc14), (q.k (s3 z z z)), s18⟩))
  refine Rh z hc14 (fd f_80_6 z) (Rh z hc14 (l1 g_78 z fid ((h1f.ext s18).at z)) ?_)
  have h1r := h1i.ext s18
  refine Rh z hc14 (lnR d_78 z h1r) ?_
  obtain ⟨r29, e2a, hm2b⟩ := bdS (ifF hm1q hc14)
  refine Eg z z hc14 z (fc call176 z (W_w06 (B := B) e2a (lt_ hBw (lt_ h1p s18.size)) (inI_len (repS.len h1r)) (ii z) (ii z))) ?_
  rintro _ w3d ⟨s2c, rfl⟩
  exact Rh z hc14 (not_ z) (R z (pF z hc14 z) (Wl (fun _ q => ⟨!r29, som hm2b, (q.k (s3 z z z)), (bup s18 s2c)⟩)))
 rintro a2d w3e ⟨x1h, rfl, hS3f, s15⟩
 revert a2d
 refine Wo (Wc z (fun hc1j => ?_) (fun hc1j => ?_))
 ·refine Ws (Ra z (Wn ?_))
  obtain rfl := som (ifT hm1o hc1j)
  exact Wr (ret1 hr z ⟨(bup (bup h13 h11) s15), z⟩)
 refine Wk (Wq (WC_draw (X := noX) 0 (.rd 0 (.rd 1 (.rd 2 (.rd 3 (.rd 4 (.ef 5 (.rd 6 .done))))))) mo (by kernel_rfl) fun w3g s16 _ => dR z z (lN (vs := [sl A0 N0 C0]) g_30 z_30 z z fid ((((h24.ext h11).ext s15).ext s16).row 0 1 z)) (dR z z (fd f_80_7 z) ?_)))
 have h1s := (h1f.ext s15).ext s16
 refine dR z z (l1 g_78 z fid (h1s.at z)) ?_
 obtain ⟨x3h, e2e, hm2f⟩ := bdS (ifF hm1o hc1j)
 refine dRX z z (at_ (α := Int) d_78 z_3 z z z ((((p2_7.ext h13).ext h11).ext s15).ext s16) e2e) ?_
 rintro _ ⟨b3i, o3j, cs3k, rfl, h2g, h2h, h3l⟩
 obtain ⟨rfl, h2i⟩ := Int_open h2h
 refine dR z z (l1 g_3 z fid (h2g.at0 z)) ?_
 have h1t := lt_ (lt_ (lt_ h13.size h11.size) s15.size) s16.size
 obtain ⟨r19, e2j, hm2k⟩ := bdS hm2f
 refine dE z z (fc call225 z (W_w0q (B := B) e2j (lt_ hBw h1t) ((((p1_0.ext h13).ext h11).ext s15).ext s16) h2i)) (.inr fun _ _ h => chgB (h.1)) ?_
 rintro _ w1a ⟨s1b, rfl, h2l⟩
 refine dR z z (asg z) (PR_done (Wo (Wq (Ws (R z (fd f_80_6 z) ?_)))))
 have h1u := h1s.ext s1b
 refine R z (l1 g_78 z fid (h1u.at z)) ?_
 have h1v := ((((p2_6.ext h13).ext h11).ext s15).ext s16).ext s1b
 refine R z (lnR d_78 z h1v) (Rm z (Wn ?_))
 obtain ⟨u3m, hu2m, hm1w⟩ := bdS hm2k
 refine WC_forN (σ := Unit) (ρ := Bool) (fun (k1c : Nat) (_ : Unit) a w => Sat 57 [(3, pt w17.z), (5, vI r19), (29, sl A1 N1 C1), (30, vI (x2.tags.length : Int)), (31, (vI ((k1c : Nat) : Int)))] a ∧ Below w1a.z w1a w) (fun (_ : Unit) a w => Sat 57 [(5, vI r19)] a ∧ Below w1a.z w1a w) (fun r ex a w => ex = .ret ∧ RetPost prog fn (Q7 w0 B r) a w) hu2m ?_ ?_ ?_ ?_ ?_
 ·exact fun _ q => ⟨(q.k (s5 z z z z z)), (br w1a)⟩
 ·rintro k1c _ a3n w1x o3o hk1y ⟨hS2n, s1d⟩ hm2o
  refine Wu ?_ hS2n
  refine Ws (R z (lss z z) (Wn (Wq (Wc z (fun _ => ?_) (fun hc => (nolt hk1y hc).elim)))))
  refine Wk (Wq (WC_block (Ws (Rm z ?_))))
  obtain ⟨x2p, e2q, hm2r⟩ := bdS hm2o
  have h1z := h1v.ext s1d
  refine RX z (at_ (α := Int) d_78 z_3 z z z h1z e2q) ?_
  rintro _ ⟨b3p, o3q, cs3r, rfl, h2s, h2t, h3s⟩
  obtain ⟨rfl, h2u⟩ := Int_open h2t
  refine R z (l1 g_3 z fid (h2s.at0 z)) (Ra z (Ra z (Wn (Wq ?_))))
  obtain ⟨u2v, hu2w, hm20⟩ := bdS hm2r
  refine WC_cut (fun a w => ∃ (x1k : Bool), x1k = u2v ∧ Sat 57 [(3, pt w17.z), (5, vI r19), (29, sl A1 N1 C1), (30, vI (x2.tags.length : Int)), (31, (vI ((k1c : Nat) : Int))), (53, vB x1k)] a ∧ Below w1x.z w1x w) ?_ ?_
  ·refine Wg (Rm z (Rm z ?_))
   obtain ⟨r2x, e2y, hm21⟩ := bdS hu2w
   refine E z (fc call176 z (W_w06 (B := B) e2y (lt_ hBw (lt_ (lt_ h1t s1b.size) s1d.size)) h2u (ii z) h2l)) ?_
   rintro _ w3t ⟨s1e, rfl⟩
   refine R z (not_ z) (Rm z ?_)
   rcases bs (!r2x) with hc12 | hc12
   ·iterate 3 refine Nh z hc12 ?_
    exact Nv z (Nv z (Nv z (Nv z (Nv z (Nv z (Nv z (Nv z (Nh z hc12 (R z (pT z hc12 z) (Wl (fun _ q => ⟨true, som (ifT hm21 hc12), (q.k (s6 z z z z z z)), s1e⟩)))))))))))
   have hm22 := ifF hm21 hc12
   refine Rh z hc12 (mv z) (Rh z hc12 (rd_gtr z z) (Rh z hc12 (mv z) ?_))
   rcases bs (decide (0 < ((k1c : Nat) : Int))) with hc10 | hc10
   ·refine Rh z hc10 (fd f_80_6 z) (Rh z hc10 (l1 g_78 z fid (((h1u.ext s1d).ext s1e).at z)) (Rh z hc10 (mv z) (Rh z hc10 (sb_ z z) ?_)))
    obtain ⟨x2z, e30, hm31⟩ := bdS (ifT hm22 hc10)
    refine RXg z z hc10 z (at_ (α := Int) d_78 z_3 z z z (h1z.ext s1e) e30) ?_
    rintro _ ⟨b3u, o3v, cs3w, rfl, h32, h33, h3x⟩
    obtain ⟨rfl, h3y⟩ := Int_open h33
    exact Rh z hc10 (l1 g_3 z fid (h32.at0 z)) (Rh z hc10 (mv z) (Rh z hc10 (rd_geq z z) (Rh z hc12 (pT z hc10 z) (R z (pF z hc12 z) (Wl (fun _ q => ⟨decide (x2p ≤ x2z), som hm31, (q.k (s6 z z z z z z)), s1e⟩))))))
   iterate 8 refine Nh z hc10 ?_
   exact Rh z hc12 (pF z hc10 z) (R z (pF z hc12 z) (Wl (fun _ q => ⟨false, som (ifF hm22 hc10), (q.k (s6 z z z z z z)), s1e⟩)))
  rintro a34 w3z ⟨x1k, rfl, hS40, s23⟩
  revert a34
  refine Wo (Wc z (fun hc1l => ?_) (fun hc1l => ?_))
  ·exact Ws (Ra z (Wn (Wr (rtO (QO_retL (som (ifT hm20 hc1l)).symm (ret1 hr z ⟨(bup (bup (bup (bup (bup (bup h13 h11) s15) s16) s1b) s1d) s23), z⟩))))))
  exact Wk (Wg (R z (inc_ hk1y (lt_ (repS.len p2_6) LEN_le) z z) (Rm z (Wl (fun _ q => ⟨(), (som (ifF hm20 hc1l)).symm, ⟨(q.k (s5 z z z z z)), (bup s1d s23)⟩⟩)))))
 ·rintro _ a41 w42 ⟨hS35, s36⟩
  refine Wu ?_ hS35
  refine Ws (R z (lss z z) (Wn (Wq (Wc z (fun hc => (noltt hc).elim) (fun _ => ?_)))))
  exact WC_exit (fun a' ha' => ⟨rfl, ⟨(Sat.weaken ha' (s1 z)), s36⟩⟩)
 ·rintro _ a37 w43 rfl ⟨hS44, s38⟩
  have hm39 := elL hm1w
  revert a37
  refine Wo (Ws (Rm z (R z (rd_gtr z z) (Ra z (Wn ?_)))))
  obtain rfl := som hm39
  exact Wr (ret1 hr z ⟨(bup (bup (bup (bup (bup h13 h11) s15) s16) s1b) s38), z⟩)
 rintro r45 ex46 a47 w48 rfl ⟨rfl, hq3a⟩
 have hm3b := elR hm1w
 obtain rfl := som hm3b
 exact ⟨hq3a, z⟩
theorem W_w2i {x1 : Desc} {x2 : Rule} {res : Bool} (hm : M_impl_validKind n x1 x2 = some res) (hBw : B ≤ w0.z) (p1_0 : repS w0 B (sl A0 N0 C0) x1.rules) (p2_0 : x2.name.b.length ≤ LEN) (p2_1 : inI x2.kind) (p2_2 : inI x2.size) (p2_4 : repS w0 B (sl A2 N2 C2) x2.bytes) (p2_5 : repS w0 B (sl A3 N3 C3) x2.names) (p2_6 : repS w0 B (sl A1 N1 C1) x2.tags) (p2_7 : repS w0 B (sl A4 N4 C4) x2.kids) : CallsR prog 211 [(.agg #[sl A0 N0 C0]), (.agg #[Str.v x2.name, vI x2.kind, vI x2.size, vB x2.little, sl A2 N2 C2, sl A3 N3 C3, sl A1 N1 C1, sl A4 N4 C4])] w0 (Q7 w0 B res) := by
 unfold M_impl_validKind at hm
 refine goF func211 z z (lb z) fun fn hr => Ws (E z (fb z) ?_)
 rintro _ w1n ⟨rfl, h26⟩
 have h11 := h26.below
 have h1o : Blk w1n w0.z [sl A0 N0 C0] := h26.blk
 refine E z (fb z) ?_
 rintro _ w12 ⟨rfl, h27⟩
 have h10 := h27.below
 have h17 : Blk w12 w1n.z (vR x2 A2 N2 C2 A3 N3 C3 A1 N1 C1 A4 N4 C4) := h27.blk
 refine Ra z (Wn (Wq (Ws (R z (fd f_80_1 z) (R z (l1 g_3 z fid (h17.at z)) (Wn (WC_block (Ws (R z (eql z z) (Ra z (Wn (Wc z (fun hc1p => ?_) (fun hc1p => ?_)))))))))))))
 ·refine Wq ?_
  obtain ⟨u38, hu39, hm3a⟩ := bdS (ifT hm hc1p)
  refine WC_cut (fun a w => ∃ (x1q : Bool), x1q = u38 ∧ Sat 102 [(4, vB x1q)] a ∧ Below w12.z w12 w) ?_ ?_
  ·refine Wg (R z (lN (vs := (vR x2 A2 N2 C2 A3 N3 C3 A1 N1 C1 A4 N4 C4)) g_80 z_80 z z fid (h17.row 0 8 z)) ?_)
   have h28 := lt_ h11.size h10.size
   obtain ⟨r3b, e3c, hm29⟩ := bdS hu39
   refine E z (fc call224 z (W_w05 (B := B) e3c (lt_ hBw h28) p2_0 p2_1 p2_2 ((p2_4.ext h11).ext h10) ((p2_5.ext h11).ext h10) ((p2_6.ext h11).ext h10) ((p2_7.ext h11).ext h10) (ii z))) ?_
   rintro _ w5m ⟨s1i, rfl⟩
   refine Rm z ?_
   rcases bs r3b with hc1d | hc1d
   ·refine Rh z hc1d (fd f_80_2 z) ?_
    have h2a := h17.ext s1i
    refine Rh z hc1d (l1 g_3 z fid (h2a.at z)) ?_
    obtain ⟨r3d, e3e, hm2b⟩ := bdS (ifT hm29 hc1d)
    refine Eg z z hc1d z (fc call176 z (W_w06 (B := B) e3e (lt_ hBw (lt_ h28 s1i.size)) p2_2 (ii z) (ii z))) ?_
    rintro _ w5n ⟨s1l, rfl⟩
    refine R z (pT z hc1d z) (Rm z ?_)
    rcases bs r3d with hc16 | hc16
    ·have hm2c := ifT hm2b hc16
     refine Rh z hc16 (fd f_80_3 z) ?_
     have h2d := h2a.ext s1l
     refine Rh z hc16 (l1 g_4 z fid (h2d.at z)) (Rh z hc16 (not_ z) (Rh z hc16 (mv z) ?_))
     rcases bs (!x2.little) with hc1e | hc1e
     ·iterate 3 refine Nh z hc1e ?_
      exact Rh z hc16 (pT z hc1e z) (R z (pT z hc16 z) (Ra z (Wl (fun _ q => ⟨true, som (ifT hm2c hc1e), (q.k (s1 z)), (bup s1i s1l)⟩))))
     exact Rh z hc1e (fd f_80_2 z) (Rh z hc1e (l1 g_3 z fid (h2d.at z)) (Rh z hc1e (rd_gtr z z) (Rh z hc16 (pF z hc1e z) (R z (pT z hc16 z) (Ra z (Wl (fun _ q => ⟨decide (1 < x2.size), som (ifF hm2c hc1e), (q.k (s1 z)), (bup s1i s1l)⟩)))))))
    iterate 4 refine Nh z hc16 ?_
    exact Nv z (Nv z (Nv z (Nh z hc16 (R z (pF z hc16 z) (Ra z (Wl (fun _ q => ⟨false, som (ifF hm2b hc16), (q.k (s1 z)), (bup s1i s1l)⟩)))))))
   iterate 3 refine Nh z hc1d ?_
   exact R z (pF z hc1d z) (Rm z (Nh z z (Nh z z (Nh z z (Nh z z (Nv z (Nv z (Nv z (Nh z z (R z (pF z z z) (Ra z (Wl (fun _ q => ⟨false, som (ifF hm29 hc1d), (q.k (s1 z)), s1i⟩)))))))))))))
  rintro a3f w5o ⟨x1q, rfl, hS5p, s3g⟩
  revert a3f
  refine Wo ?_
  obtain rfl := som hm3a
  exact Wr (rtO (ret1 hr z ⟨(bup (bup h11 h10) s3g), z⟩))
 have hm2e := ifF hm hc1p
 refine Ws (R z (eql z z) (Ra z (Wn (Wc z (fun hc1r => ?_) (fun hc1r => ?_)))))
 ·refine Wq ?_
  obtain ⟨u3h, hu3i, hm3j⟩ := bdS (ifT hm2e hc1r)
  refine WC_cut (fun a w => ∃ (x1s : Bool), x1s = u3h ∧ Sat 102 [(4, vB x1s)] a ∧ Below w12.z w12 w) ?_ ?_
  ·refine Wg (R z (lN (vs := (vR x2 A2 N2 C2 A3 N3 C3 A1 N1 C1 A4 N4 C4)) g_80 z_80 z z fid (h17.row 0 8 z)) ?_)
   have h2f := (p2_4.ext h11).ext h10
   have h2g := lt_ h11.size h10.size
   obtain ⟨r3k, e3l, hm2h⟩ := bdS hu3i
   refine E z (fc call224 z (W_w05 (B := B) e3l (lt_ hBw h2g) p2_0 p2_1 p2_2 h2f ((p2_5.ext h11).ext h10) ((p2_6.ext h11).ext h10) ((p2_7.ext h11).ext h10) (ii z))) ?_
   rintro _ w5q ⟨s1j, rfl⟩
   refine Rm z ?_
   rcases bs r3k with hc19 | hc19
   ·refine Rh z hc19 (fd f_80_4 z) (Rh z hc19 (l1 g_25 z fid ((h17.ext s1j).at z)) ?_)
    have h2i := h2f.ext s1j
    refine Rh z hc19 (lnR d_25 z h2i) ?_
    obtain ⟨r3m, e3n, hm3o⟩ := bdS (ifT hm2h hc19)
    refine Eg z z hc19 z (fc call176 z (W_w06 (B := B) e3n (lt_ hBw (lt_ h2g s1j.size)) (inI_len (repS.len h2i)) (ii z) (ii z))) ?_
    rintro _ w5r ⟨s3p, rfl⟩
    exact R z (pT z hc19 z) (Ra z (Wl (fun _ q => ⟨r3m, som hm3o, (q.k (s1 z)), (bup s1j s3p)⟩)))
   iterate 4 refine Nh z hc19 ?_
   exact R z (pF z hc19 z) (Ra z (Wl (fun _ q => ⟨false, som (ifF hm2h hc19), (q.k (s1 z)), s1j⟩)))
  rintro a3q w5s ⟨x1s, rfl, hS5t, s3r⟩
  revert a3q
  refine Wo ?_
  obtain rfl := som hm3j
  exact Wr (rtO (ret1 hr z ⟨(bup (bup h11 h10) s3r), z⟩))
 have hm2j := ifF hm2e hc1r
 refine Ws (R z (eql z z) (Ra z (Wn (Wc z (fun hc1t => ?_) (fun hc1t => ?_)))))
 ·refine Wq ?_
  obtain ⟨u3s, hu3t, hm3u⟩ := bdS (ifT hm2j hc1t)
  refine WC_cut (fun a w => ∃ (x1u : Bool), x1u = u3s ∧ Sat 102 [(4, vB x1u)] a ∧ Below w12.z w12 w) ?_ ?_
  ·refine Wg (R z (lN (vs := (vR x2 A2 N2 C2 A3 N3 C3 A1 N1 C1 A4 N4 C4)) g_80 z_80 z z fid (h17.row 0 8 z)) ?_)
   have h2k := lt_ h11.size h10.size
   obtain ⟨r3v, e3w, hm2l⟩ := bdS hu3t
   refine E z (fc call224 z (W_w05 (B := B) e3w (lt_ hBw h2k) p2_0 p2_1 p2_2 ((p2_4.ext h11).ext h10) ((p2_5.ext h11).ext h10) ((p2_6.ext h11).ext h10) ((p2_7.ext h11).ext h10) (ii z))) ?_
   rintro _ w5u ⟨s1m, rfl⟩
   refine Rm z ?_
   rcases bs r3v with hc1f | hc1f
   ·refine Rh z hc1f (fd f_80_2 z) (Rh z hc1f (l1 g_3 z fid ((h17.ext s1m).at z)) ?_)
    obtain ⟨r3x, e3y, hm3z⟩ := bdS (ifT hm2l hc1f)
    refine Eg z z hc1f z (fc call176 z (W_w06 (B := B) e3y (lt_ hBw (lt_ h2k s1m.size)) p2_2 (ii z) (ii z))) ?_
    rintro _ w5v ⟨s40, rfl⟩
    exact R z (pT z hc1f z) (Ra z (Wl (fun _ q => ⟨r3x, som hm3z, (q.k (s1 z)), (bup s1m s40)⟩)))
   iterate 3 refine Nh z hc1f ?_
   exact R z (pF z hc1f z) (Ra z (Wl (fun _ q => ⟨false, som (ifF hm2l hc1f), (q.k (s1 z)), s1m⟩)))
  rintro a41 w5w ⟨x1u, rfl, hS5x, s42⟩
  revert a41
  refine Wo ?_
  obtain rfl := som hm3u
  exact Wr (rtO (ret1 hr z ⟨(bup (bup h11 h10) s42), z⟩))
 have hm2m := ifF hm2j hc1t
 refine Ws (R z (eql z z) (Ra z (Wn (Wc z (fun hc1v => ?_) (fun hc1v => ?_)))))
 ·refine Wq ?_
  obtain ⟨u43, hu44, hm45⟩ := bdS (ifT hm2m hc1v)
  refine WC_cut (fun a w => ∃ (x1w : Bool), x1w = u43 ∧ Sat 102 [(4, vB x1w)] a ∧ Below w12.z w12 w) ?_ ?_
  ·refine WC_draw (X := noX) 0 (.rd 0 (.ef 1 (.rd 2 (.rd 3 (.rd 4 (.rd 5 (.rd 6 (.rd 7 (.ef 8 (.rd 9 (.rd 10 (.rd 11 .done)))))))))))) mo (by kernel_rfl) fun w5y s1a _ => ?_
   have h2n := h17.ext s1a
   refine dR z z (lN (vs := (vR x2 A2 N2 C2 A3 N3 C3 A1 N1 C1 A4 N4 C4)) g_80 z_80 z z fid (h2n.row 0 8 z)) ?_
   have h2o := ((p2_7.ext h11).ext h10).ext s1a
   have h2p := lt_ (lt_ h11.size h10.size) s1a.size
   obtain ⟨r46, e47, hm2q⟩ := bdS hu44
   refine dE z z (fc call224 z (W_w05 (B := B) e47 (lt_ hBw h2p) p2_0 p2_1 p2_2 (((p2_4.ext h11).ext h10).ext s1a) (((p2_5.ext h11).ext h10).ext s1a) (((p2_6.ext h11).ext h10).ext s1a) h2o (ii z))) (.inr fun _ _ h => chgB (h.1)) ?_
   rintro _ w5z ⟨s1g, rfl⟩
   refine dR z z (mv z) ?_
   rcases bs r46 with hc13 | hc13
   ·refine dRg z z z hc13 z (lN (vs := [sl A0 N0 C0]) g_30 z_30 z z fid ((((h1o.ext h10).ext s1a).ext s1g).row 0 1 z)) (dRg z z z hc13 z (fd f_80_7 z) (dRg z z z hc13 z (l1 g_78 z fid ((h2n.ext s1g).at z)) ?_))
    obtain ⟨x60, e48, hm49⟩ := bdS (ifT hm2q hc13)
    refine dRXg z z z hc13 z (at_ (α := Int) d_78 z_3 z z z (h2o.ext s1g) e48) ?_
    rintro _ ⟨b61, o62, cs63, rfl, h4a, h4b, h64⟩
    obtain ⟨rfl, h4c⟩ := Int_open h4b
    refine dRg z z z hc13 z (l1 g_3 z fid (h4a.at0 z)) ?_
    obtain ⟨r4d, e4e, hm4f⟩ := bdS hm49
    refine dEg z z z hc13 z (fc call225 z (W_w0q (B := B) e4e (lt_ hBw (lt_ h2p s1g.size)) ((((p1_0.ext h11).ext h10).ext s1a).ext s1g) h4c)) (.inr fun _ _ h => chgB (h.1)) ?_
    rintro _ w65 ⟨s4g, rfl, h66⟩
    exact dRg z z z hc13 z (rd_gtr z z) (dR z z (pT z hc13 z) (dR z z (asg z) (PR_done (fun _ q => ⟨decide (0 < r4d), som hm4f, (q.k (s1 z)), (bup (bup s1a s1g) s4g)⟩))))
   iterate 5 refine dRn z z z hc13 z ?_
   exact dEn z z z hc13 z (dRn z z z hc13 z (dR z z (pF z hc13 z) (dR z z (asg z) (PR_done (fun _ q => ⟨false, som (ifF hm2q hc13), (q.k (s1 z)), (bup s1a s1g)⟩)))))
  rintro a4h w67 ⟨x1w, rfl, hS68, s4i⟩
  revert a4h
  refine Wo ?_
  obtain rfl := som hm45
  exact Wr (rtO (ret1 hr z ⟨(bup (bup h11 h10) s4i), z⟩))
 have hm2r := ifF hm2m hc1v
 refine Ws (R z (eql z z) (Ra z (Wn (Wc z (fun hc1x => ?_) (fun hc1x => ?_)))))
 ·refine Wq ?_
  obtain ⟨u4j, hu4k, hm4l⟩ := bdS (ifT hm2r hc1x)
  refine WC_cut (fun a w => ∃ (x1y : Bool), x1y = u4j ∧ Sat 102 [(4, vB x1y)] a ∧ Below w12.z w12 w) ?_ ?_
  ·refine WC_draw (X := noX) 0 (.rd 0 (.ef 1 (.rd 2 (.rd 3 (.rd 4 (.rd 5 (.rd 6 (.rd 7 (.ef 8 (.rd 9 (.rd 10 (.rd 11 .done)))))))))))) mo (by kernel_rfl) fun w69 s1b _ => ?_
   have h2s := h17.ext s1b
   refine dR z z (lN (vs := (vR x2 A2 N2 C2 A3 N3 C3 A1 N1 C1 A4 N4 C4)) g_80 z_80 z z fid (h2s.row 0 8 z)) ?_
   have h2t := ((p2_7.ext h11).ext h10).ext s1b
   have h2u := lt_ (lt_ h11.size h10.size) s1b.size
   obtain ⟨r4m, e4n, hm2v⟩ := bdS hu4k
   refine dE z z (fc call224 z (W_w05 (B := B) e4n (lt_ hBw h2u) p2_0 p2_1 p2_2 (((p2_4.ext h11).ext h10).ext s1b) (((p2_5.ext h11).ext h10).ext s1b) (((p2_6.ext h11).ext h10).ext s1b) h2t (ii z))) (.inr fun _ _ h => chgB (h.1)) ?_
   rintro _ w6a ⟨s1h, rfl⟩
   refine dR z z (mv z) ?_
   rcases bs r4m with hc14 | hc14
   ·refine dRg z z z hc14 z (lN (vs := [sl A0 N0 C0]) g_30 z_30 z z fid ((((h1o.ext h10).ext s1b).ext s1h).row 0 1 z)) (dRg z z z hc14 z (fd f_80_7 z) (dRg z z z hc14 z (l1 g_78 z fid ((h2s.ext s1h).at z)) ?_))
    obtain ⟨x6b, e4o, hm4p⟩ := bdS (ifT hm2v hc14)
    refine dRXg z z z hc14 z (at_ (α := Int) d_78 z_3 z z z (h2t.ext s1h) e4o) ?_
    rintro _ ⟨b6c, o6d, cs6e, rfl, h4q, h4r, h6f⟩
    obtain ⟨rfl, h4s⟩ := Int_open h4r
    refine dRg z z z hc14 z (l1 g_3 z fid (h4q.at0 z)) ?_
    obtain ⟨r4t, e4u, hm4v⟩ := bdS hm4p
    refine dEg z z z hc14 z (fc call225 z (W_w0q (B := B) e4u (lt_ hBw (lt_ h2u s1h.size)) ((((p1_0.ext h11).ext h10).ext s1b).ext s1h) h4s)) (.inr fun _ _ h => chgB (h.1)) ?_
    rintro _ w6g ⟨s4w, rfl, h6h⟩
    exact dRg z z z hc14 z (rd_gtr z z) (dR z z (pT z hc14 z) (dR z z (asg z) (PR_done (fun _ q => ⟨decide (0 < r4t), som hm4v, (q.k (s1 z)), (bup (bup s1b s1h) s4w)⟩))))
   iterate 5 refine dRn z z z hc14 z ?_
   exact dEn z z z hc14 z (dRn z z z hc14 z (dR z z (pF z hc14 z) (dR z z (asg z) (PR_done (fun _ q => ⟨false, som (ifF hm2v hc14), (q.k (s1 z)), (bup s1b s1h)⟩)))))
  rintro a4x w6i ⟨x1y, rfl, hS6j, s4y⟩
  revert a4x
  refine Wo ?_
  obtain rfl := som hm4l
  exact Wr (rtO (ret1 hr z ⟨(bup (bup h11 h10) s4y), z⟩))
 have hm2w := ifF hm2r hc1x
 refine Ws (R z (eql z z) (Ra z (Wn (Wc z (fun hc1z => ?_) (fun hc1z => ?_)))))
 ·refine Ws (R z (lN (vs := (vR x2 A2 N2 C2 A3 N3 C3 A1 N1 C1 A4 N4 C4)) g_80 z_80 z z fid (h17.row 0 8 z)) ?_)
  obtain ⟨r6k, e4z, hm50⟩ := bdS (ifT hm2w hc1z)
  refine E z (fc call226 z (W_w2g (B := B) e4z (lt_ hBw (lt_ h11.size h10.size)) p2_0 p2_1 p2_2 ((p2_4.ext h11).ext h10) ((p2_5.ext h11).ext h10) ((p2_6.ext h11).ext h10) ((p2_7.ext h11).ext h10))) ?_
  rintro _ w6l ⟨s51, rfl⟩
  refine Ra z (Wn ?_)
  obtain rfl := som hm50
  exact Wr (rtO (ret1 hr z ⟨(bup (bup h11 h10) s51), z⟩))
 have hm2x := ifF hm2w hc1z
 refine Ws (R z (eql z z) (Ra z (Wn (Wc z (fun hc20 => ?_) (fun hc20 => ?_)))))
 ·refine Ws (R z (lN (vs := [sl A0 N0 C0]) g_30 z_30 z z fid ((h1o.ext h10).row 0 1 z)) (R z (lN (vs := (vR x2 A2 N2 C2 A3 N3 C3 A1 N1 C1 A4 N4 C4)) g_80 z_80 z z fid (h17.row 0 8 z)) ?_))
  obtain ⟨r6m, e52, hm53⟩ := bdS (ifT hm2x hc20)
  refine E z (fc call227 z (W_w2h (B := B) e52 (lt_ hBw (lt_ h11.size h10.size)) ((p1_0.ext h11).ext h10) p2_0 p2_1 p2_2 ((p2_4.ext h11).ext h10) ((p2_5.ext h11).ext h10) ((p2_6.ext h11).ext h10) ((p2_7.ext h11).ext h10))) ?_
  rintro _ w6n ⟨s54, rfl⟩
  refine Ra z (Wn ?_)
  obtain rfl := som hm53
  exact Wr (rtO (ret1 hr z ⟨(bup (bup h11 h10) s54), z⟩))
 refine Wq (Ws (R z (eql z z) (Ra z (Wn ?_))))
 obtain ⟨u55, hu2y, hm2z⟩ := bdS (ifF hm2x hc20)
 refine WC_cut (fun a w => ∃ (x21 : Bool), x21 = u55 ∧ Sat 102 [(3, pt w1n.z), (6, vI x2.kind), (80, vB x21)] a ∧ Below w12.z w12 w) ?_ ?_
 ·refine Wc z (fun hc22 => ?_) (fun hc22 => ?_)
  ·exact WC_skip (fun _ q => ⟨x2.kind == 8, som (ifT hu2y hc22), (q.k (s3 z z z)), (br w12)⟩)
  exact Wg (R z (eql z z) (Ra z (Wl (fun _ q => ⟨x2.kind == 9, som (ifF hu2y hc22), (q.k (s3 z z z)), (br w12)⟩))))
 rintro a56 w30 ⟨x21, rfl, hS6o, s15⟩
 revert a56
 refine Wo (Wc z (fun hc23 => ?_) (fun hc23 => ?_))
 ·refine Ws (R z (lN (vs := (vR x2 A2 N2 C2 A3 N3 C3 A1 N1 C1 A4 N4 C4)) g_80 z_80 z z fid ((h17.ext s15).row 0 8 z)) ?_)
  obtain ⟨r6p, e57, hm58⟩ := bdS (ifT hm2z hc23)
  refine E z (fc call224 z (W_w05 (B := B) e57 (lt_ hBw (lt_ (lt_ h11.size h10.size) s15.size)) p2_0 p2_1 p2_2 (((p2_4.ext h11).ext h10).ext s15) (((p2_5.ext h11).ext h10).ext s15) (((p2_6.ext h11).ext h10).ext s15) (((p2_7.ext h11).ext h10).ext s15) (ii z))) ?_
  rintro _ w6q ⟨s59, rfl⟩
  refine Ra z (Wn ?_)
  obtain rfl := som hm58
  exact Wr (rtO (ret1 hr z ⟨(bup (bup (bup h11 h10) s15) s59), z⟩))
 have hm31 := ifF hm2z hc23
 refine Ws (R z (eql z z) (Ra z (Wn (Wc z (fun hc24 => ?_) (fun hc24 => ?_)))))
 ·refine Wq ?_
  obtain ⟨u5a, hu5b, hm5c⟩ := bdS (ifT hm31 hc24)
  refine WC_cut (fun a w => ∃ (x25 : Bool), x25 = u5a ∧ Sat 102 [(4, vB x25)] a ∧ Below w30.z w30 w) ?_ ?_
  ·refine Wg ?_
   have h32 := h17.ext s15
   refine R z (lN (vs := (vR x2 A2 N2 C2 A3 N3 C3 A1 N1 C1 A4 N4 C4)) g_80 z_80 z z fid (h32.row 0 8 z)) ?_
   have h33 := ((p2_4.ext h11).ext h10).ext s15
   obtain ⟨r5d, e5e, hm34⟩ := bdS hu5b
   refine E z (fc call224 z (W_w05 (B := B) e5e (lt_ hBw (lt_ (lt_ h11.size h10.size) s15.size)) p2_0 p2_1 p2_2 h33 (((p2_5.ext h11).ext h10).ext s15) (((p2_6.ext h11).ext h10).ext s15) (((p2_7.ext h11).ext h10).ext s15) (ii z))) ?_
   rintro _ w6r ⟨s1k, rfl⟩
   refine Rm z ?_
   rcases bs r5d with hc1c | hc1c
   ·have hm35 := ifT hm34 hc1c
    refine Rh z hc1c (fd f_80_4 z) ?_
    have h36 := h32.ext s1k
    refine Rh z hc1c (l1 g_25 z fid (h36.at z)) ?_
    have h37 := h33.ext s1k
    refine Rh z hc1c (lnR d_25 z h37) (Rh z hc1c (eql z z) (R z (pT z hc1c z) (Rm z ?_)))
    rcases bs ((x2.bytes.length : Int) == 1) with hc18 | hc18
    ·refine Rh z hc18 (fd f_80_4 z) (Rh z hc18 (l1 g_25 z fid (h36.at z)) ?_)
     obtain ⟨x5f, e5g, hm5h⟩ := bdS (ifT hm35 hc18)
     refine RXg z z hc18 z (at_ (α := UInt8) d_25 z_5 z z z h37 e5g) ?_
     rintro _ ⟨b6s, o6t, cs6u, rfl, h5i, h5j, h6v⟩
     obtain rfl := UInt8_open h5j
     exact Rh z hc18 (l1 g_5 z fid (h5i.at0 z)) (Rh z hc18 (nq z z) (R z (pT z hc18 z) (Ra z (Wl (fun _ q => ⟨(byteI x5f) != (byteI (92 : UInt8)), som hm5h, (q.k (s1 z)), s1k⟩)))))
    iterate 5 refine Nh z hc18 ?_
    exact R z (pF z hc18 z) (Ra z (Wl (fun _ q => ⟨false, som (ifF hm35 hc18), (q.k (s1 z)), s1k⟩)))
   iterate 4 refine Nh z hc1c ?_
   exact R z (pF z hc1c z) (Rm z (Nh z z (Nh z z (Nh z z (Nh z z (Nh z z (R z (pF z z z) (Ra z (Wl (fun _ q => ⟨false, som (ifF hm34 hc1c), (q.k (s1 z)), s1k⟩))))))))))
  rintro a5k w6w ⟨x25, rfl, hS6x, s5l⟩
  revert a5k
  refine Wo ?_
  obtain rfl := som hm5c
  exact Wr (rtO (ret1 hr z ⟨(bup (bup (bup h11 h10) s15) s5l), z⟩))
 refine Wk (Ws (Ra z (Wn ?_)))
 obtain rfl := som (ifF hm31 hc24)
 exact Wr (ret1 hr z ⟨(bup (bup h11 h10) s15), z⟩)
theorem W_w2j {x1 : Desc} {x2 : Int} {res : Bool} (hm : M_impl_IsValidRule n x1 x2 = some res) (hBw : B ≤ w0.z) (p1_0 : repS w0 B (sl A0 N0 C0) x1.rules) (p2_0 : inI x2) : CallsR prog 177 [(.agg #[sl A0 N0 C0]), vI x2] w0 (Q7 w0 B res) := by
 unfold M_impl_IsValidRule at hm
 refine goF func177 z z (lb z) fun fn hr => Ws (E z (fb z) ?_)
 rintro _ w3i ⟨rfl, h2f⟩
 have h17 := h2f.below
 have h1q : Blk w3i w0.z [sl A0 N0 C0] := h2f.blk
 refine Ra z (Wn (Wq (Ws (R z (lN (vs := [sl A0 N0 C0]) g_30 z_30 z z fid (h1q.row 0 1 z)) (Rm z ?_)))))
 have h2g := p1_0.ext h17
 obtain ⟨r51, e3j, hm2h⟩ := bdS hm
 refine E z (fc call188 z (W_w0o (B := B) e3j (lt_ hBw h17.size) h2g p2_0)) ?_
 rintro _ w15 ⟨s16, rfl⟩
 refine R z (not_ z) (Wn (Wc z (fun hc1r => ?_) (fun hc1r => ?_)))
 ·refine Ws (Ra z (Wn ?_))
  obtain rfl := som (ifT hm2h hc1r)
  exact Wr (ret1 hr z ⟨(bup h17 s16), z⟩)
 refine Wk (Ws (R z (fd f_30_0 z) ?_))
 have h2i := h1q.ext s16
 refine R z (l1 g_28 z fid (h2i.at z)) (Rm z ?_)
 obtain ⟨x10, e3k, hm3l⟩ := bdS (ifF hm2h hc1r)
 have h2j := h2g.ext s16
 refine RX z (at_ (α := Rule) d_28 z_80 z z z h2j e3k) ?_
 rintro _ ⟨b52, o53, cs54, rfl, h3m, h3n, h55⟩
 obtain ⟨a1s, n1t, c1u, a1v, n1w, c1x, a1y, n1z, c20, a1d, n1e, c1f, rfl, h2k, h3o, h3p, h3q, h3r, h3s, h2l⟩ := Rule_open h3n
 refine R z (lN (vs := (vR x10 a1s n1t c1u a1v n1w c1x a1y n1z c20 a1d n1e c1f)) g_80 z_80 z z fid h3m) (E z (fa zero_80) ?_)
 rintro _ w3t ⟨rfl, h2m⟩
 have h13 := h2m.below
 have h2n : Blk w3t w15.z [(Str.v (⟨[]⟩ : Str)), vI 0, vI 0, vB false, sl none 0 0, sl none 0 0, sl none 0 0, sl none 0 0] := h2m.blk
 refine E0 (fs (cur' := (vR x10 a1s n1t c1u a1v n1w c1x a1y n1z c20 a1d n1e c1f)) z_80 z z h2n z (lb z) (oA z) z) ?_
 rintro _ w2o ⟨h1l, s3u⟩
 have h12 := s3u.one
 refine Wn (Wq (Wq ?_))
 obtain ⟨u3v, hu3w, hm2p⟩ := bdS hm3l
 refine WC_cut (fun a w => ∃ (x21 : Bool), x21 = u3v ∧ Sat 65 [(1, vI x2), (2, pt w0.z), (5, pt w15.z), (31, vB x21)] a ∧ Below w2o.z w2o w) ?_ ?_
 ·refine Wg (R z (fd f_80_0 z) (R z (l1 g_9 z fid (h1l.at z)) ?_))
  obtain ⟨r3x, e3y, hm2q⟩ := bdS hu3w
  refine E z (fc call181 z (W_w0p (B := B) e3y (lt_ hBw (lt_ (lt_ (lt_ h17.size s16.size) h13.size) h12.size)) h2k)) ?_
  rintro _ w56 ⟨s1m, rfl⟩
  refine R z (not_ z) (Rm z ?_)
  rcases bs (!r3x) with hc14 | hc14
  ·iterate 3 refine Nh z hc14 ?_
   exact Nv z (Nv z (Nv z (Nh z hc14 (R z (pT z hc14 z) (Wl (fun _ q => ⟨true, som (ifT hm2q hc14), (q.k (s4 z z z z)), s1m⟩))))))
  have hm2r := ifF hm2q hc14
  refine Rh z hc14 (fd f_80_3 z) ?_
  have h2s := h1l.ext s1m
  refine Rh z hc14 (l1 g_4 z fid (h2s.at z)) (Rh z hc14 (mv z) ?_)
  rcases bs x10.little with hc19 | hc19
  ·exact Rh z hc19 (fd f_80_1 z) (Rh z hc19 (l1 g_3 z fid (h2s.at z)) (Rh z hc19 (nq z z) (Rh z hc14 (pT z hc19 z) (R z (pF z hc14 z) (Wl (fun _ q => ⟨x10.kind != 1, som (ifT hm2r hc19), (q.k (s4 z z z z)), s1m⟩))))))
  iterate 3 refine Nh z hc19 ?_
  exact Rh z hc14 (pF z hc19 z) (R z (pF z hc14 z) (Wl (fun _ q => ⟨false, som (ifF hm2r hc19), (q.k (s4 z z z z)), s1m⟩)))
 rintro a3z w1i ⟨x21, rfl, hS57, s11⟩
 revert a3z
 refine Wo (Wc z (fun hc22 => ?_) (fun hc22 => ?_))
 ·refine Ws (Ra z (Wn ?_))
  obtain rfl := som (ifT hm2p hc22)
  exact Wr (ret1 hr z ⟨(bup (bM (bup (bup h17 s16) h13) h12 (mem1le (lt_ h17.size s16.size))) s11), z⟩)
 refine Wk (Wq (Ws (R z (fd f_30_0 z) ?_)))
 have h2t := ((h2i.ext h13).chg h12 (djs (mm1 h1q.lt s16.size))).ext s11
 refine R z (l1 g_28 z fid (h2t.at z)) (Rm z ?_)
 obtain ⟨x1n, e40, hm41⟩ := bdS (ifF hm2p hc22)
 have h1h := lt_ h17.size s16.size
 have h1j := mem1le (lt_ hBw h1h)
 have h2u := ((h2j.ext h13).chg h12 (lg h1j)).ext s11
 refine RX z (rd_sliceX d_28 z_80 z z h2u z z e40) ?_
 rintro _ ⟨a23, n24, c25, rfl, h26⟩
 refine R z (lnR d_28 z h26) (Rm z (Wn ?_))
 obtain ⟨u58, hu42, hm2v⟩ := bdS hm41
 refine WC_forN (σ := Unit) (ρ := Bool) (fun (k27 : Nat) (_ : Unit) a w => Sat 65 [(1, vI x2), (2, pt w0.z), (5, pt w15.z), (35, sl a23 n24 c25), (36, vI (x1n.length : Int)), (37, (vI ((k27 : Nat) : Int)))] a ∧ Below w1i.z w1i w) (fun (_ : Unit) a w => Sat 65 [(1, vI x2), (2, pt w0.z), (5, pt w15.z)] a ∧ Below w1i.z w1i w) (fun r ex a w => ex = .ret ∧ RetPost prog fn (Q7 w0 B r) a w) hu42 ?_ ?_ ?_ ?_ ?_
 ·exact fun _ q => ⟨(q.k (s6 z z z z z z)), (br w1i)⟩
 ·rintro k27 _ a59 w43 o5a hk2w ⟨hS44, s1g⟩ hm45
  refine Wu ?_ hS44
  refine Ws (R z (lss z z) (Wn (Wq (Wc z (fun _ => ?_) (fun hc => (nolt hk2w hc).elim)))))
  refine Wk (Wq (WC_block (Ws ?_)))
  obtain ⟨x1c, e46, hm2x⟩ := bdS hm45
  refine RX z (at_ (α := Rule) d_28 z_80 z z z (h26.ext s1g) e46) ?_
  rintro _ ⟨b5b, o5c, cs5d, rfl, h47, h48, h5e⟩
  obtain ⟨a2y, n2z, c30, a31, n32, c33, a34, n35, c36, a37, n38, c39, rfl, h5f, h5g, h5h, h5i, h5j, h5k, h5l⟩ := Rule_open h48
  refine R z (lN (vs := (vR x1c a2y n2z c30 a31 n32 c33 a34 n35 c36 a37 n38 c39)) g_80 z_80 z z fid h47) (E z (fa zero_80) ?_)
  rintro _ w49 ⟨rfl, h3a⟩
  have h28 := h3a.below
  have h4a : Blk w49 w43.z [(Str.v (⟨[]⟩ : Str)), vI 0, vI 0, vB false, sl none 0 0, sl none 0 0, sl none 0 0, sl none 0 0] := h3a.blk
  refine E0 (fs (cur' := (vR x1c a2y n2z c30 a31 n32 c33 a34 n35 c36 a37 n38 c39)) z_80 z z h4a z (lb z) (oA z) z) ?_
  rintro _ w5m ⟨h4b, s4c⟩
  have h29 := s4c.one
  refine Wn (Ws (R z (fd f_80_0 z) (R z (l1 g_9 z fid (h4b.at z)) (R z (fd f_80_0 z) (R z (l1 g_9 z fid (((((h1l.ext s11).ext s1g).ext h28).chg h29 (djs (mm1 h2n.lt (lt_ (lt_ h12.size s11.size) s1g.size)))).at z)) (R z (rd_eqlT z z) (Wn (Wc z (fun hc2a => ?_) (fun hc2a => ?_)))))))))
  ·exact Ws (Ra z (Wn (Wr (rtO (QO_retL (som (ifT hm2x hc2a)).symm (ret1 hr z ⟨(bM (bup (bup (bup (bM (bup (bup h17 s16) h13) h12 (mem1le h1h)) s11) s1g) h28) h29 (mem1le (lt_ (lt_ (lt_ (lt_ h1h h13.size) h12.size) s11.size) s1g.size))), z⟩))))))
  exact Wk (Wg (R z (inc_ hk2w (lt_ (repS.len h26) LEN_le) z z) (Rm z (Wl (fun _ q => ⟨(), (som (ifF hm2x hc2a)).symm, ⟨(q.k (s6 z z z z z z)), (bM (bup s1g h28) h29 (mem1le s1g.size))⟩⟩)))))
 ·rintro _ a5n w5o ⟨hS4d, s4e⟩
  refine Wu ?_ hS4d
  refine Ws (R z (lss z z) (Wn (Wq (Wc z (fun hc => (noltt hc).elim) (fun _ => ?_)))))
  exact WC_exit (fun a' ha' => ⟨rfl, ⟨(Sat.weaken ha' (s3 z z z)), s4e⟩⟩)
 ·rintro _ a4f w1k rfl ⟨hS5p, s18⟩
  have hm4g := elL hm2v
  revert a4f
  refine Wo (Wq (Ws (R z (fd f_80_7 z) ?_)))
  have h3b := (h1l.ext s11).ext s18
  refine R z (l1 g_78 z fid (h3b.at z)) ?_
  have h2b := (((h2l.ext h13).chg h12 (lg h1j)).ext s11).ext s18
  refine R z (lnR d_78 z h2b) (Rm z (Wn ?_))
  obtain ⟨u5q, hu4h, hm3c⟩ := bdS hm4g
  refine WC_forN (σ := Unit) (ρ := Bool) (fun (k1o : Nat) (_ : Unit) a w => Sat 65 [(1, vI x2), (2, pt w0.z), (5, pt w15.z), (48, sl a1d n1e c1f), (49, vI (x10.kids.length : Int)), (50, (vI ((k1o : Nat) : Int)))] a ∧ Below w1k.z w1k w) (fun (_ : Unit) a w => Sat 65 [(2, pt w0.z), (5, pt w15.z)] a ∧ Below w1k.z w1k w) (fun r ex a w => ex = .ret ∧ RetPost prog fn (Q7 w0 B r) a w) hu4h ?_ ?_ ?_ ?_ ?_
  ·exact fun _ q => ⟨(q.k (s6 z z z z z z)), (br w1k)⟩
  ·rintro k1o _ a5r w1p o5s hk3d ⟨hS4i, s2c⟩ hm4j
   refine Wu ?_ hS4i
   refine Ws (R z (lss z z) (Wn (Wq (Wc z (fun _ => ?_) (fun hc => (nolt hk3d hc).elim)))))
   refine Wk (Wq (WC_block (Ws ?_)))
   obtain ⟨x3e, e4k, hm4l⟩ := bdS hm4j
   refine RX z (at_ (α := Int) d_78 z_3 z z z (h2b.ext s2c) e4k) ?_
   rintro _ ⟨b5t, o5u, cs5v, rfl, h4m, h4n, h5w⟩
   obtain ⟨rfl, h5x⟩ := Int_open h4n
   refine R z (l1 g_3 z fid (h4m.at0 z)) (Ra z (Wn (Wq ?_)))
   obtain ⟨u4o, hu3f, hm3g⟩ := bdS hm4l
   refine WC_cut (fun a w => ∃ (x2d : Bool), x2d = u4o ∧ Sat 65 [(1, vI x2), (2, pt w0.z), (5, pt w15.z), (48, sl a1d n1e c1f), (49, vI (x10.kids.length : Int)), (50, (vI ((k1o : Nat) : Int))), (60, vB x2d)] a ∧ Below w1p.z w1p w) ?_ ?_
   ·refine Wg (Rm z (R z (lss z z) (Rm z ?_)))
    rcases bs (decide (x3e < 0)) with hc1a | hc1a
    ·iterate 3 refine Nh z hc1a ?_
     exact R z (pT z hc1a z) (Wl (fun _ q => ⟨true, som (ifT hu3f hc1a), (q.k (s7 z z z z z z z)), (br w1p)⟩))
    exact Rh z hc1a (mv z) (Rh z hc1a (mv z) (Rh z hc1a (rd_geq z z) (R z (pF z hc1a z) (Wl (fun _ q => ⟨decide (x2 ≤ x3e), som (ifF hu3f hc1a), (q.k (s7 z z z z z z z)), (br w1p)⟩)))))
   rintro a4p w5y ⟨x2d, rfl, hS5z, s3h⟩
   revert a4p
   refine Wo (Wc z (fun hc2e => ?_) (fun hc2e => ?_))
   ·exact Ws (Ra z (Wn (Wr (rtO (QO_retL (som (ifT hm3g hc2e)).symm (ret1 hr z ⟨(bup (bup (bup (bup (bM (bup (bup h17 s16) h13) h12 (mem1le h1h)) s11) s18) s2c) s3h), z⟩))))))
   exact Wk (Wg (R z (inc_ hk3d (lt_ (repS.len h2l) LEN_le) z z) (Rm z (Wl (fun _ q => ⟨(), (som (ifF hm3g hc2e)).symm, ⟨(q.k (s6 z z z z z z)), (bup s2c s3h)⟩⟩)))))
  ·rintro _ a60 w61 ⟨hS4q, s4r⟩
   refine Wu ?_ hS4q
   refine Ws (R z (lss z z) (Wn (Wq (Wc z (fun hc => (noltt hc).elim) (fun _ => ?_)))))
   exact WC_exit (fun a' ha' => ⟨rfl, ⟨(Sat.weaken ha' (s2 z z)), s4r⟩⟩)
  ·rintro _ a4s w62 rfl ⟨hS63, s1b⟩
   have hm4t := elL hm3c
   revert a4s
   refine Wo (Ws (R z (lN (vs := [sl A0 N0 C0]) g_30 z_30 z z fid (((h2t.ext s18).ext s1b).row 0 1 z)) (R z (lN (vs := (vR x10 a1s n1t c1u a1v n1w c1x a1y n1z c20 a1d n1e c1f)) g_80 z_80 z z fid ((h3b.ext s1b).row 0 8 z)) ?_)))
   obtain ⟨r64, e4u, hm4v⟩ := bdS hm4t
   refine E z (fc call211 z (W_w2i (B := B) e4u (lt_ hBw (lt_ (lt_ (lt_ (lt_ (lt_ h1h h13.size) h12.size) s11.size) s18.size) s1b.size)) ((h2u.ext s18).ext s1b) h2k h3o h3p (((((h3q.ext h13).chg h12 (lg h1j)).ext s11).ext s18).ext s1b) (((((h3r.ext h13).chg h12 (lg h1j)).ext s11).ext s18).ext s1b) (((((h3s.ext h13).chg h12 (lg h1j)).ext s11).ext s18).ext s1b) (h2b.ext s1b))) ?_
   rintro _ w65 ⟨s4w, rfl⟩
   refine Ra z (Wn ?_)
   obtain rfl := som hm4v
   exact Wr (ret1 hr z ⟨(bup (bup (bup (bup (bM (bup (bup h17 s16) h13) h12 (mem1le h1h)) s11) s18) s1b) s4w), z⟩)
  rintro r66 ex67 a68 w69 rfl ⟨rfl, hq4x⟩
  have hm4y := elR hm3c
  obtain rfl := som hm4y
  exact ⟨hq4x, z⟩
 rintro r6a ex6b a6c w6d rfl ⟨rfl, hq4z⟩
 have hm50 := elR hm2v
 obtain rfl := som hm50
 exact ⟨hq4z, z⟩
theorem W_w2k {x1 : Desc} {res : Bool} (hm : M_impl_IsValidDescription n x1 = some res) (hBw : B ≤ w0.z) (p1_0 : repS w0 B (sl A0 N0 C0) x1.rules) : CallsR prog 132 [(.agg #[sl A0 N0 C0])] w0 (Q7 w0 B res) := by
 unfold M_impl_IsValidDescription at hm
 refine goF func132 z z (lb z) fun fn hr => Ws (E z (fb z) ?_)
 rintro _ w1h ⟨rfl, h19⟩
 have h10 := h19.below
 have h1a : Blk w1h w0.z [sl A0 N0 C0] := h19.blk
 refine Ra z (Wn (Wq (Ws (R z (fd f_30_0 z) (R z (l1 g_28 z fid (h1a.at z)) ?_)))))
 have h14 := p1_0.ext h10
 refine R z (lnR d_28 z h14) ?_
 obtain ⟨r1u, e1i, hm1b⟩ := bdS hm
 refine E z (fc call176 z (W_w06 (B := B) e1i (lt_ hBw h10.size) (inI_len (repS.len h14)) (ii z) (ii z))) ?_
 rintro _ w12 ⟨s11, rfl⟩
 refine R z (not_ z) (Wn (Wc z (fun hc15 => ?_) (fun hc15 => ?_)))
 ·refine Ws (Ra z (Wn ?_))
  obtain rfl := som (ifT hm1b hc15)
  exact Wr (ret1 hr z ⟨(bup h10 s11), z⟩)
 refine Wk (Wq (Ws (R z (fd f_30_0 z) ?_)))
 have h1c := h1a.ext s11
 refine R z (l1 g_28 z fid (h1c.at z)) ?_
 have h1d := h14.ext s11
 refine R z (lnR d_28 z h1d) (Rm z (Wn ?_))
 obtain ⟨u1v, hu1j, hm1e⟩ := bdS (ifF hm1b hc15)
 refine WC_forN (σ := Unit) (ρ := Bool) (fun (k16 : Nat) (_ : Unit) a w => Sat 20 [(1, pt w0.z), (11, vI (x1.rules.length : Int)), (12, (vI ((k16 : Nat) : Int)))] a ∧ Below w12.z w12 w) (fun (_ : Unit) a w => Sat 20 [] a ∧ Below w12.z w12 w) (fun r ex a w => ex = .ret ∧ RetPost prog fn (Q7 w0 B r) a w) hu1j ?_ ?_ ?_ ?_ ?_
 ·exact fun _ q => ⟨(q.k (s3 z z z)), (br w12)⟩
 ·rintro k16 _ a1w w1x o1y hk17 ⟨hS1k, s13⟩ hm1l
  refine Wu ?_ hS1k
  refine Ws (R z (lss z z) (Wn (Wq (Wc z (fun _ => ?_) (fun hc => (nolt hk17 hc).elim)))))
  refine Wk (Wq (WC_block (Ws (Rm z (Ra z (Wn (Ws (R z (lN (vs := [sl A0 N0 C0]) g_30 z_30 z z fid ((h1c.ext s13).row 0 1 z)) (Rm z ?_)))))))))
  obtain ⟨r1z, e1m, hm1f⟩ := bdS hm1l
  refine E z (fc call177 z (W_w2j (B := B) e1m (lt_ hBw (lt_ (lt_ h10.size s11.size) s13.size)) (h1d.ext s13) (inI_cnt (Nat.le_of_lt hk17) (lt_ (repS.len p1_0) LEN_le)))) ?_
  rintro _ w20 ⟨s1g, rfl⟩
  refine R z (not_ z) (Wn (Wc z (fun hc18 => ?_) (fun hc18 => ?_)))
  ·exact Ws (Ra z (Wn (Wr (rtO (QO_retL (som (ifT hm1f hc18)).symm (ret1 hr z ⟨(bup (bup (bup h10 s11) s13) s1g), z⟩))))))
  exact Wk (Wg (R z (inc_ hk17 (lt_ (repS.len p1_0) LEN_le) z z) (Rm z (Wl (fun _ q => ⟨(), (som (ifF hm1f hc18)).symm, ⟨(q.k (s3 z z z)), (bup s13 s1g)⟩⟩)))))
 ·rintro _ a21 w22 ⟨hS1n, s1o⟩
  refine Wu ?_ hS1n
  refine Ws (R z (lss z z) (Wn (Wq (Wc z (fun hc => (noltt hc).elim) (fun _ => ?_)))))
  exact WC_exit (fun a' ha' => ⟨rfl, ⟨(Sat.weaken ha' sn), s1o⟩⟩)
 ·rintro _ a1p w23 rfl ⟨hS24, s1q⟩
  have hm1r := elL hm1e
  revert a1p
  refine Wo (Ws (Ra z (Wn ?_)))
  obtain rfl := som hm1r
  exact Wr (ret1 hr z ⟨(bup (bup h10 s11) s1q), z⟩)
 rintro r25 ex26 a27 w28 rfl ⟨rfl, hq1s⟩
 have hm1t := elR hm1e
 obtain rfl := som hm1t
 exact ⟨hq1s, z⟩
theorem W_w0r {x1 : Desc} {x2 : Int} {res : Bool} (hm : M_impl_known n x1 x2 = some res) (hBw : B ≤ w0.z) (p1_0 : repS w0 B (sl A0 N0 C0) x1.rules) (p2_0 : inI x2) : CallsR prog 170 [(.agg #[sl A0 N0 C0]), vI x2] w0 (Q7 w0 B res) := by
 unfold M_impl_known at hm
 refine goF func170 z z (lb z) fun fn hr => Ws (E z (fb z) ?_)
 rintro _ w13 ⟨rfl, h15⟩
 have h12 := h15.below
 have h16 : Blk w13 w0.z [sl A0 N0 C0] := h15.blk
 refine Ra z (Wn (Wq ?_))
 obtain ⟨u19, hu1a, hm1b⟩ := bdS hm
 refine WC_cut (fun a w => ∃ (x14 : Bool), x14 = u19 ∧ Sat 12 [(4, vB x14)] a ∧ Below w13.z w13 w) ?_ ?_
 ·refine Wg (R z (lN (vs := [sl A0 N0 C0]) g_30 z_30 z z fid (h16.row 0 1 z)) ?_)
  have h17 := p1_0.ext h12
  obtain ⟨r1c, e1d, hm18⟩ := bdS hu1a
  refine E z (fc call132 z (W_w2k (B := B) e1d (lt_ hBw h12.size) h17)) ?_
  rintro _ w1k ⟨s11, rfl⟩
  refine Rm z ?_
  rcases bs r1c with hc10 | hc10
  ·refine Rh z hc10 (lN (vs := [sl A0 N0 C0]) g_30 z_30 z z fid ((h16.ext s11).row 0 1 z)) (Rh z hc10 (mv z) ?_)
   obtain ⟨r1e, e1f, hm1g⟩ := bdS (ifT hm18 hc10)
   refine Eg z z hc10 z (fc call188 z (W_w0o (B := B) e1f (lt_ hBw (lt_ h12.size s11.size)) (h17.ext s11) p2_0)) ?_
   rintro _ w1l ⟨s1h, rfl⟩
   exact R z (pT z hc10 z) (Ra z (Wl (fun _ q => ⟨r1e, som hm1g, (q.k (s1 z)), (bup s11 s1h)⟩)))
  iterate 3 refine Nh z hc10 ?_
  exact R z (pF z hc10 z) (Ra z (Wl (fun _ q => ⟨false, som (ifF hm18 hc10), (q.k (s1 z)), s11⟩)))
 rintro a1i w1m ⟨x14, rfl, hS1n, s1j⟩
 revert a1i
 refine Wo ?_
 obtain rfl := som hm1b
 exact Wr (ret1 hr z ⟨(bup h12 s1j), z⟩)
def Q17 (w0 : World) (B : Nat) (r : (Option (Int × Int))) (v : Value) (w' : World) : Prop := Bw w0 w' ∧ (fun r1 => ∃ (v1 : Value) (S1 : List Nat), v1 = v ∧ errR 195 w' S1 v1 r1 ∧ (∀ k ∈ S1, w0.z ≤ k)) r
theorem W_w07 {x1 : Int} {x2 : Int} {res : (Option (Int × Int))} (hm : M_impl_fail x1 x2 = some res) (hBw : B ≤ w0.z) (p1_0 : inI x1) (p2_0 : inI x2) : CallsR prog 198 [vI x1, vI x2] w0 (Q17 w0 B res) := by
 unfold M_impl_fail at hm
 refine goF func198 z z (lb z) fun fn hr => Ws (Ra z (Wn (Ws (Rm z (Rm z (R z (bP (parts := [(0, (.tmp 5)), (1, (.tmp 6))]) (cs := [vI x1, vI x2]) build_199 z z) (E z (fb z) ?_)))))))
 rintro _ w11 ⟨rfl, h10⟩
 have h12 : Blk w11 w0.z [vI x1, vI x2] := h10.blk
 refine R z (rd_makeIface d_195 (fun _ h => by cases h) z) (Ra z (Wn ?_))
 obtain rfl := som hm
 exact Wr (ret1 hr z ⟨h10.below, (.iface 195 (pt w0.z)), [w0.z], z, (errR_mkp h12 p1_0 p2_0 z), (mem1 lr)⟩)
def Q18 (w0 : World) (B : Nat) (r : (List UInt8) × (Option (Int × Int))) (v : Value) (w' : World) : Prop := Bw w0 w' ∧ un2 (fun r1 r2 => ∃ (a1 : Option Addr) (n1 c1 : Nat) (v2 : Value) (S2 : List Nat), v = .tuple #[sl a1 n1 c1, v2] ∧ repS w' w'.z (sl a1 n1 c1) r1 ∧ errR 195 w' S2 v2 r2 ∧ (∀ k ∈ S2, w0.z ≤ k)) r
theorem W_w0e {x1 : FileReader} {b1 o1 : Nat} {x2 : Int} {x3 : Int} {res : (List UInt8) × (Option (Int × Int))} (hm : M_impl_fileReader_take x1 x2 x3 = some res) (hBw : B ≤ w0.z) (p1_0 : repS w0 B (sl A0 N0 C0) x1.d.rules) (p1_1 : repS w0 B (sl A6 N6 C6) x1.b) (hC1 : CellsAt w0 b1 o1 [sl A0 N0 C0, sl A6 N6 C6]) (hC1b : b1 < B) (p2_0 : inI x2) (p3_0 : inI x3) : CallsR prog 219 [(.pointer (some ⟨b1, o1, none⟩)), vI x2, vI x3] w0 (Q18 w0 B res) := by
 unfold M_impl_fileReader_take at hm
 refine goF func219 z z (lb z) fun fn hr => Ws (Ra z (Ra z (Wn (Wq (Ws (Rm z (Rm z (R z (rd_nil z) (R z (fd f_190_1 z) (R z (l1 g_25 z fid (hC1.at (j := 1) z)) (R z (lnR d_25 z p1_1) (Rm z (R z (sb_ z z) (R z (rd_gtr z z) (Wn (Wc z (fun hc10 => ?_) (fun hc10 => ?_)))))))))))))))))
 ·refine Ws (Rm z ?_)
  obtain ⟨r1e, e12, hm13⟩ := bdS (ifT hm hc10)
  refine E z (fc call198 z (W_w07 (B := B) e12 hBw p2_0 (ii z))) ?_
  rintro _ w1f ⟨s11, v14, S15, rfl, h16, h17⟩
  refine Ra z (Ra z (Wn ?_))
  obtain rfl := som hm13
  exact Wr (ret2 hr z z ⟨s11, none, 0, 0, v14, S15, z, (repS.mono (ownS_rep onL all_nil) s11.size), h16, h17⟩)
 refine Wk (Ws (Rm z (R z (rd_nil z) (R z (fd f_190_1 z) (R z (l1 g_25 z fid (hC1.at (j := 1) z)) (Rm z (Rm z (Rm z (R z (add_ z z) ?_)))))))))
 obtain ⟨x1g, e18, hm19⟩ := bdS (ifF hm hc10)
 refine RX z (rd_sliceX d_25 z_5 z z p1_1 z z e18) ?_
 rintro _ ⟨a1a, n1b, c1c, rfl, h1d⟩
 refine Ra z (Ra z (Wn ?_))
 obtain rfl := som hm19
 exact Wr (ret2 hr z z ⟨(br w0), a1a, n1b, c1c, .nilIface, ([] : List Nat), z, (repS.mono h1d hBw), errR_nil, all_nil⟩)
theorem W_w0s {x1 : List UInt8} {x2 : Bool} {res : Int} (hm : M_impl_ReadInteger x1 x2 = some res) (hBw : B ≤ w0.z) (p1_0 : repS w0 B (sl A0 N0 C0) x1) : CallsR prog 55 [sl A0 N0 C0, vB x2] w0 (Q0 w0 B res) := by
 unfold M_impl_ReadInteger at hm
 refine goF func55 z z (lb z) fun fn hr => Ws (Ra z (Wn (Wq (Ws (Rm z (R z (lnR d_25 z p1_0) (R z (rd_gtr z z) (Wn (Wc z (fun hc15 => ?_) (fun hc15 => ?_))))))))))
 ·refine Ws (Ra z (Wn ?_))
  obtain rfl := som (ifT hm hc15)
  exact Wr (ret1 hr z ⟨(br w0), z, (ii z)⟩)
 refine Wk (Ws (Ra z (Wn (Wq (Ws (Rm z (R z (lnR d_25 z p1_0) (Rm z (Wn ?_)))))))))
 obtain ⟨u21, hu1c, hm18⟩ := bdS (ifF hm hc15)
 refine WC_forN (σ := Int) (ρ := Int) (fun (k12 : Nat) (x10 : Int) a w => Sat 38 [(0, sl A0 N0 C0), (1, vB x2), (5, vI x10), (11, vI (x1.length : Int)), (12, (vI ((k12 : Nat) : Int)))] a ∧ Below w0.z w0 w ∧ inI x10) (fun (x10 : Int) a w => Sat 38 [(5, vI x10)] a ∧ Below w0.z w0 w ∧ inI x10) (fun r ex a w => ex = .ret ∧ RetPost prog fn (Q0 w0 B r) a w) hu1c ?_ ?_ ?_ ?_ ?_
 ·exact fun _ q => ⟨(q.k (s5 z z z z z)), (br w0), (ii z)⟩
 ·rintro k12 x10 a22 w13 o23 hk19 ⟨hS1d, s16, h14⟩ hm1e
  refine Wu ?_ hS1d
  refine Ws (R z (lss z z) (Wn (Wq (Wc z (fun _ => ?_) (fun hc => (nolt hk19 hc).elim)))))
  refine Wk (Wq (WC_block (Ws (Rm z (Ra z (Wn (Ws (Rm z (Wn ?_)))))))))
  obtain ⟨u1f, hu1a, hm1g⟩ := bdS hm1e
  refine WC_cut (fun a w => ∃ (x11 : Int), x11 = u1f ∧ Sat 38 [(0, sl A0 N0 C0), (1, vB x2), (5, vI x11), (11, vI (x1.length : Int)), (12, (vI ((k12 : Nat) : Int)))] a ∧ Below w13.z w13 w ∧ inI x11) ?_ ?_
  ·refine Wc z (fun hc17 => ?_) (fun hc17 => ?_)
   ·refine Wg (Rm z (R z (rd_shl z z (by decide)) (Rm z (Rm z ?_))))
    have h1b := p1_0.ext s16
    refine R z (lnR d_25 z h1b) (R z (sb_ z z) (Rm z (R z (sb_ z z) ?_)))
    obtain ⟨x1h, e1i, hm1j⟩ := bdS (ifT hu1a hc17)
    refine RX z (at_ (α := UInt8) d_25 z_5 z z z h1b e1i) ?_
    rintro _ ⟨b24, o25, cs26, rfl, h1k, h1l, h27⟩
    obtain rfl := UInt8_open h1l
    exact R z (l1 g_5 z fid (h1k.at0 z)) (R z (rd_convUI d_5 d_3 z) (R z (rd_or z z) (Ra z (Wl (fun _ q => ⟨bitop .i64 (· ||| ·) (shlK .i64 x10 8) (byteI x1h), som hm1j, (q.k (s5 z z z z z)), (br w13), (inI_bitop _ _ _)⟩)))))
   refine Wg (Rm z (R z (rd_shl z z (by decide)) (Rm z (Rm z ?_))))
   obtain ⟨x1m, e1n, hm1o⟩ := bdS (ifF hu1a hc17)
   refine RX z (at_ (α := UInt8) d_25 z_5 z z z (p1_0.ext s16) e1n) ?_
   rintro _ ⟨b28, o29, cs2a, rfl, h1p, h1q, h2b⟩
   obtain rfl := UInt8_open h1q
   exact R z (l1 g_5 z fid (h1p.at0 z)) (R z (rd_convUI d_5 d_3 z) (R z (rd_or z z) (Ra z (Wl (fun _ q => ⟨bitop .i64 (· ||| ·) (shlK .i64 x10 8) (byteI x1m), som hm1o, (q.k (s5 z z z z z)), (br w13), (inI_bitop _ _ _)⟩)))))
  rintro a1r w2c ⟨x11, rfl, hS2d, s1s, h1t⟩
  revert a1r
  exact Wo (Wg (R z (inc_ hk19 (lt_ (repS.len p1_0) LEN_le) z z) (Rm z (Wl (fun _ q => ⟨x11, (som hm1g).symm, ⟨(q.k (s5 z z z z z)), (bup s16 s1s), h1t⟩⟩)))))
 ·rintro x10 a2e w2f ⟨hS1u, s1v, h14⟩
  refine Wu ?_ hS1u
  refine Ws (R z (lss z z) (Wn (Wq (Wc z (fun hc => (noltt hc).elim) (fun _ => ?_)))))
  exact WC_exit (fun a' ha' => ⟨rfl, ⟨(Sat.weaken ha' (s1 z)), s1v, h14⟩⟩)
 ·rintro x10 a1w w2g rfl ⟨hS2h, s1x, h14⟩
  have hm1y := elL hm18
  revert a1w
  refine Wo (Ws (Rm z (Ra z (Wn ?_))))
  obtain rfl := som hm1y
  exact Wr (ret1 hr z ⟨s1x, z, h14⟩)
 rintro r2i ex2j a2k w2l rfl ⟨rfl, hq1z⟩
 have hm20 := elR hm18
 obtain rfl := som hm20
 exact ⟨hq1z, z⟩
def Q19 (w0 : World) (B : Nat) (r : Int × Int × (Option (Int × Int))) (v : Value) (w' : World) : Prop := Bw w0 w' ∧ un3 (fun r1 r2 r3 => ∃ (v1 : Value) (S1 : List Nat), v = .tuple #[vI r1, vI r2, v1] ∧ inI r1 ∧ inI r2 ∧ errR 195 w' S1 v1 r3 ∧ (∀ k ∈ S1, w0.z ≤ k)) r
theorem W_w0f {x1 : FileReader} {b1 o1 : Nat} {x2 : Int} {x3 : Int} {res : Int × Int × (Option (Int × Int))} (hm : M_impl_fileReader_integer x1 x2 x3 = some res) (hBw : B ≤ w0.z) (p1_0 : repS w0 B (sl A0 N0 C0) x1.d.rules) (p1_1 : repS w0 B (sl A6 N6 C6) x1.b) (hC1 : CellsAt w0 b1 o1 [sl A0 N0 C0, sl A6 N6 C6]) (hC1b : b1 < B) (p2_0 : inI x2) (p3_0 : inI x3) : CallsR prog 189 [(.pointer (some ⟨b1, o1, none⟩)), vI x2, vI x3] w0 (Q19 w0 B res) := by
 unfold M_impl_fileReader_integer at hm
 refine goF func189 z z (lb z) fun fn hr => Ws (Ra z (Ra z (Ra z (Wn (Ws (Rm z (R z (rd_nil z) (R z (fd f_190_0 z) (R z (fd f_30_0 z) (R z (l1 g_28 z fid (hC1.at (j := 0) z)) (Rm z ?_)))))))))))
 obtain ⟨x10, e1p, hm1q⟩ := bdS hm
 refine RX z (at_ (α := Rule) d_28 z_80 z z z p1_0 e1p) ?_
 rintro _ ⟨b27, o28, cs29, rfl, h1r, h1s, h2a⟩
 obtain ⟨a17, n18, c19, a1a, n1b, c1c, a1d, n1e, c1f, a1g, n1h, c1i, rfl, h2b, h2c, h1t, h2d, h2e, h2f, h2g⟩ := Rule_open h1s
 refine R z (lN (vs := (vR x10 a17 n18 c19 a1a n1b c1c a1d n1e c1f a1g n1h c1i)) g_80 z_80 z z fid h1r) (E z (fa zero_80) ?_)
 rintro _ w1u ⟨rfl, h1j⟩
 have h11 := h1j.below
 have h1v : Blk w1u w0.z [(Str.v (⟨[]⟩ : Str)), vI 0, vI 0, vB false, sl none 0 0, sl none 0 0, sl none 0 0, sl none 0 0] := h1j.blk
 refine E0 (fs (cur' := (vR x10 a17 n18 c19 a1a n1b c1c a1d n1e c1f a1g n1h c1i)) z_80 z z h1v z (lb z) (oA z) z) ?_
 rintro _ w2h ⟨h1k, s1w⟩
 have h12 := s1w.one
 refine Wn (Ws (Rm z (Rm z (R z (fd f_80_2 z) (R z (l1 g_3 z fid (h1k.at z)) ?_)))))
 have h14 := mem1le hBw
 have h1l := lt_ h11.size h12.size
 obtain ⟨r2i, r2j, e1x, hm1m⟩ := bd2S hm1q
 refine E z (fc call219 z (W_w0e (B := B) e1x (lt_ hBw h1l) ((p1_0.ext h11).chg h12 (lg h14)) ((p1_1.ext h11).chg h12 (lg h14)) ((hC1.ext h11).chg h12 ((lg h14) _ hC1b)) hC1b p3_0 h1t)) ?_
 rintro _ w1y ⟨s15, a2k, n2l, c2m, v1z, S20, rfl, h21, h1n, h22⟩
 refine Rm z (R z (ext_ z z) (R z (ext_ z z) (Ra z (Ra z (Wn (Wq (Ws (Rm z (R z (rd_neqEr d_192 z z h1n) (Wn (Wc z (fun hc16 => ?_) (fun hc16 => ?_))))))))))))
 ·refine Ws (Rm z (Rm z (Ra z (Ra z (Ra z (Wn ?_))))))
  obtain rfl := som (ifT hm1m hc16)
  exact Wr (ret3 hr z z z ⟨(bup (bM h11 h12 (mem1 lr)) s15), v1z, S20, z, (ii z), p3_0, h1n, (o0le h22 h1l)⟩)
 refine Wk (Wq (WC_draw (X := noX) 0 (.rd 0 (.rd 1 (.rd 2 (.rd 4 (.rd 5 (.rd 6 (.rd 7 (.ef 3 (.rd 8 (.rd 9 (.rd 10 .done))))))))))) mo (by kernel_rfl) fun w2n s13 _ => dR z z (mv z) (dR z z (fd f_80_3 z) ?_)))
 have h1o := (h1k.ext s15).ext s13
 refine dR z z (l1 g_4 z fid (h1o.at z)) (dR z z (mv z) (dR z z (fd f_80_2 z) (dR z z (l1 g_3 z fid (h1o.at z)) (dR z z (add_ z z) ?_))))
 obtain ⟨r2o, e23, hm24⟩ := bdS (ifF hm1m hc16)
 refine dE z z (fc call55 z (W_w0s (B := w1y.z) e23 s13.size (h21.ext s13))) (.inr fun _ _ h => chgB (h.1)) ?_
 rintro _ w2p ⟨s25, rfl, h26⟩
 iterate 3 refine dR z z (asg z) ?_
 refine PR_done (Wo ?_)
 obtain rfl := som hm24
 exact Wr (ret3 hr z z z ⟨(bup (bup (bup (bM h11 h12 (mem1 lr)) s15) s13) s25), .nilIface, ([] : List Nat), z, h26, (iA _ _), errR_nil, all_nil⟩)
def Q20 (w0 : World) (B : Nat) (r : Int × (Option (Int × Int))) (v : Value) (w' : World) : Prop := Bw w0 w' ∧ un2 (fun r1 r2 => ∃ (v1 : Value) (S1 : List Nat), v = .tuple #[vI r1, v1] ∧ inI r1 ∧ errR 195 w' S1 v1 r2 ∧ (∀ k ∈ S1, w0.z ≤ k)) r
theorem W_w2l {x1 : FileReader} {b1 o1 : Nat} {x2 : Rule} {x3 : Int} {res : Int × (Option (Int × Int))} (hm : M_impl_fileReader_constant x1 x2 x3 = some res) (hBw : B ≤ w0.z) (p1_0 : repS w0 B (sl A0 N0 C0) x1.d.rules) (p1_1 : repS w0 B (sl A6 N6 C6) x1.b) (hC1 : CellsAt w0 b1 o1 [sl A0 N0 C0, sl A6 N6 C6]) (hC1b : b1 < B) (p2_0 : x2.name.b.length ≤ LEN) (p2_1 : inI x2.kind) (p2_2 : inI x2.size) (p2_4 : repS w0 B (sl A2 N2 C2) x2.bytes) (p2_5 : repS w0 B (sl A3 N3 C3) x2.names) (p2_6 : repS w0 B (sl A1 N1 C1) x2.tags) (p2_7 : repS w0 B (sl A4 N4 C4) x2.kids) (p3_0 : inI x3) : CallsR prog 190 [(.pointer (some ⟨b1, o1, none⟩)), (.agg #[Str.v x2.name, vI x2.kind, vI x2.size, vB x2.little, sl A2 N2 C2, sl A3 N3 C3, sl A1 N1 C1, sl A4 N4 C4]), vI x3] w0 (Q20 w0 B res) := by
 unfold M_impl_fileReader_constant at hm
 refine goF func190 z z (lb z) fun fn hr => Ws (E z (fb z) ?_)
 rintro _ w12 ⟨rfl, h18⟩
 have h10 := h18.below
 have h19 : Blk w12 w0.z (vR x2 A2 N2 C2 A3 N3 C3 A1 N1 C1 A4 N4 C4) := h18.blk
 refine Ra z (Ra z (Wn (Wq (Ws (R z (fd f_80_4 z) (R z (l1 g_25 z fid (h19.at z)) ?_))))))
 have h13 := p2_4.ext h10
 refine R z (lnR d_25 z h13) (Rm z (Wn ?_))
 obtain ⟨u2b, hu1i, hm1a⟩ := bdS hm
 refine WC_forN (σ := Unit) (ρ := Int × (Option (Int × Int))) (fun (k14 : Nat) (_ : Unit) a w => Sat 52 [(0, (.pointer (some ⟨b1, o1, none⟩))), (2, vI x3), (4, pt w0.z), (11, sl A2 N2 C2), (12, vI (x2.bytes.length : Int)), (13, (vI ((k14 : Nat) : Int)))] a ∧ Below w12.z w12 w) (fun (_ : Unit) a w => Sat 52 [(2, vI x3), (4, pt w0.z)] a ∧ Below w12.z w12 w) (fun r ex a w => ex = .ret ∧ RetPost prog fn (Q20 w0 B r) a w) hu1i ?_ ?_ ?_ ?_ ?_
 ·exact fun _ q => ⟨(q.k (s6 z z z z z z)), (br w12)⟩
 ·rintro k14 _ a2c w2d o2e hk1b ⟨hS1j, s11⟩ hm1k
  refine Wu ?_ hS1j
  refine Ws (R z (lss z z) (Wn (Wq (Wc z (fun _ => ?_) (fun hc => (nolt hk1b hc).elim)))))
  refine Wk (Wq (WC_block (Ws (Rm z ?_))))
  obtain ⟨x2f, e1l, hm1c⟩ := bdS hm1k
  refine RX z (at_ (α := UInt8) d_25 z_5 z z z (h13.ext s11) e1l) ?_
  rintro _ ⟨b2g, o2h, cs2i, rfl, h1m, h1n, h2j⟩
  obtain rfl := UInt8_open h1n
  refine R z (l1 g_5 z fid (h1m.at0 z)) (Ra z (Ra z (Wn (Wq (Ws (Rm z (Rm z (R z (add_ z z) (Rm z (R z (rd_nil z) (R z (fd f_190_1 z) ?_)))))))))))
  have h1d := (hC1.ext h10).ext s11
  refine R z (l1 g_25 z fid (h1d.at (j := 1) z)) ?_
  have h1e := (p1_1.ext h10).ext s11
  refine R z (lnR d_25 z h1e) (R z (rd_geq z z) (Wn (Wc z (fun hc15 => ?_) (fun hc15 => ?_))))
  ·refine Ws (Rm z (Rm z ?_))
   have h1f := lt_ h10.size s11.size
   obtain ⟨r2k, e1o, hm1p⟩ := bdS (ifT hm1c hc15)
   refine E z (fc call198 z (W_w07 (B := B) e1o (lt_ hBw h1f) p3_0 (ii z))) ?_
   rintro _ w2l ⟨s1q, v1r, S1s, rfl, h1t, h1u⟩
   exact Ra z (Ra z (Wn (Wr (rtO (QO_retL (som hm1p).symm (ret2 hr z z ⟨(bup (bup h10 s11) s1q), v1r, S1s, z, p3_0, h1t, (o0le h1u h1f)⟩))))))
  refine Wk (Ws (Rm z (R z (rd_nil z) (R z (fd f_190_1 z) (R z (l1 g_25 z fid (h1d.at (j := 1) z)) (Rm z (Rm z (R z (add_ z z) ?_))))))))
  obtain ⟨x2m, e1v, hm1g⟩ := bdS (ifF hm1c hc15)
  refine RX z (at_ (α := UInt8) d_25 z_5 z z z h1e e1v) ?_
  rintro _ ⟨b2n, o2o, cs2p, rfl, h1w, h1x, h2q⟩
  obtain rfl := UInt8_open h1x
  refine R z (l1 g_5 z fid (h1w.at0 z)) (Rm z (R z (nq z z) (Wn (Wc z (fun hc16 => ?_) (fun hc16 => ?_)))))
  ·refine Ws (Rm z (Rm z (Rm z (R z (add_ z z) ?_))))
   have h1h := lt_ h10.size s11.size
   obtain ⟨r2r, e1y, hm1z⟩ := bdS (ifT hm1g hc16)
   refine E z (fc call198 z (W_w07 (B := B) e1y (lt_ hBw h1h) (iA _ _) (ii z))) ?_
   rintro _ w2s ⟨s20, v21, S22, rfl, h23, h24⟩
   exact Ra z (Ra z (Wn (Wr (rtO (QO_retL (som hm1z).symm (ret2 hr z z ⟨(bup (bup h10 s11) s20), v21, S22, z, p3_0, h23, (o0le h24 h1h)⟩))))))
  exact Wk (Wg (R z (inc_ hk1b (lt_ (repS.len p2_4) LEN_le) z z) (Rm z (Wl (fun _ q => ⟨(), (som (ifF hm1g hc16)).symm, ⟨(q.k (s6 z z z z z z)), s11⟩⟩)))))
 ·rintro _ a2t w2u ⟨hS25, s26⟩
  refine Wu ?_ hS25
  refine Ws (R z (lss z z) (Wn (Wq (Wc z (fun hc => (noltt hc).elim) (fun _ => ?_)))))
  exact WC_exit (fun a' ha' => ⟨rfl, ⟨(Sat.weaken ha' (s2 z z)), s26⟩⟩)
 ·rintro _ a27 w2v rfl ⟨hS2w, s17⟩
  have hm28 := elL hm1a
  revert a27
  refine Wo (Ws (Rm z (R z (fd f_80_4 z) (R z (l1 g_25 z fid ((h19.ext s17).at z)) (R z (lnR d_25 z (h13.ext s17)) (R z (add_ z z) (Ra z (Ra z (Wn ?_)))))))))
  obtain rfl := som hm28
  exact Wr (ret2 hr z z ⟨(bup h10 s17), .nilIface, ([] : List Nat), z, (iA _ _), errR_nil, all_nil⟩)
 rintro r2x ex2y a2z w30 rfl ⟨rfl, hq29⟩
 have hm2a := elR hm1a
 obtain rfl := som hm2a
 exact ⟨hq29, z⟩
def Q21 (w0 : World) (B : Nat) (r : Val × Int × (Option (Int × Int))) (v : Value) (w' : World) : Prop := Bw w0 w' ∧ un3 (fun r1 r2 r3 => ∃ (a1 : Option Addr) (n1 c1 : Nat) (S1 : List Nat) (a2 : Option Addr) (n2 c2 : Nat) (S2 : List Nat) (v3 : Value) (S3 : List Nat), v = .tuple #[(.agg #[vI r1.number, sl a1 n1 c1, sl a2 n2 c2]), vI r2, v3] ∧ inI r1.number ∧ ownS w' S1 (sl a1 n1 c1) r1.bytes ∧ ownS w' S2 (sl a2 n2 c2) r1.items ∧ inI r2 ∧ errR 195 w' S3 v3 r3 ∧ (∀ k ∈ S3, w0.z ≤ k) ∧ (S1 ++ S2).Nodup ∧ (∀ k ∈ (S1 ++ S2), w0.z ≤ k)) r
theorem W_w15 {x1 : FileReader} {b1 o1 : Nat} {x2 : Int} {x3 : Int} {res : Val × Int × (Option (Int × Int))} (hm : M_impl_fileReader_content x1 x2 x3 = some res) (hBw : B ≤ w0.z) (p1_0 : repS w0 B (sl A0 N0 C0) x1.d.rules) (p1_1 : repS w0 B (sl A6 N6 C6) x1.b) (hC1 : CellsAt w0 b1 o1 [sl A0 N0 C0, sl A6 N6 C6]) (hC1b : b1 < B) (p2_0 : inI x2) (p3_0 : inI x3) : CallsR prog 191 [(.pointer (some ⟨b1, o1, none⟩)), vI x2, vI x3] w0 (Q21 w0 B res) := by
 unfold M_impl_fileReader_content at hm
 refine goF func191 z z (lb z) fun fn hr => Ws (E z (fa zero_52) ?_)
 rintro _ w1k ⟨rfl, h18⟩
 have h10 := h18.below
 have h12 : Blk w1k w0.z [vI 0, sl none 0 0, sl none 0 0] := h18.blk
 refine Ra z (Ra z (Wn (Ws (Rm z (Rm z (Rm z ?_))))))
 obtain ⟨r1z, r20, e1l, hm19⟩ := bd2S hm
 refine E z (fc call219 z (W_w0e (B := B) e1l (lt_ hBw h10.size) (p1_0.ext h10) (p1_1.ext h10) (hC1.ext h10) hC1b p2_0 p3_0)) ?_
 rintro _ w21 ⟨s11, a22, n23, c24, v1m, S1n, rfl, h1o, h1a, h1b⟩
 refine Rm z (R z (ext_ z z) (R z (ext_ z z) (Ra z (Ra z (Wn (Wq (Ws (Rm z (R z (rd_neqEr d_192 z z h1a) (Wn (Wc z (fun hc14 => ?_) (fun hc14 => ?_))))))))))))
 ·refine Ws (R z (bP (parts := []) (cs := [vI 0, sl none 0 0, sl none 0 0]) build_52 z z) (Rm z (Rm z (E0 (fs (cur' := [vI 0, sl none 0 0, sl none 0 0]) z_52 z z (h12.ext s11) z (lb z) (oA z) z) ?_))))
  rintro _ w25 ⟨h1p, s1q⟩
  have h1c := s1q.one
  refine Ra z (Ra z (Wn ?_))
  obtain rfl := som (ifT hm19 hc14)
  exact Wr (ret3 hr (resC g_52 z_52 z h1p z) z z ⟨(bM (bup h10 s11) h1c (mem1 lr)), none, 0, 0, [], none, 0, 0, [], v1m, S1n, z, (ii z), onL, onL, p2_0, (h1a.chg h1c (o0n1 h1b h12.lt lr)), (o0le h1b h10.size), nd0, al0⟩)
 refine Wk (Ws (E z (ef_lit0 (α := UInt8) el_25) ?_))
 rintro _ w26 ⟨a27, n28, c29, rfl, s13, h1r⟩
 refine Rm z ?_
 obtain ⟨x2a, e1s, hm1t⟩ := bdS (ifF hm19 hc14)
 refine E z (ef_appendN (α := UInt8) el_25 e1s z z h1r nd_one (h1o.ext s13)) ?_
 rintro _ w2b ⟨S1d, a15, n16, c17, rfl, s1e, h1u, h1v, h1f⟩
 refine R z (bP (parts := [(1, (.tmp 25))]) (cs := [vI 0, sl a15 n16 c17, sl none 0 0]) build_52 z z) (Rm z (Rm z (R z (add_ z z) ?_)))
 have h1g := mm1 h12.lt s11.size
 refine E0 (fs (cur' := [vI 0, sl a15 n16 c17, sl none 0 0]) z_52 z z (((h12.ext s11).ext s13).chg s1e (djs h1g)) z (lb z) (oA z) z) ?_
 rintro _ w2c ⟨h1w, s1x⟩
 have h1h := s1x.one
 refine Ra z (Ra z (Wn ?_))
 obtain rfl := som hm1t
 have h1y : ∀ k ∈ S1d, k ∉ [w0.z] := or1 h1f h1g (ltnot (mem1 h12.lt) (lt_ s11.size s13.size))
 have h1i := lt_ h10.size s11.size
 have h1j := mem1le h1i
 exact Wr (ret3 hr (resC g_52 z_52 z h1w z) z z ⟨(bM (bM (bup (bup h10 s11) s13) s1e h1j) h1h (mem1 lr)), a15, n16, c17, S1d, none, 0, 0, [], .nilIface, ([] : List Nat), z, (ii z), (h1u.chg h1h h1y), onL, (iA _ _), errR_nil, all_nil, (nd_app h1v nd_nil (nmN _)), (all_app (o1le h1f h1j (lt_ h1i s13.size)) all_nil)⟩)
theorem W_w16 {x1 : List UInt8} {res : Int} (hm : M_impl_SumOfBytes x1 = some res) (hBw : B ≤ w0.z) (p1_0 : repS w0 B (sl A0 N0 C0) x1) : CallsR prog 68 [sl A0 N0 C0] w0 (Q0 w0 B res) := by
 unfold M_impl_SumOfBytes at hm
 refine goF func68 z z (lb z) fun fn hr => Ws (Ra z (Wn (Ws (Ra z (Wn (Wq (Ws (Rm z (R z (lnR d_25 z p1_0) (Rm z (Wn ?_)))))))))))
 obtain ⟨u1l, hu16, hm13⟩ := bdS hm
 refine WC_forN (σ := Int) (ρ := Int) (fun (k12 : Nat) (x10 : Int) a w => Sat 19 [(3, vI x10), (6, sl A0 N0 C0), (7, vI (x1.length : Int)), (8, (vI ((k12 : Nat) : Int)))] a ∧ Below w0.z w0 w ∧ inI x10) (fun (x10 : Int) a w => Sat 19 [(3, vI x10)] a ∧ Below w0.z w0 w ∧ inI x10) (fun r ex a w => ex = .ret ∧ RetPost prog fn (Q0 w0 B r) a w) hu16 ?_ ?_ ?_ ?_ ?_
 ·exact fun _ q => ⟨(q.k (s4 z z z z)), (br w0), (ii z)⟩
 ·rintro k12 x10 a1m w1n o1o hk14 ⟨hS17, s15, h11⟩ hm18
  refine Wu ?_ hS17
  refine Ws (R z (lss z z) (Wn (Wq (Wc z (fun _ => ?_) (fun hc => (nolt hk14 hc).elim)))))
  refine Wk (Wq (WC_block (Ws ?_)))
  obtain ⟨x19, e1a, hm1b⟩ := bdS hm18
  refine RX z (at_ (α := UInt8) d_25 z_5 z z z (p1_0.ext s15) e1a) ?_
  rintro _ ⟨b1p, o1q, cs1r, rfl, h1c, h1d, h1s⟩
  obtain rfl := UInt8_open h1d
  exact R z (l1 g_5 z fid (h1c.at0 z)) (Ra z (Wn (Wg (Rm z (Rm z (R z (rd_convUI d_5 d_3 z) (R z (add_ z z) (Ra z (Wn (Wg (R z (inc_ hk14 (lt_ (repS.len p1_0) LEN_le) z z) (Rm z (Wl (fun _ q => ⟨iadd x10 (byteI x19), (som hm1b).symm, ⟨(q.k (s4 z z z z)), s15, (iA _ _)⟩⟩))))))))))))))
 ·rintro x10 a1t w1u ⟨hS1e, s1f, h11⟩
  refine Wu ?_ hS1e
  refine Ws (R z (lss z z) (Wn (Wq (Wc z (fun hc => (noltt hc).elim) (fun _ => ?_)))))
  exact WC_exit (fun a' ha' => ⟨rfl, ⟨(Sat.weaken ha' (s1 z)), s1f, h11⟩⟩)
 ·rintro x10 a1g w1v rfl ⟨hS1w, s1h, h11⟩
  have hm1i := elL hm13
  revert a1g
  refine Wo (Ws (Rm z (R z (rd_rem z z (by decide)) (Ra z (Wn ?_)))))
  obtain rfl := som hm1i
  exact Wr (ret1 hr z ⟨s1h, z, (inI_rem h11)⟩)
 rintro r1x ex1y a1z w20 rfl ⟨rfl, hq1j⟩
 have hm1k := elR hm13
 obtain rfl := som hm1k
 exact ⟨hq1j, z⟩
theorem W_w17 {x1 : List UInt8} {x2 : Int} {x3 : UInt8} {res : (List UInt8) × Int × Bool} (hm : M_impl_ReadTerminated n x1 x2 x3 = some res) (hBw : B ≤ w0.z) (p1_0 : repS w0 B (sl A0 N0 C0) x1) (p2_0 : inI x2) : CallsR prog 197 [sl A0 N0 C0, vI x2, vU (byteI x3)] w0 (Q10 w0 B res) := by
 unfold M_impl_ReadTerminated at hm
 refine goF func197 z z (lb z) fun fn hr => Ws (Ra z (Ra z (Ra z (Wn (Ws (E z (ef_lit0 (α := UInt8) el_25) ?_))))))
 rintro _ w1h ⟨a1j, n1k, c1l, rfl, s18, h1v⟩
 refine Ra z (Wn (Wq (Wq ?_)))
 obtain ⟨u29, hu1w, hm1x⟩ := bdS hm
 refine WC_cut (fun a w => ∃ (x1m : Bool), x1m = u29 ∧ Sat 58 [(0, sl A0 N0 C0), (1, vI x2), (2, vU (byteI x3)), (9, sl a1j n1k c1l), (19, vB x1m)] a ∧ Below w1h.z w1h w) ?_ ?_
 ·refine Wg (Rm z (R z (lss z z) (Rm z ?_)))
  rcases bs (decide (x2 < 0)) with hc15 | hc15
  ·iterate 4 refine Nh z hc15 ?_
   exact R z (pT z hc15 z) (Wl (fun _ q => ⟨true, som (ifT hu1w hc15), (q.k (s5 z z z z z)), (br w1h)⟩))
  exact Rh z hc15 (mv z) (Rh z hc15 (mv z) (Rh z hc15 (lnR d_25 z (p1_0.ext s18)) (Rh z hc15 (rd_gtr z z) (R z (pF z hc15 z) (Wl (fun _ q => ⟨decide ((x1.length : Int) < x2), som (ifF hu1w hc15), (q.k (s5 z z z z z)), (br w1h)⟩))))))
 rintro a2a w10 ⟨x1m, rfl, hS3r, s17⟩
 revert a2a
 refine Wo (Wc z (fun hc1n => ?_) (fun hc1n => ?_))
 ·refine Ws (Rm z (Rm z (Ra z (Ra z (Ra z (Wn ?_))))))
  obtain rfl := som (ifT hm1x hc1n)
  exact Wr (ret3 hr z z z ⟨(bup s18 s17), a1j, n1k, c1l, [w0.z], z, (h1v.ext s17), p2_0, nd_one, (mem1 lr)⟩)
 refine Wk (Wq (Ws (Rm z (Ra z (Wn ?_)))))
 obtain ⟨u3s, hu2b, hm1y⟩ := bdS (ifF hm1x hc1n)
 refine WC_iter (σ := (List UInt8) × Int) (ρ := (List UInt8) × Int × Bool) (fun s a w => un2 (fun x1b x16 => ∃ a12 n13 c14 S11, Sat 58 [(0, sl A0 N0 C0), (1, vI x2), (2, vU (byteI x3)), (9, sl a12 n13 c14), (10, vI x16)] a ∧ Chg (· ∈ [w0.z]) w10 w ∧ ownS w S11 (sl a12 n13 c14) x1b ∧ S11.Nodup ∧ (∀ k ∈ S11, k ∈ [w0.z] ∨ w10.z ≤ k) ∧ inI x16) s) (fun s a w => un2 (fun x1b x16 => ∃ a12 n13 c14 S11, Sat 58 [(1, vI x2)] a ∧ Chg (· ∈ [w0.z]) w10 w ∧ ownS w S11 (sl a12 n13 c14) x1b ∧ S11.Nodup ∧ (∀ k ∈ S11, k ∈ [w0.z] ∨ w10.z ≤ k) ∧ inI x16) s) (fun r ex a w => ex = .ret ∧ RetPost prog fn (Q10 w0 B r) a w) hu2b ?_ ?_ ?_ ?_
 ·exact fun _ q => ⟨a1j, n1k, c1l, [w0.z], (q.k (s5 z z z z z)), (cr [w0.z] w10), (h1v.ext s17), nd_one, (io sr), p2_0⟩
 ·rintro ⟨x1b, x16⟩ a3t w19 o3u ⟨a12, n13, c14, S11, hS2c, s1a, h1c, h1d, h1e, h1o⟩ hm2d
  have hm1z := un2S hm2d
  refine Wu ?_ hS2c
  refine Wq (Ws (Rm z (Rm z ?_)))
  have h1f := ((p1_0.ext s18).ext s17).chg s1a (lg (mem1le hBw))
  refine R z (lnR d_25 z h1f) (R z (lss z z) (Wn (Wc z (fun hc1p => ?_) (fun hc1p => ?_))))
  ·refine Wk (Wq (WC_block (Wq (Ws (Rm z (Rm z ?_))))))
   obtain ⟨x3v, e2e, hm20⟩ := bdS (ifT hm1z hc1p)
   refine RX z (at_ (α := UInt8) d_25 z_5 z z z h1f e2e) ?_
   rintro _ ⟨b3w, o3x, cs3y, rfl, h2f, h2g, h3z⟩
   obtain rfl := UInt8_open h2g
   refine R z (l1 g_5 z fid (h2f.at0 z)) (Rm z (R z (eql z z) (Wn (Wc z (fun hc1q => ?_) (fun hc1q => ?_)))))
   ·refine Ws (Rm z (Rm z (R z (add_ z z) (Ra z (Ra z (Ra z (Wn ?_)))))))
    have h2h : ∀ k ∈ S11, w0.z ≤ k := or1 h1e (mem1 lr) (lele (lt_ s18.size s17.size))
    exact Wr (rtO (QO_retL (som (ifT hm20 hc1q)).symm (ret3 hr z z z ⟨(bM (bup s18 s17) s1a (mem1 lr)), a12, n13, c14, S11, z, h1c, (iA _ _), h1d, h2h⟩)))
   refine Wk (Wq (Ws (Rm z (Rm z ?_))))
   obtain ⟨x40, e2i, hm2j⟩ := bdS (ifF hm20 hc1q)
   refine RX z (at_ (α := UInt8) d_25 z_5 z z z h1f e2i) ?_
   rintro _ ⟨b41, o42, cs43, rfl, h2k, h2l, h44⟩
   obtain rfl := UInt8_open h2l
   refine R z (l1 g_5 z fid (h2k.at0 z)) (R z (eql z z) (Wn ?_))
   obtain ⟨u2m, hu21, hm22⟩ := bdS hm2j
   refine WC_cut (fun a w => ∃ (x1g : Int), Sum.inl x1g = u2m ∧ Sat 58 [(0, sl A0 N0 C0), (1, vI x2), (2, vU (byteI x3)), (9, sl a12 n13 c14), (10, vI x1g)] a ∧ Below w19.z w19 w ∧ inI x1g) ?_ ?_
   ·refine Wc z (fun hc1r => ?_) (fun hc1r => ?_)
    ·have hm23 := ifT hu21 hc1r
     refine Ws (Rm z (R z (add_ z z) (Ra z (Wn (Ws (Rm z (Rm z (R z (lnR d_25 z h1f) (R z (eql z z) (Wn (Wc z (fun hc1s => ?_) (fun hc1s => ?_))))))))))))
     ·obtain rfl := som (ifT hm23 hc1s)
      have hm2n := elR hm22
      have h2o : ∀ k ∈ S11, k ∈ [w0.z] ∨ w10.z ≤ k := or1 h1e (io sr) (leor lr)
      have h2p : Chg (· ∈ [w0.z]) w10 w19 := cM (cr [w0.z] w10) s1a (io sr)
      exact WC_exit (exO z (fun a' ha' => QO_brk (som hm2n).symm ⟨a12, n13, c14, S11, (Sat.weaken ha' (s1 z)), h2p, h1c, h1d, h2o, (iA _ _)⟩))
     exact WC_skip (fun _ q => ⟨iadd x16 1, som (ifF hm23 hc1s), (q.k (s5 z z z z z)), (br w19), (iA _ _)⟩)
    exact WC_skip (fun _ q => ⟨x16, som (ifF hu21 hc1r), (q.k (s5 z z z z z)), (br w19), h1o⟩)
   rintro a2q w24 ⟨x1g, rfl, hS45, s1i, h46⟩
   have hm2r := elL hm22
   revert a2q
   refine Wo (Wg (Rm z (Rm z (Rm z ?_))))
   obtain ⟨x2s, e2t, hm2u⟩ := bdS hm2r
   refine RX z (at_ (α := UInt8) d_25 z_5 z z z (h1f.ext s1i) e2t) ?_
   rintro _ ⟨b47, o48, cs49, rfl, h2v, h2w, h4a⟩
   obtain rfl := UInt8_open h2w
   refine R z (l1 g_5 z fid (h2v.at0 z)) (E z (ef_buildSlice [(.tmp 53)] el_25 z z z (szAll z) (lb z) (lb z)) ?_)
   rintro _ w25 ⟨rfl, h1t⟩
   have h1u := h1t.below
   have h2x : Blk w25 w24.z [vU (byteI x2s)] := h1t.blk
   have h4b := ownS_new1 h1t UInt8_own
   obtain ⟨x2y, e2z, hm30⟩ := bdS hm2u
   refine E z (ef_pushN (α := UInt8) el_25 e2z z z ((h1c.ext s1i).ext h1u) h1d h2x UInt8_own all_nil nd_nil) ?_
   rintro _ w31 ⟨S26, a32, n33, c34, rfl, s35, h36, h37, h38⟩
   refine Ra z (Wn (Wg (Rm z (R z (add_ z z) (Ra z (Wl ?_))))))
   have h27 : ∀ k ∈ S11, k ∈ [w0.z] ∨ w10.z ≤ k := or1 h1e (io sr) (leor lr)
   have h39 : ∀ k ∈ S26, k ∈ [w0.z] ∨ w10.z ≤ k := or2 h38 h27 all_nil (leor (lt_ (lt_ s1a.size s1i.size) h1u.size))
   have h3a : Chg (· ∈ [w0.z]) w10 w19 := cM (cr [w0.z] w10) s1a (io sr)
   have h3b : Chg (· ∈ [w0.z]) w10 w24 := cext h3a s1i
   have h3c : Chg (· ∈ [w0.z]) w10 w25 := cext h3b h1u
   have h3d : Chg (· ∈ [w0.z]) w10 w31 := cM h3c s35 h27
   exact fun _ q => ⟨(x2y, iadd x1g 1), (som hm30).symm, ⟨a32, n33, c34, S26, (q.k (s5 z z z z z)), h3d, h36, h37, h39, (iA _ _)⟩⟩
  have h3e : ∀ k ∈ S11, k ∈ [w0.z] ∨ w10.z ≤ k := or1 h1e (io sr) (leor lr)
  have h3f : Chg (· ∈ [w0.z]) w10 w19 := cM (cr [w0.z] w10) s1a (io sr)
  exact WC_exit (fun a' ha' => QO_brk (som (ifF hm1z hc1p)).symm ⟨a12, n13, c14, S11, (Sat.weaken ha' (s1 z)), h3f, h1c, h1d, h3e, h1o⟩)
 ·rintro ⟨x1b, x16⟩ a3g w3h rfl ⟨a12, n13, c14, S11, hS4c, s28, h1c, h1d, h1e, h1o⟩
  have hm3i := elL hm1y
  have hm3j := un2S hm3i
  revert a3g
  refine Wo (Ws (E z (ef_lit0 (α := UInt8) el_25) ?_))
  rintro _ w4d ⟨a3k, n3l, c3m, rfl, s3n, h3o⟩
  refine Rm z (Ra z (Ra z (Ra z (Wn ?_))))
  obtain rfl := som hm3j
  exact Wr (ret3 hr z z z ⟨(bup (bM (bup s18 s17) s28 (mem1 lr)) s3n), a3k, n3l, c3m, [w3h.z], z, h3o, p2_0, nd_one, (mem1le (lt_ (lt_ s18.size s17.size) s28.size))⟩)
 rintro r4e ex4f a4g w4h rfl ⟨rfl, hq3p⟩
 have hm3q := elR hm1y
 obtain rfl := som hm3q
 exact ⟨hq3p, z⟩
def Q22 (w0 : World) (B : Nat) (S2_1 : List Nat) (S2_2 : List Nat) (r : Val × Int × (Option (Int × Int))) (v : Value) (w' : World) : Prop := Chg (· ∈ (S2_1 ++ S2_2)) w0 w' ∧ un3 (fun r1 r2 r3 => ∃ (a1 : Option Addr) (n1 c1 : Nat) (S1 : List Nat) (a2 : Option Addr) (n2 c2 : Nat) (S2 : List Nat) (v3 : Value) (S3 : List Nat), v = .tuple #[(.agg #[vI r1.number, sl a1 n1 c1, sl a2 n2 c2]), vI r2, v3] ∧ inI r1.number ∧ ownS w' S1 (sl a1 n1 c1) r1.bytes ∧ ownS w' S2 (sl a2 n2 c2) r1.items ∧ inI r2 ∧ errR 195 w' S3 v3 r3 ∧ (∀ k ∈ S3, w0.z ≤ k) ∧ (S1 ++ S2).Nodup ∧ (∀ k ∈ (S1 ++ S2), k ∈ (S2_1 ++ S2_2) ∨ w0.z ≤ k)) r
structure S_impl_fileReader_value (f : FileReader → Int → Int → Option (Val × Int × (Option (Int × Int)))) : Prop where
  run : ∀ {B N0 C0 N6 C6 b1 o1 : Nat} {A0 A6 : Option Addr} {x1 : FileReader} {x2 : Int} {x3 : Int} {res : Val × Int × (Option (Int × Int))} {w0 : World} (hm : f x1 x2 x3 = some res) (hBw : B ≤ w0.z) (p1_0 : repS w0 B (sl A0 N0 C0) x1.d.rules) (p1_1 : repS w0 B (sl A6 N6 C6) x1.b) (hC1 : CellsAt w0 b1 o1 [sl A0 N0 C0, sl A6 N6 C6]) (hC1b : b1 < B) (p2_0 : inI x2) (p3_0 : inI x3), CallsR prog 171 [(.pointer (some ⟨b1, o1, none⟩)), vI x2, vI x3] w0 (Q21 w0 B res)
structure S_impl_fileReader_array (f : FileReader → Rule → Int → Option (Val × Int × (Option (Int × Int)))) : Prop where
  run : ∀ {B N0 C0 N6 C6 b1 o1 N2 C2 N3 C3 N1 C1 N4 C4 : Nat} {A0 A6 A2 A3 A1 A4 : Option Addr} {x1 : FileReader} {x2 : Rule} {x3 : Int} {res : Val × Int × (Option (Int × Int))} {w0 : World} (hm : f x1 x2 x3 = some res) (hBw : B ≤ w0.z) (p1_0 : repS w0 B (sl A0 N0 C0) x1.d.rules) (p1_1 : repS w0 B (sl A6 N6 C6) x1.b) (hC1 : CellsAt w0 b1 o1 [sl A0 N0 C0, sl A6 N6 C6]) (hC1b : b1 < B) (p2_0 : x2.name.b.length ≤ LEN) (p2_1 : inI x2.kind) (p2_2 : inI x2.size) (p2_4 : repS w0 B (sl A2 N2 C2) x2.bytes) (p2_5 : repS w0 B (sl A3 N3 C3) x2.names) (p2_6 : repS w0 B (sl A1 N1 C1) x2.tags) (p2_7 : repS w0 B (sl A4 N4 C4) x2.kids) (p3_0 : inI x3), CallsR prog 192 [(.pointer (some ⟨b1, o1, none⟩)), (.agg #[Str.v x2.name, vI x2.kind, vI x2.size, vB x2.little, sl A2 N2 C2, sl A3 N3 C3, sl A1 N1 C1, sl A4 N4 C4]), vI x3] w0 (Q21 w0 B res)
structure S_impl_fileReader_items (f : FileReader → Val → (List Int) → Int → Option (Val × Int × (Option (Int × Int)))) : Prop where
  run : ∀ {B N0 C0 N6 C6 b1 o1 NC CC NF CF N7 C7 : Nat} {A0 A6 AC AF A7 : Option Addr} {S2_1 S2_2 : List Nat} {x1 : FileReader} {x2 : Val} {x3 : List Int} {x4 : Int} {res : Val × Int × (Option (Int × Int))} {w0 : World} (hm : f x1 x2 x3 x4 = some res) (hBw : B ≤ w0.z) (p1_0 : repS w0 B (sl A0 N0 C0) x1.d.rules) (p1_1 : repS w0 B (sl A6 N6 C6) x1.b) (hC1 : CellsAt w0 b1 o1 [sl A0 N0 C0, sl A6 N6 C6]) (hC1b : b1 < B) (p2_0 : inI x2.number) (p2_1 : ownS w0 S2_1 (sl AC NC CC) x2.bytes) (p2_1n : S2_1.Nodup) (p2_1g : ∀ k ∈ S2_1, B ≤ k) (p2_2 : ownS w0 S2_2 (sl AF NF CF) x2.items) (p2_2n : S2_2.Nodup) (p2_2g : ∀ k ∈ S2_2, B ≤ k) (p2_2d1 : ∀ k ∈ S2_2, k ∉ S2_1) (p3_0 : repS w0 B (sl A7 N7 C7) x3) (p4_0 : inI x4), CallsR prog 193 [(.pointer (some ⟨b1, o1, none⟩)), (.agg #[vI x2.number, sl AC NC CC, sl AF NF CF]), sl A7 N7 C7, vI x4] w0 (Q22 w0 B S2_1 S2_2 res)
structure S_impl_fileReader_choice (f : FileReader → Rule → Int → Option (Val × Int × (Option (Int × Int)))) : Prop where
  run : ∀ {B N0 C0 N6 C6 b1 o1 N2 C2 N3 C3 N1 C1 N4 C4 : Nat} {A0 A6 A2 A3 A1 A4 : Option Addr} {x1 : FileReader} {x2 : Rule} {x3 : Int} {res : Val × Int × (Option (Int × Int))} {w0 : World} (hm : f x1 x2 x3 = some res) (hBw : B ≤ w0.z) (p1_0 : repS w0 B (sl A0 N0 C0) x1.d.rules) (p1_1 : repS w0 B (sl A6 N6 C6) x1.b) (hC1 : CellsAt w0 b1 o1 [sl A0 N0 C0, sl A6 N6 C6]) (hC1b : b1 < B) (p2_0 : x2.name.b.length ≤ LEN) (p2_1 : inI x2.kind) (p2_2 : inI x2.size) (p2_4 : repS w0 B (sl A2 N2 C2) x2.bytes) (p2_5 : repS w0 B (sl A3 N3 C3) x2.names) (p2_6 : repS w0 B (sl A1 N1 C1) x2.tags) (p2_7 : repS w0 B (sl A4 N4 C4) x2.kids) (p3_0 : inI x3), CallsR prog 194 [(.pointer (some ⟨b1, o1, none⟩)), (.agg #[Str.v x2.name, vI x2.kind, vI x2.size, vB x2.little, sl A2 N2 C2, sl A3 N3 C3, sl A1 N1 C1, sl A4 N4 C4]), vI x3] w0 (Q21 w0 B res)
structure S_impl_fileReader_option (f : FileReader → Rule → Int → Option (Val × Int × (Option (Int × Int)))) : Prop where
  run : ∀ {B N0 C0 N6 C6 b1 o1 N2 C2 N3 C3 N1 C1 N4 C4 : Nat} {A0 A6 A2 A3 A1 A4 : Option Addr} {x1 : FileReader} {x2 : Rule} {x3 : Int} {res : Val × Int × (Option (Int × Int))} {w0 : World} (hm : f x1 x2 x3 = some res) (hBw : B ≤ w0.z) (p1_0 : repS w0 B (sl A0 N0 C0) x1.d.rules) (p1_1 : repS w0 B (sl A6 N6 C6) x1.b) (hC1 : CellsAt w0 b1 o1 [sl A0 N0 C0, sl A6 N6 C6]) (hC1b : b1 < B) (p2_0 : x2.name.b.length ≤ LEN) (p2_1 : inI x2.kind) (p2_2 : inI x2.size) (p2_4 : repS w0 B (sl A2 N2 C2) x2.bytes) (p2_5 : repS w0 B (sl A3 N3 C3) x2.names) (p2_6 : repS w0 B (sl A1 N1 C1) x2.tags) (p2_7 : repS w0 B (sl A4 N4 C4) x2.kids) (p3_0 : inI x3), CallsR prog 195 [(.pointer (some ⟨b1, o1, none⟩)), (.agg #[Str.v x2.name, vI x2.kind, vI x2.size, vB x2.little, sl A2 N2 C2, sl A3 N3 C3, sl A1 N1 C1, sl A4 N4 C4]), vI x3] w0 (Q21 w0 B res)
structure S_impl_fileReader_checked (f : FileReader → Rule → Int → Option (Val × Int × (Option (Int × Int)))) : Prop where
  run : ∀ {B N0 C0 N6 C6 b1 o1 N2 C2 N3 C3 N1 C1 N4 C4 : Nat} {A0 A6 A2 A3 A1 A4 : Option Addr} {x1 : FileReader} {x2 : Rule} {x3 : Int} {res : Val × Int × (Option (Int × Int))} {w0 : World} (hm : f x1 x2 x3 = some res) (hBw : B ≤ w0.z) (p1_0 : repS w0 B (sl A0 N0 C0) x1.d.rules) (p1_1 : repS w0 B (sl A6 N6 C6) x1.b) (hC1 : CellsAt w0 b1 o1 [sl A0 N0 C0, sl A6 N6 C6]) (hC1b : b1 < B) (p2_0 : x2.name.b.length ≤ LEN) (p2_1 : inI x2.kind) (p2_2 : inI x2.size) (p2_4 : repS w0 B (sl A2 N2 C2) x2.bytes) (p2_5 : repS w0 B (sl A3 N3 C3) x2.names) (p2_6 : repS w0 B (sl A1 N1 C1) x2.tags) (p2_7 : repS w0 B (sl A4 N4 C4) x2.kids) (p3_0 : inI x3), CallsR prog 196 [(.pointer (some ⟨b1, o1, none⟩)), (.agg #[Str.v x2.name, vI x2.kind, vI x2.size, vB x2.little, sl A2 N2 C2, sl A3 N3 C3, sl A1 N1 C1, sl A4 N4 C4]), vI x3] w0 (Q21 w0 B res)
abbrev I_impl_fileReader_value (n : Nat) : Prop := S_impl_fileReader_value (F_impl_fileReader_value n).impl_fileReader_value ∧ S_impl_fileReader_array (F_impl_fileReader_value n).impl_fileReader_array ∧ S_impl_fileReader_items (F_impl_fileReader_value n).impl_fileReader_items ∧ S_impl_fileReader_choice (F_impl_fileReader_value n).impl_fileReader_choice ∧ S_impl_fileReader_option (F_impl_fileReader_value n).impl_fileReader_option ∧ S_impl_fileReader_checked (F_impl_fileReader_value n).impl_fileReader_checked
theorem T_w01 (ih : I_impl_fileReader_value n) : S_impl_fileReader_value (B_impl_fileReader_value n (F_impl_fileReader_value n)) := by
 obtain ⟨ih0, ih1, ih2, ih3, ih4, ih5⟩ := ih
 constructor
 intro B N0 C0 N6 C6 b1 o1 A0 A6 x1 x2 x3 res w0 hm hBw p1_0 p1_1 hC1 hC1b p2_0 p3_0
 unfold B_impl_fileReader_value at hm
 refine goF func171 z z (lb z) fun fn hr => Ws (E z (fa zero_52) ?_)
 rintro _ w3j ⟨rfl, h3k⟩
 have h12 := h3k.below
 have h13 : Blk w3j w0.z [vI 0, sl none 0 0, sl none 0 0] := h3k.blk
 refine Ra z (Ra z (Wn (Ws (Rm z (R z (rd_nil z) (R z (fd f_190_0 z) (R z (fd f_30_0 z) ?_)))))))
 have h15 := hC1.ext h12
 refine R z (l1 g_28 z fid (h15.at (j := 0) z)) (Rm z ?_)
 obtain ⟨x14, e64, hm3l⟩ := bdS hm
 have h17 := p1_0.ext h12
 refine RX z (at_ (α := Rule) d_28 z_80 z z z h17 e64) ?_
 rintro _ ⟨b10b, o10c, cs10d, rfl, h65, h66, h10e⟩
 obtain ⟨a1a, n1b, c1c, a1d, n1e, c1f, a1g, n1h, c1i, a1j, n1k, c1l, rfl, h1v, h1w, h1s, h1t, h1x, h1y, h1m⟩ := Rule_open h66
 refine R z (lN (vs := (vR x14 a1a n1b c1c a1d n1e c1f a1g n1h c1i a1j n1k c1l)) g_80 z_80 z z fid h65) (E z (fa zero_80) ?_)
 rintro _ w67 ⟨rfl, h3m⟩
 have h10 := h3m.below
 have h68 : Blk w67 w3j.z [(Str.v (⟨[]⟩ : Str)), vI 0, vI 0, vB false, sl none 0 0, sl none 0 0, sl none 0 0, sl none 0 0] := h3m.blk
 refine E0 (fs (cur' := (vR x14 a1a n1b c1c a1d n1e c1f a1g n1h c1i a1j n1k c1l)) z_80 z z h68 z (lb z) (oA z) z) ?_
 rintro _ w10f ⟨h18, s69⟩
 have h11 := s69.one
 refine Wn (Wq (Ws (R z (fd f_80_1 z) (R z (l1 g_3 z fid (h18.at z)) (Wn (WC_block (Ws (R z (eql z z) (Ra z (Wn (Wc z (fun hc2m => ?_) (fun hc2m => ?_))))))))))))
 ·refine Ws (Rm z (Rm z (Rm z ?_)))
  have h2n := mem1le (lt_ hBw h12.size)
  have h3n := lt_ (lt_ h12.size h10.size) h11.size
  obtain ⟨r3o, r10g, r10h, e6a, hm6b⟩ := bd3S (ifT hm3l hc2m)
  refine E z (fc call189 z (W_w0f (B := B) e6a (lt_ hBw h3n) ((h17.ext h10).chg h11 (lg h2n)) (((p1_1.ext h12).ext h10).chg h11 (lg h2n)) ((h15.ext h10).chg h11 ((lg h2n) _ hC1b)) hC1b p2_0 p3_0)) ?_
  rintro _ w10i ⟨s3p, v6c, S6d, rfl, h6e, h6f, h6g, h3q⟩
  refine Rm z ?_
  iterate 3 refine R z (ext_ z z) ?_
  refine Ra z (Ra z (Ra z (Wn (Ws (Rm z (R z (bP (parts := [(0, (.tmp 41))]) (cs := [vI r3o, sl none 0 0, sl none 0 0]) build_52 z z) (Rm z (Rm z (E0 (fs (cur' := [vI r3o, sl none 0 0, sl none 0 0]) z_52 z z (((h13.ext h10).chg h11 (djs (mmr h13.lt))).ext s3p) z (lb z) (oA z) z) ?_)))))))))
  rintro _ w10j ⟨h6h, s6i⟩
  have h3r := s6i.one
  refine Ra z (Ra z (Wn ?_))
  obtain rfl := som hm6b
  exact Wr (rtO (ret3 hr (resC g_52 z_52 z h6h z) z z ⟨(bM (bup (bM (bup h12 h10) h11 (mem1le h12.size)) s3p) h3r (mem1 lr)), none, 0, 0, [], none, 0, 0, [], v6c, S6d, z, h6e, onL, onL, h6f, (h6g.chg h3r (o0n1 h3q h13.lt (lt_ h10.size h11.size))), (o0le h3q h3n), nd0, al0⟩))
 have hm3s := ifF hm3l hc2m
 refine Ws (R z (eql z z) (Ra z (Wn (Wc z (fun hc2o => ?_) (fun hc2o => ?_)))))
 ·refine Ws (Rm z (R z (lN (vs := (vR x14 a1a n1b c1c a1d n1e c1f a1g n1h c1i a1j n1k c1l)) g_80 z_80 z z fid (h18.row 0 8 z)) (Rm z ?_)))
  have h1n := mem1le (lt_ hBw h12.size)
  have h3t := lt_ (lt_ h12.size h10.size) h11.size
  obtain ⟨r10k, r10l, e6j, hm6k⟩ := bd2S (ifT hm3s hc2o)
  refine E z (fc call190 z (W_w2l (B := B) e6j (lt_ hBw h3t) ((h17.ext h10).chg h11 (lg h1n)) (((p1_1.ext h12).ext h10).chg h11 (lg h1n)) ((h15.ext h10).chg h11 ((lg h1n) _ hC1b)) hC1b h1v h1w h1s ((h1t.ext h10).chg h11 (lg h1n)) ((h1x.ext h10).chg h11 (lg h1n)) ((h1y.ext h10).chg h11 (lg h1n)) ((h1m.ext h10).chg h11 (lg h1n)) p3_0)) ?_
  rintro _ w10m ⟨s3u, v6l, S6m, rfl, h6n, h6o, h3v⟩
  refine Rm z (R z (ext_ z z) (R z (ext_ z z) (Ra z (Ra z (Wn (Ws (R z (bP (parts := []) (cs := [vI 0, sl none 0 0, sl none 0 0]) build_52 z z) (Rm z (Rm z (E0 (fs (cur' := [vI 0, sl none 0 0, sl none 0 0]) z_52 z z (((h13.ext h10).chg h11 (djs (mmr h13.lt))).ext s3u) z (lb z) (oA z) z) ?_))))))))))
  rintro _ w10n ⟨h6p, s6q⟩
  have h3w := s6q.one
  refine Ra z (Ra z (Wn ?_))
  obtain rfl := som hm6k
  exact Wr (rtO (ret3 hr (resC g_52 z_52 z h6p z) z z ⟨(bM (bup (bM (bup h12 h10) h11 (mem1le h12.size)) s3u) h3w (mem1 lr)), none, 0, 0, [], none, 0, 0, [], v6l, S6m, z, (ii z), onL, onL, h6n, (h6o.chg h3w (o0n1 h3v h13.lt (lt_ h10.size h11.size))), (o0le h3v h3t), nd0, al0⟩))
 have hm3x := ifF hm3s hc2o
 refine Ws (R z (eql z z) (Ra z (Wn (Wc z (fun hc2p => ?_) (fun hc2p => ?_)))))
 ·refine Ws (Rm z (Rm z (R z (fd f_80_2 z) (R z (l1 g_3 z fid (h18.at z)) ?_))))
  have h2q := mem1le (lt_ hBw h12.size)
  have h1z := lt_ (lt_ h12.size h10.size) h11.size
  obtain ⟨r6r, r10o, r10p, e6s, hm6t⟩ := bd3S (ifT hm3x hc2p)
  refine E z (fc call191 z (W_w15 (B := B) e6s (lt_ hBw h1z) ((h17.ext h10).chg h11 (lg h2q)) (((p1_1.ext h12).ext h10).chg h11 (lg h2q)) ((h15.ext h10).chg h11 ((lg h2q) _ hC1b)) hC1b p3_0 h1s)) ?_
  rintro _ w10q ⟨s3y, a3z, n40, c41, S6u, a42, n43, c44, S6v, v6w, S6x, rfl, h6y, h6z, h70, h71, h72, h45, h2r, h20⟩
  iterate 3 refine R z (ext_ z z) ?_
  refine E0 (fs (cur' := [vI r6r.number, sl a3z n40 c41, sl a42 n43 c44]) z_52 z z (((h13.ext h10).chg h11 (djs (mmr h13.lt))).ext s3y) z (lb z) (oA z) z) ?_
  rintro _ w10r ⟨h73, s74⟩
  have h21 := s74.one
  refine Ra z (Ra z (Wn ?_))
  obtain rfl := som hm6t
  have h2s := lt_ h10.size h11.size
  exact Wr (rtO (ret3 hr (resC g_52 z_52 z h73 z) z z ⟨(bM (bup (bM (bup h12 h10) h11 (mem1le h12.size)) s3y) h21 (mem1 lr)), a3z, n40, c41, S6u, a42, n43, c44, S6v, v6w, S6x, z, h6y, (h6z.chg h21 (o0n1 (all_left h20) h13.lt h2s)), (h70.chg h21 (o0n1 (all_right h20) h13.lt h2s)), h71, (h72.chg h21 (o0n1 h45 h13.lt h2s)), (o0le h45 h1z), (nd_app (nd_left h2r) (nd_right h2r) (nd_dj h2r)), (all_app (o0le (all_left h20) h1z) (o0le (all_right h20) h1z))⟩))
 have hm46 := ifF hm3x hc2p
 refine Ws (R z (eql z z) (Ra z (Wn (Wc z (fun hc2t => ?_) (fun hc2t => ?_)))))
 ·refine Ws (Rm z (R z (fd f_80_7 z) (R z (l1 g_78 z fid (h18.at z)) ?_)))
  obtain ⟨x10s, e75, hm76⟩ := bdS (ifT hm46 hc2t)
  have h22 := mem1le (lt_ hBw h12.size)
  refine RX z (at_ (α := Int) d_78 z_3 z z z ((h1m.ext h10).chg h11 (lg h22)) e75) ?_
  rintro _ ⟨b10t, o10u, cs10v, rfl, h77, h78, h10w⟩
  obtain ⟨rfl, h79⟩ := Int_open h78
  refine R z (l1 g_3 z fid (h77.at0 z)) (Rm z ?_)
  have h47 := (h15.ext h10).chg h11 ((lg h22) _ hC1b)
  have h48 := (h17.ext h10).chg h11 (lg h22)
  have h49 := ((p1_1.ext h12).ext h10).chg h11 (lg h22)
  have h2u := lt_ (lt_ h12.size h10.size) h11.size
  obtain ⟨r10x, r10y, r10z, e7a, hm4a⟩ := bd3S hm76
  refine E z (fc call189 z (W_w0f (B := B) e7a (lt_ hBw h2u) h48 h49 h47 hC1b h79 p3_0)) ?_
  rintro _ w110 ⟨s19, v7b, S7c, rfl, h7d, h7e, h4b, h4c⟩
  refine Rm z ?_
  iterate 3 refine R z (ext_ z z) ?_
  refine Ra z (Ra z (Ra z (Wn (Wq (Ws (Rm z (R z (rd_neqEr d_192 z z h4b) (Wn (Wc z (fun hc2v => ?_) (fun hc2v => ?_))))))))))
  ·refine Ws (R z (bP (parts := []) (cs := [vI 0, sl none 0 0, sl none 0 0]) build_52 z z) (Rm z (Rm z (E0 (fs (cur' := [vI 0, sl none 0 0, sl none 0 0]) z_52 z z (((h13.ext h10).chg h11 (djs (mmr h13.lt))).ext s19) z (lb z) (oA z) z) ?_))))
   rintro _ w111 ⟨h7f, s7g⟩
   have h4d := s7g.one
   refine Ra z (Ra z (Wn ?_))
   obtain rfl := som (ifT hm4a hc2v)
   exact Wr (rtO (ret3 hr (resC g_52 z_52 z h7f z) z z ⟨(bM (bup (bM (bup h12 h10) h11 (mem1le h12.size)) s19) h4d (mem1 lr)), none, 0, 0, [], none, 0, 0, [], v7b, S7c, z, (ii z), onL, onL, p3_0, (h4b.chg h4d (o0n1 h4c h13.lt (lt_ h10.size h11.size))), (o0le h4c h2u), nd0, al0⟩))
  refine Wk (Ws (Rm z (Rm z (Rm z ?_))))
  have h23 := lt_ h2u s19.size
  obtain ⟨r7h, r112, r113, e7i, hm7j⟩ := bd3S (ifF hm4a hc2v)
  refine E z (fc call191 z (W_w15 (B := B) e7i (lt_ hBw h23) (h48.ext s19) (h49.ext s19) (h47.ext s19) hC1b h7e h7d)) ?_
  rintro _ w114 ⟨s4e, a4f, n4g, c4h, S7k, a4i, n4j, c4k, S7l, v7m, S7n, rfl, h7o, h7p, h7q, h7r, h7s, h4l, h2w, h24⟩
  iterate 3 refine R z (ext_ z z) ?_
  refine E0 (fs (cur' := [vI r7h.number, sl a4f n4g c4h, sl a4i n4j c4k]) z_52 z z ((((h13.ext h10).chg h11 (djs (mmr h13.lt))).ext s19).ext s4e) z (lb z) (oA z) z) ?_
  rintro _ w115 ⟨h7t, s7u⟩
  have h25 := s7u.one
  refine Ra z (Ra z (Wn ?_))
  obtain rfl := som hm7j
  have h2x := lt_ (lt_ h10.size h11.size) s19.size
  exact Wr (rtO (ret3 hr (resC g_52 z_52 z h7t z) z z ⟨(bM (bup (bup (bM (bup h12 h10) h11 (mem1le h12.size)) s19) s4e) h25 (mem1 lr)), a4f, n4g, c4h, S7k, a4i, n4j, c4k, S7l, v7m, S7n, z, h7o, (h7p.chg h25 (o0n1 (all_left h24) h13.lt h2x)), (h7q.chg h25 (o0n1 (all_right h24) h13.lt h2x)), h7r, (h7s.chg h25 (o0n1 h4l h13.lt h2x)), (o0le h4l h23), (nd_app (nd_left h2w) (nd_right h2w) (nd_dj h2w)), (all_app (o0le (all_left h24) h23) (o0le (all_right h24) h23))⟩))
 have hm4m := ifF hm46 hc2t
 refine Ws (R z (eql z z) (Ra z (Wn (Wc z (fun hc2y => ?_) (fun hc2y => ?_)))))
 ·refine Ws (Rm z (R z (lN (vs := (vR x14 a1a n1b c1c a1d n1e c1f a1g n1h c1i a1j n1k c1l)) g_80 z_80 z z fid (h18.row 0 8 z)) (Rm z ?_)))
  have h1o := mem1le (lt_ hBw h12.size)
  have h26 := lt_ (lt_ h12.size h10.size) h11.size
  obtain ⟨r7v, r116, r117, e7w, hm7x⟩ := bd3S (ifT hm4m hc2y)
  refine E z (fc call192 z (ih1.run (B := B) e7w (lt_ hBw h26) ((h17.ext h10).chg h11 (lg h1o)) (((p1_1.ext h12).ext h10).chg h11 (lg h1o)) ((h15.ext h10).chg h11 ((lg h1o) _ hC1b)) hC1b h1v h1w h1s ((h1t.ext h10).chg h11 (lg h1o)) ((h1x.ext h10).chg h11 (lg h1o)) ((h1y.ext h10).chg h11 (lg h1o)) ((h1m.ext h10).chg h11 (lg h1o)) p3_0)) ?_
  rintro _ w118 ⟨s4n, a4o, n4p, c4q, S7y, a4r, n4s, c4t, S7z, v80, S81, rfl, h82, h83, h84, h85, h86, h4u, h2z, h27⟩
  iterate 3 refine R z (ext_ z z) ?_
  refine E0 (fs (cur' := [vI r7v.number, sl a4o n4p c4q, sl a4r n4s c4t]) z_52 z z (((h13.ext h10).chg h11 (djs (mmr h13.lt))).ext s4n) z (lb z) (oA z) z) ?_
  rintro _ w119 ⟨h87, s88⟩
  have h28 := s88.one
  refine Ra z (Ra z (Wn ?_))
  obtain rfl := som hm7x
  have h30 := lt_ h10.size h11.size
  exact Wr (rtO (ret3 hr (resC g_52 z_52 z h87 z) z z ⟨(bM (bup (bM (bup h12 h10) h11 (mem1le h12.size)) s4n) h28 (mem1 lr)), a4o, n4p, c4q, S7y, a4r, n4s, c4t, S7z, v80, S81, z, h82, (h83.chg h28 (o0n1 (all_left h27) h13.lt h30)), (h84.chg h28 (o0n1 (all_right h27) h13.lt h30)), h85, (h86.chg h28 (o0n1 h4u h13.lt h30)), (o0le h4u h26), (nd_app (nd_left h2z) (nd_right h2z) (nd_dj h2z)), (all_app (o0le (all_left h27) h26) (o0le (all_right h27) h26))⟩))
 have hm4v := ifF hm4m hc2y
 refine Ws (R z (eql z z) (Ra z (Wn (Wc z (fun hc31 => ?_) (fun hc31 => ?_)))))
 ·refine Ws (Rm z (R z (bP (parts := []) (cs := [vI 0, sl none 0 0, sl none 0 0]) build_52 z z) (R z (fd f_80_7 z) (R z (l1 g_78 z fid (h18.at z)) (Rm z ?_)))))
  have h29 := mem1le (lt_ hBw h12.size)
  have h2a := lt_ (lt_ h12.size h10.size) h11.size
  obtain ⟨r89, r11a, r11b, e8a, hm8b⟩ := bd3S (ifT hm4v hc31)
  refine E z (fc call193 z (ih2.run (B := B) (x2 := (⟨0, ([] : List UInt8), ([] : List Val)⟩ : Val)) e8a (lt_ hBw h2a) ((h17.ext h10).chg h11 (lg h29)) (((p1_1.ext h12).ext h10).chg h11 (lg h29)) ((h15.ext h10).chg h11 ((lg h29) _ hC1b)) hC1b (ii z) onL nd_nil all_nil onL nd_nil all_nil all_nil ((h1m.ext h10).chg h11 (lg h29)) p3_0)) ?_
  rintro _ w11c ⟨s4w, a4x, n4y, c4z, S50, a51, n52, c53, S54, v8c, S8d, rfl, h8e, h8f, h8g, h8h, h8i, h55, h32, h2b⟩
  iterate 3 refine R z (ext_ z z) ?_
  refine E0 (fs (cur' := [vI r89.number, sl a4x n4y c4z, sl a51 n52 c53]) z_52 z z (((h13.ext h10).chg h11 (djs (mmr h13.lt))).chg s4w (atp (nmA (nmN _) (nmN _)))) z (lb z) (oA z) z) ?_
  rintro _ w11d ⟨h8j, s8k⟩
  have h2c := s8k.one
  refine Ra z (Ra z (Wn ?_))
  obtain rfl := som hm8b
  have h33 := lt_ h10.size h11.size
  have h8l : ∀ k ∈ S50, k ∉ [w0.z] := or1 (all_left h2b) al0 (ltnot (mem1 h13.lt) h33)
  have h8m : ∀ k ∈ S54, k ∉ [w0.z] := or1 (all_right h2b) al0 (ltnot (mem1 h13.lt) h33)
  exact Wr (rtO (ret3 hr (resC g_52 z_52 z h8j z) z z ⟨(bM (bM (bM (bup h12 h10) h11 (mem1le h12.size)) s4w al0) h2c (mem1 lr)), a4x, n4y, c4z, S50, a51, n52, c53, S54, v8c, S8d, z, h8e, (h8f.chg h2c h8l), (h8g.chg h2c h8m), h8h, (h8i.chg h2c (o0n1 h55 h13.lt h33)), (o0le h55 h2a), (nd_app (nd_left h32) (nd_right h32) (nd_dj h32)), (all_app (o1le (all_left h2b) al0 h2a) (o1le (all_right h2b) al0 h2a))⟩))
 have hm56 := ifF hm4v hc31
 refine Ws (R z (eql z z) (Ra z (Wn (Wc z (fun hc34 => ?_) (fun hc34 => ?_)))))
 ·refine Ws (Rm z (R z (lN (vs := (vR x14 a1a n1b c1c a1d n1e c1f a1g n1h c1i a1j n1k c1l)) g_80 z_80 z z fid (h18.row 0 8 z)) (Rm z ?_)))
  have h1p := mem1le (lt_ hBw h12.size)
  have h2d := lt_ (lt_ h12.size h10.size) h11.size
  obtain ⟨r8n, r11e, r11f, e8o, hm8p⟩ := bd3S (ifT hm56 hc34)
  refine E z (fc call194 z (ih3.run (B := B) e8o (lt_ hBw h2d) ((h17.ext h10).chg h11 (lg h1p)) (((p1_1.ext h12).ext h10).chg h11 (lg h1p)) ((h15.ext h10).chg h11 ((lg h1p) _ hC1b)) hC1b h1v h1w h1s ((h1t.ext h10).chg h11 (lg h1p)) ((h1x.ext h10).chg h11 (lg h1p)) ((h1y.ext h10).chg h11 (lg h1p)) ((h1m.ext h10).chg h11 (lg h1p)) p3_0)) ?_
  rintro _ w11g ⟨s57, a58, n59, c5a, S8q, a5b, n5c, c5d, S8r, v8s, S8t, rfl, h8u, h8v, h8w, h8x, h8y, h5e, h35, h2e⟩
  iterate 3 refine R z (ext_ z z) ?_
  refine E0 (fs (cur' := [vI r8n.number, sl a58 n59 c5a, sl a5b n5c c5d]) z_52 z z (((h13.ext h10).chg h11 (djs (mmr h13.lt))).ext s57) z (lb z) (oA z) z) ?_
  rintro _ w11h ⟨h8z, s90⟩
  have h2f := s90.one
  refine Ra z (Ra z (Wn ?_))
  obtain rfl := som hm8p
  have h36 := lt_ h10.size h11.size
  exact Wr (rtO (ret3 hr (resC g_52 z_52 z h8z z) z z ⟨(bM (bup (bM (bup h12 h10) h11 (mem1le h12.size)) s57) h2f (mem1 lr)), a58, n59, c5a, S8q, a5b, n5c, c5d, S8r, v8s, S8t, z, h8u, (h8v.chg h2f (o0n1 (all_left h2e) h13.lt h36)), (h8w.chg h2f (o0n1 (all_right h2e) h13.lt h36)), h8x, (h8y.chg h2f (o0n1 h5e h13.lt h36)), (o0le h5e h2d), (nd_app (nd_left h35) (nd_right h35) (nd_dj h35)), (all_app (o0le (all_left h2e) h2d) (o0le (all_right h2e) h2d))⟩))
 have hm5f := ifF hm56 hc34
 refine Ws (R z (eql z z) (Ra z (Wn (Wc z (fun hc37 => ?_) (fun hc37 => ?_)))))
 ·refine Ws (Rm z (R z (lN (vs := (vR x14 a1a n1b c1c a1d n1e c1f a1g n1h c1i a1j n1k c1l)) g_80 z_80 z z fid (h18.row 0 8 z)) (Rm z ?_)))
  have h1q := mem1le (lt_ hBw h12.size)
  have h2g := lt_ (lt_ h12.size h10.size) h11.size
  obtain ⟨r91, r11i, r11j, e92, hm93⟩ := bd3S (ifT hm5f hc37)
  refine E z (fc call195 z (ih4.run (B := B) e92 (lt_ hBw h2g) ((h17.ext h10).chg h11 (lg h1q)) (((p1_1.ext h12).ext h10).chg h11 (lg h1q)) ((h15.ext h10).chg h11 ((lg h1q) _ hC1b)) hC1b h1v h1w h1s ((h1t.ext h10).chg h11 (lg h1q)) ((h1x.ext h10).chg h11 (lg h1q)) ((h1y.ext h10).chg h11 (lg h1q)) ((h1m.ext h10).chg h11 (lg h1q)) p3_0)) ?_
  rintro _ w11k ⟨s5g, a5h, n5i, c5j, S94, a5k, n5l, c5m, S95, v96, S97, rfl, h98, h99, h9a, h9b, h9c, h5n, h38, h2h⟩
  iterate 3 refine R z (ext_ z z) ?_
  refine E0 (fs (cur' := [vI r91.number, sl a5h n5i c5j, sl a5k n5l c5m]) z_52 z z (((h13.ext h10).chg h11 (djs (mmr h13.lt))).ext s5g) z (lb z) (oA z) z) ?_
  rintro _ w11l ⟨h9d, s9e⟩
  have h2i := s9e.one
  refine Ra z (Ra z (Wn ?_))
  obtain rfl := som hm93
  have h39 := lt_ h10.size h11.size
  exact Wr (rtO (ret3 hr (resC g_52 z_52 z h9d z) z z ⟨(bM (bup (bM (bup h12 h10) h11 (mem1le h12.size)) s5g) h2i (mem1 lr)), a5h, n5i, c5j, S94, a5k, n5l, c5m, S95, v96, S97, z, h98, (h99.chg h2i (o0n1 (all_left h2h) h13.lt h39)), (h9a.chg h2i (o0n1 (all_right h2h) h13.lt h39)), h9b, (h9c.chg h2i (o0n1 h5n h13.lt h39)), (o0le h5n h2g), (nd_app (nd_left h38) (nd_right h38) (nd_dj h38)), (all_app (o0le (all_left h2h) h2g) (o0le (all_right h2h) h2g))⟩))
 have hm5o := ifF hm5f hc37
 refine Ws (R z (eql z z) (Ra z (Wn (Wc z (fun hc3a => ?_) (fun hc3a => ?_)))))
 ·refine Ws (Rm z (R z (lN (vs := (vR x14 a1a n1b c1c a1d n1e c1f a1g n1h c1i a1j n1k c1l)) g_80 z_80 z z fid (h18.row 0 8 z)) (Rm z ?_)))
  have h1r := mem1le (lt_ hBw h12.size)
  have h2j := lt_ (lt_ h12.size h10.size) h11.size
  obtain ⟨r9f, r11m, r11n, e9g, hm9h⟩ := bd3S (ifT hm5o hc3a)
  refine E z (fc call196 z (ih5.run (B := B) e9g (lt_ hBw h2j) ((h17.ext h10).chg h11 (lg h1r)) (((p1_1.ext h12).ext h10).chg h11 (lg h1r)) ((h15.ext h10).chg h11 ((lg h1r) _ hC1b)) hC1b h1v h1w h1s ((h1t.ext h10).chg h11 (lg h1r)) ((h1x.ext h10).chg h11 (lg h1r)) ((h1y.ext h10).chg h11 (lg h1r)) ((h1m.ext h10).chg h11 (lg h1r)) p3_0)) ?_
  rintro _ w11o ⟨s5p, a5q, n5r, c5s, S9i, a5t, n5u, c5v, S9j, v9k, S9l, rfl, h9m, h9n, h9o, h9p, h9q, h5w, h3b, h2k⟩
  iterate 3 refine R z (ext_ z z) ?_
  refine E0 (fs (cur' := [vI r9f.number, sl a5q n5r c5s, sl a5t n5u c5v]) z_52 z z (((h13.ext h10).chg h11 (djs (mmr h13.lt))).ext s5p) z (lb z) (oA z) z) ?_
  rintro _ w11p ⟨h9r, s9s⟩
  have h2l := s9s.one
  refine Ra z (Ra z (Wn ?_))
  obtain rfl := som hm9h
  have h3c := lt_ h10.size h11.size
  exact Wr (rtO (ret3 hr (resC g_52 z_52 z h9r z) z z ⟨(bM (bup (bM (bup h12 h10) h11 (mem1le h12.size)) s5p) h2l (mem1 lr)), a5q, n5r, c5s, S9i, a5t, n5u, c5v, S9j, v9k, S9l, z, h9m, (h9n.chg h2l (o0n1 (all_left h2k) h13.lt h3c)), (h9o.chg h2l (o0n1 (all_right h2k) h13.lt h3c)), h9p, (h9q.chg h2l (o0n1 h5w h13.lt h3c)), (o0le h5w h2j), (nd_app (nd_left h3b) (nd_right h3b) (nd_dj h3b)), (all_app (o0le (all_left h2k) h2j) (o0le (all_right h2k) h2j))⟩))
 refine Wk (Wq (WC_draw (X := noX) 0 (.rd 0 (.rd 1 (.rd 2 (.rd 3 (.rd 4 (.rd 5 (.rd 6 (.rd 7 (.rd 8 (.ef 9 (.rd 10 (.rd 11 (.rd 12 (.rd 13 (.rd 14 (.rd 15 (.rd 16 .done))))))))))))))))) mo (by kernel_rfl) fun w11q s16 _ => dR z z (mv z) (dR z z (rd_nil z) (dR z z (fd f_190_1 z) ?_))))
 have h3d := mem1le (lt_ hBw h12.size)
 refine dR z z (l1 g_25 z fid ((((h15.ext h10).chg h11 ((lg h3d) _ hC1b)).ext s16).at (j := 1) z)) (dR z z (mv z) (dR z z (fd f_80_4 z) (dR z z (l1 g_25 z fid ((h18.ext s16).at z)) ?_)))
 obtain ⟨x11r, e9t, hm9u⟩ := bdS (ifF hm5o hc3a)
 refine dRX z z (at_ (α := UInt8) d_25 z_5 z z z (((h1t.ext h10).chg h11 (lg h3d)).ext s16) e9t) ?_
 rintro _ ⟨b11s, o11t, cs11u, rfl, h9v, h9w, h11v⟩
 obtain rfl := UInt8_open h9w
 refine dR z z (l1 g_5 z fid (h9v.at0 z)) ?_
 have h3e := lt_ (lt_ (lt_ h12.size h10.size) h11.size) s16.size
 obtain ⟨r11w, r11x, r11y, e9x, hm5x⟩ := bd3S hm9u
 refine dE z z (fc call197 z (W_w17 (B := B) e9x (lt_ hBw h3e) ((((p1_1.ext h12).ext h10).chg h11 (lg h3d)).ext s16) p3_0)) (.inr fun _ _ h => chgB (h.1)) ?_
 rintro _ w11z ⟨s1u, a3f, n3g, c3h, S9y, rfl, h9z, h100, h101, h5y⟩
 refine dR z z (mv z) ?_
 iterate 3 refine dR z z (ext_ z z) ?_
 iterate 3 refine dR z z (asg z) ?_
 refine PR_done (Wo (Wq (Ws (Rm z (R z (not_ z) (Wn (Wc z (fun hc3i => ?_) (fun hc3i => ?_))))))))
 ·refine Ws (R z (bP (parts := []) (cs := [vI 0, sl none 0 0, sl none 0 0]) build_52 z z) (Rm z (Rm z ?_)))
  have h5z := lt_ h3e s1u.size
  obtain ⟨r120, e102, hm103⟩ := bdS (ifT hm5x hc3i)
  refine E z (fc call198 z (W_w07 (B := B) e102 (lt_ hBw h5z) p3_0 (ii z))) ?_
  rintro _ w121 ⟨s60, v104, S105, rfl, h106, h61⟩
  refine E0 (fs (cur' := [vI 0, sl none 0 0, sl none 0 0]) z_52 z z (((((h13.ext h10).chg h11 (djs (mmr h13.lt))).ext s16).ext s1u).ext s60) z (lb z) (oA z) z) ?_
  rintro _ w122 ⟨h107, s108⟩
  have h62 := s108.one
  refine Ra z (Ra z (Wn ?_))
  obtain rfl := som hm103
  exact Wr (ret3 hr (resC g_52 z_52 z h107 z) z z ⟨(bM (bup (bup (bup (bM (bup h12 h10) h11 (mem1le h12.size)) s16) s1u) s60) h62 (mem1 lr)), none, 0, 0, [], none, 0, 0, [], v104, S105, z, (ii z), onL, onL, p3_0, (h106.chg h62 (o0n1 h61 h13.lt (lt_ (lt_ (lt_ h10.size h11.size) s16.size) s1u.size))), (o0le h61 h5z), nd0, al0⟩)
 refine Wk (Ws (Rm z (R z (bP (parts := [(1, (.tmp 159))]) (cs := [vI 0, sl a3f n3g c3h, sl none 0 0]) build_52 z z) (Rm z (E0 (fs (cur' := [vI 0, sl a3f n3g c3h, sl none 0 0]) z_52 z z ((((h13.ext h10).chg h11 (djs (mmr h13.lt))).ext s16).ext s1u) z (lb z) (oA z) z) ?_)))))
 rintro _ w123 ⟨h109, s10a⟩
 have h63 := s10a.one
 refine Ra z (Ra z (Wn ?_))
 obtain rfl := som (ifF hm5x hc3i)
 exact Wr (ret3 hr (resC g_52 z_52 z h109 z) z z ⟨(bM (bup (bup (bM (bup h12 h10) h11 (mem1le h12.size)) s16) s1u) h63 (mem1 lr)), a3f, n3g, c3h, S9y, none, 0, 0, [], .nilIface, ([] : List Nat), z, (ii z), (h9z.chg h63 (o0n1 h5y h13.lt (lt_ (lt_ h10.size h11.size) s16.size))), onL, h100, errR_nil, all_nil, (nd_app h101 nd_nil (nmN _)), (all_app (o0le h5y h3e) all_nil)⟩)
theorem T_w18 (ih : I_impl_fileReader_value n) : S_impl_fileReader_array (B_impl_fileReader_array n (F_impl_fileReader_value n)) := by
 obtain ⟨ih0, ih1, ih2, ih3, ih4, ih5⟩ := ih
 constructor
 intro B N0 C0 N6 C6 b1 o1 N2 C2 N3 C3 N1 C1 N4 C4 A0 A6 A2 A3 A1 A4 x1 x2 x3 res w0 hm hBw p1_0 p1_1 hC1 hC1b p2_0 p2_1 p2_2 p2_4 p2_5 p2_6 p2_7 p3_0
 unfold B_impl_fileReader_array at hm
 refine goF func192 z z (lb z) fun fn hr => Ws (E z (fb z) ?_)
 rintro _ w18 ⟨rfl, h1x⟩
 have h14 := h1x.below
 have h1y : Blk w18 w0.z (vR x2 A2 N2 C2 A3 N3 C3 A1 N1 C1 A4 N4 C4) := h1x.blk
 refine E z (fa zero_52) ?_
 rintro _ w2t ⟨rfl, h1z⟩
 have h15 := h1z.below
 have h16 : Blk w2t w18.z [vI 0, sl none 0 0, sl none 0 0] := h1z.blk
 refine Ra z (Ra z (Wn (Ws (Rm z (R z (fd f_80_7 z) ?_)))))
 have h20 := h1y.ext h15
 refine R z (l1 g_78 z fid (h20.at z)) ?_
 obtain ⟨x4m, e2u, hm2v⟩ := bdS hm
 have h21 := (p2_7.ext h14).ext h15
 refine RX z (at_ (α := Int) d_78 z_3 z z z h21 e2u) ?_
 rintro _ ⟨b4n, o4o, cs4p, rfl, h2w, h2x, h4q⟩
 obtain ⟨rfl, h2y⟩ := Int_open h2x
 refine R z (l1 g_3 z fid (h2w.at0 z)) (Rm z ?_)
 have h22 := (hC1.ext h14).ext h15
 have h23 := (p1_0.ext h14).ext h15
 have h24 := (p1_1.ext h14).ext h15
 have h1f := lt_ h14.size h15.size
 obtain ⟨r4r, r1g, r4s, e2z, hm25⟩ := bd3S hm2v
 refine E z (fc call189 z (W_w0f (B := B) e2z (lt_ hBw h1f) h23 h24 h22 hC1b h2y p3_0)) ?_
 rintro _ w11 ⟨s10, v30, S31, rfl, h4t, h32, h26, h27⟩
 refine Rm z ?_
 iterate 3 refine R z (ext_ z z) ?_
 refine Ra z (Ra z (Ra z (Wn (Wq (Ws (Rm z (R z (rd_neqEr d_192 z z h26) (Wn (Wc z (fun hc1o => ?_) (fun hc1o => ?_))))))))))
 ·refine Ws (R z (bP (parts := []) (cs := [vI 0, sl none 0 0, sl none 0 0]) build_52 z z) (Rm z (Rm z (E0 (fs (cur' := [vI 0, sl none 0 0, sl none 0 0]) z_52 z z (h16.ext s10) z (lb z) (oA z) z) ?_))))
  rintro _ w4u ⟨h33, s34⟩
  have h28 := s34.one
  refine Ra z (Ra z (Wn ?_))
  obtain rfl := som (ifT hm25 hc1o)
  exact Wr (ret3 hr (resC g_52 z_52 z h33 z) z z ⟨(bM (bup (bup h14 h15) s10) h28 (mem1le h14.size)), none, 0, 0, [], none, 0, 0, [], v30, S31, z, (ii z), onL, onL, p3_0, (h26.chg h28 (o0n1 h27 h16.lt lr)), (o0le h27 h1f), nd0, al0⟩)
 have hm29 := ifF hm25 hc1o
 refine Wk (Wq (Ws (Rm z (R z (rd_gtr z z) (Wn (Wc z (fun hc1p => ?_) (fun hc1p => ?_)))))))
 ·refine Ws (R z (bP (parts := []) (cs := [vI 0, sl none 0 0, sl none 0 0]) build_52 z z) (Rm z (Rm z ?_)))
  have h2a := lt_ h1f s10.size
  obtain ⟨r4v, e35, hm36⟩ := bdS (ifT hm29 hc1p)
  refine E z (fc call198 z (W_w07 (B := B) e35 (lt_ hBw h2a) p3_0 (ii z))) ?_
  rintro _ w4w ⟨s2b, v37, S38, rfl, h39, h2c⟩
  refine E0 (fs (cur' := [vI 0, sl none 0 0, sl none 0 0]) z_52 z z ((h16.ext s10).ext s2b) z (lb z) (oA z) z) ?_
  rintro _ w4x ⟨h3a, s3b⟩
  have h2d := s3b.one
  refine Ra z (Ra z (Wn ?_))
  obtain rfl := som hm36
  exact Wr (ret3 hr (resC g_52 z_52 z h3a z) z z ⟨(bM (bup (bup (bup h14 h15) s10) s2b) h2d (mem1le h14.size)), none, 0, 0, [], none, 0, 0, [], v37, S38, z, (ii z), onL, onL, p3_0, (h39.chg h2d (o0n1 h2c h16.lt s10.size)), (o0le h2c h2a), nd0, al0⟩)
 refine Wk (Ws (Rm z ?_))
 obtain ⟨x1h, e3c, hm3d⟩ := bdS (ifF hm29 hc1p)
 refine E z (ef_makeN (α := Int) el_78 (fun _ => (Int_own (ii z))) e3c z z) ?_
 rintro _ w12 ⟨a1a, n1b, c1c, rfl, s17, h1q⟩
 refine Ra z (Wn (Wq (Ws (Rm z (R z (lnR d_78 z (ownS.rep h1q)) (Rm z (Wn ?_)))))))
 obtain ⟨u4y, hu3e, hm2e⟩ := bdS hm3d
 refine WC_forN (σ := (List Int)) (ρ := Val × Int × (Option (Int × Int))) (fun (k1r : Nat) (x1d : List Int) a w => ∃  (S13 : List Nat), Sat 59 [(0, (.pointer (some ⟨b1, o1, none⟩))), (4, pt w0.z), (6, pt w18.z), (10, vI r1g), (12, sl a1a n1b c1c), (39, vI (x1h.length : Int)), (40, (vI ((k1r : Nat) : Int)))] a ∧ Chg (· ∈ [w11.z]) w12 w ∧ ownS w S13 (sl a1a n1b c1c) x1d ∧ S13.Nodup ∧ (∀ k ∈ S13, k ∈ [w11.z] ∨ w12.z ≤ k)) (fun (x1d : List Int) a w => ∃  (S13 : List Nat), Sat 59 [(0, (.pointer (some ⟨b1, o1, none⟩))), (6, pt w18.z), (10, vI r1g), (12, sl a1a n1b c1c)] a ∧ Chg (· ∈ [w11.z]) w12 w ∧ ownS w S13 (sl a1a n1b c1c) x1d ∧ S13.Nodup ∧ (∀ k ∈ S13, k ∈ [w11.z] ∨ w12.z ≤ k)) (fun r ex a w => ex = .ret ∧ RetPost prog fn (Q21 w0 B r) a w) hu3e ?_ ?_ ?_ ?_ ?_
 ·exact fun _ q => ⟨[w11.z], (q.k (s7 z z z z z z z)), (cr [w11.z] w12), h1q, nd_one, (io sr)⟩
 ·rintro k1r x1d a4z w3f o50 hk2f ⟨S13, hS3g, s1i, h1e, h1j, h1k⟩ hm3h
  refine Wu ?_ hS3g
  refine Ws (R z (lss z z) (Wn (Wq (Wc z (fun _ => ?_) (fun hc => (nolt hk2f hc).elim)))))
  refine Wk (Wq (WC_block (Ws (Rm z (Ra z (Wn (Wg (Rm z (Rm z (R z (fd f_80_7 z) (R z (l1 g_78 z fid ((((h20.ext s10).ext s17).chg s1i (djs (mm1 h1y.lt (lt_ h15.size s10.size)))).at z)) ?_)))))))))))
  obtain ⟨x51, e3i, hm3j⟩ := bdS hm3h
  refine RX z (at_ (α := Int) d_78 z_3 z z z (((h21.ext s10).ext s17).chg s1i (lg (mem1le (lt_ hBw (lt_ h1f s10.size))))) e3i) ?_
  rintro _ ⟨b52, o53, cs54, rfl, h3k, h3l, h55⟩
  obtain ⟨rfl, h3m⟩ := Int_open h3l
  refine R z (l1 g_3 z fid (h3k.at0 z)) ?_
  obtain ⟨x3n, e2g, hm3o⟩ := bdS hm3j
  refine RX z (rd_atU (α := Int) d_78 z_3 z z h1e e2g) ?_
  rintro _ ⟨g56, h3p, rfl⟩
  refine E0 (ef_setN (α := Int) z_3 z h3p z z z e2g h1e h1j (Int_own h3m) all_nil nd_nil) ?_
  rintro _ w3q ⟨S2h, s3r, h3s, h3t, h3u⟩
  refine Wn (Wg (R z (inc_ hk2f (lt_ (ownS.len h1q) LEN_le) z z) (Rm z (Wl ?_))))
  have h2i : ∀ k ∈ S13, k ∈ [w11.z] ∨ w12.z ≤ k := or1 h1k (io sr) (leor lr)
  have h3v : ∀ k ∈ S2h, k ∈ [w11.z] ∨ w12.z ≤ k := or2 h3u h2i all_nil (leor s1i.size)
  have h3w : Chg (· ∈ [w11.z]) w12 w3f := cM (cr [w11.z] w12) s1i (io sr)
  have h3x : Chg (· ∈ [w11.z]) w12 w3q := cM h3w s3r h2i
  exact fun _ q => ⟨x3n, (som hm3o).symm, ⟨S2h, (q.k (s7 z z z z z z z)), h3x, h3s, h3t, h3v⟩⟩
 ·rintro x1d a57 w3y ⟨S13, hS3z, s40, h1e, h1j, h1k⟩
  refine Wu ?_ hS3z
  refine Ws (R z (lss z z) (Wn (Wq (Wc z (fun hc => (noltt hc).elim) (fun _ => ?_)))))
  have h41 : ∀ k ∈ S13, k ∈ [w11.z] ∨ w12.z ≤ k := or1 h1k (io sr) (leor lr)
  have h42 : Chg (· ∈ [w11.z]) w12 w3y := cM (cr [w11.z] w12) s40 (io sr)
  exact WC_exit (fun a' ha' => ⟨rfl, ⟨S13, (Sat.weaken ha' (s4 z z z z)), h42, h1e, h1j, h41⟩⟩)
 ·rintro x1d a43 w44 rfl ⟨S13, hS58, s19, h1e, h1j, h1k⟩
  have hm45 := elL hm2e
  revert a43
  refine Wo (Ws (Rm z (R z (bP (parts := []) (cs := [vI 0, sl none 0 0, sl none 0 0]) build_52 z z) (Rm z (Rm z ?_)))))
  have h1s := lt_ h1f s10.size
  have h1t := mem1le (lt_ hBw h1s)
  have h1l := lt_ (lt_ h1s s17.size) s19.size
  have h1u := lt_ hBw h1l
  obtain ⟨r46, r59, r5a, e47, hm48⟩ := bd3S hm45
  refine E z (fc call193 z (ih2.run (B := w44.z) (x2 := (⟨0, ([] : List UInt8), ([] : List Val)⟩ : Val)) e47 lr (repS.mono (((h23.ext s10).ext s17).chg s19 (lg h1t)) h1u) (repS.mono (((h24.ext s10).ext s17).chg s19 (lg h1t)) h1u) (((h22.ext s10).ext s17).chg s19 ((lg h1t) _ hC1b)) (Nat.lt_of_lt_of_le hC1b h1u) (ii z) onL nd_nil all_nil onL nd_nil all_nil all_nil (ownS.rep h1e) h32)) ?_
  rintro _ w5b ⟨s2j, a2k, n2l, c2m, S2n, a2o, n2p, c2q, S2r, v49, S4a, rfl, h4b, h4c, h4d, h4e, h4f, h2s, h1v, h1m⟩
  iterate 3 refine R z (ext_ z z) ?_
  refine E0 (fs (cur' := [vI r46.number, sl a2k n2l c2m, sl a2o n2p c2q]) z_52 z z ((((h16.ext s10).ext s17).chg s19 (djs (mm1 h16.lt s10.size))).chg s2j (atp (nmA (nmN _) (nmN _)))) z (lb z) (oA z) z) ?_
  rintro _ w5c ⟨h4g, s4h⟩
  have h1n := s4h.one
  refine Ra z (Ra z (Wn ?_))
  obtain rfl := som hm48
  have h1w := lt_ (lt_ s10.size s17.size) s19.size
  have h4i : ∀ k ∈ S2n, k ∉ [w18.z] := or1 (all_left h1m) al0 (ltnot (mem1 h16.lt) h1w)
  have h4j : ∀ k ∈ S2r, k ∉ [w18.z] := or1 (all_right h1m) al0 (ltnot (mem1 h16.lt) h1w)
  exact Wr (ret3 hr (resC g_52 z_52 z h4g z) z z ⟨(bM (bM (bM (bup (bup (bup h14 h15) s10) s17) s19 (mem1le h1s)) s2j al0) h1n (mem1le h14.size)), a2k, n2l, c2m, S2n, a2o, n2p, c2q, S2r, v49, S4a, z, h4b, (h4c.chg h1n h4i), (h4d.chg h1n h4j), h4e, (h4f.chg h1n (o0n1 h2s h16.lt h1w)), (o0le h2s h1l), (nd_app (nd_left h1v) (nd_right h1v) (nd_dj h1v)), (all_app (o1le (all_left h1m) al0 h1l) (o1le (all_right h1m) al0 h1l))⟩)
 rintro r5d ex5e a5f w5g rfl ⟨rfl, hq4k⟩
 have hm4l := elR hm2e
 obtain rfl := som hm4l
 exact ⟨hq4k, z⟩
theorem T_w19 (ih : I_impl_fileReader_value n) : S_impl_fileReader_items (B_impl_fileReader_items n (F_impl_fileReader_value n)) := by
 obtain ⟨ih0, ih1, ih2, ih3, ih4, ih5⟩ := ih
 constructor
 intro B N0 C0 N6 C6 b1 o1 NC CC NF CF N7 C7 A0 A6 AC AF A7 S2_1 S2_2 x1 x2 x3 x4 res w0 hm hBw p1_0 p1_1 hC1 hC1b p2_0 p2_1 p2_1n p2_1g p2_2 p2_2n p2_2g p2_2d1 p3_0 p4_0
 unfold B_impl_fileReader_items at hm
 refine goF func193 z z (lb z) fun fn hr => Ws (E z (fb z) ?_)
 rintro _ w1a ⟨rfl, h28⟩
 have h12 := h28.below
 have h1e : Blk w1a w0.z [vI x2.number, sl AC NC CC, sl AF NF CF] := h28.blk
 refine E z (fa zero_52) ?_
 rintro _ w10 ⟨rfl, h29⟩
 have h14 := h29.below
 have h1k : Blk w10 w1a.z [vI 0, sl none 0 0, sl none 0 0] := h29.blk
 refine Ra z (Ra z (Wn (Wq (Ws (Rm z ?_)))))
 have h2a := (p3_0.ext h12).ext h14
 refine R z (lnR d_78 z h2a) (Rm z (Wn ?_))
 obtain ⟨u56, hu30, hm2b⟩ := bdS hm
 refine WC_forN (σ := Int × (List Val)) (ρ := Val × Int × (Option (Int × Int))) (fun (k1s : Nat) s a w => un2 (fun x1b x1h => ∃ a15 n16 c17 S11, Sat 45 [(0, (.pointer (some ⟨b1, o1, none⟩))), (3, vI x1b), (5, pt w0.z), (8, pt w1a.z), (16, sl A7 N7 C7), (17, vI (x3.length : Int)), (18, (vI ((k1s : Nat) : Int)))] a ∧ Chg (· ∈ (S2_2 ++ [w0.z])) w10 w ∧ inI x1b ∧ ownS w S11 (sl a15 n16 c17) x1h ∧ S11.Nodup ∧ (∀ k ∈ S11, k ∈ S2_2 ∨ w10.z ≤ k) ∧ Blk w w0.z [vI x2.number, sl AC NC CC, sl a15 n16 c17]) s) (fun s a w => un2 (fun x1b x1h => ∃ a15 n16 c17 S11, Sat 45 [(3, vI x1b), (5, pt w0.z), (8, pt w1a.z)] a ∧ Chg (· ∈ (S2_2 ++ [w0.z])) w10 w ∧ inI x1b ∧ ownS w S11 (sl a15 n16 c17) x1h ∧ S11.Nodup ∧ (∀ k ∈ S11, k ∈ S2_2 ∨ w10.z ≤ k) ∧ Blk w w0.z [vI x2.number, sl AC NC CC, sl a15 n16 c17]) s) (fun r ex a w => ex = .ret ∧ RetPost prog fn (Q22 w0 B S2_1 S2_2 r) a w) hu30 ?_ ?_ ?_ ?_ ?_
 ·exact fun _ q => ⟨AF, NF, CF, S2_2, (q.k (s7 z z z z z z z)), (cr (S2_2 ++ [w0.z]) w10), p4_0, ((p2_2.ext h12).ext h14), p2_2n, (io sr), (h1e.ext h14)⟩
 ·rintro k1s ⟨x1b, x1h⟩ a57 w2c o58 hk2d ⟨a15, n16, c17, S11, hS31, s13, h1i, h1f, h1l, h1d, h1m⟩ hm32
  have hm33 := un2S hm32
  refine Wu ?_ hS31
  refine Ws (R z (lss z z) (Wn (Wq (Wc z (fun _ => ?_) (fun hc => (nolt hk2d hc).elim)))))
  refine Wk (Wq (WC_block (Ws ?_)))
  obtain ⟨x59, e34, hm35⟩ := bdS hm33
  have h1o := mem1le hBw
  refine RX z (at_ (α := Int) d_78 z_3 z z z (h2a.chg s13 (nmA (lg p2_2g) (lg h1o))) e34) ?_
  rintro _ ⟨b5a, o5b, cs5c, rfl, h36, h37, h5d⟩
  obtain ⟨rfl, h38⟩ := Int_open h37
  refine R z (l1 g_3 z fid (h36.at0 z)) (Ra z (Wn (Ws (Rm z (Rm z (Rm z ?_))))))
  have h1t := lt_ (lt_ h12.size h14.size) s13.size
  obtain ⟨r1p, r39, r5e, e3a, hm2e⟩ := bd3S hm35
  refine E z (fc call171 z (ih0.run (B := B) e3a (lt_ hBw h1t) (((p1_0.ext h12).ext h14).chg s13 (nmA (lg p2_2g) (lg h1o))) (((p1_1.ext h12).ext h14).chg s13 (nmA (lg p2_2g) (lg h1o))) (((hC1.ext h12).ext h14).chg s13 ((nmA (lg p2_2g) (lg h1o)) _ hC1b)) hC1b h38 h1i)) ?_
  rintro _ w1n ⟨s1c, a1u, n1v, c1w, S2f, a1x, n1y, c1z, S2g, v3b, S3c, rfl, h3d, h1q, h1r, h3e, h2h, h2i, h20, h1j⟩
  refine Rm z ?_
  iterate 3 refine R z (ext_ z z) ?_
  refine E z (fa zero_52) ?_
  rintro _ w21 ⟨rfl, h2j⟩
  have h18 := h2j.below
  have h3f : Blk w21 w1n.z [vI 0, sl none 0 0, sl none 0 0] := h2j.blk
  refine E0 (fs (cur' := [vI r1p.number, sl a1u n1v c1w, sl a1x n1y c1z]) z_52 z z h3f z (lb z) (oA z) z) ?_
  rintro _ w22 ⟨h3g, s3h⟩
  have h19 := s3h.one
  refine Ra z (Ra z (Wn (Wq (Ws (Rm z ?_)))))
  have h2k := (h2h.ext h18).chg h19 (dj_symm (mnr (errR.lt h2h)))
  refine R z (rd_neqEr d_192 z z h2k) (Wn (Wc z (fun hc23 => ?_) (fun hc23 => ?_)))
  ·refine Ws (R z (bP (parts := []) (cs := [vI 0, sl none 0 0, sl none 0 0]) build_52 z z) (Rm z (Rm z ?_)))
   have h3i := (((h1k.chg s13 (atp (nmA (mno (ownS.lt p2_2) h12.size) (mmr h1e.lt)))).ext s1c).ext h18).chg h19 (djs (mm1 h1k.lt (lt_ s13.size s1c.size)))
   refine E0 (fs (cur' := [vI 0, sl none 0 0, sl none 0 0]) z_52 z z h3i z (lb z) (oA z) z) ?_
   rintro _ w3j ⟨h3k, s3l⟩
   have h2l := s3l.one
   refine Ra z (Ra z (Wn ?_))
   have h3m : Chg (· ∈ (S2_1 ++ S2_2)) w0 w1a := cext (cr (S2_1 ++ S2_2) w0) h12
   have h3n : Chg (· ∈ (S2_1 ++ S2_2)) w0 w10 := cext h3m h14
   have h3o : ∀ k ∈ [w0.z], k ∈ (S2_1 ++ S2_2) ∨ w0.z ≤ k := mor lr
   have h3p : Chg (· ∈ (S2_1 ++ S2_2)) w0 w2c := cM h3n s13 (all_app (io (sub_r sr)) h3o)
   have h3q : Chg (· ∈ (S2_1 ++ S2_2)) w0 w1n := cext h3p s1c
   have h3r : Chg (· ∈ (S2_1 ++ S2_2)) w0 w21 := cext h3q h18
   have h3s : ∀ k ∈ [w1n.z], k ∈ (S2_1 ++ S2_2) ∨ w0.z ≤ k := mor (lt_ h1t s1c.size)
   have h3t : Chg (· ∈ (S2_1 ++ S2_2)) w0 w22 := cM h3r h19 h3s
   have h3u : ∀ k ∈ [w1a.z], k ∈ (S2_1 ++ S2_2) ∨ w0.z ≤ k := mor h12.size
   have h3v : Chg (· ∈ (S2_1 ++ S2_2)) w0 w3j := cM h3t h2l h3u
   exact Wr (rtO (QO_retL (som (ifT hm2e hc23)).symm (ret3 hr (resC g_52 z_52 z h3k z) z z ⟨h3v, none, 0, 0, [], none, 0, 0, [], v3b, S3c, z, (ii z), onL, onL, h1i, (h2k.chg h2l (o0n1 h2i h1k.lt s13.size)), (o0le h2i h1t), nd0, al0⟩)))
  refine Wk (Ws (R z (fd f_52_2 z) ?_))
  have h24 := lt_ h14.size s13.size
  have h2m := lt_ h24 s1c.size
  have h2n := ((h1m.ext s1c).ext h18).chg h19 (djs (mm1 h1e.lt h2m))
  refine R z (l1 g_50 z fid (h2n.at z)) (R z (lN (vs := [vI r1p.number, sl a1u n1v c1w, sl a1x n1y c1z]) g_52 z_52 z z fid (h3g.row 0 3 z)) (E z (ef_buildSlice [(.tmp 37)] el_50 z z z (szAll z) (lb z) (lb z)) ?_))
  rintro _ w2o ⟨rfl, h2p⟩
  have h1g := h2p.below
  have h3w : Blk w2o w22.z [vI r1p.number, sl a1u n1v c1w, sl a1x n1y c1z] := h2p.blk
  have h5f := (h1q.ext h18).chg h19 (dj_symm (mnr (ownS.lt h1q)))
  have h5g := (h1r.ext h18).chg h19 (dj_symm (mnr (ownS.lt h1r)))
  obtain ⟨x3x, e3y, hm3z⟩ := bdS (ifF hm2e hc23)
  refine E z (ef_pushN (α := Val) el_50 e3y z z ((((h1f.ext s1c).ext h18).chg h19 (dj_symm (mno (ownS.lt h1f) s1c.size))).ext h1g) h1l h3w (Val_mkO (x := r1p) (S1 := S2f) (S2 := S2g) h3d (((h1q.ext h18).chg h19 (dj_symm (mnr (ownS.lt h1q)))).ext h1g) (((h1r.ext h18).chg h19 (dj_symm (mnr (ownS.lt h1r)))).ext h1g)) (all_app (o0no (all_left h1j) (ownS.lt h1f) lr) (o0no (all_right h1j) (ownS.lt h1f) lr)) (nd_app (nd_left h20) (nd_right h20) (nd_dj h20))) ?_
  rintro _ w40 ⟨S25, a2q, n2r, c2s, rfl, s2t, h41, h42, h2u⟩
  refine R z (fd f_52_2 z) ?_
  have h2v : ∀ k ∈ S11, k ∉ [w0.z] := or1 h1d (dj_symm (mnr (ownS.lt p2_2))) (ltnot (mem1 h1e.lt) h14.size)
  refine E0 (fs (cur' := [vI x2.number, sl AC NC CC, sl a2q n2r c2s]) z_50 z z ((h2n.ext h1g).chg s2t (djs h2v)) z (lb z) (oA z) z) ?_
  rintro _ w43 ⟨h44, s45⟩
  have h2w := s45.one
  refine Wn (Wg (Rm z (Ra z (Wn (Wg (R z (inc_ hk2d (lt_ (repS.len p3_0) LEN_le) z z) (Rm z (Wl ?_))))))))
  have h46 : ∀ k ∈ S25, k ∉ [w0.z] := or2 h2u h2v (all_app (o0n1 (all_left h1j) h1e.lt h24) (o0n1 (all_right h1j) h1e.lt h24)) (ltnot (mem1 h1e.lt) (lt_ (lt_ (lt_ h2m h18.size) h19.size) h1g.size))
  have h2x := lt_ s13.size s1c.size
  have h47 : ∀ k ∈ S11, k ∈ S2_2 ∨ w10.z ≤ k := or1 h1d (io sr) (leor lr)
  have h48 : ∀ k ∈ S2f, k ∈ S2_2 ∨ w10.z ≤ k := or0 (all_left h1j)  (leor s13.size)
  have h49 : ∀ k ∈ S2g, k ∈ S2_2 ∨ w10.z ≤ k := or0 (all_right h1j)  (leor s13.size)
  have h4a : ∀ k ∈ S25, k ∈ S2_2 ∨ w10.z ≤ k := or2 h2u h47 (all_app h48 h49) (leor (lt_ (lt_ (lt_ h2x h18.size) h19.size) h1g.size))
  have h4b : Chg (· ∈ (S2_2 ++ [w0.z])) w10 w2c := cM (cr (S2_2 ++ [w0.z]) w10) s13 (all_app (io (sub_l sr)) (io (sub_r sr)))
  have h4c : Chg (· ∈ (S2_2 ++ [w0.z])) w10 w1n := cext h4b s1c
  have h4d : Chg (· ∈ (S2_2 ++ [w0.z])) w10 w21 := cext h4c h18
  have h4e : ∀ k ∈ [w1n.z], k ∈ (S2_2 ++ [w0.z]) ∨ w10.z ≤ k := mor h2x
  have h4f : Chg (· ∈ (S2_2 ++ [w0.z])) w10 w22 := cM h4d h19 h4e
  have h4g : Chg (· ∈ (S2_2 ++ [w0.z])) w10 w2o := cext h4f h1g
  have h4h : ∀ k ∈ S11, k ∈ (S2_2 ++ [w0.z]) ∨ w10.z ≤ k := or1 h1d (io (sub_l sr)) (leor lr)
  have h4i : Chg (· ∈ (S2_2 ++ [w0.z])) w10 w40 := cM h4g s2t h4h
  have h4j : Chg (· ∈ (S2_2 ++ [w0.z])) w10 w43 := cM h4i h2w (io (sub_r sr))
  exact fun _ q => ⟨(r39, x3x), (som hm3z).symm, ⟨a2q, n2r, c2s, S25, (q.k (s7 z z z z z z z)), h4j, h3e, (h41.chg h2w h46), h42, h4a, h44⟩⟩
 ·rintro ⟨x1b, x1h⟩ a5h w4k ⟨a15, n16, c17, S11, hS4l, s4m, h1i, h1f, h1l, h1d, h1m⟩
  refine Wu ?_ hS4l
  refine Ws (R z (lss z z) (Wn (Wq (Wc z (fun hc => (noltt hc).elim) (fun _ => ?_)))))
  have h4n : ∀ k ∈ S11, k ∈ S2_2 ∨ w10.z ≤ k := or1 h1d (io sr) (leor lr)
  have h4o : Chg (· ∈ (S2_2 ++ [w0.z])) w10 w4k := cM (cr (S2_2 ++ [w0.z]) w10) s4m (all_app (io (sub_l sr)) (io (sub_r sr)))
  exact WC_exit (fun a' ha' => ⟨rfl, ⟨a15, n16, c17, S11, (Sat.weaken ha' (s3 z z z)), h4o, h1i, h1f, h1l, h4n, h1m⟩⟩)
 ·rintro ⟨x1b, x1h⟩ a4p w4q rfl ⟨a15, n16, c17, S11, hS5i, s26, h1i, h1f, h1l, h1d, h1m⟩
  have hm4r := elL hm2b
  have hm4s := un2S hm4r
  revert a4p
  refine Wo (Ws (R z (lN (vs := [vI x2.number, sl AC NC CC, sl a15 n16 c17]) g_52 z_52 z z fid (h1m.row 0 3 z)) (Rm z ?_)))
  have h2y := mno (ownS.lt p2_2) h12.size
  refine E0 (fs (cur' := [vI x2.number, sl AC NC CC, sl a15 n16 c17]) z_52 z z (h1k.chg s26 (atp (nmA h2y (mmr h1e.lt)))) z (lb z) (oA z) z) ?_
  rintro _ w4t ⟨h4u, s4v⟩
  have h27 := s4v.one
  refine Ra z (Ra z (Wn ?_))
  obtain rfl := som hm4s
  have h4w : ∀ k ∈ S11, k ∉ [w1a.z] := or1 h1d (dj_symm h2y) (ltnot (mem1 h1k.lt) lr)
  have h4x : Chg (· ∈ (S2_1 ++ S2_2)) w0 w1a := cext (cr (S2_1 ++ S2_2) w0) h12
  have h4y : Chg (· ∈ (S2_1 ++ S2_2)) w0 w10 := cext h4x h14
  have h4z : ∀ k ∈ [w0.z], k ∈ (S2_1 ++ S2_2) ∨ w0.z ≤ k := mor lr
  have h50 : Chg (· ∈ (S2_1 ++ S2_2)) w0 w4q := cM h4y s26 (all_app (io (sub_r sr)) h4z)
  have h51 : ∀ k ∈ [w1a.z], k ∈ (S2_1 ++ S2_2) ∨ w0.z ≤ k := mor h12.size
  have h52 : Chg (· ∈ (S2_1 ++ S2_2)) w0 w4t := cM h50 h27 h51
  have h2z := lt_ h12.size h14.size
  have h53 : ∀ k ∈ S11, k ∈ (S2_1 ++ S2_2) ∨ w0.z ≤ k := or1 h1d (io (sub_r sr)) (leor h2z)
  exact Wr (ret3 hr (resC g_52 z_52 z h4u z) z z ⟨h52, AC, NC, CC, S2_1, a15, n16, c17, S11, .nilIface, ([] : List Nat), z, p2_0, ((((p2_1.ext h12).ext h14).chg s26 (nmA (dj_symm p2_2d1) (dj_symm (mnr (ownS.lt p2_1))))).chg h27 (dj_symm (mno (ownS.lt p2_1) h12.size))), (h1f.chg h27 h4w), h1i, errR_nil, all_nil, (nd_app p2_1n h1l (dj_symm (o1no h1d p2_2d1 (ownS.lt p2_1) h2z))), (all_app (io (sub_l sr)) h53)⟩)
 rintro r5j ex5k a5l w5m rfl ⟨rfl, hq54⟩
 have hm55 := elR hm2b
 obtain rfl := som hm55
 exact ⟨hq54, z⟩
theorem T_w1a (ih : I_impl_fileReader_value n) : S_impl_fileReader_choice (B_impl_fileReader_choice n (F_impl_fileReader_value n)) := by
 obtain ⟨ih0, ih1, ih2, ih3, ih4, ih5⟩ := ih
 constructor
 intro B N0 C0 N6 C6 b1 o1 N2 C2 N3 C3 N1 C1 N4 C4 A0 A6 A2 A3 A1 A4 x1 x2 x3 res w0 hm hBw p1_0 p1_1 hC1 hC1b p2_0 p2_1 p2_2 p2_4 p2_5 p2_6 p2_7 p3_0
 unfold B_impl_fileReader_choice at hm
 refine goF func194 z z (lb z) fun fn hr => Ws (E z (fb z) ?_)
 rintro _ w14 ⟨rfl, h1k⟩
 have h11 := h1k.below
 have h2d : Blk w14 w0.z (vR x2 A2 N2 C2 A3 N3 C3 A1 N1 C1 A4 N4 C4) := h1k.blk
 refine E z (fa zero_52) ?_
 rintro _ w2e ⟨rfl, h1l⟩
 have h13 := h1l.below
 have h15 : Blk w2e w14.z [vI 0, sl none 0 0, sl none 0 0] := h1l.blk
 refine Ra z (Ra z (Wn (Ws (Rm z (R z (fd f_80_7 z) ?_)))))
 have h1m := h2d.ext h13
 refine R z (l1 g_78 z fid (h1m.at z)) ?_
 obtain ⟨x3r, e2f, hm2g⟩ := bdS hm
 have h1n := (p2_7.ext h11).ext h13
 refine RX z (at_ (α := Int) d_78 z_3 z z z h1n e2f) ?_
 rintro _ ⟨b3s, o3t, cs3u, rfl, h2h, h2i, h3v⟩
 obtain ⟨rfl, h2j⟩ := Int_open h2i
 refine R z (l1 g_3 z fid (h2h.at0 z)) (Rm z ?_)
 have h1o := (hC1.ext h11).ext h13
 have h1p := (p1_0.ext h11).ext h13
 have h1q := (p1_1.ext h11).ext h13
 have h18 := lt_ h11.size h13.size
 obtain ⟨r16, r1d, r3w, e2k, hm1r⟩ := bd3S hm2g
 refine E z (fc call189 z (W_w0f (B := B) e2k (lt_ hBw h18) h1p h1q h1o hC1b h2j p3_0)) ?_
 rintro _ w17 ⟨s10, v2l, S2m, rfl, h2n, h2o, h1s, h1t⟩
 refine Rm z ?_
 iterate 3 refine R z (ext_ z z) ?_
 refine Ra z (Ra z (Ra z (Wn (Wq (Ws (Rm z (R z (rd_neqEr d_192 z z h1s) (Wn (Wc z (fun hc1e => ?_) (fun hc1e => ?_))))))))))
 ·refine Ws (R z (bP (parts := []) (cs := [vI 0, sl none 0 0, sl none 0 0]) build_52 z z) (Rm z (Rm z (E0 (fs (cur' := [vI 0, sl none 0 0, sl none 0 0]) z_52 z z (h15.ext s10) z (lb z) (oA z) z) ?_))))
  rintro _ w3x ⟨h2p, s2q⟩
  have h1u := s2q.one
  refine Ra z (Ra z (Wn ?_))
  obtain rfl := som (ifT hm1r hc1e)
  exact Wr (ret3 hr (resC g_52 z_52 z h2p z) z z ⟨(bM (bup (bup h11 h13) s10) h1u (mem1le h11.size)), none, 0, 0, [], none, 0, 0, [], v2l, S2m, z, (ii z), onL, onL, p3_0, (h1s.chg h1u (o0n1 h1t h15.lt lr)), (o0le h1t h18), nd0, al0⟩)
 refine Wk (Wq (Ws (R z (fd f_80_6 z) ?_)))
 have h1v := h1m.ext s10
 refine R z (l1 g_78 z fid (h1v.at z)) ?_
 have h1w := ((p2_6.ext h11).ext h13).ext s10
 refine R z (lnR d_78 z h1w) (Rm z (Wn ?_))
 obtain ⟨u3y, hu2r, hm1x⟩ := bdS (ifF hm1r hc1e)
 refine WC_forN (σ := Unit) (ρ := Val × Int × (Option (Int × Int))) (fun (k1f : Nat) (_ : Unit) a w => Sat 61 [(0, (.pointer (some ⟨b1, o1, none⟩))), (2, vI x3), (4, pt w0.z), (6, pt w14.z), (9, vI r16), (10, vI r1d), (31, sl A1 N1 C1), (32, vI (x2.tags.length : Int)), (33, (vI ((k1f : Nat) : Int)))] a ∧ Below w17.z w17 w) (fun (_ : Unit) a w => Sat 61 [(2, vI x3), (6, pt w14.z)] a ∧ Below w17.z w17 w) (fun r ex a w => ex = .ret ∧ RetPost prog fn (Q21 w0 B r) a w) hu2r ?_ ?_ ?_ ?_ ?_
 ·exact fun _ q => ⟨(q.k (s9 z z z z z z z z z)), (br w17)⟩
 ·rintro k1f _ a3z w40 o41 hk1g ⟨hS2s, s12⟩ hm2t
  refine Wu ?_ hS2s
  refine Ws (R z (lss z z) (Wn (Wq (Wc z (fun _ => ?_) (fun hc => (nolt hk1g hc).elim)))))
  refine Wk (Wq (WC_block (Ws (Rm z ?_))))
  obtain ⟨x42, e2u, hm1y⟩ := bdS hm2t
  refine RX z (at_ (α := Int) d_78 z_3 z z z (h1w.ext s12) e2u) ?_
  rintro _ ⟨b43, o44, cs45, rfl, h2v, h2w, h46⟩
  obtain ⟨rfl, h47⟩ := Int_open h2w
  refine R z (l1 g_3 z fid (h2v.at0 z)) (Ra z (Ra z (Wn (Ws (Rm z (Rm z (R z (eql z z) (Wn (Wc z (fun hc1h => ?_) (fun hc1h => ?_))))))))))
  ·refine Ws (Rm z (Rm z (R z (bP (parts := [(0, (.tmp 42))]) (cs := [vI r16, sl none 0 0, sl none 0 0]) build_52 z z) (R z (fd f_80_7 z) (R z (l1 g_78 z fid ((h1v.ext s12).at z)) (Rm z (R z (inc_ hk1g (lt_ (repS.len p2_6) LEN_le) z z) (Rm z (R z (add_ z z) ?_)))))))))
   obtain ⟨x48, e2x, hm2y⟩ := bdS (ifT hm1y hc1h)
   refine RX z (rd_sliceX d_78 z_3 z z ((h1n.ext s10).ext s12) z z e2x) ?_
   rintro _ ⟨a49, n4a, c4b, rfl, h2z⟩
   refine Rm z ?_
   have h19 := lt_ (lt_ h18 s10.size) s12.size
   obtain ⟨r30, r4c, r4d, e31, hm32⟩ := bd3S hm2y
   refine E z (fc call193 z (ih2.run (B := B) (x2 := (⟨r16, ([] : List UInt8), ([] : List Val)⟩ : Val)) e31 (lt_ hBw h19) ((h1p.ext s10).ext s12) ((h1q.ext s10).ext s12) ((h1o.ext s10).ext s12) hC1b h2n onL nd_nil all_nil onL nd_nil all_nil all_nil h2z h2o)) ?_
   rintro _ w4e ⟨s1z, a20, n21, c22, S23, a24, n25, c26, S27, v33, S34, rfl, h35, h36, h37, h38, h39, h28, h1i, h1a⟩
   iterate 3 refine R z (ext_ z z) ?_
   refine E0 (fs (cur' := [vI r30.number, sl a20 n21 c22, sl a24 n25 c26]) z_52 z z (((h15.ext s10).ext s12).chg s1z (atp (nmA (nmN _) (nmN _)))) z (lb z) (oA z) z) ?_
   rintro _ w4f ⟨h3a, s3b⟩
   have h1b := s3b.one
   refine Ra z (Ra z (Wn ?_))
   have h1j := lt_ s10.size s12.size
   have h3c : ∀ k ∈ S23, k ∉ [w14.z] := or1 (all_left h1a) al0 (ltnot (mem1 h15.lt) h1j)
   have h3d : ∀ k ∈ S27, k ∉ [w14.z] := or1 (all_right h1a) al0 (ltnot (mem1 h15.lt) h1j)
   exact Wr (rtO (QO_retL (som hm32).symm (ret3 hr (resC g_52 z_52 z h3a z) z z ⟨(bM (bM (bup (bup (bup h11 h13) s10) s12) s1z al0) h1b (mem1le h11.size)), a20, n21, c22, S23, a24, n25, c26, S27, v33, S34, z, h35, (h36.chg h1b h3c), (h37.chg h1b h3d), h38, (h39.chg h1b (o0n1 h28 h15.lt h1j)), (o0le h28 h19), (nd_app (nd_left h1i) (nd_right h1i) (nd_dj h1i)), (all_app (o1le (all_left h1a) al0 h19) (o1le (all_right h1a) al0 h19))⟩)))
  exact Wk (Wg (R z (inc_ hk1g (lt_ (repS.len p2_6) LEN_le) z z) (Rm z (Wl (fun _ q => ⟨(), (som (ifF hm1y hc1h)).symm, ⟨(q.k (s9 z z z z z z z z z)), s12⟩⟩)))))
 ·rintro _ a4g w4h ⟨hS3e, s3f⟩
  refine Wu ?_ hS3e
  refine Ws (R z (lss z z) (Wn (Wq (Wc z (fun hc => (noltt hc).elim) (fun _ => ?_)))))
  exact WC_exit (fun a' ha' => ⟨rfl, ⟨(Sat.weaken ha' (s2 z z)), s3f⟩⟩)
 ·rintro _ a3g w4i rfl ⟨hS4j, s1c⟩
  have hm3h := elL hm1x
  revert a3g
  refine Wo (Ws (R z (bP (parts := []) (cs := [vI 0, sl none 0 0, sl none 0 0]) build_52 z z) (Rm z (Rm z ?_))))
  have h29 := lt_ (lt_ h18 s10.size) s1c.size
  obtain ⟨r4k, e3i, hm3j⟩ := bdS hm3h
  refine E z (fc call198 z (W_w07 (B := B) e3i (lt_ hBw h29) p3_0 (ii z))) ?_
  rintro _ w4l ⟨s2a, v3k, S3l, rfl, h3m, h2b⟩
  refine E0 (fs (cur' := [vI 0, sl none 0 0, sl none 0 0]) z_52 z z (((h15.ext s10).ext s1c).ext s2a) z (lb z) (oA z) z) ?_
  rintro _ w4m ⟨h3n, s3o⟩
  have h2c := s3o.one
  refine Ra z (Ra z (Wn ?_))
  obtain rfl := som hm3j
  exact Wr (ret3 hr (resC g_52 z_52 z h3n z) z z ⟨(bM (bup (bup (bup (bup h11 h13) s10) s1c) s2a) h2c (mem1le h11.size)), none, 0, 0, [], none, 0, 0, [], v3k, S3l, z, (ii z), onL, onL, p3_0, (h3m.chg h2c (o0n1 h2b h15.lt (lt_ s10.size s1c.size))), (o0le h2b h29), nd0, al0⟩)
 rintro r4n ex4o a4p w4q rfl ⟨rfl, hq3p⟩
 have hm3q := elR hm1x
 obtain rfl := som hm3q
 exact ⟨hq3p, z⟩
theorem T_w1b (ih : I_impl_fileReader_value n) : S_impl_fileReader_option (B_impl_fileReader_option n (F_impl_fileReader_value n)) := by
 obtain ⟨ih0, ih1, ih2, ih3, ih4, ih5⟩ := ih
 constructor
 intro B N0 C0 N6 C6 b1 o1 N2 C2 N3 C3 N1 C1 N4 C4 A0 A6 A2 A3 A1 A4 x1 x2 x3 res w0 hm hBw p1_0 p1_1 hC1 hC1b p2_0 p2_1 p2_2 p2_4 p2_5 p2_6 p2_7 p3_0
 unfold B_impl_fileReader_option at hm
 refine goF func195 z z (lb z) fun fn hr => Ws (E z (fb z) ?_)
 rintro _ w14 ⟨rfl, h1d⟩
 have h11 := h1d.below
 have h23 : Blk w14 w0.z (vR x2 A2 N2 C2 A3 N3 C3 A1 N1 C1 A4 N4 C4) := h1d.blk
 refine E z (fa zero_52) ?_
 rintro _ w24 ⟨rfl, h1e⟩
 have h12 := h1e.below
 have h13 : Blk w24 w14.z [vI 0, sl none 0 0, sl none 0 0] := h1e.blk
 refine Ra z (Ra z (Wn (Ws (Rm z (Rm z ?_)))))
 have h1f := (hC1.ext h11).ext h12
 have h1g := (p1_0.ext h11).ext h12
 have h1h := (p1_1.ext h11).ext h12
 have h15 := lt_ h11.size h12.size
 obtain ⟨r33, r34, e25, hm1i⟩ := bd2S hm
 refine E z (fc call219 z (W_w0e (B := B) e25 (lt_ hBw h15) h1g h1h h1f hC1b p3_0 (ii z))) ?_
 rintro _ w35 ⟨s10, a36, n37, c38, v26, S27, rfl, h1j, h1k, h1l⟩
 refine Rm z (R z (ext_ z z) (R z (ext_ z z) (Ra z (Ra z (Wn (Wq (WC_block (Ws (Rm z (R z (rd_neqEr d_192 z z h1k) (Ra z (Wn (Wc z (fun hc19 => ?_) (fun hc19 => ?_))))))))))))))
 ·refine Ws (R z (bP (parts := []) (cs := [vI 0, sl none 0 0, sl none 0 0]) build_52 z z) (Rm z (Rm z (E0 (fs (cur' := [vI 0, sl none 0 0, sl none 0 0]) z_52 z z (h13.ext s10) z (lb z) (oA z) z) ?_))))
  rintro _ w39 ⟨h28, s29⟩
  have h1m := s29.one
  refine Ra z (Ra z (Wn ?_))
  obtain rfl := som (ifT hm1i hc19)
  exact Wr (rtO (ret3 hr (resC g_52 z_52 z h28 z) z z ⟨(bM (bup (bup h11 h12) s10) h1m (mem1le h11.size)), none, 0, 0, [], none, 0, 0, [], v26, S27, z, (ii z), onL, onL, p3_0, (h1k.chg h1m (o0n1 h1l h13.lt lr)), (o0le h1l h15), nd0, al0⟩))
 refine Ws (Rm z ?_)
 obtain ⟨x3a, e2a, hm1n⟩ := bdS (ifF hm1i hc19)
 refine RX z (at_ (α := UInt8) d_25 z_5 z z z h1j e2a) ?_
 rintro _ ⟨b3b, o3c, cs3d, rfl, h2b, h2c, h3e⟩
 obtain rfl := UInt8_open h2c
 refine R z (l1 g_5 z fid (h2b.at0 z)) (R z (rd_gtr z z) (Ra z (Wn (Wc z (fun hc1a => ?_) (fun hc1a => ?_)))))
 ·refine Ws (R z (bP (parts := []) (cs := [vI 0, sl none 0 0, sl none 0 0]) build_52 z z) (Rm z (Rm z ?_)))
  have h1o := lt_ h15 s10.size
  obtain ⟨r3f, e2d, hm2e⟩ := bdS (ifT hm1n hc1a)
  refine E z (fc call198 z (W_w07 (B := B) e2d (lt_ hBw h1o) p3_0 (ii z))) ?_
  rintro _ w3g ⟨s1p, v2f, S2g, rfl, h2h, h1q⟩
  refine E0 (fs (cur' := [vI 0, sl none 0 0, sl none 0 0]) z_52 z z ((h13.ext s10).ext s1p) z (lb z) (oA z) z) ?_
  rintro _ w3h ⟨h2i, s2j⟩
  have h1r := s2j.one
  refine Ra z (Ra z (Wn ?_))
  obtain rfl := som hm2e
  exact Wr (rtO (ret3 hr (resC g_52 z_52 z h2i z) z z ⟨(bM (bup (bup (bup h11 h12) s10) s1p) h1r (mem1le h11.size)), none, 0, 0, [], none, 0, 0, [], v2f, S2g, z, (ii z), onL, onL, p3_0, (h2h.chg h1r (o0n1 h1q h13.lt s10.size)), (o0le h1q h1o), nd0, al0⟩))
 refine Ws (Rm z ?_)
 obtain ⟨x3i, e2k, hm1s⟩ := bdS (ifF hm1n hc1a)
 refine RX z (at_ (α := UInt8) d_25 z_5 z z z h1j e2k) ?_
 rintro _ ⟨b3j, o3k, cs3l, rfl, h2l, h2m, h3m⟩
 obtain rfl := UInt8_open h2m
 refine R z (l1 g_5 z fid (h2l.at0 z)) (R z (eql z z) (Ra z (Wn (Wc z (fun hc1b => ?_) (fun hc1b => ?_)))))
 ·refine Ws (R z (bP (parts := []) (cs := [vI 0, sl none 0 0, sl none 0 0]) build_52 z z) (Rm z (R z (add_ z z) (E0 (fs (cur' := [vI 0, sl none 0 0, sl none 0 0]) z_52 z z (h13.ext s10) z (lb z) (oA z) z) ?_))))
  rintro _ w3n ⟨h2n, s2o⟩
  refine Ra z (Ra z (Wn ?_))
  obtain rfl := som (ifT hm1s hc1b)
  exact Wr (rtO (ret3 hr (resC g_52 z_52 z h2n z) z z ⟨(bM (bup (bup h11 h12) s10) s2o.one (mem1le h11.size)), none, 0, 0, [], none, 0, 0, [], .nilIface, ([] : List Nat), z, (ii z), onL, onL, (iA _ _), errR_nil, all_nil, nd0, al0⟩))
 refine Wk (Ws (Rm z (R z (bP (parts := []) (cs := [vI 0, sl none 0 0, sl none 0 0]) build_52 z z) (R z (fd f_80_7 z) (R z (l1 g_78 z fid (((h23.ext h12).ext s10).at z)) (Rm z (R z (add_ z z) ?_)))))))
 have h16 := lt_ h15 s10.size
 obtain ⟨r2p, r3o, r3p, e2q, hm2r⟩ := bd3S (ifF hm1s hc1b)
 refine E z (fc call193 z (ih2.run (B := B) (x2 := (⟨0, ([] : List UInt8), ([] : List Val)⟩ : Val)) e2q (lt_ hBw h16) (h1g.ext s10) (h1h.ext s10) (h1f.ext s10) hC1b (ii z) onL nd_nil all_nil onL nd_nil all_nil all_nil (((p2_7.ext h11).ext h12).ext s10) (iA _ _))) ?_
 rintro _ w3q ⟨s1t, a1u, n1v, c1w, S1x, a1y, n1z, c20, S21, v2s, S2t, rfl, h2u, h2v, h2w, h2x, h2y, h22, h1c, h17⟩
 iterate 3 refine R z (ext_ z z) ?_
 refine E0 (fs (cur' := [vI r2p.number, sl a1u n1v c1w, sl a1y n1z c20]) z_52 z z ((h13.ext s10).chg s1t (atp (nmA (nmN _) (nmN _)))) z (lb z) (oA z) z) ?_
 rintro _ w3r ⟨h2z, s30⟩
 have h18 := s30.one
 refine Ra z (Ra z (Wn ?_))
 obtain rfl := som hm2r
 have h31 : ∀ k ∈ S1x, k ∉ [w14.z] := or1 (all_left h17) al0 (ltnot (mem1 h13.lt) s10.size)
 have h32 : ∀ k ∈ S21, k ∉ [w14.z] := or1 (all_right h17) al0 (ltnot (mem1 h13.lt) s10.size)
 exact Wr (ret3 hr (resC g_52 z_52 z h2z z) z z ⟨(bM (bM (bup (bup h11 h12) s10) s1t al0) h18 (mem1le h11.size)), a1u, n1v, c1w, S1x, a1y, n1z, c20, S21, v2s, S2t, z, h2u, (h2v.chg h18 h31), (h2w.chg h18 h32), h2x, (h2y.chg h18 (o0n1 h22 h13.lt s10.size)), (o0le h22 h16), (nd_app (nd_left h1c) (nd_right h1c) (nd_dj h1c)), (all_app (o1le (all_left h17) al0 h16) (o1le (all_right h17) al0 h16))⟩)
theorem T_w1c (ih : I_impl_fileReader_value n) : S_impl_fileReader_checked (B_impl_fileReader_checked n (F_impl_fileReader_value n)) := by
 obtain ⟨ih0, ih1, ih2, ih3, ih4, ih5⟩ := ih
 constructor
 intro B N0 C0 N6 C6 b1 o1 N2 C2 N3 C3 N1 C1 N4 C4 A0 A6 A2 A3 A1 A4 x1 x2 x3 res w0 hm hBw p1_0 p1_1 hC1 hC1b p2_0 p2_1 p2_2 p2_4 p2_5 p2_6 p2_7 p3_0
 unfold B_impl_fileReader_checked at hm
 refine goF func196 z z (lb z) fun fn hr => Ws (E z (fb z) ?_)
 rintro _ w1b ⟨rfl, h1r⟩
 have h13 := h1r.below
 have h2j : Blk w1b w0.z (vR x2 A2 N2 C2 A3 N3 C3 A1 N1 C1 A4 N4 C4) := h1r.blk
 refine E z (fa zero_52) ?_
 rintro _ w2k ⟨rfl, h1s⟩
 have h17 := h1s.below
 have h14 : Blk w2k w1b.z [vI 0, sl none 0 0, sl none 0 0] := h1s.blk
 refine Ra z (Ra z (Wn (Ws (Rm z (R z (bP (parts := []) (cs := [vI 0, sl none 0 0, sl none 0 0]) build_52 z z) (R z (fd f_80_7 z) (R z (l1 g_78 z fid ((h2j.ext h17).at z)) (Rm z ?_))))))))
 have h1t := (hC1.ext h13).ext h17
 have h1u := (p1_0.ext h13).ext h17
 have h1v := (p1_1.ext h13).ext h17
 have h19 := lt_ h13.size h17.size
 obtain ⟨r1j, r3l, r3m, e2l, hm1w⟩ := bd3S hm
 refine E z (fc call193 z (ih2.run (B := B) (x2 := (⟨0, ([] : List UInt8), ([] : List Val)⟩ : Val)) e2l (lt_ hBw h19) h1u h1v h1t hC1b (ii z) onL nd_nil all_nil onL nd_nil all_nil all_nil ((p2_7.ext h13).ext h17) p3_0)) ?_
 rintro _ w2m ⟨s10, a1c, n1d, c1e, S1x, a1f, n1g, c1h, S1y, v2n, S2o, rfl, h2p, h1z, h20, h21, h22, h23, h1k, h1i⟩
 refine Rm z ?_
 iterate 3 refine R z (ext_ z z) ?_
 refine E z (fa zero_52) ?_
 rintro _ w2q ⟨rfl, h24⟩
 have h11 := h24.below
 have h2r : Blk w2q w2m.z [vI 0, sl none 0 0, sl none 0 0] := h24.blk
 refine E0 (fs (cur' := [vI r1j.number, sl a1c n1d c1e, sl a1f n1g c1h]) z_52 z z h2r z (lb z) (oA z) z) ?_
 rintro _ w3n ⟨h2s, s2t⟩
 have h12 := s2t.one
 refine Ra z (Ra z (Wn (Wq (Ws (Rm z ?_)))))
 have h25 := (h22.ext h11).chg h12 (dj_symm (mnr (errR.lt h22)))
 refine R z (rd_neqEr d_192 z z h25) (Wn (Wc z (fun hc1l => ?_) (fun hc1l => ?_)))
 ·refine Ws (R z (bP (parts := []) (cs := [vI 0, sl none 0 0, sl none 0 0]) build_52 z z) (Rm z (Rm z (E0 (fs (cur' := [vI 0, sl none 0 0, sl none 0 0]) z_52 z z (((h14.chg s10 (atp (nmA (nmN _) (nmN _)))).ext h11).chg h12 (djs (mm1 h14.lt s10.size))) z (lb z) (oA z) z) ?_))))
  rintro _ w3o ⟨h2u, s2v⟩
  have h26 := s2v.one
  refine Ra z (Ra z (Wn ?_))
  obtain rfl := som (ifT hm1w hc1l)
  exact Wr (ret3 hr (resC g_52 z_52 z h2u z) z z ⟨(bM (bM (bup (bM (bup h13 h17) s10 al0) h11) h12 (mem1le (lt_ h19 s10.size))) h26 (mem1le h13.size)), none, 0, 0, [], none, 0, 0, [], v2n, S2o, z, (ii z), onL, onL, p3_0, (h25.chg h26 (o0n1 h23 h14.lt lr)), (o0le h23 h19), nd0, al0⟩)
 refine Wk (Ws (Rm z (Rm z ?_)))
 have h1a := lt_ h19 s10.size
 have h1m := mem1le (lt_ hBw h1a)
 have h27 := ((h1t.chg s10 ((nmA (lg all_nil) (lg all_nil)) _ hC1b)).ext h11).chg h12 ((lg h1m) _ hC1b)
 have h28 := ((h1v.chg s10 (nmA (lg all_nil) (lg all_nil))).ext h11).chg h12 (lg h1m)
 have h1n := lt_ (lt_ h1a h11.size) h12.size
 obtain ⟨r3p, r3q, e2w, hm29⟩ := bd2S (ifF hm1w hc1l)
 refine E z (fc call219 z (W_w0e (B := B) e2w (lt_ hBw h1n) (((h1u.chg s10 (nmA (lg all_nil) (lg all_nil))).ext h11).chg h12 (lg h1m)) h28 h27 hC1b h21 (ii z))) ?_
 rintro _ w3r ⟨s15, a3s, n3t, c3u, v2x, S2y, rfl, h2z, h2a, h2b⟩
 refine Rm z (R z (ext_ z z) (R z (ext_ z z) (Ra z (Ra z (Wn (Wq (Ws (Rm z (R z (rd_neqEr d_192 z z h2a) (Wn (Wc z (fun hc1o => ?_) (fun hc1o => ?_))))))))))))
 ·refine Ws (R z (bP (parts := []) (cs := [vI 0, sl none 0 0, sl none 0 0]) build_52 z z) (Rm z (Rm z (E0 (fs (cur' := [vI 0, sl none 0 0, sl none 0 0]) z_52 z z ((((h14.chg s10 (atp (nmA (nmN _) (nmN _)))).ext h11).chg h12 (djs (mm1 h14.lt s10.size))).ext s15) z (lb z) (oA z) z) ?_))))
  rintro _ w3v ⟨h30, s31⟩
  have h2c := s31.one
  refine Ra z (Ra z (Wn ?_))
  obtain rfl := som (ifT hm29 hc1o)
  exact Wr (ret3 hr (resC g_52 z_52 z h30 z) z z ⟨(bM (bup (bM (bup (bM (bup h13 h17) s10 al0) h11) h12 (mem1le h1a)) s15) h2c (mem1le h13.size)), none, 0, 0, [], none, 0, 0, [], v2x, S2y, z, (ii z), onL, onL, p3_0, (h2a.chg h2c (o0n1 h2b h14.lt (lt_ (lt_ s10.size h11.size) h12.size))), (o0le h2b h1n), nd0, al0⟩)
 refine Wk (Wq (Wq (WC_draw (X := noX) 0 (.rd 0 (.rd 1 (.rd 2 (.rd 3 (.rd 4 (.rd 5 (.rd 6 (.rd 7 (.rd 8 (.rd 9 (.rd 10 (.ef 11 (.rd 12 .done))))))))))))) mo (by kernel_rfl) fun w3w s16 _ => dR z z (mv z) ?_)))
 obtain ⟨x3x, e32, hm33⟩ := bdS (ifF hm29 hc1o)
 refine dRX z z (at_ (α := UInt8) d_25 z_5 z z z (h2z.ext s16) e32) ?_
 rintro _ ⟨b3y, o3z, cs40, rfl, h34, h35, h41⟩
 obtain rfl := UInt8_open h35
 refine dR z z (l1 g_5 z fid (h34.at0 z)) (dR z z (rd_convUI d_5 d_3 z) (dR z z (mv z) (dR z z (rd_nil z) (dR z z (fd f_190_1 z) (dR z z (l1 g_25 z fid (((h27.ext s15).ext s16).at (j := 1) z)) (dR z z (mv z) (dR z z (mv z) ?_)))))))
 obtain ⟨x42, e36, hm37⟩ := bdS hm33
 refine dRX z z (rd_sliceX d_25 z_5 z z ((h28.ext s15).ext s16) z z e36) ?_
 rintro _ ⟨a43, n44, c45, rfl, h38⟩
 have h2d := lt_ (lt_ h1n s15.size) s16.size
 obtain ⟨r46, e39, hm2e⟩ := bdS hm37
 refine dE z z (fc call68 z (W_w16 (B := B) e39 (lt_ hBw h2d) h38)) (.inr fun _ _ h => chgB (h.1)) ?_
 rintro _ w47 ⟨s18, rfl, h48⟩
 refine dR z z (nq z z) (PR_done (Wo (Wc z (fun hc1p => ?_) (fun hc1p => ?_))))
 ·refine Ws (R z (bP (parts := []) (cs := [vI 0, sl none 0 0, sl none 0 0]) build_52 z z) (Rm z (Rm z ?_)))
  have h2f := lt_ h2d s18.size
  obtain ⟨r49, e3a, hm3b⟩ := bdS (ifT hm2e hc1p)
  refine E z (fc call198 z (W_w07 (B := B) e3a (lt_ hBw h2f) h21 (ii z))) ?_
  rintro _ w4a ⟨s2g, v3c, S3d, rfl, h3e, h2h⟩
  refine E0 (fs (cur' := [vI 0, sl none 0 0, sl none 0 0]) z_52 z z (((((((h14.chg s10 (atp (nmA (nmN _) (nmN _)))).ext h11).chg h12 (djs (mm1 h14.lt s10.size))).ext s15).ext s16).ext s18).ext s2g) z (lb z) (oA z) z) ?_
  rintro _ w4b ⟨h3f, s3g⟩
  have h2i := s3g.one
  refine Ra z (Ra z (Wn ?_))
  obtain rfl := som hm3b
  exact Wr (ret3 hr (resC g_52 z_52 z h3f z) z z ⟨(bM (bup (bup (bup (bup (bM (bup (bM (bup h13 h17) s10 al0) h11) h12 (mem1le h1a)) s15) s16) s18) s2g) h2i (mem1le h13.size)), none, 0, 0, [], none, 0, 0, [], v3c, S3d, z, (ii z), onL, onL, p3_0, (h3e.chg h2i (o0n1 h2h h14.lt (lt_ (lt_ (lt_ (lt_ (lt_ s10.size h11.size) h12.size) s15.size) s16.size) s18.size))), (o0le h2h h2f), nd0, al0⟩)
 refine Wk (Ws (R z (lN (vs := [vI r1j.number, sl a1c n1d c1e, sl a1f n1g c1h]) g_52 z_52 z z fid ((((h2s.ext s15).ext s16).ext s18).row 0 3 z)) (Rm z (R z (add_ z z) (E0 (fs (cur' := [vI r1j.number, sl a1c n1d c1e, sl a1f n1g c1h]) z_52 z z ((((((h14.chg s10 (atp (nmA (nmN _) (nmN _)))).ext h11).chg h12 (djs (mm1 h14.lt s10.size))).ext s15).ext s16).ext s18) z (lb z) (oA z) z) ?_)))))
 rintro _ w4c ⟨h3h, s3i⟩
 have h1q := s3i.one
 refine Ra z (Ra z (Wn ?_))
 obtain rfl := som (ifF hm2e hc1p)
 have h3j : ∀ k ∈ S1x, k ∉ [w1b.z] := or1 (all_left h1i) al0 (ltnot (mem1 h14.lt) lr)
 have h3k : ∀ k ∈ S1y, k ∉ [w1b.z] := or1 (all_right h1i) al0 (ltnot (mem1 h14.lt) lr)
 exact Wr (ret3 hr (resC g_52 z_52 z h3h z) z z ⟨(bM (bup (bup (bup (bM (bup (bM (bup h13 h17) s10 al0) h11) h12 (mem1le h1a)) s15) s16) s18) h1q (mem1le h13.size)), a1c, n1d, c1e, S1x, a1f, n1g, c1h, S1y, .nilIface, ([] : List Nat), z, h2p, ((((((h1z.ext h11).chg h12 (dj_symm (mnr (ownS.lt h1z)))).ext s15).ext s16).ext s18).chg h1q h3j), ((((((h20.ext h11).chg h12 (dj_symm (mnr (ownS.lt h20)))).ext s15).ext s16).ext s18).chg h1q h3k), (iA _ _), errR_nil, all_nil, (nd_app (nd_left h1k) (nd_right h1k) (nd_dj h1k)), (all_app (o1le (all_left h1i) al0 h19) (o1le (all_right h1i) al0 h19))⟩)
theorem A_w01 : ∀ n, I_impl_fileReader_value n
  | 0 => ⟨⟨fun hm => by intros; exact nomatch (show none = some _ from hm)⟩, ⟨fun hm => by intros; exact nomatch (show none = some _ from hm)⟩, ⟨fun hm => by intros; exact nomatch (show none = some _ from hm)⟩, ⟨fun hm => by intros; exact nomatch (show none = some _ from hm)⟩, ⟨fun hm => by intros; exact nomatch (show none = some _ from hm)⟩, ⟨fun hm => by intros; exact nomatch (show none = some _ from hm)⟩⟩
  | n + 1 => ⟨T_w01 (A_w01 n), T_w18 (A_w01 n), T_w19 (A_w01 n), T_w1a (A_w01 n), T_w1b (A_w01 n), T_w1c (A_w01 n)⟩
theorem W_w01 : S_impl_fileReader_value (F_impl_fileReader_value n).impl_fileReader_value := (A_w01 n).1
theorem W_w18 : S_impl_fileReader_array (F_impl_fileReader_value n).impl_fileReader_array := (A_w01 n).2.1
theorem W_w19 : S_impl_fileReader_items (F_impl_fileReader_value n).impl_fileReader_items := (A_w01 n).2.2.1
theorem W_w1a : S_impl_fileReader_choice (F_impl_fileReader_value n).impl_fileReader_choice := (A_w01 n).2.2.2.1
theorem W_w1b : S_impl_fileReader_option (F_impl_fileReader_value n).impl_fileReader_option := (A_w01 n).2.2.2.2.1
theorem W_w1c : S_impl_fileReader_checked (F_impl_fileReader_value n).impl_fileReader_checked := (A_w01 n).2.2.2.2.2

theorem W_w0t {x1 : Desc} {x2 : Int} {x3 : List UInt8} {x4 : Int} {res : Val × Int × Int} (hm : M_impl_ReadValue n x1 x2 x3 x4 = some res) (hBw : B ≤ w0.z) (hG : Gl w0 B) (p1_0 : repS w0 B (sl A0 N0 C0) x1.rules) (p2_0 : inI x2) (p3_0 : repS w0 B (sl A7 N7 C7) x3) (p4_0 : inI x4) : CallsR prog 121 [(.agg #[sl A0 N0 C0]), vI x2, sl A7 N7 C7, vI x4] w0 (Q9 w0 B res) := by
 unfold M_impl_ReadValue at hm
 refine goF func121 z z (lb z) fun fn hr => Ws (E z (fb z) ?_)
 rintro _ w1c ⟨rfl, h20⟩
 have h10 := h20.below
 have h21 : Blk w1c w0.z [sl A0 N0 C0] := h20.blk
 refine E z (fa zero_52) ?_
 rintro _ w1p ⟨rfl, h22⟩
 have h12 := h22.below
 have h15 : Blk w1p w1c.z [vI 0, sl none 0 0, sl none 0 0] := h22.blk
 refine Ra z (Ra z (Wn (Wq (Wq ?_))))
 obtain ⟨u2s, hu2t, hm23⟩ := bdS hm
 refine WC_cut (fun a w => ∃ (x1q : Bool), x1q = u2s ∧ Sat 62 [(1, vI x2), (2, sl A7 N7 C7), (3, vI x4), (4, pt w0.z), (8, pt w1c.z), (34, vB x1q)] a ∧ Below w1p.z w1p w) ?_ ?_
 ·refine Wg (R z (lN (vs := [sl A0 N0 C0]) g_30 z_30 z z fid ((h21.ext h12).row 0 1 z)) (Rm z ?_))
  obtain ⟨r2u, e2v, hm24⟩ := bdS hu2t
  refine E z (fc call170 z (W_w0r (B := B) e2v (lt_ hBw (lt_ h10.size h12.size)) ((p1_0.ext h10).ext h12) p2_0)) ?_
  rintro _ w3p ⟨s1d, rfl⟩
  refine R z (not_ z) (Rm z ?_)
  rcases bs (!r2u) with hc19 | hc19
  ·exact Nh z hc19 (Nh z hc19 (R z (pT z hc19 z) (Rm z (Nh z z (Nh z z (Nh z z (Nh z z (R z (pT z z z) (Rm z (Nh z z (Nh z z (Nh z z (R z (pT z z z) (Wl (fun _ q => ⟨true, som (ifT hm24 hc19), (q.k (s6 z z z z z z)), s1d⟩)))))))))))))))
  have hm25 := ifF hm24 hc19
  refine Rh z hc19 (mv z) (Rh z hc19 (lss z z) (R z (pF z hc19 z) (Rm z ?_)))
  rcases bs (decide (x4 < 0)) with hc16 | hc16
  ·iterate 4 refine Nh z hc16 ?_
   exact R z (pT z hc16 z) (Rm z (Nh z z (Nh z z (Nh z z (R z (pT z z z) (Wl (fun _ q => ⟨true, som (ifT hm25 hc16), (q.k (s6 z z z z z z)), s1d⟩)))))))
  have hm26 := ifF hm25 hc16
  refine Rh z hc16 (mv z) (Rh z hc16 (mv z) ?_)
  have h27 := ((p3_0.ext h10).ext h12).ext s1d
  refine Rh z hc16 (lnR d_25 z h27) (Rh z hc16 (rd_gtr z z) (R z (pF z hc16 z) (Rm z ?_)))
  rcases bs (decide ((x3.length : Int) < x4)) with hc1a | hc1a
  ·iterate 3 refine Nh z hc1a ?_
   exact R z (pT z hc1a z) (Wl (fun _ q => ⟨true, som (ifT hm26 hc1a), (q.k (s6 z z z z z z)), s1d⟩))
  exact Rh z hc1a (mv z) (Rh z hc1a (lnR d_25 z h27) (Rh z hc1a (rd_gtr z z) (R z (pF z hc1a z) (Wl (fun _ q => ⟨decide (400 < (x3.length : Int)), som (ifF hm26 hc1a), (q.k (s6 z z z z z z)), s1d⟩)))))
 rintro a2w w2x ⟨x1q, rfl, hS3q, s11⟩
 revert a2w
 refine Wo (Wc z (fun hc1r => ?_) (fun hc1r => ?_))
 ·refine Ws (R z (bP (parts := []) (cs := [vI 0, sl none 0 0, sl none 0 0]) build_52 z z) (E0 (fs (cur' := [vI 0, sl none 0 0, sl none 0 0]) z_52 z z (h15.ext s11) z (lb z) (oA z) z) ?_))
  rintro _ w3r ⟨h2y, s2z⟩
  refine Ra z (Ra z (Wn ?_))
  obtain rfl := som (ifT hm23 hc1r)
  exact Wr (ret3 hr (resC g_52 z_52 z h2y z) z z ⟨(bM (bup (bup h10 h12) s11) s2z.one (mem1le h10.size)), none, 0, 0, [], none, 0, 0, [], z, (ii z), onL, onL, (ii z), (ii z), nd0, al0⟩)
 refine Wk (Ws (R z (lN (vs := [sl A0 N0 C0]) g_30 z_30 z z fid (((h21.ext h12).ext s11).row 0 1 z)) (Rm z (R z (bP (parts := [(0, (.tmp 36)), (1, (.tmp 37))]) (cs := [sl A0 N0 C0, sl A7 N7 C7]) build_190 z z) (E z (fb z) ?_)))))
 rintro _ w28 ⟨rfl, h29⟩
 have h17 := h29.below
 have h2a : Blk w28 w2x.z [sl A0 N0 C0, sl A7 N7 C7] := h29.blk
 refine Ra z (Wn (Ws (Rm z (Rm z (Rm z ?_)))))
 have h1e := lt_ (lt_ (lt_ h10.size h12.size) s11.size) h17.size
 have h2b := lt_ hBw h1e
 obtain ⟨r1s, r3s, r30, e31, hm2c⟩ := bd3S (ifF hm23 hc1r)
 refine E z (fc call171 z (W_w01.run (B := w28.z) e31 lr (repS.mono ((((p1_0.ext h10).ext h12).ext s11).ext h17) h2b) (repS.mono ((((p3_0.ext h10).ext h12).ext s11).ext h17) h2b) (h2a.row 0 2 z) h2a.lt p2_0 p4_0)) ?_
 rintro _ w32 ⟨s1b, a1g, n1h, c1i, S33, a1j, n1k, c1l, S34, v3t, S3u, rfl, h35, h2d, h2e, h36, h1t, h37, h1u, h1m⟩
 refine Rm z ?_
 iterate 3 refine R z (ext_ z z) ?_
 refine E z (fa zero_52) ?_
 rintro _ w38 ⟨rfl, h2f⟩
 have h13 := h2f.below
 have h39 : Blk w38 w32.z [vI 0, sl none 0 0, sl none 0 0] := h2f.blk
 refine E0 (fs (cur' := [vI r1s.number, sl a1g n1h c1i, sl a1j n1k c1l]) z_52 z z h39 z (lb z) (oA z) z) ?_
 rintro _ w2g ⟨h3a, s3b⟩
 have h14 := s3b.one
 refine Ra z (Ra z (Wn (Ws (E z (fa zero_195) ?_))))
 rintro _ w3c ⟨rfl, h2h⟩
 have h18 := h2h.below
 have h2i : Blk w3c w2g.z [(.pointer none)] := h2h.blk
 refine Wn (Wq (Ws (Rm z (R z (rd_makeIface d_197 (fun _ h => by cases h) z) ?_))))
 have h2j := ((h1t.ext h13).chg h14 (dj_symm (mnr (errR.lt h1t)))).ext h18
 rcases bs (r30.isSome) with hc1n | hc1n
 ·obtain ⟨r3v, r3w, e3d, hm3e⟩ := bd2S (ifT hm2c hc1n)
  have h1v := lt_ h1e s1b.size
  refine E z (fc call172 z (W_As_some ((((((((hG.ext h10).ext h12).ext s11).ext h17).ext s1b).ext h13).chg h14 (lg (mem1le (lt_ hBw h1v)))).ext h18) h2j e3d h2i)) ?_
  rintro _ w3x ⟨g2k, rfl, s3f, h3g, h3h, h2l, h3i, h3j⟩
  have h1w := s3f.one
  refine Wn (Wc z (fun _ => ?_) (fun hc => (bcon z hc).elim))
  refine Wq (WC_draw (X := (· ∈ [w1c.z])) 0 (.rd 0 (.rd 1 (.rd 2 (.rd 3 (.rd 4 (.rd 5 (.rd 6 (.rd 7 (.rd 8 (.ef 9 (.rd 10 (.rd 11 .done)))))))))))) mo (by kernel_rfl) fun w3y s1o _ => dR z z (bP (parts := []) (cs := [vI 0, sl none 0 0, sl none 0 0]) build_52 z z) ?_)
  have h2m := h3g.ext s1o
  have h2n := lt_ s11.size h17.size
  have h2o := lt_ h2n s1b.size
  have h2p := lt_ (lt_ h2o h13.size) h14.size
  have h1x := mm1 h15.lt h2p
  refine dR z z (l1 g_195 z (atp h1x) (h2m.at z)) (dR z z (rd_nil z) (dR z z (fd f_199_0 z) ?_))
  have h3k : ∀ k ∈ [g2k], k ∉ [w2g.z] := or1 (mem1 (.inl h2l)) (dj_symm (mno (errR.lt h1t) (lt_ h13.size h14.size))) (ltnot (mem1 h2i.lt) lr)
  have h2q := (h3h.chg h1w (atp h3k)).ext s1o
  have h2r : ∀ k ∈ [g2k], k ∉ [w1c.z] := or1 (mem1 (.inl h2l)) (o0n1 h37 h15.lt h2n) (ltnot (mem1 h15.lt) (lt_ h2p h18.size))
  refine dR z z (l1 g_3 z (atp h2r) (h2q.at z)) (dR z z (l1 g_195 z (atp h1x) (h2m.at z)) (dR z z (rd_nil z) (dR z z (fd f_199_1 z) (dR z z (l1 g_3 z (atp h2r) (h2q.at z)) (dE0 z (fs (cur' := [vI 0, sl none 0 0, sl none 0 0]) z_52 z z ((((((((h15.ext s11).ext h17).ext s1b).ext h13).chg h14 (djs (mm1 h15.lt h2o))).ext h18).chg h1w (djs h1x)).ext s1o) z (lb z) (oA z) z) (.inr fun _ _ h => chgIn (List.mem_singleton.2 z) h.2) ?_)))))
  rintro _ w3z ⟨h3l, s3m⟩
  refine dR z z (asg z) (dR z z (asg z) (PR_done (Wo ?_)))
  obtain rfl := som hm3e
  exact Wr (ret3 hr (resC g_52 z_52 z h3l z) z z ⟨(bM (bup (bM (bup (bM (bup (bup (bup (bup (bup h10 h12) s11) h17) s1b) h13) h14 (mem1le h1v)) h18) h1w (mem1le (lt_ (lt_ h1v h13.size) h14.size))) s1o) s3m.one (mem1le h10.size)), none, 0, 0, [], none, 0, 0, [], z, (ii z), onL, onL, h3i, h3j, nd0, al0⟩)
 refine E z (fc call172 z (W_As_none h2j hc1n)) ?_
 rintro _ w40 ⟨rfl, s1f⟩
 refine Wn (Wc z (fun hc => (bcon hc z).elim) (fun _ => ?_))
 refine Wk (Ws (R z (lN (vs := [vI r1s.number, sl a1g n1h c1i, sl a1j n1k c1l]) g_52 z_52 z z fid (((h3a.ext h18).ext s1f).row 0 3 z)) (Rm z ?_)))
 have h1y := lt_ s11.size h17.size
 refine E0 (fs (cur' := [vI r1s.number, sl a1g n1h c1i, sl a1j n1k c1l]) z_52 z z (((((((h15.ext s11).ext h17).ext s1b).ext h13).chg h14 (djs (mm1 h15.lt (lt_ h1y s1b.size)))).ext h18).ext s1f) z (lb z) (oA z) z) ?_
 rintro _ w41 ⟨h3n, s3o⟩
 have h1z := s3o.one
 refine Ra z (Ra z (Wn ?_))
 obtain rfl := som (ifF hm2c hc1n)
 exact Wr (ret3 hr (resC g_52 z_52 z h3n z) z z ⟨(bM (bup (bup (bM (bup (bup (bup (bup (bup h10 h12) s11) h17) s1b) h13) h14 (mem1le (lt_ h1e s1b.size))) h18) s1f) h1z (mem1le h10.size)), a1g, n1h, c1i, S33, a1j, n1k, c1l, S34, z, h35, (((((h2d.ext h13).chg h14 (dj_symm (mnr (ownS.lt h2d)))).ext h18).ext s1f).chg h1z (o0n1 (all_left h1m) h15.lt h1y)), (((((h2e.ext h13).chg h14 (dj_symm (mnr (ownS.lt h2e)))).ext h18).ext s1f).chg h1z (o0n1 (all_right h1m) h15.lt h1y)), h36, (ii z), (nd_app (nd_left h1u) (nd_right h1u) (nd_dj h1u)), (all_app (o0le (all_left h1m) h1e) (o0le (all_right h1m) h1e))⟩)
theorem W_w2m {x1 : Desc} {x2 : List UInt8} {res : Val × Int × Int} (hm : M_impl_ReadFile n x1 x2 = some res) (hBw : B ≤ w0.z) (hG : Gl w0 B) (p1_0 : repS w0 B (sl A0 N0 C0) x1.rules) (p2_0 : repS w0 B (sl A5 N5 C5) x2) : CallsR prog 75 [(.agg #[sl A0 N0 C0]), sl A5 N5 C5] w0 (Q9 w0 B res) := by
 unfold M_impl_ReadFile at hm
 refine goF func75 z z (lb z) fun fn hr => Ws (E z (fb z) ?_)
 rintro _ w1n ⟨rfl, h2g⟩
 have h12 := h2g.below
 have h1v : Blk w1n w0.z [sl A0 N0 C0] := h2g.blk
 refine E z (fa zero_52) ?_
 rintro _ w16 ⟨rfl, h2h⟩
 have h11 := h2h.below
 have h1o : Blk w16 w1n.z [vI 0, sl none 0 0, sl none 0 0] := h2h.blk
 refine Ra z (Ra z (Wn (Wq ?_)))
 obtain ⟨u3x, hu2i, hm3y⟩ := bdS hm
 refine WC_cut (fun a w => ∃ (x1b : Int) (x1w : List UInt8) (x1x : List Val) (x1c : Int) (x1d : Int), (x1b, x1w, x1x, x1c, x1d) = u3x ∧ ∃ a1e n1f c1g S17 a1h n1i c1j S18 g19, Sat 32 [(1, sl A5 N5 C5), (4, pt w1n.z), (7, pt g19), (8, vI x1c), (9, vI x1d)] a ∧ Below w16.z w16 w ∧ inI x1b ∧ ownS w S17 (sl a1e n1f c1g) x1w ∧ S17.Nodup ∧ (∀ k ∈ S17, w16.z ≤ k) ∧ ownS w S18 (sl a1h n1i c1j) x1x ∧ S18.Nodup ∧ (∀ k ∈ S18, w16.z ≤ k) ∧ (∀ k ∈ S18, k ∉ S17) ∧ inI x1c ∧ inI x1d ∧ Blk w g19 [vI x1b, sl a1e n1f c1g, sl a1h n1i c1j] ∧ w16.z ≤ g19 ∧ (∀ k ∈ S17, k ∉ [g19]) ∧ (∀ k ∈ S18, k ∉ [g19])) ?_ ?_
 ·refine WC_draw (X := fun k => k ∈ ([] : List Nat) ∨ w16.z ≤ k) 0 (.rd 0 (.rd 1 (.rd 3 (.br 2 (.br 4 (.rd 5 (.rd 6 (.rd 7 (.rd 8 (.ef 9 (.ef 10 (.rd 11 (.rd 12 .done)))))))) 9 (.ef 4 (.rd 5 (.rd 6 (.rd 7 (.rd 8 (.ef 10 (.rd 11 (.rd 12 .done))))))))) 9 (.ef 2 (.ef 4 (.rd 5 (.rd 6 (.rd 7 (.rd 8 (.ef 10 (.rd 11 (.rd 12 .done))))))))))))) mo (by kernel_rfl) fun w2j s10 _ => ?_
  have h2k := (h1v.ext h11).ext s10
  refine dR z z (lN (vs := [sl A0 N0 C0]) g_30 z_30 z z (notNew nm0 (Nat.lt_of_lt_of_le h1v.lt h11.size)) (h2k.row 0 1 z)) (dR z z (lN (vs := [sl A0 N0 C0]) g_30 z_30 z z (notNew nm0 (Nat.lt_of_lt_of_le h1v.lt h11.size)) (h2k.row 0 1 z)) (dR z z (mv z) (PR_br ?_ ?_)))
  ·have h1y := ((p1_0.ext h12).ext h11).ext s10
   have h1z := lt_ (lt_ h12.size h11.size) s10.size
   obtain ⟨r5o, e3z, hm2l⟩ := bdS hu2i
   refine dE z z (fc call77 z (W_w0n (B := B) e3z (lt_ hBw h1z) h1y)) (.inr fun _ _ h => chgB (h.1)) ?_
   rintro _ w2m ⟨s13, rfl, h2n⟩
   refine PR_br ?_ ?_
   ·obtain ⟨r1p, r40, r41, e42, hm43⟩ := bd3S hm2l
    refine dE z z (fc call121 z (W_w0t (B := B) e42 (lt_ hBw (lt_ h1z s13.size)) ((((hG.ext h12).ext h11).ext s10).ext s13) (h1y.ext s13) h2n ((((p2_0.ext h12).ext h11).ext s10).ext s13) (ii z))) (.inr fun _ _ h => chgB (h.1)) ?_
    rintro _ w2o ⟨s2p, a2q, n2r, c2s, S44, a2t, n2u, c2v, S45, rfl, h46, h2w, h2x, h47, h48, h20, h2y⟩
    refine dR z z (mv z) ?_
    iterate 3 refine dR z z (ext_ z z) ?_
    refine dE z z (fa zero_52) (.inr fun _ _ h => chgB (h.2.below)) ?_
    rintro _ w49 ⟨rfl, h2z⟩
    have h21 := h2z.below
    have h4a : Blk w49 w2o.z [vI 0, sl none 0 0, sl none 0 0] := h2z.blk
    have h22 := lt_ s10.size s13.size
    have h23 := mem1le (lt_ h22 s2p.size)
    refine dE0 z (fs (cur' := [vI r1p.number, sl a2q n2r c2s, sl a2t n2u c2v]) z_52 z z h4a z (lb z) (oA z) z) (.inr fun _ _ h => chgNew (atp h23) h.2) ?_
    rintro _ w5p ⟨h4b, s4c⟩
    have h24 := s4c.one
    refine dR z z (asg z) (dR z z (asg z) (PR_done ?_))
    have h30 := mnr (ownS.lt h2w)
    have h31 := mnr (ownS.lt h2x)
    exact fun _ q => ⟨r1p.number, r1p.bytes, r1p.items, r40, r41, som hm43, a2q, n2r, c2s, S44, a2t, n2u, c2v, S45, w2o.z, (q.k (s5 z z z z z)), (bM (bup (bup (bup s10 s13) s2p) h21) h24 h23), h46, ((h2w.ext h21).chg h24 (dj_symm h30)), (nd_left h20), (o0le (all_left h2y) h22), ((h2x.ext h21).chg h24 (dj_symm h31)), (nd_right h20), (o0le (all_right h2y) h22), (dj_symm (nd_dj h20)), h47, h48, h4b, (atp h23), (dj_symm h30), (dj_symm h31)⟩
   refine dE z z (fa zero_52) (.inr fun _ _ h => chgB (h.2.below)) ?_
   rintro _ w4d ⟨rfl, h32⟩
   have h1k := h32.below
   have h25 : Blk w4d w2m.z [vI 0, sl none 0 0, sl none 0 0] := h32.blk
   obtain ⟨r1q, r4e, r4f, e4g, hm4h⟩ := bd3S hm2l
   refine dE z z (fc call121 z (W_w0t (B := B) e4g (lt_ hBw (lt_ (lt_ h1z s13.size) h1k.size)) (((((hG.ext h12).ext h11).ext s10).ext s13).ext h1k) ((h1y.ext s13).ext h1k) h2n (((((p2_0.ext h12).ext h11).ext s10).ext s13).ext h1k) (ii z))) (.inr fun _ _ h => chgB (h.1)) ?_
   rintro _ w5q ⟨s33, a34, n35, c36, S4i, a37, n38, c39, S4j, rfl, h4k, h4l, h4m, h4n, h4o, h26, h1r⟩
   refine dR z z (mv z) ?_
   iterate 3 refine dR z z (ext_ z z) ?_
   have h3a := lt_ s10.size s13.size
   have h27 := mem1le h3a
   refine dE0 z (fs (cur' := [vI r1q.number, sl a34 n35 c36, sl a37 n38 c39]) z_52 z z (h25.ext s33) z (lb z) (oA z) z) (.inr fun _ _ h => chgNew (atp h27) h.2) ?_
   rintro _ w5r ⟨h4p, s4q⟩
   have h28 := s4q.one
   refine dR z z (asg z) (dR z z (asg z) (PR_done ?_))
   have h3b := o0n1 (all_left h1r) h25.lt lr
   have h3c := lt_ h3a h1k.size
   have h3d := o0n1 (all_right h1r) h25.lt lr
   exact fun _ q => ⟨r1q.number, r1q.bytes, r1q.items, r4e, r4f, som hm4h, a34, n35, c36, S4i, a37, n38, c39, S4j, w2m.z, (q.k (s5 z z z z z)), (bM (bup (bup (bup s10 s13) h1k) s33) h28 h27), h4k, (h4l.chg h28 h3b), (nd_left h26), (o0le (all_left h1r) h3c), (h4m.chg h28 h3d), (nd_right h26), (o0le (all_right h1r) h3c), (dj_symm (nd_dj h26)), h4n, h4o, h4p, (atp h27), h3b, h3d⟩
  refine dE z z (fa zero_52) (.inr fun _ _ h => chgB (h.2.below)) ?_
  rintro _ w4r ⟨rfl, h3e⟩
  have h1l := h3e.below
  have h29 : Blk w4r w2j.z [vI 0, sl none 0 0, sl none 0 0] := h3e.blk
  have h3f := (((p1_0.ext h12).ext h11).ext s10).ext h1l
  have h3g := lt_ (lt_ (lt_ h12.size h11.size) s10.size) h1l.size
  obtain ⟨r5s, e4s, hm4t⟩ := bdS hu2i
  refine dE z z (fc call77 z (W_w0n (B := B) e4s (lt_ hBw h3g) h3f)) (.inr fun _ _ h => chgB (h.1)) ?_
  rintro _ w5t ⟨s15, rfl, h4u⟩
  obtain ⟨r1s, r4v, r4w, e4x, hm4y⟩ := bd3S hm4t
  refine dE z z (fc call121 z (W_w0t (B := B) e4x (lt_ hBw (lt_ h3g s15.size)) (((((hG.ext h12).ext h11).ext s10).ext h1l).ext s15) (h3f.ext s15) h4u (((((p2_0.ext h12).ext h11).ext s10).ext h1l).ext s15) (ii z))) (.inr fun _ _ h => chgB (h.1)) ?_
  rintro _ w5u ⟨s3h, a3i, n3j, c3k, S4z, a3l, n3m, c3n, S50, rfl, h51, h52, h53, h54, h55, h2a, h1t⟩
  refine dR z z (mv z) ?_
  iterate 3 refine dR z z (ext_ z z) ?_
  have h2b := mem1le s10.size
  refine dE0 z (fs (cur' := [vI r1s.number, sl a3i n3j c3k, sl a3l n3m c3n]) z_52 z z ((h29.ext s15).ext s3h) z (lb z) (oA z) z) (.inr fun _ _ h => chgNew (atp h2b) h.2) ?_
  rintro _ w5v ⟨h56, s57⟩
  have h2c := s57.one
  refine dR z z (asg z) (dR z z (asg z) (PR_done ?_))
  have h3o := o0n1 (all_left h1t) h29.lt s15.size
  have h3p := lt_ (lt_ s10.size h1l.size) s15.size
  have h3q := o0n1 (all_right h1t) h29.lt s15.size
  exact fun _ q => ⟨r1s.number, r1s.bytes, r1s.items, r4v, r4w, som hm4y, a3i, n3j, c3k, S4z, a3l, n3m, c3n, S50, w2j.z, (q.k (s5 z z z z z)), (bM (bup (bup (bup s10 h1l) s15) s3h) h2c h2b), h51, (h52.chg h2c h3o), (nd_left h2a), (o0le (all_left h1t) h3p), (h53.chg h2c h3q), (nd_right h2a), (o0le (all_right h1t) h3p), (dj_symm (nd_dj h2a)), h54, h55, h56, (atp h2b), h3o, h3q⟩
 rintro a58 w1u ⟨x1b, x1w, x1x, x1c, x1d, rfl, a1e, n1f, c1g, S17, a1h, n1i, c1j, S18, g19, hS5w, s1m, h59, h5a, h5b, h3r, h5c, h5d, h3s, h5e, h3t, h5f, h5g, h5x, h5y, h5z⟩
 have hm5h := un5S hm3y
 revert a58
 refine Wo (Wq (Wq ?_))
 obtain ⟨u5i, hu3u, hm3v⟩ := bdS hm5h
 refine WC_cut (fun a w => ∃ (x2d : Bool), x2d = u5i ∧ Sat 32 [(4, pt w1n.z), (7, pt g19), (8, vI x1c), (9, vI x1d), (26, vB x2d)] a ∧ Below w1u.z w1u w) ?_ ?_
 ·refine Wg (Rm z (R z (eql z z) (Rm z ?_)))
  rcases bs (x1d == 0) with hc14 | hc14
  ·exact Rh z hc14 (mv z) (Rh z hc14 (mv z) (Rh z hc14 (lnR d_25 z (((p2_0.ext h12).ext h11).ext s1m)) (Rh z hc14 (lss z z) (R z (pT z hc14 z) (Wl (fun _ q => ⟨decide (x1c < (x2.length : Int)), som (ifT hu3u hc14), (q.k (s5 z z z z z)), (br w1u)⟩))))))
  iterate 4 refine Nh z hc14 ?_
  exact R z (pF z hc14 z) (Wl (fun _ q => ⟨false, som (ifF hu3u hc14), (q.k (s5 z z z z z)), (br w1u)⟩))
 rintro a5j w60 ⟨x2d, rfl, hS61, s1a⟩
 revert a5j
 refine Wo (Wc z (fun hc2e => ?_) (fun hc2e => ?_))
 ·refine Ws (R z (bP (parts := []) (cs := [vI 0, sl none 0 0, sl none 0 0]) build_52 z z) (Rm z (E0 (fs (cur' := [vI 0, sl none 0 0, sl none 0 0]) z_52 z z ((h1o.ext s1m).ext s1a) z (lb z) (oA z) z) ?_)))
  rintro _ w62 ⟨h5k, s5l⟩
  refine Ra z (Ra z (Wn ?_))
  obtain rfl := som (ifT hm3v hc2e)
  exact Wr (ret3 hr (resC g_52 z_52 z h5k z) z z ⟨(bM (bup (bup (bup h12 h11) s1m) s1a) s5l.one (mem1le h12.size)), none, 0, 0, [], none, 0, 0, [], z, (ii z), onL, onL, h3t, (ii z), nd0, al0⟩)
 refine Wk (Ws (R z (lN (vs := [vI x1b, sl a1e n1f c1g, sl a1h n1i c1j]) g_52 z_52 z z fid ((h5g.ext s1a).row 0 3 z)) (Rm z (Rm z (E0 (fs (cur' := [vI x1b, sl a1e n1f c1g, sl a1h n1i c1j]) z_52 z z ((h1o.ext s1m).ext s1a) z (lb z) (oA z) z) ?_)))))
 rintro _ w63 ⟨h5m, s5n⟩
 have h2f := s5n.one
 refine Ra z (Ra z (Wn ?_))
 obtain rfl := som (ifF hm3v hc2e)
 have h3w := lt_ h12.size h11.size
 exact Wr (ret3 hr (resC g_52 z_52 z h5m z) z z ⟨(bM (bup (bup (bup h12 h11) s1m) s1a) h2f (mem1le h12.size)), a1e, n1f, c1g, S17, a1h, n1i, c1j, S18, z, h59, ((h5a.ext s1a).chg h2f (o0n1 h3r h1o.lt lr)), ((h5c.ext s1a).chg h2f (o0n1 h3s h1o.lt lr)), h3t, h5f, (nd_app h5b h5d (dj_symm h5e)), (all_app (o0le h3r h3w) (o0le h3s h3w))⟩)
def Q23 (w0 : World) (B : Nat) (r : Spot) (v : Value) (w' : World) : Prop := Bw w0 w' ∧ (fun r1 => (.agg #[vI r1.at_, vI r1.code]) = v ∧ inI r1.at_ ∧ inI r1.code) r
theorem W_w0a {x1 : Checker} {b1 o1 : Nat} {x2 : Int} {x3 : Int} {res : Spot} (hm : M_impl_checker_skip x1 x2 x3 = some res) (hBw : B ≤ w0.z) (p1_0 : repS w0 B (sl A0 N0 C0) x1.d.rules) (p1_1 : repS w0 B (sl A6 N6 C6) x1.b) (p1_2 : inI x1.applied) (hC1 : CellsAt w0 b1 o1 [sl A0 N0 C0, sl A6 N6 C6, vI x1.applied]) (hC1b : b1 < B) (p2_0 : inI x2) (p3_0 : inI x3) : CallsR prog 205 [(.pointer (some ⟨b1, o1, none⟩)), vI x2, vI x3] w0 (Q23 w0 B res) := by
 unfold M_impl_checker_skip at hm
 refine goF func205 z z (lb z) fun fn hr => Ws (E z (fa zero_180) ?_)
 rintro _ w14 ⟨rfl, h12⟩
 have h10 := h12.below
 have h13 : Blk w14 w0.z [vI 0, vI 0] := h12.blk
 refine Wn (Wq (Ws (Rm z (Rm z (R z (rd_nil z) (R z (fd f_202_1 z) (R z (l1 g_25 z fid ((hC1.ext h10).at (j := 1) z)) (R z (lnR d_25 z (p1_1.ext h10)) (Rm z (R z (sb_ z z) (R z (rd_gtr z z) (Wn (Wc z (fun hc11 => ?_) (fun hc11 => ?_))))))))))))))
 ·refine Ws (Rm z (R z (bP (parts := [(0, (.tmp 16)), (1, (.const (.int .i64 1)))]) (cs := [vI x2, vI 1]) build_180 z z) (E0 (fs (cur' := [vI x2, vI 1]) z_180 z z h13 z (lb z) (oA z) z) ?_)))
  rintro _ w19 ⟨h15, s16⟩
  refine Wn ?_
  obtain rfl := som (ifT hm hc11)
  exact Wr (ret1 hr (resC g_180 z_180 z h15 z) ⟨(bM h10 s16.one (mem1 lr)), z, p2_0, (ii z)⟩)
 refine Wk (Ws (Rm z (Rm z (R z (add_ z z) (R z (bP (parts := [(0, (.tmp 20)), (1, (.const (.int .i64 0)))]) (cs := [vI (iadd x2 x3), vI 0]) build_180 z z) (E0 (fs (cur' := [vI (iadd x2 x3), vI 0]) z_180 z z h13 z (lb z) (oA z) z) ?_))))))
 rintro _ w1a ⟨h17, s18⟩
 refine Wn ?_
 obtain rfl := som (ifF hm hc11)
 exact Wr (ret1 hr (resC g_180 z_180 z h17 z) ⟨(bM h10 s18.one (mem1 lr)), z, (iA _ _), (ii z)⟩)
def Q24 (w0 : World) (g1 : Nat) (B : Nat) (A0 : Option Addr) (N0 C0 : Nat) (A6 : Option Addr) (N6 C6 : Nat) (x1 : Checker) (r : Int × Spot × Int) (v : Value) (w' : World) : Prop := Chg (· ∈ [g1]) w0 w' ∧ un3 (fun r1 r2 r3 => v = .tuple #[vI r1, (.agg #[vI r2.at_, vI r2.code])] ∧ inI r1 ∧ inI r2.at_ ∧ inI r2.code ∧ inI r3 ∧ Blk w' g1 [sl A0 N0 C0, sl A6 N6 C6, vI r3]) r
theorem W_w0g {x1 : Checker} {g1 : Nat} {x2 : Int} {x3 : Int} {res : Int × Spot × Int} (hm : M_impl_checker_number x1 x2 x3 = some res) (hB1 : Blk w0 g1 [sl A0 N0 C0, sl A6 N6 C6, vI x1.applied]) (hBw : B ≤ g1) (p1_0 : repS w0 B (sl A0 N0 C0) x1.d.rules) (p1_1 : repS w0 B (sl A6 N6 C6) x1.b) (p1_2 : inI x1.applied) (p2_0 : inI x2) (p3_0 : inI x3) : CallsR prog 203 [pt g1, vI x2, vI x3] w0 (Q24 w0 g1 B A0 N0 C0 A6 N6 C6 x1 res) := by
 unfold M_impl_checker_number at hm
 refine goF func203 z z (lb z) fun fn hr => Ws (Ra z (E z (fa zero_180) ?_))
 rintro _ w1g ⟨rfl, h1o⟩
 have h19 := h1o.below
 have h1a : Blk w1g w0.z [vI 0, vI 0] := h1o.blk
 refine Wn (Ws (Rm z (R z (rd_nil z) (R z (fd f_202_2 z) ?_))))
 have h1p := hB1.ext h19
 refine R z (l1 g_3 z fid (h1p.at z)) (R z (add_ z z) (R z (rd_nil z) (R z (fd f_202_2 z) (E0 (fs (cur' := [sl A0 N0 C0, sl A6 N6 C6, vI (iadd x1.applied 1)]) z_3 z z h1p z (lb z) (oA z) z) ?_))))
 rintro _ w1b ⟨h1q, s2m⟩
 have h11 := s2m.one
 refine Wn (Ws (Rm z (R z (rd_nil z) (R z (fd f_202_0 z) (R z (fd f_30_0 z) (R z (l1 g_28 z fid (h1q.at z)) (Rm z ?_)))))))
 obtain ⟨x17, e2n, hm2o⟩ := bdS hm
 have h1r := (p1_0.ext h19).chg h11 (lg (mem1 hBw))
 refine RX z (at_ (α := Rule) d_28 z_80 z z z h1r e2n) ?_
 rintro _ ⟨b42, o43, cs44, rfl, h2p, h2q, h45⟩
 obtain ⟨a1s, n1t, c1u, a1v, n1w, c1x, a1y, n1z, c20, a21, n22, c23, rfl, h46, h47, h2r, h48, h49, h4a, h4b⟩ := Rule_open h2q
 refine R z (lN (vs := (vR x17 a1s n1t c1u a1v n1w c1x a1y n1z c20 a21 n22 c23)) g_80 z_80 z z fid h2p) (E z (fa zero_80) ?_)
 rintro _ w1h ⟨rfl, h24⟩
 have h13 := h24.below
 have h25 : Blk w1h w1b.z [(Str.v (⟨[]⟩ : Str)), vI 0, vI 0, vB false, sl none 0 0, sl none 0 0, sl none 0 0, sl none 0 0] := h24.blk
 refine E0 (fs (cur' := (vR x17 a1s n1t c1u a1v n1w c1x a1y n1z c20 a21 n22 c23)) z_80 z z h25 z (lb z) (oA z) z) ?_
 rintro _ w26 ⟨h27, s2s⟩
 have h12 := s2s.one
 refine Wn (Ws (Rm z (Rm z (R z (fd f_80_2 z) (R z (l1 g_3 z fid (h27.at z)) ?_)))))
 have h1c := lt_ h19.size h11.size
 have h1i := (h1q.ext h13).chg h12 (djs (mm1 (Blk.lt hB1) h1c))
 have h28 := mem1le (lt_ (lt_ hBw (Nat.le_of_lt (Blk.lt hB1))) h1c)
 have h29 := (((p1_1.ext h19).chg h11 (lg (mem1 hBw))).ext h13).chg h12 (lg h28)
 have h1j := lt_ (lt_ h1c h13.size) h12.size
 obtain ⟨r14, e2t, hm2a⟩ := bdS hm2o
 refine E z (fc call205 z (W_w0a (B := w0.z) e2t h1j (repS.mono ((h1r.ext h13).chg h12 (lg h28)) (lt_ hBw (Nat.le_of_lt (Blk.lt hB1)))) (repS.mono h29 (lt_ hBw (Nat.le_of_lt (Blk.lt hB1)))) (iA _ _) (h1i.row 0 3 z) (Blk.lt hB1) p3_0 h2r)) ?_
 rintro _ w1d ⟨s10, rfl, h2b, h2c⟩
 refine E z (fa zero_180) ?_
 rintro _ w1k ⟨rfl, h2d⟩
 have h15 := h2d.below
 have h2u : Blk w1k w1d.z [vI 0, vI 0] := h2d.blk
 refine E0 (fs (cur' := [vI r14.at_, vI r14.code]) z_180 z z h2u z (lb z) (oA z) z) ?_
 rintro _ w2e ⟨h1l, s2v⟩
 have h16 := s2v.one
 refine Wn (Wq (Ws (R z (fd f_180_1 z) (R z (l1 g_3 z fid (h1l.at z)) (R z (nq z z) (Wn (Wc z (fun hc1m => ?_) (fun hc1m => ?_))))))))
 ·refine Wq (WC_draw (X := noX) 4 (.rd 0 (.rd 1 (.ef 2 .done))) mo (by kernel_rfl) fun w2w s1e _ => dR z z (lN (vs := [vI r14.at_, vI r14.code]) g_180 z_180 z z fid ((h1l.ext s1e).row 0 2 z)) (dR z z (asg z) ?_))
  have h2f := mmr (Blk.lt hB1)
  have h2x := (((((h1a.chg h11 (atp h2f)).ext h13).chg h12 (djs (mm1 h1a.lt h11.size))).ext s10).ext h15).chg h16 (djs (mm1 h1a.lt (lt_ (lt_ (lt_ h11.size h13.size) h12.size) s10.size)))
  refine dE0 z (fs (cur' := [vI r14.at_, vI r14.code]) z_180 z z (h2x.ext s1e) z (lb z) (oA z) z) (.inl z) ?_
  rintro _ w2y ⟨h2z, s30⟩
  have h2g := s30.one
  refine PR_done (Wo ?_)
  obtain rfl := som (ifT hm2a hc1m)
  have h31 : Chg (· ∈ [g1]) w0 w1g := cext (cr [g1] w0) h19
  have h32 : Chg (· ∈ [g1]) w0 w1b := cM h31 h11 (io sr)
  have h33 : Chg (· ∈ [g1]) w0 w1h := cext h32 h13
  have h34 : ∀ k ∈ [w1b.z], k ∈ [g1] ∨ w0.z ≤ k := mor h1c
  have h35 : Chg (· ∈ [g1]) w0 w26 := cM h33 h12 h34
  have h36 : Chg (· ∈ [g1]) w0 w1d := cext h35 s10
  have h37 : Chg (· ∈ [g1]) w0 w1k := cext h36 h15
  have h2h := lt_ h1j s10.size
  have h38 : ∀ k ∈ [w1d.z], k ∈ [g1] ∨ w0.z ≤ k := mor h2h
  have h39 : Chg (· ∈ [g1]) w0 w2e := cM h37 h16 h38
  have h3a : Chg (· ∈ [g1]) w0 w2w := cext h39 s1e
  have h3b : ∀ k ∈ [w0.z], k ∈ [g1] ∨ w0.z ≤ k := mor lr
  have h3c : Chg (· ∈ [g1]) w0 w2y := cM h3a h2g h3b
  exact Wr (ret2 hr z (resC g_180 z_180 z h2z z) ⟨h3c, z, (ii z), h2b, h2c, (iA _ _), (((((h1i.ext s10).ext h15).chg h16 (djs (mm1 (Blk.lt hB1) h2h))).ext s1e).chg h2g (djs h2f))⟩)
 refine Wk (Wq (WC_draw (X := noX) 8192 (.rd 0 (.rd 1 (.rd 2 (.rd 3 (.rd 4 (.rd 5 (.rd 6 (.rd 7 (.rd 8 (.rd 9 (.rd 11 (.ef 10 (.rd 12 (.ef 13 .done)))))))))))))) mo (by kernel_rfl) fun w3d s18 _ => dR z z (mv z) (dR z z (rd_nil z) (dR z z (fd f_202_1 z) ?_))))
 have h1f := lt_ h1j s10.size
 have h2i := (((h1i.ext s10).ext h15).chg h16 (djs (mm1 (Blk.lt hB1) h1f))).ext s18
 refine dR z z (l1 g_25 z fid (h2i.at z)) (dR z z (mv z) (dR z z (fd f_180_0 z) ?_))
 have h2j := h1l.ext s18
 refine dR z z (l1 g_3 z fid (h2j.at z)) ?_
 obtain ⟨x4c, e3e, hm3f⟩ := bdS (ifF hm2a hc1m)
 refine dRX z z (rd_sliceX d_25 z_5 z z ((((h29.ext s10).ext h15).chg h16 (lg (mem1le (lt_ (lt_ hBw (Nat.le_of_lt (Blk.lt hB1))) h1f)))).ext s18) z z e3e) ?_
 rintro _ ⟨a4d, n4e, c4f, rfl, h3g⟩
 refine dR z z (fd f_80_3 z) (dR z z (l1 g_4 z fid (((((h27.ext s10).ext h15).chg h16 (djs (mm1 h25.lt (lt_ h12.size s10.size)))).ext s18).at z)) (dR z z (lN (vs := [vI r14.at_, vI r14.code]) g_180 z_180 z z fid (h2j.row 0 2 z)) ?_))
 obtain ⟨r4g, e3h, hm3i⟩ := bdS hm3f
 refine dE z z (fc call55 z (W_w0s (B := B) e3h (lt_ (lt_ hBw (Nat.le_of_lt (Blk.lt hB1))) (lt_ (lt_ (lt_ h1f h15.size) h16.size) s18.size)) h3g)) (.inr fun _ _ h => chgB (h.1)) ?_
 rintro _ w3j ⟨s1n, rfl, h3k⟩
 refine dR z z (asg z) ?_
 have h2k := mmr (Blk.lt hB1)
 have h3l := (((((h1a.chg h11 (atp h2k)).ext h13).chg h12 (djs (mm1 h1a.lt h11.size))).ext s10).ext h15).chg h16 (djs (mm1 h1a.lt (lt_ (lt_ (lt_ h11.size h13.size) h12.size) s10.size)))
 refine dE0 z (fs (cur' := [vI r14.at_, vI r14.code]) z_180 z z ((h3l.ext s18).ext s1n) z (lb z) (oA z) z) (.inl z) ?_
 rintro _ w3m ⟨h3n, s3o⟩
 have h2l := s3o.one
 refine PR_done (Wo ?_)
 obtain rfl := som hm3i
 have h3p : Chg (· ∈ [g1]) w0 w1g := cext (cr [g1] w0) h19
 have h3q : Chg (· ∈ [g1]) w0 w1b := cM h3p h11 (io sr)
 have h3r : Chg (· ∈ [g1]) w0 w1h := cext h3q h13
 have h3s : ∀ k ∈ [w1b.z], k ∈ [g1] ∨ w0.z ≤ k := mor h1c
 have h3t : Chg (· ∈ [g1]) w0 w26 := cM h3r h12 h3s
 have h3u : Chg (· ∈ [g1]) w0 w1d := cext h3t s10
 have h3v : Chg (· ∈ [g1]) w0 w1k := cext h3u h15
 have h3w : ∀ k ∈ [w1d.z], k ∈ [g1] ∨ w0.z ≤ k := mor h1f
 have h3x : Chg (· ∈ [g1]) w0 w2e := cM h3v h16 h3w
 have h3y : Chg (· ∈ [g1]) w0 w3d := cext h3x s18
 have h3z : Chg (· ∈ [g1]) w0 w3j := cext h3y s1n
 have h40 : ∀ k ∈ [w0.z], k ∈ [g1] ∨ w0.z ≤ k := mor lr
 have h41 : Chg (· ∈ [g1]) w0 w3m := cM h3z h2l h40
 exact Wr (ret2 hr z (resC g_180 z_180 z h3n z) ⟨h41, z, h3k, h2b, h2c, (iA _ _), ((h2i.ext s1n).chg h2l (djs h2k))⟩)
theorem W_w2n {x1 : Checker} {b1 o1 : Nat} {x2 : Rule} {x3 : Int} {res : Spot} (hm : M_impl_checker_constant x1 x2 x3 = some res) (hBw : B ≤ w0.z) (p1_0 : repS w0 B (sl A0 N0 C0) x1.d.rules) (p1_1 : repS w0 B (sl A6 N6 C6) x1.b) (p1_2 : inI x1.applied) (hC1 : CellsAt w0 b1 o1 [sl A0 N0 C0, sl A6 N6 C6, vI x1.applied]) (hC1b : b1 < B) (p2_0 : x2.name.b.length ≤ LEN) (p2_1 : inI x2.kind) (p2_2 : inI x2.size) (p2_4 : repS w0 B (sl A2 N2 C2) x2.bytes) (p2_5 : repS w0 B (sl A3 N3 C3) x2.names) (p2_6 : repS w0 B (sl A1 N1 C1) x2.tags) (p2_7 : repS w0 B (sl A4 N4 C4) x2.kids) (p3_0 : inI x3) : CallsR prog 204 [(.pointer (some ⟨b1, o1, none⟩)), (.agg #[Str.v x2.name, vI x2.kind, vI x2.size, vB x2.little, sl A2 N2 C2, sl A3 N3 C3, sl A1 N1 C1, sl A4 N4 C4]), vI x3] w0 (Q23 w0 B res) := by
 unfold M_impl_checker_constant at hm
 refine goF func204 z z (lb z) fun fn hr => Ws (E z (fb z) ?_)
 rintro _ w13 ⟨rfl, h1b⟩
 have h10 := h1b.below
 have h1k : Blk w13 w0.z (vR x2 A2 N2 C2 A3 N3 C3 A1 N1 C1 A4 N4 C4) := h1b.blk
 refine E z (fa zero_180) ?_
 rintro _ w14 ⟨rfl, h1c⟩
 have h12 := h1c.below
 have h17 : Blk w14 w13.z [vI 0, vI 0] := h1c.blk
 refine Wn (Wq (Ws (R z (fd f_80_4 z) ?_)))
 have h1d := h1k.ext h12
 refine R z (l1 g_25 z fid (h1d.at z)) ?_
 have h18 := (p2_4.ext h10).ext h12
 refine R z (lnR d_25 z h18) (Rm z (Wn ?_))
 obtain ⟨u26, hu1l, hm1e⟩ := bdS hm
 refine WC_forN (σ := Unit) (ρ := Spot) (fun (k15 : Nat) (_ : Unit) a w => Sat 50 [(0, (.pointer (some ⟨b1, o1, none⟩))), (2, vI x3), (4, pt w0.z), (6, pt w13.z), (10, sl A2 N2 C2), (11, vI (x2.bytes.length : Int)), (12, (vI ((k15 : Nat) : Int)))] a ∧ Below w14.z w14 w) (fun (_ : Unit) a w => Sat 50 [(2, vI x3), (4, pt w0.z), (6, pt w13.z)] a ∧ Below w14.z w14 w) (fun r ex a w => ex = .ret ∧ RetPost prog fn (Q23 w0 B r) a w) hu1l ?_ ?_ ?_ ?_ ?_
 ·exact fun _ q => ⟨(q.k (s7 z z z z z z z)), (br w14)⟩
 ·rintro k15 _ a27 w28 o29 hk1f ⟨hS1m, s11⟩ hm1n
  refine Wu ?_ hS1m
  refine Ws (R z (lss z z) (Wn (Wq (Wc z (fun _ => ?_) (fun hc => (nolt hk1f hc).elim)))))
  refine Wk (Wq (WC_block (Ws (Rm z ?_))))
  obtain ⟨x2a, e1o, hm1g⟩ := bdS hm1n
  refine RX z (at_ (α := UInt8) d_25 z_5 z z z (h18.ext s11) e1o) ?_
  rintro _ ⟨b2b, o2c, cs2d, rfl, h1p, h1q, h2e⟩
  obtain rfl := UInt8_open h1q
  refine R z (l1 g_5 z fid (h1p.at0 z)) (Ra z (Ra z (Wn (Wq (Ws (Rm z (Rm z (R z (add_ z z) (Rm z (R z (rd_nil z) (R z (fd f_202_1 z) ?_)))))))))))
  have h1h := ((hC1.ext h10).ext h12).ext s11
  refine R z (l1 g_25 z fid (h1h.at (j := 1) z)) ?_
  have h1i := ((p1_1.ext h10).ext h12).ext s11
  refine R z (lnR d_25 z h1i) (R z (eql z z) (Wn (Wc z (fun hc19 => ?_) (fun hc19 => ?_))))
  ·refine Ws (Rm z (R z (bP (parts := [(0, (.tmp 26)), (1, (.const (.int .i64 1)))]) (cs := [vI x3, vI 1]) build_180 z z) (E0 (fs (cur' := [vI x3, vI 1]) z_180 z z (h17.ext s11) z (lb z) (oA z) z) ?_)))
   rintro _ w2f ⟨h1r, s1s⟩
   exact Wn (Wr (rtO (QO_retL (som (ifT hm1g hc19)).symm (ret1 hr (resC g_180 z_180 z h1r z) ⟨(bM (bup (bup h10 h12) s11) s1s.one (mem1le h10.size)), z, p3_0, (ii z)⟩))))
  refine Wk (Ws (Rm z (R z (rd_nil z) (R z (fd f_202_1 z) (R z (l1 g_25 z fid (h1h.at (j := 1) z)) (Rm z (Rm z (R z (add_ z z) ?_))))))))
  obtain ⟨x2g, e1t, hm1j⟩ := bdS (ifF hm1g hc19)
  refine RX z (at_ (α := UInt8) d_25 z_5 z z z h1i e1t) ?_
  rintro _ ⟨b2h, o2i, cs2j, rfl, h1u, h1v, h2k⟩
  obtain rfl := UInt8_open h1v
  refine R z (l1 g_5 z fid (h1u.at0 z)) (Rm z (R z (nq z z) (Wn (Wc z (fun hc1a => ?_) (fun hc1a => ?_)))))
  ·refine Ws (Rm z (Rm z (R z (add_ z z) (R z (bP (parts := [(0, (.tmp 41)), (1, (.const (.int .i64 2)))]) (cs := [(vI (iadd x3 ((k15 : Nat) : Int))), vI 2]) build_180 z z) (E0 (fs (cur' := [(vI (iadd x3 ((k15 : Nat) : Int))), vI 2]) z_180 z z (h17.ext s11) z (lb z) (oA z) z) ?_)))))
   rintro _ w2l ⟨h1w, s1x⟩
   exact Wn (Wr (rtO (QO_retL (som (ifT hm1j hc1a)).symm (ret1 hr (resC g_180 z_180 z h1w z) ⟨(bM (bup (bup h10 h12) s11) s1x.one (mem1le h10.size)), z, (iA _ _), (ii z)⟩))))
  exact Wk (Wg (R z (inc_ hk1f (lt_ (repS.len p2_4) LEN_le) z z) (Rm z (Wl (fun _ q => ⟨(), (som (ifF hm1j hc1a)).symm, ⟨(q.k (s7 z z z z z z z)), s11⟩⟩)))))
 ·rintro _ a2m w2n ⟨hS1y, s1z⟩
  refine Wu ?_ hS1y
  refine Ws (R z (lss z z) (Wn (Wq (Wc z (fun hc => (noltt hc).elim) (fun _ => ?_)))))
  exact WC_exit (fun a' ha' => ⟨rfl, ⟨(Sat.weaken ha' (s3 z z z)), s1z⟩⟩)
 ·rintro _ a20 w2o rfl ⟨hS2p, s16⟩
  have hm21 := elL hm1e
  revert a20
  refine Wo (Ws (Rm z (R z (fd f_80_4 z) (R z (l1 g_25 z fid ((h1d.ext s16).at z)) (R z (lnR d_25 z (h18.ext s16)) (R z (add_ z z) (R z (bP (parts := [(0, (.tmp 48)), (1, (.const (.int .i64 0)))]) (cs := [(vI (iadd x3 (x2.bytes.length : Int))), vI 0]) build_180 z z) (E0 (fs (cur' := [(vI (iadd x3 (x2.bytes.length : Int))), vI 0]) z_180 z z (h17.ext s16) z (lb z) (oA z) z) ?_))))))))
  rintro _ w2q ⟨h22, s23⟩
  refine Wn ?_
  obtain rfl := som hm21
  exact Wr (ret1 hr (resC g_180 z_180 z h22 z) ⟨(bM (bup (bup h10 h12) s16) s23.one (mem1le h10.size)), z, (iA _ _), (ii z)⟩)
 rintro r2r ex2s a2t w2u rfl ⟨rfl, hq24⟩
 have hm25 := elR hm1e
 obtain rfl := som hm25
 exact ⟨hq24, z⟩
def Q25 (w0 : World) (g1 : Nat) (B : Nat) (A0 : Option Addr) (N0 C0 : Nat) (A6 : Option Addr) (N6 C6 : Nat) (x1 : Checker) (r : Spot × Int) (v : Value) (w' : World) : Prop := Chg (· ∈ [g1]) w0 w' ∧ un2 (fun r1 r2 => (.agg #[vI r1.at_, vI r1.code]) = v ∧ inI r1.at_ ∧ inI r1.code ∧ inI r2 ∧ Blk w' g1 [sl A0 N0 C0, sl A6 N6 C6, vI r2]) r
structure S_impl_checker_value (f : Checker → Int → Int → Option (Spot × Int)) : Prop where
  run : ∀ {B N0 C0 N6 C6 g1 : Nat} {A0 A6 : Option Addr} {x1 : Checker} {x2 : Int} {x3 : Int} {res : Spot × Int} {w0 : World} (hm : f x1 x2 x3 = some res) (hB1 : Blk w0 g1 [sl A0 N0 C0, sl A6 N6 C6, vI x1.applied]) (hBw : B ≤ g1) (p1_0 : repS w0 B (sl A0 N0 C0) x1.d.rules) (p1_1 : repS w0 B (sl A6 N6 C6) x1.b) (p1_2 : inI x1.applied) (p2_0 : inI x2) (p3_0 : inI x3), CallsR prog 173 [pt g1, vI x2, vI x3] w0 (Q25 w0 g1 B A0 N0 C0 A6 N6 C6 x1 res)
structure S_impl_checker_array (f : Checker → Rule → Int → Option (Spot × Int)) : Prop where
  run : ∀ {B N0 C0 N6 C6 g1 N2 C2 N3 C3 N1 C1 N4 C4 : Nat} {A0 A6 A2 A3 A1 A4 : Option Addr} {x1 : Checker} {x2 : Rule} {x3 : Int} {res : Spot × Int} {w0 : World} (hm : f x1 x2 x3 = some res) (hB1 : Blk w0 g1 [sl A0 N0 C0, sl A6 N6 C6, vI x1.applied]) (hBw : B ≤ g1) (p1_0 : repS w0 B (sl A0 N0 C0) x1.d.rules) (p1_1 : repS w0 B (sl A6 N6 C6) x1.b) (p1_2 : inI x1.applied) (p2_0 : x2.name.b.length ≤ LEN) (p2_1 : inI x2.kind) (p2_2 : inI x2.size) (p2_4 : repS w0 B (sl A2 N2 C2) x2.bytes) (p2_5 : repS w0 B (sl A3 N3 C3) x2.names) (p2_6 : repS w0 B (sl A1 N1 C1) x2.tags) (p2_7 : repS w0 B (sl A4 N4 C4) x2.kids) (p3_0 : inI x3), CallsR prog 206 [pt g1, (.agg #[Str.v x2.name, vI x2.kind, vI x2.size, vB x2.little, sl A2 N2 C2, sl A3 N3 C3, sl A1 N1 C1, sl A4 N4 C4]), vI x3] w0 (Q25 w0 g1 B A0 N0 C0 A6 N6 C6 x1 res)
structure S_impl_checker_choice (f : Checker → Rule → Int → Option (Spot × Int)) : Prop where
  run : ∀ {B N0 C0 N6 C6 g1 N2 C2 N3 C3 N1 C1 N4 C4 : Nat} {A0 A6 A2 A3 A1 A4 : Option Addr} {x1 : Checker} {x2 : Rule} {x3 : Int} {res : Spot × Int} {w0 : World} (hm : f x1 x2 x3 = some res) (hB1 : Blk w0 g1 [sl A0 N0 C0, sl A6 N6 C6, vI x1.applied]) (hBw : B ≤ g1) (p1_0 : repS w0 B (sl A0 N0 C0) x1.d.rules) (p1_1 : repS w0 B (sl A6 N6 C6) x1.b) (p1_2 : inI x1.applied) (p2_0 : x2.name.b.length ≤ LEN) (p2_1 : inI x2.kind) (p2_2 : inI x2.size) (p2_4 : repS w0 B (sl A2 N2 C2) x2.bytes) (p2_5 : repS w0 B (sl A3 N3 C3) x2.names) (p2_6 : repS w0 B (sl A1 N1 C1) x2.tags) (p2_7 : repS w0 B (sl A4 N4 C4) x2.kids) (p3_0 : inI x3), CallsR prog 207 [pt g1, (.agg #[Str.v x2.name, vI x2.kind, vI x2.size, vB x2.little, sl A2 N2 C2, sl A3 N3 C3, sl A1 N1 C1, sl A4 N4 C4]), vI x3] w0 (Q25 w0 g1 B A0 N0 C0 A6 N6 C6 x1 res)
structure S_impl_checker_option (f : Checker → Rule → Int → Option (Spot × Int)) : Prop where
  run : ∀ {B N0 C0 N6 C6 g1 N2 C2 N3 C3 N1 C1 N4 C4 : Nat} {A0 A6 A2 A3 A1 A4 : Option Addr} {x1 : Checker} {x2 : Rule} {x3 : Int} {res : Spot × Int} {w0 : World} (hm : f x1 x2 x3 = some res) (hB1 : Blk w0 g1 [sl A0 N0 C0, sl A6 N6 C6, vI x1.applied]) (hBw : B ≤ g1) (p1_0 : repS w0 B (sl A0 N0 C0) x1.d.rules) (p1_1 : repS w0 B (sl A6 N6 C6) x1.b) (p1_2 : inI x1.applied) (p2_0 : x2.name.b.length ≤ LEN) (p2_1 : inI x2.kind) (p2_2 : inI x2.size) (p2_4 : repS w0 B (sl A2 N2 C2) x2.bytes) (p2_5 : repS w0 B (sl A3 N3 C3) x2.names) (p2_6 : repS w0 B (sl A1 N1 C1) x2.tags) (p2_7 : repS w0 B (sl A4 N4 C4) x2.kids) (p3_0 : inI x3), CallsR prog 208 [pt g1, (.agg #[Str.v x2.name, vI x2.kind, vI x2.size, vB x2.little, sl A2 N2 C2, sl A3 N3 C3, sl A1 N1 C1, sl A4 N4 C4]), vI x3] w0 (Q25 w0 g1 B A0 N0 C0 A6 N6 C6 x1 res)
structure S_impl_checker_checked (f : Checker → Rule → Int → Option (Spot × Int)) : Prop where
  run : ∀ {B N0 C0 N6 C6 g1 N2 C2 N3 C3 N1 C1 N4 C4 : Nat} {A0 A6 A2 A3 A1 A4 : Option Addr} {x1 : Checker} {x2 : Rule} {x3 : Int} {res : Spot × Int} {w0 : World} (hm : f x1 x2 x3 = some res) (hB1 : Blk w0 g1 [sl A0 N0 C0, sl A6 N6 C6, vI x1.applied]) (hBw : B ≤ g1) (p1_0 : repS w0 B (sl A0 N0 C0) x1.d.rules) (p1_1 : repS w0 B (sl A6 N6 C6) x1.b) (p1_2 : inI x1.applied) (p2_0 : x2.name.b.length ≤ LEN) (p2_1 : inI x2.kind) (p2_2 : inI x2.size) (p2_4 : repS w0 B (sl A2 N2 C2) x2.bytes) (p2_5 : repS w0 B (sl A3 N3 C3) x2.names) (p2_6 : repS w0 B (sl A1 N1 C1) x2.tags) (p2_7 : repS w0 B (sl A4 N4 C4) x2.kids) (p3_0 : inI x3), CallsR prog 209 [pt g1, (.agg #[Str.v x2.name, vI x2.kind, vI x2.size, vB x2.little, sl A2 N2 C2, sl A3 N3 C3, sl A1 N1 C1, sl A4 N4 C4]), vI x3] w0 (Q25 w0 g1 B A0 N0 C0 A6 N6 C6 x1 res)
abbrev I_impl_checker_value (n : Nat) : Prop := S_impl_checker_value (F_impl_checker_value n).impl_checker_value ∧ S_impl_checker_array (F_impl_checker_value n).impl_checker_array ∧ S_impl_checker_choice (F_impl_checker_value n).impl_checker_choice ∧ S_impl_checker_option (F_impl_checker_value n).impl_checker_option ∧ S_impl_checker_checked (F_impl_checker_value n).impl_checker_checked
theorem T_w03 (ih : I_impl_checker_value n) : S_impl_checker_value (B_impl_checker_value n (F_impl_checker_value n)) := by
 obtain ⟨ih0, ih1, ih2, ih3, ih4⟩ := ih
 constructor
 intro B N0 C0 N6 C6 g1 A0 A6 x1 x2 x3 res w0 hm hB1 hBw p1_0 p1_1 p1_2 p2_0 p3_0
 unfold B_impl_checker_value at hm
 refine goF func173 z z (lb z) fun fn hr => Ws (E z (fa zero_180) ?_)
 rintro _ w17 ⟨rfl, h3r⟩
 have h13 := h3r.below
 have h16 : Blk w17 w0.z [vI 0, vI 0] := h3r.blk
 refine Wn (Ws (Rm z (R z (rd_nil z) (R z (fd f_202_0 z) (R z (fd f_30_0 z) ?_)))))
 have h2r := hB1.ext h13
 refine R z (l1 g_28 z fid (h2r.at z)) (Rm z ?_)
 obtain ⟨x14, e5y, hm3s⟩ := bdS hm
 have h1c := p1_0.ext h13
 refine RX z (at_ (α := Rule) d_28 z_80 z z z h1c e5y) ?_
 rintro _ ⟨b130, o131, cs132, rfl, h5z, h60, h133⟩
 obtain ⟨a1p, n1q, c1r, a1s, n1t, c1u, a1v, n1w, c1x, a1d, n1e, c1f, rfl, h2c, h2d, h20, h21, h2e, h2f, h1n⟩ := Rule_open h60
 refine R z (lN (vs := (vR x14 a1p n1q c1r a1s n1t c1u a1v n1w c1x a1d n1e c1f)) g_80 z_80 z z fid h5z) (E z (fa zero_80) ?_)
 rintro _ w19 ⟨rfl, h3t⟩
 have h11 := h3t.below
 have h3u : Blk w19 w17.z [(Str.v (⟨[]⟩ : Str)), vI 0, vI 0, vB false, sl none 0 0, sl none 0 0, sl none 0 0, sl none 0 0] := h3t.blk
 refine E0 (fs (cur' := (vR x14 a1p n1q c1r a1s n1t c1u a1v n1w c1x a1d n1e c1f)) z_80 z z h3u z (lb z) (oA z) z) ?_
 rintro _ w1a ⟨h3v, s61⟩
 have h10 := s61.one
 refine Wn (Wq (Ws (R z (fd f_80_1 z) (R z (l1 g_3 z fid (h3v.at z)) (R z (eql z z) (Wn (Wc z (fun hc2s => ?_) (fun hc2s => ?_))))))))
 ·refine Ws (Rm z (Rm z (Rm z ?_)))
  have h3w := mem1le (lt_ (lt_ hBw (Nat.le_of_lt (Blk.lt hB1))) h13.size)
  obtain ⟨r134, r22, r135, e62, hm63⟩ := bd3S (ifT hm3s hc2s)
  refine E z (fc call203 z (W_w0g (B := B) e62 ((h2r.ext h11).chg h10 (djs (mm1 (Blk.lt hB1) h13.size))) hBw ((h1c.ext h11).chg h10 (lg h3w)) (((p1_1.ext h13).ext h11).chg h10 (lg h3w)) p1_2 p2_0 p3_0)) ?_
  rintro _ w2t ⟨s2l, rfl, h136, h64, h65, h66, h67⟩
  refine Rm z (R z (ext_ z z) (R z (ext_ z z) (E z (fa zero_180) ?_)))
  rintro _ w3x ⟨rfl, h3y⟩
  have h2u := h3y.below
  have h68 : Blk w3x w2t.z [vI 0, vI 0] := h3y.blk
  refine Ra z (E0 (fs (cur' := [vI r22.at_, vI r22.code]) z_180 z z h68 z (lb z) (oA z) z) ?_)
  rintro _ w69 ⟨h6a, s6b⟩
  have h2v := s6b.one
  refine Wn (Ws (R z (lN (vs := [vI r22.at_, vI r22.code]) g_180 z_180 z z fid (h6a.row 0 2 z)) ?_))
  have h3z := mmr (Blk.lt hB1)
  have h6c := ((((h16.ext h11).chg h10 (djs (mmr h16.lt))).chg s2l (atp h3z)).ext h2u).chg h2v (djs (mm1 h16.lt (lt_ (lt_ h11.size h10.size) s2l.size)))
  refine E0 (fs (cur' := [vI r22.at_, vI r22.code]) z_180 z z h6c z (lb z) (oA z) z) ?_
  rintro _ w6d ⟨h6e, s6f⟩
  have h40 := s6f.one
  refine Wn ?_
  obtain rfl := som hm63
  have h6g : Chg (· ∈ [g1]) w0 w17 := cext (cr [g1] w0) h13
  have h6h : Chg (· ∈ [g1]) w0 w19 := cext h6g h11
  have h6i : ∀ k ∈ [w17.z], k ∈ [g1] ∨ w0.z ≤ k := mor h13.size
  have h6j : Chg (· ∈ [g1]) w0 w1a := cM h6h h10 h6i
  have h6k : Chg (· ∈ [g1]) w0 w2t := cM h6j s2l (io sr)
  have h6l : Chg (· ∈ [g1]) w0 w3x := cext h6k h2u
  have h41 := lt_ (lt_ (lt_ h13.size h11.size) h10.size) s2l.size
  have h6m : ∀ k ∈ [w2t.z], k ∈ [g1] ∨ w0.z ≤ k := mor h41
  have h6n : Chg (· ∈ [g1]) w0 w69 := cM h6l h2v h6m
  have h6o : ∀ k ∈ [w0.z], k ∈ [g1] ∨ w0.z ≤ k := mor lr
  have h6p : Chg (· ∈ [g1]) w0 w6d := cM h6n h40 h6o
  exact Wr (ret1 hr (resC g_180 z_180 z h6e z) ⟨h6p, z, h64, h65, h66, (((h67.ext h2u).chg h2v (djs (mm1 (Blk.lt hB1) h41))).chg h40 (djs h3z))⟩)
 have hm42 := ifF hm3s hc2s
 refine Wk (Ws (Rm z (R z (rd_nil z) (R z (fd f_202_2 z) ?_))))
 have h43 := mm1 (Blk.lt hB1) h13.size
 have h44 := (h2r.ext h11).chg h10 (djs h43)
 refine R z (l1 g_3 z fid (h44.at z)) (R z (add_ z z) (R z (rd_nil z) (R z (fd f_202_2 z) (E0 (fs (cur' := [sl A0 N0 C0, sl A6 N6 C6, vI (iadd x1.applied 1)]) z_3 z z h44 z (lb z) (oA z) z) ?_))))
 rintro _ w15 ⟨h1b, s6q⟩
 have h12 := s6q.one
 refine Wn (Wq (Ws (R z (fd f_80_1 z) ?_)))
 have h1g := h3v.chg h12 (atp h43)
 refine R z (l1 g_3 z fid (h1g.at z)) (Wn (WC_block (Ws (R z (eql z z) (Ra z (Wn (Wc z (fun hc2w => ?_) (fun hc2w => ?_))))))))
 ·refine Ws (Rm z (R z (lN (vs := (vR x14 a1p n1q c1r a1s n1t c1u a1v n1w c1x a1d n1e c1f)) g_80 z_80 z z fid (h1g.row 0 8 z)) (Rm z ?_)))
  have h23 := mem1le (lt_ (lt_ hBw (Nat.le_of_lt (Blk.lt hB1))) h13.size)
  obtain ⟨r45, e6r, hm6s⟩ := bdS (ifT hm42 hc2w)
  refine E z (fc call204 z (W_w2n (B := w0.z) e6r (lt_ (lt_ (lt_ h13.size h11.size) h10.size) h12.size) (repS.mono (((h1c.ext h11).chg h10 (lg h23)).chg h12 (lg (mem1 hBw))) (lt_ hBw (Nat.le_of_lt (Blk.lt hB1)))) (repS.mono ((((p1_1.ext h13).ext h11).chg h10 (lg h23)).chg h12 (lg (mem1 hBw))) (lt_ hBw (Nat.le_of_lt (Blk.lt hB1)))) (iA _ _) (h1b.row 0 3 z) (Blk.lt hB1) h2c h2d h20 (repS.mono (((h21.ext h11).chg h10 (lg h23)).chg h12 (lg (mem1 hBw))) (lt_ hBw (Nat.le_of_lt (Blk.lt hB1)))) (repS.mono (((h2e.ext h11).chg h10 (lg h23)).chg h12 (lg (mem1 hBw))) (lt_ hBw (Nat.le_of_lt (Blk.lt hB1)))) (repS.mono (((h2f.ext h11).chg h10 (lg h23)).chg h12 (lg (mem1 hBw))) (lt_ hBw (Nat.le_of_lt (Blk.lt hB1)))) (repS.mono (((h1n.ext h11).chg h10 (lg h23)).chg h12 (lg (mem1 hBw))) (lt_ hBw (Nat.le_of_lt (Blk.lt hB1)))) p3_0)) ?_
  rintro _ w6t ⟨s2x, rfl, h6u, h6v⟩
  have h46 := mmr (Blk.lt hB1)
  refine E0 (fs (cur' := [vI r45.at_, vI r45.code]) z_180 z z ((((h16.ext h11).chg h10 (djs (mmr h16.lt))).chg h12 (atp h46)).ext s2x) z (lb z) (oA z) z) ?_
  rintro _ w6w ⟨h6x, s6y⟩
  have h47 := s6y.one
  refine Wn ?_
  obtain rfl := som hm6s
  have h6z : Chg (· ∈ [g1]) w0 w17 := cext (cr [g1] w0) h13
  have h70 : Chg (· ∈ [g1]) w0 w19 := cext h6z h11
  have h71 : ∀ k ∈ [w17.z], k ∈ [g1] ∨ w0.z ≤ k := mor h13.size
  have h72 : Chg (· ∈ [g1]) w0 w1a := cM h70 h10 h71
  have h73 : Chg (· ∈ [g1]) w0 w15 := cM h72 h12 (io sr)
  have h74 : Chg (· ∈ [g1]) w0 w6t := cext h73 s2x
  have h75 : ∀ k ∈ [w0.z], k ∈ [g1] ∨ w0.z ≤ k := mor lr
  have h76 : Chg (· ∈ [g1]) w0 w6w := cM h74 h47 h75
  exact Wr (rtO (ret1 hr (resC g_180 z_180 z h6x z) ⟨h76, z, h6u, h6v, (iA _ _), ((h1b.ext s2x).chg h47 (djs h46))⟩))
 have hm48 := ifF hm42 hc2w
 refine Ws (R z (eql z z) (Ra z (Wn (Wc z (fun hc2y => ?_) (fun hc2y => ?_)))))
 ·refine Ws (Rm z (Rm z (R z (fd f_80_2 z) (R z (l1 g_3 z fid (h1g.at z)) ?_))))
  have h49 := mem1le (lt_ (lt_ hBw (Nat.le_of_lt (Blk.lt hB1))) h13.size)
  obtain ⟨r4a, e77, hm78⟩ := bdS (ifT hm48 hc2y)
  refine E z (fc call205 z (W_w0a (B := w0.z) e77 (lt_ (lt_ (lt_ h13.size h11.size) h10.size) h12.size) (repS.mono (((h1c.ext h11).chg h10 (lg h49)).chg h12 (lg (mem1 hBw))) (lt_ hBw (Nat.le_of_lt (Blk.lt hB1)))) (repS.mono ((((p1_1.ext h13).ext h11).chg h10 (lg h49)).chg h12 (lg (mem1 hBw))) (lt_ hBw (Nat.le_of_lt (Blk.lt hB1)))) (iA _ _) (h1b.row 0 3 z) (Blk.lt hB1) p3_0 h20)) ?_
  rintro _ w79 ⟨s2z, rfl, h7a, h7b⟩
  have h4b := mmr (Blk.lt hB1)
  refine E0 (fs (cur' := [vI r4a.at_, vI r4a.code]) z_180 z z ((((h16.ext h11).chg h10 (djs (mmr h16.lt))).chg h12 (atp h4b)).ext s2z) z (lb z) (oA z) z) ?_
  rintro _ w7c ⟨h7d, s7e⟩
  have h4c := s7e.one
  refine Wn ?_
  obtain rfl := som hm78
  have h7f : Chg (· ∈ [g1]) w0 w17 := cext (cr [g1] w0) h13
  have h7g : Chg (· ∈ [g1]) w0 w19 := cext h7f h11
  have h7h : ∀ k ∈ [w17.z], k ∈ [g1] ∨ w0.z ≤ k := mor h13.size
  have h7i : Chg (· ∈ [g1]) w0 w1a := cM h7g h10 h7h
  have h7j : Chg (· ∈ [g1]) w0 w15 := cM h7i h12 (io sr)
  have h7k : Chg (· ∈ [g1]) w0 w79 := cext h7j s2z
  have h7l : ∀ k ∈ [w0.z], k ∈ [g1] ∨ w0.z ≤ k := mor lr
  have h7m : Chg (· ∈ [g1]) w0 w7c := cM h7k h4c h7l
  exact Wr (rtO (ret1 hr (resC g_180 z_180 z h7d z) ⟨h7m, z, h7a, h7b, (iA _ _), ((h1b.ext s2z).chg h4c (djs h4b))⟩))
 have hm4d := ifF hm48 hc2y
 refine Ws (R z (eql z z) (Ra z (Wn (Wc z (fun hc30 => ?_) (fun hc30 => ?_)))))
 ·refine Ws (Rm z (R z (fd f_80_7 z) (R z (l1 g_78 z fid (h1g.at z)) ?_)))
  obtain ⟨x137, e7n, hm7o⟩ := bdS (ifT hm4d hc30)
  have h31 := mem1le (lt_ (lt_ hBw (Nat.le_of_lt (Blk.lt hB1))) h13.size)
  refine RX z (at_ (α := Int) d_78 z_3 z z z (((h1n.ext h11).chg h10 (lg h31)).chg h12 (lg (mem1 hBw))) e7n) ?_
  rintro _ ⟨b138, o139, cs13a, rfl, h7p, h7q, h13b⟩
  obtain ⟨rfl, h7r⟩ := Int_open h7q
  refine R z (l1 g_3 z fid (h7p.at0 z)) (Rm z ?_)
  have h4e := ((h1c.ext h11).chg h10 (lg h31)).chg h12 (lg (mem1 hBw))
  have h4f := (((p1_1.ext h13).ext h11).chg h10 (lg h31)).chg h12 (lg (mem1 hBw))
  obtain ⟨r13c, r24, r13d, e7s, hm4g⟩ := bd3S hm7o
  refine E z (fc call203 z (W_w0g (B := B) e7s h1b hBw h4e h4f (iA _ _) h7r p3_0)) ?_
  rintro _ w2g ⟨s1h, rfl, h7t, h4h, h7u, h32, h4i⟩
  refine Rm z (R z (ext_ z z) (R z (ext_ z z) (E z (fa zero_180) ?_)))
  rintro _ w33 ⟨rfl, h4j⟩
  have h1k := h4j.below
  have h7v : Blk w33 w2g.z [vI 0, vI 0] := h4j.blk
  refine Ra z (E0 (fs (cur' := [vI r24.at_, vI r24.code]) z_180 z z h7v z (lb z) (oA z) z) ?_)
  rintro _ w4k ⟨h34, s7w⟩
  have h1l := s7w.one
  refine Wn (Wq (Ws (R z (fd f_180_1 z) (R z (l1 g_3 z fid (h34.at z)) (R z (nq z z) (Wn (Wc z (fun hc35 => ?_) (fun hc35 => ?_))))))))
  ·refine Ws (R z (lN (vs := [vI r24.at_, vI r24.code]) g_180 z_180 z z fid (h34.row 0 2 z)) ?_)
   have h36 := mmr (Blk.lt hB1)
   have h7x := (((((h16.ext h11).chg h10 (djs (mmr h16.lt))).chg h12 (atp h36)).chg s1h (atp h36)).ext h1k).chg h1l (djs (mm1 h16.lt (lt_ (lt_ (lt_ h11.size h10.size) h12.size) s1h.size)))
   refine E0 (fs (cur' := [vI r24.at_, vI r24.code]) z_180 z z h7x z (lb z) (oA z) z) ?_
   rintro _ w7y ⟨h7z, s80⟩
   have h4l := s80.one
   refine Wn ?_
   obtain rfl := som (ifT hm4g hc35)
   have h81 : Chg (· ∈ [g1]) w0 w17 := cext (cr [g1] w0) h13
   have h82 : Chg (· ∈ [g1]) w0 w19 := cext h81 h11
   have h83 : ∀ k ∈ [w17.z], k ∈ [g1] ∨ w0.z ≤ k := mor h13.size
   have h84 : Chg (· ∈ [g1]) w0 w1a := cM h82 h10 h83
   have h85 : Chg (· ∈ [g1]) w0 w15 := cM h84 h12 (io sr)
   have h86 : Chg (· ∈ [g1]) w0 w2g := cM h85 s1h (io sr)
   have h87 : Chg (· ∈ [g1]) w0 w33 := cext h86 h1k
   have h4m := lt_ (lt_ (lt_ (lt_ h13.size h11.size) h10.size) h12.size) s1h.size
   have h88 : ∀ k ∈ [w2g.z], k ∈ [g1] ∨ w0.z ≤ k := mor h4m
   have h89 : Chg (· ∈ [g1]) w0 w4k := cM h87 h1l h88
   have h8a : ∀ k ∈ [w0.z], k ∈ [g1] ∨ w0.z ≤ k := mor lr
   have h8b : Chg (· ∈ [g1]) w0 w7y := cM h89 h4l h8a
   exact Wr (rtO (ret1 hr (resC g_180 z_180 z h7z z) ⟨h8b, z, h4h, h7u, h32, (((h4i.ext h1k).chg h1l (djs (mm1 (Blk.lt hB1) h4m))).chg h4l (djs h36))⟩))
  refine Wk (Ws (Rm z (R z (fd f_180_0 z) (R z (l1 g_3 z fid (h34.at z)) (Rm z ?_)))))
  have h2m := lt_ (lt_ (lt_ (lt_ h13.size h11.size) h10.size) h12.size) s1h.size
  have h4n := (h4i.ext h1k).chg h1l (djs (mm1 (Blk.lt hB1) h2m))
  have h4o := mem1le (lt_ (lt_ hBw (Nat.le_of_lt (Blk.lt hB1))) h2m)
  obtain ⟨r4p, e8c, hm8d⟩ := bdS (ifF hm4g hc35)
  refine E z (fc call205 z (W_w0a (B := w0.z) e8c (lt_ (lt_ h2m h1k.size) h1l.size) (repS.mono (((h4e.chg s1h (lg (mem1 hBw))).ext h1k).chg h1l (lg h4o)) (lt_ hBw (Nat.le_of_lt (Blk.lt hB1)))) (repS.mono (((h4f.chg s1h (lg (mem1 hBw))).ext h1k).chg h1l (lg h4o)) (lt_ hBw (Nat.le_of_lt (Blk.lt hB1)))) h32 (h4n.row 0 3 z) (Blk.lt hB1) h4h h7t)) ?_
  rintro _ w8e ⟨s37, rfl, h8f, h8g⟩
  have h38 := mmr (Blk.lt hB1)
  have h8h := (((((h16.ext h11).chg h10 (djs (mmr h16.lt))).chg h12 (atp h38)).chg s1h (atp h38)).ext h1k).chg h1l (djs (mm1 h16.lt (lt_ (lt_ (lt_ h11.size h10.size) h12.size) s1h.size)))
  refine E0 (fs (cur' := [vI r4p.at_, vI r4p.code]) z_180 z z (h8h.ext s37) z (lb z) (oA z) z) ?_
  rintro _ w8i ⟨h8j, s8k⟩
  have h4q := s8k.one
  refine Wn ?_
  obtain rfl := som hm8d
  have h8l : Chg (· ∈ [g1]) w0 w17 := cext (cr [g1] w0) h13
  have h8m : Chg (· ∈ [g1]) w0 w19 := cext h8l h11
  have h8n : ∀ k ∈ [w17.z], k ∈ [g1] ∨ w0.z ≤ k := mor h13.size
  have h8o : Chg (· ∈ [g1]) w0 w1a := cM h8m h10 h8n
  have h8p : Chg (· ∈ [g1]) w0 w15 := cM h8o h12 (io sr)
  have h8q : Chg (· ∈ [g1]) w0 w2g := cM h8p s1h (io sr)
  have h8r : Chg (· ∈ [g1]) w0 w33 := cext h8q h1k
  have h8s : ∀ k ∈ [w2g.z], k ∈ [g1] ∨ w0.z ≤ k := mor h2m
  have h8t : Chg (· ∈ [g1]) w0 w4k := cM h8r h1l h8s
  have h8u : Chg (· ∈ [g1]) w0 w8e := cext h8t s37
  have h8v : ∀ k ∈ [w0.z], k ∈ [g1] ∨ w0.z ≤ k := mor lr
  have h8w : Chg (· ∈ [g1]) w0 w8i := cM h8u h4q h8v
  exact Wr (rtO (ret1 hr (resC g_180 z_180 z h8j z) ⟨h8w, z, h8f, h8g, h32, ((h4n.ext s37).chg h4q (djs h38))⟩))
 have hm4r := ifF hm4d hc30
 refine Ws (R z (eql z z) (Ra z (Wn (Wc z (fun hc39 => ?_) (fun hc39 => ?_)))))
 ·refine Ws (Rm z (R z (lN (vs := (vR x14 a1p n1q c1r a1s n1t c1u a1v n1w c1x a1d n1e c1f)) g_80 z_80 z z fid (h1g.row 0 8 z)) (Rm z ?_)))
  have h25 := mem1le (lt_ (lt_ hBw (Nat.le_of_lt (Blk.lt hB1))) h13.size)
  obtain ⟨r4s, r13e, e8x, hm8y⟩ := bd2S (ifT hm4r hc39)
  refine E z (fc call206 z (ih1.run (B := B) e8x h1b hBw (((h1c.ext h11).chg h10 (lg h25)).chg h12 (lg (mem1 hBw))) ((((p1_1.ext h13).ext h11).chg h10 (lg h25)).chg h12 (lg (mem1 hBw))) (iA _ _) h2c h2d h20 (((h21.ext h11).chg h10 (lg h25)).chg h12 (lg (mem1 hBw))) (((h2e.ext h11).chg h10 (lg h25)).chg h12 (lg (mem1 hBw))) (((h2f.ext h11).chg h10 (lg h25)).chg h12 (lg (mem1 hBw))) (((h1n.ext h11).chg h10 (lg h25)).chg h12 (lg (mem1 hBw))) p3_0)) ?_
  rintro _ w8z ⟨s4t, rfl, h90, h91, h92, h93⟩
  have h3a := mmr (Blk.lt hB1)
  refine E0 (fs (cur' := [vI r4s.at_, vI r4s.code]) z_180 z z ((((h16.ext h11).chg h10 (djs (mmr h16.lt))).chg h12 (atp h3a)).chg s4t (atp h3a)) z (lb z) (oA z) z) ?_
  rintro _ w94 ⟨h95, s96⟩
  have h4u := s96.one
  refine Wn ?_
  obtain rfl := som hm8y
  have h97 : Chg (· ∈ [g1]) w0 w17 := cext (cr [g1] w0) h13
  have h98 : Chg (· ∈ [g1]) w0 w19 := cext h97 h11
  have h99 : ∀ k ∈ [w17.z], k ∈ [g1] ∨ w0.z ≤ k := mor h13.size
  have h9a : Chg (· ∈ [g1]) w0 w1a := cM h98 h10 h99
  have h9b : Chg (· ∈ [g1]) w0 w15 := cM h9a h12 (io sr)
  have h9c : Chg (· ∈ [g1]) w0 w8z := cM h9b s4t (io sr)
  have h9d : ∀ k ∈ [w0.z], k ∈ [g1] ∨ w0.z ≤ k := mor lr
  have h9e : Chg (· ∈ [g1]) w0 w94 := cM h9c h4u h9d
  exact Wr (rtO (ret1 hr (resC g_180 z_180 z h95 z) ⟨h9e, z, h90, h91, h92, (h93.chg h4u (djs h3a))⟩))
 have hm4v := ifF hm4r hc39
 refine Ws (R z (eql z z) (Ra z (Wn (Wc z (fun hc3b => ?_) (fun hc3b => ?_)))))
 ·refine Ws (Rm z (R z (bP (parts := [(0, (.tmp 88)), (1, (.const (.int .i64 0)))]) (cs := [vI x3, vI 0]) build_180 z z) (E z (fa zero_180) ?_)))
  rintro _ w4w ⟨rfl, h4x⟩
  have h1y := h4x.below
  have h9f : Blk w4w w15.z [vI 0, vI 0] := h4x.blk
  refine E0 (fs (cur' := [vI x3, vI 0]) z_180 z z h9f z (lb z) (oA z) z) ?_
  rintro _ w18 ⟨h9g, s9h⟩
  have h1z := s9h.one
  refine Wn (Wq (Ws (R z (fd f_80_7 z) (R z (l1 g_78 z fid (((h1g.ext h1y).chg h1z (djs (mm1 h3u.lt (lt_ h10.size h12.size)))).at z)) ?_))))
  have h3c := mem1le (lt_ (lt_ hBw (Nat.le_of_lt (Blk.lt hB1))) h13.size)
  have h2n := lt_ (lt_ (lt_ h13.size h11.size) h10.size) h12.size
  have h26 := mem1le (lt_ (lt_ hBw (Nat.le_of_lt (Blk.lt hB1))) h2n)
  have h4y := ((((h1n.ext h11).chg h10 (lg h3c)).chg h12 (lg (mem1 hBw))).ext h1y).chg h1z (lg h26)
  refine R z (lnR d_78 z h4y) (Rm z (Wn ?_))
  obtain ⟨u13f, hu9i, hm4z⟩ := bdS (ifT hm4v hc3b)
  refine WC_forN (σ := Int × Int × Int) (ρ := Spot × Int) (fun (k3d : Nat) s a w => un3 (fun x1o x1i x1j => Sat 145 [(0, pt g1), (6, pt w0.z), (12, pt w15.z), (91, sl a1d n1e c1f), (92, vI (x14.kids.length : Int)), (93, (vI ((k3d : Nat) : Int)))] a ∧ Chg (· ∈ ([g1] ++ [w15.z])) w18 w ∧ inI x1o ∧ inI x1i ∧ inI x1j ∧ Blk w g1 [sl A0 N0 C0, sl A6 N6 C6, vI x1o] ∧ Blk w w15.z [vI x1i, vI x1j]) s) (fun s a w => un3 (fun x1o x1i x1j => Sat 145 [(6, pt w0.z), (12, pt w15.z)] a ∧ Chg (· ∈ ([g1] ++ [w15.z])) w18 w ∧ inI x1o ∧ inI x1i ∧ inI x1j ∧ Blk w g1 [sl A0 N0 C0, sl A6 N6 C6, vI x1o] ∧ Blk w w15.z [vI x1i, vI x1j]) s) (fun r ex a w => ex = .ret ∧ RetPost prog fn (Q25 w0 g1 B A0 N0 C0 A6 N6 C6 x1 r) a w) hu9i ?_ ?_ ?_ ?_ ?_
  ·exact fun _ q => ⟨(q.k (s6 z z z z z z)), (cr ([g1] ++ [w15.z]) w18), (iA _ _), p3_0, (ii z), ((h1b.ext h1y).chg h1z (djs (mm1 (Blk.lt hB1) h2n))), h9g⟩
  ·rintro k3d ⟨x1o, x1i, x1j⟩ a13g w50 o13h hk51 ⟨hS9j, s2h, h2i, h2j, h2o, h2k, h27⟩ hm9k
   have hm9l := un3S hm9k
   refine Wu ?_ hS9j
   refine Ws (R z (lss z z) (Wn (Wq (Wc z (fun _ => ?_) (fun hc => (nolt hk51 hc).elim)))))
   refine Wk (Wq (WC_block (Ws ?_)))
   obtain ⟨x13i, e9m, hm9n⟩ := bdS hm9l
   refine RX z (at_ (α := Int) d_78 z_3 z z z (h4y.chg s2h (nmA (lg (mem1 hBw)) (lg h26))) e9m) ?_
   rintro _ ⟨b13j, o13k, cs13l, rfl, h9o, h9p, h13m⟩
   obtain ⟨rfl, h9q⟩ := Int_open h9p
   refine R z (l1 g_3 z fid (h9o.at0 z)) (Ra z (Wn (Ws (Rm z (Rm z (R z (fd f_180_0 z) (R z (l1 g_3 z fid (h27.at z)) ?_)))))))
   obtain ⟨r2p, r9r, e9s, hm52⟩ := bd2S hm9n
   refine E z (fc call173 z (ih0.run (B := B) e9s h2k hBw ((((((h1c.ext h11).chg h10 (lg h3c)).chg h12 (lg (mem1 hBw))).ext h1y).chg h1z (lg h26)).chg s2h (nmA (lg (mem1 hBw)) (lg h26))) (((((((p1_1.ext h13).ext h11).chg h10 (lg h3c)).chg h12 (lg (mem1 hBw))).ext h1y).chg h1z (lg h26)).chg s2h (nmA (lg (mem1 hBw)) (lg h26))) h2i h9q h2j)) ?_
   rintro _ w53 ⟨s3e, rfl, h54, h55, h56, h57⟩
   have h3f := mm1 (Blk.lt hB1) h2n
   refine E0 (fs (cur' := [vI r2p.at_, vI r2p.code]) z_180 z z (h27.chg s3e (atp h3f)) z (lb z) (oA z) z) ?_
   rintro _ w58 ⟨h3g, s9t⟩
   have h2q := s9t.one
   refine Wn (Ws (R z (fd f_180_1 z) (R z (l1 g_3 z fid (h3g.at z)) (R z (nq z z) (Wn (Wc z (fun hc3h => ?_) (fun hc3h => ?_)))))))
   ·have h9u : Chg (· ∈ ([g1] ++ [w15.z])) w18 w50 := cM (cr ([g1] ++ [w15.z]) w18) s2h (all_app (io (sub_l sr)) (io (sub_r sr)))
    have h9v : Chg (· ∈ ([g1] ++ [w15.z])) w18 w53 := cM h9u s3e (io (sub_l sr))
    have h9w : Chg (· ∈ ([g1] ++ [w15.z])) w18 w58 := cM h9v h2q (io (sub_r sr))
    exact WC_exit (exO z (fun a' ha' => QO_brk (som (ifT hm52 hc3h)).symm ⟨(Sat.weaken ha' (s2 z z)), h9w, h56, h54, h55, (h57.chg h2q (djs h3f)), h3g⟩))
   refine Wk (Wg (R z (inc_ hk51 (lt_ (repS.len h1n) LEN_le) z z) (Rm z (Wl ?_))))
   have h9x : Chg (· ∈ ([g1] ++ [w15.z])) w18 w50 := cM (cr ([g1] ++ [w15.z]) w18) s2h (all_app (io (sub_l sr)) (io (sub_r sr)))
   have h9y : Chg (· ∈ ([g1] ++ [w15.z])) w18 w53 := cM h9x s3e (io (sub_l sr))
   have h9z : Chg (· ∈ ([g1] ++ [w15.z])) w18 w58 := cM h9y h2q (io (sub_r sr))
   exact fun _ q => ⟨(r9r, r2p.at_, r2p.code), (som (ifF hm52 hc3h)).symm, ⟨(q.k (s6 z z z z z z)), h9z, h56, h54, h55, (h57.chg h2q (djs h3f)), h3g⟩⟩
  ·rintro ⟨x1o, x1i, x1j⟩ a13n w100 ⟨hS101, s102, h2i, h2j, h2o, h2k, h27⟩
   refine Wu ?_ hS101
   refine Ws (R z (lss z z) (Wn (Wq (Wc z (fun hc => (noltt hc).elim) (fun _ => ?_)))))
   have h103 : Chg (· ∈ ([g1] ++ [w15.z])) w18 w100 := cM (cr ([g1] ++ [w15.z]) w18) s102 (all_app (io (sub_l sr)) (io (sub_r sr)))
   exact WC_exit (fun a' ha' => ⟨rfl, ⟨(Sat.weaken ha' (s2 z z)), h103, h2i, h2j, h2o, h2k, h27⟩⟩)
  ·rintro ⟨x1o, x1i, x1j⟩ a104 w105 rfl ⟨hS13o, s59, h2i, h2j, h2o, h2k, h27⟩
   have hm106 := elL hm4z
   have hm107 := un3S hm106
   revert a104
   refine Wo (Ws (R z (lN (vs := [vI x1i, vI x1j]) g_180 z_180 z z fid (h27.row 0 2 z)) ?_))
   have h3i := mmr (Blk.lt hB1)
   have h5a := mm1 h16.lt (lt_ (lt_ h11.size h10.size) h12.size)
   have h108 := (((((h16.ext h11).chg h10 (djs (mmr h16.lt))).chg h12 (atp h3i)).ext h1y).chg h1z (djs h5a)).chg s59 (atp (nmA h3i (dj_symm h5a)))
   refine E0 (fs (cur' := [vI x1i, vI x1j]) z_180 z z h108 z (lb z) (oA z) z) ?_
   rintro _ w109 ⟨h10a, s10b⟩
   have h5b := s10b.one
   refine Wn ?_
   obtain rfl := som hm107
   have h10c : Chg (· ∈ [g1]) w0 w17 := cext (cr [g1] w0) h13
   have h10d : Chg (· ∈ [g1]) w0 w19 := cext h10c h11
   have h10e : ∀ k ∈ [w17.z], k ∈ [g1] ∨ w0.z ≤ k := mor h13.size
   have h10f : Chg (· ∈ [g1]) w0 w1a := cM h10d h10 h10e
   have h10g : Chg (· ∈ [g1]) w0 w15 := cM h10f h12 (io sr)
   have h10h : Chg (· ∈ [g1]) w0 w4w := cext h10g h1y
   have h5c : ∀ k ∈ [w15.z], k ∈ [g1] ∨ w0.z ≤ k := mor h2n
   have h10i : Chg (· ∈ [g1]) w0 w18 := cM h10h h1z h5c
   have h10j : Chg (· ∈ [g1]) w0 w105 := cM h10i s59 (all_app (io sr) h5c)
   have h10k : ∀ k ∈ [w0.z], k ∈ [g1] ∨ w0.z ≤ k := mor lr
   have h10l : Chg (· ∈ [g1]) w0 w109 := cM h10j h5b h10k
   exact Wr (rtO (ret1 hr (resC g_180 z_180 z h10a z) ⟨h10l, z, h2j, h2o, h2i, (h2k.chg h5b (djs h3i))⟩))
  rintro r13p ex13q a13r w13s rfl ⟨rfl, hq10m⟩
  have hm10n := elR hm4z
  obtain rfl := som hm10n
  exact ⟨hq10m, z⟩
 have hm5d := ifF hm4v hc3b
 refine Ws (R z (eql z z) (Ra z (Wn (Wc z (fun hc3j => ?_) (fun hc3j => ?_)))))
 ·refine Ws (Rm z (R z (lN (vs := (vR x14 a1p n1q c1r a1s n1t c1u a1v n1w c1x a1d n1e c1f)) g_80 z_80 z z fid (h1g.row 0 8 z)) (Rm z ?_)))
  have h28 := mem1le (lt_ (lt_ hBw (Nat.le_of_lt (Blk.lt hB1))) h13.size)
  obtain ⟨r5e, r13t, e10o, hm10p⟩ := bd2S (ifT hm5d hc3j)
  refine E z (fc call207 z (ih2.run (B := B) e10o h1b hBw (((h1c.ext h11).chg h10 (lg h28)).chg h12 (lg (mem1 hBw))) ((((p1_1.ext h13).ext h11).chg h10 (lg h28)).chg h12 (lg (mem1 hBw))) (iA _ _) h2c h2d h20 (((h21.ext h11).chg h10 (lg h28)).chg h12 (lg (mem1 hBw))) (((h2e.ext h11).chg h10 (lg h28)).chg h12 (lg (mem1 hBw))) (((h2f.ext h11).chg h10 (lg h28)).chg h12 (lg (mem1 hBw))) (((h1n.ext h11).chg h10 (lg h28)).chg h12 (lg (mem1 hBw))) p3_0)) ?_
  rintro _ w10q ⟨s5f, rfl, h10r, h10s, h10t, h10u⟩
  have h3k := mmr (Blk.lt hB1)
  refine E0 (fs (cur' := [vI r5e.at_, vI r5e.code]) z_180 z z ((((h16.ext h11).chg h10 (djs (mmr h16.lt))).chg h12 (atp h3k)).chg s5f (atp h3k)) z (lb z) (oA z) z) ?_
  rintro _ w10v ⟨h10w, s10x⟩
  have h5g := s10x.one
  refine Wn ?_
  obtain rfl := som hm10p
  have h10y : Chg (· ∈ [g1]) w0 w17 := cext (cr [g1] w0) h13
  have h10z : Chg (· ∈ [g1]) w0 w19 := cext h10y h11
  have h110 : ∀ k ∈ [w17.z], k ∈ [g1] ∨ w0.z ≤ k := mor h13.size
  have h111 : Chg (· ∈ [g1]) w0 w1a := cM h10z h10 h110
  have h112 : Chg (· ∈ [g1]) w0 w15 := cM h111 h12 (io sr)
  have h113 : Chg (· ∈ [g1]) w0 w10q := cM h112 s5f (io sr)
  have h114 : ∀ k ∈ [w0.z], k ∈ [g1] ∨ w0.z ≤ k := mor lr
  have h115 : Chg (· ∈ [g1]) w0 w10v := cM h113 h5g h114
  exact Wr (rtO (ret1 hr (resC g_180 z_180 z h10w z) ⟨h115, z, h10r, h10s, h10t, (h10u.chg h5g (djs h3k))⟩))
 have hm5h := ifF hm5d hc3j
 refine Ws (R z (eql z z) (Ra z (Wn (Wc z (fun hc3l => ?_) (fun hc3l => ?_)))))
 ·refine Ws (Rm z (R z (lN (vs := (vR x14 a1p n1q c1r a1s n1t c1u a1v n1w c1x a1d n1e c1f)) g_80 z_80 z z fid (h1g.row 0 8 z)) (Rm z ?_)))
  have h29 := mem1le (lt_ (lt_ hBw (Nat.le_of_lt (Blk.lt hB1))) h13.size)
  obtain ⟨r5i, r13u, e116, hm117⟩ := bd2S (ifT hm5h hc3l)
  refine E z (fc call208 z (ih3.run (B := B) e116 h1b hBw (((h1c.ext h11).chg h10 (lg h29)).chg h12 (lg (mem1 hBw))) ((((p1_1.ext h13).ext h11).chg h10 (lg h29)).chg h12 (lg (mem1 hBw))) (iA _ _) h2c h2d h20 (((h21.ext h11).chg h10 (lg h29)).chg h12 (lg (mem1 hBw))) (((h2e.ext h11).chg h10 (lg h29)).chg h12 (lg (mem1 hBw))) (((h2f.ext h11).chg h10 (lg h29)).chg h12 (lg (mem1 hBw))) (((h1n.ext h11).chg h10 (lg h29)).chg h12 (lg (mem1 hBw))) p3_0)) ?_
  rintro _ w118 ⟨s5j, rfl, h119, h11a, h11b, h11c⟩
  have h3m := mmr (Blk.lt hB1)
  refine E0 (fs (cur' := [vI r5i.at_, vI r5i.code]) z_180 z z ((((h16.ext h11).chg h10 (djs (mmr h16.lt))).chg h12 (atp h3m)).chg s5j (atp h3m)) z (lb z) (oA z) z) ?_
  rintro _ w11d ⟨h11e, s11f⟩
  have h5k := s11f.one
  refine Wn ?_
  obtain rfl := som hm117
  have h11g : Chg (· ∈ [g1]) w0 w17 := cext (cr [g1] w0) h13
  have h11h : Chg (· ∈ [g1]) w0 w19 := cext h11g h11
  have h11i : ∀ k ∈ [w17.z], k ∈ [g1] ∨ w0.z ≤ k := mor h13.size
  have h11j : Chg (· ∈ [g1]) w0 w1a := cM h11h h10 h11i
  have h11k : Chg (· ∈ [g1]) w0 w15 := cM h11j h12 (io sr)
  have h11l : Chg (· ∈ [g1]) w0 w118 := cM h11k s5j (io sr)
  have h11m : ∀ k ∈ [w0.z], k ∈ [g1] ∨ w0.z ≤ k := mor lr
  have h11n : Chg (· ∈ [g1]) w0 w11d := cM h11l h5k h11m
  exact Wr (rtO (ret1 hr (resC g_180 z_180 z h11e z) ⟨h11n, z, h119, h11a, h11b, (h11c.chg h5k (djs h3m))⟩))
 have hm5l := ifF hm5h hc3l
 refine Ws (R z (eql z z) (Ra z (Wn (Wc z (fun hc3n => ?_) (fun hc3n => ?_)))))
 ·refine Ws (Rm z (R z (lN (vs := (vR x14 a1p n1q c1r a1s n1t c1u a1v n1w c1x a1d n1e c1f)) g_80 z_80 z z fid (h1g.row 0 8 z)) (Rm z ?_)))
  have h2a := mem1le (lt_ (lt_ hBw (Nat.le_of_lt (Blk.lt hB1))) h13.size)
  obtain ⟨r5m, r13v, e11o, hm11p⟩ := bd2S (ifT hm5l hc3n)
  refine E z (fc call209 z (ih4.run (B := B) e11o h1b hBw (((h1c.ext h11).chg h10 (lg h2a)).chg h12 (lg (mem1 hBw))) ((((p1_1.ext h13).ext h11).chg h10 (lg h2a)).chg h12 (lg (mem1 hBw))) (iA _ _) h2c h2d h20 (((h21.ext h11).chg h10 (lg h2a)).chg h12 (lg (mem1 hBw))) (((h2e.ext h11).chg h10 (lg h2a)).chg h12 (lg (mem1 hBw))) (((h2f.ext h11).chg h10 (lg h2a)).chg h12 (lg (mem1 hBw))) (((h1n.ext h11).chg h10 (lg h2a)).chg h12 (lg (mem1 hBw))) p3_0)) ?_
  rintro _ w11q ⟨s5n, rfl, h11r, h11s, h11t, h11u⟩
  have h3o := mmr (Blk.lt hB1)
  refine E0 (fs (cur' := [vI r5m.at_, vI r5m.code]) z_180 z z ((((h16.ext h11).chg h10 (djs (mmr h16.lt))).chg h12 (atp h3o)).chg s5n (atp h3o)) z (lb z) (oA z) z) ?_
  rintro _ w11v ⟨h11w, s11x⟩
  have h5o := s11x.one
  refine Wn ?_
  obtain rfl := som hm11p
  have h11y : Chg (· ∈ [g1]) w0 w17 := cext (cr [g1] w0) h13
  have h11z : Chg (· ∈ [g1]) w0 w19 := cext h11y h11
  have h120 : ∀ k ∈ [w17.z], k ∈ [g1] ∨ w0.z ≤ k := mor h13.size
  have h121 : Chg (· ∈ [g1]) w0 w1a := cM h11z h10 h120
  have h122 : Chg (· ∈ [g1]) w0 w15 := cM h121 h12 (io sr)
  have h123 : Chg (· ∈ [g1]) w0 w11q := cM h122 s5n (io sr)
  have h124 : ∀ k ∈ [w0.z], k ∈ [g1] ∨ w0.z ≤ k := mor lr
  have h125 : Chg (· ∈ [g1]) w0 w11v := cM h123 h5o h124
  exact Wr (rtO (ret1 hr (resC g_180 z_180 z h11w z) ⟨h125, z, h11r, h11s, h11t, (h11u.chg h5o (djs h3o))⟩))
 refine Wk (Wq (WC_draw (X := noX) 0 (.rd 0 (.rd 1 (.rd 2 (.rd 3 (.rd 4 (.rd 5 (.rd 6 (.rd 7 (.rd 8 (.ef 9 (.rd 10 (.rd 11 (.rd 12 (.rd 13 (.rd 14 (.rd 15 (.rd 16 .done))))))))))))))))) mo (by kernel_rfl) fun w5p s1m _ => dR z z (mv z) (dR z z (rd_nil z) (dR z z (fd f_202_1 z) ?_))))
 have h3p := h1b.ext s1m
 refine dR z z (l1 g_25 z fid (h3p.at z)) (dR z z (mv z) (dR z z (fd f_80_4 z) (dR z z (l1 g_25 z fid ((h1g.ext s1m).at z)) ?_)))
 obtain ⟨x13w, e126, hm127⟩ := bdS (ifF hm5l hc3n)
 have h5q := mem1le (lt_ (lt_ hBw (Nat.le_of_lt (Blk.lt hB1))) h13.size)
 refine dRX z z (at_ (α := UInt8) d_25 z_5 z z z ((((h21.ext h11).chg h10 (lg h5q)).chg h12 (lg (mem1 hBw))).ext s1m) e126) ?_
 rintro _ ⟨b13x, o13y, cs13z, rfl, h128, h129, h140⟩
 obtain rfl := UInt8_open h129
 refine dR z z (l1 g_5 z fid (h128.at0 z)) ?_
 obtain ⟨r141, r5r, r142, e12a, hm5s⟩ := bd3S hm127
 refine dE z z (fc call197 z (W_w17 (B := B) e12a (lt_ (lt_ hBw (Nat.le_of_lt (Blk.lt hB1))) (lt_ (lt_ (lt_ (lt_ h13.size h11.size) h10.size) h12.size) s1m.size)) (((((p1_1.ext h13).ext h11).chg h10 (lg h5q)).chg h12 (lg (mem1 hBw))).ext s1m) p3_0)) (.inr fun _ _ h => chgB (h.1)) ?_
 rintro _ w5t ⟨s2b, a143, n144, c145, S146, rfl, h147, h12b, h148, h149⟩
 refine dR z z (mv z) ?_
 iterate 3 refine dR z z (ext_ z z) ?_
 iterate 3 refine dR z z (asg z) ?_
 refine PR_done (Wo (Wq (Ws (Rm z (R z (not_ z) (Wn (Wc z (fun hc3q => ?_) (fun hc3q => ?_))))))))
 ·refine Ws (Rm z (R z (bP (parts := [(0, (.tmp 141)), (1, (.const (.int .i64 1)))]) (cs := [vI x3, vI 1]) build_180 z z) ?_))
  have h5u := mmr (Blk.lt hB1)
  refine E0 (fs (cur' := [vI x3, vI 1]) z_180 z z (((((h16.ext h11).chg h10 (djs (mmr h16.lt))).chg h12 (atp h5u)).ext s1m).ext s2b) z (lb z) (oA z) z) ?_
  rintro _ w12c ⟨h12d, s12e⟩
  have h5v := s12e.one
  refine Wn ?_
  obtain rfl := som (ifT hm5s hc3q)
  have h12f : Chg (· ∈ [g1]) w0 w17 := cext (cr [g1] w0) h13
  have h12g : Chg (· ∈ [g1]) w0 w19 := cext h12f h11
  have h12h : ∀ k ∈ [w17.z], k ∈ [g1] ∨ w0.z ≤ k := mor h13.size
  have h12i : Chg (· ∈ [g1]) w0 w1a := cM h12g h10 h12h
  have h12j : Chg (· ∈ [g1]) w0 w15 := cM h12i h12 (io sr)
  have h12k : Chg (· ∈ [g1]) w0 w5p := cext h12j s1m
  have h12l : Chg (· ∈ [g1]) w0 w5t := cext h12k s2b
  have h12m : ∀ k ∈ [w0.z], k ∈ [g1] ∨ w0.z ≤ k := mor lr
  have h12n : Chg (· ∈ [g1]) w0 w12c := cM h12l h5v h12m
  exact Wr (ret1 hr (resC g_180 z_180 z h12d z) ⟨h12n, z, p3_0, (ii z), (iA _ _), ((h3p.ext s2b).chg h5v (djs h5u))⟩)
 refine Wk (Ws (Rm z (R z (bP (parts := [(0, (.tmp 143)), (1, (.const (.int .i64 0)))]) (cs := [vI r5r, vI 0]) build_180 z z) ?_)))
 have h5w := mmr (Blk.lt hB1)
 refine E0 (fs (cur' := [vI r5r, vI 0]) z_180 z z (((((h16.ext h11).chg h10 (djs (mmr h16.lt))).chg h12 (atp h5w)).ext s1m).ext s2b) z (lb z) (oA z) z) ?_
 rintro _ w12o ⟨h12p, s12q⟩
 have h5x := s12q.one
 refine Wn ?_
 obtain rfl := som (ifF hm5s hc3q)
 have h12r : Chg (· ∈ [g1]) w0 w17 := cext (cr [g1] w0) h13
 have h12s : Chg (· ∈ [g1]) w0 w19 := cext h12r h11
 have h12t : ∀ k ∈ [w17.z], k ∈ [g1] ∨ w0.z ≤ k := mor h13.size
 have h12u : Chg (· ∈ [g1]) w0 w1a := cM h12s h10 h12t
 have h12v : Chg (· ∈ [g1]) w0 w15 := cM h12u h12 (io sr)
 have h12w : Chg (· ∈ [g1]) w0 w5p := cext h12v s1m
 have h12x : Chg (· ∈ [g1]) w0 w5t := cext h12w s2b
 have h12y : ∀ k ∈ [w0.z], k ∈ [g1] ∨ w0.z ≤ k := mor lr
 have h12z : Chg (· ∈ [g1]) w0 w12o := cM h12x h5x h12y
 exact Wr (ret1 hr (resC g_180 z_180 z h12p z) ⟨h12z, z, h12b, (ii z), (iA _ _), ((h3p.ext s2b).chg h5x (djs h5w))⟩)
theorem T_w1d (ih : I_impl_checker_value n) : S_impl_checker_array (B_impl_checker_array n (F_impl_checker_value n)) := by
 obtain ⟨ih0, ih1, ih2, ih3, ih4⟩ := ih
 constructor
 intro B N0 C0 N6 C6 g1 N2 C2 N3 C3 N1 C1 N4 C4 A0 A6 A2 A3 A1 A4 x1 x2 x3 res w0 hm hB1 hBw p1_0 p1_1 p1_2 p2_0 p2_1 p2_2 p2_4 p2_5 p2_6 p2_7 p3_0
 unfold B_impl_checker_array at hm
 refine goF func206 z z (lb z) fun fn hr => Ws (E z (fb z) ?_)
 rintro _ w15 ⟨rfl, h20⟩
 have h12 := h20.below
 have h21 : Blk w15 w0.z (vR x2 A2 N2 C2 A3 N3 C3 A1 N1 C1 A4 N4 C4) := h20.blk
 refine E z (fa zero_180) ?_
 rintro _ w1r ⟨rfl, h22⟩
 have h14 := h22.below
 have h1m : Blk w1r w15.z [vI 0, vI 0] := h22.blk
 refine Wn (Ws (Rm z (R z (fd f_80_7 z) ?_)))
 have h23 := h21.ext h14
 refine R z (l1 g_78 z fid (h23.at z)) ?_
 obtain ⟨x50, e2x, hm2y⟩ := bdS hm
 have h24 := (p2_7.ext h12).ext h14
 refine RX z (at_ (α := Int) d_78 z_3 z z z h24 e2x) ?_
 rintro _ ⟨b51, o52, cs53, rfl, h2z, h30, h54⟩
 obtain ⟨rfl, h31⟩ := Int_open h30
 refine R z (l1 g_3 z fid (h2z.at0 z)) (Rm z ?_)
 have h25 := (p1_0.ext h12).ext h14
 have h26 := (p1_1.ext h12).ext h14
 obtain ⟨r27, r1s, r55, e32, hm33⟩ := bd3S hm2y
 refine E z (fc call203 z (W_w0g (B := B) e32 ((hB1.ext h12).ext h14) hBw h25 h26 p1_2 h31 p3_0)) ?_
 rintro _ w10 ⟨s11, rfl, h34, h35, h36, h28, h29⟩
 refine Rm z (R z (ext_ z z) (R z (ext_ z z) (E z (fa zero_180) ?_)))
 rintro _ w1t ⟨rfl, h2a⟩
 have h17 := h2a.below
 have h37 : Blk w1t w10.z [vI 0, vI 0] := h2a.blk
 refine Ra z (E0 (fs (cur' := [vI r1s.at_, vI r1s.code]) z_180 z z h37 z (lb z) (oA z) z) ?_)
 rintro _ w1h ⟨h2b, s38⟩
 have h18 := s38.one
 refine Wn (Wq (Wq ?_))
 obtain ⟨u39, hu2c, hm2d⟩ := bdS hm33
 refine WC_cut (fun a w => ∃ (x1u : Bool), x1u = u39 ∧ Sat 46 [(0, pt g1), (2, vI x3), (4, pt w0.z), (6, pt w15.z), (7, vI r27), (8, pt w10.z), (25, vB x1u)] a ∧ Below w1h.z w1h w) ?_ ?_
 ·refine Wg (R z (fd f_180_1 z) (R z (l1 g_3 z fid (h2b.at z)) (R z (eql z z) (Rm z ?_))))
  rcases bs (r1s.code == 0) with hc1c | hc1c
  ·exact Rh z hc1c (mv z) (Rh z hc1c (rd_gtr z z) (R z (pT z hc1c z) (Wl (fun _ q => ⟨decide (40 < r27), som (ifT hu2c hc1c), (q.k (s7 z z z z z z z)), (br w1h)⟩))))
  exact Nh z hc1c (Nh z hc1c (R z (pF z hc1c z) (Wl (fun _ q => ⟨false, som (ifF hu2c hc1c), (q.k (s7 z z z z z z z)), (br w1h)⟩))))
 rintro a3a w13 ⟨x1u, rfl, hS56, s16⟩
 revert a3a
 refine Wo (Wc z (fun hc1v => ?_) (fun hc1v => ?_))
 ·refine Ws (Rm z (R z (bP (parts := [(0, (.tmp 26)), (1, (.const (.int .i64 6)))]) (cs := [vI x3, vI 6]) build_180 z z) ?_))
  have h2e := mm1 (Blk.lt hB1) h12.size
  refine E0 (fs (cur' := [vI x3, vI 6]) z_180 z z ((((h1m.chg s11 (atp h2e)).ext h17).chg h18 (djs (mm1 h1m.lt s11.size))).ext s16) z (lb z) (oA z) z) ?_
  rintro _ w3b ⟨h3c, s3d⟩
  have h2f := s3d.one
  refine Wn ?_
  obtain rfl := som (ifT hm2d hc1v)
  have h3e : Chg (· ∈ [g1]) w0 w15 := cext (cr [g1] w0) h12
  have h3f : Chg (· ∈ [g1]) w0 w1r := cext h3e h14
  have h3g : Chg (· ∈ [g1]) w0 w10 := cM h3f s11 (io sr)
  have h3h : Chg (· ∈ [g1]) w0 w1t := cext h3g h17
  have h2g := lt_ (lt_ h12.size h14.size) s11.size
  have h3i : ∀ k ∈ [w10.z], k ∈ [g1] ∨ w0.z ≤ k := mor h2g
  have h3j : Chg (· ∈ [g1]) w0 w1h := cM h3h h18 h3i
  have h3k : Chg (· ∈ [g1]) w0 w13 := cext h3j s16
  have h3l : ∀ k ∈ [w15.z], k ∈ [g1] ∨ w0.z ≤ k := mor h12.size
  have h3m : Chg (· ∈ [g1]) w0 w3b := cM h3k h2f h3l
  exact Wr (ret1 hr (resC g_180 z_180 z h3c z) ⟨h3m, z, p3_0, (ii z), h28, ((((h29.ext h17).chg h18 (djs (mm1 (Blk.lt hB1) h2g))).ext s16).chg h2f (djs h2e))⟩)
 refine Wk (Wq ?_)
 obtain ⟨u57, hu3n, hm2h⟩ := bdS (ifF hm2d hc1v)
 refine WC_iter (σ := Int × Int × Int × Int) (ρ := Spot × Int) (fun s a w => un4 (fun x19 x1f x1d x1a => Sat 46 [(0, pt g1), (4, pt w0.z), (6, pt w15.z), (7, vI x19), (8, pt w10.z)] a ∧ Chg (· ∈ ([g1] ++ [w10.z])) w13 w ∧ inI x19 ∧ inI x1f ∧ inI x1d ∧ inI x1a ∧ Blk w g1 [sl A0 N0 C0, sl A6 N6 C6, vI x1f] ∧ Blk w w10.z [vI x1d, vI x1a]) s) (fun s a w => un4 (fun x19 x1f x1d x1a => Sat 46 [(6, pt w15.z), (8, pt w10.z)] a ∧ Chg (· ∈ ([g1] ++ [w10.z])) w13 w ∧ inI x19 ∧ inI x1f ∧ inI x1d ∧ inI x1a ∧ Blk w g1 [sl A0 N0 C0, sl A6 N6 C6, vI x1f] ∧ Blk w w10.z [vI x1d, vI x1a]) s) (fun r ex a w => ex = .ret ∧ RetPost prog fn (Q25 w0 g1 B A0 N0 C0 A6 N6 C6 x1 r) a w) hu3n ?_ ?_ ?_ ?_
 ·exact fun _ q => ⟨(q.k (s5 z z z z z)), (cr ([g1] ++ [w10.z]) w13), h34, h28, h35, h36, (((h29.ext h17).chg h18 (djs (mm1 (Blk.lt hB1) (lt_ (lt_ h12.size h14.size) s11.size)))).ext s16), (h2b.ext s16)⟩
 ·rintro ⟨x19, x1f, x1d, x1a⟩ a58 w1i o59 ⟨hS3o, s1j, h2i, h1n, h1o, h1w, h1p, h1l⟩ hm3p
  have hm3q := un4S hm3p
  refine Wu ?_ hS3o
  refine Wq (Wq ?_)
  obtain ⟨u3r, hu2j, hm2k⟩ := bdS hm3q
  refine WC_cut (fun a w => ∃ (x1x : Bool), x1x = u3r ∧ Sat 46 [(0, pt g1), (4, pt w0.z), (6, pt w15.z), (7, vI x19), (8, pt w10.z), (34, vB x1x)] a ∧ Below w1i.z w1i w) ?_ ?_
  ·refine Wg (Rm z (R z (rd_gtr z z) (Rm z ?_)))
   rcases bs (decide (0 < x19)) with hc1e | hc1e
   ·exact Rh z hc1e (fd f_180_1 z) (Rh z hc1e (l1 g_3 z fid (h1l.at z)) (Rh z hc1e (eql z z) (R z (pT z hc1e z) (Wl (fun _ q => ⟨x1a == 0, som (ifT hu2j hc1e), (q.k (s6 z z z z z z)), (br w1i)⟩)))))
   iterate 3 refine Nh z hc1e ?_
   exact R z (pF z hc1e z) (Wl (fun _ q => ⟨false, som (ifF hu2j hc1e), (q.k (s6 z z z z z z)), (br w1i)⟩))
  rintro a3s w2l ⟨x1x, rfl, hS5a, s1b⟩
  revert a3s
  refine Wo (Wc z (fun hc1y => ?_) (fun hc1y => ?_))
  ·refine Wk (Wq (WC_block (WC_draw (X := noX) 384 (.rd 0 (.rd 1 (.rd 2 (.rd 3 (.rd 4 (.rd 5 (.rd 6 (.ef 7 (.ef 8 .done))))))))) mo (by kernel_rfl) fun w3t s1g _ => dR z z (mv z) (dR z z (fd f_80_7 z) ?_))))
   have h2m := mmr (Blk.lt hB1)
   have h2n := mm1 h21.lt (lt_ h14.size s11.size)
   have h3u := (((((h23.chg s11 (atp h2m)).ext h17).chg h18 (djs h2n)).ext s16).chg s1j (atp (nmA h2m (dj_symm h2n)))).ext s1b
   refine dR z z (l1 g_78 z fid ((h3u.ext s1g).at z)) ?_
   obtain ⟨x5b, e3v, hm3w⟩ := bdS (ifT hm2k hc1y)
   have h2o := lt_ (lt_ h12.size h14.size) s11.size
   have h1k := mem1le (lt_ (lt_ hBw (Nat.le_of_lt (Blk.lt hB1))) h2o)
   refine dRX z z (at_ (α := Int) d_78 z_3 z z z (((((((h24.chg s11 (lg (mem1 hBw))).ext h17).chg h18 (lg h1k)).ext s16).chg s1j (nmA (lg (mem1 hBw)) (lg h1k))).ext s1b).ext s1g) e3v) ?_
   rintro _ ⟨b5c, o5d, cs5e, rfl, h3x, h3y, h5f⟩
   obtain ⟨rfl, h3z⟩ := Int_open h3y
   refine dR z z (l1 g_3 z fid (h3x.at0 z)) (dR z z (fd f_180_0 z) ?_)
   have h2p := (h1l.ext s1b).ext s1g
   refine dR z z (l1 g_3 z fid (h2p.at z)) ?_
   obtain ⟨r1q, r40, e41, hm42⟩ := bd2S hm3w
   refine dE z z (fc call173 z (ih0.run (B := B) e41 ((h1p.ext s1b).ext s1g) hBw (((((((h25.chg s11 (lg (mem1 hBw))).ext h17).chg h18 (lg h1k)).ext s16).chg s1j (nmA (lg (mem1 hBw)) (lg h1k))).ext s1b).ext s1g) (((((((h26.chg s11 (lg (mem1 hBw))).ext h17).chg h18 (lg h1k)).ext s16).chg s1j (nmA (lg (mem1 hBw)) (lg h1k))).ext s1b).ext s1g) h1n h3z h1o)) (.inl z) ?_
   rintro _ w43 ⟨s2q, rfl, h44, h45, h46, h47⟩
   have h2r := mm1 (Blk.lt hB1) h2o
   refine dE0 z (fs (cur' := [vI r1q.at_, vI r1q.code]) z_180 z z (h2p.chg s2q (atp h2r)) z (lb z) (oA z) z) (.inl z) ?_
   rintro _ w48 ⟨h49, s4a⟩
   have h2s := s4a.one
   refine PR_done (Wo (Wg (Rm z (R z (sb_ z z) (Ra z (Wl ?_))))))
   have h4b : Chg (· ∈ ([g1] ++ [w10.z])) w13 w1i := cM (cr ([g1] ++ [w10.z]) w13) s1j (all_app (io (sub_l sr)) (io (sub_r sr)))
   have h4c : Chg (· ∈ ([g1] ++ [w10.z])) w13 w2l := cext h4b s1b
   have h4d : Chg (· ∈ ([g1] ++ [w10.z])) w13 w3t := cext h4c s1g
   have h4e : Chg (· ∈ ([g1] ++ [w10.z])) w13 w43 := cM h4d s2q (io (sub_l sr))
   have h4f : Chg (· ∈ ([g1] ++ [w10.z])) w13 w48 := cM h4e h2s (io (sub_r sr))
   exact fun _ q => ⟨(isub x19 1, r40, r1q.at_, r1q.code), (som hm42).symm, ⟨(q.k (s5 z z z z z)), h4f, (iS _ _), h46, h44, h45, (h47.chg h2s (djs h2r)), h49⟩⟩
  have h4g : Chg (· ∈ ([g1] ++ [w10.z])) w13 w1i := cM (cr ([g1] ++ [w10.z]) w13) s1j (all_app (io (sub_l sr)) (io (sub_r sr)))
  have h4h : Chg (· ∈ ([g1] ++ [w10.z])) w13 w2l := cext h4g s1b
  exact WC_exit (fun a' ha' => QO_brk (som (ifF hm2k hc1y)).symm ⟨(Sat.weaken ha' (s2 z z)), h4h, h2i, h1n, h1o, h1w, (h1p.ext s1b), (h1l.ext s1b)⟩)
 ·rintro ⟨x19, x1f, x1d, x1a⟩ a4i w4j rfl ⟨hS5g, s2t, h2i, h1n, h1o, h1w, h1p, h1l⟩
  have hm4k := elL hm2h
  have hm4l := un4S hm4k
  revert a4i
  refine Wo (Ws (R z (lN (vs := [vI x1d, vI x1a]) g_180 z_180 z z fid (h1l.row 0 2 z)) ?_))
  have h1z := mm1 (Blk.lt hB1) h12.size
  have h2u := mm1 h1m.lt s11.size
  refine E0 (fs (cur' := [vI x1d, vI x1a]) z_180 z z (((((h1m.chg s11 (atp h1z)).ext h17).chg h18 (djs h2u)).ext s16).chg s2t (atp (nmA h1z (dj_symm h2u)))) z (lb z) (oA z) z) ?_
  rintro _ w4m ⟨h4n, s4o⟩
  have h2v := s4o.one
  refine Wn ?_
  obtain rfl := som hm4l
  have h4p : Chg (· ∈ [g1]) w0 w15 := cext (cr [g1] w0) h12
  have h4q : Chg (· ∈ [g1]) w0 w1r := cext h4p h14
  have h4r : Chg (· ∈ [g1]) w0 w10 := cM h4q s11 (io sr)
  have h4s : Chg (· ∈ [g1]) w0 w1t := cext h4r h17
  have h2w : ∀ k ∈ [w10.z], k ∈ [g1] ∨ w0.z ≤ k := mor (lt_ (lt_ h12.size h14.size) s11.size)
  have h4t : Chg (· ∈ [g1]) w0 w1h := cM h4s h18 h2w
  have h4u : Chg (· ∈ [g1]) w0 w13 := cext h4t s16
  have h4v : Chg (· ∈ [g1]) w0 w4j := cM h4u s2t (all_app (io sr) h2w)
  have h4w : ∀ k ∈ [w15.z], k ∈ [g1] ∨ w0.z ≤ k := mor h12.size
  have h4x : Chg (· ∈ [g1]) w0 w4m := cM h4v h2v h4w
  exact Wr (ret1 hr (resC g_180 z_180 z h4n z) ⟨h4x, z, h1o, h1w, h1n, (h1p.chg h2v (djs h1z))⟩)
 rintro r5h ex5i a5j w5k rfl ⟨rfl, hq4y⟩
 have hm4z := elR hm2h
 obtain rfl := som hm4z
 exact ⟨hq4y, z⟩
theorem T_w1e (ih : I_impl_checker_value n) : S_impl_checker_choice (B_impl_checker_choice n (F_impl_checker_value n)) := by
 obtain ⟨ih0, ih1, ih2, ih3, ih4⟩ := ih
 constructor
 intro B N0 C0 N6 C6 g1 N2 C2 N3 C3 N1 C1 N4 C4 A0 A6 A2 A3 A1 A4 x1 x2 x3 res w0 hm hB1 hBw p1_0 p1_1 p1_2 p2_0 p2_1 p2_2 p2_4 p2_5 p2_6 p2_7 p3_0
 unfold B_impl_checker_choice at hm
 refine goF func207 z z (lb z) fun fn hr => Ws (E z (fb z) ?_)
 rintro _ w14 ⟨rfl, h1q⟩
 have h11 := h1q.below
 have h1r : Blk w14 w0.z (vR x2 A2 N2 C2 A3 N3 C3 A1 N1 C1 A4 N4 C4) := h1q.blk
 refine E z (fa zero_180) ?_
 rintro _ w1d ⟨rfl, h1s⟩
 have h15 := h1s.below
 have h1a : Blk w1d w14.z [vI 0, vI 0] := h1s.blk
 refine Wn (Ws (Rm z (R z (fd f_80_7 z) ?_)))
 have h1t := h1r.ext h15
 refine R z (l1 g_78 z fid (h1t.at z)) ?_
 obtain ⟨x4d, e2c, hm2d⟩ := bdS hm
 have h1u := (p2_7.ext h11).ext h15
 refine RX z (at_ (α := Int) d_78 z_3 z z z h1u e2c) ?_
 rintro _ ⟨b4e, o4f, cs4g, rfl, h2e, h2f, h4h⟩
 obtain ⟨rfl, h2g⟩ := Int_open h2f
 refine R z (l1 g_3 z fid (h2e.at0 z)) (Rm z ?_)
 have h1v := (p1_0.ext h11).ext h15
 have h1w := (p1_1.ext h11).ext h15
 obtain ⟨r1g, r1b, r4i, e2h, hm1x⟩ := bd3S hm2d
 refine E z (fc call203 z (W_w0g (B := B) e2h ((hB1.ext h11).ext h15) hBw h1v h1w p1_2 h2g p3_0)) ?_
 rintro _ w16 ⟨s10, rfl, h4j, h1y, h2i, h1h, h1i⟩
 refine Rm z (R z (ext_ z z) (R z (ext_ z z) (E z (fa zero_180) ?_)))
 rintro _ w1e ⟨rfl, h1z⟩
 have h12 := h1z.below
 have h2j : Blk w1e w16.z [vI 0, vI 0] := h1z.blk
 refine Ra z (E0 (fs (cur' := [vI r1b.at_, vI r1b.code]) z_180 z z h2j z (lb z) (oA z) z) ?_)
 rintro _ w18 ⟨h1j, s2k⟩
 have h13 := s2k.one
 refine Wn (Wq (Ws (R z (fd f_180_1 z) (R z (l1 g_3 z fid (h1j.at z)) (R z (nq z z) (Wn (Wc z (fun hc1k => ?_) (fun hc1k => ?_))))))))
 ·refine Ws (R z (lN (vs := [vI r1b.at_, vI r1b.code]) g_180 z_180 z z fid (h1j.row 0 2 z)) ?_)
  have h20 := mm1 (Blk.lt hB1) h11.size
  refine E0 (fs (cur' := [vI r1b.at_, vI r1b.code]) z_180 z z (((h1a.chg s10 (atp h20)).ext h12).chg h13 (djs (mm1 h1a.lt s10.size))) z (lb z) (oA z) z) ?_
  rintro _ w2l ⟨h2m, s2n⟩
  have h21 := s2n.one
  refine Wn ?_
  obtain rfl := som (ifT hm1x hc1k)
  have h2o : Chg (· ∈ [g1]) w0 w14 := cext (cr [g1] w0) h11
  have h2p : Chg (· ∈ [g1]) w0 w1d := cext h2o h15
  have h2q : Chg (· ∈ [g1]) w0 w16 := cM h2p s10 (io sr)
  have h2r : Chg (· ∈ [g1]) w0 w1e := cext h2q h12
  have h22 := lt_ (lt_ h11.size h15.size) s10.size
  have h2s : ∀ k ∈ [w16.z], k ∈ [g1] ∨ w0.z ≤ k := mor h22
  have h2t : Chg (· ∈ [g1]) w0 w18 := cM h2r h13 h2s
  have h2u : ∀ k ∈ [w14.z], k ∈ [g1] ∨ w0.z ≤ k := mor h11.size
  have h2v : Chg (· ∈ [g1]) w0 w2l := cM h2t h21 h2u
  exact Wr (ret1 hr (resC g_180 z_180 z h2m z) ⟨h2v, z, h1y, h2i, h1h, (((h1i.ext h12).chg h13 (djs (mm1 (Blk.lt hB1) h22))).chg h21 (djs h20))⟩)
 refine Wk (Wq (Ws (R z (fd f_80_6 z) ?_)))
 have h23 := ((h1t.chg s10 (atp (mmr (Blk.lt hB1)))).ext h12).chg h13 (djs (mm1 h1r.lt (lt_ h15.size s10.size)))
 refine R z (l1 g_78 z fid (h23.at z)) ?_
 have h1c := lt_ (lt_ h11.size h15.size) s10.size
 have h1f := mem1le (lt_ (lt_ hBw (Nat.le_of_lt (Blk.lt hB1))) h1c)
 have h24 := ((((p2_6.ext h11).ext h15).chg s10 (lg (mem1 hBw))).ext h12).chg h13 (lg h1f)
 refine R z (lnR d_78 z h24) (Rm z (Wn ?_))
 obtain ⟨u4k, hu2w, hm25⟩ := bdS (ifF hm1x hc1k)
 refine WC_forN (σ := Unit) (ρ := Spot × Int) (fun (k1l : Nat) (_ : Unit) a w => Sat 49 [(0, pt g1), (2, vI x3), (4, pt w0.z), (6, pt w14.z), (7, vI r1g), (8, pt w16.z), (26, sl A1 N1 C1), (27, vI (x2.tags.length : Int)), (28, (vI ((k1l : Nat) : Int)))] a ∧ Below w18.z w18 w) (fun (_ : Unit) a w => Sat 49 [(2, vI x3), (6, pt w14.z)] a ∧ Below w18.z w18 w) (fun r ex a w => ex = .ret ∧ RetPost prog fn (Q25 w0 g1 B A0 N0 C0 A6 N6 C6 x1 r) a w) hu2w ?_ ?_ ?_ ?_ ?_
 ·exact fun _ q => ⟨(q.k (s9 z z z z z z z z z)), (br w18)⟩
 ·rintro k1l _ a4l w2x o4m hk1m ⟨hS2y, s17⟩ hm2z
  refine Wu ?_ hS2y
  refine Ws (R z (lss z z) (Wn (Wq (Wc z (fun _ => ?_) (fun hc => (nolt hk1m hc).elim)))))
  refine Wk (Wq (WC_block (Ws (Rm z ?_))))
  obtain ⟨x4n, e30, hm26⟩ := bdS hm2z
  refine RX z (at_ (α := Int) d_78 z_3 z z z (h24.ext s17) e30) ?_
  rintro _ ⟨b4o, o4p, cs4q, rfl, h31, h32, h4r⟩
  obtain ⟨rfl, h4s⟩ := Int_open h32
  refine R z (l1 g_3 z fid (h31.at0 z)) (Ra z (Ra z (Wn (Ws (Rm z (Rm z (R z (eql z z) (Wn (Wc z (fun hc1n => ?_) (fun hc1n => ?_))))))))))
  ·refine Wq (WC_draw (X := noX) 1536 (.rd 0 (.rd 1 (.rd 2 (.rd 3 (.rd 4 (.rd 5 (.rd 6 (.rd 7 (.rd 8 (.ef 9 (.ef 10 .done))))))))))) mo (by kernel_rfl) fun w33 s19 _ => dR z z (mv z) (dR z z (fd f_80_7 z) (dR z z (l1 g_78 z fid (((h23.ext s17).ext s19).at z)) (dR z z (mv z) (dR z z (inc_ hk1m (lt_ (repS.len p2_6) LEN_le) z z) ?_)))))
   obtain ⟨x4t, e34, hm35⟩ := bdS (ifT hm26 hc1n)
   refine dRX z z (at_ (α := Int) d_78 z_3 z z z (((((h1u.chg s10 (lg (mem1 hBw))).ext h12).chg h13 (lg h1f)).ext s17).ext s19) e34) ?_
   rintro _ ⟨b4u, o4v, cs4w, rfl, h36, h37, h4x⟩
   obtain ⟨rfl, h38⟩ := Int_open h37
   refine dR z z (l1 g_3 z fid (h36.at0 z)) (dR z z (fd f_180_0 z) (dR z z (l1 g_3 z fid (((h1j.ext s17).ext s19).at z)) ?_))
   obtain ⟨r27, r4y, e39, hm3a⟩ := bd2S hm35
   refine dE z z (fc call173 z (ih0.run (B := B) e39 ((((h1i.ext h12).chg h13 (djs (mm1 (Blk.lt hB1) h1c))).ext s17).ext s19) hBw (((((h1v.chg s10 (lg (mem1 hBw))).ext h12).chg h13 (lg h1f)).ext s17).ext s19) (((((h1w.chg s10 (lg (mem1 hBw))).ext h12).chg h13 (lg h1f)).ext s17).ext s19) h1h h38 h1y)) (.inl z) ?_
   rintro _ w3b ⟨s28, rfl, h3c, h3d, h3e, h3f⟩
   have h1o := mm1 (Blk.lt hB1) h11.size
   refine dE0 z (fs (cur' := [vI r27.at_, vI r27.code]) z_180 z z ((((((h1a.chg s10 (atp h1o)).ext h12).chg h13 (djs (mm1 h1a.lt s10.size))).ext s17).ext s19).chg s28 (atp h1o)) z (lb z) (oA z) z) (.inl z) ?_
   rintro _ w3g ⟨h3h, s3i⟩
   have h29 := s3i.one
   refine PR_done (Wo ?_)
   have h3j : Chg (· ∈ [g1]) w0 w14 := cext (cr [g1] w0) h11
   have h3k : Chg (· ∈ [g1]) w0 w1d := cext h3j h15
   have h3l : Chg (· ∈ [g1]) w0 w16 := cM h3k s10 (io sr)
   have h3m : Chg (· ∈ [g1]) w0 w1e := cext h3l h12
   have h3n : ∀ k ∈ [w16.z], k ∈ [g1] ∨ w0.z ≤ k := mor h1c
   have h3o : Chg (· ∈ [g1]) w0 w18 := cM h3m h13 h3n
   have h3p : Chg (· ∈ [g1]) w0 w2x := cext h3o s17
   have h3q : Chg (· ∈ [g1]) w0 w33 := cext h3p s19
   have h3r : Chg (· ∈ [g1]) w0 w3b := cM h3q s28 (io sr)
   have h3s : ∀ k ∈ [w14.z], k ∈ [g1] ∨ w0.z ≤ k := mor h11.size
   have h3t : Chg (· ∈ [g1]) w0 w3g := cM h3r h29 h3s
   exact Wr (rtO (QO_retL (som hm3a).symm (ret1 hr (resC g_180 z_180 z h3h z) ⟨h3t, z, h3c, h3d, h3e, (h3f.chg h29 (djs h1o))⟩)))
  exact Wk (Wg (R z (inc_ hk1m (lt_ (repS.len p2_6) LEN_le) z z) (Rm z (Wl (fun _ q => ⟨(), (som (ifF hm26 hc1n)).symm, ⟨(q.k (s9 z z z z z z z z z)), s17⟩⟩)))))
 ·rintro _ a4z w50 ⟨hS3u, s3v⟩
  refine Wu ?_ hS3u
  refine Ws (R z (lss z z) (Wn (Wq (Wc z (fun hc => (noltt hc).elim) (fun _ => ?_)))))
  exact WC_exit (fun a' ha' => ⟨rfl, ⟨(Sat.weaken ha' (s2 z z)), s3v⟩⟩)
 ·rintro _ a3w w3x rfl ⟨hS51, s1p⟩
  have hm3y := elL hm25
  revert a3w
  refine Wo (Ws (Rm z (R z (bP (parts := [(0, (.tmp 47)), (1, (.const (.int .i64 3)))]) (cs := [vI x3, vI 3]) build_180 z z) ?_)))
  have h2a := mm1 (Blk.lt hB1) h11.size
  refine E0 (fs (cur' := [vI x3, vI 3]) z_180 z z ((((h1a.chg s10 (atp h2a)).ext h12).chg h13 (djs (mm1 h1a.lt s10.size))).ext s1p) z (lb z) (oA z) z) ?_
  rintro _ w3z ⟨h40, s41⟩
  have h2b := s41.one
  refine Wn ?_
  obtain rfl := som hm3y
  have h42 : Chg (· ∈ [g1]) w0 w14 := cext (cr [g1] w0) h11
  have h43 : Chg (· ∈ [g1]) w0 w1d := cext h42 h15
  have h44 : Chg (· ∈ [g1]) w0 w16 := cM h43 s10 (io sr)
  have h45 : Chg (· ∈ [g1]) w0 w1e := cext h44 h12
  have h46 : ∀ k ∈ [w16.z], k ∈ [g1] ∨ w0.z ≤ k := mor h1c
  have h47 : Chg (· ∈ [g1]) w0 w18 := cM h45 h13 h46
  have h48 : Chg (· ∈ [g1]) w0 w3x := cext h47 s1p
  have h49 : ∀ k ∈ [w14.z], k ∈ [g1] ∨ w0.z ≤ k := mor h11.size
  have h4a : Chg (· ∈ [g1]) w0 w3z := cM h48 h2b h49
  exact Wr (ret1 hr (resC g_180 z_180 z h40 z) ⟨h4a, z, p3_0, (ii z), h1h, ((((h1i.ext h12).chg h13 (djs (mm1 (Blk.lt hB1) h1c))).ext s1p).chg h2b (djs h2a))⟩)
 rintro r52 ex53 a54 w55 rfl ⟨rfl, hq4b⟩
 have hm4c := elR hm25
 obtain rfl := som hm4c
 exact ⟨hq4b, z⟩
theorem T_w1f (ih : I_impl_checker_value n) : S_impl_checker_option (B_impl_checker_option n (F_impl_checker_value n)) := by
 obtain ⟨ih0, ih1, ih2, ih3, ih4⟩ := ih
 constructor
 intro B N0 C0 N6 C6 g1 N2 C2 N3 C3 N1 C1 N4 C4 A0 A6 A2 A3 A1 A4 x1 x2 x3 res w0 hm hB1 hBw p1_0 p1_1 p1_2 p2_0 p2_1 p2_2 p2_4 p2_5 p2_6 p2_7 p3_0
 unfold B_impl_checker_option at hm
 refine goF func208 z z (lb z) fun fn hr => Ws (E z (fb z) ?_)
 rintro _ w17 ⟨rfl, h1q⟩
 have h11 := h1q.below
 have h1r : Blk w17 w0.z (vR x2 A2 N2 C2 A3 N3 C3 A1 N1 C1 A4 N4 C4) := h1q.blk
 refine E z (fa zero_180) ?_
 rintro _ w1d ⟨rfl, h1s⟩
 have h16 := h1s.below
 have h1c : Blk w1d w17.z [vI 0, vI 0] := h1s.blk
 refine Wn (Ws (Rm z (Rm z ?_)))
 have h1e := (hB1.ext h11).ext h16
 have h1t := (p1_0.ext h11).ext h16
 have h1i := (p1_1.ext h11).ext h16
 have h1f := lt_ h11.size h16.size
 obtain ⟨r1a, e28, hm29⟩ := bdS hm
 refine E z (fc call205 z (W_w0a (B := w0.z) e28 h1f (repS.mono h1t (lt_ hBw (Nat.le_of_lt (Blk.lt hB1)))) (repS.mono h1i (lt_ hBw (Nat.le_of_lt (Blk.lt hB1)))) p1_2 (h1e.row 0 3 z) (Blk.lt hB1) p3_0 (ii z))) ?_
 rintro _ w18 ⟨s10, rfl, h1u, h2a⟩
 refine E z (fa zero_180) ?_
 rintro _ w1g ⟨rfl, h1v⟩
 have h12 := h1v.below
 have h2b : Blk w1g w18.z [vI 0, vI 0] := h1v.blk
 refine E0 (fs (cur' := [vI r1a.at_, vI r1a.code]) z_180 z z h2b z (lb z) (oA z) z) ?_
 rintro _ w1b ⟨h1j, s2c⟩
 have h13 := s2c.one
 refine Wn (Wq (WC_block (Wq ?_)))
 obtain ⟨u2d, hu1w, hm1x⟩ := bdS hm29
 refine WC_cut (fun a w => ∃ (x1k : Bool), x1k = u2d ∧ Sat 45 [(0, pt g1), (2, vI x3), (4, pt w0.z), (6, pt w17.z), (7, pt w18.z), (11, vB x1k)] a ∧ Below w1b.z w1b w) ?_ ?_
 ·refine Wg (R z (fd f_180_1 z) (R z (l1 g_3 z fid (h1j.at z)) (R z (nq z z) (Rm z ?_))))
  rcases bs (r1a.code != 0) with hc14 | hc14
  ·iterate 8 refine Nh z hc14 ?_
   exact R z (pT z hc14 z) (Ra z (Wl (fun _ q => ⟨true, som (ifT hu1w hc14), (q.k (s6 z z z z z z)), (br w1b)⟩)))
  refine Rh z hc14 (mv z) (Rh z hc14 (rd_nil z) (Rh z hc14 (fd f_202_1 z) ?_))
  have h1y := lt_ h1f s10.size
  refine Rh z hc14 (l1 g_25 z fid ((((h1e.ext s10).ext h12).chg h13 (djs (mm1 (Blk.lt hB1) h1y))).at z)) (Rh z hc14 (mv z) ?_)
  obtain ⟨x2e, e2f, hm2g⟩ := bdS (ifF hu1w hc14)
  refine RXg z z hc14 z (at_ (α := UInt8) d_25 z_5 z z z (((h1i.ext s10).ext h12).chg h13 (lg (mem1le (lt_ (lt_ hBw (Nat.le_of_lt (Blk.lt hB1))) h1y)))) e2f) ?_
  rintro _ ⟨b42, o43, cs44, rfl, h2h, h2i, h45⟩
  obtain rfl := UInt8_open h2i
  exact Rh z hc14 (l1 g_5 z fid (h2h.at0 z)) (Rh z hc14 (eql z z) (R z (pF z hc14 z) (Ra z (Wl (fun _ q => ⟨(byteI x2e) == (byteI (0 : UInt8)), som hm2g, (q.k (s6 z z z z z z)), (br w1b)⟩)))))
 rintro a2j w1l ⟨x1k, rfl, hS46, s15⟩
 revert a2j
 refine Wo (Wc z (fun hc1m => ?_) (fun hc1m => ?_))
 ·refine Ws (R z (lN (vs := [vI r1a.at_, vI r1a.code]) g_180 z_180 z z fid ((h1j.ext s15).row 0 2 z)) (E0 (fs (cur' := [vI r1a.at_, vI r1a.code]) z_180 z z ((((h1c.ext s10).ext h12).chg h13 (djs (mm1 h1c.lt s10.size))).ext s15) z (lb z) (oA z) z) ?_))
  rintro _ w2k ⟨h2l, s2m⟩
  have h1z := s2m.one
  refine Wn ?_
  obtain rfl := som (ifT hm1x hc1m)
  have h2n : Chg (· ∈ [g1]) w0 w17 := cext (cr [g1] w0) h11
  have h2o : Chg (· ∈ [g1]) w0 w1d := cext h2n h16
  have h2p : Chg (· ∈ [g1]) w0 w18 := cext h2o s10
  have h2q : Chg (· ∈ [g1]) w0 w1g := cext h2p h12
  have h20 := lt_ h1f s10.size
  have h2r : ∀ k ∈ [w18.z], k ∈ [g1] ∨ w0.z ≤ k := mor h20
  have h2s : Chg (· ∈ [g1]) w0 w1b := cM h2q h13 h2r
  have h2t : Chg (· ∈ [g1]) w0 w1l := cext h2s s15
  have h2u : ∀ k ∈ [w17.z], k ∈ [g1] ∨ w0.z ≤ k := mor h11.size
  have h2v : Chg (· ∈ [g1]) w0 w2k := cM h2t h1z h2u
  exact Wr (rtO (ret1 hr (resC g_180 z_180 z h2l z) ⟨h2v, z, h1u, h2a, p1_2, (((((h1e.ext s10).ext h12).chg h13 (djs (mm1 (Blk.lt hB1) h20))).ext s15).chg h1z (djs (mm1 (Blk.lt hB1) h11.size)))⟩))
 refine Ws (Rm z (R z (rd_nil z) (R z (fd f_202_1 z) ?_)))
 have h1h := lt_ h1f s10.size
 have h1n := (((h1e.ext s10).ext h12).chg h13 (djs (mm1 (Blk.lt hB1) h1h))).ext s15
 refine R z (l1 g_25 z fid (h1n.at z)) (Rm z ?_)
 obtain ⟨x47, e2w, hm21⟩ := bdS (ifF hm1x hc1m)
 have h1o := mem1le (lt_ (lt_ hBw (Nat.le_of_lt (Blk.lt hB1))) h1h)
 have h22 := (((h1i.ext s10).ext h12).chg h13 (lg h1o)).ext s15
 refine RX z (at_ (α := UInt8) d_25 z_5 z z z h22 e2w) ?_
 rintro _ ⟨b48, o49, cs4a, rfl, h2x, h2y, h4b⟩
 obtain rfl := UInt8_open h2y
 refine R z (l1 g_5 z fid (h2x.at0 z)) (R z (rd_gtr z z) (Ra z (Wn (Wc z (fun hc1p => ?_) (fun hc1p => ?_)))))
 ·refine Ws (Rm z (R z (bP (parts := [(0, (.tmp 35)), (1, (.const (.int .i64 4)))]) (cs := [vI x3, vI 4]) build_180 z z) (E0 (fs (cur' := [vI x3, vI 4]) z_180 z z ((((h1c.ext s10).ext h12).chg h13 (djs (mm1 h1c.lt s10.size))).ext s15) z (lb z) (oA z) z) ?_)))
  rintro _ w2z ⟨h30, s31⟩
  have h23 := s31.one
  refine Wn ?_
  obtain rfl := som (ifT hm21 hc1p)
  have h32 : Chg (· ∈ [g1]) w0 w17 := cext (cr [g1] w0) h11
  have h33 : Chg (· ∈ [g1]) w0 w1d := cext h32 h16
  have h34 : Chg (· ∈ [g1]) w0 w18 := cext h33 s10
  have h35 : Chg (· ∈ [g1]) w0 w1g := cext h34 h12
  have h36 : ∀ k ∈ [w18.z], k ∈ [g1] ∨ w0.z ≤ k := mor h1h
  have h37 : Chg (· ∈ [g1]) w0 w1b := cM h35 h13 h36
  have h38 : Chg (· ∈ [g1]) w0 w1l := cext h37 s15
  have h39 : ∀ k ∈ [w17.z], k ∈ [g1] ∨ w0.z ≤ k := mor h11.size
  have h3a : Chg (· ∈ [g1]) w0 w2z := cM h38 h23 h39
  exact Wr (rtO (ret1 hr (resC g_180 z_180 z h30 z) ⟨h3a, z, p3_0, (ii z), p1_2, (h1n.chg h23 (djs (mm1 (Blk.lt hB1) h11.size)))⟩))
 refine Wk (Wq (WC_draw (X := noX) 384 (.rd 0 (.rd 1 (.rd 2 (.rd 3 (.rd 4 (.rd 5 (.rd 6 (.ef 7 (.ef 8 .done))))))))) mo (by kernel_rfl) fun w3b s19 _ => dR z z (mv z) (dR z z (fd f_80_7 z) (dR z z (l1 g_78 z fid (((((((h1r.ext h16).ext s10).ext h12).chg h13 (djs (mm1 h1r.lt (lt_ h16.size s10.size)))).ext s15).ext s19).at z)) ?_))))
 obtain ⟨x4c, e3c, hm3d⟩ := bdS (ifF hm21 hc1p)
 refine dRX z z (at_ (α := Int) d_78 z_3 z z z (((((((p2_7.ext h11).ext h16).ext s10).ext h12).chg h13 (lg h1o)).ext s15).ext s19) e3c) ?_
 rintro _ ⟨b4d, o4e, cs4f, rfl, h3e, h3f, h4g⟩
 obtain ⟨rfl, h3g⟩ := Int_open h3f
 refine dR z z (l1 g_3 z fid (h3e.at0 z)) (dR z z (fd f_180_0 z) (dR z z (l1 g_3 z fid (((h1j.ext s15).ext s19).at z)) ?_))
 obtain ⟨r24, r4h, e3h, hm3i⟩ := bd2S hm3d
 refine dE z z (fc call173 z (ih0.run (B := B) e3h (h1n.ext s19) hBw (((((h1t.ext s10).ext h12).chg h13 (lg h1o)).ext s15).ext s19) (h22.ext s19) p1_2 h3g h1u)) (.inl z) ?_
 rintro _ w3j ⟨s25, rfl, h3k, h3l, h3m, h3n⟩
 have h26 := mm1 (Blk.lt hB1) h11.size
 refine dE0 z (fs (cur' := [vI r24.at_, vI r24.code]) z_180 z z ((((((h1c.ext s10).ext h12).chg h13 (djs (mm1 h1c.lt s10.size))).ext s15).ext s19).chg s25 (atp h26)) z (lb z) (oA z) z) (.inl z) ?_
 rintro _ w3o ⟨h3p, s3q⟩
 have h27 := s3q.one
 refine PR_done (Wo ?_)
 obtain rfl := som hm3i
 have h3r : Chg (· ∈ [g1]) w0 w17 := cext (cr [g1] w0) h11
 have h3s : Chg (· ∈ [g1]) w0 w1d := cext h3r h16
 have h3t : Chg (· ∈ [g1]) w0 w18 := cext h3s s10
 have h3u : Chg (· ∈ [g1]) w0 w1g := cext h3t h12
 have h3v : ∀ k ∈ [w18.z], k ∈ [g1] ∨ w0.z ≤ k := mor h1h
 have h3w : Chg (· ∈ [g1]) w0 w1b := cM h3u h13 h3v
 have h3x : Chg (· ∈ [g1]) w0 w1l := cext h3w s15
 have h3y : Chg (· ∈ [g1]) w0 w3b := cext h3x s19
 have h3z : Chg (· ∈ [g1]) w0 w3j := cM h3y s25 (io sr)
 have h40 : ∀ k ∈ [w17.z], k ∈ [g1] ∨ w0.z ≤ k := mor h11.size
 have h41 : Chg (· ∈ [g1]) w0 w3o := cM h3z h27 h40
 exact Wr (ret1 hr (resC g_180 z_180 z h3p z) ⟨h41, z, h3k, h3l, h3m, (h3n.chg h27 (djs h26))⟩)
theorem T_w1g (ih : I_impl_checker_value n) : S_impl_checker_checked (B_impl_checker_checked n (F_impl_checker_value n)) := by
 obtain ⟨ih0, ih1, ih2, ih3, ih4⟩ := ih
 constructor
 intro B N0 C0 N6 C6 g1 N2 C2 N3 C3 N1 C1 N4 C4 A0 A6 A2 A3 A1 A4 x1 x2 x3 res w0 hm hB1 hBw p1_0 p1_1 p1_2 p2_0 p2_1 p2_2 p2_4 p2_5 p2_6 p2_7 p3_0
 unfold B_impl_checker_checked at hm
 refine goF func209 z z (lb z) fun fn hr => Ws (E z (fb z) ?_)
 rintro _ w19 ⟨rfl, h1x⟩
 have h12 := h1x.below
 have h2n : Blk w19 w0.z (vR x2 A2 N2 C2 A3 N3 C3 A1 N1 C1 A4 N4 C4) := h1x.blk
 refine E z (fa zero_180) ?_
 rintro _ w1j ⟨rfl, h1y⟩
 have h18 := h1y.below
 have h1a : Blk w1j w19.z [vI 0, vI 0] := h1y.blk
 refine Wn (Ws (Rm z (R z (fd f_80_7 z) (R z (l1 g_78 z fid ((h2n.ext h18).at z)) ?_))))
 obtain ⟨x4p, e2o, hm2p⟩ := bdS hm
 refine RX z (at_ (α := Int) d_78 z_3 z z z ((p2_7.ext h12).ext h18) e2o) ?_
 rintro _ ⟨b4q, o4r, cs4s, rfl, h2q, h2r, h4t⟩
 obtain ⟨rfl, h2s⟩ := Int_open h2r
 refine R z (l1 g_3 z fid (h2q.at0 z)) (Rm z ?_)
 have h1z := (p1_0.ext h12).ext h18
 have h20 := (p1_1.ext h12).ext h18
 obtain ⟨r1b, r4u, e2t, hm21⟩ := bd2S hm2p
 refine E z (fc call173 z (ih0.run (B := B) e2t ((hB1.ext h12).ext h18) hBw h1z h20 p1_2 h2s p3_0)) ?_
 rintro _ w1c ⟨s13, rfl, h1p, h2u, h1k, h22⟩
 refine E z (fa zero_180) ?_
 rintro _ w1l ⟨rfl, h23⟩
 have h15 := h23.below
 have h1q : Blk w1l w1c.z [vI 0, vI 0] := h23.blk
 refine E0 (fs (cur' := [vI r1b.at_, vI r1b.code]) z_180 z z h1q z (lb z) (oA z) z) ?_
 rintro _ w1r ⟨h1h, s2v⟩
 have h14 := s2v.one
 refine Wn (Wq (Ws (R z (fd f_180_1 z) (R z (l1 g_3 z fid (h1h.at z)) (R z (nq z z) (Wn (Wc z (fun hc1s => ?_) (fun hc1s => ?_))))))))
 ·refine Ws (R z (lN (vs := [vI r1b.at_, vI r1b.code]) g_180 z_180 z z fid (h1h.row 0 2 z)) ?_)
  have h24 := mm1 (Blk.lt hB1) h12.size
  refine E0 (fs (cur' := [vI r1b.at_, vI r1b.code]) z_180 z z (((h1a.chg s13 (atp h24)).ext h15).chg h14 (djs (mm1 h1a.lt s13.size))) z (lb z) (oA z) z) ?_
  rintro _ w2w ⟨h2x, s2y⟩
  have h25 := s2y.one
  refine Wn ?_
  obtain rfl := som (ifT hm21 hc1s)
  have h2z : Chg (· ∈ [g1]) w0 w19 := cext (cr [g1] w0) h12
  have h30 : Chg (· ∈ [g1]) w0 w1j := cext h2z h18
  have h31 : Chg (· ∈ [g1]) w0 w1c := cM h30 s13 (io sr)
  have h32 : Chg (· ∈ [g1]) w0 w1l := cext h31 h15
  have h26 := lt_ (lt_ h12.size h18.size) s13.size
  have h33 : ∀ k ∈ [w1c.z], k ∈ [g1] ∨ w0.z ≤ k := mor h26
  have h34 : Chg (· ∈ [g1]) w0 w1r := cM h32 h14 h33
  have h35 : ∀ k ∈ [w19.z], k ∈ [g1] ∨ w0.z ≤ k := mor h12.size
  have h36 : Chg (· ∈ [g1]) w0 w2w := cM h34 h25 h35
  exact Wr (ret1 hr (resC g_180 z_180 z h2x z) ⟨h36, z, h1p, h2u, h1k, (((h22.ext h15).chg h14 (djs (mm1 (Blk.lt hB1) h26))).chg h25 (djs h24))⟩)
 refine Wk (Ws (Rm z (R z (fd f_180_0 z) (R z (l1 g_3 z fid (h1h.at z)) ?_))))
 have h1i := lt_ (lt_ h12.size h18.size) s13.size
 have h1m := (h22.ext h15).chg h14 (djs (mm1 (Blk.lt hB1) h1i))
 have h27 := mem1le (lt_ (lt_ hBw (Nat.le_of_lt (Blk.lt hB1))) h1i)
 have h28 := ((h20.chg s13 (lg (mem1 hBw))).ext h15).chg h14 (lg h27)
 have h1n := lt_ (lt_ h1i h15.size) h14.size
 obtain ⟨r1e, e37, hm38⟩ := bdS (ifF hm21 hc1s)
 refine E z (fc call205 z (W_w0a (B := w0.z) e37 h1n (repS.mono (((h1z.chg s13 (lg (mem1 hBw))).ext h15).chg h14 (lg h27)) (lt_ hBw (Nat.le_of_lt (Blk.lt hB1)))) (repS.mono h28 (lt_ hBw (Nat.le_of_lt (Blk.lt hB1)))) h1k (h1m.row 0 3 z) (Blk.lt hB1) h1p (ii z))) ?_
 rintro _ w1g ⟨s11, rfl, h39, h3a⟩
 refine E z (fa zero_180) ?_
 rintro _ w1t ⟨rfl, h29⟩
 have h16 := h29.below
 have h3b : Blk w1t w1g.z [vI 0, vI 0] := h29.blk
 refine E0 (fs (cur' := [vI r1e.at_, vI r1e.code]) z_180 z z h3b z (lb z) (oA z) z) ?_
 rintro _ w1o ⟨h2a, s3c⟩
 have h17 := s3c.one
 refine Wn (Wq (Wq ?_))
 obtain ⟨u3d, hu2b, hm2c⟩ := bdS hm38
 refine WC_cut (fun a w => ∃ (x1u : Bool), x1u = u3d ∧ Sat 52 [(6, pt w19.z), (7, pt w1c.z), (8, pt w1g.z), (47, vB x1u)] a ∧ Below w1o.z w1o w) ?_ ?_
 ·refine WC_draw (X := noX) 0 (.rd 0 (.rd 1 (.rd 2 (.rd 3 (.rd 4 (.rd 5 (.rd 6 (.rd 7 (.rd 8 (.rd 9 (.rd 10 (.rd 11 (.rd 12 (.rd 13 (.rd 14 (.rd 15 (.rd 16 (.rd 17 (.rd 18 (.rd 19 (.rd 20 (.ef 21 (.rd 22 (.rd 23 .done)))))))))))))))))))))))) mo (by kernel_rfl) fun w4v s1f _ => dR z z (fd f_180_1 z) (dR z z (l1 g_3 z fid ((h2a.ext s1f).at z)) (dR z z (eql z z) (dR z z (mv z) ?_)))
  rcases bs (r1e.code == 0) with hc10 | hc10
  ·refine dRg z z z hc10 z (mv z) (dRg z z z hc10 z (rd_nil z) (dRg z z z hc10 z (fd f_202_1 z) ?_))
   have h1v := lt_ h1n s11.size
   have h2d := (((h1m.ext s11).ext h16).chg h17 (djs (mm1 (Blk.lt hB1) h1v))).ext s1f
   refine dRg z z z hc10 z (l1 g_25 z fid (h2d.at z)) (dRg z z z hc10 z (fd f_180_0 z) ?_)
   have h2e := (((h1h.ext s11).ext h16).chg h17 (djs (mm1 h1q.lt (lt_ h14.size s11.size)))).ext s1f
   refine dRg z z z hc10 z (l1 g_3 z fid (h2e.at z)) ?_
   obtain ⟨x3e, e3f, hm3g⟩ := bdS (ifT hu2b hc10)
   have h2f := (((h28.ext s11).ext h16).chg h17 (lg (mem1le (lt_ (lt_ hBw (Nat.le_of_lt (Blk.lt hB1))) h1v)))).ext s1f
   refine dRXg z z z hc10 z (at_ (α := UInt8) d_25 z_5 z z z h2f e3f) ?_
   rintro _ ⟨b4w, o4x, cs4y, rfl, h3h, h3i, h4z⟩
   obtain rfl := UInt8_open h3i
   refine dRg z z z hc10 z (l1 g_5 z fid (h3h.at0 z)) (dRg z z z hc10 z (rd_convUI d_5 d_3 z) (dRg z z z hc10 z (mv z) (dRg z z z hc10 z (rd_nil z) (dRg z z z hc10 z (fd f_202_1 z) (dRg z z z hc10 z (l1 g_25 z fid (h2d.at z)) (dRg z z z hc10 z (mv z) (dRg z z z hc10 z (fd f_180_0 z) (dRg z z z hc10 z (l1 g_3 z fid (h2e.at z)) ?_))))))))
   obtain ⟨x50, e3j, hm3k⟩ := bdS hm3g
   refine dRXg z z z hc10 z (rd_sliceX d_25 z_5 z z h2f z z e3j) ?_
   rintro _ ⟨a51, n52, c53, rfl, h3l⟩
   obtain ⟨r3m, e3n, hm3o⟩ := bdS hm3k
   refine dEg z z z hc10 z (fc call68 z (W_w16 (B := B) e3n (lt_ (lt_ hBw (Nat.le_of_lt (Blk.lt hB1))) (lt_ (lt_ (lt_ h1v h16.size) h17.size) s1f.size)) h3l)) (.inr fun _ _ h => chgB (h.1)) ?_
   rintro _ w54 ⟨s3p, rfl, h55⟩
   exact dRg z z z hc10 z (nq z z) (dR z z (pT z hc10 z) (PR_done (fun _ q => ⟨(byteI x3e) != r3m, som hm3o, (q.k (s4 z z z z)), (bup s1f s3p)⟩)))
  iterate 17 refine dRn z z z hc10 z ?_
  exact dEn z z z hc10 z (dRn z z z hc10 z (dR z z (pF z hc10 z) (PR_done (fun _ q => ⟨false, som (ifF hu2b hc10), (q.k (s4 z z z z)), s1f⟩))))
 rintro a3q w2g ⟨x1u, rfl, hS56, s1d⟩
 revert a3q
 refine Wo (Wc z (fun hc1w => ?_) (fun hc1w => ?_))
 ·refine Ws (R z (fd f_180_0 z) (R z (l1 g_3 z fid (((((h1h.ext s11).ext h16).chg h17 (djs (mm1 h1q.lt (lt_ h14.size s11.size)))).ext s1d).at z)) (R z (bP (parts := [(0, (.tmp 49)), (1, (.const (.int .i64 5)))]) (cs := [vI r1b.at_, vI 5]) build_180 z z) ?_)))
  have h2h := mm1 (Blk.lt hB1) h12.size
  have h3r := (((((h1a.chg s13 (atp h2h)).ext h15).chg h14 (djs (mm1 h1a.lt s13.size))).ext s11).ext h16).chg h17 (djs (mm1 h1a.lt (lt_ (lt_ (lt_ s13.size h15.size) h14.size) s11.size)))
  refine E0 (fs (cur' := [vI r1b.at_, vI 5]) z_180 z z (h3r.ext s1d) z (lb z) (oA z) z) ?_
  rintro _ w3s ⟨h3t, s3u⟩
  have h2i := s3u.one
  refine Wn ?_
  obtain rfl := som (ifT hm2c hc1w)
  have h3v : Chg (· ∈ [g1]) w0 w19 := cext (cr [g1] w0) h12
  have h3w : Chg (· ∈ [g1]) w0 w1j := cext h3v h18
  have h3x : Chg (· ∈ [g1]) w0 w1c := cM h3w s13 (io sr)
  have h3y : Chg (· ∈ [g1]) w0 w1l := cext h3x h15
  have h3z : ∀ k ∈ [w1c.z], k ∈ [g1] ∨ w0.z ≤ k := mor h1i
  have h40 : Chg (· ∈ [g1]) w0 w1r := cM h3y h14 h3z
  have h41 : Chg (· ∈ [g1]) w0 w1g := cext h40 s11
  have h42 : Chg (· ∈ [g1]) w0 w1t := cext h41 h16
  have h2j := lt_ h1n s11.size
  have h43 : ∀ k ∈ [w1g.z], k ∈ [g1] ∨ w0.z ≤ k := mor h2j
  have h44 : Chg (· ∈ [g1]) w0 w1o := cM h42 h17 h43
  have h45 : Chg (· ∈ [g1]) w0 w2g := cext h44 s1d
  have h46 : ∀ k ∈ [w19.z], k ∈ [g1] ∨ w0.z ≤ k := mor h12.size
  have h47 : Chg (· ∈ [g1]) w0 w3s := cM h45 h2i h46
  exact Wr (ret1 hr (resC g_180 z_180 z h3t z) ⟨h47, z, h1p, (ii z), h1k, (((((h1m.ext s11).ext h16).chg h17 (djs (mm1 (Blk.lt hB1) h2j))).ext s1d).chg h2i (djs h2h))⟩)
 refine Wk (Ws (R z (lN (vs := [vI r1e.at_, vI r1e.code]) g_180 z_180 z z fid ((h2a.ext s1d).row 0 2 z)) ?_))
 have h2k := mm1 (Blk.lt hB1) h12.size
 have h48 := (((((h1a.chg s13 (atp h2k)).ext h15).chg h14 (djs (mm1 h1a.lt s13.size))).ext s11).ext h16).chg h17 (djs (mm1 h1a.lt (lt_ (lt_ (lt_ s13.size h15.size) h14.size) s11.size)))
 refine E0 (fs (cur' := [vI r1e.at_, vI r1e.code]) z_180 z z (h48.ext s1d) z (lb z) (oA z) z) ?_
 rintro _ w49 ⟨h4a, s4b⟩
 have h2l := s4b.one
 refine Wn ?_
 obtain rfl := som (ifF hm2c hc1w)
 have h4c : Chg (· ∈ [g1]) w0 w19 := cext (cr [g1] w0) h12
 have h4d : Chg (· ∈ [g1]) w0 w1j := cext h4c h18
 have h4e : Chg (· ∈ [g1]) w0 w1c := cM h4d s13 (io sr)
 have h4f : Chg (· ∈ [g1]) w0 w1l := cext h4e h15
 have h4g : ∀ k ∈ [w1c.z], k ∈ [g1] ∨ w0.z ≤ k := mor h1i
 have h4h : Chg (· ∈ [g1]) w0 w1r := cM h4f h14 h4g
 have h4i : Chg (· ∈ [g1]) w0 w1g := cext h4h s11
 have h4j : Chg (· ∈ [g1]) w0 w1t := cext h4i h16
 have h2m := lt_ h1n s11.size
 have h4k : ∀ k ∈ [w1g.z], k ∈ [g1] ∨ w0.z ≤ k := mor h2m
 have h4l : Chg (· ∈ [g1]) w0 w1o := cM h4j h17 h4k
 have h4m : Chg (· ∈ [g1]) w0 w2g := cext h4l s1d
 have h4n : ∀ k ∈ [w19.z], k ∈ [g1] ∨ w0.z ≤ k := mor h12.size
 have h4o : Chg (· ∈ [g1]) w0 w49 := cM h4m h2l h4n
 exact Wr (ret1 hr (resC g_180 z_180 z h4a z) ⟨h4o, z, h39, h3a, h1k, (((((h1m.ext s11).ext h16).chg h17 (djs (mm1 (Blk.lt hB1) h2m))).ext s1d).chg h2l (djs h2k))⟩)
theorem A_w03 : ∀ n, I_impl_checker_value n
  | 0 => ⟨⟨fun hm => by intros; exact nomatch (show none = some _ from hm)⟩, ⟨fun hm => by intros; exact nomatch (show none = some _ from hm)⟩, ⟨fun hm => by intros; exact nomatch (show none = some _ from hm)⟩, ⟨fun hm => by intros; exact nomatch (show none = some _ from hm)⟩, ⟨fun hm => by intros; exact nomatch (show none = some _ from hm)⟩⟩
  | n + 1 => ⟨T_w03 (A_w03 n), T_w1d (A_w03 n), T_w1e (A_w03 n), T_w1f (A_w03 n), T_w1g (A_w03 n)⟩
theorem W_w03 : S_impl_checker_value (F_impl_checker_value n).impl_checker_value := (A_w03 n).1
theorem W_w1d : S_impl_checker_array (F_impl_checker_value n).impl_checker_array := (A_w03 n).2.1
theorem W_w1e : S_impl_checker_choice (F_impl_checker_value n).impl_checker_choice := (A_w03 n).2.2.1
theorem W_w1f : S_impl_checker_option (F_impl_checker_value n).impl_checker_option := (A_w03 n).2.2.2.1
theorem W_w1g : S_impl_checker_checked (F_impl_checker_value n).impl_checker_checked := (A_w03 n).2.2.2.2

def Q26 (w0 : World) (B : Nat) (r : Int × Int) (v : Value) (w' : World) : Prop := Bw w0 w' ∧ un2 (fun r1 r2 => v = .tuple #[vI r1, vI r2] ∧ inI r1 ∧ inI r2) r
theorem W_w2o {x1 : Desc} {x2 : Int} {x3 : List UInt8} {x4 : Int} {res : Int × Int} (hm : M_impl_CheckValue n x1 x2 x3 x4 = some res) (hBw : B ≤ w0.z) (p1_0 : repS w0 B (sl A0 N0 C0) x1.rules) (p2_0 : inI x2) (p3_0 : repS w0 B (sl A7 N7 C7) x3) (p4_0 : inI x4) : CallsR prog 122 [(.agg #[sl A0 N0 C0]), vI x2, sl A7 N7 C7, vI x4] w0 (Q26 w0 B res) := by
 unfold M_impl_CheckValue at hm
 refine goF func122 z z (lb z) fun fn hr => Ws (E z (fb z) ?_)
 rintro _ w17 ⟨rfl, h1b⟩
 have h13 := h1b.below
 have h1c : Blk w17 w0.z [sl A0 N0 C0] := h1b.blk
 refine Ra z (Ra z (Wn (Wq (Wq ?_))))
 obtain ⟨u1o, hu1p, hm1d⟩ := bdS hm
 refine WC_cut (fun a w => ∃ (x18 : Bool), x18 = u1o ∧ Sat 43 [(1, vI x2), (2, sl A7 N7 C7), (3, vI x4), (4, pt w0.z), (30, vB x18)] a ∧ Below w17.z w17 w) ?_ ?_
 ·refine Wg (R z (lN (vs := [sl A0 N0 C0]) g_30 z_30 z z fid (h1c.row 0 1 z)) (Rm z ?_))
  obtain ⟨r1q, e1r, hm1e⟩ := bdS hu1p
  refine E z (fc call170 z (W_w0r (B := B) e1r (lt_ hBw h13.size) (p1_0.ext h13) p2_0)) ?_
  rintro _ w25 ⟨s15, rfl⟩
  refine R z (not_ z) (Rm z ?_)
  rcases bs (!r1q) with hc11 | hc11
  ·exact Nh z hc11 (Nh z hc11 (R z (pT z hc11 z) (Rm z (Nh z z (Nh z z (Nh z z (Nh z z (R z (pT z z z) (Rm z (Nh z z (Nh z z (Nh z z (R z (pT z z z) (Wl (fun _ q => ⟨true, som (ifT hm1e hc11), (q.k (s5 z z z z z)), s15⟩)))))))))))))))
  have hm1f := ifF hm1e hc11
  refine Rh z hc11 (mv z) (Rh z hc11 (lss z z) (R z (pF z hc11 z) (Rm z ?_)))
  rcases bs (decide (x4 < 0)) with hc10 | hc10
  ·iterate 4 refine Nh z hc10 ?_
   exact R z (pT z hc10 z) (Rm z (Nh z z (Nh z z (Nh z z (R z (pT z z z) (Wl (fun _ q => ⟨true, som (ifT hm1f hc10), (q.k (s5 z z z z z)), s15⟩)))))))
  have hm1g := ifF hm1f hc10
  refine Rh z hc10 (mv z) (Rh z hc10 (mv z) ?_)
  have h1h := (p3_0.ext h13).ext s15
  refine Rh z hc10 (lnR d_25 z h1h) (Rh z hc10 (rd_gtr z z) (R z (pF z hc10 z) (Rm z ?_)))
  rcases bs (decide ((x3.length : Int) < x4)) with hc12 | hc12
  ·iterate 3 refine Nh z hc12 ?_
   exact R z (pT z hc12 z) (Wl (fun _ q => ⟨true, som (ifT hm1g hc12), (q.k (s5 z z z z z)), s15⟩))
  exact Rh z hc12 (mv z) (Rh z hc12 (lnR d_25 z h1h) (Rh z hc12 (rd_gtr z z) (R z (pF z hc12 z) (Wl (fun _ q => ⟨decide (400 < (x3.length : Int)), som (ifF hm1g hc12), (q.k (s5 z z z z z)), s15⟩)))))
 rintro a1s w1t ⟨x18, rfl, hS26, s14⟩
 revert a1s
 refine Wo (Wc z (fun hc19 => ?_) (fun hc19 => ?_))
 ·refine Ws (Ra z (Ra z (Wn ?_)))
  obtain rfl := som (ifT hm1d hc19)
  exact Wr (ret2 hr z z ⟨(bup h13 s14), z, (ii z), (ii z)⟩)
 refine Wk (Ws (R z (lN (vs := [sl A0 N0 C0]) g_30 z_30 z z fid ((h1c.ext s14).row 0 1 z)) (Rm z (R z (bP (parts := [(0, (.tmp 31)), (1, (.tmp 32))]) (cs := [sl A0 N0 C0, sl A7 N7 C7, vI 0]) build_202 z z) (E z (fb z) ?_)))))
 rintro _ w1u ⟨rfl, h1i⟩
 have h16 := h1i.below
 have h1v : Blk w1u w1t.z [sl A0 N0 C0, sl A7 N7 C7, vI 0] := h1i.blk
 refine Ra z (Wn (Ws (Rm z (Rm z (Rm z ?_)))))
 have h1a := lt_ h13.size s14.size
 obtain ⟨r1j, r27, e1w, hm1x⟩ := bd2S (ifF hm1d hc19)
 refine E z (fc call173 z (W_w03.run (B := B) e1w h1v (lt_ hBw h1a) (((p1_0.ext h13).ext s14).ext h16) (((p3_0.ext h13).ext s14).ext h16) (ii z) p2_0 p4_0)) ?_
 rintro _ w1y ⟨s1k, rfl, h1z, h20, h28, h29⟩
 refine E z (fa zero_180) ?_
 rintro _ w21 ⟨rfl, h1l⟩
 have h22 : Blk w21 w1y.z [vI 0, vI 0] := h1l.blk
 refine E0 (fs (cur' := [vI r1j.at_, vI r1j.code]) z_180 z z h22 z (lb z) (oA z) z) ?_
 rintro _ w2a ⟨h23, s24⟩
 refine Wn (Wq (WC_draw (X := noX) 0 (.rd 0 (.rd 1 (.rd 2 (.rd 3 (.rd 4 (.rd 5 .done)))))) mo (by kernel_rfl) fun w2b s1m _ => dR z z (fd f_180_0 z) ?_))
 have h1n := h23.ext s1m
 refine dR z z (l1 g_3 z fid (h1n.at z)) (dR z z (fd f_180_1 z) (dR z z (l1 g_3 z fid (h1n.at z)) (dR z z (asg z) (dR z z (asg z) (PR_done (Wo ?_))))))
 obtain rfl := som hm1x
 exact Wr (ret2 hr z z ⟨(bup (bM (bup (bM (bup (bup h13 s14) h16) s1k (mem1le h1a)) h1l.below) s24.one (mem1le (lt_ (lt_ h1a h16.size) s1k.size))) s1m), z, h1z, h20⟩)
theorem W_w2p {x1 : Int} {res : Str} (hm : M_impl_FormatInt x1 = some res) (hBw : B ≤ w0.z) (hG : Gl w0 B) (p1_0 : inI x1) : CallsR prog 174 [vI x1] w0 (Q11 w0 B res) := by
 unfold M_impl_FormatInt at hm
 refine goF func174 z z (lb z) fun fn hr => Ws (Ra z (Wn (Ws (Rm z ?_))))
 obtain ⟨r14, e10, hm11⟩ := bdS hm
 refine E z (fc call210 z (W_strconv_Itoa (B := B) e10 hBw hG p1_0)) ?_
 rintro _ w15 ⟨s12, rfl, h13⟩
 refine Ra z (Wn ?_)
 obtain rfl := som hm11
 exact Wr (ret1 hr z ⟨s12, z, h13⟩)
end Go.Vw

