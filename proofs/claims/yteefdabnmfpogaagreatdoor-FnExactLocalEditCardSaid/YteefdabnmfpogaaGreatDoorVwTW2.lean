import Derived.Test.YteefdabnmfpogaaGreatDoorVwTW1
set_option linter.unusedVariables false
namespace Go.Vw
open Go.RowKit Dat Go.Proofs
open Go.Proofs.Tryz
open Go.Vw renaming WC_seq → Wq, WC_region → Wg, WC.of_KC → Wo, WL_nil → Wl, WC_cond → Wc, WC_ret → Wr, WC_run → Wu, rd_pickT → pT, rd_pickF → pF, rd_field → fd, rd_load1 → l1, rd_loadN → lN, rd_move → mv, rd_assign → asg, rd_lenR → lnR, rd_lss → lss, rd_eql → eql, rd_extract → ext_, rd_buildP → bP, rd_add → add_, rd_inc → inc_, rd_not → not_, rd_at → at_, ef_call → fc, ef_store → fs, ef_box → fb, ef_alloc → fa, sub_refl → sr, crefl → cr, cchgM → cM, bchgM → bM, inI_sub → iS, inI_add → iA, brefl → br, oneAll → oA, bsplit → bs, ltge → lg, inor → io, rd_neq → nq, rd_lenT → lnT, rd_sub → sb_
variable {pa1_0 : Option Addr} {pn1_0 pc1_0 : Nat} {B : Nat} {w0 : World} {pa1_4 : Option Addr} {pa1_5 : Option Addr} {pa1_6 : Option Addr} {pa1_7 : Option Addr} {pn1_4 pc1_4 : Nat} {pn1_5 pc1_5 : Nat} {pn1_6 pc1_6 : Nat} {pn1_7 pc1_7 : Nat} {n : Nat} {pa2_4 : Option Addr} {pa2_5 : Option Addr} {pa2_6 : Option Addr} {pa2_7 : Option Addr} {pn2_4 pc2_4 : Nat} {pn2_5 pc2_5 : Nat} {pn2_6 pc2_6 : Nat} {pn2_7 pc2_7 : Nat} {pa3_0 : Option Addr} {pn3_0 pc3_0 : Nat} {pa2_0 : Option Addr} {pn2_0 pc2_0 : Nat} {pa4_0 : Option Addr} {pn4_0 pc4_0 : Nat} {pa1_1 : Option Addr} {pn1_1 pc1_1 : Nat}
theorem W_spec_LocalEdit {x1 : Desc} {x2 : List UInt8} {x3 : Str} {x4 : List UInt8} {res : (List UInt8) × Bool} (hm : M_spec_LocalEdit n x1 x2 x3 x4 = some res) (hBw : B ≤ w0.heap.size) (p1_0 : repS w0 B (sl pa1_0 pn1_0 pc1_0) x1.rules) (p2_0 : repS w0 B (sl pa2_0 pn2_0 pc2_0) x2) (p3_0 : x3.b.length ≤ LEN) (p4_0 : repS w0 B (sl pa4_0 pn4_0 pc4_0) x4) : CallsR prog 7 [(.agg #[(sl pa1_0 pn1_0 pc1_0)]), (sl pa2_0 pn2_0 pc2_0), (Str.v x3), (sl pa4_0 pn4_0 pc4_0)] w0 (Q16 w0 B res) := by
 unfold M_spec_LocalEdit at hm
 refine goF func7 z z (lb z) fun fn hr => Ws (E z (fb z) ?_)
 rintro _ w2t ⟨rfl, h1z⟩
 have h15 := h1z.below
 have h1i : Blk w2t w0.heap.size [(sl pa1_0 pn1_0 pc1_0)] := h1z.blk
 refine Ra z (Ra z (Wn (Ws (E z (ef_lit0 (α := UInt8) el_25) ?_))))
 rintro _ w3k ⟨a3l, n3m, c3n, rfl, s1b, h2u⟩
 refine Rm z ?_
 obtain ⟨x3o, e2v, hm2w⟩ := bdS hm
 have h20 := (p2_0.ext h15).ext s1b
 refine E z (ef_appendN (α := UInt8) el_25 e2v z z h2u nd_one h20) ?_
 rintro _ w3p ⟨S21, a1n, n1o, c1p, rfl, s1c, h1h, h22, h23⟩
 refine Ra z (Wn (Ws ?_))
 have h24 := (h1i.ext s1b).chg s1c (djs (mmr h1i.lt))
 refine R z (lN (vs := [(sl pa1_0 pn1_0 pc1_0)]) g_31 z_31 z z fid (h24.row 0 1 z)) (Rm z (Rm z ?_))
 have h1q := mem1le (lt_ hBw h15.size)
 have h25 := ((p1_0.ext h15).ext s1b).chg s1c (lg h1q)
 have h26 := h20.chg s1c (lg h1q)
 have h1r := lt_ h15.size s1b.size
 have h1s := lt_ h1r s1c.size
 obtain ⟨r1d, r3q, e2x, hm27⟩ := bd2S hm2w
 refine E z (fc call27 z (W_spec_LocatePart (B := B) e2x (lt_ hBw h1s) h25 h26 p3_0)) ?_
 rintro _ w2y ⟨s11, rfl, h3r, h3s, h2z, h3t⟩
 refine Rm z (R z (ext_ z z) (R z (ext_ z z) (E z (fa zero_54) ?_)))
 rintro _ w30 ⟨rfl, h28⟩
 have h14 := h28.below
 have h29 : Blk w30 w2y.heap.size [(Str.v (⟨[]⟩ : Str)), (vI 0), (vI 0), (vI 0)] := h28.blk
 refine E0 (fs (cur' := [(Str.v r1d.path), (vI r1d.rule), (vI r1d.start), (vI r1d.end_)]) z_54 z z h29 z (lb z) (oA z) z) ?_
 rintro _ w3u ⟨h1j, s31⟩
 have h13 := s31.one
 refine Ra z (Wn (Wq (Ws (Rm z (R z (not_ z) (Wn (Wc z (fun hc1t => ?_) (fun hc1t => ?_))))))))
 ·refine Ws (Rm z (Ra z (Ra z (Wn ?_))))
  obtain rfl := som (ifT hm27 hc1t)
  have h2a := mem1le h15.size
  exact Wr (ret2 hr z z ⟨(bM (bup (bup (bM (bup h15 s1b) s1c h2a) s11) h14) h13 (mem1le (lt_ h1s s11.size))), a1n, n1o, c1p, S21, z, (((h1h.ext s11).ext h14).chg h13 (dj_symm (mno (ownS.lt h1h) s11.size))), h22, (o1le h23 h2a h1r)⟩)
 refine Wk (Ws (Rm z (R z (fd f_54_2 z) (R z (l1 g_3 z fid (h1j.at z)) (R z (fd f_54_3 z) (R z (l1 g_3 z fid (h1j.at z)) (R z (fd f_54_2 z) (R z (l1 g_3 z fid (h1j.at z)) (R z (sb_ z z) (Rm z ?_))))))))))
 have h1k := lt_ h1s s11.size
 have h1u := mem1le (lt_ hBw h1k)
 have h2b := (((((p4_0.ext h15).ext s1b).chg s1c (lg h1q)).ext s11).ext h14).chg h13 (lg h1u)
 have h1v := lt_ (lt_ h1k h14.size) h13.size
 obtain ⟨r3v, r3w, e32, hm33⟩ := bd2S (ifF hm27 hc1t)
 refine E z (fc call28 z (W_spec_SpliceBytes (B := B) e32 (lt_ hBw h1v) (((h26.ext s11).ext h14).chg h13 (lg h1u)) h2z (iS _ _) h2b)) ?_
 rintro _ w2c ⟨s16, a2d, n2e, c2f, S34, rfl, h1e, h35, h36⟩
 refine Rm z (R z (ext_ z z) (R z (ext_ z z) (Ra z (Ra z (Wn (Ws ?_))))))
 have h2g := lt_ (lt_ s1b.size s1c.size) s11.size
 have h2h := (((h24.ext s11).ext h14).chg h13 (djs (mm1 h1i.lt h2g))).ext s16
 refine R z (lN (vs := [(sl pa1_0 pn1_0 pc1_0)]) g_31 z_31 z z fid (h2h.row 0 1 z)) (Rm z (Rm z ?_))
 have h2i := (((h25.ext s11).ext h14).chg h13 (lg h1u)).ext s16
 have h1l := lt_ h1v s16.size
 have h2j := lt_ hBw h1l
 obtain ⟨r1f, r37, e38, hm39⟩ := bd2S hm33
 refine E z (fc call27 z (W_spec_LocatePart (B := w2c.heap.size) e38 lr (repS.mono h2i h2j) (ownS.rep h1e) p3_0)) ?_
 rintro _ w3a ⟨s10, rfl, h3x, h3y, h3z, h40⟩
 refine Rm z (R z (ext_ z z) (R z (ext_ z z) (E z (fa zero_54) ?_)))
 rintro _ w3b ⟨rfl, h2k⟩
 have h18 := h2k.below
 have h3c : Blk w3b w3a.heap.size [(Str.v (⟨[]⟩ : Str)), (vI 0), (vI 0), (vI 0)] := h2k.blk
 refine E0 (fs (cur' := [(Str.v r1f.path), (vI r1f.rule), (vI r1f.start), (vI r1f.end_)]) z_54 z z h3c z (lb z) (oA z) z) ?_
 rintro _ w1w ⟨h3d, s3e⟩
 have h19 := s3e.one
 refine Ra z (Wn (Wq (Wq ?_)))
 obtain ⟨u3f, hu2l, hm2m⟩ := bdS hm39
 refine WC_cut (fun a w => ∃ (x1x : Bool), x1x = u3f ∧ Sat 77 [(10, (sl a1n n1o c1p)), (13, (sl a2d n2e c2f)), (74, (vB x1x))] a ∧ Below w1w.heap.size w1w w) ?_ ?_
 ·refine Wg (Rm z (R z (not_ z) (Rm z ?_)))
  rcases bs (!r37) with hc1a | hc1a
  ·iterate 4 refine Nh z hc1a ?_
   exact R z (pT z hc1a z) (Rm z (Nh z z (Nh z z (Nh z z (Nh z z (Nh z z (R z (pT z z z) (Rm z (Nh z z (Nh z z (Nh z z (Nh z z (Nh z z (Nh z z (Nh z z (Nh z z (R z (pT z z z) (Wl (fun _ q => ⟨true, som (ifT hu2l hc1a), (q.k (s3 z z z)), (br w1w)⟩)))))))))))))))))))
  refine Rh z hc1a (lN (vs := [(sl pa1_0 pn1_0 pc1_0)]) g_31 z_31 z z fid ((((h2h.ext s10).ext h18).chg h19 (djs (mm1 h1i.lt (lt_ (lt_ (lt_ (lt_ h2g h14.size) h13.size) s16.size) s10.size)))).row 0 1 z)) (Rh z hc1a (mv z) ?_)
  have h2n := mem1le (lt_ hBw (lt_ h1l s10.size))
  obtain ⟨r3g, e3h, hm2o⟩ := bdS (ifF hu2l hc1a)
  refine Eg z z hc1a z (fc call29 z (W_spec_IsFileOf (B := w2c.heap.size) e3h (lt_ (lt_ s10.size h18.size) h19.size) (repS.mono (((h2i.ext s10).ext h18).chg h19 (lg h2n)) h2j) (ownS_rep (((h1e.ext s10).ext h18).chg h19 (dj_symm (mno (ownS.lt h1e) s10.size))) (ownS.lt h1e)))) ?_
  rintro _ w41 ⟨s1g, rfl⟩
  refine Rh z hc1a (not_ z) (R z (pF z hc1a z) (Rm z ?_))
  rcases bs (!r3g) with hc17 | hc17
  ·iterate 5 refine Nh z hc17 ?_
   exact R z (pT z hc17 z) (Rm z (Nh z z (Nh z z (Nh z z (Nh z z (Nh z z (Nh z z (Nh z z (Nh z z (R z (pT z z z) (Wl (fun _ q => ⟨true, som (ifT hm2o hc17), (q.k (s3 z z z)), s1g⟩))))))))))))
  have hm2p := ifF hm2o hc17
  refine Rh z hc17 (fd f_54_2 z) ?_
  have h2q := h3d.ext s1g
  refine Rh z hc17 (l1 g_3 z fid (h2q.at z)) (Rh z hc17 (fd f_54_2 z) ?_)
  have h2r := ((((h1j.ext s16).ext s10).ext h18).chg h19 (djs (mm1 h29.lt (lt_ (lt_ h13.size s16.size) s10.size)))).ext s1g
  refine Rh z hc17 (l1 g_3 z fid (h2r.at z)) (Rh z hc17 (nq z z) (R z (pF z hc17 z) (Rm z ?_)))
  rcases bs (r1f.start != r1d.start) with hc12 | hc12
  ·iterate 8 refine Nh z hc12 ?_
   exact R z (pT z hc12 z) (Wl (fun _ q => ⟨true, som (ifT hm2p hc12), (q.k (s3 z z z)), s1g⟩))
  exact Rh z hc12 (fd f_54_3 z) (Rh z hc12 (l1 g_3 z fid (h2q.at z)) (Rh z hc12 (fd f_54_2 z) (Rh z hc12 (l1 g_3 z fid (h2r.at z)) (Rh z hc12 (mv z) (Rh z hc12 (lnR d_25 z (((((h2b.ext s16).ext s10).ext h18).chg h19 (lg h2n)).ext s1g)) (Rh z hc12 (add_ z z) (Rh z hc12 (nq z z) (R z (pF z hc12 z) (Wl (fun _ q => ⟨r1f.end_ != (iadd r1d.start (x4.length : Int)), som (ifF hm2p hc12), (q.k (s3 z z z)), s1g⟩))))))))))
 rintro a3i w42 ⟨x1x, rfl, hS43, s1m⟩
 revert a3i
 refine Wo (Wc z (fun hc1y => ?_) (fun hc1y => ?_))
 ·refine Ws (Rm z (Ra z (Ra z (Wn ?_))))
  obtain rfl := som (ifT hm2m hc1y)
  have h3j := ((((((h1h.ext s11).ext h14).chg h13 (dj_symm (mno (ownS.lt h1h) s11.size))).ext s16).ext s10).ext h18).chg h19 (dj_symm (mno (ownS.lt h1h) (lt_ (lt_ (lt_ (lt_ s11.size h14.size) h13.size) s16.size) s10.size)))
  have h2s := mem1le h15.size
  exact Wr (ret2 hr z z ⟨(bup (bM (bup (bup (bup (bM (bup (bup (bM (bup h15 s1b) s1c h2s) s11) h14) h13 (mem1le h1k)) s16) s10) h18) h19 (mem1le (lt_ h1l s10.size))) s1m), a1n, n1o, c1p, S21, z, (h3j.ext s1m), h22, (o1le h23 h2s h1r)⟩)
 refine Wk (Ws (Rm z (Ra z (Ra z (Wn ?_)))))
 obtain rfl := som (ifF hm2m hc1y)
 exact Wr (ret2 hr z z ⟨(bup (bM (bup (bup (bup (bM (bup (bup (bM (bup h15 s1b) s1c (mem1le h15.size)) s11) h14) h13 (mem1le h1k)) s16) s10) h18) h19 (mem1le (lt_ h1l s10.size))) s1m), a2d, n2e, c2f, S34, z, ((((h1e.ext s10).ext h18).chg h19 (dj_symm (mno (ownS.lt h1e) s10.size))).ext s1m), h35, (o0le h36 h1v)⟩)
theorem W_impl_SplitText {x1 : Str} {x2 : UInt8} {res : (List Str)} (hm : M_impl_SplitText x1 x2 = some res) (hBw : B ≤ w0.heap.size) (p1_0 : x1.b.length ≤ LEN) : CallsR prog 147 [(Str.v x1), (vU (byteI x2))] w0 (Q2 w0 B res) := by
 unfold M_impl_SplitText at hm
 refine goF func147 z z (lb z) fun fn hr => Ws (Ra z (Wn (Ws (E z (ef_lit0 (α := Str) el_47) ?_))))
 rintro _ w11 ⟨a22, n23, c24, rfl, s1k, h25⟩
 refine Ra z (Wn (Ws (Ra z (Wn (Wq (Ws (Ra z (Wn ?_))))))))
 obtain ⟨u3u, hu26, hm1s⟩ := bdS hm
 refine WC_forN (σ := (List Str) × Int) (ρ := (List Str)) (fun (k1b : Nat) s a w => un2 (fun x17 x15 => ∃ (a12 : Option Addr) (n13 c14 : Nat) (S10 : List Nat), Sat 35 [(0, (Str.v x1)), (1, (vU (byteI x2))), (5, (sl a12 n13 c14)), (6, (vI x15)), (7, (vI ((k1b : Nat) : Int)))] a ∧ Chg (· ∈ [w0.heap.size]) w11 w ∧ ownS w S10 (sl a12 n13 c14) x17 ∧ S10.Nodup ∧ (∀ k ∈ S10, k ∈ [w0.heap.size] ∨ w11.heap.size ≤ k) ∧ inI x15) s) (fun s a w => un2 (fun x17 x15 => ∃ (a12 : Option Addr) (n13 c14 : Nat) (S10 : List Nat), Sat 35 [(0, (Str.v x1)), (5, (sl a12 n13 c14)), (6, (vI x15))] a ∧ Chg (· ∈ [w0.heap.size]) w11 w ∧ ownS w S10 (sl a12 n13 c14) x17 ∧ S10.Nodup ∧ (∀ k ∈ S10, k ∈ [w0.heap.size] ∨ w11.heap.size ≤ k) ∧ inI x15) s) (fun r ex a w => ex = .ret ∧ RetPost prog fn (Q2 w0 B r) a w) hu26 ?_ ?_ ?_ ?_ ?_
 ·exact fun _ q => ⟨a22, n23, c24, [w0.heap.size], (q.k (s5 z z z z z)), (cr [w0.heap.size] w11), h25, nd_one, (io sr), (ii z)⟩
 ·rintro k1b ⟨x17, x15⟩ a3v w16 o3w hk1e ⟨a12, n13, c14, S10, hS27, s1t, h18, h19, h1c, h1f⟩ hm28
  have hm29 := un2S hm28
  refine Wu (e := [(0, (Str.v x1)), (1, (vU (byteI x2))), (5, (sl a12 n13 c14)), (6, (vI x15)), (7, (vI ((k1b : Nat) : Int)))]) (N := 35) ?_ hS27
  refine Wq (Ws (Rm z (Rm z (R z (lnT d_9 z) (R z (lss z z) (Wn (Wc z (fun _ => ?_) (fun hc => (nolt hk1e hc).elim))))))))
  refine Wk (Wq (WC_block (Ws (Rm z (Rm z ?_)))))
  obtain ⟨x3x, e1u, hm2a⟩ := bdS hm29
  refine R z (rd_indexStr d_9 z z (idxS e1u).1 (idxS e1u).2.1) (Rm z (R z (eql z z) (Wn ?_)))
  obtain ⟨u2b, hu1v, hm2c⟩ := bdS hm2a
  refine WC_cut (fun a w => ∃ (x1g : List Str) (x1d : Int), (x1g, x1d) = u2b ∧ ∃ (a1h : Option Addr) (n1i c1j : Nat) (S1a : List Nat), Sat 35 [(0, (Str.v x1)), (1, (vU (byteI x2))), (5, (sl a1h n1i c1j)), (6, (vI x1d)), (7, (vI ((k1b : Nat) : Int)))] a ∧ Chg (· ∈ S10) w16 w ∧ ownS w S1a (sl a1h n1i c1j) x1g ∧ S1a.Nodup ∧ (∀ k ∈ S1a, k ∈ S10 ∨ w16.heap.size ≤ k) ∧ inI x1d) ?_ ?_
  ·refine Wc z (fun hc1l => ?_) (fun hc1l => ?_)
   ·refine Ws (Rm z (Rm z (Rm z (Rm z ?_))))
    obtain ⟨x2d, e1m, hm2e⟩ := bdS (ifT hu1v hc1l)
    refine R z (rd_sliceT d_9 z z z p1_0 e1m) (E z (ef_buildSlice [(.tmp 24)] el_47 z z z (szAll z) (lb z) (lb z)) ?_)
    rintro _ w1w ⟨rfl, h1n⟩
    have h1o := h1n.below
    have h2f : Blk w1w w16.heap.size [(Str.v x2d)] := h1n.blk
    have h3y := ownS_new1 h1n (Str_own (slcT_len e1m p1_0))
    obtain ⟨x2g, e2h, hm2i⟩ := bdS hm2e
    refine E z (ef_pushN (α := Str) el_47 e2h z z (h18.ext h1o) h19 h2f (Str_own (slcT_len e1m p1_0)) all_nil nd_nil) ?_
    rintro _ w2j ⟨S1x, a2k, n2l, c2m, rfl, s2n, h2o, h2p, h2q⟩
    refine Ra z (Wn (Wg (Rm z (R z (inc_ hk1e (lt_ p1_0 LEN_le) z z) (Ra z (Wl ?_))))))
    have h2r : ∀ k ∈ S1x, k ∈ S10 ∨ w16.heap.size ≤ k := or2 h2q (io sr) all_nil (leor h1o.size)
    have h2s : Chg (· ∈ S10) w16 w1w := cext (cr S10 w16) h1o
    have h2t : Chg (· ∈ S10) w16 w2j := cM h2s s2n (io sr)
    exact fun _ q => ⟨x2g, ((k1b + 1 : Nat) : Int), som hm2i, a2k, n2l, c2m, S1x, (q.k (s5 z z z z z)), h2t, h2o, h2p, h2r, (inI_cnt (Nat.succ_le_of_lt hk1e) (lt_ p1_0 LEN_le))⟩
   exact WC_skip (fun _ q => ⟨x17, x15, som (ifF hu1v hc1l), a12, n13, c14, S10, (q.k (s5 z z z z z)), (cr S10 w16), h18, h19, (io sr), h1f⟩)
  rintro a2u w2v ⟨x1g, x1d, rfl, a1h, n1i, c1j, S1a, hS3z, s2w, h2x, h2y, h2z, h30⟩
  have hm31 := un2S hm2c
  revert a2u
  refine Wo (Wg (Rm z (R z (inc_ hk1e (lt_ p1_0 LEN_le) z z) (Ra z (Wl ?_)))))
  have h1y : ∀ k ∈ S10, k ∈ [w0.heap.size] ∨ w11.heap.size ≤ k := or1 h1c (io sr) (leor lr)
  have h32 : ∀ k ∈ S1a, k ∈ [w0.heap.size] ∨ w11.heap.size ≤ k := or1 h2z h1y (leor s1t.size)
  have h33 : Chg (· ∈ [w0.heap.size]) w11 w16 := cM (cr [w0.heap.size] w11) s1t (io sr)
  have h34 : Chg (· ∈ [w0.heap.size]) w11 w2v := cM h33 s2w h1y
  exact fun _ q => ⟨(x1g, x1d), (som hm31).symm, ⟨a1h, n1i, c1j, S1a, (q.k (s5 z z z z z)), h34, h2x, h2y, h32, h30⟩⟩
 ·rintro ⟨x17, x15⟩ a40 w35 ⟨a12, n13, c14, S10, hS36, s37, h18, h19, h1c, h1f⟩
  refine Wu (e := [(0, (Str.v x1)), (1, (vU (byteI x2))), (5, (sl a12 n13 c14)), (6, (vI x15)), (7, (vI ((x1.b.length : Nat) : Int)))]) (N := 35) ?_ hS36
  refine Wq (Ws (Rm z (Rm z (R z (lnT d_9 z) (R z (lss z z) (Wn (Wc z (fun hc => (noltt hc).elim) (fun _ => ?_))))))))
  have h38 : ∀ k ∈ S10, k ∈ [w0.heap.size] ∨ w11.heap.size ≤ k := or1 h1c (io sr) (leor lr)
  have h39 : Chg (· ∈ [w0.heap.size]) w11 w35 := cM (cr [w0.heap.size] w11) s37 (io sr)
  exact WC_exit (fun a' ha' => ⟨rfl, ⟨a12, n13, c14, S10, (Sat.weaken ha' (s3 z z z)), h39, h18, h19, h38, h1f⟩⟩)
 ·rintro ⟨x17, x15⟩ a3a w3b rfl ⟨a12, n13, c14, S10, hS41, s1z, h18, h19, h1c, h1f⟩
  have hm3c := elL hm1s
  have hm3d := un2S hm3c
  revert a3a
  refine Wo (Ws (Rm z (Rm z (Rm z ?_))))
  obtain ⟨x3e, e1p, hm3f⟩ := bdS hm3d
  refine R z (rd_sliceT d_9 z z z p1_0 e1p) (E z (ef_buildSlice [(.tmp 32)] el_47 z z z (szAll z) (lb z) (lb z)) ?_)
  rintro _ w3g ⟨rfl, h1q⟩
  have h1r := h1q.below
  have h3h : Blk w3g w3b.heap.size [(Str.v x3e)] := h1q.blk
  have h42 := ownS_new1 h1q (Str_own (slcT_len e1p p1_0))
  obtain ⟨x43, e3i, hm3j⟩ := bdS hm3f
  refine E z (ef_pushN (α := Str) el_47 e3i z z (h18.ext h1r) h19 h3h (Str_own (slcT_len e1p p1_0)) all_nil nd_nil) ?_
  rintro _ w44 ⟨S20, a3k, n3l, c3m, rfl, s3n, h3o, h3p, h3q⟩
  refine Ra z (Wn ?_)
  obtain rfl := som hm3j
  have h21 : ∀ k ∈ S10, w0.heap.size ≤ k := or1 h1c (mem1 lr) (lele s1k.size)
  have h3r : ∀ k ∈ S20, w0.heap.size ≤ k := or2 h3q h21 all_nil (lele (lt_ (lt_ s1k.size s1z.size) h1r.size))
  exact Wr (ret1 hr z ⟨(bM (bup (bM s1k s1z (mem1 lr)) h1r) s3n h21), a3k, n3l, c3m, S20, z, h3o, h3p, h3r⟩)
 rintro r45 ex46 a47 w48 rfl ⟨rfl, hq3s⟩
 have hm3t := elR hm1s
 obtain rfl := som hm3t
 exact ⟨hq3s, z⟩
theorem W_impl_IsName {x1 : Str} {res : Bool} (hm : M_impl_IsName n x1 = some res) (hBw : B ≤ w0.heap.size) (p1_0 : x1.b.length ≤ LEN) : CallsR prog 127 [(Str.v x1)] w0 (Q7 w0 B res) := by
 unfold M_impl_IsName at hm
 refine goF func127 z z (lb z) fun fn hr => Ws (Ra z (Wn (Wq (Wq ?_))))
 obtain ⟨u22, hu1o, hm1p⟩ := bdS hm
 refine WC_cut (fun a w => ∃ (x1g : Bool), x1g = u22 ∧ Sat 43 [(0, (Str.v x1)), (14, (vB x1g))] a ∧ Below w0.heap.size w0 w) ?_ ?_
 ·refine Wg (Rm z (R z (lnT d_9 z) (R z (lss z z) (Rm z ?_))))
  rcases bs (decide ((x1.b.length : Int) < 1)) with hc14 | hc14
  ·iterate 3 refine Nh z hc14 ?_
   exact R z (pT z hc14 z) (Wl (fun _ q => ⟨true, som (ifT hu1o hc14), (q.k (s2 z z)), (br w0)⟩))
  exact Rh z hc14 (mv z) (Rh z hc14 (lnT d_9 z) (Rh z hc14 (rd_gtr z z) (R z (pF z hc14 z) (Wl (fun _ q => ⟨decide (12 < (x1.b.length : Int)), som (ifF hu1o hc14), (q.k (s2 z z)), (br w0)⟩)))))
 rintro a23 w10 ⟨x1g, rfl, hS2u, s19⟩
 revert a23
 refine Wo (Wc z (fun hc1h => ?_) (fun hc1h => ?_))
 ·refine Ws (Ra z (Wn ?_))
  obtain rfl := som (ifT hm1p hc1h)
  exact Wr (ret1 hr z ⟨s19, z⟩)
 refine Wk (Wq (Ws (Rm z (E z (ef_range d_9 z) ?_))))
 rintro _ w13 ⟨rfl, s1q, h24⟩
 refine Wn ?_
 obtain ⟨u2v, hu25, hm1r⟩ := bdS (ifF hm1p hc1h)
 refine WC_iter (σ := Nat) (ρ := Bool) (fun (x11 : Nat) a w => Sat 43 [(16, (pt w10.heap.size))] a ∧ Chg (· ∈ [w10.heap.size]) w13 w ∧ IterAt w w10.heap.size x1 x11) (fun (x11 : Nat) a w => Sat 43 [] a ∧ Chg (· ∈ [w10.heap.size]) w13 w ∧ IterAt w w10.heap.size x1 x11) (fun r ex a w => ex = .ret ∧ RetPost prog fn (Q7 w0 B r) a w) hu25 ?_ ?_ ?_ ?_
 ·exact fun _ q => ⟨(q.k (s1 z)), (cr [w10.heap.size] w13), h24⟩
 ·rintro x11 a2w w1s o2x ⟨hS26, s1i, h1e⟩ hm1t
  refine Wu (e := [(16, (pt w10.heap.size))]) (N := 43) ?_ hS26
  refine Ws ?_
  rcases bs (decide (x11 < x1.b.length)) with hc1a | hc1a
  ·refine E z (ef_nextT z h1e (of_decide_eq_true hc1a)) ?_
   rintro _ w1b ⟨rfl, h27, s1u⟩
   refine R z (ext_ z z) (Wn (Wq (Wc z (fun _ => ?_) (fun hc => (bcon z hc).elim))))
   refine Wk (WC_block (Ws (R z (ext_ z z) (R z (ext_ z z) (Ra z (Ra z (Wn (Wq ?_))))))))
   obtain ⟨u28, hu1v, hm29⟩ := bdS (ifT hm1t hc1a)
   refine WC_cut (fun a w => ∃ (x1c : Bool), x1c = u28 ∧ Sat 43 [(3, (vI (x11 : Int))), (4, (.int .i32 ((dec x1 x11).1))), (5, (vB x1c)), (16, (pt w10.heap.size))] a ∧ Below w1b.heap.size w1b w) ?_ ?_
   ·refine Wg (Rm z (R z (rd_geq z z) (Rm z ?_)))
    rcases bs (decide (97 ≤ ((dec x1 x11).1))) with hc15 | hc15
    ·exact Rh z hc15 (mv z) (Rh z hc15 (rd_leq z z) (R z (pT z hc15 z) (Ra z (Wl (fun _ q => ⟨decide (((dec x1 x11).1) ≤ 122), som (ifT hu1v hc15), (q.k (s4 z z z z)), (br w1b)⟩)))))
    exact Nh z hc15 (Nh z hc15 (R z (pF z hc15 z) (Ra z (Wl (fun _ q => ⟨false, som (ifF hu1v hc15), (q.k (s4 z z z z)), (br w1b)⟩)))))
   rintro a2a w1d ⟨x1c, rfl, hS2y, s1j⟩
   revert a2a
   refine Wo (Wq ?_)
   obtain ⟨u2b, hu1w, hm2c⟩ := bdS hm29
   refine WC_cut (fun a w => ∃ (x1f : Bool), x1f = u2b ∧ Sat 43 [(3, (vI (x11 : Int))), (5, (vB x1c)), (6, (vB x1f)), (16, (pt w10.heap.size))] a ∧ Below w1d.heap.size w1d w) ?_ ?_
   ·refine Wg (Rm z (R z (rd_geq z z) (Rm z ?_)))
    rcases bs (decide (48 ≤ ((dec x1 x11).1))) with hc16 | hc16
    ·exact Rh z hc16 (mv z) (Rh z hc16 (rd_leq z z) (R z (pT z hc16 z) (Ra z (Wl (fun _ q => ⟨decide (((dec x1 x11).1) ≤ 57), som (ifT hu1w hc16), (q.k (s4 z z z z)), (br w1d)⟩)))))
    exact Nh z hc16 (Nh z hc16 (R z (pF z hc16 z) (Ra z (Wl (fun _ q => ⟨false, som (ifF hu1w hc16), (q.k (s4 z z z z)), (br w1d)⟩)))))
   rintro a2d w18 ⟨x1f, rfl, hS2z, s1k⟩
   revert a2d
   refine Wo (Wq ?_)
   obtain ⟨u2e, hu1x, hm1y⟩ := bdS hm2c
   refine WC_cut (fun a w => ∃ (x1l : Bool), x1l = u2e ∧ Sat 43 [(16, (pt w10.heap.size)), (42, (vB x1l))] a ∧ Below w18.heap.size w18 w) ?_ ?_
   ·refine Wg (Rm z (R z (not_ z) (Rm z ?_)))
    rcases bs (!x1c) with hc12 | hc12
    ·have hm1z := ifT hu1x hc12
     refine Rh z hc12 (mv z) (Rh z hc12 (not_ z) (Rh z hc12 (mv z) ?_))
     rcases bs (!x1f) with hc17 | hc17
     ·exact Nh z hc17 (Nh z hc17 (Rh z hc12 (pT z hc17 z) (R z (pT z hc12 z) (Wl (fun _ q => ⟨true, som (ifT hm1z hc17), (q.k (s2 z z)), (br w18)⟩)))))
     exact Rh z hc17 (mv z) (Rh z hc17 (eql z z) (Rh z hc12 (pF z hc17 z) (R z (pT z hc12 z) (Wl (fun _ q => ⟨(x11 : Int) == 0, som (ifF hm1z hc17), (q.k (s2 z z)), (br w18)⟩)))))
    iterate 3 refine Nh z hc12 ?_
    exact Nv z (Nv z (Nh z hc12 (R z (pF z hc12 z) (Wl (fun _ q => ⟨false, som (ifF hu1x hc12), (q.k (s2 z z)), (br w18)⟩)))))
   rintro a2f w2g ⟨x1l, rfl, hS30, s1m⟩
   revert a2f
   refine Wo (Wc z (fun hc1n => ?_) (fun hc1n => ?_))
   ·refine Ws (Ra z (Wn ?_))
    have h20 := mem1le s19.size
    exact Wr (rtO (QO_retL (som (ifT hm1y hc1n)).symm (ret1 hr z ⟨(bup (bup (bup (bM (bM (bup s19 s1q) s1i h20) s1u h20) s1j) s1k) s1m), z⟩)))
   refine WC_skip ?_
   have h2h : Chg (· ∈ [w10.heap.size]) w13 w1s := cM (cr [w10.heap.size] w13) s1i (io sr)
   have h2i : Chg (· ∈ [w10.heap.size]) w13 w1b := cM h2h s1u (io sr)
   have h2j : Chg (· ∈ [w10.heap.size]) w13 w1d := cext h2i s1j
   have h2k : Chg (· ∈ [w10.heap.size]) w13 w18 := cext h2j s1k
   have h2l : Chg (· ∈ [w10.heap.size]) w13 w2g := cext h2k s1m
   exact fun _ q => ⟨x11 + (dec x1 x11).2, (som (ifF hm1y hc1n)).symm, ⟨(q.k (s1 z)), h2l, (((h27.ext s1j).ext s1k).ext s1m)⟩⟩
  refine E z (ef_nextF z h1e (of_decide_eq_false hc1a)) ?_
  rintro _ w2m ⟨rfl, s21⟩
  refine R z (ext_ z z) (Wn (Wq (Wc z (fun hc => (bcon hc z).elim) (fun _ => ?_))))
  have h2n : Chg (· ∈ [w10.heap.size]) w13 w1s := cM (cr [w10.heap.size] w13) s1i (io sr)
  have h2o : Chg (· ∈ [w10.heap.size]) w13 w2m := cext h2n s21
  exact WC_exit (fun a' ha' => QO_brk (som (ifF hm1t hc1a)).symm ⟨(Sat.weaken ha' sn), h2o, (h1e.ext s21)⟩)
 ·rintro x11 a2p w31 rfl ⟨hS32, s2q, h1e⟩
  have hm2r := elL hm1r
  revert a2p
  refine Wo (Ws (Ra z (Wn ?_)))
  obtain rfl := som hm2r
  exact Wr (ret1 hr z ⟨(bM (bup s19 s1q) s2q (mem1le s19.size)), z⟩)
 rintro r33 ex34 a35 w36 rfl ⟨rfl, hq2s⟩
 have hm2t := elR hm1r
 obtain rfl := som hm2t
 exact ⟨hq2s, z⟩
theorem W_impl_ParseInt {x1 : Str} {res : Int × Bool} (hm : M_impl_ParseInt x1 = some res) (hBw : B ≤ w0.heap.size) (p1_0 : x1.b.length ≤ LEN) : CallsR prog 128 [(Str.v x1)] w0 (Q9 w0 B res) := by
 unfold M_impl_ParseInt at hm
 refine goF func128 z z (lb z) fun fn hr => Ws (Ra z (Ra z (Wn (Wq (Wq ?_)))))
 obtain ⟨u1v, hu1f, hm1g⟩ := bdS hm
 refine WC_cut (fun a w => ∃ (x1a : Bool), x1a = u1v ∧ Sat 50 [(0, (Str.v x1)), (22, (vB x1a))] a ∧ Below w0.heap.size w0 w) ?_ ?_
 ·refine Wg (Rm z (R z (rd_eqlT z z) (Rm z ?_)))
  rcases bs (x1.b == (⟨[]⟩ : Str).b) with hc13 | hc13
  ·iterate 3 refine Nh z hc13 ?_
   exact R z (pT z hc13 z) (Rm z (Nh z z (Nh z z (Nh z z (Nh z z (Nv z (Nv z (Nv z (Nh z z (R z (pT z z z) (Wl (fun _ q => ⟨true, som (ifT hu1f hc13), (q.k (s2 z z)), (br w0)⟩))))))))))))
  have hm1h := ifF hu1f hc13
  refine Rh z hc13 (mv z) (Rh z hc13 (lnT d_9 z) (Rh z hc13 (rd_gtr z z) (R z (pF z hc13 z) (Rm z ?_))))
  rcases bs (decide (13 < (x1.b.length : Int))) with hc10 | hc10
  ·iterate 4 refine Nh z hc10 ?_
   exact Nv z (Nv z (Nv z (Nh z hc10 (R z (pT z hc10 z) (Wl (fun _ q => ⟨true, som (ifT hm1h hc10), (q.k (s2 z z)), (br w0)⟩))))))
  refine Rh z hc10 (mv z) ?_
  obtain ⟨x1w, e1i, hm1j⟩ := bdS (ifF hm1h hc10)
  refine Rh z hc10 (rd_indexStr d_9 z z (idxS e1i).1 (idxS e1i).2.1) (Rh z hc10 (eql z z) (Rh z hc10 (mv z) ?_))
  rcases bs ((byteI x1w) == (byteI (48 : UInt8))) with hc14 | hc14
  ·exact Rh z hc14 (mv z) (Rh z hc14 (lnT d_9 z) (Rh z hc14 (rd_gtr z z) (Rh z hc10 (pT z hc14 z) (R z (pF z hc10 z) (Wl (fun _ q => ⟨decide (1 < (x1.b.length : Int)), som (ifT hm1j hc14), (q.k (s2 z z)), (br w0)⟩))))))
  iterate 3 refine Nh z hc14 ?_
  exact Rh z hc10 (pF z hc14 z) (R z (pF z hc10 z) (Wl (fun _ q => ⟨false, som (ifF hm1j hc14), (q.k (s2 z z)), (br w0)⟩)))
 rintro a1x w15 ⟨x1a, rfl, hS2e, s16⟩
 revert a1x
 refine Wo (Wc z (fun hc1b => ?_) (fun hc1b => ?_))
 ·refine Ws (Ra z (Ra z (Wn ?_)))
  obtain rfl := som (ifT hm1g hc1b)
  exact Wr (ret2 hr z z ⟨s16, z, (ii z)⟩)
 refine Wk (Ws (Ra z (Wn (Wq (Ws (Ra z (Wn ?_)))))))
 obtain ⟨u2f, hu1y, hm1k⟩ := bdS (ifF hm1g hc1b)
 refine WC_forN (σ := Int) (ρ := Int × Bool) (fun (k17 : Nat) (x11 : Int) a w => Sat 50 [(0, (Str.v x1)), (4, (vI x11)), (5, (vI ((k17 : Nat) : Int)))] a ∧ Below w15.heap.size w15 w ∧ inI x11) (fun (x11 : Int) a w => Sat 50 [(4, (vI x11))] a ∧ Below w15.heap.size w15 w ∧ inI x11) (fun r ex a w => ex = .ret ∧ RetPost prog fn (Q9 w0 B r) a w) hu1y ?_ ?_ ?_ ?_ ?_
 ·exact fun _ q => ⟨(q.k (s3 z z z)), (br w15), (ii z)⟩
 ·rintro k17 x11 a2g w18 o2h hk1l ⟨hS1z, s1m, h19⟩ hm20
  refine Wu (e := [(0, (Str.v x1)), (4, (vI x11)), (5, (vI ((k17 : Nat) : Int)))]) (N := 50) ?_ hS1z
  refine Wq (Ws (Rm z (Rm z (R z (lnT d_9 z) (R z (lss z z) (Wn (Wc z (fun _ => ?_) (fun hc => (nolt hk1l hc).elim))))))))
  refine Wk (Wq (WC_block (Wq (Wq ?_))))
  obtain ⟨u21, hu22, hm1n⟩ := bdS hm20
  refine WC_cut (fun a w => ∃ (x1c : Bool), x1c = u21 ∧ Sat 50 [(0, (Str.v x1)), (4, (vI x11)), (5, (vI ((k17 : Nat) : Int))), (38, (vB x1c))] a ∧ Below w18.heap.size w18 w) ?_ ?_
  ·refine Wg (Rm z (Rm z ?_))
   obtain ⟨x23, e1o, hm1p⟩ := bdS hu22
   refine R z (rd_indexStr d_9 z z (idxS e1o).1 (idxS e1o).2.1) (R z (lss z z) (Rm z ?_))
   rcases bs (decide ((byteI x23) < (byteI (48 : UInt8)))) with hc12 | hc12
   ·iterate 4 refine Nh z hc12 ?_
    exact R z (pT z hc12 z) (Wl (fun _ q => ⟨true, som (ifT hm1p hc12), (q.k (s4 z z z z)), (br w18)⟩))
   refine Rh z hc12 (mv z) (Rh z hc12 (mv z) ?_)
   obtain ⟨x24, e1q, hm25⟩ := bdS (ifF hm1p hc12)
   exact Rh z hc12 (rd_indexStr d_9 z z (idxS e1q).1 (idxS e1q).2.1) (Rh z hc12 (rd_gtr z z) (R z (pF z hc12 z) (Wl (fun _ q => ⟨decide ((byteI (57 : UInt8)) < (byteI x24)), som hm25, (q.k (s4 z z z z)), (br w18)⟩))))
  rintro a26 w2i ⟨x1c, rfl, hS2j, s1r⟩
  revert a26
  refine Wo (Wc z (fun hc1d => ?_) (fun hc1d => ?_))
  ·exact Ws (Ra z (Ra z (Wn (Wr (rtO (QO_retL (som (ifT hm1n hc1d)).symm (ret2 hr z z ⟨(bup (bup s16 s1m) s1r), z, (ii z)⟩)))))))
  refine Wk (Wg (Rm z (R z (rd_mul z z) (Rm z (Rm z ?_)))))
  obtain ⟨x27, e1s, hm28⟩ := bdS (ifF hm1n hc1d)
  exact R z (rd_indexStr d_9 z z (idxS e1s).1 (idxS e1s).2.1) (R z (rd_subB z z) (R z (rd_convUI d_5 d_3 z) (R z (add_ z z) (Ra z (Wn (Wg (Rm z (R z (inc_ hk1l (lt_ p1_0 LEN_le) z z) (Ra z (Wl (fun _ q => ⟨iadd (imul 10 x11) (byteI (mkB (byteI x27 - byteI (48 : UInt8)))), (som hm28).symm, ⟨(q.k (s3 z z z)), (bup s1m s1r), (iA _ _)⟩⟩)))))))))))
 ·rintro x11 a2k w2l ⟨hS29, s2a, h19⟩
  refine Wu (e := [(0, (Str.v x1)), (4, (vI x11)), (5, (vI ((x1.b.length : Nat) : Int)))]) (N := 50) ?_ hS29
  refine Wq (Ws (Rm z (Rm z (R z (lnT d_9 z) (R z (lss z z) (Wn (Wc z (fun hc => (noltt hc).elim) (fun _ => ?_))))))))
  exact WC_exit (fun a' ha' => ⟨rfl, ⟨(Sat.weaken ha' (s1 z)), s2a, h19⟩⟩)
 ·rintro x11 a2b w2m rfl ⟨hS2n, s1t, h19⟩
  have hm1u := elL hm1k
  revert a2b
  refine Wo (Wq (Ws (Rm z (R z (rd_gtr z z) (Wn (Wc z (fun hc1e => ?_) (fun hc1e => ?_)))))))
  ·refine Ws (Ra z (Ra z (Wn ?_)))
   obtain rfl := som (ifT hm1u hc1e)
   exact Wr (ret2 hr z z ⟨(bup s16 s1t), z, (ii z)⟩)
  refine Wk (Ws (Rm z (Ra z (Ra z (Wn ?_)))))
  obtain rfl := som (ifF hm1u hc1e)
  exact Wr (ret2 hr z z ⟨(bup s16 s1t), z, h19⟩)
 rintro r2o ex2p a2q w2r rfl ⟨rfl, hq2c⟩
 have hm2d := elR hm1k
 obtain rfl := som hm2d
 exact ⟨hq2c, z⟩
theorem W_impl_IsStep {x1 : Str} {res : Bool} (hm : M_impl_IsStep n x1 = some res) (hBw : B ≤ w0.heap.size) (p1_0 : x1.b.length ≤ LEN) : CallsR prog 94 [(Str.v x1)] w0 (Q7 w0 B res) := by
 unfold M_impl_IsStep at hm
 refine goF func94 z z (lb z) fun fn hr => Ws (Ra z (Wn (Wq (Wq ?_))))
 obtain ⟨u1b, hu1c, hm17⟩ := bdS hm
 refine WC_cut (fun a w => ∃ (x14 : Bool), x14 = u1b ∧ Sat 25 [(0, (Str.v x1)), (18, (vB x14))] a ∧ Below w0.heap.size w0 w) ?_ ?_
 ·refine Wg (Rm z ?_)
  obtain ⟨r1d, e1e, hm18⟩ := bdS hu1c
  refine E z (fc call127 z (W_impl_IsName (B := B) e1e hBw p1_0)) ?_
  rintro _ w1j ⟨s13, rfl⟩
  refine Rm z ?_
  rcases bs r1d with hc10 | hc10
  ·exact Nh z hc10 (Nh z hc10 (R z (pT z hc10 z) (Rm z (Nh z z (Nh z z (R z (pT z z z) (Rm z (Nh z z (Nh z z (R z (pT z z z) (Wl (fun _ q => ⟨true, som (ifT hm18 hc10), (q.k (s2 z z)), s13⟩))))))))))))
  have hm19 := ifF hm18 hc10
  refine Rh z hc10 (mv z) (Rh z hc10 (rd_eqlT z z) (R z (pF z hc10 z) (Rm z ?_)))
  rcases bs (x1.b == (⟨[42]⟩ : Str).b) with hc11 | hc11
  ·exact Nh z hc11 (Nh z hc11 (R z (pT z hc11 z) (Rm z (Nh z z (Nh z z (R z (pT z z z) (Wl (fun _ q => ⟨true, som (ifT hm19 hc11), (q.k (s2 z z)), s13⟩))))))))
  have hm1a := ifF hm19 hc11
  refine Rh z hc11 (mv z) (Rh z hc11 (rd_eqlT z z) (R z (pF z hc11 z) (Rm z ?_)))
  rcases bs (x1.b == (⟨[63]⟩ : Str).b) with hc12 | hc12
  ·exact Nh z hc12 (Nh z hc12 (R z (pT z hc12 z) (Wl (fun _ q => ⟨true, som (ifT hm1a hc12), (q.k (s2 z z)), s13⟩))))
  exact Rh z hc12 (mv z) (Rh z hc12 (rd_eqlT z z) (R z (pF z hc12 z) (Wl (fun _ q => ⟨x1.b == (⟨[43]⟩ : Str).b, som (ifF hm1a hc12), (q.k (s2 z z)), s13⟩))))
 rintro a1f w1k ⟨x14, rfl, hS1l, s15⟩
 revert a1f
 refine Wo (Wc z (fun hc16 => ?_) (fun hc16 => ?_))
 ·refine Ws (Ra z (Wn ?_))
  obtain rfl := som (ifT hm17 hc16)
  exact Wr (ret1 hr z ⟨s15, z⟩)
 refine Wk (Ws (Rm z ?_))
 obtain ⟨r1m, r1n, e1g, hm1h⟩ := bd2S (ifF hm17 hc16)
 refine E z (fc call128 z (W_impl_ParseInt (B := B) e1g (lt_ hBw s15.size) p1_0)) ?_
 rintro _ w1o ⟨s1i, rfl, h1p⟩
 refine Rm z (R z (ext_ z z) (R z (ext_ z z) (Ra z (Ra z (Wn (Ws (Rm z (Ra z (Wn ?_)))))))))
 obtain rfl := som hm1h
 exact Wr (ret1 hr z ⟨(bup s15 s1i), z⟩)
def Q17 (w0 : World) (B : Nat) (r : (List Str) × Bool) (v : Value) (w' : World) : Prop := Bw w0 w' ∧ un2 (fun r1 r2 => ∃ (a1 : Option Addr) (n1 c1 : Nat) (S1 : List Nat), v = .tuple #[(sl a1 n1 c1), (vB r2)] ∧ ownS w' S1 (sl a1 n1 c1) r1 ∧ S1.Nodup ∧ (∀ k ∈ S1, w0.heap.size ≤ k)) r
theorem split_stops_impl_splitWith_impl_IsStep {w : World} {gp b : Nat} {s : Str} {l0 parts : List Str} (hs : s.b.length ≤ LEN) (hm : M_impl_SplitText s (47 : UInt8) = some l0) (hsl : slc l0 1 (l0.length : Int) = some parts) (hp : Blk w gp [Str.v s]) (hb : b < w.heap.size) (hrow : ∀ g, rowOf w b g → g < w.heap.size) :
    SeqStopsK (α := {x : Str // x ∈ parts ∧ x.b.length ≤ LEN}) Fence.wide 1 Tryz.prog 146 [pt gp].toArray (fun x => #[x.1.v]) (KpS b) (fun xs => xs.map (·.1) = parts) (fun _ => True) parts.length w := by
  intro l J Jx W hW hJ hJx hY h0
  have hpW := hp.ext hW
  have hrowW : ∀ g, rowOf W b g → g < W.heap.size := fun g ⟨n, c, h⟩ => by
    have h' : w.cell? ⟨b, 0, none⟩ = some (sl (some ⟨g, 0, none⟩) n c) := (World.cell?_of_block (w := w) (w' := W) (a := ⟨b, 0, none⟩) (hW.block b hb)).symm.trans h
    exact Nat.lt_of_lt_of_le (hrow g ⟨n, c, h'⟩) hW.size
  have hbW := Nat.lt_of_lt_of_le hb hW.size
  have hc : CallsR Tryz.prog 146 [.func (.yield l) #[] #[], pt gp] W (fun _ W' => (∃ xs : List {x : Str // x ∈ parts ∧ x.b.length ≤ LEN}, xs.map (·.1) = parts ∧ J xs W') ∨ (∃ pre, True ∧ Jx pre W')) := by
    obtain ⟨fn, hf, hbd, hN, hr⟩ := fnE Tryz.func146
    refine CallsR_of_WC hf (hbd.trans rfl) (hN.trans rfl) (Nat.le_of_ble_eq_true rfl) ?_
    refine WC_seq (WC_region ?_)
    refine R rfl (rd_load1 g_9 rfl (fun h => h) (hpW.at rfl)) ?_
    refine E rfl (ef_call Tryz.call147 rfl (W_impl_SplitText (B := W.heap.size) hm (Nat.le_refl _) hs)) ?_
    rintro _ W1 ⟨s1, a1, n1, c1, S1, rfl, ho, nd, hge⟩
    refine RX rfl (rd_sliceG d_47 z_9 rfl ho rfl rfl hsl) ?_
    intro v7 hv7
    obtain ⟨ao7, c7, rfl, _⟩ := id hv7
    refine R rfl (rd_lenR d_47 rfl (hv7.repS (B := W1.heap.size) (fun k hk => ho.lt k hk))) ?_
    refine R rfl (rd_move rfl) ?_
    refine WL_nil (WC.of_KC ?_)
    have hJ1 : J [] W1 := hJ [] W W1 none h0 (Below.grows s1) (fun r h => by cases h)
    have hb1 : b ∉ S1 := fun h => absurd (hge b h) (Nat.not_le.2 hbW)
    have hr1 : ∀ g, rowOf W1 b g → g ∉ S1 := fun g ⟨n, c, h⟩ hg => by
      have h' : W.cell? ⟨b, 0, none⟩ = some (sl (some ⟨g, 0, none⟩) n c) := (World.cell?_of_block (w := W) (w' := W1) (a := ⟨b, 0, none⟩) (s1.block b hbW)).symm.trans h
      exact absurd (hge g hg) (Nat.not_le.2 (hrowW g ⟨n, c, h'⟩))
    have hlenL : parts.length ≤ 9223372036854775807 := Nat.le_trans (by obtain ⟨_, _, _, _, h, _⟩ := hv7; exact h) LEN_le
    refine WC_block fun a ha => ?_
    refine Code.wp_mono (Q := Exit.then noK (fun ex a w => (ex = .exit 0 ∧ RetPost Tryz.prog fn (fun _ W' => (∃ xs : List {x : Str // x ∈ parts ∧ x.b.length ≤ LEN}, xs.map (·.1) = parts ∧ J xs W') ∨ (∃ pre, True ∧ Jx pre W')) a w) ∨ (ex = .ret ∧ RetPost Tryz.prog fn (fun _ W' => (∃ xs : List {x : Str // x ∈ parts ∧ x.b.length ≤ LEN}, xs.map (·.1) = parts ∧ J xs W') ∨ (∃ pre, True ∧ Jx pre W')) a w))) (fun ex a' w' q => ?_) (wp_loop_ghost (fun m a w => ∃ (k : Nat) (pre : List {x : Str // x ∈ parts ∧ x.b.length ≤ LEN}), k + m = parts.length ∧ pre.map (·.1) = parts.take k ∧ Sat 18 [(9, vI (k : Int)), (8, vI (parts.length : Int)), (7, sl ao7 parts.length c7), (0, .func (.yield l) #[] #[])] a ∧ J pre w ∧ ownS w S1 (sl a1 n1 c1) l0 ∧ (∀ g, rowOf w b g → g ∉ S1) ∧ rowS w (· ∈ S1) (sl ao7 parts.length c7) parts) parts.length ?_ ?_)
    · cases ex with
      | normal => exact (show False from q).elim
      | exit i =>
        rcases q with ⟨h, q⟩ | ⟨h, _⟩
        · cases h; exact q
        · cases h
      | ret =>
        rcases q with ⟨h, _⟩ | ⟨_, q⟩
        · cases h
        · exact q
      | _ => rcases q with ⟨h, _⟩ | ⟨h, _⟩ <;> cases h
    · exact ⟨0, [], by omega, by simp, ha.weaken (sc rfl (sc rfl (sc rfl (sc rfl sn)))), hJ1, ho, hr1, hv7⟩
    · rintro m a w ⟨k, pre, hkm, hpre, hsat, hJw, how, hrw, hvw⟩
      refine WC_run (N := 18) (e := [(9, vI (k : Int)), (8, vI (parts.length : Int)), (7, sl ao7 parts.length c7), (0, .func (.yield l) #[] #[])]) ?_ hsat
      refine WC_seq (WC_region (R rfl (rd_lss rfl rfl) (WL_nil (WC.of_KC ?_))))
      refine WC_seq (WC_cond rfl (fun hc => ?_) (fun hc => ?_))
      · have hk : k < parts.length := by simpa using hc
        obtain ⟨m, rfl⟩ : ∃ m', m = m' + 1 := ⟨m - 1, by omega⟩
        refine WC_skip (WC.of_KC ?_)
        refine WC_seq (WC_block ?_)
        refine WC_seq (WC_region ?_)
        have hrep := hvw.repS (B := w.heap.size) (fun k hk => how.lt k hk)
        have hidx : idx parts (k : Int) = some parts[k] := by rw [idx_nat]; simp [hk]
        refine RX rfl (rd_at (α := Str) d_47 z_9 rfl rfl rfl hrep hidx) ?_
        rintro _ ⟨bb, oo, cs, rfl, hc1, hrr, hlt⟩
        obtain ⟨rfl, hxl⟩ := Str_open hrr
        refine R rfl (rd_load1 g_9 rfl (fun h => h) (hc1.at0 rfl)) ?_
        refine R rfl (rd_assign rfl) ?_
        refine WL_nil (WC.of_KC ?_)
        refine WC_seq (WC_regionW ?_)
        refine WLW_rd rfl (rd_move rfl) ?_
        refine WLW_rd rfl (rd_move rfl) ?_
        have hpl : pre.length = k := by
          have := congrArg List.length hpre
          simp at this; omega
        refine WLW_yield (S := fun v w' => (v = vB true ∧ J (pre ++ [⟨parts[k], List.getElem_mem hk, hxl⟩]) w' ∧ KpS b w w') ∨ (v = vB false ∧ Jx (pre ++ [⟨parts[k], List.getElem_mem hk, hxl⟩]) w')) rfl rfl rfl (hY pre ⟨parts[k], List.getElem_mem hk, hxl⟩ w hJw (by omega)) (fun e w' h => ?_) ?_
        · rcases h with ⟨rfl, h⟩ | ⟨rfl, h⟩
          · exact ⟨_, rfl, .inl ⟨rfl, h⟩⟩
          · exact ⟨_, rfl, .inr ⟨rfl, h⟩⟩
        rintro v w' (⟨rfl, hJ', hK⟩ | ⟨rfl, hX⟩)
        · refine WLW_rd rfl (rd_not rfl) ?_
          refine WLW_nil (WC.of_KC ?_)
          refine WC_cond rfl (fun h => by cases h) (fun _ => ?_)
          refine WC_skip (WC.of_KC ?_)
          refine WC_region (R rfl (rd_inc hk hlenL rfl rfl) (R rfl (rd_move rfl) ?_))
          obtain ⟨ho', hr'⟩ := hK.own how hb1 hrw
          have hv' : rowS w' (· ∈ S1) (sl ao7 parts.length c7) parts := hvw.stay fun g hg => hK.chg.block g (how.lt g hg) fun hm => by
            rcases hm with rfl | hm | ⟨o, ho2, hcl⟩
            · exact hb1 hg
            · exact hrw g hm hg
            · obtain ⟨cur, hB⟩ := ownS_cells how g hg
              rw [hB.isCells ho2] at hcl; cases hcl
          refine WL_nil fun a' ha' => ⟨m, Nat.lt_succ_self _, k + 1, pre ++ [⟨parts[k], List.getElem_mem hk, hxl⟩], by omega, ?_, ha'.weaken (sc rfl (sc rfl (sc rfl (sc rfl sn)))), hJ', ho', hr', hv'⟩
          rw [List.map_append, hpre, List.take_add_one, List.getElem?_eq_getElem hk]; rfl
        · refine WLW_rd rfl (rd_not rfl) ?_
          refine WLW_nil (WC.of_KC ?_)
          refine WC_cond rfl (fun _ => ?_) (fun h => by cases h)
          exact WC_ret (rtO fun a' ha' => .inr ⟨rfl, ret0 hr (.inr ⟨_, trivial, hX⟩) a' ha'⟩)
      · have hk : ¬ k < parts.length := by simpa using hc
        have : k = parts.length := by omega
        subst this
        refine WC_exit fun a' ha' => .inl ⟨rfl, ret0 hr (.inl ⟨pre, ?_, hJw⟩) a' ha'⟩
        rw [hpre, List.take_length]
  refine callsIn_wide.2 (hc.run.mono fun e w' ⟨v, he, h⟩ => ⟨⟨v, he⟩, h⟩)

theorem below_grown_impl_splitWith_impl_IsStep {w0 W W' : World} {row : Option Nat} (h : Below w0.heap.size w0 W) (hg : W.grownBy W' row) (hr : ∀ r, row = some r → w0.heap.size ≤ r) : Below w0.heap.size w0 W' := bchg h (grown_chg hg) fun k hk e => absurd (hr k e) (Nat.not_le.2 hk)
def Q_stepsOf_impl_splitWith_impl_IsStep (w0 : World) (s : Str) (v : Value) (w' : World) : Prop := v = .func (.func 146) #[] #[pt w0.heap.size] ∧ Blk w' w0.heap.size [Str.v s] ∧ Bw w0 w'
theorem W_stepsOf_impl_splitWith_impl_IsStep {w0 : World} {s : Str} : CallsR Tryz.prog 126 [Str.v s] w0 (Q_stepsOf_impl_splitWith_impl_IsStep w0 s) := by
  obtain ⟨fn, hf, hb, hN, hr⟩ := fnE Tryz.func126
  refine CallsR_of_WC hf (hb.trans rfl) (hN.trans rfl) (Nat.le_of_ble_eq_true rfl) ?_
  refine WC_seq (WC_region ?_)
  refine E rfl (ef_box rfl) ?_
  rintro _ w1 ⟨rfl, h1⟩
  have b1 : Blk w1 w0.heap.size [Str.v s] := h1.blk
  refine R rfl (rd_assign rfl) ?_
  refine WL_nil (WC.of_KC ?_)
  refine WC_seq (WC_region ?_)
  refine R rfl (rd_makeFunc rfl) ?_
  refine R rfl (rd_assign rfl) ?_
  refine WL_nil (WC.of_KC ?_)
  exact WC_ret (ret1 hr rfl ⟨rfl, b1, h1.below⟩)
theorem W_impl_splitWith_impl_IsStep {n : Nat} {B : Nat} {x1 : Str} {res : (List Str) × Bool} {w0 : World} (hm : M_impl_splitWith_impl_IsStep n x1 = some res) (hBw : B ≤ w0.heap.size) (p1_0 : x1.b.length ≤ LEN) : CallsR Tryz.prog 93 [(Str.v x1), .func (.func 94) #[] #[]] w0 (Q17 w0 B res) := by
  unfold M_impl_splitWith_impl_IsStep at hm
  obtain ⟨fn, hf, hb, hN, hr⟩ := fnE Tryz.func93
  refine CallsR_of_marks hf (hb.trans rfl) (hN.trans rfl) (Nat.le_of_ble_eq_true rfl) ?_
  -- the cells
  refine WC_seq (WC_region ?_)
  refine E rfl (ef_box rfl) ?_
  rintro _ w1 ⟨rfl, h1⟩
  have b3 : Blk w1 w0.heap.size [.func (.func 94) #[] #[]] := h1.blk
  refine E rfl (ef_alloc zero_47) ?_
  rintro _ w2 ⟨rfl, h2⟩
  have b4 : Blk w2 w1.heap.size [.slice none 0 0] := h2.blk
  refine E rfl (ef_alloc zero_4) ?_
  rintro _ w3 ⟨rfl, h3⟩
  have b5 : Blk w3 w2.heap.size [vB false] := h3.blk
  refine WL_nil (WC.of_KC ?_)
  refine WC_seq (WC_region ?_)
  refine E rfl (ef_lit0 (α := Str) el_47) ?_
  rintro _ w4 ⟨a, m, c, rfl, s4, ho4⟩
  refine E rfl (ef_alloc zero_47) ?_
  rintro _ w5 ⟨rfl, h5⟩
  have b6 : Blk w5 w4.heap.size [.slice none 0 0] := h5.blk
  refine E0 (ef_store (cur' := [.slice a m c]) z_47 rfl rfl b6 rfl (Nat.le_of_ble_eq_true rfl) (oneAll rfl) rfl) ?_
  rintro _ w6 ⟨c6, s6⟩
  have t6 := s6.one
  refine WL_nil (WC.of_KC ?_)
  -- what is known behind
  have g1 := h1.below; have g2 := h2.below; have g3 := h3.below; have g5 := h5.below
  have z1 := h1.size; have z2 := h2.size; have z3 := h3.size; have z5 := h5.size; have z4 := s4.size; have z6 := s6.size
  have hz : w0.heap.size < w1.heap.size ∧ w1.heap.size < w2.heap.size ∧ w2.heap.size < w3.heap.size ∧ w3.heap.size < w4.heap.size ∧ w4.heap.size < w6.heap.size := by
    have := ho4.lt _ List.mem_cons_self
    omega
  have k3 : Blk w6 w0.heap.size [.func (.func 94) #[] #[]] := (((((b3.ext g2).ext g3).ext s4).ext g5).chg s6 (by omega))
  have k4 : Blk w6 w1.heap.size [.slice none 0 0] := ((((b4.ext g3).ext s4).ext g5).chg s6 (by omega))
  have k5 : Blk w6 w2.heap.size [vB false] := (((b5.ext s4).ext g5).chg s6 (by omega))
  have kS : ownS w6 [w3.heap.size] (sl a m c) ([] : List Str) := (ho4.ext g5).chg s6 (fun k hk => by have := List.mem_singleton.1 hk; omega)
  have kB : Below w0.heap.size w0 w6 := bchgM (bup (bup (bup (bup g1 g2) g3) s4) g5) t6 (fun k hk => by have := List.mem_singleton.1 hk; omega)
  clear b3 b4 b5 b6 ho4 h1 h2 h3 h5 s4 s6 t6 g1 g2 g3 g5 z1 z2 z3 z4 z5 z6
  -- the first look
  refine WC_seq (WC_seq (WC_region ?_))
  refine R rfl (rd_move rfl) ?_
  refine R rfl (rd_eqlT rfl rfl) ?_
  refine WL_nil (WC.of_KC ?_)
  refine WC_cond rfl (fun hc => ?_) (fun hc => ?_)
  · obtain rfl := som (ifT hm hc)
    refine WC_seq (WC_region ?_)
    refine R rfl (rd_load1 g_47 rfl (fun h => h) (c6.at rfl)) ?_
    refine E0 (ef_store (cur' := [.slice a m c]) z_47 rfl rfl k4 rfl (Nat.le_of_ble_eq_true rfl) (oneAll rfl) rfl) ?_
    rintro _ w7 ⟨c7, s7⟩
    refine E0 (ef_store (cur' := [vB true]) z_4 rfl rfl (k5.chg s7 (by omega)) rfl (Nat.le_of_ble_eq_true rfl) (oneAll rfl) rfl) ?_
    rintro _ w8 ⟨c8, s8⟩
    refine WL_nil (WC.of_KC ?_)
    refine WC_ret fun a' ha' => retM (ret2 hr (resC1 (n := 1) g_47 rfl (c7.chg s8 (by omega))) (resC1 (n := 1) g_4 rfl c8) ⟨bchgM (bchgM kB s7.one (fun k hk => by have := List.mem_singleton.1 hk; omega)) s8.one (fun k hk => by have := List.mem_singleton.1 hk; omega), ?_⟩ a' ha')
    exact ⟨a, m, c, _, rfl, (kS.chg s7 (fun k hk => by have := List.mem_singleton.1 hk; omega)).chg s8 (fun k hk => by have := List.mem_singleton.1 hk; omega), (by simp), fun k hk => by have := List.mem_singleton.1 hk; omega⟩
  replace hm := ifF hm hc
  refine WC_skip (WC.of_KC ?_)
  -- the first byte
  refine WC_seq (WC_seq (WC_region ?_))
  refine R rfl (rd_move rfl) ?_
  obtain ⟨x13, e13, hm⟩ := bdS hm
  refine R rfl (rd_indexStr d_9 rfl rfl (idxS e13).1 (idxS e13).2.1) ?_
  refine R rfl (rd_neq rfl rfl) ?_
  refine WL_nil (WC.of_KC ?_)
  refine WC_cond rfl (fun hc => ?_) (fun hc => ?_)
  · obtain rfl := som (ifT hm hc)
    refine WC_seq (WC_region ?_)
    refine R rfl (rd_load1 g_47 rfl (fun h => h) (c6.at rfl)) ?_
    refine E0 (ef_store (cur' := [.slice a m c]) z_47 rfl rfl k4 rfl (Nat.le_of_ble_eq_true rfl) (oneAll rfl) rfl) ?_
    rintro _ w7 ⟨c7, s7⟩
    refine E0 (ef_store (cur' := [vB false]) z_4 rfl rfl (k5.chg s7 (by omega)) rfl (Nat.le_of_ble_eq_true rfl) (oneAll rfl) rfl) ?_
    rintro _ w8 ⟨c8, s8⟩
    refine WL_nil (WC.of_KC ?_)
    refine WC_ret fun a' ha' => retM (ret2 hr (resC1 (n := 1) g_47 rfl (c7.chg s8 (by omega))) (resC1 (n := 1) g_4 rfl c8) ⟨bchgM (bchgM kB s7.one (fun k hk => by have := List.mem_singleton.1 hk; omega)) s8.one (fun k hk => by have := List.mem_singleton.1 hk; omega), ?_⟩ a' ha')
    exact ⟨a, m, c, _, rfl, (kS.chg s7 (fun k hk => by have := List.mem_singleton.1 hk; omega)).chg s8 (fun k hk => by have := List.mem_singleton.1 hk; omega), (by simp), fun k hk => by have := List.mem_singleton.1 hk; omega⟩
  replace hm := ifF hm hc
  refine WC_skip (WC.of_KC ?_)
  obtain ⟨l0, hsp, hm⟩ := bdS hm
  obtain ⟨parts, hsl, hm⟩ := bdS hm
  obtain ⟨oks, hok, hm⟩ := bdS hm
  split at hm
  case isFalse => cases hm
  rename_i hlim
  obtain rfl := som hm
  obtain ⟨hacc, hall⟩ := mapO_all hok
  -- the loop
  refine WC_seq (WC_seq (WC_region ?_))
  refine R rfl (rd_move rfl) ?_
  refine E rfl (ef_call Tryz.call126 rfl W_stepsOf_impl_splitWith_impl_IsStep) ?_
  rintro _ w7 ⟨rfl, bp, s7⟩
  refine WL_nil (WC.of_KC ?_)
  replace k3 := k3.ext s7
  replace k4 := k4.ext s7
  replace k5 := k5.ext s7
  replace c6 := c6.ext s7
  replace kS := kS.ext s7
  replace kB := bup kB (s7.mono (Nat.le_refl _))
  have z7 := s7.size
  have hrow : ∀ g, rowOf w7 w4.heap.size g → g < w7.heap.size := fun g hg => by
    have h1 := rowOf_blk c6 hg
    exact kS.lt _ ((ownS_head kS).2 g 0 none h1)
  generalize w1.heap.size = q4 at *
  generalize w2.heap.size = q5 at *
  generalize w4.heap.size = q6 at *
  refine WC_rangeStr (α := {x : Str // x ∈ parts ∧ x.b.length ≤ LEN}) (f := fun x => x.1) (gf := 146) (lb := [pt w6.heap.size]) (b := q6) (M := parts.length) (S := fun xs => xs.map (·.1) = parts) (Sp := fun _ => True) rfl Tryz.call146 rfl rfl (by omega)
    (split_stops_impl_splitWith_impl_IsStep p1_0 hsp hsl bp (by omega) hrow)
    (fun pre W => (∀ x ∈ pre, (M_impl_IsStep n x.1).getD false = true) ∧ (∃ (a : Option Addr) (m c : Nat) (S : List Nat), Blk W q6 [.slice a m c] ∧ ownS W S (sl a m c) (pre.map (·.1)) ∧ S.Nodup ∧ (∀ k ∈ S, q5 < k ∧ k ≠ q6)) ∧ Blk W w0.heap.size [.func (.func 94) #[] #[]] ∧ Blk W q4 [.slice none 0 0] ∧ Blk W q5 [vB false] ∧ Below w0.heap.size w0 W)
    (fun pre W => (∃ x ∈ pre, (M_impl_IsStep n x.1).getD false = false) ∧ (∃ (a : Option Addr) (m c : Nat) (S : List Nat), Blk W q4 [.slice a m c] ∧ ownS W S (sl a m c) ([] : List Str) ∧ S.Nodup ∧ (∀ k ∈ S, w0.heap.size ≤ k)) ∧ Blk W q5 [vB false] ∧ Below w0.heap.size w0 W)
    ?_ ?_ ?_ ?_ ?_ ?_
  · rintro pre W W' row ⟨h1, ⟨a, m, c, S, h2, h3, h4, h5⟩, h6, h7, h8, h9⟩ hg hr
    have hr' := fun r e => (hr r e).2
    exact ⟨h1, ⟨a, m, c, S, h2.grown hg hr', ownS_grown h3 hg hr', h4, h5⟩, h6.grown hg hr', h7.grown hg hr', h8.grown hg hr', below_grown_impl_splitWith_impl_IsStep h9 hg fun r e => Nat.le_trans (by omega) (hr r e).1⟩
  · rintro pre W W' row ⟨h1, ⟨a, m, c, S, h2, h3, h4, h5⟩, h8, h9⟩ hg hr
    have hr' := fun r e => (hr r e).2
    exact ⟨h1, ⟨a, m, c, S, h2.grown hg hr', ownS_grown h3 hg hr', h4, h5⟩, h8.grown hg hr', below_grown_impl_splitWith_impl_IsStep h9 hg fun r e => Nat.le_trans (by omega) (hr r e).1⟩
  · exact ⟨fun x hx => (by cases hx), ⟨a, m, c, _, c6, kS, (by simp), fun k hk => by have := List.mem_singleton.1 hk; omega⟩, k3, k4, k5, kB⟩
  · rintro l pre ⟨x, hx, hxl⟩ W ⟨h1, ⟨a, m, c, S, h2, h3, h4, h5⟩, h6, h7, h8, h9⟩ hlt
    refine WCI_block (WCI_seq (WCI_seq (WCI_region rfl (fun _ _ h => by cases h.1) ?_)))
    refine R rfl (rd_load1 g_93 rfl (fun h => h) (h6.at rfl)) ?_
    refine R rfl (rd_move rfl) ?_
    refine E rfl (ef_callV (caps := []) Tryz.call94 rfl rfl (W_impl_IsStep (hacc x hx) (Nat.le_refl _) hxl)) ?_
    rintro _ W1 ⟨s1, rfl⟩
    refine R rfl (rd_not rfl) ?_
    refine WL_nil (WCI.of_KC ?_)
    have y1 := s1.size
    have hq6 := h2.lt
    have hw0.heap.size := h6.lt
    have hq4 := h7.lt
    have hq5 := h8.lt
    refine WCI_cond rfl (fun hc => ?_) (fun hc => ?_)
    · refine WCI_seq (WCI_region rfl (fun _ _ h => by cases h.1) ?_)
      refine E rfl (ef_lit0 (α := Str) el_47) ?_
      rintro _ W2 ⟨a2, m2, c2, rfl, s2, ho2⟩
      refine E0 (ef_store (cur' := [.slice a2 m2 c2]) z_47 rfl rfl ((h7.ext s1).ext s2) rfl (Nat.le_of_ble_eq_true rfl) (oneAll rfl) rfl) ?_
      rintro _ W3 ⟨c3, s3⟩
      refine E0 (ef_store (cur' := [vB false]) z_4 rfl rfl (((h8.ext s1).ext s2).chg s3 (by omega)) rfl (Nat.le_of_ble_eq_true rfl) (oneAll rfl) rfl) ?_
      rintro _ W4 ⟨c4, s4⟩
      refine WL_nil (WCI.of_KC ?_)
      have hW : Below W.heap.size W W2 := bup s1 s2
      have hc4 : Chg (fun k => k = q4 ∨ k = q5) W W4 := by
        have e1 : Chg (fun k => k = q4 ∨ k = q5) W W2 := (Chg.refl _ W).ext hW
        refine (e1.comp s3 fun k _ hk => .inl hk).comp s4 fun k _ hk => .inr hk
      refine WCI_ret fun a' ha' => ⟨rfl, keeps_chg hc4 fun k _ hk => ?_, ⟨⟨x, hx, hxl⟩, by simp, by simpa using hc⟩, ⟨a2, m2, c2, _, c3.chg s4 (by omega), (ho2.chg s3 fun k hk => by have := List.mem_singleton.1 hk; omega).chg s4 fun k hk => by have := List.mem_singleton.1 hk; omega, (by simp), fun k hk => by have := List.mem_singleton.1 hk; omega⟩, c4, ?_⟩
      · rcases hk with rfl | rfl
        · exact ⟨_, h7⟩
        · exact ⟨_, h8⟩
      · exact bchg h9 hc4 fun k hk hm => by rcases hm with rfl | rfl <;> omega
    · refine WCI_skip (WCI.of_KC ?_)
      refine WCI_region rfl (fun _ _ h => by cases h.1) ?_
      have hpsh : psh (pre.map (·.1)) x = some (pre.map (·.1) ++ [x]) := by
        unfold psh
        rw [if_pos (by rw [List.length_map]; omega)]
      refine R rfl (rd_load1 g_47 rfl (fun h => h) ((h2.ext s1).at rfl)) ?_
      refine R rfl (rd_move rfl) ?_
      refine E rfl (ef_buildSlice [(.tmp 25)] el_47 rfl rfl rfl (szAll rfl) (Nat.le_of_ble_eq_true rfl) (Nat.le_of_ble_eq_true rfl)) ?_
      rintro _ W2 ⟨rfl, hb⟩
      have s2 := hb.below
      have y2 := s2.size
      refine E rfl (ef_pushN (α := Str) el_47 hpsh rfl rfl ((h3.ext s1).ext s2) h4 hb.blk (Str_own hxl) all_nil nd_nil) ?_
      rintro _ W3 ⟨S', a', n', c', rfl, s3, ho3, nd3, hs3⟩
      have y3 := s3.size
      have n3 : ∀ k, k < W.heap.size → k ≤ q5 ∨ k = q6 → k ∉ S' := fun k hk hq hm => by
        rcases hs3 k hm with h | h | h
        · have := h5 k h; omega
        · cases h
        · omega
      refine E0 (ef_store (cur' := [.slice a' n' c']) z_47 rfl rfl (((h2.ext s1).ext s2).chg s3 (fun hm => (h5 _ hm).2 rfl)) rfl (Nat.le_of_ble_eq_true rfl) (oneAll rfl) rfl) ?_
      rintro _ W4 ⟨c4, s4⟩
      have hW : Below W.heap.size W W2 := bup s1 s2
      have hc4 : Chg (fun k => k = q6 ∨ k ∈ S) W W4 := by
        have e1 : Chg (fun k => k = q6 ∨ k ∈ S) W W2 := (Chg.refl _ W).ext hW
        refine (e1.comp s3 fun k _ hk => .inr hk).comp s4 fun k _ hk => .inl hk
      have ho4 : ownS W4 S' (sl a' n' c') (pre.map (·.1) ++ [x]) := ho3.chg s4 fun k hk he => n3 q6 hq6 (.inr rfl) (he ▸ hk)
      have hs4 : ∀ k ∈ S', k ∈ S ∨ W.heap.size ≤ k := fun k hk => by
        rcases hs3 k hk with h | h | h
        · exact .inl h
        · cases h
        · exact .inr (by omega)
      have k4 : ∀ k, k ≤ q5 → ¬ (k = q6 ∨ k ∈ S) := fun k hk hm => by
        rcases hm with rfl | hm
        · omega
        · have := h5 k hm; omega
      refine WL_nil fun a'' ha'' => ⟨keeps_chg hc4 fun k _ hk => ?_, KpS.of_chg h2 h3 c4 ho4 hs4 hc4, fun y hy => ?_, ⟨a', n', c', S', c4, by simpa using ho4, nd3, fun k hk => ?_⟩, h6.chg hc4 (k4 _ (by omega)), h7.chg hc4 (k4 _ (by omega)), h8.chg hc4 (k4 _ (by omega)), bchg h9 hc4 fun k hk hm => k4 k (by omega) hm⟩
      · rcases hk with rfl | hk
        · exact ⟨_, h2⟩
        · exact ownS_cells h3 k hk
      · rcases List.mem_append.1 hy with hy | hy
        · exact h1 y hy
        · obtain rfl := List.mem_singleton.1 hy
          simpa using hc
      · rcases hs4 k hk with h | h
        · exact h5 k h
        · omega
  · rintro D xs W hD hxs ⟨h1, ⟨a, m, c, S, h2, h3, h4, h5⟩, h6, h7, h8, h9⟩ hdef a0 ha0
    have hw0.heap.size := h6.lt
    have hq4 := h7.lt
    have hq5 := h8.lt
    refine tailD ?_ ha0
    refine R rfl (rd_load1 g_47 rfl (fun h => h) (h2.at rfl)) ?_
    refine E0 (ef_store (cur' := [.slice a m c]) z_47 rfl rfl h7 rfl (Nat.le_of_ble_eq_true rfl) (oneAll rfl) rfl) ?_
    rintro _ W1 ⟨c7, s7⟩
    refine E0 (ef_store (cur' := [vB true]) z_4 rfl rfl (h8.chg s7 (by omega)) rfl (Nat.le_of_ble_eq_true rfl) (oneAll rfl) rfl) ?_
    rintro _ W2 ⟨c8, s8⟩
    have hDlt := (Array.getElem?_eq_some_iff.1 hdef).1
    have hdef2 : W2.heap[D]? = some (.deferred (some [])) := ((s8.block D (Nat.lt_of_lt_of_le hDlt s7.size) (by omega)).trans (s7.block D hDlt (by omega))).trans hdef
    have hDS : ∀ k ∈ S, k ≠ D := fun k hk e => by
      obtain ⟨cur, hB⟩ := ownS_cells h3 k hk
      have := (e ▸ hB).isCells hdef
      cases this
    have hoks : oks.all id = true := hall.2 fun y hy => by
      rw [← hxs] at hy
      obtain ⟨z, hz, rfl⟩ := List.mem_map.1 hy
      exact h1 z hz
    rw [if_pos hoks]
    refine WL_nil fun a' ha' => ⟨ha'.defers, hdef2, ?_⟩
    have hp := put_chg W2 D (.deferred none)
    obtain ⟨_, v, e1, e2⟩ := ret2 (R := Q17 w0 B (parts, true)) hr (resC1 (n := 1) g_47 rfl ((c7.chg s8 (by omega)).chg hp (by omega))) (resC1 (n := 1) g_4 rfl (c8.chg hp (by omega))) ⟨bchg (bchg (bchg h9 s7 fun k hk e => by omega) s8 fun k hk e => by omega) hp fun k hk e => by omega, a, m, c, S, rfl, ((hxs ▸ h3).chg s7 fun k hk e => by have := h5 k hk; omega).chg s8 (fun k hk e => by have := h5 k hk; omega) |>.chg hp fun k hk e => hDS k hk e, h4, fun k hk => by have := h5 k hk; omega⟩ a' ha'
    exact ⟨v, e1, e2⟩
  · rintro D pre W hD _ ⟨⟨⟨x, hx, hxl⟩, hxm, hxb⟩, ⟨a, m, c, S, h2, h3, h4, h5⟩, h8, h9⟩ hdef a0 ha0
    have hq4 := h2.lt
    have hq5 := h8.lt
    have hDS : ∀ k ∈ S, k ≠ D := fun k hk e => by
      obtain ⟨cur, hB⟩ := ownS_cells h3 k hk
      have := (e ▸ hB).isCells hdef
      cases this
    have hoks : ¬ oks.all id = true := fun h => by
      have := hall.1 h x hx
      rw [this] at hxb; cases hxb
    rw [if_neg hoks]
    have hp := put_chg W D (.deferred none)
    obtain ⟨_, v, e1, e2⟩ := ret2 (R := Q17 w0 B ([], false)) hr (resC1 (n := 1) g_47 rfl (h2.chg hp (by omega))) (resC1 (n := 1) g_4 rfl (h8.chg hp (by omega))) ⟨bchg h9 hp fun k hk e => by omega, a, m, c, S, rfl, h3.chg hp fun k hk e => hDS k hk e, h4, h5⟩ a0 ha0
    exact retD ha0.defers hdef e1 e2
def Q18 (w0 : World) (B : Nat) (r : (List Str) × Bool) (v : Value) (w' : World) : Prop := Bw w0 w' ∧ un2 (fun r1 r2 => ∃ (a1 : Option Addr) (n1 c1 : Nat) (S1 : List Nat), v = .tuple #[(sl a1 n1 c1), (vB r2)] ∧ ownS w' S1 (sl a1 n1 c1) r1 ∧ S1.Nodup ∧ (∀ k ∈ S1, w0.heap.size ≤ k)) r
theorem W_impl_SplitPath {x1 : Str} {res : (List Str) × Bool} (hm : M_impl_SplitPath n x1 = some res) (hBw : B ≤ w0.heap.size) (p1_0 : x1.b.length ≤ LEN) : CallsR prog 57 [(Str.v x1)] w0 (Q18 w0 B res) := by
 unfold M_impl_SplitPath at hm
 refine goF func57 z z (lb z) fun fn hr => Ws (Ra z (Ra z (Wn (Ws (Rm z ?_)))))
 obtain ⟨r1a, r1b, e10, hm11⟩ := bd2S hm
 refine E z (fc call93 z (W_impl_splitWith_impl_IsStep (B := B) e10 hBw p1_0)) ?_
 rintro _ w1c ⟨s12, a13, n14, c15, S16, rfl, h17, h18, h19⟩
 refine R z (ext_ z z) (R z (ext_ z z) (Ra z (Ra z (Wn ?_))))
 obtain rfl := som hm11
 exact Wr (ret2 hr z z ⟨s12, a13, n14, c15, S16, z, h17, h18, h19⟩)
theorem W_impl_InRange {x1 : Int} {x2 : Int} {x3 : Int} {res : Bool} (hm : M_impl_InRange x1 x2 x3 = some res) (hBw : B ≤ w0.heap.size) (p1_0 : inI x1) (p2_0 : inI x2) (p3_0 : inI x3) : CallsR prog 95 [(vI x1), (vI x2), (vI x3)] w0 (Q7 w0 B res) := by
 unfold M_impl_InRange at hm
 refine goF func95 z z (lb z) fun fn hr => Ws (Ra z (Wn (Wq ?_)))
 obtain ⟨u13, hu12, hm14⟩ := bdS hm
 refine WC_cut (fun a w => ∃ (x11 : Bool), x11 = u13 ∧ Sat 15 [(6, (vB x11))] a ∧ Below w0.heap.size w0 w) ?_ ?_
 ·refine Wg (Rm z (Rm z (R z (rd_leq z z) (Rm z ?_))))
  rcases bs (decide (x2 ≤ x1)) with hc10 | hc10
  ·exact Rh z hc10 (mv z) (Rh z hc10 (mv z) (Rh z hc10 (rd_leq z z) (R z (pT z hc10 z) (Ra z (Wl (fun _ q => ⟨decide (x1 ≤ x3), som (ifT hu12 hc10), (q.k (s1 z)), (br w0)⟩))))))
  iterate 3 refine Nh z hc10 ?_
  exact R z (pF z hc10 z) (Ra z (Wl (fun _ q => ⟨false, som (ifF hu12 hc10), (q.k (s1 z)), (br w0)⟩)))
 rintro a15 w17 ⟨x11, rfl, hS18, s16⟩
 revert a15
 refine Wo ?_
 obtain rfl := som hm14
 exact Wr (ret1 hr z ⟨s16, z⟩)
theorem W_impl_hasRule {x1 : Desc} {x2 : Int} {res : Bool} (hm : M_impl_hasRule x1 x2 = some res) (hBw : B ≤ w0.heap.size) (p1_0 : repS w0 B (sl pa1_0 pn1_0 pc1_0) x1.rules) (p2_0 : inI x2) : CallsR prog 106 [(.agg #[(sl pa1_0 pn1_0 pc1_0)]), (vI x2)] w0 (Q7 w0 B res) := by
 unfold M_impl_hasRule at hm
 refine goF func106 z z (lb z) fun fn hr => Ws (E z (fb z) ?_)
 rintro _ w11 ⟨rfl, h13⟩
 have h14 := h13.below
 have h16 : Blk w11 w0.heap.size [(sl pa1_0 pn1_0 pc1_0)] := h13.blk
 refine Ra z (Wn (Wq ?_))
 obtain ⟨u17, hu15, hm18⟩ := bdS hm
 refine WC_cut (fun a w => ∃ (x12 : Bool), x12 = u17 ∧ Sat 14 [(4, (vB x12))] a ∧ Below w11.heap.size w11 w) ?_ ?_
 ·refine Wg (Rm z (R z (rd_geq z z) (Rm z ?_)))
  rcases bs (decide (0 ≤ x2)) with hc10 | hc10
  ·exact Rh z hc10 (mv z) (Rh z hc10 (fd f_31_0 z) (Rh z hc10 (l1 g_29 z fid (h16.at z)) (Rh z hc10 (lnR d_29 z (p1_0.ext h14)) (Rh z hc10 (lss z z) (R z (pT z hc10 z) (Ra z (Wl (fun _ q => ⟨decide (x2 < (x1.rules.length : Int)), som (ifT hu15 hc10), (q.k (s1 z)), (br w11)⟩))))))))
  iterate 5 refine Nh z hc10 ?_
  exact R z (pF z hc10 z) (Ra z (Wl (fun _ q => ⟨false, som (ifF hu15 hc10), (q.k (s1 z)), (br w11)⟩)))
 rintro a19 w1b ⟨x12, rfl, hS1c, s1a⟩
 revert a19
 refine Wo ?_
 obtain rfl := som hm18
 exact Wr (ret1 hr z ⟨(bup h14 s1a), z⟩)
theorem W_impl_plainRule {x1 : Rule} {x2 : Bool} {x3 : Bool} {x4 : Bool} {x5 : Bool} {x6 : Int} {res : Bool} (hm : M_impl_plainRule x1 x2 x3 x4 x5 x6 = some res) (hBw : B ≤ w0.heap.size) (p1_0 : x1.name.b.length ≤ LEN) (p1_1 : inI x1.kind) (p1_2 : inI x1.size) (p1_4 : repS w0 B (sl pa1_4 pn1_4 pc1_4) x1.bytes) (p1_5 : repS w0 B (sl pa1_5 pn1_5 pc1_5) x1.names) (p1_6 : repS w0 B (sl pa1_6 pn1_6 pc1_6) x1.tags) (p1_7 : repS w0 B (sl pa1_7 pn1_7 pc1_7) x1.kids) (p6_0 : inI x6) : CallsR prog 148 [(.agg #[(Str.v x1.name), (vI x1.kind), (vI x1.size), (vB x1.little), (sl pa1_4 pn1_4 pc1_4), (sl pa1_5 pn1_5 pc1_5), (sl pa1_6 pn1_6 pc1_6), (sl pa1_7 pn1_7 pc1_7)]), (vB x2), (vB x3), (vB x4), (vB x5), (vI x6)] w0 (Q7 w0 B res) := by
 unfold M_impl_plainRule at hm
 refine goF func148 z z (lb z) fun fn hr => Ws (E z (fb z) ?_)
 rintro _ w19 ⟨rfl, h1d⟩
 have h1a := h1d.below
 have h1b : Blk w19 w0.heap.size (vR x1 pa1_4 pn1_4 pc1_4 pa1_5 pn1_5 pc1_5 pa1_6 pn1_6 pc1_6 pa1_7 pn1_7 pc1_7) := h1d.blk
 refine Ra z (Wn (Wq ?_))
 obtain ⟨u1r, hu1s, hm1t⟩ := bdS hm
 refine WC_cut (fun a w => ∃ (x1c : Bool), x1c = u1r ∧ Sat 57 [(12, (vB x1c))] a ∧ Below w19.heap.size w19 w) ?_ ?_
 ·refine Wg (Rm z (Rm z ?_))
  obtain ⟨u1e, hu1f, hm1u⟩ := bdS hu1s
  refine WLcut 18 u1e 4 ?_ ?_
  ·rcases bs x2 with hc18 | hc18
   ·iterate 3 refine Nh z hc18 ?_
    exact R z (pT z hc18 z) (WLq 4 (ifT hu1f hc18) z z z)
   exact Rh z hc18 (fd f_74_2 z) (Rh z hc18 (l1 g_3 z fid (h1b.at z)) (Rh z hc18 (eql z z) (R z (pF z hc18 z) (WLq 4 (ifF hu1f hc18) z z z))))
  refine Rm z ?_
  obtain ⟨u1g, hu1h, hm1v⟩ := bdS hm1u
  refine WLcut 27 u1g 8 ?_ ?_
  ·rcases bs u1e with hc10 | hc10
   ·have hm1i := ifT hu1h hc10
    refine Rh z hc10 (mv z) (Rh z hc10 (mv z) ?_)
    rcases bs x3 with hc15 | hc15
    ·iterate 4 refine Nh z hc15 ?_
     exact Rh z hc10 (pT z hc15 z) (R z (pT z hc10 z) (WLq 8 (ifT hm1i hc15) z z z))
    exact Rh z hc15 (fd f_74_4 z) (Rh z hc15 (l1 g_25 z fid (h1b.at z)) (Rh z hc15 (lnR d_25 z (p1_4.ext h1a)) (Rh z hc15 (eql z z) (Rh z hc10 (pF z hc15 z) (R z (pT z hc10 z) (WLq 8 (ifF hm1i hc15) z z z))))))
   exact Nh z hc10 (Nh z hc10 (Nv z (Nv z (Nv z (Nv z (Nh z hc10 (R z (pF z hc10 z) (WLq 8 (ifF hu1h hc10) z z z))))))))
  refine Rm z ?_
  obtain ⟨u1j, hu1k, hm1w⟩ := bdS hm1v
  refine WLcut 36 u1j 8 ?_ ?_
  ·rcases bs u1g with hc11 | hc11
   ·have hm1l := ifT hu1k hc11
    refine Rh z hc11 (mv z) (Rh z hc11 (mv z) ?_)
    rcases bs x4 with hc16 | hc16
    ·iterate 4 refine Nh z hc16 ?_
     exact Rh z hc11 (pT z hc16 z) (R z (pT z hc11 z) (WLq 8 (ifT hm1l hc16) z z z))
    exact Rh z hc16 (fd f_74_5 z) (Rh z hc16 (l1 g_47 z fid (h1b.at z)) (Rh z hc16 (lnR d_47 z (p1_5.ext h1a)) (Rh z hc16 (eql z z) (Rh z hc11 (pF z hc16 z) (R z (pT z hc11 z) (WLq 8 (ifF hm1l hc16) z z z))))))
   exact Nh z hc11 (Nh z hc11 (Nv z (Nv z (Nv z (Nv z (Nh z hc11 (R z (pF z hc11 z) (WLq 8 (ifF hu1k hc11) z z z))))))))
  refine Rm z ?_
  obtain ⟨u1m, hu1n, hm1o⟩ := bdS hm1w
  refine WLcut 45 u1m 8 ?_ ?_
  ·rcases bs u1j with hc12 | hc12
   ·have hm1p := ifT hu1n hc12
    refine Rh z hc12 (mv z) (Rh z hc12 (mv z) ?_)
    rcases bs x5 with hc17 | hc17
    ·iterate 4 refine Nh z hc17 ?_
     exact Rh z hc12 (pT z hc17 z) (R z (pT z hc12 z) (WLq 8 (ifT hm1p hc17) z z z))
    exact Rh z hc17 (fd f_74_6 z) (Rh z hc17 (l1 g_72 z fid (h1b.at z)) (Rh z hc17 (lnR d_72 z (p1_6.ext h1a)) (Rh z hc17 (eql z z) (Rh z hc12 (pF z hc17 z) (R z (pT z hc12 z) (WLq 8 (ifF hm1p hc17) z z z))))))
   exact Nh z hc12 (Nh z hc12 (Nv z (Nv z (Nv z (Nv z (Nh z hc12 (R z (pF z hc12 z) (WLq 8 (ifF hu1n hc12) z z z))))))))
  refine Rm z ?_
  rcases bs u1m with hc13 | hc13
  ·have hm1q := ifT hm1o hc13
   refine Rh z hc13 (mv z) (Rh z hc13 (lss z z) (Rh z hc13 (mv z) ?_))
   rcases bs (decide (x6 < 0)) with hc14 | hc14
   ·iterate 5 refine Nh z hc14 ?_
    exact Rh z hc13 (pT z hc14 z) (R z (pT z hc13 z) (Ra z (Wl (fun _ q => ⟨true, som (ifT hm1q hc14), (q.k (s1 z)), (br w19)⟩))))
   exact Rh z hc14 (fd f_74_7 z) (Rh z hc14 (l1 g_72 z fid (h1b.at z)) (Rh z hc14 (lnR d_72 z (p1_7.ext h1a)) (Rh z hc14 (mv z) (Rh z hc14 (eql z z) (Rh z hc13 (pF z hc14 z) (R z (pT z hc13 z) (Ra z (Wl (fun _ q => ⟨(x1.kids.length : Int) == x6, som (ifF hm1q hc14), (q.k (s1 z)), (br w19)⟩)))))))))
  iterate 3 refine Nh z hc13 ?_
  exact Nv z (Nv z (Nv z (Nv z (Nv z (Nh z hc13 (R z (pF z hc13 z) (Ra z (Wl (fun _ q => ⟨false, som (ifF hm1o hc13), (q.k (s1 z)), (br w19)⟩)))))))))
 rintro a1x w1z ⟨x1c, rfl, hS20, s1y⟩
 revert a1x
 refine Wo ?_
 obtain rfl := som hm1t
 exact Wr (ret1 hr z ⟨(bup h1a s1y), z⟩)
theorem W_impl_IntegerLimit {x1 : Desc} {x2 : Int} {res : Int} (hm : M_impl_IntegerLimit x1 x2 = some res) (hBw : B ≤ w0.heap.size) (p1_0 : repS w0 B (sl pa1_0 pn1_0 pc1_0) x1.rules) (p2_0 : inI x2) : CallsR prog 149 [(.agg #[(sl pa1_0 pn1_0 pc1_0)]), (vI x2)] w0 (Q0 w0 B res) := by
 unfold M_impl_IntegerLimit at hm
 refine goF func149 z z (lb z) fun fn hr => Ws (E z (fb z) ?_)
 rintro _ w15 ⟨rfl, h19⟩
 have h12 := h19.below
 have h16 : Blk w15 w0.heap.size [(sl pa1_0 pn1_0 pc1_0)] := h19.blk
 refine Ra z (Wn (Wq (Wq ?_)))
 obtain ⟨u1g, hu1h, hm1a⟩ := bdS hm
 refine WC_cut (fun a w => ∃ (x17 : Bool), x17 = u1g ∧ Sat 37 [(1, (vI x2)), (2, (pt w0.heap.size)), (27, (vB x17))] a ∧ Below w15.heap.size w15 w) ?_ ?_
 ·refine Wg (R z (lN (vs := [(sl pa1_0 pn1_0 pc1_0)]) g_31 z_31 z z fid (h16.row 0 1 z)) (Rm z ?_))
  have h1b := p1_0.ext h12
  obtain ⟨r1i, e1j, hm1c⟩ := bdS hu1h
  refine E z (fc call106 z (W_impl_hasRule (B := B) e1j (lt_ hBw h12.size) h1b p2_0)) ?_
  rintro _ w24 ⟨s13, rfl⟩
  refine R z (not_ z) (Rm z ?_)
  rcases bs (!r1i) with hc11 | hc11
  ·iterate 7 refine Nh z hc11 ?_
   exact R z (pT z hc11 z) (Rm z (Nh z z (Nh z z (Nh z z (Nh z z (Nh z z (Nh z z (Nh z z (Nh z z (R z (pT z z z) (Wl (fun _ q => ⟨true, som (ifT hm1c hc11), (q.k (s3 z z z)), s13⟩))))))))))))
  refine Rh z hc11 (fd f_31_0 z) ?_
  have h1d := h16.ext s13
  refine Rh z hc11 (l1 g_29 z fid (h1d.at z)) (Rh z hc11 (mv z) ?_)
  obtain ⟨x1k, e1l, hm1e⟩ := bdS (ifF hm1c hc11)
  have h1f := h1b.ext s13
  refine RXg z z hc11 z (at_ (α := Rule) d_29 z_74 z z z h1f e1l) ?_
  rintro _ ⟨b25, o26, cs27, rfl, h1m, h1n, h28⟩
  obtain ⟨a29, n2a, c2b, a2c, n2d, c2e, a2f, n2g, c2h, a2i, n2j, c2k, rfl, h2l, h2m, h2n, h2o, h2p, h2q, h2r⟩ := Rule_open h1n
  refine Rh z hc11 (fd f_74_1 z) (Rh z hc11 (l1 g_3 z fid (h1m.at (j := 1) z)) (Rh z hc11 (nq z z) (R z (pF z hc11 z) (Rm z ?_))))
  rcases bs (x1k.kind != 1) with hc10 | hc10
  ·iterate 8 refine Nh z hc10 ?_
   exact R z (pT z hc10 z) (Wl (fun _ q => ⟨true, som (ifT hm1e hc10), (q.k (s3 z z z)), s13⟩))
  refine Rh z hc10 (fd f_31_0 z) (Rh z hc10 (l1 g_29 z fid (h1d.at z)) (Rh z hc10 (mv z) ?_))
  obtain ⟨x2s, e1o, hm1p⟩ := bdS (ifF hm1e hc10)
  refine RXg z z hc10 z (at_ (α := Rule) d_29 z_74 z z z h1f e1o) ?_
  rintro _ ⟨b2t, o2u, cs2v, rfl, h1q, h1r, h2w⟩
  obtain ⟨a2x, n2y, c2z, a30, n31, c32, a33, n34, c35, a36, n37, c38, rfl, h39, h3a, h1s, h3b, h3c, h3d, h3e⟩ := Rule_open h1r
  refine Rh z hc10 (fd f_74_2 z) (Rh z hc10 (l1 g_3 z fid (h1q.at (j := 2) z)) ?_)
  obtain ⟨r1t, e1u, hm1v⟩ := bdS hm1p
  refine Eg z z hc10 z (fc call95 z (W_impl_InRange (B := B) e1u (lt_ hBw (lt_ h12.size s13.size)) h1s (ii z) (ii z))) ?_
  rintro _ w3f ⟨s1w, rfl⟩
  exact Rh z hc10 (not_ z) (R z (pF z hc10 z) (Wl (fun _ q => ⟨!r1t, som hm1v, (q.k (s3 z z z)), (bup s13 s1w)⟩)))
 rintro a1x w3g ⟨x17, rfl, hS3h, s14⟩
 revert a1x
 refine Wo (Wc z (fun hc18 => ?_) (fun hc18 => ?_))
 ·refine Ws (Ra z (Wn ?_))
  obtain rfl := som (ifT hm1a hc18)
  exact Wr (ret1 hr z ⟨(bup h12 s14), z, (ii z)⟩)
 refine Wk (Ws (R z (fd f_31_0 z) (R z (l1 g_29 z fid ((h16.ext s14).at z)) (Rm z ?_))))
 obtain ⟨x3i, e1y, hm1z⟩ := bdS (ifF hm1a hc18)
 refine RX z (at_ (α := Rule) d_29 z_74 z z z ((p1_0.ext h12).ext s14) e1y) ?_
 rintro _ ⟨b3j, o3k, cs3l, rfl, h20, h21, h3m⟩
 obtain ⟨a3n, n3o, c3p, a3q, n3r, c3s, a3t, n3u, c3v, a3w, n3x, c3y, rfl, h3z, h40, h41, h42, h43, h44, h45⟩ := Rule_open h21
 refine R z (fd f_74_2 z) (R z (l1 g_3 z fid (h20.at (j := 2) z)) (R z (rd_mul z z) ?_))
 obtain ⟨u46, e22, hm23⟩ := bdS hm1z
 refine R z (rd_shl z z (nnS e22)) (R z (sb_ z z) (Ra z (Wn ?_)))
 obtain rfl := som hm23
 exact Wr (ret1 hr z ⟨(bup h12 s14), z, (iS _ _)⟩)
theorem W_impl_ContainsText {x1 : List Str} {x2 : Str} {res : Bool} (hm : M_impl_ContainsText x1 x2 = some res) (hBw : B ≤ w0.heap.size) (p1_0 : repS w0 B (sl pa1_0 pn1_0 pc1_0) x1) (p2_0 : x2.b.length ≤ LEN) : CallsR prog 131 [(sl pa1_0 pn1_0 pc1_0), (Str.v x2)] w0 (Q7 w0 B res) := by
 unfold M_impl_ContainsText at hm
 refine goF func131 z z (lb z) fun fn hr => Ws (Ra z (Wn (Wq (Ws (Rm z (R z (lnR d_47 z p1_0) (Rm z (Wn ?_))))))))
 obtain ⟨u1j, hu16, hm13⟩ := bdS hm
 refine WC_forN (σ := Unit) (ρ := Bool) (fun (k10 : Nat) (_ : Unit) a w => Sat 17 [(1, (Str.v x2)), (7, (sl pa1_0 pn1_0 pc1_0)), (8, (vI (x1.length : Int))), (9, (vI ((k10 : Nat) : Int)))] a ∧ Below w0.heap.size w0 w) (fun (_ : Unit) a w => Sat 17 [] a ∧ Below w0.heap.size w0 w) (fun r ex a w => ex = .ret ∧ RetPost prog fn (Q7 w0 B r) a w) hu16 ?_ ?_ ?_ ?_ ?_
 ·exact fun _ q => ⟨(q.k (s4 z z z z)), (br w0)⟩
 ·rintro k10 _ a1k w1l o1m hk14 ⟨hS17, s11⟩ hm18
  refine Wu (e := [(1, (Str.v x2)), (7, (sl pa1_0 pn1_0 pc1_0)), (8, (vI (x1.length : Int))), (9, (vI ((k10 : Nat) : Int)))]) (N := 17) ?_ hS17
  refine Ws (R z (lss z z) (Wn (Wq (Wc z (fun _ => ?_) (fun hc => (nolt hk14 hc).elim)))))
  refine Wk (Wq (WC_block (Ws ?_)))
  obtain ⟨x1n, e19, hm15⟩ := bdS hm18
  refine RX z (at_ (α := Str) d_47 z_9 z z z (p1_0.ext s11) e19) ?_
  rintro _ ⟨b1o, o1p, cs1q, rfl, h1a, h1b, h1r⟩
  obtain ⟨rfl, h1s⟩ := Str_open h1b
  refine R z (l1 g_9 z fid (h1a.at0 z)) (Ra z (Wn (Ws (Rm z (Rm z (R z (rd_eqlT z z) (Wn (Wc z (fun hc12 => ?_) (fun hc12 => ?_)))))))))
  ·exact Ws (Ra z (Wn (Wr (rtO (QO_retL (som (ifT hm15 hc12)).symm (ret1 hr z ⟨s11, z⟩))))))
  exact Wk (Wg (R z (inc_ hk14 (lt_ (repS.len p1_0) LEN_le) z z) (Rm z (Wl (fun _ q => ⟨(), (som (ifF hm15 hc12)).symm, ⟨(q.k (s4 z z z z)), s11⟩⟩)))))
 ·rintro _ a1t w1u ⟨hS1c, s1d⟩
  refine Wu (e := [(1, (Str.v x2)), (7, (sl pa1_0 pn1_0 pc1_0)), (8, (vI (x1.length : Int))), (9, (vI ((x1.length : Nat) : Int)))]) (N := 17) ?_ hS1c
  refine Ws (R z (lss z z) (Wn (Wq (Wc z (fun hc => (noltt hc).elim) (fun _ => ?_)))))
  exact WC_exit (fun a' ha' => ⟨rfl, ⟨(Sat.weaken ha' sn), s1d⟩⟩)
 ·rintro _ a1e w1v rfl ⟨hS1w, s1f⟩
  have hm1g := elL hm13
  revert a1e
  refine Wo (Ws (Ra z (Wn ?_)))
  obtain rfl := som hm1g
  exact Wr (ret1 hr z ⟨s1f, z⟩)
 rintro r1x ex1y a1z w20 rfl ⟨rfl, hq1h⟩
 have hm1i := elR hm13
 obtain rfl := som hm1i
 exact ⟨hq1h, z⟩
theorem W_impl_validSequence {x1 : Rule} {res : Bool} (hm : M_impl_validSequence n x1 = some res) (hBw : B ≤ w0.heap.size) (p1_0 : x1.name.b.length ≤ LEN) (p1_1 : inI x1.kind) (p1_2 : inI x1.size) (p1_4 : repS w0 B (sl pa1_4 pn1_4 pc1_4) x1.bytes) (p1_5 : repS w0 B (sl pa1_5 pn1_5 pc1_5) x1.names) (p1_6 : repS w0 B (sl pa1_6 pn1_6 pc1_6) x1.tags) (p1_7 : repS w0 B (sl pa1_7 pn1_7 pc1_7) x1.kids) : CallsR prog 150 [(.agg #[(Str.v x1.name), (vI x1.kind), (vI x1.size), (vB x1.little), (sl pa1_4 pn1_4 pc1_4), (sl pa1_5 pn1_5 pc1_5), (sl pa1_6 pn1_6 pc1_6), (sl pa1_7 pn1_7 pc1_7)])] w0 (Q7 w0 B res) := by
 unfold M_impl_validSequence at hm
 refine goF func150 z z (lb z) fun fn hr => Ws (E z (fb z) ?_)
 rintro _ w1a ⟨rfl, h1i⟩
 have h12 := h1i.below
 have h1b : Blk w1a w0.heap.size (vR x1 pa1_4 pn1_4 pc1_4 pa1_5 pn1_5 pc1_5 pa1_6 pn1_6 pc1_6 pa1_7 pn1_7 pc1_7) := h1i.blk
 refine Ra z (Wn (Wq (Wq ?_)))
 obtain ⟨u1z, hu20, hm1j⟩ := bdS hm
 refine WC_cut (fun a w => ∃ (x1c : Bool), x1c = u1z ∧ Sat 44 [(1, (pt w0.heap.size)), (23, (vB x1c))] a ∧ Below w1a.heap.size w1a w) ?_ ?_
 ·refine Wg (R z (lN (vs := (vR x1 pa1_4 pn1_4 pc1_4 pa1_5 pn1_5 pc1_5 pa1_6 pn1_6 pc1_6 pa1_7 pn1_7 pc1_7)) g_74 z_74 z z fid (h1b.row 0 8 z)) ?_)
  have h1k := p1_5.ext h12
  have h1l := p1_7.ext h12
  obtain ⟨r21, e22, hm1m⟩ := bdS hu20
  refine E z (fc call148 z (W_impl_plainRule (B := B) e22 (lt_ hBw h12.size) p1_0 p1_1 p1_2 (p1_4.ext h12) h1k (p1_6.ext h12) h1l (ii z))) ?_
  rintro _ w2y ⟨s14, rfl⟩
  refine R z (not_ z) (Rm z ?_)
  rcases bs (!r21) with hc10 | hc10
  ·iterate 7 refine Nh z hc10 ?_
   exact R z (pT z hc10 z) (Rm z (Nh z z (Nh z z (Nh z z (Nh z z (Nh z z (R z (pT z z z) (Wl (fun _ q => ⟨true, som (ifT hm1m hc10), (q.k (s2 z z)), s14⟩)))))))))
  have hm1n := ifF hm1m hc10
  refine Rh z hc10 (fd f_74_7 z) ?_
  have h1d := h1b.ext s14
  refine Rh z hc10 (l1 g_72 z fid (h1d.at z)) ?_
  have h1e := h1l.ext s14
  refine Rh z hc10 (lnR d_72 z h1e) (Rh z hc10 (fd f_74_5 z) (Rh z hc10 (l1 g_47 z fid (h1d.at z)) (Rh z hc10 (lnR d_47 z (h1k.ext s14)) (Rh z hc10 (nq z z) (R z (pF z hc10 z) (Rm z ?_))))))
  rcases bs ((x1.kids.length : Int) != (x1.names.length : Int)) with hc13 | hc13
  ·iterate 5 refine Nh z hc13 ?_
   exact R z (pT z hc13 z) (Wl (fun _ q => ⟨true, som (ifT hm1n hc13), (q.k (s2 z z)), s14⟩))
  refine Rh z hc13 (fd f_74_7 z) (Rh z hc13 (l1 g_72 z fid (h1d.at z)) (Rh z hc13 (lnR d_72 z h1e) ?_))
  obtain ⟨r23, e24, hm25⟩ := bdS (ifF hm1n hc13)
  refine Eg z z hc13 z (fc call95 z (W_impl_InRange (B := B) e24 (lt_ hBw (lt_ h12.size s14.size)) (inI_len (repS.len h1e)) (ii z) (ii z))) ?_
  rintro _ w2z ⟨s26, rfl⟩
  exact Rh z hc13 (not_ z) (R z (pF z hc13 z) (Wl (fun _ q => ⟨!r23, som hm25, (q.k (s2 z z)), (bup s14 s26)⟩)))
 rintro a27 w16 ⟨x1c, rfl, hS30, s15⟩
 revert a27
 refine Wo (Wc z (fun hc1f => ?_) (fun hc1f => ?_))
 ·refine Ws (Ra z (Wn ?_))
  obtain rfl := som (ifT hm1j hc1f)
  exact Wr (ret1 hr z ⟨(bup h12 s15), z⟩)
 refine Wk (Wq (Ws (R z (fd f_74_5 z) ?_)))
 have h1o := h1b.ext s15
 refine R z (l1 g_47 z fid (h1o.at z)) ?_
 have h1p := (p1_5.ext h12).ext s15
 refine R z (lnR d_47 z h1p) (Rm z (Wn ?_))
 obtain ⟨u31, hu28, hm1q⟩ := bdS (ifF hm1j hc1f)
 refine WC_forN (σ := Unit) (ρ := Bool) (fun (k19 : Nat) (_ : Unit) a w => Sat 44 [(1, (pt w0.heap.size)), (25, (sl pa1_5 pn1_5 pc1_5)), (26, (vI (x1.names.length : Int))), (27, (vI ((k19 : Nat) : Int)))] a ∧ Below w16.heap.size w16 w) (fun (_ : Unit) a w => Sat 44 [] a ∧ Below w16.heap.size w16 w) (fun r ex a w => ex = .ret ∧ RetPost prog fn (Q7 w0 B r) a w) hu28 ?_ ?_ ?_ ?_ ?_
 ·exact fun _ q => ⟨(q.k (s4 z z z z)), (br w16)⟩
 ·rintro k19 _ a32 w1r o33 hk1s ⟨hS29, s17⟩ hm2a
  refine Wu (e := [(1, (pt w0.heap.size)), (25, (sl pa1_5 pn1_5 pc1_5)), (26, (vI (x1.names.length : Int))), (27, (vI ((k19 : Nat) : Int)))]) (N := 44) ?_ hS29
  refine Ws (R z (lss z z) (Wn (Wq (Wc z (fun _ => ?_) (fun hc => (nolt hk1s hc).elim)))))
  refine Wk (Wq (WC_block (Ws (Rm z ?_))))
  obtain ⟨x34, e2b, hm2c⟩ := bdS hm2a
  have h1t := h1p.ext s17
  refine RX z (at_ (α := Str) d_47 z_9 z z z h1t e2b) ?_
  rintro _ ⟨b35, o36, cs37, rfl, h2d, h2e, h38⟩
  obtain ⟨rfl, h1u⟩ := Str_open h2e
  refine R z (l1 g_9 z fid (h2d.at0 z)) (Ra z (Ra z (Wn (Wq ?_))))
  obtain ⟨u2f, hu2g, hm1v⟩ := bdS hm2c
  refine WC_cut (fun a w => ∃ (x1g : Bool), x1g = u2f ∧ Sat 44 [(1, (pt w0.heap.size)), (25, (sl pa1_5 pn1_5 pc1_5)), (26, (vI (x1.names.length : Int))), (27, (vI ((k19 : Nat) : Int))), (42, (vB x1g))] a ∧ Below w1r.heap.size w1r w) ?_ ?_
  ·refine Wg (Rm z ?_)
   have h1w := lt_ (lt_ h12.size s15.size) s17.size
   obtain ⟨r2h, e2i, hm1x⟩ := bdS hu2g
   refine E z (fc call127 z (W_impl_IsName (B := B) e2i (lt_ hBw h1w) h1u)) ?_
   rintro _ w39 ⟨s18, rfl⟩
   refine R z (not_ z) (Rm z ?_)
   rcases bs (!r2h) with hc11 | hc11
   ·iterate 6 refine Nh z hc11 ?_
    exact R z (pT z hc11 z) (Wl (fun _ q => ⟨true, som (ifT hm1x hc11), (q.k (s5 z z z z z)), s18⟩))
   refine Rh z hc11 (fd f_74_5 z) (Rh z hc11 (l1 g_47 z fid (((h1o.ext s17).ext s18).at z)) (Rh z hc11 (mv z) ?_))
   obtain ⟨x3a, e2j, hm2k⟩ := bdS (ifF hm1x hc11)
   refine RXg z z hc11 z (rd_sliceX d_47 z_9 z z (h1t.ext s18) z z e2j) ?_
   rintro _ ⟨a3b, n3c, c3d, rfl, h2l⟩
   refine Rh z hc11 (mv z) ?_
   obtain ⟨r2m, e2n, hm2o⟩ := bdS hm2k
   refine Eg z z hc11 z (fc call131 z (W_impl_ContainsText (B := B) e2n (lt_ hBw (lt_ h1w s18.size)) h2l h1u)) ?_
   rintro _ w3e ⟨s2p, rfl⟩
   exact R z (pF z hc11 z) (Wl (fun _ q => ⟨r2m, som hm2o, (q.k (s5 z z z z z)), (bup s18 s2p)⟩))
  rintro a2q w3f ⟨x1g, rfl, hS3g, s1y⟩
  revert a2q
  refine Wo (Wc z (fun hc1h => ?_) (fun hc1h => ?_))
  ·exact Ws (Ra z (Wn (Wr (rtO (QO_retL (som (ifT hm1v hc1h)).symm (ret1 hr z ⟨(bup (bup (bup h12 s15) s17) s1y), z⟩))))))
  exact Wk (Wg (R z (inc_ hk1s (lt_ (repS.len p1_5) LEN_le) z z) (Rm z (Wl (fun _ q => ⟨(), (som (ifF hm1v hc1h)).symm, ⟨(q.k (s4 z z z z)), (bup s17 s1y)⟩⟩)))))
 ·rintro _ a3h w3i ⟨hS2r, s2s⟩
  refine Wu (e := [(1, (pt w0.heap.size)), (25, (sl pa1_5 pn1_5 pc1_5)), (26, (vI (x1.names.length : Int))), (27, (vI ((x1.names.length : Nat) : Int)))]) (N := 44) ?_ hS2r
  refine Ws (R z (lss z z) (Wn (Wq (Wc z (fun hc => (noltt hc).elim) (fun _ => ?_)))))
  exact WC_exit (fun a' ha' => ⟨rfl, ⟨(Sat.weaken ha' sn), s2s⟩⟩)
 ·rintro _ a2t w3j rfl ⟨hS3k, s2u⟩
  have hm2v := elL hm1q
  revert a2t
  refine Wo (Ws (Ra z (Wn ?_)))
  obtain rfl := som hm2v
  exact Wr (ret1 hr z ⟨(bup (bup h12 s15) s2u), z⟩)
 rintro r3l ex3m a3n w3o rfl ⟨rfl, hq2w⟩
 have hm2x := elR hm1q
 obtain rfl := som hm2x
 exact ⟨hq2w, z⟩
theorem W_impl_validChoice {x1 : Desc} {x2 : Rule} {res : Bool} (hm : M_impl_validChoice x1 x2 = some res) (hBw : B ≤ w0.heap.size) (p1_0 : repS w0 B (sl pa1_0 pn1_0 pc1_0) x1.rules) (p2_0 : x2.name.b.length ≤ LEN) (p2_1 : inI x2.kind) (p2_2 : inI x2.size) (p2_4 : repS w0 B (sl pa2_4 pn2_4 pc2_4) x2.bytes) (p2_5 : repS w0 B (sl pa2_5 pn2_5 pc2_5) x2.names) (p2_6 : repS w0 B (sl pa2_6 pn2_6 pc2_6) x2.tags) (p2_7 : repS w0 B (sl pa2_7 pn2_7 pc2_7) x2.kids) : CallsR prog 151 [(.agg #[(sl pa1_0 pn1_0 pc1_0)]), (.agg #[(Str.v x2.name), (vI x2.kind), (vI x2.size), (vB x2.little), (sl pa2_4 pn2_4 pc2_4), (sl pa2_5 pn2_5 pc2_5), (sl pa2_6 pn2_6 pc2_6), (sl pa2_7 pn2_7 pc2_7)])] w0 (Q7 w0 B res) := by
 unfold M_impl_validChoice at hm
 refine goF func151 z z (lb z) fun fn hr => Ws (E z (fb z) ?_)
 rintro _ w17 ⟨rfl, h1m⟩
 have h13 := h1m.below
 have h24 : Blk w17 w0.heap.size [(sl pa1_0 pn1_0 pc1_0)] := h1m.blk
 refine E z (fb z) ?_
 rintro _ w1g ⟨rfl, h1n⟩
 have h11 := h1n.below
 have h1f : Blk w1g w17.heap.size (vR x2 pa2_4 pn2_4 pc2_4 pa2_5 pn2_5 pc2_5 pa2_6 pn2_6 pc2_6 pa2_7 pn2_7 pc2_7) := h1n.blk
 refine Ra z (Wn (Wq (Wq ?_)))
 obtain ⟨u25, hu26, hm1o⟩ := bdS hm
 refine WC_cut (fun a w => ∃ (x1h : Bool), x1h = u25 ∧ Sat 57 [(2, (pt w0.heap.size)), (3, (pt w17.heap.size)), (21, (vB x1h))] a ∧ Below w1g.heap.size w1g w) ?_ ?_
 ·refine Wg (R z (lN (vs := (vR x2 pa2_4 pn2_4 pc2_4 pa2_5 pn2_5 pc2_5 pa2_6 pn2_6 pc2_6 pa2_7 pn2_7 pc2_7)) g_74 z_74 z z fid (h1f.row 0 8 z)) (R z (fd f_74_6 z) (R z (l1 g_72 z fid (h1f.at z)) ?_)))
  have h1i := (p2_6.ext h13).ext h11
  refine R z (lnR d_72 z h1i) (R z (add_ z z) ?_)
  have h1p := lt_ h13.size h11.size
  obtain ⟨r27, e28, hm1q⟩ := bdS hu26
  refine E z (fc call148 z (W_impl_plainRule (B := B) e28 (lt_ hBw h1p) p2_0 p2_1 p2_2 ((p2_4.ext h13).ext h11) ((p2_5.ext h13).ext h11) h1i ((p2_7.ext h13).ext h11) (iA _ _))) ?_
  rintro _ w3c ⟨s18, rfl⟩
  refine R z (not_ z) (Rm z ?_)
  rcases bs (!r27) with hc14 | hc14
  ·iterate 5 refine Nh z hc14 ?_
   exact R z (pT z hc14 z) (Wl (fun _ q => ⟨true, som (ifT hm1q hc14), (q.k (s3 z z z)), s18⟩))
  refine Rh z hc14 (fd f_74_6 z) (Rh z hc14 (l1 g_72 z fid ((h1f.ext s18).at z)) ?_)
  have h1r := h1i.ext s18
  refine Rh z hc14 (lnR d_72 z h1r) ?_
  obtain ⟨r29, e2a, hm2b⟩ := bdS (ifF hm1q hc14)
  refine Eg z z hc14 z (fc call95 z (W_impl_InRange (B := B) e2a (lt_ hBw (lt_ h1p s18.size)) (inI_len (repS.len h1r)) (ii z) (ii z))) ?_
  rintro _ w3d ⟨s2c, rfl⟩
  exact Rh z hc14 (not_ z) (R z (pF z hc14 z) (Wl (fun _ q => ⟨!r29, som hm2b, (q.k (s3 z z z)), (bup s18 s2c)⟩)))
 rintro a2d w3e ⟨x1h, rfl, hS3f, s15⟩
 revert a2d
 refine Wo (Wc z (fun hc1j => ?_) (fun hc1j => ?_))
 ·refine Ws (Ra z (Wn ?_))
  obtain rfl := som (ifT hm1o hc1j)
  exact Wr (ret1 hr z ⟨(bup (bup h13 h11) s15), z⟩)
 refine Wk (Wq (WC_draw (X := noX) 0 (.rd 0 (.rd 1 (.rd 2 (.rd 3 (.rd 4 (.ef 5 (.rd 6 .done))))))) mo (by kernel_rfl) fun w3g s16 _ => dR z z (lN (vs := [(sl pa1_0 pn1_0 pc1_0)]) g_31 z_31 z z fid ((((h24.ext h11).ext s15).ext s16).row 0 1 z)) (dR z z (fd f_74_7 z) ?_)))
 have h1s := (h1f.ext s15).ext s16
 refine dR z z (l1 g_72 z fid (h1s.at z)) ?_
 obtain ⟨x3h, e2e, hm2f⟩ := bdS (ifF hm1o hc1j)
 refine dRX z z (at_ (α := Int) d_72 z_3 z z z ((((p2_7.ext h13).ext h11).ext s15).ext s16) e2e) ?_
 rintro _ ⟨b3i, o3j, cs3k, rfl, h2g, h2h, h3l⟩
 obtain ⟨rfl, h2i⟩ := Int_open h2h
 refine dR z z (l1 g_3 z fid (h2g.at0 z)) ?_
 have h1t := lt_ (lt_ (lt_ h13.size h11.size) s15.size) s16.size
 obtain ⟨r19, e2j, hm2k⟩ := bdS hm2f
 refine dE z z (fc call149 z (W_impl_IntegerLimit (B := B) e2j (lt_ hBw h1t) ((((p1_0.ext h13).ext h11).ext s15).ext s16) h2i)) (.inr fun _ _ h => chgB (h.1)) ?_
 rintro _ w1a ⟨s1b, rfl, h2l⟩
 refine dR z z (asg z) (PR_done (Wo (Wq (Ws (R z (fd f_74_6 z) ?_)))))
 have h1u := h1s.ext s1b
 refine R z (l1 g_72 z fid (h1u.at z)) ?_
 have h1v := ((((p2_6.ext h13).ext h11).ext s15).ext s16).ext s1b
 refine R z (lnR d_72 z h1v) (Rm z (Wn ?_))
 obtain ⟨u3m, hu2m, hm1w⟩ := bdS hm2k
 refine WC_forN (σ := Unit) (ρ := Bool) (fun (k1c : Nat) (_ : Unit) a w => Sat 57 [(3, (pt w17.heap.size)), (5, (vI r19)), (29, (sl pa2_6 pn2_6 pc2_6)), (30, (vI (x2.tags.length : Int))), (31, (vI ((k1c : Nat) : Int)))] a ∧ Below w1a.heap.size w1a w) (fun (_ : Unit) a w => Sat 57 [(5, (vI r19))] a ∧ Below w1a.heap.size w1a w) (fun r ex a w => ex = .ret ∧ RetPost prog fn (Q7 w0 B r) a w) hu2m ?_ ?_ ?_ ?_ ?_
 ·exact fun _ q => ⟨(q.k (s5 z z z z z)), (br w1a)⟩
 ·rintro k1c _ a3n w1x o3o hk1y ⟨hS2n, s1d⟩ hm2o
  refine Wu (e := [(3, (pt w17.heap.size)), (5, (vI r19)), (29, (sl pa2_6 pn2_6 pc2_6)), (30, (vI (x2.tags.length : Int))), (31, (vI ((k1c : Nat) : Int)))]) (N := 57) ?_ hS2n
  refine Ws (R z (lss z z) (Wn (Wq (Wc z (fun _ => ?_) (fun hc => (nolt hk1y hc).elim)))))
  refine Wk (Wq (WC_block (Ws (Rm z ?_))))
  obtain ⟨x2p, e2q, hm2r⟩ := bdS hm2o
  have h1z := h1v.ext s1d
  refine RX z (at_ (α := Int) d_72 z_3 z z z h1z e2q) ?_
  rintro _ ⟨b3p, o3q, cs3r, rfl, h2s, h2t, h3s⟩
  obtain ⟨rfl, h2u⟩ := Int_open h2t
  refine R z (l1 g_3 z fid (h2s.at0 z)) (Ra z (Ra z (Wn (Wq ?_))))
  obtain ⟨u2v, hu2w, hm20⟩ := bdS hm2r
  refine WC_cut (fun a w => ∃ (x1k : Bool), x1k = u2v ∧ Sat 57 [(3, (pt w17.heap.size)), (5, (vI r19)), (29, (sl pa2_6 pn2_6 pc2_6)), (30, (vI (x2.tags.length : Int))), (31, (vI ((k1c : Nat) : Int))), (53, (vB x1k))] a ∧ Below w1x.heap.size w1x w) ?_ ?_
  ·refine Wg (Rm z (Rm z ?_))
   obtain ⟨r2x, e2y, hm21⟩ := bdS hu2w
   refine E z (fc call95 z (W_impl_InRange (B := B) e2y (lt_ hBw (lt_ (lt_ h1t s1b.size) s1d.size)) h2u (ii z) h2l)) ?_
   rintro _ w3t ⟨s1e, rfl⟩
   refine R z (not_ z) (Rm z ?_)
   rcases bs (!r2x) with hc12 | hc12
   ·iterate 3 refine Nh z hc12 ?_
    exact Nv z (Nv z (Nv z (Nv z (Nv z (Nv z (Nv z (Nv z (Nh z hc12 (R z (pT z hc12 z) (Wl (fun _ q => ⟨true, som (ifT hm21 hc12), (q.k (s6 z z z z z z)), s1e⟩)))))))))))
   have hm22 := ifF hm21 hc12
   refine Rh z hc12 (mv z) (Rh z hc12 (rd_gtr z z) (Rh z hc12 (mv z) ?_))
   rcases bs (decide (0 < ((k1c : Nat) : Int))) with hc10 | hc10
   ·refine Rh z hc10 (fd f_74_6 z) (Rh z hc10 (l1 g_72 z fid (((h1u.ext s1d).ext s1e).at z)) (Rh z hc10 (mv z) (Rh z hc10 (sb_ z z) ?_)))
    obtain ⟨x2z, e30, hm31⟩ := bdS (ifT hm22 hc10)
    refine RXg z z hc10 z (at_ (α := Int) d_72 z_3 z z z (h1z.ext s1e) e30) ?_
    rintro _ ⟨b3u, o3v, cs3w, rfl, h32, h33, h3x⟩
    obtain ⟨rfl, h3y⟩ := Int_open h33
    exact Rh z hc10 (l1 g_3 z fid (h32.at0 z)) (Rh z hc10 (mv z) (Rh z hc10 (rd_geq z z) (Rh z hc12 (pT z hc10 z) (R z (pF z hc12 z) (Wl (fun _ q => ⟨decide (x2p ≤ x2z), som hm31, (q.k (s6 z z z z z z)), s1e⟩))))))
   iterate 8 refine Nh z hc10 ?_
   exact Rh z hc12 (pF z hc10 z) (R z (pF z hc12 z) (Wl (fun _ q => ⟨false, som (ifF hm22 hc10), (q.k (s6 z z z z z z)), s1e⟩)))
  rintro a34 w3z ⟨x1k, rfl, hS40, s23⟩
  revert a34
  refine Wo (Wc z (fun hc1l => ?_) (fun hc1l => ?_))
  ·exact Ws (Ra z (Wn (Wr (rtO (QO_retL (som (ifT hm20 hc1l)).symm (ret1 hr z ⟨(bup (bup (bup (bup (bup (bup h13 h11) s15) s16) s1b) s1d) s23), z⟩))))))
  exact Wk (Wg (R z (inc_ hk1y (lt_ (repS.len p2_6) LEN_le) z z) (Rm z (Wl (fun _ q => ⟨(), (som (ifF hm20 hc1l)).symm, ⟨(q.k (s5 z z z z z)), (bup s1d s23)⟩⟩)))))
 ·rintro _ a41 w42 ⟨hS35, s36⟩
  refine Wu (e := [(3, (pt w17.heap.size)), (5, (vI r19)), (29, (sl pa2_6 pn2_6 pc2_6)), (30, (vI (x2.tags.length : Int))), (31, (vI ((x2.tags.length : Nat) : Int)))]) (N := 57) ?_ hS35
  refine Ws (R z (lss z z) (Wn (Wq (Wc z (fun hc => (noltt hc).elim) (fun _ => ?_)))))
  exact WC_exit (fun a' ha' => ⟨rfl, ⟨(Sat.weaken ha' (s1 z)), s36⟩⟩)
 ·rintro _ a37 w43 rfl ⟨hS44, s38⟩
  have hm39 := elL hm1w
  revert a37
  refine Wo (Ws (Rm z (R z (rd_gtr z z) (Ra z (Wn ?_)))))
  obtain rfl := som hm39
  exact Wr (ret1 hr z ⟨(bup (bup (bup (bup (bup h13 h11) s15) s16) s1b) s38), z⟩)
 rintro r45 ex46 a47 w48 rfl ⟨rfl, hq3a⟩
 have hm3b := elR hm1w
 obtain rfl := som hm3b
 exact ⟨hq3a, z⟩
theorem W_impl_validKind {x1 : Desc} {x2 : Rule} {res : Bool} (hm : M_impl_validKind n x1 x2 = some res) (hBw : B ≤ w0.heap.size) (p1_0 : repS w0 B (sl pa1_0 pn1_0 pc1_0) x1.rules) (p2_0 : x2.name.b.length ≤ LEN) (p2_1 : inI x2.kind) (p2_2 : inI x2.size) (p2_4 : repS w0 B (sl pa2_4 pn2_4 pc2_4) x2.bytes) (p2_5 : repS w0 B (sl pa2_5 pn2_5 pc2_5) x2.names) (p2_6 : repS w0 B (sl pa2_6 pn2_6 pc2_6) x2.tags) (p2_7 : repS w0 B (sl pa2_7 pn2_7 pc2_7) x2.kids) : CallsR prog 129 [(.agg #[(sl pa1_0 pn1_0 pc1_0)]), (.agg #[(Str.v x2.name), (vI x2.kind), (vI x2.size), (vB x2.little), (sl pa2_4 pn2_4 pc2_4), (sl pa2_5 pn2_5 pc2_5), (sl pa2_6 pn2_6 pc2_6), (sl pa2_7 pn2_7 pc2_7)])] w0 (Q7 w0 B res) := by
 unfold M_impl_validKind at hm
 refine goF func129 z z (lb z) fun fn hr => Ws (E z (fb z) ?_)
 rintro _ w1n ⟨rfl, h26⟩
 have h11 := h26.below
 have h1o : Blk w1n w0.heap.size [(sl pa1_0 pn1_0 pc1_0)] := h26.blk
 refine E z (fb z) ?_
 rintro _ w12 ⟨rfl, h27⟩
 have h10 := h27.below
 have h17 : Blk w12 w1n.heap.size (vR x2 pa2_4 pn2_4 pc2_4 pa2_5 pn2_5 pc2_5 pa2_6 pn2_6 pc2_6 pa2_7 pn2_7 pc2_7) := h27.blk
 refine Ra z (Wn (Wq (Ws (R z (fd f_74_1 z) (R z (l1 g_3 z fid (h17.at z)) (Wn (WC_block (Ws (R z (eql z z) (Ra z (Wn (Wc z (fun hc1p => ?_) (fun hc1p => ?_)))))))))))))
 ·refine Wq ?_
  obtain ⟨u38, hu39, hm3a⟩ := bdS (ifT hm hc1p)
  refine WC_cut (fun a w => ∃ (x1q : Bool), x1q = u38 ∧ Sat 102 [(4, (vB x1q))] a ∧ Below w12.heap.size w12 w) ?_ ?_
  ·refine Wg (R z (lN (vs := (vR x2 pa2_4 pn2_4 pc2_4 pa2_5 pn2_5 pc2_5 pa2_6 pn2_6 pc2_6 pa2_7 pn2_7 pc2_7)) g_74 z_74 z z fid (h17.row 0 8 z)) ?_)
   have h28 := lt_ h11.size h10.size
   obtain ⟨r3b, e3c, hm29⟩ := bdS hu39
   refine E z (fc call148 z (W_impl_plainRule (B := B) e3c (lt_ hBw h28) p2_0 p2_1 p2_2 ((p2_4.ext h11).ext h10) ((p2_5.ext h11).ext h10) ((p2_6.ext h11).ext h10) ((p2_7.ext h11).ext h10) (ii z))) ?_
   rintro _ w5m ⟨s1i, rfl⟩
   refine Rm z ?_
   rcases bs r3b with hc1d | hc1d
   ·refine Rh z hc1d (fd f_74_2 z) ?_
    have h2a := h17.ext s1i
    refine Rh z hc1d (l1 g_3 z fid (h2a.at z)) ?_
    obtain ⟨r3d, e3e, hm2b⟩ := bdS (ifT hm29 hc1d)
    refine Eg z z hc1d z (fc call95 z (W_impl_InRange (B := B) e3e (lt_ hBw (lt_ h28 s1i.size)) p2_2 (ii z) (ii z))) ?_
    rintro _ w5n ⟨s1l, rfl⟩
    refine R z (pT z hc1d z) (Rm z ?_)
    rcases bs r3d with hc16 | hc16
    ·have hm2c := ifT hm2b hc16
     refine Rh z hc16 (fd f_74_3 z) ?_
     have h2d := h2a.ext s1l
     refine Rh z hc16 (l1 g_4 z fid (h2d.at z)) (Rh z hc16 (not_ z) (Rh z hc16 (mv z) ?_))
     rcases bs (!x2.little) with hc1e | hc1e
     ·iterate 3 refine Nh z hc1e ?_
      exact Rh z hc16 (pT z hc1e z) (R z (pT z hc16 z) (Ra z (Wl (fun _ q => ⟨true, som (ifT hm2c hc1e), (q.k (s1 z)), (bup s1i s1l)⟩))))
     exact Rh z hc1e (fd f_74_2 z) (Rh z hc1e (l1 g_3 z fid (h2d.at z)) (Rh z hc1e (rd_gtr z z) (Rh z hc16 (pF z hc1e z) (R z (pT z hc16 z) (Ra z (Wl (fun _ q => ⟨decide (1 < x2.size), som (ifF hm2c hc1e), (q.k (s1 z)), (bup s1i s1l)⟩)))))))
    iterate 4 refine Nh z hc16 ?_
    exact Nv z (Nv z (Nv z (Nh z hc16 (R z (pF z hc16 z) (Ra z (Wl (fun _ q => ⟨false, som (ifF hm2b hc16), (q.k (s1 z)), (bup s1i s1l)⟩)))))))
   iterate 3 refine Nh z hc1d ?_
   exact R z (pF z hc1d z) (Rm z (Nh z z (Nh z z (Nh z z (Nh z z (Nv z (Nv z (Nv z (Nh z z (R z (pF z z z) (Ra z (Wl (fun _ q => ⟨false, som (ifF hm29 hc1d), (q.k (s1 z)), s1i⟩)))))))))))))
  rintro a3f w5o ⟨x1q, rfl, hS5p, s3g⟩
  revert a3f
  refine Wo ?_
  obtain rfl := som hm3a
  exact Wr (rtO (ret1 hr z ⟨(bup (bup h11 h10) s3g), z⟩))
 have hm2e := ifF hm hc1p
 refine Ws (R z (eql z z) (Ra z (Wn (Wc z (fun hc1r => ?_) (fun hc1r => ?_)))))
 ·refine Wq ?_
  obtain ⟨u3h, hu3i, hm3j⟩ := bdS (ifT hm2e hc1r)
  refine WC_cut (fun a w => ∃ (x1s : Bool), x1s = u3h ∧ Sat 102 [(4, (vB x1s))] a ∧ Below w12.heap.size w12 w) ?_ ?_
  ·refine Wg (R z (lN (vs := (vR x2 pa2_4 pn2_4 pc2_4 pa2_5 pn2_5 pc2_5 pa2_6 pn2_6 pc2_6 pa2_7 pn2_7 pc2_7)) g_74 z_74 z z fid (h17.row 0 8 z)) ?_)
   have h2f := (p2_4.ext h11).ext h10
   have h2g := lt_ h11.size h10.size
   obtain ⟨r3k, e3l, hm2h⟩ := bdS hu3i
   refine E z (fc call148 z (W_impl_plainRule (B := B) e3l (lt_ hBw h2g) p2_0 p2_1 p2_2 h2f ((p2_5.ext h11).ext h10) ((p2_6.ext h11).ext h10) ((p2_7.ext h11).ext h10) (ii z))) ?_
   rintro _ w5q ⟨s1j, rfl⟩
   refine Rm z ?_
   rcases bs r3k with hc19 | hc19
   ·refine Rh z hc19 (fd f_74_4 z) (Rh z hc19 (l1 g_25 z fid ((h17.ext s1j).at z)) ?_)
    have h2i := h2f.ext s1j
    refine Rh z hc19 (lnR d_25 z h2i) ?_
    obtain ⟨r3m, e3n, hm3o⟩ := bdS (ifT hm2h hc19)
    refine Eg z z hc19 z (fc call95 z (W_impl_InRange (B := B) e3n (lt_ hBw (lt_ h2g s1j.size)) (inI_len (repS.len h2i)) (ii z) (ii z))) ?_
    rintro _ w5r ⟨s3p, rfl⟩
    exact R z (pT z hc19 z) (Ra z (Wl (fun _ q => ⟨r3m, som hm3o, (q.k (s1 z)), (bup s1j s3p)⟩)))
   iterate 4 refine Nh z hc19 ?_
   exact R z (pF z hc19 z) (Ra z (Wl (fun _ q => ⟨false, som (ifF hm2h hc19), (q.k (s1 z)), s1j⟩)))
  rintro a3q w5s ⟨x1s, rfl, hS5t, s3r⟩
  revert a3q
  refine Wo ?_
  obtain rfl := som hm3j
  exact Wr (rtO (ret1 hr z ⟨(bup (bup h11 h10) s3r), z⟩))
 have hm2j := ifF hm2e hc1r
 refine Ws (R z (eql z z) (Ra z (Wn (Wc z (fun hc1t => ?_) (fun hc1t => ?_)))))
 ·refine Wq ?_
  obtain ⟨u3s, hu3t, hm3u⟩ := bdS (ifT hm2j hc1t)
  refine WC_cut (fun a w => ∃ (x1u : Bool), x1u = u3s ∧ Sat 102 [(4, (vB x1u))] a ∧ Below w12.heap.size w12 w) ?_ ?_
  ·refine Wg (R z (lN (vs := (vR x2 pa2_4 pn2_4 pc2_4 pa2_5 pn2_5 pc2_5 pa2_6 pn2_6 pc2_6 pa2_7 pn2_7 pc2_7)) g_74 z_74 z z fid (h17.row 0 8 z)) ?_)
   have h2k := lt_ h11.size h10.size
   obtain ⟨r3v, e3w, hm2l⟩ := bdS hu3t
   refine E z (fc call148 z (W_impl_plainRule (B := B) e3w (lt_ hBw h2k) p2_0 p2_1 p2_2 ((p2_4.ext h11).ext h10) ((p2_5.ext h11).ext h10) ((p2_6.ext h11).ext h10) ((p2_7.ext h11).ext h10) (ii z))) ?_
   rintro _ w5u ⟨s1m, rfl⟩
   refine Rm z ?_
   rcases bs r3v with hc1f | hc1f
   ·refine Rh z hc1f (fd f_74_2 z) (Rh z hc1f (l1 g_3 z fid ((h17.ext s1m).at z)) ?_)
    obtain ⟨r3x, e3y, hm3z⟩ := bdS (ifT hm2l hc1f)
    refine Eg z z hc1f z (fc call95 z (W_impl_InRange (B := B) e3y (lt_ hBw (lt_ h2k s1m.size)) p2_2 (ii z) (ii z))) ?_
    rintro _ w5v ⟨s40, rfl⟩
    exact R z (pT z hc1f z) (Ra z (Wl (fun _ q => ⟨r3x, som hm3z, (q.k (s1 z)), (bup s1m s40)⟩)))
   iterate 3 refine Nh z hc1f ?_
   exact R z (pF z hc1f z) (Ra z (Wl (fun _ q => ⟨false, som (ifF hm2l hc1f), (q.k (s1 z)), s1m⟩)))
  rintro a41 w5w ⟨x1u, rfl, hS5x, s42⟩
  revert a41
  refine Wo ?_
  obtain rfl := som hm3u
  exact Wr (rtO (ret1 hr z ⟨(bup (bup h11 h10) s42), z⟩))
 have hm2m := ifF hm2j hc1t
 refine Ws (R z (eql z z) (Ra z (Wn (Wc z (fun hc1v => ?_) (fun hc1v => ?_)))))
 ·refine Wq ?_
  obtain ⟨u43, hu44, hm45⟩ := bdS (ifT hm2m hc1v)
  refine WC_cut (fun a w => ∃ (x1w : Bool), x1w = u43 ∧ Sat 102 [(4, (vB x1w))] a ∧ Below w12.heap.size w12 w) ?_ ?_
  ·refine WC_draw (X := noX) 0 (.rd 0 (.ef 1 (.rd 2 (.rd 3 (.rd 4 (.rd 5 (.rd 6 (.rd 7 (.ef 8 (.rd 9 (.rd 10 (.rd 11 .done)))))))))))) mo (by kernel_rfl) fun w5y s1a _ => ?_
   have h2n := h17.ext s1a
   refine dR z z (lN (vs := (vR x2 pa2_4 pn2_4 pc2_4 pa2_5 pn2_5 pc2_5 pa2_6 pn2_6 pc2_6 pa2_7 pn2_7 pc2_7)) g_74 z_74 z z fid (h2n.row 0 8 z)) ?_
   have h2o := ((p2_7.ext h11).ext h10).ext s1a
   have h2p := lt_ (lt_ h11.size h10.size) s1a.size
   obtain ⟨r46, e47, hm2q⟩ := bdS hu44
   refine dE z z (fc call148 z (W_impl_plainRule (B := B) e47 (lt_ hBw h2p) p2_0 p2_1 p2_2 (((p2_4.ext h11).ext h10).ext s1a) (((p2_5.ext h11).ext h10).ext s1a) (((p2_6.ext h11).ext h10).ext s1a) h2o (ii z))) (.inr fun _ _ h => chgB (h.1)) ?_
   rintro _ w5z ⟨s1g, rfl⟩
   refine dR z z (mv z) ?_
   rcases bs r46 with hc13 | hc13
   ·refine dRg z z z hc13 z (lN (vs := [(sl pa1_0 pn1_0 pc1_0)]) g_31 z_31 z z fid ((((h1o.ext h10).ext s1a).ext s1g).row 0 1 z)) (dRg z z z hc13 z (fd f_74_7 z) (dRg z z z hc13 z (l1 g_72 z fid ((h2n.ext s1g).at z)) ?_))
    obtain ⟨x60, e48, hm49⟩ := bdS (ifT hm2q hc13)
    refine dRXg z z z hc13 z (at_ (α := Int) d_72 z_3 z z z (h2o.ext s1g) e48) ?_
    rintro _ ⟨b61, o62, cs63, rfl, h4a, h4b, h64⟩
    obtain ⟨rfl, h4c⟩ := Int_open h4b
    refine dRg z z z hc13 z (l1 g_3 z fid (h4a.at0 z)) ?_
    obtain ⟨r4d, e4e, hm4f⟩ := bdS hm49
    refine dEg z z z hc13 z (fc call149 z (W_impl_IntegerLimit (B := B) e4e (lt_ hBw (lt_ h2p s1g.size)) ((((p1_0.ext h11).ext h10).ext s1a).ext s1g) h4c)) (.inr fun _ _ h => chgB (h.1)) ?_
    rintro _ w65 ⟨s4g, rfl, h66⟩
    exact dRg z z z hc13 z (rd_gtr z z) (dR z z (pT z hc13 z) (dR z z (asg z) (PR_done (fun _ q => ⟨decide (0 < r4d), som hm4f, (q.k (s1 z)), (bup (bup s1a s1g) s4g)⟩))))
   iterate 5 refine dRn z z z hc13 z ?_
   exact dEn z z z hc13 z (dRn z z z hc13 z (dR z z (pF z hc13 z) (dR z z (asg z) (PR_done (fun _ q => ⟨false, som (ifF hm2q hc13), (q.k (s1 z)), (bup s1a s1g)⟩)))))
  rintro a4h w67 ⟨x1w, rfl, hS68, s4i⟩
  revert a4h
  refine Wo ?_
  obtain rfl := som hm45
  exact Wr (rtO (ret1 hr z ⟨(bup (bup h11 h10) s4i), z⟩))
 have hm2r := ifF hm2m hc1v
 refine Ws (R z (eql z z) (Ra z (Wn (Wc z (fun hc1x => ?_) (fun hc1x => ?_)))))
 ·refine Wq ?_
  obtain ⟨u4j, hu4k, hm4l⟩ := bdS (ifT hm2r hc1x)
  refine WC_cut (fun a w => ∃ (x1y : Bool), x1y = u4j ∧ Sat 102 [(4, (vB x1y))] a ∧ Below w12.heap.size w12 w) ?_ ?_
  ·refine WC_draw (X := noX) 0 (.rd 0 (.ef 1 (.rd 2 (.rd 3 (.rd 4 (.rd 5 (.rd 6 (.rd 7 (.ef 8 (.rd 9 (.rd 10 (.rd 11 .done)))))))))))) mo (by kernel_rfl) fun w69 s1b _ => ?_
   have h2s := h17.ext s1b
   refine dR z z (lN (vs := (vR x2 pa2_4 pn2_4 pc2_4 pa2_5 pn2_5 pc2_5 pa2_6 pn2_6 pc2_6 pa2_7 pn2_7 pc2_7)) g_74 z_74 z z fid (h2s.row 0 8 z)) ?_
   have h2t := ((p2_7.ext h11).ext h10).ext s1b
   have h2u := lt_ (lt_ h11.size h10.size) s1b.size
   obtain ⟨r4m, e4n, hm2v⟩ := bdS hu4k
   refine dE z z (fc call148 z (W_impl_plainRule (B := B) e4n (lt_ hBw h2u) p2_0 p2_1 p2_2 (((p2_4.ext h11).ext h10).ext s1b) (((p2_5.ext h11).ext h10).ext s1b) (((p2_6.ext h11).ext h10).ext s1b) h2t (ii z))) (.inr fun _ _ h => chgB (h.1)) ?_
   rintro _ w6a ⟨s1h, rfl⟩
   refine dR z z (mv z) ?_
   rcases bs r4m with hc14 | hc14
   ·refine dRg z z z hc14 z (lN (vs := [(sl pa1_0 pn1_0 pc1_0)]) g_31 z_31 z z fid ((((h1o.ext h10).ext s1b).ext s1h).row 0 1 z)) (dRg z z z hc14 z (fd f_74_7 z) (dRg z z z hc14 z (l1 g_72 z fid ((h2s.ext s1h).at z)) ?_))
    obtain ⟨x6b, e4o, hm4p⟩ := bdS (ifT hm2v hc14)
    refine dRXg z z z hc14 z (at_ (α := Int) d_72 z_3 z z z (h2t.ext s1h) e4o) ?_
    rintro _ ⟨b6c, o6d, cs6e, rfl, h4q, h4r, h6f⟩
    obtain ⟨rfl, h4s⟩ := Int_open h4r
    refine dRg z z z hc14 z (l1 g_3 z fid (h4q.at0 z)) ?_
    obtain ⟨r4t, e4u, hm4v⟩ := bdS hm4p
    refine dEg z z z hc14 z (fc call149 z (W_impl_IntegerLimit (B := B) e4u (lt_ hBw (lt_ h2u s1h.size)) ((((p1_0.ext h11).ext h10).ext s1b).ext s1h) h4s)) (.inr fun _ _ h => chgB (h.1)) ?_
    rintro _ w6g ⟨s4w, rfl, h6h⟩
    exact dRg z z z hc14 z (rd_gtr z z) (dR z z (pT z hc14 z) (dR z z (asg z) (PR_done (fun _ q => ⟨decide (0 < r4t), som hm4v, (q.k (s1 z)), (bup (bup s1b s1h) s4w)⟩))))
   iterate 5 refine dRn z z z hc14 z ?_
   exact dEn z z z hc14 z (dRn z z z hc14 z (dR z z (pF z hc14 z) (dR z z (asg z) (PR_done (fun _ q => ⟨false, som (ifF hm2v hc14), (q.k (s1 z)), (bup s1b s1h)⟩)))))
  rintro a4x w6i ⟨x1y, rfl, hS6j, s4y⟩
  revert a4x
  refine Wo ?_
  obtain rfl := som hm4l
  exact Wr (rtO (ret1 hr z ⟨(bup (bup h11 h10) s4y), z⟩))
 have hm2w := ifF hm2r hc1x
 refine Ws (R z (eql z z) (Ra z (Wn (Wc z (fun hc1z => ?_) (fun hc1z => ?_)))))
 ·refine Ws (R z (lN (vs := (vR x2 pa2_4 pn2_4 pc2_4 pa2_5 pn2_5 pc2_5 pa2_6 pn2_6 pc2_6 pa2_7 pn2_7 pc2_7)) g_74 z_74 z z fid (h17.row 0 8 z)) ?_)
  obtain ⟨r6k, e4z, hm50⟩ := bdS (ifT hm2w hc1z)
  refine E z (fc call150 z (W_impl_validSequence (B := B) e4z (lt_ hBw (lt_ h11.size h10.size)) p2_0 p2_1 p2_2 ((p2_4.ext h11).ext h10) ((p2_5.ext h11).ext h10) ((p2_6.ext h11).ext h10) ((p2_7.ext h11).ext h10))) ?_
  rintro _ w6l ⟨s51, rfl⟩
  refine Ra z (Wn ?_)
  obtain rfl := som hm50
  exact Wr (rtO (ret1 hr z ⟨(bup (bup h11 h10) s51), z⟩))
 have hm2x := ifF hm2w hc1z
 refine Ws (R z (eql z z) (Ra z (Wn (Wc z (fun hc20 => ?_) (fun hc20 => ?_)))))
 ·refine Ws (R z (lN (vs := [(sl pa1_0 pn1_0 pc1_0)]) g_31 z_31 z z fid ((h1o.ext h10).row 0 1 z)) (R z (lN (vs := (vR x2 pa2_4 pn2_4 pc2_4 pa2_5 pn2_5 pc2_5 pa2_6 pn2_6 pc2_6 pa2_7 pn2_7 pc2_7)) g_74 z_74 z z fid (h17.row 0 8 z)) ?_))
  obtain ⟨r6m, e52, hm53⟩ := bdS (ifT hm2x hc20)
  refine E z (fc call151 z (W_impl_validChoice (B := B) e52 (lt_ hBw (lt_ h11.size h10.size)) ((p1_0.ext h11).ext h10) p2_0 p2_1 p2_2 ((p2_4.ext h11).ext h10) ((p2_5.ext h11).ext h10) ((p2_6.ext h11).ext h10) ((p2_7.ext h11).ext h10))) ?_
  rintro _ w6n ⟨s54, rfl⟩
  refine Ra z (Wn ?_)
  obtain rfl := som hm53
  exact Wr (rtO (ret1 hr z ⟨(bup (bup h11 h10) s54), z⟩))
 refine Wq (Ws (R z (eql z z) (Ra z (Wn ?_))))
 obtain ⟨u55, hu2y, hm2z⟩ := bdS (ifF hm2x hc20)
 refine WC_cut (fun a w => ∃ (x21 : Bool), x21 = u55 ∧ Sat 102 [(3, (pt w1n.heap.size)), (6, (vI x2.kind)), (80, (vB x21))] a ∧ Below w12.heap.size w12 w) ?_ ?_
 ·refine Wc z (fun hc22 => ?_) (fun hc22 => ?_)
  ·exact WC_skip (fun _ q => ⟨x2.kind == 8, som (ifT hu2y hc22), (q.k (s3 z z z)), (br w12)⟩)
  exact Wg (R z (eql z z) (Ra z (Wl (fun _ q => ⟨x2.kind == 9, som (ifF hu2y hc22), (q.k (s3 z z z)), (br w12)⟩))))
 rintro a56 w30 ⟨x21, rfl, hS6o, s15⟩
 revert a56
 refine Wo (Wc z (fun hc23 => ?_) (fun hc23 => ?_))
 ·refine Ws (R z (lN (vs := (vR x2 pa2_4 pn2_4 pc2_4 pa2_5 pn2_5 pc2_5 pa2_6 pn2_6 pc2_6 pa2_7 pn2_7 pc2_7)) g_74 z_74 z z fid ((h17.ext s15).row 0 8 z)) ?_)
  obtain ⟨r6p, e57, hm58⟩ := bdS (ifT hm2z hc23)
  refine E z (fc call148 z (W_impl_plainRule (B := B) e57 (lt_ hBw (lt_ (lt_ h11.size h10.size) s15.size)) p2_0 p2_1 p2_2 (((p2_4.ext h11).ext h10).ext s15) (((p2_5.ext h11).ext h10).ext s15) (((p2_6.ext h11).ext h10).ext s15) (((p2_7.ext h11).ext h10).ext s15) (ii z))) ?_
  rintro _ w6q ⟨s59, rfl⟩
  refine Ra z (Wn ?_)
  obtain rfl := som hm58
  exact Wr (rtO (ret1 hr z ⟨(bup (bup (bup h11 h10) s15) s59), z⟩))
 have hm31 := ifF hm2z hc23
 refine Ws (R z (eql z z) (Ra z (Wn (Wc z (fun hc24 => ?_) (fun hc24 => ?_)))))
 ·refine Wq ?_
  obtain ⟨u5a, hu5b, hm5c⟩ := bdS (ifT hm31 hc24)
  refine WC_cut (fun a w => ∃ (x25 : Bool), x25 = u5a ∧ Sat 102 [(4, (vB x25))] a ∧ Below w30.heap.size w30 w) ?_ ?_
  ·refine Wg ?_
   have h32 := h17.ext s15
   refine R z (lN (vs := (vR x2 pa2_4 pn2_4 pc2_4 pa2_5 pn2_5 pc2_5 pa2_6 pn2_6 pc2_6 pa2_7 pn2_7 pc2_7)) g_74 z_74 z z fid (h32.row 0 8 z)) ?_
   have h33 := ((p2_4.ext h11).ext h10).ext s15
   obtain ⟨r5d, e5e, hm34⟩ := bdS hu5b
   refine E z (fc call148 z (W_impl_plainRule (B := B) e5e (lt_ hBw (lt_ (lt_ h11.size h10.size) s15.size)) p2_0 p2_1 p2_2 h33 (((p2_5.ext h11).ext h10).ext s15) (((p2_6.ext h11).ext h10).ext s15) (((p2_7.ext h11).ext h10).ext s15) (ii z))) ?_
   rintro _ w6r ⟨s1k, rfl⟩
   refine Rm z ?_
   rcases bs r5d with hc1c | hc1c
   ·have hm35 := ifT hm34 hc1c
    refine Rh z hc1c (fd f_74_4 z) ?_
    have h36 := h32.ext s1k
    refine Rh z hc1c (l1 g_25 z fid (h36.at z)) ?_
    have h37 := h33.ext s1k
    refine Rh z hc1c (lnR d_25 z h37) (Rh z hc1c (eql z z) (R z (pT z hc1c z) (Rm z ?_)))
    rcases bs ((x2.bytes.length : Int) == 1) with hc18 | hc18
    ·refine Rh z hc18 (fd f_74_4 z) (Rh z hc18 (l1 g_25 z fid (h36.at z)) ?_)
     obtain ⟨x5f, e5g, hm5h⟩ := bdS (ifT hm35 hc18)
     refine RXg z z hc18 z (at_ (α := UInt8) d_25 z_5 z z z h37 e5g) ?_
     rintro _ ⟨b6s, o6t, cs6u, rfl, h5i, h5j, h6v⟩
     obtain rfl := UInt8_open h5j
     exact Rh z hc18 (l1 g_5 z fid (h5i.at0 z)) (Rh z hc18 (nq z z) (R z (pT z hc18 z) (Ra z (Wl (fun _ q => ⟨(byteI x5f) != (byteI (92 : UInt8)), som hm5h, (q.k (s1 z)), s1k⟩)))))
    iterate 5 refine Nh z hc18 ?_
    exact R z (pF z hc18 z) (Ra z (Wl (fun _ q => ⟨false, som (ifF hm35 hc18), (q.k (s1 z)), s1k⟩)))
   iterate 4 refine Nh z hc1c ?_
   exact R z (pF z hc1c z) (Rm z (Nh z z (Nh z z (Nh z z (Nh z z (Nh z z (R z (pF z z z) (Ra z (Wl (fun _ q => ⟨false, som (ifF hm34 hc1c), (q.k (s1 z)), s1k⟩))))))))))
  rintro a5k w6w ⟨x25, rfl, hS6x, s5l⟩
  revert a5k
  refine Wo ?_
  obtain rfl := som hm5c
  exact Wr (rtO (ret1 hr z ⟨(bup (bup (bup h11 h10) s15) s5l), z⟩))
 refine Wk (Ws (Ra z (Wn ?_)))
 obtain rfl := som (ifF hm31 hc24)
 exact Wr (ret1 hr z ⟨(bup (bup h11 h10) s15), z⟩)
theorem W_impl_IsValidRule {x1 : Desc} {x2 : Int} {res : Bool} (hm : M_impl_IsValidRule n x1 x2 = some res) (hBw : B ≤ w0.heap.size) (p1_0 : repS w0 B (sl pa1_0 pn1_0 pc1_0) x1.rules) (p2_0 : inI x2) : CallsR prog 96 [(.agg #[(sl pa1_0 pn1_0 pc1_0)]), (vI x2)] w0 (Q7 w0 B res) := by
 unfold M_impl_IsValidRule at hm
 refine goF func96 z z (lb z) fun fn hr => Ws (E z (fb z) ?_)
 rintro _ w3i ⟨rfl, h2f⟩
 have h17 := h2f.below
 have h1q : Blk w3i w0.heap.size [(sl pa1_0 pn1_0 pc1_0)] := h2f.blk
 refine Ra z (Wn (Wq (Ws (R z (lN (vs := [(sl pa1_0 pn1_0 pc1_0)]) g_31 z_31 z z fid (h1q.row 0 1 z)) (Rm z ?_)))))
 have h2g := p1_0.ext h17
 obtain ⟨r51, e3j, hm2h⟩ := bdS hm
 refine E z (fc call106 z (W_impl_hasRule (B := B) e3j (lt_ hBw h17.size) h2g p2_0)) ?_
 rintro _ w15 ⟨s16, rfl⟩
 refine R z (not_ z) (Wn (Wc z (fun hc1r => ?_) (fun hc1r => ?_)))
 ·refine Ws (Ra z (Wn ?_))
  obtain rfl := som (ifT hm2h hc1r)
  exact Wr (ret1 hr z ⟨(bup h17 s16), z⟩)
 refine Wk (Ws (R z (fd f_31_0 z) ?_))
 have h2i := h1q.ext s16
 refine R z (l1 g_29 z fid (h2i.at z)) (Rm z ?_)
 obtain ⟨x10, e3k, hm3l⟩ := bdS (ifF hm2h hc1r)
 have h2j := h2g.ext s16
 refine RX z (at_ (α := Rule) d_29 z_74 z z z h2j e3k) ?_
 rintro _ ⟨b52, o53, cs54, rfl, h3m, h3n, h55⟩
 obtain ⟨a1s, n1t, c1u, a1v, n1w, c1x, a1y, n1z, c20, a1d, n1e, c1f, rfl, h2k, h3o, h3p, h3q, h3r, h3s, h2l⟩ := Rule_open h3n
 refine R z (lN (vs := (vR x10 a1s n1t c1u a1v n1w c1x a1y n1z c20 a1d n1e c1f)) g_74 z_74 z z fid h3m) (E z (fa zero_74) ?_)
 rintro _ w3t ⟨rfl, h2m⟩
 have h13 := h2m.below
 have h2n : Blk w3t w15.heap.size [(Str.v (⟨[]⟩ : Str)), (vI 0), (vI 0), (vB false), (sl none 0 0), (sl none 0 0), (sl none 0 0), (sl none 0 0)] := h2m.blk
 refine E0 (fs (cur' := (vR x10 a1s n1t c1u a1v n1w c1x a1y n1z c20 a1d n1e c1f)) z_74 z z h2n z (lb z) (oA z) z) ?_
 rintro _ w2o ⟨h1l, s3u⟩
 have h12 := s3u.one
 refine Wn (Wq (Wq ?_))
 obtain ⟨u3v, hu3w, hm2p⟩ := bdS hm3l
 refine WC_cut (fun a w => ∃ (x21 : Bool), x21 = u3v ∧ Sat 65 [(1, (vI x2)), (2, (pt w0.heap.size)), (5, (pt w15.heap.size)), (31, (vB x21))] a ∧ Below w2o.heap.size w2o w) ?_ ?_
 ·refine Wg (R z (fd f_74_0 z) (R z (l1 g_9 z fid (h1l.at z)) ?_))
  obtain ⟨r3x, e3y, hm2q⟩ := bdS hu3w
  refine E z (fc call127 z (W_impl_IsName (B := B) e3y (lt_ hBw (lt_ (lt_ (lt_ h17.size s16.size) h13.size) h12.size)) h2k)) ?_
  rintro _ w56 ⟨s1m, rfl⟩
  refine R z (not_ z) (Rm z ?_)
  rcases bs (!r3x) with hc14 | hc14
  ·iterate 3 refine Nh z hc14 ?_
   exact Nv z (Nv z (Nv z (Nh z hc14 (R z (pT z hc14 z) (Wl (fun _ q => ⟨true, som (ifT hm2q hc14), (q.k (s4 z z z z)), s1m⟩))))))
  have hm2r := ifF hm2q hc14
  refine Rh z hc14 (fd f_74_3 z) ?_
  have h2s := h1l.ext s1m
  refine Rh z hc14 (l1 g_4 z fid (h2s.at z)) (Rh z hc14 (mv z) ?_)
  rcases bs x10.little with hc19 | hc19
  ·exact Rh z hc19 (fd f_74_1 z) (Rh z hc19 (l1 g_3 z fid (h2s.at z)) (Rh z hc19 (nq z z) (Rh z hc14 (pT z hc19 z) (R z (pF z hc14 z) (Wl (fun _ q => ⟨x10.kind != 1, som (ifT hm2r hc19), (q.k (s4 z z z z)), s1m⟩))))))
  iterate 3 refine Nh z hc19 ?_
  exact Rh z hc14 (pF z hc19 z) (R z (pF z hc14 z) (Wl (fun _ q => ⟨false, som (ifF hm2r hc19), (q.k (s4 z z z z)), s1m⟩)))
 rintro a3z w1i ⟨x21, rfl, hS57, s11⟩
 revert a3z
 refine Wo (Wc z (fun hc22 => ?_) (fun hc22 => ?_))
 ·refine Ws (Ra z (Wn ?_))
  obtain rfl := som (ifT hm2p hc22)
  exact Wr (ret1 hr z ⟨(bup (bM (bup (bup h17 s16) h13) h12 (mem1le (lt_ h17.size s16.size))) s11), z⟩)
 refine Wk (Wq (Ws (R z (fd f_31_0 z) ?_)))
 have h2t := ((h2i.ext h13).chg h12 (djs (mm1 h1q.lt s16.size))).ext s11
 refine R z (l1 g_29 z fid (h2t.at z)) (Rm z ?_)
 obtain ⟨x1n, e40, hm41⟩ := bdS (ifF hm2p hc22)
 have h1h := lt_ h17.size s16.size
 have h1j := mem1le (lt_ hBw h1h)
 have h2u := ((h2j.ext h13).chg h12 (lg h1j)).ext s11
 refine RX z (rd_sliceX d_29 z_74 z z h2u z z e40) ?_
 rintro _ ⟨a23, n24, c25, rfl, h26⟩
 refine R z (lnR d_29 z h26) (Rm z (Wn ?_))
 obtain ⟨u58, hu42, hm2v⟩ := bdS hm41
 refine WC_forN (σ := Unit) (ρ := Bool) (fun (k27 : Nat) (_ : Unit) a w => Sat 65 [(1, (vI x2)), (2, (pt w0.heap.size)), (5, (pt w15.heap.size)), (35, (sl a23 n24 c25)), (36, (vI (x1n.length : Int))), (37, (vI ((k27 : Nat) : Int)))] a ∧ Below w1i.heap.size w1i w) (fun (_ : Unit) a w => Sat 65 [(1, (vI x2)), (2, (pt w0.heap.size)), (5, (pt w15.heap.size))] a ∧ Below w1i.heap.size w1i w) (fun r ex a w => ex = .ret ∧ RetPost prog fn (Q7 w0 B r) a w) hu42 ?_ ?_ ?_ ?_ ?_
 ·exact fun _ q => ⟨(q.k (s6 z z z z z z)), (br w1i)⟩
 ·rintro k27 _ a59 w43 o5a hk2w ⟨hS44, s1g⟩ hm45
  refine Wu (e := [(1, (vI x2)), (2, (pt w0.heap.size)), (5, (pt w15.heap.size)), (35, (sl a23 n24 c25)), (36, (vI (x1n.length : Int))), (37, (vI ((k27 : Nat) : Int)))]) (N := 65) ?_ hS44
  refine Ws (R z (lss z z) (Wn (Wq (Wc z (fun _ => ?_) (fun hc => (nolt hk2w hc).elim)))))
  refine Wk (Wq (WC_block (Ws ?_)))
  obtain ⟨x1c, e46, hm2x⟩ := bdS hm45
  refine RX z (at_ (α := Rule) d_29 z_74 z z z (h26.ext s1g) e46) ?_
  rintro _ ⟨b5b, o5c, cs5d, rfl, h47, h48, h5e⟩
  obtain ⟨a2y, n2z, c30, a31, n32, c33, a34, n35, c36, a37, n38, c39, rfl, h5f, h5g, h5h, h5i, h5j, h5k, h5l⟩ := Rule_open h48
  refine R z (lN (vs := (vR x1c a2y n2z c30 a31 n32 c33 a34 n35 c36 a37 n38 c39)) g_74 z_74 z z fid h47) (E z (fa zero_74) ?_)
  rintro _ w49 ⟨rfl, h3a⟩
  have h28 := h3a.below
  have h4a : Blk w49 w43.heap.size [(Str.v (⟨[]⟩ : Str)), (vI 0), (vI 0), (vB false), (sl none 0 0), (sl none 0 0), (sl none 0 0), (sl none 0 0)] := h3a.blk
  refine E0 (fs (cur' := (vR x1c a2y n2z c30 a31 n32 c33 a34 n35 c36 a37 n38 c39)) z_74 z z h4a z (lb z) (oA z) z) ?_
  rintro _ w5m ⟨h4b, s4c⟩
  have h29 := s4c.one
  refine Wn (Ws (R z (fd f_74_0 z) (R z (l1 g_9 z fid (h4b.at z)) (R z (fd f_74_0 z) (R z (l1 g_9 z fid (((((h1l.ext s11).ext s1g).ext h28).chg h29 (djs (mm1 h2n.lt (lt_ (lt_ h12.size s11.size) s1g.size)))).at z)) (R z (rd_eqlT z z) (Wn (Wc z (fun hc2a => ?_) (fun hc2a => ?_)))))))))
  ·exact Ws (Ra z (Wn (Wr (rtO (QO_retL (som (ifT hm2x hc2a)).symm (ret1 hr z ⟨(bM (bup (bup (bup (bM (bup (bup h17 s16) h13) h12 (mem1le h1h)) s11) s1g) h28) h29 (mem1le (lt_ (lt_ (lt_ (lt_ h1h h13.size) h12.size) s11.size) s1g.size))), z⟩))))))
  exact Wk (Wg (R z (inc_ hk2w (lt_ (repS.len h26) LEN_le) z z) (Rm z (Wl (fun _ q => ⟨(), (som (ifF hm2x hc2a)).symm, ⟨(q.k (s6 z z z z z z)), (bM (bup s1g h28) h29 (mem1le s1g.size))⟩⟩)))))
 ·rintro _ a5n w5o ⟨hS4d, s4e⟩
  refine Wu (e := [(1, (vI x2)), (2, (pt w0.heap.size)), (5, (pt w15.heap.size)), (35, (sl a23 n24 c25)), (36, (vI (x1n.length : Int))), (37, (vI ((x1n.length : Nat) : Int)))]) (N := 65) ?_ hS4d
  refine Ws (R z (lss z z) (Wn (Wq (Wc z (fun hc => (noltt hc).elim) (fun _ => ?_)))))
  exact WC_exit (fun a' ha' => ⟨rfl, ⟨(Sat.weaken ha' (s3 z z z)), s4e⟩⟩)
 ·rintro _ a4f w1k rfl ⟨hS5p, s18⟩
  have hm4g := elL hm2v
  revert a4f
  refine Wo (Wq (Ws (R z (fd f_74_7 z) ?_)))
  have h3b := (h1l.ext s11).ext s18
  refine R z (l1 g_72 z fid (h3b.at z)) ?_
  have h2b := (((h2l.ext h13).chg h12 (lg h1j)).ext s11).ext s18
  refine R z (lnR d_72 z h2b) (Rm z (Wn ?_))
  obtain ⟨u5q, hu4h, hm3c⟩ := bdS hm4g
  refine WC_forN (σ := Unit) (ρ := Bool) (fun (k1o : Nat) (_ : Unit) a w => Sat 65 [(1, (vI x2)), (2, (pt w0.heap.size)), (5, (pt w15.heap.size)), (48, (sl a1d n1e c1f)), (49, (vI (x10.kids.length : Int))), (50, (vI ((k1o : Nat) : Int)))] a ∧ Below w1k.heap.size w1k w) (fun (_ : Unit) a w => Sat 65 [(2, (pt w0.heap.size)), (5, (pt w15.heap.size))] a ∧ Below w1k.heap.size w1k w) (fun r ex a w => ex = .ret ∧ RetPost prog fn (Q7 w0 B r) a w) hu4h ?_ ?_ ?_ ?_ ?_
  ·exact fun _ q => ⟨(q.k (s6 z z z z z z)), (br w1k)⟩
  ·rintro k1o _ a5r w1p o5s hk3d ⟨hS4i, s2c⟩ hm4j
   refine Wu (e := [(1, (vI x2)), (2, (pt w0.heap.size)), (5, (pt w15.heap.size)), (48, (sl a1d n1e c1f)), (49, (vI (x10.kids.length : Int))), (50, (vI ((k1o : Nat) : Int)))]) (N := 65) ?_ hS4i
   refine Ws (R z (lss z z) (Wn (Wq (Wc z (fun _ => ?_) (fun hc => (nolt hk3d hc).elim)))))
   refine Wk (Wq (WC_block (Ws ?_)))
   obtain ⟨x3e, e4k, hm4l⟩ := bdS hm4j
   refine RX z (at_ (α := Int) d_72 z_3 z z z (h2b.ext s2c) e4k) ?_
   rintro _ ⟨b5t, o5u, cs5v, rfl, h4m, h4n, h5w⟩
   obtain ⟨rfl, h5x⟩ := Int_open h4n
   refine R z (l1 g_3 z fid (h4m.at0 z)) (Ra z (Wn (Wq ?_)))
   obtain ⟨u4o, hu3f, hm3g⟩ := bdS hm4l
   refine WC_cut (fun a w => ∃ (x2d : Bool), x2d = u4o ∧ Sat 65 [(1, (vI x2)), (2, (pt w0.heap.size)), (5, (pt w15.heap.size)), (48, (sl a1d n1e c1f)), (49, (vI (x10.kids.length : Int))), (50, (vI ((k1o : Nat) : Int))), (60, (vB x2d))] a ∧ Below w1p.heap.size w1p w) ?_ ?_
   ·refine Wg (Rm z (R z (lss z z) (Rm z ?_)))
    rcases bs (decide (x3e < 0)) with hc1a | hc1a
    ·iterate 3 refine Nh z hc1a ?_
     exact R z (pT z hc1a z) (Wl (fun _ q => ⟨true, som (ifT hu3f hc1a), (q.k (s7 z z z z z z z)), (br w1p)⟩))
    exact Rh z hc1a (mv z) (Rh z hc1a (mv z) (Rh z hc1a (rd_geq z z) (R z (pF z hc1a z) (Wl (fun _ q => ⟨decide (x2 ≤ x3e), som (ifF hu3f hc1a), (q.k (s7 z z z z z z z)), (br w1p)⟩)))))
   rintro a4p w5y ⟨x2d, rfl, hS5z, s3h⟩
   revert a4p
   refine Wo (Wc z (fun hc2e => ?_) (fun hc2e => ?_))
   ·exact Ws (Ra z (Wn (Wr (rtO (QO_retL (som (ifT hm3g hc2e)).symm (ret1 hr z ⟨(bup (bup (bup (bup (bM (bup (bup h17 s16) h13) h12 (mem1le h1h)) s11) s18) s2c) s3h), z⟩))))))
   exact Wk (Wg (R z (inc_ hk3d (lt_ (repS.len h2l) LEN_le) z z) (Rm z (Wl (fun _ q => ⟨(), (som (ifF hm3g hc2e)).symm, ⟨(q.k (s6 z z z z z z)), (bup s2c s3h)⟩⟩)))))
  ·rintro _ a60 w61 ⟨hS4q, s4r⟩
   refine Wu (e := [(1, (vI x2)), (2, (pt w0.heap.size)), (5, (pt w15.heap.size)), (48, (sl a1d n1e c1f)), (49, (vI (x10.kids.length : Int))), (50, (vI ((x10.kids.length : Nat) : Int)))]) (N := 65) ?_ hS4q
   refine Ws (R z (lss z z) (Wn (Wq (Wc z (fun hc => (noltt hc).elim) (fun _ => ?_)))))
   exact WC_exit (fun a' ha' => ⟨rfl, ⟨(Sat.weaken ha' (s2 z z)), s4r⟩⟩)
  ·rintro _ a4s w62 rfl ⟨hS63, s1b⟩
   have hm4t := elL hm3c
   revert a4s
   refine Wo (Ws (R z (lN (vs := [(sl pa1_0 pn1_0 pc1_0)]) g_31 z_31 z z fid (((h2t.ext s18).ext s1b).row 0 1 z)) (R z (lN (vs := (vR x10 a1s n1t c1u a1v n1w c1x a1y n1z c20 a1d n1e c1f)) g_74 z_74 z z fid ((h3b.ext s1b).row 0 8 z)) ?_)))
   obtain ⟨r64, e4u, hm4v⟩ := bdS hm4t
   refine E z (fc call129 z (W_impl_validKind (B := B) e4u (lt_ hBw (lt_ (lt_ (lt_ (lt_ (lt_ h1h h13.size) h12.size) s11.size) s18.size) s1b.size)) ((h2u.ext s18).ext s1b) h2k h3o h3p (((((h3q.ext h13).chg h12 (lg h1j)).ext s11).ext s18).ext s1b) (((((h3r.ext h13).chg h12 (lg h1j)).ext s11).ext s18).ext s1b) (((((h3s.ext h13).chg h12 (lg h1j)).ext s11).ext s18).ext s1b) (h2b.ext s1b))) ?_
   rintro _ w65 ⟨s4w, rfl⟩
   refine Ra z (Wn ?_)
   obtain rfl := som hm4v
   exact Wr (ret1 hr z ⟨(bup (bup (bup (bup (bM (bup (bup h17 s16) h13) h12 (mem1le h1h)) s11) s18) s1b) s4w), z⟩)
  rintro r66 ex67 a68 w69 rfl ⟨rfl, hq4x⟩
  have hm4y := elR hm3c
  obtain rfl := som hm4y
  exact ⟨hq4x, z⟩
 rintro r6a ex6b a6c w6d rfl ⟨rfl, hq4z⟩
 have hm50 := elR hm2v
 obtain rfl := som hm50
 exact ⟨hq4z, z⟩
theorem W_impl_IsValidDescription {x1 : Desc} {res : Bool} (hm : M_impl_IsValidDescription n x1 = some res) (hBw : B ≤ w0.heap.size) (p1_0 : repS w0 B (sl pa1_0 pn1_0 pc1_0) x1.rules) : CallsR prog 58 [(.agg #[(sl pa1_0 pn1_0 pc1_0)])] w0 (Q7 w0 B res) := by
 unfold M_impl_IsValidDescription at hm
 refine goF func58 z z (lb z) fun fn hr => Ws (E z (fb z) ?_)
 rintro _ w1h ⟨rfl, h19⟩
 have h10 := h19.below
 have h1a : Blk w1h w0.heap.size [(sl pa1_0 pn1_0 pc1_0)] := h19.blk
 refine Ra z (Wn (Wq (Ws (R z (fd f_31_0 z) (R z (l1 g_29 z fid (h1a.at z)) ?_)))))
 have h14 := p1_0.ext h10
 refine R z (lnR d_29 z h14) ?_
 obtain ⟨r1u, e1i, hm1b⟩ := bdS hm
 refine E z (fc call95 z (W_impl_InRange (B := B) e1i (lt_ hBw h10.size) (inI_len (repS.len h14)) (ii z) (ii z))) ?_
 rintro _ w12 ⟨s11, rfl⟩
 refine R z (not_ z) (Wn (Wc z (fun hc15 => ?_) (fun hc15 => ?_)))
 ·refine Ws (Ra z (Wn ?_))
  obtain rfl := som (ifT hm1b hc15)
  exact Wr (ret1 hr z ⟨(bup h10 s11), z⟩)
 refine Wk (Wq (Ws (R z (fd f_31_0 z) ?_)))
 have h1c := h1a.ext s11
 refine R z (l1 g_29 z fid (h1c.at z)) ?_
 have h1d := h14.ext s11
 refine R z (lnR d_29 z h1d) (Rm z (Wn ?_))
 obtain ⟨u1v, hu1j, hm1e⟩ := bdS (ifF hm1b hc15)
 refine WC_forN (σ := Unit) (ρ := Bool) (fun (k16 : Nat) (_ : Unit) a w => Sat 20 [(1, (pt w0.heap.size)), (11, (vI (x1.rules.length : Int))), (12, (vI ((k16 : Nat) : Int)))] a ∧ Below w12.heap.size w12 w) (fun (_ : Unit) a w => Sat 20 [] a ∧ Below w12.heap.size w12 w) (fun r ex a w => ex = .ret ∧ RetPost prog fn (Q7 w0 B r) a w) hu1j ?_ ?_ ?_ ?_ ?_
 ·exact fun _ q => ⟨(q.k (s3 z z z)), (br w12)⟩
 ·rintro k16 _ a1w w1x o1y hk17 ⟨hS1k, s13⟩ hm1l
  refine Wu (e := [(1, (pt w0.heap.size)), (11, (vI (x1.rules.length : Int))), (12, (vI ((k16 : Nat) : Int)))]) (N := 20) ?_ hS1k
  refine Ws (R z (lss z z) (Wn (Wq (Wc z (fun _ => ?_) (fun hc => (nolt hk17 hc).elim)))))
  refine Wk (Wq (WC_block (Ws (Rm z (Ra z (Wn (Ws (R z (lN (vs := [(sl pa1_0 pn1_0 pc1_0)]) g_31 z_31 z z fid ((h1c.ext s13).row 0 1 z)) (Rm z ?_)))))))))
  obtain ⟨r1z, e1m, hm1f⟩ := bdS hm1l
  refine E z (fc call96 z (W_impl_IsValidRule (B := B) e1m (lt_ hBw (lt_ (lt_ h10.size s11.size) s13.size)) (h1d.ext s13) (inI_cnt (Nat.le_of_lt hk17) (lt_ (repS.len p1_0) LEN_le)))) ?_
  rintro _ w20 ⟨s1g, rfl⟩
  refine R z (not_ z) (Wn (Wc z (fun hc18 => ?_) (fun hc18 => ?_)))
  ·exact Ws (Ra z (Wn (Wr (rtO (QO_retL (som (ifT hm1f hc18)).symm (ret1 hr z ⟨(bup (bup (bup h10 s11) s13) s1g), z⟩))))))
  exact Wk (Wg (R z (inc_ hk17 (lt_ (repS.len p1_0) LEN_le) z z) (Rm z (Wl (fun _ q => ⟨(), (som (ifF hm1f hc18)).symm, ⟨(q.k (s3 z z z)), (bup s13 s1g)⟩⟩)))))
 ·rintro _ a21 w22 ⟨hS1n, s1o⟩
  refine Wu (e := [(1, (pt w0.heap.size)), (11, (vI (x1.rules.length : Int))), (12, (vI ((x1.rules.length : Nat) : Int)))]) (N := 20) ?_ hS1n
  refine Ws (R z (lss z z) (Wn (Wq (Wc z (fun hc => (noltt hc).elim) (fun _ => ?_)))))
  exact WC_exit (fun a' ha' => ⟨rfl, ⟨(Sat.weaken ha' sn), s1o⟩⟩)
 ·rintro _ a1p w23 rfl ⟨hS24, s1q⟩
  have hm1r := elL hm1e
  revert a1p
  refine Wo (Ws (Ra z (Wn ?_)))
  obtain rfl := som hm1r
  exact Wr (ret1 hr z ⟨(bup (bup h10 s11) s1q), z⟩)
 rintro r25 ex26 a27 w28 rfl ⟨rfl, hq1s⟩
 have hm1t := elR hm1e
 obtain rfl := som hm1t
 exact ⟨hq1s, z⟩
theorem W_impl_RootOf {x1 : Desc} {res : Int} (hm : M_impl_RootOf x1 = some res) (hBw : B ≤ w0.heap.size) (p1_0 : repS w0 B (sl pa1_0 pn1_0 pc1_0) x1.rules) : CallsR prog 59 [(.agg #[(sl pa1_0 pn1_0 pc1_0)])] w0 (Q0 w0 B res) := by
 unfold M_impl_RootOf at hm
 refine goF func59 z z (lb z) fun fn hr => Ws (E z (fb z) ?_)
 rintro _ w12 ⟨rfl, h10⟩
 have h11 := h10.below
 have h13 : Blk w12 w0.heap.size [(sl pa1_0 pn1_0 pc1_0)] := h10.blk
 refine Ra z (Wn (Ws (R z (fd f_31_0 z) (R z (l1 g_29 z fid (h13.at z)) (R z (lnR d_29 z (p1_0.ext h11)) (R z (sb_ z z) (Ra z (Wn ?_))))))))
 obtain rfl := som hm
 exact Wr (ret1 hr z ⟨h11, z, (iS _ _)⟩)
theorem W_impl_known {x1 : Desc} {x2 : Int} {res : Bool} (hm : M_impl_known n x1 x2 = some res) (hBw : B ≤ w0.heap.size) (p1_0 : repS w0 B (sl pa1_0 pn1_0 pc1_0) x1.rules) (p2_0 : inI x2) : CallsR prog 76 [(.agg #[(sl pa1_0 pn1_0 pc1_0)]), (vI x2)] w0 (Q7 w0 B res) := by
 unfold M_impl_known at hm
 refine goF func76 z z (lb z) fun fn hr => Ws (E z (fb z) ?_)
 rintro _ w13 ⟨rfl, h15⟩
 have h12 := h15.below
 have h16 : Blk w13 w0.heap.size [(sl pa1_0 pn1_0 pc1_0)] := h15.blk
 refine Ra z (Wn (Wq ?_))
 obtain ⟨u19, hu1a, hm1b⟩ := bdS hm
 refine WC_cut (fun a w => ∃ (x14 : Bool), x14 = u19 ∧ Sat 12 [(4, (vB x14))] a ∧ Below w13.heap.size w13 w) ?_ ?_
 ·refine Wg (R z (lN (vs := [(sl pa1_0 pn1_0 pc1_0)]) g_31 z_31 z z fid (h16.row 0 1 z)) ?_)
  have h17 := p1_0.ext h12
  obtain ⟨r1c, e1d, hm18⟩ := bdS hu1a
  refine E z (fc call58 z (W_impl_IsValidDescription (B := B) e1d (lt_ hBw h12.size) h17)) ?_
  rintro _ w1k ⟨s11, rfl⟩
  refine Rm z ?_
  rcases bs r1c with hc10 | hc10
  ·refine Rh z hc10 (lN (vs := [(sl pa1_0 pn1_0 pc1_0)]) g_31 z_31 z z fid ((h16.ext s11).row 0 1 z)) (Rh z hc10 (mv z) ?_)
   obtain ⟨r1e, e1f, hm1g⟩ := bdS (ifT hm18 hc10)
   refine Eg z z hc10 z (fc call106 z (W_impl_hasRule (B := B) e1f (lt_ hBw (lt_ h12.size s11.size)) (h17.ext s11) p2_0)) ?_
   rintro _ w1l ⟨s1h, rfl⟩
   exact R z (pT z hc10 z) (Ra z (Wl (fun _ q => ⟨r1e, som hm1g, (q.k (s1 z)), (bup s11 s1h)⟩)))
  iterate 3 refine Nh z hc10 ?_
  exact R z (pF z hc10 z) (Ra z (Wl (fun _ q => ⟨false, som (ifF hm18 hc10), (q.k (s1 z)), s11⟩)))
 rintro a1i w1m ⟨x14, rfl, hS1n, s1j⟩
 revert a1i
 refine Wo ?_
 obtain rfl := som hm1b
 exact Wr (ret1 hr z ⟨(bup h12 s1j), z⟩)
def Q19 (w0 : World) (B : Nat) (r : Spot) (v : Value) (w' : World) : Prop := Bw w0 w' ∧ (fun r1 => (.agg #[vI r1.at_, vI r1.code]) = v ∧ inI r1.at_ ∧ inI r1.code) r
theorem W_impl_checker_skip {x1 : Checker} {b1 o1 : Nat} {x2 : Int} {x3 : Int} {res : Spot} (hm : M_impl_checker_skip x1 x2 x3 = some res) (hBw : B ≤ w0.heap.size) (p1_0 : repS w0 B (sl pa1_0 pn1_0 pc1_0) x1.d.rules) (p1_1 : repS w0 B (sl pa1_1 pn1_1 pc1_1) x1.b) (p1_2 : inI x1.applied) (hC1 : CellsAt w0 b1 o1 [(sl pa1_0 pn1_0 pc1_0), (sl pa1_1 pn1_1 pc1_1), (vI x1.applied)]) (hC1b : b1 < B) (p2_0 : inI x2) (p3_0 : inI x3) : CallsR prog 154 [(.pointer (some ⟨b1, o1, none⟩)), (vI x2), (vI x3)] w0 (Q19 w0 B res) := by
 unfold M_impl_checker_skip at hm
 refine goF func154 z z (lb z) fun fn hr => Ws (E z (fa zero_174) ?_)
 rintro _ w14 ⟨rfl, h12⟩
 have h10 := h12.below
 have h13 : Blk w14 w0.heap.size [(vI 0), (vI 0)] := h12.blk
 refine Wn (Wq (Ws (Rm z (Rm z (R z (rd_nil z) (R z (fd f_172_1 z) (R z (l1 g_25 z fid ((hC1.ext h10).at (j := 1) z)) (R z (lnR d_25 z (p1_1.ext h10)) (Rm z (R z (sb_ z z) (R z (rd_gtr z z) (Wn (Wc z (fun hc11 => ?_) (fun hc11 => ?_))))))))))))))
 ·refine Ws (Rm z (R z (bP (parts := [(0, (.tmp 16)), (1, (.const (.int .i64 1)))]) (cs := [(vI x2), (vI 1)]) build_174 z z) (E0 (fs (cur' := [(vI x2), (vI 1)]) z_174 z z h13 z (lb z) (oA z) z) ?_)))
  rintro _ w19 ⟨h15, s16⟩
  refine Wn ?_
  obtain rfl := som (ifT hm hc11)
  exact Wr (ret1 hr (resC g_174 z_174 z h15 z) ⟨(bM h10 s16.one (mem1 lr)), z, p2_0, (ii z)⟩)
 refine Wk (Ws (Rm z (Rm z (R z (add_ z z) (R z (bP (parts := [(0, (.tmp 20)), (1, (.const (.int .i64 0)))]) (cs := [(vI (iadd x2 x3)), (vI 0)]) build_174 z z) (E0 (fs (cur' := [(vI (iadd x2 x3)), (vI 0)]) z_174 z z h13 z (lb z) (oA z) z) ?_))))))
 rintro _ w1a ⟨h17, s18⟩
 refine Wn ?_
 obtain rfl := som (ifF hm hc11)
 exact Wr (ret1 hr (resC g_174 z_174 z h17 z) ⟨(bM h10 s18.one (mem1 lr)), z, (iA _ _), (ii z)⟩)
theorem W_impl_ReadInteger {x1 : List UInt8} {x2 : Bool} {res : Int} (hm : M_impl_ReadInteger x1 x2 = some res) (hBw : B ≤ w0.heap.size) (p1_0 : repS w0 B (sl pa1_0 pn1_0 pc1_0) x1) : CallsR prog 136 [(sl pa1_0 pn1_0 pc1_0), (vB x2)] w0 (Q0 w0 B res) := by
 unfold M_impl_ReadInteger at hm
 refine goF func136 z z (lb z) fun fn hr => Ws (Ra z (Wn (Wq (Ws (Rm z (R z (lnR d_25 z p1_0) (R z (rd_gtr z z) (Wn (Wc z (fun hc15 => ?_) (fun hc15 => ?_))))))))))
 ·refine Ws (Ra z (Wn ?_))
  obtain rfl := som (ifT hm hc15)
  exact Wr (ret1 hr z ⟨(br w0), z, (ii z)⟩)
 refine Wk (Ws (Ra z (Wn (Wq (Ws (Rm z (R z (lnR d_25 z p1_0) (Rm z (Wn ?_)))))))))
 obtain ⟨u21, hu1c, hm18⟩ := bdS (ifF hm hc15)
 refine WC_forN (σ := Int) (ρ := Int) (fun (k12 : Nat) (x10 : Int) a w => Sat 38 [(0, (sl pa1_0 pn1_0 pc1_0)), (1, (vB x2)), (5, (vI x10)), (11, (vI (x1.length : Int))), (12, (vI ((k12 : Nat) : Int)))] a ∧ Below w0.heap.size w0 w ∧ inI x10) (fun (x10 : Int) a w => Sat 38 [(5, (vI x10))] a ∧ Below w0.heap.size w0 w ∧ inI x10) (fun r ex a w => ex = .ret ∧ RetPost prog fn (Q0 w0 B r) a w) hu1c ?_ ?_ ?_ ?_ ?_
 ·exact fun _ q => ⟨(q.k (s5 z z z z z)), (br w0), (ii z)⟩
 ·rintro k12 x10 a22 w13 o23 hk19 ⟨hS1d, s16, h14⟩ hm1e
  refine Wu (e := [(0, (sl pa1_0 pn1_0 pc1_0)), (1, (vB x2)), (5, (vI x10)), (11, (vI (x1.length : Int))), (12, (vI ((k12 : Nat) : Int)))]) (N := 38) ?_ hS1d
  refine Ws (R z (lss z z) (Wn (Wq (Wc z (fun _ => ?_) (fun hc => (nolt hk19 hc).elim)))))
  refine Wk (Wq (WC_block (Ws (Rm z (Ra z (Wn (Ws (Rm z (Wn ?_)))))))))
  obtain ⟨u1f, hu1a, hm1g⟩ := bdS hm1e
  refine WC_cut (fun a w => ∃ (x11 : Int), x11 = u1f ∧ Sat 38 [(0, (sl pa1_0 pn1_0 pc1_0)), (1, (vB x2)), (5, (vI x11)), (11, (vI (x1.length : Int))), (12, (vI ((k12 : Nat) : Int)))] a ∧ Below w13.heap.size w13 w ∧ inI x11) ?_ ?_
  ·refine Wc z (fun hc17 => ?_) (fun hc17 => ?_)
   ·refine Wg (Rm z (R z (rd_shl z z (by decide)) (Rm z (Rm z ?_))))
    have h1b := p1_0.ext s16
    refine R z (lnR d_25 z h1b) (R z (sb_ z z) (Rm z (R z (sb_ z z) ?_)))
    obtain ⟨x1h, e1i, hm1j⟩ := bdS (ifT hu1a hc17)
    refine RX z (at_ (α := UInt8) d_25 z_5 z z z h1b e1i) ?_
    rintro _ ⟨b24, o25, cs26, rfl, h1k, h1l, h27⟩
    obtain rfl := UInt8_open h1l
    exact R z (l1 g_5 z fid (h1k.at0 z)) (R z (rd_convUI d_5 d_3 z) (R z (rd_or z z) (Ra z (Wl (fun _ q => ⟨bitop .i64 (· ||| ·) (shlK .i64 x10 8) (byteI x1h), som hm1j, (q.k (s5 z z z z z)), (br w13), (inI_bitop _ _ _)⟩)))))
   refine Wg (Rm z (R z (rd_shl z z (by decide)) (Rm z (Rm z ?_))))
   obtain ⟨x1m, e1n, hm1o⟩ := bdS (ifF hu1a hc17)
   refine RX z (at_ (α := UInt8) d_25 z_5 z z z (p1_0.ext s16) e1n) ?_
   rintro _ ⟨b28, o29, cs2a, rfl, h1p, h1q, h2b⟩
   obtain rfl := UInt8_open h1q
   exact R z (l1 g_5 z fid (h1p.at0 z)) (R z (rd_convUI d_5 d_3 z) (R z (rd_or z z) (Ra z (Wl (fun _ q => ⟨bitop .i64 (· ||| ·) (shlK .i64 x10 8) (byteI x1m), som hm1o, (q.k (s5 z z z z z)), (br w13), (inI_bitop _ _ _)⟩)))))
  rintro a1r w2c ⟨x11, rfl, hS2d, s1s, h1t⟩
  revert a1r
  exact Wo (Wg (R z (inc_ hk19 (lt_ (repS.len p1_0) LEN_le) z z) (Rm z (Wl (fun _ q => ⟨x11, (som hm1g).symm, ⟨(q.k (s5 z z z z z)), (bup s16 s1s), h1t⟩⟩)))))
 ·rintro x10 a2e w2f ⟨hS1u, s1v, h14⟩
  refine Wu (e := [(0, (sl pa1_0 pn1_0 pc1_0)), (1, (vB x2)), (5, (vI x10)), (11, (vI (x1.length : Int))), (12, (vI ((x1.length : Nat) : Int)))]) (N := 38) ?_ hS1u
  refine Ws (R z (lss z z) (Wn (Wq (Wc z (fun hc => (noltt hc).elim) (fun _ => ?_)))))
  exact WC_exit (fun a' ha' => ⟨rfl, ⟨(Sat.weaken ha' (s1 z)), s1v, h14⟩⟩)
 ·rintro x10 a1w w2g rfl ⟨hS2h, s1x, h14⟩
  have hm1y := elL hm18
  revert a1w
  refine Wo (Ws (Rm z (Ra z (Wn ?_))))
  obtain rfl := som hm1y
  exact Wr (ret1 hr z ⟨s1x, z, h14⟩)
 rintro r2i ex2j a2k w2l rfl ⟨rfl, hq1z⟩
 have hm20 := elR hm18
 obtain rfl := som hm20
 exact ⟨hq1z, z⟩
def Q20 (w0 : World) (g1 : Nat) (B : Nat) (pa1_0 : Option Addr) (pn1_0 pc1_0 : Nat) (pa1_1 : Option Addr) (pn1_1 pc1_1 : Nat) (x1 : Checker) (r : Int × Spot × Int) (v : Value) (w' : World) : Prop := Chg (· ∈ [g1]) w0 w' ∧ un3 (fun r1 r2 r3 => v = .tuple #[(vI r1), (.agg #[vI r2.at_, vI r2.code])] ∧ inI r1 ∧ inI r2.at_ ∧ inI r2.code ∧ inI r3 ∧ Blk w' g1 [(sl pa1_0 pn1_0 pc1_0), (sl pa1_1 pn1_1 pc1_1), vI r3]) r
theorem W_impl_checker_number {x1 : Checker} {g1 : Nat} {x2 : Int} {x3 : Int} {res : Int × Spot × Int} (hm : M_impl_checker_number x1 x2 x3 = some res) (hB1 : Blk w0 g1 [(sl pa1_0 pn1_0 pc1_0), (sl pa1_1 pn1_1 pc1_1), (vI x1.applied)]) (hBw : B ≤ g1) (p1_0 : repS w0 B (sl pa1_0 pn1_0 pc1_0) x1.d.rules) (p1_1 : repS w0 B (sl pa1_1 pn1_1 pc1_1) x1.b) (p1_2 : inI x1.applied) (p2_0 : inI x2) (p3_0 : inI x3) : CallsR prog 152 [(pt g1), (vI x2), (vI x3)] w0 (Q20 w0 g1 B pa1_0 pn1_0 pc1_0 pa1_1 pn1_1 pc1_1 x1 res) := by
 unfold M_impl_checker_number at hm
 refine goF func152 z z (lb z) fun fn hr => Ws (Ra z (E z (fa zero_174) ?_))
 rintro _ w1g ⟨rfl, h1o⟩
 have h19 := h1o.below
 have h1a : Blk w1g w0.heap.size [(vI 0), (vI 0)] := h1o.blk
 refine Wn (Ws (Rm z (R z (rd_nil z) (R z (fd f_172_2 z) ?_))))
 have h1p := hB1.ext h19
 refine R z (l1 g_3 z fid (h1p.at z)) (R z (add_ z z) (R z (rd_nil z) (R z (fd f_172_2 z) (E0 (fs (cur' := [(sl pa1_0 pn1_0 pc1_0), (sl pa1_1 pn1_1 pc1_1), (vI (iadd x1.applied 1))]) z_3 z z h1p z (lb z) (oA z) z) ?_))))
 rintro _ w1b ⟨h1q, s2m⟩
 have h11 := s2m.one
 refine Wn (Ws (Rm z (R z (rd_nil z) (R z (fd f_172_0 z) (R z (fd f_31_0 z) (R z (l1 g_29 z fid (h1q.at z)) (Rm z ?_)))))))
 obtain ⟨x17, e2n, hm2o⟩ := bdS hm
 have h1r := (p1_0.ext h19).chg h11 (lg (mem1 hBw))
 refine RX z (at_ (α := Rule) d_29 z_74 z z z h1r e2n) ?_
 rintro _ ⟨b42, o43, cs44, rfl, h2p, h2q, h45⟩
 obtain ⟨a1s, n1t, c1u, a1v, n1w, c1x, a1y, n1z, c20, a21, n22, c23, rfl, h46, h47, h2r, h48, h49, h4a, h4b⟩ := Rule_open h2q
 refine R z (lN (vs := (vR x17 a1s n1t c1u a1v n1w c1x a1y n1z c20 a21 n22 c23)) g_74 z_74 z z fid h2p) (E z (fa zero_74) ?_)
 rintro _ w1h ⟨rfl, h24⟩
 have h13 := h24.below
 have h25 : Blk w1h w1b.heap.size [(Str.v (⟨[]⟩ : Str)), (vI 0), (vI 0), (vB false), (sl none 0 0), (sl none 0 0), (sl none 0 0), (sl none 0 0)] := h24.blk
 refine E0 (fs (cur' := (vR x17 a1s n1t c1u a1v n1w c1x a1y n1z c20 a21 n22 c23)) z_74 z z h25 z (lb z) (oA z) z) ?_
 rintro _ w26 ⟨h27, s2s⟩
 have h12 := s2s.one
 refine Wn (Ws (Rm z (Rm z (R z (fd f_74_2 z) (R z (l1 g_3 z fid (h27.at z)) ?_)))))
 have h1c := lt_ h19.size h11.size
 have h1i := (h1q.ext h13).chg h12 (djs (mm1 (Blk.lt hB1) h1c))
 have h28 := mem1le (lt_ (lt_ hBw (Nat.le_of_lt (Blk.lt hB1))) h1c)
 have h29 := (((p1_1.ext h19).chg h11 (lg (mem1 hBw))).ext h13).chg h12 (lg h28)
 have h1j := lt_ (lt_ h1c h13.size) h12.size
 obtain ⟨r14, e2t, hm2a⟩ := bdS hm2o
 refine E z (fc call154 z (W_impl_checker_skip (B := w0.heap.size) e2t h1j (repS.mono ((h1r.ext h13).chg h12 (lg h28)) (lt_ hBw (Nat.le_of_lt (Blk.lt hB1)))) (repS.mono h29 (lt_ hBw (Nat.le_of_lt (Blk.lt hB1)))) (iA _ _) (h1i.row 0 3 z) (Blk.lt hB1) p3_0 h2r)) ?_
 rintro _ w1d ⟨s10, rfl, h2b, h2c⟩
 refine E z (fa zero_174) ?_
 rintro _ w1k ⟨rfl, h2d⟩
 have h15 := h2d.below
 have h2u : Blk w1k w1d.heap.size [(vI 0), (vI 0)] := h2d.blk
 refine E0 (fs (cur' := [(vI r14.at_), (vI r14.code)]) z_174 z z h2u z (lb z) (oA z) z) ?_
 rintro _ w2e ⟨h1l, s2v⟩
 have h16 := s2v.one
 refine Wn (Wq (Ws (R z (fd f_174_1 z) (R z (l1 g_3 z fid (h1l.at z)) (R z (nq z z) (Wn (Wc z (fun hc1m => ?_) (fun hc1m => ?_))))))))
 ·refine Wq (WC_draw (X := noX) 4 (.rd 0 (.rd 1 (.ef 2 .done))) mo (by kernel_rfl) fun w2w s1e _ => dR z z (lN (vs := [(vI r14.at_), (vI r14.code)]) g_174 z_174 z z fid ((h1l.ext s1e).row 0 2 z)) (dR z z (asg z) ?_))
  have h2f := mmr (Blk.lt hB1)
  have h2x := (((((h1a.chg h11 (atp h2f)).ext h13).chg h12 (djs (mm1 h1a.lt h11.size))).ext s10).ext h15).chg h16 (djs (mm1 h1a.lt (lt_ (lt_ (lt_ h11.size h13.size) h12.size) s10.size)))
  refine dE0 z (fs (cur' := [(vI r14.at_), (vI r14.code)]) z_174 z z (h2x.ext s1e) z (lb z) (oA z) z) (.inl z) ?_
  rintro _ w2y ⟨h2z, s30⟩
  have h2g := s30.one
  refine PR_done (Wo ?_)
  obtain rfl := som (ifT hm2a hc1m)
  have h31 : Chg (· ∈ [g1]) w0 w1g := cext (cr [g1] w0) h19
  have h32 : Chg (· ∈ [g1]) w0 w1b := cM h31 h11 (io sr)
  have h33 : Chg (· ∈ [g1]) w0 w1h := cext h32 h13
  have h34 : ∀ k ∈ [w1b.heap.size], k ∈ [g1] ∨ w0.heap.size ≤ k := mor h1c
  have h35 : Chg (· ∈ [g1]) w0 w26 := cM h33 h12 h34
  have h36 : Chg (· ∈ [g1]) w0 w1d := cext h35 s10
  have h37 : Chg (· ∈ [g1]) w0 w1k := cext h36 h15
  have h2h := lt_ h1j s10.size
  have h38 : ∀ k ∈ [w1d.heap.size], k ∈ [g1] ∨ w0.heap.size ≤ k := mor h2h
  have h39 : Chg (· ∈ [g1]) w0 w2e := cM h37 h16 h38
  have h3a : Chg (· ∈ [g1]) w0 w2w := cext h39 s1e
  have h3b : ∀ k ∈ [w0.heap.size], k ∈ [g1] ∨ w0.heap.size ≤ k := mor lr
  have h3c : Chg (· ∈ [g1]) w0 w2y := cM h3a h2g h3b
  exact Wr (ret2 hr z (resC g_174 z_174 z h2z z) ⟨h3c, z, (ii z), h2b, h2c, (iA _ _), (((((h1i.ext s10).ext h15).chg h16 (djs (mm1 (Blk.lt hB1) h2h))).ext s1e).chg h2g (djs h2f))⟩)
 refine Wk (Wq (WC_draw (X := noX) 8192 (.rd 0 (.rd 1 (.rd 2 (.rd 3 (.rd 4 (.rd 5 (.rd 6 (.rd 7 (.rd 8 (.rd 9 (.rd 11 (.ef 10 (.rd 12 (.ef 13 .done)))))))))))))) mo (by kernel_rfl) fun w3d s18 _ => dR z z (mv z) (dR z z (rd_nil z) (dR z z (fd f_172_1 z) ?_))))
 have h1f := lt_ h1j s10.size
 have h2i := (((h1i.ext s10).ext h15).chg h16 (djs (mm1 (Blk.lt hB1) h1f))).ext s18
 refine dR z z (l1 g_25 z fid (h2i.at z)) (dR z z (mv z) (dR z z (fd f_174_0 z) ?_))
 have h2j := h1l.ext s18
 refine dR z z (l1 g_3 z fid (h2j.at z)) ?_
 obtain ⟨x4c, e3e, hm3f⟩ := bdS (ifF hm2a hc1m)
 refine dRX z z (rd_sliceX d_25 z_5 z z ((((h29.ext s10).ext h15).chg h16 (lg (mem1le (lt_ (lt_ hBw (Nat.le_of_lt (Blk.lt hB1))) h1f)))).ext s18) z z e3e) ?_
 rintro _ ⟨a4d, n4e, c4f, rfl, h3g⟩
 refine dR z z (fd f_74_3 z) (dR z z (l1 g_4 z fid (((((h27.ext s10).ext h15).chg h16 (djs (mm1 h25.lt (lt_ h12.size s10.size)))).ext s18).at z)) (dR z z (lN (vs := [(vI r14.at_), (vI r14.code)]) g_174 z_174 z z fid (h2j.row 0 2 z)) ?_))
 obtain ⟨r4g, e3h, hm3i⟩ := bdS hm3f
 refine dE z z (fc call136 z (W_impl_ReadInteger (B := B) e3h (lt_ (lt_ hBw (Nat.le_of_lt (Blk.lt hB1))) (lt_ (lt_ (lt_ h1f h15.size) h16.size) s18.size)) h3g)) (.inr fun _ _ h => chgB (h.1)) ?_
 rintro _ w3j ⟨s1n, rfl, h3k⟩
 refine dR z z (asg z) ?_
 have h2k := mmr (Blk.lt hB1)
 have h3l := (((((h1a.chg h11 (atp h2k)).ext h13).chg h12 (djs (mm1 h1a.lt h11.size))).ext s10).ext h15).chg h16 (djs (mm1 h1a.lt (lt_ (lt_ (lt_ h11.size h13.size) h12.size) s10.size)))
 refine dE0 z (fs (cur' := [(vI r14.at_), (vI r14.code)]) z_174 z z ((h3l.ext s18).ext s1n) z (lb z) (oA z) z) (.inl z) ?_
 rintro _ w3m ⟨h3n, s3o⟩
 have h2l := s3o.one
 refine PR_done (Wo ?_)
 obtain rfl := som hm3i
 have h3p : Chg (· ∈ [g1]) w0 w1g := cext (cr [g1] w0) h19
 have h3q : Chg (· ∈ [g1]) w0 w1b := cM h3p h11 (io sr)
 have h3r : Chg (· ∈ [g1]) w0 w1h := cext h3q h13
 have h3s : ∀ k ∈ [w1b.heap.size], k ∈ [g1] ∨ w0.heap.size ≤ k := mor h1c
 have h3t : Chg (· ∈ [g1]) w0 w26 := cM h3r h12 h3s
 have h3u : Chg (· ∈ [g1]) w0 w1d := cext h3t s10
 have h3v : Chg (· ∈ [g1]) w0 w1k := cext h3u h15
 have h3w : ∀ k ∈ [w1d.heap.size], k ∈ [g1] ∨ w0.heap.size ≤ k := mor h1f
 have h3x : Chg (· ∈ [g1]) w0 w2e := cM h3v h16 h3w
 have h3y : Chg (· ∈ [g1]) w0 w3d := cext h3x s18
 have h3z : Chg (· ∈ [g1]) w0 w3j := cext h3y s1n
 have h40 : ∀ k ∈ [w0.heap.size], k ∈ [g1] ∨ w0.heap.size ≤ k := mor lr
 have h41 : Chg (· ∈ [g1]) w0 w3m := cM h3z h2l h40
 exact Wr (ret2 hr z (resC g_174 z_174 z h3n z) ⟨h41, z, h3k, h2b, h2c, (iA _ _), ((h2i.ext s1n).chg h2l (djs h2k))⟩)
theorem W_impl_checker_constant {x1 : Checker} {b1 o1 : Nat} {x2 : Rule} {x3 : Int} {res : Spot} (hm : M_impl_checker_constant x1 x2 x3 = some res) (hBw : B ≤ w0.heap.size) (p1_0 : repS w0 B (sl pa1_0 pn1_0 pc1_0) x1.d.rules) (p1_1 : repS w0 B (sl pa1_1 pn1_1 pc1_1) x1.b) (p1_2 : inI x1.applied) (hC1 : CellsAt w0 b1 o1 [(sl pa1_0 pn1_0 pc1_0), (sl pa1_1 pn1_1 pc1_1), (vI x1.applied)]) (hC1b : b1 < B) (p2_0 : x2.name.b.length ≤ LEN) (p2_1 : inI x2.kind) (p2_2 : inI x2.size) (p2_4 : repS w0 B (sl pa2_4 pn2_4 pc2_4) x2.bytes) (p2_5 : repS w0 B (sl pa2_5 pn2_5 pc2_5) x2.names) (p2_6 : repS w0 B (sl pa2_6 pn2_6 pc2_6) x2.tags) (p2_7 : repS w0 B (sl pa2_7 pn2_7 pc2_7) x2.kids) (p3_0 : inI x3) : CallsR prog 153 [(.pointer (some ⟨b1, o1, none⟩)), (.agg #[(Str.v x2.name), (vI x2.kind), (vI x2.size), (vB x2.little), (sl pa2_4 pn2_4 pc2_4), (sl pa2_5 pn2_5 pc2_5), (sl pa2_6 pn2_6 pc2_6), (sl pa2_7 pn2_7 pc2_7)]), (vI x3)] w0 (Q19 w0 B res) := by
 unfold M_impl_checker_constant at hm
 refine goF func153 z z (lb z) fun fn hr => Ws (E z (fb z) ?_)
 rintro _ w13 ⟨rfl, h1b⟩
 have h10 := h1b.below
 have h1k : Blk w13 w0.heap.size (vR x2 pa2_4 pn2_4 pc2_4 pa2_5 pn2_5 pc2_5 pa2_6 pn2_6 pc2_6 pa2_7 pn2_7 pc2_7) := h1b.blk
 refine E z (fa zero_174) ?_
 rintro _ w14 ⟨rfl, h1c⟩
 have h12 := h1c.below
 have h17 : Blk w14 w13.heap.size [(vI 0), (vI 0)] := h1c.blk
 refine Wn (Wq (Ws (R z (fd f_74_4 z) ?_)))
 have h1d := h1k.ext h12
 refine R z (l1 g_25 z fid (h1d.at z)) ?_
 have h18 := (p2_4.ext h10).ext h12
 refine R z (lnR d_25 z h18) (Rm z (Wn ?_))
 obtain ⟨u26, hu1l, hm1e⟩ := bdS hm
 refine WC_forN (σ := Unit) (ρ := Spot) (fun (k15 : Nat) (_ : Unit) a w => Sat 50 [(0, (.pointer (some ⟨b1, o1, none⟩))), (2, (vI x3)), (4, (pt w0.heap.size)), (6, (pt w13.heap.size)), (10, (sl pa2_4 pn2_4 pc2_4)), (11, (vI (x2.bytes.length : Int))), (12, (vI ((k15 : Nat) : Int)))] a ∧ Below w14.heap.size w14 w) (fun (_ : Unit) a w => Sat 50 [(2, (vI x3)), (4, (pt w0.heap.size)), (6, (pt w13.heap.size))] a ∧ Below w14.heap.size w14 w) (fun r ex a w => ex = .ret ∧ RetPost prog fn (Q19 w0 B r) a w) hu1l ?_ ?_ ?_ ?_ ?_
 ·exact fun _ q => ⟨(q.k (s7 z z z z z z z)), (br w14)⟩
 ·rintro k15 _ a27 w28 o29 hk1f ⟨hS1m, s11⟩ hm1n
  refine Wu (e := [(0, (.pointer (some ⟨b1, o1, none⟩))), (2, (vI x3)), (4, (pt w0.heap.size)), (6, (pt w13.heap.size)), (10, (sl pa2_4 pn2_4 pc2_4)), (11, (vI (x2.bytes.length : Int))), (12, (vI ((k15 : Nat) : Int)))]) (N := 50) ?_ hS1m
  refine Ws (R z (lss z z) (Wn (Wq (Wc z (fun _ => ?_) (fun hc => (nolt hk1f hc).elim)))))
  refine Wk (Wq (WC_block (Ws (Rm z ?_))))
  obtain ⟨x2a, e1o, hm1g⟩ := bdS hm1n
  refine RX z (at_ (α := UInt8) d_25 z_5 z z z (h18.ext s11) e1o) ?_
  rintro _ ⟨b2b, o2c, cs2d, rfl, h1p, h1q, h2e⟩
  obtain rfl := UInt8_open h1q
  refine R z (l1 g_5 z fid (h1p.at0 z)) (Ra z (Ra z (Wn (Wq (Ws (Rm z (Rm z (R z (add_ z z) (Rm z (R z (rd_nil z) (R z (fd f_172_1 z) ?_)))))))))))
  have h1h := ((hC1.ext h10).ext h12).ext s11
  refine R z (l1 g_25 z fid (h1h.at (j := 1) z)) ?_
  have h1i := ((p1_1.ext h10).ext h12).ext s11
  refine R z (lnR d_25 z h1i) (R z (eql z z) (Wn (Wc z (fun hc19 => ?_) (fun hc19 => ?_))))
  ·refine Ws (Rm z (R z (bP (parts := [(0, (.tmp 26)), (1, (.const (.int .i64 1)))]) (cs := [(vI x3), (vI 1)]) build_174 z z) (E0 (fs (cur' := [(vI x3), (vI 1)]) z_174 z z (h17.ext s11) z (lb z) (oA z) z) ?_)))
   rintro _ w2f ⟨h1r, s1s⟩
   exact Wn (Wr (rtO (QO_retL (som (ifT hm1g hc19)).symm (ret1 hr (resC g_174 z_174 z h1r z) ⟨(bM (bup (bup h10 h12) s11) s1s.one (mem1le h10.size)), z, p3_0, (ii z)⟩))))
  refine Wk (Ws (Rm z (R z (rd_nil z) (R z (fd f_172_1 z) (R z (l1 g_25 z fid (h1h.at (j := 1) z)) (Rm z (Rm z (R z (add_ z z) ?_))))))))
  obtain ⟨x2g, e1t, hm1j⟩ := bdS (ifF hm1g hc19)
  refine RX z (at_ (α := UInt8) d_25 z_5 z z z h1i e1t) ?_
  rintro _ ⟨b2h, o2i, cs2j, rfl, h1u, h1v, h2k⟩
  obtain rfl := UInt8_open h1v
  refine R z (l1 g_5 z fid (h1u.at0 z)) (Rm z (R z (nq z z) (Wn (Wc z (fun hc1a => ?_) (fun hc1a => ?_)))))
  ·refine Ws (Rm z (Rm z (R z (add_ z z) (R z (bP (parts := [(0, (.tmp 41)), (1, (.const (.int .i64 2)))]) (cs := [(vI (iadd x3 ((k15 : Nat) : Int))), (vI 2)]) build_174 z z) (E0 (fs (cur' := [(vI (iadd x3 ((k15 : Nat) : Int))), (vI 2)]) z_174 z z (h17.ext s11) z (lb z) (oA z) z) ?_)))))
   rintro _ w2l ⟨h1w, s1x⟩
   exact Wn (Wr (rtO (QO_retL (som (ifT hm1j hc1a)).symm (ret1 hr (resC g_174 z_174 z h1w z) ⟨(bM (bup (bup h10 h12) s11) s1x.one (mem1le h10.size)), z, (iA _ _), (ii z)⟩))))
  exact Wk (Wg (R z (inc_ hk1f (lt_ (repS.len p2_4) LEN_le) z z) (Rm z (Wl (fun _ q => ⟨(), (som (ifF hm1j hc1a)).symm, ⟨(q.k (s7 z z z z z z z)), s11⟩⟩)))))
 ·rintro _ a2m w2n ⟨hS1y, s1z⟩
  refine Wu (e := [(0, (.pointer (some ⟨b1, o1, none⟩))), (2, (vI x3)), (4, (pt w0.heap.size)), (6, (pt w13.heap.size)), (10, (sl pa2_4 pn2_4 pc2_4)), (11, (vI (x2.bytes.length : Int))), (12, (vI ((x2.bytes.length : Nat) : Int)))]) (N := 50) ?_ hS1y
  refine Ws (R z (lss z z) (Wn (Wq (Wc z (fun hc => (noltt hc).elim) (fun _ => ?_)))))
  exact WC_exit (fun a' ha' => ⟨rfl, ⟨(Sat.weaken ha' (s3 z z z)), s1z⟩⟩)
 ·rintro _ a20 w2o rfl ⟨hS2p, s16⟩
  have hm21 := elL hm1e
  revert a20
  refine Wo (Ws (Rm z (R z (fd f_74_4 z) (R z (l1 g_25 z fid ((h1d.ext s16).at z)) (R z (lnR d_25 z (h18.ext s16)) (R z (add_ z z) (R z (bP (parts := [(0, (.tmp 48)), (1, (.const (.int .i64 0)))]) (cs := [(vI (iadd x3 (x2.bytes.length : Int))), (vI 0)]) build_174 z z) (E0 (fs (cur' := [(vI (iadd x3 (x2.bytes.length : Int))), (vI 0)]) z_174 z z (h17.ext s16) z (lb z) (oA z) z) ?_))))))))
  rintro _ w2q ⟨h22, s23⟩
  refine Wn ?_
  obtain rfl := som hm21
  exact Wr (ret1 hr (resC g_174 z_174 z h22 z) ⟨(bM (bup (bup h10 h12) s16) s23.one (mem1le h10.size)), z, (iA _ _), (ii z)⟩)
 rintro r2r ex2s a2t w2u rfl ⟨rfl, hq24⟩
 have hm25 := elR hm1e
 obtain rfl := som hm25
 exact ⟨hq24, z⟩
theorem W_impl_SumOfBytes {x1 : List UInt8} {res : Int} (hm : M_impl_SumOfBytes x1 = some res) (hBw : B ≤ w0.heap.size) (p1_0 : repS w0 B (sl pa1_0 pn1_0 pc1_0) x1) : CallsR prog 137 [(sl pa1_0 pn1_0 pc1_0)] w0 (Q0 w0 B res) := by
 unfold M_impl_SumOfBytes at hm
 refine goF func137 z z (lb z) fun fn hr => Ws (Ra z (Wn (Ws (Ra z (Wn (Wq (Ws (Rm z (R z (lnR d_25 z p1_0) (Rm z (Wn ?_)))))))))))
 obtain ⟨u1l, hu16, hm13⟩ := bdS hm
 refine WC_forN (σ := Int) (ρ := Int) (fun (k12 : Nat) (x10 : Int) a w => Sat 19 [(3, (vI x10)), (6, (sl pa1_0 pn1_0 pc1_0)), (7, (vI (x1.length : Int))), (8, (vI ((k12 : Nat) : Int)))] a ∧ Below w0.heap.size w0 w ∧ inI x10) (fun (x10 : Int) a w => Sat 19 [(3, (vI x10))] a ∧ Below w0.heap.size w0 w ∧ inI x10) (fun r ex a w => ex = .ret ∧ RetPost prog fn (Q0 w0 B r) a w) hu16 ?_ ?_ ?_ ?_ ?_
 ·exact fun _ q => ⟨(q.k (s4 z z z z)), (br w0), (ii z)⟩
 ·rintro k12 x10 a1m w1n o1o hk14 ⟨hS17, s15, h11⟩ hm18
  refine Wu (e := [(3, (vI x10)), (6, (sl pa1_0 pn1_0 pc1_0)), (7, (vI (x1.length : Int))), (8, (vI ((k12 : Nat) : Int)))]) (N := 19) ?_ hS17
  refine Ws (R z (lss z z) (Wn (Wq (Wc z (fun _ => ?_) (fun hc => (nolt hk14 hc).elim)))))
  refine Wk (Wq (WC_block (Ws ?_)))
  obtain ⟨x19, e1a, hm1b⟩ := bdS hm18
  refine RX z (at_ (α := UInt8) d_25 z_5 z z z (p1_0.ext s15) e1a) ?_
  rintro _ ⟨b1p, o1q, cs1r, rfl, h1c, h1d, h1s⟩
  obtain rfl := UInt8_open h1d
  exact R z (l1 g_5 z fid (h1c.at0 z)) (Ra z (Wn (Wg (Rm z (Rm z (R z (rd_convUI d_5 d_3 z) (R z (add_ z z) (Ra z (Wn (Wg (R z (inc_ hk14 (lt_ (repS.len p1_0) LEN_le) z z) (Rm z (Wl (fun _ q => ⟨iadd x10 (byteI x19), (som hm1b).symm, ⟨(q.k (s4 z z z z)), s15, (iA _ _)⟩⟩))))))))))))))
 ·rintro x10 a1t w1u ⟨hS1e, s1f, h11⟩
  refine Wu (e := [(3, (vI x10)), (6, (sl pa1_0 pn1_0 pc1_0)), (7, (vI (x1.length : Int))), (8, (vI ((x1.length : Nat) : Int)))]) (N := 19) ?_ hS1e
  refine Ws (R z (lss z z) (Wn (Wq (Wc z (fun hc => (noltt hc).elim) (fun _ => ?_)))))
  exact WC_exit (fun a' ha' => ⟨rfl, ⟨(Sat.weaken ha' (s1 z)), s1f, h11⟩⟩)
 ·rintro x10 a1g w1v rfl ⟨hS1w, s1h, h11⟩
  have hm1i := elL hm13
  revert a1g
  refine Wo (Ws (Rm z (R z (rd_rem z z (by decide)) (Ra z (Wn ?_)))))
  obtain rfl := som hm1i
  exact Wr (ret1 hr z ⟨s1h, z, (inI_rem h11)⟩)
 rintro r1x ex1y a1z w20 rfl ⟨rfl, hq1j⟩
 have hm1k := elR hm13
 obtain rfl := som hm1k
 exact ⟨hq1j, z⟩
theorem W_impl_ReadTerminated {x1 : List UInt8} {x2 : Int} {x3 : UInt8} {res : (List UInt8) × Int × Bool} (hm : M_impl_ReadTerminated n x1 x2 x3 = some res) (hBw : B ≤ w0.heap.size) (p1_0 : repS w0 B (sl pa1_0 pn1_0 pc1_0) x1) (p2_0 : inI x2) : CallsR prog 115 [(sl pa1_0 pn1_0 pc1_0), (vI x2), (vU (byteI x3))] w0 (Q14 w0 B res) := by
 unfold M_impl_ReadTerminated at hm
 refine goF func115 z z (lb z) fun fn hr => Ws (Ra z (Ra z (Ra z (Wn (Ws (E z (ef_lit0 (α := UInt8) el_25) ?_))))))
 rintro _ w1h ⟨a1j, n1k, c1l, rfl, s18, h1v⟩
 refine Ra z (Wn (Wq (Wq ?_)))
 obtain ⟨u29, hu1w, hm1x⟩ := bdS hm
 refine WC_cut (fun a w => ∃ (x1m : Bool), x1m = u29 ∧ Sat 58 [(0, (sl pa1_0 pn1_0 pc1_0)), (1, (vI x2)), (2, (vU (byteI x3))), (9, (sl a1j n1k c1l)), (19, (vB x1m))] a ∧ Below w1h.heap.size w1h w) ?_ ?_
 ·refine Wg (Rm z (R z (lss z z) (Rm z ?_)))
  rcases bs (decide (x2 < 0)) with hc15 | hc15
  ·iterate 4 refine Nh z hc15 ?_
   exact R z (pT z hc15 z) (Wl (fun _ q => ⟨true, som (ifT hu1w hc15), (q.k (s5 z z z z z)), (br w1h)⟩))
  exact Rh z hc15 (mv z) (Rh z hc15 (mv z) (Rh z hc15 (lnR d_25 z (p1_0.ext s18)) (Rh z hc15 (rd_gtr z z) (R z (pF z hc15 z) (Wl (fun _ q => ⟨decide ((x1.length : Int) < x2), som (ifF hu1w hc15), (q.k (s5 z z z z z)), (br w1h)⟩))))))
 rintro a2a w10 ⟨x1m, rfl, hS3r, s17⟩
 revert a2a
 refine Wo (Wc z (fun hc1n => ?_) (fun hc1n => ?_))
 ·refine Ws (Rm z (Rm z (Ra z (Ra z (Ra z (Wn ?_))))))
  obtain rfl := som (ifT hm1x hc1n)
  exact Wr (ret3 hr z z z ⟨(bup s18 s17), a1j, n1k, c1l, [w0.heap.size], z, (h1v.ext s17), p2_0, nd_one, (mem1 lr)⟩)
 refine Wk (Wq (Ws (Rm z (Ra z (Wn ?_)))))
 obtain ⟨u3s, hu2b, hm1y⟩ := bdS (ifF hm1x hc1n)
 refine WC_iter (σ := (List UInt8) × Int) (ρ := (List UInt8) × Int × Bool) (fun s a w => un2 (fun x1b x16 => ∃ (a12 : Option Addr) (n13 c14 : Nat) (S11 : List Nat), Sat 58 [(0, (sl pa1_0 pn1_0 pc1_0)), (1, (vI x2)), (2, (vU (byteI x3))), (9, (sl a12 n13 c14)), (10, (vI x16))] a ∧ Chg (· ∈ [w0.heap.size]) w10 w ∧ ownS w S11 (sl a12 n13 c14) x1b ∧ S11.Nodup ∧ (∀ k ∈ S11, k ∈ [w0.heap.size] ∨ w10.heap.size ≤ k) ∧ inI x16) s) (fun s a w => un2 (fun x1b x16 => ∃ (a12 : Option Addr) (n13 c14 : Nat) (S11 : List Nat), Sat 58 [(1, (vI x2))] a ∧ Chg (· ∈ [w0.heap.size]) w10 w ∧ ownS w S11 (sl a12 n13 c14) x1b ∧ S11.Nodup ∧ (∀ k ∈ S11, k ∈ [w0.heap.size] ∨ w10.heap.size ≤ k) ∧ inI x16) s) (fun r ex a w => ex = .ret ∧ RetPost prog fn (Q14 w0 B r) a w) hu2b ?_ ?_ ?_ ?_
 ·exact fun _ q => ⟨a1j, n1k, c1l, [w0.heap.size], (q.k (s5 z z z z z)), (cr [w0.heap.size] w10), (h1v.ext s17), nd_one, (io sr), p2_0⟩
 ·rintro ⟨x1b, x16⟩ a3t w19 o3u ⟨a12, n13, c14, S11, hS2c, s1a, h1c, h1d, h1e, h1o⟩ hm2d
  have hm1z := un2S hm2d
  refine Wu (e := [(0, (sl pa1_0 pn1_0 pc1_0)), (1, (vI x2)), (2, (vU (byteI x3))), (9, (sl a12 n13 c14)), (10, (vI x16))]) (N := 58) ?_ hS2c
  refine Wq (Ws (Rm z (Rm z ?_)))
  have h1f := ((p1_0.ext s18).ext s17).chg s1a (lg (mem1le hBw))
  refine R z (lnR d_25 z h1f) (R z (lss z z) (Wn (Wc z (fun hc1p => ?_) (fun hc1p => ?_))))
  ·refine Wk (Wq (WC_block (Wq (Ws (Rm z (Rm z ?_))))))
   obtain ⟨x3v, e2e, hm20⟩ := bdS (ifT hm1z hc1p)
   refine RX z (at_ (α := UInt8) d_25 z_5 z z z h1f e2e) ?_
   rintro _ ⟨b3w, o3x, cs3y, rfl, h2f, h2g, h3z⟩
   obtain rfl := UInt8_open h2g
   refine R z (l1 g_5 z fid (h2f.at0 z)) (Rm z (R z (eql z z) (Wn (Wc z (fun hc1q => ?_) (fun hc1q => ?_)))))
   ·refine Ws (Rm z (Rm z (R z (add_ z z) (Ra z (Ra z (Ra z (Wn ?_)))))))
    have h2h : ∀ k ∈ S11, w0.heap.size ≤ k := or1 h1e (mem1 lr) (lele (lt_ s18.size s17.size))
    exact Wr (rtO (QO_retL (som (ifT hm20 hc1q)).symm (ret3 hr z z z ⟨(bM (bup s18 s17) s1a (mem1 lr)), a12, n13, c14, S11, z, h1c, (iA _ _), h1d, h2h⟩)))
   refine Wk (Wq (Ws (Rm z (Rm z ?_))))
   obtain ⟨x40, e2i, hm2j⟩ := bdS (ifF hm20 hc1q)
   refine RX z (at_ (α := UInt8) d_25 z_5 z z z h1f e2i) ?_
   rintro _ ⟨b41, o42, cs43, rfl, h2k, h2l, h44⟩
   obtain rfl := UInt8_open h2l
   refine R z (l1 g_5 z fid (h2k.at0 z)) (R z (eql z z) (Wn ?_))
   obtain ⟨u2m, hu21, hm22⟩ := bdS hm2j
   refine WC_cut (fun a w => ∃ (x1g : Int), Sum.inl x1g = u2m ∧ Sat 58 [(0, (sl pa1_0 pn1_0 pc1_0)), (1, (vI x2)), (2, (vU (byteI x3))), (9, (sl a12 n13 c14)), (10, (vI x1g))] a ∧ Below w19.heap.size w19 w ∧ inI x1g) ?_ ?_
   ·refine Wc z (fun hc1r => ?_) (fun hc1r => ?_)
    ·have hm23 := ifT hu21 hc1r
     refine Ws (Rm z (R z (add_ z z) (Ra z (Wn (Ws (Rm z (Rm z (R z (lnR d_25 z h1f) (R z (eql z z) (Wn (Wc z (fun hc1s => ?_) (fun hc1s => ?_))))))))))))
     ·obtain rfl := som (ifT hm23 hc1s)
      have hm2n := elR hm22
      have h2o : ∀ k ∈ S11, k ∈ [w0.heap.size] ∨ w10.heap.size ≤ k := or1 h1e (io sr) (leor lr)
      have h2p : Chg (· ∈ [w0.heap.size]) w10 w19 := cM (cr [w0.heap.size] w10) s1a (io sr)
      exact WC_exit (exO z (fun a' ha' => QO_brk (som hm2n).symm ⟨a12, n13, c14, S11, (Sat.weaken ha' (s1 z)), h2p, h1c, h1d, h2o, (iA _ _)⟩))
     exact WC_skip (fun _ q => ⟨iadd x16 1, som (ifF hm23 hc1s), (q.k (s5 z z z z z)), (br w19), (iA _ _)⟩)
    exact WC_skip (fun _ q => ⟨x16, som (ifF hu21 hc1r), (q.k (s5 z z z z z)), (br w19), h1o⟩)
   rintro a2q w24 ⟨x1g, rfl, hS45, s1i, h46⟩
   have hm2r := elL hm22
   revert a2q
   refine Wo (Wg (Rm z (Rm z (Rm z ?_))))
   obtain ⟨x2s, e2t, hm2u⟩ := bdS hm2r
   refine RX z (at_ (α := UInt8) d_25 z_5 z z z (h1f.ext s1i) e2t) ?_
   rintro _ ⟨b47, o48, cs49, rfl, h2v, h2w, h4a⟩
   obtain rfl := UInt8_open h2w
   refine R z (l1 g_5 z fid (h2v.at0 z)) (E z (ef_buildSlice [(.tmp 53)] el_25 z z z (szAll z) (lb z) (lb z)) ?_)
   rintro _ w25 ⟨rfl, h1t⟩
   have h1u := h1t.below
   have h2x : Blk w25 w24.heap.size [(vU (byteI x2s))] := h1t.blk
   have h4b := ownS_new1 h1t UInt8_own
   obtain ⟨x2y, e2z, hm30⟩ := bdS hm2u
   refine E z (ef_pushN (α := UInt8) el_25 e2z z z ((h1c.ext s1i).ext h1u) h1d h2x UInt8_own all_nil nd_nil) ?_
   rintro _ w31 ⟨S26, a32, n33, c34, rfl, s35, h36, h37, h38⟩
   refine Ra z (Wn (Wg (Rm z (R z (add_ z z) (Ra z (Wl ?_))))))
   have h27 : ∀ k ∈ S11, k ∈ [w0.heap.size] ∨ w10.heap.size ≤ k := or1 h1e (io sr) (leor lr)
   have h39 : ∀ k ∈ S26, k ∈ [w0.heap.size] ∨ w10.heap.size ≤ k := or2 h38 h27 all_nil (leor (lt_ (lt_ s1a.size s1i.size) h1u.size))
   have h3a : Chg (· ∈ [w0.heap.size]) w10 w19 := cM (cr [w0.heap.size] w10) s1a (io sr)
   have h3b : Chg (· ∈ [w0.heap.size]) w10 w24 := cext h3a s1i
   have h3c : Chg (· ∈ [w0.heap.size]) w10 w25 := cext h3b h1u
   have h3d : Chg (· ∈ [w0.heap.size]) w10 w31 := cM h3c s35 h27
   exact fun _ q => ⟨(x2y, iadd x1g 1), (som hm30).symm, ⟨a32, n33, c34, S26, (q.k (s5 z z z z z)), h3d, h36, h37, h39, (iA _ _)⟩⟩
  have h3e : ∀ k ∈ S11, k ∈ [w0.heap.size] ∨ w10.heap.size ≤ k := or1 h1e (io sr) (leor lr)
  have h3f : Chg (· ∈ [w0.heap.size]) w10 w19 := cM (cr [w0.heap.size] w10) s1a (io sr)
  exact WC_exit (fun a' ha' => QO_brk (som (ifF hm1z hc1p)).symm ⟨a12, n13, c14, S11, (Sat.weaken ha' (s1 z)), h3f, h1c, h1d, h3e, h1o⟩)
 ·rintro ⟨x1b, x16⟩ a3g w3h rfl ⟨a12, n13, c14, S11, hS4c, s28, h1c, h1d, h1e, h1o⟩
  have hm3i := elL hm1y
  have hm3j := un2S hm3i
  revert a3g
  refine Wo (Ws (E z (ef_lit0 (α := UInt8) el_25) ?_))
  rintro _ w4d ⟨a3k, n3l, c3m, rfl, s3n, h3o⟩
  refine Rm z (Ra z (Ra z (Ra z (Wn ?_))))
  obtain rfl := som hm3j
  exact Wr (ret3 hr z z z ⟨(bup (bM (bup s18 s17) s28 (mem1 lr)) s3n), a3k, n3l, c3m, [w3h.heap.size], z, h3o, p2_0, nd_one, (mem1le (lt_ (lt_ s18.size s17.size) s28.size))⟩)
 rintro r4e ex4f a4g w4h rfl ⟨rfl, hq3p⟩
 have hm3q := elR hm1y
 obtain rfl := som hm3q
 exact ⟨hq3p, z⟩
def Q21 (w0 : World) (g1 : Nat) (B : Nat) (pa1_0 : Option Addr) (pn1_0 pc1_0 : Nat) (pa1_1 : Option Addr) (pn1_1 pc1_1 : Nat) (x1 : Checker) (r : Spot × Int) (v : Value) (w' : World) : Prop := Chg (· ∈ [g1]) w0 w' ∧ un2 (fun r1 r2 => (.agg #[vI r1.at_, vI r1.code]) = v ∧ inI r1.at_ ∧ inI r1.code ∧ inI r2 ∧ Blk w' g1 [(sl pa1_0 pn1_0 pc1_0), (sl pa1_1 pn1_1 pc1_1), vI r2]) r
structure S_impl_checker_value (f : Checker → Int → Int → Option (Spot × Int)) : Prop where
  run : ∀ {B pn1_0 pc1_0 pn1_1 pc1_1 g1 : Nat} {pa1_0 pa1_1 : Option Addr} {x1 : Checker} {x2 : Int} {x3 : Int} {res : Spot × Int} {w0 : World} (hm : f x1 x2 x3 = some res) (hB1 : Blk w0 g1 [(sl pa1_0 pn1_0 pc1_0), (sl pa1_1 pn1_1 pc1_1), (vI x1.applied)]) (hBw : B ≤ g1) (p1_0 : repS w0 B (sl pa1_0 pn1_0 pc1_0) x1.d.rules) (p1_1 : repS w0 B (sl pa1_1 pn1_1 pc1_1) x1.b) (p1_2 : inI x1.applied) (p2_0 : inI x2) (p3_0 : inI x3), CallsR prog 134 [(pt g1), (vI x2), (vI x3)] w0 (Q21 w0 g1 B pa1_0 pn1_0 pc1_0 pa1_1 pn1_1 pc1_1 x1 res)
structure S_impl_checker_array (f : Checker → Rule → Int → Option (Spot × Int)) : Prop where
  run : ∀ {B pn1_0 pc1_0 pn1_1 pc1_1 g1 pn2_4 pc2_4 pn2_5 pc2_5 pn2_6 pc2_6 pn2_7 pc2_7 : Nat} {pa1_0 pa1_1 pa2_4 pa2_5 pa2_6 pa2_7 : Option Addr} {x1 : Checker} {x2 : Rule} {x3 : Int} {res : Spot × Int} {w0 : World} (hm : f x1 x2 x3 = some res) (hB1 : Blk w0 g1 [(sl pa1_0 pn1_0 pc1_0), (sl pa1_1 pn1_1 pc1_1), (vI x1.applied)]) (hBw : B ≤ g1) (p1_0 : repS w0 B (sl pa1_0 pn1_0 pc1_0) x1.d.rules) (p1_1 : repS w0 B (sl pa1_1 pn1_1 pc1_1) x1.b) (p1_2 : inI x1.applied) (p2_0 : x2.name.b.length ≤ LEN) (p2_1 : inI x2.kind) (p2_2 : inI x2.size) (p2_4 : repS w0 B (sl pa2_4 pn2_4 pc2_4) x2.bytes) (p2_5 : repS w0 B (sl pa2_5 pn2_5 pc2_5) x2.names) (p2_6 : repS w0 B (sl pa2_6 pn2_6 pc2_6) x2.tags) (p2_7 : repS w0 B (sl pa2_7 pn2_7 pc2_7) x2.kids) (p3_0 : inI x3), CallsR prog 155 [(pt g1), (.agg #[(Str.v x2.name), (vI x2.kind), (vI x2.size), (vB x2.little), (sl pa2_4 pn2_4 pc2_4), (sl pa2_5 pn2_5 pc2_5), (sl pa2_6 pn2_6 pc2_6), (sl pa2_7 pn2_7 pc2_7)]), (vI x3)] w0 (Q21 w0 g1 B pa1_0 pn1_0 pc1_0 pa1_1 pn1_1 pc1_1 x1 res)
structure S_impl_checker_choice (f : Checker → Rule → Int → Option (Spot × Int)) : Prop where
  run : ∀ {B pn1_0 pc1_0 pn1_1 pc1_1 g1 pn2_4 pc2_4 pn2_5 pc2_5 pn2_6 pc2_6 pn2_7 pc2_7 : Nat} {pa1_0 pa1_1 pa2_4 pa2_5 pa2_6 pa2_7 : Option Addr} {x1 : Checker} {x2 : Rule} {x3 : Int} {res : Spot × Int} {w0 : World} (hm : f x1 x2 x3 = some res) (hB1 : Blk w0 g1 [(sl pa1_0 pn1_0 pc1_0), (sl pa1_1 pn1_1 pc1_1), (vI x1.applied)]) (hBw : B ≤ g1) (p1_0 : repS w0 B (sl pa1_0 pn1_0 pc1_0) x1.d.rules) (p1_1 : repS w0 B (sl pa1_1 pn1_1 pc1_1) x1.b) (p1_2 : inI x1.applied) (p2_0 : x2.name.b.length ≤ LEN) (p2_1 : inI x2.kind) (p2_2 : inI x2.size) (p2_4 : repS w0 B (sl pa2_4 pn2_4 pc2_4) x2.bytes) (p2_5 : repS w0 B (sl pa2_5 pn2_5 pc2_5) x2.names) (p2_6 : repS w0 B (sl pa2_6 pn2_6 pc2_6) x2.tags) (p2_7 : repS w0 B (sl pa2_7 pn2_7 pc2_7) x2.kids) (p3_0 : inI x3), CallsR prog 156 [(pt g1), (.agg #[(Str.v x2.name), (vI x2.kind), (vI x2.size), (vB x2.little), (sl pa2_4 pn2_4 pc2_4), (sl pa2_5 pn2_5 pc2_5), (sl pa2_6 pn2_6 pc2_6), (sl pa2_7 pn2_7 pc2_7)]), (vI x3)] w0 (Q21 w0 g1 B pa1_0 pn1_0 pc1_0 pa1_1 pn1_1 pc1_1 x1 res)
structure S_impl_checker_option (f : Checker → Rule → Int → Option (Spot × Int)) : Prop where
  run : ∀ {B pn1_0 pc1_0 pn1_1 pc1_1 g1 pn2_4 pc2_4 pn2_5 pc2_5 pn2_6 pc2_6 pn2_7 pc2_7 : Nat} {pa1_0 pa1_1 pa2_4 pa2_5 pa2_6 pa2_7 : Option Addr} {x1 : Checker} {x2 : Rule} {x3 : Int} {res : Spot × Int} {w0 : World} (hm : f x1 x2 x3 = some res) (hB1 : Blk w0 g1 [(sl pa1_0 pn1_0 pc1_0), (sl pa1_1 pn1_1 pc1_1), (vI x1.applied)]) (hBw : B ≤ g1) (p1_0 : repS w0 B (sl pa1_0 pn1_0 pc1_0) x1.d.rules) (p1_1 : repS w0 B (sl pa1_1 pn1_1 pc1_1) x1.b) (p1_2 : inI x1.applied) (p2_0 : x2.name.b.length ≤ LEN) (p2_1 : inI x2.kind) (p2_2 : inI x2.size) (p2_4 : repS w0 B (sl pa2_4 pn2_4 pc2_4) x2.bytes) (p2_5 : repS w0 B (sl pa2_5 pn2_5 pc2_5) x2.names) (p2_6 : repS w0 B (sl pa2_6 pn2_6 pc2_6) x2.tags) (p2_7 : repS w0 B (sl pa2_7 pn2_7 pc2_7) x2.kids) (p3_0 : inI x3), CallsR prog 157 [(pt g1), (.agg #[(Str.v x2.name), (vI x2.kind), (vI x2.size), (vB x2.little), (sl pa2_4 pn2_4 pc2_4), (sl pa2_5 pn2_5 pc2_5), (sl pa2_6 pn2_6 pc2_6), (sl pa2_7 pn2_7 pc2_7)]), (vI x3)] w0 (Q21 w0 g1 B pa1_0 pn1_0 pc1_0 pa1_1 pn1_1 pc1_1 x1 res)
structure S_impl_checker_checked (f : Checker → Rule → Int → Option (Spot × Int)) : Prop where
  run : ∀ {B pn1_0 pc1_0 pn1_1 pc1_1 g1 pn2_4 pc2_4 pn2_5 pc2_5 pn2_6 pc2_6 pn2_7 pc2_7 : Nat} {pa1_0 pa1_1 pa2_4 pa2_5 pa2_6 pa2_7 : Option Addr} {x1 : Checker} {x2 : Rule} {x3 : Int} {res : Spot × Int} {w0 : World} (hm : f x1 x2 x3 = some res) (hB1 : Blk w0 g1 [(sl pa1_0 pn1_0 pc1_0), (sl pa1_1 pn1_1 pc1_1), (vI x1.applied)]) (hBw : B ≤ g1) (p1_0 : repS w0 B (sl pa1_0 pn1_0 pc1_0) x1.d.rules) (p1_1 : repS w0 B (sl pa1_1 pn1_1 pc1_1) x1.b) (p1_2 : inI x1.applied) (p2_0 : x2.name.b.length ≤ LEN) (p2_1 : inI x2.kind) (p2_2 : inI x2.size) (p2_4 : repS w0 B (sl pa2_4 pn2_4 pc2_4) x2.bytes) (p2_5 : repS w0 B (sl pa2_5 pn2_5 pc2_5) x2.names) (p2_6 : repS w0 B (sl pa2_6 pn2_6 pc2_6) x2.tags) (p2_7 : repS w0 B (sl pa2_7 pn2_7 pc2_7) x2.kids) (p3_0 : inI x3), CallsR prog 158 [(pt g1), (.agg #[(Str.v x2.name), (vI x2.kind), (vI x2.size), (vB x2.little), (sl pa2_4 pn2_4 pc2_4), (sl pa2_5 pn2_5 pc2_5), (sl pa2_6 pn2_6 pc2_6), (sl pa2_7 pn2_7 pc2_7)]), (vI x3)] w0 (Q21 w0 g1 B pa1_0 pn1_0 pc1_0 pa1_1 pn1_1 pc1_1 x1 res)
abbrev I_impl_checker_value (n : Nat) : Prop := S_impl_checker_value (F_impl_checker_value n).impl_checker_value ∧ S_impl_checker_array (F_impl_checker_value n).impl_checker_array ∧ S_impl_checker_choice (F_impl_checker_value n).impl_checker_choice ∧ S_impl_checker_option (F_impl_checker_value n).impl_checker_option ∧ S_impl_checker_checked (F_impl_checker_value n).impl_checker_checked
theorem T_impl_checker_value (ih : I_impl_checker_value n) : S_impl_checker_value (B_impl_checker_value n (F_impl_checker_value n)) := by
 obtain ⟨ih0, ih1, ih2, ih3, ih4⟩ := ih
 constructor
 intro B pn1_0 pc1_0 pn1_1 pc1_1 g1 pa1_0 pa1_1 x1 x2 x3 res w0 hm hB1 hBw p1_0 p1_1 p1_2 p2_0 p3_0
 unfold B_impl_checker_value at hm
 refine goF func134 z z (lb z) fun fn hr => Ws (E z (fa zero_174) ?_)
 rintro _ w17 ⟨rfl, h3r⟩
 have h13 := h3r.below
 have h16 : Blk w17 w0.heap.size [(vI 0), (vI 0)] := h3r.blk
 refine Wn (Ws (Rm z (R z (rd_nil z) (R z (fd f_172_0 z) (R z (fd f_31_0 z) ?_)))))
 have h2r := hB1.ext h13
 refine R z (l1 g_29 z fid (h2r.at z)) (Rm z ?_)
 obtain ⟨x14, e5y, hm3s⟩ := bdS hm
 have h1c := p1_0.ext h13
 refine RX z (at_ (α := Rule) d_29 z_74 z z z h1c e5y) ?_
 rintro _ ⟨b130, o131, cs132, rfl, h5z, h60, h133⟩
 obtain ⟨a1p, n1q, c1r, a1s, n1t, c1u, a1v, n1w, c1x, a1d, n1e, c1f, rfl, h2c, h2d, h20, h21, h2e, h2f, h1n⟩ := Rule_open h60
 refine R z (lN (vs := (vR x14 a1p n1q c1r a1s n1t c1u a1v n1w c1x a1d n1e c1f)) g_74 z_74 z z fid h5z) (E z (fa zero_74) ?_)
 rintro _ w19 ⟨rfl, h3t⟩
 have h11 := h3t.below
 have h3u : Blk w19 w17.heap.size [(Str.v (⟨[]⟩ : Str)), (vI 0), (vI 0), (vB false), (sl none 0 0), (sl none 0 0), (sl none 0 0), (sl none 0 0)] := h3t.blk
 refine E0 (fs (cur' := (vR x14 a1p n1q c1r a1s n1t c1u a1v n1w c1x a1d n1e c1f)) z_74 z z h3u z (lb z) (oA z) z) ?_
 rintro _ w1a ⟨h3v, s61⟩
 have h10 := s61.one
 refine Wn (Wq (Ws (R z (fd f_74_1 z) (R z (l1 g_3 z fid (h3v.at z)) (R z (eql z z) (Wn (Wc z (fun hc2s => ?_) (fun hc2s => ?_))))))))
 ·refine Ws (Rm z (Rm z (Rm z ?_)))
  have h3w := mem1le (lt_ (lt_ hBw (Nat.le_of_lt (Blk.lt hB1))) h13.size)
  obtain ⟨r134, r22, r135, e62, hm63⟩ := bd3S (ifT hm3s hc2s)
  refine E z (fc call152 z (W_impl_checker_number (B := B) e62 ((h2r.ext h11).chg h10 (djs (mm1 (Blk.lt hB1) h13.size))) hBw ((h1c.ext h11).chg h10 (lg h3w)) (((p1_1.ext h13).ext h11).chg h10 (lg h3w)) p1_2 p2_0 p3_0)) ?_
  rintro _ w2t ⟨s2l, rfl, h136, h64, h65, h66, h67⟩
  refine Rm z (R z (ext_ z z) (R z (ext_ z z) (E z (fa zero_174) ?_)))
  rintro _ w3x ⟨rfl, h3y⟩
  have h2u := h3y.below
  have h68 : Blk w3x w2t.heap.size [(vI 0), (vI 0)] := h3y.blk
  refine Ra z (E0 (fs (cur' := [(vI r22.at_), (vI r22.code)]) z_174 z z h68 z (lb z) (oA z) z) ?_)
  rintro _ w69 ⟨h6a, s6b⟩
  have h2v := s6b.one
  refine Wn (Ws (R z (lN (vs := [(vI r22.at_), (vI r22.code)]) g_174 z_174 z z fid (h6a.row 0 2 z)) ?_))
  have h3z := mmr (Blk.lt hB1)
  have h6c := ((((h16.ext h11).chg h10 (djs (mmr h16.lt))).chg s2l (atp h3z)).ext h2u).chg h2v (djs (mm1 h16.lt (lt_ (lt_ h11.size h10.size) s2l.size)))
  refine E0 (fs (cur' := [(vI r22.at_), (vI r22.code)]) z_174 z z h6c z (lb z) (oA z) z) ?_
  rintro _ w6d ⟨h6e, s6f⟩
  have h40 := s6f.one
  refine Wn ?_
  obtain rfl := som hm63
  have h6g : Chg (· ∈ [g1]) w0 w17 := cext (cr [g1] w0) h13
  have h6h : Chg (· ∈ [g1]) w0 w19 := cext h6g h11
  have h6i : ∀ k ∈ [w17.heap.size], k ∈ [g1] ∨ w0.heap.size ≤ k := mor h13.size
  have h6j : Chg (· ∈ [g1]) w0 w1a := cM h6h h10 h6i
  have h6k : Chg (· ∈ [g1]) w0 w2t := cM h6j s2l (io sr)
  have h6l : Chg (· ∈ [g1]) w0 w3x := cext h6k h2u
  have h41 := lt_ (lt_ (lt_ h13.size h11.size) h10.size) s2l.size
  have h6m : ∀ k ∈ [w2t.heap.size], k ∈ [g1] ∨ w0.heap.size ≤ k := mor h41
  have h6n : Chg (· ∈ [g1]) w0 w69 := cM h6l h2v h6m
  have h6o : ∀ k ∈ [w0.heap.size], k ∈ [g1] ∨ w0.heap.size ≤ k := mor lr
  have h6p : Chg (· ∈ [g1]) w0 w6d := cM h6n h40 h6o
  exact Wr (ret1 hr (resC g_174 z_174 z h6e z) ⟨h6p, z, h64, h65, h66, (((h67.ext h2u).chg h2v (djs (mm1 (Blk.lt hB1) h41))).chg h40 (djs h3z))⟩)
 have hm42 := ifF hm3s hc2s
 refine Wk (Ws (Rm z (R z (rd_nil z) (R z (fd f_172_2 z) ?_))))
 have h43 := mm1 (Blk.lt hB1) h13.size
 have h44 := (h2r.ext h11).chg h10 (djs h43)
 refine R z (l1 g_3 z fid (h44.at z)) (R z (add_ z z) (R z (rd_nil z) (R z (fd f_172_2 z) (E0 (fs (cur' := [(sl pa1_0 pn1_0 pc1_0), (sl pa1_1 pn1_1 pc1_1), (vI (iadd x1.applied 1))]) z_3 z z h44 z (lb z) (oA z) z) ?_))))
 rintro _ w15 ⟨h1b, s6q⟩
 have h12 := s6q.one
 refine Wn (Wq (Ws (R z (fd f_74_1 z) ?_)))
 have h1g := h3v.chg h12 (atp h43)
 refine R z (l1 g_3 z fid (h1g.at z)) (Wn (WC_block (Ws (R z (eql z z) (Ra z (Wn (Wc z (fun hc2w => ?_) (fun hc2w => ?_))))))))
 ·refine Ws (Rm z (R z (lN (vs := (vR x14 a1p n1q c1r a1s n1t c1u a1v n1w c1x a1d n1e c1f)) g_74 z_74 z z fid (h1g.row 0 8 z)) (Rm z ?_)))
  have h23 := mem1le (lt_ (lt_ hBw (Nat.le_of_lt (Blk.lt hB1))) h13.size)
  obtain ⟨r45, e6r, hm6s⟩ := bdS (ifT hm42 hc2w)
  refine E z (fc call153 z (W_impl_checker_constant (B := w0.heap.size) e6r (lt_ (lt_ (lt_ h13.size h11.size) h10.size) h12.size) (repS.mono (((h1c.ext h11).chg h10 (lg h23)).chg h12 (lg (mem1 hBw))) (lt_ hBw (Nat.le_of_lt (Blk.lt hB1)))) (repS.mono ((((p1_1.ext h13).ext h11).chg h10 (lg h23)).chg h12 (lg (mem1 hBw))) (lt_ hBw (Nat.le_of_lt (Blk.lt hB1)))) (iA _ _) (h1b.row 0 3 z) (Blk.lt hB1) h2c h2d h20 (repS.mono (((h21.ext h11).chg h10 (lg h23)).chg h12 (lg (mem1 hBw))) (lt_ hBw (Nat.le_of_lt (Blk.lt hB1)))) (repS.mono (((h2e.ext h11).chg h10 (lg h23)).chg h12 (lg (mem1 hBw))) (lt_ hBw (Nat.le_of_lt (Blk.lt hB1)))) (repS.mono (((h2f.ext h11).chg h10 (lg h23)).chg h12 (lg (mem1 hBw))) (lt_ hBw (Nat.le_of_lt (Blk.lt hB1)))) (repS.mono (((h1n.ext h11).chg h10 (lg h23)).chg h12 (lg (mem1 hBw))) (lt_ hBw (Nat.le_of_lt (Blk.lt hB1)))) p3_0)) ?_
  rintro _ w6t ⟨s2x, rfl, h6u, h6v⟩
  have h46 := mmr (Blk.lt hB1)
  refine E0 (fs (cur' := [(vI r45.at_), (vI r45.code)]) z_174 z z ((((h16.ext h11).chg h10 (djs (mmr h16.lt))).chg h12 (atp h46)).ext s2x) z (lb z) (oA z) z) ?_
  rintro _ w6w ⟨h6x, s6y⟩
  have h47 := s6y.one
  refine Wn ?_
  obtain rfl := som hm6s
  have h6z : Chg (· ∈ [g1]) w0 w17 := cext (cr [g1] w0) h13
  have h70 : Chg (· ∈ [g1]) w0 w19 := cext h6z h11
  have h71 : ∀ k ∈ [w17.heap.size], k ∈ [g1] ∨ w0.heap.size ≤ k := mor h13.size
  have h72 : Chg (· ∈ [g1]) w0 w1a := cM h70 h10 h71
  have h73 : Chg (· ∈ [g1]) w0 w15 := cM h72 h12 (io sr)
  have h74 : Chg (· ∈ [g1]) w0 w6t := cext h73 s2x
  have h75 : ∀ k ∈ [w0.heap.size], k ∈ [g1] ∨ w0.heap.size ≤ k := mor lr
  have h76 : Chg (· ∈ [g1]) w0 w6w := cM h74 h47 h75
  exact Wr (rtO (ret1 hr (resC g_174 z_174 z h6x z) ⟨h76, z, h6u, h6v, (iA _ _), ((h1b.ext s2x).chg h47 (djs h46))⟩))
 have hm48 := ifF hm42 hc2w
 refine Ws (R z (eql z z) (Ra z (Wn (Wc z (fun hc2y => ?_) (fun hc2y => ?_)))))
 ·refine Ws (Rm z (Rm z (R z (fd f_74_2 z) (R z (l1 g_3 z fid (h1g.at z)) ?_))))
  have h49 := mem1le (lt_ (lt_ hBw (Nat.le_of_lt (Blk.lt hB1))) h13.size)
  obtain ⟨r4a, e77, hm78⟩ := bdS (ifT hm48 hc2y)
  refine E z (fc call154 z (W_impl_checker_skip (B := w0.heap.size) e77 (lt_ (lt_ (lt_ h13.size h11.size) h10.size) h12.size) (repS.mono (((h1c.ext h11).chg h10 (lg h49)).chg h12 (lg (mem1 hBw))) (lt_ hBw (Nat.le_of_lt (Blk.lt hB1)))) (repS.mono ((((p1_1.ext h13).ext h11).chg h10 (lg h49)).chg h12 (lg (mem1 hBw))) (lt_ hBw (Nat.le_of_lt (Blk.lt hB1)))) (iA _ _) (h1b.row 0 3 z) (Blk.lt hB1) p3_0 h20)) ?_
  rintro _ w79 ⟨s2z, rfl, h7a, h7b⟩
  have h4b := mmr (Blk.lt hB1)
  refine E0 (fs (cur' := [(vI r4a.at_), (vI r4a.code)]) z_174 z z ((((h16.ext h11).chg h10 (djs (mmr h16.lt))).chg h12 (atp h4b)).ext s2z) z (lb z) (oA z) z) ?_
  rintro _ w7c ⟨h7d, s7e⟩
  have h4c := s7e.one
  refine Wn ?_
  obtain rfl := som hm78
  have h7f : Chg (· ∈ [g1]) w0 w17 := cext (cr [g1] w0) h13
  have h7g : Chg (· ∈ [g1]) w0 w19 := cext h7f h11
  have h7h : ∀ k ∈ [w17.heap.size], k ∈ [g1] ∨ w0.heap.size ≤ k := mor h13.size
  have h7i : Chg (· ∈ [g1]) w0 w1a := cM h7g h10 h7h
  have h7j : Chg (· ∈ [g1]) w0 w15 := cM h7i h12 (io sr)
  have h7k : Chg (· ∈ [g1]) w0 w79 := cext h7j s2z
  have h7l : ∀ k ∈ [w0.heap.size], k ∈ [g1] ∨ w0.heap.size ≤ k := mor lr
  have h7m : Chg (· ∈ [g1]) w0 w7c := cM h7k h4c h7l
  exact Wr (rtO (ret1 hr (resC g_174 z_174 z h7d z) ⟨h7m, z, h7a, h7b, (iA _ _), ((h1b.ext s2z).chg h4c (djs h4b))⟩))
 have hm4d := ifF hm48 hc2y
 refine Ws (R z (eql z z) (Ra z (Wn (Wc z (fun hc30 => ?_) (fun hc30 => ?_)))))
 ·refine Ws (Rm z (R z (fd f_74_7 z) (R z (l1 g_72 z fid (h1g.at z)) ?_)))
  obtain ⟨x137, e7n, hm7o⟩ := bdS (ifT hm4d hc30)
  have h31 := mem1le (lt_ (lt_ hBw (Nat.le_of_lt (Blk.lt hB1))) h13.size)
  refine RX z (at_ (α := Int) d_72 z_3 z z z (((h1n.ext h11).chg h10 (lg h31)).chg h12 (lg (mem1 hBw))) e7n) ?_
  rintro _ ⟨b138, o139, cs13a, rfl, h7p, h7q, h13b⟩
  obtain ⟨rfl, h7r⟩ := Int_open h7q
  refine R z (l1 g_3 z fid (h7p.at0 z)) (Rm z ?_)
  have h4e := ((h1c.ext h11).chg h10 (lg h31)).chg h12 (lg (mem1 hBw))
  have h4f := (((p1_1.ext h13).ext h11).chg h10 (lg h31)).chg h12 (lg (mem1 hBw))
  obtain ⟨r13c, r24, r13d, e7s, hm4g⟩ := bd3S hm7o
  refine E z (fc call152 z (W_impl_checker_number (B := B) e7s h1b hBw h4e h4f (iA _ _) h7r p3_0)) ?_
  rintro _ w2g ⟨s1h, rfl, h7t, h4h, h7u, h32, h4i⟩
  refine Rm z (R z (ext_ z z) (R z (ext_ z z) (E z (fa zero_174) ?_)))
  rintro _ w33 ⟨rfl, h4j⟩
  have h1k := h4j.below
  have h7v : Blk w33 w2g.heap.size [(vI 0), (vI 0)] := h4j.blk
  refine Ra z (E0 (fs (cur' := [(vI r24.at_), (vI r24.code)]) z_174 z z h7v z (lb z) (oA z) z) ?_)
  rintro _ w4k ⟨h34, s7w⟩
  have h1l := s7w.one
  refine Wn (Wq (Ws (R z (fd f_174_1 z) (R z (l1 g_3 z fid (h34.at z)) (R z (nq z z) (Wn (Wc z (fun hc35 => ?_) (fun hc35 => ?_))))))))
  ·refine Ws (R z (lN (vs := [(vI r24.at_), (vI r24.code)]) g_174 z_174 z z fid (h34.row 0 2 z)) ?_)
   have h36 := mmr (Blk.lt hB1)
   have h7x := (((((h16.ext h11).chg h10 (djs (mmr h16.lt))).chg h12 (atp h36)).chg s1h (atp h36)).ext h1k).chg h1l (djs (mm1 h16.lt (lt_ (lt_ (lt_ h11.size h10.size) h12.size) s1h.size)))
   refine E0 (fs (cur' := [(vI r24.at_), (vI r24.code)]) z_174 z z h7x z (lb z) (oA z) z) ?_
   rintro _ w7y ⟨h7z, s80⟩
   have h4l := s80.one
   refine Wn ?_
   obtain rfl := som (ifT hm4g hc35)
   have h81 : Chg (· ∈ [g1]) w0 w17 := cext (cr [g1] w0) h13
   have h82 : Chg (· ∈ [g1]) w0 w19 := cext h81 h11
   have h83 : ∀ k ∈ [w17.heap.size], k ∈ [g1] ∨ w0.heap.size ≤ k := mor h13.size
   have h84 : Chg (· ∈ [g1]) w0 w1a := cM h82 h10 h83
   have h85 : Chg (· ∈ [g1]) w0 w15 := cM h84 h12 (io sr)
   have h86 : Chg (· ∈ [g1]) w0 w2g := cM h85 s1h (io sr)
   have h87 : Chg (· ∈ [g1]) w0 w33 := cext h86 h1k
   have h4m := lt_ (lt_ (lt_ (lt_ h13.size h11.size) h10.size) h12.size) s1h.size
   have h88 : ∀ k ∈ [w2g.heap.size], k ∈ [g1] ∨ w0.heap.size ≤ k := mor h4m
   have h89 : Chg (· ∈ [g1]) w0 w4k := cM h87 h1l h88
   have h8a : ∀ k ∈ [w0.heap.size], k ∈ [g1] ∨ w0.heap.size ≤ k := mor lr
   have h8b : Chg (· ∈ [g1]) w0 w7y := cM h89 h4l h8a
   exact Wr (rtO (ret1 hr (resC g_174 z_174 z h7z z) ⟨h8b, z, h4h, h7u, h32, (((h4i.ext h1k).chg h1l (djs (mm1 (Blk.lt hB1) h4m))).chg h4l (djs h36))⟩))
  refine Wk (Ws (Rm z (R z (fd f_174_0 z) (R z (l1 g_3 z fid (h34.at z)) (Rm z ?_)))))
  have h2m := lt_ (lt_ (lt_ (lt_ h13.size h11.size) h10.size) h12.size) s1h.size
  have h4n := (h4i.ext h1k).chg h1l (djs (mm1 (Blk.lt hB1) h2m))
  have h4o := mem1le (lt_ (lt_ hBw (Nat.le_of_lt (Blk.lt hB1))) h2m)
  obtain ⟨r4p, e8c, hm8d⟩ := bdS (ifF hm4g hc35)
  refine E z (fc call154 z (W_impl_checker_skip (B := w0.heap.size) e8c (lt_ (lt_ h2m h1k.size) h1l.size) (repS.mono (((h4e.chg s1h (lg (mem1 hBw))).ext h1k).chg h1l (lg h4o)) (lt_ hBw (Nat.le_of_lt (Blk.lt hB1)))) (repS.mono (((h4f.chg s1h (lg (mem1 hBw))).ext h1k).chg h1l (lg h4o)) (lt_ hBw (Nat.le_of_lt (Blk.lt hB1)))) h32 (h4n.row 0 3 z) (Blk.lt hB1) h4h h7t)) ?_
  rintro _ w8e ⟨s37, rfl, h8f, h8g⟩
  have h38 := mmr (Blk.lt hB1)
  have h8h := (((((h16.ext h11).chg h10 (djs (mmr h16.lt))).chg h12 (atp h38)).chg s1h (atp h38)).ext h1k).chg h1l (djs (mm1 h16.lt (lt_ (lt_ (lt_ h11.size h10.size) h12.size) s1h.size)))
  refine E0 (fs (cur' := [(vI r4p.at_), (vI r4p.code)]) z_174 z z (h8h.ext s37) z (lb z) (oA z) z) ?_
  rintro _ w8i ⟨h8j, s8k⟩
  have h4q := s8k.one
  refine Wn ?_
  obtain rfl := som hm8d
  have h8l : Chg (· ∈ [g1]) w0 w17 := cext (cr [g1] w0) h13
  have h8m : Chg (· ∈ [g1]) w0 w19 := cext h8l h11
  have h8n : ∀ k ∈ [w17.heap.size], k ∈ [g1] ∨ w0.heap.size ≤ k := mor h13.size
  have h8o : Chg (· ∈ [g1]) w0 w1a := cM h8m h10 h8n
  have h8p : Chg (· ∈ [g1]) w0 w15 := cM h8o h12 (io sr)
  have h8q : Chg (· ∈ [g1]) w0 w2g := cM h8p s1h (io sr)
  have h8r : Chg (· ∈ [g1]) w0 w33 := cext h8q h1k
  have h8s : ∀ k ∈ [w2g.heap.size], k ∈ [g1] ∨ w0.heap.size ≤ k := mor h2m
  have h8t : Chg (· ∈ [g1]) w0 w4k := cM h8r h1l h8s
  have h8u : Chg (· ∈ [g1]) w0 w8e := cext h8t s37
  have h8v : ∀ k ∈ [w0.heap.size], k ∈ [g1] ∨ w0.heap.size ≤ k := mor lr
  have h8w : Chg (· ∈ [g1]) w0 w8i := cM h8u h4q h8v
  exact Wr (rtO (ret1 hr (resC g_174 z_174 z h8j z) ⟨h8w, z, h8f, h8g, h32, ((h4n.ext s37).chg h4q (djs h38))⟩))
 have hm4r := ifF hm4d hc30
 refine Ws (R z (eql z z) (Ra z (Wn (Wc z (fun hc39 => ?_) (fun hc39 => ?_)))))
 ·refine Ws (Rm z (R z (lN (vs := (vR x14 a1p n1q c1r a1s n1t c1u a1v n1w c1x a1d n1e c1f)) g_74 z_74 z z fid (h1g.row 0 8 z)) (Rm z ?_)))
  have h25 := mem1le (lt_ (lt_ hBw (Nat.le_of_lt (Blk.lt hB1))) h13.size)
  obtain ⟨r4s, r13e, e8x, hm8y⟩ := bd2S (ifT hm4r hc39)
  refine E z (fc call155 z (ih1.run (B := B) e8x h1b hBw (((h1c.ext h11).chg h10 (lg h25)).chg h12 (lg (mem1 hBw))) ((((p1_1.ext h13).ext h11).chg h10 (lg h25)).chg h12 (lg (mem1 hBw))) (iA _ _) h2c h2d h20 (((h21.ext h11).chg h10 (lg h25)).chg h12 (lg (mem1 hBw))) (((h2e.ext h11).chg h10 (lg h25)).chg h12 (lg (mem1 hBw))) (((h2f.ext h11).chg h10 (lg h25)).chg h12 (lg (mem1 hBw))) (((h1n.ext h11).chg h10 (lg h25)).chg h12 (lg (mem1 hBw))) p3_0)) ?_
  rintro _ w8z ⟨s4t, rfl, h90, h91, h92, h93⟩
  have h3a := mmr (Blk.lt hB1)
  refine E0 (fs (cur' := [(vI r4s.at_), (vI r4s.code)]) z_174 z z ((((h16.ext h11).chg h10 (djs (mmr h16.lt))).chg h12 (atp h3a)).chg s4t (atp h3a)) z (lb z) (oA z) z) ?_
  rintro _ w94 ⟨h95, s96⟩
  have h4u := s96.one
  refine Wn ?_
  obtain rfl := som hm8y
  have h97 : Chg (· ∈ [g1]) w0 w17 := cext (cr [g1] w0) h13
  have h98 : Chg (· ∈ [g1]) w0 w19 := cext h97 h11
  have h99 : ∀ k ∈ [w17.heap.size], k ∈ [g1] ∨ w0.heap.size ≤ k := mor h13.size
  have h9a : Chg (· ∈ [g1]) w0 w1a := cM h98 h10 h99
  have h9b : Chg (· ∈ [g1]) w0 w15 := cM h9a h12 (io sr)
  have h9c : Chg (· ∈ [g1]) w0 w8z := cM h9b s4t (io sr)
  have h9d : ∀ k ∈ [w0.heap.size], k ∈ [g1] ∨ w0.heap.size ≤ k := mor lr
  have h9e : Chg (· ∈ [g1]) w0 w94 := cM h9c h4u h9d
  exact Wr (rtO (ret1 hr (resC g_174 z_174 z h95 z) ⟨h9e, z, h90, h91, h92, (h93.chg h4u (djs h3a))⟩))
 have hm4v := ifF hm4r hc39
 refine Ws (R z (eql z z) (Ra z (Wn (Wc z (fun hc3b => ?_) (fun hc3b => ?_)))))
 ·refine Ws (Rm z (R z (bP (parts := [(0, (.tmp 88)), (1, (.const (.int .i64 0)))]) (cs := [(vI x3), (vI 0)]) build_174 z z) (E z (fa zero_174) ?_)))
  rintro _ w4w ⟨rfl, h4x⟩
  have h1y := h4x.below
  have h9f : Blk w4w w15.heap.size [(vI 0), (vI 0)] := h4x.blk
  refine E0 (fs (cur' := [(vI x3), (vI 0)]) z_174 z z h9f z (lb z) (oA z) z) ?_
  rintro _ w18 ⟨h9g, s9h⟩
  have h1z := s9h.one
  refine Wn (Wq (Ws (R z (fd f_74_7 z) (R z (l1 g_72 z fid (((h1g.ext h1y).chg h1z (djs (mm1 h3u.lt (lt_ h10.size h12.size)))).at z)) ?_))))
  have h3c := mem1le (lt_ (lt_ hBw (Nat.le_of_lt (Blk.lt hB1))) h13.size)
  have h2n := lt_ (lt_ (lt_ h13.size h11.size) h10.size) h12.size
  have h26 := mem1le (lt_ (lt_ hBw (Nat.le_of_lt (Blk.lt hB1))) h2n)
  have h4y := ((((h1n.ext h11).chg h10 (lg h3c)).chg h12 (lg (mem1 hBw))).ext h1y).chg h1z (lg h26)
  refine R z (lnR d_72 z h4y) (Rm z (Wn ?_))
  obtain ⟨u13f, hu9i, hm4z⟩ := bdS (ifT hm4v hc3b)
  refine WC_forN (σ := Int × Int × Int) (ρ := Spot × Int) (fun (k3d : Nat) s a w => un3 (fun x1o x1i x1j => Sat 145 [(0, (pt g1)), (6, (pt w0.heap.size)), (12, (pt w15.heap.size)), (91, (sl a1d n1e c1f)), (92, (vI (x14.kids.length : Int))), (93, (vI ((k3d : Nat) : Int)))] a ∧ Chg (· ∈ ([g1] ++ [w15.heap.size])) w18 w ∧ inI x1o ∧ inI x1i ∧ inI x1j ∧ Blk w g1 [(sl pa1_0 pn1_0 pc1_0), (sl pa1_1 pn1_1 pc1_1), (vI x1o)] ∧ Blk w w15.heap.size [(vI x1i), (vI x1j)]) s) (fun s a w => un3 (fun x1o x1i x1j => Sat 145 [(6, (pt w0.heap.size)), (12, (pt w15.heap.size))] a ∧ Chg (· ∈ ([g1] ++ [w15.heap.size])) w18 w ∧ inI x1o ∧ inI x1i ∧ inI x1j ∧ Blk w g1 [(sl pa1_0 pn1_0 pc1_0), (sl pa1_1 pn1_1 pc1_1), (vI x1o)] ∧ Blk w w15.heap.size [(vI x1i), (vI x1j)]) s) (fun r ex a w => ex = .ret ∧ RetPost prog fn (Q21 w0 g1 B pa1_0 pn1_0 pc1_0 pa1_1 pn1_1 pc1_1 x1 r) a w) hu9i ?_ ?_ ?_ ?_ ?_
  ·exact fun _ q => ⟨(q.k (s6 z z z z z z)), (cr ([g1] ++ [w15.heap.size]) w18), (iA _ _), p3_0, (ii z), ((h1b.ext h1y).chg h1z (djs (mm1 (Blk.lt hB1) h2n))), h9g⟩
  ·rintro k3d ⟨x1o, x1i, x1j⟩ a13g w50 o13h hk51 ⟨hS9j, s2h, h2i, h2j, h2o, h2k, h27⟩ hm9k
   have hm9l := un3S hm9k
   refine Wu (e := [(0, (pt g1)), (6, (pt w0.heap.size)), (12, (pt w15.heap.size)), (91, (sl a1d n1e c1f)), (92, (vI (x14.kids.length : Int))), (93, (vI ((k3d : Nat) : Int)))]) (N := 145) ?_ hS9j
   refine Ws (R z (lss z z) (Wn (Wq (Wc z (fun _ => ?_) (fun hc => (nolt hk51 hc).elim)))))
   refine Wk (Wq (WC_block (Ws ?_)))
   obtain ⟨x13i, e9m, hm9n⟩ := bdS hm9l
   refine RX z (at_ (α := Int) d_72 z_3 z z z (h4y.chg s2h (nmA (lg (mem1 hBw)) (lg h26))) e9m) ?_
   rintro _ ⟨b13j, o13k, cs13l, rfl, h9o, h9p, h13m⟩
   obtain ⟨rfl, h9q⟩ := Int_open h9p
   refine R z (l1 g_3 z fid (h9o.at0 z)) (Ra z (Wn (Ws (Rm z (Rm z (R z (fd f_174_0 z) (R z (l1 g_3 z fid (h27.at z)) ?_)))))))
   obtain ⟨r2p, r9r, e9s, hm52⟩ := bd2S hm9n
   refine E z (fc call134 z (ih0.run (B := B) e9s h2k hBw ((((((h1c.ext h11).chg h10 (lg h3c)).chg h12 (lg (mem1 hBw))).ext h1y).chg h1z (lg h26)).chg s2h (nmA (lg (mem1 hBw)) (lg h26))) (((((((p1_1.ext h13).ext h11).chg h10 (lg h3c)).chg h12 (lg (mem1 hBw))).ext h1y).chg h1z (lg h26)).chg s2h (nmA (lg (mem1 hBw)) (lg h26))) h2i h9q h2j)) ?_
   rintro _ w53 ⟨s3e, rfl, h54, h55, h56, h57⟩
   have h3f := mm1 (Blk.lt hB1) h2n
   refine E0 (fs (cur' := [(vI r2p.at_), (vI r2p.code)]) z_174 z z (h27.chg s3e (atp h3f)) z (lb z) (oA z) z) ?_
   rintro _ w58 ⟨h3g, s9t⟩
   have h2q := s9t.one
   refine Wn (Ws (R z (fd f_174_1 z) (R z (l1 g_3 z fid (h3g.at z)) (R z (nq z z) (Wn (Wc z (fun hc3h => ?_) (fun hc3h => ?_)))))))
   ·have h9u : Chg (· ∈ ([g1] ++ [w15.heap.size])) w18 w50 := cM (cr ([g1] ++ [w15.heap.size]) w18) s2h (all_app (io (sub_l sr)) (io (sub_r sr)))
    have h9v : Chg (· ∈ ([g1] ++ [w15.heap.size])) w18 w53 := cM h9u s3e (io (sub_l sr))
    have h9w : Chg (· ∈ ([g1] ++ [w15.heap.size])) w18 w58 := cM h9v h2q (io (sub_r sr))
    exact WC_exit (exO z (fun a' ha' => QO_brk (som (ifT hm52 hc3h)).symm ⟨(Sat.weaken ha' (s2 z z)), h9w, h56, h54, h55, (h57.chg h2q (djs h3f)), h3g⟩))
   refine Wk (Wg (R z (inc_ hk51 (lt_ (repS.len h1n) LEN_le) z z) (Rm z (Wl ?_))))
   have h9x : Chg (· ∈ ([g1] ++ [w15.heap.size])) w18 w50 := cM (cr ([g1] ++ [w15.heap.size]) w18) s2h (all_app (io (sub_l sr)) (io (sub_r sr)))
   have h9y : Chg (· ∈ ([g1] ++ [w15.heap.size])) w18 w53 := cM h9x s3e (io (sub_l sr))
   have h9z : Chg (· ∈ ([g1] ++ [w15.heap.size])) w18 w58 := cM h9y h2q (io (sub_r sr))
   exact fun _ q => ⟨(r9r, r2p.at_, r2p.code), (som (ifF hm52 hc3h)).symm, ⟨(q.k (s6 z z z z z z)), h9z, h56, h54, h55, (h57.chg h2q (djs h3f)), h3g⟩⟩
  ·rintro ⟨x1o, x1i, x1j⟩ a13n w100 ⟨hS101, s102, h2i, h2j, h2o, h2k, h27⟩
   refine Wu (e := [(0, (pt g1)), (6, (pt w0.heap.size)), (12, (pt w15.heap.size)), (91, (sl a1d n1e c1f)), (92, (vI (x14.kids.length : Int))), (93, (vI ((x14.kids.length : Nat) : Int)))]) (N := 145) ?_ hS101
   refine Ws (R z (lss z z) (Wn (Wq (Wc z (fun hc => (noltt hc).elim) (fun _ => ?_)))))
   have h103 : Chg (· ∈ ([g1] ++ [w15.heap.size])) w18 w100 := cM (cr ([g1] ++ [w15.heap.size]) w18) s102 (all_app (io (sub_l sr)) (io (sub_r sr)))
   exact WC_exit (fun a' ha' => ⟨rfl, ⟨(Sat.weaken ha' (s2 z z)), h103, h2i, h2j, h2o, h2k, h27⟩⟩)
  ·rintro ⟨x1o, x1i, x1j⟩ a104 w105 rfl ⟨hS13o, s59, h2i, h2j, h2o, h2k, h27⟩
   have hm106 := elL hm4z
   have hm107 := un3S hm106
   revert a104
   refine Wo (Ws (R z (lN (vs := [(vI x1i), (vI x1j)]) g_174 z_174 z z fid (h27.row 0 2 z)) ?_))
   have h3i := mmr (Blk.lt hB1)
   have h5a := mm1 h16.lt (lt_ (lt_ h11.size h10.size) h12.size)
   have h108 := (((((h16.ext h11).chg h10 (djs (mmr h16.lt))).chg h12 (atp h3i)).ext h1y).chg h1z (djs h5a)).chg s59 (atp (nmA h3i (dj_symm h5a)))
   refine E0 (fs (cur' := [(vI x1i), (vI x1j)]) z_174 z z h108 z (lb z) (oA z) z) ?_
   rintro _ w109 ⟨h10a, s10b⟩
   have h5b := s10b.one
   refine Wn ?_
   obtain rfl := som hm107
   have h10c : Chg (· ∈ [g1]) w0 w17 := cext (cr [g1] w0) h13
   have h10d : Chg (· ∈ [g1]) w0 w19 := cext h10c h11
   have h10e : ∀ k ∈ [w17.heap.size], k ∈ [g1] ∨ w0.heap.size ≤ k := mor h13.size
   have h10f : Chg (· ∈ [g1]) w0 w1a := cM h10d h10 h10e
   have h10g : Chg (· ∈ [g1]) w0 w15 := cM h10f h12 (io sr)
   have h10h : Chg (· ∈ [g1]) w0 w4w := cext h10g h1y
   have h5c : ∀ k ∈ [w15.heap.size], k ∈ [g1] ∨ w0.heap.size ≤ k := mor h2n
   have h10i : Chg (· ∈ [g1]) w0 w18 := cM h10h h1z h5c
   have h10j : Chg (· ∈ [g1]) w0 w105 := cM h10i s59 (all_app (io sr) h5c)
   have h10k : ∀ k ∈ [w0.heap.size], k ∈ [g1] ∨ w0.heap.size ≤ k := mor lr
   have h10l : Chg (· ∈ [g1]) w0 w109 := cM h10j h5b h10k
   exact Wr (rtO (ret1 hr (resC g_174 z_174 z h10a z) ⟨h10l, z, h2j, h2o, h2i, (h2k.chg h5b (djs h3i))⟩))
  rintro r13p ex13q a13r w13s rfl ⟨rfl, hq10m⟩
  have hm10n := elR hm4z
  obtain rfl := som hm10n
  exact ⟨hq10m, z⟩
 have hm5d := ifF hm4v hc3b
 refine Ws (R z (eql z z) (Ra z (Wn (Wc z (fun hc3j => ?_) (fun hc3j => ?_)))))
 ·refine Ws (Rm z (R z (lN (vs := (vR x14 a1p n1q c1r a1s n1t c1u a1v n1w c1x a1d n1e c1f)) g_74 z_74 z z fid (h1g.row 0 8 z)) (Rm z ?_)))
  have h28 := mem1le (lt_ (lt_ hBw (Nat.le_of_lt (Blk.lt hB1))) h13.size)
  obtain ⟨r5e, r13t, e10o, hm10p⟩ := bd2S (ifT hm5d hc3j)
  refine E z (fc call156 z (ih2.run (B := B) e10o h1b hBw (((h1c.ext h11).chg h10 (lg h28)).chg h12 (lg (mem1 hBw))) ((((p1_1.ext h13).ext h11).chg h10 (lg h28)).chg h12 (lg (mem1 hBw))) (iA _ _) h2c h2d h20 (((h21.ext h11).chg h10 (lg h28)).chg h12 (lg (mem1 hBw))) (((h2e.ext h11).chg h10 (lg h28)).chg h12 (lg (mem1 hBw))) (((h2f.ext h11).chg h10 (lg h28)).chg h12 (lg (mem1 hBw))) (((h1n.ext h11).chg h10 (lg h28)).chg h12 (lg (mem1 hBw))) p3_0)) ?_
  rintro _ w10q ⟨s5f, rfl, h10r, h10s, h10t, h10u⟩
  have h3k := mmr (Blk.lt hB1)
  refine E0 (fs (cur' := [(vI r5e.at_), (vI r5e.code)]) z_174 z z ((((h16.ext h11).chg h10 (djs (mmr h16.lt))).chg h12 (atp h3k)).chg s5f (atp h3k)) z (lb z) (oA z) z) ?_
  rintro _ w10v ⟨h10w, s10x⟩
  have h5g := s10x.one
  refine Wn ?_
  obtain rfl := som hm10p
  have h10y : Chg (· ∈ [g1]) w0 w17 := cext (cr [g1] w0) h13
  have h10z : Chg (· ∈ [g1]) w0 w19 := cext h10y h11
  have h110 : ∀ k ∈ [w17.heap.size], k ∈ [g1] ∨ w0.heap.size ≤ k := mor h13.size
  have h111 : Chg (· ∈ [g1]) w0 w1a := cM h10z h10 h110
  have h112 : Chg (· ∈ [g1]) w0 w15 := cM h111 h12 (io sr)
  have h113 : Chg (· ∈ [g1]) w0 w10q := cM h112 s5f (io sr)
  have h114 : ∀ k ∈ [w0.heap.size], k ∈ [g1] ∨ w0.heap.size ≤ k := mor lr
  have h115 : Chg (· ∈ [g1]) w0 w10v := cM h113 h5g h114
  exact Wr (rtO (ret1 hr (resC g_174 z_174 z h10w z) ⟨h115, z, h10r, h10s, h10t, (h10u.chg h5g (djs h3k))⟩))
 have hm5h := ifF hm5d hc3j
 refine Ws (R z (eql z z) (Ra z (Wn (Wc z (fun hc3l => ?_) (fun hc3l => ?_)))))
 ·refine Ws (Rm z (R z (lN (vs := (vR x14 a1p n1q c1r a1s n1t c1u a1v n1w c1x a1d n1e c1f)) g_74 z_74 z z fid (h1g.row 0 8 z)) (Rm z ?_)))
  have h29 := mem1le (lt_ (lt_ hBw (Nat.le_of_lt (Blk.lt hB1))) h13.size)
  obtain ⟨r5i, r13u, e116, hm117⟩ := bd2S (ifT hm5h hc3l)
  refine E z (fc call157 z (ih3.run (B := B) e116 h1b hBw (((h1c.ext h11).chg h10 (lg h29)).chg h12 (lg (mem1 hBw))) ((((p1_1.ext h13).ext h11).chg h10 (lg h29)).chg h12 (lg (mem1 hBw))) (iA _ _) h2c h2d h20 (((h21.ext h11).chg h10 (lg h29)).chg h12 (lg (mem1 hBw))) (((h2e.ext h11).chg h10 (lg h29)).chg h12 (lg (mem1 hBw))) (((h2f.ext h11).chg h10 (lg h29)).chg h12 (lg (mem1 hBw))) (((h1n.ext h11).chg h10 (lg h29)).chg h12 (lg (mem1 hBw))) p3_0)) ?_
  rintro _ w118 ⟨s5j, rfl, h119, h11a, h11b, h11c⟩
  have h3m := mmr (Blk.lt hB1)
  refine E0 (fs (cur' := [(vI r5i.at_), (vI r5i.code)]) z_174 z z ((((h16.ext h11).chg h10 (djs (mmr h16.lt))).chg h12 (atp h3m)).chg s5j (atp h3m)) z (lb z) (oA z) z) ?_
  rintro _ w11d ⟨h11e, s11f⟩
  have h5k := s11f.one
  refine Wn ?_
  obtain rfl := som hm117
  have h11g : Chg (· ∈ [g1]) w0 w17 := cext (cr [g1] w0) h13
  have h11h : Chg (· ∈ [g1]) w0 w19 := cext h11g h11
  have h11i : ∀ k ∈ [w17.heap.size], k ∈ [g1] ∨ w0.heap.size ≤ k := mor h13.size
  have h11j : Chg (· ∈ [g1]) w0 w1a := cM h11h h10 h11i
  have h11k : Chg (· ∈ [g1]) w0 w15 := cM h11j h12 (io sr)
  have h11l : Chg (· ∈ [g1]) w0 w118 := cM h11k s5j (io sr)
  have h11m : ∀ k ∈ [w0.heap.size], k ∈ [g1] ∨ w0.heap.size ≤ k := mor lr
  have h11n : Chg (· ∈ [g1]) w0 w11d := cM h11l h5k h11m
  exact Wr (rtO (ret1 hr (resC g_174 z_174 z h11e z) ⟨h11n, z, h119, h11a, h11b, (h11c.chg h5k (djs h3m))⟩))
 have hm5l := ifF hm5h hc3l
 refine Ws (R z (eql z z) (Ra z (Wn (Wc z (fun hc3n => ?_) (fun hc3n => ?_)))))
 ·refine Ws (Rm z (R z (lN (vs := (vR x14 a1p n1q c1r a1s n1t c1u a1v n1w c1x a1d n1e c1f)) g_74 z_74 z z fid (h1g.row 0 8 z)) (Rm z ?_)))
  have h2a := mem1le (lt_ (lt_ hBw (Nat.le_of_lt (Blk.lt hB1))) h13.size)
  obtain ⟨r5m, r13v, e11o, hm11p⟩ := bd2S (ifT hm5l hc3n)
  refine E z (fc call158 z (ih4.run (B := B) e11o h1b hBw (((h1c.ext h11).chg h10 (lg h2a)).chg h12 (lg (mem1 hBw))) ((((p1_1.ext h13).ext h11).chg h10 (lg h2a)).chg h12 (lg (mem1 hBw))) (iA _ _) h2c h2d h20 (((h21.ext h11).chg h10 (lg h2a)).chg h12 (lg (mem1 hBw))) (((h2e.ext h11).chg h10 (lg h2a)).chg h12 (lg (mem1 hBw))) (((h2f.ext h11).chg h10 (lg h2a)).chg h12 (lg (mem1 hBw))) (((h1n.ext h11).chg h10 (lg h2a)).chg h12 (lg (mem1 hBw))) p3_0)) ?_
  rintro _ w11q ⟨s5n, rfl, h11r, h11s, h11t, h11u⟩
  have h3o := mmr (Blk.lt hB1)
  refine E0 (fs (cur' := [(vI r5m.at_), (vI r5m.code)]) z_174 z z ((((h16.ext h11).chg h10 (djs (mmr h16.lt))).chg h12 (atp h3o)).chg s5n (atp h3o)) z (lb z) (oA z) z) ?_
  rintro _ w11v ⟨h11w, s11x⟩
  have h5o := s11x.one
  refine Wn ?_
  obtain rfl := som hm11p
  have h11y : Chg (· ∈ [g1]) w0 w17 := cext (cr [g1] w0) h13
  have h11z : Chg (· ∈ [g1]) w0 w19 := cext h11y h11
  have h120 : ∀ k ∈ [w17.heap.size], k ∈ [g1] ∨ w0.heap.size ≤ k := mor h13.size
  have h121 : Chg (· ∈ [g1]) w0 w1a := cM h11z h10 h120
  have h122 : Chg (· ∈ [g1]) w0 w15 := cM h121 h12 (io sr)
  have h123 : Chg (· ∈ [g1]) w0 w11q := cM h122 s5n (io sr)
  have h124 : ∀ k ∈ [w0.heap.size], k ∈ [g1] ∨ w0.heap.size ≤ k := mor lr
  have h125 : Chg (· ∈ [g1]) w0 w11v := cM h123 h5o h124
  exact Wr (rtO (ret1 hr (resC g_174 z_174 z h11w z) ⟨h125, z, h11r, h11s, h11t, (h11u.chg h5o (djs h3o))⟩))
 refine Wk (Wq (WC_draw (X := noX) 0 (.rd 0 (.rd 1 (.rd 2 (.rd 3 (.rd 4 (.rd 5 (.rd 6 (.rd 7 (.rd 8 (.ef 9 (.rd 10 (.rd 11 (.rd 12 (.rd 13 (.rd 14 (.rd 15 (.rd 16 .done))))))))))))))))) mo (by kernel_rfl) fun w5p s1m _ => dR z z (mv z) (dR z z (rd_nil z) (dR z z (fd f_172_1 z) ?_))))
 have h3p := h1b.ext s1m
 refine dR z z (l1 g_25 z fid (h3p.at z)) (dR z z (mv z) (dR z z (fd f_74_4 z) (dR z z (l1 g_25 z fid ((h1g.ext s1m).at z)) ?_)))
 obtain ⟨x13w, e126, hm127⟩ := bdS (ifF hm5l hc3n)
 have h5q := mem1le (lt_ (lt_ hBw (Nat.le_of_lt (Blk.lt hB1))) h13.size)
 refine dRX z z (at_ (α := UInt8) d_25 z_5 z z z ((((h21.ext h11).chg h10 (lg h5q)).chg h12 (lg (mem1 hBw))).ext s1m) e126) ?_
 rintro _ ⟨b13x, o13y, cs13z, rfl, h128, h129, h140⟩
 obtain rfl := UInt8_open h129
 refine dR z z (l1 g_5 z fid (h128.at0 z)) ?_
 obtain ⟨r141, r5r, r142, e12a, hm5s⟩ := bd3S hm127
 refine dE z z (fc call115 z (W_impl_ReadTerminated (B := B) e12a (lt_ (lt_ hBw (Nat.le_of_lt (Blk.lt hB1))) (lt_ (lt_ (lt_ (lt_ h13.size h11.size) h10.size) h12.size) s1m.size)) (((((p1_1.ext h13).ext h11).chg h10 (lg h5q)).chg h12 (lg (mem1 hBw))).ext s1m) p3_0)) (.inr fun _ _ h => chgB (h.1)) ?_
 rintro _ w5t ⟨s2b, a143, n144, c145, S146, rfl, h147, h12b, h148, h149⟩
 refine dR z z (mv z) ?_
 iterate 3 refine dR z z (ext_ z z) ?_
 iterate 3 refine dR z z (asg z) ?_
 refine PR_done (Wo (Wq (Ws (Rm z (R z (not_ z) (Wn (Wc z (fun hc3q => ?_) (fun hc3q => ?_))))))))
 ·refine Ws (Rm z (R z (bP (parts := [(0, (.tmp 141)), (1, (.const (.int .i64 1)))]) (cs := [(vI x3), (vI 1)]) build_174 z z) ?_))
  have h5u := mmr (Blk.lt hB1)
  refine E0 (fs (cur' := [(vI x3), (vI 1)]) z_174 z z (((((h16.ext h11).chg h10 (djs (mmr h16.lt))).chg h12 (atp h5u)).ext s1m).ext s2b) z (lb z) (oA z) z) ?_
  rintro _ w12c ⟨h12d, s12e⟩
  have h5v := s12e.one
  refine Wn ?_
  obtain rfl := som (ifT hm5s hc3q)
  have h12f : Chg (· ∈ [g1]) w0 w17 := cext (cr [g1] w0) h13
  have h12g : Chg (· ∈ [g1]) w0 w19 := cext h12f h11
  have h12h : ∀ k ∈ [w17.heap.size], k ∈ [g1] ∨ w0.heap.size ≤ k := mor h13.size
  have h12i : Chg (· ∈ [g1]) w0 w1a := cM h12g h10 h12h
  have h12j : Chg (· ∈ [g1]) w0 w15 := cM h12i h12 (io sr)
  have h12k : Chg (· ∈ [g1]) w0 w5p := cext h12j s1m
  have h12l : Chg (· ∈ [g1]) w0 w5t := cext h12k s2b
  have h12m : ∀ k ∈ [w0.heap.size], k ∈ [g1] ∨ w0.heap.size ≤ k := mor lr
  have h12n : Chg (· ∈ [g1]) w0 w12c := cM h12l h5v h12m
  exact Wr (ret1 hr (resC g_174 z_174 z h12d z) ⟨h12n, z, p3_0, (ii z), (iA _ _), ((h3p.ext s2b).chg h5v (djs h5u))⟩)
 refine Wk (Ws (Rm z (R z (bP (parts := [(0, (.tmp 143)), (1, (.const (.int .i64 0)))]) (cs := [(vI r5r), (vI 0)]) build_174 z z) ?_)))
 have h5w := mmr (Blk.lt hB1)
 refine E0 (fs (cur' := [(vI r5r), (vI 0)]) z_174 z z (((((h16.ext h11).chg h10 (djs (mmr h16.lt))).chg h12 (atp h5w)).ext s1m).ext s2b) z (lb z) (oA z) z) ?_
 rintro _ w12o ⟨h12p, s12q⟩
 have h5x := s12q.one
 refine Wn ?_
 obtain rfl := som (ifF hm5s hc3q)
 have h12r : Chg (· ∈ [g1]) w0 w17 := cext (cr [g1] w0) h13
 have h12s : Chg (· ∈ [g1]) w0 w19 := cext h12r h11
 have h12t : ∀ k ∈ [w17.heap.size], k ∈ [g1] ∨ w0.heap.size ≤ k := mor h13.size
 have h12u : Chg (· ∈ [g1]) w0 w1a := cM h12s h10 h12t
 have h12v : Chg (· ∈ [g1]) w0 w15 := cM h12u h12 (io sr)
 have h12w : Chg (· ∈ [g1]) w0 w5p := cext h12v s1m
 have h12x : Chg (· ∈ [g1]) w0 w5t := cext h12w s2b
 have h12y : ∀ k ∈ [w0.heap.size], k ∈ [g1] ∨ w0.heap.size ≤ k := mor lr
 have h12z : Chg (· ∈ [g1]) w0 w12o := cM h12x h5x h12y
 exact Wr (ret1 hr (resC g_174 z_174 z h12p z) ⟨h12z, z, h12b, (ii z), (iA _ _), ((h3p.ext s2b).chg h5x (djs h5w))⟩)
theorem T_impl_checker_array (ih : I_impl_checker_value n) : S_impl_checker_array (B_impl_checker_array n (F_impl_checker_value n)) := by
 obtain ⟨ih0, ih1, ih2, ih3, ih4⟩ := ih
 constructor
 intro B pn1_0 pc1_0 pn1_1 pc1_1 g1 pn2_4 pc2_4 pn2_5 pc2_5 pn2_6 pc2_6 pn2_7 pc2_7 pa1_0 pa1_1 pa2_4 pa2_5 pa2_6 pa2_7 x1 x2 x3 res w0 hm hB1 hBw p1_0 p1_1 p1_2 p2_0 p2_1 p2_2 p2_4 p2_5 p2_6 p2_7 p3_0
 unfold B_impl_checker_array at hm
 refine goF func155 z z (lb z) fun fn hr => Ws (E z (fb z) ?_)
 rintro _ w15 ⟨rfl, h20⟩
 have h12 := h20.below
 have h21 : Blk w15 w0.heap.size (vR x2 pa2_4 pn2_4 pc2_4 pa2_5 pn2_5 pc2_5 pa2_6 pn2_6 pc2_6 pa2_7 pn2_7 pc2_7) := h20.blk
 refine E z (fa zero_174) ?_
 rintro _ w1r ⟨rfl, h22⟩
 have h14 := h22.below
 have h1m : Blk w1r w15.heap.size [(vI 0), (vI 0)] := h22.blk
 refine Wn (Ws (Rm z (R z (fd f_74_7 z) ?_)))
 have h23 := h21.ext h14
 refine R z (l1 g_72 z fid (h23.at z)) ?_
 obtain ⟨x50, e2x, hm2y⟩ := bdS hm
 have h24 := (p2_7.ext h12).ext h14
 refine RX z (at_ (α := Int) d_72 z_3 z z z h24 e2x) ?_
 rintro _ ⟨b51, o52, cs53, rfl, h2z, h30, h54⟩
 obtain ⟨rfl, h31⟩ := Int_open h30
 refine R z (l1 g_3 z fid (h2z.at0 z)) (Rm z ?_)
 have h25 := (p1_0.ext h12).ext h14
 have h26 := (p1_1.ext h12).ext h14
 obtain ⟨r27, r1s, r55, e32, hm33⟩ := bd3S hm2y
 refine E z (fc call152 z (W_impl_checker_number (B := B) e32 ((hB1.ext h12).ext h14) hBw h25 h26 p1_2 h31 p3_0)) ?_
 rintro _ w10 ⟨s11, rfl, h34, h35, h36, h28, h29⟩
 refine Rm z (R z (ext_ z z) (R z (ext_ z z) (E z (fa zero_174) ?_)))
 rintro _ w1t ⟨rfl, h2a⟩
 have h17 := h2a.below
 have h37 : Blk w1t w10.heap.size [(vI 0), (vI 0)] := h2a.blk
 refine Ra z (E0 (fs (cur' := [(vI r1s.at_), (vI r1s.code)]) z_174 z z h37 z (lb z) (oA z) z) ?_)
 rintro _ w1h ⟨h2b, s38⟩
 have h18 := s38.one
 refine Wn (Wq (Wq ?_))
 obtain ⟨u39, hu2c, hm2d⟩ := bdS hm33
 refine WC_cut (fun a w => ∃ (x1u : Bool), x1u = u39 ∧ Sat 46 [(0, (pt g1)), (2, (vI x3)), (4, (pt w0.heap.size)), (6, (pt w15.heap.size)), (7, (vI r27)), (8, (pt w10.heap.size)), (25, (vB x1u))] a ∧ Below w1h.heap.size w1h w) ?_ ?_
 ·refine Wg (R z (fd f_174_1 z) (R z (l1 g_3 z fid (h2b.at z)) (R z (eql z z) (Rm z ?_))))
  rcases bs (r1s.code == 0) with hc1c | hc1c
  ·exact Rh z hc1c (mv z) (Rh z hc1c (rd_gtr z z) (R z (pT z hc1c z) (Wl (fun _ q => ⟨decide (40 < r27), som (ifT hu2c hc1c), (q.k (s7 z z z z z z z)), (br w1h)⟩))))
  exact Nh z hc1c (Nh z hc1c (R z (pF z hc1c z) (Wl (fun _ q => ⟨false, som (ifF hu2c hc1c), (q.k (s7 z z z z z z z)), (br w1h)⟩))))
 rintro a3a w13 ⟨x1u, rfl, hS56, s16⟩
 revert a3a
 refine Wo (Wc z (fun hc1v => ?_) (fun hc1v => ?_))
 ·refine Ws (Rm z (R z (bP (parts := [(0, (.tmp 26)), (1, (.const (.int .i64 6)))]) (cs := [(vI x3), (vI 6)]) build_174 z z) ?_))
  have h2e := mm1 (Blk.lt hB1) h12.size
  refine E0 (fs (cur' := [(vI x3), (vI 6)]) z_174 z z ((((h1m.chg s11 (atp h2e)).ext h17).chg h18 (djs (mm1 h1m.lt s11.size))).ext s16) z (lb z) (oA z) z) ?_
  rintro _ w3b ⟨h3c, s3d⟩
  have h2f := s3d.one
  refine Wn ?_
  obtain rfl := som (ifT hm2d hc1v)
  have h3e : Chg (· ∈ [g1]) w0 w15 := cext (cr [g1] w0) h12
  have h3f : Chg (· ∈ [g1]) w0 w1r := cext h3e h14
  have h3g : Chg (· ∈ [g1]) w0 w10 := cM h3f s11 (io sr)
  have h3h : Chg (· ∈ [g1]) w0 w1t := cext h3g h17
  have h2g := lt_ (lt_ h12.size h14.size) s11.size
  have h3i : ∀ k ∈ [w10.heap.size], k ∈ [g1] ∨ w0.heap.size ≤ k := mor h2g
  have h3j : Chg (· ∈ [g1]) w0 w1h := cM h3h h18 h3i
  have h3k : Chg (· ∈ [g1]) w0 w13 := cext h3j s16
  have h3l : ∀ k ∈ [w15.heap.size], k ∈ [g1] ∨ w0.heap.size ≤ k := mor h12.size
  have h3m : Chg (· ∈ [g1]) w0 w3b := cM h3k h2f h3l
  exact Wr (ret1 hr (resC g_174 z_174 z h3c z) ⟨h3m, z, p3_0, (ii z), h28, ((((h29.ext h17).chg h18 (djs (mm1 (Blk.lt hB1) h2g))).ext s16).chg h2f (djs h2e))⟩)
 refine Wk (Wq ?_)
 obtain ⟨u57, hu3n, hm2h⟩ := bdS (ifF hm2d hc1v)
 refine WC_iter (σ := Int × Int × Int × Int) (ρ := Spot × Int) (fun s a w => un4 (fun x19 x1f x1d x1a => Sat 46 [(0, (pt g1)), (4, (pt w0.heap.size)), (6, (pt w15.heap.size)), (7, (vI x19)), (8, (pt w10.heap.size))] a ∧ Chg (· ∈ ([g1] ++ [w10.heap.size])) w13 w ∧ inI x19 ∧ inI x1f ∧ inI x1d ∧ inI x1a ∧ Blk w g1 [(sl pa1_0 pn1_0 pc1_0), (sl pa1_1 pn1_1 pc1_1), (vI x1f)] ∧ Blk w w10.heap.size [(vI x1d), (vI x1a)]) s) (fun s a w => un4 (fun x19 x1f x1d x1a => Sat 46 [(6, (pt w15.heap.size)), (8, (pt w10.heap.size))] a ∧ Chg (· ∈ ([g1] ++ [w10.heap.size])) w13 w ∧ inI x19 ∧ inI x1f ∧ inI x1d ∧ inI x1a ∧ Blk w g1 [(sl pa1_0 pn1_0 pc1_0), (sl pa1_1 pn1_1 pc1_1), (vI x1f)] ∧ Blk w w10.heap.size [(vI x1d), (vI x1a)]) s) (fun r ex a w => ex = .ret ∧ RetPost prog fn (Q21 w0 g1 B pa1_0 pn1_0 pc1_0 pa1_1 pn1_1 pc1_1 x1 r) a w) hu3n ?_ ?_ ?_ ?_
 ·exact fun _ q => ⟨(q.k (s5 z z z z z)), (cr ([g1] ++ [w10.heap.size]) w13), h34, h28, h35, h36, (((h29.ext h17).chg h18 (djs (mm1 (Blk.lt hB1) (lt_ (lt_ h12.size h14.size) s11.size)))).ext s16), (h2b.ext s16)⟩
 ·rintro ⟨x19, x1f, x1d, x1a⟩ a58 w1i o59 ⟨hS3o, s1j, h2i, h1n, h1o, h1w, h1p, h1l⟩ hm3p
  have hm3q := un4S hm3p
  refine Wu (e := [(0, (pt g1)), (4, (pt w0.heap.size)), (6, (pt w15.heap.size)), (7, (vI x19)), (8, (pt w10.heap.size))]) (N := 46) ?_ hS3o
  refine Wq (Wq ?_)
  obtain ⟨u3r, hu2j, hm2k⟩ := bdS hm3q
  refine WC_cut (fun a w => ∃ (x1x : Bool), x1x = u3r ∧ Sat 46 [(0, (pt g1)), (4, (pt w0.heap.size)), (6, (pt w15.heap.size)), (7, (vI x19)), (8, (pt w10.heap.size)), (34, (vB x1x))] a ∧ Below w1i.heap.size w1i w) ?_ ?_
  ·refine Wg (Rm z (R z (rd_gtr z z) (Rm z ?_)))
   rcases bs (decide (0 < x19)) with hc1e | hc1e
   ·exact Rh z hc1e (fd f_174_1 z) (Rh z hc1e (l1 g_3 z fid (h1l.at z)) (Rh z hc1e (eql z z) (R z (pT z hc1e z) (Wl (fun _ q => ⟨x1a == 0, som (ifT hu2j hc1e), (q.k (s6 z z z z z z)), (br w1i)⟩)))))
   iterate 3 refine Nh z hc1e ?_
   exact R z (pF z hc1e z) (Wl (fun _ q => ⟨false, som (ifF hu2j hc1e), (q.k (s6 z z z z z z)), (br w1i)⟩))
  rintro a3s w2l ⟨x1x, rfl, hS5a, s1b⟩
  revert a3s
  refine Wo (Wc z (fun hc1y => ?_) (fun hc1y => ?_))
  ·refine Wk (Wq (WC_block (WC_draw (X := noX) 384 (.rd 0 (.rd 1 (.rd 2 (.rd 3 (.rd 4 (.rd 5 (.rd 6 (.ef 7 (.ef 8 .done))))))))) mo (by kernel_rfl) fun w3t s1g _ => dR z z (mv z) (dR z z (fd f_74_7 z) ?_))))
   have h2m := mmr (Blk.lt hB1)
   have h2n := mm1 h21.lt (lt_ h14.size s11.size)
   have h3u := (((((h23.chg s11 (atp h2m)).ext h17).chg h18 (djs h2n)).ext s16).chg s1j (atp (nmA h2m (dj_symm h2n)))).ext s1b
   refine dR z z (l1 g_72 z fid ((h3u.ext s1g).at z)) ?_
   obtain ⟨x5b, e3v, hm3w⟩ := bdS (ifT hm2k hc1y)
   have h2o := lt_ (lt_ h12.size h14.size) s11.size
   have h1k := mem1le (lt_ (lt_ hBw (Nat.le_of_lt (Blk.lt hB1))) h2o)
   refine dRX z z (at_ (α := Int) d_72 z_3 z z z (((((((h24.chg s11 (lg (mem1 hBw))).ext h17).chg h18 (lg h1k)).ext s16).chg s1j (nmA (lg (mem1 hBw)) (lg h1k))).ext s1b).ext s1g) e3v) ?_
   rintro _ ⟨b5c, o5d, cs5e, rfl, h3x, h3y, h5f⟩
   obtain ⟨rfl, h3z⟩ := Int_open h3y
   refine dR z z (l1 g_3 z fid (h3x.at0 z)) (dR z z (fd f_174_0 z) ?_)
   have h2p := (h1l.ext s1b).ext s1g
   refine dR z z (l1 g_3 z fid (h2p.at z)) ?_
   obtain ⟨r1q, r40, e41, hm42⟩ := bd2S hm3w
   refine dE z z (fc call134 z (ih0.run (B := B) e41 ((h1p.ext s1b).ext s1g) hBw (((((((h25.chg s11 (lg (mem1 hBw))).ext h17).chg h18 (lg h1k)).ext s16).chg s1j (nmA (lg (mem1 hBw)) (lg h1k))).ext s1b).ext s1g) (((((((h26.chg s11 (lg (mem1 hBw))).ext h17).chg h18 (lg h1k)).ext s16).chg s1j (nmA (lg (mem1 hBw)) (lg h1k))).ext s1b).ext s1g) h1n h3z h1o)) (.inl z) ?_
   rintro _ w43 ⟨s2q, rfl, h44, h45, h46, h47⟩
   have h2r := mm1 (Blk.lt hB1) h2o
   refine dE0 z (fs (cur' := [(vI r1q.at_), (vI r1q.code)]) z_174 z z (h2p.chg s2q (atp h2r)) z (lb z) (oA z) z) (.inl z) ?_
   rintro _ w48 ⟨h49, s4a⟩
   have h2s := s4a.one
   refine PR_done (Wo (Wg (Rm z (R z (sb_ z z) (Ra z (Wl ?_))))))
   have h4b : Chg (· ∈ ([g1] ++ [w10.heap.size])) w13 w1i := cM (cr ([g1] ++ [w10.heap.size]) w13) s1j (all_app (io (sub_l sr)) (io (sub_r sr)))
   have h4c : Chg (· ∈ ([g1] ++ [w10.heap.size])) w13 w2l := cext h4b s1b
   have h4d : Chg (· ∈ ([g1] ++ [w10.heap.size])) w13 w3t := cext h4c s1g
   have h4e : Chg (· ∈ ([g1] ++ [w10.heap.size])) w13 w43 := cM h4d s2q (io (sub_l sr))
   have h4f : Chg (· ∈ ([g1] ++ [w10.heap.size])) w13 w48 := cM h4e h2s (io (sub_r sr))
   exact fun _ q => ⟨(isub x19 1, r40, r1q.at_, r1q.code), (som hm42).symm, ⟨(q.k (s5 z z z z z)), h4f, (iS _ _), h46, h44, h45, (h47.chg h2s (djs h2r)), h49⟩⟩
  have h4g : Chg (· ∈ ([g1] ++ [w10.heap.size])) w13 w1i := cM (cr ([g1] ++ [w10.heap.size]) w13) s1j (all_app (io (sub_l sr)) (io (sub_r sr)))
  have h4h : Chg (· ∈ ([g1] ++ [w10.heap.size])) w13 w2l := cext h4g s1b
  exact WC_exit (fun a' ha' => QO_brk (som (ifF hm2k hc1y)).symm ⟨(Sat.weaken ha' (s2 z z)), h4h, h2i, h1n, h1o, h1w, (h1p.ext s1b), (h1l.ext s1b)⟩)
 ·rintro ⟨x19, x1f, x1d, x1a⟩ a4i w4j rfl ⟨hS5g, s2t, h2i, h1n, h1o, h1w, h1p, h1l⟩
  have hm4k := elL hm2h
  have hm4l := un4S hm4k
  revert a4i
  refine Wo (Ws (R z (lN (vs := [(vI x1d), (vI x1a)]) g_174 z_174 z z fid (h1l.row 0 2 z)) ?_))
  have h1z := mm1 (Blk.lt hB1) h12.size
  have h2u := mm1 h1m.lt s11.size
  refine E0 (fs (cur' := [(vI x1d), (vI x1a)]) z_174 z z (((((h1m.chg s11 (atp h1z)).ext h17).chg h18 (djs h2u)).ext s16).chg s2t (atp (nmA h1z (dj_symm h2u)))) z (lb z) (oA z) z) ?_
  rintro _ w4m ⟨h4n, s4o⟩
  have h2v := s4o.one
  refine Wn ?_
  obtain rfl := som hm4l
  have h4p : Chg (· ∈ [g1]) w0 w15 := cext (cr [g1] w0) h12
  have h4q : Chg (· ∈ [g1]) w0 w1r := cext h4p h14
  have h4r : Chg (· ∈ [g1]) w0 w10 := cM h4q s11 (io sr)
  have h4s : Chg (· ∈ [g1]) w0 w1t := cext h4r h17
  have h2w : ∀ k ∈ [w10.heap.size], k ∈ [g1] ∨ w0.heap.size ≤ k := mor (lt_ (lt_ h12.size h14.size) s11.size)
  have h4t : Chg (· ∈ [g1]) w0 w1h := cM h4s h18 h2w
  have h4u : Chg (· ∈ [g1]) w0 w13 := cext h4t s16
  have h4v : Chg (· ∈ [g1]) w0 w4j := cM h4u s2t (all_app (io sr) h2w)
  have h4w : ∀ k ∈ [w15.heap.size], k ∈ [g1] ∨ w0.heap.size ≤ k := mor h12.size
  have h4x : Chg (· ∈ [g1]) w0 w4m := cM h4v h2v h4w
  exact Wr (ret1 hr (resC g_174 z_174 z h4n z) ⟨h4x, z, h1o, h1w, h1n, (h1p.chg h2v (djs h1z))⟩)
 rintro r5h ex5i a5j w5k rfl ⟨rfl, hq4y⟩
 have hm4z := elR hm2h
 obtain rfl := som hm4z
 exact ⟨hq4y, z⟩
theorem T_impl_checker_choice (ih : I_impl_checker_value n) : S_impl_checker_choice (B_impl_checker_choice n (F_impl_checker_value n)) := by
 obtain ⟨ih0, ih1, ih2, ih3, ih4⟩ := ih
 constructor
 intro B pn1_0 pc1_0 pn1_1 pc1_1 g1 pn2_4 pc2_4 pn2_5 pc2_5 pn2_6 pc2_6 pn2_7 pc2_7 pa1_0 pa1_1 pa2_4 pa2_5 pa2_6 pa2_7 x1 x2 x3 res w0 hm hB1 hBw p1_0 p1_1 p1_2 p2_0 p2_1 p2_2 p2_4 p2_5 p2_6 p2_7 p3_0
 unfold B_impl_checker_choice at hm
 refine goF func156 z z (lb z) fun fn hr => Ws (E z (fb z) ?_)
 rintro _ w14 ⟨rfl, h1q⟩
 have h11 := h1q.below
 have h1r : Blk w14 w0.heap.size (vR x2 pa2_4 pn2_4 pc2_4 pa2_5 pn2_5 pc2_5 pa2_6 pn2_6 pc2_6 pa2_7 pn2_7 pc2_7) := h1q.blk
 refine E z (fa zero_174) ?_
 rintro _ w1d ⟨rfl, h1s⟩
 have h15 := h1s.below
 have h1a : Blk w1d w14.heap.size [(vI 0), (vI 0)] := h1s.blk
 refine Wn (Ws (Rm z (R z (fd f_74_7 z) ?_)))
 have h1t := h1r.ext h15
 refine R z (l1 g_72 z fid (h1t.at z)) ?_
 obtain ⟨x4d, e2c, hm2d⟩ := bdS hm
 have h1u := (p2_7.ext h11).ext h15
 refine RX z (at_ (α := Int) d_72 z_3 z z z h1u e2c) ?_
 rintro _ ⟨b4e, o4f, cs4g, rfl, h2e, h2f, h4h⟩
 obtain ⟨rfl, h2g⟩ := Int_open h2f
 refine R z (l1 g_3 z fid (h2e.at0 z)) (Rm z ?_)
 have h1v := (p1_0.ext h11).ext h15
 have h1w := (p1_1.ext h11).ext h15
 obtain ⟨r1g, r1b, r4i, e2h, hm1x⟩ := bd3S hm2d
 refine E z (fc call152 z (W_impl_checker_number (B := B) e2h ((hB1.ext h11).ext h15) hBw h1v h1w p1_2 h2g p3_0)) ?_
 rintro _ w16 ⟨s10, rfl, h4j, h1y, h2i, h1h, h1i⟩
 refine Rm z (R z (ext_ z z) (R z (ext_ z z) (E z (fa zero_174) ?_)))
 rintro _ w1e ⟨rfl, h1z⟩
 have h12 := h1z.below
 have h2j : Blk w1e w16.heap.size [(vI 0), (vI 0)] := h1z.blk
 refine Ra z (E0 (fs (cur' := [(vI r1b.at_), (vI r1b.code)]) z_174 z z h2j z (lb z) (oA z) z) ?_)
 rintro _ w18 ⟨h1j, s2k⟩
 have h13 := s2k.one
 refine Wn (Wq (Ws (R z (fd f_174_1 z) (R z (l1 g_3 z fid (h1j.at z)) (R z (nq z z) (Wn (Wc z (fun hc1k => ?_) (fun hc1k => ?_))))))))
 ·refine Ws (R z (lN (vs := [(vI r1b.at_), (vI r1b.code)]) g_174 z_174 z z fid (h1j.row 0 2 z)) ?_)
  have h20 := mm1 (Blk.lt hB1) h11.size
  refine E0 (fs (cur' := [(vI r1b.at_), (vI r1b.code)]) z_174 z z (((h1a.chg s10 (atp h20)).ext h12).chg h13 (djs (mm1 h1a.lt s10.size))) z (lb z) (oA z) z) ?_
  rintro _ w2l ⟨h2m, s2n⟩
  have h21 := s2n.one
  refine Wn ?_
  obtain rfl := som (ifT hm1x hc1k)
  have h2o : Chg (· ∈ [g1]) w0 w14 := cext (cr [g1] w0) h11
  have h2p : Chg (· ∈ [g1]) w0 w1d := cext h2o h15
  have h2q : Chg (· ∈ [g1]) w0 w16 := cM h2p s10 (io sr)
  have h2r : Chg (· ∈ [g1]) w0 w1e := cext h2q h12
  have h22 := lt_ (lt_ h11.size h15.size) s10.size
  have h2s : ∀ k ∈ [w16.heap.size], k ∈ [g1] ∨ w0.heap.size ≤ k := mor h22
  have h2t : Chg (· ∈ [g1]) w0 w18 := cM h2r h13 h2s
  have h2u : ∀ k ∈ [w14.heap.size], k ∈ [g1] ∨ w0.heap.size ≤ k := mor h11.size
  have h2v : Chg (· ∈ [g1]) w0 w2l := cM h2t h21 h2u
  exact Wr (ret1 hr (resC g_174 z_174 z h2m z) ⟨h2v, z, h1y, h2i, h1h, (((h1i.ext h12).chg h13 (djs (mm1 (Blk.lt hB1) h22))).chg h21 (djs h20))⟩)
 refine Wk (Wq (Ws (R z (fd f_74_6 z) ?_)))
 have h23 := ((h1t.chg s10 (atp (mmr (Blk.lt hB1)))).ext h12).chg h13 (djs (mm1 h1r.lt (lt_ h15.size s10.size)))
 refine R z (l1 g_72 z fid (h23.at z)) ?_
 have h1c := lt_ (lt_ h11.size h15.size) s10.size
 have h1f := mem1le (lt_ (lt_ hBw (Nat.le_of_lt (Blk.lt hB1))) h1c)
 have h24 := ((((p2_6.ext h11).ext h15).chg s10 (lg (mem1 hBw))).ext h12).chg h13 (lg h1f)
 refine R z (lnR d_72 z h24) (Rm z (Wn ?_))
 obtain ⟨u4k, hu2w, hm25⟩ := bdS (ifF hm1x hc1k)
 refine WC_forN (σ := Unit) (ρ := Spot × Int) (fun (k1l : Nat) (_ : Unit) a w => Sat 49 [(0, (pt g1)), (2, (vI x3)), (4, (pt w0.heap.size)), (6, (pt w14.heap.size)), (7, (vI r1g)), (8, (pt w16.heap.size)), (26, (sl pa2_6 pn2_6 pc2_6)), (27, (vI (x2.tags.length : Int))), (28, (vI ((k1l : Nat) : Int)))] a ∧ Below w18.heap.size w18 w) (fun (_ : Unit) a w => Sat 49 [(2, (vI x3)), (6, (pt w14.heap.size))] a ∧ Below w18.heap.size w18 w) (fun r ex a w => ex = .ret ∧ RetPost prog fn (Q21 w0 g1 B pa1_0 pn1_0 pc1_0 pa1_1 pn1_1 pc1_1 x1 r) a w) hu2w ?_ ?_ ?_ ?_ ?_
 ·exact fun _ q => ⟨(q.k (s9 z z z z z z z z z)), (br w18)⟩
 ·rintro k1l _ a4l w2x o4m hk1m ⟨hS2y, s17⟩ hm2z
  refine Wu (e := [(0, (pt g1)), (2, (vI x3)), (4, (pt w0.heap.size)), (6, (pt w14.heap.size)), (7, (vI r1g)), (8, (pt w16.heap.size)), (26, (sl pa2_6 pn2_6 pc2_6)), (27, (vI (x2.tags.length : Int))), (28, (vI ((k1l : Nat) : Int)))]) (N := 49) ?_ hS2y
  refine Ws (R z (lss z z) (Wn (Wq (Wc z (fun _ => ?_) (fun hc => (nolt hk1m hc).elim)))))
  refine Wk (Wq (WC_block (Ws (Rm z ?_))))
  obtain ⟨x4n, e30, hm26⟩ := bdS hm2z
  refine RX z (at_ (α := Int) d_72 z_3 z z z (h24.ext s17) e30) ?_
  rintro _ ⟨b4o, o4p, cs4q, rfl, h31, h32, h4r⟩
  obtain ⟨rfl, h4s⟩ := Int_open h32
  refine R z (l1 g_3 z fid (h31.at0 z)) (Ra z (Ra z (Wn (Ws (Rm z (Rm z (R z (eql z z) (Wn (Wc z (fun hc1n => ?_) (fun hc1n => ?_))))))))))
  ·refine Wq (WC_draw (X := noX) 1536 (.rd 0 (.rd 1 (.rd 2 (.rd 3 (.rd 4 (.rd 5 (.rd 6 (.rd 7 (.rd 8 (.ef 9 (.ef 10 .done))))))))))) mo (by kernel_rfl) fun w33 s19 _ => dR z z (mv z) (dR z z (fd f_74_7 z) (dR z z (l1 g_72 z fid (((h23.ext s17).ext s19).at z)) (dR z z (mv z) (dR z z (inc_ hk1m (lt_ (repS.len p2_6) LEN_le) z z) ?_)))))
   obtain ⟨x4t, e34, hm35⟩ := bdS (ifT hm26 hc1n)
   refine dRX z z (at_ (α := Int) d_72 z_3 z z z (((((h1u.chg s10 (lg (mem1 hBw))).ext h12).chg h13 (lg h1f)).ext s17).ext s19) e34) ?_
   rintro _ ⟨b4u, o4v, cs4w, rfl, h36, h37, h4x⟩
   obtain ⟨rfl, h38⟩ := Int_open h37
   refine dR z z (l1 g_3 z fid (h36.at0 z)) (dR z z (fd f_174_0 z) (dR z z (l1 g_3 z fid (((h1j.ext s17).ext s19).at z)) ?_))
   obtain ⟨r27, r4y, e39, hm3a⟩ := bd2S hm35
   refine dE z z (fc call134 z (ih0.run (B := B) e39 ((((h1i.ext h12).chg h13 (djs (mm1 (Blk.lt hB1) h1c))).ext s17).ext s19) hBw (((((h1v.chg s10 (lg (mem1 hBw))).ext h12).chg h13 (lg h1f)).ext s17).ext s19) (((((h1w.chg s10 (lg (mem1 hBw))).ext h12).chg h13 (lg h1f)).ext s17).ext s19) h1h h38 h1y)) (.inl z) ?_
   rintro _ w3b ⟨s28, rfl, h3c, h3d, h3e, h3f⟩
   have h1o := mm1 (Blk.lt hB1) h11.size
   refine dE0 z (fs (cur' := [(vI r27.at_), (vI r27.code)]) z_174 z z ((((((h1a.chg s10 (atp h1o)).ext h12).chg h13 (djs (mm1 h1a.lt s10.size))).ext s17).ext s19).chg s28 (atp h1o)) z (lb z) (oA z) z) (.inl z) ?_
   rintro _ w3g ⟨h3h, s3i⟩
   have h29 := s3i.one
   refine PR_done (Wo ?_)
   have h3j : Chg (· ∈ [g1]) w0 w14 := cext (cr [g1] w0) h11
   have h3k : Chg (· ∈ [g1]) w0 w1d := cext h3j h15
   have h3l : Chg (· ∈ [g1]) w0 w16 := cM h3k s10 (io sr)
   have h3m : Chg (· ∈ [g1]) w0 w1e := cext h3l h12
   have h3n : ∀ k ∈ [w16.heap.size], k ∈ [g1] ∨ w0.heap.size ≤ k := mor h1c
   have h3o : Chg (· ∈ [g1]) w0 w18 := cM h3m h13 h3n
   have h3p : Chg (· ∈ [g1]) w0 w2x := cext h3o s17
   have h3q : Chg (· ∈ [g1]) w0 w33 := cext h3p s19
   have h3r : Chg (· ∈ [g1]) w0 w3b := cM h3q s28 (io sr)
   have h3s : ∀ k ∈ [w14.heap.size], k ∈ [g1] ∨ w0.heap.size ≤ k := mor h11.size
   have h3t : Chg (· ∈ [g1]) w0 w3g := cM h3r h29 h3s
   exact Wr (rtO (QO_retL (som hm3a).symm (ret1 hr (resC g_174 z_174 z h3h z) ⟨h3t, z, h3c, h3d, h3e, (h3f.chg h29 (djs h1o))⟩)))
  exact Wk (Wg (R z (inc_ hk1m (lt_ (repS.len p2_6) LEN_le) z z) (Rm z (Wl (fun _ q => ⟨(), (som (ifF hm26 hc1n)).symm, ⟨(q.k (s9 z z z z z z z z z)), s17⟩⟩)))))
 ·rintro _ a4z w50 ⟨hS3u, s3v⟩
  refine Wu (e := [(0, (pt g1)), (2, (vI x3)), (4, (pt w0.heap.size)), (6, (pt w14.heap.size)), (7, (vI r1g)), (8, (pt w16.heap.size)), (26, (sl pa2_6 pn2_6 pc2_6)), (27, (vI (x2.tags.length : Int))), (28, (vI ((x2.tags.length : Nat) : Int)))]) (N := 49) ?_ hS3u
  refine Ws (R z (lss z z) (Wn (Wq (Wc z (fun hc => (noltt hc).elim) (fun _ => ?_)))))
  exact WC_exit (fun a' ha' => ⟨rfl, ⟨(Sat.weaken ha' (s2 z z)), s3v⟩⟩)
 ·rintro _ a3w w3x rfl ⟨hS51, s1p⟩
  have hm3y := elL hm25
  revert a3w
  refine Wo (Ws (Rm z (R z (bP (parts := [(0, (.tmp 47)), (1, (.const (.int .i64 3)))]) (cs := [(vI x3), (vI 3)]) build_174 z z) ?_)))
  have h2a := mm1 (Blk.lt hB1) h11.size
  refine E0 (fs (cur' := [(vI x3), (vI 3)]) z_174 z z ((((h1a.chg s10 (atp h2a)).ext h12).chg h13 (djs (mm1 h1a.lt s10.size))).ext s1p) z (lb z) (oA z) z) ?_
  rintro _ w3z ⟨h40, s41⟩
  have h2b := s41.one
  refine Wn ?_
  obtain rfl := som hm3y
  have h42 : Chg (· ∈ [g1]) w0 w14 := cext (cr [g1] w0) h11
  have h43 : Chg (· ∈ [g1]) w0 w1d := cext h42 h15
  have h44 : Chg (· ∈ [g1]) w0 w16 := cM h43 s10 (io sr)
  have h45 : Chg (· ∈ [g1]) w0 w1e := cext h44 h12
  have h46 : ∀ k ∈ [w16.heap.size], k ∈ [g1] ∨ w0.heap.size ≤ k := mor h1c
  have h47 : Chg (· ∈ [g1]) w0 w18 := cM h45 h13 h46
  have h48 : Chg (· ∈ [g1]) w0 w3x := cext h47 s1p
  have h49 : ∀ k ∈ [w14.heap.size], k ∈ [g1] ∨ w0.heap.size ≤ k := mor h11.size
  have h4a : Chg (· ∈ [g1]) w0 w3z := cM h48 h2b h49
  exact Wr (ret1 hr (resC g_174 z_174 z h40 z) ⟨h4a, z, p3_0, (ii z), h1h, ((((h1i.ext h12).chg h13 (djs (mm1 (Blk.lt hB1) h1c))).ext s1p).chg h2b (djs h2a))⟩)
 rintro r52 ex53 a54 w55 rfl ⟨rfl, hq4b⟩
 have hm4c := elR hm25
 obtain rfl := som hm4c
 exact ⟨hq4b, z⟩
theorem T_impl_checker_option (ih : I_impl_checker_value n) : S_impl_checker_option (B_impl_checker_option n (F_impl_checker_value n)) := by
 obtain ⟨ih0, ih1, ih2, ih3, ih4⟩ := ih
 constructor
 intro B pn1_0 pc1_0 pn1_1 pc1_1 g1 pn2_4 pc2_4 pn2_5 pc2_5 pn2_6 pc2_6 pn2_7 pc2_7 pa1_0 pa1_1 pa2_4 pa2_5 pa2_6 pa2_7 x1 x2 x3 res w0 hm hB1 hBw p1_0 p1_1 p1_2 p2_0 p2_1 p2_2 p2_4 p2_5 p2_6 p2_7 p3_0
 unfold B_impl_checker_option at hm
 refine goF func157 z z (lb z) fun fn hr => Ws (E z (fb z) ?_)
 rintro _ w17 ⟨rfl, h1q⟩
 have h11 := h1q.below
 have h1r : Blk w17 w0.heap.size (vR x2 pa2_4 pn2_4 pc2_4 pa2_5 pn2_5 pc2_5 pa2_6 pn2_6 pc2_6 pa2_7 pn2_7 pc2_7) := h1q.blk
 refine E z (fa zero_174) ?_
 rintro _ w1d ⟨rfl, h1s⟩
 have h16 := h1s.below
 have h1c : Blk w1d w17.heap.size [(vI 0), (vI 0)] := h1s.blk
 refine Wn (Ws (Rm z (Rm z ?_)))
 have h1e := (hB1.ext h11).ext h16
 have h1t := (p1_0.ext h11).ext h16
 have h1i := (p1_1.ext h11).ext h16
 have h1f := lt_ h11.size h16.size
 obtain ⟨r1a, e28, hm29⟩ := bdS hm
 refine E z (fc call154 z (W_impl_checker_skip (B := w0.heap.size) e28 h1f (repS.mono h1t (lt_ hBw (Nat.le_of_lt (Blk.lt hB1)))) (repS.mono h1i (lt_ hBw (Nat.le_of_lt (Blk.lt hB1)))) p1_2 (h1e.row 0 3 z) (Blk.lt hB1) p3_0 (ii z))) ?_
 rintro _ w18 ⟨s10, rfl, h1u, h2a⟩
 refine E z (fa zero_174) ?_
 rintro _ w1g ⟨rfl, h1v⟩
 have h12 := h1v.below
 have h2b : Blk w1g w18.heap.size [(vI 0), (vI 0)] := h1v.blk
 refine E0 (fs (cur' := [(vI r1a.at_), (vI r1a.code)]) z_174 z z h2b z (lb z) (oA z) z) ?_
 rintro _ w1b ⟨h1j, s2c⟩
 have h13 := s2c.one
 refine Wn (Wq (WC_block (Wq ?_)))
 obtain ⟨u2d, hu1w, hm1x⟩ := bdS hm29
 refine WC_cut (fun a w => ∃ (x1k : Bool), x1k = u2d ∧ Sat 45 [(0, (pt g1)), (2, (vI x3)), (4, (pt w0.heap.size)), (6, (pt w17.heap.size)), (7, (pt w18.heap.size)), (11, (vB x1k))] a ∧ Below w1b.heap.size w1b w) ?_ ?_
 ·refine Wg (R z (fd f_174_1 z) (R z (l1 g_3 z fid (h1j.at z)) (R z (nq z z) (Rm z ?_))))
  rcases bs (r1a.code != 0) with hc14 | hc14
  ·iterate 8 refine Nh z hc14 ?_
   exact R z (pT z hc14 z) (Ra z (Wl (fun _ q => ⟨true, som (ifT hu1w hc14), (q.k (s6 z z z z z z)), (br w1b)⟩)))
  refine Rh z hc14 (mv z) (Rh z hc14 (rd_nil z) (Rh z hc14 (fd f_172_1 z) ?_))
  have h1y := lt_ h1f s10.size
  refine Rh z hc14 (l1 g_25 z fid ((((h1e.ext s10).ext h12).chg h13 (djs (mm1 (Blk.lt hB1) h1y))).at z)) (Rh z hc14 (mv z) ?_)
  obtain ⟨x2e, e2f, hm2g⟩ := bdS (ifF hu1w hc14)
  refine RXg z z hc14 z (at_ (α := UInt8) d_25 z_5 z z z (((h1i.ext s10).ext h12).chg h13 (lg (mem1le (lt_ (lt_ hBw (Nat.le_of_lt (Blk.lt hB1))) h1y)))) e2f) ?_
  rintro _ ⟨b42, o43, cs44, rfl, h2h, h2i, h45⟩
  obtain rfl := UInt8_open h2i
  exact Rh z hc14 (l1 g_5 z fid (h2h.at0 z)) (Rh z hc14 (eql z z) (R z (pF z hc14 z) (Ra z (Wl (fun _ q => ⟨(byteI x2e) == (byteI (0 : UInt8)), som hm2g, (q.k (s6 z z z z z z)), (br w1b)⟩)))))
 rintro a2j w1l ⟨x1k, rfl, hS46, s15⟩
 revert a2j
 refine Wo (Wc z (fun hc1m => ?_) (fun hc1m => ?_))
 ·refine Ws (R z (lN (vs := [(vI r1a.at_), (vI r1a.code)]) g_174 z_174 z z fid ((h1j.ext s15).row 0 2 z)) (E0 (fs (cur' := [(vI r1a.at_), (vI r1a.code)]) z_174 z z ((((h1c.ext s10).ext h12).chg h13 (djs (mm1 h1c.lt s10.size))).ext s15) z (lb z) (oA z) z) ?_))
  rintro _ w2k ⟨h2l, s2m⟩
  have h1z := s2m.one
  refine Wn ?_
  obtain rfl := som (ifT hm1x hc1m)
  have h2n : Chg (· ∈ [g1]) w0 w17 := cext (cr [g1] w0) h11
  have h2o : Chg (· ∈ [g1]) w0 w1d := cext h2n h16
  have h2p : Chg (· ∈ [g1]) w0 w18 := cext h2o s10
  have h2q : Chg (· ∈ [g1]) w0 w1g := cext h2p h12
  have h20 := lt_ h1f s10.size
  have h2r : ∀ k ∈ [w18.heap.size], k ∈ [g1] ∨ w0.heap.size ≤ k := mor h20
  have h2s : Chg (· ∈ [g1]) w0 w1b := cM h2q h13 h2r
  have h2t : Chg (· ∈ [g1]) w0 w1l := cext h2s s15
  have h2u : ∀ k ∈ [w17.heap.size], k ∈ [g1] ∨ w0.heap.size ≤ k := mor h11.size
  have h2v : Chg (· ∈ [g1]) w0 w2k := cM h2t h1z h2u
  exact Wr (rtO (ret1 hr (resC g_174 z_174 z h2l z) ⟨h2v, z, h1u, h2a, p1_2, (((((h1e.ext s10).ext h12).chg h13 (djs (mm1 (Blk.lt hB1) h20))).ext s15).chg h1z (djs (mm1 (Blk.lt hB1) h11.size)))⟩))
 refine Ws (Rm z (R z (rd_nil z) (R z (fd f_172_1 z) ?_)))
 have h1h := lt_ h1f s10.size
 have h1n := (((h1e.ext s10).ext h12).chg h13 (djs (mm1 (Blk.lt hB1) h1h))).ext s15
 refine R z (l1 g_25 z fid (h1n.at z)) (Rm z ?_)
 obtain ⟨x47, e2w, hm21⟩ := bdS (ifF hm1x hc1m)
 have h1o := mem1le (lt_ (lt_ hBw (Nat.le_of_lt (Blk.lt hB1))) h1h)
 have h22 := (((h1i.ext s10).ext h12).chg h13 (lg h1o)).ext s15
 refine RX z (at_ (α := UInt8) d_25 z_5 z z z h22 e2w) ?_
 rintro _ ⟨b48, o49, cs4a, rfl, h2x, h2y, h4b⟩
 obtain rfl := UInt8_open h2y
 refine R z (l1 g_5 z fid (h2x.at0 z)) (R z (rd_gtr z z) (Ra z (Wn (Wc z (fun hc1p => ?_) (fun hc1p => ?_)))))
 ·refine Ws (Rm z (R z (bP (parts := [(0, (.tmp 35)), (1, (.const (.int .i64 4)))]) (cs := [(vI x3), (vI 4)]) build_174 z z) (E0 (fs (cur' := [(vI x3), (vI 4)]) z_174 z z ((((h1c.ext s10).ext h12).chg h13 (djs (mm1 h1c.lt s10.size))).ext s15) z (lb z) (oA z) z) ?_)))
  rintro _ w2z ⟨h30, s31⟩
  have h23 := s31.one
  refine Wn ?_
  obtain rfl := som (ifT hm21 hc1p)
  have h32 : Chg (· ∈ [g1]) w0 w17 := cext (cr [g1] w0) h11
  have h33 : Chg (· ∈ [g1]) w0 w1d := cext h32 h16
  have h34 : Chg (· ∈ [g1]) w0 w18 := cext h33 s10
  have h35 : Chg (· ∈ [g1]) w0 w1g := cext h34 h12
  have h36 : ∀ k ∈ [w18.heap.size], k ∈ [g1] ∨ w0.heap.size ≤ k := mor h1h
  have h37 : Chg (· ∈ [g1]) w0 w1b := cM h35 h13 h36
  have h38 : Chg (· ∈ [g1]) w0 w1l := cext h37 s15
  have h39 : ∀ k ∈ [w17.heap.size], k ∈ [g1] ∨ w0.heap.size ≤ k := mor h11.size
  have h3a : Chg (· ∈ [g1]) w0 w2z := cM h38 h23 h39
  exact Wr (rtO (ret1 hr (resC g_174 z_174 z h30 z) ⟨h3a, z, p3_0, (ii z), p1_2, (h1n.chg h23 (djs (mm1 (Blk.lt hB1) h11.size)))⟩))
 refine Wk (Wq (WC_draw (X := noX) 384 (.rd 0 (.rd 1 (.rd 2 (.rd 3 (.rd 4 (.rd 5 (.rd 6 (.ef 7 (.ef 8 .done))))))))) mo (by kernel_rfl) fun w3b s19 _ => dR z z (mv z) (dR z z (fd f_74_7 z) (dR z z (l1 g_72 z fid (((((((h1r.ext h16).ext s10).ext h12).chg h13 (djs (mm1 h1r.lt (lt_ h16.size s10.size)))).ext s15).ext s19).at z)) ?_))))
 obtain ⟨x4c, e3c, hm3d⟩ := bdS (ifF hm21 hc1p)
 refine dRX z z (at_ (α := Int) d_72 z_3 z z z (((((((p2_7.ext h11).ext h16).ext s10).ext h12).chg h13 (lg h1o)).ext s15).ext s19) e3c) ?_
 rintro _ ⟨b4d, o4e, cs4f, rfl, h3e, h3f, h4g⟩
 obtain ⟨rfl, h3g⟩ := Int_open h3f
 refine dR z z (l1 g_3 z fid (h3e.at0 z)) (dR z z (fd f_174_0 z) (dR z z (l1 g_3 z fid (((h1j.ext s15).ext s19).at z)) ?_))
 obtain ⟨r24, r4h, e3h, hm3i⟩ := bd2S hm3d
 refine dE z z (fc call134 z (ih0.run (B := B) e3h (h1n.ext s19) hBw (((((h1t.ext s10).ext h12).chg h13 (lg h1o)).ext s15).ext s19) (h22.ext s19) p1_2 h3g h1u)) (.inl z) ?_
 rintro _ w3j ⟨s25, rfl, h3k, h3l, h3m, h3n⟩
 have h26 := mm1 (Blk.lt hB1) h11.size
 refine dE0 z (fs (cur' := [(vI r24.at_), (vI r24.code)]) z_174 z z ((((((h1c.ext s10).ext h12).chg h13 (djs (mm1 h1c.lt s10.size))).ext s15).ext s19).chg s25 (atp h26)) z (lb z) (oA z) z) (.inl z) ?_
 rintro _ w3o ⟨h3p, s3q⟩
 have h27 := s3q.one
 refine PR_done (Wo ?_)
 obtain rfl := som hm3i
 have h3r : Chg (· ∈ [g1]) w0 w17 := cext (cr [g1] w0) h11
 have h3s : Chg (· ∈ [g1]) w0 w1d := cext h3r h16
 have h3t : Chg (· ∈ [g1]) w0 w18 := cext h3s s10
 have h3u : Chg (· ∈ [g1]) w0 w1g := cext h3t h12
 have h3v : ∀ k ∈ [w18.heap.size], k ∈ [g1] ∨ w0.heap.size ≤ k := mor h1h
 have h3w : Chg (· ∈ [g1]) w0 w1b := cM h3u h13 h3v
 have h3x : Chg (· ∈ [g1]) w0 w1l := cext h3w s15
 have h3y : Chg (· ∈ [g1]) w0 w3b := cext h3x s19
 have h3z : Chg (· ∈ [g1]) w0 w3j := cM h3y s25 (io sr)
 have h40 : ∀ k ∈ [w17.heap.size], k ∈ [g1] ∨ w0.heap.size ≤ k := mor h11.size
 have h41 : Chg (· ∈ [g1]) w0 w3o := cM h3z h27 h40
 exact Wr (ret1 hr (resC g_174 z_174 z h3p z) ⟨h41, z, h3k, h3l, h3m, (h3n.chg h27 (djs h26))⟩)
theorem T_impl_checker_checked (ih : I_impl_checker_value n) : S_impl_checker_checked (B_impl_checker_checked n (F_impl_checker_value n)) := by
 obtain ⟨ih0, ih1, ih2, ih3, ih4⟩ := ih
 constructor
 intro B pn1_0 pc1_0 pn1_1 pc1_1 g1 pn2_4 pc2_4 pn2_5 pc2_5 pn2_6 pc2_6 pn2_7 pc2_7 pa1_0 pa1_1 pa2_4 pa2_5 pa2_6 pa2_7 x1 x2 x3 res w0 hm hB1 hBw p1_0 p1_1 p1_2 p2_0 p2_1 p2_2 p2_4 p2_5 p2_6 p2_7 p3_0
 unfold B_impl_checker_checked at hm
 refine goF func158 z z (lb z) fun fn hr => Ws (E z (fb z) ?_)
 rintro _ w19 ⟨rfl, h1x⟩
 have h12 := h1x.below
 have h2n : Blk w19 w0.heap.size (vR x2 pa2_4 pn2_4 pc2_4 pa2_5 pn2_5 pc2_5 pa2_6 pn2_6 pc2_6 pa2_7 pn2_7 pc2_7) := h1x.blk
 refine E z (fa zero_174) ?_
 rintro _ w1j ⟨rfl, h1y⟩
 have h18 := h1y.below
 have h1a : Blk w1j w19.heap.size [(vI 0), (vI 0)] := h1y.blk
 refine Wn (Ws (Rm z (R z (fd f_74_7 z) (R z (l1 g_72 z fid ((h2n.ext h18).at z)) ?_))))
 obtain ⟨x4p, e2o, hm2p⟩ := bdS hm
 refine RX z (at_ (α := Int) d_72 z_3 z z z ((p2_7.ext h12).ext h18) e2o) ?_
 rintro _ ⟨b4q, o4r, cs4s, rfl, h2q, h2r, h4t⟩
 obtain ⟨rfl, h2s⟩ := Int_open h2r
 refine R z (l1 g_3 z fid (h2q.at0 z)) (Rm z ?_)
 have h1z := (p1_0.ext h12).ext h18
 have h20 := (p1_1.ext h12).ext h18
 obtain ⟨r1b, r4u, e2t, hm21⟩ := bd2S hm2p
 refine E z (fc call134 z (ih0.run (B := B) e2t ((hB1.ext h12).ext h18) hBw h1z h20 p1_2 h2s p3_0)) ?_
 rintro _ w1c ⟨s13, rfl, h1p, h2u, h1k, h22⟩
 refine E z (fa zero_174) ?_
 rintro _ w1l ⟨rfl, h23⟩
 have h15 := h23.below
 have h1q : Blk w1l w1c.heap.size [(vI 0), (vI 0)] := h23.blk
 refine E0 (fs (cur' := [(vI r1b.at_), (vI r1b.code)]) z_174 z z h1q z (lb z) (oA z) z) ?_
 rintro _ w1r ⟨h1h, s2v⟩
 have h14 := s2v.one
 refine Wn (Wq (Ws (R z (fd f_174_1 z) (R z (l1 g_3 z fid (h1h.at z)) (R z (nq z z) (Wn (Wc z (fun hc1s => ?_) (fun hc1s => ?_))))))))
 ·refine Ws (R z (lN (vs := [(vI r1b.at_), (vI r1b.code)]) g_174 z_174 z z fid (h1h.row 0 2 z)) ?_)
  have h24 := mm1 (Blk.lt hB1) h12.size
  refine E0 (fs (cur' := [(vI r1b.at_), (vI r1b.code)]) z_174 z z (((h1a.chg s13 (atp h24)).ext h15).chg h14 (djs (mm1 h1a.lt s13.size))) z (lb z) (oA z) z) ?_
  rintro _ w2w ⟨h2x, s2y⟩
  have h25 := s2y.one
  refine Wn ?_
  obtain rfl := som (ifT hm21 hc1s)
  have h2z : Chg (· ∈ [g1]) w0 w19 := cext (cr [g1] w0) h12
  have h30 : Chg (· ∈ [g1]) w0 w1j := cext h2z h18
  have h31 : Chg (· ∈ [g1]) w0 w1c := cM h30 s13 (io sr)
  have h32 : Chg (· ∈ [g1]) w0 w1l := cext h31 h15
  have h26 := lt_ (lt_ h12.size h18.size) s13.size
  have h33 : ∀ k ∈ [w1c.heap.size], k ∈ [g1] ∨ w0.heap.size ≤ k := mor h26
  have h34 : Chg (· ∈ [g1]) w0 w1r := cM h32 h14 h33
  have h35 : ∀ k ∈ [w19.heap.size], k ∈ [g1] ∨ w0.heap.size ≤ k := mor h12.size
  have h36 : Chg (· ∈ [g1]) w0 w2w := cM h34 h25 h35
  exact Wr (ret1 hr (resC g_174 z_174 z h2x z) ⟨h36, z, h1p, h2u, h1k, (((h22.ext h15).chg h14 (djs (mm1 (Blk.lt hB1) h26))).chg h25 (djs h24))⟩)
 refine Wk (Ws (Rm z (R z (fd f_174_0 z) (R z (l1 g_3 z fid (h1h.at z)) ?_))))
 have h1i := lt_ (lt_ h12.size h18.size) s13.size
 have h1m := (h22.ext h15).chg h14 (djs (mm1 (Blk.lt hB1) h1i))
 have h27 := mem1le (lt_ (lt_ hBw (Nat.le_of_lt (Blk.lt hB1))) h1i)
 have h28 := ((h20.chg s13 (lg (mem1 hBw))).ext h15).chg h14 (lg h27)
 have h1n := lt_ (lt_ h1i h15.size) h14.size
 obtain ⟨r1e, e37, hm38⟩ := bdS (ifF hm21 hc1s)
 refine E z (fc call154 z (W_impl_checker_skip (B := w0.heap.size) e37 h1n (repS.mono (((h1z.chg s13 (lg (mem1 hBw))).ext h15).chg h14 (lg h27)) (lt_ hBw (Nat.le_of_lt (Blk.lt hB1)))) (repS.mono h28 (lt_ hBw (Nat.le_of_lt (Blk.lt hB1)))) h1k (h1m.row 0 3 z) (Blk.lt hB1) h1p (ii z))) ?_
 rintro _ w1g ⟨s11, rfl, h39, h3a⟩
 refine E z (fa zero_174) ?_
 rintro _ w1t ⟨rfl, h29⟩
 have h16 := h29.below
 have h3b : Blk w1t w1g.heap.size [(vI 0), (vI 0)] := h29.blk
 refine E0 (fs (cur' := [(vI r1e.at_), (vI r1e.code)]) z_174 z z h3b z (lb z) (oA z) z) ?_
 rintro _ w1o ⟨h2a, s3c⟩
 have h17 := s3c.one
 refine Wn (Wq (Wq ?_))
 obtain ⟨u3d, hu2b, hm2c⟩ := bdS hm38
 refine WC_cut (fun a w => ∃ (x1u : Bool), x1u = u3d ∧ Sat 52 [(6, (pt w19.heap.size)), (7, (pt w1c.heap.size)), (8, (pt w1g.heap.size)), (47, (vB x1u))] a ∧ Below w1o.heap.size w1o w) ?_ ?_
 ·refine WC_draw (X := noX) 0 (.rd 0 (.rd 1 (.rd 2 (.rd 3 (.rd 4 (.rd 5 (.rd 6 (.rd 7 (.rd 8 (.rd 9 (.rd 10 (.rd 11 (.rd 12 (.rd 13 (.rd 14 (.rd 15 (.rd 16 (.rd 17 (.rd 18 (.rd 19 (.rd 20 (.ef 21 (.rd 22 (.rd 23 .done)))))))))))))))))))))))) mo (by kernel_rfl) fun w4v s1f _ => dR z z (fd f_174_1 z) (dR z z (l1 g_3 z fid ((h2a.ext s1f).at z)) (dR z z (eql z z) (dR z z (mv z) ?_)))
  rcases bs (r1e.code == 0) with hc10 | hc10
  ·refine dRg z z z hc10 z (mv z) (dRg z z z hc10 z (rd_nil z) (dRg z z z hc10 z (fd f_172_1 z) ?_))
   have h1v := lt_ h1n s11.size
   have h2d := (((h1m.ext s11).ext h16).chg h17 (djs (mm1 (Blk.lt hB1) h1v))).ext s1f
   refine dRg z z z hc10 z (l1 g_25 z fid (h2d.at z)) (dRg z z z hc10 z (fd f_174_0 z) ?_)
   have h2e := (((h1h.ext s11).ext h16).chg h17 (djs (mm1 h1q.lt (lt_ h14.size s11.size)))).ext s1f
   refine dRg z z z hc10 z (l1 g_3 z fid (h2e.at z)) ?_
   obtain ⟨x3e, e3f, hm3g⟩ := bdS (ifT hu2b hc10)
   have h2f := (((h28.ext s11).ext h16).chg h17 (lg (mem1le (lt_ (lt_ hBw (Nat.le_of_lt (Blk.lt hB1))) h1v)))).ext s1f
   refine dRXg z z z hc10 z (at_ (α := UInt8) d_25 z_5 z z z h2f e3f) ?_
   rintro _ ⟨b4w, o4x, cs4y, rfl, h3h, h3i, h4z⟩
   obtain rfl := UInt8_open h3i
   refine dRg z z z hc10 z (l1 g_5 z fid (h3h.at0 z)) (dRg z z z hc10 z (rd_convUI d_5 d_3 z) (dRg z z z hc10 z (mv z) (dRg z z z hc10 z (rd_nil z) (dRg z z z hc10 z (fd f_172_1 z) (dRg z z z hc10 z (l1 g_25 z fid (h2d.at z)) (dRg z z z hc10 z (mv z) (dRg z z z hc10 z (fd f_174_0 z) (dRg z z z hc10 z (l1 g_3 z fid (h2e.at z)) ?_))))))))
   obtain ⟨x50, e3j, hm3k⟩ := bdS hm3g
   refine dRXg z z z hc10 z (rd_sliceX d_25 z_5 z z h2f z z e3j) ?_
   rintro _ ⟨a51, n52, c53, rfl, h3l⟩
   obtain ⟨r3m, e3n, hm3o⟩ := bdS hm3k
   refine dEg z z z hc10 z (fc call137 z (W_impl_SumOfBytes (B := B) e3n (lt_ (lt_ hBw (Nat.le_of_lt (Blk.lt hB1))) (lt_ (lt_ (lt_ h1v h16.size) h17.size) s1f.size)) h3l)) (.inr fun _ _ h => chgB (h.1)) ?_
   rintro _ w54 ⟨s3p, rfl, h55⟩
   exact dRg z z z hc10 z (nq z z) (dR z z (pT z hc10 z) (PR_done (fun _ q => ⟨(byteI x3e) != r3m, som hm3o, (q.k (s4 z z z z)), (bup s1f s3p)⟩)))
  iterate 17 refine dRn z z z hc10 z ?_
  exact dEn z z z hc10 z (dRn z z z hc10 z (dR z z (pF z hc10 z) (PR_done (fun _ q => ⟨false, som (ifF hu2b hc10), (q.k (s4 z z z z)), s1f⟩))))
 rintro a3q w2g ⟨x1u, rfl, hS56, s1d⟩
 revert a3q
 refine Wo (Wc z (fun hc1w => ?_) (fun hc1w => ?_))
 ·refine Ws (R z (fd f_174_0 z) (R z (l1 g_3 z fid (((((h1h.ext s11).ext h16).chg h17 (djs (mm1 h1q.lt (lt_ h14.size s11.size)))).ext s1d).at z)) (R z (bP (parts := [(0, (.tmp 49)), (1, (.const (.int .i64 5)))]) (cs := [(vI r1b.at_), (vI 5)]) build_174 z z) ?_)))
  have h2h := mm1 (Blk.lt hB1) h12.size
  have h3r := (((((h1a.chg s13 (atp h2h)).ext h15).chg h14 (djs (mm1 h1a.lt s13.size))).ext s11).ext h16).chg h17 (djs (mm1 h1a.lt (lt_ (lt_ (lt_ s13.size h15.size) h14.size) s11.size)))
  refine E0 (fs (cur' := [(vI r1b.at_), (vI 5)]) z_174 z z (h3r.ext s1d) z (lb z) (oA z) z) ?_
  rintro _ w3s ⟨h3t, s3u⟩
  have h2i := s3u.one
  refine Wn ?_
  obtain rfl := som (ifT hm2c hc1w)
  have h3v : Chg (· ∈ [g1]) w0 w19 := cext (cr [g1] w0) h12
  have h3w : Chg (· ∈ [g1]) w0 w1j := cext h3v h18
  have h3x : Chg (· ∈ [g1]) w0 w1c := cM h3w s13 (io sr)
  have h3y : Chg (· ∈ [g1]) w0 w1l := cext h3x h15
  have h3z : ∀ k ∈ [w1c.heap.size], k ∈ [g1] ∨ w0.heap.size ≤ k := mor h1i
  have h40 : Chg (· ∈ [g1]) w0 w1r := cM h3y h14 h3z
  have h41 : Chg (· ∈ [g1]) w0 w1g := cext h40 s11
  have h42 : Chg (· ∈ [g1]) w0 w1t := cext h41 h16
  have h2j := lt_ h1n s11.size
  have h43 : ∀ k ∈ [w1g.heap.size], k ∈ [g1] ∨ w0.heap.size ≤ k := mor h2j
  have h44 : Chg (· ∈ [g1]) w0 w1o := cM h42 h17 h43
  have h45 : Chg (· ∈ [g1]) w0 w2g := cext h44 s1d
  have h46 : ∀ k ∈ [w19.heap.size], k ∈ [g1] ∨ w0.heap.size ≤ k := mor h12.size
  have h47 : Chg (· ∈ [g1]) w0 w3s := cM h45 h2i h46
  exact Wr (ret1 hr (resC g_174 z_174 z h3t z) ⟨h47, z, h1p, (ii z), h1k, (((((h1m.ext s11).ext h16).chg h17 (djs (mm1 (Blk.lt hB1) h2j))).ext s1d).chg h2i (djs h2h))⟩)
 refine Wk (Ws (R z (lN (vs := [(vI r1e.at_), (vI r1e.code)]) g_174 z_174 z z fid ((h2a.ext s1d).row 0 2 z)) ?_))
 have h2k := mm1 (Blk.lt hB1) h12.size
 have h48 := (((((h1a.chg s13 (atp h2k)).ext h15).chg h14 (djs (mm1 h1a.lt s13.size))).ext s11).ext h16).chg h17 (djs (mm1 h1a.lt (lt_ (lt_ (lt_ s13.size h15.size) h14.size) s11.size)))
 refine E0 (fs (cur' := [(vI r1e.at_), (vI r1e.code)]) z_174 z z (h48.ext s1d) z (lb z) (oA z) z) ?_
 rintro _ w49 ⟨h4a, s4b⟩
 have h2l := s4b.one
 refine Wn ?_
 obtain rfl := som (ifF hm2c hc1w)
 have h4c : Chg (· ∈ [g1]) w0 w19 := cext (cr [g1] w0) h12
 have h4d : Chg (· ∈ [g1]) w0 w1j := cext h4c h18
 have h4e : Chg (· ∈ [g1]) w0 w1c := cM h4d s13 (io sr)
 have h4f : Chg (· ∈ [g1]) w0 w1l := cext h4e h15
 have h4g : ∀ k ∈ [w1c.heap.size], k ∈ [g1] ∨ w0.heap.size ≤ k := mor h1i
 have h4h : Chg (· ∈ [g1]) w0 w1r := cM h4f h14 h4g
 have h4i : Chg (· ∈ [g1]) w0 w1g := cext h4h s11
 have h4j : Chg (· ∈ [g1]) w0 w1t := cext h4i h16
 have h2m := lt_ h1n s11.size
 have h4k : ∀ k ∈ [w1g.heap.size], k ∈ [g1] ∨ w0.heap.size ≤ k := mor h2m
 have h4l : Chg (· ∈ [g1]) w0 w1o := cM h4j h17 h4k
 have h4m : Chg (· ∈ [g1]) w0 w2g := cext h4l s1d
 have h4n : ∀ k ∈ [w19.heap.size], k ∈ [g1] ∨ w0.heap.size ≤ k := mor h12.size
 have h4o : Chg (· ∈ [g1]) w0 w49 := cM h4m h2l h4n
 exact Wr (ret1 hr (resC g_174 z_174 z h4a z) ⟨h4o, z, h39, h3a, h1k, (((((h1m.ext s11).ext h16).chg h17 (djs (mm1 (Blk.lt hB1) h2m))).ext s1d).chg h2l (djs h2k))⟩)
theorem A_impl_checker_value : ∀ n, I_impl_checker_value n
  | 0 => ⟨⟨fun hm => by intros; exact nomatch (show none = some _ from hm)⟩, ⟨fun hm => by intros; exact nomatch (show none = some _ from hm)⟩, ⟨fun hm => by intros; exact nomatch (show none = some _ from hm)⟩, ⟨fun hm => by intros; exact nomatch (show none = some _ from hm)⟩, ⟨fun hm => by intros; exact nomatch (show none = some _ from hm)⟩⟩
  | n + 1 => ⟨T_impl_checker_value (A_impl_checker_value n), T_impl_checker_array (A_impl_checker_value n), T_impl_checker_choice (A_impl_checker_value n), T_impl_checker_option (A_impl_checker_value n), T_impl_checker_checked (A_impl_checker_value n)⟩
theorem W_impl_checker_value : S_impl_checker_value (F_impl_checker_value n).impl_checker_value := (A_impl_checker_value n).1
theorem W_impl_checker_array : S_impl_checker_array (F_impl_checker_value n).impl_checker_array := (A_impl_checker_value n).2.1
theorem W_impl_checker_choice : S_impl_checker_choice (F_impl_checker_value n).impl_checker_choice := (A_impl_checker_value n).2.2.1
theorem W_impl_checker_option : S_impl_checker_option (F_impl_checker_value n).impl_checker_option := (A_impl_checker_value n).2.2.2.1
theorem W_impl_checker_checked : S_impl_checker_checked (F_impl_checker_value n).impl_checker_checked := (A_impl_checker_value n).2.2.2.2

def Q22 (w0 : World) (B : Nat) (r : Int × Int) (v : Value) (w' : World) : Prop := Bw w0 w' ∧ un2 (fun r1 r2 => v = .tuple #[(vI r1), (vI r2)] ∧ inI r1 ∧ inI r2) r
theorem W_impl_CheckValue {x1 : Desc} {x2 : Int} {x3 : List UInt8} {x4 : Int} {res : Int × Int} (hm : M_impl_CheckValue n x1 x2 x3 x4 = some res) (hBw : B ≤ w0.heap.size) (p1_0 : repS w0 B (sl pa1_0 pn1_0 pc1_0) x1.rules) (p2_0 : inI x2) (p3_0 : repS w0 B (sl pa3_0 pn3_0 pc3_0) x3) (p4_0 : inI x4) : CallsR prog 100 [(.agg #[(sl pa1_0 pn1_0 pc1_0)]), (vI x2), (sl pa3_0 pn3_0 pc3_0), (vI x4)] w0 (Q22 w0 B res) := by
 unfold M_impl_CheckValue at hm
 refine goF func100 z z (lb z) fun fn hr => Ws (E z (fb z) ?_)
 rintro _ w17 ⟨rfl, h1b⟩
 have h13 := h1b.below
 have h1c : Blk w17 w0.heap.size [(sl pa1_0 pn1_0 pc1_0)] := h1b.blk
 refine Ra z (Ra z (Wn (Wq (Wq ?_))))
 obtain ⟨u1o, hu1p, hm1d⟩ := bdS hm
 refine WC_cut (fun a w => ∃ (x18 : Bool), x18 = u1o ∧ Sat 43 [(1, (vI x2)), (2, (sl pa3_0 pn3_0 pc3_0)), (3, (vI x4)), (4, (pt w0.heap.size)), (30, (vB x18))] a ∧ Below w17.heap.size w17 w) ?_ ?_
 ·refine Wg (R z (lN (vs := [(sl pa1_0 pn1_0 pc1_0)]) g_31 z_31 z z fid (h1c.row 0 1 z)) (Rm z ?_))
  obtain ⟨r1q, e1r, hm1e⟩ := bdS hu1p
  refine E z (fc call76 z (W_impl_known (B := B) e1r (lt_ hBw h13.size) (p1_0.ext h13) p2_0)) ?_
  rintro _ w25 ⟨s15, rfl⟩
  refine R z (not_ z) (Rm z ?_)
  rcases bs (!r1q) with hc11 | hc11
  ·exact Nh z hc11 (Nh z hc11 (R z (pT z hc11 z) (Rm z (Nh z z (Nh z z (Nh z z (Nh z z (R z (pT z z z) (Rm z (Nh z z (Nh z z (Nh z z (R z (pT z z z) (Wl (fun _ q => ⟨true, som (ifT hm1e hc11), (q.k (s5 z z z z z)), s15⟩)))))))))))))))
  have hm1f := ifF hm1e hc11
  refine Rh z hc11 (mv z) (Rh z hc11 (lss z z) (R z (pF z hc11 z) (Rm z ?_)))
  rcases bs (decide (x4 < 0)) with hc10 | hc10
  ·iterate 4 refine Nh z hc10 ?_
   exact R z (pT z hc10 z) (Rm z (Nh z z (Nh z z (Nh z z (R z (pT z z z) (Wl (fun _ q => ⟨true, som (ifT hm1f hc10), (q.k (s5 z z z z z)), s15⟩)))))))
  have hm1g := ifF hm1f hc10
  refine Rh z hc10 (mv z) (Rh z hc10 (mv z) ?_)
  have h1h := (p3_0.ext h13).ext s15
  refine Rh z hc10 (lnR d_25 z h1h) (Rh z hc10 (rd_gtr z z) (R z (pF z hc10 z) (Rm z ?_)))
  rcases bs (decide ((x3.length : Int) < x4)) with hc12 | hc12
  ·iterate 3 refine Nh z hc12 ?_
   exact R z (pT z hc12 z) (Wl (fun _ q => ⟨true, som (ifT hm1g hc12), (q.k (s5 z z z z z)), s15⟩))
  exact Rh z hc12 (mv z) (Rh z hc12 (lnR d_25 z h1h) (Rh z hc12 (rd_gtr z z) (R z (pF z hc12 z) (Wl (fun _ q => ⟨decide (400 < (x3.length : Int)), som (ifF hm1g hc12), (q.k (s5 z z z z z)), s15⟩)))))
 rintro a1s w1t ⟨x18, rfl, hS26, s14⟩
 revert a1s
 refine Wo (Wc z (fun hc19 => ?_) (fun hc19 => ?_))
 ·refine Ws (Ra z (Ra z (Wn ?_)))
  obtain rfl := som (ifT hm1d hc19)
  exact Wr (ret2 hr z z ⟨(bup h13 s14), z, (ii z), (ii z)⟩)
 refine Wk (Ws (R z (lN (vs := [(sl pa1_0 pn1_0 pc1_0)]) g_31 z_31 z z fid ((h1c.ext s14).row 0 1 z)) (Rm z (R z (bP (parts := [(0, (.tmp 31)), (1, (.tmp 32))]) (cs := [(sl pa1_0 pn1_0 pc1_0), (sl pa3_0 pn3_0 pc3_0), (vI 0)]) build_172 z z) (E z (fb z) ?_)))))
 rintro _ w1u ⟨rfl, h1i⟩
 have h16 := h1i.below
 have h1v : Blk w1u w1t.heap.size [(sl pa1_0 pn1_0 pc1_0), (sl pa3_0 pn3_0 pc3_0), (vI 0)] := h1i.blk
 refine Ra z (Wn (Ws (Rm z (Rm z (Rm z ?_)))))
 have h1a := lt_ h13.size s14.size
 obtain ⟨r1j, r27, e1w, hm1x⟩ := bd2S (ifF hm1d hc19)
 refine E z (fc call134 z (W_impl_checker_value.run (B := B) e1w h1v (lt_ hBw h1a) (((p1_0.ext h13).ext s14).ext h16) (((p3_0.ext h13).ext s14).ext h16) (ii z) p2_0 p4_0)) ?_
 rintro _ w1y ⟨s1k, rfl, h1z, h20, h28, h29⟩
 refine E z (fa zero_174) ?_
 rintro _ w21 ⟨rfl, h1l⟩
 have h22 : Blk w21 w1y.heap.size [(vI 0), (vI 0)] := h1l.blk
 refine E0 (fs (cur' := [(vI r1j.at_), (vI r1j.code)]) z_174 z z h22 z (lb z) (oA z) z) ?_
 rintro _ w2a ⟨h23, s24⟩
 refine Wn (Wq (WC_draw (X := noX) 0 (.rd 0 (.rd 1 (.rd 2 (.rd 3 (.rd 4 (.rd 5 .done)))))) mo (by kernel_rfl) fun w2b s1m _ => dR z z (fd f_174_0 z) ?_))
 have h1n := h23.ext s1m
 refine dR z z (l1 g_3 z fid (h1n.at z)) (dR z z (fd f_174_1 z) (dR z z (l1 g_3 z fid (h1n.at z)) (dR z z (asg z) (dR z z (asg z) (PR_done (Wo ?_))))))
 obtain rfl := som hm1x
 exact Wr (ret2 hr z z ⟨(bup (bM (bup (bM (bup (bup h13 s14) h16) s1k (mem1le h1a)) h1l.below) s24.one (mem1le (lt_ (lt_ h1a h16.size) s1k.size))) s1m), z, h1z, h20⟩)
def Q23 (w0 : World) (g1 : Nat) (B : Nat) (pa1_0 : Option Addr) (pn1_0 pc1_0 : Nat) (pa1_1 : Option Addr) (pn1_1 pc1_1 : Nat) (x1 : Locator) (r : Bool × Int) (v : Value) (w' : World) : Prop := Chg (· ∈ [g1]) w0 w' ∧ un2 (fun r1 r2 => (vB r1) = v ∧ inI r2 ∧ Blk w' g1 [(sl pa1_0 pn1_0 pc1_0), (sl pa1_1 pn1_1 pc1_1), (vI x1.rule), vI r2]) r
theorem W_impl_locator_pass {x1 : Locator} {g1 : Nat} {x2 : Int} {res : Bool × Int} (hm : M_impl_locator_pass n x1 x2 = some res) (hB1 : Blk w0 g1 [(sl pa1_0 pn1_0 pc1_0), (sl pa1_1 pn1_1 pc1_1), (vI x1.rule), (vI x1.at_)]) (hBw : B ≤ g1) (p1_0 : repS w0 B (sl pa1_0 pn1_0 pc1_0) x1.d.rules) (p1_1 : repS w0 B (sl pa1_1 pn1_1 pc1_1) x1.b) (p1_2 : inI x1.rule) (p1_3 : inI x1.at_) (p2_0 : inI x2) : CallsR prog 61 [(pt g1), (vI x2)] w0 (Q23 w0 g1 B pa1_0 pn1_0 pc1_0 pa1_1 pn1_1 pc1_1 x1 res) := by
 unfold M_impl_locator_pass at hm
 refine goF func61 z z (lb z) fun fn hr => Ws (Ra z (Wn (Wq (WC_draw (X := noX) 0 (.rd 0 (.rd 1 (.rd 2 (.rd 3 (.rd 4 (.rd 5 (.rd 6 (.rd 7 (.rd 8 (.rd 9 (.rd 10 (.rd 11 (.rd 12 (.ef 13 (.rd 14 (.rd 15 (.rd 16 (.rd 17 (.rd 18 .done))))))))))))))))))) mo (by kernel_rfl) fun w13 s10 _ => dR z z (mv z) (dR z z (rd_nil z) (dR z z (fd f_92_0 z) ?_))))))
 have h11 := hB1.ext s10
 refine dR z z (lN (vs := [(sl pa1_0 pn1_0 pc1_0)]) g_31 z_31 z z fid (h11.row 0 1 z)) (dR z z (mv z) (dR z z (mv z) (dR z z (rd_nil z) (dR z z (fd f_92_1 z) (dR z z (l1 g_25 z fid (h11.at z)) (dR z z (mv z) (dR z z (rd_nil z) (dR z z (fd f_92_3 z) (dR z z (l1 g_3 z fid (h11.at z)) ?_)))))))))
 obtain ⟨r14, r1f, e15, hm16⟩ := bd2S hm
 refine dE z z (fc call100 z (W_impl_CheckValue (B := B) (x1 := (⟨x1.d.rules⟩ : Desc)) e15 (lt_ (lt_ hBw (Nat.le_of_lt (Blk.lt hB1))) s10.size) (p1_0.ext s10) p2_0 (p1_1.ext s10) p1_3)) (.inr fun _ _ h => chgB (h.1)) ?_
 rintro _ w17 ⟨s12, rfl, h18, h1g⟩
 refine dR z z (mv z) (dR z z (ext_ z z) (dR z z (ext_ z z) (dR z z (asg z) (dR z z (asg z) (PR_done (Wo (Ws (Rm z (Rm z (R z (rd_nil z) (R z (fd f_92_3 z) (E0 (fs (cur' := [(sl pa1_0 pn1_0 pc1_0), (sl pa1_1 pn1_1 pc1_1), (vI x1.rule), (vI r14)]) z_3 z z (h11.ext s12) z (lb z) (oA z) z) ?_))))))))))))
 rintro _ w19 ⟨h1a, s1b⟩
 refine Wn (Ws (Rm z (R z (eql z z) (Ra z (Wn ?_)))))
 obtain rfl := som hm16
 have h1c : Chg (· ∈ [g1]) w0 w13 := cext (cr [g1] w0) s10
 have h1d : Chg (· ∈ [g1]) w0 w17 := cext h1c s12
 have h1e : Chg (· ∈ [g1]) w0 w19 := cM h1d s1b.one (io sr)
 exact Wr (ret1 hr z ⟨h1e, z, h18, h1a⟩)
def Q24 (w0 : World) (g1 : Nat) (B : Nat) (pa1_0 : Option Addr) (pn1_0 pc1_0 : Nat) (pa1_1 : Option Addr) (pn1_1 pc1_1 : Nat) (x1 : Locator) (r : Int × Bool × Int) (v : Value) (w' : World) : Prop := Chg (· ∈ [g1]) w0 w' ∧ un3 (fun r1 r2 r3 => v = .tuple #[(vI r1), (vB r2)] ∧ inI r1 ∧ inI r3 ∧ Blk w' g1 [(sl pa1_0 pn1_0 pc1_0), (sl pa1_1 pn1_1 pc1_1), (vI x1.rule), vI r3]) r
theorem W_impl_locator_number {x1 : Locator} {g1 : Nat} {x2 : Int} {res : Int × Bool × Int} (hm : M_impl_locator_number n x1 x2 = some res) (hB1 : Blk w0 g1 [(sl pa1_0 pn1_0 pc1_0), (sl pa1_1 pn1_1 pc1_1), (vI x1.rule), (vI x1.at_)]) (hBw : B ≤ g1) (p1_0 : repS w0 B (sl pa1_0 pn1_0 pc1_0) x1.d.rules) (p1_1 : repS w0 B (sl pa1_1 pn1_1 pc1_1) x1.b) (p1_2 : inI x1.rule) (p1_3 : inI x1.at_) (p2_0 : inI x2) : CallsR prog 130 [(pt g1), (vI x2)] w0 (Q24 w0 g1 B pa1_0 pn1_0 pc1_0 pa1_1 pn1_1 pc1_1 x1 res) := by
 unfold M_impl_locator_number at hm
 refine goF func130 z z (lb z) fun fn hr => Ws (Ra z (Ra z (Wn (Ws (Rm z (R z (rd_nil z) (R z (fd f_92_3 z) (R z (l1 g_3 z fid (hB1.at z)) (Ra z (Wn (Wq (Ws (Rm z (Rm z ?_))))))))))))))
 obtain ⟨r1q, r1r, e19, hm14⟩ := bd2S hm
 refine E z (fc call61 z (W_impl_locator_pass (B := B) e19 hB1 hBw p1_0 p1_1 p1_2 p1_3 p2_0)) ?_
 rintro _ w15 ⟨s10, rfl, h16, h17⟩
 refine R z (not_ z) (Wn (Wc z (fun hc13 => ?_) (fun hc13 => ?_)))
 ·refine Ws (Ra z (Ra z (Wn ?_)))
  obtain rfl := som (ifT hm14 hc13)
  have h1a : Chg (· ∈ [g1]) w0 w15 := cM (cr [g1] w0) s10 (io sr)
  exact Wr (ret2 hr z z ⟨h1a, z, (ii z), h16, h17⟩)
 refine Wk (Wq (WC_draw (X := noX) 0 (.rd 0 (.rd 1 (.rd 2 (.rd 3 (.rd 4 (.rd 5 (.rd 6 (.rd 7 (.rd 8 (.rd 9 (.rd 10 (.rd 11 (.rd 12 (.rd 13 (.rd 14 (.rd 15 (.rd 16 (.rd 17 (.rd 18 (.ef 19 (.rd 20 (.rd 21 .done)))))))))))))))))))))) mo (by kernel_rfl) fun w1b s11 _ => dR z z (mv z) (dR z z (rd_nil z) (dR z z (fd f_92_1 z) ?_))))
 have h12 := h17.ext s11
 refine dR z z (l1 g_25 z fid (h12.at z)) (dR z z (mv z) (dR z z (mv z) (dR z z (rd_nil z) (dR z z (fd f_92_3 z) (dR z z (l1 g_3 z fid (h12.at z)) ?_)))))
 obtain ⟨x1s, e1c, hm1d⟩ := bdS (ifF hm14 hc13)
 refine dRX z z (rd_sliceX d_25 z_5 z z ((p1_1.chg s10 (lg (mem1 hBw))).ext s11) z z e1c) ?_
 rintro _ ⟨a1t, n1u, c1v, rfl, h1e⟩
 refine dR z z (mv z) (dR z z (rd_nil z) (dR z z (fd f_92_0 z) (dR z z (fd f_31_0 z) (dR z z (l1 g_29 z fid (h12.at z)) (dR z z (mv z) ?_)))))
 obtain ⟨x1w, e1f, hm1g⟩ := bdS hm1d
 refine dRX z z (at_ (α := Rule) d_29 z_74 z z z ((p1_0.chg s10 (lg (mem1 hBw))).ext s11) e1f) ?_
 rintro _ ⟨b1x, o1y, cs1z, rfl, h1h, h1i, h20⟩
 obtain ⟨a21, n22, c23, a24, n25, c26, a27, n28, c29, a2a, n2b, c2c, rfl, h2d, h2e, h2f, h2g, h2h, h2i, h2j⟩ := Rule_open h1i
 refine dR z z (fd f_74_3 z) (dR z z (l1 g_4 z fid (h1h.at (j := 3) z)) ?_)
 obtain ⟨r2k, e1j, hm1k⟩ := bdS hm1g
 refine dE z z (fc call136 z (W_impl_ReadInteger (B := B) e1j (lt_ (lt_ hBw (Nat.le_of_lt (Blk.lt hB1))) (lt_ s10.size s11.size)) h1e)) (.inr fun _ _ h => chgB (h.1)) ?_
 rintro _ w1l ⟨s18, rfl, h1m⟩
 refine dR z z (asg z) (dR z z (asg z) (PR_done (Wo ?_)))
 obtain rfl := som hm1k
 have h1n : Chg (· ∈ [g1]) w0 w15 := cM (cr [g1] w0) s10 (io sr)
 have h1o : Chg (· ∈ [g1]) w0 w1b := cext h1n s11
 have h1p : Chg (· ∈ [g1]) w0 w1l := cext h1o s18
 exact Wr (ret2 hr z z ⟨h1p, z, h1m, h16, (h12.ext s18)⟩)
def Q25 (w0 : World) (g1 : Nat) (B : Nat) (pa1_0 : Option Addr) (pn1_0 pc1_0 : Nat) (pa1_1 : Option Addr) (pn1_1 pc1_1 : Nat) (x1 : Locator) (r : Bool × Int × Int) (v : Value) (w' : World) : Prop := Chg (· ∈ [g1]) w0 w' ∧ un3 (fun r1 r2 r3 => (vB r1) = v ∧ inI r2 ∧ inI r3 ∧ Blk w' g1 [(sl pa1_0 pn1_0 pc1_0), (sl pa1_1 pn1_1 pc1_1), vI r2, vI r3]) r
theorem W_impl_locator_item {x1 : Locator} {g1 : Nat} {x2 : Rule} {x3 : Str} {res : Bool × Int × Int} (hm : M_impl_locator_item n x1 x2 x3 = some res) (hB1 : Blk w0 g1 [(sl pa1_0 pn1_0 pc1_0), (sl pa1_1 pn1_1 pc1_1), (vI x1.rule), (vI x1.at_)]) (hBw : B ≤ g1) (p1_0 : repS w0 B (sl pa1_0 pn1_0 pc1_0) x1.d.rules) (p1_1 : repS w0 B (sl pa1_1 pn1_1 pc1_1) x1.b) (p1_2 : inI x1.rule) (p1_3 : inI x1.at_) (p2_0 : x2.name.b.length ≤ LEN) (p2_1 : inI x2.kind) (p2_2 : inI x2.size) (p2_4 : repS w0 B (sl pa2_4 pn2_4 pc2_4) x2.bytes) (p2_5 : repS w0 B (sl pa2_5 pn2_5 pc2_5) x2.names) (p2_6 : repS w0 B (sl pa2_6 pn2_6 pc2_6) x2.tags) (p2_7 : repS w0 B (sl pa2_7 pn2_7 pc2_7) x2.kids) (p3_0 : x3.b.length ≤ LEN) : CallsR prog 97 [(pt g1), (.agg #[(Str.v x2.name), (vI x2.kind), (vI x2.size), (vB x2.little), (sl pa2_4 pn2_4 pc2_4), (sl pa2_5 pn2_5 pc2_5), (sl pa2_6 pn2_6 pc2_6), (sl pa2_7 pn2_7 pc2_7)]), (Str.v x3)] w0 (Q25 w0 g1 B pa1_0 pn1_0 pc1_0 pa1_1 pn1_1 pc1_1 x1 res) := by
 unfold M_impl_locator_item at hm
 refine goF func97 z z (lb z) fun fn hr => Ws (E z (fb z) ?_)
 rintro _ w1b ⟨rfl, h1l⟩
 have h17 := h1l.below
 have h26 : Blk w1b w0.heap.size (vR x2 pa2_4 pn2_4 pc2_4 pa2_5 pn2_5 pc2_5 pa2_6 pn2_6 pc2_6 pa2_7 pn2_7 pc2_7) := h1l.blk
 refine Ra z (Wn (WC_scope 0 z (Ws (Rm z ?_))))
 obtain ⟨r1m, r27, e28, hm29⟩ := bd2S hm
 refine E z (fc call128 z (W_impl_ParseInt (B := B) e28 (lt_ (lt_ hBw (Nat.le_of_lt (Blk.lt hB1))) h17.size) p3_0)) ?_
 rintro _ w1d ⟨s18, rfl, h2a⟩
 refine Rm z (R z (ext_ z z) (R z (ext_ z z) (Ra z (Ra z (Wn (Ws (Rm z (R z (fd f_74_7 z) ?_))))))))
 have h1e := h26.ext s18
 refine R z (l1 g_72 z fid (h1e.at z)) ?_
 obtain ⟨x3o, e2b, hm2c⟩ := bdS hm29
 have h1f := (p2_7.ext h17).ext s18
 refine RX z (at_ (α := Int) d_72 z_3 z z z h1f e2b) ?_
 rintro _ ⟨b3p, o3q, cs3r, rfl, h2d, h2e, h3s⟩
 obtain ⟨rfl, h2f⟩ := Int_open h2e
 refine R z (l1 g_3 z fid (h2d.at0 z)) ?_
 have h1n := (p1_0.ext h17).ext s18
 have h1o := (p1_1.ext h17).ext s18
 obtain ⟨r1p, r2g, r3t, e2h, hm2i⟩ := bd3S hm2c
 refine E z (fc call130 z (W_impl_locator_number (B := B) e2h ((hB1.ext h17).ext s18) hBw h1n h1o p1_2 p1_3 h2f)) ?_
 rintro _ w11 ⟨s12, rfl, h3u, h1q, h1r⟩
 refine Rm z (R z (ext_ z z) (R z (ext_ z z) (Ra z (Ra z (Wn (Wq (Wq ?_)))))))
 obtain ⟨u2j, hu1s, hm1t⟩ := bdS hm2i
 refine WC_cut (fun a w => ∃ (x1g : Bool), x1g = u2j ∧ Sat 58 [(0, (pt g1)), (4, (pt w0.heap.size)), (7, (vI r1m)), (39, (vB x1g))] a ∧ Below w11.heap.size w11 w) ?_ ?_
 ·refine Wg (Rm z (R z (not_ z) (Rm z ?_)))
  rcases bs (!r27) with hc13 | hc13
  ·exact Nh z hc13 (Nh z hc13 (R z (pT z hc13 z) (Rm z (Nh z z (Nh z z (R z (pT z z z) (Rm z (Nh z z (Nh z z (Nh z z (R z (pT z z z) (Wl (fun _ q => ⟨true, som (ifT hu1s hc13), (q.k (s4 z z z z)), (br w11)⟩)))))))))))))
  have hm1u := ifF hu1s hc13
  refine Rh z hc13 (mv z) (Rh z hc13 (not_ z) (R z (pF z hc13 z) (Rm z ?_)))
  rcases bs (!r2g) with hc14 | hc14
  ·exact Nh z hc14 (Nh z hc14 (R z (pT z hc14 z) (Rm z (Nh z z (Nh z z (Nh z z (R z (pT z z z) (Wl (fun _ q => ⟨true, som (ifT hm1u hc14), (q.k (s4 z z z z)), (br w11)⟩)))))))))
  have hm1v := ifF hm1u hc14
  refine Rh z hc14 (mv z) (Rh z hc14 (rd_gtr z z) (R z (pF z hc14 z) (Rm z ?_)))
  rcases bs (decide (40 < r1p)) with hc15 | hc15
  ·iterate 3 refine Nh z hc15 ?_
   exact R z (pT z hc15 z) (Wl (fun _ q => ⟨true, som (ifT hm1v hc15), (q.k (s4 z z z z)), (br w11)⟩))
  exact Rh z hc15 (mv z) (Rh z hc15 (mv z) (Rh z hc15 (rd_geq z z) (R z (pF z hc15 z) (Wl (fun _ q => ⟨decide (r1p ≤ r1m), som (ifF hm1v hc15), (q.k (s4 z z z z)), (br w11)⟩)))))
 rintro a2k w19 ⟨x1g, rfl, hS3v, s10⟩
 revert a2k
 refine Wo (Wc z (fun hc1h => ?_) (fun hc1h => ?_))
 ·refine Ws (Ra z (Wn ?_))
  obtain rfl := som (ifT hm1t hc1h)
  have h2l : Chg (· ∈ [g1]) w0 w1b := cext (cr [g1] w0) h17
  have h2m : Chg (· ∈ [g1]) w0 w1d := cext h2l s18
  have h2n : Chg (· ∈ [g1]) w0 w11 := cM h2m s12 (io sr)
  have h2o : Chg (· ∈ [g1]) w0 w19 := cext h2n s10
  exact WC_retJ (ret1 hr z ⟨h2o, z, p1_2, h1q, (h1r.ext s10)⟩)
 refine Wk ?_
 obtain ⟨r3w, hu2p, hm2q⟩ := gotoS (ifF hm1t hc1h)
 refine WC_atLabel (σ := Int × Int) (ρ := Bool × Int × Int) (fun s a w => un2 (fun x1a x1c => Sat 58 [(0, (pt g1)), (4, (pt w0.heap.size)), (7, (vI x1a))] a ∧ Chg (· ∈ [g1]) w19 w ∧ inI x1a ∧ inI x1c ∧ Blk w g1 [(sl pa1_0 pn1_0 pc1_0), (sl pa1_1 pn1_1 pc1_1), (vI x1.rule), (vI x1c)]) s) (fun r ex a w => ex = .ret ∧ RetPost prog fn (Q25 w0 g1 B pa1_0 pn1_0 pc1_0 pa1_1 pn1_1 pc1_1 x1 r) a w) hu2p ?_ ?_ ?_
 ·exact fun _ q => ⟨(q.k (s3 z z z)), (cr [g1] w19), h2a, h1q, (h1r.ext s10)⟩
 ·rintro ⟨x1a, x1c⟩ a3x w1i o3y ⟨hS2r, s16, h3z, h1w, h1x⟩ hm2s
  have hm1y := un2S hm2s
  refine Wu (e := [(0, (pt g1)), (4, (pt w0.heap.size)), (7, (vI x1a))]) (N := 58) ?_ hS2r
  refine Wq (Ws (Rm z (R z (rd_gtr z z) (Wn (Wc z (fun hc1j => ?_) (fun hc1j => ?_))))))
  ·refine Wq (Ws (Rm z (R z (fd f_74_7 z) ?_)))
   have h1z := mmr (Blk.lt hB1)
   refine R z (l1 g_72 z fid ((((h1e.chg s12 (atp h1z)).ext s10).chg s16 (atp h1z)).at z)) ?_
   obtain ⟨x40, e2t, hm2u⟩ := bdS (ifT hm1y hc1j)
   refine RX z (at_ (α := Int) d_72 z_3 z z z (((h1f.chg s12 (lg (mem1 hBw))).ext s10).chg s16 (lg (mem1 hBw))) e2t) ?_
   rintro _ ⟨b41, o42, cs43, rfl, h2v, h2w, h44⟩
   obtain ⟨rfl, h2x⟩ := Int_open h2w
   refine R z (l1 g_3 z fid (h2v.at0 z)) ?_
   obtain ⟨r45, r2y, e2z, hm20⟩ := bd2S hm2u
   refine E z (fc call61 z (W_impl_locator_pass (B := B) e2z h1x hBw (((h1n.chg s12 (lg (mem1 hBw))).ext s10).chg s16 (lg (mem1 hBw))) (((h1o.chg s12 (lg (mem1 hBw))).ext s10).chg s16 (lg (mem1 hBw))) p1_2 h1w h2x)) ?_
   rintro _ w21 ⟨s22, rfl, h23, h24⟩
   refine R z (not_ z) (Wn (Wc z (fun hc1k => ?_) (fun hc1k => ?_)))
   ·refine Ws (Ra z (Wn ?_))
    have h30 : Chg (· ∈ [g1]) w0 w1b := cext (cr [g1] w0) h17
    have h31 : Chg (· ∈ [g1]) w0 w1d := cext h30 s18
    have h32 : Chg (· ∈ [g1]) w0 w11 := cM h31 s12 (io sr)
    have h33 : Chg (· ∈ [g1]) w0 w19 := cext h32 s10
    have h34 : Chg (· ∈ [g1]) w0 w1i := cM h33 s16 (io sr)
    have h35 : Chg (· ∈ [g1]) w0 w21 := cM h34 s22 (io sr)
    exact WC_retJ (QO_retL (som (ifT hm20 hc1k)).symm (ret1 hr z ⟨h35, z, p1_2, h23, h24⟩))
   refine Wk (Ws (Rm z (R z (sb_ z z) (Ra z (Wn ?_)))))
   have h36 : Chg (· ∈ [g1]) w19 w1i := cM (cr [g1] w19) s16 (io sr)
   have h37 : Chg (· ∈ [g1]) w19 w21 := cM h36 s22 (io sr)
   exact WC_goto fun a' ha' => ⟨rfl, (isub x1a 1, r2y), (som (ifF hm20 hc1k)).symm, ⟨(Sat.weaken ha' (s3 z z z)), h37, (iS _ _), h23, h24⟩⟩
  refine Wk (Ws (Rm z (R z (fd f_74_7 z) ?_)))
  have h25 := mmr (Blk.lt hB1)
  refine R z (l1 g_72 z fid ((((h1e.chg s12 (atp h25)).ext s10).chg s16 (atp h25)).at z)) ?_
  obtain ⟨x38, e39, hm3a⟩ := bdS (ifF hm1y hc1j)
  refine RX z (at_ (α := Int) d_72 z_3 z z z (((h1f.chg s12 (lg (mem1 hBw))).ext s10).chg s16 (lg (mem1 hBw))) e39) ?_
  rintro _ ⟨b46, o47, cs48, rfl, h3b, h3c, h49⟩
  obtain ⟨rfl, h3d⟩ := Int_open h3c
  refine R z (l1 g_3 z fid (h3b.at0 z)) (R z (rd_nil z) (R z (fd f_92_2 z) (E0 (fs (cur' := [(sl pa1_0 pn1_0 pc1_0), (sl pa1_1 pn1_1 pc1_1), (vI x38), (vI x1c)]) z_3 z z h1x z (lb z) (oA z) z) ?_)))
  rintro _ w3e ⟨h3f, s3g⟩
  refine Wn (Ws (Ra z (Wn ?_)))
  have h3h : Chg (· ∈ [g1]) w0 w1b := cext (cr [g1] w0) h17
  have h3i : Chg (· ∈ [g1]) w0 w1d := cext h3h s18
  have h3j : Chg (· ∈ [g1]) w0 w11 := cM h3i s12 (io sr)
  have h3k : Chg (· ∈ [g1]) w0 w19 := cext h3j s10
  have h3l : Chg (· ∈ [g1]) w0 w1i := cM h3k s16 (io sr)
  have h3m : Chg (· ∈ [g1]) w0 w3e := cM h3l s3g.one (io sr)
  exact WC_retJ (QO_retL (som hm3a).symm (ret1 hr z ⟨h3m, z, h3d, h1w, h3f⟩))
 rintro ex4a a4b w4c ⟨rfl, hq3n⟩
 obtain rfl := som hm2q
 exact ⟨hq3n, z⟩
theorem W_impl_locator_part {x1 : Locator} {g1 : Nat} {x2 : Rule} {x3 : Str} {res : Bool × Int × Int} (hm : M_impl_locator_part n x1 x2 x3 = some res) (hB1 : Blk w0 g1 [(sl pa1_0 pn1_0 pc1_0), (sl pa1_1 pn1_1 pc1_1), (vI x1.rule), (vI x1.at_)]) (hBw : B ≤ g1) (p1_0 : repS w0 B (sl pa1_0 pn1_0 pc1_0) x1.d.rules) (p1_1 : repS w0 B (sl pa1_1 pn1_1 pc1_1) x1.b) (p1_2 : inI x1.rule) (p1_3 : inI x1.at_) (p2_0 : x2.name.b.length ≤ LEN) (p2_1 : inI x2.kind) (p2_2 : inI x2.size) (p2_4 : repS w0 B (sl pa2_4 pn2_4 pc2_4) x2.bytes) (p2_5 : repS w0 B (sl pa2_5 pn2_5 pc2_5) x2.names) (p2_6 : repS w0 B (sl pa2_6 pn2_6 pc2_6) x2.tags) (p2_7 : repS w0 B (sl pa2_7 pn2_7 pc2_7) x2.kids) (p3_0 : x3.b.length ≤ LEN) : CallsR prog 98 [(pt g1), (.agg #[(Str.v x2.name), (vI x2.kind), (vI x2.size), (vB x2.little), (sl pa2_4 pn2_4 pc2_4), (sl pa2_5 pn2_5 pc2_5), (sl pa2_6 pn2_6 pc2_6), (sl pa2_7 pn2_7 pc2_7)]), (Str.v x3)] w0 (Q25 w0 g1 B pa1_0 pn1_0 pc1_0 pa1_1 pn1_1 pc1_1 x1 res) := by
 unfold M_impl_locator_part at hm
 refine goF func98 z z (lb z) fun fn hr => Ws (E z (fb z) ?_)
 rintro _ w11 ⟨rfl, h1f⟩
 have h13 := h1f.below
 have h1b : Blk w11 w0.heap.size (vR x2 pa2_4 pn2_4 pc2_4 pa2_5 pn2_5 pc2_5 pa2_6 pn2_6 pc2_6 pa2_7 pn2_7 pc2_7) := h1f.blk
 refine Ra z (Wn (Wq (Ws (R z (fd f_74_5 z) (R z (l1 g_47 z fid (h1b.at z)) ?_)))))
 have h1g := p2_5.ext h13
 refine R z (lnR d_47 z h1g) (Rm z (Wn ?_))
 obtain ⟨u3e, hu1t, hm1h⟩ := bdS hm
 refine WC_forN (σ := Int) (ρ := Bool × Int × Int) (fun (k1a : Nat) (x14 : Int) a w => Sat 44 [(0, (pt g1)), (2, (Str.v x3)), (4, (pt w0.heap.size)), (10, (sl pa2_5 pn2_5 pc2_5)), (11, (vI (x2.names.length : Int))), (12, (vI ((k1a : Nat) : Int)))] a ∧ Chg (· ∈ [g1]) w11 w ∧ inI x14 ∧ Blk w g1 [(sl pa1_0 pn1_0 pc1_0), (sl pa1_1 pn1_1 pc1_1), (vI x1.rule), (vI x14)]) (fun (x14 : Int) a w => Sat 44 [] a ∧ Chg (· ∈ [g1]) w11 w ∧ inI x14 ∧ Blk w g1 [(sl pa1_0 pn1_0 pc1_0), (sl pa1_1 pn1_1 pc1_1), (vI x1.rule), (vI x14)]) (fun r ex a w => ex = .ret ∧ RetPost prog fn (Q25 w0 g1 B pa1_0 pn1_0 pc1_0 pa1_1 pn1_1 pc1_1 x1 r) a w) hu1t ?_ ?_ ?_ ?_ ?_
 ·exact fun _ q => ⟨(q.k (s6 z z z z z z)), (cr [g1] w11), p1_3, (hB1.ext h13)⟩
 ·rintro k1a x14 a3f w15 o3g hk1i ⟨hS1u, s12, h17, h18⟩ hm1v
  refine Wu (e := [(0, (pt g1)), (2, (Str.v x3)), (4, (pt w0.heap.size)), (10, (sl pa2_5 pn2_5 pc2_5)), (11, (vI (x2.names.length : Int))), (12, (vI ((k1a : Nat) : Int)))]) (N := 44) ?_ hS1u
  refine Ws (R z (lss z z) (Wn (Wq (Wc z (fun _ => ?_) (fun hc => (nolt hk1i hc).elim)))))
  refine Wk (Wq (WC_block (Ws (Rm z ?_))))
  obtain ⟨x3h, e1w, hm1j⟩ := bdS hm1v
  have h1k := h1g.chg s12 (lg (mem1 hBw))
  refine RX z (at_ (α := Str) d_47 z_9 z z z h1k e1w) ?_
  rintro _ ⟨b3i, o3j, cs3k, rfl, h1x, h1y, h3l⟩
  obtain ⟨rfl, h3m⟩ := Str_open h1y
  refine R z (l1 g_9 z fid (h1x.at0 z)) (Ra z (Ra z (Wn (Wq (Ws (Rm z (Rm z (R z (rd_eqlT z z) (Wn (Wc z (fun hc1c => ?_) (fun hc1c => ?_)))))))))))
  ·refine Ws (Rm z (R z (fd f_74_7 z) (R z (l1 g_72 z fid ((h1b.chg s12 (atp (mmr (Blk.lt hB1)))).at z)) (Rm z ?_))))
   obtain ⟨x1z, e20, hm21⟩ := bdS (ifT hm1j hc1c)
   refine RX z (at_ (α := Int) d_72 z_3 z z z ((p2_7.ext h13).chg s12 (lg (mem1 hBw))) e20) ?_
   rintro _ ⟨b3n, o3o, cs3p, rfl, h22, h23, h3q⟩
   obtain ⟨rfl, h24⟩ := Int_open h23
   refine R z (l1 g_3 z fid (h22.at0 z)) (R z (rd_nil z) (R z (fd f_92_2 z) (E0 (fs (cur' := [(sl pa1_0 pn1_0 pc1_0), (sl pa1_1 pn1_1 pc1_1), (vI x1z), (vI x14)]) z_3 z z h18 z (lb z) (oA z) z) ?_)))
   rintro _ w25 ⟨h26, s27⟩
   refine Wn (Ws (Ra z (Wn ?_)))
   have h28 : Chg (· ∈ [g1]) w0 w11 := cext (cr [g1] w0) h13
   have h29 : Chg (· ∈ [g1]) w0 w15 := cM h28 s12 (io sr)
   have h2a : Chg (· ∈ [g1]) w0 w25 := cM h29 s27.one (io sr)
   exact Wr (rtO (QO_retL (som hm21).symm (ret1 hr z ⟨h2a, z, h24, h17, h26⟩)))
  refine Wk (Wq ?_)
  obtain ⟨u2b, hu2c, hm2d⟩ := bdS (ifF hm1j hc1c)
  refine WC_cut (fun a w => ∃ (x1d : Bool) (x19 : Int), (x1d, x19) = u2b ∧ Sat 44 [(0, (pt g1)), (2, (Str.v x3)), (4, (pt w0.heap.size)), (10, (sl pa2_5 pn2_5 pc2_5)), (11, (vI (x2.names.length : Int))), (12, (vI ((k1a : Nat) : Int))), (42, (vB x1d))] a ∧ Chg (· ∈ [g1]) w15 w ∧ inI x19 ∧ Blk w g1 [(sl pa1_0 pn1_0 pc1_0), (sl pa1_1 pn1_1 pc1_1), (vI x1.rule), (vI x19)]) ?_ ?_
  ·refine Wg (R z (fd f_74_5 z) ?_)
   have h1l := h1b.chg s12 (atp (mmr (Blk.lt hB1)))
   refine R z (l1 g_47 z fid (h1l.at z)) (Rm z ?_)
   obtain ⟨r2e, e2f, hm1m⟩ := bdS hu2c
   refine E z (fc call131 z (W_impl_ContainsText (B := B) e2f (lt_ (lt_ hBw (Nat.le_of_lt (Blk.lt hB1))) (lt_ h13.size s12.size)) h1k p3_0)) ?_
   rintro _ w1n ⟨s16, rfl⟩
   refine R z (not_ z) (Rm z ?_)
   rcases bs (!r2e) with hc10 | hc10
   ·iterate 8 refine Nh z hc10 ?_
    refine R z (pT z hc10 z) (Wl ?_)
    have h2g : Chg (· ∈ [g1]) w15 w1n := cext (cr [g1] w15) s16
    exact fun _ q => ⟨true, x14, som (ifT hm1m hc10), (q.k (s7 z z z z z z z)), h2g, h17, (h18.ext s16)⟩
   refine Rh z hc10 (mv z) (Rh z hc10 (fd f_74_7 z) (Rh z hc10 (l1 g_72 z fid ((h1l.ext s16).at z)) (Rh z hc10 (mv z) ?_)))
   obtain ⟨x3r, e2h, hm2i⟩ := bdS (ifF hm1m hc10)
   refine RXg z z hc10 z (at_ (α := Int) d_72 z_3 z z z (((p2_7.ext h13).chg s12 (lg (mem1 hBw))).ext s16) e2h) ?_
   rintro _ ⟨b3s, o3t, cs3u, rfl, h2j, h2k, h3v⟩
   obtain ⟨rfl, h2l⟩ := Int_open h2k
   refine Rh z hc10 (l1 g_3 z fid (h2j.at0 z)) ?_
   obtain ⟨r2m, r2n, e2o, hm2p⟩ := bd2S hm2i
   refine Eg z z hc10 z (fc call61 z (W_impl_locator_pass (B := B) e2o (h18.ext s16) hBw (((p1_0.ext h13).chg s12 (lg (mem1 hBw))).ext s16) (((p1_1.ext h13).chg s12 (lg (mem1 hBw))).ext s16) p1_2 h17 h2l)) ?_
   rintro _ w2q ⟨s2r, rfl, h2s, h2t⟩
   refine Rh z hc10 (not_ z) (R z (pF z hc10 z) (Wl ?_))
   have h2u : Chg (· ∈ [g1]) w15 w1n := cext (cr [g1] w15) s16
   have h2v : Chg (· ∈ [g1]) w15 w2q := cM h2u s2r (io sr)
   exact fun _ q => ⟨!r2m, r2n, som hm2p, (q.k (s7 z z z z z z z)), h2v, h2s, h2t⟩
  rintro a2w w1o ⟨x1d, x19, rfl, hS3w, s1p, h1q, h1r⟩
  have hm1s := un2S hm2d
  revert a2w
  refine Wo (Wc z (fun hc1e => ?_) (fun hc1e => ?_))
  ·refine Ws (Ra z (Wn ?_))
   have h2x : Chg (· ∈ [g1]) w0 w11 := cext (cr [g1] w0) h13
   have h2y : Chg (· ∈ [g1]) w0 w15 := cM h2x s12 (io sr)
   have h2z : Chg (· ∈ [g1]) w0 w1o := cM h2y s1p (io sr)
   exact Wr (rtO (QO_retL (som (ifT hm1s hc1e)).symm (ret1 hr z ⟨h2z, z, p1_2, h1q, h1r⟩)))
  refine Wk (Wg (R z (inc_ hk1i (lt_ (repS.len p2_5) LEN_le) z z) (Rm z (Wl ?_))))
  have h30 : Chg (· ∈ [g1]) w11 w15 := cM (cr [g1] w11) s12 (io sr)
  have h31 : Chg (· ∈ [g1]) w11 w1o := cM h30 s1p (io sr)
  exact fun _ q => ⟨x19, (som (ifF hm1s hc1e)).symm, ⟨(q.k (s6 z z z z z z)), h31, h1q, h1r⟩⟩
 ·rintro x14 a3x w32 ⟨hS33, s34, h17, h18⟩
  refine Wu (e := [(0, (pt g1)), (2, (Str.v x3)), (4, (pt w0.heap.size)), (10, (sl pa2_5 pn2_5 pc2_5)), (11, (vI (x2.names.length : Int))), (12, (vI ((x2.names.length : Nat) : Int)))]) (N := 44) ?_ hS33
  refine Ws (R z (lss z z) (Wn (Wq (Wc z (fun hc => (noltt hc).elim) (fun _ => ?_)))))
  have h35 : Chg (· ∈ [g1]) w11 w32 := cM (cr [g1] w11) s34 (io sr)
  exact WC_exit (fun a' ha' => ⟨rfl, ⟨(Sat.weaken ha' sn), h35, h17, h18⟩⟩)
 ·rintro x14 a36 w37 rfl ⟨hS3y, s38, h17, h18⟩
  have hm39 := elL hm1h
  revert a36
  refine Wo (Ws (Ra z (Wn ?_)))
  obtain rfl := som hm39
  have h3a : Chg (· ∈ [g1]) w0 w11 := cext (cr [g1] w0) h13
  have h3b : Chg (· ∈ [g1]) w0 w37 := cM h3a s38 (io sr)
  exact Wr (ret1 hr z ⟨h3b, z, p1_2, h17, h18⟩)
 rintro r3z ex40 a41 w42 rfl ⟨rfl, hq3c⟩
 have hm3d := elR hm1h
 obtain rfl := som hm3d
 exact ⟨hq3c, z⟩
theorem W_impl_locator_alternative_1 {x1 : Int} {x2 : Int} {b2 o2 : Nat} {res : Bool} (hm : M_impl_locator_alternative_1 x1 x2 = some res) (hBw : B ≤ w0.heap.size) (p1_0 : inI x1) (p2_0 : inI x2) (hC2 : CellsAt w0 b2 o2 [(vI x2)]) (hC2b : b2 < B) : CallsR prog 133 [(vI x1), (.pointer (some ⟨b2, o2, none⟩))] w0 (Q7 w0 B res) := by
 unfold M_impl_locator_alternative_1 at hm
 refine goF func133 z z (lb z) fun fn hr => Ws (Ra z (Wn (Ws (Rm z (R z (l1 g_3 z fid (hC2.at0 z)) (R z (eql z z) (Ra z (Wn ?_))))))))
 obtain rfl := som hm
 exact Wr (ret1 hr z ⟨(br w0), z⟩)
theorem W_impl_indexFunc_g_impl_locator_alternative_1 {x1 : List Int} {x2c0 : Int} {b2c0 o2c0 : Nat} {res : Int} (hm : M_impl_indexFunc_g_impl_locator_alternative_1 x1 x2c0 = some res) (hBw : B ≤ w0.heap.size) (p1_0 : repS w0 B (sl pa1_0 pn1_0 pc1_0) x1) (p2c0_0 : inI x2c0) (hC2c0 : CellsAt w0 b2c0 o2c0 [(vI x2c0)]) (hC2c0b : b2c0 < B) : CallsR prog 132 [(sl pa1_0 pn1_0 pc1_0), (.func (.func 133) #[] #[(.pointer (some ⟨b2c0, o2c0, none⟩))])] w0 (Q0 w0 B res) := by
 unfold M_impl_indexFunc_g_impl_locator_alternative_1 at hm
 refine goF func132 z z (lb z) fun fn hr => Ws (Ra z (Wn (Wq (Ws (Rm z (R z (lnR d_72 z p1_0) (Rm z (Wn ?_))))))))
 obtain ⟨u1n, hu17, hm14⟩ := bdS hm
 refine WC_forN (σ := Unit) (ρ := Int) (fun (k11 : Nat) (_ : Unit) a w => Sat 19 [(1, (.func (.func 133) #[] #[(.pointer (some ⟨b2c0, o2c0, none⟩))])), (7, (sl pa1_0 pn1_0 pc1_0)), (8, (vI (x1.length : Int))), (9, (vI ((k11 : Nat) : Int)))] a ∧ Below w0.heap.size w0 w) (fun (_ : Unit) a w => Sat 19 [] a ∧ Below w0.heap.size w0 w) (fun r ex a w => ex = .ret ∧ RetPost prog fn (Q0 w0 B r) a w) hu17 ?_ ?_ ?_ ?_ ?_
 ·exact fun _ q => ⟨(q.k (s4 z z z z)), (br w0)⟩
 ·rintro k11 _ a1o w1p o1q hk12 ⟨hS18, s10⟩ hm19
  refine Wu (e := [(1, (.func (.func 133) #[] #[(.pointer (some ⟨b2c0, o2c0, none⟩))])), (7, (sl pa1_0 pn1_0 pc1_0)), (8, (vI (x1.length : Int))), (9, (vI ((k11 : Nat) : Int)))]) (N := 19) ?_ hS18
  refine Ws (R z (lss z z) (Wn (Wq (Wc z (fun _ => ?_) (fun hc => (nolt hk12 hc).elim)))))
  refine Wk (Wq (WC_block (Ws (Rm z ?_))))
  obtain ⟨x1r, e1a, hm1b⟩ := bdS hm19
  refine RX z (at_ (α := Int) d_72 z_3 z z z (p1_0.ext s10) e1a) ?_
  rintro _ ⟨b1s, o1t, cs1u, rfl, h1c, h1d, h1v⟩
  obtain ⟨rfl, h1e⟩ := Int_open h1d
  refine R z (l1 g_3 z fid (h1c.at0 z)) (Ra z (Ra z (Wn (Ws (Rm z (Rm z ?_))))))
  obtain ⟨r1w, e1f, hm15⟩ := bdS hm1b
  refine E z (ef_callV call133 z z (W_impl_locator_alternative_1 (B := B) e1f (lt_ hBw s10.size) h1e p2c0_0 (hC2c0.ext s10) hC2c0b)) ?_
  rintro _ w1x ⟨s16, rfl⟩
  refine Wn (Wc z (fun hc13 => ?_) (fun hc13 => ?_))
  ·exact Ws (Rm z (Ra z (Wn (Wr (rtO (QO_retL (som (ifT hm15 hc13)).symm (ret1 hr z ⟨(bup s10 s16), z, (inI_cnt (Nat.le_of_lt hk12) (lt_ (repS.len p1_0) LEN_le))⟩)))))))
  exact Wk (Wg (R z (inc_ hk12 (lt_ (repS.len p1_0) LEN_le) z z) (Rm z (Wl (fun _ q => ⟨(), (som (ifF hm15 hc13)).symm, ⟨(q.k (s4 z z z z)), (bup s10 s16)⟩⟩)))))
 ·rintro _ a1y w1z ⟨hS1g, s1h⟩
  refine Wu (e := [(1, (.func (.func 133) #[] #[(.pointer (some ⟨b2c0, o2c0, none⟩))])), (7, (sl pa1_0 pn1_0 pc1_0)), (8, (vI (x1.length : Int))), (9, (vI ((x1.length : Nat) : Int)))]) (N := 19) ?_ hS1g
  refine Ws (R z (lss z z) (Wn (Wq (Wc z (fun hc => (noltt hc).elim) (fun _ => ?_)))))
  exact WC_exit (fun a' ha' => ⟨rfl, ⟨(Sat.weaken ha' sn), s1h⟩⟩)
 ·rintro _ a1i w20 rfl ⟨hS21, s1j⟩
  have hm1k := elL hm14
  revert a1i
  refine Wo (Ws (Ra z (Wn ?_)))
  obtain rfl := som hm1k
  exact Wr (ret1 hr z ⟨s1j, z, (ii z)⟩)
 rintro r22 ex23 a24 w25 rfl ⟨rfl, hq1l⟩
 have hm1m := elR hm14
 obtain rfl := som hm1m
 exact ⟨hq1l, z⟩
theorem W_impl_locator_alternative {x1 : Locator} {g1 : Nat} {x2 : Rule} {res : Bool × Int × Int} (hm : M_impl_locator_alternative n x1 x2 = some res) (hB1 : Blk w0 g1 [(sl pa1_0 pn1_0 pc1_0), (sl pa1_1 pn1_1 pc1_1), (vI x1.rule), (vI x1.at_)]) (hBw : B ≤ g1) (p1_0 : repS w0 B (sl pa1_0 pn1_0 pc1_0) x1.d.rules) (p1_1 : repS w0 B (sl pa1_1 pn1_1 pc1_1) x1.b) (p1_2 : inI x1.rule) (p1_3 : inI x1.at_) (p2_0 : x2.name.b.length ≤ LEN) (p2_1 : inI x2.kind) (p2_2 : inI x2.size) (p2_4 : repS w0 B (sl pa2_4 pn2_4 pc2_4) x2.bytes) (p2_5 : repS w0 B (sl pa2_5 pn2_5 pc2_5) x2.names) (p2_6 : repS w0 B (sl pa2_6 pn2_6 pc2_6) x2.tags) (p2_7 : repS w0 B (sl pa2_7 pn2_7 pc2_7) x2.kids) : CallsR prog 99 [(pt g1), (.agg #[(Str.v x2.name), (vI x2.kind), (vI x2.size), (vB x2.little), (sl pa2_4 pn2_4 pc2_4), (sl pa2_5 pn2_5 pc2_5), (sl pa2_6 pn2_6 pc2_6), (sl pa2_7 pn2_7 pc2_7)])] w0 (Q25 w0 g1 B pa1_0 pn1_0 pc1_0 pa1_1 pn1_1 pc1_1 x1 res) := by
 unfold M_impl_locator_alternative at hm
 refine goF func99 z z (lb z) fun fn hr => Ws (E z (fb z) ?_)
 rintro _ w1b ⟨rfl, h1f⟩
 have h11 := h1f.below
 have h1c : Blk w1b w0.heap.size (vR x2 pa2_4 pn2_4 pc2_4 pa2_5 pn2_5 pc2_5 pa2_6 pn2_6 pc2_6 pa2_7 pn2_7 pc2_7) := h1f.blk
 refine Ra z (Wn (Ws (Rm z (R z (fd f_74_7 z) (R z (l1 g_72 z fid (h1c.at z)) ?_)))))
 obtain ⟨x2x, e1s, hm1t⟩ := bdS hm
 have h1g := p2_7.ext h11
 refine RX z (at_ (α := Int) d_72 z_3 z z z h1g e1s) ?_
 rintro _ ⟨b2y, o2z, cs30, rfl, h1u, h1v, h31⟩
 obtain ⟨rfl, h1w⟩ := Int_open h1v
 refine R z (l1 g_3 z fid (h1u.at0 z)) ?_
 obtain ⟨r1x, r1y, r1z, e20, hm21⟩ := bd3S hm1t
 refine E z (fc call130 z (W_impl_locator_number (B := B) e20 (hB1.ext h11) hBw (p1_0.ext h11) (p1_1.ext h11) p1_2 p1_3 h1w)) ?_
 rintro _ w19 ⟨s14, rfl, h22, h1h, h1i⟩
 refine Rm z (R z (ext_ z z) (R z (ext_ z z) (E z (fa zero_3) ?_)))
 rintro _ w1a ⟨rfl, h1j⟩
 have h12 := h1j.below
 have h1k : Blk w1a w19.heap.size [(vI 0)] := h1j.blk
 refine E0 (fs (cur' := [(vI r1x)]) z_3 z z h1k z (lb z) (oA z) z) ?_
 rintro _ w1l ⟨h23, s24⟩
 have h13 := s24.one
 refine Ra z (Wn (Ws (R z (fd f_74_6 z) ?_)))
 have h1m := ((h1c.chg s14 (atp (mmr (Blk.lt hB1)))).ext h12).chg h13 (djs (mm1 h1c.lt s14.size))
 refine R z (l1 g_72 z fid (h1m.at z)) (R z (rd_makeFunc z) ?_)
 have h15 := lt_ h11.size s14.size
 have h1n := mem1le (lt_ (lt_ hBw (Nat.le_of_lt (Blk.lt hB1))) h15)
 obtain ⟨r1o, e25, hm26⟩ := bdS hm21
 refine E z (fc call132 z (W_impl_indexFunc_g_impl_locator_alternative_1 (B := w1a.heap.size) e25 h13.size (repS.mono ((((p2_6.ext h11).chg s14 (lg (mem1 hBw))).ext h12).chg h13 (lg h1n)) (lt_ (lt_ hBw (Nat.le_of_lt (Blk.lt hB1))) (lt_ h15 h12.size))) h22 (h23.row 0 1 z) h1k.lt)) ?_
 rintro _ w16 ⟨s17, rfl, h32⟩
 refine Ra z (Wn (Wq (Wq ?_)))
 obtain ⟨u27, hu1p, hm1q⟩ := bdS hm26
 refine WC_cut (fun a w => ∃ (x1d : Bool), x1d = u27 ∧ Sat 36 [(0, (pt g1)), (3, (pt w0.heap.size)), (7, (vI r1o)), (26, (vB x1d))] a ∧ Below w16.heap.size w16 w) ?_ ?_
 ·refine Wg (Rm z (R z (not_ z) (Rm z ?_)))
  rcases bs (!r1y) with hc10 | hc10
  ·exact Nh z hc10 (Nh z hc10 (R z (pT z hc10 z) (Wl (fun _ q => ⟨true, som (ifT hu1p hc10), (q.k (s4 z z z z)), (br w16)⟩))))
  exact Rh z hc10 (mv z) (Rh z hc10 (lss z z) (R z (pF z hc10 z) (Wl (fun _ q => ⟨decide (r1o < 0), som (ifF hu1p hc10), (q.k (s4 z z z z)), (br w16)⟩))))
 rintro a28 w1r ⟨x1d, rfl, hS33, s18⟩
 revert a28
 refine Wo (Wc z (fun hc1e => ?_) (fun hc1e => ?_))
 ·refine Ws (Ra z (Wn ?_))
  obtain rfl := som (ifT hm1q hc1e)
  have h29 : Chg (· ∈ [g1]) w0 w1b := cext (cr [g1] w0) h11
  have h2a : Chg (· ∈ [g1]) w0 w19 := cM h29 s14 (io sr)
  have h2b : Chg (· ∈ [g1]) w0 w1a := cext h2a h12
  have h2c : ∀ k ∈ [w19.heap.size], k ∈ [g1] ∨ w0.heap.size ≤ k := mor h15
  have h2d : Chg (· ∈ [g1]) w0 w1l := cM h2b h13 h2c
  have h2e : Chg (· ∈ [g1]) w0 w16 := cext h2d s17
  have h2f : Chg (· ∈ [g1]) w0 w1r := cext h2e s18
  exact Wr (ret1 hr z ⟨h2f, z, p1_2, h1h, ((((h1i.ext h12).chg h13 (djs (mm1 (Blk.lt hB1) h15))).ext s17).ext s18)⟩)
 refine Wk (Ws (Rm z (R z (fd f_74_7 z) (R z (l1 g_72 z fid (((h1m.ext s17).ext s18).at z)) (Rm z (R z (add_ z z) ?_))))))
 obtain ⟨x2g, e2h, hm2i⟩ := bdS (ifF hm1q hc1e)
 refine RX z (at_ (α := Int) d_72 z_3 z z z (((((h1g.chg s14 (lg (mem1 hBw))).ext h12).chg h13 (lg h1n)).ext s17).ext s18) e2h) ?_
 rintro _ ⟨b34, o35, cs36, rfl, h2j, h2k, h37⟩
 obtain ⟨rfl, h2l⟩ := Int_open h2k
 refine R z (l1 g_3 z fid (h2j.at0 z)) (R z (rd_nil z) (R z (fd f_92_2 z) (E0 (fs (cur' := [(sl pa1_0 pn1_0 pc1_0), (sl pa1_1 pn1_1 pc1_1), (vI x2g), (vI r1z)]) z_3 z z ((((h1i.ext h12).chg h13 (djs (mm1 (Blk.lt hB1) h15))).ext s17).ext s18) z (lb z) (oA z) z) ?_)))
 rintro _ w2m ⟨h2n, s2o⟩
 refine Wn (Ws (Ra z (Wn ?_)))
 obtain rfl := som hm2i
 have h2p : Chg (· ∈ [g1]) w0 w1b := cext (cr [g1] w0) h11
 have h2q : Chg (· ∈ [g1]) w0 w19 := cM h2p s14 (io sr)
 have h2r : Chg (· ∈ [g1]) w0 w1a := cext h2q h12
 have h2s : ∀ k ∈ [w19.heap.size], k ∈ [g1] ∨ w0.heap.size ≤ k := mor h15
 have h2t : Chg (· ∈ [g1]) w0 w1l := cM h2r h13 h2s
 have h2u : Chg (· ∈ [g1]) w0 w16 := cext h2t s17
 have h2v : Chg (· ∈ [g1]) w0 w1r := cext h2u s18
 have h2w : Chg (· ∈ [g1]) w0 w2m := cM h2v s2o.one (io sr)
 exact Wr (ret1 hr z ⟨h2w, z, h2l, h1h, h2n⟩)
theorem W_impl_locator_follow {x1 : Locator} {g1 : Nat} {x2 : Str} {res : Bool × Int × Int} (hm : M_impl_locator_follow n x1 x2 = some res) (hB1 : Blk w0 g1 [(sl pa1_0 pn1_0 pc1_0), (sl pa1_1 pn1_1 pc1_1), (vI x1.rule), (vI x1.at_)]) (hBw : B ≤ g1) (p1_0 : repS w0 B (sl pa1_0 pn1_0 pc1_0) x1.d.rules) (p1_1 : repS w0 B (sl pa1_1 pn1_1 pc1_1) x1.b) (p1_2 : inI x1.rule) (p1_3 : inI x1.at_) (p2_0 : x2.b.length ≤ LEN) : CallsR prog 60 [(pt g1), (Str.v x2)] w0 (Q25 w0 g1 B pa1_0 pn1_0 pc1_0 pa1_1 pn1_1 pc1_1 x1 res) := by
 unfold M_impl_locator_follow at hm
 refine goF func60 z z (lb z) fun fn hr => Ws (Ra z (Wn (Wq (WC_draw (X := noX) 4096 (.rd 0 (.rd 1 (.rd 2 (.rd 3 (.rd 4 (.rd 5 (.rd 6 (.rd 7 (.rd 8 (.rd 9 (.rd 10 (.ef 11 (.ef 12 .done))))))))))))) mo (by kernel_rfl) fun w15 s12 _ => dR z z (mv z) (dR z z (rd_nil z) (dR z z (fd f_92_0 z) (dR z z (fd f_31_0 z) ?_)))))))
 have h19 := hB1.ext s12
 refine dR z z (l1 g_29 z fid (h19.at z)) (dR z z (mv z) (dR z z (rd_nil z) (dR z z (fd f_92_2 z) (dR z z (l1 g_3 z fid (h19.at z)) ?_))))
 obtain ⟨x13, e30, hm2l⟩ := bdS hm
 have h1x := p1_0.ext s12
 refine dRX z z (at_ (α := Rule) d_29 z_74 z z z h1x e30) ?_
 rintro _ ⟨b5t, o5u, cs5v, rfl, h31, h32, h5w⟩
 obtain ⟨a1k, n1l, c1m, a1n, n1o, c1p, a1q, n1r, c1s, a1t, n1u, c1v, rfl, h23, h24, h25, h26, h27, h28, h1y⟩ := Rule_open h32
 refine dR z z (lN (vs := (vR x13 a1k n1l c1m a1n n1o c1p a1q n1r c1s a1t n1u c1v)) g_74 z_74 z z fid h31) (dE z z (fa zero_74) (.inr fun _ _ h => chgB (h.2.below)) ?_)
 rintro _ w1g ⟨rfl, h2m⟩
 have h10 := h2m.below
 have h33 : Blk w1g w15.heap.size [(Str.v (⟨[]⟩ : Str)), (vI 0), (vI 0), (vB false), (sl none 0 0), (sl none 0 0), (sl none 0 0), (sl none 0 0)] := h2m.blk
 refine dE0 z (fs (cur' := (vR x13 a1k n1l c1m a1n n1o c1p a1q n1r c1s a1t n1u c1v)) z_74 z z h33 z (lb z) (oA z) z) (.inl z) ?_
 rintro _ w1a ⟨h1b, s34⟩
 have h11 := s34.one
 refine PR_done (Wo (Wq (WC_block (Ws (R z (fd f_74_1 z) (R z (l1 g_3 z fid (h1b.at z)) (R z (eql z z) (Ra z (Wn (Wc z (fun hc29 => ?_) (fun hc29 => ?_)))))))))))
 ·refine Ws (Rm z (R z (lN (vs := (vR x13 a1k n1l c1m a1n n1o c1p a1q n1r c1s a1t n1u c1v)) g_74 z_74 z z fid (h1b.row 0 8 z)) (Rm z ?_)))
  have h1h := mem1le (lt_ (lt_ hBw (Nat.le_of_lt (Blk.lt hB1))) s12.size)
  obtain ⟨r5x, r5y, r5z, e35, hm36⟩ := bd3S (ifT hm2l hc29)
  refine E z (fc call97 z (W_impl_locator_item (B := B) e35 ((h19.ext h10).chg h11 (djs (mm1 (Blk.lt hB1) s12.size))) hBw ((h1x.ext h10).chg h11 (lg h1h)) (((p1_1.ext s12).ext h10).chg h11 (lg h1h)) p1_2 p1_3 h23 h24 h25 ((h26.ext h10).chg h11 (lg h1h)) ((h27.ext h10).chg h11 (lg h1h)) ((h28.ext h10).chg h11 (lg h1h)) ((h1y.ext h10).chg h11 (lg h1h)) p2_0)) ?_
  rintro _ w37 ⟨s38, rfl, h39, h3a, h3b⟩
  refine Ra z (Wn ?_)
  obtain rfl := som hm36
  have h3c : Chg (· ∈ [g1]) w0 w15 := cext (cr [g1] w0) s12
  have h3d : Chg (· ∈ [g1]) w0 w1g := cext h3c h10
  have h3e : ∀ k ∈ [w15.heap.size], k ∈ [g1] ∨ w0.heap.size ≤ k := mor s12.size
  have h3f : Chg (· ∈ [g1]) w0 w1a := cM h3d h11 h3e
  have h3g : Chg (· ∈ [g1]) w0 w37 := cM h3f s38 (io sr)
  exact Wr (rtO (ret1 hr z ⟨h3g, z, h39, h3a, h3b⟩))
 have hm2n := ifF hm2l hc29
 refine Ws (R z (fd f_74_1 z) (R z (l1 g_3 z fid (h1b.at z)) (R z (eql z z) (Ra z (Wn (Wc z (fun hc2a => ?_) (fun hc2a => ?_)))))))
 ·refine Ws (Rm z (R z (lN (vs := (vR x13 a1k n1l c1m a1n n1o c1p a1q n1r c1s a1t n1u c1v)) g_74 z_74 z z fid (h1b.row 0 8 z)) (Rm z ?_)))
  have h1i := mem1le (lt_ (lt_ hBw (Nat.le_of_lt (Blk.lt hB1))) s12.size)
  obtain ⟨r60, r61, r62, e3h, hm3i⟩ := bd3S (ifT hm2n hc2a)
  refine E z (fc call98 z (W_impl_locator_part (B := B) e3h ((h19.ext h10).chg h11 (djs (mm1 (Blk.lt hB1) s12.size))) hBw ((h1x.ext h10).chg h11 (lg h1i)) (((p1_1.ext s12).ext h10).chg h11 (lg h1i)) p1_2 p1_3 h23 h24 h25 ((h26.ext h10).chg h11 (lg h1i)) ((h27.ext h10).chg h11 (lg h1i)) ((h28.ext h10).chg h11 (lg h1i)) ((h1y.ext h10).chg h11 (lg h1i)) p2_0)) ?_
  rintro _ w3j ⟨s3k, rfl, h3l, h3m, h3n⟩
  refine Ra z (Wn ?_)
  obtain rfl := som hm3i
  have h3o : Chg (· ∈ [g1]) w0 w15 := cext (cr [g1] w0) s12
  have h3p : Chg (· ∈ [g1]) w0 w1g := cext h3o h10
  have h3q : ∀ k ∈ [w15.heap.size], k ∈ [g1] ∨ w0.heap.size ≤ k := mor s12.size
  have h3r : Chg (· ∈ [g1]) w0 w1a := cM h3p h11 h3q
  have h3s : Chg (· ∈ [g1]) w0 w3j := cM h3r s3k (io sr)
  exact Wr (rtO (ret1 hr z ⟨h3s, z, h3l, h3m, h3n⟩))
 refine Wq ?_
 obtain ⟨u3t, hu2o, hm2p⟩ := bdS (ifF hm2n hc2a)
 refine WC_cut (fun a w => ∃ (x2b : Bool), x2b = u3t ∧ Sat 97 [(0, (pt g1)), (1, (Str.v x2)), (5, (pt w15.heap.size)), (33, (vB x2b))] a ∧ Below w1a.heap.size w1a w) ?_ ?_
 ·refine Wg (R z (fd f_74_1 z) (R z (l1 g_3 z fid (h1b.at z)) (R z (eql z z) (Rm z ?_))))
  rcases bs (x13.kind == 7) with hc1c | hc1c
  ·exact Rh z hc1c (mv z) (Rh z hc1c (rd_eqlT z z) (R z (pT z hc1c z) (Ra z (Wl (fun _ q => ⟨x2.b == (⟨[42]⟩ : Str).b, som (ifT hu2o hc1c), (q.k (s4 z z z z)), (br w1a)⟩)))))
  exact Nh z hc1c (Nh z hc1c (R z (pF z hc1c z) (Ra z (Wl (fun _ q => ⟨false, som (ifF hu2o hc1c), (q.k (s4 z z z z)), (br w1a)⟩)))))
 rintro a3u w1f ⟨x2b, rfl, hS63, s14⟩
 revert a3u
 refine Wo (Wc z (fun hc2c => ?_) (fun hc2c => ?_))
 ·refine Ws (Rm z (R z (lN (vs := (vR x13 a1k n1l c1m a1n n1o c1p a1q n1r c1s a1t n1u c1v)) g_74 z_74 z z fid ((h1b.ext s14).row 0 8 z)) ?_))
  have h1j := mem1le (lt_ (lt_ hBw (Nat.le_of_lt (Blk.lt hB1))) s12.size)
  obtain ⟨r64, r65, r66, e3v, hm3w⟩ := bd3S (ifT hm2p hc2c)
  refine E z (fc call99 z (W_impl_locator_alternative (B := B) e3v (((h19.ext h10).chg h11 (djs (mm1 (Blk.lt hB1) s12.size))).ext s14) hBw (((h1x.ext h10).chg h11 (lg h1j)).ext s14) ((((p1_1.ext s12).ext h10).chg h11 (lg h1j)).ext s14) p1_2 p1_3 h23 h24 h25 (((h26.ext h10).chg h11 (lg h1j)).ext s14) (((h27.ext h10).chg h11 (lg h1j)).ext s14) (((h28.ext h10).chg h11 (lg h1j)).ext s14) (((h1y.ext h10).chg h11 (lg h1j)).ext s14))) ?_
  rintro _ w3x ⟨s3y, rfl, h3z, h40, h41⟩
  refine Ra z (Wn ?_)
  obtain rfl := som hm3w
  have h42 : Chg (· ∈ [g1]) w0 w15 := cext (cr [g1] w0) s12
  have h43 : Chg (· ∈ [g1]) w0 w1g := cext h42 h10
  have h44 : ∀ k ∈ [w15.heap.size], k ∈ [g1] ∨ w0.heap.size ≤ k := mor s12.size
  have h45 : Chg (· ∈ [g1]) w0 w1a := cM h43 h11 h44
  have h46 : Chg (· ∈ [g1]) w0 w1f := cext h45 s14
  have h47 : Chg (· ∈ [g1]) w0 w3x := cM h46 s3y (io sr)
  exact Wr (rtO (ret1 hr z ⟨h47, z, h3z, h40, h41⟩))
 refine Wq ?_
 obtain ⟨u48, hu2q, hm49⟩ := bdS (ifF hm2p hc2c)
 refine WC_cut (fun a w => ∃ (x2d : Bool), x2d = u48 ∧ Sat 97 [(0, (pt g1)), (1, (Str.v x2)), (5, (pt w15.heap.size)), (44, (vB x2d))] a ∧ Below w1f.heap.size w1f w) ?_ ?_
 ·refine Wg (R z (fd f_74_1 z) (R z (l1 g_3 z fid ((h1b.ext s14).at z)) (R z (eql z z) (Rm z ?_))))
  rcases bs (x13.kind == 8) with hc1d | hc1d
  ·exact Rh z hc1d (mv z) (Rh z hc1d (rd_eqlT z z) (R z (pT z hc1d z) (Ra z (Wl (fun _ q => ⟨x2.b == (⟨[63]⟩ : Str).b, som (ifT hu2q hc1d), (q.k (s4 z z z z)), (br w1f)⟩)))))
  exact Nh z hc1d (Nh z hc1d (R z (pF z hc1d z) (Ra z (Wl (fun _ q => ⟨false, som (ifF hu2q hc1d), (q.k (s4 z z z z)), (br w1f)⟩)))))
 rintro a4a w17 ⟨x2d, rfl, hS67, s18⟩
 revert a4a
 refine Wo ?_
 obtain ⟨u4b, hu2r, hm2e⟩ := bdS hm49
 refine WC_cut (fun a w => ∃ (x1w : Int), Sum.inl x1w = u4b ∧ Sat 97 [(0, (pt g1)), (5, (pt w15.heap.size))] a ∧ Chg (· ∈ [g1]) w17 w ∧ inI x1w ∧ Blk w g1 [(sl pa1_0 pn1_0 pc1_0), (sl pa1_1 pn1_1 pc1_1), (vI x1.rule), (vI x1w)]) ?_ ?_
 ·refine Wc z (fun hc2f => ?_) (fun hc2f => ?_)
  ·refine Wq (Wq ?_)
   obtain ⟨u4c, hu2s, hm2t⟩ := bdS (ifT hu2r hc2f)
   refine WC_cut (fun a w => ∃ (x2g : Bool), x2g = u4c ∧ Sat 97 [(0, (pt g1)), (5, (pt w15.heap.size)), (74, (vB x2g))] a ∧ Below w17.heap.size w17 w) ?_ ?_
   ·refine WC_draw (X := noX) 0 (.rd 0 (.rd 1 (.rd 2 (.rd 3 (.rd 4 (.rd 5 (.rd 6 (.rd 7 (.rd 8 (.rd 9 (.rd 10 (.rd 11 (.rd 12 (.rd 13 (.rd 14 (.rd 15 (.rd 16 (.rd 17 (.rd 18 (.rd 19 (.rd 20 (.rd 21 (.rd 22 .done))))))))))))))))))))))) mo (by kernel_rfl) fun w68 s1z _ => dR z z (mv z) (dR z z (rd_nil z) (dR z z (fd f_92_3 z) ?_))
    have h20 := ((((h19.ext h10).chg h11 (djs (mm1 (Blk.lt hB1) s12.size))).ext s14).ext s18).ext s1z
    refine dR z z (l1 g_3 z fid (h20.at z)) (dR z z (mv z) (dR z z (rd_nil z) (dR z z (fd f_92_1 z) (dR z z (l1 g_25 z fid (h20.at z)) ?_))))
    have h2u := (((((p1_1.ext s12).ext h10).chg h11 (lg (mem1le (lt_ (lt_ hBw (Nat.le_of_lt (Blk.lt hB1))) s12.size)))).ext s14).ext s18).ext s1z
    refine dR z z (lnR d_25 z h2u) (dR z z (rd_geq z z) (dR z z (mv z) ?_))
    rcases bs (decide ((x1.b.length : Int) ≤ x1.at_)) with hc16 | hc16
    ·iterate 11 refine dRn z z z hc16 z ?_
     exact dR z z (pT z hc16 z) (PR_done (fun _ q => ⟨true, som (ifT hu2s hc16), (q.k (s3 z z z)), s1z⟩))
    refine dRg z z z hc16 z (mv z) (dRg z z z hc16 z (rd_nil z) (dRg z z z hc16 z (fd f_92_1 z) (dRg z z z hc16 z (l1 g_25 z fid (h20.at z)) (dRg z z z hc16 z (mv z) (dRg z z z hc16 z (rd_nil z) (dRg z z z hc16 z (fd f_92_3 z) (dRg z z z hc16 z (l1 g_3 z fid (h20.at z)) ?_)))))))
    obtain ⟨x4d, e4e, hm4f⟩ := bdS (ifF hu2s hc16)
    refine dRXg z z z hc16 z (at_ (α := UInt8) d_25 z_5 z z z h2u e4e) ?_
    rintro _ ⟨b69, o6a, cs6b, rfl, h4g, h4h, h6c⟩
    obtain rfl := UInt8_open h4h
    exact dRg z z z hc16 z (l1 g_5 z fid (h4g.at0 z)) (dRg z z z hc16 z (nq z z) (dR z z (pF z hc16 z) (PR_done (fun _ q => ⟨(byteI x4d) != (byteI (1 : UInt8)), som hm4f, (q.k (s3 z z z)), s1z⟩))))
   rintro a4i w2v ⟨x2g, rfl, hS6d, s21⟩
   revert a4i
   refine Wo (Wc z (fun hc2h => ?_) (fun hc2h => ?_))
   ·refine Ws (Ra z (Wn ?_))
    obtain rfl := som (ifT hm2t hc2h)
    have hm4j := elR hm2e
    obtain rfl := som hm4j
    have h4k : Chg (· ∈ [g1]) w0 w15 := cext (cr [g1] w0) s12
    have h4l : Chg (· ∈ [g1]) w0 w1g := cext h4k h10
    have h4m : ∀ k ∈ [w15.heap.size], k ∈ [g1] ∨ w0.heap.size ≤ k := mor s12.size
    have h4n : Chg (· ∈ [g1]) w0 w1a := cM h4l h11 h4m
    have h4o : Chg (· ∈ [g1]) w0 w1f := cext h4n s14
    have h4p : Chg (· ∈ [g1]) w0 w17 := cext h4o s18
    have h4q : Chg (· ∈ [g1]) w0 w2v := cext h4p s21
    exact Wr (rtO (ret1 hr z ⟨h4q, z, p1_2, p1_3, (((((h19.ext h10).chg h11 (djs (mm1 (Blk.lt hB1) s12.size))).ext s14).ext s18).ext s21)⟩))
   refine Wk (Wg (Rm z (R z (rd_nil z) (R z (fd f_92_3 z) ?_))))
   have h2w := ((((h19.ext h10).chg h11 (djs (mm1 (Blk.lt hB1) s12.size))).ext s14).ext s18).ext s21
   refine R z (l1 g_3 z fid (h2w.at z)) (R z (add_ z z) (R z (rd_nil z) (R z (fd f_92_3 z) (E0 (fs (cur' := [(sl pa1_0 pn1_0 pc1_0), (sl pa1_1 pn1_1 pc1_1), (vI x1.rule), (vI (iadd x1.at_ 1))]) z_3 z z h2w z (lb z) (oA z) z) ?_))))
   rintro _ w4r ⟨h4s, s4t⟩
   refine Wl ?_
   have h4u : Chg (· ∈ [g1]) w17 w2v := cext (cr [g1] w17) s21
   have h4v : Chg (· ∈ [g1]) w17 w4r := cM h4u s4t.one (io sr)
   exact fun _ q => ⟨iadd x1.at_ 1, som (ifF hm2t hc2h), (q.k (s2 z z)), h4v, (iA _ _), h4s⟩
  refine Wq ?_
  obtain ⟨u4w, hu2x, hm2y⟩ := bdS (ifF hu2r hc2f)
  refine WC_cut (fun a w => ∃ (x2i : Bool), x2i = u4w ∧ Sat 97 [(0, (pt g1)), (5, (pt w15.heap.size)), (82, (vB x2i))] a ∧ Below w17.heap.size w17 w) ?_ ?_
  ·refine Wg (R z (fd f_74_1 z) (R z (l1 g_3 z fid (((h1b.ext s14).ext s18).at z)) (R z (eql z z) (Rm z ?_))))
   rcases bs (x13.kind == 9) with hc1e | hc1e
   ·exact Rh z hc1e (mv z) (Rh z hc1e (rd_eqlT z z) (R z (pT z hc1e z) (Ra z (Wl (fun _ q => ⟨x2.b == (⟨[43]⟩ : Str).b, som (ifT hu2x hc1e), (q.k (s3 z z z)), (br w17)⟩)))))
   exact Nh z hc1e (Nh z hc1e (R z (pF z hc1e z) (Ra z (Wl (fun _ q => ⟨false, som (ifF hu2x hc1e), (q.k (s3 z z z)), (br w17)⟩)))))
  rintro a4x w2z ⟨x2i, rfl, hS6e, s22⟩
  revert a4x
  refine Wo (Wc z (fun hc2j => ?_) (fun hc2j => ?_))
  ·refine WC_skip ?_
   have h4y : Chg (· ∈ [g1]) w17 w2z := cext (cr [g1] w17) s22
   exact fun _ q => ⟨x1.at_, som (ifT hm2y hc2j), (q.k (s2 z z)), h4y, p1_3, (((((h19.ext h10).chg h11 (djs (mm1 (Blk.lt hB1) s12.size))).ext s14).ext s18).ext s22)⟩
  refine Ws (Ra z (Wn ?_))
  obtain rfl := som (ifF hm2y hc2j)
  have hm4z := elR hm2e
  obtain rfl := som hm4z
  have h50 : Chg (· ∈ [g1]) w0 w15 := cext (cr [g1] w0) s12
  have h51 : Chg (· ∈ [g1]) w0 w1g := cext h50 h10
  have h52 : ∀ k ∈ [w15.heap.size], k ∈ [g1] ∨ w0.heap.size ≤ k := mor s12.size
  have h53 : Chg (· ∈ [g1]) w0 w1a := cM h51 h11 h52
  have h54 : Chg (· ∈ [g1]) w0 w1f := cext h53 s14
  have h55 : Chg (· ∈ [g1]) w0 w17 := cext h54 s18
  have h56 : Chg (· ∈ [g1]) w0 w2z := cext h55 s22
  exact Wr (rtO (ret1 hr z ⟨h56, z, p1_2, p1_3, (((((h19.ext h10).chg h11 (djs (mm1 (Blk.lt hB1) s12.size))).ext s14).ext s18).ext s22)⟩))
 rintro a57 w58 ⟨x1w, rfl, hS6f, s2k, h59, h5a⟩
 have hm5b := elL hm2e
 revert a57
 refine Wo (Ws (Rm z (R z (fd f_74_7 z) (R z (l1 g_72 z fid ((((h1b.ext s14).ext s18).chg s2k (atp (mm1 (Blk.lt hB1) s12.size))).at z)) ?_))))
 obtain ⟨x5c, e5d, hm5e⟩ := bdS hm5b
 refine RX z (at_ (α := Int) d_72 z_3 z z z (((((h1y.ext h10).chg h11 (lg (mem1le (lt_ (lt_ hBw (Nat.le_of_lt (Blk.lt hB1))) s12.size)))).ext s14).ext s18).chg s2k (lg (mem1 hBw))) e5d) ?_
 rintro _ ⟨b6g, o6h, cs6i, rfl, h5f, h5g, h6j⟩
 obtain ⟨rfl, h5h⟩ := Int_open h5g
 refine R z (l1 g_3 z fid (h5f.at0 z)) (R z (rd_nil z) (R z (fd f_92_2 z) (E0 (fs (cur' := [(sl pa1_0 pn1_0 pc1_0), (sl pa1_1 pn1_1 pc1_1), (vI x5c), (vI x1w)]) z_3 z z h5a z (lb z) (oA z) z) ?_)))
 rintro _ w5i ⟨h5j, s5k⟩
 refine Wn (Ws (Ra z (Wn ?_)))
 obtain rfl := som hm5e
 have h5l : Chg (· ∈ [g1]) w0 w15 := cext (cr [g1] w0) s12
 have h5m : Chg (· ∈ [g1]) w0 w1g := cext h5l h10
 have h5n : ∀ k ∈ [w15.heap.size], k ∈ [g1] ∨ w0.heap.size ≤ k := mor s12.size
 have h5o : Chg (· ∈ [g1]) w0 w1a := cM h5m h11 h5n
 have h5p : Chg (· ∈ [g1]) w0 w1f := cext h5o s14
 have h5q : Chg (· ∈ [g1]) w0 w17 := cext h5p s18
 have h5r : Chg (· ∈ [g1]) w0 w58 := cM h5q s2k (io sr)
 have h5s : Chg (· ∈ [g1]) w0 w5i := cM h5r s5k.one (io sr)
 exact Wr (ret1 hr z ⟨h5s, z, h5h, h59, h5j⟩)
theorem W_impl_LocatePart {x1 : Desc} {x2 : List UInt8} {x3 : Str} {res : Entry × Bool} (hm : M_impl_LocatePart n x1 x2 x3 = some res) (hBw : B ≤ w0.heap.size) (p1_0 : repS w0 B (sl pa1_0 pn1_0 pc1_0) x1.rules) (p2_0 : repS w0 B (sl pa2_0 pn2_0 pc2_0) x2) (p3_0 : x3.b.length ≤ LEN) : CallsR prog 31 [(.agg #[(sl pa1_0 pn1_0 pc1_0)]), (sl pa2_0 pn2_0 pc2_0), (Str.v x3)] w0 (Q15 w0 B res) := by
 unfold M_impl_LocatePart at hm
 refine goF func31 z z (lb z) fun fn hr => Ws (E z (fb z) ?_)
 rintro _ w1d ⟨rfl, h23⟩
 have h15 := h23.below
 have h24 : Blk w1d w0.heap.size [(sl pa1_0 pn1_0 pc1_0)] := h23.blk
 refine E z (fa zero_54) ?_
 rintro _ w2u ⟨rfl, h25⟩
 have h16 := h25.below
 have h1e : Blk w2u w1d.heap.size [(Str.v (⟨[]⟩ : Str)), (vI 0), (vI 0), (vI 0)] := h25.blk
 refine Ra z (Wn (Ws (Rm z ?_)))
 have h1q := lt_ h15.size h16.size
 obtain ⟨r1l, r2v, e2w, hm2x⟩ := bd2S hm
 refine E z (fc call57 z (W_impl_SplitPath (B := B) e2w (lt_ hBw h1q) p3_0)) ?_
 rintro _ w1r ⟨s10, a1m, n1n, c1o, S49, rfl, h1k, h4a, h4b⟩
 refine Rm z (R z (ext_ z z) (R z (ext_ z z) (Ra z (Ra z (Wn (Wq (Wq ?_)))))))
 obtain ⟨u2y, hu26, hm27⟩ := bdS hm2x
 refine WC_cut (fun a w => ∃ (x1s : Bool), x1s = u2y ∧ Sat 73 [(1, (sl pa2_0 pn2_0 pc2_0)), (2, (Str.v x3)), (3, (pt w0.heap.size)), (6, (pt w1d.heap.size)), (8, (sl a1m n1n c1o)), (30, (vB x1s))] a ∧ Below w1r.heap.size w1r w) ?_ ?_
 ·refine Wg (Rm z (R z (not_ z) (Rm z ?_)))
  rcases bs (!r2v) with hc1a | hc1a
  ·iterate 3 refine Nh z hc1a ?_
   exact R z (pT z hc1a z) (Rm z (Nh z z (Nh z z (Nh z z (R z (pT z z z) (Wl (fun _ q => ⟨true, som (ifT hu26 hc1a), (q.k (s6 z z z z z z)), (br w1r)⟩)))))))
  refine Rh z hc1a (lN (vs := [(sl pa1_0 pn1_0 pc1_0)]) g_31 z_31 z z fid (((h24.ext h16).ext s10).row 0 1 z)) ?_
  obtain ⟨r2z, e30, hm28⟩ := bdS (ifF hu26 hc1a)
  refine Eg z z hc1a z (fc call58 z (W_impl_IsValidDescription (B := B) e30 (lt_ hBw (lt_ h1q s10.size)) (((p1_0.ext h15).ext h16).ext s10))) ?_
  rintro _ w4c ⟨s1t, rfl⟩
  refine Rh z hc1a (not_ z) (R z (pF z hc1a z) (Rm z ?_))
  rcases bs (!r2z) with hc1b | hc1b
  ·iterate 3 refine Nh z hc1b ?_
   exact R z (pT z hc1b z) (Wl (fun _ q => ⟨true, som (ifT hm28 hc1b), (q.k (s6 z z z z z z)), s1t⟩))
  exact Rh z hc1b (mv z) (Rh z hc1b (lnR d_25 z ((((p2_0.ext h15).ext h16).ext s10).ext s1t)) (Rh z hc1b (rd_gtr z z) (R z (pF z hc1b z) (Wl (fun _ q => ⟨decide (400 < (x2.length : Int)), som (ifF hm28 hc1b), (q.k (s6 z z z z z z)), s1t⟩)))))
 rintro a31 w4d ⟨x1s, rfl, hS4e, s11⟩
 revert a31
 refine Wo (Wc z (fun hc1u => ?_) (fun hc1u => ?_))
 ·refine Ws (R z (bP (parts := []) (cs := [(Str.v (⟨[]⟩ : Str)), (vI 0), (vI 0), (vI 0)]) build_54 z z) (E0 (fs (cur' := [(Str.v (⟨[]⟩ : Str)), (vI 0), (vI 0), (vI 0)]) z_54 z z ((h1e.ext s10).ext s11) z (lb z) (oA z) z) ?_))
  rintro _ w4f ⟨h32, s33⟩
  refine Ra z (Wn ?_)
  obtain rfl := som (ifT hm27 hc1u)
  exact Wr (ret2 hr (resC g_54 z_54 z h32 z) z ⟨(bM (bup (bup (bup h15 h16) s10) s11) s33.one (mem1le h15.size)), z, (lb z), (ii z), (ii z), (ii z)⟩)
 refine Wk (Wq (WC_draw (X := noX) 0 (.rd 0 (.rd 1 (.rd 2 (.ef 3 (.rd 4 (.ef 5 (.rd 6 .done))))))) mo (by kernel_rfl) fun w4g s13 _ => ?_))
 have h29 := (((h24.ext h16).ext s10).ext s11).ext s13
 refine dR z z (lN (vs := [(sl pa1_0 pn1_0 pc1_0)]) g_31 z_31 z z fid (h29.row 0 1 z)) (dR z z (mv z) (dR z z (lN (vs := [(sl pa1_0 pn1_0 pc1_0)]) g_31 z_31 z z fid (h29.row 0 1 z)) ?_))
 have h1v := ((((p1_0.ext h15).ext h16).ext s10).ext s11).ext s13
 have h1w := lt_ (lt_ (lt_ h1q s10.size) s11.size) s13.size
 obtain ⟨r2a, e34, hm35⟩ := bdS (ifF hm27 hc1u)
 refine dE z z (fc call59 z (W_impl_RootOf (B := B) e34 (lt_ hBw h1w) h1v)) (.inr fun _ _ h => chgB (h.1)) ?_
 rintro _ w14 ⟨s12, rfl, h36⟩
 refine dR z z (bP (parts := [(0, (.tmp 32)), (1, (.tmp 33)), (2, (.tmp 35))]) (cs := [(sl pa1_0 pn1_0 pc1_0), (sl pa2_0 pn2_0 pc2_0), (vI r2a), (vI 0)]) build_92 z z) (dE z z (fb z) (.inr fun _ _ h => chgB (h.2.below)) ?_)
 rintro _ w1c ⟨rfl, h2b⟩
 have h17 := h2b.below
 have h37 : Blk w1c w14.heap.size [(sl pa1_0 pn1_0 pc1_0), (sl pa2_0 pn2_0 pc2_0), (vI r2a), (vI 0)] := h2b.blk
 refine dR z z (asg z) (PR_done (Wo (Wq (Ws (Rm z ?_)))))
 have h2c := (((h1k.ext s11).ext s13).ext s12).ext h17
 refine R z (lnR d_47 z (ownS_rep h2c (ownS.lt h1k))) (Rm z (Wn ?_))
 obtain ⟨u4h, hu38, hm2d⟩ := bdS hm35
 refine WC_forN (σ := Int × Int) (ρ := Entry × Bool) (fun (k1x : Nat) s a w => un2 (fun x18 x19 => Sat 73 [(2, (Str.v x3)), (6, (pt w1d.heap.size)), (10, (pt w14.heap.size)), (38, (sl a1m n1n c1o)), (39, (vI (r1l.length : Int))), (40, (vI ((k1x : Nat) : Int)))] a ∧ Chg (· ∈ [w14.heap.size]) w1c w ∧ inI x18 ∧ inI x19 ∧ Blk w w14.heap.size [(sl pa1_0 pn1_0 pc1_0), (sl pa2_0 pn2_0 pc2_0), (vI x18), (vI x19)]) s) (fun s a w => un2 (fun x18 x19 => Sat 73 [(2, (Str.v x3)), (6, (pt w1d.heap.size)), (10, (pt w14.heap.size))] a ∧ Chg (· ∈ [w14.heap.size]) w1c w ∧ inI x18 ∧ inI x19 ∧ Blk w w14.heap.size [(sl pa1_0 pn1_0 pc1_0), (sl pa2_0 pn2_0 pc2_0), (vI x18), (vI x19)]) s) (fun r ex a w => ex = .ret ∧ RetPost prog fn (Q15 w0 B r) a w) hu38 ?_ ?_ ?_ ?_ ?_
 ·exact fun _ q => ⟨(q.k (s6 z z z z z z)), (cr [w14.heap.size] w1c), h36, (ii z), h37⟩
 ·rintro k1x ⟨x18, x19⟩ a4i w39 o4j hk2e ⟨hS3a, s1h, h1f, h1i, h1g⟩ hm3b
  have hm3c := un2S hm3b
  refine Wu (e := [(2, (Str.v x3)), (6, (pt w1d.heap.size)), (10, (pt w14.heap.size)), (38, (sl a1m n1n c1o)), (39, (vI (r1l.length : Int))), (40, (vI ((k1x : Nat) : Int)))]) (N := 73) ?_ hS3a
  refine Ws (R z (lss z z) (Wn (Wq (Wc z (fun _ => ?_) (fun hc => (nolt hk2e hc).elim)))))
  refine Wk (Wq (WC_block (Ws ?_)))
  obtain ⟨x4k, e3d, hm3e⟩ := bdS hm3c
  refine RX z (at_ (α := Str) d_47 z_9 z z z (ownS_rep (h2c.chg s1h (dj_symm (mno (ownS.lt h1k) (lt_ (lt_ s11.size s13.size) s12.size)))) (ownS.lt h1k)) e3d) ?_
  rintro _ ⟨b4l, o4m, cs4n, rfl, h3f, h3g, h4o⟩
  obtain ⟨rfl, h3h⟩ := Str_open h3g
  refine R z (l1 g_9 z fid (h3f.at0 z)) (Ra z (Wn (Ws (Rm z (Rm z ?_)))))
  have h2f := lt_ h1w s12.size
  have h2g := lt_ hBw h2f
  have h2h := mem1le h2g
  obtain ⟨r4p, r3i, r3j, e3k, hm2i⟩ := bd3S hm3e
  refine E z (fc call60 z (W_impl_locator_follow (B := B) e3k h1g h2g (((h1v.ext s12).ext h17).chg s1h (lg h2h)) ((((((((p2_0.ext h15).ext h16).ext s10).ext s11).ext s13).ext s12).ext h17).chg s1h (lg h2h)) h1f h1i h3h)) ?_
  rintro _ w3l ⟨s1y, rfl, h3m, h3n, h3o⟩
  refine R z (not_ z) (Wn (Wc z (fun hc1z => ?_) (fun hc1z => ?_)))
  ·refine Ws (R z (bP (parts := []) (cs := [(Str.v (⟨[]⟩ : Str)), (vI 0), (vI 0), (vI 0)]) build_54 z z) ?_)
   have h2j := mm1 h1e.lt (lt_ (lt_ (lt_ s10.size s11.size) s13.size) s12.size)
   refine E0 (fs (cur' := [(Str.v (⟨[]⟩ : Str)), (vI 0), (vI 0), (vI 0)]) z_54 z z (((((((h1e.ext s10).ext s11).ext s13).ext s12).ext h17).chg s1h (djs h2j)).chg s1y (djs h2j)) z (lb z) (oA z) z) ?_
   rintro _ w4q ⟨h3p, s3q⟩
   refine Ra z (Wn ?_)
   have h2k := mem1le h2f
   exact Wr (rtO (QO_retL (som (ifT hm2i hc1z)).symm (ret2 hr (resC g_54 z_54 z h3p z) z ⟨(bM (bM (bM (bup (bup (bup (bup (bup (bup h15 h16) s10) s11) s13) s12) h17) s1h h2k) s1y h2k) s3q.one (mem1le h15.size)), z, (lb z), (ii z), (ii z), (ii z)⟩)))
  refine Wk (Wg (R z (inc_ hk2e (lt_ (ownS.len h1k) LEN_le) z z) (Rm z (Wl ?_))))
  have h3r : Chg (· ∈ [w14.heap.size]) w1c w39 := cM (cr [w14.heap.size] w1c) s1h (io sr)
  have h3s : Chg (· ∈ [w14.heap.size]) w1c w3l := cM h3r s1y (io sr)
  exact fun _ q => ⟨(r3i, r3j), (som (ifF hm2i hc1z)).symm, ⟨(q.k (s6 z z z z z z)), h3s, h3m, h3n, h3o⟩⟩
 ·rintro ⟨x18, x19⟩ a4r w3t ⟨hS3u, s3v, h1f, h1i, h1g⟩
  refine Wu (e := [(2, (Str.v x3)), (6, (pt w1d.heap.size)), (10, (pt w14.heap.size)), (38, (sl a1m n1n c1o)), (39, (vI (r1l.length : Int))), (40, (vI ((r1l.length : Nat) : Int)))]) (N := 73) ?_ hS3u
  refine Ws (R z (lss z z) (Wn (Wq (Wc z (fun hc => (noltt hc).elim) (fun _ => ?_)))))
  have h3w : Chg (· ∈ [w14.heap.size]) w1c w3t := cM (cr [w14.heap.size] w1c) s3v (io sr)
  exact WC_exit (fun a' ha' => ⟨rfl, ⟨(Sat.weaken ha' (s3 z z z)), h3w, h1f, h1i, h1g⟩⟩)
 ·rintro ⟨x18, x19⟩ a3x w4s rfl ⟨hS4t, s1j, h1f, h1i, h1g⟩
  have hm3y := elL hm2d
  have hm3z := un2S hm3y
  revert a3x
  refine Wo (Ws (Rm z (R z (rd_nil z) (R z (fd f_92_3 z) (R z (l1 g_3 z fid (h1g.at z)) (Ra z (Wn (Wq (Ws (Rm z (Rm z (R z (rd_nil z) (R z (fd f_92_2 z) (R z (l1 g_3 z fid (h1g.at z)) ?_))))))))))))))
  have h20 := lt_ h1w s12.size
  have h2l := lt_ hBw h20
  have h2m := mem1le h2l
  obtain ⟨r4u, r2n, e40, hm2o⟩ := bd2S hm3z
  refine E z (fc call61 z (W_impl_locator_pass (B := B) e40 h1g h2l (((h1v.ext s12).ext h17).chg s1j (lg h2m)) ((((((((p2_0.ext h15).ext h16).ext s10).ext s11).ext s13).ext s12).ext h17).chg s1j (lg h2m)) h1f h1i h1f)) ?_
  rintro _ w4v ⟨s1p, rfl, h41, h42⟩
  refine R z (not_ z) (Wn (Wc z (fun hc21 => ?_) (fun hc21 => ?_)))
  ·refine Ws (R z (bP (parts := []) (cs := [(Str.v (⟨[]⟩ : Str)), (vI 0), (vI 0), (vI 0)]) build_54 z z) ?_)
   have h2p := mm1 h1e.lt (lt_ (lt_ (lt_ s10.size s11.size) s13.size) s12.size)
   refine E0 (fs (cur' := [(Str.v (⟨[]⟩ : Str)), (vI 0), (vI 0), (vI 0)]) z_54 z z (((((((h1e.ext s10).ext s11).ext s13).ext s12).ext h17).chg s1j (djs h2p)).chg s1p (djs h2p)) z (lb z) (oA z) z) ?_
   rintro _ w4w ⟨h43, s44⟩
   refine Ra z (Wn ?_)
   obtain rfl := som (ifT hm2o hc21)
   have h2q := mem1le h20
   exact Wr (ret2 hr (resC g_54 z_54 z h43 z) z ⟨(bM (bM (bM (bup (bup (bup (bup (bup (bup h15 h16) s10) s11) s13) s12) h17) s1j h2q) s1p h2q) s44.one (mem1le h15.size)), z, (lb z), (ii z), (ii z), (ii z)⟩)
  refine Wk (Wq (WC_draw (X := noX) 2048 (.rd 0 (.rd 1 (.rd 2 (.rd 3 (.rd 4 (.rd 5 (.rd 6 (.rd 7 (.rd 8 (.rd 9 (.rd 10 (.ef 11 (.rd 12 .done))))))))))))) mo (by kernel_rfl) fun w4x s22 _ => dR z z (mv z) (dR z z (mv z) (dR z z (rd_nil z) (dR z z (fd f_92_2 z) ?_)))))
  have h2r := h42.ext s22
  refine dR z z (l1 g_3 z fid (h2r.at z)) (dR z z (mv z) (dR z z (mv z) (dR z z (rd_nil z) (dR z z (fd f_92_3 z) (dR z z (l1 g_3 z fid (h2r.at z)) (dR z z (bP (parts := [(0, (.tmp 62)), (1, (.tmp 66)), (2, (.tmp 67)), (3, (.tmp 71))]) (cs := [(Str.v x3), (vI x18), (vI x19), (vI r2n)]) build_54 z z) ?_))))))
  have h2s := mm1 h1e.lt (lt_ (lt_ (lt_ s10.size s11.size) s13.size) s12.size)
  refine dE0 z (fs (cur' := [(Str.v x3), (vI x18), (vI x19), (vI r2n)]) z_54 z z ((((((((h1e.ext s10).ext s11).ext s13).ext s12).ext h17).chg s1j (djs h2s)).chg s1p (djs h2s)).ext s22) z (lb z) (oA z) z) (.inl z) ?_
  rintro _ w4y ⟨h45, s46⟩
  refine dR z z (asg z) (PR_done (Wo ?_))
  obtain rfl := som (ifF hm2o hc21)
  have h2t := mem1le h20
  exact Wr (ret2 hr (resC g_54 z_54 z h45 z) z ⟨(bM (bup (bM (bM (bup (bup (bup (bup (bup (bup h15 h16) s10) s11) s13) s12) h17) s1j h2t) s1p h2t) s22) s46.one (mem1le h15.size)), z, p3_0, h1f, h1i, h41⟩)
 rintro r4z ex50 a51 w52 rfl ⟨rfl, hq47⟩
 have hm48 := elR hm2d
 obtain rfl := som hm48
 exact ⟨hq47, z⟩
end Go.Vw

