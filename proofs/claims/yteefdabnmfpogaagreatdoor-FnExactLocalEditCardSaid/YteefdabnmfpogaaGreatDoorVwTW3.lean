import Derived.Test.YteefdabnmfpogaaGreatDoorVwTW2
set_option linter.unusedVariables false
namespace Go.Vw
open Go.RowKit Dat Go.Proofs
open Go.Proofs.Tryz
open Go.Vw renaming WC_seq → Wq, WC_region → Wg, WC.of_KC → Wo, WL_nil → Wl, WC_cond → Wc, WC_ret → Wr, WC_run → Wu, rd_pickT → pT, rd_pickF → pF, rd_field → fd, rd_load1 → l1, rd_loadN → lN, rd_move → mv, rd_assign → asg, rd_lenR → lnR, rd_lss → lss, rd_eql → eql, rd_extract → ext_, rd_buildP → bP, rd_add → add_, rd_inc → inc_, rd_not → not_, rd_at → at_, ef_call → fc, ef_store → fs, ef_box → fb, ef_alloc → fa, sub_refl → sr, crefl → cr, cchgM → cM, bchgM → bM, inI_sub → iS, inI_add → iA, brefl → br, oneAll → oA, bsplit → bs, ltge → lg, inor → io, rd_neq → nq, rd_lenT → lnT, rd_sub → sb_
variable {pa1_0 : Option Addr} {pn1_0 pc1_0 : Nat} {B : Nat} {w0 : World} {pa1_4 : Option Addr} {pa1_5 : Option Addr} {pa1_6 : Option Addr} {pa1_7 : Option Addr} {pn1_4 pc1_4 : Nat} {pn1_5 pc1_5 : Nat} {pn1_6 pc1_6 : Nat} {pn1_7 pc1_7 : Nat} {n : Nat} {pa2_4 : Option Addr} {pa2_5 : Option Addr} {pa2_6 : Option Addr} {pa2_7 : Option Addr} {pn2_4 pc2_4 : Nat} {pn2_5 pc2_5 : Nat} {pn2_6 pc2_6 : Nat} {pn2_7 pc2_7 : Nat} {pa3_0 : Option Addr} {pn3_0 pc3_0 : Nat} {pa2_0 : Option Addr} {pn2_0 pc2_0 : Nat} {pa4_0 : Option Addr} {pn4_0 pc4_0 : Nat} {pa1_1 : Option Addr} {pn1_1 pc1_1 : Nat}
theorem W_impl_SpliceBytes {x1 : List UInt8} {x2 : Int} {x3 : Int} {x4 : List UInt8} {res : (List UInt8) × Bool} (hm : M_impl_SpliceBytes x1 x2 x3 x4 = some res) (hBw : B ≤ w0.heap.size) (p1_0 : repS w0 B (sl pa1_0 pn1_0 pc1_0) x1) (p2_0 : inI x2) (p3_0 : inI x3) (p4_0 : repS w0 B (sl pa4_0 pn4_0 pc4_0) x4) : CallsR prog 32 [(sl pa1_0 pn1_0 pc1_0), (vI x2), (vI x3), (sl pa4_0 pn4_0 pc4_0)] w0 (Q16 w0 B res) := by
 unfold M_impl_SpliceBytes at hm
 refine goF func32 z z (lb z) fun fn hr => Ws (Ra z (Ra z (Wn (Wq (Wq ?_)))))
 obtain ⟨u1o, hu1d, hm1e⟩ := bdS hm
 refine WC_cut (fun a w => ∃ (x16 : Bool), x16 = u1o ∧ Sat 54 [(0, (sl pa1_0 pn1_0 pc1_0)), (1, (vI x2)), (2, (vI x3)), (3, (sl pa4_0 pn4_0 pc4_0)), (30, (vB x16))] a ∧ Below w0.heap.size w0 w) ?_ ?_
 ·refine Wg (Rm z (R z (lss z z) (Rm z ?_)))
  rcases bs (decide (x2 < 0)) with hc13 | hc13
  ·exact Nh z hc13 (Nh z hc13 (R z (pT z hc13 z) (Rm z (Nh z z (Nh z z (Nh z z (Nh z z (R z (pT z z z) (Rm z (Nh z z (Nh z z (Nh z z (Nh z z (Nh z z (Nh z z (R z (pT z z z) (Wl (fun _ q => ⟨true, som (ifT hu1d hc13), (q.k (s5 z z z z z)), (br w0)⟩))))))))))))))))))
  have hm1f := ifF hu1d hc13
  refine Rh z hc13 (mv z) (Rh z hc13 (lss z z) (R z (pF z hc13 z) (Rm z ?_)))
  rcases bs (decide (x3 < 0)) with hc11 | hc11
  ·iterate 4 refine Nh z hc11 ?_
   exact R z (pT z hc11 z) (Rm z (Nh z z (Nh z z (Nh z z (Nh z z (Nh z z (Nh z z (R z (pT z z z) (Wl (fun _ q => ⟨true, som (ifT hm1f hc11), (q.k (s5 z z z z z)), (br w0)⟩))))))))))
  have hm1g := ifF hm1f hc11
  refine Rh z hc11 (mv z) (Rh z hc11 (mv z) (Rh z hc11 (lnR d_25 z p1_0) (Rh z hc11 (rd_gtr z z) (R z (pF z hc11 z) (Rm z ?_)))))
  rcases bs (decide ((x1.length : Int) < x2)) with hc10 | hc10
  ·iterate 6 refine Nh z hc10 ?_
   exact R z (pT z hc10 z) (Wl (fun _ q => ⟨true, som (ifT hm1g hc10), (q.k (s5 z z z z z)), (br w0)⟩))
  exact Rh z hc10 (mv z) (Rh z hc10 (mv z) (Rh z hc10 (lnR d_25 z p1_0) (Rh z hc10 (mv z) (Rh z hc10 (sb_ z z) (Rh z hc10 (rd_gtr z z) (R z (pF z hc10 z) (Wl (fun _ q => ⟨decide ((isub (x1.length : Int) x2) < x3), som (ifF hm1g hc10), (q.k (s5 z z z z z)), (br w0)⟩))))))))
 rintro a1p w2r ⟨x16, rfl, hS2s, s12⟩
 revert a1p
 refine Wo (Wc z (fun hc17 => ?_) (fun hc17 => ?_))
 ·refine Ws (E z (ef_lit0 (α := UInt8) el_25) ?_)
  rintro _ w2t ⟨a2u, n2v, c2w, rfl, s18, h1q⟩
  refine Rm z ?_
  obtain ⟨x2x, e1r, hm1s⟩ := bdS (ifT hm1e hc17)
  refine E z (ef_appendN (α := UInt8) el_25 e1r z z h1q nd_one ((p1_0.ext s12).ext s18)) ?_
  rintro _ w2y ⟨S1t, a1u, n1v, c1w, rfl, s1x, h1y, h1z, h20⟩
  refine Ra z (Ra z (Wn ?_))
  obtain rfl := som hm1s
  have h1h := mem1le s12.size
  exact Wr (ret2 hr z z ⟨(bM (bup s12 s18) s1x h1h), a1u, n1v, c1w, S1t, z, h1y, h1z, (o1le h20 h1h (lt_ s12.size s18.size))⟩)
 refine Wk (Ws (E z (ef_lit0 (α := UInt8) el_25) ?_))
 rintro _ w2z ⟨a30, n31, c32, rfl, s14, h21⟩
 refine Rm z (Rm z (Rm z ?_))
 obtain ⟨x33, e22, hm23⟩ := bdS (ifF hm1e hc17)
 have h1i := (p1_0.ext s12).ext s14
 refine RX z (rd_slice3X d_25 z_5 z z h1i z z z e22) ?_
 rintro _ ⟨a34, n35, c36, rfl, h24⟩
 obtain ⟨x37, e25, hm26⟩ := bdS hm23
 refine E z (ef_appendN (α := UInt8) el_25 e25 z z h21 nd_one h24) ?_
 rintro _ w38 ⟨S39, a3a, n3b, c3c, rfl, s15, h27, h28, h1j⟩
 refine Ra z (Wn (Ws (Rm z (Rm z ?_))))
 obtain ⟨x3d, e29, hm2a⟩ := bdS hm26
 have h19 := mem1le (lt_ hBw s12.size)
 refine E z (ef_appendN (α := UInt8) el_25 e29 z z h27 h28 (((p4_0.ext s12).ext s14).chg s15 (lg h19))) ?_
 rintro _ w3e ⟨S3f, a3g, n3h, c3i, rfl, s1a, h2b, h2c, h2d⟩
 refine Ra z (Wn (Ws (Rm z (Rm z (Rm z (Rm z (R z (add_ z z) (Rm z ?_))))))))
 have h1b := lt_ s12.size s14.size
 have h1c := (h1i.chg s15 (lg h19)).chg s1a (lg (o1le h1j h19 (lt_ hBw h1b)))
 refine R z (lnR d_25 z h1c) (Rm z (R z (lnR d_25 z h1c) ?_))
 obtain ⟨x3j, e2e, hm2f⟩ := bdS hm2a
 refine RX z (rd_slice3X d_25 z_5 z z h1c z z z e2e) ?_
 rintro _ ⟨a3k, n3l, c3m, rfl, h2g⟩
 obtain ⟨x3n, e2h, hm2i⟩ := bdS hm2f
 refine E z (ef_appendN (α := UInt8) el_25 e2h z z h2b h2c h2g) ?_
 rintro _ w3o ⟨S2j, a2k, n2l, c2m, rfl, s2n, h2o, h2p, h2q⟩
 refine Ra z (Ra z (Wn ?_))
 obtain rfl := som hm2i
 have h1k := mem1le s12.size
 have h1l := o1le h1j h1k h1b
 have h1m := lt_ h1b s15.size
 have h1n := o1le h2d h1l h1m
 exact Wr (ret2 hr z z ⟨(bM (bM (bM (bup s12 s14) s15 h1k) s1a h1l) s2n h1n), a2k, n2l, c2m, S2j, z, h2o, h2p, (o1le h2q h1n (lt_ h1m s1a.size))⟩)
def Q26 (w0 : World) (B : Nat) (r : (Option (Int × Int))) (v : Value) (w' : World) : Prop := Bw w0 w' ∧ (fun r1 => ∃ (v1 : Value) (S1 : List Nat), v1 = v ∧ errR 119 w' S1 v1 r1 ∧ (∀ k ∈ S1, w0.heap.size ≤ k)) r
theorem W_impl_fail {x1 : Int} {x2 : Int} {res : (Option (Int × Int))} (hm : M_impl_fail x1 x2 = some res) (hBw : B ≤ w0.heap.size) (p1_0 : inI x1) (p2_0 : inI x2) : CallsR prog 116 [(vI x1), (vI x2)] w0 (Q26 w0 B res) := by
 unfold M_impl_fail at hm
 refine goF func116 z z (lb z) fun fn hr => Ws (Ra z (Wn (Ws (Rm z (Rm z (R z (bP (parts := [(0, (.tmp 5)), (1, (.tmp 6))]) (cs := [(vI x1), (vI x2)]) build_123 z z) (E z (fb z) ?_)))))))
 rintro _ w11 ⟨rfl, h10⟩
 have h12 : Blk w11 w0.heap.size [(vI x1), (vI x2)] := h10.blk
 refine R z (rd_makeIface d_119 (fun _ h => by cases h) z) (Ra z (Wn ?_))
 obtain rfl := som hm
 exact Wr (ret1 hr z ⟨h10.below, (.iface 119 (pt w0.heap.size)), [w0.heap.size], z, (errR_mkp h12 p1_0 p2_0 z), (mem1 lr)⟩)
def Q27 (w0 : World) (B : Nat) (r : (List UInt8) × (Option (Int × Int))) (v : Value) (w' : World) : Prop := Bw w0 w' ∧ un2 (fun r1 r2 => ∃ (a1 : Option Addr) (n1 c1 : Nat) (v2 : Value) (S2 : List Nat), v = .tuple #[(sl a1 n1 c1), v2] ∧ repS w' w'.heap.size (sl a1 n1 c1) r1 ∧ errR 119 w' S2 v2 r2 ∧ (∀ k ∈ S2, w0.heap.size ≤ k)) r
theorem W_impl_fileReader_take {x1 : FileReader} {b1 o1 : Nat} {x2 : Int} {x3 : Int} {res : (List UInt8) × (Option (Int × Int))} (hm : M_impl_fileReader_take x1 x2 x3 = some res) (hBw : B ≤ w0.heap.size) (p1_0 : repS w0 B (sl pa1_0 pn1_0 pc1_0) x1.d.rules) (p1_1 : repS w0 B (sl pa1_1 pn1_1 pc1_1) x1.b) (hC1 : CellsAt w0 b1 o1 [(sl pa1_0 pn1_0 pc1_0), (sl pa1_1 pn1_1 pc1_1)]) (hC1b : b1 < B) (p2_0 : inI x2) (p3_0 : inI x3) : CallsR prog 135 [(.pointer (some ⟨b1, o1, none⟩)), (vI x2), (vI x3)] w0 (Q27 w0 B res) := by
 unfold M_impl_fileReader_take at hm
 refine goF func135 z z (lb z) fun fn hr => Ws (Ra z (Ra z (Wn (Wq (Ws (Rm z (Rm z (R z (rd_nil z) (R z (fd f_114_1 z) (R z (l1 g_25 z fid (hC1.at (j := 1) z)) (R z (lnR d_25 z p1_1) (Rm z (R z (sb_ z z) (R z (rd_gtr z z) (Wn (Wc z (fun hc10 => ?_) (fun hc10 => ?_)))))))))))))))))
 ·refine Ws (Rm z ?_)
  obtain ⟨r1e, e12, hm13⟩ := bdS (ifT hm hc10)
  refine E z (fc call116 z (W_impl_fail (B := B) e12 hBw p2_0 (ii z))) ?_
  rintro _ w1f ⟨s11, v14, S15, rfl, h16, h17⟩
  refine Ra z (Ra z (Wn ?_))
  obtain rfl := som hm13
  exact Wr (ret2 hr z z ⟨s11, none, 0, 0, v14, S15, z, (repS.mono (ownS_rep onL all_nil) s11.size), h16, h17⟩)
 refine Wk (Ws (Rm z (R z (rd_nil z) (R z (fd f_114_1 z) (R z (l1 g_25 z fid (hC1.at (j := 1) z)) (Rm z (Rm z (Rm z (R z (add_ z z) ?_)))))))))
 obtain ⟨x1g, e18, hm19⟩ := bdS (ifF hm hc10)
 refine RX z (rd_sliceX d_25 z_5 z z p1_1 z z e18) ?_
 rintro _ ⟨a1a, n1b, c1c, rfl, h1d⟩
 refine Ra z (Ra z (Wn ?_))
 obtain rfl := som hm19
 exact Wr (ret2 hr z z ⟨(br w0), a1a, n1b, c1c, .nilIface, ([] : List Nat), z, (repS.mono h1d hBw), errR_nil, all_nil⟩)
def Q28 (w0 : World) (B : Nat) (r : Int × Int × (Option (Int × Int))) (v : Value) (w' : World) : Prop := Bw w0 w' ∧ un3 (fun r1 r2 r3 => ∃ (v1 : Value) (S1 : List Nat), v = .tuple #[(vI r1), (vI r2), v1] ∧ inI r1 ∧ inI r2 ∧ errR 119 w' S1 v1 r3 ∧ (∀ k ∈ S1, w0.heap.size ≤ k)) r
theorem W_impl_fileReader_integer {x1 : FileReader} {b1 o1 : Nat} {x2 : Int} {x3 : Int} {res : Int × Int × (Option (Int × Int))} (hm : M_impl_fileReader_integer x1 x2 x3 = some res) (hBw : B ≤ w0.heap.size) (p1_0 : repS w0 B (sl pa1_0 pn1_0 pc1_0) x1.d.rules) (p1_1 : repS w0 B (sl pa1_1 pn1_1 pc1_1) x1.b) (hC1 : CellsAt w0 b1 o1 [(sl pa1_0 pn1_0 pc1_0), (sl pa1_1 pn1_1 pc1_1)]) (hC1b : b1 < B) (p2_0 : inI x2) (p3_0 : inI x3) : CallsR prog 107 [(.pointer (some ⟨b1, o1, none⟩)), (vI x2), (vI x3)] w0 (Q28 w0 B res) := by
 unfold M_impl_fileReader_integer at hm
 refine goF func107 z z (lb z) fun fn hr => Ws (Ra z (Ra z (Ra z (Wn (Ws (Rm z (R z (rd_nil z) (R z (fd f_114_0 z) (R z (fd f_31_0 z) (R z (l1 g_29 z fid (hC1.at (j := 0) z)) (Rm z ?_)))))))))))
 obtain ⟨x10, e1p, hm1q⟩ := bdS hm
 refine RX z (at_ (α := Rule) d_29 z_74 z z z p1_0 e1p) ?_
 rintro _ ⟨b27, o28, cs29, rfl, h1r, h1s, h2a⟩
 obtain ⟨a17, n18, c19, a1a, n1b, c1c, a1d, n1e, c1f, a1g, n1h, c1i, rfl, h2b, h2c, h1t, h2d, h2e, h2f, h2g⟩ := Rule_open h1s
 refine R z (lN (vs := (vR x10 a17 n18 c19 a1a n1b c1c a1d n1e c1f a1g n1h c1i)) g_74 z_74 z z fid h1r) (E z (fa zero_74) ?_)
 rintro _ w1u ⟨rfl, h1j⟩
 have h11 := h1j.below
 have h1v : Blk w1u w0.heap.size [(Str.v (⟨[]⟩ : Str)), (vI 0), (vI 0), (vB false), (sl none 0 0), (sl none 0 0), (sl none 0 0), (sl none 0 0)] := h1j.blk
 refine E0 (fs (cur' := (vR x10 a17 n18 c19 a1a n1b c1c a1d n1e c1f a1g n1h c1i)) z_74 z z h1v z (lb z) (oA z) z) ?_
 rintro _ w2h ⟨h1k, s1w⟩
 have h12 := s1w.one
 refine Wn (Ws (Rm z (Rm z (R z (fd f_74_2 z) (R z (l1 g_3 z fid (h1k.at z)) ?_)))))
 have h14 := mem1le hBw
 have h1l := lt_ h11.size h12.size
 obtain ⟨r2i, r2j, e1x, hm1m⟩ := bd2S hm1q
 refine E z (fc call135 z (W_impl_fileReader_take (B := B) e1x (lt_ hBw h1l) ((p1_0.ext h11).chg h12 (lg h14)) ((p1_1.ext h11).chg h12 (lg h14)) ((hC1.ext h11).chg h12 ((lg h14) _ hC1b)) hC1b p3_0 h1t)) ?_
 rintro _ w1y ⟨s15, a2k, n2l, c2m, v1z, S20, rfl, h21, h1n, h22⟩
 refine Rm z (R z (ext_ z z) (R z (ext_ z z) (Ra z (Ra z (Wn (Wq (Ws (Rm z (R z (rd_neqEr d_116 z z h1n) (Wn (Wc z (fun hc16 => ?_) (fun hc16 => ?_))))))))))))
 ·refine Ws (Rm z (Rm z (Ra z (Ra z (Ra z (Wn ?_))))))
  obtain rfl := som (ifT hm1m hc16)
  exact Wr (ret3 hr z z z ⟨(bup (bM h11 h12 (mem1 lr)) s15), v1z, S20, z, (ii z), p3_0, h1n, (o0le h22 h1l)⟩)
 refine Wk (Wq (WC_draw (X := noX) 0 (.rd 0 (.rd 1 (.rd 2 (.rd 4 (.rd 5 (.rd 6 (.rd 7 (.ef 3 (.rd 8 (.rd 9 (.rd 10 .done))))))))))) mo (by kernel_rfl) fun w2n s13 _ => dR z z (mv z) (dR z z (fd f_74_3 z) ?_)))
 have h1o := (h1k.ext s15).ext s13
 refine dR z z (l1 g_4 z fid (h1o.at z)) (dR z z (mv z) (dR z z (fd f_74_2 z) (dR z z (l1 g_3 z fid (h1o.at z)) (dR z z (add_ z z) ?_))))
 obtain ⟨r2o, e23, hm24⟩ := bdS (ifF hm1m hc16)
 refine dE z z (fc call136 z (W_impl_ReadInteger (B := w1y.heap.size) e23 s13.size (h21.ext s13))) (.inr fun _ _ h => chgB (h.1)) ?_
 rintro _ w2p ⟨s25, rfl, h26⟩
 iterate 3 refine dR z z (asg z) ?_
 refine PR_done (Wo ?_)
 obtain rfl := som hm24
 exact Wr (ret3 hr z z z ⟨(bup (bup (bup (bM h11 h12 (mem1 lr)) s15) s13) s25), .nilIface, ([] : List Nat), z, h26, (iA _ _), errR_nil, all_nil⟩)
def Q29 (w0 : World) (B : Nat) (r : Int × (Option (Int × Int))) (v : Value) (w' : World) : Prop := Bw w0 w' ∧ un2 (fun r1 r2 => ∃ (v1 : Value) (S1 : List Nat), v = .tuple #[(vI r1), v1] ∧ inI r1 ∧ errR 119 w' S1 v1 r2 ∧ (∀ k ∈ S1, w0.heap.size ≤ k)) r
theorem W_impl_fileReader_constant {x1 : FileReader} {b1 o1 : Nat} {x2 : Rule} {x3 : Int} {res : Int × (Option (Int × Int))} (hm : M_impl_fileReader_constant x1 x2 x3 = some res) (hBw : B ≤ w0.heap.size) (p1_0 : repS w0 B (sl pa1_0 pn1_0 pc1_0) x1.d.rules) (p1_1 : repS w0 B (sl pa1_1 pn1_1 pc1_1) x1.b) (hC1 : CellsAt w0 b1 o1 [(sl pa1_0 pn1_0 pc1_0), (sl pa1_1 pn1_1 pc1_1)]) (hC1b : b1 < B) (p2_0 : x2.name.b.length ≤ LEN) (p2_1 : inI x2.kind) (p2_2 : inI x2.size) (p2_4 : repS w0 B (sl pa2_4 pn2_4 pc2_4) x2.bytes) (p2_5 : repS w0 B (sl pa2_5 pn2_5 pc2_5) x2.names) (p2_6 : repS w0 B (sl pa2_6 pn2_6 pc2_6) x2.tags) (p2_7 : repS w0 B (sl pa2_7 pn2_7 pc2_7) x2.kids) (p3_0 : inI x3) : CallsR prog 108 [(.pointer (some ⟨b1, o1, none⟩)), (.agg #[(Str.v x2.name), (vI x2.kind), (vI x2.size), (vB x2.little), (sl pa2_4 pn2_4 pc2_4), (sl pa2_5 pn2_5 pc2_5), (sl pa2_6 pn2_6 pc2_6), (sl pa2_7 pn2_7 pc2_7)]), (vI x3)] w0 (Q29 w0 B res) := by
 unfold M_impl_fileReader_constant at hm
 refine goF func108 z z (lb z) fun fn hr => Ws (E z (fb z) ?_)
 rintro _ w12 ⟨rfl, h18⟩
 have h10 := h18.below
 have h19 : Blk w12 w0.heap.size (vR x2 pa2_4 pn2_4 pc2_4 pa2_5 pn2_5 pc2_5 pa2_6 pn2_6 pc2_6 pa2_7 pn2_7 pc2_7) := h18.blk
 refine Ra z (Ra z (Wn (Wq (Ws (R z (fd f_74_4 z) (R z (l1 g_25 z fid (h19.at z)) ?_))))))
 have h13 := p2_4.ext h10
 refine R z (lnR d_25 z h13) (Rm z (Wn ?_))
 obtain ⟨u2b, hu1i, hm1a⟩ := bdS hm
 refine WC_forN (σ := Unit) (ρ := Int × (Option (Int × Int))) (fun (k14 : Nat) (_ : Unit) a w => Sat 52 [(0, (.pointer (some ⟨b1, o1, none⟩))), (2, (vI x3)), (4, (pt w0.heap.size)), (11, (sl pa2_4 pn2_4 pc2_4)), (12, (vI (x2.bytes.length : Int))), (13, (vI ((k14 : Nat) : Int)))] a ∧ Below w12.heap.size w12 w) (fun (_ : Unit) a w => Sat 52 [(2, (vI x3)), (4, (pt w0.heap.size))] a ∧ Below w12.heap.size w12 w) (fun r ex a w => ex = .ret ∧ RetPost prog fn (Q29 w0 B r) a w) hu1i ?_ ?_ ?_ ?_ ?_
 ·exact fun _ q => ⟨(q.k (s6 z z z z z z)), (br w12)⟩
 ·rintro k14 _ a2c w2d o2e hk1b ⟨hS1j, s11⟩ hm1k
  refine Wu (e := [(0, (.pointer (some ⟨b1, o1, none⟩))), (2, (vI x3)), (4, (pt w0.heap.size)), (11, (sl pa2_4 pn2_4 pc2_4)), (12, (vI (x2.bytes.length : Int))), (13, (vI ((k14 : Nat) : Int)))]) (N := 52) ?_ hS1j
  refine Ws (R z (lss z z) (Wn (Wq (Wc z (fun _ => ?_) (fun hc => (nolt hk1b hc).elim)))))
  refine Wk (Wq (WC_block (Ws (Rm z ?_))))
  obtain ⟨x2f, e1l, hm1c⟩ := bdS hm1k
  refine RX z (at_ (α := UInt8) d_25 z_5 z z z (h13.ext s11) e1l) ?_
  rintro _ ⟨b2g, o2h, cs2i, rfl, h1m, h1n, h2j⟩
  obtain rfl := UInt8_open h1n
  refine R z (l1 g_5 z fid (h1m.at0 z)) (Ra z (Ra z (Wn (Wq (Ws (Rm z (Rm z (R z (add_ z z) (Rm z (R z (rd_nil z) (R z (fd f_114_1 z) ?_)))))))))))
  have h1d := (hC1.ext h10).ext s11
  refine R z (l1 g_25 z fid (h1d.at (j := 1) z)) ?_
  have h1e := (p1_1.ext h10).ext s11
  refine R z (lnR d_25 z h1e) (R z (rd_geq z z) (Wn (Wc z (fun hc15 => ?_) (fun hc15 => ?_))))
  ·refine Ws (Rm z (Rm z ?_))
   have h1f := lt_ h10.size s11.size
   obtain ⟨r2k, e1o, hm1p⟩ := bdS (ifT hm1c hc15)
   refine E z (fc call116 z (W_impl_fail (B := B) e1o (lt_ hBw h1f) p3_0 (ii z))) ?_
   rintro _ w2l ⟨s1q, v1r, S1s, rfl, h1t, h1u⟩
   exact Ra z (Ra z (Wn (Wr (rtO (QO_retL (som hm1p).symm (ret2 hr z z ⟨(bup (bup h10 s11) s1q), v1r, S1s, z, p3_0, h1t, (o0le h1u h1f)⟩))))))
  refine Wk (Ws (Rm z (R z (rd_nil z) (R z (fd f_114_1 z) (R z (l1 g_25 z fid (h1d.at (j := 1) z)) (Rm z (Rm z (R z (add_ z z) ?_))))))))
  obtain ⟨x2m, e1v, hm1g⟩ := bdS (ifF hm1c hc15)
  refine RX z (at_ (α := UInt8) d_25 z_5 z z z h1e e1v) ?_
  rintro _ ⟨b2n, o2o, cs2p, rfl, h1w, h1x, h2q⟩
  obtain rfl := UInt8_open h1x
  refine R z (l1 g_5 z fid (h1w.at0 z)) (Rm z (R z (nq z z) (Wn (Wc z (fun hc16 => ?_) (fun hc16 => ?_)))))
  ·refine Ws (Rm z (Rm z (Rm z (R z (add_ z z) ?_))))
   have h1h := lt_ h10.size s11.size
   obtain ⟨r2r, e1y, hm1z⟩ := bdS (ifT hm1g hc16)
   refine E z (fc call116 z (W_impl_fail (B := B) e1y (lt_ hBw h1h) (iA _ _) (ii z))) ?_
   rintro _ w2s ⟨s20, v21, S22, rfl, h23, h24⟩
   exact Ra z (Ra z (Wn (Wr (rtO (QO_retL (som hm1z).symm (ret2 hr z z ⟨(bup (bup h10 s11) s20), v21, S22, z, p3_0, h23, (o0le h24 h1h)⟩))))))
  exact Wk (Wg (R z (inc_ hk1b (lt_ (repS.len p2_4) LEN_le) z z) (Rm z (Wl (fun _ q => ⟨(), (som (ifF hm1g hc16)).symm, ⟨(q.k (s6 z z z z z z)), s11⟩⟩)))))
 ·rintro _ a2t w2u ⟨hS25, s26⟩
  refine Wu (e := [(0, (.pointer (some ⟨b1, o1, none⟩))), (2, (vI x3)), (4, (pt w0.heap.size)), (11, (sl pa2_4 pn2_4 pc2_4)), (12, (vI (x2.bytes.length : Int))), (13, (vI ((x2.bytes.length : Nat) : Int)))]) (N := 52) ?_ hS25
  refine Ws (R z (lss z z) (Wn (Wq (Wc z (fun hc => (noltt hc).elim) (fun _ => ?_)))))
  exact WC_exit (fun a' ha' => ⟨rfl, ⟨(Sat.weaken ha' (s2 z z)), s26⟩⟩)
 ·rintro _ a27 w2v rfl ⟨hS2w, s17⟩
  have hm28 := elL hm1a
  revert a27
  refine Wo (Ws (Rm z (R z (fd f_74_4 z) (R z (l1 g_25 z fid ((h19.ext s17).at z)) (R z (lnR d_25 z (h13.ext s17)) (R z (add_ z z) (Ra z (Ra z (Wn ?_)))))))))
  obtain rfl := som hm28
  exact Wr (ret2 hr z z ⟨(bup h10 s17), .nilIface, ([] : List Nat), z, (iA _ _), errR_nil, all_nil⟩)
 rintro r2x ex2y a2z w30 rfl ⟨rfl, hq29⟩
 have hm2a := elR hm1a
 obtain rfl := som hm2a
 exact ⟨hq29, z⟩
def Q30 (w0 : World) (B : Nat) (r : Val × Int × (Option (Int × Int))) (v : Value) (w' : World) : Prop := Bw w0 w' ∧ un3 (fun r1 r2 r3 => ∃ (a1 : Option Addr) (n1 c1 : Nat) (S1 : List Nat) (a2 : Option Addr) (n2 c2 : Nat) (S2 : List Nat) (v3 : Value) (S3 : List Nat), v = .tuple #[(.agg #[vI r1.number, sl a1 n1 c1, sl a2 n2 c2]), (vI r2), v3] ∧ inI r1.number ∧ ownS w' S1 (sl a1 n1 c1) r1.bytes ∧ ownS w' S2 (sl a2 n2 c2) r1.items ∧ inI r2 ∧ errR 119 w' S3 v3 r3 ∧ (∀ k ∈ S3, w0.heap.size ≤ k) ∧ (S1 ++ S2).Nodup ∧ (∀ k ∈ (S1 ++ S2), w0.heap.size ≤ k)) r
theorem W_impl_fileReader_content {x1 : FileReader} {b1 o1 : Nat} {x2 : Int} {x3 : Int} {res : Val × Int × (Option (Int × Int))} (hm : M_impl_fileReader_content x1 x2 x3 = some res) (hBw : B ≤ w0.heap.size) (p1_0 : repS w0 B (sl pa1_0 pn1_0 pc1_0) x1.d.rules) (p1_1 : repS w0 B (sl pa1_1 pn1_1 pc1_1) x1.b) (hC1 : CellsAt w0 b1 o1 [(sl pa1_0 pn1_0 pc1_0), (sl pa1_1 pn1_1 pc1_1)]) (hC1b : b1 < B) (p2_0 : inI x2) (p3_0 : inI x3) : CallsR prog 109 [(.pointer (some ⟨b1, o1, none⟩)), (vI x2), (vI x3)] w0 (Q30 w0 B res) := by
 unfold M_impl_fileReader_content at hm
 refine goF func109 z z (lb z) fun fn hr => Ws (E z (fa zero_41) ?_)
 rintro _ w1k ⟨rfl, h18⟩
 have h10 := h18.below
 have h12 : Blk w1k w0.heap.size [(vI 0), (sl none 0 0), (sl none 0 0)] := h18.blk
 refine Ra z (Ra z (Wn (Ws (Rm z (Rm z (Rm z ?_))))))
 obtain ⟨r1z, r20, e1l, hm19⟩ := bd2S hm
 refine E z (fc call135 z (W_impl_fileReader_take (B := B) e1l (lt_ hBw h10.size) (p1_0.ext h10) (p1_1.ext h10) (hC1.ext h10) hC1b p2_0 p3_0)) ?_
 rintro _ w21 ⟨s11, a22, n23, c24, v1m, S1n, rfl, h1o, h1a, h1b⟩
 refine Rm z (R z (ext_ z z) (R z (ext_ z z) (Ra z (Ra z (Wn (Wq (Ws (Rm z (R z (rd_neqEr d_116 z z h1a) (Wn (Wc z (fun hc14 => ?_) (fun hc14 => ?_))))))))))))
 ·refine Ws (R z (bP (parts := []) (cs := [(vI 0), (sl none 0 0), (sl none 0 0)]) build_41 z z) (Rm z (Rm z (E0 (fs (cur' := [(vI 0), (sl none 0 0), (sl none 0 0)]) z_41 z z (h12.ext s11) z (lb z) (oA z) z) ?_))))
  rintro _ w25 ⟨h1p, s1q⟩
  have h1c := s1q.one
  refine Ra z (Ra z (Wn ?_))
  obtain rfl := som (ifT hm19 hc14)
  exact Wr (ret3 hr (resC g_41 z_41 z h1p z) z z ⟨(bM (bup h10 s11) h1c (mem1 lr)), none, 0, 0, [], none, 0, 0, [], v1m, S1n, z, (ii z), onL, onL, p2_0, (h1a.chg h1c (o0n1 h1b h12.lt lr)), (o0le h1b h10.size), nd0, al0⟩)
 refine Wk (Ws (E z (ef_lit0 (α := UInt8) el_25) ?_))
 rintro _ w26 ⟨a27, n28, c29, rfl, s13, h1r⟩
 refine Rm z ?_
 obtain ⟨x2a, e1s, hm1t⟩ := bdS (ifF hm19 hc14)
 refine E z (ef_appendN (α := UInt8) el_25 e1s z z h1r nd_one (h1o.ext s13)) ?_
 rintro _ w2b ⟨S1d, a15, n16, c17, rfl, s1e, h1u, h1v, h1f⟩
 refine R z (bP (parts := [(1, (.tmp 25))]) (cs := [(vI 0), (sl a15 n16 c17), (sl none 0 0)]) build_41 z z) (Rm z (Rm z (R z (add_ z z) ?_)))
 have h1g := mm1 h12.lt s11.size
 refine E0 (fs (cur' := [(vI 0), (sl a15 n16 c17), (sl none 0 0)]) z_41 z z (((h12.ext s11).ext s13).chg s1e (djs h1g)) z (lb z) (oA z) z) ?_
 rintro _ w2c ⟨h1w, s1x⟩
 have h1h := s1x.one
 refine Ra z (Ra z (Wn ?_))
 obtain rfl := som hm1t
 have h1y : ∀ k ∈ S1d, k ∉ [w0.heap.size] := or1 h1f h1g (ltnot (mem1 h12.lt) (lt_ s11.size s13.size))
 have h1i := lt_ h10.size s11.size
 have h1j := mem1le h1i
 exact Wr (ret3 hr (resC g_41 z_41 z h1w z) z z ⟨(bM (bM (bup (bup h10 s11) s13) s1e h1j) h1h (mem1 lr)), a15, n16, c17, S1d, none, 0, 0, [], .nilIface, ([] : List Nat), z, (ii z), (h1u.chg h1h h1y), onL, (iA _ _), errR_nil, all_nil, (nd_app h1v nd_nil (nmN _)), (all_app (o1le h1f h1j (lt_ h1i s13.size)) all_nil)⟩)
def Q31 (w0 : World) (B : Nat) (S2_1 : List Nat) (S2_2 : List Nat) (r : Val × Int × (Option (Int × Int))) (v : Value) (w' : World) : Prop := Chg (· ∈ (S2_1 ++ S2_2)) w0 w' ∧ un3 (fun r1 r2 r3 => ∃ (a1 : Option Addr) (n1 c1 : Nat) (S1 : List Nat) (a2 : Option Addr) (n2 c2 : Nat) (S2 : List Nat) (v3 : Value) (S3 : List Nat), v = .tuple #[(.agg #[vI r1.number, sl a1 n1 c1, sl a2 n2 c2]), (vI r2), v3] ∧ inI r1.number ∧ ownS w' S1 (sl a1 n1 c1) r1.bytes ∧ ownS w' S2 (sl a2 n2 c2) r1.items ∧ inI r2 ∧ errR 119 w' S3 v3 r3 ∧ (∀ k ∈ S3, w0.heap.size ≤ k) ∧ (S1 ++ S2).Nodup ∧ (∀ k ∈ (S1 ++ S2), k ∈ (S2_1 ++ S2_2) ∨ w0.heap.size ≤ k)) r
structure S_impl_fileReader_value (f : FileReader → Int → Int → Option (Val × Int × (Option (Int × Int)))) : Prop where
  run : ∀ {B pn1_0 pc1_0 pn1_1 pc1_1 b1 o1 : Nat} {pa1_0 pa1_1 : Option Addr} {x1 : FileReader} {x2 : Int} {x3 : Int} {res : Val × Int × (Option (Int × Int))} {w0 : World} (hm : f x1 x2 x3 = some res) (hBw : B ≤ w0.heap.size) (p1_0 : repS w0 B (sl pa1_0 pn1_0 pc1_0) x1.d.rules) (p1_1 : repS w0 B (sl pa1_1 pn1_1 pc1_1) x1.b) (hC1 : CellsAt w0 b1 o1 [(sl pa1_0 pn1_0 pc1_0), (sl pa1_1 pn1_1 pc1_1)]) (hC1b : b1 < B) (p2_0 : inI x2) (p3_0 : inI x3), CallsR prog 77 [(.pointer (some ⟨b1, o1, none⟩)), (vI x2), (vI x3)] w0 (Q30 w0 B res)
structure S_impl_fileReader_array (f : FileReader → Rule → Int → Option (Val × Int × (Option (Int × Int)))) : Prop where
  run : ∀ {B pn1_0 pc1_0 pn1_1 pc1_1 b1 o1 pn2_4 pc2_4 pn2_5 pc2_5 pn2_6 pc2_6 pn2_7 pc2_7 : Nat} {pa1_0 pa1_1 pa2_4 pa2_5 pa2_6 pa2_7 : Option Addr} {x1 : FileReader} {x2 : Rule} {x3 : Int} {res : Val × Int × (Option (Int × Int))} {w0 : World} (hm : f x1 x2 x3 = some res) (hBw : B ≤ w0.heap.size) (p1_0 : repS w0 B (sl pa1_0 pn1_0 pc1_0) x1.d.rules) (p1_1 : repS w0 B (sl pa1_1 pn1_1 pc1_1) x1.b) (hC1 : CellsAt w0 b1 o1 [(sl pa1_0 pn1_0 pc1_0), (sl pa1_1 pn1_1 pc1_1)]) (hC1b : b1 < B) (p2_0 : x2.name.b.length ≤ LEN) (p2_1 : inI x2.kind) (p2_2 : inI x2.size) (p2_4 : repS w0 B (sl pa2_4 pn2_4 pc2_4) x2.bytes) (p2_5 : repS w0 B (sl pa2_5 pn2_5 pc2_5) x2.names) (p2_6 : repS w0 B (sl pa2_6 pn2_6 pc2_6) x2.tags) (p2_7 : repS w0 B (sl pa2_7 pn2_7 pc2_7) x2.kids) (p3_0 : inI x3), CallsR prog 110 [(.pointer (some ⟨b1, o1, none⟩)), (.agg #[(Str.v x2.name), (vI x2.kind), (vI x2.size), (vB x2.little), (sl pa2_4 pn2_4 pc2_4), (sl pa2_5 pn2_5 pc2_5), (sl pa2_6 pn2_6 pc2_6), (sl pa2_7 pn2_7 pc2_7)]), (vI x3)] w0 (Q30 w0 B res)
structure S_impl_fileReader_items (f : FileReader → Val → (List Int) → Int → Option (Val × Int × (Option (Int × Int)))) : Prop where
  run : ∀ {B pn1_0 pc1_0 pn1_1 pc1_1 b1 o1 pn2_1 pc2_1 pn2_2 pc2_2 pn3_0 pc3_0 : Nat} {pa1_0 pa1_1 pa2_1 pa2_2 pa3_0 : Option Addr} {S2_1 S2_2 : List Nat} {x1 : FileReader} {x2 : Val} {x3 : List Int} {x4 : Int} {res : Val × Int × (Option (Int × Int))} {w0 : World} (hm : f x1 x2 x3 x4 = some res) (hBw : B ≤ w0.heap.size) (p1_0 : repS w0 B (sl pa1_0 pn1_0 pc1_0) x1.d.rules) (p1_1 : repS w0 B (sl pa1_1 pn1_1 pc1_1) x1.b) (hC1 : CellsAt w0 b1 o1 [(sl pa1_0 pn1_0 pc1_0), (sl pa1_1 pn1_1 pc1_1)]) (hC1b : b1 < B) (p2_0 : inI x2.number) (p2_1 : ownS w0 S2_1 (sl pa2_1 pn2_1 pc2_1) x2.bytes) (p2_1n : S2_1.Nodup) (p2_1g : ∀ k ∈ S2_1, B ≤ k) (p2_2 : ownS w0 S2_2 (sl pa2_2 pn2_2 pc2_2) x2.items) (p2_2n : S2_2.Nodup) (p2_2g : ∀ k ∈ S2_2, B ≤ k) (p2_2d1 : ∀ k ∈ S2_2, k ∉ S2_1) (p3_0 : repS w0 B (sl pa3_0 pn3_0 pc3_0) x3) (p4_0 : inI x4), CallsR prog 111 [(.pointer (some ⟨b1, o1, none⟩)), (.agg #[(vI x2.number), (sl pa2_1 pn2_1 pc2_1), (sl pa2_2 pn2_2 pc2_2)]), (sl pa3_0 pn3_0 pc3_0), (vI x4)] w0 (Q31 w0 B S2_1 S2_2 res)
structure S_impl_fileReader_choice (f : FileReader → Rule → Int → Option (Val × Int × (Option (Int × Int)))) : Prop where
  run : ∀ {B pn1_0 pc1_0 pn1_1 pc1_1 b1 o1 pn2_4 pc2_4 pn2_5 pc2_5 pn2_6 pc2_6 pn2_7 pc2_7 : Nat} {pa1_0 pa1_1 pa2_4 pa2_5 pa2_6 pa2_7 : Option Addr} {x1 : FileReader} {x2 : Rule} {x3 : Int} {res : Val × Int × (Option (Int × Int))} {w0 : World} (hm : f x1 x2 x3 = some res) (hBw : B ≤ w0.heap.size) (p1_0 : repS w0 B (sl pa1_0 pn1_0 pc1_0) x1.d.rules) (p1_1 : repS w0 B (sl pa1_1 pn1_1 pc1_1) x1.b) (hC1 : CellsAt w0 b1 o1 [(sl pa1_0 pn1_0 pc1_0), (sl pa1_1 pn1_1 pc1_1)]) (hC1b : b1 < B) (p2_0 : x2.name.b.length ≤ LEN) (p2_1 : inI x2.kind) (p2_2 : inI x2.size) (p2_4 : repS w0 B (sl pa2_4 pn2_4 pc2_4) x2.bytes) (p2_5 : repS w0 B (sl pa2_5 pn2_5 pc2_5) x2.names) (p2_6 : repS w0 B (sl pa2_6 pn2_6 pc2_6) x2.tags) (p2_7 : repS w0 B (sl pa2_7 pn2_7 pc2_7) x2.kids) (p3_0 : inI x3), CallsR prog 112 [(.pointer (some ⟨b1, o1, none⟩)), (.agg #[(Str.v x2.name), (vI x2.kind), (vI x2.size), (vB x2.little), (sl pa2_4 pn2_4 pc2_4), (sl pa2_5 pn2_5 pc2_5), (sl pa2_6 pn2_6 pc2_6), (sl pa2_7 pn2_7 pc2_7)]), (vI x3)] w0 (Q30 w0 B res)
structure S_impl_fileReader_option (f : FileReader → Rule → Int → Option (Val × Int × (Option (Int × Int)))) : Prop where
  run : ∀ {B pn1_0 pc1_0 pn1_1 pc1_1 b1 o1 pn2_4 pc2_4 pn2_5 pc2_5 pn2_6 pc2_6 pn2_7 pc2_7 : Nat} {pa1_0 pa1_1 pa2_4 pa2_5 pa2_6 pa2_7 : Option Addr} {x1 : FileReader} {x2 : Rule} {x3 : Int} {res : Val × Int × (Option (Int × Int))} {w0 : World} (hm : f x1 x2 x3 = some res) (hBw : B ≤ w0.heap.size) (p1_0 : repS w0 B (sl pa1_0 pn1_0 pc1_0) x1.d.rules) (p1_1 : repS w0 B (sl pa1_1 pn1_1 pc1_1) x1.b) (hC1 : CellsAt w0 b1 o1 [(sl pa1_0 pn1_0 pc1_0), (sl pa1_1 pn1_1 pc1_1)]) (hC1b : b1 < B) (p2_0 : x2.name.b.length ≤ LEN) (p2_1 : inI x2.kind) (p2_2 : inI x2.size) (p2_4 : repS w0 B (sl pa2_4 pn2_4 pc2_4) x2.bytes) (p2_5 : repS w0 B (sl pa2_5 pn2_5 pc2_5) x2.names) (p2_6 : repS w0 B (sl pa2_6 pn2_6 pc2_6) x2.tags) (p2_7 : repS w0 B (sl pa2_7 pn2_7 pc2_7) x2.kids) (p3_0 : inI x3), CallsR prog 113 [(.pointer (some ⟨b1, o1, none⟩)), (.agg #[(Str.v x2.name), (vI x2.kind), (vI x2.size), (vB x2.little), (sl pa2_4 pn2_4 pc2_4), (sl pa2_5 pn2_5 pc2_5), (sl pa2_6 pn2_6 pc2_6), (sl pa2_7 pn2_7 pc2_7)]), (vI x3)] w0 (Q30 w0 B res)
structure S_impl_fileReader_checked (f : FileReader → Rule → Int → Option (Val × Int × (Option (Int × Int)))) : Prop where
  run : ∀ {B pn1_0 pc1_0 pn1_1 pc1_1 b1 o1 pn2_4 pc2_4 pn2_5 pc2_5 pn2_6 pc2_6 pn2_7 pc2_7 : Nat} {pa1_0 pa1_1 pa2_4 pa2_5 pa2_6 pa2_7 : Option Addr} {x1 : FileReader} {x2 : Rule} {x3 : Int} {res : Val × Int × (Option (Int × Int))} {w0 : World} (hm : f x1 x2 x3 = some res) (hBw : B ≤ w0.heap.size) (p1_0 : repS w0 B (sl pa1_0 pn1_0 pc1_0) x1.d.rules) (p1_1 : repS w0 B (sl pa1_1 pn1_1 pc1_1) x1.b) (hC1 : CellsAt w0 b1 o1 [(sl pa1_0 pn1_0 pc1_0), (sl pa1_1 pn1_1 pc1_1)]) (hC1b : b1 < B) (p2_0 : x2.name.b.length ≤ LEN) (p2_1 : inI x2.kind) (p2_2 : inI x2.size) (p2_4 : repS w0 B (sl pa2_4 pn2_4 pc2_4) x2.bytes) (p2_5 : repS w0 B (sl pa2_5 pn2_5 pc2_5) x2.names) (p2_6 : repS w0 B (sl pa2_6 pn2_6 pc2_6) x2.tags) (p2_7 : repS w0 B (sl pa2_7 pn2_7 pc2_7) x2.kids) (p3_0 : inI x3), CallsR prog 114 [(.pointer (some ⟨b1, o1, none⟩)), (.agg #[(Str.v x2.name), (vI x2.kind), (vI x2.size), (vB x2.little), (sl pa2_4 pn2_4 pc2_4), (sl pa2_5 pn2_5 pc2_5), (sl pa2_6 pn2_6 pc2_6), (sl pa2_7 pn2_7 pc2_7)]), (vI x3)] w0 (Q30 w0 B res)
abbrev I_impl_fileReader_value (n : Nat) : Prop := S_impl_fileReader_value (F_impl_fileReader_value n).impl_fileReader_value ∧ S_impl_fileReader_array (F_impl_fileReader_value n).impl_fileReader_array ∧ S_impl_fileReader_items (F_impl_fileReader_value n).impl_fileReader_items ∧ S_impl_fileReader_choice (F_impl_fileReader_value n).impl_fileReader_choice ∧ S_impl_fileReader_option (F_impl_fileReader_value n).impl_fileReader_option ∧ S_impl_fileReader_checked (F_impl_fileReader_value n).impl_fileReader_checked
theorem T_impl_fileReader_value (ih : I_impl_fileReader_value n) : S_impl_fileReader_value (B_impl_fileReader_value n (F_impl_fileReader_value n)) := by
 obtain ⟨ih0, ih1, ih2, ih3, ih4, ih5⟩ := ih
 constructor
 intro B pn1_0 pc1_0 pn1_1 pc1_1 b1 o1 pa1_0 pa1_1 x1 x2 x3 res w0 hm hBw p1_0 p1_1 hC1 hC1b p2_0 p3_0
 unfold B_impl_fileReader_value at hm
 refine goF func77 z z (lb z) fun fn hr => Ws (E z (fa zero_41) ?_)
 rintro _ w3j ⟨rfl, h3k⟩
 have h12 := h3k.below
 have h13 : Blk w3j w0.heap.size [(vI 0), (sl none 0 0), (sl none 0 0)] := h3k.blk
 refine Ra z (Ra z (Wn (Ws (Rm z (R z (rd_nil z) (R z (fd f_114_0 z) (R z (fd f_31_0 z) ?_)))))))
 have h15 := hC1.ext h12
 refine R z (l1 g_29 z fid (h15.at (j := 0) z)) (Rm z ?_)
 obtain ⟨x14, e64, hm3l⟩ := bdS hm
 have h17 := p1_0.ext h12
 refine RX z (at_ (α := Rule) d_29 z_74 z z z h17 e64) ?_
 rintro _ ⟨b10b, o10c, cs10d, rfl, h65, h66, h10e⟩
 obtain ⟨a1a, n1b, c1c, a1d, n1e, c1f, a1g, n1h, c1i, a1j, n1k, c1l, rfl, h1v, h1w, h1s, h1t, h1x, h1y, h1m⟩ := Rule_open h66
 refine R z (lN (vs := (vR x14 a1a n1b c1c a1d n1e c1f a1g n1h c1i a1j n1k c1l)) g_74 z_74 z z fid h65) (E z (fa zero_74) ?_)
 rintro _ w67 ⟨rfl, h3m⟩
 have h10 := h3m.below
 have h68 : Blk w67 w3j.heap.size [(Str.v (⟨[]⟩ : Str)), (vI 0), (vI 0), (vB false), (sl none 0 0), (sl none 0 0), (sl none 0 0), (sl none 0 0)] := h3m.blk
 refine E0 (fs (cur' := (vR x14 a1a n1b c1c a1d n1e c1f a1g n1h c1i a1j n1k c1l)) z_74 z z h68 z (lb z) (oA z) z) ?_
 rintro _ w10f ⟨h18, s69⟩
 have h11 := s69.one
 refine Wn (Wq (Ws (R z (fd f_74_1 z) (R z (l1 g_3 z fid (h18.at z)) (Wn (WC_block (Ws (R z (eql z z) (Ra z (Wn (Wc z (fun hc2m => ?_) (fun hc2m => ?_))))))))))))
 ·refine Ws (Rm z (Rm z (Rm z ?_)))
  have h2n := mem1le (lt_ hBw h12.size)
  have h3n := lt_ (lt_ h12.size h10.size) h11.size
  obtain ⟨r3o, r10g, r10h, e6a, hm6b⟩ := bd3S (ifT hm3l hc2m)
  refine E z (fc call107 z (W_impl_fileReader_integer (B := B) e6a (lt_ hBw h3n) ((h17.ext h10).chg h11 (lg h2n)) (((p1_1.ext h12).ext h10).chg h11 (lg h2n)) ((h15.ext h10).chg h11 ((lg h2n) _ hC1b)) hC1b p2_0 p3_0)) ?_
  rintro _ w10i ⟨s3p, v6c, S6d, rfl, h6e, h6f, h6g, h3q⟩
  refine Rm z ?_
  iterate 3 refine R z (ext_ z z) ?_
  refine Ra z (Ra z (Ra z (Wn (Ws (Rm z (R z (bP (parts := [(0, (.tmp 41))]) (cs := [(vI r3o), (sl none 0 0), (sl none 0 0)]) build_41 z z) (Rm z (Rm z (E0 (fs (cur' := [(vI r3o), (sl none 0 0), (sl none 0 0)]) z_41 z z (((h13.ext h10).chg h11 (djs (mmr h13.lt))).ext s3p) z (lb z) (oA z) z) ?_)))))))))
  rintro _ w10j ⟨h6h, s6i⟩
  have h3r := s6i.one
  refine Ra z (Ra z (Wn ?_))
  obtain rfl := som hm6b
  exact Wr (rtO (ret3 hr (resC g_41 z_41 z h6h z) z z ⟨(bM (bup (bM (bup h12 h10) h11 (mem1le h12.size)) s3p) h3r (mem1 lr)), none, 0, 0, [], none, 0, 0, [], v6c, S6d, z, h6e, onL, onL, h6f, (h6g.chg h3r (o0n1 h3q h13.lt (lt_ h10.size h11.size))), (o0le h3q h3n), nd0, al0⟩))
 have hm3s := ifF hm3l hc2m
 refine Ws (R z (eql z z) (Ra z (Wn (Wc z (fun hc2o => ?_) (fun hc2o => ?_)))))
 ·refine Ws (Rm z (R z (lN (vs := (vR x14 a1a n1b c1c a1d n1e c1f a1g n1h c1i a1j n1k c1l)) g_74 z_74 z z fid (h18.row 0 8 z)) (Rm z ?_)))
  have h1n := mem1le (lt_ hBw h12.size)
  have h3t := lt_ (lt_ h12.size h10.size) h11.size
  obtain ⟨r10k, r10l, e6j, hm6k⟩ := bd2S (ifT hm3s hc2o)
  refine E z (fc call108 z (W_impl_fileReader_constant (B := B) e6j (lt_ hBw h3t) ((h17.ext h10).chg h11 (lg h1n)) (((p1_1.ext h12).ext h10).chg h11 (lg h1n)) ((h15.ext h10).chg h11 ((lg h1n) _ hC1b)) hC1b h1v h1w h1s ((h1t.ext h10).chg h11 (lg h1n)) ((h1x.ext h10).chg h11 (lg h1n)) ((h1y.ext h10).chg h11 (lg h1n)) ((h1m.ext h10).chg h11 (lg h1n)) p3_0)) ?_
  rintro _ w10m ⟨s3u, v6l, S6m, rfl, h6n, h6o, h3v⟩
  refine Rm z (R z (ext_ z z) (R z (ext_ z z) (Ra z (Ra z (Wn (Ws (R z (bP (parts := []) (cs := [(vI 0), (sl none 0 0), (sl none 0 0)]) build_41 z z) (Rm z (Rm z (E0 (fs (cur' := [(vI 0), (sl none 0 0), (sl none 0 0)]) z_41 z z (((h13.ext h10).chg h11 (djs (mmr h13.lt))).ext s3u) z (lb z) (oA z) z) ?_))))))))))
  rintro _ w10n ⟨h6p, s6q⟩
  have h3w := s6q.one
  refine Ra z (Ra z (Wn ?_))
  obtain rfl := som hm6k
  exact Wr (rtO (ret3 hr (resC g_41 z_41 z h6p z) z z ⟨(bM (bup (bM (bup h12 h10) h11 (mem1le h12.size)) s3u) h3w (mem1 lr)), none, 0, 0, [], none, 0, 0, [], v6l, S6m, z, (ii z), onL, onL, h6n, (h6o.chg h3w (o0n1 h3v h13.lt (lt_ h10.size h11.size))), (o0le h3v h3t), nd0, al0⟩))
 have hm3x := ifF hm3s hc2o
 refine Ws (R z (eql z z) (Ra z (Wn (Wc z (fun hc2p => ?_) (fun hc2p => ?_)))))
 ·refine Ws (Rm z (Rm z (R z (fd f_74_2 z) (R z (l1 g_3 z fid (h18.at z)) ?_))))
  have h2q := mem1le (lt_ hBw h12.size)
  have h1z := lt_ (lt_ h12.size h10.size) h11.size
  obtain ⟨r6r, r10o, r10p, e6s, hm6t⟩ := bd3S (ifT hm3x hc2p)
  refine E z (fc call109 z (W_impl_fileReader_content (B := B) e6s (lt_ hBw h1z) ((h17.ext h10).chg h11 (lg h2q)) (((p1_1.ext h12).ext h10).chg h11 (lg h2q)) ((h15.ext h10).chg h11 ((lg h2q) _ hC1b)) hC1b p3_0 h1s)) ?_
  rintro _ w10q ⟨s3y, a3z, n40, c41, S6u, a42, n43, c44, S6v, v6w, S6x, rfl, h6y, h6z, h70, h71, h72, h45, h2r, h20⟩
  iterate 3 refine R z (ext_ z z) ?_
  refine E0 (fs (cur' := [(vI r6r.number), (sl a3z n40 c41), (sl a42 n43 c44)]) z_41 z z (((h13.ext h10).chg h11 (djs (mmr h13.lt))).ext s3y) z (lb z) (oA z) z) ?_
  rintro _ w10r ⟨h73, s74⟩
  have h21 := s74.one
  refine Ra z (Ra z (Wn ?_))
  obtain rfl := som hm6t
  have h2s := lt_ h10.size h11.size
  exact Wr (rtO (ret3 hr (resC g_41 z_41 z h73 z) z z ⟨(bM (bup (bM (bup h12 h10) h11 (mem1le h12.size)) s3y) h21 (mem1 lr)), a3z, n40, c41, S6u, a42, n43, c44, S6v, v6w, S6x, z, h6y, (h6z.chg h21 (o0n1 (all_left h20) h13.lt h2s)), (h70.chg h21 (o0n1 (all_right h20) h13.lt h2s)), h71, (h72.chg h21 (o0n1 h45 h13.lt h2s)), (o0le h45 h1z), (nd_app (nd_left h2r) (nd_right h2r) (nd_dj h2r)), (all_app (o0le (all_left h20) h1z) (o0le (all_right h20) h1z))⟩))
 have hm46 := ifF hm3x hc2p
 refine Ws (R z (eql z z) (Ra z (Wn (Wc z (fun hc2t => ?_) (fun hc2t => ?_)))))
 ·refine Ws (Rm z (R z (fd f_74_7 z) (R z (l1 g_72 z fid (h18.at z)) ?_)))
  obtain ⟨x10s, e75, hm76⟩ := bdS (ifT hm46 hc2t)
  have h22 := mem1le (lt_ hBw h12.size)
  refine RX z (at_ (α := Int) d_72 z_3 z z z ((h1m.ext h10).chg h11 (lg h22)) e75) ?_
  rintro _ ⟨b10t, o10u, cs10v, rfl, h77, h78, h10w⟩
  obtain ⟨rfl, h79⟩ := Int_open h78
  refine R z (l1 g_3 z fid (h77.at0 z)) (Rm z ?_)
  have h47 := (h15.ext h10).chg h11 ((lg h22) _ hC1b)
  have h48 := (h17.ext h10).chg h11 (lg h22)
  have h49 := ((p1_1.ext h12).ext h10).chg h11 (lg h22)
  have h2u := lt_ (lt_ h12.size h10.size) h11.size
  obtain ⟨r10x, r10y, r10z, e7a, hm4a⟩ := bd3S hm76
  refine E z (fc call107 z (W_impl_fileReader_integer (B := B) e7a (lt_ hBw h2u) h48 h49 h47 hC1b h79 p3_0)) ?_
  rintro _ w110 ⟨s19, v7b, S7c, rfl, h7d, h7e, h4b, h4c⟩
  refine Rm z ?_
  iterate 3 refine R z (ext_ z z) ?_
  refine Ra z (Ra z (Ra z (Wn (Wq (Ws (Rm z (R z (rd_neqEr d_116 z z h4b) (Wn (Wc z (fun hc2v => ?_) (fun hc2v => ?_))))))))))
  ·refine Ws (R z (bP (parts := []) (cs := [(vI 0), (sl none 0 0), (sl none 0 0)]) build_41 z z) (Rm z (Rm z (E0 (fs (cur' := [(vI 0), (sl none 0 0), (sl none 0 0)]) z_41 z z (((h13.ext h10).chg h11 (djs (mmr h13.lt))).ext s19) z (lb z) (oA z) z) ?_))))
   rintro _ w111 ⟨h7f, s7g⟩
   have h4d := s7g.one
   refine Ra z (Ra z (Wn ?_))
   obtain rfl := som (ifT hm4a hc2v)
   exact Wr (rtO (ret3 hr (resC g_41 z_41 z h7f z) z z ⟨(bM (bup (bM (bup h12 h10) h11 (mem1le h12.size)) s19) h4d (mem1 lr)), none, 0, 0, [], none, 0, 0, [], v7b, S7c, z, (ii z), onL, onL, p3_0, (h4b.chg h4d (o0n1 h4c h13.lt (lt_ h10.size h11.size))), (o0le h4c h2u), nd0, al0⟩))
  refine Wk (Ws (Rm z (Rm z (Rm z ?_))))
  have h23 := lt_ h2u s19.size
  obtain ⟨r7h, r112, r113, e7i, hm7j⟩ := bd3S (ifF hm4a hc2v)
  refine E z (fc call109 z (W_impl_fileReader_content (B := B) e7i (lt_ hBw h23) (h48.ext s19) (h49.ext s19) (h47.ext s19) hC1b h7e h7d)) ?_
  rintro _ w114 ⟨s4e, a4f, n4g, c4h, S7k, a4i, n4j, c4k, S7l, v7m, S7n, rfl, h7o, h7p, h7q, h7r, h7s, h4l, h2w, h24⟩
  iterate 3 refine R z (ext_ z z) ?_
  refine E0 (fs (cur' := [(vI r7h.number), (sl a4f n4g c4h), (sl a4i n4j c4k)]) z_41 z z ((((h13.ext h10).chg h11 (djs (mmr h13.lt))).ext s19).ext s4e) z (lb z) (oA z) z) ?_
  rintro _ w115 ⟨h7t, s7u⟩
  have h25 := s7u.one
  refine Ra z (Ra z (Wn ?_))
  obtain rfl := som hm7j
  have h2x := lt_ (lt_ h10.size h11.size) s19.size
  exact Wr (rtO (ret3 hr (resC g_41 z_41 z h7t z) z z ⟨(bM (bup (bup (bM (bup h12 h10) h11 (mem1le h12.size)) s19) s4e) h25 (mem1 lr)), a4f, n4g, c4h, S7k, a4i, n4j, c4k, S7l, v7m, S7n, z, h7o, (h7p.chg h25 (o0n1 (all_left h24) h13.lt h2x)), (h7q.chg h25 (o0n1 (all_right h24) h13.lt h2x)), h7r, (h7s.chg h25 (o0n1 h4l h13.lt h2x)), (o0le h4l h23), (nd_app (nd_left h2w) (nd_right h2w) (nd_dj h2w)), (all_app (o0le (all_left h24) h23) (o0le (all_right h24) h23))⟩))
 have hm4m := ifF hm46 hc2t
 refine Ws (R z (eql z z) (Ra z (Wn (Wc z (fun hc2y => ?_) (fun hc2y => ?_)))))
 ·refine Ws (Rm z (R z (lN (vs := (vR x14 a1a n1b c1c a1d n1e c1f a1g n1h c1i a1j n1k c1l)) g_74 z_74 z z fid (h18.row 0 8 z)) (Rm z ?_)))
  have h1o := mem1le (lt_ hBw h12.size)
  have h26 := lt_ (lt_ h12.size h10.size) h11.size
  obtain ⟨r7v, r116, r117, e7w, hm7x⟩ := bd3S (ifT hm4m hc2y)
  refine E z (fc call110 z (ih1.run (B := B) e7w (lt_ hBw h26) ((h17.ext h10).chg h11 (lg h1o)) (((p1_1.ext h12).ext h10).chg h11 (lg h1o)) ((h15.ext h10).chg h11 ((lg h1o) _ hC1b)) hC1b h1v h1w h1s ((h1t.ext h10).chg h11 (lg h1o)) ((h1x.ext h10).chg h11 (lg h1o)) ((h1y.ext h10).chg h11 (lg h1o)) ((h1m.ext h10).chg h11 (lg h1o)) p3_0)) ?_
  rintro _ w118 ⟨s4n, a4o, n4p, c4q, S7y, a4r, n4s, c4t, S7z, v80, S81, rfl, h82, h83, h84, h85, h86, h4u, h2z, h27⟩
  iterate 3 refine R z (ext_ z z) ?_
  refine E0 (fs (cur' := [(vI r7v.number), (sl a4o n4p c4q), (sl a4r n4s c4t)]) z_41 z z (((h13.ext h10).chg h11 (djs (mmr h13.lt))).ext s4n) z (lb z) (oA z) z) ?_
  rintro _ w119 ⟨h87, s88⟩
  have h28 := s88.one
  refine Ra z (Ra z (Wn ?_))
  obtain rfl := som hm7x
  have h30 := lt_ h10.size h11.size
  exact Wr (rtO (ret3 hr (resC g_41 z_41 z h87 z) z z ⟨(bM (bup (bM (bup h12 h10) h11 (mem1le h12.size)) s4n) h28 (mem1 lr)), a4o, n4p, c4q, S7y, a4r, n4s, c4t, S7z, v80, S81, z, h82, (h83.chg h28 (o0n1 (all_left h27) h13.lt h30)), (h84.chg h28 (o0n1 (all_right h27) h13.lt h30)), h85, (h86.chg h28 (o0n1 h4u h13.lt h30)), (o0le h4u h26), (nd_app (nd_left h2z) (nd_right h2z) (nd_dj h2z)), (all_app (o0le (all_left h27) h26) (o0le (all_right h27) h26))⟩))
 have hm4v := ifF hm4m hc2y
 refine Ws (R z (eql z z) (Ra z (Wn (Wc z (fun hc31 => ?_) (fun hc31 => ?_)))))
 ·refine Ws (Rm z (R z (bP (parts := []) (cs := [(vI 0), (sl none 0 0), (sl none 0 0)]) build_41 z z) (R z (fd f_74_7 z) (R z (l1 g_72 z fid (h18.at z)) (Rm z ?_)))))
  have h29 := mem1le (lt_ hBw h12.size)
  have h2a := lt_ (lt_ h12.size h10.size) h11.size
  obtain ⟨r89, r11a, r11b, e8a, hm8b⟩ := bd3S (ifT hm4v hc31)
  refine E z (fc call111 z (ih2.run (B := B) (x2 := (⟨0, ([] : List UInt8), ([] : List Val)⟩ : Val)) e8a (lt_ hBw h2a) ((h17.ext h10).chg h11 (lg h29)) (((p1_1.ext h12).ext h10).chg h11 (lg h29)) ((h15.ext h10).chg h11 ((lg h29) _ hC1b)) hC1b (ii z) onL nd_nil all_nil onL nd_nil all_nil all_nil ((h1m.ext h10).chg h11 (lg h29)) p3_0)) ?_
  rintro _ w11c ⟨s4w, a4x, n4y, c4z, S50, a51, n52, c53, S54, v8c, S8d, rfl, h8e, h8f, h8g, h8h, h8i, h55, h32, h2b⟩
  iterate 3 refine R z (ext_ z z) ?_
  refine E0 (fs (cur' := [(vI r89.number), (sl a4x n4y c4z), (sl a51 n52 c53)]) z_41 z z (((h13.ext h10).chg h11 (djs (mmr h13.lt))).chg s4w (atp (nmA (nmN _) (nmN _)))) z (lb z) (oA z) z) ?_
  rintro _ w11d ⟨h8j, s8k⟩
  have h2c := s8k.one
  refine Ra z (Ra z (Wn ?_))
  obtain rfl := som hm8b
  have h33 := lt_ h10.size h11.size
  have h8l : ∀ k ∈ S50, k ∉ [w0.heap.size] := or1 (all_left h2b) al0 (ltnot (mem1 h13.lt) h33)
  have h8m : ∀ k ∈ S54, k ∉ [w0.heap.size] := or1 (all_right h2b) al0 (ltnot (mem1 h13.lt) h33)
  exact Wr (rtO (ret3 hr (resC g_41 z_41 z h8j z) z z ⟨(bM (bM (bM (bup h12 h10) h11 (mem1le h12.size)) s4w al0) h2c (mem1 lr)), a4x, n4y, c4z, S50, a51, n52, c53, S54, v8c, S8d, z, h8e, (h8f.chg h2c h8l), (h8g.chg h2c h8m), h8h, (h8i.chg h2c (o0n1 h55 h13.lt h33)), (o0le h55 h2a), (nd_app (nd_left h32) (nd_right h32) (nd_dj h32)), (all_app (o1le (all_left h2b) al0 h2a) (o1le (all_right h2b) al0 h2a))⟩))
 have hm56 := ifF hm4v hc31
 refine Ws (R z (eql z z) (Ra z (Wn (Wc z (fun hc34 => ?_) (fun hc34 => ?_)))))
 ·refine Ws (Rm z (R z (lN (vs := (vR x14 a1a n1b c1c a1d n1e c1f a1g n1h c1i a1j n1k c1l)) g_74 z_74 z z fid (h18.row 0 8 z)) (Rm z ?_)))
  have h1p := mem1le (lt_ hBw h12.size)
  have h2d := lt_ (lt_ h12.size h10.size) h11.size
  obtain ⟨r8n, r11e, r11f, e8o, hm8p⟩ := bd3S (ifT hm56 hc34)
  refine E z (fc call112 z (ih3.run (B := B) e8o (lt_ hBw h2d) ((h17.ext h10).chg h11 (lg h1p)) (((p1_1.ext h12).ext h10).chg h11 (lg h1p)) ((h15.ext h10).chg h11 ((lg h1p) _ hC1b)) hC1b h1v h1w h1s ((h1t.ext h10).chg h11 (lg h1p)) ((h1x.ext h10).chg h11 (lg h1p)) ((h1y.ext h10).chg h11 (lg h1p)) ((h1m.ext h10).chg h11 (lg h1p)) p3_0)) ?_
  rintro _ w11g ⟨s57, a58, n59, c5a, S8q, a5b, n5c, c5d, S8r, v8s, S8t, rfl, h8u, h8v, h8w, h8x, h8y, h5e, h35, h2e⟩
  iterate 3 refine R z (ext_ z z) ?_
  refine E0 (fs (cur' := [(vI r8n.number), (sl a58 n59 c5a), (sl a5b n5c c5d)]) z_41 z z (((h13.ext h10).chg h11 (djs (mmr h13.lt))).ext s57) z (lb z) (oA z) z) ?_
  rintro _ w11h ⟨h8z, s90⟩
  have h2f := s90.one
  refine Ra z (Ra z (Wn ?_))
  obtain rfl := som hm8p
  have h36 := lt_ h10.size h11.size
  exact Wr (rtO (ret3 hr (resC g_41 z_41 z h8z z) z z ⟨(bM (bup (bM (bup h12 h10) h11 (mem1le h12.size)) s57) h2f (mem1 lr)), a58, n59, c5a, S8q, a5b, n5c, c5d, S8r, v8s, S8t, z, h8u, (h8v.chg h2f (o0n1 (all_left h2e) h13.lt h36)), (h8w.chg h2f (o0n1 (all_right h2e) h13.lt h36)), h8x, (h8y.chg h2f (o0n1 h5e h13.lt h36)), (o0le h5e h2d), (nd_app (nd_left h35) (nd_right h35) (nd_dj h35)), (all_app (o0le (all_left h2e) h2d) (o0le (all_right h2e) h2d))⟩))
 have hm5f := ifF hm56 hc34
 refine Ws (R z (eql z z) (Ra z (Wn (Wc z (fun hc37 => ?_) (fun hc37 => ?_)))))
 ·refine Ws (Rm z (R z (lN (vs := (vR x14 a1a n1b c1c a1d n1e c1f a1g n1h c1i a1j n1k c1l)) g_74 z_74 z z fid (h18.row 0 8 z)) (Rm z ?_)))
  have h1q := mem1le (lt_ hBw h12.size)
  have h2g := lt_ (lt_ h12.size h10.size) h11.size
  obtain ⟨r91, r11i, r11j, e92, hm93⟩ := bd3S (ifT hm5f hc37)
  refine E z (fc call113 z (ih4.run (B := B) e92 (lt_ hBw h2g) ((h17.ext h10).chg h11 (lg h1q)) (((p1_1.ext h12).ext h10).chg h11 (lg h1q)) ((h15.ext h10).chg h11 ((lg h1q) _ hC1b)) hC1b h1v h1w h1s ((h1t.ext h10).chg h11 (lg h1q)) ((h1x.ext h10).chg h11 (lg h1q)) ((h1y.ext h10).chg h11 (lg h1q)) ((h1m.ext h10).chg h11 (lg h1q)) p3_0)) ?_
  rintro _ w11k ⟨s5g, a5h, n5i, c5j, S94, a5k, n5l, c5m, S95, v96, S97, rfl, h98, h99, h9a, h9b, h9c, h5n, h38, h2h⟩
  iterate 3 refine R z (ext_ z z) ?_
  refine E0 (fs (cur' := [(vI r91.number), (sl a5h n5i c5j), (sl a5k n5l c5m)]) z_41 z z (((h13.ext h10).chg h11 (djs (mmr h13.lt))).ext s5g) z (lb z) (oA z) z) ?_
  rintro _ w11l ⟨h9d, s9e⟩
  have h2i := s9e.one
  refine Ra z (Ra z (Wn ?_))
  obtain rfl := som hm93
  have h39 := lt_ h10.size h11.size
  exact Wr (rtO (ret3 hr (resC g_41 z_41 z h9d z) z z ⟨(bM (bup (bM (bup h12 h10) h11 (mem1le h12.size)) s5g) h2i (mem1 lr)), a5h, n5i, c5j, S94, a5k, n5l, c5m, S95, v96, S97, z, h98, (h99.chg h2i (o0n1 (all_left h2h) h13.lt h39)), (h9a.chg h2i (o0n1 (all_right h2h) h13.lt h39)), h9b, (h9c.chg h2i (o0n1 h5n h13.lt h39)), (o0le h5n h2g), (nd_app (nd_left h38) (nd_right h38) (nd_dj h38)), (all_app (o0le (all_left h2h) h2g) (o0le (all_right h2h) h2g))⟩))
 have hm5o := ifF hm5f hc37
 refine Ws (R z (eql z z) (Ra z (Wn (Wc z (fun hc3a => ?_) (fun hc3a => ?_)))))
 ·refine Ws (Rm z (R z (lN (vs := (vR x14 a1a n1b c1c a1d n1e c1f a1g n1h c1i a1j n1k c1l)) g_74 z_74 z z fid (h18.row 0 8 z)) (Rm z ?_)))
  have h1r := mem1le (lt_ hBw h12.size)
  have h2j := lt_ (lt_ h12.size h10.size) h11.size
  obtain ⟨r9f, r11m, r11n, e9g, hm9h⟩ := bd3S (ifT hm5o hc3a)
  refine E z (fc call114 z (ih5.run (B := B) e9g (lt_ hBw h2j) ((h17.ext h10).chg h11 (lg h1r)) (((p1_1.ext h12).ext h10).chg h11 (lg h1r)) ((h15.ext h10).chg h11 ((lg h1r) _ hC1b)) hC1b h1v h1w h1s ((h1t.ext h10).chg h11 (lg h1r)) ((h1x.ext h10).chg h11 (lg h1r)) ((h1y.ext h10).chg h11 (lg h1r)) ((h1m.ext h10).chg h11 (lg h1r)) p3_0)) ?_
  rintro _ w11o ⟨s5p, a5q, n5r, c5s, S9i, a5t, n5u, c5v, S9j, v9k, S9l, rfl, h9m, h9n, h9o, h9p, h9q, h5w, h3b, h2k⟩
  iterate 3 refine R z (ext_ z z) ?_
  refine E0 (fs (cur' := [(vI r9f.number), (sl a5q n5r c5s), (sl a5t n5u c5v)]) z_41 z z (((h13.ext h10).chg h11 (djs (mmr h13.lt))).ext s5p) z (lb z) (oA z) z) ?_
  rintro _ w11p ⟨h9r, s9s⟩
  have h2l := s9s.one
  refine Ra z (Ra z (Wn ?_))
  obtain rfl := som hm9h
  have h3c := lt_ h10.size h11.size
  exact Wr (rtO (ret3 hr (resC g_41 z_41 z h9r z) z z ⟨(bM (bup (bM (bup h12 h10) h11 (mem1le h12.size)) s5p) h2l (mem1 lr)), a5q, n5r, c5s, S9i, a5t, n5u, c5v, S9j, v9k, S9l, z, h9m, (h9n.chg h2l (o0n1 (all_left h2k) h13.lt h3c)), (h9o.chg h2l (o0n1 (all_right h2k) h13.lt h3c)), h9p, (h9q.chg h2l (o0n1 h5w h13.lt h3c)), (o0le h5w h2j), (nd_app (nd_left h3b) (nd_right h3b) (nd_dj h3b)), (all_app (o0le (all_left h2k) h2j) (o0le (all_right h2k) h2j))⟩))
 refine Wk (Wq (WC_draw (X := noX) 0 (.rd 0 (.rd 1 (.rd 2 (.rd 3 (.rd 4 (.rd 5 (.rd 6 (.rd 7 (.rd 8 (.ef 9 (.rd 10 (.rd 11 (.rd 12 (.rd 13 (.rd 14 (.rd 15 (.rd 16 .done))))))))))))))))) mo (by kernel_rfl) fun w11q s16 _ => dR z z (mv z) (dR z z (rd_nil z) (dR z z (fd f_114_1 z) ?_))))
 have h3d := mem1le (lt_ hBw h12.size)
 refine dR z z (l1 g_25 z fid ((((h15.ext h10).chg h11 ((lg h3d) _ hC1b)).ext s16).at (j := 1) z)) (dR z z (mv z) (dR z z (fd f_74_4 z) (dR z z (l1 g_25 z fid ((h18.ext s16).at z)) ?_)))
 obtain ⟨x11r, e9t, hm9u⟩ := bdS (ifF hm5o hc3a)
 refine dRX z z (at_ (α := UInt8) d_25 z_5 z z z (((h1t.ext h10).chg h11 (lg h3d)).ext s16) e9t) ?_
 rintro _ ⟨b11s, o11t, cs11u, rfl, h9v, h9w, h11v⟩
 obtain rfl := UInt8_open h9w
 refine dR z z (l1 g_5 z fid (h9v.at0 z)) ?_
 have h3e := lt_ (lt_ (lt_ h12.size h10.size) h11.size) s16.size
 obtain ⟨r11w, r11x, r11y, e9x, hm5x⟩ := bd3S hm9u
 refine dE z z (fc call115 z (W_impl_ReadTerminated (B := B) e9x (lt_ hBw h3e) ((((p1_1.ext h12).ext h10).chg h11 (lg h3d)).ext s16) p3_0)) (.inr fun _ _ h => chgB (h.1)) ?_
 rintro _ w11z ⟨s1u, a3f, n3g, c3h, S9y, rfl, h9z, h100, h101, h5y⟩
 refine dR z z (mv z) ?_
 iterate 3 refine dR z z (ext_ z z) ?_
 iterate 3 refine dR z z (asg z) ?_
 refine PR_done (Wo (Wq (Ws (Rm z (R z (not_ z) (Wn (Wc z (fun hc3i => ?_) (fun hc3i => ?_))))))))
 ·refine Ws (R z (bP (parts := []) (cs := [(vI 0), (sl none 0 0), (sl none 0 0)]) build_41 z z) (Rm z (Rm z ?_)))
  have h5z := lt_ h3e s1u.size
  obtain ⟨r120, e102, hm103⟩ := bdS (ifT hm5x hc3i)
  refine E z (fc call116 z (W_impl_fail (B := B) e102 (lt_ hBw h5z) p3_0 (ii z))) ?_
  rintro _ w121 ⟨s60, v104, S105, rfl, h106, h61⟩
  refine E0 (fs (cur' := [(vI 0), (sl none 0 0), (sl none 0 0)]) z_41 z z (((((h13.ext h10).chg h11 (djs (mmr h13.lt))).ext s16).ext s1u).ext s60) z (lb z) (oA z) z) ?_
  rintro _ w122 ⟨h107, s108⟩
  have h62 := s108.one
  refine Ra z (Ra z (Wn ?_))
  obtain rfl := som hm103
  exact Wr (ret3 hr (resC g_41 z_41 z h107 z) z z ⟨(bM (bup (bup (bup (bM (bup h12 h10) h11 (mem1le h12.size)) s16) s1u) s60) h62 (mem1 lr)), none, 0, 0, [], none, 0, 0, [], v104, S105, z, (ii z), onL, onL, p3_0, (h106.chg h62 (o0n1 h61 h13.lt (lt_ (lt_ (lt_ h10.size h11.size) s16.size) s1u.size))), (o0le h61 h5z), nd0, al0⟩)
 refine Wk (Ws (Rm z (R z (bP (parts := [(1, (.tmp 159))]) (cs := [(vI 0), (sl a3f n3g c3h), (sl none 0 0)]) build_41 z z) (Rm z (E0 (fs (cur' := [(vI 0), (sl a3f n3g c3h), (sl none 0 0)]) z_41 z z ((((h13.ext h10).chg h11 (djs (mmr h13.lt))).ext s16).ext s1u) z (lb z) (oA z) z) ?_)))))
 rintro _ w123 ⟨h109, s10a⟩
 have h63 := s10a.one
 refine Ra z (Ra z (Wn ?_))
 obtain rfl := som (ifF hm5x hc3i)
 exact Wr (ret3 hr (resC g_41 z_41 z h109 z) z z ⟨(bM (bup (bup (bM (bup h12 h10) h11 (mem1le h12.size)) s16) s1u) h63 (mem1 lr)), a3f, n3g, c3h, S9y, none, 0, 0, [], .nilIface, ([] : List Nat), z, (ii z), (h9z.chg h63 (o0n1 h5y h13.lt (lt_ (lt_ h10.size h11.size) s16.size))), onL, h100, errR_nil, all_nil, (nd_app h101 nd_nil (nmN _)), (all_app (o0le h5y h3e) all_nil)⟩)
theorem T_impl_fileReader_array (ih : I_impl_fileReader_value n) : S_impl_fileReader_array (B_impl_fileReader_array n (F_impl_fileReader_value n)) := by
 obtain ⟨ih0, ih1, ih2, ih3, ih4, ih5⟩ := ih
 constructor
 intro B pn1_0 pc1_0 pn1_1 pc1_1 b1 o1 pn2_4 pc2_4 pn2_5 pc2_5 pn2_6 pc2_6 pn2_7 pc2_7 pa1_0 pa1_1 pa2_4 pa2_5 pa2_6 pa2_7 x1 x2 x3 res w0 hm hBw p1_0 p1_1 hC1 hC1b p2_0 p2_1 p2_2 p2_4 p2_5 p2_6 p2_7 p3_0
 unfold B_impl_fileReader_array at hm
 refine goF func110 z z (lb z) fun fn hr => Ws (E z (fb z) ?_)
 rintro _ w18 ⟨rfl, h1x⟩
 have h14 := h1x.below
 have h1y : Blk w18 w0.heap.size (vR x2 pa2_4 pn2_4 pc2_4 pa2_5 pn2_5 pc2_5 pa2_6 pn2_6 pc2_6 pa2_7 pn2_7 pc2_7) := h1x.blk
 refine E z (fa zero_41) ?_
 rintro _ w2t ⟨rfl, h1z⟩
 have h15 := h1z.below
 have h16 : Blk w2t w18.heap.size [(vI 0), (sl none 0 0), (sl none 0 0)] := h1z.blk
 refine Ra z (Ra z (Wn (Ws (Rm z (R z (fd f_74_7 z) ?_)))))
 have h20 := h1y.ext h15
 refine R z (l1 g_72 z fid (h20.at z)) ?_
 obtain ⟨x4m, e2u, hm2v⟩ := bdS hm
 have h21 := (p2_7.ext h14).ext h15
 refine RX z (at_ (α := Int) d_72 z_3 z z z h21 e2u) ?_
 rintro _ ⟨b4n, o4o, cs4p, rfl, h2w, h2x, h4q⟩
 obtain ⟨rfl, h2y⟩ := Int_open h2x
 refine R z (l1 g_3 z fid (h2w.at0 z)) (Rm z ?_)
 have h22 := (hC1.ext h14).ext h15
 have h23 := (p1_0.ext h14).ext h15
 have h24 := (p1_1.ext h14).ext h15
 have h1f := lt_ h14.size h15.size
 obtain ⟨r4r, r1g, r4s, e2z, hm25⟩ := bd3S hm2v
 refine E z (fc call107 z (W_impl_fileReader_integer (B := B) e2z (lt_ hBw h1f) h23 h24 h22 hC1b h2y p3_0)) ?_
 rintro _ w11 ⟨s10, v30, S31, rfl, h4t, h32, h26, h27⟩
 refine Rm z ?_
 iterate 3 refine R z (ext_ z z) ?_
 refine Ra z (Ra z (Ra z (Wn (Wq (Ws (Rm z (R z (rd_neqEr d_116 z z h26) (Wn (Wc z (fun hc1o => ?_) (fun hc1o => ?_))))))))))
 ·refine Ws (R z (bP (parts := []) (cs := [(vI 0), (sl none 0 0), (sl none 0 0)]) build_41 z z) (Rm z (Rm z (E0 (fs (cur' := [(vI 0), (sl none 0 0), (sl none 0 0)]) z_41 z z (h16.ext s10) z (lb z) (oA z) z) ?_))))
  rintro _ w4u ⟨h33, s34⟩
  have h28 := s34.one
  refine Ra z (Ra z (Wn ?_))
  obtain rfl := som (ifT hm25 hc1o)
  exact Wr (ret3 hr (resC g_41 z_41 z h33 z) z z ⟨(bM (bup (bup h14 h15) s10) h28 (mem1le h14.size)), none, 0, 0, [], none, 0, 0, [], v30, S31, z, (ii z), onL, onL, p3_0, (h26.chg h28 (o0n1 h27 h16.lt lr)), (o0le h27 h1f), nd0, al0⟩)
 have hm29 := ifF hm25 hc1o
 refine Wk (Wq (Ws (Rm z (R z (rd_gtr z z) (Wn (Wc z (fun hc1p => ?_) (fun hc1p => ?_)))))))
 ·refine Ws (R z (bP (parts := []) (cs := [(vI 0), (sl none 0 0), (sl none 0 0)]) build_41 z z) (Rm z (Rm z ?_)))
  have h2a := lt_ h1f s10.size
  obtain ⟨r4v, e35, hm36⟩ := bdS (ifT hm29 hc1p)
  refine E z (fc call116 z (W_impl_fail (B := B) e35 (lt_ hBw h2a) p3_0 (ii z))) ?_
  rintro _ w4w ⟨s2b, v37, S38, rfl, h39, h2c⟩
  refine E0 (fs (cur' := [(vI 0), (sl none 0 0), (sl none 0 0)]) z_41 z z ((h16.ext s10).ext s2b) z (lb z) (oA z) z) ?_
  rintro _ w4x ⟨h3a, s3b⟩
  have h2d := s3b.one
  refine Ra z (Ra z (Wn ?_))
  obtain rfl := som hm36
  exact Wr (ret3 hr (resC g_41 z_41 z h3a z) z z ⟨(bM (bup (bup (bup h14 h15) s10) s2b) h2d (mem1le h14.size)), none, 0, 0, [], none, 0, 0, [], v37, S38, z, (ii z), onL, onL, p3_0, (h39.chg h2d (o0n1 h2c h16.lt s10.size)), (o0le h2c h2a), nd0, al0⟩)
 refine Wk (Ws (Rm z ?_))
 obtain ⟨x1h, e3c, hm3d⟩ := bdS (ifF hm29 hc1p)
 refine E z (ef_makeN (α := Int) el_72 (fun _ => (Int_own (ii z))) e3c z z) ?_
 rintro _ w12 ⟨a1a, n1b, c1c, rfl, s17, h1q⟩
 refine Ra z (Wn (Wq (Ws (Rm z (R z (lnR d_72 z (ownS.rep h1q)) (Rm z (Wn ?_)))))))
 obtain ⟨u4y, hu3e, hm2e⟩ := bdS hm3d
 refine WC_forN (σ := (List Int)) (ρ := Val × Int × (Option (Int × Int))) (fun (k1r : Nat) (x1d : List Int) a w => ∃  (S13 : List Nat), Sat 59 [(0, (.pointer (some ⟨b1, o1, none⟩))), (4, (pt w0.heap.size)), (6, (pt w18.heap.size)), (10, (vI r1g)), (12, (sl a1a n1b c1c)), (39, (vI (x1h.length : Int))), (40, (vI ((k1r : Nat) : Int)))] a ∧ Chg (· ∈ [w11.heap.size]) w12 w ∧ ownS w S13 (sl a1a n1b c1c) x1d ∧ S13.Nodup ∧ (∀ k ∈ S13, k ∈ [w11.heap.size] ∨ w12.heap.size ≤ k)) (fun (x1d : List Int) a w => ∃  (S13 : List Nat), Sat 59 [(0, (.pointer (some ⟨b1, o1, none⟩))), (6, (pt w18.heap.size)), (10, (vI r1g)), (12, (sl a1a n1b c1c))] a ∧ Chg (· ∈ [w11.heap.size]) w12 w ∧ ownS w S13 (sl a1a n1b c1c) x1d ∧ S13.Nodup ∧ (∀ k ∈ S13, k ∈ [w11.heap.size] ∨ w12.heap.size ≤ k)) (fun r ex a w => ex = .ret ∧ RetPost prog fn (Q30 w0 B r) a w) hu3e ?_ ?_ ?_ ?_ ?_
 ·exact fun _ q => ⟨[w11.heap.size], (q.k (s7 z z z z z z z)), (cr [w11.heap.size] w12), h1q, nd_one, (io sr)⟩
 ·rintro k1r x1d a4z w3f o50 hk2f ⟨S13, hS3g, s1i, h1e, h1j, h1k⟩ hm3h
  refine Wu (e := [(0, (.pointer (some ⟨b1, o1, none⟩))), (4, (pt w0.heap.size)), (6, (pt w18.heap.size)), (10, (vI r1g)), (12, (sl a1a n1b c1c)), (39, (vI (x1h.length : Int))), (40, (vI ((k1r : Nat) : Int)))]) (N := 59) ?_ hS3g
  refine Ws (R z (lss z z) (Wn (Wq (Wc z (fun _ => ?_) (fun hc => (nolt hk2f hc).elim)))))
  refine Wk (Wq (WC_block (Ws (Rm z (Ra z (Wn (Wg (Rm z (Rm z (R z (fd f_74_7 z) (R z (l1 g_72 z fid ((((h20.ext s10).ext s17).chg s1i (djs (mm1 h1y.lt (lt_ h15.size s10.size)))).at z)) ?_)))))))))))
  obtain ⟨x51, e3i, hm3j⟩ := bdS hm3h
  refine RX z (at_ (α := Int) d_72 z_3 z z z (((h21.ext s10).ext s17).chg s1i (lg (mem1le (lt_ hBw (lt_ h1f s10.size))))) e3i) ?_
  rintro _ ⟨b52, o53, cs54, rfl, h3k, h3l, h55⟩
  obtain ⟨rfl, h3m⟩ := Int_open h3l
  refine R z (l1 g_3 z fid (h3k.at0 z)) ?_
  obtain ⟨x3n, e2g, hm3o⟩ := bdS hm3j
  refine RX z (rd_atU (α := Int) d_72 z_3 z z h1e e2g) ?_
  rintro _ ⟨g56, h3p, rfl⟩
  refine E0 (ef_setN (α := Int) z_3 z h3p z z z e2g h1e h1j (Int_own h3m) all_nil nd_nil) ?_
  rintro _ w3q ⟨S2h, s3r, h3s, h3t, h3u⟩
  refine Wn (Wg (R z (inc_ hk2f (lt_ (ownS.len h1q) LEN_le) z z) (Rm z (Wl ?_))))
  have h2i : ∀ k ∈ S13, k ∈ [w11.heap.size] ∨ w12.heap.size ≤ k := or1 h1k (io sr) (leor lr)
  have h3v : ∀ k ∈ S2h, k ∈ [w11.heap.size] ∨ w12.heap.size ≤ k := or2 h3u h2i all_nil (leor s1i.size)
  have h3w : Chg (· ∈ [w11.heap.size]) w12 w3f := cM (cr [w11.heap.size] w12) s1i (io sr)
  have h3x : Chg (· ∈ [w11.heap.size]) w12 w3q := cM h3w s3r h2i
  exact fun _ q => ⟨x3n, (som hm3o).symm, ⟨S2h, (q.k (s7 z z z z z z z)), h3x, h3s, h3t, h3v⟩⟩
 ·rintro x1d a57 w3y ⟨S13, hS3z, s40, h1e, h1j, h1k⟩
  refine Wu (e := [(0, (.pointer (some ⟨b1, o1, none⟩))), (4, (pt w0.heap.size)), (6, (pt w18.heap.size)), (10, (vI r1g)), (12, (sl a1a n1b c1c)), (39, (vI (x1h.length : Int))), (40, (vI ((x1h.length : Nat) : Int)))]) (N := 59) ?_ hS3z
  refine Ws (R z (lss z z) (Wn (Wq (Wc z (fun hc => (noltt hc).elim) (fun _ => ?_)))))
  have h41 : ∀ k ∈ S13, k ∈ [w11.heap.size] ∨ w12.heap.size ≤ k := or1 h1k (io sr) (leor lr)
  have h42 : Chg (· ∈ [w11.heap.size]) w12 w3y := cM (cr [w11.heap.size] w12) s40 (io sr)
  exact WC_exit (fun a' ha' => ⟨rfl, ⟨S13, (Sat.weaken ha' (s4 z z z z)), h42, h1e, h1j, h41⟩⟩)
 ·rintro x1d a43 w44 rfl ⟨S13, hS58, s19, h1e, h1j, h1k⟩
  have hm45 := elL hm2e
  revert a43
  refine Wo (Ws (Rm z (R z (bP (parts := []) (cs := [(vI 0), (sl none 0 0), (sl none 0 0)]) build_41 z z) (Rm z (Rm z ?_)))))
  have h1s := lt_ h1f s10.size
  have h1t := mem1le (lt_ hBw h1s)
  have h1l := lt_ (lt_ h1s s17.size) s19.size
  have h1u := lt_ hBw h1l
  obtain ⟨r46, r59, r5a, e47, hm48⟩ := bd3S hm45
  refine E z (fc call111 z (ih2.run (B := w44.heap.size) (x2 := (⟨0, ([] : List UInt8), ([] : List Val)⟩ : Val)) e47 lr (repS.mono (((h23.ext s10).ext s17).chg s19 (lg h1t)) h1u) (repS.mono (((h24.ext s10).ext s17).chg s19 (lg h1t)) h1u) (((h22.ext s10).ext s17).chg s19 ((lg h1t) _ hC1b)) (Nat.lt_of_lt_of_le hC1b h1u) (ii z) onL nd_nil all_nil onL nd_nil all_nil all_nil (ownS.rep h1e) h32)) ?_
  rintro _ w5b ⟨s2j, a2k, n2l, c2m, S2n, a2o, n2p, c2q, S2r, v49, S4a, rfl, h4b, h4c, h4d, h4e, h4f, h2s, h1v, h1m⟩
  iterate 3 refine R z (ext_ z z) ?_
  refine E0 (fs (cur' := [(vI r46.number), (sl a2k n2l c2m), (sl a2o n2p c2q)]) z_41 z z ((((h16.ext s10).ext s17).chg s19 (djs (mm1 h16.lt s10.size))).chg s2j (atp (nmA (nmN _) (nmN _)))) z (lb z) (oA z) z) ?_
  rintro _ w5c ⟨h4g, s4h⟩
  have h1n := s4h.one
  refine Ra z (Ra z (Wn ?_))
  obtain rfl := som hm48
  have h1w := lt_ (lt_ s10.size s17.size) s19.size
  have h4i : ∀ k ∈ S2n, k ∉ [w18.heap.size] := or1 (all_left h1m) al0 (ltnot (mem1 h16.lt) h1w)
  have h4j : ∀ k ∈ S2r, k ∉ [w18.heap.size] := or1 (all_right h1m) al0 (ltnot (mem1 h16.lt) h1w)
  exact Wr (ret3 hr (resC g_41 z_41 z h4g z) z z ⟨(bM (bM (bM (bup (bup (bup h14 h15) s10) s17) s19 (mem1le h1s)) s2j al0) h1n (mem1le h14.size)), a2k, n2l, c2m, S2n, a2o, n2p, c2q, S2r, v49, S4a, z, h4b, (h4c.chg h1n h4i), (h4d.chg h1n h4j), h4e, (h4f.chg h1n (o0n1 h2s h16.lt h1w)), (o0le h2s h1l), (nd_app (nd_left h1v) (nd_right h1v) (nd_dj h1v)), (all_app (o1le (all_left h1m) al0 h1l) (o1le (all_right h1m) al0 h1l))⟩)
 rintro r5d ex5e a5f w5g rfl ⟨rfl, hq4k⟩
 have hm4l := elR hm2e
 obtain rfl := som hm4l
 exact ⟨hq4k, z⟩
theorem T_impl_fileReader_items (ih : I_impl_fileReader_value n) : S_impl_fileReader_items (B_impl_fileReader_items n (F_impl_fileReader_value n)) := by
 obtain ⟨ih0, ih1, ih2, ih3, ih4, ih5⟩ := ih
 constructor
 intro B pn1_0 pc1_0 pn1_1 pc1_1 b1 o1 pn2_1 pc2_1 pn2_2 pc2_2 pn3_0 pc3_0 pa1_0 pa1_1 pa2_1 pa2_2 pa3_0 S2_1 S2_2 x1 x2 x3 x4 res w0 hm hBw p1_0 p1_1 hC1 hC1b p2_0 p2_1 p2_1n p2_1g p2_2 p2_2n p2_2g p2_2d1 p3_0 p4_0
 unfold B_impl_fileReader_items at hm
 refine goF func111 z z (lb z) fun fn hr => Ws (E z (fb z) ?_)
 rintro _ w1a ⟨rfl, h28⟩
 have h12 := h28.below
 have h1e : Blk w1a w0.heap.size [(vI x2.number), (sl pa2_1 pn2_1 pc2_1), (sl pa2_2 pn2_2 pc2_2)] := h28.blk
 refine E z (fa zero_41) ?_
 rintro _ w10 ⟨rfl, h29⟩
 have h14 := h29.below
 have h1k : Blk w10 w1a.heap.size [(vI 0), (sl none 0 0), (sl none 0 0)] := h29.blk
 refine Ra z (Ra z (Wn (Wq (Ws (Rm z ?_)))))
 have h2a := (p3_0.ext h12).ext h14
 refine R z (lnR d_72 z h2a) (Rm z (Wn ?_))
 obtain ⟨u56, hu30, hm2b⟩ := bdS hm
 refine WC_forN (σ := Int × (List Val)) (ρ := Val × Int × (Option (Int × Int))) (fun (k1s : Nat) s a w => un2 (fun x1b x1h => ∃ (a15 : Option Addr) (n16 c17 : Nat) (S11 : List Nat), Sat 45 [(0, (.pointer (some ⟨b1, o1, none⟩))), (3, (vI x1b)), (5, (pt w0.heap.size)), (8, (pt w1a.heap.size)), (16, (sl pa3_0 pn3_0 pc3_0)), (17, (vI (x3.length : Int))), (18, (vI ((k1s : Nat) : Int)))] a ∧ Chg (· ∈ (S2_2 ++ [w0.heap.size])) w10 w ∧ inI x1b ∧ ownS w S11 (sl a15 n16 c17) x1h ∧ S11.Nodup ∧ (∀ k ∈ S11, k ∈ S2_2 ∨ w10.heap.size ≤ k) ∧ Blk w w0.heap.size [(vI x2.number), (sl pa2_1 pn2_1 pc2_1), (sl a15 n16 c17)]) s) (fun s a w => un2 (fun x1b x1h => ∃ (a15 : Option Addr) (n16 c17 : Nat) (S11 : List Nat), Sat 45 [(3, (vI x1b)), (5, (pt w0.heap.size)), (8, (pt w1a.heap.size))] a ∧ Chg (· ∈ (S2_2 ++ [w0.heap.size])) w10 w ∧ inI x1b ∧ ownS w S11 (sl a15 n16 c17) x1h ∧ S11.Nodup ∧ (∀ k ∈ S11, k ∈ S2_2 ∨ w10.heap.size ≤ k) ∧ Blk w w0.heap.size [(vI x2.number), (sl pa2_1 pn2_1 pc2_1), (sl a15 n16 c17)]) s) (fun r ex a w => ex = .ret ∧ RetPost prog fn (Q31 w0 B S2_1 S2_2 r) a w) hu30 ?_ ?_ ?_ ?_ ?_
 ·exact fun _ q => ⟨pa2_2, pn2_2, pc2_2, S2_2, (q.k (s7 z z z z z z z)), (cr (S2_2 ++ [w0.heap.size]) w10), p4_0, ((p2_2.ext h12).ext h14), p2_2n, (io sr), (h1e.ext h14)⟩
 ·rintro k1s ⟨x1b, x1h⟩ a57 w2c o58 hk2d ⟨a15, n16, c17, S11, hS31, s13, h1i, h1f, h1l, h1d, h1m⟩ hm32
  have hm33 := un2S hm32
  refine Wu (e := [(0, (.pointer (some ⟨b1, o1, none⟩))), (3, (vI x1b)), (5, (pt w0.heap.size)), (8, (pt w1a.heap.size)), (16, (sl pa3_0 pn3_0 pc3_0)), (17, (vI (x3.length : Int))), (18, (vI ((k1s : Nat) : Int)))]) (N := 45) ?_ hS31
  refine Ws (R z (lss z z) (Wn (Wq (Wc z (fun _ => ?_) (fun hc => (nolt hk2d hc).elim)))))
  refine Wk (Wq (WC_block (Ws ?_)))
  obtain ⟨x59, e34, hm35⟩ := bdS hm33
  have h1o := mem1le hBw
  refine RX z (at_ (α := Int) d_72 z_3 z z z (h2a.chg s13 (nmA (lg p2_2g) (lg h1o))) e34) ?_
  rintro _ ⟨b5a, o5b, cs5c, rfl, h36, h37, h5d⟩
  obtain ⟨rfl, h38⟩ := Int_open h37
  refine R z (l1 g_3 z fid (h36.at0 z)) (Ra z (Wn (Ws (Rm z (Rm z (Rm z ?_))))))
  have h1t := lt_ (lt_ h12.size h14.size) s13.size
  obtain ⟨r1p, r39, r5e, e3a, hm2e⟩ := bd3S hm35
  refine E z (fc call77 z (ih0.run (B := B) e3a (lt_ hBw h1t) (((p1_0.ext h12).ext h14).chg s13 (nmA (lg p2_2g) (lg h1o))) (((p1_1.ext h12).ext h14).chg s13 (nmA (lg p2_2g) (lg h1o))) (((hC1.ext h12).ext h14).chg s13 ((nmA (lg p2_2g) (lg h1o)) _ hC1b)) hC1b h38 h1i)) ?_
  rintro _ w1n ⟨s1c, a1u, n1v, c1w, S2f, a1x, n1y, c1z, S2g, v3b, S3c, rfl, h3d, h1q, h1r, h3e, h2h, h2i, h20, h1j⟩
  refine Rm z ?_
  iterate 3 refine R z (ext_ z z) ?_
  refine E z (fa zero_41) ?_
  rintro _ w21 ⟨rfl, h2j⟩
  have h18 := h2j.below
  have h3f : Blk w21 w1n.heap.size [(vI 0), (sl none 0 0), (sl none 0 0)] := h2j.blk
  refine E0 (fs (cur' := [(vI r1p.number), (sl a1u n1v c1w), (sl a1x n1y c1z)]) z_41 z z h3f z (lb z) (oA z) z) ?_
  rintro _ w22 ⟨h3g, s3h⟩
  have h19 := s3h.one
  refine Ra z (Ra z (Wn (Wq (Ws (Rm z ?_)))))
  have h2k := (h2h.ext h18).chg h19 (dj_symm (mnr (errR.lt h2h)))
  refine R z (rd_neqEr d_116 z z h2k) (Wn (Wc z (fun hc23 => ?_) (fun hc23 => ?_)))
  ·refine Ws (R z (bP (parts := []) (cs := [(vI 0), (sl none 0 0), (sl none 0 0)]) build_41 z z) (Rm z (Rm z ?_)))
   have h3i := (((h1k.chg s13 (atp (nmA (mno (ownS.lt p2_2) h12.size) (mmr h1e.lt)))).ext s1c).ext h18).chg h19 (djs (mm1 h1k.lt (lt_ s13.size s1c.size)))
   refine E0 (fs (cur' := [(vI 0), (sl none 0 0), (sl none 0 0)]) z_41 z z h3i z (lb z) (oA z) z) ?_
   rintro _ w3j ⟨h3k, s3l⟩
   have h2l := s3l.one
   refine Ra z (Ra z (Wn ?_))
   have h3m : Chg (· ∈ (S2_1 ++ S2_2)) w0 w1a := cext (cr (S2_1 ++ S2_2) w0) h12
   have h3n : Chg (· ∈ (S2_1 ++ S2_2)) w0 w10 := cext h3m h14
   have h3o : ∀ k ∈ [w0.heap.size], k ∈ (S2_1 ++ S2_2) ∨ w0.heap.size ≤ k := mor lr
   have h3p : Chg (· ∈ (S2_1 ++ S2_2)) w0 w2c := cM h3n s13 (all_app (io (sub_r sr)) h3o)
   have h3q : Chg (· ∈ (S2_1 ++ S2_2)) w0 w1n := cext h3p s1c
   have h3r : Chg (· ∈ (S2_1 ++ S2_2)) w0 w21 := cext h3q h18
   have h3s : ∀ k ∈ [w1n.heap.size], k ∈ (S2_1 ++ S2_2) ∨ w0.heap.size ≤ k := mor (lt_ h1t s1c.size)
   have h3t : Chg (· ∈ (S2_1 ++ S2_2)) w0 w22 := cM h3r h19 h3s
   have h3u : ∀ k ∈ [w1a.heap.size], k ∈ (S2_1 ++ S2_2) ∨ w0.heap.size ≤ k := mor h12.size
   have h3v : Chg (· ∈ (S2_1 ++ S2_2)) w0 w3j := cM h3t h2l h3u
   exact Wr (rtO (QO_retL (som (ifT hm2e hc23)).symm (ret3 hr (resC g_41 z_41 z h3k z) z z ⟨h3v, none, 0, 0, [], none, 0, 0, [], v3b, S3c, z, (ii z), onL, onL, h1i, (h2k.chg h2l (o0n1 h2i h1k.lt s13.size)), (o0le h2i h1t), nd0, al0⟩)))
  refine Wk (Ws (R z (fd f_41_2 z) ?_))
  have h24 := lt_ h14.size s13.size
  have h2m := lt_ h24 s1c.size
  have h2n := ((h1m.ext s1c).ext h18).chg h19 (djs (mm1 h1e.lt h2m))
  refine R z (l1 g_39 z fid (h2n.at z)) (R z (lN (vs := [(vI r1p.number), (sl a1u n1v c1w), (sl a1x n1y c1z)]) g_41 z_41 z z fid (h3g.row 0 3 z)) (E z (ef_buildSlice [(.tmp 37)] el_39 z z z (szAll z) (lb z) (lb z)) ?_))
  rintro _ w2o ⟨rfl, h2p⟩
  have h1g := h2p.below
  have h3w : Blk w2o w22.heap.size [(vI r1p.number), (sl a1u n1v c1w), (sl a1x n1y c1z)] := h2p.blk
  have h5f := (h1q.ext h18).chg h19 (dj_symm (mnr (ownS.lt h1q)))
  have h5g := (h1r.ext h18).chg h19 (dj_symm (mnr (ownS.lt h1r)))
  obtain ⟨x3x, e3y, hm3z⟩ := bdS (ifF hm2e hc23)
  refine E z (ef_pushN (α := Val) el_39 e3y z z ((((h1f.ext s1c).ext h18).chg h19 (dj_symm (mno (ownS.lt h1f) s1c.size))).ext h1g) h1l h3w (Val_mkO (x := r1p) (S1 := S2f) (S2 := S2g) h3d (((h1q.ext h18).chg h19 (dj_symm (mnr (ownS.lt h1q)))).ext h1g) (((h1r.ext h18).chg h19 (dj_symm (mnr (ownS.lt h1r)))).ext h1g)) (all_app (o0no (all_left h1j) (ownS.lt h1f) lr) (o0no (all_right h1j) (ownS.lt h1f) lr)) (nd_app (nd_left h20) (nd_right h20) (nd_dj h20))) ?_
  rintro _ w40 ⟨S25, a2q, n2r, c2s, rfl, s2t, h41, h42, h2u⟩
  refine R z (fd f_41_2 z) ?_
  have h2v : ∀ k ∈ S11, k ∉ [w0.heap.size] := or1 h1d (dj_symm (mnr (ownS.lt p2_2))) (ltnot (mem1 h1e.lt) h14.size)
  refine E0 (fs (cur' := [(vI x2.number), (sl pa2_1 pn2_1 pc2_1), (sl a2q n2r c2s)]) z_39 z z ((h2n.ext h1g).chg s2t (djs h2v)) z (lb z) (oA z) z) ?_
  rintro _ w43 ⟨h44, s45⟩
  have h2w := s45.one
  refine Wn (Wg (Rm z (Ra z (Wn (Wg (R z (inc_ hk2d (lt_ (repS.len p3_0) LEN_le) z z) (Rm z (Wl ?_))))))))
  have h46 : ∀ k ∈ S25, k ∉ [w0.heap.size] := or2 h2u h2v (all_app (o0n1 (all_left h1j) h1e.lt h24) (o0n1 (all_right h1j) h1e.lt h24)) (ltnot (mem1 h1e.lt) (lt_ (lt_ (lt_ h2m h18.size) h19.size) h1g.size))
  have h2x := lt_ s13.size s1c.size
  have h47 : ∀ k ∈ S11, k ∈ S2_2 ∨ w10.heap.size ≤ k := or1 h1d (io sr) (leor lr)
  have h48 : ∀ k ∈ S2f, k ∈ S2_2 ∨ w10.heap.size ≤ k := or0 (all_left h1j)  (leor s13.size)
  have h49 : ∀ k ∈ S2g, k ∈ S2_2 ∨ w10.heap.size ≤ k := or0 (all_right h1j)  (leor s13.size)
  have h4a : ∀ k ∈ S25, k ∈ S2_2 ∨ w10.heap.size ≤ k := or2 h2u h47 (all_app h48 h49) (leor (lt_ (lt_ (lt_ h2x h18.size) h19.size) h1g.size))
  have h4b : Chg (· ∈ (S2_2 ++ [w0.heap.size])) w10 w2c := cM (cr (S2_2 ++ [w0.heap.size]) w10) s13 (all_app (io (sub_l sr)) (io (sub_r sr)))
  have h4c : Chg (· ∈ (S2_2 ++ [w0.heap.size])) w10 w1n := cext h4b s1c
  have h4d : Chg (· ∈ (S2_2 ++ [w0.heap.size])) w10 w21 := cext h4c h18
  have h4e : ∀ k ∈ [w1n.heap.size], k ∈ (S2_2 ++ [w0.heap.size]) ∨ w10.heap.size ≤ k := mor h2x
  have h4f : Chg (· ∈ (S2_2 ++ [w0.heap.size])) w10 w22 := cM h4d h19 h4e
  have h4g : Chg (· ∈ (S2_2 ++ [w0.heap.size])) w10 w2o := cext h4f h1g
  have h4h : ∀ k ∈ S11, k ∈ (S2_2 ++ [w0.heap.size]) ∨ w10.heap.size ≤ k := or1 h1d (io (sub_l sr)) (leor lr)
  have h4i : Chg (· ∈ (S2_2 ++ [w0.heap.size])) w10 w40 := cM h4g s2t h4h
  have h4j : Chg (· ∈ (S2_2 ++ [w0.heap.size])) w10 w43 := cM h4i h2w (io (sub_r sr))
  exact fun _ q => ⟨(r39, x3x), (som hm3z).symm, ⟨a2q, n2r, c2s, S25, (q.k (s7 z z z z z z z)), h4j, h3e, (h41.chg h2w h46), h42, h4a, h44⟩⟩
 ·rintro ⟨x1b, x1h⟩ a5h w4k ⟨a15, n16, c17, S11, hS4l, s4m, h1i, h1f, h1l, h1d, h1m⟩
  refine Wu (e := [(0, (.pointer (some ⟨b1, o1, none⟩))), (3, (vI x1b)), (5, (pt w0.heap.size)), (8, (pt w1a.heap.size)), (16, (sl pa3_0 pn3_0 pc3_0)), (17, (vI (x3.length : Int))), (18, (vI ((x3.length : Nat) : Int)))]) (N := 45) ?_ hS4l
  refine Ws (R z (lss z z) (Wn (Wq (Wc z (fun hc => (noltt hc).elim) (fun _ => ?_)))))
  have h4n : ∀ k ∈ S11, k ∈ S2_2 ∨ w10.heap.size ≤ k := or1 h1d (io sr) (leor lr)
  have h4o : Chg (· ∈ (S2_2 ++ [w0.heap.size])) w10 w4k := cM (cr (S2_2 ++ [w0.heap.size]) w10) s4m (all_app (io (sub_l sr)) (io (sub_r sr)))
  exact WC_exit (fun a' ha' => ⟨rfl, ⟨a15, n16, c17, S11, (Sat.weaken ha' (s3 z z z)), h4o, h1i, h1f, h1l, h4n, h1m⟩⟩)
 ·rintro ⟨x1b, x1h⟩ a4p w4q rfl ⟨a15, n16, c17, S11, hS5i, s26, h1i, h1f, h1l, h1d, h1m⟩
  have hm4r := elL hm2b
  have hm4s := un2S hm4r
  revert a4p
  refine Wo (Ws (R z (lN (vs := [(vI x2.number), (sl pa2_1 pn2_1 pc2_1), (sl a15 n16 c17)]) g_41 z_41 z z fid (h1m.row 0 3 z)) (Rm z ?_)))
  have h2y := mno (ownS.lt p2_2) h12.size
  refine E0 (fs (cur' := [(vI x2.number), (sl pa2_1 pn2_1 pc2_1), (sl a15 n16 c17)]) z_41 z z (h1k.chg s26 (atp (nmA h2y (mmr h1e.lt)))) z (lb z) (oA z) z) ?_
  rintro _ w4t ⟨h4u, s4v⟩
  have h27 := s4v.one
  refine Ra z (Ra z (Wn ?_))
  obtain rfl := som hm4s
  have h4w : ∀ k ∈ S11, k ∉ [w1a.heap.size] := or1 h1d (dj_symm h2y) (ltnot (mem1 h1k.lt) lr)
  have h4x : Chg (· ∈ (S2_1 ++ S2_2)) w0 w1a := cext (cr (S2_1 ++ S2_2) w0) h12
  have h4y : Chg (· ∈ (S2_1 ++ S2_2)) w0 w10 := cext h4x h14
  have h4z : ∀ k ∈ [w0.heap.size], k ∈ (S2_1 ++ S2_2) ∨ w0.heap.size ≤ k := mor lr
  have h50 : Chg (· ∈ (S2_1 ++ S2_2)) w0 w4q := cM h4y s26 (all_app (io (sub_r sr)) h4z)
  have h51 : ∀ k ∈ [w1a.heap.size], k ∈ (S2_1 ++ S2_2) ∨ w0.heap.size ≤ k := mor h12.size
  have h52 : Chg (· ∈ (S2_1 ++ S2_2)) w0 w4t := cM h50 h27 h51
  have h2z := lt_ h12.size h14.size
  have h53 : ∀ k ∈ S11, k ∈ (S2_1 ++ S2_2) ∨ w0.heap.size ≤ k := or1 h1d (io (sub_r sr)) (leor h2z)
  exact Wr (ret3 hr (resC g_41 z_41 z h4u z) z z ⟨h52, pa2_1, pn2_1, pc2_1, S2_1, a15, n16, c17, S11, .nilIface, ([] : List Nat), z, p2_0, ((((p2_1.ext h12).ext h14).chg s26 (nmA (dj_symm p2_2d1) (dj_symm (mnr (ownS.lt p2_1))))).chg h27 (dj_symm (mno (ownS.lt p2_1) h12.size))), (h1f.chg h27 h4w), h1i, errR_nil, all_nil, (nd_app p2_1n h1l (dj_symm (o1no h1d p2_2d1 (ownS.lt p2_1) h2z))), (all_app (io (sub_l sr)) h53)⟩)
 rintro r5j ex5k a5l w5m rfl ⟨rfl, hq54⟩
 have hm55 := elR hm2b
 obtain rfl := som hm55
 exact ⟨hq54, z⟩
theorem T_impl_fileReader_choice (ih : I_impl_fileReader_value n) : S_impl_fileReader_choice (B_impl_fileReader_choice n (F_impl_fileReader_value n)) := by
 obtain ⟨ih0, ih1, ih2, ih3, ih4, ih5⟩ := ih
 constructor
 intro B pn1_0 pc1_0 pn1_1 pc1_1 b1 o1 pn2_4 pc2_4 pn2_5 pc2_5 pn2_6 pc2_6 pn2_7 pc2_7 pa1_0 pa1_1 pa2_4 pa2_5 pa2_6 pa2_7 x1 x2 x3 res w0 hm hBw p1_0 p1_1 hC1 hC1b p2_0 p2_1 p2_2 p2_4 p2_5 p2_6 p2_7 p3_0
 unfold B_impl_fileReader_choice at hm
 refine goF func112 z z (lb z) fun fn hr => Ws (E z (fb z) ?_)
 rintro _ w14 ⟨rfl, h1k⟩
 have h11 := h1k.below
 have h2d : Blk w14 w0.heap.size (vR x2 pa2_4 pn2_4 pc2_4 pa2_5 pn2_5 pc2_5 pa2_6 pn2_6 pc2_6 pa2_7 pn2_7 pc2_7) := h1k.blk
 refine E z (fa zero_41) ?_
 rintro _ w2e ⟨rfl, h1l⟩
 have h13 := h1l.below
 have h15 : Blk w2e w14.heap.size [(vI 0), (sl none 0 0), (sl none 0 0)] := h1l.blk
 refine Ra z (Ra z (Wn (Ws (Rm z (R z (fd f_74_7 z) ?_)))))
 have h1m := h2d.ext h13
 refine R z (l1 g_72 z fid (h1m.at z)) ?_
 obtain ⟨x3r, e2f, hm2g⟩ := bdS hm
 have h1n := (p2_7.ext h11).ext h13
 refine RX z (at_ (α := Int) d_72 z_3 z z z h1n e2f) ?_
 rintro _ ⟨b3s, o3t, cs3u, rfl, h2h, h2i, h3v⟩
 obtain ⟨rfl, h2j⟩ := Int_open h2i
 refine R z (l1 g_3 z fid (h2h.at0 z)) (Rm z ?_)
 have h1o := (hC1.ext h11).ext h13
 have h1p := (p1_0.ext h11).ext h13
 have h1q := (p1_1.ext h11).ext h13
 have h18 := lt_ h11.size h13.size
 obtain ⟨r16, r1d, r3w, e2k, hm1r⟩ := bd3S hm2g
 refine E z (fc call107 z (W_impl_fileReader_integer (B := B) e2k (lt_ hBw h18) h1p h1q h1o hC1b h2j p3_0)) ?_
 rintro _ w17 ⟨s10, v2l, S2m, rfl, h2n, h2o, h1s, h1t⟩
 refine Rm z ?_
 iterate 3 refine R z (ext_ z z) ?_
 refine Ra z (Ra z (Ra z (Wn (Wq (Ws (Rm z (R z (rd_neqEr d_116 z z h1s) (Wn (Wc z (fun hc1e => ?_) (fun hc1e => ?_))))))))))
 ·refine Ws (R z (bP (parts := []) (cs := [(vI 0), (sl none 0 0), (sl none 0 0)]) build_41 z z) (Rm z (Rm z (E0 (fs (cur' := [(vI 0), (sl none 0 0), (sl none 0 0)]) z_41 z z (h15.ext s10) z (lb z) (oA z) z) ?_))))
  rintro _ w3x ⟨h2p, s2q⟩
  have h1u := s2q.one
  refine Ra z (Ra z (Wn ?_))
  obtain rfl := som (ifT hm1r hc1e)
  exact Wr (ret3 hr (resC g_41 z_41 z h2p z) z z ⟨(bM (bup (bup h11 h13) s10) h1u (mem1le h11.size)), none, 0, 0, [], none, 0, 0, [], v2l, S2m, z, (ii z), onL, onL, p3_0, (h1s.chg h1u (o0n1 h1t h15.lt lr)), (o0le h1t h18), nd0, al0⟩)
 refine Wk (Wq (Ws (R z (fd f_74_6 z) ?_)))
 have h1v := h1m.ext s10
 refine R z (l1 g_72 z fid (h1v.at z)) ?_
 have h1w := ((p2_6.ext h11).ext h13).ext s10
 refine R z (lnR d_72 z h1w) (Rm z (Wn ?_))
 obtain ⟨u3y, hu2r, hm1x⟩ := bdS (ifF hm1r hc1e)
 refine WC_forN (σ := Unit) (ρ := Val × Int × (Option (Int × Int))) (fun (k1f : Nat) (_ : Unit) a w => Sat 61 [(0, (.pointer (some ⟨b1, o1, none⟩))), (2, (vI x3)), (4, (pt w0.heap.size)), (6, (pt w14.heap.size)), (9, (vI r16)), (10, (vI r1d)), (31, (sl pa2_6 pn2_6 pc2_6)), (32, (vI (x2.tags.length : Int))), (33, (vI ((k1f : Nat) : Int)))] a ∧ Below w17.heap.size w17 w) (fun (_ : Unit) a w => Sat 61 [(2, (vI x3)), (6, (pt w14.heap.size))] a ∧ Below w17.heap.size w17 w) (fun r ex a w => ex = .ret ∧ RetPost prog fn (Q30 w0 B r) a w) hu2r ?_ ?_ ?_ ?_ ?_
 ·exact fun _ q => ⟨(q.k (s9 z z z z z z z z z)), (br w17)⟩
 ·rintro k1f _ a3z w40 o41 hk1g ⟨hS2s, s12⟩ hm2t
  refine Wu (e := [(0, (.pointer (some ⟨b1, o1, none⟩))), (2, (vI x3)), (4, (pt w0.heap.size)), (6, (pt w14.heap.size)), (9, (vI r16)), (10, (vI r1d)), (31, (sl pa2_6 pn2_6 pc2_6)), (32, (vI (x2.tags.length : Int))), (33, (vI ((k1f : Nat) : Int)))]) (N := 61) ?_ hS2s
  refine Ws (R z (lss z z) (Wn (Wq (Wc z (fun _ => ?_) (fun hc => (nolt hk1g hc).elim)))))
  refine Wk (Wq (WC_block (Ws (Rm z ?_))))
  obtain ⟨x42, e2u, hm1y⟩ := bdS hm2t
  refine RX z (at_ (α := Int) d_72 z_3 z z z (h1w.ext s12) e2u) ?_
  rintro _ ⟨b43, o44, cs45, rfl, h2v, h2w, h46⟩
  obtain ⟨rfl, h47⟩ := Int_open h2w
  refine R z (l1 g_3 z fid (h2v.at0 z)) (Ra z (Ra z (Wn (Ws (Rm z (Rm z (R z (eql z z) (Wn (Wc z (fun hc1h => ?_) (fun hc1h => ?_))))))))))
  ·refine Ws (Rm z (Rm z (R z (bP (parts := [(0, (.tmp 42))]) (cs := [(vI r16), (sl none 0 0), (sl none 0 0)]) build_41 z z) (R z (fd f_74_7 z) (R z (l1 g_72 z fid ((h1v.ext s12).at z)) (Rm z (R z (inc_ hk1g (lt_ (repS.len p2_6) LEN_le) z z) (Rm z (R z (add_ z z) ?_)))))))))
   obtain ⟨x48, e2x, hm2y⟩ := bdS (ifT hm1y hc1h)
   refine RX z (rd_sliceX d_72 z_3 z z ((h1n.ext s10).ext s12) z z e2x) ?_
   rintro _ ⟨a49, n4a, c4b, rfl, h2z⟩
   refine Rm z ?_
   have h19 := lt_ (lt_ h18 s10.size) s12.size
   obtain ⟨r30, r4c, r4d, e31, hm32⟩ := bd3S hm2y
   refine E z (fc call111 z (ih2.run (B := B) (x2 := (⟨r16, ([] : List UInt8), ([] : List Val)⟩ : Val)) e31 (lt_ hBw h19) ((h1p.ext s10).ext s12) ((h1q.ext s10).ext s12) ((h1o.ext s10).ext s12) hC1b h2n onL nd_nil all_nil onL nd_nil all_nil all_nil h2z h2o)) ?_
   rintro _ w4e ⟨s1z, a20, n21, c22, S23, a24, n25, c26, S27, v33, S34, rfl, h35, h36, h37, h38, h39, h28, h1i, h1a⟩
   iterate 3 refine R z (ext_ z z) ?_
   refine E0 (fs (cur' := [(vI r30.number), (sl a20 n21 c22), (sl a24 n25 c26)]) z_41 z z (((h15.ext s10).ext s12).chg s1z (atp (nmA (nmN _) (nmN _)))) z (lb z) (oA z) z) ?_
   rintro _ w4f ⟨h3a, s3b⟩
   have h1b := s3b.one
   refine Ra z (Ra z (Wn ?_))
   have h1j := lt_ s10.size s12.size
   have h3c : ∀ k ∈ S23, k ∉ [w14.heap.size] := or1 (all_left h1a) al0 (ltnot (mem1 h15.lt) h1j)
   have h3d : ∀ k ∈ S27, k ∉ [w14.heap.size] := or1 (all_right h1a) al0 (ltnot (mem1 h15.lt) h1j)
   exact Wr (rtO (QO_retL (som hm32).symm (ret3 hr (resC g_41 z_41 z h3a z) z z ⟨(bM (bM (bup (bup (bup h11 h13) s10) s12) s1z al0) h1b (mem1le h11.size)), a20, n21, c22, S23, a24, n25, c26, S27, v33, S34, z, h35, (h36.chg h1b h3c), (h37.chg h1b h3d), h38, (h39.chg h1b (o0n1 h28 h15.lt h1j)), (o0le h28 h19), (nd_app (nd_left h1i) (nd_right h1i) (nd_dj h1i)), (all_app (o1le (all_left h1a) al0 h19) (o1le (all_right h1a) al0 h19))⟩)))
  exact Wk (Wg (R z (inc_ hk1g (lt_ (repS.len p2_6) LEN_le) z z) (Rm z (Wl (fun _ q => ⟨(), (som (ifF hm1y hc1h)).symm, ⟨(q.k (s9 z z z z z z z z z)), s12⟩⟩)))))
 ·rintro _ a4g w4h ⟨hS3e, s3f⟩
  refine Wu (e := [(0, (.pointer (some ⟨b1, o1, none⟩))), (2, (vI x3)), (4, (pt w0.heap.size)), (6, (pt w14.heap.size)), (9, (vI r16)), (10, (vI r1d)), (31, (sl pa2_6 pn2_6 pc2_6)), (32, (vI (x2.tags.length : Int))), (33, (vI ((x2.tags.length : Nat) : Int)))]) (N := 61) ?_ hS3e
  refine Ws (R z (lss z z) (Wn (Wq (Wc z (fun hc => (noltt hc).elim) (fun _ => ?_)))))
  exact WC_exit (fun a' ha' => ⟨rfl, ⟨(Sat.weaken ha' (s2 z z)), s3f⟩⟩)
 ·rintro _ a3g w4i rfl ⟨hS4j, s1c⟩
  have hm3h := elL hm1x
  revert a3g
  refine Wo (Ws (R z (bP (parts := []) (cs := [(vI 0), (sl none 0 0), (sl none 0 0)]) build_41 z z) (Rm z (Rm z ?_))))
  have h29 := lt_ (lt_ h18 s10.size) s1c.size
  obtain ⟨r4k, e3i, hm3j⟩ := bdS hm3h
  refine E z (fc call116 z (W_impl_fail (B := B) e3i (lt_ hBw h29) p3_0 (ii z))) ?_
  rintro _ w4l ⟨s2a, v3k, S3l, rfl, h3m, h2b⟩
  refine E0 (fs (cur' := [(vI 0), (sl none 0 0), (sl none 0 0)]) z_41 z z (((h15.ext s10).ext s1c).ext s2a) z (lb z) (oA z) z) ?_
  rintro _ w4m ⟨h3n, s3o⟩
  have h2c := s3o.one
  refine Ra z (Ra z (Wn ?_))
  obtain rfl := som hm3j
  exact Wr (ret3 hr (resC g_41 z_41 z h3n z) z z ⟨(bM (bup (bup (bup (bup h11 h13) s10) s1c) s2a) h2c (mem1le h11.size)), none, 0, 0, [], none, 0, 0, [], v3k, S3l, z, (ii z), onL, onL, p3_0, (h3m.chg h2c (o0n1 h2b h15.lt (lt_ s10.size s1c.size))), (o0le h2b h29), nd0, al0⟩)
 rintro r4n ex4o a4p w4q rfl ⟨rfl, hq3p⟩
 have hm3q := elR hm1x
 obtain rfl := som hm3q
 exact ⟨hq3p, z⟩
theorem T_impl_fileReader_option (ih : I_impl_fileReader_value n) : S_impl_fileReader_option (B_impl_fileReader_option n (F_impl_fileReader_value n)) := by
 obtain ⟨ih0, ih1, ih2, ih3, ih4, ih5⟩ := ih
 constructor
 intro B pn1_0 pc1_0 pn1_1 pc1_1 b1 o1 pn2_4 pc2_4 pn2_5 pc2_5 pn2_6 pc2_6 pn2_7 pc2_7 pa1_0 pa1_1 pa2_4 pa2_5 pa2_6 pa2_7 x1 x2 x3 res w0 hm hBw p1_0 p1_1 hC1 hC1b p2_0 p2_1 p2_2 p2_4 p2_5 p2_6 p2_7 p3_0
 unfold B_impl_fileReader_option at hm
 refine goF func113 z z (lb z) fun fn hr => Ws (E z (fb z) ?_)
 rintro _ w14 ⟨rfl, h1d⟩
 have h11 := h1d.below
 have h23 : Blk w14 w0.heap.size (vR x2 pa2_4 pn2_4 pc2_4 pa2_5 pn2_5 pc2_5 pa2_6 pn2_6 pc2_6 pa2_7 pn2_7 pc2_7) := h1d.blk
 refine E z (fa zero_41) ?_
 rintro _ w24 ⟨rfl, h1e⟩
 have h12 := h1e.below
 have h13 : Blk w24 w14.heap.size [(vI 0), (sl none 0 0), (sl none 0 0)] := h1e.blk
 refine Ra z (Ra z (Wn (Ws (Rm z (Rm z ?_)))))
 have h1f := (hC1.ext h11).ext h12
 have h1g := (p1_0.ext h11).ext h12
 have h1h := (p1_1.ext h11).ext h12
 have h15 := lt_ h11.size h12.size
 obtain ⟨r33, r34, e25, hm1i⟩ := bd2S hm
 refine E z (fc call135 z (W_impl_fileReader_take (B := B) e25 (lt_ hBw h15) h1g h1h h1f hC1b p3_0 (ii z))) ?_
 rintro _ w35 ⟨s10, a36, n37, c38, v26, S27, rfl, h1j, h1k, h1l⟩
 refine Rm z (R z (ext_ z z) (R z (ext_ z z) (Ra z (Ra z (Wn (Wq (WC_block (Ws (Rm z (R z (rd_neqEr d_116 z z h1k) (Ra z (Wn (Wc z (fun hc19 => ?_) (fun hc19 => ?_))))))))))))))
 ·refine Ws (R z (bP (parts := []) (cs := [(vI 0), (sl none 0 0), (sl none 0 0)]) build_41 z z) (Rm z (Rm z (E0 (fs (cur' := [(vI 0), (sl none 0 0), (sl none 0 0)]) z_41 z z (h13.ext s10) z (lb z) (oA z) z) ?_))))
  rintro _ w39 ⟨h28, s29⟩
  have h1m := s29.one
  refine Ra z (Ra z (Wn ?_))
  obtain rfl := som (ifT hm1i hc19)
  exact Wr (rtO (ret3 hr (resC g_41 z_41 z h28 z) z z ⟨(bM (bup (bup h11 h12) s10) h1m (mem1le h11.size)), none, 0, 0, [], none, 0, 0, [], v26, S27, z, (ii z), onL, onL, p3_0, (h1k.chg h1m (o0n1 h1l h13.lt lr)), (o0le h1l h15), nd0, al0⟩))
 refine Ws (Rm z ?_)
 obtain ⟨x3a, e2a, hm1n⟩ := bdS (ifF hm1i hc19)
 refine RX z (at_ (α := UInt8) d_25 z_5 z z z h1j e2a) ?_
 rintro _ ⟨b3b, o3c, cs3d, rfl, h2b, h2c, h3e⟩
 obtain rfl := UInt8_open h2c
 refine R z (l1 g_5 z fid (h2b.at0 z)) (R z (rd_gtr z z) (Ra z (Wn (Wc z (fun hc1a => ?_) (fun hc1a => ?_)))))
 ·refine Ws (R z (bP (parts := []) (cs := [(vI 0), (sl none 0 0), (sl none 0 0)]) build_41 z z) (Rm z (Rm z ?_)))
  have h1o := lt_ h15 s10.size
  obtain ⟨r3f, e2d, hm2e⟩ := bdS (ifT hm1n hc1a)
  refine E z (fc call116 z (W_impl_fail (B := B) e2d (lt_ hBw h1o) p3_0 (ii z))) ?_
  rintro _ w3g ⟨s1p, v2f, S2g, rfl, h2h, h1q⟩
  refine E0 (fs (cur' := [(vI 0), (sl none 0 0), (sl none 0 0)]) z_41 z z ((h13.ext s10).ext s1p) z (lb z) (oA z) z) ?_
  rintro _ w3h ⟨h2i, s2j⟩
  have h1r := s2j.one
  refine Ra z (Ra z (Wn ?_))
  obtain rfl := som hm2e
  exact Wr (rtO (ret3 hr (resC g_41 z_41 z h2i z) z z ⟨(bM (bup (bup (bup h11 h12) s10) s1p) h1r (mem1le h11.size)), none, 0, 0, [], none, 0, 0, [], v2f, S2g, z, (ii z), onL, onL, p3_0, (h2h.chg h1r (o0n1 h1q h13.lt s10.size)), (o0le h1q h1o), nd0, al0⟩))
 refine Ws (Rm z ?_)
 obtain ⟨x3i, e2k, hm1s⟩ := bdS (ifF hm1n hc1a)
 refine RX z (at_ (α := UInt8) d_25 z_5 z z z h1j e2k) ?_
 rintro _ ⟨b3j, o3k, cs3l, rfl, h2l, h2m, h3m⟩
 obtain rfl := UInt8_open h2m
 refine R z (l1 g_5 z fid (h2l.at0 z)) (R z (eql z z) (Ra z (Wn (Wc z (fun hc1b => ?_) (fun hc1b => ?_)))))
 ·refine Ws (R z (bP (parts := []) (cs := [(vI 0), (sl none 0 0), (sl none 0 0)]) build_41 z z) (Rm z (R z (add_ z z) (E0 (fs (cur' := [(vI 0), (sl none 0 0), (sl none 0 0)]) z_41 z z (h13.ext s10) z (lb z) (oA z) z) ?_))))
  rintro _ w3n ⟨h2n, s2o⟩
  refine Ra z (Ra z (Wn ?_))
  obtain rfl := som (ifT hm1s hc1b)
  exact Wr (rtO (ret3 hr (resC g_41 z_41 z h2n z) z z ⟨(bM (bup (bup h11 h12) s10) s2o.one (mem1le h11.size)), none, 0, 0, [], none, 0, 0, [], .nilIface, ([] : List Nat), z, (ii z), onL, onL, (iA _ _), errR_nil, all_nil, nd0, al0⟩))
 refine Wk (Ws (Rm z (R z (bP (parts := []) (cs := [(vI 0), (sl none 0 0), (sl none 0 0)]) build_41 z z) (R z (fd f_74_7 z) (R z (l1 g_72 z fid (((h23.ext h12).ext s10).at z)) (Rm z (R z (add_ z z) ?_)))))))
 have h16 := lt_ h15 s10.size
 obtain ⟨r2p, r3o, r3p, e2q, hm2r⟩ := bd3S (ifF hm1s hc1b)
 refine E z (fc call111 z (ih2.run (B := B) (x2 := (⟨0, ([] : List UInt8), ([] : List Val)⟩ : Val)) e2q (lt_ hBw h16) (h1g.ext s10) (h1h.ext s10) (h1f.ext s10) hC1b (ii z) onL nd_nil all_nil onL nd_nil all_nil all_nil (((p2_7.ext h11).ext h12).ext s10) (iA _ _))) ?_
 rintro _ w3q ⟨s1t, a1u, n1v, c1w, S1x, a1y, n1z, c20, S21, v2s, S2t, rfl, h2u, h2v, h2w, h2x, h2y, h22, h1c, h17⟩
 iterate 3 refine R z (ext_ z z) ?_
 refine E0 (fs (cur' := [(vI r2p.number), (sl a1u n1v c1w), (sl a1y n1z c20)]) z_41 z z ((h13.ext s10).chg s1t (atp (nmA (nmN _) (nmN _)))) z (lb z) (oA z) z) ?_
 rintro _ w3r ⟨h2z, s30⟩
 have h18 := s30.one
 refine Ra z (Ra z (Wn ?_))
 obtain rfl := som hm2r
 have h31 : ∀ k ∈ S1x, k ∉ [w14.heap.size] := or1 (all_left h17) al0 (ltnot (mem1 h13.lt) s10.size)
 have h32 : ∀ k ∈ S21, k ∉ [w14.heap.size] := or1 (all_right h17) al0 (ltnot (mem1 h13.lt) s10.size)
 exact Wr (ret3 hr (resC g_41 z_41 z h2z z) z z ⟨(bM (bM (bup (bup h11 h12) s10) s1t al0) h18 (mem1le h11.size)), a1u, n1v, c1w, S1x, a1y, n1z, c20, S21, v2s, S2t, z, h2u, (h2v.chg h18 h31), (h2w.chg h18 h32), h2x, (h2y.chg h18 (o0n1 h22 h13.lt s10.size)), (o0le h22 h16), (nd_app (nd_left h1c) (nd_right h1c) (nd_dj h1c)), (all_app (o1le (all_left h17) al0 h16) (o1le (all_right h17) al0 h16))⟩)
theorem T_impl_fileReader_checked (ih : I_impl_fileReader_value n) : S_impl_fileReader_checked (B_impl_fileReader_checked n (F_impl_fileReader_value n)) := by
 obtain ⟨ih0, ih1, ih2, ih3, ih4, ih5⟩ := ih
 constructor
 intro B pn1_0 pc1_0 pn1_1 pc1_1 b1 o1 pn2_4 pc2_4 pn2_5 pc2_5 pn2_6 pc2_6 pn2_7 pc2_7 pa1_0 pa1_1 pa2_4 pa2_5 pa2_6 pa2_7 x1 x2 x3 res w0 hm hBw p1_0 p1_1 hC1 hC1b p2_0 p2_1 p2_2 p2_4 p2_5 p2_6 p2_7 p3_0
 unfold B_impl_fileReader_checked at hm
 refine goF func114 z z (lb z) fun fn hr => Ws (E z (fb z) ?_)
 rintro _ w1b ⟨rfl, h1r⟩
 have h13 := h1r.below
 have h2j : Blk w1b w0.heap.size (vR x2 pa2_4 pn2_4 pc2_4 pa2_5 pn2_5 pc2_5 pa2_6 pn2_6 pc2_6 pa2_7 pn2_7 pc2_7) := h1r.blk
 refine E z (fa zero_41) ?_
 rintro _ w2k ⟨rfl, h1s⟩
 have h17 := h1s.below
 have h14 : Blk w2k w1b.heap.size [(vI 0), (sl none 0 0), (sl none 0 0)] := h1s.blk
 refine Ra z (Ra z (Wn (Ws (Rm z (R z (bP (parts := []) (cs := [(vI 0), (sl none 0 0), (sl none 0 0)]) build_41 z z) (R z (fd f_74_7 z) (R z (l1 g_72 z fid ((h2j.ext h17).at z)) (Rm z ?_))))))))
 have h1t := (hC1.ext h13).ext h17
 have h1u := (p1_0.ext h13).ext h17
 have h1v := (p1_1.ext h13).ext h17
 have h19 := lt_ h13.size h17.size
 obtain ⟨r1j, r3l, r3m, e2l, hm1w⟩ := bd3S hm
 refine E z (fc call111 z (ih2.run (B := B) (x2 := (⟨0, ([] : List UInt8), ([] : List Val)⟩ : Val)) e2l (lt_ hBw h19) h1u h1v h1t hC1b (ii z) onL nd_nil all_nil onL nd_nil all_nil all_nil ((p2_7.ext h13).ext h17) p3_0)) ?_
 rintro _ w2m ⟨s10, a1c, n1d, c1e, S1x, a1f, n1g, c1h, S1y, v2n, S2o, rfl, h2p, h1z, h20, h21, h22, h23, h1k, h1i⟩
 refine Rm z ?_
 iterate 3 refine R z (ext_ z z) ?_
 refine E z (fa zero_41) ?_
 rintro _ w2q ⟨rfl, h24⟩
 have h11 := h24.below
 have h2r : Blk w2q w2m.heap.size [(vI 0), (sl none 0 0), (sl none 0 0)] := h24.blk
 refine E0 (fs (cur' := [(vI r1j.number), (sl a1c n1d c1e), (sl a1f n1g c1h)]) z_41 z z h2r z (lb z) (oA z) z) ?_
 rintro _ w3n ⟨h2s, s2t⟩
 have h12 := s2t.one
 refine Ra z (Ra z (Wn (Wq (Ws (Rm z ?_)))))
 have h25 := (h22.ext h11).chg h12 (dj_symm (mnr (errR.lt h22)))
 refine R z (rd_neqEr d_116 z z h25) (Wn (Wc z (fun hc1l => ?_) (fun hc1l => ?_)))
 ·refine Ws (R z (bP (parts := []) (cs := [(vI 0), (sl none 0 0), (sl none 0 0)]) build_41 z z) (Rm z (Rm z (E0 (fs (cur' := [(vI 0), (sl none 0 0), (sl none 0 0)]) z_41 z z (((h14.chg s10 (atp (nmA (nmN _) (nmN _)))).ext h11).chg h12 (djs (mm1 h14.lt s10.size))) z (lb z) (oA z) z) ?_))))
  rintro _ w3o ⟨h2u, s2v⟩
  have h26 := s2v.one
  refine Ra z (Ra z (Wn ?_))
  obtain rfl := som (ifT hm1w hc1l)
  exact Wr (ret3 hr (resC g_41 z_41 z h2u z) z z ⟨(bM (bM (bup (bM (bup h13 h17) s10 al0) h11) h12 (mem1le (lt_ h19 s10.size))) h26 (mem1le h13.size)), none, 0, 0, [], none, 0, 0, [], v2n, S2o, z, (ii z), onL, onL, p3_0, (h25.chg h26 (o0n1 h23 h14.lt lr)), (o0le h23 h19), nd0, al0⟩)
 refine Wk (Ws (Rm z (Rm z ?_)))
 have h1a := lt_ h19 s10.size
 have h1m := mem1le (lt_ hBw h1a)
 have h27 := ((h1t.chg s10 ((nmA (lg all_nil) (lg all_nil)) _ hC1b)).ext h11).chg h12 ((lg h1m) _ hC1b)
 have h28 := ((h1v.chg s10 (nmA (lg all_nil) (lg all_nil))).ext h11).chg h12 (lg h1m)
 have h1n := lt_ (lt_ h1a h11.size) h12.size
 obtain ⟨r3p, r3q, e2w, hm29⟩ := bd2S (ifF hm1w hc1l)
 refine E z (fc call135 z (W_impl_fileReader_take (B := B) e2w (lt_ hBw h1n) (((h1u.chg s10 (nmA (lg all_nil) (lg all_nil))).ext h11).chg h12 (lg h1m)) h28 h27 hC1b h21 (ii z))) ?_
 rintro _ w3r ⟨s15, a3s, n3t, c3u, v2x, S2y, rfl, h2z, h2a, h2b⟩
 refine Rm z (R z (ext_ z z) (R z (ext_ z z) (Ra z (Ra z (Wn (Wq (Ws (Rm z (R z (rd_neqEr d_116 z z h2a) (Wn (Wc z (fun hc1o => ?_) (fun hc1o => ?_))))))))))))
 ·refine Ws (R z (bP (parts := []) (cs := [(vI 0), (sl none 0 0), (sl none 0 0)]) build_41 z z) (Rm z (Rm z (E0 (fs (cur' := [(vI 0), (sl none 0 0), (sl none 0 0)]) z_41 z z ((((h14.chg s10 (atp (nmA (nmN _) (nmN _)))).ext h11).chg h12 (djs (mm1 h14.lt s10.size))).ext s15) z (lb z) (oA z) z) ?_))))
  rintro _ w3v ⟨h30, s31⟩
  have h2c := s31.one
  refine Ra z (Ra z (Wn ?_))
  obtain rfl := som (ifT hm29 hc1o)
  exact Wr (ret3 hr (resC g_41 z_41 z h30 z) z z ⟨(bM (bup (bM (bup (bM (bup h13 h17) s10 al0) h11) h12 (mem1le h1a)) s15) h2c (mem1le h13.size)), none, 0, 0, [], none, 0, 0, [], v2x, S2y, z, (ii z), onL, onL, p3_0, (h2a.chg h2c (o0n1 h2b h14.lt (lt_ (lt_ s10.size h11.size) h12.size))), (o0le h2b h1n), nd0, al0⟩)
 refine Wk (Wq (Wq (WC_draw (X := noX) 0 (.rd 0 (.rd 1 (.rd 2 (.rd 3 (.rd 4 (.rd 5 (.rd 6 (.rd 7 (.rd 8 (.rd 9 (.rd 10 (.ef 11 (.rd 12 .done))))))))))))) mo (by kernel_rfl) fun w3w s16 _ => dR z z (mv z) ?_)))
 obtain ⟨x3x, e32, hm33⟩ := bdS (ifF hm29 hc1o)
 refine dRX z z (at_ (α := UInt8) d_25 z_5 z z z (h2z.ext s16) e32) ?_
 rintro _ ⟨b3y, o3z, cs40, rfl, h34, h35, h41⟩
 obtain rfl := UInt8_open h35
 refine dR z z (l1 g_5 z fid (h34.at0 z)) (dR z z (rd_convUI d_5 d_3 z) (dR z z (mv z) (dR z z (rd_nil z) (dR z z (fd f_114_1 z) (dR z z (l1 g_25 z fid (((h27.ext s15).ext s16).at (j := 1) z)) (dR z z (mv z) (dR z z (mv z) ?_)))))))
 obtain ⟨x42, e36, hm37⟩ := bdS hm33
 refine dRX z z (rd_sliceX d_25 z_5 z z ((h28.ext s15).ext s16) z z e36) ?_
 rintro _ ⟨a43, n44, c45, rfl, h38⟩
 have h2d := lt_ (lt_ h1n s15.size) s16.size
 obtain ⟨r46, e39, hm2e⟩ := bdS hm37
 refine dE z z (fc call137 z (W_impl_SumOfBytes (B := B) e39 (lt_ hBw h2d) h38)) (.inr fun _ _ h => chgB (h.1)) ?_
 rintro _ w47 ⟨s18, rfl, h48⟩
 refine dR z z (nq z z) (PR_done (Wo (Wc z (fun hc1p => ?_) (fun hc1p => ?_))))
 ·refine Ws (R z (bP (parts := []) (cs := [(vI 0), (sl none 0 0), (sl none 0 0)]) build_41 z z) (Rm z (Rm z ?_)))
  have h2f := lt_ h2d s18.size
  obtain ⟨r49, e3a, hm3b⟩ := bdS (ifT hm2e hc1p)
  refine E z (fc call116 z (W_impl_fail (B := B) e3a (lt_ hBw h2f) h21 (ii z))) ?_
  rintro _ w4a ⟨s2g, v3c, S3d, rfl, h3e, h2h⟩
  refine E0 (fs (cur' := [(vI 0), (sl none 0 0), (sl none 0 0)]) z_41 z z (((((((h14.chg s10 (atp (nmA (nmN _) (nmN _)))).ext h11).chg h12 (djs (mm1 h14.lt s10.size))).ext s15).ext s16).ext s18).ext s2g) z (lb z) (oA z) z) ?_
  rintro _ w4b ⟨h3f, s3g⟩
  have h2i := s3g.one
  refine Ra z (Ra z (Wn ?_))
  obtain rfl := som hm3b
  exact Wr (ret3 hr (resC g_41 z_41 z h3f z) z z ⟨(bM (bup (bup (bup (bup (bM (bup (bM (bup h13 h17) s10 al0) h11) h12 (mem1le h1a)) s15) s16) s18) s2g) h2i (mem1le h13.size)), none, 0, 0, [], none, 0, 0, [], v3c, S3d, z, (ii z), onL, onL, p3_0, (h3e.chg h2i (o0n1 h2h h14.lt (lt_ (lt_ (lt_ (lt_ (lt_ s10.size h11.size) h12.size) s15.size) s16.size) s18.size))), (o0le h2h h2f), nd0, al0⟩)
 refine Wk (Ws (R z (lN (vs := [(vI r1j.number), (sl a1c n1d c1e), (sl a1f n1g c1h)]) g_41 z_41 z z fid ((((h2s.ext s15).ext s16).ext s18).row 0 3 z)) (Rm z (R z (add_ z z) (E0 (fs (cur' := [(vI r1j.number), (sl a1c n1d c1e), (sl a1f n1g c1h)]) z_41 z z ((((((h14.chg s10 (atp (nmA (nmN _) (nmN _)))).ext h11).chg h12 (djs (mm1 h14.lt s10.size))).ext s15).ext s16).ext s18) z (lb z) (oA z) z) ?_)))))
 rintro _ w4c ⟨h3h, s3i⟩
 have h1q := s3i.one
 refine Ra z (Ra z (Wn ?_))
 obtain rfl := som (ifF hm2e hc1p)
 have h3j : ∀ k ∈ S1x, k ∉ [w1b.heap.size] := or1 (all_left h1i) al0 (ltnot (mem1 h14.lt) lr)
 have h3k : ∀ k ∈ S1y, k ∉ [w1b.heap.size] := or1 (all_right h1i) al0 (ltnot (mem1 h14.lt) lr)
 exact Wr (ret3 hr (resC g_41 z_41 z h3h z) z z ⟨(bM (bup (bup (bup (bM (bup (bM (bup h13 h17) s10 al0) h11) h12 (mem1le h1a)) s15) s16) s18) h1q (mem1le h13.size)), a1c, n1d, c1e, S1x, a1f, n1g, c1h, S1y, .nilIface, ([] : List Nat), z, h2p, ((((((h1z.ext h11).chg h12 (dj_symm (mnr (ownS.lt h1z)))).ext s15).ext s16).ext s18).chg h1q h3j), ((((((h20.ext h11).chg h12 (dj_symm (mnr (ownS.lt h20)))).ext s15).ext s16).ext s18).chg h1q h3k), (iA _ _), errR_nil, all_nil, (nd_app (nd_left h1k) (nd_right h1k) (nd_dj h1k)), (all_app (o1le (all_left h1i) al0 h19) (o1le (all_right h1i) al0 h19))⟩)
theorem A_impl_fileReader_value : ∀ n, I_impl_fileReader_value n
  | 0 => ⟨⟨fun hm => by intros; exact nomatch (show none = some _ from hm)⟩, ⟨fun hm => by intros; exact nomatch (show none = some _ from hm)⟩, ⟨fun hm => by intros; exact nomatch (show none = some _ from hm)⟩, ⟨fun hm => by intros; exact nomatch (show none = some _ from hm)⟩, ⟨fun hm => by intros; exact nomatch (show none = some _ from hm)⟩, ⟨fun hm => by intros; exact nomatch (show none = some _ from hm)⟩⟩
  | n + 1 => ⟨T_impl_fileReader_value (A_impl_fileReader_value n), T_impl_fileReader_array (A_impl_fileReader_value n), T_impl_fileReader_items (A_impl_fileReader_value n), T_impl_fileReader_choice (A_impl_fileReader_value n), T_impl_fileReader_option (A_impl_fileReader_value n), T_impl_fileReader_checked (A_impl_fileReader_value n)⟩
theorem W_impl_fileReader_value : S_impl_fileReader_value (F_impl_fileReader_value n).impl_fileReader_value := (A_impl_fileReader_value n).1
theorem W_impl_fileReader_array : S_impl_fileReader_array (F_impl_fileReader_value n).impl_fileReader_array := (A_impl_fileReader_value n).2.1
theorem W_impl_fileReader_items : S_impl_fileReader_items (F_impl_fileReader_value n).impl_fileReader_items := (A_impl_fileReader_value n).2.2.1
theorem W_impl_fileReader_choice : S_impl_fileReader_choice (F_impl_fileReader_value n).impl_fileReader_choice := (A_impl_fileReader_value n).2.2.2.1
theorem W_impl_fileReader_option : S_impl_fileReader_option (F_impl_fileReader_value n).impl_fileReader_option := (A_impl_fileReader_value n).2.2.2.2.1
theorem W_impl_fileReader_checked : S_impl_fileReader_checked (F_impl_fileReader_value n).impl_fileReader_checked := (A_impl_fileReader_value n).2.2.2.2.2

theorem W_impl_ReadValue {x1 : Desc} {x2 : Int} {x3 : List UInt8} {x4 : Int} {res : Val × Int × Int} (hm : M_impl_ReadValue n x1 x2 x3 x4 = some res) (hBw : B ≤ w0.heap.size) (hG : Gl w0 B) (p1_0 : repS w0 B (sl pa1_0 pn1_0 pc1_0) x1.rules) (p2_0 : inI x2) (p3_0 : repS w0 B (sl pa3_0 pn3_0 pc3_0) x3) (p4_0 : inI x4) : CallsR prog 47 [(.agg #[(sl pa1_0 pn1_0 pc1_0)]), (vI x2), (sl pa3_0 pn3_0 pc3_0), (vI x4)] w0 (Q13 w0 B res) := by
 unfold M_impl_ReadValue at hm
 refine goF func47 z z (lb z) fun fn hr => Ws (E z (fb z) ?_)
 rintro _ w1c ⟨rfl, h20⟩
 have h10 := h20.below
 have h21 : Blk w1c w0.heap.size [(sl pa1_0 pn1_0 pc1_0)] := h20.blk
 refine E z (fa zero_41) ?_
 rintro _ w1p ⟨rfl, h22⟩
 have h12 := h22.below
 have h15 : Blk w1p w1c.heap.size [(vI 0), (sl none 0 0), (sl none 0 0)] := h22.blk
 refine Ra z (Ra z (Wn (Wq (Wq ?_))))
 obtain ⟨u2s, hu2t, hm23⟩ := bdS hm
 refine WC_cut (fun a w => ∃ (x1q : Bool), x1q = u2s ∧ Sat 62 [(1, (vI x2)), (2, (sl pa3_0 pn3_0 pc3_0)), (3, (vI x4)), (4, (pt w0.heap.size)), (8, (pt w1c.heap.size)), (34, (vB x1q))] a ∧ Below w1p.heap.size w1p w) ?_ ?_
 ·refine Wg (R z (lN (vs := [(sl pa1_0 pn1_0 pc1_0)]) g_31 z_31 z z fid ((h21.ext h12).row 0 1 z)) (Rm z ?_))
  obtain ⟨r2u, e2v, hm24⟩ := bdS hu2t
  refine E z (fc call76 z (W_impl_known (B := B) e2v (lt_ hBw (lt_ h10.size h12.size)) ((p1_0.ext h10).ext h12) p2_0)) ?_
  rintro _ w3p ⟨s1d, rfl⟩
  refine R z (not_ z) (Rm z ?_)
  rcases bs (!r2u) with hc19 | hc19
  ·exact Nh z hc19 (Nh z hc19 (R z (pT z hc19 z) (Rm z (Nh z z (Nh z z (Nh z z (Nh z z (R z (pT z z z) (Rm z (Nh z z (Nh z z (Nh z z (R z (pT z z z) (Wl (fun _ q => ⟨true, som (ifT hm24 hc19), (q.k (s6 z z z z z z)), s1d⟩)))))))))))))))
  have hm25 := ifF hm24 hc19
  refine Rh z hc19 (mv z) (Rh z hc19 (lss z z) (R z (pF z hc19 z) (Rm z ?_)))
  rcases bs (decide (x4 < 0)) with hc16 | hc16
  ·iterate 4 refine Nh z hc16 ?_
   exact R z (pT z hc16 z) (Rm z (Nh z z (Nh z z (Nh z z (R z (pT z z z) (Wl (fun _ q => ⟨true, som (ifT hm25 hc16), (q.k (s6 z z z z z z)), s1d⟩)))))))
  have hm26 := ifF hm25 hc16
  refine Rh z hc16 (mv z) (Rh z hc16 (mv z) ?_)
  have h27 := ((p3_0.ext h10).ext h12).ext s1d
  refine Rh z hc16 (lnR d_25 z h27) (Rh z hc16 (rd_gtr z z) (R z (pF z hc16 z) (Rm z ?_)))
  rcases bs (decide ((x3.length : Int) < x4)) with hc1a | hc1a
  ·iterate 3 refine Nh z hc1a ?_
   exact R z (pT z hc1a z) (Wl (fun _ q => ⟨true, som (ifT hm26 hc1a), (q.k (s6 z z z z z z)), s1d⟩))
  exact Rh z hc1a (mv z) (Rh z hc1a (lnR d_25 z h27) (Rh z hc1a (rd_gtr z z) (R z (pF z hc1a z) (Wl (fun _ q => ⟨decide (400 < (x3.length : Int)), som (ifF hm26 hc1a), (q.k (s6 z z z z z z)), s1d⟩)))))
 rintro a2w w2x ⟨x1q, rfl, hS3q, s11⟩
 revert a2w
 refine Wo (Wc z (fun hc1r => ?_) (fun hc1r => ?_))
 ·refine Ws (R z (bP (parts := []) (cs := [(vI 0), (sl none 0 0), (sl none 0 0)]) build_41 z z) (E0 (fs (cur' := [(vI 0), (sl none 0 0), (sl none 0 0)]) z_41 z z (h15.ext s11) z (lb z) (oA z) z) ?_))
  rintro _ w3r ⟨h2y, s2z⟩
  refine Ra z (Ra z (Wn ?_))
  obtain rfl := som (ifT hm23 hc1r)
  exact Wr (ret3 hr (resC g_41 z_41 z h2y z) z z ⟨(bM (bup (bup h10 h12) s11) s2z.one (mem1le h10.size)), none, 0, 0, [], none, 0, 0, [], z, (ii z), onL, onL, (ii z), (ii z), nd0, al0⟩)
 refine Wk (Ws (R z (lN (vs := [(sl pa1_0 pn1_0 pc1_0)]) g_31 z_31 z z fid (((h21.ext h12).ext s11).row 0 1 z)) (Rm z (R z (bP (parts := [(0, (.tmp 36)), (1, (.tmp 37))]) (cs := [(sl pa1_0 pn1_0 pc1_0), (sl pa3_0 pn3_0 pc3_0)]) build_114 z z) (E z (fb z) ?_)))))
 rintro _ w28 ⟨rfl, h29⟩
 have h17 := h29.below
 have h2a : Blk w28 w2x.heap.size [(sl pa1_0 pn1_0 pc1_0), (sl pa3_0 pn3_0 pc3_0)] := h29.blk
 refine Ra z (Wn (Ws (Rm z (Rm z (Rm z ?_)))))
 have h1e := lt_ (lt_ (lt_ h10.size h12.size) s11.size) h17.size
 have h2b := lt_ hBw h1e
 obtain ⟨r1s, r3s, r30, e31, hm2c⟩ := bd3S (ifF hm23 hc1r)
 refine E z (fc call77 z (W_impl_fileReader_value.run (B := w28.heap.size) e31 lr (repS.mono ((((p1_0.ext h10).ext h12).ext s11).ext h17) h2b) (repS.mono ((((p3_0.ext h10).ext h12).ext s11).ext h17) h2b) (h2a.row 0 2 z) h2a.lt p2_0 p4_0)) ?_
 rintro _ w32 ⟨s1b, a1g, n1h, c1i, S33, a1j, n1k, c1l, S34, v3t, S3u, rfl, h35, h2d, h2e, h36, h1t, h37, h1u, h1m⟩
 refine Rm z ?_
 iterate 3 refine R z (ext_ z z) ?_
 refine E z (fa zero_41) ?_
 rintro _ w38 ⟨rfl, h2f⟩
 have h13 := h2f.below
 have h39 : Blk w38 w32.heap.size [(vI 0), (sl none 0 0), (sl none 0 0)] := h2f.blk
 refine E0 (fs (cur' := [(vI r1s.number), (sl a1g n1h c1i), (sl a1j n1k c1l)]) z_41 z z h39 z (lb z) (oA z) z) ?_
 rintro _ w2g ⟨h3a, s3b⟩
 have h14 := s3b.one
 refine Ra z (Ra z (Wn (Ws (E z (fa zero_119) ?_))))
 rintro _ w3c ⟨rfl, h2h⟩
 have h18 := h2h.below
 have h2i : Blk w3c w2g.heap.size [(.pointer none)] := h2h.blk
 refine Wn (Wq (Ws (Rm z (R z (rd_makeIface d_121 (fun _ h => by cases h) z) ?_))))
 have h2j := ((h1t.ext h13).chg h14 (dj_symm (mnr (errR.lt h1t)))).ext h18
 rcases bs (r30.isSome) with hc1n | hc1n
 ·obtain ⟨r3v, r3w, e3d, hm3e⟩ := bd2S (ifT hm2c hc1n)
  have h1v := lt_ h1e s1b.size
  refine E z (fc call78 z (W_As_some ((((((((hG.ext h10).ext h12).ext s11).ext h17).ext s1b).ext h13).chg h14 (lg (mem1le (lt_ hBw h1v)))).ext h18) h2j e3d h2i)) ?_
  rintro _ w3x ⟨g2k, rfl, s3f, h3g, h3h, h2l, h3i, h3j⟩
  have h1w := s3f.one
  refine Wn (Wc z (fun _ => ?_) (fun hc => (bcon z hc).elim))
  refine Wq (WC_draw (X := (· ∈ [w1c.heap.size])) 0 (.rd 0 (.rd 1 (.rd 2 (.rd 3 (.rd 4 (.rd 5 (.rd 6 (.rd 7 (.rd 8 (.ef 9 (.rd 10 (.rd 11 .done)))))))))))) mo (by kernel_rfl) fun w3y s1o _ => dR z z (bP (parts := []) (cs := [(vI 0), (sl none 0 0), (sl none 0 0)]) build_41 z z) ?_)
  have h2m := h3g.ext s1o
  have h2n := lt_ s11.size h17.size
  have h2o := lt_ h2n s1b.size
  have h2p := lt_ (lt_ h2o h13.size) h14.size
  have h1x := mm1 h15.lt h2p
  refine dR z z (l1 g_119 z (atp h1x) (h2m.at z)) (dR z z (rd_nil z) (dR z z (fd f_123_0 z) ?_))
  have h3k : ∀ k ∈ [g2k], k ∉ [w2g.heap.size] := or1 (mem1 (.inl h2l)) (dj_symm (mno (errR.lt h1t) (lt_ h13.size h14.size))) (ltnot (mem1 h2i.lt) lr)
  have h2q := (h3h.chg h1w (atp h3k)).ext s1o
  have h2r : ∀ k ∈ [g2k], k ∉ [w1c.heap.size] := or1 (mem1 (.inl h2l)) (o0n1 h37 h15.lt h2n) (ltnot (mem1 h15.lt) (lt_ h2p h18.size))
  refine dR z z (l1 g_3 z (atp h2r) (h2q.at z)) (dR z z (l1 g_119 z (atp h1x) (h2m.at z)) (dR z z (rd_nil z) (dR z z (fd f_123_1 z) (dR z z (l1 g_3 z (atp h2r) (h2q.at z)) (dE0 z (fs (cur' := [(vI 0), (sl none 0 0), (sl none 0 0)]) z_41 z z ((((((((h15.ext s11).ext h17).ext s1b).ext h13).chg h14 (djs (mm1 h15.lt h2o))).ext h18).chg h1w (djs h1x)).ext s1o) z (lb z) (oA z) z) (.inr fun _ _ h => chgIn (List.mem_singleton.2 z) h.2) ?_)))))
  rintro _ w3z ⟨h3l, s3m⟩
  refine dR z z (asg z) (dR z z (asg z) (PR_done (Wo ?_)))
  obtain rfl := som hm3e
  exact Wr (ret3 hr (resC g_41 z_41 z h3l z) z z ⟨(bM (bup (bM (bup (bM (bup (bup (bup (bup (bup h10 h12) s11) h17) s1b) h13) h14 (mem1le h1v)) h18) h1w (mem1le (lt_ (lt_ h1v h13.size) h14.size))) s1o) s3m.one (mem1le h10.size)), none, 0, 0, [], none, 0, 0, [], z, (ii z), onL, onL, h3i, h3j, nd0, al0⟩)
 refine E z (fc call78 z (W_As_none h2j hc1n)) ?_
 rintro _ w40 ⟨rfl, s1f⟩
 refine Wn (Wc z (fun hc => (bcon hc z).elim) (fun _ => ?_))
 refine Wk (Ws (R z (lN (vs := [(vI r1s.number), (sl a1g n1h c1i), (sl a1j n1k c1l)]) g_41 z_41 z z fid (((h3a.ext h18).ext s1f).row 0 3 z)) (Rm z ?_)))
 have h1y := lt_ s11.size h17.size
 refine E0 (fs (cur' := [(vI r1s.number), (sl a1g n1h c1i), (sl a1j n1k c1l)]) z_41 z z (((((((h15.ext s11).ext h17).ext s1b).ext h13).chg h14 (djs (mm1 h15.lt (lt_ h1y s1b.size)))).ext h18).ext s1f) z (lb z) (oA z) z) ?_
 rintro _ w41 ⟨h3n, s3o⟩
 have h1z := s3o.one
 refine Ra z (Ra z (Wn ?_))
 obtain rfl := som (ifF hm2c hc1n)
 exact Wr (ret3 hr (resC g_41 z_41 z h3n z) z z ⟨(bM (bup (bup (bM (bup (bup (bup (bup (bup h10 h12) s11) h17) s1b) h13) h14 (mem1le (lt_ h1e s1b.size))) h18) s1f) h1z (mem1le h10.size)), a1g, n1h, c1i, S33, a1j, n1k, c1l, S34, z, h35, (((((h2d.ext h13).chg h14 (dj_symm (mnr (ownS.lt h2d)))).ext h18).ext s1f).chg h1z (o0n1 (all_left h1m) h15.lt h1y)), (((((h2e.ext h13).chg h14 (dj_symm (mnr (ownS.lt h2e)))).ext h18).ext s1f).chg h1z (o0n1 (all_right h1m) h15.lt h1y)), h36, (ii z), (nd_app (nd_left h1u) (nd_right h1u) (nd_dj h1u)), (all_app (o0le (all_left h1m) h1e) (o0le (all_right h1m) h1e))⟩)
theorem W_impl_ReadFile {x1 : Desc} {x2 : List UInt8} {res : Val × Int × Int} (hm : M_impl_ReadFile n x1 x2 = some res) (hBw : B ≤ w0.heap.size) (hG : Gl w0 B) (p1_0 : repS w0 B (sl pa1_0 pn1_0 pc1_0) x1.rules) (p2_0 : repS w0 B (sl pa2_0 pn2_0 pc2_0) x2) : CallsR prog 62 [(.agg #[(sl pa1_0 pn1_0 pc1_0)]), (sl pa2_0 pn2_0 pc2_0)] w0 (Q13 w0 B res) := by
 unfold M_impl_ReadFile at hm
 refine goF func62 z z (lb z) fun fn hr => Ws (E z (fb z) ?_)
 rintro _ w1n ⟨rfl, h2g⟩
 have h12 := h2g.below
 have h1v : Blk w1n w0.heap.size [(sl pa1_0 pn1_0 pc1_0)] := h2g.blk
 refine E z (fa zero_41) ?_
 rintro _ w16 ⟨rfl, h2h⟩
 have h11 := h2h.below
 have h1o : Blk w16 w1n.heap.size [(vI 0), (sl none 0 0), (sl none 0 0)] := h2h.blk
 refine Ra z (Ra z (Wn (Wq ?_)))
 obtain ⟨u3x, hu2i, hm3y⟩ := bdS hm
 refine WC_cut (fun a w => ∃ (x1b : Int) (x1w : List UInt8) (x1x : List Val) (x1c : Int) (x1d : Int), (x1b, x1w, x1x, x1c, x1d) = u3x ∧ ∃ (a1e : Option Addr) (n1f c1g : Nat) (S17 : List Nat) (a1h : Option Addr) (n1i c1j : Nat) (S18 : List Nat) (g19 : Nat), Sat 32 [(1, (sl pa2_0 pn2_0 pc2_0)), (4, (pt w1n.heap.size)), (7, (pt g19)), (8, (vI x1c)), (9, (vI x1d))] a ∧ Below w16.heap.size w16 w ∧ inI x1b ∧ ownS w S17 (sl a1e n1f c1g) x1w ∧ S17.Nodup ∧ (∀ k ∈ S17, w16.heap.size ≤ k) ∧ ownS w S18 (sl a1h n1i c1j) x1x ∧ S18.Nodup ∧ (∀ k ∈ S18, w16.heap.size ≤ k) ∧ (∀ k ∈ S18, k ∉ S17) ∧ inI x1c ∧ inI x1d ∧ Blk w g19 [(vI x1b), (sl a1e n1f c1g), (sl a1h n1i c1j)] ∧ w16.heap.size ≤ g19 ∧ (∀ k ∈ S17, k ∉ [g19]) ∧ (∀ k ∈ S18, k ∉ [g19])) ?_ ?_
 ·refine WC_draw (X := fun k => k ∈ ([] : List Nat) ∨ w16.heap.size ≤ k) 0 (.rd 0 (.rd 1 (.rd 3 (.br 2 (.br 4 (.rd 5 (.rd 6 (.rd 7 (.rd 8 (.ef 9 (.ef 10 (.rd 11 (.rd 12 .done)))))))) 9 (.ef 4 (.rd 5 (.rd 6 (.rd 7 (.rd 8 (.ef 10 (.rd 11 (.rd 12 .done))))))))) 9 (.ef 2 (.ef 4 (.rd 5 (.rd 6 (.rd 7 (.rd 8 (.ef 10 (.rd 11 (.rd 12 .done))))))))))))) mo (by kernel_rfl) fun w2j s10 _ => ?_
  have h2k := (h1v.ext h11).ext s10
  refine dR z z (lN (vs := [(sl pa1_0 pn1_0 pc1_0)]) g_31 z_31 z z (notNew nm0 (Nat.lt_of_lt_of_le h1v.lt h11.size)) (h2k.row 0 1 z)) (dR z z (lN (vs := [(sl pa1_0 pn1_0 pc1_0)]) g_31 z_31 z z (notNew nm0 (Nat.lt_of_lt_of_le h1v.lt h11.size)) (h2k.row 0 1 z)) (dR z z (mv z) (PR_br ?_ ?_)))
  ·have h1y := ((p1_0.ext h12).ext h11).ext s10
   have h1z := lt_ (lt_ h12.size h11.size) s10.size
   obtain ⟨r5o, e3z, hm2l⟩ := bdS hu2i
   refine dE z z (fc call59 z (W_impl_RootOf (B := B) e3z (lt_ hBw h1z) h1y)) (.inr fun _ _ h => chgB (h.1)) ?_
   rintro _ w2m ⟨s13, rfl, h2n⟩
   refine PR_br ?_ ?_
   ·obtain ⟨r1p, r40, r41, e42, hm43⟩ := bd3S hm2l
    refine dE z z (fc call47 z (W_impl_ReadValue (B := B) e42 (lt_ hBw (lt_ h1z s13.size)) ((((hG.ext h12).ext h11).ext s10).ext s13) (h1y.ext s13) h2n ((((p2_0.ext h12).ext h11).ext s10).ext s13) (ii z))) (.inr fun _ _ h => chgB (h.1)) ?_
    rintro _ w2o ⟨s2p, a2q, n2r, c2s, S44, a2t, n2u, c2v, S45, rfl, h46, h2w, h2x, h47, h48, h20, h2y⟩
    refine dR z z (mv z) ?_
    iterate 3 refine dR z z (ext_ z z) ?_
    refine dE z z (fa zero_41) (.inr fun _ _ h => chgB (h.2.below)) ?_
    rintro _ w49 ⟨rfl, h2z⟩
    have h21 := h2z.below
    have h4a : Blk w49 w2o.heap.size [(vI 0), (sl none 0 0), (sl none 0 0)] := h2z.blk
    have h22 := lt_ s10.size s13.size
    have h23 := mem1le (lt_ h22 s2p.size)
    refine dE0 z (fs (cur' := [(vI r1p.number), (sl a2q n2r c2s), (sl a2t n2u c2v)]) z_41 z z h4a z (lb z) (oA z) z) (.inr fun _ _ h => chgNew (atp h23) h.2) ?_
    rintro _ w5p ⟨h4b, s4c⟩
    have h24 := s4c.one
    refine dR z z (asg z) (dR z z (asg z) (PR_done ?_))
    have h30 := mnr (ownS.lt h2w)
    have h31 := mnr (ownS.lt h2x)
    exact fun _ q => ⟨r1p.number, r1p.bytes, r1p.items, r40, r41, som hm43, a2q, n2r, c2s, S44, a2t, n2u, c2v, S45, w2o.heap.size, (q.k (s5 z z z z z)), (bM (bup (bup (bup s10 s13) s2p) h21) h24 h23), h46, ((h2w.ext h21).chg h24 (dj_symm h30)), (nd_left h20), (o0le (all_left h2y) h22), ((h2x.ext h21).chg h24 (dj_symm h31)), (nd_right h20), (o0le (all_right h2y) h22), (dj_symm (nd_dj h20)), h47, h48, h4b, (atp h23), (dj_symm h30), (dj_symm h31)⟩
   refine dE z z (fa zero_41) (.inr fun _ _ h => chgB (h.2.below)) ?_
   rintro _ w4d ⟨rfl, h32⟩
   have h1k := h32.below
   have h25 : Blk w4d w2m.heap.size [(vI 0), (sl none 0 0), (sl none 0 0)] := h32.blk
   obtain ⟨r1q, r4e, r4f, e4g, hm4h⟩ := bd3S hm2l
   refine dE z z (fc call47 z (W_impl_ReadValue (B := B) e4g (lt_ hBw (lt_ (lt_ h1z s13.size) h1k.size)) (((((hG.ext h12).ext h11).ext s10).ext s13).ext h1k) ((h1y.ext s13).ext h1k) h2n (((((p2_0.ext h12).ext h11).ext s10).ext s13).ext h1k) (ii z))) (.inr fun _ _ h => chgB (h.1)) ?_
   rintro _ w5q ⟨s33, a34, n35, c36, S4i, a37, n38, c39, S4j, rfl, h4k, h4l, h4m, h4n, h4o, h26, h1r⟩
   refine dR z z (mv z) ?_
   iterate 3 refine dR z z (ext_ z z) ?_
   have h3a := lt_ s10.size s13.size
   have h27 := mem1le h3a
   refine dE0 z (fs (cur' := [(vI r1q.number), (sl a34 n35 c36), (sl a37 n38 c39)]) z_41 z z (h25.ext s33) z (lb z) (oA z) z) (.inr fun _ _ h => chgNew (atp h27) h.2) ?_
   rintro _ w5r ⟨h4p, s4q⟩
   have h28 := s4q.one
   refine dR z z (asg z) (dR z z (asg z) (PR_done ?_))
   have h3b := o0n1 (all_left h1r) h25.lt lr
   have h3c := lt_ h3a h1k.size
   have h3d := o0n1 (all_right h1r) h25.lt lr
   exact fun _ q => ⟨r1q.number, r1q.bytes, r1q.items, r4e, r4f, som hm4h, a34, n35, c36, S4i, a37, n38, c39, S4j, w2m.heap.size, (q.k (s5 z z z z z)), (bM (bup (bup (bup s10 s13) h1k) s33) h28 h27), h4k, (h4l.chg h28 h3b), (nd_left h26), (o0le (all_left h1r) h3c), (h4m.chg h28 h3d), (nd_right h26), (o0le (all_right h1r) h3c), (dj_symm (nd_dj h26)), h4n, h4o, h4p, (atp h27), h3b, h3d⟩
  refine dE z z (fa zero_41) (.inr fun _ _ h => chgB (h.2.below)) ?_
  rintro _ w4r ⟨rfl, h3e⟩
  have h1l := h3e.below
  have h29 : Blk w4r w2j.heap.size [(vI 0), (sl none 0 0), (sl none 0 0)] := h3e.blk
  have h3f := (((p1_0.ext h12).ext h11).ext s10).ext h1l
  have h3g := lt_ (lt_ (lt_ h12.size h11.size) s10.size) h1l.size
  obtain ⟨r5s, e4s, hm4t⟩ := bdS hu2i
  refine dE z z (fc call59 z (W_impl_RootOf (B := B) e4s (lt_ hBw h3g) h3f)) (.inr fun _ _ h => chgB (h.1)) ?_
  rintro _ w5t ⟨s15, rfl, h4u⟩
  obtain ⟨r1s, r4v, r4w, e4x, hm4y⟩ := bd3S hm4t
  refine dE z z (fc call47 z (W_impl_ReadValue (B := B) e4x (lt_ hBw (lt_ h3g s15.size)) (((((hG.ext h12).ext h11).ext s10).ext h1l).ext s15) (h3f.ext s15) h4u (((((p2_0.ext h12).ext h11).ext s10).ext h1l).ext s15) (ii z))) (.inr fun _ _ h => chgB (h.1)) ?_
  rintro _ w5u ⟨s3h, a3i, n3j, c3k, S4z, a3l, n3m, c3n, S50, rfl, h51, h52, h53, h54, h55, h2a, h1t⟩
  refine dR z z (mv z) ?_
  iterate 3 refine dR z z (ext_ z z) ?_
  have h2b := mem1le s10.size
  refine dE0 z (fs (cur' := [(vI r1s.number), (sl a3i n3j c3k), (sl a3l n3m c3n)]) z_41 z z ((h29.ext s15).ext s3h) z (lb z) (oA z) z) (.inr fun _ _ h => chgNew (atp h2b) h.2) ?_
  rintro _ w5v ⟨h56, s57⟩
  have h2c := s57.one
  refine dR z z (asg z) (dR z z (asg z) (PR_done ?_))
  have h3o := o0n1 (all_left h1t) h29.lt s15.size
  have h3p := lt_ (lt_ s10.size h1l.size) s15.size
  have h3q := o0n1 (all_right h1t) h29.lt s15.size
  exact fun _ q => ⟨r1s.number, r1s.bytes, r1s.items, r4v, r4w, som hm4y, a3i, n3j, c3k, S4z, a3l, n3m, c3n, S50, w2j.heap.size, (q.k (s5 z z z z z)), (bM (bup (bup (bup s10 h1l) s15) s3h) h2c h2b), h51, (h52.chg h2c h3o), (nd_left h2a), (o0le (all_left h1t) h3p), (h53.chg h2c h3q), (nd_right h2a), (o0le (all_right h1t) h3p), (dj_symm (nd_dj h2a)), h54, h55, h56, (atp h2b), h3o, h3q⟩
 rintro a58 w1u ⟨x1b, x1w, x1x, x1c, x1d, rfl, a1e, n1f, c1g, S17, a1h, n1i, c1j, S18, g19, hS5w, s1m, h59, h5a, h5b, h3r, h5c, h5d, h3s, h5e, h3t, h5f, h5g, h5x, h5y, h5z⟩
 have hm5h := un5S hm3y
 revert a58
 refine Wo (Wq (Wq ?_))
 obtain ⟨u5i, hu3u, hm3v⟩ := bdS hm5h
 refine WC_cut (fun a w => ∃ (x2d : Bool), x2d = u5i ∧ Sat 32 [(4, (pt w1n.heap.size)), (7, (pt g19)), (8, (vI x1c)), (9, (vI x1d)), (26, (vB x2d))] a ∧ Below w1u.heap.size w1u w) ?_ ?_
 ·refine Wg (Rm z (R z (eql z z) (Rm z ?_)))
  rcases bs (x1d == 0) with hc14 | hc14
  ·exact Rh z hc14 (mv z) (Rh z hc14 (mv z) (Rh z hc14 (lnR d_25 z (((p2_0.ext h12).ext h11).ext s1m)) (Rh z hc14 (lss z z) (R z (pT z hc14 z) (Wl (fun _ q => ⟨decide (x1c < (x2.length : Int)), som (ifT hu3u hc14), (q.k (s5 z z z z z)), (br w1u)⟩))))))
  iterate 4 refine Nh z hc14 ?_
  exact R z (pF z hc14 z) (Wl (fun _ q => ⟨false, som (ifF hu3u hc14), (q.k (s5 z z z z z)), (br w1u)⟩))
 rintro a5j w60 ⟨x2d, rfl, hS61, s1a⟩
 revert a5j
 refine Wo (Wc z (fun hc2e => ?_) (fun hc2e => ?_))
 ·refine Ws (R z (bP (parts := []) (cs := [(vI 0), (sl none 0 0), (sl none 0 0)]) build_41 z z) (Rm z (E0 (fs (cur' := [(vI 0), (sl none 0 0), (sl none 0 0)]) z_41 z z ((h1o.ext s1m).ext s1a) z (lb z) (oA z) z) ?_)))
  rintro _ w62 ⟨h5k, s5l⟩
  refine Ra z (Ra z (Wn ?_))
  obtain rfl := som (ifT hm3v hc2e)
  exact Wr (ret3 hr (resC g_41 z_41 z h5k z) z z ⟨(bM (bup (bup (bup h12 h11) s1m) s1a) s5l.one (mem1le h12.size)), none, 0, 0, [], none, 0, 0, [], z, (ii z), onL, onL, h3t, (ii z), nd0, al0⟩)
 refine Wk (Ws (R z (lN (vs := [(vI x1b), (sl a1e n1f c1g), (sl a1h n1i c1j)]) g_41 z_41 z z fid ((h5g.ext s1a).row 0 3 z)) (Rm z (Rm z (E0 (fs (cur' := [(vI x1b), (sl a1e n1f c1g), (sl a1h n1i c1j)]) z_41 z z ((h1o.ext s1m).ext s1a) z (lb z) (oA z) z) ?_)))))
 rintro _ w63 ⟨h5m, s5n⟩
 have h2f := s5n.one
 refine Ra z (Ra z (Wn ?_))
 obtain rfl := som (ifF hm3v hc2e)
 have h3w := lt_ h12.size h11.size
 exact Wr (ret3 hr (resC g_41 z_41 z h5m z) z z ⟨(bM (bup (bup (bup h12 h11) s1m) s1a) h2f (mem1le h12.size)), a1e, n1f, c1g, S17, a1h, n1i, c1j, S18, z, h59, ((h5a.ext s1a).chg h2f (o0n1 h3r h1o.lt lr)), ((h5c.ext s1a).chg h2f (o0n1 h3s h1o.lt lr)), h3t, h5f, (nd_app h5b h5d (dj_symm h5e)), (all_app (o0le h3r h3w) (o0le h3s h3w))⟩)
theorem W_impl_IsFileOf {x1 : Desc} {x2 : List UInt8} {res : Bool} (hm : M_impl_IsFileOf n x1 x2 = some res) (hBw : B ≤ w0.heap.size) (hG : Gl w0 B) (p1_0 : repS w0 B (sl pa1_0 pn1_0 pc1_0) x1.rules) (p2_0 : repS w0 B (sl pa2_0 pn2_0 pc2_0) x2) : CallsR prog 33 [(.agg #[(sl pa1_0 pn1_0 pc1_0)]), (sl pa2_0 pn2_0 pc2_0)] w0 (Q7 w0 B res) := by
 unfold M_impl_IsFileOf at hm
 refine goF func33 z z (lb z) fun fn hr => Ws (E z (fb z) ?_)
 rintro _ w14 ⟨rfl, h11⟩
 have h10 := h11.below
 have h15 : Blk w14 w0.heap.size [(sl pa1_0 pn1_0 pc1_0)] := h11.blk
 refine Ra z (Wn (Ws (R z (lN (vs := [(sl pa1_0 pn1_0 pc1_0)]) g_31 z_31 z z fid (h15.row 0 1 z)) (Rm z ?_))))
 obtain ⟨r16, r1j, r1k, e17, hm18⟩ := bd3S hm
 refine E z (fc call62 z (W_impl_ReadFile (B := B) e17 (lt_ hBw h10.size) (hG.ext h10) (p1_0.ext h10) (p2_0.ext h10))) ?_
 rintro _ w19 ⟨s12, a1a, n1b, c1c, S1l, a1d, n1e, c1f, S1m, rfl, h1n, h1o, h1p, h1q, h1r, h1s, h1t⟩
 refine Rm z ?_
 iterate 3 refine R z (ext_ z z) ?_
 refine E z (fa zero_41) ?_
 rintro _ w1g ⟨rfl, h13⟩
 have h1h : Blk w1g w19.heap.size [(vI 0), (sl none 0 0), (sl none 0 0)] := h13.blk
 refine E0 (fs (cur' := [(vI r16.number), (sl a1a n1b c1c), (sl a1d n1e c1f)]) z_41 z z h1h z (lb z) (oA z) z) ?_
 rintro _ w1u ⟨h1v, s1i⟩
 refine Ra z (Ra z (Wn (Ws (Rm z (R z (eql z z) (Ra z (Wn ?_)))))))
 obtain rfl := som hm18
 exact Wr (ret1 hr z ⟨(bM (bup (bup h10 s12) h13.below) s1i.one (mem1le (lt_ h10.size s12.size))), z⟩)
theorem W_impl_IndexBytes {x1 : List UInt8} {x2 : Entry} {res : (List UInt8)} (hm : M_impl_IndexBytes x1 x2 = some res) (hBw : B ≤ w0.heap.size) (p1_0 : repS w0 B (sl pa1_0 pn1_0 pc1_0) x1) (p2_0 : x2.path.b.length ≤ LEN) (p2_1 : inI x2.rule) (p2_2 : inI x2.start) (p2_3 : inI x2.end_) : CallsR prog 35 [(sl pa1_0 pn1_0 pc1_0), (.agg #[(Str.v x2.path), (vI x2.rule), (vI x2.start), (vI x2.end_)])] w0 (Q1 w0 B res) := by
 unfold M_impl_IndexBytes at hm
 refine goF func35 z z (lb z) fun fn hr => Ws (E z (fb z) ?_)
 rintro _ w12 ⟨rfl, h19⟩
 have h13 := h19.below
 have h15 : Blk w12 w0.heap.size [(Str.v x2.path), (vI x2.rule), (vI x2.start), (vI x2.end_)] := h19.blk
 refine Ra z (Wn (Wq (Wq ?_)))
 obtain ⟨u1g, hu1a, hm1b⟩ := bdS hm
 refine WC_cut (fun a w => ∃ (x17 : Bool), x17 = u1g ∧ Sat 31 [(0, (sl pa1_0 pn1_0 pc1_0)), (3, (pt w0.heap.size)), (21, (vB x17))] a ∧ Below w12.heap.size w12 w) ?_ ?_
 ·refine Wg (R z (fd f_54_2 z) (R z (l1 g_3 z fid (h15.at z)) (R z (lss z z) (Rm z ?_))))
  rcases bs (decide (x2.start < 0)) with hc10 | hc10
  ·iterate 5 refine Nh z hc10 ?_
   exact R z (pT z hc10 z) (Rm z (Nh z z (Nh z z (Nh z z (Nh z z (Nh z z (R z (pT z z z) (Wl (fun _ q => ⟨true, som (ifT hu1a hc10), (q.k (s3 z z z)), (br w12)⟩)))))))))
  have hm1c := ifF hu1a hc10
  refine Rh z hc10 (fd f_54_2 z) (Rh z hc10 (l1 g_3 z fid (h15.at z)) (Rh z hc10 (fd f_54_3 z) (Rh z hc10 (l1 g_3 z fid (h15.at z)) (Rh z hc10 (rd_gtr z z) (R z (pF z hc10 z) (Rm z ?_))))))
  rcases bs (decide (x2.end_ < x2.start)) with hc11 | hc11
  ·iterate 5 refine Nh z hc11 ?_
   exact R z (pT z hc11 z) (Wl (fun _ q => ⟨true, som (ifT hm1c hc11), (q.k (s3 z z z)), (br w12)⟩))
  exact Rh z hc11 (fd f_54_3 z) (Rh z hc11 (l1 g_3 z fid (h15.at z)) (Rh z hc11 (mv z) (Rh z hc11 (lnR d_25 z (p1_0.ext h13)) (Rh z hc11 (rd_gtr z z) (R z (pF z hc11 z) (Wl (fun _ q => ⟨decide ((x1.length : Int) < x2.end_), som (ifF hm1c hc11), (q.k (s3 z z z)), (br w12)⟩)))))))
 rintro a1h w1i ⟨x17, rfl, hS22, s14⟩
 revert a1h
 refine Wo (Wc z (fun hc18 => ?_) (fun hc18 => ?_))
 ·refine Ws (E z (ef_lit0 (α := UInt8) el_25) ?_)
  rintro _ w23 ⟨a1j, n1k, c1l, rfl, s1m, h1n⟩
  refine Ra z (Wn ?_)
  obtain rfl := som (ifT hm1b hc18)
  exact Wr (ret1 hr z ⟨(bup (bup h13 s14) s1m), a1j, n1k, c1l, [w1i.heap.size], z, h1n, nd_one, (mem1le (lt_ h13.size s14.size))⟩)
 refine Wk (Ws (E z (ef_lit0 (α := UInt8) el_25) ?_))
 rintro _ w24 ⟨a25, n26, c27, rfl, s16, h1o⟩
 refine Rm z (R z (fd f_54_2 z) ?_)
 have h1d := (h15.ext s14).ext s16
 refine R z (l1 g_3 z fid (h1d.at z)) (R z (fd f_54_3 z) (R z (l1 g_3 z fid (h1d.at z)) ?_))
 obtain ⟨x28, e1p, hm1q⟩ := bdS (ifF hm1b hc18)
 refine RX z (rd_sliceX d_25 z_5 z z (((p1_0.ext h13).ext s14).ext s16) z z e1p) ?_
 rintro _ ⟨a29, n2a, c2b, rfl, h1r⟩
 obtain ⟨x2c, e1s, hm1t⟩ := bdS hm1q
 refine E z (ef_appendN (α := UInt8) el_25 e1s z z h1o nd_one h1r) ?_
 rintro _ w2d ⟨S1u, a1v, n1w, c1x, rfl, s1y, h1z, h20, h21⟩
 refine Ra z (Wn ?_)
 obtain rfl := som hm1t
 have h1e := lt_ h13.size s14.size
 have h1f := mem1le h1e
 exact Wr (ret1 hr z ⟨(bM (bup (bup h13 s14) s16) s1y h1f), a1v, n1w, c1x, S1u, z, h1z, h20, (o1le h21 h1f (lt_ h1e s16.size))⟩)
theorem W_bytes_Equal {x1 : List UInt8} {x2 : List UInt8} {res : Bool} (hm : M_bytes_Equal x1 x2 = some res) (hBw : B ≤ w0.heap.size) (p1_0 : repS w0 B (sl pa1_0 pn1_0 pc1_0) x1) (p2_0 : repS w0 B (sl pa2_0 pn2_0 pc2_0) x2) : CallsR prog 63 [(sl pa1_0 pn1_0 pc1_0), (sl pa2_0 pn2_0 pc2_0)] w0 (Q7 w0 B res) := by
 unfold M_bytes_Equal at hm
 refine goF func63 z z (lb z) fun fn hr => Ws (Ra z (Wn (Ws (Rm z (R z (rd_convST d_25 d_9 d_5 z_5 z p1_0) (Rm z (R z (rd_convST d_25 d_9 d_5 z_5 z p2_0) (R z (rd_eqlT z z) (Ra z (Wn ?_))))))))))
 obtain rfl := som hm
 exact Wr (ret1 hr z ⟨(br w0), z⟩)
theorem W_impl_EqualBytes {x1 : List UInt8} {x2 : List UInt8} {res : Bool} (hm : M_impl_EqualBytes x1 x2 = some res) (hBw : B ≤ w0.heap.size) (p1_0 : repS w0 B (sl pa1_0 pn1_0 pc1_0) x1) (p2_0 : repS w0 B (sl pa2_0 pn2_0 pc2_0) x2) : CallsR prog 34 [(sl pa1_0 pn1_0 pc1_0), (sl pa2_0 pn2_0 pc2_0)] w0 (Q7 w0 B res) := by
 unfold M_impl_EqualBytes at hm
 refine goF func34 z z (lb z) fun fn hr => Ws (Ra z (Wn (Ws (Rm z (Rm z ?_)))))
 obtain ⟨r13, e10, hm11⟩ := bdS hm
 refine E z (fc call63 z (W_bytes_Equal (B := B) e10 hBw p1_0 p2_0)) ?_
 rintro _ w14 ⟨s12, rfl⟩
 refine Ra z (Wn ?_)
 obtain rfl := som hm11
 exact Wr (ret1 hr z ⟨s12, z⟩)
theorem W_impl_LocalEdit {x1 : Desc} {x2 : List UInt8} {x3 : Str} {x4 : List UInt8} {res : (List UInt8) × Bool} (hm : M_impl_LocalEdit n x1 x2 x3 x4 = some res) (hBw : B ≤ w0.heap.size) (hG : Gl w0 B) (p1_0 : repS w0 B (sl pa1_0 pn1_0 pc1_0) x1.rules) (p2_0 : repS w0 B (sl pa2_0 pn2_0 pc2_0) x2) (p3_0 : x3.b.length ≤ LEN) (p4_0 : repS w0 B (sl pa4_0 pn4_0 pc4_0) x4) : CallsR prog 10 [(.agg #[(sl pa1_0 pn1_0 pc1_0)]), (sl pa2_0 pn2_0 pc2_0), (Str.v x3), (sl pa4_0 pn4_0 pc4_0)] w0 (Q16 w0 B res) := by
 unfold M_impl_LocalEdit at hm
 refine goF func10 z z (lb z) fun fn hr => Ws (E z (fb z) ?_)
 rintro _ w2i ⟨rfl, h1y⟩
 have h17 := h1y.below
 have h1d : Blk w2i w0.heap.size [(sl pa1_0 pn1_0 pc1_0)] := h1y.blk
 refine Ra z (Ra z (Wn (Wq (Ws (R z (lN (vs := [(sl pa1_0 pn1_0 pc1_0)]) g_31 z_31 z z fid (h1d.row 0 1 z)) (Rm z (Rm z ?_)))))))
 have h1z := p1_0.ext h17
 have h1g := p2_0.ext h17
 obtain ⟨r1e, r3y, e2j, hm2k⟩ := bd2S hm
 refine E z (fc call31 z (W_impl_LocatePart (B := B) e2j (lt_ hBw h17.size) h1z h1g p3_0)) ?_
 rintro _ w2l ⟨s11, rfl, h3z, h40, h2m, h41⟩
 refine Rm z (R z (ext_ z z) (R z (ext_ z z) (E z (fa zero_54) ?_)))
 rintro _ w2n ⟨rfl, h20⟩
 have h12 := h20.below
 have h2o : Blk w2n w2l.heap.size [(Str.v (⟨[]⟩ : Str)), (vI 0), (vI 0), (vI 0)] := h20.blk
 refine E0 (fs (cur' := [(Str.v r1e.path), (vI r1e.rule), (vI r1e.start), (vI r1e.end_)]) z_54 z z h2o z (lb z) (oA z) z) ?_
 rintro _ w1h ⟨h1i, s2p⟩
 have h13 := s2p.one
 refine Ra z (Wn (Ws (Rm z (Wn ?_))))
 obtain ⟨u2q, hu21, hm22⟩ := bdS hm2k
 refine WC_cut (fun a w => Sum.inl () = u2q ∧ Sat 61 [(1, (sl pa2_0 pn2_0 pc2_0))] a ∧ Below w1h.heap.size w1h w) ?_ ?_
 ·refine Wc z (fun hc1j => ?_) (fun hc1j => ?_)
  ·refine Ws (Rm z (R z (fd f_54_2 z) (R z (l1 g_3 z fid (h1i.at z)) (R z (fd f_54_3 z) (R z (l1 g_3 z fid (h1i.at z)) (R z (fd f_54_2 z) (R z (l1 g_3 z fid (h1i.at z)) (R z (sb_ z z) (Rm z ?_)))))))))
   have h1k := lt_ h17.size s11.size
   have h1f := mem1le (lt_ hBw h1k)
   have h23 := (((p4_0.ext h17).ext s11).ext h12).chg h13 (lg h1f)
   have h1l := lt_ (lt_ h1k h12.size) h13.size
   obtain ⟨r42, r43, e2r, hm2s⟩ := bd2S (ifT hu21 hc1j)
   refine E z (fc call32 z (W_impl_SpliceBytes (B := B) e2r (lt_ hBw h1l) (((h1g.ext s11).ext h12).chg h13 (lg h1f)) h2m (iS _ _) h23)) ?_
   rintro _ w1m ⟨s18, a24, n25, c26, S2t, rfl, h1b, h2u, h2v⟩
   refine Rm z (R z (ext_ z z) (R z (ext_ z z) (Ra z (Ra z (Wn (Ws ?_))))))
   have h27 := (((h1d.ext s11).ext h12).chg h13 (djs (mm1 h1d.lt s11.size))).ext s18
   refine R z (lN (vs := [(sl pa1_0 pn1_0 pc1_0)]) g_31 z_31 z z fid (h27.row 0 1 z)) (Rm z (Rm z ?_))
   have h28 := (((h1z.ext s11).ext h12).chg h13 (lg h1f)).ext s18
   have h1n := lt_ h1l s18.size
   have h1o := lt_ hBw h1n
   obtain ⟨r1a, r2w, e2x, hm2y⟩ := bd2S hm2s
   refine E z (fc call31 z (W_impl_LocatePart (B := w1m.heap.size) e2x lr (repS.mono h28 h1o) (ownS.rep h1b) p3_0)) ?_
   rintro _ w2z ⟨s10, rfl, h30, h31, h32, h33⟩
   refine Rm z (R z (ext_ z z) (R z (ext_ z z) (E z (fa zero_54) ?_)))
   rintro _ w34 ⟨rfl, h29⟩
   have h15 := h29.below
   have h35 : Blk w34 w2z.heap.size [(Str.v (⟨[]⟩ : Str)), (vI 0), (vI 0), (vI 0)] := h29.blk
   refine E0 (fs (cur' := [(Str.v r1a.path), (vI r1a.rule), (vI r1a.start), (vI r1a.end_)]) z_54 z z h35 z (lb z) (oA z) z) ?_
   rintro _ w1p ⟨h36, s37⟩
   have h16 := s37.one
   refine Ra z (Wn (Wq ?_))
   obtain ⟨u38, hu2a, hm2b⟩ := bdS hm2y
   refine WC_cut (fun a w => ∃ (x1q : Bool), x1q = u38 ∧ Sat 61 [(1, (sl pa2_0 pn2_0 pc2_0)), (12, (sl a24 n25 c26)), (56, (vB x1q))] a ∧ Below w1p.heap.size w1p w) ?_ ?_
   ·refine Wg (Rm z (Rm z ?_))
    rcases bs r2w with hc19 | hc19
    ·refine Rh z hc19 (lN (vs := [(sl pa1_0 pn1_0 pc1_0)]) g_31 z_31 z z fid ((((h27.ext s10).ext h15).chg h16 (djs (mm1 h1d.lt (lt_ (lt_ (lt_ (lt_ s11.size h12.size) h13.size) s18.size) s10.size)))).row 0 1 z)) (Rh z hc19 (mv z) ?_)
     have h2c := lt_ h1n s10.size
     have h1r := mem1le (lt_ hBw h2c)
     have h2d := ((h1b.ext s10).ext h15).chg h16 (dj_symm (mno (ownS.lt h1b) s10.size))
     have h2e := lt_ (lt_ s10.size h15.size) h16.size
     obtain ⟨r39, e3a, hm2f⟩ := bdS (ifT hu2a hc19)
     refine Eg z z hc19 z (fc call33 z (W_impl_IsFileOf (B := w1m.heap.size) e3a h2e (((((((((hG.ext h17).ext s11).ext h12).chg h13 (lg h1f)).ext s18).ext s10).ext h15).chg h16 (lg h1r)).mono h1o) (repS.mono (((h28.ext s10).ext h15).chg h16 (lg h1r)) h1o) (ownS_rep h2d (ownS.lt h1b)))) ?_
     rintro _ w44 ⟨s1c, rfl⟩
     refine R z (pT z hc19 z) (Rm z ?_)
     rcases bs r39 with hc14 | hc14
     ·refine Rh z hc14 (mv z) (Rh z hc14 (lN (vs := [(Str.v r1a.path), (vI r1a.rule), (vI r1a.start), (vI r1a.end_)]) g_54 z_54 z z fid ((h36.ext s1c).row 0 4 z)) ?_)
      obtain ⟨r45, e3b, hm3c⟩ := bdS (ifT hm2f hc14)
      refine Eg z z hc14 z (fc call35 z (W_impl_IndexBytes (B := w1m.heap.size) e3b (lt_ h2e s1c.size) (ownS_rep (h2d.ext s1c) (ownS.lt h1b)) h30 h31 h32 h33)) ?_
      rintro _ w3d ⟨s1s, a46, n47, c48, S49, rfl, h3e, h4a, h4b⟩
      refine Rh z hc14 (mv z) ?_
      obtain ⟨r3f, e3g, hm3h⟩ := bdS hm3c
      refine Eg z z hc14 z (fc call34 z (W_impl_EqualBytes (B := w3d.heap.size) e3g lr (ownS.rep h3e) (repS.mono ((((((h23.ext s18).ext s10).ext h15).chg h16 (lg h1r)).ext s1c).ext s1s) (lt_ hBw (lt_ (lt_ (lt_ (lt_ h2c h15.size) h16.size) s1c.size) s1s.size))))) ?_
      rintro _ w4c ⟨s3i, rfl⟩
      exact R z (pT z hc14 z) (Wl (fun _ q => ⟨r3f, som hm3h, (q.k (s3 z z z)), (bup (bup s1c s1s) s3i)⟩))
     iterate 5 refine Nh z hc14 ?_
     exact R z (pF z hc14 z) (Wl (fun _ q => ⟨false, som (ifF hm2f hc14), (q.k (s3 z z z)), s1c⟩))
    iterate 3 refine Nh z hc19 ?_
    exact R z (pF z hc19 z) (Rm z (Nh z z (Nh z z (Nh z z (Nh z z (Nh z z (R z (pF z z z) (Wl (fun _ q => ⟨false, som (ifF hu2a hc19), (q.k (s3 z z z)), (br w1p)⟩)))))))))
   rintro a3j w4d ⟨x1q, rfl, hS4e, s1t⟩
   revert a3j
   refine Wo (Wc z (fun hc1u => ?_) (fun hc1u => ?_))
   ·refine Ws (Rm z (Ra z (Ra z (Wn ?_))))
    obtain rfl := som (ifT hm2b hc1u)
    have hm3k := elR hm22
    obtain rfl := som hm3k
    exact Wr (ret2 hr z z ⟨(bup (bM (bup (bup (bup (bM (bup (bup h17 s11) h12) h13 (mem1le h1k)) s18) s10) h15) h16 (mem1le (lt_ h1n s10.size))) s1t), a24, n25, c26, S2t, z, ((((h1b.ext s10).ext h15).chg h16 (dj_symm (mno (ownS.lt h1b) s10.size))).ext s1t), h2u, (o0le h2v h1l)⟩)
   exact WC_skip (fun _ q => ⟨som (ifF hm2b hc1u), (q.k (s1 z)), (bup (bM (bup (bup s18 s10) h15) h16 (mem1le (lt_ s18.size s10.size))) s1t)⟩)
  exact WC_skip (fun _ q => ⟨som (ifF hu21 hc1j), (q.k (s1 z)), (br w1h)⟩)
 rintro a3l w4f ⟨rfl, hS4g, s1v⟩
 have hm3m := elL hm22
 revert a3l
 refine Wo (Ws (E z (ef_lit0 (α := UInt8) el_25) ?_))
 rintro _ w4h ⟨a4i, n4j, c4k, rfl, s1w, h3n⟩
 refine Rm z ?_
 obtain ⟨x4l, e3o, hm3p⟩ := bdS hm3m
 have h1x := lt_ h17.size s11.size
 refine E z (ef_appendN (α := UInt8) el_25 e3o z z h3n nd_one (((((h1g.ext s11).ext h12).chg h13 (lg (mem1le (lt_ hBw h1x)))).ext s1v).ext s1w)) ?_
 rintro _ w4m ⟨S3q, a3r, n3s, c3t, rfl, s3u, h3v, h3w, h3x⟩
 refine Ra z (Ra z (Wn ?_))
 obtain rfl := som hm3p
 have h2g := lt_ (lt_ (lt_ h1x h12.size) h13.size) s1v.size
 have h2h := mem1le h2g
 exact Wr (ret2 hr z z ⟨(bM (bup (bup (bM (bup (bup h17 s11) h12) h13 (mem1le h1x)) s1v) s1w) s3u h2h), a3r, n3s, c3t, S3q, z, h3v, h3w, (o1le h3x h2h (lt_ h2g s1w.size))⟩)
theorem W_laws_eqByteS {x1 : List UInt8} {x2 : List UInt8} {res : Bool} (hm : M_laws_eqByteS x1 x2 = some res) (hBw : B ≤ w0.heap.size) (p1_0 : repS w0 B (sl pa1_0 pn1_0 pc1_0) x1) (p2_0 : repS w0 B (sl pa2_0 pn2_0 pc2_0) x2) : CallsR prog 11 [(sl pa1_0 pn1_0 pc1_0), (sl pa2_0 pn2_0 pc2_0)] w0 (Q7 w0 B res) := by
 unfold M_laws_eqByteS at hm
 refine goF func11 z z (lb z) fun fn hr => Ws (Ra z (Wn (Wq (Ws (Rm z (R z (lnR d_25 z p1_0) (Rm z (R z (lnR d_25 z p2_0) (R z (nq z z) (Wn (Wc z (fun hc12 => ?_) (fun hc12 => ?_))))))))))))
 ·refine Ws (Ra z (Wn ?_))
  obtain rfl := som (ifT hm hc12)
  exact Wr (ret1 hr z ⟨(br w0), z⟩)
 refine Wk (Wq (Ws (Ra z (Wn ?_))))
 obtain ⟨u1q, hu1a, hm15⟩ := bdS (ifF hm hc12)
 refine WC_forN (σ := Unit) (ρ := Bool) (fun (k13 : Nat) (_ : Unit) a w => Sat 26 [(0, (sl pa1_0 pn1_0 pc1_0)), (1, (sl pa2_0 pn2_0 pc2_0)), (5, (vI ((k13 : Nat) : Int)))] a ∧ Below w0.heap.size w0 w) (fun (_ : Unit) a w => Sat 26 [] a ∧ Below w0.heap.size w0 w) (fun r ex a w => ex = .ret ∧ RetPost prog fn (Q7 w0 B r) a w) hu1a ?_ ?_ ?_ ?_ ?_
 ·exact fun _ q => ⟨(q.k (s3 z z z)), (br w0)⟩
 ·rintro k13 _ a1r w1s o1t hk16 ⟨hS1b, s10⟩ hm1c
  refine Wu (e := [(0, (sl pa1_0 pn1_0 pc1_0)), (1, (sl pa2_0 pn2_0 pc2_0)), (5, (vI ((k13 : Nat) : Int)))]) (N := 26) ?_ hS1b
  refine Wq (Ws (Rm z (Rm z ?_)))
  have h17 := p1_0.ext s10
  refine R z (lnR d_25 z h17) (R z (lss z z) (Wn (Wc z (fun _ => ?_) (fun hc => (nolt hk16 hc).elim))))
  refine Wk (Wq (WC_block (Wq (WC_draw (X := noX) 0 (.rd 0 (.rd 1 (.rd 2 (.rd 3 (.rd 4 (.rd 5 (.rd 6 (.rd 7 (.rd 8 .done))))))))) mo (by kernel_rfl) fun w1u s11 _ => dR z z (mv z) (dR z z (mv z) ?_)))))
  obtain ⟨x1v, e1d, hm1e⟩ := bdS hm1c
  refine dRX z z (at_ (α := UInt8) d_25 z_5 z z z (h17.ext s11) e1d) ?_
  rintro _ ⟨b1w, o1x, cs1y, rfl, h1f, h1g, h1z⟩
  obtain rfl := UInt8_open h1g
  refine dR z z (l1 g_5 z fid (h1f.at0 z)) (dR z z (mv z) (dR z z (mv z) ?_))
  obtain ⟨x20, e1h, hm18⟩ := bdS hm1e
  refine dRX z z (at_ (α := UInt8) d_25 z_5 z z z ((p2_0.ext s10).ext s11) e1h) ?_
  rintro _ ⟨b21, o22, cs23, rfl, h1i, h1j, h24⟩
  obtain rfl := UInt8_open h1j
  refine dR z z (l1 g_5 z fid (h1i.at0 z)) (dR z z (nq z z) (PR_done (Wo (Wc z (fun hc14 => ?_) (fun hc14 => ?_)))))
  ·exact Ws (Ra z (Wn (Wr (rtO (QO_retL (som (ifT hm18 hc14)).symm (ret1 hr z ⟨(bup s10 s11), z⟩))))))
  exact Wk (Wg (Rm z (R z (inc_ hk16 (lt_ (repS.len p1_0) LEN_le) z z) (Ra z (Wl (fun _ q => ⟨(), (som (ifF hm18 hc14)).symm, ⟨(q.k (s3 z z z)), (bup s10 s11)⟩⟩))))))
 ·rintro _ a25 w26 ⟨hS1k, s19⟩
  refine Wu (e := [(0, (sl pa1_0 pn1_0 pc1_0)), (1, (sl pa2_0 pn2_0 pc2_0)), (5, (vI ((x1.length : Nat) : Int)))]) (N := 26) ?_ hS1k
  refine Wq (Ws (Rm z (Rm z (R z (lnR d_25 z (p1_0.ext s19)) (R z (lss z z) (Wn (Wc z (fun hc => (noltt hc).elim) (fun _ => ?_))))))))
  exact WC_exit (fun a' ha' => ⟨rfl, ⟨(Sat.weaken ha' sn), s19⟩⟩)
 ·rintro _ a1l w27 rfl ⟨hS28, s1m⟩
  have hm1n := elL hm15
  revert a1l
  refine Wo (Ws (Ra z (Wn ?_)))
  obtain rfl := som hm1n
  exact Wr (ret1 hr z ⟨s1m, z⟩)
 rintro r29 ex2a a2b w2c rfl ⟨rfl, hq1o⟩
 have hm1p := elR hm15
 obtain rfl := som hm1p
 exact ⟨hq1o, z⟩
theorem W_laws_eqStringS {x1 : List Str} {x2 : List Str} {res : Bool} (hm : M_laws_eqStringS x1 x2 = some res) (hBw : B ≤ w0.heap.size) (p1_0 : repS w0 B (sl pa1_0 pn1_0 pc1_0) x1) (p2_0 : repS w0 B (sl pa2_0 pn2_0 pc2_0) x2) : CallsR prog 23 [(sl pa1_0 pn1_0 pc1_0), (sl pa2_0 pn2_0 pc2_0)] w0 (Q7 w0 B res) := by
 unfold M_laws_eqStringS at hm
 refine goF func23 z z (lb z) fun fn hr => Ws (Ra z (Wn (Wq (Ws (Rm z (R z (lnR d_47 z p1_0) (Rm z (R z (lnR d_47 z p2_0) (R z (nq z z) (Wn (Wc z (fun hc12 => ?_) (fun hc12 => ?_))))))))))))
 ·refine Ws (Ra z (Wn ?_))
  obtain rfl := som (ifT hm hc12)
  exact Wr (ret1 hr z ⟨(br w0), z⟩)
 refine Wk (Wq (Ws (Ra z (Wn ?_))))
 obtain ⟨u1q, hu1a, hm15⟩ := bdS (ifF hm hc12)
 refine WC_forN (σ := Unit) (ρ := Bool) (fun (k13 : Nat) (_ : Unit) a w => Sat 26 [(0, (sl pa1_0 pn1_0 pc1_0)), (1, (sl pa2_0 pn2_0 pc2_0)), (5, (vI ((k13 : Nat) : Int)))] a ∧ Below w0.heap.size w0 w) (fun (_ : Unit) a w => Sat 26 [] a ∧ Below w0.heap.size w0 w) (fun r ex a w => ex = .ret ∧ RetPost prog fn (Q7 w0 B r) a w) hu1a ?_ ?_ ?_ ?_ ?_
 ·exact fun _ q => ⟨(q.k (s3 z z z)), (br w0)⟩
 ·rintro k13 _ a1r w1s o1t hk16 ⟨hS1b, s10⟩ hm1c
  refine Wu (e := [(0, (sl pa1_0 pn1_0 pc1_0)), (1, (sl pa2_0 pn2_0 pc2_0)), (5, (vI ((k13 : Nat) : Int)))]) (N := 26) ?_ hS1b
  refine Wq (Ws (Rm z (Rm z ?_)))
  have h17 := p1_0.ext s10
  refine R z (lnR d_47 z h17) (R z (lss z z) (Wn (Wc z (fun _ => ?_) (fun hc => (nolt hk16 hc).elim))))
  refine Wk (Wq (WC_block (Wq (WC_draw (X := noX) 0 (.rd 0 (.rd 1 (.rd 2 (.rd 3 (.rd 4 (.rd 5 (.rd 6 (.rd 7 (.rd 8 .done))))))))) mo (by kernel_rfl) fun w1u s11 _ => dR z z (mv z) (dR z z (mv z) ?_)))))
  obtain ⟨x1v, e1d, hm1e⟩ := bdS hm1c
  refine dRX z z (at_ (α := Str) d_47 z_9 z z z (h17.ext s11) e1d) ?_
  rintro _ ⟨b1w, o1x, cs1y, rfl, h1f, h1g, h1z⟩
  obtain ⟨rfl, h20⟩ := Str_open h1g
  refine dR z z (l1 g_9 z fid (h1f.at0 z)) (dR z z (mv z) (dR z z (mv z) ?_))
  obtain ⟨x21, e1h, hm18⟩ := bdS hm1e
  refine dRX z z (at_ (α := Str) d_47 z_9 z z z ((p2_0.ext s10).ext s11) e1h) ?_
  rintro _ ⟨b22, o23, cs24, rfl, h1i, h1j, h25⟩
  obtain ⟨rfl, h26⟩ := Str_open h1j
  refine dR z z (l1 g_9 z fid (h1i.at0 z)) (dR z z (rd_neqT z z) (PR_done (Wo (Wc z (fun hc14 => ?_) (fun hc14 => ?_)))))
  ·exact Ws (Ra z (Wn (Wr (rtO (QO_retL (som (ifT hm18 hc14)).symm (ret1 hr z ⟨(bup s10 s11), z⟩))))))
  exact Wk (Wg (Rm z (R z (inc_ hk16 (lt_ (repS.len p1_0) LEN_le) z z) (Ra z (Wl (fun _ q => ⟨(), (som (ifF hm18 hc14)).symm, ⟨(q.k (s3 z z z)), (bup s10 s11)⟩⟩))))))
 ·rintro _ a27 w28 ⟨hS1k, s19⟩
  refine Wu (e := [(0, (sl pa1_0 pn1_0 pc1_0)), (1, (sl pa2_0 pn2_0 pc2_0)), (5, (vI ((x1.length : Nat) : Int)))]) (N := 26) ?_ hS1k
  refine Wq (Ws (Rm z (Rm z (R z (lnR d_47 z (p1_0.ext s19)) (R z (lss z z) (Wn (Wc z (fun hc => (noltt hc).elim) (fun _ => ?_))))))))
  exact WC_exit (fun a' ha' => ⟨rfl, ⟨(Sat.weaken ha' sn), s19⟩⟩)
 ·rintro _ a1l w29 rfl ⟨hS2a, s1m⟩
  have hm1n := elL hm15
  revert a1l
  refine Wo (Ws (Ra z (Wn ?_)))
  obtain rfl := som hm1n
  exact Wr (ret1 hr z ⟨s1m, z⟩)
 rintro r2b ex2c a2d w2e rfl ⟨rfl, hq1o⟩
 have hm1p := elR hm15
 obtain rfl := som hm1p
 exact ⟨hq1o, z⟩
theorem W_laws_eqIntS {x1 : List Int} {x2 : List Int} {res : Bool} (hm : M_laws_eqIntS x1 x2 = some res) (hBw : B ≤ w0.heap.size) (p1_0 : repS w0 B (sl pa1_0 pn1_0 pc1_0) x1) (p2_0 : repS w0 B (sl pa2_0 pn2_0 pc2_0) x2) : CallsR prog 101 [(sl pa1_0 pn1_0 pc1_0), (sl pa2_0 pn2_0 pc2_0)] w0 (Q7 w0 B res) := by
 unfold M_laws_eqIntS at hm
 refine goF func101 z z (lb z) fun fn hr => Ws (Ra z (Wn (Wq (Ws (Rm z (R z (lnR d_72 z p1_0) (Rm z (R z (lnR d_72 z p2_0) (R z (nq z z) (Wn (Wc z (fun hc12 => ?_) (fun hc12 => ?_))))))))))))
 ·refine Ws (Ra z (Wn ?_))
  obtain rfl := som (ifT hm hc12)
  exact Wr (ret1 hr z ⟨(br w0), z⟩)
 refine Wk (Wq (Ws (Ra z (Wn ?_))))
 obtain ⟨u1q, hu1a, hm15⟩ := bdS (ifF hm hc12)
 refine WC_forN (σ := Unit) (ρ := Bool) (fun (k13 : Nat) (_ : Unit) a w => Sat 26 [(0, (sl pa1_0 pn1_0 pc1_0)), (1, (sl pa2_0 pn2_0 pc2_0)), (5, (vI ((k13 : Nat) : Int)))] a ∧ Below w0.heap.size w0 w) (fun (_ : Unit) a w => Sat 26 [] a ∧ Below w0.heap.size w0 w) (fun r ex a w => ex = .ret ∧ RetPost prog fn (Q7 w0 B r) a w) hu1a ?_ ?_ ?_ ?_ ?_
 ·exact fun _ q => ⟨(q.k (s3 z z z)), (br w0)⟩
 ·rintro k13 _ a1r w1s o1t hk16 ⟨hS1b, s10⟩ hm1c
  refine Wu (e := [(0, (sl pa1_0 pn1_0 pc1_0)), (1, (sl pa2_0 pn2_0 pc2_0)), (5, (vI ((k13 : Nat) : Int)))]) (N := 26) ?_ hS1b
  refine Wq (Ws (Rm z (Rm z ?_)))
  have h17 := p1_0.ext s10
  refine R z (lnR d_72 z h17) (R z (lss z z) (Wn (Wc z (fun _ => ?_) (fun hc => (nolt hk16 hc).elim))))
  refine Wk (Wq (WC_block (Wq (WC_draw (X := noX) 0 (.rd 0 (.rd 1 (.rd 2 (.rd 3 (.rd 4 (.rd 5 (.rd 6 (.rd 7 (.rd 8 .done))))))))) mo (by kernel_rfl) fun w1u s11 _ => dR z z (mv z) (dR z z (mv z) ?_)))))
  obtain ⟨x1v, e1d, hm1e⟩ := bdS hm1c
  refine dRX z z (at_ (α := Int) d_72 z_3 z z z (h17.ext s11) e1d) ?_
  rintro _ ⟨b1w, o1x, cs1y, rfl, h1f, h1g, h1z⟩
  obtain ⟨rfl, h20⟩ := Int_open h1g
  refine dR z z (l1 g_3 z fid (h1f.at0 z)) (dR z z (mv z) (dR z z (mv z) ?_))
  obtain ⟨x21, e1h, hm18⟩ := bdS hm1e
  refine dRX z z (at_ (α := Int) d_72 z_3 z z z ((p2_0.ext s10).ext s11) e1h) ?_
  rintro _ ⟨b22, o23, cs24, rfl, h1i, h1j, h25⟩
  obtain ⟨rfl, h26⟩ := Int_open h1j
  refine dR z z (l1 g_3 z fid (h1i.at0 z)) (dR z z (nq z z) (PR_done (Wo (Wc z (fun hc14 => ?_) (fun hc14 => ?_)))))
  ·exact Ws (Ra z (Wn (Wr (rtO (QO_retL (som (ifT hm18 hc14)).symm (ret1 hr z ⟨(bup s10 s11), z⟩))))))
  exact Wk (Wg (Rm z (R z (inc_ hk16 (lt_ (repS.len p1_0) LEN_le) z z) (Ra z (Wl (fun _ q => ⟨(), (som (ifF hm18 hc14)).symm, ⟨(q.k (s3 z z z)), (bup s10 s11)⟩⟩))))))
 ·rintro _ a27 w28 ⟨hS1k, s19⟩
  refine Wu (e := [(0, (sl pa1_0 pn1_0 pc1_0)), (1, (sl pa2_0 pn2_0 pc2_0)), (5, (vI ((x1.length : Nat) : Int)))]) (N := 26) ?_ hS1k
  refine Wq (Ws (Rm z (Rm z (R z (lnR d_72 z (p1_0.ext s19)) (R z (lss z z) (Wn (Wc z (fun hc => (noltt hc).elim) (fun _ => ?_))))))))
  exact WC_exit (fun a' ha' => ⟨rfl, ⟨(Sat.weaken ha' sn), s19⟩⟩)
 ·rintro _ a1l w29 rfl ⟨hS2a, s1m⟩
  have hm1n := elL hm15
  revert a1l
  refine Wo (Ws (Ra z (Wn ?_)))
  obtain rfl := som hm1n
  exact Wr (ret1 hr z ⟨s1m, z⟩)
 rintro r2b ex2c a2d w2e rfl ⟨rfl, hq1o⟩
 have hm1p := elR hm15
 obtain rfl := som hm1p
 exact ⟨hq1o, z⟩
theorem W_laws_eqRule {x1 : Rule} {x2 : Rule} {res : Bool} (hm : M_laws_eqRule x1 x2 = some res) (hBw : B ≤ w0.heap.size) (p1_0 : x1.name.b.length ≤ LEN) (p1_1 : inI x1.kind) (p1_2 : inI x1.size) (p1_4 : repS w0 B (sl pa1_4 pn1_4 pc1_4) x1.bytes) (p1_5 : repS w0 B (sl pa1_5 pn1_5 pc1_5) x1.names) (p1_6 : repS w0 B (sl pa1_6 pn1_6 pc1_6) x1.tags) (p1_7 : repS w0 B (sl pa1_7 pn1_7 pc1_7) x1.kids) (p2_0 : x2.name.b.length ≤ LEN) (p2_1 : inI x2.kind) (p2_2 : inI x2.size) (p2_4 : repS w0 B (sl pa2_4 pn2_4 pc2_4) x2.bytes) (p2_5 : repS w0 B (sl pa2_5 pn2_5 pc2_5) x2.names) (p2_6 : repS w0 B (sl pa2_6 pn2_6 pc2_6) x2.tags) (p2_7 : repS w0 B (sl pa2_7 pn2_7 pc2_7) x2.kids) : CallsR prog 64 [(.agg #[(Str.v x1.name), (vI x1.kind), (vI x1.size), (vB x1.little), (sl pa1_4 pn1_4 pc1_4), (sl pa1_5 pn1_5 pc1_5), (sl pa1_6 pn1_6 pc1_6), (sl pa1_7 pn1_7 pc1_7)]), (.agg #[(Str.v x2.name), (vI x2.kind), (vI x2.size), (vB x2.little), (sl pa2_4 pn2_4 pc2_4), (sl pa2_5 pn2_5 pc2_5), (sl pa2_6 pn2_6 pc2_6), (sl pa2_7 pn2_7 pc2_7)])] w0 (Q7 w0 B res) := by
 unfold M_laws_eqRule at hm
 refine goF func64 z z (lb z) fun fn hr => Ws (E z (fb z) ?_)
 rintro _ w1f ⟨rfl, h1g⟩
 have h11 := h1g.below
 have h1x : Blk w1f w0.heap.size (vR x1 pa1_4 pn1_4 pc1_4 pa1_5 pn1_5 pc1_5 pa1_6 pn1_6 pc1_6 pa1_7 pn1_7 pc1_7) := h1g.blk
 refine E z (fb z) ?_
 rintro _ w1y ⟨rfl, h1h⟩
 have h10 := h1h.below
 have h15 : Blk w1y w1f.heap.size (vR x2 pa2_4 pn2_4 pc2_4 pa2_5 pn2_5 pc2_5 pa2_6 pn2_6 pc2_6 pa2_7 pn2_7 pc2_7) := h1h.blk
 refine Ra z (Wn (Wq (Ws (R z (fd f_74_0 z) ?_))))
 have h16 := h1x.ext h10
 refine R z (l1 g_9 z fid (h16.at z)) (R z (fd f_74_0 z) (R z (l1 g_9 z fid (h15.at z)) (R z (rd_neqT z z) (Wn (Wc z (fun hc17 => ?_) (fun hc17 => ?_))))))
 ·refine Ws (Ra z (Wn ?_))
  obtain rfl := som (ifT hm hc17)
  exact Wr (ret1 hr z ⟨(bup h11 h10), z⟩)
 have hm1i := ifF hm hc17
 refine Wk (Wq (Ws (R z (fd f_74_1 z) (R z (l1 g_3 z fid (h16.at z)) (R z (fd f_74_1 z) (R z (l1 g_3 z fid (h15.at z)) (R z (nq z z) (Wn (Wc z (fun hc18 => ?_) (fun hc18 => ?_))))))))))
 ·refine Ws (Ra z (Wn ?_))
  obtain rfl := som (ifT hm1i hc18)
  exact Wr (ret1 hr z ⟨(bup h11 h10), z⟩)
 have hm1j := ifF hm1i hc18
 refine Wk (Wq (Ws (R z (fd f_74_2 z) (R z (l1 g_3 z fid (h16.at z)) (R z (fd f_74_2 z) (R z (l1 g_3 z fid (h15.at z)) (R z (nq z z) (Wn (Wc z (fun hc19 => ?_) (fun hc19 => ?_))))))))))
 ·refine Ws (Ra z (Wn ?_))
  obtain rfl := som (ifT hm1j hc19)
  exact Wr (ret1 hr z ⟨(bup h11 h10), z⟩)
 have hm1k := ifF hm1j hc19
 refine Wk (Wq (Ws (R z (fd f_74_3 z) (R z (l1 g_4 z fid (h16.at z)) (R z (fd f_74_3 z) (R z (l1 g_4 z fid (h15.at z)) (R z (rd_neqB d_4 z z) (Wn (Wc z (fun hc1a => ?_) (fun hc1a => ?_))))))))))
 ·refine Ws (Ra z (Wn ?_))
  obtain rfl := som (ifT hm1k hc1a)
  exact Wr (ret1 hr z ⟨(bup h11 h10), z⟩)
 refine Wk (Wq (Ws (R z (fd f_74_4 z) (R z (l1 g_25 z fid (h16.at z)) (R z (fd f_74_4 z) (R z (l1 g_25 z fid (h15.at z)) ?_))))))
 have h1l := lt_ h11.size h10.size
 obtain ⟨r23, e1z, hm1m⟩ := bdS (ifF hm1k hc1a)
 refine E z (fc call11 z (W_laws_eqByteS (B := B) e1z (lt_ hBw h1l) ((p1_4.ext h11).ext h10) ((p2_4.ext h11).ext h10))) ?_
 rintro _ w24 ⟨s12, rfl⟩
 refine R z (not_ z) (Wn (Wc z (fun hc1b => ?_) (fun hc1b => ?_)))
 ·refine Ws (Ra z (Wn ?_))
  obtain rfl := som (ifT hm1m hc1b)
  exact Wr (ret1 hr z ⟨(bup (bup h11 h10) s12), z⟩)
 refine Wk (Wq (Ws (R z (fd f_74_5 z) ?_)))
 have h1n := h16.ext s12
 refine R z (l1 g_47 z fid (h1n.at z)) (R z (fd f_74_5 z) ?_)
 have h1o := h15.ext s12
 refine R z (l1 g_47 z fid (h1o.at z)) ?_
 have h1p := lt_ h1l s12.size
 obtain ⟨r25, e20, hm1q⟩ := bdS (ifF hm1m hc1b)
 refine E z (fc call23 z (W_laws_eqStringS (B := B) e20 (lt_ hBw h1p) (((p1_5.ext h11).ext h10).ext s12) (((p2_5.ext h11).ext h10).ext s12))) ?_
 rintro _ w26 ⟨s13, rfl⟩
 refine R z (not_ z) (Wn (Wc z (fun hc1c => ?_) (fun hc1c => ?_)))
 ·refine Ws (Ra z (Wn ?_))
  obtain rfl := som (ifT hm1q hc1c)
  exact Wr (ret1 hr z ⟨(bup (bup (bup h11 h10) s12) s13), z⟩)
 refine Wk (Wq (Ws (R z (fd f_74_6 z) ?_)))
 have h1r := h1n.ext s13
 refine R z (l1 g_72 z fid (h1r.at z)) (R z (fd f_74_6 z) ?_)
 have h1s := h1o.ext s13
 refine R z (l1 g_72 z fid (h1s.at z)) ?_
 have h1t := lt_ h1p s13.size
 obtain ⟨r27, e21, hm1u⟩ := bdS (ifF hm1q hc1c)
 refine E z (fc call101 z (W_laws_eqIntS (B := B) e21 (lt_ hBw h1t) ((((p1_6.ext h11).ext h10).ext s12).ext s13) ((((p2_6.ext h11).ext h10).ext s12).ext s13))) ?_
 rintro _ w28 ⟨s14, rfl⟩
 refine R z (not_ z) (Wn (Wc z (fun hc1d => ?_) (fun hc1d => ?_)))
 ·refine Ws (Ra z (Wn ?_))
  obtain rfl := som (ifT hm1u hc1d)
  exact Wr (ret1 hr z ⟨(bup (bup (bup (bup h11 h10) s12) s13) s14), z⟩)
 refine Wk (Wq (Ws (R z (fd f_74_7 z) (R z (l1 g_72 z fid ((h1r.ext s14).at z)) (R z (fd f_74_7 z) (R z (l1 g_72 z fid ((h1s.ext s14).at z)) ?_))))))
 obtain ⟨r29, e22, hm1v⟩ := bdS (ifF hm1u hc1d)
 refine E z (fc call101 z (W_laws_eqIntS (B := B) e22 (lt_ hBw (lt_ h1t s14.size)) (((((p1_7.ext h11).ext h10).ext s12).ext s13).ext s14) (((((p2_7.ext h11).ext h10).ext s12).ext s13).ext s14))) ?_
 rintro _ w2a ⟨s1w, rfl⟩
 refine R z (not_ z) (Wn (Wc z (fun hc1e => ?_) (fun hc1e => ?_)))
 ·refine Ws (Ra z (Wn ?_))
  obtain rfl := som (ifT hm1v hc1e)
  exact Wr (ret1 hr z ⟨(bup (bup (bup (bup (bup h11 h10) s12) s13) s14) s1w), z⟩)
 refine Wk (Ws (Ra z (Wn ?_)))
 obtain rfl := som (ifF hm1v hc1e)
 exact Wr (ret1 hr z ⟨(bup (bup (bup (bup (bup h11 h10) s12) s13) s14) s1w), z⟩)
theorem W_laws_eqRuleS {x1 : List Rule} {x2 : List Rule} {res : Bool} (hm : M_laws_eqRuleS x1 x2 = some res) (hBw : B ≤ w0.heap.size) (p1_0 : repS w0 B (sl pa1_0 pn1_0 pc1_0) x1) (p2_0 : repS w0 B (sl pa2_0 pn2_0 pc2_0) x2) : CallsR prog 36 [(sl pa1_0 pn1_0 pc1_0), (sl pa2_0 pn2_0 pc2_0)] w0 (Q7 w0 B res) := by
 unfold M_laws_eqRuleS at hm
 refine goF func36 z z (lb z) fun fn hr => Ws (Ra z (Wn (Wq (Ws (Rm z (R z (lnR d_29 z p1_0) (Rm z (R z (lnR d_29 z p2_0) (R z (nq z z) (Wn (Wc z (fun hc14 => ?_) (fun hc14 => ?_))))))))))))
 ·refine Ws (Ra z (Wn ?_))
  obtain rfl := som (ifT hm hc14)
  exact Wr (ret1 hr z ⟨(br w0), z⟩)
 refine Wk (Wq (Ws (Ra z (Wn ?_))))
 obtain ⟨u2x, hu1d, hm17⟩ := bdS (ifF hm hc14)
 refine WC_forN (σ := Unit) (ρ := Bool) (fun (k15 : Nat) (_ : Unit) a w => Sat 27 [(0, (sl pa1_0 pn1_0 pc1_0)), (1, (sl pa2_0 pn2_0 pc2_0)), (5, (vI ((k15 : Nat) : Int)))] a ∧ Below w0.heap.size w0 w) (fun (_ : Unit) a w => Sat 27 [] a ∧ Below w0.heap.size w0 w) (fun r ex a w => ex = .ret ∧ RetPost prog fn (Q7 w0 B r) a w) hu1d ?_ ?_ ?_ ?_ ?_
 ·exact fun _ q => ⟨(q.k (s3 z z z)), (br w0)⟩
 ·rintro k15 _ a2y w2z o30 hk18 ⟨hS1e, s10⟩ hm1f
  refine Wu (e := [(0, (sl pa1_0 pn1_0 pc1_0)), (1, (sl pa2_0 pn2_0 pc2_0)), (5, (vI ((k15 : Nat) : Int)))]) (N := 27) ?_ hS1e
  refine Wq (Ws (Rm z (Rm z ?_)))
  have h19 := p1_0.ext s10
  refine R z (lnR d_29 z h19) (R z (lss z z) (Wn (Wc z (fun _ => ?_) (fun hc => (nolt hk18 hc).elim))))
  refine Wk (Wq (WC_block (Wq (WC_draw (X := noX) 0 (.rd 0 (.rd 1 (.rd 2 (.rd 3 (.rd 4 (.rd 5 (.rd 6 (.rd 7 (.ef 8 (.rd 9 .done)))))))))) mo (by kernel_rfl) fun w31 s11 _ => dR z z (mv z) (dR z z (mv z) ?_)))))
  obtain ⟨x12, e1g, hm1h⟩ := bdS hm1f
  refine dRX z z (at_ (α := Rule) d_29 z_74 z z z (h19.ext s11) e1g) ?_
  rintro _ ⟨b32, o33, cs34, rfl, h1i, h1j, h35⟩
  obtain ⟨a1k, n1l, c1m, a1n, n1o, c1p, a1q, n1r, c1s, a1t, n1u, c1v, rfl, h1w, h1x, h1y, h1z, h20, h21, h22⟩ := Rule_open h1j
  refine dR z z (lN (vs := (vR x12 a1k n1l c1m a1n n1o c1p a1q n1r c1s a1t n1u c1v)) g_74 z_74 z z fid h1i) (dR z z (mv z) (dR z z (mv z) ?_))
  obtain ⟨x13, e23, hm24⟩ := bdS hm1h
  refine dRX z z (at_ (α := Rule) d_29 z_74 z z z ((p2_0.ext s10).ext s11) e23) ?_
  rintro _ ⟨b36, o37, cs38, rfl, h25, h26, h39⟩
  obtain ⟨a27, n28, c29, a2a, n2b, c2c, a2d, n2e, c2f, a2g, n2h, c2i, rfl, h2j, h2k, h2l, h2m, h2n, h2o, h2p⟩ := Rule_open h26
  refine dR z z (lN (vs := (vR x13 a27 n28 c29 a2a n2b c2c a2d n2e c2f a2g n2h c2i)) g_74 z_74 z z fid h25) ?_
  obtain ⟨r3a, e2q, hm1a⟩ := bdS hm24
  refine dE z z (fc call64 z (W_laws_eqRule (B := B) e2q (lt_ hBw (lt_ s10.size s11.size)) h1w h1x h1y h1z h20 h21 h22 h2j h2k h2l h2m h2n h2o h2p)) (.inr fun _ _ h => chgB (h.1)) ?_
  rintro _ w3b ⟨s1b, rfl⟩
  refine dR z z (not_ z) (PR_done (Wo (Wc z (fun hc16 => ?_) (fun hc16 => ?_))))
  ·exact Ws (Ra z (Wn (Wr (rtO (QO_retL (som (ifT hm1a hc16)).symm (ret1 hr z ⟨(bup (bup s10 s11) s1b), z⟩))))))
  exact Wk (Wg (Rm z (R z (inc_ hk18 (lt_ (repS.len p1_0) LEN_le) z z) (Ra z (Wl (fun _ q => ⟨(), (som (ifF hm1a hc16)).symm, ⟨(q.k (s3 z z z)), (bup (bup s10 s11) s1b)⟩⟩))))))
 ·rintro _ a3c w3d ⟨hS2r, s1c⟩
  refine Wu (e := [(0, (sl pa1_0 pn1_0 pc1_0)), (1, (sl pa2_0 pn2_0 pc2_0)), (5, (vI ((x1.length : Nat) : Int)))]) (N := 27) ?_ hS2r
  refine Wq (Ws (Rm z (Rm z (R z (lnR d_29 z (p1_0.ext s1c)) (R z (lss z z) (Wn (Wc z (fun hc => (noltt hc).elim) (fun _ => ?_))))))))
  exact WC_exit (fun a' ha' => ⟨rfl, ⟨(Sat.weaken ha' sn), s1c⟩⟩)
 ·rintro _ a2s w3e rfl ⟨hS3f, s2t⟩
  have hm2u := elL hm17
  revert a2s
  refine Wo (Ws (Ra z (Wn ?_)))
  obtain rfl := som hm2u
  exact Wr (ret1 hr z ⟨s2t, z⟩)
 rintro r3g ex3h a3i w3j rfl ⟨rfl, hq2v⟩
 have hm2w := elR hm17
 obtain rfl := som hm2w
 exact ⟨hq2v, z⟩
theorem W_laws_eqDescription {x1 : Desc} {x2 : Desc} {res : Bool} (hm : M_laws_eqDescription x1 x2 = some res) (hBw : B ≤ w0.heap.size) (p1_0 : repS w0 B (sl pa1_0 pn1_0 pc1_0) x1.rules) (p2_0 : repS w0 B (sl pa2_0 pn2_0 pc2_0) x2.rules) : CallsR prog 12 [(.agg #[(sl pa1_0 pn1_0 pc1_0)]), (.agg #[(sl pa2_0 pn2_0 pc2_0)])] w0 (Q7 w0 B res) := by
 unfold M_laws_eqDescription at hm
 refine goF func12 z z (lb z) fun fn hr => Ws (E z (fb z) ?_)
 rintro _ w13 ⟨rfl, h14⟩
 have h11 := h14.below
 have h18 : Blk w13 w0.heap.size [(sl pa1_0 pn1_0 pc1_0)] := h14.blk
 refine E z (fb z) ?_
 rintro _ w19 ⟨rfl, h15⟩
 have h10 := h15.below
 have h1a : Blk w19 w13.heap.size [(sl pa2_0 pn2_0 pc2_0)] := h15.blk
 refine Ra z (Wn (Wq (Ws (R z (fd f_31_0 z) (R z (l1 g_29 z fid ((h18.ext h10).at z)) (R z (fd f_31_0 z) (R z (l1 g_29 z fid (h1a.at z)) ?_)))))))
 obtain ⟨r1c, e1b, hm16⟩ := bdS hm
 refine E z (fc call36 z (W_laws_eqRuleS (B := B) e1b (lt_ hBw (lt_ h11.size h10.size)) ((p1_0.ext h11).ext h10) ((p2_0.ext h11).ext h10))) ?_
 rintro _ w1d ⟨s17, rfl⟩
 refine R z (not_ z) (Wn (Wc z (fun hc12 => ?_) (fun hc12 => ?_)))
 ·refine Ws (Ra z (Wn ?_))
  obtain rfl := som (ifT hm16 hc12)
  exact Wr (ret1 hr z ⟨(bup (bup h11 h10) s17), z⟩)
 refine Wk (Ws (Ra z (Wn ?_)))
 obtain rfl := som (ifF hm16 hc12)
 exact Wr (ret1 hr z ⟨(bup (bup h11 h10) s17), z⟩)
theorem W_laws_markText {x1 : Int} {res : Str} (hm : M_laws_markText n x1 = some res) (hBw : B ≤ w0.heap.size) (p1_0 : inI x1) : CallsR prog 49 [(vI x1)] w0 (Q8 w0 B res) := by
 unfold M_laws_markText at hm
 refine goF func49 z z (lb z) fun fn hr => Ws (Ra z (Wn (Wq (Ws (Rm z (R z (rd_leq z z) (Wn (Wc z (fun hc12 => ?_) (fun hc12 => ?_)))))))))
 ·refine Ws (Ra z (Wn ?_))
  obtain rfl := som (ifT hm hc12)
  exact Wr (ret1 hr z ⟨(br w0), z, (lb z)⟩)
 refine Wk (Ws (Ra z (Wn (Wq ?_))))
 obtain ⟨u1q, hu1c, hm15⟩ := bdS (ifF hm hc12)
 refine WC_iter (σ := Int × Str) (ρ := Str) (fun s a w => un2 (fun x10 x11 => Sat 20 [(0, (vI x10)), (3, (Str.v x11))] a ∧ Below w0.heap.size w0 w ∧ inI x10 ∧ x11.b.length ≤ LEN) s) (fun s a w => un2 (fun x10 x11 => Sat 20 [(3, (Str.v x11))] a ∧ Below w0.heap.size w0 w ∧ inI x10 ∧ x11.b.length ≤ LEN) s) (fun r ex a w => ex = .ret ∧ RetPost prog fn (Q8 w0 B r) a w) hu1c ?_ ?_ ?_ ?_
 ·exact fun _ q => ⟨(q.k (s2 z z)), (br w0), p1_0, (lb z)⟩
 ·rintro ⟨x10, x11⟩ a1r w1d o1s ⟨hS1e, s16, h17, h18⟩ hm1f
  have hm19 := un2S hm1f
  refine Wu (e := [(0, (vI x10)), (3, (Str.v x11))]) (N := 20) ?_ hS1e
  refine Wq (Ws (Rm z (R z (rd_gtr z z) (Wn (Wc z (fun hc13 => ?_) (fun hc13 => ?_))))))
  ·refine Wk (WC_block (Ws (Rm z (R z (rd_rem z z (by decide)) (R z (add_ z z) (R z (rd_convU d_3 d_5 z) (E z (ef_buildSlice [(.tmp 11)] el_25 z z z (szAll z) (lb z) (lb z)) ?_)))))))
   rintro _ w1g ⟨rfl, h14⟩
   have h1t : Blk w1g w1d.heap.size [(vU (byteI (mkB (iadd 48 (irem x10 10)))))] := h14.blk
   refine R z (rd_convST d_25 d_9 d_5 z_5 z (ownS.rep (ownS_new1 h14 UInt8_own))) (Rm z ?_)
   obtain ⟨x1h, e1a, hm1i⟩ := bdS (ifT hm19 hc13)
   exact R z (rd_catC z z e1a) (Ra z (Wn (Wg (Rm z (R z (rd_quo z z (by decide)) (Ra z (Wl (fun _ q => ⟨(iquo x10 10, x1h), (som hm1i).symm, ⟨(q.k (s2 z z)), (bup s16 h14.below), (inI_quo _ _), (cat_len e1a)⟩⟩))))))))
  exact WC_exit (fun a' ha' => QO_brk (som (ifF hm19 hc13)).symm ⟨(Sat.weaken ha' (s1 z)), s16, h17, h18⟩)
 ·rintro ⟨x10, x11⟩ a1j w1u rfl ⟨hS1v, s1k, h17, h18⟩
  have hm1l := elL hm15
  have hm1m := un2S hm1l
  revert a1j
  refine Wo (Ws (Rm z ?_))
  obtain ⟨x1w, e1b, hm1n⟩ := bdS hm1m
  refine R z (rd_catC z z e1b) (Ra z (Wn ?_))
  obtain rfl := som hm1n
  exact Wr (ret1 hr z ⟨s1k, z, (cat_len e1b)⟩)
 rintro r1x ex1y a1z w20 rfl ⟨rfl, hq1o⟩
 have hm1p := elR hm15
 obtain rfl := som hm1p
 exact ⟨hq1o, z⟩
def Q32 (w0 : World) (B : Nat) (pa1_0 : Option Addr) (pn1_0 pc1_0 : Nat) (S1_0 : List Nat) (r : Int × (List UInt8)) (v : Value) (w' : World) : Prop := Chg (· ∈ S1_0) w0 w' ∧ un2 (fun r1 r2 => ∃ (S1 : List Nat), (vI r1) = v ∧ inI r1 ∧ ownS w' S1 (sl pa1_0 pn1_0 pc1_0) r2 ∧ S1.Nodup ∧ (∀ k ∈ S1, k ∈ S1_0 ∨ w0.heap.size ≤ k)) r
theorem W_laws_markByteS {x1 : List UInt8} {S1_0 : List Nat} {x2 : Int} {res : Int × (List UInt8)} (hm : M_laws_markByteS n x1 x2 = some res) (hBw : B ≤ w0.heap.size) (p1_0 : ownS w0 S1_0 (sl pa1_0 pn1_0 pc1_0) x1) (p1_0n : S1_0.Nodup) (p1_0g : ∀ k ∈ S1_0, B ≤ k) (p2_0 : inI x2) : CallsR prog 14 [(sl pa1_0 pn1_0 pc1_0), (vI x2)] w0 (Q32 w0 B pa1_0 pn1_0 pc1_0 S1_0 res) := by
 unfold M_laws_markByteS at hm
 refine goF func14 z z (lb z) fun fn hr => Ws (Ra z (Wn (Wq (Ws (Ra z (Wn ?_))))))
 obtain ⟨u26, hu1h, hm1a⟩ := bdS hm
 refine WC_iter (σ := (List UInt8) × Int × Int) (ρ := Int × (List UInt8)) (fun s a w => un3 (fun x14 x11 x12 => ∃  (S10 : List Nat), Sat 20 [(0, (sl pa1_0 pn1_0 pc1_0)), (1, (vI x11)), (5, (vI x12))] a ∧ Chg (· ∈ S1_0) w0 w ∧ ownS w S10 (sl pa1_0 pn1_0 pc1_0) x14 ∧ S10.Nodup ∧ (∀ k ∈ S10, k ∈ S1_0 ∨ w0.heap.size ≤ k) ∧ inI x11 ∧ inI x12) s) (fun s a w => un3 (fun x14 x11 x12 => ∃  (S10 : List Nat), Sat 20 [(0, (sl pa1_0 pn1_0 pc1_0)), (1, (vI x11))] a ∧ Chg (· ∈ S1_0) w0 w ∧ ownS w S10 (sl pa1_0 pn1_0 pc1_0) x14 ∧ S10.Nodup ∧ (∀ k ∈ S10, k ∈ S1_0 ∨ w0.heap.size ≤ k) ∧ inI x11 ∧ inI x12) s) (fun r ex a w => ex = .ret ∧ RetPost prog fn (Q32 w0 B pa1_0 pn1_0 pc1_0 S1_0 r) a w) hu1h ?_ ?_ ?_ ?_
 ·exact fun _ q => ⟨S1_0, (q.k (s3 z z z)), (cr S1_0 w0), p1_0, p1_0n, (io sr), p2_0, (ii z)⟩
 ·rintro ⟨x14, x11, x12⟩ a27 w1b o28 ⟨S10, hS1i, s17, h13, h15, h16, h18, h1c⟩ hm1j
  have hm1d := un3S hm1j
  refine Wu (e := [(0, (sl pa1_0 pn1_0 pc1_0)), (1, (vI x11)), (5, (vI x12))]) (N := 20) ?_ hS1i
  refine Wq (Ws (Rm z (Rm z (R z (lnR d_25 z (ownS.rep h13)) (R z (lss z z) (Wn (Wc z (fun hc19 => ?_) (fun hc19 => ?_))))))))
  ·refine Wk (Wq (WC_block (Ws (Rm z (Rm z (Rm z (R z (rd_convU d_3 d_5 z) ?_)))))))
   obtain ⟨x1k, e1e, hm1l⟩ := bdS (ifT hm1d hc19)
   refine RX z (rd_atU (α := UInt8) d_25 z_5 z z h13 e1e) ?_
   rintro _ ⟨g29, h1m, rfl⟩
   refine E0 (ef_setN (α := UInt8) z_5 z h1m z z z e1e h13 h15 UInt8_own all_nil nd_nil) ?_
   rintro _ w1n ⟨S1f, s1o, h1p, h1q, h1r⟩
   refine Wn (Wg (Rm z (R z (add_ z z) (Ra z (Wn (Wg (Rm z (R z (add_ z z) (Ra z (Wl ?_))))))))))
   have h1g : ∀ k ∈ S10, k ∈ S1_0 ∨ w0.heap.size ≤ k := or1 h16 (io sr) (leor lr)
   have h1s : ∀ k ∈ S1f, k ∈ S1_0 ∨ w0.heap.size ≤ k := or2 h1r h1g all_nil (leor s17.size)
   have h1t : Chg (· ∈ S1_0) w0 w1b := cM (cr S1_0 w0) s17 (io sr)
   have h1u : Chg (· ∈ S1_0) w0 w1n := cM h1t s1o h1g
   exact fun _ q => ⟨(x1k, iadd x11 1, iadd x12 1), (som hm1l).symm, ⟨S1f, (q.k (s3 z z z)), h1u, h1p, h1q, h1s, (iA _ _), (iA _ _)⟩⟩
  have h1v : ∀ k ∈ S10, k ∈ S1_0 ∨ w0.heap.size ≤ k := or1 h16 (io sr) (leor lr)
  have h1w : Chg (· ∈ S1_0) w0 w1b := cM (cr S1_0 w0) s17 (io sr)
  exact WC_exit (fun a' ha' => QO_brk (som (ifF hm1d hc19)).symm ⟨S10, (Sat.weaken ha' (s2 z z)), h1w, h13, h15, h1v, h18, h1c⟩)
 ·rintro ⟨x14, x11, x12⟩ a1x w1y rfl ⟨S10, hS2a, s1z, h13, h15, h16, h18, h1c⟩
  have hm20 := elL hm1a
  have hm21 := un3S hm20
  revert a1x
  refine Wo (Ws (Rm z (Ra z (Wn ?_))))
  obtain rfl := som hm21
  have h22 : Chg (· ∈ S1_0) w0 w1y := cM (cr S1_0 w0) s1z (io sr)
  have h23 : ∀ k ∈ S10, k ∈ S1_0 ∨ w0.heap.size ≤ k := or1 h16 (io sr) (leor lr)
  exact Wr (ret1 hr z ⟨h22, S10, z, h18, h13, h15, h23⟩)
 rintro r2b ex2c a2d w2e rfl ⟨rfl, hq24⟩
 have hm25 := elR hm1a
 obtain rfl := som hm25
 exact ⟨hq24, z⟩
def Q33 (w0 : World) (B : Nat) (pa1_0 : Option Addr) (pn1_0 pc1_0 : Nat) (S1_0 : List Nat) (r : Int × (List Str)) (v : Value) (w' : World) : Prop := Chg (· ∈ S1_0) w0 w' ∧ un2 (fun r1 r2 => ∃ (S1 : List Nat), (vI r1) = v ∧ inI r1 ∧ ownS w' S1 (sl pa1_0 pn1_0 pc1_0) r2 ∧ S1.Nodup ∧ (∀ k ∈ S1, k ∈ S1_0 ∨ w0.heap.size ≤ k)) r
theorem W_laws_markStringS {x1 : List Str} {S1_0 : List Nat} {x2 : Int} {res : Int × (List Str)} (hm : M_laws_markStringS n x1 x2 = some res) (hBw : B ≤ w0.heap.size) (p1_0 : ownS w0 S1_0 (sl pa1_0 pn1_0 pc1_0) x1) (p1_0n : S1_0.Nodup) (p1_0g : ∀ k ∈ S1_0, B ≤ k) (p2_0 : inI x2) : CallsR prog 24 [(sl pa1_0 pn1_0 pc1_0), (vI x2)] w0 (Q33 w0 B pa1_0 pn1_0 pc1_0 S1_0 res) := by
 unfold M_laws_markStringS at hm
 refine goF func24 z z (lb z) fun fn hr => Ws (Ra z (Wn (Wq (Ws (Ra z (Wn ?_))))))
 obtain ⟨u2d, hu1j, hm1b⟩ := bdS hm
 refine WC_iter (σ := (List Str) × Int × Int) (ρ := Int × (List Str)) (fun s a w => un3 (fun x13 x11 x12 => ∃  (S10 : List Nat), Sat 20 [(0, (sl pa1_0 pn1_0 pc1_0)), (1, (vI x11)), (5, (vI x12))] a ∧ Chg (· ∈ S1_0) w0 w ∧ ownS w S10 (sl pa1_0 pn1_0 pc1_0) x13 ∧ S10.Nodup ∧ (∀ k ∈ S10, k ∈ S1_0 ∨ w0.heap.size ≤ k) ∧ inI x11 ∧ inI x12) s) (fun s a w => un3 (fun x13 x11 x12 => ∃  (S10 : List Nat), Sat 20 [(0, (sl pa1_0 pn1_0 pc1_0)), (1, (vI x11))] a ∧ Chg (· ∈ S1_0) w0 w ∧ ownS w S10 (sl pa1_0 pn1_0 pc1_0) x13 ∧ S10.Nodup ∧ (∀ k ∈ S10, k ∈ S1_0 ∨ w0.heap.size ≤ k) ∧ inI x11 ∧ inI x12) s) (fun r ex a w => ex = .ret ∧ RetPost prog fn (Q33 w0 B pa1_0 pn1_0 pc1_0 S1_0 r) a w) hu1j ?_ ?_ ?_ ?_
 ·exact fun _ q => ⟨S1_0, (q.k (s3 z z z)), (cr S1_0 w0), p1_0, p1_0n, (io sr), p2_0, (ii z)⟩
 ·rintro ⟨x13, x11, x12⟩ a2e w1c o2f ⟨S10, hS1k, s15, h14, h16, h17, h18, h1d⟩ hm1l
  have hm1e := un3S hm1l
  refine Wu (e := [(0, (sl pa1_0 pn1_0 pc1_0)), (1, (vI x11)), (5, (vI x12))]) (N := 20) ?_ hS1k
  refine Wq (Ws (Rm z (Rm z (R z (lnR d_47 z (ownS.rep h14)) (R z (lss z z) (Wn (Wc z (fun hc19 => ?_) (fun hc19 => ?_))))))))
  ·refine Wk (Wq (WC_block (Ws (Rm z (Rm z (Rm z ?_))))))
   obtain ⟨r2g, e1m, hm1n⟩ := bdS (ifT hm1e hc19)
   refine E z (fc call49 z (W_laws_markText (B := B) e1m (lt_ hBw s15.size) h18)) ?_
   rintro _ w1o ⟨s1a, rfl, h1p⟩
   obtain ⟨x1q, e1f, hm1r⟩ := bdS hm1n
   have h1g := h14.ext s1a
   refine RX z (rd_atU (α := Str) d_47 z_9 z z h1g e1f) ?_
   rintro _ ⟨g2h, h1s, rfl⟩
   refine E0 (ef_setN (α := Str) z_9 z h1s z z z e1f h1g h16 (Str_own h1p) all_nil nd_nil) ?_
   rintro _ w1t ⟨S1h, s1u, h1v, h1w, h1x⟩
   refine Wn (Wg (Rm z (R z (add_ z z) (Ra z (Wn (Wg (Rm z (R z (add_ z z) (Ra z (Wl ?_))))))))))
   have h1i : ∀ k ∈ S10, k ∈ S1_0 ∨ w0.heap.size ≤ k := or1 h17 (io sr) (leor lr)
   have h1y : ∀ k ∈ S1h, k ∈ S1_0 ∨ w0.heap.size ≤ k := or2 h1x h1i all_nil (leor (lt_ s15.size s1a.size))
   have h1z : Chg (· ∈ S1_0) w0 w1c := cM (cr S1_0 w0) s15 (io sr)
   have h20 : Chg (· ∈ S1_0) w0 w1o := cext h1z s1a
   have h21 : Chg (· ∈ S1_0) w0 w1t := cM h20 s1u h1i
   exact fun _ q => ⟨(x1q, iadd x11 1, iadd x12 1), (som hm1r).symm, ⟨S1h, (q.k (s3 z z z)), h21, h1v, h1w, h1y, (iA _ _), (iA _ _)⟩⟩
  have h22 : ∀ k ∈ S10, k ∈ S1_0 ∨ w0.heap.size ≤ k := or1 h17 (io sr) (leor lr)
  have h23 : Chg (· ∈ S1_0) w0 w1c := cM (cr S1_0 w0) s15 (io sr)
  exact WC_exit (fun a' ha' => QO_brk (som (ifF hm1e hc19)).symm ⟨S10, (Sat.weaken ha' (s2 z z)), h23, h14, h16, h22, h18, h1d⟩)
 ·rintro ⟨x13, x11, x12⟩ a24 w25 rfl ⟨S10, hS2i, s26, h14, h16, h17, h18, h1d⟩
  have hm27 := elL hm1b
  have hm28 := un3S hm27
  revert a24
  refine Wo (Ws (Rm z (Ra z (Wn ?_))))
  obtain rfl := som hm28
  have h29 : Chg (· ∈ S1_0) w0 w25 := cM (cr S1_0 w0) s26 (io sr)
  have h2a : ∀ k ∈ S10, k ∈ S1_0 ∨ w0.heap.size ≤ k := or1 h17 (io sr) (leor lr)
  exact Wr (ret1 hr z ⟨h29, S10, z, h18, h14, h16, h2a⟩)
 rintro r2j ex2k a2l w2m rfl ⟨rfl, hq2b⟩
 have hm2c := elR hm1b
 obtain rfl := som hm2c
 exact ⟨hq2b, z⟩
def Q34 (w0 : World) (B : Nat) (pa1_0 : Option Addr) (pn1_0 pc1_0 : Nat) (S1_0 : List Nat) (r : Int × (List Int)) (v : Value) (w' : World) : Prop := Chg (· ∈ S1_0) w0 w' ∧ un2 (fun r1 r2 => ∃ (S1 : List Nat), (vI r1) = v ∧ inI r1 ∧ ownS w' S1 (sl pa1_0 pn1_0 pc1_0) r2 ∧ S1.Nodup ∧ (∀ k ∈ S1, k ∈ S1_0 ∨ w0.heap.size ≤ k)) r
theorem W_laws_markIntS {x1 : List Int} {S1_0 : List Nat} {x2 : Int} {res : Int × (List Int)} (hm : M_laws_markIntS n x1 x2 = some res) (hBw : B ≤ w0.heap.size) (p1_0 : ownS w0 S1_0 (sl pa1_0 pn1_0 pc1_0) x1) (p1_0n : S1_0.Nodup) (p1_0g : ∀ k ∈ S1_0, B ≤ k) (p2_0 : inI x2) : CallsR prog 65 [(sl pa1_0 pn1_0 pc1_0), (vI x2)] w0 (Q34 w0 B pa1_0 pn1_0 pc1_0 S1_0 res) := by
 unfold M_laws_markIntS at hm
 refine goF func65 z z (lb z) fun fn hr => Ws (Ra z (Wn (Wq (Ws (Ra z (Wn ?_))))))
 obtain ⟨u26, hu1h, hm1a⟩ := bdS hm
 refine WC_iter (σ := (List Int) × Int × Int) (ρ := Int × (List Int)) (fun s a w => un3 (fun x14 x11 x12 => ∃  (S10 : List Nat), Sat 19 [(0, (sl pa1_0 pn1_0 pc1_0)), (1, (vI x11)), (5, (vI x12))] a ∧ Chg (· ∈ S1_0) w0 w ∧ ownS w S10 (sl pa1_0 pn1_0 pc1_0) x14 ∧ S10.Nodup ∧ (∀ k ∈ S10, k ∈ S1_0 ∨ w0.heap.size ≤ k) ∧ inI x11 ∧ inI x12) s) (fun s a w => un3 (fun x14 x11 x12 => ∃  (S10 : List Nat), Sat 19 [(0, (sl pa1_0 pn1_0 pc1_0)), (1, (vI x11))] a ∧ Chg (· ∈ S1_0) w0 w ∧ ownS w S10 (sl pa1_0 pn1_0 pc1_0) x14 ∧ S10.Nodup ∧ (∀ k ∈ S10, k ∈ S1_0 ∨ w0.heap.size ≤ k) ∧ inI x11 ∧ inI x12) s) (fun r ex a w => ex = .ret ∧ RetPost prog fn (Q34 w0 B pa1_0 pn1_0 pc1_0 S1_0 r) a w) hu1h ?_ ?_ ?_ ?_
 ·exact fun _ q => ⟨S1_0, (q.k (s3 z z z)), (cr S1_0 w0), p1_0, p1_0n, (io sr), p2_0, (ii z)⟩
 ·rintro ⟨x14, x11, x12⟩ a27 w1b o28 ⟨S10, hS1i, s18, h13, h15, h16, h17, h1c⟩ hm1j
  have hm1d := un3S hm1j
  refine Wu (e := [(0, (sl pa1_0 pn1_0 pc1_0)), (1, (vI x11)), (5, (vI x12))]) (N := 19) ?_ hS1i
  refine Wq (Ws (Rm z (Rm z (R z (lnR d_72 z (ownS.rep h13)) (R z (lss z z) (Wn (Wc z (fun hc19 => ?_) (fun hc19 => ?_))))))))
  ·refine Wk (Wq (WC_block (Ws (Rm z (Rm z (Rm z ?_))))))
   obtain ⟨x1k, e1e, hm1l⟩ := bdS (ifT hm1d hc19)
   refine RX z (rd_atU (α := Int) d_72 z_3 z z h13 e1e) ?_
   rintro _ ⟨g29, h1m, rfl⟩
   refine E0 (ef_setN (α := Int) z_3 z h1m z z z e1e h13 h15 (Int_own h17) all_nil nd_nil) ?_
   rintro _ w1n ⟨S1f, s1o, h1p, h1q, h1r⟩
   refine Wn (Wg (Rm z (R z (add_ z z) (Ra z (Wn (Wg (Rm z (R z (add_ z z) (Ra z (Wl ?_))))))))))
   have h1g : ∀ k ∈ S10, k ∈ S1_0 ∨ w0.heap.size ≤ k := or1 h16 (io sr) (leor lr)
   have h1s : ∀ k ∈ S1f, k ∈ S1_0 ∨ w0.heap.size ≤ k := or2 h1r h1g all_nil (leor s18.size)
   have h1t : Chg (· ∈ S1_0) w0 w1b := cM (cr S1_0 w0) s18 (io sr)
   have h1u : Chg (· ∈ S1_0) w0 w1n := cM h1t s1o h1g
   exact fun _ q => ⟨(x1k, iadd x11 1, iadd x12 1), (som hm1l).symm, ⟨S1f, (q.k (s3 z z z)), h1u, h1p, h1q, h1s, (iA _ _), (iA _ _)⟩⟩
  have h1v : ∀ k ∈ S10, k ∈ S1_0 ∨ w0.heap.size ≤ k := or1 h16 (io sr) (leor lr)
  have h1w : Chg (· ∈ S1_0) w0 w1b := cM (cr S1_0 w0) s18 (io sr)
  exact WC_exit (fun a' ha' => QO_brk (som (ifF hm1d hc19)).symm ⟨S10, (Sat.weaken ha' (s2 z z)), h1w, h13, h15, h1v, h17, h1c⟩)
 ·rintro ⟨x14, x11, x12⟩ a1x w1y rfl ⟨S10, hS2a, s1z, h13, h15, h16, h17, h1c⟩
  have hm20 := elL hm1a
  have hm21 := un3S hm20
  revert a1x
  refine Wo (Ws (Rm z (Ra z (Wn ?_))))
  obtain rfl := som hm21
  have h22 : Chg (· ∈ S1_0) w0 w1y := cM (cr S1_0 w0) s1z (io sr)
  have h23 : ∀ k ∈ S10, k ∈ S1_0 ∨ w0.heap.size ≤ k := or1 h16 (io sr) (leor lr)
  exact Wr (ret1 hr z ⟨h22, S10, z, h17, h13, h15, h23⟩)
 rintro r2b ex2c a2d w2e rfl ⟨rfl, hq24⟩
 have hm25 := elR hm1a
 obtain rfl := som hm25
 exact ⟨hq24, z⟩
def Q35 (w0 : World) (B : Nat) (pa1_0 : Option Addr) (pn1_0 pc1_0 : Nat) (S1_0 : List Nat) (r : Int × (List Rule)) (v : Value) (w' : World) : Prop := Chg (· ∈ S1_0) w0 w' ∧ un2 (fun r1 r2 => ∃ (S1 : List Nat), (vI r1) = v ∧ inI r1 ∧ ownS w' S1 (sl pa1_0 pn1_0 pc1_0) r2 ∧ S1.Nodup ∧ (∀ k ∈ S1, k ∈ S1_0 ∨ w0.heap.size ≤ k)) r
theorem W_laws_markRuleS {x1 : List Rule} {S1_0 : List Nat} {x2 : Int} {res : Int × (List Rule)} (hm : M_laws_markRuleS n x1 x2 = some res) (hBw : B ≤ w0.heap.size) (p1_0 : ownS w0 S1_0 (sl pa1_0 pn1_0 pc1_0) x1) (p1_0n : S1_0.Nodup) (p1_0g : ∀ k ∈ S1_0, B ≤ k) (p2_0 : inI x2) : CallsR prog 37 [(sl pa1_0 pn1_0 pc1_0), (vI x2)] w0 (Q35 w0 B pa1_0 pn1_0 pc1_0 S1_0 res) := by
 unfold M_laws_markRuleS at hm
 refine goF func37 z z (lb z) fun fn hr => Ws (Ra z (Wn (Wq (Ws (Ra z (Wn ?_))))))
 obtain ⟨u8g, hu4n, hm2q⟩ := bdS hm
 refine WC_iter (σ := (List Rule) × Int × Int) (ρ := Int × (List Rule)) (fun s a w => un3 (fun x1i x1a x19 => ∃  (S10 : List Nat), Sat 72 [(0, (sl pa1_0 pn1_0 pc1_0)), (1, (vI x1a)), (5, (vI x19))] a ∧ Chg (· ∈ S1_0) w0 w ∧ ownS w S10 (sl pa1_0 pn1_0 pc1_0) x1i ∧ S10.Nodup ∧ (∀ k ∈ S10, k ∈ S1_0 ∨ w0.heap.size ≤ k) ∧ inI x1a ∧ inI x19) s) (fun s a w => un3 (fun x1i x1a x19 => ∃  (S10 : List Nat), Sat 72 [(0, (sl pa1_0 pn1_0 pc1_0)), (1, (vI x1a))] a ∧ Chg (· ∈ S1_0) w0 w ∧ ownS w S10 (sl pa1_0 pn1_0 pc1_0) x1i ∧ S10.Nodup ∧ (∀ k ∈ S10, k ∈ S1_0 ∨ w0.heap.size ≤ k) ∧ inI x1a ∧ inI x19) s) (fun r ex a w => ex = .ret ∧ RetPost prog fn (Q35 w0 B pa1_0 pn1_0 pc1_0 S1_0 r) a w) hu4n ?_ ?_ ?_ ?_
 ·exact fun _ q => ⟨S1_0, (q.k (s3 z z z)), (cr S1_0 w0), p1_0, p1_0n, (io sr), p2_0, (ii z)⟩
 ·rintro ⟨x1i, x1a, x19⟩ a8h w2r o8i ⟨S10, hS4o, s1p, h1j, h1q, h1k, h1r, h2s⟩ hm4p
  have hm2t := un3S hm4p
  refine Wu (e := [(0, (sl pa1_0 pn1_0 pc1_0)), (1, (vI x1a)), (5, (vI x19))]) (N := 72) ?_ hS4o
  refine Wq (Ws (Rm z (Rm z (R z (lnR d_29 z (ownS.rep h1j)) (R z (lss z z) (Wn (Wc z (fun hc2g => ?_) (fun hc2g => ?_))))))))
  ·refine Wk (Wq (WC_block (Ws (Rm z (Rm z (Rm z ?_))))))
   obtain ⟨r4q, e4r, hm4s⟩ := bdS (ifT hm2t hc2g)
   refine E z (fc call49 z (W_laws_markText (B := B) e4r (lt_ hBw s1p.size) h1r)) ?_
   rintro _ w4t ⟨s2h, rfl, h4u⟩
   obtain ⟨x1b, e2u, hm4v⟩ := bdS hm4s
   have h2v := h1j.ext s2h
   refine RX z (rd_atQ (α := Rule) d_29 z_74 z z h2v e2u) ?_
   rintro _ ⟨g8j, h4w, rfl⟩
   refine R z (fd f_74_0 z) ?_
   obtain ⟨x8k, e4x, hm4y⟩ := bdS hm4v
   refine E0 (ef_setF (α := Rule) (v' := (⟨r4q, x1b.kind, x1b.size, x1b.little, x1b.bytes, x1b.names, x1b.tags, x1b.kids⟩ : Rule)) z_9 z h4w z z z z e2u e4x h2v h1q (lb z) (fun _ _ _ h => Rule_setO0 h h4u)) ?_
   rintro _ w4z ⟨S50, s2w, h2x, h51, h2y⟩
   refine Wn (Ws (Rm z (R z (add_ z z) (Ra z (Wn (Ws (Rm z (Rm z (Rm z ?_)))))))))
   obtain ⟨x1c, e2z, hm52⟩ := bdS hm4y
   refine RX z (rd_atQ (α := Rule) d_29 z_74 z z h2x e2z) ?_
   rintro _ ⟨g8l, h53, rfl⟩
   refine R z (fd f_74_1 z) ?_
   obtain ⟨x8m, e54, hm55⟩ := bdS hm52
   refine E0 (ef_setF (α := Rule) (v' := (⟨x1c.name, iadd x1a 1, x1c.size, x1c.little, x1c.bytes, x1c.names, x1c.tags, x1c.kids⟩ : Rule)) z_3 z h53 z z z z e2z e54 h2x h51 (lb z) (fun _ _ _ h => Rule_setO1 h (iA _ _))) ?_
   rintro _ w56 ⟨S57, s30, h31, h58, h32⟩
   refine Wn (Ws (Rm z (R z (add_ z z) (Ra z (Wn (Ws (Rm z (Rm z (Rm z ?_)))))))))
   obtain ⟨x1d, e33, hm59⟩ := bdS hm55
   refine RX z (rd_atQ (α := Rule) d_29 z_74 z z h31 e33) ?_
   rintro _ ⟨g8n, h5a, rfl⟩
   refine R z (fd f_74_2 z) ?_
   obtain ⟨x8o, e5b, hm5c⟩ := bdS hm59
   refine E0 (ef_setF (α := Rule) (v' := (⟨x1d.name, x1d.kind, iadd (iadd x1a 1) 1, x1d.little, x1d.bytes, x1d.names, x1d.tags, x1d.kids⟩ : Rule)) z_3 z h5a z z z z e33 e5b h31 h58 (lb z) (fun _ _ _ h => Rule_setO2 h (iA _ _))) ?_
   rintro _ w5d ⟨S5e, s34, h35, h5f, h36⟩
   refine Wn (Ws (Rm z (R z (add_ z z) (Ra z (Wn (Ws (Rm z (Rm z (Rm z (R z (rd_rem z z (by decide)) (R z (eql z z) ?_)))))))))))
   obtain ⟨x1e, e37, hm5g⟩ := bdS hm5c
   refine RX z (rd_atQ (α := Rule) d_29 z_74 z z h35 e37) ?_
   rintro _ ⟨g8p, h5h, rfl⟩
   refine R z (fd f_74_3 z) ?_
   obtain ⟨x5i, e5j, hm5k⟩ := bdS hm5g
   refine E0 (ef_setF (α := Rule) (v' := (⟨x1e.name, x1e.kind, x1e.size, (irem (iadd (iadd (iadd x1a 1) 1) 1) 3) == 0, x1e.bytes, x1e.names, x1e.tags, x1e.kids⟩ : Rule)) z_4 z h5h z z z z e37 e5j h35 h5f (lb z) (fun _ _ _ h => Rule_setO3 h)) ?_
   rintro _ w1s ⟨S5l, s38, h39, h5m, h3a⟩
   refine Wn (Ws (Rm z (R z (add_ z z) (Ra z (Wn (Ws (Rm z (Rm z ?_))))))))
   obtain ⟨x11, e3b, hm5n⟩ := bdS hm5k
   refine RX z (rd_atQ (α := Rule) d_29 z_74 z z h39 e3b) ?_
   rintro _ ⟨g8q, h5o, rfl⟩
   obtain ⟨cs8r, S8s, h5p, h5q, h15, h3c, h8t, h5r⟩ := own_lens h5o h39 h5m e3b
   obtain ⟨a8u, n8v, c8w, a8x, n8y, c8z, a90, n91, c92, a93, n94, c95, S1t, S1u, S1v, S1w, rfl, rfl, h5s, h5t, h5u, h5v, h3d, h3e, h3f⟩ := Rule_openO h5q
   refine R z (fd f_74_4 z) (R z (l1 g_25 z fid (h5p.at (j := 4) z)) (Rm z ?_))
   have h2i := lt_ s1p.size s2h.size
   have h2j := lt_ h2i s2w.size
   have h2k := lt_ h2j s30.size
   have h2l := lt_ h2k s34.size
   have h1x := lt_ h2l s38.size
   have h2m := lt_ hBw h1x
   have h3g := o1le h3a (o1le h36 (o1le h32 (o1le h2y (o1le h1k p1_0g hBw) (lt_ hBw h2i)) (lt_ hBw h2j)) (lt_ hBw h2k)) (lt_ hBw h2l)
   obtain ⟨r96, r3h, e5w, hm5x⟩ := bd2S hm5n
   refine E z (fc call14 z (W_laws_markByteS (B := B) e5w h2m h5v (nd_left h15) (o1le (fun k hk => .inl (h3c k (List.mem_append_left _ hk))) h3g h2m) (iA _ _))) ?_
   rintro _ w1l ⟨s1f, S3i, rfl, h5y, h5z, h60, h1y⟩
   have h61 : Chg (· ∈ (S1t ++ (S1u ++ (S1v ++ S1w)))) w1s w1l := cM (cr (S1t ++ (S1u ++ (S1v ++ S1w))) w1s) s1f (io (sub_l sr))
   have h62 : ∀ k ∈ S3i, k ∈ (S1t ++ (S1u ++ (S1v ++ S1w))) ∨ w1s.heap.size ≤ k := or1 h1y (io (sub_l sr)) (leor lr)
   obtain ⟨S63, h3j, h64, h3k⟩ := h5r _ _ _ h61 (Rule_mkO (x := (⟨x11.name, x11.kind, x11.size, x11.little, r3h, x11.names, x11.tags, x11.kids⟩ : Rule)) (S1 := S3i) (S2 := S1u) (S3 := S1v) (S4 := S1w) h5s h5t h5u h5z (h3d.chg s1f (dj_symm (nmL (nd_dj h15)))) (h3e.chg s1f (dj_symm (nmL (nmR (nd_dj h15))))) (h3f.chg s1f (dj_symm (nmR (nmR (nd_dj h15)))))) (nd_app h60 (nd_app (nd_left (nd_right h15)) (nd_app (nd_left (nd_right (nd_right h15))) (nd_right (nd_right (nd_right h15))) (nd_dj (nd_right (nd_right h15)))) (nmA (nmL (nd_dj (nd_right h15))) (nmR (nd_dj (nd_right h15))))) (nmA (o1no h1y (nmL (nd_dj h15)) (ownS.lt h3d) lr) (nmA (o1no h1y (nmL (nmR (nd_dj h15))) (ownS.lt h3e) lr) (o1no h1y (nmR (nmR (nd_dj h15))) (ownS.lt h3f) lr)))) (all_app h62 (all_app (io (sub_r (sub_l sr))) (all_app (io (sub_r (sub_r (sub_l sr)))) (io (sub_r (sub_r (sub_r sr)))))))
   refine Ra z (Wn (Ws (Rm z (Rm z ?_))))
   obtain ⟨x12, e3l, hm65⟩ := bdS hm5x
   refine RX z (rd_atQ (α := Rule) d_29 z_74 z z h3j e3l) ?_
   rintro _ ⟨g97, h66, rfl⟩
   obtain ⟨cs98, S99, h67, h68, h16, h3m, h9a, h69⟩ := own_lens h66 h3j h64 e3l
   obtain ⟨a9b, n9c, c9d, a9e, n9f, c9g, a9h, n9i, c9j, a9k, n9l, c9m, S1z, S20, S21, S22, rfl, rfl, h6a, h6b, h6c, h3n, h6d, h3o, h3p⟩ := Rule_openO h68
   refine R z (fd f_74_5 z) (R z (l1 g_47 z fid (h67.at (j := 5) z)) (Rm z ?_))
   have h23 := lt_ h1x s1f.size
   have h2n := lt_ hBw h23
   have h3q := o1le h3k h3g h2m
   obtain ⟨r9n, r3r, e6e, hm6f⟩ := bd2S hm65
   refine E z (fc call24 z (W_laws_markStringS (B := B) e6e h2n h6d (nd_left (nd_right h16)) (o1le (fun k hk => .inl ((fun k hk => h3m k (List.mem_append_right _ hk)) k (List.mem_append_left _ hk))) h3q h2n) h5y)) ?_
   rintro _ w1m ⟨s1g, S3s, rfl, h6g, h6h, h6i, h24⟩
   have h6j : Chg (· ∈ (S1z ++ (S20 ++ (S21 ++ S22)))) w1l w1m := cM (cr (S1z ++ (S20 ++ (S21 ++ S22))) w1l) s1g (io (sub_r (sub_l sr)))
   have h6k : ∀ k ∈ S3s, k ∈ (S1z ++ (S20 ++ (S21 ++ S22))) ∨ w1l.heap.size ≤ k := or1 h24 (io (sub_r (sub_l sr))) (leor lr)
   obtain ⟨S6l, h3t, h6m, h3u⟩ := h69 _ _ _ h6j (Rule_mkO (x := (⟨x12.name, x12.kind, x12.size, x12.little, x12.bytes, r3r, x12.tags, x12.kids⟩ : Rule)) (S1 := S1z) (S2 := S3s) (S3 := S21) (S4 := S22) h6a h6b h6c (h3n.chg s1g (nmL (nd_dj h16))) h6h (h3o.chg s1g (dj_symm (nmL (nd_dj (nd_right h16))))) (h3p.chg s1g (dj_symm (nmR (nd_dj (nd_right h16)))))) (nd_app (nd_left h16) (nd_app h6i (nd_app (nd_left (nd_right (nd_right h16))) (nd_right (nd_right (nd_right h16))) (nd_dj (nd_right (nd_right h16)))) (nmA (o1no h24 (nmL (nd_dj (nd_right h16))) (ownS.lt h3o) lr) (o1no h24 (nmR (nd_dj (nd_right h16))) (ownS.lt h3p) lr))) (nmA (dj_symm (o1no h24 (dj_symm (nmL (nd_dj h16))) (ownS.lt h3n) lr)) (nmA (nmL (nmR (nd_dj h16))) (nmR (nmR (nd_dj h16)))))) (all_app (io (sub_l sr)) (all_app h6k (all_app (io (sub_r (sub_r (sub_l sr)))) (io (sub_r (sub_r (sub_r sr)))))))
   refine Ra z (Wn (Ws (Rm z (Rm z ?_))))
   obtain ⟨x13, e3v, hm6n⟩ := bdS hm6f
   refine RX z (rd_atQ (α := Rule) d_29 z_74 z z h3t e3v) ?_
   rintro _ ⟨g9o, h6o, rfl⟩
   obtain ⟨cs9p, S9q, h6p, h6q, h17, h3w, h9r, h6r⟩ := own_lens h6o h3t h6m e3v
   obtain ⟨a9s, n9t, c9u, a9v, n9w, c9x, a9y, n9z, c100, a101, n102, c103, S25, S26, S27, S28, rfl, rfl, h6s, h6t, h6u, h3x, h3y, h6v, h3z⟩ := Rule_openO h6q
   refine R z (fd f_74_6 z) (R z (l1 g_72 z fid (h6p.at (j := 6) z)) (Rm z ?_))
   have h29 := lt_ h23 s1g.size
   have h2o := lt_ hBw h29
   have h40 := o1le h3u h3q h2n
   obtain ⟨r104, r41, e6w, hm6x⟩ := bd2S hm6n
   refine E z (fc call65 z (W_laws_markIntS (B := B) e6w h2o h6v (nd_left (nd_right (nd_right h17))) (o1le (fun k hk => .inl ((fun k hk => (fun k hk => h3w k (List.mem_append_right _ hk)) k (List.mem_append_right _ hk)) k (List.mem_append_left _ hk))) h40 h2o) h6g)) ?_
   rintro _ w1n ⟨s1h, S42, rfl, h6y, h6z, h70, h2a⟩
   have h71 : Chg (· ∈ (S25 ++ (S26 ++ (S27 ++ S28)))) w1m w1n := cM (cr (S25 ++ (S26 ++ (S27 ++ S28))) w1m) s1h (io (sub_r (sub_r (sub_l sr))))
   have h72 : ∀ k ∈ S42, k ∈ (S25 ++ (S26 ++ (S27 ++ S28))) ∨ w1m.heap.size ≤ k := or1 h2a (io (sub_r (sub_r (sub_l sr)))) (leor lr)
   obtain ⟨S73, h43, h74, h44⟩ := h6r _ _ _ h71 (Rule_mkO (x := (⟨x13.name, x13.kind, x13.size, x13.little, x13.bytes, x13.names, r41, x13.kids⟩ : Rule)) (S1 := S25) (S2 := S26) (S3 := S42) (S4 := S28) h6s h6t h6u (h3x.chg s1h (nmL (nmR (nd_dj h17)))) (h3y.chg s1h (nmL (nd_dj (nd_right h17)))) h6z (h3z.chg s1h (dj_symm (nd_dj (nd_right (nd_right h17)))))) (nd_app (nd_left h17) (nd_app (nd_left (nd_right h17)) (nd_app h70 (nd_right (nd_right (nd_right h17))) (o1no h2a (nd_dj (nd_right (nd_right h17))) (ownS.lt h3z) lr)) (nmA (dj_symm (o1no h2a (dj_symm (nmL (nd_dj (nd_right h17)))) (ownS.lt h3y) lr)) (nmR (nd_dj (nd_right h17))))) (nmA (nmL (nd_dj h17)) (nmA (dj_symm (o1no h2a (dj_symm (nmL (nmR (nd_dj h17)))) (ownS.lt h3x) lr)) (nmR (nmR (nd_dj h17)))))) (all_app (io (sub_l sr)) (all_app (io (sub_r (sub_l sr))) (all_app h72 (io (sub_r (sub_r (sub_r sr)))))))
   refine Ra z (Wn (Wg (Rm z (Rm z ?_))))
   obtain ⟨x14, e45, hm75⟩ := bdS hm6x
   refine RX z (rd_atQ (α := Rule) d_29 z_74 z z h43 e45) ?_
   rintro _ ⟨g105, h76, rfl⟩
   obtain ⟨cs106, S107, h77, h78, h18, h46, h108, h79⟩ := own_lens h76 h43 h74 e45
   obtain ⟨a109, n10a, c10b, a10c, n10d, c10e, a10f, n10g, c10h, a10i, n10j, c10k, S2b, S2c, S2d, S2e, rfl, rfl, h7a, h7b, h7c, h47, h48, h49, h7d⟩ := Rule_openO h78
   refine R z (fd f_74_7 z) (R z (l1 g_72 z fid (h77.at (j := 7) z)) (Rm z ?_))
   have h2p := lt_ h29 s1h.size
   have h4a := lt_ hBw h2p
   have h7e := o1le (fun k hk => .inl ((fun k hk => (fun k hk => (fun k hk => h46 k (List.mem_append_right _ hk)) k (List.mem_append_right _ hk)) k (List.mem_append_right _ hk)) k hk)) (o1le h44 h40 h2o) h4a
   obtain ⟨r7f, r4b, e7g, hm7h⟩ := bd2S hm75
   refine E z (fc call65 z (W_laws_markIntS (B := B) e7g h4a h7d (nd_right (nd_right (nd_right h18))) h7e h6y)) ?_
   rintro _ w4c ⟨s1o, S4d, rfl, h7i, h7j, h7k, h2f⟩
   have h7l : Chg (· ∈ (S2b ++ (S2c ++ (S2d ++ S2e)))) w1n w4c := cM (cr (S2b ++ (S2c ++ (S2d ++ S2e))) w1n) s1o (io (sub_r (sub_r (sub_r sr))))
   have h7m : ∀ k ∈ S4d, k ∈ (S2b ++ (S2c ++ (S2d ++ S2e))) ∨ w1n.heap.size ≤ k := or1 h2f (io (sub_r (sub_r (sub_r sr)))) (leor lr)
   obtain ⟨S4e, h7n, h7o, h7p⟩ := h79 _ _ _ h7l (Rule_mkO (x := (⟨x14.name, x14.kind, x14.size, x14.little, x14.bytes, x14.names, x14.tags, r4b⟩ : Rule)) (S1 := S2b) (S2 := S2c) (S3 := S2d) (S4 := S4d) h7a h7b h7c (h47.chg s1o (nmR (nmR (nd_dj h18)))) (h48.chg s1o (nmR (nd_dj (nd_right h18)))) (h49.chg s1o (nd_dj (nd_right (nd_right h18)))) h7j) (nd_app (nd_left h18) (nd_app (nd_left (nd_right h18)) (nd_app (nd_left (nd_right (nd_right h18))) h7k (dj_symm (o1no h2f (dj_symm (nd_dj (nd_right (nd_right h18)))) (ownS.lt h49) lr))) (nmA (nmL (nd_dj (nd_right h18))) (dj_symm (o1no h2f (dj_symm (nmR (nd_dj (nd_right h18)))) (ownS.lt h48) lr)))) (nmA (nmL (nd_dj h18)) (nmA (nmL (nmR (nd_dj h18))) (dj_symm (o1no h2f (dj_symm (nmR (nmR (nd_dj h18)))) (ownS.lt h47) lr))))) (all_app (io (sub_l sr)) (all_app (io (sub_r (sub_l sr))) (all_app (io (sub_r (sub_r (sub_l sr)))) h7m)))
   refine Ra z (Wn (Wg (Rm z (R z (add_ z z) (Ra z (Wl ?_))))))
   have h4f : ∀ k ∈ S10, k ∈ S1_0 ∨ w0.heap.size ≤ k := or1 h1k (io sr) (leor lr)
   have h4g : ∀ k ∈ S50, k ∈ S1_0 ∨ w0.heap.size ≤ k := or1 h2y h4f (leor h2i)
   have h4h : ∀ k ∈ S57, k ∈ S1_0 ∨ w0.heap.size ≤ k := or1 h32 h4g (leor h2j)
   have h4i : ∀ k ∈ S5e, k ∈ S1_0 ∨ w0.heap.size ≤ k := or1 h36 h4h (leor h2k)
   have h4j : ∀ k ∈ S5l, k ∈ S1_0 ∨ w0.heap.size ≤ k := or1 h3a h4i (leor h2l)
   have h4k : ∀ k ∈ S63, k ∈ S1_0 ∨ w0.heap.size ≤ k := or1 h3k h4j (leor h1x)
   have h4l : ∀ k ∈ S6l, k ∈ S1_0 ∨ w0.heap.size ≤ k := or1 h3u h4k (leor h23)
   have h4m : ∀ k ∈ S73, k ∈ S1_0 ∨ w0.heap.size ≤ k := or1 h44 h4l (leor h29)
   have h7q : ∀ k ∈ S4e, k ∈ S1_0 ∨ w0.heap.size ≤ k := or1 h7p h4m (leor h2p)
   have h7r : Chg (· ∈ S1_0) w0 w2r := cM (cr S1_0 w0) s1p (io sr)
   have h7s : Chg (· ∈ S1_0) w0 w4t := cext h7r s2h
   have h7t : Chg (· ∈ S1_0) w0 w4z := cM h7s s2w h4f
   have h7u : Chg (· ∈ S1_0) w0 w56 := cM h7t s30 h4g
   have h7v : Chg (· ∈ S1_0) w0 w5d := cM h7u s34 h4h
   have h7w : Chg (· ∈ S1_0) w0 w1s := cM h7v s38 h4i
   have h7x : ∀ k ∈ S1t, k ∈ S1_0 ∨ w0.heap.size ≤ k := or1 (fun k hk => .inl (h3c k (List.mem_append_left _ hk))) h4j (leor h1x)
   have h7y : Chg (· ∈ S1_0) w0 w1l := cM h7w s1f h7x
   have h7z : ∀ k ∈ S20, k ∈ S1_0 ∨ w0.heap.size ≤ k := or1 (fun k hk => .inl ((fun k hk => h3m k (List.mem_append_right _ hk)) k (List.mem_append_left _ hk))) h4k (leor h23)
   have h80 : Chg (· ∈ S1_0) w0 w1m := cM h7y s1g h7z
   have h81 : ∀ k ∈ S27, k ∈ S1_0 ∨ w0.heap.size ≤ k := or1 (fun k hk => .inl ((fun k hk => (fun k hk => h3w k (List.mem_append_right _ hk)) k (List.mem_append_right _ hk)) k (List.mem_append_left _ hk))) h4l (leor h29)
   have h82 : Chg (· ∈ S1_0) w0 w1n := cM h80 s1h h81
   have h83 : ∀ k ∈ S2e, k ∈ S1_0 ∨ w0.heap.size ≤ k := or1 (fun k hk => .inl ((fun k hk => (fun k hk => (fun k hk => h46 k (List.mem_append_right _ hk)) k (List.mem_append_right _ hk)) k (List.mem_append_right _ hk)) k hk)) h4m (leor h2p)
   have h84 : Chg (· ∈ S1_0) w0 w4c := cM h82 s1o h83
   exact fun _ q => ⟨(((((x5i.set (x19).toNat (⟨x11.name, x11.kind, x11.size, x11.little, r3h, x11.names, x11.tags, x11.kids⟩ : Rule)).set (x19).toNat (⟨x12.name, x12.kind, x12.size, x12.little, x12.bytes, r3r, x12.tags, x12.kids⟩ : Rule)).set (x19).toNat (⟨x13.name, x13.kind, x13.size, x13.little, x13.bytes, x13.names, r41, x13.kids⟩ : Rule)).set (x19).toNat (⟨x14.name, x14.kind, x14.size, x14.little, x14.bytes, x14.names, x14.tags, r4b⟩ : Rule)), r7f, iadd x19 1), (som hm7h).symm, ⟨S4e, (q.k (s3 z z z)), h84, h7n, h7o, h7q, h7i, (iA _ _)⟩⟩
  have h85 : ∀ k ∈ S10, k ∈ S1_0 ∨ w0.heap.size ≤ k := or1 h1k (io sr) (leor lr)
  have h86 : Chg (· ∈ S1_0) w0 w2r := cM (cr S1_0 w0) s1p (io sr)
  exact WC_exit (fun a' ha' => QO_brk (som (ifF hm2t hc2g)).symm ⟨S10, (Sat.weaken ha' (s2 z z)), h86, h1j, h1q, h85, h1r, h2s⟩)
 ·rintro ⟨x1i, x1a, x19⟩ a87 w88 rfl ⟨S10, hS10l, s89, h1j, h1q, h1k, h1r, h2s⟩
  have hm8a := elL hm2q
  have hm8b := un3S hm8a
  revert a87
  refine Wo (Ws (Rm z (Ra z (Wn ?_))))
  obtain rfl := som hm8b
  have h8c : Chg (· ∈ S1_0) w0 w88 := cM (cr S1_0 w0) s89 (io sr)
  have h8d : ∀ k ∈ S10, k ∈ S1_0 ∨ w0.heap.size ≤ k := or1 h1k (io sr) (leor lr)
  exact Wr (ret1 hr z ⟨h8c, S10, z, h1r, h1j, h1q, h8d⟩)
 rintro r10m ex10n a10o w10p rfl ⟨rfl, hq8e⟩
 have hm8f := elR hm2q
 obtain rfl := som hm8f
 exact ⟨hq8e, z⟩
theorem W_laws_markDescription {x1 : Desc} {S1_0 : List Nat} {x2 : Int} {res : Int × (List Rule)} (hm : M_laws_markDescription n x1 x2 = some res) (hBw : B ≤ w0.heap.size) (p1_0 : ownS w0 S1_0 (sl pa1_0 pn1_0 pc1_0) x1.rules) (p1_0n : S1_0.Nodup) (p1_0g : ∀ k ∈ S1_0, B ≤ k) (p2_0 : inI x2) : CallsR prog 13 [(.agg #[(sl pa1_0 pn1_0 pc1_0)]), (vI x2)] w0 (Q35 w0 B pa1_0 pn1_0 pc1_0 S1_0 res) := by
 unfold M_laws_markDescription at hm
 refine goF func13 z z (lb z) fun fn hr => Ws (E z (fb z) ?_)
 rintro _ w11 ⟨rfl, h12⟩
 have h10 := h12.below
 have h14 : Blk w11 w0.heap.size [(sl pa1_0 pn1_0 pc1_0)] := h12.blk
 refine Ra z (Wn (Ws (R z (fd f_31_0 z) (R z (l1 g_29 z fid (h14.at z)) (Rm z ?_)))))
 obtain ⟨r1g, r1h, e15, hm16⟩ := bd2S hm
 refine E z (fc call37 z (W_laws_markRuleS (B := B) e15 (lt_ hBw h10.size) (p1_0.ext h10) p1_0n p1_0g p2_0)) ?_
 rintro _ w17 ⟨s18, S13, rfl, h19, h1a, h1b, h1c⟩
 refine Ra z (Wn (Ws (Rm z (Ra z (Wn ?_)))))
 obtain rfl := som hm16
 have h1d : Chg (· ∈ S1_0) w0 w11 := cext (cr S1_0 w0) h10
 have h1e : Chg (· ∈ S1_0) w0 w17 := cM h1d s18 (io sr)
 have h1f : ∀ k ∈ S13, k ∈ S1_0 ∨ w0.heap.size ≤ k := or1 h1c (io sr) (leor h10.size)
 exact Wr (ret1 hr z ⟨h1e, S13, z, h19, h1a, h1b, h1f⟩)
theorem W_laws_heldByteS {x1 : List UInt8} {x2 : Int} {res : Int} (hm : M_laws_heldByteS x1 x2 = some res) (hBw : B ≤ w0.heap.size) (p1_0 : repS w0 B (sl pa1_0 pn1_0 pc1_0) x1) (p2_0 : inI x2) : CallsR prog 15 [(sl pa1_0 pn1_0 pc1_0), (vI x2)] w0 (Q0 w0 B res) := by
 unfold M_laws_heldByteS at hm
 refine goF func15 z z (lb z) fun fn hr => Ws (Ra z (Wn (Wq (Ws (Ra z (Wn ?_))))))
 obtain ⟨u1m, hu1a, hm15⟩ := bdS hm
 refine WC_forN (σ := Int) (ρ := Int) (fun (k12 : Nat) (x10 : Int) a w => Sat 22 [(0, (sl pa1_0 pn1_0 pc1_0)), (1, (vI x10)), (5, (vI ((k12 : Nat) : Int)))] a ∧ Below w0.heap.size w0 w ∧ inI x10) (fun (x10 : Int) a w => Sat 22 [(1, (vI x10))] a ∧ Below w0.heap.size w0 w ∧ inI x10) (fun r ex a w => ex = .ret ∧ RetPost prog fn (Q0 w0 B r) a w) hu1a ?_ ?_ ?_ ?_ ?_
 ·exact fun _ q => ⟨(q.k (s3 z z z)), (br w0), p2_0⟩
 ·rintro k12 x10 a1n w1o o1p hk16 ⟨hS1b, s13, h11⟩ hm1c
  refine Wu (e := [(0, (sl pa1_0 pn1_0 pc1_0)), (1, (vI x10)), (5, (vI ((k12 : Nat) : Int)))]) (N := 22) ?_ hS1b
  refine Wq (Ws (Rm z (Rm z ?_)))
  have h17 := p1_0.ext s13
  refine R z (lnR d_25 z h17) (R z (lss z z) (Wn (Wc z (fun _ => ?_) (fun hc => (nolt hk16 hc).elim))))
  refine Wk (Wq (WC_block (Wq (Ws (Rm z (Rm z ?_))))))
  obtain ⟨x1q, e1d, hm18⟩ := bdS hm1c
  refine RX z (at_ (α := UInt8) d_25 z_5 z z z h17 e1d) ?_
  rintro _ ⟨b1r, o1s, cs1t, rfl, h1e, h1f, h1u⟩
  obtain rfl := UInt8_open h1f
  refine R z (l1 g_5 z fid (h1e.at0 z)) (Rm z (R z (rd_convU d_3 d_5 z) (R z (nq z z) (Wn (Wc z (fun hc14 => ?_) (fun hc14 => ?_))))))
  ·exact Ws (Ra z (Wn (Wr (rtO (QO_retL (som (ifT hm18 hc14)).symm (ret1 hr z ⟨s13, z, (ii z)⟩))))))
  exact Wk (Wg (Rm z (R z (add_ z z) (Ra z (Wn (Wg (Rm z (R z (inc_ hk16 (lt_ (repS.len p1_0) LEN_le) z z) (Ra z (Wl (fun _ q => ⟨iadd x10 1, (som (ifF hm18 hc14)).symm, ⟨(q.k (s3 z z z)), s13, (iA _ _)⟩⟩)))))))))))
 ·rintro x10 a1v w1w ⟨hS1g, s19, h11⟩
  refine Wu (e := [(0, (sl pa1_0 pn1_0 pc1_0)), (1, (vI x10)), (5, (vI ((x1.length : Nat) : Int)))]) (N := 22) ?_ hS1g
  refine Wq (Ws (Rm z (Rm z (R z (lnR d_25 z (p1_0.ext s19)) (R z (lss z z) (Wn (Wc z (fun hc => (noltt hc).elim) (fun _ => ?_))))))))
  exact WC_exit (fun a' ha' => ⟨rfl, ⟨(Sat.weaken ha' (s1 z)), s19, h11⟩⟩)
 ·rintro x10 a1h w1x rfl ⟨hS1y, s1i, h11⟩
  have hm1j := elL hm15
  revert a1h
  refine Wo (Ws (Rm z (Ra z (Wn ?_))))
  obtain rfl := som hm1j
  exact Wr (ret1 hr z ⟨s1i, z, h11⟩)
 rintro r1z ex20 a21 w22 rfl ⟨rfl, hq1k⟩
 have hm1l := elR hm15
 obtain rfl := som hm1l
 exact ⟨hq1k, z⟩
def Q_laws_FnExactLocalEdit (w0 : World) (B : Nat) (r : Bool) (v : Value) (w' : World) : Prop := Bw w0 w' ∧ (fun r1 => (vB r1) = v) r
theorem W_laws_FnExactLocalEdit {x1 : Desc} {x2 : List UInt8} {x3 : Str} {x4 : List UInt8} {res : Bool} (hm : M_laws_FnExactLocalEdit n x1 x2 x3 x4 = some res) (hBw : B ≤ w0.heap.size) (hG : Gl w0 B) (p1_0 : repS w0 B (sl pa1_0 pn1_0 pc1_0) x1.rules) (p2_0 : repS w0 B (sl pa2_0 pn2_0 pc2_0) x2) (p3_0 : x3.b.length ≤ LEN) (p4_0 : repS w0 B (sl pa4_0 pn4_0 pc4_0) x4) : CallsR prog 3 [(.agg #[(sl pa1_0 pn1_0 pc1_0)]), (sl pa2_0 pn2_0 pc2_0), (Str.v x3), (sl pa4_0 pn4_0 pc4_0)] w0 (Q_laws_FnExactLocalEdit w0 B res) := by
 unfold M_laws_FnExactLocalEdit at hm
 refine goF func3 z z (lb z) fun fn hr => Ws (E z (fb z) ?_)
 rintro _ w5o ⟨rfl, h3e⟩
 have h1f := h3e.below
 have h29 : Blk w5o w0.heap.size [(sl pa1_0 pn1_0 pc1_0)] := h3e.blk
 refine Ra z (Wn (Wq (Ws (Rm z ?_))))
 have h3f := p2_0.ext h1f
 refine R z (lnR d_25 z h3f) (R z (rd_gtr z z) (Wn (Wc z (fun hc2p => ?_) (fun hc2p => ?_))))
 ·refine Ws (Ra z (Wn ?_))
  obtain rfl := som (ifT hm hc2p)
  exact Wr (ret1 hr z ⟨h1f, z⟩)
 have hm3g := ifF hm hc2p
 refine Wk (Wq (Ws (Rm z (R z (lnT d_9 z) (R z (rd_gtr z z) (Wn (Wc z (fun hc2q => ?_) (fun hc2q => ?_))))))))
 ·refine Ws (Ra z (Wn ?_))
  obtain rfl := som (ifT hm3g hc2q)
  exact Wr (ret1 hr z ⟨h1f, z⟩)
 have hm3h := ifF hm3g hc2q
 refine Wk (Wq (Ws (Rm z ?_)))
 have h3i := p4_0.ext h1f
 refine R z (lnR d_25 z h3i) (R z (rd_gtr z z) (Wn (Wc z (fun hc2r => ?_) (fun hc2r => ?_))))
 ·refine Ws (Ra z (Wn ?_))
  obtain rfl := som (ifT hm3h hc2r)
  exact Wr (ret1 hr z ⟨h1f, z⟩)
 refine Wk (Ws (Ra z (Wn (Ws (R z (lN (vs := [(sl pa1_0 pn1_0 pc1_0)]) g_24 z_24 z z fid (h29.row 0 1 z)) (Rm z ?_))))))
 have h3j := p1_0.ext h1f
 obtain ⟨r8r, e5p, hm3k⟩ := bdS (ifF hm3h hc2r)
 refine E z (fc call6 z (W_laws_szDescription (B := B) e5p (lt_ hBw h1f.size) h3j (ii z))) ?_
 rintro _ w8s ⟨s1j, rfl, h8t⟩
 refine Ra z (Wn (Wq (Ws (Rm z (R z (lss z z) (Wn (Wc z (fun hc2s => ?_) (fun hc2s => ?_))))))))
 ·refine Ws (Ra z (Wn ?_))
  obtain rfl := som (ifT hm3k hc2s)
  exact Wr (ret1 hr z ⟨(bup h1f s1j), z⟩)
 refine Wk (Ws ?_)
 have h3l := h29.ext s1j
 refine R z (lN (vs := [(sl pa1_0 pn1_0 pc1_0)]) g_24 z_24 z z fid (h3l.row 0 1 z)) ?_
 have h3m := h3j.ext s1j
 have h3n := lt_ h1f.size s1j.size
 obtain ⟨r8u, e5q, hm5r⟩ := bdS (ifF hm3k hc2s)
 refine E z (fc call8 z (W_laws_toDescription (B := B) e5q (lt_ hBw h3n) h3m)) ?_
 rintro _ w8v ⟨s1l, a8w, n8x, c8y, S8z, rfl, h3o, h90, h91⟩
 refine Rm z ?_
 have h3p := (h3f.ext s1j).ext s1l
 have h3q := lt_ h3n s1l.size
 obtain ⟨r92, e5s, hm5t⟩ := bdS hm5r
 refine E z (fc call9 z (W_laws_toByteS (B := B) e5s (lt_ hBw h3q) h3p)) ?_
 rintro _ w93 ⟨s1h, a94, n95, c96, S97, rfl, h3r, h98, h99⟩
 refine Rm z (Rm z ?_)
 have h3s := ((h3i.ext s1j).ext s1l).ext s1h
 have h3t := lt_ h3q s1h.size
 obtain ⟨r9a, e5u, hm5v⟩ := bdS hm5t
 refine E z (fc call9 z (W_laws_toByteS (B := B) e5u (lt_ hBw h3t) h3s)) ?_
 rintro _ w5w ⟨s1e, a9b, n9c, c9d, S9e, rfl, h5x, h9f, h9g⟩
 obtain ⟨r9h, r2c, e5y, hm5z⟩ := bd2S hm5v
 refine E z (fc call7 z (W_spec_LocalEdit (B := w5w.heap.size) e5y lr (repS.mono (ownS_rep ((h3o.ext s1h).ext s1e) (ownS.lt h3o)) (lt_ s1h.size s1e.size)) (repS.mono (ownS_rep (h3r.ext s1e) (ownS.lt h3r)) s1e.size) p3_0 (ownS.rep h5x))) ?_
 rintro _ w9i ⟨s1m, a3u, n3v, c3w, S9j, rfl, h1n, h9k, h9l⟩
 refine Rm z (R z (ext_ z z) (R z (ext_ z z) (Ra z (Ra z (Wn (Ws ?_))))))
 have h3x := (((h3l.ext s1l).ext s1h).ext s1e).ext s1m
 refine R z (lN (vs := [(sl pa1_0 pn1_0 pc1_0)]) g_24 z_24 z z fid (h3x.row 0 1 z)) ?_
 have h3y := (((h3m.ext s1l).ext s1h).ext s1e).ext s1m
 have h20 := lt_ (lt_ h3t s1e.size) s1m.size
 have h3z := lt_ hBw h20
 obtain ⟨r9m, e60, hm61⟩ := bdS hm5z
 refine E z (fc call8 z (W_laws_toDescription (B := B) e60 h3z h3y)) ?_
 rintro _ w40 ⟨s16, a2i, n2j, c2k, S9n, rfl, h26, h62, h1y⟩
 refine E z (fa zero_31) ?_
 rintro _ w63 ⟨rfl, h41⟩
 have h19 := h41.below
 have h64 : Blk w63 w40.heap.size [(sl none 0 0)] := h41.blk
 refine E0 (fs (cur' := [(sl a2i n2j c2k)]) z_31 z z h64 z (lb z) (oA z) z) ?_
 rintro _ w9o ⟨h65, s66⟩
 have h1a := s66.one
 refine Wn (Ws (Rm z ?_))
 have h1t := lt_ h20 s16.size
 have h2l := mem1le (lt_ hBw h1t)
 have h42 := (((((h3p.ext s1h).ext s1e).ext s1m).ext s16).ext h19).chg h1a (lg h2l)
 have h21 := lt_ (lt_ h1t h19.size) h1a.size
 have h43 := lt_ hBw h21
 obtain ⟨r9p, e67, hm68⟩ := bdS hm61
 refine E z (fc call9 z (W_laws_toByteS (B := B) e67 h43 h42)) ?_
 rintro _ w9q ⟨s17, a69, n6a, c6b, S9r, rfl, h2a, h6c, h1w⟩
 refine Ra z (Wn (Ws (Rm z ?_)))
 have h44 := (((((h3s.ext s1e).ext s1m).ext s16).ext h19).chg h1a (lg h2l)).ext s17
 have h22 := lt_ h21 s17.size
 have h45 := lt_ hBw h22
 obtain ⟨r9s, e6d, hm6e⟩ := bdS hm68
 refine E z (fc call9 z (W_laws_toByteS (B := B) e6d h45 h44)) ?_
 rintro _ w6f ⟨s10, a6g, n6h, c6i, S9t, rfl, h2d, h6j, h1u⟩
 refine Ra z (Wn (Ws ?_))
 have h46 := (h65.ext s17).ext s10
 refine R z (lN (vs := [(sl a2i n2j c2k)]) g_31 z_31 z z fid (h46.row 0 1 z)) (Rm z (Rm z (Rm z ?_)))
 have h47 := (((h26.ext h19).chg h1a (dj_symm (mnr (ownS.lt h26)))).ext s17).ext s10
 have h48 := h2a.ext s10
 have h49 := lt_ h19.size h1a.size
 have h4a := lt_ h49 s17.size
 have h2m := lt_ h4a s10.size
 have h4b := ((((((((((hG.ext h1f).ext s1j).ext s1l).ext s1h).ext s1e).ext s1m).ext s16).ext h19).chg h1a (lg h2l)).ext s17).ext s10
 have h27 := lt_ h22 s10.size
 have h4c := lt_ hBw h27
 obtain ⟨r9u, r2t, e6k, hm6l⟩ := bd2S hm6e
 refine E z (fc call10 z (W_impl_LocalEdit (B := w6f.heap.size) e6k lr (h4b.mono h4c) (repS.mono (ownS_rep h47 (ownS.lt h26)) h2m) (repS.mono (ownS_rep h48 (ownS.lt h2a)) s10.size) p3_0 (ownS.rep h2d))) ?_
 rintro _ w2n ⟨s11, a2u, n2v, c2w, S9v, rfl, h2o, h6m, h1q⟩
 refine Rm z (R z (ext_ z z) (R z (ext_ z z) (Ra z (Ra z (Wn (Wq (Wq ?_)))))))
 obtain ⟨u6n, hu6o, hm4d⟩ := bdS hm6l
 refine WC_cut (fun a w => ∃ (x2x : Bool), x2x = u6n ∧ Sat 146 [(1, (sl pa2_0 pn2_0 pc2_0)), (2, (Str.v x3)), (3, (sl pa4_0 pn4_0 pc4_0)), (4, (pt w0.heap.size)), (10, (sl a3u n3v c3w)), (11, (vB r2c)), (12, (pt w40.heap.size)), (13, (sl a69 n6a c6b)), (14, (sl a6g n6h c6i)), (15, (sl a2u n2v c2w)), (16, (vB r2t)), (69, (vB x2x))] a ∧ Below w2n.heap.size w2n w) ?_ ?_
 ·refine Wg (Rm z (Rm z ?_))
  obtain ⟨r6p, e6q, hm4e⟩ := bdS hu6o
  refine E z (fc call11 z (W_laws_eqByteS (B := w2n.heap.size) e6q lr (ownS.rep h2o) (repS.mono (ownS_rep ((((((h1n.ext s16).ext h19).chg h1a (dj_symm (mno (ownS.lt h1n) s16.size))).ext s17).ext s10).ext s11) (ownS.lt h1n)) (lt_ (lt_ (lt_ (lt_ (lt_ s16.size h19.size) h1a.size) s17.size) s10.size) s11.size)))) ?_
  rintro _ w9w ⟨s4f, rfl⟩
  refine R z (not_ z) (Rm z ?_)
  rcases bs (!r6p) with hc23 | hc23
  ·iterate 3 refine Nh z hc23 ?_
   exact R z (pT z hc23 z) (Wl (fun _ q => ⟨true, som (ifT hm4e hc23), (q.k (sc z (sc z (sc z (sc z (sc z (sc z (sc z (sc z (sc z (sc z (sc z (sc z sn))))))))))))), s4f⟩))
  exact Rh z hc23 (mv z) (Rh z hc23 (mv z) (Rh z hc23 (rd_neqB d_4 z z) (R z (pF z hc23 z) (Wl (fun _ q => ⟨r2t != r2c, som (ifF hm4e hc23), (q.k (sc z (sc z (sc z (sc z (sc z (sc z (sc z (sc z (sc z (sc z (sc z (sc z sn))))))))))))), s4f⟩)))))
 rintro a6r w9x ⟨x2x, rfl, hS9y, s12⟩
 revert a6r
 refine Wo (Wc z (fun hc2y => ?_) (fun hc2y => ?_))
 ·refine Ws (Ra z (Wn ?_))
  obtain rfl := som (ifT hm4d hc2y)
  exact Wr (ret1 hr z ⟨(bup (bup (bup (bup (bM (bup (bup (bup (bup (bup (bup (bup h1f s1j) s1l) s1h) s1e) s1m) s16) h19) h1a (mem1le h1t)) s17) s10) s11) s12), z⟩)
 refine Wk (Wq (Wq (WC_draw (X := noX) 0 (.rd 0 (.rd 1 (.ef 2 (.ef 3 (.rd 4 .done))))) mo (by kernel_rfl) fun w9z s13 _ => ?_)))
 have h4g := ((h46.ext s11).ext s12).ext s13
 refine dR z z (lN (vs := [(sl a2i n2j c2k)]) g_31 z_31 z z fid (h4g.row 0 1 z)) ?_
 have h4h := lt_ (lt_ (lt_ (lt_ s1j.size s1l.size) s1h.size) s1e.size) s1m.size
 have h4i := lt_ h4h s16.size
 have h4j := (((((((h3x.ext s16).ext h19).chg h1a (djs (mm1 h29.lt h4i))).ext s17).ext s10).ext s11).ext s12).ext s13
 refine dR z z (lN (vs := [(sl pa1_0 pn1_0 pc1_0)]) g_24 z_24 z z fid (h4j.row 0 1 z)) ?_
 have h4k := (((((((h3y.ext s16).ext h19).chg h1a (lg h2l)).ext s17).ext s10).ext s11).ext s12).ext s13
 have h4l := lt_ (lt_ (lt_ h27 s11.size) s12.size) s13.size
 obtain ⟨r100, e6s, hm6t⟩ := bdS (ifF hm4d hc2y)
 refine dE z z (fc call8 z (W_laws_toDescription (B := B) e6s (lt_ hBw h4l) h4k)) (.inr fun _ _ h => chgB (h.1)) ?_
 rintro _ w6u ⟨s14, a101, n102, c103, S104, rfl, h6v, h105, h106⟩
 have h4m := (((h47.ext s11).ext s12).ext s13).ext s14
 obtain ⟨r107, e6w, hm4n⟩ := bdS hm6t
 refine dE z z (fc call12 z (W_laws_eqDescription (B := w6u.heap.size) e6w lr (repS.mono (ownS_rep h4m (ownS.lt h26)) (lt_ (lt_ (lt_ (lt_ h2m s11.size) s12.size) s13.size) s14.size)) (ownS.rep h6v))) (.inr fun _ _ h => chgB (h.1)) ?_
 rintro _ w108 ⟨s15, rfl⟩
 refine dR z z (not_ z) (PR_done (Wo (Wc z (fun hc2z => ?_) (fun hc2z => ?_))))
 ·refine Ws (Ra z (Wn ?_))
  obtain rfl := som (ifT hm4n hc2z)
  exact Wr (ret1 hr z ⟨(bup (bup (bup (bup (bup (bup (bup (bM (bup (bup (bup (bup (bup (bup (bup h1f s1j) s1l) s1h) s1e) s1m) s16) h19) h1a (mem1le h1t)) s17) s10) s11) s12) s13) s14) s15), z⟩)
 refine Wk (Wq (Ws (Rm z (Rm z ?_))))
 have h4o := ((((((h42.ext s17).ext s10).ext s11).ext s12).ext s13).ext s14).ext s15
 have h4p := lt_ (lt_ h4l s14.size) s15.size
 obtain ⟨r109, e6x, hm6y⟩ := bdS (ifF hm4n hc2z)
 refine E z (fc call9 z (W_laws_toByteS (B := B) e6x (lt_ hBw h4p) h4o)) ?_
 rintro _ w6z ⟨s18, a10a, n10b, c10c, S10d, rfl, h70, h10e, h10f⟩
 have h4q := (((((h48.ext s11).ext s12).ext s13).ext s14).ext s15).ext s18
 obtain ⟨r10g, e71, hm4r⟩ := bdS hm6y
 refine E z (fc call11 z (W_laws_eqByteS (B := w6z.heap.size) e71 lr (repS.mono (ownS_rep h4q (ownS.lt h2a)) (lt_ (lt_ (lt_ (lt_ (lt_ (lt_ s10.size s11.size) s12.size) s13.size) s14.size) s15.size) s18.size)) (ownS.rep h70))) ?_
 rintro _ w10h ⟨s1b, rfl⟩
 refine R z (not_ z) (Wn (Wc z (fun hc30 => ?_) (fun hc30 => ?_)))
 ·refine Ws (Ra z (Wn ?_))
  obtain rfl := som (ifT hm4r hc30)
  have h72 := bup (bup (bup (bup (bup (bup (bup (bup (bup (bM (bup (bup (bup (bup (bup (bup (bup h1f s1j) s1l) s1h) s1e) s1m) s16) h19) h1a (mem1le h1t)) s17) s10) s11) s12) s13) s14) s15) s18) s1b
  exact Wr (ret1 hr z ⟨h72, z⟩)
 refine Wk (Wq (Ws (Rm z (Rm z ?_))))
 have h4s := (((((((h44.ext s10).ext s11).ext s12).ext s13).ext s14).ext s15).ext s18).ext s1b
 have h4t := lt_ (lt_ h4p s18.size) s1b.size
 obtain ⟨r10i, e73, hm74⟩ := bdS (ifF hm4r hc30)
 refine E z (fc call9 z (W_laws_toByteS (B := B) e73 (lt_ hBw h4t) h4s)) ?_
 rintro _ w75 ⟨s1c, a10j, n10k, c10l, S10m, rfl, h76, h10n, h10o⟩
 have h4u := (((((((h2d.ext s11).ext s12).ext s13).ext s14).ext s15).ext s18).ext s1b).ext s1c
 obtain ⟨r10p, e77, hm4v⟩ := bdS hm74
 refine E z (fc call11 z (W_laws_eqByteS (B := w75.heap.size) e77 lr (repS.mono (ownS_rep h4u (ownS.lt h2d)) (lt_ (lt_ (lt_ (lt_ (lt_ (lt_ (lt_ s11.size s12.size) s13.size) s14.size) s15.size) s18.size) s1b.size) s1c.size)) (ownS.rep h76))) ?_
 rintro _ w10q ⟨s1d, rfl⟩
 refine R z (not_ z) (Wn (Wc z (fun hc31 => ?_) (fun hc31 => ?_)))
 ·refine Ws (Ra z (Wn ?_))
  obtain rfl := som (ifT hm4v hc31)
  have h78 := bup (bup (bup (bup (bup (bup (bup (bup (bup (bM (bup (bup (bup (bup (bup (bup (bup h1f s1j) s1l) s1h) s1e) s1m) s16) h19) h1a (mem1le h1t)) s17) s10) s11) s12) s13) s14) s15) s18) s1b
  exact Wr (ret1 hr z ⟨(bup (bup h78 s1c) s1d), z⟩)
 refine Wk (Ws (Ra z (Wn (Ws (R z (lN (vs := [(sl a2i n2j c2k)]) g_31 z_31 z z fid (((((((h4g.ext s14).ext s15).ext s18).ext s1b).ext s1c).ext s1d).row 0 1 z)) (Rm z ?_))))))
 have h2e := o0le h1y h3z
 have h4w := lt_ (lt_ h4t s1c.size) s1d.size
 obtain ⟨r10r, r10s, e79, hm7a⟩ := bd2S (ifF hm4v hc31)
 refine E z (fc call13 z (W_laws_markDescription (B := B) e79 (lt_ hBw h4w) (((((h4m.ext s15).ext s18).ext s1b).ext s1c).ext s1d) h62 h2e (ii z))) ?_
 rintro _ w10t ⟨s1g, S10u, rfl, h7b, h10v, h10w, h10x⟩
 refine Ra z (Wn (Ws (Rm z (Rm z ?_))))
 have h2f := o0le h1w h43
 have h4x := lt_ h4w s1g.size
 obtain ⟨r10y, r10z, e7c, hm7d⟩ := bd2S hm7a
 refine E z (fc call14 z (W_laws_markByteS (B := B) e7c (lt_ hBw h4x) ((((h4q.ext s1b).ext s1c).ext s1d).chg s1g (o0no h1w (ownS.lt h26) h49)) h6c h2f h7b)) ?_
 rintro _ w110 ⟨s1i, S111, rfl, h7e, h112, h113, h114⟩
 refine Ra z (Wn (Ws (Rm z (Rm z ?_))))
 have h2g := o0le h1u h45
 have h4y := lt_ h4x s1i.size
 obtain ⟨r7f, r115, e7g, hm7h⟩ := bd2S hm7d
 refine E z (fc call14 z (W_laws_markByteS (B := B) e7g (lt_ hBw h4y) (((h4u.ext s1d).chg s1g (o0no h1u (ownS.lt h26) h4a)).chg s1i (o0no h1u (ownS.lt h2a) lr)) h6j h2g h7e)) ?_
 rintro _ w32 ⟨s1k, S116, rfl, h117, h118, h119, h11a⟩
 refine Ra z (Wn (Wq (Wq ?_)))
 obtain ⟨u7i, hu4z, hm50⟩ := bdS hm7h
 refine WC_cut (fun a w => ∃ (x33 : Bool), x33 = u7i ∧ Sat 146 [(1, (sl pa2_0 pn2_0 pc2_0)), (2, (Str.v x3)), (3, (sl pa4_0 pn4_0 pc4_0)), (4, (pt w0.heap.size)), (10, (sl a3u n3v c3w)), (11, (vB r2c)), (15, (sl a2u n2v c2w)), (106, (vB x33))] a ∧ Below w32.heap.size w32 w) ?_ ?_
 ·refine Wg (Rm z (R z (lss z z) (Rm z ?_)))
  rcases bs (decide (r7f < 0)) with hc1z | hc1z
  ·iterate 4 refine Nh z hc1z ?_
   exact R z (pT z hc1z z) (Rm z (Nh z z (Nh z z (Nh z z (R z (pT z z z) (Wl (fun _ q => ⟨true, som (ifT hu4z hc1z), (q.k (s8 z z z z z z z z)), (br w32)⟩)))))))
  refine Rh z hc1z (mv z) (Rh z hc1z (mv z) ?_)
  have h7j := ((((((((((h2o.ext s12).ext s13).ext s14).ext s15).ext s18).ext s1b).ext s1c).ext s1d).chg s1g (o0no h1q (ownS.lt h26) h2m)).chg s1i (o0no h1q (ownS.lt h2a) s10.size)).chg s1k (o0no h1q (ownS.lt h2d) lr)
  have h7k := ((((((((((((((h1n.ext s16).ext h19).chg h1a (dj_symm (mno (ownS.lt h1n) s16.size))).ext s17).ext s10).ext s11).ext s12).ext s13).ext s14).ext s15).ext s18).ext s1b).ext s1c).ext s1d).chg s1g (dj_symm (o0no h1y (ownS.lt h1n) lr))
  have h51 := lt_ (lt_ s16.size h19.size) h1a.size
  have h52 := lt_ h51 s17.size
  obtain ⟨r7l, e7m, hm53⟩ := bdS (ifF hu4z hc1z)
  refine Eg z z hc1z z (fc call11 z (W_laws_eqByteS (B := w2n.heap.size) e7m (lt_ (lt_ (lt_ (lt_ (lt_ (lt_ (lt_ (lt_ (lt_ (lt_ s12.size s13.size) s14.size) s15.size) s18.size) s1b.size) s1c.size) s1d.size) s1g.size) s1i.size) s1k.size) (ownS_rep h7j (ownS.lt h2o)) (repS.mono (ownS_rep ((h7k.chg s1i (dj_symm (o0no h1w (ownS.lt h1n) h51))).chg s1k (dj_symm (o0no h1u (ownS.lt h1n) h52))) (ownS.lt h1n)) (lt_ (lt_ h52 s10.size) s11.size)))) ?_
  rintro _ w11b ⟨s54, rfl⟩
  refine Rh z hc1z (not_ z) (R z (pF z hc1z z) (Rm z ?_))
  rcases bs (!r7l) with hc24 | hc24
  ·iterate 3 refine Nh z hc24 ?_
   exact R z (pT z hc24 z) (Wl (fun _ q => ⟨true, som (ifT hm53 hc24), (q.k (s8 z z z z z z z z)), s54⟩))
  exact Rh z hc24 (mv z) (Rh z hc24 (mv z) (Rh z hc24 (rd_neqB d_4 z z) (R z (pF z hc24 z) (Wl (fun _ q => ⟨r2t != r2c, som (ifF hm53 hc24), (q.k (s8 z z z z z z z z)), s54⟩)))))
 rintro a7n w11c ⟨x33, rfl, hS11d, s1o⟩
 revert a7n
 refine Wo (Wc z (fun hc34 => ?_) (fun hc34 => ?_))
 ·refine Ws (Ra z (Wn ?_))
  obtain rfl := som (ifT hm50 hc34)
  have h7o := bup (bup (bup (bup (bup (bup (bup (bup (bup (bM (bup (bup (bup (bup (bup (bup (bup h1f s1j) s1l) s1h) s1e) s1m) s16) h19) h1a (mem1le h1t)) s17) s10) s11) s12) s13) s14) s15) s18) s1b
  exact Wr (ret1 hr z ⟨(bup (bM (bM (bM (bup (bup h7o s1c) s1d) s1g (o0le h1y h20)) s1i (o0le h1w h21)) s1k (o0le h1u h22)) s1o), z⟩)
 refine Wk (Ws (Ra z (Wn (Ws (Rm z (Rm z ?_))))))
 have h7p := ((((((((((h2o.ext s12).ext s13).ext s14).ext s15).ext s18).ext s1b).ext s1c).ext s1d).chg s1g (o0no h1q (ownS.lt h26) h2m)).chg s1i (o0no h1q (ownS.lt h2a) s10.size)).chg s1k (o0no h1q (ownS.lt h2d) lr)
 have h2h := o0le h1q h4c
 have h55 := lt_ (lt_ h4y s1k.size) s1o.size
 obtain ⟨r7q, r11e, e7r, hm7s⟩ := bd2S (ifF hm50 hc34)
 refine E z (fc call14 z (W_laws_markByteS (B := B) e7r (lt_ hBw h55) (h7p.ext s1o) h6m h2h (ii z))) ?_
 rintro _ w56 ⟨s1r, S11f, rfl, h11g, h35, h11h, h11i⟩
 refine Ra z (Wn (Ws (Ra z (Wn (Ws (Rm z (Rm z ?_)))))))
 obtain ⟨r11j, e7t, hm57⟩ := bdS hm7s
 refine E z (fc call15 z (W_laws_heldByteS (B := w56.heap.size) e7t lr (ownS.rep h35) (ii z))) ?_
 rintro _ w11k ⟨s1p, rfl, h11l⟩
 refine Ra z (Wn (Wq (Ws (Rm z (R z (lss z z) (Wn (Wc z (fun hc36 => ?_) (fun hc36 => ?_))))))))
 ·refine Ws (Ra z (Wn ?_))
  obtain rfl := som (ifT hm57 hc36)
  have h7u := bup (bup (bup (bup (bup (bup (bup (bup (bup (bM (bup (bup (bup (bup (bup (bup (bup h1f s1j) s1l) s1h) s1e) s1m) s16) h19) h1a (mem1le h1t)) s17) s10) s11) s12) s13) s14) s15) s18) s1b
  exact Wr (ret1 hr z ⟨(bup (bM (bup (bM (bM (bM (bup (bup h7u s1c) s1d) s1g (o0le h1y h20)) s1i (o0le h1w h21)) s1k (o0le h1u h22)) s1o) s1r (o0le h1q h27)) s1p), z⟩)
 have hm58 := ifF hm57 hc36
 refine Wk (Wq (Ws (Rm z (Rm z (R z (nq z z) (Wn (Wc z (fun hc37 => ?_) (fun hc37 => ?_))))))))
 ·refine Ws (Ra z (Wn ?_))
  obtain rfl := som (ifT hm58 hc37)
  have h7v := bup (bup (bup (bup (bup (bup (bup (bup (bup (bM (bup (bup (bup (bup (bup (bup (bup h1f s1j) s1l) s1h) s1e) s1m) s16) h19) h1a (mem1le h1t)) s17) s10) s11) s12) s13) s14) s15) s18) s1b
  exact Wr (ret1 hr z ⟨(bup (bM (bup (bM (bM (bM (bup (bup h7v s1c) s1d) s1g (o0le h1y h20)) s1i (o0le h1w h21)) s1k (o0le h1u h22)) s1o) s1r (o0le h1q h27)) s1p), z⟩)
 refine Wk (Ws ?_)
 have h59 := lt_ (lt_ h4i h19.size) h1a.size
 have h7w := (((((((h4j.ext s14).ext s15).ext s18).ext s1b).ext s1c).ext s1d).chg s1g (djs (o0n1 h1y h29.lt h4h))).chg s1i (djs (o0n1 h1w h29.lt h59))
 have h5a := lt_ h59 s17.size
 refine R z (lN (vs := [(sl pa1_0 pn1_0 pc1_0)]) g_24 z_24 z z fid (((((h7w.chg s1k (djs (o0n1 h1u h29.lt h5a))).ext s1o).chg s1r (djs (o0n1 h1q h29.lt (lt_ h5a s10.size)))).ext s1p).row 0 1 z)) ?_
 have h5b := lt_ (lt_ h55 s1r.size) s1p.size
 obtain ⟨r11m, e7x, hm7y⟩ := bdS (ifF hm58 hc37)
 refine E z (fc call8 z (W_laws_toDescription (B := B) e7x (lt_ hBw h5b) ((((((((((((h4k.ext s14).ext s15).ext s18).ext s1b).ext s1c).ext s1d).chg s1g (lg h2e)).chg s1i (lg h2f)).chg s1k (lg h2g)).ext s1o).chg s1r (lg h2h)).ext s1p))) ?_
 rintro _ w11n ⟨s1x, a11o, n11p, c11q, S11r, rfl, h5c, h11s, h11t⟩
 refine Rm z ?_
 have h5d := lt_ h5b s1x.size
 obtain ⟨r11u, e7z, hm80⟩ := bdS hm7y
 refine E z (fc call9 z (W_laws_toByteS (B := B) e7z (lt_ hBw h5d) (((((((((((h4o.ext s18).ext s1b).ext s1c).ext s1d).chg s1g (lg h2e)).chg s1i (lg h2f)).chg s1k (lg h2g)).ext s1o).chg s1r (lg h2h)).ext s1p).ext s1x))) ?_
 rintro _ w11v ⟨s1v, a11w, n11x, c11y, S11z, rfl, h5e, h120, h121⟩
 refine Rm z (Rm z ?_)
 have h5f := lt_ h5d s1v.size
 obtain ⟨r122, e81, hm82⟩ := bdS hm80
 refine E z (fc call9 z (W_laws_toByteS (B := B) e81 (lt_ hBw h5f) ((((((((((h4s.ext s1c).ext s1d).chg s1g (lg h2e)).chg s1i (lg h2f)).chg s1k (lg h2g)).ext s1o).chg s1r (lg h2h)).ext s1p).ext s1x).ext s1v))) ?_
 rintro _ w83 ⟨s1s, a123, n124, c125, S126, rfl, h84, h127, h128⟩
 have h85 := (((((((((((((h4b.ext s11).ext s12).ext s13).ext s14).ext s15).ext s18).ext s1b).ext s1c).ext s1d).chg s1g (lg h2e)).chg s1i (lg h2f)).chg s1k (lg h2g)).ext s1o).chg s1r (lg h2h)
 obtain ⟨r129, r86, e87, hm88⟩ := bd2S hm82
 refine E z (fc call10 z (W_impl_LocalEdit (B := w83.heap.size) e87 lr (((((h85.ext s1p).ext s1x).ext s1v).ext s1s).mono (lt_ hBw (lt_ h5f s1s.size))) (repS.mono (ownS_rep ((h5c.ext s1v).ext s1s) (ownS.lt h5c)) (lt_ s1v.size s1s.size)) (repS.mono (ownS_rep (h5e.ext s1s) (ownS.lt h5e)) s1s.size) p3_0 (ownS.rep h84))) ?_
 rintro _ w38 ⟨s28, a12a, n12b, c12c, S12d, rfl, h89, h12e, h12f⟩
 refine Rm z (R z (ext_ z z) (R z (ext_ z z) (Ra z (Ra z (Wn (Wq (Wq ?_)))))))
 obtain ⟨u8a, hu8b, hm5g⟩ := bdS hm88
 refine WC_cut (fun a w => ∃ (x39 : Bool), x39 = u8a ∧ Sat 146 [(15, (sl a2u n2v c2w)), (18, (vI r7q)), (137, (vB x39))] a ∧ Below w38.heap.size w38 w) ?_ ?_
 ·refine Wg (Rm z (Rm z ?_))
  have h8c := ((((((((((((((h1n.ext s16).ext h19).chg h1a (dj_symm (mno (ownS.lt h1n) s16.size))).ext s17).ext s10).ext s11).ext s12).ext s13).ext s14).ext s15).ext s18).ext s1b).ext s1c).ext s1d).chg s1g (dj_symm (o0no h1y (ownS.lt h1n) lr))
  have h5h := lt_ (lt_ s16.size h19.size) h1a.size
  have h5i := lt_ h5h s17.size
  have h5j := lt_ h5i s10.size
  have h8d := ((((((h8c.chg s1i (dj_symm (o0no h1w (ownS.lt h1n) h5h))).chg s1k (dj_symm (o0no h1u (ownS.lt h1n) h5i))).ext s1o).chg s1r (dj_symm (o0no h1q (ownS.lt h1n) h5j))).ext s1p).ext s1x).ext s1v
  have h8e := lt_ (lt_ (lt_ (lt_ (lt_ (lt_ (lt_ (lt_ (lt_ (lt_ (lt_ (lt_ (lt_ h5j s11.size) s12.size) s13.size) s14.size) s15.size) s18.size) s1b.size) s1c.size) s1d.size) s1g.size) s1i.size) s1k.size) s1o.size
  obtain ⟨r8f, e8g, hm5k⟩ := bdS hu8b
  refine E z (fc call11 z (W_laws_eqByteS (B := w38.heap.size) e8g lr (ownS.rep h89) (repS.mono (ownS_rep ((h8d.ext s1s).ext s28) (ownS.lt h1n)) (lt_ (lt_ (lt_ (lt_ (lt_ (lt_ h8e s1r.size) s1p.size) s1x.size) s1v.size) s1s.size) s28.size)))) ?_
  rintro _ w12g ⟨s5l, rfl⟩
  refine R z (not_ z) (Rm z ?_)
  rcases bs (!r8f) with hc25 | hc25
  ·iterate 3 refine Nh z hc25 ?_
   exact R z (pT z hc25 z) (Wl (fun _ q => ⟨true, som (ifT hm5k hc25), (q.k (s3 z z z)), s5l⟩))
  exact Rh z hc25 (mv z) (Rh z hc25 (mv z) (Rh z hc25 (rd_neqB d_4 z z) (R z (pF z hc25 z) (Wl (fun _ q => ⟨r86 != r2c, som (ifF hm5k hc25), (q.k (s3 z z z)), s5l⟩)))))
 rintro a8h w12h ⟨x39, rfl, hS12i, s2b⟩
 revert a8h
 refine Wo (Wc z (fun hc3a => ?_) (fun hc3a => ?_))
 ·refine Ws (Ra z (Wn ?_))
  obtain rfl := som (ifT hm5g hc3a)
  have h8i := bup (bup (bup (bup (bup (bup (bup (bup (bup (bM (bup (bup (bup (bup (bup (bup (bup h1f s1j) s1l) s1h) s1e) s1m) s16) h19) h1a (mem1le h1t)) s17) s10) s11) s12) s13) s14) s15) s18) s1b
  have h8j := bup (bup (bup (bup (bM (bup (bM (bM (bM (bup (bup h8i s1c) s1d) s1g (o0le h1y h20)) s1i (o0le h1w h21)) s1k (o0le h1u h22)) s1o) s1r (o0le h1q h27)) s1p) s1x) s1v) s1s
  exact Wr (ret1 hr z ⟨(bup (bup h8j s28) s2b), z⟩)
 refine Wk (Ws (Ra z (Wn (Ws (Rm z (Rm z ?_))))))
 obtain ⟨r12j, e8k, hm5m⟩ := bdS (ifF hm5g hc3a)
 refine E z (fc call15 z (W_laws_heldByteS (B := w56.heap.size) e8k (lt_ (lt_ (lt_ (lt_ (lt_ s1p.size s1x.size) s1v.size) s1s.size) s28.size) s2b.size) (ownS_rep ((((((h35.ext s1p).ext s1x).ext s1v).ext s1s).ext s28).ext s2b) (ownS.lt h35)) (ii z))) ?_
 rintro _ w12k ⟨s3b, rfl, h12l⟩
 refine Ra z (Wn (Wq (Ws (Rm z (R z (lss z z) (Wn (Wc z (fun hc3c => ?_) (fun hc3c => ?_))))))))
 ·refine Ws (Ra z (Wn ?_))
  obtain rfl := som (ifT hm5m hc3c)
  have h8l := bup (bup (bup (bup (bup (bup (bup (bup (bup (bM (bup (bup (bup (bup (bup (bup (bup h1f s1j) s1l) s1h) s1e) s1m) s16) h19) h1a (mem1le h1t)) s17) s10) s11) s12) s13) s14) s15) s18) s1b
  have h8m := bup (bup (bup (bup (bM (bup (bM (bM (bM (bup (bup h8l s1c) s1d) s1g (o0le h1y h20)) s1i (o0le h1w h21)) s1k (o0le h1u h22)) s1o) s1r (o0le h1q h27)) s1p) s1x) s1v) s1s
  exact Wr (ret1 hr z ⟨(bup (bup (bup h8m s28) s2b) s3b), z⟩)
 have hm5n := ifF hm5m hc3c
 refine Wk (Wq (Ws (Rm z (Rm z (R z (nq z z) (Wn (Wc z (fun hc3d => ?_) (fun hc3d => ?_))))))))
 ·refine Ws (Ra z (Wn ?_))
  obtain rfl := som (ifT hm5n hc3d)
  have h8n := bup (bup (bup (bup (bup (bup (bup (bup (bup (bM (bup (bup (bup (bup (bup (bup (bup h1f s1j) s1l) s1h) s1e) s1m) s16) h19) h1a (mem1le h1t)) s17) s10) s11) s12) s13) s14) s15) s18) s1b
  have h8o := bup (bup (bup (bup (bM (bup (bM (bM (bM (bup (bup h8n s1c) s1d) s1g (o0le h1y h20)) s1i (o0le h1w h21)) s1k (o0le h1u h22)) s1o) s1r (o0le h1q h27)) s1p) s1x) s1v) s1s
  exact Wr (ret1 hr z ⟨(bup (bup (bup h8o s28) s2b) s3b), z⟩)
 refine Wk (Ws (Ra z (Wn ?_)))
 obtain rfl := som (ifF hm5n hc3d)
 have h8p := bup (bup (bup (bup (bup (bup (bup (bup (bup (bM (bup (bup (bup (bup (bup (bup (bup h1f s1j) s1l) s1h) s1e) s1m) s16) h19) h1a (mem1le h1t)) s17) s10) s11) s12) s13) s14) s15) s18) s1b
 have h8q := bup (bup (bup (bup (bM (bup (bM (bM (bM (bup (bup h8p s1c) s1d) s1g (o0le h1y h20)) s1i (o0le h1w h21)) s1k (o0le h1u h22)) s1o) s1r (o0le h1q h27)) s1p) s1x) s1v) s1s
 exact Wr (ret1 hr z ⟨(bup (bup (bup h8q s28) s2b) s3b), z⟩)
end Go.Vw

