import Derived.Test.YteefdabnmfpogaaGreatDoorVwTW1
set_option linter.unusedVariables false
namespace Go.Vw
open Go.RowKit Dat Go.Proofs
open Go.Proofs.Tryz
open Go.Vw renaming WC_seq → Wq, WC_region → Wg, WC.of_KC → Wo, WL_nil → Wl, WC_cond → Wc, WC_ret → Wr, WC_run → Wu, rd_pickT → pT, rd_pickF → pF, rd_field → fd, rd_load1 → l1, rd_loadN → lN, rd_move → mv, rd_assign → asg, rd_lenR → lnR, rd_lss → lss, rd_eql → eql, rd_extract → ext_, rd_buildP → bP, rd_add → add_, rd_inc → inc_, rd_not → not_, rd_at → at_, ef_call → fc, ef_store → fs, ef_box → fb, ef_alloc → fa, sub_refl → sr, crefl → cr, cchgM → cM, bchgM → bM, inI_sub → iS, inI_add → iA, brefl → br, oneAll → oA, bsplit → bs, ltge → lg, inor → io, rd_neq → nq, rd_lenT → lnT, rd_sub → sb_
variable {pa1_0 : Option Addr} {pn1_0 pc1_0 : Nat} {B : Nat} {w0 : World} {pa1_4 : Option Addr} {pa1_5 : Option Addr} {pa1_6 : Option Addr} {pa1_7 : Option Addr} {pn1_4 pc1_4 : Nat} {pn1_5 pc1_5 : Nat} {pn1_6 pc1_6 : Nat} {pn1_7 pc1_7 : Nat} {pa2_4 : Option Addr} {pa2_5 : Option Addr} {pa2_6 : Option Addr} {pa2_7 : Option Addr} {pn2_4 pc2_4 : Nat} {pn2_5 pc2_5 : Nat} {pn2_6 pc2_6 : Nat} {pn2_7 pc2_7 : Nat} {pa3_0 : Option Addr} {pn3_0 pc3_0 : Nat} {pa2_0 : Option Addr} {pn2_0 pc2_0 : Nat} {n : Nat} {pa1_1 : Option Addr} {pn1_1 pc1_1 : Nat} {pa3_1 : Option Addr} {pa3_2 : Option Addr} {pn3_1 pc3_1 : Nat} {pn3_2 pc3_2 : Nat}
theorem W_spec_IsStep {x1 : Str} {res : Bool} (hm : M_spec_IsStep n x1 = some res) (hBw : B ≤ w0.heap.size) (p1_0 : x1.b.length ≤ LEN) : CallsR prog 84 [(Str.v x1)] w0 (Q_spec_IsStep w0 B res) := by
 unfold M_spec_IsStep at hm
 obtain ⟨fn, hf, hb, hN, hr⟩ := fnE func84
 refine goW hf (hb.trans z) (hN.trans z) (lb z) (Ws (Ra z (Wn (Wq (Wq ?_)))))
 obtain ⟨u1g, hu1h, hm1a⟩ := bdS hm
 refine WC_cut (fun a w => ∃ (x16 : Bool), x16 = u1g ∧ Sat 31 [(0, (Str.v x1)), (18, (vB x16))] a ∧ Below w0.heap.size w0 w) ?_ ?_
 ·refine Wg (Rm z ?_)
  obtain ⟨r1i, e1j, hm1b⟩ := bdS hu1h
  refine E z (fc call122 z (W_spec_IsName (B := B) e1j hBw p1_0)) ?_
  rintro _ w1x ⟨s14, rfl⟩
  refine Rm z ?_
  rcases bs r1i with hc11 | hc11
  ·exact Nh z hc11 (Nh z hc11 (R z (pT z hc11 z) (Rm z (Nh z z (Nh z z (R z (pT z z z) (Rm z (Nh z z (Nh z z (R z (pT z z z) (Wl (fun _ q => ⟨true, som (ifT hm1b hc11), (q.k (s2 z z)), s14⟩))))))))))))
  have hm1c := ifF hm1b hc11
  refine Rh z hc11 (mv z) (Rh z hc11 (rd_eqlT z z) (R z (pF z hc11 z) (Rm z ?_)))
  rcases bs (x1.b == (⟨[42]⟩ : Str).b) with hc12 | hc12
  ·exact Nh z hc12 (Nh z hc12 (R z (pT z hc12 z) (Rm z (Nh z z (Nh z z (R z (pT z z z) (Wl (fun _ q => ⟨true, som (ifT hm1c hc12), (q.k (s2 z z)), s14⟩))))))))
  have hm1d := ifF hm1c hc12
  refine Rh z hc12 (mv z) (Rh z hc12 (rd_eqlT z z) (R z (pF z hc12 z) (Rm z ?_)))
  rcases bs (x1.b == (⟨[63]⟩ : Str).b) with hc13 | hc13
  ·exact Nh z hc13 (Nh z hc13 (R z (pT z hc13 z) (Wl (fun _ q => ⟨true, som (ifT hm1d hc13), (q.k (s2 z z)), s14⟩))))
  exact Rh z hc13 (mv z) (Rh z hc13 (rd_eqlT z z) (R z (pF z hc13 z) (Wl (fun _ q => ⟨x1.b == (⟨[43]⟩ : Str).b, som (ifF hm1d hc13), (q.k (s2 z z)), s14⟩))))
 rintro a1k w1y ⟨x16, rfl, hS1z, s15⟩
 revert a1k
 refine Wo (Wc z (fun hc17 => ?_) (fun hc17 => ?_))
 ·refine Ws (Ra z (Wn ?_))
  obtain rfl := som (ifT hm1a hc17)
  exact Wr (ret1 hr z ⟨s15, z⟩)
 refine Wk (Ws (Rm z ?_))
 obtain ⟨r20, r1l, e1m, hm1n⟩ := bd2S (ifF hm1a hc17)
 refine E z (fc call123 z (W_spec_ParseInt (B := B) e1m (lt_ hBw s15.size) p1_0)) ?_
 rintro _ w18 ⟨s1e, rfl, h1o⟩
 refine Rm z (R z (ext_ z z) (R z (ext_ z z) (Ra z (Ra z (Wn (Wq ?_))))))
 obtain ⟨u1p, hu1f, hm1q⟩ := bdS hm1n
 refine WC_cut (fun a w => ∃ (x19 : Bool), x19 = u1p ∧ Sat 31 [(2, (vB x19))] a ∧ Below w18.heap.size w18 w) ?_ ?_
 ·refine Wg (Rm z (Rm z ?_))
  rcases bs r1l with hc10 | hc10
  ·refine Rh z hc10 (mv z) ?_
   obtain ⟨r1r, e1s, hm1t⟩ := bdS (ifT hu1f hc10)
   refine Eg z z hc10 z (fc call44 z (W_spec_FormatInt (B := B) e1s (lt_ hBw (lt_ s15.size s1e.size)) h1o)) ?_
   rintro _ w21 ⟨s1u, rfl, h22⟩
   exact Rh z hc10 (mv z) (Rh z hc10 (rd_eqlT z z) (R z (pT z hc10 z) (Ra z (Wl (fun _ q => ⟨r1r.b == x1.b, som hm1t, (q.k (s1 z)), s1u⟩)))))
  iterate 4 refine Nh z hc10 ?_
  exact R z (pF z hc10 z) (Ra z (Wl (fun _ q => ⟨false, som (ifF hu1f hc10), (q.k (s1 z)), (br w18)⟩)))
 rintro a1v w23 ⟨x19, rfl, hS24, s1w⟩
 revert a1v
 refine Wo ?_
 obtain rfl := som hm1q
 exact Wr (ret1 hr z ⟨(bup (bup s15 s1e) s1w), z⟩)
def Q_spec_SplitPath (w0 : World) (B : Nat) (r : (List Str) × Bool) (v : Value) (w' : World) : Prop := Below w0.heap.size w0 w' ∧ un2 (fun r1 r2 => ∃ (a1 : Option Addr) (n1 c1 : Nat), v = .tuple #[(.slice a1 n1 c1), (vB r2)] ∧ repS w' w'.heap.size (.slice a1 n1 c1) r1) r
theorem W_spec_SplitPath {x1 : Str} {res : (List Str) × Bool} (hm : M_spec_SplitPath n x1 = some res) (hBw : B ≤ w0.heap.size) (p1_0 : x1.b.length ≤ LEN) : CallsR prog 51 [(Str.v x1)] w0 (Q_spec_SplitPath w0 B res) := by
 unfold M_spec_SplitPath at hm
 obtain ⟨fn, hf, hb, hN, hr⟩ := fnE func51
 refine goW hf (hb.trans z) (hN.trans z) (lb z) (Ws (Ra z (Ra z (Wn (Wq (Ws (Rm z (R z (rd_eqlT z z) (Wn (Wc z (fun hc15 => ?_) (fun hc15 => ?_)))))))))))
 ·refine Ws (E z (ef_lit0 (α := Str) el_47) ?_)
  rintro _ w2n ⟨a1l, n1m, c1n, rfl, s1o, h1p⟩
  refine Ra z (Ra z (Wn ?_))
  obtain rfl := som (ifT hm hc15)
  exact Wr (ret2 hr z z ⟨s1o, a1l, n1m, c1n, z, (ownS.rep h1p)⟩)
 refine Wk (Ws (Rm z ?_))
 obtain ⟨r2o, e1q, hm1r⟩ := bdS (ifF hm hc15)
 refine E z (fc call83 z (W_spec_SplitText (B := B) e1q hBw p1_0)) ?_
 rintro _ w12 ⟨s14, a16, n17, c18, S2p, rfl, h11, h2q, h2r⟩
 refine Ra z (Wn (Wq (Ws (Rm z ?_))))
 obtain ⟨x2s, e1s, hm1d⟩ := bdS hm1r
 refine RX z (at_ (α := Str) d_47 z_9 z z z (ownS.rep h11) e1s) ?_
 rintro _ ⟨b2t, o2u, cs2v, rfl, h1t, h1u, h2w⟩
 obtain ⟨rfl, h2x⟩ := Str_open h1u
 refine R z (l1 g_9 z fid (h1t.at0 z)) (R z (rd_neqT z z) (Wn (Wc z (fun hc19 => ?_) (fun hc19 => ?_))))
 ·refine Ws (E z (ef_lit0 (α := Str) el_47) ?_)
  rintro _ w2y ⟨a1v, n1w, c1x, rfl, s1y, h1z⟩
  refine Ra z (Ra z (Wn ?_))
  obtain rfl := som (ifT hm1d hc19)
  exact Wr (ret2 hr z z ⟨(bup s14 s1y), a1v, n1w, c1x, z, (ownS.rep h1z)⟩)
 refine Wk (Wq (Ws (Ra z (Wn ?_))))
 obtain ⟨u2z, hu20, hm1e⟩ := bdS (ifF hm1d hc19)
 refine WC_iter (σ := Int) (ρ := (List Str) × Bool) (fun (x10 : Int) a w => Sat 34 [(4, (.slice a16 n17 c18)), (5, (vI x10))] a ∧ Below w12.heap.size w12 w ∧ inI x10) (fun (x10 : Int) a w => Sat 34 [(4, (.slice a16 n17 c18))] a ∧ Below w12.heap.size w12 w ∧ inI x10) (fun r ex a w => ex = .ret ∧ RetPost prog fn (Q_spec_SplitPath w0 B r) a w) hu20 ?_ ?_ ?_ ?_
 ·exact fun _ q => ⟨(q.k (s2 z z)), (br w12), (ii z)⟩
 ·rintro x10 a30 w31 o32 ⟨hS21, s13, h1f⟩ hm1g
  refine Wu (e := [(4, (.slice a16 n17 c18)), (5, (vI x10))]) (N := 34) ?_ hS21
  refine Wq (Ws (Rm z (Rm z ?_)))
  have h1h := h11.ext s13
  refine R z (lnR d_47 z (ownS_rep h1h (ownS.lt h11))) (R z (lss z z) (Wn (Wc z (fun hc1a => ?_) (fun hc1a => ?_))))
  ·refine Wk (Wq (WC_block (Ws (Rm z (Rm z ?_)))))
   obtain ⟨x33, e22, hm23⟩ := bdS (ifT hm1g hc1a)
   refine RX z (at_ (α := Str) d_47 z_9 z z z (ownS_rep h1h (ownS.lt h11)) e22) ?_
   rintro _ ⟨b34, o35, cs36, rfl, h24, h25, h37⟩
   obtain ⟨rfl, h26⟩ := Str_open h25
   refine R z (l1 g_9 z fid (h24.at0 z)) ?_
   obtain ⟨r38, e27, hm1i⟩ := bdS hm23
   refine E z (fc call84 z (W_spec_IsStep (B := B) e27 (lt_ hBw (lt_ s14.size s13.size)) h26)) ?_
   rintro _ w39 ⟨s1j, rfl⟩
   refine R z (not_ z) (Wn (Wc z (fun hc1b => ?_) (fun hc1b => ?_)))
   ·refine Ws (E z (ef_lit0 (α := Str) el_47) ?_)
    rintro _ w3a ⟨a28, n29, c2a, rfl, s2b, h2c⟩
    exact Ra z (Ra z (Wn (Wr (rtO (QO_retL (som (ifT hm1i hc1b)).symm (ret2 hr z z ⟨(bup (bup (bup s14 s13) s1j) s2b), a28, n29, c2a, z, (ownS.rep h2c)⟩))))))
   exact Wk (Wg (Rm z (R z (add_ z z) (Ra z (Wl (fun _ q => ⟨iadd x10 1, (som (ifF hm1i hc1b)).symm, ⟨(q.k (s2 z z)), (bup s13 s1j), (iA _ _)⟩⟩))))))
  exact WC_exit (fun a' ha' => QO_brk (som (ifF hm1g hc1a)).symm ⟨(Sat.weaken ha' (s1 z)), s13, h1f⟩)
 ·rintro x10 a2d w3b rfl ⟨hS3c, s1c, h1f⟩
  have hm2e := elL hm1e
  revert a2d
  refine Wo (Ws (Rm z ?_))
  obtain ⟨x3d, e2f, hm2g⟩ := bdS hm2e
  have h1k := h11.ext s1c
  refine RX z (rd_sliceX d_47 z_9 z z (ownS_rep h1k (ownS.lt h11)) z z e2f) ?_
  rintro _ ⟨a2h, n2i, c2j, rfl, h2k⟩
  refine Rm z (R z (lnR d_47 z (ownS_rep h1k (ownS.lt h11))) (R z (rd_gtr z z) (Ra z (Ra z (Wn ?_)))))
  obtain rfl := som hm2g
  exact Wr (ret2 hr z z ⟨(bup s14 s1c), a2h, n2i, c2j, z, (repS.mono h2k s1c.size)⟩)
 rintro r3e ex3f a3g w3h rfl ⟨rfl, hq2l⟩
 have hm2m := elR hm1e
 obtain rfl := som hm2m
 exact ⟨hq2l, z⟩
def Q_spec_l20Enter (w0 : World) (B : Nat) (r : Int × Int × Int) (v : Value) (w' : World) : Prop := Below w0.heap.size w0 w' ∧ un3 (fun r1 r2 r3 => v = .tuple #[(vI r1), (vI r2), (vI r3)] ∧ inI r1 ∧ inI r2 ∧ inI r3) r
theorem W_spec_l20Enter {x1 : Desc} {x2 : Rule} {x3 : List UInt8} {x4 : Int} {res : Int × Int × Int} (hm : M_spec_l20Enter x1 x2 x3 x4 = some res) (hBw : B ≤ w0.heap.size) (p1_0 : repS w0 B (.slice pa1_0 pn1_0 pc1_0) x1.rules) (p2_0 : x2.name.b.length ≤ LEN) (p2_1 : inI x2.kind) (p2_2 : inI x2.size) (p2_4 : repS w0 B (.slice pa2_4 pn2_4 pc2_4) x2.bytes) (p2_5 : repS w0 B (.slice pa2_5 pn2_5 pc2_5) x2.names) (p2_6 : repS w0 B (.slice pa2_6 pn2_6 pc2_6) x2.tags) (p2_7 : repS w0 B (.slice pa2_7 pn2_7 pc2_7) x2.kids) (p3_0 : repS w0 B (.slice pa3_0 pn3_0 pc3_0) x3) (p4_0 : inI x4) : CallsR prog 87 [(.agg #[(.slice pa1_0 pn1_0 pc1_0)]), (.agg #[(Str.v x2.name), (vI x2.kind), (vI x2.size), (vB x2.little), (.slice pa2_4 pn2_4 pc2_4), (.slice pa2_5 pn2_5 pc2_5), (.slice pa2_6 pn2_6 pc2_6), (.slice pa2_7 pn2_7 pc2_7)]), (.slice pa3_0 pn3_0 pc3_0), (vI x4)] w0 (Q_spec_l20Enter w0 B res) := by
 unfold M_spec_l20Enter at hm
 obtain ⟨fn, hf, hb, hN, hr⟩ := fnE func87
 refine goW hf (hb.trans z) (hN.trans z) (lb z) (Ws (E z (fb z) ?_))
 rintro _ w1b ⟨rfl, h1z⟩
 have h11 := h1z.below
 have h2l : Blk w1b w0.heap.size [(.slice pa1_0 pn1_0 pc1_0)] := h1z.blk
 refine E z (fb z) ?_
 rintro _ w14 ⟨rfl, h20⟩
 have h10 := h20.below
 have h1d : Blk w14 w1b.heap.size [(Str.v x2.name), (vI x2.kind), (vI x2.size), (vB x2.little), (.slice pa2_4 pn2_4 pc2_4), (.slice pa2_5 pn2_5 pc2_5), (.slice pa2_6 pn2_6 pc2_6), (.slice pa2_7 pn2_7 pc2_7)] := h20.blk
 refine Ra z (Ra z (Ra z (Wn (Wq (Ws (R z (fd f_74_1 z) (R z (l1 g_3 z fid (h1d.at z)) (Wn (WC_block (Ws (R z (eql z z) (Ra z (Wn (Wc z (fun hc1e => ?_) (fun hc1e => ?_)))))))))))))))
 ·refine Wq (WC_draw (X := noX) 0 (.rd 0 (.rd 1 (.rd 2 (.rd 3 (.rd 4 (.rd 5 (.rd 6 .done))))))) mo (by kernel_rfl) fun w3u s1f _ => dR z z (mv z) (dR z z (fd f_74_7 z) (dR z z (l1 g_72 z fid ((h1d.ext s1f).at z)) ?_)))
  have h21 := ((p2_7.ext h11).ext h10).ext s1f
  refine dR z z (lnR d_72 z h21) ?_
  iterate 3 refine dR z z (asg z) ?_
  refine PR_done (Wo ?_)
  obtain rfl := som (ifT hm hc1e)
  exact Wr (rtO (ret3 hr z z z ⟨(bup (bup h11 h10) s1f), z, p4_0, (inI_len (repS.len h21)), (ii z)⟩))
 have hm22 := ifF hm hc1e
 refine Ws (R z (eql z z) (Ra z (Wn (Wc z (fun hc1g => ?_) (fun hc1g => ?_)))))
 ·refine Ws (Rm z (Ra z (Ra z (Ra z (Wn ?_)))))
  obtain rfl := som (ifT hm22 hc1g)
  exact Wr (rtO (ret3 hr z z z ⟨(bup h11 h10), z, p4_0, (ii z), (ii z)⟩))
 refine Ws (R z (eql z z) (Ra z (Wn ?_)))
 obtain ⟨u2m, hu23, hm1c⟩ := bdS (ifF hm22 hc1g)
 refine WC_cut (fun a w => Sum.inl () = u2m ∧ Sat 81 [(3, (vI x4))] a ∧ Below w14.heap.size w14 w) ?_ ?_
 ·refine Wc z (fun hc1h => ?_) (fun hc1h => ?_)
  ·refine Wq ?_
   obtain ⟨u2n, hu24, hm25⟩ := bdS (ifT hu23 hc1h)
   refine WC_cut (fun a w => ∃ (x1i : Bool), x1i = u2n ∧ Sat 81 [(3, (vI x4)), (37, (vB x1i))] a ∧ Below w14.heap.size w14 w) ?_ ?_
   ·refine Wg (Rm z (Rm z ?_))
    have h26 := (p3_0.ext h11).ext h10
    refine R z (lnR d_25 z h26) (R z (lss z z) (Rm z ?_))
    rcases bs (decide (x4 < (x3.length : Int))) with hc15 | hc15
    ·refine Rh z hc15 (mv z) (Rh z hc15 (mv z) ?_)
     obtain ⟨x2o, e2p, hm2q⟩ := bdS (ifT hu24 hc15)
     refine RXg z z hc15 z (at_ (α := UInt8) d_25 z_5 z z z h26 e2p) ?_
     rintro _ ⟨b3v, o3w, cs3x, rfl, h2r, h2s, h3y⟩
     obtain rfl := UInt8_open h2s
     exact Rh z hc15 (l1 g_5 z fid (h2r.at0 z)) (Rh z hc15 (eql z z) (R z (pT z hc15 z) (Wl (fun _ q => ⟨(byteI x2o) == (byteI (1 : UInt8)), som hm2q, (q.k (s2 z z)), (br w14)⟩))))
    iterate 5 refine Nh z hc15 ?_
    exact R z (pF z hc15 z) (Wl (fun _ q => ⟨false, som (ifF hu24 hc15), (q.k (s2 z z)), (br w14)⟩))
   rintro a2t w3z ⟨x1i, rfl, hS40, s27⟩
   revert a2t
   refine Wo (Wc z (fun hc1j => ?_) (fun hc1j => ?_))
   ·refine Ws (Rm z (R z (add_ z z) (Ra z (Ra z (Ra z (Wn ?_))))))
    obtain rfl := som (ifT hm25 hc1j)
    have hm2u := elR hm1c
    obtain rfl := som hm2u
    exact Wr (rtO (ret3 hr z z z ⟨(bup (bup h11 h10) s27), z, (iA _ _), (ii z), (ii z)⟩))
   exact WC_skip (fun _ q => ⟨som (ifF hm25 hc1j), (q.k (s1 z)), s27⟩)
  refine Wq (Ws (R z (eql z z) (Ra z (Wn ?_))))
  obtain ⟨u2v, hu28, hm2w⟩ := bdS (ifF hu23 hc1h)
  refine WC_cut (fun a w => ∃ (x1k : Bool), x1k = u2v ∧ Sat 81 [(2, (.slice pa3_0 pn3_0 pc3_0)), (3, (vI x4)), (4, (.pointer (some ⟨w0.heap.size, 0, none⟩))), (5, (.pointer (some ⟨w1b.heap.size, 0, none⟩))), (40, (vB x1k))] a ∧ Below w14.heap.size w14 w) ?_ ?_
  ·refine Wc z (fun hc1l => ?_) (fun hc1l => ?_)
   ·exact WC_skip (fun _ q => ⟨x2.kind == 5, som (ifT hu28 hc1l), (q.k (s5 z z z z z)), (br w14)⟩)
   exact Wg (R z (eql z z) (Ra z (Wl (fun _ q => ⟨x2.kind == 7, som (ifF hu28 hc1l), (q.k (s5 z z z z z)), (br w14)⟩))))
  rintro a2x w1m ⟨x1k, rfl, hS41, s12⟩
  revert a2x
  refine Wo ?_
  obtain ⟨u2y, hu29, hm1n⟩ := bdS hm2w
  refine WC_cut (fun a w => Sum.inl () = u2y ∧ Sat 81 [(3, (vI x4))] a ∧ Below w1m.heap.size w1m w) ?_ ?_
  ·refine Wc z (fun hc1o => ?_) (fun hc1o => ?_)
   ·refine Wq (WC_draw (X := noX) 0 (.rd 0 (.rd 1 (.rd 2 (.rd 3 (.rd 4 (.rd 5 (.rd 6 (.ef 7 (.rd 8 (.rd 9 (.rd 10 (.rd 11 (.rd 12 (.rd 13 (.rd 14 .done))))))))))))))) mo (by kernel_rfl) fun w42 s13 _ => dR z z (lN (vs := [(.slice pa1_0 pn1_0 pc1_0)]) g_31 z_31 z z fid ((((h2l.ext h10).ext s12).ext s13).row 0 1 z)) (dR z z (fd f_74_7 z) ?_))
    have h1p := (h1d.ext s12).ext s13
    refine dR z z (l1 g_72 z fid (h1p.at z)) ?_
    obtain ⟨x43, e2z, hm30⟩ := bdS (ifT hu29 hc1o)
    have h2a := (((p2_7.ext h11).ext h10).ext s12).ext s13
    refine dRX z z (at_ (α := Int) d_72 z_3 z z z h2a e2z) ?_
    rintro _ ⟨b44, o45, cs46, rfl, h31, h32, h47⟩
    obtain ⟨rfl, h33⟩ := Int_open h32
    refine dR z z (l1 g_3 z fid (h31.at0 z)) (dR z z (mv z) (dR z z (mv z) ?_))
    have h2b := lt_ (lt_ (lt_ h11.size h10.size) s12.size) s13.size
    obtain ⟨r1q, r2c, r48, e34, hm35⟩ := bd3S hm30
    refine dE z z (fc call66 z (W_spec_l11Integer (B := B) e34 (lt_ hBw h2b) ((((p1_0.ext h11).ext h10).ext s12).ext s13) h33 ((((p3_0.ext h11).ext h10).ext s12).ext s13) p4_0)) (.inr fun _ _ h => chgB (h.1)) ?_
    rintro _ w1a ⟨s16, rfl, h1r, h2d⟩
    refine dR z z (mv z) ?_
    iterate 3 refine dR z z (ext_ z z) ?_
    iterate 3 refine dR z z (asg z) ?_
    refine PR_done (Wo (WC_block (Ws (Rm z (R z (not_ z) (Ra z (Wn ?_)))))))
    obtain ⟨u36, hu2e, hm1s⟩ := bdS hm35
    refine WC_cut (fun a w => Sum.inl () = u36 ∧ Sat 81 [(3, (vI x4))] a ∧ Below w1a.heap.size w1a w) ?_ ?_
    ·refine Wc z (fun hc1t => ?_) (fun hc1t => ?_)
     ·exact WC_skip (fun _ q => ⟨som (ifT hu2e hc1t), (q.k (s1 z)), (br w1a)⟩)
     refine Wq ?_
     obtain ⟨u37, hu2f, hm2g⟩ := bdS (ifF hu2e hc1t)
     refine WC_cut (fun a w => ∃ (x1u : Bool), x1u = u37 ∧ Sat 81 [(3, (vI x4)), (5, (.pointer (some ⟨w1b.heap.size, 0, none⟩))), (11, (vI r1q)), (12, (vI r2c)), (58, (vB x1u))] a ∧ Below w1a.heap.size w1a w) ?_ ?_
     ·refine Wg (R z (fd f_74_1 z) (R z (l1 g_3 z fid ((h1p.ext s16).at z)) (R z (eql z z) (Rm z ?_))))
      rcases bs (x2.kind == 5) with hc18 | hc18
      ·exact Rh z hc18 (mv z) (Rh z hc18 (rd_leq z z) (R z (pT z hc18 z) (Ra z (Wl (fun _ q => ⟨decide (r1q ≤ 40), som (ifT hu2f hc18), (q.k (s5 z z z z z)), (br w1a)⟩)))))
      exact Nh z hc18 (Nh z hc18 (R z (pF z hc18 z) (Ra z (Wl (fun _ q => ⟨false, som (ifF hu2f hc18), (q.k (s5 z z z z z)), (br w1a)⟩)))))
     rintro a38 w1v ⟨x1u, rfl, hS49, s19⟩
     revert a38
     refine Wo (Wc z (fun hc1w => ?_) (fun hc1w => ?_))
     ·refine Ws (Rm z (Rm z (Ra z (Ra z (Ra z (Wn ?_))))))
      obtain rfl := som (ifT hm2g hc1w)
      have hm39 := elR hm1s
      obtain rfl := som hm39
      have hm3a := elR hm1n
      obtain rfl := som hm3a
      have hm3b := elR hm1c
      obtain rfl := som hm3b
      exact Wr (rtO (rtO (ret3 hr z z z ⟨(bup (bup (bup (bup (bup h11 h10) s12) s13) s16) s19), z, h2d, h1r, (ii z)⟩)))
     refine Wq ?_
     obtain ⟨u3c, hu2h, hm2i⟩ := bdS (ifF hm2g hc1w)
     refine WC_cut (fun a w => ∃ (x1x : Bool), x1x = u3c ∧ Sat 81 [(3, (vI x4)), (11, (vI r1q)), (12, (vI r2c)), (68, (vB x1x))] a ∧ Below w1v.heap.size w1v w) ?_ ?_
     ·refine Wg (R z (fd f_74_1 z) ?_)
      have h2j := (h1p.ext s16).ext s19
      refine R z (l1 g_3 z fid (h2j.at z)) (R z (eql z z) (Rm z ?_))
      rcases bs (x2.kind == 7) with hc17 | hc17
      ·refine Rh z hc17 (lN (vs := [(Str.v x2.name), (vI x2.kind), (vI x2.size), (vB x2.little), (.slice pa2_4 pn2_4 pc2_4), (.slice pa2_5 pn2_5 pc2_5), (.slice pa2_6 pn2_6 pc2_6), (.slice pa2_7 pn2_7 pc2_7)]) g_74 z_74 z z fid (h2j.row 0 8 z)) (Rh z hc17 (mv z) ?_)
       obtain ⟨r3d, e3e, hm3f⟩ := bdS (ifT hu2h hc17)
       refine Eg z z hc17 z (fc call88 z (W_spec_l9Item (B := B) e3e (lt_ hBw (lt_ (lt_ h2b s16.size) s19.size)) p2_0 p2_1 p2_2 ((((((p2_4.ext h11).ext h10).ext s12).ext s13).ext s16).ext s19) ((((((p2_5.ext h11).ext h10).ext s12).ext s13).ext s16).ext s19) ((((((p2_6.ext h11).ext h10).ext s12).ext s13).ext s16).ext s19) ((h2a.ext s16).ext s19) h1r (ii z))) ?_
       rintro _ w4a ⟨s3g, rfl, h4b⟩
       exact Rh z hc17 (rd_geq z z) (R z (pT z hc17 z) (Ra z (Wl (fun _ q => ⟨decide (0 ≤ r3d), som hm3f, (q.k (s4 z z z z)), s3g⟩))))
      iterate 4 refine Nh z hc17 ?_
      exact R z (pF z hc17 z) (Ra z (Wl (fun _ q => ⟨false, som (ifF hu2h hc17), (q.k (s4 z z z z)), (br w1v)⟩)))
     rintro a3h w4c ⟨x1x, rfl, hS4d, s2k⟩
     revert a3h
     refine Wo (Wc z (fun hc1y => ?_) (fun hc1y => ?_))
     ·refine Ws (Rm z (Rm z (Ra z (Ra z (Ra z (Wn ?_))))))
      obtain rfl := som (ifT hm2i hc1y)
      have hm3i := elR hm1s
      obtain rfl := som hm3i
      have hm3j := elR hm1n
      obtain rfl := som hm3j
      have hm3k := elR hm1c
      obtain rfl := som hm3k
      exact Wr (rtO (rtO (ret3 hr z z z ⟨(bup (bup (bup (bup (bup (bup h11 h10) s12) s13) s16) s19) s2k), z, h2d, (ii z), h1r⟩)))
     exact WC_skip (fun _ q => ⟨som (ifF hm2i hc1y), (q.k (s1 z)), (bup s19 s2k)⟩)
    rintro a3l w4e ⟨rfl, hS4f, s3m⟩
    have hm3n := elL hm1s
    revert a3l
    exact fun _ q => ⟨som hm3n, (q.k (s1 z)), (bup (bup s13 s16) s3m)⟩
   exact WC_skip (fun _ q => ⟨som (ifF hu29 hc1o), (q.k (s1 z)), (br w1m)⟩)
  rintro a3o w4g ⟨rfl, hS4h, s3p⟩
  have hm3q := elL hm1n
  revert a3o
  exact fun _ q => ⟨som hm3q, (q.k (s1 z)), (bup s12 s3p)⟩
 rintro a3r w4i ⟨rfl, hS4j, s3s⟩
 have hm3t := elL hm1c
 revert a3r
 refine Wo (Ws (Rm z (Ra z (Ra z (Ra z (Wn ?_))))))
 obtain rfl := som hm3t
 exact Wr (ret3 hr z z z ⟨(bup (bup h11 h10) s3s), z, p4_0, (ii z), (ii z)⟩)
def Q_spec_l20Step (w0 : World) (B : Nat) (r : Int × Int × Bool) (v : Value) (w' : World) : Prop := Below w0.heap.size w0 w' ∧ un3 (fun r1 r2 r3 => v = .tuple #[(vI r1), (vI r2), (vB r3)] ∧ inI r1 ∧ inI r2) r
theorem W_spec_l20Step {x1 : Desc} {x2 : Int} {x3 : List UInt8} {x4 : Int} {x5 : Str} {res : Int × Int × Bool} (hm : M_spec_l20Step n x1 x2 x3 x4 x5 = some res) (hBw : B ≤ w0.heap.size) (p1_0 : repS w0 B (.slice pa1_0 pn1_0 pc1_0) x1.rules) (p2_0 : inI x2) (p3_0 : repS w0 B (.slice pa3_0 pn3_0 pc3_0) x3) (p4_0 : inI x4) (p5_0 : x5.b.length ≤ LEN) : CallsR prog 54 [(.agg #[(.slice pa1_0 pn1_0 pc1_0)]), (vI x2), (.slice pa3_0 pn3_0 pc3_0), (vI x4), (Str.v x5)] w0 (Q_spec_l20Step w0 B res) := by
 unfold M_spec_l20Step at hm
 obtain ⟨fn, hf, hb, hN, hr⟩ := fnE func54
 refine goW hf (hb.trans z) (hN.trans z) (lb z) (Ws (E z (fb z) ?_))
 rintro _ w1a ⟨rfl, h21⟩
 have h16 := h21.below
 have h1s : Blk w1a w0.heap.size [(.slice pa1_0 pn1_0 pc1_0)] := h21.blk
 refine Ra z (Ra z (Ra z (Wn (Ws (R z (fd f_31_0 z) (R z (l1 g_29 z fid (h1s.at z)) (Rm z ?_)))))))
 obtain ⟨x10, e2s, hm2t⟩ := bdS hm
 have h22 := p1_0.ext h16
 refine RX z (at_ (α := Rule) d_29 z_74 z z z h22 e2s) ?_
 rintro _ ⟨b3y, o3z, cs40, rfl, h2u, h2v, h41⟩
 obtain ⟨a1b, n1c, c1d, a1e, n1f, c1g, a1h, n1i, c1j, a1k, n1l, c1m, rfl, h1t, h1u, h1v, h2w, h2x, h2y, h2z⟩ := Rule_open h2v
 refine R z (lN (vs := [(Str.v x10.name), (vI x10.kind), (vI x10.size), (vB x10.little), (.slice a1b n1c c1d), (.slice a1e n1f c1g), (.slice a1h n1i c1j), (.slice a1k n1l c1m)]) g_74 z_74 z z fid h2u) (E z (fa zero_74) ?_)
 rintro _ w30 ⟨rfl, h23⟩
 have h14 := h23.below
 have h31 : Blk w30 w1a.heap.size [(Str.v (⟨[]⟩ : Str)), (vI 0), (vI 0), (vB false), (.slice none 0 0), (.slice none 0 0), (.slice none 0 0), (.slice none 0 0)] := h23.blk
 refine E0 (fs (cur' := [(Str.v x10.name), (vI x10.kind), (vI x10.size), (vB x10.little), (.slice a1b n1c c1d), (.slice a1e n1f c1g), (.slice a1h n1i c1j), (.slice a1k n1l c1m)]) z_74 z z h31 z (lb z) (oA z) z) ?_
 rintro _ w42 ⟨h24, s32⟩
 have h15 := s32.one
 refine Wn (Ws ?_)
 have h25 := (h1s.ext h14).chg h15 (djs (mmr h1s.lt))
 refine R z (lN (vs := [(.slice pa1_0 pn1_0 pc1_0)]) g_31 z_31 z z fid (h25.row 0 1 z)) (R z (lN (vs := [(Str.v x10.name), (vI x10.kind), (vI x10.size), (vB x10.little), (.slice a1b n1c c1d), (.slice a1e n1f c1g), (.slice a1h n1i c1j), (.slice a1k n1l c1m)]) g_74 z_74 z z fid (h24.row 0 8 z)) (Rm z (Rm z ?_)))
 have h19 := mem1le (lt_ hBw h16.size)
 have h26 := (h22.ext h14).chg h15 (lg h19)
 have h27 := (h2w.ext h14).chg h15 (lg h19)
 have h28 := (h2x.ext h14).chg h15 (lg h19)
 have h29 := (h2y.ext h14).chg h15 (lg h19)
 have h2a := (h2z.ext h14).chg h15 (lg h19)
 have h2b := ((p3_0.ext h16).ext h14).chg h15 (lg h19)
 have h2c := lt_ (lt_ h16.size h14.size) h15.size
 obtain ⟨r43, r1p, r1w, e33, hm34⟩ := bd3S hm2t
 refine E z (fc call87 z (W_spec_l20Enter (B := B) e33 (lt_ hBw h2c) h26 h1t h1u h1v h27 h28 h29 h2a h2b p4_0)) ?_
 rintro _ w1n ⟨s13, rfl, h35, h1x, h36⟩
 refine Rm z ?_
 iterate 3 refine R z (ext_ z z) ?_
 refine Ra z (Ra z (Ra z (Wn (Wq (Ws (Ra z (Wn ?_)))))))
 obtain ⟨u44, hu37, hm2d⟩ := bdS hm34
 refine WC_forN (σ := Int) (ρ := Int × Int × Bool) (fun (k1y : Nat) (x17 : Int) a w => Sat 64 [(2, (.slice pa3_0 pn3_0 pc3_0)), (4, (Str.v x5)), (5, (.pointer (some ⟨w0.heap.size, 0, none⟩))), (13, (.pointer (some ⟨w1a.heap.size, 0, none⟩))), (14, (vI x17)), (15, (vI r1p)), (16, (vI r1w)), (17, (vI ((k1y : Nat) : Int)))] a ∧ Below w1n.heap.size w1n w ∧ inI x17) (fun (x17 : Int) a w => Sat 64 [] a ∧ Below w1n.heap.size w1n w ∧ inI x17) (fun r ex a w => ex = .ret ∧ RetPost prog fn (Q_spec_l20Step w0 B r) a w) hu37 ?_ ?_ ?_ ?_ ?_
 ·exact fun _ q => ⟨(q.k (s8 z z z z z z z z)), (br w1n), h35⟩
 ·rintro k1y x17 a45 w46 o47 hk1q ⟨hS38, s11, h1o⟩ hm39
  refine Wu (e := [(2, (.slice pa3_0 pn3_0 pc3_0)), (4, (Str.v x5)), (5, (.pointer (some ⟨w0.heap.size, 0, none⟩))), (13, (.pointer (some ⟨w1a.heap.size, 0, none⟩))), (14, (vI x17)), (15, (vI r1p)), (16, (vI r1w)), (17, (vI ((k1y : Nat) : Int)))]) (N := 64) ?_ hS38
  refine Wq (Ws (Rm z (Rm z (R z (lss z z) (Wn (Wc z (fun _ => ?_) (fun hc => (noltI hk1q hc).elim)))))))
  refine Wk (Wq (WC_block (Ws ?_)))
  have h2e := (h24.ext s13).ext s11
  refine R z (lN (vs := [(Str.v x10.name), (vI x10.kind), (vI x10.size), (vB x10.little), (.slice a1b n1c c1d), (.slice a1e n1f c1g), (.slice a1h n1i c1j), (.slice a1k n1l c1m)]) g_74 z_74 z z fid (h2e.row 0 8 z)) (Rm z (Rm z ?_))
  have h2f := (h27.ext s13).ext s11
  have h2g := (h28.ext s13).ext s11
  have h2h := (h29.ext s13).ext s11
  have h2i := (h2a.ext s13).ext s11
  have h2j := lt_ (lt_ h2c s13.size) s11.size
  obtain ⟨r48, e3a, hm3b⟩ := bdS hm39
  refine E z (fc call88 z (W_spec_l9Item (B := B) e3a (lt_ hBw h2j) h1t h1u h1v h2f h2g h2h h2i h36 (inI_cnt (Nat.le_of_lt hk1q) (toNat_le h1x)))) ?_
  rintro _ w49 ⟨s12, rfl, h2k⟩
  refine Ra z (Wn (Wq (Ws (R z (lN (vs := [(Str.v x10.name), (vI x10.kind), (vI x10.size), (vB x10.little), (.slice a1b n1c c1d), (.slice a1e n1f c1g), (.slice a1h n1i c1j), (.slice a1k n1l c1m)]) g_74 z_74 z z fid ((h2e.ext s12).row 0 8 z)) (Rm z ?_)))))
  have h2l := lt_ h2j s12.size
  obtain ⟨r4a, e3c, hm2m⟩ := bdS hm3b
  refine E z (fc call89 z (W_spec_l18Step (B := B) e3c (lt_ hBw h2l) h1t h1u h1v (h2f.ext s12) (h2g.ext s12) (h2h.ext s12) (h2i.ext s12) (inI_cnt (Nat.le_of_lt hk1q) (toNat_le h1x)))) ?_
  rintro _ w4b ⟨s18, rfl, h4c⟩
  refine Rm z (R z (rd_eqlT z z) (Wn (Wc z (fun hc1z => ?_) (fun hc1z => ?_))))
  ·exact Ws (Rm z (Rm z (Ra z (Ra z (Ra z (Wn (Wr (rtO (QO_retL (som (ifT hm2m hc1z)).symm (ret3 hr z z z ⟨(bup (bup (bup (bup (bM (bup h16 h14) h15 (mem1le h16.size)) s13) s11) s12) s18), z, h2k, h1o⟩))))))))))
  refine Wk (Ws (R z (lN (vs := [(.slice pa1_0 pn1_0 pc1_0)]) g_31 z_31 z z fid (((((h25.ext s13).ext s11).ext s12).ext s18).row 0 1 z)) (Rm z (Rm z (Rm z ?_)))))
  have h2n := lt_ h2l s18.size
  obtain ⟨r3d, r3e, r4d, e3f, hm2o⟩ := bd3S (ifF hm2m hc1z)
  refine E z (fc call38 z (W_spec_l11Read.run (B := B) e3f (lt_ hBw h2n) ((((h26.ext s13).ext s11).ext s12).ext s18) h2k ((((h2b.ext s13).ext s11).ext s12).ext s18) h1o)) ?_
  rintro _ w3g ⟨s1r, a3h, n3i, c3j, S4e, a3k, n3l, c3m, S4f, rfl, h4g, h4h, h4i, h3n, h4j, h4k, h4l⟩
  refine Rm z ?_
  iterate 3 refine R z (ext_ z z) ?_
  refine E z (fa zero_41) ?_
  rintro _ w3o ⟨rfl, h2p⟩
  have h2q := h2p.below
  have h3p : Blk w3o w3g.heap.size [(vI 0), (.slice none 0 0), (.slice none 0 0)] := h2p.blk
  refine E0 (fs (cur' := [(vI r3d.number), (.slice a3h n3i c3j), (.slice a3k n3l c3m)]) z_41 z z h3p z (lb z) (oA z) z) ?_
  rintro _ w4m ⟨h4n, s3q⟩
  have h2r := s3q.one
  refine Ra z (Ra z (Wn (Wq (Ws (Rm z (R z (nq z z) (Wn (Wc z (fun hc20 => ?_) (fun hc20 => ?_)))))))))
  ·exact Ws (Ra z (Ra z (Ra z (Wn (Wr (rtO (QO_retL (som (ifT hm2o hc20)).symm (ret3 hr z z z ⟨(bM (bup (bup (bup (bup (bup (bup (bM (bup h16 h14) h15 (mem1le h16.size)) s13) s11) s12) s18) s1r) h2q) h2r (mem1le (lt_ h2n s1r.size))), z, (ii z), (ii z)⟩))))))))
  exact Wk (Wg (Rm z (Ra z (Wn (Wg (Rm z (R z (inc_ hk1q (toNat_le h1x) z z) (Ra z (Wl (fun _ q => ⟨r3e, (som (ifF hm2o hc20)).symm, ⟨(q.k (s8 z z z z z z z z)), (bM (bup (bup (bup (bup s11 s12) s18) s1r) h2q) h2r (mem1le (lt_ (lt_ (lt_ s11.size s12.size) s18.size) s1r.size))), h3n⟩⟩))))))))))
 ·rintro x17 a4o w4p ⟨hS3r, s3s, h1o⟩
  refine Wu (e := [(2, (.slice pa3_0 pn3_0 pc3_0)), (4, (Str.v x5)), (5, (.pointer (some ⟨w0.heap.size, 0, none⟩))), (13, (.pointer (some ⟨w1a.heap.size, 0, none⟩))), (14, (vI x17)), (15, (vI r1p)), (16, (vI r1w)), (17, (vI ((r1p.toNat : Nat) : Int)))]) (N := 64) ?_ hS3r
  refine Wq (Ws (Rm z (Rm z (R z (lss z z) (Wn (Wc z (fun hc => (nolttI hc).elim) (fun _ => ?_)))))))
  exact WC_exit (fun a' ha' => ⟨rfl, ⟨(Sat.weaken ha' sn), s3s, h1o⟩⟩)
 ·rintro x17 a3t w4q rfl ⟨hS4r, s3u, h1o⟩
  have hm3v := elL hm2d
  revert a3t
  refine Wo (Ws (Ra z (Ra z (Ra z (Wn ?_)))))
  obtain rfl := som hm3v
  exact Wr (ret3 hr z z z ⟨(bup (bup (bM (bup h16 h14) h15 (mem1le h16.size)) s13) s3u), z, (ii z), (ii z)⟩)
 rintro r4s ex4t a4u w4v rfl ⟨rfl, hq3w⟩
 have hm3x := elR hm2d
 obtain rfl := som hm3x
 exact ⟨hq3w, z⟩
def Q_spec_LocatePart (w0 : World) (B : Nat) (r : Entry × Bool) (v : Value) (w' : World) : Prop := Below w0.heap.size w0 w' ∧ un2 (fun r1 r2 => v = .tuple #[(.agg #[Str.v r1.path, vI r1.rule, vI r1.start, vI r1.end_]), (vB r2)] ∧ r1.path.b.length ≤ LEN ∧ inI r1.rule ∧ inI r1.start ∧ inI r1.end_) r
theorem W_spec_LocatePart {x1 : Desc} {x2 : List UInt8} {x3 : Str} {res : Entry × Bool} (hm : M_spec_LocatePart n x1 x2 x3 = some res) (hBw : B ≤ w0.heap.size) (p1_0 : repS w0 B (.slice pa1_0 pn1_0 pc1_0) x1.rules) (p2_0 : repS w0 B (.slice pa2_0 pn2_0 pc2_0) x2) (p3_0 : x3.b.length ≤ LEN) : CallsR prog 27 [(.agg #[(.slice pa1_0 pn1_0 pc1_0)]), (.slice pa2_0 pn2_0 pc2_0), (Str.v x3)] w0 (Q_spec_LocatePart w0 B res) := by
 unfold M_spec_LocatePart at hm
 obtain ⟨fn, hf, hb, hN, hr⟩ := fnE func27
 refine goW hf (hb.trans z) (hN.trans z) (lb z) (Ws (E z (fb z) ?_))
 rintro _ w1d ⟨rfl, h21⟩
 have h13 := h21.below
 have h22 : Blk w1d w0.heap.size [(.slice pa1_0 pn1_0 pc1_0)] := h21.blk
 refine E z (fa zero_54) ?_
 rintro _ w2f ⟨rfl, h23⟩
 have h14 := h23.below
 have h1e : Blk w2f w1d.heap.size [(Str.v (⟨[]⟩ : Str)), (vI 0), (vI 0), (vI 0)] := h23.blk
 refine Ra z (Wn (Ws (Rm z ?_)))
 have h1n := lt_ h13.size h14.size
 obtain ⟨r2g, r2h, e2i, hm2j⟩ := bd2S hm
 refine E z (fc call51 z (W_spec_SplitPath (B := B) e2i (lt_ hBw h1n) p3_0)) ?_
 rintro _ w1o ⟨s10, a1i, n1j, c1k, rfl, h1p⟩
 refine Rm z (R z (ext_ z z) (R z (ext_ z z) (Ra z (Ra z (Wn (Wq (Wq ?_)))))))
 obtain ⟨u2k, hu24, hm25⟩ := bdS hm2j
 refine WC_cut (fun a w => ∃ (x1q : Bool), x1q = u2k ∧ Sat 80 [(1, (.slice pa2_0 pn2_0 pc2_0)), (2, (Str.v x3)), (3, (.pointer (some ⟨w0.heap.size, 0, none⟩))), (6, (.pointer (some ⟨w1d.heap.size, 0, none⟩))), (8, (.slice a1i n1j c1k)), (35, (vB x1q))] a ∧ Below w1o.heap.size w1o w) ?_ ?_
 ·refine Wg (Rm z (R z (not_ z) (Rm z ?_)))
  rcases bs (!r2h) with hc18 | hc18
  ·iterate 3 refine Nh z hc18 ?_
   exact R z (pT z hc18 z) (Rm z (Nh z z (Nh z z (Nh z z (R z (pT z z z) (Wl (fun _ q => ⟨true, som (ifT hu24 hc18), (q.k (s6 z z z z z z)), (br w1o)⟩)))))))
  refine Rh z hc18 (lN (vs := [(.slice pa1_0 pn1_0 pc1_0)]) g_31 z_31 z z fid (((h22.ext h14).ext s10).row 0 1 z)) ?_
  obtain ⟨r2l, e2m, hm26⟩ := bdS (ifF hu24 hc18)
  refine Eg z z hc18 z (fc call52 z (W_spec_IsValidDescription (B := B) e2m (lt_ hBw (lt_ h1n s10.size)) (((p1_0.ext h13).ext h14).ext s10))) ?_
  rintro _ w3y ⟨s1r, rfl⟩
  refine Rh z hc18 (not_ z) (R z (pF z hc18 z) (Rm z ?_))
  rcases bs (!r2l) with hc19 | hc19
  ·iterate 3 refine Nh z hc19 ?_
   exact R z (pT z hc19 z) (Wl (fun _ q => ⟨true, som (ifT hm26 hc19), (q.k (s6 z z z z z z)), s1r⟩))
  exact Rh z hc19 (mv z) (Rh z hc19 (lnR d_25 z ((((p2_0.ext h13).ext h14).ext s10).ext s1r)) (Rh z hc19 (rd_gtr z z) (R z (pF z hc19 z) (Wl (fun _ q => ⟨decide (400 < (x2.length : Int)), som (ifF hm26 hc19), (q.k (s6 z z z z z z)), s1r⟩)))))
 rintro a2n w3z ⟨x1q, rfl, hS40, s12⟩
 revert a2n
 refine Wo (Wc z (fun hc1s => ?_) (fun hc1s => ?_))
 ·refine Ws (R z (bP (parts := []) (cs := [(Str.v (⟨[]⟩ : Str)), (vI 0), (vI 0), (vI 0)]) build_54 z z) (E0 (fs (cur' := [(Str.v (⟨[]⟩ : Str)), (vI 0), (vI 0), (vI 0)]) z_54 z z ((h1e.ext s10).ext s12) z (lb z) (oA z) z) ?_))
  rintro _ w41 ⟨h2o, s2p⟩
  refine Ra z (Wn ?_)
  obtain rfl := som (ifT hm25 hc1s)
  exact Wr (ret2 hr (resC g_54 z_54 z h2o z) z ⟨(bM (bup (bup (bup h13 h14) s10) s12) s2p.one (mem1le h13.size)), z, (lb z), (ii z), (ii z), (ii z)⟩)
 refine Wk (Ws ?_)
 have h1t := ((h22.ext h14).ext s10).ext s12
 refine R z (lN (vs := [(.slice pa1_0 pn1_0 pc1_0)]) g_31 z_31 z z fid (h1t.row 0 1 z)) ?_
 have h1u := (((p1_0.ext h13).ext h14).ext s10).ext s12
 have h1v := lt_ (lt_ h1n s10.size) s12.size
 obtain ⟨r42, e2q, hm2r⟩ := bdS (ifF hm25 hc1s)
 refine E z (fc call53 z (W_spec_RootOf (B := B) e2q (lt_ hBw h1v) h1u)) ?_
 rintro _ w1h ⟨s11, rfl, h2s⟩
 refine Ra z (Wn (Ws (Ra z (Wn (Wq (Ws (Ra z (Wn ?_))))))))
 obtain ⟨u43, hu2t, hm27⟩ := bdS hm2r
 refine WC_forN (σ := Int × Int) (ρ := Entry × Bool) (fun (k1w : Nat) s a w => un2 (fun x15 x16 => Sat 80 [(1, (.slice pa2_0 pn2_0 pc2_0)), (2, (Str.v x3)), (3, (.pointer (some ⟨w0.heap.size, 0, none⟩))), (6, (.pointer (some ⟨w1d.heap.size, 0, none⟩))), (8, (.slice a1i n1j c1k)), (10, (vI x15)), (11, (vI x16)), (12, (vI ((k1w : Nat) : Int)))] a ∧ Below w1h.heap.size w1h w ∧ inI x15 ∧ inI x16) s) (fun s a w => un2 (fun x15 x16 => Sat 80 [(1, (.slice pa2_0 pn2_0 pc2_0)), (2, (Str.v x3)), (3, (.pointer (some ⟨w0.heap.size, 0, none⟩))), (6, (.pointer (some ⟨w1d.heap.size, 0, none⟩))), (10, (vI x15)), (11, (vI x16))] a ∧ Below w1h.heap.size w1h w ∧ inI x15 ∧ inI x16) s) (fun r ex a w => ex = .ret ∧ RetPost prog fn (Q_spec_LocatePart w0 B r) a w) hu2t ?_ ?_ ?_ ?_ ?_
 ·exact fun _ q => ⟨(q.k (s8 z z z z z z z z)), (br w1h), h2s, (ii z)⟩
 ·rintro k1w ⟨x15, x16⟩ a44 w45 o46 hk28 ⟨hS2u, s1a, h1f, h1g⟩ hm2v
  have hm2w := un2S hm2v
  refine Wu (e := [(1, (.slice pa2_0 pn2_0 pc2_0)), (2, (Str.v x3)), (3, (.pointer (some ⟨w0.heap.size, 0, none⟩))), (6, (.pointer (some ⟨w1d.heap.size, 0, none⟩))), (8, (.slice a1i n1j c1k)), (10, (vI x15)), (11, (vI x16)), (12, (vI ((k1w : Nat) : Int)))]) (N := 80) ?_ hS2u
  refine Wq (Ws (Rm z (Rm z ?_)))
  have h29 := ((h1p.ext s12).ext s11).ext s1a
  refine R z (lnR d_47 z h29) (R z (lss z z) (Wn (Wc z (fun _ => ?_) (fun hc => (nolt hk28 hc).elim))))
  refine Wk (Wq (WC_block (Wq (WC_draw (X := noX) 0 (.rd 0 (.rd 1 (.rd 2 (.rd 3 (.rd 4 (.rd 5 (.rd 6 (.rd 7 (.ef 8 (.rd 9 (.rd 10 (.rd 11 (.rd 12 (.rd 13 (.rd 14 (.rd 15 .done)))))))))))))))) mo (by kernel_rfl) fun w47 s1b _ => dR z z (lN (vs := [(.slice pa1_0 pn1_0 pc1_0)]) g_31 z_31 z z fid ((((h1t.ext s11).ext s1a).ext s1b).row 0 1 z)) ?_))))
  iterate 5 refine dR z z (mv z) ?_
  obtain ⟨x48, e2x, hm2y⟩ := bdS hm2w
  refine dRX z z (at_ (α := Str) d_47 z_9 z z z (h29.ext s1b) e2x) ?_
  rintro _ ⟨b49, o4a, cs4b, rfl, h2z, h30, h4c⟩
  obtain ⟨rfl, h31⟩ := Str_open h30
  refine dR z z (l1 g_9 z fid (h2z.at0 z)) ?_
  obtain ⟨r32, r33, r4d, e34, hm2a⟩ := bd3S hm2y
  refine dE z z (fc call54 z (W_spec_l20Step (B := B) e34 (lt_ hBw (lt_ (lt_ (lt_ h1v s11.size) s1a.size) s1b.size)) (((h1u.ext s11).ext s1a).ext s1b) h1f (((((((p2_0.ext h13).ext h14).ext s10).ext s12).ext s11).ext s1a).ext s1b) h1g h31)) (.inr fun _ _ h => chgB (h.1)) ?_
  rintro _ w4e ⟨s1x, rfl, h35, h36⟩
  refine dR z z (mv z) ?_
  iterate 3 refine dR z z (ext_ z z) ?_
  iterate 3 refine dR z z (asg z) ?_
  refine PR_done (Wo (Wq (Ws (Rm z (R z (not_ z) (Wn (Wc z (fun hc1y => ?_) (fun hc1y => ?_))))))))
  ·refine Ws (R z (bP (parts := []) (cs := [(Str.v (⟨[]⟩ : Str)), (vI 0), (vI 0), (vI 0)]) build_54 z z) (E0 (fs (cur' := [(Str.v (⟨[]⟩ : Str)), (vI 0), (vI 0), (vI 0)]) z_54 z z ((((((h1e.ext s10).ext s12).ext s11).ext s1a).ext s1b).ext s1x) z (lb z) (oA z) z) ?_))
   rintro _ w4f ⟨h37, s38⟩
   exact Ra z (Wn (Wr (rtO (QO_retL (som (ifT hm2a hc1y)).symm (ret2 hr (resC g_54 z_54 z h37 z) z ⟨(bM (bup (bup (bup (bup (bup (bup (bup h13 h14) s10) s12) s11) s1a) s1b) s1x) s38.one (mem1le h13.size)), z, (lb z), (ii z), (ii z), (ii z)⟩)))))
  exact Wk (Ws (Rm z (Ra z (Wn (Wg (Rm z (Ra z (Wn (Wg (Rm z (R z (inc_ hk28 (lt_ (repS.len h1p) LEN_le) z z) (Ra z (Wl (fun _ q => ⟨(r32, r33), (som (ifF hm2a hc1y)).symm, ⟨(q.k (s8 z z z z z z z z)), (bup (bup s1a s1b) s1x), h35, h36⟩⟩))))))))))))))
 ·rintro ⟨x15, x16⟩ a4g w4h ⟨hS39, s2b, h1f, h1g⟩
  refine Wu (e := [(1, (.slice pa2_0 pn2_0 pc2_0)), (2, (Str.v x3)), (3, (.pointer (some ⟨w0.heap.size, 0, none⟩))), (6, (.pointer (some ⟨w1d.heap.size, 0, none⟩))), (8, (.slice a1i n1j c1k)), (10, (vI x15)), (11, (vI x16)), (12, (vI ((r2g.length : Nat) : Int)))]) (N := 80) ?_ hS39
  refine Wq (Ws (Rm z (Rm z (R z (lnR d_47 z (((h1p.ext s12).ext s11).ext s2b)) (R z (lss z z) (Wn (Wc z (fun hc => (noltt hc).elim) (fun _ => ?_))))))))
  exact WC_exit (fun a' ha' => ⟨rfl, ⟨(Sat.weaken ha' (s6 z z z z z z)), s2b, h1f, h1g⟩⟩)
 ·rintro ⟨x15, x16⟩ a3a w4i rfl ⟨hS4j, s17, h1f, h1g⟩
  have hm3b := elL hm27
  have hm3c := un2S hm3b
  revert a3a
  refine Wo (Ws (R z (lN (vs := [(.slice pa1_0 pn1_0 pc1_0)]) g_31 z_31 z z fid (((h1t.ext s11).ext s17).row 0 1 z)) (Rm z (Rm z (Rm z ?_)))))
  have h1z := lt_ (lt_ h1v s11.size) s17.size
  obtain ⟨r3d, r2c, r4k, e3e, hm2d⟩ := bd3S hm3c
  refine E z (fc call38 z (W_spec_l11Read.run (B := B) e3e (lt_ hBw h1z) ((h1u.ext s11).ext s17) h1f ((((((p2_0.ext h13).ext h14).ext s10).ext s12).ext s11).ext s17) h1g)) ?_
  rintro _ w3f ⟨s1c, a3g, n3h, c3i, S4l, a3j, n3k, c3l, S4m, rfl, h4n, h4o, h4p, h3m, h4q, h4r, h4s⟩
  refine Rm z ?_
  iterate 3 refine R z (ext_ z z) ?_
  refine E z (fa zero_41) ?_
  rintro _ w3n ⟨rfl, h2e⟩
  have h1l := h2e.below
  have h3o : Blk w3n w3f.heap.size [(vI 0), (.slice none 0 0), (.slice none 0 0)] := h2e.blk
  refine E0 (fs (cur' := [(vI r3d.number), (.slice a3g n3h c3i), (.slice a3j n3k c3l)]) z_41 z z h3o z (lb z) (oA z) z) ?_
  rintro _ w4t ⟨h4u, s3p⟩
  have h1m := s3p.one
  refine Ra z (Ra z (Wn (Wq (Ws (Rm z (R z (nq z z) (Wn (Wc z (fun hc20 => ?_) (fun hc20 => ?_)))))))))
  ·refine Ws (R z (bP (parts := []) (cs := [(Str.v (⟨[]⟩ : Str)), (vI 0), (vI 0), (vI 0)]) build_54 z z) ?_)
   have h3q := ((((((h1e.ext s10).ext s12).ext s11).ext s17).ext s1c).ext h1l).chg h1m (djs (mm1 h1e.lt (lt_ (lt_ (lt_ (lt_ s10.size s12.size) s11.size) s17.size) s1c.size)))
   refine E0 (fs (cur' := [(Str.v (⟨[]⟩ : Str)), (vI 0), (vI 0), (vI 0)]) z_54 z z h3q z (lb z) (oA z) z) ?_
   rintro _ w4v ⟨h3r, s3s⟩
   refine Ra z (Wn ?_)
   obtain rfl := som (ifT hm2d hc20)
   exact Wr (ret2 hr (resC g_54 z_54 z h3r z) z ⟨(bM (bM (bup (bup (bup (bup (bup (bup (bup h13 h14) s10) s12) s11) s17) s1c) h1l) h1m (mem1le (lt_ h1z s1c.size))) s3s.one (mem1le h13.size)), z, (lb z), (ii z), (ii z), (ii z)⟩)
  refine Wk (Ws (Rm z (Rm z (Rm z (Rm z (R z (bP (parts := [(0, (.tmp 75)), (1, (.tmp 76)), (2, (.tmp 77)), (3, (.tmp 78))]) (cs := [(Str.v x3), (vI x15), (vI x16), (vI r2c)]) build_54 z z) ?_))))))
  have h3t := ((((((h1e.ext s10).ext s12).ext s11).ext s17).ext s1c).ext h1l).chg h1m (djs (mm1 h1e.lt (lt_ (lt_ (lt_ (lt_ s10.size s12.size) s11.size) s17.size) s1c.size)))
  refine E0 (fs (cur' := [(Str.v x3), (vI x15), (vI x16), (vI r2c)]) z_54 z z h3t z (lb z) (oA z) z) ?_
  rintro _ w4w ⟨h3u, s3v⟩
  refine Ra z (Wn ?_)
  obtain rfl := som (ifF hm2d hc20)
  exact Wr (ret2 hr (resC g_54 z_54 z h3u z) z ⟨(bM (bM (bup (bup (bup (bup (bup (bup (bup h13 h14) s10) s12) s11) s17) s1c) h1l) h1m (mem1le (lt_ h1z s1c.size))) s3v.one (mem1le h13.size)), z, p3_0, h1f, h1g, h3m⟩)
 rintro r4x ex4y a4z w50 rfl ⟨rfl, hq3w⟩
 have hm3x := elR hm27
 obtain rfl := som hm3x
 exact ⟨hq3w, z⟩
def Q_spec_ReadPart (w0 : World) (B : Nat) (r : Val × Bool) (v : Value) (w' : World) : Prop := Below w0.heap.size w0 w' ∧ un2 (fun r1 r2 => ∃ (a1 : Option Addr) (n1 c1 : Nat) (S1 : List Nat) (a2 : Option Addr) (n2 c2 : Nat) (S2 : List Nat), v = .tuple #[(.agg #[vI r1.number, .slice a1 n1 c1, .slice a2 n2 c2]), (vB r2)] ∧ inI r1.number ∧ ownS w' S1 (.slice a1 n1 c1) r1.bytes ∧ ownS w' S2 (.slice a2 n2 c2) r1.items ∧ (S1 ++ S2).Nodup ∧ (∀ k ∈ (S1 ++ S2), w0.heap.size ≤ k)) r
theorem W_spec_ReadPart {x1 : Desc} {x2 : List UInt8} {x3 : Str} {res : Val × Bool} (hm : M_spec_ReadPart n x1 x2 x3 = some res) (hBw : B ≤ w0.heap.size) (p1_0 : repS w0 B (.slice pa1_0 pn1_0 pc1_0) x1.rules) (p2_0 : repS w0 B (.slice pa2_0 pn2_0 pc2_0) x2) (p3_0 : x3.b.length ≤ LEN) : CallsR prog 16 [(.agg #[(.slice pa1_0 pn1_0 pc1_0)]), (.slice pa2_0 pn2_0 pc2_0), (Str.v x3)] w0 (Q_spec_ReadPart w0 B res) := by
 unfold M_spec_ReadPart at hm
 obtain ⟨fn, hf, hb, hN, hr⟩ := fnE func16
 refine goW hf (hb.trans z) (hN.trans z) (lb z) (Ws (E z (fb z) ?_))
 rintro _ w1p ⟨rfl, h1q⟩
 have h13 := h1q.below
 have h1r : Blk w1p w0.heap.size [(.slice pa1_0 pn1_0 pc1_0)] := h1q.blk
 refine E z (fa zero_41) ?_
 rintro _ w23 ⟨rfl, h1s⟩
 have h14 := h1s.below
 have h15 : Blk w23 w1p.heap.size [(vI 0), (.slice none 0 0), (.slice none 0 0)] := h1s.blk
 refine Ra z (Wn (Ws ?_))
 have h1t := h1r.ext h14
 refine R z (lN (vs := [(.slice pa1_0 pn1_0 pc1_0)]) g_31 z_31 z z fid (h1t.row 0 1 z)) (Rm z (Rm z ?_))
 have h1u := (p1_0.ext h13).ext h14
 have h1v := (p2_0.ext h13).ext h14
 have h1i := lt_ h13.size h14.size
 obtain ⟨r16, r2q, e24, hm1w⟩ := bd2S hm
 refine E z (fc call27 z (W_spec_LocatePart (B := B) e24 (lt_ hBw h1i) h1u h1v p3_0)) ?_
 rintro _ w25 ⟨s10, rfl, h2r, h26, h27, h2s⟩
 refine Rm z (R z (ext_ z z) (R z (ext_ z z) (E z (fa zero_54) ?_)))
 rintro _ w28 ⟨rfl, h1x⟩
 have h11 := h1x.below
 have h29 : Blk w28 w25.heap.size [(Str.v (⟨[]⟩ : Str)), (vI 0), (vI 0), (vI 0)] := h1x.blk
 refine E0 (fs (cur' := [(Str.v r16.path), (vI r16.rule), (vI r16.start), (vI r16.end_)]) z_54 z z h29 z (lb z) (oA z) z) ?_
 rintro _ w2t ⟨h1y, s2a⟩
 have h12 := s2a.one
 refine Ra z (Wn (Wq (Ws (Rm z (R z (not_ z) (Wn (Wc z (fun hc1j => ?_) (fun hc1j => ?_))))))))
 ·refine Ws (R z (bP (parts := []) (cs := [(vI 0), (.slice none 0 0), (.slice none 0 0)]) build_41 z z) (E0 (fs (cur' := [(vI 0), (.slice none 0 0), (.slice none 0 0)]) z_41 z z (((h15.ext s10).ext h11).chg h12 (djs (mm1 h15.lt s10.size))) z (lb z) (oA z) z) ?_))
  rintro _ w2u ⟨h2b, s2c⟩
  refine Ra z (Wn ?_)
  obtain rfl := som (ifT hm1w hc1j)
  exact Wr (ret2 hr (resC g_41 z_41 z h2b z) z ⟨(bM (bM (bup (bup (bup h13 h14) s10) h11) h12 (mem1le (lt_ h1i s10.size))) s2c.one (mem1le h13.size)), none, 0, 0, [], none, 0, 0, [], z, (ii z), onL, onL, nd0, al0⟩)
 refine Wk (Ws (R z (lN (vs := [(.slice pa1_0 pn1_0 pc1_0)]) g_31 z_31 z z fid ((((h1t.ext s10).ext h11).chg h12 (djs (mm1 h1r.lt (lt_ h14.size s10.size)))).row 0 1 z)) (R z (fd f_54_1 z) (R z (l1 g_3 z fid (h1y.at z)) (Rm z (R z (fd f_54_2 z) (R z (l1 g_3 z fid (h1y.at z)) ?_)))))))
 have h1k := lt_ h1i s10.size
 have h1z := mem1le (lt_ hBw h1k)
 have h17 := lt_ (lt_ h1k h11.size) h12.size
 obtain ⟨r1l, r2v, r2w, e2d, hm2e⟩ := bd3S (ifF hm1w hc1j)
 refine E z (fc call38 z (W_spec_l11Read.run (B := B) e2d (lt_ hBw h17) (((h1u.ext s10).ext h11).chg h12 (lg h1z)) h26 (((h1v.ext s10).ext h11).chg h12 (lg h1z)) h27)) ?_
 rintro _ w2f ⟨s18, a19, n1a, c1b, S2g, a1c, n1d, c1e, S2h, rfl, h2i, h20, h21, h2x, h2y, h1m, h1f⟩
 refine Rm z ?_
 iterate 3 refine R z (ext_ z z) ?_
 refine E z (fa zero_41) ?_
 rintro _ w2j ⟨rfl, h22⟩
 have h1g := h22.below
 have h2k : Blk w2j w2f.heap.size [(vI 0), (.slice none 0 0), (.slice none 0 0)] := h22.blk
 refine E0 (fs (cur' := [(vI r1l.number), (.slice a19 n1a c1b), (.slice a1c n1d c1e)]) z_41 z z h2k z (lb z) (oA z) z) ?_
 rintro _ w2z ⟨h2l, s2m⟩
 have h1h := s2m.one
 refine Ra z (Ra z (Wn (Ws (R z (lN (vs := [(vI r1l.number), (.slice a19 n1a c1b), (.slice a1c n1d c1e)]) g_41 z_41 z z fid (h2l.row 0 3 z)) ?_))))
 have h1n := lt_ (lt_ s10.size h11.size) h12.size
 have h2n := (((((h15.ext s10).ext h11).chg h12 (djs (mm1 h15.lt s10.size))).ext s18).ext h1g).chg h1h (djs (mm1 h15.lt (lt_ h1n s18.size)))
 refine E0 (fs (cur' := [(vI r1l.number), (.slice a19 n1a c1b), (.slice a1c n1d c1e)]) z_41 z z h2n z (lb z) (oA z) z) ?_
 rintro _ w30 ⟨h2o, s2p⟩
 have h1o := s2p.one
 refine Ra z (Wn ?_)
 obtain rfl := som hm2e
 exact Wr (ret2 hr (resC g_41 z_41 z h2o z) z ⟨(bM (bM (bup (bup (bM (bup (bup (bup h13 h14) s10) h11) h12 (mem1le h1k)) s18) h1g) h1h (mem1le (lt_ h17 s18.size))) h1o (mem1le h13.size)), a19, n1a, c1b, S2g, a1c, n1d, c1e, S2h, z, h2i, (((h20.ext h1g).chg h1h (dj_symm (mnr (ownS.lt h20)))).chg h1o (o0n1 (all_left h1f) h15.lt h1n)), (((h21.ext h1g).chg h1h (dj_symm (mnr (ownS.lt h21)))).chg h1o (o0n1 (all_right h1f) h15.lt h1n)), (nd_app (nd_left h1m) (nd_right h1m) (nd_dj h1m)), (all_app (o0le (all_left h1f) h17) (o0le (all_right h1f) h17))⟩)
def Q_spec_CoveredTags (w0 : World) (B : Nat) (r : (List Str)) (v : Value) (w' : World) : Prop := Below w0.heap.size w0 w' ∧ (fun r1 => ∃ (a1 : Option Addr) (n1 c1 : Nat) (S1 : List Nat), (.slice a1 n1 c1) = v ∧ ownS w' S1 (.slice a1 n1 c1) r1 ∧ S1.Nodup ∧ (∀ k ∈ S1, w0.heap.size ≤ k)) r
theorem W_spec_CoveredTags {x1 : Desc} {x2 : List UInt8} {res : (List Str)} (hm : M_spec_CoveredTags n x1 x2 = some res) (hBw : B ≤ w0.heap.size) (p1_0 : repS w0 B (.slice pa1_0 pn1_0 pc1_0) x1.rules) (p2_0 : repS w0 B (.slice pa2_0 pn2_0 pc2_0) x2) : CallsR prog 21 [(.agg #[(.slice pa1_0 pn1_0 pc1_0)]), (.slice pa2_0 pn2_0 pc2_0)] w0 (Q_spec_CoveredTags w0 B res) := by
 unfold M_spec_CoveredTags at hm
 obtain ⟨fn, hf, hb, hN, hr⟩ := fnE func21
 refine goW hf (hb.trans z) (hN.trans z) (lb z) (Ws (E z (fb z) ?_))
 rintro _ w11 ⟨rfl, h34⟩
 have h1j := h34.below
 have h2c : Blk w11 w0.heap.size [(.slice pa1_0 pn1_0 pc1_0)] := h34.blk
 refine Ra z (Wn (Ws (E z (ef_lit0 (α := Str) el_47) ?_)))
 rintro _ w7k ⟨a4b, n4c, c4d, rfl, s1k, h2d⟩
 refine Ra z (Wn (Ws ?_))
 have h35 := h2c.ext s1k
 refine R z (lN (vs := [(.slice pa1_0 pn1_0 pc1_0)]) g_31 z_31 z z fid (h35.row 0 1 z)) (Rm z ?_)
 have h36 := (p1_0.ext h1j).ext s1k
 have h2e := (p2_0.ext h1j).ext s1k
 have h1u := lt_ h1j.size s1k.size
 obtain ⟨r4e, r7l, e4f, hm4g⟩ := bd2S hm
 refine E z (fc call43 z (W_spec_BuildIndex (B := B) e4f (lt_ hBw h1u) h36 h2e)) ?_
 rintro _ w18 ⟨s1a, a1l, n1m, c1n, S7m, rfl, h1c, h7n, h37⟩
 refine Rm z (R z (ext_ z z) (R z (ext_ z z) (Ra z (Ra z (Wn (Wq (Ws (Ra z (Wn ?_)))))))))
 obtain ⟨u7o, hu4h, hm38⟩ := bdS hm4g
 refine WC_forN (σ := (List Str)) (ρ := (List Str)) (fun (k1o : Nat) (x1d : List Str) a w => ∃ (a12 : Option Addr) (n13 c14 : Nat) (S10 : List Nat), Sat 71 [(1, (.slice pa2_0 pn2_0 pc2_0)), (2, (.pointer (some ⟨w0.heap.size, 0, none⟩))), (5, (.slice a12 n13 c14)), (6, (.slice a1l n1m c1n)), (8, (vI ((k1o : Nat) : Int)))] a ∧ Chg (· ∈ [w11.heap.size]) w18 w ∧ ownS w S10 (.slice a12 n13 c14) x1d ∧ S10.Nodup ∧ (∀ k ∈ S10, k ∈ [w11.heap.size] ∨ w18.heap.size ≤ k)) (fun (x1d : List Str) a w => ∃ (a12 : Option Addr) (n13 c14 : Nat) (S10 : List Nat), Sat 71 [(5, (.slice a12 n13 c14))] a ∧ Chg (· ∈ [w11.heap.size]) w18 w ∧ ownS w S10 (.slice a12 n13 c14) x1d ∧ S10.Nodup ∧ (∀ k ∈ S10, k ∈ [w11.heap.size] ∨ w18.heap.size ≤ k)) (fun r ex a w => ex = .ret ∧ RetPost prog fn (Q_spec_CoveredTags w0 B r) a w) hu4h ?_ ?_ ?_ ?_ ?_
 ·exact fun _ q => ⟨a4b, n4c, c4d, [w11.heap.size], (q.k (s5 z z z z z)), (cr [w11.heap.size] w18), (h2d.ext s1a), nd_one, (io sr)⟩
 ·rintro k1o x1d a7p w17 o7q hk39 ⟨a12, n13, c14, S10, hS4i, s19, h1g, h1h, h1v⟩ hm4j
  refine Wu (e := [(1, (.slice pa2_0 pn2_0 pc2_0)), (2, (.pointer (some ⟨w0.heap.size, 0, none⟩))), (5, (.slice a12 n13 c14)), (6, (.slice a1l n1m c1n)), (8, (vI ((k1o : Nat) : Int)))]) (N := 71) ?_ hS4i
  refine Wq (Ws (Rm z (Rm z ?_)))
  have h3a := h1c.chg s19 (o0no h37 (ownS.lt h2d) lr)
  refine R z (lnR d_69 z (ownS_rep h3a (ownS.lt h1c))) (R z (lss z z) (Wn (Wc z (fun _ => ?_) (fun hc => (nolt hk39 hc).elim))))
  refine Wk (Wq ?_)
  obtain ⟨u4k, hu4l, hm4m⟩ := bdS hm4j
  refine WC_cut (fun a w => ∃ (x1x : List Str), x1x = u4k ∧ ∃ (a1y : Option Addr) (n1z c20 : Nat) (S1p : List Nat), Sat 71 [(1, (.slice pa2_0 pn2_0 pc2_0)), (2, (.pointer (some ⟨w0.heap.size, 0, none⟩))), (5, (.slice a1y n1z c20)), (6, (.slice a1l n1m c1n)), (8, (vI ((k1o : Nat) : Int)))] a ∧ Chg (· ∈ S10) w17 w ∧ ownS w S1p (.slice a1y n1z c20) x1x ∧ S1p.Nodup ∧ (∀ k ∈ S1p, k ∈ S10 ∨ w17.heap.size ≤ k)) ?_ ?_
  ·refine WC_block (Wq (Wq (WC_draw (X := noX) 0 (.rd 0 (.rd 1 (.rd 2 (.rd 3 (.rd 4 (.rd 5 (.rd 6 (.rd 7 (.rd 8 (.rd 9 (.rd 10 .done))))))))))) mo (by kernel_rfl) fun w1e s15 _ => dR z z (fd f_31_0 z) ?_)))
   have h2f := ((h35.ext s1a).chg s19 (djs (mmr h2c.lt))).ext s15
   refine dR z z (l1 g_29 z fid (h2f.at z)) (dR z z (mv z) (dR z z (mv z) ?_))
   obtain ⟨x7r, e4n, hm4o⟩ := bdS hu4l
   have h2g := h3a.ext s15
   refine dRX z z (at_ (α := Entry) d_69 z_54 z z z (ownS_rep h2g (ownS.lt h1c)) e4n) ?_
   rintro _ ⟨b7s, o7t, cs7u, rfl, h4p, h4q, h7v⟩
   obtain ⟨rfl, h7w, h7x, h7y, h7z⟩ := Entry_open h4q
   refine dR z z (fd f_54_1 z) (dR z z (l1 g_3 z fid (h4p.at (j := 1) z)) ?_)
   obtain ⟨x80, e4r, hm3b⟩ := bdS hm4o
   have h2h := mem1le (lt_ hBw h1j.size)
   have h21 := ((h36.ext s1a).chg s19 (lg h2h)).ext s15
   refine dRX z z (at_ (α := Rule) d_29 z_74 z z z h21 e4r) ?_
   rintro _ ⟨b81, o82, cs83, rfl, h4s, h4t, h84⟩
   obtain ⟨a85, n86, c87, a88, n89, c8a, a8b, n8c, c8d, a8e, n8f, c8g, rfl, h8h, h8i, h8j, h8k, h8l, h8m, h8n⟩ := Rule_open h4t
   refine dR z z (fd f_74_1 z) (dR z z (l1 g_3 z fid (h4s.at (j := 1) z)) (dR z z (nq z z) (PR_done (Wo (Wc z (fun hc2i => ?_) (fun hc2i => ?_))))))
   ·refine WC_exit (exH ?_)
    have h4u : Chg (· ∈ S10) w17 w1e := cext (cr S10 w17) s15
    exact fun _ q => ⟨x1d, som (ifT hm3b hc2i), a12, n13, c14, S10, (q.k (s5 z z z z z)), h4u, (h1g.ext s15), h1h, (io sr)⟩
   refine Wk (Wq ?_)
   obtain ⟨u4v, hu4w, hm4x⟩ := bdS (ifF hm3b hc2i)
   refine WC_cut (fun a w => ∃ (x22 : Int) (x2j : List UInt8) (x2k : List Val), (x22, x2j, x2k) = u4v ∧ ∃ (a2l : Option Addr) (n2m c2n : Nat) (S1q : List Nat) (a2o : Option Addr) (n2p c2q : Nat) (S1r : List Nat) (g1s : Nat), Sat 71 [(1, (.slice pa2_0 pn2_0 pc2_0)), (2, (.pointer (some ⟨w0.heap.size, 0, none⟩))), (5, (.slice a12 n13 c14)), (6, (.slice a1l n1m c1n)), (8, (vI ((k1o : Nat) : Int))), (9, (.pointer (some ⟨g1s, 0, none⟩)))] a ∧ Below w1e.heap.size w1e w ∧ inI x22 ∧ ownS w S1q (.slice a2l n2m c2n) x2j ∧ S1q.Nodup ∧ (∀ k ∈ S1q, w1e.heap.size ≤ k) ∧ ownS w S1r (.slice a2o n2p c2q) x2k ∧ S1r.Nodup ∧ (∀ k ∈ S1r, w1e.heap.size ≤ k) ∧ (∀ k ∈ S1r, k ∉ S1q) ∧ Blk w g1s [(vI x22), (.slice a2l n2m c2n), (.slice a2o n2p c2q)] ∧ w1e.heap.size ≤ g1s ∧ (∀ k ∈ S1q, k ∉ [g1s]) ∧ (∀ k ∈ S1r, k ∉ [g1s])) ?_ ?_
   ·refine WC_draw (X := fun k => k ∈ ([] : List Nat) ∨ w1e.heap.size ≤ k) 0 (.rd 0 (.rd 1 (.rd 2 (.rd 3 (.rd 4 (.rd 5 (.rd 6 (.br 7 (.rd 8 (.rd 9 (.rd 10 (.ef 11 (.ef 12 (.rd 13 .done)))))) 11 (.ef 7 (.rd 8 (.rd 9 (.rd 10 (.ef 12 (.rd 13 .done)))))))))))))) mo (by kernel_rfl) fun w3c s16 _ => dR z z (lN (vs := [(.slice pa1_0 pn1_0 pc1_0)]) g_31 z_31 z z (notNew nm0 (Nat.lt_of_lt_of_le h2c.lt (lt_ (lt_ (lt_ s1k.size s1a.size) s19.size) s15.size))) ((h2f.ext s16).row 0 1 z)) ?_
    iterate 3 refine dR z z (mv z) ?_
    obtain ⟨x8o, e4y, hm3d⟩ := bdS hu4w
    refine dRX z z (at_ (α := Entry) d_69 z_54 z z z (ownS_rep (h2g.ext s16) (ownS.lt h1c)) e4y) ?_
    rintro _ ⟨b8p, o8q, cs8r, rfl, h4z, h50, h51⟩
    obtain ⟨rfl, h3e, h8s, h8t, h8u⟩ := Entry_open h50
    refine dR z z (fd f_54_0 z) (dR z z (l1 g_9 z (notNew nm0 (Nat.lt_of_lt_of_le h51 (lt_ s19.size s15.size))) (h4z.at (j := 0) z)) (PR_br ?_ ?_))
    ·obtain ⟨r23, r8v, e52, hm53⟩ := bd2S hm3d
     refine dE z z (fc call16 z (W_spec_ReadPart (B := B) e52 (lt_ hBw (lt_ (lt_ (lt_ (lt_ h1u s1a.size) s19.size) s15.size) s16.size)) (h21.ext s16) ((((h2e.ext s1a).chg s19 (lg h2h)).ext s15).ext s16) h3e)) (.inr fun _ _ h => chgB (h.1)) ?_
     rintro _ w3f ⟨s3g, a3h, n3i, c3j, S54, a3k, n3l, c3m, S55, rfl, h56, h3n, h3o, h2r, h3p⟩
     refine dR z z (mv z) (dR z z (ext_ z z) (dR z z (ext_ z z) (dE z z (fa zero_41) (.inr fun _ _ h => chgB (h.2.below)) ?_)))
     rintro _ w57 ⟨rfl, h3q⟩
     have h2s := h3q.below
     have h58 : Blk w57 w3f.heap.size [(vI 0), (.slice none 0 0), (.slice none 0 0)] := h3q.blk
     have h2t := mem1le (lt_ s16.size s3g.size)
     refine dE0 z (fs (cur' := [(vI r23.number), (.slice a3h n3i c3j), (.slice a3k n3l c3m)]) z_41 z z h58 z (lb z) (oA z) z) (.inr fun _ _ h => chgNew (atp h2t) h.2) ?_
     rintro _ w8w ⟨h59, s5a⟩
     have h2u := s5a.one
     refine dR z z (asg z) (PR_done ?_)
     have h3r := mnr (ownS.lt h3n)
     have h3s := mnr (ownS.lt h3o)
     exact fun _ q => ⟨r23.number, r23.bytes, r23.items, som hm53, a3h, n3i, c3j, S54, a3k, n3l, c3m, S55, w3f.heap.size, (q.k (s6 z z z z z z)), (bM (bup (bup s16 s3g) h2s) h2u h2t), h56, ((h3n.ext h2s).chg h2u (dj_symm h3r)), (nd_left h2r), (o0le (all_left h3p) s16.size), ((h3o.ext h2s).chg h2u (dj_symm h3s)), (nd_right h2r), (o0le (all_right h3p) s16.size), (dj_symm (nd_dj h2r)), h59, (atp h2t), (dj_symm h3r), (dj_symm h3s)⟩
    refine dE z z (fa zero_41) (.inr fun _ _ h => chgB (h.2.below)) ?_
    rintro _ w5b ⟨rfl, h3t⟩
    have h1w := h3t.below
    have h2v : Blk w5b w3c.heap.size [(vI 0), (.slice none 0 0), (.slice none 0 0)] := h3t.blk
    obtain ⟨r24, r8x, e5c, hm5d⟩ := bd2S hm3d
    refine dE z z (fc call16 z (W_spec_ReadPart (B := B) e5c (lt_ hBw (lt_ (lt_ (lt_ (lt_ (lt_ h1u s1a.size) s19.size) s15.size) s16.size) h1w.size)) ((h21.ext s16).ext h1w) (((((h2e.ext s1a).chg s19 (lg h2h)).ext s15).ext s16).ext h1w) h3e)) (.inr fun _ _ h => chgB (h.1)) ?_
    rintro _ w8y ⟨s3u, a3v, n3w, c3x, S5e, a3y, n3z, c40, S5f, rfl, h5g, h5h, h5i, h2w, h25⟩
    refine dR z z (mv z) (dR z z (ext_ z z) (dR z z (ext_ z z) ?_))
    have h2x := mem1le s16.size
    refine dE0 z (fs (cur' := [(vI r24.number), (.slice a3v n3w c3x), (.slice a3y n3z c40)]) z_41 z z (h2v.ext s3u) z (lb z) (oA z) z) (.inr fun _ _ h => chgNew (atp h2x) h.2) ?_
    rintro _ w8z ⟨h5j, s5k⟩
    have h2y := s5k.one
    refine dR z z (asg z) (PR_done ?_)
    have h41 := o0n1 (all_left h25) h2v.lt lr
    have h42 := lt_ s16.size h1w.size
    have h43 := o0n1 (all_right h25) h2v.lt lr
    exact fun _ q => ⟨r24.number, r24.bytes, r24.items, som hm5d, a3v, n3w, c3x, S5e, a3y, n3z, c40, S5f, w3c.heap.size, (q.k (s6 z z z z z z)), (bM (bup (bup s16 h1w) s3u) h2y h2x), h5g, (h5h.chg h2y h41), (nd_left h2w), (o0le (all_left h25) h42), (h5i.chg h2y h43), (nd_right h2w), (o0le (all_right h25) h42), (dj_symm (nd_dj h2w)), h5j, (atp h2x), h41, h43⟩
   rintro a5l w5m ⟨x22, x2j, x2k, rfl, a2l, n2m, c2n, S1q, a2o, n2p, c2q, S1r, g1s, hS90, s1i, h5n, h91, h92, h93, h94, h95, h96, h97, h5o, h98, h99, h9a⟩
   have hm5p := un3S hm4x
   revert a5l
   refine Wo (Wq (WC_draw (X := noX) 0 (.rd 0 (.rd 1 (.rd 2 (.rd 3 (.rd 4 (.rd 5 (.rd 6 (.rd 7 (.rd 8 (.rd 9 (.rd 10 (.rd 11 (.rd 12 (.ef 13 (.rd 14 (.rd 15 .done)))))))))))))))) mo (by kernel_rfl) fun w5q s1f _ => dR z z (fd f_31_0 z) (dR z z (l1 g_29 z fid (((h2f.ext s1i).ext s1f).at z)) (dR z z (mv z) (dR z z (mv z) ?_)))))
   obtain ⟨x9b, e5r, hm5s⟩ := bdS hm5p
   refine dRX z z (at_ (α := Entry) d_69 z_54 z z z (ownS_rep ((h2g.ext s1i).ext s1f) (ownS.lt h1c)) e5r) ?_
   rintro _ ⟨b9c, o9d, cs9e, rfl, h5t, h5u, h9f⟩
   obtain ⟨rfl, h9g, h9h, h9i, h9j⟩ := Entry_open h5u
   refine dR z z (fd f_54_1 z) (dR z z (l1 g_3 z fid (h5t.at (j := 1) z)) ?_)
   obtain ⟨x9k, e5v, hm5w⟩ := bdS hm5s
   refine dRX z z (at_ (α := Rule) d_29 z_74 z z z ((h21.ext s1i).ext s1f) e5v) ?_
   rintro _ ⟨b9l, o9m, cs9n, rfl, h5x, h5y, h9o⟩
   obtain ⟨a9p, n9q, c9r, a9s, n9t, c9u, a9v, n9w, c9x, a9y, n9z, c100, rfl, h101, h102, h103, h104, h105, h106, h107⟩ := Rule_open h5y
   refine dR z z (fd f_74_0 z) (dR z z (l1 g_9 z fid (h5x.at (j := 0) z)) ?_)
   obtain ⟨x108, e5z, hm60⟩ := bdS hm5w
   refine dR z z (rd_catC z z e5z) (dR z z (fd f_41_0 z) (dR z z (l1 g_3 z fid ((h5o.ext s1f).at z)) ?_))
   obtain ⟨r109, e61, hm62⟩ := bdS hm60
   refine dE z z (fc call44 z (W_spec_FormatInt (B := B) e61 (lt_ hBw (lt_ (lt_ (lt_ (lt_ (lt_ h1u s1a.size) s19.size) s15.size) s1i.size) s1f.size)) h5n)) (.inr fun _ _ h => chgB (h.1)) ?_
   rintro _ w63 ⟨s2z, rfl, h10a⟩
   obtain ⟨x64, e26, hm65⟩ := bdS hm62
   refine dR z z (rd_catC z z e26) (dR z z (asg z) (PR_done (Wo (Ws (Rm z (Rm z ?_))))))
   have h30 := (((h1g.ext s15).ext s1i).ext s1f).ext s2z
   have h44 := lt_ (lt_ (lt_ s15.size s1i.size) s1f.size) s2z.size
   obtain ⟨r10b, e66, hm67⟩ := bdS hm65
   refine E z (fc call45 z (W_spec_ContainsText (B := w17.heap.size) e66 h44 (ownS_rep h30 (ownS.lt h1g)) (cat_len e26))) ?_
   rintro _ w1b ⟨s27, rfl⟩
   refine R z (not_ z) (Wn ?_)
   obtain ⟨u68, hu45, hm69⟩ := bdS hm67
   refine WC_cut (fun a w => ∃ (x28 : List Str), x28 = u68 ∧ ∃ (a29 : Option Addr) (n2a c2b : Nat) (S1t : List Nat), Sat 71 [(1, (.slice pa2_0 pn2_0 pc2_0)), (2, (.pointer (some ⟨w0.heap.size, 0, none⟩))), (5, (.slice a29 n2a c2b)), (6, (.slice a1l n1m c1n)), (8, (vI ((k1o : Nat) : Int)))] a ∧ Chg (· ∈ S10) w1b w ∧ ownS w S1t (.slice a29 n2a c2b) x28 ∧ S1t.Nodup ∧ (∀ k ∈ S1t, k ∈ S10 ∨ w1b.heap.size ≤ k)) ?_ ?_
   ·refine Wc z (fun hc31 => ?_) (fun hc31 => ?_)
    ·refine Wg (Rm z (Rm z (E z (ef_buildSlice [(.tmp 67)] el_47 z z z (szAll z) (lb z) (lb z)) ?_)))
     rintro _ w46 ⟨rfl, h32⟩
     have h33 := h32.below
     have h6a : Blk w46 w1b.heap.size [(Str.v x64)] := h32.blk
     have h10c := ownS_new1 h32 (Str_own (cat_len e26))
     obtain ⟨x6b, e6c, hm6d⟩ := bdS (ifT hu45 hc31)
     refine E z (ef_pushN (α := Str) el_47 e6c z z ((h30.ext s27).ext h33) h1h h6a (Str_own (cat_len e26)) all_nil nd_nil) ?_
     rintro _ w6e ⟨S47, a6f, n6g, c6h, rfl, s6i, h6j, h6k, h6l⟩
     refine Ra z (Wl ?_)
     have h6m : ∀ k ∈ S47, k ∈ S10 ∨ w1b.heap.size ≤ k := or2 h6l (io sr) all_nil (leor h33.size)
     have h6n : Chg (· ∈ S10) w1b w46 := cext (cr S10 w1b) h33
     have h6o : Chg (· ∈ S10) w1b w6e := cM h6n s6i (io sr)
     exact fun _ q => ⟨x6b, som hm6d, a6f, n6g, c6h, S47, (q.k (s5 z z z z z)), h6o, h6j, h6k, h6m⟩
    exact WC_skip (fun _ q => ⟨x1d, som (ifF hu45 hc31), a12, n13, c14, S10, (q.k (s5 z z z z z)), (cr S10 w1b), (h30.ext s27), h1h, (io sr)⟩)
   rintro a6p w6q ⟨x28, rfl, a29, n2a, c2b, S1t, hS10d, s6r, h6s, h6t, h6u⟩
   revert a6p
   have h6v : ∀ k ∈ S1t, k ∈ S10 ∨ w17.heap.size ≤ k := or1 h6u (io sr) (leor (lt_ h44 s27.size))
   have h6w : Chg (· ∈ S10) w17 w1e := cext (cr S10 w17) s15
   have h6x : Chg (· ∈ S10) w17 w5m := cext h6w s1i
   have h6y : Chg (· ∈ S10) w17 w5q := cext h6x s1f
   have h6z : Chg (· ∈ S10) w17 w63 := cext h6y s2z
   have h70 : Chg (· ∈ S10) w17 w1b := cext h6z s27
   have h71 : Chg (· ∈ S10) w17 w6q := cM h70 s6r (io sr)
   exact fun _ q => ⟨x28, som hm69, a29, n2a, c2b, S1t, (q.k (s5 z z z z z)), h71, h6s, h6t, h6v⟩
  rintro a72 w73 ⟨x1x, rfl, a1y, n1z, c20, S1p, hS10e, s74, h75, h76, h77⟩
  revert a72
  refine Wo (Wg (Rm z (R z (inc_ hk39 (lt_ (ownS.len h1c) LEN_le) z z) (Ra z (Wl ?_)))))
  have h48 : ∀ k ∈ S10, k ∈ [w11.heap.size] ∨ w18.heap.size ≤ k := or1 h1v (io sr) (leor lr)
  have h78 : ∀ k ∈ S1p, k ∈ [w11.heap.size] ∨ w18.heap.size ≤ k := or1 h77 h48 (leor s19.size)
  have h79 : Chg (· ∈ [w11.heap.size]) w18 w17 := cM (cr [w11.heap.size] w18) s19 (io sr)
  have h7a : Chg (· ∈ [w11.heap.size]) w18 w73 := cM h79 s74 h48
  exact fun _ q => ⟨x1x, (som hm4m).symm, ⟨a1y, n1z, c20, S1p, (q.k (s5 z z z z z)), h7a, h75, h76, h78⟩⟩
 ·rintro x1d a10f w7b ⟨a12, n13, c14, S10, hS7c, s49, h1g, h1h, h1v⟩
  refine Wu (e := [(1, (.slice pa2_0 pn2_0 pc2_0)), (2, (.pointer (some ⟨w0.heap.size, 0, none⟩))), (5, (.slice a12 n13 c14)), (6, (.slice a1l n1m c1n)), (8, (vI ((r4e.length : Nat) : Int)))]) (N := 71) ?_ hS7c
  refine Wq (Ws (Rm z (Rm z (R z (lnR d_69 z (ownS_rep (h1c.chg s49 (o0no h37 (ownS.lt h2d) lr)) (ownS.lt h1c))) (R z (lss z z) (Wn (Wc z (fun hc => (noltt hc).elim) (fun _ => ?_))))))))
  have h7d : ∀ k ∈ S10, k ∈ [w11.heap.size] ∨ w18.heap.size ≤ k := or1 h1v (io sr) (leor lr)
  have h7e : Chg (· ∈ [w11.heap.size]) w18 w7b := cM (cr [w11.heap.size] w18) s49 (io sr)
  exact WC_exit (fun a' ha' => ⟨rfl, ⟨a12, n13, c14, S10, (Sat.weaken ha' (s1 z)), h7e, h1g, h1h, h7d⟩⟩)
 ·rintro x1d a7f w10g rfl ⟨a12, n13, c14, S10, hS10h, s7g, h1g, h1h, h1v⟩
  have hm7h := elL hm38
  revert a7f
  refine Wo (Ws (Rm z (Ra z (Wn ?_))))
  obtain rfl := som hm7h
  have h4a := mem1le h1j.size
  exact Wr (ret1 hr z ⟨(bM (bup (bup h1j s1k) s1a) s7g h4a), a12, n13, c14, S10, z, h1g, h1h, (o1le h1v h4a (lt_ h1u s1a.size))⟩)
 rintro r10i ex10j a10k w10l rfl ⟨rfl, hq7i⟩
 have hm7j := elR hm38
 obtain rfl := som hm7j
 exact ⟨hq7i, z⟩
def Q_impl_RootOf (w0 : World) (B : Nat) (r : Int) (v : Value) (w' : World) : Prop := Below w0.heap.size w0 w' ∧ (fun r1 => (vI r1) = v ∧ inI r1) r
theorem W_impl_RootOf {x1 : Desc} {res : Int} (hm : M_impl_RootOf x1 = some res) (hBw : B ≤ w0.heap.size) (p1_0 : repS w0 B (.slice pa1_0 pn1_0 pc1_0) x1.rules) : CallsR prog 59 [(.agg #[(.slice pa1_0 pn1_0 pc1_0)])] w0 (Q_impl_RootOf w0 B res) := by
 unfold M_impl_RootOf at hm
 obtain ⟨fn, hf, hb, hN, hr⟩ := fnE func59
 refine goW hf (hb.trans z) (hN.trans z) (lb z) (Ws (E z (fb z) ?_))
 rintro _ w12 ⟨rfl, h10⟩
 have h11 := h10.below
 have h13 : Blk w12 w0.heap.size [(.slice pa1_0 pn1_0 pc1_0)] := h10.blk
 refine Ra z (Wn (Ws (R z (fd f_31_0 z) (R z (l1 g_29 z fid (h13.at z)) (R z (lnR d_29 z (p1_0.ext h11)) (R z (sb_ z z) (Ra z (Wn ?_))))))))
 obtain rfl := som hm
 exact Wr (ret1 hr z ⟨h11, z, (iS _ _)⟩)
def Q_impl_InRange (w0 : World) (B : Nat) (r : Bool) (v : Value) (w' : World) : Prop := Below w0.heap.size w0 w' ∧ (fun r1 => (vB r1) = v) r
theorem W_impl_InRange {x1 : Int} {x2 : Int} {x3 : Int} {res : Bool} (hm : M_impl_InRange x1 x2 x3 = some res) (hBw : B ≤ w0.heap.size) (p1_0 : inI x1) (p2_0 : inI x2) (p3_0 : inI x3) : CallsR prog 95 [(vI x1), (vI x2), (vI x3)] w0 (Q_impl_InRange w0 B res) := by
 unfold M_impl_InRange at hm
 obtain ⟨fn, hf, hb, hN, hr⟩ := fnE func95
 refine goW hf (hb.trans z) (hN.trans z) (lb z) (Ws (Ra z (Wn (Wq ?_))))
 obtain ⟨u13, hu12, hm14⟩ := bdS hm
 refine WC_cut (fun a w => ∃ (x11 : Bool), x11 = u13 ∧ Sat 15 [(6, (vB x11))] a ∧ Below w0.heap.size w0 w) ?_ ?_
 ·refine Wg (Rm z (Rm z (R z (rd_leq z z) (Rm z ?_))))
  rcases bs (decide (x2 ≤ x1)) with hc10 | hc10
  ·exact Rh z hc10 (mv z) (Rh z hc10 (mv z) (Rh z hc10 (rd_leq z z) (R z (pT z hc10 z) (Ra z (Wl (fun _ q => ⟨decide (x1 ≤ x3), som (ifT hu12 hc10), (q.k (s1 z)), (br w0)⟩))))))
  iterate 3 refine Nh z hc10 ?_
  exact R z (pF z hc10 z) (Ra z (Wl (fun _ q => ⟨false, som (ifF hu12 hc10), (q.k (s1 z)), (br w0)⟩)))
 rintro a15 w17 ⟨x11, rfl, hS18, s16⟩
 revert a15
 refine Wo ?_
 obtain rfl := som hm14
 exact Wr (ret1 hr z ⟨s16, z⟩)
def Q_impl_hasRule (w0 : World) (B : Nat) (r : Bool) (v : Value) (w' : World) : Prop := Below w0.heap.size w0 w' ∧ (fun r1 => (vB r1) = v) r
theorem W_impl_hasRule {x1 : Desc} {x2 : Int} {res : Bool} (hm : M_impl_hasRule x1 x2 = some res) (hBw : B ≤ w0.heap.size) (p1_0 : repS w0 B (.slice pa1_0 pn1_0 pc1_0) x1.rules) (p2_0 : inI x2) : CallsR prog 106 [(.agg #[(.slice pa1_0 pn1_0 pc1_0)]), (vI x2)] w0 (Q_impl_hasRule w0 B res) := by
 unfold M_impl_hasRule at hm
 obtain ⟨fn, hf, hb, hN, hr⟩ := fnE func106
 refine goW hf (hb.trans z) (hN.trans z) (lb z) (Ws (E z (fb z) ?_))
 rintro _ w11 ⟨rfl, h13⟩
 have h14 := h13.below
 have h16 : Blk w11 w0.heap.size [(.slice pa1_0 pn1_0 pc1_0)] := h13.blk
 refine Ra z (Wn (Wq ?_))
 obtain ⟨u17, hu15, hm18⟩ := bdS hm
 refine WC_cut (fun a w => ∃ (x12 : Bool), x12 = u17 ∧ Sat 14 [(4, (vB x12))] a ∧ Below w11.heap.size w11 w) ?_ ?_
 ·refine Wg (Rm z (R z (rd_geq z z) (Rm z ?_)))
  rcases bs (decide (0 ≤ x2)) with hc10 | hc10
  ·exact Rh z hc10 (mv z) (Rh z hc10 (fd f_31_0 z) (Rh z hc10 (l1 g_29 z fid (h16.at z)) (Rh z hc10 (lnR d_29 z (p1_0.ext h14)) (Rh z hc10 (lss z z) (R z (pT z hc10 z) (Ra z (Wl (fun _ q => ⟨decide (x2 < (x1.rules.length : Int)), som (ifT hu15 hc10), (q.k (s1 z)), (br w11)⟩))))))))
  iterate 5 refine Nh z hc10 ?_
  exact R z (pF z hc10 z) (Ra z (Wl (fun _ q => ⟨false, som (ifF hu15 hc10), (q.k (s1 z)), (br w11)⟩)))
 rintro a19 w1b ⟨x12, rfl, hS1c, s1a⟩
 revert a19
 refine Wo ?_
 obtain rfl := som hm18
 exact Wr (ret1 hr z ⟨(bup h14 s1a), z⟩)
def Q_impl_IsName (w0 : World) (B : Nat) (r : Bool) (v : Value) (w' : World) : Prop := Below w0.heap.size w0 w' ∧ (fun r1 => (vB r1) = v) r
theorem W_impl_IsName {x1 : Str} {res : Bool} (hm : M_impl_IsName n x1 = some res) (hBw : B ≤ w0.heap.size) (p1_0 : x1.b.length ≤ LEN) : CallsR prog 127 [(Str.v x1)] w0 (Q_impl_IsName w0 B res) := by
 unfold M_impl_IsName at hm
 obtain ⟨fn, hf, hb, hN, hr⟩ := fnE func127
 refine goW hf (hb.trans z) (hN.trans z) (lb z) (Ws (Ra z (Wn (Wq (Wq ?_)))))
 obtain ⟨u22, hu1o, hm1p⟩ := bdS hm
 refine WC_cut (fun a w => ∃ (x1g : Bool), x1g = u22 ∧ Sat 43 [(0, (Str.v x1)), (14, (vB x1g))] a ∧ Below w0.heap.size w0 w) ?_ ?_
 ·refine Wg (Rm z (R z (lnT d_9 z) (R z (lss z z) (Rm z ?_))))
  rcases bs (decide ((x1.b.length : Int) < 1)) with hc14 | hc14
  ·iterate 3 refine Nh z hc14 ?_
   exact R z (pT z hc14 z) (Wl (fun _ q => ⟨true, som (ifT hu1o hc14), (q.k (s2 z z)), (br w0)⟩))
  exact Rh z hc14 (mv z) (Rh z hc14 (lnT d_9 z) (Rh z hc14 (rd_gtr z z) (R z (pF z hc14 z) (Wl (fun _ q => ⟨decide (12 < (x1.b.length : Int)), som (ifF hu1o hc14), (q.k (s2 z z)), (br w0)⟩)))))
 rintro a23 w10 ⟨x1g, rfl, hS2u, s19⟩
 revert a23
 refine Wo (Wc z (fun hc1h => ?_) (fun hc1h => ?_))
 ·refine Ws (Ra z (Wn ?_))
  obtain rfl := som (ifT hm1p hc1h)
  exact Wr (ret1 hr z ⟨s19, z⟩)
 refine Wk (Wq (Ws (Rm z (E z (ef_range d_9 z) ?_))))
 rintro _ w13 ⟨rfl, s1q, h24⟩
 refine Wn ?_
 obtain ⟨u2v, hu25, hm1r⟩ := bdS (ifF hm1p hc1h)
 refine WC_iter (σ := Nat) (ρ := Bool) (fun (x11 : Nat) a w => Sat 43 [(16, (.pointer (some ⟨w10.heap.size, 0, none⟩)))] a ∧ Chg (· ∈ [w10.heap.size]) w13 w ∧ IterAt w w10.heap.size x1 x11) (fun (x11 : Nat) a w => Sat 43 [] a ∧ Chg (· ∈ [w10.heap.size]) w13 w ∧ IterAt w w10.heap.size x1 x11) (fun r ex a w => ex = .ret ∧ RetPost prog fn (Q_impl_IsName w0 B r) a w) hu25 ?_ ?_ ?_ ?_
 ·exact fun _ q => ⟨(q.k (s1 z)), (cr [w10.heap.size] w13), h24⟩
 ·rintro x11 a2w w1s o2x ⟨hS26, s1i, h1e⟩ hm1t
  refine Wu (e := [(16, (.pointer (some ⟨w10.heap.size, 0, none⟩)))]) (N := 43) ?_ hS26
  refine Ws ?_
  rcases bs (decide (x11 < x1.b.length)) with hc1a | hc1a
  ·refine E z (ef_nextT z h1e (of_decide_eq_true hc1a)) ?_
   rintro _ w1b ⟨rfl, h27, s1u⟩
   refine R z (ext_ z z) (Wn (Wq (Wc z (fun _ => ?_) (fun hc => (bcon z hc).elim))))
   refine Wk (WC_block (Ws (R z (ext_ z z) (R z (ext_ z z) (Ra z (Ra z (Wn (Wq ?_))))))))
   obtain ⟨u28, hu1v, hm29⟩ := bdS (ifT hm1t hc1a)
   refine WC_cut (fun a w => ∃ (x1c : Bool), x1c = u28 ∧ Sat 43 [(3, (vI (x11 : Int))), (4, (.int .i32 ((dec x1 x11).1))), (5, (vB x1c)), (16, (.pointer (some ⟨w10.heap.size, 0, none⟩)))] a ∧ Below w1b.heap.size w1b w) ?_ ?_
   ·refine Wg (Rm z (R z (rd_geq z z) (Rm z ?_)))
    rcases bs (decide (97 ≤ ((dec x1 x11).1))) with hc15 | hc15
    ·exact Rh z hc15 (mv z) (Rh z hc15 (rd_leq z z) (R z (pT z hc15 z) (Ra z (Wl (fun _ q => ⟨decide (((dec x1 x11).1) ≤ 122), som (ifT hu1v hc15), (q.k (s4 z z z z)), (br w1b)⟩)))))
    exact Nh z hc15 (Nh z hc15 (R z (pF z hc15 z) (Ra z (Wl (fun _ q => ⟨false, som (ifF hu1v hc15), (q.k (s4 z z z z)), (br w1b)⟩)))))
   rintro a2a w1d ⟨x1c, rfl, hS2y, s1j⟩
   revert a2a
   refine Wo (Wq ?_)
   obtain ⟨u2b, hu1w, hm2c⟩ := bdS hm29
   refine WC_cut (fun a w => ∃ (x1f : Bool), x1f = u2b ∧ Sat 43 [(3, (vI (x11 : Int))), (5, (vB x1c)), (6, (vB x1f)), (16, (.pointer (some ⟨w10.heap.size, 0, none⟩)))] a ∧ Below w1d.heap.size w1d w) ?_ ?_
   ·refine Wg (Rm z (R z (rd_geq z z) (Rm z ?_)))
    rcases bs (decide (48 ≤ ((dec x1 x11).1))) with hc16 | hc16
    ·exact Rh z hc16 (mv z) (Rh z hc16 (rd_leq z z) (R z (pT z hc16 z) (Ra z (Wl (fun _ q => ⟨decide (((dec x1 x11).1) ≤ 57), som (ifT hu1w hc16), (q.k (s4 z z z z)), (br w1d)⟩)))))
    exact Nh z hc16 (Nh z hc16 (R z (pF z hc16 z) (Ra z (Wl (fun _ q => ⟨false, som (ifF hu1w hc16), (q.k (s4 z z z z)), (br w1d)⟩)))))
   rintro a2d w18 ⟨x1f, rfl, hS2z, s1k⟩
   revert a2d
   refine Wo (Wq ?_)
   obtain ⟨u2e, hu1x, hm1y⟩ := bdS hm2c
   refine WC_cut (fun a w => ∃ (x1l : Bool), x1l = u2e ∧ Sat 43 [(16, (.pointer (some ⟨w10.heap.size, 0, none⟩))), (42, (vB x1l))] a ∧ Below w18.heap.size w18 w) ?_ ?_
   ·refine Wg (Rm z (R z (not_ z) (Rm z ?_)))
    rcases bs (!x1c) with hc12 | hc12
    ·have hm1z := ifT hu1x hc12
     refine Rh z hc12 (mv z) (Rh z hc12 (not_ z) (Rh z hc12 (mv z) ?_))
     rcases bs (!x1f) with hc17 | hc17
     ·exact Nh z hc17 (Nh z hc17 (Rh z hc12 (pT z hc17 z) (R z (pT z hc12 z) (Wl (fun _ q => ⟨true, som (ifT hm1z hc17), (q.k (s2 z z)), (br w18)⟩)))))
     exact Rh z hc17 (mv z) (Rh z hc17 (eql z z) (Rh z hc12 (pF z hc17 z) (R z (pT z hc12 z) (Wl (fun _ q => ⟨(x11 : Int) == 0, som (ifF hm1z hc17), (q.k (s2 z z)), (br w18)⟩)))))
    iterate 3 refine Nh z hc12 ?_
    exact Nv z (Nv z (Nh z hc12 (R z (pF z hc12 z) (Wl (fun _ q => ⟨false, som (ifF hu1x hc12), (q.k (s2 z z)), (br w18)⟩)))))
   rintro a2f w2g ⟨x1l, rfl, hS30, s1m⟩
   revert a2f
   refine Wo (Wc z (fun hc1n => ?_) (fun hc1n => ?_))
   ·refine Ws (Ra z (Wn ?_))
    have h20 := mem1le s19.size
    exact Wr (rtO (QO_retL (som (ifT hm1y hc1n)).symm (ret1 hr z ⟨(bup (bup (bup (bM (bM (bup s19 s1q) s1i h20) s1u h20) s1j) s1k) s1m), z⟩)))
   refine WC_skip ?_
   have h2h : Chg (· ∈ [w10.heap.size]) w13 w1s := cM (cr [w10.heap.size] w13) s1i (io sr)
   have h2i : Chg (· ∈ [w10.heap.size]) w13 w1b := cM h2h s1u (io sr)
   have h2j : Chg (· ∈ [w10.heap.size]) w13 w1d := cext h2i s1j
   have h2k : Chg (· ∈ [w10.heap.size]) w13 w18 := cext h2j s1k
   have h2l : Chg (· ∈ [w10.heap.size]) w13 w2g := cext h2k s1m
   exact fun _ q => ⟨x11 + (dec x1 x11).2, (som (ifF hm1y hc1n)).symm, ⟨(q.k (s1 z)), h2l, (((h27.ext s1j).ext s1k).ext s1m)⟩⟩
  refine E z (ef_nextF z h1e (of_decide_eq_false hc1a)) ?_
  rintro _ w2m ⟨rfl, s21⟩
  refine R z (ext_ z z) (Wn (Wq (Wc z (fun hc => (bcon hc z).elim) (fun _ => ?_))))
  have h2n : Chg (· ∈ [w10.heap.size]) w13 w1s := cM (cr [w10.heap.size] w13) s1i (io sr)
  have h2o : Chg (· ∈ [w10.heap.size]) w13 w2m := cext h2n s21
  exact WC_exit (fun a' ha' => QO_brk (som (ifF hm1t hc1a)).symm ⟨(Sat.weaken ha' sn), h2o, (h1e.ext s21)⟩)
 ·rintro x11 a2p w31 rfl ⟨hS32, s2q, h1e⟩
  have hm2r := elL hm1r
  revert a2p
  refine Wo (Ws (Ra z (Wn ?_)))
  obtain rfl := som hm2r
  exact Wr (ret1 hr z ⟨(bM (bup s19 s1q) s2q (mem1le s19.size)), z⟩)
 rintro r33 ex34 a35 w36 rfl ⟨rfl, hq2s⟩
 have hm2t := elR hm1r
 obtain rfl := som hm2t
 exact ⟨hq2s, z⟩
def Q_impl_plainRule (w0 : World) (B : Nat) (r : Bool) (v : Value) (w' : World) : Prop := Below w0.heap.size w0 w' ∧ (fun r1 => (vB r1) = v) r
theorem W_impl_plainRule {x1 : Rule} {x2 : Bool} {x3 : Bool} {x4 : Bool} {x5 : Bool} {x6 : Int} {res : Bool} (hm : M_impl_plainRule x1 x2 x3 x4 x5 x6 = some res) (hBw : B ≤ w0.heap.size) (p1_0 : x1.name.b.length ≤ LEN) (p1_1 : inI x1.kind) (p1_2 : inI x1.size) (p1_4 : repS w0 B (.slice pa1_4 pn1_4 pc1_4) x1.bytes) (p1_5 : repS w0 B (.slice pa1_5 pn1_5 pc1_5) x1.names) (p1_6 : repS w0 B (.slice pa1_6 pn1_6 pc1_6) x1.tags) (p1_7 : repS w0 B (.slice pa1_7 pn1_7 pc1_7) x1.kids) (p6_0 : inI x6) : CallsR prog 148 [(.agg #[(Str.v x1.name), (vI x1.kind), (vI x1.size), (vB x1.little), (.slice pa1_4 pn1_4 pc1_4), (.slice pa1_5 pn1_5 pc1_5), (.slice pa1_6 pn1_6 pc1_6), (.slice pa1_7 pn1_7 pc1_7)]), (vB x2), (vB x3), (vB x4), (vB x5), (vI x6)] w0 (Q_impl_plainRule w0 B res) := by
 unfold M_impl_plainRule at hm
 obtain ⟨fn, hf, hb, hN, hr⟩ := fnE func148
 refine goW hf (hb.trans z) (hN.trans z) (lb z) (Ws (E z (fb z) ?_))
 rintro _ w19 ⟨rfl, h1d⟩
 have h1a := h1d.below
 have h1b : Blk w19 w0.heap.size [(Str.v x1.name), (vI x1.kind), (vI x1.size), (vB x1.little), (.slice pa1_4 pn1_4 pc1_4), (.slice pa1_5 pn1_5 pc1_5), (.slice pa1_6 pn1_6 pc1_6), (.slice pa1_7 pn1_7 pc1_7)] := h1d.blk
 refine Ra z (Wn (Wq ?_))
 obtain ⟨u1r, hu1s, hm1t⟩ := bdS hm
 refine WC_cut (fun a w => ∃ (x1c : Bool), x1c = u1r ∧ Sat 57 [(12, (vB x1c))] a ∧ Below w19.heap.size w19 w) ?_ ?_
 ·refine Wg (Rm z (Rm z ?_))
  obtain ⟨u1e, hu1f, hm1u⟩ := bdS hu1s
  refine WLcut 18 u1e 4 ?_ ?_
  ·rcases bs x2 with hc18 | hc18
   ·iterate 3 refine Nh z hc18 ?_
    exact R z (pT z hc18 z) (WLq 4 (ifT hu1f hc18) z z z)
   exact Rh z hc18 (fd f_74_2 z) (Rh z hc18 (l1 g_3 z fid (h1b.at z)) (Rh z hc18 (eql z z) (R z (pF z hc18 z) (WLq 4 (ifF hu1f hc18) z z z))))
  refine Rm z ?_
  obtain ⟨u1g, hu1h, hm1v⟩ := bdS hm1u
  refine WLcut 27 u1g 8 ?_ ?_
  ·rcases bs u1e with hc10 | hc10
   ·have hm1i := ifT hu1h hc10
    refine Rh z hc10 (mv z) (Rh z hc10 (mv z) ?_)
    rcases bs x3 with hc15 | hc15
    ·iterate 4 refine Nh z hc15 ?_
     exact Rh z hc10 (pT z hc15 z) (R z (pT z hc10 z) (WLq 8 (ifT hm1i hc15) z z z))
    exact Rh z hc15 (fd f_74_4 z) (Rh z hc15 (l1 g_25 z fid (h1b.at z)) (Rh z hc15 (lnR d_25 z (p1_4.ext h1a)) (Rh z hc15 (eql z z) (Rh z hc10 (pF z hc15 z) (R z (pT z hc10 z) (WLq 8 (ifF hm1i hc15) z z z))))))
   exact Nh z hc10 (Nh z hc10 (Nv z (Nv z (Nv z (Nv z (Nh z hc10 (R z (pF z hc10 z) (WLq 8 (ifF hu1h hc10) z z z))))))))
  refine Rm z ?_
  obtain ⟨u1j, hu1k, hm1w⟩ := bdS hm1v
  refine WLcut 36 u1j 8 ?_ ?_
  ·rcases bs u1g with hc11 | hc11
   ·have hm1l := ifT hu1k hc11
    refine Rh z hc11 (mv z) (Rh z hc11 (mv z) ?_)
    rcases bs x4 with hc16 | hc16
    ·iterate 4 refine Nh z hc16 ?_
     exact Rh z hc11 (pT z hc16 z) (R z (pT z hc11 z) (WLq 8 (ifT hm1l hc16) z z z))
    exact Rh z hc16 (fd f_74_5 z) (Rh z hc16 (l1 g_47 z fid (h1b.at z)) (Rh z hc16 (lnR d_47 z (p1_5.ext h1a)) (Rh z hc16 (eql z z) (Rh z hc11 (pF z hc16 z) (R z (pT z hc11 z) (WLq 8 (ifF hm1l hc16) z z z))))))
   exact Nh z hc11 (Nh z hc11 (Nv z (Nv z (Nv z (Nv z (Nh z hc11 (R z (pF z hc11 z) (WLq 8 (ifF hu1k hc11) z z z))))))))
  refine Rm z ?_
  obtain ⟨u1m, hu1n, hm1o⟩ := bdS hm1w
  refine WLcut 45 u1m 8 ?_ ?_
  ·rcases bs u1j with hc12 | hc12
   ·have hm1p := ifT hu1n hc12
    refine Rh z hc12 (mv z) (Rh z hc12 (mv z) ?_)
    rcases bs x5 with hc17 | hc17
    ·iterate 4 refine Nh z hc17 ?_
     exact Rh z hc12 (pT z hc17 z) (R z (pT z hc12 z) (WLq 8 (ifT hm1p hc17) z z z))
    exact Rh z hc17 (fd f_74_6 z) (Rh z hc17 (l1 g_72 z fid (h1b.at z)) (Rh z hc17 (lnR d_72 z (p1_6.ext h1a)) (Rh z hc17 (eql z z) (Rh z hc12 (pF z hc17 z) (R z (pT z hc12 z) (WLq 8 (ifF hm1p hc17) z z z))))))
   exact Nh z hc12 (Nh z hc12 (Nv z (Nv z (Nv z (Nv z (Nh z hc12 (R z (pF z hc12 z) (WLq 8 (ifF hu1n hc12) z z z))))))))
  refine Rm z ?_
  rcases bs u1m with hc13 | hc13
  ·have hm1q := ifT hm1o hc13
   refine Rh z hc13 (mv z) (Rh z hc13 (lss z z) (Rh z hc13 (mv z) ?_))
   rcases bs (decide (x6 < 0)) with hc14 | hc14
   ·iterate 5 refine Nh z hc14 ?_
    exact Rh z hc13 (pT z hc14 z) (R z (pT z hc13 z) (Ra z (Wl (fun _ q => ⟨true, som (ifT hm1q hc14), (q.k (s1 z)), (br w19)⟩))))
   exact Rh z hc14 (fd f_74_7 z) (Rh z hc14 (l1 g_72 z fid (h1b.at z)) (Rh z hc14 (lnR d_72 z (p1_7.ext h1a)) (Rh z hc14 (mv z) (Rh z hc14 (eql z z) (Rh z hc13 (pF z hc14 z) (R z (pT z hc13 z) (Ra z (Wl (fun _ q => ⟨(x1.kids.length : Int) == x6, som (ifF hm1q hc14), (q.k (s1 z)), (br w19)⟩)))))))))
  iterate 3 refine Nh z hc13 ?_
  exact Nv z (Nv z (Nv z (Nv z (Nv z (Nh z hc13 (R z (pF z hc13 z) (Ra z (Wl (fun _ q => ⟨false, som (ifF hm1o hc13), (q.k (s1 z)), (br w19)⟩)))))))))
 rintro a1x w1z ⟨x1c, rfl, hS20, s1y⟩
 revert a1x
 refine Wo ?_
 obtain rfl := som hm1t
 exact Wr (ret1 hr z ⟨(bup h1a s1y), z⟩)
def Q_impl_IntegerLimit (w0 : World) (B : Nat) (r : Int) (v : Value) (w' : World) : Prop := Below w0.heap.size w0 w' ∧ (fun r1 => (vI r1) = v ∧ inI r1) r
theorem W_impl_IntegerLimit {x1 : Desc} {x2 : Int} {res : Int} (hm : M_impl_IntegerLimit x1 x2 = some res) (hBw : B ≤ w0.heap.size) (p1_0 : repS w0 B (.slice pa1_0 pn1_0 pc1_0) x1.rules) (p2_0 : inI x2) : CallsR prog 149 [(.agg #[(.slice pa1_0 pn1_0 pc1_0)]), (vI x2)] w0 (Q_impl_IntegerLimit w0 B res) := by
 unfold M_impl_IntegerLimit at hm
 obtain ⟨fn, hf, hb, hN, hr⟩ := fnE func149
 refine goW hf (hb.trans z) (hN.trans z) (lb z) (Ws (E z (fb z) ?_))
 rintro _ w15 ⟨rfl, h19⟩
 have h12 := h19.below
 have h16 : Blk w15 w0.heap.size [(.slice pa1_0 pn1_0 pc1_0)] := h19.blk
 refine Ra z (Wn (Wq (Wq ?_)))
 obtain ⟨u1g, hu1h, hm1a⟩ := bdS hm
 refine WC_cut (fun a w => ∃ (x17 : Bool), x17 = u1g ∧ Sat 37 [(1, (vI x2)), (2, (.pointer (some ⟨w0.heap.size, 0, none⟩))), (27, (vB x17))] a ∧ Below w15.heap.size w15 w) ?_ ?_
 ·refine Wg (R z (lN (vs := [(.slice pa1_0 pn1_0 pc1_0)]) g_31 z_31 z z fid (h16.row 0 1 z)) (Rm z ?_))
  have h1b := p1_0.ext h12
  obtain ⟨r1i, e1j, hm1c⟩ := bdS hu1h
  refine E z (fc call106 z (W_impl_hasRule (B := B) e1j (lt_ hBw h12.size) h1b p2_0)) ?_
  rintro _ w24 ⟨s13, rfl⟩
  refine R z (not_ z) (Rm z ?_)
  rcases bs (!r1i) with hc11 | hc11
  ·iterate 7 refine Nh z hc11 ?_
   exact R z (pT z hc11 z) (Rm z (Nh z z (Nh z z (Nh z z (Nh z z (Nh z z (Nh z z (Nh z z (Nh z z (R z (pT z z z) (Wl (fun _ q => ⟨true, som (ifT hm1c hc11), (q.k (s3 z z z)), s13⟩))))))))))))
  refine Rh z hc11 (fd f_31_0 z) ?_
  have h1d := h16.ext s13
  refine Rh z hc11 (l1 g_29 z fid (h1d.at z)) (Rh z hc11 (mv z) ?_)
  obtain ⟨x1k, e1l, hm1e⟩ := bdS (ifF hm1c hc11)
  have h1f := h1b.ext s13
  refine RXg z z hc11 z (at_ (α := Rule) d_29 z_74 z z z h1f e1l) ?_
  rintro _ ⟨b25, o26, cs27, rfl, h1m, h1n, h28⟩
  obtain ⟨a29, n2a, c2b, a2c, n2d, c2e, a2f, n2g, c2h, a2i, n2j, c2k, rfl, h2l, h2m, h2n, h2o, h2p, h2q, h2r⟩ := Rule_open h1n
  refine Rh z hc11 (fd f_74_1 z) (Rh z hc11 (l1 g_3 z fid (h1m.at (j := 1) z)) (Rh z hc11 (nq z z) (R z (pF z hc11 z) (Rm z ?_))))
  rcases bs (x1k.kind != 1) with hc10 | hc10
  ·iterate 8 refine Nh z hc10 ?_
   exact R z (pT z hc10 z) (Wl (fun _ q => ⟨true, som (ifT hm1e hc10), (q.k (s3 z z z)), s13⟩))
  refine Rh z hc10 (fd f_31_0 z) (Rh z hc10 (l1 g_29 z fid (h1d.at z)) (Rh z hc10 (mv z) ?_))
  obtain ⟨x2s, e1o, hm1p⟩ := bdS (ifF hm1e hc10)
  refine RXg z z hc10 z (at_ (α := Rule) d_29 z_74 z z z h1f e1o) ?_
  rintro _ ⟨b2t, o2u, cs2v, rfl, h1q, h1r, h2w⟩
  obtain ⟨a2x, n2y, c2z, a30, n31, c32, a33, n34, c35, a36, n37, c38, rfl, h39, h3a, h1s, h3b, h3c, h3d, h3e⟩ := Rule_open h1r
  refine Rh z hc10 (fd f_74_2 z) (Rh z hc10 (l1 g_3 z fid (h1q.at (j := 2) z)) ?_)
  obtain ⟨r1t, e1u, hm1v⟩ := bdS hm1p
  refine Eg z z hc10 z (fc call95 z (W_impl_InRange (B := B) e1u (lt_ hBw (lt_ h12.size s13.size)) h1s (ii z) (ii z))) ?_
  rintro _ w3f ⟨s1w, rfl⟩
  exact Rh z hc10 (not_ z) (R z (pF z hc10 z) (Wl (fun _ q => ⟨!r1t, som hm1v, (q.k (s3 z z z)), (bup s13 s1w)⟩)))
 rintro a1x w3g ⟨x17, rfl, hS3h, s14⟩
 revert a1x
 refine Wo (Wc z (fun hc18 => ?_) (fun hc18 => ?_))
 ·refine Ws (Ra z (Wn ?_))
  obtain rfl := som (ifT hm1a hc18)
  exact Wr (ret1 hr z ⟨(bup h12 s14), z, (ii z)⟩)
 refine Wk (Ws (R z (fd f_31_0 z) (R z (l1 g_29 z fid ((h16.ext s14).at z)) (Rm z ?_))))
 obtain ⟨x3i, e1y, hm1z⟩ := bdS (ifF hm1a hc18)
 refine RX z (at_ (α := Rule) d_29 z_74 z z z ((p1_0.ext h12).ext s14) e1y) ?_
 rintro _ ⟨b3j, o3k, cs3l, rfl, h20, h21, h3m⟩
 obtain ⟨a3n, n3o, c3p, a3q, n3r, c3s, a3t, n3u, c3v, a3w, n3x, c3y, rfl, h3z, h40, h41, h42, h43, h44, h45⟩ := Rule_open h21
 refine R z (fd f_74_2 z) (R z (l1 g_3 z fid (h20.at (j := 2) z)) (R z (rd_mul z z) ?_))
 obtain ⟨u46, e22, hm23⟩ := bdS hm1z
 refine R z (rd_shl z z (nnS e22)) (R z (sb_ z z) (Ra z (Wn ?_)))
 obtain rfl := som hm23
 exact Wr (ret1 hr z ⟨(bup h12 s14), z, (iS _ _)⟩)
def Q_impl_ContainsText (w0 : World) (B : Nat) (r : Bool) (v : Value) (w' : World) : Prop := Below w0.heap.size w0 w' ∧ (fun r1 => (vB r1) = v) r
theorem W_impl_ContainsText {x1 : List Str} {x2 : Str} {res : Bool} (hm : M_impl_ContainsText x1 x2 = some res) (hBw : B ≤ w0.heap.size) (p1_0 : repS w0 B (.slice pa1_0 pn1_0 pc1_0) x1) (p2_0 : x2.b.length ≤ LEN) : CallsR prog 131 [(.slice pa1_0 pn1_0 pc1_0), (Str.v x2)] w0 (Q_impl_ContainsText w0 B res) := by
 unfold M_impl_ContainsText at hm
 obtain ⟨fn, hf, hb, hN, hr⟩ := fnE func131
 refine goW hf (hb.trans z) (hN.trans z) (lb z) (Ws (Ra z (Wn (Wq (Ws (Rm z (R z (lnR d_47 z p1_0) (Rm z (Wn ?_)))))))))
 obtain ⟨u1j, hu16, hm13⟩ := bdS hm
 refine WC_forN (σ := Unit) (ρ := Bool) (fun (k10 : Nat) (_ : Unit) a w => Sat 17 [(1, (Str.v x2)), (7, (.slice pa1_0 pn1_0 pc1_0)), (8, (vI (x1.length : Int))), (9, (vI ((k10 : Nat) : Int)))] a ∧ Below w0.heap.size w0 w) (fun (_ : Unit) a w => Sat 17 [] a ∧ Below w0.heap.size w0 w) (fun r ex a w => ex = .ret ∧ RetPost prog fn (Q_impl_ContainsText w0 B r) a w) hu16 ?_ ?_ ?_ ?_ ?_
 ·exact fun _ q => ⟨(q.k (s4 z z z z)), (br w0)⟩
 ·rintro k10 _ a1k w1l o1m hk14 ⟨hS17, s11⟩ hm18
  refine Wu (e := [(1, (Str.v x2)), (7, (.slice pa1_0 pn1_0 pc1_0)), (8, (vI (x1.length : Int))), (9, (vI ((k10 : Nat) : Int)))]) (N := 17) ?_ hS17
  refine Ws (R z (lss z z) (Wn (Wq (Wc z (fun _ => ?_) (fun hc => (nolt hk14 hc).elim)))))
  refine Wk (Wq (WC_block (Ws ?_)))
  obtain ⟨x1n, e19, hm15⟩ := bdS hm18
  refine RX z (at_ (α := Str) d_47 z_9 z z z (p1_0.ext s11) e19) ?_
  rintro _ ⟨b1o, o1p, cs1q, rfl, h1a, h1b, h1r⟩
  obtain ⟨rfl, h1s⟩ := Str_open h1b
  refine R z (l1 g_9 z fid (h1a.at0 z)) (Ra z (Wn (Ws (Rm z (Rm z (R z (rd_eqlT z z) (Wn (Wc z (fun hc12 => ?_) (fun hc12 => ?_)))))))))
  ·exact Ws (Ra z (Wn (Wr (rtO (QO_retL (som (ifT hm15 hc12)).symm (ret1 hr z ⟨s11, z⟩))))))
  exact Wk (Wg (R z (inc_ hk14 (lt_ (repS.len p1_0) LEN_le) z z) (Rm z (Wl (fun _ q => ⟨(), (som (ifF hm15 hc12)).symm, ⟨(q.k (s4 z z z z)), s11⟩⟩)))))
 ·rintro _ a1t w1u ⟨hS1c, s1d⟩
  refine Wu (e := [(1, (Str.v x2)), (7, (.slice pa1_0 pn1_0 pc1_0)), (8, (vI (x1.length : Int))), (9, (vI ((x1.length : Nat) : Int)))]) (N := 17) ?_ hS1c
  refine Ws (R z (lss z z) (Wn (Wq (Wc z (fun hc => (noltt hc).elim) (fun _ => ?_)))))
  exact WC_exit (fun a' ha' => ⟨rfl, ⟨(Sat.weaken ha' sn), s1d⟩⟩)
 ·rintro _ a1e w1v rfl ⟨hS1w, s1f⟩
  have hm1g := elL hm13
  revert a1e
  refine Wo (Ws (Ra z (Wn ?_)))
  obtain rfl := som hm1g
  exact Wr (ret1 hr z ⟨s1f, z⟩)
 rintro r1x ex1y a1z w20 rfl ⟨rfl, hq1h⟩
 have hm1i := elR hm13
 obtain rfl := som hm1i
 exact ⟨hq1h, z⟩
def Q_impl_validSequence (w0 : World) (B : Nat) (r : Bool) (v : Value) (w' : World) : Prop := Below w0.heap.size w0 w' ∧ (fun r1 => (vB r1) = v) r
theorem W_impl_validSequence {x1 : Rule} {res : Bool} (hm : M_impl_validSequence n x1 = some res) (hBw : B ≤ w0.heap.size) (p1_0 : x1.name.b.length ≤ LEN) (p1_1 : inI x1.kind) (p1_2 : inI x1.size) (p1_4 : repS w0 B (.slice pa1_4 pn1_4 pc1_4) x1.bytes) (p1_5 : repS w0 B (.slice pa1_5 pn1_5 pc1_5) x1.names) (p1_6 : repS w0 B (.slice pa1_6 pn1_6 pc1_6) x1.tags) (p1_7 : repS w0 B (.slice pa1_7 pn1_7 pc1_7) x1.kids) : CallsR prog 150 [(.agg #[(Str.v x1.name), (vI x1.kind), (vI x1.size), (vB x1.little), (.slice pa1_4 pn1_4 pc1_4), (.slice pa1_5 pn1_5 pc1_5), (.slice pa1_6 pn1_6 pc1_6), (.slice pa1_7 pn1_7 pc1_7)])] w0 (Q_impl_validSequence w0 B res) := by
 unfold M_impl_validSequence at hm
 obtain ⟨fn, hf, hb, hN, hr⟩ := fnE func150
 refine goW hf (hb.trans z) (hN.trans z) (lb z) (Ws (E z (fb z) ?_))
 rintro _ w1a ⟨rfl, h1i⟩
 have h12 := h1i.below
 have h1b : Blk w1a w0.heap.size [(Str.v x1.name), (vI x1.kind), (vI x1.size), (vB x1.little), (.slice pa1_4 pn1_4 pc1_4), (.slice pa1_5 pn1_5 pc1_5), (.slice pa1_6 pn1_6 pc1_6), (.slice pa1_7 pn1_7 pc1_7)] := h1i.blk
 refine Ra z (Wn (Wq (Wq ?_)))
 obtain ⟨u1z, hu20, hm1j⟩ := bdS hm
 refine WC_cut (fun a w => ∃ (x1c : Bool), x1c = u1z ∧ Sat 44 [(1, (.pointer (some ⟨w0.heap.size, 0, none⟩))), (23, (vB x1c))] a ∧ Below w1a.heap.size w1a w) ?_ ?_
 ·refine Wg (R z (lN (vs := [(Str.v x1.name), (vI x1.kind), (vI x1.size), (vB x1.little), (.slice pa1_4 pn1_4 pc1_4), (.slice pa1_5 pn1_5 pc1_5), (.slice pa1_6 pn1_6 pc1_6), (.slice pa1_7 pn1_7 pc1_7)]) g_74 z_74 z z fid (h1b.row 0 8 z)) ?_)
  have h1k := p1_5.ext h12
  have h1l := p1_7.ext h12
  obtain ⟨r21, e22, hm1m⟩ := bdS hu20
  refine E z (fc call148 z (W_impl_plainRule (B := B) e22 (lt_ hBw h12.size) p1_0 p1_1 p1_2 (p1_4.ext h12) h1k (p1_6.ext h12) h1l (ii z))) ?_
  rintro _ w2y ⟨s14, rfl⟩
  refine R z (not_ z) (Rm z ?_)
  rcases bs (!r21) with hc10 | hc10
  ·iterate 7 refine Nh z hc10 ?_
   exact R z (pT z hc10 z) (Rm z (Nh z z (Nh z z (Nh z z (Nh z z (Nh z z (R z (pT z z z) (Wl (fun _ q => ⟨true, som (ifT hm1m hc10), (q.k (s2 z z)), s14⟩)))))))))
  have hm1n := ifF hm1m hc10
  refine Rh z hc10 (fd f_74_7 z) ?_
  have h1d := h1b.ext s14
  refine Rh z hc10 (l1 g_72 z fid (h1d.at z)) ?_
  have h1e := h1l.ext s14
  refine Rh z hc10 (lnR d_72 z h1e) (Rh z hc10 (fd f_74_5 z) (Rh z hc10 (l1 g_47 z fid (h1d.at z)) (Rh z hc10 (lnR d_47 z (h1k.ext s14)) (Rh z hc10 (nq z z) (R z (pF z hc10 z) (Rm z ?_))))))
  rcases bs ((x1.kids.length : Int) != (x1.names.length : Int)) with hc13 | hc13
  ·iterate 5 refine Nh z hc13 ?_
   exact R z (pT z hc13 z) (Wl (fun _ q => ⟨true, som (ifT hm1n hc13), (q.k (s2 z z)), s14⟩))
  refine Rh z hc13 (fd f_74_7 z) (Rh z hc13 (l1 g_72 z fid (h1d.at z)) (Rh z hc13 (lnR d_72 z h1e) ?_))
  obtain ⟨r23, e24, hm25⟩ := bdS (ifF hm1n hc13)
  refine Eg z z hc13 z (fc call95 z (W_impl_InRange (B := B) e24 (lt_ hBw (lt_ h12.size s14.size)) (inI_len (repS.len h1e)) (ii z) (ii z))) ?_
  rintro _ w2z ⟨s26, rfl⟩
  exact Rh z hc13 (not_ z) (R z (pF z hc13 z) (Wl (fun _ q => ⟨!r23, som hm25, (q.k (s2 z z)), (bup s14 s26)⟩)))
 rintro a27 w16 ⟨x1c, rfl, hS30, s15⟩
 revert a27
 refine Wo (Wc z (fun hc1f => ?_) (fun hc1f => ?_))
 ·refine Ws (Ra z (Wn ?_))
  obtain rfl := som (ifT hm1j hc1f)
  exact Wr (ret1 hr z ⟨(bup h12 s15), z⟩)
 refine Wk (Wq (Ws (R z (fd f_74_5 z) ?_)))
 have h1o := h1b.ext s15
 refine R z (l1 g_47 z fid (h1o.at z)) ?_
 have h1p := (p1_5.ext h12).ext s15
 refine R z (lnR d_47 z h1p) (Rm z (Wn ?_))
 obtain ⟨u31, hu28, hm1q⟩ := bdS (ifF hm1j hc1f)
 refine WC_forN (σ := Unit) (ρ := Bool) (fun (k19 : Nat) (_ : Unit) a w => Sat 44 [(1, (.pointer (some ⟨w0.heap.size, 0, none⟩))), (25, (.slice pa1_5 pn1_5 pc1_5)), (26, (vI (x1.names.length : Int))), (27, (vI ((k19 : Nat) : Int)))] a ∧ Below w16.heap.size w16 w) (fun (_ : Unit) a w => Sat 44 [] a ∧ Below w16.heap.size w16 w) (fun r ex a w => ex = .ret ∧ RetPost prog fn (Q_impl_validSequence w0 B r) a w) hu28 ?_ ?_ ?_ ?_ ?_
 ·exact fun _ q => ⟨(q.k (s4 z z z z)), (br w16)⟩
 ·rintro k19 _ a32 w1r o33 hk1s ⟨hS29, s17⟩ hm2a
  refine Wu (e := [(1, (.pointer (some ⟨w0.heap.size, 0, none⟩))), (25, (.slice pa1_5 pn1_5 pc1_5)), (26, (vI (x1.names.length : Int))), (27, (vI ((k19 : Nat) : Int)))]) (N := 44) ?_ hS29
  refine Ws (R z (lss z z) (Wn (Wq (Wc z (fun _ => ?_) (fun hc => (nolt hk1s hc).elim)))))
  refine Wk (Wq (WC_block (Ws (Rm z ?_))))
  obtain ⟨x34, e2b, hm2c⟩ := bdS hm2a
  have h1t := h1p.ext s17
  refine RX z (at_ (α := Str) d_47 z_9 z z z h1t e2b) ?_
  rintro _ ⟨b35, o36, cs37, rfl, h2d, h2e, h38⟩
  obtain ⟨rfl, h1u⟩ := Str_open h2e
  refine R z (l1 g_9 z fid (h2d.at0 z)) (Ra z (Ra z (Wn (Wq ?_))))
  obtain ⟨u2f, hu2g, hm1v⟩ := bdS hm2c
  refine WC_cut (fun a w => ∃ (x1g : Bool), x1g = u2f ∧ Sat 44 [(1, (.pointer (some ⟨w0.heap.size, 0, none⟩))), (25, (.slice pa1_5 pn1_5 pc1_5)), (26, (vI (x1.names.length : Int))), (27, (vI ((k19 : Nat) : Int))), (42, (vB x1g))] a ∧ Below w1r.heap.size w1r w) ?_ ?_
  ·refine Wg (Rm z ?_)
   have h1w := lt_ (lt_ h12.size s15.size) s17.size
   obtain ⟨r2h, e2i, hm1x⟩ := bdS hu2g
   refine E z (fc call127 z (W_impl_IsName (B := B) e2i (lt_ hBw h1w) h1u)) ?_
   rintro _ w39 ⟨s18, rfl⟩
   refine R z (not_ z) (Rm z ?_)
   rcases bs (!r2h) with hc11 | hc11
   ·iterate 6 refine Nh z hc11 ?_
    exact R z (pT z hc11 z) (Wl (fun _ q => ⟨true, som (ifT hm1x hc11), (q.k (s5 z z z z z)), s18⟩))
   refine Rh z hc11 (fd f_74_5 z) (Rh z hc11 (l1 g_47 z fid (((h1o.ext s17).ext s18).at z)) (Rh z hc11 (mv z) ?_))
   obtain ⟨x3a, e2j, hm2k⟩ := bdS (ifF hm1x hc11)
   refine RXg z z hc11 z (rd_sliceX d_47 z_9 z z (h1t.ext s18) z z e2j) ?_
   rintro _ ⟨a3b, n3c, c3d, rfl, h2l⟩
   refine Rh z hc11 (mv z) ?_
   obtain ⟨r2m, e2n, hm2o⟩ := bdS hm2k
   refine Eg z z hc11 z (fc call131 z (W_impl_ContainsText (B := B) e2n (lt_ hBw (lt_ h1w s18.size)) h2l h1u)) ?_
   rintro _ w3e ⟨s2p, rfl⟩
   exact R z (pF z hc11 z) (Wl (fun _ q => ⟨r2m, som hm2o, (q.k (s5 z z z z z)), (bup s18 s2p)⟩))
  rintro a2q w3f ⟨x1g, rfl, hS3g, s1y⟩
  revert a2q
  refine Wo (Wc z (fun hc1h => ?_) (fun hc1h => ?_))
  ·exact Ws (Ra z (Wn (Wr (rtO (QO_retL (som (ifT hm1v hc1h)).symm (ret1 hr z ⟨(bup (bup (bup h12 s15) s17) s1y), z⟩))))))
  exact Wk (Wg (R z (inc_ hk1s (lt_ (repS.len p1_5) LEN_le) z z) (Rm z (Wl (fun _ q => ⟨(), (som (ifF hm1v hc1h)).symm, ⟨(q.k (s4 z z z z)), (bup s17 s1y)⟩⟩)))))
 ·rintro _ a3h w3i ⟨hS2r, s2s⟩
  refine Wu (e := [(1, (.pointer (some ⟨w0.heap.size, 0, none⟩))), (25, (.slice pa1_5 pn1_5 pc1_5)), (26, (vI (x1.names.length : Int))), (27, (vI ((x1.names.length : Nat) : Int)))]) (N := 44) ?_ hS2r
  refine Ws (R z (lss z z) (Wn (Wq (Wc z (fun hc => (noltt hc).elim) (fun _ => ?_)))))
  exact WC_exit (fun a' ha' => ⟨rfl, ⟨(Sat.weaken ha' sn), s2s⟩⟩)
 ·rintro _ a2t w3j rfl ⟨hS3k, s2u⟩
  have hm2v := elL hm1q
  revert a2t
  refine Wo (Ws (Ra z (Wn ?_)))
  obtain rfl := som hm2v
  exact Wr (ret1 hr z ⟨(bup (bup h12 s15) s2u), z⟩)
 rintro r3l ex3m a3n w3o rfl ⟨rfl, hq2w⟩
 have hm2x := elR hm1q
 obtain rfl := som hm2x
 exact ⟨hq2w, z⟩
def Q_impl_validChoice (w0 : World) (B : Nat) (r : Bool) (v : Value) (w' : World) : Prop := Below w0.heap.size w0 w' ∧ (fun r1 => (vB r1) = v) r
theorem W_impl_validChoice {x1 : Desc} {x2 : Rule} {res : Bool} (hm : M_impl_validChoice x1 x2 = some res) (hBw : B ≤ w0.heap.size) (p1_0 : repS w0 B (.slice pa1_0 pn1_0 pc1_0) x1.rules) (p2_0 : x2.name.b.length ≤ LEN) (p2_1 : inI x2.kind) (p2_2 : inI x2.size) (p2_4 : repS w0 B (.slice pa2_4 pn2_4 pc2_4) x2.bytes) (p2_5 : repS w0 B (.slice pa2_5 pn2_5 pc2_5) x2.names) (p2_6 : repS w0 B (.slice pa2_6 pn2_6 pc2_6) x2.tags) (p2_7 : repS w0 B (.slice pa2_7 pn2_7 pc2_7) x2.kids) : CallsR prog 151 [(.agg #[(.slice pa1_0 pn1_0 pc1_0)]), (.agg #[(Str.v x2.name), (vI x2.kind), (vI x2.size), (vB x2.little), (.slice pa2_4 pn2_4 pc2_4), (.slice pa2_5 pn2_5 pc2_5), (.slice pa2_6 pn2_6 pc2_6), (.slice pa2_7 pn2_7 pc2_7)])] w0 (Q_impl_validChoice w0 B res) := by
 unfold M_impl_validChoice at hm
 obtain ⟨fn, hf, hb, hN, hr⟩ := fnE func151
 refine goW hf (hb.trans z) (hN.trans z) (lb z) (Ws (E z (fb z) ?_))
 rintro _ w17 ⟨rfl, h1m⟩
 have h13 := h1m.below
 have h24 : Blk w17 w0.heap.size [(.slice pa1_0 pn1_0 pc1_0)] := h1m.blk
 refine E z (fb z) ?_
 rintro _ w1g ⟨rfl, h1n⟩
 have h11 := h1n.below
 have h1f : Blk w1g w17.heap.size [(Str.v x2.name), (vI x2.kind), (vI x2.size), (vB x2.little), (.slice pa2_4 pn2_4 pc2_4), (.slice pa2_5 pn2_5 pc2_5), (.slice pa2_6 pn2_6 pc2_6), (.slice pa2_7 pn2_7 pc2_7)] := h1n.blk
 refine Ra z (Wn (Wq (Wq ?_)))
 obtain ⟨u25, hu26, hm1o⟩ := bdS hm
 refine WC_cut (fun a w => ∃ (x1h : Bool), x1h = u25 ∧ Sat 57 [(2, (.pointer (some ⟨w0.heap.size, 0, none⟩))), (3, (.pointer (some ⟨w17.heap.size, 0, none⟩))), (21, (vB x1h))] a ∧ Below w1g.heap.size w1g w) ?_ ?_
 ·refine Wg (R z (lN (vs := [(Str.v x2.name), (vI x2.kind), (vI x2.size), (vB x2.little), (.slice pa2_4 pn2_4 pc2_4), (.slice pa2_5 pn2_5 pc2_5), (.slice pa2_6 pn2_6 pc2_6), (.slice pa2_7 pn2_7 pc2_7)]) g_74 z_74 z z fid (h1f.row 0 8 z)) (R z (fd f_74_6 z) (R z (l1 g_72 z fid (h1f.at z)) ?_)))
  have h1i := (p2_6.ext h13).ext h11
  refine R z (lnR d_72 z h1i) (R z (add_ z z) ?_)
  have h1p := lt_ h13.size h11.size
  obtain ⟨r27, e28, hm1q⟩ := bdS hu26
  refine E z (fc call148 z (W_impl_plainRule (B := B) e28 (lt_ hBw h1p) p2_0 p2_1 p2_2 ((p2_4.ext h13).ext h11) ((p2_5.ext h13).ext h11) h1i ((p2_7.ext h13).ext h11) (iA _ _))) ?_
  rintro _ w3c ⟨s18, rfl⟩
  refine R z (not_ z) (Rm z ?_)
  rcases bs (!r27) with hc14 | hc14
  ·iterate 5 refine Nh z hc14 ?_
   exact R z (pT z hc14 z) (Wl (fun _ q => ⟨true, som (ifT hm1q hc14), (q.k (s3 z z z)), s18⟩))
  refine Rh z hc14 (fd f_74_6 z) (Rh z hc14 (l1 g_72 z fid ((h1f.ext s18).at z)) ?_)
  have h1r := h1i.ext s18
  refine Rh z hc14 (lnR d_72 z h1r) ?_
  obtain ⟨r29, e2a, hm2b⟩ := bdS (ifF hm1q hc14)
  refine Eg z z hc14 z (fc call95 z (W_impl_InRange (B := B) e2a (lt_ hBw (lt_ h1p s18.size)) (inI_len (repS.len h1r)) (ii z) (ii z))) ?_
  rintro _ w3d ⟨s2c, rfl⟩
  exact Rh z hc14 (not_ z) (R z (pF z hc14 z) (Wl (fun _ q => ⟨!r29, som hm2b, (q.k (s3 z z z)), (bup s18 s2c)⟩)))
 rintro a2d w3e ⟨x1h, rfl, hS3f, s15⟩
 revert a2d
 refine Wo (Wc z (fun hc1j => ?_) (fun hc1j => ?_))
 ·refine Ws (Ra z (Wn ?_))
  obtain rfl := som (ifT hm1o hc1j)
  exact Wr (ret1 hr z ⟨(bup (bup h13 h11) s15), z⟩)
 refine Wk (Wq (WC_draw (X := noX) 0 (.rd 0 (.rd 1 (.rd 2 (.rd 3 (.rd 4 (.ef 5 (.rd 6 .done))))))) mo (by kernel_rfl) fun w3g s16 _ => dR z z (lN (vs := [(.slice pa1_0 pn1_0 pc1_0)]) g_31 z_31 z z fid ((((h24.ext h11).ext s15).ext s16).row 0 1 z)) (dR z z (fd f_74_7 z) ?_)))
 have h1s := (h1f.ext s15).ext s16
 refine dR z z (l1 g_72 z fid (h1s.at z)) ?_
 obtain ⟨x3h, e2e, hm2f⟩ := bdS (ifF hm1o hc1j)
 refine dRX z z (at_ (α := Int) d_72 z_3 z z z ((((p2_7.ext h13).ext h11).ext s15).ext s16) e2e) ?_
 rintro _ ⟨b3i, o3j, cs3k, rfl, h2g, h2h, h3l⟩
 obtain ⟨rfl, h2i⟩ := Int_open h2h
 refine dR z z (l1 g_3 z fid (h2g.at0 z)) ?_
 have h1t := lt_ (lt_ (lt_ h13.size h11.size) s15.size) s16.size
 obtain ⟨r19, e2j, hm2k⟩ := bdS hm2f
 refine dE z z (fc call149 z (W_impl_IntegerLimit (B := B) e2j (lt_ hBw h1t) ((((p1_0.ext h13).ext h11).ext s15).ext s16) h2i)) (.inr fun _ _ h => chgB (h.1)) ?_
 rintro _ w1a ⟨s1b, rfl, h2l⟩
 refine dR z z (asg z) (PR_done (Wo (Wq (Ws (R z (fd f_74_6 z) ?_)))))
 have h1u := h1s.ext s1b
 refine R z (l1 g_72 z fid (h1u.at z)) ?_
 have h1v := ((((p2_6.ext h13).ext h11).ext s15).ext s16).ext s1b
 refine R z (lnR d_72 z h1v) (Rm z (Wn ?_))
 obtain ⟨u3m, hu2m, hm1w⟩ := bdS hm2k
 refine WC_forN (σ := Unit) (ρ := Bool) (fun (k1c : Nat) (_ : Unit) a w => Sat 57 [(3, (.pointer (some ⟨w17.heap.size, 0, none⟩))), (5, (vI r19)), (29, (.slice pa2_6 pn2_6 pc2_6)), (30, (vI (x2.tags.length : Int))), (31, (vI ((k1c : Nat) : Int)))] a ∧ Below w1a.heap.size w1a w) (fun (_ : Unit) a w => Sat 57 [(5, (vI r19))] a ∧ Below w1a.heap.size w1a w) (fun r ex a w => ex = .ret ∧ RetPost prog fn (Q_impl_validChoice w0 B r) a w) hu2m ?_ ?_ ?_ ?_ ?_
 ·exact fun _ q => ⟨(q.k (s5 z z z z z)), (br w1a)⟩
 ·rintro k1c _ a3n w1x o3o hk1y ⟨hS2n, s1d⟩ hm2o
  refine Wu (e := [(3, (.pointer (some ⟨w17.heap.size, 0, none⟩))), (5, (vI r19)), (29, (.slice pa2_6 pn2_6 pc2_6)), (30, (vI (x2.tags.length : Int))), (31, (vI ((k1c : Nat) : Int)))]) (N := 57) ?_ hS2n
  refine Ws (R z (lss z z) (Wn (Wq (Wc z (fun _ => ?_) (fun hc => (nolt hk1y hc).elim)))))
  refine Wk (Wq (WC_block (Ws (Rm z ?_))))
  obtain ⟨x2p, e2q, hm2r⟩ := bdS hm2o
  have h1z := h1v.ext s1d
  refine RX z (at_ (α := Int) d_72 z_3 z z z h1z e2q) ?_
  rintro _ ⟨b3p, o3q, cs3r, rfl, h2s, h2t, h3s⟩
  obtain ⟨rfl, h2u⟩ := Int_open h2t
  refine R z (l1 g_3 z fid (h2s.at0 z)) (Ra z (Ra z (Wn (Wq ?_))))
  obtain ⟨u2v, hu2w, hm20⟩ := bdS hm2r
  refine WC_cut (fun a w => ∃ (x1k : Bool), x1k = u2v ∧ Sat 57 [(3, (.pointer (some ⟨w17.heap.size, 0, none⟩))), (5, (vI r19)), (29, (.slice pa2_6 pn2_6 pc2_6)), (30, (vI (x2.tags.length : Int))), (31, (vI ((k1c : Nat) : Int))), (53, (vB x1k))] a ∧ Below w1x.heap.size w1x w) ?_ ?_
  ·refine Wg (Rm z (Rm z ?_))
   obtain ⟨r2x, e2y, hm21⟩ := bdS hu2w
   refine E z (fc call95 z (W_impl_InRange (B := B) e2y (lt_ hBw (lt_ (lt_ h1t s1b.size) s1d.size)) h2u (ii z) h2l)) ?_
   rintro _ w3t ⟨s1e, rfl⟩
   refine R z (not_ z) (Rm z ?_)
   rcases bs (!r2x) with hc12 | hc12
   ·iterate 3 refine Nh z hc12 ?_
    exact Nv z (Nv z (Nv z (Nv z (Nv z (Nv z (Nv z (Nv z (Nh z hc12 (R z (pT z hc12 z) (Wl (fun _ q => ⟨true, som (ifT hm21 hc12), (q.k (s6 z z z z z z)), s1e⟩)))))))))))
   have hm22 := ifF hm21 hc12
   refine Rh z hc12 (mv z) (Rh z hc12 (rd_gtr z z) (Rh z hc12 (mv z) ?_))
   rcases bs (decide (0 < ((k1c : Nat) : Int))) with hc10 | hc10
   ·refine Rh z hc10 (fd f_74_6 z) (Rh z hc10 (l1 g_72 z fid (((h1u.ext s1d).ext s1e).at z)) (Rh z hc10 (mv z) (Rh z hc10 (sb_ z z) ?_)))
    obtain ⟨x2z, e30, hm31⟩ := bdS (ifT hm22 hc10)
    refine RXg z z hc10 z (at_ (α := Int) d_72 z_3 z z z (h1z.ext s1e) e30) ?_
    rintro _ ⟨b3u, o3v, cs3w, rfl, h32, h33, h3x⟩
    obtain ⟨rfl, h3y⟩ := Int_open h33
    exact Rh z hc10 (l1 g_3 z fid (h32.at0 z)) (Rh z hc10 (mv z) (Rh z hc10 (rd_geq z z) (Rh z hc12 (pT z hc10 z) (R z (pF z hc12 z) (Wl (fun _ q => ⟨decide (x2p ≤ x2z), som hm31, (q.k (s6 z z z z z z)), s1e⟩))))))
   iterate 8 refine Nh z hc10 ?_
   exact Rh z hc12 (pF z hc10 z) (R z (pF z hc12 z) (Wl (fun _ q => ⟨false, som (ifF hm22 hc10), (q.k (s6 z z z z z z)), s1e⟩)))
  rintro a34 w3z ⟨x1k, rfl, hS40, s23⟩
  revert a34
  refine Wo (Wc z (fun hc1l => ?_) (fun hc1l => ?_))
  ·exact Ws (Ra z (Wn (Wr (rtO (QO_retL (som (ifT hm20 hc1l)).symm (ret1 hr z ⟨(bup (bup (bup (bup (bup (bup h13 h11) s15) s16) s1b) s1d) s23), z⟩))))))
  exact Wk (Wg (R z (inc_ hk1y (lt_ (repS.len p2_6) LEN_le) z z) (Rm z (Wl (fun _ q => ⟨(), (som (ifF hm20 hc1l)).symm, ⟨(q.k (s5 z z z z z)), (bup s1d s23)⟩⟩)))))
 ·rintro _ a41 w42 ⟨hS35, s36⟩
  refine Wu (e := [(3, (.pointer (some ⟨w17.heap.size, 0, none⟩))), (5, (vI r19)), (29, (.slice pa2_6 pn2_6 pc2_6)), (30, (vI (x2.tags.length : Int))), (31, (vI ((x2.tags.length : Nat) : Int)))]) (N := 57) ?_ hS35
  refine Ws (R z (lss z z) (Wn (Wq (Wc z (fun hc => (noltt hc).elim) (fun _ => ?_)))))
  exact WC_exit (fun a' ha' => ⟨rfl, ⟨(Sat.weaken ha' (s1 z)), s36⟩⟩)
 ·rintro _ a37 w43 rfl ⟨hS44, s38⟩
  have hm39 := elL hm1w
  revert a37
  refine Wo (Ws (Rm z (R z (rd_gtr z z) (Ra z (Wn ?_)))))
  obtain rfl := som hm39
  exact Wr (ret1 hr z ⟨(bup (bup (bup (bup (bup h13 h11) s15) s16) s1b) s38), z⟩)
 rintro r45 ex46 a47 w48 rfl ⟨rfl, hq3a⟩
 have hm3b := elR hm1w
 obtain rfl := som hm3b
 exact ⟨hq3a, z⟩
def Q_impl_validKind (w0 : World) (B : Nat) (r : Bool) (v : Value) (w' : World) : Prop := Below w0.heap.size w0 w' ∧ (fun r1 => (vB r1) = v) r
theorem W_impl_validKind {x1 : Desc} {x2 : Rule} {res : Bool} (hm : M_impl_validKind n x1 x2 = some res) (hBw : B ≤ w0.heap.size) (p1_0 : repS w0 B (.slice pa1_0 pn1_0 pc1_0) x1.rules) (p2_0 : x2.name.b.length ≤ LEN) (p2_1 : inI x2.kind) (p2_2 : inI x2.size) (p2_4 : repS w0 B (.slice pa2_4 pn2_4 pc2_4) x2.bytes) (p2_5 : repS w0 B (.slice pa2_5 pn2_5 pc2_5) x2.names) (p2_6 : repS w0 B (.slice pa2_6 pn2_6 pc2_6) x2.tags) (p2_7 : repS w0 B (.slice pa2_7 pn2_7 pc2_7) x2.kids) : CallsR prog 129 [(.agg #[(.slice pa1_0 pn1_0 pc1_0)]), (.agg #[(Str.v x2.name), (vI x2.kind), (vI x2.size), (vB x2.little), (.slice pa2_4 pn2_4 pc2_4), (.slice pa2_5 pn2_5 pc2_5), (.slice pa2_6 pn2_6 pc2_6), (.slice pa2_7 pn2_7 pc2_7)])] w0 (Q_impl_validKind w0 B res) := by
 unfold M_impl_validKind at hm
 obtain ⟨fn, hf, hb, hN, hr⟩ := fnE func129
 refine goW hf (hb.trans z) (hN.trans z) (lb z) (Ws (E z (fb z) ?_))
 rintro _ w1n ⟨rfl, h26⟩
 have h11 := h26.below
 have h1o : Blk w1n w0.heap.size [(.slice pa1_0 pn1_0 pc1_0)] := h26.blk
 refine E z (fb z) ?_
 rintro _ w12 ⟨rfl, h27⟩
 have h10 := h27.below
 have h17 : Blk w12 w1n.heap.size [(Str.v x2.name), (vI x2.kind), (vI x2.size), (vB x2.little), (.slice pa2_4 pn2_4 pc2_4), (.slice pa2_5 pn2_5 pc2_5), (.slice pa2_6 pn2_6 pc2_6), (.slice pa2_7 pn2_7 pc2_7)] := h27.blk
 refine Ra z (Wn (Wq (Ws (R z (fd f_74_1 z) (R z (l1 g_3 z fid (h17.at z)) (Wn (WC_block (Ws (R z (eql z z) (Ra z (Wn (Wc z (fun hc1p => ?_) (fun hc1p => ?_)))))))))))))
 ·refine Wq ?_
  obtain ⟨u38, hu39, hm3a⟩ := bdS (ifT hm hc1p)
  refine WC_cut (fun a w => ∃ (x1q : Bool), x1q = u38 ∧ Sat 102 [(4, (vB x1q))] a ∧ Below w12.heap.size w12 w) ?_ ?_
  ·refine Wg (R z (lN (vs := [(Str.v x2.name), (vI x2.kind), (vI x2.size), (vB x2.little), (.slice pa2_4 pn2_4 pc2_4), (.slice pa2_5 pn2_5 pc2_5), (.slice pa2_6 pn2_6 pc2_6), (.slice pa2_7 pn2_7 pc2_7)]) g_74 z_74 z z fid (h17.row 0 8 z)) ?_)
   have h28 := lt_ h11.size h10.size
   obtain ⟨r3b, e3c, hm29⟩ := bdS hu39
   refine E z (fc call148 z (W_impl_plainRule (B := B) e3c (lt_ hBw h28) p2_0 p2_1 p2_2 ((p2_4.ext h11).ext h10) ((p2_5.ext h11).ext h10) ((p2_6.ext h11).ext h10) ((p2_7.ext h11).ext h10) (ii z))) ?_
   rintro _ w5m ⟨s1i, rfl⟩
   refine Rm z ?_
   rcases bs r3b with hc1d | hc1d
   ·refine Rh z hc1d (fd f_74_2 z) ?_
    have h2a := h17.ext s1i
    refine Rh z hc1d (l1 g_3 z fid (h2a.at z)) ?_
    obtain ⟨r3d, e3e, hm2b⟩ := bdS (ifT hm29 hc1d)
    refine Eg z z hc1d z (fc call95 z (W_impl_InRange (B := B) e3e (lt_ hBw (lt_ h28 s1i.size)) p2_2 (ii z) (ii z))) ?_
    rintro _ w5n ⟨s1l, rfl⟩
    refine R z (pT z hc1d z) (Rm z ?_)
    rcases bs r3d with hc16 | hc16
    ·have hm2c := ifT hm2b hc16
     refine Rh z hc16 (fd f_74_3 z) ?_
     have h2d := h2a.ext s1l
     refine Rh z hc16 (l1 g_4 z fid (h2d.at z)) (Rh z hc16 (not_ z) (Rh z hc16 (mv z) ?_))
     rcases bs (!x2.little) with hc1e | hc1e
     ·iterate 3 refine Nh z hc1e ?_
      exact Rh z hc16 (pT z hc1e z) (R z (pT z hc16 z) (Ra z (Wl (fun _ q => ⟨true, som (ifT hm2c hc1e), (q.k (s1 z)), (bup s1i s1l)⟩))))
     exact Rh z hc1e (fd f_74_2 z) (Rh z hc1e (l1 g_3 z fid (h2d.at z)) (Rh z hc1e (rd_gtr z z) (Rh z hc16 (pF z hc1e z) (R z (pT z hc16 z) (Ra z (Wl (fun _ q => ⟨decide (1 < x2.size), som (ifF hm2c hc1e), (q.k (s1 z)), (bup s1i s1l)⟩)))))))
    iterate 4 refine Nh z hc16 ?_
    exact Nv z (Nv z (Nv z (Nh z hc16 (R z (pF z hc16 z) (Ra z (Wl (fun _ q => ⟨false, som (ifF hm2b hc16), (q.k (s1 z)), (bup s1i s1l)⟩)))))))
   iterate 3 refine Nh z hc1d ?_
   exact R z (pF z hc1d z) (Rm z (Nh z z (Nh z z (Nh z z (Nh z z (Nv z (Nv z (Nv z (Nh z z (R z (pF z z z) (Ra z (Wl (fun _ q => ⟨false, som (ifF hm29 hc1d), (q.k (s1 z)), s1i⟩)))))))))))))
  rintro a3f w5o ⟨x1q, rfl, hS5p, s3g⟩
  revert a3f
  refine Wo ?_
  obtain rfl := som hm3a
  exact Wr (rtO (ret1 hr z ⟨(bup (bup h11 h10) s3g), z⟩))
 have hm2e := ifF hm hc1p
 refine Ws (R z (eql z z) (Ra z (Wn (Wc z (fun hc1r => ?_) (fun hc1r => ?_)))))
 ·refine Wq ?_
  obtain ⟨u3h, hu3i, hm3j⟩ := bdS (ifT hm2e hc1r)
  refine WC_cut (fun a w => ∃ (x1s : Bool), x1s = u3h ∧ Sat 102 [(4, (vB x1s))] a ∧ Below w12.heap.size w12 w) ?_ ?_
  ·refine Wg (R z (lN (vs := [(Str.v x2.name), (vI x2.kind), (vI x2.size), (vB x2.little), (.slice pa2_4 pn2_4 pc2_4), (.slice pa2_5 pn2_5 pc2_5), (.slice pa2_6 pn2_6 pc2_6), (.slice pa2_7 pn2_7 pc2_7)]) g_74 z_74 z z fid (h17.row 0 8 z)) ?_)
   have h2f := (p2_4.ext h11).ext h10
   have h2g := lt_ h11.size h10.size
   obtain ⟨r3k, e3l, hm2h⟩ := bdS hu3i
   refine E z (fc call148 z (W_impl_plainRule (B := B) e3l (lt_ hBw h2g) p2_0 p2_1 p2_2 h2f ((p2_5.ext h11).ext h10) ((p2_6.ext h11).ext h10) ((p2_7.ext h11).ext h10) (ii z))) ?_
   rintro _ w5q ⟨s1j, rfl⟩
   refine Rm z ?_
   rcases bs r3k with hc19 | hc19
   ·refine Rh z hc19 (fd f_74_4 z) (Rh z hc19 (l1 g_25 z fid ((h17.ext s1j).at z)) ?_)
    have h2i := h2f.ext s1j
    refine Rh z hc19 (lnR d_25 z h2i) ?_
    obtain ⟨r3m, e3n, hm3o⟩ := bdS (ifT hm2h hc19)
    refine Eg z z hc19 z (fc call95 z (W_impl_InRange (B := B) e3n (lt_ hBw (lt_ h2g s1j.size)) (inI_len (repS.len h2i)) (ii z) (ii z))) ?_
    rintro _ w5r ⟨s3p, rfl⟩
    exact R z (pT z hc19 z) (Ra z (Wl (fun _ q => ⟨r3m, som hm3o, (q.k (s1 z)), (bup s1j s3p)⟩)))
   iterate 4 refine Nh z hc19 ?_
   exact R z (pF z hc19 z) (Ra z (Wl (fun _ q => ⟨false, som (ifF hm2h hc19), (q.k (s1 z)), s1j⟩)))
  rintro a3q w5s ⟨x1s, rfl, hS5t, s3r⟩
  revert a3q
  refine Wo ?_
  obtain rfl := som hm3j
  exact Wr (rtO (ret1 hr z ⟨(bup (bup h11 h10) s3r), z⟩))
 have hm2j := ifF hm2e hc1r
 refine Ws (R z (eql z z) (Ra z (Wn (Wc z (fun hc1t => ?_) (fun hc1t => ?_)))))
 ·refine Wq ?_
  obtain ⟨u3s, hu3t, hm3u⟩ := bdS (ifT hm2j hc1t)
  refine WC_cut (fun a w => ∃ (x1u : Bool), x1u = u3s ∧ Sat 102 [(4, (vB x1u))] a ∧ Below w12.heap.size w12 w) ?_ ?_
  ·refine Wg (R z (lN (vs := [(Str.v x2.name), (vI x2.kind), (vI x2.size), (vB x2.little), (.slice pa2_4 pn2_4 pc2_4), (.slice pa2_5 pn2_5 pc2_5), (.slice pa2_6 pn2_6 pc2_6), (.slice pa2_7 pn2_7 pc2_7)]) g_74 z_74 z z fid (h17.row 0 8 z)) ?_)
   have h2k := lt_ h11.size h10.size
   obtain ⟨r3v, e3w, hm2l⟩ := bdS hu3t
   refine E z (fc call148 z (W_impl_plainRule (B := B) e3w (lt_ hBw h2k) p2_0 p2_1 p2_2 ((p2_4.ext h11).ext h10) ((p2_5.ext h11).ext h10) ((p2_6.ext h11).ext h10) ((p2_7.ext h11).ext h10) (ii z))) ?_
   rintro _ w5u ⟨s1m, rfl⟩
   refine Rm z ?_
   rcases bs r3v with hc1f | hc1f
   ·refine Rh z hc1f (fd f_74_2 z) (Rh z hc1f (l1 g_3 z fid ((h17.ext s1m).at z)) ?_)
    obtain ⟨r3x, e3y, hm3z⟩ := bdS (ifT hm2l hc1f)
    refine Eg z z hc1f z (fc call95 z (W_impl_InRange (B := B) e3y (lt_ hBw (lt_ h2k s1m.size)) p2_2 (ii z) (ii z))) ?_
    rintro _ w5v ⟨s40, rfl⟩
    exact R z (pT z hc1f z) (Ra z (Wl (fun _ q => ⟨r3x, som hm3z, (q.k (s1 z)), (bup s1m s40)⟩)))
   iterate 3 refine Nh z hc1f ?_
   exact R z (pF z hc1f z) (Ra z (Wl (fun _ q => ⟨false, som (ifF hm2l hc1f), (q.k (s1 z)), s1m⟩)))
  rintro a41 w5w ⟨x1u, rfl, hS5x, s42⟩
  revert a41
  refine Wo ?_
  obtain rfl := som hm3u
  exact Wr (rtO (ret1 hr z ⟨(bup (bup h11 h10) s42), z⟩))
 have hm2m := ifF hm2j hc1t
 refine Ws (R z (eql z z) (Ra z (Wn (Wc z (fun hc1v => ?_) (fun hc1v => ?_)))))
 ·refine Wq ?_
  obtain ⟨u43, hu44, hm45⟩ := bdS (ifT hm2m hc1v)
  refine WC_cut (fun a w => ∃ (x1w : Bool), x1w = u43 ∧ Sat 102 [(4, (vB x1w))] a ∧ Below w12.heap.size w12 w) ?_ ?_
  ·refine WC_draw (X := noX) 0 (.rd 0 (.ef 1 (.rd 2 (.rd 3 (.rd 4 (.rd 5 (.rd 6 (.rd 7 (.ef 8 (.rd 9 (.rd 10 (.rd 11 .done)))))))))))) mo (by kernel_rfl) fun w5y s1a _ => ?_
   have h2n := h17.ext s1a
   refine dR z z (lN (vs := [(Str.v x2.name), (vI x2.kind), (vI x2.size), (vB x2.little), (.slice pa2_4 pn2_4 pc2_4), (.slice pa2_5 pn2_5 pc2_5), (.slice pa2_6 pn2_6 pc2_6), (.slice pa2_7 pn2_7 pc2_7)]) g_74 z_74 z z fid (h2n.row 0 8 z)) ?_
   have h2o := ((p2_7.ext h11).ext h10).ext s1a
   have h2p := lt_ (lt_ h11.size h10.size) s1a.size
   obtain ⟨r46, e47, hm2q⟩ := bdS hu44
   refine dE z z (fc call148 z (W_impl_plainRule (B := B) e47 (lt_ hBw h2p) p2_0 p2_1 p2_2 (((p2_4.ext h11).ext h10).ext s1a) (((p2_5.ext h11).ext h10).ext s1a) (((p2_6.ext h11).ext h10).ext s1a) h2o (ii z))) (.inr fun _ _ h => chgB (h.1)) ?_
   rintro _ w5z ⟨s1g, rfl⟩
   refine dR z z (mv z) ?_
   rcases bs r46 with hc13 | hc13
   ·refine dRg z z z hc13 z (lN (vs := [(.slice pa1_0 pn1_0 pc1_0)]) g_31 z_31 z z fid ((((h1o.ext h10).ext s1a).ext s1g).row 0 1 z)) (dRg z z z hc13 z (fd f_74_7 z) (dRg z z z hc13 z (l1 g_72 z fid ((h2n.ext s1g).at z)) ?_))
    obtain ⟨x60, e48, hm49⟩ := bdS (ifT hm2q hc13)
    refine dRXg z z z hc13 z (at_ (α := Int) d_72 z_3 z z z (h2o.ext s1g) e48) ?_
    rintro _ ⟨b61, o62, cs63, rfl, h4a, h4b, h64⟩
    obtain ⟨rfl, h4c⟩ := Int_open h4b
    refine dRg z z z hc13 z (l1 g_3 z fid (h4a.at0 z)) ?_
    obtain ⟨r4d, e4e, hm4f⟩ := bdS hm49
    refine dEg z z z hc13 z (fc call149 z (W_impl_IntegerLimit (B := B) e4e (lt_ hBw (lt_ h2p s1g.size)) ((((p1_0.ext h11).ext h10).ext s1a).ext s1g) h4c)) (.inr fun _ _ h => chgB (h.1)) ?_
    rintro _ w65 ⟨s4g, rfl, h66⟩
    exact dRg z z z hc13 z (rd_gtr z z) (dR z z (pT z hc13 z) (dR z z (asg z) (PR_done (fun _ q => ⟨decide (0 < r4d), som hm4f, (q.k (s1 z)), (bup (bup s1a s1g) s4g)⟩))))
   iterate 5 refine dRn z z z hc13 z ?_
   exact dEn z z z hc13 z (dRn z z z hc13 z (dR z z (pF z hc13 z) (dR z z (asg z) (PR_done (fun _ q => ⟨false, som (ifF hm2q hc13), (q.k (s1 z)), (bup s1a s1g)⟩)))))
  rintro a4h w67 ⟨x1w, rfl, hS68, s4i⟩
  revert a4h
  refine Wo ?_
  obtain rfl := som hm45
  exact Wr (rtO (ret1 hr z ⟨(bup (bup h11 h10) s4i), z⟩))
 have hm2r := ifF hm2m hc1v
 refine Ws (R z (eql z z) (Ra z (Wn (Wc z (fun hc1x => ?_) (fun hc1x => ?_)))))
 ·refine Wq ?_
  obtain ⟨u4j, hu4k, hm4l⟩ := bdS (ifT hm2r hc1x)
  refine WC_cut (fun a w => ∃ (x1y : Bool), x1y = u4j ∧ Sat 102 [(4, (vB x1y))] a ∧ Below w12.heap.size w12 w) ?_ ?_
  ·refine WC_draw (X := noX) 0 (.rd 0 (.ef 1 (.rd 2 (.rd 3 (.rd 4 (.rd 5 (.rd 6 (.rd 7 (.ef 8 (.rd 9 (.rd 10 (.rd 11 .done)))))))))))) mo (by kernel_rfl) fun w69 s1b _ => ?_
   have h2s := h17.ext s1b
   refine dR z z (lN (vs := [(Str.v x2.name), (vI x2.kind), (vI x2.size), (vB x2.little), (.slice pa2_4 pn2_4 pc2_4), (.slice pa2_5 pn2_5 pc2_5), (.slice pa2_6 pn2_6 pc2_6), (.slice pa2_7 pn2_7 pc2_7)]) g_74 z_74 z z fid (h2s.row 0 8 z)) ?_
   have h2t := ((p2_7.ext h11).ext h10).ext s1b
   have h2u := lt_ (lt_ h11.size h10.size) s1b.size
   obtain ⟨r4m, e4n, hm2v⟩ := bdS hu4k
   refine dE z z (fc call148 z (W_impl_plainRule (B := B) e4n (lt_ hBw h2u) p2_0 p2_1 p2_2 (((p2_4.ext h11).ext h10).ext s1b) (((p2_5.ext h11).ext h10).ext s1b) (((p2_6.ext h11).ext h10).ext s1b) h2t (ii z))) (.inr fun _ _ h => chgB (h.1)) ?_
   rintro _ w6a ⟨s1h, rfl⟩
   refine dR z z (mv z) ?_
   rcases bs r4m with hc14 | hc14
   ·refine dRg z z z hc14 z (lN (vs := [(.slice pa1_0 pn1_0 pc1_0)]) g_31 z_31 z z fid ((((h1o.ext h10).ext s1b).ext s1h).row 0 1 z)) (dRg z z z hc14 z (fd f_74_7 z) (dRg z z z hc14 z (l1 g_72 z fid ((h2s.ext s1h).at z)) ?_))
    obtain ⟨x6b, e4o, hm4p⟩ := bdS (ifT hm2v hc14)
    refine dRXg z z z hc14 z (at_ (α := Int) d_72 z_3 z z z (h2t.ext s1h) e4o) ?_
    rintro _ ⟨b6c, o6d, cs6e, rfl, h4q, h4r, h6f⟩
    obtain ⟨rfl, h4s⟩ := Int_open h4r
    refine dRg z z z hc14 z (l1 g_3 z fid (h4q.at0 z)) ?_
    obtain ⟨r4t, e4u, hm4v⟩ := bdS hm4p
    refine dEg z z z hc14 z (fc call149 z (W_impl_IntegerLimit (B := B) e4u (lt_ hBw (lt_ h2u s1h.size)) ((((p1_0.ext h11).ext h10).ext s1b).ext s1h) h4s)) (.inr fun _ _ h => chgB (h.1)) ?_
    rintro _ w6g ⟨s4w, rfl, h6h⟩
    exact dRg z z z hc14 z (rd_gtr z z) (dR z z (pT z hc14 z) (dR z z (asg z) (PR_done (fun _ q => ⟨decide (0 < r4t), som hm4v, (q.k (s1 z)), (bup (bup s1b s1h) s4w)⟩))))
   iterate 5 refine dRn z z z hc14 z ?_
   exact dEn z z z hc14 z (dRn z z z hc14 z (dR z z (pF z hc14 z) (dR z z (asg z) (PR_done (fun _ q => ⟨false, som (ifF hm2v hc14), (q.k (s1 z)), (bup s1b s1h)⟩)))))
  rintro a4x w6i ⟨x1y, rfl, hS6j, s4y⟩
  revert a4x
  refine Wo ?_
  obtain rfl := som hm4l
  exact Wr (rtO (ret1 hr z ⟨(bup (bup h11 h10) s4y), z⟩))
 have hm2w := ifF hm2r hc1x
 refine Ws (R z (eql z z) (Ra z (Wn (Wc z (fun hc1z => ?_) (fun hc1z => ?_)))))
 ·refine Ws (R z (lN (vs := [(Str.v x2.name), (vI x2.kind), (vI x2.size), (vB x2.little), (.slice pa2_4 pn2_4 pc2_4), (.slice pa2_5 pn2_5 pc2_5), (.slice pa2_6 pn2_6 pc2_6), (.slice pa2_7 pn2_7 pc2_7)]) g_74 z_74 z z fid (h17.row 0 8 z)) ?_)
  obtain ⟨r6k, e4z, hm50⟩ := bdS (ifT hm2w hc1z)
  refine E z (fc call150 z (W_impl_validSequence (B := B) e4z (lt_ hBw (lt_ h11.size h10.size)) p2_0 p2_1 p2_2 ((p2_4.ext h11).ext h10) ((p2_5.ext h11).ext h10) ((p2_6.ext h11).ext h10) ((p2_7.ext h11).ext h10))) ?_
  rintro _ w6l ⟨s51, rfl⟩
  refine Ra z (Wn ?_)
  obtain rfl := som hm50
  exact Wr (rtO (ret1 hr z ⟨(bup (bup h11 h10) s51), z⟩))
 have hm2x := ifF hm2w hc1z
 refine Ws (R z (eql z z) (Ra z (Wn (Wc z (fun hc20 => ?_) (fun hc20 => ?_)))))
 ·refine Ws (R z (lN (vs := [(.slice pa1_0 pn1_0 pc1_0)]) g_31 z_31 z z fid ((h1o.ext h10).row 0 1 z)) (R z (lN (vs := [(Str.v x2.name), (vI x2.kind), (vI x2.size), (vB x2.little), (.slice pa2_4 pn2_4 pc2_4), (.slice pa2_5 pn2_5 pc2_5), (.slice pa2_6 pn2_6 pc2_6), (.slice pa2_7 pn2_7 pc2_7)]) g_74 z_74 z z fid (h17.row 0 8 z)) ?_))
  obtain ⟨r6m, e52, hm53⟩ := bdS (ifT hm2x hc20)
  refine E z (fc call151 z (W_impl_validChoice (B := B) e52 (lt_ hBw (lt_ h11.size h10.size)) ((p1_0.ext h11).ext h10) p2_0 p2_1 p2_2 ((p2_4.ext h11).ext h10) ((p2_5.ext h11).ext h10) ((p2_6.ext h11).ext h10) ((p2_7.ext h11).ext h10))) ?_
  rintro _ w6n ⟨s54, rfl⟩
  refine Ra z (Wn ?_)
  obtain rfl := som hm53
  exact Wr (rtO (ret1 hr z ⟨(bup (bup h11 h10) s54), z⟩))
 refine Wq (Ws (R z (eql z z) (Ra z (Wn ?_))))
 obtain ⟨u55, hu2y, hm2z⟩ := bdS (ifF hm2x hc20)
 refine WC_cut (fun a w => ∃ (x21 : Bool), x21 = u55 ∧ Sat 102 [(3, (.pointer (some ⟨w1n.heap.size, 0, none⟩))), (6, (vI x2.kind)), (80, (vB x21))] a ∧ Below w12.heap.size w12 w) ?_ ?_
 ·refine Wc z (fun hc22 => ?_) (fun hc22 => ?_)
  ·exact WC_skip (fun _ q => ⟨x2.kind == 8, som (ifT hu2y hc22), (q.k (s3 z z z)), (br w12)⟩)
  exact Wg (R z (eql z z) (Ra z (Wl (fun _ q => ⟨x2.kind == 9, som (ifF hu2y hc22), (q.k (s3 z z z)), (br w12)⟩))))
 rintro a56 w30 ⟨x21, rfl, hS6o, s15⟩
 revert a56
 refine Wo (Wc z (fun hc23 => ?_) (fun hc23 => ?_))
 ·refine Ws (R z (lN (vs := [(Str.v x2.name), (vI x2.kind), (vI x2.size), (vB x2.little), (.slice pa2_4 pn2_4 pc2_4), (.slice pa2_5 pn2_5 pc2_5), (.slice pa2_6 pn2_6 pc2_6), (.slice pa2_7 pn2_7 pc2_7)]) g_74 z_74 z z fid ((h17.ext s15).row 0 8 z)) ?_)
  obtain ⟨r6p, e57, hm58⟩ := bdS (ifT hm2z hc23)
  refine E z (fc call148 z (W_impl_plainRule (B := B) e57 (lt_ hBw (lt_ (lt_ h11.size h10.size) s15.size)) p2_0 p2_1 p2_2 (((p2_4.ext h11).ext h10).ext s15) (((p2_5.ext h11).ext h10).ext s15) (((p2_6.ext h11).ext h10).ext s15) (((p2_7.ext h11).ext h10).ext s15) (ii z))) ?_
  rintro _ w6q ⟨s59, rfl⟩
  refine Ra z (Wn ?_)
  obtain rfl := som hm58
  exact Wr (rtO (ret1 hr z ⟨(bup (bup (bup h11 h10) s15) s59), z⟩))
 have hm31 := ifF hm2z hc23
 refine Ws (R z (eql z z) (Ra z (Wn (Wc z (fun hc24 => ?_) (fun hc24 => ?_)))))
 ·refine Wq ?_
  obtain ⟨u5a, hu5b, hm5c⟩ := bdS (ifT hm31 hc24)
  refine WC_cut (fun a w => ∃ (x25 : Bool), x25 = u5a ∧ Sat 102 [(4, (vB x25))] a ∧ Below w30.heap.size w30 w) ?_ ?_
  ·refine Wg ?_
   have h32 := h17.ext s15
   refine R z (lN (vs := [(Str.v x2.name), (vI x2.kind), (vI x2.size), (vB x2.little), (.slice pa2_4 pn2_4 pc2_4), (.slice pa2_5 pn2_5 pc2_5), (.slice pa2_6 pn2_6 pc2_6), (.slice pa2_7 pn2_7 pc2_7)]) g_74 z_74 z z fid (h32.row 0 8 z)) ?_
   have h33 := ((p2_4.ext h11).ext h10).ext s15
   obtain ⟨r5d, e5e, hm34⟩ := bdS hu5b
   refine E z (fc call148 z (W_impl_plainRule (B := B) e5e (lt_ hBw (lt_ (lt_ h11.size h10.size) s15.size)) p2_0 p2_1 p2_2 h33 (((p2_5.ext h11).ext h10).ext s15) (((p2_6.ext h11).ext h10).ext s15) (((p2_7.ext h11).ext h10).ext s15) (ii z))) ?_
   rintro _ w6r ⟨s1k, rfl⟩
   refine Rm z ?_
   rcases bs r5d with hc1c | hc1c
   ·have hm35 := ifT hm34 hc1c
    refine Rh z hc1c (fd f_74_4 z) ?_
    have h36 := h32.ext s1k
    refine Rh z hc1c (l1 g_25 z fid (h36.at z)) ?_
    have h37 := h33.ext s1k
    refine Rh z hc1c (lnR d_25 z h37) (Rh z hc1c (eql z z) (R z (pT z hc1c z) (Rm z ?_)))
    rcases bs ((x2.bytes.length : Int) == 1) with hc18 | hc18
    ·refine Rh z hc18 (fd f_74_4 z) (Rh z hc18 (l1 g_25 z fid (h36.at z)) ?_)
     obtain ⟨x5f, e5g, hm5h⟩ := bdS (ifT hm35 hc18)
     refine RXg z z hc18 z (at_ (α := UInt8) d_25 z_5 z z z h37 e5g) ?_
     rintro _ ⟨b6s, o6t, cs6u, rfl, h5i, h5j, h6v⟩
     obtain rfl := UInt8_open h5j
     exact Rh z hc18 (l1 g_5 z fid (h5i.at0 z)) (Rh z hc18 (nq z z) (R z (pT z hc18 z) (Ra z (Wl (fun _ q => ⟨(byteI x5f) != (byteI (92 : UInt8)), som hm5h, (q.k (s1 z)), s1k⟩)))))
    iterate 5 refine Nh z hc18 ?_
    exact R z (pF z hc18 z) (Ra z (Wl (fun _ q => ⟨false, som (ifF hm35 hc18), (q.k (s1 z)), s1k⟩)))
   iterate 4 refine Nh z hc1c ?_
   exact R z (pF z hc1c z) (Rm z (Nh z z (Nh z z (Nh z z (Nh z z (Nh z z (R z (pF z z z) (Ra z (Wl (fun _ q => ⟨false, som (ifF hm34 hc1c), (q.k (s1 z)), s1k⟩))))))))))
  rintro a5k w6w ⟨x25, rfl, hS6x, s5l⟩
  revert a5k
  refine Wo ?_
  obtain rfl := som hm5c
  exact Wr (rtO (ret1 hr z ⟨(bup (bup (bup h11 h10) s15) s5l), z⟩))
 refine Wk (Ws (Ra z (Wn ?_)))
 obtain rfl := som (ifF hm31 hc24)
 exact Wr (ret1 hr z ⟨(bup (bup h11 h10) s15), z⟩)
def Q_impl_IsValidRule (w0 : World) (B : Nat) (r : Bool) (v : Value) (w' : World) : Prop := Below w0.heap.size w0 w' ∧ (fun r1 => (vB r1) = v) r
theorem W_impl_IsValidRule {x1 : Desc} {x2 : Int} {res : Bool} (hm : M_impl_IsValidRule n x1 x2 = some res) (hBw : B ≤ w0.heap.size) (p1_0 : repS w0 B (.slice pa1_0 pn1_0 pc1_0) x1.rules) (p2_0 : inI x2) : CallsR prog 96 [(.agg #[(.slice pa1_0 pn1_0 pc1_0)]), (vI x2)] w0 (Q_impl_IsValidRule w0 B res) := by
 unfold M_impl_IsValidRule at hm
 obtain ⟨fn, hf, hb, hN, hr⟩ := fnE func96
 refine goW hf (hb.trans z) (hN.trans z) (lb z) (Ws (E z (fb z) ?_))
 rintro _ w3i ⟨rfl, h2f⟩
 have h17 := h2f.below
 have h1q : Blk w3i w0.heap.size [(.slice pa1_0 pn1_0 pc1_0)] := h2f.blk
 refine Ra z (Wn (Wq (Ws (R z (lN (vs := [(.slice pa1_0 pn1_0 pc1_0)]) g_31 z_31 z z fid (h1q.row 0 1 z)) (Rm z ?_)))))
 have h2g := p1_0.ext h17
 obtain ⟨r51, e3j, hm2h⟩ := bdS hm
 refine E z (fc call106 z (W_impl_hasRule (B := B) e3j (lt_ hBw h17.size) h2g p2_0)) ?_
 rintro _ w15 ⟨s16, rfl⟩
 refine R z (not_ z) (Wn (Wc z (fun hc1r => ?_) (fun hc1r => ?_)))
 ·refine Ws (Ra z (Wn ?_))
  obtain rfl := som (ifT hm2h hc1r)
  exact Wr (ret1 hr z ⟨(bup h17 s16), z⟩)
 refine Wk (Ws (R z (fd f_31_0 z) ?_))
 have h2i := h1q.ext s16
 refine R z (l1 g_29 z fid (h2i.at z)) (Rm z ?_)
 obtain ⟨x10, e3k, hm3l⟩ := bdS (ifF hm2h hc1r)
 have h2j := h2g.ext s16
 refine RX z (at_ (α := Rule) d_29 z_74 z z z h2j e3k) ?_
 rintro _ ⟨b52, o53, cs54, rfl, h3m, h3n, h55⟩
 obtain ⟨a1s, n1t, c1u, a1v, n1w, c1x, a1y, n1z, c20, a1d, n1e, c1f, rfl, h2k, h3o, h3p, h3q, h3r, h3s, h2l⟩ := Rule_open h3n
 refine R z (lN (vs := [(Str.v x10.name), (vI x10.kind), (vI x10.size), (vB x10.little), (.slice a1s n1t c1u), (.slice a1v n1w c1x), (.slice a1y n1z c20), (.slice a1d n1e c1f)]) g_74 z_74 z z fid h3m) (E z (fa zero_74) ?_)
 rintro _ w3t ⟨rfl, h2m⟩
 have h13 := h2m.below
 have h2n : Blk w3t w15.heap.size [(Str.v (⟨[]⟩ : Str)), (vI 0), (vI 0), (vB false), (.slice none 0 0), (.slice none 0 0), (.slice none 0 0), (.slice none 0 0)] := h2m.blk
 refine E0 (fs (cur' := [(Str.v x10.name), (vI x10.kind), (vI x10.size), (vB x10.little), (.slice a1s n1t c1u), (.slice a1v n1w c1x), (.slice a1y n1z c20), (.slice a1d n1e c1f)]) z_74 z z h2n z (lb z) (oA z) z) ?_
 rintro _ w2o ⟨h1l, s3u⟩
 have h12 := s3u.one
 refine Wn (Wq (Wq ?_))
 obtain ⟨u3v, hu3w, hm2p⟩ := bdS hm3l
 refine WC_cut (fun a w => ∃ (x21 : Bool), x21 = u3v ∧ Sat 65 [(1, (vI x2)), (2, (.pointer (some ⟨w0.heap.size, 0, none⟩))), (5, (.pointer (some ⟨w15.heap.size, 0, none⟩))), (31, (vB x21))] a ∧ Below w2o.heap.size w2o w) ?_ ?_
 ·refine Wg (R z (fd f_74_0 z) (R z (l1 g_9 z fid (h1l.at z)) ?_))
  obtain ⟨r3x, e3y, hm2q⟩ := bdS hu3w
  refine E z (fc call127 z (W_impl_IsName (B := B) e3y (lt_ hBw (lt_ (lt_ (lt_ h17.size s16.size) h13.size) h12.size)) h2k)) ?_
  rintro _ w56 ⟨s1m, rfl⟩
  refine R z (not_ z) (Rm z ?_)
  rcases bs (!r3x) with hc14 | hc14
  ·iterate 3 refine Nh z hc14 ?_
   exact Nv z (Nv z (Nv z (Nh z hc14 (R z (pT z hc14 z) (Wl (fun _ q => ⟨true, som (ifT hm2q hc14), (q.k (s4 z z z z)), s1m⟩))))))
  have hm2r := ifF hm2q hc14
  refine Rh z hc14 (fd f_74_3 z) ?_
  have h2s := h1l.ext s1m
  refine Rh z hc14 (l1 g_4 z fid (h2s.at z)) (Rh z hc14 (mv z) ?_)
  rcases bs x10.little with hc19 | hc19
  ·exact Rh z hc19 (fd f_74_1 z) (Rh z hc19 (l1 g_3 z fid (h2s.at z)) (Rh z hc19 (nq z z) (Rh z hc14 (pT z hc19 z) (R z (pF z hc14 z) (Wl (fun _ q => ⟨x10.kind != 1, som (ifT hm2r hc19), (q.k (s4 z z z z)), s1m⟩))))))
  iterate 3 refine Nh z hc19 ?_
  exact Rh z hc14 (pF z hc19 z) (R z (pF z hc14 z) (Wl (fun _ q => ⟨false, som (ifF hm2r hc19), (q.k (s4 z z z z)), s1m⟩)))
 rintro a3z w1i ⟨x21, rfl, hS57, s11⟩
 revert a3z
 refine Wo (Wc z (fun hc22 => ?_) (fun hc22 => ?_))
 ·refine Ws (Ra z (Wn ?_))
  obtain rfl := som (ifT hm2p hc22)
  exact Wr (ret1 hr z ⟨(bup (bM (bup (bup h17 s16) h13) h12 (mem1le (lt_ h17.size s16.size))) s11), z⟩)
 refine Wk (Wq (Ws (R z (fd f_31_0 z) ?_)))
 have h2t := ((h2i.ext h13).chg h12 (djs (mm1 h1q.lt s16.size))).ext s11
 refine R z (l1 g_29 z fid (h2t.at z)) (Rm z ?_)
 obtain ⟨x1n, e40, hm41⟩ := bdS (ifF hm2p hc22)
 have h1h := lt_ h17.size s16.size
 have h1j := mem1le (lt_ hBw h1h)
 have h2u := ((h2j.ext h13).chg h12 (lg h1j)).ext s11
 refine RX z (rd_sliceX d_29 z_74 z z h2u z z e40) ?_
 rintro _ ⟨a23, n24, c25, rfl, h26⟩
 refine R z (lnR d_29 z h26) (Rm z (Wn ?_))
 obtain ⟨u58, hu42, hm2v⟩ := bdS hm41
 refine WC_forN (σ := Unit) (ρ := Bool) (fun (k27 : Nat) (_ : Unit) a w => Sat 65 [(1, (vI x2)), (2, (.pointer (some ⟨w0.heap.size, 0, none⟩))), (5, (.pointer (some ⟨w15.heap.size, 0, none⟩))), (35, (.slice a23 n24 c25)), (36, (vI (x1n.length : Int))), (37, (vI ((k27 : Nat) : Int)))] a ∧ Below w1i.heap.size w1i w) (fun (_ : Unit) a w => Sat 65 [(1, (vI x2)), (2, (.pointer (some ⟨w0.heap.size, 0, none⟩))), (5, (.pointer (some ⟨w15.heap.size, 0, none⟩)))] a ∧ Below w1i.heap.size w1i w) (fun r ex a w => ex = .ret ∧ RetPost prog fn (Q_impl_IsValidRule w0 B r) a w) hu42 ?_ ?_ ?_ ?_ ?_
 ·exact fun _ q => ⟨(q.k (s6 z z z z z z)), (br w1i)⟩
 ·rintro k27 _ a59 w43 o5a hk2w ⟨hS44, s1g⟩ hm45
  refine Wu (e := [(1, (vI x2)), (2, (.pointer (some ⟨w0.heap.size, 0, none⟩))), (5, (.pointer (some ⟨w15.heap.size, 0, none⟩))), (35, (.slice a23 n24 c25)), (36, (vI (x1n.length : Int))), (37, (vI ((k27 : Nat) : Int)))]) (N := 65) ?_ hS44
  refine Ws (R z (lss z z) (Wn (Wq (Wc z (fun _ => ?_) (fun hc => (nolt hk2w hc).elim)))))
  refine Wk (Wq (WC_block (Ws ?_)))
  obtain ⟨x1c, e46, hm2x⟩ := bdS hm45
  refine RX z (at_ (α := Rule) d_29 z_74 z z z (h26.ext s1g) e46) ?_
  rintro _ ⟨b5b, o5c, cs5d, rfl, h47, h48, h5e⟩
  obtain ⟨a2y, n2z, c30, a31, n32, c33, a34, n35, c36, a37, n38, c39, rfl, h5f, h5g, h5h, h5i, h5j, h5k, h5l⟩ := Rule_open h48
  refine R z (lN (vs := [(Str.v x1c.name), (vI x1c.kind), (vI x1c.size), (vB x1c.little), (.slice a2y n2z c30), (.slice a31 n32 c33), (.slice a34 n35 c36), (.slice a37 n38 c39)]) g_74 z_74 z z fid h47) (E z (fa zero_74) ?_)
  rintro _ w49 ⟨rfl, h3a⟩
  have h28 := h3a.below
  have h4a : Blk w49 w43.heap.size [(Str.v (⟨[]⟩ : Str)), (vI 0), (vI 0), (vB false), (.slice none 0 0), (.slice none 0 0), (.slice none 0 0), (.slice none 0 0)] := h3a.blk
  refine E0 (fs (cur' := [(Str.v x1c.name), (vI x1c.kind), (vI x1c.size), (vB x1c.little), (.slice a2y n2z c30), (.slice a31 n32 c33), (.slice a34 n35 c36), (.slice a37 n38 c39)]) z_74 z z h4a z (lb z) (oA z) z) ?_
  rintro _ w5m ⟨h4b, s4c⟩
  have h29 := s4c.one
  refine Wn (Ws (R z (fd f_74_0 z) (R z (l1 g_9 z fid (h4b.at z)) (R z (fd f_74_0 z) (R z (l1 g_9 z fid (((((h1l.ext s11).ext s1g).ext h28).chg h29 (djs (mm1 h2n.lt (lt_ (lt_ h12.size s11.size) s1g.size)))).at z)) (R z (rd_eqlT z z) (Wn (Wc z (fun hc2a => ?_) (fun hc2a => ?_)))))))))
  ·exact Ws (Ra z (Wn (Wr (rtO (QO_retL (som (ifT hm2x hc2a)).symm (ret1 hr z ⟨(bM (bup (bup (bup (bM (bup (bup h17 s16) h13) h12 (mem1le h1h)) s11) s1g) h28) h29 (mem1le (lt_ (lt_ (lt_ (lt_ h1h h13.size) h12.size) s11.size) s1g.size))), z⟩))))))
  exact Wk (Wg (R z (inc_ hk2w (lt_ (repS.len h26) LEN_le) z z) (Rm z (Wl (fun _ q => ⟨(), (som (ifF hm2x hc2a)).symm, ⟨(q.k (s6 z z z z z z)), (bM (bup s1g h28) h29 (mem1le s1g.size))⟩⟩)))))
 ·rintro _ a5n w5o ⟨hS4d, s4e⟩
  refine Wu (e := [(1, (vI x2)), (2, (.pointer (some ⟨w0.heap.size, 0, none⟩))), (5, (.pointer (some ⟨w15.heap.size, 0, none⟩))), (35, (.slice a23 n24 c25)), (36, (vI (x1n.length : Int))), (37, (vI ((x1n.length : Nat) : Int)))]) (N := 65) ?_ hS4d
  refine Ws (R z (lss z z) (Wn (Wq (Wc z (fun hc => (noltt hc).elim) (fun _ => ?_)))))
  exact WC_exit (fun a' ha' => ⟨rfl, ⟨(Sat.weaken ha' (s3 z z z)), s4e⟩⟩)
 ·rintro _ a4f w1k rfl ⟨hS5p, s18⟩
  have hm4g := elL hm2v
  revert a4f
  refine Wo (Wq (Ws (R z (fd f_74_7 z) ?_)))
  have h3b := (h1l.ext s11).ext s18
  refine R z (l1 g_72 z fid (h3b.at z)) ?_
  have h2b := (((h2l.ext h13).chg h12 (lg h1j)).ext s11).ext s18
  refine R z (lnR d_72 z h2b) (Rm z (Wn ?_))
  obtain ⟨u5q, hu4h, hm3c⟩ := bdS hm4g
  refine WC_forN (σ := Unit) (ρ := Bool) (fun (k1o : Nat) (_ : Unit) a w => Sat 65 [(1, (vI x2)), (2, (.pointer (some ⟨w0.heap.size, 0, none⟩))), (5, (.pointer (some ⟨w15.heap.size, 0, none⟩))), (48, (.slice a1d n1e c1f)), (49, (vI (x10.kids.length : Int))), (50, (vI ((k1o : Nat) : Int)))] a ∧ Below w1k.heap.size w1k w) (fun (_ : Unit) a w => Sat 65 [(2, (.pointer (some ⟨w0.heap.size, 0, none⟩))), (5, (.pointer (some ⟨w15.heap.size, 0, none⟩)))] a ∧ Below w1k.heap.size w1k w) (fun r ex a w => ex = .ret ∧ RetPost prog fn (Q_impl_IsValidRule w0 B r) a w) hu4h ?_ ?_ ?_ ?_ ?_
  ·exact fun _ q => ⟨(q.k (s6 z z z z z z)), (br w1k)⟩
  ·rintro k1o _ a5r w1p o5s hk3d ⟨hS4i, s2c⟩ hm4j
   refine Wu (e := [(1, (vI x2)), (2, (.pointer (some ⟨w0.heap.size, 0, none⟩))), (5, (.pointer (some ⟨w15.heap.size, 0, none⟩))), (48, (.slice a1d n1e c1f)), (49, (vI (x10.kids.length : Int))), (50, (vI ((k1o : Nat) : Int)))]) (N := 65) ?_ hS4i
   refine Ws (R z (lss z z) (Wn (Wq (Wc z (fun _ => ?_) (fun hc => (nolt hk3d hc).elim)))))
   refine Wk (Wq (WC_block (Ws ?_)))
   obtain ⟨x3e, e4k, hm4l⟩ := bdS hm4j
   refine RX z (at_ (α := Int) d_72 z_3 z z z (h2b.ext s2c) e4k) ?_
   rintro _ ⟨b5t, o5u, cs5v, rfl, h4m, h4n, h5w⟩
   obtain ⟨rfl, h5x⟩ := Int_open h4n
   refine R z (l1 g_3 z fid (h4m.at0 z)) (Ra z (Wn (Wq ?_)))
   obtain ⟨u4o, hu3f, hm3g⟩ := bdS hm4l
   refine WC_cut (fun a w => ∃ (x2d : Bool), x2d = u4o ∧ Sat 65 [(1, (vI x2)), (2, (.pointer (some ⟨w0.heap.size, 0, none⟩))), (5, (.pointer (some ⟨w15.heap.size, 0, none⟩))), (48, (.slice a1d n1e c1f)), (49, (vI (x10.kids.length : Int))), (50, (vI ((k1o : Nat) : Int))), (60, (vB x2d))] a ∧ Below w1p.heap.size w1p w) ?_ ?_
   ·refine Wg (Rm z (R z (lss z z) (Rm z ?_)))
    rcases bs (decide (x3e < 0)) with hc1a | hc1a
    ·iterate 3 refine Nh z hc1a ?_
     exact R z (pT z hc1a z) (Wl (fun _ q => ⟨true, som (ifT hu3f hc1a), (q.k (s7 z z z z z z z)), (br w1p)⟩))
    exact Rh z hc1a (mv z) (Rh z hc1a (mv z) (Rh z hc1a (rd_geq z z) (R z (pF z hc1a z) (Wl (fun _ q => ⟨decide (x2 ≤ x3e), som (ifF hu3f hc1a), (q.k (s7 z z z z z z z)), (br w1p)⟩)))))
   rintro a4p w5y ⟨x2d, rfl, hS5z, s3h⟩
   revert a4p
   refine Wo (Wc z (fun hc2e => ?_) (fun hc2e => ?_))
   ·exact Ws (Ra z (Wn (Wr (rtO (QO_retL (som (ifT hm3g hc2e)).symm (ret1 hr z ⟨(bup (bup (bup (bup (bM (bup (bup h17 s16) h13) h12 (mem1le h1h)) s11) s18) s2c) s3h), z⟩))))))
   exact Wk (Wg (R z (inc_ hk3d (lt_ (repS.len h2l) LEN_le) z z) (Rm z (Wl (fun _ q => ⟨(), (som (ifF hm3g hc2e)).symm, ⟨(q.k (s6 z z z z z z)), (bup s2c s3h)⟩⟩)))))
  ·rintro _ a60 w61 ⟨hS4q, s4r⟩
   refine Wu (e := [(1, (vI x2)), (2, (.pointer (some ⟨w0.heap.size, 0, none⟩))), (5, (.pointer (some ⟨w15.heap.size, 0, none⟩))), (48, (.slice a1d n1e c1f)), (49, (vI (x10.kids.length : Int))), (50, (vI ((x10.kids.length : Nat) : Int)))]) (N := 65) ?_ hS4q
   refine Ws (R z (lss z z) (Wn (Wq (Wc z (fun hc => (noltt hc).elim) (fun _ => ?_)))))
   exact WC_exit (fun a' ha' => ⟨rfl, ⟨(Sat.weaken ha' (s2 z z)), s4r⟩⟩)
  ·rintro _ a4s w62 rfl ⟨hS63, s1b⟩
   have hm4t := elL hm3c
   revert a4s
   refine Wo (Ws (R z (lN (vs := [(.slice pa1_0 pn1_0 pc1_0)]) g_31 z_31 z z fid (((h2t.ext s18).ext s1b).row 0 1 z)) (R z (lN (vs := [(Str.v x10.name), (vI x10.kind), (vI x10.size), (vB x10.little), (.slice a1s n1t c1u), (.slice a1v n1w c1x), (.slice a1y n1z c20), (.slice a1d n1e c1f)]) g_74 z_74 z z fid ((h3b.ext s1b).row 0 8 z)) ?_)))
   obtain ⟨r64, e4u, hm4v⟩ := bdS hm4t
   refine E z (fc call129 z (W_impl_validKind (B := B) e4u (lt_ hBw (lt_ (lt_ (lt_ (lt_ (lt_ h1h h13.size) h12.size) s11.size) s18.size) s1b.size)) ((h2u.ext s18).ext s1b) h2k h3o h3p (((((h3q.ext h13).chg h12 (lg h1j)).ext s11).ext s18).ext s1b) (((((h3r.ext h13).chg h12 (lg h1j)).ext s11).ext s18).ext s1b) (((((h3s.ext h13).chg h12 (lg h1j)).ext s11).ext s18).ext s1b) (h2b.ext s1b))) ?_
   rintro _ w65 ⟨s4w, rfl⟩
   refine Ra z (Wn ?_)
   obtain rfl := som hm4v
   exact Wr (ret1 hr z ⟨(bup (bup (bup (bup (bM (bup (bup h17 s16) h13) h12 (mem1le h1h)) s11) s18) s1b) s4w), z⟩)
  rintro r66 ex67 a68 w69 rfl ⟨rfl, hq4x⟩
  have hm4y := elR hm3c
  obtain rfl := som hm4y
  exact ⟨hq4x, z⟩
 rintro r6a ex6b a6c w6d rfl ⟨rfl, hq4z⟩
 have hm50 := elR hm2v
 obtain rfl := som hm50
 exact ⟨hq4z, z⟩
def Q_impl_IsValidDescription (w0 : World) (B : Nat) (r : Bool) (v : Value) (w' : World) : Prop := Below w0.heap.size w0 w' ∧ (fun r1 => (vB r1) = v) r
theorem W_impl_IsValidDescription {x1 : Desc} {res : Bool} (hm : M_impl_IsValidDescription n x1 = some res) (hBw : B ≤ w0.heap.size) (p1_0 : repS w0 B (.slice pa1_0 pn1_0 pc1_0) x1.rules) : CallsR prog 58 [(.agg #[(.slice pa1_0 pn1_0 pc1_0)])] w0 (Q_impl_IsValidDescription w0 B res) := by
 unfold M_impl_IsValidDescription at hm
 obtain ⟨fn, hf, hb, hN, hr⟩ := fnE func58
 refine goW hf (hb.trans z) (hN.trans z) (lb z) (Ws (E z (fb z) ?_))
 rintro _ w1h ⟨rfl, h19⟩
 have h10 := h19.below
 have h1a : Blk w1h w0.heap.size [(.slice pa1_0 pn1_0 pc1_0)] := h19.blk
 refine Ra z (Wn (Wq (Ws (R z (fd f_31_0 z) (R z (l1 g_29 z fid (h1a.at z)) ?_)))))
 have h14 := p1_0.ext h10
 refine R z (lnR d_29 z h14) ?_
 obtain ⟨r1u, e1i, hm1b⟩ := bdS hm
 refine E z (fc call95 z (W_impl_InRange (B := B) e1i (lt_ hBw h10.size) (inI_len (repS.len h14)) (ii z) (ii z))) ?_
 rintro _ w12 ⟨s11, rfl⟩
 refine R z (not_ z) (Wn (Wc z (fun hc15 => ?_) (fun hc15 => ?_)))
 ·refine Ws (Ra z (Wn ?_))
  obtain rfl := som (ifT hm1b hc15)
  exact Wr (ret1 hr z ⟨(bup h10 s11), z⟩)
 refine Wk (Wq (Ws (R z (fd f_31_0 z) ?_)))
 have h1c := h1a.ext s11
 refine R z (l1 g_29 z fid (h1c.at z)) ?_
 have h1d := h14.ext s11
 refine R z (lnR d_29 z h1d) (Rm z (Wn ?_))
 obtain ⟨u1v, hu1j, hm1e⟩ := bdS (ifF hm1b hc15)
 refine WC_forN (σ := Unit) (ρ := Bool) (fun (k16 : Nat) (_ : Unit) a w => Sat 20 [(1, (.pointer (some ⟨w0.heap.size, 0, none⟩))), (11, (vI (x1.rules.length : Int))), (12, (vI ((k16 : Nat) : Int)))] a ∧ Below w12.heap.size w12 w) (fun (_ : Unit) a w => Sat 20 [] a ∧ Below w12.heap.size w12 w) (fun r ex a w => ex = .ret ∧ RetPost prog fn (Q_impl_IsValidDescription w0 B r) a w) hu1j ?_ ?_ ?_ ?_ ?_
 ·exact fun _ q => ⟨(q.k (s3 z z z)), (br w12)⟩
 ·rintro k16 _ a1w w1x o1y hk17 ⟨hS1k, s13⟩ hm1l
  refine Wu (e := [(1, (.pointer (some ⟨w0.heap.size, 0, none⟩))), (11, (vI (x1.rules.length : Int))), (12, (vI ((k16 : Nat) : Int)))]) (N := 20) ?_ hS1k
  refine Ws (R z (lss z z) (Wn (Wq (Wc z (fun _ => ?_) (fun hc => (nolt hk17 hc).elim)))))
  refine Wk (Wq (WC_block (Ws (Rm z (Ra z (Wn (Ws (R z (lN (vs := [(.slice pa1_0 pn1_0 pc1_0)]) g_31 z_31 z z fid ((h1c.ext s13).row 0 1 z)) (Rm z ?_)))))))))
  obtain ⟨r1z, e1m, hm1f⟩ := bdS hm1l
  refine E z (fc call96 z (W_impl_IsValidRule (B := B) e1m (lt_ hBw (lt_ (lt_ h10.size s11.size) s13.size)) (h1d.ext s13) (inI_cnt (Nat.le_of_lt hk17) (lt_ (repS.len p1_0) LEN_le)))) ?_
  rintro _ w20 ⟨s1g, rfl⟩
  refine R z (not_ z) (Wn (Wc z (fun hc18 => ?_) (fun hc18 => ?_)))
  ·exact Ws (Ra z (Wn (Wr (rtO (QO_retL (som (ifT hm1f hc18)).symm (ret1 hr z ⟨(bup (bup (bup h10 s11) s13) s1g), z⟩))))))
  exact Wk (Wg (R z (inc_ hk17 (lt_ (repS.len p1_0) LEN_le) z z) (Rm z (Wl (fun _ q => ⟨(), (som (ifF hm1f hc18)).symm, ⟨(q.k (s3 z z z)), (bup s13 s1g)⟩⟩)))))
 ·rintro _ a21 w22 ⟨hS1n, s1o⟩
  refine Wu (e := [(1, (.pointer (some ⟨w0.heap.size, 0, none⟩))), (11, (vI (x1.rules.length : Int))), (12, (vI ((x1.rules.length : Nat) : Int)))]) (N := 20) ?_ hS1n
  refine Ws (R z (lss z z) (Wn (Wq (Wc z (fun hc => (noltt hc).elim) (fun _ => ?_)))))
  exact WC_exit (fun a' ha' => ⟨rfl, ⟨(Sat.weaken ha' sn), s1o⟩⟩)
 ·rintro _ a1p w23 rfl ⟨hS24, s1q⟩
  have hm1r := elL hm1e
  revert a1p
  refine Wo (Ws (Ra z (Wn ?_)))
  obtain rfl := som hm1r
  exact Wr (ret1 hr z ⟨(bup (bup h10 s11) s1q), z⟩)
 rintro r25 ex26 a27 w28 rfl ⟨rfl, hq1s⟩
 have hm1t := elR hm1e
 obtain rfl := som hm1t
 exact ⟨hq1s, z⟩
def Q_impl_known (w0 : World) (B : Nat) (r : Bool) (v : Value) (w' : World) : Prop := Below w0.heap.size w0 w' ∧ (fun r1 => (vB r1) = v) r
theorem W_impl_known {x1 : Desc} {x2 : Int} {res : Bool} (hm : M_impl_known n x1 x2 = some res) (hBw : B ≤ w0.heap.size) (p1_0 : repS w0 B (.slice pa1_0 pn1_0 pc1_0) x1.rules) (p2_0 : inI x2) : CallsR prog 76 [(.agg #[(.slice pa1_0 pn1_0 pc1_0)]), (vI x2)] w0 (Q_impl_known w0 B res) := by
 unfold M_impl_known at hm
 obtain ⟨fn, hf, hb, hN, hr⟩ := fnE func76
 refine goW hf (hb.trans z) (hN.trans z) (lb z) (Ws (E z (fb z) ?_))
 rintro _ w13 ⟨rfl, h15⟩
 have h12 := h15.below
 have h16 : Blk w13 w0.heap.size [(.slice pa1_0 pn1_0 pc1_0)] := h15.blk
 refine Ra z (Wn (Wq ?_))
 obtain ⟨u19, hu1a, hm1b⟩ := bdS hm
 refine WC_cut (fun a w => ∃ (x14 : Bool), x14 = u19 ∧ Sat 12 [(4, (vB x14))] a ∧ Below w13.heap.size w13 w) ?_ ?_
 ·refine Wg (R z (lN (vs := [(.slice pa1_0 pn1_0 pc1_0)]) g_31 z_31 z z fid (h16.row 0 1 z)) ?_)
  have h17 := p1_0.ext h12
  obtain ⟨r1c, e1d, hm18⟩ := bdS hu1a
  refine E z (fc call58 z (W_impl_IsValidDescription (B := B) e1d (lt_ hBw h12.size) h17)) ?_
  rintro _ w1k ⟨s11, rfl⟩
  refine Rm z ?_
  rcases bs r1c with hc10 | hc10
  ·refine Rh z hc10 (lN (vs := [(.slice pa1_0 pn1_0 pc1_0)]) g_31 z_31 z z fid ((h16.ext s11).row 0 1 z)) (Rh z hc10 (mv z) ?_)
   obtain ⟨r1e, e1f, hm1g⟩ := bdS (ifT hm18 hc10)
   refine Eg z z hc10 z (fc call106 z (W_impl_hasRule (B := B) e1f (lt_ hBw (lt_ h12.size s11.size)) (h17.ext s11) p2_0)) ?_
   rintro _ w1l ⟨s1h, rfl⟩
   exact R z (pT z hc10 z) (Ra z (Wl (fun _ q => ⟨r1e, som hm1g, (q.k (s1 z)), (bup s11 s1h)⟩)))
  iterate 3 refine Nh z hc10 ?_
  exact R z (pF z hc10 z) (Ra z (Wl (fun _ q => ⟨false, som (ifF hm18 hc10), (q.k (s1 z)), s11⟩)))
 rintro a1i w1m ⟨x14, rfl, hS1n, s1j⟩
 revert a1i
 refine Wo ?_
 obtain rfl := som hm1b
 exact Wr (ret1 hr z ⟨(bup h12 s1j), z⟩)
def Q_impl_fail (w0 : World) (B : Nat) (r : (Option (Int × Int))) (v : Value) (w' : World) : Prop := Below w0.heap.size w0 w' ∧ (fun r1 => ∃ (v1 : Value) (S1 : List Nat), v1 = v ∧ errR 119 w' S1 v1 r1 ∧ (∀ k ∈ S1, w0.heap.size ≤ k)) r
theorem W_impl_fail {x1 : Int} {x2 : Int} {res : (Option (Int × Int))} (hm : M_impl_fail x1 x2 = some res) (hBw : B ≤ w0.heap.size) (p1_0 : inI x1) (p2_0 : inI x2) : CallsR prog 116 [(vI x1), (vI x2)] w0 (Q_impl_fail w0 B res) := by
 unfold M_impl_fail at hm
 obtain ⟨fn, hf, hb, hN, hr⟩ := fnE func116
 refine goW hf (hb.trans z) (hN.trans z) (lb z) (Ws (Ra z (Wn (Ws (Rm z (Rm z (R z (bP (parts := [(0, (.tmp 5)), (1, (.tmp 6))]) (cs := [(vI x1), (vI x2)]) build_123 z z) (E z (fb z) ?_))))))))
 rintro _ w11 ⟨rfl, h10⟩
 have h12 : Blk w11 w0.heap.size [(vI x1), (vI x2)] := h10.blk
 refine R z (rd_makeIface d_119 (fun _ h => by cases h) z) (Ra z (Wn ?_))
 obtain rfl := som hm
 exact Wr (ret1 hr z ⟨h10.below, (.iface 119 (.pointer (some ⟨w0.heap.size, 0, none⟩))), [w0.heap.size], z, (errR_mkp h12 p1_0 p2_0 z), (mem1 lr)⟩)
def Q_impl_fileReader_take (w0 : World) (B : Nat) (r : (List UInt8) × (Option (Int × Int))) (v : Value) (w' : World) : Prop := Below w0.heap.size w0 w' ∧ un2 (fun r1 r2 => ∃ (a1 : Option Addr) (n1 c1 : Nat) (v2 : Value) (S2 : List Nat), v = .tuple #[(.slice a1 n1 c1), v2] ∧ repS w' w'.heap.size (.slice a1 n1 c1) r1 ∧ errR 119 w' S2 v2 r2 ∧ (∀ k ∈ S2, w0.heap.size ≤ k)) r
theorem W_impl_fileReader_take {x1 : FileReader} {b1 o1 : Nat} {x2 : Int} {x3 : Int} {res : (List UInt8) × (Option (Int × Int))} (hm : M_impl_fileReader_take x1 x2 x3 = some res) (hBw : B ≤ w0.heap.size) (p1_0 : repS w0 B (.slice pa1_0 pn1_0 pc1_0) x1.d.rules) (p1_1 : repS w0 B (.slice pa1_1 pn1_1 pc1_1) x1.b) (hC1 : CellsAt w0 b1 o1 [(.slice pa1_0 pn1_0 pc1_0), (.slice pa1_1 pn1_1 pc1_1)]) (hC1b : b1 < B) (p2_0 : inI x2) (p3_0 : inI x3) : CallsR prog 135 [(.pointer (some ⟨b1, o1, none⟩)), (vI x2), (vI x3)] w0 (Q_impl_fileReader_take w0 B res) := by
 unfold M_impl_fileReader_take at hm
 obtain ⟨fn, hf, hb, hN, hr⟩ := fnE func135
 refine goW hf (hb.trans z) (hN.trans z) (lb z) (Ws (Ra z (Ra z (Wn (Wq (Ws (Rm z (Rm z (R z (rd_nil z) (R z (fd f_114_1 z) (R z (l1 g_25 z fid (hC1.at (j := 1) z)) (R z (lnR d_25 z p1_1) (Rm z (R z (sb_ z z) (R z (rd_gtr z z) (Wn (Wc z (fun hc10 => ?_) (fun hc10 => ?_))))))))))))))))))
 ·refine Ws (Rm z ?_)
  obtain ⟨r1e, e12, hm13⟩ := bdS (ifT hm hc10)
  refine E z (fc call116 z (W_impl_fail (B := B) e12 hBw p2_0 (ii z))) ?_
  rintro _ w1f ⟨s11, v14, S15, rfl, h16, h17⟩
  refine Ra z (Ra z (Wn ?_))
  obtain rfl := som hm13
  exact Wr (ret2 hr z z ⟨s11, none, 0, 0, v14, S15, z, (repS.mono (ownS_rep onL all_nil) s11.size), h16, h17⟩)
 refine Wk (Ws (Rm z (R z (rd_nil z) (R z (fd f_114_1 z) (R z (l1 g_25 z fid (hC1.at (j := 1) z)) (Rm z (Rm z (Rm z (R z (add_ z z) ?_)))))))))
 obtain ⟨x1g, e18, hm19⟩ := bdS (ifF hm hc10)
 refine RX z (rd_sliceX d_25 z_5 z z p1_1 z z e18) ?_
 rintro _ ⟨a1a, n1b, c1c, rfl, h1d⟩
 refine Ra z (Ra z (Wn ?_))
 obtain rfl := som hm19
 exact Wr (ret2 hr z z ⟨(br w0), a1a, n1b, c1c, .nilIface, ([] : List Nat), z, (repS.mono h1d hBw), errR_nil, all_nil⟩)
def Q_impl_ReadInteger (w0 : World) (B : Nat) (r : Int) (v : Value) (w' : World) : Prop := Below w0.heap.size w0 w' ∧ (fun r1 => (vI r1) = v ∧ inI r1) r
theorem W_impl_ReadInteger {x1 : List UInt8} {x2 : Bool} {res : Int} (hm : M_impl_ReadInteger x1 x2 = some res) (hBw : B ≤ w0.heap.size) (p1_0 : repS w0 B (.slice pa1_0 pn1_0 pc1_0) x1) : CallsR prog 136 [(.slice pa1_0 pn1_0 pc1_0), (vB x2)] w0 (Q_impl_ReadInteger w0 B res) := by
 unfold M_impl_ReadInteger at hm
 obtain ⟨fn, hf, hb, hN, hr⟩ := fnE func136
 refine goW hf (hb.trans z) (hN.trans z) (lb z) (Ws (Ra z (Wn (Wq (Ws (Rm z (R z (lnR d_25 z p1_0) (R z (rd_gtr z z) (Wn (Wc z (fun hc15 => ?_) (fun hc15 => ?_)))))))))))
 ·refine Ws (Ra z (Wn ?_))
  obtain rfl := som (ifT hm hc15)
  exact Wr (ret1 hr z ⟨(br w0), z, (ii z)⟩)
 refine Wk (Ws (Ra z (Wn (Wq (Ws (Rm z (R z (lnR d_25 z p1_0) (Rm z (Wn ?_)))))))))
 obtain ⟨u21, hu1c, hm18⟩ := bdS (ifF hm hc15)
 refine WC_forN (σ := Int) (ρ := Int) (fun (k12 : Nat) (x10 : Int) a w => Sat 38 [(0, (.slice pa1_0 pn1_0 pc1_0)), (1, (vB x2)), (5, (vI x10)), (11, (vI (x1.length : Int))), (12, (vI ((k12 : Nat) : Int)))] a ∧ Below w0.heap.size w0 w ∧ inI x10) (fun (x10 : Int) a w => Sat 38 [(5, (vI x10))] a ∧ Below w0.heap.size w0 w ∧ inI x10) (fun r ex a w => ex = .ret ∧ RetPost prog fn (Q_impl_ReadInteger w0 B r) a w) hu1c ?_ ?_ ?_ ?_ ?_
 ·exact fun _ q => ⟨(q.k (s5 z z z z z)), (br w0), (ii z)⟩
 ·rintro k12 x10 a22 w13 o23 hk19 ⟨hS1d, s16, h14⟩ hm1e
  refine Wu (e := [(0, (.slice pa1_0 pn1_0 pc1_0)), (1, (vB x2)), (5, (vI x10)), (11, (vI (x1.length : Int))), (12, (vI ((k12 : Nat) : Int)))]) (N := 38) ?_ hS1d
  refine Ws (R z (lss z z) (Wn (Wq (Wc z (fun _ => ?_) (fun hc => (nolt hk19 hc).elim)))))
  refine Wk (Wq (WC_block (Ws (Rm z (Ra z (Wn (Ws (Rm z (Wn ?_)))))))))
  obtain ⟨u1f, hu1a, hm1g⟩ := bdS hm1e
  refine WC_cut (fun a w => ∃ (x11 : Int), x11 = u1f ∧ Sat 38 [(0, (.slice pa1_0 pn1_0 pc1_0)), (1, (vB x2)), (5, (vI x11)), (11, (vI (x1.length : Int))), (12, (vI ((k12 : Nat) : Int)))] a ∧ Below w13.heap.size w13 w ∧ inI x11) ?_ ?_
  ·refine Wc z (fun hc17 => ?_) (fun hc17 => ?_)
   ·refine Wg (Rm z (R z (rd_shl z z (by decide)) (Rm z (Rm z ?_))))
    have h1b := p1_0.ext s16
    refine R z (lnR d_25 z h1b) (R z (sb_ z z) (Rm z (R z (sb_ z z) ?_)))
    obtain ⟨x1h, e1i, hm1j⟩ := bdS (ifT hu1a hc17)
    refine RX z (at_ (α := UInt8) d_25 z_5 z z z h1b e1i) ?_
    rintro _ ⟨b24, o25, cs26, rfl, h1k, h1l, h27⟩
    obtain rfl := UInt8_open h1l
    exact R z (l1 g_5 z fid (h1k.at0 z)) (R z (rd_convUI d_5 d_3 z) (R z (rd_or z z) (Ra z (Wl (fun _ q => ⟨bitop .i64 (· ||| ·) (shlK .i64 x10 8) (byteI x1h), som hm1j, (q.k (s5 z z z z z)), (br w13), (inI_bitop _ _ _)⟩)))))
   refine Wg (Rm z (R z (rd_shl z z (by decide)) (Rm z (Rm z ?_))))
   obtain ⟨x1m, e1n, hm1o⟩ := bdS (ifF hu1a hc17)
   refine RX z (at_ (α := UInt8) d_25 z_5 z z z (p1_0.ext s16) e1n) ?_
   rintro _ ⟨b28, o29, cs2a, rfl, h1p, h1q, h2b⟩
   obtain rfl := UInt8_open h1q
   exact R z (l1 g_5 z fid (h1p.at0 z)) (R z (rd_convUI d_5 d_3 z) (R z (rd_or z z) (Ra z (Wl (fun _ q => ⟨bitop .i64 (· ||| ·) (shlK .i64 x10 8) (byteI x1m), som hm1o, (q.k (s5 z z z z z)), (br w13), (inI_bitop _ _ _)⟩)))))
  rintro a1r w2c ⟨x11, rfl, hS2d, s1s, h1t⟩
  revert a1r
  exact Wo (Wg (R z (inc_ hk19 (lt_ (repS.len p1_0) LEN_le) z z) (Rm z (Wl (fun _ q => ⟨x11, (som hm1g).symm, ⟨(q.k (s5 z z z z z)), (bup s16 s1s), h1t⟩⟩)))))
 ·rintro x10 a2e w2f ⟨hS1u, s1v, h14⟩
  refine Wu (e := [(0, (.slice pa1_0 pn1_0 pc1_0)), (1, (vB x2)), (5, (vI x10)), (11, (vI (x1.length : Int))), (12, (vI ((x1.length : Nat) : Int)))]) (N := 38) ?_ hS1u
  refine Ws (R z (lss z z) (Wn (Wq (Wc z (fun hc => (noltt hc).elim) (fun _ => ?_)))))
  exact WC_exit (fun a' ha' => ⟨rfl, ⟨(Sat.weaken ha' (s1 z)), s1v, h14⟩⟩)
 ·rintro x10 a1w w2g rfl ⟨hS2h, s1x, h14⟩
  have hm1y := elL hm18
  revert a1w
  refine Wo (Ws (Rm z (Ra z (Wn ?_))))
  obtain rfl := som hm1y
  exact Wr (ret1 hr z ⟨s1x, z, h14⟩)
 rintro r2i ex2j a2k w2l rfl ⟨rfl, hq1z⟩
 have hm20 := elR hm18
 obtain rfl := som hm20
 exact ⟨hq1z, z⟩
def Q_impl_fileReader_integer (w0 : World) (B : Nat) (r : Int × Int × (Option (Int × Int))) (v : Value) (w' : World) : Prop := Below w0.heap.size w0 w' ∧ un3 (fun r1 r2 r3 => ∃ (v1 : Value) (S1 : List Nat), v = .tuple #[(vI r1), (vI r2), v1] ∧ inI r1 ∧ inI r2 ∧ errR 119 w' S1 v1 r3 ∧ (∀ k ∈ S1, w0.heap.size ≤ k)) r
theorem W_impl_fileReader_integer {x1 : FileReader} {b1 o1 : Nat} {x2 : Int} {x3 : Int} {res : Int × Int × (Option (Int × Int))} (hm : M_impl_fileReader_integer x1 x2 x3 = some res) (hBw : B ≤ w0.heap.size) (p1_0 : repS w0 B (.slice pa1_0 pn1_0 pc1_0) x1.d.rules) (p1_1 : repS w0 B (.slice pa1_1 pn1_1 pc1_1) x1.b) (hC1 : CellsAt w0 b1 o1 [(.slice pa1_0 pn1_0 pc1_0), (.slice pa1_1 pn1_1 pc1_1)]) (hC1b : b1 < B) (p2_0 : inI x2) (p3_0 : inI x3) : CallsR prog 107 [(.pointer (some ⟨b1, o1, none⟩)), (vI x2), (vI x3)] w0 (Q_impl_fileReader_integer w0 B res) := by
 unfold M_impl_fileReader_integer at hm
 obtain ⟨fn, hf, hb, hN, hr⟩ := fnE func107
 refine goW hf (hb.trans z) (hN.trans z) (lb z) (Ws (Ra z (Ra z (Ra z (Wn (Ws (Rm z (R z (rd_nil z) (R z (fd f_114_0 z) (R z (fd f_31_0 z) (R z (l1 g_29 z fid (hC1.at (j := 0) z)) (Rm z ?_))))))))))))
 obtain ⟨x10, e1p, hm1q⟩ := bdS hm
 refine RX z (at_ (α := Rule) d_29 z_74 z z z p1_0 e1p) ?_
 rintro _ ⟨b27, o28, cs29, rfl, h1r, h1s, h2a⟩
 obtain ⟨a17, n18, c19, a1a, n1b, c1c, a1d, n1e, c1f, a1g, n1h, c1i, rfl, h2b, h2c, h1t, h2d, h2e, h2f, h2g⟩ := Rule_open h1s
 refine R z (lN (vs := [(Str.v x10.name), (vI x10.kind), (vI x10.size), (vB x10.little), (.slice a17 n18 c19), (.slice a1a n1b c1c), (.slice a1d n1e c1f), (.slice a1g n1h c1i)]) g_74 z_74 z z fid h1r) (E z (fa zero_74) ?_)
 rintro _ w1u ⟨rfl, h1j⟩
 have h11 := h1j.below
 have h1v : Blk w1u w0.heap.size [(Str.v (⟨[]⟩ : Str)), (vI 0), (vI 0), (vB false), (.slice none 0 0), (.slice none 0 0), (.slice none 0 0), (.slice none 0 0)] := h1j.blk
 refine E0 (fs (cur' := [(Str.v x10.name), (vI x10.kind), (vI x10.size), (vB x10.little), (.slice a17 n18 c19), (.slice a1a n1b c1c), (.slice a1d n1e c1f), (.slice a1g n1h c1i)]) z_74 z z h1v z (lb z) (oA z) z) ?_
 rintro _ w2h ⟨h1k, s1w⟩
 have h12 := s1w.one
 refine Wn (Ws (Rm z (Rm z (R z (fd f_74_2 z) (R z (l1 g_3 z fid (h1k.at z)) ?_)))))
 have h14 := mem1le hBw
 have h1l := lt_ h11.size h12.size
 obtain ⟨r2i, r2j, e1x, hm1m⟩ := bd2S hm1q
 refine E z (fc call135 z (W_impl_fileReader_take (B := B) e1x (lt_ hBw h1l) ((p1_0.ext h11).chg h12 (lg h14)) ((p1_1.ext h11).chg h12 (lg h14)) ((hC1.ext h11).chg h12 ((lg h14) _ hC1b)) hC1b p3_0 h1t)) ?_
 rintro _ w1y ⟨s15, a2k, n2l, c2m, v1z, S20, rfl, h21, h1n, h22⟩
 refine Rm z (R z (ext_ z z) (R z (ext_ z z) (Ra z (Ra z (Wn (Wq (Ws (Rm z (R z (rd_neqEr d_116 z z h1n) (Wn (Wc z (fun hc16 => ?_) (fun hc16 => ?_))))))))))))
 ·refine Ws (Rm z (Rm z (Ra z (Ra z (Ra z (Wn ?_))))))
  obtain rfl := som (ifT hm1m hc16)
  exact Wr (ret3 hr z z z ⟨(bup (bM h11 h12 (mem1 lr)) s15), v1z, S20, z, (ii z), p3_0, h1n, (o0le h22 h1l)⟩)
 refine Wk (Wq (WC_draw (X := noX) 0 (.rd 0 (.rd 1 (.rd 2 (.rd 4 (.rd 5 (.rd 6 (.rd 7 (.ef 3 (.rd 8 (.rd 9 (.rd 10 .done))))))))))) mo (by kernel_rfl) fun w2n s13 _ => dR z z (mv z) (dR z z (fd f_74_3 z) ?_)))
 have h1o := (h1k.ext s15).ext s13
 refine dR z z (l1 g_4 z fid (h1o.at z)) (dR z z (mv z) (dR z z (fd f_74_2 z) (dR z z (l1 g_3 z fid (h1o.at z)) (dR z z (add_ z z) ?_))))
 obtain ⟨r2o, e23, hm24⟩ := bdS (ifF hm1m hc16)
 refine dE z z (fc call136 z (W_impl_ReadInteger (B := w1y.heap.size) e23 s13.size (h21.ext s13))) (.inr fun _ _ h => chgB (h.1)) ?_
 rintro _ w2p ⟨s25, rfl, h26⟩
 iterate 3 refine dR z z (asg z) ?_
 refine PR_done (Wo ?_)
 obtain rfl := som hm24
 exact Wr (ret3 hr z z z ⟨(bup (bup (bup (bM h11 h12 (mem1 lr)) s15) s13) s25), .nilIface, ([] : List Nat), z, h26, (iA _ _), errR_nil, all_nil⟩)
def Q_impl_fileReader_constant (w0 : World) (B : Nat) (r : Int × (Option (Int × Int))) (v : Value) (w' : World) : Prop := Below w0.heap.size w0 w' ∧ un2 (fun r1 r2 => ∃ (v1 : Value) (S1 : List Nat), v = .tuple #[(vI r1), v1] ∧ inI r1 ∧ errR 119 w' S1 v1 r2 ∧ (∀ k ∈ S1, w0.heap.size ≤ k)) r
theorem W_impl_fileReader_constant {x1 : FileReader} {b1 o1 : Nat} {x2 : Rule} {x3 : Int} {res : Int × (Option (Int × Int))} (hm : M_impl_fileReader_constant x1 x2 x3 = some res) (hBw : B ≤ w0.heap.size) (p1_0 : repS w0 B (.slice pa1_0 pn1_0 pc1_0) x1.d.rules) (p1_1 : repS w0 B (.slice pa1_1 pn1_1 pc1_1) x1.b) (hC1 : CellsAt w0 b1 o1 [(.slice pa1_0 pn1_0 pc1_0), (.slice pa1_1 pn1_1 pc1_1)]) (hC1b : b1 < B) (p2_0 : x2.name.b.length ≤ LEN) (p2_1 : inI x2.kind) (p2_2 : inI x2.size) (p2_4 : repS w0 B (.slice pa2_4 pn2_4 pc2_4) x2.bytes) (p2_5 : repS w0 B (.slice pa2_5 pn2_5 pc2_5) x2.names) (p2_6 : repS w0 B (.slice pa2_6 pn2_6 pc2_6) x2.tags) (p2_7 : repS w0 B (.slice pa2_7 pn2_7 pc2_7) x2.kids) (p3_0 : inI x3) : CallsR prog 108 [(.pointer (some ⟨b1, o1, none⟩)), (.agg #[(Str.v x2.name), (vI x2.kind), (vI x2.size), (vB x2.little), (.slice pa2_4 pn2_4 pc2_4), (.slice pa2_5 pn2_5 pc2_5), (.slice pa2_6 pn2_6 pc2_6), (.slice pa2_7 pn2_7 pc2_7)]), (vI x3)] w0 (Q_impl_fileReader_constant w0 B res) := by
 unfold M_impl_fileReader_constant at hm
 obtain ⟨fn, hf, hb, hN, hr⟩ := fnE func108
 refine goW hf (hb.trans z) (hN.trans z) (lb z) (Ws (E z (fb z) ?_))
 rintro _ w12 ⟨rfl, h18⟩
 have h10 := h18.below
 have h19 : Blk w12 w0.heap.size [(Str.v x2.name), (vI x2.kind), (vI x2.size), (vB x2.little), (.slice pa2_4 pn2_4 pc2_4), (.slice pa2_5 pn2_5 pc2_5), (.slice pa2_6 pn2_6 pc2_6), (.slice pa2_7 pn2_7 pc2_7)] := h18.blk
 refine Ra z (Ra z (Wn (Wq (Ws (R z (fd f_74_4 z) (R z (l1 g_25 z fid (h19.at z)) ?_))))))
 have h13 := p2_4.ext h10
 refine R z (lnR d_25 z h13) (Rm z (Wn ?_))
 obtain ⟨u2b, hu1i, hm1a⟩ := bdS hm
 refine WC_forN (σ := Unit) (ρ := Int × (Option (Int × Int))) (fun (k14 : Nat) (_ : Unit) a w => Sat 52 [(0, (.pointer (some ⟨b1, o1, none⟩))), (2, (vI x3)), (4, (.pointer (some ⟨w0.heap.size, 0, none⟩))), (11, (.slice pa2_4 pn2_4 pc2_4)), (12, (vI (x2.bytes.length : Int))), (13, (vI ((k14 : Nat) : Int)))] a ∧ Below w12.heap.size w12 w) (fun (_ : Unit) a w => Sat 52 [(2, (vI x3)), (4, (.pointer (some ⟨w0.heap.size, 0, none⟩)))] a ∧ Below w12.heap.size w12 w) (fun r ex a w => ex = .ret ∧ RetPost prog fn (Q_impl_fileReader_constant w0 B r) a w) hu1i ?_ ?_ ?_ ?_ ?_
 ·exact fun _ q => ⟨(q.k (s6 z z z z z z)), (br w12)⟩
 ·rintro k14 _ a2c w2d o2e hk1b ⟨hS1j, s11⟩ hm1k
  refine Wu (e := [(0, (.pointer (some ⟨b1, o1, none⟩))), (2, (vI x3)), (4, (.pointer (some ⟨w0.heap.size, 0, none⟩))), (11, (.slice pa2_4 pn2_4 pc2_4)), (12, (vI (x2.bytes.length : Int))), (13, (vI ((k14 : Nat) : Int)))]) (N := 52) ?_ hS1j
  refine Ws (R z (lss z z) (Wn (Wq (Wc z (fun _ => ?_) (fun hc => (nolt hk1b hc).elim)))))
  refine Wk (Wq (WC_block (Ws (Rm z ?_))))
  obtain ⟨x2f, e1l, hm1c⟩ := bdS hm1k
  refine RX z (at_ (α := UInt8) d_25 z_5 z z z (h13.ext s11) e1l) ?_
  rintro _ ⟨b2g, o2h, cs2i, rfl, h1m, h1n, h2j⟩
  obtain rfl := UInt8_open h1n
  refine R z (l1 g_5 z fid (h1m.at0 z)) (Ra z (Ra z (Wn (Wq (Ws (Rm z (Rm z (R z (add_ z z) (Rm z (R z (rd_nil z) (R z (fd f_114_1 z) ?_)))))))))))
  have h1d := (hC1.ext h10).ext s11
  refine R z (l1 g_25 z fid (h1d.at (j := 1) z)) ?_
  have h1e := (p1_1.ext h10).ext s11
  refine R z (lnR d_25 z h1e) (R z (rd_geq z z) (Wn (Wc z (fun hc15 => ?_) (fun hc15 => ?_))))
  ·refine Ws (Rm z (Rm z ?_))
   have h1f := lt_ h10.size s11.size
   obtain ⟨r2k, e1o, hm1p⟩ := bdS (ifT hm1c hc15)
   refine E z (fc call116 z (W_impl_fail (B := B) e1o (lt_ hBw h1f) p3_0 (ii z))) ?_
   rintro _ w2l ⟨s1q, v1r, S1s, rfl, h1t, h1u⟩
   exact Ra z (Ra z (Wn (Wr (rtO (QO_retL (som hm1p).symm (ret2 hr z z ⟨(bup (bup h10 s11) s1q), v1r, S1s, z, p3_0, h1t, (o0le h1u h1f)⟩))))))
  refine Wk (Ws (Rm z (R z (rd_nil z) (R z (fd f_114_1 z) (R z (l1 g_25 z fid (h1d.at (j := 1) z)) (Rm z (Rm z (R z (add_ z z) ?_))))))))
  obtain ⟨x2m, e1v, hm1g⟩ := bdS (ifF hm1c hc15)
  refine RX z (at_ (α := UInt8) d_25 z_5 z z z h1e e1v) ?_
  rintro _ ⟨b2n, o2o, cs2p, rfl, h1w, h1x, h2q⟩
  obtain rfl := UInt8_open h1x
  refine R z (l1 g_5 z fid (h1w.at0 z)) (Rm z (R z (nq z z) (Wn (Wc z (fun hc16 => ?_) (fun hc16 => ?_)))))
  ·refine Ws (Rm z (Rm z (Rm z (R z (add_ z z) ?_))))
   have h1h := lt_ h10.size s11.size
   obtain ⟨r2r, e1y, hm1z⟩ := bdS (ifT hm1g hc16)
   refine E z (fc call116 z (W_impl_fail (B := B) e1y (lt_ hBw h1h) (iA _ _) (ii z))) ?_
   rintro _ w2s ⟨s20, v21, S22, rfl, h23, h24⟩
   exact Ra z (Ra z (Wn (Wr (rtO (QO_retL (som hm1z).symm (ret2 hr z z ⟨(bup (bup h10 s11) s20), v21, S22, z, p3_0, h23, (o0le h24 h1h)⟩))))))
  exact Wk (Wg (R z (inc_ hk1b (lt_ (repS.len p2_4) LEN_le) z z) (Rm z (Wl (fun _ q => ⟨(), (som (ifF hm1g hc16)).symm, ⟨(q.k (s6 z z z z z z)), s11⟩⟩)))))
 ·rintro _ a2t w2u ⟨hS25, s26⟩
  refine Wu (e := [(0, (.pointer (some ⟨b1, o1, none⟩))), (2, (vI x3)), (4, (.pointer (some ⟨w0.heap.size, 0, none⟩))), (11, (.slice pa2_4 pn2_4 pc2_4)), (12, (vI (x2.bytes.length : Int))), (13, (vI ((x2.bytes.length : Nat) : Int)))]) (N := 52) ?_ hS25
  refine Ws (R z (lss z z) (Wn (Wq (Wc z (fun hc => (noltt hc).elim) (fun _ => ?_)))))
  exact WC_exit (fun a' ha' => ⟨rfl, ⟨(Sat.weaken ha' (s2 z z)), s26⟩⟩)
 ·rintro _ a27 w2v rfl ⟨hS2w, s17⟩
  have hm28 := elL hm1a
  revert a27
  refine Wo (Ws (Rm z (R z (fd f_74_4 z) (R z (l1 g_25 z fid ((h19.ext s17).at z)) (R z (lnR d_25 z (h13.ext s17)) (R z (add_ z z) (Ra z (Ra z (Wn ?_)))))))))
  obtain rfl := som hm28
  exact Wr (ret2 hr z z ⟨(bup h10 s17), .nilIface, ([] : List Nat), z, (iA _ _), errR_nil, all_nil⟩)
 rintro r2x ex2y a2z w30 rfl ⟨rfl, hq29⟩
 have hm2a := elR hm1a
 obtain rfl := som hm2a
 exact ⟨hq29, z⟩
def Q_impl_fileReader_content (w0 : World) (B : Nat) (r : Val × Int × (Option (Int × Int))) (v : Value) (w' : World) : Prop := Below w0.heap.size w0 w' ∧ un3 (fun r1 r2 r3 => ∃ (a1 : Option Addr) (n1 c1 : Nat) (S1 : List Nat) (a2 : Option Addr) (n2 c2 : Nat) (S2 : List Nat) (v3 : Value) (S3 : List Nat), v = .tuple #[(.agg #[vI r1.number, .slice a1 n1 c1, .slice a2 n2 c2]), (vI r2), v3] ∧ inI r1.number ∧ ownS w' S1 (.slice a1 n1 c1) r1.bytes ∧ ownS w' S2 (.slice a2 n2 c2) r1.items ∧ inI r2 ∧ errR 119 w' S3 v3 r3 ∧ (∀ k ∈ S3, w0.heap.size ≤ k) ∧ (S1 ++ S2).Nodup ∧ (∀ k ∈ (S1 ++ S2), w0.heap.size ≤ k)) r
theorem W_impl_fileReader_content {x1 : FileReader} {b1 o1 : Nat} {x2 : Int} {x3 : Int} {res : Val × Int × (Option (Int × Int))} (hm : M_impl_fileReader_content x1 x2 x3 = some res) (hBw : B ≤ w0.heap.size) (p1_0 : repS w0 B (.slice pa1_0 pn1_0 pc1_0) x1.d.rules) (p1_1 : repS w0 B (.slice pa1_1 pn1_1 pc1_1) x1.b) (hC1 : CellsAt w0 b1 o1 [(.slice pa1_0 pn1_0 pc1_0), (.slice pa1_1 pn1_1 pc1_1)]) (hC1b : b1 < B) (p2_0 : inI x2) (p3_0 : inI x3) : CallsR prog 109 [(.pointer (some ⟨b1, o1, none⟩)), (vI x2), (vI x3)] w0 (Q_impl_fileReader_content w0 B res) := by
 unfold M_impl_fileReader_content at hm
 obtain ⟨fn, hf, hb, hN, hr⟩ := fnE func109
 refine goW hf (hb.trans z) (hN.trans z) (lb z) (Ws (E z (fa zero_41) ?_))
 rintro _ w1k ⟨rfl, h18⟩
 have h10 := h18.below
 have h12 : Blk w1k w0.heap.size [(vI 0), (.slice none 0 0), (.slice none 0 0)] := h18.blk
 refine Ra z (Ra z (Wn (Ws (Rm z (Rm z (Rm z ?_))))))
 obtain ⟨r1z, r20, e1l, hm19⟩ := bd2S hm
 refine E z (fc call135 z (W_impl_fileReader_take (B := B) e1l (lt_ hBw h10.size) (p1_0.ext h10) (p1_1.ext h10) (hC1.ext h10) hC1b p2_0 p3_0)) ?_
 rintro _ w21 ⟨s11, a22, n23, c24, v1m, S1n, rfl, h1o, h1a, h1b⟩
 refine Rm z (R z (ext_ z z) (R z (ext_ z z) (Ra z (Ra z (Wn (Wq (Ws (Rm z (R z (rd_neqEr d_116 z z h1a) (Wn (Wc z (fun hc14 => ?_) (fun hc14 => ?_))))))))))))
 ·refine Ws (R z (bP (parts := []) (cs := [(vI 0), (.slice none 0 0), (.slice none 0 0)]) build_41 z z) (Rm z (Rm z (E0 (fs (cur' := [(vI 0), (.slice none 0 0), (.slice none 0 0)]) z_41 z z (h12.ext s11) z (lb z) (oA z) z) ?_))))
  rintro _ w25 ⟨h1p, s1q⟩
  have h1c := s1q.one
  refine Ra z (Ra z (Wn ?_))
  obtain rfl := som (ifT hm19 hc14)
  exact Wr (ret3 hr (resC g_41 z_41 z h1p z) z z ⟨(bM (bup h10 s11) h1c (mem1 lr)), none, 0, 0, [], none, 0, 0, [], v1m, S1n, z, (ii z), onL, onL, p2_0, (h1a.chg h1c (o0n1 h1b h12.lt lr)), (o0le h1b h10.size), nd0, al0⟩)
 refine Wk (Ws (E z (ef_lit0 (α := UInt8) el_25) ?_))
 rintro _ w26 ⟨a27, n28, c29, rfl, s13, h1r⟩
 refine Rm z ?_
 obtain ⟨x2a, e1s, hm1t⟩ := bdS (ifF hm19 hc14)
 refine E z (ef_appendN (α := UInt8) el_25 e1s z z h1r nd_one (h1o.ext s13)) ?_
 rintro _ w2b ⟨S1d, a15, n16, c17, rfl, s1e, h1u, h1v, h1f⟩
 refine R z (bP (parts := [(1, (.tmp 25))]) (cs := [(vI 0), (.slice a15 n16 c17), (.slice none 0 0)]) build_41 z z) (Rm z (Rm z (R z (add_ z z) ?_)))
 have h1g := mm1 h12.lt s11.size
 refine E0 (fs (cur' := [(vI 0), (.slice a15 n16 c17), (.slice none 0 0)]) z_41 z z (((h12.ext s11).ext s13).chg s1e (djs h1g)) z (lb z) (oA z) z) ?_
 rintro _ w2c ⟨h1w, s1x⟩
 have h1h := s1x.one
 refine Ra z (Ra z (Wn ?_))
 obtain rfl := som hm1t
 have h1y : ∀ k ∈ S1d, k ∉ [w0.heap.size] := or1 h1f h1g (ltnot (mem1 h12.lt) (lt_ s11.size s13.size))
 have h1i := lt_ h10.size s11.size
 have h1j := mem1le h1i
 exact Wr (ret3 hr (resC g_41 z_41 z h1w z) z z ⟨(bM (bM (bup (bup h10 s11) s13) s1e h1j) h1h (mem1 lr)), a15, n16, c17, S1d, none, 0, 0, [], .nilIface, ([] : List Nat), z, (ii z), (h1u.chg h1h h1y), onL, (iA _ _), errR_nil, all_nil, (nd_app h1v nd_nil (nmN _)), (all_app (o1le h1f h1j (lt_ h1i s13.size)) all_nil)⟩)
def Q_impl_SumOfBytes (w0 : World) (B : Nat) (r : Int) (v : Value) (w' : World) : Prop := Below w0.heap.size w0 w' ∧ (fun r1 => (vI r1) = v ∧ inI r1) r
theorem W_impl_SumOfBytes {x1 : List UInt8} {res : Int} (hm : M_impl_SumOfBytes x1 = some res) (hBw : B ≤ w0.heap.size) (p1_0 : repS w0 B (.slice pa1_0 pn1_0 pc1_0) x1) : CallsR prog 137 [(.slice pa1_0 pn1_0 pc1_0)] w0 (Q_impl_SumOfBytes w0 B res) := by
 unfold M_impl_SumOfBytes at hm
 obtain ⟨fn, hf, hb, hN, hr⟩ := fnE func137
 refine goW hf (hb.trans z) (hN.trans z) (lb z) (Ws (Ra z (Wn (Ws (Ra z (Wn (Wq (Ws (Rm z (R z (lnR d_25 z p1_0) (Rm z (Wn ?_))))))))))))
 obtain ⟨u1l, hu16, hm13⟩ := bdS hm
 refine WC_forN (σ := Int) (ρ := Int) (fun (k12 : Nat) (x10 : Int) a w => Sat 19 [(3, (vI x10)), (6, (.slice pa1_0 pn1_0 pc1_0)), (7, (vI (x1.length : Int))), (8, (vI ((k12 : Nat) : Int)))] a ∧ Below w0.heap.size w0 w ∧ inI x10) (fun (x10 : Int) a w => Sat 19 [(3, (vI x10))] a ∧ Below w0.heap.size w0 w ∧ inI x10) (fun r ex a w => ex = .ret ∧ RetPost prog fn (Q_impl_SumOfBytes w0 B r) a w) hu16 ?_ ?_ ?_ ?_ ?_
 ·exact fun _ q => ⟨(q.k (s4 z z z z)), (br w0), (ii z)⟩
 ·rintro k12 x10 a1m w1n o1o hk14 ⟨hS17, s15, h11⟩ hm18
  refine Wu (e := [(3, (vI x10)), (6, (.slice pa1_0 pn1_0 pc1_0)), (7, (vI (x1.length : Int))), (8, (vI ((k12 : Nat) : Int)))]) (N := 19) ?_ hS17
  refine Ws (R z (lss z z) (Wn (Wq (Wc z (fun _ => ?_) (fun hc => (nolt hk14 hc).elim)))))
  refine Wk (Wq (WC_block (Ws ?_)))
  obtain ⟨x19, e1a, hm1b⟩ := bdS hm18
  refine RX z (at_ (α := UInt8) d_25 z_5 z z z (p1_0.ext s15) e1a) ?_
  rintro _ ⟨b1p, o1q, cs1r, rfl, h1c, h1d, h1s⟩
  obtain rfl := UInt8_open h1d
  exact R z (l1 g_5 z fid (h1c.at0 z)) (Ra z (Wn (Wg (Rm z (Rm z (R z (rd_convUI d_5 d_3 z) (R z (add_ z z) (Ra z (Wn (Wg (R z (inc_ hk14 (lt_ (repS.len p1_0) LEN_le) z z) (Rm z (Wl (fun _ q => ⟨iadd x10 (byteI x19), (som hm1b).symm, ⟨(q.k (s4 z z z z)), s15, (iA _ _)⟩⟩))))))))))))))
 ·rintro x10 a1t w1u ⟨hS1e, s1f, h11⟩
  refine Wu (e := [(3, (vI x10)), (6, (.slice pa1_0 pn1_0 pc1_0)), (7, (vI (x1.length : Int))), (8, (vI ((x1.length : Nat) : Int)))]) (N := 19) ?_ hS1e
  refine Ws (R z (lss z z) (Wn (Wq (Wc z (fun hc => (noltt hc).elim) (fun _ => ?_)))))
  exact WC_exit (fun a' ha' => ⟨rfl, ⟨(Sat.weaken ha' (s1 z)), s1f, h11⟩⟩)
 ·rintro x10 a1g w1v rfl ⟨hS1w, s1h, h11⟩
  have hm1i := elL hm13
  revert a1g
  refine Wo (Ws (Rm z (R z (rd_rem z z (by decide)) (Ra z (Wn ?_)))))
  obtain rfl := som hm1i
  exact Wr (ret1 hr z ⟨s1h, z, (inI_rem h11)⟩)
 rintro r1x ex1y a1z w20 rfl ⟨rfl, hq1j⟩
 have hm1k := elR hm13
 obtain rfl := som hm1k
 exact ⟨hq1j, z⟩
def Q_impl_ReadTerminated (w0 : World) (B : Nat) (r : (List UInt8) × Int × Bool) (v : Value) (w' : World) : Prop := Below w0.heap.size w0 w' ∧ un3 (fun r1 r2 r3 => ∃ (a1 : Option Addr) (n1 c1 : Nat) (S1 : List Nat), v = .tuple #[(.slice a1 n1 c1), (vI r2), (vB r3)] ∧ ownS w' S1 (.slice a1 n1 c1) r1 ∧ inI r2 ∧ S1.Nodup ∧ (∀ k ∈ S1, w0.heap.size ≤ k)) r
theorem W_impl_ReadTerminated {x1 : List UInt8} {x2 : Int} {x3 : UInt8} {res : (List UInt8) × Int × Bool} (hm : M_impl_ReadTerminated n x1 x2 x3 = some res) (hBw : B ≤ w0.heap.size) (p1_0 : repS w0 B (.slice pa1_0 pn1_0 pc1_0) x1) (p2_0 : inI x2) : CallsR prog 115 [(.slice pa1_0 pn1_0 pc1_0), (vI x2), (vU (byteI x3))] w0 (Q_impl_ReadTerminated w0 B res) := by
 unfold M_impl_ReadTerminated at hm
 obtain ⟨fn, hf, hb, hN, hr⟩ := fnE func115
 refine goW hf (hb.trans z) (hN.trans z) (lb z) (Ws (Ra z (Ra z (Ra z (Wn (Ws (E z (ef_lit0 (α := UInt8) el_25) ?_)))))))
 rintro _ w1h ⟨a1j, n1k, c1l, rfl, s18, h1v⟩
 refine Ra z (Wn (Wq (Wq ?_)))
 obtain ⟨u29, hu1w, hm1x⟩ := bdS hm
 refine WC_cut (fun a w => ∃ (x1m : Bool), x1m = u29 ∧ Sat 58 [(0, (.slice pa1_0 pn1_0 pc1_0)), (1, (vI x2)), (2, (vU (byteI x3))), (9, (.slice a1j n1k c1l)), (19, (vB x1m))] a ∧ Below w1h.heap.size w1h w) ?_ ?_
 ·refine Wg (Rm z (R z (lss z z) (Rm z ?_)))
  rcases bs (decide (x2 < 0)) with hc15 | hc15
  ·iterate 4 refine Nh z hc15 ?_
   exact R z (pT z hc15 z) (Wl (fun _ q => ⟨true, som (ifT hu1w hc15), (q.k (s5 z z z z z)), (br w1h)⟩))
  exact Rh z hc15 (mv z) (Rh z hc15 (mv z) (Rh z hc15 (lnR d_25 z (p1_0.ext s18)) (Rh z hc15 (rd_gtr z z) (R z (pF z hc15 z) (Wl (fun _ q => ⟨decide ((x1.length : Int) < x2), som (ifF hu1w hc15), (q.k (s5 z z z z z)), (br w1h)⟩))))))
 rintro a2a w10 ⟨x1m, rfl, hS3r, s17⟩
 revert a2a
 refine Wo (Wc z (fun hc1n => ?_) (fun hc1n => ?_))
 ·refine Ws (Rm z (Rm z (Ra z (Ra z (Ra z (Wn ?_))))))
  obtain rfl := som (ifT hm1x hc1n)
  exact Wr (ret3 hr z z z ⟨(bup s18 s17), a1j, n1k, c1l, [w0.heap.size], z, (h1v.ext s17), p2_0, nd_one, (mem1 lr)⟩)
 refine Wk (Wq (Ws (Rm z (Ra z (Wn ?_)))))
 obtain ⟨u3s, hu2b, hm1y⟩ := bdS (ifF hm1x hc1n)
 refine WC_iter (σ := (List UInt8) × Int) (ρ := (List UInt8) × Int × Bool) (fun s a w => un2 (fun x1b x16 => ∃ (a12 : Option Addr) (n13 c14 : Nat) (S11 : List Nat), Sat 58 [(0, (.slice pa1_0 pn1_0 pc1_0)), (1, (vI x2)), (2, (vU (byteI x3))), (9, (.slice a12 n13 c14)), (10, (vI x16))] a ∧ Chg (· ∈ [w0.heap.size]) w10 w ∧ ownS w S11 (.slice a12 n13 c14) x1b ∧ S11.Nodup ∧ (∀ k ∈ S11, k ∈ [w0.heap.size] ∨ w10.heap.size ≤ k) ∧ inI x16) s) (fun s a w => un2 (fun x1b x16 => ∃ (a12 : Option Addr) (n13 c14 : Nat) (S11 : List Nat), Sat 58 [(1, (vI x2))] a ∧ Chg (· ∈ [w0.heap.size]) w10 w ∧ ownS w S11 (.slice a12 n13 c14) x1b ∧ S11.Nodup ∧ (∀ k ∈ S11, k ∈ [w0.heap.size] ∨ w10.heap.size ≤ k) ∧ inI x16) s) (fun r ex a w => ex = .ret ∧ RetPost prog fn (Q_impl_ReadTerminated w0 B r) a w) hu2b ?_ ?_ ?_ ?_
 ·exact fun _ q => ⟨a1j, n1k, c1l, [w0.heap.size], (q.k (s5 z z z z z)), (cr [w0.heap.size] w10), (h1v.ext s17), nd_one, (io sr), p2_0⟩
 ·rintro ⟨x1b, x16⟩ a3t w19 o3u ⟨a12, n13, c14, S11, hS2c, s1a, h1c, h1d, h1e, h1o⟩ hm2d
  have hm1z := un2S hm2d
  refine Wu (e := [(0, (.slice pa1_0 pn1_0 pc1_0)), (1, (vI x2)), (2, (vU (byteI x3))), (9, (.slice a12 n13 c14)), (10, (vI x16))]) (N := 58) ?_ hS2c
  refine Wq (Ws (Rm z (Rm z ?_)))
  have h1f := ((p1_0.ext s18).ext s17).chg s1a (lg (mem1le hBw))
  refine R z (lnR d_25 z h1f) (R z (lss z z) (Wn (Wc z (fun hc1p => ?_) (fun hc1p => ?_))))
  ·refine Wk (Wq (WC_block (Wq (Ws (Rm z (Rm z ?_))))))
   obtain ⟨x3v, e2e, hm20⟩ := bdS (ifT hm1z hc1p)
   refine RX z (at_ (α := UInt8) d_25 z_5 z z z h1f e2e) ?_
   rintro _ ⟨b3w, o3x, cs3y, rfl, h2f, h2g, h3z⟩
   obtain rfl := UInt8_open h2g
   refine R z (l1 g_5 z fid (h2f.at0 z)) (Rm z (R z (eql z z) (Wn (Wc z (fun hc1q => ?_) (fun hc1q => ?_)))))
   ·refine Ws (Rm z (Rm z (R z (add_ z z) (Ra z (Ra z (Ra z (Wn ?_)))))))
    have h2h : ∀ k ∈ S11, w0.heap.size ≤ k := or1 h1e (mem1 lr) (lele (lt_ s18.size s17.size))
    exact Wr (rtO (QO_retL (som (ifT hm20 hc1q)).symm (ret3 hr z z z ⟨(bM (bup s18 s17) s1a (mem1 lr)), a12, n13, c14, S11, z, h1c, (iA _ _), h1d, h2h⟩)))
   refine Wk (Wq (Ws (Rm z (Rm z ?_))))
   obtain ⟨x40, e2i, hm2j⟩ := bdS (ifF hm20 hc1q)
   refine RX z (at_ (α := UInt8) d_25 z_5 z z z h1f e2i) ?_
   rintro _ ⟨b41, o42, cs43, rfl, h2k, h2l, h44⟩
   obtain rfl := UInt8_open h2l
   refine R z (l1 g_5 z fid (h2k.at0 z)) (R z (eql z z) (Wn ?_))
   obtain ⟨u2m, hu21, hm22⟩ := bdS hm2j
   refine WC_cut (fun a w => ∃ (x1g : Int), Sum.inl x1g = u2m ∧ Sat 58 [(0, (.slice pa1_0 pn1_0 pc1_0)), (1, (vI x2)), (2, (vU (byteI x3))), (9, (.slice a12 n13 c14)), (10, (vI x1g))] a ∧ Below w19.heap.size w19 w ∧ inI x1g) ?_ ?_
   ·refine Wc z (fun hc1r => ?_) (fun hc1r => ?_)
    ·have hm23 := ifT hu21 hc1r
     refine Ws (Rm z (R z (add_ z z) (Ra z (Wn (Ws (Rm z (Rm z (R z (lnR d_25 z h1f) (R z (eql z z) (Wn (Wc z (fun hc1s => ?_) (fun hc1s => ?_))))))))))))
     ·obtain rfl := som (ifT hm23 hc1s)
      have hm2n := elR hm22
      have h2o : ∀ k ∈ S11, k ∈ [w0.heap.size] ∨ w10.heap.size ≤ k := or1 h1e (io sr) (leor lr)
      have h2p : Chg (· ∈ [w0.heap.size]) w10 w19 := cM (cr [w0.heap.size] w10) s1a (io sr)
      exact WC_exit (exO z (fun a' ha' => QO_brk (som hm2n).symm ⟨a12, n13, c14, S11, (Sat.weaken ha' (s1 z)), h2p, h1c, h1d, h2o, (iA _ _)⟩))
     exact WC_skip (fun _ q => ⟨iadd x16 1, som (ifF hm23 hc1s), (q.k (s5 z z z z z)), (br w19), (iA _ _)⟩)
    exact WC_skip (fun _ q => ⟨x16, som (ifF hu21 hc1r), (q.k (s5 z z z z z)), (br w19), h1o⟩)
   rintro a2q w24 ⟨x1g, rfl, hS45, s1i, h46⟩
   have hm2r := elL hm22
   revert a2q
   refine Wo (Wg (Rm z (Rm z (Rm z ?_))))
   obtain ⟨x2s, e2t, hm2u⟩ := bdS hm2r
   refine RX z (at_ (α := UInt8) d_25 z_5 z z z (h1f.ext s1i) e2t) ?_
   rintro _ ⟨b47, o48, cs49, rfl, h2v, h2w, h4a⟩
   obtain rfl := UInt8_open h2w
   refine R z (l1 g_5 z fid (h2v.at0 z)) (E z (ef_buildSlice [(.tmp 53)] el_25 z z z (szAll z) (lb z) (lb z)) ?_)
   rintro _ w25 ⟨rfl, h1t⟩
   have h1u := h1t.below
   have h2x : Blk w25 w24.heap.size [(vU (byteI x2s))] := h1t.blk
   have h4b := ownS_new1 h1t UInt8_own
   obtain ⟨x2y, e2z, hm30⟩ := bdS hm2u
   refine E z (ef_pushN (α := UInt8) el_25 e2z z z ((h1c.ext s1i).ext h1u) h1d h2x UInt8_own all_nil nd_nil) ?_
   rintro _ w31 ⟨S26, a32, n33, c34, rfl, s35, h36, h37, h38⟩
   refine Ra z (Wn (Wg (Rm z (R z (add_ z z) (Ra z (Wl ?_))))))
   have h27 : ∀ k ∈ S11, k ∈ [w0.heap.size] ∨ w10.heap.size ≤ k := or1 h1e (io sr) (leor lr)
   have h39 : ∀ k ∈ S26, k ∈ [w0.heap.size] ∨ w10.heap.size ≤ k := or2 h38 h27 all_nil (leor (lt_ (lt_ s1a.size s1i.size) h1u.size))
   have h3a : Chg (· ∈ [w0.heap.size]) w10 w19 := cM (cr [w0.heap.size] w10) s1a (io sr)
   have h3b : Chg (· ∈ [w0.heap.size]) w10 w24 := cext h3a s1i
   have h3c : Chg (· ∈ [w0.heap.size]) w10 w25 := cext h3b h1u
   have h3d : Chg (· ∈ [w0.heap.size]) w10 w31 := cM h3c s35 h27
   exact fun _ q => ⟨(x2y, iadd x1g 1), (som hm30).symm, ⟨a32, n33, c34, S26, (q.k (s5 z z z z z)), h3d, h36, h37, h39, (iA _ _)⟩⟩
  have h3e : ∀ k ∈ S11, k ∈ [w0.heap.size] ∨ w10.heap.size ≤ k := or1 h1e (io sr) (leor lr)
  have h3f : Chg (· ∈ [w0.heap.size]) w10 w19 := cM (cr [w0.heap.size] w10) s1a (io sr)
  exact WC_exit (fun a' ha' => QO_brk (som (ifF hm1z hc1p)).symm ⟨a12, n13, c14, S11, (Sat.weaken ha' (s1 z)), h3f, h1c, h1d, h3e, h1o⟩)
 ·rintro ⟨x1b, x16⟩ a3g w3h rfl ⟨a12, n13, c14, S11, hS4c, s28, h1c, h1d, h1e, h1o⟩
  have hm3i := elL hm1y
  have hm3j := un2S hm3i
  revert a3g
  refine Wo (Ws (E z (ef_lit0 (α := UInt8) el_25) ?_))
  rintro _ w4d ⟨a3k, n3l, c3m, rfl, s3n, h3o⟩
  refine Rm z (Ra z (Ra z (Ra z (Wn ?_))))
  obtain rfl := som hm3j
  exact Wr (ret3 hr z z z ⟨(bup (bM (bup s18 s17) s28 (mem1 lr)) s3n), a3k, n3l, c3m, [w3h.heap.size], z, h3o, p2_0, nd_one, (mem1le (lt_ (lt_ s18.size s17.size) s28.size))⟩)
 rintro r4e ex4f a4g w4h rfl ⟨rfl, hq3p⟩
 have hm3q := elR hm1y
 obtain rfl := som hm3q
 exact ⟨hq3p, z⟩
def Q_impl_fileReader_value (w0 : World) (B : Nat) (r : Val × Int × (Option (Int × Int))) (v : Value) (w' : World) : Prop := Below w0.heap.size w0 w' ∧ un3 (fun r1 r2 r3 => ∃ (a1 : Option Addr) (n1 c1 : Nat) (S1 : List Nat) (a2 : Option Addr) (n2 c2 : Nat) (S2 : List Nat) (v3 : Value) (S3 : List Nat), v = .tuple #[(.agg #[vI r1.number, .slice a1 n1 c1, .slice a2 n2 c2]), (vI r2), v3] ∧ inI r1.number ∧ ownS w' S1 (.slice a1 n1 c1) r1.bytes ∧ ownS w' S2 (.slice a2 n2 c2) r1.items ∧ inI r2 ∧ errR 119 w' S3 v3 r3 ∧ (∀ k ∈ S3, w0.heap.size ≤ k) ∧ (S1 ++ S2).Nodup ∧ (∀ k ∈ (S1 ++ S2), w0.heap.size ≤ k)) r
def Q_impl_fileReader_array (w0 : World) (B : Nat) (r : Val × Int × (Option (Int × Int))) (v : Value) (w' : World) : Prop := Below w0.heap.size w0 w' ∧ un3 (fun r1 r2 r3 => ∃ (a1 : Option Addr) (n1 c1 : Nat) (S1 : List Nat) (a2 : Option Addr) (n2 c2 : Nat) (S2 : List Nat) (v3 : Value) (S3 : List Nat), v = .tuple #[(.agg #[vI r1.number, .slice a1 n1 c1, .slice a2 n2 c2]), (vI r2), v3] ∧ inI r1.number ∧ ownS w' S1 (.slice a1 n1 c1) r1.bytes ∧ ownS w' S2 (.slice a2 n2 c2) r1.items ∧ inI r2 ∧ errR 119 w' S3 v3 r3 ∧ (∀ k ∈ S3, w0.heap.size ≤ k) ∧ (S1 ++ S2).Nodup ∧ (∀ k ∈ (S1 ++ S2), w0.heap.size ≤ k)) r
def Q_impl_fileReader_items (w0 : World) (B : Nat) (S2_1 : List Nat) (S2_2 : List Nat) (r : Val × Int × (Option (Int × Int))) (v : Value) (w' : World) : Prop := Chg (· ∈ (S2_1 ++ S2_2)) w0 w' ∧ un3 (fun r1 r2 r3 => ∃ (a1 : Option Addr) (n1 c1 : Nat) (S1 : List Nat) (a2 : Option Addr) (n2 c2 : Nat) (S2 : List Nat) (v3 : Value) (S3 : List Nat), v = .tuple #[(.agg #[vI r1.number, .slice a1 n1 c1, .slice a2 n2 c2]), (vI r2), v3] ∧ inI r1.number ∧ ownS w' S1 (.slice a1 n1 c1) r1.bytes ∧ ownS w' S2 (.slice a2 n2 c2) r1.items ∧ inI r2 ∧ errR 119 w' S3 v3 r3 ∧ (∀ k ∈ S3, w0.heap.size ≤ k) ∧ (S1 ++ S2).Nodup ∧ (∀ k ∈ (S1 ++ S2), k ∈ (S2_1 ++ S2_2) ∨ w0.heap.size ≤ k)) r
def Q_impl_fileReader_choice (w0 : World) (B : Nat) (r : Val × Int × (Option (Int × Int))) (v : Value) (w' : World) : Prop := Below w0.heap.size w0 w' ∧ un3 (fun r1 r2 r3 => ∃ (a1 : Option Addr) (n1 c1 : Nat) (S1 : List Nat) (a2 : Option Addr) (n2 c2 : Nat) (S2 : List Nat) (v3 : Value) (S3 : List Nat), v = .tuple #[(.agg #[vI r1.number, .slice a1 n1 c1, .slice a2 n2 c2]), (vI r2), v3] ∧ inI r1.number ∧ ownS w' S1 (.slice a1 n1 c1) r1.bytes ∧ ownS w' S2 (.slice a2 n2 c2) r1.items ∧ inI r2 ∧ errR 119 w' S3 v3 r3 ∧ (∀ k ∈ S3, w0.heap.size ≤ k) ∧ (S1 ++ S2).Nodup ∧ (∀ k ∈ (S1 ++ S2), w0.heap.size ≤ k)) r
def Q_impl_fileReader_option (w0 : World) (B : Nat) (r : Val × Int × (Option (Int × Int))) (v : Value) (w' : World) : Prop := Below w0.heap.size w0 w' ∧ un3 (fun r1 r2 r3 => ∃ (a1 : Option Addr) (n1 c1 : Nat) (S1 : List Nat) (a2 : Option Addr) (n2 c2 : Nat) (S2 : List Nat) (v3 : Value) (S3 : List Nat), v = .tuple #[(.agg #[vI r1.number, .slice a1 n1 c1, .slice a2 n2 c2]), (vI r2), v3] ∧ inI r1.number ∧ ownS w' S1 (.slice a1 n1 c1) r1.bytes ∧ ownS w' S2 (.slice a2 n2 c2) r1.items ∧ inI r2 ∧ errR 119 w' S3 v3 r3 ∧ (∀ k ∈ S3, w0.heap.size ≤ k) ∧ (S1 ++ S2).Nodup ∧ (∀ k ∈ (S1 ++ S2), w0.heap.size ≤ k)) r
def Q_impl_fileReader_checked (w0 : World) (B : Nat) (r : Val × Int × (Option (Int × Int))) (v : Value) (w' : World) : Prop := Below w0.heap.size w0 w' ∧ un3 (fun r1 r2 r3 => ∃ (a1 : Option Addr) (n1 c1 : Nat) (S1 : List Nat) (a2 : Option Addr) (n2 c2 : Nat) (S2 : List Nat) (v3 : Value) (S3 : List Nat), v = .tuple #[(.agg #[vI r1.number, .slice a1 n1 c1, .slice a2 n2 c2]), (vI r2), v3] ∧ inI r1.number ∧ ownS w' S1 (.slice a1 n1 c1) r1.bytes ∧ ownS w' S2 (.slice a2 n2 c2) r1.items ∧ inI r2 ∧ errR 119 w' S3 v3 r3 ∧ (∀ k ∈ S3, w0.heap.size ≤ k) ∧ (S1 ++ S2).Nodup ∧ (∀ k ∈ (S1 ++ S2), w0.heap.size ≤ k)) r
structure S_impl_fileReader_value (f : FileReader → Int → Int → Option (Val × Int × (Option (Int × Int)))) : Prop where
  run : ∀ {B pn1_0 pc1_0 pn1_1 pc1_1 b1 o1 : Nat} {pa1_0 pa1_1 : Option Addr} {x1 : FileReader} {x2 : Int} {x3 : Int} {res : Val × Int × (Option (Int × Int))} {w0 : World} (hm : f x1 x2 x3 = some res) (hBw : B ≤ w0.heap.size) (p1_0 : repS w0 B (.slice pa1_0 pn1_0 pc1_0) x1.d.rules) (p1_1 : repS w0 B (.slice pa1_1 pn1_1 pc1_1) x1.b) (hC1 : CellsAt w0 b1 o1 [(.slice pa1_0 pn1_0 pc1_0), (.slice pa1_1 pn1_1 pc1_1)]) (hC1b : b1 < B) (p2_0 : inI x2) (p3_0 : inI x3), CallsR prog 77 [(.pointer (some ⟨b1, o1, none⟩)), (vI x2), (vI x3)] w0 (Q_impl_fileReader_value w0 B res)
structure S_impl_fileReader_array (f : FileReader → Rule → Int → Option (Val × Int × (Option (Int × Int)))) : Prop where
  run : ∀ {B pn1_0 pc1_0 pn1_1 pc1_1 b1 o1 pn2_4 pc2_4 pn2_5 pc2_5 pn2_6 pc2_6 pn2_7 pc2_7 : Nat} {pa1_0 pa1_1 pa2_4 pa2_5 pa2_6 pa2_7 : Option Addr} {x1 : FileReader} {x2 : Rule} {x3 : Int} {res : Val × Int × (Option (Int × Int))} {w0 : World} (hm : f x1 x2 x3 = some res) (hBw : B ≤ w0.heap.size) (p1_0 : repS w0 B (.slice pa1_0 pn1_0 pc1_0) x1.d.rules) (p1_1 : repS w0 B (.slice pa1_1 pn1_1 pc1_1) x1.b) (hC1 : CellsAt w0 b1 o1 [(.slice pa1_0 pn1_0 pc1_0), (.slice pa1_1 pn1_1 pc1_1)]) (hC1b : b1 < B) (p2_0 : x2.name.b.length ≤ LEN) (p2_1 : inI x2.kind) (p2_2 : inI x2.size) (p2_4 : repS w0 B (.slice pa2_4 pn2_4 pc2_4) x2.bytes) (p2_5 : repS w0 B (.slice pa2_5 pn2_5 pc2_5) x2.names) (p2_6 : repS w0 B (.slice pa2_6 pn2_6 pc2_6) x2.tags) (p2_7 : repS w0 B (.slice pa2_7 pn2_7 pc2_7) x2.kids) (p3_0 : inI x3), CallsR prog 110 [(.pointer (some ⟨b1, o1, none⟩)), (.agg #[(Str.v x2.name), (vI x2.kind), (vI x2.size), (vB x2.little), (.slice pa2_4 pn2_4 pc2_4), (.slice pa2_5 pn2_5 pc2_5), (.slice pa2_6 pn2_6 pc2_6), (.slice pa2_7 pn2_7 pc2_7)]), (vI x3)] w0 (Q_impl_fileReader_array w0 B res)
structure S_impl_fileReader_items (f : FileReader → Val → (List Int) → Int → Option (Val × Int × (Option (Int × Int)))) : Prop where
  run : ∀ {B pn1_0 pc1_0 pn1_1 pc1_1 b1 o1 pn2_1 pc2_1 pn2_2 pc2_2 pn3_0 pc3_0 : Nat} {pa1_0 pa1_1 pa2_1 pa2_2 pa3_0 : Option Addr} {S2_1 S2_2 : List Nat} {x1 : FileReader} {x2 : Val} {x3 : List Int} {x4 : Int} {res : Val × Int × (Option (Int × Int))} {w0 : World} (hm : f x1 x2 x3 x4 = some res) (hBw : B ≤ w0.heap.size) (p1_0 : repS w0 B (.slice pa1_0 pn1_0 pc1_0) x1.d.rules) (p1_1 : repS w0 B (.slice pa1_1 pn1_1 pc1_1) x1.b) (hC1 : CellsAt w0 b1 o1 [(.slice pa1_0 pn1_0 pc1_0), (.slice pa1_1 pn1_1 pc1_1)]) (hC1b : b1 < B) (p2_0 : inI x2.number) (p2_1 : ownS w0 S2_1 (.slice pa2_1 pn2_1 pc2_1) x2.bytes) (p2_1n : S2_1.Nodup) (p2_1g : ∀ k ∈ S2_1, B ≤ k) (p2_2 : ownS w0 S2_2 (.slice pa2_2 pn2_2 pc2_2) x2.items) (p2_2n : S2_2.Nodup) (p2_2g : ∀ k ∈ S2_2, B ≤ k) (p2_2d1 : ∀ k ∈ S2_2, k ∉ S2_1) (p3_0 : repS w0 B (.slice pa3_0 pn3_0 pc3_0) x3) (p4_0 : inI x4), CallsR prog 111 [(.pointer (some ⟨b1, o1, none⟩)), (.agg #[(vI x2.number), (.slice pa2_1 pn2_1 pc2_1), (.slice pa2_2 pn2_2 pc2_2)]), (.slice pa3_0 pn3_0 pc3_0), (vI x4)] w0 (Q_impl_fileReader_items w0 B S2_1 S2_2 res)
structure S_impl_fileReader_choice (f : FileReader → Rule → Int → Option (Val × Int × (Option (Int × Int)))) : Prop where
  run : ∀ {B pn1_0 pc1_0 pn1_1 pc1_1 b1 o1 pn2_4 pc2_4 pn2_5 pc2_5 pn2_6 pc2_6 pn2_7 pc2_7 : Nat} {pa1_0 pa1_1 pa2_4 pa2_5 pa2_6 pa2_7 : Option Addr} {x1 : FileReader} {x2 : Rule} {x3 : Int} {res : Val × Int × (Option (Int × Int))} {w0 : World} (hm : f x1 x2 x3 = some res) (hBw : B ≤ w0.heap.size) (p1_0 : repS w0 B (.slice pa1_0 pn1_0 pc1_0) x1.d.rules) (p1_1 : repS w0 B (.slice pa1_1 pn1_1 pc1_1) x1.b) (hC1 : CellsAt w0 b1 o1 [(.slice pa1_0 pn1_0 pc1_0), (.slice pa1_1 pn1_1 pc1_1)]) (hC1b : b1 < B) (p2_0 : x2.name.b.length ≤ LEN) (p2_1 : inI x2.kind) (p2_2 : inI x2.size) (p2_4 : repS w0 B (.slice pa2_4 pn2_4 pc2_4) x2.bytes) (p2_5 : repS w0 B (.slice pa2_5 pn2_5 pc2_5) x2.names) (p2_6 : repS w0 B (.slice pa2_6 pn2_6 pc2_6) x2.tags) (p2_7 : repS w0 B (.slice pa2_7 pn2_7 pc2_7) x2.kids) (p3_0 : inI x3), CallsR prog 112 [(.pointer (some ⟨b1, o1, none⟩)), (.agg #[(Str.v x2.name), (vI x2.kind), (vI x2.size), (vB x2.little), (.slice pa2_4 pn2_4 pc2_4), (.slice pa2_5 pn2_5 pc2_5), (.slice pa2_6 pn2_6 pc2_6), (.slice pa2_7 pn2_7 pc2_7)]), (vI x3)] w0 (Q_impl_fileReader_choice w0 B res)
structure S_impl_fileReader_option (f : FileReader → Rule → Int → Option (Val × Int × (Option (Int × Int)))) : Prop where
  run : ∀ {B pn1_0 pc1_0 pn1_1 pc1_1 b1 o1 pn2_4 pc2_4 pn2_5 pc2_5 pn2_6 pc2_6 pn2_7 pc2_7 : Nat} {pa1_0 pa1_1 pa2_4 pa2_5 pa2_6 pa2_7 : Option Addr} {x1 : FileReader} {x2 : Rule} {x3 : Int} {res : Val × Int × (Option (Int × Int))} {w0 : World} (hm : f x1 x2 x3 = some res) (hBw : B ≤ w0.heap.size) (p1_0 : repS w0 B (.slice pa1_0 pn1_0 pc1_0) x1.d.rules) (p1_1 : repS w0 B (.slice pa1_1 pn1_1 pc1_1) x1.b) (hC1 : CellsAt w0 b1 o1 [(.slice pa1_0 pn1_0 pc1_0), (.slice pa1_1 pn1_1 pc1_1)]) (hC1b : b1 < B) (p2_0 : x2.name.b.length ≤ LEN) (p2_1 : inI x2.kind) (p2_2 : inI x2.size) (p2_4 : repS w0 B (.slice pa2_4 pn2_4 pc2_4) x2.bytes) (p2_5 : repS w0 B (.slice pa2_5 pn2_5 pc2_5) x2.names) (p2_6 : repS w0 B (.slice pa2_6 pn2_6 pc2_6) x2.tags) (p2_7 : repS w0 B (.slice pa2_7 pn2_7 pc2_7) x2.kids) (p3_0 : inI x3), CallsR prog 113 [(.pointer (some ⟨b1, o1, none⟩)), (.agg #[(Str.v x2.name), (vI x2.kind), (vI x2.size), (vB x2.little), (.slice pa2_4 pn2_4 pc2_4), (.slice pa2_5 pn2_5 pc2_5), (.slice pa2_6 pn2_6 pc2_6), (.slice pa2_7 pn2_7 pc2_7)]), (vI x3)] w0 (Q_impl_fileReader_option w0 B res)
structure S_impl_fileReader_checked (f : FileReader → Rule → Int → Option (Val × Int × (Option (Int × Int)))) : Prop where
  run : ∀ {B pn1_0 pc1_0 pn1_1 pc1_1 b1 o1 pn2_4 pc2_4 pn2_5 pc2_5 pn2_6 pc2_6 pn2_7 pc2_7 : Nat} {pa1_0 pa1_1 pa2_4 pa2_5 pa2_6 pa2_7 : Option Addr} {x1 : FileReader} {x2 : Rule} {x3 : Int} {res : Val × Int × (Option (Int × Int))} {w0 : World} (hm : f x1 x2 x3 = some res) (hBw : B ≤ w0.heap.size) (p1_0 : repS w0 B (.slice pa1_0 pn1_0 pc1_0) x1.d.rules) (p1_1 : repS w0 B (.slice pa1_1 pn1_1 pc1_1) x1.b) (hC1 : CellsAt w0 b1 o1 [(.slice pa1_0 pn1_0 pc1_0), (.slice pa1_1 pn1_1 pc1_1)]) (hC1b : b1 < B) (p2_0 : x2.name.b.length ≤ LEN) (p2_1 : inI x2.kind) (p2_2 : inI x2.size) (p2_4 : repS w0 B (.slice pa2_4 pn2_4 pc2_4) x2.bytes) (p2_5 : repS w0 B (.slice pa2_5 pn2_5 pc2_5) x2.names) (p2_6 : repS w0 B (.slice pa2_6 pn2_6 pc2_6) x2.tags) (p2_7 : repS w0 B (.slice pa2_7 pn2_7 pc2_7) x2.kids) (p3_0 : inI x3), CallsR prog 114 [(.pointer (some ⟨b1, o1, none⟩)), (.agg #[(Str.v x2.name), (vI x2.kind), (vI x2.size), (vB x2.little), (.slice pa2_4 pn2_4 pc2_4), (.slice pa2_5 pn2_5 pc2_5), (.slice pa2_6 pn2_6 pc2_6), (.slice pa2_7 pn2_7 pc2_7)]), (vI x3)] w0 (Q_impl_fileReader_checked w0 B res)
abbrev I_impl_fileReader_value (n : Nat) : Prop := S_impl_fileReader_value (F_impl_fileReader_value n).impl_fileReader_value ∧ S_impl_fileReader_array (F_impl_fileReader_value n).impl_fileReader_array ∧ S_impl_fileReader_items (F_impl_fileReader_value n).impl_fileReader_items ∧ S_impl_fileReader_choice (F_impl_fileReader_value n).impl_fileReader_choice ∧ S_impl_fileReader_option (F_impl_fileReader_value n).impl_fileReader_option ∧ S_impl_fileReader_checked (F_impl_fileReader_value n).impl_fileReader_checked
theorem T_impl_fileReader_value (ih : I_impl_fileReader_value n) : S_impl_fileReader_value (B_impl_fileReader_value n (F_impl_fileReader_value n)) := by
 obtain ⟨ih0, ih1, ih2, ih3, ih4, ih5⟩ := ih
 constructor
 intro B pn1_0 pc1_0 pn1_1 pc1_1 b1 o1 pa1_0 pa1_1 x1 x2 x3 res w0 hm hBw p1_0 p1_1 hC1 hC1b p2_0 p3_0
 unfold B_impl_fileReader_value at hm
 obtain ⟨fn, hf, hb, hN, hr⟩ := fnE func77
 refine goW hf (hb.trans z) (hN.trans z) (lb z) (Ws (E z (fa zero_41) ?_))
 rintro _ w3j ⟨rfl, h3k⟩
 have h12 := h3k.below
 have h13 : Blk w3j w0.heap.size [(vI 0), (.slice none 0 0), (.slice none 0 0)] := h3k.blk
 refine Ra z (Ra z (Wn (Ws (Rm z (R z (rd_nil z) (R z (fd f_114_0 z) (R z (fd f_31_0 z) ?_)))))))
 have h15 := hC1.ext h12
 refine R z (l1 g_29 z fid (h15.at (j := 0) z)) (Rm z ?_)
 obtain ⟨x14, e64, hm3l⟩ := bdS hm
 have h17 := p1_0.ext h12
 refine RX z (at_ (α := Rule) d_29 z_74 z z z h17 e64) ?_
 rintro _ ⟨b10b, o10c, cs10d, rfl, h65, h66, h10e⟩
 obtain ⟨a1a, n1b, c1c, a1d, n1e, c1f, a1g, n1h, c1i, a1j, n1k, c1l, rfl, h1v, h1w, h1s, h1t, h1x, h1y, h1m⟩ := Rule_open h66
 refine R z (lN (vs := [(Str.v x14.name), (vI x14.kind), (vI x14.size), (vB x14.little), (.slice a1a n1b c1c), (.slice a1d n1e c1f), (.slice a1g n1h c1i), (.slice a1j n1k c1l)]) g_74 z_74 z z fid h65) (E z (fa zero_74) ?_)
 rintro _ w67 ⟨rfl, h3m⟩
 have h10 := h3m.below
 have h68 : Blk w67 w3j.heap.size [(Str.v (⟨[]⟩ : Str)), (vI 0), (vI 0), (vB false), (.slice none 0 0), (.slice none 0 0), (.slice none 0 0), (.slice none 0 0)] := h3m.blk
 refine E0 (fs (cur' := [(Str.v x14.name), (vI x14.kind), (vI x14.size), (vB x14.little), (.slice a1a n1b c1c), (.slice a1d n1e c1f), (.slice a1g n1h c1i), (.slice a1j n1k c1l)]) z_74 z z h68 z (lb z) (oA z) z) ?_
 rintro _ w10f ⟨h18, s69⟩
 have h11 := s69.one
 refine Wn (Wq (Ws (R z (fd f_74_1 z) (R z (l1 g_3 z fid (h18.at z)) (Wn (WC_block (Ws (R z (eql z z) (Ra z (Wn (Wc z (fun hc2m => ?_) (fun hc2m => ?_))))))))))))
 ·refine Ws (Rm z (Rm z (Rm z ?_)))
  have h2n := mem1le (lt_ hBw h12.size)
  have h3n := lt_ (lt_ h12.size h10.size) h11.size
  obtain ⟨r3o, r10g, r10h, e6a, hm6b⟩ := bd3S (ifT hm3l hc2m)
  refine E z (fc call107 z (W_impl_fileReader_integer (B := B) e6a (lt_ hBw h3n) ((h17.ext h10).chg h11 (lg h2n)) (((p1_1.ext h12).ext h10).chg h11 (lg h2n)) ((h15.ext h10).chg h11 ((lg h2n) _ hC1b)) hC1b p2_0 p3_0)) ?_
  rintro _ w10i ⟨s3p, v6c, S6d, rfl, h6e, h6f, h6g, h3q⟩
  refine Rm z ?_
  iterate 3 refine R z (ext_ z z) ?_
  refine Ra z (Ra z (Ra z (Wn (Ws (Rm z (R z (bP (parts := [(0, (.tmp 41))]) (cs := [(vI r3o), (.slice none 0 0), (.slice none 0 0)]) build_41 z z) (Rm z (Rm z (E0 (fs (cur' := [(vI r3o), (.slice none 0 0), (.slice none 0 0)]) z_41 z z (((h13.ext h10).chg h11 (djs (mmr h13.lt))).ext s3p) z (lb z) (oA z) z) ?_)))))))))
  rintro _ w10j ⟨h6h, s6i⟩
  have h3r := s6i.one
  refine Ra z (Ra z (Wn ?_))
  obtain rfl := som hm6b
  exact Wr (rtO (ret3 hr (resC g_41 z_41 z h6h z) z z ⟨(bM (bup (bM (bup h12 h10) h11 (mem1le h12.size)) s3p) h3r (mem1 lr)), none, 0, 0, [], none, 0, 0, [], v6c, S6d, z, h6e, onL, onL, h6f, (h6g.chg h3r (o0n1 h3q h13.lt (lt_ h10.size h11.size))), (o0le h3q h3n), nd0, al0⟩))
 have hm3s := ifF hm3l hc2m
 refine Ws (R z (eql z z) (Ra z (Wn (Wc z (fun hc2o => ?_) (fun hc2o => ?_)))))
 ·refine Ws (Rm z (R z (lN (vs := [(Str.v x14.name), (vI x14.kind), (vI x14.size), (vB x14.little), (.slice a1a n1b c1c), (.slice a1d n1e c1f), (.slice a1g n1h c1i), (.slice a1j n1k c1l)]) g_74 z_74 z z fid (h18.row 0 8 z)) (Rm z ?_)))
  have h1n := mem1le (lt_ hBw h12.size)
  have h3t := lt_ (lt_ h12.size h10.size) h11.size
  obtain ⟨r10k, r10l, e6j, hm6k⟩ := bd2S (ifT hm3s hc2o)
  refine E z (fc call108 z (W_impl_fileReader_constant (B := B) e6j (lt_ hBw h3t) ((h17.ext h10).chg h11 (lg h1n)) (((p1_1.ext h12).ext h10).chg h11 (lg h1n)) ((h15.ext h10).chg h11 ((lg h1n) _ hC1b)) hC1b h1v h1w h1s ((h1t.ext h10).chg h11 (lg h1n)) ((h1x.ext h10).chg h11 (lg h1n)) ((h1y.ext h10).chg h11 (lg h1n)) ((h1m.ext h10).chg h11 (lg h1n)) p3_0)) ?_
  rintro _ w10m ⟨s3u, v6l, S6m, rfl, h6n, h6o, h3v⟩
  refine Rm z (R z (ext_ z z) (R z (ext_ z z) (Ra z (Ra z (Wn (Ws (R z (bP (parts := []) (cs := [(vI 0), (.slice none 0 0), (.slice none 0 0)]) build_41 z z) (Rm z (Rm z (E0 (fs (cur' := [(vI 0), (.slice none 0 0), (.slice none 0 0)]) z_41 z z (((h13.ext h10).chg h11 (djs (mmr h13.lt))).ext s3u) z (lb z) (oA z) z) ?_))))))))))
  rintro _ w10n ⟨h6p, s6q⟩
  have h3w := s6q.one
  refine Ra z (Ra z (Wn ?_))
  obtain rfl := som hm6k
  exact Wr (rtO (ret3 hr (resC g_41 z_41 z h6p z) z z ⟨(bM (bup (bM (bup h12 h10) h11 (mem1le h12.size)) s3u) h3w (mem1 lr)), none, 0, 0, [], none, 0, 0, [], v6l, S6m, z, (ii z), onL, onL, h6n, (h6o.chg h3w (o0n1 h3v h13.lt (lt_ h10.size h11.size))), (o0le h3v h3t), nd0, al0⟩))
 have hm3x := ifF hm3s hc2o
 refine Ws (R z (eql z z) (Ra z (Wn (Wc z (fun hc2p => ?_) (fun hc2p => ?_)))))
 ·refine Ws (Rm z (Rm z (R z (fd f_74_2 z) (R z (l1 g_3 z fid (h18.at z)) ?_))))
  have h2q := mem1le (lt_ hBw h12.size)
  have h1z := lt_ (lt_ h12.size h10.size) h11.size
  obtain ⟨r6r, r10o, r10p, e6s, hm6t⟩ := bd3S (ifT hm3x hc2p)
  refine E z (fc call109 z (W_impl_fileReader_content (B := B) e6s (lt_ hBw h1z) ((h17.ext h10).chg h11 (lg h2q)) (((p1_1.ext h12).ext h10).chg h11 (lg h2q)) ((h15.ext h10).chg h11 ((lg h2q) _ hC1b)) hC1b p3_0 h1s)) ?_
  rintro _ w10q ⟨s3y, a3z, n40, c41, S6u, a42, n43, c44, S6v, v6w, S6x, rfl, h6y, h6z, h70, h71, h72, h45, h2r, h20⟩
  iterate 3 refine R z (ext_ z z) ?_
  refine E0 (fs (cur' := [(vI r6r.number), (.slice a3z n40 c41), (.slice a42 n43 c44)]) z_41 z z (((h13.ext h10).chg h11 (djs (mmr h13.lt))).ext s3y) z (lb z) (oA z) z) ?_
  rintro _ w10r ⟨h73, s74⟩
  have h21 := s74.one
  refine Ra z (Ra z (Wn ?_))
  obtain rfl := som hm6t
  have h2s := lt_ h10.size h11.size
  exact Wr (rtO (ret3 hr (resC g_41 z_41 z h73 z) z z ⟨(bM (bup (bM (bup h12 h10) h11 (mem1le h12.size)) s3y) h21 (mem1 lr)), a3z, n40, c41, S6u, a42, n43, c44, S6v, v6w, S6x, z, h6y, (h6z.chg h21 (o0n1 (all_left h20) h13.lt h2s)), (h70.chg h21 (o0n1 (all_right h20) h13.lt h2s)), h71, (h72.chg h21 (o0n1 h45 h13.lt h2s)), (o0le h45 h1z), (nd_app (nd_left h2r) (nd_right h2r) (nd_dj h2r)), (all_app (o0le (all_left h20) h1z) (o0le (all_right h20) h1z))⟩))
 have hm46 := ifF hm3x hc2p
 refine Ws (R z (eql z z) (Ra z (Wn (Wc z (fun hc2t => ?_) (fun hc2t => ?_)))))
 ·refine Ws (Rm z (R z (fd f_74_7 z) (R z (l1 g_72 z fid (h18.at z)) ?_)))
  obtain ⟨x10s, e75, hm76⟩ := bdS (ifT hm46 hc2t)
  have h22 := mem1le (lt_ hBw h12.size)
  refine RX z (at_ (α := Int) d_72 z_3 z z z ((h1m.ext h10).chg h11 (lg h22)) e75) ?_
  rintro _ ⟨b10t, o10u, cs10v, rfl, h77, h78, h10w⟩
  obtain ⟨rfl, h79⟩ := Int_open h78
  refine R z (l1 g_3 z fid (h77.at0 z)) (Rm z ?_)
  have h47 := (h15.ext h10).chg h11 ((lg h22) _ hC1b)
  have h48 := (h17.ext h10).chg h11 (lg h22)
  have h49 := ((p1_1.ext h12).ext h10).chg h11 (lg h22)
  have h2u := lt_ (lt_ h12.size h10.size) h11.size
  obtain ⟨r10x, r10y, r10z, e7a, hm4a⟩ := bd3S hm76
  refine E z (fc call107 z (W_impl_fileReader_integer (B := B) e7a (lt_ hBw h2u) h48 h49 h47 hC1b h79 p3_0)) ?_
  rintro _ w110 ⟨s19, v7b, S7c, rfl, h7d, h7e, h4b, h4c⟩
  refine Rm z ?_
  iterate 3 refine R z (ext_ z z) ?_
  refine Ra z (Ra z (Ra z (Wn (Wq (Ws (Rm z (R z (rd_neqEr d_116 z z h4b) (Wn (Wc z (fun hc2v => ?_) (fun hc2v => ?_))))))))))
  ·refine Ws (R z (bP (parts := []) (cs := [(vI 0), (.slice none 0 0), (.slice none 0 0)]) build_41 z z) (Rm z (Rm z (E0 (fs (cur' := [(vI 0), (.slice none 0 0), (.slice none 0 0)]) z_41 z z (((h13.ext h10).chg h11 (djs (mmr h13.lt))).ext s19) z (lb z) (oA z) z) ?_))))
   rintro _ w111 ⟨h7f, s7g⟩
   have h4d := s7g.one
   refine Ra z (Ra z (Wn ?_))
   obtain rfl := som (ifT hm4a hc2v)
   exact Wr (rtO (ret3 hr (resC g_41 z_41 z h7f z) z z ⟨(bM (bup (bM (bup h12 h10) h11 (mem1le h12.size)) s19) h4d (mem1 lr)), none, 0, 0, [], none, 0, 0, [], v7b, S7c, z, (ii z), onL, onL, p3_0, (h4b.chg h4d (o0n1 h4c h13.lt (lt_ h10.size h11.size))), (o0le h4c h2u), nd0, al0⟩))
  refine Wk (Ws (Rm z (Rm z (Rm z ?_))))
  have h23 := lt_ h2u s19.size
  obtain ⟨r7h, r112, r113, e7i, hm7j⟩ := bd3S (ifF hm4a hc2v)
  refine E z (fc call109 z (W_impl_fileReader_content (B := B) e7i (lt_ hBw h23) (h48.ext s19) (h49.ext s19) (h47.ext s19) hC1b h7e h7d)) ?_
  rintro _ w114 ⟨s4e, a4f, n4g, c4h, S7k, a4i, n4j, c4k, S7l, v7m, S7n, rfl, h7o, h7p, h7q, h7r, h7s, h4l, h2w, h24⟩
  iterate 3 refine R z (ext_ z z) ?_
  refine E0 (fs (cur' := [(vI r7h.number), (.slice a4f n4g c4h), (.slice a4i n4j c4k)]) z_41 z z ((((h13.ext h10).chg h11 (djs (mmr h13.lt))).ext s19).ext s4e) z (lb z) (oA z) z) ?_
  rintro _ w115 ⟨h7t, s7u⟩
  have h25 := s7u.one
  refine Ra z (Ra z (Wn ?_))
  obtain rfl := som hm7j
  have h2x := lt_ (lt_ h10.size h11.size) s19.size
  exact Wr (rtO (ret3 hr (resC g_41 z_41 z h7t z) z z ⟨(bM (bup (bup (bM (bup h12 h10) h11 (mem1le h12.size)) s19) s4e) h25 (mem1 lr)), a4f, n4g, c4h, S7k, a4i, n4j, c4k, S7l, v7m, S7n, z, h7o, (h7p.chg h25 (o0n1 (all_left h24) h13.lt h2x)), (h7q.chg h25 (o0n1 (all_right h24) h13.lt h2x)), h7r, (h7s.chg h25 (o0n1 h4l h13.lt h2x)), (o0le h4l h23), (nd_app (nd_left h2w) (nd_right h2w) (nd_dj h2w)), (all_app (o0le (all_left h24) h23) (o0le (all_right h24) h23))⟩))
 have hm4m := ifF hm46 hc2t
 refine Ws (R z (eql z z) (Ra z (Wn (Wc z (fun hc2y => ?_) (fun hc2y => ?_)))))
 ·refine Ws (Rm z (R z (lN (vs := [(Str.v x14.name), (vI x14.kind), (vI x14.size), (vB x14.little), (.slice a1a n1b c1c), (.slice a1d n1e c1f), (.slice a1g n1h c1i), (.slice a1j n1k c1l)]) g_74 z_74 z z fid (h18.row 0 8 z)) (Rm z ?_)))
  have h1o := mem1le (lt_ hBw h12.size)
  have h26 := lt_ (lt_ h12.size h10.size) h11.size
  obtain ⟨r7v, r116, r117, e7w, hm7x⟩ := bd3S (ifT hm4m hc2y)
  refine E z (fc call110 z (ih1.run (B := B) e7w (lt_ hBw h26) ((h17.ext h10).chg h11 (lg h1o)) (((p1_1.ext h12).ext h10).chg h11 (lg h1o)) ((h15.ext h10).chg h11 ((lg h1o) _ hC1b)) hC1b h1v h1w h1s ((h1t.ext h10).chg h11 (lg h1o)) ((h1x.ext h10).chg h11 (lg h1o)) ((h1y.ext h10).chg h11 (lg h1o)) ((h1m.ext h10).chg h11 (lg h1o)) p3_0)) ?_
  rintro _ w118 ⟨s4n, a4o, n4p, c4q, S7y, a4r, n4s, c4t, S7z, v80, S81, rfl, h82, h83, h84, h85, h86, h4u, h2z, h27⟩
  iterate 3 refine R z (ext_ z z) ?_
  refine E0 (fs (cur' := [(vI r7v.number), (.slice a4o n4p c4q), (.slice a4r n4s c4t)]) z_41 z z (((h13.ext h10).chg h11 (djs (mmr h13.lt))).ext s4n) z (lb z) (oA z) z) ?_
  rintro _ w119 ⟨h87, s88⟩
  have h28 := s88.one
  refine Ra z (Ra z (Wn ?_))
  obtain rfl := som hm7x
  have h30 := lt_ h10.size h11.size
  exact Wr (rtO (ret3 hr (resC g_41 z_41 z h87 z) z z ⟨(bM (bup (bM (bup h12 h10) h11 (mem1le h12.size)) s4n) h28 (mem1 lr)), a4o, n4p, c4q, S7y, a4r, n4s, c4t, S7z, v80, S81, z, h82, (h83.chg h28 (o0n1 (all_left h27) h13.lt h30)), (h84.chg h28 (o0n1 (all_right h27) h13.lt h30)), h85, (h86.chg h28 (o0n1 h4u h13.lt h30)), (o0le h4u h26), (nd_app (nd_left h2z) (nd_right h2z) (nd_dj h2z)), (all_app (o0le (all_left h27) h26) (o0le (all_right h27) h26))⟩))
 have hm4v := ifF hm4m hc2y
 refine Ws (R z (eql z z) (Ra z (Wn (Wc z (fun hc31 => ?_) (fun hc31 => ?_)))))
 ·refine Ws (Rm z (R z (bP (parts := []) (cs := [(vI 0), (.slice none 0 0), (.slice none 0 0)]) build_41 z z) (R z (fd f_74_7 z) (R z (l1 g_72 z fid (h18.at z)) (Rm z ?_)))))
  have h29 := mem1le (lt_ hBw h12.size)
  have h2a := lt_ (lt_ h12.size h10.size) h11.size
  obtain ⟨r89, r11a, r11b, e8a, hm8b⟩ := bd3S (ifT hm4v hc31)
  refine E z (fc call111 z (ih2.run (B := B) e8a (lt_ hBw h2a) ((h17.ext h10).chg h11 (lg h29)) (((p1_1.ext h12).ext h10).chg h11 (lg h29)) ((h15.ext h10).chg h11 ((lg h29) _ hC1b)) hC1b (ii z) onL nd_nil all_nil onL nd_nil all_nil all_nil ((h1m.ext h10).chg h11 (lg h29)) p3_0)) ?_
  rintro _ w11c ⟨s4w, a4x, n4y, c4z, S50, a51, n52, c53, S54, v8c, S8d, rfl, h8e, h8f, h8g, h8h, h8i, h55, h32, h2b⟩
  iterate 3 refine R z (ext_ z z) ?_
  refine E0 (fs (cur' := [(vI r89.number), (.slice a4x n4y c4z), (.slice a51 n52 c53)]) z_41 z z (((h13.ext h10).chg h11 (djs (mmr h13.lt))).chg s4w (atp (nmA (nmN _) (nmN _)))) z (lb z) (oA z) z) ?_
  rintro _ w11d ⟨h8j, s8k⟩
  have h2c := s8k.one
  refine Ra z (Ra z (Wn ?_))
  obtain rfl := som hm8b
  have h33 := lt_ h10.size h11.size
  have h8l : ∀ k ∈ S50, k ∉ [w0.heap.size] := or1 (all_left h2b) al0 (ltnot (mem1 h13.lt) h33)
  have h8m : ∀ k ∈ S54, k ∉ [w0.heap.size] := or1 (all_right h2b) al0 (ltnot (mem1 h13.lt) h33)
  exact Wr (rtO (ret3 hr (resC g_41 z_41 z h8j z) z z ⟨(bM (bM (bM (bup h12 h10) h11 (mem1le h12.size)) s4w al0) h2c (mem1 lr)), a4x, n4y, c4z, S50, a51, n52, c53, S54, v8c, S8d, z, h8e, (h8f.chg h2c h8l), (h8g.chg h2c h8m), h8h, (h8i.chg h2c (o0n1 h55 h13.lt h33)), (o0le h55 h2a), (nd_app (nd_left h32) (nd_right h32) (nd_dj h32)), (all_app (o1le (all_left h2b) al0 h2a) (o1le (all_right h2b) al0 h2a))⟩))
 have hm56 := ifF hm4v hc31
 refine Ws (R z (eql z z) (Ra z (Wn (Wc z (fun hc34 => ?_) (fun hc34 => ?_)))))
 ·refine Ws (Rm z (R z (lN (vs := [(Str.v x14.name), (vI x14.kind), (vI x14.size), (vB x14.little), (.slice a1a n1b c1c), (.slice a1d n1e c1f), (.slice a1g n1h c1i), (.slice a1j n1k c1l)]) g_74 z_74 z z fid (h18.row 0 8 z)) (Rm z ?_)))
  have h1p := mem1le (lt_ hBw h12.size)
  have h2d := lt_ (lt_ h12.size h10.size) h11.size
  obtain ⟨r8n, r11e, r11f, e8o, hm8p⟩ := bd3S (ifT hm56 hc34)
  refine E z (fc call112 z (ih3.run (B := B) e8o (lt_ hBw h2d) ((h17.ext h10).chg h11 (lg h1p)) (((p1_1.ext h12).ext h10).chg h11 (lg h1p)) ((h15.ext h10).chg h11 ((lg h1p) _ hC1b)) hC1b h1v h1w h1s ((h1t.ext h10).chg h11 (lg h1p)) ((h1x.ext h10).chg h11 (lg h1p)) ((h1y.ext h10).chg h11 (lg h1p)) ((h1m.ext h10).chg h11 (lg h1p)) p3_0)) ?_
  rintro _ w11g ⟨s57, a58, n59, c5a, S8q, a5b, n5c, c5d, S8r, v8s, S8t, rfl, h8u, h8v, h8w, h8x, h8y, h5e, h35, h2e⟩
  iterate 3 refine R z (ext_ z z) ?_
  refine E0 (fs (cur' := [(vI r8n.number), (.slice a58 n59 c5a), (.slice a5b n5c c5d)]) z_41 z z (((h13.ext h10).chg h11 (djs (mmr h13.lt))).ext s57) z (lb z) (oA z) z) ?_
  rintro _ w11h ⟨h8z, s90⟩
  have h2f := s90.one
  refine Ra z (Ra z (Wn ?_))
  obtain rfl := som hm8p
  have h36 := lt_ h10.size h11.size
  exact Wr (rtO (ret3 hr (resC g_41 z_41 z h8z z) z z ⟨(bM (bup (bM (bup h12 h10) h11 (mem1le h12.size)) s57) h2f (mem1 lr)), a58, n59, c5a, S8q, a5b, n5c, c5d, S8r, v8s, S8t, z, h8u, (h8v.chg h2f (o0n1 (all_left h2e) h13.lt h36)), (h8w.chg h2f (o0n1 (all_right h2e) h13.lt h36)), h8x, (h8y.chg h2f (o0n1 h5e h13.lt h36)), (o0le h5e h2d), (nd_app (nd_left h35) (nd_right h35) (nd_dj h35)), (all_app (o0le (all_left h2e) h2d) (o0le (all_right h2e) h2d))⟩))
 have hm5f := ifF hm56 hc34
 refine Ws (R z (eql z z) (Ra z (Wn (Wc z (fun hc37 => ?_) (fun hc37 => ?_)))))
 ·refine Ws (Rm z (R z (lN (vs := [(Str.v x14.name), (vI x14.kind), (vI x14.size), (vB x14.little), (.slice a1a n1b c1c), (.slice a1d n1e c1f), (.slice a1g n1h c1i), (.slice a1j n1k c1l)]) g_74 z_74 z z fid (h18.row 0 8 z)) (Rm z ?_)))
  have h1q := mem1le (lt_ hBw h12.size)
  have h2g := lt_ (lt_ h12.size h10.size) h11.size
  obtain ⟨r91, r11i, r11j, e92, hm93⟩ := bd3S (ifT hm5f hc37)
  refine E z (fc call113 z (ih4.run (B := B) e92 (lt_ hBw h2g) ((h17.ext h10).chg h11 (lg h1q)) (((p1_1.ext h12).ext h10).chg h11 (lg h1q)) ((h15.ext h10).chg h11 ((lg h1q) _ hC1b)) hC1b h1v h1w h1s ((h1t.ext h10).chg h11 (lg h1q)) ((h1x.ext h10).chg h11 (lg h1q)) ((h1y.ext h10).chg h11 (lg h1q)) ((h1m.ext h10).chg h11 (lg h1q)) p3_0)) ?_
  rintro _ w11k ⟨s5g, a5h, n5i, c5j, S94, a5k, n5l, c5m, S95, v96, S97, rfl, h98, h99, h9a, h9b, h9c, h5n, h38, h2h⟩
  iterate 3 refine R z (ext_ z z) ?_
  refine E0 (fs (cur' := [(vI r91.number), (.slice a5h n5i c5j), (.slice a5k n5l c5m)]) z_41 z z (((h13.ext h10).chg h11 (djs (mmr h13.lt))).ext s5g) z (lb z) (oA z) z) ?_
  rintro _ w11l ⟨h9d, s9e⟩
  have h2i := s9e.one
  refine Ra z (Ra z (Wn ?_))
  obtain rfl := som hm93
  have h39 := lt_ h10.size h11.size
  exact Wr (rtO (ret3 hr (resC g_41 z_41 z h9d z) z z ⟨(bM (bup (bM (bup h12 h10) h11 (mem1le h12.size)) s5g) h2i (mem1 lr)), a5h, n5i, c5j, S94, a5k, n5l, c5m, S95, v96, S97, z, h98, (h99.chg h2i (o0n1 (all_left h2h) h13.lt h39)), (h9a.chg h2i (o0n1 (all_right h2h) h13.lt h39)), h9b, (h9c.chg h2i (o0n1 h5n h13.lt h39)), (o0le h5n h2g), (nd_app (nd_left h38) (nd_right h38) (nd_dj h38)), (all_app (o0le (all_left h2h) h2g) (o0le (all_right h2h) h2g))⟩))
 have hm5o := ifF hm5f hc37
 refine Ws (R z (eql z z) (Ra z (Wn (Wc z (fun hc3a => ?_) (fun hc3a => ?_)))))
 ·refine Ws (Rm z (R z (lN (vs := [(Str.v x14.name), (vI x14.kind), (vI x14.size), (vB x14.little), (.slice a1a n1b c1c), (.slice a1d n1e c1f), (.slice a1g n1h c1i), (.slice a1j n1k c1l)]) g_74 z_74 z z fid (h18.row 0 8 z)) (Rm z ?_)))
  have h1r := mem1le (lt_ hBw h12.size)
  have h2j := lt_ (lt_ h12.size h10.size) h11.size
  obtain ⟨r9f, r11m, r11n, e9g, hm9h⟩ := bd3S (ifT hm5o hc3a)
  refine E z (fc call114 z (ih5.run (B := B) e9g (lt_ hBw h2j) ((h17.ext h10).chg h11 (lg h1r)) (((p1_1.ext h12).ext h10).chg h11 (lg h1r)) ((h15.ext h10).chg h11 ((lg h1r) _ hC1b)) hC1b h1v h1w h1s ((h1t.ext h10).chg h11 (lg h1r)) ((h1x.ext h10).chg h11 (lg h1r)) ((h1y.ext h10).chg h11 (lg h1r)) ((h1m.ext h10).chg h11 (lg h1r)) p3_0)) ?_
  rintro _ w11o ⟨s5p, a5q, n5r, c5s, S9i, a5t, n5u, c5v, S9j, v9k, S9l, rfl, h9m, h9n, h9o, h9p, h9q, h5w, h3b, h2k⟩
  iterate 3 refine R z (ext_ z z) ?_
  refine E0 (fs (cur' := [(vI r9f.number), (.slice a5q n5r c5s), (.slice a5t n5u c5v)]) z_41 z z (((h13.ext h10).chg h11 (djs (mmr h13.lt))).ext s5p) z (lb z) (oA z) z) ?_
  rintro _ w11p ⟨h9r, s9s⟩
  have h2l := s9s.one
  refine Ra z (Ra z (Wn ?_))
  obtain rfl := som hm9h
  have h3c := lt_ h10.size h11.size
  exact Wr (rtO (ret3 hr (resC g_41 z_41 z h9r z) z z ⟨(bM (bup (bM (bup h12 h10) h11 (mem1le h12.size)) s5p) h2l (mem1 lr)), a5q, n5r, c5s, S9i, a5t, n5u, c5v, S9j, v9k, S9l, z, h9m, (h9n.chg h2l (o0n1 (all_left h2k) h13.lt h3c)), (h9o.chg h2l (o0n1 (all_right h2k) h13.lt h3c)), h9p, (h9q.chg h2l (o0n1 h5w h13.lt h3c)), (o0le h5w h2j), (nd_app (nd_left h3b) (nd_right h3b) (nd_dj h3b)), (all_app (o0le (all_left h2k) h2j) (o0le (all_right h2k) h2j))⟩))
 refine Wk (Wq (WC_draw (X := noX) 0 (.rd 0 (.rd 1 (.rd 2 (.rd 3 (.rd 4 (.rd 5 (.rd 6 (.rd 7 (.rd 8 (.ef 9 (.rd 10 (.rd 11 (.rd 12 (.rd 13 (.rd 14 (.rd 15 (.rd 16 .done))))))))))))))))) mo (by kernel_rfl) fun w11q s16 _ => dR z z (mv z) (dR z z (rd_nil z) (dR z z (fd f_114_1 z) ?_))))
 have h3d := mem1le (lt_ hBw h12.size)
 refine dR z z (l1 g_25 z fid ((((h15.ext h10).chg h11 ((lg h3d) _ hC1b)).ext s16).at (j := 1) z)) (dR z z (mv z) (dR z z (fd f_74_4 z) (dR z z (l1 g_25 z fid ((h18.ext s16).at z)) ?_)))
 obtain ⟨x11r, e9t, hm9u⟩ := bdS (ifF hm5o hc3a)
 refine dRX z z (at_ (α := UInt8) d_25 z_5 z z z (((h1t.ext h10).chg h11 (lg h3d)).ext s16) e9t) ?_
 rintro _ ⟨b11s, o11t, cs11u, rfl, h9v, h9w, h11v⟩
 obtain rfl := UInt8_open h9w
 refine dR z z (l1 g_5 z fid (h9v.at0 z)) ?_
 have h3e := lt_ (lt_ (lt_ h12.size h10.size) h11.size) s16.size
 obtain ⟨r11w, r11x, r11y, e9x, hm5x⟩ := bd3S hm9u
 refine dE z z (fc call115 z (W_impl_ReadTerminated (B := B) e9x (lt_ hBw h3e) ((((p1_1.ext h12).ext h10).chg h11 (lg h3d)).ext s16) p3_0)) (.inr fun _ _ h => chgB (h.1)) ?_
 rintro _ w11z ⟨s1u, a3f, n3g, c3h, S9y, rfl, h9z, h100, h101, h5y⟩
 refine dR z z (mv z) ?_
 iterate 3 refine dR z z (ext_ z z) ?_
 iterate 3 refine dR z z (asg z) ?_
 refine PR_done (Wo (Wq (Ws (Rm z (R z (not_ z) (Wn (Wc z (fun hc3i => ?_) (fun hc3i => ?_))))))))
 ·refine Ws (R z (bP (parts := []) (cs := [(vI 0), (.slice none 0 0), (.slice none 0 0)]) build_41 z z) (Rm z (Rm z ?_)))
  have h5z := lt_ h3e s1u.size
  obtain ⟨r120, e102, hm103⟩ := bdS (ifT hm5x hc3i)
  refine E z (fc call116 z (W_impl_fail (B := B) e102 (lt_ hBw h5z) p3_0 (ii z))) ?_
  rintro _ w121 ⟨s60, v104, S105, rfl, h106, h61⟩
  refine E0 (fs (cur' := [(vI 0), (.slice none 0 0), (.slice none 0 0)]) z_41 z z (((((h13.ext h10).chg h11 (djs (mmr h13.lt))).ext s16).ext s1u).ext s60) z (lb z) (oA z) z) ?_
  rintro _ w122 ⟨h107, s108⟩
  have h62 := s108.one
  refine Ra z (Ra z (Wn ?_))
  obtain rfl := som hm103
  exact Wr (ret3 hr (resC g_41 z_41 z h107 z) z z ⟨(bM (bup (bup (bup (bM (bup h12 h10) h11 (mem1le h12.size)) s16) s1u) s60) h62 (mem1 lr)), none, 0, 0, [], none, 0, 0, [], v104, S105, z, (ii z), onL, onL, p3_0, (h106.chg h62 (o0n1 h61 h13.lt (lt_ (lt_ (lt_ h10.size h11.size) s16.size) s1u.size))), (o0le h61 h5z), nd0, al0⟩)
 refine Wk (Ws (Rm z (R z (bP (parts := [(1, (.tmp 159))]) (cs := [(vI 0), (.slice a3f n3g c3h), (.slice none 0 0)]) build_41 z z) (Rm z (E0 (fs (cur' := [(vI 0), (.slice a3f n3g c3h), (.slice none 0 0)]) z_41 z z ((((h13.ext h10).chg h11 (djs (mmr h13.lt))).ext s16).ext s1u) z (lb z) (oA z) z) ?_)))))
 rintro _ w123 ⟨h109, s10a⟩
 have h63 := s10a.one
 refine Ra z (Ra z (Wn ?_))
 obtain rfl := som (ifF hm5x hc3i)
 exact Wr (ret3 hr (resC g_41 z_41 z h109 z) z z ⟨(bM (bup (bup (bM (bup h12 h10) h11 (mem1le h12.size)) s16) s1u) h63 (mem1 lr)), a3f, n3g, c3h, S9y, none, 0, 0, [], .nilIface, ([] : List Nat), z, (ii z), (h9z.chg h63 (o0n1 h5y h13.lt (lt_ (lt_ h10.size h11.size) s16.size))), onL, h100, errR_nil, all_nil, (nd_app h101 nd_nil (nmN _)), (all_app (o0le h5y h3e) all_nil)⟩)
theorem T_impl_fileReader_array (ih : I_impl_fileReader_value n) : S_impl_fileReader_array (B_impl_fileReader_array n (F_impl_fileReader_value n)) := by
 obtain ⟨ih0, ih1, ih2, ih3, ih4, ih5⟩ := ih
 constructor
 intro B pn1_0 pc1_0 pn1_1 pc1_1 b1 o1 pn2_4 pc2_4 pn2_5 pc2_5 pn2_6 pc2_6 pn2_7 pc2_7 pa1_0 pa1_1 pa2_4 pa2_5 pa2_6 pa2_7 x1 x2 x3 res w0 hm hBw p1_0 p1_1 hC1 hC1b p2_0 p2_1 p2_2 p2_4 p2_5 p2_6 p2_7 p3_0
 unfold B_impl_fileReader_array at hm
 obtain ⟨fn, hf, hb, hN, hr⟩ := fnE func110
 refine goW hf (hb.trans z) (hN.trans z) (lb z) (Ws (E z (fb z) ?_))
 rintro _ w18 ⟨rfl, h1x⟩
 have h14 := h1x.below
 have h1y : Blk w18 w0.heap.size [(Str.v x2.name), (vI x2.kind), (vI x2.size), (vB x2.little), (.slice pa2_4 pn2_4 pc2_4), (.slice pa2_5 pn2_5 pc2_5), (.slice pa2_6 pn2_6 pc2_6), (.slice pa2_7 pn2_7 pc2_7)] := h1x.blk
 refine E z (fa zero_41) ?_
 rintro _ w2t ⟨rfl, h1z⟩
 have h15 := h1z.below
 have h16 : Blk w2t w18.heap.size [(vI 0), (.slice none 0 0), (.slice none 0 0)] := h1z.blk
 refine Ra z (Ra z (Wn (Ws (Rm z (R z (fd f_74_7 z) ?_)))))
 have h20 := h1y.ext h15
 refine R z (l1 g_72 z fid (h20.at z)) ?_
 obtain ⟨x4m, e2u, hm2v⟩ := bdS hm
 have h21 := (p2_7.ext h14).ext h15
 refine RX z (at_ (α := Int) d_72 z_3 z z z h21 e2u) ?_
 rintro _ ⟨b4n, o4o, cs4p, rfl, h2w, h2x, h4q⟩
 obtain ⟨rfl, h2y⟩ := Int_open h2x
 refine R z (l1 g_3 z fid (h2w.at0 z)) (Rm z ?_)
 have h22 := (hC1.ext h14).ext h15
 have h23 := (p1_0.ext h14).ext h15
 have h24 := (p1_1.ext h14).ext h15
 have h1f := lt_ h14.size h15.size
 obtain ⟨r4r, r1g, r4s, e2z, hm25⟩ := bd3S hm2v
 refine E z (fc call107 z (W_impl_fileReader_integer (B := B) e2z (lt_ hBw h1f) h23 h24 h22 hC1b h2y p3_0)) ?_
 rintro _ w11 ⟨s10, v30, S31, rfl, h4t, h32, h26, h27⟩
 refine Rm z ?_
 iterate 3 refine R z (ext_ z z) ?_
 refine Ra z (Ra z (Ra z (Wn (Wq (Ws (Rm z (R z (rd_neqEr d_116 z z h26) (Wn (Wc z (fun hc1o => ?_) (fun hc1o => ?_))))))))))
 ·refine Ws (R z (bP (parts := []) (cs := [(vI 0), (.slice none 0 0), (.slice none 0 0)]) build_41 z z) (Rm z (Rm z (E0 (fs (cur' := [(vI 0), (.slice none 0 0), (.slice none 0 0)]) z_41 z z (h16.ext s10) z (lb z) (oA z) z) ?_))))
  rintro _ w4u ⟨h33, s34⟩
  have h28 := s34.one
  refine Ra z (Ra z (Wn ?_))
  obtain rfl := som (ifT hm25 hc1o)
  exact Wr (ret3 hr (resC g_41 z_41 z h33 z) z z ⟨(bM (bup (bup h14 h15) s10) h28 (mem1le h14.size)), none, 0, 0, [], none, 0, 0, [], v30, S31, z, (ii z), onL, onL, p3_0, (h26.chg h28 (o0n1 h27 h16.lt lr)), (o0le h27 h1f), nd0, al0⟩)
 have hm29 := ifF hm25 hc1o
 refine Wk (Wq (Ws (Rm z (R z (rd_gtr z z) (Wn (Wc z (fun hc1p => ?_) (fun hc1p => ?_)))))))
 ·refine Ws (R z (bP (parts := []) (cs := [(vI 0), (.slice none 0 0), (.slice none 0 0)]) build_41 z z) (Rm z (Rm z ?_)))
  have h2a := lt_ h1f s10.size
  obtain ⟨r4v, e35, hm36⟩ := bdS (ifT hm29 hc1p)
  refine E z (fc call116 z (W_impl_fail (B := B) e35 (lt_ hBw h2a) p3_0 (ii z))) ?_
  rintro _ w4w ⟨s2b, v37, S38, rfl, h39, h2c⟩
  refine E0 (fs (cur' := [(vI 0), (.slice none 0 0), (.slice none 0 0)]) z_41 z z ((h16.ext s10).ext s2b) z (lb z) (oA z) z) ?_
  rintro _ w4x ⟨h3a, s3b⟩
  have h2d := s3b.one
  refine Ra z (Ra z (Wn ?_))
  obtain rfl := som hm36
  exact Wr (ret3 hr (resC g_41 z_41 z h3a z) z z ⟨(bM (bup (bup (bup h14 h15) s10) s2b) h2d (mem1le h14.size)), none, 0, 0, [], none, 0, 0, [], v37, S38, z, (ii z), onL, onL, p3_0, (h39.chg h2d (o0n1 h2c h16.lt s10.size)), (o0le h2c h2a), nd0, al0⟩)
 refine Wk (Ws (Rm z ?_))
 obtain ⟨x1h, e3c, hm3d⟩ := bdS (ifF hm29 hc1p)
 refine E z (ef_makeN (α := Int) el_72 (fun _ => (Int_own (ii z))) e3c z z) ?_
 rintro _ w12 ⟨a1a, n1b, c1c, rfl, s17, h1q⟩
 refine Ra z (Wn (Wq (Ws (Rm z (R z (lnR d_72 z (ownS.rep h1q)) (Rm z (Wn ?_)))))))
 obtain ⟨u4y, hu3e, hm2e⟩ := bdS hm3d
 refine WC_forN (σ := (List Int)) (ρ := Val × Int × (Option (Int × Int))) (fun (k1r : Nat) (x1d : List Int) a w => ∃  (S13 : List Nat), Sat 59 [(0, (.pointer (some ⟨b1, o1, none⟩))), (4, (.pointer (some ⟨w0.heap.size, 0, none⟩))), (6, (.pointer (some ⟨w18.heap.size, 0, none⟩))), (10, (vI r1g)), (12, (.slice a1a n1b c1c)), (39, (vI (x1h.length : Int))), (40, (vI ((k1r : Nat) : Int)))] a ∧ Chg (· ∈ [w11.heap.size]) w12 w ∧ ownS w S13 (.slice a1a n1b c1c) x1d ∧ S13.Nodup ∧ (∀ k ∈ S13, k ∈ [w11.heap.size] ∨ w12.heap.size ≤ k)) (fun (x1d : List Int) a w => ∃  (S13 : List Nat), Sat 59 [(0, (.pointer (some ⟨b1, o1, none⟩))), (6, (.pointer (some ⟨w18.heap.size, 0, none⟩))), (10, (vI r1g)), (12, (.slice a1a n1b c1c))] a ∧ Chg (· ∈ [w11.heap.size]) w12 w ∧ ownS w S13 (.slice a1a n1b c1c) x1d ∧ S13.Nodup ∧ (∀ k ∈ S13, k ∈ [w11.heap.size] ∨ w12.heap.size ≤ k)) (fun r ex a w => ex = .ret ∧ RetPost prog fn (Q_impl_fileReader_array w0 B r) a w) hu3e ?_ ?_ ?_ ?_ ?_
 ·exact fun _ q => ⟨[w11.heap.size], (q.k (s7 z z z z z z z)), (cr [w11.heap.size] w12), h1q, nd_one, (io sr)⟩
 ·rintro k1r x1d a4z w3f o50 hk2f ⟨S13, hS3g, s1i, h1e, h1j, h1k⟩ hm3h
  refine Wu (e := [(0, (.pointer (some ⟨b1, o1, none⟩))), (4, (.pointer (some ⟨w0.heap.size, 0, none⟩))), (6, (.pointer (some ⟨w18.heap.size, 0, none⟩))), (10, (vI r1g)), (12, (.slice a1a n1b c1c)), (39, (vI (x1h.length : Int))), (40, (vI ((k1r : Nat) : Int)))]) (N := 59) ?_ hS3g
  refine Ws (R z (lss z z) (Wn (Wq (Wc z (fun _ => ?_) (fun hc => (nolt hk2f hc).elim)))))
  refine Wk (Wq (WC_block (Ws (Rm z (Ra z (Wn (Wg (Rm z (Rm z (R z (fd f_74_7 z) (R z (l1 g_72 z fid ((((h20.ext s10).ext s17).chg s1i (djs (mm1 h1y.lt (lt_ h15.size s10.size)))).at z)) ?_)))))))))))
  obtain ⟨x51, e3i, hm3j⟩ := bdS hm3h
  refine RX z (at_ (α := Int) d_72 z_3 z z z (((h21.ext s10).ext s17).chg s1i (lg (mem1le (lt_ hBw (lt_ h1f s10.size))))) e3i) ?_
  rintro _ ⟨b52, o53, cs54, rfl, h3k, h3l, h55⟩
  obtain ⟨rfl, h3m⟩ := Int_open h3l
  refine R z (l1 g_3 z fid (h3k.at0 z)) ?_
  obtain ⟨x3n, e2g, hm3o⟩ := bdS hm3j
  refine RX z (rd_atU (α := Int) d_72 z_3 z z h1e e2g) ?_
  rintro _ ⟨g56, h3p, rfl⟩
  refine E0 (ef_setN (α := Int) z_3 z h3p z z z e2g h1e h1j (Int_own h3m) all_nil nd_nil) ?_
  rintro _ w3q ⟨S2h, s3r, h3s, h3t, h3u⟩
  refine Wn (Wg (R z (inc_ hk2f (lt_ (ownS.len h1q) LEN_le) z z) (Rm z (Wl ?_))))
  have h2i : ∀ k ∈ S13, k ∈ [w11.heap.size] ∨ w12.heap.size ≤ k := or1 h1k (io sr) (leor lr)
  have h3v : ∀ k ∈ S2h, k ∈ [w11.heap.size] ∨ w12.heap.size ≤ k := or2 h3u h2i all_nil (leor s1i.size)
  have h3w : Chg (· ∈ [w11.heap.size]) w12 w3f := cM (cr [w11.heap.size] w12) s1i (io sr)
  have h3x : Chg (· ∈ [w11.heap.size]) w12 w3q := cM h3w s3r h2i
  exact fun _ q => ⟨x3n, (som hm3o).symm, ⟨S2h, (q.k (s7 z z z z z z z)), h3x, h3s, h3t, h3v⟩⟩
 ·rintro x1d a57 w3y ⟨S13, hS3z, s40, h1e, h1j, h1k⟩
  refine Wu (e := [(0, (.pointer (some ⟨b1, o1, none⟩))), (4, (.pointer (some ⟨w0.heap.size, 0, none⟩))), (6, (.pointer (some ⟨w18.heap.size, 0, none⟩))), (10, (vI r1g)), (12, (.slice a1a n1b c1c)), (39, (vI (x1h.length : Int))), (40, (vI ((x1h.length : Nat) : Int)))]) (N := 59) ?_ hS3z
  refine Ws (R z (lss z z) (Wn (Wq (Wc z (fun hc => (noltt hc).elim) (fun _ => ?_)))))
  have h41 : ∀ k ∈ S13, k ∈ [w11.heap.size] ∨ w12.heap.size ≤ k := or1 h1k (io sr) (leor lr)
  have h42 : Chg (· ∈ [w11.heap.size]) w12 w3y := cM (cr [w11.heap.size] w12) s40 (io sr)
  exact WC_exit (fun a' ha' => ⟨rfl, ⟨S13, (Sat.weaken ha' (s4 z z z z)), h42, h1e, h1j, h41⟩⟩)
 ·rintro x1d a43 w44 rfl ⟨S13, hS58, s19, h1e, h1j, h1k⟩
  have hm45 := elL hm2e
  revert a43
  refine Wo (Ws (Rm z (R z (bP (parts := []) (cs := [(vI 0), (.slice none 0 0), (.slice none 0 0)]) build_41 z z) (Rm z (Rm z ?_)))))
  have h1s := lt_ h1f s10.size
  have h1t := mem1le (lt_ hBw h1s)
  have h1l := lt_ (lt_ h1s s17.size) s19.size
  have h1u := lt_ hBw h1l
  obtain ⟨r46, r59, r5a, e47, hm48⟩ := bd3S hm45
  refine E z (fc call111 z (ih2.run (B := w44.heap.size) e47 lr (repS.mono (((h23.ext s10).ext s17).chg s19 (lg h1t)) h1u) (repS.mono (((h24.ext s10).ext s17).chg s19 (lg h1t)) h1u) (((h22.ext s10).ext s17).chg s19 ((lg h1t) _ hC1b)) (Nat.lt_of_lt_of_le hC1b h1u) (ii z) onL nd_nil all_nil onL nd_nil all_nil all_nil (ownS.rep h1e) h32)) ?_
  rintro _ w5b ⟨s2j, a2k, n2l, c2m, S2n, a2o, n2p, c2q, S2r, v49, S4a, rfl, h4b, h4c, h4d, h4e, h4f, h2s, h1v, h1m⟩
  iterate 3 refine R z (ext_ z z) ?_
  refine E0 (fs (cur' := [(vI r46.number), (.slice a2k n2l c2m), (.slice a2o n2p c2q)]) z_41 z z ((((h16.ext s10).ext s17).chg s19 (djs (mm1 h16.lt s10.size))).chg s2j (atp (nmA (nmN _) (nmN _)))) z (lb z) (oA z) z) ?_
  rintro _ w5c ⟨h4g, s4h⟩
  have h1n := s4h.one
  refine Ra z (Ra z (Wn ?_))
  obtain rfl := som hm48
  have h1w := lt_ (lt_ s10.size s17.size) s19.size
  have h4i : ∀ k ∈ S2n, k ∉ [w18.heap.size] := or1 (all_left h1m) al0 (ltnot (mem1 h16.lt) h1w)
  have h4j : ∀ k ∈ S2r, k ∉ [w18.heap.size] := or1 (all_right h1m) al0 (ltnot (mem1 h16.lt) h1w)
  exact Wr (ret3 hr (resC g_41 z_41 z h4g z) z z ⟨(bM (bM (bM (bup (bup (bup h14 h15) s10) s17) s19 (mem1le h1s)) s2j al0) h1n (mem1le h14.size)), a2k, n2l, c2m, S2n, a2o, n2p, c2q, S2r, v49, S4a, z, h4b, (h4c.chg h1n h4i), (h4d.chg h1n h4j), h4e, (h4f.chg h1n (o0n1 h2s h16.lt h1w)), (o0le h2s h1l), (nd_app (nd_left h1v) (nd_right h1v) (nd_dj h1v)), (all_app (o1le (all_left h1m) al0 h1l) (o1le (all_right h1m) al0 h1l))⟩)
 rintro r5d ex5e a5f w5g rfl ⟨rfl, hq4k⟩
 have hm4l := elR hm2e
 obtain rfl := som hm4l
 exact ⟨hq4k, z⟩
theorem T_impl_fileReader_items (ih : I_impl_fileReader_value n) : S_impl_fileReader_items (B_impl_fileReader_items n (F_impl_fileReader_value n)) := by
 obtain ⟨ih0, ih1, ih2, ih3, ih4, ih5⟩ := ih
 constructor
 intro B pn1_0 pc1_0 pn1_1 pc1_1 b1 o1 pn2_1 pc2_1 pn2_2 pc2_2 pn3_0 pc3_0 pa1_0 pa1_1 pa2_1 pa2_2 pa3_0 S2_1 S2_2 x1 x2 x3 x4 res w0 hm hBw p1_0 p1_1 hC1 hC1b p2_0 p2_1 p2_1n p2_1g p2_2 p2_2n p2_2g p2_2d1 p3_0 p4_0
 unfold B_impl_fileReader_items at hm
 obtain ⟨fn, hf, hb, hN, hr⟩ := fnE func111
 refine goW hf (hb.trans z) (hN.trans z) (lb z) (Ws (E z (fb z) ?_))
 rintro _ w1a ⟨rfl, h28⟩
 have h12 := h28.below
 have h1e : Blk w1a w0.heap.size [(vI x2.number), (.slice pa2_1 pn2_1 pc2_1), (.slice pa2_2 pn2_2 pc2_2)] := h28.blk
 refine E z (fa zero_41) ?_
 rintro _ w10 ⟨rfl, h29⟩
 have h14 := h29.below
 have h1k : Blk w10 w1a.heap.size [(vI 0), (.slice none 0 0), (.slice none 0 0)] := h29.blk
 refine Ra z (Ra z (Wn (Wq (Ws (Rm z ?_)))))
 have h2a := (p3_0.ext h12).ext h14
 refine R z (lnR d_72 z h2a) (Rm z (Wn ?_))
 obtain ⟨u56, hu30, hm2b⟩ := bdS hm
 refine WC_forN (σ := Int × (List Val)) (ρ := Val × Int × (Option (Int × Int))) (fun (k1s : Nat) s a w => un2 (fun x1b x1h => ∃ (a15 : Option Addr) (n16 c17 : Nat) (S11 : List Nat), Sat 45 [(0, (.pointer (some ⟨b1, o1, none⟩))), (3, (vI x1b)), (5, (.pointer (some ⟨w0.heap.size, 0, none⟩))), (8, (.pointer (some ⟨w1a.heap.size, 0, none⟩))), (16, (.slice pa3_0 pn3_0 pc3_0)), (17, (vI (x3.length : Int))), (18, (vI ((k1s : Nat) : Int)))] a ∧ Chg (· ∈ (S2_2 ++ [w0.heap.size])) w10 w ∧ inI x1b ∧ ownS w S11 (.slice a15 n16 c17) x1h ∧ S11.Nodup ∧ (∀ k ∈ S11, k ∈ S2_2 ∨ w10.heap.size ≤ k) ∧ Blk w w0.heap.size [(vI x2.number), (.slice pa2_1 pn2_1 pc2_1), (.slice a15 n16 c17)]) s) (fun s a w => un2 (fun x1b x1h => ∃ (a15 : Option Addr) (n16 c17 : Nat) (S11 : List Nat), Sat 45 [(3, (vI x1b)), (5, (.pointer (some ⟨w0.heap.size, 0, none⟩))), (8, (.pointer (some ⟨w1a.heap.size, 0, none⟩)))] a ∧ Chg (· ∈ (S2_2 ++ [w0.heap.size])) w10 w ∧ inI x1b ∧ ownS w S11 (.slice a15 n16 c17) x1h ∧ S11.Nodup ∧ (∀ k ∈ S11, k ∈ S2_2 ∨ w10.heap.size ≤ k) ∧ Blk w w0.heap.size [(vI x2.number), (.slice pa2_1 pn2_1 pc2_1), (.slice a15 n16 c17)]) s) (fun r ex a w => ex = .ret ∧ RetPost prog fn (Q_impl_fileReader_items w0 B S2_1 S2_2 r) a w) hu30 ?_ ?_ ?_ ?_ ?_
 ·exact fun _ q => ⟨pa2_2, pn2_2, pc2_2, S2_2, (q.k (s7 z z z z z z z)), (cr (S2_2 ++ [w0.heap.size]) w10), p4_0, ((p2_2.ext h12).ext h14), p2_2n, (io sr), (h1e.ext h14)⟩
 ·rintro k1s ⟨x1b, x1h⟩ a57 w2c o58 hk2d ⟨a15, n16, c17, S11, hS31, s13, h1i, h1f, h1l, h1d, h1m⟩ hm32
  have hm33 := un2S hm32
  refine Wu (e := [(0, (.pointer (some ⟨b1, o1, none⟩))), (3, (vI x1b)), (5, (.pointer (some ⟨w0.heap.size, 0, none⟩))), (8, (.pointer (some ⟨w1a.heap.size, 0, none⟩))), (16, (.slice pa3_0 pn3_0 pc3_0)), (17, (vI (x3.length : Int))), (18, (vI ((k1s : Nat) : Int)))]) (N := 45) ?_ hS31
  refine Ws (R z (lss z z) (Wn (Wq (Wc z (fun _ => ?_) (fun hc => (nolt hk2d hc).elim)))))
  refine Wk (Wq (WC_block (Ws ?_)))
  obtain ⟨x59, e34, hm35⟩ := bdS hm33
  have h1o := mem1le hBw
  refine RX z (at_ (α := Int) d_72 z_3 z z z (h2a.chg s13 (nmA (lg p2_2g) (lg h1o))) e34) ?_
  rintro _ ⟨b5a, o5b, cs5c, rfl, h36, h37, h5d⟩
  obtain ⟨rfl, h38⟩ := Int_open h37
  refine R z (l1 g_3 z fid (h36.at0 z)) (Ra z (Wn (Ws (Rm z (Rm z (Rm z ?_))))))
  have h1t := lt_ (lt_ h12.size h14.size) s13.size
  obtain ⟨r1p, r39, r5e, e3a, hm2e⟩ := bd3S hm35
  refine E z (fc call77 z (ih0.run (B := B) e3a (lt_ hBw h1t) (((p1_0.ext h12).ext h14).chg s13 (nmA (lg p2_2g) (lg h1o))) (((p1_1.ext h12).ext h14).chg s13 (nmA (lg p2_2g) (lg h1o))) (((hC1.ext h12).ext h14).chg s13 ((nmA (lg p2_2g) (lg h1o)) _ hC1b)) hC1b h38 h1i)) ?_
  rintro _ w1n ⟨s1c, a1u, n1v, c1w, S2f, a1x, n1y, c1z, S2g, v3b, S3c, rfl, h3d, h1q, h1r, h3e, h2h, h2i, h20, h1j⟩
  refine Rm z ?_
  iterate 3 refine R z (ext_ z z) ?_
  refine E z (fa zero_41) ?_
  rintro _ w21 ⟨rfl, h2j⟩
  have h18 := h2j.below
  have h3f : Blk w21 w1n.heap.size [(vI 0), (.slice none 0 0), (.slice none 0 0)] := h2j.blk
  refine E0 (fs (cur' := [(vI r1p.number), (.slice a1u n1v c1w), (.slice a1x n1y c1z)]) z_41 z z h3f z (lb z) (oA z) z) ?_
  rintro _ w22 ⟨h3g, s3h⟩
  have h19 := s3h.one
  refine Ra z (Ra z (Wn (Wq (Ws (Rm z ?_)))))
  have h2k := (h2h.ext h18).chg h19 (dj_symm (mnr (errR.lt h2h)))
  refine R z (rd_neqEr d_116 z z h2k) (Wn (Wc z (fun hc23 => ?_) (fun hc23 => ?_)))
  ·refine Ws (R z (bP (parts := []) (cs := [(vI 0), (.slice none 0 0), (.slice none 0 0)]) build_41 z z) (Rm z (Rm z ?_)))
   have h3i := (((h1k.chg s13 (atp (nmA (mno (ownS.lt p2_2) h12.size) (mmr h1e.lt)))).ext s1c).ext h18).chg h19 (djs (mm1 h1k.lt (lt_ s13.size s1c.size)))
   refine E0 (fs (cur' := [(vI 0), (.slice none 0 0), (.slice none 0 0)]) z_41 z z h3i z (lb z) (oA z) z) ?_
   rintro _ w3j ⟨h3k, s3l⟩
   have h2l := s3l.one
   refine Ra z (Ra z (Wn ?_))
   have h3m : Chg (· ∈ (S2_1 ++ S2_2)) w0 w1a := cext (cr (S2_1 ++ S2_2) w0) h12
   have h3n : Chg (· ∈ (S2_1 ++ S2_2)) w0 w10 := cext h3m h14
   have h3o : ∀ k ∈ [w0.heap.size], k ∈ (S2_1 ++ S2_2) ∨ w0.heap.size ≤ k := mor lr
   have h3p : Chg (· ∈ (S2_1 ++ S2_2)) w0 w2c := cM h3n s13 (all_app (io (sub_r sr)) h3o)
   have h3q : Chg (· ∈ (S2_1 ++ S2_2)) w0 w1n := cext h3p s1c
   have h3r : Chg (· ∈ (S2_1 ++ S2_2)) w0 w21 := cext h3q h18
   have h3s : ∀ k ∈ [w1n.heap.size], k ∈ (S2_1 ++ S2_2) ∨ w0.heap.size ≤ k := mor (lt_ h1t s1c.size)
   have h3t : Chg (· ∈ (S2_1 ++ S2_2)) w0 w22 := cM h3r h19 h3s
   have h3u : ∀ k ∈ [w1a.heap.size], k ∈ (S2_1 ++ S2_2) ∨ w0.heap.size ≤ k := mor h12.size
   have h3v : Chg (· ∈ (S2_1 ++ S2_2)) w0 w3j := cM h3t h2l h3u
   exact Wr (rtO (QO_retL (som (ifT hm2e hc23)).symm (ret3 hr (resC g_41 z_41 z h3k z) z z ⟨h3v, none, 0, 0, [], none, 0, 0, [], v3b, S3c, z, (ii z), onL, onL, h1i, (h2k.chg h2l (o0n1 h2i h1k.lt s13.size)), (o0le h2i h1t), nd0, al0⟩)))
  refine Wk (Ws (R z (fd f_41_2 z) ?_))
  have h24 := lt_ h14.size s13.size
  have h2m := lt_ h24 s1c.size
  have h2n := ((h1m.ext s1c).ext h18).chg h19 (djs (mm1 h1e.lt h2m))
  refine R z (l1 g_39 z fid (h2n.at z)) (R z (lN (vs := [(vI r1p.number), (.slice a1u n1v c1w), (.slice a1x n1y c1z)]) g_41 z_41 z z fid (h3g.row 0 3 z)) (E z (ef_buildSlice [(.tmp 37)] el_39 z z z (szAll z) (lb z) (lb z)) ?_))
  rintro _ w2o ⟨rfl, h2p⟩
  have h1g := h2p.below
  have h3w : Blk w2o w22.heap.size [(vI r1p.number), (.slice a1u n1v c1w), (.slice a1x n1y c1z)] := h2p.blk
  have h5f := (h1q.ext h18).chg h19 (dj_symm (mnr (ownS.lt h1q)))
  have h5g := (h1r.ext h18).chg h19 (dj_symm (mnr (ownS.lt h1r)))
  obtain ⟨x3x, e3y, hm3z⟩ := bdS (ifF hm2e hc23)
  refine E z (ef_pushN (α := Val) el_39 e3y z z ((((h1f.ext s1c).ext h18).chg h19 (dj_symm (mno (ownS.lt h1f) s1c.size))).ext h1g) h1l h3w (Val_mkO (x := r1p) (S1 := S2f) (S2 := S2g) h3d (((h1q.ext h18).chg h19 (dj_symm (mnr (ownS.lt h1q)))).ext h1g) (((h1r.ext h18).chg h19 (dj_symm (mnr (ownS.lt h1r)))).ext h1g)) (all_app (o0no (all_left h1j) (ownS.lt h1f) lr) (o0no (all_right h1j) (ownS.lt h1f) lr)) (nd_app (nd_left h20) (nd_right h20) (nd_dj h20))) ?_
  rintro _ w40 ⟨S25, a2q, n2r, c2s, rfl, s2t, h41, h42, h2u⟩
  refine R z (fd f_41_2 z) ?_
  have h2v : ∀ k ∈ S11, k ∉ [w0.heap.size] := or1 h1d (dj_symm (mnr (ownS.lt p2_2))) (ltnot (mem1 h1e.lt) h14.size)
  refine E0 (fs (cur' := [(vI x2.number), (.slice pa2_1 pn2_1 pc2_1), (.slice a2q n2r c2s)]) z_39 z z ((h2n.ext h1g).chg s2t (djs h2v)) z (lb z) (oA z) z) ?_
  rintro _ w43 ⟨h44, s45⟩
  have h2w := s45.one
  refine Wn (Wg (Rm z (Ra z (Wn (Wg (R z (inc_ hk2d (lt_ (repS.len p3_0) LEN_le) z z) (Rm z (Wl ?_))))))))
  have h46 : ∀ k ∈ S25, k ∉ [w0.heap.size] := or2 h2u h2v (all_app (o0n1 (all_left h1j) h1e.lt h24) (o0n1 (all_right h1j) h1e.lt h24)) (ltnot (mem1 h1e.lt) (lt_ (lt_ (lt_ h2m h18.size) h19.size) h1g.size))
  have h2x := lt_ s13.size s1c.size
  have h47 : ∀ k ∈ S11, k ∈ S2_2 ∨ w10.heap.size ≤ k := or1 h1d (io sr) (leor lr)
  have h48 : ∀ k ∈ S2f, k ∈ S2_2 ∨ w10.heap.size ≤ k := or0 (all_left h1j)  (leor s13.size)
  have h49 : ∀ k ∈ S2g, k ∈ S2_2 ∨ w10.heap.size ≤ k := or0 (all_right h1j)  (leor s13.size)
  have h4a : ∀ k ∈ S25, k ∈ S2_2 ∨ w10.heap.size ≤ k := or2 h2u h47 (all_app h48 h49) (leor (lt_ (lt_ (lt_ h2x h18.size) h19.size) h1g.size))
  have h4b : Chg (· ∈ (S2_2 ++ [w0.heap.size])) w10 w2c := cM (cr (S2_2 ++ [w0.heap.size]) w10) s13 (all_app (io (sub_l sr)) (io (sub_r sr)))
  have h4c : Chg (· ∈ (S2_2 ++ [w0.heap.size])) w10 w1n := cext h4b s1c
  have h4d : Chg (· ∈ (S2_2 ++ [w0.heap.size])) w10 w21 := cext h4c h18
  have h4e : ∀ k ∈ [w1n.heap.size], k ∈ (S2_2 ++ [w0.heap.size]) ∨ w10.heap.size ≤ k := mor h2x
  have h4f : Chg (· ∈ (S2_2 ++ [w0.heap.size])) w10 w22 := cM h4d h19 h4e
  have h4g : Chg (· ∈ (S2_2 ++ [w0.heap.size])) w10 w2o := cext h4f h1g
  have h4h : ∀ k ∈ S11, k ∈ (S2_2 ++ [w0.heap.size]) ∨ w10.heap.size ≤ k := or1 h1d (io (sub_l sr)) (leor lr)
  have h4i : Chg (· ∈ (S2_2 ++ [w0.heap.size])) w10 w40 := cM h4g s2t h4h
  have h4j : Chg (· ∈ (S2_2 ++ [w0.heap.size])) w10 w43 := cM h4i h2w (io (sub_r sr))
  exact fun _ q => ⟨(r39, x3x), (som hm3z).symm, ⟨a2q, n2r, c2s, S25, (q.k (s7 z z z z z z z)), h4j, h3e, (h41.chg h2w h46), h42, h4a, h44⟩⟩
 ·rintro ⟨x1b, x1h⟩ a5h w4k ⟨a15, n16, c17, S11, hS4l, s4m, h1i, h1f, h1l, h1d, h1m⟩
  refine Wu (e := [(0, (.pointer (some ⟨b1, o1, none⟩))), (3, (vI x1b)), (5, (.pointer (some ⟨w0.heap.size, 0, none⟩))), (8, (.pointer (some ⟨w1a.heap.size, 0, none⟩))), (16, (.slice pa3_0 pn3_0 pc3_0)), (17, (vI (x3.length : Int))), (18, (vI ((x3.length : Nat) : Int)))]) (N := 45) ?_ hS4l
  refine Ws (R z (lss z z) (Wn (Wq (Wc z (fun hc => (noltt hc).elim) (fun _ => ?_)))))
  have h4n : ∀ k ∈ S11, k ∈ S2_2 ∨ w10.heap.size ≤ k := or1 h1d (io sr) (leor lr)
  have h4o : Chg (· ∈ (S2_2 ++ [w0.heap.size])) w10 w4k := cM (cr (S2_2 ++ [w0.heap.size]) w10) s4m (all_app (io (sub_l sr)) (io (sub_r sr)))
  exact WC_exit (fun a' ha' => ⟨rfl, ⟨a15, n16, c17, S11, (Sat.weaken ha' (s3 z z z)), h4o, h1i, h1f, h1l, h4n, h1m⟩⟩)
 ·rintro ⟨x1b, x1h⟩ a4p w4q rfl ⟨a15, n16, c17, S11, hS5i, s26, h1i, h1f, h1l, h1d, h1m⟩
  have hm4r := elL hm2b
  have hm4s := un2S hm4r
  revert a4p
  refine Wo (Ws (R z (lN (vs := [(vI x2.number), (.slice pa2_1 pn2_1 pc2_1), (.slice a15 n16 c17)]) g_41 z_41 z z fid (h1m.row 0 3 z)) (Rm z ?_)))
  have h2y := mno (ownS.lt p2_2) h12.size
  refine E0 (fs (cur' := [(vI x2.number), (.slice pa2_1 pn2_1 pc2_1), (.slice a15 n16 c17)]) z_41 z z (h1k.chg s26 (atp (nmA h2y (mmr h1e.lt)))) z (lb z) (oA z) z) ?_
  rintro _ w4t ⟨h4u, s4v⟩
  have h27 := s4v.one
  refine Ra z (Ra z (Wn ?_))
  obtain rfl := som hm4s
  have h4w : ∀ k ∈ S11, k ∉ [w1a.heap.size] := or1 h1d (dj_symm h2y) (ltnot (mem1 h1k.lt) lr)
  have h4x : Chg (· ∈ (S2_1 ++ S2_2)) w0 w1a := cext (cr (S2_1 ++ S2_2) w0) h12
  have h4y : Chg (· ∈ (S2_1 ++ S2_2)) w0 w10 := cext h4x h14
  have h4z : ∀ k ∈ [w0.heap.size], k ∈ (S2_1 ++ S2_2) ∨ w0.heap.size ≤ k := mor lr
  have h50 : Chg (· ∈ (S2_1 ++ S2_2)) w0 w4q := cM h4y s26 (all_app (io (sub_r sr)) h4z)
  have h51 : ∀ k ∈ [w1a.heap.size], k ∈ (S2_1 ++ S2_2) ∨ w0.heap.size ≤ k := mor h12.size
  have h52 : Chg (· ∈ (S2_1 ++ S2_2)) w0 w4t := cM h50 h27 h51
  have h2z := lt_ h12.size h14.size
  have h53 : ∀ k ∈ S11, k ∈ (S2_1 ++ S2_2) ∨ w0.heap.size ≤ k := or1 h1d (io (sub_r sr)) (leor h2z)
  exact Wr (ret3 hr (resC g_41 z_41 z h4u z) z z ⟨h52, pa2_1, pn2_1, pc2_1, S2_1, a15, n16, c17, S11, .nilIface, ([] : List Nat), z, p2_0, ((((p2_1.ext h12).ext h14).chg s26 (nmA (dj_symm p2_2d1) (dj_symm (mnr (ownS.lt p2_1))))).chg h27 (dj_symm (mno (ownS.lt p2_1) h12.size))), (h1f.chg h27 h4w), h1i, errR_nil, all_nil, (nd_app p2_1n h1l (dj_symm (o1no h1d p2_2d1 (ownS.lt p2_1) h2z))), (all_app (io (sub_l sr)) h53)⟩)
 rintro r5j ex5k a5l w5m rfl ⟨rfl, hq54⟩
 have hm55 := elR hm2b
 obtain rfl := som hm55
 exact ⟨hq54, z⟩
theorem T_impl_fileReader_choice (ih : I_impl_fileReader_value n) : S_impl_fileReader_choice (B_impl_fileReader_choice n (F_impl_fileReader_value n)) := by
 obtain ⟨ih0, ih1, ih2, ih3, ih4, ih5⟩ := ih
 constructor
 intro B pn1_0 pc1_0 pn1_1 pc1_1 b1 o1 pn2_4 pc2_4 pn2_5 pc2_5 pn2_6 pc2_6 pn2_7 pc2_7 pa1_0 pa1_1 pa2_4 pa2_5 pa2_6 pa2_7 x1 x2 x3 res w0 hm hBw p1_0 p1_1 hC1 hC1b p2_0 p2_1 p2_2 p2_4 p2_5 p2_6 p2_7 p3_0
 unfold B_impl_fileReader_choice at hm
 obtain ⟨fn, hf, hb, hN, hr⟩ := fnE func112
 refine goW hf (hb.trans z) (hN.trans z) (lb z) (Ws (E z (fb z) ?_))
 rintro _ w14 ⟨rfl, h1k⟩
 have h11 := h1k.below
 have h2d : Blk w14 w0.heap.size [(Str.v x2.name), (vI x2.kind), (vI x2.size), (vB x2.little), (.slice pa2_4 pn2_4 pc2_4), (.slice pa2_5 pn2_5 pc2_5), (.slice pa2_6 pn2_6 pc2_6), (.slice pa2_7 pn2_7 pc2_7)] := h1k.blk
 refine E z (fa zero_41) ?_
 rintro _ w2e ⟨rfl, h1l⟩
 have h13 := h1l.below
 have h15 : Blk w2e w14.heap.size [(vI 0), (.slice none 0 0), (.slice none 0 0)] := h1l.blk
 refine Ra z (Ra z (Wn (Ws (Rm z (R z (fd f_74_7 z) ?_)))))
 have h1m := h2d.ext h13
 refine R z (l1 g_72 z fid (h1m.at z)) ?_
 obtain ⟨x3r, e2f, hm2g⟩ := bdS hm
 have h1n := (p2_7.ext h11).ext h13
 refine RX z (at_ (α := Int) d_72 z_3 z z z h1n e2f) ?_
 rintro _ ⟨b3s, o3t, cs3u, rfl, h2h, h2i, h3v⟩
 obtain ⟨rfl, h2j⟩ := Int_open h2i
 refine R z (l1 g_3 z fid (h2h.at0 z)) (Rm z ?_)
 have h1o := (hC1.ext h11).ext h13
 have h1p := (p1_0.ext h11).ext h13
 have h1q := (p1_1.ext h11).ext h13
 have h17 := lt_ h11.size h13.size
 obtain ⟨r18, r1d, r3w, e2k, hm1r⟩ := bd3S hm2g
 refine E z (fc call107 z (W_impl_fileReader_integer (B := B) e2k (lt_ hBw h17) h1p h1q h1o hC1b h2j p3_0)) ?_
 rintro _ w16 ⟨s10, v2l, S2m, rfl, h2n, h2o, h1s, h1t⟩
 refine Rm z ?_
 iterate 3 refine R z (ext_ z z) ?_
 refine Ra z (Ra z (Ra z (Wn (Wq (Ws (Rm z (R z (rd_neqEr d_116 z z h1s) (Wn (Wc z (fun hc1e => ?_) (fun hc1e => ?_))))))))))
 ·refine Ws (R z (bP (parts := []) (cs := [(vI 0), (.slice none 0 0), (.slice none 0 0)]) build_41 z z) (Rm z (Rm z (E0 (fs (cur' := [(vI 0), (.slice none 0 0), (.slice none 0 0)]) z_41 z z (h15.ext s10) z (lb z) (oA z) z) ?_))))
  rintro _ w3x ⟨h2p, s2q⟩
  have h1u := s2q.one
  refine Ra z (Ra z (Wn ?_))
  obtain rfl := som (ifT hm1r hc1e)
  exact Wr (ret3 hr (resC g_41 z_41 z h2p z) z z ⟨(bM (bup (bup h11 h13) s10) h1u (mem1le h11.size)), none, 0, 0, [], none, 0, 0, [], v2l, S2m, z, (ii z), onL, onL, p3_0, (h1s.chg h1u (o0n1 h1t h15.lt lr)), (o0le h1t h17), nd0, al0⟩)
 refine Wk (Wq (Ws (R z (fd f_74_6 z) ?_)))
 have h1v := h1m.ext s10
 refine R z (l1 g_72 z fid (h1v.at z)) ?_
 have h1w := ((p2_6.ext h11).ext h13).ext s10
 refine R z (lnR d_72 z h1w) (Rm z (Wn ?_))
 obtain ⟨u3y, hu2r, hm1x⟩ := bdS (ifF hm1r hc1e)
 refine WC_forN (σ := Unit) (ρ := Val × Int × (Option (Int × Int))) (fun (k1f : Nat) (_ : Unit) a w => Sat 61 [(0, (.pointer (some ⟨b1, o1, none⟩))), (2, (vI x3)), (4, (.pointer (some ⟨w0.heap.size, 0, none⟩))), (6, (.pointer (some ⟨w14.heap.size, 0, none⟩))), (9, (vI r18)), (10, (vI r1d)), (31, (.slice pa2_6 pn2_6 pc2_6)), (32, (vI (x2.tags.length : Int))), (33, (vI ((k1f : Nat) : Int)))] a ∧ Below w16.heap.size w16 w) (fun (_ : Unit) a w => Sat 61 [(2, (vI x3)), (6, (.pointer (some ⟨w14.heap.size, 0, none⟩)))] a ∧ Below w16.heap.size w16 w) (fun r ex a w => ex = .ret ∧ RetPost prog fn (Q_impl_fileReader_choice w0 B r) a w) hu2r ?_ ?_ ?_ ?_ ?_
 ·exact fun _ q => ⟨(q.k (s9 z z z z z z z z z)), (br w16)⟩
 ·rintro k1f _ a3z w40 o41 hk1g ⟨hS2s, s12⟩ hm2t
  refine Wu (e := [(0, (.pointer (some ⟨b1, o1, none⟩))), (2, (vI x3)), (4, (.pointer (some ⟨w0.heap.size, 0, none⟩))), (6, (.pointer (some ⟨w14.heap.size, 0, none⟩))), (9, (vI r18)), (10, (vI r1d)), (31, (.slice pa2_6 pn2_6 pc2_6)), (32, (vI (x2.tags.length : Int))), (33, (vI ((k1f : Nat) : Int)))]) (N := 61) ?_ hS2s
  refine Ws (R z (lss z z) (Wn (Wq (Wc z (fun _ => ?_) (fun hc => (nolt hk1g hc).elim)))))
  refine Wk (Wq (WC_block (Ws (Rm z ?_))))
  obtain ⟨x42, e2u, hm1y⟩ := bdS hm2t
  refine RX z (at_ (α := Int) d_72 z_3 z z z (h1w.ext s12) e2u) ?_
  rintro _ ⟨b43, o44, cs45, rfl, h2v, h2w, h46⟩
  obtain ⟨rfl, h47⟩ := Int_open h2w
  refine R z (l1 g_3 z fid (h2v.at0 z)) (Ra z (Ra z (Wn (Ws (Rm z (Rm z (R z (eql z z) (Wn (Wc z (fun hc1h => ?_) (fun hc1h => ?_))))))))))
  ·refine Ws (Rm z (Rm z (R z (bP (parts := [(0, (.tmp 42))]) (cs := [(vI r18), (.slice none 0 0), (.slice none 0 0)]) build_41 z z) (R z (fd f_74_7 z) (R z (l1 g_72 z fid ((h1v.ext s12).at z)) (Rm z (R z (inc_ hk1g (lt_ (repS.len p2_6) LEN_le) z z) (Rm z (R z (add_ z z) ?_)))))))))
   obtain ⟨x48, e2x, hm2y⟩ := bdS (ifT hm1y hc1h)
   refine RX z (rd_sliceX d_72 z_3 z z ((h1n.ext s10).ext s12) z z e2x) ?_
   rintro _ ⟨a49, n4a, c4b, rfl, h2z⟩
   refine Rm z ?_
   have h19 := lt_ (lt_ h17 s10.size) s12.size
   obtain ⟨r30, r4c, r4d, e31, hm32⟩ := bd3S hm2y
   refine E z (fc call111 z (ih2.run (B := B) e31 (lt_ hBw h19) ((h1p.ext s10).ext s12) ((h1q.ext s10).ext s12) ((h1o.ext s10).ext s12) hC1b h2n onL nd_nil all_nil onL nd_nil all_nil all_nil h2z h2o)) ?_
   rintro _ w4e ⟨s1z, a20, n21, c22, S23, a24, n25, c26, S27, v33, S34, rfl, h35, h36, h37, h38, h39, h28, h1i, h1a⟩
   iterate 3 refine R z (ext_ z z) ?_
   refine E0 (fs (cur' := [(vI r30.number), (.slice a20 n21 c22), (.slice a24 n25 c26)]) z_41 z z (((h15.ext s10).ext s12).chg s1z (atp (nmA (nmN _) (nmN _)))) z (lb z) (oA z) z) ?_
   rintro _ w4f ⟨h3a, s3b⟩
   have h1b := s3b.one
   refine Ra z (Ra z (Wn ?_))
   have h1j := lt_ s10.size s12.size
   have h3c : ∀ k ∈ S23, k ∉ [w14.heap.size] := or1 (all_left h1a) al0 (ltnot (mem1 h15.lt) h1j)
   have h3d : ∀ k ∈ S27, k ∉ [w14.heap.size] := or1 (all_right h1a) al0 (ltnot (mem1 h15.lt) h1j)
   exact Wr (rtO (QO_retL (som hm32).symm (ret3 hr (resC g_41 z_41 z h3a z) z z ⟨(bM (bM (bup (bup (bup h11 h13) s10) s12) s1z al0) h1b (mem1le h11.size)), a20, n21, c22, S23, a24, n25, c26, S27, v33, S34, z, h35, (h36.chg h1b h3c), (h37.chg h1b h3d), h38, (h39.chg h1b (o0n1 h28 h15.lt h1j)), (o0le h28 h19), (nd_app (nd_left h1i) (nd_right h1i) (nd_dj h1i)), (all_app (o1le (all_left h1a) al0 h19) (o1le (all_right h1a) al0 h19))⟩)))
  exact Wk (Wg (R z (inc_ hk1g (lt_ (repS.len p2_6) LEN_le) z z) (Rm z (Wl (fun _ q => ⟨(), (som (ifF hm1y hc1h)).symm, ⟨(q.k (s9 z z z z z z z z z)), s12⟩⟩)))))
 ·rintro _ a4g w4h ⟨hS3e, s3f⟩
  refine Wu (e := [(0, (.pointer (some ⟨b1, o1, none⟩))), (2, (vI x3)), (4, (.pointer (some ⟨w0.heap.size, 0, none⟩))), (6, (.pointer (some ⟨w14.heap.size, 0, none⟩))), (9, (vI r18)), (10, (vI r1d)), (31, (.slice pa2_6 pn2_6 pc2_6)), (32, (vI (x2.tags.length : Int))), (33, (vI ((x2.tags.length : Nat) : Int)))]) (N := 61) ?_ hS3e
  refine Ws (R z (lss z z) (Wn (Wq (Wc z (fun hc => (noltt hc).elim) (fun _ => ?_)))))
  exact WC_exit (fun a' ha' => ⟨rfl, ⟨(Sat.weaken ha' (s2 z z)), s3f⟩⟩)
 ·rintro _ a3g w4i rfl ⟨hS4j, s1c⟩
  have hm3h := elL hm1x
  revert a3g
  refine Wo (Ws (R z (bP (parts := []) (cs := [(vI 0), (.slice none 0 0), (.slice none 0 0)]) build_41 z z) (Rm z (Rm z ?_))))
  have h29 := lt_ (lt_ h17 s10.size) s1c.size
  obtain ⟨r4k, e3i, hm3j⟩ := bdS hm3h
  refine E z (fc call116 z (W_impl_fail (B := B) e3i (lt_ hBw h29) p3_0 (ii z))) ?_
  rintro _ w4l ⟨s2a, v3k, S3l, rfl, h3m, h2b⟩
  refine E0 (fs (cur' := [(vI 0), (.slice none 0 0), (.slice none 0 0)]) z_41 z z (((h15.ext s10).ext s1c).ext s2a) z (lb z) (oA z) z) ?_
  rintro _ w4m ⟨h3n, s3o⟩
  have h2c := s3o.one
  refine Ra z (Ra z (Wn ?_))
  obtain rfl := som hm3j
  exact Wr (ret3 hr (resC g_41 z_41 z h3n z) z z ⟨(bM (bup (bup (bup (bup h11 h13) s10) s1c) s2a) h2c (mem1le h11.size)), none, 0, 0, [], none, 0, 0, [], v3k, S3l, z, (ii z), onL, onL, p3_0, (h3m.chg h2c (o0n1 h2b h15.lt (lt_ s10.size s1c.size))), (o0le h2b h29), nd0, al0⟩)
 rintro r4n ex4o a4p w4q rfl ⟨rfl, hq3p⟩
 have hm3q := elR hm1x
 obtain rfl := som hm3q
 exact ⟨hq3p, z⟩
theorem T_impl_fileReader_option (ih : I_impl_fileReader_value n) : S_impl_fileReader_option (B_impl_fileReader_option n (F_impl_fileReader_value n)) := by
 obtain ⟨ih0, ih1, ih2, ih3, ih4, ih5⟩ := ih
 constructor
 intro B pn1_0 pc1_0 pn1_1 pc1_1 b1 o1 pn2_4 pc2_4 pn2_5 pc2_5 pn2_6 pc2_6 pn2_7 pc2_7 pa1_0 pa1_1 pa2_4 pa2_5 pa2_6 pa2_7 x1 x2 x3 res w0 hm hBw p1_0 p1_1 hC1 hC1b p2_0 p2_1 p2_2 p2_4 p2_5 p2_6 p2_7 p3_0
 unfold B_impl_fileReader_option at hm
 obtain ⟨fn, hf, hb, hN, hr⟩ := fnE func113
 refine goW hf (hb.trans z) (hN.trans z) (lb z) (Ws (E z (fb z) ?_))
 rintro _ w14 ⟨rfl, h1d⟩
 have h11 := h1d.below
 have h23 : Blk w14 w0.heap.size [(Str.v x2.name), (vI x2.kind), (vI x2.size), (vB x2.little), (.slice pa2_4 pn2_4 pc2_4), (.slice pa2_5 pn2_5 pc2_5), (.slice pa2_6 pn2_6 pc2_6), (.slice pa2_7 pn2_7 pc2_7)] := h1d.blk
 refine E z (fa zero_41) ?_
 rintro _ w24 ⟨rfl, h1e⟩
 have h12 := h1e.below
 have h13 : Blk w24 w14.heap.size [(vI 0), (.slice none 0 0), (.slice none 0 0)] := h1e.blk
 refine Ra z (Ra z (Wn (Ws (Rm z (Rm z ?_)))))
 have h1f := (hC1.ext h11).ext h12
 have h1g := (p1_0.ext h11).ext h12
 have h1h := (p1_1.ext h11).ext h12
 have h15 := lt_ h11.size h12.size
 obtain ⟨r33, r34, e25, hm1i⟩ := bd2S hm
 refine E z (fc call135 z (W_impl_fileReader_take (B := B) e25 (lt_ hBw h15) h1g h1h h1f hC1b p3_0 (ii z))) ?_
 rintro _ w35 ⟨s10, a36, n37, c38, v26, S27, rfl, h1j, h1k, h1l⟩
 refine Rm z (R z (ext_ z z) (R z (ext_ z z) (Ra z (Ra z (Wn (Wq (WC_block (Ws (Rm z (R z (rd_neqEr d_116 z z h1k) (Ra z (Wn (Wc z (fun hc19 => ?_) (fun hc19 => ?_))))))))))))))
 ·refine Ws (R z (bP (parts := []) (cs := [(vI 0), (.slice none 0 0), (.slice none 0 0)]) build_41 z z) (Rm z (Rm z (E0 (fs (cur' := [(vI 0), (.slice none 0 0), (.slice none 0 0)]) z_41 z z (h13.ext s10) z (lb z) (oA z) z) ?_))))
  rintro _ w39 ⟨h28, s29⟩
  have h1m := s29.one
  refine Ra z (Ra z (Wn ?_))
  obtain rfl := som (ifT hm1i hc19)
  exact Wr (rtO (ret3 hr (resC g_41 z_41 z h28 z) z z ⟨(bM (bup (bup h11 h12) s10) h1m (mem1le h11.size)), none, 0, 0, [], none, 0, 0, [], v26, S27, z, (ii z), onL, onL, p3_0, (h1k.chg h1m (o0n1 h1l h13.lt lr)), (o0le h1l h15), nd0, al0⟩))
 refine Ws (Rm z ?_)
 obtain ⟨x3a, e2a, hm1n⟩ := bdS (ifF hm1i hc19)
 refine RX z (at_ (α := UInt8) d_25 z_5 z z z h1j e2a) ?_
 rintro _ ⟨b3b, o3c, cs3d, rfl, h2b, h2c, h3e⟩
 obtain rfl := UInt8_open h2c
 refine R z (l1 g_5 z fid (h2b.at0 z)) (R z (rd_gtr z z) (Ra z (Wn (Wc z (fun hc1a => ?_) (fun hc1a => ?_)))))
 ·refine Ws (R z (bP (parts := []) (cs := [(vI 0), (.slice none 0 0), (.slice none 0 0)]) build_41 z z) (Rm z (Rm z ?_)))
  have h1o := lt_ h15 s10.size
  obtain ⟨r3f, e2d, hm2e⟩ := bdS (ifT hm1n hc1a)
  refine E z (fc call116 z (W_impl_fail (B := B) e2d (lt_ hBw h1o) p3_0 (ii z))) ?_
  rintro _ w3g ⟨s1p, v2f, S2g, rfl, h2h, h1q⟩
  refine E0 (fs (cur' := [(vI 0), (.slice none 0 0), (.slice none 0 0)]) z_41 z z ((h13.ext s10).ext s1p) z (lb z) (oA z) z) ?_
  rintro _ w3h ⟨h2i, s2j⟩
  have h1r := s2j.one
  refine Ra z (Ra z (Wn ?_))
  obtain rfl := som hm2e
  exact Wr (rtO (ret3 hr (resC g_41 z_41 z h2i z) z z ⟨(bM (bup (bup (bup h11 h12) s10) s1p) h1r (mem1le h11.size)), none, 0, 0, [], none, 0, 0, [], v2f, S2g, z, (ii z), onL, onL, p3_0, (h2h.chg h1r (o0n1 h1q h13.lt s10.size)), (o0le h1q h1o), nd0, al0⟩))
 refine Ws (Rm z ?_)
 obtain ⟨x3i, e2k, hm1s⟩ := bdS (ifF hm1n hc1a)
 refine RX z (at_ (α := UInt8) d_25 z_5 z z z h1j e2k) ?_
 rintro _ ⟨b3j, o3k, cs3l, rfl, h2l, h2m, h3m⟩
 obtain rfl := UInt8_open h2m
 refine R z (l1 g_5 z fid (h2l.at0 z)) (R z (eql z z) (Ra z (Wn (Wc z (fun hc1b => ?_) (fun hc1b => ?_)))))
 ·refine Ws (R z (bP (parts := []) (cs := [(vI 0), (.slice none 0 0), (.slice none 0 0)]) build_41 z z) (Rm z (R z (add_ z z) (E0 (fs (cur' := [(vI 0), (.slice none 0 0), (.slice none 0 0)]) z_41 z z (h13.ext s10) z (lb z) (oA z) z) ?_))))
  rintro _ w3n ⟨h2n, s2o⟩
  refine Ra z (Ra z (Wn ?_))
  obtain rfl := som (ifT hm1s hc1b)
  exact Wr (rtO (ret3 hr (resC g_41 z_41 z h2n z) z z ⟨(bM (bup (bup h11 h12) s10) s2o.one (mem1le h11.size)), none, 0, 0, [], none, 0, 0, [], .nilIface, ([] : List Nat), z, (ii z), onL, onL, (iA _ _), errR_nil, all_nil, nd0, al0⟩))
 refine Wk (Ws (Rm z (R z (bP (parts := []) (cs := [(vI 0), (.slice none 0 0), (.slice none 0 0)]) build_41 z z) (R z (fd f_74_7 z) (R z (l1 g_72 z fid (((h23.ext h12).ext s10).at z)) (Rm z (R z (add_ z z) ?_)))))))
 have h16 := lt_ h15 s10.size
 obtain ⟨r2p, r3o, r3p, e2q, hm2r⟩ := bd3S (ifF hm1s hc1b)
 refine E z (fc call111 z (ih2.run (B := B) e2q (lt_ hBw h16) (h1g.ext s10) (h1h.ext s10) (h1f.ext s10) hC1b (ii z) onL nd_nil all_nil onL nd_nil all_nil all_nil (((p2_7.ext h11).ext h12).ext s10) (iA _ _))) ?_
 rintro _ w3q ⟨s1t, a1u, n1v, c1w, S1x, a1y, n1z, c20, S21, v2s, S2t, rfl, h2u, h2v, h2w, h2x, h2y, h22, h1c, h17⟩
 iterate 3 refine R z (ext_ z z) ?_
 refine E0 (fs (cur' := [(vI r2p.number), (.slice a1u n1v c1w), (.slice a1y n1z c20)]) z_41 z z ((h13.ext s10).chg s1t (atp (nmA (nmN _) (nmN _)))) z (lb z) (oA z) z) ?_
 rintro _ w3r ⟨h2z, s30⟩
 have h18 := s30.one
 refine Ra z (Ra z (Wn ?_))
 obtain rfl := som hm2r
 have h31 : ∀ k ∈ S1x, k ∉ [w14.heap.size] := or1 (all_left h17) al0 (ltnot (mem1 h13.lt) s10.size)
 have h32 : ∀ k ∈ S21, k ∉ [w14.heap.size] := or1 (all_right h17) al0 (ltnot (mem1 h13.lt) s10.size)
 exact Wr (ret3 hr (resC g_41 z_41 z h2z z) z z ⟨(bM (bM (bup (bup h11 h12) s10) s1t al0) h18 (mem1le h11.size)), a1u, n1v, c1w, S1x, a1y, n1z, c20, S21, v2s, S2t, z, h2u, (h2v.chg h18 h31), (h2w.chg h18 h32), h2x, (h2y.chg h18 (o0n1 h22 h13.lt s10.size)), (o0le h22 h16), (nd_app (nd_left h1c) (nd_right h1c) (nd_dj h1c)), (all_app (o1le (all_left h17) al0 h16) (o1le (all_right h17) al0 h16))⟩)
theorem T_impl_fileReader_checked (ih : I_impl_fileReader_value n) : S_impl_fileReader_checked (B_impl_fileReader_checked n (F_impl_fileReader_value n)) := by
 obtain ⟨ih0, ih1, ih2, ih3, ih4, ih5⟩ := ih
 constructor
 intro B pn1_0 pc1_0 pn1_1 pc1_1 b1 o1 pn2_4 pc2_4 pn2_5 pc2_5 pn2_6 pc2_6 pn2_7 pc2_7 pa1_0 pa1_1 pa2_4 pa2_5 pa2_6 pa2_7 x1 x2 x3 res w0 hm hBw p1_0 p1_1 hC1 hC1b p2_0 p2_1 p2_2 p2_4 p2_5 p2_6 p2_7 p3_0
 unfold B_impl_fileReader_checked at hm
 obtain ⟨fn, hf, hb, hN, hr⟩ := fnE func114
 refine goW hf (hb.trans z) (hN.trans z) (lb z) (Ws (E z (fb z) ?_))
 rintro _ w1b ⟨rfl, h1r⟩
 have h13 := h1r.below
 have h2j : Blk w1b w0.heap.size [(Str.v x2.name), (vI x2.kind), (vI x2.size), (vB x2.little), (.slice pa2_4 pn2_4 pc2_4), (.slice pa2_5 pn2_5 pc2_5), (.slice pa2_6 pn2_6 pc2_6), (.slice pa2_7 pn2_7 pc2_7)] := h1r.blk
 refine E z (fa zero_41) ?_
 rintro _ w2k ⟨rfl, h1s⟩
 have h17 := h1s.below
 have h14 : Blk w2k w1b.heap.size [(vI 0), (.slice none 0 0), (.slice none 0 0)] := h1s.blk
 refine Ra z (Ra z (Wn (Ws (Rm z (R z (bP (parts := []) (cs := [(vI 0), (.slice none 0 0), (.slice none 0 0)]) build_41 z z) (R z (fd f_74_7 z) (R z (l1 g_72 z fid ((h2j.ext h17).at z)) (Rm z ?_))))))))
 have h1t := (hC1.ext h13).ext h17
 have h1u := (p1_0.ext h13).ext h17
 have h1v := (p1_1.ext h13).ext h17
 have h19 := lt_ h13.size h17.size
 obtain ⟨r1j, r3l, r3m, e2l, hm1w⟩ := bd3S hm
 refine E z (fc call111 z (ih2.run (B := B) e2l (lt_ hBw h19) h1u h1v h1t hC1b (ii z) onL nd_nil all_nil onL nd_nil all_nil all_nil ((p2_7.ext h13).ext h17) p3_0)) ?_
 rintro _ w2m ⟨s10, a1c, n1d, c1e, S1x, a1f, n1g, c1h, S1y, v2n, S2o, rfl, h2p, h1z, h20, h21, h22, h23, h1k, h1i⟩
 refine Rm z ?_
 iterate 3 refine R z (ext_ z z) ?_
 refine E z (fa zero_41) ?_
 rintro _ w2q ⟨rfl, h24⟩
 have h11 := h24.below
 have h2r : Blk w2q w2m.heap.size [(vI 0), (.slice none 0 0), (.slice none 0 0)] := h24.blk
 refine E0 (fs (cur' := [(vI r1j.number), (.slice a1c n1d c1e), (.slice a1f n1g c1h)]) z_41 z z h2r z (lb z) (oA z) z) ?_
 rintro _ w3n ⟨h2s, s2t⟩
 have h12 := s2t.one
 refine Ra z (Ra z (Wn (Wq (Ws (Rm z ?_)))))
 have h25 := (h22.ext h11).chg h12 (dj_symm (mnr (errR.lt h22)))
 refine R z (rd_neqEr d_116 z z h25) (Wn (Wc z (fun hc1l => ?_) (fun hc1l => ?_)))
 ·refine Ws (R z (bP (parts := []) (cs := [(vI 0), (.slice none 0 0), (.slice none 0 0)]) build_41 z z) (Rm z (Rm z (E0 (fs (cur' := [(vI 0), (.slice none 0 0), (.slice none 0 0)]) z_41 z z (((h14.chg s10 (atp (nmA (nmN _) (nmN _)))).ext h11).chg h12 (djs (mm1 h14.lt s10.size))) z (lb z) (oA z) z) ?_))))
  rintro _ w3o ⟨h2u, s2v⟩
  have h26 := s2v.one
  refine Ra z (Ra z (Wn ?_))
  obtain rfl := som (ifT hm1w hc1l)
  exact Wr (ret3 hr (resC g_41 z_41 z h2u z) z z ⟨(bM (bM (bup (bM (bup h13 h17) s10 al0) h11) h12 (mem1le (lt_ h19 s10.size))) h26 (mem1le h13.size)), none, 0, 0, [], none, 0, 0, [], v2n, S2o, z, (ii z), onL, onL, p3_0, (h25.chg h26 (o0n1 h23 h14.lt lr)), (o0le h23 h19), nd0, al0⟩)
 refine Wk (Ws (Rm z (Rm z ?_)))
 have h1a := lt_ h19 s10.size
 have h1m := mem1le (lt_ hBw h1a)
 have h27 := ((h1t.chg s10 ((nmA (lg all_nil) (lg all_nil)) _ hC1b)).ext h11).chg h12 ((lg h1m) _ hC1b)
 have h28 := ((h1v.chg s10 (nmA (lg all_nil) (lg all_nil))).ext h11).chg h12 (lg h1m)
 have h1n := lt_ (lt_ h1a h11.size) h12.size
 obtain ⟨r3p, r3q, e2w, hm29⟩ := bd2S (ifF hm1w hc1l)
 refine E z (fc call135 z (W_impl_fileReader_take (B := B) e2w (lt_ hBw h1n) (((h1u.chg s10 (nmA (lg all_nil) (lg all_nil))).ext h11).chg h12 (lg h1m)) h28 h27 hC1b h21 (ii z))) ?_
 rintro _ w3r ⟨s15, a3s, n3t, c3u, v2x, S2y, rfl, h2z, h2a, h2b⟩
 refine Rm z (R z (ext_ z z) (R z (ext_ z z) (Ra z (Ra z (Wn (Wq (Ws (Rm z (R z (rd_neqEr d_116 z z h2a) (Wn (Wc z (fun hc1o => ?_) (fun hc1o => ?_))))))))))))
 ·refine Ws (R z (bP (parts := []) (cs := [(vI 0), (.slice none 0 0), (.slice none 0 0)]) build_41 z z) (Rm z (Rm z (E0 (fs (cur' := [(vI 0), (.slice none 0 0), (.slice none 0 0)]) z_41 z z ((((h14.chg s10 (atp (nmA (nmN _) (nmN _)))).ext h11).chg h12 (djs (mm1 h14.lt s10.size))).ext s15) z (lb z) (oA z) z) ?_))))
  rintro _ w3v ⟨h30, s31⟩
  have h2c := s31.one
  refine Ra z (Ra z (Wn ?_))
  obtain rfl := som (ifT hm29 hc1o)
  exact Wr (ret3 hr (resC g_41 z_41 z h30 z) z z ⟨(bM (bup (bM (bup (bM (bup h13 h17) s10 al0) h11) h12 (mem1le h1a)) s15) h2c (mem1le h13.size)), none, 0, 0, [], none, 0, 0, [], v2x, S2y, z, (ii z), onL, onL, p3_0, (h2a.chg h2c (o0n1 h2b h14.lt (lt_ (lt_ s10.size h11.size) h12.size))), (o0le h2b h1n), nd0, al0⟩)
 refine Wk (Wq (Wq (WC_draw (X := noX) 0 (.rd 0 (.rd 1 (.rd 2 (.rd 3 (.rd 4 (.rd 5 (.rd 6 (.rd 7 (.rd 8 (.rd 9 (.rd 10 (.ef 11 (.rd 12 .done))))))))))))) mo (by kernel_rfl) fun w3w s16 _ => dR z z (mv z) ?_)))
 obtain ⟨x3x, e32, hm33⟩ := bdS (ifF hm29 hc1o)
 refine dRX z z (at_ (α := UInt8) d_25 z_5 z z z (h2z.ext s16) e32) ?_
 rintro _ ⟨b3y, o3z, cs40, rfl, h34, h35, h41⟩
 obtain rfl := UInt8_open h35
 refine dR z z (l1 g_5 z fid (h34.at0 z)) (dR z z (rd_convUI d_5 d_3 z) (dR z z (mv z) (dR z z (rd_nil z) (dR z z (fd f_114_1 z) (dR z z (l1 g_25 z fid (((h27.ext s15).ext s16).at (j := 1) z)) (dR z z (mv z) (dR z z (mv z) ?_)))))))
 obtain ⟨x42, e36, hm37⟩ := bdS hm33
 refine dRX z z (rd_sliceX d_25 z_5 z z ((h28.ext s15).ext s16) z z e36) ?_
 rintro _ ⟨a43, n44, c45, rfl, h38⟩
 have h2d := lt_ (lt_ h1n s15.size) s16.size
 obtain ⟨r46, e39, hm2e⟩ := bdS hm37
 refine dE z z (fc call137 z (W_impl_SumOfBytes (B := B) e39 (lt_ hBw h2d) h38)) (.inr fun _ _ h => chgB (h.1)) ?_
 rintro _ w47 ⟨s18, rfl, h48⟩
 refine dR z z (nq z z) (PR_done (Wo (Wc z (fun hc1p => ?_) (fun hc1p => ?_))))
 ·refine Ws (R z (bP (parts := []) (cs := [(vI 0), (.slice none 0 0), (.slice none 0 0)]) build_41 z z) (Rm z (Rm z ?_)))
  have h2f := lt_ h2d s18.size
  obtain ⟨r49, e3a, hm3b⟩ := bdS (ifT hm2e hc1p)
  refine E z (fc call116 z (W_impl_fail (B := B) e3a (lt_ hBw h2f) h21 (ii z))) ?_
  rintro _ w4a ⟨s2g, v3c, S3d, rfl, h3e, h2h⟩
  refine E0 (fs (cur' := [(vI 0), (.slice none 0 0), (.slice none 0 0)]) z_41 z z (((((((h14.chg s10 (atp (nmA (nmN _) (nmN _)))).ext h11).chg h12 (djs (mm1 h14.lt s10.size))).ext s15).ext s16).ext s18).ext s2g) z (lb z) (oA z) z) ?_
  rintro _ w4b ⟨h3f, s3g⟩
  have h2i := s3g.one
  refine Ra z (Ra z (Wn ?_))
  obtain rfl := som hm3b
  exact Wr (ret3 hr (resC g_41 z_41 z h3f z) z z ⟨(bM (bup (bup (bup (bup (bM (bup (bM (bup h13 h17) s10 al0) h11) h12 (mem1le h1a)) s15) s16) s18) s2g) h2i (mem1le h13.size)), none, 0, 0, [], none, 0, 0, [], v3c, S3d, z, (ii z), onL, onL, p3_0, (h3e.chg h2i (o0n1 h2h h14.lt (lt_ (lt_ (lt_ (lt_ (lt_ s10.size h11.size) h12.size) s15.size) s16.size) s18.size))), (o0le h2h h2f), nd0, al0⟩)
 refine Wk (Ws (R z (lN (vs := [(vI r1j.number), (.slice a1c n1d c1e), (.slice a1f n1g c1h)]) g_41 z_41 z z fid ((((h2s.ext s15).ext s16).ext s18).row 0 3 z)) (Rm z (R z (add_ z z) (E0 (fs (cur' := [(vI r1j.number), (.slice a1c n1d c1e), (.slice a1f n1g c1h)]) z_41 z z ((((((h14.chg s10 (atp (nmA (nmN _) (nmN _)))).ext h11).chg h12 (djs (mm1 h14.lt s10.size))).ext s15).ext s16).ext s18) z (lb z) (oA z) z) ?_)))))
 rintro _ w4c ⟨h3h, s3i⟩
 have h1q := s3i.one
 refine Ra z (Ra z (Wn ?_))
 obtain rfl := som (ifF hm2e hc1p)
 have h3j : ∀ k ∈ S1x, k ∉ [w1b.heap.size] := or1 (all_left h1i) al0 (ltnot (mem1 h14.lt) lr)
 have h3k : ∀ k ∈ S1y, k ∉ [w1b.heap.size] := or1 (all_right h1i) al0 (ltnot (mem1 h14.lt) lr)
 exact Wr (ret3 hr (resC g_41 z_41 z h3h z) z z ⟨(bM (bup (bup (bup (bM (bup (bM (bup h13 h17) s10 al0) h11) h12 (mem1le h1a)) s15) s16) s18) h1q (mem1le h13.size)), a1c, n1d, c1e, S1x, a1f, n1g, c1h, S1y, .nilIface, ([] : List Nat), z, h2p, ((((((h1z.ext h11).chg h12 (dj_symm (mnr (ownS.lt h1z)))).ext s15).ext s16).ext s18).chg h1q h3j), ((((((h20.ext h11).chg h12 (dj_symm (mnr (ownS.lt h20)))).ext s15).ext s16).ext s18).chg h1q h3k), (iA _ _), errR_nil, all_nil, (nd_app (nd_left h1k) (nd_right h1k) (nd_dj h1k)), (all_app (o1le (all_left h1i) al0 h19) (o1le (all_right h1i) al0 h19))⟩)
theorem A_impl_fileReader_value : ∀ n, I_impl_fileReader_value n
  | 0 => ⟨⟨fun hm => by intros; exact nomatch (show none = some _ from hm)⟩, ⟨fun hm => by intros; exact nomatch (show none = some _ from hm)⟩, ⟨fun hm => by intros; exact nomatch (show none = some _ from hm)⟩, ⟨fun hm => by intros; exact nomatch (show none = some _ from hm)⟩, ⟨fun hm => by intros; exact nomatch (show none = some _ from hm)⟩, ⟨fun hm => by intros; exact nomatch (show none = some _ from hm)⟩⟩
  | n + 1 => ⟨T_impl_fileReader_value (A_impl_fileReader_value n), T_impl_fileReader_array (A_impl_fileReader_value n), T_impl_fileReader_items (A_impl_fileReader_value n), T_impl_fileReader_choice (A_impl_fileReader_value n), T_impl_fileReader_option (A_impl_fileReader_value n), T_impl_fileReader_checked (A_impl_fileReader_value n)⟩
theorem W_impl_fileReader_value : S_impl_fileReader_value (F_impl_fileReader_value n).impl_fileReader_value := (A_impl_fileReader_value n).1
theorem W_impl_fileReader_array : S_impl_fileReader_array (F_impl_fileReader_value n).impl_fileReader_array := (A_impl_fileReader_value n).2.1
theorem W_impl_fileReader_items : S_impl_fileReader_items (F_impl_fileReader_value n).impl_fileReader_items := (A_impl_fileReader_value n).2.2.1
theorem W_impl_fileReader_choice : S_impl_fileReader_choice (F_impl_fileReader_value n).impl_fileReader_choice := (A_impl_fileReader_value n).2.2.2.1
theorem W_impl_fileReader_option : S_impl_fileReader_option (F_impl_fileReader_value n).impl_fileReader_option := (A_impl_fileReader_value n).2.2.2.2.1
theorem W_impl_fileReader_checked : S_impl_fileReader_checked (F_impl_fileReader_value n).impl_fileReader_checked := (A_impl_fileReader_value n).2.2.2.2.2

def Q_impl_ReadValue (w0 : World) (B : Nat) (r : Val × Int × Int) (v : Value) (w' : World) : Prop := Below w0.heap.size w0 w' ∧ un3 (fun r1 r2 r3 => ∃ (a1 : Option Addr) (n1 c1 : Nat) (S1 : List Nat) (a2 : Option Addr) (n2 c2 : Nat) (S2 : List Nat), v = .tuple #[(.agg #[vI r1.number, .slice a1 n1 c1, .slice a2 n2 c2]), (vI r2), (vI r3)] ∧ inI r1.number ∧ ownS w' S1 (.slice a1 n1 c1) r1.bytes ∧ ownS w' S2 (.slice a2 n2 c2) r1.items ∧ inI r2 ∧ inI r3 ∧ (S1 ++ S2).Nodup ∧ (∀ k ∈ (S1 ++ S2), w0.heap.size ≤ k)) r
theorem W_impl_ReadValue {x1 : Desc} {x2 : Int} {x3 : List UInt8} {x4 : Int} {res : Val × Int × Int} (hm : M_impl_ReadValue n x1 x2 x3 x4 = some res) (hBw : B ≤ w0.heap.size) (hG : Gl w0 B) (p1_0 : repS w0 B (.slice pa1_0 pn1_0 pc1_0) x1.rules) (p2_0 : inI x2) (p3_0 : repS w0 B (.slice pa3_0 pn3_0 pc3_0) x3) (p4_0 : inI x4) : CallsR prog 47 [(.agg #[(.slice pa1_0 pn1_0 pc1_0)]), (vI x2), (.slice pa3_0 pn3_0 pc3_0), (vI x4)] w0 (Q_impl_ReadValue w0 B res) := by
 unfold M_impl_ReadValue at hm
 obtain ⟨fn, hf, hb, hN, hr⟩ := fnE func47
 refine goW hf (hb.trans z) (hN.trans z) (lb z) (Ws (E z (fb z) ?_))
 rintro _ w1c ⟨rfl, h20⟩
 have h10 := h20.below
 have h21 : Blk w1c w0.heap.size [(.slice pa1_0 pn1_0 pc1_0)] := h20.blk
 refine E z (fa zero_41) ?_
 rintro _ w1p ⟨rfl, h22⟩
 have h12 := h22.below
 have h15 : Blk w1p w1c.heap.size [(vI 0), (.slice none 0 0), (.slice none 0 0)] := h22.blk
 refine Ra z (Ra z (Wn (Wq (Wq ?_))))
 obtain ⟨u2s, hu2t, hm23⟩ := bdS hm
 refine WC_cut (fun a w => ∃ (x1q : Bool), x1q = u2s ∧ Sat 62 [(1, (vI x2)), (2, (.slice pa3_0 pn3_0 pc3_0)), (3, (vI x4)), (4, (.pointer (some ⟨w0.heap.size, 0, none⟩))), (8, (.pointer (some ⟨w1c.heap.size, 0, none⟩))), (34, (vB x1q))] a ∧ Below w1p.heap.size w1p w) ?_ ?_
 ·refine Wg (R z (lN (vs := [(.slice pa1_0 pn1_0 pc1_0)]) g_31 z_31 z z fid ((h21.ext h12).row 0 1 z)) (Rm z ?_))
  obtain ⟨r2u, e2v, hm24⟩ := bdS hu2t
  refine E z (fc call76 z (W_impl_known (B := B) e2v (lt_ hBw (lt_ h10.size h12.size)) ((p1_0.ext h10).ext h12) p2_0)) ?_
  rintro _ w3p ⟨s1d, rfl⟩
  refine R z (not_ z) (Rm z ?_)
  rcases bs (!r2u) with hc19 | hc19
  ·exact Nh z hc19 (Nh z hc19 (R z (pT z hc19 z) (Rm z (Nh z z (Nh z z (Nh z z (Nh z z (R z (pT z z z) (Rm z (Nh z z (Nh z z (Nh z z (R z (pT z z z) (Wl (fun _ q => ⟨true, som (ifT hm24 hc19), (q.k (s6 z z z z z z)), s1d⟩)))))))))))))))
  have hm25 := ifF hm24 hc19
  refine Rh z hc19 (mv z) (Rh z hc19 (lss z z) (R z (pF z hc19 z) (Rm z ?_)))
  rcases bs (decide (x4 < 0)) with hc16 | hc16
  ·iterate 4 refine Nh z hc16 ?_
   exact R z (pT z hc16 z) (Rm z (Nh z z (Nh z z (Nh z z (R z (pT z z z) (Wl (fun _ q => ⟨true, som (ifT hm25 hc16), (q.k (s6 z z z z z z)), s1d⟩)))))))
  have hm26 := ifF hm25 hc16
  refine Rh z hc16 (mv z) (Rh z hc16 (mv z) ?_)
  have h27 := ((p3_0.ext h10).ext h12).ext s1d
  refine Rh z hc16 (lnR d_25 z h27) (Rh z hc16 (rd_gtr z z) (R z (pF z hc16 z) (Rm z ?_)))
  rcases bs (decide ((x3.length : Int) < x4)) with hc1a | hc1a
  ·iterate 3 refine Nh z hc1a ?_
   exact R z (pT z hc1a z) (Wl (fun _ q => ⟨true, som (ifT hm26 hc1a), (q.k (s6 z z z z z z)), s1d⟩))
  exact Rh z hc1a (mv z) (Rh z hc1a (lnR d_25 z h27) (Rh z hc1a (rd_gtr z z) (R z (pF z hc1a z) (Wl (fun _ q => ⟨decide (400 < (x3.length : Int)), som (ifF hm26 hc1a), (q.k (s6 z z z z z z)), s1d⟩)))))
 rintro a2w w2x ⟨x1q, rfl, hS3q, s11⟩
 revert a2w
 refine Wo (Wc z (fun hc1r => ?_) (fun hc1r => ?_))
 ·refine Ws (R z (bP (parts := []) (cs := [(vI 0), (.slice none 0 0), (.slice none 0 0)]) build_41 z z) (E0 (fs (cur' := [(vI 0), (.slice none 0 0), (.slice none 0 0)]) z_41 z z (h15.ext s11) z (lb z) (oA z) z) ?_))
  rintro _ w3r ⟨h2y, s2z⟩
  refine Ra z (Ra z (Wn ?_))
  obtain rfl := som (ifT hm23 hc1r)
  exact Wr (ret3 hr (resC g_41 z_41 z h2y z) z z ⟨(bM (bup (bup h10 h12) s11) s2z.one (mem1le h10.size)), none, 0, 0, [], none, 0, 0, [], z, (ii z), onL, onL, (ii z), (ii z), nd0, al0⟩)
 refine Wk (Ws (R z (lN (vs := [(.slice pa1_0 pn1_0 pc1_0)]) g_31 z_31 z z fid (((h21.ext h12).ext s11).row 0 1 z)) (Rm z (R z (bP (parts := [(0, (.tmp 36)), (1, (.tmp 37))]) (cs := [(.slice pa1_0 pn1_0 pc1_0), (.slice pa3_0 pn3_0 pc3_0)]) build_114 z z) (E z (fb z) ?_)))))
 rintro _ w28 ⟨rfl, h29⟩
 have h17 := h29.below
 have h2a : Blk w28 w2x.heap.size [(.slice pa1_0 pn1_0 pc1_0), (.slice pa3_0 pn3_0 pc3_0)] := h29.blk
 refine Ra z (Wn (Ws (Rm z (Rm z (Rm z ?_)))))
 have h1e := lt_ (lt_ (lt_ h10.size h12.size) s11.size) h17.size
 have h2b := lt_ hBw h1e
 obtain ⟨r1s, r3s, r30, e31, hm2c⟩ := bd3S (ifF hm23 hc1r)
 refine E z (fc call77 z (W_impl_fileReader_value.run (B := w28.heap.size) e31 lr (repS.mono ((((p1_0.ext h10).ext h12).ext s11).ext h17) h2b) (repS.mono ((((p3_0.ext h10).ext h12).ext s11).ext h17) h2b) (h2a.row 0 2 z) h2a.lt p2_0 p4_0)) ?_
 rintro _ w32 ⟨s1b, a1g, n1h, c1i, S33, a1j, n1k, c1l, S34, v3t, S3u, rfl, h35, h2d, h2e, h36, h1t, h37, h1u, h1m⟩
 refine Rm z ?_
 iterate 3 refine R z (ext_ z z) ?_
 refine E z (fa zero_41) ?_
 rintro _ w38 ⟨rfl, h2f⟩
 have h13 := h2f.below
 have h39 : Blk w38 w32.heap.size [(vI 0), (.slice none 0 0), (.slice none 0 0)] := h2f.blk
 refine E0 (fs (cur' := [(vI r1s.number), (.slice a1g n1h c1i), (.slice a1j n1k c1l)]) z_41 z z h39 z (lb z) (oA z) z) ?_
 rintro _ w2g ⟨h3a, s3b⟩
 have h14 := s3b.one
 refine Ra z (Ra z (Wn (Ws (E z (fa zero_119) ?_))))
 rintro _ w3c ⟨rfl, h2h⟩
 have h18 := h2h.below
 have h2i : Blk w3c w2g.heap.size [(.pointer none)] := h2h.blk
 refine Wn (Wq (Ws (Rm z (R z (rd_makeIface d_121 (fun _ h => by cases h) z) ?_))))
 have h2j := ((h1t.ext h13).chg h14 (dj_symm (mnr (errR.lt h1t)))).ext h18
 rcases bs (r30.isSome) with hc1n | hc1n
 ·obtain ⟨r3v, r3w, e3d, hm3e⟩ := bd2S (ifT hm2c hc1n)
  have h1v := lt_ h1e s1b.size
  refine E z (fc call78 z (W_As_some ((((((((hG.ext h10).ext h12).ext s11).ext h17).ext s1b).ext h13).chg h14 (lg (mem1le (lt_ hBw h1v)))).ext h18) h2j e3d h2i)) ?_
  rintro _ w3x ⟨g2k, rfl, s3f, h3g, h3h, h2l, h3i, h3j⟩
  have h1w := s3f.one
  refine Wn (Wc z (fun _ => ?_) (fun hc => (bcon z hc).elim))
  refine Wq (WC_draw (X := (· ∈ [w1c.heap.size])) 0 (.rd 0 (.rd 1 (.rd 2 (.rd 3 (.rd 4 (.rd 5 (.rd 6 (.rd 7 (.rd 8 (.ef 9 (.rd 10 (.rd 11 .done)))))))))))) mo (by kernel_rfl) fun w3y s1o _ => dR z z (bP (parts := []) (cs := [(vI 0), (.slice none 0 0), (.slice none 0 0)]) build_41 z z) ?_)
  have h2m := h3g.ext s1o
  have h2n := lt_ s11.size h17.size
  have h2o := lt_ h2n s1b.size
  have h2p := lt_ (lt_ h2o h13.size) h14.size
  have h1x := mm1 h15.lt h2p
  refine dR z z (l1 g_119 z (atp h1x) (h2m.at z)) (dR z z (rd_nil z) (dR z z (fd f_123_0 z) ?_))
  have h3k : ∀ k ∈ [g2k], k ∉ [w2g.heap.size] := or1 (mem1 (.inl h2l)) (dj_symm (mno (errR.lt h1t) (lt_ h13.size h14.size))) (ltnot (mem1 h2i.lt) lr)
  have h2q := (h3h.chg h1w (atp h3k)).ext s1o
  have h2r : ∀ k ∈ [g2k], k ∉ [w1c.heap.size] := or1 (mem1 (.inl h2l)) (o0n1 h37 h15.lt h2n) (ltnot (mem1 h15.lt) (lt_ h2p h18.size))
  refine dR z z (l1 g_3 z (atp h2r) (h2q.at z)) (dR z z (l1 g_119 z (atp h1x) (h2m.at z)) (dR z z (rd_nil z) (dR z z (fd f_123_1 z) (dR z z (l1 g_3 z (atp h2r) (h2q.at z)) (dE0 z (fs (cur' := [(vI 0), (.slice none 0 0), (.slice none 0 0)]) z_41 z z ((((((((h15.ext s11).ext h17).ext s1b).ext h13).chg h14 (djs (mm1 h15.lt h2o))).ext h18).chg h1w (djs h1x)).ext s1o) z (lb z) (oA z) z) (.inr fun _ _ h => chgIn (List.mem_singleton.2 z) h.2) ?_)))))
  rintro _ w3z ⟨h3l, s3m⟩
  refine dR z z (asg z) (dR z z (asg z) (PR_done (Wo ?_)))
  obtain rfl := som hm3e
  exact Wr (ret3 hr (resC g_41 z_41 z h3l z) z z ⟨(bM (bup (bM (bup (bM (bup (bup (bup (bup (bup h10 h12) s11) h17) s1b) h13) h14 (mem1le h1v)) h18) h1w (mem1le (lt_ (lt_ h1v h13.size) h14.size))) s1o) s3m.one (mem1le h10.size)), none, 0, 0, [], none, 0, 0, [], z, (ii z), onL, onL, h3i, h3j, nd0, al0⟩)
 refine E z (fc call78 z (W_As_none h2j hc1n)) ?_
 rintro _ w40 ⟨rfl, s1f⟩
 refine Wn (Wc z (fun hc => (bcon hc z).elim) (fun _ => ?_))
 refine Wk (Ws (R z (lN (vs := [(vI r1s.number), (.slice a1g n1h c1i), (.slice a1j n1k c1l)]) g_41 z_41 z z fid (((h3a.ext h18).ext s1f).row 0 3 z)) (Rm z ?_)))
 have h1y := lt_ s11.size h17.size
 refine E0 (fs (cur' := [(vI r1s.number), (.slice a1g n1h c1i), (.slice a1j n1k c1l)]) z_41 z z (((((((h15.ext s11).ext h17).ext s1b).ext h13).chg h14 (djs (mm1 h15.lt (lt_ h1y s1b.size)))).ext h18).ext s1f) z (lb z) (oA z) z) ?_
 rintro _ w41 ⟨h3n, s3o⟩
 have h1z := s3o.one
 refine Ra z (Ra z (Wn ?_))
 obtain rfl := som (ifF hm2c hc1n)
 exact Wr (ret3 hr (resC g_41 z_41 z h3n z) z z ⟨(bM (bup (bup (bM (bup (bup (bup (bup (bup h10 h12) s11) h17) s1b) h13) h14 (mem1le (lt_ h1e s1b.size))) h18) s1f) h1z (mem1le h10.size)), a1g, n1h, c1i, S33, a1j, n1k, c1l, S34, z, h35, (((((h2d.ext h13).chg h14 (dj_symm (mnr (ownS.lt h2d)))).ext h18).ext s1f).chg h1z (o0n1 (all_left h1m) h15.lt h1y)), (((((h2e.ext h13).chg h14 (dj_symm (mnr (ownS.lt h2e)))).ext h18).ext s1f).chg h1z (o0n1 (all_right h1m) h15.lt h1y)), h36, (ii z), (nd_app (nd_left h1u) (nd_right h1u) (nd_dj h1u)), (all_app (o0le (all_left h1m) h1e) (o0le (all_right h1m) h1e))⟩)
def Q_impl_ReadFile (w0 : World) (B : Nat) (r : Val × Int × Int) (v : Value) (w' : World) : Prop := Below w0.heap.size w0 w' ∧ un3 (fun r1 r2 r3 => ∃ (a1 : Option Addr) (n1 c1 : Nat) (S1 : List Nat) (a2 : Option Addr) (n2 c2 : Nat) (S2 : List Nat), v = .tuple #[(.agg #[vI r1.number, .slice a1 n1 c1, .slice a2 n2 c2]), (vI r2), (vI r3)] ∧ inI r1.number ∧ ownS w' S1 (.slice a1 n1 c1) r1.bytes ∧ ownS w' S2 (.slice a2 n2 c2) r1.items ∧ inI r2 ∧ inI r3 ∧ (S1 ++ S2).Nodup ∧ (∀ k ∈ (S1 ++ S2), w0.heap.size ≤ k)) r
theorem W_impl_ReadFile {x1 : Desc} {x2 : List UInt8} {res : Val × Int × Int} (hm : M_impl_ReadFile n x1 x2 = some res) (hBw : B ≤ w0.heap.size) (hG : Gl w0 B) (p1_0 : repS w0 B (.slice pa1_0 pn1_0 pc1_0) x1.rules) (p2_0 : repS w0 B (.slice pa2_0 pn2_0 pc2_0) x2) : CallsR prog 62 [(.agg #[(.slice pa1_0 pn1_0 pc1_0)]), (.slice pa2_0 pn2_0 pc2_0)] w0 (Q_impl_ReadFile w0 B res) := by
 unfold M_impl_ReadFile at hm
 obtain ⟨fn, hf, hb, hN, hr⟩ := fnE func62
 refine goW hf (hb.trans z) (hN.trans z) (lb z) (Ws (E z (fb z) ?_))
 rintro _ w1n ⟨rfl, h2g⟩
 have h12 := h2g.below
 have h1v : Blk w1n w0.heap.size [(.slice pa1_0 pn1_0 pc1_0)] := h2g.blk
 refine E z (fa zero_41) ?_
 rintro _ w16 ⟨rfl, h2h⟩
 have h11 := h2h.below
 have h1o : Blk w16 w1n.heap.size [(vI 0), (.slice none 0 0), (.slice none 0 0)] := h2h.blk
 refine Ra z (Ra z (Wn (Wq ?_)))
 obtain ⟨u3x, hu2i, hm3y⟩ := bdS hm
 refine WC_cut (fun a w => ∃ (x1b : Int) (x1w : List UInt8) (x1x : List Val) (x1c : Int) (x1d : Int), (x1b, x1w, x1x, x1c, x1d) = u3x ∧ ∃ (a1e : Option Addr) (n1f c1g : Nat) (S17 : List Nat) (a1h : Option Addr) (n1i c1j : Nat) (S18 : List Nat) (g19 : Nat), Sat 32 [(1, (.slice pa2_0 pn2_0 pc2_0)), (4, (.pointer (some ⟨w1n.heap.size, 0, none⟩))), (7, (.pointer (some ⟨g19, 0, none⟩))), (8, (vI x1c)), (9, (vI x1d))] a ∧ Below w16.heap.size w16 w ∧ inI x1b ∧ ownS w S17 (.slice a1e n1f c1g) x1w ∧ S17.Nodup ∧ (∀ k ∈ S17, w16.heap.size ≤ k) ∧ ownS w S18 (.slice a1h n1i c1j) x1x ∧ S18.Nodup ∧ (∀ k ∈ S18, w16.heap.size ≤ k) ∧ (∀ k ∈ S18, k ∉ S17) ∧ inI x1c ∧ inI x1d ∧ Blk w g19 [(vI x1b), (.slice a1e n1f c1g), (.slice a1h n1i c1j)] ∧ w16.heap.size ≤ g19 ∧ (∀ k ∈ S17, k ∉ [g19]) ∧ (∀ k ∈ S18, k ∉ [g19])) ?_ ?_
 ·refine WC_draw (X := fun k => k ∈ ([] : List Nat) ∨ w16.heap.size ≤ k) 0 (.rd 0 (.rd 1 (.rd 3 (.br 2 (.br 4 (.rd 5 (.rd 6 (.rd 7 (.rd 8 (.ef 9 (.ef 10 (.rd 11 (.rd 12 .done)))))))) 9 (.ef 4 (.rd 5 (.rd 6 (.rd 7 (.rd 8 (.ef 10 (.rd 11 (.rd 12 .done))))))))) 9 (.ef 2 (.ef 4 (.rd 5 (.rd 6 (.rd 7 (.rd 8 (.ef 10 (.rd 11 (.rd 12 .done))))))))))))) mo (by kernel_rfl) fun w2j s10 _ => ?_
  have h2k := (h1v.ext h11).ext s10
  refine dR z z (lN (vs := [(.slice pa1_0 pn1_0 pc1_0)]) g_31 z_31 z z (notNew nm0 (Nat.lt_of_lt_of_le h1v.lt h11.size)) (h2k.row 0 1 z)) (dR z z (lN (vs := [(.slice pa1_0 pn1_0 pc1_0)]) g_31 z_31 z z (notNew nm0 (Nat.lt_of_lt_of_le h1v.lt h11.size)) (h2k.row 0 1 z)) (dR z z (mv z) (PR_br ?_ ?_)))
  ·have h1y := ((p1_0.ext h12).ext h11).ext s10
   have h1z := lt_ (lt_ h12.size h11.size) s10.size
   obtain ⟨r5o, e3z, hm2l⟩ := bdS hu2i
   refine dE z z (fc call59 z (W_impl_RootOf (B := B) e3z (lt_ hBw h1z) h1y)) (.inr fun _ _ h => chgB (h.1)) ?_
   rintro _ w2m ⟨s13, rfl, h2n⟩
   refine PR_br ?_ ?_
   ·obtain ⟨r1p, r40, r41, e42, hm43⟩ := bd3S hm2l
    refine dE z z (fc call47 z (W_impl_ReadValue (B := B) e42 (lt_ hBw (lt_ h1z s13.size)) ((((hG.ext h12).ext h11).ext s10).ext s13) (h1y.ext s13) h2n ((((p2_0.ext h12).ext h11).ext s10).ext s13) (ii z))) (.inr fun _ _ h => chgB (h.1)) ?_
    rintro _ w2o ⟨s2p, a2q, n2r, c2s, S44, a2t, n2u, c2v, S45, rfl, h46, h2w, h2x, h47, h48, h20, h2y⟩
    refine dR z z (mv z) ?_
    iterate 3 refine dR z z (ext_ z z) ?_
    refine dE z z (fa zero_41) (.inr fun _ _ h => chgB (h.2.below)) ?_
    rintro _ w49 ⟨rfl, h2z⟩
    have h21 := h2z.below
    have h4a : Blk w49 w2o.heap.size [(vI 0), (.slice none 0 0), (.slice none 0 0)] := h2z.blk
    have h22 := lt_ s10.size s13.size
    have h23 := mem1le (lt_ h22 s2p.size)
    refine dE0 z (fs (cur' := [(vI r1p.number), (.slice a2q n2r c2s), (.slice a2t n2u c2v)]) z_41 z z h4a z (lb z) (oA z) z) (.inr fun _ _ h => chgNew (atp h23) h.2) ?_
    rintro _ w5p ⟨h4b, s4c⟩
    have h24 := s4c.one
    refine dR z z (asg z) (dR z z (asg z) (PR_done ?_))
    have h30 := mnr (ownS.lt h2w)
    have h31 := mnr (ownS.lt h2x)
    exact fun _ q => ⟨r1p.number, r1p.bytes, r1p.items, r40, r41, som hm43, a2q, n2r, c2s, S44, a2t, n2u, c2v, S45, w2o.heap.size, (q.k (s5 z z z z z)), (bM (bup (bup (bup s10 s13) s2p) h21) h24 h23), h46, ((h2w.ext h21).chg h24 (dj_symm h30)), (nd_left h20), (o0le (all_left h2y) h22), ((h2x.ext h21).chg h24 (dj_symm h31)), (nd_right h20), (o0le (all_right h2y) h22), (dj_symm (nd_dj h20)), h47, h48, h4b, (atp h23), (dj_symm h30), (dj_symm h31)⟩
   refine dE z z (fa zero_41) (.inr fun _ _ h => chgB (h.2.below)) ?_
   rintro _ w4d ⟨rfl, h32⟩
   have h1k := h32.below
   have h25 : Blk w4d w2m.heap.size [(vI 0), (.slice none 0 0), (.slice none 0 0)] := h32.blk
   obtain ⟨r1q, r4e, r4f, e4g, hm4h⟩ := bd3S hm2l
   refine dE z z (fc call47 z (W_impl_ReadValue (B := B) e4g (lt_ hBw (lt_ (lt_ h1z s13.size) h1k.size)) (((((hG.ext h12).ext h11).ext s10).ext s13).ext h1k) ((h1y.ext s13).ext h1k) h2n (((((p2_0.ext h12).ext h11).ext s10).ext s13).ext h1k) (ii z))) (.inr fun _ _ h => chgB (h.1)) ?_
   rintro _ w5q ⟨s33, a34, n35, c36, S4i, a37, n38, c39, S4j, rfl, h4k, h4l, h4m, h4n, h4o, h26, h1r⟩
   refine dR z z (mv z) ?_
   iterate 3 refine dR z z (ext_ z z) ?_
   have h3a := lt_ s10.size s13.size
   have h27 := mem1le h3a
   refine dE0 z (fs (cur' := [(vI r1q.number), (.slice a34 n35 c36), (.slice a37 n38 c39)]) z_41 z z (h25.ext s33) z (lb z) (oA z) z) (.inr fun _ _ h => chgNew (atp h27) h.2) ?_
   rintro _ w5r ⟨h4p, s4q⟩
   have h28 := s4q.one
   refine dR z z (asg z) (dR z z (asg z) (PR_done ?_))
   have h3b := o0n1 (all_left h1r) h25.lt lr
   have h3c := lt_ h3a h1k.size
   have h3d := o0n1 (all_right h1r) h25.lt lr
   exact fun _ q => ⟨r1q.number, r1q.bytes, r1q.items, r4e, r4f, som hm4h, a34, n35, c36, S4i, a37, n38, c39, S4j, w2m.heap.size, (q.k (s5 z z z z z)), (bM (bup (bup (bup s10 s13) h1k) s33) h28 h27), h4k, (h4l.chg h28 h3b), (nd_left h26), (o0le (all_left h1r) h3c), (h4m.chg h28 h3d), (nd_right h26), (o0le (all_right h1r) h3c), (dj_symm (nd_dj h26)), h4n, h4o, h4p, (atp h27), h3b, h3d⟩
  refine dE z z (fa zero_41) (.inr fun _ _ h => chgB (h.2.below)) ?_
  rintro _ w4r ⟨rfl, h3e⟩
  have h1l := h3e.below
  have h29 : Blk w4r w2j.heap.size [(vI 0), (.slice none 0 0), (.slice none 0 0)] := h3e.blk
  have h3f := (((p1_0.ext h12).ext h11).ext s10).ext h1l
  have h3g := lt_ (lt_ (lt_ h12.size h11.size) s10.size) h1l.size
  obtain ⟨r5s, e4s, hm4t⟩ := bdS hu2i
  refine dE z z (fc call59 z (W_impl_RootOf (B := B) e4s (lt_ hBw h3g) h3f)) (.inr fun _ _ h => chgB (h.1)) ?_
  rintro _ w5t ⟨s15, rfl, h4u⟩
  obtain ⟨r1s, r4v, r4w, e4x, hm4y⟩ := bd3S hm4t
  refine dE z z (fc call47 z (W_impl_ReadValue (B := B) e4x (lt_ hBw (lt_ h3g s15.size)) (((((hG.ext h12).ext h11).ext s10).ext h1l).ext s15) (h3f.ext s15) h4u (((((p2_0.ext h12).ext h11).ext s10).ext h1l).ext s15) (ii z))) (.inr fun _ _ h => chgB (h.1)) ?_
  rintro _ w5u ⟨s3h, a3i, n3j, c3k, S4z, a3l, n3m, c3n, S50, rfl, h51, h52, h53, h54, h55, h2a, h1t⟩
  refine dR z z (mv z) ?_
  iterate 3 refine dR z z (ext_ z z) ?_
  have h2b := mem1le s10.size
  refine dE0 z (fs (cur' := [(vI r1s.number), (.slice a3i n3j c3k), (.slice a3l n3m c3n)]) z_41 z z ((h29.ext s15).ext s3h) z (lb z) (oA z) z) (.inr fun _ _ h => chgNew (atp h2b) h.2) ?_
  rintro _ w5v ⟨h56, s57⟩
  have h2c := s57.one
  refine dR z z (asg z) (dR z z (asg z) (PR_done ?_))
  have h3o := o0n1 (all_left h1t) h29.lt s15.size
  have h3p := lt_ (lt_ s10.size h1l.size) s15.size
  have h3q := o0n1 (all_right h1t) h29.lt s15.size
  exact fun _ q => ⟨r1s.number, r1s.bytes, r1s.items, r4v, r4w, som hm4y, a3i, n3j, c3k, S4z, a3l, n3m, c3n, S50, w2j.heap.size, (q.k (s5 z z z z z)), (bM (bup (bup (bup s10 h1l) s15) s3h) h2c h2b), h51, (h52.chg h2c h3o), (nd_left h2a), (o0le (all_left h1t) h3p), (h53.chg h2c h3q), (nd_right h2a), (o0le (all_right h1t) h3p), (dj_symm (nd_dj h2a)), h54, h55, h56, (atp h2b), h3o, h3q⟩
 rintro a58 w1u ⟨x1b, x1w, x1x, x1c, x1d, rfl, a1e, n1f, c1g, S17, a1h, n1i, c1j, S18, g19, hS5w, s1m, h59, h5a, h5b, h3r, h5c, h5d, h3s, h5e, h3t, h5f, h5g, h5x, h5y, h5z⟩
 have hm5h := un5S hm3y
 revert a58
 refine Wo (Wq (Wq ?_))
 obtain ⟨u5i, hu3u, hm3v⟩ := bdS hm5h
 refine WC_cut (fun a w => ∃ (x2d : Bool), x2d = u5i ∧ Sat 32 [(4, (.pointer (some ⟨w1n.heap.size, 0, none⟩))), (7, (.pointer (some ⟨g19, 0, none⟩))), (8, (vI x1c)), (9, (vI x1d)), (26, (vB x2d))] a ∧ Below w1u.heap.size w1u w) ?_ ?_
 ·refine Wg (Rm z (R z (eql z z) (Rm z ?_)))
  rcases bs (x1d == 0) with hc14 | hc14
  ·exact Rh z hc14 (mv z) (Rh z hc14 (mv z) (Rh z hc14 (lnR d_25 z (((p2_0.ext h12).ext h11).ext s1m)) (Rh z hc14 (lss z z) (R z (pT z hc14 z) (Wl (fun _ q => ⟨decide (x1c < (x2.length : Int)), som (ifT hu3u hc14), (q.k (s5 z z z z z)), (br w1u)⟩))))))
  iterate 4 refine Nh z hc14 ?_
  exact R z (pF z hc14 z) (Wl (fun _ q => ⟨false, som (ifF hu3u hc14), (q.k (s5 z z z z z)), (br w1u)⟩))
 rintro a5j w60 ⟨x2d, rfl, hS61, s1a⟩
 revert a5j
 refine Wo (Wc z (fun hc2e => ?_) (fun hc2e => ?_))
 ·refine Ws (R z (bP (parts := []) (cs := [(vI 0), (.slice none 0 0), (.slice none 0 0)]) build_41 z z) (Rm z (E0 (fs (cur' := [(vI 0), (.slice none 0 0), (.slice none 0 0)]) z_41 z z ((h1o.ext s1m).ext s1a) z (lb z) (oA z) z) ?_)))
  rintro _ w62 ⟨h5k, s5l⟩
  refine Ra z (Ra z (Wn ?_))
  obtain rfl := som (ifT hm3v hc2e)
  exact Wr (ret3 hr (resC g_41 z_41 z h5k z) z z ⟨(bM (bup (bup (bup h12 h11) s1m) s1a) s5l.one (mem1le h12.size)), none, 0, 0, [], none, 0, 0, [], z, (ii z), onL, onL, h3t, (ii z), nd0, al0⟩)
 refine Wk (Ws (R z (lN (vs := [(vI x1b), (.slice a1e n1f c1g), (.slice a1h n1i c1j)]) g_41 z_41 z z fid ((h5g.ext s1a).row 0 3 z)) (Rm z (Rm z (E0 (fs (cur' := [(vI x1b), (.slice a1e n1f c1g), (.slice a1h n1i c1j)]) z_41 z z ((h1o.ext s1m).ext s1a) z (lb z) (oA z) z) ?_)))))
 rintro _ w63 ⟨h5m, s5n⟩
 have h2f := s5n.one
 refine Ra z (Ra z (Wn ?_))
 obtain rfl := som (ifF hm3v hc2e)
 have h3w := lt_ h12.size h11.size
 exact Wr (ret3 hr (resC g_41 z_41 z h5m z) z z ⟨(bM (bup (bup (bup h12 h11) s1m) s1a) h2f (mem1le h12.size)), a1e, n1f, c1g, S17, a1h, n1i, c1j, S18, z, h59, ((h5a.ext s1a).chg h2f (o0n1 h3r h1o.lt lr)), ((h5c.ext s1a).chg h2f (o0n1 h3s h1o.lt lr)), h3t, h5f, (nd_app h5b h5d (dj_symm h5e)), (all_app (o0le h3r h3w) (o0le h3s h3w))⟩)
def Q_impl_checker_skip (w0 : World) (B : Nat) (r : Spot) (v : Value) (w' : World) : Prop := Below w0.heap.size w0 w' ∧ (fun r1 => (.agg #[vI r1.at_, vI r1.code]) = v ∧ inI r1.at_ ∧ inI r1.code) r
theorem W_impl_checker_skip {x1 : Checker} {b1 o1 : Nat} {x2 : Int} {x3 : Int} {res : Spot} (hm : M_impl_checker_skip x1 x2 x3 = some res) (hBw : B ≤ w0.heap.size) (p1_0 : repS w0 B (.slice pa1_0 pn1_0 pc1_0) x1.d.rules) (p1_1 : repS w0 B (.slice pa1_1 pn1_1 pc1_1) x1.b) (p1_2 : inI x1.applied) (hC1 : CellsAt w0 b1 o1 [(.slice pa1_0 pn1_0 pc1_0), (.slice pa1_1 pn1_1 pc1_1), (vI x1.applied)]) (hC1b : b1 < B) (p2_0 : inI x2) (p3_0 : inI x3) : CallsR prog 154 [(.pointer (some ⟨b1, o1, none⟩)), (vI x2), (vI x3)] w0 (Q_impl_checker_skip w0 B res) := by
 unfold M_impl_checker_skip at hm
 obtain ⟨fn, hf, hb, hN, hr⟩ := fnE func154
 refine goW hf (hb.trans z) (hN.trans z) (lb z) (Ws (E z (fa zero_174) ?_))
 rintro _ w14 ⟨rfl, h12⟩
 have h10 := h12.below
 have h13 : Blk w14 w0.heap.size [(vI 0), (vI 0)] := h12.blk
 refine Wn (Wq (Ws (Rm z (Rm z (R z (rd_nil z) (R z (fd f_172_1 z) (R z (l1 g_25 z fid ((hC1.ext h10).at (j := 1) z)) (R z (lnR d_25 z (p1_1.ext h10)) (Rm z (R z (sb_ z z) (R z (rd_gtr z z) (Wn (Wc z (fun hc11 => ?_) (fun hc11 => ?_))))))))))))))
 ·refine Ws (Rm z (R z (bP (parts := [(0, (.tmp 16)), (1, (.const (.int .i64 1)))]) (cs := [(vI x2), (vI 1)]) build_174 z z) (E0 (fs (cur' := [(vI x2), (vI 1)]) z_174 z z h13 z (lb z) (oA z) z) ?_)))
  rintro _ w19 ⟨h15, s16⟩
  refine Wn ?_
  obtain rfl := som (ifT hm hc11)
  exact Wr (ret1 hr (resC g_174 z_174 z h15 z) ⟨(bM h10 s16.one (mem1 lr)), z, p2_0, (ii z)⟩)
 refine Wk (Ws (Rm z (Rm z (R z (add_ z z) (R z (bP (parts := [(0, (.tmp 20)), (1, (.const (.int .i64 0)))]) (cs := [(vI (iadd x2 x3)), (vI 0)]) build_174 z z) (E0 (fs (cur' := [(vI (iadd x2 x3)), (vI 0)]) z_174 z z h13 z (lb z) (oA z) z) ?_))))))
 rintro _ w1a ⟨h17, s18⟩
 refine Wn ?_
 obtain rfl := som (ifF hm hc11)
 exact Wr (ret1 hr (resC g_174 z_174 z h17 z) ⟨(bM h10 s18.one (mem1 lr)), z, (iA _ _), (ii z)⟩)
def Q_impl_checker_number (w0 : World) (g1 : Nat) (B : Nat) (pa1_0 : Option Addr) (pn1_0 pc1_0 : Nat) (pa1_1 : Option Addr) (pn1_1 pc1_1 : Nat) (x1 : Checker) (r : Int × Spot × Int) (v : Value) (w' : World) : Prop := Chg (· ∈ [g1]) w0 w' ∧ un3 (fun r1 r2 r3 => v = .tuple #[(vI r1), (.agg #[vI r2.at_, vI r2.code])] ∧ inI r1 ∧ inI r2.at_ ∧ inI r2.code ∧ inI r3 ∧ Blk w' g1 [(.slice pa1_0 pn1_0 pc1_0), (.slice pa1_1 pn1_1 pc1_1), vI r3]) r
theorem W_impl_checker_number {x1 : Checker} {g1 : Nat} {x2 : Int} {x3 : Int} {res : Int × Spot × Int} (hm : M_impl_checker_number x1 x2 x3 = some res) (hB1 : Blk w0 g1 [(.slice pa1_0 pn1_0 pc1_0), (.slice pa1_1 pn1_1 pc1_1), (vI x1.applied)]) (hBw : B ≤ g1) (p1_0 : repS w0 B (.slice pa1_0 pn1_0 pc1_0) x1.d.rules) (p1_1 : repS w0 B (.slice pa1_1 pn1_1 pc1_1) x1.b) (p1_2 : inI x1.applied) (p2_0 : inI x2) (p3_0 : inI x3) : CallsR prog 152 [(.pointer (some ⟨g1, 0, none⟩)), (vI x2), (vI x3)] w0 (Q_impl_checker_number w0 g1 B pa1_0 pn1_0 pc1_0 pa1_1 pn1_1 pc1_1 x1 res) := by
 unfold M_impl_checker_number at hm
 obtain ⟨fn, hf, hb, hN, hr⟩ := fnE func152
 refine goW hf (hb.trans z) (hN.trans z) (lb z) (Ws (Ra z (E z (fa zero_174) ?_)))
 rintro _ w1g ⟨rfl, h1o⟩
 have h19 := h1o.below
 have h1a : Blk w1g w0.heap.size [(vI 0), (vI 0)] := h1o.blk
 refine Wn (Ws (Rm z (R z (rd_nil z) (R z (fd f_172_2 z) ?_))))
 have h1p := hB1.ext h19
 refine R z (l1 g_3 z fid (h1p.at z)) (R z (add_ z z) (R z (rd_nil z) (R z (fd f_172_2 z) (E0 (fs (cur' := [(.slice pa1_0 pn1_0 pc1_0), (.slice pa1_1 pn1_1 pc1_1), (vI (iadd x1.applied 1))]) z_3 z z h1p z (lb z) (oA z) z) ?_))))
 rintro _ w1b ⟨h1q, s2m⟩
 have h11 := s2m.one
 refine Wn (Ws (Rm z (R z (rd_nil z) (R z (fd f_172_0 z) (R z (fd f_31_0 z) (R z (l1 g_29 z fid (h1q.at z)) (Rm z ?_)))))))
 obtain ⟨x17, e2n, hm2o⟩ := bdS hm
 have h1r := (p1_0.ext h19).chg h11 (lg (mem1 hBw))
 refine RX z (at_ (α := Rule) d_29 z_74 z z z h1r e2n) ?_
 rintro _ ⟨b42, o43, cs44, rfl, h2p, h2q, h45⟩
 obtain ⟨a1s, n1t, c1u, a1v, n1w, c1x, a1y, n1z, c20, a21, n22, c23, rfl, h46, h47, h2r, h48, h49, h4a, h4b⟩ := Rule_open h2q
 refine R z (lN (vs := [(Str.v x17.name), (vI x17.kind), (vI x17.size), (vB x17.little), (.slice a1s n1t c1u), (.slice a1v n1w c1x), (.slice a1y n1z c20), (.slice a21 n22 c23)]) g_74 z_74 z z fid h2p) (E z (fa zero_74) ?_)
 rintro _ w1h ⟨rfl, h24⟩
 have h13 := h24.below
 have h25 : Blk w1h w1b.heap.size [(Str.v (⟨[]⟩ : Str)), (vI 0), (vI 0), (vB false), (.slice none 0 0), (.slice none 0 0), (.slice none 0 0), (.slice none 0 0)] := h24.blk
 refine E0 (fs (cur' := [(Str.v x17.name), (vI x17.kind), (vI x17.size), (vB x17.little), (.slice a1s n1t c1u), (.slice a1v n1w c1x), (.slice a1y n1z c20), (.slice a21 n22 c23)]) z_74 z z h25 z (lb z) (oA z) z) ?_
 rintro _ w26 ⟨h27, s2s⟩
 have h12 := s2s.one
 refine Wn (Ws (Rm z (Rm z (R z (fd f_74_2 z) (R z (l1 g_3 z fid (h27.at z)) ?_)))))
 have h1c := lt_ h19.size h11.size
 have h1i := (h1q.ext h13).chg h12 (djs (mm1 (Blk.lt hB1) h1c))
 have h28 := mem1le (lt_ (lt_ hBw (Nat.le_of_lt (Blk.lt hB1))) h1c)
 have h29 := (((p1_1.ext h19).chg h11 (lg (mem1 hBw))).ext h13).chg h12 (lg h28)
 have h1j := lt_ (lt_ h1c h13.size) h12.size
 obtain ⟨r14, e2t, hm2a⟩ := bdS hm2o
 refine E z (fc call154 z (W_impl_checker_skip (B := w0.heap.size) e2t h1j (repS.mono ((h1r.ext h13).chg h12 (lg h28)) (lt_ hBw (Nat.le_of_lt (Blk.lt hB1)))) (repS.mono h29 (lt_ hBw (Nat.le_of_lt (Blk.lt hB1)))) (iA _ _) (h1i.row 0 3 z) (Blk.lt hB1) p3_0 h2r)) ?_
 rintro _ w1d ⟨s10, rfl, h2b, h2c⟩
 refine E z (fa zero_174) ?_
 rintro _ w1k ⟨rfl, h2d⟩
 have h15 := h2d.below
 have h2u : Blk w1k w1d.heap.size [(vI 0), (vI 0)] := h2d.blk
 refine E0 (fs (cur' := [(vI r14.at_), (vI r14.code)]) z_174 z z h2u z (lb z) (oA z) z) ?_
 rintro _ w2e ⟨h1l, s2v⟩
 have h16 := s2v.one
 refine Wn (Wq (Ws (R z (fd f_174_1 z) (R z (l1 g_3 z fid (h1l.at z)) (R z (nq z z) (Wn (Wc z (fun hc1m => ?_) (fun hc1m => ?_))))))))
 ·refine Wq (WC_draw (X := noX) 4 (.rd 0 (.rd 1 (.ef 2 .done))) mo (by kernel_rfl) fun w2w s1e _ => dR z z (lN (vs := [(vI r14.at_), (vI r14.code)]) g_174 z_174 z z fid ((h1l.ext s1e).row 0 2 z)) (dR z z (asg z) ?_))
  have h2f := mmr (Blk.lt hB1)
  have h2x := (((((h1a.chg h11 (atp h2f)).ext h13).chg h12 (djs (mm1 h1a.lt h11.size))).ext s10).ext h15).chg h16 (djs (mm1 h1a.lt (lt_ (lt_ (lt_ h11.size h13.size) h12.size) s10.size)))
  refine dE0 z (fs (cur' := [(vI r14.at_), (vI r14.code)]) z_174 z z (h2x.ext s1e) z (lb z) (oA z) z) (.inl z) ?_
  rintro _ w2y ⟨h2z, s30⟩
  have h2g := s30.one
  refine PR_done (Wo ?_)
  obtain rfl := som (ifT hm2a hc1m)
  have h31 : Chg (· ∈ [g1]) w0 w1g := cext (cr [g1] w0) h19
  have h32 : Chg (· ∈ [g1]) w0 w1b := cM h31 h11 (io sr)
  have h33 : Chg (· ∈ [g1]) w0 w1h := cext h32 h13
  have h34 : ∀ k ∈ [w1b.heap.size], k ∈ [g1] ∨ w0.heap.size ≤ k := mor h1c
  have h35 : Chg (· ∈ [g1]) w0 w26 := cM h33 h12 h34
  have h36 : Chg (· ∈ [g1]) w0 w1d := cext h35 s10
  have h37 : Chg (· ∈ [g1]) w0 w1k := cext h36 h15
  have h2h := lt_ h1j s10.size
  have h38 : ∀ k ∈ [w1d.heap.size], k ∈ [g1] ∨ w0.heap.size ≤ k := mor h2h
  have h39 : Chg (· ∈ [g1]) w0 w2e := cM h37 h16 h38
  have h3a : Chg (· ∈ [g1]) w0 w2w := cext h39 s1e
  have h3b : ∀ k ∈ [w0.heap.size], k ∈ [g1] ∨ w0.heap.size ≤ k := mor lr
  have h3c : Chg (· ∈ [g1]) w0 w2y := cM h3a h2g h3b
  exact Wr (ret2 hr z (resC g_174 z_174 z h2z z) ⟨h3c, z, (ii z), h2b, h2c, (iA _ _), (((((h1i.ext s10).ext h15).chg h16 (djs (mm1 (Blk.lt hB1) h2h))).ext s1e).chg h2g (djs h2f))⟩)
 refine Wk (Wq (WC_draw (X := noX) 8192 (.rd 0 (.rd 1 (.rd 2 (.rd 3 (.rd 4 (.rd 5 (.rd 6 (.rd 7 (.rd 8 (.rd 9 (.rd 11 (.ef 10 (.rd 12 (.ef 13 .done)))))))))))))) mo (by kernel_rfl) fun w3d s18 _ => dR z z (mv z) (dR z z (rd_nil z) (dR z z (fd f_172_1 z) ?_))))
 have h1f := lt_ h1j s10.size
 have h2i := (((h1i.ext s10).ext h15).chg h16 (djs (mm1 (Blk.lt hB1) h1f))).ext s18
 refine dR z z (l1 g_25 z fid (h2i.at z)) (dR z z (mv z) (dR z z (fd f_174_0 z) ?_))
 have h2j := h1l.ext s18
 refine dR z z (l1 g_3 z fid (h2j.at z)) ?_
 obtain ⟨x4c, e3e, hm3f⟩ := bdS (ifF hm2a hc1m)
 refine dRX z z (rd_sliceX d_25 z_5 z z ((((h29.ext s10).ext h15).chg h16 (lg (mem1le (lt_ (lt_ hBw (Nat.le_of_lt (Blk.lt hB1))) h1f)))).ext s18) z z e3e) ?_
 rintro _ ⟨a4d, n4e, c4f, rfl, h3g⟩
 refine dR z z (fd f_74_3 z) (dR z z (l1 g_4 z fid (((((h27.ext s10).ext h15).chg h16 (djs (mm1 h25.lt (lt_ h12.size s10.size)))).ext s18).at z)) (dR z z (lN (vs := [(vI r14.at_), (vI r14.code)]) g_174 z_174 z z fid (h2j.row 0 2 z)) ?_))
 obtain ⟨r4g, e3h, hm3i⟩ := bdS hm3f
 refine dE z z (fc call136 z (W_impl_ReadInteger (B := B) e3h (lt_ (lt_ hBw (Nat.le_of_lt (Blk.lt hB1))) (lt_ (lt_ (lt_ h1f h15.size) h16.size) s18.size)) h3g)) (.inr fun _ _ h => chgB (h.1)) ?_
 rintro _ w3j ⟨s1n, rfl, h3k⟩
 refine dR z z (asg z) ?_
 have h2k := mmr (Blk.lt hB1)
 have h3l := (((((h1a.chg h11 (atp h2k)).ext h13).chg h12 (djs (mm1 h1a.lt h11.size))).ext s10).ext h15).chg h16 (djs (mm1 h1a.lt (lt_ (lt_ (lt_ h11.size h13.size) h12.size) s10.size)))
 refine dE0 z (fs (cur' := [(vI r14.at_), (vI r14.code)]) z_174 z z ((h3l.ext s18).ext s1n) z (lb z) (oA z) z) (.inl z) ?_
 rintro _ w3m ⟨h3n, s3o⟩
 have h2l := s3o.one
 refine PR_done (Wo ?_)
 obtain rfl := som hm3i
 have h3p : Chg (· ∈ [g1]) w0 w1g := cext (cr [g1] w0) h19
 have h3q : Chg (· ∈ [g1]) w0 w1b := cM h3p h11 (io sr)
 have h3r : Chg (· ∈ [g1]) w0 w1h := cext h3q h13
 have h3s : ∀ k ∈ [w1b.heap.size], k ∈ [g1] ∨ w0.heap.size ≤ k := mor h1c
 have h3t : Chg (· ∈ [g1]) w0 w26 := cM h3r h12 h3s
 have h3u : Chg (· ∈ [g1]) w0 w1d := cext h3t s10
 have h3v : Chg (· ∈ [g1]) w0 w1k := cext h3u h15
 have h3w : ∀ k ∈ [w1d.heap.size], k ∈ [g1] ∨ w0.heap.size ≤ k := mor h1f
 have h3x : Chg (· ∈ [g1]) w0 w2e := cM h3v h16 h3w
 have h3y : Chg (· ∈ [g1]) w0 w3d := cext h3x s18
 have h3z : Chg (· ∈ [g1]) w0 w3j := cext h3y s1n
 have h40 : ∀ k ∈ [w0.heap.size], k ∈ [g1] ∨ w0.heap.size ≤ k := mor lr
 have h41 : Chg (· ∈ [g1]) w0 w3m := cM h3z h2l h40
 exact Wr (ret2 hr z (resC g_174 z_174 z h3n z) ⟨h41, z, h3k, h2b, h2c, (iA _ _), ((h2i.ext s1n).chg h2l (djs h2k))⟩)
def Q_impl_checker_constant (w0 : World) (B : Nat) (r : Spot) (v : Value) (w' : World) : Prop := Below w0.heap.size w0 w' ∧ (fun r1 => (.agg #[vI r1.at_, vI r1.code]) = v ∧ inI r1.at_ ∧ inI r1.code) r
theorem W_impl_checker_constant {x1 : Checker} {b1 o1 : Nat} {x2 : Rule} {x3 : Int} {res : Spot} (hm : M_impl_checker_constant x1 x2 x3 = some res) (hBw : B ≤ w0.heap.size) (p1_0 : repS w0 B (.slice pa1_0 pn1_0 pc1_0) x1.d.rules) (p1_1 : repS w0 B (.slice pa1_1 pn1_1 pc1_1) x1.b) (p1_2 : inI x1.applied) (hC1 : CellsAt w0 b1 o1 [(.slice pa1_0 pn1_0 pc1_0), (.slice pa1_1 pn1_1 pc1_1), (vI x1.applied)]) (hC1b : b1 < B) (p2_0 : x2.name.b.length ≤ LEN) (p2_1 : inI x2.kind) (p2_2 : inI x2.size) (p2_4 : repS w0 B (.slice pa2_4 pn2_4 pc2_4) x2.bytes) (p2_5 : repS w0 B (.slice pa2_5 pn2_5 pc2_5) x2.names) (p2_6 : repS w0 B (.slice pa2_6 pn2_6 pc2_6) x2.tags) (p2_7 : repS w0 B (.slice pa2_7 pn2_7 pc2_7) x2.kids) (p3_0 : inI x3) : CallsR prog 153 [(.pointer (some ⟨b1, o1, none⟩)), (.agg #[(Str.v x2.name), (vI x2.kind), (vI x2.size), (vB x2.little), (.slice pa2_4 pn2_4 pc2_4), (.slice pa2_5 pn2_5 pc2_5), (.slice pa2_6 pn2_6 pc2_6), (.slice pa2_7 pn2_7 pc2_7)]), (vI x3)] w0 (Q_impl_checker_constant w0 B res) := by
 unfold M_impl_checker_constant at hm
 obtain ⟨fn, hf, hb, hN, hr⟩ := fnE func153
 refine goW hf (hb.trans z) (hN.trans z) (lb z) (Ws (E z (fb z) ?_))
 rintro _ w13 ⟨rfl, h1b⟩
 have h10 := h1b.below
 have h1k : Blk w13 w0.heap.size [(Str.v x2.name), (vI x2.kind), (vI x2.size), (vB x2.little), (.slice pa2_4 pn2_4 pc2_4), (.slice pa2_5 pn2_5 pc2_5), (.slice pa2_6 pn2_6 pc2_6), (.slice pa2_7 pn2_7 pc2_7)] := h1b.blk
 refine E z (fa zero_174) ?_
 rintro _ w14 ⟨rfl, h1c⟩
 have h12 := h1c.below
 have h17 : Blk w14 w13.heap.size [(vI 0), (vI 0)] := h1c.blk
 refine Wn (Wq (Ws (R z (fd f_74_4 z) ?_)))
 have h1d := h1k.ext h12
 refine R z (l1 g_25 z fid (h1d.at z)) ?_
 have h18 := (p2_4.ext h10).ext h12
 refine R z (lnR d_25 z h18) (Rm z (Wn ?_))
 obtain ⟨u26, hu1l, hm1e⟩ := bdS hm
 refine WC_forN (σ := Unit) (ρ := Spot) (fun (k15 : Nat) (_ : Unit) a w => Sat 50 [(0, (.pointer (some ⟨b1, o1, none⟩))), (2, (vI x3)), (4, (.pointer (some ⟨w0.heap.size, 0, none⟩))), (6, (.pointer (some ⟨w13.heap.size, 0, none⟩))), (10, (.slice pa2_4 pn2_4 pc2_4)), (11, (vI (x2.bytes.length : Int))), (12, (vI ((k15 : Nat) : Int)))] a ∧ Below w14.heap.size w14 w) (fun (_ : Unit) a w => Sat 50 [(2, (vI x3)), (4, (.pointer (some ⟨w0.heap.size, 0, none⟩))), (6, (.pointer (some ⟨w13.heap.size, 0, none⟩)))] a ∧ Below w14.heap.size w14 w) (fun r ex a w => ex = .ret ∧ RetPost prog fn (Q_impl_checker_constant w0 B r) a w) hu1l ?_ ?_ ?_ ?_ ?_
 ·exact fun _ q => ⟨(q.k (s7 z z z z z z z)), (br w14)⟩
 ·rintro k15 _ a27 w28 o29 hk1f ⟨hS1m, s11⟩ hm1n
  refine Wu (e := [(0, (.pointer (some ⟨b1, o1, none⟩))), (2, (vI x3)), (4, (.pointer (some ⟨w0.heap.size, 0, none⟩))), (6, (.pointer (some ⟨w13.heap.size, 0, none⟩))), (10, (.slice pa2_4 pn2_4 pc2_4)), (11, (vI (x2.bytes.length : Int))), (12, (vI ((k15 : Nat) : Int)))]) (N := 50) ?_ hS1m
  refine Ws (R z (lss z z) (Wn (Wq (Wc z (fun _ => ?_) (fun hc => (nolt hk1f hc).elim)))))
  refine Wk (Wq (WC_block (Ws (Rm z ?_))))
  obtain ⟨x2a, e1o, hm1g⟩ := bdS hm1n
  refine RX z (at_ (α := UInt8) d_25 z_5 z z z (h18.ext s11) e1o) ?_
  rintro _ ⟨b2b, o2c, cs2d, rfl, h1p, h1q, h2e⟩
  obtain rfl := UInt8_open h1q
  refine R z (l1 g_5 z fid (h1p.at0 z)) (Ra z (Ra z (Wn (Wq (Ws (Rm z (Rm z (R z (add_ z z) (Rm z (R z (rd_nil z) (R z (fd f_172_1 z) ?_)))))))))))
  have h1h := ((hC1.ext h10).ext h12).ext s11
  refine R z (l1 g_25 z fid (h1h.at (j := 1) z)) ?_
  have h1i := ((p1_1.ext h10).ext h12).ext s11
  refine R z (lnR d_25 z h1i) (R z (eql z z) (Wn (Wc z (fun hc19 => ?_) (fun hc19 => ?_))))
  ·refine Ws (Rm z (R z (bP (parts := [(0, (.tmp 26)), (1, (.const (.int .i64 1)))]) (cs := [(vI x3), (vI 1)]) build_174 z z) (E0 (fs (cur' := [(vI x3), (vI 1)]) z_174 z z (h17.ext s11) z (lb z) (oA z) z) ?_)))
   rintro _ w2f ⟨h1r, s1s⟩
   exact Wn (Wr (rtO (QO_retL (som (ifT hm1g hc19)).symm (ret1 hr (resC g_174 z_174 z h1r z) ⟨(bM (bup (bup h10 h12) s11) s1s.one (mem1le h10.size)), z, p3_0, (ii z)⟩))))
  refine Wk (Ws (Rm z (R z (rd_nil z) (R z (fd f_172_1 z) (R z (l1 g_25 z fid (h1h.at (j := 1) z)) (Rm z (Rm z (R z (add_ z z) ?_))))))))
  obtain ⟨x2g, e1t, hm1j⟩ := bdS (ifF hm1g hc19)
  refine RX z (at_ (α := UInt8) d_25 z_5 z z z h1i e1t) ?_
  rintro _ ⟨b2h, o2i, cs2j, rfl, h1u, h1v, h2k⟩
  obtain rfl := UInt8_open h1v
  refine R z (l1 g_5 z fid (h1u.at0 z)) (Rm z (R z (nq z z) (Wn (Wc z (fun hc1a => ?_) (fun hc1a => ?_)))))
  ·refine Ws (Rm z (Rm z (R z (add_ z z) (R z (bP (parts := [(0, (.tmp 41)), (1, (.const (.int .i64 2)))]) (cs := [(vI (iadd x3 ((k15 : Nat) : Int))), (vI 2)]) build_174 z z) (E0 (fs (cur' := [(vI (iadd x3 ((k15 : Nat) : Int))), (vI 2)]) z_174 z z (h17.ext s11) z (lb z) (oA z) z) ?_)))))
   rintro _ w2l ⟨h1w, s1x⟩
   exact Wn (Wr (rtO (QO_retL (som (ifT hm1j hc1a)).symm (ret1 hr (resC g_174 z_174 z h1w z) ⟨(bM (bup (bup h10 h12) s11) s1x.one (mem1le h10.size)), z, (iA _ _), (ii z)⟩))))
  exact Wk (Wg (R z (inc_ hk1f (lt_ (repS.len p2_4) LEN_le) z z) (Rm z (Wl (fun _ q => ⟨(), (som (ifF hm1j hc1a)).symm, ⟨(q.k (s7 z z z z z z z)), s11⟩⟩)))))
 ·rintro _ a2m w2n ⟨hS1y, s1z⟩
  refine Wu (e := [(0, (.pointer (some ⟨b1, o1, none⟩))), (2, (vI x3)), (4, (.pointer (some ⟨w0.heap.size, 0, none⟩))), (6, (.pointer (some ⟨w13.heap.size, 0, none⟩))), (10, (.slice pa2_4 pn2_4 pc2_4)), (11, (vI (x2.bytes.length : Int))), (12, (vI ((x2.bytes.length : Nat) : Int)))]) (N := 50) ?_ hS1y
  refine Ws (R z (lss z z) (Wn (Wq (Wc z (fun hc => (noltt hc).elim) (fun _ => ?_)))))
  exact WC_exit (fun a' ha' => ⟨rfl, ⟨(Sat.weaken ha' (s3 z z z)), s1z⟩⟩)
 ·rintro _ a20 w2o rfl ⟨hS2p, s16⟩
  have hm21 := elL hm1e
  revert a20
  refine Wo (Ws (Rm z (R z (fd f_74_4 z) (R z (l1 g_25 z fid ((h1d.ext s16).at z)) (R z (lnR d_25 z (h18.ext s16)) (R z (add_ z z) (R z (bP (parts := [(0, (.tmp 48)), (1, (.const (.int .i64 0)))]) (cs := [(vI (iadd x3 (x2.bytes.length : Int))), (vI 0)]) build_174 z z) (E0 (fs (cur' := [(vI (iadd x3 (x2.bytes.length : Int))), (vI 0)]) z_174 z z (h17.ext s16) z (lb z) (oA z) z) ?_))))))))
  rintro _ w2q ⟨h22, s23⟩
  refine Wn ?_
  obtain rfl := som hm21
  exact Wr (ret1 hr (resC g_174 z_174 z h22 z) ⟨(bM (bup (bup h10 h12) s16) s23.one (mem1le h10.size)), z, (iA _ _), (ii z)⟩)
 rintro r2r ex2s a2t w2u rfl ⟨rfl, hq24⟩
 have hm25 := elR hm1e
 obtain rfl := som hm25
 exact ⟨hq24, z⟩
def Q_impl_checker_value (w0 : World) (g1 : Nat) (B : Nat) (pa1_0 : Option Addr) (pn1_0 pc1_0 : Nat) (pa1_1 : Option Addr) (pn1_1 pc1_1 : Nat) (x1 : Checker) (r : Spot × Int) (v : Value) (w' : World) : Prop := Chg (· ∈ [g1]) w0 w' ∧ un2 (fun r1 r2 => (.agg #[vI r1.at_, vI r1.code]) = v ∧ inI r1.at_ ∧ inI r1.code ∧ inI r2 ∧ Blk w' g1 [(.slice pa1_0 pn1_0 pc1_0), (.slice pa1_1 pn1_1 pc1_1), vI r2]) r
def Q_impl_checker_array (w0 : World) (g1 : Nat) (B : Nat) (pa1_0 : Option Addr) (pn1_0 pc1_0 : Nat) (pa1_1 : Option Addr) (pn1_1 pc1_1 : Nat) (x1 : Checker) (r : Spot × Int) (v : Value) (w' : World) : Prop := Chg (· ∈ [g1]) w0 w' ∧ un2 (fun r1 r2 => (.agg #[vI r1.at_, vI r1.code]) = v ∧ inI r1.at_ ∧ inI r1.code ∧ inI r2 ∧ Blk w' g1 [(.slice pa1_0 pn1_0 pc1_0), (.slice pa1_1 pn1_1 pc1_1), vI r2]) r
def Q_impl_checker_choice (w0 : World) (g1 : Nat) (B : Nat) (pa1_0 : Option Addr) (pn1_0 pc1_0 : Nat) (pa1_1 : Option Addr) (pn1_1 pc1_1 : Nat) (x1 : Checker) (r : Spot × Int) (v : Value) (w' : World) : Prop := Chg (· ∈ [g1]) w0 w' ∧ un2 (fun r1 r2 => (.agg #[vI r1.at_, vI r1.code]) = v ∧ inI r1.at_ ∧ inI r1.code ∧ inI r2 ∧ Blk w' g1 [(.slice pa1_0 pn1_0 pc1_0), (.slice pa1_1 pn1_1 pc1_1), vI r2]) r
def Q_impl_checker_option (w0 : World) (g1 : Nat) (B : Nat) (pa1_0 : Option Addr) (pn1_0 pc1_0 : Nat) (pa1_1 : Option Addr) (pn1_1 pc1_1 : Nat) (x1 : Checker) (r : Spot × Int) (v : Value) (w' : World) : Prop := Chg (· ∈ [g1]) w0 w' ∧ un2 (fun r1 r2 => (.agg #[vI r1.at_, vI r1.code]) = v ∧ inI r1.at_ ∧ inI r1.code ∧ inI r2 ∧ Blk w' g1 [(.slice pa1_0 pn1_0 pc1_0), (.slice pa1_1 pn1_1 pc1_1), vI r2]) r
def Q_impl_checker_checked (w0 : World) (g1 : Nat) (B : Nat) (pa1_0 : Option Addr) (pn1_0 pc1_0 : Nat) (pa1_1 : Option Addr) (pn1_1 pc1_1 : Nat) (x1 : Checker) (r : Spot × Int) (v : Value) (w' : World) : Prop := Chg (· ∈ [g1]) w0 w' ∧ un2 (fun r1 r2 => (.agg #[vI r1.at_, vI r1.code]) = v ∧ inI r1.at_ ∧ inI r1.code ∧ inI r2 ∧ Blk w' g1 [(.slice pa1_0 pn1_0 pc1_0), (.slice pa1_1 pn1_1 pc1_1), vI r2]) r
structure S_impl_checker_value (f : Checker → Int → Int → Option (Spot × Int)) : Prop where
  run : ∀ {B pn1_0 pc1_0 pn1_1 pc1_1 g1 : Nat} {pa1_0 pa1_1 : Option Addr} {x1 : Checker} {x2 : Int} {x3 : Int} {res : Spot × Int} {w0 : World} (hm : f x1 x2 x3 = some res) (hB1 : Blk w0 g1 [(.slice pa1_0 pn1_0 pc1_0), (.slice pa1_1 pn1_1 pc1_1), (vI x1.applied)]) (hBw : B ≤ g1) (p1_0 : repS w0 B (.slice pa1_0 pn1_0 pc1_0) x1.d.rules) (p1_1 : repS w0 B (.slice pa1_1 pn1_1 pc1_1) x1.b) (p1_2 : inI x1.applied) (p2_0 : inI x2) (p3_0 : inI x3), CallsR prog 134 [(.pointer (some ⟨g1, 0, none⟩)), (vI x2), (vI x3)] w0 (Q_impl_checker_value w0 g1 B pa1_0 pn1_0 pc1_0 pa1_1 pn1_1 pc1_1 x1 res)
end Go.Vw

