import Derived.Test.YtpbfnngknnpgoaaGreatDoorVwTW3
set_option linter.unusedVariables false
namespace Go.Vw
open Go.RowKit Dat Go.Proofs
open Go.Proofs.Tryz
open Go.Vw renaming WC_seq → Wq, WC_region → Wg, WC.of_KC → Wo, WL_nil → Wl, WC_cond → Wc, WC_ret → Wr, WC_run → Wu, rd_pickT → pT, rd_pickF → pF, rd_field → fd, rd_load1 → l1, rd_loadN → lN, rd_move → mv, rd_assign → asg, rd_lenR → lnR, rd_lss → lss, rd_eql → eql, rd_extract → ext_, rd_buildP → bP, rd_add → add_, rd_inc → inc_, rd_not → not_, rd_at → at_, ef_call → fc, ef_store → fs, ef_box → fb, ef_alloc → fa, sub_refl → sr, crefl → cr, cchgM → cM, bchgM → bM, inI_sub → iS, inI_add → iA, brefl → br, oneAll → oA, bsplit → bs, ltge → lg, inor → io, rd_neq → nq, rd_lenT → lnT, rd_sub → sb_
variable {pa1_0 : Option Addr} {pn1_0 pc1_0 : Nat} {B : Nat} {w0 : World} {pa1_4 : Option Addr} {pa1_5 : Option Addr} {pa1_6 : Option Addr} {pa1_7 : Option Addr} {pn1_4 pc1_4 : Nat} {pn1_5 pc1_5 : Nat} {pn1_6 pc1_6 : Nat} {pn1_7 pc1_7 : Nat} {pa4_0 : Option Addr} {pn4_0 pc4_0 : Nat} {pa2_4 : Option Addr} {pa2_5 : Option Addr} {pa2_6 : Option Addr} {pa2_7 : Option Addr} {pn2_4 pc2_4 : Nat} {pn2_5 pc2_5 : Nat} {pn2_6 pc2_6 : Nat} {pn2_7 pc2_7 : Nat} {pa3_0 : Option Addr} {pn3_0 pc3_0 : Nat} {pa2_0 : Option Addr} {pn2_0 pc2_0 : Nat} {n : Nat} {pa5_0 : Option Addr} {pn5_0 pc5_0 : Nat} {pa6_0 : Option Addr} {pn6_0 pc6_0 : Nat} {pa1_1 : Option Addr} {pn1_1 pc1_1 : Nat} {pa2_1 : Option Addr} {pa2_2 : Option Addr} {pn2_1 pc2_1 : Nat} {pn2_2 pc2_2 : Nat} {pa3_1 : Option Addr} {pa3_2 : Option Addr} {pn3_1 pc3_1 : Nat} {pn3_2 pc3_2 : Nat} {pa1_2 : Option Addr} {pa4_1 : Option Addr} {pa4_2 : Option Addr} {pn1_2 pc1_2 : Nat} {pn4_1 pc4_1 : Nat} {pn4_2 pc4_2 : Nat}
theorem W_laws_FnExactUpdateIndex {x1 : Desc} {x2 : List Entry} {x3 : List UInt8} {x4 : Int} {x5 : Int} {x6 : List UInt8} {res : Bool} (hm : M_laws_FnExactUpdateIndex n x1 x2 x3 x4 x5 x6 = some res) (hBw : B ≤ w0.heap.size) (hG : Gl w0 B) (p1_0 : repS w0 B (.slice pa1_0 pn1_0 pc1_0) x1.rules) (p2_0 : repS w0 B (.slice pa2_0 pn2_0 pc2_0) x2) (p3_0 : repS w0 B (.slice pa3_0 pn3_0 pc3_0) x3) (p4_0 : inI x4) (p5_0 : inI x5) (p6_0 : repS w0 B (.slice pa6_0 pn6_0 pc6_0) x6) : CallsR prog 3 [(.agg #[(.slice pa1_0 pn1_0 pc1_0)]), (.slice pa2_0 pn2_0 pc2_0), (.slice pa3_0 pn3_0 pc3_0), (vI x4), (vI x5), (.slice pa6_0 pn6_0 pc6_0)] w0 (Q_laws_FnExactUpdateIndex w0 B res) := by
 unfold M_laws_FnExactUpdateIndex at hm
 obtain ⟨fn, hf, hb, hN, hr⟩ := fnE func3
 refine goW hf (hb.trans z) (hN.trans z) (lb z) (Ws (E z (fb z) ?_))
 rintro _ w7l ⟨rfl, h4i⟩
 have h1o := h4i.below
 have h2l : Blk w7l w0.heap.size [(.slice pa1_0 pn1_0 pc1_0)] := h4i.blk
 refine Ra z (Wn (Wq (Ws (Rm z ?_))))
 have h4j := p3_0.ext h1o
 refine R z (lnR d_26 z h4j) (R z (rd_gtr z z) (Wn (Wc z (fun hc3g => ?_) (fun hc3g => ?_))))
 ·refine Ws (Ra z (Wn ?_))
  obtain rfl := som (ifT hm hc3g)
  exact Wr (ret1 hr z ⟨h1o, z⟩)
 have hm4k := ifF hm hc3g
 refine Wk (Wq (Ws (Rm z ?_)))
 have h4l := p6_0.ext h1o
 refine R z (lnR d_26 z h4l) (R z (rd_gtr z z) (Wn (Wc z (fun hc3h => ?_) (fun hc3h => ?_))))
 ·refine Ws (Ra z (Wn ?_))
  obtain rfl := som (ifT hm4k hc3h)
  exact Wr (ret1 hr z ⟨h1o, z⟩)
 refine Wk (Ws (Ra z (Wn (Ws (R z (lN (vs := [(.slice pa1_0 pn1_0 pc1_0)]) g_24 z_24 z z fid (h2l.row 0 1 z)) (Rm z ?_))))))
 have h4m := p1_0.ext h1o
 obtain ⟨r12d, e7m, hm4n⟩ := bdS (ifF hm4k hc3h)
 refine E z (fc call4 z (W_laws_szDescription (B := B) e7m (lt_ hBw h1o.size) h4m (ii z))) ?_
 rintro _ w12e ⟨s1p, rfl, h7n⟩
 refine Ra z (Wn (Wq (Ws (Rm z (R z (lss z z) (Wn (Wc z (fun hc3i => ?_) (fun hc3i => ?_))))))))
 ·refine Ws (Ra z (Wn ?_))
  obtain rfl := som (ifT hm4n hc3i)
  exact Wr (ret1 hr z ⟨(bup h1o s1p), z⟩)
 refine Wk (Ws (Rm z (Rm z ?_)))
 have h4o := (p2_0.ext h1o).ext s1p
 have h4p := lt_ h1o.size s1p.size
 obtain ⟨r12f, e7o, hm4q⟩ := bdS (ifF hm4n hc3i)
 refine E z (fc call5 z (W_laws_szEntryS (B := B) e7o (lt_ hBw h4p) h4o h7n)) ?_
 rintro _ w12g ⟨s1r, rfl, h12h⟩
 refine Ra z (Wn (Wq (Ws (Rm z (R z (lss z z) (Wn (Wc z (fun hc3j => ?_) (fun hc3j => ?_))))))))
 ·refine Ws (Ra z (Wn ?_))
  obtain rfl := som (ifT hm4q hc3j)
  exact Wr (ret1 hr z ⟨(bup (bup h1o s1p) s1r), z⟩)
 refine Wk (Ws ?_)
 have h4r := (h2l.ext s1p).ext s1r
 refine R z (lN (vs := [(.slice pa1_0 pn1_0 pc1_0)]) g_24 z_24 z z fid (h4r.row 0 1 z)) ?_
 have h4s := (h4m.ext s1p).ext s1r
 have h4t := lt_ h4p s1r.size
 obtain ⟨r12i, e7p, hm7q⟩ := bdS (ifF hm4q hc3j)
 refine E z (fc call7 z (W_laws_toDescription (B := B) e7p (lt_ hBw h4t) h4s)) ?_
 rintro _ w12j ⟨s1t, a12k, n12l, c12m, S12n, rfl, h4u, h12o, h12p⟩
 refine Rm z ?_
 have h4v := (h4o.ext s1r).ext s1t
 have h4w := lt_ h4t s1t.size
 obtain ⟨r12q, e7r, hm7s⟩ := bdS hm7q
 refine E z (fc call8 z (W_laws_toEntryS (B := B) e7r (lt_ hBw h4w) h4v)) ?_
 rintro _ w12r ⟨s1q, a12s, n12t, c12u, S12v, rfl, h4x, h12w, h12x⟩
 refine Rm z ?_
 have h4y := (((h4j.ext s1p).ext s1r).ext s1t).ext s1q
 have h4z := lt_ h4w s1q.size
 obtain ⟨r12y, e7t, hm7u⟩ := bdS hm7s
 refine E z (fc call9 z (W_laws_toByteS (B := B) e7t (lt_ hBw h4z) h4y)) ?_
 rintro _ w12z ⟨s1n, a130, n131, c132, S133, rfl, h50, h134, h135⟩
 refine Rm z (Rm z (Rm z ?_))
 have h51 := ((((h4l.ext s1p).ext s1r).ext s1t).ext s1q).ext s1n
 have h52 := lt_ h4z s1n.size
 obtain ⟨r136, e7v, hm7w⟩ := bdS hm7u
 refine E z (fc call9 z (W_laws_toByteS (B := B) e7v (lt_ hBw h52) h51)) ?_
 rintro _ w7x ⟨s1k, a137, n138, c139, S13a, rfl, h7y, h13b, h13c⟩
 obtain ⟨r13d, r13e, r37, e7z, hm80⟩ := bd3S hm7w
 refine E z (fc call6 z (W_spec_UpdateIndex (B := w7x.heap.size) e7z lr (repS.mono (ownS_rep (((h4u.ext s1q).ext s1n).ext s1k) (ownS.lt h4u)) (lt_ (lt_ s1q.size s1n.size) s1k.size)) (repS.mono (ownS_rep ((h4x.ext s1n).ext s1k) (ownS.lt h4x)) (lt_ s1n.size s1k.size)) (repS.mono (ownS_rep (h50.ext s1k) (ownS.lt h50)) s1k.size) p4_0 p5_0 (ownS.rep h7y))) ?_
 rintro _ w13f ⟨s1u, a53, n54, c55, S13g, a56, n57, c58, S13h, rfl, h1z, h20, h13i, h13j⟩
 refine Rm z ?_
 iterate 3 refine R z (ext_ z z) ?_
 refine Ra z (Ra z (Ra z (Wn (Ws ?_))))
 have h59 := ((((h4r.ext s1t).ext s1q).ext s1n).ext s1k).ext s1u
 refine R z (lN (vs := [(.slice pa1_0 pn1_0 pc1_0)]) g_24 z_24 z z fid (h59.row 0 1 z)) ?_
 have h5a := ((((h4s.ext s1t).ext s1q).ext s1n).ext s1k).ext s1u
 have h2c := lt_ (lt_ h52 s1k.size) s1u.size
 have h5b := lt_ hBw h2c
 obtain ⟨r13k, e81, hm82⟩ := bdS hm80
 refine E z (fc call7 z (W_laws_toDescription (B := B) e81 h5b h5a)) ?_
 rintro _ w5c ⟨s18, a3a, n3b, c3c, S13l, rfl, h2d, h83, h2a⟩
 refine E z (fa zero_34) ?_
 rintro _ w84 ⟨rfl, h5d⟩
 have h1f := h5d.below
 have h85 : Blk w84 w5c.heap.size [(.slice none 0 0)] := h5d.blk
 refine E0 (fs (cur' := [(.slice a3a n3b c3c)]) z_34 z z h85 z (lb z) (oA z) z) ?_
 rintro _ w13m ⟨h86, s87⟩
 have h1g := s87.one
 refine Wn (Ws (Rm z ?_))
 have h28 := lt_ h2c s18.size
 have h38 := mem1le (lt_ hBw h28)
 have h5e := ((((((h4v.ext s1q).ext s1n).ext s1k).ext s1u).ext s18).ext h1f).chg h1g (lg h38)
 have h2e := lt_ (lt_ h28 h1f.size) h1g.size
 have h5f := lt_ hBw h2e
 obtain ⟨r13n, e88, hm89⟩ := bdS hm82
 refine E z (fc call8 z (W_laws_toEntryS (B := B) e88 h5f h5e)) ?_
 rintro _ w13o ⟨s1d, a8a, n8b, c8c, S13p, rfl, h2m, h8d, h29⟩
 refine Ra z (Wn (Ws (Rm z ?_)))
 have h5g := ((((((h4y.ext s1n).ext s1k).ext s1u).ext s18).ext h1f).chg h1g (lg h38)).ext s1d
 have h2f := lt_ h2e s1d.size
 have h5h := lt_ hBw h2f
 obtain ⟨r13q, e8e, hm8f⟩ := bdS hm89
 refine E z (fc call9 z (W_laws_toByteS (B := B) e8e h5h h5g)) ?_
 rintro _ w13r ⟨s19, a8g, n8h, c8i, S13s, rfl, h2r, h8j, h26⟩
 refine Ra z (Wn (Ws (Rm z ?_)))
 have h5i := ((((((h51.ext s1k).ext s1u).ext s18).ext h1f).chg h1g (lg h38)).ext s1d).ext s19
 have h2g := lt_ h2f s19.size
 have h5j := lt_ hBw h2g
 obtain ⟨r13t, e8k, hm8l⟩ := bdS hm8f
 refine E z (fc call9 z (W_laws_toByteS (B := B) e8k h5j h5i)) ?_
 rintro _ w8m ⟨s10, a8n, n8o, c8p, S13u, rfl, h2s, h8q, h23⟩
 refine Ra z (Wn (Ws ?_))
 have h5k := ((h86.ext s1d).ext s19).ext s10
 refine R z (lN (vs := [(.slice a3a n3b c3c)]) g_34 z_34 z z fid (h5k.row 0 1 z)) (Rm z (Rm z (Rm z (Rm z (Rm z ?_)))))
 have h5l := ((((h2d.ext h1f).chg h1g (dj_symm (mnr (ownS.lt h2d)))).ext s1d).ext s19).ext s10
 have h5m := (h2m.ext s19).ext s10
 have h5n := h2r.ext s10
 have h5o := lt_ h1f.size h1g.size
 have h5p := lt_ h5o s1d.size
 have h5q := lt_ h5p s19.size
 have h2t := lt_ h5q s10.size
 have h2u := lt_ s19.size s10.size
 have h5r := (((((((((((((hG.ext h1o).ext s1p).ext s1r).ext s1t).ext s1q).ext s1n).ext s1k).ext s1u).ext s18).ext h1f).chg h1g (lg h38)).ext s1d).ext s19).ext s10
 have h24 := lt_ h2g s10.size
 have h3k := lt_ hBw h24
 obtain ⟨r13v, r13w, r3l, e8r, hm8s⟩ := bd3S hm8l
 refine E z (fc call10 z (W_impl_UpdateIndex (B := w8m.heap.size) e8r lr (h5r.mono h3k) (repS.mono (ownS_rep h5l (ownS.lt h2d)) h2t) (repS.mono (ownS_rep h5m (ownS.lt h2m)) h2u) (repS.mono (ownS_rep h5n (ownS.lt h2r)) s10.size) p4_0 p5_0 (ownS.rep h2s))) ?_
 rintro _ w2v ⟨s15, a3m, n3n, c3o, S13x, a3p, n3q, c3r, S13y, rfl, h3d, h2w, h3e, h12⟩
 refine Rm z ?_
 iterate 3 refine R z (ext_ z z) ?_
 refine Ra z (Ra z (Ra z (Wn (Wq (Wq ?_)))))
 obtain ⟨u8t, hu8u, hm5s⟩ := bdS hm8s
 refine WC_cut (fun a w => ∃ (x3s : Bool), x3s = u8t ∧ Sat 208 [(1, (.slice pa2_0 pn2_0 pc2_0)), (2, (.slice pa3_0 pn3_0 pc3_0)), (3, (vI x4)), (4, (vI x5)), (5, (.slice pa6_0 pn6_0 pc6_0)), (6, (.pointer (some ⟨w0.heap.size, 0, none⟩))), (14, (.slice a53 n54 c55)), (15, (.slice a56 n57 c58)), (16, (vB r37)), (17, (.pointer (some ⟨w5c.heap.size, 0, none⟩))), (18, (.slice a8a n8b c8c)), (19, (.slice a8g n8h c8i)), (20, (.slice a8n n8o c8p)), (21, (.slice a3m n3n c3o)), (22, (.slice a3p n3q c3r)), (23, (vB r3l)), (94, (vB x3s))] a ∧ Below w2v.heap.size w2v w) ?_ ?_
 ·refine Wg (Rm z (Rm z ?_))
  have h5t := lt_ (lt_ (lt_ (lt_ (lt_ (lt_ s18.size h1f.size) h1g.size) s1d.size) s19.size) s10.size) s15.size
  obtain ⟨r8v, e8w, hm5u⟩ := bdS hu8u
  refine E z (fc call11 z (W_laws_eqByteS (B := w2v.heap.size) e8w lr (ownS.rep h3d) (repS.mono (ownS_rep (((((((h1z.ext s18).ext h1f).chg h1g (dj_symm (mno (ownS.lt h1z) s18.size))).ext s1d).ext s19).ext s10).ext s15) (ownS.lt h1z)) h5t))) ?_
  rintro _ w13z ⟨s2x, rfl⟩
  refine R z (not_ z) (Rm z ?_)
  rcases bs (!r8v) with hc2h | hc2h
  ·iterate 4 refine Nh z hc2h ?_
   exact R z (pT z hc2h z) (Rm z (Nh z z (Nh z z (Nh z z (R z (pT z z z) (Wl (fun _ q => ⟨true, som (ifT hm5u hc2h), (q.k (sc z (sc z (sc z (sc z (sc z (sc z (sc z (sc z (sc z (sc z (sc z (sc z (sc z (sc z (sc z (sc z (sc z sn)))))))))))))))))), s2x⟩)))))))
  refine Rh z hc2h (mv z) (Rh z hc2h (mv z) ?_)
  obtain ⟨r8x, e8y, hm5v⟩ := bdS (ifF hm5u hc2h)
  refine Eg z z hc2h z (fc call12 z (W_laws_eqEntryS (B := w2v.heap.size) e8y s2x.size (ownS_rep (h2w.ext s2x) (ownS.lt h2w)) (repS.mono (ownS_rep ((((((((h20.ext s18).ext h1f).chg h1g (dj_symm (mno (ownS.lt h20) s18.size))).ext s1d).ext s19).ext s10).ext s15).ext s2x) (ownS.lt h20)) h5t))) ?_
  rintro _ w140 ⟨s5w, rfl⟩
  refine Rh z hc2h (not_ z) (R z (pF z hc2h z) (Rm z ?_))
  rcases bs (!r8x) with hc2n | hc2n
  ·iterate 3 refine Nh z hc2n ?_
   exact R z (pT z hc2n z) (Wl (fun _ q => ⟨true, som (ifT hm5v hc2n), (q.k (sc z (sc z (sc z (sc z (sc z (sc z (sc z (sc z (sc z (sc z (sc z (sc z (sc z (sc z (sc z (sc z (sc z sn)))))))))))))))))), (bup s2x s5w)⟩))
  exact Rh z hc2n (mv z) (Rh z hc2n (mv z) (Rh z hc2n (rd_neqB d_4 z z) (R z (pF z hc2n z) (Wl (fun _ q => ⟨r3l != r37, som (ifF hm5v hc2n), (q.k (sc z (sc z (sc z (sc z (sc z (sc z (sc z (sc z (sc z (sc z (sc z (sc z (sc z (sc z (sc z (sc z (sc z sn)))))))))))))))))), (bup s2x s5w)⟩)))))
 rintro a8z w141 ⟨x3s, rfl, hS142, s11⟩
 revert a8z
 refine Wo (Wc z (fun hc3t => ?_) (fun hc3t => ?_))
 ·refine Ws (Ra z (Wn ?_))
  obtain rfl := som (ifT hm5s hc3t)
  exact Wr (ret1 hr z ⟨(bup (bup (bup (bup (bup (bM (bup (bup (bup (bup (bup (bup (bup (bup (bup h1o s1p) s1r) s1t) s1q) s1n) s1k) s1u) s18) h1f) h1g (mem1le h28)) s1d) s19) s10) s15) s11), z⟩)
 refine Wk (Wq (Wq (WC_draw (X := noX) 0 (.rd 0 (.rd 1 (.ef 2 (.ef 3 (.rd 4 .done))))) mo (by kernel_rfl) fun w143 s13 _ => ?_)))
 have h5x := ((h5k.ext s15).ext s11).ext s13
 refine dR z z (lN (vs := [(.slice a3a n3b c3c)]) g_34 z_34 z z fid (h5x.row 0 1 z)) ?_
 have h5y := lt_ (lt_ (lt_ (lt_ (lt_ (lt_ s1p.size s1r.size) s1t.size) s1q.size) s1n.size) s1k.size) s1u.size
 have h5z := lt_ h5y s18.size
 have h60 := ((((((((h59.ext s18).ext h1f).chg h1g (djs (mm1 h2l.lt h5z))).ext s1d).ext s19).ext s10).ext s15).ext s11).ext s13
 refine dR z z (lN (vs := [(.slice pa1_0 pn1_0 pc1_0)]) g_24 z_24 z z fid (h60.row 0 1 z)) ?_
 have h61 := ((((((((h5a.ext s18).ext h1f).chg h1g (lg h38)).ext s1d).ext s19).ext s10).ext s15).ext s11).ext s13
 have h62 := lt_ (lt_ (lt_ h24 s15.size) s11.size) s13.size
 obtain ⟨r144, e90, hm91⟩ := bdS (ifF hm5s hc3t)
 refine dE z z (fc call7 z (W_laws_toDescription (B := B) e90 (lt_ hBw h62) h61)) (.inr fun _ _ h => chgB (h.1)) ?_
 rintro _ w92 ⟨s14, a145, n146, c147, S148, rfl, h93, h149, h14a⟩
 have h63 := (((h5l.ext s15).ext s11).ext s13).ext s14
 obtain ⟨r14b, e94, hm64⟩ := bdS hm91
 refine dE z z (fc call13 z (W_laws_eqDescription (B := w92.heap.size) e94 lr (repS.mono (ownS_rep h63 (ownS.lt h2d)) (lt_ (lt_ (lt_ (lt_ h2t s15.size) s11.size) s13.size) s14.size)) (ownS.rep h93))) (.inr fun _ _ h => chgB (h.1)) ?_
 rintro _ w14c ⟨s16, rfl⟩
 refine dR z z (not_ z) (PR_done (Wo (Wc z (fun hc3u => ?_) (fun hc3u => ?_))))
 ·refine Ws (Ra z (Wn ?_))
  obtain rfl := som (ifT hm64 hc3u)
  have h95 := bup (bup (bup (bup (bup (bup (bup (bM (bup (bup (bup (bup (bup (bup (bup (bup (bup h1o s1p) s1r) s1t) s1q) s1n) s1k) s1u) s18) h1f) h1g (mem1le h28)) s1d) s19) s10) s15) s11) s13) s14
  exact Wr (ret1 hr z ⟨(bup h95 s16), z⟩)
 refine Wk (Wq (Ws (Rm z (Rm z ?_))))
 have h65 := (((((((h5e.ext s1d).ext s19).ext s10).ext s15).ext s11).ext s13).ext s14).ext s16
 have h66 := lt_ (lt_ h62 s14.size) s16.size
 obtain ⟨r14d, e96, hm97⟩ := bdS (ifF hm64 hc3u)
 refine E z (fc call8 z (W_laws_toEntryS (B := B) e96 (lt_ hBw h66) h65)) ?_
 rintro _ w98 ⟨s17, a14e, n14f, c14g, S14h, rfl, h99, h14i, h14j⟩
 have h67 := (((((h5m.ext s15).ext s11).ext s13).ext s14).ext s16).ext s17
 obtain ⟨r14k, e9a, hm68⟩ := bdS hm97
 refine E z (fc call12 z (W_laws_eqEntryS (B := w98.heap.size) e9a lr (repS.mono (ownS_rep h67 (ownS.lt h2m)) (lt_ (lt_ (lt_ (lt_ (lt_ (lt_ h2u s15.size) s11.size) s13.size) s14.size) s16.size) s17.size)) (ownS.rep h99))) ?_
 rintro _ w14l ⟨s1a, rfl⟩
 refine R z (not_ z) (Wn (Wc z (fun hc3v => ?_) (fun hc3v => ?_)))
 ·refine Ws (Ra z (Wn ?_))
  obtain rfl := som (ifT hm68 hc3v)
  have h9b := bup (bup (bup (bup (bup (bup (bup (bM (bup (bup (bup (bup (bup (bup (bup (bup (bup h1o s1p) s1r) s1t) s1q) s1n) s1k) s1u) s18) h1f) h1g (mem1le h28)) s1d) s19) s10) s15) s11) s13) s14
  exact Wr (ret1 hr z ⟨(bup (bup (bup h9b s16) s17) s1a), z⟩)
 refine Wk (Wq (Ws (Rm z (Rm z ?_))))
 have h69 := ((((((((h5g.ext s19).ext s10).ext s15).ext s11).ext s13).ext s14).ext s16).ext s17).ext s1a
 have h6a := lt_ (lt_ h66 s17.size) s1a.size
 obtain ⟨r14m, e9c, hm9d⟩ := bdS (ifF hm68 hc3v)
 refine E z (fc call9 z (W_laws_toByteS (B := B) e9c (lt_ hBw h6a) h69)) ?_
 rintro _ w9e ⟨s1b, a14n, n14o, c14p, S14q, rfl, h9f, h14r, h14s⟩
 have h6b := (((((((h5n.ext s15).ext s11).ext s13).ext s14).ext s16).ext s17).ext s1a).ext s1b
 obtain ⟨r14t, e9g, hm6c⟩ := bdS hm9d
 refine E z (fc call11 z (W_laws_eqByteS (B := w9e.heap.size) e9g lr (repS.mono (ownS_rep h6b (ownS.lt h2r)) (lt_ (lt_ (lt_ (lt_ (lt_ (lt_ (lt_ (lt_ s10.size s15.size) s11.size) s13.size) s14.size) s16.size) s17.size) s1a.size) s1b.size)) (ownS.rep h9f))) ?_
 rintro _ w14u ⟨s1c, rfl⟩
 refine R z (not_ z) (Wn (Wc z (fun hc3w => ?_) (fun hc3w => ?_)))
 ·refine Ws (Ra z (Wn ?_))
  obtain rfl := som (ifT hm6c hc3w)
  have h9h := bup (bup (bup (bup (bup (bup (bup (bM (bup (bup (bup (bup (bup (bup (bup (bup (bup h1o s1p) s1r) s1t) s1q) s1n) s1k) s1u) s18) h1f) h1g (mem1le h28)) s1d) s19) s10) s15) s11) s13) s14
  exact Wr (ret1 hr z ⟨(bup (bup (bup (bup (bup h9h s16) s17) s1a) s1b) s1c), z⟩)
 refine Wk (Wq (Ws (Rm z (Rm z ?_))))
 have h6d := (((((((((h5i.ext s10).ext s15).ext s11).ext s13).ext s14).ext s16).ext s17).ext s1a).ext s1b).ext s1c
 have h6e := lt_ (lt_ h6a s1b.size) s1c.size
 obtain ⟨r14v, e9i, hm9j⟩ := bdS (ifF hm6c hc3w)
 refine E z (fc call9 z (W_laws_toByteS (B := B) e9i (lt_ hBw h6e) h6d)) ?_
 rintro _ w9k ⟨s1e, a14w, n14x, c14y, S14z, rfl, h9l, h150, h151⟩
 have h6f := (((((((((h2s.ext s15).ext s11).ext s13).ext s14).ext s16).ext s17).ext s1a).ext s1b).ext s1c).ext s1e
 obtain ⟨r152, e9m, hm6g⟩ := bdS hm9j
 refine E z (fc call11 z (W_laws_eqByteS (B := w9k.heap.size) e9m lr (repS.mono (ownS_rep h6f (ownS.lt h2s)) (lt_ (lt_ (lt_ (lt_ (lt_ (lt_ (lt_ (lt_ (lt_ s15.size s11.size) s13.size) s14.size) s16.size) s17.size) s1a.size) s1b.size) s1c.size) s1e.size)) (ownS.rep h9l))) ?_
 rintro _ w153 ⟨s1h, rfl⟩
 refine R z (not_ z) (Wn (Wc z (fun hc3x => ?_) (fun hc3x => ?_)))
 ·refine Ws (Ra z (Wn ?_))
  obtain rfl := som (ifT hm6g hc3x)
  have h9n := bup (bup (bup (bup (bup (bup (bup (bM (bup (bup (bup (bup (bup (bup (bup (bup (bup h1o s1p) s1r) s1t) s1q) s1n) s1k) s1u) s18) h1f) h1g (mem1le h28)) s1d) s19) s10) s15) s11) s13) s14
  exact Wr (ret1 hr z ⟨(bup (bup (bup (bup (bup (bup (bup h9n s16) s17) s1a) s1b) s1c) s1e) s1h), z⟩)
 refine Wk (Ws (Ra z (Wn (Ws (R z (lN (vs := [(.slice a3a n3b c3c)]) g_34 z_34 z z fid (((((((((h5x.ext s14).ext s16).ext s17).ext s1a).ext s1b).ext s1c).ext s1e).ext s1h).row 0 1 z)) (Rm z ?_))))))
 have h2y := o0le h2a h5b
 have h6h := lt_ (lt_ h6e s1e.size) s1h.size
 obtain ⟨r154, r155, e9o, hm9p⟩ := bd2S (ifF hm6g hc3x)
 refine E z (fc call14 z (W_laws_markDescription (B := B) e9o (lt_ hBw h6h) (((((((h63.ext s16).ext s17).ext s1a).ext s1b).ext s1c).ext s1e).ext s1h) h83 h2y (ii z))) ?_
 rintro _ w156 ⟨s1i, S157, rfl, h9q, h158, h159, h15a⟩
 refine Ra z (Wn (Ws (Rm z (Rm z ?_))))
 have h2z := o0le h29 h5f
 have h6i := lt_ h6h s1i.size
 obtain ⟨r15b, r15c, e9r, hm9s⟩ := bd2S hm9p
 refine E z (fc call15 z (W_laws_markEntryS (B := B) e9r (lt_ hBw h6i) ((((((h67.ext s1a).ext s1b).ext s1c).ext s1e).ext s1h).chg s1i (o0no h29 (ownS.lt h2d) h5o)) h8d h2z h9q)) ?_
 rintro _ w15d ⟨s1j, S15e, rfl, h9t, h15f, h15g, h15h⟩
 refine Ra z (Wn (Ws (Rm z (Rm z ?_))))
 have h30 := o0le h26 h5h
 have h6j := lt_ h6i s1j.size
 obtain ⟨r15i, r15j, e9u, hm9v⟩ := bd2S hm9s
 refine E z (fc call16 z (W_laws_markByteS (B := B) e9u (lt_ hBw h6j) (((((h6b.ext s1c).ext s1e).ext s1h).chg s1i (o0no h26 (ownS.lt h2d) h5p)).chg s1j (o0no h26 (ownS.lt h2m) lr)) h8j h30 h9t)) ?_
 rintro _ w15k ⟨s1l, S15l, rfl, h9w, h15m, h15n, h15o⟩
 refine Ra z (Wn (Ws (Rm z (Rm z ?_))))
 have h31 := o0le h23 h5j
 have h6k := lt_ h6j s1l.size
 obtain ⟨r9x, r15p, e9y, hm9z⟩ := bd2S hm9v
 refine E z (fc call16 z (W_laws_markByteS (B := B) e9y (lt_ hBw h6k) ((((h6f.ext s1h).chg s1i (o0no h23 (ownS.lt h2d) h5q)).chg s1j (o0no h23 (ownS.lt h2m) s19.size)).chg s1l (o0no h23 (ownS.lt h2r) lr)) h8q h31 h9w)) ?_
 rintro _ w3y ⟨s1m, S15q, rfl, h15r, h15s, h15t, h15u⟩
 refine Ra z (Wn (Wq (Wq ?_)))
 obtain ⟨u100, hu6l, hm6m⟩ := bdS hm9z
 refine WC_cut (fun a w => ∃ (x3z : Bool), x3z = u100 ∧ Sat 208 [(1, (.slice pa2_0 pn2_0 pc2_0)), (2, (.slice pa3_0 pn3_0 pc3_0)), (3, (vI x4)), (4, (vI x5)), (5, (.slice pa6_0 pn6_0 pc6_0)), (6, (.pointer (some ⟨w0.heap.size, 0, none⟩))), (14, (.slice a53 n54 c55)), (15, (.slice a56 n57 c58)), (16, (vB r37)), (21, (.slice a3m n3n c3o)), (22, (.slice a3p n3q c3r)), (145, (vB x3z))] a ∧ Below w3y.heap.size w3y w) ?_ ?_
 ·refine Wg (Rm z (R z (lss z z) (Rm z ?_)))
  rcases bs (decide (r9x < 0)) with hc2i | hc2i
  ·iterate 4 refine Nh z hc2i ?_
   exact R z (pT z hc2i z) (Rm z (Nh z z (Nh z z (Nh z z (Nh z z (R z (pT z z z) (Rm z (Nh z z (Nh z z (Nh z z (R z (pT z z z) (Wl (fun _ q => ⟨true, som (ifT hu6l hc2i), (q.k (sc z (sc z (sc z (sc z (sc z (sc z (sc z (sc z (sc z (sc z (sc z (sc z sn))))))))))))), (br w3y)⟩)))))))))))))
  refine Rh z hc2i (mv z) (Rh z hc2i (mv z) ?_)
  have h101 := (((((((((((h3d.ext s11).ext s13).ext s14).ext s16).ext s17).ext s1a).ext s1b).ext s1c).ext s1e).ext s1h).chg s1i (o0no (all_left h12) (ownS.lt h2d) h2t)).chg s1j (o0no (all_left h12) (ownS.lt h2m) h2u)
  have h102 := ((((((((((((((h1z.ext s18).ext h1f).chg h1g (dj_symm (mno (ownS.lt h1z) s18.size))).ext s1d).ext s19).ext s10).ext s15).ext s11).ext s13).ext s14).ext s16).ext s17).ext s1a).ext s1b).ext s1c
  have h40 := lt_ (lt_ s18.size h1f.size) h1g.size
  have h41 := lt_ h40 s1d.size
  have h42 := lt_ h41 s19.size
  have h103 := (((((h102.ext s1e).ext s1h).chg s1i (dj_symm (o0no h2a (ownS.lt h1z) lr))).chg s1j (dj_symm (o0no h29 (ownS.lt h1z) h40))).chg s1l (dj_symm (o0no h26 (ownS.lt h1z) h41))).chg s1m (dj_symm (o0no h23 (ownS.lt h1z) h42))
  have h6n := lt_ (lt_ h42 s10.size) s15.size
  have h6o := lt_ (lt_ (lt_ (lt_ (lt_ (lt_ (lt_ (lt_ (lt_ (lt_ (lt_ (lt_ (lt_ s11.size s13.size) s14.size) s16.size) s17.size) s1a.size) s1b.size) s1c.size) s1e.size) s1h.size) s1i.size) s1j.size) s1l.size) s1m.size
  obtain ⟨r104, e105, hm6p⟩ := bdS (ifF hu6l hc2i)
  refine Eg z z hc2i z (fc call11 z (W_laws_eqByteS (B := w2v.heap.size) e105 h6o (ownS_rep ((h101.chg s1l (o0no (all_left h12) (ownS.lt h2r) s10.size)).chg s1m (o0no (all_left h12) (ownS.lt h2s) lr)) (ownS.lt h3d)) (repS.mono (ownS_rep h103 (ownS.lt h1z)) h6n))) ?_
  rintro _ w15v ⟨s32, rfl⟩
  refine Rh z hc2i (not_ z) (R z (pF z hc2i z) (Rm z ?_))
  rcases bs (!r104) with hc2j | hc2j
  ·iterate 4 refine Nh z hc2j ?_
   exact R z (pT z hc2j z) (Rm z (Nh z z (Nh z z (Nh z z (R z (pT z z z) (Wl (fun _ q => ⟨true, som (ifT hm6p hc2j), (q.k (sc z (sc z (sc z (sc z (sc z (sc z (sc z (sc z (sc z (sc z (sc z (sc z sn))))))))))))), s32⟩)))))))
  refine Rh z hc2j (mv z) (Rh z hc2j (mv z) ?_)
  have h106 := (((((((((((h2w.ext s11).ext s13).ext s14).ext s16).ext s17).ext s1a).ext s1b).ext s1c).ext s1e).ext s1h).chg s1i (o0no (all_right h12) (ownS.lt h2d) h2t)).chg s1j (o0no (all_right h12) (ownS.lt h2m) h2u)
  have h107 := ((((((((((((((h20.ext s18).ext h1f).chg h1g (dj_symm (mno (ownS.lt h20) s18.size))).ext s1d).ext s19).ext s10).ext s15).ext s11).ext s13).ext s14).ext s16).ext s17).ext s1a).ext s1b).ext s1c
  have h108 := (((((h107.ext s1e).ext s1h).chg s1i (dj_symm (o0no h2a (ownS.lt h20) lr))).chg s1j (dj_symm (o0no h29 (ownS.lt h20) h40))).chg s1l (dj_symm (o0no h26 (ownS.lt h20) h41))).chg s1m (dj_symm (o0no h23 (ownS.lt h20) h42))
  obtain ⟨r109, e10a, hm6q⟩ := bdS (ifF hm6p hc2j)
  refine Eg z z hc2j z (fc call12 z (W_laws_eqEntryS (B := w2v.heap.size) e10a (lt_ h6o s32.size) (ownS_rep (((h106.chg s1l (o0no (all_right h12) (ownS.lt h2r) s10.size)).chg s1m (o0no (all_right h12) (ownS.lt h2s) lr)).ext s32) (ownS.lt h2w)) (repS.mono (ownS_rep (h108.ext s32) (ownS.lt h20)) h6n))) ?_
  rintro _ w15w ⟨s6r, rfl⟩
  refine Rh z hc2j (not_ z) (R z (pF z hc2j z) (Rm z ?_))
  rcases bs (!r109) with hc2o | hc2o
  ·iterate 3 refine Nh z hc2o ?_
   exact R z (pT z hc2o z) (Wl (fun _ q => ⟨true, som (ifT hm6q hc2o), (q.k (sc z (sc z (sc z (sc z (sc z (sc z (sc z (sc z (sc z (sc z (sc z (sc z sn))))))))))))), (bup s32 s6r)⟩))
  exact Rh z hc2o (mv z) (Rh z hc2o (mv z) (Rh z hc2o (rd_neqB d_4 z z) (R z (pF z hc2o z) (Wl (fun _ q => ⟨r3l != r37, som (ifF hm6q hc2o), (q.k (sc z (sc z (sc z (sc z (sc z (sc z (sc z (sc z (sc z (sc z (sc z (sc z sn))))))))))))), (bup s32 s6r)⟩)))))
 rintro a10b w15x ⟨x3z, rfl, hS15y, s1v⟩
 revert a10b
 refine Wo (Wc z (fun hc43 => ?_) (fun hc43 => ?_))
 ·refine Ws (Ra z (Wn ?_))
  obtain rfl := som (ifT hm6m hc43)
  have h10c := bup (bup (bup (bup (bup (bup (bup (bM (bup (bup (bup (bup (bup (bup (bup (bup (bup h1o s1p) s1r) s1t) s1q) s1n) s1k) s1u) s18) h1f) h1g (mem1le h28)) s1d) s19) s10) s15) s11) s13) s14
  have h10d := bM (bM (bM (bM (bup (bup (bup (bup (bup (bup (bup h10c s16) s17) s1a) s1b) s1c) s1e) s1h) s1i (o0le h2a h2c)) s1j (o0le h29 h2e)) s1l (o0le h26 h2f)) s1m (o0le h23 h2g)
  exact Wr (ret1 hr z ⟨(bup h10d s1v), z⟩)
 refine Wk (Ws (Ra z (Wn (Ws (Rm z (Rm z ?_))))))
 have h10e := (((((((((((h3d.ext s11).ext s13).ext s14).ext s16).ext s17).ext s1a).ext s1b).ext s1c).ext s1e).ext s1h).chg s1i (o0no (all_left h12) (ownS.lt h2d) h2t)).chg s1j (o0no (all_left h12) (ownS.lt h2m) h2u)
 have h33 := o0le (all_left h12) h3k
 have h6s := lt_ (lt_ h6k s1m.size) s1v.size
 obtain ⟨r15z, r160, e10f, hm10g⟩ := bd2S (ifF hm6m hc43)
 refine E z (fc call16 z (W_laws_markByteS (B := B) e10f (lt_ hBw h6s) (((h10e.chg s1l (o0no (all_left h12) (ownS.lt h2r) s10.size)).chg s1m (o0no (all_left h12) (ownS.lt h2s) lr)).ext s1v) (nd_left h3e) h33 (ii z))) ?_
 rintro _ w6t ⟨s21, S161, rfl, h10h, h44, h162, h10i⟩
 refine Ra z (Wn (Ws (Rm z (Rm z ?_))))
 have h10j := (((((((((((h2w.ext s11).ext s13).ext s14).ext s16).ext s17).ext s1a).ext s1b).ext s1c).ext s1e).ext s1h).chg s1i (o0no (all_right h12) (ownS.lt h2d) h2t)).chg s1j (o0no (all_right h12) (ownS.lt h2m) h2u)
 have h34 := o0le (all_right h12) h3k
 have h6u := lt_ h6s s21.size
 obtain ⟨r10k, r163, e10l, hm10m⟩ := bd2S hm10g
 refine E z (fc call15 z (W_laws_markEntryS (B := B) e10l (lt_ hBw h6u) ((((h10j.chg s1l (o0no (all_right h12) (ownS.lt h2r) s10.size)).chg s1m (o0no (all_right h12) (ownS.lt h2s) lr)).ext s1v).chg s21 (dj_symm (nd_dj h3e))) (nd_right h3e) h34 h10h)) ?_
 rintro _ w6v ⟨s1w, S164, rfl, h165, h45, h166, h167⟩
 refine Ra z (Wn (Ws (Ra z (Wn (Ws (Rm z (Rm z ?_)))))))
 have h10n := lt_ (lt_ (lt_ (lt_ (lt_ (lt_ (lt_ (lt_ (lt_ (lt_ (lt_ (lt_ (lt_ s11.size s13.size) s14.size) s16.size) s17.size) s1a.size) s1b.size) s1c.size) s1e.size) s1h.size) s1i.size) s1j.size) s1l.size) s1m.size
 have h6w := h44.chg s1w (o1no h10i (nd_dj h3e) (ownS.lt h2w) (lt_ h10n s1v.size))
 obtain ⟨r168, e10o, hm6x⟩ := bdS hm10m
 refine E z (fc call17 z (W_laws_heldByteS (B := w6t.heap.size) e10o s1w.size (ownS_rep h6w (ownS.lt h44)) (ii z))) ?_
 rintro _ w169 ⟨s1s, rfl, h10p⟩
 refine Ra z (Wn (Wq (Ws (Rm z (R z (lss z z) (Wn (Wc z (fun hc46 => ?_) (fun hc46 => ?_))))))))
 ·refine Ws (Ra z (Wn ?_))
  obtain rfl := som (ifT hm6x hc46)
  have h10q := bup (bup (bup (bup (bup (bup (bup (bM (bup (bup (bup (bup (bup (bup (bup (bup (bup h1o s1p) s1r) s1t) s1q) s1n) s1k) s1u) s18) h1f) h1g (mem1le h28)) s1d) s19) s10) s15) s11) s13) s14
  have h10r := bM (bM (bM (bM (bup (bup (bup (bup (bup (bup (bup h10q s16) s17) s1a) s1b) s1c) s1e) s1h) s1i (o0le h2a h2c)) s1j (o0le h29 h2e)) s1l (o0le h26 h2f)) s1m (o0le h23 h2g)
  exact Wr (ret1 hr z ⟨(bup (bM (bM (bup h10r s1v) s21 (o0le (all_left h12) h24)) s1w (o0le (all_right h12) h24)) s1s), z⟩)
 refine Wk (Ws (Rm z (Rm z ?_)))
 have h6y := h45.ext s1s
 obtain ⟨r16a, e10s, hm6z⟩ := bdS (ifF hm6x hc46)
 refine E z (fc call18 z (W_laws_heldEntryS (B := w6v.heap.size) e10s s1s.size (ownS_rep h6y (ownS.lt h45)) h10p)) ?_
 rintro _ w16b ⟨s1x, rfl, h16c⟩
 refine Ra z (Wn (Wq (Ws (Rm z (R z (lss z z) (Wn (Wc z (fun hc47 => ?_) (fun hc47 => ?_))))))))
 ·refine Ws (Ra z (Wn ?_))
  obtain rfl := som (ifT hm6z hc47)
  have h10t := bup (bup (bup (bup (bup (bup (bup (bM (bup (bup (bup (bup (bup (bup (bup (bup (bup h1o s1p) s1r) s1t) s1q) s1n) s1k) s1u) s18) h1f) h1g (mem1le h28)) s1d) s19) s10) s15) s11) s13) s14
  have h10u := bM (bM (bM (bM (bup (bup (bup (bup (bup (bup (bup h10t s16) s17) s1a) s1b) s1c) s1e) s1h) s1i (o0le h2a h2c)) s1j (o0le h29 h2e)) s1l (o0le h26 h2f)) s1m (o0le h23 h2g)
  exact Wr (ret1 hr z ⟨(bup (bup (bM (bM (bup h10u s1v) s21 (o0le (all_left h12) h24)) s1w (o0le (all_right h12) h24)) s1s) s1x), z⟩)
 have hm70 := ifF hm6z hc47
 refine Wk (Wq (Ws (Rm z (Rm z (R z (nq z z) (Wn (Wc z (fun hc48 => ?_) (fun hc48 => ?_))))))))
 ·refine Ws (Ra z (Wn ?_))
  obtain rfl := som (ifT hm70 hc48)
  have h10v := bup (bup (bup (bup (bup (bup (bup (bM (bup (bup (bup (bup (bup (bup (bup (bup (bup h1o s1p) s1r) s1t) s1q) s1n) s1k) s1u) s18) h1f) h1g (mem1le h28)) s1d) s19) s10) s15) s11) s13) s14
  have h10w := bM (bM (bM (bM (bup (bup (bup (bup (bup (bup (bup h10v s16) s17) s1a) s1b) s1c) s1e) s1h) s1i (o0le h2a h2c)) s1j (o0le h29 h2e)) s1l (o0le h26 h2f)) s1m (o0le h23 h2g)
  exact Wr (ret1 hr z ⟨(bup (bup (bM (bM (bup h10w s1v) s21 (o0le (all_left h12) h24)) s1w (o0le (all_right h12) h24)) s1s) s1x), z⟩)
 refine Wk (Ws ?_)
 have h71 := lt_ (lt_ h5z h1f.size) h1g.size
 have h10x := (((((((((h60.ext s14).ext s16).ext s17).ext s1a).ext s1b).ext s1c).ext s1e).ext s1h).chg s1i (djs (o0n1 h2a h2l.lt h5y))).chg s1j (djs (o0n1 h29 h2l.lt h71))
 have h72 := lt_ h71 s1d.size
 have h73 := lt_ h72 s19.size
 have h74 := lt_ h73 s10.size
 have h10y := (((h10x.chg s1l (djs (o0n1 h26 h2l.lt h72))).chg s1m (djs (o0n1 h23 h2l.lt h73))).ext s1v).chg s21 (djs (o0n1 (all_left h12) h2l.lt h74))
 refine R z (lN (vs := [(.slice pa1_0 pn1_0 pc1_0)]) g_24 z_24 z z fid ((((h10y.chg s1w (djs (o0n1 (all_right h12) h2l.lt h74))).ext s1s).ext s1x).row 0 1 z)) ?_
 have h10z := (((((((((((((h61.ext s14).ext s16).ext s17).ext s1a).ext s1b).ext s1c).ext s1e).ext s1h).chg s1i (lg h2y)).chg s1j (lg h2z)).chg s1l (lg h30)).chg s1m (lg h31)).ext s1v).chg s21 (lg h33)
 have h75 := lt_ (lt_ (lt_ h6u s1w.size) s1s.size) s1x.size
 obtain ⟨r16d, e110, hm111⟩ := bdS (ifF hm70 hc48)
 refine E z (fc call7 z (W_laws_toDescription (B := B) e110 (lt_ hBw h75) (((h10z.chg s1w (lg h34)).ext s1s).ext s1x))) ?_
 rintro _ w16e ⟨s27, a16f, n16g, c16h, S16i, rfl, h76, h16j, h16k⟩
 refine Rm z ?_
 have h112 := ((((((((((((h65.ext s17).ext s1a).ext s1b).ext s1c).ext s1e).ext s1h).chg s1i (lg h2y)).chg s1j (lg h2z)).chg s1l (lg h30)).chg s1m (lg h31)).ext s1v).chg s21 (lg h33)).chg s1w (lg h34)
 have h77 := lt_ h75 s27.size
 obtain ⟨r16l, e113, hm114⟩ := bdS hm111
 refine E z (fc call8 z (W_laws_toEntryS (B := B) e113 (lt_ hBw h77) (((h112.ext s1s).ext s1x).ext s27))) ?_
 rintro _ w16m ⟨s25, a16n, n16o, c16p, S16q, rfl, h78, h16r, h16s⟩
 refine Rm z ?_
 have h115 := ((((((((((h69.ext s1b).ext s1c).ext s1e).ext s1h).chg s1i (lg h2y)).chg s1j (lg h2z)).chg s1l (lg h30)).chg s1m (lg h31)).ext s1v).chg s21 (lg h33)).chg s1w (lg h34)
 have h79 := lt_ h77 s25.size
 obtain ⟨r16t, e116, hm117⟩ := bdS hm114
 refine E z (fc call9 z (W_laws_toByteS (B := B) e116 (lt_ hBw h79) ((((h115.ext s1s).ext s1x).ext s27).ext s25))) ?_
 rintro _ w16u ⟨s22, a16v, n16w, c16x, S16y, rfl, h7a, h16z, h170⟩
 refine Rm z (Rm z (Rm z ?_))
 have h118 := ((((((((((h6d.ext s1e).ext s1h).chg s1i (lg h2y)).chg s1j (lg h2z)).chg s1l (lg h30)).chg s1m (lg h31)).ext s1v).chg s21 (lg h33)).chg s1w (lg h34)).ext s1s).ext s1x
 have h7b := lt_ h79 s22.size
 obtain ⟨r171, e119, hm11a⟩ := bdS hm117
 refine E z (fc call9 z (W_laws_toByteS (B := B) e119 (lt_ hBw h7b) (((h118.ext s27).ext s25).ext s22))) ?_
 rintro _ w11b ⟨s1y, a172, n173, c174, S175, rfl, h11c, h176, h177⟩
 have h11d := ((((((((((((((h5r.ext s15).ext s11).ext s13).ext s14).ext s16).ext s17).ext s1a).ext s1b).ext s1c).ext s1e).ext s1h).chg s1i (lg h2y)).chg s1j (lg h2z)).chg s1l (lg h30)).chg s1m (lg h31)
 obtain ⟨r178, r179, r11e, e11f, hm11g⟩ := bd3S hm11a
 refine E z (fc call10 z (W_impl_UpdateIndex (B := w11b.heap.size) e11f lr ((((((((((h11d.ext s1v).chg s21 (lg h33)).chg s1w (lg h34)).ext s1s).ext s1x).ext s27).ext s25).ext s22).ext s1y).mono (lt_ hBw (lt_ h7b s1y.size))) (repS.mono (ownS_rep (((h76.ext s25).ext s22).ext s1y) (ownS.lt h76)) (lt_ (lt_ s25.size s22.size) s1y.size)) (repS.mono (ownS_rep ((h78.ext s22).ext s1y) (ownS.lt h78)) (lt_ s22.size s1y.size)) (repS.mono (ownS_rep (h7a.ext s1y) (ownS.lt h7a)) s1y.size) p4_0 p5_0 (ownS.rep h11c))) ?_
 rintro _ w3f ⟨s2b, a17a, n17b, c17c, S17d, a17e, n17f, c17g, S17h, rfl, h11h, h7c, h17i, h17j⟩
 refine Rm z ?_
 iterate 3 refine R z (ext_ z z) ?_
 refine Ra z (Ra z (Ra z (Wn (Wq (Wq ?_)))))
 obtain ⟨u11i, hu11j, hm7d⟩ := bdS hm11g
 refine WC_cut (fun a w => ∃ (x49 : Bool), x49 = u11i ∧ Sat 208 [(21, (.slice a3m n3n c3o)), (22, (.slice a3p n3q c3r)), (25, (vI r10k)), (194, (vB x49))] a ∧ Below w3f.heap.size w3f w) ?_ ?_
 ·refine Wg (Rm z (Rm z ?_))
  have h11k := ((((((((((((((h1z.ext s18).ext h1f).chg h1g (dj_symm (mno (ownS.lt h1z) s18.size))).ext s1d).ext s19).ext s10).ext s15).ext s11).ext s13).ext s14).ext s16).ext s17).ext s1a).ext s1b).ext s1c
  have h4a := lt_ (lt_ s18.size h1f.size) h1g.size
  have h4b := lt_ h4a s1d.size
  have h4c := lt_ h4b s19.size
  have h11l := (((((h11k.ext s1e).ext s1h).chg s1i (dj_symm (o0no h2a (ownS.lt h1z) lr))).chg s1j (dj_symm (o0no h29 (ownS.lt h1z) h4a))).chg s1l (dj_symm (o0no h26 (ownS.lt h1z) h4b))).chg s1m (dj_symm (o0no h23 (ownS.lt h1z) h4c))
  have h39 := lt_ h4c s10.size
  have h11m := (((((((h11l.ext s1v).chg s21 (dj_symm (o0no (all_left h12) (ownS.lt h1z) h39))).chg s1w (dj_symm (o0no (all_right h12) (ownS.lt h1z) h39))).ext s1s).ext s1x).ext s27).ext s25).ext s22
  have h11n := lt_ (lt_ (lt_ (lt_ (lt_ (lt_ (lt_ (lt_ (lt_ (lt_ (lt_ (lt_ (lt_ h39 s15.size) s11.size) s13.size) s14.size) s16.size) s17.size) s1a.size) s1b.size) s1c.size) s1e.size) s1h.size) s1i.size) s1j.size
  have h7e := lt_ (lt_ (lt_ (lt_ (lt_ (lt_ (lt_ (lt_ (lt_ (lt_ (lt_ (lt_ h11n s1l.size) s1m.size) s1v.size) s21.size) s1w.size) s1s.size) s1x.size) s27.size) s25.size) s22.size) s1y.size) s2b.size
  obtain ⟨r11o, e11p, hm7f⟩ := bdS hu11j
  refine E z (fc call11 z (W_laws_eqByteS (B := w3f.heap.size) e11p lr (ownS.rep h11h) (repS.mono (ownS_rep ((h11m.ext s1y).ext s2b) (ownS.lt h1z)) h7e))) ?_
  rintro _ w17k ⟨s35, rfl⟩
  refine R z (not_ z) (Rm z ?_)
  rcases bs (!r11o) with hc2k | hc2k
  ·iterate 4 refine Nh z hc2k ?_
   exact R z (pT z hc2k z) (Rm z (Nh z z (Nh z z (Nh z z (R z (pT z z z) (Wl (fun _ q => ⟨true, som (ifT hm7f hc2k), (q.k (s4 z z z z)), s35⟩)))))))
  refine Rh z hc2k (mv z) (Rh z hc2k (mv z) ?_)
  have h11q := ((((((((((((((h20.ext s18).ext h1f).chg h1g (dj_symm (mno (ownS.lt h20) s18.size))).ext s1d).ext s19).ext s10).ext s15).ext s11).ext s13).ext s14).ext s16).ext s17).ext s1a).ext s1b).ext s1c
  have h11r := (((((h11q.ext s1e).ext s1h).chg s1i (dj_symm (o0no h2a (ownS.lt h20) lr))).chg s1j (dj_symm (o0no h29 (ownS.lt h20) h4a))).chg s1l (dj_symm (o0no h26 (ownS.lt h20) h4b))).chg s1m (dj_symm (o0no h23 (ownS.lt h20) h4c))
  have h11s := (((((((h11r.ext s1v).chg s21 (dj_symm (o0no (all_left h12) (ownS.lt h20) h39))).chg s1w (dj_symm (o0no (all_right h12) (ownS.lt h20) h39))).ext s1s).ext s1x).ext s27).ext s25).ext s22
  obtain ⟨r11t, e11u, hm7g⟩ := bdS (ifF hm7f hc2k)
  refine Eg z z hc2k z (fc call12 z (W_laws_eqEntryS (B := w3f.heap.size) e11u s35.size (ownS_rep (h7c.ext s35) (ownS.lt h7c)) (repS.mono (ownS_rep (((h11s.ext s1y).ext s2b).ext s35) (ownS.lt h20)) h7e))) ?_
  rintro _ w17l ⟨s7h, rfl⟩
  refine Rh z hc2k (not_ z) (R z (pF z hc2k z) (Rm z ?_))
  rcases bs (!r11t) with hc2p | hc2p
  ·iterate 3 refine Nh z hc2p ?_
   exact R z (pT z hc2p z) (Wl (fun _ q => ⟨true, som (ifT hm7g hc2p), (q.k (s4 z z z z)), (bup s35 s7h)⟩))
  exact Rh z hc2p (mv z) (Rh z hc2p (mv z) (Rh z hc2p (rd_neqB d_4 z z) (R z (pF z hc2p z) (Wl (fun _ q => ⟨r11e != r37, som (ifF hm7g hc2p), (q.k (s4 z z z z)), (bup s35 s7h)⟩)))))
 rintro a11v w17m ⟨x49, rfl, hS17n, s2q⟩
 revert a11v
 refine Wo (Wc z (fun hc4d => ?_) (fun hc4d => ?_))
 ·refine Ws (Ra z (Wn ?_))
  obtain rfl := som (ifT hm7d hc4d)
  have h11w := bup (bup (bup (bup (bup (bup (bup (bM (bup (bup (bup (bup (bup (bup (bup (bup (bup h1o s1p) s1r) s1t) s1q) s1n) s1k) s1u) s18) h1f) h1g (mem1le h28)) s1d) s19) s10) s15) s11) s13) s14
  have h11x := bM (bM (bM (bM (bup (bup (bup (bup (bup (bup (bup h11w s16) s17) s1a) s1b) s1c) s1e) s1h) s1i (o0le h2a h2c)) s1j (o0le h29 h2e)) s1l (o0le h26 h2f)) s1m (o0le h23 h2g)
  exact Wr (ret1 hr z ⟨(bup (bup (bup (bup (bup (bup (bup (bup (bM (bM (bup h11x s1v) s21 (o0le (all_left h12) h24)) s1w (o0le (all_right h12) h24)) s1s) s1x) s27) s25) s22) s1y) s2b) s2q), z⟩)
 refine Wk (Ws (Ra z (Wn (Ws (Rm z (Rm z ?_))))))
 obtain ⟨r17o, e11y, hm7i⟩ := bdS (ifF hm7d hc4d)
 refine E z (fc call17 z (W_laws_heldByteS (B := w6t.heap.size) e11y (lt_ (lt_ (lt_ (lt_ (lt_ (lt_ (lt_ (lt_ s1w.size s1s.size) s1x.size) s27.size) s25.size) s22.size) s1y.size) s2b.size) s2q.size) (ownS_rep ((((((((h6w.ext s1s).ext s1x).ext s27).ext s25).ext s22).ext s1y).ext s2b).ext s2q) (ownS.lt h44)) (ii z))) ?_
 rintro _ w17p ⟨s36, rfl, h11z⟩
 refine Ra z (Wn (Wq (Ws (Rm z (R z (lss z z) (Wn (Wc z (fun hc4e => ?_) (fun hc4e => ?_))))))))
 ·refine Ws (Ra z (Wn ?_))
  obtain rfl := som (ifT hm7i hc4e)
  have h120 := bup (bup (bup (bup (bup (bup (bup (bM (bup (bup (bup (bup (bup (bup (bup (bup (bup h1o s1p) s1r) s1t) s1q) s1n) s1k) s1u) s18) h1f) h1g (mem1le h28)) s1d) s19) s10) s15) s11) s13) s14
  have h121 := bM (bM (bM (bM (bup (bup (bup (bup (bup (bup (bup h120 s16) s17) s1a) s1b) s1c) s1e) s1h) s1i (o0le h2a h2c)) s1j (o0le h29 h2e)) s1l (o0le h26 h2f)) s1m (o0le h23 h2g)
  have h122 := bup (bup (bup (bup (bup (bup (bup (bup (bup (bM (bM (bup h121 s1v) s21 (o0le (all_left h12) h24)) s1w (o0le (all_right h12) h24)) s1s) s1x) s27) s25) s22) s1y) s2b) s2q) s36
  exact Wr (ret1 hr z ⟨h122, z⟩)
 refine Wk (Ws (Rm z (Rm z ?_)))
 obtain ⟨r17q, e123, hm7j⟩ := bdS (ifF hm7i hc4e)
 refine E z (fc call18 z (W_laws_heldEntryS (B := w6v.heap.size) e123 (lt_ (lt_ (lt_ (lt_ (lt_ (lt_ (lt_ (lt_ s1s.size s1x.size) s27.size) s25.size) s22.size) s1y.size) s2b.size) s2q.size) s36.size) (ownS_rep ((((((((h6y.ext s1x).ext s27).ext s25).ext s22).ext s1y).ext s2b).ext s2q).ext s36) (ownS.lt h45)) h11z)) ?_
 rintro _ w17r ⟨s4f, rfl, h17s⟩
 refine Ra z (Wn (Wq (Ws (Rm z (R z (lss z z) (Wn (Wc z (fun hc4g => ?_) (fun hc4g => ?_))))))))
 ·refine Ws (Ra z (Wn ?_))
  obtain rfl := som (ifT hm7j hc4g)
  have h124 := bup (bup (bup (bup (bup (bup (bup (bM (bup (bup (bup (bup (bup (bup (bup (bup (bup h1o s1p) s1r) s1t) s1q) s1n) s1k) s1u) s18) h1f) h1g (mem1le h28)) s1d) s19) s10) s15) s11) s13) s14
  have h125 := bM (bM (bM (bM (bup (bup (bup (bup (bup (bup (bup h124 s16) s17) s1a) s1b) s1c) s1e) s1h) s1i (o0le h2a h2c)) s1j (o0le h29 h2e)) s1l (o0le h26 h2f)) s1m (o0le h23 h2g)
  have h126 := bup (bup (bup (bup (bup (bup (bup (bup (bup (bM (bM (bup h125 s1v) s21 (o0le (all_left h12) h24)) s1w (o0le (all_right h12) h24)) s1s) s1x) s27) s25) s22) s1y) s2b) s2q) s36
  exact Wr (ret1 hr z ⟨(bup h126 s4f), z⟩)
 have hm7k := ifF hm7j hc4g
 refine Wk (Wq (Ws (Rm z (Rm z (R z (nq z z) (Wn (Wc z (fun hc4h => ?_) (fun hc4h => ?_))))))))
 ·refine Ws (Ra z (Wn ?_))
  obtain rfl := som (ifT hm7k hc4h)
  have h127 := bup (bup (bup (bup (bup (bup (bup (bM (bup (bup (bup (bup (bup (bup (bup (bup (bup h1o s1p) s1r) s1t) s1q) s1n) s1k) s1u) s18) h1f) h1g (mem1le h28)) s1d) s19) s10) s15) s11) s13) s14
  have h128 := bM (bM (bM (bM (bup (bup (bup (bup (bup (bup (bup h127 s16) s17) s1a) s1b) s1c) s1e) s1h) s1i (o0le h2a h2c)) s1j (o0le h29 h2e)) s1l (o0le h26 h2f)) s1m (o0le h23 h2g)
  have h129 := bup (bup (bup (bup (bup (bup (bup (bup (bup (bM (bM (bup h128 s1v) s21 (o0le (all_left h12) h24)) s1w (o0le (all_right h12) h24)) s1s) s1x) s27) s25) s22) s1y) s2b) s2q) s36
  exact Wr (ret1 hr z ⟨(bup h129 s4f), z⟩)
 refine Wk (Ws (Ra z (Wn ?_)))
 obtain rfl := som (ifF hm7k hc4h)
 have h12a := bup (bup (bup (bup (bup (bup (bup (bM (bup (bup (bup (bup (bup (bup (bup (bup (bup h1o s1p) s1r) s1t) s1q) s1n) s1k) s1u) s18) h1f) h1g (mem1le h28)) s1d) s19) s10) s15) s11) s13) s14
 have h12b := bM (bM (bM (bM (bup (bup (bup (bup (bup (bup (bup h12a s16) s17) s1a) s1b) s1c) s1e) s1h) s1i (o0le h2a h2c)) s1j (o0le h29 h2e)) s1l (o0le h26 h2f)) s1m (o0le h23 h2g)
 have h12c := bup (bup (bup (bup (bup (bup (bup (bup (bup (bM (bM (bup h12b s1v) s21 (o0le (all_left h12) h24)) s1w (o0le (all_right h12) h24)) s1s) s1x) s27) s25) s22) s1y) s2b) s2q) s36
 exact Wr (ret1 hr z ⟨(bup h12c s4f), z⟩)
end Go.Vw

