import Derived.Test.YtlbigkipbbhhmaaGreatDoorVwTW2
set_option linter.unusedVariables false
namespace Go.Vw
open Go.RowKit Dat Go.Proofs
open Go.Proofs.Tryz
open Go.Vw renaming WC_seq → Wq, WC_region → Wg, WC.of_KC → Wo, WL_nil → Wl, WC_cond → Wc, WC_ret → Wr, WC_run → Wu, rd_pickT → pT, rd_pickF → pF, rd_field → fd, rd_load1 → l1, rd_loadN → lN, rd_move → mv, rd_assign → asg, rd_lenR → lnR, rd_lss → lss, rd_eql → eql, rd_extract → ext_, rd_buildP → bP, rd_add → add_, rd_inc → inc_, rd_not → not_, rd_at → at_, ef_call → fc, ef_store → fs, ef_box → fb, ef_alloc → fa, sub_refl → sr, crefl → cr, cchgM → cM, bchgM → bM, inI_sub → iS, inI_add → iA, brefl → br, oneAll → oA, bsplit → bs, ltge → lg, inor → io, rd_neq → nq, rd_lenT → lnT, rd_sub → sb_
variable {A0 : Option Addr} {N0 C0 : Nat} {B : Nat} {w0 : World} {A9 : Option Addr} {A8 : Option Addr} {AA : Option Addr} {AB : Option Addr} {N9 C9 : Nat} {N8 C8 : Nat} {NA CA : Nat} {NB CB : Nat} {A2 : Option Addr} {A3 : Option Addr} {A1 : Option Addr} {A4 : Option Addr} {N2 C2 : Nat} {N3 C3 : Nat} {N1 C1 : Nat} {N4 C4 : Nat} {A7 : Option Addr} {N7 C7 : Nat} {A5 : Option Addr} {N5 C5 : Nat} {n : Nat} {A6 : Option Addr} {N6 C6 : Nat} {AI : Option Addr} {AJ : Option Addr} {NI CI : Nat} {NJ CJ : Nat}
theorem W_w2q {x1 : Desc} {x2 : Int} {x3 : Int} {res : Str} (hm : M_impl_StepOf n x1 x2 x3 = some res) (hBw : B ≤ w0.z) (hG : Gl w0 B) (p1_0 : repS w0 B (sl A0 N0 C0) x1.rules) (p2_0 : inI x2) (p3_0 : inI x3) : CallsR prog 123 [(.agg #[sl A0 N0 C0]), vI x2, vI x3] w0 (Q11 w0 B res) := by
 unfold M_impl_StepOf at hm
 refine goF func123 z z (lb z) fun fn hr => Ws (E z (fb z) ?_)
 rintro _ w1a ⟨rfl, h1m⟩
 have h10 := h1m.below
 have h1n : Blk w1a w0.z [sl A0 N0 C0] := h1m.blk
 refine Ra z (Wn (Wq (Wq ?_)))
 obtain ⟨u2e, hu2f, hm1o⟩ := bdS hm
 refine WC_cut (fun a w => ∃ (x1b : Bool), x1b = u2e ∧ Sat 58 [(1, vI x2), (2, vI x3), (3, pt w0.z), (15, vB x1b)] a ∧ Below w1a.z w1a w) ?_ ?_
 ·refine Wg (R z (lN (vs := [sl A0 N0 C0]) g_30 z_30 z z fid (h1n.row 0 1 z)) (Rm z ?_))
  obtain ⟨r2g, e2h, hm1p⟩ := bdS hu2f
  refine E z (fc call170 z (W_w0r (B := B) e2h (lt_ hBw h10.size) (p1_0.ext h10) p2_0)) ?_
  rintro _ w30 ⟨s1q, rfl⟩
  refine R z (not_ z) (Rm z ?_)
  rcases bs (!r2g) with hc16 | hc16
  ·exact Nh z hc16 (Nh z hc16 (R z (pT z hc16 z) (Wl (fun _ q => ⟨true, som (ifT hm1p hc16), (q.k (s4 z z z z)), s1q⟩))))
  exact Rh z hc16 (mv z) (Rh z hc16 (lss z z) (R z (pF z hc16 z) (Wl (fun _ q => ⟨decide (x3 < 0), som (ifF hm1p hc16), (q.k (s4 z z z z)), s1q⟩))))
 rintro a2i w1r ⟨x1b, rfl, hS31, s11⟩
 revert a2i
 refine Wo (Wc z (fun hc1c => ?_) (fun hc1c => ?_))
 ·refine Ws (Ra z (Wn ?_))
  obtain rfl := som (ifT hm1o hc1c)
  exact Wr (ret1 hr z ⟨(bup h10 s11), z, (lb z)⟩)
 refine Wk (Ws (R z (fd f_30_0 z) (R z (l1 g_28 z fid ((h1n.ext s11).at z)) (Rm z ?_))))
 obtain ⟨x15, e2j, hm1s⟩ := bdS (ifF hm1o hc1c)
 refine RX z (at_ (α := Rule) d_28 z_80 z z z ((p1_0.ext h10).ext s11) e2j) ?_
 rintro _ ⟨b32, o33, cs34, rfl, h2k, h2l, h35⟩
 obtain ⟨a1t, n1u, c1v, a1w, n1x, c1y, a1z, n20, c21, a22, n23, c24, rfl, h36, h37, h38, h39, h25, h3a, h3b⟩ := Rule_open h2l
 refine R z (lN (vs := (vR x15 a1t n1u c1v a1w n1x c1y a1z n20 c21 a22 n23 c24)) g_80 z_80 z z fid h2k) (E z (fa zero_80) ?_)
 rintro _ w2m ⟨rfl, h26⟩
 have h12 := h26.below
 have h2n : Blk w2m w1r.z [(Str.v (⟨[]⟩ : Str)), vI 0, vI 0, vB false, sl none 0 0, sl none 0 0, sl none 0 0, sl none 0 0] := h26.blk
 refine E0 (fs (cur' := (vR x15 a1t n1u c1v a1w n1x c1y a1z n20 c21 a22 n23 c24)) z_80 z z h2n z (lb z) (oA z) z) ?_
 rintro _ w19 ⟨h18, s2o⟩
 have h13 := s2o.one
 refine Wn (Wq (WC_block (Ws (R z (fd f_80_1 z) (R z (l1 g_3 z fid (h18.at z)) (R z (eql z z) (Ra z (Wn (Wc z (fun hc1d => ?_) (fun hc1d => ?_))))))))))
 ·refine Ws (Rm z ?_)
  have h1e := lt_ h10.size s11.size
  obtain ⟨r3c, e2p, hm2q⟩ := bdS (ifT hm1s hc1d)
  refine E z (fc call174 z (W_w2p (B := B) e2p (lt_ hBw (lt_ (lt_ h1e h12.size) h13.size)) ((((hG.ext h10).ext s11).ext h12).chg h13 (lg (mem1le (lt_ hBw h1e)))) p3_0)) ?_
  rintro _ w3d ⟨s2r, rfl, h2s⟩
  refine Ra z (Wn ?_)
  obtain rfl := som hm2q
  exact Wr (rtO (ret1 hr z ⟨(bup (bM (bup (bup h10 s11) h12) h13 (mem1le h1e)) s2r), z, h2s⟩))
 refine Wq ?_
 obtain ⟨u2t, hu27, hm28⟩ := bdS (ifF hm1s hc1d)
 refine WC_cut (fun a w => ∃ (x1f : Bool), x1f = u2t ∧ Sat 58 [(2, vI x3), (7, pt w1r.z), (27, vB x1f)] a ∧ Below w19.z w19 w) ?_ ?_
 ·refine Wg (R z (fd f_80_1 z) (R z (l1 g_3 z fid (h18.at z)) (R z (eql z z) (Rm z ?_))))
  rcases bs (x15.kind == 6) with hc14 | hc14
  ·exact Rh z hc14 (mv z) (Rh z hc14 (fd f_80_5 z) (Rh z hc14 (l1 g_77 z fid (h18.at z)) (Rh z hc14 (lnR d_77 z ((h25.ext h12).chg h13 (lg (mem1le (lt_ hBw (lt_ h10.size s11.size)))))) (Rh z hc14 (lss z z) (R z (pT z hc14 z) (Ra z (Wl (fun _ q => ⟨decide (x3 < (x15.names.length : Int)), som (ifT hu27 hc14), (q.k (s3 z z z)), (br w19)⟩))))))))
  iterate 5 refine Nh z hc14 ?_
  exact R z (pF z hc14 z) (Ra z (Wl (fun _ q => ⟨false, som (ifF hu27 hc14), (q.k (s3 z z z)), (br w19)⟩)))
 rintro a2u w3e ⟨x1f, rfl, hS3f, s17⟩
 revert a2u
 refine Wo (Wc z (fun hc1g => ?_) (fun hc1g => ?_))
 ·refine Ws (R z (fd f_80_5 z) (R z (l1 g_77 z fid ((h18.ext s17).at z)) (Rm z ?_)))
  obtain ⟨x3g, e2v, hm2w⟩ := bdS (ifT hm28 hc1g)
  have h29 := lt_ h10.size s11.size
  refine RX z (at_ (α := Str) d_77 z_9 z z z (((h25.ext h12).chg h13 (lg (mem1le (lt_ hBw h29)))).ext s17) e2v) ?_
  rintro _ ⟨b3h, o3i, cs3j, rfl, h2x, h2y, h3k⟩
  obtain ⟨rfl, h2z⟩ := Str_open h2y
  refine R z (l1 g_9 z fid (h2x.at0 z)) (Ra z (Wn ?_))
  obtain rfl := som hm2w
  exact Wr (rtO (ret1 hr z ⟨(bup (bM (bup (bup h10 s11) h12) h13 (mem1le h29)) s17), z, h2z⟩))
 have hm2a := ifF hm28 hc1g
 refine Ws (Rm z (R z (rd_gtr z z) (Ra z (Wn (Wc z (fun hc1h => ?_) (fun hc1h => ?_))))))
 ·refine Ws (Ra z (Wn ?_))
  obtain rfl := som (ifT hm2a hc1h)
  exact Wr (rtO (ret1 hr z ⟨(bup (bM (bup (bup h10 s11) h12) h13 (mem1le (lt_ h10.size s11.size))) s17), z, (lb z)⟩))
 have hm2b := ifF hm2a hc1h
 refine Ws (R z (fd f_80_1 z) ?_)
 have h1i := h18.ext s17
 refine R z (l1 g_3 z fid (h1i.at z)) (R z (eql z z) (Ra z (Wn (Wc z (fun hc1j => ?_) (fun hc1j => ?_)))))
 ·refine Ws (Ra z (Wn ?_))
  obtain rfl := som (ifT hm2b hc1j)
  exact Wr (rtO (ret1 hr z ⟨(bup (bM (bup (bup h10 s11) h12) h13 (mem1le (lt_ h10.size s11.size))) s17), z, (lb z)⟩))
 have hm2c := ifF hm2b hc1j
 refine Ws (R z (fd f_80_1 z) (R z (l1 g_3 z fid (h1i.at z)) (R z (eql z z) (Ra z (Wn (Wc z (fun hc1k => ?_) (fun hc1k => ?_)))))))
 ·refine Ws (Ra z (Wn ?_))
  obtain rfl := som (ifT hm2c hc1k)
  exact Wr (rtO (ret1 hr z ⟨(bup (bM (bup (bup h10 s11) h12) h13 (mem1le (lt_ h10.size s11.size))) s17), z, (lb z)⟩))
 have hm2d := ifF hm2c hc1k
 refine Ws (R z (fd f_80_1 z) (R z (l1 g_3 z fid (h1i.at z)) (R z (eql z z) (Ra z (Wn (Wc z (fun hc1l => ?_) (fun hc1l => ?_)))))))
 ·refine Ws (Ra z (Wn ?_))
  obtain rfl := som (ifT hm2d hc1l)
  exact Wr (rtO (ret1 hr z ⟨(bup (bM (bup (bup h10 s11) h12) h13 (mem1le (lt_ h10.size s11.size))) s17), z, (lb z)⟩))
 refine Wk (Ws (Ra z (Wn ?_)))
 obtain rfl := som (ifF hm2d hc1l)
 exact Wr (ret1 hr z ⟨(bup (bM (bup (bup h10 s11) h12) h13 (mem1le (lt_ h10.size s11.size))) s17), z, (lb z)⟩)
theorem W_w2r {x1 : Desc} {x2 : Int} {x3 : Val} {b3 o3 : Nat} {x4 : Int} {res : Int} (hm : M_impl_childRule x1 x2 x3 x4 = some res) (hBw : B ≤ w0.z) (p1_0 : repS w0 B (sl A0 N0 C0) x1.rules) (p2_0 : inI x2) (p3_0 : inI x3.number) (p3_1 : repS w0 B (sl AI NI CI) x3.bytes) (p3_2 : repS w0 B (sl AJ NJ CJ) x3.items) (hC3 : CellsAt w0 b3 o3 [vI x3.number, sl AI NI CI, sl AJ NJ CJ]) (hC3b : b3 < B) (p4_0 : inI x4) : CallsR prog 124 [(.agg #[sl A0 N0 C0]), vI x2, (.pointer (some ⟨b3, o3, none⟩)), vI x4] w0 (Q0 w0 B res) := by
 unfold M_impl_childRule at hm
 refine goF func124 z z (lb z) fun fn hr => Ws (E z (fb z) ?_)
 rintro _ w10 ⟨rfl, h1p⟩
 have h11 := h1p.below
 have h1y : Blk w10 w0.z [sl A0 N0 C0] := h1p.blk
 refine Ra z (Wn (Ws (R z (fd f_30_0 z) (R z (l1 g_28 z fid (h1y.at z)) (Rm z ?_)))))
 obtain ⟨x13, e1z, hm1q⟩ := bdS hm
 refine RX z (at_ (α := Rule) d_28 z_80 z z z (p1_0.ext h11) e1z) ?_
 rintro _ ⟨b16, o17, cs3d, rfl, h12, h20, h3e⟩
 obtain ⟨a3f, n3g, c3h, a3i, n3j, c3k, a1b, n1c, c1d, a3l, n3m, c3n, rfl, h3o, h3p, h3q, h3r, h3s, h18, h15⟩ := Rule_open h20
 refine Ra z (Wn (Wq (Ws (Rm z (R z (rd_nil z) (R z (fd f_80_1 z) (R z (l1 g_3 z fid (h12.at (j := 1) z)) (Wn (WC_block (Ws (R z (eql z z) (Ra z (Wn (Wc z (fun hc1e => ?_) (fun hc1e => ?_)))))))))))))))
 ·refine Ws (Rm z (R z (rd_nil z) (R z (fd f_80_7 z) (R z (l1 g_78 z fid (h12.at (j := 7) z)) ?_))))
  obtain ⟨x3t, e21, hm22⟩ := bdS (ifT hm1q hc1e)
  refine RX z (at_ (α := Int) d_78 z_3 z z z h15 e21) ?_
  rintro _ ⟨b3u, o3v, cs3w, rfl, h23, h24, h3x⟩
  obtain ⟨rfl, h25⟩ := Int_open h24
  refine R z (l1 g_3 z fid (h23.at0 z)) (Ra z (Wn ?_))
  obtain rfl := som hm22
  exact Wr (rtO (ret1 hr z ⟨h11, z, h25⟩))
 refine Ws (R z (eql z z) (Ra z (Wn ?_)))
 obtain ⟨u26, hu1r, hm19⟩ := bdS (ifF hm1q hc1e)
 refine WC_cut (fun a w => Sum.inl () = u26 ∧ Sat 80 [] a ∧ Below w10.z w10 w) ?_ ?_
 ·refine Wc z (fun hc1f => ?_) (fun hc1f => ?_)
  ·have hm1s := ifT hu1r hc1f
   refine Ws (Rm z (Rm z (R z (rd_nil z) (R z (fd f_80_7 z) (R z (l1 g_78 z fid (h12.at (j := 7) z)) (R z (lnR d_78 z h15) (R z (lss z z) (Wn (Wc z (fun hc1g => ?_) (fun hc1g => ?_))))))))))
   ·refine Ws (Rm z (R z (rd_nil z) (R z (fd f_80_7 z) (R z (l1 g_78 z fid (h12.at (j := 7) z)) (Rm z ?_)))))
    obtain ⟨x3y, e27, hm28⟩ := bdS (ifT hm1s hc1g)
    refine RX z (at_ (α := Int) d_78 z_3 z z z h15 e27) ?_
    rintro _ ⟨b3z, o40, cs41, rfl, h29, h2a, h42⟩
    obtain ⟨rfl, h2b⟩ := Int_open h2a
    refine R z (l1 g_3 z fid (h29.at0 z)) (Ra z (Wn ?_))
    obtain rfl := som hm28
    have hm2c := elR hm19
    obtain rfl := som hm2c
    exact Wr (rtO (ret1 hr z ⟨h11, z, h2b⟩))
   exact WC_skip (fun _ q => ⟨som (ifF hm1s hc1g), (q.k sn), (br w10)⟩)
  refine Ws (R z (eql z z) (Ra z (Wn ?_)))
  obtain ⟨u2d, hu1t, hm1h⟩ := bdS (ifF hu1r hc1f)
  refine WC_cut (fun a w => Sum.inl () = u2d ∧ Sat 80 [] a ∧ Below w10.z w10 w) ?_ ?_
  ·refine Wc z (fun hc1i => ?_) (fun hc1i => ?_)
   ·refine Ws (Rm z (R z (rd_nil z) (R z (fd f_80_6 z) (R z (l1 g_78 z fid (h12.at (j := 6) z)) (R z (lnR d_78 z h18) (Rm z (Wn ?_)))))))
    obtain ⟨u43, hu2e, hm1u⟩ := bdS (ifT hu1t hc1i)
    refine WC_forN (σ := Unit) (ρ := Int) (fun (k1j : Nat) (_ : Unit) a w => Sat 80 [(2, (.pointer (some ⟨b3, o3, none⟩))), (9, (.pointer (some ⟨b16, o17, none⟩))), (49, sl a1b n1c c1d), (50, vI (x13.tags.length : Int)), (51, (vI ((k1j : Nat) : Int)))] a ∧ Below w10.z w10 w) (fun (_ : Unit) a w => Sat 80 [] a ∧ Below w10.z w10 w) (fun r ex a w => ex = .ret ∧ RetPost prog fn (Q0 w0 B r) a w) hu2e ?_ ?_ ?_ ?_ ?_
    ·exact fun _ q => ⟨(q.k (s5 z z z z z)), (br w10)⟩
    ·rintro k1j _ a44 w45 o46 hk1k ⟨hS2f, s14⟩ hm2g
     refine Wu ?_ hS2f
     refine Ws (R z (lss z z) (Wn (Wq (Wc z (fun _ => ?_) (fun hc => (nolt hk1k hc).elim)))))
     refine Wk (Wq (WC_block (Ws (Rm z ?_))))
     obtain ⟨x47, e2h, hm1v⟩ := bdS hm2g
     refine RX z (at_ (α := Int) d_78 z_3 z z z (h18.ext s14) e2h) ?_
     rintro _ ⟨b48, o49, cs4a, rfl, h2i, h2j, h4b⟩
     obtain ⟨rfl, h4c⟩ := Int_open h2j
     refine R z (l1 g_3 z fid (h2i.at0 z)) (Ra z (Ra z (Wn (Ws (Rm z (Rm z (R z (rd_nil z) (R z (fd f_52_0 z) (R z (l1 g_3 z fid (((hC3.ext h11).ext s14).at (j := 0) z)) (R z (eql z z) (Wn (Wc z (fun hc1l => ?_) (fun hc1l => ?_)))))))))))))
     ·refine Ws (Rm z (R z (rd_nil z) (R z (fd f_80_7 z) (R z (l1 g_78 z fid ((h12.ext s14).at (j := 7) z)) (Rm z (R z (inc_ hk1k (lt_ (repS.len h18) LEN_le) z z) ?_))))))
      obtain ⟨x4d, e2k, hm2l⟩ := bdS (ifT hm1v hc1l)
      refine RX z (at_ (α := Int) d_78 z_3 z z z (h15.ext s14) e2k) ?_
      rintro _ ⟨b4e, o4f, cs4g, rfl, h2m, h2n, h4h⟩
      obtain ⟨rfl, h2o⟩ := Int_open h2n
      exact R z (l1 g_3 z fid (h2m.at0 z)) (Ra z (Wn (Wr (rtO (QO_retL (som hm2l).symm (ret1 hr z ⟨(bup h11 s14), z, h2o⟩))))))
     exact Wk (Wg (R z (inc_ hk1k (lt_ (repS.len h18) LEN_le) z z) (Rm z (Wl (fun _ q => ⟨(), (som (ifF hm1v hc1l)).symm, ⟨(q.k (s5 z z z z z)), s14⟩⟩)))))
    ·rintro _ a4i w4j ⟨hS2p, s2q⟩
     refine Wu ?_ hS2p
     refine Ws (R z (lss z z) (Wn (Wq (Wc z (fun hc => (noltt hc).elim) (fun _ => ?_)))))
     exact WC_exit (fun a' ha' => ⟨rfl, ⟨(Sat.weaken ha' sn), s2q⟩⟩)
    ·rintro _ a2r w4k rfl ⟨hS4l, s2s⟩
     have hm2t := elL hm1u
     revert a2r
     exact fun _ q => ⟨som hm2t, (q.k sn), s2s⟩
    rintro r4m ex4n a4o w4p rfl ⟨rfl, hq2u⟩
    have hm2v := elR hm1u
    obtain rfl := som hm2v
    have hm2w := elR hm1h
    obtain rfl := som hm2w
    have hm2x := elR hm19
    obtain rfl := som hm2x
    exact ⟨hq2u, z⟩
   refine Wq (Ws (R z (eql z z) (Ra z (Wn ?_))))
   obtain ⟨u2y, hu1w, hm1x⟩ := bdS (ifF hu1t hc1i)
   refine WC_cut (fun a w => ∃ (x1m : Bool), x1m = u2y ∧ Sat 80 [(9, (.pointer (some ⟨b16, o17, none⟩))), (71, vB x1m)] a ∧ Below w10.z w10 w) ?_ ?_
   ·refine Wc z (fun hc1n => ?_) (fun hc1n => ?_)
    ·exact WC_skip (fun _ q => ⟨x13.kind == 8, som (ifT hu1w hc1n), (q.k (s2 z z)), (br w10)⟩)
    exact Wg (R z (eql z z) (Ra z (Wl (fun _ q => ⟨x13.kind == 9, som (ifF hu1w hc1n), (q.k (s2 z z)), (br w10)⟩))))
   rintro a2z w4q ⟨x1m, rfl, hS4r, s1a⟩
   revert a2z
   refine Wo (Wc z (fun hc1o => ?_) (fun hc1o => ?_))
   ·refine Ws (Rm z (R z (rd_nil z) (R z (fd f_80_7 z) (R z (l1 g_78 z fid ((h12.ext s1a).at (j := 7) z)) ?_))))
    obtain ⟨x4s, e30, hm31⟩ := bdS (ifT hm1x hc1o)
    refine RX z (at_ (α := Int) d_78 z_3 z z z (h15.ext s1a) e30) ?_
    rintro _ ⟨b4t, o4u, cs4v, rfl, h32, h33, h4w⟩
    obtain ⟨rfl, h34⟩ := Int_open h33
    refine R z (l1 g_3 z fid (h32.at0 z)) (Ra z (Wn ?_))
    obtain rfl := som hm31
    have hm35 := elR hm1h
    obtain rfl := som hm35
    have hm36 := elR hm19
    obtain rfl := som hm36
    exact Wr (rtO (ret1 hr z ⟨(bup h11 s1a), z, h34⟩))
   exact WC_skip (fun _ q => ⟨som (ifF hm1x hc1o), (q.k sn), s1a⟩)
  rintro a37 w4x ⟨rfl, hS4y, s38⟩
  have hm39 := elL hm1h
  revert a37
  exact fun _ q => ⟨som hm39, (q.k sn), s38⟩
 rintro a3a w4z ⟨rfl, hS50, s3b⟩
 have hm3c := elL hm19
 revert a3a
 refine Wo (Ws (Ra z (Wn ?_)))
 obtain rfl := som hm3c
 exact Wr (ret1 hr z ⟨(bup h11 s3b), z, (ii z)⟩)
def Q27 (w0 : World) (g1 : Nat) (B : Nat) (A0 : Option Addr) (N0 C0 : Nat) (A6 : Option Addr) (N6 C6 : Nat) (AE : Option Addr) (NE CE : Nat) (S1_2 : List Nat) (x1 : Indexer) (r : Int × (List Entry)) (v : Value) (w' : World) : Prop := Chg (· ∈ ([g1] ++ S1_2)) w0 w' ∧ un2 (fun r1 r2 => ∃ a1 n1 c1 S1, (vI r1) = v ∧ inI r1 ∧ ownS w' S1 (sl a1 n1 c1) r2 ∧ S1.Nodup ∧ (∀ k ∈ S1, k ∈ S1_2 ∨ w0.z ≤ k) ∧ Blk w' g1 [sl A0 N0 C0, sl A6 N6 C6, sl a1 n1 c1]) r
structure S_impl_indexer_part (f : Indexer → Str → Int → Val → Int → Option (Int × (List Entry))) : Prop where
  run : ∀ {B N0 C0 N6 C6 NE CE g1 NG CG NH CH b4 o4 : Nat} {A0 A6 AE AG AH : Option Addr} {S1_2 : List Nat} {x1 : Indexer} {x2 : Str} {x3 : Int} {x4 : Val} {x5 : Int} {res : Int × (List Entry)} {w0 : World} (hm : f x1 x2 x3 x4 x5 = some res) (hB1 : Blk w0 g1 [sl A0 N0 C0, sl A6 N6 C6, sl AE NE CE]) (hBw : B ≤ g1) (hG : Gl w0 B) (p1_0 : repS w0 B (sl A0 N0 C0) x1.d.rules) (p1_1 : repS w0 B (sl A6 N6 C6) x1.b) (p1_2 : ownS w0 S1_2 (sl AE NE CE) x1.list_) (p1_2n : S1_2.Nodup) (p1_2g : ∀ k ∈ S1_2, B ≤ k) (p1_2d : ∀ k ∈ S1_2, k ∉ [g1]) (p2_0 : x2.b.length ≤ LEN) (p3_0 : inI x3) (p4_0 : inI x4.number) (p4_1 : repS w0 B (sl AG NG CG) x4.bytes) (p4_2 : repS w0 B (sl AH NH CH) x4.items) (hC4 : CellsAt w0 b4 o4 [vI x4.number, sl AG NG CG, sl AH NH CH]) (hC4b : b4 < B) (p5_0 : inI x5), CallsR prog 76 [pt g1, Str.v x2, vI x3, (.pointer (some ⟨b4, o4, none⟩)), vI x5] w0 (Q27 w0 g1 B A0 N0 C0 A6 N6 C6 AE NE CE S1_2 x1 res)
abbrev I_impl_indexer_part (n : Nat) : Prop := S_impl_indexer_part (F_impl_indexer_part n).impl_indexer_part
theorem T_w09 (ih0 : I_impl_indexer_part n) : S_impl_indexer_part (B_impl_indexer_part n (F_impl_indexer_part n)) := by
 constructor
 intro B N0 C0 N6 C6 NE CE g1 NG CG NH CH b4 o4 A0 A6 AE AG AH S1_2 x1 x2 x3 x4 x5 res w0 hm hB1 hBw hG p1_0 p1_1 p1_2 p1_2n p1_2g p1_2d p2_0 p3_0 p4_0 p4_1 p4_2 hC4 hC4b p5_0
 unfold B_impl_indexer_part at hm
 refine goF func76 z z (lb z) fun fn hr => Ws (Ra z (Wn (Ws (Rm z (R z (rd_nil z) (R z (fd f_107_2 z) (R z (l1 g_36 z fid (hB1.at z)) (R z (lnR d_36 z (ownS.rep p1_2)) (Ra z (Wn (Ws (Rm z (Rm z (R z (rd_nil z) (R z (fd f_107_2 z) (R z (l1 g_36 z fid (hB1.at z)) (Rm z (Rm z (Rm z (R z (bP (parts := [(0, (.tmp 27)), (1, (.tmp 28)), (2, (.tmp 29))]) (cs := [Str.v x2, vI x3, vI x5, vI 0]) build_57 z z) (E z (ef_buildSlice [(.tmp 30)] el_36 z z z (szAll z) (lb z) (lb z)) ?_)))))))))))))))))))))
 rintro _ w2h ⟨rfl, h24⟩
 have h13 := h24.below
 have h3p : Blk w2h w0.z [Str.v x2, vI x3, vI x5, vI 0] := h24.blk
 have h77 := ownS_new1 h24 (Entry_mkO (x := (⟨x2, x3, x5, 0⟩ : Entry))  p2_0 p3_0 p5_0 (ii z))
 obtain ⟨x78, e3q, hm3r⟩ := bdS hm
 refine E z (ef_pushN (α := Entry) el_36 e3q z z (p1_2.ext h13) p1_2n h3p (Entry_mkO (x := (⟨x2, x3, x5, 0⟩ : Entry))  p2_0 p3_0 p5_0 (ii z)) all_nil nd_nil) ?_
 rintro _ w3s ⟨S10, a2i, n2j, c2k, rfl, s1j, h2l, h3t, h1p⟩
 refine R z (rd_nil z) (R z (fd f_107_2 z) (E0 (fs (cur' := [sl A0 N0 C0, sl A6 N6 C6, sl a2i n2j c2k]) z_36 z z ((hB1.ext h13).chg s1j (djs p1_2d)) z (lb z) (oA z) z) ?_))
 rintro _ w3u ⟨h3v, s3w⟩
 have h1d := s3w.one
 refine Wn (Wq (WC_draw (X := noX) 0 (.rd 0 (.rd 1 (.rd 2 (.rd 3 (.rd 4 (.rd 5 (.rd 6 (.rd 7 (.rd 8 (.rd 9 (.ef 10 (.rd 11 (.rd 12 (.rd 13 (.rd 14 (.rd 15 .done)))))))))))))))) mo (by kernel_rfl) fun w3x s19 _ => dR z z (mv z) (dR z z (rd_nil z) (dR z z (fd f_107_0 z) ?_))))
 have h25 := h3v.ext s19
 refine dR z z (lN (vs := [sl A0 N0 C0]) g_30 z_30 z z fid (h25.row 0 1 z)) (dR z z (mv z) (dR z z (mv z) (dR z z (rd_nil z) (dR z z (fd f_107_1 z) (dR z z (l1 g_25 z fid (h25.at z)) (dR z z (mv z) ?_))))))
 have h2m := (((p1_0.ext h13).chg s1j (lg p1_2g)).chg h1d (lg (mem1 hBw))).ext s19
 have h2n := (((p1_1.ext h13).chg s1j (lg p1_2g)).chg h1d (lg (mem1 hBw))).ext s19
 have h26 := lt_ (lt_ (lt_ h13.size s1j.size) h1d.size) s19.size
 obtain ⟨r1m, r79, e3y, hm3z⟩ := bd2S hm3r
 refine dE z z (fc call122 z (W_w2o (B := B) (x1 := (⟨x1.d.rules⟩ : Desc)) e3y (lt_ (lt_ hBw (Nat.le_of_lt (Blk.lt hB1))) h26) h2m p3_0 h2n p5_0)) (.inr fun _ _ h => chgB (h.1)) ?_
 rintro _ w1z ⟨s18, rfl, h2o, h7a⟩
 refine dR z z (mv z) (dR z z (ext_ z z) (dR z z (ext_ z z) (dR z z (asg z) (dR z z (asg z) (PR_done (Wo (Ws (Rm z (Ra z (Wn (Wq (Ws (Rm z (R z (rd_nil z) (R z (fd f_107_0 z) (R z (fd f_30_0 z) ?_))))))))))))))))
 have h27 := h25.ext s18
 refine R z (l1 g_28 z fid (h27.at z)) (Rm z ?_)
 obtain ⟨x1a, e40, hm41⟩ := bdS hm3z
 have h28 := h2m.ext s18
 refine RX z (at_ (α := Rule) d_28 z_80 z z z h28 e40) ?_
 rintro _ ⟨b7b, o7c, cs7d, rfl, h42, h43, h7e⟩
 obtain ⟨a2p, n2q, c2r, a2s, n2t, c2u, a2v, n2w, c2x, a2y, n2z, c30, rfl, h7f, h7g, h7h, h7i, h7j, h7k, h44⟩ := Rule_open h43
 refine R z (lN (vs := (vR x1a a2p n2q c2r a2s n2t c2u a2v n2w c2x a2y n2z c30)) g_80 z_80 z z fid h42) (E z (fa zero_80) ?_)
 rintro _ w31 ⟨rfl, h32⟩
 have h15 := h32.below
 have h45 : Blk w31 w1z.z [(Str.v (⟨[]⟩ : Str)), vI 0, vI 0, vB false, sl none 0 0, sl none 0 0, sl none 0 0, sl none 0 0] := h32.blk
 refine E0 (fs (cur' := (vR x1a a2p n2q c2r a2s n2t c2u a2v n2w c2x a2y n2z c30)) z_80 z z h45 z (lb z) (oA z) z) ?_
 rintro _ w1u ⟨h33, s46⟩
 have h16 := s46.one
 refine Wn (Ws (R z (fd f_80_1 z) (R z (l1 g_3 z fid (h33.at z)) (Wn (WC_block (Wq (Ws (R z (eql z z) (Ra z (Wn ?_))))))))))
 obtain ⟨u47, hu34, hm48⟩ := bdS hm41
 refine WC_cut (fun a w => ∃ (x29 : Bool), x29 = u47 ∧ Sat 126 [(0, pt g1), (1, Str.v x2), (2, vI x3), (3, (.pointer (some ⟨b4, o4, none⟩))), (11, vI (x1.list_.length : Int)), (12, vI r1m), (14, vI x5), (15, pt w1z.z), (59, vI x1a.kind), (60, vB x29)] a ∧ Below w1u.z w1u w) ?_ ?_
 ·refine Wc z (fun hc2a => ?_) (fun hc2a => ?_)
  ·exact WC_skip (fun _ q => ⟨x1a.kind == 5, som (ifT hu34 hc2a), (q.k (sc z (sc z (sc z (sc z (sc z (sc z (sc z (sc z (sc z (sc z sn))))))))))), (br w1u)⟩)
  exact Wg (R z (eql z z) (Ra z (Wl (fun _ q => ⟨x1a.kind == 7, som (ifF hu34 hc2a), (q.k (sc z (sc z (sc z (sc z (sc z (sc z (sc z (sc z (sc z (sc z sn))))))))))), (br w1u)⟩))))
 rintro a49 w1n ⟨x29, rfl, hS7l, s14⟩
 revert a49
 refine Wo ?_
 obtain ⟨u4a, hu35, hm4b⟩ := bdS hm48
 refine WC_cut (fun a w => ∃ (x20 : Int), x20 = u4a ∧ Sat 126 [(0, pt g1), (1, Str.v x2), (2, vI x3), (3, (.pointer (some ⟨b4, o4, none⟩))), (11, vI (x1.list_.length : Int)), (12, vI r1m), (14, vI x20)] a ∧ Below w1n.z w1n w ∧ inI x20) ?_ ?_
 ·refine Wc z (fun hc2b => ?_) (fun hc2b => ?_)
  ·refine WC_draw (X := noX) 0 (.rd 0 (.rd 1 (.rd 2 (.rd 3 (.rd 4 (.rd 5 (.rd 6 (.rd 7 (.rd 8 (.rd 9 (.rd 10 (.rd 11 (.rd 12 (.rd 13 (.rd 14 .done))))))))))))))) mo (by kernel_rfl) fun w7m s1v _ => dR z z (mv z) (dR z z (mv z) (dR z z (rd_nil z) (dR z z (fd f_107_0 z) (dR z z (fd f_30_0 z) ?_))))
   have h36 := lt_ h26 s18.size
   refine dR z z (l1 g_28 z fid (((((h27.ext h15).chg h16 (djs (mm1 (Blk.lt hB1) h36))).ext s14).ext s1v).at z)) (dR z z (fd f_80_7 z) (dR z z (l1 g_78 z fid (((h33.ext s14).ext s1v).at z)) ?_))
   obtain ⟨x7n, e4c, hm4d⟩ := bdS (ifT hu35 hc2b)
   have h37 := mem1le (lt_ (lt_ hBw (Nat.le_of_lt (Blk.lt hB1))) h36)
   refine dRX z z (at_ (α := Int) d_78 z_3 z z z ((((h44.ext h15).chg h16 (lg h37)).ext s14).ext s1v) e4c) ?_
   rintro _ ⟨b7o, o7p, cs7q, rfl, h4e, h4f, h7r⟩
   obtain ⟨rfl, h7s⟩ := Int_open h4f
   refine dR z z (l1 g_3 z fid (h4e.at0 z)) ?_
   obtain ⟨x4g, e4h, hm4i⟩ := bdS hm4d
   refine dRX z z (at_ (α := Rule) d_28 z_80 z z z ((((h28.ext h15).chg h16 (lg h37)).ext s14).ext s1v) e4h) ?_
   rintro _ ⟨b7t, o7u, cs7v, rfl, h4j, h4k, h7w⟩
   obtain ⟨a7x, n7y, c7z, a80, n81, c82, a83, n84, c85, a86, n87, c88, rfl, h89, h8a, h8b, h8c, h8d, h8e, h8f⟩ := Rule_open h4k
   exact dR z z (fd f_80_2 z) (dR z z (l1 g_3 z fid (h4j.at (j := 2) z)) (dR z z (add_ z z) (dR z z (asg z) (PR_done (fun _ q => ⟨iadd x5 x4g.size, som hm4i, (q.k (s7 z z z z z z z)), s1v, (iA _ _)⟩)))))
  refine Ws (R z (eql z z) (Ra z (Wn ?_)))
  obtain ⟨u4l, hu38, hm4m⟩ := bdS (ifF hu35 hc2b)
  refine WC_cut (fun a w => ∃ (x1w : Int), x1w = u4l ∧ Sat 126 [(0, pt g1), (1, Str.v x2), (2, vI x3), (3, (.pointer (some ⟨b4, o4, none⟩))), (11, vI (x1.list_.length : Int)), (12, vI r1m), (14, vI x1w)] a ∧ Below w1n.z w1n w ∧ inI x1w) ?_ ?_
  ·refine Wc z (fun hc2c => ?_) (fun hc2c => ?_)
   ·exact Wg (Rm z (R z (add_ z z) (Ra z (Wl (fun _ q => ⟨iadd x5 1, som (ifT hu38 hc2c), (q.k (s7 z z z z z z z)), (br w1n), (iA _ _)⟩)))))
   exact WC_skip (fun _ q => ⟨x5, som (ifF hu38 hc2c), (q.k (s7 z z z z z z z)), (br w1n), p5_0⟩)
  rintro a4n w8g ⟨x1w, rfl, hS8h, s4o, h4p⟩
  revert a4n
  exact fun _ q => ⟨x1w, som hm4m, (q.k (s7 z z z z z z z)), s4o, h4p⟩
 rintro a4q w11 ⟨x20, rfl, hS8i, s1b, h4r⟩
 revert a4q
 refine Wo (Wq (Ws (Rm z (R z (rd_nil z) (R z (fd f_52_2 z) ?_)))))
 have h1x := lt_ h26 s18.size
 have h1q := mem1le (lt_ (lt_ hBw (Nat.le_of_lt (Blk.lt hB1))) h1x)
 have h39 := ((((((((hC4.ext h13).chg s1j ((lg p1_2g) _ hC4b)).chg h1d ((lg (mem1 hBw)) _ hC4b)).ext s19).ext s18).ext h15).chg h16 ((lg h1q) _ hC4b)).ext s14).ext s1b
 refine R z (l1 g_50 z fid (h39.at (j := 2) z)) ?_
 have h3a := ((((((((p4_2.ext h13).chg s1j (lg p1_2g)).chg h1d (lg (mem1 hBw))).ext s19).ext s18).ext h15).chg h16 (lg h1q)).ext s14).ext s1b
 refine R z (lnR d_50 z h3a) (Rm z (Wn ?_))
 obtain ⟨u8j, hu4s, hm3b⟩ := bdS hm4b
 refine WC_forN (σ := Int × (List Entry)) (ρ := Int × (List Entry)) (fun (k2d : Nat) s a w => un2 (fun x1k x1r => ∃ a1e n1f c1g S12, Sat 126 [(0, pt g1), (1, Str.v x2), (2, vI x3), (3, (.pointer (some ⟨b4, o4, none⟩))), (11, vI (x1.list_.length : Int)), (12, vI r1m), (14, vI x1k), (85, vI (x4.items.length : Int)), (86, (vI ((k2d : Nat) : Int)))] a ∧ Chg (· ∈ ([g1] ++ S10)) w11 w ∧ inI x1k ∧ ownS w S12 (sl a1e n1f c1g) x1r ∧ S12.Nodup ∧ (∀ k ∈ S12, k ∈ S10 ∨ w11.z ≤ k) ∧ Blk w g1 [sl A0 N0 C0, sl A6 N6 C6, sl a1e n1f c1g]) s) (fun s a w => un2 (fun x1k x1r => ∃ a1e n1f c1g S12, Sat 126 [(0, pt g1), (11, vI (x1.list_.length : Int)), (12, vI r1m)] a ∧ Chg (· ∈ ([g1] ++ S10)) w11 w ∧ inI x1k ∧ ownS w S12 (sl a1e n1f c1g) x1r ∧ S12.Nodup ∧ (∀ k ∈ S12, k ∈ S10 ∨ w11.z ≤ k) ∧ Blk w g1 [sl A0 N0 C0, sl A6 N6 C6, sl a1e n1f c1g]) s) (fun r ex a w => ex = .ret ∧ RetPost prog fn (Q27 w0 g1 B A0 N0 C0 A6 N6 C6 AE NE CE S1_2 x1 r) a w) hu4s ?_ ?_ ?_ ?_ ?_
 ·have h4t : ∀ k ∈ S10, k ∉ [g1] := or2 h1p p1_2d all_nil (ltnot (mem1 (Blk.lt hB1)) h13.size)
  exact fun _ q => ⟨a2i, n2j, c2k, S10, (q.k (s9 z z z z z z z z z)), (cr ([g1] ++ S10) w11), h4r, (((((((h2l.chg h1d h4t).ext s19).ext s18).ext h15).chg h16 (dj_symm (mno (ownS.lt h2l) (lt_ (lt_ h1d.size s19.size) s18.size)))).ext s14).ext s1b), h3t, (io sr), ((((h27.ext h15).chg h16 (djs (mm1 (Blk.lt hB1) h1x))).ext s14).ext s1b)⟩
 ·rintro k2d ⟨x1k, x1r⟩ a8k w4u o8l hk21 ⟨a1e, n1f, c1g, S12, hS4v, s1l, h22, h1s, h1y, h1h, h1t⟩ hm4w
  have hm4x := un2S hm4w
  refine Wu ?_ hS4v
  refine Ws (R z (lss z z) (Wn (Wq (Wc z (fun _ => ?_) (fun hc => (nolt hk21 hc).elim)))))
  refine Wk (Wq (WC_block (Ws (Rm z (Ra z (Wn (WC_draw (X := noX) 67108864 (.rd 0 (.rd 1 (.rd 2 (.rd 3 (.rd 4 (.rd 5 (.rd 6 (.rd 7 (.rd 8 (.rd 11 (.rd 12 (.rd 13 (.rd 14 (.rd 15 (.rd 16 (.rd 17 (.rd 19 (.rd 20 (.rd 21 (.rd 22 (.rd 23 (.rd 24 (.rd 25 (.ef 9 (.rd 10 (.ef 18 (.ef 26 (.rd 27 .done)))))))))))))))))))))))))))) mo (by kernel_rfl) fun w4y s1c _ => dR z z (mv z) (dR z z (mv z) ?_))))))))
  obtain ⟨x8m, e4z, hm50⟩ := bdS hm4x
  refine dR z z (rd_catC z z e4z) (dR z z (mv z) (dR z z (rd_nil z) (dR z z (fd f_107_0 z) ?_)))
  have h2e := h1t.ext s1c
  refine dR z z (lN (vs := [sl A0 N0 C0]) g_30 z_30 z z fid (h2e.row 0 1 z)) ?_
  iterate 3 refine dR z z (mv z) ?_
  refine dR z z (rd_nil z) (dR z z (fd f_107_0 z) (dR z z (lN (vs := [sl A0 N0 C0]) g_30 z_30 z z fid (h2e.row 0 1 z)) ?_))
  iterate 4 refine dR z z (mv z) ?_
  refine dR z z (rd_nil z) (dR z z (fd f_52_2 z) ?_)
  have h1o : ∀ k ∈ S10, B ≤ k := or2 h1p p1_2g all_nil (lele (lt_ (lt_ hBw (Nat.le_of_lt (Blk.lt hB1))) h13.size))
  have h3c := (h39.chg s1l ((nmA (lg (mem1 hBw)) (lg h1o)) _ hC4b)).ext s1c
  refine dR z z (l1 g_50 z fid (h3c.at (j := 2) z)) (dR z z (mv z) ?_)
  obtain ⟨x8n, e51, hm52⟩ := bdS hm50
  have h3d := (h3a.chg s1l (nmA (lg (mem1 hBw)) (lg h1o))).ext s1c
  refine dRX z z (at_ (α := Val) d_50 z_52 z z z h3d e51) ?_
  rintro _ ⟨b8o, o8p, cs8q, rfl, h53, h54, h55⟩
  obtain ⟨a8r, n8s, c8t, a8u, n8v, c8w, rfl, h56, h57, h58⟩ := Val_open h54
  refine dR z z (mv z) ?_
  have h3e := (((((h28.ext h15).chg h16 (lg h1q)).ext s14).ext s1b).chg s1l (nmA (lg (mem1 hBw)) (lg h1o))).ext s1c
  have h3f := ((((((((((hG.ext h13).chg s1j (lg p1_2g)).chg h1d (lg (mem1 hBw))).ext s19).ext s18).ext h15).chg h16 (lg h1q)).ext s14).ext s1b).chg s1l (nmA (lg (mem1 hBw)) (lg h1o))).ext s1c
  have h2f := lt_ (lt_ (lt_ (lt_ h1x h15.size) h16.size) s14.size) s1b.size
  have h3g := lt_ (lt_ h2f s1l.size) s1c.size
  obtain ⟨r8x, e59, hm5a⟩ := bdS hm52
  refine dE z z (fc call123 z (W_w2q (B := B) (x1 := (⟨x1.d.rules⟩ : Desc)) e59 (lt_ (lt_ hBw (Nat.le_of_lt (Blk.lt hB1))) h3g) h3f h3e p3_0 (inI_cnt (Nat.le_of_lt hk21) (lt_ (repS.len p4_2) LEN_le)))) (.inr fun _ _ h => chgB (h.1)) ?_
  rintro _ w5b ⟨s17, rfl, h8y⟩
  obtain ⟨x8z, e3h, hm5c⟩ := bdS hm5a
  refine dR z z (rd_catC z z e3h) ?_
  have h3i := h3e.ext s17
  have h5d := (((((((((((p4_1.ext h13).chg s1j (lg p1_2g)).chg h1d (lg (mem1 hBw))).ext s19).ext s18).ext h15).chg h16 (lg h1q)).ext s14).ext s1b).chg s1l (nmA (lg (mem1 hBw)) (lg h1o))).ext s1c).ext s17
  obtain ⟨r90, e5e, hm5f⟩ := bdS hm5c
  refine dE z z (fc call124 z (W_w2r (B := B) (x1 := (⟨x1.d.rules⟩ : Desc)) e5e (lt_ (lt_ hBw (Nat.le_of_lt (Blk.lt hB1))) (lt_ h3g s17.size)) h3i p3_0 p4_0 h5d (h3d.ext s17) (h3c.ext s17) hC4b (inI_cnt (Nat.le_of_lt hk21) (lt_ (repS.len p4_2) LEN_le)))) (.inr fun _ _ h => chgB (h.1)) ?_
  rintro _ w5g ⟨s1i, rfl, h5h⟩
  have h5i : ∀ k ∈ S10, k ∉ [g1] := or2 h1p p1_2d all_nil (ltnot (mem1 (Blk.lt hB1)) h13.size)
  have h5j : ∀ k ∈ S12, k ∉ [g1] := or1 h1h h5i (ltnot (mem1 (Blk.lt hB1)) h2f)
  obtain ⟨r5k, r5l, e5m, hm5n⟩ := bd2S hm5f
  refine dE z z (fc call76 z (ih0.run (B := B) e5m ((h2e.ext s17).ext s1i) hBw ((h3f.ext s17).ext s1i) (h3i.ext s1i) (((((((((h2n.ext s18).ext h15).chg h16 (lg h1q)).ext s14).ext s1b).chg s1l (nmA (lg (mem1 hBw)) (lg h1o))).ext s1c).ext s17).ext s1i) (((h1s.ext s1c).ext s17).ext s1i) h1y (o1le h1h h1o (lt_ (lt_ hBw (Nat.le_of_lt (Blk.lt hB1))) h2f)) h5j (cat_len e3h) h5h h56 ((h57.ext s17).ext s1i) ((h58.ext s17).ext s1i) ((h53.ext s17).ext s1i) h55 h22)) (.inl z) ?_
  rintro _ w5o ⟨s5p, a5q, n5r, c5s, S3j, rfl, h5t, h5u, h5v, h5w, h5x⟩
  refine dR z z (asg z) (PR_done (Wo (Wg (R z (inc_ hk21 (lt_ (repS.len p4_2) LEN_le) z z) (Rm z (Wl ?_))))))
  have h5y : ∀ k ∈ S12, k ∈ S10 ∨ w11.z ≤ k := or1 h1h (io sr) (leor lr)
  have h5z : ∀ k ∈ S3j, k ∈ S10 ∨ w11.z ≤ k := or1 h5w h5y (leor (lt_ (lt_ (lt_ s1l.size s1c.size) s17.size) s1i.size))
  have h60 : Chg (· ∈ ([g1] ++ S10)) w11 w4u := cM (cr ([g1] ++ S10) w11) s1l (all_app (io (sub_l sr)) (io (sub_r sr)))
  have h61 : Chg (· ∈ ([g1] ++ S10)) w11 w4y := cext h60 s1c
  have h62 : Chg (· ∈ ([g1] ++ S10)) w11 w5b := cext h61 s17
  have h63 : Chg (· ∈ ([g1] ++ S10)) w11 w5g := cext h62 s1i
  have h64 : ∀ k ∈ S12, k ∈ ([g1] ++ S10) ∨ w11.z ≤ k := or1 h1h (io (sub_r sr)) (leor lr)
  have h65 : Chg (· ∈ ([g1] ++ S10)) w11 w5o := cM h63 s5p (all_app (io (sub_l sr)) h64)
  exact fun _ q => ⟨(r5k, r5l), (som hm5n).symm, ⟨a5q, n5r, c5s, S3j, (q.k (s9 z z z z z z z z z)), h65, h5t, h5u, h5v, h5z, h5x⟩⟩
 ·rintro ⟨x1k, x1r⟩ a91 w66 ⟨a1e, n1f, c1g, S12, hS67, s68, h22, h1s, h1y, h1h, h1t⟩
  refine Wu ?_ hS67
  refine Ws (R z (lss z z) (Wn (Wq (Wc z (fun hc => (noltt hc).elim) (fun _ => ?_)))))
  have h69 : ∀ k ∈ S12, k ∈ S10 ∨ w11.z ≤ k := or1 h1h (io sr) (leor lr)
  have h6a : Chg (· ∈ ([g1] ++ S10)) w11 w66 := cM (cr ([g1] ++ S10) w11) s68 (all_app (io (sub_l sr)) (io (sub_r sr)))
  exact WC_exit (fun a' ha' => ⟨rfl, ⟨a1e, n1f, c1g, S12, (Sat.weaken ha' (s3 z z z)), h6a, h22, h1s, h1y, h69, h1t⟩⟩)
 ·rintro ⟨x1k, x1r⟩ a6b w6c rfl ⟨a1e, n1f, c1g, S12, hS92, s3k, h22, h1s, h1y, h1h, h1t⟩
  have hm6d := elL hm3b
  have hm6e := un2S hm6d
  revert a6b
  refine Wo (Ws (Rm z (R z (rd_nil z) (R z (fd f_107_2 z) (R z (l1 g_36 z fid (h1t.at z)) (Rm z (Rm z ?_)))))))
  obtain ⟨x2g, e3l, hm6f⟩ := bdS hm6e
  refine RX z (rd_atQ (α := Entry) d_36 z_57 z z h1s e3l) ?_
  rintro _ ⟨g93, h6g, rfl⟩
  refine R z (fd f_57_3 z) ?_
  obtain ⟨x94, e6h, hm6i⟩ := bdS hm6f
  refine E0 (ef_setF (α := Entry) (v' := (⟨x2g.path, x2g.rule, x2g.start, r1m⟩ : Entry)) z_3 z h6g z z z z e3l e6h h1s h1y (lb z) (fun _ _ _ h => Entry_setO3 h h2o)) ?_
  rintro _ w6j ⟨S3m, s3n, h6k, h6l, h6m⟩
  refine Wn (Ws (Rm z (Ra z (Wn ?_))))
  obtain rfl := som hm6i
  have h6n : Chg (· ∈ ([g1] ++ S1_2)) w0 w2h := cext (cr ([g1] ++ S1_2) w0) h13
  have h6o : Chg (· ∈ ([g1] ++ S1_2)) w0 w3s := cM h6n s1j (io (sub_r sr))
  have h6p : Chg (· ∈ ([g1] ++ S1_2)) w0 w3u := cM h6o h1d (io (sub_l sr))
  have h6q : Chg (· ∈ ([g1] ++ S1_2)) w0 w3x := cext h6p s19
  have h6r : Chg (· ∈ ([g1] ++ S1_2)) w0 w1z := cext h6q s18
  have h6s : Chg (· ∈ ([g1] ++ S1_2)) w0 w31 := cext h6r h15
  have h6t : ∀ k ∈ [w1z.z], k ∈ ([g1] ++ S1_2) ∨ w0.z ≤ k := mor h1x
  have h6u : Chg (· ∈ ([g1] ++ S1_2)) w0 w1u := cM h6s h16 h6t
  have h6v : Chg (· ∈ ([g1] ++ S1_2)) w0 w1n := cext h6u s14
  have h6w : Chg (· ∈ ([g1] ++ S1_2)) w0 w11 := cext h6v s1b
  have h3o : ∀ k ∈ S10, k ∈ ([g1] ++ S1_2) ∨ w0.z ≤ k := or2 h1p (io (sub_r sr)) all_nil (leor h13.size)
  have h6x : Chg (· ∈ ([g1] ++ S1_2)) w0 w6c := cM h6w s3k (all_app (io (sub_l sr)) h3o)
  have h23 := lt_ (lt_ (lt_ (lt_ h1x h15.size) h16.size) s14.size) s1b.size
  have h6y : ∀ k ∈ S12, k ∈ ([g1] ++ S1_2) ∨ w0.z ≤ k := or1 h1h h3o (leor h23)
  have h6z : Chg (· ∈ ([g1] ++ S1_2)) w0 w6j := cM h6x s3n h6y
  have h70 : ∀ k ∈ S10, k ∈ S1_2 ∨ w0.z ≤ k := or2 h1p (io sr) all_nil (leor h13.size)
  have h71 : ∀ k ∈ S12, k ∈ S1_2 ∨ w0.z ≤ k := or1 h1h h70 (leor h23)
  have h72 : ∀ k ∈ S3m, k ∈ S1_2 ∨ w0.z ≤ k := or1 h6m h71 (leor (lt_ h23 s3k.size))
  have h73 : ∀ k ∈ S10, k ∉ [g1] := or2 h1p p1_2d all_nil (ltnot (mem1 (Blk.lt hB1)) h13.size)
  have h74 : ∀ k ∈ S12, k ∉ [g1] := or1 h1h h73 (ltnot (mem1 (Blk.lt hB1)) h23)
  exact Wr (ret1 hr z ⟨h6z, a1e, n1f, c1g, S3m, z, h2o, h6k, h6l, h72, (h1t.chg s3n (djs h74))⟩)
 rintro r95 ex96 a97 w98 rfl ⟨rfl, hq75⟩
 have hm76 := elR hm3b
 obtain rfl := som hm76
 exact ⟨hq75, z⟩
theorem A_w09 : ∀ n, I_impl_indexer_part n
  | 0 => ⟨fun hm => by intros; exact nomatch (show none = some _ from hm)⟩
  | n + 1 => T_w09 (A_w09 n)
theorem W_w09 : S_impl_indexer_part (F_impl_indexer_part n).impl_indexer_part := A_w09 n

theorem W_w2s {x1 : Desc} {x2 : List UInt8} {res : (List Entry) × Bool} (hm : M_impl_BuildIndex n x1 x2 = some res) (hBw : B ≤ w0.z) (hG : Gl w0 B) (p1_0 : repS w0 B (sl A0 N0 C0) x1.rules) (p2_0 : repS w0 B (sl A5 N5 C5) x2) : CallsR prog 28 [(.agg #[sl A0 N0 C0]), sl A5 N5 C5] w0 (Q13 w0 B res) := by
 unfold M_impl_BuildIndex at hm
 refine goF func28 z z (lb z) fun fn hr => Ws (E z (fb z) ?_)
 rintro _ w1u ⟨rfl, h1d⟩
 have h15 := h1d.below
 have h16 : Blk w1u w0.z [sl A0 N0 C0] := h1d.blk
 refine Ra z (Ra z (Wn (Ws (R z (lN (vs := [sl A0 N0 C0]) g_30 z_30 z z fid (h16.row 0 1 z)) (Rm z ?_)))))
 have h1e := p1_0.ext h15
 have h1f := p2_0.ext h15
 have h1g := hG.ext h15
 obtain ⟨r1v, r2s, r2t, e1w, hm1h⟩ := bd3S hm
 refine E z (fc call75 z (W_w2m (B := B) e1w (lt_ hBw h15.size) h1g h1e h1f)) ?_
 rintro _ w1x ⟨s12, a1y, n1z, c20, S2u, a21, n22, c23, S2v, rfl, h24, h17, h18, h2w, h2x, h2y, h2z⟩
 refine Rm z ?_
 iterate 3 refine R z (ext_ z z) ?_
 refine E z (fa zero_52) ?_
 rintro _ w1i ⟨rfl, h1j⟩
 have h10 := h1j.below
 have h1k : Blk w1i w1x.z [vI 0, sl none 0 0, sl none 0 0] := h1j.blk
 refine E0 (fs (cur' := [vI r1v.number, sl a1y n1z c20, sl a21 n22 c23]) z_52 z z h1k z (lb z) (oA z) z) ?_
 rintro _ w1l ⟨h25, s26⟩
 have h11 := s26.one
 refine Ra z (Ra z (Wn (Wq (Ws (Rm z (R z (nq z z) (Wn (Wc z (fun hc19 => ?_) (fun hc19 => ?_)))))))))
 ·refine Ws (E z (ef_lit0 (α := Entry) el_36) ?_)
  rintro _ w30 ⟨a27, n28, c29, rfl, s2a, h2b⟩
  refine Ra z (Ra z (Wn ?_))
  obtain rfl := som (ifT hm1h hc19)
  have h1m := lt_ h15.size s12.size
  exact Wr (ret2 hr z z ⟨(bup (bM (bup (bup h15 s12) h10) h11 (mem1le h1m)) s2a), a27, n28, c29, [w1l.z], z, h2b, nd_one, (mem1le (lt_ (lt_ h1m h10.size) h11.size))⟩)
 refine Wk (Ws ?_)
 have h1n := ((h16.ext s12).ext h10).chg h11 (djs (mm1 h16.lt s12.size))
 refine R z (lN (vs := [sl A0 N0 C0]) g_30 z_30 z z fid (h1n.row 0 1 z)) (Rm z (R z (bP (parts := [(0, (.tmp 20)), (1, (.tmp 21))]) (cs := [sl A0 N0 C0, sl A5 N5 C5, sl none 0 0]) build_107 z z) (E z (fb z) ?_)))
 rintro _ w2c ⟨rfl, h1o⟩
 have h13 := h1o.below
 have h2d : Blk w2c w1l.z [sl A0 N0 C0, sl A5 N5 C5, sl none 0 0] := h1o.blk
 refine Ra z (Wn (Ws (Rm z (R z (lN (vs := [sl A0 N0 C0]) g_30 z_30 z z fid ((h1n.ext h13).row 0 1 z)) ?_))))
 have h1a := lt_ h15.size s12.size
 have h1b := mem1le (lt_ hBw h1a)
 have h1p := (((h1e.ext s12).ext h10).chg h11 (lg h1b)).ext h13
 have h1q := lt_ h1a h10.size
 have h1r := lt_ h1q h11.size
 have h1s := lt_ h1r h13.size
 obtain ⟨r31, e2e, hm2f⟩ := bdS (ifF hm1h hc19)
 refine E z (fc call77 z (W_w0n (B := B) e2e (lt_ hBw h1s) h1p)) ?_
 rintro _ w32 ⟨s14, rfl, h2g⟩
 have h1c := lt_ hBw h1q
 obtain ⟨r33, r34, e2h, hm2i⟩ := bd2S hm2f
 refine E z (fc call76 z (W_w09.run (B := w1i.z) e2h (h2d.ext s14) h11.size ((((((h1g.ext s12).ext h10).chg h11 (lg h1b)).ext h13).ext s14).mono h1c) (repS.mono (h1p.ext s14) h1c) (repS.mono (((((h1f.ext s12).ext h10).chg h11 (lg h1b)).ext h13).ext s14) h1c) onL nd_nil all_nil all_nil (lb z) h2g h24 (repS.mono (ownS_rep ((((h17.ext h10).chg h11 (dj_symm (mnr (ownS.lt h17)))).ext h13).ext s14) (ownS.lt h17)) h10.size) (repS.mono (ownS_rep ((((h18.ext h10).chg h11 (dj_symm (mnr (ownS.lt h18)))).ext h13).ext s14) (ownS.lt h18)) h10.size) (((h25.ext h13).ext s14).row 0 3 z) h1k.lt (ii z))) ?_
 rintro _ w35 ⟨s2j, a2k, n2l, c2m, S1t, rfl, h36, h2n, h2o, h2p, h2q⟩
 refine Wn (Ws (Rm z (R z (rd_nil z) (R z (fd f_107_2 z) (R z (l1 g_36 z fid (h2q.at z)) (Ra z (Ra z (Wn ?_))))))))
 obtain rfl := som hm2i
 have h2r : ∀ k ∈ S1t, w0.z ≤ k := or1 h2p all_nil (lele (lt_ h1s s14.size))
 exact Wr (ret2 hr z z ⟨(bM (bup (bup (bM (bup (bup h15 s12) h10) h11 (mem1le h1a)) h13) s14) s2j (all_app (mem1le h1r) all_nil)), a2k, n2l, c2m, S1t, z, h2n, h2o, h2r⟩)
theorem W_w1h {x1 : Str} {x2 : UInt8} {res : (List Str)} (hm : M_impl_SplitText x1 x2 = some res) (hBw : B ≤ w0.z) (p1_0 : x1.b.length ≤ LEN) : CallsR prog 217 [Str.v x1, vU (byteI x2)] w0 (Q2 w0 B res) := by
 unfold M_impl_SplitText at hm
 refine goF func217 z z (lb z) fun fn hr => Ws (Ra z (Wn (Ws (E z (ef_lit0 (α := Str) el_77) ?_))))
 rintro _ w11 ⟨a22, n23, c24, rfl, s1k, h25⟩
 refine Ra z (Wn (Ws (Ra z (Wn (Wq (Ws (Ra z (Wn ?_))))))))
 obtain ⟨u3u, hu26, hm1s⟩ := bdS hm
 refine WC_forN (σ := (List Str) × Int) (ρ := (List Str)) (fun (k1b : Nat) s a w => un2 (fun x17 x15 => ∃ a12 n13 c14 S10, Sat 35 [(0, Str.v x1), (1, vU (byteI x2)), (5, sl a12 n13 c14), (6, vI x15), (7, (vI ((k1b : Nat) : Int)))] a ∧ Chg (· ∈ [w0.z]) w11 w ∧ ownS w S10 (sl a12 n13 c14) x17 ∧ S10.Nodup ∧ (∀ k ∈ S10, k ∈ [w0.z] ∨ w11.z ≤ k) ∧ inI x15) s) (fun s a w => un2 (fun x17 x15 => ∃ a12 n13 c14 S10, Sat 35 [(0, Str.v x1), (5, sl a12 n13 c14), (6, vI x15)] a ∧ Chg (· ∈ [w0.z]) w11 w ∧ ownS w S10 (sl a12 n13 c14) x17 ∧ S10.Nodup ∧ (∀ k ∈ S10, k ∈ [w0.z] ∨ w11.z ≤ k) ∧ inI x15) s) (fun r ex a w => ex = .ret ∧ RetPost prog fn (Q2 w0 B r) a w) hu26 ?_ ?_ ?_ ?_ ?_
 ·exact fun _ q => ⟨a22, n23, c24, [w0.z], (q.k (s5 z z z z z)), (cr [w0.z] w11), h25, nd_one, (io sr), (ii z)⟩
 ·rintro k1b ⟨x17, x15⟩ a3v w16 o3w hk1e ⟨a12, n13, c14, S10, hS27, s1t, h18, h19, h1c, h1f⟩ hm28
  have hm29 := un2S hm28
  refine Wu ?_ hS27
  refine Wq (Ws (Rm z (Rm z (R z (lnT d_9 z) (R z (lss z z) (Wn (Wc z (fun _ => ?_) (fun hc => (nolt hk1e hc).elim))))))))
  refine Wk (Wq (WC_block (Ws (Rm z (Rm z ?_)))))
  obtain ⟨x3x, e1u, hm2a⟩ := bdS hm29
  refine R z (rd_indexStr d_9 z z (idxS e1u).1 (idxS e1u).2.1) (Rm z (R z (eql z z) (Wn ?_)))
  obtain ⟨u2b, hu1v, hm2c⟩ := bdS hm2a
  refine WC_cut (fun a w => ∃ (x1g : List Str) (x1d : Int), (x1g, x1d) = u2b ∧ ∃ a1h n1i c1j S1a, Sat 35 [(0, Str.v x1), (1, vU (byteI x2)), (5, sl a1h n1i c1j), (6, vI x1d), (7, (vI ((k1b : Nat) : Int)))] a ∧ Chg (· ∈ S10) w16 w ∧ ownS w S1a (sl a1h n1i c1j) x1g ∧ S1a.Nodup ∧ (∀ k ∈ S1a, k ∈ S10 ∨ w16.z ≤ k) ∧ inI x1d) ?_ ?_
  ·refine Wc z (fun hc1l => ?_) (fun hc1l => ?_)
   ·refine Ws (Rm z (Rm z (Rm z (Rm z ?_))))
    obtain ⟨x2d, e1m, hm2e⟩ := bdS (ifT hu1v hc1l)
    refine R z (rd_sliceT d_9 z z z p1_0 e1m) (E z (ef_buildSlice [(.tmp 24)] el_77 z z z (szAll z) (lb z) (lb z)) ?_)
    rintro _ w1w ⟨rfl, h1n⟩
    have h1o := h1n.below
    have h2f : Blk w1w w16.z [Str.v x2d] := h1n.blk
    have h3y := ownS_new1 h1n (Str_own (slcT_len e1m p1_0))
    obtain ⟨x2g, e2h, hm2i⟩ := bdS hm2e
    refine E z (ef_pushN (α := Str) el_77 e2h z z (h18.ext h1o) h19 h2f (Str_own (slcT_len e1m p1_0)) all_nil nd_nil) ?_
    rintro _ w2j ⟨S1x, a2k, n2l, c2m, rfl, s2n, h2o, h2p, h2q⟩
    refine Ra z (Wn (Wg (Rm z (R z (inc_ hk1e (lt_ p1_0 LEN_le) z z) (Ra z (Wl ?_))))))
    have h2r : ∀ k ∈ S1x, k ∈ S10 ∨ w16.z ≤ k := or2 h2q (io sr) all_nil (leor h1o.size)
    have h2s : Chg (· ∈ S10) w16 w1w := cext (cr S10 w16) h1o
    have h2t : Chg (· ∈ S10) w16 w2j := cM h2s s2n (io sr)
    exact fun _ q => ⟨x2g, ((k1b + 1 : Nat) : Int), som hm2i, a2k, n2l, c2m, S1x, (q.k (s5 z z z z z)), h2t, h2o, h2p, h2r, (inI_cnt (Nat.succ_le_of_lt hk1e) (lt_ p1_0 LEN_le))⟩
   exact WC_skip (fun _ q => ⟨x17, x15, som (ifF hu1v hc1l), a12, n13, c14, S10, (q.k (s5 z z z z z)), (cr S10 w16), h18, h19, (io sr), h1f⟩)
  rintro a2u w2v ⟨x1g, x1d, rfl, a1h, n1i, c1j, S1a, hS3z, s2w, h2x, h2y, h2z, h30⟩
  have hm31 := un2S hm2c
  revert a2u
  refine Wo (Wg (Rm z (R z (inc_ hk1e (lt_ p1_0 LEN_le) z z) (Ra z (Wl ?_)))))
  have h1y : ∀ k ∈ S10, k ∈ [w0.z] ∨ w11.z ≤ k := or1 h1c (io sr) (leor lr)
  have h32 : ∀ k ∈ S1a, k ∈ [w0.z] ∨ w11.z ≤ k := or1 h2z h1y (leor s1t.size)
  have h33 : Chg (· ∈ [w0.z]) w11 w16 := cM (cr [w0.z] w11) s1t (io sr)
  have h34 : Chg (· ∈ [w0.z]) w11 w2v := cM h33 s2w h1y
  exact fun _ q => ⟨(x1g, x1d), (som hm31).symm, ⟨a1h, n1i, c1j, S1a, (q.k (s5 z z z z z)), h34, h2x, h2y, h32, h30⟩⟩
 ·rintro ⟨x17, x15⟩ a40 w35 ⟨a12, n13, c14, S10, hS36, s37, h18, h19, h1c, h1f⟩
  refine Wu ?_ hS36
  refine Wq (Ws (Rm z (Rm z (R z (lnT d_9 z) (R z (lss z z) (Wn (Wc z (fun hc => (noltt hc).elim) (fun _ => ?_))))))))
  have h38 : ∀ k ∈ S10, k ∈ [w0.z] ∨ w11.z ≤ k := or1 h1c (io sr) (leor lr)
  have h39 : Chg (· ∈ [w0.z]) w11 w35 := cM (cr [w0.z] w11) s37 (io sr)
  exact WC_exit (fun a' ha' => ⟨rfl, ⟨a12, n13, c14, S10, (Sat.weaken ha' (s3 z z z)), h39, h18, h19, h38, h1f⟩⟩)
 ·rintro ⟨x17, x15⟩ a3a w3b rfl ⟨a12, n13, c14, S10, hS41, s1z, h18, h19, h1c, h1f⟩
  have hm3c := elL hm1s
  have hm3d := un2S hm3c
  revert a3a
  refine Wo (Ws (Rm z (Rm z (Rm z ?_))))
  obtain ⟨x3e, e1p, hm3f⟩ := bdS hm3d
  refine R z (rd_sliceT d_9 z z z p1_0 e1p) (E z (ef_buildSlice [(.tmp 32)] el_77 z z z (szAll z) (lb z) (lb z)) ?_)
  rintro _ w3g ⟨rfl, h1q⟩
  have h1r := h1q.below
  have h3h : Blk w3g w3b.z [Str.v x3e] := h1q.blk
  have h42 := ownS_new1 h1q (Str_own (slcT_len e1p p1_0))
  obtain ⟨x43, e3i, hm3j⟩ := bdS hm3f
  refine E z (ef_pushN (α := Str) el_77 e3i z z (h18.ext h1r) h19 h3h (Str_own (slcT_len e1p p1_0)) all_nil nd_nil) ?_
  rintro _ w44 ⟨S20, a3k, n3l, c3m, rfl, s3n, h3o, h3p, h3q⟩
  refine Ra z (Wn ?_)
  obtain rfl := som hm3j
  have h21 : ∀ k ∈ S10, w0.z ≤ k := or1 h1c (mem1 lr) (lele s1k.size)
  have h3r : ∀ k ∈ S20, w0.z ≤ k := or2 h3q h21 all_nil (lele (lt_ (lt_ s1k.size s1z.size) h1r.size))
  exact Wr (ret1 hr z ⟨(bM (bup (bM s1k s1z (mem1 lr)) h1r) s3n h21), a3k, n3l, c3m, S20, z, h3o, h3p, h3r⟩)
 rintro r45 ex46 a47 w48 rfl ⟨rfl, hq3s⟩
 have hm3t := elR hm1s
 obtain rfl := som hm3t
 exact ⟨hq3s, z⟩
theorem W_w1i {x1 : Str} {res : Int × Bool} (hm : M_impl_ParseInt x1 = some res) (hBw : B ≤ w0.z) (p1_0 : x1.b.length ≤ LEN) : CallsR prog 182 [Str.v x1] w0 (Q14 w0 B res) := by
 unfold M_impl_ParseInt at hm
 refine goF func182 z z (lb z) fun fn hr => Ws (Ra z (Ra z (Wn (Wq (Wq ?_)))))
 obtain ⟨u1v, hu1f, hm1g⟩ := bdS hm
 refine WC_cut (fun a w => ∃ (x1a : Bool), x1a = u1v ∧ Sat 50 [(0, Str.v x1), (22, vB x1a)] a ∧ Below w0.z w0 w) ?_ ?_
 ·refine Wg (Rm z (R z (rd_eqlT z z) (Rm z ?_)))
  rcases bs (x1.b == (⟨[]⟩ : Str).b) with hc13 | hc13
  ·iterate 3 refine Nh z hc13 ?_
   exact R z (pT z hc13 z) (Rm z (Nh z z (Nh z z (Nh z z (Nh z z (Nv z (Nv z (Nv z (Nh z z (R z (pT z z z) (Wl (fun _ q => ⟨true, som (ifT hu1f hc13), (q.k (s2 z z)), (br w0)⟩))))))))))))
  have hm1h := ifF hu1f hc13
  refine Rh z hc13 (mv z) (Rh z hc13 (lnT d_9 z) (Rh z hc13 (rd_gtr z z) (R z (pF z hc13 z) (Rm z ?_))))
  rcases bs (decide (13 < (x1.b.length : Int))) with hc10 | hc10
  ·iterate 4 refine Nh z hc10 ?_
   exact Nv z (Nv z (Nv z (Nh z hc10 (R z (pT z hc10 z) (Wl (fun _ q => ⟨true, som (ifT hm1h hc10), (q.k (s2 z z)), (br w0)⟩))))))
  refine Rh z hc10 (mv z) ?_
  obtain ⟨x1w, e1i, hm1j⟩ := bdS (ifF hm1h hc10)
  refine Rh z hc10 (rd_indexStr d_9 z z (idxS e1i).1 (idxS e1i).2.1) (Rh z hc10 (eql z z) (Rh z hc10 (mv z) ?_))
  rcases bs ((byteI x1w) == (byteI (48 : UInt8))) with hc14 | hc14
  ·exact Rh z hc14 (mv z) (Rh z hc14 (lnT d_9 z) (Rh z hc14 (rd_gtr z z) (Rh z hc10 (pT z hc14 z) (R z (pF z hc10 z) (Wl (fun _ q => ⟨decide (1 < (x1.b.length : Int)), som (ifT hm1j hc14), (q.k (s2 z z)), (br w0)⟩))))))
  iterate 3 refine Nh z hc14 ?_
  exact Rh z hc10 (pF z hc14 z) (R z (pF z hc10 z) (Wl (fun _ q => ⟨false, som (ifF hm1j hc14), (q.k (s2 z z)), (br w0)⟩)))
 rintro a1x w15 ⟨x1a, rfl, hS2e, s16⟩
 revert a1x
 refine Wo (Wc z (fun hc1b => ?_) (fun hc1b => ?_))
 ·refine Ws (Ra z (Ra z (Wn ?_)))
  obtain rfl := som (ifT hm1g hc1b)
  exact Wr (ret2 hr z z ⟨s16, z, (ii z)⟩)
 refine Wk (Ws (Ra z (Wn (Wq (Ws (Ra z (Wn ?_)))))))
 obtain ⟨u2f, hu1y, hm1k⟩ := bdS (ifF hm1g hc1b)
 refine WC_forN (σ := Int) (ρ := Int × Bool) (fun (k17 : Nat) (x11 : Int) a w => Sat 50 [(0, Str.v x1), (4, vI x11), (5, (vI ((k17 : Nat) : Int)))] a ∧ Below w15.z w15 w ∧ inI x11) (fun (x11 : Int) a w => Sat 50 [(4, vI x11)] a ∧ Below w15.z w15 w ∧ inI x11) (fun r ex a w => ex = .ret ∧ RetPost prog fn (Q14 w0 B r) a w) hu1y ?_ ?_ ?_ ?_ ?_
 ·exact fun _ q => ⟨(q.k (s3 z z z)), (br w15), (ii z)⟩
 ·rintro k17 x11 a2g w18 o2h hk1l ⟨hS1z, s1m, h19⟩ hm20
  refine Wu ?_ hS1z
  refine Wq (Ws (Rm z (Rm z (R z (lnT d_9 z) (R z (lss z z) (Wn (Wc z (fun _ => ?_) (fun hc => (nolt hk1l hc).elim))))))))
  refine Wk (Wq (WC_block (Wq (Wq ?_))))
  obtain ⟨u21, hu22, hm1n⟩ := bdS hm20
  refine WC_cut (fun a w => ∃ (x1c : Bool), x1c = u21 ∧ Sat 50 [(0, Str.v x1), (4, vI x11), (5, (vI ((k17 : Nat) : Int))), (38, vB x1c)] a ∧ Below w18.z w18 w) ?_ ?_
  ·refine Wg (Rm z (Rm z ?_))
   obtain ⟨x23, e1o, hm1p⟩ := bdS hu22
   refine R z (rd_indexStr d_9 z z (idxS e1o).1 (idxS e1o).2.1) (R z (lss z z) (Rm z ?_))
   rcases bs (decide ((byteI x23) < (byteI (48 : UInt8)))) with hc12 | hc12
   ·iterate 4 refine Nh z hc12 ?_
    exact R z (pT z hc12 z) (Wl (fun _ q => ⟨true, som (ifT hm1p hc12), (q.k (s4 z z z z)), (br w18)⟩))
   refine Rh z hc12 (mv z) (Rh z hc12 (mv z) ?_)
   obtain ⟨x24, e1q, hm25⟩ := bdS (ifF hm1p hc12)
   exact Rh z hc12 (rd_indexStr d_9 z z (idxS e1q).1 (idxS e1q).2.1) (Rh z hc12 (rd_gtr z z) (R z (pF z hc12 z) (Wl (fun _ q => ⟨decide ((byteI (57 : UInt8)) < (byteI x24)), som hm25, (q.k (s4 z z z z)), (br w18)⟩))))
  rintro a26 w2i ⟨x1c, rfl, hS2j, s1r⟩
  revert a26
  refine Wo (Wc z (fun hc1d => ?_) (fun hc1d => ?_))
  ·exact Ws (Ra z (Ra z (Wn (Wr (rtO (QO_retL (som (ifT hm1n hc1d)).symm (ret2 hr z z ⟨(bup (bup s16 s1m) s1r), z, (ii z)⟩)))))))
  refine Wk (Wg (Rm z (R z (rd_mul z z) (Rm z (Rm z ?_)))))
  obtain ⟨x27, e1s, hm28⟩ := bdS (ifF hm1n hc1d)
  exact R z (rd_indexStr d_9 z z (idxS e1s).1 (idxS e1s).2.1) (R z (rd_subB z z) (R z (rd_convUI d_5 d_3 z) (R z (add_ z z) (Ra z (Wn (Wg (Rm z (R z (inc_ hk1l (lt_ p1_0 LEN_le) z z) (Ra z (Wl (fun _ q => ⟨iadd (imul 10 x11) (byteI (mkB (byteI x27 - byteI (48 : UInt8)))), (som hm28).symm, ⟨(q.k (s3 z z z)), (bup s1m s1r), (iA _ _)⟩⟩)))))))))))
 ·rintro x11 a2k w2l ⟨hS29, s2a, h19⟩
  refine Wu ?_ hS29
  refine Wq (Ws (Rm z (Rm z (R z (lnT d_9 z) (R z (lss z z) (Wn (Wc z (fun hc => (noltt hc).elim) (fun _ => ?_))))))))
  exact WC_exit (fun a' ha' => ⟨rfl, ⟨(Sat.weaken ha' (s1 z)), s2a, h19⟩⟩)
 ·rintro x11 a2b w2m rfl ⟨hS2n, s1t, h19⟩
  have hm1u := elL hm1k
  revert a2b
  refine Wo (Wq (Ws (Rm z (R z (rd_gtr z z) (Wn (Wc z (fun hc1e => ?_) (fun hc1e => ?_)))))))
  ·refine Ws (Ra z (Ra z (Wn ?_)))
   obtain rfl := som (ifT hm1u hc1e)
   exact Wr (ret2 hr z z ⟨(bup s16 s1t), z, (ii z)⟩)
  refine Wk (Ws (Rm z (Ra z (Ra z (Wn ?_)))))
  obtain rfl := som (ifF hm1u hc1e)
  exact Wr (ret2 hr z z ⟨(bup s16 s1t), z, h19⟩)
 rintro r2o ex2p a2q w2r rfl ⟨rfl, hq2c⟩
 have hm2d := elR hm1k
 obtain rfl := som hm2d
 exact ⟨hq2c, z⟩
theorem W_w1j {x1 : Str} {res : Bool} (hm : M_impl_IsStep n x1 = some res) (hBw : B ≤ w0.z) (p1_0 : x1.b.length ≤ LEN) : CallsR prog 156 [Str.v x1] w0 (Q7 w0 B res) := by
 unfold M_impl_IsStep at hm
 refine goF func156 z z (lb z) fun fn hr => Ws (Ra z (Wn (Wq (Wq ?_))))
 obtain ⟨u1b, hu1c, hm17⟩ := bdS hm
 refine WC_cut (fun a w => ∃ (x14 : Bool), x14 = u1b ∧ Sat 25 [(0, Str.v x1), (18, vB x14)] a ∧ Below w0.z w0 w) ?_ ?_
 ·refine Wg (Rm z ?_)
  obtain ⟨r1d, e1e, hm18⟩ := bdS hu1c
  refine E z (fc call181 z (W_w0p (B := B) e1e hBw p1_0)) ?_
  rintro _ w1j ⟨s13, rfl⟩
  refine Rm z ?_
  rcases bs r1d with hc10 | hc10
  ·exact Nh z hc10 (Nh z hc10 (R z (pT z hc10 z) (Rm z (Nh z z (Nh z z (R z (pT z z z) (Rm z (Nh z z (Nh z z (R z (pT z z z) (Wl (fun _ q => ⟨true, som (ifT hm18 hc10), (q.k (s2 z z)), s13⟩))))))))))))
  have hm19 := ifF hm18 hc10
  refine Rh z hc10 (mv z) (Rh z hc10 (rd_eqlT z z) (R z (pF z hc10 z) (Rm z ?_)))
  rcases bs (x1.b == (⟨[42]⟩ : Str).b) with hc11 | hc11
  ·exact Nh z hc11 (Nh z hc11 (R z (pT z hc11 z) (Rm z (Nh z z (Nh z z (R z (pT z z z) (Wl (fun _ q => ⟨true, som (ifT hm19 hc11), (q.k (s2 z z)), s13⟩))))))))
  have hm1a := ifF hm19 hc11
  refine Rh z hc11 (mv z) (Rh z hc11 (rd_eqlT z z) (R z (pF z hc11 z) (Rm z ?_)))
  rcases bs (x1.b == (⟨[63]⟩ : Str).b) with hc12 | hc12
  ·exact Nh z hc12 (Nh z hc12 (R z (pT z hc12 z) (Wl (fun _ q => ⟨true, som (ifT hm1a hc12), (q.k (s2 z z)), s13⟩))))
  exact Rh z hc12 (mv z) (Rh z hc12 (rd_eqlT z z) (R z (pF z hc12 z) (Wl (fun _ q => ⟨x1.b == (⟨[43]⟩ : Str).b, som (ifF hm1a hc12), (q.k (s2 z z)), s13⟩))))
 rintro a1f w1k ⟨x14, rfl, hS1l, s15⟩
 revert a1f
 refine Wo (Wc z (fun hc16 => ?_) (fun hc16 => ?_))
 ·refine Ws (Ra z (Wn ?_))
  obtain rfl := som (ifT hm17 hc16)
  exact Wr (ret1 hr z ⟨s15, z⟩)
 refine Wk (Ws (Rm z ?_))
 obtain ⟨r1m, r1n, e1g, hm1h⟩ := bd2S (ifF hm17 hc16)
 refine E z (fc call182 z (W_w1i (B := B) e1g (lt_ hBw s15.size) p1_0)) ?_
 rintro _ w1o ⟨s1i, rfl, h1p⟩
 refine Rm z (R z (ext_ z z) (R z (ext_ z z) (Ra z (Ra z (Wn (Ws (Rm z (Ra z (Wn ?_)))))))))
 obtain rfl := som hm1h
 exact Wr (ret1 hr z ⟨(bup s15 s1i), z⟩)
theorem W_w2t {x1 : Str} {res : Bool} (hm : M_impl_splitPattern_1 n x1 = some res) (hBw : B ≤ w0.z) (p1_0 : x1.b.length ≤ LEN) : CallsR prog 155 [Str.v x1] w0 (Q7 w0 B res) := by
 unfold M_impl_splitPattern_1 at hm
 refine goF func155 z z (lb z) fun fn hr => Ws (Ra z (Wn (Wq ?_)))
 obtain ⟨u16, hu17, hm18⟩ := bdS hm
 refine WC_cut (fun a w => ∃ (x12 : Bool), x12 = u16 ∧ Sat 13 [(2, vB x12)] a ∧ Below w0.z w0 w) ?_ ?_
 ·refine Wg (Rm z ?_)
  obtain ⟨r19, e1a, hm14⟩ := bdS hu17
  refine E z (fc call156 z (W_w1j (B := B) e1a hBw p1_0)) ?_
  rintro _ w1d ⟨s13, rfl⟩
  refine Rm z ?_
  rcases bs r19 with hc10 | hc10
  ·exact Nh z hc10 (Nh z hc10 (R z (pT z hc10 z) (Rm z (Nh z z (Nh z z (R z (pT z z z) (Ra z (Wl (fun _ q => ⟨true, som (ifT hm14 hc10), (q.k (s1 z)), s13⟩)))))))))
  have hm15 := ifF hm14 hc10
  refine Rh z hc10 (mv z) (Rh z hc10 (rd_eqlT z z) (R z (pF z hc10 z) (Rm z ?_)))
  rcases bs (x1.b == (⟨[35]⟩ : Str).b) with hc11 | hc11
  ·exact Nh z hc11 (Nh z hc11 (R z (pT z hc11 z) (Ra z (Wl (fun _ q => ⟨true, som (ifT hm15 hc11), (q.k (s1 z)), s13⟩)))))
  exact Rh z hc11 (mv z) (Rh z hc11 (rd_eqlT z z) (R z (pF z hc11 z) (Ra z (Wl (fun _ q => ⟨x1.b == (⟨[46, 46]⟩ : Str).b, som (ifF hm15 hc11), (q.k (s1 z)), s13⟩)))))
 rintro a1b w1e ⟨x12, rfl, hS1f, s1c⟩
 revert a1b
 refine Wo ?_
 obtain rfl := som hm18
 exact Wr (ret1 hr z ⟨s1c, z⟩)
def Q28 (w0 : World) (B : Nat) (r : (List Str) × Bool) (v : Value) (w' : World) : Prop := Bw w0 w' ∧ un2 (fun r1 r2 => ∃ (a1 : Option Addr) (n1 c1 : Nat) (S1 : List Nat), v = .tuple #[(sl a1 n1 c1), (vB r2)] ∧ ownS w' S1 (sl a1 n1 c1) r1 ∧ S1.Nodup ∧ (∀ k ∈ S1, w0.heap.size ≤ k)) r
theorem split_stops_impl_splitWith_impl_splitPattern_1 {w : World} {gp b : Nat} {s : Str} {l0 parts : List Str} (hs : s.b.length ≤ LEN) (hm : M_impl_SplitText s (47 : UInt8) = some l0) (hsl : slc l0 1 (l0.length : Int) = some parts) (hp : Blk w gp [Str.v s]) (hb : b < w.heap.size) (hrow : ∀ g, rowOf w b g → g < w.heap.size) :
    SeqStopsK (α := {x : Str // x ∈ parts ∧ x.b.length ≤ LEN}) Fence.wide 1 Tryz.prog 216 [pt gp].toArray (fun x => #[x.1.v]) (KpS b) (fun xs => xs.map (·.1) = parts) (fun _ => True) parts.length w := by
  intro l J Jx W hW hJ hJx hY h0
  have hpW := hp.ext hW
  have hrowW : ∀ g, rowOf W b g → g < W.heap.size := fun g ⟨n, c, h⟩ => by
    have h' : w.cell? ⟨b, 0, none⟩ = some (sl (some ⟨g, 0, none⟩) n c) := (World.cell?_of_block (w := w) (w' := W) (a := ⟨b, 0, none⟩) (hW.block b hb)).symm.trans h
    exact Nat.lt_of_lt_of_le (hrow g ⟨n, c, h'⟩) hW.size
  have hbW := Nat.lt_of_lt_of_le hb hW.size
  have hc : CallsR Tryz.prog 216 [.func (.yield l) #[] #[], pt gp] W (fun _ W' => (∃ xs : List {x : Str // x ∈ parts ∧ x.b.length ≤ LEN}, xs.map (·.1) = parts ∧ J xs W') ∨ (∃ pre, True ∧ Jx pre W')) := by
    obtain ⟨fn, hf, hbd, hN, hr⟩ := fnE Tryz.func216
    refine CallsR_of_WC hf (hbd.trans rfl) (hN.trans rfl) (Nat.le_of_ble_eq_true rfl) ?_
    refine WC_seq (WC_region ?_)
    refine R rfl (rd_load1 g_9 rfl (fun h => h) (hpW.at rfl)) ?_
    refine E rfl (ef_call Tryz.call217 rfl (W_w1h (B := W.heap.size) hm (Nat.le_refl _) hs)) ?_
    rintro _ W1 ⟨s1, a1, n1, c1, S1, rfl, ho, nd, hge⟩
    refine RX rfl (rd_sliceG d_77 z_9 rfl ho rfl rfl hsl) ?_
    intro v7 hv7
    obtain ⟨ao7, c7, rfl, _⟩ := id hv7
    refine R rfl (rd_lenR d_77 rfl (hv7.repS (B := W1.heap.size) (fun k hk => ho.lt k hk))) ?_
    refine R rfl (rd_move rfl) ?_
    refine WL_nil (WC.of_KC ?_)
    have hJ1 : J [] W1 := hJ [] W W1 none h0 (Below.grows s1) (fun r h => by cases h)
    have hb1 : b ∉ S1 := fun h => absurd (hge b h) (Nat.not_le.2 hbW)
    have hr1 : ∀ g, rowOf W1 b g → g ∉ S1 := fun g ⟨n, c, h⟩ hg => by
      have h' : W.cell? ⟨b, 0, none⟩ = some (sl (some ⟨g, 0, none⟩) n c) := (World.cell?_of_block (w := W) (w' := W1) (a := ⟨b, 0, none⟩) (s1.block b hbW)).symm.trans h
      exact absurd (hge g hg) (Nat.not_le.2 (hrowW g ⟨n, c, h'⟩))
    have hlenL : parts.length ≤ 9223372036854775807 := Nat.le_trans (by obtain ⟨_, _, _, _, h, _⟩ := hv7; exact h) LEN_le
    refine WC_block fun a ha => ?_
    refine Code.wp_mono (Q := Exit.then noK (fun ex a w => (ex = .exit 0 ∧ RetPost Tryz.prog fn (fun _ W' => (∃ xs : List {x : Str // x ∈ parts ∧ x.b.length ≤ LEN}, xs.map (·.1) = parts ∧ J xs W') ∨ (∃ pre, True ∧ Jx pre W')) a w) ∨ (ex = .ret ∧ RetPost Tryz.prog fn (fun _ W' => (∃ xs : List {x : Str // x ∈ parts ∧ x.b.length ≤ LEN}, xs.map (·.1) = parts ∧ J xs W') ∨ (∃ pre, True ∧ Jx pre W')) a w))) (fun ex a' w' q => ?_) (wp_loop_ghost (fun m a w => ∃ (k : Nat) (pre : List {x : Str // x ∈ parts ∧ x.b.length ≤ LEN}), k + m = parts.length ∧ pre.map (·.1) = parts.take k ∧ Sat 18 [(9, vI (k : Int)), (8, vI (parts.length : Int)), (7, sl ao7 parts.length c7), (0, .func (.yield l) #[] #[])] a ∧ J pre w ∧ ownS w S1 (sl a1 n1 c1) l0 ∧ (∀ g, rowOf w b g → g ∉ S1) ∧ rowS w (· ∈ S1) (sl ao7 parts.length c7) parts) parts.length ?_ ?_)
    · cases ex with
      | normal => exact (show False from q).elim
      | exit i =>
        rcases q with ⟨h, q⟩ | ⟨h, _⟩
        · cases h; exact q
        · cases h
      | ret =>
        rcases q with ⟨h, _⟩ | ⟨_, q⟩
        · cases h
        · exact q
      | _ => rcases q with ⟨h, _⟩ | ⟨h, _⟩ <;> cases h
    · exact ⟨0, [], by omega, by simp, ha.weaken (sc rfl (sc rfl (sc rfl (sc rfl sn)))), hJ1, ho, hr1, hv7⟩
    · rintro m a w ⟨k, pre, hkm, hpre, hsat, hJw, how, hrw, hvw⟩
      refine WC_run (N := 18) (e := [(9, vI (k : Int)), (8, vI (parts.length : Int)), (7, sl ao7 parts.length c7), (0, .func (.yield l) #[] #[])]) ?_ hsat
      refine WC_seq (WC_region (R rfl (rd_lss rfl rfl) (WL_nil (WC.of_KC ?_))))
      refine WC_seq (WC_cond rfl (fun hc => ?_) (fun hc => ?_))
      · have hk : k < parts.length := by simpa using hc
        obtain ⟨m, rfl⟩ : ∃ m', m = m' + 1 := ⟨m - 1, by omega⟩
        refine WC_skip (WC.of_KC ?_)
        refine WC_seq (WC_block ?_)
        refine WC_seq (WC_region ?_)
        have hrep := hvw.repS (B := w.heap.size) (fun k hk => how.lt k hk)
        have hidx : idx parts (k : Int) = some parts[k] := by rw [idx_nat]; simp [hk]
        refine RX rfl (rd_at (α := Str) d_77 z_9 rfl rfl rfl hrep hidx) ?_
        rintro _ ⟨bb, oo, cs, rfl, hc1, hrr, hlt⟩
        obtain ⟨rfl, hxl⟩ := Str_open hrr
        refine R rfl (rd_load1 g_9 rfl (fun h => h) (hc1.at0 rfl)) ?_
        refine R rfl (rd_assign rfl) ?_
        refine WL_nil (WC.of_KC ?_)
        refine WC_seq (WC_regionW ?_)
        refine WLW_rd rfl (rd_move rfl) ?_
        refine WLW_rd rfl (rd_move rfl) ?_
        have hpl : pre.length = k := by
          have := congrArg List.length hpre
          simp at this; omega
        refine WLW_yield (S := fun v w' => (v = vB true ∧ J (pre ++ [⟨parts[k], List.getElem_mem hk, hxl⟩]) w' ∧ KpS b w w') ∨ (v = vB false ∧ Jx (pre ++ [⟨parts[k], List.getElem_mem hk, hxl⟩]) w')) rfl rfl rfl (hY pre ⟨parts[k], List.getElem_mem hk, hxl⟩ w hJw (by omega)) (fun e w' h => ?_) ?_
        · rcases h with ⟨rfl, h⟩ | ⟨rfl, h⟩
          · exact ⟨_, rfl, .inl ⟨rfl, h⟩⟩
          · exact ⟨_, rfl, .inr ⟨rfl, h⟩⟩
        rintro v w' (⟨rfl, hJ', hK⟩ | ⟨rfl, hX⟩)
        · refine WLW_rd rfl (rd_not rfl) ?_
          refine WLW_nil (WC.of_KC ?_)
          refine WC_cond rfl (fun h => by cases h) (fun _ => ?_)
          refine WC_skip (WC.of_KC ?_)
          refine WC_region (R rfl (rd_inc hk hlenL rfl rfl) (R rfl (rd_move rfl) ?_))
          obtain ⟨ho', hr'⟩ := hK.own how hb1 hrw
          have hv' : rowS w' (· ∈ S1) (sl ao7 parts.length c7) parts := hvw.stay fun g hg => hK.chg.block g (how.lt g hg) fun hm => by
            rcases hm with rfl | hm | ⟨o, ho2, hcl⟩
            · exact hb1 hg
            · exact hrw g hm hg
            · obtain ⟨cur, hB⟩ := ownS_cells how g hg
              rw [hB.isCells ho2] at hcl; cases hcl
          refine WL_nil fun a' ha' => ⟨m, Nat.lt_succ_self _, k + 1, pre ++ [⟨parts[k], List.getElem_mem hk, hxl⟩], by omega, ?_, ha'.weaken (sc rfl (sc rfl (sc rfl (sc rfl sn)))), hJ', ho', hr', hv'⟩
          rw [List.map_append, hpre, List.take_add_one, List.getElem?_eq_getElem hk]; rfl
        · refine WLW_rd rfl (rd_not rfl) ?_
          refine WLW_nil (WC.of_KC ?_)
          refine WC_cond rfl (fun _ => ?_) (fun h => by cases h)
          exact WC_ret (rtO fun a' ha' => .inr ⟨rfl, ret0 hr (.inr ⟨_, trivial, hX⟩) a' ha'⟩)
      · have hk : ¬ k < parts.length := by simpa using hc
        have : k = parts.length := by omega
        subst this
        refine WC_exit fun a' ha' => .inl ⟨rfl, ret0 hr (.inl ⟨pre, ?_, hJw⟩) a' ha'⟩
        rw [hpre, List.take_length]
  refine callsIn_wide.2 (hc.run.mono fun e w' ⟨v, he, h⟩ => ⟨⟨v, he⟩, h⟩)

theorem below_grown_impl_splitWith_impl_splitPattern_1 {w0 W W' : World} {row : Option Nat} (h : Below w0.heap.size w0 W) (hg : W.grownBy W' row) (hr : ∀ r, row = some r → w0.heap.size ≤ r) : Below w0.heap.size w0 W' := bchg h (grown_chg hg) fun k hk e => absurd (hr k e) (Nat.not_le.2 hk)
def Q_stepsOf_impl_splitWith_impl_splitPattern_1 (w0 : World) (s : Str) (v : Value) (w' : World) : Prop := v = .func (.func 216) #[] #[pt w0.heap.size] ∧ Blk w' w0.heap.size [Str.v s] ∧ Bw w0 w'
theorem W_stepsOf_impl_splitWith_impl_splitPattern_1 {w0 : World} {s : Str} : CallsR Tryz.prog 180 [Str.v s] w0 (Q_stepsOf_impl_splitWith_impl_splitPattern_1 w0 s) := by
  obtain ⟨fn, hf, hb, hN, hr⟩ := fnE Tryz.func180
  refine CallsR_of_WC hf (hb.trans rfl) (hN.trans rfl) (Nat.le_of_ble_eq_true rfl) ?_
  refine WC_seq (WC_region ?_)
  refine E rfl (ef_box rfl) ?_
  rintro _ w1 ⟨rfl, h1⟩
  have b1 : Blk w1 w0.heap.size [Str.v s] := h1.blk
  refine R rfl (rd_assign rfl) ?_
  refine WL_nil (WC.of_KC ?_)
  refine WC_seq (WC_region ?_)
  refine R rfl (rd_makeFunc rfl) ?_
  refine R rfl (rd_assign rfl) ?_
  refine WL_nil (WC.of_KC ?_)
  exact WC_ret (ret1 hr rfl ⟨rfl, b1, h1.below⟩)
theorem W_w2u {n : Nat} {B : Nat} {x1 : Str} {res : (List Str) × Bool} {w0 : World} (hm : M_impl_splitWith_impl_splitPattern_1 n x1 = some res) (hBw : B ≤ w0.heap.size) (p1_0 : x1.b.length ≤ LEN) : CallsR Tryz.prog 154 [(Str.v x1), .func (.func 155) #[] #[]] w0 (Q28 w0 B res) := by
  unfold M_impl_splitWith_impl_splitPattern_1 at hm
  obtain ⟨fn, hf, hb, hN, hr⟩ := fnE Tryz.func154
  refine CallsR_of_marks hf (hb.trans rfl) (hN.trans rfl) (Nat.le_of_ble_eq_true rfl) ?_
  -- the cells
  refine WC_seq (WC_region ?_)
  refine E rfl (ef_box rfl) ?_
  rintro _ w1 ⟨rfl, h1⟩
  have b3 : Blk w1 w0.heap.size [.func (.func 155) #[] #[]] := h1.blk
  refine E rfl (ef_alloc zero_77) ?_
  rintro _ w2 ⟨rfl, h2⟩
  have b4 : Blk w2 w1.heap.size [.slice none 0 0] := h2.blk
  refine E rfl (ef_alloc zero_4) ?_
  rintro _ w3 ⟨rfl, h3⟩
  have b5 : Blk w3 w2.heap.size [vB false] := h3.blk
  refine WL_nil (WC.of_KC ?_)
  refine WC_seq (WC_region ?_)
  refine E rfl (ef_lit0 (α := Str) el_77) ?_
  rintro _ w4 ⟨a, m, c, rfl, s4, ho4⟩
  refine E rfl (ef_alloc zero_77) ?_
  rintro _ w5 ⟨rfl, h5⟩
  have b6 : Blk w5 w4.heap.size [.slice none 0 0] := h5.blk
  refine E0 (ef_store (cur' := [.slice a m c]) z_77 rfl rfl b6 rfl (Nat.le_of_ble_eq_true rfl) (oneAll rfl) rfl) ?_
  rintro _ w6 ⟨c6, s6⟩
  have t6 := s6.one
  refine WL_nil (WC.of_KC ?_)
  -- what is known behind
  have g1 := h1.below; have g2 := h2.below; have g3 := h3.below; have g5 := h5.below
  have z1 := h1.size; have z2 := h2.size; have z3 := h3.size; have z5 := h5.size; have z4 := s4.size; have z6 := s6.size
  have hz : w0.heap.size < w1.heap.size ∧ w1.heap.size < w2.heap.size ∧ w2.heap.size < w3.heap.size ∧ w3.heap.size < w4.heap.size ∧ w4.heap.size < w6.heap.size := by
    have := ho4.lt _ List.mem_cons_self
    omega
  have k3 : Blk w6 w0.heap.size [.func (.func 155) #[] #[]] := (((((b3.ext g2).ext g3).ext s4).ext g5).chg s6 (by omega))
  have k4 : Blk w6 w1.heap.size [.slice none 0 0] := ((((b4.ext g3).ext s4).ext g5).chg s6 (by omega))
  have k5 : Blk w6 w2.heap.size [vB false] := (((b5.ext s4).ext g5).chg s6 (by omega))
  have kS : ownS w6 [w3.heap.size] (sl a m c) ([] : List Str) := (ho4.ext g5).chg s6 (fun k hk => by have := List.mem_singleton.1 hk; omega)
  have kB : Below w0.heap.size w0 w6 := bchgM (bup (bup (bup (bup g1 g2) g3) s4) g5) t6 (fun k hk => by have := List.mem_singleton.1 hk; omega)
  clear b3 b4 b5 b6 ho4 h1 h2 h3 h5 s4 s6 t6 g1 g2 g3 g5 z1 z2 z3 z4 z5 z6
  -- the first look
  refine WC_seq (WC_seq (WC_region ?_))
  refine R rfl (rd_move rfl) ?_
  refine R rfl (rd_eqlT rfl rfl) ?_
  refine WL_nil (WC.of_KC ?_)
  refine WC_cond rfl (fun hc => ?_) (fun hc => ?_)
  · obtain rfl := som (ifT hm hc)
    refine WC_seq (WC_region ?_)
    refine R rfl (rd_load1 g_77 rfl (fun h => h) (c6.at rfl)) ?_
    refine E0 (ef_store (cur' := [.slice a m c]) z_77 rfl rfl k4 rfl (Nat.le_of_ble_eq_true rfl) (oneAll rfl) rfl) ?_
    rintro _ w7 ⟨c7, s7⟩
    refine E0 (ef_store (cur' := [vB true]) z_4 rfl rfl (k5.chg s7 (by omega)) rfl (Nat.le_of_ble_eq_true rfl) (oneAll rfl) rfl) ?_
    rintro _ w8 ⟨c8, s8⟩
    refine WL_nil (WC.of_KC ?_)
    refine WC_ret fun a' ha' => retM (ret2 hr (resC1 (n := 1) g_77 rfl (c7.chg s8 (by omega))) (resC1 (n := 1) g_4 rfl c8) ⟨bchgM (bchgM kB s7.one (fun k hk => by have := List.mem_singleton.1 hk; omega)) s8.one (fun k hk => by have := List.mem_singleton.1 hk; omega), ?_⟩ a' ha')
    exact ⟨a, m, c, _, rfl, (kS.chg s7 (fun k hk => by have := List.mem_singleton.1 hk; omega)).chg s8 (fun k hk => by have := List.mem_singleton.1 hk; omega), (by simp), fun k hk => by have := List.mem_singleton.1 hk; omega⟩
  replace hm := ifF hm hc
  refine WC_skip (WC.of_KC ?_)
  -- the first byte
  refine WC_seq (WC_seq (WC_region ?_))
  refine R rfl (rd_move rfl) ?_
  obtain ⟨x13, e13, hm⟩ := bdS hm
  refine R rfl (rd_indexStr d_9 rfl rfl (idxS e13).1 (idxS e13).2.1) ?_
  refine R rfl (rd_neq rfl rfl) ?_
  refine WL_nil (WC.of_KC ?_)
  refine WC_cond rfl (fun hc => ?_) (fun hc => ?_)
  · obtain rfl := som (ifT hm hc)
    refine WC_seq (WC_region ?_)
    refine R rfl (rd_load1 g_77 rfl (fun h => h) (c6.at rfl)) ?_
    refine E0 (ef_store (cur' := [.slice a m c]) z_77 rfl rfl k4 rfl (Nat.le_of_ble_eq_true rfl) (oneAll rfl) rfl) ?_
    rintro _ w7 ⟨c7, s7⟩
    refine E0 (ef_store (cur' := [vB false]) z_4 rfl rfl (k5.chg s7 (by omega)) rfl (Nat.le_of_ble_eq_true rfl) (oneAll rfl) rfl) ?_
    rintro _ w8 ⟨c8, s8⟩
    refine WL_nil (WC.of_KC ?_)
    refine WC_ret fun a' ha' => retM (ret2 hr (resC1 (n := 1) g_77 rfl (c7.chg s8 (by omega))) (resC1 (n := 1) g_4 rfl c8) ⟨bchgM (bchgM kB s7.one (fun k hk => by have := List.mem_singleton.1 hk; omega)) s8.one (fun k hk => by have := List.mem_singleton.1 hk; omega), ?_⟩ a' ha')
    exact ⟨a, m, c, _, rfl, (kS.chg s7 (fun k hk => by have := List.mem_singleton.1 hk; omega)).chg s8 (fun k hk => by have := List.mem_singleton.1 hk; omega), (by simp), fun k hk => by have := List.mem_singleton.1 hk; omega⟩
  replace hm := ifF hm hc
  refine WC_skip (WC.of_KC ?_)
  obtain ⟨l0, hsp, hm⟩ := bdS hm
  obtain ⟨parts, hsl, hm⟩ := bdS hm
  obtain ⟨oks, hok, hm⟩ := bdS hm
  split at hm
  case isFalse => cases hm
  rename_i hlim
  obtain rfl := som hm
  obtain ⟨hacc, hall⟩ := mapO_all hok
  -- the loop
  refine WC_seq (WC_seq (WC_region ?_))
  refine R rfl (rd_move rfl) ?_
  refine E rfl (ef_call Tryz.call180 rfl W_stepsOf_impl_splitWith_impl_splitPattern_1) ?_
  rintro _ w7 ⟨rfl, bp, s7⟩
  refine WL_nil (WC.of_KC ?_)
  replace k3 := k3.ext s7
  replace k4 := k4.ext s7
  replace k5 := k5.ext s7
  replace c6 := c6.ext s7
  replace kS := kS.ext s7
  replace kB := bup kB (s7.mono (Nat.le_refl _))
  have z7 := s7.size
  have hrow : ∀ g, rowOf w7 w4.heap.size g → g < w7.heap.size := fun g hg => by
    have h1 := rowOf_blk c6 hg
    exact kS.lt _ ((ownS_head kS).2 g 0 none h1)
  generalize w1.heap.size = q4 at *
  generalize w2.heap.size = q5 at *
  generalize w4.heap.size = q6 at *
  refine WC_rangeStr (α := {x : Str // x ∈ parts ∧ x.b.length ≤ LEN}) (f := fun x => x.1) (gf := 216) (lb := [pt w6.heap.size]) (b := q6) (M := parts.length) (S := fun xs => xs.map (·.1) = parts) (Sp := fun _ => True) rfl Tryz.call216 rfl rfl (by omega)
    (split_stops_impl_splitWith_impl_splitPattern_1 p1_0 hsp hsl bp (by omega) hrow)
    (fun pre W => (∀ x ∈ pre, (M_impl_splitPattern_1 n x.1).getD false = true) ∧ (∃ (a : Option Addr) (m c : Nat) (S : List Nat), Blk W q6 [.slice a m c] ∧ ownS W S (sl a m c) (pre.map (·.1)) ∧ S.Nodup ∧ (∀ k ∈ S, q5 < k ∧ k ≠ q6)) ∧ Blk W w0.heap.size [.func (.func 155) #[] #[]] ∧ Blk W q4 [.slice none 0 0] ∧ Blk W q5 [vB false] ∧ Below w0.heap.size w0 W)
    (fun pre W => (∃ x ∈ pre, (M_impl_splitPattern_1 n x.1).getD false = false) ∧ (∃ (a : Option Addr) (m c : Nat) (S : List Nat), Blk W q4 [.slice a m c] ∧ ownS W S (sl a m c) ([] : List Str) ∧ S.Nodup ∧ (∀ k ∈ S, w0.heap.size ≤ k)) ∧ Blk W q5 [vB false] ∧ Below w0.heap.size w0 W)
    ?_ ?_ ?_ ?_ ?_ ?_
  · rintro pre W W' row ⟨h1, ⟨a, m, c, S, h2, h3, h4, h5⟩, h6, h7, h8, h9⟩ hg hr
    have hr' := fun r e => (hr r e).2
    exact ⟨h1, ⟨a, m, c, S, h2.grown hg hr', ownS_grown h3 hg hr', h4, h5⟩, h6.grown hg hr', h7.grown hg hr', h8.grown hg hr', below_grown_impl_splitWith_impl_splitPattern_1 h9 hg fun r e => Nat.le_trans (by omega) (hr r e).1⟩
  · rintro pre W W' row ⟨h1, ⟨a, m, c, S, h2, h3, h4, h5⟩, h8, h9⟩ hg hr
    have hr' := fun r e => (hr r e).2
    exact ⟨h1, ⟨a, m, c, S, h2.grown hg hr', ownS_grown h3 hg hr', h4, h5⟩, h8.grown hg hr', below_grown_impl_splitWith_impl_splitPattern_1 h9 hg fun r e => Nat.le_trans (by omega) (hr r e).1⟩
  · exact ⟨fun x hx => (by cases hx), ⟨a, m, c, _, c6, kS, (by simp), fun k hk => by have := List.mem_singleton.1 hk; omega⟩, k3, k4, k5, kB⟩
  · rintro l pre ⟨x, hx, hxl⟩ W ⟨h1, ⟨a, m, c, S, h2, h3, h4, h5⟩, h6, h7, h8, h9⟩ hlt
    refine WCI_block (WCI_seq (WCI_seq (WCI_region rfl (fun _ _ h => by cases h.1) ?_)))
    refine R rfl (rd_load1 g_142 rfl (fun h => h) (h6.at rfl)) ?_
    refine R rfl (rd_move rfl) ?_
    refine E rfl (ef_callV (caps := []) Tryz.call155 rfl rfl (W_w2t (hacc x hx) (Nat.le_refl _) hxl)) ?_
    rintro _ W1 ⟨s1, rfl⟩
    refine R rfl (rd_not rfl) ?_
    refine WL_nil (WCI.of_KC ?_)
    have y1 := s1.size
    have hq6 := h2.lt
    have hw0.heap.size := h6.lt
    have hq4 := h7.lt
    have hq5 := h8.lt
    refine WCI_cond rfl (fun hc => ?_) (fun hc => ?_)
    · refine WCI_seq (WCI_region rfl (fun _ _ h => by cases h.1) ?_)
      refine E rfl (ef_lit0 (α := Str) el_77) ?_
      rintro _ W2 ⟨a2, m2, c2, rfl, s2, ho2⟩
      refine E0 (ef_store (cur' := [.slice a2 m2 c2]) z_77 rfl rfl ((h7.ext s1).ext s2) rfl (Nat.le_of_ble_eq_true rfl) (oneAll rfl) rfl) ?_
      rintro _ W3 ⟨c3, s3⟩
      refine E0 (ef_store (cur' := [vB false]) z_4 rfl rfl (((h8.ext s1).ext s2).chg s3 (by omega)) rfl (Nat.le_of_ble_eq_true rfl) (oneAll rfl) rfl) ?_
      rintro _ W4 ⟨c4, s4⟩
      refine WL_nil (WCI.of_KC ?_)
      have hW : Below W.heap.size W W2 := bup s1 s2
      have hc4 : Chg (fun k => k = q4 ∨ k = q5) W W4 := by
        have e1 : Chg (fun k => k = q4 ∨ k = q5) W W2 := (Chg.refl _ W).ext hW
        refine (e1.comp s3 fun k _ hk => .inl hk).comp s4 fun k _ hk => .inr hk
      refine WCI_ret fun a' ha' => ⟨rfl, keeps_chg hc4 fun k _ hk => ?_, ⟨⟨x, hx, hxl⟩, by simp, by simpa using hc⟩, ⟨a2, m2, c2, _, c3.chg s4 (by omega), (ho2.chg s3 fun k hk => by have := List.mem_singleton.1 hk; omega).chg s4 fun k hk => by have := List.mem_singleton.1 hk; omega, (by simp), fun k hk => by have := List.mem_singleton.1 hk; omega⟩, c4, ?_⟩
      · rcases hk with rfl | rfl
        · exact ⟨_, h7⟩
        · exact ⟨_, h8⟩
      · exact bchg h9 hc4 fun k hk hm => by rcases hm with rfl | rfl <;> omega
    · refine WCI_skip (WCI.of_KC ?_)
      refine WCI_region rfl (fun _ _ h => by cases h.1) ?_
      have hpsh : psh (pre.map (·.1)) x = some (pre.map (·.1) ++ [x]) := by
        unfold psh
        rw [if_pos (by rw [List.length_map]; omega)]
      refine R rfl (rd_load1 g_77 rfl (fun h => h) ((h2.ext s1).at rfl)) ?_
      refine R rfl (rd_move rfl) ?_
      refine E rfl (ef_buildSlice [(.tmp 25)] el_77 rfl rfl rfl (szAll rfl) (Nat.le_of_ble_eq_true rfl) (Nat.le_of_ble_eq_true rfl)) ?_
      rintro _ W2 ⟨rfl, hb⟩
      have s2 := hb.below
      have y2 := s2.size
      refine E rfl (ef_pushN (α := Str) el_77 hpsh rfl rfl ((h3.ext s1).ext s2) h4 hb.blk (Str_own hxl) all_nil nd_nil) ?_
      rintro _ W3 ⟨S', a', n', c', rfl, s3, ho3, nd3, hs3⟩
      have y3 := s3.size
      have n3 : ∀ k, k < W.heap.size → k ≤ q5 ∨ k = q6 → k ∉ S' := fun k hk hq hm => by
        rcases hs3 k hm with h | h | h
        · have := h5 k h; omega
        · cases h
        · omega
      refine E0 (ef_store (cur' := [.slice a' n' c']) z_77 rfl rfl (((h2.ext s1).ext s2).chg s3 (fun hm => (h5 _ hm).2 rfl)) rfl (Nat.le_of_ble_eq_true rfl) (oneAll rfl) rfl) ?_
      rintro _ W4 ⟨c4, s4⟩
      have hW : Below W.heap.size W W2 := bup s1 s2
      have hc4 : Chg (fun k => k = q6 ∨ k ∈ S) W W4 := by
        have e1 : Chg (fun k => k = q6 ∨ k ∈ S) W W2 := (Chg.refl _ W).ext hW
        refine (e1.comp s3 fun k _ hk => .inr hk).comp s4 fun k _ hk => .inl hk
      have ho4 : ownS W4 S' (sl a' n' c') (pre.map (·.1) ++ [x]) := ho3.chg s4 fun k hk he => n3 q6 hq6 (.inr rfl) (he ▸ hk)
      have hs4 : ∀ k ∈ S', k ∈ S ∨ W.heap.size ≤ k := fun k hk => by
        rcases hs3 k hk with h | h | h
        · exact .inl h
        · cases h
        · exact .inr (by omega)
      have k4 : ∀ k, k ≤ q5 → ¬ (k = q6 ∨ k ∈ S) := fun k hk hm => by
        rcases hm with rfl | hm
        · omega
        · have := h5 k hm; omega
      refine WL_nil fun a'' ha'' => ⟨keeps_chg hc4 fun k _ hk => ?_, KpS.of_chg h2 h3 c4 ho4 hs4 hc4, fun y hy => ?_, ⟨a', n', c', S', c4, by simpa using ho4, nd3, fun k hk => ?_⟩, h6.chg hc4 (k4 _ (by omega)), h7.chg hc4 (k4 _ (by omega)), h8.chg hc4 (k4 _ (by omega)), bchg h9 hc4 fun k hk hm => k4 k (by omega) hm⟩
      · rcases hk with rfl | hk
        · exact ⟨_, h2⟩
        · exact ownS_cells h3 k hk
      · rcases List.mem_append.1 hy with hy | hy
        · exact h1 y hy
        · obtain rfl := List.mem_singleton.1 hy
          simpa using hc
      · rcases hs4 k hk with h | h
        · exact h5 k h
        · omega
  · rintro D xs W hD hxs ⟨h1, ⟨a, m, c, S, h2, h3, h4, h5⟩, h6, h7, h8, h9⟩ hdef a0 ha0
    have hw0.heap.size := h6.lt
    have hq4 := h7.lt
    have hq5 := h8.lt
    refine tailD ?_ ha0
    refine R rfl (rd_load1 g_77 rfl (fun h => h) (h2.at rfl)) ?_
    refine E0 (ef_store (cur' := [.slice a m c]) z_77 rfl rfl h7 rfl (Nat.le_of_ble_eq_true rfl) (oneAll rfl) rfl) ?_
    rintro _ W1 ⟨c7, s7⟩
    refine E0 (ef_store (cur' := [vB true]) z_4 rfl rfl (h8.chg s7 (by omega)) rfl (Nat.le_of_ble_eq_true rfl) (oneAll rfl) rfl) ?_
    rintro _ W2 ⟨c8, s8⟩
    have hDlt := (Array.getElem?_eq_some_iff.1 hdef).1
    have hdef2 : W2.heap[D]? = some (.deferred (some [])) := ((s8.block D (Nat.lt_of_lt_of_le hDlt s7.size) (by omega)).trans (s7.block D hDlt (by omega))).trans hdef
    have hDS : ∀ k ∈ S, k ≠ D := fun k hk e => by
      obtain ⟨cur, hB⟩ := ownS_cells h3 k hk
      have := (e ▸ hB).isCells hdef
      cases this
    have hoks : oks.all id = true := hall.2 fun y hy => by
      rw [← hxs] at hy
      obtain ⟨z, hz, rfl⟩ := List.mem_map.1 hy
      exact h1 z hz
    rw [if_pos hoks]
    refine WL_nil fun a' ha' => ⟨ha'.defers, hdef2, ?_⟩
    have hp := put_chg W2 D (.deferred none)
    obtain ⟨_, v, e1, e2⟩ := ret2 (R := Q28 w0 B (parts, true)) hr (resC1 (n := 1) g_77 rfl ((c7.chg s8 (by omega)).chg hp (by omega))) (resC1 (n := 1) g_4 rfl (c8.chg hp (by omega))) ⟨bchg (bchg (bchg h9 s7 fun k hk e => by omega) s8 fun k hk e => by omega) hp fun k hk e => by omega, a, m, c, S, rfl, ((hxs ▸ h3).chg s7 fun k hk e => by have := h5 k hk; omega).chg s8 (fun k hk e => by have := h5 k hk; omega) |>.chg hp fun k hk e => hDS k hk e, h4, fun k hk => by have := h5 k hk; omega⟩ a' ha'
    exact ⟨v, e1, e2⟩
  · rintro D pre W hD _ ⟨⟨⟨x, hx, hxl⟩, hxm, hxb⟩, ⟨a, m, c, S, h2, h3, h4, h5⟩, h8, h9⟩ hdef a0 ha0
    have hq4 := h2.lt
    have hq5 := h8.lt
    have hDS : ∀ k ∈ S, k ≠ D := fun k hk e => by
      obtain ⟨cur, hB⟩ := ownS_cells h3 k hk
      have := (e ▸ hB).isCells hdef
      cases this
    have hoks : ¬ oks.all id = true := fun h => by
      have := hall.1 h x hx
      rw [this] at hxb; cases hxb
    rw [if_neg hoks]
    have hp := put_chg W D (.deferred none)
    obtain ⟨_, v, e1, e2⟩ := ret2 (R := Q28 w0 B ([], false)) hr (resC1 (n := 1) g_77 rfl (h2.chg hp (by omega))) (resC1 (n := 1) g_4 rfl (h8.chg hp (by omega))) ⟨bchg h9 hp fun k hk e => by omega, a, m, c, S, rfl, h3.chg hp fun k hk e => hDS k hk e, h4, h5⟩ a0 ha0
    exact retD ha0.defers hdef e1 e2
def Q29 (w0 : World) (B : Nat) (r : (List Str) × Bool) (v : Value) (w' : World) : Prop := Bw w0 w' ∧ un2 (fun r1 r2 => ∃ a1 n1 c1 S1, v = .tuple #[sl a1 n1 c1, vB r2] ∧ ownS w' S1 (sl a1 n1 c1) r1 ∧ S1.Nodup ∧ (∀ k ∈ S1, w0.z ≤ k)) r
theorem W_w2v {x1 : Str} {res : (List Str) × Bool} (hm : M_impl_splitPattern n x1 = some res) (hBw : B ≤ w0.z) (p1_0 : x1.b.length ≤ LEN) : CallsR prog 105 [Str.v x1] w0 (Q29 w0 B res) := by
 unfold M_impl_splitPattern at hm
 refine goF func105 z z (lb z) fun fn hr => Ws (Ra z (Ra z (Wn (Ws (Rm z ?_)))))
 obtain ⟨r1a, r1b, e10, hm11⟩ := bd2S hm
 refine E z (fc call154 z (W_w2u (B := B) e10 hBw p1_0)) ?_
 rintro _ w1c ⟨s12, a13, n14, c15, S16, rfl, h17, h18, h19⟩
 refine R z (ext_ z z) (R z (ext_ z z) (Ra z (Ra z (Wn ?_))))
 obtain rfl := som hm11
 exact Wr (ret2 hr z z ⟨s12, a13, n14, c15, S16, z, h17, h18, h19⟩)
def Q30 (w0 : World) (B : Nat) (r : (List Str) × Bool) (v : Value) (w' : World) : Prop := Bw w0 w' ∧ un2 (fun r1 r2 => ∃ (a1 : Option Addr) (n1 c1 : Nat) (S1 : List Nat), v = .tuple #[(sl a1 n1 c1), (vB r2)] ∧ ownS w' S1 (sl a1 n1 c1) r1 ∧ S1.Nodup ∧ (∀ k ∈ S1, w0.heap.size ≤ k)) r
theorem split_stops_impl_splitWith_impl_IsStep {w : World} {gp b : Nat} {s : Str} {l0 parts : List Str} (hs : s.b.length ≤ LEN) (hm : M_impl_SplitText s (47 : UInt8) = some l0) (hsl : slc l0 1 (l0.length : Int) = some parts) (hp : Blk w gp [Str.v s]) (hb : b < w.heap.size) (hrow : ∀ g, rowOf w b g → g < w.heap.size) :
    SeqStopsK (α := {x : Str // x ∈ parts ∧ x.b.length ≤ LEN}) Fence.wide 1 Tryz.prog 216 [pt gp].toArray (fun x => #[x.1.v]) (KpS b) (fun xs => xs.map (·.1) = parts) (fun _ => True) parts.length w := by
  intro l J Jx W hW hJ hJx hY h0
  have hpW := hp.ext hW
  have hrowW : ∀ g, rowOf W b g → g < W.heap.size := fun g ⟨n, c, h⟩ => by
    have h' : w.cell? ⟨b, 0, none⟩ = some (sl (some ⟨g, 0, none⟩) n c) := (World.cell?_of_block (w := w) (w' := W) (a := ⟨b, 0, none⟩) (hW.block b hb)).symm.trans h
    exact Nat.lt_of_lt_of_le (hrow g ⟨n, c, h'⟩) hW.size
  have hbW := Nat.lt_of_lt_of_le hb hW.size
  have hc : CallsR Tryz.prog 216 [.func (.yield l) #[] #[], pt gp] W (fun _ W' => (∃ xs : List {x : Str // x ∈ parts ∧ x.b.length ≤ LEN}, xs.map (·.1) = parts ∧ J xs W') ∨ (∃ pre, True ∧ Jx pre W')) := by
    obtain ⟨fn, hf, hbd, hN, hr⟩ := fnE Tryz.func216
    refine CallsR_of_WC hf (hbd.trans rfl) (hN.trans rfl) (Nat.le_of_ble_eq_true rfl) ?_
    refine WC_seq (WC_region ?_)
    refine R rfl (rd_load1 g_9 rfl (fun h => h) (hpW.at rfl)) ?_
    refine E rfl (ef_call Tryz.call217 rfl (W_w1h (B := W.heap.size) hm (Nat.le_refl _) hs)) ?_
    rintro _ W1 ⟨s1, a1, n1, c1, S1, rfl, ho, nd, hge⟩
    refine RX rfl (rd_sliceG d_77 z_9 rfl ho rfl rfl hsl) ?_
    intro v7 hv7
    obtain ⟨ao7, c7, rfl, _⟩ := id hv7
    refine R rfl (rd_lenR d_77 rfl (hv7.repS (B := W1.heap.size) (fun k hk => ho.lt k hk))) ?_
    refine R rfl (rd_move rfl) ?_
    refine WL_nil (WC.of_KC ?_)
    have hJ1 : J [] W1 := hJ [] W W1 none h0 (Below.grows s1) (fun r h => by cases h)
    have hb1 : b ∉ S1 := fun h => absurd (hge b h) (Nat.not_le.2 hbW)
    have hr1 : ∀ g, rowOf W1 b g → g ∉ S1 := fun g ⟨n, c, h⟩ hg => by
      have h' : W.cell? ⟨b, 0, none⟩ = some (sl (some ⟨g, 0, none⟩) n c) := (World.cell?_of_block (w := W) (w' := W1) (a := ⟨b, 0, none⟩) (s1.block b hbW)).symm.trans h
      exact absurd (hge g hg) (Nat.not_le.2 (hrowW g ⟨n, c, h'⟩))
    have hlenL : parts.length ≤ 9223372036854775807 := Nat.le_trans (by obtain ⟨_, _, _, _, h, _⟩ := hv7; exact h) LEN_le
    refine WC_block fun a ha => ?_
    refine Code.wp_mono (Q := Exit.then noK (fun ex a w => (ex = .exit 0 ∧ RetPost Tryz.prog fn (fun _ W' => (∃ xs : List {x : Str // x ∈ parts ∧ x.b.length ≤ LEN}, xs.map (·.1) = parts ∧ J xs W') ∨ (∃ pre, True ∧ Jx pre W')) a w) ∨ (ex = .ret ∧ RetPost Tryz.prog fn (fun _ W' => (∃ xs : List {x : Str // x ∈ parts ∧ x.b.length ≤ LEN}, xs.map (·.1) = parts ∧ J xs W') ∨ (∃ pre, True ∧ Jx pre W')) a w))) (fun ex a' w' q => ?_) (wp_loop_ghost (fun m a w => ∃ (k : Nat) (pre : List {x : Str // x ∈ parts ∧ x.b.length ≤ LEN}), k + m = parts.length ∧ pre.map (·.1) = parts.take k ∧ Sat 18 [(9, vI (k : Int)), (8, vI (parts.length : Int)), (7, sl ao7 parts.length c7), (0, .func (.yield l) #[] #[])] a ∧ J pre w ∧ ownS w S1 (sl a1 n1 c1) l0 ∧ (∀ g, rowOf w b g → g ∉ S1) ∧ rowS w (· ∈ S1) (sl ao7 parts.length c7) parts) parts.length ?_ ?_)
    · cases ex with
      | normal => exact (show False from q).elim
      | exit i =>
        rcases q with ⟨h, q⟩ | ⟨h, _⟩
        · cases h; exact q
        · cases h
      | ret =>
        rcases q with ⟨h, _⟩ | ⟨_, q⟩
        · cases h
        · exact q
      | _ => rcases q with ⟨h, _⟩ | ⟨h, _⟩ <;> cases h
    · exact ⟨0, [], by omega, by simp, ha.weaken (sc rfl (sc rfl (sc rfl (sc rfl sn)))), hJ1, ho, hr1, hv7⟩
    · rintro m a w ⟨k, pre, hkm, hpre, hsat, hJw, how, hrw, hvw⟩
      refine WC_run (N := 18) (e := [(9, vI (k : Int)), (8, vI (parts.length : Int)), (7, sl ao7 parts.length c7), (0, .func (.yield l) #[] #[])]) ?_ hsat
      refine WC_seq (WC_region (R rfl (rd_lss rfl rfl) (WL_nil (WC.of_KC ?_))))
      refine WC_seq (WC_cond rfl (fun hc => ?_) (fun hc => ?_))
      · have hk : k < parts.length := by simpa using hc
        obtain ⟨m, rfl⟩ : ∃ m', m = m' + 1 := ⟨m - 1, by omega⟩
        refine WC_skip (WC.of_KC ?_)
        refine WC_seq (WC_block ?_)
        refine WC_seq (WC_region ?_)
        have hrep := hvw.repS (B := w.heap.size) (fun k hk => how.lt k hk)
        have hidx : idx parts (k : Int) = some parts[k] := by rw [idx_nat]; simp [hk]
        refine RX rfl (rd_at (α := Str) d_77 z_9 rfl rfl rfl hrep hidx) ?_
        rintro _ ⟨bb, oo, cs, rfl, hc1, hrr, hlt⟩
        obtain ⟨rfl, hxl⟩ := Str_open hrr
        refine R rfl (rd_load1 g_9 rfl (fun h => h) (hc1.at0 rfl)) ?_
        refine R rfl (rd_assign rfl) ?_
        refine WL_nil (WC.of_KC ?_)
        refine WC_seq (WC_regionW ?_)
        refine WLW_rd rfl (rd_move rfl) ?_
        refine WLW_rd rfl (rd_move rfl) ?_
        have hpl : pre.length = k := by
          have := congrArg List.length hpre
          simp at this; omega
        refine WLW_yield (S := fun v w' => (v = vB true ∧ J (pre ++ [⟨parts[k], List.getElem_mem hk, hxl⟩]) w' ∧ KpS b w w') ∨ (v = vB false ∧ Jx (pre ++ [⟨parts[k], List.getElem_mem hk, hxl⟩]) w')) rfl rfl rfl (hY pre ⟨parts[k], List.getElem_mem hk, hxl⟩ w hJw (by omega)) (fun e w' h => ?_) ?_
        · rcases h with ⟨rfl, h⟩ | ⟨rfl, h⟩
          · exact ⟨_, rfl, .inl ⟨rfl, h⟩⟩
          · exact ⟨_, rfl, .inr ⟨rfl, h⟩⟩
        rintro v w' (⟨rfl, hJ', hK⟩ | ⟨rfl, hX⟩)
        · refine WLW_rd rfl (rd_not rfl) ?_
          refine WLW_nil (WC.of_KC ?_)
          refine WC_cond rfl (fun h => by cases h) (fun _ => ?_)
          refine WC_skip (WC.of_KC ?_)
          refine WC_region (R rfl (rd_inc hk hlenL rfl rfl) (R rfl (rd_move rfl) ?_))
          obtain ⟨ho', hr'⟩ := hK.own how hb1 hrw
          have hv' : rowS w' (· ∈ S1) (sl ao7 parts.length c7) parts := hvw.stay fun g hg => hK.chg.block g (how.lt g hg) fun hm => by
            rcases hm with rfl | hm | ⟨o, ho2, hcl⟩
            · exact hb1 hg
            · exact hrw g hm hg
            · obtain ⟨cur, hB⟩ := ownS_cells how g hg
              rw [hB.isCells ho2] at hcl; cases hcl
          refine WL_nil fun a' ha' => ⟨m, Nat.lt_succ_self _, k + 1, pre ++ [⟨parts[k], List.getElem_mem hk, hxl⟩], by omega, ?_, ha'.weaken (sc rfl (sc rfl (sc rfl (sc rfl sn)))), hJ', ho', hr', hv'⟩
          rw [List.map_append, hpre, List.take_add_one, List.getElem?_eq_getElem hk]; rfl
        · refine WLW_rd rfl (rd_not rfl) ?_
          refine WLW_nil (WC.of_KC ?_)
          refine WC_cond rfl (fun _ => ?_) (fun h => by cases h)
          exact WC_ret (rtO fun a' ha' => .inr ⟨rfl, ret0 hr (.inr ⟨_, trivial, hX⟩) a' ha'⟩)
      · have hk : ¬ k < parts.length := by simpa using hc
        have : k = parts.length := by omega
        subst this
        refine WC_exit fun a' ha' => .inl ⟨rfl, ret0 hr (.inl ⟨pre, ?_, hJw⟩) a' ha'⟩
        rw [hpre, List.take_length]
  refine callsIn_wide.2 (hc.run.mono fun e w' ⟨v, he, h⟩ => ⟨⟨v, he⟩, h⟩)

theorem below_grown_impl_splitWith_impl_IsStep {w0 W W' : World} {row : Option Nat} (h : Below w0.heap.size w0 W) (hg : W.grownBy W' row) (hr : ∀ r, row = some r → w0.heap.size ≤ r) : Below w0.heap.size w0 W' := bchg h (grown_chg hg) fun k hk e => absurd (hr k e) (Nat.not_le.2 hk)
def Q_stepsOf_impl_splitWith_impl_IsStep (w0 : World) (s : Str) (v : Value) (w' : World) : Prop := v = .func (.func 216) #[] #[pt w0.heap.size] ∧ Blk w' w0.heap.size [Str.v s] ∧ Bw w0 w'
theorem W_stepsOf_impl_splitWith_impl_IsStep {w0 : World} {s : Str} : CallsR Tryz.prog 180 [Str.v s] w0 (Q_stepsOf_impl_splitWith_impl_IsStep w0 s) := by
  obtain ⟨fn, hf, hb, hN, hr⟩ := fnE Tryz.func180
  refine CallsR_of_WC hf (hb.trans rfl) (hN.trans rfl) (Nat.le_of_ble_eq_true rfl) ?_
  refine WC_seq (WC_region ?_)
  refine E rfl (ef_box rfl) ?_
  rintro _ w1 ⟨rfl, h1⟩
  have b1 : Blk w1 w0.heap.size [Str.v s] := h1.blk
  refine R rfl (rd_assign rfl) ?_
  refine WL_nil (WC.of_KC ?_)
  refine WC_seq (WC_region ?_)
  refine R rfl (rd_makeFunc rfl) ?_
  refine R rfl (rd_assign rfl) ?_
  refine WL_nil (WC.of_KC ?_)
  exact WC_ret (ret1 hr rfl ⟨rfl, b1, h1.below⟩)
theorem W_w2w {n : Nat} {B : Nat} {x1 : Str} {res : (List Str) × Bool} {w0 : World} (hm : M_impl_splitWith_impl_IsStep n x1 = some res) (hBw : B ≤ w0.heap.size) (p1_0 : x1.b.length ≤ LEN) : CallsR Tryz.prog 154 [(Str.v x1), .func (.func 156) #[] #[]] w0 (Q30 w0 B res) := by
  unfold M_impl_splitWith_impl_IsStep at hm
  obtain ⟨fn, hf, hb, hN, hr⟩ := fnE Tryz.func154
  refine CallsR_of_marks hf (hb.trans rfl) (hN.trans rfl) (Nat.le_of_ble_eq_true rfl) ?_
  -- the cells
  refine WC_seq (WC_region ?_)
  refine E rfl (ef_box rfl) ?_
  rintro _ w1 ⟨rfl, h1⟩
  have b3 : Blk w1 w0.heap.size [.func (.func 156) #[] #[]] := h1.blk
  refine E rfl (ef_alloc zero_77) ?_
  rintro _ w2 ⟨rfl, h2⟩
  have b4 : Blk w2 w1.heap.size [.slice none 0 0] := h2.blk
  refine E rfl (ef_alloc zero_4) ?_
  rintro _ w3 ⟨rfl, h3⟩
  have b5 : Blk w3 w2.heap.size [vB false] := h3.blk
  refine WL_nil (WC.of_KC ?_)
  refine WC_seq (WC_region ?_)
  refine E rfl (ef_lit0 (α := Str) el_77) ?_
  rintro _ w4 ⟨a, m, c, rfl, s4, ho4⟩
  refine E rfl (ef_alloc zero_77) ?_
  rintro _ w5 ⟨rfl, h5⟩
  have b6 : Blk w5 w4.heap.size [.slice none 0 0] := h5.blk
  refine E0 (ef_store (cur' := [.slice a m c]) z_77 rfl rfl b6 rfl (Nat.le_of_ble_eq_true rfl) (oneAll rfl) rfl) ?_
  rintro _ w6 ⟨c6, s6⟩
  have t6 := s6.one
  refine WL_nil (WC.of_KC ?_)
  -- what is known behind
  have g1 := h1.below; have g2 := h2.below; have g3 := h3.below; have g5 := h5.below
  have z1 := h1.size; have z2 := h2.size; have z3 := h3.size; have z5 := h5.size; have z4 := s4.size; have z6 := s6.size
  have hz : w0.heap.size < w1.heap.size ∧ w1.heap.size < w2.heap.size ∧ w2.heap.size < w3.heap.size ∧ w3.heap.size < w4.heap.size ∧ w4.heap.size < w6.heap.size := by
    have := ho4.lt _ List.mem_cons_self
    omega
  have k3 : Blk w6 w0.heap.size [.func (.func 156) #[] #[]] := (((((b3.ext g2).ext g3).ext s4).ext g5).chg s6 (by omega))
  have k4 : Blk w6 w1.heap.size [.slice none 0 0] := ((((b4.ext g3).ext s4).ext g5).chg s6 (by omega))
  have k5 : Blk w6 w2.heap.size [vB false] := (((b5.ext s4).ext g5).chg s6 (by omega))
  have kS : ownS w6 [w3.heap.size] (sl a m c) ([] : List Str) := (ho4.ext g5).chg s6 (fun k hk => by have := List.mem_singleton.1 hk; omega)
  have kB : Below w0.heap.size w0 w6 := bchgM (bup (bup (bup (bup g1 g2) g3) s4) g5) t6 (fun k hk => by have := List.mem_singleton.1 hk; omega)
  clear b3 b4 b5 b6 ho4 h1 h2 h3 h5 s4 s6 t6 g1 g2 g3 g5 z1 z2 z3 z4 z5 z6
  -- the first look
  refine WC_seq (WC_seq (WC_region ?_))
  refine R rfl (rd_move rfl) ?_
  refine R rfl (rd_eqlT rfl rfl) ?_
  refine WL_nil (WC.of_KC ?_)
  refine WC_cond rfl (fun hc => ?_) (fun hc => ?_)
  · obtain rfl := som (ifT hm hc)
    refine WC_seq (WC_region ?_)
    refine R rfl (rd_load1 g_77 rfl (fun h => h) (c6.at rfl)) ?_
    refine E0 (ef_store (cur' := [.slice a m c]) z_77 rfl rfl k4 rfl (Nat.le_of_ble_eq_true rfl) (oneAll rfl) rfl) ?_
    rintro _ w7 ⟨c7, s7⟩
    refine E0 (ef_store (cur' := [vB true]) z_4 rfl rfl (k5.chg s7 (by omega)) rfl (Nat.le_of_ble_eq_true rfl) (oneAll rfl) rfl) ?_
    rintro _ w8 ⟨c8, s8⟩
    refine WL_nil (WC.of_KC ?_)
    refine WC_ret fun a' ha' => retM (ret2 hr (resC1 (n := 1) g_77 rfl (c7.chg s8 (by omega))) (resC1 (n := 1) g_4 rfl c8) ⟨bchgM (bchgM kB s7.one (fun k hk => by have := List.mem_singleton.1 hk; omega)) s8.one (fun k hk => by have := List.mem_singleton.1 hk; omega), ?_⟩ a' ha')
    exact ⟨a, m, c, _, rfl, (kS.chg s7 (fun k hk => by have := List.mem_singleton.1 hk; omega)).chg s8 (fun k hk => by have := List.mem_singleton.1 hk; omega), (by simp), fun k hk => by have := List.mem_singleton.1 hk; omega⟩
  replace hm := ifF hm hc
  refine WC_skip (WC.of_KC ?_)
  -- the first byte
  refine WC_seq (WC_seq (WC_region ?_))
  refine R rfl (rd_move rfl) ?_
  obtain ⟨x13, e13, hm⟩ := bdS hm
  refine R rfl (rd_indexStr d_9 rfl rfl (idxS e13).1 (idxS e13).2.1) ?_
  refine R rfl (rd_neq rfl rfl) ?_
  refine WL_nil (WC.of_KC ?_)
  refine WC_cond rfl (fun hc => ?_) (fun hc => ?_)
  · obtain rfl := som (ifT hm hc)
    refine WC_seq (WC_region ?_)
    refine R rfl (rd_load1 g_77 rfl (fun h => h) (c6.at rfl)) ?_
    refine E0 (ef_store (cur' := [.slice a m c]) z_77 rfl rfl k4 rfl (Nat.le_of_ble_eq_true rfl) (oneAll rfl) rfl) ?_
    rintro _ w7 ⟨c7, s7⟩
    refine E0 (ef_store (cur' := [vB false]) z_4 rfl rfl (k5.chg s7 (by omega)) rfl (Nat.le_of_ble_eq_true rfl) (oneAll rfl) rfl) ?_
    rintro _ w8 ⟨c8, s8⟩
    refine WL_nil (WC.of_KC ?_)
    refine WC_ret fun a' ha' => retM (ret2 hr (resC1 (n := 1) g_77 rfl (c7.chg s8 (by omega))) (resC1 (n := 1) g_4 rfl c8) ⟨bchgM (bchgM kB s7.one (fun k hk => by have := List.mem_singleton.1 hk; omega)) s8.one (fun k hk => by have := List.mem_singleton.1 hk; omega), ?_⟩ a' ha')
    exact ⟨a, m, c, _, rfl, (kS.chg s7 (fun k hk => by have := List.mem_singleton.1 hk; omega)).chg s8 (fun k hk => by have := List.mem_singleton.1 hk; omega), (by simp), fun k hk => by have := List.mem_singleton.1 hk; omega⟩
  replace hm := ifF hm hc
  refine WC_skip (WC.of_KC ?_)
  obtain ⟨l0, hsp, hm⟩ := bdS hm
  obtain ⟨parts, hsl, hm⟩ := bdS hm
  obtain ⟨oks, hok, hm⟩ := bdS hm
  split at hm
  case isFalse => cases hm
  rename_i hlim
  obtain rfl := som hm
  obtain ⟨hacc, hall⟩ := mapO_all hok
  -- the loop
  refine WC_seq (WC_seq (WC_region ?_))
  refine R rfl (rd_move rfl) ?_
  refine E rfl (ef_call Tryz.call180 rfl W_stepsOf_impl_splitWith_impl_IsStep) ?_
  rintro _ w7 ⟨rfl, bp, s7⟩
  refine WL_nil (WC.of_KC ?_)
  replace k3 := k3.ext s7
  replace k4 := k4.ext s7
  replace k5 := k5.ext s7
  replace c6 := c6.ext s7
  replace kS := kS.ext s7
  replace kB := bup kB (s7.mono (Nat.le_refl _))
  have z7 := s7.size
  have hrow : ∀ g, rowOf w7 w4.heap.size g → g < w7.heap.size := fun g hg => by
    have h1 := rowOf_blk c6 hg
    exact kS.lt _ ((ownS_head kS).2 g 0 none h1)
  generalize w1.heap.size = q4 at *
  generalize w2.heap.size = q5 at *
  generalize w4.heap.size = q6 at *
  refine WC_rangeStr (α := {x : Str // x ∈ parts ∧ x.b.length ≤ LEN}) (f := fun x => x.1) (gf := 216) (lb := [pt w6.heap.size]) (b := q6) (M := parts.length) (S := fun xs => xs.map (·.1) = parts) (Sp := fun _ => True) rfl Tryz.call216 rfl rfl (by omega)
    (split_stops_impl_splitWith_impl_IsStep p1_0 hsp hsl bp (by omega) hrow)
    (fun pre W => (∀ x ∈ pre, (M_impl_IsStep n x.1).getD false = true) ∧ (∃ (a : Option Addr) (m c : Nat) (S : List Nat), Blk W q6 [.slice a m c] ∧ ownS W S (sl a m c) (pre.map (·.1)) ∧ S.Nodup ∧ (∀ k ∈ S, q5 < k ∧ k ≠ q6)) ∧ Blk W w0.heap.size [.func (.func 156) #[] #[]] ∧ Blk W q4 [.slice none 0 0] ∧ Blk W q5 [vB false] ∧ Below w0.heap.size w0 W)
    (fun pre W => (∃ x ∈ pre, (M_impl_IsStep n x.1).getD false = false) ∧ (∃ (a : Option Addr) (m c : Nat) (S : List Nat), Blk W q4 [.slice a m c] ∧ ownS W S (sl a m c) ([] : List Str) ∧ S.Nodup ∧ (∀ k ∈ S, w0.heap.size ≤ k)) ∧ Blk W q5 [vB false] ∧ Below w0.heap.size w0 W)
    ?_ ?_ ?_ ?_ ?_ ?_
  · rintro pre W W' row ⟨h1, ⟨a, m, c, S, h2, h3, h4, h5⟩, h6, h7, h8, h9⟩ hg hr
    have hr' := fun r e => (hr r e).2
    exact ⟨h1, ⟨a, m, c, S, h2.grown hg hr', ownS_grown h3 hg hr', h4, h5⟩, h6.grown hg hr', h7.grown hg hr', h8.grown hg hr', below_grown_impl_splitWith_impl_IsStep h9 hg fun r e => Nat.le_trans (by omega) (hr r e).1⟩
  · rintro pre W W' row ⟨h1, ⟨a, m, c, S, h2, h3, h4, h5⟩, h8, h9⟩ hg hr
    have hr' := fun r e => (hr r e).2
    exact ⟨h1, ⟨a, m, c, S, h2.grown hg hr', ownS_grown h3 hg hr', h4, h5⟩, h8.grown hg hr', below_grown_impl_splitWith_impl_IsStep h9 hg fun r e => Nat.le_trans (by omega) (hr r e).1⟩
  · exact ⟨fun x hx => (by cases hx), ⟨a, m, c, _, c6, kS, (by simp), fun k hk => by have := List.mem_singleton.1 hk; omega⟩, k3, k4, k5, kB⟩
  · rintro l pre ⟨x, hx, hxl⟩ W ⟨h1, ⟨a, m, c, S, h2, h3, h4, h5⟩, h6, h7, h8, h9⟩ hlt
    refine WCI_block (WCI_seq (WCI_seq (WCI_region rfl (fun _ _ h => by cases h.1) ?_)))
    refine R rfl (rd_load1 g_142 rfl (fun h => h) (h6.at rfl)) ?_
    refine R rfl (rd_move rfl) ?_
    refine E rfl (ef_callV (caps := []) Tryz.call156 rfl rfl (W_w1j (hacc x hx) (Nat.le_refl _) hxl)) ?_
    rintro _ W1 ⟨s1, rfl⟩
    refine R rfl (rd_not rfl) ?_
    refine WL_nil (WCI.of_KC ?_)
    have y1 := s1.size
    have hq6 := h2.lt
    have hw0.heap.size := h6.lt
    have hq4 := h7.lt
    have hq5 := h8.lt
    refine WCI_cond rfl (fun hc => ?_) (fun hc => ?_)
    · refine WCI_seq (WCI_region rfl (fun _ _ h => by cases h.1) ?_)
      refine E rfl (ef_lit0 (α := Str) el_77) ?_
      rintro _ W2 ⟨a2, m2, c2, rfl, s2, ho2⟩
      refine E0 (ef_store (cur' := [.slice a2 m2 c2]) z_77 rfl rfl ((h7.ext s1).ext s2) rfl (Nat.le_of_ble_eq_true rfl) (oneAll rfl) rfl) ?_
      rintro _ W3 ⟨c3, s3⟩
      refine E0 (ef_store (cur' := [vB false]) z_4 rfl rfl (((h8.ext s1).ext s2).chg s3 (by omega)) rfl (Nat.le_of_ble_eq_true rfl) (oneAll rfl) rfl) ?_
      rintro _ W4 ⟨c4, s4⟩
      refine WL_nil (WCI.of_KC ?_)
      have hW : Below W.heap.size W W2 := bup s1 s2
      have hc4 : Chg (fun k => k = q4 ∨ k = q5) W W4 := by
        have e1 : Chg (fun k => k = q4 ∨ k = q5) W W2 := (Chg.refl _ W).ext hW
        refine (e1.comp s3 fun k _ hk => .inl hk).comp s4 fun k _ hk => .inr hk
      refine WCI_ret fun a' ha' => ⟨rfl, keeps_chg hc4 fun k _ hk => ?_, ⟨⟨x, hx, hxl⟩, by simp, by simpa using hc⟩, ⟨a2, m2, c2, _, c3.chg s4 (by omega), (ho2.chg s3 fun k hk => by have := List.mem_singleton.1 hk; omega).chg s4 fun k hk => by have := List.mem_singleton.1 hk; omega, (by simp), fun k hk => by have := List.mem_singleton.1 hk; omega⟩, c4, ?_⟩
      · rcases hk with rfl | rfl
        · exact ⟨_, h7⟩
        · exact ⟨_, h8⟩
      · exact bchg h9 hc4 fun k hk hm => by rcases hm with rfl | rfl <;> omega
    · refine WCI_skip (WCI.of_KC ?_)
      refine WCI_region rfl (fun _ _ h => by cases h.1) ?_
      have hpsh : psh (pre.map (·.1)) x = some (pre.map (·.1) ++ [x]) := by
        unfold psh
        rw [if_pos (by rw [List.length_map]; omega)]
      refine R rfl (rd_load1 g_77 rfl (fun h => h) ((h2.ext s1).at rfl)) ?_
      refine R rfl (rd_move rfl) ?_
      refine E rfl (ef_buildSlice [(.tmp 25)] el_77 rfl rfl rfl (szAll rfl) (Nat.le_of_ble_eq_true rfl) (Nat.le_of_ble_eq_true rfl)) ?_
      rintro _ W2 ⟨rfl, hb⟩
      have s2 := hb.below
      have y2 := s2.size
      refine E rfl (ef_pushN (α := Str) el_77 hpsh rfl rfl ((h3.ext s1).ext s2) h4 hb.blk (Str_own hxl) all_nil nd_nil) ?_
      rintro _ W3 ⟨S', a', n', c', rfl, s3, ho3, nd3, hs3⟩
      have y3 := s3.size
      have n3 : ∀ k, k < W.heap.size → k ≤ q5 ∨ k = q6 → k ∉ S' := fun k hk hq hm => by
        rcases hs3 k hm with h | h | h
        · have := h5 k h; omega
        · cases h
        · omega
      refine E0 (ef_store (cur' := [.slice a' n' c']) z_77 rfl rfl (((h2.ext s1).ext s2).chg s3 (fun hm => (h5 _ hm).2 rfl)) rfl (Nat.le_of_ble_eq_true rfl) (oneAll rfl) rfl) ?_
      rintro _ W4 ⟨c4, s4⟩
      have hW : Below W.heap.size W W2 := bup s1 s2
      have hc4 : Chg (fun k => k = q6 ∨ k ∈ S) W W4 := by
        have e1 : Chg (fun k => k = q6 ∨ k ∈ S) W W2 := (Chg.refl _ W).ext hW
        refine (e1.comp s3 fun k _ hk => .inr hk).comp s4 fun k _ hk => .inl hk
      have ho4 : ownS W4 S' (sl a' n' c') (pre.map (·.1) ++ [x]) := ho3.chg s4 fun k hk he => n3 q6 hq6 (.inr rfl) (he ▸ hk)
      have hs4 : ∀ k ∈ S', k ∈ S ∨ W.heap.size ≤ k := fun k hk => by
        rcases hs3 k hk with h | h | h
        · exact .inl h
        · cases h
        · exact .inr (by omega)
      have k4 : ∀ k, k ≤ q5 → ¬ (k = q6 ∨ k ∈ S) := fun k hk hm => by
        rcases hm with rfl | hm
        · omega
        · have := h5 k hm; omega
      refine WL_nil fun a'' ha'' => ⟨keeps_chg hc4 fun k _ hk => ?_, KpS.of_chg h2 h3 c4 ho4 hs4 hc4, fun y hy => ?_, ⟨a', n', c', S', c4, by simpa using ho4, nd3, fun k hk => ?_⟩, h6.chg hc4 (k4 _ (by omega)), h7.chg hc4 (k4 _ (by omega)), h8.chg hc4 (k4 _ (by omega)), bchg h9 hc4 fun k hk hm => k4 k (by omega) hm⟩
      · rcases hk with rfl | hk
        · exact ⟨_, h2⟩
        · exact ownS_cells h3 k hk
      · rcases List.mem_append.1 hy with hy | hy
        · exact h1 y hy
        · obtain rfl := List.mem_singleton.1 hy
          simpa using hc
      · rcases hs4 k hk with h | h
        · exact h5 k h
        · omega
  · rintro D xs W hD hxs ⟨h1, ⟨a, m, c, S, h2, h3, h4, h5⟩, h6, h7, h8, h9⟩ hdef a0 ha0
    have hw0.heap.size := h6.lt
    have hq4 := h7.lt
    have hq5 := h8.lt
    refine tailD ?_ ha0
    refine R rfl (rd_load1 g_77 rfl (fun h => h) (h2.at rfl)) ?_
    refine E0 (ef_store (cur' := [.slice a m c]) z_77 rfl rfl h7 rfl (Nat.le_of_ble_eq_true rfl) (oneAll rfl) rfl) ?_
    rintro _ W1 ⟨c7, s7⟩
    refine E0 (ef_store (cur' := [vB true]) z_4 rfl rfl (h8.chg s7 (by omega)) rfl (Nat.le_of_ble_eq_true rfl) (oneAll rfl) rfl) ?_
    rintro _ W2 ⟨c8, s8⟩
    have hDlt := (Array.getElem?_eq_some_iff.1 hdef).1
    have hdef2 : W2.heap[D]? = some (.deferred (some [])) := ((s8.block D (Nat.lt_of_lt_of_le hDlt s7.size) (by omega)).trans (s7.block D hDlt (by omega))).trans hdef
    have hDS : ∀ k ∈ S, k ≠ D := fun k hk e => by
      obtain ⟨cur, hB⟩ := ownS_cells h3 k hk
      have := (e ▸ hB).isCells hdef
      cases this
    have hoks : oks.all id = true := hall.2 fun y hy => by
      rw [← hxs] at hy
      obtain ⟨z, hz, rfl⟩ := List.mem_map.1 hy
      exact h1 z hz
    rw [if_pos hoks]
    refine WL_nil fun a' ha' => ⟨ha'.defers, hdef2, ?_⟩
    have hp := put_chg W2 D (.deferred none)
    obtain ⟨_, v, e1, e2⟩ := ret2 (R := Q30 w0 B (parts, true)) hr (resC1 (n := 1) g_77 rfl ((c7.chg s8 (by omega)).chg hp (by omega))) (resC1 (n := 1) g_4 rfl (c8.chg hp (by omega))) ⟨bchg (bchg (bchg h9 s7 fun k hk e => by omega) s8 fun k hk e => by omega) hp fun k hk e => by omega, a, m, c, S, rfl, ((hxs ▸ h3).chg s7 fun k hk e => by have := h5 k hk; omega).chg s8 (fun k hk e => by have := h5 k hk; omega) |>.chg hp fun k hk e => hDS k hk e, h4, fun k hk => by have := h5 k hk; omega⟩ a' ha'
    exact ⟨v, e1, e2⟩
  · rintro D pre W hD _ ⟨⟨⟨x, hx, hxl⟩, hxm, hxb⟩, ⟨a, m, c, S, h2, h3, h4, h5⟩, h8, h9⟩ hdef a0 ha0
    have hq4 := h2.lt
    have hq5 := h8.lt
    have hDS : ∀ k ∈ S, k ≠ D := fun k hk e => by
      obtain ⟨cur, hB⟩ := ownS_cells h3 k hk
      have := (e ▸ hB).isCells hdef
      cases this
    have hoks : ¬ oks.all id = true := fun h => by
      have := hall.1 h x hx
      rw [this] at hxb; cases hxb
    rw [if_neg hoks]
    have hp := put_chg W D (.deferred none)
    obtain ⟨_, v, e1, e2⟩ := ret2 (R := Q30 w0 B ([], false)) hr (resC1 (n := 1) g_77 rfl (h2.chg hp (by omega))) (resC1 (n := 1) g_4 rfl (h8.chg hp (by omega))) ⟨bchg h9 hp fun k hk e => by omega, a, m, c, S, rfl, h3.chg hp fun k hk e => hDS k hk e, h4, h5⟩ a0 ha0
    exact retD ha0.defers hdef e1 e2
theorem W_w2x {x1 : Str} {res : (List Str) × Bool} (hm : M_impl_SplitPath n x1 = some res) (hBw : B ≤ w0.z) (p1_0 : x1.b.length ≤ LEN) : CallsR prog 106 [Str.v x1] w0 (Q29 w0 B res) := by
 unfold M_impl_SplitPath at hm
 refine goF func106 z z (lb z) fun fn hr => Ws (Ra z (Ra z (Wn (Ws (Rm z ?_)))))
 obtain ⟨r1a, r1b, e10, hm11⟩ := bd2S hm
 refine E z (fc call154 z (W_w2w (B := B) e10 hBw p1_0)) ?_
 rintro _ w1c ⟨s12, a13, n14, c15, S16, rfl, h17, h18, h19⟩
 refine R z (ext_ z z) (R z (ext_ z z) (Ra z (Ra z (Wn ?_))))
 obtain rfl := som hm11
 exact Wr (ret2 hr z z ⟨s12, a13, n14, c15, S16, z, h17, h18, h19⟩)
theorem W_w2y {x1 : List Str} {x2 : Int} {x3 : Str} {res : Bool} (hm : M_impl_patternOf_g_fits x1 x2 x3 = some res) (hBw : B ≤ w0.z) (p1_0 : repS w0 B (sl A0 N0 C0) x1) (p2_0 : inI x2) (p3_0 : x3.b.length ≤ LEN) : CallsR prog 183 [sl A0 N0 C0, vI x2, Str.v x3] w0 (Q7 w0 B res) := by
 unfold M_impl_patternOf_g_fits at hm
 refine goF func183 z z (lb z) fun fn hr => Ws (Ra z (Wn (Wq (Ws (Rm z (Rm z ?_))))))
 obtain ⟨x1c, e12, hm11⟩ := bdS hm
 refine RX z (at_ (α := Str) d_177 z_9 z z z p1_0 e12) ?_
 rintro _ ⟨b1d, o1e, cs1f, rfl, h13, h14, h1g⟩
 obtain ⟨rfl, h1h⟩ := Str_open h14
 refine R z (l1 g_9 z fid (h13.at0 z)) (R z (rd_eqlT z z) (Wn (Wc z (fun hc10 => ?_) (fun hc10 => ?_))))
 ·refine Ws (Rm z ?_)
  obtain ⟨r1i, r1j, e15, hm16⟩ := bd2S (ifT hm11 hc10)
  refine E z (fc call182 z (W_w1i (B := B) e15 hBw p3_0)) ?_
  rintro _ w1k ⟨s17, rfl, h1l⟩
  refine Rm z (R z (ext_ z z) (R z (ext_ z z) (Ra z (Ra z (Wn (Ws (Rm z (Ra z (Wn ?_)))))))))
  obtain rfl := som hm16
  exact Wr (ret1 hr z ⟨s17, z⟩)
 refine Wk (Ws (Rm z (Rm z ?_)))
 obtain ⟨x1m, e18, hm19⟩ := bdS (ifF hm11 hc10)
 refine RX z (at_ (α := Str) d_177 z_9 z z z p1_0 e18) ?_
 rintro _ ⟨b1n, o1o, cs1p, rfl, h1a, h1b, h1q⟩
 obtain ⟨rfl, h1r⟩ := Str_open h1b
 refine R z (l1 g_9 z fid (h1a.at0 z)) (Rm z (R z (rd_eqlT z z) (Ra z (Wn ?_))))
 obtain rfl := som hm19
 exact Wr (ret1 hr z ⟨(br w0), z⟩)
theorem W_w2z {x1 : List Str} {x2 : List Str} {res : Bool} (hm : M_impl_patternOf_g_match x1 x2 = some res) (hBw : B ≤ w0.z) (p1_0 : repS w0 B (sl A0 N0 C0) x1) (p2_0 : repS w0 B (sl A5 N5 C5) x2) : CallsR prog 157 [sl A0 N0 C0, sl A5 N5 C5] w0 (Q7 w0 B res) := by
 unfold M_impl_patternOf_g_match at hm
 refine goF func157 z z (lb z) fun fn hr => Ws (Ra z (Wn (Ws (Rm z (R z (lnR d_77 z p2_0) (R z (add_ z z) ?_))))))
 obtain ⟨x7g, e31, hm32⟩ := bdS hm
 refine E z (ef_makeN (α := Bool) el_174 (fun _ => Bool_own) e31 z z) ?_
 rintro _ w7h ⟨a33, n34, c35, rfl, s1u, h29⟩
 refine Ra z (Wn (Ws (Rm z ?_)))
 obtain ⟨x7i, e2a, hm36⟩ := bdS hm32
 refine RX z (rd_atU (α := Bool) d_174 z_4 z z h29 e2a) ?_
 rintro _ ⟨g7j, h37, rfl⟩
 refine E0 (ef_setN (α := Bool) z_4 z h37 z z z e2a h29 nd_one Bool_own all_nil nd_nil) ?_
 rintro _ w1i ⟨S1o, s1v, h38, h39, h7k⟩
 refine Wn (Wq (Ws (Rm z ?_)))
 have h21 := mem1le hBw
 have h2b := (p1_0.ext s1u).chg s1v (lg h21)
 refine R z (lnR d_177 z h2b) (Rm z (Wn ?_))
 obtain ⟨u7l, hu3a, hm2c⟩ := bdS hm36
 refine WC_forN (σ := (List Bool)) (ρ := Bool) (fun (k12 : Nat) (x1b : List Bool) a w => ∃ a13 n14 c15 S1e, Sat 82 [(0, sl A0 N0 C0), (1, sl A5 N5 C5), (5, sl a13 n14 c15), (16, vI (x1.length : Int)), (17, (vI ((k12 : Nat) : Int)))] a ∧ Below w1i.z w1i w ∧ ownS w S1e (sl a13 n14 c15) x1b ∧ S1e.Nodup ∧ (∀ k ∈ S1e, k ∈ S1o ∨ w1i.z ≤ k)) (fun (x1b : List Bool) a w => ∃ a13 n14 c15 S1e, Sat 82 [(1, sl A5 N5 C5), (5, sl a13 n14 c15)] a ∧ Below w1i.z w1i w ∧ ownS w S1e (sl a13 n14 c15) x1b ∧ S1e.Nodup ∧ (∀ k ∈ S1e, k ∈ S1o ∨ w1i.z ≤ k)) (fun r ex a w => ex = .ret ∧ RetPost prog fn (Q7 w0 B r) a w) hu3a ?_ ?_ ?_ ?_ ?_
 ·exact fun _ q => ⟨a33, n34, c35, S1o, (q.k (s5 z z z z z)), (br w1i), h38, h39, (io sr)⟩
 ·rintro k12 x1b a7m w16 o7n hk22 ⟨a13, n14, c15, S1e, hS3b, s1m, h1f, h23, h24⟩ hm3c
  refine Wu ?_ hS3b
  refine Ws (R z (lss z z) (Wn (Wq (Wc z (fun _ => ?_) (fun hc => (nolt hk22 hc).elim)))))
  refine Wk (Wq (WC_block (Ws (Rm z (Ra z (Wn (Ws (Rm z ?_))))))))
  have h2d := ((p2_0.ext s1u).chg s1v (lg h21)).ext s1m
  refine R z (lnR d_77 z h2d) (R z (add_ z z) ?_)
  obtain ⟨x7o, e3d, hm3e⟩ := bdS hm3c
  refine E z (ef_makeN (α := Bool) el_174 (fun _ => Bool_own) e3d z z) ?_
  rintro _ w1c ⟨a17, n18, c19, rfl, s1p, h3f⟩
  refine Ra z (Wn (Wq (Ws (Rm z ?_))))
  have h25 := h1f.ext s1p
  refine R z (lnR d_174 z (ownS_rep h25 (ownS.lt h1f))) (Rm z (Wn ?_))
  obtain ⟨u7p, hu3g, hm2e⟩ := bdS hm3e
  refine WC_forN (σ := (List Bool)) (ρ := Bool) (fun (k1k : Nat) (x1l : List Bool) a w => ∃  (S10 : List Nat), Sat 82 [(0, sl A0 N0 C0), (1, sl A5 N5 C5), (5, sl a13 n14 c15), (6, (vI ((k12 : Nat) : Int))), (7, sl a17 n18 c19), (16, vI (x1.length : Int)), (17, (vI ((k12 : Nat) : Int))), (25, vI (x1b.length : Int)), (26, (vI ((k1k : Nat) : Int)))] a ∧ Chg (· ∈ [w16.z]) w1c w ∧ ownS w S10 (sl a17 n18 c19) x1l ∧ S10.Nodup ∧ (∀ k ∈ S10, k ∈ [w16.z] ∨ w1c.z ≤ k)) (fun (x1l : List Bool) a w => ∃  (S10 : List Nat), Sat 82 [(0, sl A0 N0 C0), (1, sl A5 N5 C5), (7, sl a17 n18 c19), (16, vI (x1.length : Int)), (17, (vI ((k12 : Nat) : Int)))] a ∧ Chg (· ∈ [w16.z]) w1c w ∧ ownS w S10 (sl a17 n18 c19) x1l ∧ S10.Nodup ∧ (∀ k ∈ S10, k ∈ [w16.z] ∨ w1c.z ≤ k)) (fun r ex a w => ex = .ret ∧ RetPost prog fn (Q7 w0 B r) a w) hu3g ?_ ?_ ?_ ?_ ?_
  ·exact fun _ q => ⟨[w16.z], (q.k (s9 z z z z z z z z z)), (cr [w16.z] w1c), h3f, nd_one, (io sr)⟩
  ·rintro k1k x1l a7q w11 o7r hk2f ⟨S10, hS3h, s1n, h1a, h1j, h1w⟩ hm3i
   refine Wu ?_ hS3h
   refine Ws (R z (lss z z) (Wn (Wq (Wc z (fun _ => ?_) (fun hc => (nolt hk2f hc).elim)))))
   refine Wk (Wq (WC_block (Ws (Rm z (Ra z (Wn (WC_block (Ws (Rm z (Rm z ?_))))))))))
   obtain ⟨x7s, e3j, hm3k⟩ := bdS hm3i
   have h2g := lt_ (lt_ s1u.size s1v.size) s1m.size
   have h2h := mem1le (lt_ hBw h2g)
   have h2i := ((h2b.ext s1m).ext s1p).chg s1n (lg h2h)
   refine RX z (at_ (α := Str) d_177 z_9 z z z h2i e3j) ?_
   rintro _ ⟨b7t, o7u, cs7v, rfl, h3l, h3m, h7w⟩
   obtain ⟨rfl, h7x⟩ := Str_open h3m
   refine R z (l1 g_9 z fid (h3l.at0 z)) (R z (rd_eqlT z z) (Ra z (Wn ?_)))
   obtain ⟨u3n, hu2j, hm3o⟩ := bdS hm3k
   refine WC_cut (fun a w => ∃ (x1x : List Bool), x1x = u3n ∧ ∃  (S1q : List Nat), Sat 82 [(0, sl A0 N0 C0), (1, sl A5 N5 C5), (5, sl a13 n14 c15), (6, (vI ((k12 : Nat) : Int))), (7, sl a17 n18 c19), (16, vI (x1.length : Int)), (17, (vI ((k12 : Nat) : Int))), (25, vI (x1b.length : Int)), (26, (vI ((k1k : Nat) : Int)))] a ∧ Chg (· ∈ S10) w11 w ∧ ownS w S1q (sl a17 n18 c19) x1x ∧ S1q.Nodup ∧ (∀ k ∈ S1q, k ∈ S10 ∨ w11.z ≤ k)) ?_ ?_
   ·refine Wc z (fun hc26 => ?_) (fun hc26 => ?_)
    ·obtain ⟨u3p, hu3q, hm3r⟩ := bdS (ifT hu2j hc26)
     refine WC_cut (fun a w => ∃ (x1y : List Bool), x1y = u3p ∧ ∃  (S1r : List Nat), Sat 82 [(0, sl A0 N0 C0), (1, sl A5 N5 C5), (5, sl a13 n14 c15), (6, (vI ((k12 : Nat) : Int))), (7, sl a17 n18 c19), (16, vI (x1.length : Int)), (17, (vI ((k12 : Nat) : Int))), (25, vI (x1b.length : Int)), (26, (vI ((k1k : Nat) : Int)))] a ∧ Chg (· ∈ S10) w11 w ∧ ownS w S1r (sl a17 n18 c19) x1y ∧ S1r.Nodup ∧ (∀ k ∈ S1r, k ∈ S10 ∨ w11.z ≤ k)) ?_ ?_
     ·refine Wg (Rm z (Rm z (Rm z (Rm z ?_))))
      obtain ⟨x3s, e3t, hm2k⟩ := bdS hu3q
      refine RX z (at_ (α := Bool) d_174 z_4 z z z (ownS_rep (h25.chg s1n (dj_symm (mnr (ownS.lt h1f)))) (ownS.lt h1f)) e3t) ?_
      rintro _ ⟨b7y, o7z, cs80, rfl, h3u, h3v, h81⟩
      obtain rfl := Bool_open h3v
      refine R z (l1 g_4 z fid (h3u.at0 z)) (Rm z ?_)
      rcases bs x3s with hc1d | hc1d
      ·iterate 3 refine Nh z hc1d ?_
       refine Nv z (Nv z (Nv z (Nv z (Nv z (Nh z hc1d (R z (pT z hc1d z) ?_))))))
       obtain ⟨x3w, e2l, hm3x⟩ := bdS (ifT hm2k hc1d)
       refine RX z (rd_atU (α := Bool) d_174 z_4 z z h1a e2l) ?_
       rintro _ ⟨g82, h3y, rfl⟩
       refine E0 (ef_setN (α := Bool) z_4 z h3y z z z e2l h1a h1j Bool_own all_nil nd_nil) ?_
       rintro _ w3z ⟨S2m, s40, h41, h42, h43⟩
       refine Wl ?_
       have h44 : ∀ k ∈ S2m, k ∈ S10 ∨ w11.z ≤ k := or2 h43 (io sr) all_nil (leor lr)
       have h45 : Chg (· ∈ S10) w11 w3z := cM (cr S10 w11) s40 (io sr)
       exact fun _ q => ⟨x3w, som hm3x, S2m, (q.k (s9 z z z z z z z z z)), h45, h41, h42, h44⟩
      have hm2n := ifF hm2k hc1d
      refine Rh z hc1d (mv z) (Rh z hc1d (rd_gtr z z) (Rh z hc1d (mv z) ?_))
      rcases bs (decide (0 < ((k1k : Nat) : Int))) with hc1g | hc1g
      ·refine Rh z hc1g (mv z) (Rh z hc1g (mv z) (Rh z hc1g (sb_ z z) ?_))
       obtain ⟨x83, e46, hm47⟩ := bdS (ifT hm2n hc1g)
       refine RXg z z hc1g z (at_ (α := Bool) d_174 z_4 z z z (ownS.rep h1a) e46) ?_
       rintro _ ⟨b84, o85, cs86, rfl, h48, h49, h87⟩
       obtain rfl := Bool_open h49
       refine Rh z hc1g (l1 g_4 z fid (h48.at0 z)) (Rh z hc1d (pT z hc1g z) (R z (pF z hc1d z) ?_))
       obtain ⟨x4a, e2o, hm4b⟩ := bdS hm47
       refine RX z (rd_atU (α := Bool) d_174 z_4 z z h1a e2o) ?_
       rintro _ ⟨g88, h4c, rfl⟩
       refine E0 (ef_setN (α := Bool) z_4 z h4c z z z e2o h1a h1j Bool_own all_nil nd_nil) ?_
       rintro _ w4d ⟨S2p, s4e, h4f, h4g, h4h⟩
       refine Wl ?_
       have h4i : ∀ k ∈ S2p, k ∈ S10 ∨ w11.z ≤ k := or2 h4h (io sr) all_nil (leor lr)
       have h4j : Chg (· ∈ S10) w11 w4d := cM (cr S10 w11) s4e (io sr)
       exact fun _ q => ⟨x4a, som hm4b, S2p, (q.k (s9 z z z z z z z z z)), h4j, h4f, h4g, h4i⟩
      iterate 5 refine Nh z hc1g ?_
      refine Rh z hc1d (pF z hc1g z) (R z (pF z hc1d z) ?_)
      obtain ⟨x4k, e2q, hm4l⟩ := bdS (ifF hm2n hc1g)
      refine RX z (rd_atU (α := Bool) d_174 z_4 z z h1a e2q) ?_
      rintro _ ⟨g89, h4m, rfl⟩
      refine E0 (ef_setN (α := Bool) z_4 z h4m z z z e2q h1a h1j Bool_own all_nil nd_nil) ?_
      rintro _ w4n ⟨S2r, s4o, h4p, h4q, h4r⟩
      refine Wl ?_
      have h4s : ∀ k ∈ S2r, k ∈ S10 ∨ w11.z ≤ k := or2 h4r (io sr) all_nil (leor lr)
      have h4t : Chg (· ∈ S10) w11 w4n := cM (cr S10 w11) s4o (io sr)
      exact fun _ q => ⟨x4k, som hm4l, S2r, (q.k (s9 z z z z z z z z z)), h4t, h4p, h4q, h4s⟩
     rintro a4u w4v ⟨x1y, rfl, S1r, hS8a, s4w, h4x, h4y, h4z⟩
     revert a4u
     have h50 : ∀ k ∈ S1r, k ∈ S10 ∨ w11.z ≤ k := or1 h4z (io sr) (leor lr)
     have h51 : Chg (· ∈ S10) w11 w4v := cM (cr S10 w11) s4w (io sr)
     exact fun _ q => ⟨x1y, som hm3r, S1r, (q.k (s9 z z z z z z z z z)), h51, h4x, h4y, h50⟩
    refine Ws (Rm z (R z (rd_gtr z z) (Ra z (Wn ?_))))
    obtain ⟨u52, hu2s, hm53⟩ := bdS (ifF hu2j hc26)
    refine WC_cut (fun a w => ∃ (x1z : List Bool), x1z = u52 ∧ ∃  (S1s : List Nat), Sat 82 [(0, sl A0 N0 C0), (1, sl A5 N5 C5), (5, sl a13 n14 c15), (6, (vI ((k12 : Nat) : Int))), (7, sl a17 n18 c19), (16, vI (x1.length : Int)), (17, (vI ((k12 : Nat) : Int))), (25, vI (x1b.length : Int)), (26, (vI ((k1k : Nat) : Int)))] a ∧ Chg (· ∈ S10) w11 w ∧ ownS w S1s (sl a17 n18 c19) x1z ∧ S1s.Nodup ∧ (∀ k ∈ S1s, k ∈ S10 ∨ w11.z ≤ k)) ?_ ?_
    ·refine Wc z (fun hc27 => ?_) (fun hc27 => ?_)
     ·obtain ⟨u54, hu55, hm56⟩ := bdS (ifT hu2s hc27)
      refine WC_cut (fun a w => ∃ (x20 : List Bool), x20 = u54 ∧ ∃  (S1t : List Nat), Sat 82 [(0, sl A0 N0 C0), (1, sl A5 N5 C5), (5, sl a13 n14 c15), (6, (vI ((k12 : Nat) : Int))), (7, sl a17 n18 c19), (16, vI (x1.length : Int)), (17, (vI ((k12 : Nat) : Int))), (25, vI (x1b.length : Int)), (26, (vI ((k1k : Nat) : Int)))] a ∧ Chg (· ∈ S10) w11 w ∧ ownS w S1t (sl a17 n18 c19) x20 ∧ S1t.Nodup ∧ (∀ k ∈ S1t, k ∈ S10 ∨ w11.z ≤ k)) ?_ ?_
      ·refine Wg (Rm z (Rm z (Rm z (Rm z (R z (sb_ z z) ?_)))))
       obtain ⟨x57, e58, hm2t⟩ := bdS hu55
       refine RX z (at_ (α := Bool) d_174 z_4 z z z (ownS_rep (h25.chg s1n (dj_symm (mnr (ownS.lt h1f)))) (ownS.lt h1f)) e58) ?_
       rintro _ ⟨b8b, o8c, cs8d, rfl, h59, h5a, h8e⟩
       obtain rfl := Bool_open h5a
       refine R z (l1 g_4 z fid (h59.at0 z)) (Rm z ?_)
       rcases bs x57 with hc1h | hc1h
       ·iterate 4 refine Rh z hc1h (mv z) ?_
        refine Rh z hc1h (sb_ z z) ?_
        obtain ⟨x8f, e5b, hm5c⟩ := bdS (ifT hm2t hc1h)
        refine RXg z z hc1h z (at_ (α := Str) d_77 z_9 z z z ((h2d.ext s1p).chg s1n (lg h2h)) e5b) ?_
        rintro _ ⟨b8g, o8h, cs8i, rfl, h5d, h5e, h8j⟩
        obtain ⟨rfl, h5f⟩ := Str_open h5e
        refine Rh z hc1h (l1 g_9 z fid (h5d.at0 z)) ?_
        obtain ⟨r8k, e5g, hm5h⟩ := bdS hm5c
        refine Eg z z hc1h z (fc call183 z (W_w2y (B := B) e5g (lt_ hBw (lt_ (lt_ h2g s1p.size) s1n.size)) h2i (inI_cnt (Nat.le_of_lt hk22) (lt_ (repS.len p1_0) LEN_le)) h5f)) ?_
        rintro _ w5i ⟨s28, rfl⟩
        refine R z (pT z hc1h z) ?_
        obtain ⟨x5j, e2u, hm5k⟩ := bdS hm5h
        have h2v := h1a.ext s28
        refine RX z (rd_atU (α := Bool) d_174 z_4 z z h2v e2u) ?_
        rintro _ ⟨g8l, h5l, rfl⟩
        refine E0 (ef_setN (α := Bool) z_4 z h5l z z z e2u h2v h1j Bool_own all_nil nd_nil) ?_
        rintro _ w5m ⟨S2w, s5n, h5o, h5p, h5q⟩
        refine Wl ?_
        have h5r : ∀ k ∈ S2w, k ∈ S10 ∨ w11.z ≤ k := or2 h5q (io sr) all_nil (leor s28.size)
        have h5s : Chg (· ∈ S10) w11 w5i := cext (cr S10 w11) s28
        have h5t : Chg (· ∈ S10) w11 w5m := cM h5s s5n (io sr)
        exact fun _ q => ⟨x5j, som hm5k, S2w, (q.k (s9 z z z z z z z z z)), h5t, h5o, h5p, h5r⟩
       iterate 8 refine Nh z hc1h ?_
       refine R z (pF z hc1h z) ?_
       obtain ⟨x5u, e2x, hm5v⟩ := bdS (ifF hm2t hc1h)
       refine RX z (rd_atU (α := Bool) d_174 z_4 z z h1a e2x) ?_
       rintro _ ⟨g8m, h5w, rfl⟩
       refine E0 (ef_setN (α := Bool) z_4 z h5w z z z e2x h1a h1j Bool_own all_nil nd_nil) ?_
       rintro _ w5x ⟨S2y, s5y, h5z, h60, h61⟩
       refine Wl ?_
       have h62 : ∀ k ∈ S2y, k ∈ S10 ∨ w11.z ≤ k := or2 h61 (io sr) all_nil (leor lr)
       have h63 : Chg (· ∈ S10) w11 w5x := cM (cr S10 w11) s5y (io sr)
       exact fun _ q => ⟨x5u, som hm5v, S2y, (q.k (s9 z z z z z z z z z)), h63, h5z, h60, h62⟩
      rintro a64 w65 ⟨x20, rfl, S1t, hS8n, s66, h67, h68, h69⟩
      revert a64
      have h6a : ∀ k ∈ S1t, k ∈ S10 ∨ w11.z ≤ k := or1 h69 (io sr) (leor lr)
      have h6b : Chg (· ∈ S10) w11 w65 := cM (cr S10 w11) s66 (io sr)
      exact fun _ q => ⟨x20, som hm56, S1t, (q.k (s9 z z z z z z z z z)), h6b, h67, h68, h6a⟩
     exact WC_skip (fun _ q => ⟨x1l, som (ifF hu2s hc27), S10, (q.k (s9 z z z z z z z z z)), (cr S10 w11), h1a, h1j, (io sr)⟩)
    rintro a6c w6d ⟨x1z, rfl, S1s, hS8o, s6e, h6f, h6g, h6h⟩
    revert a6c
    have h6i : ∀ k ∈ S1s, k ∈ S10 ∨ w11.z ≤ k := or1 h6h (io sr) (leor lr)
    have h6j : Chg (· ∈ S10) w11 w6d := cM (cr S10 w11) s6e (io sr)
    exact fun _ q => ⟨x1z, som hm53, S1s, (q.k (s9 z z z z z z z z z)), h6j, h6f, h6g, h6i⟩
   rintro a6k w6l ⟨x1x, rfl, S1q, hS8p, s6m, h6n, h6o, h6p⟩
   revert a6k
   refine Wo (Wg (R z (inc_ hk2f (lt_ (ownS.len h1f) LEN_le) z z) (Rm z (Wl ?_))))
   have h2z : ∀ k ∈ S10, k ∈ [w16.z] ∨ w1c.z ≤ k := or1 h1w (io sr) (leor lr)
   have h6q : ∀ k ∈ S1q, k ∈ [w16.z] ∨ w1c.z ≤ k := or1 h6p h2z (leor s1n.size)
   have h6r : Chg (· ∈ [w16.z]) w1c w11 := cM (cr [w16.z] w1c) s1n (io sr)
   have h6s : Chg (· ∈ [w16.z]) w1c w6l := cM h6r s6m h2z
   exact fun _ q => ⟨x1x, (som hm3o).symm, ⟨S1q, (q.k (s9 z z z z z z z z z)), h6s, h6n, h6o, h6q⟩⟩
  ·rintro x1l a8q w6t ⟨S10, hS6u, s6v, h1a, h1j, h1w⟩
   refine Wu ?_ hS6u
   refine Ws (R z (lss z z) (Wn (Wq (Wc z (fun hc => (noltt hc).elim) (fun _ => ?_)))))
   have h6w : ∀ k ∈ S10, k ∈ [w16.z] ∨ w1c.z ≤ k := or1 h1w (io sr) (leor lr)
   have h6x : Chg (· ∈ [w16.z]) w1c w6t := cM (cr [w16.z] w1c) s6v (io sr)
   exact WC_exit (fun a' ha' => ⟨rfl, ⟨S10, (Sat.weaken ha' (s5 z z z z z)), h6x, h1a, h1j, h6w⟩⟩)
  ·rintro x1l a6y w8r rfl ⟨S10, hS8s, s6z, h1a, h1j, h1w⟩
   have hm70 := elL hm2e
   revert a6y
   refine Wo (Wg (Rm z (Ra z (Wn (Wg (R z (inc_ hk22 (lt_ (repS.len p1_0) LEN_le) z z) (Rm z (Wl ?_))))))))
   have h71 : ∀ k ∈ [w16.z], k ∈ S1o ∨ w1i.z ≤ k := mor s1m.size
   have h72 : ∀ k ∈ S10, k ∈ S1o ∨ w1i.z ≤ k := or1 h1w h71 (leor (lt_ s1m.size s1p.size))
   exact fun _ q => ⟨x1l, (som hm70).symm, ⟨a17, n18, c19, S10, (q.k (s5 z z z z z)), (bM (bup s1m s1p) s6z (mem1le s1m.size)), h1a, h1j, h72⟩⟩
  rintro r8t ex8u a8v w8w rfl ⟨rfl, hq73⟩
  have hm74 := elR hm2e
  exact ⟨(inbR (QO_ret (som hm74).symm ⟨rfl, hq73⟩)), z⟩
 ·rintro x1b a8x w8y ⟨a13, n14, c15, S1e, hS75, s76, h1f, h23, h24⟩
  refine Wu ?_ hS75
  refine Ws (R z (lss z z) (Wn (Wq (Wc z (fun hc => (noltt hc).elim) (fun _ => ?_)))))
  have h77 : ∀ k ∈ S1e, k ∈ S1o ∨ w1i.z ≤ k := or1 h24 (io sr) (leor lr)
  exact WC_exit (fun a' ha' => ⟨rfl, ⟨a13, n14, c15, S1e, (Sat.weaken ha' (s2 z z)), s76, h1f, h23, h77⟩⟩)
 ·rintro x1b a78 w8z rfl ⟨a13, n14, c15, S1e, hS90, s30, h1f, h23, h24⟩
  have hm79 := elL hm2c
  revert a78
  refine Wo (Ws (Rm z (Rm z (R z (lnR d_77 z (((p2_0.ext s1u).chg s1v (lg h21)).ext s30)) ?_))))
  obtain ⟨x91, e7a, hm7b⟩ := bdS hm79
  refine RX z (at_ (α := Bool) d_174 z_4 z z z (ownS.rep h1f) e7a) ?_
  rintro _ ⟨b92, o93, cs94, rfl, h7c, h7d, h95⟩
  obtain rfl := Bool_open h7d
  refine R z (l1 g_4 z fid (h7c.at0 z)) (Ra z (Wn ?_))
  obtain rfl := som hm7b
  exact Wr (ret1 hr z ⟨(bup (bM s1u s1v (mem1 lr)) s30), z⟩)
 rintro r96 ex97 a98 w99 rfl ⟨rfl, hq7e⟩
 have hm7f := elR hm2c
 obtain rfl := som hm7f
 exact ⟨hq7e, z⟩
theorem W_w30 {x1 : List Str} {x2 : List Str} {res : Bool} (hm : M_impl_MatchSteps x1 x2 = some res) (hBw : B ≤ w0.z) (p1_0 : repS w0 B (sl A0 N0 C0) x1) (p2_0 : repS w0 B (sl A5 N5 C5) x2) : CallsR prog 107 [sl A0 N0 C0, sl A5 N5 C5] w0 (Q7 w0 B res) := by
 unfold M_impl_MatchSteps at hm
 refine goF func107 z z (lb z) fun fn hr => Ws (Ra z (Wn (Ws (Rm z (Rm z ?_)))))
 obtain ⟨r13, e10, hm11⟩ := bdS hm
 refine E z (fc call157 z (W_w2z (B := B) e10 hBw p1_0 p2_0)) ?_
 rintro _ w14 ⟨s12, rfl⟩
 refine Ra z (Wn ?_)
 obtain rfl := som hm11
 exact Wr (ret1 hr z ⟨s12, z⟩)
theorem W_w31 {x1 : Str} {x2 : Str} {res : Bool} (hm : M_impl_MatchPath n x1 x2 = some res) (hBw : B ≤ w0.z) (p1_0 : x1.b.length ≤ LEN) (p2_0 : x2.b.length ≤ LEN) : CallsR prog 60 [Str.v x1, Str.v x2] w0 (Q7 w0 B res) := by
 unfold M_impl_MatchPath at hm
 refine goF func60 z z (lb z) fun fn hr => Ws (Ra z (Wn (Ws (Rm z ?_))))
 obtain ⟨r1o, r19, e1a, hm1b⟩ := bd2S hm
 refine E z (fc call105 z (W_w2v (B := B) e1a hBw p1_0)) ?_
 rintro _ w1p ⟨s15, a1q, n1r, c1s, S1t, rfl, h16, h1u, h1v⟩
 refine Rm z (R z (ext_ z z) (R z (ext_ z z) (Ra z (Ra z (Wn (Ws (Rm z ?_)))))))
 obtain ⟨r1w, r1c, e1d, hm1e⟩ := bd2S hm1b
 refine E z (fc call106 z (W_w2x (B := B) e1d (lt_ hBw s15.size) p2_0)) ?_
 rintro _ w12 ⟨s13, a1x, n1y, c1z, S20, rfl, h1f, h21, h22⟩
 refine Rm z (R z (ext_ z z) (R z (ext_ z z) (Ra z (Ra z (Wn (Wq ?_))))))
 obtain ⟨u1g, hu17, hm1h⟩ := bdS hm1e
 refine WC_cut (fun a w => ∃ (x14 : Bool), x14 = u1g ∧ Sat 28 [(4, vB x14)] a ∧ Below w12.z w12 w) ?_ ?_
 ·refine Wg (Rm z (Rm z ?_))
  rcases bs r19 with hc11 | hc11
  ·have hm18 := ifT hu17 hc11
   refine Rh z hc11 (mv z) (R z (pT z hc11 z) (Rm z ?_))
   rcases bs r1c with hc10 | hc10
   ·refine Rh z hc10 (mv z) (Rh z hc10 (mv z) ?_)
    obtain ⟨r1i, e1j, hm1k⟩ := bdS (ifT hm18 hc10)
    refine Eg z z hc10 z (fc call107 z (W_w30 (B := w12.z) e1j lr (repS.mono (ownS_rep (h16.ext s13) (ownS.lt h16)) s13.size) (ownS.rep h1f))) ?_
    rintro _ w23 ⟨s1l, rfl⟩
    exact R z (pT z hc10 z) (Ra z (Wl (fun _ q => ⟨r1i, som hm1k, (q.k (s1 z)), s1l⟩)))
   iterate 3 refine Nh z hc10 ?_
   exact R z (pF z hc10 z) (Ra z (Wl (fun _ q => ⟨false, som (ifF hm18 hc10), (q.k (s1 z)), (br w12)⟩)))
  exact Nh z hc11 (R z (pF z hc11 z) (Rm z (Nh z z (Nh z z (Nh z z (R z (pF z z z) (Ra z (Wl (fun _ q => ⟨false, som (ifF hu17 hc11), (q.k (s1 z)), (br w12)⟩)))))))))
 rintro a1m w24 ⟨x14, rfl, hS25, s1n⟩
 revert a1m
 refine Wo ?_
 obtain rfl := som hm1h
 exact Wr (ret1 hr z ⟨(bup (bup s15 s13) s1n), z⟩)
theorem W_w32 {x1 : Entry} {x2 : Str} {b2 o2 : Nat} {res : Bool} (hm : M_impl_SelectParts_1 n x1 x2 = some res) (hBw : B ≤ w0.z) (p1_0 : x1.path.b.length ≤ LEN) (p1_1 : inI x1.rule) (p1_2 : inI x1.start) (p1_3 : inI x1.end_) (p2_0 : x2.b.length ≤ LEN) (hC2 : CellsAt w0 b2 o2 [Str.v x2]) (hC2b : b2 < B) : CallsR prog 59 [(.agg #[Str.v x1.path, vI x1.rule, vI x1.start, vI x1.end_]), (.pointer (some ⟨b2, o2, none⟩))] w0 (Q7 w0 B res) := by
 unfold M_impl_SelectParts_1 at hm
 refine goF func59 z z (lb z) fun fn hr => Ws (E z (fb z) ?_)
 rintro _ w12 ⟨rfl, h11⟩
 have h10 := h11.below
 have h13 : Blk w12 w0.z [Str.v x1.path, vI x1.rule, vI x1.start, vI x1.end_] := h11.blk
 refine Ra z (Wn (Ws (R z (l1 g_9 z fid ((hC2.ext h10).at0 z)) (R z (fd f_57_0 z) (R z (l1 g_9 z fid (h13.at z)) ?_)))))
 obtain ⟨r17, e14, hm15⟩ := bdS hm
 refine E z (fc call60 z (W_w31 (B := B) e14 (lt_ hBw h10.size) p2_0 p1_0)) ?_
 rintro _ w18 ⟨s16, rfl⟩
 refine Ra z (Wn ?_)
 obtain rfl := som hm15
 exact Wr (ret1 hr z ⟨(bup h10 s16), z⟩)
theorem W_w33 {x1 : List Entry} {x2c0 : Str} {b2c0 o2c0 : Nat} {res : (List Entry)} (hm : M_impl_selectEntries_impl_SelectParts_1 n x1 x2c0 = some res) (hBw : B ≤ w0.z) (p1_0 : repS w0 B (sl A0 N0 C0) x1) (p2c0_0 : x2c0.b.length ≤ LEN) (hC2c0 : CellsAt w0 b2c0 o2c0 [Str.v x2c0]) (hC2c0b : b2c0 < B) : CallsR prog 58 [sl A0 N0 C0, (.func (.func 59) #[] #[(.pointer (some ⟨b2c0, o2c0, none⟩))])] w0 (Q16 w0 B res) := by
 unfold M_impl_selectEntries_impl_SelectParts_1 at hm
 refine goF func58 z z (lb z) fun fn hr => Ws (Ra z (Wn (Ws (E z (ef_lit0 (α := Entry) el_36) ?_))))
 rintro _ w12 ⟨a26, n27, c28, rfl, s1e, h29⟩
 refine Ra z (Wn (Wq (Ws (Rm z ?_))))
 have h1u := p1_0.ext s1e
 refine R z (lnR d_36 z h1u) (Rm z (Wn ?_))
 obtain ⟨u3r, hu2a, hm1v⟩ := bdS hm
 refine WC_forN (σ := (List Entry)) (ρ := (List Entry)) (fun (k1h : Nat) (x18 : List Entry) a w => ∃ a13 n14 c15 S10, Sat 24 [(1, (.func (.func 59) #[] #[(.pointer (some ⟨b2c0, o2c0, none⟩))])), (5, sl a13 n14 c15), (9, sl A0 N0 C0), (10, vI (x1.length : Int)), (11, (vI ((k1h : Nat) : Int)))] a ∧ Chg (· ∈ [w0.z]) w12 w ∧ ownS w S10 (sl a13 n14 c15) x18 ∧ S10.Nodup ∧ (∀ k ∈ S10, k ∈ [w0.z] ∨ w12.z ≤ k)) (fun (x18 : List Entry) a w => ∃ a13 n14 c15 S10, Sat 24 [(5, sl a13 n14 c15)] a ∧ Chg (· ∈ [w0.z]) w12 w ∧ ownS w S10 (sl a13 n14 c15) x18 ∧ S10.Nodup ∧ (∀ k ∈ S10, k ∈ [w0.z] ∨ w12.z ≤ k)) (fun r ex a w => ex = .ret ∧ RetPost prog fn (Q16 w0 B r) a w) hu2a ?_ ?_ ?_ ?_ ?_
 ·exact fun _ q => ⟨a26, n27, c28, [w0.z], (q.k (s5 z z z z z)), (cr [w0.z] w12), h29, nd_one, (io sr)⟩
 ·rintro k1h x18 a3s w1m o3t hk1w ⟨a13, n14, c15, S10, hS2b, s19, h17, h1a, h1f⟩ hm2c
  refine Wu ?_ hS2b
  refine Ws (R z (lss z z) (Wn (Wq (Wc z (fun _ => ?_) (fun hc => (nolt hk1w hc).elim)))))
  refine Wk (Wq (WC_block (Ws ?_)))
  obtain ⟨x11, e2d, hm2e⟩ := bdS hm2c
  have h1x := mem1le hBw
  refine RX z (at_ (α := Entry) d_36 z_57 z z z (h1u.chg s19 (lg h1x)) e2d) ?_
  rintro _ ⟨b3u, o3v, cs3w, rfl, h2f, h2g, h3x⟩
  obtain ⟨rfl, h1n, h1o, h1p, h1q⟩ := Entry_open h2g
  refine R z (lN (vs := [Str.v x11.path, vI x11.rule, vI x11.start, vI x11.end_]) g_57 z_57 z z fid h2f) (E z (fa zero_57) ?_)
  rintro _ w1y ⟨rfl, h1z⟩
  have h1b := h1z.below
  have h2h : Blk w1y w1m.z [(Str.v (⟨[]⟩ : Str)), vI 0, vI 0, vI 0] := h1z.blk
  refine E0 (fs (cur' := [Str.v x11.path, vI x11.rule, vI x11.start, vI x11.end_]) z_57 z z h2h z (lb z) (oA z) z) ?_
  rintro _ w2i ⟨h20, s2j⟩
  have h1c := s2j.one
  refine Wn (Ws (Rm z (R z (lN (vs := [Str.v x11.path, vI x11.rule, vI x11.start, vI x11.end_]) g_57 z_57 z z fid (h20.row 0 4 z)) ?_)))
  have h21 := lt_ s1e.size s19.size
  obtain ⟨r3y, e2k, hm2l⟩ := bdS hm2e
  refine E z (ef_callV call59 z z (W_w32 (B := B) e2k (lt_ hBw (lt_ (lt_ h21 h1b.size) h1c.size)) h1n h1o h1p h1q p2c0_0 ((((hC2c0.ext s1e).chg s19 ((lg h1x) _ hC2c0b)).ext h1b).chg h1c ((lg (mem1le (lt_ hBw h21))) _ hC2c0b)) hC2c0b)) ?_
  rintro _ w16 ⟨s1g, rfl⟩
  refine Wn ?_
  obtain ⟨u2m, hu22, hm2n⟩ := bdS hm2l
  refine WC_cut (fun a w => ∃ (x1i : List Entry), x1i = u2m ∧ ∃ a1j n1k c1l S1d, Sat 24 [(1, (.func (.func 59) #[] #[(.pointer (some ⟨b2c0, o2c0, none⟩))])), (5, sl a1j n1k c1l), (9, sl A0 N0 C0), (10, vI (x1.length : Int)), (11, (vI ((k1h : Nat) : Int)))] a ∧ Chg (· ∈ S10) w16 w ∧ ownS w S1d (sl a1j n1k c1l) x1i ∧ S1d.Nodup ∧ (∀ k ∈ S1d, k ∈ S10 ∨ w16.z ≤ k)) ?_ ?_
  ·refine Wc z (fun hc1r => ?_) (fun hc1r => ?_)
   ·refine Wg (Rm z (R z (lN (vs := [Str.v x11.path, vI x11.rule, vI x11.start, vI x11.end_]) g_57 z_57 z z fid ((h20.ext s1g).row 0 4 z)) (E z (ef_buildSlice [(.tmp 19)] el_36 z z z (szAll z) (lb z) (lb z)) ?_)))
    rintro _ w23 ⟨rfl, h1s⟩
    have h1t := h1s.below
    have h2o : Blk w23 w16.z [Str.v x11.path, vI x11.rule, vI x11.start, vI x11.end_] := h1s.blk
    have h3z := ownS_new1 h1s (Entry_mkO (x := x11)  h1n h1o h1p h1q)
    obtain ⟨x2p, e2q, hm2r⟩ := bdS (ifT hu22 hc1r)
    refine E z (ef_pushN (α := Entry) el_36 e2q z z ((((h17.ext h1b).chg h1c (dj_symm (mnr (ownS.lt h17)))).ext s1g).ext h1t) h1a h2o (Entry_mkO (x := x11)  h1n h1o h1p h1q) all_nil nd_nil) ?_
    rintro _ w2s ⟨S24, a2t, n2u, c2v, rfl, s2w, h2x, h2y, h2z⟩
    refine Ra z (Wl ?_)
    have h30 : ∀ k ∈ S24, k ∈ S10 ∨ w16.z ≤ k := or2 h2z (io sr) all_nil (leor h1t.size)
    have h31 : Chg (· ∈ S10) w16 w23 := cext (cr S10 w16) h1t
    have h32 : Chg (· ∈ S10) w16 w2s := cM h31 s2w (io sr)
    exact fun _ q => ⟨x2p, som hm2r, a2t, n2u, c2v, S24, (q.k (s5 z z z z z)), h32, h2x, h2y, h30⟩
   exact WC_skip (fun _ q => ⟨x18, som (ifF hu22 hc1r), a13, n14, c15, S10, (q.k (s5 z z z z z)), (cr S10 w16), (((h17.ext h1b).chg h1c (dj_symm (mnr (ownS.lt h17)))).ext s1g), h1a, (io sr)⟩)
  rintro a33 w34 ⟨x1i, rfl, a1j, n1k, c1l, S1d, hS40, s35, h36, h37, h38⟩
  revert a33
  refine Wo (Wg (R z (inc_ hk1w (lt_ (repS.len p1_0) LEN_le) z z) (Rm z (Wl ?_))))
  have h25 : ∀ k ∈ S10, k ∈ [w0.z] ∨ w12.z ≤ k := or1 h1f (io sr) (leor lr)
  have h39 : ∀ k ∈ S1d, k ∈ [w0.z] ∨ w12.z ≤ k := or1 h38 h25 (leor (lt_ (lt_ (lt_ s19.size h1b.size) h1c.size) s1g.size))
  have h3a : Chg (· ∈ [w0.z]) w12 w1m := cM (cr [w0.z] w12) s19 (io sr)
  have h3b : Chg (· ∈ [w0.z]) w12 w1y := cext h3a h1b
  have h3c : ∀ k ∈ [w1m.z], k ∈ [w0.z] ∨ w12.z ≤ k := mor s19.size
  have h3d : Chg (· ∈ [w0.z]) w12 w2i := cM h3b h1c h3c
  have h3e : Chg (· ∈ [w0.z]) w12 w16 := cext h3d s1g
  have h3f : Chg (· ∈ [w0.z]) w12 w34 := cM h3e s35 h25
  exact fun _ q => ⟨x1i, (som hm2n).symm, ⟨a1j, n1k, c1l, S1d, (q.k (s5 z z z z z)), h3f, h36, h37, h39⟩⟩
 ·rintro x18 a41 w3g ⟨a13, n14, c15, S10, hS3h, s3i, h17, h1a, h1f⟩
  refine Wu ?_ hS3h
  refine Ws (R z (lss z z) (Wn (Wq (Wc z (fun hc => (noltt hc).elim) (fun _ => ?_)))))
  have h3j : ∀ k ∈ S10, k ∈ [w0.z] ∨ w12.z ≤ k := or1 h1f (io sr) (leor lr)
  have h3k : Chg (· ∈ [w0.z]) w12 w3g := cM (cr [w0.z] w12) s3i (io sr)
  exact WC_exit (fun a' ha' => ⟨rfl, ⟨a13, n14, c15, S10, (Sat.weaken ha' (s1 z)), h3k, h17, h1a, h3j⟩⟩)
 ·rintro x18 a3l w42 rfl ⟨a13, n14, c15, S10, hS43, s3m, h17, h1a, h1f⟩
  have hm3n := elL hm1v
  revert a3l
  refine Wo (Ws (Rm z (Ra z (Wn ?_))))
  obtain rfl := som hm3n
  have h3o : ∀ k ∈ S10, w0.z ≤ k := or1 h1f (mem1 lr) (lele s1e.size)
  exact Wr (ret1 hr z ⟨(bM s1e s3m (mem1 lr)), a13, n14, c15, S10, z, h17, h1a, h3o⟩)
 rintro r44 ex45 a46 w47 rfl ⟨rfl, hq3p⟩
 have hm3q := elR hm1v
 obtain rfl := som hm3q
 exact ⟨hq3p, z⟩
theorem W_w34 {x1 : Desc} {x2 : List UInt8} {x3 : Str} {res : (List Entry)} (hm : M_impl_SelectParts n x1 x2 x3 = some res) (hBw : B ≤ w0.z) (hG : Gl w0 B) (p1_0 : repS w0 B (sl A0 N0 C0) x1.rules) (p2_0 : repS w0 B (sl A5 N5 C5) x2) (p3_0 : x3.b.length ≤ LEN) : CallsR prog 17 [(.agg #[sl A0 N0 C0]), sl A5 N5 C5, Str.v x3] w0 (Q16 w0 B res) := by
 unfold M_impl_SelectParts at hm
 refine goF func17 z z (lb z) fun fn hr => Ws (E z (fb z) ?_)
 rintro _ w15 ⟨rfl, h16⟩
 have h11 := h16.below
 have h1b : Blk w15 w0.z [sl A0 N0 C0] := h16.blk
 refine E z (fb z) ?_
 rintro _ w1c ⟨rfl, h17⟩
 have h10 := h17.below
 have h18 : Blk w1c w15.z [Str.v x3] := h17.blk
 refine Ra z (Wn (Ws (R z (lN (vs := [sl A0 N0 C0]) g_30 z_30 z z fid ((h1b.ext h10).row 0 1 z)) (Rm z ?_))))
 have h13 := lt_ h11.size h10.size
 obtain ⟨r1u, r1v, e1d, hm19⟩ := bd2S hm
 refine E z (fc call28 z (W_w2s (B := B) e1d (lt_ hBw h13) ((hG.ext h11).ext h10) ((p1_0.ext h11).ext h10) ((p2_0.ext h11).ext h10))) ?_
 rintro _ w1a ⟨s12, a1w, n1x, c1y, S1z, rfl, h1e, h20, h21⟩
 refine Rm z (R z (ext_ z z) (R z (ext_ z z) (Ra z (Ra z (Wn (Wq (Ws (Rm z (R z (not_ z) (Wn (Wc z (fun hc14 => ?_) (fun hc14 => ?_))))))))))))
 ·refine Ws (E z (ef_lit0 (α := Entry) el_36) ?_)
  rintro _ w22 ⟨a1f, n1g, c1h, rfl, s1i, h1j⟩
  refine Ra z (Wn ?_)
  obtain rfl := som (ifT hm19 hc14)
  exact Wr (ret1 hr z ⟨(bup (bup (bup h11 h10) s12) s1i), a1f, n1g, c1h, [w1a.z], z, h1j, nd_one, (mem1le (lt_ h13 s12.size))⟩)
 refine Wk (Ws (Rm z (R z (rd_makeFunc z) ?_)))
 obtain ⟨r23, e1k, hm1l⟩ := bdS (ifF hm19 hc14)
 refine E z (fc call58 z (W_w33 (B := w1a.z) e1k lr (ownS.rep h1e) p3_0 ((h18.ext s12).row 0 1 z) (Nat.lt_of_lt_of_le h18.lt s12.size))) ?_
 rintro _ w24 ⟨s1m, a1n, n1o, c1p, S1q, rfl, h1r, h1s, h1t⟩
 refine Ra z (Wn ?_)
 obtain rfl := som hm1l
 exact Wr (ret1 hr z ⟨(bup (bup (bup h11 h10) s12) s1m), a1n, n1o, c1p, S1q, z, h1r, h1s, (o0le h1t (lt_ h13 s12.size))⟩)
theorem W_w35 {x1 : Desc} {x2 : List UInt8} {x3 : Str} {res : Int} (hm : M_impl_SumOfParts n x1 x2 x3 = some res) (hBw : B ≤ w0.z) (hG : Gl w0 B) (p1_0 : repS w0 B (sl A0 N0 C0) x1.rules) (p2_0 : repS w0 B (sl A5 N5 C5) x2) (p3_0 : x3.b.length ≤ LEN) : CallsR prog 13 [(.agg #[sl A0 N0 C0]), sl A5 N5 C5, Str.v x3] w0 (Q0 w0 B res) := by
 unfold M_impl_SumOfParts at hm
 refine goF func13 z z (lb z) fun fn hr => Ws (E z (fb z) ?_)
 rintro _ w1x ⟨rfl, h1l⟩
 have h13 := h1l.below
 have h1h : Blk w1x w0.z [sl A0 N0 C0] := h1l.blk
 refine Ra z (Wn (Ws (Ra z (Wn (Wq (Ws (R z (lN (vs := [sl A0 N0 C0]) g_30 z_30 z z fid (h1h.row 0 1 z)) (Rm z (Rm z ?_)))))))))
 have h1m := p1_0.ext h13
 have h1n := p2_0.ext h13
 obtain ⟨r16, e1y, hm1z⟩ := bdS hm
 refine E z (fc call17 z (W_w34 (B := B) e1y (lt_ hBw h13.size) (hG.ext h13) h1m h1n p3_0)) ?_
 rintro _ w17 ⟨s14, a1c, n1d, c1e, S32, rfl, h1f, h33, h34⟩
 refine R z (lnR d_36 z (ownS.rep h1f)) (Rm z (Wn ?_))
 obtain ⟨u35, hu20, hm1o⟩ := bdS hm1z
 refine WC_forN (σ := Int) (ρ := Int) (fun (k1g : Nat) (x10 : Int) a w => Sat 45 [(1, sl A5 N5 C5), (3, pt w0.z), (7, vI x10), (13, sl a1c n1d c1e), (14, vI (r16.length : Int)), (15, (vI ((k1g : Nat) : Int)))] a ∧ Below w17.z w17 w ∧ inI x10) (fun (x10 : Int) a w => Sat 45 [(7, vI x10)] a ∧ Below w17.z w17 w ∧ inI x10) (fun r ex a w => ex = .ret ∧ RetPost prog fn (Q0 w0 B r) a w) hu20 ?_ ?_ ?_ ?_ ?_
 ·exact fun _ q => ⟨(q.k (s6 z z z z z z)), (br w17), (ii z)⟩
 ·rintro k1g x10 a36 w21 o37 hk1p ⟨hS22, s11, h18⟩ hm23
  refine Wu ?_ hS22
  refine Ws (R z (lss z z) (Wn (Wq (Wc z (fun _ => ?_) (fun hc => (nolt hk1p hc).elim)))))
  refine Wk (Wq (WC_block (Ws ?_)))
  obtain ⟨x12, e24, hm25⟩ := bdS hm23
  refine RX z (at_ (α := Entry) d_36 z_57 z z z (ownS_rep (h1f.ext s11) (ownS.lt h1f)) e24) ?_
  rintro _ ⟨b38, o39, cs3a, rfl, h26, h27, h3b⟩
  obtain ⟨rfl, h3c, h3d, h3e, h3f⟩ := Entry_open h27
  refine R z (lN (vs := [Str.v x12.path, vI x12.rule, vI x12.start, vI x12.end_]) g_57 z_57 z z fid h26) (E z (fa zero_57) ?_)
  rintro _ w28 ⟨rfl, h1q⟩
  have h19 := h1q.below
  have h29 : Blk w28 w21.z [(Str.v (⟨[]⟩ : Str)), vI 0, vI 0, vI 0] := h1q.blk
  refine E0 (fs (cur' := [Str.v x12.path, vI x12.rule, vI x12.start, vI x12.end_]) z_57 z z h29 z (lb z) (oA z) z) ?_
  rintro _ w1i ⟨h1r, s2a⟩
  have h1a := s2a.one
  refine Wn (Ws (R z (fd f_30_0 z) ?_))
  have h1s := (((h1h.ext s14).ext s11).ext h19).chg h1a (djs (mm1 h1h.lt (lt_ s14.size s11.size)))
  refine R z (l1 g_28 z fid (h1s.at z)) (R z (fd f_57_1 z) (R z (l1 g_3 z fid (h1r.at z)) ?_))
  obtain ⟨x3g, e2b, hm2c⟩ := bdS hm25
  have h1t := lt_ (lt_ h13.size s14.size) s11.size
  have h1u := mem1le (lt_ hBw h1t)
  have h1v := (((h1m.ext s14).ext s11).ext h19).chg h1a (lg h1u)
  refine RX z (at_ (α := Rule) d_28 z_80 z z z h1v e2b) ?_
  rintro _ ⟨b3h, o3i, cs3j, rfl, h2d, h2e, h3k⟩
  obtain ⟨a3l, n3m, c3n, a3o, n3p, c3q, a3r, n3s, c3t, a3u, n3v, c3w, rfl, h3x, h3y, h3z, h40, h41, h42, h43⟩ := Rule_open h2e
  refine R z (fd f_80_1 z) (R z (l1 g_3 z fid (h2d.at (j := 1) z)) (R z (eql z z) (Wn ?_)))
  obtain ⟨u2f, hu1w, hm2g⟩ := bdS hm2c
  refine WC_cut (fun a w => ∃ (x1b : Int), x1b = u2f ∧ Sat 45 [(1, sl A5 N5 C5), (3, pt w0.z), (7, vI x1b), (13, sl a1c n1d c1e), (14, vI (r16.length : Int)), (15, (vI ((k1g : Nat) : Int)))] a ∧ Below w1i.z w1i w ∧ inI x1b) ?_ ?_
  ·refine Wc z (fun hc1j => ?_) (fun hc1j => ?_)
   ·refine WC_draw (X := noX) 0 (.rd 0 (.rd 1 (.rd 2 (.rd 3 (.rd 4 (.rd 5 (.rd 6 (.rd 7 (.rd 8 (.rd 9 (.rd 10 (.rd 11 (.rd 12 (.rd 13 (.ef 14 (.rd 15 (.rd 16 .done))))))))))))))))) mo (by kernel_rfl) fun w44 s15 _ => dR z z (mv z) (dR z z (mv z) (dR z z (fd f_57_2 z) ?_))
    have h1k := h1r.ext s15
    refine dR z z (l1 g_3 z fid (h1k.at z)) (dR z z (fd f_57_3 z) (dR z z (l1 g_3 z fid (h1k.at z)) ?_))
    obtain ⟨x45, e2h, hm2i⟩ := bdS (ifT hu1w hc1j)
    refine dRX z z (rd_sliceX d_25 z_5 z z (((((h1n.ext s14).ext s11).ext h19).chg h1a (lg h1u)).ext s15) z z e2h) ?_
    rintro _ ⟨a46, n47, c48, rfl, h2j⟩
    refine dR z z (fd f_30_0 z) (dR z z (l1 g_28 z fid ((h1s.ext s15).at z)) (dR z z (fd f_57_1 z) (dR z z (l1 g_3 z fid (h1k.at z)) ?_)))
    obtain ⟨x49, e2k, hm2l⟩ := bdS hm2i
    refine dRX z z (at_ (α := Rule) d_28 z_80 z z z (h1v.ext s15) e2k) ?_
    rintro _ ⟨b4a, o4b, cs4c, rfl, h2m, h2n, h4d⟩
    obtain ⟨a4e, n4f, c4g, a4h, n4i, c4j, a4k, n4l, c4m, a4n, n4o, c4p, rfl, h4q, h4r, h4s, h4t, h4u, h4v, h4w⟩ := Rule_open h2n
    refine dR z z (fd f_80_3 z) (dR z z (l1 g_4 z fid (h2m.at (j := 3) z)) ?_)
    obtain ⟨r2o, e2p, hm2q⟩ := bdS hm2l
    refine dE z z (fc call55 z (W_w0s (B := B) e2p (lt_ hBw (lt_ (lt_ (lt_ h1t h19.size) h1a.size) s15.size)) h2j)) (.inr fun _ _ h => chgB (h.1)) ?_
    rintro _ w4x ⟨s2r, rfl, h4y⟩
    exact dR z z (add_ z z) (dR z z (asg z) (PR_done (fun _ q => ⟨iadd x10 r2o, som hm2q, (q.k (s6 z z z z z z)), (bup s15 s2r), (iA _ _)⟩)))
   exact WC_skip (fun _ q => ⟨x10, som (ifF hu1w hc1j), (q.k (s6 z z z z z z)), (br w1i), h18⟩)
  rintro a2s w4z ⟨x1b, rfl, hS50, s2t, h2u⟩
  revert a2s
  exact Wo (Wg (R z (inc_ hk1p (lt_ (ownS.len h1f) LEN_le) z z) (Rm z (Wl (fun _ q => ⟨x1b, (som hm2g).symm, ⟨(q.k (s6 z z z z z z)), (bup (bM (bup s11 h19) h1a (mem1le s11.size)) s2t), h2u⟩⟩)))))
 ·rintro x10 a51 w52 ⟨hS2v, s2w, h18⟩
  refine Wu ?_ hS2v
  refine Ws (R z (lss z z) (Wn (Wq (Wc z (fun hc => (noltt hc).elim) (fun _ => ?_)))))
  exact WC_exit (fun a' ha' => ⟨rfl, ⟨(Sat.weaken ha' (s1 z)), s2w, h18⟩⟩)
 ·rintro x10 a2x w53 rfl ⟨hS54, s2y, h18⟩
  have hm2z := elL hm1o
  revert a2x
  refine Wo (Ws (Rm z (Ra z (Wn ?_))))
  obtain rfl := som hm2z
  exact Wr (ret1 hr z ⟨(bup (bup h13 s14) s2y), z, h18⟩)
 rintro r55 ex56 a57 w58 rfl ⟨rfl, hq30⟩
 have hm31 := elR hm1o
 obtain rfl := som hm31
 exact ⟨hq30, z⟩
theorem W_w1k {x1 : List UInt8} {x2 : List UInt8} {res : Bool} (hm : M_laws_eqByteS x1 x2 = some res) (hBw : B ≤ w0.z) (p1_0 : repS w0 B (sl A0 N0 C0) x1) (p2_0 : repS w0 B (sl A5 N5 C5) x2) : CallsR prog 15 [sl A0 N0 C0, sl A5 N5 C5] w0 (Q7 w0 B res) := by
 unfold M_laws_eqByteS at hm
 refine goF func15 z z (lb z) fun fn hr => Ws (Ra z (Wn (Wq (Ws (Rm z (R z (lnR d_25 z p1_0) (Rm z (R z (lnR d_25 z p2_0) (R z (nq z z) (Wn (Wc z (fun hc12 => ?_) (fun hc12 => ?_))))))))))))
 ·refine Ws (Ra z (Wn ?_))
  obtain rfl := som (ifT hm hc12)
  exact Wr (ret1 hr z ⟨(br w0), z⟩)
 refine Wk (Wq (Ws (Ra z (Wn ?_))))
 obtain ⟨u1q, hu1a, hm15⟩ := bdS (ifF hm hc12)
 refine WC_forN (σ := Unit) (ρ := Bool) (fun (k13 : Nat) (_ : Unit) a w => Sat 26 [(0, sl A0 N0 C0), (1, sl A5 N5 C5), (5, (vI ((k13 : Nat) : Int)))] a ∧ Below w0.z w0 w) (fun (_ : Unit) a w => Sat 26 [] a ∧ Below w0.z w0 w) (fun r ex a w => ex = .ret ∧ RetPost prog fn (Q7 w0 B r) a w) hu1a ?_ ?_ ?_ ?_ ?_
 ·exact fun _ q => ⟨(q.k (s3 z z z)), (br w0)⟩
 ·rintro k13 _ a1r w1s o1t hk16 ⟨hS1b, s10⟩ hm1c
  refine Wu ?_ hS1b
  refine Wq (Ws (Rm z (Rm z ?_)))
  have h17 := p1_0.ext s10
  refine R z (lnR d_25 z h17) (R z (lss z z) (Wn (Wc z (fun _ => ?_) (fun hc => (nolt hk16 hc).elim))))
  refine Wk (Wq (WC_block (Wq (WC_draw (X := noX) 0 (.rd 0 (.rd 1 (.rd 2 (.rd 3 (.rd 4 (.rd 5 (.rd 6 (.rd 7 (.rd 8 .done))))))))) mo (by kernel_rfl) fun w1u s11 _ => dR z z (mv z) (dR z z (mv z) ?_)))))
  obtain ⟨x1v, e1d, hm1e⟩ := bdS hm1c
  refine dRX z z (at_ (α := UInt8) d_25 z_5 z z z (h17.ext s11) e1d) ?_
  rintro _ ⟨b1w, o1x, cs1y, rfl, h1f, h1g, h1z⟩
  obtain rfl := UInt8_open h1g
  refine dR z z (l1 g_5 z fid (h1f.at0 z)) (dR z z (mv z) (dR z z (mv z) ?_))
  obtain ⟨x20, e1h, hm18⟩ := bdS hm1e
  refine dRX z z (at_ (α := UInt8) d_25 z_5 z z z ((p2_0.ext s10).ext s11) e1h) ?_
  rintro _ ⟨b21, o22, cs23, rfl, h1i, h1j, h24⟩
  obtain rfl := UInt8_open h1j
  refine dR z z (l1 g_5 z fid (h1i.at0 z)) (dR z z (nq z z) (PR_done (Wo (Wc z (fun hc14 => ?_) (fun hc14 => ?_)))))
  ·exact Ws (Ra z (Wn (Wr (rtO (QO_retL (som (ifT hm18 hc14)).symm (ret1 hr z ⟨(bup s10 s11), z⟩))))))
  exact Wk (Wg (Rm z (R z (inc_ hk16 (lt_ (repS.len p1_0) LEN_le) z z) (Ra z (Wl (fun _ q => ⟨(), (som (ifF hm18 hc14)).symm, ⟨(q.k (s3 z z z)), (bup s10 s11)⟩⟩))))))
 ·rintro _ a25 w26 ⟨hS1k, s19⟩
  refine Wu ?_ hS1k
  refine Wq (Ws (Rm z (Rm z (R z (lnR d_25 z (p1_0.ext s19)) (R z (lss z z) (Wn (Wc z (fun hc => (noltt hc).elim) (fun _ => ?_))))))))
  exact WC_exit (fun a' ha' => ⟨rfl, ⟨(Sat.weaken ha' sn), s19⟩⟩)
 ·rintro _ a1l w27 rfl ⟨hS28, s1m⟩
  have hm1n := elL hm15
  revert a1l
  refine Wo (Ws (Ra z (Wn ?_)))
  obtain rfl := som hm1n
  exact Wr (ret1 hr z ⟨s1m, z⟩)
 rintro r29 ex2a a2b w2c rfl ⟨rfl, hq1o⟩
 have hm1p := elR hm15
 obtain rfl := som hm1p
 exact ⟨hq1o, z⟩
theorem W_w36 {x1 : List Str} {x2 : List Str} {res : Bool} (hm : M_laws_eqStringS x1 x2 = some res) (hBw : B ≤ w0.z) (p1_0 : repS w0 B (sl A0 N0 C0) x1) (p2_0 : repS w0 B (sl A5 N5 C5) x2) : CallsR prog 151 [sl A0 N0 C0, sl A5 N5 C5] w0 (Q7 w0 B res) := by
 unfold M_laws_eqStringS at hm
 refine goF func151 z z (lb z) fun fn hr => Ws (Ra z (Wn (Wq (Ws (Rm z (R z (lnR d_77 z p1_0) (Rm z (R z (lnR d_77 z p2_0) (R z (nq z z) (Wn (Wc z (fun hc12 => ?_) (fun hc12 => ?_))))))))))))
 ·refine Ws (Ra z (Wn ?_))
  obtain rfl := som (ifT hm hc12)
  exact Wr (ret1 hr z ⟨(br w0), z⟩)
 refine Wk (Wq (Ws (Ra z (Wn ?_))))
 obtain ⟨u1q, hu1a, hm15⟩ := bdS (ifF hm hc12)
 refine WC_forN (σ := Unit) (ρ := Bool) (fun (k13 : Nat) (_ : Unit) a w => Sat 26 [(0, sl A0 N0 C0), (1, sl A5 N5 C5), (5, (vI ((k13 : Nat) : Int)))] a ∧ Below w0.z w0 w) (fun (_ : Unit) a w => Sat 26 [] a ∧ Below w0.z w0 w) (fun r ex a w => ex = .ret ∧ RetPost prog fn (Q7 w0 B r) a w) hu1a ?_ ?_ ?_ ?_ ?_
 ·exact fun _ q => ⟨(q.k (s3 z z z)), (br w0)⟩
 ·rintro k13 _ a1r w1s o1t hk16 ⟨hS1b, s10⟩ hm1c
  refine Wu ?_ hS1b
  refine Wq (Ws (Rm z (Rm z ?_)))
  have h17 := p1_0.ext s10
  refine R z (lnR d_77 z h17) (R z (lss z z) (Wn (Wc z (fun _ => ?_) (fun hc => (nolt hk16 hc).elim))))
  refine Wk (Wq (WC_block (Wq (WC_draw (X := noX) 0 (.rd 0 (.rd 1 (.rd 2 (.rd 3 (.rd 4 (.rd 5 (.rd 6 (.rd 7 (.rd 8 .done))))))))) mo (by kernel_rfl) fun w1u s11 _ => dR z z (mv z) (dR z z (mv z) ?_)))))
  obtain ⟨x1v, e1d, hm1e⟩ := bdS hm1c
  refine dRX z z (at_ (α := Str) d_77 z_9 z z z (h17.ext s11) e1d) ?_
  rintro _ ⟨b1w, o1x, cs1y, rfl, h1f, h1g, h1z⟩
  obtain ⟨rfl, h20⟩ := Str_open h1g
  refine dR z z (l1 g_9 z fid (h1f.at0 z)) (dR z z (mv z) (dR z z (mv z) ?_))
  obtain ⟨x21, e1h, hm18⟩ := bdS hm1e
  refine dRX z z (at_ (α := Str) d_77 z_9 z z z ((p2_0.ext s10).ext s11) e1h) ?_
  rintro _ ⟨b22, o23, cs24, rfl, h1i, h1j, h25⟩
  obtain ⟨rfl, h26⟩ := Str_open h1j
  refine dR z z (l1 g_9 z fid (h1i.at0 z)) (dR z z (rd_neqT z z) (PR_done (Wo (Wc z (fun hc14 => ?_) (fun hc14 => ?_)))))
  ·exact Ws (Ra z (Wn (Wr (rtO (QO_retL (som (ifT hm18 hc14)).symm (ret1 hr z ⟨(bup s10 s11), z⟩))))))
  exact Wk (Wg (Rm z (R z (inc_ hk16 (lt_ (repS.len p1_0) LEN_le) z z) (Ra z (Wl (fun _ q => ⟨(), (som (ifF hm18 hc14)).symm, ⟨(q.k (s3 z z z)), (bup s10 s11)⟩⟩))))))
 ·rintro _ a27 w28 ⟨hS1k, s19⟩
  refine Wu ?_ hS1k
  refine Wq (Ws (Rm z (Rm z (R z (lnR d_77 z (p1_0.ext s19)) (R z (lss z z) (Wn (Wc z (fun hc => (noltt hc).elim) (fun _ => ?_))))))))
  exact WC_exit (fun a' ha' => ⟨rfl, ⟨(Sat.weaken ha' sn), s19⟩⟩)
 ·rintro _ a1l w29 rfl ⟨hS2a, s1m⟩
  have hm1n := elL hm15
  revert a1l
  refine Wo (Ws (Ra z (Wn ?_)))
  obtain rfl := som hm1n
  exact Wr (ret1 hr z ⟨s1m, z⟩)
 rintro r2b ex2c a2d w2e rfl ⟨rfl, hq1o⟩
 have hm1p := elR hm15
 obtain rfl := som hm1p
 exact ⟨hq1o, z⟩
theorem W_w1l {x1 : List Int} {x2 : List Int} {res : Bool} (hm : M_laws_eqIntS x1 x2 = some res) (hBw : B ≤ w0.z) (p1_0 : repS w0 B (sl A0 N0 C0) x1) (p2_0 : repS w0 B (sl A5 N5 C5) x2) : CallsR prog 152 [sl A0 N0 C0, sl A5 N5 C5] w0 (Q7 w0 B res) := by
 unfold M_laws_eqIntS at hm
 refine goF func152 z z (lb z) fun fn hr => Ws (Ra z (Wn (Wq (Ws (Rm z (R z (lnR d_78 z p1_0) (Rm z (R z (lnR d_78 z p2_0) (R z (nq z z) (Wn (Wc z (fun hc12 => ?_) (fun hc12 => ?_))))))))))))
 ·refine Ws (Ra z (Wn ?_))
  obtain rfl := som (ifT hm hc12)
  exact Wr (ret1 hr z ⟨(br w0), z⟩)
 refine Wk (Wq (Ws (Ra z (Wn ?_))))
 obtain ⟨u1q, hu1a, hm15⟩ := bdS (ifF hm hc12)
 refine WC_forN (σ := Unit) (ρ := Bool) (fun (k13 : Nat) (_ : Unit) a w => Sat 26 [(0, sl A0 N0 C0), (1, sl A5 N5 C5), (5, (vI ((k13 : Nat) : Int)))] a ∧ Below w0.z w0 w) (fun (_ : Unit) a w => Sat 26 [] a ∧ Below w0.z w0 w) (fun r ex a w => ex = .ret ∧ RetPost prog fn (Q7 w0 B r) a w) hu1a ?_ ?_ ?_ ?_ ?_
 ·exact fun _ q => ⟨(q.k (s3 z z z)), (br w0)⟩
 ·rintro k13 _ a1r w1s o1t hk16 ⟨hS1b, s10⟩ hm1c
  refine Wu ?_ hS1b
  refine Wq (Ws (Rm z (Rm z ?_)))
  have h17 := p1_0.ext s10
  refine R z (lnR d_78 z h17) (R z (lss z z) (Wn (Wc z (fun _ => ?_) (fun hc => (nolt hk16 hc).elim))))
  refine Wk (Wq (WC_block (Wq (WC_draw (X := noX) 0 (.rd 0 (.rd 1 (.rd 2 (.rd 3 (.rd 4 (.rd 5 (.rd 6 (.rd 7 (.rd 8 .done))))))))) mo (by kernel_rfl) fun w1u s11 _ => dR z z (mv z) (dR z z (mv z) ?_)))))
  obtain ⟨x1v, e1d, hm1e⟩ := bdS hm1c
  refine dRX z z (at_ (α := Int) d_78 z_3 z z z (h17.ext s11) e1d) ?_
  rintro _ ⟨b1w, o1x, cs1y, rfl, h1f, h1g, h1z⟩
  obtain ⟨rfl, h20⟩ := Int_open h1g
  refine dR z z (l1 g_3 z fid (h1f.at0 z)) (dR z z (mv z) (dR z z (mv z) ?_))
  obtain ⟨x21, e1h, hm18⟩ := bdS hm1e
  refine dRX z z (at_ (α := Int) d_78 z_3 z z z ((p2_0.ext s10).ext s11) e1h) ?_
  rintro _ ⟨b22, o23, cs24, rfl, h1i, h1j, h25⟩
  obtain ⟨rfl, h26⟩ := Int_open h1j
  refine dR z z (l1 g_3 z fid (h1i.at0 z)) (dR z z (nq z z) (PR_done (Wo (Wc z (fun hc14 => ?_) (fun hc14 => ?_)))))
  ·exact Ws (Ra z (Wn (Wr (rtO (QO_retL (som (ifT hm18 hc14)).symm (ret1 hr z ⟨(bup s10 s11), z⟩))))))
  exact Wk (Wg (Rm z (R z (inc_ hk16 (lt_ (repS.len p1_0) LEN_le) z z) (Ra z (Wl (fun _ q => ⟨(), (som (ifF hm18 hc14)).symm, ⟨(q.k (s3 z z z)), (bup s10 s11)⟩⟩))))))
 ·rintro _ a27 w28 ⟨hS1k, s19⟩
  refine Wu ?_ hS1k
  refine Wq (Ws (Rm z (Rm z (R z (lnR d_78 z (p1_0.ext s19)) (R z (lss z z) (Wn (Wc z (fun hc => (noltt hc).elim) (fun _ => ?_))))))))
  exact WC_exit (fun a' ha' => ⟨rfl, ⟨(Sat.weaken ha' sn), s19⟩⟩)
 ·rintro _ a1l w29 rfl ⟨hS2a, s1m⟩
  have hm1n := elL hm15
  revert a1l
  refine Wo (Ws (Ra z (Wn ?_)))
  obtain rfl := som hm1n
  exact Wr (ret1 hr z ⟨s1m, z⟩)
 rintro r2b ex2c a2d w2e rfl ⟨rfl, hq1o⟩
 have hm1p := elR hm15
 obtain rfl := som hm1p
 exact ⟨hq1o, z⟩
theorem W_w37 {x1 : Rule} {x2 : Rule} {res : Bool} (hm : M_laws_eqRule x1 x2 = some res) (hBw : B ≤ w0.z) (p1_0 : x1.name.b.length ≤ LEN) (p1_1 : inI x1.kind) (p1_2 : inI x1.size) (p1_4 : repS w0 B (sl A9 N9 C9) x1.bytes) (p1_5 : repS w0 B (sl A8 N8 C8) x1.names) (p1_6 : repS w0 B (sl AA NA CA) x1.tags) (p1_7 : repS w0 B (sl AB NB CB) x1.kids) (p2_0 : x2.name.b.length ≤ LEN) (p2_1 : inI x2.kind) (p2_2 : inI x2.size) (p2_4 : repS w0 B (sl A2 N2 C2) x2.bytes) (p2_5 : repS w0 B (sl A3 N3 C3) x2.names) (p2_6 : repS w0 B (sl A1 N1 C1) x2.tags) (p2_7 : repS w0 B (sl A4 N4 C4) x2.kids) : CallsR prog 102 [(.agg #[Str.v x1.name, vI x1.kind, vI x1.size, vB x1.little, sl A9 N9 C9, sl A8 N8 C8, sl AA NA CA, sl AB NB CB]), (.agg #[Str.v x2.name, vI x2.kind, vI x2.size, vB x2.little, sl A2 N2 C2, sl A3 N3 C3, sl A1 N1 C1, sl A4 N4 C4])] w0 (Q7 w0 B res) := by
 unfold M_laws_eqRule at hm
 refine goF func102 z z (lb z) fun fn hr => Ws (E z (fb z) ?_)
 rintro _ w1f ⟨rfl, h1g⟩
 have h11 := h1g.below
 have h1x : Blk w1f w0.z (vR x1 A9 N9 C9 A8 N8 C8 AA NA CA AB NB CB) := h1g.blk
 refine E z (fb z) ?_
 rintro _ w1y ⟨rfl, h1h⟩
 have h10 := h1h.below
 have h15 : Blk w1y w1f.z (vR x2 A2 N2 C2 A3 N3 C3 A1 N1 C1 A4 N4 C4) := h1h.blk
 refine Ra z (Wn (Wq (Ws (R z (fd f_80_0 z) ?_))))
 have h16 := h1x.ext h10
 refine R z (l1 g_9 z fid (h16.at z)) (R z (fd f_80_0 z) (R z (l1 g_9 z fid (h15.at z)) (R z (rd_neqT z z) (Wn (Wc z (fun hc17 => ?_) (fun hc17 => ?_))))))
 ·refine Ws (Ra z (Wn ?_))
  obtain rfl := som (ifT hm hc17)
  exact Wr (ret1 hr z ⟨(bup h11 h10), z⟩)
 have hm1i := ifF hm hc17
 refine Wk (Wq (Ws (R z (fd f_80_1 z) (R z (l1 g_3 z fid (h16.at z)) (R z (fd f_80_1 z) (R z (l1 g_3 z fid (h15.at z)) (R z (nq z z) (Wn (Wc z (fun hc18 => ?_) (fun hc18 => ?_))))))))))
 ·refine Ws (Ra z (Wn ?_))
  obtain rfl := som (ifT hm1i hc18)
  exact Wr (ret1 hr z ⟨(bup h11 h10), z⟩)
 have hm1j := ifF hm1i hc18
 refine Wk (Wq (Ws (R z (fd f_80_2 z) (R z (l1 g_3 z fid (h16.at z)) (R z (fd f_80_2 z) (R z (l1 g_3 z fid (h15.at z)) (R z (nq z z) (Wn (Wc z (fun hc19 => ?_) (fun hc19 => ?_))))))))))
 ·refine Ws (Ra z (Wn ?_))
  obtain rfl := som (ifT hm1j hc19)
  exact Wr (ret1 hr z ⟨(bup h11 h10), z⟩)
 have hm1k := ifF hm1j hc19
 refine Wk (Wq (Ws (R z (fd f_80_3 z) (R z (l1 g_4 z fid (h16.at z)) (R z (fd f_80_3 z) (R z (l1 g_4 z fid (h15.at z)) (R z (rd_neqB d_4 z z) (Wn (Wc z (fun hc1a => ?_) (fun hc1a => ?_))))))))))
 ·refine Ws (Ra z (Wn ?_))
  obtain rfl := som (ifT hm1k hc1a)
  exact Wr (ret1 hr z ⟨(bup h11 h10), z⟩)
 refine Wk (Wq (Ws (R z (fd f_80_4 z) (R z (l1 g_25 z fid (h16.at z)) (R z (fd f_80_4 z) (R z (l1 g_25 z fid (h15.at z)) ?_))))))
 have h1l := lt_ h11.size h10.size
 obtain ⟨r23, e1z, hm1m⟩ := bdS (ifF hm1k hc1a)
 refine E z (fc call15 z (W_w1k (B := B) e1z (lt_ hBw h1l) ((p1_4.ext h11).ext h10) ((p2_4.ext h11).ext h10))) ?_
 rintro _ w24 ⟨s12, rfl⟩
 refine R z (not_ z) (Wn (Wc z (fun hc1b => ?_) (fun hc1b => ?_)))
 ·refine Ws (Ra z (Wn ?_))
  obtain rfl := som (ifT hm1m hc1b)
  exact Wr (ret1 hr z ⟨(bup (bup h11 h10) s12), z⟩)
 refine Wk (Wq (Ws (R z (fd f_80_5 z) ?_)))
 have h1n := h16.ext s12
 refine R z (l1 g_77 z fid (h1n.at z)) (R z (fd f_80_5 z) ?_)
 have h1o := h15.ext s12
 refine R z (l1 g_77 z fid (h1o.at z)) ?_
 have h1p := lt_ h1l s12.size
 obtain ⟨r25, e20, hm1q⟩ := bdS (ifF hm1m hc1b)
 refine E z (fc call151 z (W_w36 (B := B) e20 (lt_ hBw h1p) (((p1_5.ext h11).ext h10).ext s12) (((p2_5.ext h11).ext h10).ext s12))) ?_
 rintro _ w26 ⟨s13, rfl⟩
 refine R z (not_ z) (Wn (Wc z (fun hc1c => ?_) (fun hc1c => ?_)))
 ·refine Ws (Ra z (Wn ?_))
  obtain rfl := som (ifT hm1q hc1c)
  exact Wr (ret1 hr z ⟨(bup (bup (bup h11 h10) s12) s13), z⟩)
 refine Wk (Wq (Ws (R z (fd f_80_6 z) ?_)))
 have h1r := h1n.ext s13
 refine R z (l1 g_78 z fid (h1r.at z)) (R z (fd f_80_6 z) ?_)
 have h1s := h1o.ext s13
 refine R z (l1 g_78 z fid (h1s.at z)) ?_
 have h1t := lt_ h1p s13.size
 obtain ⟨r27, e21, hm1u⟩ := bdS (ifF hm1q hc1c)
 refine E z (fc call152 z (W_w1l (B := B) e21 (lt_ hBw h1t) ((((p1_6.ext h11).ext h10).ext s12).ext s13) ((((p2_6.ext h11).ext h10).ext s12).ext s13))) ?_
 rintro _ w28 ⟨s14, rfl⟩
 refine R z (not_ z) (Wn (Wc z (fun hc1d => ?_) (fun hc1d => ?_)))
 ·refine Ws (Ra z (Wn ?_))
  obtain rfl := som (ifT hm1u hc1d)
  exact Wr (ret1 hr z ⟨(bup (bup (bup (bup h11 h10) s12) s13) s14), z⟩)
 refine Wk (Wq (Ws (R z (fd f_80_7 z) (R z (l1 g_78 z fid ((h1r.ext s14).at z)) (R z (fd f_80_7 z) (R z (l1 g_78 z fid ((h1s.ext s14).at z)) ?_))))))
 obtain ⟨r29, e22, hm1v⟩ := bdS (ifF hm1u hc1d)
 refine E z (fc call152 z (W_w1l (B := B) e22 (lt_ hBw (lt_ h1t s14.size)) (((((p1_7.ext h11).ext h10).ext s12).ext s13).ext s14) (((((p2_7.ext h11).ext h10).ext s12).ext s13).ext s14))) ?_
 rintro _ w2a ⟨s1w, rfl⟩
 refine R z (not_ z) (Wn (Wc z (fun hc1e => ?_) (fun hc1e => ?_)))
 ·refine Ws (Ra z (Wn ?_))
  obtain rfl := som (ifT hm1v hc1e)
  exact Wr (ret1 hr z ⟨(bup (bup (bup (bup (bup h11 h10) s12) s13) s14) s1w), z⟩)
 refine Wk (Ws (Ra z (Wn ?_)))
 obtain rfl := som (ifF hm1v hc1e)
 exact Wr (ret1 hr z ⟨(bup (bup (bup (bup (bup h11 h10) s12) s13) s14) s1w), z⟩)
theorem W_w38 {x1 : List Rule} {x2 : List Rule} {res : Bool} (hm : M_laws_eqRuleS x1 x2 = some res) (hBw : B ≤ w0.z) (p1_0 : repS w0 B (sl A0 N0 C0) x1) (p2_0 : repS w0 B (sl A5 N5 C5) x2) : CallsR prog 56 [sl A0 N0 C0, sl A5 N5 C5] w0 (Q7 w0 B res) := by
 unfold M_laws_eqRuleS at hm
 refine goF func56 z z (lb z) fun fn hr => Ws (Ra z (Wn (Wq (Ws (Rm z (R z (lnR d_28 z p1_0) (Rm z (R z (lnR d_28 z p2_0) (R z (nq z z) (Wn (Wc z (fun hc14 => ?_) (fun hc14 => ?_))))))))))))
 ·refine Ws (Ra z (Wn ?_))
  obtain rfl := som (ifT hm hc14)
  exact Wr (ret1 hr z ⟨(br w0), z⟩)
 refine Wk (Wq (Ws (Ra z (Wn ?_))))
 obtain ⟨u2x, hu1d, hm17⟩ := bdS (ifF hm hc14)
 refine WC_forN (σ := Unit) (ρ := Bool) (fun (k15 : Nat) (_ : Unit) a w => Sat 27 [(0, sl A0 N0 C0), (1, sl A5 N5 C5), (5, (vI ((k15 : Nat) : Int)))] a ∧ Below w0.z w0 w) (fun (_ : Unit) a w => Sat 27 [] a ∧ Below w0.z w0 w) (fun r ex a w => ex = .ret ∧ RetPost prog fn (Q7 w0 B r) a w) hu1d ?_ ?_ ?_ ?_ ?_
 ·exact fun _ q => ⟨(q.k (s3 z z z)), (br w0)⟩
 ·rintro k15 _ a2y w2z o30 hk18 ⟨hS1e, s10⟩ hm1f
  refine Wu ?_ hS1e
  refine Wq (Ws (Rm z (Rm z ?_)))
  have h19 := p1_0.ext s10
  refine R z (lnR d_28 z h19) (R z (lss z z) (Wn (Wc z (fun _ => ?_) (fun hc => (nolt hk18 hc).elim))))
  refine Wk (Wq (WC_block (Wq (WC_draw (X := noX) 0 (.rd 0 (.rd 1 (.rd 2 (.rd 3 (.rd 4 (.rd 5 (.rd 6 (.rd 7 (.ef 8 (.rd 9 .done)))))))))) mo (by kernel_rfl) fun w31 s11 _ => dR z z (mv z) (dR z z (mv z) ?_)))))
  obtain ⟨x12, e1g, hm1h⟩ := bdS hm1f
  refine dRX z z (at_ (α := Rule) d_28 z_80 z z z (h19.ext s11) e1g) ?_
  rintro _ ⟨b32, o33, cs34, rfl, h1i, h1j, h35⟩
  obtain ⟨a1k, n1l, c1m, a1n, n1o, c1p, a1q, n1r, c1s, a1t, n1u, c1v, rfl, h1w, h1x, h1y, h1z, h20, h21, h22⟩ := Rule_open h1j
  refine dR z z (lN (vs := (vR x12 a1k n1l c1m a1n n1o c1p a1q n1r c1s a1t n1u c1v)) g_80 z_80 z z fid h1i) (dR z z (mv z) (dR z z (mv z) ?_))
  obtain ⟨x13, e23, hm24⟩ := bdS hm1h
  refine dRX z z (at_ (α := Rule) d_28 z_80 z z z ((p2_0.ext s10).ext s11) e23) ?_
  rintro _ ⟨b36, o37, cs38, rfl, h25, h26, h39⟩
  obtain ⟨a27, n28, c29, a2a, n2b, c2c, a2d, n2e, c2f, a2g, n2h, c2i, rfl, h2j, h2k, h2l, h2m, h2n, h2o, h2p⟩ := Rule_open h26
  refine dR z z (lN (vs := (vR x13 a27 n28 c29 a2a n2b c2c a2d n2e c2f a2g n2h c2i)) g_80 z_80 z z fid h25) ?_
  obtain ⟨r3a, e2q, hm1a⟩ := bdS hm24
  refine dE z z (fc call102 z (W_w37 (B := B) e2q (lt_ hBw (lt_ s10.size s11.size)) h1w h1x h1y h1z h20 h21 h22 h2j h2k h2l h2m h2n h2o h2p)) (.inr fun _ _ h => chgB (h.1)) ?_
  rintro _ w3b ⟨s1b, rfl⟩
  refine dR z z (not_ z) (PR_done (Wo (Wc z (fun hc16 => ?_) (fun hc16 => ?_))))
  ·exact Ws (Ra z (Wn (Wr (rtO (QO_retL (som (ifT hm1a hc16)).symm (ret1 hr z ⟨(bup (bup s10 s11) s1b), z⟩))))))
  exact Wk (Wg (Rm z (R z (inc_ hk18 (lt_ (repS.len p1_0) LEN_le) z z) (Ra z (Wl (fun _ q => ⟨(), (som (ifF hm1a hc16)).symm, ⟨(q.k (s3 z z z)), (bup (bup s10 s11) s1b)⟩⟩))))))
 ·rintro _ a3c w3d ⟨hS2r, s1c⟩
  refine Wu ?_ hS2r
  refine Wq (Ws (Rm z (Rm z (R z (lnR d_28 z (p1_0.ext s1c)) (R z (lss z z) (Wn (Wc z (fun hc => (noltt hc).elim) (fun _ => ?_))))))))
  exact WC_exit (fun a' ha' => ⟨rfl, ⟨(Sat.weaken ha' sn), s1c⟩⟩)
 ·rintro _ a2s w3e rfl ⟨hS3f, s2t⟩
  have hm2u := elL hm17
  revert a2s
  refine Wo (Ws (Ra z (Wn ?_)))
  obtain rfl := som hm2u
  exact Wr (ret1 hr z ⟨s2t, z⟩)
 rintro r3g ex3h a3i w3j rfl ⟨rfl, hq2v⟩
 have hm2w := elR hm17
 obtain rfl := som hm2w
 exact ⟨hq2v, z⟩
theorem W_w39 {x1 : Desc} {x2 : Desc} {res : Bool} (hm : M_laws_eqDescription x1 x2 = some res) (hBw : B ≤ w0.z) (p1_0 : repS w0 B (sl A0 N0 C0) x1.rules) (p2_0 : repS w0 B (sl A5 N5 C5) x2.rules) : CallsR prog 14 [(.agg #[sl A0 N0 C0]), (.agg #[sl A5 N5 C5])] w0 (Q7 w0 B res) := by
 unfold M_laws_eqDescription at hm
 refine goF func14 z z (lb z) fun fn hr => Ws (E z (fb z) ?_)
 rintro _ w13 ⟨rfl, h14⟩
 have h11 := h14.below
 have h18 : Blk w13 w0.z [sl A0 N0 C0] := h14.blk
 refine E z (fb z) ?_
 rintro _ w19 ⟨rfl, h15⟩
 have h10 := h15.below
 have h1a : Blk w19 w13.z [sl A5 N5 C5] := h15.blk
 refine Ra z (Wn (Wq (Ws (R z (fd f_30_0 z) (R z (l1 g_28 z fid ((h18.ext h10).at z)) (R z (fd f_30_0 z) (R z (l1 g_28 z fid (h1a.at z)) ?_)))))))
 obtain ⟨r1c, e1b, hm16⟩ := bdS hm
 refine E z (fc call56 z (W_w38 (B := B) e1b (lt_ hBw (lt_ h11.size h10.size)) ((p1_0.ext h11).ext h10) ((p2_0.ext h11).ext h10))) ?_
 rintro _ w1d ⟨s17, rfl⟩
 refine R z (not_ z) (Wn (Wc z (fun hc12 => ?_) (fun hc12 => ?_)))
 ·refine Ws (Ra z (Wn ?_))
  obtain rfl := som (ifT hm16 hc12)
  exact Wr (ret1 hr z ⟨(bup (bup h11 h10) s17), z⟩)
 refine Wk (Ws (Ra z (Wn ?_)))
 obtain rfl := som (ifF hm16 hc12)
 exact Wr (ret1 hr z ⟨(bup (bup h11 h10) s17), z⟩)
def Q_laws_FnExactSumOfParts (w0 : World) (B : Nat) (r : Bool) (v : Value) (w' : World) : Prop := Bw w0 w' ∧ (fun r1 => (vB r1) = v) r
theorem W_laws_FnExactSumOfParts {x1 : Desc} {x2 : List UInt8} {x3 : Str} {res : Bool} (hm : M_laws_FnExactSumOfParts n x1 x2 x3 = some res) (hBw : B ≤ w0.z) (hG : Gl w0 B) (p1_0 : repS w0 B (sl A0 N0 C0) x1.rules) (p2_0 : repS w0 B (sl A5 N5 C5) x2) (p3_0 : x3.b.length ≤ LEN) : CallsR prog 3 [(.agg #[sl A0 N0 C0]), sl A5 N5 C5, Str.v x3] w0 (Q_laws_FnExactSumOfParts w0 B res) := by
 unfold M_laws_FnExactSumOfParts at hm
 refine goF func3 z z (lb z) fun fn hr => Ws (E z (fb z) ?_)
 rintro _ w2i ⟨rfl, h1s⟩
 have h11 := h1s.below
 have h1g : Blk w2i w0.z [sl A0 N0 C0] := h1s.blk
 refine Ra z (Wn (Wq (Ws (Rm z ?_))))
 have h1t := p2_0.ext h11
 refine R z (lnR d_25 z h1t) (R z (rd_gtr z z) (Wn (Wc z (fun hc1h => ?_) (fun hc1h => ?_))))
 ·refine Ws (Ra z (Wn ?_))
  obtain rfl := som (ifT hm hc1h)
  exact Wr (ret1 hr z ⟨h11, z⟩)
 have hm1u := ifF hm hc1h
 refine Wk (Wq (Ws (Rm z (R z (lnT d_9 z) (R z (rd_gtr z z) (Wn (Wc z (fun hc1i => ?_) (fun hc1i => ?_))))))))
 ·refine Ws (Ra z (Wn ?_))
  obtain rfl := som (ifT hm1u hc1i)
  exact Wr (ret1 hr z ⟨h11, z⟩)
 refine Wk (Ws (Ra z (Wn (Ws (R z (lN (vs := [sl A0 N0 C0]) g_24 z_24 z z fid (h1g.row 0 1 z)) (Rm z ?_))))))
 have h1v := p1_0.ext h11
 obtain ⟨r3d, e2j, hm1w⟩ := bdS (ifF hm1u hc1i)
 refine E z (fc call9 z (W_w1q (B := B) e2j (lt_ hBw h11.size) h1v (ii z))) ?_
 rintro _ w3e ⟨s15, rfl, h3f⟩
 refine Ra z (Wn (Wq (Ws (Rm z (R z (lss z z) (Wn (Wc z (fun hc1j => ?_) (fun hc1j => ?_))))))))
 ·refine Ws (Ra z (Wn ?_))
  obtain rfl := som (ifT hm1w hc1j)
  exact Wr (ret1 hr z ⟨(bup h11 s15), z⟩)
 refine Wk (Ws ?_)
 have h1x := h1g.ext s15
 refine R z (lN (vs := [sl A0 N0 C0]) g_24 z_24 z z fid (h1x.row 0 1 z)) ?_
 have h1y := h1v.ext s15
 have h1z := lt_ h11.size s15.size
 obtain ⟨r3g, e2k, hm2l⟩ := bdS (ifF hm1w hc1j)
 refine E z (fc call11 z (W_w0h (B := B) e2k (lt_ hBw h1z) h1y)) ?_
 rintro _ w3h ⟨s18, a3i, n3j, c3k, S3l, rfl, h20, h3m, h3n⟩
 refine Rm z ?_
 have h21 := (h1t.ext s15).ext s18
 have h22 := lt_ h1z s18.size
 obtain ⟨r3o, e2m, hm2n⟩ := bdS hm2l
 refine E z (fc call12 z (W_w0b (B := B) e2m (lt_ hBw h22) h21)) ?_
 rintro _ w2o ⟨s12, a3p, n3q, c3r, S3s, rfl, h2p, h3t, h3u⟩
 refine Rm z ?_
 obtain ⟨r3v, e2q, hm2r⟩ := bdS hm2n
 refine E z (fc call10 z (W_w2e (B := w2o.z) e2q lr (repS.mono (ownS_rep (h20.ext s12) (ownS.lt h20)) s12.size) (ownS.rep h2p) p3_0)) ?_
 rintro _ w3w ⟨s19, rfl, h3x⟩
 refine Ra z (Wn (Ws ?_))
 have h23 := ((h1x.ext s18).ext s12).ext s19
 refine R z (lN (vs := [sl A0 N0 C0]) g_24 z_24 z z fid (h23.row 0 1 z)) ?_
 have h24 := ((h1y.ext s18).ext s12).ext s19
 have h25 := lt_ (lt_ h22 s12.size) s19.size
 obtain ⟨r3y, e2s, hm2t⟩ := bdS hm2r
 refine E z (fc call11 z (W_w0h (B := B) e2s (lt_ hBw h25) h24)) ?_
 rintro _ w2u ⟨s1a, a1k, n1l, c1m, S3z, rfl, h1e, h40, h41⟩
 refine E z (fa zero_30) ?_
 rintro _ w2v ⟨rfl, h26⟩
 have h16 := h26.below
 have h2w : Blk w2v w2u.z [sl none 0 0] := h26.blk
 refine E0 (fs (cur' := [sl a1k n1l c1m]) z_30 z z h2w z (lb z) (oA z) z) ?_
 rintro _ w42 ⟨h2x, s2y⟩
 have h17 := s2y.one
 refine Wn (Ws (Rm z ?_))
 have h1d := lt_ h25 s1a.size
 have h1n := mem1le (lt_ hBw h1d)
 have h27 := ((((h21.ext s12).ext s19).ext s1a).ext h16).chg h17 (lg h1n)
 have h28 := lt_ (lt_ h1d h16.size) h17.size
 obtain ⟨r43, e2z, hm30⟩ := bdS hm2t
 refine E z (fc call12 z (W_w0b (B := B) e2z (lt_ hBw h28) h27)) ?_
 rintro _ w31 ⟨s13, a44, n45, c46, S47, rfl, h1o, h48, h49⟩
 refine Ra z (Wn (Ws ?_))
 have h29 := h2x.ext s13
 refine R z (lN (vs := [sl a1k n1l c1m]) g_30 z_30 z z fid (h29.row 0 1 z)) (Rm z (Rm z ?_))
 have h2a := ((h1e.ext h16).chg h17 (dj_symm (mnr (ownS.lt h1e)))).ext s13
 have h2b := lt_ (lt_ h16.size h17.size) s13.size
 have h2c := lt_ h28 s13.size
 obtain ⟨r4a, e32, hm2d⟩ := bdS hm30
 refine E z (fc call13 z (W_w35 (B := w31.z) e32 lr ((((((((((hG.ext h11).ext s15).ext s18).ext s12).ext s19).ext s1a).ext h16).chg h17 (lg h1n)).ext s13).mono (lt_ hBw h2c)) (repS.mono (ownS_rep h2a (ownS.lt h1e)) h2b) (ownS.rep h1o) p3_0)) ?_
 rintro _ w4b ⟨s10, rfl, h4c⟩
 refine Ra z (Wn (Wq (Ws (Rm z (Rm z (R z (nq z z) (Wn (Wc z (fun hc1p => ?_) (fun hc1p => ?_)))))))))
 ·refine Ws (Ra z (Wn ?_))
  obtain rfl := som (ifT hm2d hc1p)
  exact Wr (ret1 hr z ⟨(bup (bup (bM (bup (bup (bup (bup (bup (bup h11 s15) s18) s12) s19) s1a) h16) h17 (mem1le h1d)) s13) s10), z⟩)
 refine Wk (Wq (Wq (WC_draw (X := noX) 0 (.rd 0 (.rd 1 (.ef 2 (.ef 3 (.rd 4 .done))))) mo (by kernel_rfl) fun w4d s14 _ => dR z z (lN (vs := [sl a1k n1l c1m]) g_30 z_30 z z fid (((h29.ext s10).ext s14).row 0 1 z)) (dR z z (lN (vs := [sl A0 N0 C0]) g_24 z_24 z z fid (((((((h23.ext s1a).ext h16).chg h17 (djs (mm1 h1g.lt (lt_ (lt_ (lt_ (lt_ s15.size s18.size) s12.size) s19.size) s1a.size)))).ext s13).ext s10).ext s14).row 0 1 z)) ?_))))
 have h2e := lt_ (lt_ h2c s10.size) s14.size
 obtain ⟨r4e, e33, hm34⟩ := bdS (ifF hm2d hc1p)
 refine dE z z (fc call11 z (W_w0h (B := B) e33 (lt_ hBw h2e) ((((((h24.ext s1a).ext h16).chg h17 (lg h1n)).ext s13).ext s10).ext s14))) (.inr fun _ _ h => chgB (h.1)) ?_
 rintro _ w35 ⟨s1b, a4f, n4g, c4h, S4i, rfl, h36, h4j, h4k⟩
 obtain ⟨r4l, e37, hm2f⟩ := bdS hm34
 refine dE z z (fc call14 z (W_w39 (B := w35.z) e37 lr (repS.mono (ownS_rep (((h2a.ext s10).ext s14).ext s1b) (ownS.lt h1e)) (lt_ (lt_ (lt_ h2b s10.size) s14.size) s1b.size)) (ownS.rep h36))) (.inr fun _ _ h => chgB (h.1)) ?_
 rintro _ w4m ⟨s1c, rfl⟩
 refine dR z z (not_ z) (PR_done (Wo (Wc z (fun hc1q => ?_) (fun hc1q => ?_))))
 ·refine Ws (Ra z (Wn ?_))
  obtain rfl := som (ifT hm2f hc1q)
  exact Wr (ret1 hr z ⟨(bup (bup (bup (bup (bup (bM (bup (bup (bup (bup (bup (bup h11 s15) s18) s12) s19) s1a) h16) h17 (mem1le h1d)) s13) s10) s14) s1b) s1c), z⟩)
 refine Wk (Wq (Ws (Rm z (Rm z ?_))))
 obtain ⟨r4n, e38, hm39⟩ := bdS (ifF hm2f hc1q)
 refine E z (fc call12 z (W_w0b (B := B) e38 (lt_ hBw (lt_ (lt_ h2e s1b.size) s1c.size)) (((((h27.ext s13).ext s10).ext s14).ext s1b).ext s1c))) ?_
 rintro _ w3a ⟨s1f, a4o, n4p, c4q, S4r, rfl, h3b, h4s, h4t⟩
 obtain ⟨r4u, e3c, hm2g⟩ := bdS hm39
 refine E z (fc call15 z (W_w1k (B := w3a.z) e3c lr (repS.mono (ownS_rep (((((h1o.ext s10).ext s14).ext s1b).ext s1c).ext s1f) (ownS.lt h1o)) (lt_ (lt_ (lt_ (lt_ s10.size s14.size) s1b.size) s1c.size) s1f.size)) (ownS.rep h3b))) ?_
 rintro _ w4v ⟨s2h, rfl⟩
 refine R z (not_ z) (Wn (Wc z (fun hc1r => ?_) (fun hc1r => ?_)))
 ·refine Ws (Ra z (Wn ?_))
  obtain rfl := som (ifT hm2g hc1r)
  exact Wr (ret1 hr z ⟨(bup (bup (bup (bup (bup (bup (bup (bM (bup (bup (bup (bup (bup (bup h11 s15) s18) s12) s19) s1a) h16) h17 (mem1le h1d)) s13) s10) s14) s1b) s1c) s1f) s2h), z⟩)
 refine Wk (Ws (Ra z (Wn ?_)))
 obtain rfl := som (ifF hm2g hc1r)
 exact Wr (ret1 hr z ⟨(bup (bup (bup (bup (bup (bup (bup (bM (bup (bup (bup (bup (bup (bup h11 s15) s18) s12) s19) s1a) h16) h17 (mem1le h1d)) s13) s10) s14) s1b) s1c) s1f) s2h), z⟩)
end Go.Vw

