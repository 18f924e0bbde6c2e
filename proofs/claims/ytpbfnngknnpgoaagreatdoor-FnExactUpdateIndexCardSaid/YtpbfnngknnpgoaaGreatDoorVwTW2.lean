import Derived.Test.YtpbfnngknnpgoaaGreatDoorVwTW1
set_option linter.unusedVariables false
namespace Go.Vw
open Go.RowKit Dat Go.Proofs
open Go.Proofs.Tryz
open Go.Vw renaming WC_seq → Wq, WC_region → Wg, WC.of_KC → Wo, WL_nil → Wl, WC_cond → Wc, WC_ret → Wr, WC_run → Wu, rd_pickT → pT, rd_pickF → pF, rd_field → fd, rd_load1 → l1, rd_loadN → lN, rd_move → mv, rd_assign → asg, rd_lenR → lnR, rd_lss → lss, rd_eql → eql, rd_extract → ext_, rd_buildP → bP, rd_add → add_, rd_inc → inc_, rd_not → not_, rd_at → at_, ef_call → fc, ef_store → fs, ef_box → fb, ef_alloc → fa, sub_refl → sr, crefl → cr, cchgM → cM, bchgM → bM, inI_sub → iS, inI_add → iA, brefl → br, oneAll → oA, bsplit → bs, ltge → lg, inor → io, rd_neq → nq, rd_lenT → lnT, rd_sub → sb_
variable {pa1_0 : Option Addr} {pn1_0 pc1_0 : Nat} {B : Nat} {w0 : World} {pa1_4 : Option Addr} {pa1_5 : Option Addr} {pa1_6 : Option Addr} {pa1_7 : Option Addr} {pn1_4 pc1_4 : Nat} {pn1_5 pc1_5 : Nat} {pn1_6 pc1_6 : Nat} {pn1_7 pc1_7 : Nat} {pa4_0 : Option Addr} {pn4_0 pc4_0 : Nat} {pa2_4 : Option Addr} {pa2_5 : Option Addr} {pa2_6 : Option Addr} {pa2_7 : Option Addr} {pn2_4 pc2_4 : Nat} {pn2_5 pc2_5 : Nat} {pn2_6 pc2_6 : Nat} {pn2_7 pc2_7 : Nat} {pa3_0 : Option Addr} {pn3_0 pc3_0 : Nat} {pa2_0 : Option Addr} {pn2_0 pc2_0 : Nat} {n : Nat} {pa5_0 : Option Addr} {pn5_0 pc5_0 : Nat} {pa6_0 : Option Addr} {pn6_0 pc6_0 : Nat} {pa1_1 : Option Addr} {pn1_1 pc1_1 : Nat} {pa2_1 : Option Addr} {pa2_2 : Option Addr} {pn2_1 pc2_1 : Nat} {pn2_2 pc2_2 : Nat} {pa3_1 : Option Addr} {pa3_2 : Option Addr} {pn3_1 pc3_1 : Nat} {pn3_2 pc3_2 : Nat} {pa1_2 : Option Addr} {pa4_1 : Option Addr} {pa4_2 : Option Addr} {pn1_2 pc1_2 : Nat} {pn4_1 pc4_1 : Nat} {pn4_2 pc4_2 : Nat}
theorem W_spec_l11Choice : ∀ {x1 : Desc} {x2 : Rule} {x3 : List UInt8} {x4 : Int} {res : Val × Int × Int} (hm : (F_spec_l11Read n).spec_l11Choice x1 x2 x3 x4 = some res) (hBw : B ≤ w0.heap.size) (p1_0 : repS w0 B (.slice pa1_0 pn1_0 pc1_0) x1.rules) (p2_0 : x2.name.b.length ≤ LEN) (p2_1 : inI x2.kind) (p2_2 : inI x2.size) (p2_4 : repS w0 B (.slice pa2_4 pn2_4 pc2_4) x2.bytes) (p2_5 : repS w0 B (.slice pa2_5 pn2_5 pc2_5) x2.names) (p2_6 : repS w0 B (.slice pa2_6 pn2_6 pc2_6) x2.tags) (p2_7 : repS w0 B (.slice pa2_7 pn2_7 pc2_7) x2.kids) (p3_0 : repS w0 B (.slice pa3_0 pn3_0 pc3_0) x3) (p4_0 : inI x4), CallsR prog 64 [(.agg #[(.slice pa1_0 pn1_0 pc1_0)]), (.agg #[(Str.v x2.name), (vI x2.kind), (vI x2.size), (vB x2.little), (.slice pa2_4 pn2_4 pc2_4), (.slice pa2_5 pn2_5 pc2_5), (.slice pa2_6 pn2_6 pc2_6), (.slice pa2_7 pn2_7 pc2_7)]), (.slice pa3_0 pn3_0 pc3_0), (vI x4)] w0 (Q_spec_l11Choice w0 B res) := ((A_spec_l11Read n).2.2.1).run
theorem W_spec_l11Option : ∀ {x1 : Desc} {x2 : Rule} {x3 : List UInt8} {x4 : Int} {res : Val × Int × Int} (hm : (F_spec_l11Read n).spec_l11Option x1 x2 x3 x4 = some res) (hBw : B ≤ w0.heap.size) (p1_0 : repS w0 B (.slice pa1_0 pn1_0 pc1_0) x1.rules) (p2_0 : x2.name.b.length ≤ LEN) (p2_1 : inI x2.kind) (p2_2 : inI x2.size) (p2_4 : repS w0 B (.slice pa2_4 pn2_4 pc2_4) x2.bytes) (p2_5 : repS w0 B (.slice pa2_5 pn2_5 pc2_5) x2.names) (p2_6 : repS w0 B (.slice pa2_6 pn2_6 pc2_6) x2.tags) (p2_7 : repS w0 B (.slice pa2_7 pn2_7 pc2_7) x2.kids) (p3_0 : repS w0 B (.slice pa3_0 pn3_0 pc3_0) x3) (p4_0 : inI x4), CallsR prog 65 [(.agg #[(.slice pa1_0 pn1_0 pc1_0)]), (.agg #[(Str.v x2.name), (vI x2.kind), (vI x2.size), (vB x2.little), (.slice pa2_4 pn2_4 pc2_4), (.slice pa2_5 pn2_5 pc2_5), (.slice pa2_6 pn2_6 pc2_6), (.slice pa2_7 pn2_7 pc2_7)]), (.slice pa3_0 pn3_0 pc3_0), (vI x4)] w0 (Q_spec_l11Option w0 B res) := ((A_spec_l11Read n).2.2.2.1).run
theorem W_spec_l11Checked : ∀ {x1 : Desc} {x2 : Rule} {x3 : List UInt8} {x4 : Int} {res : Val × Int × Int} (hm : (F_spec_l11Read n).spec_l11Checked x1 x2 x3 x4 = some res) (hBw : B ≤ w0.heap.size) (p1_0 : repS w0 B (.slice pa1_0 pn1_0 pc1_0) x1.rules) (p2_0 : x2.name.b.length ≤ LEN) (p2_1 : inI x2.kind) (p2_2 : inI x2.size) (p2_4 : repS w0 B (.slice pa2_4 pn2_4 pc2_4) x2.bytes) (p2_5 : repS w0 B (.slice pa2_5 pn2_5 pc2_5) x2.names) (p2_6 : repS w0 B (.slice pa2_6 pn2_6 pc2_6) x2.tags) (p2_7 : repS w0 B (.slice pa2_7 pn2_7 pc2_7) x2.kids) (p3_0 : repS w0 B (.slice pa3_0 pn3_0 pc3_0) x3) (p4_0 : inI x4), CallsR prog 66 [(.agg #[(.slice pa1_0 pn1_0 pc1_0)]), (.agg #[(Str.v x2.name), (vI x2.kind), (vI x2.size), (vB x2.little), (.slice pa2_4 pn2_4 pc2_4), (.slice pa2_5 pn2_5 pc2_5), (.slice pa2_6 pn2_6 pc2_6), (.slice pa2_7 pn2_7 pc2_7)]), (.slice pa3_0 pn3_0 pc3_0), (vI x4)] w0 (Q_spec_l11Checked w0 B res) := ((A_spec_l11Read n).2.2.2.2).run

def Q_spec_ReadValue (w0 : World) (B : Nat) (r : Val × Int × Int) (v : Value) (w' : World) : Prop := Below w0.heap.size w0 w' ∧ un3 (fun r1 r2 r3 => ∃ (a1 : Option Addr) (n1 c1 : Nat) (S1 : List Nat) (a2 : Option Addr) (n2 c2 : Nat) (S2 : List Nat), v = .tuple #[(.agg #[vI r1.number, .slice a1 n1 c1, .slice a2 n2 c2]), (vI r2), (vI r3)] ∧ inI r1.number ∧ ownS w' S1 (.slice a1 n1 c1) r1.bytes ∧ ownS w' S2 (.slice a2 n2 c2) r1.items ∧ inI r2 ∧ inI r3 ∧ (S1 ++ S2).Nodup ∧ (∀ k ∈ (S1 ++ S2), w0.heap.size ≤ k)) r
theorem W_spec_ReadValue {x1 : Desc} {x2 : Int} {x3 : List UInt8} {x4 : Int} {res : Val × Int × Int} (hm : M_spec_ReadValue n x1 x2 x3 x4 = some res) (hBw : B ≤ w0.heap.size) (p1_0 : repS w0 B (.slice pa1_0 pn1_0 pc1_0) x1.rules) (p2_0 : inI x2) (p3_0 : repS w0 B (.slice pa3_0 pn3_0 pc3_0) x3) (p4_0 : inI x4) : CallsR prog 59 [(.agg #[(.slice pa1_0 pn1_0 pc1_0)]), (vI x2), (.slice pa3_0 pn3_0 pc3_0), (vI x4)] w0 (Q_spec_ReadValue w0 B res) := by
 unfold M_spec_ReadValue at hm
 obtain ⟨fn, hf, hb, hN, hr⟩ := fnE func59
 refine goW hf (hb.trans z) (hN.trans z) (lb z) (Ws (E z (fb z) ?_))
 rintro _ w18 ⟨rfl, h1h⟩
 have h11 := h1h.below
 have h1i : Blk w18 w0.heap.size [(.slice pa1_0 pn1_0 pc1_0)] := h1h.blk
 refine E z (fa zero_74) ?_
 rintro _ w19 ⟨rfl, h1j⟩
 have h12 := h1j.below
 have h16 : Blk w19 w18.heap.size [(vI 0), (.slice none 0 0), (.slice none 0 0)] := h1j.blk
 refine Ra z (Ra z (Wn (Wq (Wq ?_))))
 obtain ⟨u1v, hu1w, hm1k⟩ := bdS hm
 refine WC_cut (fun a w => ∃ (x1a : Bool), x1a = u1v ∧ Sat 36 [(1, (vI x2)), (2, (.slice pa3_0 pn3_0 pc3_0)), (3, (vI x4)), (4, (.pointer (some ⟨w0.heap.size, 0, none⟩))), (8, (.pointer (some ⟨w18.heap.size, 0, none⟩))), (26, (vB x1a))] a ∧ Below w19.heap.size w19 w) ?_ ?_
 ·refine Wg (R z (lN (vs := [(.slice pa1_0 pn1_0 pc1_0)]) g_34 z_34 z z fid ((h1i.ext h12).row 0 1 z)) (Rm z ?_))
  have h1l := lt_ h11.size h12.size
  obtain ⟨r1x, e1y, hm1m⟩ := bdS hu1w
  refine E z (fc call74 z (W_spec_l7Rule (B := B) e1y (lt_ hBw h1l) ((p1_0.ext h11).ext h12) p2_0)) ?_
  rintro _ w2g ⟨s15, rfl⟩
  refine R z (not_ z) (Rm z ?_)
  rcases bs (!r1x) with hc10 | hc10
  ·iterate 5 refine Nh z hc10 ?_
   exact R z (pT z hc10 z) (Rm z (Nh z z (Nh z z (Nh z z (R z (pT z z z) (Wl (fun _ q => ⟨true, som (ifT hm1m hc10), (q.k (s6 z z z z z z)), s15⟩)))))))
  refine Rh z hc10 (mv z) (Rh z hc10 (mv z) ?_)
  have h1b := ((p3_0.ext h11).ext h12).ext s15
  refine Rh z hc10 (lnR d_26 z h1b) ?_
  obtain ⟨r1z, e20, hm1n⟩ := bdS (ifF hm1m hc10)
  refine Eg z z hc10 z (fc call75 z (W_spec_l1In (B := B) e20 (lt_ hBw (lt_ h1l s15.size)) p4_0 (ii z) (inI_len (repS.len h1b)))) ?_
  rintro _ w2h ⟨s1c, rfl⟩
  refine Rh z hc10 (not_ z) (R z (pF z hc10 z) (Rm z ?_))
  rcases bs (!r1z) with hc14 | hc14
  ·iterate 3 refine Nh z hc14 ?_
   exact R z (pT z hc14 z) (Wl (fun _ q => ⟨true, som (ifT hm1n hc14), (q.k (s6 z z z z z z)), (bup s15 s1c)⟩))
  exact Rh z hc14 (mv z) (Rh z hc14 (lnR d_26 z (h1b.ext s1c)) (Rh z hc14 (rd_gtr z z) (R z (pF z hc14 z) (Wl (fun _ q => ⟨decide (400 < (x3.length : Int)), som (ifF hm1n hc14), (q.k (s6 z z z z z z)), (bup s15 s1c)⟩)))))
 rintro a21 w2i ⟨x1a, rfl, hS2j, s13⟩
 revert a21
 refine Wo (Wc z (fun hc1d => ?_) (fun hc1d => ?_))
 ·refine Ws (R z (bP (parts := []) (cs := [(vI 0), (.slice none 0 0), (.slice none 0 0)]) build_74 z z) (E0 (fs (cur' := [(vI 0), (.slice none 0 0), (.slice none 0 0)]) z_74 z z (h16.ext s13) z (lb z) (oA z) z) ?_))
  rintro _ w2k ⟨h22, s23⟩
  refine Ra z (Ra z (Wn ?_))
  obtain rfl := som (ifT hm1k hc1d)
  exact Wr (ret3 hr (resC g_74 z_74 z h22 z) z z ⟨(bM (bup (bup h11 h12) s13) s23.one (mem1le h11.size)), none, 0, 0, [], none, 0, 0, [], z, (ii z), onL, onL, (ii z), (ii z), nd0, al0⟩)
 refine Wk (Ws (R z (lN (vs := [(.slice pa1_0 pn1_0 pc1_0)]) g_34 z_34 z z fid (((h1i.ext h12).ext s13).row 0 1 z)) (Rm z (Rm z (Rm z ?_)))))
 have h1e := lt_ (lt_ h11.size h12.size) s13.size
 obtain ⟨r24, r2l, r2m, e25, hm26⟩ := bd3S (ifF hm1k hc1d)
 refine E z (fc call47 z (W_spec_l11Read (B := B) e25 (lt_ hBw h1e) (((p1_0.ext h11).ext h12).ext s13) p2_0 (((p3_0.ext h11).ext h12).ext s13) p4_0)) ?_
 rintro _ w2n ⟨s1o, a1p, n1q, c1r, S27, a1s, n1t, c1u, S28, rfl, h29, h2a, h2b, h2c, h2d, h1f, h17⟩
 iterate 3 refine R z (ext_ z z) ?_
 refine E0 (fs (cur' := [(vI r24.number), (.slice a1p n1q c1r), (.slice a1s n1t c1u)]) z_74 z z ((h16.ext s13).ext s1o) z (lb z) (oA z) z) ?_
 rintro _ w2o ⟨h2e, s2f⟩
 have h1g := s2f.one
 refine Ra z (Ra z (Wn ?_))
 obtain rfl := som hm26
 exact Wr (ret3 hr (resC g_74 z_74 z h2e z) z z ⟨(bM (bup (bup (bup h11 h12) s13) s1o) h1g (mem1le h11.size)), a1p, n1q, c1r, S27, a1s, n1t, c1u, S28, z, h29, (h2a.chg h1g (o0n1 (all_left h17) h16.lt s13.size)), (h2b.chg h1g (o0n1 (all_right h17) h16.lt s13.size)), h2c, h2d, (nd_app (nd_left h1f) (nd_right h1f) (nd_dj h1f)), (all_app (o0le (all_left h17) h1e) (o0le (all_right h17) h1e))⟩)
def Q_spec_ReadFile (w0 : World) (B : Nat) (r : Val × Int × Int) (v : Value) (w' : World) : Prop := Below w0.heap.size w0 w' ∧ un3 (fun r1 r2 r3 => ∃ (a1 : Option Addr) (n1 c1 : Nat) (S1 : List Nat) (a2 : Option Addr) (n2 c2 : Nat) (S2 : List Nat), v = .tuple #[(.agg #[vI r1.number, .slice a1 n1 c1, .slice a2 n2 c2]), (vI r2), (vI r3)] ∧ inI r1.number ∧ ownS w' S1 (.slice a1 n1 c1) r1.bytes ∧ ownS w' S2 (.slice a2 n2 c2) r1.items ∧ inI r2 ∧ inI r3 ∧ (S1 ++ S2).Nodup ∧ (∀ k ∈ (S1 ++ S2), w0.heap.size ≤ k)) r
theorem W_spec_ReadFile {x1 : Desc} {x2 : List UInt8} {res : Val × Int × Int} (hm : M_spec_ReadFile n x1 x2 = some res) (hBw : B ≤ w0.heap.size) (p1_0 : repS w0 B (.slice pa1_0 pn1_0 pc1_0) x1.rules) (p2_0 : repS w0 B (.slice pa2_0 pn2_0 pc2_0) x2) : CallsR prog 46 [(.agg #[(.slice pa1_0 pn1_0 pc1_0)]), (.slice pa2_0 pn2_0 pc2_0)] w0 (Q_spec_ReadFile w0 B res) := by
 unfold M_spec_ReadFile at hm
 obtain ⟨fn, hf, hb, hN, hr⟩ := fnE func46
 refine goW hf (hb.trans z) (hN.trans z) (lb z) (Ws (E z (fb z) ?_))
 rintro _ w1n ⟨rfl, h2g⟩
 have h12 := h2g.below
 have h1v : Blk w1n w0.heap.size [(.slice pa1_0 pn1_0 pc1_0)] := h2g.blk
 refine E z (fa zero_74) ?_
 rintro _ w16 ⟨rfl, h2h⟩
 have h11 := h2h.below
 have h1o : Blk w16 w1n.heap.size [(vI 0), (.slice none 0 0), (.slice none 0 0)] := h2h.blk
 refine Ra z (Ra z (Wn (Wq ?_)))
 obtain ⟨u3x, hu2i, hm3y⟩ := bdS hm
 refine WC_cut (fun a w => ∃ (x1b : Int) (x1w : List UInt8) (x1x : List Val) (x1c : Int) (x1d : Int), (x1b, x1w, x1x, x1c, x1d) = u3x ∧ ∃ (a1e : Option Addr) (n1f c1g : Nat) (S17 : List Nat) (a1h : Option Addr) (n1i c1j : Nat) (S18 : List Nat) (g19 : Nat), Sat 32 [(1, (.slice pa2_0 pn2_0 pc2_0)), (4, (.pointer (some ⟨w1n.heap.size, 0, none⟩))), (7, (.pointer (some ⟨g19, 0, none⟩))), (8, (vI x1c)), (9, (vI x1d))] a ∧ Below w16.heap.size w16 w ∧ inI x1b ∧ ownS w S17 (.slice a1e n1f c1g) x1w ∧ S17.Nodup ∧ (∀ k ∈ S17, w16.heap.size ≤ k) ∧ ownS w S18 (.slice a1h n1i c1j) x1x ∧ S18.Nodup ∧ (∀ k ∈ S18, w16.heap.size ≤ k) ∧ (∀ k ∈ S18, k ∉ S17) ∧ inI x1c ∧ inI x1d ∧ Blk w g19 [(vI x1b), (.slice a1e n1f c1g), (.slice a1h n1i c1j)] ∧ w16.heap.size ≤ g19 ∧ (∀ k ∈ S17, k ∉ [g19]) ∧ (∀ k ∈ S18, k ∉ [g19])) ?_ ?_
 ·refine WC_draw (X := fun k => k ∈ ([] : List Nat) ∨ w16.heap.size ≤ k) 0 (.rd 0 (.rd 1 (.rd 3 (.br 2 (.br 4 (.rd 5 (.rd 6 (.rd 7 (.rd 8 (.ef 9 (.ef 10 (.rd 11 (.rd 12 .done)))))))) 9 (.ef 4 (.rd 5 (.rd 6 (.rd 7 (.rd 8 (.ef 10 (.rd 11 (.rd 12 .done))))))))) 9 (.ef 2 (.ef 4 (.rd 5 (.rd 6 (.rd 7 (.rd 8 (.ef 10 (.rd 11 (.rd 12 .done))))))))))))) mo (by kernel_rfl) fun w2j s10 _ => ?_
  have h2k := (h1v.ext h11).ext s10
  refine dR z z (lN (vs := [(.slice pa1_0 pn1_0 pc1_0)]) g_34 z_34 z z (notNew (atp (nmN _)) (Nat.lt_of_lt_of_le h1v.lt h11.size)) (h2k.row 0 1 z)) (dR z z (lN (vs := [(.slice pa1_0 pn1_0 pc1_0)]) g_34 z_34 z z (notNew (atp (nmN _)) (Nat.lt_of_lt_of_le h1v.lt h11.size)) (h2k.row 0 1 z)) (dR z z (mv z) (PR_br ?_ ?_)))
  ·have h1y := ((p1_0.ext h12).ext h11).ext s10
   have h1z := lt_ (lt_ h12.size h11.size) s10.size
   obtain ⟨r5o, e3z, hm2l⟩ := bdS hu2i
   refine dE z z (fc call35 z (W_spec_RootOf (B := B) e3z (lt_ hBw h1z) h1y)) (.inr fun _ _ h => chgB (h.1)) ?_
   rintro _ w2m ⟨s13, rfl, h2n⟩
   refine PR_br ?_ ?_
   ·obtain ⟨r1p, r40, r41, e42, hm43⟩ := bd3S hm2l
    refine dE z z (fc call59 z (W_spec_ReadValue (B := B) e42 (lt_ hBw (lt_ h1z s13.size)) (h1y.ext s13) h2n ((((p2_0.ext h12).ext h11).ext s10).ext s13) (ii z))) (.inr fun _ _ h => chgB (h.1)) ?_
    rintro _ w2o ⟨s2p, a2q, n2r, c2s, S44, a2t, n2u, c2v, S45, rfl, h46, h2w, h2x, h47, h48, h20, h2y⟩
    refine dR z z (mv z) ?_
    iterate 3 refine dR z z (ext_ z z) ?_
    refine dE z z (fa zero_74) (.inr fun _ _ h => chgB (h.2.below)) ?_
    rintro _ w49 ⟨rfl, h2z⟩
    have h21 := h2z.below
    have h4a : Blk w49 w2o.heap.size [(vI 0), (.slice none 0 0), (.slice none 0 0)] := h2z.blk
    have h22 := lt_ s10.size s13.size
    have h23 := mem1le (lt_ h22 s2p.size)
    refine dE0 z (fs (cur' := [(vI r1p.number), (.slice a2q n2r c2s), (.slice a2t n2u c2v)]) z_74 z z h4a z (lb z) (oA z) z) (.inr fun _ _ h => chgNew (atp h23) h.2) ?_
    rintro _ w5p ⟨h4b, s4c⟩
    have h24 := s4c.one
    refine dR z z (asg z) (dR z z (asg z) (PR_done ?_))
    have h30 := mnr (ownS.lt h2w)
    have h31 := mnr (ownS.lt h2x)
    exact fun _ q => ⟨r1p.number, r1p.bytes, r1p.items, r40, r41, som hm43, a2q, n2r, c2s, S44, a2t, n2u, c2v, S45, w2o.heap.size, (q.k (s5 z z z z z)), (bM (bup (bup (bup s10 s13) s2p) h21) h24 h23), h46, ((h2w.ext h21).chg h24 (dj_symm h30)), (nd_left h20), (o0le (all_left h2y) h22), ((h2x.ext h21).chg h24 (dj_symm h31)), (nd_right h20), (o0le (all_right h2y) h22), (dj_symm (nd_dj h20)), h47, h48, h4b, (atp h23), (dj_symm h30), (dj_symm h31)⟩
   refine dE z z (fa zero_74) (.inr fun _ _ h => chgB (h.2.below)) ?_
   rintro _ w4d ⟨rfl, h32⟩
   have h1k := h32.below
   have h25 : Blk w4d w2m.heap.size [(vI 0), (.slice none 0 0), (.slice none 0 0)] := h32.blk
   obtain ⟨r1q, r4e, r4f, e4g, hm4h⟩ := bd3S hm2l
   refine dE z z (fc call59 z (W_spec_ReadValue (B := B) e4g (lt_ hBw (lt_ (lt_ h1z s13.size) h1k.size)) ((h1y.ext s13).ext h1k) h2n (((((p2_0.ext h12).ext h11).ext s10).ext s13).ext h1k) (ii z))) (.inr fun _ _ h => chgB (h.1)) ?_
   rintro _ w5q ⟨s33, a34, n35, c36, S4i, a37, n38, c39, S4j, rfl, h4k, h4l, h4m, h4n, h4o, h26, h1r⟩
   refine dR z z (mv z) ?_
   iterate 3 refine dR z z (ext_ z z) ?_
   have h3a := lt_ s10.size s13.size
   have h27 := mem1le h3a
   refine dE0 z (fs (cur' := [(vI r1q.number), (.slice a34 n35 c36), (.slice a37 n38 c39)]) z_74 z z (h25.ext s33) z (lb z) (oA z) z) (.inr fun _ _ h => chgNew (atp h27) h.2) ?_
   rintro _ w5r ⟨h4p, s4q⟩
   have h28 := s4q.one
   refine dR z z (asg z) (dR z z (asg z) (PR_done ?_))
   have h3b := o0n1 (all_left h1r) h25.lt lr
   have h3c := lt_ h3a h1k.size
   have h3d := o0n1 (all_right h1r) h25.lt lr
   exact fun _ q => ⟨r1q.number, r1q.bytes, r1q.items, r4e, r4f, som hm4h, a34, n35, c36, S4i, a37, n38, c39, S4j, w2m.heap.size, (q.k (s5 z z z z z)), (bM (bup (bup (bup s10 s13) h1k) s33) h28 h27), h4k, (h4l.chg h28 h3b), (nd_left h26), (o0le (all_left h1r) h3c), (h4m.chg h28 h3d), (nd_right h26), (o0le (all_right h1r) h3c), (dj_symm (nd_dj h26)), h4n, h4o, h4p, (atp h27), h3b, h3d⟩
  refine dE z z (fa zero_74) (.inr fun _ _ h => chgB (h.2.below)) ?_
  rintro _ w4r ⟨rfl, h3e⟩
  have h1l := h3e.below
  have h29 : Blk w4r w2j.heap.size [(vI 0), (.slice none 0 0), (.slice none 0 0)] := h3e.blk
  have h3f := (((p1_0.ext h12).ext h11).ext s10).ext h1l
  have h3g := lt_ (lt_ (lt_ h12.size h11.size) s10.size) h1l.size
  obtain ⟨r5s, e4s, hm4t⟩ := bdS hu2i
  refine dE z z (fc call35 z (W_spec_RootOf (B := B) e4s (lt_ hBw h3g) h3f)) (.inr fun _ _ h => chgB (h.1)) ?_
  rintro _ w5t ⟨s15, rfl, h4u⟩
  obtain ⟨r1s, r4v, r4w, e4x, hm4y⟩ := bd3S hm4t
  refine dE z z (fc call59 z (W_spec_ReadValue (B := B) e4x (lt_ hBw (lt_ h3g s15.size)) (h3f.ext s15) h4u (((((p2_0.ext h12).ext h11).ext s10).ext h1l).ext s15) (ii z))) (.inr fun _ _ h => chgB (h.1)) ?_
  rintro _ w5u ⟨s3h, a3i, n3j, c3k, S4z, a3l, n3m, c3n, S50, rfl, h51, h52, h53, h54, h55, h2a, h1t⟩
  refine dR z z (mv z) ?_
  iterate 3 refine dR z z (ext_ z z) ?_
  have h2b := mem1le s10.size
  refine dE0 z (fs (cur' := [(vI r1s.number), (.slice a3i n3j c3k), (.slice a3l n3m c3n)]) z_74 z z ((h29.ext s15).ext s3h) z (lb z) (oA z) z) (.inr fun _ _ h => chgNew (atp h2b) h.2) ?_
  rintro _ w5v ⟨h56, s57⟩
  have h2c := s57.one
  refine dR z z (asg z) (dR z z (asg z) (PR_done ?_))
  have h3o := o0n1 (all_left h1t) h29.lt s15.size
  have h3p := lt_ (lt_ s10.size h1l.size) s15.size
  have h3q := o0n1 (all_right h1t) h29.lt s15.size
  exact fun _ q => ⟨r1s.number, r1s.bytes, r1s.items, r4v, r4w, som hm4y, a3i, n3j, c3k, S4z, a3l, n3m, c3n, S50, w2j.heap.size, (q.k (s5 z z z z z)), (bM (bup (bup (bup s10 h1l) s15) s3h) h2c h2b), h51, (h52.chg h2c h3o), (nd_left h2a), (o0le (all_left h1t) h3p), (h53.chg h2c h3q), (nd_right h2a), (o0le (all_right h1t) h3p), (dj_symm (nd_dj h2a)), h54, h55, h56, (atp h2b), h3o, h3q⟩
 rintro a58 w1u ⟨x1b, x1w, x1x, x1c, x1d, rfl, a1e, n1f, c1g, S17, a1h, n1i, c1j, S18, g19, hS5w, s1m, h59, h5a, h5b, h3r, h5c, h5d, h3s, h5e, h3t, h5f, h5g, h5x, h5y, h5z⟩
 have hm5h := un5S hm3y
 revert a58
 refine Wo (Wq (Wq ?_))
 obtain ⟨u5i, hu3u, hm3v⟩ := bdS hm5h
 refine WC_cut (fun a w => ∃ (x2d : Bool), x2d = u5i ∧ Sat 32 [(4, (.pointer (some ⟨w1n.heap.size, 0, none⟩))), (7, (.pointer (some ⟨g19, 0, none⟩))), (8, (vI x1c)), (9, (vI x1d)), (26, (vB x2d))] a ∧ Below w1u.heap.size w1u w) ?_ ?_
 ·refine Wg (Rm z (R z (eql z z) (Rm z ?_)))
  rcases bs (x1d == 0) with hc14 | hc14
  ·exact Rh z hc14 (mv z) (Rh z hc14 (mv z) (Rh z hc14 (lnR d_26 z (((p2_0.ext h12).ext h11).ext s1m)) (Rh z hc14 (lss z z) (R z (pT z hc14 z) (Wl (fun _ q => ⟨decide (x1c < (x2.length : Int)), som (ifT hu3u hc14), (q.k (s5 z z z z z)), (br w1u)⟩))))))
  iterate 4 refine Nh z hc14 ?_
  exact R z (pF z hc14 z) (Wl (fun _ q => ⟨false, som (ifF hu3u hc14), (q.k (s5 z z z z z)), (br w1u)⟩))
 rintro a5j w60 ⟨x2d, rfl, hS61, s1a⟩
 revert a5j
 refine Wo (Wc z (fun hc2e => ?_) (fun hc2e => ?_))
 ·refine Ws (R z (bP (parts := []) (cs := [(vI 0), (.slice none 0 0), (.slice none 0 0)]) build_74 z z) (Rm z (E0 (fs (cur' := [(vI 0), (.slice none 0 0), (.slice none 0 0)]) z_74 z z ((h1o.ext s1m).ext s1a) z (lb z) (oA z) z) ?_)))
  rintro _ w62 ⟨h5k, s5l⟩
  refine Ra z (Ra z (Wn ?_))
  obtain rfl := som (ifT hm3v hc2e)
  exact Wr (ret3 hr (resC g_74 z_74 z h5k z) z z ⟨(bM (bup (bup (bup h12 h11) s1m) s1a) s5l.one (mem1le h12.size)), none, 0, 0, [], none, 0, 0, [], z, (ii z), onL, onL, h3t, (ii z), nd0, al0⟩)
 refine Wk (Ws (R z (lN (vs := [(vI x1b), (.slice a1e n1f c1g), (.slice a1h n1i c1j)]) g_74 z_74 z z fid ((h5g.ext s1a).row 0 3 z)) (Rm z (Rm z (E0 (fs (cur' := [(vI x1b), (.slice a1e n1f c1g), (.slice a1h n1i c1j)]) z_74 z z ((h1o.ext s1m).ext s1a) z (lb z) (oA z) z) ?_)))))
 rintro _ w63 ⟨h5m, s5n⟩
 have h2f := s5n.one
 refine Ra z (Ra z (Wn ?_))
 obtain rfl := som (ifF hm3v hc2e)
 have h3w := lt_ h12.size h11.size
 exact Wr (ret3 hr (resC g_74 z_74 z h5m z) z z ⟨(bM (bup (bup (bup h12 h11) s1m) s1a) h2f (mem1le h12.size)), a1e, n1f, c1g, S17, a1h, n1i, c1j, S18, z, h59, ((h5a.ext s1a).chg h2f (o0n1 h3r h1o.lt lr)), ((h5c.ext s1a).chg h2f (o0n1 h3s h1o.lt lr)), h3t, h5f, (nd_app h5b h5d (dj_symm h5e)), (all_app (o0le h3r h3w) (o0le h3s h3w))⟩)
def Q_spec_IsFileOf (w0 : World) (B : Nat) (r : Bool) (v : Value) (w' : World) : Prop := Below w0.heap.size w0 w' ∧ (fun r1 => (vB r1) = v) r
theorem W_spec_IsFileOf {x1 : Desc} {x2 : List UInt8} {res : Bool} (hm : M_spec_IsFileOf n x1 x2 = some res) (hBw : B ≤ w0.heap.size) (p1_0 : repS w0 B (.slice pa1_0 pn1_0 pc1_0) x1.rules) (p2_0 : repS w0 B (.slice pa2_0 pn2_0 pc2_0) x2) : CallsR prog 33 [(.agg #[(.slice pa1_0 pn1_0 pc1_0)]), (.slice pa2_0 pn2_0 pc2_0)] w0 (Q_spec_IsFileOf w0 B res) := by
 unfold M_spec_IsFileOf at hm
 obtain ⟨fn, hf, hb, hN, hr⟩ := fnE func33
 refine goW hf (hb.trans z) (hN.trans z) (lb z) (Ws (E z (fb z) ?_))
 rintro _ w14 ⟨rfl, h11⟩
 have h10 := h11.below
 have h15 : Blk w14 w0.heap.size [(.slice pa1_0 pn1_0 pc1_0)] := h11.blk
 refine Ra z (Wn (Ws (R z (lN (vs := [(.slice pa1_0 pn1_0 pc1_0)]) g_34 z_34 z z fid (h15.row 0 1 z)) (Rm z ?_))))
 obtain ⟨r16, r1j, r1k, e17, hm18⟩ := bd3S hm
 refine E z (fc call46 z (W_spec_ReadFile (B := B) e17 (lt_ hBw h10.size) (p1_0.ext h10) (p2_0.ext h10))) ?_
 rintro _ w19 ⟨s12, a1a, n1b, c1c, S1l, a1d, n1e, c1f, S1m, rfl, h1n, h1o, h1p, h1q, h1r, h1s, h1t⟩
 refine Rm z ?_
 iterate 3 refine R z (ext_ z z) ?_
 refine E z (fa zero_74) ?_
 rintro _ w1g ⟨rfl, h13⟩
 have h1h : Blk w1g w19.heap.size [(vI 0), (.slice none 0 0), (.slice none 0 0)] := h13.blk
 refine E0 (fs (cur' := [(vI r16.number), (.slice a1a n1b c1c), (.slice a1d n1e c1f)]) z_74 z z h1h z (lb z) (oA z) z) ?_
 rintro _ w1u ⟨h1v, s1i⟩
 refine Ra z (Ra z (Wn (Ws (Rm z (R z (eql z z) (Ra z (Wn ?_)))))))
 obtain rfl := som hm18
 exact Wr (ret1 hr z ⟨(bM (bup (bup h10 s12) h13.below) s1i.one (mem1le (lt_ h10.size s12.size))), z⟩)
def Q_spec_FormatInt (w0 : World) (B : Nat) (r : Str) (v : Value) (w' : World) : Prop := Below w0.heap.size w0 w' ∧ (fun r1 => (Str.v r1) = v ∧ r1.b.length ≤ LEN) r
theorem W_spec_FormatInt {x1 : Int} {res : Str} (hm : M_spec_FormatInt n x1 = some res) (hBw : B ≤ w0.heap.size) (p1_0 : inI x1) : CallsR prog 68 [(vI x1)] w0 (Q_spec_FormatInt w0 B res) := by
 unfold M_spec_FormatInt at hm
 obtain ⟨fn, hf, hb, hN, hr⟩ := fnE func68
 refine goW hf (hb.trans z) (hN.trans z) (lb z) (Ws (Ra z (Wn (Wq (Ws (Rm z (R z (eql z z) (Wn (Wc z (fun hc14 => ?_) (fun hc14 => ?_))))))))))
 ·refine Ws (Ra z (Wn ?_))
  obtain rfl := som (ifT hm hc14)
  exact Wr (ret1 hr z ⟨(br w0), z, (lb z)⟩)
 refine Wk (Ws (Ra z (Wn (Wq (Ws (Rm z (Ra z (Wn ?_))))))))
 obtain ⟨u1z, hu1j, hm1b⟩ := bdS (ifF hm hc14)
 refine WC_iter (σ := Str × Int) (ρ := Str) (fun s a w => un2 (fun x11 x10 => Sat 31 [(0, (vI x1)), (3, (Str.v x11)), (4, (vI x10))] a ∧ Below w0.heap.size w0 w ∧ x11.b.length ≤ LEN ∧ inI x10) s) (fun s a w => un2 (fun x11 x10 => Sat 31 [(0, (vI x1)), (3, (Str.v x11))] a ∧ Below w0.heap.size w0 w ∧ x11.b.length ≤ LEN ∧ inI x10) s) (fun r ex a w => ex = .ret ∧ RetPost prog fn (Q_spec_FormatInt w0 B r) a w) hu1j ?_ ?_ ?_ ?_
 ·exact fun _ q => ⟨(q.k (s3 z z z)), (br w0), (lb z), p1_0⟩
 ·rintro ⟨x11, x10⟩ a20 w13 o21 ⟨hS1k, s1c, h15, h16⟩ hm1l
  have hm1d := un2S hm1l
  refine Wu (e := [(0, (vI x1)), (3, (Str.v x11)), (4, (vI x10))]) (N := 31) ?_ hS1k
  refine Wq (Ws (Rm z (R z (nq z z) (Wn (Wc z (fun hc17 => ?_) (fun hc17 => ?_))))))
  ·refine Wk (Wq (WC_block (Ws (Rm z (R z (rd_rem z z (by decide)) (Ra z (Wn (Wq (Ws (Rm z (R z (lss z z) (Wn ?_))))))))))))
   obtain ⟨u1m, hu1e, hm1n⟩ := bdS (ifT hm1d hc17)
   refine WC_cut (fun a w => ∃ (x12 : Int), x12 = u1m ∧ Sat 31 [(0, (vI x1)), (3, (Str.v x11)), (4, (vI x10)), (5, (vI x12))] a ∧ Below w13.heap.size w13 w ∧ inI x12) ?_ ?_
   ·refine Wc z (fun hc18 => ?_) (fun hc18 => ?_)
    ·exact Wg (Rm z (R z (rd_neg z) (Ra z (Wl (fun _ q => ⟨ineg (irem x10 10), som (ifT hu1e hc18), (q.k (s4 z z z z)), (br w13), (inI_neg _)⟩)))))
    exact WC_skip (fun _ q => ⟨irem x10 10, som (ifF hu1e hc18), (q.k (s4 z z z z)), (br w13), (inI_rem h16)⟩)
   rintro a1o w1p ⟨x12, rfl, hS22, s1q, h23⟩
   revert a1o
   refine Wo (Wg (Rm z (R z (add_ z z) (R z (rd_convU d_3 d_5 z) (E z (ef_buildSlice [(.tmp 21)] el_26 z z z (szAll z) (lb z) (lb z)) ?_)))))
   rintro _ w1r ⟨rfl, h19⟩
   have h24 : Blk w1r w1p.heap.size [(vU (byteI (mkB (iadd 48 x12))))] := h19.blk
   refine R z (rd_convST d_26 d_9 d_5 z_5 z (ownS.rep (ownS_new1 h19 UInt8_own))) (Rm z ?_)
   obtain ⟨x1s, e1f, hm1t⟩ := bdS hm1n
   exact R z (rd_catC z z e1f) (Ra z (Wn (Wg (Rm z (R z (rd_quo z z (by decide)) (Ra z (Wl (fun _ q => ⟨(x1s, iquo x10 10), (som hm1t).symm, ⟨(q.k (s3 z z z)), (bup (bup s1c s1q) h19.below), (cat_len e1f), (inI_quo _ _)⟩⟩))))))))
  exact WC_exit (fun a' ha' => QO_brk (som (ifF hm1d hc17)).symm ⟨(Sat.weaken ha' (s2 z z)), s1c, h15, h16⟩)
 ·rintro ⟨x11, x10⟩ a1u w25 rfl ⟨hS26, s1g, h15, h16⟩
  have hm1v := elL hm1b
  have hm1h := un2S hm1v
  revert a1u
  refine Wo (Wq (Ws (Rm z (R z (lss z z) (Wn (Wc z (fun hc1a => ?_) (fun hc1a => ?_)))))))
  ·refine Ws (Rm z ?_)
   obtain ⟨x27, e1i, hm1w⟩ := bdS (ifT hm1h hc1a)
   refine R z (rd_catC z z e1i) (Ra z (Wn ?_))
   obtain rfl := som hm1w
   exact Wr (ret1 hr z ⟨s1g, z, (cat_len e1i)⟩)
  refine Wk (Ws (Rm z (Ra z (Wn ?_))))
  obtain rfl := som (ifF hm1h hc1a)
  exact Wr (ret1 hr z ⟨s1g, z, h15⟩)
 rintro r28 ex29 a2a w2b rfl ⟨rfl, hq1x⟩
 have hm1y := elR hm1b
 obtain rfl := som hm1y
 exact ⟨hq1x, z⟩
def Q_spec_l18Step (w0 : World) (B : Nat) (r : Str) (v : Value) (w' : World) : Prop := Below w0.heap.size w0 w' ∧ (fun r1 => (Str.v r1) = v ∧ r1.b.length ≤ LEN) r
theorem W_spec_l18Step {x1 : Rule} {x2 : Int} {res : Str} (hm : M_spec_l18Step n x1 x2 = some res) (hBw : B ≤ w0.heap.size) (p1_0 : x1.name.b.length ≤ LEN) (p1_1 : inI x1.kind) (p1_2 : inI x1.size) (p1_4 : repS w0 B (.slice pa1_4 pn1_4 pc1_4) x1.bytes) (p1_5 : repS w0 B (.slice pa1_5 pn1_5 pc1_5) x1.names) (p1_6 : repS w0 B (.slice pa1_6 pn1_6 pc1_6) x1.tags) (p1_7 : repS w0 B (.slice pa1_7 pn1_7 pc1_7) x1.kids) (p2_0 : inI x2) : CallsR prog 50 [(.agg #[(Str.v x1.name), (vI x1.kind), (vI x1.size), (vB x1.little), (.slice pa1_4 pn1_4 pc1_4), (.slice pa1_5 pn1_5 pc1_5), (.slice pa1_6 pn1_6 pc1_6), (.slice pa1_7 pn1_7 pc1_7)]), (vI x2)] w0 (Q_spec_l18Step w0 B res) := by
 unfold M_spec_l18Step at hm
 obtain ⟨fn, hf, hb, hN, hr⟩ := fnE func50
 refine goW hf (hb.trans z) (hN.trans z) (lb z) (Ws (E z (fb z) ?_))
 rintro _ w18 ⟨rfl, h1m⟩
 have h12 := h1m.below
 have h16 : Blk w18 w0.heap.size [(Str.v x1.name), (vI x1.kind), (vI x1.size), (vB x1.little), (.slice pa1_4 pn1_4 pc1_4), (.slice pa1_5 pn1_5 pc1_5), (.slice pa1_6 pn1_6 pc1_6), (.slice pa1_7 pn1_7 pc1_7)] := h1m.blk
 refine Ra z (Wn (Wq (WC_block (Ws (R z (fd f_70_1 z) (R z (l1 g_3 z fid (h16.at z)) (R z (eql z z) (Ra z (Wn (Wc z (fun hc1d => ?_) (fun hc1d => ?_)))))))))))
 ·refine Ws (Rm z ?_)
  obtain ⟨r2d, e1w, hm1x⟩ := bdS (ifT hm hc1d)
  refine E z (fc call68 z (W_spec_FormatInt (B := B) e1w (lt_ hBw h12.size) p2_0)) ?_
  rintro _ w2e ⟨s1y, rfl, h1z⟩
  refine Ra z (Wn ?_)
  obtain rfl := som hm1x
  exact Wr (rtO (ret1 hr z ⟨(bup h12 s1y), z, h1z⟩))
 refine Wq ?_
 obtain ⟨u20, hu1n, hm1o⟩ := bdS (ifF hm hc1d)
 refine WC_cut (fun a w => ∃ (x1e : Bool), x1e = u20 ∧ Sat 51 [(1, (vI x2)), (2, (.pointer (some ⟨w0.heap.size, 0, none⟩))), (11, (vB x1e))] a ∧ Below w18.heap.size w18 w) ?_ ?_
 ·refine Wg (R z (fd f_70_1 z) (R z (l1 g_3 z fid (h16.at z)) (R z (eql z z) (Rm z ?_))))
  rcases bs (x1.kind == 6) with hc10 | hc10
  ·exact Rh z hc10 (mv z) (Rh z hc10 (fd f_70_5 z) (Rh z hc10 (l1 g_62 z fid (h16.at z)) (Rh z hc10 (lnR d_62 z (p1_5.ext h12)) (Rh z hc10 (lss z z) (R z (pT z hc10 z) (Ra z (Wl (fun _ q => ⟨decide (x2 < (x1.names.length : Int)), som (ifT hu1n hc10), (q.k (s3 z z z)), (br w18)⟩))))))))
  iterate 5 refine Nh z hc10 ?_
  exact R z (pF z hc10 z) (Ra z (Wl (fun _ q => ⟨false, som (ifF hu1n hc10), (q.k (s3 z z z)), (br w18)⟩)))
 rintro a21 w19 ⟨x1e, rfl, hS2f, s11⟩
 revert a21
 refine Wo (Wc z (fun hc1f => ?_) (fun hc1f => ?_))
 ·refine Ws (R z (fd f_70_5 z) (R z (l1 g_62 z fid ((h16.ext s11).at z)) (Rm z ?_)))
  obtain ⟨x2g, e22, hm23⟩ := bdS (ifT hm1o hc1f)
  refine RX z (at_ (α := Str) d_62 z_9 z z z ((p1_5.ext h12).ext s11) e22) ?_
  rintro _ ⟨b2h, o2i, cs2j, rfl, h24, h25, h2k⟩
  obtain ⟨rfl, h26⟩ := Str_open h25
  refine R z (l1 g_9 z fid (h24.at0 z)) (Ra z (Wn ?_))
  obtain rfl := som hm23
  exact Wr (rtO (ret1 hr z ⟨(bup h12 s11), z, h26⟩))
 refine Wq ?_
 obtain ⟨u27, hu1p, hm1q⟩ := bdS (ifF hm1o hc1f)
 refine WC_cut (fun a w => ∃ (x1g : Bool), x1g = u27 ∧ Sat 51 [(1, (vI x2)), (2, (.pointer (some ⟨w0.heap.size, 0, none⟩))), (27, (vB x1g))] a ∧ Below w19.heap.size w19 w) ?_ ?_
 ·refine Wg (R z (fd f_70_1 z) (R z (l1 g_3 z fid ((h16.ext s11).at z)) (R z (eql z z) (Rm z ?_))))
  rcases bs (x1.kind == 7) with hc13 | hc13
  ·exact Rh z hc13 (mv z) (Rh z hc13 (eql z z) (R z (pT z hc13 z) (Ra z (Wl (fun _ q => ⟨x2 == 0, som (ifT hu1p hc13), (q.k (s3 z z z)), (br w19)⟩)))))
  exact Nh z hc13 (Nh z hc13 (R z (pF z hc13 z) (Ra z (Wl (fun _ q => ⟨false, som (ifF hu1p hc13), (q.k (s3 z z z)), (br w19)⟩)))))
 rintro a28 w1a ⟨x1g, rfl, hS2l, s17⟩
 revert a28
 refine Wo (Wc z (fun hc1h => ?_) (fun hc1h => ?_))
 ·refine Ws (Ra z (Wn ?_))
  obtain rfl := som (ifT hm1q hc1h)
  exact Wr (rtO (ret1 hr z ⟨(bup (bup h12 s11) s17), z, (lb z)⟩))
 refine Wq ?_
 obtain ⟨u29, hu1r, hm1s⟩ := bdS (ifF hm1q hc1h)
 refine WC_cut (fun a w => ∃ (x1i : Bool), x1i = u29 ∧ Sat 51 [(1, (vI x2)), (2, (.pointer (some ⟨w0.heap.size, 0, none⟩))), (35, (vB x1i))] a ∧ Below w1a.heap.size w1a w) ?_ ?_
 ·refine Wg (R z (fd f_70_1 z) (R z (l1 g_3 z fid (((h16.ext s11).ext s17).at z)) (R z (eql z z) (Rm z ?_))))
  rcases bs (x1.kind == 8) with hc14 | hc14
  ·exact Rh z hc14 (mv z) (Rh z hc14 (eql z z) (R z (pT z hc14 z) (Ra z (Wl (fun _ q => ⟨x2 == 0, som (ifT hu1r hc14), (q.k (s3 z z z)), (br w1a)⟩)))))
  exact Nh z hc14 (Nh z hc14 (R z (pF z hc14 z) (Ra z (Wl (fun _ q => ⟨false, som (ifF hu1r hc14), (q.k (s3 z z z)), (br w1a)⟩)))))
 rintro a2a w1b ⟨x1i, rfl, hS2m, s1c⟩
 revert a2a
 refine Wo (Wc z (fun hc1j => ?_) (fun hc1j => ?_))
 ·refine Ws (Ra z (Wn ?_))
  obtain rfl := som (ifT hm1s hc1j)
  exact Wr (rtO (ret1 hr z ⟨(bup (bup (bup h12 s11) s17) s1c), z, (lb z)⟩))
 refine Wq ?_
 obtain ⟨u2b, hu1t, hm1u⟩ := bdS (ifF hm1s hc1j)
 refine WC_cut (fun a w => ∃ (x1k : Bool), x1k = u2b ∧ Sat 51 [(43, (vB x1k))] a ∧ Below w1b.heap.size w1b w) ?_ ?_
 ·refine Wg (R z (fd f_70_1 z) (R z (l1 g_3 z fid ((((h16.ext s11).ext s17).ext s1c).at z)) (R z (eql z z) (Rm z ?_))))
  rcases bs (x1.kind == 9) with hc15 | hc15
  ·exact Rh z hc15 (mv z) (Rh z hc15 (eql z z) (R z (pT z hc15 z) (Ra z (Wl (fun _ q => ⟨x2 == 0, som (ifT hu1t hc15), (q.k (s1 z)), (br w1b)⟩)))))
  exact Nh z hc15 (Nh z hc15 (R z (pF z hc15 z) (Ra z (Wl (fun _ q => ⟨false, som (ifF hu1t hc15), (q.k (s1 z)), (br w1b)⟩)))))
 rintro a2c w2n ⟨x1k, rfl, hS2o, s1v⟩
 revert a2c
 refine Wo (Wc z (fun hc1l => ?_) (fun hc1l => ?_))
 ·refine Ws (Ra z (Wn ?_))
  obtain rfl := som (ifT hm1u hc1l)
  exact Wr (rtO (ret1 hr z ⟨(bup (bup (bup (bup h12 s11) s17) s1c) s1v), z, (lb z)⟩))
 refine Wk (Ws (Ra z (Wn ?_)))
 obtain rfl := som (ifF hm1u hc1l)
 exact Wr (ret1 hr z ⟨(bup (bup (bup (bup h12 s11) s17) s1c) s1v), z, (lb z)⟩)
def Q_spec_l19Build (w0 : World) (B : Nat) (r : (List Entry) × Int) (v : Value) (w' : World) : Prop := Below w0.heap.size w0 w' ∧ un2 (fun r1 r2 => ∃ (a1 : Option Addr) (n1 c1 : Nat) (S1 : List Nat), v = .tuple #[(.slice a1 n1 c1), (vI r2)] ∧ ownS w' S1 (.slice a1 n1 c1) r1 ∧ inI r2 ∧ S1.Nodup ∧ (∀ k ∈ S1, w0.heap.size ≤ k)) r
structure S_spec_l19Build (n : Nat) : Prop where
  run : ∀ {B pn1_0 pc1_0 pn3_0 pc3_0 : Nat} {pa1_0 pa3_0 : Option Addr} {x1 : Desc} {x2 : Int} {x3 : List UInt8} {x4 : Int} {x5 : Str} {res : (List Entry) × Int} {w0 : World} (hm : (F_spec_l19Build n).spec_l19Build x1 x2 x3 x4 x5 = some res) (hBw : B ≤ w0.heap.size) (p1_0 : repS w0 B (.slice pa1_0 pn1_0 pc1_0) x1.rules) (p2_0 : inI x2) (p3_0 : repS w0 B (.slice pa3_0 pn3_0 pc3_0) x3) (p4_0 : inI x4) (p5_0 : x5.b.length ≤ LEN), CallsR prog 34 [(.agg #[(.slice pa1_0 pn1_0 pc1_0)]), (vI x2), (.slice pa3_0 pn3_0 pc3_0), (vI x4), (Str.v x5)] w0 (Q_spec_l19Build w0 B res)
theorem T_spec_l19Build (ih_spec_l19Build : S_spec_l19Build n) {x1 : Desc} {x2 : Int} {x3 : List UInt8} {x4 : Int} {x5 : Str} {res : (List Entry) × Int} (hm : B_spec_l19Build n (F_spec_l19Build n) x1 x2 x3 x4 x5 = some res) (hBw : B ≤ w0.heap.size) (p1_0 : repS w0 B (.slice pa1_0 pn1_0 pc1_0) x1.rules) (p2_0 : inI x2) (p3_0 : repS w0 B (.slice pa3_0 pn3_0 pc3_0) x3) (p4_0 : inI x4) (p5_0 : x5.b.length ≤ LEN) : CallsR prog 34 [(.agg #[(.slice pa1_0 pn1_0 pc1_0)]), (vI x2), (.slice pa3_0 pn3_0 pc3_0), (vI x4), (Str.v x5)] w0 (Q_spec_l19Build w0 B res) := by
 unfold B_spec_l19Build at hm
 obtain ⟨fn, hf, hb, hN, hr⟩ := fnE func34
 refine goW hf (hb.trans z) (hN.trans z) (lb z) (Ws (E z (fb z) ?_))
 rintro _ w1l ⟨rfl, h2w⟩
 have h1p := h2w.below
 have h1q : Blk w1l w0.heap.size [(.slice pa1_0 pn1_0 pc1_0)] := h2w.blk
 refine Ra z (Ra z (Wn (Ws (R z (fd f_34_0 z) (R z (l1 g_32 z fid (h1q.at z)) (Rm z ?_))))))
 obtain ⟨x15, e3u, hm3v⟩ := bdS hm
 have h2x := p1_0.ext h1p
 refine RX z (at_ (α := Rule) d_32 z_70 z z z h2x e3u) ?_
 rintro _ ⟨b6g, o6h, cs6i, rfl, h3w, h3x, h6j⟩
 obtain ⟨a21, n22, c23, a24, n25, c26, a27, n28, c29, a2a, n2b, c2c, rfl, h2y, h2z, h30, h3y, h3z, h40, h31⟩ := Rule_open h3x
 refine R z (lN (vs := [(Str.v x15.name), (vI x15.kind), (vI x15.size), (vB x15.little), (.slice a21 n22 c23), (.slice a24 n25 c26), (.slice a27 n28 c29), (.slice a2a n2b c2c)]) g_70 z_70 z z fid h3w) (E z (fa zero_70) ?_)
 rintro _ w41 ⟨rfl, h32⟩
 have h1d := h32.below
 have h2h : Blk w41 w1l.heap.size [(Str.v (⟨[]⟩ : Str)), (vI 0), (vI 0), (vB false), (.slice none 0 0), (.slice none 0 0), (.slice none 0 0), (.slice none 0 0)] := h32.blk
 refine E0 (fs (cur' := [(Str.v x15.name), (vI x15.kind), (vI x15.size), (vB x15.little), (.slice a21 n22 c23), (.slice a24 n25 c26), (.slice a27 n28 c29), (.slice a2a n2b c2c)]) z_70 z z h2h z (lb z) (oA z) z) ?_
 rintro _ w6k ⟨h42, s43⟩
 have h1a := s43.one
 refine Wn (Ws ?_)
 have h2i := (h1q.ext h1d).chg h1a (djs (mmr h1q.lt))
 refine R z (lN (vs := [(.slice pa1_0 pn1_0 pc1_0)]) g_34 z_34 z z fid (h2i.row 0 1 z)) (Rm z (Rm z (Rm z ?_)))
 have h1m := mem1le (lt_ hBw h1p.size)
 have h2j := (h2x.ext h1d).chg h1a (lg h1m)
 have h2k := ((p3_0.ext h1p).ext h1d).chg h1a (lg h1m)
 have h2d := lt_ (lt_ h1p.size h1d.size) h1a.size
 obtain ⟨r33, r1i, r6l, e44, hm45⟩ := bd3S hm3v
 refine E z (fc call47 z (W_spec_l11Read (B := B) e44 (lt_ hBw h2d) h2j p2_0 h2k p4_0)) ?_
 rintro _ w1n ⟨s16, a46, n47, c48, S6m, a49, n4a, c4b, S6n, rfl, h4c, h6o, h1h, h34, h6p, h6q, h6r⟩
 refine Rm z ?_
 iterate 3 refine R z (ext_ z z) ?_
 refine E z (fa zero_74) ?_
 rintro _ w4d ⟨rfl, h35⟩
 have h12 := h35.below
 have h2l : Blk w4d w1n.heap.size [(vI 0), (.slice none 0 0), (.slice none 0 0)] := h35.blk
 refine E0 (fs (cur' := [(vI r33.number), (.slice a46 n47 c48), (.slice a49 n4a c4b)]) z_74 z z h2l z (lb z) (oA z) z) ?_
 rintro _ w11 ⟨h36, s4e⟩
 have h10 := s4e.one
 refine Ra z (Ra z (Wn (Ws (Rm z (Rm z (Rm z (Rm z (R z (bP (parts := [(0, (.tmp 38)), (1, (.tmp 39)), (2, (.tmp 40)), (3, (.tmp 41))]) (cs := [(Str.v x5), (vI x2), (vI x4), (vI r1i)]) build_55 z z) (E z (ef_buildSlice [(.tmp 42)] el_29 z z z (szAll z) (lb z) (lb z)) ?_)))))))))
 rintro _ w1w ⟨rfl, h2m⟩
 have h14 := h2m.below
 have h6s : Blk w1w w11.heap.size [(Str.v x5), (vI x2), (vI x4), (vI r1i)] := h2m.blk
 refine Ra z (Wn (Ws (Rm z (Ra z (Wn (Wq (Ws (R z (fd f_70_1 z) ?_))))))))
 have h37 := lt_ h1a.size s16.size
 have h2n := (((h42.ext s16).ext h12).chg h10 (djs (mm1 h2h.lt h37))).ext h14
 refine R z (l1 g_3 z fid (h2n.at z)) (Wn (WC_block (Wq (Ws (R z (eql z z) (Ra z (Wn ?_)))))))
 obtain ⟨u4f, hu38, hm4g⟩ := bdS hm45
 refine WC_cut (fun a w => ∃ (x2o : Bool), x2o = u4f ∧ Sat 98 [(2, (.slice pa3_0 pn3_0 pc3_0)), (3, (vI x4)), (4, (Str.v x5)), (5, (.pointer (some ⟨w0.heap.size, 0, none⟩))), (12, (.pointer (some ⟨w1l.heap.size, 0, none⟩))), (13, (.pointer (some ⟨w1n.heap.size, 0, none⟩))), (14, (vI r1i)), (16, (.slice (some ⟨w11.heap.size, 0, none⟩) 1 1)), (17, (vI x4)), (46, (vI x15.kind)), (47, (vB x2o))] a ∧ Below w1w.heap.size w1w w) ?_ ?_
 ·refine Wc z (fun hc2p => ?_) (fun hc2p => ?_)
  ·exact WC_skip (fun _ q => ⟨x15.kind == 5, som (ifT hu38 hc2p), (q.k (sc z (sc z (sc z (sc z (sc z (sc z (sc z (sc z (sc z (sc z (sc z sn)))))))))))), (br w1w)⟩)
  exact Wg (R z (eql z z) (Ra z (Wl (fun _ q => ⟨x15.kind == 7, som (ifF hu38 hc2p), (q.k (sc z (sc z (sc z (sc z (sc z (sc z (sc z (sc z (sc z (sc z (sc z sn)))))))))))), (br w1w)⟩))))
 rintro a4h w1r ⟨x2o, rfl, hS6t, s13⟩
 revert a4h
 refine Wo ?_
 obtain ⟨u4i, hu39, hm4j⟩ := bdS hm4g
 refine WC_cut (fun a w => ∃ (x2e : Int), x2e = u4i ∧ Sat 98 [(2, (.slice pa3_0 pn3_0 pc3_0)), (4, (Str.v x5)), (5, (.pointer (some ⟨w0.heap.size, 0, none⟩))), (12, (.pointer (some ⟨w1l.heap.size, 0, none⟩))), (13, (.pointer (some ⟨w1n.heap.size, 0, none⟩))), (14, (vI r1i)), (16, (.slice (some ⟨w11.heap.size, 0, none⟩) 1 1)), (17, (vI x2e))] a ∧ Below w1r.heap.size w1r w ∧ inI x2e) ?_ ?_
 ·refine Wc z (fun hc2q => ?_) (fun hc2q => ?_)
  ·refine Wq (WC_draw (X := noX) 0 (.rd 0 (.rd 1 (.rd 2 (.rd 3 (.rd 4 (.rd 5 (.rd 6 (.ef 7 (.rd 8 (.rd 9 (.rd 10 (.rd 11 (.rd 12 (.rd 13 (.rd 14 .done))))))))))))))) mo (by kernel_rfl) fun w6u s1o _ => dR z z (lN (vs := [(.slice pa1_0 pn1_0 pc1_0)]) g_34 z_34 z z fid (((((((h2i.ext s16).ext h12).chg h10 (djs (mm1 h1q.lt (lt_ (lt_ h1d.size h1a.size) s16.size)))).ext h14).ext s13).ext s1o).row 0 1 z)) (dR z z (fd f_70_7 z) (dR z z (l1 g_63 z fid (((h2n.ext s13).ext s1o).at z)) ?_)))
   obtain ⟨x6v, e4k, hm4l⟩ := bdS (ifT hu39 hc2q)
   have h3a := lt_ h2d s16.size
   have h2r := mem1le (lt_ hBw h3a)
   refine dRX z z (at_ (α := Int) d_63 z_3 z z z ((((((((h31.ext h1d).chg h1a (lg h1m)).ext s16).ext h12).chg h10 (lg h2r)).ext h14).ext s13).ext s1o) e4k) ?_
   rintro _ ⟨b6w, o6x, cs6y, rfl, h4m, h4n, h6z⟩
   obtain ⟨rfl, h4o⟩ := Int_open h4n
   refine dR z z (l1 g_3 z fid (h4m.at0 z)) (dR z z (mv z) (dR z z (mv z) ?_))
   obtain ⟨r70, r4p, r71, e4q, hm4r⟩ := bd3S hm4l
   refine dE z z (fc call48 z (W_spec_l11Integer (B := B) e4q (lt_ hBw (lt_ (lt_ (lt_ (lt_ (lt_ h3a h12.size) h10.size) h14.size) s13.size) s1o.size)) ((((((h2j.ext s16).ext h12).chg h10 (lg h2r)).ext h14).ext s13).ext s1o) h4o ((((((h2k.ext s16).ext h12).chg h10 (lg h2r)).ext h14).ext s13).ext s1o) p4_0)) (.inr fun _ _ h => chgB (h.1)) ?_
   rintro _ w72 ⟨s4s, rfl, h73, h4t⟩
   refine dR z z (mv z) ?_
   iterate 3 refine dR z z (ext_ z z) ?_
   iterate 3 refine dR z z (asg z) ?_
   exact PR_done (Wo (Wg (Rm z (Ra z (Wl (fun _ q => ⟨r4p, som hm4r, (q.k (s8 z z z z z z z z)), (bup s1o s4s), h4t⟩))))))
  refine Ws (R z (eql z z) (Ra z (Wn ?_)))
  obtain ⟨u4u, hu3b, hm4v⟩ := bdS (ifF hu39 hc2q)
  refine WC_cut (fun a w => ∃ (x1x : Int), x1x = u4u ∧ Sat 98 [(2, (.slice pa3_0 pn3_0 pc3_0)), (4, (Str.v x5)), (5, (.pointer (some ⟨w0.heap.size, 0, none⟩))), (12, (.pointer (some ⟨w1l.heap.size, 0, none⟩))), (13, (.pointer (some ⟨w1n.heap.size, 0, none⟩))), (14, (vI r1i)), (16, (.slice (some ⟨w11.heap.size, 0, none⟩) 1 1)), (17, (vI x1x))] a ∧ Below w1r.heap.size w1r w ∧ inI x1x) ?_ ?_
  ·refine Wc z (fun hc2s => ?_) (fun hc2s => ?_)
   ·exact Wg (Rm z (R z (add_ z z) (Ra z (Wl (fun _ q => ⟨iadd x4 1, som (ifT hu3b hc2s), (q.k (s8 z z z z z z z z)), (br w1r), (iA _ _)⟩)))))
   exact WC_skip (fun _ q => ⟨x4, som (ifF hu3b hc2s), (q.k (s8 z z z z z z z z)), (br w1r), p4_0⟩)
  rintro a4w w74 ⟨x1x, rfl, hS75, s4x, h4y⟩
  revert a4w
  exact fun _ q => ⟨x1x, som hm4v, (q.k (s8 z z z z z z z z)), s4x, h4y⟩
 rintro a4z w17 ⟨x2e, rfl, hS76, s18, h50⟩
 revert a4z
 refine Wo (Wq (Ws (Ra z (Wn ?_))))
 obtain ⟨u77, hu51, hm3c⟩ := bdS hm4j
 refine WC_forN (σ := (List Entry) × Int) (ρ := (List Entry) × Int) (fun (k2t : Nat) s a w => un2 (fun x1s x1k => ∃ (a1e : Option Addr) (n1f c1g : Nat) (S19 : List Nat), Sat 98 [(2, (.slice pa3_0 pn3_0 pc3_0)), (4, (Str.v x5)), (5, (.pointer (some ⟨w0.heap.size, 0, none⟩))), (12, (.pointer (some ⟨w1l.heap.size, 0, none⟩))), (13, (.pointer (some ⟨w1n.heap.size, 0, none⟩))), (14, (vI r1i)), (16, (.slice a1e n1f c1g)), (17, (vI x1k)), (21, (vI ((k2t : Nat) : Int)))] a ∧ Chg (· ∈ [w11.heap.size]) w17 w ∧ ownS w S19 (.slice a1e n1f c1g) x1s ∧ S19.Nodup ∧ (∀ k ∈ S19, k ∈ [w11.heap.size] ∨ w17.heap.size ≤ k) ∧ inI x1k) s) (fun s a w => un2 (fun x1s x1k => ∃ (a1e : Option Addr) (n1f c1g : Nat) (S19 : List Nat), Sat 98 [(14, (vI r1i)), (16, (.slice a1e n1f c1g))] a ∧ Chg (· ∈ [w11.heap.size]) w17 w ∧ ownS w S19 (.slice a1e n1f c1g) x1s ∧ S19.Nodup ∧ (∀ k ∈ S19, k ∈ [w11.heap.size] ∨ w17.heap.size ≤ k) ∧ inI x1k) s) (fun r ex a w => ex = .ret ∧ RetPost prog fn (Q_spec_l19Build w0 B r) a w) hu51 ?_ ?_ ?_ ?_ ?_
 ·exact fun _ q => ⟨(some ⟨w11.heap.size, 0, none⟩), 1, 1, [w11.heap.size], (q.k (s9 z z z z z z z z z)), (cr [w11.heap.size] w17), (((ownS_new1 h2m (Entry_mkO (x := (⟨x5, x2, x4, r1i⟩ : Entry))  p5_0 p2_0 p4_0 h34)).ext s13).ext s18), nd_one, (io sr), h50⟩
 ·rintro k2t ⟨x1s, x1k⟩ a78 w52 o79 hk2f ⟨a1e, n1f, c1g, S19, hS53, s1b, h1y, h1z, h20, h2g⟩ hm54
  have hm55 := un2S hm54
  refine Wu (e := [(2, (.slice pa3_0 pn3_0 pc3_0)), (4, (Str.v x5)), (5, (.pointer (some ⟨w0.heap.size, 0, none⟩))), (12, (.pointer (some ⟨w1l.heap.size, 0, none⟩))), (13, (.pointer (some ⟨w1n.heap.size, 0, none⟩))), (14, (vI r1i)), (16, (.slice a1e n1f c1g)), (17, (vI x1k)), (21, (vI ((k2t : Nat) : Int)))]) (N := 98) ?_ hS53
  refine Wq (Ws (Rm z (R z (fd f_74_2 z) ?_)))
  have h3d := (((h36.ext h14).ext s13).ext s18).chg s1b (djs (mm1 h2l.lt h10.size))
  refine R z (l1 g_72 z fid (h3d.at z)) (R z (lnR d_72 z (ownS_rep ((((((h1h.ext h12).chg h10 (dj_symm (mnr (ownS.lt h1h)))).ext h14).ext s13).ext s18).chg s1b (dj_symm (mno (ownS.lt h1h) (lt_ h12.size h10.size)))) (ownS.lt h1h))) (R z (lss z z) (Wn (Wc z (fun _ => ?_) (fun hc => (nolt hk2f hc).elim)))))
  refine Wk (Wq (WC_block (Wq (WC_draw (X := noX) 0 (.rd 0 (.rd 1 (.rd 2 (.rd 3 (.rd 4 (.rd 6 (.rd 7 (.rd 8 (.rd 9 (.rd 10 (.rd 11 (.ef 5 (.ef 12 (.rd 13 (.ef 14 (.rd 15 (.rd 16 (.rd 17 (.rd 18 (.rd 19 .done)))))))))))))))))))) mo (by kernel_rfl) fun w56 s1c _ => ?_))))
  have h3e := lt_ (lt_ h1d.size h1a.size) s16.size
  have h57 := ((((((h2i.ext s16).ext h12).chg h10 (djs (mm1 h1q.lt h3e))).ext h14).ext s13).ext s18).chg s1b (djs (mm1 h1q.lt (lt_ (lt_ h3e h12.size) h10.size)))
  refine dR z z (lN (vs := [(.slice pa1_0 pn1_0 pc1_0)]) g_34 z_34 z z fid ((h57.ext s1c).row 0 1 z)) ?_
  have h3f := (((h2n.ext s13).ext s18).chg s1b (djs (mm1 h2h.lt (lt_ (lt_ h37 h12.size) h10.size)))).ext s1c
  refine dR z z (lN (vs := [(Str.v x15.name), (vI x15.kind), (vI x15.size), (vB x15.little), (.slice a21 n22 c23), (.slice a24 n25 c26), (.slice a27 n28 c29), (.slice a2a n2b c2c)]) g_70 z_70 z z fid (h3f.row 0 8 z)) (dR z z (fd f_74_0 z) (dR z z (l1 g_3 z fid ((h3d.ext s1c).at z)) ?_))
  iterate 4 refine dR z z (mv z) ?_
  obtain ⟨x7a, e58, hm59⟩ := bdS hm55
  refine dR z z (rd_catC z z e58) (dR z z (lN (vs := [(Str.v x15.name), (vI x15.kind), (vI x15.size), (vB x15.little), (.slice a21 n22 c23), (.slice a24 n25 c26), (.slice a27 n28 c29), (.slice a2a n2b c2c)]) g_70 z_70 z z fid (h3f.row 0 8 z)) (dR z z (mv z) ?_))
  have h3g := lt_ h2d s16.size
  have h1t := mem1le (lt_ hBw h3g)
  have h3h := lt_ (lt_ h3g h12.size) h10.size
  have h1u := mem1le (lt_ hBw h3h)
  have h3i := (((((((((h3y.ext h1d).chg h1a (lg h1m)).ext s16).ext h12).chg h10 (lg h1t)).ext h14).ext s13).ext s18).chg s1b (lg h1u)).ext s1c
  have h3j := (((((((((h3z.ext h1d).chg h1a (lg h1m)).ext s16).ext h12).chg h10 (lg h1t)).ext h14).ext s13).ext s18).chg s1b (lg h1u)).ext s1c
  have h3k := (((((((((h40.ext h1d).chg h1a (lg h1m)).ext s16).ext h12).chg h10 (lg h1t)).ext h14).ext s13).ext s18).chg s1b (lg h1u)).ext s1c
  have h3l := (((((((((h31.ext h1d).chg h1a (lg h1m)).ext s16).ext h12).chg h10 (lg h1t)).ext h14).ext s13).ext s18).chg s1b (lg h1u)).ext s1c
  have h3m := lt_ (lt_ (lt_ (lt_ (lt_ h3h h14.size) s13.size) s18.size) s1b.size) s1c.size
  obtain ⟨r7b, e5a, hm5b⟩ := bdS hm59
  refine dE z z (fc call49 z (W_spec_l9Item (B := B) e5a (lt_ hBw h3m) h2y h2z h30 h3i h3j h3k h3l h4c (inI_cnt (Nat.le_of_lt hk2f) (lt_ (ownS.len h1h) LEN_le)))) (.inr fun _ _ h => chgB (h.1)) ?_
  rintro _ w5c ⟨s1j, rfl, h5d⟩
  have h3n := lt_ h3m s1j.size
  obtain ⟨r7c, e5e, hm5f⟩ := bdS hm5b
  refine dE z z (fc call50 z (W_spec_l18Step (B := B) e5e (lt_ hBw h3n) h2y h2z h30 (h3i.ext s1j) (h3j.ext s1j) (h3k.ext s1j) (h3l.ext s1j) (inI_cnt (Nat.le_of_lt hk2f) (lt_ (ownS.len h1h) LEN_le)))) (.inr fun _ _ h => chgB (h.1)) ?_
  rintro _ w5g ⟨s1v, rfl, h7d⟩
  obtain ⟨x7e, e3o, hm5h⟩ := bdS hm5f
  refine dR z z (rd_catC z z e3o) ?_
  obtain ⟨r7f, r5i, e5j, hm5k⟩ := bd2S hm5h
  refine dE z z (fc call34 z (ih_spec_l19Build.run (B := B) e5j (lt_ hBw (lt_ h3n s1v.size)) ((((((((((h2j.ext s16).ext h12).chg h10 (lg h1t)).ext h14).ext s13).ext s18).chg s1b (lg h1u)).ext s1c).ext s1j).ext s1v) h5d ((((((((((h2k.ext s16).ext h12).chg h10 (lg h1t)).ext h14).ext s13).ext s18).chg s1b (lg h1u)).ext s1c).ext s1j).ext s1v) h2g (cat_len e3o))) (.inr fun _ _ h => chgB (h.1)) ?_
  rintro _ w5l ⟨s2u, a7g, n7h, c7i, S7j, rfl, h5m, h5n, h7k, h7l⟩
  refine dR z z (mv z) (dR z z (ext_ z z) (dR z z (ext_ z z) (dR z z (asg z) (dR z z (asg z) (PR_done (Wo (Ws (Rm z (Rm z ?_)))))))))
  obtain ⟨x5o, e5p, hm5q⟩ := bdS hm5k
  refine E z (ef_appendN (α := Entry) el_29 e5p z z ((((h1y.ext s1c).ext s1j).ext s1v).ext s2u) h1z (ownS.rep h5m)) ?_
  rintro _ w5r ⟨S3p, a5s, n5t, c5u, rfl, s5v, h5w, h5x, h5y⟩
  refine Ra z (Wn (Wg (Rm z (Ra z (Wn (Wg (Rm z (R z (inc_ hk2f (lt_ (ownS.len h1h) LEN_le) z z) (Ra z (Wl ?_))))))))))
  have h3q : ∀ k ∈ S19, k ∈ [w11.heap.size] ∨ w17.heap.size ≤ k := or1 h20 (io sr) (leor lr)
  have h5z : ∀ k ∈ S3p, k ∈ [w11.heap.size] ∨ w17.heap.size ≤ k := or1 h5y h3q (leor (lt_ (lt_ (lt_ (lt_ s1b.size s1c.size) s1j.size) s1v.size) s2u.size))
  have h60 : Chg (· ∈ [w11.heap.size]) w17 w52 := cM (cr [w11.heap.size] w17) s1b (io sr)
  have h61 : Chg (· ∈ [w11.heap.size]) w17 w56 := cext h60 s1c
  have h62 : Chg (· ∈ [w11.heap.size]) w17 w5c := cext h61 s1j
  have h63 : Chg (· ∈ [w11.heap.size]) w17 w5g := cext h62 s1v
  have h64 : Chg (· ∈ [w11.heap.size]) w17 w5l := cext h63 s2u
  have h65 : Chg (· ∈ [w11.heap.size]) w17 w5r := cM h64 s5v h3q
  exact fun _ q => ⟨(x5o, r5i), (som hm5q).symm, ⟨a5s, n5t, c5u, S3p, (q.k (s9 z z z z z z z z z)), h65, h5w, h5x, h5z, h5n⟩⟩
 ·rintro ⟨x1s, x1k⟩ a7m w66 ⟨a1e, n1f, c1g, S19, hS67, s2v, h1y, h1z, h20, h2g⟩
  refine Wu (e := [(2, (.slice pa3_0 pn3_0 pc3_0)), (4, (Str.v x5)), (5, (.pointer (some ⟨w0.heap.size, 0, none⟩))), (12, (.pointer (some ⟨w1l.heap.size, 0, none⟩))), (13, (.pointer (some ⟨w1n.heap.size, 0, none⟩))), (14, (vI r1i)), (16, (.slice a1e n1f c1g)), (17, (vI x1k)), (21, (vI ((r33.items.length : Nat) : Int)))]) (N := 98) ?_ hS67
  refine Wq (Ws (Rm z (R z (fd f_74_2 z) (R z (l1 g_72 z fid (((((h36.ext h14).ext s13).ext s18).chg s2v (djs (mm1 h2l.lt h10.size))).at z)) (R z (lnR d_72 z (ownS_rep ((((((h1h.ext h12).chg h10 (dj_symm (mnr (ownS.lt h1h)))).ext h14).ext s13).ext s18).chg s2v (dj_symm (mno (ownS.lt h1h) (lt_ h12.size h10.size)))) (ownS.lt h1h))) (R z (lss z z) (Wn (Wc z (fun hc => (noltt hc).elim) (fun _ => ?_)))))))))
  have h68 : ∀ k ∈ S19, k ∈ [w11.heap.size] ∨ w17.heap.size ≤ k := or1 h20 (io sr) (leor lr)
  have h69 : Chg (· ∈ [w11.heap.size]) w17 w66 := cM (cr [w11.heap.size] w17) s2v (io sr)
  exact WC_exit (fun a' ha' => ⟨rfl, ⟨a1e, n1f, c1g, S19, (Sat.weaken ha' (s2 z z)), h69, h1y, h1z, h68, h2g⟩⟩)
 ·rintro ⟨x1s, x1k⟩ a6a w7n rfl ⟨a1e, n1f, c1g, S19, hS7o, s6b, h1y, h1z, h20, h2g⟩
  have hm6c := elL hm3c
  have hm6d := un2S hm6c
  revert a6a
  refine Wo (Ws (Rm z (Rm z (Ra z (Ra z (Wn ?_))))))
  obtain rfl := som hm6d
  have h3r := lt_ h2d s16.size
  have h3s := lt_ (lt_ h3r h12.size) h10.size
  have h3t := mem1le h3s
  exact Wr (ret2 hr z z ⟨(bM (bup (bup (bup (bM (bup (bup (bM (bup h1p h1d) h1a (mem1le h1p.size)) s16) h12) h10 (mem1le h3r)) h14) s13) s18) s6b h3t), a1e, n1f, c1g, S19, z, h1y, h34, h1z, (o1le h20 h3t (lt_ (lt_ (lt_ h3s h14.size) s13.size) s18.size))⟩)
 rintro r7p ex7q a7r w7s rfl ⟨rfl, hq6e⟩
 have hm6f := elR hm3c
 obtain rfl := som hm6f
 exact ⟨hq6e, z⟩
theorem A_spec_l19Build : ∀ n, S_spec_l19Build n
  | 0 => ⟨fun hm => by intros; exact nomatch (show none = some _ from hm)⟩
  | n + 1 => by
    have ih := A_spec_l19Build n
    have i0 := ih
    exact ⟨fun hm => T_spec_l19Build i0 hm⟩
theorem W_spec_l19Build : ∀ {x1 : Desc} {x2 : Int} {x3 : List UInt8} {x4 : Int} {x5 : Str} {res : (List Entry) × Int} (hm : (F_spec_l19Build n).spec_l19Build x1 x2 x3 x4 x5 = some res) (hBw : B ≤ w0.heap.size) (p1_0 : repS w0 B (.slice pa1_0 pn1_0 pc1_0) x1.rules) (p2_0 : inI x2) (p3_0 : repS w0 B (.slice pa3_0 pn3_0 pc3_0) x3) (p4_0 : inI x4) (p5_0 : x5.b.length ≤ LEN), CallsR prog 34 [(.agg #[(.slice pa1_0 pn1_0 pc1_0)]), (vI x2), (.slice pa3_0 pn3_0 pc3_0), (vI x4), (Str.v x5)] w0 (Q_spec_l19Build w0 B res) := (A_spec_l19Build n).run

def Q_spec_BuildIndex (w0 : World) (B : Nat) (r : (List Entry) × Bool) (v : Value) (w' : World) : Prop := Below w0.heap.size w0 w' ∧ un2 (fun r1 r2 => ∃ (a1 : Option Addr) (n1 c1 : Nat) (S1 : List Nat), v = .tuple #[(.slice a1 n1 c1), (vB r2)] ∧ ownS w' S1 (.slice a1 n1 c1) r1 ∧ S1.Nodup ∧ (∀ k ∈ S1, w0.heap.size ≤ k)) r
theorem W_spec_BuildIndex {x1 : Desc} {x2 : List UInt8} {res : (List Entry) × Bool} (hm : M_spec_BuildIndex n x1 x2 = some res) (hBw : B ≤ w0.heap.size) (p1_0 : repS w0 B (.slice pa1_0 pn1_0 pc1_0) x1.rules) (p2_0 : repS w0 B (.slice pa2_0 pn2_0 pc2_0) x2) : CallsR prog 22 [(.agg #[(.slice pa1_0 pn1_0 pc1_0)]), (.slice pa2_0 pn2_0 pc2_0)] w0 (Q_spec_BuildIndex w0 B res) := by
 unfold M_spec_BuildIndex at hm
 obtain ⟨fn, hf, hb, hN, hr⟩ := fnE func22
 refine goW hf (hb.trans z) (hN.trans z) (lb z) (Ws (E z (fb z) ?_))
 rintro _ w1e ⟨rfl, h15⟩
 have h10 := h15.below
 have h16 : Blk w1e w0.heap.size [(.slice pa1_0 pn1_0 pc1_0)] := h15.blk
 refine Ra z (Ra z (Wn (Wq (Ws (R z (lN (vs := [(.slice pa1_0 pn1_0 pc1_0)]) g_34 z_34 z z fid (h16.row 0 1 z)) (Rm z ?_))))))
 have h17 := p1_0.ext h10
 have h18 := p2_0.ext h10
 obtain ⟨r1z, e1f, hm19⟩ := bdS hm
 refine E z (fc call33 z (W_spec_IsFileOf (B := B) e1f (lt_ hBw h10.size) h17 h18)) ?_
 rintro _ w1g ⟨s11, rfl⟩
 refine R z (not_ z) (Wn (Wc z (fun hc14 => ?_) (fun hc14 => ?_)))
 ·refine Ws (E z (ef_lit0 (α := Entry) el_29) ?_)
  rintro _ w20 ⟨a1h, n1i, c1j, rfl, s1k, h1l⟩
  refine Ra z (Ra z (Wn ?_))
  obtain rfl := som (ifT hm19 hc14)
  exact Wr (ret2 hr z z ⟨(bup (bup h10 s11) s1k), a1h, n1i, c1j, [w1g.heap.size], z, h1l, nd_one, (mem1le (lt_ h10.size s11.size))⟩)
 refine Wk (Wq (WC_draw (X := noX) 0 (.rd 0 (.rd 1 (.rd 3 (.ef 2 (.ef 4 (.rd 5 (.rd 6 (.rd 7 (.rd 8 (.rd 9 .done)))))))))) mo (by kernel_rfl) fun w21 s12 _ => ?_))
 have h1a := (h16.ext s11).ext s12
 refine dR z z (lN (vs := [(.slice pa1_0 pn1_0 pc1_0)]) g_34 z_34 z z fid (h1a.row 0 1 z)) (dR z z (lN (vs := [(.slice pa1_0 pn1_0 pc1_0)]) g_34 z_34 z z fid (h1a.row 0 1 z)) (dR z z (mv z) ?_))
 have h1b := (h17.ext s11).ext s12
 have h1c := lt_ (lt_ h10.size s11.size) s12.size
 obtain ⟨r22, e1m, hm1n⟩ := bdS (ifF hm19 hc14)
 refine dE z z (fc call35 z (W_spec_RootOf (B := B) e1m (lt_ hBw h1c) h1b)) (.inr fun _ _ h => chgB (h.1)) ?_
 rintro _ w23 ⟨s13, rfl, h1o⟩
 have h1d := lt_ h1c s13.size
 obtain ⟨r24, r25, e1p, hm1q⟩ := bd2S hm1n
 refine dE z z (fc call34 z (W_spec_l19Build (B := B) e1p (lt_ hBw h1d) (h1b.ext s13) h1o (((h18.ext s11).ext s12).ext s13) (ii z) (lb z))) (.inr fun _ _ h => chgB (h.1)) ?_
 rintro _ w26 ⟨s1r, a1s, n1t, c1u, S1v, rfl, h1w, h27, h1x, h1y⟩
 refine dR z z (mv z) (dR z z (ext_ z z) (dR z z (ext_ z z) (dR z z (asg z) (dR z z (asg z) (PR_done (Wo (Ws (Rm z (Ra z (Ra z (Wn ?_)))))))))))
 obtain rfl := som hm1q
 exact Wr (ret2 hr z z ⟨(bup (bup (bup (bup h10 s11) s12) s13) s1r), a1s, n1t, c1u, S1v, z, h1w, h1x, (o0le h1y h1d)⟩)
def Q_spec_l23Copy (w0 : World) (B : Nat) (r : (List Entry)) (v : Value) (w' : World) : Prop := Below w0.heap.size w0 w' ∧ (fun r1 => ∃ (a1 : Option Addr) (n1 c1 : Nat) (S1 : List Nat), (.slice a1 n1 c1) = v ∧ ownS w' S1 (.slice a1 n1 c1) r1 ∧ S1.Nodup ∧ (∀ k ∈ S1, w0.heap.size ≤ k)) r
theorem W_spec_l23Copy {x1 : List Entry} {res : (List Entry)} (hm : M_spec_l23Copy x1 = some res) (hBw : B ≤ w0.heap.size) (p1_0 : repS w0 B (.slice pa1_0 pn1_0 pc1_0) x1) : CallsR prog 23 [(.slice pa1_0 pn1_0 pc1_0)] w0 (Q_spec_l23Copy w0 B res) := by
 unfold M_spec_l23Copy at hm
 obtain ⟨fn, hf, hb, hN, hr⟩ := fnE func23
 refine goW hf (hb.trans z) (hN.trans z) (lb z) (Ws (Ra z (Wn (Ws (E z (ef_lit0 (α := Entry) el_29) ?_)))))
 rintro _ w1d ⟨a1e, n1f, c1g, rfl, s10, h12⟩
 refine Rm z ?_
 obtain ⟨x1h, e13, hm14⟩ := bdS hm
 refine E z (ef_appendN (α := Entry) el_29 e13 z z h12 nd_one (p1_0.ext s10)) ?_
 rintro _ w1i ⟨S11, a15, n16, c17, rfl, s18, h19, h1a, h1b⟩
 refine Ra z (Wn ?_)
 obtain rfl := som hm14
 have h1c : ∀ k ∈ S11, w0.heap.size ≤ k := or1 h1b (mem1 lr) (lele s10.size)
 exact Wr (ret1 hr z ⟨(bM s10 s18 (mem1 lr)), a15, n16, c17, S11, z, h19, h1a, h1c⟩)
def Q_spec_UpdateIndex (w0 : World) (B : Nat) (r : (List UInt8) × (List Entry) × Bool) (v : Value) (w' : World) : Prop := Below w0.heap.size w0 w' ∧ un3 (fun r1 r2 r3 => ∃ (a1 : Option Addr) (n1 c1 : Nat) (S1 : List Nat) (a2 : Option Addr) (n2 c2 : Nat) (S2 : List Nat), v = .tuple #[(.slice a1 n1 c1), (.slice a2 n2 c2), (vB r3)] ∧ ownS w' S1 (.slice a1 n1 c1) r1 ∧ ownS w' S2 (.slice a2 n2 c2) r2 ∧ (S1 ++ S2).Nodup ∧ (∀ k ∈ (S1 ++ S2), w0.heap.size ≤ k)) r
theorem W_spec_UpdateIndex {x1 : Desc} {x2 : List Entry} {x3 : List UInt8} {x4 : Int} {x5 : Int} {x6 : List UInt8} {res : (List UInt8) × (List Entry) × Bool} (hm : M_spec_UpdateIndex n x1 x2 x3 x4 x5 x6 = some res) (hBw : B ≤ w0.heap.size) (p1_0 : repS w0 B (.slice pa1_0 pn1_0 pc1_0) x1.rules) (p2_0 : repS w0 B (.slice pa2_0 pn2_0 pc2_0) x2) (p3_0 : repS w0 B (.slice pa3_0 pn3_0 pc3_0) x3) (p4_0 : inI x4) (p5_0 : inI x5) (p6_0 : repS w0 B (.slice pa6_0 pn6_0 pc6_0) x6) : CallsR prog 6 [(.agg #[(.slice pa1_0 pn1_0 pc1_0)]), (.slice pa2_0 pn2_0 pc2_0), (.slice pa3_0 pn3_0 pc3_0), (vI x4), (vI x5), (.slice pa6_0 pn6_0 pc6_0)] w0 (Q_spec_UpdateIndex w0 B res) := by
 unfold M_spec_UpdateIndex at hm
 obtain ⟨fn, hf, hb, hN, hr⟩ := fnE func6
 refine goW hf (hb.trans z) (hN.trans z) (lb z) (Ws (E z (fb z) ?_))
 rintro _ w1u ⟨rfl, h1d⟩
 have h10 := h1d.below
 have h1v : Blk w1u w0.heap.size [(.slice pa1_0 pn1_0 pc1_0)] := h1d.blk
 refine Ra z (Ra z (Ra z (Wn (Ws (Rm z (Rm z (Rm z (Rm z ?_))))))))
 have h1e := p3_0.ext h10
 obtain ⟨r2s, r1w, e1x, hm1y⟩ := bd2S hm
 refine E z (fc call21 z (W_spec_SpliceBytes (B := B) e1x (lt_ hBw h10.size) h1e p4_0 p5_0 (p6_0.ext h10))) ?_
 rintro _ w1z ⟨s12, a1f, n1g, c1h, S20, rfl, h17, h21, h22⟩
 refine Rm z (R z (ext_ z z) (R z (ext_ z z) (Ra z (Ra z (Wn (Ws (R z (lN (vs := [(.slice pa1_0 pn1_0 pc1_0)]) g_34 z_34 z z fid ((h1v.ext s12).row 0 1 z)) (Rm z ?_))))))))
 have h18 := lt_ h10.size s12.size
 obtain ⟨r2t, r23, e24, hm25⟩ := bd2S hm1y
 refine E z (fc call22 z (W_spec_BuildIndex (B := w1z.heap.size) e24 lr (repS.mono ((p1_0.ext h10).ext s12) (lt_ hBw h18)) (ownS.rep h17))) ?_
 rintro _ w15 ⟨s14, a1i, n1j, c1k, S26, rfl, h27, h28, h1l⟩
 refine Rm z (R z (ext_ z z) (R z (ext_ z z) (Ra z (Ra z (Wn (Wq (Wq ?_)))))))
 obtain ⟨u29, hu1m, hm1n⟩ := bdS hm25
 refine WC_cut (fun a w => ∃ (x19 : Bool), x19 = u29 ∧ Sat 46 [(1, (.slice pa2_0 pn2_0 pc2_0)), (2, (.slice pa3_0 pn3_0 pc3_0)), (15, (.slice a1f n1g c1h)), (17, (.slice a1i n1j c1k)), (38, (vB x19))] a ∧ Below w15.heap.size w15 w) ?_ ?_
 ·refine Wg (Rm z (R z (not_ z) (Rm z ?_)))
  rcases bs (!r1w) with hc11 | hc11
  ·exact Nh z hc11 (Nh z hc11 (R z (pT z hc11 z) (Wl (fun _ q => ⟨true, som (ifT hu1m hc11), (q.k (s5 z z z z z)), (br w15)⟩))))
  exact Rh z hc11 (mv z) (Rh z hc11 (not_ z) (R z (pF z hc11 z) (Wl (fun _ q => ⟨!r23, som (ifF hu1m hc11), (q.k (s5 z z z z z)), (br w15)⟩))))
 rintro a2a w2u ⟨x19, rfl, hS2v, s13⟩
 revert a2a
 refine Wo (Wc z (fun hc1a => ?_) (fun hc1a => ?_))
 ·refine Ws (E z (ef_lit0 (α := UInt8) el_26) ?_)
  rintro _ w2w ⟨a2x, n2y, c2z, rfl, s16, h2b⟩
  refine Rm z ?_
  obtain ⟨x30, e2c, hm2d⟩ := bdS (ifT hm1n hc1a)
  refine E z (ef_appendN (α := UInt8) el_26 e2c z z h2b nd_one ((((h1e.ext s12).ext s14).ext s13).ext s16)) ?_
  rintro _ w31 ⟨S2e, a2f, n2g, c2h, rfl, s1b, h1o, h2i, h2j⟩
  refine Rm z ?_
  have h1c := lt_ (lt_ h18 s14.size) s13.size
  have h1p := lt_ h1c s16.size
  have h1q := lt_ h1p s1b.size
  obtain ⟨r32, e2k, hm2l⟩ := bdS hm2d
  refine E z (fc call23 z (W_spec_l23Copy (B := B) e2k (lt_ hBw h1q) ((((((p2_0.ext h10).ext s12).ext s14).ext s13).ext s16).chg s1b (lg (mem1le (lt_ hBw h1c)))))) ?_
  rintro _ w33 ⟨s1r, a2m, n2n, c2o, S2p, rfl, h2q, h2r, h1s⟩
  refine Ra z (Ra z (Ra z (Wn ?_)))
  obtain rfl := som hm2l
  have h1t := mem1le h1c
  exact Wr (ret3 hr z z z ⟨(bup (bM (bup (bup (bup (bup h10 s12) s14) s13) s16) s1b h1t) s1r), a2f, n2g, c2h, S2e, a2m, n2n, c2o, S2p, z, (h1o.ext s1r), h2q, (nd_app h2i h2r (dj_symm (o0no h1s (ownS.lt h1o) lr))), (all_app (o1le h2j h1t h1p) (o0le h1s h1q))⟩)
 refine Wk (Ws (Rm z (Rm z (Ra z (Ra z (Ra z (Wn ?_)))))))
 obtain rfl := som (ifF hm1n hc1a)
 exact Wr (ret3 hr z z z ⟨(bup (bup (bup h10 s12) s14) s13), a1f, n1g, c1h, S20, a1i, n1j, c1k, S26, z, ((h17.ext s14).ext s13), (h27.ext s13), (nd_app h21 h28 (dj_symm (o0no h1l (ownS.lt h17) lr))), (all_app (o0le h22 h10.size) (o0le h1l h18))⟩)
def Q_impl_SpliceBytes (w0 : World) (B : Nat) (r : (List UInt8) × Bool) (v : Value) (w' : World) : Prop := Below w0.heap.size w0 w' ∧ un2 (fun r1 r2 => ∃ (a1 : Option Addr) (n1 c1 : Nat) (S1 : List Nat), v = .tuple #[(.slice a1 n1 c1), (vB r2)] ∧ ownS w' S1 (.slice a1 n1 c1) r1 ∧ S1.Nodup ∧ (∀ k ∈ S1, w0.heap.size ≤ k)) r
theorem W_impl_SpliceBytes {x1 : List UInt8} {x2 : Int} {x3 : Int} {x4 : List UInt8} {res : (List UInt8) × Bool} (hm : M_impl_SpliceBytes x1 x2 x3 x4 = some res) (hBw : B ≤ w0.heap.size) (p1_0 : repS w0 B (.slice pa1_0 pn1_0 pc1_0) x1) (p2_0 : inI x2) (p3_0 : inI x3) (p4_0 : repS w0 B (.slice pa4_0 pn4_0 pc4_0) x4) : CallsR prog 26 [(.slice pa1_0 pn1_0 pc1_0), (vI x2), (vI x3), (.slice pa4_0 pn4_0 pc4_0)] w0 (Q_impl_SpliceBytes w0 B res) := by
 unfold M_impl_SpliceBytes at hm
 obtain ⟨fn, hf, hb, hN, hr⟩ := fnE func26
 refine goW hf (hb.trans z) (hN.trans z) (lb z) (Ws (Ra z (Ra z (Wn (Wq (Wq ?_))))))
 obtain ⟨u1o, hu1d, hm1e⟩ := bdS hm
 refine WC_cut (fun a w => ∃ (x16 : Bool), x16 = u1o ∧ Sat 54 [(0, (.slice pa1_0 pn1_0 pc1_0)), (1, (vI x2)), (2, (vI x3)), (3, (.slice pa4_0 pn4_0 pc4_0)), (30, (vB x16))] a ∧ Below w0.heap.size w0 w) ?_ ?_
 ·refine Wg (Rm z (R z (lss z z) (Rm z ?_)))
  rcases bs (decide (x2 < 0)) with hc13 | hc13
  ·exact Nh z hc13 (Nh z hc13 (R z (pT z hc13 z) (Rm z (Nh z z (Nh z z (Nh z z (Nh z z (R z (pT z z z) (Rm z (Nh z z (Nh z z (Nh z z (Nh z z (Nh z z (Nh z z (R z (pT z z z) (Wl (fun _ q => ⟨true, som (ifT hu1d hc13), (q.k (s5 z z z z z)), (br w0)⟩))))))))))))))))))
  have hm1f := ifF hu1d hc13
  refine Rh z hc13 (mv z) (Rh z hc13 (lss z z) (R z (pF z hc13 z) (Rm z ?_)))
  rcases bs (decide (x3 < 0)) with hc11 | hc11
  ·iterate 4 refine Nh z hc11 ?_
   exact R z (pT z hc11 z) (Rm z (Nh z z (Nh z z (Nh z z (Nh z z (Nh z z (Nh z z (R z (pT z z z) (Wl (fun _ q => ⟨true, som (ifT hm1f hc11), (q.k (s5 z z z z z)), (br w0)⟩))))))))))
  have hm1g := ifF hm1f hc11
  refine Rh z hc11 (mv z) (Rh z hc11 (mv z) (Rh z hc11 (lnR d_26 z p1_0) (Rh z hc11 (rd_gtr z z) (R z (pF z hc11 z) (Rm z ?_)))))
  rcases bs (decide ((x1.length : Int) < x2)) with hc10 | hc10
  ·iterate 6 refine Nh z hc10 ?_
   exact R z (pT z hc10 z) (Wl (fun _ q => ⟨true, som (ifT hm1g hc10), (q.k (s5 z z z z z)), (br w0)⟩))
  exact Rh z hc10 (mv z) (Rh z hc10 (mv z) (Rh z hc10 (lnR d_26 z p1_0) (Rh z hc10 (mv z) (Rh z hc10 (sb_ z z) (Rh z hc10 (rd_gtr z z) (R z (pF z hc10 z) (Wl (fun _ q => ⟨decide ((isub (x1.length : Int) x2) < x3), som (ifF hm1g hc10), (q.k (s5 z z z z z)), (br w0)⟩))))))))
 rintro a1p w2r ⟨x16, rfl, hS2s, s12⟩
 revert a1p
 refine Wo (Wc z (fun hc17 => ?_) (fun hc17 => ?_))
 ·refine Ws (E z (ef_lit0 (α := UInt8) el_26) ?_)
  rintro _ w2t ⟨a2u, n2v, c2w, rfl, s18, h1q⟩
  refine Rm z ?_
  obtain ⟨x2x, e1r, hm1s⟩ := bdS (ifT hm1e hc17)
  refine E z (ef_appendN (α := UInt8) el_26 e1r z z h1q nd_one ((p1_0.ext s12).ext s18)) ?_
  rintro _ w2y ⟨S1t, a1u, n1v, c1w, rfl, s1x, h1y, h1z, h20⟩
  refine Ra z (Ra z (Wn ?_))
  obtain rfl := som hm1s
  have h1h := mem1le s12.size
  exact Wr (ret2 hr z z ⟨(bM (bup s12 s18) s1x h1h), a1u, n1v, c1w, S1t, z, h1y, h1z, (o1le h20 h1h (lt_ s12.size s18.size))⟩)
 refine Wk (Ws (E z (ef_lit0 (α := UInt8) el_26) ?_))
 rintro _ w2z ⟨a30, n31, c32, rfl, s14, h21⟩
 refine Rm z (Rm z (Rm z ?_))
 obtain ⟨x33, e22, hm23⟩ := bdS (ifF hm1e hc17)
 have h1i := (p1_0.ext s12).ext s14
 refine RX z (rd_slice3X d_26 z_5 z z h1i z z z e22) ?_
 rintro _ ⟨a34, n35, c36, rfl, h24⟩
 obtain ⟨x37, e25, hm26⟩ := bdS hm23
 refine E z (ef_appendN (α := UInt8) el_26 e25 z z h21 nd_one h24) ?_
 rintro _ w38 ⟨S39, a3a, n3b, c3c, rfl, s15, h27, h28, h1j⟩
 refine Ra z (Wn (Ws (Rm z (Rm z ?_))))
 obtain ⟨x3d, e29, hm2a⟩ := bdS hm26
 have h19 := mem1le (lt_ hBw s12.size)
 refine E z (ef_appendN (α := UInt8) el_26 e29 z z h27 h28 (((p4_0.ext s12).ext s14).chg s15 (lg h19))) ?_
 rintro _ w3e ⟨S3f, a3g, n3h, c3i, rfl, s1a, h2b, h2c, h2d⟩
 refine Ra z (Wn (Ws (Rm z (Rm z (Rm z (Rm z (R z (add_ z z) (Rm z ?_))))))))
 have h1b := lt_ s12.size s14.size
 have h1c := (h1i.chg s15 (lg h19)).chg s1a (lg (o1le h1j h19 (lt_ hBw h1b)))
 refine R z (lnR d_26 z h1c) (Rm z (R z (lnR d_26 z h1c) ?_))
 obtain ⟨x3j, e2e, hm2f⟩ := bdS hm2a
 refine RX z (rd_slice3X d_26 z_5 z z h1c z z z e2e) ?_
 rintro _ ⟨a3k, n3l, c3m, rfl, h2g⟩
 obtain ⟨x3n, e2h, hm2i⟩ := bdS hm2f
 refine E z (ef_appendN (α := UInt8) el_26 e2h z z h2b h2c h2g) ?_
 rintro _ w3o ⟨S2j, a2k, n2l, c2m, rfl, s2n, h2o, h2p, h2q⟩
 refine Ra z (Ra z (Wn ?_))
 obtain rfl := som hm2i
 have h1k := mem1le s12.size
 have h1l := o1le h1j h1k h1b
 have h1m := lt_ h1b s15.size
 have h1n := o1le h2d h1l h1m
 exact Wr (ret2 hr z z ⟨(bM (bM (bM (bup s12 s14) s15 h1k) s1a h1l) s2n h1n), a2k, n2l, c2m, S2j, z, h2o, h2p, (o1le h2q h1n (lt_ h1m s1a.size))⟩)
def Q_impl_RootOf (w0 : World) (B : Nat) (r : Int) (v : Value) (w' : World) : Prop := Below w0.heap.size w0 w' ∧ (fun r1 => (vI r1) = v ∧ inI r1) r
theorem W_impl_RootOf {x1 : Desc} {res : Int} (hm : M_impl_RootOf x1 = some res) (hBw : B ≤ w0.heap.size) (p1_0 : repS w0 B (.slice pa1_0 pn1_0 pc1_0) x1.rules) : CallsR prog 39 [(.agg #[(.slice pa1_0 pn1_0 pc1_0)])] w0 (Q_impl_RootOf w0 B res) := by
 unfold M_impl_RootOf at hm
 obtain ⟨fn, hf, hb, hN, hr⟩ := fnE func39
 refine goW hf (hb.trans z) (hN.trans z) (lb z) (Ws (E z (fb z) ?_))
 rintro _ w12 ⟨rfl, h10⟩
 have h11 := h10.below
 have h13 : Blk w12 w0.heap.size [(.slice pa1_0 pn1_0 pc1_0)] := h10.blk
 refine Ra z (Wn (Ws (R z (fd f_34_0 z) (R z (l1 g_32 z fid (h13.at z)) (R z (lnR d_32 z (p1_0.ext h11)) (R z (sb_ z z) (Ra z (Wn ?_))))))))
 obtain rfl := som hm
 exact Wr (ret1 hr z ⟨h11, z, (iS _ _)⟩)
def Q_impl_InRange (w0 : World) (B : Nat) (r : Bool) (v : Value) (w' : World) : Prop := Below w0.heap.size w0 w' ∧ (fun r1 => (vB r1) = v) r
theorem W_impl_InRange {x1 : Int} {x2 : Int} {x3 : Int} {res : Bool} (hm : M_impl_InRange x1 x2 x3 = some res) (hBw : B ≤ w0.heap.size) (p1_0 : inI x1) (p2_0 : inI x2) (p3_0 : inI x3) : CallsR prog 102 [(vI x1), (vI x2), (vI x3)] w0 (Q_impl_InRange w0 B res) := by
 unfold M_impl_InRange at hm
 obtain ⟨fn, hf, hb, hN, hr⟩ := fnE func102
 refine goW hf (hb.trans z) (hN.trans z) (lb z) (Ws (Ra z (Wn (Wq ?_))))
 obtain ⟨u13, hu12, hm14⟩ := bdS hm
 refine WC_cut (fun a w => ∃ (x11 : Bool), x11 = u13 ∧ Sat 15 [(6, (vB x11))] a ∧ Below w0.heap.size w0 w) ?_ ?_
 ·refine Wg (Rm z (Rm z (R z (rd_leq z z) (Rm z ?_))))
  rcases bs (decide (x2 ≤ x1)) with hc10 | hc10
  ·exact Rh z hc10 (mv z) (Rh z hc10 (mv z) (Rh z hc10 (rd_leq z z) (R z (pT z hc10 z) (Ra z (Wl (fun _ q => ⟨decide (x1 ≤ x3), som (ifT hu12 hc10), (q.k (s1 z)), (br w0)⟩))))))
  iterate 3 refine Nh z hc10 ?_
  exact R z (pF z hc10 z) (Ra z (Wl (fun _ q => ⟨false, som (ifF hu12 hc10), (q.k (s1 z)), (br w0)⟩)))
 rintro a15 w17 ⟨x11, rfl, hS18, s16⟩
 revert a15
 refine Wo ?_
 obtain rfl := som hm14
 exact Wr (ret1 hr z ⟨s16, z⟩)
def Q_impl_hasRule (w0 : World) (B : Nat) (r : Bool) (v : Value) (w' : World) : Prop := Below w0.heap.size w0 w' ∧ (fun r1 => (vB r1) = v) r
theorem W_impl_hasRule {x1 : Desc} {x2 : Int} {res : Bool} (hm : M_impl_hasRule x1 x2 = some res) (hBw : B ≤ w0.heap.size) (p1_0 : repS w0 B (.slice pa1_0 pn1_0 pc1_0) x1.rules) (p2_0 : inI x2) : CallsR prog 78 [(.agg #[(.slice pa1_0 pn1_0 pc1_0)]), (vI x2)] w0 (Q_impl_hasRule w0 B res) := by
 unfold M_impl_hasRule at hm
 obtain ⟨fn, hf, hb, hN, hr⟩ := fnE func78
 refine goW hf (hb.trans z) (hN.trans z) (lb z) (Ws (E z (fb z) ?_))
 rintro _ w11 ⟨rfl, h13⟩
 have h14 := h13.below
 have h16 : Blk w11 w0.heap.size [(.slice pa1_0 pn1_0 pc1_0)] := h13.blk
 refine Ra z (Wn (Wq ?_))
 obtain ⟨u17, hu15, hm18⟩ := bdS hm
 refine WC_cut (fun a w => ∃ (x12 : Bool), x12 = u17 ∧ Sat 14 [(4, (vB x12))] a ∧ Below w11.heap.size w11 w) ?_ ?_
 ·refine Wg (Rm z (R z (rd_geq z z) (Rm z ?_)))
  rcases bs (decide (0 ≤ x2)) with hc10 | hc10
  ·exact Rh z hc10 (mv z) (Rh z hc10 (fd f_34_0 z) (Rh z hc10 (l1 g_32 z fid (h16.at z)) (Rh z hc10 (lnR d_32 z (p1_0.ext h14)) (Rh z hc10 (lss z z) (R z (pT z hc10 z) (Ra z (Wl (fun _ q => ⟨decide (x2 < (x1.rules.length : Int)), som (ifT hu15 hc10), (q.k (s1 z)), (br w11)⟩))))))))
  iterate 5 refine Nh z hc10 ?_
  exact R z (pF z hc10 z) (Ra z (Wl (fun _ q => ⟨false, som (ifF hu15 hc10), (q.k (s1 z)), (br w11)⟩)))
 rintro a19 w1b ⟨x12, rfl, hS1c, s1a⟩
 revert a19
 refine Wo ?_
 obtain rfl := som hm18
 exact Wr (ret1 hr z ⟨(bup h14 s1a), z⟩)
def Q_impl_IsName (w0 : World) (B : Nat) (r : Bool) (v : Value) (w' : World) : Prop := Below w0.heap.size w0 w' ∧ (fun r1 => (vB r1) = v) r
theorem W_impl_IsName {x1 : Str} {res : Bool} (hm : M_impl_IsName n x1 = some res) (hBw : B ≤ w0.heap.size) (p1_0 : x1.b.length ≤ LEN) : CallsR prog 112 [(Str.v x1)] w0 (Q_impl_IsName w0 B res) := by
 unfold M_impl_IsName at hm
 obtain ⟨fn, hf, hb, hN, hr⟩ := fnE func112
 refine goW hf (hb.trans z) (hN.trans z) (lb z) (Ws (Ra z (Wn (Wq (Wq ?_)))))
 obtain ⟨u22, hu1o, hm1p⟩ := bdS hm
 refine WC_cut (fun a w => ∃ (x1g : Bool), x1g = u22 ∧ Sat 43 [(0, (Str.v x1)), (14, (vB x1g))] a ∧ Below w0.heap.size w0 w) ?_ ?_
 ·refine Wg (Rm z (R z (lnT d_9 z) (R z (lss z z) (Rm z ?_))))
  rcases bs (decide ((x1.b.length : Int) < 1)) with hc14 | hc14
  ·iterate 3 refine Nh z hc14 ?_
   exact R z (pT z hc14 z) (Wl (fun _ q => ⟨true, som (ifT hu1o hc14), (q.k (s2 z z)), (br w0)⟩))
  exact Rh z hc14 (mv z) (Rh z hc14 (lnT d_9 z) (Rh z hc14 (rd_gtr z z) (R z (pF z hc14 z) (Wl (fun _ q => ⟨decide (12 < (x1.b.length : Int)), som (ifF hu1o hc14), (q.k (s2 z z)), (br w0)⟩)))))
 rintro a23 w10 ⟨x1g, rfl, hS2u, s19⟩
 revert a23
 refine Wo (Wc z (fun hc1h => ?_) (fun hc1h => ?_))
 ·refine Ws (Ra z (Wn ?_))
  obtain rfl := som (ifT hm1p hc1h)
  exact Wr (ret1 hr z ⟨s19, z⟩)
 refine Wk (Wq (Ws (Rm z (E z (ef_range d_9 z) ?_))))
 rintro _ w13 ⟨rfl, s1q, h24⟩
 refine Wn ?_
 obtain ⟨u2v, hu25, hm1r⟩ := bdS (ifF hm1p hc1h)
 refine WC_iter (σ := Nat) (ρ := Bool) (fun (x11 : Nat) a w => Sat 43 [(16, (.pointer (some ⟨w10.heap.size, 0, none⟩)))] a ∧ Chg (· ∈ [w10.heap.size]) w13 w ∧ IterAt w w10.heap.size x1 x11) (fun (x11 : Nat) a w => Sat 43 [] a ∧ Chg (· ∈ [w10.heap.size]) w13 w ∧ IterAt w w10.heap.size x1 x11) (fun r ex a w => ex = .ret ∧ RetPost prog fn (Q_impl_IsName w0 B r) a w) hu25 ?_ ?_ ?_ ?_
 ·exact fun _ q => ⟨(q.k (s1 z)), (cr [w10.heap.size] w13), h24⟩
 ·rintro x11 a2w w1s o2x ⟨hS26, s1i, h1e⟩ hm1t
  refine Wu (e := [(16, (.pointer (some ⟨w10.heap.size, 0, none⟩)))]) (N := 43) ?_ hS26
  refine Ws ?_
  rcases bs (decide (x11 < x1.b.length)) with hc1a | hc1a
  ·refine E z (ef_nextT z h1e (of_decide_eq_true hc1a)) ?_
   rintro _ w1b ⟨rfl, h27, s1u⟩
   refine R z (ext_ z z) (Wn (Wq (Wc z (fun _ => ?_) (fun hc => (bcon z hc).elim))))
   refine Wk (WC_block (Ws (R z (ext_ z z) (R z (ext_ z z) (Ra z (Ra z (Wn (Wq ?_))))))))
   obtain ⟨u28, hu1v, hm29⟩ := bdS (ifT hm1t hc1a)
   refine WC_cut (fun a w => ∃ (x1c : Bool), x1c = u28 ∧ Sat 43 [(3, (vI (x11 : Int))), (4, (.int .i32 ((dec x1 x11).1))), (5, (vB x1c)), (16, (.pointer (some ⟨w10.heap.size, 0, none⟩)))] a ∧ Below w1b.heap.size w1b w) ?_ ?_
   ·refine Wg (Rm z (R z (rd_geq z z) (Rm z ?_)))
    rcases bs (decide (97 ≤ ((dec x1 x11).1))) with hc15 | hc15
    ·exact Rh z hc15 (mv z) (Rh z hc15 (rd_leq z z) (R z (pT z hc15 z) (Ra z (Wl (fun _ q => ⟨decide (((dec x1 x11).1) ≤ 122), som (ifT hu1v hc15), (q.k (s4 z z z z)), (br w1b)⟩)))))
    exact Nh z hc15 (Nh z hc15 (R z (pF z hc15 z) (Ra z (Wl (fun _ q => ⟨false, som (ifF hu1v hc15), (q.k (s4 z z z z)), (br w1b)⟩)))))
   rintro a2a w1d ⟨x1c, rfl, hS2y, s1j⟩
   revert a2a
   refine Wo (Wq ?_)
   obtain ⟨u2b, hu1w, hm2c⟩ := bdS hm29
   refine WC_cut (fun a w => ∃ (x1f : Bool), x1f = u2b ∧ Sat 43 [(3, (vI (x11 : Int))), (5, (vB x1c)), (6, (vB x1f)), (16, (.pointer (some ⟨w10.heap.size, 0, none⟩)))] a ∧ Below w1d.heap.size w1d w) ?_ ?_
   ·refine Wg (Rm z (R z (rd_geq z z) (Rm z ?_)))
    rcases bs (decide (48 ≤ ((dec x1 x11).1))) with hc16 | hc16
    ·exact Rh z hc16 (mv z) (Rh z hc16 (rd_leq z z) (R z (pT z hc16 z) (Ra z (Wl (fun _ q => ⟨decide (((dec x1 x11).1) ≤ 57), som (ifT hu1w hc16), (q.k (s4 z z z z)), (br w1d)⟩)))))
    exact Nh z hc16 (Nh z hc16 (R z (pF z hc16 z) (Ra z (Wl (fun _ q => ⟨false, som (ifF hu1w hc16), (q.k (s4 z z z z)), (br w1d)⟩)))))
   rintro a2d w18 ⟨x1f, rfl, hS2z, s1k⟩
   revert a2d
   refine Wo (Wq ?_)
   obtain ⟨u2e, hu1x, hm1y⟩ := bdS hm2c
   refine WC_cut (fun a w => ∃ (x1l : Bool), x1l = u2e ∧ Sat 43 [(16, (.pointer (some ⟨w10.heap.size, 0, none⟩))), (42, (vB x1l))] a ∧ Below w18.heap.size w18 w) ?_ ?_
   ·refine Wg (Rm z (R z (not_ z) (Rm z ?_)))
    rcases bs (!x1c) with hc12 | hc12
    ·have hm1z := ifT hu1x hc12
     refine Rh z hc12 (mv z) (Rh z hc12 (not_ z) (Rh z hc12 (mv z) ?_))
     rcases bs (!x1f) with hc17 | hc17
     ·exact Nh z hc17 (Nh z hc17 (Rh z hc12 (pT z hc17 z) (R z (pT z hc12 z) (Wl (fun _ q => ⟨true, som (ifT hm1z hc17), (q.k (s2 z z)), (br w18)⟩)))))
     exact Rh z hc17 (mv z) (Rh z hc17 (eql z z) (Rh z hc12 (pF z hc17 z) (R z (pT z hc12 z) (Wl (fun _ q => ⟨(x11 : Int) == 0, som (ifF hm1z hc17), (q.k (s2 z z)), (br w18)⟩)))))
    iterate 3 refine Nh z hc12 ?_
    exact Nv z (Nv z (Nh z hc12 (R z (pF z hc12 z) (Wl (fun _ q => ⟨false, som (ifF hu1x hc12), (q.k (s2 z z)), (br w18)⟩)))))
   rintro a2f w2g ⟨x1l, rfl, hS30, s1m⟩
   revert a2f
   refine Wo (Wc z (fun hc1n => ?_) (fun hc1n => ?_))
   ·refine Ws (Ra z (Wn ?_))
    have h20 := mem1le s19.size
    exact Wr (rtO (QO_retL (som (ifT hm1y hc1n)).symm (ret1 hr z ⟨(bup (bup (bup (bM (bM (bup s19 s1q) s1i h20) s1u h20) s1j) s1k) s1m), z⟩)))
   refine WC_skip ?_
   have h2h : Chg (· ∈ [w10.heap.size]) w13 w1s := cM (cr [w10.heap.size] w13) s1i (io sr)
   have h2i : Chg (· ∈ [w10.heap.size]) w13 w1b := cM h2h s1u (io sr)
   have h2j : Chg (· ∈ [w10.heap.size]) w13 w1d := cext h2i s1j
   have h2k : Chg (· ∈ [w10.heap.size]) w13 w18 := cext h2j s1k
   have h2l : Chg (· ∈ [w10.heap.size]) w13 w2g := cext h2k s1m
   exact fun _ q => ⟨x11 + (dec x1 x11).2, (som (ifF hm1y hc1n)).symm, ⟨(q.k (s1 z)), h2l, (((h27.ext s1j).ext s1k).ext s1m)⟩⟩
  refine E z (ef_nextF z h1e (of_decide_eq_false hc1a)) ?_
  rintro _ w2m ⟨rfl, s21⟩
  refine R z (ext_ z z) (Wn (Wq (Wc z (fun hc => (bcon hc z).elim) (fun _ => ?_))))
  have h2n : Chg (· ∈ [w10.heap.size]) w13 w1s := cM (cr [w10.heap.size] w13) s1i (io sr)
  have h2o : Chg (· ∈ [w10.heap.size]) w13 w2m := cext h2n s21
  exact WC_exit (fun a' ha' => QO_brk (som (ifF hm1t hc1a)).symm ⟨(Sat.weaken ha' sn), h2o, (h1e.ext s21)⟩)
 ·rintro x11 a2p w31 rfl ⟨hS32, s2q, h1e⟩
  have hm2r := elL hm1r
  revert a2p
  refine Wo (Ws (Ra z (Wn ?_)))
  obtain rfl := som hm2r
  exact Wr (ret1 hr z ⟨(bM (bup s19 s1q) s2q (mem1le s19.size)), z⟩)
 rintro r33 ex34 a35 w36 rfl ⟨rfl, hq2s⟩
 have hm2t := elR hm1r
 obtain rfl := som hm2t
 exact ⟨hq2s, z⟩
def Q_impl_plainRule (w0 : World) (B : Nat) (r : Bool) (v : Value) (w' : World) : Prop := Below w0.heap.size w0 w' ∧ (fun r1 => (vB r1) = v) r
theorem W_impl_plainRule {x1 : Rule} {x2 : Bool} {x3 : Bool} {x4 : Bool} {x5 : Bool} {x6 : Int} {res : Bool} (hm : M_impl_plainRule x1 x2 x3 x4 x5 x6 = some res) (hBw : B ≤ w0.heap.size) (p1_0 : x1.name.b.length ≤ LEN) (p1_1 : inI x1.kind) (p1_2 : inI x1.size) (p1_4 : repS w0 B (.slice pa1_4 pn1_4 pc1_4) x1.bytes) (p1_5 : repS w0 B (.slice pa1_5 pn1_5 pc1_5) x1.names) (p1_6 : repS w0 B (.slice pa1_6 pn1_6 pc1_6) x1.tags) (p1_7 : repS w0 B (.slice pa1_7 pn1_7 pc1_7) x1.kids) (p6_0 : inI x6) : CallsR prog 117 [(.agg #[(Str.v x1.name), (vI x1.kind), (vI x1.size), (vB x1.little), (.slice pa1_4 pn1_4 pc1_4), (.slice pa1_5 pn1_5 pc1_5), (.slice pa1_6 pn1_6 pc1_6), (.slice pa1_7 pn1_7 pc1_7)]), (vB x2), (vB x3), (vB x4), (vB x5), (vI x6)] w0 (Q_impl_plainRule w0 B res) := by
 unfold M_impl_plainRule at hm
 obtain ⟨fn, hf, hb, hN, hr⟩ := fnE func117
 refine goW hf (hb.trans z) (hN.trans z) (lb z) (Ws (E z (fb z) ?_))
 rintro _ w10 ⟨rfl, h2e⟩
 have h11 := h2e.below
 have h12 : Blk w10 w0.heap.size [(Str.v x1.name), (vI x1.kind), (vI x1.size), (vB x1.little), (.slice pa1_4 pn1_4 pc1_4), (.slice pa1_5 pn1_5 pc1_5), (.slice pa1_6 pn1_6 pc1_6), (.slice pa1_7 pn1_7 pc1_7)] := h2e.blk
 refine Ra z (Wn (Wq ?_))
 obtain ⟨u3p, hu2f, hm3q⟩ := bdS hm
 refine WC_cut (fun a w => ∃ (x2d : Bool), x2d = u3p ∧ Sat 57 [(12, (vB x2d))] a ∧ Below w10.heap.size w10 w) ?_ ?_
 ·refine Wg (Rm z (Rm z ?_))
  rcases bs x2 with hc2c | hc2c
  ·have hm2g := ifT hu2f hc2c
   iterate 3 refine Nh z hc2c ?_
   refine R z (pT z hc2c z) (Rm z (Rh z z (mv z) (Rh z z (mv z) ?_)))
   rcases bs x3 with hc1y | hc1y
   ·have hm2h := ifT hm2g hc1y
    iterate 4 refine Nh z hc1y ?_
    refine Rh z z (pT z hc1y z) (R z (pT z z z) (Rm z (Rh z z (mv z) (Rh z z (mv z) ?_))))
    rcases bs x4 with hc1z | hc1z
    ·have hm2i := ifT hm2h hc1z
     iterate 4 refine Nh z hc1z ?_
     refine Rh z z (pT z hc1z z) (R z (pT z z z) (Rm z (Rh z z (mv z) (Rh z z (mv z) ?_))))
     rcases bs x5 with hc20 | hc20
     ·have hm2j := ifT hm2i hc20
      iterate 4 refine Nh z hc20 ?_
      refine Rh z z (pT z hc20 z) (R z (pT z z z) (Rm z (Rh z z (mv z) (Rh z z (lss z z) (Rh z z (mv z) ?_)))))
      rcases bs (decide (x6 < 0)) with hc1i | hc1i
      ·iterate 5 refine Nh z hc1i ?_
       exact Rh z z (pT z hc1i z) (R z (pT z z z) (Ra z (Wl (fun _ q => ⟨true, som (ifT hm2j hc1i), (q.k (s1 z)), (br w10)⟩))))
      exact Rh z hc1i (fd f_70_7 z) (Rh z hc1i (l1 g_63 z fid (h12.at z)) (Rh z hc1i (lnR d_63 z (p1_7.ext h11)) (Rh z hc1i (mv z) (Rh z hc1i (eql z z) (Rh z z (pF z hc1i z) (R z (pT z z z) (Ra z (Wl (fun _ q => ⟨(x1.kids.length : Int) == x6, som (ifF hm2j hc1i), (q.k (s1 z)), (br w10)⟩)))))))))
     have hm2k := ifF hm2i hc20
     refine Rh z hc20 (fd f_70_6 z) (Rh z hc20 (l1 g_63 z fid (h12.at z)) (Rh z hc20 (lnR d_63 z (p1_6.ext h11)) (Rh z hc20 (eql z z) (Rh z z (pF z hc20 z) (R z (pT z z z) (Rm z ?_))))))
     rcases bs ((x1.tags.length : Int) == 0) with hc13 | hc13
     ·have hm2l := ifT hm2k hc13
      refine Rh z hc13 (mv z) (Rh z hc13 (lss z z) (Rh z hc13 (mv z) ?_))
      rcases bs (decide (x6 < 0)) with hc1j | hc1j
      ·iterate 5 refine Nh z hc1j ?_
       exact Rh z hc13 (pT z hc1j z) (R z (pT z hc13 z) (Ra z (Wl (fun _ q => ⟨true, som (ifT hm2l hc1j), (q.k (s1 z)), (br w10)⟩))))
      exact Rh z hc1j (fd f_70_7 z) (Rh z hc1j (l1 g_63 z fid (h12.at z)) (Rh z hc1j (lnR d_63 z (p1_7.ext h11)) (Rh z hc1j (mv z) (Rh z hc1j (eql z z) (Rh z hc13 (pF z hc1j z) (R z (pT z hc13 z) (Ra z (Wl (fun _ q => ⟨(x1.kids.length : Int) == x6, som (ifF hm2l hc1j), (q.k (s1 z)), (br w10)⟩)))))))))
     iterate 3 refine Nh z hc13 ?_
     exact Nv z (Nv z (Nv z (Nv z (Nv z (Nh z hc13 (R z (pF z hc13 z) (Ra z (Wl (fun _ q => ⟨false, som (ifF hm2k hc13), (q.k (s1 z)), (br w10)⟩)))))))))
    have hm2m := ifF hm2h hc1z
    refine Rh z hc1z (fd f_70_5 z) (Rh z hc1z (l1 g_62 z fid (h12.at z)) (Rh z hc1z (lnR d_62 z (p1_5.ext h11)) (Rh z hc1z (eql z z) (Rh z z (pF z hc1z z) (R z (pT z z z) (Rm z ?_))))))
    rcases bs ((x1.names.length : Int) == 0) with hc14 | hc14
    ·have hm2n := ifT hm2m hc14
     refine Rh z hc14 (mv z) (Rh z hc14 (mv z) ?_)
     rcases bs x5 with hc21 | hc21
     ·have hm2o := ifT hm2n hc21
      iterate 4 refine Nh z hc21 ?_
      refine Rh z hc14 (pT z hc21 z) (R z (pT z hc14 z) (Rm z (Rh z z (mv z) (Rh z z (lss z z) (Rh z z (mv z) ?_)))))
      rcases bs (decide (x6 < 0)) with hc1k | hc1k
      ·iterate 5 refine Nh z hc1k ?_
       exact Rh z z (pT z hc1k z) (R z (pT z z z) (Ra z (Wl (fun _ q => ⟨true, som (ifT hm2o hc1k), (q.k (s1 z)), (br w10)⟩))))
      exact Rh z hc1k (fd f_70_7 z) (Rh z hc1k (l1 g_63 z fid (h12.at z)) (Rh z hc1k (lnR d_63 z (p1_7.ext h11)) (Rh z hc1k (mv z) (Rh z hc1k (eql z z) (Rh z z (pF z hc1k z) (R z (pT z z z) (Ra z (Wl (fun _ q => ⟨(x1.kids.length : Int) == x6, som (ifF hm2o hc1k), (q.k (s1 z)), (br w10)⟩)))))))))
     have hm2p := ifF hm2n hc21
     refine Rh z hc21 (fd f_70_6 z) (Rh z hc21 (l1 g_63 z fid (h12.at z)) (Rh z hc21 (lnR d_63 z (p1_6.ext h11)) (Rh z hc21 (eql z z) (Rh z hc14 (pF z hc21 z) (R z (pT z hc14 z) (Rm z ?_))))))
     rcases bs ((x1.tags.length : Int) == 0) with hc15 | hc15
     ·have hm2q := ifT hm2p hc15
      refine Rh z hc15 (mv z) (Rh z hc15 (lss z z) (Rh z hc15 (mv z) ?_))
      rcases bs (decide (x6 < 0)) with hc1l | hc1l
      ·iterate 5 refine Nh z hc1l ?_
       exact Rh z hc15 (pT z hc1l z) (R z (pT z hc15 z) (Ra z (Wl (fun _ q => ⟨true, som (ifT hm2q hc1l), (q.k (s1 z)), (br w10)⟩))))
      exact Rh z hc1l (fd f_70_7 z) (Rh z hc1l (l1 g_63 z fid (h12.at z)) (Rh z hc1l (lnR d_63 z (p1_7.ext h11)) (Rh z hc1l (mv z) (Rh z hc1l (eql z z) (Rh z hc15 (pF z hc1l z) (R z (pT z hc15 z) (Ra z (Wl (fun _ q => ⟨(x1.kids.length : Int) == x6, som (ifF hm2q hc1l), (q.k (s1 z)), (br w10)⟩)))))))))
     iterate 3 refine Nh z hc15 ?_
     exact Nv z (Nv z (Nv z (Nv z (Nv z (Nh z hc15 (R z (pF z hc15 z) (Ra z (Wl (fun _ q => ⟨false, som (ifF hm2p hc15), (q.k (s1 z)), (br w10)⟩)))))))))
    exact Nh z hc14 (Nh z hc14 (Nv z (Nv z (Nv z (Nv z (Nh z hc14 (R z (pF z hc14 z) (Rm z (Nh z z (Nh z z (Nh z z (Nv z (Nv z (Nv z (Nv z (Nv z (Nh z z (R z (pF z z z) (Ra z (Wl (fun _ q => ⟨false, som (ifF hm2m hc14), (q.k (s1 z)), (br w10)⟩)))))))))))))))))))))
   have hm2r := ifF hm2g hc1y
   refine Rh z hc1y (fd f_70_4 z) (Rh z hc1y (l1 g_26 z fid (h12.at z)) (Rh z hc1y (lnR d_26 z (p1_4.ext h11)) (Rh z hc1y (eql z z) (Rh z z (pF z hc1y z) (R z (pT z z z) (Rm z ?_))))))
   rcases bs ((x1.bytes.length : Int) == 0) with hc16 | hc16
   ·have hm2s := ifT hm2r hc16
    refine Rh z hc16 (mv z) (Rh z hc16 (mv z) ?_)
    rcases bs x4 with hc22 | hc22
    ·have hm2t := ifT hm2s hc22
     iterate 4 refine Nh z hc22 ?_
     refine Rh z hc16 (pT z hc22 z) (R z (pT z hc16 z) (Rm z (Rh z z (mv z) (Rh z z (mv z) ?_))))
     rcases bs x5 with hc23 | hc23
     ·have hm2u := ifT hm2t hc23
      iterate 4 refine Nh z hc23 ?_
      refine Rh z z (pT z hc23 z) (R z (pT z z z) (Rm z (Rh z z (mv z) (Rh z z (lss z z) (Rh z z (mv z) ?_)))))
      rcases bs (decide (x6 < 0)) with hc1m | hc1m
      ·iterate 5 refine Nh z hc1m ?_
       exact Rh z z (pT z hc1m z) (R z (pT z z z) (Ra z (Wl (fun _ q => ⟨true, som (ifT hm2u hc1m), (q.k (s1 z)), (br w10)⟩))))
      exact Rh z hc1m (fd f_70_7 z) (Rh z hc1m (l1 g_63 z fid (h12.at z)) (Rh z hc1m (lnR d_63 z (p1_7.ext h11)) (Rh z hc1m (mv z) (Rh z hc1m (eql z z) (Rh z z (pF z hc1m z) (R z (pT z z z) (Ra z (Wl (fun _ q => ⟨(x1.kids.length : Int) == x6, som (ifF hm2u hc1m), (q.k (s1 z)), (br w10)⟩)))))))))
     have hm2v := ifF hm2t hc23
     refine Rh z hc23 (fd f_70_6 z) (Rh z hc23 (l1 g_63 z fid (h12.at z)) (Rh z hc23 (lnR d_63 z (p1_6.ext h11)) (Rh z hc23 (eql z z) (Rh z z (pF z hc23 z) (R z (pT z z z) (Rm z ?_))))))
     rcases bs ((x1.tags.length : Int) == 0) with hc17 | hc17
     ·have hm2w := ifT hm2v hc17
      refine Rh z hc17 (mv z) (Rh z hc17 (lss z z) (Rh z hc17 (mv z) ?_))
      rcases bs (decide (x6 < 0)) with hc1n | hc1n
      ·iterate 5 refine Nh z hc1n ?_
       exact Rh z hc17 (pT z hc1n z) (R z (pT z hc17 z) (Ra z (Wl (fun _ q => ⟨true, som (ifT hm2w hc1n), (q.k (s1 z)), (br w10)⟩))))
      exact Rh z hc1n (fd f_70_7 z) (Rh z hc1n (l1 g_63 z fid (h12.at z)) (Rh z hc1n (lnR d_63 z (p1_7.ext h11)) (Rh z hc1n (mv z) (Rh z hc1n (eql z z) (Rh z hc17 (pF z hc1n z) (R z (pT z hc17 z) (Ra z (Wl (fun _ q => ⟨(x1.kids.length : Int) == x6, som (ifF hm2w hc1n), (q.k (s1 z)), (br w10)⟩)))))))))
     iterate 3 refine Nh z hc17 ?_
     exact Nv z (Nv z (Nv z (Nv z (Nv z (Nh z hc17 (R z (pF z hc17 z) (Ra z (Wl (fun _ q => ⟨false, som (ifF hm2v hc17), (q.k (s1 z)), (br w10)⟩)))))))))
    have hm2x := ifF hm2s hc22
    refine Rh z hc22 (fd f_70_5 z) (Rh z hc22 (l1 g_62 z fid (h12.at z)) (Rh z hc22 (lnR d_62 z (p1_5.ext h11)) (Rh z hc22 (eql z z) (Rh z hc16 (pF z hc22 z) (R z (pT z hc16 z) (Rm z ?_))))))
    rcases bs ((x1.names.length : Int) == 0) with hc18 | hc18
    ·have hm2y := ifT hm2x hc18
     refine Rh z hc18 (mv z) (Rh z hc18 (mv z) ?_)
     rcases bs x5 with hc24 | hc24
     ·have hm2z := ifT hm2y hc24
      iterate 4 refine Nh z hc24 ?_
      refine Rh z hc18 (pT z hc24 z) (R z (pT z hc18 z) (Rm z (Rh z z (mv z) (Rh z z (lss z z) (Rh z z (mv z) ?_)))))
      rcases bs (decide (x6 < 0)) with hc1o | hc1o
      ·iterate 5 refine Nh z hc1o ?_
       exact Rh z z (pT z hc1o z) (R z (pT z z z) (Ra z (Wl (fun _ q => ⟨true, som (ifT hm2z hc1o), (q.k (s1 z)), (br w10)⟩))))
      exact Rh z hc1o (fd f_70_7 z) (Rh z hc1o (l1 g_63 z fid (h12.at z)) (Rh z hc1o (lnR d_63 z (p1_7.ext h11)) (Rh z hc1o (mv z) (Rh z hc1o (eql z z) (Rh z z (pF z hc1o z) (R z (pT z z z) (Ra z (Wl (fun _ q => ⟨(x1.kids.length : Int) == x6, som (ifF hm2z hc1o), (q.k (s1 z)), (br w10)⟩)))))))))
     have hm30 := ifF hm2y hc24
     refine Rh z hc24 (fd f_70_6 z) (Rh z hc24 (l1 g_63 z fid (h12.at z)) (Rh z hc24 (lnR d_63 z (p1_6.ext h11)) (Rh z hc24 (eql z z) (Rh z hc18 (pF z hc24 z) (R z (pT z hc18 z) (Rm z ?_))))))
     rcases bs ((x1.tags.length : Int) == 0) with hc19 | hc19
     ·have hm31 := ifT hm30 hc19
      refine Rh z hc19 (mv z) (Rh z hc19 (lss z z) (Rh z hc19 (mv z) ?_))
      rcases bs (decide (x6 < 0)) with hc1p | hc1p
      ·iterate 5 refine Nh z hc1p ?_
       exact Rh z hc19 (pT z hc1p z) (R z (pT z hc19 z) (Ra z (Wl (fun _ q => ⟨true, som (ifT hm31 hc1p), (q.k (s1 z)), (br w10)⟩))))
      exact Rh z hc1p (fd f_70_7 z) (Rh z hc1p (l1 g_63 z fid (h12.at z)) (Rh z hc1p (lnR d_63 z (p1_7.ext h11)) (Rh z hc1p (mv z) (Rh z hc1p (eql z z) (Rh z hc19 (pF z hc1p z) (R z (pT z hc19 z) (Ra z (Wl (fun _ q => ⟨(x1.kids.length : Int) == x6, som (ifF hm31 hc1p), (q.k (s1 z)), (br w10)⟩)))))))))
     iterate 3 refine Nh z hc19 ?_
     exact Nv z (Nv z (Nv z (Nv z (Nv z (Nh z hc19 (R z (pF z hc19 z) (Ra z (Wl (fun _ q => ⟨false, som (ifF hm30 hc19), (q.k (s1 z)), (br w10)⟩)))))))))
    exact Nh z hc18 (Nh z hc18 (Nv z (Nv z (Nv z (Nv z (Nh z hc18 (R z (pF z hc18 z) (Rm z (Nh z z (Nh z z (Nh z z (Nv z (Nv z (Nv z (Nv z (Nv z (Nh z z (R z (pF z z z) (Ra z (Wl (fun _ q => ⟨false, som (ifF hm2x hc18), (q.k (s1 z)), (br w10)⟩)))))))))))))))))))))
   refine Nh z hc16 (Nh z hc16 (Nv z (Nv z (Nv z (Nv z (Nh z hc16 (R z (pF z hc16 z) (Rm z (Nh z z (Nh z z (Nv z (Nv z (Nv z (Nv z (Nh z z (R z (pF z z z) (Rm z (Nh z z (Nh z z (Nh z z (Nv z (Nv z (Nv z (Nv z ?_))))))))))))))))))))))))
   exact Nv z (Nh z z (R z (pF z z z) (Ra z (Wl (fun _ q => ⟨false, som (ifF hm2r hc16), (q.k (s1 z)), (br w10)⟩)))))
  have hm32 := ifF hu2f hc2c
  refine Rh z hc2c (fd f_70_2 z) (Rh z hc2c (l1 g_3 z fid (h12.at z)) (Rh z hc2c (eql z z) (R z (pF z hc2c z) (Rm z ?_))))
  rcases bs (x1.size == 0) with hc1a | hc1a
  ·have hm33 := ifT hm32 hc1a
   refine Rh z hc1a (mv z) (Rh z hc1a (mv z) ?_)
   rcases bs x3 with hc25 | hc25
   ·have hm34 := ifT hm33 hc25
    iterate 4 refine Nh z hc25 ?_
    refine Rh z hc1a (pT z hc25 z) (R z (pT z hc1a z) (Rm z (Rh z z (mv z) (Rh z z (mv z) ?_))))
    rcases bs x4 with hc26 | hc26
    ·have hm35 := ifT hm34 hc26
     iterate 4 refine Nh z hc26 ?_
     refine Rh z z (pT z hc26 z) (R z (pT z z z) (Rm z (Rh z z (mv z) (Rh z z (mv z) ?_))))
     rcases bs x5 with hc27 | hc27
     ·have hm36 := ifT hm35 hc27
      iterate 4 refine Nh z hc27 ?_
      refine Rh z z (pT z hc27 z) (R z (pT z z z) (Rm z (Rh z z (mv z) (Rh z z (lss z z) (Rh z z (mv z) ?_)))))
      rcases bs (decide (x6 < 0)) with hc1q | hc1q
      ·iterate 5 refine Nh z hc1q ?_
       exact Rh z z (pT z hc1q z) (R z (pT z z z) (Ra z (Wl (fun _ q => ⟨true, som (ifT hm36 hc1q), (q.k (s1 z)), (br w10)⟩))))
      exact Rh z hc1q (fd f_70_7 z) (Rh z hc1q (l1 g_63 z fid (h12.at z)) (Rh z hc1q (lnR d_63 z (p1_7.ext h11)) (Rh z hc1q (mv z) (Rh z hc1q (eql z z) (Rh z z (pF z hc1q z) (R z (pT z z z) (Ra z (Wl (fun _ q => ⟨(x1.kids.length : Int) == x6, som (ifF hm36 hc1q), (q.k (s1 z)), (br w10)⟩)))))))))
     have hm37 := ifF hm35 hc27
     refine Rh z hc27 (fd f_70_6 z) (Rh z hc27 (l1 g_63 z fid (h12.at z)) (Rh z hc27 (lnR d_63 z (p1_6.ext h11)) (Rh z hc27 (eql z z) (Rh z z (pF z hc27 z) (R z (pT z z z) (Rm z ?_))))))
     rcases bs ((x1.tags.length : Int) == 0) with hc1b | hc1b
     ·have hm38 := ifT hm37 hc1b
      refine Rh z hc1b (mv z) (Rh z hc1b (lss z z) (Rh z hc1b (mv z) ?_))
      rcases bs (decide (x6 < 0)) with hc1r | hc1r
      ·iterate 5 refine Nh z hc1r ?_
       exact Rh z hc1b (pT z hc1r z) (R z (pT z hc1b z) (Ra z (Wl (fun _ q => ⟨true, som (ifT hm38 hc1r), (q.k (s1 z)), (br w10)⟩))))
      exact Rh z hc1r (fd f_70_7 z) (Rh z hc1r (l1 g_63 z fid (h12.at z)) (Rh z hc1r (lnR d_63 z (p1_7.ext h11)) (Rh z hc1r (mv z) (Rh z hc1r (eql z z) (Rh z hc1b (pF z hc1r z) (R z (pT z hc1b z) (Ra z (Wl (fun _ q => ⟨(x1.kids.length : Int) == x6, som (ifF hm38 hc1r), (q.k (s1 z)), (br w10)⟩)))))))))
     iterate 3 refine Nh z hc1b ?_
     exact Nv z (Nv z (Nv z (Nv z (Nv z (Nh z hc1b (R z (pF z hc1b z) (Ra z (Wl (fun _ q => ⟨false, som (ifF hm37 hc1b), (q.k (s1 z)), (br w10)⟩)))))))))
    have hm39 := ifF hm34 hc26
    refine Rh z hc26 (fd f_70_5 z) (Rh z hc26 (l1 g_62 z fid (h12.at z)) (Rh z hc26 (lnR d_62 z (p1_5.ext h11)) (Rh z hc26 (eql z z) (Rh z z (pF z hc26 z) (R z (pT z z z) (Rm z ?_))))))
    rcases bs ((x1.names.length : Int) == 0) with hc1c | hc1c
    ·have hm3a := ifT hm39 hc1c
     refine Rh z hc1c (mv z) (Rh z hc1c (mv z) ?_)
     rcases bs x5 with hc28 | hc28
     ·have hm3b := ifT hm3a hc28
      iterate 4 refine Nh z hc28 ?_
      refine Rh z hc1c (pT z hc28 z) (R z (pT z hc1c z) (Rm z (Rh z z (mv z) (Rh z z (lss z z) (Rh z z (mv z) ?_)))))
      rcases bs (decide (x6 < 0)) with hc1s | hc1s
      ·iterate 5 refine Nh z hc1s ?_
       exact Rh z z (pT z hc1s z) (R z (pT z z z) (Ra z (Wl (fun _ q => ⟨true, som (ifT hm3b hc1s), (q.k (s1 z)), (br w10)⟩))))
      exact Rh z hc1s (fd f_70_7 z) (Rh z hc1s (l1 g_63 z fid (h12.at z)) (Rh z hc1s (lnR d_63 z (p1_7.ext h11)) (Rh z hc1s (mv z) (Rh z hc1s (eql z z) (Rh z z (pF z hc1s z) (R z (pT z z z) (Ra z (Wl (fun _ q => ⟨(x1.kids.length : Int) == x6, som (ifF hm3b hc1s), (q.k (s1 z)), (br w10)⟩)))))))))
     have hm3c := ifF hm3a hc28
     refine Rh z hc28 (fd f_70_6 z) (Rh z hc28 (l1 g_63 z fid (h12.at z)) (Rh z hc28 (lnR d_63 z (p1_6.ext h11)) (Rh z hc28 (eql z z) (Rh z hc1c (pF z hc28 z) (R z (pT z hc1c z) (Rm z ?_))))))
     rcases bs ((x1.tags.length : Int) == 0) with hc1d | hc1d
     ·have hm3d := ifT hm3c hc1d
      refine Rh z hc1d (mv z) (Rh z hc1d (lss z z) (Rh z hc1d (mv z) ?_))
      rcases bs (decide (x6 < 0)) with hc1t | hc1t
      ·iterate 5 refine Nh z hc1t ?_
       exact Rh z hc1d (pT z hc1t z) (R z (pT z hc1d z) (Ra z (Wl (fun _ q => ⟨true, som (ifT hm3d hc1t), (q.k (s1 z)), (br w10)⟩))))
      exact Rh z hc1t (fd f_70_7 z) (Rh z hc1t (l1 g_63 z fid (h12.at z)) (Rh z hc1t (lnR d_63 z (p1_7.ext h11)) (Rh z hc1t (mv z) (Rh z hc1t (eql z z) (Rh z hc1d (pF z hc1t z) (R z (pT z hc1d z) (Ra z (Wl (fun _ q => ⟨(x1.kids.length : Int) == x6, som (ifF hm3d hc1t), (q.k (s1 z)), (br w10)⟩)))))))))
     iterate 3 refine Nh z hc1d ?_
     exact Nv z (Nv z (Nv z (Nv z (Nv z (Nh z hc1d (R z (pF z hc1d z) (Ra z (Wl (fun _ q => ⟨false, som (ifF hm3c hc1d), (q.k (s1 z)), (br w10)⟩)))))))))
    exact Nh z hc1c (Nh z hc1c (Nv z (Nv z (Nv z (Nv z (Nh z hc1c (R z (pF z hc1c z) (Rm z (Nh z z (Nh z z (Nh z z (Nv z (Nv z (Nv z (Nv z (Nv z (Nh z z (R z (pF z z z) (Ra z (Wl (fun _ q => ⟨false, som (ifF hm39 hc1c), (q.k (s1 z)), (br w10)⟩)))))))))))))))))))))
   have hm3e := ifF hm33 hc25
   refine Rh z hc25 (fd f_70_4 z) (Rh z hc25 (l1 g_26 z fid (h12.at z)) (Rh z hc25 (lnR d_26 z (p1_4.ext h11)) (Rh z hc25 (eql z z) (Rh z hc1a (pF z hc25 z) (R z (pT z hc1a z) (Rm z ?_))))))
   rcases bs ((x1.bytes.length : Int) == 0) with hc1e | hc1e
   ·have hm3f := ifT hm3e hc1e
    refine Rh z hc1e (mv z) (Rh z hc1e (mv z) ?_)
    rcases bs x4 with hc29 | hc29
    ·have hm3g := ifT hm3f hc29
     iterate 4 refine Nh z hc29 ?_
     refine Rh z hc1e (pT z hc29 z) (R z (pT z hc1e z) (Rm z (Rh z z (mv z) (Rh z z (mv z) ?_))))
     rcases bs x5 with hc2a | hc2a
     ·have hm3h := ifT hm3g hc2a
      iterate 4 refine Nh z hc2a ?_
      refine Rh z z (pT z hc2a z) (R z (pT z z z) (Rm z (Rh z z (mv z) (Rh z z (lss z z) (Rh z z (mv z) ?_)))))
      rcases bs (decide (x6 < 0)) with hc1u | hc1u
      ·iterate 5 refine Nh z hc1u ?_
       exact Rh z z (pT z hc1u z) (R z (pT z z z) (Ra z (Wl (fun _ q => ⟨true, som (ifT hm3h hc1u), (q.k (s1 z)), (br w10)⟩))))
      exact Rh z hc1u (fd f_70_7 z) (Rh z hc1u (l1 g_63 z fid (h12.at z)) (Rh z hc1u (lnR d_63 z (p1_7.ext h11)) (Rh z hc1u (mv z) (Rh z hc1u (eql z z) (Rh z z (pF z hc1u z) (R z (pT z z z) (Ra z (Wl (fun _ q => ⟨(x1.kids.length : Int) == x6, som (ifF hm3h hc1u), (q.k (s1 z)), (br w10)⟩)))))))))
     have hm3i := ifF hm3g hc2a
     refine Rh z hc2a (fd f_70_6 z) (Rh z hc2a (l1 g_63 z fid (h12.at z)) (Rh z hc2a (lnR d_63 z (p1_6.ext h11)) (Rh z hc2a (eql z z) (Rh z z (pF z hc2a z) (R z (pT z z z) (Rm z ?_))))))
     rcases bs ((x1.tags.length : Int) == 0) with hc1f | hc1f
     ·have hm3j := ifT hm3i hc1f
      refine Rh z hc1f (mv z) (Rh z hc1f (lss z z) (Rh z hc1f (mv z) ?_))
      rcases bs (decide (x6 < 0)) with hc1v | hc1v
      ·iterate 5 refine Nh z hc1v ?_
       exact Rh z hc1f (pT z hc1v z) (R z (pT z hc1f z) (Ra z (Wl (fun _ q => ⟨true, som (ifT hm3j hc1v), (q.k (s1 z)), (br w10)⟩))))
      exact Rh z hc1v (fd f_70_7 z) (Rh z hc1v (l1 g_63 z fid (h12.at z)) (Rh z hc1v (lnR d_63 z (p1_7.ext h11)) (Rh z hc1v (mv z) (Rh z hc1v (eql z z) (Rh z hc1f (pF z hc1v z) (R z (pT z hc1f z) (Ra z (Wl (fun _ q => ⟨(x1.kids.length : Int) == x6, som (ifF hm3j hc1v), (q.k (s1 z)), (br w10)⟩)))))))))
     iterate 3 refine Nh z hc1f ?_
     exact Nv z (Nv z (Nv z (Nv z (Nv z (Nh z hc1f (R z (pF z hc1f z) (Ra z (Wl (fun _ q => ⟨false, som (ifF hm3i hc1f), (q.k (s1 z)), (br w10)⟩)))))))))
    have hm3k := ifF hm3f hc29
    refine Rh z hc29 (fd f_70_5 z) (Rh z hc29 (l1 g_62 z fid (h12.at z)) (Rh z hc29 (lnR d_62 z (p1_5.ext h11)) (Rh z hc29 (eql z z) (Rh z hc1e (pF z hc29 z) (R z (pT z hc1e z) (Rm z ?_))))))
    rcases bs ((x1.names.length : Int) == 0) with hc1g | hc1g
    ·have hm3l := ifT hm3k hc1g
     refine Rh z hc1g (mv z) (Rh z hc1g (mv z) ?_)
     rcases bs x5 with hc2b | hc2b
     ·have hm3m := ifT hm3l hc2b
      iterate 4 refine Nh z hc2b ?_
      refine Rh z hc1g (pT z hc2b z) (R z (pT z hc1g z) (Rm z (Rh z z (mv z) (Rh z z (lss z z) (Rh z z (mv z) ?_)))))
      rcases bs (decide (x6 < 0)) with hc1w | hc1w
      ·iterate 5 refine Nh z hc1w ?_
       exact Rh z z (pT z hc1w z) (R z (pT z z z) (Ra z (Wl (fun _ q => ⟨true, som (ifT hm3m hc1w), (q.k (s1 z)), (br w10)⟩))))
      exact Rh z hc1w (fd f_70_7 z) (Rh z hc1w (l1 g_63 z fid (h12.at z)) (Rh z hc1w (lnR d_63 z (p1_7.ext h11)) (Rh z hc1w (mv z) (Rh z hc1w (eql z z) (Rh z z (pF z hc1w z) (R z (pT z z z) (Ra z (Wl (fun _ q => ⟨(x1.kids.length : Int) == x6, som (ifF hm3m hc1w), (q.k (s1 z)), (br w10)⟩)))))))))
     have hm3n := ifF hm3l hc2b
     refine Rh z hc2b (fd f_70_6 z) (Rh z hc2b (l1 g_63 z fid (h12.at z)) (Rh z hc2b (lnR d_63 z (p1_6.ext h11)) (Rh z hc2b (eql z z) (Rh z hc1g (pF z hc2b z) (R z (pT z hc1g z) (Rm z ?_))))))
     rcases bs ((x1.tags.length : Int) == 0) with hc1h | hc1h
     ·have hm3o := ifT hm3n hc1h
      refine Rh z hc1h (mv z) (Rh z hc1h (lss z z) (Rh z hc1h (mv z) ?_))
      rcases bs (decide (x6 < 0)) with hc1x | hc1x
      ·iterate 5 refine Nh z hc1x ?_
       exact Rh z hc1h (pT z hc1x z) (R z (pT z hc1h z) (Ra z (Wl (fun _ q => ⟨true, som (ifT hm3o hc1x), (q.k (s1 z)), (br w10)⟩))))
      exact Rh z hc1x (fd f_70_7 z) (Rh z hc1x (l1 g_63 z fid (h12.at z)) (Rh z hc1x (lnR d_63 z (p1_7.ext h11)) (Rh z hc1x (mv z) (Rh z hc1x (eql z z) (Rh z hc1h (pF z hc1x z) (R z (pT z hc1h z) (Ra z (Wl (fun _ q => ⟨(x1.kids.length : Int) == x6, som (ifF hm3o hc1x), (q.k (s1 z)), (br w10)⟩)))))))))
     iterate 3 refine Nh z hc1h ?_
     exact Nv z (Nv z (Nv z (Nv z (Nv z (Nh z hc1h (R z (pF z hc1h z) (Ra z (Wl (fun _ q => ⟨false, som (ifF hm3n hc1h), (q.k (s1 z)), (br w10)⟩)))))))))
    exact Nh z hc1g (Nh z hc1g (Nv z (Nv z (Nv z (Nv z (Nh z hc1g (R z (pF z hc1g z) (Rm z (Nh z z (Nh z z (Nh z z (Nv z (Nv z (Nv z (Nv z (Nv z (Nh z z (R z (pF z z z) (Ra z (Wl (fun _ q => ⟨false, som (ifF hm3k hc1g), (q.k (s1 z)), (br w10)⟩)))))))))))))))))))))
   refine Nh z hc1e (Nh z hc1e (Nv z (Nv z (Nv z (Nv z (Nh z hc1e (R z (pF z hc1e z) (Rm z (Nh z z (Nh z z (Nv z (Nv z (Nv z (Nv z (Nh z z (R z (pF z z z) (Rm z (Nh z z (Nh z z (Nh z z (Nv z (Nv z (Nv z (Nv z ?_))))))))))))))))))))))))
   exact Nv z (Nh z z (R z (pF z z z) (Ra z (Wl (fun _ q => ⟨false, som (ifF hm3e hc1e), (q.k (s1 z)), (br w10)⟩)))))
  refine Nh z hc1a (Nh z hc1a (Nv z (Nv z (Nv z (Nv z (Nh z hc1a (R z (pF z hc1a z) (Rm z (Nh z z (Nh z z (Nv z (Nv z (Nv z (Nv z (Nh z z (R z (pF z z z) (Rm z (Nh z z (Nh z z (Nv z (Nv z (Nv z (Nv z (Nh z z ?_))))))))))))))))))))))))
  exact R z (pF z z z) (Rm z (Nh z z (Nh z z (Nh z z (Nv z (Nv z (Nv z (Nv z (Nv z (Nh z z (R z (pF z z z) (Ra z (Wl (fun _ q => ⟨false, som (ifF hm32 hc1a), (q.k (s1 z)), (br w10)⟩))))))))))))))
 rintro a3r w3t ⟨x2d, rfl, hS3u, s3s⟩
 revert a3r
 refine Wo ?_
 obtain rfl := som hm3q
 exact Wr (ret1 hr z ⟨(bup h11 s3s), z⟩)
def Q_impl_IntegerLimit (w0 : World) (B : Nat) (r : Int) (v : Value) (w' : World) : Prop := Below w0.heap.size w0 w' ∧ (fun r1 => (vI r1) = v ∧ inI r1) r
theorem W_impl_IntegerLimit {x1 : Desc} {x2 : Int} {res : Int} (hm : M_impl_IntegerLimit x1 x2 = some res) (hBw : B ≤ w0.heap.size) (p1_0 : repS w0 B (.slice pa1_0 pn1_0 pc1_0) x1.rules) (p2_0 : inI x2) : CallsR prog 118 [(.agg #[(.slice pa1_0 pn1_0 pc1_0)]), (vI x2)] w0 (Q_impl_IntegerLimit w0 B res) := by
 unfold M_impl_IntegerLimit at hm
 obtain ⟨fn, hf, hb, hN, hr⟩ := fnE func118
 refine goW hf (hb.trans z) (hN.trans z) (lb z) (Ws (E z (fb z) ?_))
 rintro _ w15 ⟨rfl, h19⟩
 have h12 := h19.below
 have h16 : Blk w15 w0.heap.size [(.slice pa1_0 pn1_0 pc1_0)] := h19.blk
 refine Ra z (Wn (Wq (Wq ?_)))
 obtain ⟨u1g, hu1h, hm1a⟩ := bdS hm
 refine WC_cut (fun a w => ∃ (x17 : Bool), x17 = u1g ∧ Sat 37 [(1, (vI x2)), (2, (.pointer (some ⟨w0.heap.size, 0, none⟩))), (27, (vB x17))] a ∧ Below w15.heap.size w15 w) ?_ ?_
 ·refine Wg (R z (lN (vs := [(.slice pa1_0 pn1_0 pc1_0)]) g_34 z_34 z z fid (h16.row 0 1 z)) (Rm z ?_))
  have h1b := p1_0.ext h12
  obtain ⟨r1i, e1j, hm1c⟩ := bdS hu1h
  refine E z (fc call78 z (W_impl_hasRule (B := B) e1j (lt_ hBw h12.size) h1b p2_0)) ?_
  rintro _ w24 ⟨s13, rfl⟩
  refine R z (not_ z) (Rm z ?_)
  rcases bs (!r1i) with hc11 | hc11
  ·iterate 7 refine Nh z hc11 ?_
   exact R z (pT z hc11 z) (Rm z (Nh z z (Nh z z (Nh z z (Nh z z (Nh z z (Nh z z (Nh z z (Nh z z (R z (pT z z z) (Wl (fun _ q => ⟨true, som (ifT hm1c hc11), (q.k (s3 z z z)), s13⟩))))))))))))
  refine Rh z hc11 (fd f_34_0 z) ?_
  have h1d := h16.ext s13
  refine Rh z hc11 (l1 g_32 z fid (h1d.at z)) (Rh z hc11 (mv z) ?_)
  obtain ⟨x1k, e1l, hm1e⟩ := bdS (ifF hm1c hc11)
  have h1f := h1b.ext s13
  refine RXg z z hc11 z (at_ (α := Rule) d_32 z_70 z z z h1f e1l) ?_
  rintro _ ⟨b25, o26, cs27, rfl, h1m, h1n, h28⟩
  obtain ⟨a29, n2a, c2b, a2c, n2d, c2e, a2f, n2g, c2h, a2i, n2j, c2k, rfl, h2l, h2m, h2n, h2o, h2p, h2q, h2r⟩ := Rule_open h1n
  refine Rh z hc11 (fd f_70_1 z) (Rh z hc11 (l1 g_3 z fid (h1m.at (j := 1) z)) (Rh z hc11 (nq z z) (R z (pF z hc11 z) (Rm z ?_))))
  rcases bs (x1k.kind != 1) with hc10 | hc10
  ·iterate 8 refine Nh z hc10 ?_
   exact R z (pT z hc10 z) (Wl (fun _ q => ⟨true, som (ifT hm1e hc10), (q.k (s3 z z z)), s13⟩))
  refine Rh z hc10 (fd f_34_0 z) (Rh z hc10 (l1 g_32 z fid (h1d.at z)) (Rh z hc10 (mv z) ?_))
  obtain ⟨x2s, e1o, hm1p⟩ := bdS (ifF hm1e hc10)
  refine RXg z z hc10 z (at_ (α := Rule) d_32 z_70 z z z h1f e1o) ?_
  rintro _ ⟨b2t, o2u, cs2v, rfl, h1q, h1r, h2w⟩
  obtain ⟨a2x, n2y, c2z, a30, n31, c32, a33, n34, c35, a36, n37, c38, rfl, h39, h3a, h1s, h3b, h3c, h3d, h3e⟩ := Rule_open h1r
  refine Rh z hc10 (fd f_70_2 z) (Rh z hc10 (l1 g_3 z fid (h1q.at (j := 2) z)) ?_)
  obtain ⟨r1t, e1u, hm1v⟩ := bdS hm1p
  refine Eg z z hc10 z (fc call102 z (W_impl_InRange (B := B) e1u (lt_ hBw (lt_ h12.size s13.size)) h1s (ii z) (ii z))) ?_
  rintro _ w3f ⟨s1w, rfl⟩
  exact Rh z hc10 (not_ z) (R z (pF z hc10 z) (Wl (fun _ q => ⟨!r1t, som hm1v, (q.k (s3 z z z)), (bup s13 s1w)⟩)))
 rintro a1x w3g ⟨x17, rfl, hS3h, s14⟩
 revert a1x
 refine Wo (Wc z (fun hc18 => ?_) (fun hc18 => ?_))
 ·refine Ws (Ra z (Wn ?_))
  obtain rfl := som (ifT hm1a hc18)
  exact Wr (ret1 hr z ⟨(bup h12 s14), z, (ii z)⟩)
 refine Wk (Ws (R z (fd f_34_0 z) (R z (l1 g_32 z fid ((h16.ext s14).at z)) (Rm z ?_))))
 obtain ⟨x3i, e1y, hm1z⟩ := bdS (ifF hm1a hc18)
 refine RX z (at_ (α := Rule) d_32 z_70 z z z ((p1_0.ext h12).ext s14) e1y) ?_
 rintro _ ⟨b3j, o3k, cs3l, rfl, h20, h21, h3m⟩
 obtain ⟨a3n, n3o, c3p, a3q, n3r, c3s, a3t, n3u, c3v, a3w, n3x, c3y, rfl, h3z, h40, h41, h42, h43, h44, h45⟩ := Rule_open h21
 refine R z (fd f_70_2 z) (R z (l1 g_3 z fid (h20.at (j := 2) z)) (R z (rd_mul z z) ?_))
 obtain ⟨u46, e22, hm23⟩ := bdS hm1z
 refine R z (rd_shl z z (nnS e22)) (R z (sb_ z z) (Ra z (Wn ?_)))
 obtain rfl := som hm23
 exact Wr (ret1 hr z ⟨(bup h12 s14), z, (iS _ _)⟩)
def Q_impl_ContainsText (w0 : World) (B : Nat) (r : Bool) (v : Value) (w' : World) : Prop := Below w0.heap.size w0 w' ∧ (fun r1 => (vB r1) = v) r
theorem W_impl_ContainsText {x1 : List Str} {x2 : Str} {res : Bool} (hm : M_impl_ContainsText x1 x2 = some res) (hBw : B ≤ w0.heap.size) (p1_0 : repS w0 B (.slice pa1_0 pn1_0 pc1_0) x1) (p2_0 : x2.b.length ≤ LEN) : CallsR prog 129 [(.slice pa1_0 pn1_0 pc1_0), (Str.v x2)] w0 (Q_impl_ContainsText w0 B res) := by
 unfold M_impl_ContainsText at hm
 obtain ⟨fn, hf, hb, hN, hr⟩ := fnE func129
 refine goW hf (hb.trans z) (hN.trans z) (lb z) (Ws (Ra z (Wn (Wq (Ws (Rm z (R z (lnR d_62 z p1_0) (Rm z (Wn ?_)))))))))
 obtain ⟨u1j, hu16, hm13⟩ := bdS hm
 refine WC_forN (σ := Unit) (ρ := Bool) (fun (k10 : Nat) (_ : Unit) a w => Sat 17 [(1, (Str.v x2)), (7, (.slice pa1_0 pn1_0 pc1_0)), (8, (vI (x1.length : Int))), (9, (vI ((k10 : Nat) : Int)))] a ∧ Below w0.heap.size w0 w) (fun (_ : Unit) a w => Sat 17 [] a ∧ Below w0.heap.size w0 w) (fun r ex a w => ex = .ret ∧ RetPost prog fn (Q_impl_ContainsText w0 B r) a w) hu16 ?_ ?_ ?_ ?_ ?_
 ·exact fun _ q => ⟨(q.k (s4 z z z z)), (br w0)⟩
 ·rintro k10 _ a1k w1l o1m hk14 ⟨hS17, s11⟩ hm18
  refine Wu (e := [(1, (Str.v x2)), (7, (.slice pa1_0 pn1_0 pc1_0)), (8, (vI (x1.length : Int))), (9, (vI ((k10 : Nat) : Int)))]) (N := 17) ?_ hS17
  refine Ws (R z (lss z z) (Wn (Wq (Wc z (fun _ => ?_) (fun hc => (nolt hk14 hc).elim)))))
  refine Wk (Wq (WC_block (Ws ?_)))
  obtain ⟨x1n, e19, hm15⟩ := bdS hm18
  refine RX z (at_ (α := Str) d_62 z_9 z z z (p1_0.ext s11) e19) ?_
  rintro _ ⟨b1o, o1p, cs1q, rfl, h1a, h1b, h1r⟩
  obtain ⟨rfl, h1s⟩ := Str_open h1b
  refine R z (l1 g_9 z fid (h1a.at0 z)) (Ra z (Wn (Ws (Rm z (Rm z (R z (rd_eqlT z z) (Wn (Wc z (fun hc12 => ?_) (fun hc12 => ?_)))))))))
  ·exact Ws (Ra z (Wn (Wr (rtO (QO_retL (som (ifT hm15 hc12)).symm (ret1 hr z ⟨s11, z⟩))))))
  exact Wk (Wg (R z (inc_ hk14 (lt_ (repS.len p1_0) LEN_le) z z) (Rm z (Wl (fun _ q => ⟨(), (som (ifF hm15 hc12)).symm, ⟨(q.k (s4 z z z z)), s11⟩⟩)))))
 ·rintro _ a1t w1u ⟨hS1c, s1d⟩
  refine Wu (e := [(1, (Str.v x2)), (7, (.slice pa1_0 pn1_0 pc1_0)), (8, (vI (x1.length : Int))), (9, (vI ((x1.length : Nat) : Int)))]) (N := 17) ?_ hS1c
  refine Ws (R z (lss z z) (Wn (Wq (Wc z (fun hc => (noltt hc).elim) (fun _ => ?_)))))
  exact WC_exit (fun a' ha' => ⟨rfl, ⟨(Sat.weaken ha' sn), s1d⟩⟩)
 ·rintro _ a1e w1v rfl ⟨hS1w, s1f⟩
  have hm1g := elL hm13
  revert a1e
  refine Wo (Ws (Ra z (Wn ?_)))
  obtain rfl := som hm1g
  exact Wr (ret1 hr z ⟨s1f, z⟩)
 rintro r1x ex1y a1z w20 rfl ⟨rfl, hq1h⟩
 have hm1i := elR hm13
 obtain rfl := som hm1i
 exact ⟨hq1h, z⟩
def Q_impl_validSequence (w0 : World) (B : Nat) (r : Bool) (v : Value) (w' : World) : Prop := Below w0.heap.size w0 w' ∧ (fun r1 => (vB r1) = v) r
theorem W_impl_validSequence {x1 : Rule} {res : Bool} (hm : M_impl_validSequence n x1 = some res) (hBw : B ≤ w0.heap.size) (p1_0 : x1.name.b.length ≤ LEN) (p1_1 : inI x1.kind) (p1_2 : inI x1.size) (p1_4 : repS w0 B (.slice pa1_4 pn1_4 pc1_4) x1.bytes) (p1_5 : repS w0 B (.slice pa1_5 pn1_5 pc1_5) x1.names) (p1_6 : repS w0 B (.slice pa1_6 pn1_6 pc1_6) x1.tags) (p1_7 : repS w0 B (.slice pa1_7 pn1_7 pc1_7) x1.kids) : CallsR prog 119 [(.agg #[(Str.v x1.name), (vI x1.kind), (vI x1.size), (vB x1.little), (.slice pa1_4 pn1_4 pc1_4), (.slice pa1_5 pn1_5 pc1_5), (.slice pa1_6 pn1_6 pc1_6), (.slice pa1_7 pn1_7 pc1_7)])] w0 (Q_impl_validSequence w0 B res) := by
 unfold M_impl_validSequence at hm
 obtain ⟨fn, hf, hb, hN, hr⟩ := fnE func119
 refine goW hf (hb.trans z) (hN.trans z) (lb z) (Ws (E z (fb z) ?_))
 rintro _ w1a ⟨rfl, h1i⟩
 have h12 := h1i.below
 have h1b : Blk w1a w0.heap.size [(Str.v x1.name), (vI x1.kind), (vI x1.size), (vB x1.little), (.slice pa1_4 pn1_4 pc1_4), (.slice pa1_5 pn1_5 pc1_5), (.slice pa1_6 pn1_6 pc1_6), (.slice pa1_7 pn1_7 pc1_7)] := h1i.blk
 refine Ra z (Wn (Wq (Wq ?_)))
 obtain ⟨u1z, hu20, hm1j⟩ := bdS hm
 refine WC_cut (fun a w => ∃ (x1c : Bool), x1c = u1z ∧ Sat 44 [(1, (.pointer (some ⟨w0.heap.size, 0, none⟩))), (23, (vB x1c))] a ∧ Below w1a.heap.size w1a w) ?_ ?_
 ·refine Wg (R z (lN (vs := [(Str.v x1.name), (vI x1.kind), (vI x1.size), (vB x1.little), (.slice pa1_4 pn1_4 pc1_4), (.slice pa1_5 pn1_5 pc1_5), (.slice pa1_6 pn1_6 pc1_6), (.slice pa1_7 pn1_7 pc1_7)]) g_70 z_70 z z fid (h1b.row 0 8 z)) ?_)
  have h1k := p1_5.ext h12
  have h1l := p1_7.ext h12
  obtain ⟨r21, e22, hm1m⟩ := bdS hu20
  refine E z (fc call117 z (W_impl_plainRule (B := B) e22 (lt_ hBw h12.size) p1_0 p1_1 p1_2 (p1_4.ext h12) h1k (p1_6.ext h12) h1l (ii z))) ?_
  rintro _ w2y ⟨s14, rfl⟩
  refine R z (not_ z) (Rm z ?_)
  rcases bs (!r21) with hc10 | hc10
  ·iterate 7 refine Nh z hc10 ?_
   exact R z (pT z hc10 z) (Rm z (Nh z z (Nh z z (Nh z z (Nh z z (Nh z z (R z (pT z z z) (Wl (fun _ q => ⟨true, som (ifT hm1m hc10), (q.k (s2 z z)), s14⟩)))))))))
  have hm1n := ifF hm1m hc10
  refine Rh z hc10 (fd f_70_7 z) ?_
  have h1d := h1b.ext s14
  refine Rh z hc10 (l1 g_63 z fid (h1d.at z)) ?_
  have h1e := h1l.ext s14
  refine Rh z hc10 (lnR d_63 z h1e) (Rh z hc10 (fd f_70_5 z) (Rh z hc10 (l1 g_62 z fid (h1d.at z)) (Rh z hc10 (lnR d_62 z (h1k.ext s14)) (Rh z hc10 (nq z z) (R z (pF z hc10 z) (Rm z ?_))))))
  rcases bs ((x1.kids.length : Int) != (x1.names.length : Int)) with hc13 | hc13
  ·iterate 5 refine Nh z hc13 ?_
   exact R z (pT z hc13 z) (Wl (fun _ q => ⟨true, som (ifT hm1n hc13), (q.k (s2 z z)), s14⟩))
  refine Rh z hc13 (fd f_70_7 z) (Rh z hc13 (l1 g_63 z fid (h1d.at z)) (Rh z hc13 (lnR d_63 z h1e) ?_))
  obtain ⟨r23, e24, hm25⟩ := bdS (ifF hm1n hc13)
  refine Eg z z hc13 z (fc call102 z (W_impl_InRange (B := B) e24 (lt_ hBw (lt_ h12.size s14.size)) (inI_len (repS.len h1e)) (ii z) (ii z))) ?_
  rintro _ w2z ⟨s26, rfl⟩
  exact Rh z hc13 (not_ z) (R z (pF z hc13 z) (Wl (fun _ q => ⟨!r23, som hm25, (q.k (s2 z z)), (bup s14 s26)⟩)))
 rintro a27 w16 ⟨x1c, rfl, hS30, s15⟩
 revert a27
 refine Wo (Wc z (fun hc1f => ?_) (fun hc1f => ?_))
 ·refine Ws (Ra z (Wn ?_))
  obtain rfl := som (ifT hm1j hc1f)
  exact Wr (ret1 hr z ⟨(bup h12 s15), z⟩)
 refine Wk (Wq (Ws (R z (fd f_70_5 z) ?_)))
 have h1o := h1b.ext s15
 refine R z (l1 g_62 z fid (h1o.at z)) ?_
 have h1p := (p1_5.ext h12).ext s15
 refine R z (lnR d_62 z h1p) (Rm z (Wn ?_))
 obtain ⟨u31, hu28, hm1q⟩ := bdS (ifF hm1j hc1f)
 refine WC_forN (σ := Unit) (ρ := Bool) (fun (k19 : Nat) (_ : Unit) a w => Sat 44 [(1, (.pointer (some ⟨w0.heap.size, 0, none⟩))), (25, (.slice pa1_5 pn1_5 pc1_5)), (26, (vI (x1.names.length : Int))), (27, (vI ((k19 : Nat) : Int)))] a ∧ Below w16.heap.size w16 w) (fun (_ : Unit) a w => Sat 44 [] a ∧ Below w16.heap.size w16 w) (fun r ex a w => ex = .ret ∧ RetPost prog fn (Q_impl_validSequence w0 B r) a w) hu28 ?_ ?_ ?_ ?_ ?_
 ·exact fun _ q => ⟨(q.k (s4 z z z z)), (br w16)⟩
 ·rintro k19 _ a32 w1r o33 hk1s ⟨hS29, s17⟩ hm2a
  refine Wu (e := [(1, (.pointer (some ⟨w0.heap.size, 0, none⟩))), (25, (.slice pa1_5 pn1_5 pc1_5)), (26, (vI (x1.names.length : Int))), (27, (vI ((k19 : Nat) : Int)))]) (N := 44) ?_ hS29
  refine Ws (R z (lss z z) (Wn (Wq (Wc z (fun _ => ?_) (fun hc => (nolt hk1s hc).elim)))))
  refine Wk (Wq (WC_block (Ws (Rm z ?_))))
  obtain ⟨x34, e2b, hm2c⟩ := bdS hm2a
  have h1t := h1p.ext s17
  refine RX z (at_ (α := Str) d_62 z_9 z z z h1t e2b) ?_
  rintro _ ⟨b35, o36, cs37, rfl, h2d, h2e, h38⟩
  obtain ⟨rfl, h1u⟩ := Str_open h2e
  refine R z (l1 g_9 z fid (h2d.at0 z)) (Ra z (Ra z (Wn (Wq ?_))))
  obtain ⟨u2f, hu2g, hm1v⟩ := bdS hm2c
  refine WC_cut (fun a w => ∃ (x1g : Bool), x1g = u2f ∧ Sat 44 [(1, (.pointer (some ⟨w0.heap.size, 0, none⟩))), (25, (.slice pa1_5 pn1_5 pc1_5)), (26, (vI (x1.names.length : Int))), (27, (vI ((k19 : Nat) : Int))), (42, (vB x1g))] a ∧ Below w1r.heap.size w1r w) ?_ ?_
  ·refine Wg (Rm z ?_)
   have h1w := lt_ (lt_ h12.size s15.size) s17.size
   obtain ⟨r2h, e2i, hm1x⟩ := bdS hu2g
   refine E z (fc call112 z (W_impl_IsName (B := B) e2i (lt_ hBw h1w) h1u)) ?_
   rintro _ w39 ⟨s18, rfl⟩
   refine R z (not_ z) (Rm z ?_)
   rcases bs (!r2h) with hc11 | hc11
   ·iterate 6 refine Nh z hc11 ?_
    exact R z (pT z hc11 z) (Wl (fun _ q => ⟨true, som (ifT hm1x hc11), (q.k (s5 z z z z z)), s18⟩))
   refine Rh z hc11 (fd f_70_5 z) (Rh z hc11 (l1 g_62 z fid (((h1o.ext s17).ext s18).at z)) (Rh z hc11 (mv z) ?_))
   obtain ⟨x3a, e2j, hm2k⟩ := bdS (ifF hm1x hc11)
   refine RXg z z hc11 z (rd_sliceX d_62 z_9 z z (h1t.ext s18) z z e2j) ?_
   rintro _ ⟨a3b, n3c, c3d, rfl, h2l⟩
   refine Rh z hc11 (mv z) ?_
   obtain ⟨r2m, e2n, hm2o⟩ := bdS hm2k
   refine Eg z z hc11 z (fc call129 z (W_impl_ContainsText (B := B) e2n (lt_ hBw (lt_ h1w s18.size)) h2l h1u)) ?_
   rintro _ w3e ⟨s2p, rfl⟩
   exact R z (pF z hc11 z) (Wl (fun _ q => ⟨r2m, som hm2o, (q.k (s5 z z z z z)), (bup s18 s2p)⟩))
  rintro a2q w3f ⟨x1g, rfl, hS3g, s1y⟩
  revert a2q
  refine Wo (Wc z (fun hc1h => ?_) (fun hc1h => ?_))
  ·exact Ws (Ra z (Wn (Wr (rtO (QO_retL (som (ifT hm1v hc1h)).symm (ret1 hr z ⟨(bup (bup (bup h12 s15) s17) s1y), z⟩))))))
  exact Wk (Wg (R z (inc_ hk1s (lt_ (repS.len p1_5) LEN_le) z z) (Rm z (Wl (fun _ q => ⟨(), (som (ifF hm1v hc1h)).symm, ⟨(q.k (s4 z z z z)), (bup s17 s1y)⟩⟩)))))
 ·rintro _ a3h w3i ⟨hS2r, s2s⟩
  refine Wu (e := [(1, (.pointer (some ⟨w0.heap.size, 0, none⟩))), (25, (.slice pa1_5 pn1_5 pc1_5)), (26, (vI (x1.names.length : Int))), (27, (vI ((x1.names.length : Nat) : Int)))]) (N := 44) ?_ hS2r
  refine Ws (R z (lss z z) (Wn (Wq (Wc z (fun hc => (noltt hc).elim) (fun _ => ?_)))))
  exact WC_exit (fun a' ha' => ⟨rfl, ⟨(Sat.weaken ha' sn), s2s⟩⟩)
 ·rintro _ a2t w3j rfl ⟨hS3k, s2u⟩
  have hm2v := elL hm1q
  revert a2t
  refine Wo (Ws (Ra z (Wn ?_)))
  obtain rfl := som hm2v
  exact Wr (ret1 hr z ⟨(bup (bup h12 s15) s2u), z⟩)
 rintro r3l ex3m a3n w3o rfl ⟨rfl, hq2w⟩
 have hm2x := elR hm1q
 obtain rfl := som hm2x
 exact ⟨hq2w, z⟩
def Q_impl_validChoice (w0 : World) (B : Nat) (r : Bool) (v : Value) (w' : World) : Prop := Below w0.heap.size w0 w' ∧ (fun r1 => (vB r1) = v) r
theorem W_impl_validChoice {x1 : Desc} {x2 : Rule} {res : Bool} (hm : M_impl_validChoice x1 x2 = some res) (hBw : B ≤ w0.heap.size) (p1_0 : repS w0 B (.slice pa1_0 pn1_0 pc1_0) x1.rules) (p2_0 : x2.name.b.length ≤ LEN) (p2_1 : inI x2.kind) (p2_2 : inI x2.size) (p2_4 : repS w0 B (.slice pa2_4 pn2_4 pc2_4) x2.bytes) (p2_5 : repS w0 B (.slice pa2_5 pn2_5 pc2_5) x2.names) (p2_6 : repS w0 B (.slice pa2_6 pn2_6 pc2_6) x2.tags) (p2_7 : repS w0 B (.slice pa2_7 pn2_7 pc2_7) x2.kids) : CallsR prog 120 [(.agg #[(.slice pa1_0 pn1_0 pc1_0)]), (.agg #[(Str.v x2.name), (vI x2.kind), (vI x2.size), (vB x2.little), (.slice pa2_4 pn2_4 pc2_4), (.slice pa2_5 pn2_5 pc2_5), (.slice pa2_6 pn2_6 pc2_6), (.slice pa2_7 pn2_7 pc2_7)])] w0 (Q_impl_validChoice w0 B res) := by
 unfold M_impl_validChoice at hm
 obtain ⟨fn, hf, hb, hN, hr⟩ := fnE func120
 refine goW hf (hb.trans z) (hN.trans z) (lb z) (Ws (E z (fb z) ?_))
 rintro _ w17 ⟨rfl, h1m⟩
 have h13 := h1m.below
 have h24 : Blk w17 w0.heap.size [(.slice pa1_0 pn1_0 pc1_0)] := h1m.blk
 refine E z (fb z) ?_
 rintro _ w1g ⟨rfl, h1n⟩
 have h11 := h1n.below
 have h1f : Blk w1g w17.heap.size [(Str.v x2.name), (vI x2.kind), (vI x2.size), (vB x2.little), (.slice pa2_4 pn2_4 pc2_4), (.slice pa2_5 pn2_5 pc2_5), (.slice pa2_6 pn2_6 pc2_6), (.slice pa2_7 pn2_7 pc2_7)] := h1n.blk
 refine Ra z (Wn (Wq (Wq ?_)))
 obtain ⟨u25, hu26, hm1o⟩ := bdS hm
 refine WC_cut (fun a w => ∃ (x1h : Bool), x1h = u25 ∧ Sat 57 [(2, (.pointer (some ⟨w0.heap.size, 0, none⟩))), (3, (.pointer (some ⟨w17.heap.size, 0, none⟩))), (21, (vB x1h))] a ∧ Below w1g.heap.size w1g w) ?_ ?_
 ·refine Wg (R z (lN (vs := [(Str.v x2.name), (vI x2.kind), (vI x2.size), (vB x2.little), (.slice pa2_4 pn2_4 pc2_4), (.slice pa2_5 pn2_5 pc2_5), (.slice pa2_6 pn2_6 pc2_6), (.slice pa2_7 pn2_7 pc2_7)]) g_70 z_70 z z fid (h1f.row 0 8 z)) (R z (fd f_70_6 z) (R z (l1 g_63 z fid (h1f.at z)) ?_)))
  have h1i := (p2_6.ext h13).ext h11
  refine R z (lnR d_63 z h1i) (R z (add_ z z) ?_)
  have h1p := lt_ h13.size h11.size
  obtain ⟨r27, e28, hm1q⟩ := bdS hu26
  refine E z (fc call117 z (W_impl_plainRule (B := B) e28 (lt_ hBw h1p) p2_0 p2_1 p2_2 ((p2_4.ext h13).ext h11) ((p2_5.ext h13).ext h11) h1i ((p2_7.ext h13).ext h11) (iA _ _))) ?_
  rintro _ w3c ⟨s18, rfl⟩
  refine R z (not_ z) (Rm z ?_)
  rcases bs (!r27) with hc14 | hc14
  ·iterate 5 refine Nh z hc14 ?_
   exact R z (pT z hc14 z) (Wl (fun _ q => ⟨true, som (ifT hm1q hc14), (q.k (s3 z z z)), s18⟩))
  refine Rh z hc14 (fd f_70_6 z) (Rh z hc14 (l1 g_63 z fid ((h1f.ext s18).at z)) ?_)
  have h1r := h1i.ext s18
  refine Rh z hc14 (lnR d_63 z h1r) ?_
  obtain ⟨r29, e2a, hm2b⟩ := bdS (ifF hm1q hc14)
  refine Eg z z hc14 z (fc call102 z (W_impl_InRange (B := B) e2a (lt_ hBw (lt_ h1p s18.size)) (inI_len (repS.len h1r)) (ii z) (ii z))) ?_
  rintro _ w3d ⟨s2c, rfl⟩
  exact Rh z hc14 (not_ z) (R z (pF z hc14 z) (Wl (fun _ q => ⟨!r29, som hm2b, (q.k (s3 z z z)), (bup s18 s2c)⟩)))
 rintro a2d w3e ⟨x1h, rfl, hS3f, s15⟩
 revert a2d
 refine Wo (Wc z (fun hc1j => ?_) (fun hc1j => ?_))
 ·refine Ws (Ra z (Wn ?_))
  obtain rfl := som (ifT hm1o hc1j)
  exact Wr (ret1 hr z ⟨(bup (bup h13 h11) s15), z⟩)
 refine Wk (Wq (WC_draw (X := noX) 0 (.rd 0 (.rd 1 (.rd 2 (.rd 3 (.rd 4 (.ef 5 (.rd 6 .done))))))) mo (by kernel_rfl) fun w3g s16 _ => dR z z (lN (vs := [(.slice pa1_0 pn1_0 pc1_0)]) g_34 z_34 z z fid ((((h24.ext h11).ext s15).ext s16).row 0 1 z)) (dR z z (fd f_70_7 z) ?_)))
 have h1s := (h1f.ext s15).ext s16
 refine dR z z (l1 g_63 z fid (h1s.at z)) ?_
 obtain ⟨x3h, e2e, hm2f⟩ := bdS (ifF hm1o hc1j)
 refine dRX z z (at_ (α := Int) d_63 z_3 z z z ((((p2_7.ext h13).ext h11).ext s15).ext s16) e2e) ?_
 rintro _ ⟨b3i, o3j, cs3k, rfl, h2g, h2h, h3l⟩
 obtain ⟨rfl, h2i⟩ := Int_open h2h
 refine dR z z (l1 g_3 z fid (h2g.at0 z)) ?_
 have h1t := lt_ (lt_ (lt_ h13.size h11.size) s15.size) s16.size
 obtain ⟨r19, e2j, hm2k⟩ := bdS hm2f
 refine dE z z (fc call118 z (W_impl_IntegerLimit (B := B) e2j (lt_ hBw h1t) ((((p1_0.ext h13).ext h11).ext s15).ext s16) h2i)) (.inr fun _ _ h => chgB (h.1)) ?_
 rintro _ w1a ⟨s1b, rfl, h2l⟩
 refine dR z z (asg z) (PR_done (Wo (Wq (Ws (R z (fd f_70_6 z) ?_)))))
 have h1u := h1s.ext s1b
 refine R z (l1 g_63 z fid (h1u.at z)) ?_
 have h1v := ((((p2_6.ext h13).ext h11).ext s15).ext s16).ext s1b
 refine R z (lnR d_63 z h1v) (Rm z (Wn ?_))
 obtain ⟨u3m, hu2m, hm1w⟩ := bdS hm2k
 refine WC_forN (σ := Unit) (ρ := Bool) (fun (k1c : Nat) (_ : Unit) a w => Sat 57 [(3, (.pointer (some ⟨w17.heap.size, 0, none⟩))), (5, (vI r19)), (29, (.slice pa2_6 pn2_6 pc2_6)), (30, (vI (x2.tags.length : Int))), (31, (vI ((k1c : Nat) : Int)))] a ∧ Below w1a.heap.size w1a w) (fun (_ : Unit) a w => Sat 57 [(5, (vI r19))] a ∧ Below w1a.heap.size w1a w) (fun r ex a w => ex = .ret ∧ RetPost prog fn (Q_impl_validChoice w0 B r) a w) hu2m ?_ ?_ ?_ ?_ ?_
 ·exact fun _ q => ⟨(q.k (s5 z z z z z)), (br w1a)⟩
 ·rintro k1c _ a3n w1x o3o hk1y ⟨hS2n, s1d⟩ hm2o
  refine Wu (e := [(3, (.pointer (some ⟨w17.heap.size, 0, none⟩))), (5, (vI r19)), (29, (.slice pa2_6 pn2_6 pc2_6)), (30, (vI (x2.tags.length : Int))), (31, (vI ((k1c : Nat) : Int)))]) (N := 57) ?_ hS2n
  refine Ws (R z (lss z z) (Wn (Wq (Wc z (fun _ => ?_) (fun hc => (nolt hk1y hc).elim)))))
  refine Wk (Wq (WC_block (Ws (Rm z ?_))))
  obtain ⟨x2p, e2q, hm2r⟩ := bdS hm2o
  have h1z := h1v.ext s1d
  refine RX z (at_ (α := Int) d_63 z_3 z z z h1z e2q) ?_
  rintro _ ⟨b3p, o3q, cs3r, rfl, h2s, h2t, h3s⟩
  obtain ⟨rfl, h2u⟩ := Int_open h2t
  refine R z (l1 g_3 z fid (h2s.at0 z)) (Ra z (Ra z (Wn (Wq ?_))))
  obtain ⟨u2v, hu2w, hm20⟩ := bdS hm2r
  refine WC_cut (fun a w => ∃ (x1k : Bool), x1k = u2v ∧ Sat 57 [(3, (.pointer (some ⟨w17.heap.size, 0, none⟩))), (5, (vI r19)), (29, (.slice pa2_6 pn2_6 pc2_6)), (30, (vI (x2.tags.length : Int))), (31, (vI ((k1c : Nat) : Int))), (53, (vB x1k))] a ∧ Below w1x.heap.size w1x w) ?_ ?_
  ·refine Wg (Rm z (Rm z ?_))
   obtain ⟨r2x, e2y, hm21⟩ := bdS hu2w
   refine E z (fc call102 z (W_impl_InRange (B := B) e2y (lt_ hBw (lt_ (lt_ h1t s1b.size) s1d.size)) h2u (ii z) h2l)) ?_
   rintro _ w3t ⟨s1e, rfl⟩
   refine R z (not_ z) (Rm z ?_)
   rcases bs (!r2x) with hc12 | hc12
   ·iterate 3 refine Nh z hc12 ?_
    exact Nv z (Nv z (Nv z (Nv z (Nv z (Nv z (Nv z (Nv z (Nh z hc12 (R z (pT z hc12 z) (Wl (fun _ q => ⟨true, som (ifT hm21 hc12), (q.k (s6 z z z z z z)), s1e⟩)))))))))))
   have hm22 := ifF hm21 hc12
   refine Rh z hc12 (mv z) (Rh z hc12 (rd_gtr z z) (Rh z hc12 (mv z) ?_))
   rcases bs (decide (0 < ((k1c : Nat) : Int))) with hc10 | hc10
   ·refine Rh z hc10 (fd f_70_6 z) (Rh z hc10 (l1 g_63 z fid (((h1u.ext s1d).ext s1e).at z)) (Rh z hc10 (mv z) (Rh z hc10 (sb_ z z) ?_)))
    obtain ⟨x2z, e30, hm31⟩ := bdS (ifT hm22 hc10)
    refine RXg z z hc10 z (at_ (α := Int) d_63 z_3 z z z (h1z.ext s1e) e30) ?_
    rintro _ ⟨b3u, o3v, cs3w, rfl, h32, h33, h3x⟩
    obtain ⟨rfl, h3y⟩ := Int_open h33
    exact Rh z hc10 (l1 g_3 z fid (h32.at0 z)) (Rh z hc10 (mv z) (Rh z hc10 (rd_geq z z) (Rh z hc12 (pT z hc10 z) (R z (pF z hc12 z) (Wl (fun _ q => ⟨decide (x2p ≤ x2z), som hm31, (q.k (s6 z z z z z z)), s1e⟩))))))
   iterate 8 refine Nh z hc10 ?_
   exact Rh z hc12 (pF z hc10 z) (R z (pF z hc12 z) (Wl (fun _ q => ⟨false, som (ifF hm22 hc10), (q.k (s6 z z z z z z)), s1e⟩)))
  rintro a34 w3z ⟨x1k, rfl, hS40, s23⟩
  revert a34
  refine Wo (Wc z (fun hc1l => ?_) (fun hc1l => ?_))
  ·exact Ws (Ra z (Wn (Wr (rtO (QO_retL (som (ifT hm20 hc1l)).symm (ret1 hr z ⟨(bup (bup (bup (bup (bup (bup h13 h11) s15) s16) s1b) s1d) s23), z⟩))))))
  exact Wk (Wg (R z (inc_ hk1y (lt_ (repS.len p2_6) LEN_le) z z) (Rm z (Wl (fun _ q => ⟨(), (som (ifF hm20 hc1l)).symm, ⟨(q.k (s5 z z z z z)), (bup s1d s23)⟩⟩)))))
 ·rintro _ a41 w42 ⟨hS35, s36⟩
  refine Wu (e := [(3, (.pointer (some ⟨w17.heap.size, 0, none⟩))), (5, (vI r19)), (29, (.slice pa2_6 pn2_6 pc2_6)), (30, (vI (x2.tags.length : Int))), (31, (vI ((x2.tags.length : Nat) : Int)))]) (N := 57) ?_ hS35
  refine Ws (R z (lss z z) (Wn (Wq (Wc z (fun hc => (noltt hc).elim) (fun _ => ?_)))))
  exact WC_exit (fun a' ha' => ⟨rfl, ⟨(Sat.weaken ha' (s1 z)), s36⟩⟩)
 ·rintro _ a37 w43 rfl ⟨hS44, s38⟩
  have hm39 := elL hm1w
  revert a37
  refine Wo (Ws (Rm z (R z (rd_gtr z z) (Ra z (Wn ?_)))))
  obtain rfl := som hm39
  exact Wr (ret1 hr z ⟨(bup (bup (bup (bup (bup h13 h11) s15) s16) s1b) s38), z⟩)
 rintro r45 ex46 a47 w48 rfl ⟨rfl, hq3a⟩
 have hm3b := elR hm1w
 obtain rfl := som hm3b
 exact ⟨hq3a, z⟩
def Q_impl_validKind (w0 : World) (B : Nat) (r : Bool) (v : Value) (w' : World) : Prop := Below w0.heap.size w0 w' ∧ (fun r1 => (vB r1) = v) r
theorem W_impl_validKind {x1 : Desc} {x2 : Rule} {res : Bool} (hm : M_impl_validKind n x1 x2 = some res) (hBw : B ≤ w0.heap.size) (p1_0 : repS w0 B (.slice pa1_0 pn1_0 pc1_0) x1.rules) (p2_0 : x2.name.b.length ≤ LEN) (p2_1 : inI x2.kind) (p2_2 : inI x2.size) (p2_4 : repS w0 B (.slice pa2_4 pn2_4 pc2_4) x2.bytes) (p2_5 : repS w0 B (.slice pa2_5 pn2_5 pc2_5) x2.names) (p2_6 : repS w0 B (.slice pa2_6 pn2_6 pc2_6) x2.tags) (p2_7 : repS w0 B (.slice pa2_7 pn2_7 pc2_7) x2.kids) : CallsR prog 113 [(.agg #[(.slice pa1_0 pn1_0 pc1_0)]), (.agg #[(Str.v x2.name), (vI x2.kind), (vI x2.size), (vB x2.little), (.slice pa2_4 pn2_4 pc2_4), (.slice pa2_5 pn2_5 pc2_5), (.slice pa2_6 pn2_6 pc2_6), (.slice pa2_7 pn2_7 pc2_7)])] w0 (Q_impl_validKind w0 B res) := by
 unfold M_impl_validKind at hm
 obtain ⟨fn, hf, hb, hN, hr⟩ := fnE func113
 refine goW hf (hb.trans z) (hN.trans z) (lb z) (Ws (E z (fb z) ?_))
 rintro _ w1n ⟨rfl, h26⟩
 have h11 := h26.below
 have h1o : Blk w1n w0.heap.size [(.slice pa1_0 pn1_0 pc1_0)] := h26.blk
 refine E z (fb z) ?_
 rintro _ w12 ⟨rfl, h27⟩
 have h10 := h27.below
 have h17 : Blk w12 w1n.heap.size [(Str.v x2.name), (vI x2.kind), (vI x2.size), (vB x2.little), (.slice pa2_4 pn2_4 pc2_4), (.slice pa2_5 pn2_5 pc2_5), (.slice pa2_6 pn2_6 pc2_6), (.slice pa2_7 pn2_7 pc2_7)] := h27.blk
 refine Ra z (Wn (Wq (Ws (R z (fd f_70_1 z) (R z (l1 g_3 z fid (h17.at z)) (Wn (WC_block (Ws (R z (eql z z) (Ra z (Wn (Wc z (fun hc1p => ?_) (fun hc1p => ?_)))))))))))))
 ·refine Wq ?_
  obtain ⟨u38, hu39, hm3a⟩ := bdS (ifT hm hc1p)
  refine WC_cut (fun a w => ∃ (x1q : Bool), x1q = u38 ∧ Sat 102 [(4, (vB x1q))] a ∧ Below w12.heap.size w12 w) ?_ ?_
  ·refine Wg (R z (lN (vs := [(Str.v x2.name), (vI x2.kind), (vI x2.size), (vB x2.little), (.slice pa2_4 pn2_4 pc2_4), (.slice pa2_5 pn2_5 pc2_5), (.slice pa2_6 pn2_6 pc2_6), (.slice pa2_7 pn2_7 pc2_7)]) g_70 z_70 z z fid (h17.row 0 8 z)) ?_)
   have h28 := lt_ h11.size h10.size
   obtain ⟨r3b, e3c, hm29⟩ := bdS hu39
   refine E z (fc call117 z (W_impl_plainRule (B := B) e3c (lt_ hBw h28) p2_0 p2_1 p2_2 ((p2_4.ext h11).ext h10) ((p2_5.ext h11).ext h10) ((p2_6.ext h11).ext h10) ((p2_7.ext h11).ext h10) (ii z))) ?_
   rintro _ w5m ⟨s1i, rfl⟩
   refine Rm z ?_
   rcases bs r3b with hc1d | hc1d
   ·refine Rh z hc1d (fd f_70_2 z) ?_
    have h2a := h17.ext s1i
    refine Rh z hc1d (l1 g_3 z fid (h2a.at z)) ?_
    obtain ⟨r3d, e3e, hm2b⟩ := bdS (ifT hm29 hc1d)
    refine Eg z z hc1d z (fc call102 z (W_impl_InRange (B := B) e3e (lt_ hBw (lt_ h28 s1i.size)) p2_2 (ii z) (ii z))) ?_
    rintro _ w5n ⟨s1l, rfl⟩
    refine R z (pT z hc1d z) (Rm z ?_)
    rcases bs r3d with hc16 | hc16
    ·have hm2c := ifT hm2b hc16
     refine Rh z hc16 (fd f_70_3 z) ?_
     have h2d := h2a.ext s1l
     refine Rh z hc16 (l1 g_4 z fid (h2d.at z)) (Rh z hc16 (not_ z) (Rh z hc16 (mv z) ?_))
     rcases bs (!x2.little) with hc1e | hc1e
     ·iterate 3 refine Nh z hc1e ?_
      exact Rh z hc16 (pT z hc1e z) (R z (pT z hc16 z) (Ra z (Wl (fun _ q => ⟨true, som (ifT hm2c hc1e), (q.k (s1 z)), (bup s1i s1l)⟩))))
     exact Rh z hc1e (fd f_70_2 z) (Rh z hc1e (l1 g_3 z fid (h2d.at z)) (Rh z hc1e (rd_gtr z z) (Rh z hc16 (pF z hc1e z) (R z (pT z hc16 z) (Ra z (Wl (fun _ q => ⟨decide (1 < x2.size), som (ifF hm2c hc1e), (q.k (s1 z)), (bup s1i s1l)⟩)))))))
    iterate 4 refine Nh z hc16 ?_
    exact Nv z (Nv z (Nv z (Nh z hc16 (R z (pF z hc16 z) (Ra z (Wl (fun _ q => ⟨false, som (ifF hm2b hc16), (q.k (s1 z)), (bup s1i s1l)⟩)))))))
   iterate 3 refine Nh z hc1d ?_
   exact R z (pF z hc1d z) (Rm z (Nh z z (Nh z z (Nh z z (Nh z z (Nv z (Nv z (Nv z (Nh z z (R z (pF z z z) (Ra z (Wl (fun _ q => ⟨false, som (ifF hm29 hc1d), (q.k (s1 z)), s1i⟩)))))))))))))
  rintro a3f w5o ⟨x1q, rfl, hS5p, s3g⟩
  revert a3f
  refine Wo ?_
  obtain rfl := som hm3a
  exact Wr (rtO (ret1 hr z ⟨(bup (bup h11 h10) s3g), z⟩))
 have hm2e := ifF hm hc1p
 refine Ws (R z (eql z z) (Ra z (Wn (Wc z (fun hc1r => ?_) (fun hc1r => ?_)))))
 ·refine Wq ?_
  obtain ⟨u3h, hu3i, hm3j⟩ := bdS (ifT hm2e hc1r)
  refine WC_cut (fun a w => ∃ (x1s : Bool), x1s = u3h ∧ Sat 102 [(4, (vB x1s))] a ∧ Below w12.heap.size w12 w) ?_ ?_
  ·refine Wg (R z (lN (vs := [(Str.v x2.name), (vI x2.kind), (vI x2.size), (vB x2.little), (.slice pa2_4 pn2_4 pc2_4), (.slice pa2_5 pn2_5 pc2_5), (.slice pa2_6 pn2_6 pc2_6), (.slice pa2_7 pn2_7 pc2_7)]) g_70 z_70 z z fid (h17.row 0 8 z)) ?_)
   have h2f := (p2_4.ext h11).ext h10
   have h2g := lt_ h11.size h10.size
   obtain ⟨r3k, e3l, hm2h⟩ := bdS hu3i
   refine E z (fc call117 z (W_impl_plainRule (B := B) e3l (lt_ hBw h2g) p2_0 p2_1 p2_2 h2f ((p2_5.ext h11).ext h10) ((p2_6.ext h11).ext h10) ((p2_7.ext h11).ext h10) (ii z))) ?_
   rintro _ w5q ⟨s1j, rfl⟩
   refine Rm z ?_
   rcases bs r3k with hc19 | hc19
   ·refine Rh z hc19 (fd f_70_4 z) (Rh z hc19 (l1 g_26 z fid ((h17.ext s1j).at z)) ?_)
    have h2i := h2f.ext s1j
    refine Rh z hc19 (lnR d_26 z h2i) ?_
    obtain ⟨r3m, e3n, hm3o⟩ := bdS (ifT hm2h hc19)
    refine Eg z z hc19 z (fc call102 z (W_impl_InRange (B := B) e3n (lt_ hBw (lt_ h2g s1j.size)) (inI_len (repS.len h2i)) (ii z) (ii z))) ?_
    rintro _ w5r ⟨s3p, rfl⟩
    exact R z (pT z hc19 z) (Ra z (Wl (fun _ q => ⟨r3m, som hm3o, (q.k (s1 z)), (bup s1j s3p)⟩)))
   iterate 4 refine Nh z hc19 ?_
   exact R z (pF z hc19 z) (Ra z (Wl (fun _ q => ⟨false, som (ifF hm2h hc19), (q.k (s1 z)), s1j⟩)))
  rintro a3q w5s ⟨x1s, rfl, hS5t, s3r⟩
  revert a3q
  refine Wo ?_
  obtain rfl := som hm3j
  exact Wr (rtO (ret1 hr z ⟨(bup (bup h11 h10) s3r), z⟩))
 have hm2j := ifF hm2e hc1r
 refine Ws (R z (eql z z) (Ra z (Wn (Wc z (fun hc1t => ?_) (fun hc1t => ?_)))))
 ·refine Wq ?_
  obtain ⟨u3s, hu3t, hm3u⟩ := bdS (ifT hm2j hc1t)
  refine WC_cut (fun a w => ∃ (x1u : Bool), x1u = u3s ∧ Sat 102 [(4, (vB x1u))] a ∧ Below w12.heap.size w12 w) ?_ ?_
  ·refine Wg (R z (lN (vs := [(Str.v x2.name), (vI x2.kind), (vI x2.size), (vB x2.little), (.slice pa2_4 pn2_4 pc2_4), (.slice pa2_5 pn2_5 pc2_5), (.slice pa2_6 pn2_6 pc2_6), (.slice pa2_7 pn2_7 pc2_7)]) g_70 z_70 z z fid (h17.row 0 8 z)) ?_)
   have h2k := lt_ h11.size h10.size
   obtain ⟨r3v, e3w, hm2l⟩ := bdS hu3t
   refine E z (fc call117 z (W_impl_plainRule (B := B) e3w (lt_ hBw h2k) p2_0 p2_1 p2_2 ((p2_4.ext h11).ext h10) ((p2_5.ext h11).ext h10) ((p2_6.ext h11).ext h10) ((p2_7.ext h11).ext h10) (ii z))) ?_
   rintro _ w5u ⟨s1m, rfl⟩
   refine Rm z ?_
   rcases bs r3v with hc1f | hc1f
   ·refine Rh z hc1f (fd f_70_2 z) (Rh z hc1f (l1 g_3 z fid ((h17.ext s1m).at z)) ?_)
    obtain ⟨r3x, e3y, hm3z⟩ := bdS (ifT hm2l hc1f)
    refine Eg z z hc1f z (fc call102 z (W_impl_InRange (B := B) e3y (lt_ hBw (lt_ h2k s1m.size)) p2_2 (ii z) (ii z))) ?_
    rintro _ w5v ⟨s40, rfl⟩
    exact R z (pT z hc1f z) (Ra z (Wl (fun _ q => ⟨r3x, som hm3z, (q.k (s1 z)), (bup s1m s40)⟩)))
   iterate 3 refine Nh z hc1f ?_
   exact R z (pF z hc1f z) (Ra z (Wl (fun _ q => ⟨false, som (ifF hm2l hc1f), (q.k (s1 z)), s1m⟩)))
  rintro a41 w5w ⟨x1u, rfl, hS5x, s42⟩
  revert a41
  refine Wo ?_
  obtain rfl := som hm3u
  exact Wr (rtO (ret1 hr z ⟨(bup (bup h11 h10) s42), z⟩))
 have hm2m := ifF hm2j hc1t
 refine Ws (R z (eql z z) (Ra z (Wn (Wc z (fun hc1v => ?_) (fun hc1v => ?_)))))
 ·refine Wq ?_
  obtain ⟨u43, hu44, hm45⟩ := bdS (ifT hm2m hc1v)
  refine WC_cut (fun a w => ∃ (x1w : Bool), x1w = u43 ∧ Sat 102 [(4, (vB x1w))] a ∧ Below w12.heap.size w12 w) ?_ ?_
  ·refine WC_draw (X := noX) 0 (.rd 0 (.ef 1 (.rd 2 (.rd 3 (.rd 4 (.rd 5 (.rd 6 (.rd 7 (.ef 8 (.rd 9 (.rd 10 (.rd 11 .done)))))))))))) mo (by kernel_rfl) fun w5y s1a _ => ?_
   have h2n := h17.ext s1a
   refine dR z z (lN (vs := [(Str.v x2.name), (vI x2.kind), (vI x2.size), (vB x2.little), (.slice pa2_4 pn2_4 pc2_4), (.slice pa2_5 pn2_5 pc2_5), (.slice pa2_6 pn2_6 pc2_6), (.slice pa2_7 pn2_7 pc2_7)]) g_70 z_70 z z fid (h2n.row 0 8 z)) ?_
   have h2o := ((p2_7.ext h11).ext h10).ext s1a
   have h2p := lt_ (lt_ h11.size h10.size) s1a.size
   obtain ⟨r46, e47, hm2q⟩ := bdS hu44
   refine dE z z (fc call117 z (W_impl_plainRule (B := B) e47 (lt_ hBw h2p) p2_0 p2_1 p2_2 (((p2_4.ext h11).ext h10).ext s1a) (((p2_5.ext h11).ext h10).ext s1a) (((p2_6.ext h11).ext h10).ext s1a) h2o (ii z))) (.inr fun _ _ h => chgB (h.1)) ?_
   rintro _ w5z ⟨s1g, rfl⟩
   refine dR z z (mv z) ?_
   rcases bs r46 with hc13 | hc13
   ·refine dRg z z z hc13 z (lN (vs := [(.slice pa1_0 pn1_0 pc1_0)]) g_34 z_34 z z fid ((((h1o.ext h10).ext s1a).ext s1g).row 0 1 z)) (dRg z z z hc13 z (fd f_70_7 z) (dRg z z z hc13 z (l1 g_63 z fid ((h2n.ext s1g).at z)) ?_))
    obtain ⟨x60, e48, hm49⟩ := bdS (ifT hm2q hc13)
    refine dRXg z z z hc13 z (at_ (α := Int) d_63 z_3 z z z (h2o.ext s1g) e48) ?_
    rintro _ ⟨b61, o62, cs63, rfl, h4a, h4b, h64⟩
    obtain ⟨rfl, h4c⟩ := Int_open h4b
    refine dRg z z z hc13 z (l1 g_3 z fid (h4a.at0 z)) ?_
    obtain ⟨r4d, e4e, hm4f⟩ := bdS hm49
    refine dEg z z z hc13 z (fc call118 z (W_impl_IntegerLimit (B := B) e4e (lt_ hBw (lt_ h2p s1g.size)) ((((p1_0.ext h11).ext h10).ext s1a).ext s1g) h4c)) (.inr fun _ _ h => chgB (h.1)) ?_
    rintro _ w65 ⟨s4g, rfl, h66⟩
    exact dRg z z z hc13 z (rd_gtr z z) (dR z z (pT z hc13 z) (dR z z (asg z) (PR_done (fun _ q => ⟨decide (0 < r4d), som hm4f, (q.k (s1 z)), (bup (bup s1a s1g) s4g)⟩))))
   iterate 5 refine dRn z z z hc13 z ?_
   exact dEn z z z hc13 z (dRn z z z hc13 z (dR z z (pF z hc13 z) (dR z z (asg z) (PR_done (fun _ q => ⟨false, som (ifF hm2q hc13), (q.k (s1 z)), (bup s1a s1g)⟩)))))
  rintro a4h w67 ⟨x1w, rfl, hS68, s4i⟩
  revert a4h
  refine Wo ?_
  obtain rfl := som hm45
  exact Wr (rtO (ret1 hr z ⟨(bup (bup h11 h10) s4i), z⟩))
 have hm2r := ifF hm2m hc1v
 refine Ws (R z (eql z z) (Ra z (Wn (Wc z (fun hc1x => ?_) (fun hc1x => ?_)))))
 ·refine Wq ?_
  obtain ⟨u4j, hu4k, hm4l⟩ := bdS (ifT hm2r hc1x)
  refine WC_cut (fun a w => ∃ (x1y : Bool), x1y = u4j ∧ Sat 102 [(4, (vB x1y))] a ∧ Below w12.heap.size w12 w) ?_ ?_
  ·refine WC_draw (X := noX) 0 (.rd 0 (.ef 1 (.rd 2 (.rd 3 (.rd 4 (.rd 5 (.rd 6 (.rd 7 (.ef 8 (.rd 9 (.rd 10 (.rd 11 .done)))))))))))) mo (by kernel_rfl) fun w69 s1b _ => ?_
   have h2s := h17.ext s1b
   refine dR z z (lN (vs := [(Str.v x2.name), (vI x2.kind), (vI x2.size), (vB x2.little), (.slice pa2_4 pn2_4 pc2_4), (.slice pa2_5 pn2_5 pc2_5), (.slice pa2_6 pn2_6 pc2_6), (.slice pa2_7 pn2_7 pc2_7)]) g_70 z_70 z z fid (h2s.row 0 8 z)) ?_
   have h2t := ((p2_7.ext h11).ext h10).ext s1b
   have h2u := lt_ (lt_ h11.size h10.size) s1b.size
   obtain ⟨r4m, e4n, hm2v⟩ := bdS hu4k
   refine dE z z (fc call117 z (W_impl_plainRule (B := B) e4n (lt_ hBw h2u) p2_0 p2_1 p2_2 (((p2_4.ext h11).ext h10).ext s1b) (((p2_5.ext h11).ext h10).ext s1b) (((p2_6.ext h11).ext h10).ext s1b) h2t (ii z))) (.inr fun _ _ h => chgB (h.1)) ?_
   rintro _ w6a ⟨s1h, rfl⟩
   refine dR z z (mv z) ?_
   rcases bs r4m with hc14 | hc14
   ·refine dRg z z z hc14 z (lN (vs := [(.slice pa1_0 pn1_0 pc1_0)]) g_34 z_34 z z fid ((((h1o.ext h10).ext s1b).ext s1h).row 0 1 z)) (dRg z z z hc14 z (fd f_70_7 z) (dRg z z z hc14 z (l1 g_63 z fid ((h2s.ext s1h).at z)) ?_))
    obtain ⟨x6b, e4o, hm4p⟩ := bdS (ifT hm2v hc14)
    refine dRXg z z z hc14 z (at_ (α := Int) d_63 z_3 z z z (h2t.ext s1h) e4o) ?_
    rintro _ ⟨b6c, o6d, cs6e, rfl, h4q, h4r, h6f⟩
    obtain ⟨rfl, h4s⟩ := Int_open h4r
    refine dRg z z z hc14 z (l1 g_3 z fid (h4q.at0 z)) ?_
    obtain ⟨r4t, e4u, hm4v⟩ := bdS hm4p
    refine dEg z z z hc14 z (fc call118 z (W_impl_IntegerLimit (B := B) e4u (lt_ hBw (lt_ h2u s1h.size)) ((((p1_0.ext h11).ext h10).ext s1b).ext s1h) h4s)) (.inr fun _ _ h => chgB (h.1)) ?_
    rintro _ w6g ⟨s4w, rfl, h6h⟩
    exact dRg z z z hc14 z (rd_gtr z z) (dR z z (pT z hc14 z) (dR z z (asg z) (PR_done (fun _ q => ⟨decide (0 < r4t), som hm4v, (q.k (s1 z)), (bup (bup s1b s1h) s4w)⟩))))
   iterate 5 refine dRn z z z hc14 z ?_
   exact dEn z z z hc14 z (dRn z z z hc14 z (dR z z (pF z hc14 z) (dR z z (asg z) (PR_done (fun _ q => ⟨false, som (ifF hm2v hc14), (q.k (s1 z)), (bup s1b s1h)⟩)))))
  rintro a4x w6i ⟨x1y, rfl, hS6j, s4y⟩
  revert a4x
  refine Wo ?_
  obtain rfl := som hm4l
  exact Wr (rtO (ret1 hr z ⟨(bup (bup h11 h10) s4y), z⟩))
 have hm2w := ifF hm2r hc1x
 refine Ws (R z (eql z z) (Ra z (Wn (Wc z (fun hc1z => ?_) (fun hc1z => ?_)))))
 ·refine Ws (R z (lN (vs := [(Str.v x2.name), (vI x2.kind), (vI x2.size), (vB x2.little), (.slice pa2_4 pn2_4 pc2_4), (.slice pa2_5 pn2_5 pc2_5), (.slice pa2_6 pn2_6 pc2_6), (.slice pa2_7 pn2_7 pc2_7)]) g_70 z_70 z z fid (h17.row 0 8 z)) ?_)
  obtain ⟨r6k, e4z, hm50⟩ := bdS (ifT hm2w hc1z)
  refine E z (fc call119 z (W_impl_validSequence (B := B) e4z (lt_ hBw (lt_ h11.size h10.size)) p2_0 p2_1 p2_2 ((p2_4.ext h11).ext h10) ((p2_5.ext h11).ext h10) ((p2_6.ext h11).ext h10) ((p2_7.ext h11).ext h10))) ?_
  rintro _ w6l ⟨s51, rfl⟩
  refine Ra z (Wn ?_)
  obtain rfl := som hm50
  exact Wr (rtO (ret1 hr z ⟨(bup (bup h11 h10) s51), z⟩))
 have hm2x := ifF hm2w hc1z
 refine Ws (R z (eql z z) (Ra z (Wn (Wc z (fun hc20 => ?_) (fun hc20 => ?_)))))
 ·refine Ws (R z (lN (vs := [(.slice pa1_0 pn1_0 pc1_0)]) g_34 z_34 z z fid ((h1o.ext h10).row 0 1 z)) (R z (lN (vs := [(Str.v x2.name), (vI x2.kind), (vI x2.size), (vB x2.little), (.slice pa2_4 pn2_4 pc2_4), (.slice pa2_5 pn2_5 pc2_5), (.slice pa2_6 pn2_6 pc2_6), (.slice pa2_7 pn2_7 pc2_7)]) g_70 z_70 z z fid (h17.row 0 8 z)) ?_))
  obtain ⟨r6m, e52, hm53⟩ := bdS (ifT hm2x hc20)
  refine E z (fc call120 z (W_impl_validChoice (B := B) e52 (lt_ hBw (lt_ h11.size h10.size)) ((p1_0.ext h11).ext h10) p2_0 p2_1 p2_2 ((p2_4.ext h11).ext h10) ((p2_5.ext h11).ext h10) ((p2_6.ext h11).ext h10) ((p2_7.ext h11).ext h10))) ?_
  rintro _ w6n ⟨s54, rfl⟩
  refine Ra z (Wn ?_)
  obtain rfl := som hm53
  exact Wr (rtO (ret1 hr z ⟨(bup (bup h11 h10) s54), z⟩))
 refine Wq (Ws (R z (eql z z) (Ra z (Wn ?_))))
 obtain ⟨u55, hu2y, hm2z⟩ := bdS (ifF hm2x hc20)
 refine WC_cut (fun a w => ∃ (x21 : Bool), x21 = u55 ∧ Sat 102 [(3, (.pointer (some ⟨w1n.heap.size, 0, none⟩))), (6, (vI x2.kind)), (80, (vB x21))] a ∧ Below w12.heap.size w12 w) ?_ ?_
 ·refine Wc z (fun hc22 => ?_) (fun hc22 => ?_)
  ·exact WC_skip (fun _ q => ⟨x2.kind == 8, som (ifT hu2y hc22), (q.k (s3 z z z)), (br w12)⟩)
  exact Wg (R z (eql z z) (Ra z (Wl (fun _ q => ⟨x2.kind == 9, som (ifF hu2y hc22), (q.k (s3 z z z)), (br w12)⟩))))
 rintro a56 w30 ⟨x21, rfl, hS6o, s15⟩
 revert a56
 refine Wo (Wc z (fun hc23 => ?_) (fun hc23 => ?_))
 ·refine Ws (R z (lN (vs := [(Str.v x2.name), (vI x2.kind), (vI x2.size), (vB x2.little), (.slice pa2_4 pn2_4 pc2_4), (.slice pa2_5 pn2_5 pc2_5), (.slice pa2_6 pn2_6 pc2_6), (.slice pa2_7 pn2_7 pc2_7)]) g_70 z_70 z z fid ((h17.ext s15).row 0 8 z)) ?_)
  obtain ⟨r6p, e57, hm58⟩ := bdS (ifT hm2z hc23)
  refine E z (fc call117 z (W_impl_plainRule (B := B) e57 (lt_ hBw (lt_ (lt_ h11.size h10.size) s15.size)) p2_0 p2_1 p2_2 (((p2_4.ext h11).ext h10).ext s15) (((p2_5.ext h11).ext h10).ext s15) (((p2_6.ext h11).ext h10).ext s15) (((p2_7.ext h11).ext h10).ext s15) (ii z))) ?_
  rintro _ w6q ⟨s59, rfl⟩
  refine Ra z (Wn ?_)
  obtain rfl := som hm58
  exact Wr (rtO (ret1 hr z ⟨(bup (bup (bup h11 h10) s15) s59), z⟩))
 have hm31 := ifF hm2z hc23
 refine Ws (R z (eql z z) (Ra z (Wn (Wc z (fun hc24 => ?_) (fun hc24 => ?_)))))
 ·refine Wq ?_
  obtain ⟨u5a, hu5b, hm5c⟩ := bdS (ifT hm31 hc24)
  refine WC_cut (fun a w => ∃ (x25 : Bool), x25 = u5a ∧ Sat 102 [(4, (vB x25))] a ∧ Below w30.heap.size w30 w) ?_ ?_
  ·refine Wg ?_
   have h32 := h17.ext s15
   refine R z (lN (vs := [(Str.v x2.name), (vI x2.kind), (vI x2.size), (vB x2.little), (.slice pa2_4 pn2_4 pc2_4), (.slice pa2_5 pn2_5 pc2_5), (.slice pa2_6 pn2_6 pc2_6), (.slice pa2_7 pn2_7 pc2_7)]) g_70 z_70 z z fid (h32.row 0 8 z)) ?_
   have h33 := ((p2_4.ext h11).ext h10).ext s15
   obtain ⟨r5d, e5e, hm34⟩ := bdS hu5b
   refine E z (fc call117 z (W_impl_plainRule (B := B) e5e (lt_ hBw (lt_ (lt_ h11.size h10.size) s15.size)) p2_0 p2_1 p2_2 h33 (((p2_5.ext h11).ext h10).ext s15) (((p2_6.ext h11).ext h10).ext s15) (((p2_7.ext h11).ext h10).ext s15) (ii z))) ?_
   rintro _ w6r ⟨s1k, rfl⟩
   refine Rm z ?_
   rcases bs r5d with hc1c | hc1c
   ·have hm35 := ifT hm34 hc1c
    refine Rh z hc1c (fd f_70_4 z) ?_
    have h36 := h32.ext s1k
    refine Rh z hc1c (l1 g_26 z fid (h36.at z)) ?_
    have h37 := h33.ext s1k
    refine Rh z hc1c (lnR d_26 z h37) (Rh z hc1c (eql z z) (R z (pT z hc1c z) (Rm z ?_)))
    rcases bs ((x2.bytes.length : Int) == 1) with hc18 | hc18
    ·refine Rh z hc18 (fd f_70_4 z) (Rh z hc18 (l1 g_26 z fid (h36.at z)) ?_)
     obtain ⟨x5f, e5g, hm5h⟩ := bdS (ifT hm35 hc18)
     refine RXg z z hc18 z (at_ (α := UInt8) d_26 z_5 z z z h37 e5g) ?_
     rintro _ ⟨b6s, o6t, cs6u, rfl, h5i, h5j, h6v⟩
     obtain rfl := UInt8_open h5j
     exact Rh z hc18 (l1 g_5 z fid (h5i.at0 z)) (Rh z hc18 (nq z z) (R z (pT z hc18 z) (Ra z (Wl (fun _ q => ⟨(byteI x5f) != (byteI (92 : UInt8)), som hm5h, (q.k (s1 z)), s1k⟩)))))
    iterate 5 refine Nh z hc18 ?_
    exact R z (pF z hc18 z) (Ra z (Wl (fun _ q => ⟨false, som (ifF hm35 hc18), (q.k (s1 z)), s1k⟩)))
   iterate 4 refine Nh z hc1c ?_
   exact R z (pF z hc1c z) (Rm z (Nh z z (Nh z z (Nh z z (Nh z z (Nh z z (R z (pF z z z) (Ra z (Wl (fun _ q => ⟨false, som (ifF hm34 hc1c), (q.k (s1 z)), s1k⟩))))))))))
  rintro a5k w6w ⟨x25, rfl, hS6x, s5l⟩
  revert a5k
  refine Wo ?_
  obtain rfl := som hm5c
  exact Wr (rtO (ret1 hr z ⟨(bup (bup (bup h11 h10) s15) s5l), z⟩))
 refine Wk (Ws (Ra z (Wn ?_)))
 obtain rfl := som (ifF hm31 hc24)
 exact Wr (ret1 hr z ⟨(bup (bup h11 h10) s15), z⟩)
def Q_impl_IsValidRule (w0 : World) (B : Nat) (r : Bool) (v : Value) (w' : World) : Prop := Below w0.heap.size w0 w' ∧ (fun r1 => (vB r1) = v) r
theorem W_impl_IsValidRule {x1 : Desc} {x2 : Int} {res : Bool} (hm : M_impl_IsValidRule n x1 x2 = some res) (hBw : B ≤ w0.heap.size) (p1_0 : repS w0 B (.slice pa1_0 pn1_0 pc1_0) x1.rules) (p2_0 : inI x2) : CallsR prog 103 [(.agg #[(.slice pa1_0 pn1_0 pc1_0)]), (vI x2)] w0 (Q_impl_IsValidRule w0 B res) := by
 unfold M_impl_IsValidRule at hm
 obtain ⟨fn, hf, hb, hN, hr⟩ := fnE func103
 refine goW hf (hb.trans z) (hN.trans z) (lb z) (Ws (E z (fb z) ?_))
 rintro _ w3i ⟨rfl, h2f⟩
 have h17 := h2f.below
 have h1q : Blk w3i w0.heap.size [(.slice pa1_0 pn1_0 pc1_0)] := h2f.blk
 refine Ra z (Wn (Wq (Ws (R z (lN (vs := [(.slice pa1_0 pn1_0 pc1_0)]) g_34 z_34 z z fid (h1q.row 0 1 z)) (Rm z ?_)))))
 have h2g := p1_0.ext h17
 obtain ⟨r51, e3j, hm2h⟩ := bdS hm
 refine E z (fc call78 z (W_impl_hasRule (B := B) e3j (lt_ hBw h17.size) h2g p2_0)) ?_
 rintro _ w15 ⟨s16, rfl⟩
 refine R z (not_ z) (Wn (Wc z (fun hc1r => ?_) (fun hc1r => ?_)))
 ·refine Ws (Ra z (Wn ?_))
  obtain rfl := som (ifT hm2h hc1r)
  exact Wr (ret1 hr z ⟨(bup h17 s16), z⟩)
 refine Wk (Ws (R z (fd f_34_0 z) ?_))
 have h2i := h1q.ext s16
 refine R z (l1 g_32 z fid (h2i.at z)) (Rm z ?_)
 obtain ⟨x10, e3k, hm3l⟩ := bdS (ifF hm2h hc1r)
 have h2j := h2g.ext s16
 refine RX z (at_ (α := Rule) d_32 z_70 z z z h2j e3k) ?_
 rintro _ ⟨b52, o53, cs54, rfl, h3m, h3n, h55⟩
 obtain ⟨a1s, n1t, c1u, a1v, n1w, c1x, a1y, n1z, c20, a1d, n1e, c1f, rfl, h2k, h3o, h3p, h3q, h3r, h3s, h2l⟩ := Rule_open h3n
 refine R z (lN (vs := [(Str.v x10.name), (vI x10.kind), (vI x10.size), (vB x10.little), (.slice a1s n1t c1u), (.slice a1v n1w c1x), (.slice a1y n1z c20), (.slice a1d n1e c1f)]) g_70 z_70 z z fid h3m) (E z (fa zero_70) ?_)
 rintro _ w3t ⟨rfl, h2m⟩
 have h13 := h2m.below
 have h2n : Blk w3t w15.heap.size [(Str.v (⟨[]⟩ : Str)), (vI 0), (vI 0), (vB false), (.slice none 0 0), (.slice none 0 0), (.slice none 0 0), (.slice none 0 0)] := h2m.blk
 refine E0 (fs (cur' := [(Str.v x10.name), (vI x10.kind), (vI x10.size), (vB x10.little), (.slice a1s n1t c1u), (.slice a1v n1w c1x), (.slice a1y n1z c20), (.slice a1d n1e c1f)]) z_70 z z h2n z (lb z) (oA z) z) ?_
 rintro _ w2o ⟨h1l, s3u⟩
 have h12 := s3u.one
 refine Wn (Wq (Wq ?_))
 obtain ⟨u3v, hu3w, hm2p⟩ := bdS hm3l
 refine WC_cut (fun a w => ∃ (x21 : Bool), x21 = u3v ∧ Sat 65 [(1, (vI x2)), (2, (.pointer (some ⟨w0.heap.size, 0, none⟩))), (5, (.pointer (some ⟨w15.heap.size, 0, none⟩))), (31, (vB x21))] a ∧ Below w2o.heap.size w2o w) ?_ ?_
 ·refine Wg (R z (fd f_70_0 z) (R z (l1 g_9 z fid (h1l.at z)) ?_))
  obtain ⟨r3x, e3y, hm2q⟩ := bdS hu3w
  refine E z (fc call112 z (W_impl_IsName (B := B) e3y (lt_ hBw (lt_ (lt_ (lt_ h17.size s16.size) h13.size) h12.size)) h2k)) ?_
  rintro _ w56 ⟨s1m, rfl⟩
  refine R z (not_ z) (Rm z ?_)
  rcases bs (!r3x) with hc14 | hc14
  ·iterate 3 refine Nh z hc14 ?_
   exact Nv z (Nv z (Nv z (Nh z hc14 (R z (pT z hc14 z) (Wl (fun _ q => ⟨true, som (ifT hm2q hc14), (q.k (s4 z z z z)), s1m⟩))))))
  have hm2r := ifF hm2q hc14
  refine Rh z hc14 (fd f_70_3 z) ?_
  have h2s := h1l.ext s1m
  refine Rh z hc14 (l1 g_4 z fid (h2s.at z)) (Rh z hc14 (mv z) ?_)
  rcases bs x10.little with hc19 | hc19
  ·exact Rh z hc19 (fd f_70_1 z) (Rh z hc19 (l1 g_3 z fid (h2s.at z)) (Rh z hc19 (nq z z) (Rh z hc14 (pT z hc19 z) (R z (pF z hc14 z) (Wl (fun _ q => ⟨x10.kind != 1, som (ifT hm2r hc19), (q.k (s4 z z z z)), s1m⟩))))))
  iterate 3 refine Nh z hc19 ?_
  exact Rh z hc14 (pF z hc19 z) (R z (pF z hc14 z) (Wl (fun _ q => ⟨false, som (ifF hm2r hc19), (q.k (s4 z z z z)), s1m⟩)))
 rintro a3z w1i ⟨x21, rfl, hS57, s11⟩
 revert a3z
 refine Wo (Wc z (fun hc22 => ?_) (fun hc22 => ?_))
 ·refine Ws (Ra z (Wn ?_))
  obtain rfl := som (ifT hm2p hc22)
  exact Wr (ret1 hr z ⟨(bup (bM (bup (bup h17 s16) h13) h12 (mem1le (lt_ h17.size s16.size))) s11), z⟩)
 refine Wk (Wq (Ws (R z (fd f_34_0 z) ?_)))
 have h2t := ((h2i.ext h13).chg h12 (djs (mm1 h1q.lt s16.size))).ext s11
 refine R z (l1 g_32 z fid (h2t.at z)) (Rm z ?_)
 obtain ⟨x1n, e40, hm41⟩ := bdS (ifF hm2p hc22)
 have h1h := lt_ h17.size s16.size
 have h1j := mem1le (lt_ hBw h1h)
 have h2u := ((h2j.ext h13).chg h12 (lg h1j)).ext s11
 refine RX z (rd_sliceX d_32 z_70 z z h2u z z e40) ?_
 rintro _ ⟨a23, n24, c25, rfl, h26⟩
 refine R z (lnR d_32 z h26) (Rm z (Wn ?_))
 obtain ⟨u58, hu42, hm2v⟩ := bdS hm41
 refine WC_forN (σ := Unit) (ρ := Bool) (fun (k27 : Nat) (_ : Unit) a w => Sat 65 [(1, (vI x2)), (2, (.pointer (some ⟨w0.heap.size, 0, none⟩))), (5, (.pointer (some ⟨w15.heap.size, 0, none⟩))), (35, (.slice a23 n24 c25)), (36, (vI (x1n.length : Int))), (37, (vI ((k27 : Nat) : Int)))] a ∧ Below w1i.heap.size w1i w) (fun (_ : Unit) a w => Sat 65 [(1, (vI x2)), (2, (.pointer (some ⟨w0.heap.size, 0, none⟩))), (5, (.pointer (some ⟨w15.heap.size, 0, none⟩)))] a ∧ Below w1i.heap.size w1i w) (fun r ex a w => ex = .ret ∧ RetPost prog fn (Q_impl_IsValidRule w0 B r) a w) hu42 ?_ ?_ ?_ ?_ ?_
 ·exact fun _ q => ⟨(q.k (s6 z z z z z z)), (br w1i)⟩
 ·rintro k27 _ a59 w43 o5a hk2w ⟨hS44, s1g⟩ hm45
  refine Wu (e := [(1, (vI x2)), (2, (.pointer (some ⟨w0.heap.size, 0, none⟩))), (5, (.pointer (some ⟨w15.heap.size, 0, none⟩))), (35, (.slice a23 n24 c25)), (36, (vI (x1n.length : Int))), (37, (vI ((k27 : Nat) : Int)))]) (N := 65) ?_ hS44
  refine Ws (R z (lss z z) (Wn (Wq (Wc z (fun _ => ?_) (fun hc => (nolt hk2w hc).elim)))))
  refine Wk (Wq (WC_block (Ws ?_)))
  obtain ⟨x1c, e46, hm2x⟩ := bdS hm45
  refine RX z (at_ (α := Rule) d_32 z_70 z z z (h26.ext s1g) e46) ?_
  rintro _ ⟨b5b, o5c, cs5d, rfl, h47, h48, h5e⟩
  obtain ⟨a2y, n2z, c30, a31, n32, c33, a34, n35, c36, a37, n38, c39, rfl, h5f, h5g, h5h, h5i, h5j, h5k, h5l⟩ := Rule_open h48
  refine R z (lN (vs := [(Str.v x1c.name), (vI x1c.kind), (vI x1c.size), (vB x1c.little), (.slice a2y n2z c30), (.slice a31 n32 c33), (.slice a34 n35 c36), (.slice a37 n38 c39)]) g_70 z_70 z z fid h47) (E z (fa zero_70) ?_)
  rintro _ w49 ⟨rfl, h3a⟩
  have h28 := h3a.below
  have h4a : Blk w49 w43.heap.size [(Str.v (⟨[]⟩ : Str)), (vI 0), (vI 0), (vB false), (.slice none 0 0), (.slice none 0 0), (.slice none 0 0), (.slice none 0 0)] := h3a.blk
  refine E0 (fs (cur' := [(Str.v x1c.name), (vI x1c.kind), (vI x1c.size), (vB x1c.little), (.slice a2y n2z c30), (.slice a31 n32 c33), (.slice a34 n35 c36), (.slice a37 n38 c39)]) z_70 z z h4a z (lb z) (oA z) z) ?_
  rintro _ w5m ⟨h4b, s4c⟩
  have h29 := s4c.one
  refine Wn (Ws (R z (fd f_70_0 z) (R z (l1 g_9 z fid (h4b.at z)) (R z (fd f_70_0 z) (R z (l1 g_9 z fid (((((h1l.ext s11).ext s1g).ext h28).chg h29 (djs (mm1 h2n.lt (lt_ (lt_ h12.size s11.size) s1g.size)))).at z)) (R z (rd_eqlT z z) (Wn (Wc z (fun hc2a => ?_) (fun hc2a => ?_)))))))))
  ·exact Ws (Ra z (Wn (Wr (rtO (QO_retL (som (ifT hm2x hc2a)).symm (ret1 hr z ⟨(bM (bup (bup (bup (bM (bup (bup h17 s16) h13) h12 (mem1le h1h)) s11) s1g) h28) h29 (mem1le (lt_ (lt_ (lt_ (lt_ h1h h13.size) h12.size) s11.size) s1g.size))), z⟩))))))
  exact Wk (Wg (R z (inc_ hk2w (lt_ (repS.len h26) LEN_le) z z) (Rm z (Wl (fun _ q => ⟨(), (som (ifF hm2x hc2a)).symm, ⟨(q.k (s6 z z z z z z)), (bM (bup s1g h28) h29 (mem1le s1g.size))⟩⟩)))))
 ·rintro _ a5n w5o ⟨hS4d, s4e⟩
  refine Wu (e := [(1, (vI x2)), (2, (.pointer (some ⟨w0.heap.size, 0, none⟩))), (5, (.pointer (some ⟨w15.heap.size, 0, none⟩))), (35, (.slice a23 n24 c25)), (36, (vI (x1n.length : Int))), (37, (vI ((x1n.length : Nat) : Int)))]) (N := 65) ?_ hS4d
  refine Ws (R z (lss z z) (Wn (Wq (Wc z (fun hc => (noltt hc).elim) (fun _ => ?_)))))
  exact WC_exit (fun a' ha' => ⟨rfl, ⟨(Sat.weaken ha' (s3 z z z)), s4e⟩⟩)
 ·rintro _ a4f w1k rfl ⟨hS5p, s18⟩
  have hm4g := elL hm2v
  revert a4f
  refine Wo (Wq (Ws (R z (fd f_70_7 z) ?_)))
  have h3b := (h1l.ext s11).ext s18
  refine R z (l1 g_63 z fid (h3b.at z)) ?_
  have h2b := (((h2l.ext h13).chg h12 (lg h1j)).ext s11).ext s18
  refine R z (lnR d_63 z h2b) (Rm z (Wn ?_))
  obtain ⟨u5q, hu4h, hm3c⟩ := bdS hm4g
  refine WC_forN (σ := Unit) (ρ := Bool) (fun (k1o : Nat) (_ : Unit) a w => Sat 65 [(1, (vI x2)), (2, (.pointer (some ⟨w0.heap.size, 0, none⟩))), (5, (.pointer (some ⟨w15.heap.size, 0, none⟩))), (48, (.slice a1d n1e c1f)), (49, (vI (x10.kids.length : Int))), (50, (vI ((k1o : Nat) : Int)))] a ∧ Below w1k.heap.size w1k w) (fun (_ : Unit) a w => Sat 65 [(2, (.pointer (some ⟨w0.heap.size, 0, none⟩))), (5, (.pointer (some ⟨w15.heap.size, 0, none⟩)))] a ∧ Below w1k.heap.size w1k w) (fun r ex a w => ex = .ret ∧ RetPost prog fn (Q_impl_IsValidRule w0 B r) a w) hu4h ?_ ?_ ?_ ?_ ?_
  ·exact fun _ q => ⟨(q.k (s6 z z z z z z)), (br w1k)⟩
  ·rintro k1o _ a5r w1p o5s hk3d ⟨hS4i, s2c⟩ hm4j
   refine Wu (e := [(1, (vI x2)), (2, (.pointer (some ⟨w0.heap.size, 0, none⟩))), (5, (.pointer (some ⟨w15.heap.size, 0, none⟩))), (48, (.slice a1d n1e c1f)), (49, (vI (x10.kids.length : Int))), (50, (vI ((k1o : Nat) : Int)))]) (N := 65) ?_ hS4i
   refine Ws (R z (lss z z) (Wn (Wq (Wc z (fun _ => ?_) (fun hc => (nolt hk3d hc).elim)))))
   refine Wk (Wq (WC_block (Ws ?_)))
   obtain ⟨x3e, e4k, hm4l⟩ := bdS hm4j
   refine RX z (at_ (α := Int) d_63 z_3 z z z (h2b.ext s2c) e4k) ?_
   rintro _ ⟨b5t, o5u, cs5v, rfl, h4m, h4n, h5w⟩
   obtain ⟨rfl, h5x⟩ := Int_open h4n
   refine R z (l1 g_3 z fid (h4m.at0 z)) (Ra z (Wn (Wq ?_)))
   obtain ⟨u4o, hu3f, hm3g⟩ := bdS hm4l
   refine WC_cut (fun a w => ∃ (x2d : Bool), x2d = u4o ∧ Sat 65 [(1, (vI x2)), (2, (.pointer (some ⟨w0.heap.size, 0, none⟩))), (5, (.pointer (some ⟨w15.heap.size, 0, none⟩))), (48, (.slice a1d n1e c1f)), (49, (vI (x10.kids.length : Int))), (50, (vI ((k1o : Nat) : Int))), (60, (vB x2d))] a ∧ Below w1p.heap.size w1p w) ?_ ?_
   ·refine Wg (Rm z (R z (lss z z) (Rm z ?_)))
    rcases bs (decide (x3e < 0)) with hc1a | hc1a
    ·iterate 3 refine Nh z hc1a ?_
     exact R z (pT z hc1a z) (Wl (fun _ q => ⟨true, som (ifT hu3f hc1a), (q.k (s7 z z z z z z z)), (br w1p)⟩))
    exact Rh z hc1a (mv z) (Rh z hc1a (mv z) (Rh z hc1a (rd_geq z z) (R z (pF z hc1a z) (Wl (fun _ q => ⟨decide (x2 ≤ x3e), som (ifF hu3f hc1a), (q.k (s7 z z z z z z z)), (br w1p)⟩)))))
   rintro a4p w5y ⟨x2d, rfl, hS5z, s3h⟩
   revert a4p
   refine Wo (Wc z (fun hc2e => ?_) (fun hc2e => ?_))
   ·exact Ws (Ra z (Wn (Wr (rtO (QO_retL (som (ifT hm3g hc2e)).symm (ret1 hr z ⟨(bup (bup (bup (bup (bM (bup (bup h17 s16) h13) h12 (mem1le h1h)) s11) s18) s2c) s3h), z⟩))))))
   exact Wk (Wg (R z (inc_ hk3d (lt_ (repS.len h2l) LEN_le) z z) (Rm z (Wl (fun _ q => ⟨(), (som (ifF hm3g hc2e)).symm, ⟨(q.k (s6 z z z z z z)), (bup s2c s3h)⟩⟩)))))
  ·rintro _ a60 w61 ⟨hS4q, s4r⟩
   refine Wu (e := [(1, (vI x2)), (2, (.pointer (some ⟨w0.heap.size, 0, none⟩))), (5, (.pointer (some ⟨w15.heap.size, 0, none⟩))), (48, (.slice a1d n1e c1f)), (49, (vI (x10.kids.length : Int))), (50, (vI ((x10.kids.length : Nat) : Int)))]) (N := 65) ?_ hS4q
   refine Ws (R z (lss z z) (Wn (Wq (Wc z (fun hc => (noltt hc).elim) (fun _ => ?_)))))
   exact WC_exit (fun a' ha' => ⟨rfl, ⟨(Sat.weaken ha' (s2 z z)), s4r⟩⟩)
  ·rintro _ a4s w62 rfl ⟨hS63, s1b⟩
   have hm4t := elL hm3c
   revert a4s
   refine Wo (Ws (R z (lN (vs := [(.slice pa1_0 pn1_0 pc1_0)]) g_34 z_34 z z fid (((h2t.ext s18).ext s1b).row 0 1 z)) (R z (lN (vs := [(Str.v x10.name), (vI x10.kind), (vI x10.size), (vB x10.little), (.slice a1s n1t c1u), (.slice a1v n1w c1x), (.slice a1y n1z c20), (.slice a1d n1e c1f)]) g_70 z_70 z z fid ((h3b.ext s1b).row 0 8 z)) ?_)))
   obtain ⟨r64, e4u, hm4v⟩ := bdS hm4t
   refine E z (fc call113 z (W_impl_validKind (B := B) e4u (lt_ hBw (lt_ (lt_ (lt_ (lt_ (lt_ h1h h13.size) h12.size) s11.size) s18.size) s1b.size)) ((h2u.ext s18).ext s1b) h2k h3o h3p (((((h3q.ext h13).chg h12 (lg h1j)).ext s11).ext s18).ext s1b) (((((h3r.ext h13).chg h12 (lg h1j)).ext s11).ext s18).ext s1b) (((((h3s.ext h13).chg h12 (lg h1j)).ext s11).ext s18).ext s1b) (h2b.ext s1b))) ?_
   rintro _ w65 ⟨s4w, rfl⟩
   refine Ra z (Wn ?_)
   obtain rfl := som hm4v
   exact Wr (ret1 hr z ⟨(bup (bup (bup (bup (bM (bup (bup h17 s16) h13) h12 (mem1le h1h)) s11) s18) s1b) s4w), z⟩)
  rintro r66 ex67 a68 w69 rfl ⟨rfl, hq4x⟩
  have hm4y := elR hm3c
  obtain rfl := som hm4y
  exact ⟨hq4x, z⟩
 rintro r6a ex6b a6c w6d rfl ⟨rfl, hq4z⟩
 have hm50 := elR hm2v
 obtain rfl := som hm50
 exact ⟨hq4z, z⟩
def Q_impl_IsValidDescription (w0 : World) (B : Nat) (r : Bool) (v : Value) (w' : World) : Prop := Below w0.heap.size w0 w' ∧ (fun r1 => (vB r1) = v) r
theorem W_impl_IsValidDescription {x1 : Desc} {res : Bool} (hm : M_impl_IsValidDescription n x1 = some res) (hBw : B ≤ w0.heap.size) (p1_0 : repS w0 B (.slice pa1_0 pn1_0 pc1_0) x1.rules) : CallsR prog 77 [(.agg #[(.slice pa1_0 pn1_0 pc1_0)])] w0 (Q_impl_IsValidDescription w0 B res) := by
 unfold M_impl_IsValidDescription at hm
 obtain ⟨fn, hf, hb, hN, hr⟩ := fnE func77
 refine goW hf (hb.trans z) (hN.trans z) (lb z) (Ws (E z (fb z) ?_))
 rintro _ w1h ⟨rfl, h19⟩
 have h10 := h19.below
 have h1a : Blk w1h w0.heap.size [(.slice pa1_0 pn1_0 pc1_0)] := h19.blk
 refine Ra z (Wn (Wq (Ws (R z (fd f_34_0 z) (R z (l1 g_32 z fid (h1a.at z)) ?_)))))
 have h14 := p1_0.ext h10
 refine R z (lnR d_32 z h14) ?_
 obtain ⟨r1u, e1i, hm1b⟩ := bdS hm
 refine E z (fc call102 z (W_impl_InRange (B := B) e1i (lt_ hBw h10.size) (inI_len (repS.len h14)) (ii z) (ii z))) ?_
 rintro _ w12 ⟨s11, rfl⟩
 refine R z (not_ z) (Wn (Wc z (fun hc15 => ?_) (fun hc15 => ?_)))
 ·refine Ws (Ra z (Wn ?_))
  obtain rfl := som (ifT hm1b hc15)
  exact Wr (ret1 hr z ⟨(bup h10 s11), z⟩)
 refine Wk (Wq (Ws (R z (fd f_34_0 z) ?_)))
 have h1c := h1a.ext s11
 refine R z (l1 g_32 z fid (h1c.at z)) ?_
 have h1d := h14.ext s11
 refine R z (lnR d_32 z h1d) (Rm z (Wn ?_))
 obtain ⟨u1v, hu1j, hm1e⟩ := bdS (ifF hm1b hc15)
 refine WC_forN (σ := Unit) (ρ := Bool) (fun (k16 : Nat) (_ : Unit) a w => Sat 20 [(1, (.pointer (some ⟨w0.heap.size, 0, none⟩))), (11, (vI (x1.rules.length : Int))), (12, (vI ((k16 : Nat) : Int)))] a ∧ Below w12.heap.size w12 w) (fun (_ : Unit) a w => Sat 20 [] a ∧ Below w12.heap.size w12 w) (fun r ex a w => ex = .ret ∧ RetPost prog fn (Q_impl_IsValidDescription w0 B r) a w) hu1j ?_ ?_ ?_ ?_ ?_
 ·exact fun _ q => ⟨(q.k (s3 z z z)), (br w12)⟩
 ·rintro k16 _ a1w w1x o1y hk17 ⟨hS1k, s13⟩ hm1l
  refine Wu (e := [(1, (.pointer (some ⟨w0.heap.size, 0, none⟩))), (11, (vI (x1.rules.length : Int))), (12, (vI ((k16 : Nat) : Int)))]) (N := 20) ?_ hS1k
  refine Ws (R z (lss z z) (Wn (Wq (Wc z (fun _ => ?_) (fun hc => (nolt hk17 hc).elim)))))
  refine Wk (Wq (WC_block (Ws (Rm z (Ra z (Wn (Ws (R z (lN (vs := [(.slice pa1_0 pn1_0 pc1_0)]) g_34 z_34 z z fid ((h1c.ext s13).row 0 1 z)) (Rm z ?_)))))))))
  obtain ⟨r1z, e1m, hm1f⟩ := bdS hm1l
  refine E z (fc call103 z (W_impl_IsValidRule (B := B) e1m (lt_ hBw (lt_ (lt_ h10.size s11.size) s13.size)) (h1d.ext s13) (inI_cnt (Nat.le_of_lt hk17) (lt_ (repS.len p1_0) LEN_le)))) ?_
  rintro _ w20 ⟨s1g, rfl⟩
  refine R z (not_ z) (Wn (Wc z (fun hc18 => ?_) (fun hc18 => ?_)))
  ·exact Ws (Ra z (Wn (Wr (rtO (QO_retL (som (ifT hm1f hc18)).symm (ret1 hr z ⟨(bup (bup (bup h10 s11) s13) s1g), z⟩))))))
  exact Wk (Wg (R z (inc_ hk17 (lt_ (repS.len p1_0) LEN_le) z z) (Rm z (Wl (fun _ q => ⟨(), (som (ifF hm1f hc18)).symm, ⟨(q.k (s3 z z z)), (bup s13 s1g)⟩⟩)))))
 ·rintro _ a21 w22 ⟨hS1n, s1o⟩
  refine Wu (e := [(1, (.pointer (some ⟨w0.heap.size, 0, none⟩))), (11, (vI (x1.rules.length : Int))), (12, (vI ((x1.rules.length : Nat) : Int)))]) (N := 20) ?_ hS1n
  refine Ws (R z (lss z z) (Wn (Wq (Wc z (fun hc => (noltt hc).elim) (fun _ => ?_)))))
  exact WC_exit (fun a' ha' => ⟨rfl, ⟨(Sat.weaken ha' sn), s1o⟩⟩)
 ·rintro _ a1p w23 rfl ⟨hS24, s1q⟩
  have hm1r := elL hm1e
  revert a1p
  refine Wo (Ws (Ra z (Wn ?_)))
  obtain rfl := som hm1r
  exact Wr (ret1 hr z ⟨(bup (bup h10 s11) s1q), z⟩)
 rintro r25 ex26 a27 w28 rfl ⟨rfl, hq1s⟩
 have hm1t := elR hm1e
 obtain rfl := som hm1t
 exact ⟨hq1s, z⟩
def Q_impl_known (w0 : World) (B : Nat) (r : Bool) (v : Value) (w' : World) : Prop := Below w0.heap.size w0 w' ∧ (fun r1 => (vB r1) = v) r
theorem W_impl_known {x1 : Desc} {x2 : Int} {res : Bool} (hm : M_impl_known n x1 x2 = some res) (hBw : B ≤ w0.heap.size) (p1_0 : repS w0 B (.slice pa1_0 pn1_0 pc1_0) x1.rules) (p2_0 : inI x2) : CallsR prog 69 [(.agg #[(.slice pa1_0 pn1_0 pc1_0)]), (vI x2)] w0 (Q_impl_known w0 B res) := by
 unfold M_impl_known at hm
 obtain ⟨fn, hf, hb, hN, hr⟩ := fnE func69
 refine goW hf (hb.trans z) (hN.trans z) (lb z) (Ws (E z (fb z) ?_))
 rintro _ w13 ⟨rfl, h15⟩
 have h12 := h15.below
 have h16 : Blk w13 w0.heap.size [(.slice pa1_0 pn1_0 pc1_0)] := h15.blk
 refine Ra z (Wn (Wq ?_))
 obtain ⟨u19, hu1a, hm1b⟩ := bdS hm
 refine WC_cut (fun a w => ∃ (x14 : Bool), x14 = u19 ∧ Sat 12 [(4, (vB x14))] a ∧ Below w13.heap.size w13 w) ?_ ?_
 ·refine Wg (R z (lN (vs := [(.slice pa1_0 pn1_0 pc1_0)]) g_34 z_34 z z fid (h16.row 0 1 z)) ?_)
  have h17 := p1_0.ext h12
  obtain ⟨r1c, e1d, hm18⟩ := bdS hu1a
  refine E z (fc call77 z (W_impl_IsValidDescription (B := B) e1d (lt_ hBw h12.size) h17)) ?_
  rintro _ w1k ⟨s11, rfl⟩
  refine Rm z ?_
  rcases bs r1c with hc10 | hc10
  ·refine Rh z hc10 (lN (vs := [(.slice pa1_0 pn1_0 pc1_0)]) g_34 z_34 z z fid ((h16.ext s11).row 0 1 z)) (Rh z hc10 (mv z) ?_)
   obtain ⟨r1e, e1f, hm1g⟩ := bdS (ifT hm18 hc10)
   refine Eg z z hc10 z (fc call78 z (W_impl_hasRule (B := B) e1f (lt_ hBw (lt_ h12.size s11.size)) (h17.ext s11) p2_0)) ?_
   rintro _ w1l ⟨s1h, rfl⟩
   exact R z (pT z hc10 z) (Ra z (Wl (fun _ q => ⟨r1e, som hm1g, (q.k (s1 z)), (bup s11 s1h)⟩)))
  iterate 3 refine Nh z hc10 ?_
  exact R z (pF z hc10 z) (Ra z (Wl (fun _ q => ⟨false, som (ifF hm18 hc10), (q.k (s1 z)), s11⟩)))
 rintro a1i w1m ⟨x14, rfl, hS1n, s1j⟩
 revert a1i
 refine Wo ?_
 obtain rfl := som hm1b
 exact Wr (ret1 hr z ⟨(bup h12 s1j), z⟩)
def Q_impl_fail (w0 : World) (B : Nat) (r : (Option (Int × Int))) (v : Value) (w' : World) : Prop := Below w0.heap.size w0 w' ∧ (fun r1 => ∃ (v1 : Value) (S1 : List Nat), v1 = v ∧ errR 113 w' S1 v1 r1 ∧ (∀ k ∈ S1, w0.heap.size ≤ k)) r
theorem W_impl_fail {x1 : Int} {x2 : Int} {res : (Option (Int × Int))} (hm : M_impl_fail x1 x2 = some res) (hBw : B ≤ w0.heap.size) (p1_0 : inI x1) (p2_0 : inI x2) : CallsR prog 88 [(vI x1), (vI x2)] w0 (Q_impl_fail w0 B res) := by
 unfold M_impl_fail at hm
 obtain ⟨fn, hf, hb, hN, hr⟩ := fnE func88
 refine goW hf (hb.trans z) (hN.trans z) (lb z) (Ws (Ra z (Wn (Ws (Rm z (Rm z (R z (bP (parts := [(0, (.tmp 5)), (1, (.tmp 6))]) (cs := [(vI x1), (vI x2)]) build_117 z z) (E z (fb z) ?_))))))))
 rintro _ w11 ⟨rfl, h10⟩
 have h12 : Blk w11 w0.heap.size [(vI x1), (vI x2)] := h10.blk
 refine R z (rd_makeIface d_113 (fun _ h => by cases h) z) (Ra z (Wn ?_))
 obtain rfl := som hm
 exact Wr (ret1 hr z ⟨h10.below, (.iface 113 (.pointer (some ⟨w0.heap.size, 0, none⟩))), [w0.heap.size], z, (errR_mkp h12 p1_0 p2_0 z), (mem1 lr)⟩)
def Q_impl_fileReader_take (w0 : World) (B : Nat) (r : (List UInt8) × (Option (Int × Int))) (v : Value) (w' : World) : Prop := Below w0.heap.size w0 w' ∧ un2 (fun r1 r2 => ∃ (a1 : Option Addr) (n1 c1 : Nat) (v2 : Value) (S2 : List Nat), v = .tuple #[(.slice a1 n1 c1), v2] ∧ repS w' w'.heap.size (.slice a1 n1 c1) r1 ∧ errR 113 w' S2 v2 r2 ∧ (∀ k ∈ S2, w0.heap.size ≤ k)) r
theorem W_impl_fileReader_take {x1 : FileReader} {b1 o1 : Nat} {x2 : Int} {x3 : Int} {res : (List UInt8) × (Option (Int × Int))} (hm : M_impl_fileReader_take x1 x2 x3 = some res) (hBw : B ≤ w0.heap.size) (p1_0 : repS w0 B (.slice pa1_0 pn1_0 pc1_0) x1.d.rules) (p1_1 : repS w0 B (.slice pa1_1 pn1_1 pc1_1) x1.b) (hC1 : CellsAt w0 b1 o1 [(.slice pa1_0 pn1_0 pc1_0), (.slice pa1_1 pn1_1 pc1_1)]) (hC1b : b1 < B) (p2_0 : inI x2) (p3_0 : inI x3) : CallsR prog 104 [(.pointer (some ⟨b1, o1, none⟩)), (vI x2), (vI x3)] w0 (Q_impl_fileReader_take w0 B res) := by
 unfold M_impl_fileReader_take at hm
 obtain ⟨fn, hf, hb, hN, hr⟩ := fnE func104
 refine goW hf (hb.trans z) (hN.trans z) (lb z) (Ws (Ra z (Ra z (Wn (Wq (Ws (Rm z (Rm z (R z (rd_nil z) (R z (fd f_108_1 z) (R z (l1 g_26 z fid (hC1.at (j := 1) z)) (R z (lnR d_26 z p1_1) (Rm z (R z (sb_ z z) (R z (rd_gtr z z) (Wn (Wc z (fun hc10 => ?_) (fun hc10 => ?_))))))))))))))))))
 ·refine Ws (Rm z ?_)
  obtain ⟨r1e, e12, hm13⟩ := bdS (ifT hm hc10)
  refine E z (fc call88 z (W_impl_fail (B := B) e12 hBw p2_0 (ii z))) ?_
  rintro _ w1f ⟨s11, v14, S15, rfl, h16, h17⟩
  refine Ra z (Ra z (Wn ?_))
  obtain rfl := som hm13
  exact Wr (ret2 hr z z ⟨s11, none, 0, 0, v14, S15, z, (repS.mono (ownS_rep onL all_nil) s11.size), h16, h17⟩)
 refine Wk (Ws (Rm z (R z (rd_nil z) (R z (fd f_108_1 z) (R z (l1 g_26 z fid (hC1.at (j := 1) z)) (Rm z (Rm z (Rm z (R z (add_ z z) ?_)))))))))
 obtain ⟨x1g, e18, hm19⟩ := bdS (ifF hm hc10)
 refine RX z (rd_sliceX d_26 z_5 z z p1_1 z z e18) ?_
 rintro _ ⟨a1a, n1b, c1c, rfl, h1d⟩
 refine Ra z (Ra z (Wn ?_))
 obtain rfl := som hm19
 exact Wr (ret2 hr z z ⟨(br w0), a1a, n1b, c1c, .nilIface, ([] : List Nat), z, (repS.mono h1d hBw), errR_nil, all_nil⟩)
def Q_impl_ReadInteger (w0 : World) (B : Nat) (r : Int) (v : Value) (w' : World) : Prop := Below w0.heap.size w0 w' ∧ (fun r1 => (vI r1) = v ∧ inI r1) r
theorem W_impl_ReadInteger {x1 : List UInt8} {x2 : Bool} {res : Int} (hm : M_impl_ReadInteger x1 x2 = some res) (hBw : B ≤ w0.heap.size) (p1_0 : repS w0 B (.slice pa1_0 pn1_0 pc1_0) x1) : CallsR prog 105 [(.slice pa1_0 pn1_0 pc1_0), (vB x2)] w0 (Q_impl_ReadInteger w0 B res) := by
 unfold M_impl_ReadInteger at hm
 obtain ⟨fn, hf, hb, hN, hr⟩ := fnE func105
 refine goW hf (hb.trans z) (hN.trans z) (lb z) (Ws (Ra z (Wn (Wq (Ws (Rm z (R z (lnR d_26 z p1_0) (R z (rd_gtr z z) (Wn (Wc z (fun hc15 => ?_) (fun hc15 => ?_)))))))))))
 ·refine Ws (Ra z (Wn ?_))
  obtain rfl := som (ifT hm hc15)
  exact Wr (ret1 hr z ⟨(br w0), z, (ii z)⟩)
 refine Wk (Ws (Ra z (Wn (Wq (Ws (Rm z (R z (lnR d_26 z p1_0) (Rm z (Wn ?_)))))))))
 obtain ⟨u21, hu1c, hm18⟩ := bdS (ifF hm hc15)
 refine WC_forN (σ := Int) (ρ := Int) (fun (k12 : Nat) (x10 : Int) a w => Sat 38 [(0, (.slice pa1_0 pn1_0 pc1_0)), (1, (vB x2)), (5, (vI x10)), (11, (vI (x1.length : Int))), (12, (vI ((k12 : Nat) : Int)))] a ∧ Below w0.heap.size w0 w ∧ inI x10) (fun (x10 : Int) a w => Sat 38 [(5, (vI x10))] a ∧ Below w0.heap.size w0 w ∧ inI x10) (fun r ex a w => ex = .ret ∧ RetPost prog fn (Q_impl_ReadInteger w0 B r) a w) hu1c ?_ ?_ ?_ ?_ ?_
 ·exact fun _ q => ⟨(q.k (s5 z z z z z)), (br w0), (ii z)⟩
 ·rintro k12 x10 a22 w13 o23 hk19 ⟨hS1d, s16, h14⟩ hm1e
  refine Wu (e := [(0, (.slice pa1_0 pn1_0 pc1_0)), (1, (vB x2)), (5, (vI x10)), (11, (vI (x1.length : Int))), (12, (vI ((k12 : Nat) : Int)))]) (N := 38) ?_ hS1d
  refine Ws (R z (lss z z) (Wn (Wq (Wc z (fun _ => ?_) (fun hc => (nolt hk19 hc).elim)))))
  refine Wk (Wq (WC_block (Ws (Rm z (Ra z (Wn (Ws (Rm z (Wn ?_)))))))))
  obtain ⟨u1f, hu1a, hm1g⟩ := bdS hm1e
  refine WC_cut (fun a w => ∃ (x11 : Int), x11 = u1f ∧ Sat 38 [(0, (.slice pa1_0 pn1_0 pc1_0)), (1, (vB x2)), (5, (vI x11)), (11, (vI (x1.length : Int))), (12, (vI ((k12 : Nat) : Int)))] a ∧ Below w13.heap.size w13 w ∧ inI x11) ?_ ?_
  ·refine Wc z (fun hc17 => ?_) (fun hc17 => ?_)
   ·refine Wg (Rm z (R z (rd_shl z z (by decide)) (Rm z (Rm z ?_))))
    have h1b := p1_0.ext s16
    refine R z (lnR d_26 z h1b) (R z (sb_ z z) (Rm z (R z (sb_ z z) ?_)))
    obtain ⟨x1h, e1i, hm1j⟩ := bdS (ifT hu1a hc17)
    refine RX z (at_ (α := UInt8) d_26 z_5 z z z h1b e1i) ?_
    rintro _ ⟨b24, o25, cs26, rfl, h1k, h1l, h27⟩
    obtain rfl := UInt8_open h1l
    exact R z (l1 g_5 z fid (h1k.at0 z)) (R z (rd_convUI d_5 d_3 z) (R z (rd_or z z) (Ra z (Wl (fun _ q => ⟨bitop .i64 (· ||| ·) (shlK .i64 x10 8) (byteI x1h), som hm1j, (q.k (s5 z z z z z)), (br w13), (inI_bitop _ _ _)⟩)))))
   refine Wg (Rm z (R z (rd_shl z z (by decide)) (Rm z (Rm z ?_))))
   obtain ⟨x1m, e1n, hm1o⟩ := bdS (ifF hu1a hc17)
   refine RX z (at_ (α := UInt8) d_26 z_5 z z z (p1_0.ext s16) e1n) ?_
   rintro _ ⟨b28, o29, cs2a, rfl, h1p, h1q, h2b⟩
   obtain rfl := UInt8_open h1q
   exact R z (l1 g_5 z fid (h1p.at0 z)) (R z (rd_convUI d_5 d_3 z) (R z (rd_or z z) (Ra z (Wl (fun _ q => ⟨bitop .i64 (· ||| ·) (shlK .i64 x10 8) (byteI x1m), som hm1o, (q.k (s5 z z z z z)), (br w13), (inI_bitop _ _ _)⟩)))))
  rintro a1r w2c ⟨x11, rfl, hS2d, s1s, h1t⟩
  revert a1r
  exact Wo (Wg (R z (inc_ hk19 (lt_ (repS.len p1_0) LEN_le) z z) (Rm z (Wl (fun _ q => ⟨x11, (som hm1g).symm, ⟨(q.k (s5 z z z z z)), (bup s16 s1s), h1t⟩⟩)))))
 ·rintro x10 a2e w2f ⟨hS1u, s1v, h14⟩
  refine Wu (e := [(0, (.slice pa1_0 pn1_0 pc1_0)), (1, (vB x2)), (5, (vI x10)), (11, (vI (x1.length : Int))), (12, (vI ((x1.length : Nat) : Int)))]) (N := 38) ?_ hS1u
  refine Ws (R z (lss z z) (Wn (Wq (Wc z (fun hc => (noltt hc).elim) (fun _ => ?_)))))
  exact WC_exit (fun a' ha' => ⟨rfl, ⟨(Sat.weaken ha' (s1 z)), s1v, h14⟩⟩)
 ·rintro x10 a1w w2g rfl ⟨hS2h, s1x, h14⟩
  have hm1y := elL hm18
  revert a1w
  refine Wo (Ws (Rm z (Ra z (Wn ?_))))
  obtain rfl := som hm1y
  exact Wr (ret1 hr z ⟨s1x, z, h14⟩)
 rintro r2i ex2j a2k w2l rfl ⟨rfl, hq1z⟩
 have hm20 := elR hm18
 obtain rfl := som hm20
 exact ⟨hq1z, z⟩
def Q_impl_fileReader_integer (w0 : World) (B : Nat) (r : Int × Int × (Option (Int × Int))) (v : Value) (w' : World) : Prop := Below w0.heap.size w0 w' ∧ un3 (fun r1 r2 r3 => ∃ (v1 : Value) (S1 : List Nat), v = .tuple #[(vI r1), (vI r2), v1] ∧ inI r1 ∧ inI r2 ∧ errR 113 w' S1 v1 r3 ∧ (∀ k ∈ S1, w0.heap.size ≤ k)) r
theorem W_impl_fileReader_integer {x1 : FileReader} {b1 o1 : Nat} {x2 : Int} {x3 : Int} {res : Int × Int × (Option (Int × Int))} (hm : M_impl_fileReader_integer x1 x2 x3 = some res) (hBw : B ≤ w0.heap.size) (p1_0 : repS w0 B (.slice pa1_0 pn1_0 pc1_0) x1.d.rules) (p1_1 : repS w0 B (.slice pa1_1 pn1_1 pc1_1) x1.b) (hC1 : CellsAt w0 b1 o1 [(.slice pa1_0 pn1_0 pc1_0), (.slice pa1_1 pn1_1 pc1_1)]) (hC1b : b1 < B) (p2_0 : inI x2) (p3_0 : inI x3) : CallsR prog 79 [(.pointer (some ⟨b1, o1, none⟩)), (vI x2), (vI x3)] w0 (Q_impl_fileReader_integer w0 B res) := by
 unfold M_impl_fileReader_integer at hm
 obtain ⟨fn, hf, hb, hN, hr⟩ := fnE func79
 refine goW hf (hb.trans z) (hN.trans z) (lb z) (Ws (Ra z (Ra z (Ra z (Wn (Ws (Rm z (R z (rd_nil z) (R z (fd f_108_0 z) (R z (fd f_34_0 z) (R z (l1 g_32 z fid (hC1.at (j := 0) z)) (Rm z ?_))))))))))))
 obtain ⟨x10, e1p, hm1q⟩ := bdS hm
 refine RX z (at_ (α := Rule) d_32 z_70 z z z p1_0 e1p) ?_
 rintro _ ⟨b27, o28, cs29, rfl, h1r, h1s, h2a⟩
 obtain ⟨a17, n18, c19, a1a, n1b, c1c, a1d, n1e, c1f, a1g, n1h, c1i, rfl, h2b, h2c, h1t, h2d, h2e, h2f, h2g⟩ := Rule_open h1s
 refine R z (lN (vs := [(Str.v x10.name), (vI x10.kind), (vI x10.size), (vB x10.little), (.slice a17 n18 c19), (.slice a1a n1b c1c), (.slice a1d n1e c1f), (.slice a1g n1h c1i)]) g_70 z_70 z z fid h1r) (E z (fa zero_70) ?_)
 rintro _ w1u ⟨rfl, h1j⟩
 have h11 := h1j.below
 have h1v : Blk w1u w0.heap.size [(Str.v (⟨[]⟩ : Str)), (vI 0), (vI 0), (vB false), (.slice none 0 0), (.slice none 0 0), (.slice none 0 0), (.slice none 0 0)] := h1j.blk
 refine E0 (fs (cur' := [(Str.v x10.name), (vI x10.kind), (vI x10.size), (vB x10.little), (.slice a17 n18 c19), (.slice a1a n1b c1c), (.slice a1d n1e c1f), (.slice a1g n1h c1i)]) z_70 z z h1v z (lb z) (oA z) z) ?_
 rintro _ w2h ⟨h1k, s1w⟩
 have h12 := s1w.one
 refine Wn (Ws (Rm z (Rm z (R z (fd f_70_2 z) (R z (l1 g_3 z fid (h1k.at z)) ?_)))))
 have h14 := mem1le hBw
 have h1l := lt_ h11.size h12.size
 obtain ⟨r2i, r2j, e1x, hm1m⟩ := bd2S hm1q
 refine E z (fc call104 z (W_impl_fileReader_take (B := B) e1x (lt_ hBw h1l) ((p1_0.ext h11).chg h12 (lg h14)) ((p1_1.ext h11).chg h12 (lg h14)) ((hC1.ext h11).chg h12 ((lg h14) _ hC1b)) hC1b p3_0 h1t)) ?_
 rintro _ w1y ⟨s15, a2k, n2l, c2m, v1z, S20, rfl, h21, h1n, h22⟩
 refine Rm z (R z (ext_ z z) (R z (ext_ z z) (Ra z (Ra z (Wn (Wq (Ws (Rm z (R z (rd_neqEr d_110 z z h1n) (Wn (Wc z (fun hc16 => ?_) (fun hc16 => ?_))))))))))))
 ·refine Ws (Rm z (Rm z (Ra z (Ra z (Ra z (Wn ?_))))))
  obtain rfl := som (ifT hm1m hc16)
  exact Wr (ret3 hr z z z ⟨(bup (bM h11 h12 (mem1 lr)) s15), v1z, S20, z, (ii z), p3_0, h1n, (o0le h22 h1l)⟩)
 refine Wk (Wq (WC_draw (X := noX) 0 (.rd 0 (.rd 1 (.rd 2 (.rd 4 (.rd 5 (.rd 6 (.rd 7 (.ef 3 (.rd 8 (.rd 9 (.rd 10 .done))))))))))) mo (by kernel_rfl) fun w2n s13 _ => dR z z (mv z) (dR z z (fd f_70_3 z) ?_)))
 have h1o := (h1k.ext s15).ext s13
 refine dR z z (l1 g_4 z fid (h1o.at z)) (dR z z (mv z) (dR z z (fd f_70_2 z) (dR z z (l1 g_3 z fid (h1o.at z)) (dR z z (add_ z z) ?_))))
 obtain ⟨r2o, e23, hm24⟩ := bdS (ifF hm1m hc16)
 refine dE z z (fc call105 z (W_impl_ReadInteger (B := w1y.heap.size) e23 s13.size (h21.ext s13))) (.inr fun _ _ h => chgB (h.1)) ?_
 rintro _ w2p ⟨s25, rfl, h26⟩
 iterate 3 refine dR z z (asg z) ?_
 refine PR_done (Wo ?_)
 obtain rfl := som hm24
 exact Wr (ret3 hr z z z ⟨(bup (bup (bup (bM h11 h12 (mem1 lr)) s15) s13) s25), .nilIface, ([] : List Nat), z, h26, (iA _ _), errR_nil, all_nil⟩)
def Q_impl_fileReader_constant (w0 : World) (B : Nat) (r : Int × (Option (Int × Int))) (v : Value) (w' : World) : Prop := Below w0.heap.size w0 w' ∧ un2 (fun r1 r2 => ∃ (v1 : Value) (S1 : List Nat), v = .tuple #[(vI r1), v1] ∧ inI r1 ∧ errR 113 w' S1 v1 r2 ∧ (∀ k ∈ S1, w0.heap.size ≤ k)) r
theorem W_impl_fileReader_constant {x1 : FileReader} {b1 o1 : Nat} {x2 : Rule} {x3 : Int} {res : Int × (Option (Int × Int))} (hm : M_impl_fileReader_constant x1 x2 x3 = some res) (hBw : B ≤ w0.heap.size) (p1_0 : repS w0 B (.slice pa1_0 pn1_0 pc1_0) x1.d.rules) (p1_1 : repS w0 B (.slice pa1_1 pn1_1 pc1_1) x1.b) (hC1 : CellsAt w0 b1 o1 [(.slice pa1_0 pn1_0 pc1_0), (.slice pa1_1 pn1_1 pc1_1)]) (hC1b : b1 < B) (p2_0 : x2.name.b.length ≤ LEN) (p2_1 : inI x2.kind) (p2_2 : inI x2.size) (p2_4 : repS w0 B (.slice pa2_4 pn2_4 pc2_4) x2.bytes) (p2_5 : repS w0 B (.slice pa2_5 pn2_5 pc2_5) x2.names) (p2_6 : repS w0 B (.slice pa2_6 pn2_6 pc2_6) x2.tags) (p2_7 : repS w0 B (.slice pa2_7 pn2_7 pc2_7) x2.kids) (p3_0 : inI x3) : CallsR prog 80 [(.pointer (some ⟨b1, o1, none⟩)), (.agg #[(Str.v x2.name), (vI x2.kind), (vI x2.size), (vB x2.little), (.slice pa2_4 pn2_4 pc2_4), (.slice pa2_5 pn2_5 pc2_5), (.slice pa2_6 pn2_6 pc2_6), (.slice pa2_7 pn2_7 pc2_7)]), (vI x3)] w0 (Q_impl_fileReader_constant w0 B res) := by
 unfold M_impl_fileReader_constant at hm
 obtain ⟨fn, hf, hb, hN, hr⟩ := fnE func80
 refine goW hf (hb.trans z) (hN.trans z) (lb z) (Ws (E z (fb z) ?_))
 rintro _ w12 ⟨rfl, h18⟩
 have h10 := h18.below
 have h19 : Blk w12 w0.heap.size [(Str.v x2.name), (vI x2.kind), (vI x2.size), (vB x2.little), (.slice pa2_4 pn2_4 pc2_4), (.slice pa2_5 pn2_5 pc2_5), (.slice pa2_6 pn2_6 pc2_6), (.slice pa2_7 pn2_7 pc2_7)] := h18.blk
 refine Ra z (Ra z (Wn (Wq (Ws (R z (fd f_70_4 z) (R z (l1 g_26 z fid (h19.at z)) ?_))))))
 have h13 := p2_4.ext h10
 refine R z (lnR d_26 z h13) (Rm z (Wn ?_))
 obtain ⟨u2b, hu1i, hm1a⟩ := bdS hm
 refine WC_forN (σ := Unit) (ρ := Int × (Option (Int × Int))) (fun (k14 : Nat) (_ : Unit) a w => Sat 52 [(0, (.pointer (some ⟨b1, o1, none⟩))), (2, (vI x3)), (4, (.pointer (some ⟨w0.heap.size, 0, none⟩))), (11, (.slice pa2_4 pn2_4 pc2_4)), (12, (vI (x2.bytes.length : Int))), (13, (vI ((k14 : Nat) : Int)))] a ∧ Below w12.heap.size w12 w) (fun (_ : Unit) a w => Sat 52 [(2, (vI x3)), (4, (.pointer (some ⟨w0.heap.size, 0, none⟩)))] a ∧ Below w12.heap.size w12 w) (fun r ex a w => ex = .ret ∧ RetPost prog fn (Q_impl_fileReader_constant w0 B r) a w) hu1i ?_ ?_ ?_ ?_ ?_
 ·exact fun _ q => ⟨(q.k (s6 z z z z z z)), (br w12)⟩
 ·rintro k14 _ a2c w2d o2e hk1b ⟨hS1j, s11⟩ hm1k
  refine Wu (e := [(0, (.pointer (some ⟨b1, o1, none⟩))), (2, (vI x3)), (4, (.pointer (some ⟨w0.heap.size, 0, none⟩))), (11, (.slice pa2_4 pn2_4 pc2_4)), (12, (vI (x2.bytes.length : Int))), (13, (vI ((k14 : Nat) : Int)))]) (N := 52) ?_ hS1j
  refine Ws (R z (lss z z) (Wn (Wq (Wc z (fun _ => ?_) (fun hc => (nolt hk1b hc).elim)))))
  refine Wk (Wq (WC_block (Ws (Rm z ?_))))
  obtain ⟨x2f, e1l, hm1c⟩ := bdS hm1k
  refine RX z (at_ (α := UInt8) d_26 z_5 z z z (h13.ext s11) e1l) ?_
  rintro _ ⟨b2g, o2h, cs2i, rfl, h1m, h1n, h2j⟩
  obtain rfl := UInt8_open h1n
  refine R z (l1 g_5 z fid (h1m.at0 z)) (Ra z (Ra z (Wn (Wq (Ws (Rm z (Rm z (R z (add_ z z) (Rm z (R z (rd_nil z) (R z (fd f_108_1 z) ?_)))))))))))
  have h1d := (hC1.ext h10).ext s11
  refine R z (l1 g_26 z fid (h1d.at (j := 1) z)) ?_
  have h1e := (p1_1.ext h10).ext s11
  refine R z (lnR d_26 z h1e) (R z (rd_geq z z) (Wn (Wc z (fun hc15 => ?_) (fun hc15 => ?_))))
  ·refine Ws (Rm z (Rm z ?_))
   have h1f := lt_ h10.size s11.size
   obtain ⟨r2k, e1o, hm1p⟩ := bdS (ifT hm1c hc15)
   refine E z (fc call88 z (W_impl_fail (B := B) e1o (lt_ hBw h1f) p3_0 (ii z))) ?_
   rintro _ w2l ⟨s1q, v1r, S1s, rfl, h1t, h1u⟩
   exact Ra z (Ra z (Wn (Wr (rtO (QO_retL (som hm1p).symm (ret2 hr z z ⟨(bup (bup h10 s11) s1q), v1r, S1s, z, p3_0, h1t, (o0le h1u h1f)⟩))))))
  refine Wk (Ws (Rm z (R z (rd_nil z) (R z (fd f_108_1 z) (R z (l1 g_26 z fid (h1d.at (j := 1) z)) (Rm z (Rm z (R z (add_ z z) ?_))))))))
  obtain ⟨x2m, e1v, hm1g⟩ := bdS (ifF hm1c hc15)
  refine RX z (at_ (α := UInt8) d_26 z_5 z z z h1e e1v) ?_
  rintro _ ⟨b2n, o2o, cs2p, rfl, h1w, h1x, h2q⟩
  obtain rfl := UInt8_open h1x
  refine R z (l1 g_5 z fid (h1w.at0 z)) (Rm z (R z (nq z z) (Wn (Wc z (fun hc16 => ?_) (fun hc16 => ?_)))))
  ·refine Ws (Rm z (Rm z (Rm z (R z (add_ z z) ?_))))
   have h1h := lt_ h10.size s11.size
   obtain ⟨r2r, e1y, hm1z⟩ := bdS (ifT hm1g hc16)
   refine E z (fc call88 z (W_impl_fail (B := B) e1y (lt_ hBw h1h) (iA _ _) (ii z))) ?_
   rintro _ w2s ⟨s20, v21, S22, rfl, h23, h24⟩
   exact Ra z (Ra z (Wn (Wr (rtO (QO_retL (som hm1z).symm (ret2 hr z z ⟨(bup (bup h10 s11) s20), v21, S22, z, p3_0, h23, (o0le h24 h1h)⟩))))))
  exact Wk (Wg (R z (inc_ hk1b (lt_ (repS.len p2_4) LEN_le) z z) (Rm z (Wl (fun _ q => ⟨(), (som (ifF hm1g hc16)).symm, ⟨(q.k (s6 z z z z z z)), s11⟩⟩)))))
 ·rintro _ a2t w2u ⟨hS25, s26⟩
  refine Wu (e := [(0, (.pointer (some ⟨b1, o1, none⟩))), (2, (vI x3)), (4, (.pointer (some ⟨w0.heap.size, 0, none⟩))), (11, (.slice pa2_4 pn2_4 pc2_4)), (12, (vI (x2.bytes.length : Int))), (13, (vI ((x2.bytes.length : Nat) : Int)))]) (N := 52) ?_ hS25
  refine Ws (R z (lss z z) (Wn (Wq (Wc z (fun hc => (noltt hc).elim) (fun _ => ?_)))))
  exact WC_exit (fun a' ha' => ⟨rfl, ⟨(Sat.weaken ha' (s2 z z)), s26⟩⟩)
 ·rintro _ a27 w2v rfl ⟨hS2w, s17⟩
  have hm28 := elL hm1a
  revert a27
  refine Wo (Ws (Rm z (R z (fd f_70_4 z) (R z (l1 g_26 z fid ((h19.ext s17).at z)) (R z (lnR d_26 z (h13.ext s17)) (R z (add_ z z) (Ra z (Ra z (Wn ?_)))))))))
  obtain rfl := som hm28
  exact Wr (ret2 hr z z ⟨(bup h10 s17), .nilIface, ([] : List Nat), z, (iA _ _), errR_nil, all_nil⟩)
 rintro r2x ex2y a2z w30 rfl ⟨rfl, hq29⟩
 have hm2a := elR hm1a
 obtain rfl := som hm2a
 exact ⟨hq29, z⟩
def Q_impl_fileReader_content (w0 : World) (B : Nat) (r : Val × Int × (Option (Int × Int))) (v : Value) (w' : World) : Prop := Below w0.heap.size w0 w' ∧ un3 (fun r1 r2 r3 => ∃ (a1 : Option Addr) (n1 c1 : Nat) (S1 : List Nat) (a2 : Option Addr) (n2 c2 : Nat) (S2 : List Nat) (v3 : Value) (S3 : List Nat), v = .tuple #[(.agg #[vI r1.number, .slice a1 n1 c1, .slice a2 n2 c2]), (vI r2), v3] ∧ inI r1.number ∧ ownS w' S1 (.slice a1 n1 c1) r1.bytes ∧ ownS w' S2 (.slice a2 n2 c2) r1.items ∧ inI r2 ∧ errR 113 w' S3 v3 r3 ∧ (∀ k ∈ S3, w0.heap.size ≤ k) ∧ (S1 ++ S2).Nodup ∧ (∀ k ∈ (S1 ++ S2), w0.heap.size ≤ k)) r
theorem W_impl_fileReader_content {x1 : FileReader} {b1 o1 : Nat} {x2 : Int} {x3 : Int} {res : Val × Int × (Option (Int × Int))} (hm : M_impl_fileReader_content x1 x2 x3 = some res) (hBw : B ≤ w0.heap.size) (p1_0 : repS w0 B (.slice pa1_0 pn1_0 pc1_0) x1.d.rules) (p1_1 : repS w0 B (.slice pa1_1 pn1_1 pc1_1) x1.b) (hC1 : CellsAt w0 b1 o1 [(.slice pa1_0 pn1_0 pc1_0), (.slice pa1_1 pn1_1 pc1_1)]) (hC1b : b1 < B) (p2_0 : inI x2) (p3_0 : inI x3) : CallsR prog 81 [(.pointer (some ⟨b1, o1, none⟩)), (vI x2), (vI x3)] w0 (Q_impl_fileReader_content w0 B res) := by
 unfold M_impl_fileReader_content at hm
 obtain ⟨fn, hf, hb, hN, hr⟩ := fnE func81
 refine goW hf (hb.trans z) (hN.trans z) (lb z) (Ws (E z (fa zero_74) ?_))
 rintro _ w1k ⟨rfl, h18⟩
 have h10 := h18.below
 have h12 : Blk w1k w0.heap.size [(vI 0), (.slice none 0 0), (.slice none 0 0)] := h18.blk
 refine Ra z (Ra z (Wn (Ws (Rm z (Rm z (Rm z ?_))))))
 obtain ⟨r1z, r20, e1l, hm19⟩ := bd2S hm
 refine E z (fc call104 z (W_impl_fileReader_take (B := B) e1l (lt_ hBw h10.size) (p1_0.ext h10) (p1_1.ext h10) (hC1.ext h10) hC1b p2_0 p3_0)) ?_
 rintro _ w21 ⟨s11, a22, n23, c24, v1m, S1n, rfl, h1o, h1a, h1b⟩
 refine Rm z (R z (ext_ z z) (R z (ext_ z z) (Ra z (Ra z (Wn (Wq (Ws (Rm z (R z (rd_neqEr d_110 z z h1a) (Wn (Wc z (fun hc14 => ?_) (fun hc14 => ?_))))))))))))
 ·refine Ws (R z (bP (parts := []) (cs := [(vI 0), (.slice none 0 0), (.slice none 0 0)]) build_74 z z) (Rm z (Rm z (E0 (fs (cur' := [(vI 0), (.slice none 0 0), (.slice none 0 0)]) z_74 z z (h12.ext s11) z (lb z) (oA z) z) ?_))))
  rintro _ w25 ⟨h1p, s1q⟩
  have h1c := s1q.one
  refine Ra z (Ra z (Wn ?_))
  obtain rfl := som (ifT hm19 hc14)
  exact Wr (ret3 hr (resC g_74 z_74 z h1p z) z z ⟨(bM (bup h10 s11) h1c (mem1 lr)), none, 0, 0, [], none, 0, 0, [], v1m, S1n, z, (ii z), onL, onL, p2_0, (h1a.chg h1c (o0n1 h1b h12.lt lr)), (o0le h1b h10.size), nd0, al0⟩)
 refine Wk (Ws (E z (ef_lit0 (α := UInt8) el_26) ?_))
 rintro _ w26 ⟨a27, n28, c29, rfl, s13, h1r⟩
 refine Rm z ?_
 obtain ⟨x2a, e1s, hm1t⟩ := bdS (ifF hm19 hc14)
 refine E z (ef_appendN (α := UInt8) el_26 e1s z z h1r nd_one (h1o.ext s13)) ?_
 rintro _ w2b ⟨S1d, a15, n16, c17, rfl, s1e, h1u, h1v, h1f⟩
 refine R z (bP (parts := [(1, (.tmp 25))]) (cs := [(vI 0), (.slice a15 n16 c17), (.slice none 0 0)]) build_74 z z) (Rm z (Rm z (R z (add_ z z) ?_)))
 have h1g := mm1 h12.lt s11.size
 refine E0 (fs (cur' := [(vI 0), (.slice a15 n16 c17), (.slice none 0 0)]) z_74 z z (((h12.ext s11).ext s13).chg s1e (djs h1g)) z (lb z) (oA z) z) ?_
 rintro _ w2c ⟨h1w, s1x⟩
 have h1h := s1x.one
 refine Ra z (Ra z (Wn ?_))
 obtain rfl := som hm1t
 have h1y : ∀ k ∈ S1d, k ∉ [w0.heap.size] := or1 h1f h1g (ltnot (mem1 h12.lt) (lt_ s11.size s13.size))
 have h1i := lt_ h10.size s11.size
 have h1j := mem1le h1i
 exact Wr (ret3 hr (resC g_74 z_74 z h1w z) z z ⟨(bM (bM (bup (bup h10 s11) s13) s1e h1j) h1h (mem1 lr)), a15, n16, c17, S1d, none, 0, 0, [], .nilIface, ([] : List Nat), z, (ii z), (h1u.chg h1h h1y), onL, (iA _ _), errR_nil, all_nil, (nd_app h1v nd_nil (nmN _)), (all_app (o1le h1f h1j (lt_ h1i s13.size)) all_nil)⟩)
def Q_impl_SumOfBytes (w0 : World) (B : Nat) (r : Int) (v : Value) (w' : World) : Prop := Below w0.heap.size w0 w' ∧ (fun r1 => (vI r1) = v ∧ inI r1) r
theorem W_impl_SumOfBytes {x1 : List UInt8} {res : Int} (hm : M_impl_SumOfBytes x1 = some res) (hBw : B ≤ w0.heap.size) (p1_0 : repS w0 B (.slice pa1_0 pn1_0 pc1_0) x1) : CallsR prog 106 [(.slice pa1_0 pn1_0 pc1_0)] w0 (Q_impl_SumOfBytes w0 B res) := by
 unfold M_impl_SumOfBytes at hm
 obtain ⟨fn, hf, hb, hN, hr⟩ := fnE func106
 refine goW hf (hb.trans z) (hN.trans z) (lb z) (Ws (Ra z (Wn (Ws (Ra z (Wn (Wq (Ws (Rm z (R z (lnR d_26 z p1_0) (Rm z (Wn ?_))))))))))))
 obtain ⟨u1l, hu16, hm13⟩ := bdS hm
 refine WC_forN (σ := Int) (ρ := Int) (fun (k12 : Nat) (x10 : Int) a w => Sat 19 [(3, (vI x10)), (6, (.slice pa1_0 pn1_0 pc1_0)), (7, (vI (x1.length : Int))), (8, (vI ((k12 : Nat) : Int)))] a ∧ Below w0.heap.size w0 w ∧ inI x10) (fun (x10 : Int) a w => Sat 19 [(3, (vI x10))] a ∧ Below w0.heap.size w0 w ∧ inI x10) (fun r ex a w => ex = .ret ∧ RetPost prog fn (Q_impl_SumOfBytes w0 B r) a w) hu16 ?_ ?_ ?_ ?_ ?_
 ·exact fun _ q => ⟨(q.k (s4 z z z z)), (br w0), (ii z)⟩
 ·rintro k12 x10 a1m w1n o1o hk14 ⟨hS17, s15, h11⟩ hm18
  refine Wu (e := [(3, (vI x10)), (6, (.slice pa1_0 pn1_0 pc1_0)), (7, (vI (x1.length : Int))), (8, (vI ((k12 : Nat) : Int)))]) (N := 19) ?_ hS17
  refine Ws (R z (lss z z) (Wn (Wq (Wc z (fun _ => ?_) (fun hc => (nolt hk14 hc).elim)))))
  refine Wk (Wq (WC_block (Ws ?_)))
  obtain ⟨x19, e1a, hm1b⟩ := bdS hm18
  refine RX z (at_ (α := UInt8) d_26 z_5 z z z (p1_0.ext s15) e1a) ?_
  rintro _ ⟨b1p, o1q, cs1r, rfl, h1c, h1d, h1s⟩
  obtain rfl := UInt8_open h1d
  exact R z (l1 g_5 z fid (h1c.at0 z)) (Ra z (Wn (Wg (Rm z (Rm z (R z (rd_convUI d_5 d_3 z) (R z (add_ z z) (Ra z (Wn (Wg (R z (inc_ hk14 (lt_ (repS.len p1_0) LEN_le) z z) (Rm z (Wl (fun _ q => ⟨iadd x10 (byteI x19), (som hm1b).symm, ⟨(q.k (s4 z z z z)), s15, (iA _ _)⟩⟩))))))))))))))
 ·rintro x10 a1t w1u ⟨hS1e, s1f, h11⟩
  refine Wu (e := [(3, (vI x10)), (6, (.slice pa1_0 pn1_0 pc1_0)), (7, (vI (x1.length : Int))), (8, (vI ((x1.length : Nat) : Int)))]) (N := 19) ?_ hS1e
  refine Ws (R z (lss z z) (Wn (Wq (Wc z (fun hc => (noltt hc).elim) (fun _ => ?_)))))
  exact WC_exit (fun a' ha' => ⟨rfl, ⟨(Sat.weaken ha' (s1 z)), s1f, h11⟩⟩)
 ·rintro x10 a1g w1v rfl ⟨hS1w, s1h, h11⟩
  have hm1i := elL hm13
  revert a1g
  refine Wo (Ws (Rm z (R z (rd_rem z z (by decide)) (Ra z (Wn ?_)))))
  obtain rfl := som hm1i
  exact Wr (ret1 hr z ⟨s1h, z, (inI_rem h11)⟩)
 rintro r1x ex1y a1z w20 rfl ⟨rfl, hq1j⟩
 have hm1k := elR hm13
 obtain rfl := som hm1k
 exact ⟨hq1j, z⟩
def Q_impl_ReadTerminated (w0 : World) (B : Nat) (r : (List UInt8) × Int × Bool) (v : Value) (w' : World) : Prop := Below w0.heap.size w0 w' ∧ un3 (fun r1 r2 r3 => ∃ (a1 : Option Addr) (n1 c1 : Nat) (S1 : List Nat), v = .tuple #[(.slice a1 n1 c1), (vI r2), (vB r3)] ∧ ownS w' S1 (.slice a1 n1 c1) r1 ∧ inI r2 ∧ S1.Nodup ∧ (∀ k ∈ S1, w0.heap.size ≤ k)) r
theorem W_impl_ReadTerminated {x1 : List UInt8} {x2 : Int} {x3 : UInt8} {res : (List UInt8) × Int × Bool} (hm : M_impl_ReadTerminated n x1 x2 x3 = some res) (hBw : B ≤ w0.heap.size) (p1_0 : repS w0 B (.slice pa1_0 pn1_0 pc1_0) x1) (p2_0 : inI x2) : CallsR prog 87 [(.slice pa1_0 pn1_0 pc1_0), (vI x2), (vU (byteI x3))] w0 (Q_impl_ReadTerminated w0 B res) := by
 unfold M_impl_ReadTerminated at hm
 obtain ⟨fn, hf, hb, hN, hr⟩ := fnE func87
 refine goW hf (hb.trans z) (hN.trans z) (lb z) (Ws (Ra z (Ra z (Ra z (Wn (Ws (E z (ef_lit0 (α := UInt8) el_26) ?_)))))))
 rintro _ w1h ⟨a1j, n1k, c1l, rfl, s18, h1v⟩
 refine Ra z (Wn (Wq (Wq ?_)))
 obtain ⟨u29, hu1w, hm1x⟩ := bdS hm
 refine WC_cut (fun a w => ∃ (x1m : Bool), x1m = u29 ∧ Sat 58 [(0, (.slice pa1_0 pn1_0 pc1_0)), (1, (vI x2)), (2, (vU (byteI x3))), (9, (.slice a1j n1k c1l)), (19, (vB x1m))] a ∧ Below w1h.heap.size w1h w) ?_ ?_
 ·refine Wg (Rm z (R z (lss z z) (Rm z ?_)))
  rcases bs (decide (x2 < 0)) with hc15 | hc15
  ·iterate 4 refine Nh z hc15 ?_
   exact R z (pT z hc15 z) (Wl (fun _ q => ⟨true, som (ifT hu1w hc15), (q.k (s5 z z z z z)), (br w1h)⟩))
  exact Rh z hc15 (mv z) (Rh z hc15 (mv z) (Rh z hc15 (lnR d_26 z (p1_0.ext s18)) (Rh z hc15 (rd_gtr z z) (R z (pF z hc15 z) (Wl (fun _ q => ⟨decide ((x1.length : Int) < x2), som (ifF hu1w hc15), (q.k (s5 z z z z z)), (br w1h)⟩))))))
 rintro a2a w10 ⟨x1m, rfl, hS3r, s17⟩
 revert a2a
 refine Wo (Wc z (fun hc1n => ?_) (fun hc1n => ?_))
 ·refine Ws (Rm z (Rm z (Ra z (Ra z (Ra z (Wn ?_))))))
  obtain rfl := som (ifT hm1x hc1n)
  exact Wr (ret3 hr z z z ⟨(bup s18 s17), a1j, n1k, c1l, [w0.heap.size], z, (h1v.ext s17), p2_0, nd_one, (mem1 lr)⟩)
 refine Wk (Wq (Ws (Rm z (Ra z (Wn ?_)))))
 obtain ⟨u3s, hu2b, hm1y⟩ := bdS (ifF hm1x hc1n)
 refine WC_iter (σ := (List UInt8) × Int) (ρ := (List UInt8) × Int × Bool) (fun s a w => un2 (fun x1b x16 => ∃ (a12 : Option Addr) (n13 c14 : Nat) (S11 : List Nat), Sat 58 [(0, (.slice pa1_0 pn1_0 pc1_0)), (1, (vI x2)), (2, (vU (byteI x3))), (9, (.slice a12 n13 c14)), (10, (vI x16))] a ∧ Chg (· ∈ [w0.heap.size]) w10 w ∧ ownS w S11 (.slice a12 n13 c14) x1b ∧ S11.Nodup ∧ (∀ k ∈ S11, k ∈ [w0.heap.size] ∨ w10.heap.size ≤ k) ∧ inI x16) s) (fun s a w => un2 (fun x1b x16 => ∃ (a12 : Option Addr) (n13 c14 : Nat) (S11 : List Nat), Sat 58 [(1, (vI x2))] a ∧ Chg (· ∈ [w0.heap.size]) w10 w ∧ ownS w S11 (.slice a12 n13 c14) x1b ∧ S11.Nodup ∧ (∀ k ∈ S11, k ∈ [w0.heap.size] ∨ w10.heap.size ≤ k) ∧ inI x16) s) (fun r ex a w => ex = .ret ∧ RetPost prog fn (Q_impl_ReadTerminated w0 B r) a w) hu2b ?_ ?_ ?_ ?_
 ·exact fun _ q => ⟨a1j, n1k, c1l, [w0.heap.size], (q.k (s5 z z z z z)), (cr [w0.heap.size] w10), (h1v.ext s17), nd_one, (io sr), p2_0⟩
 ·rintro ⟨x1b, x16⟩ a3t w19 o3u ⟨a12, n13, c14, S11, hS2c, s1a, h1c, h1d, h1e, h1o⟩ hm2d
  have hm1z := un2S hm2d
  refine Wu (e := [(0, (.slice pa1_0 pn1_0 pc1_0)), (1, (vI x2)), (2, (vU (byteI x3))), (9, (.slice a12 n13 c14)), (10, (vI x16))]) (N := 58) ?_ hS2c
  refine Wq (Ws (Rm z (Rm z ?_)))
  have h1f := ((p1_0.ext s18).ext s17).chg s1a (lg (mem1le hBw))
  refine R z (lnR d_26 z h1f) (R z (lss z z) (Wn (Wc z (fun hc1p => ?_) (fun hc1p => ?_))))
  ·refine Wk (Wq (WC_block (Wq (Ws (Rm z (Rm z ?_))))))
   obtain ⟨x3v, e2e, hm20⟩ := bdS (ifT hm1z hc1p)
   refine RX z (at_ (α := UInt8) d_26 z_5 z z z h1f e2e) ?_
   rintro _ ⟨b3w, o3x, cs3y, rfl, h2f, h2g, h3z⟩
   obtain rfl := UInt8_open h2g
   refine R z (l1 g_5 z fid (h2f.at0 z)) (Rm z (R z (eql z z) (Wn (Wc z (fun hc1q => ?_) (fun hc1q => ?_)))))
   ·refine Ws (Rm z (Rm z (R z (add_ z z) (Ra z (Ra z (Ra z (Wn ?_)))))))
    have h2h : ∀ k ∈ S11, w0.heap.size ≤ k := or1 h1e (mem1 lr) (lele (lt_ s18.size s17.size))
    exact Wr (rtO (QO_retL (som (ifT hm20 hc1q)).symm (ret3 hr z z z ⟨(bM (bup s18 s17) s1a (mem1 lr)), a12, n13, c14, S11, z, h1c, (iA _ _), h1d, h2h⟩)))
   refine Wk (Wq (Ws (Rm z (Rm z ?_))))
   obtain ⟨x40, e2i, hm2j⟩ := bdS (ifF hm20 hc1q)
   refine RX z (at_ (α := UInt8) d_26 z_5 z z z h1f e2i) ?_
   rintro _ ⟨b41, o42, cs43, rfl, h2k, h2l, h44⟩
   obtain rfl := UInt8_open h2l
   refine R z (l1 g_5 z fid (h2k.at0 z)) (R z (eql z z) (Wn ?_))
   obtain ⟨u2m, hu21, hm22⟩ := bdS hm2j
   refine WC_cut (fun a w => ∃ (x1g : Int), Sum.inl x1g = u2m ∧ Sat 58 [(0, (.slice pa1_0 pn1_0 pc1_0)), (1, (vI x2)), (2, (vU (byteI x3))), (9, (.slice a12 n13 c14)), (10, (vI x1g))] a ∧ Below w19.heap.size w19 w ∧ inI x1g) ?_ ?_
   ·refine Wc z (fun hc1r => ?_) (fun hc1r => ?_)
    ·have hm23 := ifT hu21 hc1r
     refine Ws (Rm z (R z (add_ z z) (Ra z (Wn (Ws (Rm z (Rm z (R z (lnR d_26 z h1f) (R z (eql z z) (Wn (Wc z (fun hc1s => ?_) (fun hc1s => ?_))))))))))))
     ·obtain rfl := som (ifT hm23 hc1s)
      have hm2n := elR hm22
      have h2o : ∀ k ∈ S11, k ∈ [w0.heap.size] ∨ w10.heap.size ≤ k := or1 h1e (io sr) (leor lr)
      have h2p : Chg (· ∈ [w0.heap.size]) w10 w19 := cM (cr [w0.heap.size] w10) s1a (io sr)
      exact WC_exit (exO z (fun a' ha' => QO_brk (som hm2n).symm ⟨a12, n13, c14, S11, (Sat.weaken ha' (s1 z)), h2p, h1c, h1d, h2o, (iA _ _)⟩))
     exact WC_skip (fun _ q => ⟨iadd x16 1, som (ifF hm23 hc1s), (q.k (s5 z z z z z)), (br w19), (iA _ _)⟩)
    exact WC_skip (fun _ q => ⟨x16, som (ifF hu21 hc1r), (q.k (s5 z z z z z)), (br w19), h1o⟩)
   rintro a2q w24 ⟨x1g, rfl, hS45, s1i, h46⟩
   have hm2r := elL hm22
   revert a2q
   refine Wo (Wg (Rm z (Rm z (Rm z ?_))))
   obtain ⟨x2s, e2t, hm2u⟩ := bdS hm2r
   refine RX z (at_ (α := UInt8) d_26 z_5 z z z (h1f.ext s1i) e2t) ?_
   rintro _ ⟨b47, o48, cs49, rfl, h2v, h2w, h4a⟩
   obtain rfl := UInt8_open h2w
   refine R z (l1 g_5 z fid (h2v.at0 z)) (E z (ef_buildSlice [(.tmp 53)] el_26 z z z (szAll z) (lb z) (lb z)) ?_)
   rintro _ w25 ⟨rfl, h1t⟩
   have h1u := h1t.below
   have h2x : Blk w25 w24.heap.size [(vU (byteI x2s))] := h1t.blk
   have h4b := ownS_new1 h1t UInt8_own
   obtain ⟨x2y, e2z, hm30⟩ := bdS hm2u
   refine E z (ef_pushN (α := UInt8) el_26 e2z z z ((h1c.ext s1i).ext h1u) h1d h2x UInt8_own all_nil nd_nil) ?_
   rintro _ w31 ⟨S26, a32, n33, c34, rfl, s35, h36, h37, h38⟩
   refine Ra z (Wn (Wg (Rm z (R z (add_ z z) (Ra z (Wl ?_))))))
   have h27 : ∀ k ∈ S11, k ∈ [w0.heap.size] ∨ w10.heap.size ≤ k := or1 h1e (io sr) (leor lr)
   have h39 : ∀ k ∈ S26, k ∈ [w0.heap.size] ∨ w10.heap.size ≤ k := or2 h38 h27 all_nil (leor (lt_ (lt_ s1a.size s1i.size) h1u.size))
   have h3a : Chg (· ∈ [w0.heap.size]) w10 w19 := cM (cr [w0.heap.size] w10) s1a (io sr)
   have h3b : Chg (· ∈ [w0.heap.size]) w10 w24 := cext h3a s1i
   have h3c : Chg (· ∈ [w0.heap.size]) w10 w25 := cext h3b h1u
   have h3d : Chg (· ∈ [w0.heap.size]) w10 w31 := cM h3c s35 h27
   exact fun _ q => ⟨(x2y, iadd x1g 1), (som hm30).symm, ⟨a32, n33, c34, S26, (q.k (s5 z z z z z)), h3d, h36, h37, h39, (iA _ _)⟩⟩
  have h3e : ∀ k ∈ S11, k ∈ [w0.heap.size] ∨ w10.heap.size ≤ k := or1 h1e (io sr) (leor lr)
  have h3f : Chg (· ∈ [w0.heap.size]) w10 w19 := cM (cr [w0.heap.size] w10) s1a (io sr)
  exact WC_exit (fun a' ha' => QO_brk (som (ifF hm1z hc1p)).symm ⟨a12, n13, c14, S11, (Sat.weaken ha' (s1 z)), h3f, h1c, h1d, h3e, h1o⟩)
 ·rintro ⟨x1b, x16⟩ a3g w3h rfl ⟨a12, n13, c14, S11, hS4c, s28, h1c, h1d, h1e, h1o⟩
  have hm3i := elL hm1y
  have hm3j := un2S hm3i
  revert a3g
  refine Wo (Ws (E z (ef_lit0 (α := UInt8) el_26) ?_))
  rintro _ w4d ⟨a3k, n3l, c3m, rfl, s3n, h3o⟩
  refine Rm z (Ra z (Ra z (Ra z (Wn ?_))))
  obtain rfl := som hm3j
  exact Wr (ret3 hr z z z ⟨(bup (bM (bup s18 s17) s28 (mem1 lr)) s3n), a3k, n3l, c3m, [w3h.heap.size], z, h3o, p2_0, nd_one, (mem1le (lt_ (lt_ s18.size s17.size) s28.size))⟩)
 rintro r4e ex4f a4g w4h rfl ⟨rfl, hq3p⟩
 have hm3q := elR hm1y
 obtain rfl := som hm3q
 exact ⟨hq3p, z⟩
def Q_impl_fileReader_value (w0 : World) (B : Nat) (r : Val × Int × (Option (Int × Int))) (v : Value) (w' : World) : Prop := Below w0.heap.size w0 w' ∧ un3 (fun r1 r2 r3 => ∃ (a1 : Option Addr) (n1 c1 : Nat) (S1 : List Nat) (a2 : Option Addr) (n2 c2 : Nat) (S2 : List Nat) (v3 : Value) (S3 : List Nat), v = .tuple #[(.agg #[vI r1.number, .slice a1 n1 c1, .slice a2 n2 c2]), (vI r2), v3] ∧ inI r1.number ∧ ownS w' S1 (.slice a1 n1 c1) r1.bytes ∧ ownS w' S2 (.slice a2 n2 c2) r1.items ∧ inI r2 ∧ errR 113 w' S3 v3 r3 ∧ (∀ k ∈ S3, w0.heap.size ≤ k) ∧ (S1 ++ S2).Nodup ∧ (∀ k ∈ (S1 ++ S2), w0.heap.size ≤ k)) r
def Q_impl_fileReader_array (w0 : World) (B : Nat) (r : Val × Int × (Option (Int × Int))) (v : Value) (w' : World) : Prop := Below w0.heap.size w0 w' ∧ un3 (fun r1 r2 r3 => ∃ (a1 : Option Addr) (n1 c1 : Nat) (S1 : List Nat) (a2 : Option Addr) (n2 c2 : Nat) (S2 : List Nat) (v3 : Value) (S3 : List Nat), v = .tuple #[(.agg #[vI r1.number, .slice a1 n1 c1, .slice a2 n2 c2]), (vI r2), v3] ∧ inI r1.number ∧ ownS w' S1 (.slice a1 n1 c1) r1.bytes ∧ ownS w' S2 (.slice a2 n2 c2) r1.items ∧ inI r2 ∧ errR 113 w' S3 v3 r3 ∧ (∀ k ∈ S3, w0.heap.size ≤ k) ∧ (S1 ++ S2).Nodup ∧ (∀ k ∈ (S1 ++ S2), w0.heap.size ≤ k)) r
def Q_impl_fileReader_items (w0 : World) (B : Nat) (S2_1 : List Nat) (S2_2 : List Nat) (r : Val × Int × (Option (Int × Int))) (v : Value) (w' : World) : Prop := Chg (· ∈ (S2_1 ++ S2_2)) w0 w' ∧ un3 (fun r1 r2 r3 => ∃ (a1 : Option Addr) (n1 c1 : Nat) (S1 : List Nat) (a2 : Option Addr) (n2 c2 : Nat) (S2 : List Nat) (v3 : Value) (S3 : List Nat), v = .tuple #[(.agg #[vI r1.number, .slice a1 n1 c1, .slice a2 n2 c2]), (vI r2), v3] ∧ inI r1.number ∧ ownS w' S1 (.slice a1 n1 c1) r1.bytes ∧ ownS w' S2 (.slice a2 n2 c2) r1.items ∧ inI r2 ∧ errR 113 w' S3 v3 r3 ∧ (∀ k ∈ S3, w0.heap.size ≤ k) ∧ (S1 ++ S2).Nodup ∧ (∀ k ∈ (S1 ++ S2), k ∈ (S2_1 ++ S2_2) ∨ w0.heap.size ≤ k)) r
def Q_impl_fileReader_choice (w0 : World) (B : Nat) (r : Val × Int × (Option (Int × Int))) (v : Value) (w' : World) : Prop := Below w0.heap.size w0 w' ∧ un3 (fun r1 r2 r3 => ∃ (a1 : Option Addr) (n1 c1 : Nat) (S1 : List Nat) (a2 : Option Addr) (n2 c2 : Nat) (S2 : List Nat) (v3 : Value) (S3 : List Nat), v = .tuple #[(.agg #[vI r1.number, .slice a1 n1 c1, .slice a2 n2 c2]), (vI r2), v3] ∧ inI r1.number ∧ ownS w' S1 (.slice a1 n1 c1) r1.bytes ∧ ownS w' S2 (.slice a2 n2 c2) r1.items ∧ inI r2 ∧ errR 113 w' S3 v3 r3 ∧ (∀ k ∈ S3, w0.heap.size ≤ k) ∧ (S1 ++ S2).Nodup ∧ (∀ k ∈ (S1 ++ S2), w0.heap.size ≤ k)) r
def Q_impl_fileReader_option (w0 : World) (B : Nat) (r : Val × Int × (Option (Int × Int))) (v : Value) (w' : World) : Prop := Below w0.heap.size w0 w' ∧ un3 (fun r1 r2 r3 => ∃ (a1 : Option Addr) (n1 c1 : Nat) (S1 : List Nat) (a2 : Option Addr) (n2 c2 : Nat) (S2 : List Nat) (v3 : Value) (S3 : List Nat), v = .tuple #[(.agg #[vI r1.number, .slice a1 n1 c1, .slice a2 n2 c2]), (vI r2), v3] ∧ inI r1.number ∧ ownS w' S1 (.slice a1 n1 c1) r1.bytes ∧ ownS w' S2 (.slice a2 n2 c2) r1.items ∧ inI r2 ∧ errR 113 w' S3 v3 r3 ∧ (∀ k ∈ S3, w0.heap.size ≤ k) ∧ (S1 ++ S2).Nodup ∧ (∀ k ∈ (S1 ++ S2), w0.heap.size ≤ k)) r
def Q_impl_fileReader_checked (w0 : World) (B : Nat) (r : Val × Int × (Option (Int × Int))) (v : Value) (w' : World) : Prop := Below w0.heap.size w0 w' ∧ un3 (fun r1 r2 r3 => ∃ (a1 : Option Addr) (n1 c1 : Nat) (S1 : List Nat) (a2 : Option Addr) (n2 c2 : Nat) (S2 : List Nat) (v3 : Value) (S3 : List Nat), v = .tuple #[(.agg #[vI r1.number, .slice a1 n1 c1, .slice a2 n2 c2]), (vI r2), v3] ∧ inI r1.number ∧ ownS w' S1 (.slice a1 n1 c1) r1.bytes ∧ ownS w' S2 (.slice a2 n2 c2) r1.items ∧ inI r2 ∧ errR 113 w' S3 v3 r3 ∧ (∀ k ∈ S3, w0.heap.size ≤ k) ∧ (S1 ++ S2).Nodup ∧ (∀ k ∈ (S1 ++ S2), w0.heap.size ≤ k)) r
structure S_impl_fileReader_value (n : Nat) : Prop where
  run : ∀ {B pn1_0 pc1_0 pn1_1 pc1_1 b1 o1 : Nat} {pa1_0 pa1_1 : Option Addr} {x1 : FileReader} {x2 : Int} {x3 : Int} {res : Val × Int × (Option (Int × Int))} {w0 : World} (hm : (F_impl_fileReader_value n).impl_fileReader_value x1 x2 x3 = some res) (hBw : B ≤ w0.heap.size) (p1_0 : repS w0 B (.slice pa1_0 pn1_0 pc1_0) x1.d.rules) (p1_1 : repS w0 B (.slice pa1_1 pn1_1 pc1_1) x1.b) (hC1 : CellsAt w0 b1 o1 [(.slice pa1_0 pn1_0 pc1_0), (.slice pa1_1 pn1_1 pc1_1)]) (hC1b : b1 < B) (p2_0 : inI x2) (p3_0 : inI x3), CallsR prog 70 [(.pointer (some ⟨b1, o1, none⟩)), (vI x2), (vI x3)] w0 (Q_impl_fileReader_value w0 B res)
structure S_impl_fileReader_array (n : Nat) : Prop where
  run : ∀ {B pn1_0 pc1_0 pn1_1 pc1_1 b1 o1 pn2_4 pc2_4 pn2_5 pc2_5 pn2_6 pc2_6 pn2_7 pc2_7 : Nat} {pa1_0 pa1_1 pa2_4 pa2_5 pa2_6 pa2_7 : Option Addr} {x1 : FileReader} {x2 : Rule} {x3 : Int} {res : Val × Int × (Option (Int × Int))} {w0 : World} (hm : (F_impl_fileReader_value n).impl_fileReader_array x1 x2 x3 = some res) (hBw : B ≤ w0.heap.size) (p1_0 : repS w0 B (.slice pa1_0 pn1_0 pc1_0) x1.d.rules) (p1_1 : repS w0 B (.slice pa1_1 pn1_1 pc1_1) x1.b) (hC1 : CellsAt w0 b1 o1 [(.slice pa1_0 pn1_0 pc1_0), (.slice pa1_1 pn1_1 pc1_1)]) (hC1b : b1 < B) (p2_0 : x2.name.b.length ≤ LEN) (p2_1 : inI x2.kind) (p2_2 : inI x2.size) (p2_4 : repS w0 B (.slice pa2_4 pn2_4 pc2_4) x2.bytes) (p2_5 : repS w0 B (.slice pa2_5 pn2_5 pc2_5) x2.names) (p2_6 : repS w0 B (.slice pa2_6 pn2_6 pc2_6) x2.tags) (p2_7 : repS w0 B (.slice pa2_7 pn2_7 pc2_7) x2.kids) (p3_0 : inI x3), CallsR prog 82 [(.pointer (some ⟨b1, o1, none⟩)), (.agg #[(Str.v x2.name), (vI x2.kind), (vI x2.size), (vB x2.little), (.slice pa2_4 pn2_4 pc2_4), (.slice pa2_5 pn2_5 pc2_5), (.slice pa2_6 pn2_6 pc2_6), (.slice pa2_7 pn2_7 pc2_7)]), (vI x3)] w0 (Q_impl_fileReader_array w0 B res)
structure S_impl_fileReader_items (n : Nat) : Prop where
  run : ∀ {B pn1_0 pc1_0 pn1_1 pc1_1 b1 o1 pn2_1 pc2_1 pn2_2 pc2_2 pn3_0 pc3_0 : Nat} {pa1_0 pa1_1 pa2_1 pa2_2 pa3_0 : Option Addr} {S2_1 S2_2 : List Nat} {x1 : FileReader} {x2 : Val} {x3 : List Int} {x4 : Int} {res : Val × Int × (Option (Int × Int))} {w0 : World} (hm : (F_impl_fileReader_value n).impl_fileReader_items x1 x2 x3 x4 = some res) (hBw : B ≤ w0.heap.size) (p1_0 : repS w0 B (.slice pa1_0 pn1_0 pc1_0) x1.d.rules) (p1_1 : repS w0 B (.slice pa1_1 pn1_1 pc1_1) x1.b) (hC1 : CellsAt w0 b1 o1 [(.slice pa1_0 pn1_0 pc1_0), (.slice pa1_1 pn1_1 pc1_1)]) (hC1b : b1 < B) (p2_0 : inI x2.number) (p2_1 : ownS w0 S2_1 (.slice pa2_1 pn2_1 pc2_1) x2.bytes) (p2_1n : S2_1.Nodup) (p2_1g : ∀ k ∈ S2_1, B ≤ k) (p2_2 : ownS w0 S2_2 (.slice pa2_2 pn2_2 pc2_2) x2.items) (p2_2n : S2_2.Nodup) (p2_2g : ∀ k ∈ S2_2, B ≤ k) (p2_2d1 : ∀ k ∈ S2_2, k ∉ S2_1) (p3_0 : repS w0 B (.slice pa3_0 pn3_0 pc3_0) x3) (p4_0 : inI x4), CallsR prog 83 [(.pointer (some ⟨b1, o1, none⟩)), (.agg #[(vI x2.number), (.slice pa2_1 pn2_1 pc2_1), (.slice pa2_2 pn2_2 pc2_2)]), (.slice pa3_0 pn3_0 pc3_0), (vI x4)] w0 (Q_impl_fileReader_items w0 B S2_1 S2_2 res)
structure S_impl_fileReader_choice (n : Nat) : Prop where
  run : ∀ {B pn1_0 pc1_0 pn1_1 pc1_1 b1 o1 pn2_4 pc2_4 pn2_5 pc2_5 pn2_6 pc2_6 pn2_7 pc2_7 : Nat} {pa1_0 pa1_1 pa2_4 pa2_5 pa2_6 pa2_7 : Option Addr} {x1 : FileReader} {x2 : Rule} {x3 : Int} {res : Val × Int × (Option (Int × Int))} {w0 : World} (hm : (F_impl_fileReader_value n).impl_fileReader_choice x1 x2 x3 = some res) (hBw : B ≤ w0.heap.size) (p1_0 : repS w0 B (.slice pa1_0 pn1_0 pc1_0) x1.d.rules) (p1_1 : repS w0 B (.slice pa1_1 pn1_1 pc1_1) x1.b) (hC1 : CellsAt w0 b1 o1 [(.slice pa1_0 pn1_0 pc1_0), (.slice pa1_1 pn1_1 pc1_1)]) (hC1b : b1 < B) (p2_0 : x2.name.b.length ≤ LEN) (p2_1 : inI x2.kind) (p2_2 : inI x2.size) (p2_4 : repS w0 B (.slice pa2_4 pn2_4 pc2_4) x2.bytes) (p2_5 : repS w0 B (.slice pa2_5 pn2_5 pc2_5) x2.names) (p2_6 : repS w0 B (.slice pa2_6 pn2_6 pc2_6) x2.tags) (p2_7 : repS w0 B (.slice pa2_7 pn2_7 pc2_7) x2.kids) (p3_0 : inI x3), CallsR prog 84 [(.pointer (some ⟨b1, o1, none⟩)), (.agg #[(Str.v x2.name), (vI x2.kind), (vI x2.size), (vB x2.little), (.slice pa2_4 pn2_4 pc2_4), (.slice pa2_5 pn2_5 pc2_5), (.slice pa2_6 pn2_6 pc2_6), (.slice pa2_7 pn2_7 pc2_7)]), (vI x3)] w0 (Q_impl_fileReader_choice w0 B res)
structure S_impl_fileReader_option (n : Nat) : Prop where
  run : ∀ {B pn1_0 pc1_0 pn1_1 pc1_1 b1 o1 pn2_4 pc2_4 pn2_5 pc2_5 pn2_6 pc2_6 pn2_7 pc2_7 : Nat} {pa1_0 pa1_1 pa2_4 pa2_5 pa2_6 pa2_7 : Option Addr} {x1 : FileReader} {x2 : Rule} {x3 : Int} {res : Val × Int × (Option (Int × Int))} {w0 : World} (hm : (F_impl_fileReader_value n).impl_fileReader_option x1 x2 x3 = some res) (hBw : B ≤ w0.heap.size) (p1_0 : repS w0 B (.slice pa1_0 pn1_0 pc1_0) x1.d.rules) (p1_1 : repS w0 B (.slice pa1_1 pn1_1 pc1_1) x1.b) (hC1 : CellsAt w0 b1 o1 [(.slice pa1_0 pn1_0 pc1_0), (.slice pa1_1 pn1_1 pc1_1)]) (hC1b : b1 < B) (p2_0 : x2.name.b.length ≤ LEN) (p2_1 : inI x2.kind) (p2_2 : inI x2.size) (p2_4 : repS w0 B (.slice pa2_4 pn2_4 pc2_4) x2.bytes) (p2_5 : repS w0 B (.slice pa2_5 pn2_5 pc2_5) x2.names) (p2_6 : repS w0 B (.slice pa2_6 pn2_6 pc2_6) x2.tags) (p2_7 : repS w0 B (.slice pa2_7 pn2_7 pc2_7) x2.kids) (p3_0 : inI x3), CallsR prog 85 [(.pointer (some ⟨b1, o1, none⟩)), (.agg #[(Str.v x2.name), (vI x2.kind), (vI x2.size), (vB x2.little), (.slice pa2_4 pn2_4 pc2_4), (.slice pa2_5 pn2_5 pc2_5), (.slice pa2_6 pn2_6 pc2_6), (.slice pa2_7 pn2_7 pc2_7)]), (vI x3)] w0 (Q_impl_fileReader_option w0 B res)
structure S_impl_fileReader_checked (n : Nat) : Prop where
  run : ∀ {B pn1_0 pc1_0 pn1_1 pc1_1 b1 o1 pn2_4 pc2_4 pn2_5 pc2_5 pn2_6 pc2_6 pn2_7 pc2_7 : Nat} {pa1_0 pa1_1 pa2_4 pa2_5 pa2_6 pa2_7 : Option Addr} {x1 : FileReader} {x2 : Rule} {x3 : Int} {res : Val × Int × (Option (Int × Int))} {w0 : World} (hm : (F_impl_fileReader_value n).impl_fileReader_checked x1 x2 x3 = some res) (hBw : B ≤ w0.heap.size) (p1_0 : repS w0 B (.slice pa1_0 pn1_0 pc1_0) x1.d.rules) (p1_1 : repS w0 B (.slice pa1_1 pn1_1 pc1_1) x1.b) (hC1 : CellsAt w0 b1 o1 [(.slice pa1_0 pn1_0 pc1_0), (.slice pa1_1 pn1_1 pc1_1)]) (hC1b : b1 < B) (p2_0 : x2.name.b.length ≤ LEN) (p2_1 : inI x2.kind) (p2_2 : inI x2.size) (p2_4 : repS w0 B (.slice pa2_4 pn2_4 pc2_4) x2.bytes) (p2_5 : repS w0 B (.slice pa2_5 pn2_5 pc2_5) x2.names) (p2_6 : repS w0 B (.slice pa2_6 pn2_6 pc2_6) x2.tags) (p2_7 : repS w0 B (.slice pa2_7 pn2_7 pc2_7) x2.kids) (p3_0 : inI x3), CallsR prog 86 [(.pointer (some ⟨b1, o1, none⟩)), (.agg #[(Str.v x2.name), (vI x2.kind), (vI x2.size), (vB x2.little), (.slice pa2_4 pn2_4 pc2_4), (.slice pa2_5 pn2_5 pc2_5), (.slice pa2_6 pn2_6 pc2_6), (.slice pa2_7 pn2_7 pc2_7)]), (vI x3)] w0 (Q_impl_fileReader_checked w0 B res)
theorem T_impl_fileReader_value (ih_impl_fileReader_value : S_impl_fileReader_value n) (ih_impl_fileReader_array : S_impl_fileReader_array n) (ih_impl_fileReader_items : S_impl_fileReader_items n) (ih_impl_fileReader_choice : S_impl_fileReader_choice n) (ih_impl_fileReader_option : S_impl_fileReader_option n) (ih_impl_fileReader_checked : S_impl_fileReader_checked n) {x1 : FileReader} {b1 o1 : Nat} {x2 : Int} {x3 : Int} {res : Val × Int × (Option (Int × Int))} (hm : B_impl_fileReader_value n (F_impl_fileReader_value n) x1 x2 x3 = some res) (hBw : B ≤ w0.heap.size) (p1_0 : repS w0 B (.slice pa1_0 pn1_0 pc1_0) x1.d.rules) (p1_1 : repS w0 B (.slice pa1_1 pn1_1 pc1_1) x1.b) (hC1 : CellsAt w0 b1 o1 [(.slice pa1_0 pn1_0 pc1_0), (.slice pa1_1 pn1_1 pc1_1)]) (hC1b : b1 < B) (p2_0 : inI x2) (p3_0 : inI x3) : CallsR prog 70 [(.pointer (some ⟨b1, o1, none⟩)), (vI x2), (vI x3)] w0 (Q_impl_fileReader_value w0 B res) := by
 unfold B_impl_fileReader_value at hm
 obtain ⟨fn, hf, hb, hN, hr⟩ := fnE func70
 refine goW hf (hb.trans z) (hN.trans z) (lb z) (Ws (E z (fa zero_74) ?_))
 rintro _ w3j ⟨rfl, h3k⟩
 have h12 := h3k.below
 have h13 : Blk w3j w0.heap.size [(vI 0), (.slice none 0 0), (.slice none 0 0)] := h3k.blk
 refine Ra z (Ra z (Wn (Ws (Rm z (R z (rd_nil z) (R z (fd f_108_0 z) (R z (fd f_34_0 z) ?_)))))))
 have h15 := hC1.ext h12
 refine R z (l1 g_32 z fid (h15.at (j := 0) z)) (Rm z ?_)
 obtain ⟨x14, e64, hm3l⟩ := bdS hm
 have h17 := p1_0.ext h12
 refine RX z (at_ (α := Rule) d_32 z_70 z z z h17 e64) ?_
 rintro _ ⟨b10b, o10c, cs10d, rfl, h65, h66, h10e⟩
 obtain ⟨a1a, n1b, c1c, a1d, n1e, c1f, a1g, n1h, c1i, a1j, n1k, c1l, rfl, h1v, h1w, h1s, h1t, h1x, h1y, h1m⟩ := Rule_open h66
 refine R z (lN (vs := [(Str.v x14.name), (vI x14.kind), (vI x14.size), (vB x14.little), (.slice a1a n1b c1c), (.slice a1d n1e c1f), (.slice a1g n1h c1i), (.slice a1j n1k c1l)]) g_70 z_70 z z fid h65) (E z (fa zero_70) ?_)
 rintro _ w67 ⟨rfl, h3m⟩
 have h10 := h3m.below
 have h68 : Blk w67 w3j.heap.size [(Str.v (⟨[]⟩ : Str)), (vI 0), (vI 0), (vB false), (.slice none 0 0), (.slice none 0 0), (.slice none 0 0), (.slice none 0 0)] := h3m.blk
 refine E0 (fs (cur' := [(Str.v x14.name), (vI x14.kind), (vI x14.size), (vB x14.little), (.slice a1a n1b c1c), (.slice a1d n1e c1f), (.slice a1g n1h c1i), (.slice a1j n1k c1l)]) z_70 z z h68 z (lb z) (oA z) z) ?_
 rintro _ w10f ⟨h18, s69⟩
 have h11 := s69.one
 refine Wn (Wq (Ws (R z (fd f_70_1 z) (R z (l1 g_3 z fid (h18.at z)) (Wn (WC_block (Ws (R z (eql z z) (Ra z (Wn (Wc z (fun hc2m => ?_) (fun hc2m => ?_))))))))))))
 ·refine Ws (Rm z (Rm z (Rm z ?_)))
  have h2n := mem1le (lt_ hBw h12.size)
  have h3n := lt_ (lt_ h12.size h10.size) h11.size
  obtain ⟨r3o, r10g, r10h, e6a, hm6b⟩ := bd3S (ifT hm3l hc2m)
  refine E z (fc call79 z (W_impl_fileReader_integer (B := B) e6a (lt_ hBw h3n) ((h17.ext h10).chg h11 (lg h2n)) (((p1_1.ext h12).ext h10).chg h11 (lg h2n)) ((h15.ext h10).chg h11 ((lg h2n) _ hC1b)) hC1b p2_0 p3_0)) ?_
  rintro _ w10i ⟨s3p, v6c, S6d, rfl, h6e, h6f, h6g, h3q⟩
  refine Rm z ?_
  iterate 3 refine R z (ext_ z z) ?_
  refine Ra z (Ra z (Ra z (Wn (Ws (Rm z (R z (bP (parts := [(0, (.tmp 41))]) (cs := [(vI r3o), (.slice none 0 0), (.slice none 0 0)]) build_74 z z) (Rm z (Rm z (E0 (fs (cur' := [(vI r3o), (.slice none 0 0), (.slice none 0 0)]) z_74 z z (((h13.ext h10).chg h11 (djs (mmr h13.lt))).ext s3p) z (lb z) (oA z) z) ?_)))))))))
  rintro _ w10j ⟨h6h, s6i⟩
  have h3r := s6i.one
  refine Ra z (Ra z (Wn ?_))
  obtain rfl := som hm6b
  exact Wr (rtO (ret3 hr (resC g_74 z_74 z h6h z) z z ⟨(bM (bup (bM (bup h12 h10) h11 (mem1le h12.size)) s3p) h3r (mem1 lr)), none, 0, 0, [], none, 0, 0, [], v6c, S6d, z, h6e, onL, onL, h6f, (h6g.chg h3r (o0n1 h3q h13.lt (lt_ h10.size h11.size))), (o0le h3q h3n), nd0, al0⟩))
 have hm3s := ifF hm3l hc2m
 refine Ws (R z (eql z z) (Ra z (Wn (Wc z (fun hc2o => ?_) (fun hc2o => ?_)))))
 ·refine Ws (Rm z (R z (lN (vs := [(Str.v x14.name), (vI x14.kind), (vI x14.size), (vB x14.little), (.slice a1a n1b c1c), (.slice a1d n1e c1f), (.slice a1g n1h c1i), (.slice a1j n1k c1l)]) g_70 z_70 z z fid (h18.row 0 8 z)) (Rm z ?_)))
  have h1n := mem1le (lt_ hBw h12.size)
  have h3t := lt_ (lt_ h12.size h10.size) h11.size
  obtain ⟨r10k, r10l, e6j, hm6k⟩ := bd2S (ifT hm3s hc2o)
  refine E z (fc call80 z (W_impl_fileReader_constant (B := B) e6j (lt_ hBw h3t) ((h17.ext h10).chg h11 (lg h1n)) (((p1_1.ext h12).ext h10).chg h11 (lg h1n)) ((h15.ext h10).chg h11 ((lg h1n) _ hC1b)) hC1b h1v h1w h1s ((h1t.ext h10).chg h11 (lg h1n)) ((h1x.ext h10).chg h11 (lg h1n)) ((h1y.ext h10).chg h11 (lg h1n)) ((h1m.ext h10).chg h11 (lg h1n)) p3_0)) ?_
  rintro _ w10m ⟨s3u, v6l, S6m, rfl, h6n, h6o, h3v⟩
  refine Rm z (R z (ext_ z z) (R z (ext_ z z) (Ra z (Ra z (Wn (Ws (R z (bP (parts := []) (cs := [(vI 0), (.slice none 0 0), (.slice none 0 0)]) build_74 z z) (Rm z (Rm z (E0 (fs (cur' := [(vI 0), (.slice none 0 0), (.slice none 0 0)]) z_74 z z (((h13.ext h10).chg h11 (djs (mmr h13.lt))).ext s3u) z (lb z) (oA z) z) ?_))))))))))
  rintro _ w10n ⟨h6p, s6q⟩
  have h3w := s6q.one
  refine Ra z (Ra z (Wn ?_))
  obtain rfl := som hm6k
  exact Wr (rtO (ret3 hr (resC g_74 z_74 z h6p z) z z ⟨(bM (bup (bM (bup h12 h10) h11 (mem1le h12.size)) s3u) h3w (mem1 lr)), none, 0, 0, [], none, 0, 0, [], v6l, S6m, z, (ii z), onL, onL, h6n, (h6o.chg h3w (o0n1 h3v h13.lt (lt_ h10.size h11.size))), (o0le h3v h3t), nd0, al0⟩))
 have hm3x := ifF hm3s hc2o
 refine Ws (R z (eql z z) (Ra z (Wn (Wc z (fun hc2p => ?_) (fun hc2p => ?_)))))
 ·refine Ws (Rm z (Rm z (R z (fd f_70_2 z) (R z (l1 g_3 z fid (h18.at z)) ?_))))
  have h2q := mem1le (lt_ hBw h12.size)
  have h1z := lt_ (lt_ h12.size h10.size) h11.size
  obtain ⟨r6r, r10o, r10p, e6s, hm6t⟩ := bd3S (ifT hm3x hc2p)
  refine E z (fc call81 z (W_impl_fileReader_content (B := B) e6s (lt_ hBw h1z) ((h17.ext h10).chg h11 (lg h2q)) (((p1_1.ext h12).ext h10).chg h11 (lg h2q)) ((h15.ext h10).chg h11 ((lg h2q) _ hC1b)) hC1b p3_0 h1s)) ?_
  rintro _ w10q ⟨s3y, a3z, n40, c41, S6u, a42, n43, c44, S6v, v6w, S6x, rfl, h6y, h6z, h70, h71, h72, h45, h2r, h20⟩
  iterate 3 refine R z (ext_ z z) ?_
  refine E0 (fs (cur' := [(vI r6r.number), (.slice a3z n40 c41), (.slice a42 n43 c44)]) z_74 z z (((h13.ext h10).chg h11 (djs (mmr h13.lt))).ext s3y) z (lb z) (oA z) z) ?_
  rintro _ w10r ⟨h73, s74⟩
  have h21 := s74.one
  refine Ra z (Ra z (Wn ?_))
  obtain rfl := som hm6t
  have h2s := lt_ h10.size h11.size
  exact Wr (rtO (ret3 hr (resC g_74 z_74 z h73 z) z z ⟨(bM (bup (bM (bup h12 h10) h11 (mem1le h12.size)) s3y) h21 (mem1 lr)), a3z, n40, c41, S6u, a42, n43, c44, S6v, v6w, S6x, z, h6y, (h6z.chg h21 (o0n1 (all_left h20) h13.lt h2s)), (h70.chg h21 (o0n1 (all_right h20) h13.lt h2s)), h71, (h72.chg h21 (o0n1 h45 h13.lt h2s)), (o0le h45 h1z), (nd_app (nd_left h2r) (nd_right h2r) (nd_dj h2r)), (all_app (o0le (all_left h20) h1z) (o0le (all_right h20) h1z))⟩))
 have hm46 := ifF hm3x hc2p
 refine Ws (R z (eql z z) (Ra z (Wn (Wc z (fun hc2t => ?_) (fun hc2t => ?_)))))
 ·refine Ws (Rm z (R z (fd f_70_7 z) (R z (l1 g_63 z fid (h18.at z)) ?_)))
  obtain ⟨x10s, e75, hm76⟩ := bdS (ifT hm46 hc2t)
  have h22 := mem1le (lt_ hBw h12.size)
  refine RX z (at_ (α := Int) d_63 z_3 z z z ((h1m.ext h10).chg h11 (lg h22)) e75) ?_
  rintro _ ⟨b10t, o10u, cs10v, rfl, h77, h78, h10w⟩
  obtain ⟨rfl, h79⟩ := Int_open h78
  refine R z (l1 g_3 z fid (h77.at0 z)) (Rm z ?_)
  have h47 := (h15.ext h10).chg h11 ((lg h22) _ hC1b)
  have h48 := (h17.ext h10).chg h11 (lg h22)
  have h49 := ((p1_1.ext h12).ext h10).chg h11 (lg h22)
  have h2u := lt_ (lt_ h12.size h10.size) h11.size
  obtain ⟨r10x, r10y, r10z, e7a, hm4a⟩ := bd3S hm76
  refine E z (fc call79 z (W_impl_fileReader_integer (B := B) e7a (lt_ hBw h2u) h48 h49 h47 hC1b h79 p3_0)) ?_
  rintro _ w110 ⟨s19, v7b, S7c, rfl, h7d, h7e, h4b, h4c⟩
  refine Rm z ?_
  iterate 3 refine R z (ext_ z z) ?_
  refine Ra z (Ra z (Ra z (Wn (Wq (Ws (Rm z (R z (rd_neqEr d_110 z z h4b) (Wn (Wc z (fun hc2v => ?_) (fun hc2v => ?_))))))))))
  ·refine Ws (R z (bP (parts := []) (cs := [(vI 0), (.slice none 0 0), (.slice none 0 0)]) build_74 z z) (Rm z (Rm z (E0 (fs (cur' := [(vI 0), (.slice none 0 0), (.slice none 0 0)]) z_74 z z (((h13.ext h10).chg h11 (djs (mmr h13.lt))).ext s19) z (lb z) (oA z) z) ?_))))
   rintro _ w111 ⟨h7f, s7g⟩
   have h4d := s7g.one
   refine Ra z (Ra z (Wn ?_))
   obtain rfl := som (ifT hm4a hc2v)
   exact Wr (rtO (ret3 hr (resC g_74 z_74 z h7f z) z z ⟨(bM (bup (bM (bup h12 h10) h11 (mem1le h12.size)) s19) h4d (mem1 lr)), none, 0, 0, [], none, 0, 0, [], v7b, S7c, z, (ii z), onL, onL, p3_0, (h4b.chg h4d (o0n1 h4c h13.lt (lt_ h10.size h11.size))), (o0le h4c h2u), nd0, al0⟩))
  refine Wk (Ws (Rm z (Rm z (Rm z ?_))))
  have h23 := lt_ h2u s19.size
  obtain ⟨r7h, r112, r113, e7i, hm7j⟩ := bd3S (ifF hm4a hc2v)
  refine E z (fc call81 z (W_impl_fileReader_content (B := B) e7i (lt_ hBw h23) (h48.ext s19) (h49.ext s19) (h47.ext s19) hC1b h7e h7d)) ?_
  rintro _ w114 ⟨s4e, a4f, n4g, c4h, S7k, a4i, n4j, c4k, S7l, v7m, S7n, rfl, h7o, h7p, h7q, h7r, h7s, h4l, h2w, h24⟩
  iterate 3 refine R z (ext_ z z) ?_
  refine E0 (fs (cur' := [(vI r7h.number), (.slice a4f n4g c4h), (.slice a4i n4j c4k)]) z_74 z z ((((h13.ext h10).chg h11 (djs (mmr h13.lt))).ext s19).ext s4e) z (lb z) (oA z) z) ?_
  rintro _ w115 ⟨h7t, s7u⟩
  have h25 := s7u.one
  refine Ra z (Ra z (Wn ?_))
  obtain rfl := som hm7j
  have h2x := lt_ (lt_ h10.size h11.size) s19.size
  exact Wr (rtO (ret3 hr (resC g_74 z_74 z h7t z) z z ⟨(bM (bup (bup (bM (bup h12 h10) h11 (mem1le h12.size)) s19) s4e) h25 (mem1 lr)), a4f, n4g, c4h, S7k, a4i, n4j, c4k, S7l, v7m, S7n, z, h7o, (h7p.chg h25 (o0n1 (all_left h24) h13.lt h2x)), (h7q.chg h25 (o0n1 (all_right h24) h13.lt h2x)), h7r, (h7s.chg h25 (o0n1 h4l h13.lt h2x)), (o0le h4l h23), (nd_app (nd_left h2w) (nd_right h2w) (nd_dj h2w)), (all_app (o0le (all_left h24) h23) (o0le (all_right h24) h23))⟩))
 have hm4m := ifF hm46 hc2t
 refine Ws (R z (eql z z) (Ra z (Wn (Wc z (fun hc2y => ?_) (fun hc2y => ?_)))))
 ·refine Ws (Rm z (R z (lN (vs := [(Str.v x14.name), (vI x14.kind), (vI x14.size), (vB x14.little), (.slice a1a n1b c1c), (.slice a1d n1e c1f), (.slice a1g n1h c1i), (.slice a1j n1k c1l)]) g_70 z_70 z z fid (h18.row 0 8 z)) (Rm z ?_)))
  have h1o := mem1le (lt_ hBw h12.size)
  have h26 := lt_ (lt_ h12.size h10.size) h11.size
  obtain ⟨r7v, r116, r117, e7w, hm7x⟩ := bd3S (ifT hm4m hc2y)
  refine E z (fc call82 z (ih_impl_fileReader_array.run (B := B) e7w (lt_ hBw h26) ((h17.ext h10).chg h11 (lg h1o)) (((p1_1.ext h12).ext h10).chg h11 (lg h1o)) ((h15.ext h10).chg h11 ((lg h1o) _ hC1b)) hC1b h1v h1w h1s ((h1t.ext h10).chg h11 (lg h1o)) ((h1x.ext h10).chg h11 (lg h1o)) ((h1y.ext h10).chg h11 (lg h1o)) ((h1m.ext h10).chg h11 (lg h1o)) p3_0)) ?_
  rintro _ w118 ⟨s4n, a4o, n4p, c4q, S7y, a4r, n4s, c4t, S7z, v80, S81, rfl, h82, h83, h84, h85, h86, h4u, h2z, h27⟩
  iterate 3 refine R z (ext_ z z) ?_
  refine E0 (fs (cur' := [(vI r7v.number), (.slice a4o n4p c4q), (.slice a4r n4s c4t)]) z_74 z z (((h13.ext h10).chg h11 (djs (mmr h13.lt))).ext s4n) z (lb z) (oA z) z) ?_
  rintro _ w119 ⟨h87, s88⟩
  have h28 := s88.one
  refine Ra z (Ra z (Wn ?_))
  obtain rfl := som hm7x
  have h30 := lt_ h10.size h11.size
  exact Wr (rtO (ret3 hr (resC g_74 z_74 z h87 z) z z ⟨(bM (bup (bM (bup h12 h10) h11 (mem1le h12.size)) s4n) h28 (mem1 lr)), a4o, n4p, c4q, S7y, a4r, n4s, c4t, S7z, v80, S81, z, h82, (h83.chg h28 (o0n1 (all_left h27) h13.lt h30)), (h84.chg h28 (o0n1 (all_right h27) h13.lt h30)), h85, (h86.chg h28 (o0n1 h4u h13.lt h30)), (o0le h4u h26), (nd_app (nd_left h2z) (nd_right h2z) (nd_dj h2z)), (all_app (o0le (all_left h27) h26) (o0le (all_right h27) h26))⟩))
 have hm4v := ifF hm4m hc2y
 refine Ws (R z (eql z z) (Ra z (Wn (Wc z (fun hc31 => ?_) (fun hc31 => ?_)))))
 ·refine Ws (Rm z (R z (bP (parts := []) (cs := [(vI 0), (.slice none 0 0), (.slice none 0 0)]) build_74 z z) (R z (fd f_70_7 z) (R z (l1 g_63 z fid (h18.at z)) (Rm z ?_)))))
  have h29 := mem1le (lt_ hBw h12.size)
  have h2a := lt_ (lt_ h12.size h10.size) h11.size
  obtain ⟨r89, r11a, r11b, e8a, hm8b⟩ := bd3S (ifT hm4v hc31)
  refine E z (fc call83 z (ih_impl_fileReader_items.run (B := B) e8a (lt_ hBw h2a) ((h17.ext h10).chg h11 (lg h29)) (((p1_1.ext h12).ext h10).chg h11 (lg h29)) ((h15.ext h10).chg h11 ((lg h29) _ hC1b)) hC1b (ii z) onL nd_nil all_nil onL nd_nil all_nil all_nil ((h1m.ext h10).chg h11 (lg h29)) p3_0)) ?_
  rintro _ w11c ⟨s4w, a4x, n4y, c4z, S50, a51, n52, c53, S54, v8c, S8d, rfl, h8e, h8f, h8g, h8h, h8i, h55, h32, h2b⟩
  iterate 3 refine R z (ext_ z z) ?_
  refine E0 (fs (cur' := [(vI r89.number), (.slice a4x n4y c4z), (.slice a51 n52 c53)]) z_74 z z (((h13.ext h10).chg h11 (djs (mmr h13.lt))).chg s4w (atp (nmA (nmN _) (nmN _)))) z (lb z) (oA z) z) ?_
  rintro _ w11d ⟨h8j, s8k⟩
  have h2c := s8k.one
  refine Ra z (Ra z (Wn ?_))
  obtain rfl := som hm8b
  have h33 := lt_ h10.size h11.size
  have h8l : ∀ k ∈ S50, k ∉ [w0.heap.size] := or1 (all_left h2b) al0 (ltnot (mem1 h13.lt) h33)
  have h8m : ∀ k ∈ S54, k ∉ [w0.heap.size] := or1 (all_right h2b) al0 (ltnot (mem1 h13.lt) h33)
  exact Wr (rtO (ret3 hr (resC g_74 z_74 z h8j z) z z ⟨(bM (bM (bM (bup h12 h10) h11 (mem1le h12.size)) s4w al0) h2c (mem1 lr)), a4x, n4y, c4z, S50, a51, n52, c53, S54, v8c, S8d, z, h8e, (h8f.chg h2c h8l), (h8g.chg h2c h8m), h8h, (h8i.chg h2c (o0n1 h55 h13.lt h33)), (o0le h55 h2a), (nd_app (nd_left h32) (nd_right h32) (nd_dj h32)), (all_app (o1le (all_left h2b) al0 h2a) (o1le (all_right h2b) al0 h2a))⟩))
 have hm56 := ifF hm4v hc31
 refine Ws (R z (eql z z) (Ra z (Wn (Wc z (fun hc34 => ?_) (fun hc34 => ?_)))))
 ·refine Ws (Rm z (R z (lN (vs := [(Str.v x14.name), (vI x14.kind), (vI x14.size), (vB x14.little), (.slice a1a n1b c1c), (.slice a1d n1e c1f), (.slice a1g n1h c1i), (.slice a1j n1k c1l)]) g_70 z_70 z z fid (h18.row 0 8 z)) (Rm z ?_)))
  have h1p := mem1le (lt_ hBw h12.size)
  have h2d := lt_ (lt_ h12.size h10.size) h11.size
  obtain ⟨r8n, r11e, r11f, e8o, hm8p⟩ := bd3S (ifT hm56 hc34)
  refine E z (fc call84 z (ih_impl_fileReader_choice.run (B := B) e8o (lt_ hBw h2d) ((h17.ext h10).chg h11 (lg h1p)) (((p1_1.ext h12).ext h10).chg h11 (lg h1p)) ((h15.ext h10).chg h11 ((lg h1p) _ hC1b)) hC1b h1v h1w h1s ((h1t.ext h10).chg h11 (lg h1p)) ((h1x.ext h10).chg h11 (lg h1p)) ((h1y.ext h10).chg h11 (lg h1p)) ((h1m.ext h10).chg h11 (lg h1p)) p3_0)) ?_
  rintro _ w11g ⟨s57, a58, n59, c5a, S8q, a5b, n5c, c5d, S8r, v8s, S8t, rfl, h8u, h8v, h8w, h8x, h8y, h5e, h35, h2e⟩
  iterate 3 refine R z (ext_ z z) ?_
  refine E0 (fs (cur' := [(vI r8n.number), (.slice a58 n59 c5a), (.slice a5b n5c c5d)]) z_74 z z (((h13.ext h10).chg h11 (djs (mmr h13.lt))).ext s57) z (lb z) (oA z) z) ?_
  rintro _ w11h ⟨h8z, s90⟩
  have h2f := s90.one
  refine Ra z (Ra z (Wn ?_))
  obtain rfl := som hm8p
  have h36 := lt_ h10.size h11.size
  exact Wr (rtO (ret3 hr (resC g_74 z_74 z h8z z) z z ⟨(bM (bup (bM (bup h12 h10) h11 (mem1le h12.size)) s57) h2f (mem1 lr)), a58, n59, c5a, S8q, a5b, n5c, c5d, S8r, v8s, S8t, z, h8u, (h8v.chg h2f (o0n1 (all_left h2e) h13.lt h36)), (h8w.chg h2f (o0n1 (all_right h2e) h13.lt h36)), h8x, (h8y.chg h2f (o0n1 h5e h13.lt h36)), (o0le h5e h2d), (nd_app (nd_left h35) (nd_right h35) (nd_dj h35)), (all_app (o0le (all_left h2e) h2d) (o0le (all_right h2e) h2d))⟩))
 have hm5f := ifF hm56 hc34
 refine Ws (R z (eql z z) (Ra z (Wn (Wc z (fun hc37 => ?_) (fun hc37 => ?_)))))
 ·refine Ws (Rm z (R z (lN (vs := [(Str.v x14.name), (vI x14.kind), (vI x14.size), (vB x14.little), (.slice a1a n1b c1c), (.slice a1d n1e c1f), (.slice a1g n1h c1i), (.slice a1j n1k c1l)]) g_70 z_70 z z fid (h18.row 0 8 z)) (Rm z ?_)))
  have h1q := mem1le (lt_ hBw h12.size)
  have h2g := lt_ (lt_ h12.size h10.size) h11.size
  obtain ⟨r91, r11i, r11j, e92, hm93⟩ := bd3S (ifT hm5f hc37)
  refine E z (fc call85 z (ih_impl_fileReader_option.run (B := B) e92 (lt_ hBw h2g) ((h17.ext h10).chg h11 (lg h1q)) (((p1_1.ext h12).ext h10).chg h11 (lg h1q)) ((h15.ext h10).chg h11 ((lg h1q) _ hC1b)) hC1b h1v h1w h1s ((h1t.ext h10).chg h11 (lg h1q)) ((h1x.ext h10).chg h11 (lg h1q)) ((h1y.ext h10).chg h11 (lg h1q)) ((h1m.ext h10).chg h11 (lg h1q)) p3_0)) ?_
  rintro _ w11k ⟨s5g, a5h, n5i, c5j, S94, a5k, n5l, c5m, S95, v96, S97, rfl, h98, h99, h9a, h9b, h9c, h5n, h38, h2h⟩
  iterate 3 refine R z (ext_ z z) ?_
  refine E0 (fs (cur' := [(vI r91.number), (.slice a5h n5i c5j), (.slice a5k n5l c5m)]) z_74 z z (((h13.ext h10).chg h11 (djs (mmr h13.lt))).ext s5g) z (lb z) (oA z) z) ?_
  rintro _ w11l ⟨h9d, s9e⟩
  have h2i := s9e.one
  refine Ra z (Ra z (Wn ?_))
  obtain rfl := som hm93
  have h39 := lt_ h10.size h11.size
  exact Wr (rtO (ret3 hr (resC g_74 z_74 z h9d z) z z ⟨(bM (bup (bM (bup h12 h10) h11 (mem1le h12.size)) s5g) h2i (mem1 lr)), a5h, n5i, c5j, S94, a5k, n5l, c5m, S95, v96, S97, z, h98, (h99.chg h2i (o0n1 (all_left h2h) h13.lt h39)), (h9a.chg h2i (o0n1 (all_right h2h) h13.lt h39)), h9b, (h9c.chg h2i (o0n1 h5n h13.lt h39)), (o0le h5n h2g), (nd_app (nd_left h38) (nd_right h38) (nd_dj h38)), (all_app (o0le (all_left h2h) h2g) (o0le (all_right h2h) h2g))⟩))
 have hm5o := ifF hm5f hc37
 refine Ws (R z (eql z z) (Ra z (Wn (Wc z (fun hc3a => ?_) (fun hc3a => ?_)))))
 ·refine Ws (Rm z (R z (lN (vs := [(Str.v x14.name), (vI x14.kind), (vI x14.size), (vB x14.little), (.slice a1a n1b c1c), (.slice a1d n1e c1f), (.slice a1g n1h c1i), (.slice a1j n1k c1l)]) g_70 z_70 z z fid (h18.row 0 8 z)) (Rm z ?_)))
  have h1r := mem1le (lt_ hBw h12.size)
  have h2j := lt_ (lt_ h12.size h10.size) h11.size
  obtain ⟨r9f, r11m, r11n, e9g, hm9h⟩ := bd3S (ifT hm5o hc3a)
  refine E z (fc call86 z (ih_impl_fileReader_checked.run (B := B) e9g (lt_ hBw h2j) ((h17.ext h10).chg h11 (lg h1r)) (((p1_1.ext h12).ext h10).chg h11 (lg h1r)) ((h15.ext h10).chg h11 ((lg h1r) _ hC1b)) hC1b h1v h1w h1s ((h1t.ext h10).chg h11 (lg h1r)) ((h1x.ext h10).chg h11 (lg h1r)) ((h1y.ext h10).chg h11 (lg h1r)) ((h1m.ext h10).chg h11 (lg h1r)) p3_0)) ?_
  rintro _ w11o ⟨s5p, a5q, n5r, c5s, S9i, a5t, n5u, c5v, S9j, v9k, S9l, rfl, h9m, h9n, h9o, h9p, h9q, h5w, h3b, h2k⟩
  iterate 3 refine R z (ext_ z z) ?_
  refine E0 (fs (cur' := [(vI r9f.number), (.slice a5q n5r c5s), (.slice a5t n5u c5v)]) z_74 z z (((h13.ext h10).chg h11 (djs (mmr h13.lt))).ext s5p) z (lb z) (oA z) z) ?_
  rintro _ w11p ⟨h9r, s9s⟩
  have h2l := s9s.one
  refine Ra z (Ra z (Wn ?_))
  obtain rfl := som hm9h
  have h3c := lt_ h10.size h11.size
  exact Wr (rtO (ret3 hr (resC g_74 z_74 z h9r z) z z ⟨(bM (bup (bM (bup h12 h10) h11 (mem1le h12.size)) s5p) h2l (mem1 lr)), a5q, n5r, c5s, S9i, a5t, n5u, c5v, S9j, v9k, S9l, z, h9m, (h9n.chg h2l (o0n1 (all_left h2k) h13.lt h3c)), (h9o.chg h2l (o0n1 (all_right h2k) h13.lt h3c)), h9p, (h9q.chg h2l (o0n1 h5w h13.lt h3c)), (o0le h5w h2j), (nd_app (nd_left h3b) (nd_right h3b) (nd_dj h3b)), (all_app (o0le (all_left h2k) h2j) (o0le (all_right h2k) h2j))⟩))
 refine Wk (Wq (WC_draw (X := noX) 0 (.rd 0 (.rd 1 (.rd 2 (.rd 3 (.rd 4 (.rd 5 (.rd 6 (.rd 7 (.rd 8 (.ef 9 (.rd 10 (.rd 11 (.rd 12 (.rd 13 (.rd 14 (.rd 15 (.rd 16 .done))))))))))))))))) mo (by kernel_rfl) fun w11q s16 _ => dR z z (mv z) (dR z z (rd_nil z) (dR z z (fd f_108_1 z) ?_))))
 have h3d := mem1le (lt_ hBw h12.size)
 refine dR z z (l1 g_26 z fid ((((h15.ext h10).chg h11 ((lg h3d) _ hC1b)).ext s16).at (j := 1) z)) (dR z z (mv z) (dR z z (fd f_70_4 z) (dR z z (l1 g_26 z fid ((h18.ext s16).at z)) ?_)))
 obtain ⟨x11r, e9t, hm9u⟩ := bdS (ifF hm5o hc3a)
 refine dRX z z (at_ (α := UInt8) d_26 z_5 z z z (((h1t.ext h10).chg h11 (lg h3d)).ext s16) e9t) ?_
 rintro _ ⟨b11s, o11t, cs11u, rfl, h9v, h9w, h11v⟩
 obtain rfl := UInt8_open h9w
 refine dR z z (l1 g_5 z fid (h9v.at0 z)) ?_
 have h3e := lt_ (lt_ (lt_ h12.size h10.size) h11.size) s16.size
 obtain ⟨r11w, r11x, r11y, e9x, hm5x⟩ := bd3S hm9u
 refine dE z z (fc call87 z (W_impl_ReadTerminated (B := B) e9x (lt_ hBw h3e) ((((p1_1.ext h12).ext h10).chg h11 (lg h3d)).ext s16) p3_0)) (.inr fun _ _ h => chgB (h.1)) ?_
 rintro _ w11z ⟨s1u, a3f, n3g, c3h, S9y, rfl, h9z, h100, h101, h5y⟩
 refine dR z z (mv z) ?_
 iterate 3 refine dR z z (ext_ z z) ?_
 iterate 3 refine dR z z (asg z) ?_
 refine PR_done (Wo (Wq (Ws (Rm z (R z (not_ z) (Wn (Wc z (fun hc3i => ?_) (fun hc3i => ?_))))))))
 ·refine Ws (R z (bP (parts := []) (cs := [(vI 0), (.slice none 0 0), (.slice none 0 0)]) build_74 z z) (Rm z (Rm z ?_)))
  have h5z := lt_ h3e s1u.size
  obtain ⟨r120, e102, hm103⟩ := bdS (ifT hm5x hc3i)
  refine E z (fc call88 z (W_impl_fail (B := B) e102 (lt_ hBw h5z) p3_0 (ii z))) ?_
  rintro _ w121 ⟨s60, v104, S105, rfl, h106, h61⟩
  refine E0 (fs (cur' := [(vI 0), (.slice none 0 0), (.slice none 0 0)]) z_74 z z (((((h13.ext h10).chg h11 (djs (mmr h13.lt))).ext s16).ext s1u).ext s60) z (lb z) (oA z) z) ?_
  rintro _ w122 ⟨h107, s108⟩
  have h62 := s108.one
  refine Ra z (Ra z (Wn ?_))
  obtain rfl := som hm103
  exact Wr (ret3 hr (resC g_74 z_74 z h107 z) z z ⟨(bM (bup (bup (bup (bM (bup h12 h10) h11 (mem1le h12.size)) s16) s1u) s60) h62 (mem1 lr)), none, 0, 0, [], none, 0, 0, [], v104, S105, z, (ii z), onL, onL, p3_0, (h106.chg h62 (o0n1 h61 h13.lt (lt_ (lt_ (lt_ h10.size h11.size) s16.size) s1u.size))), (o0le h61 h5z), nd0, al0⟩)
 refine Wk (Ws (Rm z (R z (bP (parts := [(1, (.tmp 159))]) (cs := [(vI 0), (.slice a3f n3g c3h), (.slice none 0 0)]) build_74 z z) (Rm z (E0 (fs (cur' := [(vI 0), (.slice a3f n3g c3h), (.slice none 0 0)]) z_74 z z ((((h13.ext h10).chg h11 (djs (mmr h13.lt))).ext s16).ext s1u) z (lb z) (oA z) z) ?_)))))
 rintro _ w123 ⟨h109, s10a⟩
 have h63 := s10a.one
 refine Ra z (Ra z (Wn ?_))
 obtain rfl := som (ifF hm5x hc3i)
 exact Wr (ret3 hr (resC g_74 z_74 z h109 z) z z ⟨(bM (bup (bup (bM (bup h12 h10) h11 (mem1le h12.size)) s16) s1u) h63 (mem1 lr)), a3f, n3g, c3h, S9y, none, 0, 0, [], .nilIface, ([] : List Nat), z, (ii z), (h9z.chg h63 (o0n1 h5y h13.lt (lt_ (lt_ h10.size h11.size) s16.size))), onL, h100, errR_nil, all_nil, (nd_app h101 nd_nil (nmN _)), (all_app (o0le h5y h3e) all_nil)⟩)
theorem T_impl_fileReader_array (ih_impl_fileReader_value : S_impl_fileReader_value n) (ih_impl_fileReader_array : S_impl_fileReader_array n) (ih_impl_fileReader_items : S_impl_fileReader_items n) (ih_impl_fileReader_choice : S_impl_fileReader_choice n) (ih_impl_fileReader_option : S_impl_fileReader_option n) (ih_impl_fileReader_checked : S_impl_fileReader_checked n) {x1 : FileReader} {b1 o1 : Nat} {x2 : Rule} {x3 : Int} {res : Val × Int × (Option (Int × Int))} (hm : B_impl_fileReader_array n (F_impl_fileReader_value n) x1 x2 x3 = some res) (hBw : B ≤ w0.heap.size) (p1_0 : repS w0 B (.slice pa1_0 pn1_0 pc1_0) x1.d.rules) (p1_1 : repS w0 B (.slice pa1_1 pn1_1 pc1_1) x1.b) (hC1 : CellsAt w0 b1 o1 [(.slice pa1_0 pn1_0 pc1_0), (.slice pa1_1 pn1_1 pc1_1)]) (hC1b : b1 < B) (p2_0 : x2.name.b.length ≤ LEN) (p2_1 : inI x2.kind) (p2_2 : inI x2.size) (p2_4 : repS w0 B (.slice pa2_4 pn2_4 pc2_4) x2.bytes) (p2_5 : repS w0 B (.slice pa2_5 pn2_5 pc2_5) x2.names) (p2_6 : repS w0 B (.slice pa2_6 pn2_6 pc2_6) x2.tags) (p2_7 : repS w0 B (.slice pa2_7 pn2_7 pc2_7) x2.kids) (p3_0 : inI x3) : CallsR prog 82 [(.pointer (some ⟨b1, o1, none⟩)), (.agg #[(Str.v x2.name), (vI x2.kind), (vI x2.size), (vB x2.little), (.slice pa2_4 pn2_4 pc2_4), (.slice pa2_5 pn2_5 pc2_5), (.slice pa2_6 pn2_6 pc2_6), (.slice pa2_7 pn2_7 pc2_7)]), (vI x3)] w0 (Q_impl_fileReader_array w0 B res) := by
 unfold B_impl_fileReader_array at hm
 obtain ⟨fn, hf, hb, hN, hr⟩ := fnE func82
 refine goW hf (hb.trans z) (hN.trans z) (lb z) (Ws (E z (fb z) ?_))
 rintro _ w18 ⟨rfl, h1x⟩
 have h14 := h1x.below
 have h1y : Blk w18 w0.heap.size [(Str.v x2.name), (vI x2.kind), (vI x2.size), (vB x2.little), (.slice pa2_4 pn2_4 pc2_4), (.slice pa2_5 pn2_5 pc2_5), (.slice pa2_6 pn2_6 pc2_6), (.slice pa2_7 pn2_7 pc2_7)] := h1x.blk
 refine E z (fa zero_74) ?_
 rintro _ w2t ⟨rfl, h1z⟩
 have h15 := h1z.below
 have h16 : Blk w2t w18.heap.size [(vI 0), (.slice none 0 0), (.slice none 0 0)] := h1z.blk
 refine Ra z (Ra z (Wn (Ws (Rm z (R z (fd f_70_7 z) ?_)))))
 have h20 := h1y.ext h15
 refine R z (l1 g_63 z fid (h20.at z)) ?_
 obtain ⟨x4m, e2u, hm2v⟩ := bdS hm
 have h21 := (p2_7.ext h14).ext h15
 refine RX z (at_ (α := Int) d_63 z_3 z z z h21 e2u) ?_
 rintro _ ⟨b4n, o4o, cs4p, rfl, h2w, h2x, h4q⟩
 obtain ⟨rfl, h2y⟩ := Int_open h2x
 refine R z (l1 g_3 z fid (h2w.at0 z)) (Rm z ?_)
 have h22 := (hC1.ext h14).ext h15
 have h23 := (p1_0.ext h14).ext h15
 have h24 := (p1_1.ext h14).ext h15
 have h1f := lt_ h14.size h15.size
 obtain ⟨r4r, r1g, r4s, e2z, hm25⟩ := bd3S hm2v
 refine E z (fc call79 z (W_impl_fileReader_integer (B := B) e2z (lt_ hBw h1f) h23 h24 h22 hC1b h2y p3_0)) ?_
 rintro _ w11 ⟨s10, v30, S31, rfl, h4t, h32, h26, h27⟩
 refine Rm z ?_
 iterate 3 refine R z (ext_ z z) ?_
 refine Ra z (Ra z (Ra z (Wn (Wq (Ws (Rm z (R z (rd_neqEr d_110 z z h26) (Wn (Wc z (fun hc1o => ?_) (fun hc1o => ?_))))))))))
 ·refine Ws (R z (bP (parts := []) (cs := [(vI 0), (.slice none 0 0), (.slice none 0 0)]) build_74 z z) (Rm z (Rm z (E0 (fs (cur' := [(vI 0), (.slice none 0 0), (.slice none 0 0)]) z_74 z z (h16.ext s10) z (lb z) (oA z) z) ?_))))
  rintro _ w4u ⟨h33, s34⟩
  have h28 := s34.one
  refine Ra z (Ra z (Wn ?_))
  obtain rfl := som (ifT hm25 hc1o)
  exact Wr (ret3 hr (resC g_74 z_74 z h33 z) z z ⟨(bM (bup (bup h14 h15) s10) h28 (mem1le h14.size)), none, 0, 0, [], none, 0, 0, [], v30, S31, z, (ii z), onL, onL, p3_0, (h26.chg h28 (o0n1 h27 h16.lt lr)), (o0le h27 h1f), nd0, al0⟩)
 have hm29 := ifF hm25 hc1o
 refine Wk (Wq (Ws (Rm z (R z (rd_gtr z z) (Wn (Wc z (fun hc1p => ?_) (fun hc1p => ?_)))))))
 ·refine Ws (R z (bP (parts := []) (cs := [(vI 0), (.slice none 0 0), (.slice none 0 0)]) build_74 z z) (Rm z (Rm z ?_)))
  have h2a := lt_ h1f s10.size
  obtain ⟨r4v, e35, hm36⟩ := bdS (ifT hm29 hc1p)
  refine E z (fc call88 z (W_impl_fail (B := B) e35 (lt_ hBw h2a) p3_0 (ii z))) ?_
  rintro _ w4w ⟨s2b, v37, S38, rfl, h39, h2c⟩
  refine E0 (fs (cur' := [(vI 0), (.slice none 0 0), (.slice none 0 0)]) z_74 z z ((h16.ext s10).ext s2b) z (lb z) (oA z) z) ?_
  rintro _ w4x ⟨h3a, s3b⟩
  have h2d := s3b.one
  refine Ra z (Ra z (Wn ?_))
  obtain rfl := som hm36
  exact Wr (ret3 hr (resC g_74 z_74 z h3a z) z z ⟨(bM (bup (bup (bup h14 h15) s10) s2b) h2d (mem1le h14.size)), none, 0, 0, [], none, 0, 0, [], v37, S38, z, (ii z), onL, onL, p3_0, (h39.chg h2d (o0n1 h2c h16.lt s10.size)), (o0le h2c h2a), nd0, al0⟩)
 refine Wk (Ws (Rm z ?_))
 obtain ⟨x1h, e3c, hm3d⟩ := bdS (ifF hm29 hc1p)
 refine E z (ef_makeN (α := Int) el_63 (fun _ => (Int_own (ii z))) e3c z z) ?_
 rintro _ w12 ⟨a1a, n1b, c1c, rfl, s17, h1q⟩
 refine Ra z (Wn (Wq (Ws (Rm z (R z (lnR d_63 z (ownS.rep h1q)) (Rm z (Wn ?_)))))))
 obtain ⟨u4y, hu3e, hm2e⟩ := bdS hm3d
 refine WC_forN (σ := (List Int)) (ρ := Val × Int × (Option (Int × Int))) (fun (k1r : Nat) (x1d : List Int) a w => ∃  (S13 : List Nat), Sat 59 [(0, (.pointer (some ⟨b1, o1, none⟩))), (4, (.pointer (some ⟨w0.heap.size, 0, none⟩))), (6, (.pointer (some ⟨w18.heap.size, 0, none⟩))), (10, (vI r1g)), (12, (.slice a1a n1b c1c)), (39, (vI (x1h.length : Int))), (40, (vI ((k1r : Nat) : Int)))] a ∧ Chg (· ∈ [w11.heap.size]) w12 w ∧ ownS w S13 (.slice a1a n1b c1c) x1d ∧ S13.Nodup ∧ (∀ k ∈ S13, k ∈ [w11.heap.size] ∨ w12.heap.size ≤ k)) (fun (x1d : List Int) a w => ∃  (S13 : List Nat), Sat 59 [(0, (.pointer (some ⟨b1, o1, none⟩))), (6, (.pointer (some ⟨w18.heap.size, 0, none⟩))), (10, (vI r1g)), (12, (.slice a1a n1b c1c))] a ∧ Chg (· ∈ [w11.heap.size]) w12 w ∧ ownS w S13 (.slice a1a n1b c1c) x1d ∧ S13.Nodup ∧ (∀ k ∈ S13, k ∈ [w11.heap.size] ∨ w12.heap.size ≤ k)) (fun r ex a w => ex = .ret ∧ RetPost prog fn (Q_impl_fileReader_array w0 B r) a w) hu3e ?_ ?_ ?_ ?_ ?_
 ·exact fun _ q => ⟨[w11.heap.size], (q.k (s7 z z z z z z z)), (cr [w11.heap.size] w12), h1q, nd_one, (io sr)⟩
 ·rintro k1r x1d a4z w3f o50 hk2f ⟨S13, hS3g, s1i, h1e, h1j, h1k⟩ hm3h
  refine Wu (e := [(0, (.pointer (some ⟨b1, o1, none⟩))), (4, (.pointer (some ⟨w0.heap.size, 0, none⟩))), (6, (.pointer (some ⟨w18.heap.size, 0, none⟩))), (10, (vI r1g)), (12, (.slice a1a n1b c1c)), (39, (vI (x1h.length : Int))), (40, (vI ((k1r : Nat) : Int)))]) (N := 59) ?_ hS3g
  refine Ws (R z (lss z z) (Wn (Wq (Wc z (fun _ => ?_) (fun hc => (nolt hk2f hc).elim)))))
  refine Wk (Wq (WC_block (Ws (Rm z (Ra z (Wn (Wg (Rm z (Rm z (R z (fd f_70_7 z) (R z (l1 g_63 z fid ((((h20.ext s10).ext s17).chg s1i (djs (mm1 h1y.lt (lt_ h15.size s10.size)))).at z)) ?_)))))))))))
  obtain ⟨x51, e3i, hm3j⟩ := bdS hm3h
  refine RX z (at_ (α := Int) d_63 z_3 z z z (((h21.ext s10).ext s17).chg s1i (lg (mem1le (lt_ hBw (lt_ h1f s10.size))))) e3i) ?_
  rintro _ ⟨b52, o53, cs54, rfl, h3k, h3l, h55⟩
  obtain ⟨rfl, h3m⟩ := Int_open h3l
  refine R z (l1 g_3 z fid (h3k.at0 z)) ?_
  obtain ⟨x3n, e2g, hm3o⟩ := bdS hm3j
  refine RX z (rd_atU (α := Int) d_63 z_3 z z h1e e2g) ?_
  rintro _ ⟨g56, h3p, rfl⟩
  refine E0 (ef_setN (α := Int) z_3 z h3p z z z e2g h1e h1j (Int_own h3m) all_nil nd_nil) ?_
  rintro _ w3q ⟨S2h, s3r, h3s, h3t, h3u⟩
  refine Wn (Wg (R z (inc_ hk2f (lt_ (ownS.len h1q) LEN_le) z z) (Rm z (Wl ?_))))
  have h2i : ∀ k ∈ S13, k ∈ [w11.heap.size] ∨ w12.heap.size ≤ k := or1 h1k (io sr) (leor lr)
  have h3v : ∀ k ∈ S2h, k ∈ [w11.heap.size] ∨ w12.heap.size ≤ k := or2 h3u h2i all_nil (leor s1i.size)
  have h3w : Chg (· ∈ [w11.heap.size]) w12 w3f := cM (cr [w11.heap.size] w12) s1i (io sr)
  have h3x : Chg (· ∈ [w11.heap.size]) w12 w3q := cM h3w s3r h2i
  exact fun _ q => ⟨x3n, (som hm3o).symm, ⟨S2h, (q.k (s7 z z z z z z z)), h3x, h3s, h3t, h3v⟩⟩
 ·rintro x1d a57 w3y ⟨S13, hS3z, s40, h1e, h1j, h1k⟩
  refine Wu (e := [(0, (.pointer (some ⟨b1, o1, none⟩))), (4, (.pointer (some ⟨w0.heap.size, 0, none⟩))), (6, (.pointer (some ⟨w18.heap.size, 0, none⟩))), (10, (vI r1g)), (12, (.slice a1a n1b c1c)), (39, (vI (x1h.length : Int))), (40, (vI ((x1h.length : Nat) : Int)))]) (N := 59) ?_ hS3z
  refine Ws (R z (lss z z) (Wn (Wq (Wc z (fun hc => (noltt hc).elim) (fun _ => ?_)))))
  have h41 : ∀ k ∈ S13, k ∈ [w11.heap.size] ∨ w12.heap.size ≤ k := or1 h1k (io sr) (leor lr)
  have h42 : Chg (· ∈ [w11.heap.size]) w12 w3y := cM (cr [w11.heap.size] w12) s40 (io sr)
  exact WC_exit (fun a' ha' => ⟨rfl, ⟨S13, (Sat.weaken ha' (s4 z z z z)), h42, h1e, h1j, h41⟩⟩)
 ·rintro x1d a43 w44 rfl ⟨S13, hS58, s19, h1e, h1j, h1k⟩
  have hm45 := elL hm2e
  revert a43
  refine Wo (Ws (Rm z (R z (bP (parts := []) (cs := [(vI 0), (.slice none 0 0), (.slice none 0 0)]) build_74 z z) (Rm z (Rm z ?_)))))
  have h1s := lt_ h1f s10.size
  have h1t := mem1le (lt_ hBw h1s)
  have h1l := lt_ (lt_ h1s s17.size) s19.size
  have h1u := lt_ hBw h1l
  obtain ⟨r46, r59, r5a, e47, hm48⟩ := bd3S hm45
  refine E z (fc call83 z (ih_impl_fileReader_items.run (B := w44.heap.size) e47 lr (repS.mono (((h23.ext s10).ext s17).chg s19 (lg h1t)) h1u) (repS.mono (((h24.ext s10).ext s17).chg s19 (lg h1t)) h1u) (((h22.ext s10).ext s17).chg s19 ((lg h1t) _ hC1b)) (Nat.lt_of_lt_of_le hC1b h1u) (ii z) onL nd_nil all_nil onL nd_nil all_nil all_nil (ownS.rep h1e) h32)) ?_
  rintro _ w5b ⟨s2j, a2k, n2l, c2m, S2n, a2o, n2p, c2q, S2r, v49, S4a, rfl, h4b, h4c, h4d, h4e, h4f, h2s, h1v, h1m⟩
  iterate 3 refine R z (ext_ z z) ?_
  refine E0 (fs (cur' := [(vI r46.number), (.slice a2k n2l c2m), (.slice a2o n2p c2q)]) z_74 z z ((((h16.ext s10).ext s17).chg s19 (djs (mm1 h16.lt s10.size))).chg s2j (atp (nmA (nmN _) (nmN _)))) z (lb z) (oA z) z) ?_
  rintro _ w5c ⟨h4g, s4h⟩
  have h1n := s4h.one
  refine Ra z (Ra z (Wn ?_))
  obtain rfl := som hm48
  have h1w := lt_ (lt_ s10.size s17.size) s19.size
  have h4i : ∀ k ∈ S2n, k ∉ [w18.heap.size] := or1 (all_left h1m) al0 (ltnot (mem1 h16.lt) h1w)
  have h4j : ∀ k ∈ S2r, k ∉ [w18.heap.size] := or1 (all_right h1m) al0 (ltnot (mem1 h16.lt) h1w)
  exact Wr (ret3 hr (resC g_74 z_74 z h4g z) z z ⟨(bM (bM (bM (bup (bup (bup h14 h15) s10) s17) s19 (mem1le h1s)) s2j al0) h1n (mem1le h14.size)), a2k, n2l, c2m, S2n, a2o, n2p, c2q, S2r, v49, S4a, z, h4b, (h4c.chg h1n h4i), (h4d.chg h1n h4j), h4e, (h4f.chg h1n (o0n1 h2s h16.lt h1w)), (o0le h2s h1l), (nd_app (nd_left h1v) (nd_right h1v) (nd_dj h1v)), (all_app (o1le (all_left h1m) al0 h1l) (o1le (all_right h1m) al0 h1l))⟩)
 rintro r5d ex5e a5f w5g rfl ⟨rfl, hq4k⟩
 have hm4l := elR hm2e
 obtain rfl := som hm4l
 exact ⟨hq4k, z⟩
theorem T_impl_fileReader_items (ih_impl_fileReader_value : S_impl_fileReader_value n) (ih_impl_fileReader_array : S_impl_fileReader_array n) (ih_impl_fileReader_items : S_impl_fileReader_items n) (ih_impl_fileReader_choice : S_impl_fileReader_choice n) (ih_impl_fileReader_option : S_impl_fileReader_option n) (ih_impl_fileReader_checked : S_impl_fileReader_checked n) {x1 : FileReader} {b1 o1 : Nat} {x2 : Val} {S2_1 : List Nat} {S2_2 : List Nat} {x3 : List Int} {x4 : Int} {res : Val × Int × (Option (Int × Int))} (hm : B_impl_fileReader_items n (F_impl_fileReader_value n) x1 x2 x3 x4 = some res) (hBw : B ≤ w0.heap.size) (p1_0 : repS w0 B (.slice pa1_0 pn1_0 pc1_0) x1.d.rules) (p1_1 : repS w0 B (.slice pa1_1 pn1_1 pc1_1) x1.b) (hC1 : CellsAt w0 b1 o1 [(.slice pa1_0 pn1_0 pc1_0), (.slice pa1_1 pn1_1 pc1_1)]) (hC1b : b1 < B) (p2_0 : inI x2.number) (p2_1 : ownS w0 S2_1 (.slice pa2_1 pn2_1 pc2_1) x2.bytes) (p2_1n : S2_1.Nodup) (p2_1g : ∀ k ∈ S2_1, B ≤ k) (p2_2 : ownS w0 S2_2 (.slice pa2_2 pn2_2 pc2_2) x2.items) (p2_2n : S2_2.Nodup) (p2_2g : ∀ k ∈ S2_2, B ≤ k) (p2_2d1 : ∀ k ∈ S2_2, k ∉ S2_1) (p3_0 : repS w0 B (.slice pa3_0 pn3_0 pc3_0) x3) (p4_0 : inI x4) : CallsR prog 83 [(.pointer (some ⟨b1, o1, none⟩)), (.agg #[(vI x2.number), (.slice pa2_1 pn2_1 pc2_1), (.slice pa2_2 pn2_2 pc2_2)]), (.slice pa3_0 pn3_0 pc3_0), (vI x4)] w0 (Q_impl_fileReader_items w0 B S2_1 S2_2 res) := by
 unfold B_impl_fileReader_items at hm
 obtain ⟨fn, hf, hb, hN, hr⟩ := fnE func83
 refine goW hf (hb.trans z) (hN.trans z) (lb z) (Ws (E z (fb z) ?_))
 rintro _ w1a ⟨rfl, h28⟩
 have h12 := h28.below
 have h1e : Blk w1a w0.heap.size [(vI x2.number), (.slice pa2_1 pn2_1 pc2_1), (.slice pa2_2 pn2_2 pc2_2)] := h28.blk
 refine E z (fa zero_74) ?_
 rintro _ w10 ⟨rfl, h29⟩
 have h14 := h29.below
 have h1k : Blk w10 w1a.heap.size [(vI 0), (.slice none 0 0), (.slice none 0 0)] := h29.blk
 refine Ra z (Ra z (Wn (Wq (Ws (Rm z ?_)))))
 have h2a := (p3_0.ext h12).ext h14
 refine R z (lnR d_63 z h2a) (Rm z (Wn ?_))
 obtain ⟨u56, hu30, hm2b⟩ := bdS hm
 refine WC_forN (σ := Int × (List Val)) (ρ := Val × Int × (Option (Int × Int))) (fun (k1s : Nat) s a w => un2 (fun x1b x1h => ∃ (a15 : Option Addr) (n16 c17 : Nat) (S11 : List Nat), Sat 45 [(0, (.pointer (some ⟨b1, o1, none⟩))), (3, (vI x1b)), (5, (.pointer (some ⟨w0.heap.size, 0, none⟩))), (8, (.pointer (some ⟨w1a.heap.size, 0, none⟩))), (16, (.slice pa3_0 pn3_0 pc3_0)), (17, (vI (x3.length : Int))), (18, (vI ((k1s : Nat) : Int)))] a ∧ Chg (· ∈ (S2_2 ++ [w0.heap.size])) w10 w ∧ inI x1b ∧ ownS w S11 (.slice a15 n16 c17) x1h ∧ S11.Nodup ∧ (∀ k ∈ S11, k ∈ S2_2 ∨ w10.heap.size ≤ k) ∧ Blk w w0.heap.size [(vI x2.number), (.slice pa2_1 pn2_1 pc2_1), (.slice a15 n16 c17)]) s) (fun s a w => un2 (fun x1b x1h => ∃ (a15 : Option Addr) (n16 c17 : Nat) (S11 : List Nat), Sat 45 [(3, (vI x1b)), (5, (.pointer (some ⟨w0.heap.size, 0, none⟩))), (8, (.pointer (some ⟨w1a.heap.size, 0, none⟩)))] a ∧ Chg (· ∈ (S2_2 ++ [w0.heap.size])) w10 w ∧ inI x1b ∧ ownS w S11 (.slice a15 n16 c17) x1h ∧ S11.Nodup ∧ (∀ k ∈ S11, k ∈ S2_2 ∨ w10.heap.size ≤ k) ∧ Blk w w0.heap.size [(vI x2.number), (.slice pa2_1 pn2_1 pc2_1), (.slice a15 n16 c17)]) s) (fun r ex a w => ex = .ret ∧ RetPost prog fn (Q_impl_fileReader_items w0 B S2_1 S2_2 r) a w) hu30 ?_ ?_ ?_ ?_ ?_
 ·exact fun _ q => ⟨pa2_2, pn2_2, pc2_2, S2_2, (q.k (s7 z z z z z z z)), (cr (S2_2 ++ [w0.heap.size]) w10), p4_0, ((p2_2.ext h12).ext h14), p2_2n, (io sr), (h1e.ext h14)⟩
 ·rintro k1s ⟨x1b, x1h⟩ a57 w2c o58 hk2d ⟨a15, n16, c17, S11, hS31, s13, h1i, h1f, h1l, h1d, h1m⟩ hm32
  have hm33 := un2S hm32
  refine Wu (e := [(0, (.pointer (some ⟨b1, o1, none⟩))), (3, (vI x1b)), (5, (.pointer (some ⟨w0.heap.size, 0, none⟩))), (8, (.pointer (some ⟨w1a.heap.size, 0, none⟩))), (16, (.slice pa3_0 pn3_0 pc3_0)), (17, (vI (x3.length : Int))), (18, (vI ((k1s : Nat) : Int)))]) (N := 45) ?_ hS31
  refine Ws (R z (lss z z) (Wn (Wq (Wc z (fun _ => ?_) (fun hc => (nolt hk2d hc).elim)))))
  refine Wk (Wq (WC_block (Ws ?_)))
  obtain ⟨x59, e34, hm35⟩ := bdS hm33
  have h1o := mem1le hBw
  refine RX z (at_ (α := Int) d_63 z_3 z z z (h2a.chg s13 (nmA (lg p2_2g) (lg h1o))) e34) ?_
  rintro _ ⟨b5a, o5b, cs5c, rfl, h36, h37, h5d⟩
  obtain ⟨rfl, h38⟩ := Int_open h37
  refine R z (l1 g_3 z fid (h36.at0 z)) (Ra z (Wn (Ws (Rm z (Rm z (Rm z ?_))))))
  have h1t := lt_ (lt_ h12.size h14.size) s13.size
  obtain ⟨r1p, r39, r5e, e3a, hm2e⟩ := bd3S hm35
  refine E z (fc call70 z (ih_impl_fileReader_value.run (B := B) e3a (lt_ hBw h1t) (((p1_0.ext h12).ext h14).chg s13 (nmA (lg p2_2g) (lg h1o))) (((p1_1.ext h12).ext h14).chg s13 (nmA (lg p2_2g) (lg h1o))) (((hC1.ext h12).ext h14).chg s13 ((nmA (lg p2_2g) (lg h1o)) _ hC1b)) hC1b h38 h1i)) ?_
  rintro _ w1n ⟨s1c, a1u, n1v, c1w, S2f, a1x, n1y, c1z, S2g, v3b, S3c, rfl, h3d, h1q, h1r, h3e, h2h, h2i, h20, h1j⟩
  refine Rm z ?_
  iterate 3 refine R z (ext_ z z) ?_
  refine E z (fa zero_74) ?_
  rintro _ w21 ⟨rfl, h2j⟩
  have h18 := h2j.below
  have h3f : Blk w21 w1n.heap.size [(vI 0), (.slice none 0 0), (.slice none 0 0)] := h2j.blk
  refine E0 (fs (cur' := [(vI r1p.number), (.slice a1u n1v c1w), (.slice a1x n1y c1z)]) z_74 z z h3f z (lb z) (oA z) z) ?_
  rintro _ w22 ⟨h3g, s3h⟩
  have h19 := s3h.one
  refine Ra z (Ra z (Wn (Wq (Ws (Rm z ?_)))))
  have h2k := (h2h.ext h18).chg h19 (dj_symm (mnr (errR.lt h2h)))
  refine R z (rd_neqEr d_110 z z h2k) (Wn (Wc z (fun hc23 => ?_) (fun hc23 => ?_)))
  ·refine Ws (R z (bP (parts := []) (cs := [(vI 0), (.slice none 0 0), (.slice none 0 0)]) build_74 z z) (Rm z (Rm z ?_)))
   have h3i := (((h1k.chg s13 (atp (nmA (mno (ownS.lt p2_2) h12.size) (mmr h1e.lt)))).ext s1c).ext h18).chg h19 (djs (mm1 h1k.lt (lt_ s13.size s1c.size)))
   refine E0 (fs (cur' := [(vI 0), (.slice none 0 0), (.slice none 0 0)]) z_74 z z h3i z (lb z) (oA z) z) ?_
   rintro _ w3j ⟨h3k, s3l⟩
   have h2l := s3l.one
   refine Ra z (Ra z (Wn ?_))
   have h3m : Chg (· ∈ (S2_1 ++ S2_2)) w0 w1a := cext (cr (S2_1 ++ S2_2) w0) h12
   have h3n : Chg (· ∈ (S2_1 ++ S2_2)) w0 w10 := cext h3m h14
   have h3o : ∀ k ∈ [w0.heap.size], k ∈ (S2_1 ++ S2_2) ∨ w0.heap.size ≤ k := mor lr
   have h3p : Chg (· ∈ (S2_1 ++ S2_2)) w0 w2c := cM h3n s13 (all_app (io (sub_r sr)) h3o)
   have h3q : Chg (· ∈ (S2_1 ++ S2_2)) w0 w1n := cext h3p s1c
   have h3r : Chg (· ∈ (S2_1 ++ S2_2)) w0 w21 := cext h3q h18
   have h3s : ∀ k ∈ [w1n.heap.size], k ∈ (S2_1 ++ S2_2) ∨ w0.heap.size ≤ k := mor (lt_ h1t s1c.size)
   have h3t : Chg (· ∈ (S2_1 ++ S2_2)) w0 w22 := cM h3r h19 h3s
   have h3u : ∀ k ∈ [w1a.heap.size], k ∈ (S2_1 ++ S2_2) ∨ w0.heap.size ≤ k := mor h12.size
   have h3v : Chg (· ∈ (S2_1 ++ S2_2)) w0 w3j := cM h3t h2l h3u
   exact Wr (rtO (QO_retL (som (ifT hm2e hc23)).symm (ret3 hr (resC g_74 z_74 z h3k z) z z ⟨h3v, none, 0, 0, [], none, 0, 0, [], v3b, S3c, z, (ii z), onL, onL, h1i, (h2k.chg h2l (o0n1 h2i h1k.lt s13.size)), (o0le h2i h1t), nd0, al0⟩)))
  refine Wk (Ws (R z (fd f_74_2 z) ?_))
  have h24 := lt_ h14.size s13.size
  have h2m := lt_ h24 s1c.size
  have h2n := ((h1m.ext s1c).ext h18).chg h19 (djs (mm1 h1e.lt h2m))
  refine R z (l1 g_72 z fid (h2n.at z)) (R z (lN (vs := [(vI r1p.number), (.slice a1u n1v c1w), (.slice a1x n1y c1z)]) g_74 z_74 z z fid (h3g.row 0 3 z)) (E z (ef_buildSlice [(.tmp 37)] el_72 z z z (szAll z) (lb z) (lb z)) ?_))
  rintro _ w2o ⟨rfl, h2p⟩
  have h1g := h2p.below
  have h3w : Blk w2o w22.heap.size [(vI r1p.number), (.slice a1u n1v c1w), (.slice a1x n1y c1z)] := h2p.blk
  have h5f := (h1q.ext h18).chg h19 (dj_symm (mnr (ownS.lt h1q)))
  have h5g := (h1r.ext h18).chg h19 (dj_symm (mnr (ownS.lt h1r)))
  obtain ⟨x3x, e3y, hm3z⟩ := bdS (ifF hm2e hc23)
  refine E z (ef_pushN (α := Val) el_72 e3y z z ((((h1f.ext s1c).ext h18).chg h19 (dj_symm (mno (ownS.lt h1f) s1c.size))).ext h1g) h1l h3w (Val_mkO (x := r1p) (S1 := S2f) (S2 := S2g) h3d (((h1q.ext h18).chg h19 (dj_symm (mnr (ownS.lt h1q)))).ext h1g) (((h1r.ext h18).chg h19 (dj_symm (mnr (ownS.lt h1r)))).ext h1g)) (all_app (o0no (all_left h1j) (ownS.lt h1f) lr) (o0no (all_right h1j) (ownS.lt h1f) lr)) (nd_app (nd_left h20) (nd_right h20) (nd_dj h20))) ?_
  rintro _ w40 ⟨S25, a2q, n2r, c2s, rfl, s2t, h41, h42, h2u⟩
  refine R z (fd f_74_2 z) ?_
  have h2v : ∀ k ∈ S11, k ∉ [w0.heap.size] := or1 h1d (dj_symm (mnr (ownS.lt p2_2))) (ltnot (mem1 h1e.lt) h14.size)
  refine E0 (fs (cur' := [(vI x2.number), (.slice pa2_1 pn2_1 pc2_1), (.slice a2q n2r c2s)]) z_72 z z ((h2n.ext h1g).chg s2t (djs h2v)) z (lb z) (oA z) z) ?_
  rintro _ w43 ⟨h44, s45⟩
  have h2w := s45.one
  refine Wn (Wg (Rm z (Ra z (Wn (Wg (R z (inc_ hk2d (lt_ (repS.len p3_0) LEN_le) z z) (Rm z (Wl ?_))))))))
  have h46 : ∀ k ∈ S25, k ∉ [w0.heap.size] := or2 h2u h2v (all_app (o0n1 (all_left h1j) h1e.lt h24) (o0n1 (all_right h1j) h1e.lt h24)) (ltnot (mem1 h1e.lt) (lt_ (lt_ (lt_ h2m h18.size) h19.size) h1g.size))
  have h2x := lt_ s13.size s1c.size
  have h47 : ∀ k ∈ S11, k ∈ S2_2 ∨ w10.heap.size ≤ k := or1 h1d (io sr) (leor lr)
  have h48 : ∀ k ∈ S2f, k ∈ S2_2 ∨ w10.heap.size ≤ k := or0 (all_left h1j)  (leor s13.size)
  have h49 : ∀ k ∈ S2g, k ∈ S2_2 ∨ w10.heap.size ≤ k := or0 (all_right h1j)  (leor s13.size)
  have h4a : ∀ k ∈ S25, k ∈ S2_2 ∨ w10.heap.size ≤ k := or2 h2u h47 (all_app h48 h49) (leor (lt_ (lt_ (lt_ h2x h18.size) h19.size) h1g.size))
  have h4b : Chg (· ∈ (S2_2 ++ [w0.heap.size])) w10 w2c := cM (cr (S2_2 ++ [w0.heap.size]) w10) s13 (all_app (io (sub_l sr)) (io (sub_r sr)))
  have h4c : Chg (· ∈ (S2_2 ++ [w0.heap.size])) w10 w1n := cext h4b s1c
  have h4d : Chg (· ∈ (S2_2 ++ [w0.heap.size])) w10 w21 := cext h4c h18
  have h4e : ∀ k ∈ [w1n.heap.size], k ∈ (S2_2 ++ [w0.heap.size]) ∨ w10.heap.size ≤ k := mor h2x
  have h4f : Chg (· ∈ (S2_2 ++ [w0.heap.size])) w10 w22 := cM h4d h19 h4e
  have h4g : Chg (· ∈ (S2_2 ++ [w0.heap.size])) w10 w2o := cext h4f h1g
  have h4h : ∀ k ∈ S11, k ∈ (S2_2 ++ [w0.heap.size]) ∨ w10.heap.size ≤ k := or1 h1d (io (sub_l sr)) (leor lr)
  have h4i : Chg (· ∈ (S2_2 ++ [w0.heap.size])) w10 w40 := cM h4g s2t h4h
  have h4j : Chg (· ∈ (S2_2 ++ [w0.heap.size])) w10 w43 := cM h4i h2w (io (sub_r sr))
  exact fun _ q => ⟨(r39, x3x), (som hm3z).symm, ⟨a2q, n2r, c2s, S25, (q.k (s7 z z z z z z z)), h4j, h3e, (h41.chg h2w h46), h42, h4a, h44⟩⟩
 ·rintro ⟨x1b, x1h⟩ a5h w4k ⟨a15, n16, c17, S11, hS4l, s4m, h1i, h1f, h1l, h1d, h1m⟩
  refine Wu (e := [(0, (.pointer (some ⟨b1, o1, none⟩))), (3, (vI x1b)), (5, (.pointer (some ⟨w0.heap.size, 0, none⟩))), (8, (.pointer (some ⟨w1a.heap.size, 0, none⟩))), (16, (.slice pa3_0 pn3_0 pc3_0)), (17, (vI (x3.length : Int))), (18, (vI ((x3.length : Nat) : Int)))]) (N := 45) ?_ hS4l
  refine Ws (R z (lss z z) (Wn (Wq (Wc z (fun hc => (noltt hc).elim) (fun _ => ?_)))))
  have h4n : ∀ k ∈ S11, k ∈ S2_2 ∨ w10.heap.size ≤ k := or1 h1d (io sr) (leor lr)
  have h4o : Chg (· ∈ (S2_2 ++ [w0.heap.size])) w10 w4k := cM (cr (S2_2 ++ [w0.heap.size]) w10) s4m (all_app (io (sub_l sr)) (io (sub_r sr)))
  exact WC_exit (fun a' ha' => ⟨rfl, ⟨a15, n16, c17, S11, (Sat.weaken ha' (s3 z z z)), h4o, h1i, h1f, h1l, h4n, h1m⟩⟩)
 ·rintro ⟨x1b, x1h⟩ a4p w4q rfl ⟨a15, n16, c17, S11, hS5i, s26, h1i, h1f, h1l, h1d, h1m⟩
  have hm4r := elL hm2b
  have hm4s := un2S hm4r
  revert a4p
  refine Wo (Ws (R z (lN (vs := [(vI x2.number), (.slice pa2_1 pn2_1 pc2_1), (.slice a15 n16 c17)]) g_74 z_74 z z fid (h1m.row 0 3 z)) (Rm z ?_)))
  have h2y := mno (ownS.lt p2_2) h12.size
  refine E0 (fs (cur' := [(vI x2.number), (.slice pa2_1 pn2_1 pc2_1), (.slice a15 n16 c17)]) z_74 z z (h1k.chg s26 (atp (nmA h2y (mmr h1e.lt)))) z (lb z) (oA z) z) ?_
  rintro _ w4t ⟨h4u, s4v⟩
  have h27 := s4v.one
  refine Ra z (Ra z (Wn ?_))
  obtain rfl := som hm4s
  have h4w : ∀ k ∈ S11, k ∉ [w1a.heap.size] := or1 h1d (dj_symm h2y) (ltnot (mem1 h1k.lt) lr)
  have h4x : Chg (· ∈ (S2_1 ++ S2_2)) w0 w1a := cext (cr (S2_1 ++ S2_2) w0) h12
  have h4y : Chg (· ∈ (S2_1 ++ S2_2)) w0 w10 := cext h4x h14
  have h4z : ∀ k ∈ [w0.heap.size], k ∈ (S2_1 ++ S2_2) ∨ w0.heap.size ≤ k := mor lr
  have h50 : Chg (· ∈ (S2_1 ++ S2_2)) w0 w4q := cM h4y s26 (all_app (io (sub_r sr)) h4z)
  have h51 : ∀ k ∈ [w1a.heap.size], k ∈ (S2_1 ++ S2_2) ∨ w0.heap.size ≤ k := mor h12.size
  have h52 : Chg (· ∈ (S2_1 ++ S2_2)) w0 w4t := cM h50 h27 h51
  have h2z := lt_ h12.size h14.size
  have h53 : ∀ k ∈ S11, k ∈ (S2_1 ++ S2_2) ∨ w0.heap.size ≤ k := or1 h1d (io (sub_r sr)) (leor h2z)
  exact Wr (ret3 hr (resC g_74 z_74 z h4u z) z z ⟨h52, pa2_1, pn2_1, pc2_1, S2_1, a15, n16, c17, S11, .nilIface, ([] : List Nat), z, p2_0, ((((p2_1.ext h12).ext h14).chg s26 (nmA (dj_symm p2_2d1) (dj_symm (mnr (ownS.lt p2_1))))).chg h27 (dj_symm (mno (ownS.lt p2_1) h12.size))), (h1f.chg h27 h4w), h1i, errR_nil, all_nil, (nd_app p2_1n h1l (dj_symm (o1no h1d p2_2d1 (ownS.lt p2_1) h2z))), (all_app (io (sub_l sr)) h53)⟩)
 rintro r5j ex5k a5l w5m rfl ⟨rfl, hq54⟩
 have hm55 := elR hm2b
 obtain rfl := som hm55
 exact ⟨hq54, z⟩
theorem T_impl_fileReader_choice (ih_impl_fileReader_value : S_impl_fileReader_value n) (ih_impl_fileReader_array : S_impl_fileReader_array n) (ih_impl_fileReader_items : S_impl_fileReader_items n) (ih_impl_fileReader_choice : S_impl_fileReader_choice n) (ih_impl_fileReader_option : S_impl_fileReader_option n) (ih_impl_fileReader_checked : S_impl_fileReader_checked n) {x1 : FileReader} {b1 o1 : Nat} {x2 : Rule} {x3 : Int} {res : Val × Int × (Option (Int × Int))} (hm : B_impl_fileReader_choice n (F_impl_fileReader_value n) x1 x2 x3 = some res) (hBw : B ≤ w0.heap.size) (p1_0 : repS w0 B (.slice pa1_0 pn1_0 pc1_0) x1.d.rules) (p1_1 : repS w0 B (.slice pa1_1 pn1_1 pc1_1) x1.b) (hC1 : CellsAt w0 b1 o1 [(.slice pa1_0 pn1_0 pc1_0), (.slice pa1_1 pn1_1 pc1_1)]) (hC1b : b1 < B) (p2_0 : x2.name.b.length ≤ LEN) (p2_1 : inI x2.kind) (p2_2 : inI x2.size) (p2_4 : repS w0 B (.slice pa2_4 pn2_4 pc2_4) x2.bytes) (p2_5 : repS w0 B (.slice pa2_5 pn2_5 pc2_5) x2.names) (p2_6 : repS w0 B (.slice pa2_6 pn2_6 pc2_6) x2.tags) (p2_7 : repS w0 B (.slice pa2_7 pn2_7 pc2_7) x2.kids) (p3_0 : inI x3) : CallsR prog 84 [(.pointer (some ⟨b1, o1, none⟩)), (.agg #[(Str.v x2.name), (vI x2.kind), (vI x2.size), (vB x2.little), (.slice pa2_4 pn2_4 pc2_4), (.slice pa2_5 pn2_5 pc2_5), (.slice pa2_6 pn2_6 pc2_6), (.slice pa2_7 pn2_7 pc2_7)]), (vI x3)] w0 (Q_impl_fileReader_choice w0 B res) := by
 unfold B_impl_fileReader_choice at hm
 obtain ⟨fn, hf, hb, hN, hr⟩ := fnE func84
 refine goW hf (hb.trans z) (hN.trans z) (lb z) (Ws (E z (fb z) ?_))
 rintro _ w14 ⟨rfl, h1k⟩
 have h11 := h1k.below
 have h2d : Blk w14 w0.heap.size [(Str.v x2.name), (vI x2.kind), (vI x2.size), (vB x2.little), (.slice pa2_4 pn2_4 pc2_4), (.slice pa2_5 pn2_5 pc2_5), (.slice pa2_6 pn2_6 pc2_6), (.slice pa2_7 pn2_7 pc2_7)] := h1k.blk
 refine E z (fa zero_74) ?_
 rintro _ w2e ⟨rfl, h1l⟩
 have h13 := h1l.below
 have h15 : Blk w2e w14.heap.size [(vI 0), (.slice none 0 0), (.slice none 0 0)] := h1l.blk
 refine Ra z (Ra z (Wn (Ws (Rm z (R z (fd f_70_7 z) ?_)))))
 have h1m := h2d.ext h13
 refine R z (l1 g_63 z fid (h1m.at z)) ?_
 obtain ⟨x3r, e2f, hm2g⟩ := bdS hm
 have h1n := (p2_7.ext h11).ext h13
 refine RX z (at_ (α := Int) d_63 z_3 z z z h1n e2f) ?_
 rintro _ ⟨b3s, o3t, cs3u, rfl, h2h, h2i, h3v⟩
 obtain ⟨rfl, h2j⟩ := Int_open h2i
 refine R z (l1 g_3 z fid (h2h.at0 z)) (Rm z ?_)
 have h1o := (hC1.ext h11).ext h13
 have h1p := (p1_0.ext h11).ext h13
 have h1q := (p1_1.ext h11).ext h13
 have h17 := lt_ h11.size h13.size
 obtain ⟨r18, r1d, r3w, e2k, hm1r⟩ := bd3S hm2g
 refine E z (fc call79 z (W_impl_fileReader_integer (B := B) e2k (lt_ hBw h17) h1p h1q h1o hC1b h2j p3_0)) ?_
 rintro _ w16 ⟨s10, v2l, S2m, rfl, h2n, h2o, h1s, h1t⟩
 refine Rm z ?_
 iterate 3 refine R z (ext_ z z) ?_
 refine Ra z (Ra z (Ra z (Wn (Wq (Ws (Rm z (R z (rd_neqEr d_110 z z h1s) (Wn (Wc z (fun hc1e => ?_) (fun hc1e => ?_))))))))))
 ·refine Ws (R z (bP (parts := []) (cs := [(vI 0), (.slice none 0 0), (.slice none 0 0)]) build_74 z z) (Rm z (Rm z (E0 (fs (cur' := [(vI 0), (.slice none 0 0), (.slice none 0 0)]) z_74 z z (h15.ext s10) z (lb z) (oA z) z) ?_))))
  rintro _ w3x ⟨h2p, s2q⟩
  have h1u := s2q.one
  refine Ra z (Ra z (Wn ?_))
  obtain rfl := som (ifT hm1r hc1e)
  exact Wr (ret3 hr (resC g_74 z_74 z h2p z) z z ⟨(bM (bup (bup h11 h13) s10) h1u (mem1le h11.size)), none, 0, 0, [], none, 0, 0, [], v2l, S2m, z, (ii z), onL, onL, p3_0, (h1s.chg h1u (o0n1 h1t h15.lt lr)), (o0le h1t h17), nd0, al0⟩)
 refine Wk (Wq (Ws (R z (fd f_70_6 z) ?_)))
 have h1v := h1m.ext s10
 refine R z (l1 g_63 z fid (h1v.at z)) ?_
 have h1w := ((p2_6.ext h11).ext h13).ext s10
 refine R z (lnR d_63 z h1w) (Rm z (Wn ?_))
 obtain ⟨u3y, hu2r, hm1x⟩ := bdS (ifF hm1r hc1e)
 refine WC_forN (σ := Unit) (ρ := Val × Int × (Option (Int × Int))) (fun (k1f : Nat) (_ : Unit) a w => Sat 61 [(0, (.pointer (some ⟨b1, o1, none⟩))), (2, (vI x3)), (4, (.pointer (some ⟨w0.heap.size, 0, none⟩))), (6, (.pointer (some ⟨w14.heap.size, 0, none⟩))), (9, (vI r18)), (10, (vI r1d)), (31, (.slice pa2_6 pn2_6 pc2_6)), (32, (vI (x2.tags.length : Int))), (33, (vI ((k1f : Nat) : Int)))] a ∧ Below w16.heap.size w16 w) (fun (_ : Unit) a w => Sat 61 [(2, (vI x3)), (6, (.pointer (some ⟨w14.heap.size, 0, none⟩)))] a ∧ Below w16.heap.size w16 w) (fun r ex a w => ex = .ret ∧ RetPost prog fn (Q_impl_fileReader_choice w0 B r) a w) hu2r ?_ ?_ ?_ ?_ ?_
 ·exact fun _ q => ⟨(q.k (s9 z z z z z z z z z)), (br w16)⟩
 ·rintro k1f _ a3z w40 o41 hk1g ⟨hS2s, s12⟩ hm2t
  refine Wu (e := [(0, (.pointer (some ⟨b1, o1, none⟩))), (2, (vI x3)), (4, (.pointer (some ⟨w0.heap.size, 0, none⟩))), (6, (.pointer (some ⟨w14.heap.size, 0, none⟩))), (9, (vI r18)), (10, (vI r1d)), (31, (.slice pa2_6 pn2_6 pc2_6)), (32, (vI (x2.tags.length : Int))), (33, (vI ((k1f : Nat) : Int)))]) (N := 61) ?_ hS2s
  refine Ws (R z (lss z z) (Wn (Wq (Wc z (fun _ => ?_) (fun hc => (nolt hk1g hc).elim)))))
  refine Wk (Wq (WC_block (Ws (Rm z ?_))))
  obtain ⟨x42, e2u, hm1y⟩ := bdS hm2t
  refine RX z (at_ (α := Int) d_63 z_3 z z z (h1w.ext s12) e2u) ?_
  rintro _ ⟨b43, o44, cs45, rfl, h2v, h2w, h46⟩
  obtain ⟨rfl, h47⟩ := Int_open h2w
  refine R z (l1 g_3 z fid (h2v.at0 z)) (Ra z (Ra z (Wn (Ws (Rm z (Rm z (R z (eql z z) (Wn (Wc z (fun hc1h => ?_) (fun hc1h => ?_))))))))))
  ·refine Ws (Rm z (Rm z (R z (bP (parts := [(0, (.tmp 42))]) (cs := [(vI r18), (.slice none 0 0), (.slice none 0 0)]) build_74 z z) (R z (fd f_70_7 z) (R z (l1 g_63 z fid ((h1v.ext s12).at z)) (Rm z (R z (inc_ hk1g (lt_ (repS.len p2_6) LEN_le) z z) (Rm z (R z (add_ z z) ?_)))))))))
   obtain ⟨x48, e2x, hm2y⟩ := bdS (ifT hm1y hc1h)
   refine RX z (rd_sliceX d_63 z_3 z z ((h1n.ext s10).ext s12) z z e2x) ?_
   rintro _ ⟨a49, n4a, c4b, rfl, h2z⟩
   refine Rm z ?_
   have h19 := lt_ (lt_ h17 s10.size) s12.size
   obtain ⟨r30, r4c, r4d, e31, hm32⟩ := bd3S hm2y
   refine E z (fc call83 z (ih_impl_fileReader_items.run (B := B) e31 (lt_ hBw h19) ((h1p.ext s10).ext s12) ((h1q.ext s10).ext s12) ((h1o.ext s10).ext s12) hC1b h2n onL nd_nil all_nil onL nd_nil all_nil all_nil h2z h2o)) ?_
   rintro _ w4e ⟨s1z, a20, n21, c22, S23, a24, n25, c26, S27, v33, S34, rfl, h35, h36, h37, h38, h39, h28, h1i, h1a⟩
   iterate 3 refine R z (ext_ z z) ?_
   refine E0 (fs (cur' := [(vI r30.number), (.slice a20 n21 c22), (.slice a24 n25 c26)]) z_74 z z (((h15.ext s10).ext s12).chg s1z (atp (nmA (nmN _) (nmN _)))) z (lb z) (oA z) z) ?_
   rintro _ w4f ⟨h3a, s3b⟩
   have h1b := s3b.one
   refine Ra z (Ra z (Wn ?_))
   have h1j := lt_ s10.size s12.size
   have h3c : ∀ k ∈ S23, k ∉ [w14.heap.size] := or1 (all_left h1a) al0 (ltnot (mem1 h15.lt) h1j)
   have h3d : ∀ k ∈ S27, k ∉ [w14.heap.size] := or1 (all_right h1a) al0 (ltnot (mem1 h15.lt) h1j)
   exact Wr (rtO (QO_retL (som hm32).symm (ret3 hr (resC g_74 z_74 z h3a z) z z ⟨(bM (bM (bup (bup (bup h11 h13) s10) s12) s1z al0) h1b (mem1le h11.size)), a20, n21, c22, S23, a24, n25, c26, S27, v33, S34, z, h35, (h36.chg h1b h3c), (h37.chg h1b h3d), h38, (h39.chg h1b (o0n1 h28 h15.lt h1j)), (o0le h28 h19), (nd_app (nd_left h1i) (nd_right h1i) (nd_dj h1i)), (all_app (o1le (all_left h1a) al0 h19) (o1le (all_right h1a) al0 h19))⟩)))
  exact Wk (Wg (R z (inc_ hk1g (lt_ (repS.len p2_6) LEN_le) z z) (Rm z (Wl (fun _ q => ⟨(), (som (ifF hm1y hc1h)).symm, ⟨(q.k (s9 z z z z z z z z z)), s12⟩⟩)))))
 ·rintro _ a4g w4h ⟨hS3e, s3f⟩
  refine Wu (e := [(0, (.pointer (some ⟨b1, o1, none⟩))), (2, (vI x3)), (4, (.pointer (some ⟨w0.heap.size, 0, none⟩))), (6, (.pointer (some ⟨w14.heap.size, 0, none⟩))), (9, (vI r18)), (10, (vI r1d)), (31, (.slice pa2_6 pn2_6 pc2_6)), (32, (vI (x2.tags.length : Int))), (33, (vI ((x2.tags.length : Nat) : Int)))]) (N := 61) ?_ hS3e
  refine Ws (R z (lss z z) (Wn (Wq (Wc z (fun hc => (noltt hc).elim) (fun _ => ?_)))))
  exact WC_exit (fun a' ha' => ⟨rfl, ⟨(Sat.weaken ha' (s2 z z)), s3f⟩⟩)
 ·rintro _ a3g w4i rfl ⟨hS4j, s1c⟩
  have hm3h := elL hm1x
  revert a3g
  refine Wo (Ws (R z (bP (parts := []) (cs := [(vI 0), (.slice none 0 0), (.slice none 0 0)]) build_74 z z) (Rm z (Rm z ?_))))
  have h29 := lt_ (lt_ h17 s10.size) s1c.size
  obtain ⟨r4k, e3i, hm3j⟩ := bdS hm3h
  refine E z (fc call88 z (W_impl_fail (B := B) e3i (lt_ hBw h29) p3_0 (ii z))) ?_
  rintro _ w4l ⟨s2a, v3k, S3l, rfl, h3m, h2b⟩
  refine E0 (fs (cur' := [(vI 0), (.slice none 0 0), (.slice none 0 0)]) z_74 z z (((h15.ext s10).ext s1c).ext s2a) z (lb z) (oA z) z) ?_
  rintro _ w4m ⟨h3n, s3o⟩
  have h2c := s3o.one
  refine Ra z (Ra z (Wn ?_))
  obtain rfl := som hm3j
  exact Wr (ret3 hr (resC g_74 z_74 z h3n z) z z ⟨(bM (bup (bup (bup (bup h11 h13) s10) s1c) s2a) h2c (mem1le h11.size)), none, 0, 0, [], none, 0, 0, [], v3k, S3l, z, (ii z), onL, onL, p3_0, (h3m.chg h2c (o0n1 h2b h15.lt (lt_ s10.size s1c.size))), (o0le h2b h29), nd0, al0⟩)
 rintro r4n ex4o a4p w4q rfl ⟨rfl, hq3p⟩
 have hm3q := elR hm1x
 obtain rfl := som hm3q
 exact ⟨hq3p, z⟩
theorem T_impl_fileReader_option (ih_impl_fileReader_value : S_impl_fileReader_value n) (ih_impl_fileReader_array : S_impl_fileReader_array n) (ih_impl_fileReader_items : S_impl_fileReader_items n) (ih_impl_fileReader_choice : S_impl_fileReader_choice n) (ih_impl_fileReader_option : S_impl_fileReader_option n) (ih_impl_fileReader_checked : S_impl_fileReader_checked n) {x1 : FileReader} {b1 o1 : Nat} {x2 : Rule} {x3 : Int} {res : Val × Int × (Option (Int × Int))} (hm : B_impl_fileReader_option n (F_impl_fileReader_value n) x1 x2 x3 = some res) (hBw : B ≤ w0.heap.size) (p1_0 : repS w0 B (.slice pa1_0 pn1_0 pc1_0) x1.d.rules) (p1_1 : repS w0 B (.slice pa1_1 pn1_1 pc1_1) x1.b) (hC1 : CellsAt w0 b1 o1 [(.slice pa1_0 pn1_0 pc1_0), (.slice pa1_1 pn1_1 pc1_1)]) (hC1b : b1 < B) (p2_0 : x2.name.b.length ≤ LEN) (p2_1 : inI x2.kind) (p2_2 : inI x2.size) (p2_4 : repS w0 B (.slice pa2_4 pn2_4 pc2_4) x2.bytes) (p2_5 : repS w0 B (.slice pa2_5 pn2_5 pc2_5) x2.names) (p2_6 : repS w0 B (.slice pa2_6 pn2_6 pc2_6) x2.tags) (p2_7 : repS w0 B (.slice pa2_7 pn2_7 pc2_7) x2.kids) (p3_0 : inI x3) : CallsR prog 85 [(.pointer (some ⟨b1, o1, none⟩)), (.agg #[(Str.v x2.name), (vI x2.kind), (vI x2.size), (vB x2.little), (.slice pa2_4 pn2_4 pc2_4), (.slice pa2_5 pn2_5 pc2_5), (.slice pa2_6 pn2_6 pc2_6), (.slice pa2_7 pn2_7 pc2_7)]), (vI x3)] w0 (Q_impl_fileReader_option w0 B res) := by
 unfold B_impl_fileReader_option at hm
 obtain ⟨fn, hf, hb, hN, hr⟩ := fnE func85
 refine goW hf (hb.trans z) (hN.trans z) (lb z) (Ws (E z (fb z) ?_))
 rintro _ w14 ⟨rfl, h1d⟩
 have h11 := h1d.below
 have h23 : Blk w14 w0.heap.size [(Str.v x2.name), (vI x2.kind), (vI x2.size), (vB x2.little), (.slice pa2_4 pn2_4 pc2_4), (.slice pa2_5 pn2_5 pc2_5), (.slice pa2_6 pn2_6 pc2_6), (.slice pa2_7 pn2_7 pc2_7)] := h1d.blk
 refine E z (fa zero_74) ?_
 rintro _ w24 ⟨rfl, h1e⟩
 have h12 := h1e.below
 have h13 : Blk w24 w14.heap.size [(vI 0), (.slice none 0 0), (.slice none 0 0)] := h1e.blk
 refine Ra z (Ra z (Wn (Ws (Rm z (Rm z ?_)))))
 have h1f := (hC1.ext h11).ext h12
 have h1g := (p1_0.ext h11).ext h12
 have h1h := (p1_1.ext h11).ext h12
 have h15 := lt_ h11.size h12.size
 obtain ⟨r33, r34, e25, hm1i⟩ := bd2S hm
 refine E z (fc call104 z (W_impl_fileReader_take (B := B) e25 (lt_ hBw h15) h1g h1h h1f hC1b p3_0 (ii z))) ?_
 rintro _ w35 ⟨s10, a36, n37, c38, v26, S27, rfl, h1j, h1k, h1l⟩
 refine Rm z (R z (ext_ z z) (R z (ext_ z z) (Ra z (Ra z (Wn (Wq (WC_block (Ws (Rm z (R z (rd_neqEr d_110 z z h1k) (Ra z (Wn (Wc z (fun hc19 => ?_) (fun hc19 => ?_))))))))))))))
 ·refine Ws (R z (bP (parts := []) (cs := [(vI 0), (.slice none 0 0), (.slice none 0 0)]) build_74 z z) (Rm z (Rm z (E0 (fs (cur' := [(vI 0), (.slice none 0 0), (.slice none 0 0)]) z_74 z z (h13.ext s10) z (lb z) (oA z) z) ?_))))
  rintro _ w39 ⟨h28, s29⟩
  have h1m := s29.one
  refine Ra z (Ra z (Wn ?_))
  obtain rfl := som (ifT hm1i hc19)
  exact Wr (rtO (ret3 hr (resC g_74 z_74 z h28 z) z z ⟨(bM (bup (bup h11 h12) s10) h1m (mem1le h11.size)), none, 0, 0, [], none, 0, 0, [], v26, S27, z, (ii z), onL, onL, p3_0, (h1k.chg h1m (o0n1 h1l h13.lt lr)), (o0le h1l h15), nd0, al0⟩))
 refine Ws (Rm z ?_)
 obtain ⟨x3a, e2a, hm1n⟩ := bdS (ifF hm1i hc19)
 refine RX z (at_ (α := UInt8) d_26 z_5 z z z h1j e2a) ?_
 rintro _ ⟨b3b, o3c, cs3d, rfl, h2b, h2c, h3e⟩
 obtain rfl := UInt8_open h2c
 refine R z (l1 g_5 z fid (h2b.at0 z)) (R z (rd_gtr z z) (Ra z (Wn (Wc z (fun hc1a => ?_) (fun hc1a => ?_)))))
 ·refine Ws (R z (bP (parts := []) (cs := [(vI 0), (.slice none 0 0), (.slice none 0 0)]) build_74 z z) (Rm z (Rm z ?_)))
  have h1o := lt_ h15 s10.size
  obtain ⟨r3f, e2d, hm2e⟩ := bdS (ifT hm1n hc1a)
  refine E z (fc call88 z (W_impl_fail (B := B) e2d (lt_ hBw h1o) p3_0 (ii z))) ?_
  rintro _ w3g ⟨s1p, v2f, S2g, rfl, h2h, h1q⟩
  refine E0 (fs (cur' := [(vI 0), (.slice none 0 0), (.slice none 0 0)]) z_74 z z ((h13.ext s10).ext s1p) z (lb z) (oA z) z) ?_
  rintro _ w3h ⟨h2i, s2j⟩
  have h1r := s2j.one
  refine Ra z (Ra z (Wn ?_))
  obtain rfl := som hm2e
  exact Wr (rtO (ret3 hr (resC g_74 z_74 z h2i z) z z ⟨(bM (bup (bup (bup h11 h12) s10) s1p) h1r (mem1le h11.size)), none, 0, 0, [], none, 0, 0, [], v2f, S2g, z, (ii z), onL, onL, p3_0, (h2h.chg h1r (o0n1 h1q h13.lt s10.size)), (o0le h1q h1o), nd0, al0⟩))
 refine Ws (Rm z ?_)
 obtain ⟨x3i, e2k, hm1s⟩ := bdS (ifF hm1n hc1a)
 refine RX z (at_ (α := UInt8) d_26 z_5 z z z h1j e2k) ?_
 rintro _ ⟨b3j, o3k, cs3l, rfl, h2l, h2m, h3m⟩
 obtain rfl := UInt8_open h2m
 refine R z (l1 g_5 z fid (h2l.at0 z)) (R z (eql z z) (Ra z (Wn (Wc z (fun hc1b => ?_) (fun hc1b => ?_)))))
 ·refine Ws (R z (bP (parts := []) (cs := [(vI 0), (.slice none 0 0), (.slice none 0 0)]) build_74 z z) (Rm z (R z (add_ z z) (E0 (fs (cur' := [(vI 0), (.slice none 0 0), (.slice none 0 0)]) z_74 z z (h13.ext s10) z (lb z) (oA z) z) ?_))))
  rintro _ w3n ⟨h2n, s2o⟩
  refine Ra z (Ra z (Wn ?_))
  obtain rfl := som (ifT hm1s hc1b)
  exact Wr (rtO (ret3 hr (resC g_74 z_74 z h2n z) z z ⟨(bM (bup (bup h11 h12) s10) s2o.one (mem1le h11.size)), none, 0, 0, [], none, 0, 0, [], .nilIface, ([] : List Nat), z, (ii z), onL, onL, (iA _ _), errR_nil, all_nil, nd0, al0⟩))
 refine Wk (Ws (Rm z (R z (bP (parts := []) (cs := [(vI 0), (.slice none 0 0), (.slice none 0 0)]) build_74 z z) (R z (fd f_70_7 z) (R z (l1 g_63 z fid (((h23.ext h12).ext s10).at z)) (Rm z (R z (add_ z z) ?_)))))))
 have h16 := lt_ h15 s10.size
 obtain ⟨r2p, r3o, r3p, e2q, hm2r⟩ := bd3S (ifF hm1s hc1b)
 refine E z (fc call83 z (ih_impl_fileReader_items.run (B := B) e2q (lt_ hBw h16) (h1g.ext s10) (h1h.ext s10) (h1f.ext s10) hC1b (ii z) onL nd_nil all_nil onL nd_nil all_nil all_nil (((p2_7.ext h11).ext h12).ext s10) (iA _ _))) ?_
 rintro _ w3q ⟨s1t, a1u, n1v, c1w, S1x, a1y, n1z, c20, S21, v2s, S2t, rfl, h2u, h2v, h2w, h2x, h2y, h22, h1c, h17⟩
 iterate 3 refine R z (ext_ z z) ?_
 refine E0 (fs (cur' := [(vI r2p.number), (.slice a1u n1v c1w), (.slice a1y n1z c20)]) z_74 z z ((h13.ext s10).chg s1t (atp (nmA (nmN _) (nmN _)))) z (lb z) (oA z) z) ?_
 rintro _ w3r ⟨h2z, s30⟩
 have h18 := s30.one
 refine Ra z (Ra z (Wn ?_))
 obtain rfl := som hm2r
 have h31 : ∀ k ∈ S1x, k ∉ [w14.heap.size] := or1 (all_left h17) al0 (ltnot (mem1 h13.lt) s10.size)
 have h32 : ∀ k ∈ S21, k ∉ [w14.heap.size] := or1 (all_right h17) al0 (ltnot (mem1 h13.lt) s10.size)
 exact Wr (ret3 hr (resC g_74 z_74 z h2z z) z z ⟨(bM (bM (bup (bup h11 h12) s10) s1t al0) h18 (mem1le h11.size)), a1u, n1v, c1w, S1x, a1y, n1z, c20, S21, v2s, S2t, z, h2u, (h2v.chg h18 h31), (h2w.chg h18 h32), h2x, (h2y.chg h18 (o0n1 h22 h13.lt s10.size)), (o0le h22 h16), (nd_app (nd_left h1c) (nd_right h1c) (nd_dj h1c)), (all_app (o1le (all_left h17) al0 h16) (o1le (all_right h17) al0 h16))⟩)
theorem T_impl_fileReader_checked (ih_impl_fileReader_value : S_impl_fileReader_value n) (ih_impl_fileReader_array : S_impl_fileReader_array n) (ih_impl_fileReader_items : S_impl_fileReader_items n) (ih_impl_fileReader_choice : S_impl_fileReader_choice n) (ih_impl_fileReader_option : S_impl_fileReader_option n) (ih_impl_fileReader_checked : S_impl_fileReader_checked n) {x1 : FileReader} {b1 o1 : Nat} {x2 : Rule} {x3 : Int} {res : Val × Int × (Option (Int × Int))} (hm : B_impl_fileReader_checked n (F_impl_fileReader_value n) x1 x2 x3 = some res) (hBw : B ≤ w0.heap.size) (p1_0 : repS w0 B (.slice pa1_0 pn1_0 pc1_0) x1.d.rules) (p1_1 : repS w0 B (.slice pa1_1 pn1_1 pc1_1) x1.b) (hC1 : CellsAt w0 b1 o1 [(.slice pa1_0 pn1_0 pc1_0), (.slice pa1_1 pn1_1 pc1_1)]) (hC1b : b1 < B) (p2_0 : x2.name.b.length ≤ LEN) (p2_1 : inI x2.kind) (p2_2 : inI x2.size) (p2_4 : repS w0 B (.slice pa2_4 pn2_4 pc2_4) x2.bytes) (p2_5 : repS w0 B (.slice pa2_5 pn2_5 pc2_5) x2.names) (p2_6 : repS w0 B (.slice pa2_6 pn2_6 pc2_6) x2.tags) (p2_7 : repS w0 B (.slice pa2_7 pn2_7 pc2_7) x2.kids) (p3_0 : inI x3) : CallsR prog 86 [(.pointer (some ⟨b1, o1, none⟩)), (.agg #[(Str.v x2.name), (vI x2.kind), (vI x2.size), (vB x2.little), (.slice pa2_4 pn2_4 pc2_4), (.slice pa2_5 pn2_5 pc2_5), (.slice pa2_6 pn2_6 pc2_6), (.slice pa2_7 pn2_7 pc2_7)]), (vI x3)] w0 (Q_impl_fileReader_checked w0 B res) := by
 unfold B_impl_fileReader_checked at hm
 obtain ⟨fn, hf, hb, hN, hr⟩ := fnE func86
 refine goW hf (hb.trans z) (hN.trans z) (lb z) (Ws (E z (fb z) ?_))
 rintro _ w1b ⟨rfl, h1r⟩
 have h13 := h1r.below
 have h2j : Blk w1b w0.heap.size [(Str.v x2.name), (vI x2.kind), (vI x2.size), (vB x2.little), (.slice pa2_4 pn2_4 pc2_4), (.slice pa2_5 pn2_5 pc2_5), (.slice pa2_6 pn2_6 pc2_6), (.slice pa2_7 pn2_7 pc2_7)] := h1r.blk
 refine E z (fa zero_74) ?_
 rintro _ w2k ⟨rfl, h1s⟩
 have h17 := h1s.below
 have h14 : Blk w2k w1b.heap.size [(vI 0), (.slice none 0 0), (.slice none 0 0)] := h1s.blk
 refine Ra z (Ra z (Wn (Ws (Rm z (R z (bP (parts := []) (cs := [(vI 0), (.slice none 0 0), (.slice none 0 0)]) build_74 z z) (R z (fd f_70_7 z) (R z (l1 g_63 z fid ((h2j.ext h17).at z)) (Rm z ?_))))))))
 have h1t := (hC1.ext h13).ext h17
 have h1u := (p1_0.ext h13).ext h17
 have h1v := (p1_1.ext h13).ext h17
 have h19 := lt_ h13.size h17.size
 obtain ⟨r1j, r3l, r3m, e2l, hm1w⟩ := bd3S hm
 refine E z (fc call83 z (ih_impl_fileReader_items.run (B := B) e2l (lt_ hBw h19) h1u h1v h1t hC1b (ii z) onL nd_nil all_nil onL nd_nil all_nil all_nil ((p2_7.ext h13).ext h17) p3_0)) ?_
 rintro _ w2m ⟨s10, a1c, n1d, c1e, S1x, a1f, n1g, c1h, S1y, v2n, S2o, rfl, h2p, h1z, h20, h21, h22, h23, h1k, h1i⟩
 refine Rm z ?_
 iterate 3 refine R z (ext_ z z) ?_
 refine E z (fa zero_74) ?_
 rintro _ w2q ⟨rfl, h24⟩
 have h11 := h24.below
 have h2r : Blk w2q w2m.heap.size [(vI 0), (.slice none 0 0), (.slice none 0 0)] := h24.blk
 refine E0 (fs (cur' := [(vI r1j.number), (.slice a1c n1d c1e), (.slice a1f n1g c1h)]) z_74 z z h2r z (lb z) (oA z) z) ?_
 rintro _ w3n ⟨h2s, s2t⟩
 have h12 := s2t.one
 refine Ra z (Ra z (Wn (Wq (Ws (Rm z ?_)))))
 have h25 := (h22.ext h11).chg h12 (dj_symm (mnr (errR.lt h22)))
 refine R z (rd_neqEr d_110 z z h25) (Wn (Wc z (fun hc1l => ?_) (fun hc1l => ?_)))
 ·refine Ws (R z (bP (parts := []) (cs := [(vI 0), (.slice none 0 0), (.slice none 0 0)]) build_74 z z) (Rm z (Rm z (E0 (fs (cur' := [(vI 0), (.slice none 0 0), (.slice none 0 0)]) z_74 z z (((h14.chg s10 (atp (nmA (nmN _) (nmN _)))).ext h11).chg h12 (djs (mm1 h14.lt s10.size))) z (lb z) (oA z) z) ?_))))
  rintro _ w3o ⟨h2u, s2v⟩
  have h26 := s2v.one
  refine Ra z (Ra z (Wn ?_))
  obtain rfl := som (ifT hm1w hc1l)
  exact Wr (ret3 hr (resC g_74 z_74 z h2u z) z z ⟨(bM (bM (bup (bM (bup h13 h17) s10 al0) h11) h12 (mem1le (lt_ h19 s10.size))) h26 (mem1le h13.size)), none, 0, 0, [], none, 0, 0, [], v2n, S2o, z, (ii z), onL, onL, p3_0, (h25.chg h26 (o0n1 h23 h14.lt lr)), (o0le h23 h19), nd0, al0⟩)
 refine Wk (Ws (Rm z (Rm z ?_)))
 have h1a := lt_ h19 s10.size
 have h1m := mem1le (lt_ hBw h1a)
 have h27 := ((h1t.chg s10 ((nmA (lg all_nil) (lg all_nil)) _ hC1b)).ext h11).chg h12 ((lg h1m) _ hC1b)
 have h28 := ((h1v.chg s10 (nmA (lg all_nil) (lg all_nil))).ext h11).chg h12 (lg h1m)
 have h1n := lt_ (lt_ h1a h11.size) h12.size
 obtain ⟨r3p, r3q, e2w, hm29⟩ := bd2S (ifF hm1w hc1l)
 refine E z (fc call104 z (W_impl_fileReader_take (B := B) e2w (lt_ hBw h1n) (((h1u.chg s10 (nmA (lg all_nil) (lg all_nil))).ext h11).chg h12 (lg h1m)) h28 h27 hC1b h21 (ii z))) ?_
 rintro _ w3r ⟨s15, a3s, n3t, c3u, v2x, S2y, rfl, h2z, h2a, h2b⟩
 refine Rm z (R z (ext_ z z) (R z (ext_ z z) (Ra z (Ra z (Wn (Wq (Ws (Rm z (R z (rd_neqEr d_110 z z h2a) (Wn (Wc z (fun hc1o => ?_) (fun hc1o => ?_))))))))))))
 ·refine Ws (R z (bP (parts := []) (cs := [(vI 0), (.slice none 0 0), (.slice none 0 0)]) build_74 z z) (Rm z (Rm z (E0 (fs (cur' := [(vI 0), (.slice none 0 0), (.slice none 0 0)]) z_74 z z ((((h14.chg s10 (atp (nmA (nmN _) (nmN _)))).ext h11).chg h12 (djs (mm1 h14.lt s10.size))).ext s15) z (lb z) (oA z) z) ?_))))
  rintro _ w3v ⟨h30, s31⟩
  have h2c := s31.one
  refine Ra z (Ra z (Wn ?_))
  obtain rfl := som (ifT hm29 hc1o)
  exact Wr (ret3 hr (resC g_74 z_74 z h30 z) z z ⟨(bM (bup (bM (bup (bM (bup h13 h17) s10 al0) h11) h12 (mem1le h1a)) s15) h2c (mem1le h13.size)), none, 0, 0, [], none, 0, 0, [], v2x, S2y, z, (ii z), onL, onL, p3_0, (h2a.chg h2c (o0n1 h2b h14.lt (lt_ (lt_ s10.size h11.size) h12.size))), (o0le h2b h1n), nd0, al0⟩)
 refine Wk (Wq (Wq (WC_draw (X := noX) 0 (.rd 0 (.rd 1 (.rd 2 (.rd 3 (.rd 4 (.rd 5 (.rd 6 (.rd 7 (.rd 8 (.rd 9 (.rd 10 (.ef 11 (.rd 12 .done))))))))))))) mo (by kernel_rfl) fun w3w s16 _ => dR z z (mv z) ?_)))
 obtain ⟨x3x, e32, hm33⟩ := bdS (ifF hm29 hc1o)
 refine dRX z z (at_ (α := UInt8) d_26 z_5 z z z (h2z.ext s16) e32) ?_
 rintro _ ⟨b3y, o3z, cs40, rfl, h34, h35, h41⟩
 obtain rfl := UInt8_open h35
 refine dR z z (l1 g_5 z fid (h34.at0 z)) (dR z z (rd_convUI d_5 d_3 z) (dR z z (mv z) (dR z z (rd_nil z) (dR z z (fd f_108_1 z) (dR z z (l1 g_26 z fid (((h27.ext s15).ext s16).at (j := 1) z)) (dR z z (mv z) (dR z z (mv z) ?_)))))))
 obtain ⟨x42, e36, hm37⟩ := bdS hm33
 refine dRX z z (rd_sliceX d_26 z_5 z z ((h28.ext s15).ext s16) z z e36) ?_
 rintro _ ⟨a43, n44, c45, rfl, h38⟩
 have h2d := lt_ (lt_ h1n s15.size) s16.size
 obtain ⟨r46, e39, hm2e⟩ := bdS hm37
 refine dE z z (fc call106 z (W_impl_SumOfBytes (B := B) e39 (lt_ hBw h2d) h38)) (.inr fun _ _ h => chgB (h.1)) ?_
 rintro _ w47 ⟨s18, rfl, h48⟩
 refine dR z z (nq z z) (PR_done (Wo (Wc z (fun hc1p => ?_) (fun hc1p => ?_))))
 ·refine Ws (R z (bP (parts := []) (cs := [(vI 0), (.slice none 0 0), (.slice none 0 0)]) build_74 z z) (Rm z (Rm z ?_)))
  have h2f := lt_ h2d s18.size
  obtain ⟨r49, e3a, hm3b⟩ := bdS (ifT hm2e hc1p)
  refine E z (fc call88 z (W_impl_fail (B := B) e3a (lt_ hBw h2f) h21 (ii z))) ?_
  rintro _ w4a ⟨s2g, v3c, S3d, rfl, h3e, h2h⟩
  refine E0 (fs (cur' := [(vI 0), (.slice none 0 0), (.slice none 0 0)]) z_74 z z (((((((h14.chg s10 (atp (nmA (nmN _) (nmN _)))).ext h11).chg h12 (djs (mm1 h14.lt s10.size))).ext s15).ext s16).ext s18).ext s2g) z (lb z) (oA z) z) ?_
  rintro _ w4b ⟨h3f, s3g⟩
  have h2i := s3g.one
  refine Ra z (Ra z (Wn ?_))
  obtain rfl := som hm3b
  exact Wr (ret3 hr (resC g_74 z_74 z h3f z) z z ⟨(bM (bup (bup (bup (bup (bM (bup (bM (bup h13 h17) s10 al0) h11) h12 (mem1le h1a)) s15) s16) s18) s2g) h2i (mem1le h13.size)), none, 0, 0, [], none, 0, 0, [], v3c, S3d, z, (ii z), onL, onL, p3_0, (h3e.chg h2i (o0n1 h2h h14.lt (lt_ (lt_ (lt_ (lt_ (lt_ s10.size h11.size) h12.size) s15.size) s16.size) s18.size))), (o0le h2h h2f), nd0, al0⟩)
 refine Wk (Ws (R z (lN (vs := [(vI r1j.number), (.slice a1c n1d c1e), (.slice a1f n1g c1h)]) g_74 z_74 z z fid ((((h2s.ext s15).ext s16).ext s18).row 0 3 z)) (Rm z (R z (add_ z z) (E0 (fs (cur' := [(vI r1j.number), (.slice a1c n1d c1e), (.slice a1f n1g c1h)]) z_74 z z ((((((h14.chg s10 (atp (nmA (nmN _) (nmN _)))).ext h11).chg h12 (djs (mm1 h14.lt s10.size))).ext s15).ext s16).ext s18) z (lb z) (oA z) z) ?_)))))
 rintro _ w4c ⟨h3h, s3i⟩
 have h1q := s3i.one
 refine Ra z (Ra z (Wn ?_))
 obtain rfl := som (ifF hm2e hc1p)
 have h3j : ∀ k ∈ S1x, k ∉ [w1b.heap.size] := or1 (all_left h1i) al0 (ltnot (mem1 h14.lt) lr)
 have h3k : ∀ k ∈ S1y, k ∉ [w1b.heap.size] := or1 (all_right h1i) al0 (ltnot (mem1 h14.lt) lr)
 exact Wr (ret3 hr (resC g_74 z_74 z h3h z) z z ⟨(bM (bup (bup (bup (bM (bup (bM (bup h13 h17) s10 al0) h11) h12 (mem1le h1a)) s15) s16) s18) h1q (mem1le h13.size)), a1c, n1d, c1e, S1x, a1f, n1g, c1h, S1y, .nilIface, ([] : List Nat), z, h2p, ((((((h1z.ext h11).chg h12 (dj_symm (mnr (ownS.lt h1z)))).ext s15).ext s16).ext s18).chg h1q h3j), ((((((h20.ext h11).chg h12 (dj_symm (mnr (ownS.lt h20)))).ext s15).ext s16).ext s18).chg h1q h3k), (iA _ _), errR_nil, all_nil, (nd_app (nd_left h1k) (nd_right h1k) (nd_dj h1k)), (all_app (o1le (all_left h1i) al0 h19) (o1le (all_right h1i) al0 h19))⟩)
theorem A_impl_fileReader_value : ∀ n, S_impl_fileReader_value n ∧ S_impl_fileReader_array n ∧ S_impl_fileReader_items n ∧ S_impl_fileReader_choice n ∧ S_impl_fileReader_option n ∧ S_impl_fileReader_checked n
  | 0 => ⟨⟨fun hm => by intros; exact nomatch (show none = some _ from hm)⟩, ⟨fun hm => by intros; exact nomatch (show none = some _ from hm)⟩, ⟨fun hm => by intros; exact nomatch (show none = some _ from hm)⟩, ⟨fun hm => by intros; exact nomatch (show none = some _ from hm)⟩, ⟨fun hm => by intros; exact nomatch (show none = some _ from hm)⟩, ⟨fun hm => by intros; exact nomatch (show none = some _ from hm)⟩⟩
  | n + 1 => by
    have ih := A_impl_fileReader_value n
    obtain ⟨i0, i1, i2, i3, i4, i5⟩ := ih
    exact ⟨⟨fun hm => T_impl_fileReader_value i0 i1 i2 i3 i4 i5 hm⟩, ⟨fun hm => T_impl_fileReader_array i0 i1 i2 i3 i4 i5 hm⟩, ⟨fun hm => T_impl_fileReader_items i0 i1 i2 i3 i4 i5 hm⟩, ⟨fun hm => T_impl_fileReader_choice i0 i1 i2 i3 i4 i5 hm⟩, ⟨fun hm => T_impl_fileReader_option i0 i1 i2 i3 i4 i5 hm⟩, ⟨fun hm => T_impl_fileReader_checked i0 i1 i2 i3 i4 i5 hm⟩⟩
theorem W_impl_fileReader_value : ∀ {x1 : FileReader} {b1 o1 : Nat} {x2 : Int} {x3 : Int} {res : Val × Int × (Option (Int × Int))} (hm : (F_impl_fileReader_value n).impl_fileReader_value x1 x2 x3 = some res) (hBw : B ≤ w0.heap.size) (p1_0 : repS w0 B (.slice pa1_0 pn1_0 pc1_0) x1.d.rules) (p1_1 : repS w0 B (.slice pa1_1 pn1_1 pc1_1) x1.b) (hC1 : CellsAt w0 b1 o1 [(.slice pa1_0 pn1_0 pc1_0), (.slice pa1_1 pn1_1 pc1_1)]) (hC1b : b1 < B) (p2_0 : inI x2) (p3_0 : inI x3), CallsR prog 70 [(.pointer (some ⟨b1, o1, none⟩)), (vI x2), (vI x3)] w0 (Q_impl_fileReader_value w0 B res) := ((A_impl_fileReader_value n).1).run
theorem W_impl_fileReader_array : ∀ {x1 : FileReader} {b1 o1 : Nat} {x2 : Rule} {x3 : Int} {res : Val × Int × (Option (Int × Int))} (hm : (F_impl_fileReader_value n).impl_fileReader_array x1 x2 x3 = some res) (hBw : B ≤ w0.heap.size) (p1_0 : repS w0 B (.slice pa1_0 pn1_0 pc1_0) x1.d.rules) (p1_1 : repS w0 B (.slice pa1_1 pn1_1 pc1_1) x1.b) (hC1 : CellsAt w0 b1 o1 [(.slice pa1_0 pn1_0 pc1_0), (.slice pa1_1 pn1_1 pc1_1)]) (hC1b : b1 < B) (p2_0 : x2.name.b.length ≤ LEN) (p2_1 : inI x2.kind) (p2_2 : inI x2.size) (p2_4 : repS w0 B (.slice pa2_4 pn2_4 pc2_4) x2.bytes) (p2_5 : repS w0 B (.slice pa2_5 pn2_5 pc2_5) x2.names) (p2_6 : repS w0 B (.slice pa2_6 pn2_6 pc2_6) x2.tags) (p2_7 : repS w0 B (.slice pa2_7 pn2_7 pc2_7) x2.kids) (p3_0 : inI x3), CallsR prog 82 [(.pointer (some ⟨b1, o1, none⟩)), (.agg #[(Str.v x2.name), (vI x2.kind), (vI x2.size), (vB x2.little), (.slice pa2_4 pn2_4 pc2_4), (.slice pa2_5 pn2_5 pc2_5), (.slice pa2_6 pn2_6 pc2_6), (.slice pa2_7 pn2_7 pc2_7)]), (vI x3)] w0 (Q_impl_fileReader_array w0 B res) := ((A_impl_fileReader_value n).2.1).run
theorem W_impl_fileReader_items : ∀ {x1 : FileReader} {b1 o1 : Nat} {x2 : Val} {S2_1 : List Nat} {S2_2 : List Nat} {x3 : List Int} {x4 : Int} {res : Val × Int × (Option (Int × Int))} (hm : (F_impl_fileReader_value n).impl_fileReader_items x1 x2 x3 x4 = some res) (hBw : B ≤ w0.heap.size) (p1_0 : repS w0 B (.slice pa1_0 pn1_0 pc1_0) x1.d.rules) (p1_1 : repS w0 B (.slice pa1_1 pn1_1 pc1_1) x1.b) (hC1 : CellsAt w0 b1 o1 [(.slice pa1_0 pn1_0 pc1_0), (.slice pa1_1 pn1_1 pc1_1)]) (hC1b : b1 < B) (p2_0 : inI x2.number) (p2_1 : ownS w0 S2_1 (.slice pa2_1 pn2_1 pc2_1) x2.bytes) (p2_1n : S2_1.Nodup) (p2_1g : ∀ k ∈ S2_1, B ≤ k) (p2_2 : ownS w0 S2_2 (.slice pa2_2 pn2_2 pc2_2) x2.items) (p2_2n : S2_2.Nodup) (p2_2g : ∀ k ∈ S2_2, B ≤ k) (p2_2d1 : ∀ k ∈ S2_2, k ∉ S2_1) (p3_0 : repS w0 B (.slice pa3_0 pn3_0 pc3_0) x3) (p4_0 : inI x4), CallsR prog 83 [(.pointer (some ⟨b1, o1, none⟩)), (.agg #[(vI x2.number), (.slice pa2_1 pn2_1 pc2_1), (.slice pa2_2 pn2_2 pc2_2)]), (.slice pa3_0 pn3_0 pc3_0), (vI x4)] w0 (Q_impl_fileReader_items w0 B S2_1 S2_2 res) := ((A_impl_fileReader_value n).2.2.1).run
theorem W_impl_fileReader_choice : ∀ {x1 : FileReader} {b1 o1 : Nat} {x2 : Rule} {x3 : Int} {res : Val × Int × (Option (Int × Int))} (hm : (F_impl_fileReader_value n).impl_fileReader_choice x1 x2 x3 = some res) (hBw : B ≤ w0.heap.size) (p1_0 : repS w0 B (.slice pa1_0 pn1_0 pc1_0) x1.d.rules) (p1_1 : repS w0 B (.slice pa1_1 pn1_1 pc1_1) x1.b) (hC1 : CellsAt w0 b1 o1 [(.slice pa1_0 pn1_0 pc1_0), (.slice pa1_1 pn1_1 pc1_1)]) (hC1b : b1 < B) (p2_0 : x2.name.b.length ≤ LEN) (p2_1 : inI x2.kind) (p2_2 : inI x2.size) (p2_4 : repS w0 B (.slice pa2_4 pn2_4 pc2_4) x2.bytes) (p2_5 : repS w0 B (.slice pa2_5 pn2_5 pc2_5) x2.names) (p2_6 : repS w0 B (.slice pa2_6 pn2_6 pc2_6) x2.tags) (p2_7 : repS w0 B (.slice pa2_7 pn2_7 pc2_7) x2.kids) (p3_0 : inI x3), CallsR prog 84 [(.pointer (some ⟨b1, o1, none⟩)), (.agg #[(Str.v x2.name), (vI x2.kind), (vI x2.size), (vB x2.little), (.slice pa2_4 pn2_4 pc2_4), (.slice pa2_5 pn2_5 pc2_5), (.slice pa2_6 pn2_6 pc2_6), (.slice pa2_7 pn2_7 pc2_7)]), (vI x3)] w0 (Q_impl_fileReader_choice w0 B res) := ((A_impl_fileReader_value n).2.2.2.1).run
theorem W_impl_fileReader_option : ∀ {x1 : FileReader} {b1 o1 : Nat} {x2 : Rule} {x3 : Int} {res : Val × Int × (Option (Int × Int))} (hm : (F_impl_fileReader_value n).impl_fileReader_option x1 x2 x3 = some res) (hBw : B ≤ w0.heap.size) (p1_0 : repS w0 B (.slice pa1_0 pn1_0 pc1_0) x1.d.rules) (p1_1 : repS w0 B (.slice pa1_1 pn1_1 pc1_1) x1.b) (hC1 : CellsAt w0 b1 o1 [(.slice pa1_0 pn1_0 pc1_0), (.slice pa1_1 pn1_1 pc1_1)]) (hC1b : b1 < B) (p2_0 : x2.name.b.length ≤ LEN) (p2_1 : inI x2.kind) (p2_2 : inI x2.size) (p2_4 : repS w0 B (.slice pa2_4 pn2_4 pc2_4) x2.bytes) (p2_5 : repS w0 B (.slice pa2_5 pn2_5 pc2_5) x2.names) (p2_6 : repS w0 B (.slice pa2_6 pn2_6 pc2_6) x2.tags) (p2_7 : repS w0 B (.slice pa2_7 pn2_7 pc2_7) x2.kids) (p3_0 : inI x3), CallsR prog 85 [(.pointer (some ⟨b1, o1, none⟩)), (.agg #[(Str.v x2.name), (vI x2.kind), (vI x2.size), (vB x2.little), (.slice pa2_4 pn2_4 pc2_4), (.slice pa2_5 pn2_5 pc2_5), (.slice pa2_6 pn2_6 pc2_6), (.slice pa2_7 pn2_7 pc2_7)]), (vI x3)] w0 (Q_impl_fileReader_option w0 B res) := ((A_impl_fileReader_value n).2.2.2.2.1).run
theorem W_impl_fileReader_checked : ∀ {x1 : FileReader} {b1 o1 : Nat} {x2 : Rule} {x3 : Int} {res : Val × Int × (Option (Int × Int))} (hm : (F_impl_fileReader_value n).impl_fileReader_checked x1 x2 x3 = some res) (hBw : B ≤ w0.heap.size) (p1_0 : repS w0 B (.slice pa1_0 pn1_0 pc1_0) x1.d.rules) (p1_1 : repS w0 B (.slice pa1_1 pn1_1 pc1_1) x1.b) (hC1 : CellsAt w0 b1 o1 [(.slice pa1_0 pn1_0 pc1_0), (.slice pa1_1 pn1_1 pc1_1)]) (hC1b : b1 < B) (p2_0 : x2.name.b.length ≤ LEN) (p2_1 : inI x2.kind) (p2_2 : inI x2.size) (p2_4 : repS w0 B (.slice pa2_4 pn2_4 pc2_4) x2.bytes) (p2_5 : repS w0 B (.slice pa2_5 pn2_5 pc2_5) x2.names) (p2_6 : repS w0 B (.slice pa2_6 pn2_6 pc2_6) x2.tags) (p2_7 : repS w0 B (.slice pa2_7 pn2_7 pc2_7) x2.kids) (p3_0 : inI x3), CallsR prog 86 [(.pointer (some ⟨b1, o1, none⟩)), (.agg #[(Str.v x2.name), (vI x2.kind), (vI x2.size), (vB x2.little), (.slice pa2_4 pn2_4 pc2_4), (.slice pa2_5 pn2_5 pc2_5), (.slice pa2_6 pn2_6 pc2_6), (.slice pa2_7 pn2_7 pc2_7)]), (vI x3)] w0 (Q_impl_fileReader_checked w0 B res) := ((A_impl_fileReader_value n).2.2.2.2.2).run

def Q_impl_ReadValue (w0 : World) (B : Nat) (r : Val × Int × Int) (v : Value) (w' : World) : Prop := Below w0.heap.size w0 w' ∧ un3 (fun r1 r2 r3 => ∃ (a1 : Option Addr) (n1 c1 : Nat) (S1 : List Nat) (a2 : Option Addr) (n2 c2 : Nat) (S2 : List Nat), v = .tuple #[(.agg #[vI r1.number, .slice a1 n1 c1, .slice a2 n2 c2]), (vI r2), (vI r3)] ∧ inI r1.number ∧ ownS w' S1 (.slice a1 n1 c1) r1.bytes ∧ ownS w' S2 (.slice a2 n2 c2) r1.items ∧ inI r2 ∧ inI r3 ∧ (S1 ++ S2).Nodup ∧ (∀ k ∈ (S1 ++ S2), w0.heap.size ≤ k)) r
theorem W_impl_ReadValue {x1 : Desc} {x2 : Int} {x3 : List UInt8} {x4 : Int} {res : Val × Int × Int} (hm : M_impl_ReadValue n x1 x2 x3 x4 = some res) (hBw : B ≤ w0.heap.size) (hG : Gl w0 B) (p1_0 : repS w0 B (.slice pa1_0 pn1_0 pc1_0) x1.rules) (p2_0 : inI x2) (p3_0 : repS w0 B (.slice pa3_0 pn3_0 pc3_0) x3) (p4_0 : inI x4) : CallsR prog 53 [(.agg #[(.slice pa1_0 pn1_0 pc1_0)]), (vI x2), (.slice pa3_0 pn3_0 pc3_0), (vI x4)] w0 (Q_impl_ReadValue w0 B res) := by
 unfold M_impl_ReadValue at hm
 obtain ⟨fn, hf, hb, hN, hr⟩ := fnE func53
 refine goW hf (hb.trans z) (hN.trans z) (lb z) (Ws (E z (fb z) ?_))
 rintro _ w1c ⟨rfl, h20⟩
 have h10 := h20.below
 have h21 : Blk w1c w0.heap.size [(.slice pa1_0 pn1_0 pc1_0)] := h20.blk
 refine E z (fa zero_74) ?_
 rintro _ w1p ⟨rfl, h22⟩
 have h12 := h22.below
 have h15 : Blk w1p w1c.heap.size [(vI 0), (.slice none 0 0), (.slice none 0 0)] := h22.blk
 refine Ra z (Ra z (Wn (Wq (Wq ?_))))
 obtain ⟨u2s, hu2t, hm23⟩ := bdS hm
 refine WC_cut (fun a w => ∃ (x1q : Bool), x1q = u2s ∧ Sat 62 [(1, (vI x2)), (2, (.slice pa3_0 pn3_0 pc3_0)), (3, (vI x4)), (4, (.pointer (some ⟨w0.heap.size, 0, none⟩))), (8, (.pointer (some ⟨w1c.heap.size, 0, none⟩))), (34, (vB x1q))] a ∧ Below w1p.heap.size w1p w) ?_ ?_
 ·refine Wg (R z (lN (vs := [(.slice pa1_0 pn1_0 pc1_0)]) g_34 z_34 z z fid ((h21.ext h12).row 0 1 z)) (Rm z ?_))
  obtain ⟨r2u, e2v, hm24⟩ := bdS hu2t
  refine E z (fc call69 z (W_impl_known (B := B) e2v (lt_ hBw (lt_ h10.size h12.size)) ((p1_0.ext h10).ext h12) p2_0)) ?_
  rintro _ w3p ⟨s1d, rfl⟩
  refine R z (not_ z) (Rm z ?_)
  rcases bs (!r2u) with hc19 | hc19
  ·exact Nh z hc19 (Nh z hc19 (R z (pT z hc19 z) (Rm z (Nh z z (Nh z z (Nh z z (Nh z z (R z (pT z z z) (Rm z (Nh z z (Nh z z (Nh z z (R z (pT z z z) (Wl (fun _ q => ⟨true, som (ifT hm24 hc19), (q.k (s6 z z z z z z)), s1d⟩)))))))))))))))
  have hm25 := ifF hm24 hc19
  refine Rh z hc19 (mv z) (Rh z hc19 (lss z z) (R z (pF z hc19 z) (Rm z ?_)))
  rcases bs (decide (x4 < 0)) with hc16 | hc16
  ·iterate 4 refine Nh z hc16 ?_
   exact R z (pT z hc16 z) (Rm z (Nh z z (Nh z z (Nh z z (R z (pT z z z) (Wl (fun _ q => ⟨true, som (ifT hm25 hc16), (q.k (s6 z z z z z z)), s1d⟩)))))))
  have hm26 := ifF hm25 hc16
  refine Rh z hc16 (mv z) (Rh z hc16 (mv z) ?_)
  have h27 := ((p3_0.ext h10).ext h12).ext s1d
  refine Rh z hc16 (lnR d_26 z h27) (Rh z hc16 (rd_gtr z z) (R z (pF z hc16 z) (Rm z ?_)))
  rcases bs (decide ((x3.length : Int) < x4)) with hc1a | hc1a
  ·iterate 3 refine Nh z hc1a ?_
   exact R z (pT z hc1a z) (Wl (fun _ q => ⟨true, som (ifT hm26 hc1a), (q.k (s6 z z z z z z)), s1d⟩))
  exact Rh z hc1a (mv z) (Rh z hc1a (lnR d_26 z h27) (Rh z hc1a (rd_gtr z z) (R z (pF z hc1a z) (Wl (fun _ q => ⟨decide (400 < (x3.length : Int)), som (ifF hm26 hc1a), (q.k (s6 z z z z z z)), s1d⟩)))))
 rintro a2w w2x ⟨x1q, rfl, hS3q, s11⟩
 revert a2w
 refine Wo (Wc z (fun hc1r => ?_) (fun hc1r => ?_))
 ·refine Ws (R z (bP (parts := []) (cs := [(vI 0), (.slice none 0 0), (.slice none 0 0)]) build_74 z z) (E0 (fs (cur' := [(vI 0), (.slice none 0 0), (.slice none 0 0)]) z_74 z z (h15.ext s11) z (lb z) (oA z) z) ?_))
  rintro _ w3r ⟨h2y, s2z⟩
  refine Ra z (Ra z (Wn ?_))
  obtain rfl := som (ifT hm23 hc1r)
  exact Wr (ret3 hr (resC g_74 z_74 z h2y z) z z ⟨(bM (bup (bup h10 h12) s11) s2z.one (mem1le h10.size)), none, 0, 0, [], none, 0, 0, [], z, (ii z), onL, onL, (ii z), (ii z), nd0, al0⟩)
 refine Wk (Ws (R z (lN (vs := [(.slice pa1_0 pn1_0 pc1_0)]) g_34 z_34 z z fid (((h21.ext h12).ext s11).row 0 1 z)) (Rm z (R z (bP (parts := [(0, (.tmp 36)), (1, (.tmp 37))]) (cs := [(.slice pa1_0 pn1_0 pc1_0), (.slice pa3_0 pn3_0 pc3_0)]) build_108 z z) (E z (fb z) ?_)))))
 rintro _ w28 ⟨rfl, h29⟩
 have h17 := h29.below
 have h2a : Blk w28 w2x.heap.size [(.slice pa1_0 pn1_0 pc1_0), (.slice pa3_0 pn3_0 pc3_0)] := h29.blk
 refine Ra z (Wn (Ws (Rm z (Rm z (Rm z ?_)))))
 have h1e := lt_ (lt_ (lt_ h10.size h12.size) s11.size) h17.size
 have h2b := lt_ hBw h1e
 obtain ⟨r1s, r3s, r30, e31, hm2c⟩ := bd3S (ifF hm23 hc1r)
 refine E z (fc call70 z (W_impl_fileReader_value (B := w28.heap.size) e31 lr (repS.mono ((((p1_0.ext h10).ext h12).ext s11).ext h17) h2b) (repS.mono ((((p3_0.ext h10).ext h12).ext s11).ext h17) h2b) (h2a.row 0 2 z) h2a.lt p2_0 p4_0)) ?_
 rintro _ w32 ⟨s1b, a1g, n1h, c1i, S33, a1j, n1k, c1l, S34, v3t, S3u, rfl, h35, h2d, h2e, h36, h1t, h37, h1u, h1m⟩
 refine Rm z ?_
 iterate 3 refine R z (ext_ z z) ?_
 refine E z (fa zero_74) ?_
 rintro _ w38 ⟨rfl, h2f⟩
 have h13 := h2f.below
 have h39 : Blk w38 w32.heap.size [(vI 0), (.slice none 0 0), (.slice none 0 0)] := h2f.blk
 refine E0 (fs (cur' := [(vI r1s.number), (.slice a1g n1h c1i), (.slice a1j n1k c1l)]) z_74 z z h39 z (lb z) (oA z) z) ?_
 rintro _ w2g ⟨h3a, s3b⟩
 have h14 := s3b.one
 refine Ra z (Ra z (Wn (Ws (E z (fa zero_113) ?_))))
 rintro _ w3c ⟨rfl, h2h⟩
 have h18 := h2h.below
 have h2i : Blk w3c w2g.heap.size [(.pointer none)] := h2h.blk
 refine Wn (Wq (Ws (Rm z (R z (rd_makeIface d_115 (fun _ h => by cases h) z) ?_))))
 have h2j := ((h1t.ext h13).chg h14 (dj_symm (mnr (errR.lt h1t)))).ext h18
 rcases bs (r30.isSome) with hc1n | hc1n
 ·obtain ⟨r3v, r3w, e3d, hm3e⟩ := bd2S (ifT hm2c hc1n)
  have h1v := lt_ h1e s1b.size
  refine E z (fc call71 z (W_As_some ((((((((hG.ext h10).ext h12).ext s11).ext h17).ext s1b).ext h13).chg h14 (lg (mem1le (lt_ hBw h1v)))).ext h18) h2j e3d h2i)) ?_
  rintro _ w3x ⟨g2k, rfl, s3f, h3g, h3h, h2l, h3i, h3j⟩
  have h1w := s3f.one
  refine Wn (Wc z (fun _ => ?_) (fun hc => (bcon z hc).elim))
  refine Wq (WC_draw (X := (· ∈ [w1c.heap.size])) 0 (.rd 0 (.rd 1 (.rd 2 (.rd 3 (.rd 4 (.rd 5 (.rd 6 (.rd 7 (.rd 8 (.ef 9 (.rd 10 (.rd 11 .done)))))))))))) mo (by kernel_rfl) fun w3y s1o _ => dR z z (bP (parts := []) (cs := [(vI 0), (.slice none 0 0), (.slice none 0 0)]) build_74 z z) ?_)
  have h2m := h3g.ext s1o
  have h2n := lt_ s11.size h17.size
  have h2o := lt_ h2n s1b.size
  have h2p := lt_ (lt_ h2o h13.size) h14.size
  have h1x := mm1 h15.lt h2p
  refine dR z z (l1 g_113 z (atp h1x) (h2m.at z)) (dR z z (rd_nil z) (dR z z (fd f_117_0 z) ?_))
  have h3k : ∀ k ∈ [g2k], k ∉ [w2g.heap.size] := or1 (mem1 (.inl h2l)) (dj_symm (mno (errR.lt h1t) (lt_ h13.size h14.size))) (ltnot (mem1 h2i.lt) lr)
  have h2q := (h3h.chg h1w (atp h3k)).ext s1o
  have h2r : ∀ k ∈ [g2k], k ∉ [w1c.heap.size] := or1 (mem1 (.inl h2l)) (o0n1 h37 h15.lt h2n) (ltnot (mem1 h15.lt) (lt_ h2p h18.size))
  refine dR z z (l1 g_3 z (atp h2r) (h2q.at z)) (dR z z (l1 g_113 z (atp h1x) (h2m.at z)) (dR z z (rd_nil z) (dR z z (fd f_117_1 z) (dR z z (l1 g_3 z (atp h2r) (h2q.at z)) (dE0 z (fs (cur' := [(vI 0), (.slice none 0 0), (.slice none 0 0)]) z_74 z z ((((((((h15.ext s11).ext h17).ext s1b).ext h13).chg h14 (djs (mm1 h15.lt h2o))).ext h18).chg h1w (djs h1x)).ext s1o) z (lb z) (oA z) z) (.inr fun _ _ h => chgIn (List.mem_singleton.2 z) h.2) ?_)))))
  rintro _ w3z ⟨h3l, s3m⟩
  refine dR z z (asg z) (dR z z (asg z) (PR_done (Wo ?_)))
  obtain rfl := som hm3e
  exact Wr (ret3 hr (resC g_74 z_74 z h3l z) z z ⟨(bM (bup (bM (bup (bM (bup (bup (bup (bup (bup h10 h12) s11) h17) s1b) h13) h14 (mem1le h1v)) h18) h1w (mem1le (lt_ (lt_ h1v h13.size) h14.size))) s1o) s3m.one (mem1le h10.size)), none, 0, 0, [], none, 0, 0, [], z, (ii z), onL, onL, h3i, h3j, nd0, al0⟩)
 refine E z (fc call71 z (W_As_none h2j hc1n)) ?_
 rintro _ w40 ⟨rfl, s1f⟩
 refine Wn (Wc z (fun hc => (bcon hc z).elim) (fun _ => ?_))
 refine Wk (Ws (R z (lN (vs := [(vI r1s.number), (.slice a1g n1h c1i), (.slice a1j n1k c1l)]) g_74 z_74 z z fid (((h3a.ext h18).ext s1f).row 0 3 z)) (Rm z ?_)))
 have h1y := lt_ s11.size h17.size
 refine E0 (fs (cur' := [(vI r1s.number), (.slice a1g n1h c1i), (.slice a1j n1k c1l)]) z_74 z z (((((((h15.ext s11).ext h17).ext s1b).ext h13).chg h14 (djs (mm1 h15.lt (lt_ h1y s1b.size)))).ext h18).ext s1f) z (lb z) (oA z) z) ?_
 rintro _ w41 ⟨h3n, s3o⟩
 have h1z := s3o.one
 refine Ra z (Ra z (Wn ?_))
 obtain rfl := som (ifF hm2c hc1n)
 exact Wr (ret3 hr (resC g_74 z_74 z h3n z) z z ⟨(bM (bup (bup (bM (bup (bup (bup (bup (bup h10 h12) s11) h17) s1b) h13) h14 (mem1le (lt_ h1e s1b.size))) h18) s1f) h1z (mem1le h10.size)), a1g, n1h, c1i, S33, a1j, n1k, c1l, S34, z, h35, (((((h2d.ext h13).chg h14 (dj_symm (mnr (ownS.lt h2d)))).ext h18).ext s1f).chg h1z (o0n1 (all_left h1m) h15.lt h1y)), (((((h2e.ext h13).chg h14 (dj_symm (mnr (ownS.lt h2e)))).ext h18).ext s1f).chg h1z (o0n1 (all_right h1m) h15.lt h1y)), h36, (ii z), (nd_app (nd_left h1u) (nd_right h1u) (nd_dj h1u)), (all_app (o0le (all_left h1m) h1e) (o0le (all_right h1m) h1e))⟩)
def Q_impl_ReadFile (w0 : World) (B : Nat) (r : Val × Int × Int) (v : Value) (w' : World) : Prop := Below w0.heap.size w0 w' ∧ un3 (fun r1 r2 r3 => ∃ (a1 : Option Addr) (n1 c1 : Nat) (S1 : List Nat) (a2 : Option Addr) (n2 c2 : Nat) (S2 : List Nat), v = .tuple #[(.agg #[vI r1.number, .slice a1 n1 c1, .slice a2 n2 c2]), (vI r2), (vI r3)] ∧ inI r1.number ∧ ownS w' S1 (.slice a1 n1 c1) r1.bytes ∧ ownS w' S2 (.slice a2 n2 c2) r1.items ∧ inI r2 ∧ inI r3 ∧ (S1 ++ S2).Nodup ∧ (∀ k ∈ (S1 ++ S2), w0.heap.size ≤ k)) r
end Go.Vw

