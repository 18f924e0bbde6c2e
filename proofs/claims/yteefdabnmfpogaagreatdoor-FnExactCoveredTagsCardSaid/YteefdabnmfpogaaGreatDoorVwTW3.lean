import Derived.Test.YteefdabnmfpogaaGreatDoorVwTW2
set_option linter.unusedVariables false
namespace Go.Vw
open Go.RowKit Dat Go.Proofs
open Go.Proofs.Tryz
open Go.Vw renaming WC_seq → Wq, WC_region → Wg, WC.of_KC → Wo, WL_nil → Wl, WC_cond → Wc, WC_ret → Wr, WC_run → Wu, rd_pickT → pT, rd_pickF → pF, rd_field → fd, rd_load1 → l1, rd_loadN → lN, rd_move → mv, rd_assign → asg, rd_lenR → lnR, rd_lss → lss, rd_eql → eql, rd_extract → ext_, rd_buildP → bP, rd_add → add_, rd_inc → inc_, rd_not → not_, rd_at → at_, ef_call → fc, ef_store → fs, ef_box → fb, ef_alloc → fa, sub_refl → sr, crefl → cr, cchgM → cM, bchgM → bM, inI_sub → iS, inI_add → iA, brefl → br, oneAll → oA, bsplit → bs, ltge → lg, inor → io, rd_neq → nq, rd_lenT → lnT, rd_sub → sb_
variable {pa1_0 : Option Addr} {pn1_0 pc1_0 : Nat} {B : Nat} {w0 : World} {pa1_4 : Option Addr} {pa1_5 : Option Addr} {pa1_6 : Option Addr} {pa1_7 : Option Addr} {pn1_4 pc1_4 : Nat} {pn1_5 pc1_5 : Nat} {pn1_6 pc1_6 : Nat} {pn1_7 pc1_7 : Nat} {pa2_4 : Option Addr} {pa2_5 : Option Addr} {pa2_6 : Option Addr} {pa2_7 : Option Addr} {pn2_4 pc2_4 : Nat} {pn2_5 pc2_5 : Nat} {pn2_6 pc2_6 : Nat} {pn2_7 pc2_7 : Nat} {pa3_0 : Option Addr} {pn3_0 pc3_0 : Nat} {pa2_0 : Option Addr} {pn2_0 pc2_0 : Nat} {n : Nat} {pa1_1 : Option Addr} {pn1_1 pc1_1 : Nat} {pa3_1 : Option Addr} {pa3_2 : Option Addr} {pn3_1 pc3_1 : Nat} {pn3_2 pc3_2 : Nat}
structure S_impl_checker_array (f : Checker → Rule → Int → Option (Spot × Int)) : Prop where
  run : ∀ {B pn1_0 pc1_0 pn1_1 pc1_1 g1 pn2_4 pc2_4 pn2_5 pc2_5 pn2_6 pc2_6 pn2_7 pc2_7 : Nat} {pa1_0 pa1_1 pa2_4 pa2_5 pa2_6 pa2_7 : Option Addr} {x1 : Checker} {x2 : Rule} {x3 : Int} {res : Spot × Int} {w0 : World} (hm : f x1 x2 x3 = some res) (hB1 : Blk w0 g1 [(.slice pa1_0 pn1_0 pc1_0), (.slice pa1_1 pn1_1 pc1_1), (vI x1.applied)]) (hBw : B ≤ g1) (p1_0 : repS w0 B (.slice pa1_0 pn1_0 pc1_0) x1.d.rules) (p1_1 : repS w0 B (.slice pa1_1 pn1_1 pc1_1) x1.b) (p1_2 : inI x1.applied) (p2_0 : x2.name.b.length ≤ LEN) (p2_1 : inI x2.kind) (p2_2 : inI x2.size) (p2_4 : repS w0 B (.slice pa2_4 pn2_4 pc2_4) x2.bytes) (p2_5 : repS w0 B (.slice pa2_5 pn2_5 pc2_5) x2.names) (p2_6 : repS w0 B (.slice pa2_6 pn2_6 pc2_6) x2.tags) (p2_7 : repS w0 B (.slice pa2_7 pn2_7 pc2_7) x2.kids) (p3_0 : inI x3), CallsR prog 155 [(.pointer (some ⟨g1, 0, none⟩)), (.agg #[(Str.v x2.name), (vI x2.kind), (vI x2.size), (vB x2.little), (.slice pa2_4 pn2_4 pc2_4), (.slice pa2_5 pn2_5 pc2_5), (.slice pa2_6 pn2_6 pc2_6), (.slice pa2_7 pn2_7 pc2_7)]), (vI x3)] w0 (Q_impl_checker_array w0 g1 B pa1_0 pn1_0 pc1_0 pa1_1 pn1_1 pc1_1 x1 res)
structure S_impl_checker_choice (f : Checker → Rule → Int → Option (Spot × Int)) : Prop where
  run : ∀ {B pn1_0 pc1_0 pn1_1 pc1_1 g1 pn2_4 pc2_4 pn2_5 pc2_5 pn2_6 pc2_6 pn2_7 pc2_7 : Nat} {pa1_0 pa1_1 pa2_4 pa2_5 pa2_6 pa2_7 : Option Addr} {x1 : Checker} {x2 : Rule} {x3 : Int} {res : Spot × Int} {w0 : World} (hm : f x1 x2 x3 = some res) (hB1 : Blk w0 g1 [(.slice pa1_0 pn1_0 pc1_0), (.slice pa1_1 pn1_1 pc1_1), (vI x1.applied)]) (hBw : B ≤ g1) (p1_0 : repS w0 B (.slice pa1_0 pn1_0 pc1_0) x1.d.rules) (p1_1 : repS w0 B (.slice pa1_1 pn1_1 pc1_1) x1.b) (p1_2 : inI x1.applied) (p2_0 : x2.name.b.length ≤ LEN) (p2_1 : inI x2.kind) (p2_2 : inI x2.size) (p2_4 : repS w0 B (.slice pa2_4 pn2_4 pc2_4) x2.bytes) (p2_5 : repS w0 B (.slice pa2_5 pn2_5 pc2_5) x2.names) (p2_6 : repS w0 B (.slice pa2_6 pn2_6 pc2_6) x2.tags) (p2_7 : repS w0 B (.slice pa2_7 pn2_7 pc2_7) x2.kids) (p3_0 : inI x3), CallsR prog 156 [(.pointer (some ⟨g1, 0, none⟩)), (.agg #[(Str.v x2.name), (vI x2.kind), (vI x2.size), (vB x2.little), (.slice pa2_4 pn2_4 pc2_4), (.slice pa2_5 pn2_5 pc2_5), (.slice pa2_6 pn2_6 pc2_6), (.slice pa2_7 pn2_7 pc2_7)]), (vI x3)] w0 (Q_impl_checker_choice w0 g1 B pa1_0 pn1_0 pc1_0 pa1_1 pn1_1 pc1_1 x1 res)
structure S_impl_checker_option (f : Checker → Rule → Int → Option (Spot × Int)) : Prop where
  run : ∀ {B pn1_0 pc1_0 pn1_1 pc1_1 g1 pn2_4 pc2_4 pn2_5 pc2_5 pn2_6 pc2_6 pn2_7 pc2_7 : Nat} {pa1_0 pa1_1 pa2_4 pa2_5 pa2_6 pa2_7 : Option Addr} {x1 : Checker} {x2 : Rule} {x3 : Int} {res : Spot × Int} {w0 : World} (hm : f x1 x2 x3 = some res) (hB1 : Blk w0 g1 [(.slice pa1_0 pn1_0 pc1_0), (.slice pa1_1 pn1_1 pc1_1), (vI x1.applied)]) (hBw : B ≤ g1) (p1_0 : repS w0 B (.slice pa1_0 pn1_0 pc1_0) x1.d.rules) (p1_1 : repS w0 B (.slice pa1_1 pn1_1 pc1_1) x1.b) (p1_2 : inI x1.applied) (p2_0 : x2.name.b.length ≤ LEN) (p2_1 : inI x2.kind) (p2_2 : inI x2.size) (p2_4 : repS w0 B (.slice pa2_4 pn2_4 pc2_4) x2.bytes) (p2_5 : repS w0 B (.slice pa2_5 pn2_5 pc2_5) x2.names) (p2_6 : repS w0 B (.slice pa2_6 pn2_6 pc2_6) x2.tags) (p2_7 : repS w0 B (.slice pa2_7 pn2_7 pc2_7) x2.kids) (p3_0 : inI x3), CallsR prog 157 [(.pointer (some ⟨g1, 0, none⟩)), (.agg #[(Str.v x2.name), (vI x2.kind), (vI x2.size), (vB x2.little), (.slice pa2_4 pn2_4 pc2_4), (.slice pa2_5 pn2_5 pc2_5), (.slice pa2_6 pn2_6 pc2_6), (.slice pa2_7 pn2_7 pc2_7)]), (vI x3)] w0 (Q_impl_checker_option w0 g1 B pa1_0 pn1_0 pc1_0 pa1_1 pn1_1 pc1_1 x1 res)
structure S_impl_checker_checked (f : Checker → Rule → Int → Option (Spot × Int)) : Prop where
  run : ∀ {B pn1_0 pc1_0 pn1_1 pc1_1 g1 pn2_4 pc2_4 pn2_5 pc2_5 pn2_6 pc2_6 pn2_7 pc2_7 : Nat} {pa1_0 pa1_1 pa2_4 pa2_5 pa2_6 pa2_7 : Option Addr} {x1 : Checker} {x2 : Rule} {x3 : Int} {res : Spot × Int} {w0 : World} (hm : f x1 x2 x3 = some res) (hB1 : Blk w0 g1 [(.slice pa1_0 pn1_0 pc1_0), (.slice pa1_1 pn1_1 pc1_1), (vI x1.applied)]) (hBw : B ≤ g1) (p1_0 : repS w0 B (.slice pa1_0 pn1_0 pc1_0) x1.d.rules) (p1_1 : repS w0 B (.slice pa1_1 pn1_1 pc1_1) x1.b) (p1_2 : inI x1.applied) (p2_0 : x2.name.b.length ≤ LEN) (p2_1 : inI x2.kind) (p2_2 : inI x2.size) (p2_4 : repS w0 B (.slice pa2_4 pn2_4 pc2_4) x2.bytes) (p2_5 : repS w0 B (.slice pa2_5 pn2_5 pc2_5) x2.names) (p2_6 : repS w0 B (.slice pa2_6 pn2_6 pc2_6) x2.tags) (p2_7 : repS w0 B (.slice pa2_7 pn2_7 pc2_7) x2.kids) (p3_0 : inI x3), CallsR prog 158 [(.pointer (some ⟨g1, 0, none⟩)), (.agg #[(Str.v x2.name), (vI x2.kind), (vI x2.size), (vB x2.little), (.slice pa2_4 pn2_4 pc2_4), (.slice pa2_5 pn2_5 pc2_5), (.slice pa2_6 pn2_6 pc2_6), (.slice pa2_7 pn2_7 pc2_7)]), (vI x3)] w0 (Q_impl_checker_checked w0 g1 B pa1_0 pn1_0 pc1_0 pa1_1 pn1_1 pc1_1 x1 res)
abbrev I_impl_checker_value (n : Nat) : Prop := S_impl_checker_value (F_impl_checker_value n).impl_checker_value ∧ S_impl_checker_array (F_impl_checker_value n).impl_checker_array ∧ S_impl_checker_choice (F_impl_checker_value n).impl_checker_choice ∧ S_impl_checker_option (F_impl_checker_value n).impl_checker_option ∧ S_impl_checker_checked (F_impl_checker_value n).impl_checker_checked
theorem T_impl_checker_value (ih : I_impl_checker_value n) : S_impl_checker_value (B_impl_checker_value n (F_impl_checker_value n)) := by
 obtain ⟨ih0, ih1, ih2, ih3, ih4⟩ := ih
 constructor
 intro B pn1_0 pc1_0 pn1_1 pc1_1 g1 pa1_0 pa1_1 x1 x2 x3 res w0 hm hB1 hBw p1_0 p1_1 p1_2 p2_0 p3_0
 unfold B_impl_checker_value at hm
 obtain ⟨fn, hf, hb, hN, hr⟩ := fnE func134
 refine goW hf (hb.trans z) (hN.trans z) (lb z) (Ws (E z (fa zero_174) ?_))
 rintro _ w17 ⟨rfl, h3r⟩
 have h13 := h3r.below
 have h16 : Blk w17 w0.heap.size [(vI 0), (vI 0)] := h3r.blk
 refine Wn (Ws (Rm z (R z (rd_nil z) (R z (fd f_172_0 z) (R z (fd f_31_0 z) ?_)))))
 have h2r := hB1.ext h13
 refine R z (l1 g_29 z fid (h2r.at z)) (Rm z ?_)
 obtain ⟨x14, e5y, hm3s⟩ := bdS hm
 have h1c := p1_0.ext h13
 refine RX z (at_ (α := Rule) d_29 z_74 z z z h1c e5y) ?_
 rintro _ ⟨b130, o131, cs132, rfl, h5z, h60, h133⟩
 obtain ⟨a1p, n1q, c1r, a1s, n1t, c1u, a1v, n1w, c1x, a1d, n1e, c1f, rfl, h2c, h2d, h20, h21, h2e, h2f, h1n⟩ := Rule_open h60
 refine R z (lN (vs := [(Str.v x14.name), (vI x14.kind), (vI x14.size), (vB x14.little), (.slice a1p n1q c1r), (.slice a1s n1t c1u), (.slice a1v n1w c1x), (.slice a1d n1e c1f)]) g_74 z_74 z z fid h5z) (E z (fa zero_74) ?_)
 rintro _ w19 ⟨rfl, h3t⟩
 have h11 := h3t.below
 have h3u : Blk w19 w17.heap.size [(Str.v (⟨[]⟩ : Str)), (vI 0), (vI 0), (vB false), (.slice none 0 0), (.slice none 0 0), (.slice none 0 0), (.slice none 0 0)] := h3t.blk
 refine E0 (fs (cur' := [(Str.v x14.name), (vI x14.kind), (vI x14.size), (vB x14.little), (.slice a1p n1q c1r), (.slice a1s n1t c1u), (.slice a1v n1w c1x), (.slice a1d n1e c1f)]) z_74 z z h3u z (lb z) (oA z) z) ?_
 rintro _ w1a ⟨h3v, s61⟩
 have h10 := s61.one
 refine Wn (Wq (Ws (R z (fd f_74_1 z) (R z (l1 g_3 z fid (h3v.at z)) (R z (eql z z) (Wn (Wc z (fun hc2s => ?_) (fun hc2s => ?_))))))))
 ·refine Ws (Rm z (Rm z (Rm z ?_)))
  have h3w := mem1le (lt_ (lt_ hBw (Nat.le_of_lt (Blk.lt hB1))) h13.size)
  obtain ⟨r134, r22, r135, e62, hm63⟩ := bd3S (ifT hm3s hc2s)
  refine E z (fc call152 z (W_impl_checker_number (B := B) e62 ((h2r.ext h11).chg h10 (djs (mm1 (Blk.lt hB1) h13.size))) hBw ((h1c.ext h11).chg h10 (lg h3w)) (((p1_1.ext h13).ext h11).chg h10 (lg h3w)) p1_2 p2_0 p3_0)) ?_
  rintro _ w2t ⟨s2l, rfl, h136, h64, h65, h66, h67⟩
  refine Rm z (R z (ext_ z z) (R z (ext_ z z) (E z (fa zero_174) ?_)))
  rintro _ w3x ⟨rfl, h3y⟩
  have h2u := h3y.below
  have h68 : Blk w3x w2t.heap.size [(vI 0), (vI 0)] := h3y.blk
  refine Ra z (E0 (fs (cur' := [(vI r22.at_), (vI r22.code)]) z_174 z z h68 z (lb z) (oA z) z) ?_)
  rintro _ w69 ⟨h6a, s6b⟩
  have h2v := s6b.one
  refine Wn (Ws (R z (lN (vs := [(vI r22.at_), (vI r22.code)]) g_174 z_174 z z fid (h6a.row 0 2 z)) ?_))
  have h3z := mmr (Blk.lt hB1)
  have h6c := ((((h16.ext h11).chg h10 (djs (mmr h16.lt))).chg s2l (atp h3z)).ext h2u).chg h2v (djs (mm1 h16.lt (lt_ (lt_ h11.size h10.size) s2l.size)))
  refine E0 (fs (cur' := [(vI r22.at_), (vI r22.code)]) z_174 z z h6c z (lb z) (oA z) z) ?_
  rintro _ w6d ⟨h6e, s6f⟩
  have h40 := s6f.one
  refine Wn ?_
  obtain rfl := som hm63
  have h6g : Chg (· ∈ [g1]) w0 w17 := cext (cr [g1] w0) h13
  have h6h : Chg (· ∈ [g1]) w0 w19 := cext h6g h11
  have h6i : ∀ k ∈ [w17.heap.size], k ∈ [g1] ∨ w0.heap.size ≤ k := mor h13.size
  have h6j : Chg (· ∈ [g1]) w0 w1a := cM h6h h10 h6i
  have h6k : Chg (· ∈ [g1]) w0 w2t := cM h6j s2l (io sr)
  have h6l : Chg (· ∈ [g1]) w0 w3x := cext h6k h2u
  have h41 := lt_ (lt_ (lt_ h13.size h11.size) h10.size) s2l.size
  have h6m : ∀ k ∈ [w2t.heap.size], k ∈ [g1] ∨ w0.heap.size ≤ k := mor h41
  have h6n : Chg (· ∈ [g1]) w0 w69 := cM h6l h2v h6m
  have h6o : ∀ k ∈ [w0.heap.size], k ∈ [g1] ∨ w0.heap.size ≤ k := mor lr
  have h6p : Chg (· ∈ [g1]) w0 w6d := cM h6n h40 h6o
  exact Wr (ret1 hr (resC g_174 z_174 z h6e z) ⟨h6p, z, h64, h65, h66, (((h67.ext h2u).chg h2v (djs (mm1 (Blk.lt hB1) h41))).chg h40 (djs h3z))⟩)
 have hm42 := ifF hm3s hc2s
 refine Wk (Ws (Rm z (R z (rd_nil z) (R z (fd f_172_2 z) ?_))))
 have h43 := mm1 (Blk.lt hB1) h13.size
 have h44 := (h2r.ext h11).chg h10 (djs h43)
 refine R z (l1 g_3 z fid (h44.at z)) (R z (add_ z z) (R z (rd_nil z) (R z (fd f_172_2 z) (E0 (fs (cur' := [(.slice pa1_0 pn1_0 pc1_0), (.slice pa1_1 pn1_1 pc1_1), (vI (iadd x1.applied 1))]) z_3 z z h44 z (lb z) (oA z) z) ?_))))
 rintro _ w15 ⟨h1b, s6q⟩
 have h12 := s6q.one
 refine Wn (Wq (Ws (R z (fd f_74_1 z) ?_)))
 have h1g := h3v.chg h12 (atp h43)
 refine R z (l1 g_3 z fid (h1g.at z)) (Wn (WC_block (Ws (R z (eql z z) (Ra z (Wn (Wc z (fun hc2w => ?_) (fun hc2w => ?_))))))))
 ·refine Ws (Rm z (R z (lN (vs := [(Str.v x14.name), (vI x14.kind), (vI x14.size), (vB x14.little), (.slice a1p n1q c1r), (.slice a1s n1t c1u), (.slice a1v n1w c1x), (.slice a1d n1e c1f)]) g_74 z_74 z z fid (h1g.row 0 8 z)) (Rm z ?_)))
  have h23 := mem1le (lt_ (lt_ hBw (Nat.le_of_lt (Blk.lt hB1))) h13.size)
  obtain ⟨r45, e6r, hm6s⟩ := bdS (ifT hm42 hc2w)
  refine E z (fc call153 z (W_impl_checker_constant (B := w0.heap.size) e6r (lt_ (lt_ (lt_ h13.size h11.size) h10.size) h12.size) (repS.mono (((h1c.ext h11).chg h10 (lg h23)).chg h12 (lg (mem1 hBw))) (lt_ hBw (Nat.le_of_lt (Blk.lt hB1)))) (repS.mono ((((p1_1.ext h13).ext h11).chg h10 (lg h23)).chg h12 (lg (mem1 hBw))) (lt_ hBw (Nat.le_of_lt (Blk.lt hB1)))) (iA _ _) (h1b.row 0 3 z) (Blk.lt hB1) h2c h2d h20 (repS.mono (((h21.ext h11).chg h10 (lg h23)).chg h12 (lg (mem1 hBw))) (lt_ hBw (Nat.le_of_lt (Blk.lt hB1)))) (repS.mono (((h2e.ext h11).chg h10 (lg h23)).chg h12 (lg (mem1 hBw))) (lt_ hBw (Nat.le_of_lt (Blk.lt hB1)))) (repS.mono (((h2f.ext h11).chg h10 (lg h23)).chg h12 (lg (mem1 hBw))) (lt_ hBw (Nat.le_of_lt (Blk.lt hB1)))) (repS.mono (((h1n.ext h11).chg h10 (lg h23)).chg h12 (lg (mem1 hBw))) (lt_ hBw (Nat.le_of_lt (Blk.lt hB1)))) p3_0)) ?_
  rintro _ w6t ⟨s2x, rfl, h6u, h6v⟩
  have h46 := mmr (Blk.lt hB1)
  refine E0 (fs (cur' := [(vI r45.at_), (vI r45.code)]) z_174 z z ((((h16.ext h11).chg h10 (djs (mmr h16.lt))).chg h12 (atp h46)).ext s2x) z (lb z) (oA z) z) ?_
  rintro _ w6w ⟨h6x, s6y⟩
  have h47 := s6y.one
  refine Wn ?_
  obtain rfl := som hm6s
  have h6z : Chg (· ∈ [g1]) w0 w17 := cext (cr [g1] w0) h13
  have h70 : Chg (· ∈ [g1]) w0 w19 := cext h6z h11
  have h71 : ∀ k ∈ [w17.heap.size], k ∈ [g1] ∨ w0.heap.size ≤ k := mor h13.size
  have h72 : Chg (· ∈ [g1]) w0 w1a := cM h70 h10 h71
  have h73 : Chg (· ∈ [g1]) w0 w15 := cM h72 h12 (io sr)
  have h74 : Chg (· ∈ [g1]) w0 w6t := cext h73 s2x
  have h75 : ∀ k ∈ [w0.heap.size], k ∈ [g1] ∨ w0.heap.size ≤ k := mor lr
  have h76 : Chg (· ∈ [g1]) w0 w6w := cM h74 h47 h75
  exact Wr (rtO (ret1 hr (resC g_174 z_174 z h6x z) ⟨h76, z, h6u, h6v, (iA _ _), ((h1b.ext s2x).chg h47 (djs h46))⟩))
 have hm48 := ifF hm42 hc2w
 refine Ws (R z (eql z z) (Ra z (Wn (Wc z (fun hc2y => ?_) (fun hc2y => ?_)))))
 ·refine Ws (Rm z (Rm z (R z (fd f_74_2 z) (R z (l1 g_3 z fid (h1g.at z)) ?_))))
  have h49 := mem1le (lt_ (lt_ hBw (Nat.le_of_lt (Blk.lt hB1))) h13.size)
  obtain ⟨r4a, e77, hm78⟩ := bdS (ifT hm48 hc2y)
  refine E z (fc call154 z (W_impl_checker_skip (B := w0.heap.size) e77 (lt_ (lt_ (lt_ h13.size h11.size) h10.size) h12.size) (repS.mono (((h1c.ext h11).chg h10 (lg h49)).chg h12 (lg (mem1 hBw))) (lt_ hBw (Nat.le_of_lt (Blk.lt hB1)))) (repS.mono ((((p1_1.ext h13).ext h11).chg h10 (lg h49)).chg h12 (lg (mem1 hBw))) (lt_ hBw (Nat.le_of_lt (Blk.lt hB1)))) (iA _ _) (h1b.row 0 3 z) (Blk.lt hB1) p3_0 h20)) ?_
  rintro _ w79 ⟨s2z, rfl, h7a, h7b⟩
  have h4b := mmr (Blk.lt hB1)
  refine E0 (fs (cur' := [(vI r4a.at_), (vI r4a.code)]) z_174 z z ((((h16.ext h11).chg h10 (djs (mmr h16.lt))).chg h12 (atp h4b)).ext s2z) z (lb z) (oA z) z) ?_
  rintro _ w7c ⟨h7d, s7e⟩
  have h4c := s7e.one
  refine Wn ?_
  obtain rfl := som hm78
  have h7f : Chg (· ∈ [g1]) w0 w17 := cext (cr [g1] w0) h13
  have h7g : Chg (· ∈ [g1]) w0 w19 := cext h7f h11
  have h7h : ∀ k ∈ [w17.heap.size], k ∈ [g1] ∨ w0.heap.size ≤ k := mor h13.size
  have h7i : Chg (· ∈ [g1]) w0 w1a := cM h7g h10 h7h
  have h7j : Chg (· ∈ [g1]) w0 w15 := cM h7i h12 (io sr)
  have h7k : Chg (· ∈ [g1]) w0 w79 := cext h7j s2z
  have h7l : ∀ k ∈ [w0.heap.size], k ∈ [g1] ∨ w0.heap.size ≤ k := mor lr
  have h7m : Chg (· ∈ [g1]) w0 w7c := cM h7k h4c h7l
  exact Wr (rtO (ret1 hr (resC g_174 z_174 z h7d z) ⟨h7m, z, h7a, h7b, (iA _ _), ((h1b.ext s2z).chg h4c (djs h4b))⟩))
 have hm4d := ifF hm48 hc2y
 refine Ws (R z (eql z z) (Ra z (Wn (Wc z (fun hc30 => ?_) (fun hc30 => ?_)))))
 ·refine Ws (Rm z (R z (fd f_74_7 z) (R z (l1 g_72 z fid (h1g.at z)) ?_)))
  obtain ⟨x137, e7n, hm7o⟩ := bdS (ifT hm4d hc30)
  have h31 := mem1le (lt_ (lt_ hBw (Nat.le_of_lt (Blk.lt hB1))) h13.size)
  refine RX z (at_ (α := Int) d_72 z_3 z z z (((h1n.ext h11).chg h10 (lg h31)).chg h12 (lg (mem1 hBw))) e7n) ?_
  rintro _ ⟨b138, o139, cs13a, rfl, h7p, h7q, h13b⟩
  obtain ⟨rfl, h7r⟩ := Int_open h7q
  refine R z (l1 g_3 z fid (h7p.at0 z)) (Rm z ?_)
  have h4e := ((h1c.ext h11).chg h10 (lg h31)).chg h12 (lg (mem1 hBw))
  have h4f := (((p1_1.ext h13).ext h11).chg h10 (lg h31)).chg h12 (lg (mem1 hBw))
  obtain ⟨r13c, r24, r13d, e7s, hm4g⟩ := bd3S hm7o
  refine E z (fc call152 z (W_impl_checker_number (B := B) e7s h1b hBw h4e h4f (iA _ _) h7r p3_0)) ?_
  rintro _ w2g ⟨s1h, rfl, h7t, h4h, h7u, h32, h4i⟩
  refine Rm z (R z (ext_ z z) (R z (ext_ z z) (E z (fa zero_174) ?_)))
  rintro _ w33 ⟨rfl, h4j⟩
  have h1k := h4j.below
  have h7v : Blk w33 w2g.heap.size [(vI 0), (vI 0)] := h4j.blk
  refine Ra z (E0 (fs (cur' := [(vI r24.at_), (vI r24.code)]) z_174 z z h7v z (lb z) (oA z) z) ?_)
  rintro _ w4k ⟨h34, s7w⟩
  have h1l := s7w.one
  refine Wn (Wq (Ws (R z (fd f_174_1 z) (R z (l1 g_3 z fid (h34.at z)) (R z (nq z z) (Wn (Wc z (fun hc35 => ?_) (fun hc35 => ?_))))))))
  ·refine Ws (R z (lN (vs := [(vI r24.at_), (vI r24.code)]) g_174 z_174 z z fid (h34.row 0 2 z)) ?_)
   have h36 := mmr (Blk.lt hB1)
   have h7x := (((((h16.ext h11).chg h10 (djs (mmr h16.lt))).chg h12 (atp h36)).chg s1h (atp h36)).ext h1k).chg h1l (djs (mm1 h16.lt (lt_ (lt_ (lt_ h11.size h10.size) h12.size) s1h.size)))
   refine E0 (fs (cur' := [(vI r24.at_), (vI r24.code)]) z_174 z z h7x z (lb z) (oA z) z) ?_
   rintro _ w7y ⟨h7z, s80⟩
   have h4l := s80.one
   refine Wn ?_
   obtain rfl := som (ifT hm4g hc35)
   have h81 : Chg (· ∈ [g1]) w0 w17 := cext (cr [g1] w0) h13
   have h82 : Chg (· ∈ [g1]) w0 w19 := cext h81 h11
   have h83 : ∀ k ∈ [w17.heap.size], k ∈ [g1] ∨ w0.heap.size ≤ k := mor h13.size
   have h84 : Chg (· ∈ [g1]) w0 w1a := cM h82 h10 h83
   have h85 : Chg (· ∈ [g1]) w0 w15 := cM h84 h12 (io sr)
   have h86 : Chg (· ∈ [g1]) w0 w2g := cM h85 s1h (io sr)
   have h87 : Chg (· ∈ [g1]) w0 w33 := cext h86 h1k
   have h4m := lt_ (lt_ (lt_ (lt_ h13.size h11.size) h10.size) h12.size) s1h.size
   have h88 : ∀ k ∈ [w2g.heap.size], k ∈ [g1] ∨ w0.heap.size ≤ k := mor h4m
   have h89 : Chg (· ∈ [g1]) w0 w4k := cM h87 h1l h88
   have h8a : ∀ k ∈ [w0.heap.size], k ∈ [g1] ∨ w0.heap.size ≤ k := mor lr
   have h8b : Chg (· ∈ [g1]) w0 w7y := cM h89 h4l h8a
   exact Wr (rtO (ret1 hr (resC g_174 z_174 z h7z z) ⟨h8b, z, h4h, h7u, h32, (((h4i.ext h1k).chg h1l (djs (mm1 (Blk.lt hB1) h4m))).chg h4l (djs h36))⟩))
  refine Wk (Ws (Rm z (R z (fd f_174_0 z) (R z (l1 g_3 z fid (h34.at z)) (Rm z ?_)))))
  have h2m := lt_ (lt_ (lt_ (lt_ h13.size h11.size) h10.size) h12.size) s1h.size
  have h4n := (h4i.ext h1k).chg h1l (djs (mm1 (Blk.lt hB1) h2m))
  have h4o := mem1le (lt_ (lt_ hBw (Nat.le_of_lt (Blk.lt hB1))) h2m)
  obtain ⟨r4p, e8c, hm8d⟩ := bdS (ifF hm4g hc35)
  refine E z (fc call154 z (W_impl_checker_skip (B := w0.heap.size) e8c (lt_ (lt_ h2m h1k.size) h1l.size) (repS.mono (((h4e.chg s1h (lg (mem1 hBw))).ext h1k).chg h1l (lg h4o)) (lt_ hBw (Nat.le_of_lt (Blk.lt hB1)))) (repS.mono (((h4f.chg s1h (lg (mem1 hBw))).ext h1k).chg h1l (lg h4o)) (lt_ hBw (Nat.le_of_lt (Blk.lt hB1)))) h32 (h4n.row 0 3 z) (Blk.lt hB1) h4h h7t)) ?_
  rintro _ w8e ⟨s37, rfl, h8f, h8g⟩
  have h38 := mmr (Blk.lt hB1)
  have h8h := (((((h16.ext h11).chg h10 (djs (mmr h16.lt))).chg h12 (atp h38)).chg s1h (atp h38)).ext h1k).chg h1l (djs (mm1 h16.lt (lt_ (lt_ (lt_ h11.size h10.size) h12.size) s1h.size)))
  refine E0 (fs (cur' := [(vI r4p.at_), (vI r4p.code)]) z_174 z z (h8h.ext s37) z (lb z) (oA z) z) ?_
  rintro _ w8i ⟨h8j, s8k⟩
  have h4q := s8k.one
  refine Wn ?_
  obtain rfl := som hm8d
  have h8l : Chg (· ∈ [g1]) w0 w17 := cext (cr [g1] w0) h13
  have h8m : Chg (· ∈ [g1]) w0 w19 := cext h8l h11
  have h8n : ∀ k ∈ [w17.heap.size], k ∈ [g1] ∨ w0.heap.size ≤ k := mor h13.size
  have h8o : Chg (· ∈ [g1]) w0 w1a := cM h8m h10 h8n
  have h8p : Chg (· ∈ [g1]) w0 w15 := cM h8o h12 (io sr)
  have h8q : Chg (· ∈ [g1]) w0 w2g := cM h8p s1h (io sr)
  have h8r : Chg (· ∈ [g1]) w0 w33 := cext h8q h1k
  have h8s : ∀ k ∈ [w2g.heap.size], k ∈ [g1] ∨ w0.heap.size ≤ k := mor h2m
  have h8t : Chg (· ∈ [g1]) w0 w4k := cM h8r h1l h8s
  have h8u : Chg (· ∈ [g1]) w0 w8e := cext h8t s37
  have h8v : ∀ k ∈ [w0.heap.size], k ∈ [g1] ∨ w0.heap.size ≤ k := mor lr
  have h8w : Chg (· ∈ [g1]) w0 w8i := cM h8u h4q h8v
  exact Wr (rtO (ret1 hr (resC g_174 z_174 z h8j z) ⟨h8w, z, h8f, h8g, h32, ((h4n.ext s37).chg h4q (djs h38))⟩))
 have hm4r := ifF hm4d hc30
 refine Ws (R z (eql z z) (Ra z (Wn (Wc z (fun hc39 => ?_) (fun hc39 => ?_)))))
 ·refine Ws (Rm z (R z (lN (vs := [(Str.v x14.name), (vI x14.kind), (vI x14.size), (vB x14.little), (.slice a1p n1q c1r), (.slice a1s n1t c1u), (.slice a1v n1w c1x), (.slice a1d n1e c1f)]) g_74 z_74 z z fid (h1g.row 0 8 z)) (Rm z ?_)))
  have h25 := mem1le (lt_ (lt_ hBw (Nat.le_of_lt (Blk.lt hB1))) h13.size)
  obtain ⟨r4s, r13e, e8x, hm8y⟩ := bd2S (ifT hm4r hc39)
  refine E z (fc call155 z (ih1.run (B := B) e8x h1b hBw (((h1c.ext h11).chg h10 (lg h25)).chg h12 (lg (mem1 hBw))) ((((p1_1.ext h13).ext h11).chg h10 (lg h25)).chg h12 (lg (mem1 hBw))) (iA _ _) h2c h2d h20 (((h21.ext h11).chg h10 (lg h25)).chg h12 (lg (mem1 hBw))) (((h2e.ext h11).chg h10 (lg h25)).chg h12 (lg (mem1 hBw))) (((h2f.ext h11).chg h10 (lg h25)).chg h12 (lg (mem1 hBw))) (((h1n.ext h11).chg h10 (lg h25)).chg h12 (lg (mem1 hBw))) p3_0)) ?_
  rintro _ w8z ⟨s4t, rfl, h90, h91, h92, h93⟩
  have h3a := mmr (Blk.lt hB1)
  refine E0 (fs (cur' := [(vI r4s.at_), (vI r4s.code)]) z_174 z z ((((h16.ext h11).chg h10 (djs (mmr h16.lt))).chg h12 (atp h3a)).chg s4t (atp h3a)) z (lb z) (oA z) z) ?_
  rintro _ w94 ⟨h95, s96⟩
  have h4u := s96.one
  refine Wn ?_
  obtain rfl := som hm8y
  have h97 : Chg (· ∈ [g1]) w0 w17 := cext (cr [g1] w0) h13
  have h98 : Chg (· ∈ [g1]) w0 w19 := cext h97 h11
  have h99 : ∀ k ∈ [w17.heap.size], k ∈ [g1] ∨ w0.heap.size ≤ k := mor h13.size
  have h9a : Chg (· ∈ [g1]) w0 w1a := cM h98 h10 h99
  have h9b : Chg (· ∈ [g1]) w0 w15 := cM h9a h12 (io sr)
  have h9c : Chg (· ∈ [g1]) w0 w8z := cM h9b s4t (io sr)
  have h9d : ∀ k ∈ [w0.heap.size], k ∈ [g1] ∨ w0.heap.size ≤ k := mor lr
  have h9e : Chg (· ∈ [g1]) w0 w94 := cM h9c h4u h9d
  exact Wr (rtO (ret1 hr (resC g_174 z_174 z h95 z) ⟨h9e, z, h90, h91, h92, (h93.chg h4u (djs h3a))⟩))
 have hm4v := ifF hm4r hc39
 refine Ws (R z (eql z z) (Ra z (Wn (Wc z (fun hc3b => ?_) (fun hc3b => ?_)))))
 ·refine Ws (Rm z (R z (bP (parts := [(0, (.tmp 88)), (1, (.const (.int .i64 0)))]) (cs := [(vI x3), (vI 0)]) build_174 z z) (E z (fa zero_174) ?_)))
  rintro _ w4w ⟨rfl, h4x⟩
  have h1y := h4x.below
  have h9f : Blk w4w w15.heap.size [(vI 0), (vI 0)] := h4x.blk
  refine E0 (fs (cur' := [(vI x3), (vI 0)]) z_174 z z h9f z (lb z) (oA z) z) ?_
  rintro _ w18 ⟨h9g, s9h⟩
  have h1z := s9h.one
  refine Wn (Wq (Ws (R z (fd f_74_7 z) (R z (l1 g_72 z fid (((h1g.ext h1y).chg h1z (djs (mm1 h3u.lt (lt_ h10.size h12.size)))).at z)) ?_))))
  have h3c := mem1le (lt_ (lt_ hBw (Nat.le_of_lt (Blk.lt hB1))) h13.size)
  have h2n := lt_ (lt_ (lt_ h13.size h11.size) h10.size) h12.size
  have h26 := mem1le (lt_ (lt_ hBw (Nat.le_of_lt (Blk.lt hB1))) h2n)
  have h4y := ((((h1n.ext h11).chg h10 (lg h3c)).chg h12 (lg (mem1 hBw))).ext h1y).chg h1z (lg h26)
  refine R z (lnR d_72 z h4y) (Rm z (Wn ?_))
  obtain ⟨u13f, hu9i, hm4z⟩ := bdS (ifT hm4v hc3b)
  refine WC_forN (σ := Int × Int × Int) (ρ := Spot × Int) (fun (k3d : Nat) s a w => un3 (fun x1o x1i x1j => Sat 145 [(0, (.pointer (some ⟨g1, 0, none⟩))), (6, (.pointer (some ⟨w0.heap.size, 0, none⟩))), (12, (.pointer (some ⟨w15.heap.size, 0, none⟩))), (91, (.slice a1d n1e c1f)), (92, (vI (x14.kids.length : Int))), (93, (vI ((k3d : Nat) : Int)))] a ∧ Chg (· ∈ ([g1] ++ [w15.heap.size])) w18 w ∧ inI x1o ∧ inI x1i ∧ inI x1j ∧ Blk w g1 [(.slice pa1_0 pn1_0 pc1_0), (.slice pa1_1 pn1_1 pc1_1), (vI x1o)] ∧ Blk w w15.heap.size [(vI x1i), (vI x1j)]) s) (fun s a w => un3 (fun x1o x1i x1j => Sat 145 [(6, (.pointer (some ⟨w0.heap.size, 0, none⟩))), (12, (.pointer (some ⟨w15.heap.size, 0, none⟩)))] a ∧ Chg (· ∈ ([g1] ++ [w15.heap.size])) w18 w ∧ inI x1o ∧ inI x1i ∧ inI x1j ∧ Blk w g1 [(.slice pa1_0 pn1_0 pc1_0), (.slice pa1_1 pn1_1 pc1_1), (vI x1o)] ∧ Blk w w15.heap.size [(vI x1i), (vI x1j)]) s) (fun r ex a w => ex = .ret ∧ RetPost prog fn (Q_impl_checker_value w0 g1 B pa1_0 pn1_0 pc1_0 pa1_1 pn1_1 pc1_1 x1 r) a w) hu9i ?_ ?_ ?_ ?_ ?_
  ·exact fun _ q => ⟨(q.k (s6 z z z z z z)), (cr ([g1] ++ [w15.heap.size]) w18), (iA _ _), p3_0, (ii z), ((h1b.ext h1y).chg h1z (djs (mm1 (Blk.lt hB1) h2n))), h9g⟩
  ·rintro k3d ⟨x1o, x1i, x1j⟩ a13g w50 o13h hk51 ⟨hS9j, s2h, h2i, h2j, h2o, h2k, h27⟩ hm9k
   have hm9l := un3S hm9k
   refine Wu (e := [(0, (.pointer (some ⟨g1, 0, none⟩))), (6, (.pointer (some ⟨w0.heap.size, 0, none⟩))), (12, (.pointer (some ⟨w15.heap.size, 0, none⟩))), (91, (.slice a1d n1e c1f)), (92, (vI (x14.kids.length : Int))), (93, (vI ((k3d : Nat) : Int)))]) (N := 145) ?_ hS9j
   refine Ws (R z (lss z z) (Wn (Wq (Wc z (fun _ => ?_) (fun hc => (nolt hk51 hc).elim)))))
   refine Wk (Wq (WC_block (Ws ?_)))
   obtain ⟨x13i, e9m, hm9n⟩ := bdS hm9l
   refine RX z (at_ (α := Int) d_72 z_3 z z z (h4y.chg s2h (nmA (lg (mem1 hBw)) (lg h26))) e9m) ?_
   rintro _ ⟨b13j, o13k, cs13l, rfl, h9o, h9p, h13m⟩
   obtain ⟨rfl, h9q⟩ := Int_open h9p
   refine R z (l1 g_3 z fid (h9o.at0 z)) (Ra z (Wn (Ws (Rm z (Rm z (R z (fd f_174_0 z) (R z (l1 g_3 z fid (h27.at z)) ?_)))))))
   obtain ⟨r2p, r9r, e9s, hm52⟩ := bd2S hm9n
   refine E z (fc call134 z (ih0.run (B := B) e9s h2k hBw ((((((h1c.ext h11).chg h10 (lg h3c)).chg h12 (lg (mem1 hBw))).ext h1y).chg h1z (lg h26)).chg s2h (nmA (lg (mem1 hBw)) (lg h26))) (((((((p1_1.ext h13).ext h11).chg h10 (lg h3c)).chg h12 (lg (mem1 hBw))).ext h1y).chg h1z (lg h26)).chg s2h (nmA (lg (mem1 hBw)) (lg h26))) h2i h9q h2j)) ?_
   rintro _ w53 ⟨s3e, rfl, h54, h55, h56, h57⟩
   have h3f := mm1 (Blk.lt hB1) h2n
   refine E0 (fs (cur' := [(vI r2p.at_), (vI r2p.code)]) z_174 z z (h27.chg s3e (atp h3f)) z (lb z) (oA z) z) ?_
   rintro _ w58 ⟨h3g, s9t⟩
   have h2q := s9t.one
   refine Wn (Ws (R z (fd f_174_1 z) (R z (l1 g_3 z fid (h3g.at z)) (R z (nq z z) (Wn (Wc z (fun hc3h => ?_) (fun hc3h => ?_)))))))
   ·have h9u : Chg (· ∈ ([g1] ++ [w15.heap.size])) w18 w50 := cM (cr ([g1] ++ [w15.heap.size]) w18) s2h (all_app (io (sub_l sr)) (io (sub_r sr)))
    have h9v : Chg (· ∈ ([g1] ++ [w15.heap.size])) w18 w53 := cM h9u s3e (io (sub_l sr))
    have h9w : Chg (· ∈ ([g1] ++ [w15.heap.size])) w18 w58 := cM h9v h2q (io (sub_r sr))
    exact WC_exit (exO z (fun a' ha' => QO_brk (som (ifT hm52 hc3h)).symm ⟨(Sat.weaken ha' (s2 z z)), h9w, h56, h54, h55, (h57.chg h2q (djs h3f)), h3g⟩))
   refine Wk (Wg (R z (inc_ hk51 (lt_ (repS.len h1n) LEN_le) z z) (Rm z (Wl ?_))))
   have h9x : Chg (· ∈ ([g1] ++ [w15.heap.size])) w18 w50 := cM (cr ([g1] ++ [w15.heap.size]) w18) s2h (all_app (io (sub_l sr)) (io (sub_r sr)))
   have h9y : Chg (· ∈ ([g1] ++ [w15.heap.size])) w18 w53 := cM h9x s3e (io (sub_l sr))
   have h9z : Chg (· ∈ ([g1] ++ [w15.heap.size])) w18 w58 := cM h9y h2q (io (sub_r sr))
   exact fun _ q => ⟨(r9r, r2p.at_, r2p.code), (som (ifF hm52 hc3h)).symm, ⟨(q.k (s6 z z z z z z)), h9z, h56, h54, h55, (h57.chg h2q (djs h3f)), h3g⟩⟩
  ·rintro ⟨x1o, x1i, x1j⟩ a13n w100 ⟨hS101, s102, h2i, h2j, h2o, h2k, h27⟩
   refine Wu (e := [(0, (.pointer (some ⟨g1, 0, none⟩))), (6, (.pointer (some ⟨w0.heap.size, 0, none⟩))), (12, (.pointer (some ⟨w15.heap.size, 0, none⟩))), (91, (.slice a1d n1e c1f)), (92, (vI (x14.kids.length : Int))), (93, (vI ((x14.kids.length : Nat) : Int)))]) (N := 145) ?_ hS101
   refine Ws (R z (lss z z) (Wn (Wq (Wc z (fun hc => (noltt hc).elim) (fun _ => ?_)))))
   have h103 : Chg (· ∈ ([g1] ++ [w15.heap.size])) w18 w100 := cM (cr ([g1] ++ [w15.heap.size]) w18) s102 (all_app (io (sub_l sr)) (io (sub_r sr)))
   exact WC_exit (fun a' ha' => ⟨rfl, ⟨(Sat.weaken ha' (s2 z z)), h103, h2i, h2j, h2o, h2k, h27⟩⟩)
  ·rintro ⟨x1o, x1i, x1j⟩ a104 w105 rfl ⟨hS13o, s59, h2i, h2j, h2o, h2k, h27⟩
   have hm106 := elL hm4z
   have hm107 := un3S hm106
   revert a104
   refine Wo (Ws (R z (lN (vs := [(vI x1i), (vI x1j)]) g_174 z_174 z z fid (h27.row 0 2 z)) ?_))
   have h3i := mmr (Blk.lt hB1)
   have h5a := mm1 h16.lt (lt_ (lt_ h11.size h10.size) h12.size)
   have h108 := (((((h16.ext h11).chg h10 (djs (mmr h16.lt))).chg h12 (atp h3i)).ext h1y).chg h1z (djs h5a)).chg s59 (atp (nmA h3i (dj_symm h5a)))
   refine E0 (fs (cur' := [(vI x1i), (vI x1j)]) z_174 z z h108 z (lb z) (oA z) z) ?_
   rintro _ w109 ⟨h10a, s10b⟩
   have h5b := s10b.one
   refine Wn ?_
   obtain rfl := som hm107
   have h10c : Chg (· ∈ [g1]) w0 w17 := cext (cr [g1] w0) h13
   have h10d : Chg (· ∈ [g1]) w0 w19 := cext h10c h11
   have h10e : ∀ k ∈ [w17.heap.size], k ∈ [g1] ∨ w0.heap.size ≤ k := mor h13.size
   have h10f : Chg (· ∈ [g1]) w0 w1a := cM h10d h10 h10e
   have h10g : Chg (· ∈ [g1]) w0 w15 := cM h10f h12 (io sr)
   have h10h : Chg (· ∈ [g1]) w0 w4w := cext h10g h1y
   have h5c : ∀ k ∈ [w15.heap.size], k ∈ [g1] ∨ w0.heap.size ≤ k := mor h2n
   have h10i : Chg (· ∈ [g1]) w0 w18 := cM h10h h1z h5c
   have h10j : Chg (· ∈ [g1]) w0 w105 := cM h10i s59 (all_app (io sr) h5c)
   have h10k : ∀ k ∈ [w0.heap.size], k ∈ [g1] ∨ w0.heap.size ≤ k := mor lr
   have h10l : Chg (· ∈ [g1]) w0 w109 := cM h10j h5b h10k
   exact Wr (rtO (ret1 hr (resC g_174 z_174 z h10a z) ⟨h10l, z, h2j, h2o, h2i, (h2k.chg h5b (djs h3i))⟩))
  rintro r13p ex13q a13r w13s rfl ⟨rfl, hq10m⟩
  have hm10n := elR hm4z
  obtain rfl := som hm10n
  exact ⟨hq10m, z⟩
 have hm5d := ifF hm4v hc3b
 refine Ws (R z (eql z z) (Ra z (Wn (Wc z (fun hc3j => ?_) (fun hc3j => ?_)))))
 ·refine Ws (Rm z (R z (lN (vs := [(Str.v x14.name), (vI x14.kind), (vI x14.size), (vB x14.little), (.slice a1p n1q c1r), (.slice a1s n1t c1u), (.slice a1v n1w c1x), (.slice a1d n1e c1f)]) g_74 z_74 z z fid (h1g.row 0 8 z)) (Rm z ?_)))
  have h28 := mem1le (lt_ (lt_ hBw (Nat.le_of_lt (Blk.lt hB1))) h13.size)
  obtain ⟨r5e, r13t, e10o, hm10p⟩ := bd2S (ifT hm5d hc3j)
  refine E z (fc call156 z (ih2.run (B := B) e10o h1b hBw (((h1c.ext h11).chg h10 (lg h28)).chg h12 (lg (mem1 hBw))) ((((p1_1.ext h13).ext h11).chg h10 (lg h28)).chg h12 (lg (mem1 hBw))) (iA _ _) h2c h2d h20 (((h21.ext h11).chg h10 (lg h28)).chg h12 (lg (mem1 hBw))) (((h2e.ext h11).chg h10 (lg h28)).chg h12 (lg (mem1 hBw))) (((h2f.ext h11).chg h10 (lg h28)).chg h12 (lg (mem1 hBw))) (((h1n.ext h11).chg h10 (lg h28)).chg h12 (lg (mem1 hBw))) p3_0)) ?_
  rintro _ w10q ⟨s5f, rfl, h10r, h10s, h10t, h10u⟩
  have h3k := mmr (Blk.lt hB1)
  refine E0 (fs (cur' := [(vI r5e.at_), (vI r5e.code)]) z_174 z z ((((h16.ext h11).chg h10 (djs (mmr h16.lt))).chg h12 (atp h3k)).chg s5f (atp h3k)) z (lb z) (oA z) z) ?_
  rintro _ w10v ⟨h10w, s10x⟩
  have h5g := s10x.one
  refine Wn ?_
  obtain rfl := som hm10p
  have h10y : Chg (· ∈ [g1]) w0 w17 := cext (cr [g1] w0) h13
  have h10z : Chg (· ∈ [g1]) w0 w19 := cext h10y h11
  have h110 : ∀ k ∈ [w17.heap.size], k ∈ [g1] ∨ w0.heap.size ≤ k := mor h13.size
  have h111 : Chg (· ∈ [g1]) w0 w1a := cM h10z h10 h110
  have h112 : Chg (· ∈ [g1]) w0 w15 := cM h111 h12 (io sr)
  have h113 : Chg (· ∈ [g1]) w0 w10q := cM h112 s5f (io sr)
  have h114 : ∀ k ∈ [w0.heap.size], k ∈ [g1] ∨ w0.heap.size ≤ k := mor lr
  have h115 : Chg (· ∈ [g1]) w0 w10v := cM h113 h5g h114
  exact Wr (rtO (ret1 hr (resC g_174 z_174 z h10w z) ⟨h115, z, h10r, h10s, h10t, (h10u.chg h5g (djs h3k))⟩))
 have hm5h := ifF hm5d hc3j
 refine Ws (R z (eql z z) (Ra z (Wn (Wc z (fun hc3l => ?_) (fun hc3l => ?_)))))
 ·refine Ws (Rm z (R z (lN (vs := [(Str.v x14.name), (vI x14.kind), (vI x14.size), (vB x14.little), (.slice a1p n1q c1r), (.slice a1s n1t c1u), (.slice a1v n1w c1x), (.slice a1d n1e c1f)]) g_74 z_74 z z fid (h1g.row 0 8 z)) (Rm z ?_)))
  have h29 := mem1le (lt_ (lt_ hBw (Nat.le_of_lt (Blk.lt hB1))) h13.size)
  obtain ⟨r5i, r13u, e116, hm117⟩ := bd2S (ifT hm5h hc3l)
  refine E z (fc call157 z (ih3.run (B := B) e116 h1b hBw (((h1c.ext h11).chg h10 (lg h29)).chg h12 (lg (mem1 hBw))) ((((p1_1.ext h13).ext h11).chg h10 (lg h29)).chg h12 (lg (mem1 hBw))) (iA _ _) h2c h2d h20 (((h21.ext h11).chg h10 (lg h29)).chg h12 (lg (mem1 hBw))) (((h2e.ext h11).chg h10 (lg h29)).chg h12 (lg (mem1 hBw))) (((h2f.ext h11).chg h10 (lg h29)).chg h12 (lg (mem1 hBw))) (((h1n.ext h11).chg h10 (lg h29)).chg h12 (lg (mem1 hBw))) p3_0)) ?_
  rintro _ w118 ⟨s5j, rfl, h119, h11a, h11b, h11c⟩
  have h3m := mmr (Blk.lt hB1)
  refine E0 (fs (cur' := [(vI r5i.at_), (vI r5i.code)]) z_174 z z ((((h16.ext h11).chg h10 (djs (mmr h16.lt))).chg h12 (atp h3m)).chg s5j (atp h3m)) z (lb z) (oA z) z) ?_
  rintro _ w11d ⟨h11e, s11f⟩
  have h5k := s11f.one
  refine Wn ?_
  obtain rfl := som hm117
  have h11g : Chg (· ∈ [g1]) w0 w17 := cext (cr [g1] w0) h13
  have h11h : Chg (· ∈ [g1]) w0 w19 := cext h11g h11
  have h11i : ∀ k ∈ [w17.heap.size], k ∈ [g1] ∨ w0.heap.size ≤ k := mor h13.size
  have h11j : Chg (· ∈ [g1]) w0 w1a := cM h11h h10 h11i
  have h11k : Chg (· ∈ [g1]) w0 w15 := cM h11j h12 (io sr)
  have h11l : Chg (· ∈ [g1]) w0 w118 := cM h11k s5j (io sr)
  have h11m : ∀ k ∈ [w0.heap.size], k ∈ [g1] ∨ w0.heap.size ≤ k := mor lr
  have h11n : Chg (· ∈ [g1]) w0 w11d := cM h11l h5k h11m
  exact Wr (rtO (ret1 hr (resC g_174 z_174 z h11e z) ⟨h11n, z, h119, h11a, h11b, (h11c.chg h5k (djs h3m))⟩))
 have hm5l := ifF hm5h hc3l
 refine Ws (R z (eql z z) (Ra z (Wn (Wc z (fun hc3n => ?_) (fun hc3n => ?_)))))
 ·refine Ws (Rm z (R z (lN (vs := [(Str.v x14.name), (vI x14.kind), (vI x14.size), (vB x14.little), (.slice a1p n1q c1r), (.slice a1s n1t c1u), (.slice a1v n1w c1x), (.slice a1d n1e c1f)]) g_74 z_74 z z fid (h1g.row 0 8 z)) (Rm z ?_)))
  have h2a := mem1le (lt_ (lt_ hBw (Nat.le_of_lt (Blk.lt hB1))) h13.size)
  obtain ⟨r5m, r13v, e11o, hm11p⟩ := bd2S (ifT hm5l hc3n)
  refine E z (fc call158 z (ih4.run (B := B) e11o h1b hBw (((h1c.ext h11).chg h10 (lg h2a)).chg h12 (lg (mem1 hBw))) ((((p1_1.ext h13).ext h11).chg h10 (lg h2a)).chg h12 (lg (mem1 hBw))) (iA _ _) h2c h2d h20 (((h21.ext h11).chg h10 (lg h2a)).chg h12 (lg (mem1 hBw))) (((h2e.ext h11).chg h10 (lg h2a)).chg h12 (lg (mem1 hBw))) (((h2f.ext h11).chg h10 (lg h2a)).chg h12 (lg (mem1 hBw))) (((h1n.ext h11).chg h10 (lg h2a)).chg h12 (lg (mem1 hBw))) p3_0)) ?_
  rintro _ w11q ⟨s5n, rfl, h11r, h11s, h11t, h11u⟩
  have h3o := mmr (Blk.lt hB1)
  refine E0 (fs (cur' := [(vI r5m.at_), (vI r5m.code)]) z_174 z z ((((h16.ext h11).chg h10 (djs (mmr h16.lt))).chg h12 (atp h3o)).chg s5n (atp h3o)) z (lb z) (oA z) z) ?_
  rintro _ w11v ⟨h11w, s11x⟩
  have h5o := s11x.one
  refine Wn ?_
  obtain rfl := som hm11p
  have h11y : Chg (· ∈ [g1]) w0 w17 := cext (cr [g1] w0) h13
  have h11z : Chg (· ∈ [g1]) w0 w19 := cext h11y h11
  have h120 : ∀ k ∈ [w17.heap.size], k ∈ [g1] ∨ w0.heap.size ≤ k := mor h13.size
  have h121 : Chg (· ∈ [g1]) w0 w1a := cM h11z h10 h120
  have h122 : Chg (· ∈ [g1]) w0 w15 := cM h121 h12 (io sr)
  have h123 : Chg (· ∈ [g1]) w0 w11q := cM h122 s5n (io sr)
  have h124 : ∀ k ∈ [w0.heap.size], k ∈ [g1] ∨ w0.heap.size ≤ k := mor lr
  have h125 : Chg (· ∈ [g1]) w0 w11v := cM h123 h5o h124
  exact Wr (rtO (ret1 hr (resC g_174 z_174 z h11w z) ⟨h125, z, h11r, h11s, h11t, (h11u.chg h5o (djs h3o))⟩))
 refine Wk (Wq (WC_draw (X := noX) 0 (.rd 0 (.rd 1 (.rd 2 (.rd 3 (.rd 4 (.rd 5 (.rd 6 (.rd 7 (.rd 8 (.ef 9 (.rd 10 (.rd 11 (.rd 12 (.rd 13 (.rd 14 (.rd 15 (.rd 16 .done))))))))))))))))) mo (by kernel_rfl) fun w5p s1m _ => dR z z (mv z) (dR z z (rd_nil z) (dR z z (fd f_172_1 z) ?_))))
 have h3p := h1b.ext s1m
 refine dR z z (l1 g_25 z fid (h3p.at z)) (dR z z (mv z) (dR z z (fd f_74_4 z) (dR z z (l1 g_25 z fid ((h1g.ext s1m).at z)) ?_)))
 obtain ⟨x13w, e126, hm127⟩ := bdS (ifF hm5l hc3n)
 have h5q := mem1le (lt_ (lt_ hBw (Nat.le_of_lt (Blk.lt hB1))) h13.size)
 refine dRX z z (at_ (α := UInt8) d_25 z_5 z z z ((((h21.ext h11).chg h10 (lg h5q)).chg h12 (lg (mem1 hBw))).ext s1m) e126) ?_
 rintro _ ⟨b13x, o13y, cs13z, rfl, h128, h129, h140⟩
 obtain rfl := UInt8_open h129
 refine dR z z (l1 g_5 z fid (h128.at0 z)) ?_
 obtain ⟨r141, r5r, r142, e12a, hm5s⟩ := bd3S hm127
 refine dE z z (fc call115 z (W_impl_ReadTerminated (B := B) e12a (lt_ (lt_ hBw (Nat.le_of_lt (Blk.lt hB1))) (lt_ (lt_ (lt_ (lt_ h13.size h11.size) h10.size) h12.size) s1m.size)) (((((p1_1.ext h13).ext h11).chg h10 (lg h5q)).chg h12 (lg (mem1 hBw))).ext s1m) p3_0)) (.inr fun _ _ h => chgB (h.1)) ?_
 rintro _ w5t ⟨s2b, a143, n144, c145, S146, rfl, h147, h12b, h148, h149⟩
 refine dR z z (mv z) ?_
 iterate 3 refine dR z z (ext_ z z) ?_
 iterate 3 refine dR z z (asg z) ?_
 refine PR_done (Wo (Wq (Ws (Rm z (R z (not_ z) (Wn (Wc z (fun hc3q => ?_) (fun hc3q => ?_))))))))
 ·refine Ws (Rm z (R z (bP (parts := [(0, (.tmp 141)), (1, (.const (.int .i64 1)))]) (cs := [(vI x3), (vI 1)]) build_174 z z) ?_))
  have h5u := mmr (Blk.lt hB1)
  refine E0 (fs (cur' := [(vI x3), (vI 1)]) z_174 z z (((((h16.ext h11).chg h10 (djs (mmr h16.lt))).chg h12 (atp h5u)).ext s1m).ext s2b) z (lb z) (oA z) z) ?_
  rintro _ w12c ⟨h12d, s12e⟩
  have h5v := s12e.one
  refine Wn ?_
  obtain rfl := som (ifT hm5s hc3q)
  have h12f : Chg (· ∈ [g1]) w0 w17 := cext (cr [g1] w0) h13
  have h12g : Chg (· ∈ [g1]) w0 w19 := cext h12f h11
  have h12h : ∀ k ∈ [w17.heap.size], k ∈ [g1] ∨ w0.heap.size ≤ k := mor h13.size
  have h12i : Chg (· ∈ [g1]) w0 w1a := cM h12g h10 h12h
  have h12j : Chg (· ∈ [g1]) w0 w15 := cM h12i h12 (io sr)
  have h12k : Chg (· ∈ [g1]) w0 w5p := cext h12j s1m
  have h12l : Chg (· ∈ [g1]) w0 w5t := cext h12k s2b
  have h12m : ∀ k ∈ [w0.heap.size], k ∈ [g1] ∨ w0.heap.size ≤ k := mor lr
  have h12n : Chg (· ∈ [g1]) w0 w12c := cM h12l h5v h12m
  exact Wr (ret1 hr (resC g_174 z_174 z h12d z) ⟨h12n, z, p3_0, (ii z), (iA _ _), ((h3p.ext s2b).chg h5v (djs h5u))⟩)
 refine Wk (Ws (Rm z (R z (bP (parts := [(0, (.tmp 143)), (1, (.const (.int .i64 0)))]) (cs := [(vI r5r), (vI 0)]) build_174 z z) ?_)))
 have h5w := mmr (Blk.lt hB1)
 refine E0 (fs (cur' := [(vI r5r), (vI 0)]) z_174 z z (((((h16.ext h11).chg h10 (djs (mmr h16.lt))).chg h12 (atp h5w)).ext s1m).ext s2b) z (lb z) (oA z) z) ?_
 rintro _ w12o ⟨h12p, s12q⟩
 have h5x := s12q.one
 refine Wn ?_
 obtain rfl := som (ifF hm5s hc3q)
 have h12r : Chg (· ∈ [g1]) w0 w17 := cext (cr [g1] w0) h13
 have h12s : Chg (· ∈ [g1]) w0 w19 := cext h12r h11
 have h12t : ∀ k ∈ [w17.heap.size], k ∈ [g1] ∨ w0.heap.size ≤ k := mor h13.size
 have h12u : Chg (· ∈ [g1]) w0 w1a := cM h12s h10 h12t
 have h12v : Chg (· ∈ [g1]) w0 w15 := cM h12u h12 (io sr)
 have h12w : Chg (· ∈ [g1]) w0 w5p := cext h12v s1m
 have h12x : Chg (· ∈ [g1]) w0 w5t := cext h12w s2b
 have h12y : ∀ k ∈ [w0.heap.size], k ∈ [g1] ∨ w0.heap.size ≤ k := mor lr
 have h12z : Chg (· ∈ [g1]) w0 w12o := cM h12x h5x h12y
 exact Wr (ret1 hr (resC g_174 z_174 z h12p z) ⟨h12z, z, h12b, (ii z), (iA _ _), ((h3p.ext s2b).chg h5x (djs h5w))⟩)
theorem T_impl_checker_array (ih : I_impl_checker_value n) : S_impl_checker_array (B_impl_checker_array n (F_impl_checker_value n)) := by
 obtain ⟨ih0, ih1, ih2, ih3, ih4⟩ := ih
 constructor
 intro B pn1_0 pc1_0 pn1_1 pc1_1 g1 pn2_4 pc2_4 pn2_5 pc2_5 pn2_6 pc2_6 pn2_7 pc2_7 pa1_0 pa1_1 pa2_4 pa2_5 pa2_6 pa2_7 x1 x2 x3 res w0 hm hB1 hBw p1_0 p1_1 p1_2 p2_0 p2_1 p2_2 p2_4 p2_5 p2_6 p2_7 p3_0
 unfold B_impl_checker_array at hm
 obtain ⟨fn, hf, hb, hN, hr⟩ := fnE func155
 refine goW hf (hb.trans z) (hN.trans z) (lb z) (Ws (E z (fb z) ?_))
 rintro _ w15 ⟨rfl, h20⟩
 have h12 := h20.below
 have h21 : Blk w15 w0.heap.size [(Str.v x2.name), (vI x2.kind), (vI x2.size), (vB x2.little), (.slice pa2_4 pn2_4 pc2_4), (.slice pa2_5 pn2_5 pc2_5), (.slice pa2_6 pn2_6 pc2_6), (.slice pa2_7 pn2_7 pc2_7)] := h20.blk
 refine E z (fa zero_174) ?_
 rintro _ w1r ⟨rfl, h22⟩
 have h14 := h22.below
 have h1m : Blk w1r w15.heap.size [(vI 0), (vI 0)] := h22.blk
 refine Wn (Ws (Rm z (R z (fd f_74_7 z) ?_)))
 have h23 := h21.ext h14
 refine R z (l1 g_72 z fid (h23.at z)) ?_
 obtain ⟨x50, e2x, hm2y⟩ := bdS hm
 have h24 := (p2_7.ext h12).ext h14
 refine RX z (at_ (α := Int) d_72 z_3 z z z h24 e2x) ?_
 rintro _ ⟨b51, o52, cs53, rfl, h2z, h30, h54⟩
 obtain ⟨rfl, h31⟩ := Int_open h30
 refine R z (l1 g_3 z fid (h2z.at0 z)) (Rm z ?_)
 have h25 := (p1_0.ext h12).ext h14
 have h26 := (p1_1.ext h12).ext h14
 obtain ⟨r27, r1s, r55, e32, hm33⟩ := bd3S hm2y
 refine E z (fc call152 z (W_impl_checker_number (B := B) e32 ((hB1.ext h12).ext h14) hBw h25 h26 p1_2 h31 p3_0)) ?_
 rintro _ w10 ⟨s11, rfl, h34, h35, h36, h28, h29⟩
 refine Rm z (R z (ext_ z z) (R z (ext_ z z) (E z (fa zero_174) ?_)))
 rintro _ w1t ⟨rfl, h2a⟩
 have h17 := h2a.below
 have h37 : Blk w1t w10.heap.size [(vI 0), (vI 0)] := h2a.blk
 refine Ra z (E0 (fs (cur' := [(vI r1s.at_), (vI r1s.code)]) z_174 z z h37 z (lb z) (oA z) z) ?_)
 rintro _ w1h ⟨h2b, s38⟩
 have h18 := s38.one
 refine Wn (Wq (Wq ?_))
 obtain ⟨u39, hu2c, hm2d⟩ := bdS hm33
 refine WC_cut (fun a w => ∃ (x1u : Bool), x1u = u39 ∧ Sat 46 [(0, (.pointer (some ⟨g1, 0, none⟩))), (2, (vI x3)), (4, (.pointer (some ⟨w0.heap.size, 0, none⟩))), (6, (.pointer (some ⟨w15.heap.size, 0, none⟩))), (7, (vI r27)), (8, (.pointer (some ⟨w10.heap.size, 0, none⟩))), (25, (vB x1u))] a ∧ Below w1h.heap.size w1h w) ?_ ?_
 ·refine Wg (R z (fd f_174_1 z) (R z (l1 g_3 z fid (h2b.at z)) (R z (eql z z) (Rm z ?_))))
  rcases bs (r1s.code == 0) with hc1c | hc1c
  ·exact Rh z hc1c (mv z) (Rh z hc1c (rd_gtr z z) (R z (pT z hc1c z) (Wl (fun _ q => ⟨decide (40 < r27), som (ifT hu2c hc1c), (q.k (s7 z z z z z z z)), (br w1h)⟩))))
  exact Nh z hc1c (Nh z hc1c (R z (pF z hc1c z) (Wl (fun _ q => ⟨false, som (ifF hu2c hc1c), (q.k (s7 z z z z z z z)), (br w1h)⟩))))
 rintro a3a w13 ⟨x1u, rfl, hS56, s16⟩
 revert a3a
 refine Wo (Wc z (fun hc1v => ?_) (fun hc1v => ?_))
 ·refine Ws (Rm z (R z (bP (parts := [(0, (.tmp 26)), (1, (.const (.int .i64 6)))]) (cs := [(vI x3), (vI 6)]) build_174 z z) ?_))
  have h2e := mm1 (Blk.lt hB1) h12.size
  refine E0 (fs (cur' := [(vI x3), (vI 6)]) z_174 z z ((((h1m.chg s11 (atp h2e)).ext h17).chg h18 (djs (mm1 h1m.lt s11.size))).ext s16) z (lb z) (oA z) z) ?_
  rintro _ w3b ⟨h3c, s3d⟩
  have h2f := s3d.one
  refine Wn ?_
  obtain rfl := som (ifT hm2d hc1v)
  have h3e : Chg (· ∈ [g1]) w0 w15 := cext (cr [g1] w0) h12
  have h3f : Chg (· ∈ [g1]) w0 w1r := cext h3e h14
  have h3g : Chg (· ∈ [g1]) w0 w10 := cM h3f s11 (io sr)
  have h3h : Chg (· ∈ [g1]) w0 w1t := cext h3g h17
  have h2g := lt_ (lt_ h12.size h14.size) s11.size
  have h3i : ∀ k ∈ [w10.heap.size], k ∈ [g1] ∨ w0.heap.size ≤ k := mor h2g
  have h3j : Chg (· ∈ [g1]) w0 w1h := cM h3h h18 h3i
  have h3k : Chg (· ∈ [g1]) w0 w13 := cext h3j s16
  have h3l : ∀ k ∈ [w15.heap.size], k ∈ [g1] ∨ w0.heap.size ≤ k := mor h12.size
  have h3m : Chg (· ∈ [g1]) w0 w3b := cM h3k h2f h3l
  exact Wr (ret1 hr (resC g_174 z_174 z h3c z) ⟨h3m, z, p3_0, (ii z), h28, ((((h29.ext h17).chg h18 (djs (mm1 (Blk.lt hB1) h2g))).ext s16).chg h2f (djs h2e))⟩)
 refine Wk (Wq ?_)
 obtain ⟨u57, hu3n, hm2h⟩ := bdS (ifF hm2d hc1v)
 refine WC_iter (σ := Int × Int × Int × Int) (ρ := Spot × Int) (fun s a w => un4 (fun x19 x1f x1d x1a => Sat 46 [(0, (.pointer (some ⟨g1, 0, none⟩))), (4, (.pointer (some ⟨w0.heap.size, 0, none⟩))), (6, (.pointer (some ⟨w15.heap.size, 0, none⟩))), (7, (vI x19)), (8, (.pointer (some ⟨w10.heap.size, 0, none⟩)))] a ∧ Chg (· ∈ ([g1] ++ [w10.heap.size])) w13 w ∧ inI x19 ∧ inI x1f ∧ inI x1d ∧ inI x1a ∧ Blk w g1 [(.slice pa1_0 pn1_0 pc1_0), (.slice pa1_1 pn1_1 pc1_1), (vI x1f)] ∧ Blk w w10.heap.size [(vI x1d), (vI x1a)]) s) (fun s a w => un4 (fun x19 x1f x1d x1a => Sat 46 [(6, (.pointer (some ⟨w15.heap.size, 0, none⟩))), (8, (.pointer (some ⟨w10.heap.size, 0, none⟩)))] a ∧ Chg (· ∈ ([g1] ++ [w10.heap.size])) w13 w ∧ inI x19 ∧ inI x1f ∧ inI x1d ∧ inI x1a ∧ Blk w g1 [(.slice pa1_0 pn1_0 pc1_0), (.slice pa1_1 pn1_1 pc1_1), (vI x1f)] ∧ Blk w w10.heap.size [(vI x1d), (vI x1a)]) s) (fun r ex a w => ex = .ret ∧ RetPost prog fn (Q_impl_checker_array w0 g1 B pa1_0 pn1_0 pc1_0 pa1_1 pn1_1 pc1_1 x1 r) a w) hu3n ?_ ?_ ?_ ?_
 ·exact fun _ q => ⟨(q.k (s5 z z z z z)), (cr ([g1] ++ [w10.heap.size]) w13), h34, h28, h35, h36, (((h29.ext h17).chg h18 (djs (mm1 (Blk.lt hB1) (lt_ (lt_ h12.size h14.size) s11.size)))).ext s16), (h2b.ext s16)⟩
 ·rintro ⟨x19, x1f, x1d, x1a⟩ a58 w1i o59 ⟨hS3o, s1j, h2i, h1n, h1o, h1w, h1p, h1l⟩ hm3p
  have hm3q := un4S hm3p
  refine Wu (e := [(0, (.pointer (some ⟨g1, 0, none⟩))), (4, (.pointer (some ⟨w0.heap.size, 0, none⟩))), (6, (.pointer (some ⟨w15.heap.size, 0, none⟩))), (7, (vI x19)), (8, (.pointer (some ⟨w10.heap.size, 0, none⟩)))]) (N := 46) ?_ hS3o
  refine Wq (Wq ?_)
  obtain ⟨u3r, hu2j, hm2k⟩ := bdS hm3q
  refine WC_cut (fun a w => ∃ (x1x : Bool), x1x = u3r ∧ Sat 46 [(0, (.pointer (some ⟨g1, 0, none⟩))), (4, (.pointer (some ⟨w0.heap.size, 0, none⟩))), (6, (.pointer (some ⟨w15.heap.size, 0, none⟩))), (7, (vI x19)), (8, (.pointer (some ⟨w10.heap.size, 0, none⟩))), (34, (vB x1x))] a ∧ Below w1i.heap.size w1i w) ?_ ?_
  ·refine Wg (Rm z (R z (rd_gtr z z) (Rm z ?_)))
   rcases bs (decide (0 < x19)) with hc1e | hc1e
   ·exact Rh z hc1e (fd f_174_1 z) (Rh z hc1e (l1 g_3 z fid (h1l.at z)) (Rh z hc1e (eql z z) (R z (pT z hc1e z) (Wl (fun _ q => ⟨x1a == 0, som (ifT hu2j hc1e), (q.k (s6 z z z z z z)), (br w1i)⟩)))))
   iterate 3 refine Nh z hc1e ?_
   exact R z (pF z hc1e z) (Wl (fun _ q => ⟨false, som (ifF hu2j hc1e), (q.k (s6 z z z z z z)), (br w1i)⟩))
  rintro a3s w2l ⟨x1x, rfl, hS5a, s1b⟩
  revert a3s
  refine Wo (Wc z (fun hc1y => ?_) (fun hc1y => ?_))
  ·refine Wk (Wq (WC_block (WC_draw (X := noX) 384 (.rd 0 (.rd 1 (.rd 2 (.rd 3 (.rd 4 (.rd 5 (.rd 6 (.ef 7 (.ef 8 .done))))))))) mo (by kernel_rfl) fun w3t s1g _ => dR z z (mv z) (dR z z (fd f_74_7 z) ?_))))
   have h2m := mmr (Blk.lt hB1)
   have h2n := mm1 h21.lt (lt_ h14.size s11.size)
   have h3u := (((((h23.chg s11 (atp h2m)).ext h17).chg h18 (djs h2n)).ext s16).chg s1j (atp (nmA h2m (dj_symm h2n)))).ext s1b
   refine dR z z (l1 g_72 z fid ((h3u.ext s1g).at z)) ?_
   obtain ⟨x5b, e3v, hm3w⟩ := bdS (ifT hm2k hc1y)
   have h2o := lt_ (lt_ h12.size h14.size) s11.size
   have h1k := mem1le (lt_ (lt_ hBw (Nat.le_of_lt (Blk.lt hB1))) h2o)
   refine dRX z z (at_ (α := Int) d_72 z_3 z z z (((((((h24.chg s11 (lg (mem1 hBw))).ext h17).chg h18 (lg h1k)).ext s16).chg s1j (nmA (lg (mem1 hBw)) (lg h1k))).ext s1b).ext s1g) e3v) ?_
   rintro _ ⟨b5c, o5d, cs5e, rfl, h3x, h3y, h5f⟩
   obtain ⟨rfl, h3z⟩ := Int_open h3y
   refine dR z z (l1 g_3 z fid (h3x.at0 z)) (dR z z (fd f_174_0 z) ?_)
   have h2p := (h1l.ext s1b).ext s1g
   refine dR z z (l1 g_3 z fid (h2p.at z)) ?_
   obtain ⟨r1q, r40, e41, hm42⟩ := bd2S hm3w
   refine dE z z (fc call134 z (ih0.run (B := B) e41 ((h1p.ext s1b).ext s1g) hBw (((((((h25.chg s11 (lg (mem1 hBw))).ext h17).chg h18 (lg h1k)).ext s16).chg s1j (nmA (lg (mem1 hBw)) (lg h1k))).ext s1b).ext s1g) (((((((h26.chg s11 (lg (mem1 hBw))).ext h17).chg h18 (lg h1k)).ext s16).chg s1j (nmA (lg (mem1 hBw)) (lg h1k))).ext s1b).ext s1g) h1n h3z h1o)) (.inl z) ?_
   rintro _ w43 ⟨s2q, rfl, h44, h45, h46, h47⟩
   have h2r := mm1 (Blk.lt hB1) h2o
   refine dE0 z (fs (cur' := [(vI r1q.at_), (vI r1q.code)]) z_174 z z (h2p.chg s2q (atp h2r)) z (lb z) (oA z) z) (.inl z) ?_
   rintro _ w48 ⟨h49, s4a⟩
   have h2s := s4a.one
   refine PR_done (Wo (Wg (Rm z (R z (sb_ z z) (Ra z (Wl ?_))))))
   have h4b : Chg (· ∈ ([g1] ++ [w10.heap.size])) w13 w1i := cM (cr ([g1] ++ [w10.heap.size]) w13) s1j (all_app (io (sub_l sr)) (io (sub_r sr)))
   have h4c : Chg (· ∈ ([g1] ++ [w10.heap.size])) w13 w2l := cext h4b s1b
   have h4d : Chg (· ∈ ([g1] ++ [w10.heap.size])) w13 w3t := cext h4c s1g
   have h4e : Chg (· ∈ ([g1] ++ [w10.heap.size])) w13 w43 := cM h4d s2q (io (sub_l sr))
   have h4f : Chg (· ∈ ([g1] ++ [w10.heap.size])) w13 w48 := cM h4e h2s (io (sub_r sr))
   exact fun _ q => ⟨(isub x19 1, r40, r1q.at_, r1q.code), (som hm42).symm, ⟨(q.k (s5 z z z z z)), h4f, (iS _ _), h46, h44, h45, (h47.chg h2s (djs h2r)), h49⟩⟩
  have h4g : Chg (· ∈ ([g1] ++ [w10.heap.size])) w13 w1i := cM (cr ([g1] ++ [w10.heap.size]) w13) s1j (all_app (io (sub_l sr)) (io (sub_r sr)))
  have h4h : Chg (· ∈ ([g1] ++ [w10.heap.size])) w13 w2l := cext h4g s1b
  exact WC_exit (fun a' ha' => QO_brk (som (ifF hm2k hc1y)).symm ⟨(Sat.weaken ha' (s2 z z)), h4h, h2i, h1n, h1o, h1w, (h1p.ext s1b), (h1l.ext s1b)⟩)
 ·rintro ⟨x19, x1f, x1d, x1a⟩ a4i w4j rfl ⟨hS5g, s2t, h2i, h1n, h1o, h1w, h1p, h1l⟩
  have hm4k := elL hm2h
  have hm4l := un4S hm4k
  revert a4i
  refine Wo (Ws (R z (lN (vs := [(vI x1d), (vI x1a)]) g_174 z_174 z z fid (h1l.row 0 2 z)) ?_))
  have h1z := mm1 (Blk.lt hB1) h12.size
  have h2u := mm1 h1m.lt s11.size
  refine E0 (fs (cur' := [(vI x1d), (vI x1a)]) z_174 z z (((((h1m.chg s11 (atp h1z)).ext h17).chg h18 (djs h2u)).ext s16).chg s2t (atp (nmA h1z (dj_symm h2u)))) z (lb z) (oA z) z) ?_
  rintro _ w4m ⟨h4n, s4o⟩
  have h2v := s4o.one
  refine Wn ?_
  obtain rfl := som hm4l
  have h4p : Chg (· ∈ [g1]) w0 w15 := cext (cr [g1] w0) h12
  have h4q : Chg (· ∈ [g1]) w0 w1r := cext h4p h14
  have h4r : Chg (· ∈ [g1]) w0 w10 := cM h4q s11 (io sr)
  have h4s : Chg (· ∈ [g1]) w0 w1t := cext h4r h17
  have h2w : ∀ k ∈ [w10.heap.size], k ∈ [g1] ∨ w0.heap.size ≤ k := mor (lt_ (lt_ h12.size h14.size) s11.size)
  have h4t : Chg (· ∈ [g1]) w0 w1h := cM h4s h18 h2w
  have h4u : Chg (· ∈ [g1]) w0 w13 := cext h4t s16
  have h4v : Chg (· ∈ [g1]) w0 w4j := cM h4u s2t (all_app (io sr) h2w)
  have h4w : ∀ k ∈ [w15.heap.size], k ∈ [g1] ∨ w0.heap.size ≤ k := mor h12.size
  have h4x : Chg (· ∈ [g1]) w0 w4m := cM h4v h2v h4w
  exact Wr (ret1 hr (resC g_174 z_174 z h4n z) ⟨h4x, z, h1o, h1w, h1n, (h1p.chg h2v (djs h1z))⟩)
 rintro r5h ex5i a5j w5k rfl ⟨rfl, hq4y⟩
 have hm4z := elR hm2h
 obtain rfl := som hm4z
 exact ⟨hq4y, z⟩
theorem T_impl_checker_choice (ih : I_impl_checker_value n) : S_impl_checker_choice (B_impl_checker_choice n (F_impl_checker_value n)) := by
 obtain ⟨ih0, ih1, ih2, ih3, ih4⟩ := ih
 constructor
 intro B pn1_0 pc1_0 pn1_1 pc1_1 g1 pn2_4 pc2_4 pn2_5 pc2_5 pn2_6 pc2_6 pn2_7 pc2_7 pa1_0 pa1_1 pa2_4 pa2_5 pa2_6 pa2_7 x1 x2 x3 res w0 hm hB1 hBw p1_0 p1_1 p1_2 p2_0 p2_1 p2_2 p2_4 p2_5 p2_6 p2_7 p3_0
 unfold B_impl_checker_choice at hm
 obtain ⟨fn, hf, hb, hN, hr⟩ := fnE func156
 refine goW hf (hb.trans z) (hN.trans z) (lb z) (Ws (E z (fb z) ?_))
 rintro _ w14 ⟨rfl, h1q⟩
 have h11 := h1q.below
 have h1r : Blk w14 w0.heap.size [(Str.v x2.name), (vI x2.kind), (vI x2.size), (vB x2.little), (.slice pa2_4 pn2_4 pc2_4), (.slice pa2_5 pn2_5 pc2_5), (.slice pa2_6 pn2_6 pc2_6), (.slice pa2_7 pn2_7 pc2_7)] := h1q.blk
 refine E z (fa zero_174) ?_
 rintro _ w1d ⟨rfl, h1s⟩
 have h15 := h1s.below
 have h1a : Blk w1d w14.heap.size [(vI 0), (vI 0)] := h1s.blk
 refine Wn (Ws (Rm z (R z (fd f_74_7 z) ?_)))
 have h1t := h1r.ext h15
 refine R z (l1 g_72 z fid (h1t.at z)) ?_
 obtain ⟨x4d, e2c, hm2d⟩ := bdS hm
 have h1u := (p2_7.ext h11).ext h15
 refine RX z (at_ (α := Int) d_72 z_3 z z z h1u e2c) ?_
 rintro _ ⟨b4e, o4f, cs4g, rfl, h2e, h2f, h4h⟩
 obtain ⟨rfl, h2g⟩ := Int_open h2f
 refine R z (l1 g_3 z fid (h2e.at0 z)) (Rm z ?_)
 have h1v := (p1_0.ext h11).ext h15
 have h1w := (p1_1.ext h11).ext h15
 obtain ⟨r1g, r1b, r4i, e2h, hm1x⟩ := bd3S hm2d
 refine E z (fc call152 z (W_impl_checker_number (B := B) e2h ((hB1.ext h11).ext h15) hBw h1v h1w p1_2 h2g p3_0)) ?_
 rintro _ w16 ⟨s10, rfl, h4j, h1y, h2i, h1h, h1i⟩
 refine Rm z (R z (ext_ z z) (R z (ext_ z z) (E z (fa zero_174) ?_)))
 rintro _ w1e ⟨rfl, h1z⟩
 have h12 := h1z.below
 have h2j : Blk w1e w16.heap.size [(vI 0), (vI 0)] := h1z.blk
 refine Ra z (E0 (fs (cur' := [(vI r1b.at_), (vI r1b.code)]) z_174 z z h2j z (lb z) (oA z) z) ?_)
 rintro _ w18 ⟨h1j, s2k⟩
 have h13 := s2k.one
 refine Wn (Wq (Ws (R z (fd f_174_1 z) (R z (l1 g_3 z fid (h1j.at z)) (R z (nq z z) (Wn (Wc z (fun hc1k => ?_) (fun hc1k => ?_))))))))
 ·refine Ws (R z (lN (vs := [(vI r1b.at_), (vI r1b.code)]) g_174 z_174 z z fid (h1j.row 0 2 z)) ?_)
  have h20 := mm1 (Blk.lt hB1) h11.size
  refine E0 (fs (cur' := [(vI r1b.at_), (vI r1b.code)]) z_174 z z (((h1a.chg s10 (atp h20)).ext h12).chg h13 (djs (mm1 h1a.lt s10.size))) z (lb z) (oA z) z) ?_
  rintro _ w2l ⟨h2m, s2n⟩
  have h21 := s2n.one
  refine Wn ?_
  obtain rfl := som (ifT hm1x hc1k)
  have h2o : Chg (· ∈ [g1]) w0 w14 := cext (cr [g1] w0) h11
  have h2p : Chg (· ∈ [g1]) w0 w1d := cext h2o h15
  have h2q : Chg (· ∈ [g1]) w0 w16 := cM h2p s10 (io sr)
  have h2r : Chg (· ∈ [g1]) w0 w1e := cext h2q h12
  have h22 := lt_ (lt_ h11.size h15.size) s10.size
  have h2s : ∀ k ∈ [w16.heap.size], k ∈ [g1] ∨ w0.heap.size ≤ k := mor h22
  have h2t : Chg (· ∈ [g1]) w0 w18 := cM h2r h13 h2s
  have h2u : ∀ k ∈ [w14.heap.size], k ∈ [g1] ∨ w0.heap.size ≤ k := mor h11.size
  have h2v : Chg (· ∈ [g1]) w0 w2l := cM h2t h21 h2u
  exact Wr (ret1 hr (resC g_174 z_174 z h2m z) ⟨h2v, z, h1y, h2i, h1h, (((h1i.ext h12).chg h13 (djs (mm1 (Blk.lt hB1) h22))).chg h21 (djs h20))⟩)
 refine Wk (Wq (Ws (R z (fd f_74_6 z) ?_)))
 have h23 := ((h1t.chg s10 (atp (mmr (Blk.lt hB1)))).ext h12).chg h13 (djs (mm1 h1r.lt (lt_ h15.size s10.size)))
 refine R z (l1 g_72 z fid (h23.at z)) ?_
 have h1c := lt_ (lt_ h11.size h15.size) s10.size
 have h1f := mem1le (lt_ (lt_ hBw (Nat.le_of_lt (Blk.lt hB1))) h1c)
 have h24 := ((((p2_6.ext h11).ext h15).chg s10 (lg (mem1 hBw))).ext h12).chg h13 (lg h1f)
 refine R z (lnR d_72 z h24) (Rm z (Wn ?_))
 obtain ⟨u4k, hu2w, hm25⟩ := bdS (ifF hm1x hc1k)
 refine WC_forN (σ := Unit) (ρ := Spot × Int) (fun (k1l : Nat) (_ : Unit) a w => Sat 49 [(0, (.pointer (some ⟨g1, 0, none⟩))), (2, (vI x3)), (4, (.pointer (some ⟨w0.heap.size, 0, none⟩))), (6, (.pointer (some ⟨w14.heap.size, 0, none⟩))), (7, (vI r1g)), (8, (.pointer (some ⟨w16.heap.size, 0, none⟩))), (26, (.slice pa2_6 pn2_6 pc2_6)), (27, (vI (x2.tags.length : Int))), (28, (vI ((k1l : Nat) : Int)))] a ∧ Below w18.heap.size w18 w) (fun (_ : Unit) a w => Sat 49 [(2, (vI x3)), (6, (.pointer (some ⟨w14.heap.size, 0, none⟩)))] a ∧ Below w18.heap.size w18 w) (fun r ex a w => ex = .ret ∧ RetPost prog fn (Q_impl_checker_choice w0 g1 B pa1_0 pn1_0 pc1_0 pa1_1 pn1_1 pc1_1 x1 r) a w) hu2w ?_ ?_ ?_ ?_ ?_
 ·exact fun _ q => ⟨(q.k (s9 z z z z z z z z z)), (br w18)⟩
 ·rintro k1l _ a4l w2x o4m hk1m ⟨hS2y, s17⟩ hm2z
  refine Wu (e := [(0, (.pointer (some ⟨g1, 0, none⟩))), (2, (vI x3)), (4, (.pointer (some ⟨w0.heap.size, 0, none⟩))), (6, (.pointer (some ⟨w14.heap.size, 0, none⟩))), (7, (vI r1g)), (8, (.pointer (some ⟨w16.heap.size, 0, none⟩))), (26, (.slice pa2_6 pn2_6 pc2_6)), (27, (vI (x2.tags.length : Int))), (28, (vI ((k1l : Nat) : Int)))]) (N := 49) ?_ hS2y
  refine Ws (R z (lss z z) (Wn (Wq (Wc z (fun _ => ?_) (fun hc => (nolt hk1m hc).elim)))))
  refine Wk (Wq (WC_block (Ws (Rm z ?_))))
  obtain ⟨x4n, e30, hm26⟩ := bdS hm2z
  refine RX z (at_ (α := Int) d_72 z_3 z z z (h24.ext s17) e30) ?_
  rintro _ ⟨b4o, o4p, cs4q, rfl, h31, h32, h4r⟩
  obtain ⟨rfl, h4s⟩ := Int_open h32
  refine R z (l1 g_3 z fid (h31.at0 z)) (Ra z (Ra z (Wn (Ws (Rm z (Rm z (R z (eql z z) (Wn (Wc z (fun hc1n => ?_) (fun hc1n => ?_))))))))))
  ·refine Wq (WC_draw (X := noX) 1536 (.rd 0 (.rd 1 (.rd 2 (.rd 3 (.rd 4 (.rd 5 (.rd 6 (.rd 7 (.rd 8 (.ef 9 (.ef 10 .done))))))))))) mo (by kernel_rfl) fun w33 s19 _ => dR z z (mv z) (dR z z (fd f_74_7 z) (dR z z (l1 g_72 z fid (((h23.ext s17).ext s19).at z)) (dR z z (mv z) (dR z z (inc_ hk1m (lt_ (repS.len p2_6) LEN_le) z z) ?_)))))
   obtain ⟨x4t, e34, hm35⟩ := bdS (ifT hm26 hc1n)
   refine dRX z z (at_ (α := Int) d_72 z_3 z z z (((((h1u.chg s10 (lg (mem1 hBw))).ext h12).chg h13 (lg h1f)).ext s17).ext s19) e34) ?_
   rintro _ ⟨b4u, o4v, cs4w, rfl, h36, h37, h4x⟩
   obtain ⟨rfl, h38⟩ := Int_open h37
   refine dR z z (l1 g_3 z fid (h36.at0 z)) (dR z z (fd f_174_0 z) (dR z z (l1 g_3 z fid (((h1j.ext s17).ext s19).at z)) ?_))
   obtain ⟨r27, r4y, e39, hm3a⟩ := bd2S hm35
   refine dE z z (fc call134 z (ih0.run (B := B) e39 ((((h1i.ext h12).chg h13 (djs (mm1 (Blk.lt hB1) h1c))).ext s17).ext s19) hBw (((((h1v.chg s10 (lg (mem1 hBw))).ext h12).chg h13 (lg h1f)).ext s17).ext s19) (((((h1w.chg s10 (lg (mem1 hBw))).ext h12).chg h13 (lg h1f)).ext s17).ext s19) h1h h38 h1y)) (.inl z) ?_
   rintro _ w3b ⟨s28, rfl, h3c, h3d, h3e, h3f⟩
   have h1o := mm1 (Blk.lt hB1) h11.size
   refine dE0 z (fs (cur' := [(vI r27.at_), (vI r27.code)]) z_174 z z ((((((h1a.chg s10 (atp h1o)).ext h12).chg h13 (djs (mm1 h1a.lt s10.size))).ext s17).ext s19).chg s28 (atp h1o)) z (lb z) (oA z) z) (.inl z) ?_
   rintro _ w3g ⟨h3h, s3i⟩
   have h29 := s3i.one
   refine PR_done (Wo ?_)
   have h3j : Chg (· ∈ [g1]) w0 w14 := cext (cr [g1] w0) h11
   have h3k : Chg (· ∈ [g1]) w0 w1d := cext h3j h15
   have h3l : Chg (· ∈ [g1]) w0 w16 := cM h3k s10 (io sr)
   have h3m : Chg (· ∈ [g1]) w0 w1e := cext h3l h12
   have h3n : ∀ k ∈ [w16.heap.size], k ∈ [g1] ∨ w0.heap.size ≤ k := mor h1c
   have h3o : Chg (· ∈ [g1]) w0 w18 := cM h3m h13 h3n
   have h3p : Chg (· ∈ [g1]) w0 w2x := cext h3o s17
   have h3q : Chg (· ∈ [g1]) w0 w33 := cext h3p s19
   have h3r : Chg (· ∈ [g1]) w0 w3b := cM h3q s28 (io sr)
   have h3s : ∀ k ∈ [w14.heap.size], k ∈ [g1] ∨ w0.heap.size ≤ k := mor h11.size
   have h3t : Chg (· ∈ [g1]) w0 w3g := cM h3r h29 h3s
   exact Wr (rtO (QO_retL (som hm3a).symm (ret1 hr (resC g_174 z_174 z h3h z) ⟨h3t, z, h3c, h3d, h3e, (h3f.chg h29 (djs h1o))⟩)))
  exact Wk (Wg (R z (inc_ hk1m (lt_ (repS.len p2_6) LEN_le) z z) (Rm z (Wl (fun _ q => ⟨(), (som (ifF hm26 hc1n)).symm, ⟨(q.k (s9 z z z z z z z z z)), s17⟩⟩)))))
 ·rintro _ a4z w50 ⟨hS3u, s3v⟩
  refine Wu (e := [(0, (.pointer (some ⟨g1, 0, none⟩))), (2, (vI x3)), (4, (.pointer (some ⟨w0.heap.size, 0, none⟩))), (6, (.pointer (some ⟨w14.heap.size, 0, none⟩))), (7, (vI r1g)), (8, (.pointer (some ⟨w16.heap.size, 0, none⟩))), (26, (.slice pa2_6 pn2_6 pc2_6)), (27, (vI (x2.tags.length : Int))), (28, (vI ((x2.tags.length : Nat) : Int)))]) (N := 49) ?_ hS3u
  refine Ws (R z (lss z z) (Wn (Wq (Wc z (fun hc => (noltt hc).elim) (fun _ => ?_)))))
  exact WC_exit (fun a' ha' => ⟨rfl, ⟨(Sat.weaken ha' (s2 z z)), s3v⟩⟩)
 ·rintro _ a3w w3x rfl ⟨hS51, s1p⟩
  have hm3y := elL hm25
  revert a3w
  refine Wo (Ws (Rm z (R z (bP (parts := [(0, (.tmp 47)), (1, (.const (.int .i64 3)))]) (cs := [(vI x3), (vI 3)]) build_174 z z) ?_)))
  have h2a := mm1 (Blk.lt hB1) h11.size
  refine E0 (fs (cur' := [(vI x3), (vI 3)]) z_174 z z ((((h1a.chg s10 (atp h2a)).ext h12).chg h13 (djs (mm1 h1a.lt s10.size))).ext s1p) z (lb z) (oA z) z) ?_
  rintro _ w3z ⟨h40, s41⟩
  have h2b := s41.one
  refine Wn ?_
  obtain rfl := som hm3y
  have h42 : Chg (· ∈ [g1]) w0 w14 := cext (cr [g1] w0) h11
  have h43 : Chg (· ∈ [g1]) w0 w1d := cext h42 h15
  have h44 : Chg (· ∈ [g1]) w0 w16 := cM h43 s10 (io sr)
  have h45 : Chg (· ∈ [g1]) w0 w1e := cext h44 h12
  have h46 : ∀ k ∈ [w16.heap.size], k ∈ [g1] ∨ w0.heap.size ≤ k := mor h1c
  have h47 : Chg (· ∈ [g1]) w0 w18 := cM h45 h13 h46
  have h48 : Chg (· ∈ [g1]) w0 w3x := cext h47 s1p
  have h49 : ∀ k ∈ [w14.heap.size], k ∈ [g1] ∨ w0.heap.size ≤ k := mor h11.size
  have h4a : Chg (· ∈ [g1]) w0 w3z := cM h48 h2b h49
  exact Wr (ret1 hr (resC g_174 z_174 z h40 z) ⟨h4a, z, p3_0, (ii z), h1h, ((((h1i.ext h12).chg h13 (djs (mm1 (Blk.lt hB1) h1c))).ext s1p).chg h2b (djs h2a))⟩)
 rintro r52 ex53 a54 w55 rfl ⟨rfl, hq4b⟩
 have hm4c := elR hm25
 obtain rfl := som hm4c
 exact ⟨hq4b, z⟩
theorem T_impl_checker_option (ih : I_impl_checker_value n) : S_impl_checker_option (B_impl_checker_option n (F_impl_checker_value n)) := by
 obtain ⟨ih0, ih1, ih2, ih3, ih4⟩ := ih
 constructor
 intro B pn1_0 pc1_0 pn1_1 pc1_1 g1 pn2_4 pc2_4 pn2_5 pc2_5 pn2_6 pc2_6 pn2_7 pc2_7 pa1_0 pa1_1 pa2_4 pa2_5 pa2_6 pa2_7 x1 x2 x3 res w0 hm hB1 hBw p1_0 p1_1 p1_2 p2_0 p2_1 p2_2 p2_4 p2_5 p2_6 p2_7 p3_0
 unfold B_impl_checker_option at hm
 obtain ⟨fn, hf, hb, hN, hr⟩ := fnE func157
 refine goW hf (hb.trans z) (hN.trans z) (lb z) (Ws (E z (fb z) ?_))
 rintro _ w17 ⟨rfl, h1q⟩
 have h11 := h1q.below
 have h1r : Blk w17 w0.heap.size [(Str.v x2.name), (vI x2.kind), (vI x2.size), (vB x2.little), (.slice pa2_4 pn2_4 pc2_4), (.slice pa2_5 pn2_5 pc2_5), (.slice pa2_6 pn2_6 pc2_6), (.slice pa2_7 pn2_7 pc2_7)] := h1q.blk
 refine E z (fa zero_174) ?_
 rintro _ w1d ⟨rfl, h1s⟩
 have h16 := h1s.below
 have h1c : Blk w1d w17.heap.size [(vI 0), (vI 0)] := h1s.blk
 refine Wn (Ws (Rm z (Rm z ?_)))
 have h1e := (hB1.ext h11).ext h16
 have h1t := (p1_0.ext h11).ext h16
 have h1i := (p1_1.ext h11).ext h16
 have h1f := lt_ h11.size h16.size
 obtain ⟨r1a, e28, hm29⟩ := bdS hm
 refine E z (fc call154 z (W_impl_checker_skip (B := w0.heap.size) e28 h1f (repS.mono h1t (lt_ hBw (Nat.le_of_lt (Blk.lt hB1)))) (repS.mono h1i (lt_ hBw (Nat.le_of_lt (Blk.lt hB1)))) p1_2 (h1e.row 0 3 z) (Blk.lt hB1) p3_0 (ii z))) ?_
 rintro _ w18 ⟨s10, rfl, h1u, h2a⟩
 refine E z (fa zero_174) ?_
 rintro _ w1g ⟨rfl, h1v⟩
 have h12 := h1v.below
 have h2b : Blk w1g w18.heap.size [(vI 0), (vI 0)] := h1v.blk
 refine E0 (fs (cur' := [(vI r1a.at_), (vI r1a.code)]) z_174 z z h2b z (lb z) (oA z) z) ?_
 rintro _ w1b ⟨h1j, s2c⟩
 have h13 := s2c.one
 refine Wn (Wq (WC_block (Wq ?_)))
 obtain ⟨u2d, hu1w, hm1x⟩ := bdS hm29
 refine WC_cut (fun a w => ∃ (x1k : Bool), x1k = u2d ∧ Sat 45 [(0, (.pointer (some ⟨g1, 0, none⟩))), (2, (vI x3)), (4, (.pointer (some ⟨w0.heap.size, 0, none⟩))), (6, (.pointer (some ⟨w17.heap.size, 0, none⟩))), (7, (.pointer (some ⟨w18.heap.size, 0, none⟩))), (11, (vB x1k))] a ∧ Below w1b.heap.size w1b w) ?_ ?_
 ·refine Wg (R z (fd f_174_1 z) (R z (l1 g_3 z fid (h1j.at z)) (R z (nq z z) (Rm z ?_))))
  rcases bs (r1a.code != 0) with hc14 | hc14
  ·iterate 8 refine Nh z hc14 ?_
   exact R z (pT z hc14 z) (Ra z (Wl (fun _ q => ⟨true, som (ifT hu1w hc14), (q.k (s6 z z z z z z)), (br w1b)⟩)))
  refine Rh z hc14 (mv z) (Rh z hc14 (rd_nil z) (Rh z hc14 (fd f_172_1 z) ?_))
  have h1y := lt_ h1f s10.size
  refine Rh z hc14 (l1 g_25 z fid ((((h1e.ext s10).ext h12).chg h13 (djs (mm1 (Blk.lt hB1) h1y))).at z)) (Rh z hc14 (mv z) ?_)
  obtain ⟨x2e, e2f, hm2g⟩ := bdS (ifF hu1w hc14)
  refine RXg z z hc14 z (at_ (α := UInt8) d_25 z_5 z z z (((h1i.ext s10).ext h12).chg h13 (lg (mem1le (lt_ (lt_ hBw (Nat.le_of_lt (Blk.lt hB1))) h1y)))) e2f) ?_
  rintro _ ⟨b42, o43, cs44, rfl, h2h, h2i, h45⟩
  obtain rfl := UInt8_open h2i
  exact Rh z hc14 (l1 g_5 z fid (h2h.at0 z)) (Rh z hc14 (eql z z) (R z (pF z hc14 z) (Ra z (Wl (fun _ q => ⟨(byteI x2e) == (byteI (0 : UInt8)), som hm2g, (q.k (s6 z z z z z z)), (br w1b)⟩)))))
 rintro a2j w1l ⟨x1k, rfl, hS46, s15⟩
 revert a2j
 refine Wo (Wc z (fun hc1m => ?_) (fun hc1m => ?_))
 ·refine Ws (R z (lN (vs := [(vI r1a.at_), (vI r1a.code)]) g_174 z_174 z z fid ((h1j.ext s15).row 0 2 z)) (E0 (fs (cur' := [(vI r1a.at_), (vI r1a.code)]) z_174 z z ((((h1c.ext s10).ext h12).chg h13 (djs (mm1 h1c.lt s10.size))).ext s15) z (lb z) (oA z) z) ?_))
  rintro _ w2k ⟨h2l, s2m⟩
  have h1z := s2m.one
  refine Wn ?_
  obtain rfl := som (ifT hm1x hc1m)
  have h2n : Chg (· ∈ [g1]) w0 w17 := cext (cr [g1] w0) h11
  have h2o : Chg (· ∈ [g1]) w0 w1d := cext h2n h16
  have h2p : Chg (· ∈ [g1]) w0 w18 := cext h2o s10
  have h2q : Chg (· ∈ [g1]) w0 w1g := cext h2p h12
  have h20 := lt_ h1f s10.size
  have h2r : ∀ k ∈ [w18.heap.size], k ∈ [g1] ∨ w0.heap.size ≤ k := mor h20
  have h2s : Chg (· ∈ [g1]) w0 w1b := cM h2q h13 h2r
  have h2t : Chg (· ∈ [g1]) w0 w1l := cext h2s s15
  have h2u : ∀ k ∈ [w17.heap.size], k ∈ [g1] ∨ w0.heap.size ≤ k := mor h11.size
  have h2v : Chg (· ∈ [g1]) w0 w2k := cM h2t h1z h2u
  exact Wr (rtO (ret1 hr (resC g_174 z_174 z h2l z) ⟨h2v, z, h1u, h2a, p1_2, (((((h1e.ext s10).ext h12).chg h13 (djs (mm1 (Blk.lt hB1) h20))).ext s15).chg h1z (djs (mm1 (Blk.lt hB1) h11.size)))⟩))
 refine Ws (Rm z (R z (rd_nil z) (R z (fd f_172_1 z) ?_)))
 have h1h := lt_ h1f s10.size
 have h1n := (((h1e.ext s10).ext h12).chg h13 (djs (mm1 (Blk.lt hB1) h1h))).ext s15
 refine R z (l1 g_25 z fid (h1n.at z)) (Rm z ?_)
 obtain ⟨x47, e2w, hm21⟩ := bdS (ifF hm1x hc1m)
 have h1o := mem1le (lt_ (lt_ hBw (Nat.le_of_lt (Blk.lt hB1))) h1h)
 have h22 := (((h1i.ext s10).ext h12).chg h13 (lg h1o)).ext s15
 refine RX z (at_ (α := UInt8) d_25 z_5 z z z h22 e2w) ?_
 rintro _ ⟨b48, o49, cs4a, rfl, h2x, h2y, h4b⟩
 obtain rfl := UInt8_open h2y
 refine R z (l1 g_5 z fid (h2x.at0 z)) (R z (rd_gtr z z) (Ra z (Wn (Wc z (fun hc1p => ?_) (fun hc1p => ?_)))))
 ·refine Ws (Rm z (R z (bP (parts := [(0, (.tmp 35)), (1, (.const (.int .i64 4)))]) (cs := [(vI x3), (vI 4)]) build_174 z z) (E0 (fs (cur' := [(vI x3), (vI 4)]) z_174 z z ((((h1c.ext s10).ext h12).chg h13 (djs (mm1 h1c.lt s10.size))).ext s15) z (lb z) (oA z) z) ?_)))
  rintro _ w2z ⟨h30, s31⟩
  have h23 := s31.one
  refine Wn ?_
  obtain rfl := som (ifT hm21 hc1p)
  have h32 : Chg (· ∈ [g1]) w0 w17 := cext (cr [g1] w0) h11
  have h33 : Chg (· ∈ [g1]) w0 w1d := cext h32 h16
  have h34 : Chg (· ∈ [g1]) w0 w18 := cext h33 s10
  have h35 : Chg (· ∈ [g1]) w0 w1g := cext h34 h12
  have h36 : ∀ k ∈ [w18.heap.size], k ∈ [g1] ∨ w0.heap.size ≤ k := mor h1h
  have h37 : Chg (· ∈ [g1]) w0 w1b := cM h35 h13 h36
  have h38 : Chg (· ∈ [g1]) w0 w1l := cext h37 s15
  have h39 : ∀ k ∈ [w17.heap.size], k ∈ [g1] ∨ w0.heap.size ≤ k := mor h11.size
  have h3a : Chg (· ∈ [g1]) w0 w2z := cM h38 h23 h39
  exact Wr (rtO (ret1 hr (resC g_174 z_174 z h30 z) ⟨h3a, z, p3_0, (ii z), p1_2, (h1n.chg h23 (djs (mm1 (Blk.lt hB1) h11.size)))⟩))
 refine Wk (Wq (WC_draw (X := noX) 384 (.rd 0 (.rd 1 (.rd 2 (.rd 3 (.rd 4 (.rd 5 (.rd 6 (.ef 7 (.ef 8 .done))))))))) mo (by kernel_rfl) fun w3b s19 _ => dR z z (mv z) (dR z z (fd f_74_7 z) (dR z z (l1 g_72 z fid (((((((h1r.ext h16).ext s10).ext h12).chg h13 (djs (mm1 h1r.lt (lt_ h16.size s10.size)))).ext s15).ext s19).at z)) ?_))))
 obtain ⟨x4c, e3c, hm3d⟩ := bdS (ifF hm21 hc1p)
 refine dRX z z (at_ (α := Int) d_72 z_3 z z z (((((((p2_7.ext h11).ext h16).ext s10).ext h12).chg h13 (lg h1o)).ext s15).ext s19) e3c) ?_
 rintro _ ⟨b4d, o4e, cs4f, rfl, h3e, h3f, h4g⟩
 obtain ⟨rfl, h3g⟩ := Int_open h3f
 refine dR z z (l1 g_3 z fid (h3e.at0 z)) (dR z z (fd f_174_0 z) (dR z z (l1 g_3 z fid (((h1j.ext s15).ext s19).at z)) ?_))
 obtain ⟨r24, r4h, e3h, hm3i⟩ := bd2S hm3d
 refine dE z z (fc call134 z (ih0.run (B := B) e3h (h1n.ext s19) hBw (((((h1t.ext s10).ext h12).chg h13 (lg h1o)).ext s15).ext s19) (h22.ext s19) p1_2 h3g h1u)) (.inl z) ?_
 rintro _ w3j ⟨s25, rfl, h3k, h3l, h3m, h3n⟩
 have h26 := mm1 (Blk.lt hB1) h11.size
 refine dE0 z (fs (cur' := [(vI r24.at_), (vI r24.code)]) z_174 z z ((((((h1c.ext s10).ext h12).chg h13 (djs (mm1 h1c.lt s10.size))).ext s15).ext s19).chg s25 (atp h26)) z (lb z) (oA z) z) (.inl z) ?_
 rintro _ w3o ⟨h3p, s3q⟩
 have h27 := s3q.one
 refine PR_done (Wo ?_)
 obtain rfl := som hm3i
 have h3r : Chg (· ∈ [g1]) w0 w17 := cext (cr [g1] w0) h11
 have h3s : Chg (· ∈ [g1]) w0 w1d := cext h3r h16
 have h3t : Chg (· ∈ [g1]) w0 w18 := cext h3s s10
 have h3u : Chg (· ∈ [g1]) w0 w1g := cext h3t h12
 have h3v : ∀ k ∈ [w18.heap.size], k ∈ [g1] ∨ w0.heap.size ≤ k := mor h1h
 have h3w : Chg (· ∈ [g1]) w0 w1b := cM h3u h13 h3v
 have h3x : Chg (· ∈ [g1]) w0 w1l := cext h3w s15
 have h3y : Chg (· ∈ [g1]) w0 w3b := cext h3x s19
 have h3z : Chg (· ∈ [g1]) w0 w3j := cM h3y s25 (io sr)
 have h40 : ∀ k ∈ [w17.heap.size], k ∈ [g1] ∨ w0.heap.size ≤ k := mor h11.size
 have h41 : Chg (· ∈ [g1]) w0 w3o := cM h3z h27 h40
 exact Wr (ret1 hr (resC g_174 z_174 z h3p z) ⟨h41, z, h3k, h3l, h3m, (h3n.chg h27 (djs h26))⟩)
theorem T_impl_checker_checked (ih : I_impl_checker_value n) : S_impl_checker_checked (B_impl_checker_checked n (F_impl_checker_value n)) := by
 obtain ⟨ih0, ih1, ih2, ih3, ih4⟩ := ih
 constructor
 intro B pn1_0 pc1_0 pn1_1 pc1_1 g1 pn2_4 pc2_4 pn2_5 pc2_5 pn2_6 pc2_6 pn2_7 pc2_7 pa1_0 pa1_1 pa2_4 pa2_5 pa2_6 pa2_7 x1 x2 x3 res w0 hm hB1 hBw p1_0 p1_1 p1_2 p2_0 p2_1 p2_2 p2_4 p2_5 p2_6 p2_7 p3_0
 unfold B_impl_checker_checked at hm
 obtain ⟨fn, hf, hb, hN, hr⟩ := fnE func158
 refine goW hf (hb.trans z) (hN.trans z) (lb z) (Ws (E z (fb z) ?_))
 rintro _ w19 ⟨rfl, h1x⟩
 have h12 := h1x.below
 have h2n : Blk w19 w0.heap.size [(Str.v x2.name), (vI x2.kind), (vI x2.size), (vB x2.little), (.slice pa2_4 pn2_4 pc2_4), (.slice pa2_5 pn2_5 pc2_5), (.slice pa2_6 pn2_6 pc2_6), (.slice pa2_7 pn2_7 pc2_7)] := h1x.blk
 refine E z (fa zero_174) ?_
 rintro _ w1j ⟨rfl, h1y⟩
 have h18 := h1y.below
 have h1a : Blk w1j w19.heap.size [(vI 0), (vI 0)] := h1y.blk
 refine Wn (Ws (Rm z (R z (fd f_74_7 z) (R z (l1 g_72 z fid ((h2n.ext h18).at z)) ?_))))
 obtain ⟨x4p, e2o, hm2p⟩ := bdS hm
 refine RX z (at_ (α := Int) d_72 z_3 z z z ((p2_7.ext h12).ext h18) e2o) ?_
 rintro _ ⟨b4q, o4r, cs4s, rfl, h2q, h2r, h4t⟩
 obtain ⟨rfl, h2s⟩ := Int_open h2r
 refine R z (l1 g_3 z fid (h2q.at0 z)) (Rm z ?_)
 have h1z := (p1_0.ext h12).ext h18
 have h20 := (p1_1.ext h12).ext h18
 obtain ⟨r1b, r4u, e2t, hm21⟩ := bd2S hm2p
 refine E z (fc call134 z (ih0.run (B := B) e2t ((hB1.ext h12).ext h18) hBw h1z h20 p1_2 h2s p3_0)) ?_
 rintro _ w1c ⟨s13, rfl, h1p, h2u, h1k, h22⟩
 refine E z (fa zero_174) ?_
 rintro _ w1l ⟨rfl, h23⟩
 have h15 := h23.below
 have h1q : Blk w1l w1c.heap.size [(vI 0), (vI 0)] := h23.blk
 refine E0 (fs (cur' := [(vI r1b.at_), (vI r1b.code)]) z_174 z z h1q z (lb z) (oA z) z) ?_
 rintro _ w1r ⟨h1h, s2v⟩
 have h14 := s2v.one
 refine Wn (Wq (Ws (R z (fd f_174_1 z) (R z (l1 g_3 z fid (h1h.at z)) (R z (nq z z) (Wn (Wc z (fun hc1s => ?_) (fun hc1s => ?_))))))))
 ·refine Ws (R z (lN (vs := [(vI r1b.at_), (vI r1b.code)]) g_174 z_174 z z fid (h1h.row 0 2 z)) ?_)
  have h24 := mm1 (Blk.lt hB1) h12.size
  refine E0 (fs (cur' := [(vI r1b.at_), (vI r1b.code)]) z_174 z z (((h1a.chg s13 (atp h24)).ext h15).chg h14 (djs (mm1 h1a.lt s13.size))) z (lb z) (oA z) z) ?_
  rintro _ w2w ⟨h2x, s2y⟩
  have h25 := s2y.one
  refine Wn ?_
  obtain rfl := som (ifT hm21 hc1s)
  have h2z : Chg (· ∈ [g1]) w0 w19 := cext (cr [g1] w0) h12
  have h30 : Chg (· ∈ [g1]) w0 w1j := cext h2z h18
  have h31 : Chg (· ∈ [g1]) w0 w1c := cM h30 s13 (io sr)
  have h32 : Chg (· ∈ [g1]) w0 w1l := cext h31 h15
  have h26 := lt_ (lt_ h12.size h18.size) s13.size
  have h33 : ∀ k ∈ [w1c.heap.size], k ∈ [g1] ∨ w0.heap.size ≤ k := mor h26
  have h34 : Chg (· ∈ [g1]) w0 w1r := cM h32 h14 h33
  have h35 : ∀ k ∈ [w19.heap.size], k ∈ [g1] ∨ w0.heap.size ≤ k := mor h12.size
  have h36 : Chg (· ∈ [g1]) w0 w2w := cM h34 h25 h35
  exact Wr (ret1 hr (resC g_174 z_174 z h2x z) ⟨h36, z, h1p, h2u, h1k, (((h22.ext h15).chg h14 (djs (mm1 (Blk.lt hB1) h26))).chg h25 (djs h24))⟩)
 refine Wk (Ws (Rm z (R z (fd f_174_0 z) (R z (l1 g_3 z fid (h1h.at z)) ?_))))
 have h1i := lt_ (lt_ h12.size h18.size) s13.size
 have h1m := (h22.ext h15).chg h14 (djs (mm1 (Blk.lt hB1) h1i))
 have h27 := mem1le (lt_ (lt_ hBw (Nat.le_of_lt (Blk.lt hB1))) h1i)
 have h28 := ((h20.chg s13 (lg (mem1 hBw))).ext h15).chg h14 (lg h27)
 have h1n := lt_ (lt_ h1i h15.size) h14.size
 obtain ⟨r1e, e37, hm38⟩ := bdS (ifF hm21 hc1s)
 refine E z (fc call154 z (W_impl_checker_skip (B := w0.heap.size) e37 h1n (repS.mono (((h1z.chg s13 (lg (mem1 hBw))).ext h15).chg h14 (lg h27)) (lt_ hBw (Nat.le_of_lt (Blk.lt hB1)))) (repS.mono h28 (lt_ hBw (Nat.le_of_lt (Blk.lt hB1)))) h1k (h1m.row 0 3 z) (Blk.lt hB1) h1p (ii z))) ?_
 rintro _ w1g ⟨s11, rfl, h39, h3a⟩
 refine E z (fa zero_174) ?_
 rintro _ w1t ⟨rfl, h29⟩
 have h16 := h29.below
 have h3b : Blk w1t w1g.heap.size [(vI 0), (vI 0)] := h29.blk
 refine E0 (fs (cur' := [(vI r1e.at_), (vI r1e.code)]) z_174 z z h3b z (lb z) (oA z) z) ?_
 rintro _ w1o ⟨h2a, s3c⟩
 have h17 := s3c.one
 refine Wn (Wq (Wq ?_))
 obtain ⟨u3d, hu2b, hm2c⟩ := bdS hm38
 refine WC_cut (fun a w => ∃ (x1u : Bool), x1u = u3d ∧ Sat 52 [(6, (.pointer (some ⟨w19.heap.size, 0, none⟩))), (7, (.pointer (some ⟨w1c.heap.size, 0, none⟩))), (8, (.pointer (some ⟨w1g.heap.size, 0, none⟩))), (47, (vB x1u))] a ∧ Below w1o.heap.size w1o w) ?_ ?_
 ·refine WC_draw (X := noX) 0 (.rd 0 (.rd 1 (.rd 2 (.rd 3 (.rd 4 (.rd 5 (.rd 6 (.rd 7 (.rd 8 (.rd 9 (.rd 10 (.rd 11 (.rd 12 (.rd 13 (.rd 14 (.rd 15 (.rd 16 (.rd 17 (.rd 18 (.rd 19 (.rd 20 (.ef 21 (.rd 22 (.rd 23 .done)))))))))))))))))))))))) mo (by kernel_rfl) fun w4v s1f _ => dR z z (fd f_174_1 z) (dR z z (l1 g_3 z fid ((h2a.ext s1f).at z)) (dR z z (eql z z) (dR z z (mv z) ?_)))
  rcases bs (r1e.code == 0) with hc10 | hc10
  ·refine dRg z z z hc10 z (mv z) (dRg z z z hc10 z (rd_nil z) (dRg z z z hc10 z (fd f_172_1 z) ?_))
   have h1v := lt_ h1n s11.size
   have h2d := (((h1m.ext s11).ext h16).chg h17 (djs (mm1 (Blk.lt hB1) h1v))).ext s1f
   refine dRg z z z hc10 z (l1 g_25 z fid (h2d.at z)) (dRg z z z hc10 z (fd f_174_0 z) ?_)
   have h2e := (((h1h.ext s11).ext h16).chg h17 (djs (mm1 h1q.lt (lt_ h14.size s11.size)))).ext s1f
   refine dRg z z z hc10 z (l1 g_3 z fid (h2e.at z)) ?_
   obtain ⟨x3e, e3f, hm3g⟩ := bdS (ifT hu2b hc10)
   have h2f := (((h28.ext s11).ext h16).chg h17 (lg (mem1le (lt_ (lt_ hBw (Nat.le_of_lt (Blk.lt hB1))) h1v)))).ext s1f
   refine dRXg z z z hc10 z (at_ (α := UInt8) d_25 z_5 z z z h2f e3f) ?_
   rintro _ ⟨b4w, o4x, cs4y, rfl, h3h, h3i, h4z⟩
   obtain rfl := UInt8_open h3i
   refine dRg z z z hc10 z (l1 g_5 z fid (h3h.at0 z)) (dRg z z z hc10 z (rd_convUI d_5 d_3 z) (dRg z z z hc10 z (mv z) (dRg z z z hc10 z (rd_nil z) (dRg z z z hc10 z (fd f_172_1 z) (dRg z z z hc10 z (l1 g_25 z fid (h2d.at z)) (dRg z z z hc10 z (mv z) (dRg z z z hc10 z (fd f_174_0 z) (dRg z z z hc10 z (l1 g_3 z fid (h2e.at z)) ?_))))))))
   obtain ⟨x50, e3j, hm3k⟩ := bdS hm3g
   refine dRXg z z z hc10 z (rd_sliceX d_25 z_5 z z h2f z z e3j) ?_
   rintro _ ⟨a51, n52, c53, rfl, h3l⟩
   obtain ⟨r3m, e3n, hm3o⟩ := bdS hm3k
   refine dEg z z z hc10 z (fc call137 z (W_impl_SumOfBytes (B := B) e3n (lt_ (lt_ hBw (Nat.le_of_lt (Blk.lt hB1))) (lt_ (lt_ (lt_ h1v h16.size) h17.size) s1f.size)) h3l)) (.inr fun _ _ h => chgB (h.1)) ?_
   rintro _ w54 ⟨s3p, rfl, h55⟩
   exact dRg z z z hc10 z (nq z z) (dR z z (pT z hc10 z) (PR_done (fun _ q => ⟨(byteI x3e) != r3m, som hm3o, (q.k (s4 z z z z)), (bup s1f s3p)⟩)))
  iterate 17 refine dRn z z z hc10 z ?_
  exact dEn z z z hc10 z (dRn z z z hc10 z (dR z z (pF z hc10 z) (PR_done (fun _ q => ⟨false, som (ifF hu2b hc10), (q.k (s4 z z z z)), s1f⟩))))
 rintro a3q w2g ⟨x1u, rfl, hS56, s1d⟩
 revert a3q
 refine Wo (Wc z (fun hc1w => ?_) (fun hc1w => ?_))
 ·refine Ws (R z (fd f_174_0 z) (R z (l1 g_3 z fid (((((h1h.ext s11).ext h16).chg h17 (djs (mm1 h1q.lt (lt_ h14.size s11.size)))).ext s1d).at z)) (R z (bP (parts := [(0, (.tmp 49)), (1, (.const (.int .i64 5)))]) (cs := [(vI r1b.at_), (vI 5)]) build_174 z z) ?_)))
  have h2h := mm1 (Blk.lt hB1) h12.size
  have h3r := (((((h1a.chg s13 (atp h2h)).ext h15).chg h14 (djs (mm1 h1a.lt s13.size))).ext s11).ext h16).chg h17 (djs (mm1 h1a.lt (lt_ (lt_ (lt_ s13.size h15.size) h14.size) s11.size)))
  refine E0 (fs (cur' := [(vI r1b.at_), (vI 5)]) z_174 z z (h3r.ext s1d) z (lb z) (oA z) z) ?_
  rintro _ w3s ⟨h3t, s3u⟩
  have h2i := s3u.one
  refine Wn ?_
  obtain rfl := som (ifT hm2c hc1w)
  have h3v : Chg (· ∈ [g1]) w0 w19 := cext (cr [g1] w0) h12
  have h3w : Chg (· ∈ [g1]) w0 w1j := cext h3v h18
  have h3x : Chg (· ∈ [g1]) w0 w1c := cM h3w s13 (io sr)
  have h3y : Chg (· ∈ [g1]) w0 w1l := cext h3x h15
  have h3z : ∀ k ∈ [w1c.heap.size], k ∈ [g1] ∨ w0.heap.size ≤ k := mor h1i
  have h40 : Chg (· ∈ [g1]) w0 w1r := cM h3y h14 h3z
  have h41 : Chg (· ∈ [g1]) w0 w1g := cext h40 s11
  have h42 : Chg (· ∈ [g1]) w0 w1t := cext h41 h16
  have h2j := lt_ h1n s11.size
  have h43 : ∀ k ∈ [w1g.heap.size], k ∈ [g1] ∨ w0.heap.size ≤ k := mor h2j
  have h44 : Chg (· ∈ [g1]) w0 w1o := cM h42 h17 h43
  have h45 : Chg (· ∈ [g1]) w0 w2g := cext h44 s1d
  have h46 : ∀ k ∈ [w19.heap.size], k ∈ [g1] ∨ w0.heap.size ≤ k := mor h12.size
  have h47 : Chg (· ∈ [g1]) w0 w3s := cM h45 h2i h46
  exact Wr (ret1 hr (resC g_174 z_174 z h3t z) ⟨h47, z, h1p, (ii z), h1k, (((((h1m.ext s11).ext h16).chg h17 (djs (mm1 (Blk.lt hB1) h2j))).ext s1d).chg h2i (djs h2h))⟩)
 refine Wk (Ws (R z (lN (vs := [(vI r1e.at_), (vI r1e.code)]) g_174 z_174 z z fid ((h2a.ext s1d).row 0 2 z)) ?_))
 have h2k := mm1 (Blk.lt hB1) h12.size
 have h48 := (((((h1a.chg s13 (atp h2k)).ext h15).chg h14 (djs (mm1 h1a.lt s13.size))).ext s11).ext h16).chg h17 (djs (mm1 h1a.lt (lt_ (lt_ (lt_ s13.size h15.size) h14.size) s11.size)))
 refine E0 (fs (cur' := [(vI r1e.at_), (vI r1e.code)]) z_174 z z (h48.ext s1d) z (lb z) (oA z) z) ?_
 rintro _ w49 ⟨h4a, s4b⟩
 have h2l := s4b.one
 refine Wn ?_
 obtain rfl := som (ifF hm2c hc1w)
 have h4c : Chg (· ∈ [g1]) w0 w19 := cext (cr [g1] w0) h12
 have h4d : Chg (· ∈ [g1]) w0 w1j := cext h4c h18
 have h4e : Chg (· ∈ [g1]) w0 w1c := cM h4d s13 (io sr)
 have h4f : Chg (· ∈ [g1]) w0 w1l := cext h4e h15
 have h4g : ∀ k ∈ [w1c.heap.size], k ∈ [g1] ∨ w0.heap.size ≤ k := mor h1i
 have h4h : Chg (· ∈ [g1]) w0 w1r := cM h4f h14 h4g
 have h4i : Chg (· ∈ [g1]) w0 w1g := cext h4h s11
 have h4j : Chg (· ∈ [g1]) w0 w1t := cext h4i h16
 have h2m := lt_ h1n s11.size
 have h4k : ∀ k ∈ [w1g.heap.size], k ∈ [g1] ∨ w0.heap.size ≤ k := mor h2m
 have h4l : Chg (· ∈ [g1]) w0 w1o := cM h4j h17 h4k
 have h4m : Chg (· ∈ [g1]) w0 w2g := cext h4l s1d
 have h4n : ∀ k ∈ [w19.heap.size], k ∈ [g1] ∨ w0.heap.size ≤ k := mor h12.size
 have h4o : Chg (· ∈ [g1]) w0 w49 := cM h4m h2l h4n
 exact Wr (ret1 hr (resC g_174 z_174 z h4a z) ⟨h4o, z, h39, h3a, h1k, (((((h1m.ext s11).ext h16).chg h17 (djs (mm1 (Blk.lt hB1) h2m))).ext s1d).chg h2l (djs h2k))⟩)
theorem A_impl_checker_value : ∀ n, I_impl_checker_value n
  | 0 => ⟨⟨fun hm => by intros; exact nomatch (show none = some _ from hm)⟩, ⟨fun hm => by intros; exact nomatch (show none = some _ from hm)⟩, ⟨fun hm => by intros; exact nomatch (show none = some _ from hm)⟩, ⟨fun hm => by intros; exact nomatch (show none = some _ from hm)⟩, ⟨fun hm => by intros; exact nomatch (show none = some _ from hm)⟩⟩
  | n + 1 => ⟨T_impl_checker_value (A_impl_checker_value n), T_impl_checker_array (A_impl_checker_value n), T_impl_checker_choice (A_impl_checker_value n), T_impl_checker_option (A_impl_checker_value n), T_impl_checker_checked (A_impl_checker_value n)⟩
theorem W_impl_checker_value : S_impl_checker_value (F_impl_checker_value n).impl_checker_value := (A_impl_checker_value n).1
theorem W_impl_checker_array : S_impl_checker_array (F_impl_checker_value n).impl_checker_array := (A_impl_checker_value n).2.1
theorem W_impl_checker_choice : S_impl_checker_choice (F_impl_checker_value n).impl_checker_choice := (A_impl_checker_value n).2.2.1
theorem W_impl_checker_option : S_impl_checker_option (F_impl_checker_value n).impl_checker_option := (A_impl_checker_value n).2.2.2.1
theorem W_impl_checker_checked : S_impl_checker_checked (F_impl_checker_value n).impl_checker_checked := (A_impl_checker_value n).2.2.2.2

def Q_impl_CheckValue (w0 : World) (B : Nat) (r : Int × Int) (v : Value) (w' : World) : Prop := Below w0.heap.size w0 w' ∧ un2 (fun r1 r2 => v = .tuple #[(vI r1), (vI r2)] ∧ inI r1 ∧ inI r2) r
theorem W_impl_CheckValue {x1 : Desc} {x2 : Int} {x3 : List UInt8} {x4 : Int} {res : Int × Int} (hm : M_impl_CheckValue n x1 x2 x3 x4 = some res) (hBw : B ≤ w0.heap.size) (p1_0 : repS w0 B (.slice pa1_0 pn1_0 pc1_0) x1.rules) (p2_0 : inI x2) (p3_0 : repS w0 B (.slice pa3_0 pn3_0 pc3_0) x3) (p4_0 : inI x4) : CallsR prog 100 [(.agg #[(.slice pa1_0 pn1_0 pc1_0)]), (vI x2), (.slice pa3_0 pn3_0 pc3_0), (vI x4)] w0 (Q_impl_CheckValue w0 B res) := by
 unfold M_impl_CheckValue at hm
 obtain ⟨fn, hf, hb, hN, hr⟩ := fnE func100
 refine goW hf (hb.trans z) (hN.trans z) (lb z) (Ws (E z (fb z) ?_))
 rintro _ w17 ⟨rfl, h1b⟩
 have h13 := h1b.below
 have h1c : Blk w17 w0.heap.size [(.slice pa1_0 pn1_0 pc1_0)] := h1b.blk
 refine Ra z (Ra z (Wn (Wq (Wq ?_))))
 obtain ⟨u1o, hu1p, hm1d⟩ := bdS hm
 refine WC_cut (fun a w => ∃ (x18 : Bool), x18 = u1o ∧ Sat 43 [(1, (vI x2)), (2, (.slice pa3_0 pn3_0 pc3_0)), (3, (vI x4)), (4, (.pointer (some ⟨w0.heap.size, 0, none⟩))), (30, (vB x18))] a ∧ Below w17.heap.size w17 w) ?_ ?_
 ·refine Wg (R z (lN (vs := [(.slice pa1_0 pn1_0 pc1_0)]) g_31 z_31 z z fid (h1c.row 0 1 z)) (Rm z ?_))
  obtain ⟨r1q, e1r, hm1e⟩ := bdS hu1p
  refine E z (fc call76 z (W_impl_known (B := B) e1r (lt_ hBw h13.size) (p1_0.ext h13) p2_0)) ?_
  rintro _ w25 ⟨s15, rfl⟩
  refine R z (not_ z) (Rm z ?_)
  rcases bs (!r1q) with hc11 | hc11
  ·exact Nh z hc11 (Nh z hc11 (R z (pT z hc11 z) (Rm z (Nh z z (Nh z z (Nh z z (Nh z z (R z (pT z z z) (Rm z (Nh z z (Nh z z (Nh z z (R z (pT z z z) (Wl (fun _ q => ⟨true, som (ifT hm1e hc11), (q.k (s5 z z z z z)), s15⟩)))))))))))))))
  have hm1f := ifF hm1e hc11
  refine Rh z hc11 (mv z) (Rh z hc11 (lss z z) (R z (pF z hc11 z) (Rm z ?_)))
  rcases bs (decide (x4 < 0)) with hc10 | hc10
  ·iterate 4 refine Nh z hc10 ?_
   exact R z (pT z hc10 z) (Rm z (Nh z z (Nh z z (Nh z z (R z (pT z z z) (Wl (fun _ q => ⟨true, som (ifT hm1f hc10), (q.k (s5 z z z z z)), s15⟩)))))))
  have hm1g := ifF hm1f hc10
  refine Rh z hc10 (mv z) (Rh z hc10 (mv z) ?_)
  have h1h := (p3_0.ext h13).ext s15
  refine Rh z hc10 (lnR d_25 z h1h) (Rh z hc10 (rd_gtr z z) (R z (pF z hc10 z) (Rm z ?_)))
  rcases bs (decide ((x3.length : Int) < x4)) with hc12 | hc12
  ·iterate 3 refine Nh z hc12 ?_
   exact R z (pT z hc12 z) (Wl (fun _ q => ⟨true, som (ifT hm1g hc12), (q.k (s5 z z z z z)), s15⟩))
  exact Rh z hc12 (mv z) (Rh z hc12 (lnR d_25 z h1h) (Rh z hc12 (rd_gtr z z) (R z (pF z hc12 z) (Wl (fun _ q => ⟨decide (400 < (x3.length : Int)), som (ifF hm1g hc12), (q.k (s5 z z z z z)), s15⟩)))))
 rintro a1s w1t ⟨x18, rfl, hS26, s14⟩
 revert a1s
 refine Wo (Wc z (fun hc19 => ?_) (fun hc19 => ?_))
 ·refine Ws (Ra z (Ra z (Wn ?_)))
  obtain rfl := som (ifT hm1d hc19)
  exact Wr (ret2 hr z z ⟨(bup h13 s14), z, (ii z), (ii z)⟩)
 refine Wk (Ws (R z (lN (vs := [(.slice pa1_0 pn1_0 pc1_0)]) g_31 z_31 z z fid ((h1c.ext s14).row 0 1 z)) (Rm z (R z (bP (parts := [(0, (.tmp 31)), (1, (.tmp 32))]) (cs := [(.slice pa1_0 pn1_0 pc1_0), (.slice pa3_0 pn3_0 pc3_0), (vI 0)]) build_172 z z) (E z (fb z) ?_)))))
 rintro _ w1u ⟨rfl, h1i⟩
 have h16 := h1i.below
 have h1v : Blk w1u w1t.heap.size [(.slice pa1_0 pn1_0 pc1_0), (.slice pa3_0 pn3_0 pc3_0), (vI 0)] := h1i.blk
 refine Ra z (Wn (Ws (Rm z (Rm z (Rm z ?_)))))
 have h1a := lt_ h13.size s14.size
 obtain ⟨r1j, r27, e1w, hm1x⟩ := bd2S (ifF hm1d hc19)
 refine E z (fc call134 z (W_impl_checker_value.run (B := B) e1w h1v (lt_ hBw h1a) (((p1_0.ext h13).ext s14).ext h16) (((p3_0.ext h13).ext s14).ext h16) (ii z) p2_0 p4_0)) ?_
 rintro _ w1y ⟨s1k, rfl, h1z, h20, h28, h29⟩
 refine E z (fa zero_174) ?_
 rintro _ w21 ⟨rfl, h1l⟩
 have h22 : Blk w21 w1y.heap.size [(vI 0), (vI 0)] := h1l.blk
 refine E0 (fs (cur' := [(vI r1j.at_), (vI r1j.code)]) z_174 z z h22 z (lb z) (oA z) z) ?_
 rintro _ w2a ⟨h23, s24⟩
 refine Wn (Wq (WC_draw (X := noX) 0 (.rd 0 (.rd 1 (.rd 2 (.rd 3 (.rd 4 (.rd 5 .done)))))) mo (by kernel_rfl) fun w2b s1m _ => dR z z (fd f_174_0 z) ?_))
 have h1n := h23.ext s1m
 refine dR z z (l1 g_3 z fid (h1n.at z)) (dR z z (fd f_174_1 z) (dR z z (l1 g_3 z fid (h1n.at z)) (dR z z (asg z) (dR z z (asg z) (PR_done (Wo ?_))))))
 obtain rfl := som hm1x
 exact Wr (ret2 hr z z ⟨(bup (bM (bup (bM (bup (bup h13 s14) h16) s1k (mem1le h1a)) h1l.below) s24.one (mem1le (lt_ (lt_ h1a h16.size) s1k.size))) s1m), z, h1z, h20⟩)
def Q_impl_FormatInt (w0 : World) (B : Nat) (r : Str) (v : Value) (w' : World) : Prop := Below w0.heap.size w0 w' ∧ (fun r1 => (Str.v r1) = v ∧ r1.b.length ≤ LEN) r
theorem W_impl_FormatInt {x1 : Int} {res : Str} (hm : M_impl_FormatInt x1 = some res) (hBw : B ≤ w0.heap.size) (hG : Gl w0 B) (p1_0 : inI x1) : CallsR prog 48 [(vI x1)] w0 (Q_impl_FormatInt w0 B res) := by
 unfold M_impl_FormatInt at hm
 obtain ⟨fn, hf, hb, hN, hr⟩ := fnE func48
 refine goW hf (hb.trans z) (hN.trans z) (lb z) (Ws (Ra z (Wn (Ws (Rm z ?_)))))
 obtain ⟨r14, e10, hm11⟩ := bdS hm
 refine E z (fc call79 z (W_strconv_Itoa (B := B) e10 hBw hG p1_0)) ?_
 rintro _ w15 ⟨s12, rfl, h13⟩
 refine Ra z (Wn ?_)
 obtain rfl := som hm11
 exact Wr (ret1 hr z ⟨s12, z, h13⟩)
def Q_impl_StepOf (w0 : World) (B : Nat) (r : Str) (v : Value) (w' : World) : Prop := Below w0.heap.size w0 w' ∧ (fun r1 => (Str.v r1) = v ∧ r1.b.length ≤ LEN) r
theorem W_impl_StepOf {x1 : Desc} {x2 : Int} {x3 : Int} {res : Str} (hm : M_impl_StepOf n x1 x2 x3 = some res) (hBw : B ≤ w0.heap.size) (hG : Gl w0 B) (p1_0 : repS w0 B (.slice pa1_0 pn1_0 pc1_0) x1.rules) (p2_0 : inI x2) (p3_0 : inI x3) : CallsR prog 104 [(.agg #[(.slice pa1_0 pn1_0 pc1_0)]), (vI x2), (vI x3)] w0 (Q_impl_StepOf w0 B res) := by
 unfold M_impl_StepOf at hm
 obtain ⟨fn, hf, hb, hN, hr⟩ := fnE func104
 refine goW hf (hb.trans z) (hN.trans z) (lb z) (Ws (E z (fb z) ?_))
 rintro _ w1a ⟨rfl, h1m⟩
 have h10 := h1m.below
 have h1n : Blk w1a w0.heap.size [(.slice pa1_0 pn1_0 pc1_0)] := h1m.blk
 refine Ra z (Wn (Wq (Wq ?_)))
 obtain ⟨u2e, hu2f, hm1o⟩ := bdS hm
 refine WC_cut (fun a w => ∃ (x1b : Bool), x1b = u2e ∧ Sat 58 [(1, (vI x2)), (2, (vI x3)), (3, (.pointer (some ⟨w0.heap.size, 0, none⟩))), (15, (vB x1b))] a ∧ Below w1a.heap.size w1a w) ?_ ?_
 ·refine Wg (R z (lN (vs := [(.slice pa1_0 pn1_0 pc1_0)]) g_31 z_31 z z fid (h1n.row 0 1 z)) (Rm z ?_))
  obtain ⟨r2g, e2h, hm1p⟩ := bdS hu2f
  refine E z (fc call76 z (W_impl_known (B := B) e2h (lt_ hBw h10.size) (p1_0.ext h10) p2_0)) ?_
  rintro _ w30 ⟨s1q, rfl⟩
  refine R z (not_ z) (Rm z ?_)
  rcases bs (!r2g) with hc16 | hc16
  ·exact Nh z hc16 (Nh z hc16 (R z (pT z hc16 z) (Wl (fun _ q => ⟨true, som (ifT hm1p hc16), (q.k (s4 z z z z)), s1q⟩))))
  exact Rh z hc16 (mv z) (Rh z hc16 (lss z z) (R z (pF z hc16 z) (Wl (fun _ q => ⟨decide (x3 < 0), som (ifF hm1p hc16), (q.k (s4 z z z z)), s1q⟩))))
 rintro a2i w1r ⟨x1b, rfl, hS31, s11⟩
 revert a2i
 refine Wo (Wc z (fun hc1c => ?_) (fun hc1c => ?_))
 ·refine Ws (Ra z (Wn ?_))
  obtain rfl := som (ifT hm1o hc1c)
  exact Wr (ret1 hr z ⟨(bup h10 s11), z, (lb z)⟩)
 refine Wk (Ws (R z (fd f_31_0 z) (R z (l1 g_29 z fid ((h1n.ext s11).at z)) (Rm z ?_))))
 obtain ⟨x15, e2j, hm1s⟩ := bdS (ifF hm1o hc1c)
 refine RX z (at_ (α := Rule) d_29 z_74 z z z ((p1_0.ext h10).ext s11) e2j) ?_
 rintro _ ⟨b32, o33, cs34, rfl, h2k, h2l, h35⟩
 obtain ⟨a1t, n1u, c1v, a1w, n1x, c1y, a1z, n20, c21, a22, n23, c24, rfl, h36, h37, h38, h39, h25, h3a, h3b⟩ := Rule_open h2l
 refine R z (lN (vs := [(Str.v x15.name), (vI x15.kind), (vI x15.size), (vB x15.little), (.slice a1t n1u c1v), (.slice a1w n1x c1y), (.slice a1z n20 c21), (.slice a22 n23 c24)]) g_74 z_74 z z fid h2k) (E z (fa zero_74) ?_)
 rintro _ w2m ⟨rfl, h26⟩
 have h12 := h26.below
 have h2n : Blk w2m w1r.heap.size [(Str.v (⟨[]⟩ : Str)), (vI 0), (vI 0), (vB false), (.slice none 0 0), (.slice none 0 0), (.slice none 0 0), (.slice none 0 0)] := h26.blk
 refine E0 (fs (cur' := [(Str.v x15.name), (vI x15.kind), (vI x15.size), (vB x15.little), (.slice a1t n1u c1v), (.slice a1w n1x c1y), (.slice a1z n20 c21), (.slice a22 n23 c24)]) z_74 z z h2n z (lb z) (oA z) z) ?_
 rintro _ w19 ⟨h18, s2o⟩
 have h13 := s2o.one
 refine Wn (Wq (WC_block (Ws (R z (fd f_74_1 z) (R z (l1 g_3 z fid (h18.at z)) (R z (eql z z) (Ra z (Wn (Wc z (fun hc1d => ?_) (fun hc1d => ?_))))))))))
 ·refine Ws (Rm z ?_)
  have h1e := lt_ h10.size s11.size
  obtain ⟨r3c, e2p, hm2q⟩ := bdS (ifT hm1s hc1d)
  refine E z (fc call48 z (W_impl_FormatInt (B := B) e2p (lt_ hBw (lt_ (lt_ h1e h12.size) h13.size)) ((((hG.ext h10).ext s11).ext h12).chg h13 (lg (mem1le (lt_ hBw h1e)))) p3_0)) ?_
  rintro _ w3d ⟨s2r, rfl, h2s⟩
  refine Ra z (Wn ?_)
  obtain rfl := som hm2q
  exact Wr (rtO (ret1 hr z ⟨(bup (bM (bup (bup h10 s11) h12) h13 (mem1le h1e)) s2r), z, h2s⟩))
 refine Wq ?_
 obtain ⟨u2t, hu27, hm28⟩ := bdS (ifF hm1s hc1d)
 refine WC_cut (fun a w => ∃ (x1f : Bool), x1f = u2t ∧ Sat 58 [(2, (vI x3)), (7, (.pointer (some ⟨w1r.heap.size, 0, none⟩))), (27, (vB x1f))] a ∧ Below w19.heap.size w19 w) ?_ ?_
 ·refine Wg (R z (fd f_74_1 z) (R z (l1 g_3 z fid (h18.at z)) (R z (eql z z) (Rm z ?_))))
  rcases bs (x15.kind == 6) with hc14 | hc14
  ·exact Rh z hc14 (mv z) (Rh z hc14 (fd f_74_5 z) (Rh z hc14 (l1 g_47 z fid (h18.at z)) (Rh z hc14 (lnR d_47 z ((h25.ext h12).chg h13 (lg (mem1le (lt_ hBw (lt_ h10.size s11.size)))))) (Rh z hc14 (lss z z) (R z (pT z hc14 z) (Ra z (Wl (fun _ q => ⟨decide (x3 < (x15.names.length : Int)), som (ifT hu27 hc14), (q.k (s3 z z z)), (br w19)⟩))))))))
  iterate 5 refine Nh z hc14 ?_
  exact R z (pF z hc14 z) (Ra z (Wl (fun _ q => ⟨false, som (ifF hu27 hc14), (q.k (s3 z z z)), (br w19)⟩)))
 rintro a2u w3e ⟨x1f, rfl, hS3f, s17⟩
 revert a2u
 refine Wo (Wc z (fun hc1g => ?_) (fun hc1g => ?_))
 ·refine Ws (R z (fd f_74_5 z) (R z (l1 g_47 z fid ((h18.ext s17).at z)) (Rm z ?_)))
  obtain ⟨x3g, e2v, hm2w⟩ := bdS (ifT hm28 hc1g)
  have h29 := lt_ h10.size s11.size
  refine RX z (at_ (α := Str) d_47 z_9 z z z (((h25.ext h12).chg h13 (lg (mem1le (lt_ hBw h29)))).ext s17) e2v) ?_
  rintro _ ⟨b3h, o3i, cs3j, rfl, h2x, h2y, h3k⟩
  obtain ⟨rfl, h2z⟩ := Str_open h2y
  refine R z (l1 g_9 z fid (h2x.at0 z)) (Ra z (Wn ?_))
  obtain rfl := som hm2w
  exact Wr (rtO (ret1 hr z ⟨(bup (bM (bup (bup h10 s11) h12) h13 (mem1le h29)) s17), z, h2z⟩))
 have hm2a := ifF hm28 hc1g
 refine Ws (Rm z (R z (rd_gtr z z) (Ra z (Wn (Wc z (fun hc1h => ?_) (fun hc1h => ?_))))))
 ·refine Ws (Ra z (Wn ?_))
  obtain rfl := som (ifT hm2a hc1h)
  exact Wr (rtO (ret1 hr z ⟨(bup (bM (bup (bup h10 s11) h12) h13 (mem1le (lt_ h10.size s11.size))) s17), z, (lb z)⟩))
 have hm2b := ifF hm2a hc1h
 refine Ws (R z (fd f_74_1 z) ?_)
 have h1i := h18.ext s17
 refine R z (l1 g_3 z fid (h1i.at z)) (R z (eql z z) (Ra z (Wn (Wc z (fun hc1j => ?_) (fun hc1j => ?_)))))
 ·refine Ws (Ra z (Wn ?_))
  obtain rfl := som (ifT hm2b hc1j)
  exact Wr (rtO (ret1 hr z ⟨(bup (bM (bup (bup h10 s11) h12) h13 (mem1le (lt_ h10.size s11.size))) s17), z, (lb z)⟩))
 have hm2c := ifF hm2b hc1j
 refine Ws (R z (fd f_74_1 z) (R z (l1 g_3 z fid (h1i.at z)) (R z (eql z z) (Ra z (Wn (Wc z (fun hc1k => ?_) (fun hc1k => ?_)))))))
 ·refine Ws (Ra z (Wn ?_))
  obtain rfl := som (ifT hm2c hc1k)
  exact Wr (rtO (ret1 hr z ⟨(bup (bM (bup (bup h10 s11) h12) h13 (mem1le (lt_ h10.size s11.size))) s17), z, (lb z)⟩))
 have hm2d := ifF hm2c hc1k
 refine Ws (R z (fd f_74_1 z) (R z (l1 g_3 z fid (h1i.at z)) (R z (eql z z) (Ra z (Wn (Wc z (fun hc1l => ?_) (fun hc1l => ?_)))))))
 ·refine Ws (Ra z (Wn ?_))
  obtain rfl := som (ifT hm2d hc1l)
  exact Wr (rtO (ret1 hr z ⟨(bup (bM (bup (bup h10 s11) h12) h13 (mem1le (lt_ h10.size s11.size))) s17), z, (lb z)⟩))
 refine Wk (Ws (Ra z (Wn ?_)))
 obtain rfl := som (ifF hm2d hc1l)
 exact Wr (ret1 hr z ⟨(bup (bM (bup (bup h10 s11) h12) h13 (mem1le (lt_ h10.size s11.size))) s17), z, (lb z)⟩)
def Q_impl_childRule (w0 : World) (B : Nat) (r : Int) (v : Value) (w' : World) : Prop := Below w0.heap.size w0 w' ∧ (fun r1 => (vI r1) = v ∧ inI r1) r
theorem W_impl_childRule {x1 : Desc} {x2 : Int} {x3 : Val} {b3 o3 : Nat} {x4 : Int} {res : Int} (hm : M_impl_childRule x1 x2 x3 x4 = some res) (hBw : B ≤ w0.heap.size) (p1_0 : repS w0 B (.slice pa1_0 pn1_0 pc1_0) x1.rules) (p2_0 : inI x2) (p3_0 : inI x3.number) (p3_1 : repS w0 B (.slice pa3_1 pn3_1 pc3_1) x3.bytes) (p3_2 : repS w0 B (.slice pa3_2 pn3_2 pc3_2) x3.items) (hC3 : CellsAt w0 b3 o3 [(vI x3.number), (.slice pa3_1 pn3_1 pc3_1), (.slice pa3_2 pn3_2 pc3_2)]) (hC3b : b3 < B) (p4_0 : inI x4) : CallsR prog 105 [(.agg #[(.slice pa1_0 pn1_0 pc1_0)]), (vI x2), (.pointer (some ⟨b3, o3, none⟩)), (vI x4)] w0 (Q_impl_childRule w0 B res) := by
 unfold M_impl_childRule at hm
 obtain ⟨fn, hf, hb, hN, hr⟩ := fnE func105
 refine goW hf (hb.trans z) (hN.trans z) (lb z) (Ws (E z (fb z) ?_))
 rintro _ w10 ⟨rfl, h1p⟩
 have h11 := h1p.below
 have h1y : Blk w10 w0.heap.size [(.slice pa1_0 pn1_0 pc1_0)] := h1p.blk
 refine Ra z (Wn (Ws (R z (fd f_31_0 z) (R z (l1 g_29 z fid (h1y.at z)) (Rm z ?_)))))
 obtain ⟨x13, e1z, hm1q⟩ := bdS hm
 refine RX z (at_ (α := Rule) d_29 z_74 z z z (p1_0.ext h11) e1z) ?_
 rintro _ ⟨b16, o17, cs3d, rfl, h12, h20, h3e⟩
 obtain ⟨a3f, n3g, c3h, a3i, n3j, c3k, a1b, n1c, c1d, a3l, n3m, c3n, rfl, h3o, h3p, h3q, h3r, h3s, h18, h15⟩ := Rule_open h20
 refine Ra z (Wn (Wq (Ws (Rm z (R z (rd_nil z) (R z (fd f_74_1 z) (R z (l1 g_3 z fid (h12.at (j := 1) z)) (Wn (WC_block (Ws (R z (eql z z) (Ra z (Wn (Wc z (fun hc1e => ?_) (fun hc1e => ?_)))))))))))))))
 ·refine Ws (Rm z (R z (rd_nil z) (R z (fd f_74_7 z) (R z (l1 g_72 z fid (h12.at (j := 7) z)) ?_))))
  obtain ⟨x3t, e21, hm22⟩ := bdS (ifT hm1q hc1e)
  refine RX z (at_ (α := Int) d_72 z_3 z z z h15 e21) ?_
  rintro _ ⟨b3u, o3v, cs3w, rfl, h23, h24, h3x⟩
  obtain ⟨rfl, h25⟩ := Int_open h24
  refine R z (l1 g_3 z fid (h23.at0 z)) (Ra z (Wn ?_))
  obtain rfl := som hm22
  exact Wr (rtO (ret1 hr z ⟨h11, z, h25⟩))
 refine Ws (R z (eql z z) (Ra z (Wn ?_)))
 obtain ⟨u26, hu1r, hm19⟩ := bdS (ifF hm1q hc1e)
 refine WC_cut (fun a w => Sum.inl () = u26 ∧ Sat 80 [] a ∧ Below w10.heap.size w10 w) ?_ ?_
 ·refine Wc z (fun hc1f => ?_) (fun hc1f => ?_)
  ·have hm1s := ifT hu1r hc1f
   refine Ws (Rm z (Rm z (R z (rd_nil z) (R z (fd f_74_7 z) (R z (l1 g_72 z fid (h12.at (j := 7) z)) (R z (lnR d_72 z h15) (R z (lss z z) (Wn (Wc z (fun hc1g => ?_) (fun hc1g => ?_))))))))))
   ·refine Ws (Rm z (R z (rd_nil z) (R z (fd f_74_7 z) (R z (l1 g_72 z fid (h12.at (j := 7) z)) (Rm z ?_)))))
    obtain ⟨x3y, e27, hm28⟩ := bdS (ifT hm1s hc1g)
    refine RX z (at_ (α := Int) d_72 z_3 z z z h15 e27) ?_
    rintro _ ⟨b3z, o40, cs41, rfl, h29, h2a, h42⟩
    obtain ⟨rfl, h2b⟩ := Int_open h2a
    refine R z (l1 g_3 z fid (h29.at0 z)) (Ra z (Wn ?_))
    obtain rfl := som hm28
    have hm2c := elR hm19
    obtain rfl := som hm2c
    exact Wr (rtO (ret1 hr z ⟨h11, z, h2b⟩))
   exact WC_skip (fun _ q => ⟨som (ifF hm1s hc1g), (q.k sn), (br w10)⟩)
  refine Ws (R z (eql z z) (Ra z (Wn ?_)))
  obtain ⟨u2d, hu1t, hm1h⟩ := bdS (ifF hu1r hc1f)
  refine WC_cut (fun a w => Sum.inl () = u2d ∧ Sat 80 [] a ∧ Below w10.heap.size w10 w) ?_ ?_
  ·refine Wc z (fun hc1i => ?_) (fun hc1i => ?_)
   ·refine Ws (Rm z (R z (rd_nil z) (R z (fd f_74_6 z) (R z (l1 g_72 z fid (h12.at (j := 6) z)) (R z (lnR d_72 z h18) (Rm z (Wn ?_)))))))
    obtain ⟨u43, hu2e, hm1u⟩ := bdS (ifT hu1t hc1i)
    refine WC_forN (σ := Unit) (ρ := Int) (fun (k1j : Nat) (_ : Unit) a w => Sat 80 [(2, (.pointer (some ⟨b3, o3, none⟩))), (9, (.pointer (some ⟨b16, o17, none⟩))), (49, (.slice a1b n1c c1d)), (50, (vI (x13.tags.length : Int))), (51, (vI ((k1j : Nat) : Int)))] a ∧ Below w10.heap.size w10 w) (fun (_ : Unit) a w => Sat 80 [] a ∧ Below w10.heap.size w10 w) (fun r ex a w => ex = .ret ∧ RetPost prog fn (Q_impl_childRule w0 B r) a w) hu2e ?_ ?_ ?_ ?_ ?_
    ·exact fun _ q => ⟨(q.k (s5 z z z z z)), (br w10)⟩
    ·rintro k1j _ a44 w45 o46 hk1k ⟨hS2f, s14⟩ hm2g
     refine Wu (e := [(2, (.pointer (some ⟨b3, o3, none⟩))), (9, (.pointer (some ⟨b16, o17, none⟩))), (49, (.slice a1b n1c c1d)), (50, (vI (x13.tags.length : Int))), (51, (vI ((k1j : Nat) : Int)))]) (N := 80) ?_ hS2f
     refine Ws (R z (lss z z) (Wn (Wq (Wc z (fun _ => ?_) (fun hc => (nolt hk1k hc).elim)))))
     refine Wk (Wq (WC_block (Ws (Rm z ?_))))
     obtain ⟨x47, e2h, hm1v⟩ := bdS hm2g
     refine RX z (at_ (α := Int) d_72 z_3 z z z (h18.ext s14) e2h) ?_
     rintro _ ⟨b48, o49, cs4a, rfl, h2i, h2j, h4b⟩
     obtain ⟨rfl, h4c⟩ := Int_open h2j
     refine R z (l1 g_3 z fid (h2i.at0 z)) (Ra z (Ra z (Wn (Ws (Rm z (Rm z (R z (rd_nil z) (R z (fd f_41_0 z) (R z (l1 g_3 z fid (((hC3.ext h11).ext s14).at (j := 0) z)) (R z (eql z z) (Wn (Wc z (fun hc1l => ?_) (fun hc1l => ?_)))))))))))))
     ·refine Ws (Rm z (R z (rd_nil z) (R z (fd f_74_7 z) (R z (l1 g_72 z fid ((h12.ext s14).at (j := 7) z)) (Rm z (R z (inc_ hk1k (lt_ (repS.len h18) LEN_le) z z) ?_))))))
      obtain ⟨x4d, e2k, hm2l⟩ := bdS (ifT hm1v hc1l)
      refine RX z (at_ (α := Int) d_72 z_3 z z z (h15.ext s14) e2k) ?_
      rintro _ ⟨b4e, o4f, cs4g, rfl, h2m, h2n, h4h⟩
      obtain ⟨rfl, h2o⟩ := Int_open h2n
      exact R z (l1 g_3 z fid (h2m.at0 z)) (Ra z (Wn (Wr (rtO (QO_retL (som hm2l).symm (ret1 hr z ⟨(bup h11 s14), z, h2o⟩))))))
     exact Wk (Wg (R z (inc_ hk1k (lt_ (repS.len h18) LEN_le) z z) (Rm z (Wl (fun _ q => ⟨(), (som (ifF hm1v hc1l)).symm, ⟨(q.k (s5 z z z z z)), s14⟩⟩)))))
    ·rintro _ a4i w4j ⟨hS2p, s2q⟩
     refine Wu (e := [(2, (.pointer (some ⟨b3, o3, none⟩))), (9, (.pointer (some ⟨b16, o17, none⟩))), (49, (.slice a1b n1c c1d)), (50, (vI (x13.tags.length : Int))), (51, (vI ((x13.tags.length : Nat) : Int)))]) (N := 80) ?_ hS2p
     refine Ws (R z (lss z z) (Wn (Wq (Wc z (fun hc => (noltt hc).elim) (fun _ => ?_)))))
     exact WC_exit (fun a' ha' => ⟨rfl, ⟨(Sat.weaken ha' sn), s2q⟩⟩)
    ·rintro _ a2r w4k rfl ⟨hS4l, s2s⟩
     have hm2t := elL hm1u
     revert a2r
     exact fun _ q => ⟨som hm2t, (q.k sn), s2s⟩
    rintro r4m ex4n a4o w4p rfl ⟨rfl, hq2u⟩
    have hm2v := elR hm1u
    obtain rfl := som hm2v
    have hm2w := elR hm1h
    obtain rfl := som hm2w
    have hm2x := elR hm19
    obtain rfl := som hm2x
    exact ⟨hq2u, z⟩
   refine Wq (Ws (R z (eql z z) (Ra z (Wn ?_))))
   obtain ⟨u2y, hu1w, hm1x⟩ := bdS (ifF hu1t hc1i)
   refine WC_cut (fun a w => ∃ (x1m : Bool), x1m = u2y ∧ Sat 80 [(9, (.pointer (some ⟨b16, o17, none⟩))), (71, (vB x1m))] a ∧ Below w10.heap.size w10 w) ?_ ?_
   ·refine Wc z (fun hc1n => ?_) (fun hc1n => ?_)
    ·exact WC_skip (fun _ q => ⟨x13.kind == 8, som (ifT hu1w hc1n), (q.k (s2 z z)), (br w10)⟩)
    exact Wg (R z (eql z z) (Ra z (Wl (fun _ q => ⟨x13.kind == 9, som (ifF hu1w hc1n), (q.k (s2 z z)), (br w10)⟩))))
   rintro a2z w4q ⟨x1m, rfl, hS4r, s1a⟩
   revert a2z
   refine Wo (Wc z (fun hc1o => ?_) (fun hc1o => ?_))
   ·refine Ws (Rm z (R z (rd_nil z) (R z (fd f_74_7 z) (R z (l1 g_72 z fid ((h12.ext s1a).at (j := 7) z)) ?_))))
    obtain ⟨x4s, e30, hm31⟩ := bdS (ifT hm1x hc1o)
    refine RX z (at_ (α := Int) d_72 z_3 z z z (h15.ext s1a) e30) ?_
    rintro _ ⟨b4t, o4u, cs4v, rfl, h32, h33, h4w⟩
    obtain ⟨rfl, h34⟩ := Int_open h33
    refine R z (l1 g_3 z fid (h32.at0 z)) (Ra z (Wn ?_))
    obtain rfl := som hm31
    have hm35 := elR hm1h
    obtain rfl := som hm35
    have hm36 := elR hm19
    obtain rfl := som hm36
    exact Wr (rtO (ret1 hr z ⟨(bup h11 s1a), z, h34⟩))
   exact WC_skip (fun _ q => ⟨som (ifF hm1x hc1o), (q.k sn), s1a⟩)
  rintro a37 w4x ⟨rfl, hS4y, s38⟩
  have hm39 := elL hm1h
  revert a37
  exact fun _ q => ⟨som hm39, (q.k sn), s38⟩
 rintro a3a w4z ⟨rfl, hS50, s3b⟩
 have hm3c := elL hm19
 revert a3a
 refine Wo (Ws (Ra z (Wn ?_)))
 obtain rfl := som hm3c
 exact Wr (ret1 hr z ⟨(bup h11 s3b), z, (ii z)⟩)
def Q_impl_indexer_part (w0 : World) (g1 : Nat) (B : Nat) (pa1_0 : Option Addr) (pn1_0 pc1_0 : Nat) (pa1_1 : Option Addr) (pn1_1 pc1_1 : Nat) (pa1_2 : Option Addr) (pn1_2 pc1_2 : Nat) (S1_2 : List Nat) (x1 : Indexer) (r : Int × (List Entry)) (v : Value) (w' : World) : Prop := Chg (· ∈ ([g1] ++ S1_2)) w0 w' ∧ un2 (fun r1 r2 => ∃ (a1 : Option Addr) (n1 c1 : Nat) (S1 : List Nat), (vI r1) = v ∧ inI r1 ∧ ownS w' S1 (.slice a1 n1 c1) r2 ∧ S1.Nodup ∧ (∀ k ∈ S1, k ∈ S1_2 ∨ w0.heap.size ≤ k) ∧ Blk w' g1 [(.slice pa1_0 pn1_0 pc1_0), (.slice pa1_1 pn1_1 pc1_1), .slice a1 n1 c1]) r
structure S_impl_indexer_part (f : Indexer → Str → Int → Val → Int → Option (Int × (List Entry))) : Prop where
  run : ∀ {B pn1_0 pc1_0 pn1_1 pc1_1 pn1_2 pc1_2 g1 pn4_1 pc4_1 pn4_2 pc4_2 b4 o4 : Nat} {pa1_0 pa1_1 pa1_2 pa4_1 pa4_2 : Option Addr} {S1_2 : List Nat} {x1 : Indexer} {x2 : Str} {x3 : Int} {x4 : Val} {x5 : Int} {res : Int × (List Entry)} {w0 : World} (hm : f x1 x2 x3 x4 x5 = some res) (hB1 : Blk w0 g1 [(.slice pa1_0 pn1_0 pc1_0), (.slice pa1_1 pn1_1 pc1_1), (.slice pa1_2 pn1_2 pc1_2)]) (hBw : B ≤ g1) (hG : Gl w0 B) (p1_0 : repS w0 B (.slice pa1_0 pn1_0 pc1_0) x1.d.rules) (p1_1 : repS w0 B (.slice pa1_1 pn1_1 pc1_1) x1.b) (p1_2 : ownS w0 S1_2 (.slice pa1_2 pn1_2 pc1_2) x1.list_) (p1_2n : S1_2.Nodup) (p1_2g : ∀ k ∈ S1_2, B ≤ k) (p1_2d : ∀ k ∈ S1_2, k ∉ [g1]) (p2_0 : x2.b.length ≤ LEN) (p3_0 : inI x3) (p4_0 : inI x4.number) (p4_1 : repS w0 B (.slice pa4_1 pn4_1 pc4_1) x4.bytes) (p4_2 : repS w0 B (.slice pa4_2 pn4_2 pc4_2) x4.items) (hC4 : CellsAt w0 b4 o4 [(vI x4.number), (.slice pa4_1 pn4_1 pc4_1), (.slice pa4_2 pn4_2 pc4_2)]) (hC4b : b4 < B) (p5_0 : inI x5), CallsR prog 75 [(.pointer (some ⟨g1, 0, none⟩)), (Str.v x2), (vI x3), (.pointer (some ⟨b4, o4, none⟩)), (vI x5)] w0 (Q_impl_indexer_part w0 g1 B pa1_0 pn1_0 pc1_0 pa1_1 pn1_1 pc1_1 pa1_2 pn1_2 pc1_2 S1_2 x1 res)
abbrev I_impl_indexer_part (n : Nat) : Prop := S_impl_indexer_part (F_impl_indexer_part n).impl_indexer_part
theorem T_impl_indexer_part (ih0 : I_impl_indexer_part n) : S_impl_indexer_part (B_impl_indexer_part n (F_impl_indexer_part n)) := by
 constructor
 intro B pn1_0 pc1_0 pn1_1 pc1_1 pn1_2 pc1_2 g1 pn4_1 pc4_1 pn4_2 pc4_2 b4 o4 pa1_0 pa1_1 pa1_2 pa4_1 pa4_2 S1_2 x1 x2 x3 x4 x5 res w0 hm hB1 hBw hG p1_0 p1_1 p1_2 p1_2n p1_2g p1_2d p2_0 p3_0 p4_0 p4_1 p4_2 hC4 hC4b p5_0
 unfold B_impl_indexer_part at hm
 obtain ⟨fn, hf, hb, hN, hr⟩ := fnE func75
 refine goW hf (hb.trans z) (hN.trans z) (lb z) (Ws (Ra z (Wn (Ws (Rm z (R z (rd_nil z) (R z (fd f_108_2 z) (R z (l1 g_69 z fid (hB1.at z)) (R z (lnR d_69 z (ownS.rep p1_2)) (Ra z (Wn (Ws (Rm z (Rm z (R z (rd_nil z) (R z (fd f_108_2 z) (R z (l1 g_69 z fid (hB1.at z)) (Rm z (Rm z (Rm z (R z (bP (parts := [(0, (.tmp 27)), (1, (.tmp 28)), (2, (.tmp 29))]) (cs := [(Str.v x2), (vI x3), (vI x5), (vI 0)]) build_54 z z) (E z (ef_buildSlice [(.tmp 30)] el_69 z z z (szAll z) (lb z) (lb z)) ?_))))))))))))))))))))))
 rintro _ w2h ⟨rfl, h24⟩
 have h13 := h24.below
 have h3p : Blk w2h w0.heap.size [(Str.v x2), (vI x3), (vI x5), (vI 0)] := h24.blk
 have h77 := ownS_new1 h24 (Entry_mkO (x := (⟨x2, x3, x5, 0⟩ : Entry))  p2_0 p3_0 p5_0 (ii z))
 obtain ⟨x78, e3q, hm3r⟩ := bdS hm
 refine E z (ef_pushN (α := Entry) el_69 e3q z z (p1_2.ext h13) p1_2n h3p (Entry_mkO (x := (⟨x2, x3, x5, 0⟩ : Entry))  p2_0 p3_0 p5_0 (ii z)) all_nil nd_nil) ?_
 rintro _ w3s ⟨S10, a2i, n2j, c2k, rfl, s1j, h2l, h3t, h1p⟩
 refine R z (rd_nil z) (R z (fd f_108_2 z) (E0 (fs (cur' := [(.slice pa1_0 pn1_0 pc1_0), (.slice pa1_1 pn1_1 pc1_1), (.slice a2i n2j c2k)]) z_69 z z ((hB1.ext h13).chg s1j (djs p1_2d)) z (lb z) (oA z) z) ?_))
 rintro _ w3u ⟨h3v, s3w⟩
 have h1d := s3w.one
 refine Wn (Wq (WC_draw (X := noX) 0 (.rd 0 (.rd 1 (.rd 2 (.rd 3 (.rd 4 (.rd 5 (.rd 6 (.rd 7 (.rd 8 (.rd 9 (.ef 10 (.rd 11 (.rd 12 (.rd 13 (.rd 14 (.rd 15 .done)))))))))))))))) mo (by kernel_rfl) fun w3x s19 _ => dR z z (mv z) (dR z z (rd_nil z) (dR z z (fd f_108_0 z) ?_))))
 have h25 := h3v.ext s19
 refine dR z z (lN (vs := [(.slice pa1_0 pn1_0 pc1_0)]) g_31 z_31 z z fid (h25.row 0 1 z)) (dR z z (mv z) (dR z z (mv z) (dR z z (rd_nil z) (dR z z (fd f_108_1 z) (dR z z (l1 g_25 z fid (h25.at z)) (dR z z (mv z) ?_))))))
 have h2m := (((p1_0.ext h13).chg s1j (lg p1_2g)).chg h1d (lg (mem1 hBw))).ext s19
 have h2n := (((p1_1.ext h13).chg s1j (lg p1_2g)).chg h1d (lg (mem1 hBw))).ext s19
 have h26 := lt_ (lt_ (lt_ h13.size s1j.size) h1d.size) s19.size
 obtain ⟨r1m, r79, e3y, hm3z⟩ := bd2S hm3r
 refine dE z z (fc call100 z (W_impl_CheckValue (B := B) e3y (lt_ (lt_ hBw (Nat.le_of_lt (Blk.lt hB1))) h26) h2m p3_0 h2n p5_0)) (.inr fun _ _ h => chgB (h.1)) ?_
 rintro _ w1z ⟨s18, rfl, h2o, h7a⟩
 refine dR z z (mv z) (dR z z (ext_ z z) (dR z z (ext_ z z) (dR z z (asg z) (dR z z (asg z) (PR_done (Wo (Ws (Rm z (Ra z (Wn (Wq (Ws (Rm z (R z (rd_nil z) (R z (fd f_108_0 z) (R z (fd f_31_0 z) ?_))))))))))))))))
 have h27 := h25.ext s18
 refine R z (l1 g_29 z fid (h27.at z)) (Rm z ?_)
 obtain ⟨x1a, e40, hm41⟩ := bdS hm3z
 have h28 := h2m.ext s18
 refine RX z (at_ (α := Rule) d_29 z_74 z z z h28 e40) ?_
 rintro _ ⟨b7b, o7c, cs7d, rfl, h42, h43, h7e⟩
 obtain ⟨a2p, n2q, c2r, a2s, n2t, c2u, a2v, n2w, c2x, a2y, n2z, c30, rfl, h7f, h7g, h7h, h7i, h7j, h7k, h44⟩ := Rule_open h43
 refine R z (lN (vs := [(Str.v x1a.name), (vI x1a.kind), (vI x1a.size), (vB x1a.little), (.slice a2p n2q c2r), (.slice a2s n2t c2u), (.slice a2v n2w c2x), (.slice a2y n2z c30)]) g_74 z_74 z z fid h42) (E z (fa zero_74) ?_)
 rintro _ w31 ⟨rfl, h32⟩
 have h15 := h32.below
 have h45 : Blk w31 w1z.heap.size [(Str.v (⟨[]⟩ : Str)), (vI 0), (vI 0), (vB false), (.slice none 0 0), (.slice none 0 0), (.slice none 0 0), (.slice none 0 0)] := h32.blk
 refine E0 (fs (cur' := [(Str.v x1a.name), (vI x1a.kind), (vI x1a.size), (vB x1a.little), (.slice a2p n2q c2r), (.slice a2s n2t c2u), (.slice a2v n2w c2x), (.slice a2y n2z c30)]) z_74 z z h45 z (lb z) (oA z) z) ?_
 rintro _ w1u ⟨h33, s46⟩
 have h16 := s46.one
 refine Wn (Ws (R z (fd f_74_1 z) (R z (l1 g_3 z fid (h33.at z)) (Wn (WC_block (Wq (Ws (R z (eql z z) (Ra z (Wn ?_))))))))))
 obtain ⟨u47, hu34, hm48⟩ := bdS hm41
 refine WC_cut (fun a w => ∃ (x29 : Bool), x29 = u47 ∧ Sat 126 [(0, (.pointer (some ⟨g1, 0, none⟩))), (1, (Str.v x2)), (2, (vI x3)), (3, (.pointer (some ⟨b4, o4, none⟩))), (11, (vI (x1.list_.length : Int))), (12, (vI r1m)), (14, (vI x5)), (15, (.pointer (some ⟨w1z.heap.size, 0, none⟩))), (59, (vI x1a.kind)), (60, (vB x29))] a ∧ Below w1u.heap.size w1u w) ?_ ?_
 ·refine Wc z (fun hc2a => ?_) (fun hc2a => ?_)
  ·exact WC_skip (fun _ q => ⟨x1a.kind == 5, som (ifT hu34 hc2a), (q.k (sc z (sc z (sc z (sc z (sc z (sc z (sc z (sc z (sc z (sc z sn))))))))))), (br w1u)⟩)
  exact Wg (R z (eql z z) (Ra z (Wl (fun _ q => ⟨x1a.kind == 7, som (ifF hu34 hc2a), (q.k (sc z (sc z (sc z (sc z (sc z (sc z (sc z (sc z (sc z (sc z sn))))))))))), (br w1u)⟩))))
 rintro a49 w1n ⟨x29, rfl, hS7l, s14⟩
 revert a49
 refine Wo ?_
 obtain ⟨u4a, hu35, hm4b⟩ := bdS hm48
 refine WC_cut (fun a w => ∃ (x20 : Int), x20 = u4a ∧ Sat 126 [(0, (.pointer (some ⟨g1, 0, none⟩))), (1, (Str.v x2)), (2, (vI x3)), (3, (.pointer (some ⟨b4, o4, none⟩))), (11, (vI (x1.list_.length : Int))), (12, (vI r1m)), (14, (vI x20))] a ∧ Below w1n.heap.size w1n w ∧ inI x20) ?_ ?_
 ·refine Wc z (fun hc2b => ?_) (fun hc2b => ?_)
  ·refine WC_draw (X := noX) 0 (.rd 0 (.rd 1 (.rd 2 (.rd 3 (.rd 4 (.rd 5 (.rd 6 (.rd 7 (.rd 8 (.rd 9 (.rd 10 (.rd 11 (.rd 12 (.rd 13 (.rd 14 .done))))))))))))))) mo (by kernel_rfl) fun w7m s1v _ => dR z z (mv z) (dR z z (mv z) (dR z z (rd_nil z) (dR z z (fd f_108_0 z) (dR z z (fd f_31_0 z) ?_))))
   have h36 := lt_ h26 s18.size
   refine dR z z (l1 g_29 z fid (((((h27.ext h15).chg h16 (djs (mm1 (Blk.lt hB1) h36))).ext s14).ext s1v).at z)) (dR z z (fd f_74_7 z) (dR z z (l1 g_72 z fid (((h33.ext s14).ext s1v).at z)) ?_))
   obtain ⟨x7n, e4c, hm4d⟩ := bdS (ifT hu35 hc2b)
   have h37 := mem1le (lt_ (lt_ hBw (Nat.le_of_lt (Blk.lt hB1))) h36)
   refine dRX z z (at_ (α := Int) d_72 z_3 z z z ((((h44.ext h15).chg h16 (lg h37)).ext s14).ext s1v) e4c) ?_
   rintro _ ⟨b7o, o7p, cs7q, rfl, h4e, h4f, h7r⟩
   obtain ⟨rfl, h7s⟩ := Int_open h4f
   refine dR z z (l1 g_3 z fid (h4e.at0 z)) ?_
   obtain ⟨x4g, e4h, hm4i⟩ := bdS hm4d
   refine dRX z z (at_ (α := Rule) d_29 z_74 z z z ((((h28.ext h15).chg h16 (lg h37)).ext s14).ext s1v) e4h) ?_
   rintro _ ⟨b7t, o7u, cs7v, rfl, h4j, h4k, h7w⟩
   obtain ⟨a7x, n7y, c7z, a80, n81, c82, a83, n84, c85, a86, n87, c88, rfl, h89, h8a, h8b, h8c, h8d, h8e, h8f⟩ := Rule_open h4k
   exact dR z z (fd f_74_2 z) (dR z z (l1 g_3 z fid (h4j.at (j := 2) z)) (dR z z (add_ z z) (dR z z (asg z) (PR_done (fun _ q => ⟨iadd x5 x4g.size, som hm4i, (q.k (s7 z z z z z z z)), s1v, (iA _ _)⟩)))))
  refine Ws (R z (eql z z) (Ra z (Wn ?_)))
  obtain ⟨u4l, hu38, hm4m⟩ := bdS (ifF hu35 hc2b)
  refine WC_cut (fun a w => ∃ (x1w : Int), x1w = u4l ∧ Sat 126 [(0, (.pointer (some ⟨g1, 0, none⟩))), (1, (Str.v x2)), (2, (vI x3)), (3, (.pointer (some ⟨b4, o4, none⟩))), (11, (vI (x1.list_.length : Int))), (12, (vI r1m)), (14, (vI x1w))] a ∧ Below w1n.heap.size w1n w ∧ inI x1w) ?_ ?_
  ·refine Wc z (fun hc2c => ?_) (fun hc2c => ?_)
   ·exact Wg (Rm z (R z (add_ z z) (Ra z (Wl (fun _ q => ⟨iadd x5 1, som (ifT hu38 hc2c), (q.k (s7 z z z z z z z)), (br w1n), (iA _ _)⟩)))))
   exact WC_skip (fun _ q => ⟨x5, som (ifF hu38 hc2c), (q.k (s7 z z z z z z z)), (br w1n), p5_0⟩)
  rintro a4n w8g ⟨x1w, rfl, hS8h, s4o, h4p⟩
  revert a4n
  exact fun _ q => ⟨x1w, som hm4m, (q.k (s7 z z z z z z z)), s4o, h4p⟩
 rintro a4q w11 ⟨x20, rfl, hS8i, s1b, h4r⟩
 revert a4q
 refine Wo (Wq (Ws (Rm z (R z (rd_nil z) (R z (fd f_41_2 z) ?_)))))
 have h1x := lt_ h26 s18.size
 have h1q := mem1le (lt_ (lt_ hBw (Nat.le_of_lt (Blk.lt hB1))) h1x)
 have h39 := ((((((((hC4.ext h13).chg s1j ((lg p1_2g) _ hC4b)).chg h1d ((lg (mem1 hBw)) _ hC4b)).ext s19).ext s18).ext h15).chg h16 ((lg h1q) _ hC4b)).ext s14).ext s1b
 refine R z (l1 g_39 z fid (h39.at (j := 2) z)) ?_
 have h3a := ((((((((p4_2.ext h13).chg s1j (lg p1_2g)).chg h1d (lg (mem1 hBw))).ext s19).ext s18).ext h15).chg h16 (lg h1q)).ext s14).ext s1b
 refine R z (lnR d_39 z h3a) (Rm z (Wn ?_))
 obtain ⟨u8j, hu4s, hm3b⟩ := bdS hm4b
 refine WC_forN (σ := Int × (List Entry)) (ρ := Int × (List Entry)) (fun (k2d : Nat) s a w => un2 (fun x1k x1r => ∃ (a1e : Option Addr) (n1f c1g : Nat) (S12 : List Nat), Sat 126 [(0, (.pointer (some ⟨g1, 0, none⟩))), (1, (Str.v x2)), (2, (vI x3)), (3, (.pointer (some ⟨b4, o4, none⟩))), (11, (vI (x1.list_.length : Int))), (12, (vI r1m)), (14, (vI x1k)), (85, (vI (x4.items.length : Int))), (86, (vI ((k2d : Nat) : Int)))] a ∧ Chg (· ∈ ([g1] ++ S10)) w11 w ∧ inI x1k ∧ ownS w S12 (.slice a1e n1f c1g) x1r ∧ S12.Nodup ∧ (∀ k ∈ S12, k ∈ S10 ∨ w11.heap.size ≤ k) ∧ Blk w g1 [(.slice pa1_0 pn1_0 pc1_0), (.slice pa1_1 pn1_1 pc1_1), (.slice a1e n1f c1g)]) s) (fun s a w => un2 (fun x1k x1r => ∃ (a1e : Option Addr) (n1f c1g : Nat) (S12 : List Nat), Sat 126 [(0, (.pointer (some ⟨g1, 0, none⟩))), (11, (vI (x1.list_.length : Int))), (12, (vI r1m))] a ∧ Chg (· ∈ ([g1] ++ S10)) w11 w ∧ inI x1k ∧ ownS w S12 (.slice a1e n1f c1g) x1r ∧ S12.Nodup ∧ (∀ k ∈ S12, k ∈ S10 ∨ w11.heap.size ≤ k) ∧ Blk w g1 [(.slice pa1_0 pn1_0 pc1_0), (.slice pa1_1 pn1_1 pc1_1), (.slice a1e n1f c1g)]) s) (fun r ex a w => ex = .ret ∧ RetPost prog fn (Q_impl_indexer_part w0 g1 B pa1_0 pn1_0 pc1_0 pa1_1 pn1_1 pc1_1 pa1_2 pn1_2 pc1_2 S1_2 x1 r) a w) hu4s ?_ ?_ ?_ ?_ ?_
 ·have h4t : ∀ k ∈ S10, k ∉ [g1] := or2 h1p p1_2d all_nil (ltnot (mem1 (Blk.lt hB1)) h13.size)
  exact fun _ q => ⟨a2i, n2j, c2k, S10, (q.k (s9 z z z z z z z z z)), (cr ([g1] ++ S10) w11), h4r, (((((((h2l.chg h1d h4t).ext s19).ext s18).ext h15).chg h16 (dj_symm (mno (ownS.lt h2l) (lt_ (lt_ h1d.size s19.size) s18.size)))).ext s14).ext s1b), h3t, (io sr), ((((h27.ext h15).chg h16 (djs (mm1 (Blk.lt hB1) h1x))).ext s14).ext s1b)⟩
 ·rintro k2d ⟨x1k, x1r⟩ a8k w4u o8l hk21 ⟨a1e, n1f, c1g, S12, hS4v, s1l, h22, h1s, h1y, h1h, h1t⟩ hm4w
  have hm4x := un2S hm4w
  refine Wu (e := [(0, (.pointer (some ⟨g1, 0, none⟩))), (1, (Str.v x2)), (2, (vI x3)), (3, (.pointer (some ⟨b4, o4, none⟩))), (11, (vI (x1.list_.length : Int))), (12, (vI r1m)), (14, (vI x1k)), (85, (vI (x4.items.length : Int))), (86, (vI ((k2d : Nat) : Int)))]) (N := 126) ?_ hS4v
  refine Ws (R z (lss z z) (Wn (Wq (Wc z (fun _ => ?_) (fun hc => (nolt hk21 hc).elim)))))
  refine Wk (Wq (WC_block (Ws (Rm z (Ra z (Wn (WC_draw (X := noX) 67108864 (.rd 0 (.rd 1 (.rd 2 (.rd 3 (.rd 4 (.rd 5 (.rd 6 (.rd 7 (.rd 8 (.rd 11 (.rd 12 (.rd 13 (.rd 14 (.rd 15 (.rd 16 (.rd 17 (.rd 19 (.rd 20 (.rd 21 (.rd 22 (.rd 23 (.rd 24 (.rd 25 (.ef 9 (.rd 10 (.ef 18 (.ef 26 (.rd 27 .done)))))))))))))))))))))))))))) mo (by kernel_rfl) fun w4y s1c _ => dR z z (mv z) (dR z z (mv z) ?_))))))))
  obtain ⟨x8m, e4z, hm50⟩ := bdS hm4x
  refine dR z z (rd_catC z z e4z) (dR z z (mv z) (dR z z (rd_nil z) (dR z z (fd f_108_0 z) ?_)))
  have h2e := h1t.ext s1c
  refine dR z z (lN (vs := [(.slice pa1_0 pn1_0 pc1_0)]) g_31 z_31 z z fid (h2e.row 0 1 z)) ?_
  iterate 3 refine dR z z (mv z) ?_
  refine dR z z (rd_nil z) (dR z z (fd f_108_0 z) (dR z z (lN (vs := [(.slice pa1_0 pn1_0 pc1_0)]) g_31 z_31 z z fid (h2e.row 0 1 z)) ?_))
  iterate 4 refine dR z z (mv z) ?_
  refine dR z z (rd_nil z) (dR z z (fd f_41_2 z) ?_)
  have h1o : ∀ k ∈ S10, B ≤ k := or2 h1p p1_2g all_nil (lele (lt_ (lt_ hBw (Nat.le_of_lt (Blk.lt hB1))) h13.size))
  have h3c := (h39.chg s1l ((nmA (lg (mem1 hBw)) (lg h1o)) _ hC4b)).ext s1c
  refine dR z z (l1 g_39 z fid (h3c.at (j := 2) z)) (dR z z (mv z) ?_)
  obtain ⟨x8n, e51, hm52⟩ := bdS hm50
  have h3d := (h3a.chg s1l (nmA (lg (mem1 hBw)) (lg h1o))).ext s1c
  refine dRX z z (at_ (α := Val) d_39 z_41 z z z h3d e51) ?_
  rintro _ ⟨b8o, o8p, cs8q, rfl, h53, h54, h55⟩
  obtain ⟨a8r, n8s, c8t, a8u, n8v, c8w, rfl, h56, h57, h58⟩ := Val_open h54
  refine dR z z (mv z) ?_
  have h3e := (((((h28.ext h15).chg h16 (lg h1q)).ext s14).ext s1b).chg s1l (nmA (lg (mem1 hBw)) (lg h1o))).ext s1c
  have h3f := ((((((((((hG.ext h13).chg s1j (lg p1_2g)).chg h1d (lg (mem1 hBw))).ext s19).ext s18).ext h15).chg h16 (lg h1q)).ext s14).ext s1b).chg s1l (nmA (lg (mem1 hBw)) (lg h1o))).ext s1c
  have h2f := lt_ (lt_ (lt_ (lt_ h1x h15.size) h16.size) s14.size) s1b.size
  have h3g := lt_ (lt_ h2f s1l.size) s1c.size
  obtain ⟨r8x, e59, hm5a⟩ := bdS hm52
  refine dE z z (fc call104 z (W_impl_StepOf (B := B) e59 (lt_ (lt_ hBw (Nat.le_of_lt (Blk.lt hB1))) h3g) h3f h3e p3_0 (inI_cnt (Nat.le_of_lt hk21) (lt_ (repS.len p4_2) LEN_le)))) (.inr fun _ _ h => chgB (h.1)) ?_
  rintro _ w5b ⟨s17, rfl, h8y⟩
  obtain ⟨x8z, e3h, hm5c⟩ := bdS hm5a
  refine dR z z (rd_catC z z e3h) ?_
  have h3i := h3e.ext s17
  have h5d := (((((((((((p4_1.ext h13).chg s1j (lg p1_2g)).chg h1d (lg (mem1 hBw))).ext s19).ext s18).ext h15).chg h16 (lg h1q)).ext s14).ext s1b).chg s1l (nmA (lg (mem1 hBw)) (lg h1o))).ext s1c).ext s17
  obtain ⟨r90, e5e, hm5f⟩ := bdS hm5c
  refine dE z z (fc call105 z (W_impl_childRule (B := B) e5e (lt_ (lt_ hBw (Nat.le_of_lt (Blk.lt hB1))) (lt_ h3g s17.size)) h3i p3_0 p4_0 h5d (h3d.ext s17) (h3c.ext s17) hC4b (inI_cnt (Nat.le_of_lt hk21) (lt_ (repS.len p4_2) LEN_le)))) (.inr fun _ _ h => chgB (h.1)) ?_
  rintro _ w5g ⟨s1i, rfl, h5h⟩
  have h5i : ∀ k ∈ S10, k ∉ [g1] := or2 h1p p1_2d all_nil (ltnot (mem1 (Blk.lt hB1)) h13.size)
  have h5j : ∀ k ∈ S12, k ∉ [g1] := or1 h1h h5i (ltnot (mem1 (Blk.lt hB1)) h2f)
  obtain ⟨r5k, r5l, e5m, hm5n⟩ := bd2S hm5f
  refine dE z z (fc call75 z (ih0.run (B := B) e5m ((h2e.ext s17).ext s1i) hBw ((h3f.ext s17).ext s1i) (h3i.ext s1i) (((((((((h2n.ext s18).ext h15).chg h16 (lg h1q)).ext s14).ext s1b).chg s1l (nmA (lg (mem1 hBw)) (lg h1o))).ext s1c).ext s17).ext s1i) (((h1s.ext s1c).ext s17).ext s1i) h1y (o1le h1h h1o (lt_ (lt_ hBw (Nat.le_of_lt (Blk.lt hB1))) h2f)) h5j (cat_len e3h) h5h h56 ((h57.ext s17).ext s1i) ((h58.ext s17).ext s1i) ((h53.ext s17).ext s1i) h55 h22)) (.inl z) ?_
  rintro _ w5o ⟨s5p, a5q, n5r, c5s, S3j, rfl, h5t, h5u, h5v, h5w, h5x⟩
  refine dR z z (asg z) (PR_done (Wo (Wg (R z (inc_ hk21 (lt_ (repS.len p4_2) LEN_le) z z) (Rm z (Wl ?_))))))
  have h5y : ∀ k ∈ S12, k ∈ S10 ∨ w11.heap.size ≤ k := or1 h1h (io sr) (leor lr)
  have h5z : ∀ k ∈ S3j, k ∈ S10 ∨ w11.heap.size ≤ k := or1 h5w h5y (leor (lt_ (lt_ (lt_ s1l.size s1c.size) s17.size) s1i.size))
  have h60 : Chg (· ∈ ([g1] ++ S10)) w11 w4u := cM (cr ([g1] ++ S10) w11) s1l (all_app (io (sub_l sr)) (io (sub_r sr)))
  have h61 : Chg (· ∈ ([g1] ++ S10)) w11 w4y := cext h60 s1c
  have h62 : Chg (· ∈ ([g1] ++ S10)) w11 w5b := cext h61 s17
  have h63 : Chg (· ∈ ([g1] ++ S10)) w11 w5g := cext h62 s1i
  have h64 : ∀ k ∈ S12, k ∈ ([g1] ++ S10) ∨ w11.heap.size ≤ k := or1 h1h (io (sub_r sr)) (leor lr)
  have h65 : Chg (· ∈ ([g1] ++ S10)) w11 w5o := cM h63 s5p (all_app (io (sub_l sr)) h64)
  exact fun _ q => ⟨(r5k, r5l), (som hm5n).symm, ⟨a5q, n5r, c5s, S3j, (q.k (s9 z z z z z z z z z)), h65, h5t, h5u, h5v, h5z, h5x⟩⟩
 ·rintro ⟨x1k, x1r⟩ a91 w66 ⟨a1e, n1f, c1g, S12, hS67, s68, h22, h1s, h1y, h1h, h1t⟩
  refine Wu (e := [(0, (.pointer (some ⟨g1, 0, none⟩))), (1, (Str.v x2)), (2, (vI x3)), (3, (.pointer (some ⟨b4, o4, none⟩))), (11, (vI (x1.list_.length : Int))), (12, (vI r1m)), (14, (vI x1k)), (85, (vI (x4.items.length : Int))), (86, (vI ((x4.items.length : Nat) : Int)))]) (N := 126) ?_ hS67
  refine Ws (R z (lss z z) (Wn (Wq (Wc z (fun hc => (noltt hc).elim) (fun _ => ?_)))))
  have h69 : ∀ k ∈ S12, k ∈ S10 ∨ w11.heap.size ≤ k := or1 h1h (io sr) (leor lr)
  have h6a : Chg (· ∈ ([g1] ++ S10)) w11 w66 := cM (cr ([g1] ++ S10) w11) s68 (all_app (io (sub_l sr)) (io (sub_r sr)))
  exact WC_exit (fun a' ha' => ⟨rfl, ⟨a1e, n1f, c1g, S12, (Sat.weaken ha' (s3 z z z)), h6a, h22, h1s, h1y, h69, h1t⟩⟩)
 ·rintro ⟨x1k, x1r⟩ a6b w6c rfl ⟨a1e, n1f, c1g, S12, hS92, s3k, h22, h1s, h1y, h1h, h1t⟩
  have hm6d := elL hm3b
  have hm6e := un2S hm6d
  revert a6b
  refine Wo (Ws (Rm z (R z (rd_nil z) (R z (fd f_108_2 z) (R z (l1 g_69 z fid (h1t.at z)) (Rm z (Rm z ?_)))))))
  obtain ⟨x2g, e3l, hm6f⟩ := bdS hm6e
  refine RX z (rd_atQ (α := Entry) d_69 z_54 z z h1s e3l) ?_
  rintro _ ⟨g93, h6g, rfl⟩
  refine R z (fd f_54_3 z) ?_
  obtain ⟨x94, e6h, hm6i⟩ := bdS hm6f
  refine E0 (ef_setF (α := Entry) (v' := (⟨x2g.path, x2g.rule, x2g.start, r1m⟩ : Entry)) z_3 z h6g z z z z e3l e6h h1s h1y (lb z) (fun _ _ _ h => Entry_setO3 h h2o)) ?_
  rintro _ w6j ⟨S3m, s3n, h6k, h6l, h6m⟩
  refine Wn (Ws (Rm z (Ra z (Wn ?_))))
  obtain rfl := som hm6i
  have h6n : Chg (· ∈ ([g1] ++ S1_2)) w0 w2h := cext (cr ([g1] ++ S1_2) w0) h13
  have h6o : Chg (· ∈ ([g1] ++ S1_2)) w0 w3s := cM h6n s1j (io (sub_r sr))
  have h6p : Chg (· ∈ ([g1] ++ S1_2)) w0 w3u := cM h6o h1d (io (sub_l sr))
  have h6q : Chg (· ∈ ([g1] ++ S1_2)) w0 w3x := cext h6p s19
  have h6r : Chg (· ∈ ([g1] ++ S1_2)) w0 w1z := cext h6q s18
  have h6s : Chg (· ∈ ([g1] ++ S1_2)) w0 w31 := cext h6r h15
  have h6t : ∀ k ∈ [w1z.heap.size], k ∈ ([g1] ++ S1_2) ∨ w0.heap.size ≤ k := mor h1x
  have h6u : Chg (· ∈ ([g1] ++ S1_2)) w0 w1u := cM h6s h16 h6t
  have h6v : Chg (· ∈ ([g1] ++ S1_2)) w0 w1n := cext h6u s14
  have h6w : Chg (· ∈ ([g1] ++ S1_2)) w0 w11 := cext h6v s1b
  have h3o : ∀ k ∈ S10, k ∈ ([g1] ++ S1_2) ∨ w0.heap.size ≤ k := or2 h1p (io (sub_r sr)) all_nil (leor h13.size)
  have h6x : Chg (· ∈ ([g1] ++ S1_2)) w0 w6c := cM h6w s3k (all_app (io (sub_l sr)) h3o)
  have h23 := lt_ (lt_ (lt_ (lt_ h1x h15.size) h16.size) s14.size) s1b.size
  have h6y : ∀ k ∈ S12, k ∈ ([g1] ++ S1_2) ∨ w0.heap.size ≤ k := or1 h1h h3o (leor h23)
  have h6z : Chg (· ∈ ([g1] ++ S1_2)) w0 w6j := cM h6x s3n h6y
  have h70 : ∀ k ∈ S10, k ∈ S1_2 ∨ w0.heap.size ≤ k := or2 h1p (io sr) all_nil (leor h13.size)
  have h71 : ∀ k ∈ S12, k ∈ S1_2 ∨ w0.heap.size ≤ k := or1 h1h h70 (leor h23)
  have h72 : ∀ k ∈ S3m, k ∈ S1_2 ∨ w0.heap.size ≤ k := or1 h6m h71 (leor (lt_ h23 s3k.size))
  have h73 : ∀ k ∈ S10, k ∉ [g1] := or2 h1p p1_2d all_nil (ltnot (mem1 (Blk.lt hB1)) h13.size)
  have h74 : ∀ k ∈ S12, k ∉ [g1] := or1 h1h h73 (ltnot (mem1 (Blk.lt hB1)) h23)
  exact Wr (ret1 hr z ⟨h6z, a1e, n1f, c1g, S3m, z, h2o, h6k, h6l, h72, (h1t.chg s3n (djs h74))⟩)
 rintro r95 ex96 a97 w98 rfl ⟨rfl, hq75⟩
 have hm76 := elR hm3b
 obtain rfl := som hm76
 exact ⟨hq75, z⟩
theorem A_impl_indexer_part : ∀ n, I_impl_indexer_part n
  | 0 => ⟨fun hm => by intros; exact nomatch (show none = some _ from hm)⟩
  | n + 1 => T_impl_indexer_part (A_impl_indexer_part n)
theorem W_impl_indexer_part : S_impl_indexer_part (F_impl_indexer_part n).impl_indexer_part := A_impl_indexer_part n

def Q_impl_BuildIndex (w0 : World) (B : Nat) (r : (List Entry) × Bool) (v : Value) (w' : World) : Prop := Below w0.heap.size w0 w' ∧ un2 (fun r1 r2 => ∃ (a1 : Option Addr) (n1 c1 : Nat) (S1 : List Nat), v = .tuple #[(.slice a1 n1 c1), (vB r2)] ∧ ownS w' S1 (.slice a1 n1 c1) r1 ∧ S1.Nodup ∧ (∀ k ∈ S1, w0.heap.size ≤ k)) r
theorem W_impl_BuildIndex {x1 : Desc} {x2 : List UInt8} {res : (List Entry) × Bool} (hm : M_impl_BuildIndex n x1 x2 = some res) (hBw : B ≤ w0.heap.size) (hG : Gl w0 B) (p1_0 : repS w0 B (.slice pa1_0 pn1_0 pc1_0) x1.rules) (p2_0 : repS w0 B (.slice pa2_0 pn2_0 pc2_0) x2) : CallsR prog 46 [(.agg #[(.slice pa1_0 pn1_0 pc1_0)]), (.slice pa2_0 pn2_0 pc2_0)] w0 (Q_impl_BuildIndex w0 B res) := by
 unfold M_impl_BuildIndex at hm
 obtain ⟨fn, hf, hb, hN, hr⟩ := fnE func46
 refine goW hf (hb.trans z) (hN.trans z) (lb z) (Ws (E z (fb z) ?_))
 rintro _ w1u ⟨rfl, h1d⟩
 have h15 := h1d.below
 have h16 : Blk w1u w0.heap.size [(.slice pa1_0 pn1_0 pc1_0)] := h1d.blk
 refine Ra z (Ra z (Wn (Ws (R z (lN (vs := [(.slice pa1_0 pn1_0 pc1_0)]) g_31 z_31 z z fid (h16.row 0 1 z)) (Rm z ?_)))))
 have h1e := p1_0.ext h15
 have h1f := p2_0.ext h15
 have h1g := hG.ext h15
 obtain ⟨r1v, r2s, r2t, e1w, hm1h⟩ := bd3S hm
 refine E z (fc call62 z (W_impl_ReadFile (B := B) e1w (lt_ hBw h15.size) h1g h1e h1f)) ?_
 rintro _ w1x ⟨s12, a1y, n1z, c20, S2u, a21, n22, c23, S2v, rfl, h24, h17, h18, h2w, h2x, h2y, h2z⟩
 refine Rm z ?_
 iterate 3 refine R z (ext_ z z) ?_
 refine E z (fa zero_41) ?_
 rintro _ w1i ⟨rfl, h1j⟩
 have h10 := h1j.below
 have h1k : Blk w1i w1x.heap.size [(vI 0), (.slice none 0 0), (.slice none 0 0)] := h1j.blk
 refine E0 (fs (cur' := [(vI r1v.number), (.slice a1y n1z c20), (.slice a21 n22 c23)]) z_41 z z h1k z (lb z) (oA z) z) ?_
 rintro _ w1l ⟨h25, s26⟩
 have h11 := s26.one
 refine Ra z (Ra z (Wn (Wq (Ws (Rm z (R z (nq z z) (Wn (Wc z (fun hc19 => ?_) (fun hc19 => ?_)))))))))
 ·refine Ws (E z (ef_lit0 (α := Entry) el_69) ?_)
  rintro _ w30 ⟨a27, n28, c29, rfl, s2a, h2b⟩
  refine Ra z (Ra z (Wn ?_))
  obtain rfl := som (ifT hm1h hc19)
  have h1m := lt_ h15.size s12.size
  exact Wr (ret2 hr z z ⟨(bup (bM (bup (bup h15 s12) h10) h11 (mem1le h1m)) s2a), a27, n28, c29, [w1l.heap.size], z, h2b, nd_one, (mem1le (lt_ (lt_ h1m h10.size) h11.size))⟩)
 refine Wk (Ws ?_)
 have h1n := ((h16.ext s12).ext h10).chg h11 (djs (mm1 h16.lt s12.size))
 refine R z (lN (vs := [(.slice pa1_0 pn1_0 pc1_0)]) g_31 z_31 z z fid (h1n.row 0 1 z)) (Rm z (R z (bP (parts := [(0, (.tmp 20)), (1, (.tmp 21))]) (cs := [(.slice pa1_0 pn1_0 pc1_0), (.slice pa2_0 pn2_0 pc2_0), (.slice none 0 0)]) build_108 z z) (E z (fb z) ?_)))
 rintro _ w2c ⟨rfl, h1o⟩
 have h13 := h1o.below
 have h2d : Blk w2c w1l.heap.size [(.slice pa1_0 pn1_0 pc1_0), (.slice pa2_0 pn2_0 pc2_0), (.slice none 0 0)] := h1o.blk
 refine Ra z (Wn (Ws (Rm z (R z (lN (vs := [(.slice pa1_0 pn1_0 pc1_0)]) g_31 z_31 z z fid ((h1n.ext h13).row 0 1 z)) ?_))))
 have h1a := lt_ h15.size s12.size
 have h1b := mem1le (lt_ hBw h1a)
 have h1p := (((h1e.ext s12).ext h10).chg h11 (lg h1b)).ext h13
 have h1q := lt_ h1a h10.size
 have h1r := lt_ h1q h11.size
 have h1s := lt_ h1r h13.size
 obtain ⟨r31, e2e, hm2f⟩ := bdS (ifF hm1h hc19)
 refine E z (fc call59 z (W_impl_RootOf (B := B) e2e (lt_ hBw h1s) h1p)) ?_
 rintro _ w32 ⟨s14, rfl, h2g⟩
 have h1c := lt_ hBw h1q
 obtain ⟨r33, r34, e2h, hm2i⟩ := bd2S hm2f
 refine E z (fc call75 z (W_impl_indexer_part.run (B := w1i.heap.size) e2h (h2d.ext s14) h11.size ((((((h1g.ext s12).ext h10).chg h11 (lg h1b)).ext h13).ext s14).mono h1c) (repS.mono (h1p.ext s14) h1c) (repS.mono (((((h1f.ext s12).ext h10).chg h11 (lg h1b)).ext h13).ext s14) h1c) onL nd_nil all_nil all_nil (lb z) h2g h24 (repS.mono (ownS_rep ((((h17.ext h10).chg h11 (dj_symm (mnr (ownS.lt h17)))).ext h13).ext s14) (ownS.lt h17)) h10.size) (repS.mono (ownS_rep ((((h18.ext h10).chg h11 (dj_symm (mnr (ownS.lt h18)))).ext h13).ext s14) (ownS.lt h18)) h10.size) (((h25.ext h13).ext s14).row 0 3 z) h1k.lt (ii z))) ?_
 rintro _ w35 ⟨s2j, a2k, n2l, c2m, S1t, rfl, h36, h2n, h2o, h2p, h2q⟩
 refine Wn (Ws (Rm z (R z (rd_nil z) (R z (fd f_108_2 z) (R z (l1 g_69 z fid (h2q.at z)) (Ra z (Ra z (Wn ?_))))))))
 obtain rfl := som hm2i
 have h2r : ∀ k ∈ S1t, w0.heap.size ≤ k := or1 h2p all_nil (lele (lt_ h1s s14.size))
 exact Wr (ret2 hr z z ⟨(bM (bup (bup (bM (bup (bup h15 s12) h10) h11 (mem1le h1a)) h13) s14) s2j (all_app (mem1le h1r) all_nil)), a2k, n2l, c2m, S1t, z, h2n, h2o, h2r⟩)
def Q_impl_CoveredTags (w0 : World) (B : Nat) (r : (List Str)) (v : Value) (w' : World) : Prop := Below w0.heap.size w0 w' ∧ (fun r1 => ∃ (a1 : Option Addr) (n1 c1 : Nat) (S1 : List Nat), (.slice a1 n1 c1) = v ∧ ownS w' S1 (.slice a1 n1 c1) r1 ∧ S1.Nodup ∧ (∀ k ∈ S1, w0.heap.size ≤ k)) r
theorem W_impl_CoveredTags {x1 : Desc} {x2 : List UInt8} {res : (List Str)} (hm : M_impl_CoveredTags n x1 x2 = some res) (hBw : B ≤ w0.heap.size) (hG : Gl w0 B) (p1_0 : repS w0 B (.slice pa1_0 pn1_0 pc1_0) x1.rules) (p2_0 : repS w0 B (.slice pa2_0 pn2_0 pc2_0) x2) : CallsR prog 22 [(.agg #[(.slice pa1_0 pn1_0 pc1_0)]), (.slice pa2_0 pn2_0 pc2_0)] w0 (Q_impl_CoveredTags w0 B res) := by
 unfold M_impl_CoveredTags at hm
 obtain ⟨fn, hf, hb, hN, hr⟩ := fnE func22
 refine goW hf (hb.trans z) (hN.trans z) (lb z) (Ws (E z (fb z) ?_))
 rintro _ w18 ⟨rfl, h35⟩
 have h1t := h35.below
 have h21 : Blk w18 w0.heap.size [(.slice pa1_0 pn1_0 pc1_0)] := h35.blk
 refine Ra z (Wn (Ws (E z (ef_lit0 (α := Str) el_47) ?_)))
 rintro _ w8a ⟨a4y, n4z, c50, rfl, s1u, h2m⟩
 refine Ra z (Wn (Ws ?_))
 have h36 := h21.ext s1u
 refine R z (lN (vs := [(.slice pa1_0 pn1_0 pc1_0)]) g_31 z_31 z z fid (h36.row 0 1 z)) (Rm z ?_)
 have h37 := (p1_0.ext h1t).ext s1u
 have h38 := (p2_0.ext h1t).ext s1u
 have h39 := (hG.ext h1t).ext s1u
 have h2n := lt_ h1t.size s1u.size
 obtain ⟨r1y, r8b, e51, hm52⟩ := bd2S hm
 refine E z (fc call46 z (W_impl_BuildIndex (B := B) e51 (lt_ hBw h2n) h39 h37 h38)) ?_
 rintro _ w11 ⟨s1j, a22, n23, c24, S8c, rfl, h25, h8d, h53⟩
 refine Rm z (R z (ext_ z z) (R z (ext_ z z) (Ra z (Ra z (Wn (Ws (E z (ef_makeMap kv_77 ok_77) ?_)))))))
 rintro _ w1a ⟨rfl, s1k, h1o⟩
 refine Ra z (Wn (Wq (Ws (Rm z ?_))))
 have h3a := h25.ext s1k
 refine R z (lnR d_69 z (ownS_rep h3a (ownS.lt h25))) (Rm z (Wn ?_))
 obtain ⟨u8e, hu54, hm3b⟩ := bdS hm52
 refine WC_forN (σ := (List Str) × (TagKey → Bool)) (ρ := (List Str)) (fun (k26 : Nat) s a w => un2 (fun x1p x1l => ∃ (a1b : Option Addr) (n1c c1d : Nat) (S10 : List Nat), Sat 73 [(1, (.slice pa2_0 pn2_0 pc2_0)), (2, (.pointer (some ⟨w0.heap.size, 0, none⟩))), (5, (.slice a1b n1c c1d)), (8, (.map (some w11.heap.size))), (24, (.slice a22 n23 c24)), (25, (vI (r1y.length : Int))), (26, (vI ((k26 : Nat) : Int)))] a ∧ Chg (· ∈ ([w11.heap.size] ++ [w18.heap.size])) w1a w ∧ ownS w S10 (.slice a1b n1c c1d) x1p ∧ S10.Nodup ∧ (∀ k ∈ S10, k ∈ [w18.heap.size] ∨ w1a.heap.size ≤ k) ∧ MapAt kv_77 ok_77 w w11.heap.size x1l) s) (fun s a w => un2 (fun x1p x1l => ∃ (a1b : Option Addr) (n1c c1d : Nat) (S10 : List Nat), Sat 73 [(5, (.slice a1b n1c c1d))] a ∧ Chg (· ∈ ([w11.heap.size] ++ [w18.heap.size])) w1a w ∧ ownS w S10 (.slice a1b n1c c1d) x1p ∧ S10.Nodup ∧ (∀ k ∈ S10, k ∈ [w18.heap.size] ∨ w1a.heap.size ≤ k) ∧ MapAt kv_77 ok_77 w w11.heap.size x1l) s) (fun r ex a w => ex = .ret ∧ RetPost prog fn (Q_impl_CoveredTags w0 B r) a w) hu54 ?_ ?_ ?_ ?_ ?_
 ·exact fun _ q => ⟨a4y, n4z, c50, [w18.heap.size], (q.k (s7 z z z z z z z)), (cr ([w11.heap.size] ++ [w18.heap.size]) w1a), ((h2m.ext s1j).ext s1k), nd_one, (io sr), h1o⟩
 ·rintro k26 ⟨x1p, x1l⟩ a8f w12 o8g hk3c ⟨a1b, n1c, c1d, S10, hS55, s1g, h17, h1v, h1w, h27⟩ hm56
  have hm57 := un2S hm56
  refine Wu (e := [(1, (.slice pa2_0 pn2_0 pc2_0)), (2, (.pointer (some ⟨w0.heap.size, 0, none⟩))), (5, (.slice a1b n1c c1d)), (8, (.map (some w11.heap.size))), (24, (.slice a22 n23 c24)), (25, (vI (r1y.length : Int))), (26, (vI ((k26 : Nat) : Int)))]) (N := 73) ?_ hS55
  refine Ws (R z (lss z z) (Wn (Wq (Wc z (fun _ => ?_) (fun hc => (nolt hk3c hc).elim)))))
  refine Wk (Wq ?_)
  obtain ⟨u58, hu59, hm5a⟩ := bdS hm57
  refine WC_cut (fun a w => ∃ (x29 : List Str) (x2a : (TagKey → Bool)), (x29, x2a) = u58 ∧ ∃ (a2b : Option Addr) (n2c c2d : Nat) (S1z : List Nat), Sat 73 [(1, (.slice pa2_0 pn2_0 pc2_0)), (2, (.pointer (some ⟨w0.heap.size, 0, none⟩))), (5, (.slice a2b n2c c2d)), (8, (.map (some w11.heap.size))), (24, (.slice a22 n23 c24)), (25, (vI (r1y.length : Int))), (26, (vI ((k26 : Nat) : Int)))] a ∧ Chg (· ∈ ([w11.heap.size] ++ S10)) w12 w ∧ ownS w S1z (.slice a2b n2c c2d) x29 ∧ S1z.Nodup ∧ (∀ k ∈ S1z, k ∈ S10 ∨ w12.heap.size ≤ k) ∧ MapAt kv_77 ok_77 w w11.heap.size x2a) ?_ ?_
  ·refine WC_block (Ws ?_)
   obtain ⟨x19, e5b, hm5c⟩ := bdS hu59
   refine RX z (at_ (α := Entry) d_69 z_54 z z z (ownS_rep (h3a.chg s1g (nmA (dj_symm (mnr (ownS.lt h25))) (o0no h53 (ownS.lt h2m) lr))) (ownS.lt h25)) e5b) ?_
   rintro _ ⟨b8h, o8i, cs8j, rfl, h5d, h5e, h8k⟩
   obtain ⟨rfl, h8l, h2o, h5f, h8m⟩ := Entry_open h5e
   refine R z (lN (vs := [(Str.v x19.path), (vI x19.rule), (vI x19.start), (vI x19.end_)]) g_54 z_54 z z fid h5d) (E z (fa zero_54) ?_)
   rintro _ w2p ⟨rfl, h3d⟩
   have h14 := h3d.below
   have h2q : Blk w2p w12.heap.size [(Str.v (⟨[]⟩ : Str)), (vI 0), (vI 0), (vI 0)] := h3d.blk
   refine E0 (fs (cur' := [(Str.v x19.path), (vI x19.rule), (vI x19.start), (vI x19.end_)]) z_54 z z h2q z (lb z) (oA z) z) ?_
   rintro _ w28 ⟨h3e, s5g⟩
   have h13 := s5g.one
   refine Wn (Ws (R z (fd f_31_0 z) ?_))
   have h3f := lt_ s1u.size s1j.size
   have h3g := lt_ (lt_ h3f s1k.size) s1g.size
   have h3h := ((((h36.ext s1j).ext s1k).chg s1g (atp (nmA (dj_symm (mm1 h21.lt h3f)) (dj_symm (mmr h21.lt))))).ext h14).chg h13 (djs (mm1 h21.lt h3g))
   refine R z (l1 g_29 z fid (h3h.at z)) (R z (fd f_54_1 z) (R z (l1 g_3 z fid (h3e.at z)) ?_))
   obtain ⟨x1q, e5h, hm3i⟩ := bdS hm5c
   have h2r := mem1le (lt_ hBw h1t.size)
   have h3j := lt_ h2n s1j.size
   have h2e := mem1le (lt_ hBw h3j)
   have h3k := lt_ (lt_ h3j s1k.size) s1g.size
   have h2s := mem1le (lt_ hBw h3k)
   have h3l := ((((h37.ext s1j).ext s1k).chg s1g (nmA (lg h2e) (lg h2r))).ext h14).chg h13 (lg h2s)
   refine RX z (at_ (α := Rule) d_29 z_74 z z z h3l e5h) ?_
   rintro _ ⟨b8n, o8o, cs8p, rfl, h5i, h5j, h8q⟩
   obtain ⟨a3m, n3n, c3o, a3p, n3q, c3r, a3s, n3t, c3u, a3v, n3w, c3x, rfl, h8r, h8s, h8t, h8u, h8v, h8w, h8x⟩ := Rule_open h5j
   refine R z (lN (vs := [(Str.v x1q.name), (vI x1q.kind), (vI x1q.size), (vB x1q.little), (.slice a3m n3n c3o), (.slice a3p n3q c3r), (.slice a3s n3t c3u), (.slice a3v n3w c3x)]) g_74 z_74 z z fid h5i) (E z (fa zero_74) ?_)
   rintro _ w2t ⟨rfl, h3y⟩
   have h16 := h3y.below
   have h2u : Blk w2t w28.heap.size [(Str.v (⟨[]⟩ : Str)), (vI 0), (vI 0), (vB false), (.slice none 0 0), (.slice none 0 0), (.slice none 0 0), (.slice none 0 0)] := h3y.blk
   refine E0 (fs (cur' := [(Str.v x1q.name), (vI x1q.kind), (vI x1q.size), (vB x1q.little), (.slice a3m n3n c3o), (.slice a3p n3q c3r), (.slice a3s n3t c3u), (.slice a3v n3w c3x)]) z_74 z z h2u z (lb z) (oA z) z) ?_
   rintro _ w3z ⟨h40, s5k⟩
   have h15 := s5k.one
   refine Wn (Wq (Ws (R z (fd f_74_1 z) (R z (l1 g_3 z fid (h40.at z)) (R z (nq z z) (Wn (Wc z (fun hc2v => ?_) (fun hc2v => ?_))))))))
   ·refine WC_exit (exH ?_)
    have h41 := lt_ h14.size h13.size
    have h5l := (((h27.ext h14).chg h13 (djs (mm1 h1o.lt s1g.size))).ext h16).chg h15 (djs (mm1 h1o.lt (lt_ (lt_ s1g.size h14.size) h13.size)))
    have h5m : Chg (· ∈ ([w11.heap.size] ++ S10)) w12 w2p := cext (cr ([w11.heap.size] ++ S10) w12) h14
    have h5n : ∀ k ∈ [w12.heap.size], k ∈ ([w11.heap.size] ++ S10) ∨ w12.heap.size ≤ k := mor lr
    have h5o : Chg (· ∈ ([w11.heap.size] ++ S10)) w12 w28 := cM h5m h13 h5n
    have h5p : Chg (· ∈ ([w11.heap.size] ++ S10)) w12 w2t := cext h5o h16
    have h5q : ∀ k ∈ [w28.heap.size], k ∈ ([w11.heap.size] ++ S10) ∨ w12.heap.size ≤ k := mor h41
    have h5r : Chg (· ∈ ([w11.heap.size] ++ S10)) w12 w3z := cM h5p h15 h5q
    exact fun _ q => ⟨x1p, x1l, som (ifT hm3i hc2v), a1b, n1c, c1d, S10, (q.k (s7 z z z z z z z)), h5r, ((((h17.ext h14).chg h13 (dj_symm (mnr (ownS.lt h17)))).ext h16).chg h15 (dj_symm (mno (ownS.lt h17) h41))), h1v, (io sr), h5l⟩
   refine Wk (Ws (R z (lN (vs := [(.slice pa1_0 pn1_0 pc1_0)]) g_31 z_31 z z fid (((h3h.ext h16).chg h15 (djs (mm1 h21.lt (lt_ (lt_ h3g h14.size) h13.size)))).row 0 1 z)) (R z (fd f_54_1 z) ?_)))
   have h2w := (h3e.ext h16).chg h15 (djs (mm1 h2q.lt h13.size))
   refine R z (l1 g_3 z fid (h2w.at z)) (Rm z (R z (fd f_54_2 z) (R z (l1 g_3 z fid (h2w.at z)) ?_)))
   have h42 := lt_ (lt_ h3k h14.size) h13.size
   have h2x := mem1le (lt_ hBw h42)
   have h43 := ((((((h39.ext s1j).ext s1k).chg s1g (nmA (lg h2e) (lg h2r))).ext h14).chg h13 (lg h2s)).ext h16).chg h15 (lg h2x)
   have h44 := lt_ (lt_ h42 h16.size) h15.size
   obtain ⟨r1r, r8y, r8z, e5s, hm5t⟩ := bd3S (ifF hm3i hc2v)
   refine E z (fc call47 z (W_impl_ReadValue (B := B) e5s (lt_ hBw h44) h43 ((h3l.ext h16).chg h15 (lg h2x)) h2o (((((((h38.ext s1j).ext s1k).chg s1g (nmA (lg h2e) (lg h2r))).ext h14).chg h13 (lg h2s)).ext h16).chg h15 (lg h2x)) h5f)) ?_
   rintro _ w2y ⟨s1e, a5u, n5v, c5w, S90, a5x, n5y, c5z, S91, rfl, h2z, h92, h93, h94, h95, h96, h97⟩
   refine Rm z ?_
   iterate 3 refine R z (ext_ z z) ?_
   refine E z (fa zero_41) ?_
   rintro _ w45 ⟨rfl, h46⟩
   have h1h := h46.below
   have h47 : Blk w45 w2y.heap.size [(vI 0), (.slice none 0 0), (.slice none 0 0)] := h46.blk
   refine E0 (fs (cur' := [(vI r1r.number), (.slice a5u n5v c5w), (.slice a5x n5y c5z)]) z_41 z z h47 z (lb z) (oA z) z) ?_
   rintro _ w30 ⟨h48, s60⟩
   have h1f := s60.one
   refine Ra z (Ra z (Wn (Ws (R z (fd f_54_1 z) (R z (l1 g_3 z fid ((((h2w.ext s1e).ext h1h).chg h1f (djs (mm1 h2q.lt (lt_ (lt_ (lt_ h13.size h16.size) h15.size) s1e.size)))).at z)) (R z (fd f_41_0 z) (R z (l1 g_3 z fid (h48.at z)) (R z (bP (parts := [(0, (.tmp 51)), (1, (.tmp 53))]) (cs := [(vI x19.rule), (vI r1r.number)]) build_79 z z) (E z (fa zero_79) ?_)))))))))
   rintro _ w49 ⟨rfl, h4a⟩
   have h1m := h4a.below
   have h61 : Blk w49 w30.heap.size [(vI 0), (vI 0)] := h4a.blk
   refine E0 (fs (cur' := [(vI x19.rule), (vI r1r.number)]) z_79 z z h61 z (lb z) (oA z) z) ?_
   rintro _ w1i ⟨h4b, s62⟩
   have h1n := s62.one
   refine Wn (Ws (Rm z (R z (lN (vs := [(vI x19.rule), (vI r1r.number)]) g_79 z_79 z z fid (h4b.row 0 2 z)) ?_)))
   have h4c := lt_ (lt_ s1g.size h14.size) h13.size
   have h4d := mm1 h1o.lt h4c
   have h4e := lt_ (lt_ (lt_ h4c h16.size) h15.size) s1e.size
   have h4f := mm1 h1o.lt h4e
   have h63 := ((((((h27.ext h14).chg h13 (djs (mm1 h1o.lt s1g.size))).ext h16).chg h15 (djs h4d)).ext s1e).ext h1h).chg h1f (djs h4f)
   have h31 := (h63.ext h1m).chg h1n (djs (mm1 h1o.lt (lt_ (lt_ h4e h1h.size) h1f.size)))
   refine R z (rd_lookup (k := ((⟨x19.rule, r1r.number⟩ : TagKey) : TagKey)) map_77 z z ⟨h2o, h2z⟩ fid h31) (R z (not_ z) (Wn ?_))
   obtain ⟨u64, hu4g, hm65⟩ := bdS hm5t
   refine WC_cut (fun a w => ∃ (x2f : List Str) (x2g : (TagKey → Bool)), (x2f, x2g) = u64 ∧ ∃ (a2h : Option Addr) (n2i c2j : Nat) (S20 : List Nat), Sat 73 [(1, (.slice pa2_0 pn2_0 pc2_0)), (2, (.pointer (some ⟨w0.heap.size, 0, none⟩))), (5, (.slice a2h n2i c2j)), (8, (.map (some w11.heap.size))), (24, (.slice a22 n23 c24)), (25, (vI (r1y.length : Int))), (26, (vI ((k26 : Nat) : Int)))] a ∧ Chg (· ∈ ([w11.heap.size] ++ S10)) w1i w ∧ ownS w S20 (.slice a2h n2i c2j) x2f ∧ S20.Nodup ∧ (∀ k ∈ S20, k ∈ S10 ∨ w1i.heap.size ≤ k) ∧ MapAt kv_77 ok_77 w w11.heap.size x2g) ?_ ?_
   ·refine Wc z (fun hc32 => ?_) (fun hc32 => ?_)
    ·refine Ws (Rm z (R z (lN (vs := [(vI x19.rule), (vI r1r.number)]) g_79 z_79 z z fid (h4b.row 0 2 z)) (E0 (ef_mapUpdate (k := ((⟨x19.rule, r1r.number⟩ : TagKey) : TagKey)) map_77 z z ⟨h2o, h2z⟩ z h31) ?_)))
     rintro _ w66 ⟨h67, s1x⟩
     refine Wn (WC_draw (X := noX) 512 (.rd 0 (.rd 1 (.rd 2 (.rd 3 (.rd 4 (.rd 5 (.ef 6 (.rd 7 (.ef 8 (.ef 9 (.rd 10 .done))))))))))) mo (by kernel_rfl) fun w68 s1s _ => dR z z (mv z) (dR z z (fd f_74_0 z) ?_))
     have h4h := lt_ h15.size s1e.size
     have h69 := ((((h40.ext s1e).ext h1h).chg h1f (djs (mm1 h2u.lt h4h))).ext h1m).chg h1n (djs (mm1 h2u.lt (lt_ (lt_ h4h h1h.size) h1f.size)))
     refine dR z z (l1 g_9 z fid (((h69.chg s1x (atp h4d)).ext s1s).at z)) ?_
     obtain ⟨x98, e6a, hm6b⟩ := bdS (ifT hu4g hc32)
     refine dR z z (rd_catC z z e6a) (dR z z (fd f_41_0 z) (dR z z (l1 g_3 z fid (((((h48.ext h1m).chg h1n (djs (mm1 h47.lt h1f.size))).chg s1x (atp h4f)).ext s1s).at z)) ?_))
     have h4i := lt_ h44 s1e.size
     have h4j := lt_ (lt_ h4i h1h.size) h1f.size
     obtain ⟨r99, e6c, hm6d⟩ := bdS hm6b
     refine dE z z (fc call48 z (W_impl_FormatInt (B := B) e6c (lt_ hBw (lt_ (lt_ (lt_ (lt_ h4j h1m.size) h1n.size) s1x.size) s1s.size)) (((((((h43.ext s1e).ext h1h).chg h1f (lg (mem1le (lt_ hBw h4i)))).ext h1m).chg h1n (lg (mem1le (lt_ hBw h4j)))).chg s1x (lg h2e)).ext s1s) h2z)) (.inr fun _ _ h => chgB (h.1)) ?_
     rintro _ w4k ⟨s2k, rfl, h9a⟩
     obtain ⟨x6e, e33, hm6f⟩ := bdS hm6d
     refine dR z z (rd_catC z z e33) (dE z z (ef_buildSlice [(.tmp 68)] el_47 z z z (szAll z) (lb z) (lb z)) (.inr fun _ _ h => chgB (h.2.below)) ?_)
     rintro _ w4l ⟨rfl, h34⟩
     have h2l := h34.below
     have h6g : Blk w4l w4k.heap.size [(Str.v x6e)] := h34.blk
     have h9b := ownS_new1 h34 (Str_own (cat_len e33))
     have h4m := lt_ h14.size h13.size
     have h4n := lt_ (lt_ (lt_ h4m h16.size) h15.size) s1e.size
     have h6h := (((((((h17.ext h14).chg h13 (dj_symm (mnr (ownS.lt h17)))).ext h16).chg h15 (dj_symm (mno (ownS.lt h17) h4m))).ext s1e).ext h1h).chg h1f (dj_symm (mno (ownS.lt h17) h4n))).ext h1m
     have h4o : ∀ k ∈ S10, k ∉ [w11.heap.size] := or1 h1w (dj_symm (mno (ownS.lt h2m) s1j.size)) (ltnot (mem1 h1o.lt) lr)
     obtain ⟨x6i, e6j, hm6k⟩ := bdS hm6f
     refine dE z z (ef_pushN (α := Str) el_47 e6j z z (((((h6h.chg h1n (dj_symm (mno (ownS.lt h17) (lt_ (lt_ h4n h1h.size) h1f.size)))).chg s1x h4o).ext s1s).ext s2k).ext h2l) h1v h6g (Str_own (cat_len e33)) all_nil nd_nil) (.inl z) ?_
     rintro _ w6l ⟨S4p, a6m, n6n, c6o, rfl, s4q, h6p, h6q, h6r⟩
     refine dR z z (asg z) (PR_done ?_)
     have h6s : ∀ k ∈ S4p, k ∈ S10 ∨ w1i.heap.size ≤ k := or2 h6r (io sr) all_nil (leor (lt_ (lt_ (lt_ s1x.size s1s.size) s2k.size) h2l.size))
     have h6t : Chg (· ∈ ([w11.heap.size] ++ S10)) w1i w66 := cM (cr ([w11.heap.size] ++ S10) w1i) s1x (io (sub_l sr))
     have h6u : Chg (· ∈ ([w11.heap.size] ++ S10)) w1i w68 := cext h6t s1s
     have h6v : Chg (· ∈ ([w11.heap.size] ++ S10)) w1i w4k := cext h6u s2k
     have h6w : Chg (· ∈ ([w11.heap.size] ++ S10)) w1i w4l := cext h6v h2l
     have h6x : Chg (· ∈ ([w11.heap.size] ++ S10)) w1i w6l := cM h6w s4q (io (sub_r sr))
     exact fun _ q => ⟨x6i, (mput x1l ((⟨x19.rule, r1r.number⟩ : TagKey) : TagKey) true), som hm6k, a6m, n6n, c6o, S4p, (q.k (s7 z z z z z z z)), h6x, h6p, h6q, h6s, ((((h67.ext s1s).ext s2k).ext h2l).chg s4q (djs h4o))⟩
    refine WC_skip ?_
    have h4r := lt_ h14.size h13.size
    have h4s := lt_ (lt_ (lt_ h4r h16.size) h15.size) s1e.size
    have h6y := (((((((h17.ext h14).chg h13 (dj_symm (mnr (ownS.lt h17)))).ext h16).chg h15 (dj_symm (mno (ownS.lt h17) h4r))).ext s1e).ext h1h).chg h1f (dj_symm (mno (ownS.lt h17) h4s))).ext h1m
    exact fun _ q => ⟨x1p, x1l, som (ifF hu4g hc32), a1b, n1c, c1d, S10, (q.k (s7 z z z z z z z)), (cr ([w11.heap.size] ++ S10) w1i), (h6y.chg h1n (dj_symm (mno (ownS.lt h17) (lt_ (lt_ h4s h1h.size) h1f.size)))), h1v, (io sr), h31⟩
   rintro a6z w70 ⟨x2f, x2g, rfl, a2h, n2i, c2j, S20, hS9c, s71, h72, h73, h74, h75⟩
   have hm76 := un2S hm65
   revert a6z
   have h4t := lt_ h14.size h13.size
   have h4u := lt_ (lt_ (lt_ h4t h16.size) h15.size) s1e.size
   have h4v := lt_ (lt_ h4u h1h.size) h1f.size
   have h77 : ∀ k ∈ S20, k ∈ S10 ∨ w12.heap.size ≤ k := or1 h74 (io sr) (leor (lt_ (lt_ h4v h1m.size) h1n.size))
   have h78 : Chg (· ∈ ([w11.heap.size] ++ S10)) w12 w2p := cext (cr ([w11.heap.size] ++ S10) w12) h14
   have h79 : ∀ k ∈ [w12.heap.size], k ∈ ([w11.heap.size] ++ S10) ∨ w12.heap.size ≤ k := mor lr
   have h7a : Chg (· ∈ ([w11.heap.size] ++ S10)) w12 w28 := cM h78 h13 h79
   have h7b : Chg (· ∈ ([w11.heap.size] ++ S10)) w12 w2t := cext h7a h16
   have h7c : ∀ k ∈ [w28.heap.size], k ∈ ([w11.heap.size] ++ S10) ∨ w12.heap.size ≤ k := mor h4t
   have h7d : Chg (· ∈ ([w11.heap.size] ++ S10)) w12 w3z := cM h7b h15 h7c
   have h7e : Chg (· ∈ ([w11.heap.size] ++ S10)) w12 w2y := cext h7d s1e
   have h7f : Chg (· ∈ ([w11.heap.size] ++ S10)) w12 w45 := cext h7e h1h
   have h7g : ∀ k ∈ [w2y.heap.size], k ∈ ([w11.heap.size] ++ S10) ∨ w12.heap.size ≤ k := mor h4u
   have h7h : Chg (· ∈ ([w11.heap.size] ++ S10)) w12 w30 := cM h7f h1f h7g
   have h7i : Chg (· ∈ ([w11.heap.size] ++ S10)) w12 w49 := cext h7h h1m
   have h7j : ∀ k ∈ [w30.heap.size], k ∈ ([w11.heap.size] ++ S10) ∨ w12.heap.size ≤ k := mor h4v
   have h7k : Chg (· ∈ ([w11.heap.size] ++ S10)) w12 w1i := cM h7i h1n h7j
   have h7l : Chg (· ∈ ([w11.heap.size] ++ S10)) w12 w70 := cM h7k s71 (all_app (io (sub_l sr)) (io (sub_r sr)))
   exact fun _ q => ⟨x2f, x2g, som hm76, a2h, n2i, c2j, S20, (q.k (s7 z z z z z z z)), h7l, h72, h73, h77, h75⟩
  rintro a7m w7n ⟨x29, x2a, rfl, a2b, n2c, c2d, S1z, hS9d, s7o, h7p, h7q, h7r, h7s⟩
  have hm7t := un2S hm5a
  revert a7m
  refine Wo (Wg (R z (inc_ hk3c (lt_ (ownS.len h25) LEN_le) z z) (Rm z (Wl ?_))))
  have h7u : ∀ k ∈ S10, k ∈ [w18.heap.size] ∨ w1a.heap.size ≤ k := or1 h1w (io sr) (leor lr)
  have h7v : ∀ k ∈ S1z, k ∈ [w18.heap.size] ∨ w1a.heap.size ≤ k := or1 h7r h7u (leor s1g.size)
  have h7w : Chg (· ∈ ([w11.heap.size] ++ [w18.heap.size])) w1a w12 := cM (cr ([w11.heap.size] ++ [w18.heap.size]) w1a) s1g (all_app (io (sub_l sr)) (io (sub_r sr)))
  have h7x : ∀ k ∈ S10, k ∈ ([w11.heap.size] ++ [w18.heap.size]) ∨ w1a.heap.size ≤ k := or1 h1w (io (sub_r sr)) (leor lr)
  have h7y : Chg (· ∈ ([w11.heap.size] ++ [w18.heap.size])) w1a w7n := cM h7w s7o (all_app (io (sub_l sr)) h7x)
  exact fun _ q => ⟨(x29, x2a), (som hm7t).symm, ⟨a2b, n2c, c2d, S1z, (q.k (s7 z z z z z z z)), h7y, h7p, h7q, h7v, h7s⟩⟩
 ·rintro ⟨x1p, x1l⟩ a9e w7z ⟨a1b, n1c, c1d, S10, hS80, s81, h17, h1v, h1w, h27⟩
  refine Wu (e := [(1, (.slice pa2_0 pn2_0 pc2_0)), (2, (.pointer (some ⟨w0.heap.size, 0, none⟩))), (5, (.slice a1b n1c c1d)), (8, (.map (some w11.heap.size))), (24, (.slice a22 n23 c24)), (25, (vI (r1y.length : Int))), (26, (vI ((r1y.length : Nat) : Int)))]) (N := 73) ?_ hS80
  refine Ws (R z (lss z z) (Wn (Wq (Wc z (fun hc => (noltt hc).elim) (fun _ => ?_)))))
  have h82 : ∀ k ∈ S10, k ∈ [w18.heap.size] ∨ w1a.heap.size ≤ k := or1 h1w (io sr) (leor lr)
  have h83 : Chg (· ∈ ([w11.heap.size] ++ [w18.heap.size])) w1a w7z := cM (cr ([w11.heap.size] ++ [w18.heap.size]) w1a) s81 (all_app (io (sub_l sr)) (io (sub_r sr)))
  exact WC_exit (fun a' ha' => ⟨rfl, ⟨a1b, n1c, c1d, S10, (Sat.weaken ha' (s1 z)), h83, h17, h1v, h82, h27⟩⟩)
 ·rintro ⟨x1p, x1l⟩ a84 w9f rfl ⟨a1b, n1c, c1d, S10, hS9g, s85, h17, h1v, h1w, h27⟩
  have hm86 := elL hm3b
  have hm87 := un2S hm86
  revert a84
  refine Wo (Ws (Rm z (Ra z (Wn ?_))))
  obtain rfl := som hm87
  have h4w := mem1le h1t.size
  have h4x := lt_ h2n s1j.size
  exact Wr (ret1 hr z ⟨(bM (bup (bup (bup h1t s1u) s1j) s1k) s85 (all_app (mem1le h4x) h4w)), a1b, n1c, c1d, S10, z, h17, h1v, (o1le h1w h4w (lt_ h4x s1k.size))⟩)
 rintro r9h ex9i a9j w9k rfl ⟨rfl, hq88⟩
 have hm89 := elR hm3b
 obtain rfl := som hm89
 exact ⟨hq88, z⟩
def Q_laws_eqStringS (w0 : World) (B : Nat) (r : Bool) (v : Value) (w' : World) : Prop := Below w0.heap.size w0 w' ∧ (fun r1 => (vB r1) = v) r
theorem W_laws_eqStringS {x1 : List Str} {x2 : List Str} {res : Bool} (hm : M_laws_eqStringS x1 x2 = some res) (hBw : B ≤ w0.heap.size) (p1_0 : repS w0 B (.slice pa1_0 pn1_0 pc1_0) x1) (p2_0 : repS w0 B (.slice pa2_0 pn2_0 pc2_0) x2) : CallsR prog 23 [(.slice pa1_0 pn1_0 pc1_0), (.slice pa2_0 pn2_0 pc2_0)] w0 (Q_laws_eqStringS w0 B res) := by
 unfold M_laws_eqStringS at hm
 obtain ⟨fn, hf, hb, hN, hr⟩ := fnE func23
 refine goW hf (hb.trans z) (hN.trans z) (lb z) (Ws (Ra z (Wn (Wq (Ws (Rm z (R z (lnR d_47 z p1_0) (Rm z (R z (lnR d_47 z p2_0) (R z (nq z z) (Wn (Wc z (fun hc12 => ?_) (fun hc12 => ?_)))))))))))))
 ·refine Ws (Ra z (Wn ?_))
  obtain rfl := som (ifT hm hc12)
  exact Wr (ret1 hr z ⟨(br w0), z⟩)
 refine Wk (Wq (Ws (Ra z (Wn ?_))))
 obtain ⟨u1q, hu1a, hm15⟩ := bdS (ifF hm hc12)
 refine WC_forN (σ := Unit) (ρ := Bool) (fun (k13 : Nat) (_ : Unit) a w => Sat 26 [(0, (.slice pa1_0 pn1_0 pc1_0)), (1, (.slice pa2_0 pn2_0 pc2_0)), (5, (vI ((k13 : Nat) : Int)))] a ∧ Below w0.heap.size w0 w) (fun (_ : Unit) a w => Sat 26 [] a ∧ Below w0.heap.size w0 w) (fun r ex a w => ex = .ret ∧ RetPost prog fn (Q_laws_eqStringS w0 B r) a w) hu1a ?_ ?_ ?_ ?_ ?_
 ·exact fun _ q => ⟨(q.k (s3 z z z)), (br w0)⟩
 ·rintro k13 _ a1r w1s o1t hk16 ⟨hS1b, s10⟩ hm1c
  refine Wu (e := [(0, (.slice pa1_0 pn1_0 pc1_0)), (1, (.slice pa2_0 pn2_0 pc2_0)), (5, (vI ((k13 : Nat) : Int)))]) (N := 26) ?_ hS1b
  refine Wq (Ws (Rm z (Rm z ?_)))
  have h17 := p1_0.ext s10
  refine R z (lnR d_47 z h17) (R z (lss z z) (Wn (Wc z (fun _ => ?_) (fun hc => (nolt hk16 hc).elim))))
  refine Wk (Wq (WC_block (Wq (WC_draw (X := noX) 0 (.rd 0 (.rd 1 (.rd 2 (.rd 3 (.rd 4 (.rd 5 (.rd 6 (.rd 7 (.rd 8 .done))))))))) mo (by kernel_rfl) fun w1u s11 _ => dR z z (mv z) (dR z z (mv z) ?_)))))
  obtain ⟨x1v, e1d, hm1e⟩ := bdS hm1c
  refine dRX z z (at_ (α := Str) d_47 z_9 z z z (h17.ext s11) e1d) ?_
  rintro _ ⟨b1w, o1x, cs1y, rfl, h1f, h1g, h1z⟩
  obtain ⟨rfl, h20⟩ := Str_open h1g
  refine dR z z (l1 g_9 z fid (h1f.at0 z)) (dR z z (mv z) (dR z z (mv z) ?_))
  obtain ⟨x21, e1h, hm18⟩ := bdS hm1e
  refine dRX z z (at_ (α := Str) d_47 z_9 z z z ((p2_0.ext s10).ext s11) e1h) ?_
  rintro _ ⟨b22, o23, cs24, rfl, h1i, h1j, h25⟩
  obtain ⟨rfl, h26⟩ := Str_open h1j
  refine dR z z (l1 g_9 z fid (h1i.at0 z)) (dR z z (rd_neqT z z) (PR_done (Wo (Wc z (fun hc14 => ?_) (fun hc14 => ?_)))))
  ·exact Ws (Ra z (Wn (Wr (rtO (QO_retL (som (ifT hm18 hc14)).symm (ret1 hr z ⟨(bup s10 s11), z⟩))))))
  exact Wk (Wg (Rm z (R z (inc_ hk16 (lt_ (repS.len p1_0) LEN_le) z z) (Ra z (Wl (fun _ q => ⟨(), (som (ifF hm18 hc14)).symm, ⟨(q.k (s3 z z z)), (bup s10 s11)⟩⟩))))))
 ·rintro _ a27 w28 ⟨hS1k, s19⟩
  refine Wu (e := [(0, (.slice pa1_0 pn1_0 pc1_0)), (1, (.slice pa2_0 pn2_0 pc2_0)), (5, (vI ((x1.length : Nat) : Int)))]) (N := 26) ?_ hS1k
  refine Wq (Ws (Rm z (Rm z (R z (lnR d_47 z (p1_0.ext s19)) (R z (lss z z) (Wn (Wc z (fun hc => (noltt hc).elim) (fun _ => ?_))))))))
  exact WC_exit (fun a' ha' => ⟨rfl, ⟨(Sat.weaken ha' sn), s19⟩⟩)
 ·rintro _ a1l w29 rfl ⟨hS2a, s1m⟩
  have hm1n := elL hm15
  revert a1l
  refine Wo (Ws (Ra z (Wn ?_)))
  obtain rfl := som hm1n
  exact Wr (ret1 hr z ⟨s1m, z⟩)
 rintro r2b ex2c a2d w2e rfl ⟨rfl, hq1o⟩
 have hm1p := elR hm15
 obtain rfl := som hm1p
 exact ⟨hq1o, z⟩
def Q_laws_eqByteS (w0 : World) (B : Nat) (r : Bool) (v : Value) (w' : World) : Prop := Below w0.heap.size w0 w' ∧ (fun r1 => (vB r1) = v) r
theorem W_laws_eqByteS {x1 : List UInt8} {x2 : List UInt8} {res : Bool} (hm : M_laws_eqByteS x1 x2 = some res) (hBw : B ≤ w0.heap.size) (p1_0 : repS w0 B (.slice pa1_0 pn1_0 pc1_0) x1) (p2_0 : repS w0 B (.slice pa2_0 pn2_0 pc2_0) x2) : CallsR prog 11 [(.slice pa1_0 pn1_0 pc1_0), (.slice pa2_0 pn2_0 pc2_0)] w0 (Q_laws_eqByteS w0 B res) := by
 unfold M_laws_eqByteS at hm
 obtain ⟨fn, hf, hb, hN, hr⟩ := fnE func11
 refine goW hf (hb.trans z) (hN.trans z) (lb z) (Ws (Ra z (Wn (Wq (Ws (Rm z (R z (lnR d_25 z p1_0) (Rm z (R z (lnR d_25 z p2_0) (R z (nq z z) (Wn (Wc z (fun hc12 => ?_) (fun hc12 => ?_)))))))))))))
 ·refine Ws (Ra z (Wn ?_))
  obtain rfl := som (ifT hm hc12)
  exact Wr (ret1 hr z ⟨(br w0), z⟩)
 refine Wk (Wq (Ws (Ra z (Wn ?_))))
 obtain ⟨u1q, hu1a, hm15⟩ := bdS (ifF hm hc12)
 refine WC_forN (σ := Unit) (ρ := Bool) (fun (k13 : Nat) (_ : Unit) a w => Sat 26 [(0, (.slice pa1_0 pn1_0 pc1_0)), (1, (.slice pa2_0 pn2_0 pc2_0)), (5, (vI ((k13 : Nat) : Int)))] a ∧ Below w0.heap.size w0 w) (fun (_ : Unit) a w => Sat 26 [] a ∧ Below w0.heap.size w0 w) (fun r ex a w => ex = .ret ∧ RetPost prog fn (Q_laws_eqByteS w0 B r) a w) hu1a ?_ ?_ ?_ ?_ ?_
 ·exact fun _ q => ⟨(q.k (s3 z z z)), (br w0)⟩
 ·rintro k13 _ a1r w1s o1t hk16 ⟨hS1b, s10⟩ hm1c
  refine Wu (e := [(0, (.slice pa1_0 pn1_0 pc1_0)), (1, (.slice pa2_0 pn2_0 pc2_0)), (5, (vI ((k13 : Nat) : Int)))]) (N := 26) ?_ hS1b
  refine Wq (Ws (Rm z (Rm z ?_)))
  have h17 := p1_0.ext s10
  refine R z (lnR d_25 z h17) (R z (lss z z) (Wn (Wc z (fun _ => ?_) (fun hc => (nolt hk16 hc).elim))))
  refine Wk (Wq (WC_block (Wq (WC_draw (X := noX) 0 (.rd 0 (.rd 1 (.rd 2 (.rd 3 (.rd 4 (.rd 5 (.rd 6 (.rd 7 (.rd 8 .done))))))))) mo (by kernel_rfl) fun w1u s11 _ => dR z z (mv z) (dR z z (mv z) ?_)))))
  obtain ⟨x1v, e1d, hm1e⟩ := bdS hm1c
  refine dRX z z (at_ (α := UInt8) d_25 z_5 z z z (h17.ext s11) e1d) ?_
  rintro _ ⟨b1w, o1x, cs1y, rfl, h1f, h1g, h1z⟩
  obtain rfl := UInt8_open h1g
  refine dR z z (l1 g_5 z fid (h1f.at0 z)) (dR z z (mv z) (dR z z (mv z) ?_))
  obtain ⟨x20, e1h, hm18⟩ := bdS hm1e
  refine dRX z z (at_ (α := UInt8) d_25 z_5 z z z ((p2_0.ext s10).ext s11) e1h) ?_
  rintro _ ⟨b21, o22, cs23, rfl, h1i, h1j, h24⟩
  obtain rfl := UInt8_open h1j
  refine dR z z (l1 g_5 z fid (h1i.at0 z)) (dR z z (nq z z) (PR_done (Wo (Wc z (fun hc14 => ?_) (fun hc14 => ?_)))))
  ·exact Ws (Ra z (Wn (Wr (rtO (QO_retL (som (ifT hm18 hc14)).symm (ret1 hr z ⟨(bup s10 s11), z⟩))))))
  exact Wk (Wg (Rm z (R z (inc_ hk16 (lt_ (repS.len p1_0) LEN_le) z z) (Ra z (Wl (fun _ q => ⟨(), (som (ifF hm18 hc14)).symm, ⟨(q.k (s3 z z z)), (bup s10 s11)⟩⟩))))))
 ·rintro _ a25 w26 ⟨hS1k, s19⟩
  refine Wu (e := [(0, (.slice pa1_0 pn1_0 pc1_0)), (1, (.slice pa2_0 pn2_0 pc2_0)), (5, (vI ((x1.length : Nat) : Int)))]) (N := 26) ?_ hS1k
  refine Wq (Ws (Rm z (Rm z (R z (lnR d_25 z (p1_0.ext s19)) (R z (lss z z) (Wn (Wc z (fun hc => (noltt hc).elim) (fun _ => ?_))))))))
  exact WC_exit (fun a' ha' => ⟨rfl, ⟨(Sat.weaken ha' sn), s19⟩⟩)
 ·rintro _ a1l w27 rfl ⟨hS28, s1m⟩
  have hm1n := elL hm15
  revert a1l
  refine Wo (Ws (Ra z (Wn ?_)))
  obtain rfl := som hm1n
  exact Wr (ret1 hr z ⟨s1m, z⟩)
 rintro r29 ex2a a2b w2c rfl ⟨rfl, hq1o⟩
 have hm1p := elR hm15
 obtain rfl := som hm1p
 exact ⟨hq1o, z⟩
def Q_laws_eqIntS (w0 : World) (B : Nat) (r : Bool) (v : Value) (w' : World) : Prop := Below w0.heap.size w0 w' ∧ (fun r1 => (vB r1) = v) r
theorem W_laws_eqIntS {x1 : List Int} {x2 : List Int} {res : Bool} (hm : M_laws_eqIntS x1 x2 = some res) (hBw : B ≤ w0.heap.size) (p1_0 : repS w0 B (.slice pa1_0 pn1_0 pc1_0) x1) (p2_0 : repS w0 B (.slice pa2_0 pn2_0 pc2_0) x2) : CallsR prog 101 [(.slice pa1_0 pn1_0 pc1_0), (.slice pa2_0 pn2_0 pc2_0)] w0 (Q_laws_eqIntS w0 B res) := by
 unfold M_laws_eqIntS at hm
 obtain ⟨fn, hf, hb, hN, hr⟩ := fnE func101
 refine goW hf (hb.trans z) (hN.trans z) (lb z) (Ws (Ra z (Wn (Wq (Ws (Rm z (R z (lnR d_72 z p1_0) (Rm z (R z (lnR d_72 z p2_0) (R z (nq z z) (Wn (Wc z (fun hc12 => ?_) (fun hc12 => ?_)))))))))))))
 ·refine Ws (Ra z (Wn ?_))
  obtain rfl := som (ifT hm hc12)
  exact Wr (ret1 hr z ⟨(br w0), z⟩)
 refine Wk (Wq (Ws (Ra z (Wn ?_))))
 obtain ⟨u1q, hu1a, hm15⟩ := bdS (ifF hm hc12)
 refine WC_forN (σ := Unit) (ρ := Bool) (fun (k13 : Nat) (_ : Unit) a w => Sat 26 [(0, (.slice pa1_0 pn1_0 pc1_0)), (1, (.slice pa2_0 pn2_0 pc2_0)), (5, (vI ((k13 : Nat) : Int)))] a ∧ Below w0.heap.size w0 w) (fun (_ : Unit) a w => Sat 26 [] a ∧ Below w0.heap.size w0 w) (fun r ex a w => ex = .ret ∧ RetPost prog fn (Q_laws_eqIntS w0 B r) a w) hu1a ?_ ?_ ?_ ?_ ?_
 ·exact fun _ q => ⟨(q.k (s3 z z z)), (br w0)⟩
 ·rintro k13 _ a1r w1s o1t hk16 ⟨hS1b, s10⟩ hm1c
  refine Wu (e := [(0, (.slice pa1_0 pn1_0 pc1_0)), (1, (.slice pa2_0 pn2_0 pc2_0)), (5, (vI ((k13 : Nat) : Int)))]) (N := 26) ?_ hS1b
  refine Wq (Ws (Rm z (Rm z ?_)))
  have h17 := p1_0.ext s10
  refine R z (lnR d_72 z h17) (R z (lss z z) (Wn (Wc z (fun _ => ?_) (fun hc => (nolt hk16 hc).elim))))
  refine Wk (Wq (WC_block (Wq (WC_draw (X := noX) 0 (.rd 0 (.rd 1 (.rd 2 (.rd 3 (.rd 4 (.rd 5 (.rd 6 (.rd 7 (.rd 8 .done))))))))) mo (by kernel_rfl) fun w1u s11 _ => dR z z (mv z) (dR z z (mv z) ?_)))))
  obtain ⟨x1v, e1d, hm1e⟩ := bdS hm1c
  refine dRX z z (at_ (α := Int) d_72 z_3 z z z (h17.ext s11) e1d) ?_
  rintro _ ⟨b1w, o1x, cs1y, rfl, h1f, h1g, h1z⟩
  obtain ⟨rfl, h20⟩ := Int_open h1g
  refine dR z z (l1 g_3 z fid (h1f.at0 z)) (dR z z (mv z) (dR z z (mv z) ?_))
  obtain ⟨x21, e1h, hm18⟩ := bdS hm1e
  refine dRX z z (at_ (α := Int) d_72 z_3 z z z ((p2_0.ext s10).ext s11) e1h) ?_
  rintro _ ⟨b22, o23, cs24, rfl, h1i, h1j, h25⟩
  obtain ⟨rfl, h26⟩ := Int_open h1j
  refine dR z z (l1 g_3 z fid (h1i.at0 z)) (dR z z (nq z z) (PR_done (Wo (Wc z (fun hc14 => ?_) (fun hc14 => ?_)))))
  ·exact Ws (Ra z (Wn (Wr (rtO (QO_retL (som (ifT hm18 hc14)).symm (ret1 hr z ⟨(bup s10 s11), z⟩))))))
  exact Wk (Wg (Rm z (R z (inc_ hk16 (lt_ (repS.len p1_0) LEN_le) z z) (Ra z (Wl (fun _ q => ⟨(), (som (ifF hm18 hc14)).symm, ⟨(q.k (s3 z z z)), (bup s10 s11)⟩⟩))))))
 ·rintro _ a27 w28 ⟨hS1k, s19⟩
  refine Wu (e := [(0, (.slice pa1_0 pn1_0 pc1_0)), (1, (.slice pa2_0 pn2_0 pc2_0)), (5, (vI ((x1.length : Nat) : Int)))]) (N := 26) ?_ hS1k
  refine Wq (Ws (Rm z (Rm z (R z (lnR d_72 z (p1_0.ext s19)) (R z (lss z z) (Wn (Wc z (fun hc => (noltt hc).elim) (fun _ => ?_))))))))
  exact WC_exit (fun a' ha' => ⟨rfl, ⟨(Sat.weaken ha' sn), s19⟩⟩)
 ·rintro _ a1l w29 rfl ⟨hS2a, s1m⟩
  have hm1n := elL hm15
  revert a1l
  refine Wo (Ws (Ra z (Wn ?_)))
  obtain rfl := som hm1n
  exact Wr (ret1 hr z ⟨s1m, z⟩)
 rintro r2b ex2c a2d w2e rfl ⟨rfl, hq1o⟩
 have hm1p := elR hm15
 obtain rfl := som hm1p
 exact ⟨hq1o, z⟩
def Q_laws_eqRule (w0 : World) (B : Nat) (r : Bool) (v : Value) (w' : World) : Prop := Below w0.heap.size w0 w' ∧ (fun r1 => (vB r1) = v) r
theorem W_laws_eqRule {x1 : Rule} {x2 : Rule} {res : Bool} (hm : M_laws_eqRule x1 x2 = some res) (hBw : B ≤ w0.heap.size) (p1_0 : x1.name.b.length ≤ LEN) (p1_1 : inI x1.kind) (p1_2 : inI x1.size) (p1_4 : repS w0 B (.slice pa1_4 pn1_4 pc1_4) x1.bytes) (p1_5 : repS w0 B (.slice pa1_5 pn1_5 pc1_5) x1.names) (p1_6 : repS w0 B (.slice pa1_6 pn1_6 pc1_6) x1.tags) (p1_7 : repS w0 B (.slice pa1_7 pn1_7 pc1_7) x1.kids) (p2_0 : x2.name.b.length ≤ LEN) (p2_1 : inI x2.kind) (p2_2 : inI x2.size) (p2_4 : repS w0 B (.slice pa2_4 pn2_4 pc2_4) x2.bytes) (p2_5 : repS w0 B (.slice pa2_5 pn2_5 pc2_5) x2.names) (p2_6 : repS w0 B (.slice pa2_6 pn2_6 pc2_6) x2.tags) (p2_7 : repS w0 B (.slice pa2_7 pn2_7 pc2_7) x2.kids) : CallsR prog 64 [(.agg #[(Str.v x1.name), (vI x1.kind), (vI x1.size), (vB x1.little), (.slice pa1_4 pn1_4 pc1_4), (.slice pa1_5 pn1_5 pc1_5), (.slice pa1_6 pn1_6 pc1_6), (.slice pa1_7 pn1_7 pc1_7)]), (.agg #[(Str.v x2.name), (vI x2.kind), (vI x2.size), (vB x2.little), (.slice pa2_4 pn2_4 pc2_4), (.slice pa2_5 pn2_5 pc2_5), (.slice pa2_6 pn2_6 pc2_6), (.slice pa2_7 pn2_7 pc2_7)])] w0 (Q_laws_eqRule w0 B res) := by
 unfold M_laws_eqRule at hm
 obtain ⟨fn, hf, hb, hN, hr⟩ := fnE func64
 refine goW hf (hb.trans z) (hN.trans z) (lb z) (Ws (E z (fb z) ?_))
 rintro _ w1f ⟨rfl, h1g⟩
 have h11 := h1g.below
 have h1x : Blk w1f w0.heap.size [(Str.v x1.name), (vI x1.kind), (vI x1.size), (vB x1.little), (.slice pa1_4 pn1_4 pc1_4), (.slice pa1_5 pn1_5 pc1_5), (.slice pa1_6 pn1_6 pc1_6), (.slice pa1_7 pn1_7 pc1_7)] := h1g.blk
 refine E z (fb z) ?_
 rintro _ w1y ⟨rfl, h1h⟩
 have h10 := h1h.below
 have h15 : Blk w1y w1f.heap.size [(Str.v x2.name), (vI x2.kind), (vI x2.size), (vB x2.little), (.slice pa2_4 pn2_4 pc2_4), (.slice pa2_5 pn2_5 pc2_5), (.slice pa2_6 pn2_6 pc2_6), (.slice pa2_7 pn2_7 pc2_7)] := h1h.blk
 refine Ra z (Wn (Wq (Ws (R z (fd f_74_0 z) ?_))))
 have h16 := h1x.ext h10
 refine R z (l1 g_9 z fid (h16.at z)) (R z (fd f_74_0 z) (R z (l1 g_9 z fid (h15.at z)) (R z (rd_neqT z z) (Wn (Wc z (fun hc17 => ?_) (fun hc17 => ?_))))))
 ·refine Ws (Ra z (Wn ?_))
  obtain rfl := som (ifT hm hc17)
  exact Wr (ret1 hr z ⟨(bup h11 h10), z⟩)
 have hm1i := ifF hm hc17
 refine Wk (Wq (Ws (R z (fd f_74_1 z) (R z (l1 g_3 z fid (h16.at z)) (R z (fd f_74_1 z) (R z (l1 g_3 z fid (h15.at z)) (R z (nq z z) (Wn (Wc z (fun hc18 => ?_) (fun hc18 => ?_))))))))))
 ·refine Ws (Ra z (Wn ?_))
  obtain rfl := som (ifT hm1i hc18)
  exact Wr (ret1 hr z ⟨(bup h11 h10), z⟩)
 have hm1j := ifF hm1i hc18
 refine Wk (Wq (Ws (R z (fd f_74_2 z) (R z (l1 g_3 z fid (h16.at z)) (R z (fd f_74_2 z) (R z (l1 g_3 z fid (h15.at z)) (R z (nq z z) (Wn (Wc z (fun hc19 => ?_) (fun hc19 => ?_))))))))))
 ·refine Ws (Ra z (Wn ?_))
  obtain rfl := som (ifT hm1j hc19)
  exact Wr (ret1 hr z ⟨(bup h11 h10), z⟩)
 have hm1k := ifF hm1j hc19
 refine Wk (Wq (Ws (R z (fd f_74_3 z) (R z (l1 g_4 z fid (h16.at z)) (R z (fd f_74_3 z) (R z (l1 g_4 z fid (h15.at z)) (R z (rd_neqB d_4 z z) (Wn (Wc z (fun hc1a => ?_) (fun hc1a => ?_))))))))))
 ·refine Ws (Ra z (Wn ?_))
  obtain rfl := som (ifT hm1k hc1a)
  exact Wr (ret1 hr z ⟨(bup h11 h10), z⟩)
 refine Wk (Wq (Ws (R z (fd f_74_4 z) (R z (l1 g_25 z fid (h16.at z)) (R z (fd f_74_4 z) (R z (l1 g_25 z fid (h15.at z)) ?_))))))
 have h1l := lt_ h11.size h10.size
 obtain ⟨r23, e1z, hm1m⟩ := bdS (ifF hm1k hc1a)
 refine E z (fc call11 z (W_laws_eqByteS (B := B) e1z (lt_ hBw h1l) ((p1_4.ext h11).ext h10) ((p2_4.ext h11).ext h10))) ?_
 rintro _ w24 ⟨s12, rfl⟩
 refine R z (not_ z) (Wn (Wc z (fun hc1b => ?_) (fun hc1b => ?_)))
 ·refine Ws (Ra z (Wn ?_))
  obtain rfl := som (ifT hm1m hc1b)
  exact Wr (ret1 hr z ⟨(bup (bup h11 h10) s12), z⟩)
 refine Wk (Wq (Ws (R z (fd f_74_5 z) ?_)))
 have h1n := h16.ext s12
 refine R z (l1 g_47 z fid (h1n.at z)) (R z (fd f_74_5 z) ?_)
 have h1o := h15.ext s12
 refine R z (l1 g_47 z fid (h1o.at z)) ?_
 have h1p := lt_ h1l s12.size
 obtain ⟨r25, e20, hm1q⟩ := bdS (ifF hm1m hc1b)
 refine E z (fc call23 z (W_laws_eqStringS (B := B) e20 (lt_ hBw h1p) (((p1_5.ext h11).ext h10).ext s12) (((p2_5.ext h11).ext h10).ext s12))) ?_
 rintro _ w26 ⟨s13, rfl⟩
 refine R z (not_ z) (Wn (Wc z (fun hc1c => ?_) (fun hc1c => ?_)))
 ·refine Ws (Ra z (Wn ?_))
  obtain rfl := som (ifT hm1q hc1c)
  exact Wr (ret1 hr z ⟨(bup (bup (bup h11 h10) s12) s13), z⟩)
 refine Wk (Wq (Ws (R z (fd f_74_6 z) ?_)))
 have h1r := h1n.ext s13
 refine R z (l1 g_72 z fid (h1r.at z)) (R z (fd f_74_6 z) ?_)
 have h1s := h1o.ext s13
 refine R z (l1 g_72 z fid (h1s.at z)) ?_
 have h1t := lt_ h1p s13.size
 obtain ⟨r27, e21, hm1u⟩ := bdS (ifF hm1q hc1c)
 refine E z (fc call101 z (W_laws_eqIntS (B := B) e21 (lt_ hBw h1t) ((((p1_6.ext h11).ext h10).ext s12).ext s13) ((((p2_6.ext h11).ext h10).ext s12).ext s13))) ?_
 rintro _ w28 ⟨s14, rfl⟩
 refine R z (not_ z) (Wn (Wc z (fun hc1d => ?_) (fun hc1d => ?_)))
 ·refine Ws (Ra z (Wn ?_))
  obtain rfl := som (ifT hm1u hc1d)
  exact Wr (ret1 hr z ⟨(bup (bup (bup (bup h11 h10) s12) s13) s14), z⟩)
 refine Wk (Wq (Ws (R z (fd f_74_7 z) (R z (l1 g_72 z fid ((h1r.ext s14).at z)) (R z (fd f_74_7 z) (R z (l1 g_72 z fid ((h1s.ext s14).at z)) ?_))))))
 obtain ⟨r29, e22, hm1v⟩ := bdS (ifF hm1u hc1d)
 refine E z (fc call101 z (W_laws_eqIntS (B := B) e22 (lt_ hBw (lt_ h1t s14.size)) (((((p1_7.ext h11).ext h10).ext s12).ext s13).ext s14) (((((p2_7.ext h11).ext h10).ext s12).ext s13).ext s14))) ?_
 rintro _ w2a ⟨s1w, rfl⟩
 refine R z (not_ z) (Wn (Wc z (fun hc1e => ?_) (fun hc1e => ?_)))
 ·refine Ws (Ra z (Wn ?_))
  obtain rfl := som (ifT hm1v hc1e)
  exact Wr (ret1 hr z ⟨(bup (bup (bup (bup (bup h11 h10) s12) s13) s14) s1w), z⟩)
 refine Wk (Ws (Ra z (Wn ?_)))
 obtain rfl := som (ifF hm1v hc1e)
 exact Wr (ret1 hr z ⟨(bup (bup (bup (bup (bup h11 h10) s12) s13) s14) s1w), z⟩)
def Q_laws_eqRuleS (w0 : World) (B : Nat) (r : Bool) (v : Value) (w' : World) : Prop := Below w0.heap.size w0 w' ∧ (fun r1 => (vB r1) = v) r
theorem W_laws_eqRuleS {x1 : List Rule} {x2 : List Rule} {res : Bool} (hm : M_laws_eqRuleS x1 x2 = some res) (hBw : B ≤ w0.heap.size) (p1_0 : repS w0 B (.slice pa1_0 pn1_0 pc1_0) x1) (p2_0 : repS w0 B (.slice pa2_0 pn2_0 pc2_0) x2) : CallsR prog 36 [(.slice pa1_0 pn1_0 pc1_0), (.slice pa2_0 pn2_0 pc2_0)] w0 (Q_laws_eqRuleS w0 B res) := by
 unfold M_laws_eqRuleS at hm
 obtain ⟨fn, hf, hb, hN, hr⟩ := fnE func36
 refine goW hf (hb.trans z) (hN.trans z) (lb z) (Ws (Ra z (Wn (Wq (Ws (Rm z (R z (lnR d_29 z p1_0) (Rm z (R z (lnR d_29 z p2_0) (R z (nq z z) (Wn (Wc z (fun hc14 => ?_) (fun hc14 => ?_)))))))))))))
 ·refine Ws (Ra z (Wn ?_))
  obtain rfl := som (ifT hm hc14)
  exact Wr (ret1 hr z ⟨(br w0), z⟩)
 refine Wk (Wq (Ws (Ra z (Wn ?_))))
 obtain ⟨u2x, hu1d, hm17⟩ := bdS (ifF hm hc14)
 refine WC_forN (σ := Unit) (ρ := Bool) (fun (k15 : Nat) (_ : Unit) a w => Sat 27 [(0, (.slice pa1_0 pn1_0 pc1_0)), (1, (.slice pa2_0 pn2_0 pc2_0)), (5, (vI ((k15 : Nat) : Int)))] a ∧ Below w0.heap.size w0 w) (fun (_ : Unit) a w => Sat 27 [] a ∧ Below w0.heap.size w0 w) (fun r ex a w => ex = .ret ∧ RetPost prog fn (Q_laws_eqRuleS w0 B r) a w) hu1d ?_ ?_ ?_ ?_ ?_
 ·exact fun _ q => ⟨(q.k (s3 z z z)), (br w0)⟩
 ·rintro k15 _ a2y w2z o30 hk18 ⟨hS1e, s10⟩ hm1f
  refine Wu (e := [(0, (.slice pa1_0 pn1_0 pc1_0)), (1, (.slice pa2_0 pn2_0 pc2_0)), (5, (vI ((k15 : Nat) : Int)))]) (N := 27) ?_ hS1e
  refine Wq (Ws (Rm z (Rm z ?_)))
  have h19 := p1_0.ext s10
  refine R z (lnR d_29 z h19) (R z (lss z z) (Wn (Wc z (fun _ => ?_) (fun hc => (nolt hk18 hc).elim))))
  refine Wk (Wq (WC_block (Wq (WC_draw (X := noX) 0 (.rd 0 (.rd 1 (.rd 2 (.rd 3 (.rd 4 (.rd 5 (.rd 6 (.rd 7 (.ef 8 (.rd 9 .done)))))))))) mo (by kernel_rfl) fun w31 s11 _ => dR z z (mv z) (dR z z (mv z) ?_)))))
  obtain ⟨x12, e1g, hm1h⟩ := bdS hm1f
  refine dRX z z (at_ (α := Rule) d_29 z_74 z z z (h19.ext s11) e1g) ?_
  rintro _ ⟨b32, o33, cs34, rfl, h1i, h1j, h35⟩
  obtain ⟨a1k, n1l, c1m, a1n, n1o, c1p, a1q, n1r, c1s, a1t, n1u, c1v, rfl, h1w, h1x, h1y, h1z, h20, h21, h22⟩ := Rule_open h1j
  refine dR z z (lN (vs := [(Str.v x12.name), (vI x12.kind), (vI x12.size), (vB x12.little), (.slice a1k n1l c1m), (.slice a1n n1o c1p), (.slice a1q n1r c1s), (.slice a1t n1u c1v)]) g_74 z_74 z z fid h1i) (dR z z (mv z) (dR z z (mv z) ?_))
  obtain ⟨x13, e23, hm24⟩ := bdS hm1h
  refine dRX z z (at_ (α := Rule) d_29 z_74 z z z ((p2_0.ext s10).ext s11) e23) ?_
  rintro _ ⟨b36, o37, cs38, rfl, h25, h26, h39⟩
  obtain ⟨a27, n28, c29, a2a, n2b, c2c, a2d, n2e, c2f, a2g, n2h, c2i, rfl, h2j, h2k, h2l, h2m, h2n, h2o, h2p⟩ := Rule_open h26
  refine dR z z (lN (vs := [(Str.v x13.name), (vI x13.kind), (vI x13.size), (vB x13.little), (.slice a27 n28 c29), (.slice a2a n2b c2c), (.slice a2d n2e c2f), (.slice a2g n2h c2i)]) g_74 z_74 z z fid h25) ?_
  obtain ⟨r3a, e2q, hm1a⟩ := bdS hm24
  refine dE z z (fc call64 z (W_laws_eqRule (B := B) e2q (lt_ hBw (lt_ s10.size s11.size)) h1w h1x h1y h1z h20 h21 h22 h2j h2k h2l h2m h2n h2o h2p)) (.inr fun _ _ h => chgB (h.1)) ?_
  rintro _ w3b ⟨s1b, rfl⟩
  refine dR z z (not_ z) (PR_done (Wo (Wc z (fun hc16 => ?_) (fun hc16 => ?_))))
  ·exact Ws (Ra z (Wn (Wr (rtO (QO_retL (som (ifT hm1a hc16)).symm (ret1 hr z ⟨(bup (bup s10 s11) s1b), z⟩))))))
  exact Wk (Wg (Rm z (R z (inc_ hk18 (lt_ (repS.len p1_0) LEN_le) z z) (Ra z (Wl (fun _ q => ⟨(), (som (ifF hm1a hc16)).symm, ⟨(q.k (s3 z z z)), (bup (bup s10 s11) s1b)⟩⟩))))))
 ·rintro _ a3c w3d ⟨hS2r, s1c⟩
  refine Wu (e := [(0, (.slice pa1_0 pn1_0 pc1_0)), (1, (.slice pa2_0 pn2_0 pc2_0)), (5, (vI ((x1.length : Nat) : Int)))]) (N := 27) ?_ hS2r
  refine Wq (Ws (Rm z (Rm z (R z (lnR d_29 z (p1_0.ext s1c)) (R z (lss z z) (Wn (Wc z (fun hc => (noltt hc).elim) (fun _ => ?_))))))))
  exact WC_exit (fun a' ha' => ⟨rfl, ⟨(Sat.weaken ha' sn), s1c⟩⟩)
 ·rintro _ a2s w3e rfl ⟨hS3f, s2t⟩
  have hm2u := elL hm17
  revert a2s
  refine Wo (Ws (Ra z (Wn ?_)))
  obtain rfl := som hm2u
  exact Wr (ret1 hr z ⟨s2t, z⟩)
 rintro r3g ex3h a3i w3j rfl ⟨rfl, hq2v⟩
 have hm2w := elR hm17
 obtain rfl := som hm2w
 exact ⟨hq2v, z⟩
def Q_laws_eqDescription (w0 : World) (B : Nat) (r : Bool) (v : Value) (w' : World) : Prop := Below w0.heap.size w0 w' ∧ (fun r1 => (vB r1) = v) r
theorem W_laws_eqDescription {x1 : Desc} {x2 : Desc} {res : Bool} (hm : M_laws_eqDescription x1 x2 = some res) (hBw : B ≤ w0.heap.size) (p1_0 : repS w0 B (.slice pa1_0 pn1_0 pc1_0) x1.rules) (p2_0 : repS w0 B (.slice pa2_0 pn2_0 pc2_0) x2.rules) : CallsR prog 12 [(.agg #[(.slice pa1_0 pn1_0 pc1_0)]), (.agg #[(.slice pa2_0 pn2_0 pc2_0)])] w0 (Q_laws_eqDescription w0 B res) := by
 unfold M_laws_eqDescription at hm
 obtain ⟨fn, hf, hb, hN, hr⟩ := fnE func12
 refine goW hf (hb.trans z) (hN.trans z) (lb z) (Ws (E z (fb z) ?_))
 rintro _ w13 ⟨rfl, h14⟩
 have h11 := h14.below
 have h18 : Blk w13 w0.heap.size [(.slice pa1_0 pn1_0 pc1_0)] := h14.blk
 refine E z (fb z) ?_
 rintro _ w19 ⟨rfl, h15⟩
 have h10 := h15.below
 have h1a : Blk w19 w13.heap.size [(.slice pa2_0 pn2_0 pc2_0)] := h15.blk
 refine Ra z (Wn (Wq (Ws (R z (fd f_31_0 z) (R z (l1 g_29 z fid ((h18.ext h10).at z)) (R z (fd f_31_0 z) (R z (l1 g_29 z fid (h1a.at z)) ?_)))))))
 obtain ⟨r1c, e1b, hm16⟩ := bdS hm
 refine E z (fc call36 z (W_laws_eqRuleS (B := B) e1b (lt_ hBw (lt_ h11.size h10.size)) ((p1_0.ext h11).ext h10) ((p2_0.ext h11).ext h10))) ?_
 rintro _ w1d ⟨s17, rfl⟩
 refine R z (not_ z) (Wn (Wc z (fun hc12 => ?_) (fun hc12 => ?_)))
 ·refine Ws (Ra z (Wn ?_))
  obtain rfl := som (ifT hm16 hc12)
  exact Wr (ret1 hr z ⟨(bup (bup h11 h10) s17), z⟩)
 refine Wk (Ws (Ra z (Wn ?_)))
 obtain rfl := som (ifF hm16 hc12)
 exact Wr (ret1 hr z ⟨(bup (bup h11 h10) s17), z⟩)
def Q_laws_markText (w0 : World) (B : Nat) (r : Str) (v : Value) (w' : World) : Prop := Below w0.heap.size w0 w' ∧ (fun r1 => (Str.v r1) = v ∧ r1.b.length ≤ LEN) r
theorem W_laws_markText {x1 : Int} {res : Str} (hm : M_laws_markText n x1 = some res) (hBw : B ≤ w0.heap.size) (p1_0 : inI x1) : CallsR prog 49 [(vI x1)] w0 (Q_laws_markText w0 B res) := by
 unfold M_laws_markText at hm
 obtain ⟨fn, hf, hb, hN, hr⟩ := fnE func49
 refine goW hf (hb.trans z) (hN.trans z) (lb z) (Ws (Ra z (Wn (Wq (Ws (Rm z (R z (rd_leq z z) (Wn (Wc z (fun hc12 => ?_) (fun hc12 => ?_))))))))))
 ·refine Ws (Ra z (Wn ?_))
  obtain rfl := som (ifT hm hc12)
  exact Wr (ret1 hr z ⟨(br w0), z, (lb z)⟩)
 refine Wk (Ws (Ra z (Wn (Wq ?_))))
 obtain ⟨u1q, hu1c, hm15⟩ := bdS (ifF hm hc12)
 refine WC_iter (σ := Int × Str) (ρ := Str) (fun s a w => un2 (fun x10 x11 => Sat 20 [(0, (vI x10)), (3, (Str.v x11))] a ∧ Below w0.heap.size w0 w ∧ inI x10 ∧ x11.b.length ≤ LEN) s) (fun s a w => un2 (fun x10 x11 => Sat 20 [(3, (Str.v x11))] a ∧ Below w0.heap.size w0 w ∧ inI x10 ∧ x11.b.length ≤ LEN) s) (fun r ex a w => ex = .ret ∧ RetPost prog fn (Q_laws_markText w0 B r) a w) hu1c ?_ ?_ ?_ ?_
 ·exact fun _ q => ⟨(q.k (s2 z z)), (br w0), p1_0, (lb z)⟩
 ·rintro ⟨x10, x11⟩ a1r w1d o1s ⟨hS1e, s16, h17, h18⟩ hm1f
  have hm19 := un2S hm1f
  refine Wu (e := [(0, (vI x10)), (3, (Str.v x11))]) (N := 20) ?_ hS1e
  refine Wq (Ws (Rm z (R z (rd_gtr z z) (Wn (Wc z (fun hc13 => ?_) (fun hc13 => ?_))))))
  ·refine Wk (WC_block (Ws (Rm z (R z (rd_rem z z (by decide)) (R z (add_ z z) (R z (rd_convU d_3 d_5 z) (E z (ef_buildSlice [(.tmp 11)] el_25 z z z (szAll z) (lb z) (lb z)) ?_)))))))
   rintro _ w1g ⟨rfl, h14⟩
   have h1t : Blk w1g w1d.heap.size [(vU (byteI (mkB (iadd 48 (irem x10 10)))))] := h14.blk
   refine R z (rd_convST d_25 d_9 d_5 z_5 z (ownS.rep (ownS_new1 h14 UInt8_own))) (Rm z ?_)
   obtain ⟨x1h, e1a, hm1i⟩ := bdS (ifT hm19 hc13)
   exact R z (rd_catC z z e1a) (Ra z (Wn (Wg (Rm z (R z (rd_quo z z (by decide)) (Ra z (Wl (fun _ q => ⟨(iquo x10 10, x1h), (som hm1i).symm, ⟨(q.k (s2 z z)), (bup s16 h14.below), (inI_quo _ _), (cat_len e1a)⟩⟩))))))))
  exact WC_exit (fun a' ha' => QO_brk (som (ifF hm19 hc13)).symm ⟨(Sat.weaken ha' (s1 z)), s16, h17, h18⟩)
 ·rintro ⟨x10, x11⟩ a1j w1u rfl ⟨hS1v, s1k, h17, h18⟩
  have hm1l := elL hm15
  have hm1m := un2S hm1l
  revert a1j
  refine Wo (Ws (Rm z ?_))
  obtain ⟨x1w, e1b, hm1n⟩ := bdS hm1m
  refine R z (rd_catC z z e1b) (Ra z (Wn ?_))
  obtain rfl := som hm1n
  exact Wr (ret1 hr z ⟨s1k, z, (cat_len e1b)⟩)
 rintro r1x ex1y a1z w20 rfl ⟨rfl, hq1o⟩
 have hm1p := elR hm15
 obtain rfl := som hm1p
 exact ⟨hq1o, z⟩
def Q_laws_markByteS (w0 : World) (B : Nat) (pa1_0 : Option Addr) (pn1_0 pc1_0 : Nat) (S1_0 : List Nat) (r : Int × (List UInt8)) (v : Value) (w' : World) : Prop := Chg (· ∈ S1_0) w0 w' ∧ un2 (fun r1 r2 => ∃ (S1 : List Nat), (vI r1) = v ∧ inI r1 ∧ ownS w' S1 (.slice pa1_0 pn1_0 pc1_0) r2 ∧ S1.Nodup ∧ (∀ k ∈ S1, k ∈ S1_0 ∨ w0.heap.size ≤ k)) r
theorem W_laws_markByteS {x1 : List UInt8} {S1_0 : List Nat} {x2 : Int} {res : Int × (List UInt8)} (hm : M_laws_markByteS n x1 x2 = some res) (hBw : B ≤ w0.heap.size) (p1_0 : ownS w0 S1_0 (.slice pa1_0 pn1_0 pc1_0) x1) (p1_0n : S1_0.Nodup) (p1_0g : ∀ k ∈ S1_0, B ≤ k) (p2_0 : inI x2) : CallsR prog 14 [(.slice pa1_0 pn1_0 pc1_0), (vI x2)] w0 (Q_laws_markByteS w0 B pa1_0 pn1_0 pc1_0 S1_0 res) := by
 unfold M_laws_markByteS at hm
 obtain ⟨fn, hf, hb, hN, hr⟩ := fnE func14
 refine goW hf (hb.trans z) (hN.trans z) (lb z) (Ws (Ra z (Wn (Wq (Ws (Ra z (Wn ?_)))))))
 obtain ⟨u26, hu1h, hm1a⟩ := bdS hm
 refine WC_iter (σ := (List UInt8) × Int × Int) (ρ := Int × (List UInt8)) (fun s a w => un3 (fun x14 x11 x12 => ∃  (S10 : List Nat), Sat 20 [(0, (.slice pa1_0 pn1_0 pc1_0)), (1, (vI x11)), (5, (vI x12))] a ∧ Chg (· ∈ S1_0) w0 w ∧ ownS w S10 (.slice pa1_0 pn1_0 pc1_0) x14 ∧ S10.Nodup ∧ (∀ k ∈ S10, k ∈ S1_0 ∨ w0.heap.size ≤ k) ∧ inI x11 ∧ inI x12) s) (fun s a w => un3 (fun x14 x11 x12 => ∃  (S10 : List Nat), Sat 20 [(0, (.slice pa1_0 pn1_0 pc1_0)), (1, (vI x11))] a ∧ Chg (· ∈ S1_0) w0 w ∧ ownS w S10 (.slice pa1_0 pn1_0 pc1_0) x14 ∧ S10.Nodup ∧ (∀ k ∈ S10, k ∈ S1_0 ∨ w0.heap.size ≤ k) ∧ inI x11 ∧ inI x12) s) (fun r ex a w => ex = .ret ∧ RetPost prog fn (Q_laws_markByteS w0 B pa1_0 pn1_0 pc1_0 S1_0 r) a w) hu1h ?_ ?_ ?_ ?_
 ·exact fun _ q => ⟨S1_0, (q.k (s3 z z z)), (cr S1_0 w0), p1_0, p1_0n, (io sr), p2_0, (ii z)⟩
 ·rintro ⟨x14, x11, x12⟩ a27 w1b o28 ⟨S10, hS1i, s17, h13, h15, h16, h18, h1c⟩ hm1j
  have hm1d := un3S hm1j
  refine Wu (e := [(0, (.slice pa1_0 pn1_0 pc1_0)), (1, (vI x11)), (5, (vI x12))]) (N := 20) ?_ hS1i
  refine Wq (Ws (Rm z (Rm z (R z (lnR d_25 z (ownS.rep h13)) (R z (lss z z) (Wn (Wc z (fun hc19 => ?_) (fun hc19 => ?_))))))))
  ·refine Wk (Wq (WC_block (Ws (Rm z (Rm z (Rm z (R z (rd_convU d_3 d_5 z) ?_)))))))
   obtain ⟨x1k, e1e, hm1l⟩ := bdS (ifT hm1d hc19)
   refine RX z (rd_atU (α := UInt8) d_25 z_5 z z h13 e1e) ?_
   rintro _ ⟨g29, h1m, rfl⟩
   refine E0 (ef_setN (α := UInt8) z_5 z h1m z z z e1e h13 h15 UInt8_own all_nil nd_nil) ?_
   rintro _ w1n ⟨S1f, s1o, h1p, h1q, h1r⟩
   refine Wn (Wg (Rm z (R z (add_ z z) (Ra z (Wn (Wg (Rm z (R z (add_ z z) (Ra z (Wl ?_))))))))))
   have h1g : ∀ k ∈ S10, k ∈ S1_0 ∨ w0.heap.size ≤ k := or1 h16 (io sr) (leor lr)
   have h1s : ∀ k ∈ S1f, k ∈ S1_0 ∨ w0.heap.size ≤ k := or2 h1r h1g all_nil (leor s17.size)
   have h1t : Chg (· ∈ S1_0) w0 w1b := cM (cr S1_0 w0) s17 (io sr)
   have h1u : Chg (· ∈ S1_0) w0 w1n := cM h1t s1o h1g
   exact fun _ q => ⟨(x1k, iadd x11 1, iadd x12 1), (som hm1l).symm, ⟨S1f, (q.k (s3 z z z)), h1u, h1p, h1q, h1s, (iA _ _), (iA _ _)⟩⟩
  have h1v : ∀ k ∈ S10, k ∈ S1_0 ∨ w0.heap.size ≤ k := or1 h16 (io sr) (leor lr)
  have h1w : Chg (· ∈ S1_0) w0 w1b := cM (cr S1_0 w0) s17 (io sr)
  exact WC_exit (fun a' ha' => QO_brk (som (ifF hm1d hc19)).symm ⟨S10, (Sat.weaken ha' (s2 z z)), h1w, h13, h15, h1v, h18, h1c⟩)
 ·rintro ⟨x14, x11, x12⟩ a1x w1y rfl ⟨S10, hS2a, s1z, h13, h15, h16, h18, h1c⟩
  have hm20 := elL hm1a
  have hm21 := un3S hm20
  revert a1x
  refine Wo (Ws (Rm z (Ra z (Wn ?_))))
  obtain rfl := som hm21
  have h22 : Chg (· ∈ S1_0) w0 w1y := cM (cr S1_0 w0) s1z (io sr)
  have h23 : ∀ k ∈ S10, k ∈ S1_0 ∨ w0.heap.size ≤ k := or1 h16 (io sr) (leor lr)
  exact Wr (ret1 hr z ⟨h22, S10, z, h18, h13, h15, h23⟩)
 rintro r2b ex2c a2d w2e rfl ⟨rfl, hq24⟩
 have hm25 := elR hm1a
 obtain rfl := som hm25
 exact ⟨hq24, z⟩
def Q_laws_markStringS (w0 : World) (B : Nat) (pa1_0 : Option Addr) (pn1_0 pc1_0 : Nat) (S1_0 : List Nat) (r : Int × (List Str)) (v : Value) (w' : World) : Prop := Chg (· ∈ S1_0) w0 w' ∧ un2 (fun r1 r2 => ∃ (S1 : List Nat), (vI r1) = v ∧ inI r1 ∧ ownS w' S1 (.slice pa1_0 pn1_0 pc1_0) r2 ∧ S1.Nodup ∧ (∀ k ∈ S1, k ∈ S1_0 ∨ w0.heap.size ≤ k)) r
theorem W_laws_markStringS {x1 : List Str} {S1_0 : List Nat} {x2 : Int} {res : Int × (List Str)} (hm : M_laws_markStringS n x1 x2 = some res) (hBw : B ≤ w0.heap.size) (p1_0 : ownS w0 S1_0 (.slice pa1_0 pn1_0 pc1_0) x1) (p1_0n : S1_0.Nodup) (p1_0g : ∀ k ∈ S1_0, B ≤ k) (p2_0 : inI x2) : CallsR prog 24 [(.slice pa1_0 pn1_0 pc1_0), (vI x2)] w0 (Q_laws_markStringS w0 B pa1_0 pn1_0 pc1_0 S1_0 res) := by
 unfold M_laws_markStringS at hm
 obtain ⟨fn, hf, hb, hN, hr⟩ := fnE func24
 refine goW hf (hb.trans z) (hN.trans z) (lb z) (Ws (Ra z (Wn (Wq (Ws (Ra z (Wn ?_)))))))
 obtain ⟨u2d, hu1j, hm1b⟩ := bdS hm
 refine WC_iter (σ := (List Str) × Int × Int) (ρ := Int × (List Str)) (fun s a w => un3 (fun x13 x11 x12 => ∃  (S10 : List Nat), Sat 20 [(0, (.slice pa1_0 pn1_0 pc1_0)), (1, (vI x11)), (5, (vI x12))] a ∧ Chg (· ∈ S1_0) w0 w ∧ ownS w S10 (.slice pa1_0 pn1_0 pc1_0) x13 ∧ S10.Nodup ∧ (∀ k ∈ S10, k ∈ S1_0 ∨ w0.heap.size ≤ k) ∧ inI x11 ∧ inI x12) s) (fun s a w => un3 (fun x13 x11 x12 => ∃  (S10 : List Nat), Sat 20 [(0, (.slice pa1_0 pn1_0 pc1_0)), (1, (vI x11))] a ∧ Chg (· ∈ S1_0) w0 w ∧ ownS w S10 (.slice pa1_0 pn1_0 pc1_0) x13 ∧ S10.Nodup ∧ (∀ k ∈ S10, k ∈ S1_0 ∨ w0.heap.size ≤ k) ∧ inI x11 ∧ inI x12) s) (fun r ex a w => ex = .ret ∧ RetPost prog fn (Q_laws_markStringS w0 B pa1_0 pn1_0 pc1_0 S1_0 r) a w) hu1j ?_ ?_ ?_ ?_
 ·exact fun _ q => ⟨S1_0, (q.k (s3 z z z)), (cr S1_0 w0), p1_0, p1_0n, (io sr), p2_0, (ii z)⟩
 ·rintro ⟨x13, x11, x12⟩ a2e w1c o2f ⟨S10, hS1k, s15, h14, h16, h17, h18, h1d⟩ hm1l
  have hm1e := un3S hm1l
  refine Wu (e := [(0, (.slice pa1_0 pn1_0 pc1_0)), (1, (vI x11)), (5, (vI x12))]) (N := 20) ?_ hS1k
  refine Wq (Ws (Rm z (Rm z (R z (lnR d_47 z (ownS.rep h14)) (R z (lss z z) (Wn (Wc z (fun hc19 => ?_) (fun hc19 => ?_))))))))
  ·refine Wk (Wq (WC_block (Ws (Rm z (Rm z (Rm z ?_))))))
   obtain ⟨r2g, e1m, hm1n⟩ := bdS (ifT hm1e hc19)
   refine E z (fc call49 z (W_laws_markText (B := B) e1m (lt_ hBw s15.size) h18)) ?_
   rintro _ w1o ⟨s1a, rfl, h1p⟩
   obtain ⟨x1q, e1f, hm1r⟩ := bdS hm1n
   have h1g := h14.ext s1a
   refine RX z (rd_atU (α := Str) d_47 z_9 z z h1g e1f) ?_
   rintro _ ⟨g2h, h1s, rfl⟩
   refine E0 (ef_setN (α := Str) z_9 z h1s z z z e1f h1g h16 (Str_own h1p) all_nil nd_nil) ?_
   rintro _ w1t ⟨S1h, s1u, h1v, h1w, h1x⟩
   refine Wn (Wg (Rm z (R z (add_ z z) (Ra z (Wn (Wg (Rm z (R z (add_ z z) (Ra z (Wl ?_))))))))))
   have h1i : ∀ k ∈ S10, k ∈ S1_0 ∨ w0.heap.size ≤ k := or1 h17 (io sr) (leor lr)
   have h1y : ∀ k ∈ S1h, k ∈ S1_0 ∨ w0.heap.size ≤ k := or2 h1x h1i all_nil (leor (lt_ s15.size s1a.size))
   have h1z : Chg (· ∈ S1_0) w0 w1c := cM (cr S1_0 w0) s15 (io sr)
   have h20 : Chg (· ∈ S1_0) w0 w1o := cext h1z s1a
   have h21 : Chg (· ∈ S1_0) w0 w1t := cM h20 s1u h1i
   exact fun _ q => ⟨(x1q, iadd x11 1, iadd x12 1), (som hm1r).symm, ⟨S1h, (q.k (s3 z z z)), h21, h1v, h1w, h1y, (iA _ _), (iA _ _)⟩⟩
  have h22 : ∀ k ∈ S10, k ∈ S1_0 ∨ w0.heap.size ≤ k := or1 h17 (io sr) (leor lr)
  have h23 : Chg (· ∈ S1_0) w0 w1c := cM (cr S1_0 w0) s15 (io sr)
  exact WC_exit (fun a' ha' => QO_brk (som (ifF hm1e hc19)).symm ⟨S10, (Sat.weaken ha' (s2 z z)), h23, h14, h16, h22, h18, h1d⟩)
 ·rintro ⟨x13, x11, x12⟩ a24 w25 rfl ⟨S10, hS2i, s26, h14, h16, h17, h18, h1d⟩
  have hm27 := elL hm1b
  have hm28 := un3S hm27
  revert a24
  refine Wo (Ws (Rm z (Ra z (Wn ?_))))
  obtain rfl := som hm28
  have h29 : Chg (· ∈ S1_0) w0 w25 := cM (cr S1_0 w0) s26 (io sr)
  have h2a : ∀ k ∈ S10, k ∈ S1_0 ∨ w0.heap.size ≤ k := or1 h17 (io sr) (leor lr)
  exact Wr (ret1 hr z ⟨h29, S10, z, h18, h14, h16, h2a⟩)
 rintro r2j ex2k a2l w2m rfl ⟨rfl, hq2b⟩
 have hm2c := elR hm1b
 obtain rfl := som hm2c
 exact ⟨hq2b, z⟩
def Q_laws_markIntS (w0 : World) (B : Nat) (pa1_0 : Option Addr) (pn1_0 pc1_0 : Nat) (S1_0 : List Nat) (r : Int × (List Int)) (v : Value) (w' : World) : Prop := Chg (· ∈ S1_0) w0 w' ∧ un2 (fun r1 r2 => ∃ (S1 : List Nat), (vI r1) = v ∧ inI r1 ∧ ownS w' S1 (.slice pa1_0 pn1_0 pc1_0) r2 ∧ S1.Nodup ∧ (∀ k ∈ S1, k ∈ S1_0 ∨ w0.heap.size ≤ k)) r
theorem W_laws_markIntS {x1 : List Int} {S1_0 : List Nat} {x2 : Int} {res : Int × (List Int)} (hm : M_laws_markIntS n x1 x2 = some res) (hBw : B ≤ w0.heap.size) (p1_0 : ownS w0 S1_0 (.slice pa1_0 pn1_0 pc1_0) x1) (p1_0n : S1_0.Nodup) (p1_0g : ∀ k ∈ S1_0, B ≤ k) (p2_0 : inI x2) : CallsR prog 65 [(.slice pa1_0 pn1_0 pc1_0), (vI x2)] w0 (Q_laws_markIntS w0 B pa1_0 pn1_0 pc1_0 S1_0 res) := by
 unfold M_laws_markIntS at hm
 obtain ⟨fn, hf, hb, hN, hr⟩ := fnE func65
 refine goW hf (hb.trans z) (hN.trans z) (lb z) (Ws (Ra z (Wn (Wq (Ws (Ra z (Wn ?_)))))))
 obtain ⟨u26, hu1h, hm1a⟩ := bdS hm
 refine WC_iter (σ := (List Int) × Int × Int) (ρ := Int × (List Int)) (fun s a w => un3 (fun x14 x11 x12 => ∃  (S10 : List Nat), Sat 19 [(0, (.slice pa1_0 pn1_0 pc1_0)), (1, (vI x11)), (5, (vI x12))] a ∧ Chg (· ∈ S1_0) w0 w ∧ ownS w S10 (.slice pa1_0 pn1_0 pc1_0) x14 ∧ S10.Nodup ∧ (∀ k ∈ S10, k ∈ S1_0 ∨ w0.heap.size ≤ k) ∧ inI x11 ∧ inI x12) s) (fun s a w => un3 (fun x14 x11 x12 => ∃  (S10 : List Nat), Sat 19 [(0, (.slice pa1_0 pn1_0 pc1_0)), (1, (vI x11))] a ∧ Chg (· ∈ S1_0) w0 w ∧ ownS w S10 (.slice pa1_0 pn1_0 pc1_0) x14 ∧ S10.Nodup ∧ (∀ k ∈ S10, k ∈ S1_0 ∨ w0.heap.size ≤ k) ∧ inI x11 ∧ inI x12) s) (fun r ex a w => ex = .ret ∧ RetPost prog fn (Q_laws_markIntS w0 B pa1_0 pn1_0 pc1_0 S1_0 r) a w) hu1h ?_ ?_ ?_ ?_
 ·exact fun _ q => ⟨S1_0, (q.k (s3 z z z)), (cr S1_0 w0), p1_0, p1_0n, (io sr), p2_0, (ii z)⟩
 ·rintro ⟨x14, x11, x12⟩ a27 w1b o28 ⟨S10, hS1i, s18, h13, h15, h16, h17, h1c⟩ hm1j
  have hm1d := un3S hm1j
  refine Wu (e := [(0, (.slice pa1_0 pn1_0 pc1_0)), (1, (vI x11)), (5, (vI x12))]) (N := 19) ?_ hS1i
  refine Wq (Ws (Rm z (Rm z (R z (lnR d_72 z (ownS.rep h13)) (R z (lss z z) (Wn (Wc z (fun hc19 => ?_) (fun hc19 => ?_))))))))
  ·refine Wk (Wq (WC_block (Ws (Rm z (Rm z (Rm z ?_))))))
   obtain ⟨x1k, e1e, hm1l⟩ := bdS (ifT hm1d hc19)
   refine RX z (rd_atU (α := Int) d_72 z_3 z z h13 e1e) ?_
   rintro _ ⟨g29, h1m, rfl⟩
   refine E0 (ef_setN (α := Int) z_3 z h1m z z z e1e h13 h15 (Int_own h17) all_nil nd_nil) ?_
   rintro _ w1n ⟨S1f, s1o, h1p, h1q, h1r⟩
   refine Wn (Wg (Rm z (R z (add_ z z) (Ra z (Wn (Wg (Rm z (R z (add_ z z) (Ra z (Wl ?_))))))))))
   have h1g : ∀ k ∈ S10, k ∈ S1_0 ∨ w0.heap.size ≤ k := or1 h16 (io sr) (leor lr)
   have h1s : ∀ k ∈ S1f, k ∈ S1_0 ∨ w0.heap.size ≤ k := or2 h1r h1g all_nil (leor s18.size)
   have h1t : Chg (· ∈ S1_0) w0 w1b := cM (cr S1_0 w0) s18 (io sr)
   have h1u : Chg (· ∈ S1_0) w0 w1n := cM h1t s1o h1g
   exact fun _ q => ⟨(x1k, iadd x11 1, iadd x12 1), (som hm1l).symm, ⟨S1f, (q.k (s3 z z z)), h1u, h1p, h1q, h1s, (iA _ _), (iA _ _)⟩⟩
  have h1v : ∀ k ∈ S10, k ∈ S1_0 ∨ w0.heap.size ≤ k := or1 h16 (io sr) (leor lr)
  have h1w : Chg (· ∈ S1_0) w0 w1b := cM (cr S1_0 w0) s18 (io sr)
  exact WC_exit (fun a' ha' => QO_brk (som (ifF hm1d hc19)).symm ⟨S10, (Sat.weaken ha' (s2 z z)), h1w, h13, h15, h1v, h17, h1c⟩)
 ·rintro ⟨x14, x11, x12⟩ a1x w1y rfl ⟨S10, hS2a, s1z, h13, h15, h16, h17, h1c⟩
  have hm20 := elL hm1a
  have hm21 := un3S hm20
  revert a1x
  refine Wo (Ws (Rm z (Ra z (Wn ?_))))
  obtain rfl := som hm21
  have h22 : Chg (· ∈ S1_0) w0 w1y := cM (cr S1_0 w0) s1z (io sr)
  have h23 : ∀ k ∈ S10, k ∈ S1_0 ∨ w0.heap.size ≤ k := or1 h16 (io sr) (leor lr)
  exact Wr (ret1 hr z ⟨h22, S10, z, h17, h13, h15, h23⟩)
 rintro r2b ex2c a2d w2e rfl ⟨rfl, hq24⟩
 have hm25 := elR hm1a
 obtain rfl := som hm25
 exact ⟨hq24, z⟩
def Q_laws_markRuleS (w0 : World) (B : Nat) (pa1_0 : Option Addr) (pn1_0 pc1_0 : Nat) (S1_0 : List Nat) (r : Int × (List Rule)) (v : Value) (w' : World) : Prop := Chg (· ∈ S1_0) w0 w' ∧ un2 (fun r1 r2 => ∃ (S1 : List Nat), (vI r1) = v ∧ inI r1 ∧ ownS w' S1 (.slice pa1_0 pn1_0 pc1_0) r2 ∧ S1.Nodup ∧ (∀ k ∈ S1, k ∈ S1_0 ∨ w0.heap.size ≤ k)) r
theorem W_laws_markRuleS {x1 : List Rule} {S1_0 : List Nat} {x2 : Int} {res : Int × (List Rule)} (hm : M_laws_markRuleS n x1 x2 = some res) (hBw : B ≤ w0.heap.size) (p1_0 : ownS w0 S1_0 (.slice pa1_0 pn1_0 pc1_0) x1) (p1_0n : S1_0.Nodup) (p1_0g : ∀ k ∈ S1_0, B ≤ k) (p2_0 : inI x2) : CallsR prog 37 [(.slice pa1_0 pn1_0 pc1_0), (vI x2)] w0 (Q_laws_markRuleS w0 B pa1_0 pn1_0 pc1_0 S1_0 res) := by
 unfold M_laws_markRuleS at hm
 obtain ⟨fn, hf, hb, hN, hr⟩ := fnE func37
 refine goW hf (hb.trans z) (hN.trans z) (lb z) (Ws (Ra z (Wn (Wq (Ws (Ra z (Wn ?_)))))))
 obtain ⟨u8g, hu4n, hm2q⟩ := bdS hm
 refine WC_iter (σ := (List Rule) × Int × Int) (ρ := Int × (List Rule)) (fun s a w => un3 (fun x1i x1a x19 => ∃  (S10 : List Nat), Sat 72 [(0, (.slice pa1_0 pn1_0 pc1_0)), (1, (vI x1a)), (5, (vI x19))] a ∧ Chg (· ∈ S1_0) w0 w ∧ ownS w S10 (.slice pa1_0 pn1_0 pc1_0) x1i ∧ S10.Nodup ∧ (∀ k ∈ S10, k ∈ S1_0 ∨ w0.heap.size ≤ k) ∧ inI x1a ∧ inI x19) s) (fun s a w => un3 (fun x1i x1a x19 => ∃  (S10 : List Nat), Sat 72 [(0, (.slice pa1_0 pn1_0 pc1_0)), (1, (vI x1a))] a ∧ Chg (· ∈ S1_0) w0 w ∧ ownS w S10 (.slice pa1_0 pn1_0 pc1_0) x1i ∧ S10.Nodup ∧ (∀ k ∈ S10, k ∈ S1_0 ∨ w0.heap.size ≤ k) ∧ inI x1a ∧ inI x19) s) (fun r ex a w => ex = .ret ∧ RetPost prog fn (Q_laws_markRuleS w0 B pa1_0 pn1_0 pc1_0 S1_0 r) a w) hu4n ?_ ?_ ?_ ?_
 ·exact fun _ q => ⟨S1_0, (q.k (s3 z z z)), (cr S1_0 w0), p1_0, p1_0n, (io sr), p2_0, (ii z)⟩
 ·rintro ⟨x1i, x1a, x19⟩ a8h w2r o8i ⟨S10, hS4o, s1p, h1j, h1q, h1k, h1r, h2s⟩ hm4p
  have hm2t := un3S hm4p
  refine Wu (e := [(0, (.slice pa1_0 pn1_0 pc1_0)), (1, (vI x1a)), (5, (vI x19))]) (N := 72) ?_ hS4o
  refine Wq (Ws (Rm z (Rm z (R z (lnR d_29 z (ownS.rep h1j)) (R z (lss z z) (Wn (Wc z (fun hc2g => ?_) (fun hc2g => ?_))))))))
  ·refine Wk (Wq (WC_block (Ws (Rm z (Rm z (Rm z ?_))))))
   obtain ⟨r4q, e4r, hm4s⟩ := bdS (ifT hm2t hc2g)
   refine E z (fc call49 z (W_laws_markText (B := B) e4r (lt_ hBw s1p.size) h1r)) ?_
   rintro _ w4t ⟨s2h, rfl, h4u⟩
   obtain ⟨x1b, e2u, hm4v⟩ := bdS hm4s
   have h2v := h1j.ext s2h
   refine RX z (rd_atQ (α := Rule) d_29 z_74 z z h2v e2u) ?_
   rintro _ ⟨g8j, h4w, rfl⟩
   refine R z (fd f_74_0 z) ?_
   obtain ⟨x8k, e4x, hm4y⟩ := bdS hm4v
   refine E0 (ef_setF (α := Rule) (v' := (⟨r4q, x1b.kind, x1b.size, x1b.little, x1b.bytes, x1b.names, x1b.tags, x1b.kids⟩ : Rule)) z_9 z h4w z z z z e2u e4x h2v h1q (lb z) (fun _ _ _ h => Rule_setO0 h h4u)) ?_
   rintro _ w4z ⟨S50, s2w, h2x, h51, h2y⟩
   refine Wn (Ws (Rm z (R z (add_ z z) (Ra z (Wn (Ws (Rm z (Rm z (Rm z ?_)))))))))
   obtain ⟨x1c, e2z, hm52⟩ := bdS hm4y
   refine RX z (rd_atQ (α := Rule) d_29 z_74 z z h2x e2z) ?_
   rintro _ ⟨g8l, h53, rfl⟩
   refine R z (fd f_74_1 z) ?_
   obtain ⟨x8m, e54, hm55⟩ := bdS hm52
   refine E0 (ef_setF (α := Rule) (v' := (⟨x1c.name, iadd x1a 1, x1c.size, x1c.little, x1c.bytes, x1c.names, x1c.tags, x1c.kids⟩ : Rule)) z_3 z h53 z z z z e2z e54 h2x h51 (lb z) (fun _ _ _ h => Rule_setO1 h (iA _ _))) ?_
   rintro _ w56 ⟨S57, s30, h31, h58, h32⟩
   refine Wn (Ws (Rm z (R z (add_ z z) (Ra z (Wn (Ws (Rm z (Rm z (Rm z ?_)))))))))
   obtain ⟨x1d, e33, hm59⟩ := bdS hm55
   refine RX z (rd_atQ (α := Rule) d_29 z_74 z z h31 e33) ?_
   rintro _ ⟨g8n, h5a, rfl⟩
   refine R z (fd f_74_2 z) ?_
   obtain ⟨x8o, e5b, hm5c⟩ := bdS hm59
   refine E0 (ef_setF (α := Rule) (v' := (⟨x1d.name, x1d.kind, iadd (iadd x1a 1) 1, x1d.little, x1d.bytes, x1d.names, x1d.tags, x1d.kids⟩ : Rule)) z_3 z h5a z z z z e33 e5b h31 h58 (lb z) (fun _ _ _ h => Rule_setO2 h (iA _ _))) ?_
   rintro _ w5d ⟨S5e, s34, h35, h5f, h36⟩
   refine Wn (Ws (Rm z (R z (add_ z z) (Ra z (Wn (Ws (Rm z (Rm z (Rm z (R z (rd_rem z z (by decide)) (R z (eql z z) ?_)))))))))))
   obtain ⟨x1e, e37, hm5g⟩ := bdS hm5c
   refine RX z (rd_atQ (α := Rule) d_29 z_74 z z h35 e37) ?_
   rintro _ ⟨g8p, h5h, rfl⟩
   refine R z (fd f_74_3 z) ?_
   obtain ⟨x5i, e5j, hm5k⟩ := bdS hm5g
   refine E0 (ef_setF (α := Rule) (v' := (⟨x1e.name, x1e.kind, x1e.size, (irem (iadd (iadd (iadd x1a 1) 1) 1) 3) == 0, x1e.bytes, x1e.names, x1e.tags, x1e.kids⟩ : Rule)) z_4 z h5h z z z z e37 e5j h35 h5f (lb z) (fun _ _ _ h => Rule_setO3 h)) ?_
   rintro _ w1s ⟨S5l, s38, h39, h5m, h3a⟩
   refine Wn (Ws (Rm z (R z (add_ z z) (Ra z (Wn (Ws (Rm z (Rm z ?_))))))))
   obtain ⟨x11, e3b, hm5n⟩ := bdS hm5k
   refine RX z (rd_atQ (α := Rule) d_29 z_74 z z h39 e3b) ?_
   rintro _ ⟨g8q, h5o, rfl⟩
   obtain ⟨cs8r, S8s, h5p, h5q, h15, h3c, h8t, h5r⟩ := own_lens h5o h39 h5m e3b
   obtain ⟨a8u, n8v, c8w, a8x, n8y, c8z, a90, n91, c92, a93, n94, c95, S1t, S1u, S1v, S1w, rfl, rfl, h5s, h5t, h5u, h5v, h3d, h3e, h3f⟩ := Rule_openO h5q
   refine R z (fd f_74_4 z) (R z (l1 g_25 z fid (h5p.at (j := 4) z)) (Rm z ?_))
   have h2i := lt_ s1p.size s2h.size
   have h2j := lt_ h2i s2w.size
   have h2k := lt_ h2j s30.size
   have h2l := lt_ h2k s34.size
   have h1x := lt_ h2l s38.size
   have h2m := lt_ hBw h1x
   have h3g := o1le h3a (o1le h36 (o1le h32 (o1le h2y (o1le h1k p1_0g hBw) (lt_ hBw h2i)) (lt_ hBw h2j)) (lt_ hBw h2k)) (lt_ hBw h2l)
   obtain ⟨r96, r3h, e5w, hm5x⟩ := bd2S hm5n
   refine E z (fc call14 z (W_laws_markByteS (B := B) e5w h2m h5v (nd_left h15) (o1le (fun k hk => .inl (h3c k (List.mem_append_left _ hk))) h3g h2m) (iA _ _))) ?_
   rintro _ w1l ⟨s1f, S3i, rfl, h5y, h5z, h60, h1y⟩
   have h61 : Chg (· ∈ (S1t ++ (S1u ++ (S1v ++ S1w)))) w1s w1l := cM (cr (S1t ++ (S1u ++ (S1v ++ S1w))) w1s) s1f (io (sub_l sr))
   have h62 : ∀ k ∈ S3i, k ∈ (S1t ++ (S1u ++ (S1v ++ S1w))) ∨ w1s.heap.size ≤ k := or1 h1y (io (sub_l sr)) (leor lr)
   obtain ⟨S63, h3j, h64, h3k⟩ := h5r _ _ _ h61 (Rule_mkO (x := (⟨x11.name, x11.kind, x11.size, x11.little, r3h, x11.names, x11.tags, x11.kids⟩ : Rule)) (S1 := S3i) (S2 := S1u) (S3 := S1v) (S4 := S1w) h5s h5t h5u h5z (h3d.chg s1f (dj_symm (nmL (nd_dj h15)))) (h3e.chg s1f (dj_symm (nmL (nmR (nd_dj h15))))) (h3f.chg s1f (dj_symm (nmR (nmR (nd_dj h15)))))) (nd_app h60 (nd_app (nd_left (nd_right h15)) (nd_app (nd_left (nd_right (nd_right h15))) (nd_right (nd_right (nd_right h15))) (nd_dj (nd_right (nd_right h15)))) (nmA (nmL (nd_dj (nd_right h15))) (nmR (nd_dj (nd_right h15))))) (nmA (o1no h1y (nmL (nd_dj h15)) (ownS.lt h3d) lr) (nmA (o1no h1y (nmL (nmR (nd_dj h15))) (ownS.lt h3e) lr) (o1no h1y (nmR (nmR (nd_dj h15))) (ownS.lt h3f) lr)))) (all_app h62 (all_app (io (sub_r (sub_l sr))) (all_app (io (sub_r (sub_r (sub_l sr)))) (io (sub_r (sub_r (sub_r sr)))))))
   refine Ra z (Wn (Ws (Rm z (Rm z ?_))))
   obtain ⟨x12, e3l, hm65⟩ := bdS hm5x
   refine RX z (rd_atQ (α := Rule) d_29 z_74 z z h3j e3l) ?_
   rintro _ ⟨g97, h66, rfl⟩
   obtain ⟨cs98, S99, h67, h68, h16, h3m, h9a, h69⟩ := own_lens h66 h3j h64 e3l
   obtain ⟨a9b, n9c, c9d, a9e, n9f, c9g, a9h, n9i, c9j, a9k, n9l, c9m, S1z, S20, S21, S22, rfl, rfl, h6a, h6b, h6c, h3n, h6d, h3o, h3p⟩ := Rule_openO h68
   refine R z (fd f_74_5 z) (R z (l1 g_47 z fid (h67.at (j := 5) z)) (Rm z ?_))
   have h23 := lt_ h1x s1f.size
   have h2n := lt_ hBw h23
   have h3q := o1le h3k h3g h2m
   obtain ⟨r9n, r3r, e6e, hm6f⟩ := bd2S hm65
   refine E z (fc call24 z (W_laws_markStringS (B := B) e6e h2n h6d (nd_left (nd_right h16)) (o1le (fun k hk => .inl ((fun k hk => h3m k (List.mem_append_right _ hk)) k (List.mem_append_left _ hk))) h3q h2n) h5y)) ?_
   rintro _ w1m ⟨s1g, S3s, rfl, h6g, h6h, h6i, h24⟩
   have h6j : Chg (· ∈ (S1z ++ (S20 ++ (S21 ++ S22)))) w1l w1m := cM (cr (S1z ++ (S20 ++ (S21 ++ S22))) w1l) s1g (io (sub_r (sub_l sr)))
   have h6k : ∀ k ∈ S3s, k ∈ (S1z ++ (S20 ++ (S21 ++ S22))) ∨ w1l.heap.size ≤ k := or1 h24 (io (sub_r (sub_l sr))) (leor lr)
   obtain ⟨S6l, h3t, h6m, h3u⟩ := h69 _ _ _ h6j (Rule_mkO (x := (⟨x12.name, x12.kind, x12.size, x12.little, x12.bytes, r3r, x12.tags, x12.kids⟩ : Rule)) (S1 := S1z) (S2 := S3s) (S3 := S21) (S4 := S22) h6a h6b h6c (h3n.chg s1g (nmL (nd_dj h16))) h6h (h3o.chg s1g (dj_symm (nmL (nd_dj (nd_right h16))))) (h3p.chg s1g (dj_symm (nmR (nd_dj (nd_right h16)))))) (nd_app (nd_left h16) (nd_app h6i (nd_app (nd_left (nd_right (nd_right h16))) (nd_right (nd_right (nd_right h16))) (nd_dj (nd_right (nd_right h16)))) (nmA (o1no h24 (nmL (nd_dj (nd_right h16))) (ownS.lt h3o) lr) (o1no h24 (nmR (nd_dj (nd_right h16))) (ownS.lt h3p) lr))) (nmA (dj_symm (o1no h24 (dj_symm (nmL (nd_dj h16))) (ownS.lt h3n) lr)) (nmA (nmL (nmR (nd_dj h16))) (nmR (nmR (nd_dj h16)))))) (all_app (io (sub_l sr)) (all_app h6k (all_app (io (sub_r (sub_r (sub_l sr)))) (io (sub_r (sub_r (sub_r sr)))))))
   refine Ra z (Wn (Ws (Rm z (Rm z ?_))))
   obtain ⟨x13, e3v, hm6n⟩ := bdS hm6f
   refine RX z (rd_atQ (α := Rule) d_29 z_74 z z h3t e3v) ?_
   rintro _ ⟨g9o, h6o, rfl⟩
   obtain ⟨cs9p, S9q, h6p, h6q, h17, h3w, h9r, h6r⟩ := own_lens h6o h3t h6m e3v
   obtain ⟨a9s, n9t, c9u, a9v, n9w, c9x, a9y, n9z, c100, a101, n102, c103, S25, S26, S27, S28, rfl, rfl, h6s, h6t, h6u, h3x, h3y, h6v, h3z⟩ := Rule_openO h6q
   refine R z (fd f_74_6 z) (R z (l1 g_72 z fid (h6p.at (j := 6) z)) (Rm z ?_))
   have h29 := lt_ h23 s1g.size
   have h2o := lt_ hBw h29
   have h40 := o1le h3u h3q h2n
   obtain ⟨r104, r41, e6w, hm6x⟩ := bd2S hm6n
   refine E z (fc call65 z (W_laws_markIntS (B := B) e6w h2o h6v (nd_left (nd_right (nd_right h17))) (o1le (fun k hk => .inl ((fun k hk => (fun k hk => h3w k (List.mem_append_right _ hk)) k (List.mem_append_right _ hk)) k (List.mem_append_left _ hk))) h40 h2o) h6g)) ?_
   rintro _ w1n ⟨s1h, S42, rfl, h6y, h6z, h70, h2a⟩
   have h71 : Chg (· ∈ (S25 ++ (S26 ++ (S27 ++ S28)))) w1m w1n := cM (cr (S25 ++ (S26 ++ (S27 ++ S28))) w1m) s1h (io (sub_r (sub_r (sub_l sr))))
   have h72 : ∀ k ∈ S42, k ∈ (S25 ++ (S26 ++ (S27 ++ S28))) ∨ w1m.heap.size ≤ k := or1 h2a (io (sub_r (sub_r (sub_l sr)))) (leor lr)
   obtain ⟨S73, h43, h74, h44⟩ := h6r _ _ _ h71 (Rule_mkO (x := (⟨x13.name, x13.kind, x13.size, x13.little, x13.bytes, x13.names, r41, x13.kids⟩ : Rule)) (S1 := S25) (S2 := S26) (S3 := S42) (S4 := S28) h6s h6t h6u (h3x.chg s1h (nmL (nmR (nd_dj h17)))) (h3y.chg s1h (nmL (nd_dj (nd_right h17)))) h6z (h3z.chg s1h (dj_symm (nd_dj (nd_right (nd_right h17)))))) (nd_app (nd_left h17) (nd_app (nd_left (nd_right h17)) (nd_app h70 (nd_right (nd_right (nd_right h17))) (o1no h2a (nd_dj (nd_right (nd_right h17))) (ownS.lt h3z) lr)) (nmA (dj_symm (o1no h2a (dj_symm (nmL (nd_dj (nd_right h17)))) (ownS.lt h3y) lr)) (nmR (nd_dj (nd_right h17))))) (nmA (nmL (nd_dj h17)) (nmA (dj_symm (o1no h2a (dj_symm (nmL (nmR (nd_dj h17)))) (ownS.lt h3x) lr)) (nmR (nmR (nd_dj h17)))))) (all_app (io (sub_l sr)) (all_app (io (sub_r (sub_l sr))) (all_app h72 (io (sub_r (sub_r (sub_r sr)))))))
   refine Ra z (Wn (Wg (Rm z (Rm z ?_))))
   obtain ⟨x14, e45, hm75⟩ := bdS hm6x
   refine RX z (rd_atQ (α := Rule) d_29 z_74 z z h43 e45) ?_
   rintro _ ⟨g105, h76, rfl⟩
   obtain ⟨cs106, S107, h77, h78, h18, h46, h108, h79⟩ := own_lens h76 h43 h74 e45
   obtain ⟨a109, n10a, c10b, a10c, n10d, c10e, a10f, n10g, c10h, a10i, n10j, c10k, S2b, S2c, S2d, S2e, rfl, rfl, h7a, h7b, h7c, h47, h48, h49, h7d⟩ := Rule_openO h78
   refine R z (fd f_74_7 z) (R z (l1 g_72 z fid (h77.at (j := 7) z)) (Rm z ?_))
   have h2p := lt_ h29 s1h.size
   have h4a := lt_ hBw h2p
   have h7e := o1le (fun k hk => .inl ((fun k hk => (fun k hk => (fun k hk => h46 k (List.mem_append_right _ hk)) k (List.mem_append_right _ hk)) k (List.mem_append_right _ hk)) k hk)) (o1le h44 h40 h2o) h4a
   obtain ⟨r7f, r4b, e7g, hm7h⟩ := bd2S hm75
   refine E z (fc call65 z (W_laws_markIntS (B := B) e7g h4a h7d (nd_right (nd_right (nd_right h18))) h7e h6y)) ?_
   rintro _ w4c ⟨s1o, S4d, rfl, h7i, h7j, h7k, h2f⟩
   have h7l : Chg (· ∈ (S2b ++ (S2c ++ (S2d ++ S2e)))) w1n w4c := cM (cr (S2b ++ (S2c ++ (S2d ++ S2e))) w1n) s1o (io (sub_r (sub_r (sub_r sr))))
   have h7m : ∀ k ∈ S4d, k ∈ (S2b ++ (S2c ++ (S2d ++ S2e))) ∨ w1n.heap.size ≤ k := or1 h2f (io (sub_r (sub_r (sub_r sr)))) (leor lr)
   obtain ⟨S4e, h7n, h7o, h7p⟩ := h79 _ _ _ h7l (Rule_mkO (x := (⟨x14.name, x14.kind, x14.size, x14.little, x14.bytes, x14.names, x14.tags, r4b⟩ : Rule)) (S1 := S2b) (S2 := S2c) (S3 := S2d) (S4 := S4d) h7a h7b h7c (h47.chg s1o (nmR (nmR (nd_dj h18)))) (h48.chg s1o (nmR (nd_dj (nd_right h18)))) (h49.chg s1o (nd_dj (nd_right (nd_right h18)))) h7j) (nd_app (nd_left h18) (nd_app (nd_left (nd_right h18)) (nd_app (nd_left (nd_right (nd_right h18))) h7k (dj_symm (o1no h2f (dj_symm (nd_dj (nd_right (nd_right h18)))) (ownS.lt h49) lr))) (nmA (nmL (nd_dj (nd_right h18))) (dj_symm (o1no h2f (dj_symm (nmR (nd_dj (nd_right h18)))) (ownS.lt h48) lr)))) (nmA (nmL (nd_dj h18)) (nmA (nmL (nmR (nd_dj h18))) (dj_symm (o1no h2f (dj_symm (nmR (nmR (nd_dj h18)))) (ownS.lt h47) lr))))) (all_app (io (sub_l sr)) (all_app (io (sub_r (sub_l sr))) (all_app (io (sub_r (sub_r (sub_l sr)))) h7m)))
   refine Ra z (Wn (Wg (Rm z (R z (add_ z z) (Ra z (Wl ?_))))))
   have h4f : ∀ k ∈ S10, k ∈ S1_0 ∨ w0.heap.size ≤ k := or1 h1k (io sr) (leor lr)
   have h4g : ∀ k ∈ S50, k ∈ S1_0 ∨ w0.heap.size ≤ k := or1 h2y h4f (leor h2i)
   have h4h : ∀ k ∈ S57, k ∈ S1_0 ∨ w0.heap.size ≤ k := or1 h32 h4g (leor h2j)
   have h4i : ∀ k ∈ S5e, k ∈ S1_0 ∨ w0.heap.size ≤ k := or1 h36 h4h (leor h2k)
   have h4j : ∀ k ∈ S5l, k ∈ S1_0 ∨ w0.heap.size ≤ k := or1 h3a h4i (leor h2l)
   have h4k : ∀ k ∈ S63, k ∈ S1_0 ∨ w0.heap.size ≤ k := or1 h3k h4j (leor h1x)
   have h4l : ∀ k ∈ S6l, k ∈ S1_0 ∨ w0.heap.size ≤ k := or1 h3u h4k (leor h23)
   have h4m : ∀ k ∈ S73, k ∈ S1_0 ∨ w0.heap.size ≤ k := or1 h44 h4l (leor h29)
   have h7q : ∀ k ∈ S4e, k ∈ S1_0 ∨ w0.heap.size ≤ k := or1 h7p h4m (leor h2p)
   have h7r : Chg (· ∈ S1_0) w0 w2r := cM (cr S1_0 w0) s1p (io sr)
   have h7s : Chg (· ∈ S1_0) w0 w4t := cext h7r s2h
   have h7t : Chg (· ∈ S1_0) w0 w4z := cM h7s s2w h4f
   have h7u : Chg (· ∈ S1_0) w0 w56 := cM h7t s30 h4g
   have h7v : Chg (· ∈ S1_0) w0 w5d := cM h7u s34 h4h
   have h7w : Chg (· ∈ S1_0) w0 w1s := cM h7v s38 h4i
   have h7x : ∀ k ∈ S1t, k ∈ S1_0 ∨ w0.heap.size ≤ k := or1 (fun k hk => .inl (h3c k (List.mem_append_left _ hk))) h4j (leor h1x)
   have h7y : Chg (· ∈ S1_0) w0 w1l := cM h7w s1f h7x
   have h7z : ∀ k ∈ S20, k ∈ S1_0 ∨ w0.heap.size ≤ k := or1 (fun k hk => .inl ((fun k hk => h3m k (List.mem_append_right _ hk)) k (List.mem_append_left _ hk))) h4k (leor h23)
   have h80 : Chg (· ∈ S1_0) w0 w1m := cM h7y s1g h7z
   have h81 : ∀ k ∈ S27, k ∈ S1_0 ∨ w0.heap.size ≤ k := or1 (fun k hk => .inl ((fun k hk => (fun k hk => h3w k (List.mem_append_right _ hk)) k (List.mem_append_right _ hk)) k (List.mem_append_left _ hk))) h4l (leor h29)
   have h82 : Chg (· ∈ S1_0) w0 w1n := cM h80 s1h h81
   have h83 : ∀ k ∈ S2e, k ∈ S1_0 ∨ w0.heap.size ≤ k := or1 (fun k hk => .inl ((fun k hk => (fun k hk => (fun k hk => h46 k (List.mem_append_right _ hk)) k (List.mem_append_right _ hk)) k (List.mem_append_right _ hk)) k hk)) h4m (leor h2p)
   have h84 : Chg (· ∈ S1_0) w0 w4c := cM h82 s1o h83
   exact fun _ q => ⟨(((((x5i.set (x19).toNat (⟨x11.name, x11.kind, x11.size, x11.little, r3h, x11.names, x11.tags, x11.kids⟩ : Rule)).set (x19).toNat (⟨x12.name, x12.kind, x12.size, x12.little, x12.bytes, r3r, x12.tags, x12.kids⟩ : Rule)).set (x19).toNat (⟨x13.name, x13.kind, x13.size, x13.little, x13.bytes, x13.names, r41, x13.kids⟩ : Rule)).set (x19).toNat (⟨x14.name, x14.kind, x14.size, x14.little, x14.bytes, x14.names, x14.tags, r4b⟩ : Rule)), r7f, iadd x19 1), (som hm7h).symm, ⟨S4e, (q.k (s3 z z z)), h84, h7n, h7o, h7q, h7i, (iA _ _)⟩⟩
  have h85 : ∀ k ∈ S10, k ∈ S1_0 ∨ w0.heap.size ≤ k := or1 h1k (io sr) (leor lr)
  have h86 : Chg (· ∈ S1_0) w0 w2r := cM (cr S1_0 w0) s1p (io sr)
  exact WC_exit (fun a' ha' => QO_brk (som (ifF hm2t hc2g)).symm ⟨S10, (Sat.weaken ha' (s2 z z)), h86, h1j, h1q, h85, h1r, h2s⟩)
 ·rintro ⟨x1i, x1a, x19⟩ a87 w88 rfl ⟨S10, hS10l, s89, h1j, h1q, h1k, h1r, h2s⟩
  have hm8a := elL hm2q
  have hm8b := un3S hm8a
  revert a87
  refine Wo (Ws (Rm z (Ra z (Wn ?_))))
  obtain rfl := som hm8b
  have h8c : Chg (· ∈ S1_0) w0 w88 := cM (cr S1_0 w0) s89 (io sr)
  have h8d : ∀ k ∈ S10, k ∈ S1_0 ∨ w0.heap.size ≤ k := or1 h1k (io sr) (leor lr)
  exact Wr (ret1 hr z ⟨h8c, S10, z, h1r, h1j, h1q, h8d⟩)
 rintro r10m ex10n a10o w10p rfl ⟨rfl, hq8e⟩
 have hm8f := elR hm2q
 obtain rfl := som hm8f
 exact ⟨hq8e, z⟩
def Q_laws_markDescription (w0 : World) (B : Nat) (pa1_0 : Option Addr) (pn1_0 pc1_0 : Nat) (S1_0 : List Nat) (r : Int × (List Rule)) (v : Value) (w' : World) : Prop := Chg (· ∈ S1_0) w0 w' ∧ un2 (fun r1 r2 => ∃ (S1 : List Nat), (vI r1) = v ∧ inI r1 ∧ ownS w' S1 (.slice pa1_0 pn1_0 pc1_0) r2 ∧ S1.Nodup ∧ (∀ k ∈ S1, k ∈ S1_0 ∨ w0.heap.size ≤ k)) r
theorem W_laws_markDescription {x1 : Desc} {S1_0 : List Nat} {x2 : Int} {res : Int × (List Rule)} (hm : M_laws_markDescription n x1 x2 = some res) (hBw : B ≤ w0.heap.size) (p1_0 : ownS w0 S1_0 (.slice pa1_0 pn1_0 pc1_0) x1.rules) (p1_0n : S1_0.Nodup) (p1_0g : ∀ k ∈ S1_0, B ≤ k) (p2_0 : inI x2) : CallsR prog 13 [(.agg #[(.slice pa1_0 pn1_0 pc1_0)]), (vI x2)] w0 (Q_laws_markDescription w0 B pa1_0 pn1_0 pc1_0 S1_0 res) := by
 unfold M_laws_markDescription at hm
 obtain ⟨fn, hf, hb, hN, hr⟩ := fnE func13
 refine goW hf (hb.trans z) (hN.trans z) (lb z) (Ws (E z (fb z) ?_))
 rintro _ w11 ⟨rfl, h12⟩
 have h10 := h12.below
 have h14 : Blk w11 w0.heap.size [(.slice pa1_0 pn1_0 pc1_0)] := h12.blk
 refine Ra z (Wn (Ws (R z (fd f_31_0 z) (R z (l1 g_29 z fid (h14.at z)) (Rm z ?_)))))
 obtain ⟨r1g, r1h, e15, hm16⟩ := bd2S hm
 refine E z (fc call37 z (W_laws_markRuleS (B := B) e15 (lt_ hBw h10.size) (p1_0.ext h10) p1_0n p1_0g p2_0)) ?_
 rintro _ w17 ⟨s18, S13, rfl, h19, h1a, h1b, h1c⟩
 refine Ra z (Wn (Ws (Rm z (Ra z (Wn ?_)))))
 obtain rfl := som hm16
 have h1d : Chg (· ∈ S1_0) w0 w11 := cext (cr S1_0 w0) h10
 have h1e : Chg (· ∈ S1_0) w0 w17 := cM h1d s18 (io sr)
 have h1f : ∀ k ∈ S13, k ∈ S1_0 ∨ w0.heap.size ≤ k := or1 h1c (io sr) (leor h10.size)
 exact Wr (ret1 hr z ⟨h1e, S13, z, h19, h1a, h1b, h1f⟩)
def Q_laws_heldStringS (w0 : World) (B : Nat) (r : Int) (v : Value) (w' : World) : Prop := Below w0.heap.size w0 w' ∧ (fun r1 => (vI r1) = v ∧ inI r1) r
theorem W_laws_heldStringS {x1 : List Str} {x2 : Int} {res : Int} (hm : M_laws_heldStringS n x1 x2 = some res) (hBw : B ≤ w0.heap.size) (p1_0 : repS w0 B (.slice pa1_0 pn1_0 pc1_0) x1) (p2_0 : inI x2) : CallsR prog 25 [(.slice pa1_0 pn1_0 pc1_0), (vI x2)] w0 (Q_laws_heldStringS w0 B res) := by
 unfold M_laws_heldStringS at hm
 obtain ⟨fn, hf, hb, hN, hr⟩ := fnE func25
 refine goW hf (hb.trans z) (hN.trans z) (lb z) (Ws (Ra z (Wn (Wq (Ws (Ra z (Wn ?_)))))))
 obtain ⟨u1q, hu1c, hm16⟩ := bdS hm
 refine WC_forN (σ := Int) (ρ := Int) (fun (k14 : Nat) (x10 : Int) a w => Sat 22 [(0, (.slice pa1_0 pn1_0 pc1_0)), (1, (vI x10)), (5, (vI ((k14 : Nat) : Int)))] a ∧ Below w0.heap.size w0 w ∧ inI x10) (fun (x10 : Int) a w => Sat 22 [(1, (vI x10))] a ∧ Below w0.heap.size w0 w ∧ inI x10) (fun r ex a w => ex = .ret ∧ RetPost prog fn (Q_laws_heldStringS w0 B r) a w) hu1c ?_ ?_ ?_ ?_ ?_
 ·exact fun _ q => ⟨(q.k (s3 z z z)), (br w0), p2_0⟩
 ·rintro k14 x10 a1r w1s o1t hk17 ⟨hS1d, s12, h11⟩ hm1e
  refine Wu (e := [(0, (.slice pa1_0 pn1_0 pc1_0)), (1, (vI x10)), (5, (vI ((k14 : Nat) : Int)))]) (N := 22) ?_ hS1d
  refine Wq (Ws (Rm z (Rm z ?_)))
  have h18 := p1_0.ext s12
  refine R z (lnR d_47 z h18) (R z (lss z z) (Wn (Wc z (fun _ => ?_) (fun hc => (nolt hk17 hc).elim))))
  refine Wk (Wq (WC_block (Wq (Wq (WC_draw (X := noX) 0 (.rd 0 (.rd 1 (.rd 2 (.rd 3 (.rd 4 (.ef 5 (.rd 6 .done))))))) mo (by kernel_rfl) fun w1u s13 _ => dR z z (mv z) (dR z z (mv z) ?_))))))
  obtain ⟨x1v, e1f, hm1g⟩ := bdS hm1e
  refine dRX z z (at_ (α := Str) d_47 z_9 z z z (h18.ext s13) e1f) ?_
  rintro _ ⟨b1w, o1x, cs1y, rfl, h1h, h1i, h1z⟩
  obtain ⟨rfl, h20⟩ := Str_open h1i
  refine dR z z (l1 g_9 z fid (h1h.at0 z)) (dR z z (mv z) ?_)
  obtain ⟨r21, e1j, hm19⟩ := bdS hm1g
  refine dE z z (fc call49 z (W_laws_markText (B := B) e1j (lt_ hBw (lt_ s12.size s13.size)) h11)) (.inr fun _ _ h => chgB (h.1)) ?_
  rintro _ w22 ⟨s1a, rfl, h23⟩
  refine dR z z (rd_neqT z z) (PR_done (Wo (Wc z (fun hc15 => ?_) (fun hc15 => ?_))))
  ·exact Ws (Ra z (Wn (Wr (rtO (QO_retL (som (ifT hm19 hc15)).symm (ret1 hr z ⟨(bup (bup s12 s13) s1a), z, (ii z)⟩))))))
  exact Wk (Wg (Rm z (R z (add_ z z) (Ra z (Wn (Wg (Rm z (R z (inc_ hk17 (lt_ (repS.len p1_0) LEN_le) z z) (Ra z (Wl (fun _ q => ⟨iadd x10 1, (som (ifF hm19 hc15)).symm, ⟨(q.k (s3 z z z)), (bup (bup s12 s13) s1a), (iA _ _)⟩⟩)))))))))))
 ·rintro x10 a24 w25 ⟨hS1k, s1b, h11⟩
  refine Wu (e := [(0, (.slice pa1_0 pn1_0 pc1_0)), (1, (vI x10)), (5, (vI ((x1.length : Nat) : Int)))]) (N := 22) ?_ hS1k
  refine Wq (Ws (Rm z (Rm z (R z (lnR d_47 z (p1_0.ext s1b)) (R z (lss z z) (Wn (Wc z (fun hc => (noltt hc).elim) (fun _ => ?_))))))))
  exact WC_exit (fun a' ha' => ⟨rfl, ⟨(Sat.weaken ha' (s1 z)), s1b, h11⟩⟩)
 ·rintro x10 a1l w26 rfl ⟨hS27, s1m, h11⟩
  have hm1n := elL hm16
  revert a1l
  refine Wo (Ws (Rm z (Ra z (Wn ?_))))
  obtain rfl := som hm1n
  exact Wr (ret1 hr z ⟨s1m, z, h11⟩)
 rintro r28 ex29 a2a w2b rfl ⟨rfl, hq1o⟩
 have hm1p := elR hm16
 obtain rfl := som hm1p
 exact ⟨hq1o, z⟩
def Q_laws_FnExactCoveredTags (w0 : World) (B : Nat) (r : Bool) (v : Value) (w' : World) : Prop := Below w0.heap.size w0 w' ∧ (fun r1 => (vB r1) = v) r
theorem W_laws_FnExactCoveredTags {x1 : Desc} {x2 : List UInt8} {res : Bool} (hm : M_laws_FnExactCoveredTags n x1 x2 = some res) (hBw : B ≤ w0.heap.size) (hG : Gl w0 B) (p1_0 : repS w0 B (.slice pa1_0 pn1_0 pc1_0) x1.rules) (p2_0 : repS w0 B (.slice pa2_0 pn2_0 pc2_0) x2) : CallsR prog 5 [(.agg #[(.slice pa1_0 pn1_0 pc1_0)]), (.slice pa2_0 pn2_0 pc2_0)] w0 (Q_laws_FnExactCoveredTags w0 B res) := by
 unfold M_laws_FnExactCoveredTags at hm
 obtain ⟨fn, hf, hb, hN, hr⟩ := fnE func5
 refine goW hf (hb.trans z) (hN.trans z) (lb z) (Ws (E z (fb z) ?_))
 rintro _ w47 ⟨rfl, h2s⟩
 have h1e := h2s.below
 have h1y : Blk w47 w0.heap.size [(.slice pa1_0 pn1_0 pc1_0)] := h2s.blk
 refine Ra z (Wn (Wq (Ws (Rm z ?_))))
 have h2t := p2_0.ext h1e
 refine R z (lnR d_25 z h2t) (R z (rd_gtr z z) (Wn (Wc z (fun hc29 => ?_) (fun hc29 => ?_))))
 ·refine Ws (Ra z (Wn ?_))
  obtain rfl := som (ifT hm hc29)
  exact Wr (ret1 hr z ⟨h1e, z⟩)
 refine Wk (Ws (Ra z (Wn (Ws (R z (lN (vs := [(.slice pa1_0 pn1_0 pc1_0)]) g_24 z_24 z z fid (h1y.row 0 1 z)) (Rm z ?_))))))
 have h2u := p1_0.ext h1e
 obtain ⟨r6e, e48, hm2v⟩ := bdS (ifF hm hc29)
 refine E z (fc call6 z (W_laws_szDescription (B := B) e48 (lt_ hBw h1e.size) h2u (ii z))) ?_
 rintro _ w6f ⟨s1f, rfl, h6g⟩
 refine Ra z (Wn (Wq (Ws (Rm z (R z (lss z z) (Wn (Wc z (fun hc2a => ?_) (fun hc2a => ?_))))))))
 ·refine Ws (Ra z (Wn ?_))
  obtain rfl := som (ifT hm2v hc2a)
  exact Wr (ret1 hr z ⟨(bup h1e s1f), z⟩)
 refine Wk (Ws ?_)
 have h2w := h1y.ext s1f
 refine R z (lN (vs := [(.slice pa1_0 pn1_0 pc1_0)]) g_24 z_24 z z fid (h2w.row 0 1 z)) ?_
 have h2x := h2u.ext s1f
 have h2y := lt_ h1e.size s1f.size
 obtain ⟨r6h, e49, hm4a⟩ := bdS (ifF hm2v hc2a)
 refine E z (fc call8 z (W_laws_toDescription (B := B) e49 (lt_ hBw h2y) h2x)) ?_
 rintro _ w6i ⟨s1g, a6j, n6k, c6l, S6m, rfl, h2z, h6n, h6o⟩
 refine Rm z ?_
 have h30 := (h2t.ext s1f).ext s1g
 have h31 := lt_ h2y s1g.size
 obtain ⟨r6p, e4b, hm4c⟩ := bdS hm4a
 refine E z (fc call9 z (W_laws_toByteS (B := B) e4b (lt_ hBw h31) h30)) ?_
 rintro _ w4d ⟨s1c, a6q, n6r, c6s, S6t, rfl, h4e, h6u, h6v⟩
 obtain ⟨r6w, e4f, hm4g⟩ := bdS hm4c
 refine E z (fc call21 z (W_spec_CoveredTags (B := w4d.heap.size) e4f lr (repS.mono (ownS_rep (h2z.ext s1c) (ownS.lt h2z)) s1c.size) (ownS.rep h4e))) ?_
 rintro _ w6x ⟨s1h, a4h, n4i, c4j, S6y, rfl, h1r, h6z, h70⟩
 refine Ra z (Wn (Ws ?_))
 have h32 := ((h2w.ext s1g).ext s1c).ext s1h
 refine R z (lN (vs := [(.slice pa1_0 pn1_0 pc1_0)]) g_24 z_24 z z fid (h32.row 0 1 z)) ?_
 have h33 := ((h2x.ext s1g).ext s1c).ext s1h
 have h1t := lt_ (lt_ h31 s1c.size) s1h.size
 have h34 := lt_ hBw h1t
 obtain ⟨r71, e4k, hm4l⟩ := bdS hm4g
 refine E z (fc call8 z (W_laws_toDescription (B := B) e4k h34 h33)) ?_
 rintro _ w4m ⟨s1a, a21, n22, c23, S72, rfl, h1x, h4n, h1p⟩
 refine E z (fa zero_31) ?_
 rintro _ w4o ⟨rfl, h35⟩
 have h18 := h35.below
 have h4p : Blk w4o w4m.heap.size [(.slice none 0 0)] := h35.blk
 refine E0 (fs (cur' := [(.slice a21 n22 c23)]) z_31 z z h4p z (lb z) (oA z) z) ?_
 rintro _ w73 ⟨h4q, s4r⟩
 have h19 := s4r.one
 refine Wn (Ws (Rm z ?_))
 have h1m := lt_ h1t s1a.size
 have h2b := mem1le (lt_ hBw h1m)
 have h36 := ((((h30.ext s1c).ext s1h).ext s1a).ext h18).chg h19 (lg h2b)
 have h1u := lt_ (lt_ h1m h18.size) h19.size
 have h37 := lt_ hBw h1u
 obtain ⟨r74, e4s, hm4t⟩ := bdS hm4l
 refine E z (fc call9 z (W_laws_toByteS (B := B) e4s h37 h36)) ?_
 rintro _ w4u ⟨s17, a75, n76, c77, S78, rfl, h20, h4v, h1n⟩
 refine Ra z (Wn (Ws ?_))
 have h38 := h4q.ext s17
 refine R z (lN (vs := [(.slice a21 n22 c23)]) g_31 z_31 z z fid (h38.row 0 1 z)) (Rm z ?_)
 have h39 := ((h1x.ext h18).chg h19 (dj_symm (mnr (ownS.lt h1x)))).ext s17
 have h3a := lt_ h18.size h19.size
 have h24 := lt_ h3a s17.size
 have h3b := ((((((((hG.ext h1e).ext s1f).ext s1g).ext s1c).ext s1h).ext s1a).ext h18).chg h19 (lg h2b)).ext s17
 have h1v := lt_ h1u s17.size
 have h3c := lt_ hBw h1v
 obtain ⟨r79, e4w, hm4x⟩ := bdS hm4t
 refine E z (fc call22 z (W_impl_CoveredTags (B := w4u.heap.size) e4w lr (h3b.mono h3c) (repS.mono (ownS_rep h39 (ownS.lt h1x)) h24) (ownS.rep h20))) ?_
 rintro _ w3d ⟨s15, a4y, n4z, c50, S7a, rfl, h25, h51, h1k⟩
 refine Ra z (Wn (Wq (Ws (Rm z (Rm z ?_)))))
 have h2c := ((((h1r.ext s1a).ext h18).chg h19 (dj_symm (mno (ownS.lt h1r) s1a.size))).ext s17).ext s15
 have h2d := lt_ (lt_ s1a.size h18.size) h19.size
 have h3e := lt_ h2d s17.size
 have h2e := lt_ h3e s15.size
 obtain ⟨r7b, e52, hm3f⟩ := bdS hm4x
 refine E z (fc call23 z (W_laws_eqStringS (B := w3d.heap.size) e52 lr (ownS.rep h25) (repS.mono (ownS_rep h2c (ownS.lt h1r)) h2e))) ?_
 rintro _ w7c ⟨s10, rfl⟩
 refine R z (not_ z) (Wn (Wc z (fun hc2f => ?_) (fun hc2f => ?_)))
 ·refine Ws (Ra z (Wn ?_))
  obtain rfl := som (ifT hm3f hc2f)
  exact Wr (ret1 hr z ⟨(bup (bup (bup (bM (bup (bup (bup (bup (bup (bup h1e s1f) s1g) s1c) s1h) s1a) h18) h19 (mem1le h1m)) s17) s15) s10), z⟩)
 refine Wk (Wq (Wq (WC_draw (X := noX) 0 (.rd 0 (.rd 1 (.ef 2 (.ef 3 (.rd 4 .done))))) mo (by kernel_rfl) fun w7d s11 _ => ?_)))
 have h3g := ((h38.ext s15).ext s10).ext s11
 refine dR z z (lN (vs := [(.slice a21 n22 c23)]) g_31 z_31 z z fid (h3g.row 0 1 z)) ?_
 have h3h := lt_ (lt_ (lt_ s1f.size s1g.size) s1c.size) s1h.size
 have h3i := lt_ h3h s1a.size
 have h3j := ((((((h32.ext s1a).ext h18).chg h19 (djs (mm1 h1y.lt h3i))).ext s17).ext s15).ext s10).ext s11
 refine dR z z (lN (vs := [(.slice pa1_0 pn1_0 pc1_0)]) g_24 z_24 z z fid (h3j.row 0 1 z)) ?_
 have h3k := ((((((h33.ext s1a).ext h18).chg h19 (lg h2b)).ext s17).ext s15).ext s10).ext s11
 have h3l := lt_ (lt_ (lt_ h1v s15.size) s10.size) s11.size
 obtain ⟨r7e, e53, hm54⟩ := bdS (ifF hm3f hc2f)
 refine dE z z (fc call8 z (W_laws_toDescription (B := B) e53 (lt_ hBw h3l) h3k)) (.inr fun _ _ h => chgB (h.1)) ?_
 rintro _ w55 ⟨s12, a7f, n7g, c7h, S7i, rfl, h56, h7j, h7k⟩
 have h3m := (((h39.ext s15).ext s10).ext s11).ext s12
 obtain ⟨r7l, e57, hm3n⟩ := bdS hm54
 refine dE z z (fc call12 z (W_laws_eqDescription (B := w55.heap.size) e57 lr (repS.mono (ownS_rep h3m (ownS.lt h1x)) (lt_ (lt_ (lt_ (lt_ h24 s15.size) s10.size) s11.size) s12.size)) (ownS.rep h56))) (.inr fun _ _ h => chgB (h.1)) ?_
 rintro _ w7m ⟨s13, rfl⟩
 refine dR z z (not_ z) (PR_done (Wo (Wc z (fun hc2g => ?_) (fun hc2g => ?_))))
 ·refine Ws (Ra z (Wn ?_))
  obtain rfl := som (ifT hm3n hc2g)
  exact Wr (ret1 hr z ⟨(bup (bup (bup (bup (bup (bup (bM (bup (bup (bup (bup (bup (bup h1e s1f) s1g) s1c) s1h) s1a) h18) h19 (mem1le h1m)) s17) s15) s10) s11) s12) s13), z⟩)
 refine Wk (Wq (Ws (Rm z (Rm z ?_))))
 have h3o := (((((h36.ext s17).ext s15).ext s10).ext s11).ext s12).ext s13
 have h3p := lt_ (lt_ h3l s12.size) s13.size
 obtain ⟨r7n, e58, hm59⟩ := bdS (ifF hm3n hc2g)
 refine E z (fc call9 z (W_laws_toByteS (B := B) e58 (lt_ hBw h3p) h3o)) ?_
 rintro _ w5a ⟨s14, a7o, n7p, c7q, S7r, rfl, h5b, h7s, h7t⟩
 have h3q := (((((h20.ext s15).ext s10).ext s11).ext s12).ext s13).ext s14
 obtain ⟨r7u, e5c, hm3r⟩ := bdS hm59
 refine E z (fc call11 z (W_laws_eqByteS (B := w5a.heap.size) e5c lr (repS.mono (ownS_rep h3q (ownS.lt h20)) (lt_ (lt_ (lt_ (lt_ (lt_ s15.size s10.size) s11.size) s12.size) s13.size) s14.size)) (ownS.rep h5b))) ?_
 rintro _ w7v ⟨s16, rfl⟩
 refine R z (not_ z) (Wn (Wc z (fun hc2h => ?_) (fun hc2h => ?_)))
 ·refine Ws (Ra z (Wn ?_))
  obtain rfl := som (ifT hm3r hc2h)
  exact Wr (ret1 hr z ⟨(bup (bup (bup (bup (bup (bup (bup (bup (bM (bup (bup (bup (bup (bup (bup h1e s1f) s1g) s1c) s1h) s1a) h18) h19 (mem1le h1m)) s17) s15) s10) s11) s12) s13) s14) s16), z⟩)
 refine Wk (Ws (Ra z (Wn (Ws (R z (lN (vs := [(.slice a21 n22 c23)]) g_31 z_31 z z fid (((((h3g.ext s12).ext s13).ext s14).ext s16).row 0 1 z)) (Rm z ?_))))))
 have h26 := o0le h1p h34
 have h3s := lt_ (lt_ h3p s14.size) s16.size
 obtain ⟨r7w, r7x, e5d, hm5e⟩ := bd2S (ifF hm3r hc2h)
 refine E z (fc call13 z (W_laws_markDescription (B := B) e5d (lt_ hBw h3s) (((h3m.ext s13).ext s14).ext s16) h4n h26 (ii z))) ?_
 rintro _ w7y ⟨s1b, S7z, rfl, h5f, h80, h81, h82⟩
 refine Ra z (Wn (Ws (Rm z (Rm z ?_))))
 have h27 := o0le h1n h37
 have h3t := lt_ h3s s1b.size
 obtain ⟨r5g, r83, e5h, hm5i⟩ := bd2S hm5e
 refine E z (fc call14 z (W_laws_markByteS (B := B) e5h (lt_ hBw h3t) ((h3q.ext s16).chg s1b (o0no h1n (ownS.lt h1x) h3a)) h4v h27 h5f)) ?_
 rintro _ w2i ⟨s1d, S84, rfl, h85, h86, h87, h88⟩
 refine Ra z (Wn (Wq (Wq ?_)))
 obtain ⟨u5j, hu3u, hm3v⟩ := bdS hm5i
 refine WC_cut (fun a w => ∃ (x2j : Bool), x2j = u5j ∧ Sat 90 [(1, (.slice pa2_0 pn2_0 pc2_0)), (2, (.pointer (some ⟨w0.heap.size, 0, none⟩))), (6, (.slice a4h n4i c4j)), (9, (.slice a4y n4z c50)), (61, (vB x2j))] a ∧ Below w2i.heap.size w2i w) ?_ ?_
 ·refine Wg (Rm z (R z (lss z z) (Rm z ?_)))
  rcases bs (decide (r5g < 0)) with hc1s | hc1s
  ·iterate 4 refine Nh z hc1s ?_
   exact R z (pT z hc1s z) (Wl (fun _ q => ⟨true, som (ifT hu3u hc1s), (q.k (s5 z z z z z)), (br w2i)⟩))
  refine Rh z hc1s (mv z) (Rh z hc1s (mv z) ?_)
  obtain ⟨r5k, e5l, hm5m⟩ := bdS (ifF hu3u hc1s)
  refine Eg z z hc1s z (fc call23 z (W_laws_eqStringS (B := w3d.heap.size) e5l (lt_ (lt_ (lt_ (lt_ (lt_ (lt_ (lt_ s10.size s11.size) s12.size) s13.size) s14.size) s16.size) s1b.size) s1d.size) (ownS_rep ((((((((h25.ext s10).ext s11).ext s12).ext s13).ext s14).ext s16).chg s1b (o0no h1k (ownS.lt h1x) h24)).chg s1d (o0no h1k (ownS.lt h20) lr)) (ownS.lt h25)) (repS.mono (ownS_rep ((((((((h2c.ext s10).ext s11).ext s12).ext s13).ext s14).ext s16).chg s1b (dj_symm (o0no h1p (ownS.lt h1r) lr))).chg s1d (dj_symm (o0no h1n (ownS.lt h1r) h2d))) (ownS.lt h1r)) h2e))) ?_
  rintro _ w89 ⟨s5n, rfl⟩
  exact Rh z hc1s (not_ z) (R z (pF z hc1s z) (Wl (fun _ q => ⟨!r5k, som hm5m, (q.k (s5 z z z z z)), s5n⟩)))
 rintro a5o w8a ⟨x2j, rfl, hS8b, s1i⟩
 revert a5o
 refine Wo (Wc z (fun hc2k => ?_) (fun hc2k => ?_))
 ·refine Ws (Ra z (Wn ?_))
  obtain rfl := som (ifT hm3v hc2k)
  have h5p := bM (bup (bup (bup (bup (bup (bup (bup (bup (bM (bup (bup (bup (bup (bup (bup h1e s1f) s1g) s1c) s1h) s1a) h18) h19 (mem1le h1m)) s17) s15) s10) s11) s12) s13) s14) s16) s1b (o0le h1p h1t)
  exact Wr (ret1 hr z ⟨(bup (bM h5p s1d (o0le h1n h1u)) s1i), z⟩)
 refine Wk (Ws (Ra z (Wn (Ws (Rm z (Rm z ?_))))))
 have h28 := o0le h1k h3c
 have h3w := lt_ (lt_ h3t s1d.size) s1i.size
 obtain ⟨r8c, r8d, e5q, hm5r⟩ := bd2S (ifF hm3v hc2k)
 refine E z (fc call24 z (W_laws_markStringS (B := B) e5q (lt_ hBw h3w) (((((((((h25.ext s10).ext s11).ext s12).ext s13).ext s14).ext s16).chg s1b (o0no h1k (ownS.lt h1x) h24)).chg s1d (o0no h1k (ownS.lt h20) lr)).ext s1i) h51 h28 (ii z))) ?_
 rintro _ w3x ⟨s1l, S8e, rfl, h8f, h2l, h8g, h8h⟩
 refine Ra z (Wn (Ws (Ra z (Wn (Ws (Rm z (Rm z ?_)))))))
 obtain ⟨r8i, e5s, hm3y⟩ := bdS hm5r
 refine E z (fc call25 z (W_laws_heldStringS (B := w3x.heap.size) e5s lr (ownS.rep h2l) (ii z))) ?_
 rintro _ w8j ⟨s1j, rfl, h8k⟩
 refine Ra z (Wn (Wq (Ws (Rm z (R z (lss z z) (Wn (Wc z (fun hc2m => ?_) (fun hc2m => ?_))))))))
 ·refine Ws (Ra z (Wn ?_))
  obtain rfl := som (ifT hm3y hc2m)
  have h5t := bM (bup (bup (bup (bup (bup (bup (bup (bup (bM (bup (bup (bup (bup (bup (bup h1e s1f) s1g) s1c) s1h) s1a) h18) h19 (mem1le h1m)) s17) s15) s10) s11) s12) s13) s14) s16) s1b (o0le h1p h1t)
  exact Wr (ret1 hr z ⟨(bup (bM (bup (bM h5t s1d (o0le h1n h1u)) s1i) s1l (o0le h1k h1v)) s1j), z⟩)
 have hm3z := ifF hm3y hc2m
 refine Wk (Wq (Ws (Rm z (Rm z (R z (nq z z) (Wn (Wc z (fun hc2n => ?_) (fun hc2n => ?_))))))))
 ·refine Ws (Ra z (Wn ?_))
  obtain rfl := som (ifT hm3z hc2n)
  have h5u := bM (bup (bup (bup (bup (bup (bup (bup (bup (bM (bup (bup (bup (bup (bup (bup h1e s1f) s1g) s1c) s1h) s1a) h18) h19 (mem1le h1m)) s17) s15) s10) s11) s12) s13) s14) s16) s1b (o0le h1p h1t)
  exact Wr (ret1 hr z ⟨(bup (bM (bup (bM h5u s1d (o0le h1n h1u)) s1i) s1l (o0le h1k h1v)) s1j), z⟩)
 refine Wk (Ws ?_)
 have h40 := lt_ (lt_ h3i h18.size) h19.size
 have h5v := ((((((h3j.ext s12).ext s13).ext s14).ext s16).chg s1b (djs (o0n1 h1p h1y.lt h3h))).chg s1d (djs (o0n1 h1n h1y.lt h40))).ext s1i
 refine R z (lN (vs := [(.slice pa1_0 pn1_0 pc1_0)]) g_24 z_24 z z fid (((h5v.chg s1l (djs (o0n1 h1k h1y.lt (lt_ h40 s17.size)))).ext s1j).row 0 1 z)) ?_
 have h41 := lt_ (lt_ h3w s1l.size) s1j.size
 obtain ⟨r8l, e5w, hm5x⟩ := bdS (ifF hm3z hc2n)
 refine E z (fc call8 z (W_laws_toDescription (B := B) e5w (lt_ hBw h41) (((((((((h3k.ext s12).ext s13).ext s14).ext s16).chg s1b (lg h26)).chg s1d (lg h27)).ext s1i).chg s1l (lg h28)).ext s1j))) ?_
 rintro _ w8m ⟨s1q, a8n, n8o, c8p, S8q, rfl, h42, h8r, h8s⟩
 refine Rm z ?_
 have h43 := lt_ h41 s1q.size
 obtain ⟨r8t, e5y, hm5z⟩ := bdS hm5x
 refine E z (fc call9 z (W_laws_toByteS (B := B) e5y (lt_ hBw h43) ((((((((h3o.ext s14).ext s16).chg s1b (lg h26)).chg s1d (lg h27)).ext s1i).chg s1l (lg h28)).ext s1j).ext s1q))) ?_
 rintro _ w60 ⟨s1o, a8u, n8v, c8w, S8x, rfl, h61, h8y, h8z⟩
 obtain ⟨r90, e62, hm63⟩ := bdS hm5z
 refine E z (fc call22 z (W_impl_CoveredTags (B := w60.heap.size) e62 lr (((((((((((((((h3b.ext s15).ext s10).ext s11).ext s12).ext s13).ext s14).ext s16).chg s1b (lg h26)).chg s1d (lg h27)).ext s1i).chg s1l (lg h28)).ext s1j).ext s1q).ext s1o).mono (lt_ hBw (lt_ h43 s1o.size))) (repS.mono (ownS_rep (h42.ext s1o) (ownS.lt h42)) s1o.size) (ownS.rep h61))) ?_
 rintro _ w64 ⟨s1w, a91, n92, c93, S94, rfl, h65, h95, h96⟩
 refine Ra z (Wn (Wq (Ws (Rm z (Rm z ?_)))))
 have h66 := (((((((((h2c.ext s10).ext s11).ext s12).ext s13).ext s14).ext s16).chg s1b (dj_symm (o0no h1p (ownS.lt h1r) lr))).chg s1d (dj_symm (o0no h1n (ownS.lt h1r) h2d))).ext s1i).chg s1l (dj_symm (o0no h1k (ownS.lt h1r) h3e))
 have h67 := lt_ (lt_ (lt_ (lt_ (lt_ (lt_ (lt_ (lt_ (lt_ (lt_ (lt_ (lt_ (lt_ h2e s10.size) s11.size) s12.size) s13.size) s14.size) s16.size) s1b.size) s1d.size) s1i.size) s1l.size) s1j.size) s1q.size) s1o.size
 obtain ⟨r97, e68, hm44⟩ := bdS hm63
 refine E z (fc call23 z (W_laws_eqStringS (B := w64.heap.size) e68 lr (ownS.rep h65) (repS.mono (ownS_rep ((((h66.ext s1j).ext s1q).ext s1o).ext s1w) (ownS.lt h1r)) (lt_ h67 s1w.size)))) ?_
 rintro _ w98 ⟨s1z, rfl⟩
 refine R z (not_ z) (Wn (Wc z (fun hc2o => ?_) (fun hc2o => ?_)))
 ·refine Ws (Ra z (Wn ?_))
  obtain rfl := som (ifT hm44 hc2o)
  have h69 := bM (bup (bup (bup (bup (bup (bup (bup (bup (bM (bup (bup (bup (bup (bup (bup h1e s1f) s1g) s1c) s1h) s1a) h18) h19 (mem1le h1m)) s17) s15) s10) s11) s12) s13) s14) s16) s1b (o0le h1p h1t)
  exact Wr (ret1 hr z ⟨(bup (bup (bup (bup (bup (bM (bup (bM h69 s1d (o0le h1n h1u)) s1i) s1l (o0le h1k h1v)) s1j) s1q) s1o) s1w) s1z), z⟩)
 refine Wk (Ws (Ra z (Wn (Ws (Rm z (Rm z ?_))))))
 obtain ⟨r99, e6a, hm45⟩ := bdS (ifF hm44 hc2o)
 refine E z (fc call25 z (W_laws_heldStringS (B := w3x.heap.size) e6a (lt_ (lt_ (lt_ (lt_ s1j.size s1q.size) s1o.size) s1w.size) s1z.size) (ownS_rep (((((h2l.ext s1j).ext s1q).ext s1o).ext s1w).ext s1z) (ownS.lt h2l)) (ii z))) ?_
 rintro _ w9a ⟨s2p, rfl, h9b⟩
 refine Ra z (Wn (Wq (Ws (Rm z (R z (lss z z) (Wn (Wc z (fun hc2q => ?_) (fun hc2q => ?_))))))))
 ·refine Ws (Ra z (Wn ?_))
  obtain rfl := som (ifT hm45 hc2q)
  have h6b := bM (bup (bup (bup (bup (bup (bup (bup (bup (bM (bup (bup (bup (bup (bup (bup h1e s1f) s1g) s1c) s1h) s1a) h18) h19 (mem1le h1m)) s17) s15) s10) s11) s12) s13) s14) s16) s1b (o0le h1p h1t)
  exact Wr (ret1 hr z ⟨(bup (bup (bup (bup (bup (bup (bM (bup (bM h6b s1d (o0le h1n h1u)) s1i) s1l (o0le h1k h1v)) s1j) s1q) s1o) s1w) s1z) s2p), z⟩)
 have hm46 := ifF hm45 hc2q
 refine Wk (Wq (Ws (Rm z (Rm z (R z (nq z z) (Wn (Wc z (fun hc2r => ?_) (fun hc2r => ?_))))))))
 ·refine Ws (Ra z (Wn ?_))
  obtain rfl := som (ifT hm46 hc2r)
  have h6c := bM (bup (bup (bup (bup (bup (bup (bup (bup (bM (bup (bup (bup (bup (bup (bup h1e s1f) s1g) s1c) s1h) s1a) h18) h19 (mem1le h1m)) s17) s15) s10) s11) s12) s13) s14) s16) s1b (o0le h1p h1t)
  exact Wr (ret1 hr z ⟨(bup (bup (bup (bup (bup (bup (bM (bup (bM h6c s1d (o0le h1n h1u)) s1i) s1l (o0le h1k h1v)) s1j) s1q) s1o) s1w) s1z) s2p), z⟩)
 refine Wk (Ws (Ra z (Wn ?_)))
 obtain rfl := som (ifF hm46 hc2r)
 have h6d := bM (bup (bup (bup (bup (bup (bup (bup (bup (bM (bup (bup (bup (bup (bup (bup h1e s1f) s1g) s1c) s1h) s1a) h18) h19 (mem1le h1m)) s17) s15) s10) s11) s12) s13) s14) s16) s1b (o0le h1p h1t)
 exact Wr (ret1 hr z ⟨(bup (bup (bup (bup (bup (bup (bM (bup (bM h6d s1d (o0le h1n h1u)) s1i) s1l (o0le h1k h1v)) s1j) s1q) s1o) s1w) s1z) s2p), z⟩)
end Go.Vw

