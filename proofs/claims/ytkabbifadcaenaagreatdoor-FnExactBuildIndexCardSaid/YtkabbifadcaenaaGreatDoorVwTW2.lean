import Derived.Test.YtkabbifadcaenaaGreatDoorVwTW1
set_option linter.unusedVariables false
namespace Go.Vw
open Go.RowKit Dat Go.Proofs
open Go.Vw renaming WC_seq → Wq, WC_region → Wg, WC.of_KC → Wo, WL_nil → Wl, WC_cond → Wc, WC_ret → Wr, WC_run → Wu, rd_pickT → pT, rd_pickF → pF, rd_field → fd, rd_load1 → l1, rd_loadN → lN, rd_move → mv, rd_assign → asg, rd_lenR → lnR, rd_lss → lss, rd_eql → eql, rd_extract → ext_, rd_buildP → bP, rd_add → add_, rd_inc → inc_, rd_not → not_, rd_at → at_, ef_call → fc, ef_store → fs, ef_box → fb, ef_alloc → fa, sub_refl → sr, crefl → cr, cchgM → cM, bchgM → bM, inI_sub → iS, inI_add → iA, brefl → br
variable {pa1_0 : Option Addr} {pn1_0 pc1_0 : Nat} {B : Nat} {w0 : World} {pa1_4 : Option Addr} {pa1_5 : Option Addr} {pa1_6 : Option Addr} {pa1_7 : Option Addr} {pn1_4 pc1_4 : Nat} {pn1_5 pc1_5 : Nat} {pn1_6 pc1_6 : Nat} {pn1_7 pc1_7 : Nat} {pa2_4 : Option Addr} {pa2_5 : Option Addr} {pa2_6 : Option Addr} {pa2_7 : Option Addr} {pn2_4 pc2_4 : Nat} {pn2_5 pc2_5 : Nat} {pn2_6 pc2_6 : Nat} {pn2_7 pc2_7 : Nat} {pa3_0 : Option Addr} {pn3_0 pc3_0 : Nat} {pa2_0 : Option Addr} {pn2_0 pc2_0 : Nat} {n : Nat} {pa5_0 : Option Addr} {pn5_0 pc5_0 : Nat} {pa1_1 : Option Addr} {pn1_1 pc1_1 : Nat} {pa2_1 : Option Addr} {pa2_2 : Option Addr} {pn2_1 pc2_1 : Nat} {pn2_2 pc2_2 : Nat} {pa3_1 : Option Addr} {pa3_2 : Option Addr} {pn3_1 pc3_1 : Nat} {pn3_2 pc3_2 : Nat} {pa1_2 : Option Addr} {pa4_1 : Option Addr} {pa4_2 : Option Addr} {pn1_2 pc1_2 : Nat} {pn4_1 pc4_1 : Nat} {pn4_2 pc4_2 : Nat}
theorem W_spec_l11Choice : ∀ {x1 : Desc} {x2 : Rule} {x3 : List UInt8} {x4 : Int} {res : Val × Int × Int} (hm : (F_spec_l11Read n).spec_l11Choice x1 x2 x3 x4 = some res) (hBw : B ≤ w0.heap.size) (p1_0 : repS w0 B (.slice pa1_0 pn1_0 pc1_0) x1.rules) (p2_0 : x2.name.b.length ≤ LEN) (p2_1 : inI x2.kind) (p2_2 : inI x2.size) (p2_4 : repS w0 B (.slice pa2_4 pn2_4 pc2_4) x2.bytes) (p2_5 : repS w0 B (.slice pa2_5 pn2_5 pc2_5) x2.names) (p2_6 : repS w0 B (.slice pa2_6 pn2_6 pc2_6) x2.tags) (p2_7 : repS w0 B (.slice pa2_7 pn2_7 pc2_7) x2.kids) (p3_0 : repS w0 B (.slice pa3_0 pn3_0 pc3_0) x3) (p4_0 : inI x4), CallsR Tryz.prog 73 [(.agg #[(.slice pa1_0 pn1_0 pc1_0)]), (.agg #[(Str.v x2.name), (vI x2.kind), (vI x2.size), (vB x2.little), (.slice pa2_4 pn2_4 pc2_4), (.slice pa2_5 pn2_5 pc2_5), (.slice pa2_6 pn2_6 pc2_6), (.slice pa2_7 pn2_7 pc2_7)]), (.slice pa3_0 pn3_0 pc3_0), (vI x4)] w0 (Q_spec_l11Choice w0 B res) := ((A_spec_l11Read n).2.2.1).run
theorem W_spec_l11Option : ∀ {x1 : Desc} {x2 : Rule} {x3 : List UInt8} {x4 : Int} {res : Val × Int × Int} (hm : (F_spec_l11Read n).spec_l11Option x1 x2 x3 x4 = some res) (hBw : B ≤ w0.heap.size) (p1_0 : repS w0 B (.slice pa1_0 pn1_0 pc1_0) x1.rules) (p2_0 : x2.name.b.length ≤ LEN) (p2_1 : inI x2.kind) (p2_2 : inI x2.size) (p2_4 : repS w0 B (.slice pa2_4 pn2_4 pc2_4) x2.bytes) (p2_5 : repS w0 B (.slice pa2_5 pn2_5 pc2_5) x2.names) (p2_6 : repS w0 B (.slice pa2_6 pn2_6 pc2_6) x2.tags) (p2_7 : repS w0 B (.slice pa2_7 pn2_7 pc2_7) x2.kids) (p3_0 : repS w0 B (.slice pa3_0 pn3_0 pc3_0) x3) (p4_0 : inI x4), CallsR Tryz.prog 74 [(.agg #[(.slice pa1_0 pn1_0 pc1_0)]), (.agg #[(Str.v x2.name), (vI x2.kind), (vI x2.size), (vB x2.little), (.slice pa2_4 pn2_4 pc2_4), (.slice pa2_5 pn2_5 pc2_5), (.slice pa2_6 pn2_6 pc2_6), (.slice pa2_7 pn2_7 pc2_7)]), (.slice pa3_0 pn3_0 pc3_0), (vI x4)] w0 (Q_spec_l11Option w0 B res) := ((A_spec_l11Read n).2.2.2.1).run
theorem W_spec_l11Checked : ∀ {x1 : Desc} {x2 : Rule} {x3 : List UInt8} {x4 : Int} {res : Val × Int × Int} (hm : (F_spec_l11Read n).spec_l11Checked x1 x2 x3 x4 = some res) (hBw : B ≤ w0.heap.size) (p1_0 : repS w0 B (.slice pa1_0 pn1_0 pc1_0) x1.rules) (p2_0 : x2.name.b.length ≤ LEN) (p2_1 : inI x2.kind) (p2_2 : inI x2.size) (p2_4 : repS w0 B (.slice pa2_4 pn2_4 pc2_4) x2.bytes) (p2_5 : repS w0 B (.slice pa2_5 pn2_5 pc2_5) x2.names) (p2_6 : repS w0 B (.slice pa2_6 pn2_6 pc2_6) x2.tags) (p2_7 : repS w0 B (.slice pa2_7 pn2_7 pc2_7) x2.kids) (p3_0 : repS w0 B (.slice pa3_0 pn3_0 pc3_0) x3) (p4_0 : inI x4), CallsR Tryz.prog 75 [(.agg #[(.slice pa1_0 pn1_0 pc1_0)]), (.agg #[(Str.v x2.name), (vI x2.kind), (vI x2.size), (vB x2.little), (.slice pa2_4 pn2_4 pc2_4), (.slice pa2_5 pn2_5 pc2_5), (.slice pa2_6 pn2_6 pc2_6), (.slice pa2_7 pn2_7 pc2_7)]), (.slice pa3_0 pn3_0 pc3_0), (vI x4)] w0 (Q_spec_l11Checked w0 B res) := ((A_spec_l11Read n).2.2.2.2).run

def Q_spec_ReadValue (w0 : World) (B : Nat) (r : Val × Int × Int) (v : Value) (w' : World) : Prop := Below w0.heap.size w0 w' ∧ un3 (fun r1 r2 r3 => ∃ (a1 : Option Addr) (n1 c1 : Nat) (S1 : List Nat) (a2 : Option Addr) (n2 c2 : Nat) (S2 : List Nat), v = .tuple #[(.agg #[vI r1.number, .slice a1 n1 c1, .slice a2 n2 c2]), (vI r2), (vI r3)] ∧ inI r1.number ∧ ownS w' S1 (.slice a1 n1 c1) r1.bytes ∧ ownS w' S2 (.slice a2 n2 c2) r1.items ∧ inI r2 ∧ inI r3 ∧ (S1 ++ S2).Nodup ∧ (∀ k ∈ (S1 ++ S2), w0.heap.size ≤ k)) r
theorem W_spec_ReadValue {x1 : Desc} {x2 : Int} {x3 : List UInt8} {x4 : Int} {res : Val × Int × Int} (hm : M_spec_ReadValue n x1 x2 x3 x4 = some res) (hBw : B ≤ w0.heap.size) (p1_0 : repS w0 B (.slice pa1_0 pn1_0 pc1_0) x1.rules) (p2_0 : inI x2) (p3_0 : repS w0 B (.slice pa3_0 pn3_0 pc3_0) x3) (p4_0 : inI x4) : CallsR Tryz.prog 76 [(.agg #[(.slice pa1_0 pn1_0 pc1_0)]), (vI x2), (.slice pa3_0 pn3_0 pc3_0), (vI x4)] w0 (Q_spec_ReadValue w0 B res) := by
 unfold M_spec_ReadValue at hm
 obtain ⟨fn, hf, hb, hN, hr⟩ := fnE Tryz.func76
 refine goW hf (hb.trans z) (hN.trans z) (lb z) <| Ws <| E z (fb z) ?_
 rintro _ w21 ⟨rfl, h22⟩
 have h23 := h22.below
 have h24 : Blk w21 w0.heap.size [(.slice pa1_0 pn1_0 pc1_0)] := h22.blk
 refine E z (fa zero_61) ?_
 rintro _ w25 ⟨rfl, h26⟩
 have h27 := h26.below
 have h28 : Blk w25 w21.heap.size [(vI 0), (.slice none 0 0), (.slice none 0 0)] := h26.blk
 refine Ra z <| Ra z <| Wn <| Wq <| Wq ?_
 obtain ⟨u57, hu58, hm59⟩ := bdS hm
 refine WC_cut (fun a w => ∃ (x56 : Bool), x56 = u57 ∧ Sat 36 [(1, (vI x2)), (2, (.slice pa3_0 pn3_0 pc3_0)), (3, (vI x4)), (4, (.pointer (some ⟨w0.heap.size, 0, none⟩))), (8, (.pointer (some ⟨w21.heap.size, 0, none⟩))), (26, (vB x56))] a ∧ Below w25.heap.size w25 w) ?_ ?_
 ·refine Wg <| R z (lN (vs := [(.slice pa1_0 pn1_0 pc1_0)]) agg_31 size_31 z z fid ((h24.ext h27).row 0 1 z)) <| Rm z ?_
  have h63 := lt_ h23.size h27.size
  obtain ⟨r65, e66, hm67⟩ := bdS hu58
  refine E z (fc Tryz.call99 z (W_spec_l7Rule (B := B) e66 (lt_ hBw h63) ((p1_0.ext h23).ext h27) p2_0)) ?_
  rintro _ w68 ⟨s69, rfl⟩
  refine R z (not_ z) <| Rm z ?_
  rcases bsplit (!r65) with hc70 | hc70
  ·iterate 5 refine Nh z hc70 ?_
   exact R z (pT z hc70 z) <| Rm z <| Nh z z <| Nh z z <| Nh z z <| R z (pT z z z) <| Wl <| fun _ q => ⟨true, som (ifT hm67 hc70), (q.weaken (s6 z z z z z z)), s69⟩
  refine Rh z hc70 (mv z) <| Rh z hc70 (mv z) ?_
  have h75 := ((p3_0.ext h23).ext h27).ext s69
  refine Rh z hc70 (lnR und_25 z h75) ?_
  obtain ⟨r78, e79, hm80⟩ := bdS (ifF hm67 hc70)
  refine Eg z z hc70 z (fc Tryz.call67 z (W_spec_l1In (B := B) e79 (lt_ hBw (lt_ h63 s69.size)) p4_0 (ii z) (inI_len (repS.len h75)))) ?_
  rintro _ w81 ⟨s82, rfl⟩
  refine Rh z hc70 (not_ z) <| R z (pF z hc70 z) <| Rm z ?_
  rcases bsplit (!r78) with hc83 | hc83
  ·iterate 3 refine Nh z hc83 ?_
   exact R z (pT z hc83 z) <| Wl <| fun _ q => ⟨true, som (ifT hm80 hc83), (q.weaken (s6 z z z z z z)), (bup s69 s82)⟩
  exact Rh z hc83 (mv z) <| Rh z hc83 (lnR und_25 z (h75.ext s82)) <| Rh z hc83 (rd_gtr z z) <| R z (pF z hc83 z) <| Wl <| fun _ q => ⟨decide (400 < (x3.length : Int)), som (ifF hm80 hc83), (q.weaken (s6 z z z z z z)), (bup s69 s82)⟩
 rintro a89 w90 ⟨x56, rfl, hS91, s92⟩
 revert a89
 refine Wo <| Wc z (fun hc106 => ?_) (fun hc106 => ?_)
 ·refine Ws <| R z (bP (parts := []) (cs := [(vI 0), (.slice none 0 0), (.slice none 0 0)]) build_61 z z) <| E0 (fs (cur' := [(vI 0), (.slice none 0 0), (.slice none 0 0)]) size_61 z z (h28.ext s92) z (lb z) (oneAll z) z) ?_
  rintro _ w109 ⟨h110, s111⟩
  refine Ra z <| Ra z <| Wn ?_
  obtain rfl := som (ifT hm59 hc106)
  exact Wr (ret3 hr (resC agg_61 size_61 z h110 z) z z ⟨(bM (bup (bup h23 h27) s92) s111.one (mem1le h23.size)), none, 0, 0, [], none, 0, 0, [], z, (ii z), onL, onL, (ii z), (ii z), nd0, al0⟩)
 refine Wk <| Ws <| R z (lN (vs := [(.slice pa1_0 pn1_0 pc1_0)]) agg_31 size_31 z z fid (((h24.ext h27).ext s92).row 0 1 z)) <| Rm z <| Rm z <| Rm z ?_
 have h127 := lt_ (lt_ h23.size h27.size) s92.size
 obtain ⟨r129, r130, r131, e132, hm133⟩ := bd3S (ifF hm59 hc106)
 refine E z (fc Tryz.call43 z (W_spec_l11Read (B := B) e132 (lt_ hBw h127) (((p1_0.ext h23).ext h27).ext s92) p2_0 (((p3_0.ext h23).ext h27).ext s92) p4_0)) ?_
 rintro _ w134 ⟨s135, a137, n138, c139, S141, a142, n143, c144, S146, rfl, h136, h140, h145, h147, h148, h149, h150⟩
 iterate 3 refine R z (ext_ z z) ?_
 refine E0 (fs (cur' := [(vI r129.number), (.slice a137 n138 c139), (.slice a142 n143 c144)]) size_61 z z ((h28.ext s92).ext s135) z (lb z) (oneAll z) z) ?_
 rintro _ w153 ⟨h154, s155⟩
 have h156 := s155.one
 refine Ra z <| Ra z <| Wn ?_
 obtain rfl := som hm133
 exact Wr (ret3 hr (resC agg_61 size_61 z h154 z) z z ⟨(bM (bup (bup (bup h23 h27) s92) s135) h156 (mem1le h23.size)), a137, n138, c139, S141, a142, n143, c144, S146, z, h136, (h140.chg h156 (o0n1 (all_left h150) h28.lt s92.size)), (h145.chg h156 (o0n1 (all_right h150) h28.lt s92.size)), h147, h148, (nd_app (nd_left h149) (nd_right h149) (nd_dj h149)), (all_app (o0le (all_left h150) h127) (o0le (all_right h150) h127))⟩)
def Q_spec_ReadFile (w0 : World) (B : Nat) (r : Val × Int × Int) (v : Value) (w' : World) : Prop := Below w0.heap.size w0 w' ∧ un3 (fun r1 r2 r3 => ∃ (a1 : Option Addr) (n1 c1 : Nat) (S1 : List Nat) (a2 : Option Addr) (n2 c2 : Nat) (S2 : List Nat), v = .tuple #[(.agg #[vI r1.number, .slice a1 n1 c1, .slice a2 n2 c2]), (vI r2), (vI r3)] ∧ inI r1.number ∧ ownS w' S1 (.slice a1 n1 c1) r1.bytes ∧ ownS w' S2 (.slice a2 n2 c2) r1.items ∧ inI r2 ∧ inI r3 ∧ (S1 ++ S2).Nodup ∧ (∀ k ∈ (S1 ++ S2), w0.heap.size ≤ k)) r
theorem W_spec_ReadFile {x1 : Desc} {x2 : List UInt8} {res : Val × Int × Int} (hm : M_spec_ReadFile n x1 x2 = some res) (hBw : B ≤ w0.heap.size) (p1_0 : repS w0 B (.slice pa1_0 pn1_0 pc1_0) x1.rules) (p2_0 : repS w0 B (.slice pa2_0 pn2_0 pc2_0) x2) : CallsR Tryz.prog 44 [(.agg #[(.slice pa1_0 pn1_0 pc1_0)]), (.slice pa2_0 pn2_0 pc2_0)] w0 (Q_spec_ReadFile w0 B res) := by
 unfold M_spec_ReadFile at hm
 obtain ⟨fn, hf, hb, hN, hr⟩ := fnE Tryz.func44
 refine goW hf (hb.trans z) (hN.trans z) (lb z) <| Ws <| E z (fb z) ?_
 rintro _ w21 ⟨rfl, h22⟩
 have h23 := h22.below
 have h24 : Blk w21 w0.heap.size [(.slice pa1_0 pn1_0 pc1_0)] := h22.blk
 refine E z (fa zero_61) ?_
 rintro _ w25 ⟨rfl, h26⟩
 have h27 := h26.below
 have h28 : Blk w25 w21.heap.size [(vI 0), (.slice none 0 0), (.slice none 0 0)] := h26.blk
 refine Ra z <| Ra z <| Wn <| Wq ?_
 obtain ⟨u211, hu212, hm213⟩ := bdS hm
 refine WC_cut (fun a w => ∃ (x183 : Int) (x185 : List UInt8) (x193 : List Val) (x204 : Int) (x206 : Int), (x183, x185, x193, x204, x206) = u211 ∧ ∃ (a186 : Option Addr) (n187 c188 : Nat) (S190 : List Nat) (a194 : Option Addr) (n195 c196 : Nat) (S198 : List Nat) (g201 : Nat), Sat 32 [(1, (.slice pa2_0 pn2_0 pc2_0)), (4, (.pointer (some ⟨w21.heap.size, 0, none⟩))), (7, (.pointer (some ⟨g201, 0, none⟩))), (8, (vI x204)), (9, (vI x206))] a ∧ Below w25.heap.size w25 w ∧ inI x183 ∧ ownS w S190 (.slice a186 n187 c188) x185 ∧ S190.Nodup ∧ (∀ k ∈ S190, w25.heap.size ≤ k) ∧ ownS w S198 (.slice a194 n195 c196) x193 ∧ S198.Nodup ∧ (∀ k ∈ S198, w25.heap.size ≤ k) ∧ (∀ k ∈ S198, k ∉ S190) ∧ inI x204 ∧ inI x206 ∧ Blk w g201 [(vI x183), (.slice a186 n187 c188), (.slice a194 n195 c196)] ∧ w25.heap.size ≤ g201 ∧ (∀ k ∈ S190, k ∉ [g201]) ∧ (∀ k ∈ S198, k ∉ [g201])) ?_ ?_
 ·refine WC_draw (X := fun k => k ∈ ([] : List Nat) ∨ w25.heap.size ≤ k) 0 (.rd 0 (.rd 1 (.rd 3 (.br 2 (.br 4 (.rd 5 (.rd 6 (.rd 7 (.rd 8 (.ef 9 (.ef 10 (.rd 11 (.rd 12 .done)))))))) 9 (.ef 4 (.rd 5 (.rd 6 (.rd 7 (.rd 8 (.ef 10 (.rd 11 (.rd 12 .done))))))))) 9 (.ef 2 (.ef 4 (.rd 5 (.rd 6 (.rd 7 (.rd 8 (.ef 10 (.rd 11 (.rd 12 .done))))))))))))) mo (by kernel_rfl) fun w214 s215 _ => ?_
  have h217 := (h24.ext h27).ext s215
  refine dR z z (lN (vs := [(.slice pa1_0 pn1_0 pc1_0)]) agg_31 size_31 z z (notNew (atp (nmN _)) (Nat.lt_of_lt_of_le h24.lt h27.size)) (h217.row 0 1 z)) <| dR z z (lN (vs := [(.slice pa1_0 pn1_0 pc1_0)]) agg_31 size_31 z z (notNew (atp (nmN _)) (Nat.lt_of_lt_of_le h24.lt h27.size)) (h217.row 0 1 z)) <| dR z z (mv z) <| PR_br ?_ ?_
  ·have h220 := ((p1_0.ext h23).ext h27).ext s215
   have h222 := lt_ (lt_ h23.size h27.size) s215.size
   obtain ⟨r224, e225, hm226⟩ := bdS hu212
   refine dE z z (fc Tryz.call33 z (W_spec_RootOf (B := B) e225 (lt_ hBw h222) h220)) (.inr fun _ _ h => chgB (h.1)) ?_
   rintro _ w227 ⟨s228, rfl, h229⟩
   refine PR_br ?_ ?_
   ·obtain ⟨r237, r238, r239, e240, hm241⟩ := bd3S hm226
    refine dE z z (fc Tryz.call76 z (W_spec_ReadValue (B := B) e240 (lt_ hBw (lt_ h222 s228.size)) (h220.ext s228) h229 ((((p2_0.ext h23).ext h27).ext s215).ext s228) (ii z))) (.inr fun _ _ h => chgB (h.1)) ?_
    rintro _ w242 ⟨s243, a245, n246, c247, S249, a250, n251, c252, S254, rfl, h244, h248, h253, h255, h256, h257, h258⟩
    refine dR z z (mv z) ?_
    iterate 3 refine dR z z (ext_ z z) ?_
    refine dE z z (fa zero_61) (.inr fun _ _ h => chgB (h.2.below)) ?_
    rintro _ w259 ⟨rfl, h260⟩
    have h261 := h260.below
    have h262 : Blk w259 w242.heap.size [(vI 0), (.slice none 0 0), (.slice none 0 0)] := h260.blk
    have h266 := lt_ s215.size s228.size
    have h268 := mem1le (lt_ h266 s243.size)
    refine dE0 z (fs (cur' := [(vI r237.number), (.slice a245 n246 c247), (.slice a250 n251 c252)]) size_61 z z h262 z (lb z) (oneAll z) z) (.inr fun _ _ h => chgNew (atp h268) h.2) ?_
    rintro _ w263 ⟨h264, s265⟩
    have h269 := s265.one
    refine dR z z (asg z) <| dR z z (asg z) <| PR_done ?_
    have h271 := mnr (ownS.lt h248)
    have h275 := mnr (ownS.lt h253)
    exact fun _ q => ⟨r237.number, r237.bytes, r237.items, r238, r239, som hm241, a245, n246, c247, S249, a250, n251, c252, S254, w242.heap.size, (q.weaken (s5 z z z z z)), (bM (bup (bup (bup s215 s228) s243) h261) h269 h268), h244, ((h248.ext h261).chg h269 (dj_symm h271)), (nd_left h257), (o0le (all_left h258) h266), ((h253.ext h261).chg h269 (dj_symm h275)), (nd_right h257), (o0le (all_right h258) h266), (dj_symm (nd_dj h257)), h255, h256, h264, (atp h268), (dj_symm h271), (dj_symm h275)⟩
   refine dE z z (fa zero_61) (.inr fun _ _ h => chgB (h.2.below)) ?_
   rintro _ w282 ⟨rfl, h283⟩
   have h284 := h283.below
   have h285 : Blk w282 w227.heap.size [(vI 0), (.slice none 0 0), (.slice none 0 0)] := h283.blk
   obtain ⟨r296, r297, r298, e299, hm300⟩ := bd3S hm226
   refine dE z z (fc Tryz.call76 z (W_spec_ReadValue (B := B) e299 (lt_ hBw (lt_ (lt_ h222 s228.size) h284.size)) ((h220.ext s228).ext h284) h229 (((((p2_0.ext h23).ext h27).ext s215).ext s228).ext h284) (ii z))) (.inr fun _ _ h => chgB (h.1)) ?_
   rintro _ w301 ⟨s302, a304, n305, c306, S308, a309, n310, c311, S313, rfl, h303, h307, h312, h314, h315, h316, h317⟩
   refine dR z z (mv z) ?_
   iterate 3 refine dR z z (ext_ z z) ?_
   have h322 := lt_ s215.size s228.size
   have h323 := mem1le h322
   refine dE0 z (fs (cur' := [(vI r296.number), (.slice a304 n305 c306), (.slice a309 n310 c311)]) size_61 z z (h285.ext s302) z (lb z) (oneAll z) z) (.inr fun _ _ h => chgNew (atp h323) h.2) ?_
   rintro _ w319 ⟨h320, s321⟩
   have h324 := s321.one
   refine dR z z (asg z) <| dR z z (asg z) <| PR_done ?_
   have h325 := o0n1 (all_left h317) h285.lt (Nat.le_refl _)
   have h327 := lt_ h322 h284.size
   have h329 := o0n1 (all_right h317) h285.lt (Nat.le_refl _)
   exact fun _ q => ⟨r296.number, r296.bytes, r296.items, r297, r298, som hm300, a304, n305, c306, S308, a309, n310, c311, S313, w227.heap.size, (q.weaken (s5 z z z z z)), (bM (bup (bup (bup s215 s228) h284) s302) h324 h323), h303, (h307.chg h324 h325), (nd_left h316), (o0le (all_left h317) h327), (h312.chg h324 h329), (nd_right h316), (o0le (all_right h317) h327), (dj_symm (nd_dj h316)), h314, h315, h320, (atp h323), h325, h329⟩
  refine dE z z (fa zero_61) (.inr fun _ _ h => chgB (h.2.below)) ?_
  rintro _ w336 ⟨rfl, h337⟩
  have h338 := h337.below
  have h339 : Blk w336 w214.heap.size [(vI 0), (.slice none 0 0), (.slice none 0 0)] := h337.blk
  have h343 := (((p1_0.ext h23).ext h27).ext s215).ext h338
  have h346 := lt_ (lt_ (lt_ h23.size h27.size) s215.size) h338.size
  obtain ⟨r348, e349, hm350⟩ := bdS hu212
  refine dE z z (fc Tryz.call33 z (W_spec_RootOf (B := B) e349 (lt_ hBw h346) h343)) (.inr fun _ _ h => chgB (h.1)) ?_
  rintro _ w351 ⟨s352, rfl, h353⟩
  obtain ⟨r362, r363, r364, e365, hm366⟩ := bd3S hm350
  refine dE z z (fc Tryz.call76 z (W_spec_ReadValue (B := B) e365 (lt_ hBw (lt_ h346 s352.size)) (h343.ext s352) h353 (((((p2_0.ext h23).ext h27).ext s215).ext h338).ext s352) (ii z))) (.inr fun _ _ h => chgB (h.1)) ?_
  rintro _ w367 ⟨s368, a370, n371, c372, S374, a375, n376, c377, S379, rfl, h369, h373, h378, h380, h381, h382, h383⟩
  refine dR z z (mv z) ?_
  iterate 3 refine dR z z (ext_ z z) ?_
  have h389 := mem1le s215.size
  refine dE0 z (fs (cur' := [(vI r362.number), (.slice a370 n371 c372), (.slice a375 n376 c377)]) size_61 z z ((h339.ext s352).ext s368) z (lb z) (oneAll z) z) (.inr fun _ _ h => chgNew (atp h389) h.2) ?_
  rintro _ w386 ⟨h387, s388⟩
  have h390 := s388.one
  refine dR z z (asg z) <| dR z z (asg z) <| PR_done ?_
  have h391 := o0n1 (all_left h383) h339.lt s352.size
  have h394 := lt_ (lt_ s215.size h338.size) s352.size
  have h396 := o0n1 (all_right h383) h339.lt s352.size
  exact fun _ q => ⟨r362.number, r362.bytes, r362.items, r363, r364, som hm366, a370, n371, c372, S374, a375, n376, c377, S379, w214.heap.size, (q.weaken (s5 z z z z z)), (bM (bup (bup (bup s215 h338) s352) s368) h390 h389), h369, (h373.chg h390 h391), (nd_left h382), (o0le (all_left h383) h394), (h378.chg h390 h396), (nd_right h382), (o0le (all_right h383) h394), (dj_symm (nd_dj h382)), h380, h381, h387, (atp h389), h391, h396⟩
 rintro a403 w404 ⟨x183, x185, x193, x204, x206, rfl, a186, n187, c188, S190, a194, n195, c196, S198, g201, hS405, s406, h184, h189, h191, h192, h197, h199, h200, h208, h205, h207, h202, h203, h209, h210⟩
 have hm407 := un5S hm213
 revert a403
 refine Wo <| Wq <| Wq ?_
 obtain ⟨u415, hu416, hm417⟩ := bdS hm407
 refine WC_cut (fun a w => ∃ (x414 : Bool), x414 = u415 ∧ Sat 32 [(4, (.pointer (some ⟨w21.heap.size, 0, none⟩))), (7, (.pointer (some ⟨g201, 0, none⟩))), (8, (vI x204)), (9, (vI x206)), (26, (vB x414))] a ∧ Below w404.heap.size w404 w) ?_ ?_
 ·refine Wg <| Rm z <| R z (eql z z) <| Rm z ?_
  rcases bsplit (x206 == 0) with hc418 | hc418
  ·exact Rh z hc418 (mv z) <| Rh z hc418 (mv z) <| Rh z hc418 (lnR und_25 z (((p2_0.ext h23).ext h27).ext s406)) <| Rh z hc418 (lss z z) <| R z (pT z hc418 z) <| Wl <| fun _ q => ⟨decide (x204 < (x2.length : Int)), som (ifT hu416 hc418), (q.weaken (s5 z z z z z)), (br w404)⟩
  iterate 4 refine Nh z hc418 ?_
  exact R z (pF z hc418 z) <| Wl <| fun _ q => ⟨false, som (ifF hu416 hc418), (q.weaken (s5 z z z z z)), (br w404)⟩
 rintro a424 w425 ⟨x414, rfl, hS426, s427⟩
 revert a424
 refine Wo <| Wc z (fun hc443 => ?_) (fun hc443 => ?_)
 ·refine Ws <| R z (bP (parts := []) (cs := [(vI 0), (.slice none 0 0), (.slice none 0 0)]) build_61 z z) <| Rm z <| E0 (fs (cur' := [(vI 0), (.slice none 0 0), (.slice none 0 0)]) size_61 z z ((h28.ext s406).ext s427) z (lb z) (oneAll z) z) ?_
  rintro _ w447 ⟨h448, s449⟩
  refine Ra z <| Ra z <| Wn ?_
  obtain rfl := som (ifT hm417 hc443)
  exact Wr (ret3 hr (resC agg_61 size_61 z h448 z) z z ⟨(bM (bup (bup (bup h23 h27) s406) s427) s449.one (mem1le h23.size)), none, 0, 0, [], none, 0, 0, [], z, (ii z), onL, onL, h205, (ii z), nd0, al0⟩)
 refine Wk <| Ws <| R z (lN (vs := [(vI x183), (.slice a186 n187 c188), (.slice a194 n195 c196)]) agg_61 size_61 z z fid ((h202.ext s427).row 0 3 z)) <| Rm z <| Rm z <| E0 (fs (cur' := [(vI x183), (.slice a186 n187 c188), (.slice a194 n195 c196)]) size_61 z z ((h28.ext s406).ext s427) z (lb z) (oneAll z) z) ?_
 rintro _ w460 ⟨h461, s462⟩
 have h463 := s462.one
 refine Ra z <| Ra z <| Wn ?_
 obtain rfl := som (ifF hm417 hc443)
 have h475 := lt_ h23.size h27.size
 exact Wr (ret3 hr (resC agg_61 size_61 z h461 z) z z ⟨(bM (bup (bup (bup h23 h27) s406) s427) h463 (mem1le h23.size)), a186, n187, c188, S190, a194, n195, c196, S198, z, h184, ((h189.ext s427).chg h463 (o0n1 h192 h28.lt (Nat.le_refl _))), ((h197.ext s427).chg h463 (o0n1 h200 h28.lt (Nat.le_refl _))), h205, h207, (nd_app h191 h199 (dj_symm h208)), (all_app (o0le h192 h475) (o0le h200 h475))⟩)
def Q_spec_IsFileOf (w0 : World) (B : Nat) (r : Bool) (v : Value) (w' : World) : Prop := Below w0.heap.size w0 w' ∧ (fun r1 => (vB r1) = v) r
theorem W_spec_IsFileOf {x1 : Desc} {x2 : List UInt8} {res : Bool} (hm : M_spec_IsFileOf n x1 x2 = some res) (hBw : B ≤ w0.heap.size) (p1_0 : repS w0 B (.slice pa1_0 pn1_0 pc1_0) x1.rules) (p2_0 : repS w0 B (.slice pa2_0 pn2_0 pc2_0) x2) : CallsR Tryz.prog 23 [(.agg #[(.slice pa1_0 pn1_0 pc1_0)]), (.slice pa2_0 pn2_0 pc2_0)] w0 (Q_spec_IsFileOf w0 B res) := by
 unfold M_spec_IsFileOf at hm
 obtain ⟨fn, hf, hb, hN, hr⟩ := fnE Tryz.func23
 refine goW hf (hb.trans z) (hN.trans z) (lb z) <| Ws <| E z (fb z) ?_
 rintro _ w21 ⟨rfl, h22⟩
 have h23 := h22.below
 have h24 : Blk w21 w0.heap.size [(.slice pa1_0 pn1_0 pc1_0)] := h22.blk
 refine Ra z <| Wn <| Ws <| R z (lN (vs := [(.slice pa1_0 pn1_0 pc1_0)]) agg_31 size_31 z z fid (h24.row 0 1 z)) <| Rm z ?_
 obtain ⟨r28, r29, r30, e31, hm32⟩ := bd3S hm
 refine E z (fc Tryz.call44 z (W_spec_ReadFile (B := B) e31 (lt_ hBw h23.size) (p1_0.ext h23) (p2_0.ext h23))) ?_
 rintro _ w33 ⟨s34, a36, n37, c38, S40, a41, n42, c43, S45, rfl, h35, h39, h44, h46, h47, h48, h49⟩
 refine Rm z ?_
 iterate 3 refine R z (ext_ z z) ?_
 refine E z (fa zero_61) ?_
 rintro _ w50 ⟨rfl, h51⟩
 have h53 : Blk w50 w33.heap.size [(vI 0), (.slice none 0 0), (.slice none 0 0)] := h51.blk
 refine E0 (fs (cur' := [(vI r28.number), (.slice a36 n37 c38), (.slice a41 n42 c43)]) size_61 z z h53 z (lb z) (oneAll z) z) ?_
 rintro _ w54 ⟨h55, s56⟩
 refine Ra z <| Ra z <| Wn <| Ws <| Rm z <| R z (eql z z) <| Ra z <| Wn ?_
 obtain rfl := som hm32
 exact Wr (ret1 hr z ⟨(bM (bup (bup h23 s34) h51.below) s56.one (mem1le (lt_ h23.size s34.size))), z⟩)
def Q_spec_FormatInt (w0 : World) (B : Nat) (r : Str) (v : Value) (w' : World) : Prop := Below w0.heap.size w0 w' ∧ (fun r1 => (Str.v r1) = v ∧ r1.b.length ≤ LEN) r
theorem W_spec_FormatInt {x1 : Int} {res : Str} (hm : M_spec_FormatInt n x1 = some res) (hBw : B ≤ w0.heap.size) (p1_0 : inI x1) : CallsR Tryz.prog 89 [(vI x1)] w0 (Q_spec_FormatInt w0 B res) := by
 unfold M_spec_FormatInt at hm
 obtain ⟨fn, hf, hb, hN, hr⟩ := fnE Tryz.func89
 refine goW hf (hb.trans z) (hN.trans z) (lb z) <| Ws <| Ra z <| Wn <| Wq <| Ws <| Rm z <| R z (eql z z) <| Wn <| Wc z (fun hc25 => ?_) (fun hc25 => ?_)
 ·refine Ws <| Ra z <| Wn ?_
  obtain rfl := som (ifT hm hc25)
  exact Wr (ret1 hr z ⟨(br w0), z, (lb z)⟩)
 refine Wk <| Ws <| Ra z <| Wn <| Wq <| Ws <| Rm z <| Ra z <| Wn ?_
 obtain ⟨u68, hu69, hm70⟩ := bdS (ifF hm hc25)
 refine WC_iter (σ := Str × Int) (ρ := Str) (fun s a w => un2 (fun x64 x66 => Sat 31 [(0, (vI x1)), (3, (Str.v x64)), (4, (vI x66))] a ∧ Below w0.heap.size w0 w ∧ x64.b.length ≤ LEN ∧ inI x66) s) (fun s a w => un2 (fun x64 x66 => Sat 31 [(0, (vI x1)), (3, (Str.v x64))] a ∧ Below w0.heap.size w0 w ∧ x64.b.length ≤ LEN ∧ inI x66) s) (fun r ex a w => ex = .ret ∧ RetPost Tryz.prog fn (Q_spec_FormatInt w0 B r) a w) hu69 ?_ ?_ ?_ ?_
 ·exact fun _ q => ⟨(q.weaken (s3 z z z)), (br w0), (lb z), p1_0⟩
 ·rintro ⟨x64, x66⟩ a72 w73 o74 ⟨hS76, s77, h65, h67⟩ hm78
  have hm79 := un2S hm78
  refine Wu (e := [(0, (vI x1)), (3, (Str.v x64)), (4, (vI x66))]) (N := 31) ?_ hS76
  refine Wq <| Ws <| Rm z <| R z (rd_neq z z) <| Wn <| Wc z (fun hc84 => ?_) (fun hc84 => ?_)
  ·refine Wk <| Wq <| WC_block <| Ws <| Rm z <| R z (rd_rem z z (by decide)) <| Ra z <| Wn <| Wq <| Ws <| Rm z <| R z (lss z z) <| Wn ?_
   obtain ⟨u104, hu105, hm106⟩ := bdS (ifT hm79 hc84)
   refine WC_cut (fun a w => ∃ (x102 : Int), x102 = u104 ∧ Sat 31 [(0, (vI x1)), (3, (Str.v x64)), (4, (vI x66)), (5, (vI x102))] a ∧ Below w73.heap.size w73 w ∧ inI x102) ?_ ?_
   ·refine Wc z (fun hc107 => ?_) (fun hc107 => ?_)
    ·exact Wg <| Rm z <| R z (rd_neg z) <| Ra z <| Wl <| fun _ q => ⟨ineg (irem x66 10), som (ifT hu105 hc107), (q.weaken (s4 z z z z)), (br w73), (inI_neg _)⟩
    exact WC_skip <| fun _ q => ⟨irem x66 10, som (ifF hu105 hc107), (q.weaken (s4 z z z z)), (br w73), (inI_rem h67)⟩
   rintro a110 w111 ⟨x102, rfl, hS112, s113, h103⟩
   revert a110
   refine Wo <| Wg <| Rm z <| R z (add_ z z) <| R z (rd_convU und_3 und_5 z) <| E z (ef_buildSlice [(.tmp 21)] el_25 z z z (szAll z) (lb z) (lb z)) ?_
   rintro _ w114 ⟨rfl, h115⟩
   have h117 : Blk w114 w111.heap.size [(vU (byteI (mkB (iadd 48 x102))))] := h115.blk
   refine R z (rd_convST und_25 und_9 und_5 size_5 z (ownS.rep (ownS_new1 h115 UInt8_own))) <| Rm z ?_
   obtain ⟨x119, e120, hm121⟩ := bdS hm106
   exact R z (rd_catC z z e120) <| Ra z <| Wn <| Wg <| Rm z <| R z (rd_quo z z (by decide)) <| Ra z <| Wl <| fun _ q => ⟨(x119, iquo x66 10), (som hm121).symm, ⟨(q.weaken (s3 z z z)), (bup (bup s77 s113) h115.below), (cat_len e120), (inI_quo _ _)⟩⟩
  exact WC_exit (fun a' ha' => QO_brk (som (ifF hm79 hc84)).symm ⟨(Sat.weaken ha' (s2 z z)), s77, h65, h67⟩)
 ·rintro ⟨x64, x66⟩ a125 w126 rfl ⟨hS127, s128, h65, h67⟩
  have hm129 := elL hm70
  have hm130 := un2S hm129
  revert a125
  refine Wo <| Wq <| Ws <| Rm z <| R z (lss z z) <| Wn <| Wc z (fun hc138 => ?_) (fun hc138 => ?_)
  ·refine Ws <| Rm z ?_
   obtain ⟨x140, e141, hm142⟩ := bdS (ifT hm130 hc138)
   refine R z (rd_catC z z e141) <| Ra z <| Wn ?_
   obtain rfl := som hm142
   exact Wr (ret1 hr z ⟨s128, z, (cat_len e141)⟩)
  refine Wk <| Ws <| Rm z <| Ra z <| Wn ?_
  obtain rfl := som (ifF hm130 hc138)
  exact Wr (ret1 hr z ⟨s128, z, h65⟩)
 rintro r144 ex145 a146 w147 rfl ⟨rfl, hq148⟩
 have hm149 := elR hm70
 obtain rfl := som hm149
 exact ⟨hq148, z⟩
def Q_spec_l18Step (w0 : World) (B : Nat) (r : Str) (v : Value) (w' : World) : Prop := Below w0.heap.size w0 w' ∧ (fun r1 => (Str.v r1) = v ∧ r1.b.length ≤ LEN) r
theorem W_spec_l18Step {x1 : Rule} {x2 : Int} {res : Str} (hm : M_spec_l18Step n x1 x2 = some res) (hBw : B ≤ w0.heap.size) (p1_0 : x1.name.b.length ≤ LEN) (p1_1 : inI x1.kind) (p1_2 : inI x1.size) (p1_4 : repS w0 B (.slice pa1_4 pn1_4 pc1_4) x1.bytes) (p1_5 : repS w0 B (.slice pa1_5 pn1_5 pc1_5) x1.names) (p1_6 : repS w0 B (.slice pa1_6 pn1_6 pc1_6) x1.tags) (p1_7 : repS w0 B (.slice pa1_7 pn1_7 pc1_7) x1.kids) (p2_0 : inI x2) : CallsR Tryz.prog 56 [(.agg #[(Str.v x1.name), (vI x1.kind), (vI x1.size), (vB x1.little), (.slice pa1_4 pn1_4 pc1_4), (.slice pa1_5 pn1_5 pc1_5), (.slice pa1_6 pn1_6 pc1_6), (.slice pa1_7 pn1_7 pc1_7)]), (vI x2)] w0 (Q_spec_l18Step w0 B res) := by
 unfold M_spec_l18Step at hm
 obtain ⟨fn, hf, hb, hN, hr⟩ := fnE Tryz.func56
 refine goW hf (hb.trans z) (hN.trans z) (lb z) <| Ws <| E z (fb z) ?_
 rintro _ w21 ⟨rfl, h22⟩
 have h23 := h22.below
 have h24 : Blk w21 w0.heap.size [(Str.v x1.name), (vI x1.kind), (vI x1.size), (vB x1.little), (.slice pa1_4 pn1_4 pc1_4), (.slice pa1_5 pn1_5 pc1_5), (.slice pa1_6 pn1_6 pc1_6), (.slice pa1_7 pn1_7 pc1_7)] := h22.blk
 refine Ra z <| Wn <| Wq <| WC_block <| Ws <| R z (fd fld_82_1 z) <| R z (l1 agg_3 z fid (h24.at z)) <| R z (eql z z) <| Ra z <| Wn <| Wc z (fun hc198 => ?_) (fun hc198 => ?_)
 ·refine Ws <| Rm z ?_
  obtain ⟨r201, e202, hm203⟩ := bdS (ifT hm hc198)
  refine E z (fc Tryz.call89 z (W_spec_FormatInt (B := B) e202 (lt_ hBw h23.size) p2_0)) ?_
  rintro _ w204 ⟨s205, rfl, h206⟩
  refine Ra z <| Wn ?_
  obtain rfl := som hm203
  exact Wr (rtO (ret1 hr z ⟨(bup h23 s205), z, h206⟩))
 refine Wq ?_
 obtain ⟨u214, hu215, hm216⟩ := bdS (ifF hm hc198)
 refine WC_cut (fun a w => ∃ (x213 : Bool), x213 = u214 ∧ Sat 51 [(1, (vI x2)), (2, (.pointer (some ⟨w0.heap.size, 0, none⟩))), (11, (vB x213))] a ∧ Below w21.heap.size w21 w) ?_ ?_
 ·refine Wg <| R z (fd fld_82_1 z) <| R z (l1 agg_3 z fid (h24.at z)) <| R z (eql z z) <| Rm z ?_
  rcases bsplit (x1.kind == 6) with hc217 | hc217
  ·exact Rh z hc217 (mv z) <| Rh z hc217 (fd fld_82_5 z) <| Rh z hc217 (l1 agg_72 z fid (h24.at z)) <| Rh z hc217 (lnR und_72 z (p1_5.ext h23)) <| Rh z hc217 (lss z z) <| R z (pT z hc217 z) <| Ra z <| Wl <| fun _ q => ⟨decide (x2 < (x1.names.length : Int)), som (ifT hu215 hc217), (q.weaken (s3 z z z)), (br w21)⟩
  iterate 5 refine Nh z hc217 ?_
  exact R z (pF z hc217 z) <| Ra z <| Wl <| fun _ q => ⟨false, som (ifF hu215 hc217), (q.weaken (s3 z z z)), (br w21)⟩
 rintro a221 w222 ⟨x213, rfl, hS223, s224⟩
 revert a221
 refine Wo <| Wc z (fun hc288 => ?_) (fun hc288 => ?_)
 ·refine Ws <| R z (fd fld_82_5 z) <| R z (l1 agg_72 z fid ((h24.ext s224).at z)) <| Rm z ?_
  obtain ⟨x291, e292, hm293⟩ := bdS (ifT hm216 hc288)
  refine RX z (at_ (α := Str) und_72 size_9 z z z ((p1_5.ext h23).ext s224) e292) ?_
  rintro _ ⟨b296, o297, cs298, rfl, h299, h300, h301⟩
  obtain ⟨rfl, h302⟩ := Str_open h300
  refine R z (l1 agg_9 z fid (h299.at0 z)) <| Ra z <| Wn ?_
  obtain rfl := som hm293
  exact Wr (rtO (ret1 hr z ⟨(bup h23 s224), z, h302⟩))
 refine Wq ?_
 obtain ⟨u310, hu311, hm312⟩ := bdS (ifF hm216 hc288)
 refine WC_cut (fun a w => ∃ (x309 : Bool), x309 = u310 ∧ Sat 51 [(1, (vI x2)), (2, (.pointer (some ⟨w0.heap.size, 0, none⟩))), (27, (vB x309))] a ∧ Below w222.heap.size w222 w) ?_ ?_
 ·refine Wg <| R z (fd fld_82_1 z) <| R z (l1 agg_3 z fid ((h24.ext s224).at z)) <| R z (eql z z) <| Rm z ?_
  rcases bsplit (x1.kind == 7) with hc314 | hc314
  ·exact Rh z hc314 (mv z) <| Rh z hc314 (eql z z) <| R z (pT z hc314 z) <| Ra z <| Wl <| fun _ q => ⟨x2 == 0, som (ifT hu311 hc314), (q.weaken (s3 z z z)), (br w222)⟩
  exact Nh z hc314 <| Nh z hc314 <| R z (pF z hc314 z) <| Ra z <| Wl <| fun _ q => ⟨false, som (ifF hu311 hc314), (q.weaken (s3 z z z)), (br w222)⟩
 rintro a317 w318 ⟨x309, rfl, hS319, s320⟩
 revert a317
 refine Wo <| Wc z (fun hc358 => ?_) (fun hc358 => ?_)
 ·refine Ws <| Ra z <| Wn ?_
  obtain rfl := som (ifT hm312 hc358)
  exact Wr (rtO (ret1 hr z ⟨(bup (bup h23 s224) s320), z, (lb z)⟩))
 refine Wq ?_
 obtain ⟨u369, hu370, hm371⟩ := bdS (ifF hm312 hc358)
 refine WC_cut (fun a w => ∃ (x368 : Bool), x368 = u369 ∧ Sat 51 [(1, (vI x2)), (2, (.pointer (some ⟨w0.heap.size, 0, none⟩))), (35, (vB x368))] a ∧ Below w318.heap.size w318 w) ?_ ?_
 ·refine Wg <| R z (fd fld_82_1 z) <| R z (l1 agg_3 z fid (((h24.ext s224).ext s320).at z)) <| R z (eql z z) <| Rm z ?_
  rcases bsplit (x1.kind == 8) with hc374 | hc374
  ·exact Rh z hc374 (mv z) <| Rh z hc374 (eql z z) <| R z (pT z hc374 z) <| Ra z <| Wl <| fun _ q => ⟨x2 == 0, som (ifT hu370 hc374), (q.weaken (s3 z z z)), (br w318)⟩
  exact Nh z hc374 <| Nh z hc374 <| R z (pF z hc374 z) <| Ra z <| Wl <| fun _ q => ⟨false, som (ifF hu370 hc374), (q.weaken (s3 z z z)), (br w318)⟩
 rintro a377 w378 ⟨x368, rfl, hS379, s380⟩
 revert a377
 refine Wo <| Wc z (fun hc404 => ?_) (fun hc404 => ?_)
 ·refine Ws <| Ra z <| Wn ?_
  obtain rfl := som (ifT hm371 hc404)
  exact Wr (rtO (ret1 hr z ⟨(bup (bup (bup h23 s224) s320) s380), z, (lb z)⟩))
 refine Wq ?_
 obtain ⟨u417, hu418, hm419⟩ := bdS (ifF hm371 hc404)
 refine WC_cut (fun a w => ∃ (x416 : Bool), x416 = u417 ∧ Sat 51 [(43, (vB x416))] a ∧ Below w378.heap.size w378 w) ?_ ?_
 ·refine Wg <| R z (fd fld_82_1 z) <| R z (l1 agg_3 z fid ((((h24.ext s224).ext s320).ext s380).at z)) <| R z (eql z z) <| Rm z ?_
  rcases bsplit (x1.kind == 9) with hc423 | hc423
  ·exact Rh z hc423 (mv z) <| Rh z hc423 (eql z z) <| R z (pT z hc423 z) <| Ra z <| Wl <| fun _ q => ⟨x2 == 0, som (ifT hu418 hc423), (q.weaken (s1 z)), (br w378)⟩
  exact Nh z hc423 <| Nh z hc423 <| R z (pF z hc423 z) <| Ra z <| Wl <| fun _ q => ⟨false, som (ifF hu418 hc423), (q.weaken (s1 z)), (br w378)⟩
 rintro a426 w427 ⟨x416, rfl, hS428, s429⟩
 revert a426
 refine Wo <| Wc z (fun hc438 => ?_) (fun hc438 => ?_)
 ·refine Ws <| Ra z <| Wn ?_
  obtain rfl := som (ifT hm419 hc438)
  exact Wr (rtO (ret1 hr z ⟨(bup (bup (bup (bup h23 s224) s320) s380) s429), z, (lb z)⟩))
 refine Wk <| Ws <| Ra z <| Wn ?_
 obtain rfl := som (ifF hm419 hc438)
 exact Wr (ret1 hr z ⟨(bup (bup (bup (bup h23 s224) s320) s380) s429), z, (lb z)⟩)
def Q_spec_l19Build (w0 : World) (B : Nat) (r : (List Entry) × Int) (v : Value) (w' : World) : Prop := Below w0.heap.size w0 w' ∧ un2 (fun r1 r2 => ∃ (a1 : Option Addr) (n1 c1 : Nat) (S1 : List Nat), v = .tuple #[(.slice a1 n1 c1), (vI r2)] ∧ ownS w' S1 (.slice a1 n1 c1) r1 ∧ inI r2 ∧ S1.Nodup ∧ (∀ k ∈ S1, w0.heap.size ≤ k)) r
structure S_spec_l19Build (n : Nat) : Prop where
  run : ∀ {B : Nat} {x1 : Desc} {pa1_0 : Option Addr} {pn1_0 pc1_0 : Nat} {x2 : Int} {x3 : List UInt8} {pa3_0 : Option Addr} {pn3_0 pc3_0 : Nat} {x4 : Int} {x5 : Str} {res : (List Entry) × Int} {w0 : World} (hm : (F_spec_l19Build n).spec_l19Build x1 x2 x3 x4 x5 = some res) (hBw : B ≤ w0.heap.size) (p1_0 : repS w0 B (.slice pa1_0 pn1_0 pc1_0) x1.rules) (p2_0 : inI x2) (p3_0 : repS w0 B (.slice pa3_0 pn3_0 pc3_0) x3) (p4_0 : inI x4) (p5_0 : x5.b.length ≤ LEN), CallsR Tryz.prog 32 [(.agg #[(.slice pa1_0 pn1_0 pc1_0)]), (vI x2), (.slice pa3_0 pn3_0 pc3_0), (vI x4), (Str.v x5)] w0 (Q_spec_l19Build w0 B res)
theorem T_spec_l19Build (ih_spec_l19Build : S_spec_l19Build n) {x1 : Desc} {x2 : Int} {x3 : List UInt8} {x4 : Int} {x5 : Str} {res : (List Entry) × Int} (hm : B_spec_l19Build n (F_spec_l19Build n) x1 x2 x3 x4 x5 = some res) (hBw : B ≤ w0.heap.size) (p1_0 : repS w0 B (.slice pa1_0 pn1_0 pc1_0) x1.rules) (p2_0 : inI x2) (p3_0 : repS w0 B (.slice pa3_0 pn3_0 pc3_0) x3) (p4_0 : inI x4) (p5_0 : x5.b.length ≤ LEN) : CallsR Tryz.prog 32 [(.agg #[(.slice pa1_0 pn1_0 pc1_0)]), (vI x2), (.slice pa3_0 pn3_0 pc3_0), (vI x4), (Str.v x5)] w0 (Q_spec_l19Build w0 B res) := by
 unfold B_spec_l19Build at hm
 obtain ⟨fn, hf, hb, hN, hr⟩ := fnE Tryz.func32
 refine goW hf (hb.trans z) (hN.trans z) (lb z) <| Ws <| E z (fb z) ?_
 rintro _ w21 ⟨rfl, h22⟩
 have h23 := h22.below
 have h24 : Blk w21 w0.heap.size [(.slice pa1_0 pn1_0 pc1_0)] := h22.blk
 refine Ra z <| Ra z <| Wn <| Ws <| R z (fd fld_31_0 z) <| R z (l1 agg_29 z fid (h24.at z)) <| Rm z ?_
 obtain ⟨x25, e26, hm27⟩ := bdS hm
 have h28 := p1_0.ext h23
 refine RX z (at_ (α := Rule) und_29 size_82 z z z h28 e26) ?_
 rintro _ ⟨b29, o30, cs31, rfl, h32, h33, h34⟩
 obtain ⟨a38, n39, c40, a42, n43, c44, a46, n47, c48, a50, n51, c52, rfl, h35, h36, h37, h41, h45, h49, h53⟩ := Rule_open h33
 refine R z (lN (vs := [(Str.v x25.name), (vI x25.kind), (vI x25.size), (vB x25.little), (.slice a38 n39 c40), (.slice a42 n43 c44), (.slice a46 n47 c48), (.slice a50 n51 c52)]) agg_82 size_82 z z fid h32) <| E z (fa zero_82) ?_
 rintro _ w54 ⟨rfl, h55⟩
 have h56 := h55.below
 have h57 : Blk w54 w21.heap.size [(Str.v (⟨[]⟩ : Str)), (vI 0), (vI 0), (vB false), (.slice none 0 0), (.slice none 0 0), (.slice none 0 0), (.slice none 0 0)] := h55.blk
 refine E0 (fs (cur' := [(Str.v x25.name), (vI x25.kind), (vI x25.size), (vB x25.little), (.slice a38 n39 c40), (.slice a42 n43 c44), (.slice a46 n47 c48), (.slice a50 n51 c52)]) size_82 z z h57 z (lb z) (oneAll z) z) ?_
 rintro _ w58 ⟨h59, s60⟩
 have h61 := s60.one
 refine Wn <| Ws ?_
 have h64 := (h24.ext h56).chg h61 (djs (mmr h24.lt))
 refine R z (lN (vs := [(.slice pa1_0 pn1_0 pc1_0)]) agg_31 size_31 z z fid (h64.row 0 1 z)) <| Rm z <| Rm z <| Rm z ?_
 have h67 := mem1le (lt_ hBw h23.size)
 have h68 := (h28.ext h56).chg h61 (ltge h67)
 have h71 := ((p3_0.ext h23).ext h56).chg h61 (ltge h67)
 have h73 := lt_ (lt_ h23.size h56.size) h61.size
 obtain ⟨r75, r76, r77, e78, hm79⟩ := bd3S hm27
 refine E z (fc Tryz.call43 z (W_spec_l11Read (B := B) e78 (lt_ hBw h73) h68 p2_0 h71 p4_0)) ?_
 rintro _ w80 ⟨s81, a83, n84, c85, S87, a88, n89, c90, S92, rfl, h82, h86, h91, h93, h94, h95, h96⟩
 refine Rm z ?_
 iterate 3 refine R z (ext_ z z) ?_
 refine E z (fa zero_61) ?_
 rintro _ w97 ⟨rfl, h98⟩
 have h99 := h98.below
 have h100 : Blk w97 w80.heap.size [(vI 0), (.slice none 0 0), (.slice none 0 0)] := h98.blk
 refine E0 (fs (cur' := [(vI r75.number), (.slice a83 n84 c85), (.slice a88 n89 c90)]) size_61 z z h100 z (lb z) (oneAll z) z) ?_
 rintro _ w101 ⟨h102, s103⟩
 have h104 := s103.one
 refine Ra z <| Ra z <| Wn <| Ws <| Rm z <| Rm z <| Rm z <| Rm z <| R z (bP (parts := [(0, (.tmp 38)), (1, (.tmp 39)), (2, (.tmp 40)), (3, (.tmp 41))]) (cs := [(Str.v x5), (vI x2), (vI x4), (vI r76)]) build_47 z z) <| E z (ef_buildSlice [(.tmp 42)] el_39 z z z (szAll z) (lb z) (lb z)) ?_
 rintro _ w105 ⟨rfl, h106⟩
 have h107 := h106.below
 have h108 : Blk w105 w101.heap.size [(Str.v x5), (vI x2), (vI x4), (vI r76)] := h106.blk
 refine Ra z <| Wn <| Ws <| Rm z <| Ra z <| Wn <| Wq <| Ws <| R z (fd fld_82_1 z) ?_
 have h112 := lt_ h61.size s81.size
 have h115 := (((h59.ext s81).ext h99).chg h104 (djs (mm1 h57.lt h112))).ext h107
 refine R z (l1 agg_3 z fid (h115.at z)) <| Wn <| WC_block <| Wq <| Ws <| R z (eql z z) <| Ra z <| Wn ?_
 obtain ⟨u195, hu196, hm197⟩ := bdS hm79
 refine WC_cut (fun a w => ∃ (x194 : Bool), x194 = u195 ∧ Sat 98 [(2, (.slice pa3_0 pn3_0 pc3_0)), (3, (vI x4)), (4, (Str.v x5)), (5, (.pointer (some ⟨w0.heap.size, 0, none⟩))), (12, (.pointer (some ⟨w21.heap.size, 0, none⟩))), (13, (.pointer (some ⟨w80.heap.size, 0, none⟩))), (14, (vI r76)), (16, (.slice (some ⟨w101.heap.size, 0, none⟩) 1 1)), (17, (vI x4)), (46, (vI x25.kind)), (47, (vB x194))] a ∧ Below w105.heap.size w105 w) ?_ ?_
 ·refine Wc z (fun hc198 => ?_) (fun hc198 => ?_)
  ·exact WC_skip <| fun _ q => ⟨x25.kind == 5, som (ifT hu196 hc198), (q.weaken (sc z (sc z (sc z (sc z (sc z (sc z (sc z (sc z (sc z (sc z (sc z sn)))))))))))), (br w105)⟩
  exact Wg <| R z (eql z z) <| Ra z <| Wl <| fun _ q => ⟨x25.kind == 7, som (ifF hu196 hc198), (q.weaken (sc z (sc z (sc z (sc z (sc z (sc z (sc z (sc z (sc z (sc z (sc z sn)))))))))))), (br w105)⟩
 rintro a201 w202 ⟨x194, rfl, hS203, s204⟩
 revert a201
 refine Wo ?_
 obtain ⟨u276, hu277, hm278⟩ := bdS hm197
 refine WC_cut (fun a w => ∃ (x274 : Int), x274 = u276 ∧ Sat 98 [(2, (.slice pa3_0 pn3_0 pc3_0)), (4, (Str.v x5)), (5, (.pointer (some ⟨w0.heap.size, 0, none⟩))), (12, (.pointer (some ⟨w21.heap.size, 0, none⟩))), (13, (.pointer (some ⟨w80.heap.size, 0, none⟩))), (14, (vI r76)), (16, (.slice (some ⟨w101.heap.size, 0, none⟩) 1 1)), (17, (vI x274))] a ∧ Below w202.heap.size w202 w ∧ inI x274) ?_ ?_
 ·refine Wc z (fun hc279 => ?_) (fun hc279 => ?_)
  ·refine Wq <| WC_draw (X := noX) 0 (.rd 0 (.rd 1 (.rd 2 (.rd 3 (.rd 4 (.rd 5 (.rd 6 (.ef 7 (.rd 8 (.rd 9 (.rd 10 (.rd 11 (.rd 12 (.rd 13 (.rd 14 .done))))))))))))))) mo (by kernel_rfl) fun w281 s282 _ => dR z z (lN (vs := [(.slice pa1_0 pn1_0 pc1_0)]) agg_31 size_31 z z fid (((((((h64.ext s81).ext h99).chg h104 (djs (mm1 h24.lt (lt_ (lt_ h56.size h61.size) s81.size)))).ext h107).ext s204).ext s282).row 0 1 z)) <| dR z z (fd fld_82_7 z) <| dR z z (l1 agg_73 z fid (((h115.ext s204).ext s282).at z)) ?_
   obtain ⟨x294, e295, hm296⟩ := bdS (ifT hu277 hc279)
   have h301 := lt_ h73 s81.size
   have h303 := mem1le (lt_ hBw h301)
   refine dRX z z (at_ (α := Int) und_73 size_3 z z z ((((((((h53.ext h56).chg h61 (ltge h67)).ext s81).ext h99).chg h104 (ltge h303)).ext h107).ext s204).ext s282) e295) ?_
   rintro _ ⟨b308, o309, cs310, rfl, h311, h312, h313⟩
   obtain ⟨rfl, h314⟩ := Int_open h312
   refine dR z z (l1 agg_3 z fid (h311.at0 z)) <| dR z z (mv z) <| dR z z (mv z) ?_
   obtain ⟨r333, r334, r335, e336, hm337⟩ := bd3S hm296
   refine dE z z (fc Tryz.call54 z (W_spec_l11Integer (B := B) e336 (lt_ hBw (lt_ (lt_ (lt_ (lt_ (lt_ h301 h99.size) h104.size) h107.size) s204.size) s282.size)) ((((((h68.ext s81).ext h99).chg h104 (ltge h303)).ext h107).ext s204).ext s282) h314 ((((((h71.ext s81).ext h99).chg h104 (ltge h303)).ext h107).ext s204).ext s282) p4_0)) (.inr fun _ _ h => chgB (h.1)) ?_
   rintro _ w338 ⟨s339, rfl, h340, h341⟩
   refine dR z z (mv z) ?_
   iterate 3 refine dR z z (ext_ z z) ?_
   iterate 3 refine dR z z (asg z) ?_
   exact PR_done <| Wo <| Wg <| Rm z <| Ra z <| Wl <| fun _ q => ⟨r334, som hm337, (q.weaken (s8 z z z z z z z z)), (bup s282 s339), h341⟩
  refine Ws <| R z (eql z z) <| Ra z <| Wn ?_
  obtain ⟨u349, hu350, hm351⟩ := bdS (ifF hu277 hc279)
  refine WC_cut (fun a w => ∃ (x347 : Int), x347 = u349 ∧ Sat 98 [(2, (.slice pa3_0 pn3_0 pc3_0)), (4, (Str.v x5)), (5, (.pointer (some ⟨w0.heap.size, 0, none⟩))), (12, (.pointer (some ⟨w21.heap.size, 0, none⟩))), (13, (.pointer (some ⟨w80.heap.size, 0, none⟩))), (14, (vI r76)), (16, (.slice (some ⟨w101.heap.size, 0, none⟩) 1 1)), (17, (vI x347))] a ∧ Below w202.heap.size w202 w ∧ inI x347) ?_ ?_
  ·refine Wc z (fun hc352 => ?_) (fun hc352 => ?_)
   ·exact Wg <| Rm z <| R z (add_ z z) <| Ra z <| Wl <| fun _ q => ⟨iadd x4 1, som (ifT hu350 hc352), (q.weaken (s8 z z z z z z z z)), (br w202), (iA _ _)⟩
   exact WC_skip <| fun _ q => ⟨x4, som (ifF hu350 hc352), (q.weaken (s8 z z z z z z z z)), (br w202), p4_0⟩
  rintro a355 w356 ⟨x347, rfl, hS357, s358, h348⟩
  revert a355
  exact fun _ q => ⟨x347, som hm351, (q.weaken (s8 z z z z z z z z)), s358, h348⟩
 rintro a359 w360 ⟨x274, rfl, hS361, s362, h275⟩
 revert a359
 refine Wo <| Wq <| Ws <| Ra z <| Wn ?_
 obtain ⟨u709, hu710, hm711⟩ := bdS hm278
 refine WC_forN (σ := (List Entry) × Int) (ρ := (List Entry) × Int) (fun (k712 : Nat) s a w => un2 (fun x699 x707 => ∃ (a700 : Option Addr) (n701 c702 : Nat) (S704 : List Nat), Sat 98 [(2, (.slice pa3_0 pn3_0 pc3_0)), (4, (Str.v x5)), (5, (.pointer (some ⟨w0.heap.size, 0, none⟩))), (12, (.pointer (some ⟨w21.heap.size, 0, none⟩))), (13, (.pointer (some ⟨w80.heap.size, 0, none⟩))), (14, (vI r76)), (16, (.slice a700 n701 c702)), (17, (vI x707)), (21, (vI ((k712 : Nat) : Int)))] a ∧ Chg (· ∈ [w101.heap.size]) w360 w ∧ ownS w S704 (.slice a700 n701 c702) x699 ∧ S704.Nodup ∧ (∀ k ∈ S704, k ∈ [w101.heap.size] ∨ w360.heap.size ≤ k) ∧ inI x707) s) (fun s a w => un2 (fun x699 x707 => ∃ (a700 : Option Addr) (n701 c702 : Nat) (S704 : List Nat), Sat 98 [(14, (vI r76)), (16, (.slice a700 n701 c702))] a ∧ Chg (· ∈ [w101.heap.size]) w360 w ∧ ownS w S704 (.slice a700 n701 c702) x699 ∧ S704.Nodup ∧ (∀ k ∈ S704, k ∈ [w101.heap.size] ∨ w360.heap.size ≤ k) ∧ inI x707) s) (fun r ex a w => ex = .ret ∧ RetPost Tryz.prog fn (Q_spec_l19Build w0 B r) a w) hu710 ?_ ?_ ?_ ?_ ?_
 ·exact fun _ q => ⟨(some ⟨w101.heap.size, 0, none⟩), 1, 1, [w101.heap.size], (q.weaken (s9 z z z z z z z z z)), (cr [w101.heap.size] w360), (((ownS_new1 h106 (Entry_mkO (x := (⟨x5, x2, x4, r76⟩ : Entry))  p5_0 p2_0 p4_0 h93)).ext s204).ext s362), nd_one, (inor sr), h275⟩
 ·rintro k712 ⟨x699, x707⟩ a715 w716 o717 hk718 ⟨a700, n701, c702, S704, hS719, s720, h703, h705, h706, h708⟩ hm721
  have hm722 := un2S hm721
  refine Wu (e := [(2, (.slice pa3_0 pn3_0 pc3_0)), (4, (Str.v x5)), (5, (.pointer (some ⟨w0.heap.size, 0, none⟩))), (12, (.pointer (some ⟨w21.heap.size, 0, none⟩))), (13, (.pointer (some ⟨w80.heap.size, 0, none⟩))), (14, (vI r76)), (16, (.slice a700 n701 c702)), (17, (vI x707)), (21, (vI ((k712 : Nat) : Int)))]) (N := 98) ?_ hS719
  refine Wq <| Ws <| Rm z <| R z (fd fld_61_2 z) ?_
  have h727 := (((h102.ext h107).ext s204).ext s362).chg s720 (djs (mm1 h100.lt h104.size))
  refine R z (l1 agg_59 z fid (h727.at z)) <| R z (lnR und_59 z (ownS_rep ((((((h91.ext h99).chg h104 (dj_symm (mnr (ownS.lt h91)))).ext h107).ext s204).ext s362).chg s720 (dj_symm (mno (ownS.lt h91) (lt_ h99.size h104.size)))) (ownS.lt h91))) <| R z (lss z z) <| Wn <| Wc z (fun _ => ?_) (fun hc => (nolt hk718 hc).elim)
  refine Wk <| Wq <| WC_block <| Wq <| WC_draw (X := noX) 0 (.rd 0 (.rd 1 (.rd 2 (.rd 3 (.rd 4 (.rd 6 (.rd 7 (.rd 8 (.rd 9 (.rd 10 (.rd 11 (.ef 5 (.ef 12 (.rd 13 (.ef 14 (.rd 15 (.rd 16 (.rd 17 (.rd 18 (.rd 19 .done)))))))))))))))))))) mo (by kernel_rfl) fun w890 s891 _ => ?_
  have h895 := lt_ (lt_ h56.size h61.size) s81.size
  have h904 := ((((((h64.ext s81).ext h99).chg h104 (djs (mm1 h24.lt h895))).ext h107).ext s204).ext s362).chg s720 (djs (mm1 h24.lt (lt_ (lt_ h895 h99.size) h104.size)))
  refine dR z z (lN (vs := [(.slice pa1_0 pn1_0 pc1_0)]) agg_31 size_31 z z fid ((h904.ext s891).row 0 1 z)) ?_
  have h912 := (((h115.ext s204).ext s362).chg s720 (djs (mm1 h57.lt (lt_ (lt_ h112 h99.size) h104.size)))).ext s891
  refine dR z z (lN (vs := [(Str.v x25.name), (vI x25.kind), (vI x25.size), (vB x25.little), (.slice a38 n39 c40), (.slice a42 n43 c44), (.slice a46 n47 c48), (.slice a50 n51 c52)]) agg_82 size_82 z z fid (h912.row 0 8 z)) <| dR z z (fd fld_61_0 z) <| dR z z (l1 agg_3 z fid ((h727.ext s891).at z)) ?_
  iterate 4 refine dR z z (mv z) ?_
  obtain ⟨x914, e915, hm916⟩ := bdS hm722
  refine dR z z (rd_catC z z e915) <| dR z z (lN (vs := [(Str.v x25.name), (vI x25.kind), (vI x25.size), (vB x25.little), (.slice a38 n39 c40), (.slice a42 n43 c44), (.slice a46 n47 c48), (.slice a50 n51 c52)]) agg_82 size_82 z z fid (h912.row 0 8 z)) <| dR z z (mv z) ?_
  have h921 := lt_ h73 s81.size
  have h923 := mem1le (lt_ hBw h921)
  have h929 := lt_ (lt_ h921 h99.size) h104.size
  have h931 := mem1le (lt_ hBw h929)
  have h933 := (((((((((h41.ext h56).chg h61 (ltge h67)).ext s81).ext h99).chg h104 (ltge h923)).ext h107).ext s204).ext s362).chg s720 (ltge h931)).ext s891
  have h943 := (((((((((h45.ext h56).chg h61 (ltge h67)).ext s81).ext h99).chg h104 (ltge h923)).ext h107).ext s204).ext s362).chg s720 (ltge h931)).ext s891
  have h953 := (((((((((h49.ext h56).chg h61 (ltge h67)).ext s81).ext h99).chg h104 (ltge h923)).ext h107).ext s204).ext s362).chg s720 (ltge h931)).ext s891
  have h963 := (((((((((h53.ext h56).chg h61 (ltge h67)).ext s81).ext h99).chg h104 (ltge h923)).ext h107).ext s204).ext s362).chg s720 (ltge h931)).ext s891
  have h968 := lt_ (lt_ (lt_ (lt_ (lt_ h929 h107.size) s204.size) s362.size) s720.size) s891.size
  obtain ⟨r970, e971, hm972⟩ := bdS hm916
  refine dE z z (fc Tryz.call55 z (W_spec_l9Item (B := B) e971 (lt_ hBw h968) h35 h36 h37 h933 h943 h953 h963 h82 (inI_cnt (Nat.le_of_lt hk718) (lt_ (ownS.len h91) LEN_le)))) (.inr fun _ _ h => chgB (h.1)) ?_
  rintro _ w973 ⟨s974, rfl, h975⟩
  have h980 := lt_ h968 s974.size
  obtain ⟨r982, e983, hm984⟩ := bdS hm972
  refine dE z z (fc Tryz.call56 z (W_spec_l18Step (B := B) e983 (lt_ hBw h980) h35 h36 h37 (h933.ext s974) (h943.ext s974) (h953.ext s974) (h963.ext s974) (inI_cnt (Nat.le_of_lt hk718) (lt_ (ownS.len h91) LEN_le)))) (.inr fun _ _ h => chgB (h.1)) ?_
  rintro _ w985 ⟨s986, rfl, h987⟩
  obtain ⟨x988, e989, hm990⟩ := bdS hm984
  refine dR z z (rd_catC z z e989) ?_
  obtain ⟨r1013, r1014, e1015, hm1016⟩ := bd2S hm990
  refine dE z z (fc Tryz.call32 z (ih_spec_l19Build.run (B := B) e1015 (lt_ hBw (lt_ h980 s986.size)) ((((((((((h68.ext s81).ext h99).chg h104 (ltge h923)).ext h107).ext s204).ext s362).chg s720 (ltge h931)).ext s891).ext s974).ext s986) h975 ((((((((((h71.ext s81).ext h99).chg h104 (ltge h923)).ext h107).ext s204).ext s362).chg s720 (ltge h931)).ext s891).ext s974).ext s986) h708 (cat_len e989))) (.inr fun _ _ h => chgB (h.1)) ?_
  rintro _ w1017 ⟨s1018, a1019, n1020, c1021, S1023, rfl, h1022, h1024, h1025, h1026⟩
  refine dR z z (mv z) <| dR z z (ext_ z z) <| dR z z (ext_ z z) <| dR z z (asg z) <| dR z z (asg z) <| PR_done <| Wo <| Ws <| Rm z <| Rm z ?_
  obtain ⟨x1040, e1041, hm1042⟩ := bdS hm1016
  refine E z (ef_appendN (α := Entry) el_39 e1041 z z ((((h703.ext s891).ext s974).ext s986).ext s1018) h705 (ownS.rep h1022)) ?_
  rintro _ w1031 ⟨S1032, a1033, n1034, c1035, rfl, s1036, h1037, h1038, h1039⟩
  refine Ra z <| Wn <| Wg <| Rm z <| Ra z <| Wn <| Wg <| Rm z <| R z (inc_ hk718 (lt_ (ownS.len h91) LEN_le) z z) <| Ra z <| Wl ?_
  have h1047 : ∀ k ∈ S704, k ∈ [w101.heap.size] ∨ w360.heap.size ≤ k := or1 h706 (inor sr) (leor lr)
  have h1048 : ∀ k ∈ S1032, k ∈ [w101.heap.size] ∨ w360.heap.size ≤ k := or1 h1039 h1047 (leor (lt_ (lt_ (lt_ (lt_ s720.size s891.size) s974.size) s986.size) s1018.size))
  have h1049 : Chg (· ∈ [w101.heap.size]) w360 w716 := cM (cr [w101.heap.size] w360) s720 (inor sr)
  have h1050 : Chg (· ∈ [w101.heap.size]) w360 w890 := cext h1049 s891
  have h1051 : Chg (· ∈ [w101.heap.size]) w360 w973 := cext h1050 s974
  have h1052 : Chg (· ∈ [w101.heap.size]) w360 w985 := cext h1051 s986
  have h1053 : Chg (· ∈ [w101.heap.size]) w360 w1017 := cext h1052 s1018
  have h1054 : Chg (· ∈ [w101.heap.size]) w360 w1031 := cM h1053 s1036 h1047
  exact fun _ q => ⟨(x1040, r1014), (som hm1042).symm, ⟨a1033, n1034, c1035, S1032, (q.weaken (s9 z z z z z z z z z)), h1054, h1037, h1038, h1048, h1024⟩⟩
 ·rintro ⟨x699, x707⟩ a1055 w1056 ⟨a700, n701, c702, S704, hS1057, s1058, h703, h705, h706, h708⟩
  refine Wu (e := [(2, (.slice pa3_0 pn3_0 pc3_0)), (4, (Str.v x5)), (5, (.pointer (some ⟨w0.heap.size, 0, none⟩))), (12, (.pointer (some ⟨w21.heap.size, 0, none⟩))), (13, (.pointer (some ⟨w80.heap.size, 0, none⟩))), (14, (vI r76)), (16, (.slice a700 n701 c702)), (17, (vI x707)), (21, (vI ((r75.items.length : Nat) : Int)))]) (N := 98) ?_ hS1057
  refine Wq <| Ws <| Rm z <| R z (fd fld_61_2 z) <| R z (l1 agg_59 z fid (((((h102.ext h107).ext s204).ext s362).chg s1058 (djs (mm1 h100.lt h104.size))).at z)) <| R z (lnR und_59 z (ownS_rep ((((((h91.ext h99).chg h104 (dj_symm (mnr (ownS.lt h91)))).ext h107).ext s204).ext s362).chg s1058 (dj_symm (mno (ownS.lt h91) (lt_ h99.size h104.size)))) (ownS.lt h91))) <| R z (lss z z) <| Wn <| Wc z (fun hc => (noltt hc).elim) (fun _ => ?_)
  have h1075 : ∀ k ∈ S704, k ∈ [w101.heap.size] ∨ w360.heap.size ≤ k := or1 h706 (inor sr) (leor lr)
  have h1076 : Chg (· ∈ [w101.heap.size]) w360 w1056 := cM (cr [w101.heap.size] w360) s1058 (inor sr)
  exact WC_exit (fun a' ha' => ⟨rfl, ⟨a700, n701, c702, S704, (Sat.weaken ha' (s2 z z)), h1076, h703, h705, h1075, h708⟩⟩)
 ·rintro ⟨x699, x707⟩ a1077 w1078 rfl ⟨a700, n701, c702, S704, hS1079, s1080, h703, h705, h706, h708⟩
  have hm1081 := elL hm711
  have hm1082 := un2S hm1081
  revert a1077
  refine Wo <| Ws <| Rm z <| Rm z <| Ra z <| Ra z <| Wn ?_
  obtain rfl := som hm1082
  have h1088 := lt_ h73 s81.size
  have h1095 := lt_ (lt_ h1088 h99.size) h104.size
  have h1096 := mem1le h1095
  exact Wr (ret2 hr z z ⟨(bM (bup (bup (bup (bM (bup (bup (bM (bup h23 h56) h61 (mem1le h23.size)) s81) h99) h104 (mem1le h1088)) h107) s204) s362) s1080 h1096), a700, n701, c702, S704, z, h703, h93, h705, (o1le h706 h1096 (lt_ (lt_ (lt_ h1095 h107.size) s204.size) s362.size))⟩)
 rintro r1102 ex1103 a1104 w1105 rfl ⟨rfl, hq1106⟩
 have hm1107 := elR hm711
 obtain rfl := som hm1107
 exact ⟨hq1106, z⟩
theorem A_spec_l19Build : ∀ n, S_spec_l19Build n
  | 0 => ⟨fun hm => by intros; exact nomatch (show none = some _ from hm)⟩
  | n + 1 => by
    have ih := A_spec_l19Build n
    have i0 := ih
    exact ⟨fun hm => T_spec_l19Build i0 hm⟩
theorem W_spec_l19Build : ∀ {x1 : Desc} {x2 : Int} {x3 : List UInt8} {x4 : Int} {x5 : Str} {res : (List Entry) × Int} (hm : (F_spec_l19Build n).spec_l19Build x1 x2 x3 x4 x5 = some res) (hBw : B ≤ w0.heap.size) (p1_0 : repS w0 B (.slice pa1_0 pn1_0 pc1_0) x1.rules) (p2_0 : inI x2) (p3_0 : repS w0 B (.slice pa3_0 pn3_0 pc3_0) x3) (p4_0 : inI x4) (p5_0 : x5.b.length ≤ LEN), CallsR Tryz.prog 32 [(.agg #[(.slice pa1_0 pn1_0 pc1_0)]), (vI x2), (.slice pa3_0 pn3_0 pc3_0), (vI x4), (Str.v x5)] w0 (Q_spec_l19Build w0 B res) := (A_spec_l19Build n).run

def Q_spec_BuildIndex (w0 : World) (B : Nat) (r : (List Entry) × Bool) (v : Value) (w' : World) : Prop := Below w0.heap.size w0 w' ∧ un2 (fun r1 r2 => ∃ (a1 : Option Addr) (n1 c1 : Nat) (S1 : List Nat), v = .tuple #[(.slice a1 n1 c1), (vB r2)] ∧ ownS w' S1 (.slice a1 n1 c1) r1 ∧ S1.Nodup ∧ (∀ k ∈ S1, w0.heap.size ≤ k)) r
theorem W_spec_BuildIndex {x1 : Desc} {x2 : List UInt8} {res : (List Entry) × Bool} (hm : M_spec_BuildIndex n x1 x2 = some res) (hBw : B ≤ w0.heap.size) (p1_0 : repS w0 B (.slice pa1_0 pn1_0 pc1_0) x1.rules) (p2_0 : repS w0 B (.slice pa2_0 pn2_0 pc2_0) x2) : CallsR Tryz.prog 15 [(.agg #[(.slice pa1_0 pn1_0 pc1_0)]), (.slice pa2_0 pn2_0 pc2_0)] w0 (Q_spec_BuildIndex w0 B res) := by
 unfold M_spec_BuildIndex at hm
 obtain ⟨fn, hf, hb, hN, hr⟩ := fnE Tryz.func15
 refine goW hf (hb.trans z) (hN.trans z) (lb z) <| Ws <| E z (fb z) ?_
 rintro _ w21 ⟨rfl, h22⟩
 have h23 := h22.below
 have h24 : Blk w21 w0.heap.size [(.slice pa1_0 pn1_0 pc1_0)] := h22.blk
 refine Ra z <| Ra z <| Wn <| Wq <| Ws <| R z (lN (vs := [(.slice pa1_0 pn1_0 pc1_0)]) agg_31 size_31 z z fid (h24.row 0 1 z)) <| Rm z ?_
 have h25 := p1_0.ext h23
 have h26 := p2_0.ext h23
 obtain ⟨r28, e29, hm30⟩ := bdS hm
 refine E z (fc Tryz.call23 z (W_spec_IsFileOf (B := B) e29 (lt_ hBw h23.size) h25 h26)) ?_
 rintro _ w31 ⟨s32, rfl⟩
 refine R z (not_ z) <| Wn <| Wc z (fun hc47 => ?_) (fun hc47 => ?_)
 ·refine Ws <| E z (ef_lit0 (α := Entry) el_39) ?_
  rintro _ w49 ⟨a50, n51, c52, rfl, s53, h54⟩
  refine Ra z <| Ra z <| Wn ?_
  obtain rfl := som (ifT hm30 hc47)
  exact Wr (ret2 hr z z ⟨(bup (bup h23 s32) s53), a50, n51, c52, [w31.heap.size], z, h54, nd_one, (mem1le (lt_ h23.size s32.size))⟩)
 refine Wk <| Wq <| WC_draw (X := noX) 0 (.rd 0 (.rd 1 (.rd 3 (.ef 2 (.ef 4 (.rd 5 (.rd 6 (.rd 7 (.rd 8 (.rd 9 .done)))))))))) mo (by kernel_rfl) fun w60 s61 _ => ?_
 have h63 := (h24.ext s32).ext s61
 refine dR z z (lN (vs := [(.slice pa1_0 pn1_0 pc1_0)]) agg_31 size_31 z z fid (h63.row 0 1 z)) <| dR z z (lN (vs := [(.slice pa1_0 pn1_0 pc1_0)]) agg_31 size_31 z z fid (h63.row 0 1 z)) <| dR z z (mv z) ?_
 have h65 := (h25.ext s32).ext s61
 have h67 := lt_ (lt_ h23.size s32.size) s61.size
 obtain ⟨r69, e70, hm71⟩ := bdS (ifF hm30 hc47)
 refine dE z z (fc Tryz.call33 z (W_spec_RootOf (B := B) e70 (lt_ hBw h67) h65)) (.inr fun _ _ h => chgB (h.1)) ?_
 rintro _ w72 ⟨s73, rfl, h74⟩
 have h79 := lt_ h67 s73.size
 obtain ⟨r81, r82, e83, hm84⟩ := bd2S hm71
 refine dE z z (fc Tryz.call32 z (W_spec_l19Build (B := B) e83 (lt_ hBw h79) (h65.ext s73) h74 (((h26.ext s32).ext s61).ext s73) (ii z) (lb z))) (.inr fun _ _ h => chgB (h.1)) ?_
 rintro _ w85 ⟨s86, a87, n88, c89, S91, rfl, h90, h92, h93, h94⟩
 refine dR z z (mv z) <| dR z z (ext_ z z) <| dR z z (ext_ z z) <| dR z z (asg z) <| dR z z (asg z) <| PR_done <| Wo <| Ws <| Rm z <| Ra z <| Ra z <| Wn ?_
 obtain rfl := som hm84
 exact Wr (ret2 hr z z ⟨(bup (bup (bup (bup h23 s32) s61) s73) s86), a87, n88, c89, S91, z, h90, h93, (o0le h94 h79)⟩)
def Q_impl_RootOf (w0 : World) (B : Nat) (r : Int) (v : Value) (w' : World) : Prop := Below w0.heap.size w0 w' ∧ (fun r1 => (vI r1) = v ∧ inI r1) r
theorem W_impl_RootOf {x1 : Desc} {res : Int} (hm : M_impl_RootOf x1 = some res) (hBw : B ≤ w0.heap.size) (p1_0 : repS w0 B (.slice pa1_0 pn1_0 pc1_0) x1.rules) : CallsR Tryz.prog 36 [(.agg #[(.slice pa1_0 pn1_0 pc1_0)])] w0 (Q_impl_RootOf w0 B res) := by
 unfold M_impl_RootOf at hm
 obtain ⟨fn, hf, hb, hN, hr⟩ := fnE Tryz.func36
 refine goW hf (hb.trans z) (hN.trans z) (lb z) <| Ws <| E z (fb z) ?_
 rintro _ w21 ⟨rfl, h22⟩
 have h23 := h22.below
 have h24 : Blk w21 w0.heap.size [(.slice pa1_0 pn1_0 pc1_0)] := h22.blk
 refine Ra z <| Wn <| Ws <| R z (fd fld_31_0 z) <| R z (l1 agg_29 z fid (h24.at z)) <| R z (lnR und_29 z (p1_0.ext h23)) <| R z (rd_sub z z) <| Ra z <| Wn ?_
 obtain rfl := som hm
 exact Wr (ret1 hr z ⟨h23, z, (iS _ _)⟩)
def Q_impl_InRange (w0 : World) (B : Nat) (r : Bool) (v : Value) (w' : World) : Prop := Below w0.heap.size w0 w' ∧ (fun r1 => (vB r1) = v) r
theorem W_impl_InRange {x1 : Int} {x2 : Int} {x3 : Int} {res : Bool} (hm : M_impl_InRange x1 x2 x3 = some res) (hBw : B ≤ w0.heap.size) (p1_0 : inI x1) (p2_0 : inI x2) (p3_0 : inI x3) : CallsR Tryz.prog 81 [(vI x1), (vI x2), (vI x3)] w0 (Q_impl_InRange w0 B res) := by
 unfold M_impl_InRange at hm
 obtain ⟨fn, hf, hb, hN, hr⟩ := fnE Tryz.func81
 refine goW hf (hb.trans z) (hN.trans z) (lb z) <| Ws <| Ra z <| Wn <| Wq ?_
 obtain ⟨u25, hu26, hm27⟩ := bdS hm
 refine WC_cut (fun a w => ∃ (x24 : Bool), x24 = u25 ∧ Sat 15 [(6, (vB x24))] a ∧ Below w0.heap.size w0 w) ?_ ?_
 ·refine Wg <| Rm z <| Rm z <| R z (rd_leq z z) <| Rm z ?_
  rcases bsplit (decide (x2 ≤ x1)) with hc28 | hc28
  ·exact Rh z hc28 (mv z) <| Rh z hc28 (mv z) <| Rh z hc28 (rd_leq z z) <| R z (pT z hc28 z) <| Ra z <| Wl <| fun _ q => ⟨decide (x1 ≤ x3), som (ifT hu26 hc28), (q.weaken (s1 z)), (br w0)⟩
  iterate 3 refine Nh z hc28 ?_
  exact R z (pF z hc28 z) <| Ra z <| Wl <| fun _ q => ⟨false, som (ifF hu26 hc28), (q.weaken (s1 z)), (br w0)⟩
 rintro a31 w32 ⟨x24, rfl, hS33, s34⟩
 revert a31
 refine Wo ?_
 obtain rfl := som hm27
 exact Wr (ret1 hr z ⟨s34, z⟩)
def Q_impl_hasRule (w0 : World) (B : Nat) (r : Bool) (v : Value) (w' : World) : Prop := Below w0.heap.size w0 w' ∧ (fun r1 => (vB r1) = v) r
theorem W_impl_hasRule {x1 : Desc} {x2 : Int} {res : Bool} (hm : M_impl_hasRule x1 x2 = some res) (hBw : B ≤ w0.heap.size) (p1_0 : repS w0 B (.slice pa1_0 pn1_0 pc1_0) x1.rules) (p2_0 : inI x2) : CallsR Tryz.prog 103 [(.agg #[(.slice pa1_0 pn1_0 pc1_0)]), (vI x2)] w0 (Q_impl_hasRule w0 B res) := by
 unfold M_impl_hasRule at hm
 obtain ⟨fn, hf, hb, hN, hr⟩ := fnE Tryz.func103
 refine goW hf (hb.trans z) (hN.trans z) (lb z) <| Ws <| E z (fb z) ?_
 rintro _ w21 ⟨rfl, h22⟩
 have h23 := h22.below
 have h24 : Blk w21 w0.heap.size [(.slice pa1_0 pn1_0 pc1_0)] := h22.blk
 refine Ra z <| Wn <| Wq ?_
 obtain ⟨u30, hu31, hm32⟩ := bdS hm
 refine WC_cut (fun a w => ∃ (x29 : Bool), x29 = u30 ∧ Sat 14 [(4, (vB x29))] a ∧ Below w21.heap.size w21 w) ?_ ?_
 ·refine Wg <| Rm z <| R z (rd_geq z z) <| Rm z ?_
  rcases bsplit (decide (0 ≤ x2)) with hc33 | hc33
  ·exact Rh z hc33 (mv z) <| Rh z hc33 (fd fld_31_0 z) <| Rh z hc33 (l1 agg_29 z fid (h24.at z)) <| Rh z hc33 (lnR und_29 z (p1_0.ext h23)) <| Rh z hc33 (lss z z) <| R z (pT z hc33 z) <| Ra z <| Wl <| fun _ q => ⟨decide (x2 < (x1.rules.length : Int)), som (ifT hu31 hc33), (q.weaken (s1 z)), (br w21)⟩
  iterate 5 refine Nh z hc33 ?_
  exact R z (pF z hc33 z) <| Ra z <| Wl <| fun _ q => ⟨false, som (ifF hu31 hc33), (q.weaken (s1 z)), (br w21)⟩
 rintro a37 w38 ⟨x29, rfl, hS39, s40⟩
 revert a37
 refine Wo ?_
 obtain rfl := som hm32
 exact Wr (ret1 hr z ⟨(bup h23 s40), z⟩)
def Q_impl_IsName (w0 : World) (B : Nat) (r : Bool) (v : Value) (w' : World) : Prop := Below w0.heap.size w0 w' ∧ (fun r1 => (vB r1) = v) r
theorem W_impl_IsName {x1 : Str} {res : Bool} (hm : M_impl_IsName n x1 = some res) (hBw : B ≤ w0.heap.size) (p1_0 : x1.b.length ≤ LEN) : CallsR Tryz.prog 101 [(Str.v x1)] w0 (Q_impl_IsName w0 B res) := by
 unfold M_impl_IsName at hm
 obtain ⟨fn, hf, hb, hN, hr⟩ := fnE Tryz.func101
 refine goW hf (hb.trans z) (hN.trans z) (lb z) <| Ws <| Ra z <| Wn <| Wq <| Wq ?_
 obtain ⟨u25, hu26, hm27⟩ := bdS hm
 refine WC_cut (fun a w => ∃ (x24 : Bool), x24 = u25 ∧ Sat 43 [(0, (Str.v x1)), (14, (vB x24))] a ∧ Below w0.heap.size w0 w) ?_ ?_
 ·refine Wg <| Rm z <| R z (rd_lenT und_9 z) <| R z (lss z z) <| Rm z ?_
  rcases bsplit (decide ((x1.b.length : Int) < 1)) with hc28 | hc28
  ·iterate 3 refine Nh z hc28 ?_
   exact R z (pT z hc28 z) <| Wl <| fun _ q => ⟨true, som (ifT hu26 hc28), (q.weaken (s2 z z)), (br w0)⟩
  exact Rh z hc28 (mv z) <| Rh z hc28 (rd_lenT und_9 z) <| Rh z hc28 (rd_gtr z z) <| R z (pF z hc28 z) <| Wl <| fun _ q => ⟨decide (12 < (x1.b.length : Int)), som (ifF hu26 hc28), (q.weaken (s2 z z)), (br w0)⟩
 rintro a31 w32 ⟨x24, rfl, hS33, s34⟩
 revert a31
 refine Wo <| Wc z (fun hc39 => ?_) (fun hc39 => ?_)
 ·refine Ws <| Ra z <| Wn ?_
  obtain rfl := som (ifT hm27 hc39)
  exact Wr (ret1 hr z ⟨s34, z⟩)
 refine Wk <| Wq <| Ws <| Rm z <| E z (ef_range und_9 z) ?_
 rintro _ w42 ⟨rfl, s43, h44⟩
 refine Wn ?_
 obtain ⟨u122, hu123, hm124⟩ := bdS (ifF hm27 hc39)
 refine WC_iter (σ := Nat) (ρ := Bool) (fun (x120 : Nat) a w => Sat 43 [(16, (.pointer (some ⟨w32.heap.size, 0, none⟩)))] a ∧ Chg (· ∈ [w32.heap.size]) w42 w ∧ IterAt w w32.heap.size x1 x120) (fun (x120 : Nat) a w => Sat 43 [] a ∧ Chg (· ∈ [w32.heap.size]) w42 w ∧ IterAt w w32.heap.size x1 x120) (fun r ex a w => ex = .ret ∧ RetPost Tryz.prog fn (Q_impl_IsName w0 B r) a w) hu123 ?_ ?_ ?_ ?_
 ·exact fun _ q => ⟨(q.weaken (s1 z)), (cr [w32.heap.size] w42), h44⟩
 ·rintro x120 a126 w127 o128 ⟨hS130, s131, h121⟩ hm132
  refine Wu (e := [(16, (.pointer (some ⟨w32.heap.size, 0, none⟩)))]) (N := 43) ?_ hS130
  refine Ws ?_
  rcases bsplit (decide (x120 < x1.b.length)) with hc133 | hc133
  ·refine E z (ef_nextT z h121 (of_decide_eq_true hc133)) ?_
   rintro _ w135 ⟨rfl, h136, s137⟩
   refine R z (ext_ z z) <| Wn <| Wq <| Wc z (fun _ => ?_) (fun hc => (bcon z hc).elim)
   refine Wk <| WC_block <| Ws <| R z (ext_ z z) <| R z (ext_ z z) <| Ra z <| Ra z <| Wn <| Wq ?_
   obtain ⟨u169, hu170, hm171⟩ := bdS (ifT hm132 hc133)
   refine WC_cut (fun a w => ∃ (x168 : Bool), x168 = u169 ∧ Sat 43 [(3, (vI (x120 : Int))), (4, (.int .i32 ((dec x1 x120).1))), (5, (vB x168)), (16, (.pointer (some ⟨w32.heap.size, 0, none⟩)))] a ∧ Below w135.heap.size w135 w) ?_ ?_
   ·refine Wg <| Rm z <| R z (rd_geq z z) <| Rm z ?_
    rcases bsplit (decide (97 ≤ ((dec x1 x120).1))) with hc172 | hc172
    ·exact Rh z hc172 (mv z) <| Rh z hc172 (rd_leq z z) <| R z (pT z hc172 z) <| Ra z <| Wl <| fun _ q => ⟨decide (((dec x1 x120).1) ≤ 122), som (ifT hu170 hc172), (q.weaken (s4 z z z z)), (br w135)⟩
    exact Nh z hc172 <| Nh z hc172 <| R z (pF z hc172 z) <| Ra z <| Wl <| fun _ q => ⟨false, som (ifF hu170 hc172), (q.weaken (s4 z z z z)), (br w135)⟩
   rintro a175 w176 ⟨x168, rfl, hS177, s178⟩
   revert a175
   refine Wo <| Wq ?_
   obtain ⟨u183, hu184, hm185⟩ := bdS hm171
   refine WC_cut (fun a w => ∃ (x182 : Bool), x182 = u183 ∧ Sat 43 [(3, (vI (x120 : Int))), (5, (vB x168)), (6, (vB x182)), (16, (.pointer (some ⟨w32.heap.size, 0, none⟩)))] a ∧ Below w176.heap.size w176 w) ?_ ?_
   ·refine Wg <| Rm z <| R z (rd_geq z z) <| Rm z ?_
    rcases bsplit (decide (48 ≤ ((dec x1 x120).1))) with hc186 | hc186
    ·exact Rh z hc186 (mv z) <| Rh z hc186 (rd_leq z z) <| R z (pT z hc186 z) <| Ra z <| Wl <| fun _ q => ⟨decide (((dec x1 x120).1) ≤ 57), som (ifT hu184 hc186), (q.weaken (s4 z z z z)), (br w176)⟩
    exact Nh z hc186 <| Nh z hc186 <| R z (pF z hc186 z) <| Ra z <| Wl <| fun _ q => ⟨false, som (ifF hu184 hc186), (q.weaken (s4 z z z z)), (br w176)⟩
   rintro a189 w190 ⟨x182, rfl, hS191, s192⟩
   revert a189
   refine Wo <| Wq ?_
   obtain ⟨u200, hu201, hm202⟩ := bdS hm185
   refine WC_cut (fun a w => ∃ (x199 : Bool), x199 = u200 ∧ Sat 43 [(16, (.pointer (some ⟨w32.heap.size, 0, none⟩))), (42, (vB x199))] a ∧ Below w190.heap.size w190 w) ?_ ?_
   ·refine Wg <| Rm z <| R z (not_ z) <| Rm z ?_
    rcases bsplit (!x168) with hc203 | hc203
    ·have hm204 := ifT hu201 hc203
     refine Rh z hc203 (mv z) <| Rh z hc203 (not_ z) <| Rh z hc203 (mv z) ?_
     rcases bsplit (!x182) with hc205 | hc205
     ·exact Nh z hc205 <| Nh z hc205 <| Rh z hc203 (pT z hc205 z) <| R z (pT z hc203 z) <| Wl <| fun _ q => ⟨true, som (ifT hm204 hc205), (q.weaken (s2 z z)), (br w190)⟩
     exact Rh z hc205 (mv z) <| Rh z hc205 (eql z z) <| Rh z hc203 (pF z hc205 z) <| R z (pT z hc203 z) <| Wl <| fun _ q => ⟨(x120 : Int) == 0, som (ifF hm204 hc205), (q.weaken (s2 z z)), (br w190)⟩
    iterate 3 refine Nh z hc203 ?_
    exact Nv z <| Nv z <| Nh z hc203 <| R z (pF z hc203 z) <| Wl <| fun _ q => ⟨false, som (ifF hu201 hc203), (q.weaken (s2 z z)), (br w190)⟩
   rintro a209 w210 ⟨x199, rfl, hS211, s212⟩
   revert a209
   refine Wo <| Wc z (fun hc224 => ?_) (fun hc224 => ?_)
   ·refine Ws <| Ra z <| Wn ?_
    have h227 := mem1le s34.size
    exact Wr (rtO (QO_retL (som (ifT hm202 hc224)).symm (ret1 hr z ⟨(bup (bup (bup (bM (bM (bup s34 s43) s131 h227) s137 h227) s178) s192) s212), z⟩)))
   refine WC_skip ?_
   have h237 : Chg (· ∈ [w32.heap.size]) w42 w127 := cM (cr [w32.heap.size] w42) s131 (inor sr)
   have h238 : Chg (· ∈ [w32.heap.size]) w42 w135 := cM h237 s137 (inor sr)
   have h239 : Chg (· ∈ [w32.heap.size]) w42 w176 := cext h238 s178
   have h240 : Chg (· ∈ [w32.heap.size]) w42 w190 := cext h239 s192
   have h241 : Chg (· ∈ [w32.heap.size]) w42 w210 := cext h240 s212
   exact fun _ q => ⟨x120 + (dec x1 x120).2, (som (ifF hm202 hc224)).symm, ⟨(q.weaken (s1 z)), h241, (((h136.ext s178).ext s192).ext s212)⟩⟩
  refine E z (ef_nextF z h121 (of_decide_eq_false hc133)) ?_
  rintro _ w243 ⟨rfl, s245⟩
  refine R z (ext_ z z) <| Wn <| Wq <| Wc z (fun hc => (bcon hc z).elim) (fun _ => ?_)
  have h251 : Chg (· ∈ [w32.heap.size]) w42 w127 := cM (cr [w32.heap.size] w42) s131 (inor sr)
  have h252 : Chg (· ∈ [w32.heap.size]) w42 w243 := cext h251 s245
  exact WC_exit (fun a' ha' => QO_brk (som (ifF hm132 hc133)).symm ⟨(Sat.weaken ha' sn), h252, (h121.ext s245)⟩)
 ·rintro x120 a253 w254 rfl ⟨hS255, s256, h121⟩
  have hm257 := elL hm124
  revert a253
  refine Wo <| Ws <| Ra z <| Wn ?_
  obtain rfl := som hm257
  exact Wr (ret1 hr z ⟨(bM (bup s34 s43) s256 (mem1le s34.size)), z⟩)
 rintro r261 ex262 a263 w264 rfl ⟨rfl, hq265⟩
 have hm266 := elR hm124
 obtain rfl := som hm266
 exact ⟨hq265, z⟩
def Q_impl_plainRule (w0 : World) (B : Nat) (r : Bool) (v : Value) (w' : World) : Prop := Below w0.heap.size w0 w' ∧ (fun r1 => (vB r1) = v) r
theorem W_impl_plainRule {x1 : Rule} {x2 : Bool} {x3 : Bool} {x4 : Bool} {x5 : Bool} {x6 : Int} {res : Bool} (hm : M_impl_plainRule x1 x2 x3 x4 x5 x6 = some res) (hBw : B ≤ w0.heap.size) (p1_0 : x1.name.b.length ≤ LEN) (p1_1 : inI x1.kind) (p1_2 : inI x1.size) (p1_4 : repS w0 B (.slice pa1_4 pn1_4 pc1_4) x1.bytes) (p1_5 : repS w0 B (.slice pa1_5 pn1_5 pc1_5) x1.names) (p1_6 : repS w0 B (.slice pa1_6 pn1_6 pc1_6) x1.tags) (p1_7 : repS w0 B (.slice pa1_7 pn1_7 pc1_7) x1.kids) (p6_0 : inI x6) : CallsR Tryz.prog 137 [(.agg #[(Str.v x1.name), (vI x1.kind), (vI x1.size), (vB x1.little), (.slice pa1_4 pn1_4 pc1_4), (.slice pa1_5 pn1_5 pc1_5), (.slice pa1_6 pn1_6 pc1_6), (.slice pa1_7 pn1_7 pc1_7)]), (vB x2), (vB x3), (vB x4), (vB x5), (vI x6)] w0 (Q_impl_plainRule w0 B res) := by
 unfold M_impl_plainRule at hm
 obtain ⟨fn, hf, hb, hN, hr⟩ := fnE Tryz.func137
 refine goW hf (hb.trans z) (hN.trans z) (lb z) <| Ws <| E z (fb z) ?_
 rintro _ w21 ⟨rfl, h22⟩
 have h23 := h22.below
 have h24 : Blk w21 w0.heap.size [(Str.v x1.name), (vI x1.kind), (vI x1.size), (vB x1.little), (.slice pa1_4 pn1_4 pc1_4), (.slice pa1_5 pn1_5 pc1_5), (.slice pa1_6 pn1_6 pc1_6), (.slice pa1_7 pn1_7 pc1_7)] := h22.blk
 refine Ra z <| Wn <| Wq ?_
 obtain ⟨u194, hu195, hm196⟩ := bdS hm
 refine WC_cut (fun a w => ∃ (x193 : Bool), x193 = u194 ∧ Sat 57 [(12, (vB x193))] a ∧ Below w21.heap.size w21 w) ?_ ?_
 ·refine Wg <| Rm z <| Rm z ?_
  rcases bsplit x2 with hc197 | hc197
  ·have hm198 := ifT hu195 hc197
   iterate 3 refine Nh z hc197 ?_
   refine R z (pT z hc197 z) <| Rm z <| Rh z z (mv z) <| Rh z z (mv z) ?_
   rcases bsplit x3 with hc199 | hc199
   ·have hm200 := ifT hm198 hc199
    iterate 4 refine Nh z hc199 ?_
    refine Rh z z (pT z hc199 z) <| R z (pT z z z) <| Rm z <| Rh z z (mv z) <| Rh z z (mv z) ?_
    rcases bsplit x4 with hc201 | hc201
    ·have hm202 := ifT hm200 hc201
     iterate 4 refine Nh z hc201 ?_
     refine Rh z z (pT z hc201 z) <| R z (pT z z z) <| Rm z <| Rh z z (mv z) <| Rh z z (mv z) ?_
     rcases bsplit x5 with hc203 | hc203
     ·have hm204 := ifT hm202 hc203
      iterate 4 refine Nh z hc203 ?_
      refine Rh z z (pT z hc203 z) <| R z (pT z z z) <| Rm z <| Rh z z (mv z) <| Rh z z (lss z z) <| Rh z z (mv z) ?_
      rcases bsplit (decide (x6 < 0)) with hc205 | hc205
      ·iterate 5 refine Nh z hc205 ?_
       exact Rh z z (pT z hc205 z) <| R z (pT z z z) <| Ra z <| Wl <| fun _ q => ⟨true, som (ifT hm204 hc205), (q.weaken (s1 z)), (br w21)⟩
      exact Rh z hc205 (fd fld_82_7 z) <| Rh z hc205 (l1 agg_73 z fid (h24.at z)) <| Rh z hc205 (lnR und_73 z (p1_7.ext h23)) <| Rh z hc205 (mv z) <| Rh z hc205 (eql z z) <| Rh z z (pF z hc205 z) <| R z (pT z z z) <| Ra z <| Wl <| fun _ q => ⟨(x1.kids.length : Int) == x6, som (ifF hm204 hc205), (q.weaken (s1 z)), (br w21)⟩
     have hm209 := ifF hm202 hc203
     refine Rh z hc203 (fd fld_82_6 z) <| Rh z hc203 (l1 agg_73 z fid (h24.at z)) <| Rh z hc203 (lnR und_73 z (p1_6.ext h23)) <| Rh z hc203 (eql z z) <| Rh z z (pF z hc203 z) <| R z (pT z z z) <| Rm z ?_
     rcases bsplit ((x1.tags.length : Int) == 0) with hc211 | hc211
     ·have hm212 := ifT hm209 hc211
      refine Rh z hc211 (mv z) <| Rh z hc211 (lss z z) <| Rh z hc211 (mv z) ?_
      rcases bsplit (decide (x6 < 0)) with hc213 | hc213
      ·iterate 5 refine Nh z hc213 ?_
       exact Rh z hc211 (pT z hc213 z) <| R z (pT z hc211 z) <| Ra z <| Wl <| fun _ q => ⟨true, som (ifT hm212 hc213), (q.weaken (s1 z)), (br w21)⟩
      exact Rh z hc213 (fd fld_82_7 z) <| Rh z hc213 (l1 agg_73 z fid (h24.at z)) <| Rh z hc213 (lnR und_73 z (p1_7.ext h23)) <| Rh z hc213 (mv z) <| Rh z hc213 (eql z z) <| Rh z hc211 (pF z hc213 z) <| R z (pT z hc211 z) <| Ra z <| Wl <| fun _ q => ⟨(x1.kids.length : Int) == x6, som (ifF hm212 hc213), (q.weaken (s1 z)), (br w21)⟩
     iterate 3 refine Nh z hc211 ?_
     exact Nv z <| Nv z <| Nv z <| Nv z <| Nv z <| Nh z hc211 <| R z (pF z hc211 z) <| Ra z <| Wl <| fun _ q => ⟨false, som (ifF hm209 hc211), (q.weaken (s1 z)), (br w21)⟩
    have hm218 := ifF hm200 hc201
    refine Rh z hc201 (fd fld_82_5 z) <| Rh z hc201 (l1 agg_72 z fid (h24.at z)) <| Rh z hc201 (lnR und_72 z (p1_5.ext h23)) <| Rh z hc201 (eql z z) <| Rh z z (pF z hc201 z) <| R z (pT z z z) <| Rm z ?_
    rcases bsplit ((x1.names.length : Int) == 0) with hc220 | hc220
    ·have hm221 := ifT hm218 hc220
     refine Rh z hc220 (mv z) <| Rh z hc220 (mv z) ?_
     rcases bsplit x5 with hc222 | hc222
     ·have hm223 := ifT hm221 hc222
      iterate 4 refine Nh z hc222 ?_
      refine Rh z hc220 (pT z hc222 z) <| R z (pT z hc220 z) <| Rm z <| Rh z z (mv z) <| Rh z z (lss z z) <| Rh z z (mv z) ?_
      rcases bsplit (decide (x6 < 0)) with hc224 | hc224
      ·iterate 5 refine Nh z hc224 ?_
       exact Rh z z (pT z hc224 z) <| R z (pT z z z) <| Ra z <| Wl <| fun _ q => ⟨true, som (ifT hm223 hc224), (q.weaken (s1 z)), (br w21)⟩
      exact Rh z hc224 (fd fld_82_7 z) <| Rh z hc224 (l1 agg_73 z fid (h24.at z)) <| Rh z hc224 (lnR und_73 z (p1_7.ext h23)) <| Rh z hc224 (mv z) <| Rh z hc224 (eql z z) <| Rh z z (pF z hc224 z) <| R z (pT z z z) <| Ra z <| Wl <| fun _ q => ⟨(x1.kids.length : Int) == x6, som (ifF hm223 hc224), (q.weaken (s1 z)), (br w21)⟩
     have hm228 := ifF hm221 hc222
     refine Rh z hc222 (fd fld_82_6 z) <| Rh z hc222 (l1 agg_73 z fid (h24.at z)) <| Rh z hc222 (lnR und_73 z (p1_6.ext h23)) <| Rh z hc222 (eql z z) <| Rh z hc220 (pF z hc222 z) <| R z (pT z hc220 z) <| Rm z ?_
     rcases bsplit ((x1.tags.length : Int) == 0) with hc230 | hc230
     ·have hm231 := ifT hm228 hc230
      refine Rh z hc230 (mv z) <| Rh z hc230 (lss z z) <| Rh z hc230 (mv z) ?_
      rcases bsplit (decide (x6 < 0)) with hc232 | hc232
      ·iterate 5 refine Nh z hc232 ?_
       exact Rh z hc230 (pT z hc232 z) <| R z (pT z hc230 z) <| Ra z <| Wl <| fun _ q => ⟨true, som (ifT hm231 hc232), (q.weaken (s1 z)), (br w21)⟩
      exact Rh z hc232 (fd fld_82_7 z) <| Rh z hc232 (l1 agg_73 z fid (h24.at z)) <| Rh z hc232 (lnR und_73 z (p1_7.ext h23)) <| Rh z hc232 (mv z) <| Rh z hc232 (eql z z) <| Rh z hc230 (pF z hc232 z) <| R z (pT z hc230 z) <| Ra z <| Wl <| fun _ q => ⟨(x1.kids.length : Int) == x6, som (ifF hm231 hc232), (q.weaken (s1 z)), (br w21)⟩
     iterate 3 refine Nh z hc230 ?_
     exact Nv z <| Nv z <| Nv z <| Nv z <| Nv z <| Nh z hc230 <| R z (pF z hc230 z) <| Ra z <| Wl <| fun _ q => ⟨false, som (ifF hm228 hc230), (q.weaken (s1 z)), (br w21)⟩
    refine Nh z hc220 <| Nh z hc220 <| Nv z <| Nv z <| Nv z <| Nv z <| Nh z hc220 <| R z (pF z hc220 z) <| Rm z <| Nh z z <| Nh z z <| Nh z z <| Nv z <| Nv z <| Nv z ?_
    exact Nv z <| Nv z <| Nh z z <| R z (pF z z z) <| Ra z <| Wl <| fun _ q => ⟨false, som (ifF hm218 hc220), (q.weaken (s1 z)), (br w21)⟩
   have hm238 := ifF hm198 hc199
   refine Rh z hc199 (fd fld_82_4 z) <| Rh z hc199 (l1 agg_25 z fid (h24.at z)) <| Rh z hc199 (lnR und_25 z (p1_4.ext h23)) <| Rh z hc199 (eql z z) <| Rh z z (pF z hc199 z) <| R z (pT z z z) <| Rm z ?_
   rcases bsplit ((x1.bytes.length : Int) == 0) with hc240 | hc240
   ·have hm241 := ifT hm238 hc240
    refine Rh z hc240 (mv z) <| Rh z hc240 (mv z) ?_
    rcases bsplit x4 with hc242 | hc242
    ·have hm243 := ifT hm241 hc242
     iterate 4 refine Nh z hc242 ?_
     refine Rh z hc240 (pT z hc242 z) <| R z (pT z hc240 z) <| Rm z <| Rh z z (mv z) <| Rh z z (mv z) ?_
     rcases bsplit x5 with hc244 | hc244
     ·have hm245 := ifT hm243 hc244
      iterate 4 refine Nh z hc244 ?_
      refine Rh z z (pT z hc244 z) <| R z (pT z z z) <| Rm z <| Rh z z (mv z) <| Rh z z (lss z z) <| Rh z z (mv z) ?_
      rcases bsplit (decide (x6 < 0)) with hc246 | hc246
      ·iterate 5 refine Nh z hc246 ?_
       exact Rh z z (pT z hc246 z) <| R z (pT z z z) <| Ra z <| Wl <| fun _ q => ⟨true, som (ifT hm245 hc246), (q.weaken (s1 z)), (br w21)⟩
      exact Rh z hc246 (fd fld_82_7 z) <| Rh z hc246 (l1 agg_73 z fid (h24.at z)) <| Rh z hc246 (lnR und_73 z (p1_7.ext h23)) <| Rh z hc246 (mv z) <| Rh z hc246 (eql z z) <| Rh z z (pF z hc246 z) <| R z (pT z z z) <| Ra z <| Wl <| fun _ q => ⟨(x1.kids.length : Int) == x6, som (ifF hm245 hc246), (q.weaken (s1 z)), (br w21)⟩
     have hm250 := ifF hm243 hc244
     refine Rh z hc244 (fd fld_82_6 z) <| Rh z hc244 (l1 agg_73 z fid (h24.at z)) <| Rh z hc244 (lnR und_73 z (p1_6.ext h23)) <| Rh z hc244 (eql z z) <| Rh z z (pF z hc244 z) <| R z (pT z z z) <| Rm z ?_
     rcases bsplit ((x1.tags.length : Int) == 0) with hc252 | hc252
     ·have hm253 := ifT hm250 hc252
      refine Rh z hc252 (mv z) <| Rh z hc252 (lss z z) <| Rh z hc252 (mv z) ?_
      rcases bsplit (decide (x6 < 0)) with hc254 | hc254
      ·iterate 5 refine Nh z hc254 ?_
       exact Rh z hc252 (pT z hc254 z) <| R z (pT z hc252 z) <| Ra z <| Wl <| fun _ q => ⟨true, som (ifT hm253 hc254), (q.weaken (s1 z)), (br w21)⟩
      exact Rh z hc254 (fd fld_82_7 z) <| Rh z hc254 (l1 agg_73 z fid (h24.at z)) <| Rh z hc254 (lnR und_73 z (p1_7.ext h23)) <| Rh z hc254 (mv z) <| Rh z hc254 (eql z z) <| Rh z hc252 (pF z hc254 z) <| R z (pT z hc252 z) <| Ra z <| Wl <| fun _ q => ⟨(x1.kids.length : Int) == x6, som (ifF hm253 hc254), (q.weaken (s1 z)), (br w21)⟩
     iterate 3 refine Nh z hc252 ?_
     exact Nv z <| Nv z <| Nv z <| Nv z <| Nv z <| Nh z hc252 <| R z (pF z hc252 z) <| Ra z <| Wl <| fun _ q => ⟨false, som (ifF hm250 hc252), (q.weaken (s1 z)), (br w21)⟩
    have hm259 := ifF hm241 hc242
    refine Rh z hc242 (fd fld_82_5 z) <| Rh z hc242 (l1 agg_72 z fid (h24.at z)) <| Rh z hc242 (lnR und_72 z (p1_5.ext h23)) <| Rh z hc242 (eql z z) <| Rh z hc240 (pF z hc242 z) <| R z (pT z hc240 z) <| Rm z ?_
    rcases bsplit ((x1.names.length : Int) == 0) with hc261 | hc261
    ·have hm262 := ifT hm259 hc261
     refine Rh z hc261 (mv z) <| Rh z hc261 (mv z) ?_
     rcases bsplit x5 with hc263 | hc263
     ·have hm264 := ifT hm262 hc263
      iterate 4 refine Nh z hc263 ?_
      refine Rh z hc261 (pT z hc263 z) <| R z (pT z hc261 z) <| Rm z <| Rh z z (mv z) <| Rh z z (lss z z) <| Rh z z (mv z) ?_
      rcases bsplit (decide (x6 < 0)) with hc265 | hc265
      ·iterate 5 refine Nh z hc265 ?_
       exact Rh z z (pT z hc265 z) <| R z (pT z z z) <| Ra z <| Wl <| fun _ q => ⟨true, som (ifT hm264 hc265), (q.weaken (s1 z)), (br w21)⟩
      exact Rh z hc265 (fd fld_82_7 z) <| Rh z hc265 (l1 agg_73 z fid (h24.at z)) <| Rh z hc265 (lnR und_73 z (p1_7.ext h23)) <| Rh z hc265 (mv z) <| Rh z hc265 (eql z z) <| Rh z z (pF z hc265 z) <| R z (pT z z z) <| Ra z <| Wl <| fun _ q => ⟨(x1.kids.length : Int) == x6, som (ifF hm264 hc265), (q.weaken (s1 z)), (br w21)⟩
     have hm269 := ifF hm262 hc263
     refine Rh z hc263 (fd fld_82_6 z) <| Rh z hc263 (l1 agg_73 z fid (h24.at z)) <| Rh z hc263 (lnR und_73 z (p1_6.ext h23)) <| Rh z hc263 (eql z z) <| Rh z hc261 (pF z hc263 z) <| R z (pT z hc261 z) <| Rm z ?_
     rcases bsplit ((x1.tags.length : Int) == 0) with hc271 | hc271
     ·have hm272 := ifT hm269 hc271
      refine Rh z hc271 (mv z) <| Rh z hc271 (lss z z) <| Rh z hc271 (mv z) ?_
      rcases bsplit (decide (x6 < 0)) with hc273 | hc273
      ·iterate 5 refine Nh z hc273 ?_
       exact Rh z hc271 (pT z hc273 z) <| R z (pT z hc271 z) <| Ra z <| Wl <| fun _ q => ⟨true, som (ifT hm272 hc273), (q.weaken (s1 z)), (br w21)⟩
      exact Rh z hc273 (fd fld_82_7 z) <| Rh z hc273 (l1 agg_73 z fid (h24.at z)) <| Rh z hc273 (lnR und_73 z (p1_7.ext h23)) <| Rh z hc273 (mv z) <| Rh z hc273 (eql z z) <| Rh z hc271 (pF z hc273 z) <| R z (pT z hc271 z) <| Ra z <| Wl <| fun _ q => ⟨(x1.kids.length : Int) == x6, som (ifF hm272 hc273), (q.weaken (s1 z)), (br w21)⟩
     iterate 3 refine Nh z hc271 ?_
     exact Nv z <| Nv z <| Nv z <| Nv z <| Nv z <| Nh z hc271 <| R z (pF z hc271 z) <| Ra z <| Wl <| fun _ q => ⟨false, som (ifF hm269 hc271), (q.weaken (s1 z)), (br w21)⟩
    refine Nh z hc261 <| Nh z hc261 <| Nv z <| Nv z <| Nv z <| Nv z <| Nh z hc261 <| R z (pF z hc261 z) <| Rm z <| Nh z z <| Nh z z <| Nh z z <| Nv z <| Nv z <| Nv z ?_
    exact Nv z <| Nv z <| Nh z z <| R z (pF z z z) <| Ra z <| Wl <| fun _ q => ⟨false, som (ifF hm259 hc261), (q.weaken (s1 z)), (br w21)⟩
   refine Nh z hc240 <| Nh z hc240 <| Nv z <| Nv z <| Nv z <| Nv z <| Nh z hc240 <| R z (pF z hc240 z) <| Rm z <| Nh z z <| Nh z z <| Nv z <| Nv z <| Nv z <| Nv z ?_
   refine Nh z z <| R z (pF z z z) <| Rm z <| Nh z z <| Nh z z <| Nh z z <| Nv z <| Nv z <| Nv z <| Nv z <| Nv z <| Nh z z <| R z (pF z z z) <| Ra z <| Wl ?_
   exact fun _ q => ⟨false, som (ifF hm238 hc240), (q.weaken (s1 z)), (br w21)⟩
  have hm280 := ifF hu195 hc197
  refine Rh z hc197 (fd fld_82_2 z) <| Rh z hc197 (l1 agg_3 z fid (h24.at z)) <| Rh z hc197 (eql z z) <| R z (pF z hc197 z) <| Rm z ?_
  rcases bsplit (x1.size == 0) with hc281 | hc281
  ·have hm282 := ifT hm280 hc281
   refine Rh z hc281 (mv z) <| Rh z hc281 (mv z) ?_
   rcases bsplit x3 with hc283 | hc283
   ·have hm284 := ifT hm282 hc283
    iterate 4 refine Nh z hc283 ?_
    refine Rh z hc281 (pT z hc283 z) <| R z (pT z hc281 z) <| Rm z <| Rh z z (mv z) <| Rh z z (mv z) ?_
    rcases bsplit x4 with hc285 | hc285
    ·have hm286 := ifT hm284 hc285
     iterate 4 refine Nh z hc285 ?_
     refine Rh z z (pT z hc285 z) <| R z (pT z z z) <| Rm z <| Rh z z (mv z) <| Rh z z (mv z) ?_
     rcases bsplit x5 with hc287 | hc287
     ·have hm288 := ifT hm286 hc287
      iterate 4 refine Nh z hc287 ?_
      refine Rh z z (pT z hc287 z) <| R z (pT z z z) <| Rm z <| Rh z z (mv z) <| Rh z z (lss z z) <| Rh z z (mv z) ?_
      rcases bsplit (decide (x6 < 0)) with hc289 | hc289
      ·iterate 5 refine Nh z hc289 ?_
       exact Rh z z (pT z hc289 z) <| R z (pT z z z) <| Ra z <| Wl <| fun _ q => ⟨true, som (ifT hm288 hc289), (q.weaken (s1 z)), (br w21)⟩
      exact Rh z hc289 (fd fld_82_7 z) <| Rh z hc289 (l1 agg_73 z fid (h24.at z)) <| Rh z hc289 (lnR und_73 z (p1_7.ext h23)) <| Rh z hc289 (mv z) <| Rh z hc289 (eql z z) <| Rh z z (pF z hc289 z) <| R z (pT z z z) <| Ra z <| Wl <| fun _ q => ⟨(x1.kids.length : Int) == x6, som (ifF hm288 hc289), (q.weaken (s1 z)), (br w21)⟩
     have hm293 := ifF hm286 hc287
     refine Rh z hc287 (fd fld_82_6 z) <| Rh z hc287 (l1 agg_73 z fid (h24.at z)) <| Rh z hc287 (lnR und_73 z (p1_6.ext h23)) <| Rh z hc287 (eql z z) <| Rh z z (pF z hc287 z) <| R z (pT z z z) <| Rm z ?_
     rcases bsplit ((x1.tags.length : Int) == 0) with hc295 | hc295
     ·have hm296 := ifT hm293 hc295
      refine Rh z hc295 (mv z) <| Rh z hc295 (lss z z) <| Rh z hc295 (mv z) ?_
      rcases bsplit (decide (x6 < 0)) with hc297 | hc297
      ·iterate 5 refine Nh z hc297 ?_
       exact Rh z hc295 (pT z hc297 z) <| R z (pT z hc295 z) <| Ra z <| Wl <| fun _ q => ⟨true, som (ifT hm296 hc297), (q.weaken (s1 z)), (br w21)⟩
      exact Rh z hc297 (fd fld_82_7 z) <| Rh z hc297 (l1 agg_73 z fid (h24.at z)) <| Rh z hc297 (lnR und_73 z (p1_7.ext h23)) <| Rh z hc297 (mv z) <| Rh z hc297 (eql z z) <| Rh z hc295 (pF z hc297 z) <| R z (pT z hc295 z) <| Ra z <| Wl <| fun _ q => ⟨(x1.kids.length : Int) == x6, som (ifF hm296 hc297), (q.weaken (s1 z)), (br w21)⟩
     iterate 3 refine Nh z hc295 ?_
     exact Nv z <| Nv z <| Nv z <| Nv z <| Nv z <| Nh z hc295 <| R z (pF z hc295 z) <| Ra z <| Wl <| fun _ q => ⟨false, som (ifF hm293 hc295), (q.weaken (s1 z)), (br w21)⟩
    have hm302 := ifF hm284 hc285
    refine Rh z hc285 (fd fld_82_5 z) <| Rh z hc285 (l1 agg_72 z fid (h24.at z)) <| Rh z hc285 (lnR und_72 z (p1_5.ext h23)) <| Rh z hc285 (eql z z) <| Rh z z (pF z hc285 z) <| R z (pT z z z) <| Rm z ?_
    rcases bsplit ((x1.names.length : Int) == 0) with hc304 | hc304
    ·have hm305 := ifT hm302 hc304
     refine Rh z hc304 (mv z) <| Rh z hc304 (mv z) ?_
     rcases bsplit x5 with hc306 | hc306
     ·have hm307 := ifT hm305 hc306
      iterate 4 refine Nh z hc306 ?_
      refine Rh z hc304 (pT z hc306 z) <| R z (pT z hc304 z) <| Rm z <| Rh z z (mv z) <| Rh z z (lss z z) <| Rh z z (mv z) ?_
      rcases bsplit (decide (x6 < 0)) with hc308 | hc308
      ·iterate 5 refine Nh z hc308 ?_
       exact Rh z z (pT z hc308 z) <| R z (pT z z z) <| Ra z <| Wl <| fun _ q => ⟨true, som (ifT hm307 hc308), (q.weaken (s1 z)), (br w21)⟩
      exact Rh z hc308 (fd fld_82_7 z) <| Rh z hc308 (l1 agg_73 z fid (h24.at z)) <| Rh z hc308 (lnR und_73 z (p1_7.ext h23)) <| Rh z hc308 (mv z) <| Rh z hc308 (eql z z) <| Rh z z (pF z hc308 z) <| R z (pT z z z) <| Ra z <| Wl <| fun _ q => ⟨(x1.kids.length : Int) == x6, som (ifF hm307 hc308), (q.weaken (s1 z)), (br w21)⟩
     have hm312 := ifF hm305 hc306
     refine Rh z hc306 (fd fld_82_6 z) <| Rh z hc306 (l1 agg_73 z fid (h24.at z)) <| Rh z hc306 (lnR und_73 z (p1_6.ext h23)) <| Rh z hc306 (eql z z) <| Rh z hc304 (pF z hc306 z) <| R z (pT z hc304 z) <| Rm z ?_
     rcases bsplit ((x1.tags.length : Int) == 0) with hc314 | hc314
     ·have hm315 := ifT hm312 hc314
      refine Rh z hc314 (mv z) <| Rh z hc314 (lss z z) <| Rh z hc314 (mv z) ?_
      rcases bsplit (decide (x6 < 0)) with hc316 | hc316
      ·iterate 5 refine Nh z hc316 ?_
       exact Rh z hc314 (pT z hc316 z) <| R z (pT z hc314 z) <| Ra z <| Wl <| fun _ q => ⟨true, som (ifT hm315 hc316), (q.weaken (s1 z)), (br w21)⟩
      exact Rh z hc316 (fd fld_82_7 z) <| Rh z hc316 (l1 agg_73 z fid (h24.at z)) <| Rh z hc316 (lnR und_73 z (p1_7.ext h23)) <| Rh z hc316 (mv z) <| Rh z hc316 (eql z z) <| Rh z hc314 (pF z hc316 z) <| R z (pT z hc314 z) <| Ra z <| Wl <| fun _ q => ⟨(x1.kids.length : Int) == x6, som (ifF hm315 hc316), (q.weaken (s1 z)), (br w21)⟩
     iterate 3 refine Nh z hc314 ?_
     exact Nv z <| Nv z <| Nv z <| Nv z <| Nv z <| Nh z hc314 <| R z (pF z hc314 z) <| Ra z <| Wl <| fun _ q => ⟨false, som (ifF hm312 hc314), (q.weaken (s1 z)), (br w21)⟩
    refine Nh z hc304 <| Nh z hc304 <| Nv z <| Nv z <| Nv z <| Nv z <| Nh z hc304 <| R z (pF z hc304 z) <| Rm z <| Nh z z <| Nh z z <| Nh z z <| Nv z <| Nv z <| Nv z ?_
    exact Nv z <| Nv z <| Nh z z <| R z (pF z z z) <| Ra z <| Wl <| fun _ q => ⟨false, som (ifF hm302 hc304), (q.weaken (s1 z)), (br w21)⟩
   have hm322 := ifF hm282 hc283
   refine Rh z hc283 (fd fld_82_4 z) <| Rh z hc283 (l1 agg_25 z fid (h24.at z)) <| Rh z hc283 (lnR und_25 z (p1_4.ext h23)) <| Rh z hc283 (eql z z) <| Rh z hc281 (pF z hc283 z) <| R z (pT z hc281 z) <| Rm z ?_
   rcases bsplit ((x1.bytes.length : Int) == 0) with hc324 | hc324
   ·have hm325 := ifT hm322 hc324
    refine Rh z hc324 (mv z) <| Rh z hc324 (mv z) ?_
    rcases bsplit x4 with hc326 | hc326
    ·have hm327 := ifT hm325 hc326
     iterate 4 refine Nh z hc326 ?_
     refine Rh z hc324 (pT z hc326 z) <| R z (pT z hc324 z) <| Rm z <| Rh z z (mv z) <| Rh z z (mv z) ?_
     rcases bsplit x5 with hc328 | hc328
     ·have hm329 := ifT hm327 hc328
      iterate 4 refine Nh z hc328 ?_
      refine Rh z z (pT z hc328 z) <| R z (pT z z z) <| Rm z <| Rh z z (mv z) <| Rh z z (lss z z) <| Rh z z (mv z) ?_
      rcases bsplit (decide (x6 < 0)) with hc330 | hc330
      ·iterate 5 refine Nh z hc330 ?_
       exact Rh z z (pT z hc330 z) <| R z (pT z z z) <| Ra z <| Wl <| fun _ q => ⟨true, som (ifT hm329 hc330), (q.weaken (s1 z)), (br w21)⟩
      exact Rh z hc330 (fd fld_82_7 z) <| Rh z hc330 (l1 agg_73 z fid (h24.at z)) <| Rh z hc330 (lnR und_73 z (p1_7.ext h23)) <| Rh z hc330 (mv z) <| Rh z hc330 (eql z z) <| Rh z z (pF z hc330 z) <| R z (pT z z z) <| Ra z <| Wl <| fun _ q => ⟨(x1.kids.length : Int) == x6, som (ifF hm329 hc330), (q.weaken (s1 z)), (br w21)⟩
     have hm334 := ifF hm327 hc328
     refine Rh z hc328 (fd fld_82_6 z) <| Rh z hc328 (l1 agg_73 z fid (h24.at z)) <| Rh z hc328 (lnR und_73 z (p1_6.ext h23)) <| Rh z hc328 (eql z z) <| Rh z z (pF z hc328 z) <| R z (pT z z z) <| Rm z ?_
     rcases bsplit ((x1.tags.length : Int) == 0) with hc336 | hc336
     ·have hm337 := ifT hm334 hc336
      refine Rh z hc336 (mv z) <| Rh z hc336 (lss z z) <| Rh z hc336 (mv z) ?_
      rcases bsplit (decide (x6 < 0)) with hc338 | hc338
      ·iterate 5 refine Nh z hc338 ?_
       exact Rh z hc336 (pT z hc338 z) <| R z (pT z hc336 z) <| Ra z <| Wl <| fun _ q => ⟨true, som (ifT hm337 hc338), (q.weaken (s1 z)), (br w21)⟩
      exact Rh z hc338 (fd fld_82_7 z) <| Rh z hc338 (l1 agg_73 z fid (h24.at z)) <| Rh z hc338 (lnR und_73 z (p1_7.ext h23)) <| Rh z hc338 (mv z) <| Rh z hc338 (eql z z) <| Rh z hc336 (pF z hc338 z) <| R z (pT z hc336 z) <| Ra z <| Wl <| fun _ q => ⟨(x1.kids.length : Int) == x6, som (ifF hm337 hc338), (q.weaken (s1 z)), (br w21)⟩
     iterate 3 refine Nh z hc336 ?_
     exact Nv z <| Nv z <| Nv z <| Nv z <| Nv z <| Nh z hc336 <| R z (pF z hc336 z) <| Ra z <| Wl <| fun _ q => ⟨false, som (ifF hm334 hc336), (q.weaken (s1 z)), (br w21)⟩
    have hm343 := ifF hm325 hc326
    refine Rh z hc326 (fd fld_82_5 z) <| Rh z hc326 (l1 agg_72 z fid (h24.at z)) <| Rh z hc326 (lnR und_72 z (p1_5.ext h23)) <| Rh z hc326 (eql z z) <| Rh z hc324 (pF z hc326 z) <| R z (pT z hc324 z) <| Rm z ?_
    rcases bsplit ((x1.names.length : Int) == 0) with hc345 | hc345
    ·have hm346 := ifT hm343 hc345
     refine Rh z hc345 (mv z) <| Rh z hc345 (mv z) ?_
     rcases bsplit x5 with hc347 | hc347
     ·have hm348 := ifT hm346 hc347
      iterate 4 refine Nh z hc347 ?_
      refine Rh z hc345 (pT z hc347 z) <| R z (pT z hc345 z) <| Rm z <| Rh z z (mv z) <| Rh z z (lss z z) <| Rh z z (mv z) ?_
      rcases bsplit (decide (x6 < 0)) with hc349 | hc349
      ·iterate 5 refine Nh z hc349 ?_
       exact Rh z z (pT z hc349 z) <| R z (pT z z z) <| Ra z <| Wl <| fun _ q => ⟨true, som (ifT hm348 hc349), (q.weaken (s1 z)), (br w21)⟩
      exact Rh z hc349 (fd fld_82_7 z) <| Rh z hc349 (l1 agg_73 z fid (h24.at z)) <| Rh z hc349 (lnR und_73 z (p1_7.ext h23)) <| Rh z hc349 (mv z) <| Rh z hc349 (eql z z) <| Rh z z (pF z hc349 z) <| R z (pT z z z) <| Ra z <| Wl <| fun _ q => ⟨(x1.kids.length : Int) == x6, som (ifF hm348 hc349), (q.weaken (s1 z)), (br w21)⟩
     have hm353 := ifF hm346 hc347
     refine Rh z hc347 (fd fld_82_6 z) <| Rh z hc347 (l1 agg_73 z fid (h24.at z)) <| Rh z hc347 (lnR und_73 z (p1_6.ext h23)) <| Rh z hc347 (eql z z) <| Rh z hc345 (pF z hc347 z) <| R z (pT z hc345 z) <| Rm z ?_
     rcases bsplit ((x1.tags.length : Int) == 0) with hc355 | hc355
     ·have hm356 := ifT hm353 hc355
      refine Rh z hc355 (mv z) <| Rh z hc355 (lss z z) <| Rh z hc355 (mv z) ?_
      rcases bsplit (decide (x6 < 0)) with hc357 | hc357
      ·iterate 5 refine Nh z hc357 ?_
       exact Rh z hc355 (pT z hc357 z) <| R z (pT z hc355 z) <| Ra z <| Wl <| fun _ q => ⟨true, som (ifT hm356 hc357), (q.weaken (s1 z)), (br w21)⟩
      exact Rh z hc357 (fd fld_82_7 z) <| Rh z hc357 (l1 agg_73 z fid (h24.at z)) <| Rh z hc357 (lnR und_73 z (p1_7.ext h23)) <| Rh z hc357 (mv z) <| Rh z hc357 (eql z z) <| Rh z hc355 (pF z hc357 z) <| R z (pT z hc355 z) <| Ra z <| Wl <| fun _ q => ⟨(x1.kids.length : Int) == x6, som (ifF hm356 hc357), (q.weaken (s1 z)), (br w21)⟩
     iterate 3 refine Nh z hc355 ?_
     exact Nv z <| Nv z <| Nv z <| Nv z <| Nv z <| Nh z hc355 <| R z (pF z hc355 z) <| Ra z <| Wl <| fun _ q => ⟨false, som (ifF hm353 hc355), (q.weaken (s1 z)), (br w21)⟩
    refine Nh z hc345 <| Nh z hc345 <| Nv z <| Nv z <| Nv z <| Nv z <| Nh z hc345 <| R z (pF z hc345 z) <| Rm z <| Nh z z <| Nh z z <| Nh z z <| Nv z <| Nv z <| Nv z ?_
    exact Nv z <| Nv z <| Nh z z <| R z (pF z z z) <| Ra z <| Wl <| fun _ q => ⟨false, som (ifF hm343 hc345), (q.weaken (s1 z)), (br w21)⟩
   refine Nh z hc324 <| Nh z hc324 <| Nv z <| Nv z <| Nv z <| Nv z <| Nh z hc324 <| R z (pF z hc324 z) <| Rm z <| Nh z z <| Nh z z <| Nv z <| Nv z <| Nv z <| Nv z ?_
   refine Nh z z <| R z (pF z z z) <| Rm z <| Nh z z <| Nh z z <| Nh z z <| Nv z <| Nv z <| Nv z <| Nv z <| Nv z <| Nh z z <| R z (pF z z z) <| Ra z <| Wl ?_
   exact fun _ q => ⟨false, som (ifF hm322 hc324), (q.weaken (s1 z)), (br w21)⟩
  refine Nh z hc281 <| Nh z hc281 <| Nv z <| Nv z <| Nv z <| Nv z <| Nh z hc281 <| R z (pF z hc281 z) <| Rm z <| Nh z z <| Nh z z <| Nv z <| Nv z <| Nv z <| Nv z ?_
  refine Nh z z <| R z (pF z z z) <| Rm z <| Nh z z <| Nh z z <| Nv z <| Nv z <| Nv z <| Nv z <| Nh z z <| R z (pF z z z) <| Rm z <| Nh z z <| Nh z z <| Nh z z ?_
  exact Nv z <| Nv z <| Nv z <| Nv z <| Nv z <| Nh z z <| R z (pF z z z) <| Ra z <| Wl <| fun _ q => ⟨false, som (ifF hm280 hc281), (q.weaken (s1 z)), (br w21)⟩
 rintro a365 w366 ⟨x193, rfl, hS367, s368⟩
 revert a365
 refine Wo ?_
 obtain rfl := som hm196
 exact Wr (ret1 hr z ⟨(bup h23 s368), z⟩)
def Q_impl_IntegerLimit (w0 : World) (B : Nat) (r : Int) (v : Value) (w' : World) : Prop := Below w0.heap.size w0 w' ∧ (fun r1 => (vI r1) = v ∧ inI r1) r
theorem W_impl_IntegerLimit {x1 : Desc} {x2 : Int} {res : Int} (hm : M_impl_IntegerLimit x1 x2 = some res) (hBw : B ≤ w0.heap.size) (p1_0 : repS w0 B (.slice pa1_0 pn1_0 pc1_0) x1.rules) (p2_0 : inI x2) : CallsR Tryz.prog 138 [(.agg #[(.slice pa1_0 pn1_0 pc1_0)]), (vI x2)] w0 (Q_impl_IntegerLimit w0 B res) := by
 unfold M_impl_IntegerLimit at hm
 obtain ⟨fn, hf, hb, hN, hr⟩ := fnE Tryz.func138
 refine goW hf (hb.trans z) (hN.trans z) (lb z) <| Ws <| E z (fb z) ?_
 rintro _ w21 ⟨rfl, h22⟩
 have h23 := h22.below
 have h24 : Blk w21 w0.heap.size [(.slice pa1_0 pn1_0 pc1_0)] := h22.blk
 refine Ra z <| Wn <| Wq <| Wq ?_
 obtain ⟨u104, hu105, hm106⟩ := bdS hm
 refine WC_cut (fun a w => ∃ (x103 : Bool), x103 = u104 ∧ Sat 37 [(1, (vI x2)), (2, (.pointer (some ⟨w0.heap.size, 0, none⟩))), (27, (vB x103))] a ∧ Below w21.heap.size w21 w) ?_ ?_
 ·refine Wg <| R z (lN (vs := [(.slice pa1_0 pn1_0 pc1_0)]) agg_31 size_31 z z fid (h24.row 0 1 z)) <| Rm z ?_
  have h107 := p1_0.ext h23
  obtain ⟨r109, e110, hm111⟩ := bdS hu105
  refine E z (fc Tryz.call103 z (W_impl_hasRule (B := B) e110 (lt_ hBw h23.size) h107 p2_0)) ?_
  rintro _ w112 ⟨s113, rfl⟩
  refine R z (not_ z) <| Rm z ?_
  rcases bsplit (!r109) with hc114 | hc114
  ·iterate 7 refine Nh z hc114 ?_
   exact R z (pT z hc114 z) <| Rm z <| Nh z z <| Nh z z <| Nh z z <| Nh z z <| Nh z z <| Nh z z <| Nh z z <| Nh z z <| R z (pT z z z) <| Wl <| fun _ q => ⟨true, som (ifT hm111 hc114), (q.weaken (s3 z z z)), s113⟩
  refine Rh z hc114 (fd fld_31_0 z) ?_
  have h117 := h24.ext s113
  refine Rh z hc114 (l1 agg_29 z fid (h117.at z)) <| Rh z hc114 (mv z) ?_
  obtain ⟨x118, e119, hm120⟩ := bdS (ifF hm111 hc114)
  have h121 := h107.ext s113
  refine RXg z z hc114 z (at_ (α := Rule) und_29 size_82 z z z h121 e119) ?_
  rintro _ ⟨b122, o123, cs124, rfl, h125, h126, h127⟩
  obtain ⟨a131, n132, c133, a135, n136, c137, a139, n140, c141, a143, n144, c145, rfl, h128, h129, h130, h134, h138, h142, h146⟩ := Rule_open h126
  refine Rh z hc114 (fd fld_82_1 z) <| Rh z hc114 (l1 agg_3 z fid (h125.at (j := 1) z)) <| Rh z hc114 (rd_neq z z) <| R z (pF z hc114 z) <| Rm z ?_
  rcases bsplit (x118.kind != 1) with hc147 | hc147
  ·iterate 8 refine Nh z hc147 ?_
   exact R z (pT z hc147 z) <| Wl <| fun _ q => ⟨true, som (ifT hm120 hc147), (q.weaken (s3 z z z)), s113⟩
  refine Rh z hc147 (fd fld_31_0 z) <| Rh z hc147 (l1 agg_29 z fid (h117.at z)) <| Rh z hc147 (mv z) ?_
  obtain ⟨x150, e151, hm152⟩ := bdS (ifF hm120 hc147)
  refine RXg z z hc147 z (at_ (α := Rule) und_29 size_82 z z z h121 e151) ?_
  rintro _ ⟨b153, o154, cs155, rfl, h156, h157, h158⟩
  obtain ⟨a162, n163, c164, a166, n167, c168, a170, n171, c172, a174, n175, c176, rfl, h159, h160, h161, h165, h169, h173, h177⟩ := Rule_open h157
  refine Rh z hc147 (fd fld_82_2 z) <| Rh z hc147 (l1 agg_3 z fid (h156.at (j := 2) z)) ?_
  obtain ⟨r180, e181, hm182⟩ := bdS hm152
  refine Eg z z hc147 z (fc Tryz.call81 z (W_impl_InRange (B := B) e181 (lt_ hBw (lt_ h23.size s113.size)) h161 (ii z) (ii z))) ?_
  rintro _ w183 ⟨s184, rfl⟩
  exact Rh z hc147 (not_ z) <| R z (pF z hc147 z) <| Wl <| fun _ q => ⟨!r180, som hm182, (q.weaken (s3 z z z)), (bup s113 s184)⟩
 rintro a186 w187 ⟨x103, rfl, hS188, s189⟩
 revert a186
 refine Wo <| Wc z (fun hc195 => ?_) (fun hc195 => ?_)
 ·refine Ws <| Ra z <| Wn ?_
  obtain rfl := som (ifT hm106 hc195)
  exact Wr (ret1 hr z ⟨(bup h23 s189), z, (ii z)⟩)
 refine Wk <| Ws <| R z (fd fld_31_0 z) <| R z (l1 agg_29 z fid ((h24.ext s189).at z)) <| Rm z ?_
 obtain ⟨x200, e201, hm202⟩ := bdS (ifF hm106 hc195)
 refine RX z (at_ (α := Rule) und_29 size_82 z z z ((p1_0.ext h23).ext s189) e201) ?_
 rintro _ ⟨b205, o206, cs207, rfl, h208, h209, h210⟩
 obtain ⟨a214, n215, c216, a218, n219, c220, a222, n223, c224, a226, n227, c228, rfl, h211, h212, h213, h217, h221, h225, h229⟩ := Rule_open h209
 refine R z (fd fld_82_2 z) <| R z (l1 agg_3 z fid (h208.at (j := 2) z)) <| R z (rd_mul z z) ?_
 obtain ⟨u230, e231, hm232⟩ := bdS hm202
 refine R z (rd_shl z z (nnS e231)) <| R z (rd_sub z z) <| Ra z <| Wn ?_
 obtain rfl := som hm232
 exact Wr (ret1 hr z ⟨(bup h23 s189), z, (iS _ _)⟩)
def Q_impl_ContainsText (w0 : World) (B : Nat) (r : Bool) (v : Value) (w' : World) : Prop := Below w0.heap.size w0 w' ∧ (fun r1 => (vB r1) = v) r
theorem W_impl_ContainsText {x1 : List Str} {x2 : Str} {res : Bool} (hm : M_impl_ContainsText x1 x2 = some res) (hBw : B ≤ w0.heap.size) (p1_0 : repS w0 B (.slice pa1_0 pn1_0 pc1_0) x1) (p2_0 : x2.b.length ≤ LEN) : CallsR Tryz.prog 106 [(.slice pa1_0 pn1_0 pc1_0), (Str.v x2)] w0 (Q_impl_ContainsText w0 B res) := by
 unfold M_impl_ContainsText at hm
 obtain ⟨fn, hf, hb, hN, hr⟩ := fnE Tryz.func106
 refine goW hf (hb.trans z) (hN.trans z) (lb z) <| Ws <| Ra z <| Wn <| Wq <| Ws <| Rm z <| R z (lnR und_72 z p1_0) <| Rm z <| Wn ?_
 obtain ⟨u37, hu38, hm39⟩ := bdS hm
 refine WC_forN (σ := Unit) (ρ := Bool) (fun (k40 : Nat) (_ : Unit) a w => Sat 17 [(1, (Str.v x2)), (7, (.slice pa1_0 pn1_0 pc1_0)), (8, (vI (x1.length : Int))), (9, (vI ((k40 : Nat) : Int)))] a ∧ Below w0.heap.size w0 w) (fun (_ : Unit) a w => Sat 17 [] a ∧ Below w0.heap.size w0 w) (fun r ex a w => ex = .ret ∧ RetPost Tryz.prog fn (Q_impl_ContainsText w0 B r) a w) hu38 ?_ ?_ ?_ ?_ ?_
 ·exact fun _ q => ⟨(q.weaken (s4 z z z z)), (br w0)⟩
 ·rintro k40 _ a41 w42 o43 hk44 ⟨hS45, s46⟩ hm47
  refine Wu (e := [(1, (Str.v x2)), (7, (.slice pa1_0 pn1_0 pc1_0)), (8, (vI (x1.length : Int))), (9, (vI ((k40 : Nat) : Int)))]) (N := 17) ?_ hS45
  refine Ws <| R z (lss z z) <| Wn <| Wq <| Wc z (fun _ => ?_) (fun hc => (nolt hk44 hc).elim)
  refine Wk <| Wq <| WC_block <| Ws ?_
  obtain ⟨x64, e65, hm66⟩ := bdS hm47
  refine RX z (at_ (α := Str) und_72 size_9 z z z (p1_0.ext s46) e65) ?_
  rintro _ ⟨b68, o69, cs70, rfl, h71, h72, h73⟩
  obtain ⟨rfl, h74⟩ := Str_open h72
  refine R z (l1 agg_9 z fid (h71.at0 z)) <| Ra z <| Wn <| Ws <| Rm z <| Rm z <| R z (rd_eqlT z z) <| Wn <| Wc z (fun hc79 => ?_) (fun hc79 => ?_)
  ·exact Ws <| Ra z <| Wn <| Wr (rtO (QO_retL (som (ifT hm66 hc79)).symm (ret1 hr z ⟨s46, z⟩)))
  exact Wk <| Wg <| R z (inc_ hk44 (lt_ (repS.len p1_0) LEN_le) z z) <| Rm z <| Wl <| fun _ q => ⟨(), (som (ifF hm66 hc79)).symm, ⟨(q.weaken (s4 z z z z)), s46⟩⟩
 ·rintro _ a82 w83 ⟨hS84, s85⟩
  refine Wu (e := [(1, (Str.v x2)), (7, (.slice pa1_0 pn1_0 pc1_0)), (8, (vI (x1.length : Int))), (9, (vI ((x1.length : Nat) : Int)))]) (N := 17) ?_ hS84
  refine Ws <| R z (lss z z) <| Wn <| Wq <| Wc z (fun hc => (noltt hc).elim) (fun _ => ?_)
  exact WC_exit (fun a' ha' => ⟨rfl, ⟨(Sat.weaken ha' sn), s85⟩⟩)
 ·rintro _ a86 w87 rfl ⟨hS88, s89⟩
  have hm90 := elL hm39
  revert a86
  refine Wo <| Ws <| Ra z <| Wn ?_
  obtain rfl := som hm90
  exact Wr (ret1 hr z ⟨s89, z⟩)
 rintro r91 ex92 a93 w94 rfl ⟨rfl, hq95⟩
 have hm96 := elR hm39
 obtain rfl := som hm96
 exact ⟨hq95, z⟩
def Q_impl_validSequence (w0 : World) (B : Nat) (r : Bool) (v : Value) (w' : World) : Prop := Below w0.heap.size w0 w' ∧ (fun r1 => (vB r1) = v) r
theorem W_impl_validSequence {x1 : Rule} {res : Bool} (hm : M_impl_validSequence n x1 = some res) (hBw : B ≤ w0.heap.size) (p1_0 : x1.name.b.length ≤ LEN) (p1_1 : inI x1.kind) (p1_2 : inI x1.size) (p1_4 : repS w0 B (.slice pa1_4 pn1_4 pc1_4) x1.bytes) (p1_5 : repS w0 B (.slice pa1_5 pn1_5 pc1_5) x1.names) (p1_6 : repS w0 B (.slice pa1_6 pn1_6 pc1_6) x1.tags) (p1_7 : repS w0 B (.slice pa1_7 pn1_7 pc1_7) x1.kids) : CallsR Tryz.prog 139 [(.agg #[(Str.v x1.name), (vI x1.kind), (vI x1.size), (vB x1.little), (.slice pa1_4 pn1_4 pc1_4), (.slice pa1_5 pn1_5 pc1_5), (.slice pa1_6 pn1_6 pc1_6), (.slice pa1_7 pn1_7 pc1_7)])] w0 (Q_impl_validSequence w0 B res) := by
 unfold M_impl_validSequence at hm
 obtain ⟨fn, hf, hb, hN, hr⟩ := fnE Tryz.func139
 refine goW hf (hb.trans z) (hN.trans z) (lb z) <| Ws <| E z (fb z) ?_
 rintro _ w21 ⟨rfl, h22⟩
 have h23 := h22.below
 have h24 : Blk w21 w0.heap.size [(Str.v x1.name), (vI x1.kind), (vI x1.size), (vB x1.little), (.slice pa1_4 pn1_4 pc1_4), (.slice pa1_5 pn1_5 pc1_5), (.slice pa1_6 pn1_6 pc1_6), (.slice pa1_7 pn1_7 pc1_7)] := h22.blk
 refine Ra z <| Wn <| Wq <| Wq ?_
 obtain ⟨u52, hu53, hm54⟩ := bdS hm
 refine WC_cut (fun a w => ∃ (x51 : Bool), x51 = u52 ∧ Sat 44 [(1, (.pointer (some ⟨w0.heap.size, 0, none⟩))), (23, (vB x51))] a ∧ Below w21.heap.size w21 w) ?_ ?_
 ·refine Wg <| R z (lN (vs := [(Str.v x1.name), (vI x1.kind), (vI x1.size), (vB x1.little), (.slice pa1_4 pn1_4 pc1_4), (.slice pa1_5 pn1_5 pc1_5), (.slice pa1_6 pn1_6 pc1_6), (.slice pa1_7 pn1_7 pc1_7)]) agg_82 size_82 z z fid (h24.row 0 8 z)) ?_
  have h56 := p1_5.ext h23
  have h58 := p1_7.ext h23
  obtain ⟨r60, e61, hm62⟩ := bdS hu53
  refine E z (fc Tryz.call137 z (W_impl_plainRule (B := B) e61 (lt_ hBw h23.size) p1_0 p1_1 p1_2 (p1_4.ext h23) h56 (p1_6.ext h23) h58 (ii z))) ?_
  rintro _ w63 ⟨s64, rfl⟩
  refine R z (not_ z) <| Rm z ?_
  rcases bsplit (!r60) with hc65 | hc65
  ·iterate 7 refine Nh z hc65 ?_
   exact R z (pT z hc65 z) <| Rm z <| Nh z z <| Nh z z <| Nh z z <| Nh z z <| Nh z z <| R z (pT z z z) <| Wl <| fun _ q => ⟨true, som (ifT hm62 hc65), (q.weaken (s2 z z)), s64⟩
  have hm67 := ifF hm62 hc65
  refine Rh z hc65 (fd fld_82_7 z) ?_
  have h68 := h24.ext s64
  refine Rh z hc65 (l1 agg_73 z fid (h68.at z)) ?_
  have h69 := h58.ext s64
  refine Rh z hc65 (lnR und_73 z h69) <| Rh z hc65 (fd fld_82_5 z) <| Rh z hc65 (l1 agg_72 z fid (h68.at z)) <| Rh z hc65 (lnR und_72 z (h56.ext s64)) <| Rh z hc65 (rd_neq z z) <| R z (pF z hc65 z) <| Rm z ?_
  rcases bsplit ((x1.kids.length : Int) != (x1.names.length : Int)) with hc71 | hc71
  ·iterate 5 refine Nh z hc71 ?_
   exact R z (pT z hc71 z) <| Wl <| fun _ q => ⟨true, som (ifT hm67 hc71), (q.weaken (s2 z z)), s64⟩
  refine Rh z hc71 (fd fld_82_7 z) <| Rh z hc71 (l1 agg_73 z fid (h68.at z)) <| Rh z hc71 (lnR und_73 z h69) ?_
  obtain ⟨r76, e77, hm78⟩ := bdS (ifF hm67 hc71)
  refine Eg z z hc71 z (fc Tryz.call81 z (W_impl_InRange (B := B) e77 (lt_ hBw (lt_ h23.size s64.size)) (inI_len (repS.len h69)) (ii z) (ii z))) ?_
  rintro _ w79 ⟨s80, rfl⟩
  exact Rh z hc71 (not_ z) <| R z (pF z hc71 z) <| Wl <| fun _ q => ⟨!r76, som hm78, (q.weaken (s2 z z)), (bup s64 s80)⟩
 rintro a82 w83 ⟨x51, rfl, hS84, s85⟩
 revert a82
 refine Wo <| Wc z (fun hc91 => ?_) (fun hc91 => ?_)
 ·refine Ws <| Ra z <| Wn ?_
  obtain rfl := som (ifT hm54 hc91)
  exact Wr (ret1 hr z ⟨(bup h23 s85), z⟩)
 refine Wk <| Wq <| Ws <| R z (fd fld_82_5 z) ?_
 have h95 := h24.ext s85
 refine R z (l1 agg_72 z fid (h95.at z)) ?_
 have h97 := (p1_5.ext h23).ext s85
 refine R z (lnR und_72 z h97) <| Rm z <| Wn ?_
 obtain ⟨u146, hu147, hm148⟩ := bdS (ifF hm54 hc91)
 refine WC_forN (σ := Unit) (ρ := Bool) (fun (k149 : Nat) (_ : Unit) a w => Sat 44 [(1, (.pointer (some ⟨w0.heap.size, 0, none⟩))), (25, (.slice pa1_5 pn1_5 pc1_5)), (26, (vI (x1.names.length : Int))), (27, (vI ((k149 : Nat) : Int)))] a ∧ Below w83.heap.size w83 w) (fun (_ : Unit) a w => Sat 44 [] a ∧ Below w83.heap.size w83 w) (fun r ex a w => ex = .ret ∧ RetPost Tryz.prog fn (Q_impl_validSequence w0 B r) a w) hu147 ?_ ?_ ?_ ?_ ?_
 ·exact fun _ q => ⟨(q.weaken (s4 z z z z)), (br w83)⟩
 ·rintro k149 _ a150 w151 o152 hk153 ⟨hS154, s155⟩ hm156
  refine Wu (e := [(1, (.pointer (some ⟨w0.heap.size, 0, none⟩))), (25, (.slice pa1_5 pn1_5 pc1_5)), (26, (vI (x1.names.length : Int))), (27, (vI ((k149 : Nat) : Int)))]) (N := 44) ?_ hS154
  refine Ws <| R z (lss z z) <| Wn <| Wq <| Wc z (fun _ => ?_) (fun hc => (nolt hk153 hc).elim)
  refine Wk <| Wq <| WC_block <| Ws <| Rm z ?_
  obtain ⟨x205, e206, hm207⟩ := bdS hm156
  have h208 := h97.ext s155
  refine RX z (at_ (α := Str) und_72 size_9 z z z h208 e206) ?_
  rintro _ ⟨b209, o210, cs211, rfl, h212, h213, h214⟩
  obtain ⟨rfl, h215⟩ := Str_open h213
  refine R z (l1 agg_9 z fid (h212.at0 z)) <| Ra z <| Ra z <| Wn <| Wq ?_
  obtain ⟨u245, hu246, hm247⟩ := bdS hm207
  refine WC_cut (fun a w => ∃ (x244 : Bool), x244 = u245 ∧ Sat 44 [(1, (.pointer (some ⟨w0.heap.size, 0, none⟩))), (25, (.slice pa1_5 pn1_5 pc1_5)), (26, (vI (x1.names.length : Int))), (27, (vI ((k149 : Nat) : Int))), (42, (vB x244))] a ∧ Below w151.heap.size w151 w) ?_ ?_
  ·refine Wg <| Rm z ?_
   have h249 := lt_ (lt_ h23.size s85.size) s155.size
   obtain ⟨r251, e252, hm253⟩ := bdS hu246
   refine E z (fc Tryz.call101 z (W_impl_IsName (B := B) e252 (lt_ hBw h249) h215)) ?_
   rintro _ w254 ⟨s255, rfl⟩
   refine R z (not_ z) <| Rm z ?_
   rcases bsplit (!r251) with hc256 | hc256
   ·iterate 6 refine Nh z hc256 ?_
    exact R z (pT z hc256 z) <| Wl <| fun _ q => ⟨true, som (ifT hm253 hc256), (q.weaken (s5 z z z z z)), s255⟩
   refine Rh z hc256 (fd fld_82_5 z) <| Rh z hc256 (l1 agg_72 z fid (((h95.ext s155).ext s255).at z)) <| Rh z hc256 (mv z) ?_
   obtain ⟨x261, e262, hm263⟩ := bdS (ifF hm253 hc256)
   refine RXg z z hc256 z (rd_sliceX und_72 size_9 z z (h208.ext s255) z z e262) ?_
   rintro _ ⟨a265, n266, c267, rfl, h268⟩
   refine Rh z hc256 (mv z) ?_
   obtain ⟨r271, e272, hm273⟩ := bdS hm263
   refine Eg z z hc256 z (fc Tryz.call106 z (W_impl_ContainsText (B := B) e272 (lt_ hBw (lt_ h249 s255.size)) h268 h215)) ?_
   rintro _ w274 ⟨s275, rfl⟩
   exact R z (pF z hc256 z) <| Wl <| fun _ q => ⟨r271, som hm273, (q.weaken (s5 z z z z z)), (bup s255 s275)⟩
  rintro a277 w278 ⟨x244, rfl, hS279, s280⟩
  revert a277
  refine Wo <| Wc z (fun hc288 => ?_) (fun hc288 => ?_)
  ·exact Ws <| Ra z <| Wn <| Wr (rtO (QO_retL (som (ifT hm247 hc288)).symm (ret1 hr z ⟨(bup (bup (bup h23 s85) s155) s280), z⟩)))
  exact Wk <| Wg <| R z (inc_ hk153 (lt_ (repS.len p1_5) LEN_le) z z) <| Rm z <| Wl <| fun _ q => ⟨(), (som (ifF hm247 hc288)).symm, ⟨(q.weaken (s4 z z z z)), (bup s155 s280)⟩⟩
 ·rintro _ a295 w296 ⟨hS297, s298⟩
  refine Wu (e := [(1, (.pointer (some ⟨w0.heap.size, 0, none⟩))), (25, (.slice pa1_5 pn1_5 pc1_5)), (26, (vI (x1.names.length : Int))), (27, (vI ((x1.names.length : Nat) : Int)))]) (N := 44) ?_ hS297
  refine Ws <| R z (lss z z) <| Wn <| Wq <| Wc z (fun hc => (noltt hc).elim) (fun _ => ?_)
  exact WC_exit (fun a' ha' => ⟨rfl, ⟨(Sat.weaken ha' sn), s298⟩⟩)
 ·rintro _ a299 w300 rfl ⟨hS301, s302⟩
  have hm303 := elL hm148
  revert a299
  refine Wo <| Ws <| Ra z <| Wn ?_
  obtain rfl := som hm303
  exact Wr (ret1 hr z ⟨(bup (bup h23 s85) s302), z⟩)
 rintro r306 ex307 a308 w309 rfl ⟨rfl, hq310⟩
 have hm311 := elR hm148
 obtain rfl := som hm311
 exact ⟨hq310, z⟩
def Q_impl_validChoice (w0 : World) (B : Nat) (r : Bool) (v : Value) (w' : World) : Prop := Below w0.heap.size w0 w' ∧ (fun r1 => (vB r1) = v) r
theorem W_impl_validChoice {x1 : Desc} {x2 : Rule} {res : Bool} (hm : M_impl_validChoice x1 x2 = some res) (hBw : B ≤ w0.heap.size) (p1_0 : repS w0 B (.slice pa1_0 pn1_0 pc1_0) x1.rules) (p2_0 : x2.name.b.length ≤ LEN) (p2_1 : inI x2.kind) (p2_2 : inI x2.size) (p2_4 : repS w0 B (.slice pa2_4 pn2_4 pc2_4) x2.bytes) (p2_5 : repS w0 B (.slice pa2_5 pn2_5 pc2_5) x2.names) (p2_6 : repS w0 B (.slice pa2_6 pn2_6 pc2_6) x2.tags) (p2_7 : repS w0 B (.slice pa2_7 pn2_7 pc2_7) x2.kids) : CallsR Tryz.prog 140 [(.agg #[(.slice pa1_0 pn1_0 pc1_0)]), (.agg #[(Str.v x2.name), (vI x2.kind), (vI x2.size), (vB x2.little), (.slice pa2_4 pn2_4 pc2_4), (.slice pa2_5 pn2_5 pc2_5), (.slice pa2_6 pn2_6 pc2_6), (.slice pa2_7 pn2_7 pc2_7)])] w0 (Q_impl_validChoice w0 B res) := by
 unfold M_impl_validChoice at hm
 obtain ⟨fn, hf, hb, hN, hr⟩ := fnE Tryz.func140
 refine goW hf (hb.trans z) (hN.trans z) (lb z) <| Ws <| E z (fb z) ?_
 rintro _ w21 ⟨rfl, h22⟩
 have h23 := h22.below
 have h24 : Blk w21 w0.heap.size [(.slice pa1_0 pn1_0 pc1_0)] := h22.blk
 refine E z (fb z) ?_
 rintro _ w25 ⟨rfl, h26⟩
 have h27 := h26.below
 have h28 : Blk w25 w21.heap.size [(Str.v x2.name), (vI x2.kind), (vI x2.size), (vB x2.little), (.slice pa2_4 pn2_4 pc2_4), (.slice pa2_5 pn2_5 pc2_5), (.slice pa2_6 pn2_6 pc2_6), (.slice pa2_7 pn2_7 pc2_7)] := h26.blk
 refine Ra z <| Wn <| Wq <| Wq ?_
 obtain ⟨u57, hu58, hm59⟩ := bdS hm
 refine WC_cut (fun a w => ∃ (x56 : Bool), x56 = u57 ∧ Sat 57 [(2, (.pointer (some ⟨w0.heap.size, 0, none⟩))), (3, (.pointer (some ⟨w21.heap.size, 0, none⟩))), (21, (vB x56))] a ∧ Below w25.heap.size w25 w) ?_ ?_
 ·refine Wg <| R z (lN (vs := [(Str.v x2.name), (vI x2.kind), (vI x2.size), (vB x2.little), (.slice pa2_4 pn2_4 pc2_4), (.slice pa2_5 pn2_5 pc2_5), (.slice pa2_6 pn2_6 pc2_6), (.slice pa2_7 pn2_7 pc2_7)]) agg_82 size_82 z z fid (h28.row 0 8 z)) <| R z (fd fld_82_6 z) <| R z (l1 agg_73 z fid (h28.at z)) ?_
  have h61 := (p2_6.ext h23).ext h27
  refine R z (lnR und_73 z h61) <| R z (add_ z z) ?_
  have h68 := lt_ h23.size h27.size
  obtain ⟨r70, e71, hm72⟩ := bdS hu58
  refine E z (fc Tryz.call137 z (W_impl_plainRule (B := B) e71 (lt_ hBw h68) p2_0 p2_1 p2_2 ((p2_4.ext h23).ext h27) ((p2_5.ext h23).ext h27) h61 ((p2_7.ext h23).ext h27) (iA _ _))) ?_
  rintro _ w73 ⟨s74, rfl⟩
  refine R z (not_ z) <| Rm z ?_
  rcases bsplit (!r70) with hc75 | hc75
  ·iterate 5 refine Nh z hc75 ?_
   exact R z (pT z hc75 z) <| Wl <| fun _ q => ⟨true, som (ifT hm72 hc75), (q.weaken (s3 z z z)), s74⟩
  refine Rh z hc75 (fd fld_82_6 z) <| Rh z hc75 (l1 agg_73 z fid ((h28.ext s74).at z)) ?_
  have h79 := h61.ext s74
  refine Rh z hc75 (lnR und_73 z h79) ?_
  obtain ⟨r82, e83, hm84⟩ := bdS (ifF hm72 hc75)
  refine Eg z z hc75 z (fc Tryz.call81 z (W_impl_InRange (B := B) e83 (lt_ hBw (lt_ h68 s74.size)) (inI_len (repS.len h79)) (ii z) (ii z))) ?_
  rintro _ w85 ⟨s86, rfl⟩
  exact Rh z hc75 (not_ z) <| R z (pF z hc75 z) <| Wl <| fun _ q => ⟨!r82, som hm84, (q.weaken (s3 z z z)), (bup s74 s86)⟩
 rintro a88 w89 ⟨x56, rfl, hS90, s91⟩
 revert a88
 refine Wo <| Wc z (fun hc98 => ?_) (fun hc98 => ?_)
 ·refine Ws <| Ra z <| Wn ?_
  obtain rfl := som (ifT hm59 hc98)
  exact Wr (ret1 hr z ⟨(bup (bup h23 h27) s91), z⟩)
 refine Wk <| Wq <| WC_draw (X := noX) 0 (.rd 0 (.rd 1 (.rd 2 (.rd 3 (.rd 4 (.ef 5 (.rd 6 .done))))))) mo (by kernel_rfl) fun w103 s104 _ => dR z z (lN (vs := [(.slice pa1_0 pn1_0 pc1_0)]) agg_31 size_31 z z fid ((((h24.ext h27).ext s91).ext s104).row 0 1 z)) <| dR z z (fd fld_82_7 z) ?_
 have h109 := (h28.ext s91).ext s104
 refine dR z z (l1 agg_73 z fid (h109.at z)) ?_
 obtain ⟨x110, e111, hm112⟩ := bdS (ifF hm59 hc98)
 refine dRX z z (at_ (α := Int) und_73 size_3 z z z ((((p2_7.ext h23).ext h27).ext s91).ext s104) e111) ?_
 rintro _ ⟨b117, o118, cs119, rfl, h120, h121, h122⟩
 obtain ⟨rfl, h123⟩ := Int_open h121
 refine dR z z (l1 agg_3 z fid (h120.at0 z)) ?_
 have h130 := lt_ (lt_ (lt_ h23.size h27.size) s91.size) s104.size
 obtain ⟨r132, e133, hm134⟩ := bdS hm112
 refine dE z z (fc Tryz.call138 z (W_impl_IntegerLimit (B := B) e133 (lt_ hBw h130) ((((p1_0.ext h23).ext h27).ext s91).ext s104) h123)) (.inr fun _ _ h => chgB (h.1)) ?_
 rintro _ w135 ⟨s136, rfl, h137⟩
 refine dR z z (asg z) <| PR_done <| Wo <| Wq <| Ws <| R z (fd fld_82_6 z) ?_
 have h138 := h109.ext s136
 refine R z (l1 agg_73 z fid (h138.at z)) ?_
 have h143 := ((((p2_6.ext h23).ext h27).ext s91).ext s104).ext s136
 refine R z (lnR und_73 z h143) <| Rm z <| Wn ?_
 obtain ⟨u194, hu195, hm196⟩ := bdS hm134
 refine WC_forN (σ := Unit) (ρ := Bool) (fun (k197 : Nat) (_ : Unit) a w => Sat 57 [(3, (.pointer (some ⟨w21.heap.size, 0, none⟩))), (5, (vI r132)), (29, (.slice pa2_6 pn2_6 pc2_6)), (30, (vI (x2.tags.length : Int))), (31, (vI ((k197 : Nat) : Int)))] a ∧ Below w135.heap.size w135 w) (fun (_ : Unit) a w => Sat 57 [(5, (vI r132))] a ∧ Below w135.heap.size w135 w) (fun r ex a w => ex = .ret ∧ RetPost Tryz.prog fn (Q_impl_validChoice w0 B r) a w) hu195 ?_ ?_ ?_ ?_ ?_
 ·exact fun _ q => ⟨(q.weaken (s5 z z z z z)), (br w135)⟩
 ·rintro k197 _ a198 w199 o200 hk201 ⟨hS202, s203⟩ hm204
  refine Wu (e := [(3, (.pointer (some ⟨w21.heap.size, 0, none⟩))), (5, (vI r132)), (29, (.slice pa2_6 pn2_6 pc2_6)), (30, (vI (x2.tags.length : Int))), (31, (vI ((k197 : Nat) : Int)))]) (N := 57) ?_ hS202
  refine Ws <| R z (lss z z) <| Wn <| Wq <| Wc z (fun _ => ?_) (fun hc => (nolt hk201 hc).elim)
  refine Wk <| Wq <| WC_block <| Ws <| Rm z ?_
  obtain ⟨x255, e256, hm257⟩ := bdS hm204
  have h258 := h143.ext s203
  refine RX z (at_ (α := Int) und_73 size_3 z z z h258 e256) ?_
  rintro _ ⟨b259, o260, cs261, rfl, h262, h263, h264⟩
  obtain ⟨rfl, h265⟩ := Int_open h263
  refine R z (l1 agg_3 z fid (h262.at0 z)) <| Ra z <| Ra z <| Wn <| Wq ?_
  obtain ⟨u294, hu295, hm296⟩ := bdS hm257
  refine WC_cut (fun a w => ∃ (x293 : Bool), x293 = u294 ∧ Sat 57 [(3, (.pointer (some ⟨w21.heap.size, 0, none⟩))), (5, (vI r132)), (29, (.slice pa2_6 pn2_6 pc2_6)), (30, (vI (x2.tags.length : Int))), (31, (vI ((k197 : Nat) : Int))), (53, (vB x293))] a ∧ Below w199.heap.size w199 w) ?_ ?_
  ·refine Wg <| Rm z <| Rm z ?_
   obtain ⟨r300, e301, hm302⟩ := bdS hu295
   refine E z (fc Tryz.call81 z (W_impl_InRange (B := B) e301 (lt_ hBw (lt_ (lt_ h130 s136.size) s203.size)) h265 (ii z) h137)) ?_
   rintro _ w303 ⟨s304, rfl⟩
   refine R z (not_ z) <| Rm z ?_
   rcases bsplit (!r300) with hc305 | hc305
   ·iterate 3 refine Nh z hc305 ?_
    exact Nv z <| Nv z <| Nv z <| Nv z <| Nv z <| Nv z <| Nv z <| Nv z <| Nh z hc305 <| R z (pT z hc305 z) <| Wl <| fun _ q => ⟨true, som (ifT hm302 hc305), (q.weaken (s6 z z z z z z)), s304⟩
   have hm307 := ifF hm302 hc305
   refine Rh z hc305 (mv z) <| Rh z hc305 (rd_gtr z z) <| Rh z hc305 (mv z) ?_
   rcases bsplit (decide (0 < ((k197 : Nat) : Int))) with hc308 | hc308
   ·refine Rh z hc308 (fd fld_82_6 z) <| Rh z hc308 (l1 agg_73 z fid (((h138.ext s203).ext s304).at z)) <| Rh z hc308 (mv z) <| Rh z hc308 (rd_sub z z) ?_
    obtain ⟨x312, e313, hm314⟩ := bdS (ifT hm307 hc308)
    refine RXg z z hc308 z (at_ (α := Int) und_73 size_3 z z z (h258.ext s304) e313) ?_
    rintro _ ⟨b316, o317, cs318, rfl, h319, h320, h321⟩
    obtain ⟨rfl, h322⟩ := Int_open h320
    exact Rh z hc308 (l1 agg_3 z fid (h319.at0 z)) <| Rh z hc308 (mv z) <| Rh z hc308 (rd_geq z z) <| Rh z hc305 (pT z hc308 z) <| R z (pF z hc305 z) <| Wl <| fun _ q => ⟨decide (x255 ≤ x312), som hm314, (q.weaken (s6 z z z z z z)), s304⟩
   iterate 8 refine Nh z hc308 ?_
   exact Rh z hc305 (pF z hc308 z) <| R z (pF z hc305 z) <| Wl <| fun _ q => ⟨false, som (ifF hm307 hc308), (q.weaken (s6 z z z z z z)), s304⟩
  rintro a324 w325 ⟨x293, rfl, hS326, s327⟩
  revert a324
  refine Wo <| Wc z (fun hc338 => ?_) (fun hc338 => ?_)
  ·exact Ws <| Ra z <| Wn <| Wr (rtO (QO_retL (som (ifT hm296 hc338)).symm (ret1 hr z ⟨(bup (bup (bup (bup (bup (bup h23 h27) s91) s104) s136) s203) s327), z⟩)))
  exact Wk <| Wg <| R z (inc_ hk201 (lt_ (repS.len p2_6) LEN_le) z z) <| Rm z <| Wl <| fun _ q => ⟨(), (som (ifF hm296 hc338)).symm, ⟨(q.weaken (s5 z z z z z)), (bup s203 s327)⟩⟩
 ·rintro _ a348 w349 ⟨hS350, s351⟩
  refine Wu (e := [(3, (.pointer (some ⟨w21.heap.size, 0, none⟩))), (5, (vI r132)), (29, (.slice pa2_6 pn2_6 pc2_6)), (30, (vI (x2.tags.length : Int))), (31, (vI ((x2.tags.length : Nat) : Int)))]) (N := 57) ?_ hS350
  refine Ws <| R z (lss z z) <| Wn <| Wq <| Wc z (fun hc => (noltt hc).elim) (fun _ => ?_)
  exact WC_exit (fun a' ha' => ⟨rfl, ⟨(Sat.weaken ha' (s1 z)), s351⟩⟩)
 ·rintro _ a352 w353 rfl ⟨hS354, s355⟩
  have hm356 := elL hm196
  revert a352
  refine Wo <| Ws <| Rm z <| R z (rd_gtr z z) <| Ra z <| Wn ?_
  obtain rfl := som hm356
  exact Wr (ret1 hr z ⟨(bup (bup (bup (bup (bup h23 h27) s91) s104) s136) s355), z⟩)
 rintro r362 ex363 a364 w365 rfl ⟨rfl, hq366⟩
 have hm367 := elR hm196
 obtain rfl := som hm367
 exact ⟨hq366, z⟩
def Q_impl_validKind (w0 : World) (B : Nat) (r : Bool) (v : Value) (w' : World) : Prop := Below w0.heap.size w0 w' ∧ (fun r1 => (vB r1) = v) r
theorem W_impl_validKind {x1 : Desc} {x2 : Rule} {res : Bool} (hm : M_impl_validKind n x1 x2 = some res) (hBw : B ≤ w0.heap.size) (p1_0 : repS w0 B (.slice pa1_0 pn1_0 pc1_0) x1.rules) (p2_0 : x2.name.b.length ≤ LEN) (p2_1 : inI x2.kind) (p2_2 : inI x2.size) (p2_4 : repS w0 B (.slice pa2_4 pn2_4 pc2_4) x2.bytes) (p2_5 : repS w0 B (.slice pa2_5 pn2_5 pc2_5) x2.names) (p2_6 : repS w0 B (.slice pa2_6 pn2_6 pc2_6) x2.tags) (p2_7 : repS w0 B (.slice pa2_7 pn2_7 pc2_7) x2.kids) : CallsR Tryz.prog 104 [(.agg #[(.slice pa1_0 pn1_0 pc1_0)]), (.agg #[(Str.v x2.name), (vI x2.kind), (vI x2.size), (vB x2.little), (.slice pa2_4 pn2_4 pc2_4), (.slice pa2_5 pn2_5 pc2_5), (.slice pa2_6 pn2_6 pc2_6), (.slice pa2_7 pn2_7 pc2_7)])] w0 (Q_impl_validKind w0 B res) := by
 unfold M_impl_validKind at hm
 obtain ⟨fn, hf, hb, hN, hr⟩ := fnE Tryz.func104
 refine goW hf (hb.trans z) (hN.trans z) (lb z) <| Ws <| E z (fb z) ?_
 rintro _ w21 ⟨rfl, h22⟩
 have h23 := h22.below
 have h24 : Blk w21 w0.heap.size [(.slice pa1_0 pn1_0 pc1_0)] := h22.blk
 refine E z (fb z) ?_
 rintro _ w25 ⟨rfl, h26⟩
 have h27 := h26.below
 have h28 : Blk w25 w21.heap.size [(Str.v x2.name), (vI x2.kind), (vI x2.size), (vB x2.little), (.slice pa2_4 pn2_4 pc2_4), (.slice pa2_5 pn2_5 pc2_5), (.slice pa2_6 pn2_6 pc2_6), (.slice pa2_7 pn2_7 pc2_7)] := h26.blk
 refine Ra z <| Wn <| Wq <| Ws <| R z (fd fld_82_1 z) <| R z (l1 agg_3 z fid (h28.at z)) <| Wn <| WC_block <| Ws <| R z (eql z z) <| Ra z <| Wn <| Wc z (fun hc810 => ?_) (fun hc810 => ?_)
 ·refine Wq ?_
  obtain ⟨u846, hu847, hm848⟩ := bdS (ifT hm hc810)
  refine WC_cut (fun a w => ∃ (x845 : Bool), x845 = u846 ∧ Sat 102 [(4, (vB x845))] a ∧ Below w25.heap.size w25 w) ?_ ?_
  ·refine Wg <| R z (lN (vs := [(Str.v x2.name), (vI x2.kind), (vI x2.size), (vB x2.little), (.slice pa2_4 pn2_4 pc2_4), (.slice pa2_5 pn2_5 pc2_5), (.slice pa2_6 pn2_6 pc2_6), (.slice pa2_7 pn2_7 pc2_7)]) agg_82 size_82 z z fid (h28.row 0 8 z)) ?_
   have h857 := lt_ h23.size h27.size
   obtain ⟨r859, e860, hm861⟩ := bdS hu847
   refine E z (fc Tryz.call137 z (W_impl_plainRule (B := B) e860 (lt_ hBw h857) p2_0 p2_1 p2_2 ((p2_4.ext h23).ext h27) ((p2_5.ext h23).ext h27) ((p2_6.ext h23).ext h27) ((p2_7.ext h23).ext h27) (ii z))) ?_
   rintro _ w862 ⟨s863, rfl⟩
   refine Rm z ?_
   rcases bsplit r859 with hc864 | hc864
   ·refine Rh z hc864 (fd fld_82_2 z) ?_
    have h866 := h28.ext s863
    refine Rh z hc864 (l1 agg_3 z fid (h866.at z)) ?_
    obtain ⟨r869, e870, hm871⟩ := bdS (ifT hm861 hc864)
    refine Eg z z hc864 z (fc Tryz.call81 z (W_impl_InRange (B := B) e870 (lt_ hBw (lt_ h857 s863.size)) p2_2 (ii z) (ii z))) ?_
    rintro _ w872 ⟨s873, rfl⟩
    refine R z (pT z hc864 z) <| Rm z ?_
    rcases bsplit r869 with hc874 | hc874
    ·have hm875 := ifT hm871 hc874
     refine Rh z hc874 (fd fld_82_3 z) ?_
     have h876 := h866.ext s873
     refine Rh z hc874 (l1 agg_4 z fid (h876.at z)) <| Rh z hc874 (not_ z) <| Rh z hc874 (mv z) ?_
     rcases bsplit (!x2.little) with hc877 | hc877
     ·iterate 3 refine Nh z hc877 ?_
      exact Rh z hc874 (pT z hc877 z) <| R z (pT z hc874 z) <| Ra z <| Wl <| fun _ q => ⟨true, som (ifT hm875 hc877), (q.weaken (s1 z)), (bup s863 s873)⟩
     exact Rh z hc877 (fd fld_82_2 z) <| Rh z hc877 (l1 agg_3 z fid (h876.at z)) <| Rh z hc877 (rd_gtr z z) <| Rh z hc874 (pF z hc877 z) <| R z (pT z hc874 z) <| Ra z <| Wl <| fun _ q => ⟨decide (1 < x2.size), som (ifF hm875 hc877), (q.weaken (s1 z)), (bup s863 s873)⟩
    iterate 4 refine Nh z hc874 ?_
    exact Nv z <| Nv z <| Nv z <| Nh z hc874 <| R z (pF z hc874 z) <| Ra z <| Wl <| fun _ q => ⟨false, som (ifF hm871 hc874), (q.weaken (s1 z)), (bup s863 s873)⟩
   iterate 3 refine Nh z hc864 ?_
   exact R z (pF z hc864 z) <| Rm z <| Nh z z <| Nh z z <| Nh z z <| Nh z z <| Nv z <| Nv z <| Nv z <| Nh z z <| R z (pF z z z) <| Ra z <| Wl <| fun _ q => ⟨false, som (ifF hm861 hc864), (q.weaken (s1 z)), s863⟩
  rintro a885 w886 ⟨x845, rfl, hS887, s888⟩
  revert a885
  refine Wo ?_
  obtain rfl := som hm848
  exact Wr (rtO (ret1 hr z ⟨(bup (bup h23 h27) s888), z⟩))
 have hm891 := ifF hm hc810
 refine Ws <| R z (eql z z) <| Ra z <| Wn <| Wc z (fun hc1230 => ?_) (fun hc1230 => ?_)
 ·refine Wq ?_
  obtain ⟨u1260, hu1261, hm1262⟩ := bdS (ifT hm891 hc1230)
  refine WC_cut (fun a w => ∃ (x1259 : Bool), x1259 = u1260 ∧ Sat 102 [(4, (vB x1259))] a ∧ Below w25.heap.size w25 w) ?_ ?_
  ·refine Wg <| R z (lN (vs := [(Str.v x2.name), (vI x2.kind), (vI x2.size), (vB x2.little), (.slice pa2_4 pn2_4 pc2_4), (.slice pa2_5 pn2_5 pc2_5), (.slice pa2_6 pn2_6 pc2_6), (.slice pa2_7 pn2_7 pc2_7)]) agg_82 size_82 z z fid (h28.row 0 8 z)) ?_
   have h1264 := (p2_4.ext h23).ext h27
   have h1271 := lt_ h23.size h27.size
   obtain ⟨r1273, e1274, hm1275⟩ := bdS hu1261
   refine E z (fc Tryz.call137 z (W_impl_plainRule (B := B) e1274 (lt_ hBw h1271) p2_0 p2_1 p2_2 h1264 ((p2_5.ext h23).ext h27) ((p2_6.ext h23).ext h27) ((p2_7.ext h23).ext h27) (ii z))) ?_
   rintro _ w1276 ⟨s1277, rfl⟩
   refine Rm z ?_
   rcases bsplit r1273 with hc1278 | hc1278
   ·refine Rh z hc1278 (fd fld_82_4 z) <| Rh z hc1278 (l1 agg_25 z fid ((h28.ext s1277).at z)) ?_
    have h1281 := h1264.ext s1277
    refine Rh z hc1278 (lnR und_25 z h1281) ?_
    obtain ⟨r1284, e1285, hm1286⟩ := bdS (ifT hm1275 hc1278)
    refine Eg z z hc1278 z (fc Tryz.call81 z (W_impl_InRange (B := B) e1285 (lt_ hBw (lt_ h1271 s1277.size)) (inI_len (repS.len h1281)) (ii z) (ii z))) ?_
    rintro _ w1287 ⟨s1288, rfl⟩
    exact R z (pT z hc1278 z) <| Ra z <| Wl <| fun _ q => ⟨r1284, som hm1286, (q.weaken (s1 z)), (bup s1277 s1288)⟩
   iterate 4 refine Nh z hc1278 ?_
   exact R z (pF z hc1278 z) <| Ra z <| Wl <| fun _ q => ⟨false, som (ifF hm1275 hc1278), (q.weaken (s1 z)), s1277⟩
  rintro a1291 w1292 ⟨x1259, rfl, hS1293, s1294⟩
  revert a1291
  refine Wo ?_
  obtain rfl := som hm1262
  exact Wr (rtO (ret1 hr z ⟨(bup (bup h23 h27) s1294), z⟩))
 have hm1297 := ifF hm891 hc1230
 refine Ws <| R z (eql z z) <| Ra z <| Wn <| Wc z (fun hc1595 => ?_) (fun hc1595 => ?_)
 ·refine Wq ?_
  obtain ⟨u1624, hu1625, hm1626⟩ := bdS (ifT hm1297 hc1595)
  refine WC_cut (fun a w => ∃ (x1623 : Bool), x1623 = u1624 ∧ Sat 102 [(4, (vB x1623))] a ∧ Below w25.heap.size w25 w) ?_ ?_
  ·refine Wg <| R z (lN (vs := [(Str.v x2.name), (vI x2.kind), (vI x2.size), (vB x2.little), (.slice pa2_4 pn2_4 pc2_4), (.slice pa2_5 pn2_5 pc2_5), (.slice pa2_6 pn2_6 pc2_6), (.slice pa2_7 pn2_7 pc2_7)]) agg_82 size_82 z z fid (h28.row 0 8 z)) ?_
   have h1635 := lt_ h23.size h27.size
   obtain ⟨r1637, e1638, hm1639⟩ := bdS hu1625
   refine E z (fc Tryz.call137 z (W_impl_plainRule (B := B) e1638 (lt_ hBw h1635) p2_0 p2_1 p2_2 ((p2_4.ext h23).ext h27) ((p2_5.ext h23).ext h27) ((p2_6.ext h23).ext h27) ((p2_7.ext h23).ext h27) (ii z))) ?_
   rintro _ w1640 ⟨s1641, rfl⟩
   refine Rm z ?_
   rcases bsplit r1637 with hc1642 | hc1642
   ·refine Rh z hc1642 (fd fld_82_2 z) <| Rh z hc1642 (l1 agg_3 z fid ((h28.ext s1641).at z)) ?_
    obtain ⟨r1647, e1648, hm1649⟩ := bdS (ifT hm1639 hc1642)
    refine Eg z z hc1642 z (fc Tryz.call81 z (W_impl_InRange (B := B) e1648 (lt_ hBw (lt_ h1635 s1641.size)) p2_2 (ii z) (ii z))) ?_
    rintro _ w1650 ⟨s1651, rfl⟩
    exact R z (pT z hc1642 z) <| Ra z <| Wl <| fun _ q => ⟨r1647, som hm1649, (q.weaken (s1 z)), (bup s1641 s1651)⟩
   iterate 3 refine Nh z hc1642 ?_
   exact R z (pF z hc1642 z) <| Ra z <| Wl <| fun _ q => ⟨false, som (ifF hm1639 hc1642), (q.weaken (s1 z)), s1641⟩
  rintro a1654 w1655 ⟨x1623, rfl, hS1656, s1657⟩
  revert a1654
  refine Wo ?_
  obtain rfl := som hm1626
  exact Wr (rtO (ret1 hr z ⟨(bup (bup h23 h27) s1657), z⟩))
 have hm1660 := ifF hm1297 hc1595
 refine Ws <| R z (eql z z) <| Ra z <| Wn <| Wc z (fun hc1919 => ?_) (fun hc1919 => ?_)
 ·refine Wq ?_
  obtain ⟨u1975, hu1976, hm1977⟩ := bdS (ifT hm1660 hc1919)
  refine WC_cut (fun a w => ∃ (x1974 : Bool), x1974 = u1975 ∧ Sat 102 [(4, (vB x1974))] a ∧ Below w25.heap.size w25 w) ?_ ?_
  ·refine WC_draw (X := noX) 0 (.rd 0 (.ef 1 (.rd 2 (.rd 3 (.rd 4 (.rd 5 (.rd 6 (.rd 7 (.ef 8 (.rd 9 (.rd 10 (.rd 11 .done)))))))))))) mo (by kernel_rfl) fun w1978 s1979 _ => ?_
   have h1980 := h28.ext s1979
   refine dR z z (lN (vs := [(Str.v x2.name), (vI x2.kind), (vI x2.size), (vB x2.little), (.slice pa2_4 pn2_4 pc2_4), (.slice pa2_5 pn2_5 pc2_5), (.slice pa2_6 pn2_6 pc2_6), (.slice pa2_7 pn2_7 pc2_7)]) agg_82 size_82 z z fid (h1980.row 0 8 z)) ?_
   have h1992 := ((p2_7.ext h23).ext h27).ext s1979
   have h1994 := lt_ (lt_ h23.size h27.size) s1979.size
   obtain ⟨r1996, e1997, hm1998⟩ := bdS hu1976
   refine dE z z (fc Tryz.call137 z (W_impl_plainRule (B := B) e1997 (lt_ hBw h1994) p2_0 p2_1 p2_2 (((p2_4.ext h23).ext h27).ext s1979) (((p2_5.ext h23).ext h27).ext s1979) (((p2_6.ext h23).ext h27).ext s1979) h1992 (ii z))) (.inr fun _ _ h => chgB (h.1)) ?_
   rintro _ w1999 ⟨s2000, rfl⟩
   refine dR z z (mv z) ?_
   rcases bsplit r1996 with hc2001 | hc2001
   ·refine dRg z z z hc2001 z (lN (vs := [(.slice pa1_0 pn1_0 pc1_0)]) agg_31 size_31 z z fid ((((h24.ext h27).ext s1979).ext s2000).row 0 1 z)) <| dRg z z z hc2001 z (fd fld_82_7 z) <| dRg z z z hc2001 z (l1 agg_73 z fid ((h1980.ext s2000).at z)) ?_
    obtain ⟨x2007, e2008, hm2009⟩ := bdS (ifT hm1998 hc2001)
    refine dRXg z z z hc2001 z (at_ (α := Int) und_73 size_3 z z z (h1992.ext s2000) e2008) ?_
    rintro _ ⟨b2011, o2012, cs2013, rfl, h2014, h2015, h2016⟩
    obtain ⟨rfl, h2017⟩ := Int_open h2015
    refine dRg z z z hc2001 z (l1 agg_3 z fid (h2014.at0 z)) ?_
    obtain ⟨r2024, e2025, hm2026⟩ := bdS hm2009
    refine dEg z z z hc2001 z (fc Tryz.call138 z (W_impl_IntegerLimit (B := B) e2025 (lt_ hBw (lt_ h1994 s2000.size)) ((((p1_0.ext h23).ext h27).ext s1979).ext s2000) h2017)) (.inr fun _ _ h => chgB (h.1)) ?_
    rintro _ w2027 ⟨s2028, rfl, h2029⟩
    exact dRg z z z hc2001 z (rd_gtr z z) <| dR z z (pT z hc2001 z) <| dR z z (asg z) <| PR_done <| fun _ q => ⟨decide (0 < r2024), som hm2026, (q.weaken (s1 z)), (bup (bup s1979 s2000) s2028)⟩
   iterate 5 refine dRn z z z hc2001 z ?_
   exact dEn z z z hc2001 z <| dRn z z z hc2001 z <| dR z z (pF z hc2001 z) <| dR z z (asg z) <| PR_done <| fun _ q => ⟨false, som (ifF hm1998 hc2001), (q.weaken (s1 z)), (bup s1979 s2000)⟩
  rintro a2034 w2035 ⟨x1974, rfl, hS2036, s2037⟩
  revert a2034
  refine Wo ?_
  obtain rfl := som hm1977
  exact Wr (rtO (ret1 hr z ⟨(bup (bup h23 h27) s2037), z⟩))
 have hm2040 := ifF hm1660 hc1919
 refine Ws <| R z (eql z z) <| Ra z <| Wn <| Wc z (fun hc2234 => ?_) (fun hc2234 => ?_)
 ·refine Wq ?_
  obtain ⟨u2290, hu2291, hm2292⟩ := bdS (ifT hm2040 hc2234)
  refine WC_cut (fun a w => ∃ (x2289 : Bool), x2289 = u2290 ∧ Sat 102 [(4, (vB x2289))] a ∧ Below w25.heap.size w25 w) ?_ ?_
  ·refine WC_draw (X := noX) 0 (.rd 0 (.ef 1 (.rd 2 (.rd 3 (.rd 4 (.rd 5 (.rd 6 (.rd 7 (.ef 8 (.rd 9 (.rd 10 (.rd 11 .done)))))))))))) mo (by kernel_rfl) fun w2293 s2294 _ => ?_
   have h2295 := h28.ext s2294
   refine dR z z (lN (vs := [(Str.v x2.name), (vI x2.kind), (vI x2.size), (vB x2.little), (.slice pa2_4 pn2_4 pc2_4), (.slice pa2_5 pn2_5 pc2_5), (.slice pa2_6 pn2_6 pc2_6), (.slice pa2_7 pn2_7 pc2_7)]) agg_82 size_82 z z fid (h2295.row 0 8 z)) ?_
   have h2307 := ((p2_7.ext h23).ext h27).ext s2294
   have h2309 := lt_ (lt_ h23.size h27.size) s2294.size
   obtain ⟨r2311, e2312, hm2313⟩ := bdS hu2291
   refine dE z z (fc Tryz.call137 z (W_impl_plainRule (B := B) e2312 (lt_ hBw h2309) p2_0 p2_1 p2_2 (((p2_4.ext h23).ext h27).ext s2294) (((p2_5.ext h23).ext h27).ext s2294) (((p2_6.ext h23).ext h27).ext s2294) h2307 (ii z))) (.inr fun _ _ h => chgB (h.1)) ?_
   rintro _ w2314 ⟨s2315, rfl⟩
   refine dR z z (mv z) ?_
   rcases bsplit r2311 with hc2316 | hc2316
   ·refine dRg z z z hc2316 z (lN (vs := [(.slice pa1_0 pn1_0 pc1_0)]) agg_31 size_31 z z fid ((((h24.ext h27).ext s2294).ext s2315).row 0 1 z)) <| dRg z z z hc2316 z (fd fld_82_7 z) <| dRg z z z hc2316 z (l1 agg_73 z fid ((h2295.ext s2315).at z)) ?_
    obtain ⟨x2322, e2323, hm2324⟩ := bdS (ifT hm2313 hc2316)
    refine dRXg z z z hc2316 z (at_ (α := Int) und_73 size_3 z z z (h2307.ext s2315) e2323) ?_
    rintro _ ⟨b2326, o2327, cs2328, rfl, h2329, h2330, h2331⟩
    obtain ⟨rfl, h2332⟩ := Int_open h2330
    refine dRg z z z hc2316 z (l1 agg_3 z fid (h2329.at0 z)) ?_
    obtain ⟨r2339, e2340, hm2341⟩ := bdS hm2324
    refine dEg z z z hc2316 z (fc Tryz.call138 z (W_impl_IntegerLimit (B := B) e2340 (lt_ hBw (lt_ h2309 s2315.size)) ((((p1_0.ext h23).ext h27).ext s2294).ext s2315) h2332)) (.inr fun _ _ h => chgB (h.1)) ?_
    rintro _ w2342 ⟨s2343, rfl, h2344⟩
    exact dRg z z z hc2316 z (rd_gtr z z) <| dR z z (pT z hc2316 z) <| dR z z (asg z) <| PR_done <| fun _ q => ⟨decide (0 < r2339), som hm2341, (q.weaken (s1 z)), (bup (bup s2294 s2315) s2343)⟩
   iterate 5 refine dRn z z z hc2316 z ?_
   exact dEn z z z hc2316 z <| dRn z z z hc2316 z <| dR z z (pF z hc2316 z) <| dR z z (asg z) <| PR_done <| fun _ q => ⟨false, som (ifF hm2313 hc2316), (q.weaken (s1 z)), (bup s2294 s2315)⟩
  rintro a2349 w2350 ⟨x2289, rfl, hS2351, s2352⟩
  revert a2349
  refine Wo ?_
  obtain rfl := som hm2292
  exact Wr (rtO (ret1 hr z ⟨(bup (bup h23 h27) s2352), z⟩))
 have hm2355 := ifF hm2040 hc2234
 refine Ws <| R z (eql z z) <| Ra z <| Wn <| Wc z (fun hc2485 => ?_) (fun hc2485 => ?_)
 ·refine Ws <| R z (lN (vs := [(Str.v x2.name), (vI x2.kind), (vI x2.size), (vB x2.little), (.slice pa2_4 pn2_4 pc2_4), (.slice pa2_5 pn2_5 pc2_5), (.slice pa2_6 pn2_6 pc2_6), (.slice pa2_7 pn2_7 pc2_7)]) agg_82 size_82 z z fid (h28.row 0 8 z)) ?_
  obtain ⟨r2497, e2498, hm2499⟩ := bdS (ifT hm2355 hc2485)
  refine E z (fc Tryz.call139 z (W_impl_validSequence (B := B) e2498 (lt_ hBw (lt_ h23.size h27.size)) p2_0 p2_1 p2_2 ((p2_4.ext h23).ext h27) ((p2_5.ext h23).ext h27) ((p2_6.ext h23).ext h27) ((p2_7.ext h23).ext h27))) ?_
  rintro _ w2500 ⟨s2501, rfl⟩
  refine Ra z <| Wn ?_
  obtain rfl := som hm2499
  exact Wr (rtO (ret1 hr z ⟨(bup (bup h23 h27) s2501), z⟩))
 have hm2504 := ifF hm2355 hc2485
 refine Ws <| R z (eql z z) <| Ra z <| Wn <| Wc z (fun hc2610 => ?_) (fun hc2610 => ?_)
 ·refine Ws <| R z (lN (vs := [(.slice pa1_0 pn1_0 pc1_0)]) agg_31 size_31 z z fid ((h24.ext h27).row 0 1 z)) <| R z (lN (vs := [(Str.v x2.name), (vI x2.kind), (vI x2.size), (vB x2.little), (.slice pa2_4 pn2_4 pc2_4), (.slice pa2_5 pn2_5 pc2_5), (.slice pa2_6 pn2_6 pc2_6), (.slice pa2_7 pn2_7 pc2_7)]) agg_82 size_82 z z fid (h28.row 0 8 z)) ?_
  obtain ⟨r2625, e2626, hm2627⟩ := bdS (ifT hm2504 hc2610)
  refine E z (fc Tryz.call140 z (W_impl_validChoice (B := B) e2626 (lt_ hBw (lt_ h23.size h27.size)) ((p1_0.ext h23).ext h27) p2_0 p2_1 p2_2 ((p2_4.ext h23).ext h27) ((p2_5.ext h23).ext h27) ((p2_6.ext h23).ext h27) ((p2_7.ext h23).ext h27))) ?_
  rintro _ w2628 ⟨s2629, rfl⟩
  refine Ra z <| Wn ?_
  obtain rfl := som hm2627
  exact Wr (rtO (ret1 hr z ⟨(bup (bup h23 h27) s2629), z⟩))
 refine Wq <| Ws <| R z (eql z z) <| Ra z <| Wn ?_
 obtain ⟨u2637, hu2638, hm2639⟩ := bdS (ifF hm2504 hc2610)
 refine WC_cut (fun a w => ∃ (x2636 : Bool), x2636 = u2637 ∧ Sat 102 [(3, (.pointer (some ⟨w21.heap.size, 0, none⟩))), (6, (vI x2.kind)), (80, (vB x2636))] a ∧ Below w25.heap.size w25 w) ?_ ?_
 ·refine Wc z (fun hc2640 => ?_) (fun hc2640 => ?_)
  ·exact WC_skip <| fun _ q => ⟨x2.kind == 8, som (ifT hu2638 hc2640), (q.weaken (s3 z z z)), (br w25)⟩
  exact Wg <| R z (eql z z) <| Ra z <| Wl <| fun _ q => ⟨x2.kind == 9, som (ifF hu2638 hc2640), (q.weaken (s3 z z z)), (br w25)⟩
 rintro a2643 w2644 ⟨x2636, rfl, hS2645, s2646⟩
 revert a2643
 refine Wo <| Wc z (fun hc2722 => ?_) (fun hc2722 => ?_)
 ·refine Ws <| R z (lN (vs := [(Str.v x2.name), (vI x2.kind), (vI x2.size), (vB x2.little), (.slice pa2_4 pn2_4 pc2_4), (.slice pa2_5 pn2_5 pc2_5), (.slice pa2_6 pn2_6 pc2_6), (.slice pa2_7 pn2_7 pc2_7)]) agg_82 size_82 z z fid ((h28.ext s2646).row 0 8 z)) ?_
  obtain ⟨r2740, e2741, hm2742⟩ := bdS (ifT hm2639 hc2722)
  refine E z (fc Tryz.call137 z (W_impl_plainRule (B := B) e2741 (lt_ hBw (lt_ (lt_ h23.size h27.size) s2646.size)) p2_0 p2_1 p2_2 (((p2_4.ext h23).ext h27).ext s2646) (((p2_5.ext h23).ext h27).ext s2646) (((p2_6.ext h23).ext h27).ext s2646) (((p2_7.ext h23).ext h27).ext s2646) (ii z))) ?_
  rintro _ w2743 ⟨s2744, rfl⟩
  refine Ra z <| Wn ?_
  obtain rfl := som hm2742
  exact Wr (rtO (ret1 hr z ⟨(bup (bup (bup h23 h27) s2646) s2744), z⟩))
 have hm2748 := ifF hm2639 hc2722
 refine Ws <| R z (eql z z) <| Ra z <| Wn <| Wc z (fun hc2795 => ?_) (fun hc2795 => ?_)
 ·refine Wq ?_
  obtain ⟨u2836, hu2837, hm2838⟩ := bdS (ifT hm2748 hc2795)
  refine WC_cut (fun a w => ∃ (x2835 : Bool), x2835 = u2836 ∧ Sat 102 [(4, (vB x2835))] a ∧ Below w2644.heap.size w2644 w) ?_ ?_
  ·refine Wg ?_
   have h2839 := h28.ext s2646
   refine R z (lN (vs := [(Str.v x2.name), (vI x2.kind), (vI x2.size), (vB x2.little), (.slice pa2_4 pn2_4 pc2_4), (.slice pa2_5 pn2_5 pc2_5), (.slice pa2_6 pn2_6 pc2_6), (.slice pa2_7 pn2_7 pc2_7)]) agg_82 size_82 z z fid (h2839.row 0 8 z)) ?_
   have h2842 := ((p2_4.ext h23).ext h27).ext s2646
   obtain ⟨r2855, e2856, hm2857⟩ := bdS hu2837
   refine E z (fc Tryz.call137 z (W_impl_plainRule (B := B) e2856 (lt_ hBw (lt_ (lt_ h23.size h27.size) s2646.size)) p2_0 p2_1 p2_2 h2842 (((p2_5.ext h23).ext h27).ext s2646) (((p2_6.ext h23).ext h27).ext s2646) (((p2_7.ext h23).ext h27).ext s2646) (ii z))) ?_
   rintro _ w2858 ⟨s2859, rfl⟩
   refine Rm z ?_
   rcases bsplit r2855 with hc2860 | hc2860
   ·have hm2861 := ifT hm2857 hc2860
    refine Rh z hc2860 (fd fld_82_4 z) ?_
    have h2862 := h2839.ext s2859
    refine Rh z hc2860 (l1 agg_25 z fid (h2862.at z)) ?_
    have h2863 := h2842.ext s2859
    refine Rh z hc2860 (lnR und_25 z h2863) <| Rh z hc2860 (eql z z) <| R z (pT z hc2860 z) <| Rm z ?_
    rcases bsplit ((x2.bytes.length : Int) == 1) with hc2864 | hc2864
    ·refine Rh z hc2864 (fd fld_82_4 z) <| Rh z hc2864 (l1 agg_25 z fid (h2862.at z)) ?_
     obtain ⟨x2866, e2867, hm2868⟩ := bdS (ifT hm2861 hc2864)
     refine RXg z z hc2864 z (at_ (α := UInt8) und_25 size_5 z z z h2863 e2867) ?_
     rintro _ ⟨b2869, o2870, cs2871, rfl, h2872, h2873, h2874⟩
     obtain rfl := UInt8_open h2873
     exact Rh z hc2864 (l1 agg_5 z fid (h2872.at0 z)) <| Rh z hc2864 (rd_neq z z) <| R z (pT z hc2864 z) <| Ra z <| Wl <| fun _ q => ⟨(byteI x2866) != (byteI (92 : UInt8)), som hm2868, (q.weaken (s1 z)), s2859⟩
    iterate 5 refine Nh z hc2864 ?_
    exact R z (pF z hc2864 z) <| Ra z <| Wl <| fun _ q => ⟨false, som (ifF hm2861 hc2864), (q.weaken (s1 z)), s2859⟩
   iterate 4 refine Nh z hc2860 ?_
   exact R z (pF z hc2860 z) <| Rm z <| Nh z z <| Nh z z <| Nh z z <| Nh z z <| Nh z z <| R z (pF z z z) <| Ra z <| Wl <| fun _ q => ⟨false, som (ifF hm2857 hc2860), (q.weaken (s1 z)), s2859⟩
  rintro a2877 w2878 ⟨x2835, rfl, hS2879, s2880⟩
  revert a2877
  refine Wo ?_
  obtain rfl := som hm2838
  exact Wr (rtO (ret1 hr z ⟨(bup (bup (bup h23 h27) s2646) s2880), z⟩))
 refine Wk <| Ws <| Ra z <| Wn ?_
 obtain rfl := som (ifF hm2748 hc2795)
 exact Wr (ret1 hr z ⟨(bup (bup h23 h27) s2646), z⟩)
def Q_impl_IsValidRule (w0 : World) (B : Nat) (r : Bool) (v : Value) (w' : World) : Prop := Below w0.heap.size w0 w' ∧ (fun r1 => (vB r1) = v) r
theorem W_impl_IsValidRule {x1 : Desc} {x2 : Int} {res : Bool} (hm : M_impl_IsValidRule n x1 x2 = some res) (hBw : B ≤ w0.heap.size) (p1_0 : repS w0 B (.slice pa1_0 pn1_0 pc1_0) x1.rules) (p2_0 : inI x2) : CallsR Tryz.prog 82 [(.agg #[(.slice pa1_0 pn1_0 pc1_0)]), (vI x2)] w0 (Q_impl_IsValidRule w0 B res) := by
 unfold M_impl_IsValidRule at hm
 obtain ⟨fn, hf, hb, hN, hr⟩ := fnE Tryz.func82
 refine goW hf (hb.trans z) (hN.trans z) (lb z) <| Ws <| E z (fb z) ?_
 rintro _ w21 ⟨rfl, h22⟩
 have h23 := h22.below
 have h24 : Blk w21 w0.heap.size [(.slice pa1_0 pn1_0 pc1_0)] := h22.blk
 refine Ra z <| Wn <| Wq <| Ws <| R z (lN (vs := [(.slice pa1_0 pn1_0 pc1_0)]) agg_31 size_31 z z fid (h24.row 0 1 z)) <| Rm z ?_
 have h25 := p1_0.ext h23
 obtain ⟨r27, e28, hm29⟩ := bdS hm
 refine E z (fc Tryz.call103 z (W_impl_hasRule (B := B) e28 (lt_ hBw h23.size) h25 p2_0)) ?_
 rintro _ w30 ⟨s31, rfl⟩
 refine R z (not_ z) <| Wn <| Wc z (fun hc37 => ?_) (fun hc37 => ?_)
 ·refine Ws <| Ra z <| Wn ?_
  obtain rfl := som (ifT hm29 hc37)
  exact Wr (ret1 hr z ⟨(bup h23 s31), z⟩)
 refine Wk <| Ws <| R z (fd fld_31_0 z) ?_
 have h41 := h24.ext s31
 refine R z (l1 agg_29 z fid (h41.at z)) <| Rm z ?_
 obtain ⟨x42, e43, hm44⟩ := bdS (ifF hm29 hc37)
 have h45 := h25.ext s31
 refine RX z (at_ (α := Rule) und_29 size_82 z z z h45 e43) ?_
 rintro _ ⟨b46, o47, cs48, rfl, h49, h50, h51⟩
 obtain ⟨a55, n56, c57, a59, n60, c61, a63, n64, c65, a67, n68, c69, rfl, h52, h53, h54, h58, h62, h66, h70⟩ := Rule_open h50
 refine R z (lN (vs := [(Str.v x42.name), (vI x42.kind), (vI x42.size), (vB x42.little), (.slice a55 n56 c57), (.slice a59 n60 c61), (.slice a63 n64 c65), (.slice a67 n68 c69)]) agg_82 size_82 z z fid h49) <| E z (fa zero_82) ?_
 rintro _ w71 ⟨rfl, h72⟩
 have h73 := h72.below
 have h74 : Blk w71 w30.heap.size [(Str.v (⟨[]⟩ : Str)), (vI 0), (vI 0), (vB false), (.slice none 0 0), (.slice none 0 0), (.slice none 0 0), (.slice none 0 0)] := h72.blk
 refine E0 (fs (cur' := [(Str.v x42.name), (vI x42.kind), (vI x42.size), (vB x42.little), (.slice a55 n56 c57), (.slice a59 n60 c61), (.slice a63 n64 c65), (.slice a67 n68 c69)]) size_82 z z h74 z (lb z) (oneAll z) z) ?_
 rintro _ w75 ⟨h76, s77⟩
 have h78 := s77.one
 refine Wn <| Wq <| Wq ?_
 obtain ⟨u96, hu97, hm98⟩ := bdS hm44
 refine WC_cut (fun a w => ∃ (x95 : Bool), x95 = u96 ∧ Sat 65 [(1, (vI x2)), (2, (.pointer (some ⟨w0.heap.size, 0, none⟩))), (5, (.pointer (some ⟨w30.heap.size, 0, none⟩))), (31, (vB x95))] a ∧ Below w75.heap.size w75 w) ?_ ?_
 ·refine Wg <| R z (fd fld_82_0 z) <| R z (l1 agg_9 z fid (h76.at z)) ?_
  obtain ⟨r103, e104, hm105⟩ := bdS hu97
  refine E z (fc Tryz.call101 z (W_impl_IsName (B := B) e104 (lt_ hBw (lt_ (lt_ (lt_ h23.size s31.size) h73.size) h78.size)) h52)) ?_
  rintro _ w106 ⟨s107, rfl⟩
  refine R z (not_ z) <| Rm z ?_
  rcases bsplit (!r103) with hc108 | hc108
  ·iterate 3 refine Nh z hc108 ?_
   exact Nv z <| Nv z <| Nv z <| Nh z hc108 <| R z (pT z hc108 z) <| Wl <| fun _ q => ⟨true, som (ifT hm105 hc108), (q.weaken (s4 z z z z)), s107⟩
  have hm110 := ifF hm105 hc108
  refine Rh z hc108 (fd fld_82_3 z) ?_
  have h111 := h76.ext s107
  refine Rh z hc108 (l1 agg_4 z fid (h111.at z)) <| Rh z hc108 (mv z) ?_
  rcases bsplit x42.little with hc112 | hc112
  ·exact Rh z hc112 (fd fld_82_1 z) <| Rh z hc112 (l1 agg_3 z fid (h111.at z)) <| Rh z hc112 (rd_neq z z) <| Rh z hc108 (pT z hc112 z) <| R z (pF z hc108 z) <| Wl <| fun _ q => ⟨x42.kind != 1, som (ifT hm110 hc112), (q.weaken (s4 z z z z)), s107⟩
  iterate 3 refine Nh z hc112 ?_
  exact Rh z hc108 (pF z hc112 z) <| R z (pF z hc108 z) <| Wl <| fun _ q => ⟨false, som (ifF hm110 hc112), (q.weaken (s4 z z z z)), s107⟩
 rintro a115 w116 ⟨x95, rfl, hS117, s118⟩
 revert a115
 refine Wo <| Wc z (fun hc129 => ?_) (fun hc129 => ?_)
 ·refine Ws <| Ra z <| Wn ?_
  obtain rfl := som (ifT hm98 hc129)
  exact Wr (ret1 hr z ⟨(bup (bM (bup (bup h23 s31) h73) h78 (mem1le (lt_ h23.size s31.size))) s118), z⟩)
 refine Wk <| Wq <| Ws <| R z (fd fld_31_0 z) ?_
 have h141 := ((h41.ext h73).chg h78 (djs (mm1 h24.lt s31.size))).ext s118
 refine R z (l1 agg_29 z fid (h141.at z)) <| Rm z ?_
 obtain ⟨x142, e143, hm144⟩ := bdS (ifF hm98 hc129)
 have h146 := lt_ h23.size s31.size
 have h148 := mem1le (lt_ hBw h146)
 have h150 := ((h45.ext h73).chg h78 (ltge h148)).ext s118
 refine RX z (rd_sliceX und_29 size_82 z z h150 z z e143) ?_
 rintro _ ⟨a151, n152, c153, rfl, h154⟩
 refine R z (lnR und_29 z h154) <| Rm z <| Wn ?_
 obtain ⟨u217, hu218, hm219⟩ := bdS hm144
 refine WC_forN (σ := Unit) (ρ := Bool) (fun (k220 : Nat) (_ : Unit) a w => Sat 65 [(1, (vI x2)), (2, (.pointer (some ⟨w0.heap.size, 0, none⟩))), (5, (.pointer (some ⟨w30.heap.size, 0, none⟩))), (35, (.slice a151 n152 c153)), (36, (vI (x142.length : Int))), (37, (vI ((k220 : Nat) : Int)))] a ∧ Below w116.heap.size w116 w) (fun (_ : Unit) a w => Sat 65 [(1, (vI x2)), (2, (.pointer (some ⟨w0.heap.size, 0, none⟩))), (5, (.pointer (some ⟨w30.heap.size, 0, none⟩)))] a ∧ Below w116.heap.size w116 w) (fun r ex a w => ex = .ret ∧ RetPost Tryz.prog fn (Q_impl_IsValidRule w0 B r) a w) hu218 ?_ ?_ ?_ ?_ ?_
 ·exact fun _ q => ⟨(q.weaken (s6 z z z z z z)), (br w116)⟩
 ·rintro k220 _ a221 w222 o223 hk224 ⟨hS225, s226⟩ hm227
  refine Wu (e := [(1, (vI x2)), (2, (.pointer (some ⟨w0.heap.size, 0, none⟩))), (5, (.pointer (some ⟨w30.heap.size, 0, none⟩))), (35, (.slice a151 n152 c153)), (36, (vI (x142.length : Int))), (37, (vI ((k220 : Nat) : Int)))]) (N := 65) ?_ hS225
  refine Ws <| R z (lss z z) <| Wn <| Wq <| Wc z (fun _ => ?_) (fun hc => (nolt hk224 hc).elim)
  refine Wk <| Wq <| WC_block <| Ws ?_
  obtain ⟨x290, e291, hm292⟩ := bdS hm227
  refine RX z (at_ (α := Rule) und_29 size_82 z z z (h154.ext s226) e291) ?_
  rintro _ ⟨b294, o295, cs296, rfl, h297, h298, h299⟩
  obtain ⟨a303, n304, c305, a307, n308, c309, a311, n312, c313, a315, n316, c317, rfl, h300, h301, h302, h306, h310, h314, h318⟩ := Rule_open h298
  refine R z (lN (vs := [(Str.v x290.name), (vI x290.kind), (vI x290.size), (vB x290.little), (.slice a303 n304 c305), (.slice a307 n308 c309), (.slice a311 n312 c313), (.slice a315 n316 c317)]) agg_82 size_82 z z fid h297) <| E z (fa zero_82) ?_
  rintro _ w319 ⟨rfl, h320⟩
  have h321 := h320.below
  have h322 : Blk w319 w222.heap.size [(Str.v (⟨[]⟩ : Str)), (vI 0), (vI 0), (vB false), (.slice none 0 0), (.slice none 0 0), (.slice none 0 0), (.slice none 0 0)] := h320.blk
  refine E0 (fs (cur' := [(Str.v x290.name), (vI x290.kind), (vI x290.size), (vB x290.little), (.slice a303 n304 c305), (.slice a307 n308 c309), (.slice a311 n312 c313), (.slice a315 n316 c317)]) size_82 z z h322 z (lb z) (oneAll z) z) ?_
  rintro _ w323 ⟨h324, s325⟩
  have h326 := s325.one
  refine Wn <| Ws <| R z (fd fld_82_0 z) <| R z (l1 agg_9 z fid (h324.at z)) <| R z (fd fld_82_0 z) <| R z (l1 agg_9 z fid (((((h76.ext s118).ext s226).ext h321).chg h326 (djs (mm1 h74.lt (lt_ (lt_ h78.size s118.size) s226.size)))).at z)) <| R z (rd_eqlT z z) <| Wn <| Wc z (fun hc351 => ?_) (fun hc351 => ?_)
  ·exact Ws <| Ra z <| Wn <| Wr (rtO (QO_retL (som (ifT hm292 hc351)).symm (ret1 hr z ⟨(bM (bup (bup (bup (bM (bup (bup h23 s31) h73) h78 (mem1le h146)) s118) s226) h321) h326 (mem1le (lt_ (lt_ (lt_ (lt_ h146 h73.size) h78.size) s118.size) s226.size))), z⟩)))
  exact Wk <| Wg <| R z (inc_ hk224 (lt_ (repS.len h154) LEN_le) z z) <| Rm z <| Wl <| fun _ q => ⟨(), (som (ifF hm292 hc351)).symm, ⟨(q.weaken (s6 z z z z z z)), (bM (bup s226 h321) h326 (mem1le s226.size))⟩⟩
 ·rintro _ a370 w371 ⟨hS372, s373⟩
  refine Wu (e := [(1, (vI x2)), (2, (.pointer (some ⟨w0.heap.size, 0, none⟩))), (5, (.pointer (some ⟨w30.heap.size, 0, none⟩))), (35, (.slice a151 n152 c153)), (36, (vI (x142.length : Int))), (37, (vI ((x142.length : Nat) : Int)))]) (N := 65) ?_ hS372
  refine Ws <| R z (lss z z) <| Wn <| Wq <| Wc z (fun hc => (noltt hc).elim) (fun _ => ?_)
  exact WC_exit (fun a' ha' => ⟨rfl, ⟨(Sat.weaken ha' (s3 z z z)), s373⟩⟩)
 ·rintro _ a374 w375 rfl ⟨hS376, s377⟩
  have hm378 := elL hm219
  revert a374
  refine Wo <| Wq <| Ws <| R z (fd fld_82_7 z) ?_
  have h380 := (h76.ext s118).ext s377
  refine R z (l1 agg_73 z fid (h380.at z)) ?_
  have h384 := (((h70.ext h73).chg h78 (ltge h148)).ext s118).ext s377
  refine R z (lnR und_73 z h384) <| Rm z <| Wn ?_
  obtain ⟨u413, hu414, hm415⟩ := bdS hm378
  refine WC_forN (σ := Unit) (ρ := Bool) (fun (k416 : Nat) (_ : Unit) a w => Sat 65 [(1, (vI x2)), (2, (.pointer (some ⟨w0.heap.size, 0, none⟩))), (5, (.pointer (some ⟨w30.heap.size, 0, none⟩))), (48, (.slice a67 n68 c69)), (49, (vI (x42.kids.length : Int))), (50, (vI ((k416 : Nat) : Int)))] a ∧ Below w375.heap.size w375 w) (fun (_ : Unit) a w => Sat 65 [(2, (.pointer (some ⟨w0.heap.size, 0, none⟩))), (5, (.pointer (some ⟨w30.heap.size, 0, none⟩)))] a ∧ Below w375.heap.size w375 w) (fun r ex a w => ex = .ret ∧ RetPost Tryz.prog fn (Q_impl_IsValidRule w0 B r) a w) hu414 ?_ ?_ ?_ ?_ ?_
  ·exact fun _ q => ⟨(q.weaken (s6 z z z z z z)), (br w375)⟩
  ·rintro k416 _ a417 w418 o419 hk420 ⟨hS421, s422⟩ hm423
   refine Wu (e := [(1, (vI x2)), (2, (.pointer (some ⟨w0.heap.size, 0, none⟩))), (5, (.pointer (some ⟨w30.heap.size, 0, none⟩))), (48, (.slice a67 n68 c69)), (49, (vI (x42.kids.length : Int))), (50, (vI ((k416 : Nat) : Int)))]) (N := 65) ?_ hS421
   refine Ws <| R z (lss z z) <| Wn <| Wq <| Wc z (fun _ => ?_) (fun hc => (nolt hk420 hc).elim)
   refine Wk <| Wq <| WC_block <| Ws ?_
   obtain ⟨x452, e453, hm454⟩ := bdS hm423
   refine RX z (at_ (α := Int) und_73 size_3 z z z (h384.ext s422) e453) ?_
   rintro _ ⟨b456, o457, cs458, rfl, h459, h460, h461⟩
   obtain ⟨rfl, h462⟩ := Int_open h460
   refine R z (l1 agg_3 z fid (h459.at0 z)) <| Ra z <| Wn <| Wq ?_
   obtain ⟨u467, hu468, hm469⟩ := bdS hm454
   refine WC_cut (fun a w => ∃ (x466 : Bool), x466 = u467 ∧ Sat 65 [(1, (vI x2)), (2, (.pointer (some ⟨w0.heap.size, 0, none⟩))), (5, (.pointer (some ⟨w30.heap.size, 0, none⟩))), (48, (.slice a67 n68 c69)), (49, (vI (x42.kids.length : Int))), (50, (vI ((k416 : Nat) : Int))), (60, (vB x466))] a ∧ Below w418.heap.size w418 w) ?_ ?_
   ·refine Wg <| Rm z <| R z (lss z z) <| Rm z ?_
    rcases bsplit (decide (x452 < 0)) with hc470 | hc470
    ·iterate 3 refine Nh z hc470 ?_
     exact R z (pT z hc470 z) <| Wl <| fun _ q => ⟨true, som (ifT hu468 hc470), (q.weaken (s7 z z z z z z z)), (br w418)⟩
    exact Rh z hc470 (mv z) <| Rh z hc470 (mv z) <| Rh z hc470 (rd_geq z z) <| R z (pF z hc470 z) <| Wl <| fun _ q => ⟨decide (x2 ≤ x452), som (ifF hu468 hc470), (q.weaken (s7 z z z z z z z)), (br w418)⟩
   rintro a473 w474 ⟨x466, rfl, hS475, s476⟩
   revert a473
   refine Wo <| Wc z (fun hc489 => ?_) (fun hc489 => ?_)
   ·exact Ws <| Ra z <| Wn <| Wr (rtO (QO_retL (som (ifT hm469 hc489)).symm (ret1 hr z ⟨(bup (bup (bup (bup (bM (bup (bup h23 s31) h73) h78 (mem1le h146)) s118) s377) s422) s476), z⟩)))
   exact Wk <| Wg <| R z (inc_ hk420 (lt_ (repS.len h70) LEN_le) z z) <| Rm z <| Wl <| fun _ q => ⟨(), (som (ifF hm469 hc489)).symm, ⟨(q.weaken (s6 z z z z z z)), (bup s422 s476)⟩⟩
  ·rintro _ a501 w502 ⟨hS503, s504⟩
   refine Wu (e := [(1, (vI x2)), (2, (.pointer (some ⟨w0.heap.size, 0, none⟩))), (5, (.pointer (some ⟨w30.heap.size, 0, none⟩))), (48, (.slice a67 n68 c69)), (49, (vI (x42.kids.length : Int))), (50, (vI ((x42.kids.length : Nat) : Int)))]) (N := 65) ?_ hS503
   refine Ws <| R z (lss z z) <| Wn <| Wq <| Wc z (fun hc => (noltt hc).elim) (fun _ => ?_)
   exact WC_exit (fun a' ha' => ⟨rfl, ⟨(Sat.weaken ha' (s2 z z)), s504⟩⟩)
  ·rintro _ a505 w506 rfl ⟨hS507, s508⟩
   have hm509 := elL hm415
   revert a505
   refine Wo <| Ws <| R z (lN (vs := [(.slice pa1_0 pn1_0 pc1_0)]) agg_31 size_31 z z fid (((h141.ext s377).ext s508).row 0 1 z)) <| R z (lN (vs := [(Str.v x42.name), (vI x42.kind), (vI x42.size), (vB x42.little), (.slice a55 n56 c57), (.slice a59 n60 c61), (.slice a63 n64 c65), (.slice a67 n68 c69)]) agg_82 size_82 z z fid ((h380.ext s508).row 0 8 z)) ?_
   obtain ⟨r537, e538, hm539⟩ := bdS hm509
   refine E z (fc Tryz.call104 z (W_impl_validKind (B := B) e538 (lt_ hBw (lt_ (lt_ (lt_ (lt_ (lt_ h146 h73.size) h78.size) s118.size) s377.size) s508.size)) ((h150.ext s377).ext s508) h52 h53 h54 (((((h58.ext h73).chg h78 (ltge h148)).ext s118).ext s377).ext s508) (((((h62.ext h73).chg h78 (ltge h148)).ext s118).ext s377).ext s508) (((((h66.ext h73).chg h78 (ltge h148)).ext s118).ext s377).ext s508) (h384.ext s508))) ?_
   rintro _ w540 ⟨s541, rfl⟩
   refine Ra z <| Wn ?_
   obtain rfl := som hm539
   exact Wr (ret1 hr z ⟨(bup (bup (bup (bup (bM (bup (bup h23 s31) h73) h78 (mem1le h146)) s118) s377) s508) s541), z⟩)
  rintro r550 ex551 a552 w553 rfl ⟨rfl, hq554⟩
  have hm555 := elR hm415
  obtain rfl := som hm555
  exact ⟨hq554, z⟩
 rintro r556 ex557 a558 w559 rfl ⟨rfl, hq560⟩
 have hm561 := elR hm219
 obtain rfl := som hm561
 exact ⟨hq560, z⟩
def Q_impl_IsValidDescription (w0 : World) (B : Nat) (r : Bool) (v : Value) (w' : World) : Prop := Below w0.heap.size w0 w' ∧ (fun r1 => (vB r1) = v) r
theorem W_impl_IsValidDescription {x1 : Desc} {res : Bool} (hm : M_impl_IsValidDescription n x1 = some res) (hBw : B ≤ w0.heap.size) (p1_0 : repS w0 B (.slice pa1_0 pn1_0 pc1_0) x1.rules) : CallsR Tryz.prog 47 [(.agg #[(.slice pa1_0 pn1_0 pc1_0)])] w0 (Q_impl_IsValidDescription w0 B res) := by
 unfold M_impl_IsValidDescription at hm
 obtain ⟨fn, hf, hb, hN, hr⟩ := fnE Tryz.func47
 refine goW hf (hb.trans z) (hN.trans z) (lb z) <| Ws <| E z (fb z) ?_
 rintro _ w21 ⟨rfl, h22⟩
 have h23 := h22.below
 have h24 : Blk w21 w0.heap.size [(.slice pa1_0 pn1_0 pc1_0)] := h22.blk
 refine Ra z <| Wn <| Wq <| Ws <| R z (fd fld_31_0 z) <| R z (l1 agg_29 z fid (h24.at z)) ?_
 have h25 := p1_0.ext h23
 refine R z (lnR und_29 z h25) ?_
 obtain ⟨r27, e28, hm29⟩ := bdS hm
 refine E z (fc Tryz.call81 z (W_impl_InRange (B := B) e28 (lt_ hBw h23.size) (inI_len (repS.len h25)) (ii z) (ii z))) ?_
 rintro _ w30 ⟨s31, rfl⟩
 refine R z (not_ z) <| Wn <| Wc z (fun hc37 => ?_) (fun hc37 => ?_)
 ·refine Ws <| Ra z <| Wn ?_
  obtain rfl := som (ifT hm29 hc37)
  exact Wr (ret1 hr z ⟨(bup h23 s31), z⟩)
 refine Wk <| Wq <| Ws <| R z (fd fld_31_0 z) ?_
 have h41 := h24.ext s31
 refine R z (l1 agg_29 z fid (h41.at z)) ?_
 have h42 := h25.ext s31
 refine R z (lnR und_29 z h42) <| Rm z <| Wn ?_
 obtain ⟨u61, hu62, hm63⟩ := bdS (ifF hm29 hc37)
 refine WC_forN (σ := Unit) (ρ := Bool) (fun (k64 : Nat) (_ : Unit) a w => Sat 20 [(1, (.pointer (some ⟨w0.heap.size, 0, none⟩))), (11, (vI (x1.rules.length : Int))), (12, (vI ((k64 : Nat) : Int)))] a ∧ Below w30.heap.size w30 w) (fun (_ : Unit) a w => Sat 20 [] a ∧ Below w30.heap.size w30 w) (fun r ex a w => ex = .ret ∧ RetPost Tryz.prog fn (Q_impl_IsValidDescription w0 B r) a w) hu62 ?_ ?_ ?_ ?_ ?_
 ·exact fun _ q => ⟨(q.weaken (s3 z z z)), (br w30)⟩
 ·rintro k64 _ a65 w66 o67 hk68 ⟨hS69, s70⟩ hm71
  refine Wu (e := [(1, (.pointer (some ⟨w0.heap.size, 0, none⟩))), (11, (vI (x1.rules.length : Int))), (12, (vI ((k64 : Nat) : Int)))]) (N := 20) ?_ hS69
  refine Ws <| R z (lss z z) <| Wn <| Wq <| Wc z (fun _ => ?_) (fun hc => (nolt hk68 hc).elim)
  refine Wk <| Wq <| WC_block <| Ws <| Rm z <| Ra z <| Wn <| Ws <| R z (lN (vs := [(.slice pa1_0 pn1_0 pc1_0)]) agg_31 size_31 z z fid ((h41.ext s70).row 0 1 z)) <| Rm z ?_
  obtain ⟨r95, e96, hm97⟩ := bdS hm71
  refine E z (fc Tryz.call82 z (W_impl_IsValidRule (B := B) e96 (lt_ hBw (lt_ (lt_ h23.size s31.size) s70.size)) (h42.ext s70) (inI_cnt (Nat.le_of_lt hk68) (lt_ (repS.len p1_0) LEN_le)))) ?_
  rintro _ w98 ⟨s99, rfl⟩
  refine R z (not_ z) <| Wn <| Wc z (fun hc107 => ?_) (fun hc107 => ?_)
  ·exact Ws <| Ra z <| Wn <| Wr (rtO (QO_retL (som (ifT hm97 hc107)).symm (ret1 hr z ⟨(bup (bup (bup h23 s31) s70) s99), z⟩)))
  exact Wk <| Wg <| R z (inc_ hk68 (lt_ (repS.len p1_0) LEN_le) z z) <| Rm z <| Wl <| fun _ q => ⟨(), (som (ifF hm97 hc107)).symm, ⟨(q.weaken (s3 z z z)), (bup s70 s99)⟩⟩
 ·rintro _ a114 w115 ⟨hS116, s117⟩
  refine Wu (e := [(1, (.pointer (some ⟨w0.heap.size, 0, none⟩))), (11, (vI (x1.rules.length : Int))), (12, (vI ((x1.rules.length : Nat) : Int)))]) (N := 20) ?_ hS116
  refine Ws <| R z (lss z z) <| Wn <| Wq <| Wc z (fun hc => (noltt hc).elim) (fun _ => ?_)
  exact WC_exit (fun a' ha' => ⟨rfl, ⟨(Sat.weaken ha' sn), s117⟩⟩)
 ·rintro _ a118 w119 rfl ⟨hS120, s121⟩
  have hm122 := elL hm63
  revert a118
  refine Wo <| Ws <| Ra z <| Wn ?_
  obtain rfl := som hm122
  exact Wr (ret1 hr z ⟨(bup (bup h23 s31) s121), z⟩)
 rintro r125 ex126 a127 w128 rfl ⟨rfl, hq129⟩
 have hm130 := elR hm63
 obtain rfl := som hm130
 exact ⟨hq129, z⟩
def Q_impl_known (w0 : World) (B : Nat) (r : Bool) (v : Value) (w' : World) : Prop := Below w0.heap.size w0 w' ∧ (fun r1 => (vB r1) = v) r
theorem W_impl_known {x1 : Desc} {x2 : Int} {res : Bool} (hm : M_impl_known n x1 x2 = some res) (hBw : B ≤ w0.heap.size) (p1_0 : repS w0 B (.slice pa1_0 pn1_0 pc1_0) x1.rules) (p2_0 : inI x2) : CallsR Tryz.prog 90 [(.agg #[(.slice pa1_0 pn1_0 pc1_0)]), (vI x2)] w0 (Q_impl_known w0 B res) := by
 unfold M_impl_known at hm
 obtain ⟨fn, hf, hb, hN, hr⟩ := fnE Tryz.func90
 refine goW hf (hb.trans z) (hN.trans z) (lb z) <| Ws <| E z (fb z) ?_
 rintro _ w21 ⟨rfl, h22⟩
 have h23 := h22.below
 have h24 : Blk w21 w0.heap.size [(.slice pa1_0 pn1_0 pc1_0)] := h22.blk
 refine Ra z <| Wn <| Wq ?_
 obtain ⟨u45, hu46, hm47⟩ := bdS hm
 refine WC_cut (fun a w => ∃ (x44 : Bool), x44 = u45 ∧ Sat 12 [(4, (vB x44))] a ∧ Below w21.heap.size w21 w) ?_ ?_
 ·refine Wg <| R z (lN (vs := [(.slice pa1_0 pn1_0 pc1_0)]) agg_31 size_31 z z fid (h24.row 0 1 z)) ?_
  have h48 := p1_0.ext h23
  obtain ⟨r50, e51, hm52⟩ := bdS hu46
  refine E z (fc Tryz.call47 z (W_impl_IsValidDescription (B := B) e51 (lt_ hBw h23.size) h48)) ?_
  rintro _ w53 ⟨s54, rfl⟩
  refine Rm z ?_
  rcases bsplit r50 with hc55 | hc55
  ·refine Rh z hc55 (lN (vs := [(.slice pa1_0 pn1_0 pc1_0)]) agg_31 size_31 z z fid ((h24.ext s54).row 0 1 z)) <| Rh z hc55 (mv z) ?_
   obtain ⟨r61, e62, hm63⟩ := bdS (ifT hm52 hc55)
   refine Eg z z hc55 z (fc Tryz.call103 z (W_impl_hasRule (B := B) e62 (lt_ hBw (lt_ h23.size s54.size)) (h48.ext s54) p2_0)) ?_
   rintro _ w64 ⟨s65, rfl⟩
   exact R z (pT z hc55 z) <| Ra z <| Wl <| fun _ q => ⟨r61, som hm63, (q.weaken (s1 z)), (bup s54 s65)⟩
  iterate 3 refine Nh z hc55 ?_
  exact R z (pF z hc55 z) <| Ra z <| Wl <| fun _ q => ⟨false, som (ifF hm52 hc55), (q.weaken (s1 z)), s54⟩
 rintro a68 w69 ⟨x44, rfl, hS70, s71⟩
 revert a68
 refine Wo ?_
 obtain rfl := som hm47
 exact Wr (ret1 hr z ⟨(bup h23 s71), z⟩)
def Q_impl_fail (w0 : World) (B : Nat) (r : (Option (Int × Int))) (v : Value) (w' : World) : Prop := Below w0.heap.size w0 w' ∧ (fun r1 => ∃ (v1 : Value) (S1 : List Nat), v1 = v ∧ errR 125 w' S1 v1 r1 ∧ (∀ k ∈ S1, w0.heap.size ≤ k)) r
theorem W_impl_fail {x1 : Int} {x2 : Int} {res : (Option (Int × Int))} (hm : M_impl_fail x1 x2 = some res) (hBw : B ≤ w0.heap.size) (p1_0 : inI x1) (p2_0 : inI x2) : CallsR Tryz.prog 118 [(vI x1), (vI x2)] w0 (Q_impl_fail w0 B res) := by
 unfold M_impl_fail at hm
 obtain ⟨fn, hf, hb, hN, hr⟩ := fnE Tryz.func118
 refine goW hf (hb.trans z) (hN.trans z) (lb z) <| Ws <| Ra z <| Wn <| Ws <| Rm z <| Rm z <| R z (bP (parts := [(0, (.tmp 5)), (1, (.tmp 6))]) (cs := [(vI x1), (vI x2)]) build_129 z z) <| E z (fb z) ?_
 rintro _ w21 ⟨rfl, h22⟩
 have h24 : Blk w21 w0.heap.size [(vI x1), (vI x2)] := h22.blk
 refine R z (rd_makeIface und_125 (fun _ h => by cases h) z) <| Ra z <| Wn ?_
 obtain rfl := som hm
 exact Wr (ret1 hr z ⟨h22.below, (.iface 125 (.pointer (some ⟨w0.heap.size, 0, none⟩))), [w0.heap.size], z, (errR_mkp h24 p1_0 p2_0 z), (mem1 lr)⟩)
def Q_impl_fileReader_take (w0 : World) (B : Nat) (r : (List UInt8) × (Option (Int × Int))) (v : Value) (w' : World) : Prop := Below w0.heap.size w0 w' ∧ un2 (fun r1 r2 => ∃ (a1 : Option Addr) (n1 c1 : Nat) (v2 : Value) (S2 : List Nat), v = .tuple #[(.slice a1 n1 c1), v2] ∧ repS w' w'.heap.size (.slice a1 n1 c1) r1 ∧ errR 125 w' S2 v2 r2 ∧ (∀ k ∈ S2, w0.heap.size ≤ k)) r
theorem W_impl_fileReader_take {x1 : FileReader} {b1 o1 : Nat} {x2 : Int} {x3 : Int} {res : (List UInt8) × (Option (Int × Int))} (hm : M_impl_fileReader_take x1 x2 x3 = some res) (hBw : B ≤ w0.heap.size) (p1_0 : repS w0 B (.slice pa1_0 pn1_0 pc1_0) x1.d.rules) (p1_1 : repS w0 B (.slice pa1_1 pn1_1 pc1_1) x1.b) (hC1 : CellsAt w0 b1 o1 [(.slice pa1_0 pn1_0 pc1_0), (.slice pa1_1 pn1_1 pc1_1)]) (hC1b : b1 < B) (p2_0 : inI x2) (p3_0 : inI x3) : CallsR Tryz.prog 142 [(.pointer (some ⟨b1, o1, none⟩)), (vI x2), (vI x3)] w0 (Q_impl_fileReader_take w0 B res) := by
 unfold M_impl_fileReader_take at hm
 obtain ⟨fn, hf, hb, hN, hr⟩ := fnE Tryz.func142
 refine goW hf (hb.trans z) (hN.trans z) (lb z) <| Ws <| Ra z <| Ra z <| Wn <| Wq <| Ws <| Rm z <| Rm z <| R z (rd_nil z) <| R z (fd fld_120_1 z) <| R z (l1 agg_25 z fid (hC1.at (j := 1) z)) <| R z (lnR und_25 z p1_1) <| Rm z <| R z (rd_sub z z) ?_
 refine R z (rd_gtr z z) <| Wn <| Wc z (fun hc34 => ?_) (fun hc34 => ?_)
 ·refine Ws <| Rm z ?_
  obtain ⟨r36, e37, hm38⟩ := bdS (ifT hm hc34)
  refine E z (fc Tryz.call118 z (W_impl_fail (B := B) e37 hBw p2_0 (ii z))) ?_
  rintro _ w39 ⟨s40, v41, S43, rfl, h42, h44⟩
  refine Ra z <| Ra z <| Wn ?_
  obtain rfl := som hm38
  exact Wr (ret2 hr z z ⟨s40, none, 0, 0, v41, S43, z, (repS.mono (ownS_rep onL all_nil) s40.size), h42, h44⟩)
 refine Wk <| Ws <| Rm z <| R z (rd_nil z) <| R z (fd fld_120_1 z) <| R z (l1 agg_25 z fid (hC1.at (j := 1) z)) <| Rm z <| Rm z <| Rm z <| R z (add_ z z) ?_
 obtain ⟨x46, e47, hm48⟩ := bdS (ifF hm hc34)
 refine RX z (rd_sliceX und_25 size_5 z z p1_1 z z e47) ?_
 rintro _ ⟨a49, n50, c51, rfl, h52⟩
 refine Ra z <| Ra z <| Wn ?_
 obtain rfl := som hm48
 exact Wr (ret2 hr z z ⟨(br w0), a49, n50, c51, .nilIface, ([] : List Nat), z, (repS.mono h52 hBw), errR_nil, all_nil⟩)
def Q_impl_ReadInteger (w0 : World) (B : Nat) (r : Int) (v : Value) (w' : World) : Prop := Below w0.heap.size w0 w' ∧ (fun r1 => (vI r1) = v ∧ inI r1) r
theorem W_impl_ReadInteger {x1 : List UInt8} {x2 : Bool} {res : Int} (hm : M_impl_ReadInteger x1 x2 = some res) (hBw : B ≤ w0.heap.size) (p1_0 : repS w0 B (.slice pa1_0 pn1_0 pc1_0) x1) : CallsR Tryz.prog 141 [(.slice pa1_0 pn1_0 pc1_0), (vB x2)] w0 (Q_impl_ReadInteger w0 B res) := by
 unfold M_impl_ReadInteger at hm
 obtain ⟨fn, hf, hb, hN, hr⟩ := fnE Tryz.func141
 refine goW hf (hb.trans z) (hN.trans z) (lb z) <| Ws <| Ra z <| Wn <| Wq <| Ws <| Rm z <| R z (lnR und_25 z p1_0) <| R z (rd_gtr z z) <| Wn <| Wc z (fun hc25 => ?_) (fun hc25 => ?_)
 ·refine Ws <| Ra z <| Wn ?_
  obtain rfl := som (ifT hm hc25)
  exact Wr (ret1 hr z ⟨(br w0), z, (ii z)⟩)
 refine Wk <| Ws <| Ra z <| Wn <| Wq <| Ws <| Rm z <| R z (lnR und_25 z p1_0) <| Rm z <| Wn ?_
 obtain ⟨u82, hu83, hm84⟩ := bdS (ifF hm hc25)
 refine WC_forN (σ := Int) (ρ := Int) (fun (k85 : Nat) (x80 : Int) a w => Sat 38 [(0, (.slice pa1_0 pn1_0 pc1_0)), (1, (vB x2)), (5, (vI x80)), (11, (vI (x1.length : Int))), (12, (vI ((k85 : Nat) : Int)))] a ∧ Below w0.heap.size w0 w ∧ inI x80) (fun (x80 : Int) a w => Sat 38 [(5, (vI x80))] a ∧ Below w0.heap.size w0 w ∧ inI x80) (fun r ex a w => ex = .ret ∧ RetPost Tryz.prog fn (Q_impl_ReadInteger w0 B r) a w) hu83 ?_ ?_ ?_ ?_ ?_
 ·exact fun _ q => ⟨(q.weaken (s5 z z z z z)), (br w0), (ii z)⟩
 ·rintro k85 x80 a86 w87 o88 hk89 ⟨hS90, s91, h81⟩ hm92
  refine Wu (e := [(0, (.slice pa1_0 pn1_0 pc1_0)), (1, (vB x2)), (5, (vI x80)), (11, (vI (x1.length : Int))), (12, (vI ((k85 : Nat) : Int)))]) (N := 38) ?_ hS90
  refine Ws <| R z (lss z z) <| Wn <| Wq <| Wc z (fun _ => ?_) (fun hc => (nolt hk89 hc).elim)
  refine Wk <| Wq <| WC_block <| Ws <| Rm z <| Ra z <| Wn <| Ws <| Rm z <| Wn ?_
  obtain ⟨u143, hu144, hm145⟩ := bdS hm92
  refine WC_cut (fun a w => ∃ (x141 : Int), x141 = u143 ∧ Sat 38 [(0, (.slice pa1_0 pn1_0 pc1_0)), (1, (vB x2)), (5, (vI x141)), (11, (vI (x1.length : Int))), (12, (vI ((k85 : Nat) : Int)))] a ∧ Below w87.heap.size w87 w ∧ inI x141) ?_ ?_
  ·refine Wc z (fun hc146 => ?_) (fun hc146 => ?_)
   ·refine Wg <| Rm z <| R z (rd_shl z z (by decide)) <| Rm z <| Rm z ?_
    have h148 := p1_0.ext s91
    refine R z (lnR und_25 z h148) <| R z (rd_sub z z) <| Rm z <| R z (rd_sub z z) ?_
    obtain ⟨x149, e150, hm151⟩ := bdS (ifT hu144 hc146)
    refine RX z (at_ (α := UInt8) und_25 size_5 z z z h148 e150) ?_
    rintro _ ⟨b152, o153, cs154, rfl, h155, h156, h157⟩
    obtain rfl := UInt8_open h156
    exact R z (l1 agg_5 z fid (h155.at0 z)) <| R z (rd_convUI und_5 und_3 z) <| R z (rd_or z z) <| Ra z <| Wl <| fun _ q => ⟨bitop .i64 (· ||| ·) (shlK .i64 x80 8) (byteI x149), som hm151, (q.weaken (s5 z z z z z)), (br w87), (inI_bitop _ _ _)⟩
   refine Wg <| Rm z <| R z (rd_shl z z (by decide)) <| Rm z <| Rm z ?_
   obtain ⟨x159, e160, hm161⟩ := bdS (ifF hu144 hc146)
   refine RX z (at_ (α := UInt8) und_25 size_5 z z z (p1_0.ext s91) e160) ?_
   rintro _ ⟨b163, o164, cs165, rfl, h166, h167, h168⟩
   obtain rfl := UInt8_open h167
   exact R z (l1 agg_5 z fid (h166.at0 z)) <| R z (rd_convUI und_5 und_3 z) <| R z (rd_or z z) <| Ra z <| Wl <| fun _ q => ⟨bitop .i64 (· ||| ·) (shlK .i64 x80 8) (byteI x159), som hm161, (q.weaken (s5 z z z z z)), (br w87), (inI_bitop _ _ _)⟩
  rintro a169 w170 ⟨x141, rfl, hS171, s172, h142⟩
  revert a169
  exact Wo <| Wg <| R z (inc_ hk89 (lt_ (repS.len p1_0) LEN_le) z z) <| Rm z <| Wl <| fun _ q => ⟨x141, (som hm145).symm, ⟨(q.weaken (s5 z z z z z)), (bup s91 s172), h142⟩⟩
 ·rintro x80 a174 w175 ⟨hS176, s177, h81⟩
  refine Wu (e := [(0, (.slice pa1_0 pn1_0 pc1_0)), (1, (vB x2)), (5, (vI x80)), (11, (vI (x1.length : Int))), (12, (vI ((x1.length : Nat) : Int)))]) (N := 38) ?_ hS176
  refine Ws <| R z (lss z z) <| Wn <| Wq <| Wc z (fun hc => (noltt hc).elim) (fun _ => ?_)
  exact WC_exit (fun a' ha' => ⟨rfl, ⟨(Sat.weaken ha' (s1 z)), s177, h81⟩⟩)
 ·rintro x80 a178 w179 rfl ⟨hS180, s181, h81⟩
  have hm182 := elL hm84
  revert a178
  refine Wo <| Ws <| Rm z <| Ra z <| Wn ?_
  obtain rfl := som hm182
  exact Wr (ret1 hr z ⟨s181, z, h81⟩)
 rintro r183 ex184 a185 w186 rfl ⟨rfl, hq187⟩
 have hm188 := elR hm84
 obtain rfl := som hm188
 exact ⟨hq187, z⟩
def Q_impl_fileReader_integer (w0 : World) (B : Nat) (r : Int × Int × (Option (Int × Int))) (v : Value) (w' : World) : Prop := Below w0.heap.size w0 w' ∧ un3 (fun r1 r2 r3 => ∃ (v1 : Value) (S1 : List Nat), v = .tuple #[(vI r1), (vI r2), v1] ∧ inI r1 ∧ inI r2 ∧ errR 125 w' S1 v1 r3 ∧ (∀ k ∈ S1, w0.heap.size ≤ k)) r
theorem W_impl_fileReader_integer {x1 : FileReader} {b1 o1 : Nat} {x2 : Int} {x3 : Int} {res : Int × Int × (Option (Int × Int))} (hm : M_impl_fileReader_integer x1 x2 x3 = some res) (hBw : B ≤ w0.heap.size) (p1_0 : repS w0 B (.slice pa1_0 pn1_0 pc1_0) x1.d.rules) (p1_1 : repS w0 B (.slice pa1_1 pn1_1 pc1_1) x1.b) (hC1 : CellsAt w0 b1 o1 [(.slice pa1_0 pn1_0 pc1_0), (.slice pa1_1 pn1_1 pc1_1)]) (hC1b : b1 < B) (p2_0 : inI x2) (p3_0 : inI x3) : CallsR Tryz.prog 109 [(.pointer (some ⟨b1, o1, none⟩)), (vI x2), (vI x3)] w0 (Q_impl_fileReader_integer w0 B res) := by
 unfold M_impl_fileReader_integer at hm
 obtain ⟨fn, hf, hb, hN, hr⟩ := fnE Tryz.func109
 refine goW hf (hb.trans z) (hN.trans z) (lb z) <| Ws <| Ra z <| Ra z <| Ra z <| Wn <| Ws <| Rm z <| R z (rd_nil z) <| R z (fd fld_120_0 z) <| R z (fd fld_31_0 z) <| R z (l1 agg_29 z fid (hC1.at (j := 0) z)) <| Rm z ?_
 obtain ⟨x21, e22, hm23⟩ := bdS hm
 refine RX z (at_ (α := Rule) und_29 size_82 z z z p1_0 e22) ?_
 rintro _ ⟨b24, o25, cs26, rfl, h27, h28, h29⟩
 obtain ⟨a33, n34, c35, a37, n38, c39, a41, n42, c43, a45, n46, c47, rfl, h30, h31, h32, h36, h40, h44, h48⟩ := Rule_open h28
 refine R z (lN (vs := [(Str.v x21.name), (vI x21.kind), (vI x21.size), (vB x21.little), (.slice a33 n34 c35), (.slice a37 n38 c39), (.slice a41 n42 c43), (.slice a45 n46 c47)]) agg_82 size_82 z z fid h27) <| E z (fa zero_82) ?_
 rintro _ w49 ⟨rfl, h50⟩
 have h51 := h50.below
 have h52 : Blk w49 w0.heap.size [(Str.v (⟨[]⟩ : Str)), (vI 0), (vI 0), (vB false), (.slice none 0 0), (.slice none 0 0), (.slice none 0 0), (.slice none 0 0)] := h50.blk
 refine E0 (fs (cur' := [(Str.v x21.name), (vI x21.kind), (vI x21.size), (vB x21.little), (.slice a33 n34 c35), (.slice a37 n38 c39), (.slice a41 n42 c43), (.slice a45 n46 c47)]) size_82 z z h52 z (lb z) (oneAll z) z) ?_
 rintro _ w53 ⟨h54, s55⟩
 have h56 := s55.one
 refine Wn <| Ws <| Rm z <| Rm z <| R z (fd fld_82_2 z) <| R z (l1 agg_3 z fid (h54.at z)) ?_
 have h58 := mem1le hBw
 have h64 := lt_ h51.size h56.size
 obtain ⟨r66, r67, e68, hm69⟩ := bd2S hm23
 refine E z (fc Tryz.call142 z (W_impl_fileReader_take (B := B) e68 (lt_ hBw h64) ((p1_0.ext h51).chg h56 (ltge h58)) ((p1_1.ext h51).chg h56 (ltge h58)) ((hC1.ext h51).chg h56 ((ltge h58) _ hC1b)) hC1b p3_0 h32)) ?_
 rintro _ w70 ⟨s71, a72, n73, c74, v76, S78, rfl, h75, h77, h79⟩
 refine Rm z <| R z (ext_ z z) <| R z (ext_ z z) <| Ra z <| Ra z <| Wn <| Wq <| Ws <| Rm z <| R z (rd_neqEr und_122 z z h77) <| Wn <| Wc z (fun hc87 => ?_) (fun hc87 => ?_)
 ·refine Ws <| Rm z <| Rm z <| Ra z <| Ra z <| Ra z <| Wn ?_
  obtain rfl := som (ifT hm69 hc87)
  exact Wr (ret3 hr z z z ⟨(bup (bM h51 h56 (mem1 lr)) s71), v76, S78, z, (ii z), p3_0, h77, (o0le h79 h64)⟩)
 refine Wk <| Wq <| WC_draw (X := noX) 0 (.rd 0 (.rd 1 (.rd 2 (.rd 4 (.rd 5 (.rd 6 (.rd 7 (.ef 3 (.rd 8 (.rd 9 (.rd 10 .done))))))))))) mo (by kernel_rfl) fun w93 s94 _ => dR z z (mv z) <| dR z z (fd fld_82_3 z) ?_
 have h96 := (h54.ext s71).ext s94
 refine dR z z (l1 agg_4 z fid (h96.at z)) <| dR z z (mv z) <| dR z z (fd fld_82_2 z) <| dR z z (l1 agg_3 z fid (h96.at z)) <| dR z z (add_ z z) ?_
 obtain ⟨r98, e99, hm100⟩ := bdS (ifF hm69 hc87)
 refine dE z z (fc Tryz.call141 z (W_impl_ReadInteger (B := w70.heap.size) e99 s94.size (h75.ext s94))) (.inr fun _ _ h => chgB (h.1)) ?_
 rintro _ w101 ⟨s102, rfl, h103⟩
 iterate 3 refine dR z z (asg z) ?_
 refine PR_done <| Wo ?_
 obtain rfl := som hm100
 exact Wr (ret3 hr z z z ⟨(bup (bup (bup (bM h51 h56 (mem1 lr)) s71) s94) s102), .nilIface, ([] : List Nat), z, h103, (iA _ _), errR_nil, all_nil⟩)
def Q_impl_fileReader_constant (w0 : World) (B : Nat) (r : Int × (Option (Int × Int))) (v : Value) (w' : World) : Prop := Below w0.heap.size w0 w' ∧ un2 (fun r1 r2 => ∃ (v1 : Value) (S1 : List Nat), v = .tuple #[(vI r1), v1] ∧ inI r1 ∧ errR 125 w' S1 v1 r2 ∧ (∀ k ∈ S1, w0.heap.size ≤ k)) r
theorem W_impl_fileReader_constant {x1 : FileReader} {b1 o1 : Nat} {x2 : Rule} {x3 : Int} {res : Int × (Option (Int × Int))} (hm : M_impl_fileReader_constant x1 x2 x3 = some res) (hBw : B ≤ w0.heap.size) (p1_0 : repS w0 B (.slice pa1_0 pn1_0 pc1_0) x1.d.rules) (p1_1 : repS w0 B (.slice pa1_1 pn1_1 pc1_1) x1.b) (hC1 : CellsAt w0 b1 o1 [(.slice pa1_0 pn1_0 pc1_0), (.slice pa1_1 pn1_1 pc1_1)]) (hC1b : b1 < B) (p2_0 : x2.name.b.length ≤ LEN) (p2_1 : inI x2.kind) (p2_2 : inI x2.size) (p2_4 : repS w0 B (.slice pa2_4 pn2_4 pc2_4) x2.bytes) (p2_5 : repS w0 B (.slice pa2_5 pn2_5 pc2_5) x2.names) (p2_6 : repS w0 B (.slice pa2_6 pn2_6 pc2_6) x2.tags) (p2_7 : repS w0 B (.slice pa2_7 pn2_7 pc2_7) x2.kids) (p3_0 : inI x3) : CallsR Tryz.prog 110 [(.pointer (some ⟨b1, o1, none⟩)), (.agg #[(Str.v x2.name), (vI x2.kind), (vI x2.size), (vB x2.little), (.slice pa2_4 pn2_4 pc2_4), (.slice pa2_5 pn2_5 pc2_5), (.slice pa2_6 pn2_6 pc2_6), (.slice pa2_7 pn2_7 pc2_7)]), (vI x3)] w0 (Q_impl_fileReader_constant w0 B res) := by
 unfold M_impl_fileReader_constant at hm
 obtain ⟨fn, hf, hb, hN, hr⟩ := fnE Tryz.func110
 refine goW hf (hb.trans z) (hN.trans z) (lb z) <| Ws <| E z (fb z) ?_
 rintro _ w21 ⟨rfl, h22⟩
 have h23 := h22.below
 have h24 : Blk w21 w0.heap.size [(Str.v x2.name), (vI x2.kind), (vI x2.size), (vB x2.little), (.slice pa2_4 pn2_4 pc2_4), (.slice pa2_5 pn2_5 pc2_5), (.slice pa2_6 pn2_6 pc2_6), (.slice pa2_7 pn2_7 pc2_7)] := h22.blk
 refine Ra z <| Ra z <| Wn <| Wq <| Ws <| R z (fd fld_82_4 z) <| R z (l1 agg_25 z fid (h24.at z)) ?_
 have h25 := p2_4.ext h23
 refine R z (lnR und_25 z h25) <| Rm z <| Wn ?_
 obtain ⟨u87, hu88, hm89⟩ := bdS hm
 refine WC_forN (σ := Unit) (ρ := Int × (Option (Int × Int))) (fun (k90 : Nat) (_ : Unit) a w => Sat 52 [(0, (.pointer (some ⟨b1, o1, none⟩))), (2, (vI x3)), (4, (.pointer (some ⟨w0.heap.size, 0, none⟩))), (11, (.slice pa2_4 pn2_4 pc2_4)), (12, (vI (x2.bytes.length : Int))), (13, (vI ((k90 : Nat) : Int)))] a ∧ Below w21.heap.size w21 w) (fun (_ : Unit) a w => Sat 52 [(2, (vI x3)), (4, (.pointer (some ⟨w0.heap.size, 0, none⟩)))] a ∧ Below w21.heap.size w21 w) (fun r ex a w => ex = .ret ∧ RetPost Tryz.prog fn (Q_impl_fileReader_constant w0 B r) a w) hu88 ?_ ?_ ?_ ?_ ?_
 ·exact fun _ q => ⟨(q.weaken (s6 z z z z z z)), (br w21)⟩
 ·rintro k90 _ a91 w92 o93 hk94 ⟨hS95, s96⟩ hm97
  refine Wu (e := [(0, (.pointer (some ⟨b1, o1, none⟩))), (2, (vI x3)), (4, (.pointer (some ⟨w0.heap.size, 0, none⟩))), (11, (.slice pa2_4 pn2_4 pc2_4)), (12, (vI (x2.bytes.length : Int))), (13, (vI ((k90 : Nat) : Int)))]) (N := 52) ?_ hS95
  refine Ws <| R z (lss z z) <| Wn <| Wq <| Wc z (fun _ => ?_) (fun hc => (nolt hk94 hc).elim)
  refine Wk <| Wq <| WC_block <| Ws <| Rm z ?_
  obtain ⟨x159, e160, hm161⟩ := bdS hm97
  refine RX z (at_ (α := UInt8) und_25 size_5 z z z (h25.ext s96) e160) ?_
  rintro _ ⟨b163, o164, cs165, rfl, h166, h167, h168⟩
  obtain rfl := UInt8_open h167
  refine R z (l1 agg_5 z fid (h166.at0 z)) <| Ra z <| Ra z <| Wn <| Wq <| Ws <| Rm z <| Rm z <| R z (add_ z z) <| Rm z <| R z (rd_nil z) <| R z (fd fld_120_1 z) ?_
  have h170 := (hC1.ext h23).ext s96
  refine R z (l1 agg_25 z fid (h170.at (j := 1) z)) ?_
  have h172 := (p1_1.ext h23).ext s96
  refine R z (lnR und_25 z h172) <| R z (rd_geq z z) <| Wn <| Wc z (fun hc191 => ?_) (fun hc191 => ?_)
  ·refine Ws <| Rm z <| Rm z ?_
   have h193 := lt_ h23.size s96.size
   obtain ⟨r195, e196, hm197⟩ := bdS (ifT hm161 hc191)
   refine E z (fc Tryz.call118 z (W_impl_fail (B := B) e196 (lt_ hBw h193) p3_0 (ii z))) ?_
   rintro _ w198 ⟨s199, v200, S202, rfl, h201, h203⟩
   exact Ra z <| Ra z <| Wn <| Wr (rtO (QO_retL (som hm197).symm (ret2 hr z z ⟨(bup (bup h23 s96) s199), v200, S202, z, p3_0, h201, (o0le h203 h193)⟩)))
  refine Wk <| Ws <| Rm z <| R z (rd_nil z) <| R z (fd fld_120_1 z) <| R z (l1 agg_25 z fid (h170.at (j := 1) z)) <| Rm z <| Rm z <| R z (add_ z z) ?_
  obtain ⟨x208, e209, hm210⟩ := bdS (ifF hm161 hc191)
  refine RX z (at_ (α := UInt8) und_25 size_5 z z z h172 e209) ?_
  rintro _ ⟨b211, o212, cs213, rfl, h214, h215, h216⟩
  obtain rfl := UInt8_open h215
  refine R z (l1 agg_5 z fid (h214.at0 z)) <| Rm z <| R z (rd_neq z z) <| Wn <| Wc z (fun hc235 => ?_) (fun hc235 => ?_)
  ·refine Ws <| Rm z <| Rm z <| Rm z <| R z (add_ z z) ?_
   have h237 := lt_ h23.size s96.size
   obtain ⟨r239, e240, hm241⟩ := bdS (ifT hm210 hc235)
   refine E z (fc Tryz.call118 z (W_impl_fail (B := B) e240 (lt_ hBw h237) (iA _ _) (ii z))) ?_
   rintro _ w242 ⟨s243, v244, S246, rfl, h245, h247⟩
   exact Ra z <| Ra z <| Wn <| Wr (rtO (QO_retL (som hm241).symm (ret2 hr z z ⟨(bup (bup h23 s96) s243), v244, S246, z, p3_0, h245, (o0le h247 h237)⟩)))
  exact Wk <| Wg <| R z (inc_ hk94 (lt_ (repS.len p2_4) LEN_le) z z) <| Rm z <| Wl <| fun _ q => ⟨(), (som (ifF hm210 hc235)).symm, ⟨(q.weaken (s6 z z z z z z)), s96⟩⟩
 ·rintro _ a252 w253 ⟨hS254, s255⟩
  refine Wu (e := [(0, (.pointer (some ⟨b1, o1, none⟩))), (2, (vI x3)), (4, (.pointer (some ⟨w0.heap.size, 0, none⟩))), (11, (.slice pa2_4 pn2_4 pc2_4)), (12, (vI (x2.bytes.length : Int))), (13, (vI ((x2.bytes.length : Nat) : Int)))]) (N := 52) ?_ hS254
  refine Ws <| R z (lss z z) <| Wn <| Wq <| Wc z (fun hc => (noltt hc).elim) (fun _ => ?_)
  exact WC_exit (fun a' ha' => ⟨rfl, ⟨(Sat.weaken ha' (s2 z z)), s255⟩⟩)
 ·rintro _ a256 w257 rfl ⟨hS258, s259⟩
  have hm260 := elL hm89
  revert a256
  refine Wo <| Ws <| Rm z <| R z (fd fld_82_4 z) <| R z (l1 agg_25 z fid ((h24.ext s259).at z)) <| R z (lnR und_25 z (h25.ext s259)) <| R z (add_ z z) <| Ra z <| Ra z <| Wn ?_
  obtain rfl := som hm260
  exact Wr (ret2 hr z z ⟨(bup h23 s259), .nilIface, ([] : List Nat), z, (iA _ _), errR_nil, all_nil⟩)
 rintro r264 ex265 a266 w267 rfl ⟨rfl, hq268⟩
 have hm269 := elR hm89
 obtain rfl := som hm269
 exact ⟨hq268, z⟩
def Q_impl_fileReader_content (w0 : World) (B : Nat) (r : Val × Int × (Option (Int × Int))) (v : Value) (w' : World) : Prop := Below w0.heap.size w0 w' ∧ un3 (fun r1 r2 r3 => ∃ (a1 : Option Addr) (n1 c1 : Nat) (S1 : List Nat) (a2 : Option Addr) (n2 c2 : Nat) (S2 : List Nat) (v3 : Value) (S3 : List Nat), v = .tuple #[(.agg #[vI r1.number, .slice a1 n1 c1, .slice a2 n2 c2]), (vI r2), v3] ∧ inI r1.number ∧ ownS w' S1 (.slice a1 n1 c1) r1.bytes ∧ ownS w' S2 (.slice a2 n2 c2) r1.items ∧ inI r2 ∧ errR 125 w' S3 v3 r3 ∧ (∀ k ∈ S3, w0.heap.size ≤ k) ∧ (S1 ++ S2).Nodup ∧ (∀ k ∈ (S1 ++ S2), w0.heap.size ≤ k)) r
theorem W_impl_fileReader_content {x1 : FileReader} {b1 o1 : Nat} {x2 : Int} {x3 : Int} {res : Val × Int × (Option (Int × Int))} (hm : M_impl_fileReader_content x1 x2 x3 = some res) (hBw : B ≤ w0.heap.size) (p1_0 : repS w0 B (.slice pa1_0 pn1_0 pc1_0) x1.d.rules) (p1_1 : repS w0 B (.slice pa1_1 pn1_1 pc1_1) x1.b) (hC1 : CellsAt w0 b1 o1 [(.slice pa1_0 pn1_0 pc1_0), (.slice pa1_1 pn1_1 pc1_1)]) (hC1b : b1 < B) (p2_0 : inI x2) (p3_0 : inI x3) : CallsR Tryz.prog 111 [(.pointer (some ⟨b1, o1, none⟩)), (vI x2), (vI x3)] w0 (Q_impl_fileReader_content w0 B res) := by
 unfold M_impl_fileReader_content at hm
 obtain ⟨fn, hf, hb, hN, hr⟩ := fnE Tryz.func111
 refine goW hf (hb.trans z) (hN.trans z) (lb z) <| Ws <| E z (fa zero_61) ?_
 rintro _ w21 ⟨rfl, h22⟩
 have h23 := h22.below
 have h24 : Blk w21 w0.heap.size [(vI 0), (.slice none 0 0), (.slice none 0 0)] := h22.blk
 refine Ra z <| Ra z <| Wn <| Ws <| Rm z <| Rm z <| Rm z ?_
 obtain ⟨r29, r30, e31, hm32⟩ := bd2S hm
 refine E z (fc Tryz.call142 z (W_impl_fileReader_take (B := B) e31 (lt_ hBw h23.size) (p1_0.ext h23) (p1_1.ext h23) (hC1.ext h23) hC1b p2_0 p3_0)) ?_
 rintro _ w33 ⟨s34, a35, n36, c37, v39, S41, rfl, h38, h40, h42⟩
 refine Rm z <| R z (ext_ z z) <| R z (ext_ z z) <| Ra z <| Ra z <| Wn <| Wq <| Ws <| Rm z <| R z (rd_neqEr und_122 z z h40) <| Wn <| Wc z (fun hc57 => ?_) (fun hc57 => ?_)
 ·refine Ws <| R z (bP (parts := []) (cs := [(vI 0), (.slice none 0 0), (.slice none 0 0)]) build_61 z z) <| Rm z <| Rm z <| E0 (fs (cur' := [(vI 0), (.slice none 0 0), (.slice none 0 0)]) size_61 z z (h24.ext s34) z (lb z) (oneAll z) z) ?_
  rintro _ w60 ⟨h61, s62⟩
  have h63 := s62.one
  refine Ra z <| Ra z <| Wn ?_
  obtain rfl := som (ifT hm32 hc57)
  exact Wr (ret3 hr (resC agg_61 size_61 z h61 z) z z ⟨(bM (bup h23 s34) h63 (mem1 lr)), none, 0, 0, [], none, 0, 0, [], v39, S41, z, (ii z), onL, onL, p2_0, (h40.chg h63 (o0n1 h42 h24.lt (Nat.le_refl _))), (o0le h42 h23.size), nd0, al0⟩)
 refine Wk <| Ws <| E z (ef_lit0 (α := UInt8) el_25) ?_
 rintro _ w70 ⟨a71, n72, c73, rfl, s74, h75⟩
 refine Rm z ?_
 obtain ⟨x85, e86, hm87⟩ := bdS (ifF hm32 hc57)
 refine E z (ef_appendN (α := UInt8) el_25 e86 z z h75 nd_one (h38.ext s74)) ?_
 rintro _ w76 ⟨S77, a78, n79, c80, rfl, s81, h82, h83, h84⟩
 refine R z (bP (parts := [(1, (.tmp 25))]) (cs := [(vI 0), (.slice a78 n79 c80), (.slice none 0 0)]) build_61 z z) <| Rm z <| Rm z <| R z (add_ z z) ?_
 have h91 := mm1 h24.lt s34.size
 refine E0 (fs (cur' := [(vI 0), (.slice a78 n79 c80), (.slice none 0 0)]) size_61 z z (((h24.ext s34).ext s74).chg s81 (djs h91)) z (lb z) (oneAll z) z) ?_
 rintro _ w93 ⟨h94, s95⟩
 have h96 := s95.one
 refine Ra z <| Ra z <| Wn ?_
 obtain rfl := som hm87
 have h98 : ∀ k ∈ S77, k ∉ [w0.heap.size] := or1 h84 h91 (ltnot (mem1 h24.lt) (lt_ s34.size s74.size))
 have h102 := lt_ h23.size s34.size
 have h103 := mem1le h102
 exact Wr (ret3 hr (resC agg_61 size_61 z h94 z) z z ⟨(bM (bM (bup (bup h23 s34) s74) s81 h103) h96 (mem1 lr)), a78, n79, c80, S77, none, 0, 0, [], .nilIface, ([] : List Nat), z, (ii z), (h82.chg h96 h98), onL, (iA _ _), errR_nil, all_nil, (nd_app h83 nd_nil (nmN _)), (all_app (o1le h84 h103 (lt_ h102 s74.size)) all_nil)⟩)
def Q_impl_SumOfBytes (w0 : World) (B : Nat) (r : Int) (v : Value) (w' : World) : Prop := Below w0.heap.size w0 w' ∧ (fun r1 => (vI r1) = v ∧ inI r1) r
theorem W_impl_SumOfBytes {x1 : List UInt8} {res : Int} (hm : M_impl_SumOfBytes x1 = some res) (hBw : B ≤ w0.heap.size) (p1_0 : repS w0 B (.slice pa1_0 pn1_0 pc1_0) x1) : CallsR Tryz.prog 143 [(.slice pa1_0 pn1_0 pc1_0)] w0 (Q_impl_SumOfBytes w0 B res) := by
 unfold M_impl_SumOfBytes at hm
 obtain ⟨fn, hf, hb, hN, hr⟩ := fnE Tryz.func143
 refine goW hf (hb.trans z) (hN.trans z) (lb z) <| Ws <| Ra z <| Wn <| Ws <| Ra z <| Wn <| Wq <| Ws <| Rm z <| R z (lnR und_25 z p1_0) <| Rm z <| Wn ?_
 obtain ⟨u45, hu46, hm47⟩ := bdS hm
 refine WC_forN (σ := Int) (ρ := Int) (fun (k48 : Nat) (x43 : Int) a w => Sat 19 [(3, (vI x43)), (6, (.slice pa1_0 pn1_0 pc1_0)), (7, (vI (x1.length : Int))), (8, (vI ((k48 : Nat) : Int)))] a ∧ Below w0.heap.size w0 w ∧ inI x43) (fun (x43 : Int) a w => Sat 19 [(3, (vI x43))] a ∧ Below w0.heap.size w0 w ∧ inI x43) (fun r ex a w => ex = .ret ∧ RetPost Tryz.prog fn (Q_impl_SumOfBytes w0 B r) a w) hu46 ?_ ?_ ?_ ?_ ?_
 ·exact fun _ q => ⟨(q.weaken (s4 z z z z)), (br w0), (ii z)⟩
 ·rintro k48 x43 a49 w50 o51 hk52 ⟨hS53, s54, h44⟩ hm55
  refine Wu (e := [(3, (vI x43)), (6, (.slice pa1_0 pn1_0 pc1_0)), (7, (vI (x1.length : Int))), (8, (vI ((k48 : Nat) : Int)))]) (N := 19) ?_ hS53
  refine Ws <| R z (lss z z) <| Wn <| Wq <| Wc z (fun _ => ?_) (fun hc => (nolt hk52 hc).elim)
  refine Wk <| Wq <| WC_block <| Ws ?_
  obtain ⟨x66, e67, hm68⟩ := bdS hm55
  refine RX z (at_ (α := UInt8) und_25 size_5 z z z (p1_0.ext s54) e67) ?_
  rintro _ ⟨b70, o71, cs72, rfl, h73, h74, h75⟩
  obtain rfl := UInt8_open h74
  exact R z (l1 agg_5 z fid (h73.at0 z)) <| Ra z <| Wn <| Wg <| Rm z <| Rm z <| R z (rd_convUI und_5 und_3 z) <| R z (add_ z z) <| Ra z <| Wn <| Wg <| R z (inc_ hk52 (lt_ (repS.len p1_0) LEN_le) z z) <| Rm z <| Wl <| fun _ q => ⟨iadd x43 (byteI x66), (som hm68).symm, ⟨(q.weaken (s4 z z z z)), s54, (iA _ _)⟩⟩
 ·rintro x43 a76 w77 ⟨hS78, s79, h44⟩
  refine Wu (e := [(3, (vI x43)), (6, (.slice pa1_0 pn1_0 pc1_0)), (7, (vI (x1.length : Int))), (8, (vI ((x1.length : Nat) : Int)))]) (N := 19) ?_ hS78
  refine Ws <| R z (lss z z) <| Wn <| Wq <| Wc z (fun hc => (noltt hc).elim) (fun _ => ?_)
  exact WC_exit (fun a' ha' => ⟨rfl, ⟨(Sat.weaken ha' (s1 z)), s79, h44⟩⟩)
 ·rintro x43 a80 w81 rfl ⟨hS82, s83, h44⟩
  have hm84 := elL hm47
  revert a80
  refine Wo <| Ws <| Rm z <| R z (rd_rem z z (by decide)) <| Ra z <| Wn ?_
  obtain rfl := som hm84
  exact Wr (ret1 hr z ⟨s83, z, (inI_rem h44)⟩)
 rintro r85 ex86 a87 w88 rfl ⟨rfl, hq89⟩
 have hm90 := elR hm47
 obtain rfl := som hm90
 exact ⟨hq89, z⟩
def Q_impl_ReadTerminated (w0 : World) (B : Nat) (r : (List UInt8) × Int × Bool) (v : Value) (w' : World) : Prop := Below w0.heap.size w0 w' ∧ un3 (fun r1 r2 r3 => ∃ (a1 : Option Addr) (n1 c1 : Nat) (S1 : List Nat), v = .tuple #[(.slice a1 n1 c1), (vI r2), (vB r3)] ∧ ownS w' S1 (.slice a1 n1 c1) r1 ∧ inI r2 ∧ S1.Nodup ∧ (∀ k ∈ S1, w0.heap.size ≤ k)) r
theorem W_impl_ReadTerminated {x1 : List UInt8} {x2 : Int} {x3 : UInt8} {res : (List UInt8) × Int × Bool} (hm : M_impl_ReadTerminated n x1 x2 x3 = some res) (hBw : B ≤ w0.heap.size) (p1_0 : repS w0 B (.slice pa1_0 pn1_0 pc1_0) x1) (p2_0 : inI x2) : CallsR Tryz.prog 117 [(.slice pa1_0 pn1_0 pc1_0), (vI x2), (vU (byteI x3))] w0 (Q_impl_ReadTerminated w0 B res) := by
 unfold M_impl_ReadTerminated at hm
 obtain ⟨fn, hf, hb, hN, hr⟩ := fnE Tryz.func117
 refine goW hf (hb.trans z) (hN.trans z) (lb z) <| Ws <| Ra z <| Ra z <| Ra z <| Wn <| Ws <| E z (ef_lit0 (α := UInt8) el_25) ?_
 rintro _ w21 ⟨a22, n23, c24, rfl, s25, h26⟩
 refine Ra z <| Wn <| Wq <| Wq ?_
 obtain ⟨u32, hu33, hm34⟩ := bdS hm
 refine WC_cut (fun a w => ∃ (x31 : Bool), x31 = u32 ∧ Sat 58 [(0, (.slice pa1_0 pn1_0 pc1_0)), (1, (vI x2)), (2, (vU (byteI x3))), (9, (.slice a22 n23 c24)), (19, (vB x31))] a ∧ Below w21.heap.size w21 w) ?_ ?_
 ·refine Wg <| Rm z <| R z (lss z z) <| Rm z ?_
  rcases bsplit (decide (x2 < 0)) with hc35 | hc35
  ·iterate 4 refine Nh z hc35 ?_
   exact R z (pT z hc35 z) <| Wl <| fun _ q => ⟨true, som (ifT hu33 hc35), (q.weaken (s5 z z z z z)), (br w21)⟩
  exact Rh z hc35 (mv z) <| Rh z hc35 (mv z) <| Rh z hc35 (lnR und_25 z (p1_0.ext s25)) <| Rh z hc35 (rd_gtr z z) <| R z (pF z hc35 z) <| Wl <| fun _ q => ⟨decide ((x1.length : Int) < x2), som (ifF hu33 hc35), (q.weaken (s5 z z z z z)), (br w21)⟩
 rintro a39 w40 ⟨x31, rfl, hS41, s42⟩
 revert a39
 refine Wo <| Wc z (fun hc49 => ?_) (fun hc49 => ?_)
 ·refine Ws <| Rm z <| Rm z <| Ra z <| Ra z <| Ra z <| Wn ?_
  obtain rfl := som (ifT hm34 hc49)
  exact Wr (ret3 hr z z z ⟨(bup s25 s42), a22, n23, c24, [w0.heap.size], z, (h26.ext s42), p2_0, nd_one, (mem1 lr)⟩)
 refine Wk <| Wq <| Ws <| Rm z <| Ra z <| Wn ?_
 obtain ⟨u217, hu218, hm219⟩ := bdS (ifF hm34 hc49)
 refine WC_iter (σ := (List UInt8) × Int) (ρ := (List UInt8) × Int × Bool) (fun s a w => un2 (fun x207 x215 => ∃ (a208 : Option Addr) (n209 c210 : Nat) (S212 : List Nat), Sat 58 [(0, (.slice pa1_0 pn1_0 pc1_0)), (1, (vI x2)), (2, (vU (byteI x3))), (9, (.slice a208 n209 c210)), (10, (vI x215))] a ∧ Chg (· ∈ [w0.heap.size]) w40 w ∧ ownS w S212 (.slice a208 n209 c210) x207 ∧ S212.Nodup ∧ (∀ k ∈ S212, k ∈ [w0.heap.size] ∨ w40.heap.size ≤ k) ∧ inI x215) s) (fun s a w => un2 (fun x207 x215 => ∃ (a208 : Option Addr) (n209 c210 : Nat) (S212 : List Nat), Sat 58 [(1, (vI x2))] a ∧ Chg (· ∈ [w0.heap.size]) w40 w ∧ ownS w S212 (.slice a208 n209 c210) x207 ∧ S212.Nodup ∧ (∀ k ∈ S212, k ∈ [w0.heap.size] ∨ w40.heap.size ≤ k) ∧ inI x215) s) (fun r ex a w => ex = .ret ∧ RetPost Tryz.prog fn (Q_impl_ReadTerminated w0 B r) a w) hu218 ?_ ?_ ?_ ?_
 ·exact fun _ q => ⟨a22, n23, c24, [w0.heap.size], (q.weaken (s5 z z z z z)), (cr [w0.heap.size] w40), (h26.ext s42), nd_one, (inor sr), p2_0⟩
 ·rintro ⟨x207, x215⟩ a222 w223 o224 ⟨a208, n209, c210, S212, hS226, s227, h211, h213, h214, h216⟩ hm228
  have hm229 := un2S hm228
  refine Wu (e := [(0, (.slice pa1_0 pn1_0 pc1_0)), (1, (vI x2)), (2, (vU (byteI x3))), (9, (.slice a208 n209 c210)), (10, (vI x215))]) (N := 58) ?_ hS226
  refine Wq <| Ws <| Rm z <| Rm z ?_
  have h233 := ((p1_0.ext s25).ext s42).chg s227 (ltge (mem1le hBw))
  refine R z (lnR und_25 z h233) <| R z (lss z z) <| Wn <| Wc z (fun hc240 => ?_) (fun hc240 => ?_)
  ·refine Wk <| Wq <| WC_block <| Wq <| Ws <| Rm z <| Rm z ?_
   obtain ⟨x311, e312, hm313⟩ := bdS (ifT hm229 hc240)
   refine RX z (at_ (α := UInt8) und_25 size_5 z z z h233 e312) ?_
   rintro _ ⟨b314, o315, cs316, rfl, h317, h318, h319⟩
   obtain rfl := UInt8_open h318
   refine R z (l1 agg_5 z fid (h317.at0 z)) <| Rm z <| R z (eql z z) <| Wn <| Wc z (fun hc328 => ?_) (fun hc328 => ?_)
   ·refine Ws <| Rm z <| Rm z <| R z (add_ z z) <| Ra z <| Ra z <| Ra z <| Wn ?_
    have h333 : ∀ k ∈ S212, w0.heap.size ≤ k := or1 h214 (mem1 lr) (lele (lt_ s25.size s42.size))
    exact Wr (rtO (QO_retL (som (ifT hm313 hc328)).symm (ret3 hr z z z ⟨(bM (bup s25 s42) s227 (mem1 lr)), a208, n209, c210, S212, z, h211, (iA _ _), h213, h333⟩)))
   refine Wk <| Wq <| Ws <| Rm z <| Rm z ?_
   obtain ⟨x335, e336, hm337⟩ := bdS (ifF hm313 hc328)
   refine RX z (at_ (α := UInt8) und_25 size_5 z z z h233 e336) ?_
   rintro _ ⟨b338, o339, cs340, rfl, h341, h342, h343⟩
   obtain rfl := UInt8_open h342
   refine R z (l1 agg_5 z fid (h341.at0 z)) <| R z (eql z z) <| Wn ?_
   obtain ⟨u356, hu357, hm358⟩ := bdS hm337
   refine WC_cut (fun a w => ∃ (x354 : Int), Sum.inl x354 = u356 ∧ Sat 58 [(0, (.slice pa1_0 pn1_0 pc1_0)), (1, (vI x2)), (2, (vU (byteI x3))), (9, (.slice a208 n209 c210)), (10, (vI x354))] a ∧ Below w223.heap.size w223 w ∧ inI x354) ?_ ?_
   ·refine Wc z (fun hc359 => ?_) (fun hc359 => ?_)
    ·have hm360 := ifT hu357 hc359
     refine Ws <| Rm z <| R z (add_ z z) <| Ra z <| Wn <| Ws <| Rm z <| Rm z <| R z (lnR und_25 z h233) <| R z (eql z z) <| Wn <| Wc z (fun hc368 => ?_) (fun hc368 => ?_)
     ·obtain rfl := som (ifT hm360 hc368)
      have hm370 := elR hm358
      have h371 : ∀ k ∈ S212, k ∈ [w0.heap.size] ∨ w40.heap.size ≤ k := or1 h214 (inor sr) (leor lr)
      have h372 : Chg (· ∈ [w0.heap.size]) w40 w223 := cM (cr [w0.heap.size] w40) s227 (inor sr)
      exact WC_exit (exO z (fun a' ha' => QO_brk (som hm370).symm ⟨a208, n209, c210, S212, (Sat.weaken ha' (s1 z)), h372, h211, h213, h371, (iA _ _)⟩))
     exact WC_skip <| fun _ q => ⟨iadd x215 1, som (ifF hm360 hc368), (q.weaken (s5 z z z z z)), (br w223), (iA _ _)⟩
    exact WC_skip <| fun _ q => ⟨x215, som (ifF hu357 hc359), (q.weaken (s5 z z z z z)), (br w223), h216⟩
   rintro a375 w376 ⟨x354, rfl, hS377, s378, h355⟩
   have hm379 := elL hm358
   revert a375
   refine Wo <| Wg <| Rm z <| Rm z <| Rm z ?_
   obtain ⟨x380, e381, hm382⟩ := bdS hm379
   refine RX z (at_ (α := UInt8) und_25 size_5 z z z (h233.ext s378) e381) ?_
   rintro _ ⟨b384, o385, cs386, rfl, h387, h388, h389⟩
   obtain rfl := UInt8_open h388
   refine R z (l1 agg_5 z fid (h387.at0 z)) <| E z (ef_buildSlice [(.tmp 53)] el_25 z z z (szAll z) (lb z) (lb z)) ?_
   rintro _ w390 ⟨rfl, h391⟩
   have h392 := h391.below
   have h393 : Blk w390 w376.heap.size [(vU (byteI x380))] := h391.blk
   have h394 := ownS_new1 h391 UInt8_own
   obtain ⟨x406, e407, hm408⟩ := bdS hm382
   refine E z (ef_pushN (α := UInt8) el_25 e407 z z ((h211.ext s378).ext h392) h213 h393 UInt8_own all_nil nd_nil) ?_
   rintro _ w397 ⟨S398, a399, n400, c401, rfl, s402, h403, h404, h405⟩
   refine Ra z <| Wn <| Wg <| Rm z <| R z (add_ z z) <| Ra z <| Wl ?_
   have h411 : ∀ k ∈ S212, k ∈ [w0.heap.size] ∨ w40.heap.size ≤ k := or1 h214 (inor sr) (leor lr)
   have h412 : ∀ k ∈ S398, k ∈ [w0.heap.size] ∨ w40.heap.size ≤ k := or2 h405 h411 all_nil (leor (lt_ (lt_ s227.size s378.size) h392.size))
   have h413 : Chg (· ∈ [w0.heap.size]) w40 w223 := cM (cr [w0.heap.size] w40) s227 (inor sr)
   have h414 : Chg (· ∈ [w0.heap.size]) w40 w376 := cext h413 s378
   have h415 : Chg (· ∈ [w0.heap.size]) w40 w390 := cext h414 h392
   have h416 : Chg (· ∈ [w0.heap.size]) w40 w397 := cM h415 s402 h411
   exact fun _ q => ⟨(x406, iadd x354 1), (som hm408).symm, ⟨a399, n400, c401, S398, (q.weaken (s5 z z z z z)), h416, h403, h404, h412, (iA _ _)⟩⟩
  have h418 : ∀ k ∈ S212, k ∈ [w0.heap.size] ∨ w40.heap.size ≤ k := or1 h214 (inor sr) (leor lr)
  have h419 : Chg (· ∈ [w0.heap.size]) w40 w223 := cM (cr [w0.heap.size] w40) s227 (inor sr)
  exact WC_exit (fun a' ha' => QO_brk (som (ifF hm229 hc240)).symm ⟨a208, n209, c210, S212, (Sat.weaken ha' (s1 z)), h419, h211, h213, h418, h216⟩)
 ·rintro ⟨x207, x215⟩ a420 w421 rfl ⟨a208, n209, c210, S212, hS422, s423, h211, h213, h214, h216⟩
  have hm424 := elL hm219
  have hm425 := un2S hm424
  revert a420
  refine Wo <| Ws <| E z (ef_lit0 (α := UInt8) el_25) ?_
  rintro _ w426 ⟨a427, n428, c429, rfl, s430, h431⟩
  refine Rm z <| Ra z <| Ra z <| Ra z <| Wn ?_
  obtain rfl := som hm425
  exact Wr (ret3 hr z z z ⟨(bup (bM (bup s25 s42) s423 (mem1 lr)) s430), a427, n428, c429, [w421.heap.size], z, h431, p2_0, nd_one, (mem1le (lt_ (lt_ s25.size s42.size) s423.size))⟩)
 rintro r438 ex439 a440 w441 rfl ⟨rfl, hq442⟩
 have hm443 := elR hm219
 obtain rfl := som hm443
 exact ⟨hq442, z⟩
def Q_impl_fileReader_value (w0 : World) (B : Nat) (r : Val × Int × (Option (Int × Int))) (v : Value) (w' : World) : Prop := Below w0.heap.size w0 w' ∧ un3 (fun r1 r2 r3 => ∃ (a1 : Option Addr) (n1 c1 : Nat) (S1 : List Nat) (a2 : Option Addr) (n2 c2 : Nat) (S2 : List Nat) (v3 : Value) (S3 : List Nat), v = .tuple #[(.agg #[vI r1.number, .slice a1 n1 c1, .slice a2 n2 c2]), (vI r2), v3] ∧ inI r1.number ∧ ownS w' S1 (.slice a1 n1 c1) r1.bytes ∧ ownS w' S2 (.slice a2 n2 c2) r1.items ∧ inI r2 ∧ errR 125 w' S3 v3 r3 ∧ (∀ k ∈ S3, w0.heap.size ≤ k) ∧ (S1 ++ S2).Nodup ∧ (∀ k ∈ (S1 ++ S2), w0.heap.size ≤ k)) r
def Q_impl_fileReader_array (w0 : World) (B : Nat) (r : Val × Int × (Option (Int × Int))) (v : Value) (w' : World) : Prop := Below w0.heap.size w0 w' ∧ un3 (fun r1 r2 r3 => ∃ (a1 : Option Addr) (n1 c1 : Nat) (S1 : List Nat) (a2 : Option Addr) (n2 c2 : Nat) (S2 : List Nat) (v3 : Value) (S3 : List Nat), v = .tuple #[(.agg #[vI r1.number, .slice a1 n1 c1, .slice a2 n2 c2]), (vI r2), v3] ∧ inI r1.number ∧ ownS w' S1 (.slice a1 n1 c1) r1.bytes ∧ ownS w' S2 (.slice a2 n2 c2) r1.items ∧ inI r2 ∧ errR 125 w' S3 v3 r3 ∧ (∀ k ∈ S3, w0.heap.size ≤ k) ∧ (S1 ++ S2).Nodup ∧ (∀ k ∈ (S1 ++ S2), w0.heap.size ≤ k)) r
def Q_impl_fileReader_items (w0 : World) (B : Nat) (S2_1 : List Nat) (S2_2 : List Nat) (r : Val × Int × (Option (Int × Int))) (v : Value) (w' : World) : Prop := Chg (· ∈ (S2_1 ++ S2_2)) w0 w' ∧ un3 (fun r1 r2 r3 => ∃ (a1 : Option Addr) (n1 c1 : Nat) (S1 : List Nat) (a2 : Option Addr) (n2 c2 : Nat) (S2 : List Nat) (v3 : Value) (S3 : List Nat), v = .tuple #[(.agg #[vI r1.number, .slice a1 n1 c1, .slice a2 n2 c2]), (vI r2), v3] ∧ inI r1.number ∧ ownS w' S1 (.slice a1 n1 c1) r1.bytes ∧ ownS w' S2 (.slice a2 n2 c2) r1.items ∧ inI r2 ∧ errR 125 w' S3 v3 r3 ∧ (∀ k ∈ S3, w0.heap.size ≤ k) ∧ (S1 ++ S2).Nodup ∧ (∀ k ∈ (S1 ++ S2), k ∈ (S2_1 ++ S2_2) ∨ w0.heap.size ≤ k)) r
def Q_impl_fileReader_choice (w0 : World) (B : Nat) (r : Val × Int × (Option (Int × Int))) (v : Value) (w' : World) : Prop := Below w0.heap.size w0 w' ∧ un3 (fun r1 r2 r3 => ∃ (a1 : Option Addr) (n1 c1 : Nat) (S1 : List Nat) (a2 : Option Addr) (n2 c2 : Nat) (S2 : List Nat) (v3 : Value) (S3 : List Nat), v = .tuple #[(.agg #[vI r1.number, .slice a1 n1 c1, .slice a2 n2 c2]), (vI r2), v3] ∧ inI r1.number ∧ ownS w' S1 (.slice a1 n1 c1) r1.bytes ∧ ownS w' S2 (.slice a2 n2 c2) r1.items ∧ inI r2 ∧ errR 125 w' S3 v3 r3 ∧ (∀ k ∈ S3, w0.heap.size ≤ k) ∧ (S1 ++ S2).Nodup ∧ (∀ k ∈ (S1 ++ S2), w0.heap.size ≤ k)) r
def Q_impl_fileReader_option (w0 : World) (B : Nat) (r : Val × Int × (Option (Int × Int))) (v : Value) (w' : World) : Prop := Below w0.heap.size w0 w' ∧ un3 (fun r1 r2 r3 => ∃ (a1 : Option Addr) (n1 c1 : Nat) (S1 : List Nat) (a2 : Option Addr) (n2 c2 : Nat) (S2 : List Nat) (v3 : Value) (S3 : List Nat), v = .tuple #[(.agg #[vI r1.number, .slice a1 n1 c1, .slice a2 n2 c2]), (vI r2), v3] ∧ inI r1.number ∧ ownS w' S1 (.slice a1 n1 c1) r1.bytes ∧ ownS w' S2 (.slice a2 n2 c2) r1.items ∧ inI r2 ∧ errR 125 w' S3 v3 r3 ∧ (∀ k ∈ S3, w0.heap.size ≤ k) ∧ (S1 ++ S2).Nodup ∧ (∀ k ∈ (S1 ++ S2), w0.heap.size ≤ k)) r
def Q_impl_fileReader_checked (w0 : World) (B : Nat) (r : Val × Int × (Option (Int × Int))) (v : Value) (w' : World) : Prop := Below w0.heap.size w0 w' ∧ un3 (fun r1 r2 r3 => ∃ (a1 : Option Addr) (n1 c1 : Nat) (S1 : List Nat) (a2 : Option Addr) (n2 c2 : Nat) (S2 : List Nat) (v3 : Value) (S3 : List Nat), v = .tuple #[(.agg #[vI r1.number, .slice a1 n1 c1, .slice a2 n2 c2]), (vI r2), v3] ∧ inI r1.number ∧ ownS w' S1 (.slice a1 n1 c1) r1.bytes ∧ ownS w' S2 (.slice a2 n2 c2) r1.items ∧ inI r2 ∧ errR 125 w' S3 v3 r3 ∧ (∀ k ∈ S3, w0.heap.size ≤ k) ∧ (S1 ++ S2).Nodup ∧ (∀ k ∈ (S1 ++ S2), w0.heap.size ≤ k)) r
structure S_impl_fileReader_value (n : Nat) : Prop where
  run : ∀ {B : Nat} {x1 : FileReader} {pa1_0 : Option Addr} {pn1_0 pc1_0 : Nat} {pa1_1 : Option Addr} {pn1_1 pc1_1 : Nat} {b1 o1 : Nat} {x2 : Int} {x3 : Int} {res : Val × Int × (Option (Int × Int))} {w0 : World} (hm : (F_impl_fileReader_value n).impl_fileReader_value x1 x2 x3 = some res) (hBw : B ≤ w0.heap.size) (p1_0 : repS w0 B (.slice pa1_0 pn1_0 pc1_0) x1.d.rules) (p1_1 : repS w0 B (.slice pa1_1 pn1_1 pc1_1) x1.b) (hC1 : CellsAt w0 b1 o1 [(.slice pa1_0 pn1_0 pc1_0), (.slice pa1_1 pn1_1 pc1_1)]) (hC1b : b1 < B) (p2_0 : inI x2) (p3_0 : inI x3), CallsR Tryz.prog 91 [(.pointer (some ⟨b1, o1, none⟩)), (vI x2), (vI x3)] w0 (Q_impl_fileReader_value w0 B res)
structure S_impl_fileReader_array (n : Nat) : Prop where
  run : ∀ {B : Nat} {x1 : FileReader} {pa1_0 : Option Addr} {pn1_0 pc1_0 : Nat} {pa1_1 : Option Addr} {pn1_1 pc1_1 : Nat} {b1 o1 : Nat} {x2 : Rule} {pa2_4 : Option Addr} {pn2_4 pc2_4 : Nat} {pa2_5 : Option Addr} {pn2_5 pc2_5 : Nat} {pa2_6 : Option Addr} {pn2_6 pc2_6 : Nat} {pa2_7 : Option Addr} {pn2_7 pc2_7 : Nat} {x3 : Int} {res : Val × Int × (Option (Int × Int))} {w0 : World} (hm : (F_impl_fileReader_value n).impl_fileReader_array x1 x2 x3 = some res) (hBw : B ≤ w0.heap.size) (p1_0 : repS w0 B (.slice pa1_0 pn1_0 pc1_0) x1.d.rules) (p1_1 : repS w0 B (.slice pa1_1 pn1_1 pc1_1) x1.b) (hC1 : CellsAt w0 b1 o1 [(.slice pa1_0 pn1_0 pc1_0), (.slice pa1_1 pn1_1 pc1_1)]) (hC1b : b1 < B) (p2_0 : x2.name.b.length ≤ LEN) (p2_1 : inI x2.kind) (p2_2 : inI x2.size) (p2_4 : repS w0 B (.slice pa2_4 pn2_4 pc2_4) x2.bytes) (p2_5 : repS w0 B (.slice pa2_5 pn2_5 pc2_5) x2.names) (p2_6 : repS w0 B (.slice pa2_6 pn2_6 pc2_6) x2.tags) (p2_7 : repS w0 B (.slice pa2_7 pn2_7 pc2_7) x2.kids) (p3_0 : inI x3), CallsR Tryz.prog 112 [(.pointer (some ⟨b1, o1, none⟩)), (.agg #[(Str.v x2.name), (vI x2.kind), (vI x2.size), (vB x2.little), (.slice pa2_4 pn2_4 pc2_4), (.slice pa2_5 pn2_5 pc2_5), (.slice pa2_6 pn2_6 pc2_6), (.slice pa2_7 pn2_7 pc2_7)]), (vI x3)] w0 (Q_impl_fileReader_array w0 B res)
structure S_impl_fileReader_items (n : Nat) : Prop where
  run : ∀ {B : Nat} {x1 : FileReader} {pa1_0 : Option Addr} {pn1_0 pc1_0 : Nat} {pa1_1 : Option Addr} {pn1_1 pc1_1 : Nat} {b1 o1 : Nat} {x2 : Val} {pa2_1 : Option Addr} {pn2_1 pc2_1 : Nat} {S2_1 : List Nat} {pa2_2 : Option Addr} {pn2_2 pc2_2 : Nat} {S2_2 : List Nat} {x3 : List Int} {pa3_0 : Option Addr} {pn3_0 pc3_0 : Nat} {x4 : Int} {res : Val × Int × (Option (Int × Int))} {w0 : World} (hm : (F_impl_fileReader_value n).impl_fileReader_items x1 x2 x3 x4 = some res) (hBw : B ≤ w0.heap.size) (p1_0 : repS w0 B (.slice pa1_0 pn1_0 pc1_0) x1.d.rules) (p1_1 : repS w0 B (.slice pa1_1 pn1_1 pc1_1) x1.b) (hC1 : CellsAt w0 b1 o1 [(.slice pa1_0 pn1_0 pc1_0), (.slice pa1_1 pn1_1 pc1_1)]) (hC1b : b1 < B) (p2_0 : inI x2.number) (p2_1 : ownS w0 S2_1 (.slice pa2_1 pn2_1 pc2_1) x2.bytes) (p2_1n : S2_1.Nodup) (p2_1g : ∀ k ∈ S2_1, B ≤ k) (p2_2 : ownS w0 S2_2 (.slice pa2_2 pn2_2 pc2_2) x2.items) (p2_2n : S2_2.Nodup) (p2_2g : ∀ k ∈ S2_2, B ≤ k) (p2_2d1 : ∀ k ∈ S2_2, k ∉ S2_1) (p3_0 : repS w0 B (.slice pa3_0 pn3_0 pc3_0) x3) (p4_0 : inI x4), CallsR Tryz.prog 113 [(.pointer (some ⟨b1, o1, none⟩)), (.agg #[(vI x2.number), (.slice pa2_1 pn2_1 pc2_1), (.slice pa2_2 pn2_2 pc2_2)]), (.slice pa3_0 pn3_0 pc3_0), (vI x4)] w0 (Q_impl_fileReader_items w0 B S2_1 S2_2 res)
structure S_impl_fileReader_choice (n : Nat) : Prop where
  run : ∀ {B : Nat} {x1 : FileReader} {pa1_0 : Option Addr} {pn1_0 pc1_0 : Nat} {pa1_1 : Option Addr} {pn1_1 pc1_1 : Nat} {b1 o1 : Nat} {x2 : Rule} {pa2_4 : Option Addr} {pn2_4 pc2_4 : Nat} {pa2_5 : Option Addr} {pn2_5 pc2_5 : Nat} {pa2_6 : Option Addr} {pn2_6 pc2_6 : Nat} {pa2_7 : Option Addr} {pn2_7 pc2_7 : Nat} {x3 : Int} {res : Val × Int × (Option (Int × Int))} {w0 : World} (hm : (F_impl_fileReader_value n).impl_fileReader_choice x1 x2 x3 = some res) (hBw : B ≤ w0.heap.size) (p1_0 : repS w0 B (.slice pa1_0 pn1_0 pc1_0) x1.d.rules) (p1_1 : repS w0 B (.slice pa1_1 pn1_1 pc1_1) x1.b) (hC1 : CellsAt w0 b1 o1 [(.slice pa1_0 pn1_0 pc1_0), (.slice pa1_1 pn1_1 pc1_1)]) (hC1b : b1 < B) (p2_0 : x2.name.b.length ≤ LEN) (p2_1 : inI x2.kind) (p2_2 : inI x2.size) (p2_4 : repS w0 B (.slice pa2_4 pn2_4 pc2_4) x2.bytes) (p2_5 : repS w0 B (.slice pa2_5 pn2_5 pc2_5) x2.names) (p2_6 : repS w0 B (.slice pa2_6 pn2_6 pc2_6) x2.tags) (p2_7 : repS w0 B (.slice pa2_7 pn2_7 pc2_7) x2.kids) (p3_0 : inI x3), CallsR Tryz.prog 114 [(.pointer (some ⟨b1, o1, none⟩)), (.agg #[(Str.v x2.name), (vI x2.kind), (vI x2.size), (vB x2.little), (.slice pa2_4 pn2_4 pc2_4), (.slice pa2_5 pn2_5 pc2_5), (.slice pa2_6 pn2_6 pc2_6), (.slice pa2_7 pn2_7 pc2_7)]), (vI x3)] w0 (Q_impl_fileReader_choice w0 B res)
structure S_impl_fileReader_option (n : Nat) : Prop where
  run : ∀ {B : Nat} {x1 : FileReader} {pa1_0 : Option Addr} {pn1_0 pc1_0 : Nat} {pa1_1 : Option Addr} {pn1_1 pc1_1 : Nat} {b1 o1 : Nat} {x2 : Rule} {pa2_4 : Option Addr} {pn2_4 pc2_4 : Nat} {pa2_5 : Option Addr} {pn2_5 pc2_5 : Nat} {pa2_6 : Option Addr} {pn2_6 pc2_6 : Nat} {pa2_7 : Option Addr} {pn2_7 pc2_7 : Nat} {x3 : Int} {res : Val × Int × (Option (Int × Int))} {w0 : World} (hm : (F_impl_fileReader_value n).impl_fileReader_option x1 x2 x3 = some res) (hBw : B ≤ w0.heap.size) (p1_0 : repS w0 B (.slice pa1_0 pn1_0 pc1_0) x1.d.rules) (p1_1 : repS w0 B (.slice pa1_1 pn1_1 pc1_1) x1.b) (hC1 : CellsAt w0 b1 o1 [(.slice pa1_0 pn1_0 pc1_0), (.slice pa1_1 pn1_1 pc1_1)]) (hC1b : b1 < B) (p2_0 : x2.name.b.length ≤ LEN) (p2_1 : inI x2.kind) (p2_2 : inI x2.size) (p2_4 : repS w0 B (.slice pa2_4 pn2_4 pc2_4) x2.bytes) (p2_5 : repS w0 B (.slice pa2_5 pn2_5 pc2_5) x2.names) (p2_6 : repS w0 B (.slice pa2_6 pn2_6 pc2_6) x2.tags) (p2_7 : repS w0 B (.slice pa2_7 pn2_7 pc2_7) x2.kids) (p3_0 : inI x3), CallsR Tryz.prog 115 [(.pointer (some ⟨b1, o1, none⟩)), (.agg #[(Str.v x2.name), (vI x2.kind), (vI x2.size), (vB x2.little), (.slice pa2_4 pn2_4 pc2_4), (.slice pa2_5 pn2_5 pc2_5), (.slice pa2_6 pn2_6 pc2_6), (.slice pa2_7 pn2_7 pc2_7)]), (vI x3)] w0 (Q_impl_fileReader_option w0 B res)
structure S_impl_fileReader_checked (n : Nat) : Prop where
  run : ∀ {B : Nat} {x1 : FileReader} {pa1_0 : Option Addr} {pn1_0 pc1_0 : Nat} {pa1_1 : Option Addr} {pn1_1 pc1_1 : Nat} {b1 o1 : Nat} {x2 : Rule} {pa2_4 : Option Addr} {pn2_4 pc2_4 : Nat} {pa2_5 : Option Addr} {pn2_5 pc2_5 : Nat} {pa2_6 : Option Addr} {pn2_6 pc2_6 : Nat} {pa2_7 : Option Addr} {pn2_7 pc2_7 : Nat} {x3 : Int} {res : Val × Int × (Option (Int × Int))} {w0 : World} (hm : (F_impl_fileReader_value n).impl_fileReader_checked x1 x2 x3 = some res) (hBw : B ≤ w0.heap.size) (p1_0 : repS w0 B (.slice pa1_0 pn1_0 pc1_0) x1.d.rules) (p1_1 : repS w0 B (.slice pa1_1 pn1_1 pc1_1) x1.b) (hC1 : CellsAt w0 b1 o1 [(.slice pa1_0 pn1_0 pc1_0), (.slice pa1_1 pn1_1 pc1_1)]) (hC1b : b1 < B) (p2_0 : x2.name.b.length ≤ LEN) (p2_1 : inI x2.kind) (p2_2 : inI x2.size) (p2_4 : repS w0 B (.slice pa2_4 pn2_4 pc2_4) x2.bytes) (p2_5 : repS w0 B (.slice pa2_5 pn2_5 pc2_5) x2.names) (p2_6 : repS w0 B (.slice pa2_6 pn2_6 pc2_6) x2.tags) (p2_7 : repS w0 B (.slice pa2_7 pn2_7 pc2_7) x2.kids) (p3_0 : inI x3), CallsR Tryz.prog 116 [(.pointer (some ⟨b1, o1, none⟩)), (.agg #[(Str.v x2.name), (vI x2.kind), (vI x2.size), (vB x2.little), (.slice pa2_4 pn2_4 pc2_4), (.slice pa2_5 pn2_5 pc2_5), (.slice pa2_6 pn2_6 pc2_6), (.slice pa2_7 pn2_7 pc2_7)]), (vI x3)] w0 (Q_impl_fileReader_checked w0 B res)
theorem T_impl_fileReader_value (ih_impl_fileReader_value : S_impl_fileReader_value n) (ih_impl_fileReader_array : S_impl_fileReader_array n) (ih_impl_fileReader_items : S_impl_fileReader_items n) (ih_impl_fileReader_choice : S_impl_fileReader_choice n) (ih_impl_fileReader_option : S_impl_fileReader_option n) (ih_impl_fileReader_checked : S_impl_fileReader_checked n) {x1 : FileReader} {b1 o1 : Nat} {x2 : Int} {x3 : Int} {res : Val × Int × (Option (Int × Int))} (hm : B_impl_fileReader_value n (F_impl_fileReader_value n) x1 x2 x3 = some res) (hBw : B ≤ w0.heap.size) (p1_0 : repS w0 B (.slice pa1_0 pn1_0 pc1_0) x1.d.rules) (p1_1 : repS w0 B (.slice pa1_1 pn1_1 pc1_1) x1.b) (hC1 : CellsAt w0 b1 o1 [(.slice pa1_0 pn1_0 pc1_0), (.slice pa1_1 pn1_1 pc1_1)]) (hC1b : b1 < B) (p2_0 : inI x2) (p3_0 : inI x3) : CallsR Tryz.prog 91 [(.pointer (some ⟨b1, o1, none⟩)), (vI x2), (vI x3)] w0 (Q_impl_fileReader_value w0 B res) := by
 unfold B_impl_fileReader_value at hm
 obtain ⟨fn, hf, hb, hN, hr⟩ := fnE Tryz.func91
 refine goW hf (hb.trans z) (hN.trans z) (lb z) <| Ws <| E z (fa zero_61) ?_
 rintro _ w21 ⟨rfl, h22⟩
 have h23 := h22.below
 have h24 : Blk w21 w0.heap.size [(vI 0), (.slice none 0 0), (.slice none 0 0)] := h22.blk
 refine Ra z <| Ra z <| Wn <| Ws <| Rm z <| R z (rd_nil z) <| R z (fd fld_120_0 z) <| R z (fd fld_31_0 z) ?_
 have h25 := hC1.ext h23
 refine R z (l1 agg_29 z fid (h25.at (j := 0) z)) <| Rm z ?_
 obtain ⟨x26, e27, hm28⟩ := bdS hm
 have h29 := p1_0.ext h23
 refine RX z (at_ (α := Rule) und_29 size_82 z z z h29 e27) ?_
 rintro _ ⟨b30, o31, cs32, rfl, h33, h34, h35⟩
 obtain ⟨a39, n40, c41, a43, n44, c45, a47, n48, c49, a51, n52, c53, rfl, h36, h37, h38, h42, h46, h50, h54⟩ := Rule_open h34
 refine R z (lN (vs := [(Str.v x26.name), (vI x26.kind), (vI x26.size), (vB x26.little), (.slice a39 n40 c41), (.slice a43 n44 c45), (.slice a47 n48 c49), (.slice a51 n52 c53)]) agg_82 size_82 z z fid h33) <| E z (fa zero_82) ?_
 rintro _ w55 ⟨rfl, h56⟩
 have h57 := h56.below
 have h58 : Blk w55 w21.heap.size [(Str.v (⟨[]⟩ : Str)), (vI 0), (vI 0), (vB false), (.slice none 0 0), (.slice none 0 0), (.slice none 0 0), (.slice none 0 0)] := h56.blk
 refine E0 (fs (cur' := [(Str.v x26.name), (vI x26.kind), (vI x26.size), (vB x26.little), (.slice a39 n40 c41), (.slice a43 n44 c45), (.slice a47 n48 c49), (.slice a51 n52 c53)]) size_82 z z h58 z (lb z) (oneAll z) z) ?_
 rintro _ w59 ⟨h60, s61⟩
 have h62 := s61.one
 refine Wn <| Wq <| Ws <| R z (fd fld_82_1 z) <| R z (l1 agg_3 z fid (h60.at z)) <| Wn <| WC_block <| Ws <| R z (eql z z) <| Ra z <| Wn <| Wc z (fun hc1421 => ?_) (fun hc1421 => ?_)
 ·refine Ws <| Rm z <| Rm z <| Rm z ?_
  have h1425 := mem1le (lt_ hBw h23.size)
  have h1433 := lt_ (lt_ h23.size h57.size) h62.size
  obtain ⟨r1435, r1436, r1437, e1438, hm1439⟩ := bd3S (ifT hm28 hc1421)
  refine E z (fc Tryz.call109 z (W_impl_fileReader_integer (B := B) e1438 (lt_ hBw h1433) ((h29.ext h57).chg h62 (ltge h1425)) (((p1_1.ext h23).ext h57).chg h62 (ltge h1425)) ((h25.ext h57).chg h62 ((ltge h1425) _ hC1b)) hC1b p2_0 p3_0)) ?_
  rintro _ w1440 ⟨s1441, v1444, S1446, rfl, h1442, h1443, h1445, h1447⟩
  refine Rm z ?_
  iterate 3 refine R z (ext_ z z) ?_
  refine Ra z <| Ra z <| Ra z <| Wn <| Ws <| Rm z <| R z (bP (parts := [(0, (.tmp 41))]) (cs := [(vI r1435), (.slice none 0 0), (.slice none 0 0)]) build_61 z z) <| Rm z <| Rm z <| E0 (fs (cur' := [(vI r1435), (.slice none 0 0), (.slice none 0 0)]) size_61 z z (((h24.ext h57).chg h62 (djs (mmr h24.lt))).ext s1441) z (lb z) (oneAll z) z) ?_
  rintro _ w1452 ⟨h1453, s1454⟩
  have h1455 := s1454.one
  refine Ra z <| Ra z <| Wn ?_
  obtain rfl := som hm1439
  exact Wr (rtO (ret3 hr (resC agg_61 size_61 z h1453 z) z z ⟨(bM (bup (bM (bup h23 h57) h62 (mem1le h23.size)) s1441) h1455 (mem1 lr)), none, 0, 0, [], none, 0, 0, [], v1444, S1446, z, h1442, onL, onL, h1443, (h1445.chg h1455 (o0n1 h1447 h24.lt (lt_ h57.size h62.size))), (o0le h1447 h1433), nd0, al0⟩))
 have hm1465 := ifF hm28 hc1421
 refine Ws <| R z (eql z z) <| Ra z <| Wn <| Wc z (fun hc2085 => ?_) (fun hc2085 => ?_)
 ·refine Ws <| Rm z <| R z (lN (vs := [(Str.v x26.name), (vI x26.kind), (vI x26.size), (vB x26.little), (.slice a39 n40 c41), (.slice a43 n44 c45), (.slice a47 n48 c49), (.slice a51 n52 c53)]) agg_82 size_82 z z fid (h60.row 0 8 z)) <| Rm z ?_
  have h2089 := mem1le (lt_ hBw h23.size)
  have h2105 := lt_ (lt_ h23.size h57.size) h62.size
  obtain ⟨r2107, r2108, e2109, hm2110⟩ := bd2S (ifT hm1465 hc2085)
  refine E z (fc Tryz.call110 z (W_impl_fileReader_constant (B := B) e2109 (lt_ hBw h2105) ((h29.ext h57).chg h62 (ltge h2089)) (((p1_1.ext h23).ext h57).chg h62 (ltge h2089)) ((h25.ext h57).chg h62 ((ltge h2089) _ hC1b)) hC1b h36 h37 h38 ((h42.ext h57).chg h62 (ltge h2089)) ((h46.ext h57).chg h62 (ltge h2089)) ((h50.ext h57).chg h62 (ltge h2089)) ((h54.ext h57).chg h62 (ltge h2089)) p3_0)) ?_
  rintro _ w2111 ⟨s2112, v2114, S2116, rfl, h2113, h2115, h2117⟩
  refine Rm z <| R z (ext_ z z) <| R z (ext_ z z) <| Ra z <| Ra z <| Wn <| Ws <| R z (bP (parts := []) (cs := [(vI 0), (.slice none 0 0), (.slice none 0 0)]) build_61 z z) <| Rm z <| Rm z <| E0 (fs (cur' := [(vI 0), (.slice none 0 0), (.slice none 0 0)]) size_61 z z (((h24.ext h57).chg h62 (djs (mmr h24.lt))).ext s2112) z (lb z) (oneAll z) z) ?_
  rintro _ w2122 ⟨h2123, s2124⟩
  have h2125 := s2124.one
  refine Ra z <| Ra z <| Wn ?_
  obtain rfl := som hm2110
  exact Wr (rtO (ret3 hr (resC agg_61 size_61 z h2123 z) z z ⟨(bM (bup (bM (bup h23 h57) h62 (mem1le h23.size)) s2112) h2125 (mem1 lr)), none, 0, 0, [], none, 0, 0, [], v2114, S2116, z, (ii z), onL, onL, h2113, (h2115.chg h2125 (o0n1 h2117 h24.lt (lt_ h57.size h62.size))), (o0le h2117 h2105), nd0, al0⟩))
 have hm2135 := ifF hm1465 hc2085
 refine Ws <| R z (eql z z) <| Ra z <| Wn <| Wc z (fun hc2695 => ?_) (fun hc2695 => ?_)
 ·refine Ws <| Rm z <| Rm z <| R z (fd fld_82_2 z) <| R z (l1 agg_3 z fid (h60.at z)) ?_
  have h2699 := mem1le (lt_ hBw h23.size)
  have h2707 := lt_ (lt_ h23.size h57.size) h62.size
  obtain ⟨r2709, r2710, r2711, e2712, hm2713⟩ := bd3S (ifT hm2135 hc2695)
  refine E z (fc Tryz.call111 z (W_impl_fileReader_content (B := B) e2712 (lt_ hBw h2707) ((h29.ext h57).chg h62 (ltge h2699)) (((p1_1.ext h23).ext h57).chg h62 (ltge h2699)) ((h25.ext h57).chg h62 ((ltge h2699) _ hC1b)) hC1b p3_0 h38)) ?_
  rintro _ w2714 ⟨s2715, a2717, n2718, c2719, S2721, a2722, n2723, c2724, S2726, v2728, S2730, rfl, h2716, h2720, h2725, h2727, h2729, h2731, h2732, h2733⟩
  iterate 3 refine R z (ext_ z z) ?_
  refine E0 (fs (cur' := [(vI r2709.number), (.slice a2717 n2718 c2719), (.slice a2722 n2723 c2724)]) size_61 z z (((h24.ext h57).chg h62 (djs (mmr h24.lt))).ext s2715) z (lb z) (oneAll z) z) ?_
  rintro _ w2738 ⟨h2739, s2740⟩
  have h2741 := s2740.one
  refine Ra z <| Ra z <| Wn ?_
  obtain rfl := som hm2713
  have h2742 := lt_ h57.size h62.size
  exact Wr (rtO (ret3 hr (resC agg_61 size_61 z h2739 z) z z ⟨(bM (bup (bM (bup h23 h57) h62 (mem1le h23.size)) s2715) h2741 (mem1 lr)), a2717, n2718, c2719, S2721, a2722, n2723, c2724, S2726, v2728, S2730, z, h2716, (h2720.chg h2741 (o0n1 (all_left h2733) h24.lt h2742)), (h2725.chg h2741 (o0n1 (all_right h2733) h24.lt h2742)), h2727, (h2729.chg h2741 (o0n1 h2731 h24.lt h2742)), (o0le h2731 h2707), (nd_app (nd_left h2732) (nd_right h2732) (nd_dj h2732)), (all_app (o0le (all_left h2733) h2707) (o0le (all_right h2733) h2707))⟩))
 have hm2757 := ifF hm2135 hc2695
 refine Ws <| R z (eql z z) <| Ra z <| Wn <| Wc z (fun hc3246 => ?_) (fun hc3246 => ?_)
 ·refine Ws <| Rm z <| R z (fd fld_82_7 z) <| R z (l1 agg_73 z fid (h60.at z)) ?_
  obtain ⟨x3248, e3249, hm3250⟩ := bdS (ifT hm2757 hc3246)
  have h3253 := mem1le (lt_ hBw h23.size)
  refine RX z (at_ (α := Int) und_73 size_3 z z z ((h54.ext h57).chg h62 (ltge h3253)) e3249) ?_
  rintro _ ⟨b3255, o3256, cs3257, rfl, h3258, h3259, h3260⟩
  obtain ⟨rfl, h3261⟩ := Int_open h3259
  refine R z (l1 agg_3 z fid (h3258.at0 z)) <| Rm z ?_
  have h3263 := (h25.ext h57).chg h62 ((ltge h3253) _ hC1b)
  have h3265 := (h29.ext h57).chg h62 (ltge h3253)
  have h3268 := ((p1_1.ext h23).ext h57).chg h62 (ltge h3253)
  have h3270 := lt_ (lt_ h23.size h57.size) h62.size
  obtain ⟨r3272, r3273, r3274, e3275, hm3276⟩ := bd3S hm3250
  refine E z (fc Tryz.call109 z (W_impl_fileReader_integer (B := B) e3275 (lt_ hBw h3270) h3265 h3268 h3263 hC1b h3261 p3_0)) ?_
  rintro _ w3277 ⟨s3278, v3281, S3283, rfl, h3279, h3280, h3282, h3284⟩
  refine Rm z ?_
  iterate 3 refine R z (ext_ z z) ?_
  refine Ra z <| Ra z <| Ra z <| Wn <| Wq <| Ws <| Rm z <| R z (rd_neqEr und_122 z z h3282) <| Wn <| Wc z (fun hc3306 => ?_) (fun hc3306 => ?_)
  ·refine Ws <| R z (bP (parts := []) (cs := [(vI 0), (.slice none 0 0), (.slice none 0 0)]) build_61 z z) <| Rm z <| Rm z <| E0 (fs (cur' := [(vI 0), (.slice none 0 0), (.slice none 0 0)]) size_61 z z (((h24.ext h57).chg h62 (djs (mmr h24.lt))).ext s3278) z (lb z) (oneAll z) z) ?_
   rintro _ w3312 ⟨h3313, s3314⟩
   have h3315 := s3314.one
   refine Ra z <| Ra z <| Wn ?_
   obtain rfl := som (ifT hm3276 hc3306)
   exact Wr (rtO (ret3 hr (resC agg_61 size_61 z h3313 z) z z ⟨(bM (bup (bM (bup h23 h57) h62 (mem1le h23.size)) s3278) h3315 (mem1 lr)), none, 0, 0, [], none, 0, 0, [], v3281, S3283, z, (ii z), onL, onL, p3_0, (h3282.chg h3315 (o0n1 h3284 h24.lt (lt_ h57.size h62.size))), (o0le h3284 h3270), nd0, al0⟩))
  refine Wk <| Ws <| Rm z <| Rm z <| Rm z ?_
  have h3329 := lt_ h3270 s3278.size
  obtain ⟨r3331, r3332, r3333, e3334, hm3335⟩ := bd3S (ifF hm3276 hc3306)
  refine E z (fc Tryz.call111 z (W_impl_fileReader_content (B := B) e3334 (lt_ hBw h3329) (h3265.ext s3278) (h3268.ext s3278) (h3263.ext s3278) hC1b h3280 h3279)) ?_
  rintro _ w3336 ⟨s3337, a3339, n3340, c3341, S3343, a3344, n3345, c3346, S3348, v3350, S3352, rfl, h3338, h3342, h3347, h3349, h3351, h3353, h3354, h3355⟩
  iterate 3 refine R z (ext_ z z) ?_
  refine E0 (fs (cur' := [(vI r3331.number), (.slice a3339 n3340 c3341), (.slice a3344 n3345 c3346)]) size_61 z z ((((h24.ext h57).chg h62 (djs (mmr h24.lt))).ext s3278).ext s3337) z (lb z) (oneAll z) z) ?_
  rintro _ w3361 ⟨h3362, s3363⟩
  have h3364 := s3363.one
  refine Ra z <| Ra z <| Wn ?_
  obtain rfl := som hm3335
  have h3366 := lt_ (lt_ h57.size h62.size) s3278.size
  exact Wr (rtO (ret3 hr (resC agg_61 size_61 z h3362 z) z z ⟨(bM (bup (bup (bM (bup h23 h57) h62 (mem1le h23.size)) s3278) s3337) h3364 (mem1 lr)), a3339, n3340, c3341, S3343, a3344, n3345, c3346, S3348, v3350, S3352, z, h3338, (h3342.chg h3364 (o0n1 (all_left h3355) h24.lt h3366)), (h3347.chg h3364 (o0n1 (all_right h3355) h24.lt h3366)), h3349, (h3351.chg h3364 (o0n1 h3353 h24.lt h3366)), (o0le h3353 h3329), (nd_app (nd_left h3354) (nd_right h3354) (nd_dj h3354)), (all_app (o0le (all_left h3355) h3329) (o0le (all_right h3355) h3329))⟩))
 have hm3382 := ifF hm2757 hc3246
 refine Ws <| R z (eql z z) <| Ra z <| Wn <| Wc z (fun hc3747 => ?_) (fun hc3747 => ?_)
 ·refine Ws <| Rm z <| R z (lN (vs := [(Str.v x26.name), (vI x26.kind), (vI x26.size), (vB x26.little), (.slice a39 n40 c41), (.slice a43 n44 c45), (.slice a47 n48 c49), (.slice a51 n52 c53)]) agg_82 size_82 z z fid (h60.row 0 8 z)) <| Rm z ?_
  have h3751 := mem1le (lt_ hBw h23.size)
  have h3767 := lt_ (lt_ h23.size h57.size) h62.size
  obtain ⟨r3769, r3770, r3771, e3772, hm3773⟩ := bd3S (ifT hm3382 hc3747)
  refine E z (fc Tryz.call112 z (ih_impl_fileReader_array.run (B := B) e3772 (lt_ hBw h3767) ((h29.ext h57).chg h62 (ltge h3751)) (((p1_1.ext h23).ext h57).chg h62 (ltge h3751)) ((h25.ext h57).chg h62 ((ltge h3751) _ hC1b)) hC1b h36 h37 h38 ((h42.ext h57).chg h62 (ltge h3751)) ((h46.ext h57).chg h62 (ltge h3751)) ((h50.ext h57).chg h62 (ltge h3751)) ((h54.ext h57).chg h62 (ltge h3751)) p3_0)) ?_
  rintro _ w3774 ⟨s3775, a3777, n3778, c3779, S3781, a3782, n3783, c3784, S3786, v3788, S3790, rfl, h3776, h3780, h3785, h3787, h3789, h3791, h3792, h3793⟩
  iterate 3 refine R z (ext_ z z) ?_
  refine E0 (fs (cur' := [(vI r3769.number), (.slice a3777 n3778 c3779), (.slice a3782 n3783 c3784)]) size_61 z z (((h24.ext h57).chg h62 (djs (mmr h24.lt))).ext s3775) z (lb z) (oneAll z) z) ?_
  rintro _ w3798 ⟨h3799, s3800⟩
  have h3801 := s3800.one
  refine Ra z <| Ra z <| Wn ?_
  obtain rfl := som hm3773
  have h3802 := lt_ h57.size h62.size
  exact Wr (rtO (ret3 hr (resC agg_61 size_61 z h3799 z) z z ⟨(bM (bup (bM (bup h23 h57) h62 (mem1le h23.size)) s3775) h3801 (mem1 lr)), a3777, n3778, c3779, S3781, a3782, n3783, c3784, S3786, v3788, S3790, z, h3776, (h3780.chg h3801 (o0n1 (all_left h3793) h24.lt h3802)), (h3785.chg h3801 (o0n1 (all_right h3793) h24.lt h3802)), h3787, (h3789.chg h3801 (o0n1 h3791 h24.lt h3802)), (o0le h3791 h3767), (nd_app (nd_left h3792) (nd_right h3792) (nd_dj h3792)), (all_app (o0le (all_left h3793) h3767) (o0le (all_right h3793) h3767))⟩))
 have hm3817 := ifF hm3382 hc3747
 refine Ws <| R z (eql z z) <| Ra z <| Wn <| Wc z (fun hc4106 => ?_) (fun hc4106 => ?_)
 ·refine Ws <| Rm z <| R z (bP (parts := []) (cs := [(vI 0), (.slice none 0 0), (.slice none 0 0)]) build_61 z z) <| R z (fd fld_82_7 z) <| R z (l1 agg_73 z fid (h60.at z)) <| Rm z ?_
  have h4110 := mem1le (lt_ hBw h23.size)
  have h4120 := lt_ (lt_ h23.size h57.size) h62.size
  obtain ⟨r4122, r4123, r4124, e4125, hm4126⟩ := bd3S (ifT hm3817 hc4106)
  refine E z (fc Tryz.call113 z (ih_impl_fileReader_items.run (B := B) e4125 (lt_ hBw h4120) ((h29.ext h57).chg h62 (ltge h4110)) (((p1_1.ext h23).ext h57).chg h62 (ltge h4110)) ((h25.ext h57).chg h62 ((ltge h4110) _ hC1b)) hC1b (ii z) onL nd_nil all_nil onL nd_nil all_nil all_nil ((h54.ext h57).chg h62 (ltge h4110)) p3_0)) ?_
  rintro _ w4127 ⟨s4128, a4130, n4131, c4132, S4134, a4135, n4136, c4137, S4139, v4141, S4143, rfl, h4129, h4133, h4138, h4140, h4142, h4144, h4145, h4146⟩
  iterate 3 refine R z (ext_ z z) ?_
  refine E0 (fs (cur' := [(vI r4122.number), (.slice a4130 n4131 c4132), (.slice a4135 n4136 c4137)]) size_61 z z (((h24.ext h57).chg h62 (djs (mmr h24.lt))).chg s4128 (atp (nmA (nmN _) (nmN _)))) z (lb z) (oneAll z) z) ?_
  rintro _ w4151 ⟨h4152, s4153⟩
  have h4154 := s4153.one
  refine Ra z <| Ra z <| Wn ?_
  obtain rfl := som hm4126
  have h4155 := lt_ h57.size h62.size
  have h4156 : ∀ k ∈ S4134, k ∉ [w0.heap.size] := or1 (all_left h4146) al0 (ltnot (mem1 h24.lt) h4155)
  have h4158 : ∀ k ∈ S4139, k ∉ [w0.heap.size] := or1 (all_right h4146) al0 (ltnot (mem1 h24.lt) h4155)
  exact Wr (rtO (ret3 hr (resC agg_61 size_61 z h4152 z) z z ⟨(bM (bM (bM (bup h23 h57) h62 (mem1le h23.size)) s4128 al0) h4154 (mem1 lr)), a4130, n4131, c4132, S4134, a4135, n4136, c4137, S4139, v4141, S4143, z, h4129, (h4133.chg h4154 h4156), (h4138.chg h4154 h4158), h4140, (h4142.chg h4154 (o0n1 h4144 h24.lt h4155)), (o0le h4144 h4120), (nd_app (nd_left h4145) (nd_right h4145) (nd_dj h4145)), (all_app (o1le (all_left h4146) al0 h4120) (o1le (all_right h4146) al0 h4120))⟩))
 have hm4170 := ifF hm3817 hc4106
 refine Ws <| R z (eql z z) <| Ra z <| Wn <| Wc z (fun hc4390 => ?_) (fun hc4390 => ?_)
 ·refine Ws <| Rm z <| R z (lN (vs := [(Str.v x26.name), (vI x26.kind), (vI x26.size), (vB x26.little), (.slice a39 n40 c41), (.slice a43 n44 c45), (.slice a47 n48 c49), (.slice a51 n52 c53)]) agg_82 size_82 z z fid (h60.row 0 8 z)) <| Rm z ?_
  have h4394 := mem1le (lt_ hBw h23.size)
  have h4410 := lt_ (lt_ h23.size h57.size) h62.size
  obtain ⟨r4412, r4413, r4414, e4415, hm4416⟩ := bd3S (ifT hm4170 hc4390)
  refine E z (fc Tryz.call114 z (ih_impl_fileReader_choice.run (B := B) e4415 (lt_ hBw h4410) ((h29.ext h57).chg h62 (ltge h4394)) (((p1_1.ext h23).ext h57).chg h62 (ltge h4394)) ((h25.ext h57).chg h62 ((ltge h4394) _ hC1b)) hC1b h36 h37 h38 ((h42.ext h57).chg h62 (ltge h4394)) ((h46.ext h57).chg h62 (ltge h4394)) ((h50.ext h57).chg h62 (ltge h4394)) ((h54.ext h57).chg h62 (ltge h4394)) p3_0)) ?_
  rintro _ w4417 ⟨s4418, a4420, n4421, c4422, S4424, a4425, n4426, c4427, S4429, v4431, S4433, rfl, h4419, h4423, h4428, h4430, h4432, h4434, h4435, h4436⟩
  iterate 3 refine R z (ext_ z z) ?_
  refine E0 (fs (cur' := [(vI r4412.number), (.slice a4420 n4421 c4422), (.slice a4425 n4426 c4427)]) size_61 z z (((h24.ext h57).chg h62 (djs (mmr h24.lt))).ext s4418) z (lb z) (oneAll z) z) ?_
  rintro _ w4441 ⟨h4442, s4443⟩
  have h4444 := s4443.one
  refine Ra z <| Ra z <| Wn ?_
  obtain rfl := som hm4416
  have h4445 := lt_ h57.size h62.size
  exact Wr (rtO (ret3 hr (resC agg_61 size_61 z h4442 z) z z ⟨(bM (bup (bM (bup h23 h57) h62 (mem1le h23.size)) s4418) h4444 (mem1 lr)), a4420, n4421, c4422, S4424, a4425, n4426, c4427, S4429, v4431, S4433, z, h4419, (h4423.chg h4444 (o0n1 (all_left h4436) h24.lt h4445)), (h4428.chg h4444 (o0n1 (all_right h4436) h24.lt h4445)), h4430, (h4432.chg h4444 (o0n1 h4434 h24.lt h4445)), (o0le h4434 h4410), (nd_app (nd_left h4435) (nd_right h4435) (nd_dj h4435)), (all_app (o0le (all_left h4436) h4410) (o0le (all_right h4436) h4410))⟩))
 have hm4460 := ifF hm4170 hc4390
 refine Ws <| R z (eql z z) <| Ra z <| Wn <| Wc z (fun hc4606 => ?_) (fun hc4606 => ?_)
 ·refine Ws <| Rm z <| R z (lN (vs := [(Str.v x26.name), (vI x26.kind), (vI x26.size), (vB x26.little), (.slice a39 n40 c41), (.slice a43 n44 c45), (.slice a47 n48 c49), (.slice a51 n52 c53)]) agg_82 size_82 z z fid (h60.row 0 8 z)) <| Rm z ?_
  have h4610 := mem1le (lt_ hBw h23.size)
  have h4626 := lt_ (lt_ h23.size h57.size) h62.size
  obtain ⟨r4628, r4629, r4630, e4631, hm4632⟩ := bd3S (ifT hm4460 hc4606)
  refine E z (fc Tryz.call115 z (ih_impl_fileReader_option.run (B := B) e4631 (lt_ hBw h4626) ((h29.ext h57).chg h62 (ltge h4610)) (((p1_1.ext h23).ext h57).chg h62 (ltge h4610)) ((h25.ext h57).chg h62 ((ltge h4610) _ hC1b)) hC1b h36 h37 h38 ((h42.ext h57).chg h62 (ltge h4610)) ((h46.ext h57).chg h62 (ltge h4610)) ((h50.ext h57).chg h62 (ltge h4610)) ((h54.ext h57).chg h62 (ltge h4610)) p3_0)) ?_
  rintro _ w4633 ⟨s4634, a4636, n4637, c4638, S4640, a4641, n4642, c4643, S4645, v4647, S4649, rfl, h4635, h4639, h4644, h4646, h4648, h4650, h4651, h4652⟩
  iterate 3 refine R z (ext_ z z) ?_
  refine E0 (fs (cur' := [(vI r4628.number), (.slice a4636 n4637 c4638), (.slice a4641 n4642 c4643)]) size_61 z z (((h24.ext h57).chg h62 (djs (mmr h24.lt))).ext s4634) z (lb z) (oneAll z) z) ?_
  rintro _ w4657 ⟨h4658, s4659⟩
  have h4660 := s4659.one
  refine Ra z <| Ra z <| Wn ?_
  obtain rfl := som hm4632
  have h4661 := lt_ h57.size h62.size
  exact Wr (rtO (ret3 hr (resC agg_61 size_61 z h4658 z) z z ⟨(bM (bup (bM (bup h23 h57) h62 (mem1le h23.size)) s4634) h4660 (mem1 lr)), a4636, n4637, c4638, S4640, a4641, n4642, c4643, S4645, v4647, S4649, z, h4635, (h4639.chg h4660 (o0n1 (all_left h4652) h24.lt h4661)), (h4644.chg h4660 (o0n1 (all_right h4652) h24.lt h4661)), h4646, (h4648.chg h4660 (o0n1 h4650 h24.lt h4661)), (o0le h4650 h4626), (nd_app (nd_left h4651) (nd_right h4651) (nd_dj h4651)), (all_app (o0le (all_left h4652) h4626) (o0le (all_right h4652) h4626))⟩))
 have hm4676 := ifF hm4460 hc4606
 refine Ws <| R z (eql z z) <| Ra z <| Wn <| Wc z (fun hc4749 => ?_) (fun hc4749 => ?_)
 ·refine Ws <| Rm z <| R z (lN (vs := [(Str.v x26.name), (vI x26.kind), (vI x26.size), (vB x26.little), (.slice a39 n40 c41), (.slice a43 n44 c45), (.slice a47 n48 c49), (.slice a51 n52 c53)]) agg_82 size_82 z z fid (h60.row 0 8 z)) <| Rm z ?_
  have h4753 := mem1le (lt_ hBw h23.size)
  have h4769 := lt_ (lt_ h23.size h57.size) h62.size
  obtain ⟨r4771, r4772, r4773, e4774, hm4775⟩ := bd3S (ifT hm4676 hc4749)
  refine E z (fc Tryz.call116 z (ih_impl_fileReader_checked.run (B := B) e4774 (lt_ hBw h4769) ((h29.ext h57).chg h62 (ltge h4753)) (((p1_1.ext h23).ext h57).chg h62 (ltge h4753)) ((h25.ext h57).chg h62 ((ltge h4753) _ hC1b)) hC1b h36 h37 h38 ((h42.ext h57).chg h62 (ltge h4753)) ((h46.ext h57).chg h62 (ltge h4753)) ((h50.ext h57).chg h62 (ltge h4753)) ((h54.ext h57).chg h62 (ltge h4753)) p3_0)) ?_
  rintro _ w4776 ⟨s4777, a4779, n4780, c4781, S4783, a4784, n4785, c4786, S4788, v4790, S4792, rfl, h4778, h4782, h4787, h4789, h4791, h4793, h4794, h4795⟩
  iterate 3 refine R z (ext_ z z) ?_
  refine E0 (fs (cur' := [(vI r4771.number), (.slice a4779 n4780 c4781), (.slice a4784 n4785 c4786)]) size_61 z z (((h24.ext h57).chg h62 (djs (mmr h24.lt))).ext s4777) z (lb z) (oneAll z) z) ?_
  rintro _ w4800 ⟨h4801, s4802⟩
  have h4803 := s4802.one
  refine Ra z <| Ra z <| Wn ?_
  obtain rfl := som hm4775
  have h4804 := lt_ h57.size h62.size
  exact Wr (rtO (ret3 hr (resC agg_61 size_61 z h4801 z) z z ⟨(bM (bup (bM (bup h23 h57) h62 (mem1le h23.size)) s4777) h4803 (mem1 lr)), a4779, n4780, c4781, S4783, a4784, n4785, c4786, S4788, v4790, S4792, z, h4778, (h4782.chg h4803 (o0n1 (all_left h4795) h24.lt h4804)), (h4787.chg h4803 (o0n1 (all_right h4795) h24.lt h4804)), h4789, (h4791.chg h4803 (o0n1 h4793 h24.lt h4804)), (o0le h4793 h4769), (nd_app (nd_left h4794) (nd_right h4794) (nd_dj h4794)), (all_app (o0le (all_left h4795) h4769) (o0le (all_right h4795) h4769))⟩))
 refine Wk <| Wq <| WC_draw (X := noX) 0 (.rd 0 (.rd 1 (.rd 2 (.rd 3 (.rd 4 (.rd 5 (.rd 6 (.rd 7 (.rd 8 (.ef 9 (.rd 10 (.rd 11 (.rd 12 (.rd 13 (.rd 14 (.rd 15 (.rd 16 .done))))))))))))))))) mo (by kernel_rfl) fun w4820 s4821 _ => dR z z (mv z) <| dR z z (rd_nil z) <| dR z z (fd fld_120_1 z) ?_
 have h4824 := mem1le (lt_ hBw h23.size)
 refine dR z z (l1 agg_25 z fid ((((h25.ext h57).chg h62 ((ltge h4824) _ hC1b)).ext s4821).at (j := 1) z)) <| dR z z (mv z) <| dR z z (fd fld_82_4 z) <| dR z z (l1 agg_25 z fid ((h60.ext s4821).at z)) ?_
 obtain ⟨x4828, e4829, hm4830⟩ := bdS (ifF hm4676 hc4749)
 refine dRX z z (at_ (α := UInt8) und_25 size_5 z z z (((h42.ext h57).chg h62 (ltge h4824)).ext s4821) e4829) ?_
 rintro _ ⟨b4834, o4835, cs4836, rfl, h4837, h4838, h4839⟩
 obtain rfl := UInt8_open h4838
 refine dR z z (l1 agg_5 z fid (h4837.at0 z)) ?_
 have h4846 := lt_ (lt_ (lt_ h23.size h57.size) h62.size) s4821.size
 obtain ⟨r4848, r4849, r4850, e4851, hm4852⟩ := bd3S hm4830
 refine dE z z (fc Tryz.call117 z (W_impl_ReadTerminated (B := B) e4851 (lt_ hBw h4846) ((((p1_1.ext h23).ext h57).chg h62 (ltge h4824)).ext s4821) p3_0)) (.inr fun _ _ h => chgB (h.1)) ?_
 rintro _ w4853 ⟨s4854, a4855, n4856, c4857, S4859, rfl, h4858, h4860, h4861, h4862⟩
 refine dR z z (mv z) ?_
 iterate 3 refine dR z z (ext_ z z) ?_
 iterate 3 refine dR z z (asg z) ?_
 refine PR_done <| Wo <| Wq <| Ws <| Rm z <| R z (not_ z) <| Wn <| Wc z (fun hc4901 => ?_) (fun hc4901 => ?_)
 ·refine Ws <| R z (bP (parts := []) (cs := [(vI 0), (.slice none 0 0), (.slice none 0 0)]) build_61 z z) <| Rm z <| Rm z ?_
  have h4903 := lt_ h4846 s4854.size
  obtain ⟨r4905, e4906, hm4907⟩ := bdS (ifT hm4852 hc4901)
  refine E z (fc Tryz.call118 z (W_impl_fail (B := B) e4906 (lt_ hBw h4903) p3_0 (ii z))) ?_
  rintro _ w4908 ⟨s4909, v4910, S4912, rfl, h4911, h4913⟩
  refine E0 (fs (cur' := [(vI 0), (.slice none 0 0), (.slice none 0 0)]) size_61 z z (((((h24.ext h57).chg h62 (djs (mmr h24.lt))).ext s4821).ext s4854).ext s4909) z (lb z) (oneAll z) z) ?_
  rintro _ w4920 ⟨h4921, s4922⟩
  have h4923 := s4922.one
  refine Ra z <| Ra z <| Wn ?_
  obtain rfl := som hm4907
  exact Wr (ret3 hr (resC agg_61 size_61 z h4921 z) z z ⟨(bM (bup (bup (bup (bM (bup h23 h57) h62 (mem1le h23.size)) s4821) s4854) s4909) h4923 (mem1 lr)), none, 0, 0, [], none, 0, 0, [], v4910, S4912, z, (ii z), onL, onL, p3_0, (h4911.chg h4923 (o0n1 h4913 h24.lt (lt_ (lt_ (lt_ h57.size h62.size) s4821.size) s4854.size))), (o0le h4913 h4903), nd0, al0⟩)
 refine Wk <| Ws <| Rm z <| R z (bP (parts := [(1, (.tmp 159))]) (cs := [(vI 0), (.slice a4855 n4856 c4857), (.slice none 0 0)]) build_61 z z) <| Rm z <| E0 (fs (cur' := [(vI 0), (.slice a4855 n4856 c4857), (.slice none 0 0)]) size_61 z z ((((h24.ext h57).chg h62 (djs (mmr h24.lt))).ext s4821).ext s4854) z (lb z) (oneAll z) z) ?_
 rintro _ w4943 ⟨h4944, s4945⟩
 have h4946 := s4945.one
 refine Ra z <| Ra z <| Wn ?_
 obtain rfl := som (ifF hm4852 hc4901)
 exact Wr (ret3 hr (resC agg_61 size_61 z h4944 z) z z ⟨(bM (bup (bup (bM (bup h23 h57) h62 (mem1le h23.size)) s4821) s4854) h4946 (mem1 lr)), a4855, n4856, c4857, S4859, none, 0, 0, [], .nilIface, ([] : List Nat), z, (ii z), (h4858.chg h4946 (o0n1 h4862 h24.lt (lt_ (lt_ h57.size h62.size) s4821.size))), onL, h4860, errR_nil, all_nil, (nd_app h4861 nd_nil (nmN _)), (all_app (o0le h4862 h4846) all_nil)⟩)
theorem T_impl_fileReader_array (ih_impl_fileReader_value : S_impl_fileReader_value n) (ih_impl_fileReader_array : S_impl_fileReader_array n) (ih_impl_fileReader_items : S_impl_fileReader_items n) (ih_impl_fileReader_choice : S_impl_fileReader_choice n) (ih_impl_fileReader_option : S_impl_fileReader_option n) (ih_impl_fileReader_checked : S_impl_fileReader_checked n) {x1 : FileReader} {b1 o1 : Nat} {x2 : Rule} {x3 : Int} {res : Val × Int × (Option (Int × Int))} (hm : B_impl_fileReader_array n (F_impl_fileReader_value n) x1 x2 x3 = some res) (hBw : B ≤ w0.heap.size) (p1_0 : repS w0 B (.slice pa1_0 pn1_0 pc1_0) x1.d.rules) (p1_1 : repS w0 B (.slice pa1_1 pn1_1 pc1_1) x1.b) (hC1 : CellsAt w0 b1 o1 [(.slice pa1_0 pn1_0 pc1_0), (.slice pa1_1 pn1_1 pc1_1)]) (hC1b : b1 < B) (p2_0 : x2.name.b.length ≤ LEN) (p2_1 : inI x2.kind) (p2_2 : inI x2.size) (p2_4 : repS w0 B (.slice pa2_4 pn2_4 pc2_4) x2.bytes) (p2_5 : repS w0 B (.slice pa2_5 pn2_5 pc2_5) x2.names) (p2_6 : repS w0 B (.slice pa2_6 pn2_6 pc2_6) x2.tags) (p2_7 : repS w0 B (.slice pa2_7 pn2_7 pc2_7) x2.kids) (p3_0 : inI x3) : CallsR Tryz.prog 112 [(.pointer (some ⟨b1, o1, none⟩)), (.agg #[(Str.v x2.name), (vI x2.kind), (vI x2.size), (vB x2.little), (.slice pa2_4 pn2_4 pc2_4), (.slice pa2_5 pn2_5 pc2_5), (.slice pa2_6 pn2_6 pc2_6), (.slice pa2_7 pn2_7 pc2_7)]), (vI x3)] w0 (Q_impl_fileReader_array w0 B res) := by
 unfold B_impl_fileReader_array at hm
 obtain ⟨fn, hf, hb, hN, hr⟩ := fnE Tryz.func112
 refine goW hf (hb.trans z) (hN.trans z) (lb z) <| Ws <| E z (fb z) ?_
 rintro _ w21 ⟨rfl, h22⟩
 have h23 := h22.below
 have h24 : Blk w21 w0.heap.size [(Str.v x2.name), (vI x2.kind), (vI x2.size), (vB x2.little), (.slice pa2_4 pn2_4 pc2_4), (.slice pa2_5 pn2_5 pc2_5), (.slice pa2_6 pn2_6 pc2_6), (.slice pa2_7 pn2_7 pc2_7)] := h22.blk
 refine E z (fa zero_61) ?_
 rintro _ w25 ⟨rfl, h26⟩
 have h27 := h26.below
 have h28 : Blk w25 w21.heap.size [(vI 0), (.slice none 0 0), (.slice none 0 0)] := h26.blk
 refine Ra z <| Ra z <| Wn <| Ws <| Rm z <| R z (fd fld_82_7 z) ?_
 have h29 := h24.ext h27
 refine R z (l1 agg_73 z fid (h29.at z)) ?_
 obtain ⟨x30, e31, hm32⟩ := bdS hm
 have h34 := (p2_7.ext h23).ext h27
 refine RX z (at_ (α := Int) und_73 size_3 z z z h34 e31) ?_
 rintro _ ⟨b35, o36, cs37, rfl, h38, h39, h40⟩
 obtain ⟨rfl, h41⟩ := Int_open h39
 refine R z (l1 agg_3 z fid (h38.at0 z)) <| Rm z ?_
 have h43 := (hC1.ext h23).ext h27
 have h45 := (p1_0.ext h23).ext h27
 have h47 := (p1_1.ext h23).ext h27
 have h48 := lt_ h23.size h27.size
 obtain ⟨r50, r51, r52, e53, hm54⟩ := bd3S hm32
 refine E z (fc Tryz.call109 z (W_impl_fileReader_integer (B := B) e53 (lt_ hBw h48) h45 h47 h43 hC1b h41 p3_0)) ?_
 rintro _ w55 ⟨s56, v59, S61, rfl, h57, h58, h60, h62⟩
 refine Rm z ?_
 iterate 3 refine R z (ext_ z z) ?_
 refine Ra z <| Ra z <| Ra z <| Wn <| Wq <| Ws <| Rm z <| R z (rd_neqEr und_122 z z h60) <| Wn <| Wc z (fun hc79 => ?_) (fun hc79 => ?_)
 ·refine Ws <| R z (bP (parts := []) (cs := [(vI 0), (.slice none 0 0), (.slice none 0 0)]) build_61 z z) <| Rm z <| Rm z <| E0 (fs (cur' := [(vI 0), (.slice none 0 0), (.slice none 0 0)]) size_61 z z (h28.ext s56) z (lb z) (oneAll z) z) ?_
  rintro _ w82 ⟨h83, s84⟩
  have h85 := s84.one
  refine Ra z <| Ra z <| Wn ?_
  obtain rfl := som (ifT hm54 hc79)
  exact Wr (ret3 hr (resC agg_61 size_61 z h83 z) z z ⟨(bM (bup (bup h23 h27) s56) h85 (mem1le h23.size)), none, 0, 0, [], none, 0, 0, [], v59, S61, z, (ii z), onL, onL, p3_0, (h60.chg h85 (o0n1 h62 h28.lt (Nat.le_refl _))), (o0le h62 h48), nd0, al0⟩)
 have hm93 := ifF hm54 hc79
 refine Wk <| Wq <| Ws <| Rm z <| R z (rd_gtr z z) <| Wn <| Wc z (fun hc123 => ?_) (fun hc123 => ?_)
 ·refine Ws <| R z (bP (parts := []) (cs := [(vI 0), (.slice none 0 0), (.slice none 0 0)]) build_61 z z) <| Rm z <| Rm z ?_
  have h125 := lt_ h48 s56.size
  obtain ⟨r127, e128, hm129⟩ := bdS (ifT hm93 hc123)
  refine E z (fc Tryz.call118 z (W_impl_fail (B := B) e128 (lt_ hBw h125) p3_0 (ii z))) ?_
  rintro _ w130 ⟨s131, v132, S134, rfl, h133, h135⟩
  refine E0 (fs (cur' := [(vI 0), (.slice none 0 0), (.slice none 0 0)]) size_61 z z ((h28.ext s56).ext s131) z (lb z) (oneAll z) z) ?_
  rintro _ w138 ⟨h139, s140⟩
  have h141 := s140.one
  refine Ra z <| Ra z <| Wn ?_
  obtain rfl := som hm129
  exact Wr (ret3 hr (resC agg_61 size_61 z h139 z) z z ⟨(bM (bup (bup (bup h23 h27) s56) s131) h141 (mem1le h23.size)), none, 0, 0, [], none, 0, 0, [], v132, S134, z, (ii z), onL, onL, p3_0, (h133.chg h141 (o0n1 h135 h28.lt s56.size)), (o0le h135 h125), nd0, al0⟩)
 refine Wk <| Ws <| Rm z ?_
 obtain ⟨x157, e158, hm159⟩ := bdS (ifF hm93 hc123)
 refine E z (ef_makeN (α := Int) el_73 (fun _ => (Int_own (ii z))) e158 z z) ?_
 rintro _ w151 ⟨a152, n153, c154, rfl, s155, h156⟩
 refine Ra z <| Wn <| Wq <| Ws <| Rm z <| R z (lnR und_73 z (ownS.rep h156)) <| Rm z <| Wn ?_
 obtain ⟨u236, hu237, hm238⟩ := bdS hm159
 refine WC_forN (σ := (List Int)) (ρ := Val × Int × (Option (Int × Int))) (fun (k239 : Nat) (x228 : List Int) a w => ∃  (S233 : List Nat), Sat 59 [(0, (.pointer (some ⟨b1, o1, none⟩))), (4, (.pointer (some ⟨w0.heap.size, 0, none⟩))), (6, (.pointer (some ⟨w21.heap.size, 0, none⟩))), (10, (vI r51)), (12, (.slice a152 n153 c154)), (39, (vI (x157.length : Int))), (40, (vI ((k239 : Nat) : Int)))] a ∧ Chg (· ∈ [w55.heap.size]) w151 w ∧ ownS w S233 (.slice a152 n153 c154) x228 ∧ S233.Nodup ∧ (∀ k ∈ S233, k ∈ [w55.heap.size] ∨ w151.heap.size ≤ k)) (fun (x228 : List Int) a w => ∃  (S233 : List Nat), Sat 59 [(0, (.pointer (some ⟨b1, o1, none⟩))), (6, (.pointer (some ⟨w21.heap.size, 0, none⟩))), (10, (vI r51)), (12, (.slice a152 n153 c154))] a ∧ Chg (· ∈ [w55.heap.size]) w151 w ∧ ownS w S233 (.slice a152 n153 c154) x228 ∧ S233.Nodup ∧ (∀ k ∈ S233, k ∈ [w55.heap.size] ∨ w151.heap.size ≤ k)) (fun r ex a w => ex = .ret ∧ RetPost Tryz.prog fn (Q_impl_fileReader_array w0 B r) a w) hu237 ?_ ?_ ?_ ?_ ?_
 ·exact fun _ q => ⟨[w55.heap.size], (q.weaken (s7 z z z z z z z)), (cr [w55.heap.size] w151), h156, nd_one, (inor sr)⟩
 ·rintro k239 x228 a240 w241 o242 hk243 ⟨S233, hS244, s245, h232, h234, h235⟩ hm246
  refine Wu (e := [(0, (.pointer (some ⟨b1, o1, none⟩))), (4, (.pointer (some ⟨w0.heap.size, 0, none⟩))), (6, (.pointer (some ⟨w21.heap.size, 0, none⟩))), (10, (vI r51)), (12, (.slice a152 n153 c154)), (39, (vI (x157.length : Int))), (40, (vI ((k239 : Nat) : Int)))]) (N := 59) ?_ hS244
  refine Ws <| R z (lss z z) <| Wn <| Wq <| Wc z (fun _ => ?_) (fun hc => (nolt hk243 hc).elim)
  refine Wk <| Wq <| WC_block <| Ws <| Rm z <| Ra z <| Wn <| Wg <| Rm z <| Rm z <| R z (fd fld_82_7 z) <| R z (l1 agg_73 z fid ((((h29.ext s56).ext s155).chg s245 (djs (mm1 h24.lt (lt_ h27.size s56.size)))).at z)) ?_
  obtain ⟨x284, e285, hm286⟩ := bdS hm246
  refine RX z (at_ (α := Int) und_73 size_3 z z z (((h34.ext s56).ext s155).chg s245 (ltge (mem1le (lt_ hBw (lt_ h48 s56.size))))) e285) ?_
  rintro _ ⟨b293, o294, cs295, rfl, h296, h297, h298⟩
  obtain ⟨rfl, h299⟩ := Int_open h297
  refine R z (l1 agg_3 z fid (h296.at0 z)) ?_
  obtain ⟨x300, e301, hm302⟩ := bdS hm286
  refine RX z (rd_atU (α := Int) und_73 size_3 z z h232 e301) ?_
  rintro _ ⟨g303, h304, rfl⟩
  refine E0 (ef_setN (α := Int) size_3 z h304 z z z e301 h232 h234 (Int_own h299) all_nil nd_nil) ?_
  rintro _ w305 ⟨S306, s307, h308, h309, h310⟩
  refine Wn <| Wg <| R z (inc_ hk243 (lt_ (ownS.len h156) LEN_le) z z) <| Rm z <| Wl ?_
  have h311 : ∀ k ∈ S233, k ∈ [w55.heap.size] ∨ w151.heap.size ≤ k := or1 h235 (inor sr) (leor lr)
  have h312 : ∀ k ∈ S306, k ∈ [w55.heap.size] ∨ w151.heap.size ≤ k := or2 h310 h311 all_nil (leor s245.size)
  have h313 : Chg (· ∈ [w55.heap.size]) w151 w241 := cM (cr [w55.heap.size] w151) s245 (inor sr)
  have h314 : Chg (· ∈ [w55.heap.size]) w151 w305 := cM h313 s307 h311
  exact fun _ q => ⟨x300, (som hm302).symm, ⟨S306, (q.weaken (s7 z z z z z z z)), h314, h308, h309, h312⟩⟩
 ·rintro x228 a315 w316 ⟨S233, hS317, s318, h232, h234, h235⟩
  refine Wu (e := [(0, (.pointer (some ⟨b1, o1, none⟩))), (4, (.pointer (some ⟨w0.heap.size, 0, none⟩))), (6, (.pointer (some ⟨w21.heap.size, 0, none⟩))), (10, (vI r51)), (12, (.slice a152 n153 c154)), (39, (vI (x157.length : Int))), (40, (vI ((x157.length : Nat) : Int)))]) (N := 59) ?_ hS317
  refine Ws <| R z (lss z z) <| Wn <| Wq <| Wc z (fun hc => (noltt hc).elim) (fun _ => ?_)
  have h321 : ∀ k ∈ S233, k ∈ [w55.heap.size] ∨ w151.heap.size ≤ k := or1 h235 (inor sr) (leor lr)
  have h322 : Chg (· ∈ [w55.heap.size]) w151 w316 := cM (cr [w55.heap.size] w151) s318 (inor sr)
  exact WC_exit (fun a' ha' => ⟨rfl, ⟨S233, (Sat.weaken ha' (s4 z z z z)), h322, h232, h234, h321⟩⟩)
 ·rintro x228 a323 w324 rfl ⟨S233, hS325, s326, h232, h234, h235⟩
  have hm327 := elL hm238
  revert a323
  refine Wo <| Ws <| Rm z <| R z (bP (parts := []) (cs := [(vI 0), (.slice none 0 0), (.slice none 0 0)]) build_61 z z) <| Rm z <| Rm z ?_
  have h330 := lt_ h48 s56.size
  have h332 := mem1le (lt_ hBw h330)
  have h341 := lt_ (lt_ h330 s155.size) s326.size
  have h342 := lt_ hBw h341
  obtain ⟨r343, r344, r345, e346, hm347⟩ := bd3S hm327
  refine E z (fc Tryz.call113 z (ih_impl_fileReader_items.run (B := w324.heap.size) e346 lr (repS.mono (((h45.ext s56).ext s155).chg s326 (ltge h332)) h342) (repS.mono (((h47.ext s56).ext s155).chg s326 (ltge h332)) h342) (((h43.ext s56).ext s155).chg s326 ((ltge h332) _ hC1b)) (Nat.lt_of_lt_of_le hC1b h342) (ii z) onL nd_nil all_nil onL nd_nil all_nil all_nil (ownS.rep h232) h58)) ?_
  rintro _ w348 ⟨s349, a351, n352, c353, S355, a356, n357, c358, S360, v362, S364, rfl, h350, h354, h359, h361, h363, h365, h366, h367⟩
  iterate 3 refine R z (ext_ z z) ?_
  refine E0 (fs (cur' := [(vI r343.number), (.slice a351 n352 c353), (.slice a356 n357 c358)]) size_61 z z ((((h28.ext s56).ext s155).chg s326 (djs (mm1 h28.lt s56.size))).chg s349 (atp (nmA (nmN _) (nmN _)))) z (lb z) (oneAll z) z) ?_
  rintro _ w373 ⟨h374, s375⟩
  have h376 := s375.one
  refine Ra z <| Ra z <| Wn ?_
  obtain rfl := som hm347
  have h378 := lt_ (lt_ s56.size s155.size) s326.size
  have h379 : ∀ k ∈ S355, k ∉ [w21.heap.size] := or1 (all_left h367) al0 (ltnot (mem1 h28.lt) h378)
  have h381 : ∀ k ∈ S360, k ∉ [w21.heap.size] := or1 (all_right h367) al0 (ltnot (mem1 h28.lt) h378)
  exact Wr (ret3 hr (resC agg_61 size_61 z h374 z) z z ⟨(bM (bM (bM (bup (bup (bup h23 h27) s56) s155) s326 (mem1le h330)) s349 al0) h376 (mem1le h23.size)), a351, n352, c353, S355, a356, n357, c358, S360, v362, S364, z, h350, (h354.chg h376 h379), (h359.chg h376 h381), h361, (h363.chg h376 (o0n1 h365 h28.lt h378)), (o0le h365 h341), (nd_app (nd_left h366) (nd_right h366) (nd_dj h366)), (all_app (o1le (all_left h367) al0 h341) (o1le (all_right h367) al0 h341))⟩)
 rintro r396 ex397 a398 w399 rfl ⟨rfl, hq400⟩
 have hm401 := elR hm238
 obtain rfl := som hm401
 exact ⟨hq400, z⟩
theorem T_impl_fileReader_items (ih_impl_fileReader_value : S_impl_fileReader_value n) (ih_impl_fileReader_array : S_impl_fileReader_array n) (ih_impl_fileReader_items : S_impl_fileReader_items n) (ih_impl_fileReader_choice : S_impl_fileReader_choice n) (ih_impl_fileReader_option : S_impl_fileReader_option n) (ih_impl_fileReader_checked : S_impl_fileReader_checked n) {x1 : FileReader} {b1 o1 : Nat} {x2 : Val} {S2_1 : List Nat} {S2_2 : List Nat} {x3 : List Int} {x4 : Int} {res : Val × Int × (Option (Int × Int))} (hm : B_impl_fileReader_items n (F_impl_fileReader_value n) x1 x2 x3 x4 = some res) (hBw : B ≤ w0.heap.size) (p1_0 : repS w0 B (.slice pa1_0 pn1_0 pc1_0) x1.d.rules) (p1_1 : repS w0 B (.slice pa1_1 pn1_1 pc1_1) x1.b) (hC1 : CellsAt w0 b1 o1 [(.slice pa1_0 pn1_0 pc1_0), (.slice pa1_1 pn1_1 pc1_1)]) (hC1b : b1 < B) (p2_0 : inI x2.number) (p2_1 : ownS w0 S2_1 (.slice pa2_1 pn2_1 pc2_1) x2.bytes) (p2_1n : S2_1.Nodup) (p2_1g : ∀ k ∈ S2_1, B ≤ k) (p2_2 : ownS w0 S2_2 (.slice pa2_2 pn2_2 pc2_2) x2.items) (p2_2n : S2_2.Nodup) (p2_2g : ∀ k ∈ S2_2, B ≤ k) (p2_2d1 : ∀ k ∈ S2_2, k ∉ S2_1) (p3_0 : repS w0 B (.slice pa3_0 pn3_0 pc3_0) x3) (p4_0 : inI x4) : CallsR Tryz.prog 113 [(.pointer (some ⟨b1, o1, none⟩)), (.agg #[(vI x2.number), (.slice pa2_1 pn2_1 pc2_1), (.slice pa2_2 pn2_2 pc2_2)]), (.slice pa3_0 pn3_0 pc3_0), (vI x4)] w0 (Q_impl_fileReader_items w0 B S2_1 S2_2 res) := by
 unfold B_impl_fileReader_items at hm
 obtain ⟨fn, hf, hb, hN, hr⟩ := fnE Tryz.func113
 refine goW hf (hb.trans z) (hN.trans z) (lb z) <| Ws <| E z (fb z) ?_
 rintro _ w21 ⟨rfl, h22⟩
 have h23 := h22.below
 have h24 : Blk w21 w0.heap.size [(vI x2.number), (.slice pa2_1 pn2_1 pc2_1), (.slice pa2_2 pn2_2 pc2_2)] := h22.blk
 refine E z (fa zero_61) ?_
 rintro _ w25 ⟨rfl, h26⟩
 have h27 := h26.below
 have h28 : Blk w25 w21.heap.size [(vI 0), (.slice none 0 0), (.slice none 0 0)] := h26.blk
 refine Ra z <| Ra z <| Wn <| Wq <| Ws <| Rm z ?_
 have h30 := (p3_0.ext h23).ext h27
 refine R z (lnR und_73 z h30) <| Rm z <| Wn ?_
 obtain ⟨u338, hu339, hm340⟩ := bdS hm
 refine WC_forN (σ := Int × (List Val)) (ρ := Val × Int × (Option (Int × Int))) (fun (k341 : Nat) s a w => un2 (fun x327 x329 => ∃ (a330 : Option Addr) (n331 c332 : Nat) (S334 : List Nat), Sat 45 [(0, (.pointer (some ⟨b1, o1, none⟩))), (3, (vI x327)), (5, (.pointer (some ⟨w0.heap.size, 0, none⟩))), (8, (.pointer (some ⟨w21.heap.size, 0, none⟩))), (16, (.slice pa3_0 pn3_0 pc3_0)), (17, (vI (x3.length : Int))), (18, (vI ((k341 : Nat) : Int)))] a ∧ Chg (· ∈ (S2_2 ++ [w0.heap.size])) w25 w ∧ inI x327 ∧ ownS w S334 (.slice a330 n331 c332) x329 ∧ S334.Nodup ∧ (∀ k ∈ S334, k ∈ S2_2 ∨ w25.heap.size ≤ k) ∧ Blk w w0.heap.size [(vI x2.number), (.slice pa2_1 pn2_1 pc2_1), (.slice a330 n331 c332)]) s) (fun s a w => un2 (fun x327 x329 => ∃ (a330 : Option Addr) (n331 c332 : Nat) (S334 : List Nat), Sat 45 [(3, (vI x327)), (5, (.pointer (some ⟨w0.heap.size, 0, none⟩))), (8, (.pointer (some ⟨w21.heap.size, 0, none⟩)))] a ∧ Chg (· ∈ (S2_2 ++ [w0.heap.size])) w25 w ∧ inI x327 ∧ ownS w S334 (.slice a330 n331 c332) x329 ∧ S334.Nodup ∧ (∀ k ∈ S334, k ∈ S2_2 ∨ w25.heap.size ≤ k) ∧ Blk w w0.heap.size [(vI x2.number), (.slice pa2_1 pn2_1 pc2_1), (.slice a330 n331 c332)]) s) (fun r ex a w => ex = .ret ∧ RetPost Tryz.prog fn (Q_impl_fileReader_items w0 B S2_1 S2_2 r) a w) hu339 ?_ ?_ ?_ ?_ ?_
 ·exact fun _ q => ⟨pa2_2, pn2_2, pc2_2, S2_2, (q.weaken (s7 z z z z z z z)), (cr (S2_2 ++ [w0.heap.size]) w25), p4_0, ((p2_2.ext h23).ext h27), p2_2n, (inor sr), (h24.ext h27)⟩
 ·rintro k341 ⟨x327, x329⟩ a345 w346 o347 hk348 ⟨a330, n331, c332, S334, hS349, s350, h328, h333, h335, h336, h337⟩ hm351
  have hm352 := un2S hm351
  refine Wu (e := [(0, (.pointer (some ⟨b1, o1, none⟩))), (3, (vI x327)), (5, (.pointer (some ⟨w0.heap.size, 0, none⟩))), (8, (.pointer (some ⟨w21.heap.size, 0, none⟩))), (16, (.slice pa3_0 pn3_0 pc3_0)), (17, (vI (x3.length : Int))), (18, (vI ((k341 : Nat) : Int)))]) (N := 45) ?_ hS349
  refine Ws <| R z (lss z z) <| Wn <| Wq <| Wc z (fun _ => ?_) (fun hc => (nolt hk348 hc).elim)
  refine Wk <| Wq <| WC_block <| Ws ?_
  obtain ⟨x495, e496, hm497⟩ := bdS hm352
  have h498 := mem1le hBw
  refine RX z (at_ (α := Int) und_73 size_3 z z z (h30.chg s350 (nmA (ltge p2_2g) (ltge h498))) e496) ?_
  rintro _ ⟨b500, o501, cs502, rfl, h503, h504, h505⟩
  obtain ⟨rfl, h506⟩ := Int_open h504
  refine R z (l1 agg_3 z fid (h503.at0 z)) <| Ra z <| Wn <| Ws <| Rm z <| Rm z <| Rm z ?_
  have h517 := lt_ (lt_ h23.size h27.size) s350.size
  obtain ⟨r519, r520, r521, e522, hm523⟩ := bd3S hm497
  refine E z (fc Tryz.call91 z (ih_impl_fileReader_value.run (B := B) e522 (lt_ hBw h517) (((p1_0.ext h23).ext h27).chg s350 (nmA (ltge p2_2g) (ltge h498))) (((p1_1.ext h23).ext h27).chg s350 (nmA (ltge p2_2g) (ltge h498))) (((hC1.ext h23).ext h27).chg s350 ((nmA (ltge p2_2g) (ltge h498)) _ hC1b)) hC1b h506 h328)) ?_
  rintro _ w524 ⟨s525, a527, n528, c529, S531, a532, n533, c534, S536, v538, S540, rfl, h526, h530, h535, h537, h539, h541, h542, h543⟩
  refine Rm z ?_
  iterate 3 refine R z (ext_ z z) ?_
  refine E z (fa zero_61) ?_
  rintro _ w544 ⟨rfl, h545⟩
  have h546 := h545.below
  have h547 : Blk w544 w524.heap.size [(vI 0), (.slice none 0 0), (.slice none 0 0)] := h545.blk
  refine E0 (fs (cur' := [(vI r519.number), (.slice a527 n528 c529), (.slice a532 n533 c534)]) size_61 z z h547 z (lb z) (oneAll z) z) ?_
  rintro _ w548 ⟨h549, s550⟩
  have h551 := s550.one
  refine Ra z <| Ra z <| Wn <| Wq <| Ws <| Rm z ?_
  have h554 := (h539.ext h546).chg h551 (dj_symm (mnr (errR.lt h539)))
  refine R z (rd_neqEr und_122 z z h554) <| Wn <| Wc z (fun hc585 => ?_) (fun hc585 => ?_)
  ·refine Ws <| R z (bP (parts := []) (cs := [(vI 0), (.slice none 0 0), (.slice none 0 0)]) build_61 z z) <| Rm z <| Rm z ?_
   have h594 := (((h28.chg s350 (atp (nmA (mno (ownS.lt p2_2) h23.size) (mmr h24.lt)))).ext s525).ext h546).chg h551 (djs (mm1 h28.lt (lt_ s350.size s525.size)))
   refine E0 (fs (cur' := [(vI 0), (.slice none 0 0), (.slice none 0 0)]) size_61 z z h594 z (lb z) (oneAll z) z) ?_
   rintro _ w595 ⟨h596, s597⟩
   have h598 := s597.one
   refine Ra z <| Ra z <| Wn ?_
   have h602 : Chg (· ∈ (S2_1 ++ S2_2)) w0 w21 := cext (cr (S2_1 ++ S2_2) w0) h23
   have h603 : Chg (· ∈ (S2_1 ++ S2_2)) w0 w25 := cext h602 h27
   have h604 : ∀ k ∈ [w0.heap.size], k ∈ (S2_1 ++ S2_2) ∨ w0.heap.size ≤ k := mor (Nat.le_refl _)
   have h605 : Chg (· ∈ (S2_1 ++ S2_2)) w0 w346 := cM h603 s350 (all_app (inor (sub_r sr)) h604)
   have h606 : Chg (· ∈ (S2_1 ++ S2_2)) w0 w524 := cext h605 s525
   have h607 : Chg (· ∈ (S2_1 ++ S2_2)) w0 w544 := cext h606 h546
   have h609 : ∀ k ∈ [w524.heap.size], k ∈ (S2_1 ++ S2_2) ∨ w0.heap.size ≤ k := mor (lt_ h517 s525.size)
   have h610 : Chg (· ∈ (S2_1 ++ S2_2)) w0 w548 := cM h607 h551 h609
   have h611 : ∀ k ∈ [w21.heap.size], k ∈ (S2_1 ++ S2_2) ∨ w0.heap.size ≤ k := mor h23.size
   have h612 : Chg (· ∈ (S2_1 ++ S2_2)) w0 w595 := cM h610 h598 h611
   exact Wr (rtO (QO_retL (som (ifT hm523 hc585)).symm (ret3 hr (resC agg_61 size_61 z h596 z) z z ⟨h612, none, 0, 0, [], none, 0, 0, [], v538, S540, z, (ii z), onL, onL, h328, (h554.chg h598 (o0n1 h541 h28.lt s350.size)), (o0le h541 h517), nd0, al0⟩)))
  refine Wk <| Ws <| R z (fd fld_61_2 z) ?_
  have h616 := lt_ h27.size s350.size
  have h617 := lt_ h616 s525.size
  have h619 := ((h337.ext s525).ext h546).chg h551 (djs (mm1 h24.lt h617))
  refine R z (l1 agg_59 z fid (h619.at z)) <| R z (lN (vs := [(vI r519.number), (.slice a527 n528 c529), (.slice a532 n533 c534)]) agg_61 size_61 z z fid (h549.row 0 3 z)) <| E z (ef_buildSlice [(.tmp 37)] el_59 z z z (szAll z) (lb z) (lb z)) ?_
  rintro _ w620 ⟨rfl, h621⟩
  have h622 := h621.below
  have h623 : Blk w620 w548.heap.size [(vI r519.number), (.slice a527 n528 c529), (.slice a532 n533 c534)] := h621.blk
  have h626 := (h530.ext h546).chg h551 (dj_symm (mnr (ownS.lt h530)))
  have h629 := (h535.ext h546).chg h551 (dj_symm (mnr (ownS.lt h535)))
  obtain ⟨x644, e645, hm646⟩ := bdS (ifF hm523 hc585)
  refine E z (ef_pushN (α := Val) el_59 e645 z z ((((h333.ext s525).ext h546).chg h551 (dj_symm (mno (ownS.lt h333) s525.size))).ext h622) h335 h623 (Val_mkO (x := r519) (S1 := S531) (S2 := S536) h526 (((h530.ext h546).chg h551 (dj_symm (mnr (ownS.lt h530)))).ext h622) (((h535.ext h546).chg h551 (dj_symm (mnr (ownS.lt h535)))).ext h622)) (all_app (o0no (all_left h543) (ownS.lt h333) (Nat.le_refl _)) (o0no (all_right h543) (ownS.lt h333) (Nat.le_refl _))) (nd_app (nd_left h542) (nd_right h542) (nd_dj h542))) ?_
  rintro _ w635 ⟨S636, a637, n638, c639, rfl, s640, h641, h642, h643⟩
  refine R z (fd fld_61_2 z) ?_
  have h659 : ∀ k ∈ S334, k ∉ [w0.heap.size] := or1 h336 (dj_symm (mnr (ownS.lt p2_2))) (ltnot (mem1 h24.lt) h27.size)
  refine E0 (fs (cur' := [(vI x2.number), (.slice pa2_1 pn2_1 pc2_1), (.slice a637 n638 c639)]) size_59 z z ((h619.ext h622).chg s640 (djs h659)) z (lb z) (oneAll z) z) ?_
  rintro _ w661 ⟨h662, s663⟩
  have h664 := s663.one
  refine Wn <| Wg <| Rm z <| Ra z <| Wn <| Wg <| R z (inc_ hk348 (lt_ (repS.len p3_0) LEN_le) z z) <| Rm z <| Wl ?_
  have h670 : ∀ k ∈ S636, k ∉ [w0.heap.size] := or2 h643 h659 (all_app (o0n1 (all_left h543) h24.lt h616) (o0n1 (all_right h543) h24.lt h616)) (ltnot (mem1 h24.lt) (lt_ (lt_ (lt_ h617 h546.size) h551.size) h622.size))
  have h672 := lt_ s350.size s525.size
  have h676 : ∀ k ∈ S334, k ∈ S2_2 ∨ w25.heap.size ≤ k := or1 h336 (inor sr) (leor lr)
  have h677 : ∀ k ∈ S531, k ∈ S2_2 ∨ w25.heap.size ≤ k := or0 (all_left h543)  (leor s350.size)
  have h678 : ∀ k ∈ S536, k ∈ S2_2 ∨ w25.heap.size ≤ k := or0 (all_right h543)  (leor s350.size)
  have h679 : ∀ k ∈ S636, k ∈ S2_2 ∨ w25.heap.size ≤ k := or2 h643 h676 (all_app h677 h678) (leor (lt_ (lt_ (lt_ h672 h546.size) h551.size) h622.size))
  have h680 : Chg (· ∈ (S2_2 ++ [w0.heap.size])) w25 w346 := cM (cr (S2_2 ++ [w0.heap.size]) w25) s350 (all_app (inor (sub_l sr)) (inor (sub_r sr)))
  have h681 : Chg (· ∈ (S2_2 ++ [w0.heap.size])) w25 w524 := cext h680 s525
  have h682 : Chg (· ∈ (S2_2 ++ [w0.heap.size])) w25 w544 := cext h681 h546
  have h683 : ∀ k ∈ [w524.heap.size], k ∈ (S2_2 ++ [w0.heap.size]) ∨ w25.heap.size ≤ k := mor h672
  have h684 : Chg (· ∈ (S2_2 ++ [w0.heap.size])) w25 w548 := cM h682 h551 h683
  have h685 : Chg (· ∈ (S2_2 ++ [w0.heap.size])) w25 w620 := cext h684 h622
  have h686 : ∀ k ∈ S334, k ∈ (S2_2 ++ [w0.heap.size]) ∨ w25.heap.size ≤ k := or1 h336 (inor (sub_l sr)) (leor lr)
  have h687 : Chg (· ∈ (S2_2 ++ [w0.heap.size])) w25 w635 := cM h685 s640 h686
  have h688 : Chg (· ∈ (S2_2 ++ [w0.heap.size])) w25 w661 := cM h687 h664 (inor (sub_r sr))
  exact fun _ q => ⟨(r520, x644), (som hm646).symm, ⟨a637, n638, c639, S636, (q.weaken (s7 z z z z z z z)), h688, h537, (h641.chg h664 h670), h642, h679, h662⟩⟩
 ·rintro ⟨x327, x329⟩ a689 w690 ⟨a330, n331, c332, S334, hS691, s692, h328, h333, h335, h336, h337⟩
  refine Wu (e := [(0, (.pointer (some ⟨b1, o1, none⟩))), (3, (vI x327)), (5, (.pointer (some ⟨w0.heap.size, 0, none⟩))), (8, (.pointer (some ⟨w21.heap.size, 0, none⟩))), (16, (.slice pa3_0 pn3_0 pc3_0)), (17, (vI (x3.length : Int))), (18, (vI ((x3.length : Nat) : Int)))]) (N := 45) ?_ hS691
  refine Ws <| R z (lss z z) <| Wn <| Wq <| Wc z (fun hc => (noltt hc).elim) (fun _ => ?_)
  have h695 : ∀ k ∈ S334, k ∈ S2_2 ∨ w25.heap.size ≤ k := or1 h336 (inor sr) (leor lr)
  have h696 : Chg (· ∈ (S2_2 ++ [w0.heap.size])) w25 w690 := cM (cr (S2_2 ++ [w0.heap.size]) w25) s692 (all_app (inor (sub_l sr)) (inor (sub_r sr)))
  exact WC_exit (fun a' ha' => ⟨rfl, ⟨a330, n331, c332, S334, (Sat.weaken ha' (s3 z z z)), h696, h328, h333, h335, h695, h337⟩⟩)
 ·rintro ⟨x327, x329⟩ a697 w698 rfl ⟨a330, n331, c332, S334, hS699, s700, h328, h333, h335, h336, h337⟩
  have hm701 := elL hm340
  have hm702 := un2S hm701
  revert a697
  refine Wo <| Ws <| R z (lN (vs := [(vI x2.number), (.slice pa2_1 pn2_1 pc2_1), (.slice a330 n331 c332)]) agg_61 size_61 z z fid (h337.row 0 3 z)) <| Rm z ?_
  have h704 := mno (ownS.lt p2_2) h23.size
  refine E0 (fs (cur' := [(vI x2.number), (.slice pa2_1 pn2_1 pc2_1), (.slice a330 n331 c332)]) size_61 z z (h28.chg s700 (atp (nmA h704 (mmr h24.lt)))) z (lb z) (oneAll z) z) ?_
  rintro _ w706 ⟨h707, s708⟩
  have h709 := s708.one
  refine Ra z <| Ra z <| Wn ?_
  obtain rfl := som hm702
  have h716 : ∀ k ∈ S334, k ∉ [w21.heap.size] := or1 h336 (dj_symm h704) (ltnot (mem1 h28.lt) lr)
  have h718 : Chg (· ∈ (S2_1 ++ S2_2)) w0 w21 := cext (cr (S2_1 ++ S2_2) w0) h23
  have h719 : Chg (· ∈ (S2_1 ++ S2_2)) w0 w25 := cext h718 h27
  have h720 : ∀ k ∈ [w0.heap.size], k ∈ (S2_1 ++ S2_2) ∨ w0.heap.size ≤ k := mor (Nat.le_refl _)
  have h721 : Chg (· ∈ (S2_1 ++ S2_2)) w0 w698 := cM h719 s700 (all_app (inor (sub_r sr)) h720)
  have h722 : ∀ k ∈ [w21.heap.size], k ∈ (S2_1 ++ S2_2) ∨ w0.heap.size ≤ k := mor h23.size
  have h723 : Chg (· ∈ (S2_1 ++ S2_2)) w0 w706 := cM h721 h709 h722
  have h724 := lt_ h23.size h27.size
  have h726 : ∀ k ∈ S334, k ∈ (S2_1 ++ S2_2) ∨ w0.heap.size ≤ k := or1 h336 (inor (sub_r sr)) (leor h724)
  exact Wr (ret3 hr (resC agg_61 size_61 z h707 z) z z ⟨h723, pa2_1, pn2_1, pc2_1, S2_1, a330, n331, c332, S334, .nilIface, ([] : List Nat), z, p2_0, ((((p2_1.ext h23).ext h27).chg s700 (nmA (dj_symm p2_2d1) (dj_symm (mnr (ownS.lt p2_1))))).chg h709 (dj_symm (mno (ownS.lt p2_1) h23.size))), (h333.chg h709 h716), h328, errR_nil, all_nil, (nd_app p2_1n h335 (dj_symm (o1no h336 p2_2d1 (ownS.lt p2_1) h724))), (all_app (inor (sub_l sr)) h726)⟩)
 rintro r727 ex728 a729 w730 rfl ⟨rfl, hq731⟩
 have hm732 := elR hm340
 obtain rfl := som hm732
 exact ⟨hq731, z⟩
theorem T_impl_fileReader_choice (ih_impl_fileReader_value : S_impl_fileReader_value n) (ih_impl_fileReader_array : S_impl_fileReader_array n) (ih_impl_fileReader_items : S_impl_fileReader_items n) (ih_impl_fileReader_choice : S_impl_fileReader_choice n) (ih_impl_fileReader_option : S_impl_fileReader_option n) (ih_impl_fileReader_checked : S_impl_fileReader_checked n) {x1 : FileReader} {b1 o1 : Nat} {x2 : Rule} {x3 : Int} {res : Val × Int × (Option (Int × Int))} (hm : B_impl_fileReader_choice n (F_impl_fileReader_value n) x1 x2 x3 = some res) (hBw : B ≤ w0.heap.size) (p1_0 : repS w0 B (.slice pa1_0 pn1_0 pc1_0) x1.d.rules) (p1_1 : repS w0 B (.slice pa1_1 pn1_1 pc1_1) x1.b) (hC1 : CellsAt w0 b1 o1 [(.slice pa1_0 pn1_0 pc1_0), (.slice pa1_1 pn1_1 pc1_1)]) (hC1b : b1 < B) (p2_0 : x2.name.b.length ≤ LEN) (p2_1 : inI x2.kind) (p2_2 : inI x2.size) (p2_4 : repS w0 B (.slice pa2_4 pn2_4 pc2_4) x2.bytes) (p2_5 : repS w0 B (.slice pa2_5 pn2_5 pc2_5) x2.names) (p2_6 : repS w0 B (.slice pa2_6 pn2_6 pc2_6) x2.tags) (p2_7 : repS w0 B (.slice pa2_7 pn2_7 pc2_7) x2.kids) (p3_0 : inI x3) : CallsR Tryz.prog 114 [(.pointer (some ⟨b1, o1, none⟩)), (.agg #[(Str.v x2.name), (vI x2.kind), (vI x2.size), (vB x2.little), (.slice pa2_4 pn2_4 pc2_4), (.slice pa2_5 pn2_5 pc2_5), (.slice pa2_6 pn2_6 pc2_6), (.slice pa2_7 pn2_7 pc2_7)]), (vI x3)] w0 (Q_impl_fileReader_choice w0 B res) := by
 unfold B_impl_fileReader_choice at hm
 obtain ⟨fn, hf, hb, hN, hr⟩ := fnE Tryz.func114
 refine goW hf (hb.trans z) (hN.trans z) (lb z) <| Ws <| E z (fb z) ?_
 rintro _ w21 ⟨rfl, h22⟩
 have h23 := h22.below
 have h24 : Blk w21 w0.heap.size [(Str.v x2.name), (vI x2.kind), (vI x2.size), (vB x2.little), (.slice pa2_4 pn2_4 pc2_4), (.slice pa2_5 pn2_5 pc2_5), (.slice pa2_6 pn2_6 pc2_6), (.slice pa2_7 pn2_7 pc2_7)] := h22.blk
 refine E z (fa zero_61) ?_
 rintro _ w25 ⟨rfl, h26⟩
 have h27 := h26.below
 have h28 : Blk w25 w21.heap.size [(vI 0), (.slice none 0 0), (.slice none 0 0)] := h26.blk
 refine Ra z <| Ra z <| Wn <| Ws <| Rm z <| R z (fd fld_82_7 z) ?_
 have h29 := h24.ext h27
 refine R z (l1 agg_73 z fid (h29.at z)) ?_
 obtain ⟨x30, e31, hm32⟩ := bdS hm
 have h34 := (p2_7.ext h23).ext h27
 refine RX z (at_ (α := Int) und_73 size_3 z z z h34 e31) ?_
 rintro _ ⟨b35, o36, cs37, rfl, h38, h39, h40⟩
 obtain ⟨rfl, h41⟩ := Int_open h39
 refine R z (l1 agg_3 z fid (h38.at0 z)) <| Rm z ?_
 have h43 := (hC1.ext h23).ext h27
 have h45 := (p1_0.ext h23).ext h27
 have h47 := (p1_1.ext h23).ext h27
 have h48 := lt_ h23.size h27.size
 obtain ⟨r50, r51, r52, e53, hm54⟩ := bd3S hm32
 refine E z (fc Tryz.call109 z (W_impl_fileReader_integer (B := B) e53 (lt_ hBw h48) h45 h47 h43 hC1b h41 p3_0)) ?_
 rintro _ w55 ⟨s56, v59, S61, rfl, h57, h58, h60, h62⟩
 refine Rm z ?_
 iterate 3 refine R z (ext_ z z) ?_
 refine Ra z <| Ra z <| Ra z <| Wn <| Wq <| Ws <| Rm z <| R z (rd_neqEr und_122 z z h60) <| Wn <| Wc z (fun hc79 => ?_) (fun hc79 => ?_)
 ·refine Ws <| R z (bP (parts := []) (cs := [(vI 0), (.slice none 0 0), (.slice none 0 0)]) build_61 z z) <| Rm z <| Rm z <| E0 (fs (cur' := [(vI 0), (.slice none 0 0), (.slice none 0 0)]) size_61 z z (h28.ext s56) z (lb z) (oneAll z) z) ?_
  rintro _ w82 ⟨h83, s84⟩
  have h85 := s84.one
  refine Ra z <| Ra z <| Wn ?_
  obtain rfl := som (ifT hm54 hc79)
  exact Wr (ret3 hr (resC agg_61 size_61 z h83 z) z z ⟨(bM (bup (bup h23 h27) s56) h85 (mem1le h23.size)), none, 0, 0, [], none, 0, 0, [], v59, S61, z, (ii z), onL, onL, p3_0, (h60.chg h85 (o0n1 h62 h28.lt (Nat.le_refl _))), (o0le h62 h48), nd0, al0⟩)
 refine Wk <| Wq <| Ws <| R z (fd fld_82_6 z) ?_
 have h94 := h29.ext s56
 refine R z (l1 agg_73 z fid (h94.at z)) ?_
 have h97 := ((p2_6.ext h23).ext h27).ext s56
 refine R z (lnR und_73 z h97) <| Rm z <| Wn ?_
 obtain ⟨u181, hu182, hm183⟩ := bdS (ifF hm54 hc79)
 refine WC_forN (σ := Unit) (ρ := Val × Int × (Option (Int × Int))) (fun (k184 : Nat) (_ : Unit) a w => Sat 61 [(0, (.pointer (some ⟨b1, o1, none⟩))), (2, (vI x3)), (4, (.pointer (some ⟨w0.heap.size, 0, none⟩))), (6, (.pointer (some ⟨w21.heap.size, 0, none⟩))), (9, (vI r50)), (10, (vI r51)), (31, (.slice pa2_6 pn2_6 pc2_6)), (32, (vI (x2.tags.length : Int))), (33, (vI ((k184 : Nat) : Int)))] a ∧ Below w55.heap.size w55 w) (fun (_ : Unit) a w => Sat 61 [(2, (vI x3)), (6, (.pointer (some ⟨w21.heap.size, 0, none⟩)))] a ∧ Below w55.heap.size w55 w) (fun r ex a w => ex = .ret ∧ RetPost Tryz.prog fn (Q_impl_fileReader_choice w0 B r) a w) hu182 ?_ ?_ ?_ ?_ ?_
 ·exact fun _ q => ⟨(q.weaken (s9 z z z z z z z z z)), (br w55)⟩
 ·rintro k184 _ a185 w186 o187 hk188 ⟨hS189, s190⟩ hm191
  refine Wu (e := [(0, (.pointer (some ⟨b1, o1, none⟩))), (2, (vI x3)), (4, (.pointer (some ⟨w0.heap.size, 0, none⟩))), (6, (.pointer (some ⟨w21.heap.size, 0, none⟩))), (9, (vI r50)), (10, (vI r51)), (31, (.slice pa2_6 pn2_6 pc2_6)), (32, (vI (x2.tags.length : Int))), (33, (vI ((k184 : Nat) : Int)))]) (N := 61) ?_ hS189
  refine Ws <| R z (lss z z) <| Wn <| Wq <| Wc z (fun _ => ?_) (fun hc => (nolt hk188 hc).elim)
  refine Wk <| Wq <| WC_block <| Ws <| Rm z ?_
  obtain ⟨x275, e276, hm277⟩ := bdS hm191
  refine RX z (at_ (α := Int) und_73 size_3 z z z (h97.ext s190) e276) ?_
  rintro _ ⟨b279, o280, cs281, rfl, h282, h283, h284⟩
  obtain ⟨rfl, h285⟩ := Int_open h283
  refine R z (l1 agg_3 z fid (h282.at0 z)) <| Ra z <| Ra z <| Wn <| Ws <| Rm z <| Rm z <| R z (eql z z) <| Wn <| Wc z (fun hc357 => ?_) (fun hc357 => ?_)
  ·refine Ws <| Rm z <| Rm z <| R z (bP (parts := [(0, (.tmp 42))]) (cs := [(vI r50), (.slice none 0 0), (.slice none 0 0)]) build_61 z z) <| R z (fd fld_82_7 z) <| R z (l1 agg_73 z fid ((h94.ext s190).at z)) <| Rm z <| R z (inc_ hk188 (lt_ (repS.len p2_6) LEN_le) z z) <| Rm z <| R z (add_ z z) ?_
   obtain ⟨x360, e361, hm362⟩ := bdS (ifT hm277 hc357)
   refine RX z (rd_sliceX und_73 size_3 z z ((h34.ext s56).ext s190) z z e361) ?_
   rintro _ ⟨a365, n366, c367, rfl, h368⟩
   refine Rm z ?_
   have h376 := lt_ (lt_ h48 s56.size) s190.size
   obtain ⟨r378, r379, r380, e381, hm382⟩ := bd3S hm362
   refine E z (fc Tryz.call113 z (ih_impl_fileReader_items.run (B := B) e381 (lt_ hBw h376) ((h45.ext s56).ext s190) ((h47.ext s56).ext s190) ((h43.ext s56).ext s190) hC1b h57 onL nd_nil all_nil onL nd_nil all_nil all_nil h368 h58)) ?_
   rintro _ w383 ⟨s384, a386, n387, c388, S390, a391, n392, c393, S395, v397, S399, rfl, h385, h389, h394, h396, h398, h400, h401, h402⟩
   iterate 3 refine R z (ext_ z z) ?_
   refine E0 (fs (cur' := [(vI r378.number), (.slice a386 n387 c388), (.slice a391 n392 c393)]) size_61 z z (((h28.ext s56).ext s190).chg s384 (atp (nmA (nmN _) (nmN _)))) z (lb z) (oneAll z) z) ?_
   rintro _ w406 ⟨h407, s408⟩
   have h409 := s408.one
   refine Ra z <| Ra z <| Wn ?_
   have h410 := lt_ s56.size s190.size
   have h411 : ∀ k ∈ S390, k ∉ [w21.heap.size] := or1 (all_left h402) al0 (ltnot (mem1 h28.lt) h410)
   have h413 : ∀ k ∈ S395, k ∉ [w21.heap.size] := or1 (all_right h402) al0 (ltnot (mem1 h28.lt) h410)
   exact Wr (rtO (QO_retL (som hm382).symm (ret3 hr (resC agg_61 size_61 z h407 z) z z ⟨(bM (bM (bup (bup (bup h23 h27) s56) s190) s384 al0) h409 (mem1le h23.size)), a386, n387, c388, S390, a391, n392, c393, S395, v397, S399, z, h385, (h389.chg h409 h411), (h394.chg h409 h413), h396, (h398.chg h409 (o0n1 h400 h28.lt h410)), (o0le h400 h376), (nd_app (nd_left h401) (nd_right h401) (nd_dj h401)), (all_app (o1le (all_left h402) al0 h376) (o1le (all_right h402) al0 h376))⟩)))
  exact Wk <| Wg <| R z (inc_ hk188 (lt_ (repS.len p2_6) LEN_le) z z) <| Rm z <| Wl <| fun _ q => ⟨(), (som (ifF hm277 hc357)).symm, ⟨(q.weaken (s9 z z z z z z z z z)), s190⟩⟩
 ·rintro _ a427 w428 ⟨hS429, s430⟩
  refine Wu (e := [(0, (.pointer (some ⟨b1, o1, none⟩))), (2, (vI x3)), (4, (.pointer (some ⟨w0.heap.size, 0, none⟩))), (6, (.pointer (some ⟨w21.heap.size, 0, none⟩))), (9, (vI r50)), (10, (vI r51)), (31, (.slice pa2_6 pn2_6 pc2_6)), (32, (vI (x2.tags.length : Int))), (33, (vI ((x2.tags.length : Nat) : Int)))]) (N := 61) ?_ hS429
  refine Ws <| R z (lss z z) <| Wn <| Wq <| Wc z (fun hc => (noltt hc).elim) (fun _ => ?_)
  exact WC_exit (fun a' ha' => ⟨rfl, ⟨(Sat.weaken ha' (s2 z z)), s430⟩⟩)
 ·rintro _ a431 w432 rfl ⟨hS433, s434⟩
  have hm435 := elL hm183
  revert a431
  refine Wo <| Ws <| R z (bP (parts := []) (cs := [(vI 0), (.slice none 0 0), (.slice none 0 0)]) build_61 z z) <| Rm z <| Rm z ?_
  have h437 := lt_ (lt_ h48 s56.size) s434.size
  obtain ⟨r439, e440, hm441⟩ := bdS hm435
  refine E z (fc Tryz.call118 z (W_impl_fail (B := B) e440 (lt_ hBw h437) p3_0 (ii z))) ?_
  rintro _ w442 ⟨s443, v444, S446, rfl, h445, h447⟩
  refine E0 (fs (cur' := [(vI 0), (.slice none 0 0), (.slice none 0 0)]) size_61 z z (((h28.ext s56).ext s434).ext s443) z (lb z) (oneAll z) z) ?_
  rintro _ w451 ⟨h452, s453⟩
  have h454 := s453.one
  refine Ra z <| Ra z <| Wn ?_
  obtain rfl := som hm441
  exact Wr (ret3 hr (resC agg_61 size_61 z h452 z) z z ⟨(bM (bup (bup (bup (bup h23 h27) s56) s434) s443) h454 (mem1le h23.size)), none, 0, 0, [], none, 0, 0, [], v444, S446, z, (ii z), onL, onL, p3_0, (h445.chg h454 (o0n1 h447 h28.lt (lt_ s56.size s434.size))), (o0le h447 h437), nd0, al0⟩)
 rintro r465 ex466 a467 w468 rfl ⟨rfl, hq469⟩
 have hm470 := elR hm183
 obtain rfl := som hm470
 exact ⟨hq469, z⟩
theorem T_impl_fileReader_option (ih_impl_fileReader_value : S_impl_fileReader_value n) (ih_impl_fileReader_array : S_impl_fileReader_array n) (ih_impl_fileReader_items : S_impl_fileReader_items n) (ih_impl_fileReader_choice : S_impl_fileReader_choice n) (ih_impl_fileReader_option : S_impl_fileReader_option n) (ih_impl_fileReader_checked : S_impl_fileReader_checked n) {x1 : FileReader} {b1 o1 : Nat} {x2 : Rule} {x3 : Int} {res : Val × Int × (Option (Int × Int))} (hm : B_impl_fileReader_option n (F_impl_fileReader_value n) x1 x2 x3 = some res) (hBw : B ≤ w0.heap.size) (p1_0 : repS w0 B (.slice pa1_0 pn1_0 pc1_0) x1.d.rules) (p1_1 : repS w0 B (.slice pa1_1 pn1_1 pc1_1) x1.b) (hC1 : CellsAt w0 b1 o1 [(.slice pa1_0 pn1_0 pc1_0), (.slice pa1_1 pn1_1 pc1_1)]) (hC1b : b1 < B) (p2_0 : x2.name.b.length ≤ LEN) (p2_1 : inI x2.kind) (p2_2 : inI x2.size) (p2_4 : repS w0 B (.slice pa2_4 pn2_4 pc2_4) x2.bytes) (p2_5 : repS w0 B (.slice pa2_5 pn2_5 pc2_5) x2.names) (p2_6 : repS w0 B (.slice pa2_6 pn2_6 pc2_6) x2.tags) (p2_7 : repS w0 B (.slice pa2_7 pn2_7 pc2_7) x2.kids) (p3_0 : inI x3) : CallsR Tryz.prog 115 [(.pointer (some ⟨b1, o1, none⟩)), (.agg #[(Str.v x2.name), (vI x2.kind), (vI x2.size), (vB x2.little), (.slice pa2_4 pn2_4 pc2_4), (.slice pa2_5 pn2_5 pc2_5), (.slice pa2_6 pn2_6 pc2_6), (.slice pa2_7 pn2_7 pc2_7)]), (vI x3)] w0 (Q_impl_fileReader_option w0 B res) := by
 unfold B_impl_fileReader_option at hm
 obtain ⟨fn, hf, hb, hN, hr⟩ := fnE Tryz.func115
 refine goW hf (hb.trans z) (hN.trans z) (lb z) <| Ws <| E z (fb z) ?_
 rintro _ w21 ⟨rfl, h22⟩
 have h23 := h22.below
 have h24 : Blk w21 w0.heap.size [(Str.v x2.name), (vI x2.kind), (vI x2.size), (vB x2.little), (.slice pa2_4 pn2_4 pc2_4), (.slice pa2_5 pn2_5 pc2_5), (.slice pa2_6 pn2_6 pc2_6), (.slice pa2_7 pn2_7 pc2_7)] := h22.blk
 refine E z (fa zero_61) ?_
 rintro _ w25 ⟨rfl, h26⟩
 have h27 := h26.below
 have h28 : Blk w25 w21.heap.size [(vI 0), (.slice none 0 0), (.slice none 0 0)] := h26.blk
 refine Ra z <| Ra z <| Wn <| Ws <| Rm z <| Rm z ?_
 have h30 := (hC1.ext h23).ext h27
 have h32 := (p1_0.ext h23).ext h27
 have h34 := (p1_1.ext h23).ext h27
 have h35 := lt_ h23.size h27.size
 obtain ⟨r37, r38, e39, hm40⟩ := bd2S hm
 refine E z (fc Tryz.call142 z (W_impl_fileReader_take (B := B) e39 (lt_ hBw h35) h32 h34 h30 hC1b p3_0 (ii z))) ?_
 rintro _ w41 ⟨s42, a43, n44, c45, v47, S49, rfl, h46, h48, h50⟩
 refine Rm z <| R z (ext_ z z) <| R z (ext_ z z) <| Ra z <| Ra z <| Wn <| Wq <| WC_block <| Ws <| Rm z <| R z (rd_neqEr und_122 z z h48) <| Ra z <| Wn <| Wc z (fun hc212 => ?_) (fun hc212 => ?_)
 ·refine Ws <| R z (bP (parts := []) (cs := [(vI 0), (.slice none 0 0), (.slice none 0 0)]) build_61 z z) <| Rm z <| Rm z <| E0 (fs (cur' := [(vI 0), (.slice none 0 0), (.slice none 0 0)]) size_61 z z (h28.ext s42) z (lb z) (oneAll z) z) ?_
  rintro _ w215 ⟨h216, s217⟩
  have h218 := s217.one
  refine Ra z <| Ra z <| Wn ?_
  obtain rfl := som (ifT hm40 hc212)
  exact Wr (rtO (ret3 hr (resC agg_61 size_61 z h216 z) z z ⟨(bM (bup (bup h23 h27) s42) h218 (mem1le h23.size)), none, 0, 0, [], none, 0, 0, [], v47, S49, z, (ii z), onL, onL, p3_0, (h48.chg h218 (o0n1 h50 h28.lt (Nat.le_refl _))), (o0le h50 h35), nd0, al0⟩))
 refine Ws <| Rm z ?_
 obtain ⟨x227, e228, hm229⟩ := bdS (ifF hm40 hc212)
 refine RX z (at_ (α := UInt8) und_25 size_5 z z z h46 e228) ?_
 rintro _ ⟨b230, o231, cs232, rfl, h233, h234, h235⟩
 obtain rfl := UInt8_open h234
 refine R z (l1 agg_5 z fid (h233.at0 z)) <| R z (rd_gtr z z) <| Ra z <| Wn <| Wc z (fun hc288 => ?_) (fun hc288 => ?_)
 ·refine Ws <| R z (bP (parts := []) (cs := [(vI 0), (.slice none 0 0), (.slice none 0 0)]) build_61 z z) <| Rm z <| Rm z ?_
  have h290 := lt_ h35 s42.size
  obtain ⟨r292, e293, hm294⟩ := bdS (ifT hm229 hc288)
  refine E z (fc Tryz.call118 z (W_impl_fail (B := B) e293 (lt_ hBw h290) p3_0 (ii z))) ?_
  rintro _ w295 ⟨s296, v297, S299, rfl, h298, h300⟩
  refine E0 (fs (cur' := [(vI 0), (.slice none 0 0), (.slice none 0 0)]) size_61 z z ((h28.ext s42).ext s296) z (lb z) (oneAll z) z) ?_
  rintro _ w303 ⟨h304, s305⟩
  have h306 := s305.one
  refine Ra z <| Ra z <| Wn ?_
  obtain rfl := som hm294
  exact Wr (rtO (ret3 hr (resC agg_61 size_61 z h304 z) z z ⟨(bM (bup (bup (bup h23 h27) s42) s296) h306 (mem1le h23.size)), none, 0, 0, [], none, 0, 0, [], v297, S299, z, (ii z), onL, onL, p3_0, (h298.chg h306 (o0n1 h300 h28.lt s42.size)), (o0le h300 h290), nd0, al0⟩))
 refine Ws <| Rm z ?_
 obtain ⟨x316, e317, hm318⟩ := bdS (ifF hm229 hc288)
 refine RX z (at_ (α := UInt8) und_25 size_5 z z z h46 e317) ?_
 rintro _ ⟨b319, o320, cs321, rfl, h322, h323, h324⟩
 obtain rfl := UInt8_open h323
 refine R z (l1 agg_5 z fid (h322.at0 z)) <| R z (eql z z) <| Ra z <| Wn <| Wc z (fun hc338 => ?_) (fun hc338 => ?_)
 ·refine Ws <| R z (bP (parts := []) (cs := [(vI 0), (.slice none 0 0), (.slice none 0 0)]) build_61 z z) <| Rm z <| R z (add_ z z) <| E0 (fs (cur' := [(vI 0), (.slice none 0 0), (.slice none 0 0)]) size_61 z z (h28.ext s42) z (lb z) (oneAll z) z) ?_
  rintro _ w341 ⟨h342, s343⟩
  refine Ra z <| Ra z <| Wn ?_
  obtain rfl := som (ifT hm318 hc338)
  exact Wr (rtO (ret3 hr (resC agg_61 size_61 z h342 z) z z ⟨(bM (bup (bup h23 h27) s42) s343.one (mem1le h23.size)), none, 0, 0, [], none, 0, 0, [], .nilIface, ([] : List Nat), z, (ii z), onL, onL, (iA _ _), errR_nil, all_nil, nd0, al0⟩))
 refine Wk <| Ws <| Rm z <| R z (bP (parts := []) (cs := [(vI 0), (.slice none 0 0), (.slice none 0 0)]) build_61 z z) <| R z (fd fld_82_7 z) <| R z (l1 agg_73 z fid (((h24.ext h27).ext s42).at z)) <| Rm z <| R z (add_ z z) ?_
 have h358 := lt_ h35 s42.size
 obtain ⟨r360, r361, r362, e363, hm364⟩ := bd3S (ifF hm318 hc338)
 refine E z (fc Tryz.call113 z (ih_impl_fileReader_items.run (B := B) e363 (lt_ hBw h358) (h32.ext s42) (h34.ext s42) (h30.ext s42) hC1b (ii z) onL nd_nil all_nil onL nd_nil all_nil all_nil (((p2_7.ext h23).ext h27).ext s42) (iA _ _))) ?_
 rintro _ w365 ⟨s366, a368, n369, c370, S372, a373, n374, c375, S377, v379, S381, rfl, h367, h371, h376, h378, h380, h382, h383, h384⟩
 iterate 3 refine R z (ext_ z z) ?_
 refine E0 (fs (cur' := [(vI r360.number), (.slice a368 n369 c370), (.slice a373 n374 c375)]) size_61 z z ((h28.ext s42).chg s366 (atp (nmA (nmN _) (nmN _)))) z (lb z) (oneAll z) z) ?_
 rintro _ w387 ⟨h388, s389⟩
 have h390 := s389.one
 refine Ra z <| Ra z <| Wn ?_
 obtain rfl := som hm364
 have h391 : ∀ k ∈ S372, k ∉ [w21.heap.size] := or1 (all_left h384) al0 (ltnot (mem1 h28.lt) s42.size)
 have h393 : ∀ k ∈ S377, k ∉ [w21.heap.size] := or1 (all_right h384) al0 (ltnot (mem1 h28.lt) s42.size)
 exact Wr (ret3 hr (resC agg_61 size_61 z h388 z) z z ⟨(bM (bM (bup (bup h23 h27) s42) s366 al0) h390 (mem1le h23.size)), a368, n369, c370, S372, a373, n374, c375, S377, v379, S381, z, h367, (h371.chg h390 h391), (h376.chg h390 h393), h378, (h380.chg h390 (o0n1 h382 h28.lt s42.size)), (o0le h382 h358), (nd_app (nd_left h383) (nd_right h383) (nd_dj h383)), (all_app (o1le (all_left h384) al0 h358) (o1le (all_right h384) al0 h358))⟩)
theorem T_impl_fileReader_checked (ih_impl_fileReader_value : S_impl_fileReader_value n) (ih_impl_fileReader_array : S_impl_fileReader_array n) (ih_impl_fileReader_items : S_impl_fileReader_items n) (ih_impl_fileReader_choice : S_impl_fileReader_choice n) (ih_impl_fileReader_option : S_impl_fileReader_option n) (ih_impl_fileReader_checked : S_impl_fileReader_checked n) {x1 : FileReader} {b1 o1 : Nat} {x2 : Rule} {x3 : Int} {res : Val × Int × (Option (Int × Int))} (hm : B_impl_fileReader_checked n (F_impl_fileReader_value n) x1 x2 x3 = some res) (hBw : B ≤ w0.heap.size) (p1_0 : repS w0 B (.slice pa1_0 pn1_0 pc1_0) x1.d.rules) (p1_1 : repS w0 B (.slice pa1_1 pn1_1 pc1_1) x1.b) (hC1 : CellsAt w0 b1 o1 [(.slice pa1_0 pn1_0 pc1_0), (.slice pa1_1 pn1_1 pc1_1)]) (hC1b : b1 < B) (p2_0 : x2.name.b.length ≤ LEN) (p2_1 : inI x2.kind) (p2_2 : inI x2.size) (p2_4 : repS w0 B (.slice pa2_4 pn2_4 pc2_4) x2.bytes) (p2_5 : repS w0 B (.slice pa2_5 pn2_5 pc2_5) x2.names) (p2_6 : repS w0 B (.slice pa2_6 pn2_6 pc2_6) x2.tags) (p2_7 : repS w0 B (.slice pa2_7 pn2_7 pc2_7) x2.kids) (p3_0 : inI x3) : CallsR Tryz.prog 116 [(.pointer (some ⟨b1, o1, none⟩)), (.agg #[(Str.v x2.name), (vI x2.kind), (vI x2.size), (vB x2.little), (.slice pa2_4 pn2_4 pc2_4), (.slice pa2_5 pn2_5 pc2_5), (.slice pa2_6 pn2_6 pc2_6), (.slice pa2_7 pn2_7 pc2_7)]), (vI x3)] w0 (Q_impl_fileReader_checked w0 B res) := by
 unfold B_impl_fileReader_checked at hm
 obtain ⟨fn, hf, hb, hN, hr⟩ := fnE Tryz.func116
 refine goW hf (hb.trans z) (hN.trans z) (lb z) <| Ws <| E z (fb z) ?_
 rintro _ w21 ⟨rfl, h22⟩
 have h23 := h22.below
 have h24 : Blk w21 w0.heap.size [(Str.v x2.name), (vI x2.kind), (vI x2.size), (vB x2.little), (.slice pa2_4 pn2_4 pc2_4), (.slice pa2_5 pn2_5 pc2_5), (.slice pa2_6 pn2_6 pc2_6), (.slice pa2_7 pn2_7 pc2_7)] := h22.blk
 refine E z (fa zero_61) ?_
 rintro _ w25 ⟨rfl, h26⟩
 have h27 := h26.below
 have h28 : Blk w25 w21.heap.size [(vI 0), (.slice none 0 0), (.slice none 0 0)] := h26.blk
 refine Ra z <| Ra z <| Wn <| Ws <| Rm z <| R z (bP (parts := []) (cs := [(vI 0), (.slice none 0 0), (.slice none 0 0)]) build_61 z z) <| R z (fd fld_82_7 z) <| R z (l1 agg_73 z fid ((h24.ext h27).at z)) <| Rm z ?_
 have h31 := (hC1.ext h23).ext h27
 have h33 := (p1_0.ext h23).ext h27
 have h35 := (p1_1.ext h23).ext h27
 have h38 := lt_ h23.size h27.size
 obtain ⟨r40, r41, r42, e43, hm44⟩ := bd3S hm
 refine E z (fc Tryz.call113 z (ih_impl_fileReader_items.run (B := B) e43 (lt_ hBw h38) h33 h35 h31 hC1b (ii z) onL nd_nil all_nil onL nd_nil all_nil all_nil ((p2_7.ext h23).ext h27) p3_0)) ?_
 rintro _ w45 ⟨s46, a48, n49, c50, S52, a53, n54, c55, S57, v59, S61, rfl, h47, h51, h56, h58, h60, h62, h63, h64⟩
 refine Rm z ?_
 iterate 3 refine R z (ext_ z z) ?_
 refine E z (fa zero_61) ?_
 rintro _ w65 ⟨rfl, h66⟩
 have h67 := h66.below
 have h68 : Blk w65 w45.heap.size [(vI 0), (.slice none 0 0), (.slice none 0 0)] := h66.blk
 refine E0 (fs (cur' := [(vI r40.number), (.slice a48 n49 c50), (.slice a53 n54 c55)]) size_61 z z h68 z (lb z) (oneAll z) z) ?_
 rintro _ w69 ⟨h70, s71⟩
 have h72 := s71.one
 refine Ra z <| Ra z <| Wn <| Wq <| Ws <| Rm z ?_
 have h75 := (h60.ext h67).chg h72 (dj_symm (mnr (errR.lt h60)))
 refine R z (rd_neqEr und_122 z z h75) <| Wn <| Wc z (fun hc99 => ?_) (fun hc99 => ?_)
 ·refine Ws <| R z (bP (parts := []) (cs := [(vI 0), (.slice none 0 0), (.slice none 0 0)]) build_61 z z) <| Rm z <| Rm z <| E0 (fs (cur' := [(vI 0), (.slice none 0 0), (.slice none 0 0)]) size_61 z z (((h28.chg s46 (atp (nmA (nmN _) (nmN _)))).ext h67).chg h72 (djs (mm1 h28.lt s46.size))) z (lb z) (oneAll z) z) ?_
  rintro _ w105 ⟨h106, s107⟩
  have h108 := s107.one
  refine Ra z <| Ra z <| Wn ?_
  obtain rfl := som (ifT hm44 hc99)
  exact Wr (ret3 hr (resC agg_61 size_61 z h106 z) z z ⟨(bM (bM (bup (bM (bup h23 h27) s46 al0) h67) h72 (mem1le (lt_ h38 s46.size))) h108 (mem1le h23.size)), none, 0, 0, [], none, 0, 0, [], v59, S61, z, (ii z), onL, onL, p3_0, (h75.chg h108 (o0n1 h62 h28.lt (Nat.le_refl _))), (o0le h62 h38), nd0, al0⟩)
 refine Wk <| Ws <| Rm z <| Rm z ?_
 have h123 := lt_ h38 s46.size
 have h125 := mem1le (lt_ hBw h123)
 have h126 := ((h31.chg s46 ((nmA (ltge all_nil) (ltge all_nil)) _ hC1b)).ext h67).chg h72 ((ltge h125) _ hC1b)
 have h132 := ((h35.chg s46 (nmA (ltge all_nil) (ltge all_nil))).ext h67).chg h72 (ltge h125)
 have h134 := lt_ (lt_ h123 h67.size) h72.size
 obtain ⟨r136, r137, e138, hm139⟩ := bd2S (ifF hm44 hc99)
 refine E z (fc Tryz.call142 z (W_impl_fileReader_take (B := B) e138 (lt_ hBw h134) (((h33.chg s46 (nmA (ltge all_nil) (ltge all_nil))).ext h67).chg h72 (ltge h125)) h132 h126 hC1b h58 (ii z))) ?_
 rintro _ w140 ⟨s141, a142, n143, c144, v146, S148, rfl, h145, h147, h149⟩
 refine Rm z <| R z (ext_ z z) <| R z (ext_ z z) <| Ra z <| Ra z <| Wn <| Wq <| Ws <| Rm z <| R z (rd_neqEr und_122 z z h147) <| Wn <| Wc z (fun hc176 => ?_) (fun hc176 => ?_)
 ·refine Ws <| R z (bP (parts := []) (cs := [(vI 0), (.slice none 0 0), (.slice none 0 0)]) build_61 z z) <| Rm z <| Rm z <| E0 (fs (cur' := [(vI 0), (.slice none 0 0), (.slice none 0 0)]) size_61 z z ((((h28.chg s46 (atp (nmA (nmN _) (nmN _)))).ext h67).chg h72 (djs (mm1 h28.lt s46.size))).ext s141) z (lb z) (oneAll z) z) ?_
  rintro _ w183 ⟨h184, s185⟩
  have h186 := s185.one
  refine Ra z <| Ra z <| Wn ?_
  obtain rfl := som (ifT hm139 hc176)
  exact Wr (ret3 hr (resC agg_61 size_61 z h184 z) z z ⟨(bM (bup (bM (bup (bM (bup h23 h27) s46 al0) h67) h72 (mem1le h123)) s141) h186 (mem1le h23.size)), none, 0, 0, [], none, 0, 0, [], v146, S148, z, (ii z), onL, onL, p3_0, (h147.chg h186 (o0n1 h149 h28.lt (lt_ (lt_ s46.size h67.size) h72.size))), (o0le h149 h134), nd0, al0⟩)
 refine Wk <| Wq <| Wq <| WC_draw (X := noX) 0 (.rd 0 (.rd 1 (.rd 2 (.rd 3 (.rd 4 (.rd 5 (.rd 6 (.rd 7 (.rd 8 (.rd 9 (.rd 10 (.ef 11 (.rd 12 .done))))))))))))) mo (by kernel_rfl) fun w201 s202 _ => dR z z (mv z) ?_
 obtain ⟨x203, e204, hm205⟩ := bdS (ifF hm139 hc176)
 refine dRX z z (at_ (α := UInt8) und_25 size_5 z z z (h145.ext s202) e204) ?_
 rintro _ ⟨b207, o208, cs209, rfl, h210, h211, h212⟩
 obtain rfl := UInt8_open h211
 refine dR z z (l1 agg_5 z fid (h210.at0 z)) <| dR z z (rd_convUI und_5 und_3 z) <| dR z z (mv z) <| dR z z (rd_nil z) <| dR z z (fd fld_120_1 z) <| dR z z (l1 agg_25 z fid (((h126.ext s141).ext s202).at (j := 1) z)) <| dR z z (mv z) <| dR z z (mv z) ?_
 obtain ⟨x215, e216, hm217⟩ := bdS hm205
 refine dRX z z (rd_sliceX und_25 size_5 z z ((h132.ext s141).ext s202) z z e216) ?_
 rintro _ ⟨a220, n221, c222, rfl, h223⟩
 have h225 := lt_ (lt_ h134 s141.size) s202.size
 obtain ⟨r227, e228, hm229⟩ := bdS hm217
 refine dE z z (fc Tryz.call143 z (W_impl_SumOfBytes (B := B) e228 (lt_ hBw h225) h223)) (.inr fun _ _ h => chgB (h.1)) ?_
 rintro _ w230 ⟨s231, rfl, h232⟩
 refine dR z z (rd_neq z z) <| PR_done <| Wo <| Wc z (fun hc279 => ?_) (fun hc279 => ?_)
 ·refine Ws <| R z (bP (parts := []) (cs := [(vI 0), (.slice none 0 0), (.slice none 0 0)]) build_61 z z) <| Rm z <| Rm z ?_
  have h281 := lt_ h225 s231.size
  obtain ⟨r283, e284, hm285⟩ := bdS (ifT hm229 hc279)
  refine E z (fc Tryz.call118 z (W_impl_fail (B := B) e284 (lt_ hBw h281) h58 (ii z))) ?_
  rintro _ w286 ⟨s287, v288, S290, rfl, h289, h291⟩
  refine E0 (fs (cur' := [(vI 0), (.slice none 0 0), (.slice none 0 0)]) size_61 z z (((((((h28.chg s46 (atp (nmA (nmN _) (nmN _)))).ext h67).chg h72 (djs (mm1 h28.lt s46.size))).ext s141).ext s202).ext s231).ext s287) z (lb z) (oneAll z) z) ?_
  rintro _ w300 ⟨h301, s302⟩
  have h303 := s302.one
  refine Ra z <| Ra z <| Wn ?_
  obtain rfl := som hm285
  exact Wr (ret3 hr (resC agg_61 size_61 z h301 z) z z ⟨(bM (bup (bup (bup (bup (bM (bup (bM (bup h23 h27) s46 al0) h67) h72 (mem1le h123)) s141) s202) s231) s287) h303 (mem1le h23.size)), none, 0, 0, [], none, 0, 0, [], v288, S290, z, (ii z), onL, onL, p3_0, (h289.chg h303 (o0n1 h291 h28.lt (lt_ (lt_ (lt_ (lt_ (lt_ s46.size h67.size) h72.size) s141.size) s202.size) s231.size))), (o0le h291 h281), nd0, al0⟩)
 refine Wk <| Ws <| R z (lN (vs := [(vI r40.number), (.slice a48 n49 c50), (.slice a53 n54 c55)]) agg_61 size_61 z z fid ((((h70.ext s141).ext s202).ext s231).row 0 3 z)) <| Rm z <| R z (add_ z z) <| E0 (fs (cur' := [(vI r40.number), (.slice a48 n49 c50), (.slice a53 n54 c55)]) size_61 z z ((((((h28.chg s46 (atp (nmA (nmN _) (nmN _)))).ext h67).chg h72 (djs (mm1 h28.lt s46.size))).ext s141).ext s202).ext s231) z (lb z) (oneAll z) z) ?_
 rintro _ w334 ⟨h335, s336⟩
 have h337 := s336.one
 refine Ra z <| Ra z <| Wn ?_
 obtain rfl := som (ifF hm229 hc279)
 have h344 : ∀ k ∈ S52, k ∉ [w21.heap.size] := or1 (all_left h64) al0 (ltnot (mem1 h28.lt) lr)
 have h352 : ∀ k ∈ S57, k ∉ [w21.heap.size] := or1 (all_right h64) al0 (ltnot (mem1 h28.lt) lr)
 exact Wr (ret3 hr (resC agg_61 size_61 z h335 z) z z ⟨(bM (bup (bup (bup (bM (bup (bM (bup h23 h27) s46 al0) h67) h72 (mem1le h123)) s141) s202) s231) h337 (mem1le h23.size)), a48, n49, c50, S52, a53, n54, c55, S57, .nilIface, ([] : List Nat), z, h47, ((((((h51.ext h67).chg h72 (dj_symm (mnr (ownS.lt h51)))).ext s141).ext s202).ext s231).chg h337 h344), ((((((h56.ext h67).chg h72 (dj_symm (mnr (ownS.lt h56)))).ext s141).ext s202).ext s231).chg h337 h352), (iA _ _), errR_nil, all_nil, (nd_app (nd_left h63) (nd_right h63) (nd_dj h63)), (all_app (o1le (all_left h64) al0 h38) (o1le (all_right h64) al0 h38))⟩)
theorem A_impl_fileReader_value : ∀ n, S_impl_fileReader_value n ∧ S_impl_fileReader_array n ∧ S_impl_fileReader_items n ∧ S_impl_fileReader_choice n ∧ S_impl_fileReader_option n ∧ S_impl_fileReader_checked n
  | 0 => ⟨⟨fun hm => by intros; exact nomatch (show none = some _ from hm)⟩, ⟨fun hm => by intros; exact nomatch (show none = some _ from hm)⟩, ⟨fun hm => by intros; exact nomatch (show none = some _ from hm)⟩, ⟨fun hm => by intros; exact nomatch (show none = some _ from hm)⟩, ⟨fun hm => by intros; exact nomatch (show none = some _ from hm)⟩, ⟨fun hm => by intros; exact nomatch (show none = some _ from hm)⟩⟩
  | n + 1 => by
    have ih := A_impl_fileReader_value n
    obtain ⟨i0, i1, i2, i3, i4, i5⟩ := ih
    exact ⟨⟨fun hm => T_impl_fileReader_value i0 i1 i2 i3 i4 i5 hm⟩, ⟨fun hm => T_impl_fileReader_array i0 i1 i2 i3 i4 i5 hm⟩, ⟨fun hm => T_impl_fileReader_items i0 i1 i2 i3 i4 i5 hm⟩, ⟨fun hm => T_impl_fileReader_choice i0 i1 i2 i3 i4 i5 hm⟩, ⟨fun hm => T_impl_fileReader_option i0 i1 i2 i3 i4 i5 hm⟩, ⟨fun hm => T_impl_fileReader_checked i0 i1 i2 i3 i4 i5 hm⟩⟩
theorem W_impl_fileReader_value : ∀ {x1 : FileReader} {b1 o1 : Nat} {x2 : Int} {x3 : Int} {res : Val × Int × (Option (Int × Int))} (hm : (F_impl_fileReader_value n).impl_fileReader_value x1 x2 x3 = some res) (hBw : B ≤ w0.heap.size) (p1_0 : repS w0 B (.slice pa1_0 pn1_0 pc1_0) x1.d.rules) (p1_1 : repS w0 B (.slice pa1_1 pn1_1 pc1_1) x1.b) (hC1 : CellsAt w0 b1 o1 [(.slice pa1_0 pn1_0 pc1_0), (.slice pa1_1 pn1_1 pc1_1)]) (hC1b : b1 < B) (p2_0 : inI x2) (p3_0 : inI x3), CallsR Tryz.prog 91 [(.pointer (some ⟨b1, o1, none⟩)), (vI x2), (vI x3)] w0 (Q_impl_fileReader_value w0 B res) := ((A_impl_fileReader_value n).1).run
theorem W_impl_fileReader_array : ∀ {x1 : FileReader} {b1 o1 : Nat} {x2 : Rule} {x3 : Int} {res : Val × Int × (Option (Int × Int))} (hm : (F_impl_fileReader_value n).impl_fileReader_array x1 x2 x3 = some res) (hBw : B ≤ w0.heap.size) (p1_0 : repS w0 B (.slice pa1_0 pn1_0 pc1_0) x1.d.rules) (p1_1 : repS w0 B (.slice pa1_1 pn1_1 pc1_1) x1.b) (hC1 : CellsAt w0 b1 o1 [(.slice pa1_0 pn1_0 pc1_0), (.slice pa1_1 pn1_1 pc1_1)]) (hC1b : b1 < B) (p2_0 : x2.name.b.length ≤ LEN) (p2_1 : inI x2.kind) (p2_2 : inI x2.size) (p2_4 : repS w0 B (.slice pa2_4 pn2_4 pc2_4) x2.bytes) (p2_5 : repS w0 B (.slice pa2_5 pn2_5 pc2_5) x2.names) (p2_6 : repS w0 B (.slice pa2_6 pn2_6 pc2_6) x2.tags) (p2_7 : repS w0 B (.slice pa2_7 pn2_7 pc2_7) x2.kids) (p3_0 : inI x3), CallsR Tryz.prog 112 [(.pointer (some ⟨b1, o1, none⟩)), (.agg #[(Str.v x2.name), (vI x2.kind), (vI x2.size), (vB x2.little), (.slice pa2_4 pn2_4 pc2_4), (.slice pa2_5 pn2_5 pc2_5), (.slice pa2_6 pn2_6 pc2_6), (.slice pa2_7 pn2_7 pc2_7)]), (vI x3)] w0 (Q_impl_fileReader_array w0 B res) := ((A_impl_fileReader_value n).2.1).run
theorem W_impl_fileReader_items : ∀ {x1 : FileReader} {b1 o1 : Nat} {x2 : Val} {S2_1 : List Nat} {S2_2 : List Nat} {x3 : List Int} {x4 : Int} {res : Val × Int × (Option (Int × Int))} (hm : (F_impl_fileReader_value n).impl_fileReader_items x1 x2 x3 x4 = some res) (hBw : B ≤ w0.heap.size) (p1_0 : repS w0 B (.slice pa1_0 pn1_0 pc1_0) x1.d.rules) (p1_1 : repS w0 B (.slice pa1_1 pn1_1 pc1_1) x1.b) (hC1 : CellsAt w0 b1 o1 [(.slice pa1_0 pn1_0 pc1_0), (.slice pa1_1 pn1_1 pc1_1)]) (hC1b : b1 < B) (p2_0 : inI x2.number) (p2_1 : ownS w0 S2_1 (.slice pa2_1 pn2_1 pc2_1) x2.bytes) (p2_1n : S2_1.Nodup) (p2_1g : ∀ k ∈ S2_1, B ≤ k) (p2_2 : ownS w0 S2_2 (.slice pa2_2 pn2_2 pc2_2) x2.items) (p2_2n : S2_2.Nodup) (p2_2g : ∀ k ∈ S2_2, B ≤ k) (p2_2d1 : ∀ k ∈ S2_2, k ∉ S2_1) (p3_0 : repS w0 B (.slice pa3_0 pn3_0 pc3_0) x3) (p4_0 : inI x4), CallsR Tryz.prog 113 [(.pointer (some ⟨b1, o1, none⟩)), (.agg #[(vI x2.number), (.slice pa2_1 pn2_1 pc2_1), (.slice pa2_2 pn2_2 pc2_2)]), (.slice pa3_0 pn3_0 pc3_0), (vI x4)] w0 (Q_impl_fileReader_items w0 B S2_1 S2_2 res) := ((A_impl_fileReader_value n).2.2.1).run
theorem W_impl_fileReader_choice : ∀ {x1 : FileReader} {b1 o1 : Nat} {x2 : Rule} {x3 : Int} {res : Val × Int × (Option (Int × Int))} (hm : (F_impl_fileReader_value n).impl_fileReader_choice x1 x2 x3 = some res) (hBw : B ≤ w0.heap.size) (p1_0 : repS w0 B (.slice pa1_0 pn1_0 pc1_0) x1.d.rules) (p1_1 : repS w0 B (.slice pa1_1 pn1_1 pc1_1) x1.b) (hC1 : CellsAt w0 b1 o1 [(.slice pa1_0 pn1_0 pc1_0), (.slice pa1_1 pn1_1 pc1_1)]) (hC1b : b1 < B) (p2_0 : x2.name.b.length ≤ LEN) (p2_1 : inI x2.kind) (p2_2 : inI x2.size) (p2_4 : repS w0 B (.slice pa2_4 pn2_4 pc2_4) x2.bytes) (p2_5 : repS w0 B (.slice pa2_5 pn2_5 pc2_5) x2.names) (p2_6 : repS w0 B (.slice pa2_6 pn2_6 pc2_6) x2.tags) (p2_7 : repS w0 B (.slice pa2_7 pn2_7 pc2_7) x2.kids) (p3_0 : inI x3), CallsR Tryz.prog 114 [(.pointer (some ⟨b1, o1, none⟩)), (.agg #[(Str.v x2.name), (vI x2.kind), (vI x2.size), (vB x2.little), (.slice pa2_4 pn2_4 pc2_4), (.slice pa2_5 pn2_5 pc2_5), (.slice pa2_6 pn2_6 pc2_6), (.slice pa2_7 pn2_7 pc2_7)]), (vI x3)] w0 (Q_impl_fileReader_choice w0 B res) := ((A_impl_fileReader_value n).2.2.2.1).run
theorem W_impl_fileReader_option : ∀ {x1 : FileReader} {b1 o1 : Nat} {x2 : Rule} {x3 : Int} {res : Val × Int × (Option (Int × Int))} (hm : (F_impl_fileReader_value n).impl_fileReader_option x1 x2 x3 = some res) (hBw : B ≤ w0.heap.size) (p1_0 : repS w0 B (.slice pa1_0 pn1_0 pc1_0) x1.d.rules) (p1_1 : repS w0 B (.slice pa1_1 pn1_1 pc1_1) x1.b) (hC1 : CellsAt w0 b1 o1 [(.slice pa1_0 pn1_0 pc1_0), (.slice pa1_1 pn1_1 pc1_1)]) (hC1b : b1 < B) (p2_0 : x2.name.b.length ≤ LEN) (p2_1 : inI x2.kind) (p2_2 : inI x2.size) (p2_4 : repS w0 B (.slice pa2_4 pn2_4 pc2_4) x2.bytes) (p2_5 : repS w0 B (.slice pa2_5 pn2_5 pc2_5) x2.names) (p2_6 : repS w0 B (.slice pa2_6 pn2_6 pc2_6) x2.tags) (p2_7 : repS w0 B (.slice pa2_7 pn2_7 pc2_7) x2.kids) (p3_0 : inI x3), CallsR Tryz.prog 115 [(.pointer (some ⟨b1, o1, none⟩)), (.agg #[(Str.v x2.name), (vI x2.kind), (vI x2.size), (vB x2.little), (.slice pa2_4 pn2_4 pc2_4), (.slice pa2_5 pn2_5 pc2_5), (.slice pa2_6 pn2_6 pc2_6), (.slice pa2_7 pn2_7 pc2_7)]), (vI x3)] w0 (Q_impl_fileReader_option w0 B res) := ((A_impl_fileReader_value n).2.2.2.2.1).run
theorem W_impl_fileReader_checked : ∀ {x1 : FileReader} {b1 o1 : Nat} {x2 : Rule} {x3 : Int} {res : Val × Int × (Option (Int × Int))} (hm : (F_impl_fileReader_value n).impl_fileReader_checked x1 x2 x3 = some res) (hBw : B ≤ w0.heap.size) (p1_0 : repS w0 B (.slice pa1_0 pn1_0 pc1_0) x1.d.rules) (p1_1 : repS w0 B (.slice pa1_1 pn1_1 pc1_1) x1.b) (hC1 : CellsAt w0 b1 o1 [(.slice pa1_0 pn1_0 pc1_0), (.slice pa1_1 pn1_1 pc1_1)]) (hC1b : b1 < B) (p2_0 : x2.name.b.length ≤ LEN) (p2_1 : inI x2.kind) (p2_2 : inI x2.size) (p2_4 : repS w0 B (.slice pa2_4 pn2_4 pc2_4) x2.bytes) (p2_5 : repS w0 B (.slice pa2_5 pn2_5 pc2_5) x2.names) (p2_6 : repS w0 B (.slice pa2_6 pn2_6 pc2_6) x2.tags) (p2_7 : repS w0 B (.slice pa2_7 pn2_7 pc2_7) x2.kids) (p3_0 : inI x3), CallsR Tryz.prog 116 [(.pointer (some ⟨b1, o1, none⟩)), (.agg #[(Str.v x2.name), (vI x2.kind), (vI x2.size), (vB x2.little), (.slice pa2_4 pn2_4 pc2_4), (.slice pa2_5 pn2_5 pc2_5), (.slice pa2_6 pn2_6 pc2_6), (.slice pa2_7 pn2_7 pc2_7)]), (vI x3)] w0 (Q_impl_fileReader_checked w0 B res) := ((A_impl_fileReader_value n).2.2.2.2.2).run

def Q_impl_ReadValue (w0 : World) (B : Nat) (r : Val × Int × Int) (v : Value) (w' : World) : Prop := Below w0.heap.size w0 w' ∧ un3 (fun r1 r2 r3 => ∃ (a1 : Option Addr) (n1 c1 : Nat) (S1 : List Nat) (a2 : Option Addr) (n2 c2 : Nat) (S2 : List Nat), v = .tuple #[(.agg #[vI r1.number, .slice a1 n1 c1, .slice a2 n2 c2]), (vI r2), (vI r3)] ∧ inI r1.number ∧ ownS w' S1 (.slice a1 n1 c1) r1.bytes ∧ ownS w' S2 (.slice a2 n2 c2) r1.items ∧ inI r2 ∧ inI r3 ∧ (S1 ++ S2).Nodup ∧ (∀ k ∈ (S1 ++ S2), w0.heap.size ≤ k)) r
end Go.Vw

