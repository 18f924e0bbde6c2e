import Derived.Test.YtkabbifadcaenaaGreatDoorVwTW2
set_option linter.unusedVariables false
namespace Go.Vw
open Go.RowKit Dat Go.Proofs
open Go.Vw renaming WC_seq → Wq, WC_region → Wg, WC.of_KC → Wo, WL_nil → Wl, WC_cond → Wc, WC_ret → Wr, WC_run → Wu, rd_pickT → pT, rd_pickF → pF, rd_field → fd, rd_load1 → l1, rd_loadN → lN, rd_move → mv, rd_assign → asg, rd_lenR → lnR, rd_lss → lss, rd_eql → eql, rd_extract → ext_, rd_buildP → bP, rd_add → add_, rd_inc → inc_, rd_not → not_, rd_at → at_, ef_call → fc, ef_store → fs, ef_box → fb, ef_alloc → fa, sub_refl → sr, crefl → cr, cchgM → cM, bchgM → bM, inI_sub → iS, inI_add → iA, brefl → br
variable {pa1_0 : Option Addr} {pn1_0 pc1_0 : Nat} {B : Nat} {w0 : World} {pa1_4 : Option Addr} {pa1_5 : Option Addr} {pa1_6 : Option Addr} {pa1_7 : Option Addr} {pn1_4 pc1_4 : Nat} {pn1_5 pc1_5 : Nat} {pn1_6 pc1_6 : Nat} {pn1_7 pc1_7 : Nat} {pa2_4 : Option Addr} {pa2_5 : Option Addr} {pa2_6 : Option Addr} {pa2_7 : Option Addr} {pn2_4 pc2_4 : Nat} {pn2_5 pc2_5 : Nat} {pn2_6 pc2_6 : Nat} {pn2_7 pc2_7 : Nat} {pa3_0 : Option Addr} {pn3_0 pc3_0 : Nat} {pa2_0 : Option Addr} {pn2_0 pc2_0 : Nat} {n : Nat} {pa5_0 : Option Addr} {pn5_0 pc5_0 : Nat} {pa1_1 : Option Addr} {pn1_1 pc1_1 : Nat} {pa2_1 : Option Addr} {pa2_2 : Option Addr} {pn2_1 pc2_1 : Nat} {pn2_2 pc2_2 : Nat} {pa3_1 : Option Addr} {pa3_2 : Option Addr} {pn3_1 pc3_1 : Nat} {pn3_2 pc3_2 : Nat} {pa1_2 : Option Addr} {pa4_1 : Option Addr} {pa4_2 : Option Addr} {pn1_2 pc1_2 : Nat} {pn4_1 pc4_1 : Nat} {pn4_2 pc4_2 : Nat}
theorem W_impl_ReadValue {x1 : Desc} {x2 : Int} {x3 : List UInt8} {x4 : Int} {res : Val × Int × Int} (hm : M_impl_ReadValue n x1 x2 x3 x4 = some res) (hBw : B ≤ w0.heap.size) (hG : Gl w0 B) (p1_0 : repS w0 B (.slice pa1_0 pn1_0 pc1_0) x1.rules) (p2_0 : inI x2) (p3_0 : repS w0 B (.slice pa3_0 pn3_0 pc3_0) x3) (p4_0 : inI x4) : CallsR Tryz.prog 57 [(.agg #[(.slice pa1_0 pn1_0 pc1_0)]), (vI x2), (.slice pa3_0 pn3_0 pc3_0), (vI x4)] w0 (Q_impl_ReadValue w0 B res) := by
 unfold M_impl_ReadValue at hm
 obtain ⟨fn, hf, hb, hN, hr⟩ := fnE Tryz.func57
 refine goW hf (hb.trans z) (hN.trans z) (lb z) <| Ws <| E z (fb z) ?_
 rintro _ w21 ⟨rfl, h22⟩
 have h23 := h22.below
 have h24 : Blk w21 w0.heap.size [(.slice pa1_0 pn1_0 pc1_0)] := h22.blk
 refine E z (fa zero_61) ?_
 rintro _ w25 ⟨rfl, h26⟩
 have h27 := h26.below
 have h28 : Blk w25 w21.heap.size [(vI 0), (.slice none 0 0), (.slice none 0 0)] := h26.blk
 refine Ra z <| Ra z <| Wn <| Wq <| Wq ?_
 obtain ⟨u52, hu53, hm54⟩ := bdS hm
 refine WC_cut (fun a w => ∃ (x51 : Bool), x51 = u52 ∧ Sat 62 [(1, (vI x2)), (2, (.slice pa3_0 pn3_0 pc3_0)), (3, (vI x4)), (4, (.pointer (some ⟨w0.heap.size, 0, none⟩))), (8, (.pointer (some ⟨w21.heap.size, 0, none⟩))), (34, (vB x51))] a ∧ Below w25.heap.size w25 w) ?_ ?_
 ·refine Wg <| R z (lN (vs := [(.slice pa1_0 pn1_0 pc1_0)]) agg_31 size_31 z z fid ((h24.ext h27).row 0 1 z)) <| Rm z ?_
  obtain ⟨r60, e61, hm62⟩ := bdS hu53
  refine E z (fc Tryz.call90 z (W_impl_known (B := B) e61 (lt_ hBw (lt_ h23.size h27.size)) ((p1_0.ext h23).ext h27) p2_0)) ?_
  rintro _ w63 ⟨s64, rfl⟩
  refine R z (not_ z) <| Rm z ?_
  rcases bsplit (!r60) with hc65 | hc65
  ·refine Nh z hc65 <| Nh z hc65 <| R z (pT z hc65 z) <| Rm z <| Nh z z <| Nh z z <| Nh z z <| Nh z z <| R z (pT z z z) <| Rm z <| Nh z z <| Nh z z <| Nh z z <| R z (pT z z z) <| Wl ?_
   exact fun _ q => ⟨true, som (ifT hm62 hc65), (q.weaken (s6 z z z z z z)), s64⟩
  have hm67 := ifF hm62 hc65
  refine Rh z hc65 (mv z) <| Rh z hc65 (lss z z) <| R z (pF z hc65 z) <| Rm z ?_
  rcases bsplit (decide (x4 < 0)) with hc68 | hc68
  ·iterate 4 refine Nh z hc68 ?_
   exact R z (pT z hc68 z) <| Rm z <| Nh z z <| Nh z z <| Nh z z <| R z (pT z z z) <| Wl <| fun _ q => ⟨true, som (ifT hm67 hc68), (q.weaken (s6 z z z z z z)), s64⟩
  have hm70 := ifF hm67 hc68
  refine Rh z hc68 (mv z) <| Rh z hc68 (mv z) ?_
  have h73 := ((p3_0.ext h23).ext h27).ext s64
  refine Rh z hc68 (lnR und_25 z h73) <| Rh z hc68 (rd_gtr z z) <| R z (pF z hc68 z) <| Rm z ?_
  rcases bsplit (decide ((x3.length : Int) < x4)) with hc74 | hc74
  ·iterate 3 refine Nh z hc74 ?_
   exact R z (pT z hc74 z) <| Wl <| fun _ q => ⟨true, som (ifT hm70 hc74), (q.weaken (s6 z z z z z z)), s64⟩
  exact Rh z hc74 (mv z) <| Rh z hc74 (lnR und_25 z h73) <| Rh z hc74 (rd_gtr z z) <| R z (pF z hc74 z) <| Wl <| fun _ q => ⟨decide (400 < (x3.length : Int)), som (ifF hm70 hc74), (q.weaken (s6 z z z z z z)), s64⟩
 rintro a77 w78 ⟨x51, rfl, hS79, s80⟩
 revert a77
 refine Wo <| Wc z (fun hc94 => ?_) (fun hc94 => ?_)
 ·refine Ws <| R z (bP (parts := []) (cs := [(vI 0), (.slice none 0 0), (.slice none 0 0)]) build_61 z z) <| E0 (fs (cur' := [(vI 0), (.slice none 0 0), (.slice none 0 0)]) size_61 z z (h28.ext s80) z (lb z) (oneAll z) z) ?_
  rintro _ w97 ⟨h98, s99⟩
  refine Ra z <| Ra z <| Wn ?_
  obtain rfl := som (ifT hm54 hc94)
  exact Wr (ret3 hr (resC agg_61 size_61 z h98 z) z z ⟨(bM (bup (bup h23 h27) s80) s99.one (mem1le h23.size)), none, 0, 0, [], none, 0, 0, [], z, (ii z), onL, onL, (ii z), (ii z), nd0, al0⟩)
 refine Wk <| Ws <| R z (lN (vs := [(.slice pa1_0 pn1_0 pc1_0)]) agg_31 size_31 z z fid (((h24.ext h27).ext s80).row 0 1 z)) <| Rm z <| R z (bP (parts := [(0, (.tmp 36)), (1, (.tmp 37))]) (cs := [(.slice pa1_0 pn1_0 pc1_0), (.slice pa3_0 pn3_0 pc3_0)]) build_120 z z) <| E z (fb z) ?_
 rintro _ w108 ⟨rfl, h109⟩
 have h110 := h109.below
 have h111 : Blk w108 w78.heap.size [(.slice pa1_0 pn1_0 pc1_0), (.slice pa3_0 pn3_0 pc3_0)] := h109.blk
 refine Ra z <| Wn <| Ws <| Rm z <| Rm z <| Rm z ?_
 have h122 := lt_ (lt_ (lt_ h23.size h27.size) s80.size) h110.size
 have h123 := lt_ hBw h122
 obtain ⟨r124, r125, r126, e127, hm128⟩ := bd3S (ifF hm54 hc94)
 refine E z (fc Tryz.call91 z (W_impl_fileReader_value (B := w108.heap.size) e127 lr (repS.mono ((((p1_0.ext h23).ext h27).ext s80).ext h110) h123) (repS.mono ((((p3_0.ext h23).ext h27).ext s80).ext h110) h123) (h111.row 0 2 z) h111.lt p2_0 p4_0)) ?_
 rintro _ w129 ⟨s130, a132, n133, c134, S136, a137, n138, c139, S141, v143, S145, rfl, h131, h135, h140, h142, h144, h146, h147, h148⟩
 refine Rm z ?_
 iterate 3 refine R z (ext_ z z) ?_
 refine E z (fa zero_61) ?_
 rintro _ w149 ⟨rfl, h150⟩
 have h151 := h150.below
 have h152 : Blk w149 w129.heap.size [(vI 0), (.slice none 0 0), (.slice none 0 0)] := h150.blk
 refine E0 (fs (cur' := [(vI r124.number), (.slice a132 n133 c134), (.slice a137 n138 c139)]) size_61 z z h152 z (lb z) (oneAll z) z) ?_
 rintro _ w153 ⟨h154, s155⟩
 have h156 := s155.one
 refine Ra z <| Ra z <| Wn <| Ws <| E z (fa zero_125) ?_
 rintro _ w157 ⟨rfl, h158⟩
 have h159 := h158.below
 have h160 : Blk w157 w153.heap.size [(.pointer none)] := h158.blk
 refine Wn <| Wq <| Ws <| Rm z <| R z (rd_makeIface und_127 (fun _ h => by cases h) z) ?_
 have h165 := ((h144.ext h151).chg h156 (dj_symm (mnr (errR.lt h144)))).ext h159
 rcases bsplit (r126.isSome) with hc161 | hc161
 ·obtain ⟨r167, r168, e169, hm170⟩ := bd2S (ifT hm128 hc161)
  have h177 := lt_ h122 s130.size
  refine E z (fc Tryz.call92 z (W_As_some ((((((((hG.ext h23).ext h27).ext s80).ext h110).ext s130).ext h151).chg h156 (ltge (mem1le (lt_ hBw h177)))).ext h159) h165 e169 h160)) ?_
  rintro _ w182 ⟨g183, rfl, s184, h185, h186, h187, h188, h189⟩
  have h190 := s184.one
  refine Wn <| Wc z (fun _ => ?_) (fun hc => (bcon z hc).elim)
  refine Wq <| WC_draw (X := (· ∈ [w21.heap.size])) 0 (.rd 0 (.rd 1 (.rd 2 (.rd 3 (.rd 4 (.rd 5 (.rd 6 (.rd 7 (.rd 8 (.ef 9 (.rd 10 (.rd 11 .done)))))))))))) mo (by kernel_rfl) fun w236 s237 _ => dR z z (bP (parts := []) (cs := [(vI 0), (.slice none 0 0), (.slice none 0 0)]) build_61 z z) ?_
  have h238 := h185.ext s237
  have h239 := lt_ s80.size h110.size
  have h240 := lt_ h239 s130.size
  have h242 := lt_ (lt_ h240 h151.size) h156.size
  have h243 := mm1 h28.lt h242
  refine dR z z (l1 agg_125 z (atp h243) (h238.at z)) <| dR z z (rd_nil z) <| dR z z (fd fld_129_0 z) ?_
  have h246 : ∀ k ∈ [g183], k ∉ [w153.heap.size] := or1 (mem1 (.inl h187)) (dj_symm (mno (errR.lt h144) (lt_ h151.size h156.size))) (ltnot (mem1 h160.lt) lr)
  have h248 := (h186.chg h190 (atp h246)).ext s237
  have h251 : ∀ k ∈ [g183], k ∉ [w21.heap.size] := or1 (mem1 (.inl h187)) (o0n1 h146 h28.lt h239) (ltnot (mem1 h28.lt) (lt_ h242 h159.size))
  refine dR z z (l1 agg_3 z (atp h251) (h248.at z)) <| dR z z (l1 agg_125 z (atp h243) (h238.at z)) <| dR z z (rd_nil z) <| dR z z (fd fld_129_1 z) <| dR z z (l1 agg_3 z (atp h251) (h248.at z)) <| dE0 z (fs (cur' := [(vI 0), (.slice none 0 0), (.slice none 0 0)]) size_61 z z ((((((((h28.ext s80).ext h110).ext s130).ext h151).chg h156 (djs (mm1 h28.lt h240))).ext h159).chg h190 (djs h243)).ext s237) z (lb z) (oneAll z) z) (.inr fun _ _ h => chgIn (List.mem_singleton.2 z) h.2) ?_
  rintro _ w261 ⟨h262, s263⟩
  refine dR z z (asg z) <| dR z z (asg z) <| PR_done <| Wo ?_
  obtain rfl := som hm170
  exact Wr (ret3 hr (resC agg_61 size_61 z h262 z) z z ⟨(bM (bup (bM (bup (bM (bup (bup (bup (bup (bup h23 h27) s80) h110) s130) h151) h156 (mem1le h177)) h159) h190 (mem1le (lt_ (lt_ h177 h151.size) h156.size))) s237) s263.one (mem1le h23.size)), none, 0, 0, [], none, 0, 0, [], z, (ii z), onL, onL, h188, h189, nd0, al0⟩)
 refine E z (fc Tryz.call92 z (W_As_none h165 hc161)) ?_
 rintro _ w281 ⟨rfl, s282⟩
 refine Wn <| Wc z (fun hc => (bcon hc z).elim) (fun _ => ?_)
 refine Wk <| Ws <| R z (lN (vs := [(vI r124.number), (.slice a132 n133 c134), (.slice a137 n138 c139)]) agg_61 size_61 z z fid (((h154.ext h159).ext s282).row 0 3 z)) <| Rm z ?_
 have h289 := lt_ s80.size h110.size
 refine E0 (fs (cur' := [(vI r124.number), (.slice a132 n133 c134), (.slice a137 n138 c139)]) size_61 z z (((((((h28.ext s80).ext h110).ext s130).ext h151).chg h156 (djs (mm1 h28.lt (lt_ h289 s130.size)))).ext h159).ext s282) z (lb z) (oneAll z) z) ?_
 rintro _ w295 ⟨h296, s297⟩
 have h298 := s297.one
 refine Ra z <| Ra z <| Wn ?_
 obtain rfl := som (ifF hm128 hc161)
 exact Wr (ret3 hr (resC agg_61 size_61 z h296 z) z z ⟨(bM (bup (bup (bM (bup (bup (bup (bup (bup h23 h27) s80) h110) s130) h151) h156 (mem1le (lt_ h122 s130.size))) h159) s282) h298 (mem1le h23.size)), a132, n133, c134, S136, a137, n138, c139, S141, z, h131, (((((h135.ext h151).chg h156 (dj_symm (mnr (ownS.lt h135)))).ext h159).ext s282).chg h298 (o0n1 (all_left h148) h28.lt h289)), (((((h140.ext h151).chg h156 (dj_symm (mnr (ownS.lt h140)))).ext h159).ext s282).chg h298 (o0n1 (all_right h148) h28.lt h289)), h142, (ii z), (nd_app (nd_left h147) (nd_right h147) (nd_dj h147)), (all_app (o0le (all_left h148) h122) (o0le (all_right h148) h122))⟩)
def Q_impl_ReadFile (w0 : World) (B : Nat) (r : Val × Int × Int) (v : Value) (w' : World) : Prop := Below w0.heap.size w0 w' ∧ un3 (fun r1 r2 r3 => ∃ (a1 : Option Addr) (n1 c1 : Nat) (S1 : List Nat) (a2 : Option Addr) (n2 c2 : Nat) (S2 : List Nat), v = .tuple #[(.agg #[vI r1.number, .slice a1 n1 c1, .slice a2 n2 c2]), (vI r2), (vI r3)] ∧ inI r1.number ∧ ownS w' S1 (.slice a1 n1 c1) r1.bytes ∧ ownS w' S2 (.slice a2 n2 c2) r1.items ∧ inI r2 ∧ inI r3 ∧ (S1 ++ S2).Nodup ∧ (∀ k ∈ (S1 ++ S2), w0.heap.size ≤ k)) r
theorem W_impl_ReadFile {x1 : Desc} {x2 : List UInt8} {res : Val × Int × Int} (hm : M_impl_ReadFile n x1 x2 = some res) (hBw : B ≤ w0.heap.size) (hG : Gl w0 B) (p1_0 : repS w0 B (.slice pa1_0 pn1_0 pc1_0) x1.rules) (p2_0 : repS w0 B (.slice pa2_0 pn2_0 pc2_0) x2) : CallsR Tryz.prog 34 [(.agg #[(.slice pa1_0 pn1_0 pc1_0)]), (.slice pa2_0 pn2_0 pc2_0)] w0 (Q_impl_ReadFile w0 B res) := by
 unfold M_impl_ReadFile at hm
 obtain ⟨fn, hf, hb, hN, hr⟩ := fnE Tryz.func34
 refine goW hf (hb.trans z) (hN.trans z) (lb z) <| Ws <| E z (fb z) ?_
 rintro _ w21 ⟨rfl, h22⟩
 have h23 := h22.below
 have h24 : Blk w21 w0.heap.size [(.slice pa1_0 pn1_0 pc1_0)] := h22.blk
 refine E z (fa zero_61) ?_
 rintro _ w25 ⟨rfl, h26⟩
 have h27 := h26.below
 have h28 : Blk w25 w21.heap.size [(vI 0), (.slice none 0 0), (.slice none 0 0)] := h26.blk
 refine Ra z <| Ra z <| Wn <| Wq ?_
 obtain ⟨u225, hu226, hm227⟩ := bdS hm
 refine WC_cut (fun a w => ∃ (x197 : Int) (x199 : List UInt8) (x207 : List Val) (x218 : Int) (x220 : Int), (x197, x199, x207, x218, x220) = u225 ∧ ∃ (a200 : Option Addr) (n201 c202 : Nat) (S204 : List Nat) (a208 : Option Addr) (n209 c210 : Nat) (S212 : List Nat) (g215 : Nat), Sat 32 [(1, (.slice pa2_0 pn2_0 pc2_0)), (4, (.pointer (some ⟨w21.heap.size, 0, none⟩))), (7, (.pointer (some ⟨g215, 0, none⟩))), (8, (vI x218)), (9, (vI x220))] a ∧ Below w25.heap.size w25 w ∧ inI x197 ∧ ownS w S204 (.slice a200 n201 c202) x199 ∧ S204.Nodup ∧ (∀ k ∈ S204, w25.heap.size ≤ k) ∧ ownS w S212 (.slice a208 n209 c210) x207 ∧ S212.Nodup ∧ (∀ k ∈ S212, w25.heap.size ≤ k) ∧ (∀ k ∈ S212, k ∉ S204) ∧ inI x218 ∧ inI x220 ∧ Blk w g215 [(vI x197), (.slice a200 n201 c202), (.slice a208 n209 c210)] ∧ w25.heap.size ≤ g215 ∧ (∀ k ∈ S204, k ∉ [g215]) ∧ (∀ k ∈ S212, k ∉ [g215])) ?_ ?_
 ·refine WC_draw (X := fun k => k ∈ ([] : List Nat) ∨ w25.heap.size ≤ k) 0 (.rd 0 (.rd 1 (.rd 3 (.br 2 (.br 4 (.rd 5 (.rd 6 (.rd 7 (.rd 8 (.ef 9 (.ef 10 (.rd 11 (.rd 12 .done)))))))) 9 (.ef 4 (.rd 5 (.rd 6 (.rd 7 (.rd 8 (.ef 10 (.rd 11 (.rd 12 .done))))))))) 9 (.ef 2 (.ef 4 (.rd 5 (.rd 6 (.rd 7 (.rd 8 (.ef 10 (.rd 11 (.rd 12 .done))))))))))))) mo (by kernel_rfl) fun w228 s229 _ => ?_
  have h231 := (h24.ext h27).ext s229
  refine dR z z (lN (vs := [(.slice pa1_0 pn1_0 pc1_0)]) agg_31 size_31 z z (notNew (atp (nmN _)) (Nat.lt_of_lt_of_le h24.lt h27.size)) (h231.row 0 1 z)) <| dR z z (lN (vs := [(.slice pa1_0 pn1_0 pc1_0)]) agg_31 size_31 z z (notNew (atp (nmN _)) (Nat.lt_of_lt_of_le h24.lt h27.size)) (h231.row 0 1 z)) <| dR z z (mv z) <| PR_br ?_ ?_
  ·have h234 := ((p1_0.ext h23).ext h27).ext s229
   have h236 := lt_ (lt_ h23.size h27.size) s229.size
   obtain ⟨r238, e239, hm240⟩ := bdS hu226
   refine dE z z (fc Tryz.call36 z (W_impl_RootOf (B := B) e239 (lt_ hBw h236) h234)) (.inr fun _ _ h => chgB (h.1)) ?_
   rintro _ w241 ⟨s242, rfl, h243⟩
   refine PR_br ?_ ?_
   ·obtain ⟨r255, r256, r257, e258, hm259⟩ := bd3S hm240
    refine dE z z (fc Tryz.call57 z (W_impl_ReadValue (B := B) e258 (lt_ hBw (lt_ h236 s242.size)) ((((hG.ext h23).ext h27).ext s229).ext s242) (h234.ext s242) h243 ((((p2_0.ext h23).ext h27).ext s229).ext s242) (ii z))) (.inr fun _ _ h => chgB (h.1)) ?_
    rintro _ w260 ⟨s261, a263, n264, c265, S267, a268, n269, c270, S272, rfl, h262, h266, h271, h273, h274, h275, h276⟩
    refine dR z z (mv z) ?_
    iterate 3 refine dR z z (ext_ z z) ?_
    refine dE z z (fa zero_61) (.inr fun _ _ h => chgB (h.2.below)) ?_
    rintro _ w277 ⟨rfl, h278⟩
    have h279 := h278.below
    have h280 : Blk w277 w260.heap.size [(vI 0), (.slice none 0 0), (.slice none 0 0)] := h278.blk
    have h284 := lt_ s229.size s242.size
    have h286 := mem1le (lt_ h284 s261.size)
    refine dE0 z (fs (cur' := [(vI r255.number), (.slice a263 n264 c265), (.slice a268 n269 c270)]) size_61 z z h280 z (lb z) (oneAll z) z) (.inr fun _ _ h => chgNew (atp h286) h.2) ?_
    rintro _ w281 ⟨h282, s283⟩
    have h287 := s283.one
    refine dR z z (asg z) <| dR z z (asg z) <| PR_done ?_
    have h289 := mnr (ownS.lt h266)
    have h293 := mnr (ownS.lt h271)
    exact fun _ q => ⟨r255.number, r255.bytes, r255.items, r256, r257, som hm259, a263, n264, c265, S267, a268, n269, c270, S272, w260.heap.size, (q.weaken (s5 z z z z z)), (bM (bup (bup (bup s229 s242) s261) h279) h287 h286), h262, ((h266.ext h279).chg h287 (dj_symm h289)), (nd_left h275), (o0le (all_left h276) h284), ((h271.ext h279).chg h287 (dj_symm h293)), (nd_right h275), (o0le (all_right h276) h284), (dj_symm (nd_dj h275)), h273, h274, h282, (atp h286), (dj_symm h289), (dj_symm h293)⟩
   refine dE z z (fa zero_61) (.inr fun _ _ h => chgB (h.2.below)) ?_
   rintro _ w300 ⟨rfl, h301⟩
   have h302 := h301.below
   have h303 : Blk w300 w241.heap.size [(vI 0), (.slice none 0 0), (.slice none 0 0)] := h301.blk
   obtain ⟨r319, r320, r321, e322, hm323⟩ := bd3S hm240
   refine dE z z (fc Tryz.call57 z (W_impl_ReadValue (B := B) e322 (lt_ hBw (lt_ (lt_ h236 s242.size) h302.size)) (((((hG.ext h23).ext h27).ext s229).ext s242).ext h302) ((h234.ext s242).ext h302) h243 (((((p2_0.ext h23).ext h27).ext s229).ext s242).ext h302) (ii z))) (.inr fun _ _ h => chgB (h.1)) ?_
   rintro _ w324 ⟨s325, a327, n328, c329, S331, a332, n333, c334, S336, rfl, h326, h330, h335, h337, h338, h339, h340⟩
   refine dR z z (mv z) ?_
   iterate 3 refine dR z z (ext_ z z) ?_
   have h345 := lt_ s229.size s242.size
   have h346 := mem1le h345
   refine dE0 z (fs (cur' := [(vI r319.number), (.slice a327 n328 c329), (.slice a332 n333 c334)]) size_61 z z (h303.ext s325) z (lb z) (oneAll z) z) (.inr fun _ _ h => chgNew (atp h346) h.2) ?_
   rintro _ w342 ⟨h343, s344⟩
   have h347 := s344.one
   refine dR z z (asg z) <| dR z z (asg z) <| PR_done ?_
   have h348 := o0n1 (all_left h340) h303.lt (Nat.le_refl _)
   have h350 := lt_ h345 h302.size
   have h352 := o0n1 (all_right h340) h303.lt (Nat.le_refl _)
   exact fun _ q => ⟨r319.number, r319.bytes, r319.items, r320, r321, som hm323, a327, n328, c329, S331, a332, n333, c334, S336, w241.heap.size, (q.weaken (s5 z z z z z)), (bM (bup (bup (bup s229 s242) h302) s325) h347 h346), h326, (h330.chg h347 h348), (nd_left h339), (o0le (all_left h340) h350), (h335.chg h347 h352), (nd_right h339), (o0le (all_right h340) h350), (dj_symm (nd_dj h339)), h337, h338, h343, (atp h346), h348, h352⟩
  refine dE z z (fa zero_61) (.inr fun _ _ h => chgB (h.2.below)) ?_
  rintro _ w359 ⟨rfl, h360⟩
  have h361 := h360.below
  have h362 : Blk w359 w228.heap.size [(vI 0), (.slice none 0 0), (.slice none 0 0)] := h360.blk
  have h366 := (((p1_0.ext h23).ext h27).ext s229).ext h361
  have h369 := lt_ (lt_ (lt_ h23.size h27.size) s229.size) h361.size
  obtain ⟨r371, e372, hm373⟩ := bdS hu226
  refine dE z z (fc Tryz.call36 z (W_impl_RootOf (B := B) e372 (lt_ hBw h369) h366)) (.inr fun _ _ h => chgB (h.1)) ?_
  rintro _ w374 ⟨s375, rfl, h376⟩
  obtain ⟨r390, r391, r392, e393, hm394⟩ := bd3S hm373
  refine dE z z (fc Tryz.call57 z (W_impl_ReadValue (B := B) e393 (lt_ hBw (lt_ h369 s375.size)) (((((hG.ext h23).ext h27).ext s229).ext h361).ext s375) (h366.ext s375) h376 (((((p2_0.ext h23).ext h27).ext s229).ext h361).ext s375) (ii z))) (.inr fun _ _ h => chgB (h.1)) ?_
  rintro _ w395 ⟨s396, a398, n399, c400, S402, a403, n404, c405, S407, rfl, h397, h401, h406, h408, h409, h410, h411⟩
  refine dR z z (mv z) ?_
  iterate 3 refine dR z z (ext_ z z) ?_
  have h417 := mem1le s229.size
  refine dE0 z (fs (cur' := [(vI r390.number), (.slice a398 n399 c400), (.slice a403 n404 c405)]) size_61 z z ((h362.ext s375).ext s396) z (lb z) (oneAll z) z) (.inr fun _ _ h => chgNew (atp h417) h.2) ?_
  rintro _ w414 ⟨h415, s416⟩
  have h418 := s416.one
  refine dR z z (asg z) <| dR z z (asg z) <| PR_done ?_
  have h419 := o0n1 (all_left h411) h362.lt s375.size
  have h422 := lt_ (lt_ s229.size h361.size) s375.size
  have h424 := o0n1 (all_right h411) h362.lt s375.size
  exact fun _ q => ⟨r390.number, r390.bytes, r390.items, r391, r392, som hm394, a398, n399, c400, S402, a403, n404, c405, S407, w228.heap.size, (q.weaken (s5 z z z z z)), (bM (bup (bup (bup s229 h361) s375) s396) h418 h417), h397, (h401.chg h418 h419), (nd_left h410), (o0le (all_left h411) h422), (h406.chg h418 h424), (nd_right h410), (o0le (all_right h411) h422), (dj_symm (nd_dj h410)), h408, h409, h415, (atp h417), h419, h424⟩
 rintro a431 w432 ⟨x197, x199, x207, x218, x220, rfl, a200, n201, c202, S204, a208, n209, c210, S212, g215, hS433, s434, h198, h203, h205, h206, h211, h213, h214, h222, h219, h221, h216, h217, h223, h224⟩
 have hm435 := un5S hm227
 revert a431
 refine Wo <| Wq <| Wq ?_
 obtain ⟨u443, hu444, hm445⟩ := bdS hm435
 refine WC_cut (fun a w => ∃ (x442 : Bool), x442 = u443 ∧ Sat 32 [(4, (.pointer (some ⟨w21.heap.size, 0, none⟩))), (7, (.pointer (some ⟨g215, 0, none⟩))), (8, (vI x218)), (9, (vI x220)), (26, (vB x442))] a ∧ Below w432.heap.size w432 w) ?_ ?_
 ·refine Wg <| Rm z <| R z (eql z z) <| Rm z ?_
  rcases bsplit (x220 == 0) with hc446 | hc446
  ·exact Rh z hc446 (mv z) <| Rh z hc446 (mv z) <| Rh z hc446 (lnR und_25 z (((p2_0.ext h23).ext h27).ext s434)) <| Rh z hc446 (lss z z) <| R z (pT z hc446 z) <| Wl <| fun _ q => ⟨decide (x218 < (x2.length : Int)), som (ifT hu444 hc446), (q.weaken (s5 z z z z z)), (br w432)⟩
  iterate 4 refine Nh z hc446 ?_
  exact R z (pF z hc446 z) <| Wl <| fun _ q => ⟨false, som (ifF hu444 hc446), (q.weaken (s5 z z z z z)), (br w432)⟩
 rintro a452 w453 ⟨x442, rfl, hS454, s455⟩
 revert a452
 refine Wo <| Wc z (fun hc471 => ?_) (fun hc471 => ?_)
 ·refine Ws <| R z (bP (parts := []) (cs := [(vI 0), (.slice none 0 0), (.slice none 0 0)]) build_61 z z) <| Rm z <| E0 (fs (cur' := [(vI 0), (.slice none 0 0), (.slice none 0 0)]) size_61 z z ((h28.ext s434).ext s455) z (lb z) (oneAll z) z) ?_
  rintro _ w475 ⟨h476, s477⟩
  refine Ra z <| Ra z <| Wn ?_
  obtain rfl := som (ifT hm445 hc471)
  exact Wr (ret3 hr (resC agg_61 size_61 z h476 z) z z ⟨(bM (bup (bup (bup h23 h27) s434) s455) s477.one (mem1le h23.size)), none, 0, 0, [], none, 0, 0, [], z, (ii z), onL, onL, h219, (ii z), nd0, al0⟩)
 refine Wk <| Ws <| R z (lN (vs := [(vI x197), (.slice a200 n201 c202), (.slice a208 n209 c210)]) agg_61 size_61 z z fid ((h216.ext s455).row 0 3 z)) <| Rm z <| Rm z <| E0 (fs (cur' := [(vI x197), (.slice a200 n201 c202), (.slice a208 n209 c210)]) size_61 z z ((h28.ext s434).ext s455) z (lb z) (oneAll z) z) ?_
 rintro _ w488 ⟨h489, s490⟩
 have h491 := s490.one
 refine Ra z <| Ra z <| Wn ?_
 obtain rfl := som (ifF hm445 hc471)
 have h503 := lt_ h23.size h27.size
 exact Wr (ret3 hr (resC agg_61 size_61 z h489 z) z z ⟨(bM (bup (bup (bup h23 h27) s434) s455) h491 (mem1le h23.size)), a200, n201, c202, S204, a208, n209, c210, S212, z, h198, ((h203.ext s455).chg h491 (o0n1 h206 h28.lt (Nat.le_refl _))), ((h211.ext s455).chg h491 (o0n1 h214 h28.lt (Nat.le_refl _))), h219, h221, (nd_app h205 h213 (dj_symm h222)), (all_app (o0le h206 h503) (o0le h214 h503))⟩)
def Q_impl_checker_skip (w0 : World) (B : Nat) (r : Spot) (v : Value) (w' : World) : Prop := Below w0.heap.size w0 w' ∧ (fun r1 => (.agg #[vI r1.at_, vI r1.code]) = v ∧ inI r1.at_ ∧ inI r1.code) r
theorem W_impl_checker_skip {x1 : Checker} {b1 o1 : Nat} {x2 : Int} {x3 : Int} {res : Spot} (hm : M_impl_checker_skip x1 x2 x3 = some res) (hBw : B ≤ w0.heap.size) (p1_0 : repS w0 B (.slice pa1_0 pn1_0 pc1_0) x1.d.rules) (p1_1 : repS w0 B (.slice pa1_1 pn1_1 pc1_1) x1.b) (p1_2 : inI x1.applied) (hC1 : CellsAt w0 b1 o1 [(.slice pa1_0 pn1_0 pc1_0), (.slice pa1_1 pn1_1 pc1_1), (vI x1.applied)]) (hC1b : b1 < B) (p2_0 : inI x2) (p3_0 : inI x3) : CallsR Tryz.prog 125 [(.pointer (some ⟨b1, o1, none⟩)), (vI x2), (vI x3)] w0 (Q_impl_checker_skip w0 B res) := by
 unfold M_impl_checker_skip at hm
 obtain ⟨fn, hf, hb, hN, hr⟩ := fnE Tryz.func125
 refine goW hf (hb.trans z) (hN.trans z) (lb z) <| Ws <| E z (fa zero_134) ?_
 rintro _ w21 ⟨rfl, h22⟩
 have h23 := h22.below
 have h24 : Blk w21 w0.heap.size [(vI 0), (vI 0)] := h22.blk
 refine Wn <| Wq <| Ws <| Rm z <| Rm z <| R z (rd_nil z) <| R z (fd fld_132_1 z) <| R z (l1 agg_25 z fid ((hC1.ext h23).at (j := 1) z)) <| R z (lnR und_25 z (p1_1.ext h23)) <| Rm z <| R z (rd_sub z z) <| R z (rd_gtr z z) <| Wn <| Wc z (fun hc36 => ?_) (fun hc36 => ?_)
 ·refine Ws <| Rm z <| R z (bP (parts := [(0, (.tmp 16)), (1, (.const (.int .i64 1)))]) (cs := [(vI x2), (vI 1)]) build_134 z z) <| E0 (fs (cur' := [(vI x2), (vI 1)]) size_134 z z h24 z (lb z) (oneAll z) z) ?_
  rintro _ w38 ⟨h39, s40⟩
  refine Wn ?_
  obtain rfl := som (ifT hm hc36)
  exact Wr (ret1 hr (resC agg_134 size_134 z h39 z) ⟨(bM h23 s40.one (mem1 lr)), z, p2_0, (ii z)⟩)
 refine Wk <| Ws <| Rm z <| Rm z <| R z (add_ z z) <| R z (bP (parts := [(0, (.tmp 20)), (1, (.const (.int .i64 0)))]) (cs := [(vI (iadd x2 x3)), (vI 0)]) build_134 z z) <| E0 (fs (cur' := [(vI (iadd x2 x3)), (vI 0)]) size_134 z z h24 z (lb z) (oneAll z) z) ?_
 rintro _ w44 ⟨h45, s46⟩
 refine Wn ?_
 obtain rfl := som (ifF hm hc36)
 exact Wr (ret1 hr (resC agg_134 size_134 z h45 z) ⟨(bM h23 s46.one (mem1 lr)), z, (iA _ _), (ii z)⟩)
def Q_impl_checker_number (w0 : World) (g1 : Nat) (B : Nat) (pa1_0 : Option Addr) (pn1_0 pc1_0 : Nat) (pa1_1 : Option Addr) (pn1_1 pc1_1 : Nat) (x1 : Checker) (r : Int × Spot × Int) (v : Value) (w' : World) : Prop := Chg (· ∈ [g1]) w0 w' ∧ un3 (fun r1 r2 r3 => v = .tuple #[(vI r1), (.agg #[vI r2.at_, vI r2.code])] ∧ inI r1 ∧ inI r2.at_ ∧ inI r2.code ∧ inI r3 ∧ Blk w' g1 [(.slice pa1_0 pn1_0 pc1_0), (.slice pa1_1 pn1_1 pc1_1), vI r3]) r
theorem W_impl_checker_number {x1 : Checker} {g1 : Nat} {x2 : Int} {x3 : Int} {res : Int × Spot × Int} (hm : M_impl_checker_number x1 x2 x3 = some res) (hB1 : Blk w0 g1 [(.slice pa1_0 pn1_0 pc1_0), (.slice pa1_1 pn1_1 pc1_1), (vI x1.applied)]) (hBw : B ≤ g1) (p1_0 : repS w0 B (.slice pa1_0 pn1_0 pc1_0) x1.d.rules) (p1_1 : repS w0 B (.slice pa1_1 pn1_1 pc1_1) x1.b) (p1_2 : inI x1.applied) (p2_0 : inI x2) (p3_0 : inI x3) : CallsR Tryz.prog 123 [(.pointer (some ⟨g1, 0, none⟩)), (vI x2), (vI x3)] w0 (Q_impl_checker_number w0 g1 B pa1_0 pn1_0 pc1_0 pa1_1 pn1_1 pc1_1 x1 res) := by
 unfold M_impl_checker_number at hm
 obtain ⟨fn, hf, hb, hN, hr⟩ := fnE Tryz.func123
 refine goW hf (hb.trans z) (hN.trans z) (lb z) <| Ws <| Ra z <| E z (fa zero_134) ?_
 rintro _ w21 ⟨rfl, h22⟩
 have h23 := h22.below
 have h24 : Blk w21 w0.heap.size [(vI 0), (vI 0)] := h22.blk
 refine Wn <| Ws <| Rm z <| R z (rd_nil z) <| R z (fd fld_132_2 z) ?_
 have h25 := hB1.ext h23
 refine R z (l1 agg_3 z fid (h25.at z)) <| R z (add_ z z) <| R z (rd_nil z) <| R z (fd fld_132_2 z) <| E0 (fs (cur' := [(.slice pa1_0 pn1_0 pc1_0), (.slice pa1_1 pn1_1 pc1_1), (vI (iadd x1.applied 1))]) size_3 z z h25 z (lb z) (oneAll z) z) ?_
 rintro _ w26 ⟨h27, s28⟩
 have h29 := s28.one
 refine Wn <| Ws <| Rm z <| R z (rd_nil z) <| R z (fd fld_132_0 z) <| R z (fd fld_31_0 z) <| R z (l1 agg_29 z fid (h27.at z)) <| Rm z ?_
 obtain ⟨x30, e31, hm32⟩ := bdS hm
 have h34 := (p1_0.ext h23).chg h29 (ltge (mem1 hBw))
 refine RX z (at_ (α := Rule) und_29 size_82 z z z h34 e31) ?_
 rintro _ ⟨b35, o36, cs37, rfl, h38, h39, h40⟩
 obtain ⟨a44, n45, c46, a48, n49, c50, a52, n53, c54, a56, n57, c58, rfl, h41, h42, h43, h47, h51, h55, h59⟩ := Rule_open h39
 refine R z (lN (vs := [(Str.v x30.name), (vI x30.kind), (vI x30.size), (vB x30.little), (.slice a44 n45 c46), (.slice a48 n49 c50), (.slice a52 n53 c54), (.slice a56 n57 c58)]) agg_82 size_82 z z fid h38) <| E z (fa zero_82) ?_
 rintro _ w60 ⟨rfl, h61⟩
 have h62 := h61.below
 have h63 : Blk w60 w26.heap.size [(Str.v (⟨[]⟩ : Str)), (vI 0), (vI 0), (vB false), (.slice none 0 0), (.slice none 0 0), (.slice none 0 0), (.slice none 0 0)] := h61.blk
 refine E0 (fs (cur' := [(Str.v x30.name), (vI x30.kind), (vI x30.size), (vB x30.little), (.slice a44 n45 c46), (.slice a48 n49 c50), (.slice a52 n53 c54), (.slice a56 n57 c58)]) size_82 z z h63 z (lb z) (oneAll z) z) ?_
 rintro _ w64 ⟨h65, s66⟩
 have h67 := s66.one
 refine Wn <| Ws <| Rm z <| Rm z <| R z (fd fld_82_2 z) <| R z (l1 agg_3 z fid (h65.at z)) ?_
 have h69 := lt_ h23.size h29.size
 have h71 := (h27.ext h62).chg h67 (djs (mm1 (Blk.lt hB1) h69))
 have h74 := mem1le (lt_ (lt_ hBw (Nat.le_of_lt (Blk.lt hB1))) h69)
 have h79 := (((p1_1.ext h23).chg h29 (ltge (mem1 hBw))).ext h62).chg h67 (ltge h74)
 have h81 := lt_ (lt_ h69 h62.size) h67.size
 obtain ⟨r82, e83, hm84⟩ := bdS hm32
 refine E z (fc Tryz.call125 z (W_impl_checker_skip (B := w0.heap.size) e83 h81 (repS.mono ((h34.ext h62).chg h67 (ltge h74)) (lt_ hBw (Nat.le_of_lt (Blk.lt hB1)))) (repS.mono h79 (lt_ hBw (Nat.le_of_lt (Blk.lt hB1)))) (iA _ _) (h71.row 0 3 z) (Blk.lt hB1) p3_0 h43)) ?_
 rintro _ w85 ⟨s86, rfl, h87, h88⟩
 refine E z (fa zero_134) ?_
 rintro _ w89 ⟨rfl, h90⟩
 have h91 := h90.below
 have h92 : Blk w89 w85.heap.size [(vI 0), (vI 0)] := h90.blk
 refine E0 (fs (cur' := [(vI r82.at_), (vI r82.code)]) size_134 z z h92 z (lb z) (oneAll z) z) ?_
 rintro _ w93 ⟨h94, s95⟩
 have h96 := s95.one
 refine Wn <| Wq <| Ws <| R z (fd fld_134_1 z) <| R z (l1 agg_3 z fid (h94.at z)) <| R z (rd_neq z z) <| Wn <| Wc z (fun hc140 => ?_) (fun hc140 => ?_)
 ·refine Wq <| WC_draw (X := noX) 4 (.rd 0 (.rd 1 (.ef 2 .done))) mo (by kernel_rfl) fun w142 s143 _ => dR z z (lN (vs := [(vI r82.at_), (vI r82.code)]) agg_134 size_134 z z fid ((h94.ext s143).row 0 2 z)) <| dR z z (asg z) ?_
  have h145 := mmr (Blk.lt hB1)
  have h156 := (((((h24.chg h29 (atp h145)).ext h62).chg h67 (djs (mm1 h24.lt h29.size))).ext s86).ext h91).chg h96 (djs (mm1 h24.lt (lt_ (lt_ (lt_ h29.size h62.size) h67.size) s86.size)))
  refine dE0 z (fs (cur' := [(vI r82.at_), (vI r82.code)]) size_134 z z (h156.ext s143) z (lb z) (oneAll z) z) (.inl z) ?_
  rintro _ w158 ⟨h159, s160⟩
  have h161 := s160.one
  refine PR_done <| Wo ?_
  obtain rfl := som (ifT hm84 hc140)
  have h162 : Chg (· ∈ [g1]) w0 w21 := cext (cr [g1] w0) h23
  have h163 : Chg (· ∈ [g1]) w0 w26 := cM h162 h29 (inor sr)
  have h164 : Chg (· ∈ [g1]) w0 w60 := cext h163 h62
  have h165 : ∀ k ∈ [w26.heap.size], k ∈ [g1] ∨ w0.heap.size ≤ k := mor h69
  have h166 : Chg (· ∈ [g1]) w0 w64 := cM h164 h67 h165
  have h167 : Chg (· ∈ [g1]) w0 w85 := cext h166 s86
  have h168 : Chg (· ∈ [g1]) w0 w89 := cext h167 h91
  have h169 := lt_ h81 s86.size
  have h170 : ∀ k ∈ [w85.heap.size], k ∈ [g1] ∨ w0.heap.size ≤ k := mor h169
  have h171 : Chg (· ∈ [g1]) w0 w93 := cM h168 h96 h170
  have h172 : Chg (· ∈ [g1]) w0 w142 := cext h171 s143
  have h173 : ∀ k ∈ [w0.heap.size], k ∈ [g1] ∨ w0.heap.size ≤ k := mor (Nat.le_refl _)
  have h174 : Chg (· ∈ [g1]) w0 w158 := cM h172 h161 h173
  exact Wr (ret2 hr z (resC agg_134 size_134 z h159 z) ⟨h174, z, (ii z), h87, h88, (iA _ _), (((((h71.ext s86).ext h91).chg h96 (djs (mm1 (Blk.lt hB1) h169))).ext s143).chg h161 (djs h145))⟩)
 refine Wk <| Wq <| WC_draw (X := noX) 8192 (.rd 0 (.rd 1 (.rd 2 (.rd 3 (.rd 4 (.rd 5 (.rd 6 (.rd 7 (.rd 8 (.rd 9 (.rd 11 (.ef 10 (.rd 12 (.ef 13 .done)))))))))))))) mo (by kernel_rfl) fun w182 s183 _ => dR z z (mv z) <| dR z z (rd_nil z) <| dR z z (fd fld_132_1 z) ?_
 have h186 := lt_ h81 s86.size
 have h189 := (((h71.ext s86).ext h91).chg h96 (djs (mm1 (Blk.lt hB1) h186))).ext s183
 refine dR z z (l1 agg_25 z fid (h189.at z)) <| dR z z (mv z) <| dR z z (fd fld_134_0 z) ?_
 have h190 := h94.ext s183
 refine dR z z (l1 agg_3 z fid (h190.at z)) ?_
 obtain ⟨x191, e192, hm193⟩ := bdS (ifF hm84 hc140)
 refine dRX z z (rd_sliceX und_25 size_5 z z ((((h79.ext s86).ext h91).chg h96 (ltge (mem1le (lt_ (lt_ hBw (Nat.le_of_lt (Blk.lt hB1))) h186)))).ext s183) z z e192) ?_
 rintro _ ⟨a200, n201, c202, rfl, h203⟩
 refine dR z z (fd fld_82_3 z) <| dR z z (l1 agg_4 z fid (((((h65.ext s86).ext h91).chg h96 (djs (mm1 h63.lt (lt_ h67.size s86.size)))).ext s183).at z)) <| dR z z (lN (vs := [(vI r82.at_), (vI r82.code)]) agg_134 size_134 z z fid (h190.row 0 2 z)) ?_
 obtain ⟨r214, e215, hm216⟩ := bdS hm193
 refine dE z z (fc Tryz.call141 z (W_impl_ReadInteger (B := B) e215 (lt_ (lt_ hBw (Nat.le_of_lt (Blk.lt hB1))) (lt_ (lt_ (lt_ h186 h91.size) h96.size) s183.size)) h203)) (.inr fun _ _ h => chgB (h.1)) ?_
 rintro _ w217 ⟨s218, rfl, h219⟩
 refine dR z z (asg z) ?_
 have h220 := mmr (Blk.lt hB1)
 have h231 := (((((h24.chg h29 (atp h220)).ext h62).chg h67 (djs (mm1 h24.lt h29.size))).ext s86).ext h91).chg h96 (djs (mm1 h24.lt (lt_ (lt_ (lt_ h29.size h62.size) h67.size) s86.size)))
 refine dE0 z (fs (cur' := [(vI r82.at_), (vI r82.code)]) size_134 z z ((h231.ext s183).ext s218) z (lb z) (oneAll z) z) (.inl z) ?_
 rintro _ w234 ⟨h235, s236⟩
 have h237 := s236.one
 refine PR_done <| Wo ?_
 obtain rfl := som hm216
 have h238 : Chg (· ∈ [g1]) w0 w21 := cext (cr [g1] w0) h23
 have h239 : Chg (· ∈ [g1]) w0 w26 := cM h238 h29 (inor sr)
 have h240 : Chg (· ∈ [g1]) w0 w60 := cext h239 h62
 have h241 : ∀ k ∈ [w26.heap.size], k ∈ [g1] ∨ w0.heap.size ≤ k := mor h69
 have h242 : Chg (· ∈ [g1]) w0 w64 := cM h240 h67 h241
 have h243 : Chg (· ∈ [g1]) w0 w85 := cext h242 s86
 have h244 : Chg (· ∈ [g1]) w0 w89 := cext h243 h91
 have h245 : ∀ k ∈ [w85.heap.size], k ∈ [g1] ∨ w0.heap.size ≤ k := mor h186
 have h246 : Chg (· ∈ [g1]) w0 w93 := cM h244 h96 h245
 have h247 : Chg (· ∈ [g1]) w0 w182 := cext h246 s183
 have h248 : Chg (· ∈ [g1]) w0 w217 := cext h247 s218
 have h249 : ∀ k ∈ [w0.heap.size], k ∈ [g1] ∨ w0.heap.size ≤ k := mor (Nat.le_refl _)
 have h250 : Chg (· ∈ [g1]) w0 w234 := cM h248 h237 h249
 exact Wr (ret2 hr z (resC agg_134 size_134 z h235 z) ⟨h250, z, h219, h87, h88, (iA _ _), ((h189.ext s218).chg h237 (djs h220))⟩)
def Q_impl_checker_constant (w0 : World) (B : Nat) (r : Spot) (v : Value) (w' : World) : Prop := Below w0.heap.size w0 w' ∧ (fun r1 => (.agg #[vI r1.at_, vI r1.code]) = v ∧ inI r1.at_ ∧ inI r1.code) r
theorem W_impl_checker_constant {x1 : Checker} {b1 o1 : Nat} {x2 : Rule} {x3 : Int} {res : Spot} (hm : M_impl_checker_constant x1 x2 x3 = some res) (hBw : B ≤ w0.heap.size) (p1_0 : repS w0 B (.slice pa1_0 pn1_0 pc1_0) x1.d.rules) (p1_1 : repS w0 B (.slice pa1_1 pn1_1 pc1_1) x1.b) (p1_2 : inI x1.applied) (hC1 : CellsAt w0 b1 o1 [(.slice pa1_0 pn1_0 pc1_0), (.slice pa1_1 pn1_1 pc1_1), (vI x1.applied)]) (hC1b : b1 < B) (p2_0 : x2.name.b.length ≤ LEN) (p2_1 : inI x2.kind) (p2_2 : inI x2.size) (p2_4 : repS w0 B (.slice pa2_4 pn2_4 pc2_4) x2.bytes) (p2_5 : repS w0 B (.slice pa2_5 pn2_5 pc2_5) x2.names) (p2_6 : repS w0 B (.slice pa2_6 pn2_6 pc2_6) x2.tags) (p2_7 : repS w0 B (.slice pa2_7 pn2_7 pc2_7) x2.kids) (p3_0 : inI x3) : CallsR Tryz.prog 124 [(.pointer (some ⟨b1, o1, none⟩)), (.agg #[(Str.v x2.name), (vI x2.kind), (vI x2.size), (vB x2.little), (.slice pa2_4 pn2_4 pc2_4), (.slice pa2_5 pn2_5 pc2_5), (.slice pa2_6 pn2_6 pc2_6), (.slice pa2_7 pn2_7 pc2_7)]), (vI x3)] w0 (Q_impl_checker_constant w0 B res) := by
 unfold M_impl_checker_constant at hm
 obtain ⟨fn, hf, hb, hN, hr⟩ := fnE Tryz.func124
 refine goW hf (hb.trans z) (hN.trans z) (lb z) <| Ws <| E z (fb z) ?_
 rintro _ w21 ⟨rfl, h22⟩
 have h23 := h22.below
 have h24 : Blk w21 w0.heap.size [(Str.v x2.name), (vI x2.kind), (vI x2.size), (vB x2.little), (.slice pa2_4 pn2_4 pc2_4), (.slice pa2_5 pn2_5 pc2_5), (.slice pa2_6 pn2_6 pc2_6), (.slice pa2_7 pn2_7 pc2_7)] := h22.blk
 refine E z (fa zero_134) ?_
 rintro _ w25 ⟨rfl, h26⟩
 have h27 := h26.below
 have h28 : Blk w25 w21.heap.size [(vI 0), (vI 0)] := h26.blk
 refine Wn <| Wq <| Ws <| R z (fd fld_82_4 z) ?_
 have h29 := h24.ext h27
 refine R z (l1 agg_25 z fid (h29.at z)) ?_
 have h31 := (p2_4.ext h23).ext h27
 refine R z (lnR und_25 z h31) <| Rm z <| Wn ?_
 obtain ⟨u85, hu86, hm87⟩ := bdS hm
 refine WC_forN (σ := Unit) (ρ := Spot) (fun (k88 : Nat) (_ : Unit) a w => Sat 50 [(0, (.pointer (some ⟨b1, o1, none⟩))), (2, (vI x3)), (4, (.pointer (some ⟨w0.heap.size, 0, none⟩))), (6, (.pointer (some ⟨w21.heap.size, 0, none⟩))), (10, (.slice pa2_4 pn2_4 pc2_4)), (11, (vI (x2.bytes.length : Int))), (12, (vI ((k88 : Nat) : Int)))] a ∧ Below w25.heap.size w25 w) (fun (_ : Unit) a w => Sat 50 [(2, (vI x3)), (4, (.pointer (some ⟨w0.heap.size, 0, none⟩))), (6, (.pointer (some ⟨w21.heap.size, 0, none⟩)))] a ∧ Below w25.heap.size w25 w) (fun r ex a w => ex = .ret ∧ RetPost Tryz.prog fn (Q_impl_checker_constant w0 B r) a w) hu86 ?_ ?_ ?_ ?_ ?_
 ·exact fun _ q => ⟨(q.weaken (s7 z z z z z z z)), (br w25)⟩
 ·rintro k88 _ a89 w90 o91 hk92 ⟨hS93, s94⟩ hm95
  refine Wu (e := [(0, (.pointer (some ⟨b1, o1, none⟩))), (2, (vI x3)), (4, (.pointer (some ⟨w0.heap.size, 0, none⟩))), (6, (.pointer (some ⟨w21.heap.size, 0, none⟩))), (10, (.slice pa2_4 pn2_4 pc2_4)), (11, (vI (x2.bytes.length : Int))), (12, (vI ((k88 : Nat) : Int)))]) (N := 50) ?_ hS93
  refine Ws <| R z (lss z z) <| Wn <| Wq <| Wc z (fun _ => ?_) (fun hc => (nolt hk92 hc).elim)
  refine Wk <| Wq <| WC_block <| Ws <| Rm z ?_
  obtain ⟨x149, e150, hm151⟩ := bdS hm95
  refine RX z (at_ (α := UInt8) und_25 size_5 z z z (h31.ext s94) e150) ?_
  rintro _ ⟨b153, o154, cs155, rfl, h156, h157, h158⟩
  obtain rfl := UInt8_open h157
  refine R z (l1 agg_5 z fid (h156.at0 z)) <| Ra z <| Ra z <| Wn <| Wq <| Ws <| Rm z <| Rm z <| R z (add_ z z) <| Rm z <| R z (rd_nil z) <| R z (fd fld_132_1 z) ?_
  have h161 := ((hC1.ext h23).ext h27).ext s94
  refine R z (l1 agg_25 z fid (h161.at (j := 1) z)) ?_
  have h164 := ((p1_1.ext h23).ext h27).ext s94
  refine R z (lnR und_25 z h164) <| R z (eql z z) <| Wn <| Wc z (fun hc178 => ?_) (fun hc178 => ?_)
  ·refine Ws <| Rm z <| R z (bP (parts := [(0, (.tmp 26)), (1, (.const (.int .i64 1)))]) (cs := [(vI x3), (vI 1)]) build_134 z z) <| E0 (fs (cur' := [(vI x3), (vI 1)]) size_134 z z (h28.ext s94) z (lb z) (oneAll z) z) ?_
   rintro _ w181 ⟨h182, s183⟩
   exact Wn <| Wr (rtO (QO_retL (som (ifT hm151 hc178)).symm (ret1 hr (resC agg_134 size_134 z h182 z) ⟨(bM (bup (bup h23 h27) s94) s183.one (mem1le h23.size)), z, p3_0, (ii z)⟩)))
  refine Wk <| Ws <| Rm z <| R z (rd_nil z) <| R z (fd fld_132_1 z) <| R z (l1 agg_25 z fid (h161.at (j := 1) z)) <| Rm z <| Rm z <| R z (add_ z z) ?_
  obtain ⟨x190, e191, hm192⟩ := bdS (ifF hm151 hc178)
  refine RX z (at_ (α := UInt8) und_25 size_5 z z z h164 e191) ?_
  rintro _ ⟨b193, o194, cs195, rfl, h196, h197, h198⟩
  obtain rfl := UInt8_open h197
  refine R z (l1 agg_5 z fid (h196.at0 z)) <| Rm z <| R z (rd_neq z z) <| Wn <| Wc z (fun hc212 => ?_) (fun hc212 => ?_)
  ·refine Ws <| Rm z <| Rm z <| R z (add_ z z) <| R z (bP (parts := [(0, (.tmp 41)), (1, (.const (.int .i64 2)))]) (cs := [(vI (iadd x3 ((k88 : Nat) : Int))), (vI 2)]) build_134 z z) <| E0 (fs (cur' := [(vI (iadd x3 ((k88 : Nat) : Int))), (vI 2)]) size_134 z z (h28.ext s94) z (lb z) (oneAll z) z) ?_
   rintro _ w215 ⟨h216, s217⟩
   exact Wn <| Wr (rtO (QO_retL (som (ifT hm192 hc212)).symm (ret1 hr (resC agg_134 size_134 z h216 z) ⟨(bM (bup (bup h23 h27) s94) s217.one (mem1le h23.size)), z, (iA _ _), (ii z)⟩)))
  exact Wk <| Wg <| R z (inc_ hk92 (lt_ (repS.len p2_4) LEN_le) z z) <| Rm z <| Wl <| fun _ q => ⟨(), (som (ifF hm192 hc212)).symm, ⟨(q.weaken (s7 z z z z z z z)), s94⟩⟩
 ·rintro _ a224 w225 ⟨hS226, s227⟩
  refine Wu (e := [(0, (.pointer (some ⟨b1, o1, none⟩))), (2, (vI x3)), (4, (.pointer (some ⟨w0.heap.size, 0, none⟩))), (6, (.pointer (some ⟨w21.heap.size, 0, none⟩))), (10, (.slice pa2_4 pn2_4 pc2_4)), (11, (vI (x2.bytes.length : Int))), (12, (vI ((x2.bytes.length : Nat) : Int)))]) (N := 50) ?_ hS226
  refine Ws <| R z (lss z z) <| Wn <| Wq <| Wc z (fun hc => (noltt hc).elim) (fun _ => ?_)
  exact WC_exit (fun a' ha' => ⟨rfl, ⟨(Sat.weaken ha' (s3 z z z)), s227⟩⟩)
 ·rintro _ a228 w229 rfl ⟨hS230, s231⟩
  have hm232 := elL hm87
  revert a228
  refine Wo <| Ws <| Rm z <| R z (fd fld_82_4 z) <| R z (l1 agg_25 z fid ((h29.ext s231).at z)) <| R z (lnR und_25 z (h31.ext s231)) <| R z (add_ z z) <| R z (bP (parts := [(0, (.tmp 48)), (1, (.const (.int .i64 0)))]) (cs := [(vI (iadd x3 (x2.bytes.length : Int))), (vI 0)]) build_134 z z) <| E0 (fs (cur' := [(vI (iadd x3 (x2.bytes.length : Int))), (vI 0)]) size_134 z z (h28.ext s231) z (lb z) (oneAll z) z) ?_
  rintro _ w236 ⟨h237, s238⟩
  refine Wn ?_
  obtain rfl := som hm232
  exact Wr (ret1 hr (resC agg_134 size_134 z h237 z) ⟨(bM (bup (bup h23 h27) s231) s238.one (mem1le h23.size)), z, (iA _ _), (ii z)⟩)
 rintro r244 ex245 a246 w247 rfl ⟨rfl, hq248⟩
 have hm249 := elR hm87
 obtain rfl := som hm249
 exact ⟨hq248, z⟩
def Q_impl_checker_value (w0 : World) (g1 : Nat) (B : Nat) (pa1_0 : Option Addr) (pn1_0 pc1_0 : Nat) (pa1_1 : Option Addr) (pn1_1 pc1_1 : Nat) (x1 : Checker) (r : Spot × Int) (v : Value) (w' : World) : Prop := Chg (· ∈ [g1]) w0 w' ∧ un2 (fun r1 r2 => (.agg #[vI r1.at_, vI r1.code]) = v ∧ inI r1.at_ ∧ inI r1.code ∧ inI r2 ∧ Blk w' g1 [(.slice pa1_0 pn1_0 pc1_0), (.slice pa1_1 pn1_1 pc1_1), vI r2]) r
def Q_impl_checker_array (w0 : World) (g1 : Nat) (B : Nat) (pa1_0 : Option Addr) (pn1_0 pc1_0 : Nat) (pa1_1 : Option Addr) (pn1_1 pc1_1 : Nat) (x1 : Checker) (r : Spot × Int) (v : Value) (w' : World) : Prop := Chg (· ∈ [g1]) w0 w' ∧ un2 (fun r1 r2 => (.agg #[vI r1.at_, vI r1.code]) = v ∧ inI r1.at_ ∧ inI r1.code ∧ inI r2 ∧ Blk w' g1 [(.slice pa1_0 pn1_0 pc1_0), (.slice pa1_1 pn1_1 pc1_1), vI r2]) r
def Q_impl_checker_choice (w0 : World) (g1 : Nat) (B : Nat) (pa1_0 : Option Addr) (pn1_0 pc1_0 : Nat) (pa1_1 : Option Addr) (pn1_1 pc1_1 : Nat) (x1 : Checker) (r : Spot × Int) (v : Value) (w' : World) : Prop := Chg (· ∈ [g1]) w0 w' ∧ un2 (fun r1 r2 => (.agg #[vI r1.at_, vI r1.code]) = v ∧ inI r1.at_ ∧ inI r1.code ∧ inI r2 ∧ Blk w' g1 [(.slice pa1_0 pn1_0 pc1_0), (.slice pa1_1 pn1_1 pc1_1), vI r2]) r
def Q_impl_checker_option (w0 : World) (g1 : Nat) (B : Nat) (pa1_0 : Option Addr) (pn1_0 pc1_0 : Nat) (pa1_1 : Option Addr) (pn1_1 pc1_1 : Nat) (x1 : Checker) (r : Spot × Int) (v : Value) (w' : World) : Prop := Chg (· ∈ [g1]) w0 w' ∧ un2 (fun r1 r2 => (.agg #[vI r1.at_, vI r1.code]) = v ∧ inI r1.at_ ∧ inI r1.code ∧ inI r2 ∧ Blk w' g1 [(.slice pa1_0 pn1_0 pc1_0), (.slice pa1_1 pn1_1 pc1_1), vI r2]) r
def Q_impl_checker_checked (w0 : World) (g1 : Nat) (B : Nat) (pa1_0 : Option Addr) (pn1_0 pc1_0 : Nat) (pa1_1 : Option Addr) (pn1_1 pc1_1 : Nat) (x1 : Checker) (r : Spot × Int) (v : Value) (w' : World) : Prop := Chg (· ∈ [g1]) w0 w' ∧ un2 (fun r1 r2 => (.agg #[vI r1.at_, vI r1.code]) = v ∧ inI r1.at_ ∧ inI r1.code ∧ inI r2 ∧ Blk w' g1 [(.slice pa1_0 pn1_0 pc1_0), (.slice pa1_1 pn1_1 pc1_1), vI r2]) r
structure S_impl_checker_value (n : Nat) : Prop where
  run : ∀ {B : Nat} {x1 : Checker} {pa1_0 : Option Addr} {pn1_0 pc1_0 : Nat} {pa1_1 : Option Addr} {pn1_1 pc1_1 : Nat} {g1 : Nat} {x2 : Int} {x3 : Int} {res : Spot × Int} {w0 : World} (hm : (F_impl_checker_value n).impl_checker_value x1 x2 x3 = some res) (hB1 : Blk w0 g1 [(.slice pa1_0 pn1_0 pc1_0), (.slice pa1_1 pn1_1 pc1_1), (vI x1.applied)]) (hBw : B ≤ g1) (p1_0 : repS w0 B (.slice pa1_0 pn1_0 pc1_0) x1.d.rules) (p1_1 : repS w0 B (.slice pa1_1 pn1_1 pc1_1) x1.b) (p1_2 : inI x1.applied) (p2_0 : inI x2) (p3_0 : inI x3), CallsR Tryz.prog 93 [(.pointer (some ⟨g1, 0, none⟩)), (vI x2), (vI x3)] w0 (Q_impl_checker_value w0 g1 B pa1_0 pn1_0 pc1_0 pa1_1 pn1_1 pc1_1 x1 res)
structure S_impl_checker_array (n : Nat) : Prop where
  run : ∀ {B : Nat} {x1 : Checker} {pa1_0 : Option Addr} {pn1_0 pc1_0 : Nat} {pa1_1 : Option Addr} {pn1_1 pc1_1 : Nat} {g1 : Nat} {x2 : Rule} {pa2_4 : Option Addr} {pn2_4 pc2_4 : Nat} {pa2_5 : Option Addr} {pn2_5 pc2_5 : Nat} {pa2_6 : Option Addr} {pn2_6 pc2_6 : Nat} {pa2_7 : Option Addr} {pn2_7 pc2_7 : Nat} {x3 : Int} {res : Spot × Int} {w0 : World} (hm : (F_impl_checker_value n).impl_checker_array x1 x2 x3 = some res) (hB1 : Blk w0 g1 [(.slice pa1_0 pn1_0 pc1_0), (.slice pa1_1 pn1_1 pc1_1), (vI x1.applied)]) (hBw : B ≤ g1) (p1_0 : repS w0 B (.slice pa1_0 pn1_0 pc1_0) x1.d.rules) (p1_1 : repS w0 B (.slice pa1_1 pn1_1 pc1_1) x1.b) (p1_2 : inI x1.applied) (p2_0 : x2.name.b.length ≤ LEN) (p2_1 : inI x2.kind) (p2_2 : inI x2.size) (p2_4 : repS w0 B (.slice pa2_4 pn2_4 pc2_4) x2.bytes) (p2_5 : repS w0 B (.slice pa2_5 pn2_5 pc2_5) x2.names) (p2_6 : repS w0 B (.slice pa2_6 pn2_6 pc2_6) x2.tags) (p2_7 : repS w0 B (.slice pa2_7 pn2_7 pc2_7) x2.kids) (p3_0 : inI x3), CallsR Tryz.prog 126 [(.pointer (some ⟨g1, 0, none⟩)), (.agg #[(Str.v x2.name), (vI x2.kind), (vI x2.size), (vB x2.little), (.slice pa2_4 pn2_4 pc2_4), (.slice pa2_5 pn2_5 pc2_5), (.slice pa2_6 pn2_6 pc2_6), (.slice pa2_7 pn2_7 pc2_7)]), (vI x3)] w0 (Q_impl_checker_array w0 g1 B pa1_0 pn1_0 pc1_0 pa1_1 pn1_1 pc1_1 x1 res)
structure S_impl_checker_choice (n : Nat) : Prop where
  run : ∀ {B : Nat} {x1 : Checker} {pa1_0 : Option Addr} {pn1_0 pc1_0 : Nat} {pa1_1 : Option Addr} {pn1_1 pc1_1 : Nat} {g1 : Nat} {x2 : Rule} {pa2_4 : Option Addr} {pn2_4 pc2_4 : Nat} {pa2_5 : Option Addr} {pn2_5 pc2_5 : Nat} {pa2_6 : Option Addr} {pn2_6 pc2_6 : Nat} {pa2_7 : Option Addr} {pn2_7 pc2_7 : Nat} {x3 : Int} {res : Spot × Int} {w0 : World} (hm : (F_impl_checker_value n).impl_checker_choice x1 x2 x3 = some res) (hB1 : Blk w0 g1 [(.slice pa1_0 pn1_0 pc1_0), (.slice pa1_1 pn1_1 pc1_1), (vI x1.applied)]) (hBw : B ≤ g1) (p1_0 : repS w0 B (.slice pa1_0 pn1_0 pc1_0) x1.d.rules) (p1_1 : repS w0 B (.slice pa1_1 pn1_1 pc1_1) x1.b) (p1_2 : inI x1.applied) (p2_0 : x2.name.b.length ≤ LEN) (p2_1 : inI x2.kind) (p2_2 : inI x2.size) (p2_4 : repS w0 B (.slice pa2_4 pn2_4 pc2_4) x2.bytes) (p2_5 : repS w0 B (.slice pa2_5 pn2_5 pc2_5) x2.names) (p2_6 : repS w0 B (.slice pa2_6 pn2_6 pc2_6) x2.tags) (p2_7 : repS w0 B (.slice pa2_7 pn2_7 pc2_7) x2.kids) (p3_0 : inI x3), CallsR Tryz.prog 127 [(.pointer (some ⟨g1, 0, none⟩)), (.agg #[(Str.v x2.name), (vI x2.kind), (vI x2.size), (vB x2.little), (.slice pa2_4 pn2_4 pc2_4), (.slice pa2_5 pn2_5 pc2_5), (.slice pa2_6 pn2_6 pc2_6), (.slice pa2_7 pn2_7 pc2_7)]), (vI x3)] w0 (Q_impl_checker_choice w0 g1 B pa1_0 pn1_0 pc1_0 pa1_1 pn1_1 pc1_1 x1 res)
structure S_impl_checker_option (n : Nat) : Prop where
  run : ∀ {B : Nat} {x1 : Checker} {pa1_0 : Option Addr} {pn1_0 pc1_0 : Nat} {pa1_1 : Option Addr} {pn1_1 pc1_1 : Nat} {g1 : Nat} {x2 : Rule} {pa2_4 : Option Addr} {pn2_4 pc2_4 : Nat} {pa2_5 : Option Addr} {pn2_5 pc2_5 : Nat} {pa2_6 : Option Addr} {pn2_6 pc2_6 : Nat} {pa2_7 : Option Addr} {pn2_7 pc2_7 : Nat} {x3 : Int} {res : Spot × Int} {w0 : World} (hm : (F_impl_checker_value n).impl_checker_option x1 x2 x3 = some res) (hB1 : Blk w0 g1 [(.slice pa1_0 pn1_0 pc1_0), (.slice pa1_1 pn1_1 pc1_1), (vI x1.applied)]) (hBw : B ≤ g1) (p1_0 : repS w0 B (.slice pa1_0 pn1_0 pc1_0) x1.d.rules) (p1_1 : repS w0 B (.slice pa1_1 pn1_1 pc1_1) x1.b) (p1_2 : inI x1.applied) (p2_0 : x2.name.b.length ≤ LEN) (p2_1 : inI x2.kind) (p2_2 : inI x2.size) (p2_4 : repS w0 B (.slice pa2_4 pn2_4 pc2_4) x2.bytes) (p2_5 : repS w0 B (.slice pa2_5 pn2_5 pc2_5) x2.names) (p2_6 : repS w0 B (.slice pa2_6 pn2_6 pc2_6) x2.tags) (p2_7 : repS w0 B (.slice pa2_7 pn2_7 pc2_7) x2.kids) (p3_0 : inI x3), CallsR Tryz.prog 128 [(.pointer (some ⟨g1, 0, none⟩)), (.agg #[(Str.v x2.name), (vI x2.kind), (vI x2.size), (vB x2.little), (.slice pa2_4 pn2_4 pc2_4), (.slice pa2_5 pn2_5 pc2_5), (.slice pa2_6 pn2_6 pc2_6), (.slice pa2_7 pn2_7 pc2_7)]), (vI x3)] w0 (Q_impl_checker_option w0 g1 B pa1_0 pn1_0 pc1_0 pa1_1 pn1_1 pc1_1 x1 res)
structure S_impl_checker_checked (n : Nat) : Prop where
  run : ∀ {B : Nat} {x1 : Checker} {pa1_0 : Option Addr} {pn1_0 pc1_0 : Nat} {pa1_1 : Option Addr} {pn1_1 pc1_1 : Nat} {g1 : Nat} {x2 : Rule} {pa2_4 : Option Addr} {pn2_4 pc2_4 : Nat} {pa2_5 : Option Addr} {pn2_5 pc2_5 : Nat} {pa2_6 : Option Addr} {pn2_6 pc2_6 : Nat} {pa2_7 : Option Addr} {pn2_7 pc2_7 : Nat} {x3 : Int} {res : Spot × Int} {w0 : World} (hm : (F_impl_checker_value n).impl_checker_checked x1 x2 x3 = some res) (hB1 : Blk w0 g1 [(.slice pa1_0 pn1_0 pc1_0), (.slice pa1_1 pn1_1 pc1_1), (vI x1.applied)]) (hBw : B ≤ g1) (p1_0 : repS w0 B (.slice pa1_0 pn1_0 pc1_0) x1.d.rules) (p1_1 : repS w0 B (.slice pa1_1 pn1_1 pc1_1) x1.b) (p1_2 : inI x1.applied) (p2_0 : x2.name.b.length ≤ LEN) (p2_1 : inI x2.kind) (p2_2 : inI x2.size) (p2_4 : repS w0 B (.slice pa2_4 pn2_4 pc2_4) x2.bytes) (p2_5 : repS w0 B (.slice pa2_5 pn2_5 pc2_5) x2.names) (p2_6 : repS w0 B (.slice pa2_6 pn2_6 pc2_6) x2.tags) (p2_7 : repS w0 B (.slice pa2_7 pn2_7 pc2_7) x2.kids) (p3_0 : inI x3), CallsR Tryz.prog 129 [(.pointer (some ⟨g1, 0, none⟩)), (.agg #[(Str.v x2.name), (vI x2.kind), (vI x2.size), (vB x2.little), (.slice pa2_4 pn2_4 pc2_4), (.slice pa2_5 pn2_5 pc2_5), (.slice pa2_6 pn2_6 pc2_6), (.slice pa2_7 pn2_7 pc2_7)]), (vI x3)] w0 (Q_impl_checker_checked w0 g1 B pa1_0 pn1_0 pc1_0 pa1_1 pn1_1 pc1_1 x1 res)
theorem T_impl_checker_value (ih_impl_checker_value : S_impl_checker_value n) (ih_impl_checker_array : S_impl_checker_array n) (ih_impl_checker_choice : S_impl_checker_choice n) (ih_impl_checker_option : S_impl_checker_option n) (ih_impl_checker_checked : S_impl_checker_checked n) {x1 : Checker} {g1 : Nat} {x2 : Int} {x3 : Int} {res : Spot × Int} (hm : B_impl_checker_value n (F_impl_checker_value n) x1 x2 x3 = some res) (hB1 : Blk w0 g1 [(.slice pa1_0 pn1_0 pc1_0), (.slice pa1_1 pn1_1 pc1_1), (vI x1.applied)]) (hBw : B ≤ g1) (p1_0 : repS w0 B (.slice pa1_0 pn1_0 pc1_0) x1.d.rules) (p1_1 : repS w0 B (.slice pa1_1 pn1_1 pc1_1) x1.b) (p1_2 : inI x1.applied) (p2_0 : inI x2) (p3_0 : inI x3) : CallsR Tryz.prog 93 [(.pointer (some ⟨g1, 0, none⟩)), (vI x2), (vI x3)] w0 (Q_impl_checker_value w0 g1 B pa1_0 pn1_0 pc1_0 pa1_1 pn1_1 pc1_1 x1 res) := by
 unfold B_impl_checker_value at hm
 obtain ⟨fn, hf, hb, hN, hr⟩ := fnE Tryz.func93
 refine goW hf (hb.trans z) (hN.trans z) (lb z) <| Ws <| E z (fa zero_134) ?_
 rintro _ w21 ⟨rfl, h22⟩
 have h23 := h22.below
 have h24 : Blk w21 w0.heap.size [(vI 0), (vI 0)] := h22.blk
 refine Wn <| Ws <| Rm z <| R z (rd_nil z) <| R z (fd fld_132_0 z) <| R z (fd fld_31_0 z) ?_
 have h25 := hB1.ext h23
 refine R z (l1 agg_29 z fid (h25.at z)) <| Rm z ?_
 obtain ⟨x26, e27, hm28⟩ := bdS hm
 have h29 := p1_0.ext h23
 refine RX z (at_ (α := Rule) und_29 size_82 z z z h29 e27) ?_
 rintro _ ⟨b30, o31, cs32, rfl, h33, h34, h35⟩
 obtain ⟨a39, n40, c41, a43, n44, c45, a47, n48, c49, a51, n52, c53, rfl, h36, h37, h38, h42, h46, h50, h54⟩ := Rule_open h34
 refine R z (lN (vs := [(Str.v x26.name), (vI x26.kind), (vI x26.size), (vB x26.little), (.slice a39 n40 c41), (.slice a43 n44 c45), (.slice a47 n48 c49), (.slice a51 n52 c53)]) agg_82 size_82 z z fid h33) <| E z (fa zero_82) ?_
 rintro _ w55 ⟨rfl, h56⟩
 have h57 := h56.below
 have h58 : Blk w55 w21.heap.size [(Str.v (⟨[]⟩ : Str)), (vI 0), (vI 0), (vB false), (.slice none 0 0), (.slice none 0 0), (.slice none 0 0), (.slice none 0 0)] := h56.blk
 refine E0 (fs (cur' := [(Str.v x26.name), (vI x26.kind), (vI x26.size), (vB x26.little), (.slice a39 n40 c41), (.slice a43 n44 c45), (.slice a47 n48 c49), (.slice a51 n52 c53)]) size_82 z z h58 z (lb z) (oneAll z) z) ?_
 rintro _ w59 ⟨h60, s61⟩
 have h62 := s61.one
 refine Wn <| Wq <| Ws <| R z (fd fld_82_1 z) <| R z (l1 agg_3 z fid (h60.at z)) <| R z (eql z z) <| Wn <| Wc z (fun hc128 => ?_) (fun hc128 => ?_)
 ·refine Ws <| Rm z <| Rm z <| Rm z ?_
  have h132 := mem1le (lt_ (lt_ hBw (Nat.le_of_lt (Blk.lt hB1))) h23.size)
  obtain ⟨r140, r141, r144, e142, hm143⟩ := bd3S (ifT hm28 hc128)
  refine E z (fc Tryz.call123 z (W_impl_checker_number (B := B) e142 ((h25.ext h57).chg h62 (djs (mm1 (Blk.lt hB1) h23.size))) hBw ((h29.ext h57).chg h62 (ltge h132)) (((p1_1.ext h23).ext h57).chg h62 (ltge h132)) p1_2 p2_0 p3_0)) ?_
  rintro _ w145 ⟨s146, rfl, h147, h148, h149, h150, h151⟩
  refine Rm z <| R z (ext_ z z) <| R z (ext_ z z) <| E z (fa zero_134) ?_
  rintro _ w152 ⟨rfl, h153⟩
  have h154 := h153.below
  have h155 : Blk w152 w145.heap.size [(vI 0), (vI 0)] := h153.blk
  refine Ra z <| E0 (fs (cur' := [(vI r141.at_), (vI r141.code)]) size_134 z z h155 z (lb z) (oneAll z) z) ?_
  rintro _ w156 ⟨h157, s158⟩
  have h159 := s158.one
  refine Wn <| Ws <| R z (lN (vs := [(vI r141.at_), (vI r141.code)]) agg_134 size_134 z z fid (h157.row 0 2 z)) ?_
  have h163 := mmr (Blk.lt hB1)
  have h169 := ((((h24.ext h57).chg h62 (djs (mmr h24.lt))).chg s146 (atp h163)).ext h154).chg h159 (djs (mm1 h24.lt (lt_ (lt_ h57.size h62.size) s146.size)))
  refine E0 (fs (cur' := [(vI r141.at_), (vI r141.code)]) size_134 z z h169 z (lb z) (oneAll z) z) ?_
  rintro _ w170 ⟨h171, s172⟩
  have h173 := s172.one
  refine Wn ?_
  obtain rfl := som hm143
  have h174 : Chg (· ∈ [g1]) w0 w21 := cext (cr [g1] w0) h23
  have h175 : Chg (· ∈ [g1]) w0 w55 := cext h174 h57
  have h176 : ∀ k ∈ [w21.heap.size], k ∈ [g1] ∨ w0.heap.size ≤ k := mor h23.size
  have h177 : Chg (· ∈ [g1]) w0 w59 := cM h175 h62 h176
  have h178 : Chg (· ∈ [g1]) w0 w145 := cM h177 s146 (inor sr)
  have h179 : Chg (· ∈ [g1]) w0 w152 := cext h178 h154
  have h182 := lt_ (lt_ (lt_ h23.size h57.size) h62.size) s146.size
  have h183 : ∀ k ∈ [w145.heap.size], k ∈ [g1] ∨ w0.heap.size ≤ k := mor h182
  have h184 : Chg (· ∈ [g1]) w0 w156 := cM h179 h159 h183
  have h185 : ∀ k ∈ [w0.heap.size], k ∈ [g1] ∨ w0.heap.size ≤ k := mor (Nat.le_refl _)
  have h186 : Chg (· ∈ [g1]) w0 w170 := cM h184 h173 h185
  exact Wr (ret1 hr (resC agg_134 size_134 z h171 z) ⟨h186, z, h148, h149, h150, (((h151.ext h154).chg h159 (djs (mm1 (Blk.lt hB1) h182))).chg h173 (djs h163))⟩)
 have hm191 := ifF hm28 hc128
 refine Wk <| Ws <| Rm z <| R z (rd_nil z) <| R z (fd fld_132_2 z) ?_
 have h193 := mm1 (Blk.lt hB1) h23.size
 have h194 := (h25.ext h57).chg h62 (djs h193)
 refine R z (l1 agg_3 z fid (h194.at z)) <| R z (add_ z z) <| R z (rd_nil z) <| R z (fd fld_132_2 z) <| E0 (fs (cur' := [(.slice pa1_0 pn1_0 pc1_0), (.slice pa1_1 pn1_1 pc1_1), (vI (iadd x1.applied 1))]) size_3 z z h194 z (lb z) (oneAll z) z) ?_
 rintro _ w195 ⟨h196, s197⟩
 have h198 := s197.one
 refine Wn <| Wq <| Ws <| R z (fd fld_82_1 z) ?_
 have h199 := h60.chg h198 (atp h193)
 refine R z (l1 agg_3 z fid (h199.at z)) <| Wn <| WC_block <| Ws <| R z (eql z z) <| Ra z <| Wn <| Wc z (fun hc1501 => ?_) (fun hc1501 => ?_)
 ·refine Ws <| Rm z <| R z (lN (vs := [(Str.v x26.name), (vI x26.kind), (vI x26.size), (vB x26.little), (.slice a39 n40 c41), (.slice a43 n44 c45), (.slice a47 n48 c49), (.slice a51 n52 c53)]) agg_82 size_82 z z fid (h199.row 0 8 z)) <| Rm z ?_
  have h1505 := mem1le (lt_ (lt_ hBw (Nat.le_of_lt (Blk.lt hB1))) h23.size)
  obtain ⟨r1527, e1528, hm1529⟩ := bdS (ifT hm191 hc1501)
  refine E z (fc Tryz.call124 z (W_impl_checker_constant (B := w0.heap.size) e1528 (lt_ (lt_ (lt_ h23.size h57.size) h62.size) h198.size) (repS.mono (((h29.ext h57).chg h62 (ltge h1505)).chg h198 (ltge (mem1 hBw))) (lt_ hBw (Nat.le_of_lt (Blk.lt hB1)))) (repS.mono ((((p1_1.ext h23).ext h57).chg h62 (ltge h1505)).chg h198 (ltge (mem1 hBw))) (lt_ hBw (Nat.le_of_lt (Blk.lt hB1)))) (iA _ _) (h196.row 0 3 z) (Blk.lt hB1) h36 h37 h38 (repS.mono (((h42.ext h57).chg h62 (ltge h1505)).chg h198 (ltge (mem1 hBw))) (lt_ hBw (Nat.le_of_lt (Blk.lt hB1)))) (repS.mono (((h46.ext h57).chg h62 (ltge h1505)).chg h198 (ltge (mem1 hBw))) (lt_ hBw (Nat.le_of_lt (Blk.lt hB1)))) (repS.mono (((h50.ext h57).chg h62 (ltge h1505)).chg h198 (ltge (mem1 hBw))) (lt_ hBw (Nat.le_of_lt (Blk.lt hB1)))) (repS.mono (((h54.ext h57).chg h62 (ltge h1505)).chg h198 (ltge (mem1 hBw))) (lt_ hBw (Nat.le_of_lt (Blk.lt hB1)))) p3_0)) ?_
  rintro _ w1530 ⟨s1531, rfl, h1532, h1533⟩
  have h1537 := mmr (Blk.lt hB1)
  refine E0 (fs (cur' := [(vI r1527.at_), (vI r1527.code)]) size_134 z z ((((h24.ext h57).chg h62 (djs (mmr h24.lt))).chg h198 (atp h1537)).ext s1531) z (lb z) (oneAll z) z) ?_
  rintro _ w1540 ⟨h1541, s1542⟩
  have h1543 := s1542.one
  refine Wn ?_
  obtain rfl := som hm1529
  have h1544 : Chg (· ∈ [g1]) w0 w21 := cext (cr [g1] w0) h23
  have h1545 : Chg (· ∈ [g1]) w0 w55 := cext h1544 h57
  have h1546 : ∀ k ∈ [w21.heap.size], k ∈ [g1] ∨ w0.heap.size ≤ k := mor h23.size
  have h1547 : Chg (· ∈ [g1]) w0 w59 := cM h1545 h62 h1546
  have h1548 : Chg (· ∈ [g1]) w0 w195 := cM h1547 h198 (inor sr)
  have h1549 : Chg (· ∈ [g1]) w0 w1530 := cext h1548 s1531
  have h1550 : ∀ k ∈ [w0.heap.size], k ∈ [g1] ∨ w0.heap.size ≤ k := mor (Nat.le_refl _)
  have h1551 : Chg (· ∈ [g1]) w0 w1540 := cM h1549 h1543 h1550
  exact Wr (rtO (ret1 hr (resC agg_134 size_134 z h1541 z) ⟨h1551, z, h1532, h1533, (iA _ _), ((h196.ext s1531).chg h1543 (djs h1537))⟩))
 have hm1554 := ifF hm191 hc1501
 refine Ws <| R z (eql z z) <| Ra z <| Wn <| Wc z (fun hc2138 => ?_) (fun hc2138 => ?_)
 ·refine Ws <| Rm z <| Rm z <| R z (fd fld_82_2 z) <| R z (l1 agg_3 z fid (h199.at z)) ?_
  have h2142 := mem1le (lt_ (lt_ hBw (Nat.le_of_lt (Blk.lt hB1))) h23.size)
  obtain ⟨r2152, e2153, hm2154⟩ := bdS (ifT hm1554 hc2138)
  refine E z (fc Tryz.call125 z (W_impl_checker_skip (B := w0.heap.size) e2153 (lt_ (lt_ (lt_ h23.size h57.size) h62.size) h198.size) (repS.mono (((h29.ext h57).chg h62 (ltge h2142)).chg h198 (ltge (mem1 hBw))) (lt_ hBw (Nat.le_of_lt (Blk.lt hB1)))) (repS.mono ((((p1_1.ext h23).ext h57).chg h62 (ltge h2142)).chg h198 (ltge (mem1 hBw))) (lt_ hBw (Nat.le_of_lt (Blk.lt hB1)))) (iA _ _) (h196.row 0 3 z) (Blk.lt hB1) p3_0 h38)) ?_
  rintro _ w2155 ⟨s2156, rfl, h2157, h2158⟩
  have h2162 := mmr (Blk.lt hB1)
  refine E0 (fs (cur' := [(vI r2152.at_), (vI r2152.code)]) size_134 z z ((((h24.ext h57).chg h62 (djs (mmr h24.lt))).chg h198 (atp h2162)).ext s2156) z (lb z) (oneAll z) z) ?_
  rintro _ w2165 ⟨h2166, s2167⟩
  have h2168 := s2167.one
  refine Wn ?_
  obtain rfl := som hm2154
  have h2169 : Chg (· ∈ [g1]) w0 w21 := cext (cr [g1] w0) h23
  have h2170 : Chg (· ∈ [g1]) w0 w55 := cext h2169 h57
  have h2171 : ∀ k ∈ [w21.heap.size], k ∈ [g1] ∨ w0.heap.size ≤ k := mor h23.size
  have h2172 : Chg (· ∈ [g1]) w0 w59 := cM h2170 h62 h2171
  have h2173 : Chg (· ∈ [g1]) w0 w195 := cM h2172 h198 (inor sr)
  have h2174 : Chg (· ∈ [g1]) w0 w2155 := cext h2173 s2156
  have h2175 : ∀ k ∈ [w0.heap.size], k ∈ [g1] ∨ w0.heap.size ≤ k := mor (Nat.le_refl _)
  have h2176 : Chg (· ∈ [g1]) w0 w2165 := cM h2174 h2168 h2175
  exact Wr (rtO (ret1 hr (resC agg_134 size_134 z h2166 z) ⟨h2176, z, h2157, h2158, (iA _ _), ((h196.ext s2156).chg h2168 (djs h2162))⟩))
 have hm2179 := ifF hm1554 hc2138
 refine Ws <| R z (eql z z) <| Ra z <| Wn <| Wc z (fun hc2713 => ?_) (fun hc2713 => ?_)
 ·refine Ws <| Rm z <| R z (fd fld_82_7 z) <| R z (l1 agg_73 z fid (h199.at z)) ?_
  obtain ⟨x2715, e2716, hm2717⟩ := bdS (ifT hm2179 hc2713)
  have h2720 := mem1le (lt_ (lt_ hBw (Nat.le_of_lt (Blk.lt hB1))) h23.size)
  refine RX z (at_ (α := Int) und_73 size_3 z z z (((h54.ext h57).chg h62 (ltge h2720)).chg h198 (ltge (mem1 hBw))) e2716) ?_
  rintro _ ⟨b2723, o2724, cs2725, rfl, h2726, h2727, h2728⟩
  obtain ⟨rfl, h2729⟩ := Int_open h2727
  refine R z (l1 agg_3 z fid (h2726.at0 z)) <| Rm z ?_
  have h2732 := ((h29.ext h57).chg h62 (ltge h2720)).chg h198 (ltge (mem1 hBw))
  have h2736 := (((p1_1.ext h23).ext h57).chg h62 (ltge h2720)).chg h198 (ltge (mem1 hBw))
  obtain ⟨r2737, r2738, r2741, e2739, hm2740⟩ := bd3S hm2717
  refine E z (fc Tryz.call123 z (W_impl_checker_number (B := B) e2739 h196 hBw h2732 h2736 (iA _ _) h2729 p3_0)) ?_
  rintro _ w2742 ⟨s2743, rfl, h2744, h2745, h2746, h2747, h2748⟩
  refine Rm z <| R z (ext_ z z) <| R z (ext_ z z) <| E z (fa zero_134) ?_
  rintro _ w2749 ⟨rfl, h2750⟩
  have h2751 := h2750.below
  have h2752 : Blk w2749 w2742.heap.size [(vI 0), (vI 0)] := h2750.blk
  refine Ra z <| E0 (fs (cur' := [(vI r2738.at_), (vI r2738.code)]) size_134 z z h2752 z (lb z) (oneAll z) z) ?_
  rintro _ w2753 ⟨h2754, s2755⟩
  have h2756 := s2755.one
  refine Wn <| Wq <| Ws <| R z (fd fld_134_1 z) <| R z (l1 agg_3 z fid (h2754.at z)) <| R z (rd_neq z z) <| Wn <| Wc z (fun hc2796 => ?_) (fun hc2796 => ?_)
  ·refine Ws <| R z (lN (vs := [(vI r2738.at_), (vI r2738.code)]) agg_134 size_134 z z fid (h2754.row 0 2 z)) ?_
   have h2801 := mmr (Blk.lt hB1)
   have h2809 := (((((h24.ext h57).chg h62 (djs (mmr h24.lt))).chg h198 (atp h2801)).chg s2743 (atp h2801)).ext h2751).chg h2756 (djs (mm1 h24.lt (lt_ (lt_ (lt_ h57.size h62.size) h198.size) s2743.size)))
   refine E0 (fs (cur' := [(vI r2738.at_), (vI r2738.code)]) size_134 z z h2809 z (lb z) (oneAll z) z) ?_
   rintro _ w2810 ⟨h2811, s2812⟩
   have h2813 := s2812.one
   refine Wn ?_
   obtain rfl := som (ifT hm2740 hc2796)
   have h2814 : Chg (· ∈ [g1]) w0 w21 := cext (cr [g1] w0) h23
   have h2815 : Chg (· ∈ [g1]) w0 w55 := cext h2814 h57
   have h2816 : ∀ k ∈ [w21.heap.size], k ∈ [g1] ∨ w0.heap.size ≤ k := mor h23.size
   have h2817 : Chg (· ∈ [g1]) w0 w59 := cM h2815 h62 h2816
   have h2818 : Chg (· ∈ [g1]) w0 w195 := cM h2817 h198 (inor sr)
   have h2819 : Chg (· ∈ [g1]) w0 w2742 := cM h2818 s2743 (inor sr)
   have h2820 : Chg (· ∈ [g1]) w0 w2749 := cext h2819 h2751
   have h2824 := lt_ (lt_ (lt_ (lt_ h23.size h57.size) h62.size) h198.size) s2743.size
   have h2825 : ∀ k ∈ [w2742.heap.size], k ∈ [g1] ∨ w0.heap.size ≤ k := mor h2824
   have h2826 : Chg (· ∈ [g1]) w0 w2753 := cM h2820 h2756 h2825
   have h2827 : ∀ k ∈ [w0.heap.size], k ∈ [g1] ∨ w0.heap.size ≤ k := mor (Nat.le_refl _)
   have h2828 : Chg (· ∈ [g1]) w0 w2810 := cM h2826 h2813 h2827
   exact Wr (rtO (ret1 hr (resC agg_134 size_134 z h2811 z) ⟨h2828, z, h2745, h2746, h2747, (((h2748.ext h2751).chg h2756 (djs (mm1 (Blk.lt hB1) h2824))).chg h2813 (djs h2801))⟩))
  refine Wk <| Ws <| Rm z <| R z (fd fld_134_0 z) <| R z (l1 agg_3 z fid (h2754.at z)) <| Rm z ?_
  have h2838 := lt_ (lt_ (lt_ (lt_ h23.size h57.size) h62.size) h198.size) s2743.size
  have h2840 := (h2748.ext h2751).chg h2756 (djs (mm1 (Blk.lt hB1) h2838))
  have h2844 := mem1le (lt_ (lt_ hBw (Nat.le_of_lt (Blk.lt hB1))) h2838)
  obtain ⟨r2851, e2852, hm2853⟩ := bdS (ifF hm2740 hc2796)
  refine E z (fc Tryz.call125 z (W_impl_checker_skip (B := w0.heap.size) e2852 (lt_ (lt_ h2838 h2751.size) h2756.size) (repS.mono (((h2732.chg s2743 (ltge (mem1 hBw))).ext h2751).chg h2756 (ltge h2844)) (lt_ hBw (Nat.le_of_lt (Blk.lt hB1)))) (repS.mono (((h2736.chg s2743 (ltge (mem1 hBw))).ext h2751).chg h2756 (ltge h2844)) (lt_ hBw (Nat.le_of_lt (Blk.lt hB1)))) h2747 (h2840.row 0 3 z) (Blk.lt hB1) h2745 h2744)) ?_
  rintro _ w2854 ⟨s2855, rfl, h2856, h2857⟩
  have h2861 := mmr (Blk.lt hB1)
  have h2869 := (((((h24.ext h57).chg h62 (djs (mmr h24.lt))).chg h198 (atp h2861)).chg s2743 (atp h2861)).ext h2751).chg h2756 (djs (mm1 h24.lt (lt_ (lt_ (lt_ h57.size h62.size) h198.size) s2743.size)))
  refine E0 (fs (cur' := [(vI r2851.at_), (vI r2851.code)]) size_134 z z (h2869.ext s2855) z (lb z) (oneAll z) z) ?_
  rintro _ w2871 ⟨h2872, s2873⟩
  have h2874 := s2873.one
  refine Wn ?_
  obtain rfl := som hm2853
  have h2875 : Chg (· ∈ [g1]) w0 w21 := cext (cr [g1] w0) h23
  have h2876 : Chg (· ∈ [g1]) w0 w55 := cext h2875 h57
  have h2877 : ∀ k ∈ [w21.heap.size], k ∈ [g1] ∨ w0.heap.size ≤ k := mor h23.size
  have h2878 : Chg (· ∈ [g1]) w0 w59 := cM h2876 h62 h2877
  have h2879 : Chg (· ∈ [g1]) w0 w195 := cM h2878 h198 (inor sr)
  have h2880 : Chg (· ∈ [g1]) w0 w2742 := cM h2879 s2743 (inor sr)
  have h2881 : Chg (· ∈ [g1]) w0 w2749 := cext h2880 h2751
  have h2882 : ∀ k ∈ [w2742.heap.size], k ∈ [g1] ∨ w0.heap.size ≤ k := mor h2838
  have h2883 : Chg (· ∈ [g1]) w0 w2753 := cM h2881 h2756 h2882
  have h2884 : Chg (· ∈ [g1]) w0 w2854 := cext h2883 s2855
  have h2885 : ∀ k ∈ [w0.heap.size], k ∈ [g1] ∨ w0.heap.size ≤ k := mor (Nat.le_refl _)
  have h2886 : Chg (· ∈ [g1]) w0 w2871 := cM h2884 h2874 h2885
  exact Wr (rtO (ret1 hr (resC agg_134 size_134 z h2872 z) ⟨h2886, z, h2856, h2857, h2747, ((h2840.ext s2855).chg h2874 (djs h2861))⟩))
 have hm2889 := ifF hm2179 hc2713
 refine Ws <| R z (eql z z) <| Ra z <| Wn <| Wc z (fun hc3277 => ?_) (fun hc3277 => ?_)
 ·refine Ws <| Rm z <| R z (lN (vs := [(Str.v x26.name), (vI x26.kind), (vI x26.size), (vB x26.little), (.slice a39 n40 c41), (.slice a43 n44 c45), (.slice a47 n48 c49), (.slice a51 n52 c53)]) agg_82 size_82 z z fid (h199.row 0 8 z)) <| Rm z ?_
  have h3281 := mem1le (lt_ (lt_ hBw (Nat.le_of_lt (Blk.lt hB1))) h23.size)
  obtain ⟨r3300, r3303, e3301, hm3302⟩ := bd2S (ifT hm2889 hc3277)
  refine E z (fc Tryz.call126 z (ih_impl_checker_array.run (B := B) e3301 h196 hBw (((h29.ext h57).chg h62 (ltge h3281)).chg h198 (ltge (mem1 hBw))) ((((p1_1.ext h23).ext h57).chg h62 (ltge h3281)).chg h198 (ltge (mem1 hBw))) (iA _ _) h36 h37 h38 (((h42.ext h57).chg h62 (ltge h3281)).chg h198 (ltge (mem1 hBw))) (((h46.ext h57).chg h62 (ltge h3281)).chg h198 (ltge (mem1 hBw))) (((h50.ext h57).chg h62 (ltge h3281)).chg h198 (ltge (mem1 hBw))) (((h54.ext h57).chg h62 (ltge h3281)).chg h198 (ltge (mem1 hBw))) p3_0)) ?_
  rintro _ w3304 ⟨s3305, rfl, h3306, h3307, h3308, h3309⟩
  have h3313 := mmr (Blk.lt hB1)
  refine E0 (fs (cur' := [(vI r3300.at_), (vI r3300.code)]) size_134 z z ((((h24.ext h57).chg h62 (djs (mmr h24.lt))).chg h198 (atp h3313)).chg s3305 (atp h3313)) z (lb z) (oneAll z) z) ?_
  rintro _ w3316 ⟨h3317, s3318⟩
  have h3319 := s3318.one
  refine Wn ?_
  obtain rfl := som hm3302
  have h3320 : Chg (· ∈ [g1]) w0 w21 := cext (cr [g1] w0) h23
  have h3321 : Chg (· ∈ [g1]) w0 w55 := cext h3320 h57
  have h3322 : ∀ k ∈ [w21.heap.size], k ∈ [g1] ∨ w0.heap.size ≤ k := mor h23.size
  have h3323 : Chg (· ∈ [g1]) w0 w59 := cM h3321 h62 h3322
  have h3324 : Chg (· ∈ [g1]) w0 w195 := cM h3323 h198 (inor sr)
  have h3325 : Chg (· ∈ [g1]) w0 w3304 := cM h3324 s3305 (inor sr)
  have h3326 : ∀ k ∈ [w0.heap.size], k ∈ [g1] ∨ w0.heap.size ≤ k := mor (Nat.le_refl _)
  have h3327 : Chg (· ∈ [g1]) w0 w3316 := cM h3325 h3319 h3326
  exact Wr (rtO (ret1 hr (resC agg_134 size_134 z h3317 z) ⟨h3327, z, h3306, h3307, h3308, (h3309.chg h3319 (djs h3313))⟩))
 have hm3329 := ifF hm2889 hc3277
 refine Ws <| R z (eql z z) <| Ra z <| Wn <| Wc z (fun hc3659 => ?_) (fun hc3659 => ?_)
 ·refine Ws <| Rm z <| R z (bP (parts := [(0, (.tmp 88)), (1, (.const (.int .i64 0)))]) (cs := [(vI x3), (vI 0)]) build_134 z z) <| E z (fa zero_134) ?_
  rintro _ w3661 ⟨rfl, h3662⟩
  have h3663 := h3662.below
  have h3664 : Blk w3661 w195.heap.size [(vI 0), (vI 0)] := h3662.blk
  refine E0 (fs (cur' := [(vI x3), (vI 0)]) size_134 z z h3664 z (lb z) (oneAll z) z) ?_
  rintro _ w3665 ⟨h3666, s3667⟩
  have h3668 := s3667.one
  refine Wn <| Wq <| Ws <| R z (fd fld_82_7 z) <| R z (l1 agg_73 z fid (((h199.ext h3663).chg h3668 (djs (mm1 h58.lt (lt_ h62.size h198.size)))).at z)) ?_
  have h3675 := mem1le (lt_ (lt_ hBw (Nat.le_of_lt (Blk.lt hB1))) h23.size)
  have h3681 := lt_ (lt_ (lt_ h23.size h57.size) h62.size) h198.size
  have h3683 := mem1le (lt_ (lt_ hBw (Nat.le_of_lt (Blk.lt hB1))) h3681)
  have h3684 := ((((h54.ext h57).chg h62 (ltge h3675)).chg h198 (ltge (mem1 hBw))).ext h3663).chg h3668 (ltge h3683)
  refine R z (lnR und_73 z h3684) <| Rm z <| Wn ?_
  obtain ⟨u3791, hu3792, hm3793⟩ := bdS (ifT hm3329 hc3659)
  refine WC_forN (σ := Int × Int × Int) (ρ := Spot × Int) (fun (k3794 : Nat) s a w => un3 (fun x3783 x3786 x3788 => Sat 145 [(0, (.pointer (some ⟨g1, 0, none⟩))), (6, (.pointer (some ⟨w0.heap.size, 0, none⟩))), (12, (.pointer (some ⟨w195.heap.size, 0, none⟩))), (91, (.slice a51 n52 c53)), (92, (vI (x26.kids.length : Int))), (93, (vI ((k3794 : Nat) : Int)))] a ∧ Chg (· ∈ ([g1] ++ [w195.heap.size])) w3665 w ∧ inI x3783 ∧ inI x3786 ∧ inI x3788 ∧ Blk w g1 [(.slice pa1_0 pn1_0 pc1_0), (.slice pa1_1 pn1_1 pc1_1), (vI x3783)] ∧ Blk w w195.heap.size [(vI x3786), (vI x3788)]) s) (fun s a w => un3 (fun x3783 x3786 x3788 => Sat 145 [(6, (.pointer (some ⟨w0.heap.size, 0, none⟩))), (12, (.pointer (some ⟨w195.heap.size, 0, none⟩)))] a ∧ Chg (· ∈ ([g1] ++ [w195.heap.size])) w3665 w ∧ inI x3783 ∧ inI x3786 ∧ inI x3788 ∧ Blk w g1 [(.slice pa1_0 pn1_0 pc1_0), (.slice pa1_1 pn1_1 pc1_1), (vI x3783)] ∧ Blk w w195.heap.size [(vI x3786), (vI x3788)]) s) (fun r ex a w => ex = .ret ∧ RetPost Tryz.prog fn (Q_impl_checker_value w0 g1 B pa1_0 pn1_0 pc1_0 pa1_1 pn1_1 pc1_1 x1 r) a w) hu3792 ?_ ?_ ?_ ?_ ?_
  ·exact fun _ q => ⟨(q.weaken (s6 z z z z z z)), (cr ([g1] ++ [w195.heap.size]) w3665), (iA _ _), p3_0, (ii z), ((h196.ext h3663).chg h3668 (djs (mm1 (Blk.lt hB1) h3681))), h3666⟩
  ·rintro k3794 ⟨x3783, x3786, x3788⟩ a3798 w3799 o3800 hk3801 ⟨hS3802, s3803, h3784, h3787, h3789, h3785, h3790⟩ hm3804
   have hm3805 := un3S hm3804
   refine Wu (e := [(0, (.pointer (some ⟨g1, 0, none⟩))), (6, (.pointer (some ⟨w0.heap.size, 0, none⟩))), (12, (.pointer (some ⟨w195.heap.size, 0, none⟩))), (91, (.slice a51 n52 c53)), (92, (vI (x26.kids.length : Int))), (93, (vI ((k3794 : Nat) : Int)))]) (N := 145) ?_ hS3802
   refine Ws <| R z (lss z z) <| Wn <| Wq <| Wc z (fun _ => ?_) (fun hc => (nolt hk3801 hc).elim)
   refine Wk <| Wq <| WC_block <| Ws ?_
   obtain ⟨x3855, e3856, hm3857⟩ := bdS hm3805
   refine RX z (at_ (α := Int) und_73 size_3 z z z (h3684.chg s3803 (nmA (ltge (mem1 hBw)) (ltge h3683))) e3856) ?_
   rintro _ ⟨b3859, o3860, cs3861, rfl, h3862, h3863, h3864⟩
   obtain ⟨rfl, h3865⟩ := Int_open h3863
   refine R z (l1 agg_3 z fid (h3862.at0 z)) <| Ra z <| Wn <| Ws <| Rm z <| Rm z <| R z (fd fld_134_0 z) <| R z (l1 agg_3 z fid (h3790.at z)) ?_
   obtain ⟨r3879, r3882, e3880, hm3881⟩ := bd2S hm3857
   refine E z (fc Tryz.call93 z (ih_impl_checker_value.run (B := B) e3880 h3785 hBw ((((((h29.ext h57).chg h62 (ltge h3675)).chg h198 (ltge (mem1 hBw))).ext h3663).chg h3668 (ltge h3683)).chg s3803 (nmA (ltge (mem1 hBw)) (ltge h3683))) (((((((p1_1.ext h23).ext h57).chg h62 (ltge h3675)).chg h198 (ltge (mem1 hBw))).ext h3663).chg h3668 (ltge h3683)).chg s3803 (nmA (ltge (mem1 hBw)) (ltge h3683))) h3784 h3865 h3787)) ?_
   rintro _ w3883 ⟨s3884, rfl, h3885, h3886, h3887, h3888⟩
   have h3889 := mm1 (Blk.lt hB1) h3681
   refine E0 (fs (cur' := [(vI r3879.at_), (vI r3879.code)]) size_134 z z (h3790.chg s3884 (atp h3889)) z (lb z) (oneAll z) z) ?_
   rintro _ w3891 ⟨h3892, s3893⟩
   have h3894 := s3893.one
   refine Wn <| Ws <| R z (fd fld_134_1 z) <| R z (l1 agg_3 z fid (h3892.at z)) <| R z (rd_neq z z) <| Wn <| Wc z (fun hc3903 => ?_) (fun hc3903 => ?_)
   ·have h3906 : Chg (· ∈ ([g1] ++ [w195.heap.size])) w3665 w3799 := cM (cr ([g1] ++ [w195.heap.size]) w3665) s3803 (all_app (inor (sub_l sr)) (inor (sub_r sr)))
    have h3907 : Chg (· ∈ ([g1] ++ [w195.heap.size])) w3665 w3883 := cM h3906 s3884 (inor (sub_l sr))
    have h3908 : Chg (· ∈ ([g1] ++ [w195.heap.size])) w3665 w3891 := cM h3907 h3894 (inor (sub_r sr))
    exact WC_exit (exO z (fun a' ha' => QO_brk (som (ifT hm3881 hc3903)).symm ⟨(Sat.weaken ha' (s2 z z)), h3908, h3887, h3885, h3886, (h3888.chg h3894 (djs h3889)), h3892⟩))
   refine Wk <| Wg <| R z (inc_ hk3801 (lt_ (repS.len h54) LEN_le) z z) <| Rm z <| Wl ?_
   have h3911 : Chg (· ∈ ([g1] ++ [w195.heap.size])) w3665 w3799 := cM (cr ([g1] ++ [w195.heap.size]) w3665) s3803 (all_app (inor (sub_l sr)) (inor (sub_r sr)))
   have h3912 : Chg (· ∈ ([g1] ++ [w195.heap.size])) w3665 w3883 := cM h3911 s3884 (inor (sub_l sr))
   have h3913 : Chg (· ∈ ([g1] ++ [w195.heap.size])) w3665 w3891 := cM h3912 h3894 (inor (sub_r sr))
   exact fun _ q => ⟨(r3882, r3879.at_, r3879.code), (som (ifF hm3881 hc3903)).symm, ⟨(q.weaken (s6 z z z z z z)), h3913, h3887, h3885, h3886, (h3888.chg h3894 (djs h3889)), h3892⟩⟩
  ·rintro ⟨x3783, x3786, x3788⟩ a3914 w3915 ⟨hS3916, s3917, h3784, h3787, h3789, h3785, h3790⟩
   refine Wu (e := [(0, (.pointer (some ⟨g1, 0, none⟩))), (6, (.pointer (some ⟨w0.heap.size, 0, none⟩))), (12, (.pointer (some ⟨w195.heap.size, 0, none⟩))), (91, (.slice a51 n52 c53)), (92, (vI (x26.kids.length : Int))), (93, (vI ((x26.kids.length : Nat) : Int)))]) (N := 145) ?_ hS3916
   refine Ws <| R z (lss z z) <| Wn <| Wq <| Wc z (fun hc => (noltt hc).elim) (fun _ => ?_)
   have h3919 : Chg (· ∈ ([g1] ++ [w195.heap.size])) w3665 w3915 := cM (cr ([g1] ++ [w195.heap.size]) w3665) s3917 (all_app (inor (sub_l sr)) (inor (sub_r sr)))
   exact WC_exit (fun a' ha' => ⟨rfl, ⟨(Sat.weaken ha' (s2 z z)), h3919, h3784, h3787, h3789, h3785, h3790⟩⟩)
  ·rintro ⟨x3783, x3786, x3788⟩ a3920 w3921 rfl ⟨hS3922, s3923, h3784, h3787, h3789, h3785, h3790⟩
   have hm3924 := elL hm3793
   have hm3925 := un3S hm3924
   revert a3920
   refine Wo <| Ws <| R z (lN (vs := [(vI x3786), (vI x3788)]) agg_134 size_134 z z fid (h3790.row 0 2 z)) ?_
   have h3929 := mmr (Blk.lt hB1)
   have h3934 := mm1 h24.lt (lt_ (lt_ h57.size h62.size) h198.size)
   have h3936 := (((((h24.ext h57).chg h62 (djs (mmr h24.lt))).chg h198 (atp h3929)).ext h3663).chg h3668 (djs h3934)).chg s3923 (atp (nmA h3929 (dj_symm h3934)))
   refine E0 (fs (cur' := [(vI x3786), (vI x3788)]) size_134 z z h3936 z (lb z) (oneAll z) z) ?_
   rintro _ w3937 ⟨h3938, s3939⟩
   have h3940 := s3939.one
   refine Wn ?_
   obtain rfl := som hm3925
   have h3941 : Chg (· ∈ [g1]) w0 w21 := cext (cr [g1] w0) h23
   have h3942 : Chg (· ∈ [g1]) w0 w55 := cext h3941 h57
   have h3943 : ∀ k ∈ [w21.heap.size], k ∈ [g1] ∨ w0.heap.size ≤ k := mor h23.size
   have h3944 : Chg (· ∈ [g1]) w0 w59 := cM h3942 h62 h3943
   have h3945 : Chg (· ∈ [g1]) w0 w195 := cM h3944 h198 (inor sr)
   have h3946 : Chg (· ∈ [g1]) w0 w3661 := cext h3945 h3663
   have h3947 : ∀ k ∈ [w195.heap.size], k ∈ [g1] ∨ w0.heap.size ≤ k := mor h3681
   have h3948 : Chg (· ∈ [g1]) w0 w3665 := cM h3946 h3668 h3947
   have h3949 : Chg (· ∈ [g1]) w0 w3921 := cM h3948 s3923 (all_app (inor sr) h3947)
   have h3950 : ∀ k ∈ [w0.heap.size], k ∈ [g1] ∨ w0.heap.size ≤ k := mor (Nat.le_refl _)
   have h3951 : Chg (· ∈ [g1]) w0 w3937 := cM h3949 h3940 h3950
   exact Wr (rtO (ret1 hr (resC agg_134 size_134 z h3938 z) ⟨h3951, z, h3787, h3789, h3784, (h3785.chg h3940 (djs h3929))⟩))
  rintro r3953 ex3954 a3955 w3956 rfl ⟨rfl, hq3957⟩
  have hm3958 := elR hm3793
  obtain rfl := som hm3958
  exact ⟨hq3957, z⟩
 have hm3959 := ifF hm3329 hc3659
 refine Ws <| R z (eql z z) <| Ra z <| Wn <| Wc z (fun hc4125 => ?_) (fun hc4125 => ?_)
 ·refine Ws <| Rm z <| R z (lN (vs := [(Str.v x26.name), (vI x26.kind), (vI x26.size), (vB x26.little), (.slice a39 n40 c41), (.slice a43 n44 c45), (.slice a47 n48 c49), (.slice a51 n52 c53)]) agg_82 size_82 z z fid (h199.row 0 8 z)) <| Rm z ?_
  have h4129 := mem1le (lt_ (lt_ hBw (Nat.le_of_lt (Blk.lt hB1))) h23.size)
  obtain ⟨r4148, r4151, e4149, hm4150⟩ := bd2S (ifT hm3959 hc4125)
  refine E z (fc Tryz.call127 z (ih_impl_checker_choice.run (B := B) e4149 h196 hBw (((h29.ext h57).chg h62 (ltge h4129)).chg h198 (ltge (mem1 hBw))) ((((p1_1.ext h23).ext h57).chg h62 (ltge h4129)).chg h198 (ltge (mem1 hBw))) (iA _ _) h36 h37 h38 (((h42.ext h57).chg h62 (ltge h4129)).chg h198 (ltge (mem1 hBw))) (((h46.ext h57).chg h62 (ltge h4129)).chg h198 (ltge (mem1 hBw))) (((h50.ext h57).chg h62 (ltge h4129)).chg h198 (ltge (mem1 hBw))) (((h54.ext h57).chg h62 (ltge h4129)).chg h198 (ltge (mem1 hBw))) p3_0)) ?_
  rintro _ w4152 ⟨s4153, rfl, h4154, h4155, h4156, h4157⟩
  have h4161 := mmr (Blk.lt hB1)
  refine E0 (fs (cur' := [(vI r4148.at_), (vI r4148.code)]) size_134 z z ((((h24.ext h57).chg h62 (djs (mmr h24.lt))).chg h198 (atp h4161)).chg s4153 (atp h4161)) z (lb z) (oneAll z) z) ?_
  rintro _ w4164 ⟨h4165, s4166⟩
  have h4167 := s4166.one
  refine Wn ?_
  obtain rfl := som hm4150
  have h4168 : Chg (· ∈ [g1]) w0 w21 := cext (cr [g1] w0) h23
  have h4169 : Chg (· ∈ [g1]) w0 w55 := cext h4168 h57
  have h4170 : ∀ k ∈ [w21.heap.size], k ∈ [g1] ∨ w0.heap.size ≤ k := mor h23.size
  have h4171 : Chg (· ∈ [g1]) w0 w59 := cM h4169 h62 h4170
  have h4172 : Chg (· ∈ [g1]) w0 w195 := cM h4171 h198 (inor sr)
  have h4173 : Chg (· ∈ [g1]) w0 w4152 := cM h4172 s4153 (inor sr)
  have h4174 : ∀ k ∈ [w0.heap.size], k ∈ [g1] ∨ w0.heap.size ≤ k := mor (Nat.le_refl _)
  have h4175 : Chg (· ∈ [g1]) w0 w4164 := cM h4173 h4167 h4174
  exact Wr (rtO (ret1 hr (resC agg_134 size_134 z h4165 z) ⟨h4175, z, h4154, h4155, h4156, (h4157.chg h4167 (djs h4161))⟩))
 have hm4177 := ifF hm3959 hc4125
 refine Ws <| R z (eql z z) <| Ra z <| Wn <| Wc z (fun hc4287 => ?_) (fun hc4287 => ?_)
 ·refine Ws <| Rm z <| R z (lN (vs := [(Str.v x26.name), (vI x26.kind), (vI x26.size), (vB x26.little), (.slice a39 n40 c41), (.slice a43 n44 c45), (.slice a47 n48 c49), (.slice a51 n52 c53)]) agg_82 size_82 z z fid (h199.row 0 8 z)) <| Rm z ?_
  have h4291 := mem1le (lt_ (lt_ hBw (Nat.le_of_lt (Blk.lt hB1))) h23.size)
  obtain ⟨r4310, r4313, e4311, hm4312⟩ := bd2S (ifT hm4177 hc4287)
  refine E z (fc Tryz.call128 z (ih_impl_checker_option.run (B := B) e4311 h196 hBw (((h29.ext h57).chg h62 (ltge h4291)).chg h198 (ltge (mem1 hBw))) ((((p1_1.ext h23).ext h57).chg h62 (ltge h4291)).chg h198 (ltge (mem1 hBw))) (iA _ _) h36 h37 h38 (((h42.ext h57).chg h62 (ltge h4291)).chg h198 (ltge (mem1 hBw))) (((h46.ext h57).chg h62 (ltge h4291)).chg h198 (ltge (mem1 hBw))) (((h50.ext h57).chg h62 (ltge h4291)).chg h198 (ltge (mem1 hBw))) (((h54.ext h57).chg h62 (ltge h4291)).chg h198 (ltge (mem1 hBw))) p3_0)) ?_
  rintro _ w4314 ⟨s4315, rfl, h4316, h4317, h4318, h4319⟩
  have h4323 := mmr (Blk.lt hB1)
  refine E0 (fs (cur' := [(vI r4310.at_), (vI r4310.code)]) size_134 z z ((((h24.ext h57).chg h62 (djs (mmr h24.lt))).chg h198 (atp h4323)).chg s4315 (atp h4323)) z (lb z) (oneAll z) z) ?_
  rintro _ w4326 ⟨h4327, s4328⟩
  have h4329 := s4328.one
  refine Wn ?_
  obtain rfl := som hm4312
  have h4330 : Chg (· ∈ [g1]) w0 w21 := cext (cr [g1] w0) h23
  have h4331 : Chg (· ∈ [g1]) w0 w55 := cext h4330 h57
  have h4332 : ∀ k ∈ [w21.heap.size], k ∈ [g1] ∨ w0.heap.size ≤ k := mor h23.size
  have h4333 : Chg (· ∈ [g1]) w0 w59 := cM h4331 h62 h4332
  have h4334 : Chg (· ∈ [g1]) w0 w195 := cM h4333 h198 (inor sr)
  have h4335 : Chg (· ∈ [g1]) w0 w4314 := cM h4334 s4315 (inor sr)
  have h4336 : ∀ k ∈ [w0.heap.size], k ∈ [g1] ∨ w0.heap.size ≤ k := mor (Nat.le_refl _)
  have h4337 : Chg (· ∈ [g1]) w0 w4326 := cM h4335 h4329 h4336
  exact Wr (rtO (ret1 hr (resC agg_134 size_134 z h4327 z) ⟨h4337, z, h4316, h4317, h4318, (h4319.chg h4329 (djs h4323))⟩))
 have hm4339 := ifF hm4177 hc4287
 refine Ws <| R z (eql z z) <| Ra z <| Wn <| Wc z (fun hc4394 => ?_) (fun hc4394 => ?_)
 ·refine Ws <| Rm z <| R z (lN (vs := [(Str.v x26.name), (vI x26.kind), (vI x26.size), (vB x26.little), (.slice a39 n40 c41), (.slice a43 n44 c45), (.slice a47 n48 c49), (.slice a51 n52 c53)]) agg_82 size_82 z z fid (h199.row 0 8 z)) <| Rm z ?_
  have h4398 := mem1le (lt_ (lt_ hBw (Nat.le_of_lt (Blk.lt hB1))) h23.size)
  obtain ⟨r4417, r4420, e4418, hm4419⟩ := bd2S (ifT hm4339 hc4394)
  refine E z (fc Tryz.call129 z (ih_impl_checker_checked.run (B := B) e4418 h196 hBw (((h29.ext h57).chg h62 (ltge h4398)).chg h198 (ltge (mem1 hBw))) ((((p1_1.ext h23).ext h57).chg h62 (ltge h4398)).chg h198 (ltge (mem1 hBw))) (iA _ _) h36 h37 h38 (((h42.ext h57).chg h62 (ltge h4398)).chg h198 (ltge (mem1 hBw))) (((h46.ext h57).chg h62 (ltge h4398)).chg h198 (ltge (mem1 hBw))) (((h50.ext h57).chg h62 (ltge h4398)).chg h198 (ltge (mem1 hBw))) (((h54.ext h57).chg h62 (ltge h4398)).chg h198 (ltge (mem1 hBw))) p3_0)) ?_
  rintro _ w4421 ⟨s4422, rfl, h4423, h4424, h4425, h4426⟩
  have h4430 := mmr (Blk.lt hB1)
  refine E0 (fs (cur' := [(vI r4417.at_), (vI r4417.code)]) size_134 z z ((((h24.ext h57).chg h62 (djs (mmr h24.lt))).chg h198 (atp h4430)).chg s4422 (atp h4430)) z (lb z) (oneAll z) z) ?_
  rintro _ w4433 ⟨h4434, s4435⟩
  have h4436 := s4435.one
  refine Wn ?_
  obtain rfl := som hm4419
  have h4437 : Chg (· ∈ [g1]) w0 w21 := cext (cr [g1] w0) h23
  have h4438 : Chg (· ∈ [g1]) w0 w55 := cext h4437 h57
  have h4439 : ∀ k ∈ [w21.heap.size], k ∈ [g1] ∨ w0.heap.size ≤ k := mor h23.size
  have h4440 : Chg (· ∈ [g1]) w0 w59 := cM h4438 h62 h4439
  have h4441 : Chg (· ∈ [g1]) w0 w195 := cM h4440 h198 (inor sr)
  have h4442 : Chg (· ∈ [g1]) w0 w4421 := cM h4441 s4422 (inor sr)
  have h4443 : ∀ k ∈ [w0.heap.size], k ∈ [g1] ∨ w0.heap.size ≤ k := mor (Nat.le_refl _)
  have h4444 : Chg (· ∈ [g1]) w0 w4433 := cM h4442 h4436 h4443
  exact Wr (rtO (ret1 hr (resC agg_134 size_134 z h4434 z) ⟨h4444, z, h4423, h4424, h4425, (h4426.chg h4436 (djs h4430))⟩))
 refine Wk <| Wq <| WC_draw (X := noX) 0 (.rd 0 (.rd 1 (.rd 2 (.rd 3 (.rd 4 (.rd 5 (.rd 6 (.rd 7 (.rd 8 (.ef 9 (.rd 10 (.rd 11 (.rd 12 (.rd 13 (.rd 14 (.rd 15 (.rd 16 .done))))))))))))))))) mo (by kernel_rfl) fun w4447 s4448 _ => dR z z (mv z) <| dR z z (rd_nil z) <| dR z z (fd fld_132_1 z) ?_
 have h4449 := h196.ext s4448
 refine dR z z (l1 agg_25 z fid (h4449.at z)) <| dR z z (mv z) <| dR z z (fd fld_82_4 z) <| dR z z (l1 agg_25 z fid ((h199.ext s4448).at z)) ?_
 obtain ⟨x4451, e4452, hm4453⟩ := bdS (ifF hm4339 hc4394)
 have h4456 := mem1le (lt_ (lt_ hBw (Nat.le_of_lt (Blk.lt hB1))) h23.size)
 refine dRX z z (at_ (α := UInt8) und_25 size_5 z z z ((((h42.ext h57).chg h62 (ltge h4456)).chg h198 (ltge (mem1 hBw))).ext s4448) e4452) ?_
 rintro _ ⟨b4460, o4461, cs4462, rfl, h4463, h4464, h4465⟩
 obtain rfl := UInt8_open h4464
 refine dR z z (l1 agg_5 z fid (h4463.at0 z)) ?_
 obtain ⟨r4476, r4477, r4478, e4479, hm4480⟩ := bd3S hm4453
 refine dE z z (fc Tryz.call117 z (W_impl_ReadTerminated (B := B) e4479 (lt_ (lt_ hBw (Nat.le_of_lt (Blk.lt hB1))) (lt_ (lt_ (lt_ (lt_ h23.size h57.size) h62.size) h198.size) s4448.size)) (((((p1_1.ext h23).ext h57).chg h62 (ltge h4456)).chg h198 (ltge (mem1 hBw))).ext s4448) p3_0)) (.inr fun _ _ h => chgB (h.1)) ?_
 rintro _ w4481 ⟨s4482, a4483, n4484, c4485, S4487, rfl, h4486, h4488, h4489, h4490⟩
 refine dR z z (mv z) ?_
 iterate 3 refine dR z z (ext_ z z) ?_
 iterate 3 refine dR z z (asg z) ?_
 refine PR_done <| Wo <| Wq <| Ws <| Rm z <| R z (not_ z) <| Wn <| Wc z (fun hc4517 => ?_) (fun hc4517 => ?_)
 ·refine Ws <| Rm z <| R z (bP (parts := [(0, (.tmp 141)), (1, (.const (.int .i64 1)))]) (cs := [(vI x3), (vI 1)]) build_134 z z) ?_
  have h4522 := mmr (Blk.lt hB1)
  refine E0 (fs (cur' := [(vI x3), (vI 1)]) size_134 z z (((((h24.ext h57).chg h62 (djs (mmr h24.lt))).chg h198 (atp h4522)).ext s4448).ext s4482) z (lb z) (oneAll z) z) ?_
  rintro _ w4526 ⟨h4527, s4528⟩
  have h4529 := s4528.one
  refine Wn ?_
  obtain rfl := som (ifT hm4480 hc4517)
  have h4530 : Chg (· ∈ [g1]) w0 w21 := cext (cr [g1] w0) h23
  have h4531 : Chg (· ∈ [g1]) w0 w55 := cext h4530 h57
  have h4532 : ∀ k ∈ [w21.heap.size], k ∈ [g1] ∨ w0.heap.size ≤ k := mor h23.size
  have h4533 : Chg (· ∈ [g1]) w0 w59 := cM h4531 h62 h4532
  have h4534 : Chg (· ∈ [g1]) w0 w195 := cM h4533 h198 (inor sr)
  have h4535 : Chg (· ∈ [g1]) w0 w4447 := cext h4534 s4448
  have h4536 : Chg (· ∈ [g1]) w0 w4481 := cext h4535 s4482
  have h4537 : ∀ k ∈ [w0.heap.size], k ∈ [g1] ∨ w0.heap.size ≤ k := mor (Nat.le_refl _)
  have h4538 : Chg (· ∈ [g1]) w0 w4526 := cM h4536 h4529 h4537
  exact Wr (ret1 hr (resC agg_134 size_134 z h4527 z) ⟨h4538, z, p3_0, (ii z), (iA _ _), ((h4449.ext s4482).chg h4529 (djs h4522))⟩)
 refine Wk <| Ws <| Rm z <| R z (bP (parts := [(0, (.tmp 143)), (1, (.const (.int .i64 0)))]) (cs := [(vI r4477), (vI 0)]) build_134 z z) ?_
 have h4545 := mmr (Blk.lt hB1)
 refine E0 (fs (cur' := [(vI r4477), (vI 0)]) size_134 z z (((((h24.ext h57).chg h62 (djs (mmr h24.lt))).chg h198 (atp h4545)).ext s4448).ext s4482) z (lb z) (oneAll z) z) ?_
 rintro _ w4549 ⟨h4550, s4551⟩
 have h4552 := s4551.one
 refine Wn ?_
 obtain rfl := som (ifF hm4480 hc4517)
 have h4553 : Chg (· ∈ [g1]) w0 w21 := cext (cr [g1] w0) h23
 have h4554 : Chg (· ∈ [g1]) w0 w55 := cext h4553 h57
 have h4555 : ∀ k ∈ [w21.heap.size], k ∈ [g1] ∨ w0.heap.size ≤ k := mor h23.size
 have h4556 : Chg (· ∈ [g1]) w0 w59 := cM h4554 h62 h4555
 have h4557 : Chg (· ∈ [g1]) w0 w195 := cM h4556 h198 (inor sr)
 have h4558 : Chg (· ∈ [g1]) w0 w4447 := cext h4557 s4448
 have h4559 : Chg (· ∈ [g1]) w0 w4481 := cext h4558 s4482
 have h4560 : ∀ k ∈ [w0.heap.size], k ∈ [g1] ∨ w0.heap.size ≤ k := mor (Nat.le_refl _)
 have h4561 : Chg (· ∈ [g1]) w0 w4549 := cM h4559 h4552 h4560
 exact Wr (ret1 hr (resC agg_134 size_134 z h4550 z) ⟨h4561, z, h4488, (ii z), (iA _ _), ((h4449.ext s4482).chg h4552 (djs h4545))⟩)
theorem T_impl_checker_array (ih_impl_checker_value : S_impl_checker_value n) (ih_impl_checker_array : S_impl_checker_array n) (ih_impl_checker_choice : S_impl_checker_choice n) (ih_impl_checker_option : S_impl_checker_option n) (ih_impl_checker_checked : S_impl_checker_checked n) {x1 : Checker} {g1 : Nat} {x2 : Rule} {x3 : Int} {res : Spot × Int} (hm : B_impl_checker_array n (F_impl_checker_value n) x1 x2 x3 = some res) (hB1 : Blk w0 g1 [(.slice pa1_0 pn1_0 pc1_0), (.slice pa1_1 pn1_1 pc1_1), (vI x1.applied)]) (hBw : B ≤ g1) (p1_0 : repS w0 B (.slice pa1_0 pn1_0 pc1_0) x1.d.rules) (p1_1 : repS w0 B (.slice pa1_1 pn1_1 pc1_1) x1.b) (p1_2 : inI x1.applied) (p2_0 : x2.name.b.length ≤ LEN) (p2_1 : inI x2.kind) (p2_2 : inI x2.size) (p2_4 : repS w0 B (.slice pa2_4 pn2_4 pc2_4) x2.bytes) (p2_5 : repS w0 B (.slice pa2_5 pn2_5 pc2_5) x2.names) (p2_6 : repS w0 B (.slice pa2_6 pn2_6 pc2_6) x2.tags) (p2_7 : repS w0 B (.slice pa2_7 pn2_7 pc2_7) x2.kids) (p3_0 : inI x3) : CallsR Tryz.prog 126 [(.pointer (some ⟨g1, 0, none⟩)), (.agg #[(Str.v x2.name), (vI x2.kind), (vI x2.size), (vB x2.little), (.slice pa2_4 pn2_4 pc2_4), (.slice pa2_5 pn2_5 pc2_5), (.slice pa2_6 pn2_6 pc2_6), (.slice pa2_7 pn2_7 pc2_7)]), (vI x3)] w0 (Q_impl_checker_array w0 g1 B pa1_0 pn1_0 pc1_0 pa1_1 pn1_1 pc1_1 x1 res) := by
 unfold B_impl_checker_array at hm
 obtain ⟨fn, hf, hb, hN, hr⟩ := fnE Tryz.func126
 refine goW hf (hb.trans z) (hN.trans z) (lb z) <| Ws <| E z (fb z) ?_
 rintro _ w21 ⟨rfl, h22⟩
 have h23 := h22.below
 have h24 : Blk w21 w0.heap.size [(Str.v x2.name), (vI x2.kind), (vI x2.size), (vB x2.little), (.slice pa2_4 pn2_4 pc2_4), (.slice pa2_5 pn2_5 pc2_5), (.slice pa2_6 pn2_6 pc2_6), (.slice pa2_7 pn2_7 pc2_7)] := h22.blk
 refine E z (fa zero_134) ?_
 rintro _ w25 ⟨rfl, h26⟩
 have h27 := h26.below
 have h28 : Blk w25 w21.heap.size [(vI 0), (vI 0)] := h26.blk
 refine Wn <| Ws <| Rm z <| R z (fd fld_82_7 z) ?_
 have h29 := h24.ext h27
 refine R z (l1 agg_73 z fid (h29.at z)) ?_
 obtain ⟨x30, e31, hm32⟩ := bdS hm
 have h34 := (p2_7.ext h23).ext h27
 refine RX z (at_ (α := Int) und_73 size_3 z z z h34 e31) ?_
 rintro _ ⟨b35, o36, cs37, rfl, h38, h39, h40⟩
 obtain ⟨rfl, h41⟩ := Int_open h39
 refine R z (l1 agg_3 z fid (h38.at0 z)) <| Rm z ?_
 have h43 := (p1_0.ext h23).ext h27
 have h45 := (p1_1.ext h23).ext h27
 obtain ⟨r48, r49, r52, e50, hm51⟩ := bd3S hm32
 refine E z (fc Tryz.call123 z (W_impl_checker_number (B := B) e50 ((hB1.ext h23).ext h27) hBw h43 h45 p1_2 h41 p3_0)) ?_
 rintro _ w53 ⟨s54, rfl, h55, h56, h57, h58, h59⟩
 refine Rm z <| R z (ext_ z z) <| R z (ext_ z z) <| E z (fa zero_134) ?_
 rintro _ w60 ⟨rfl, h61⟩
 have h62 := h61.below
 have h63 : Blk w60 w53.heap.size [(vI 0), (vI 0)] := h61.blk
 refine Ra z <| E0 (fs (cur' := [(vI r49.at_), (vI r49.code)]) size_134 z z h63 z (lb z) (oneAll z) z) ?_
 rintro _ w64 ⟨h65, s66⟩
 have h67 := s66.one
 refine Wn <| Wq <| Wq ?_
 obtain ⟨u72, hu73, hm74⟩ := bdS hm51
 refine WC_cut (fun a w => ∃ (x71 : Bool), x71 = u72 ∧ Sat 46 [(0, (.pointer (some ⟨g1, 0, none⟩))), (2, (vI x3)), (4, (.pointer (some ⟨w0.heap.size, 0, none⟩))), (6, (.pointer (some ⟨w21.heap.size, 0, none⟩))), (7, (vI r48)), (8, (.pointer (some ⟨w53.heap.size, 0, none⟩))), (25, (vB x71))] a ∧ Below w64.heap.size w64 w) ?_ ?_
 ·refine Wg <| R z (fd fld_134_1 z) <| R z (l1 agg_3 z fid (h65.at z)) <| R z (eql z z) <| Rm z ?_
  rcases bsplit (r49.code == 0) with hc75 | hc75
  ·exact Rh z hc75 (mv z) <| Rh z hc75 (rd_gtr z z) <| R z (pT z hc75 z) <| Wl <| fun _ q => ⟨decide (40 < r48), som (ifT hu73 hc75), (q.weaken (s7 z z z z z z z)), (br w64)⟩
  exact Nh z hc75 <| Nh z hc75 <| R z (pF z hc75 z) <| Wl <| fun _ q => ⟨false, som (ifF hu73 hc75), (q.weaken (s7 z z z z z z z)), (br w64)⟩
 rintro a78 w79 ⟨x71, rfl, hS80, s81⟩
 revert a78
 refine Wo <| Wc z (fun hc112 => ?_) (fun hc112 => ?_)
 ·refine Ws <| Rm z <| R z (bP (parts := [(0, (.tmp 26)), (1, (.const (.int .i64 6)))]) (cs := [(vI x3), (vI 6)]) build_134 z z) ?_
  have h114 := mm1 (Blk.lt hB1) h23.size
  refine E0 (fs (cur' := [(vI x3), (vI 6)]) size_134 z z ((((h28.chg s54 (atp h114)).ext h62).chg h67 (djs (mm1 h28.lt s54.size))).ext s81) z (lb z) (oneAll z) z) ?_
  rintro _ w120 ⟨h121, s122⟩
  have h123 := s122.one
  refine Wn ?_
  obtain rfl := som (ifT hm74 hc112)
  have h124 : Chg (· ∈ [g1]) w0 w21 := cext (cr [g1] w0) h23
  have h125 : Chg (· ∈ [g1]) w0 w25 := cext h124 h27
  have h126 : Chg (· ∈ [g1]) w0 w53 := cM h125 s54 (inor sr)
  have h127 : Chg (· ∈ [g1]) w0 w60 := cext h126 h62
  have h129 := lt_ (lt_ h23.size h27.size) s54.size
  have h130 : ∀ k ∈ [w53.heap.size], k ∈ [g1] ∨ w0.heap.size ≤ k := mor h129
  have h131 : Chg (· ∈ [g1]) w0 w64 := cM h127 h67 h130
  have h132 : Chg (· ∈ [g1]) w0 w79 := cext h131 s81
  have h133 : ∀ k ∈ [w21.heap.size], k ∈ [g1] ∨ w0.heap.size ≤ k := mor h23.size
  have h134 : Chg (· ∈ [g1]) w0 w120 := cM h132 h123 h133
  exact Wr (ret1 hr (resC agg_134 size_134 z h121 z) ⟨h134, z, p3_0, (ii z), h58, ((((h59.ext h62).chg h67 (djs (mm1 (Blk.lt hB1) h129))).ext s81).chg h123 (djs h114))⟩)
 refine Wk <| Wq ?_
 obtain ⟨u317, hu318, hm319⟩ := bdS (ifF hm74 hc112)
 refine WC_iter (σ := Int × Int × Int × Int) (ρ := Spot × Int) (fun s a w => un4 (fun x307 x309 x312 x314 => Sat 46 [(0, (.pointer (some ⟨g1, 0, none⟩))), (4, (.pointer (some ⟨w0.heap.size, 0, none⟩))), (6, (.pointer (some ⟨w21.heap.size, 0, none⟩))), (7, (vI x307)), (8, (.pointer (some ⟨w53.heap.size, 0, none⟩)))] a ∧ Chg (· ∈ ([g1] ++ [w53.heap.size])) w79 w ∧ inI x307 ∧ inI x309 ∧ inI x312 ∧ inI x314 ∧ Blk w g1 [(.slice pa1_0 pn1_0 pc1_0), (.slice pa1_1 pn1_1 pc1_1), (vI x309)] ∧ Blk w w53.heap.size [(vI x312), (vI x314)]) s) (fun s a w => un4 (fun x307 x309 x312 x314 => Sat 46 [(6, (.pointer (some ⟨w21.heap.size, 0, none⟩))), (8, (.pointer (some ⟨w53.heap.size, 0, none⟩)))] a ∧ Chg (· ∈ ([g1] ++ [w53.heap.size])) w79 w ∧ inI x307 ∧ inI x309 ∧ inI x312 ∧ inI x314 ∧ Blk w g1 [(.slice pa1_0 pn1_0 pc1_0), (.slice pa1_1 pn1_1 pc1_1), (vI x309)] ∧ Blk w w53.heap.size [(vI x312), (vI x314)]) s) (fun r ex a w => ex = .ret ∧ RetPost Tryz.prog fn (Q_impl_checker_array w0 g1 B pa1_0 pn1_0 pc1_0 pa1_1 pn1_1 pc1_1 x1 r) a w) hu318 ?_ ?_ ?_ ?_
 ·exact fun _ q => ⟨(q.weaken (s5 z z z z z)), (cr ([g1] ++ [w53.heap.size]) w79), h55, h58, h56, h57, (((h59.ext h62).chg h67 (djs (mm1 (Blk.lt hB1) (lt_ (lt_ h23.size h27.size) s54.size)))).ext s81), (h65.ext s81)⟩
 ·rintro ⟨x307, x309, x312, x314⟩ a328 w329 o330 ⟨hS332, s333, h308, h310, h313, h315, h311, h316⟩ hm334
  have hm335 := un4S hm334
  refine Wu (e := [(0, (.pointer (some ⟨g1, 0, none⟩))), (4, (.pointer (some ⟨w0.heap.size, 0, none⟩))), (6, (.pointer (some ⟨w21.heap.size, 0, none⟩))), (7, (vI x307)), (8, (.pointer (some ⟨w53.heap.size, 0, none⟩)))]) (N := 46) ?_ hS332
  refine Wq <| Wq ?_
  obtain ⟨u340, hu341, hm342⟩ := bdS hm335
  refine WC_cut (fun a w => ∃ (x339 : Bool), x339 = u340 ∧ Sat 46 [(0, (.pointer (some ⟨g1, 0, none⟩))), (4, (.pointer (some ⟨w0.heap.size, 0, none⟩))), (6, (.pointer (some ⟨w21.heap.size, 0, none⟩))), (7, (vI x307)), (8, (.pointer (some ⟨w53.heap.size, 0, none⟩))), (34, (vB x339))] a ∧ Below w329.heap.size w329 w) ?_ ?_
  ·refine Wg <| Rm z <| R z (rd_gtr z z) <| Rm z ?_
   rcases bsplit (decide (0 < x307)) with hc343 | hc343
   ·exact Rh z hc343 (fd fld_134_1 z) <| Rh z hc343 (l1 agg_3 z fid (h316.at z)) <| Rh z hc343 (eql z z) <| R z (pT z hc343 z) <| Wl <| fun _ q => ⟨x314 == 0, som (ifT hu341 hc343), (q.weaken (s6 z z z z z z)), (br w329)⟩
   iterate 3 refine Nh z hc343 ?_
   exact R z (pF z hc343 z) <| Wl <| fun _ q => ⟨false, som (ifF hu341 hc343), (q.weaken (s6 z z z z z z)), (br w329)⟩
  rintro a346 w347 ⟨x339, rfl, hS348, s349⟩
  revert a346
  refine Wo <| Wc z (fun hc358 => ?_) (fun hc358 => ?_)
  ·refine Wk <| Wq <| WC_block <| WC_draw (X := noX) 384 (.rd 0 (.rd 1 (.rd 2 (.rd 3 (.rd 4 (.rd 5 (.rd 6 (.ef 7 (.ef 8 .done))))))))) mo (by kernel_rfl) fun w427 s428 _ => dR z z (mv z) <| dR z z (fd fld_82_7 z) ?_
   have h429 := mmr (Blk.lt hB1)
   have h433 := mm1 h24.lt (lt_ h27.size s54.size)
   have h437 := (((((h29.chg s54 (atp h429)).ext h62).chg h67 (djs h433)).ext s81).chg s333 (atp (nmA h429 (dj_symm h433)))).ext s349
   refine dR z z (l1 agg_73 z fid ((h437.ext s428).at z)) ?_
   obtain ⟨x439, e440, hm441⟩ := bdS (ifT hm342 hc358)
   have h445 := lt_ (lt_ h23.size h27.size) s54.size
   have h447 := mem1le (lt_ (lt_ hBw (Nat.le_of_lt (Blk.lt hB1))) h445)
   refine dRX z z (at_ (α := Int) und_73 size_3 z z z (((((((h34.chg s54 (ltge (mem1 hBw))).ext h62).chg h67 (ltge h447)).ext s81).chg s333 (nmA (ltge (mem1 hBw)) (ltge h447))).ext s349).ext s428) e440) ?_
   rintro _ ⟨b453, o454, cs455, rfl, h456, h457, h458⟩
   obtain ⟨rfl, h459⟩ := Int_open h457
   refine dR z z (l1 agg_3 z fid (h456.at0 z)) <| dR z z (fd fld_134_0 z) ?_
   have h461 := (h316.ext s349).ext s428
   refine dR z z (l1 agg_3 z fid (h461.at z)) ?_
   obtain ⟨r478, r481, e479, hm480⟩ := bd2S hm441
   refine dE z z (fc Tryz.call93 z (ih_impl_checker_value.run (B := B) e479 ((h311.ext s349).ext s428) hBw (((((((h43.chg s54 (ltge (mem1 hBw))).ext h62).chg h67 (ltge h447)).ext s81).chg s333 (nmA (ltge (mem1 hBw)) (ltge h447))).ext s349).ext s428) (((((((h45.chg s54 (ltge (mem1 hBw))).ext h62).chg h67 (ltge h447)).ext s81).chg s333 (nmA (ltge (mem1 hBw)) (ltge h447))).ext s349).ext s428) h310 h459 h313)) (.inl z) ?_
   rintro _ w482 ⟨s483, rfl, h484, h485, h486, h487⟩
   have h488 := mm1 (Blk.lt hB1) h445
   refine dE0 z (fs (cur' := [(vI r478.at_), (vI r478.code)]) size_134 z z (h461.chg s483 (atp h488)) z (lb z) (oneAll z) z) (.inl z) ?_
   rintro _ w490 ⟨h491, s492⟩
   have h493 := s492.one
   refine PR_done <| Wo <| Wg <| Rm z <| R z (rd_sub z z) <| Ra z <| Wl ?_
   have h495 : Chg (· ∈ ([g1] ++ [w53.heap.size])) w79 w329 := cM (cr ([g1] ++ [w53.heap.size]) w79) s333 (all_app (inor (sub_l sr)) (inor (sub_r sr)))
   have h496 : Chg (· ∈ ([g1] ++ [w53.heap.size])) w79 w347 := cext h495 s349
   have h497 : Chg (· ∈ ([g1] ++ [w53.heap.size])) w79 w427 := cext h496 s428
   have h498 : Chg (· ∈ ([g1] ++ [w53.heap.size])) w79 w482 := cM h497 s483 (inor (sub_l sr))
   have h499 : Chg (· ∈ ([g1] ++ [w53.heap.size])) w79 w490 := cM h498 h493 (inor (sub_r sr))
   exact fun _ q => ⟨(isub x307 1, r481, r478.at_, r478.code), (som hm480).symm, ⟨(q.weaken (s5 z z z z z)), h499, (iS _ _), h486, h484, h485, (h487.chg h493 (djs h488)), h491⟩⟩
  have h503 : Chg (· ∈ ([g1] ++ [w53.heap.size])) w79 w329 := cM (cr ([g1] ++ [w53.heap.size]) w79) s333 (all_app (inor (sub_l sr)) (inor (sub_r sr)))
  have h504 : Chg (· ∈ ([g1] ++ [w53.heap.size])) w79 w347 := cext h503 s349
  exact WC_exit (fun a' ha' => QO_brk (som (ifF hm342 hc358)).symm ⟨(Sat.weaken ha' (s2 z z)), h504, h308, h310, h313, h315, (h311.ext s349), (h316.ext s349)⟩)
 ·rintro ⟨x307, x309, x312, x314⟩ a505 w506 rfl ⟨hS507, s508, h308, h310, h313, h315, h311, h316⟩
  have hm509 := elL hm319
  have hm510 := un4S hm509
  revert a505
  refine Wo <| Ws <| R z (lN (vs := [(vI x312), (vI x314)]) agg_134 size_134 z z fid (h316.row 0 2 z)) ?_
  have h511 := mm1 (Blk.lt hB1) h23.size
  have h514 := mm1 h28.lt s54.size
  refine E0 (fs (cur' := [(vI x312), (vI x314)]) size_134 z z (((((h28.chg s54 (atp h511)).ext h62).chg h67 (djs h514)).ext s81).chg s508 (atp (nmA h511 (dj_symm h514)))) z (lb z) (oneAll z) z) ?_
  rintro _ w518 ⟨h519, s520⟩
  have h521 := s520.one
  refine Wn ?_
  obtain rfl := som hm510
  have h522 : Chg (· ∈ [g1]) w0 w21 := cext (cr [g1] w0) h23
  have h523 : Chg (· ∈ [g1]) w0 w25 := cext h522 h27
  have h524 : Chg (· ∈ [g1]) w0 w53 := cM h523 s54 (inor sr)
  have h525 : Chg (· ∈ [g1]) w0 w60 := cext h524 h62
  have h528 : ∀ k ∈ [w53.heap.size], k ∈ [g1] ∨ w0.heap.size ≤ k := mor (lt_ (lt_ h23.size h27.size) s54.size)
  have h529 : Chg (· ∈ [g1]) w0 w64 := cM h525 h67 h528
  have h530 : Chg (· ∈ [g1]) w0 w79 := cext h529 s81
  have h531 : Chg (· ∈ [g1]) w0 w506 := cM h530 s508 (all_app (inor sr) h528)
  have h532 : ∀ k ∈ [w21.heap.size], k ∈ [g1] ∨ w0.heap.size ≤ k := mor h23.size
  have h533 : Chg (· ∈ [g1]) w0 w518 := cM h531 h521 h532
  exact Wr (ret1 hr (resC agg_134 size_134 z h519 z) ⟨h533, z, h313, h315, h310, (h311.chg h521 (djs h511))⟩)
 rintro r535 ex536 a537 w538 rfl ⟨rfl, hq539⟩
 have hm540 := elR hm319
 obtain rfl := som hm540
 exact ⟨hq539, z⟩
theorem T_impl_checker_choice (ih_impl_checker_value : S_impl_checker_value n) (ih_impl_checker_array : S_impl_checker_array n) (ih_impl_checker_choice : S_impl_checker_choice n) (ih_impl_checker_option : S_impl_checker_option n) (ih_impl_checker_checked : S_impl_checker_checked n) {x1 : Checker} {g1 : Nat} {x2 : Rule} {x3 : Int} {res : Spot × Int} (hm : B_impl_checker_choice n (F_impl_checker_value n) x1 x2 x3 = some res) (hB1 : Blk w0 g1 [(.slice pa1_0 pn1_0 pc1_0), (.slice pa1_1 pn1_1 pc1_1), (vI x1.applied)]) (hBw : B ≤ g1) (p1_0 : repS w0 B (.slice pa1_0 pn1_0 pc1_0) x1.d.rules) (p1_1 : repS w0 B (.slice pa1_1 pn1_1 pc1_1) x1.b) (p1_2 : inI x1.applied) (p2_0 : x2.name.b.length ≤ LEN) (p2_1 : inI x2.kind) (p2_2 : inI x2.size) (p2_4 : repS w0 B (.slice pa2_4 pn2_4 pc2_4) x2.bytes) (p2_5 : repS w0 B (.slice pa2_5 pn2_5 pc2_5) x2.names) (p2_6 : repS w0 B (.slice pa2_6 pn2_6 pc2_6) x2.tags) (p2_7 : repS w0 B (.slice pa2_7 pn2_7 pc2_7) x2.kids) (p3_0 : inI x3) : CallsR Tryz.prog 127 [(.pointer (some ⟨g1, 0, none⟩)), (.agg #[(Str.v x2.name), (vI x2.kind), (vI x2.size), (vB x2.little), (.slice pa2_4 pn2_4 pc2_4), (.slice pa2_5 pn2_5 pc2_5), (.slice pa2_6 pn2_6 pc2_6), (.slice pa2_7 pn2_7 pc2_7)]), (vI x3)] w0 (Q_impl_checker_choice w0 g1 B pa1_0 pn1_0 pc1_0 pa1_1 pn1_1 pc1_1 x1 res) := by
 unfold B_impl_checker_choice at hm
 obtain ⟨fn, hf, hb, hN, hr⟩ := fnE Tryz.func127
 refine goW hf (hb.trans z) (hN.trans z) (lb z) <| Ws <| E z (fb z) ?_
 rintro _ w21 ⟨rfl, h22⟩
 have h23 := h22.below
 have h24 : Blk w21 w0.heap.size [(Str.v x2.name), (vI x2.kind), (vI x2.size), (vB x2.little), (.slice pa2_4 pn2_4 pc2_4), (.slice pa2_5 pn2_5 pc2_5), (.slice pa2_6 pn2_6 pc2_6), (.slice pa2_7 pn2_7 pc2_7)] := h22.blk
 refine E z (fa zero_134) ?_
 rintro _ w25 ⟨rfl, h26⟩
 have h27 := h26.below
 have h28 : Blk w25 w21.heap.size [(vI 0), (vI 0)] := h26.blk
 refine Wn <| Ws <| Rm z <| R z (fd fld_82_7 z) ?_
 have h29 := h24.ext h27
 refine R z (l1 agg_73 z fid (h29.at z)) ?_
 obtain ⟨x30, e31, hm32⟩ := bdS hm
 have h34 := (p2_7.ext h23).ext h27
 refine RX z (at_ (α := Int) und_73 size_3 z z z h34 e31) ?_
 rintro _ ⟨b35, o36, cs37, rfl, h38, h39, h40⟩
 obtain ⟨rfl, h41⟩ := Int_open h39
 refine R z (l1 agg_3 z fid (h38.at0 z)) <| Rm z ?_
 have h43 := (p1_0.ext h23).ext h27
 have h45 := (p1_1.ext h23).ext h27
 obtain ⟨r48, r49, r52, e50, hm51⟩ := bd3S hm32
 refine E z (fc Tryz.call123 z (W_impl_checker_number (B := B) e50 ((hB1.ext h23).ext h27) hBw h43 h45 p1_2 h41 p3_0)) ?_
 rintro _ w53 ⟨s54, rfl, h55, h56, h57, h58, h59⟩
 refine Rm z <| R z (ext_ z z) <| R z (ext_ z z) <| E z (fa zero_134) ?_
 rintro _ w60 ⟨rfl, h61⟩
 have h62 := h61.below
 have h63 : Blk w60 w53.heap.size [(vI 0), (vI 0)] := h61.blk
 refine Ra z <| E0 (fs (cur' := [(vI r49.at_), (vI r49.code)]) size_134 z z h63 z (lb z) (oneAll z) z) ?_
 rintro _ w64 ⟨h65, s66⟩
 have h67 := s66.one
 refine Wn <| Wq <| Ws <| R z (fd fld_134_1 z) <| R z (l1 agg_3 z fid (h65.at z)) <| R z (rd_neq z z) <| Wn <| Wc z (fun hc95 => ?_) (fun hc95 => ?_)
 ·refine Ws <| R z (lN (vs := [(vI r49.at_), (vI r49.code)]) agg_134 size_134 z z fid (h65.row 0 2 z)) ?_
  have h97 := mm1 (Blk.lt hB1) h23.size
  refine E0 (fs (cur' := [(vI r49.at_), (vI r49.code)]) size_134 z z (((h28.chg s54 (atp h97)).ext h62).chg h67 (djs (mm1 h28.lt s54.size))) z (lb z) (oneAll z) z) ?_
  rintro _ w102 ⟨h103, s104⟩
  have h105 := s104.one
  refine Wn ?_
  obtain rfl := som (ifT hm51 hc95)
  have h106 : Chg (· ∈ [g1]) w0 w21 := cext (cr [g1] w0) h23
  have h107 : Chg (· ∈ [g1]) w0 w25 := cext h106 h27
  have h108 : Chg (· ∈ [g1]) w0 w53 := cM h107 s54 (inor sr)
  have h109 : Chg (· ∈ [g1]) w0 w60 := cext h108 h62
  have h111 := lt_ (lt_ h23.size h27.size) s54.size
  have h112 : ∀ k ∈ [w53.heap.size], k ∈ [g1] ∨ w0.heap.size ≤ k := mor h111
  have h113 : Chg (· ∈ [g1]) w0 w64 := cM h109 h67 h112
  have h114 : ∀ k ∈ [w21.heap.size], k ∈ [g1] ∨ w0.heap.size ≤ k := mor h23.size
  have h115 : Chg (· ∈ [g1]) w0 w102 := cM h113 h105 h114
  exact Wr (ret1 hr (resC agg_134 size_134 z h103 z) ⟨h115, z, h56, h57, h58, (((h59.ext h62).chg h67 (djs (mm1 (Blk.lt hB1) h111))).chg h105 (djs h97))⟩)
 refine Wk <| Wq <| Ws <| R z (fd fld_82_6 z) ?_
 have h126 := ((h29.chg s54 (atp (mmr (Blk.lt hB1)))).ext h62).chg h67 (djs (mm1 h24.lt (lt_ h27.size s54.size)))
 refine R z (l1 agg_73 z fid (h126.at z)) ?_
 have h132 := lt_ (lt_ h23.size h27.size) s54.size
 have h134 := mem1le (lt_ (lt_ hBw (Nat.le_of_lt (Blk.lt hB1))) h132)
 have h135 := ((((p2_6.ext h23).ext h27).chg s54 (ltge (mem1 hBw))).ext h62).chg h67 (ltge h134)
 refine R z (lnR und_73 z h135) <| Rm z <| Wn ?_
 obtain ⟨u222, hu223, hm224⟩ := bdS (ifF hm51 hc95)
 refine WC_forN (σ := Unit) (ρ := Spot × Int) (fun (k225 : Nat) (_ : Unit) a w => Sat 49 [(0, (.pointer (some ⟨g1, 0, none⟩))), (2, (vI x3)), (4, (.pointer (some ⟨w0.heap.size, 0, none⟩))), (6, (.pointer (some ⟨w21.heap.size, 0, none⟩))), (7, (vI r48)), (8, (.pointer (some ⟨w53.heap.size, 0, none⟩))), (26, (.slice pa2_6 pn2_6 pc2_6)), (27, (vI (x2.tags.length : Int))), (28, (vI ((k225 : Nat) : Int)))] a ∧ Below w64.heap.size w64 w) (fun (_ : Unit) a w => Sat 49 [(2, (vI x3)), (6, (.pointer (some ⟨w21.heap.size, 0, none⟩)))] a ∧ Below w64.heap.size w64 w) (fun r ex a w => ex = .ret ∧ RetPost Tryz.prog fn (Q_impl_checker_choice w0 g1 B pa1_0 pn1_0 pc1_0 pa1_1 pn1_1 pc1_1 x1 r) a w) hu223 ?_ ?_ ?_ ?_ ?_
 ·exact fun _ q => ⟨(q.weaken (s9 z z z z z z z z z)), (br w64)⟩
 ·rintro k225 _ a226 w227 o228 hk229 ⟨hS230, s231⟩ hm232
  refine Wu (e := [(0, (.pointer (some ⟨g1, 0, none⟩))), (2, (vI x3)), (4, (.pointer (some ⟨w0.heap.size, 0, none⟩))), (6, (.pointer (some ⟨w21.heap.size, 0, none⟩))), (7, (vI r48)), (8, (.pointer (some ⟨w53.heap.size, 0, none⟩))), (26, (.slice pa2_6 pn2_6 pc2_6)), (27, (vI (x2.tags.length : Int))), (28, (vI ((k225 : Nat) : Int)))]) (N := 49) ?_ hS230
  refine Ws <| R z (lss z z) <| Wn <| Wq <| Wc z (fun _ => ?_) (fun hc => (nolt hk229 hc).elim)
  refine Wk <| Wq <| WC_block <| Ws <| Rm z ?_
  obtain ⟨x319, e320, hm321⟩ := bdS hm232
  refine RX z (at_ (α := Int) und_73 size_3 z z z (h135.ext s231) e320) ?_
  rintro _ ⟨b323, o324, cs325, rfl, h326, h327, h328⟩
  obtain ⟨rfl, h329⟩ := Int_open h327
  refine R z (l1 agg_3 z fid (h326.at0 z)) <| Ra z <| Ra z <| Wn <| Ws <| Rm z <| Rm z <| R z (eql z z) <| Wn <| Wc z (fun hc404 => ?_) (fun hc404 => ?_)
  ·refine Wq <| WC_draw (X := noX) 1536 (.rd 0 (.rd 1 (.rd 2 (.rd 3 (.rd 4 (.rd 5 (.rd 6 (.rd 7 (.rd 8 (.ef 9 (.ef 10 .done))))))))))) mo (by kernel_rfl) fun w406 s407 _ => dR z z (mv z) <| dR z z (fd fld_82_7 z) <| dR z z (l1 agg_73 z fid (((h126.ext s231).ext s407).at z)) <| dR z z (mv z) <| dR z z (inc_ hk229 (lt_ (repS.len p2_6) LEN_le) z z) ?_
   obtain ⟨x410, e411, hm412⟩ := bdS (ifT hm321 hc404)
   refine dRX z z (at_ (α := Int) und_73 size_3 z z z (((((h34.chg s54 (ltge (mem1 hBw))).ext h62).chg h67 (ltge h134)).ext s231).ext s407) e411) ?_
   rintro _ ⟨b418, o419, cs420, rfl, h421, h422, h423⟩
   obtain ⟨rfl, h424⟩ := Int_open h422
   refine dR z z (l1 agg_3 z fid (h421.at0 z)) <| dR z z (fd fld_134_0 z) <| dR z z (l1 agg_3 z fid (((h65.ext s231).ext s407).at z)) ?_
   obtain ⟨r442, r445, e443, hm444⟩ := bd2S hm412
   refine dE z z (fc Tryz.call93 z (ih_impl_checker_value.run (B := B) e443 ((((h59.ext h62).chg h67 (djs (mm1 (Blk.lt hB1) h132))).ext s231).ext s407) hBw (((((h43.chg s54 (ltge (mem1 hBw))).ext h62).chg h67 (ltge h134)).ext s231).ext s407) (((((h45.chg s54 (ltge (mem1 hBw))).ext h62).chg h67 (ltge h134)).ext s231).ext s407) h58 h424 h56)) (.inl z) ?_
   rintro _ w446 ⟨s447, rfl, h448, h449, h450, h451⟩
   have h452 := mm1 (Blk.lt hB1) h23.size
   refine dE0 z (fs (cur' := [(vI r442.at_), (vI r442.code)]) size_134 z z ((((((h28.chg s54 (atp h452)).ext h62).chg h67 (djs (mm1 h28.lt s54.size))).ext s231).ext s407).chg s447 (atp h452)) z (lb z) (oneAll z) z) (.inl z) ?_
   rintro _ w460 ⟨h461, s462⟩
   have h463 := s462.one
   refine PR_done <| Wo ?_
   have h464 : Chg (· ∈ [g1]) w0 w21 := cext (cr [g1] w0) h23
   have h465 : Chg (· ∈ [g1]) w0 w25 := cext h464 h27
   have h466 : Chg (· ∈ [g1]) w0 w53 := cM h465 s54 (inor sr)
   have h467 : Chg (· ∈ [g1]) w0 w60 := cext h466 h62
   have h468 : ∀ k ∈ [w53.heap.size], k ∈ [g1] ∨ w0.heap.size ≤ k := mor h132
   have h469 : Chg (· ∈ [g1]) w0 w64 := cM h467 h67 h468
   have h470 : Chg (· ∈ [g1]) w0 w227 := cext h469 s231
   have h471 : Chg (· ∈ [g1]) w0 w406 := cext h470 s407
   have h472 : Chg (· ∈ [g1]) w0 w446 := cM h471 s447 (inor sr)
   have h473 : ∀ k ∈ [w21.heap.size], k ∈ [g1] ∨ w0.heap.size ≤ k := mor h23.size
   have h474 : Chg (· ∈ [g1]) w0 w460 := cM h472 h463 h473
   exact Wr (rtO (QO_retL (som hm444).symm (ret1 hr (resC agg_134 size_134 z h461 z) ⟨h474, z, h448, h449, h450, (h451.chg h463 (djs h452))⟩)))
  exact Wk <| Wg <| R z (inc_ hk229 (lt_ (repS.len p2_6) LEN_le) z z) <| Rm z <| Wl <| fun _ q => ⟨(), (som (ifF hm321 hc404)).symm, ⟨(q.weaken (s9 z z z z z z z z z)), s231⟩⟩
 ·rintro _ a477 w478 ⟨hS479, s480⟩
  refine Wu (e := [(0, (.pointer (some ⟨g1, 0, none⟩))), (2, (vI x3)), (4, (.pointer (some ⟨w0.heap.size, 0, none⟩))), (6, (.pointer (some ⟨w21.heap.size, 0, none⟩))), (7, (vI r48)), (8, (.pointer (some ⟨w53.heap.size, 0, none⟩))), (26, (.slice pa2_6 pn2_6 pc2_6)), (27, (vI (x2.tags.length : Int))), (28, (vI ((x2.tags.length : Nat) : Int)))]) (N := 49) ?_ hS479
  refine Ws <| R z (lss z z) <| Wn <| Wq <| Wc z (fun hc => (noltt hc).elim) (fun _ => ?_)
  exact WC_exit (fun a' ha' => ⟨rfl, ⟨(Sat.weaken ha' (s2 z z)), s480⟩⟩)
 ·rintro _ a481 w482 rfl ⟨hS483, s484⟩
  have hm485 := elL hm224
  revert a481
  refine Wo <| Ws <| Rm z <| R z (bP (parts := [(0, (.tmp 47)), (1, (.const (.int .i64 3)))]) (cs := [(vI x3), (vI 3)]) build_134 z z) ?_
  have h486 := mm1 (Blk.lt hB1) h23.size
  refine E0 (fs (cur' := [(vI x3), (vI 3)]) size_134 z z ((((h28.chg s54 (atp h486)).ext h62).chg h67 (djs (mm1 h28.lt s54.size))).ext s484) z (lb z) (oneAll z) z) ?_
  rintro _ w492 ⟨h493, s494⟩
  have h495 := s494.one
  refine Wn ?_
  obtain rfl := som hm485
  have h496 : Chg (· ∈ [g1]) w0 w21 := cext (cr [g1] w0) h23
  have h497 : Chg (· ∈ [g1]) w0 w25 := cext h496 h27
  have h498 : Chg (· ∈ [g1]) w0 w53 := cM h497 s54 (inor sr)
  have h499 : Chg (· ∈ [g1]) w0 w60 := cext h498 h62
  have h500 : ∀ k ∈ [w53.heap.size], k ∈ [g1] ∨ w0.heap.size ≤ k := mor h132
  have h501 : Chg (· ∈ [g1]) w0 w64 := cM h499 h67 h500
  have h502 : Chg (· ∈ [g1]) w0 w482 := cext h501 s484
  have h503 : ∀ k ∈ [w21.heap.size], k ∈ [g1] ∨ w0.heap.size ≤ k := mor h23.size
  have h504 : Chg (· ∈ [g1]) w0 w492 := cM h502 h495 h503
  exact Wr (ret1 hr (resC agg_134 size_134 z h493 z) ⟨h504, z, p3_0, (ii z), h58, ((((h59.ext h62).chg h67 (djs (mm1 (Blk.lt hB1) h132))).ext s484).chg h495 (djs h486))⟩)
 rintro r510 ex511 a512 w513 rfl ⟨rfl, hq514⟩
 have hm515 := elR hm224
 obtain rfl := som hm515
 exact ⟨hq514, z⟩
theorem T_impl_checker_option (ih_impl_checker_value : S_impl_checker_value n) (ih_impl_checker_array : S_impl_checker_array n) (ih_impl_checker_choice : S_impl_checker_choice n) (ih_impl_checker_option : S_impl_checker_option n) (ih_impl_checker_checked : S_impl_checker_checked n) {x1 : Checker} {g1 : Nat} {x2 : Rule} {x3 : Int} {res : Spot × Int} (hm : B_impl_checker_option n (F_impl_checker_value n) x1 x2 x3 = some res) (hB1 : Blk w0 g1 [(.slice pa1_0 pn1_0 pc1_0), (.slice pa1_1 pn1_1 pc1_1), (vI x1.applied)]) (hBw : B ≤ g1) (p1_0 : repS w0 B (.slice pa1_0 pn1_0 pc1_0) x1.d.rules) (p1_1 : repS w0 B (.slice pa1_1 pn1_1 pc1_1) x1.b) (p1_2 : inI x1.applied) (p2_0 : x2.name.b.length ≤ LEN) (p2_1 : inI x2.kind) (p2_2 : inI x2.size) (p2_4 : repS w0 B (.slice pa2_4 pn2_4 pc2_4) x2.bytes) (p2_5 : repS w0 B (.slice pa2_5 pn2_5 pc2_5) x2.names) (p2_6 : repS w0 B (.slice pa2_6 pn2_6 pc2_6) x2.tags) (p2_7 : repS w0 B (.slice pa2_7 pn2_7 pc2_7) x2.kids) (p3_0 : inI x3) : CallsR Tryz.prog 128 [(.pointer (some ⟨g1, 0, none⟩)), (.agg #[(Str.v x2.name), (vI x2.kind), (vI x2.size), (vB x2.little), (.slice pa2_4 pn2_4 pc2_4), (.slice pa2_5 pn2_5 pc2_5), (.slice pa2_6 pn2_6 pc2_6), (.slice pa2_7 pn2_7 pc2_7)]), (vI x3)] w0 (Q_impl_checker_option w0 g1 B pa1_0 pn1_0 pc1_0 pa1_1 pn1_1 pc1_1 x1 res) := by
 unfold B_impl_checker_option at hm
 obtain ⟨fn, hf, hb, hN, hr⟩ := fnE Tryz.func128
 refine goW hf (hb.trans z) (hN.trans z) (lb z) <| Ws <| E z (fb z) ?_
 rintro _ w21 ⟨rfl, h22⟩
 have h23 := h22.below
 have h24 : Blk w21 w0.heap.size [(Str.v x2.name), (vI x2.kind), (vI x2.size), (vB x2.little), (.slice pa2_4 pn2_4 pc2_4), (.slice pa2_5 pn2_5 pc2_5), (.slice pa2_6 pn2_6 pc2_6), (.slice pa2_7 pn2_7 pc2_7)] := h22.blk
 refine E z (fa zero_134) ?_
 rintro _ w25 ⟨rfl, h26⟩
 have h27 := h26.below
 have h28 : Blk w25 w21.heap.size [(vI 0), (vI 0)] := h26.blk
 refine Wn <| Ws <| Rm z <| Rm z ?_
 have h30 := (hB1.ext h23).ext h27
 have h32 := (p1_0.ext h23).ext h27
 have h34 := (p1_1.ext h23).ext h27
 have h35 := lt_ h23.size h27.size
 obtain ⟨r36, e37, hm38⟩ := bdS hm
 refine E z (fc Tryz.call125 z (W_impl_checker_skip (B := w0.heap.size) e37 h35 (repS.mono h32 (lt_ hBw (Nat.le_of_lt (Blk.lt hB1)))) (repS.mono h34 (lt_ hBw (Nat.le_of_lt (Blk.lt hB1)))) p1_2 (h30.row 0 3 z) (Blk.lt hB1) p3_0 (ii z))) ?_
 rintro _ w39 ⟨s40, rfl, h41, h42⟩
 refine E z (fa zero_134) ?_
 rintro _ w43 ⟨rfl, h44⟩
 have h45 := h44.below
 have h46 : Blk w43 w39.heap.size [(vI 0), (vI 0)] := h44.blk
 refine E0 (fs (cur' := [(vI r36.at_), (vI r36.code)]) size_134 z z h46 z (lb z) (oneAll z) z) ?_
 rintro _ w47 ⟨h48, s49⟩
 have h50 := s49.one
 refine Wn <| Wq <| WC_block <| Wq ?_
 obtain ⟨u176, hu177, hm178⟩ := bdS hm38
 refine WC_cut (fun a w => ∃ (x175 : Bool), x175 = u176 ∧ Sat 45 [(0, (.pointer (some ⟨g1, 0, none⟩))), (2, (vI x3)), (4, (.pointer (some ⟨w0.heap.size, 0, none⟩))), (6, (.pointer (some ⟨w21.heap.size, 0, none⟩))), (7, (.pointer (some ⟨w39.heap.size, 0, none⟩))), (11, (vB x175))] a ∧ Below w47.heap.size w47 w) ?_ ?_
 ·refine Wg <| R z (fd fld_134_1 z) <| R z (l1 agg_3 z fid (h48.at z)) <| R z (rd_neq z z) <| Rm z ?_
  rcases bsplit (r36.code != 0) with hc179 | hc179
  ·iterate 8 refine Nh z hc179 ?_
   exact R z (pT z hc179 z) <| Ra z <| Wl <| fun _ q => ⟨true, som (ifT hu177 hc179), (q.weaken (s6 z z z z z z)), (br w47)⟩
  refine Rh z hc179 (mv z) <| Rh z hc179 (rd_nil z) <| Rh z hc179 (fd fld_132_1 z) ?_
  have h184 := lt_ h35 s40.size
  refine Rh z hc179 (l1 agg_25 z fid ((((h30.ext s40).ext h45).chg h50 (djs (mm1 (Blk.lt hB1) h184))).at z)) <| Rh z hc179 (mv z) ?_
  obtain ⟨x187, e188, hm189⟩ := bdS (ifF hu177 hc179)
  refine RXg z z hc179 z (at_ (α := UInt8) und_25 size_5 z z z (((h34.ext s40).ext h45).chg h50 (ltge (mem1le (lt_ (lt_ hBw (Nat.le_of_lt (Blk.lt hB1))) h184)))) e188) ?_
  rintro _ ⟨b195, o196, cs197, rfl, h198, h199, h200⟩
  obtain rfl := UInt8_open h199
  exact Rh z hc179 (l1 agg_5 z fid (h198.at0 z)) <| Rh z hc179 (eql z z) <| R z (pF z hc179 z) <| Ra z <| Wl <| fun _ q => ⟨(byteI x187) == (byteI (0 : UInt8)), som hm189, (q.weaken (s6 z z z z z z)), (br w47)⟩
 rintro a201 w202 ⟨x175, rfl, hS203, s204⟩
 revert a201
 refine Wo <| Wc z (fun hc282 => ?_) (fun hc282 => ?_)
 ·refine Ws <| R z (lN (vs := [(vI r36.at_), (vI r36.code)]) agg_134 size_134 z z fid ((h48.ext s204).row 0 2 z)) <| E0 (fs (cur' := [(vI r36.at_), (vI r36.code)]) size_134 z z ((((h28.ext s40).ext h45).chg h50 (djs (mm1 h28.lt s40.size))).ext s204) z (lb z) (oneAll z) z) ?_
  rintro _ w290 ⟨h291, s292⟩
  have h293 := s292.one
  refine Wn ?_
  obtain rfl := som (ifT hm178 hc282)
  have h294 : Chg (· ∈ [g1]) w0 w21 := cext (cr [g1] w0) h23
  have h295 : Chg (· ∈ [g1]) w0 w25 := cext h294 h27
  have h296 : Chg (· ∈ [g1]) w0 w39 := cext h295 s40
  have h297 : Chg (· ∈ [g1]) w0 w43 := cext h296 h45
  have h298 := lt_ h35 s40.size
  have h299 : ∀ k ∈ [w39.heap.size], k ∈ [g1] ∨ w0.heap.size ≤ k := mor h298
  have h300 : Chg (· ∈ [g1]) w0 w47 := cM h297 h50 h299
  have h301 : Chg (· ∈ [g1]) w0 w202 := cext h300 s204
  have h302 : ∀ k ∈ [w21.heap.size], k ∈ [g1] ∨ w0.heap.size ≤ k := mor h23.size
  have h303 : Chg (· ∈ [g1]) w0 w290 := cM h301 h293 h302
  exact Wr (rtO (ret1 hr (resC agg_134 size_134 z h291 z) ⟨h303, z, h41, h42, p1_2, (((((h30.ext s40).ext h45).chg h50 (djs (mm1 (Blk.lt hB1) h298))).ext s204).chg h293 (djs (mm1 (Blk.lt hB1) h23.size)))⟩))
 refine Ws <| Rm z <| R z (rd_nil z) <| R z (fd fld_132_1 z) ?_
 have h314 := lt_ h35 s40.size
 have h317 := (((h30.ext s40).ext h45).chg h50 (djs (mm1 (Blk.lt hB1) h314))).ext s204
 refine R z (l1 agg_25 z fid (h317.at z)) <| Rm z ?_
 obtain ⟨x318, e319, hm320⟩ := bdS (ifF hm178 hc282)
 have h324 := mem1le (lt_ (lt_ hBw (Nat.le_of_lt (Blk.lt hB1))) h314)
 have h326 := (((h34.ext s40).ext h45).chg h50 (ltge h324)).ext s204
 refine RX z (at_ (α := UInt8) und_25 size_5 z z z h326 e319) ?_
 rintro _ ⟨b327, o328, cs329, rfl, h330, h331, h332⟩
 obtain rfl := UInt8_open h331
 refine R z (l1 agg_5 z fid (h330.at0 z)) <| R z (rd_gtr z z) <| Ra z <| Wn <| Wc z (fun hc357 => ?_) (fun hc357 => ?_)
 ·refine Ws <| Rm z <| R z (bP (parts := [(0, (.tmp 35)), (1, (.const (.int .i64 4)))]) (cs := [(vI x3), (vI 4)]) build_134 z z) <| E0 (fs (cur' := [(vI x3), (vI 4)]) size_134 z z ((((h28.ext s40).ext h45).chg h50 (djs (mm1 h28.lt s40.size))).ext s204) z (lb z) (oneAll z) z) ?_
  rintro _ w364 ⟨h365, s366⟩
  have h367 := s366.one
  refine Wn ?_
  obtain rfl := som (ifT hm320 hc357)
  have h368 : Chg (· ∈ [g1]) w0 w21 := cext (cr [g1] w0) h23
  have h369 : Chg (· ∈ [g1]) w0 w25 := cext h368 h27
  have h370 : Chg (· ∈ [g1]) w0 w39 := cext h369 s40
  have h371 : Chg (· ∈ [g1]) w0 w43 := cext h370 h45
  have h372 : ∀ k ∈ [w39.heap.size], k ∈ [g1] ∨ w0.heap.size ≤ k := mor h314
  have h373 : Chg (· ∈ [g1]) w0 w47 := cM h371 h50 h372
  have h374 : Chg (· ∈ [g1]) w0 w202 := cext h373 s204
  have h375 : ∀ k ∈ [w21.heap.size], k ∈ [g1] ∨ w0.heap.size ≤ k := mor h23.size
  have h376 : Chg (· ∈ [g1]) w0 w364 := cM h374 h367 h375
  exact Wr (rtO (ret1 hr (resC agg_134 size_134 z h365 z) ⟨h376, z, p3_0, (ii z), p1_2, (h317.chg h367 (djs (mm1 (Blk.lt hB1) h23.size)))⟩))
 refine Wk <| Wq <| WC_draw (X := noX) 384 (.rd 0 (.rd 1 (.rd 2 (.rd 3 (.rd 4 (.rd 5 (.rd 6 (.ef 7 (.ef 8 .done))))))))) mo (by kernel_rfl) fun w380 s381 _ => dR z z (mv z) <| dR z z (fd fld_82_7 z) <| dR z z (l1 agg_73 z fid (((((((h24.ext h27).ext s40).ext h45).chg h50 (djs (mm1 h24.lt (lt_ h27.size s40.size)))).ext s204).ext s381).at z)) ?_
 obtain ⟨x390, e391, hm392⟩ := bdS (ifF hm320 hc357)
 refine dRX z z (at_ (α := Int) und_73 size_3 z z z (((((((p2_7.ext h23).ext h27).ext s40).ext h45).chg h50 (ltge h324)).ext s204).ext s381) e391) ?_
 rintro _ ⟨b400, o401, cs402, rfl, h403, h404, h405⟩
 obtain ⟨rfl, h406⟩ := Int_open h404
 refine dR z z (l1 agg_3 z fid (h403.at0 z)) <| dR z z (fd fld_134_0 z) <| dR z z (l1 agg_3 z fid (((h48.ext s204).ext s381).at z)) ?_
 obtain ⟨r416, r419, e417, hm418⟩ := bd2S hm392
 refine dE z z (fc Tryz.call93 z (ih_impl_checker_value.run (B := B) e417 (h317.ext s381) hBw (((((h32.ext s40).ext h45).chg h50 (ltge h324)).ext s204).ext s381) (h326.ext s381) p1_2 h406 h41)) (.inl z) ?_
 rintro _ w420 ⟨s421, rfl, h422, h423, h424, h425⟩
 have h432 := mm1 (Blk.lt hB1) h23.size
 refine dE0 z (fs (cur' := [(vI r416.at_), (vI r416.code)]) size_134 z z ((((((h28.ext s40).ext h45).chg h50 (djs (mm1 h28.lt s40.size))).ext s204).ext s381).chg s421 (atp h432)) z (lb z) (oneAll z) z) (.inl z) ?_
 rintro _ w434 ⟨h435, s436⟩
 have h437 := s436.one
 refine PR_done <| Wo ?_
 obtain rfl := som hm418
 have h438 : Chg (· ∈ [g1]) w0 w21 := cext (cr [g1] w0) h23
 have h439 : Chg (· ∈ [g1]) w0 w25 := cext h438 h27
 have h440 : Chg (· ∈ [g1]) w0 w39 := cext h439 s40
 have h441 : Chg (· ∈ [g1]) w0 w43 := cext h440 h45
 have h442 : ∀ k ∈ [w39.heap.size], k ∈ [g1] ∨ w0.heap.size ≤ k := mor h314
 have h443 : Chg (· ∈ [g1]) w0 w47 := cM h441 h50 h442
 have h444 : Chg (· ∈ [g1]) w0 w202 := cext h443 s204
 have h445 : Chg (· ∈ [g1]) w0 w380 := cext h444 s381
 have h446 : Chg (· ∈ [g1]) w0 w420 := cM h445 s421 (inor sr)
 have h447 : ∀ k ∈ [w21.heap.size], k ∈ [g1] ∨ w0.heap.size ≤ k := mor h23.size
 have h448 : Chg (· ∈ [g1]) w0 w434 := cM h446 h437 h447
 exact Wr (ret1 hr (resC agg_134 size_134 z h435 z) ⟨h448, z, h422, h423, h424, (h425.chg h437 (djs h432))⟩)
theorem T_impl_checker_checked (ih_impl_checker_value : S_impl_checker_value n) (ih_impl_checker_array : S_impl_checker_array n) (ih_impl_checker_choice : S_impl_checker_choice n) (ih_impl_checker_option : S_impl_checker_option n) (ih_impl_checker_checked : S_impl_checker_checked n) {x1 : Checker} {g1 : Nat} {x2 : Rule} {x3 : Int} {res : Spot × Int} (hm : B_impl_checker_checked n (F_impl_checker_value n) x1 x2 x3 = some res) (hB1 : Blk w0 g1 [(.slice pa1_0 pn1_0 pc1_0), (.slice pa1_1 pn1_1 pc1_1), (vI x1.applied)]) (hBw : B ≤ g1) (p1_0 : repS w0 B (.slice pa1_0 pn1_0 pc1_0) x1.d.rules) (p1_1 : repS w0 B (.slice pa1_1 pn1_1 pc1_1) x1.b) (p1_2 : inI x1.applied) (p2_0 : x2.name.b.length ≤ LEN) (p2_1 : inI x2.kind) (p2_2 : inI x2.size) (p2_4 : repS w0 B (.slice pa2_4 pn2_4 pc2_4) x2.bytes) (p2_5 : repS w0 B (.slice pa2_5 pn2_5 pc2_5) x2.names) (p2_6 : repS w0 B (.slice pa2_6 pn2_6 pc2_6) x2.tags) (p2_7 : repS w0 B (.slice pa2_7 pn2_7 pc2_7) x2.kids) (p3_0 : inI x3) : CallsR Tryz.prog 129 [(.pointer (some ⟨g1, 0, none⟩)), (.agg #[(Str.v x2.name), (vI x2.kind), (vI x2.size), (vB x2.little), (.slice pa2_4 pn2_4 pc2_4), (.slice pa2_5 pn2_5 pc2_5), (.slice pa2_6 pn2_6 pc2_6), (.slice pa2_7 pn2_7 pc2_7)]), (vI x3)] w0 (Q_impl_checker_checked w0 g1 B pa1_0 pn1_0 pc1_0 pa1_1 pn1_1 pc1_1 x1 res) := by
 unfold B_impl_checker_checked at hm
 obtain ⟨fn, hf, hb, hN, hr⟩ := fnE Tryz.func129
 refine goW hf (hb.trans z) (hN.trans z) (lb z) <| Ws <| E z (fb z) ?_
 rintro _ w21 ⟨rfl, h22⟩
 have h23 := h22.below
 have h24 : Blk w21 w0.heap.size [(Str.v x2.name), (vI x2.kind), (vI x2.size), (vB x2.little), (.slice pa2_4 pn2_4 pc2_4), (.slice pa2_5 pn2_5 pc2_5), (.slice pa2_6 pn2_6 pc2_6), (.slice pa2_7 pn2_7 pc2_7)] := h22.blk
 refine E z (fa zero_134) ?_
 rintro _ w25 ⟨rfl, h26⟩
 have h27 := h26.below
 have h28 : Blk w25 w21.heap.size [(vI 0), (vI 0)] := h26.blk
 refine Wn <| Ws <| Rm z <| R z (fd fld_82_7 z) <| R z (l1 agg_73 z fid ((h24.ext h27).at z)) ?_
 obtain ⟨x30, e31, hm32⟩ := bdS hm
 refine RX z (at_ (α := Int) und_73 size_3 z z z ((p2_7.ext h23).ext h27) e31) ?_
 rintro _ ⟨b35, o36, cs37, rfl, h38, h39, h40⟩
 obtain ⟨rfl, h41⟩ := Int_open h39
 refine R z (l1 agg_3 z fid (h38.at0 z)) <| Rm z ?_
 have h43 := (p1_0.ext h23).ext h27
 have h45 := (p1_1.ext h23).ext h27
 obtain ⟨r48, r51, e49, hm50⟩ := bd2S hm32
 refine E z (fc Tryz.call93 z (ih_impl_checker_value.run (B := B) e49 ((hB1.ext h23).ext h27) hBw h43 h45 p1_2 h41 p3_0)) ?_
 rintro _ w52 ⟨s53, rfl, h54, h55, h56, h57⟩
 refine E z (fa zero_134) ?_
 rintro _ w58 ⟨rfl, h59⟩
 have h60 := h59.below
 have h61 : Blk w58 w52.heap.size [(vI 0), (vI 0)] := h59.blk
 refine E0 (fs (cur' := [(vI r48.at_), (vI r48.code)]) size_134 z z h61 z (lb z) (oneAll z) z) ?_
 rintro _ w62 ⟨h63, s64⟩
 have h65 := s64.one
 refine Wn <| Wq <| Ws <| R z (fd fld_134_1 z) <| R z (l1 agg_3 z fid (h63.at z)) <| R z (rd_neq z z) <| Wn <| Wc z (fun hc93 => ?_) (fun hc93 => ?_)
 ·refine Ws <| R z (lN (vs := [(vI r48.at_), (vI r48.code)]) agg_134 size_134 z z fid (h63.row 0 2 z)) ?_
  have h95 := mm1 (Blk.lt hB1) h23.size
  refine E0 (fs (cur' := [(vI r48.at_), (vI r48.code)]) size_134 z z (((h28.chg s53 (atp h95)).ext h60).chg h65 (djs (mm1 h28.lt s53.size))) z (lb z) (oneAll z) z) ?_
  rintro _ w100 ⟨h101, s102⟩
  have h103 := s102.one
  refine Wn ?_
  obtain rfl := som (ifT hm50 hc93)
  have h104 : Chg (· ∈ [g1]) w0 w21 := cext (cr [g1] w0) h23
  have h105 : Chg (· ∈ [g1]) w0 w25 := cext h104 h27
  have h106 : Chg (· ∈ [g1]) w0 w52 := cM h105 s53 (inor sr)
  have h107 : Chg (· ∈ [g1]) w0 w58 := cext h106 h60
  have h109 := lt_ (lt_ h23.size h27.size) s53.size
  have h110 : ∀ k ∈ [w52.heap.size], k ∈ [g1] ∨ w0.heap.size ≤ k := mor h109
  have h111 : Chg (· ∈ [g1]) w0 w62 := cM h107 h65 h110
  have h112 : ∀ k ∈ [w21.heap.size], k ∈ [g1] ∨ w0.heap.size ≤ k := mor h23.size
  have h113 : Chg (· ∈ [g1]) w0 w100 := cM h111 h103 h112
  exact Wr (ret1 hr (resC agg_134 size_134 z h101 z) ⟨h113, z, h54, h55, h56, (((h57.ext h60).chg h65 (djs (mm1 (Blk.lt hB1) h109))).chg h103 (djs h95))⟩)
 refine Wk <| Ws <| Rm z <| R z (fd fld_134_0 z) <| R z (l1 agg_3 z fid (h63.at z)) ?_
 have h121 := lt_ (lt_ h23.size h27.size) s53.size
 have h123 := (h57.ext h60).chg h65 (djs (mm1 (Blk.lt hB1) h121))
 have h127 := mem1le (lt_ (lt_ hBw (Nat.le_of_lt (Blk.lt hB1))) h121)
 have h131 := ((h45.chg s53 (ltge (mem1 hBw))).ext h60).chg h65 (ltge h127)
 have h133 := lt_ (lt_ h121 h60.size) h65.size
 obtain ⟨r134, e135, hm136⟩ := bdS (ifF hm50 hc93)
 refine E z (fc Tryz.call125 z (W_impl_checker_skip (B := w0.heap.size) e135 h133 (repS.mono (((h43.chg s53 (ltge (mem1 hBw))).ext h60).chg h65 (ltge h127)) (lt_ hBw (Nat.le_of_lt (Blk.lt hB1)))) (repS.mono h131 (lt_ hBw (Nat.le_of_lt (Blk.lt hB1)))) h56 (h123.row 0 3 z) (Blk.lt hB1) h54 (ii z))) ?_
 rintro _ w137 ⟨s138, rfl, h139, h140⟩
 refine E z (fa zero_134) ?_
 rintro _ w141 ⟨rfl, h142⟩
 have h143 := h142.below
 have h144 : Blk w141 w137.heap.size [(vI 0), (vI 0)] := h142.blk
 refine E0 (fs (cur' := [(vI r134.at_), (vI r134.code)]) size_134 z z h144 z (lb z) (oneAll z) z) ?_
 rintro _ w145 ⟨h146, s147⟩
 have h148 := s147.one
 refine Wn <| Wq <| Wq ?_
 obtain ⟨u200, hu201, hm202⟩ := bdS hm136
 refine WC_cut (fun a w => ∃ (x199 : Bool), x199 = u200 ∧ Sat 52 [(6, (.pointer (some ⟨w21.heap.size, 0, none⟩))), (7, (.pointer (some ⟨w52.heap.size, 0, none⟩))), (8, (.pointer (some ⟨w137.heap.size, 0, none⟩))), (47, (vB x199))] a ∧ Below w145.heap.size w145 w) ?_ ?_
 ·refine WC_draw (X := noX) 0 (.rd 0 (.rd 1 (.rd 2 (.rd 3 (.rd 4 (.rd 5 (.rd 6 (.rd 7 (.rd 8 (.rd 9 (.rd 10 (.rd 11 (.rd 12 (.rd 13 (.rd 14 (.rd 15 (.rd 16 (.rd 17 (.rd 18 (.rd 19 (.rd 20 (.ef 21 (.rd 22 (.rd 23 .done)))))))))))))))))))))))) mo (by kernel_rfl) fun w203 s204 _ => dR z z (fd fld_134_1 z) <| dR z z (l1 agg_3 z fid ((h146.ext s204).at z)) <| dR z z (eql z z) <| dR z z (mv z) ?_
  rcases bsplit (r134.code == 0) with hc206 | hc206
  ·refine dRg z z z hc206 z (mv z) <| dRg z z z hc206 z (rd_nil z) <| dRg z z z hc206 z (fd fld_132_1 z) ?_
   have h210 := lt_ h133 s138.size
   have h213 := (((h123.ext s138).ext h143).chg h148 (djs (mm1 (Blk.lt hB1) h210))).ext s204
   refine dRg z z z hc206 z (l1 agg_25 z fid (h213.at z)) <| dRg z z z hc206 z (fd fld_134_0 z) ?_
   have h219 := (((h63.ext s138).ext h143).chg h148 (djs (mm1 h61.lt (lt_ h65.size s138.size)))).ext s204
   refine dRg z z z hc206 z (l1 agg_3 z fid (h219.at z)) ?_
   obtain ⟨x220, e221, hm222⟩ := bdS (ifT hu201 hc206)
   have h228 := (((h131.ext s138).ext h143).chg h148 (ltge (mem1le (lt_ (lt_ hBw (Nat.le_of_lt (Blk.lt hB1))) h210)))).ext s204
   refine dRXg z z z hc206 z (at_ (α := UInt8) und_25 size_5 z z z h228 e221) ?_
   rintro _ ⟨b229, o230, cs231, rfl, h232, h233, h234⟩
   obtain rfl := UInt8_open h233
   refine dRg z z z hc206 z (l1 agg_5 z fid (h232.at0 z)) <| dRg z z z hc206 z (rd_convUI und_5 und_3 z) <| dRg z z z hc206 z (mv z) <| dRg z z z hc206 z (rd_nil z) <| dRg z z z hc206 z (fd fld_132_1 z) <| dRg z z z hc206 z (l1 agg_25 z fid (h213.at z)) <| dRg z z z hc206 z (mv z) <| dRg z z z hc206 z (fd fld_134_0 z) <| dRg z z z hc206 z (l1 agg_3 z fid (h219.at z)) ?_
   obtain ⟨x235, e236, hm237⟩ := bdS hm222
   refine dRXg z z z hc206 z (rd_sliceX und_25 size_5 z z h228 z z e236) ?_
   rintro _ ⟨a238, n239, c240, rfl, h241⟩
   obtain ⟨r246, e247, hm248⟩ := bdS hm237
   refine dEg z z z hc206 z (fc Tryz.call143 z (W_impl_SumOfBytes (B := B) e247 (lt_ (lt_ hBw (Nat.le_of_lt (Blk.lt hB1))) (lt_ (lt_ (lt_ h210 h143.size) h148.size) s204.size)) h241)) (.inr fun _ _ h => chgB (h.1)) ?_
   rintro _ w249 ⟨s250, rfl, h251⟩
   exact dRg z z z hc206 z (rd_neq z z) <| dR z z (pT z hc206 z) <| PR_done <| fun _ q => ⟨(byteI x220) != r246, som hm248, (q.weaken (s4 z z z z)), (bup s204 s250)⟩
  iterate 17 refine dRn z z z hc206 z ?_
  exact dEn z z z hc206 z <| dRn z z z hc206 z <| dR z z (pF z hc206 z) <| PR_done <| fun _ q => ⟨false, som (ifF hu201 hc206), (q.weaken (s4 z z z z)), s204⟩
 rintro a254 w255 ⟨x199, rfl, hS256, s257⟩
 revert a254
 refine Wo <| Wc z (fun hc305 => ?_) (fun hc305 => ?_)
 ·refine Ws <| R z (fd fld_134_0 z) <| R z (l1 agg_3 z fid (((((h63.ext s138).ext h143).chg h148 (djs (mm1 h61.lt (lt_ h65.size s138.size)))).ext s257).at z)) <| R z (bP (parts := [(0, (.tmp 49)), (1, (.const (.int .i64 5)))]) (cs := [(vI r48.at_), (vI 5)]) build_134 z z) ?_
  have h313 := mm1 (Blk.lt hB1) h23.size
  have h324 := (((((h28.chg s53 (atp h313)).ext h60).chg h65 (djs (mm1 h28.lt s53.size))).ext s138).ext h143).chg h148 (djs (mm1 h28.lt (lt_ (lt_ (lt_ s53.size h60.size) h65.size) s138.size)))
  refine E0 (fs (cur' := [(vI r48.at_), (vI 5)]) size_134 z z (h324.ext s257) z (lb z) (oneAll z) z) ?_
  rintro _ w326 ⟨h327, s328⟩
  have h329 := s328.one
  refine Wn ?_
  obtain rfl := som (ifT hm202 hc305)
  have h330 : Chg (· ∈ [g1]) w0 w21 := cext (cr [g1] w0) h23
  have h331 : Chg (· ∈ [g1]) w0 w25 := cext h330 h27
  have h332 : Chg (· ∈ [g1]) w0 w52 := cM h331 s53 (inor sr)
  have h333 : Chg (· ∈ [g1]) w0 w58 := cext h332 h60
  have h334 : ∀ k ∈ [w52.heap.size], k ∈ [g1] ∨ w0.heap.size ≤ k := mor h121
  have h335 : Chg (· ∈ [g1]) w0 w62 := cM h333 h65 h334
  have h336 : Chg (· ∈ [g1]) w0 w137 := cext h335 s138
  have h337 : Chg (· ∈ [g1]) w0 w141 := cext h336 h143
  have h338 := lt_ h133 s138.size
  have h339 : ∀ k ∈ [w137.heap.size], k ∈ [g1] ∨ w0.heap.size ≤ k := mor h338
  have h340 : Chg (· ∈ [g1]) w0 w145 := cM h337 h148 h339
  have h341 : Chg (· ∈ [g1]) w0 w255 := cext h340 s257
  have h342 : ∀ k ∈ [w21.heap.size], k ∈ [g1] ∨ w0.heap.size ≤ k := mor h23.size
  have h343 : Chg (· ∈ [g1]) w0 w326 := cM h341 h329 h342
  exact Wr (ret1 hr (resC agg_134 size_134 z h327 z) ⟨h343, z, h54, (ii z), h56, (((((h123.ext s138).ext h143).chg h148 (djs (mm1 (Blk.lt hB1) h338))).ext s257).chg h329 (djs h313))⟩)
 refine Wk <| Ws <| R z (lN (vs := [(vI r134.at_), (vI r134.code)]) agg_134 size_134 z z fid ((h146.ext s257).row 0 2 z)) ?_
 have h352 := mm1 (Blk.lt hB1) h23.size
 have h363 := (((((h28.chg s53 (atp h352)).ext h60).chg h65 (djs (mm1 h28.lt s53.size))).ext s138).ext h143).chg h148 (djs (mm1 h28.lt (lt_ (lt_ (lt_ s53.size h60.size) h65.size) s138.size)))
 refine E0 (fs (cur' := [(vI r134.at_), (vI r134.code)]) size_134 z z (h363.ext s257) z (lb z) (oneAll z) z) ?_
 rintro _ w365 ⟨h366, s367⟩
 have h368 := s367.one
 refine Wn ?_
 obtain rfl := som (ifF hm202 hc305)
 have h369 : Chg (· ∈ [g1]) w0 w21 := cext (cr [g1] w0) h23
 have h370 : Chg (· ∈ [g1]) w0 w25 := cext h369 h27
 have h371 : Chg (· ∈ [g1]) w0 w52 := cM h370 s53 (inor sr)
 have h372 : Chg (· ∈ [g1]) w0 w58 := cext h371 h60
 have h373 : ∀ k ∈ [w52.heap.size], k ∈ [g1] ∨ w0.heap.size ≤ k := mor h121
 have h374 : Chg (· ∈ [g1]) w0 w62 := cM h372 h65 h373
 have h375 : Chg (· ∈ [g1]) w0 w137 := cext h374 s138
 have h376 : Chg (· ∈ [g1]) w0 w141 := cext h375 h143
 have h377 := lt_ h133 s138.size
 have h378 : ∀ k ∈ [w137.heap.size], k ∈ [g1] ∨ w0.heap.size ≤ k := mor h377
 have h379 : Chg (· ∈ [g1]) w0 w145 := cM h376 h148 h378
 have h380 : Chg (· ∈ [g1]) w0 w255 := cext h379 s257
 have h381 : ∀ k ∈ [w21.heap.size], k ∈ [g1] ∨ w0.heap.size ≤ k := mor h23.size
 have h382 : Chg (· ∈ [g1]) w0 w365 := cM h380 h368 h381
 exact Wr (ret1 hr (resC agg_134 size_134 z h366 z) ⟨h382, z, h139, h140, h56, (((((h123.ext s138).ext h143).chg h148 (djs (mm1 (Blk.lt hB1) h377))).ext s257).chg h368 (djs h352))⟩)
theorem A_impl_checker_value : ∀ n, S_impl_checker_value n ∧ S_impl_checker_array n ∧ S_impl_checker_choice n ∧ S_impl_checker_option n ∧ S_impl_checker_checked n
  | 0 => ⟨⟨fun hm => by intros; exact nomatch (show none = some _ from hm)⟩, ⟨fun hm => by intros; exact nomatch (show none = some _ from hm)⟩, ⟨fun hm => by intros; exact nomatch (show none = some _ from hm)⟩, ⟨fun hm => by intros; exact nomatch (show none = some _ from hm)⟩, ⟨fun hm => by intros; exact nomatch (show none = some _ from hm)⟩⟩
  | n + 1 => by
    have ih := A_impl_checker_value n
    obtain ⟨i0, i1, i2, i3, i4⟩ := ih
    exact ⟨⟨fun hm => T_impl_checker_value i0 i1 i2 i3 i4 hm⟩, ⟨fun hm => T_impl_checker_array i0 i1 i2 i3 i4 hm⟩, ⟨fun hm => T_impl_checker_choice i0 i1 i2 i3 i4 hm⟩, ⟨fun hm => T_impl_checker_option i0 i1 i2 i3 i4 hm⟩, ⟨fun hm => T_impl_checker_checked i0 i1 i2 i3 i4 hm⟩⟩
theorem W_impl_checker_value : ∀ {x1 : Checker} {g1 : Nat} {x2 : Int} {x3 : Int} {res : Spot × Int} (hm : (F_impl_checker_value n).impl_checker_value x1 x2 x3 = some res) (hB1 : Blk w0 g1 [(.slice pa1_0 pn1_0 pc1_0), (.slice pa1_1 pn1_1 pc1_1), (vI x1.applied)]) (hBw : B ≤ g1) (p1_0 : repS w0 B (.slice pa1_0 pn1_0 pc1_0) x1.d.rules) (p1_1 : repS w0 B (.slice pa1_1 pn1_1 pc1_1) x1.b) (p1_2 : inI x1.applied) (p2_0 : inI x2) (p3_0 : inI x3), CallsR Tryz.prog 93 [(.pointer (some ⟨g1, 0, none⟩)), (vI x2), (vI x3)] w0 (Q_impl_checker_value w0 g1 B pa1_0 pn1_0 pc1_0 pa1_1 pn1_1 pc1_1 x1 res) := ((A_impl_checker_value n).1).run
theorem W_impl_checker_array : ∀ {x1 : Checker} {g1 : Nat} {x2 : Rule} {x3 : Int} {res : Spot × Int} (hm : (F_impl_checker_value n).impl_checker_array x1 x2 x3 = some res) (hB1 : Blk w0 g1 [(.slice pa1_0 pn1_0 pc1_0), (.slice pa1_1 pn1_1 pc1_1), (vI x1.applied)]) (hBw : B ≤ g1) (p1_0 : repS w0 B (.slice pa1_0 pn1_0 pc1_0) x1.d.rules) (p1_1 : repS w0 B (.slice pa1_1 pn1_1 pc1_1) x1.b) (p1_2 : inI x1.applied) (p2_0 : x2.name.b.length ≤ LEN) (p2_1 : inI x2.kind) (p2_2 : inI x2.size) (p2_4 : repS w0 B (.slice pa2_4 pn2_4 pc2_4) x2.bytes) (p2_5 : repS w0 B (.slice pa2_5 pn2_5 pc2_5) x2.names) (p2_6 : repS w0 B (.slice pa2_6 pn2_6 pc2_6) x2.tags) (p2_7 : repS w0 B (.slice pa2_7 pn2_7 pc2_7) x2.kids) (p3_0 : inI x3), CallsR Tryz.prog 126 [(.pointer (some ⟨g1, 0, none⟩)), (.agg #[(Str.v x2.name), (vI x2.kind), (vI x2.size), (vB x2.little), (.slice pa2_4 pn2_4 pc2_4), (.slice pa2_5 pn2_5 pc2_5), (.slice pa2_6 pn2_6 pc2_6), (.slice pa2_7 pn2_7 pc2_7)]), (vI x3)] w0 (Q_impl_checker_array w0 g1 B pa1_0 pn1_0 pc1_0 pa1_1 pn1_1 pc1_1 x1 res) := ((A_impl_checker_value n).2.1).run
theorem W_impl_checker_choice : ∀ {x1 : Checker} {g1 : Nat} {x2 : Rule} {x3 : Int} {res : Spot × Int} (hm : (F_impl_checker_value n).impl_checker_choice x1 x2 x3 = some res) (hB1 : Blk w0 g1 [(.slice pa1_0 pn1_0 pc1_0), (.slice pa1_1 pn1_1 pc1_1), (vI x1.applied)]) (hBw : B ≤ g1) (p1_0 : repS w0 B (.slice pa1_0 pn1_0 pc1_0) x1.d.rules) (p1_1 : repS w0 B (.slice pa1_1 pn1_1 pc1_1) x1.b) (p1_2 : inI x1.applied) (p2_0 : x2.name.b.length ≤ LEN) (p2_1 : inI x2.kind) (p2_2 : inI x2.size) (p2_4 : repS w0 B (.slice pa2_4 pn2_4 pc2_4) x2.bytes) (p2_5 : repS w0 B (.slice pa2_5 pn2_5 pc2_5) x2.names) (p2_6 : repS w0 B (.slice pa2_6 pn2_6 pc2_6) x2.tags) (p2_7 : repS w0 B (.slice pa2_7 pn2_7 pc2_7) x2.kids) (p3_0 : inI x3), CallsR Tryz.prog 127 [(.pointer (some ⟨g1, 0, none⟩)), (.agg #[(Str.v x2.name), (vI x2.kind), (vI x2.size), (vB x2.little), (.slice pa2_4 pn2_4 pc2_4), (.slice pa2_5 pn2_5 pc2_5), (.slice pa2_6 pn2_6 pc2_6), (.slice pa2_7 pn2_7 pc2_7)]), (vI x3)] w0 (Q_impl_checker_choice w0 g1 B pa1_0 pn1_0 pc1_0 pa1_1 pn1_1 pc1_1 x1 res) := ((A_impl_checker_value n).2.2.1).run
theorem W_impl_checker_option : ∀ {x1 : Checker} {g1 : Nat} {x2 : Rule} {x3 : Int} {res : Spot × Int} (hm : (F_impl_checker_value n).impl_checker_option x1 x2 x3 = some res) (hB1 : Blk w0 g1 [(.slice pa1_0 pn1_0 pc1_0), (.slice pa1_1 pn1_1 pc1_1), (vI x1.applied)]) (hBw : B ≤ g1) (p1_0 : repS w0 B (.slice pa1_0 pn1_0 pc1_0) x1.d.rules) (p1_1 : repS w0 B (.slice pa1_1 pn1_1 pc1_1) x1.b) (p1_2 : inI x1.applied) (p2_0 : x2.name.b.length ≤ LEN) (p2_1 : inI x2.kind) (p2_2 : inI x2.size) (p2_4 : repS w0 B (.slice pa2_4 pn2_4 pc2_4) x2.bytes) (p2_5 : repS w0 B (.slice pa2_5 pn2_5 pc2_5) x2.names) (p2_6 : repS w0 B (.slice pa2_6 pn2_6 pc2_6) x2.tags) (p2_7 : repS w0 B (.slice pa2_7 pn2_7 pc2_7) x2.kids) (p3_0 : inI x3), CallsR Tryz.prog 128 [(.pointer (some ⟨g1, 0, none⟩)), (.agg #[(Str.v x2.name), (vI x2.kind), (vI x2.size), (vB x2.little), (.slice pa2_4 pn2_4 pc2_4), (.slice pa2_5 pn2_5 pc2_5), (.slice pa2_6 pn2_6 pc2_6), (.slice pa2_7 pn2_7 pc2_7)]), (vI x3)] w0 (Q_impl_checker_option w0 g1 B pa1_0 pn1_0 pc1_0 pa1_1 pn1_1 pc1_1 x1 res) := ((A_impl_checker_value n).2.2.2.1).run
theorem W_impl_checker_checked : ∀ {x1 : Checker} {g1 : Nat} {x2 : Rule} {x3 : Int} {res : Spot × Int} (hm : (F_impl_checker_value n).impl_checker_checked x1 x2 x3 = some res) (hB1 : Blk w0 g1 [(.slice pa1_0 pn1_0 pc1_0), (.slice pa1_1 pn1_1 pc1_1), (vI x1.applied)]) (hBw : B ≤ g1) (p1_0 : repS w0 B (.slice pa1_0 pn1_0 pc1_0) x1.d.rules) (p1_1 : repS w0 B (.slice pa1_1 pn1_1 pc1_1) x1.b) (p1_2 : inI x1.applied) (p2_0 : x2.name.b.length ≤ LEN) (p2_1 : inI x2.kind) (p2_2 : inI x2.size) (p2_4 : repS w0 B (.slice pa2_4 pn2_4 pc2_4) x2.bytes) (p2_5 : repS w0 B (.slice pa2_5 pn2_5 pc2_5) x2.names) (p2_6 : repS w0 B (.slice pa2_6 pn2_6 pc2_6) x2.tags) (p2_7 : repS w0 B (.slice pa2_7 pn2_7 pc2_7) x2.kids) (p3_0 : inI x3), CallsR Tryz.prog 129 [(.pointer (some ⟨g1, 0, none⟩)), (.agg #[(Str.v x2.name), (vI x2.kind), (vI x2.size), (vB x2.little), (.slice pa2_4 pn2_4 pc2_4), (.slice pa2_5 pn2_5 pc2_5), (.slice pa2_6 pn2_6 pc2_6), (.slice pa2_7 pn2_7 pc2_7)]), (vI x3)] w0 (Q_impl_checker_checked w0 g1 B pa1_0 pn1_0 pc1_0 pa1_1 pn1_1 pc1_1 x1 res) := ((A_impl_checker_value n).2.2.2.2).run

def Q_impl_CheckValue (w0 : World) (B : Nat) (r : Int × Int) (v : Value) (w' : World) : Prop := Below w0.heap.size w0 w' ∧ un2 (fun r1 r2 => v = .tuple #[(vI r1), (vI r2)] ∧ inI r1 ∧ inI r2) r
theorem W_impl_CheckValue {x1 : Desc} {x2 : Int} {x3 : List UInt8} {x4 : Int} {res : Int × Int} (hm : M_impl_CheckValue n x1 x2 x3 x4 = some res) (hBw : B ≤ w0.heap.size) (p1_0 : repS w0 B (.slice pa1_0 pn1_0 pc1_0) x1.rules) (p2_0 : inI x2) (p3_0 : repS w0 B (.slice pa3_0 pn3_0 pc3_0) x3) (p4_0 : inI x4) : CallsR Tryz.prog 58 [(.agg #[(.slice pa1_0 pn1_0 pc1_0)]), (vI x2), (.slice pa3_0 pn3_0 pc3_0), (vI x4)] w0 (Q_impl_CheckValue w0 B res) := by
 unfold M_impl_CheckValue at hm
 obtain ⟨fn, hf, hb, hN, hr⟩ := fnE Tryz.func58
 refine goW hf (hb.trans z) (hN.trans z) (lb z) <| Ws <| E z (fb z) ?_
 rintro _ w21 ⟨rfl, h22⟩
 have h23 := h22.below
 have h24 : Blk w21 w0.heap.size [(.slice pa1_0 pn1_0 pc1_0)] := h22.blk
 refine Ra z <| Ra z <| Wn <| Wq <| Wq ?_
 obtain ⟨u44, hu45, hm46⟩ := bdS hm
 refine WC_cut (fun a w => ∃ (x43 : Bool), x43 = u44 ∧ Sat 43 [(1, (vI x2)), (2, (.slice pa3_0 pn3_0 pc3_0)), (3, (vI x4)), (4, (.pointer (some ⟨w0.heap.size, 0, none⟩))), (30, (vB x43))] a ∧ Below w21.heap.size w21 w) ?_ ?_
 ·refine Wg <| R z (lN (vs := [(.slice pa1_0 pn1_0 pc1_0)]) agg_31 size_31 z z fid (h24.row 0 1 z)) <| Rm z ?_
  obtain ⟨r49, e50, hm51⟩ := bdS hu45
  refine E z (fc Tryz.call90 z (W_impl_known (B := B) e50 (lt_ hBw h23.size) (p1_0.ext h23) p2_0)) ?_
  rintro _ w52 ⟨s53, rfl⟩
  refine R z (not_ z) <| Rm z ?_
  rcases bsplit (!r49) with hc54 | hc54
  ·refine Nh z hc54 <| Nh z hc54 <| R z (pT z hc54 z) <| Rm z <| Nh z z <| Nh z z <| Nh z z <| Nh z z <| R z (pT z z z) <| Rm z <| Nh z z <| Nh z z <| Nh z z <| R z (pT z z z) <| Wl ?_
   exact fun _ q => ⟨true, som (ifT hm51 hc54), (q.weaken (s5 z z z z z)), s53⟩
  have hm56 := ifF hm51 hc54
  refine Rh z hc54 (mv z) <| Rh z hc54 (lss z z) <| R z (pF z hc54 z) <| Rm z ?_
  rcases bsplit (decide (x4 < 0)) with hc57 | hc57
  ·iterate 4 refine Nh z hc57 ?_
   exact R z (pT z hc57 z) <| Rm z <| Nh z z <| Nh z z <| Nh z z <| R z (pT z z z) <| Wl <| fun _ q => ⟨true, som (ifT hm56 hc57), (q.weaken (s5 z z z z z)), s53⟩
  have hm59 := ifF hm56 hc57
  refine Rh z hc57 (mv z) <| Rh z hc57 (mv z) ?_
  have h61 := (p3_0.ext h23).ext s53
  refine Rh z hc57 (lnR und_25 z h61) <| Rh z hc57 (rd_gtr z z) <| R z (pF z hc57 z) <| Rm z ?_
  rcases bsplit (decide ((x3.length : Int) < x4)) with hc62 | hc62
  ·iterate 3 refine Nh z hc62 ?_
   exact R z (pT z hc62 z) <| Wl <| fun _ q => ⟨true, som (ifT hm59 hc62), (q.weaken (s5 z z z z z)), s53⟩
  exact Rh z hc62 (mv z) <| Rh z hc62 (lnR und_25 z h61) <| Rh z hc62 (rd_gtr z z) <| R z (pF z hc62 z) <| Wl <| fun _ q => ⟨decide (400 < (x3.length : Int)), som (ifF hm59 hc62), (q.weaken (s5 z z z z z)), s53⟩
 rintro a65 w66 ⟨x43, rfl, hS67, s68⟩
 revert a65
 refine Wo <| Wc z (fun hc74 => ?_) (fun hc74 => ?_)
 ·refine Ws <| Ra z <| Ra z <| Wn ?_
  obtain rfl := som (ifT hm46 hc74)
  exact Wr (ret2 hr z z ⟨(bup h23 s68), z, (ii z), (ii z)⟩)
 refine Wk <| Ws <| R z (lN (vs := [(.slice pa1_0 pn1_0 pc1_0)]) agg_31 size_31 z z fid ((h24.ext s68).row 0 1 z)) <| Rm z <| R z (bP (parts := [(0, (.tmp 31)), (1, (.tmp 32))]) (cs := [(.slice pa1_0 pn1_0 pc1_0), (.slice pa3_0 pn3_0 pc3_0), (vI 0)]) build_132 z z) <| E z (fb z) ?_
 rintro _ w79 ⟨rfl, h80⟩
 have h81 := h80.below
 have h82 : Blk w79 w66.heap.size [(.slice pa1_0 pn1_0 pc1_0), (.slice pa3_0 pn3_0 pc3_0), (vI 0)] := h80.blk
 refine Ra z <| Wn <| Ws <| Rm z <| Rm z <| Rm z ?_
 have h89 := lt_ h23.size s68.size
 obtain ⟨r91, r94, e92, hm93⟩ := bd2S (ifF hm46 hc74)
 refine E z (fc Tryz.call93 z (W_impl_checker_value (B := B) e92 h82 (lt_ hBw h89) (((p1_0.ext h23).ext s68).ext h81) (((p3_0.ext h23).ext s68).ext h81) (ii z) p2_0 p4_0)) ?_
 rintro _ w95 ⟨s96, rfl, h97, h98, h99, h100⟩
 refine E z (fa zero_134) ?_
 rintro _ w101 ⟨rfl, h102⟩
 have h104 : Blk w101 w95.heap.size [(vI 0), (vI 0)] := h102.blk
 refine E0 (fs (cur' := [(vI r91.at_), (vI r91.code)]) size_134 z z h104 z (lb z) (oneAll z) z) ?_
 rintro _ w105 ⟨h106, s107⟩
 refine Wn <| Wq <| WC_draw (X := noX) 0 (.rd 0 (.rd 1 (.rd 2 (.rd 3 (.rd 4 (.rd 5 .done)))))) mo (by kernel_rfl) fun w109 s110 _ => dR z z (fd fld_134_0 z) ?_
 have h111 := h106.ext s110
 refine dR z z (l1 agg_3 z fid (h111.at z)) <| dR z z (fd fld_134_1 z) <| dR z z (l1 agg_3 z fid (h111.at z)) <| dR z z (asg z) <| dR z z (asg z) <| PR_done <| Wo ?_
 obtain rfl := som hm93
 exact Wr (ret2 hr z z ⟨(bup (bM (bup (bM (bup (bup h23 s68) h81) s96 (mem1le h89)) h102.below) s107.one (mem1le (lt_ (lt_ h89 h81.size) s96.size))) s110), z, h97, h98⟩)
def Q_impl_FormatInt (w0 : World) (B : Nat) (r : Str) (v : Value) (w' : World) : Prop := Below w0.heap.size w0 w' ∧ (fun r1 => (Str.v r1) = v ∧ r1.b.length ≤ LEN) r
theorem W_impl_FormatInt {x1 : Int} {res : Str} (hm : M_impl_FormatInt x1 = some res) (hBw : B ≤ w0.heap.size) (hG : Gl w0 B) (p1_0 : inI x1) : CallsR Tryz.prog 94 [(vI x1)] w0 (Q_impl_FormatInt w0 B res) := by
 unfold M_impl_FormatInt at hm
 obtain ⟨fn, hf, hb, hN, hr⟩ := fnE Tryz.func94
 refine goW hf (hb.trans z) (hN.trans z) (lb z) <| Ws <| Ra z <| Wn <| Ws <| Rm z ?_
 obtain ⟨r21, e22, hm23⟩ := bdS hm
 refine E z (fc Tryz.call130 z (W_strconv_Itoa (B := B) e22 hBw hG p1_0)) ?_
 rintro _ w24 ⟨s25, rfl, h26⟩
 refine Ra z <| Wn ?_
 obtain rfl := som hm23
 exact Wr (ret1 hr z ⟨s25, z, h26⟩)
def Q_impl_StepOf (w0 : World) (B : Nat) (r : Str) (v : Value) (w' : World) : Prop := Below w0.heap.size w0 w' ∧ (fun r1 => (Str.v r1) = v ∧ r1.b.length ≤ LEN) r
theorem W_impl_StepOf {x1 : Desc} {x2 : Int} {x3 : Int} {res : Str} (hm : M_impl_StepOf n x1 x2 x3 = some res) (hBw : B ≤ w0.heap.size) (hG : Gl w0 B) (p1_0 : repS w0 B (.slice pa1_0 pn1_0 pc1_0) x1.rules) (p2_0 : inI x2) (p3_0 : inI x3) : CallsR Tryz.prog 59 [(.agg #[(.slice pa1_0 pn1_0 pc1_0)]), (vI x2), (vI x3)] w0 (Q_impl_StepOf w0 B res) := by
 unfold M_impl_StepOf at hm
 obtain ⟨fn, hf, hb, hN, hr⟩ := fnE Tryz.func59
 refine goW hf (hb.trans z) (hN.trans z) (lb z) <| Ws <| E z (fb z) ?_
 rintro _ w21 ⟨rfl, h22⟩
 have h23 := h22.below
 have h24 : Blk w21 w0.heap.size [(.slice pa1_0 pn1_0 pc1_0)] := h22.blk
 refine Ra z <| Wn <| Wq <| Wq ?_
 obtain ⟨u36, hu37, hm38⟩ := bdS hm
 refine WC_cut (fun a w => ∃ (x35 : Bool), x35 = u36 ∧ Sat 58 [(1, (vI x2)), (2, (vI x3)), (3, (.pointer (some ⟨w0.heap.size, 0, none⟩))), (15, (vB x35))] a ∧ Below w21.heap.size w21 w) ?_ ?_
 ·refine Wg <| R z (lN (vs := [(.slice pa1_0 pn1_0 pc1_0)]) agg_31 size_31 z z fid (h24.row 0 1 z)) <| Rm z ?_
  obtain ⟨r41, e42, hm43⟩ := bdS hu37
  refine E z (fc Tryz.call90 z (W_impl_known (B := B) e42 (lt_ hBw h23.size) (p1_0.ext h23) p2_0)) ?_
  rintro _ w44 ⟨s45, rfl⟩
  refine R z (not_ z) <| Rm z ?_
  rcases bsplit (!r41) with hc46 | hc46
  ·exact Nh z hc46 <| Nh z hc46 <| R z (pT z hc46 z) <| Wl <| fun _ q => ⟨true, som (ifT hm43 hc46), (q.weaken (s4 z z z z)), s45⟩
  exact Rh z hc46 (mv z) <| Rh z hc46 (lss z z) <| R z (pF z hc46 z) <| Wl <| fun _ q => ⟨decide (x3 < 0), som (ifF hm43 hc46), (q.weaken (s4 z z z z)), s45⟩
 rintro a49 w50 ⟨x35, rfl, hS51, s52⟩
 revert a49
 refine Wo <| Wc z (fun hc58 => ?_) (fun hc58 => ?_)
 ·refine Ws <| Ra z <| Wn ?_
  obtain rfl := som (ifT hm38 hc58)
  exact Wr (ret1 hr z ⟨(bup h23 s52), z, (lb z)⟩)
 refine Wk <| Ws <| R z (fd fld_31_0 z) <| R z (l1 agg_29 z fid ((h24.ext s52).at z)) <| Rm z ?_
 obtain ⟨x63, e64, hm65⟩ := bdS (ifF hm38 hc58)
 refine RX z (at_ (α := Rule) und_29 size_82 z z z ((p1_0.ext h23).ext s52) e64) ?_
 rintro _ ⟨b68, o69, cs70, rfl, h71, h72, h73⟩
 obtain ⟨a77, n78, c79, a81, n82, c83, a85, n86, c87, a89, n90, c91, rfl, h74, h75, h76, h80, h84, h88, h92⟩ := Rule_open h72
 refine R z (lN (vs := [(Str.v x63.name), (vI x63.kind), (vI x63.size), (vB x63.little), (.slice a77 n78 c79), (.slice a81 n82 c83), (.slice a85 n86 c87), (.slice a89 n90 c91)]) agg_82 size_82 z z fid h71) <| E z (fa zero_82) ?_
 rintro _ w93 ⟨rfl, h94⟩
 have h95 := h94.below
 have h96 : Blk w93 w50.heap.size [(Str.v (⟨[]⟩ : Str)), (vI 0), (vI 0), (vB false), (.slice none 0 0), (.slice none 0 0), (.slice none 0 0), (.slice none 0 0)] := h94.blk
 refine E0 (fs (cur' := [(Str.v x63.name), (vI x63.kind), (vI x63.size), (vB x63.little), (.slice a77 n78 c79), (.slice a81 n82 c83), (.slice a85 n86 c87), (.slice a89 n90 c91)]) size_82 z z h96 z (lb z) (oneAll z) z) ?_
 rintro _ w97 ⟨h98, s99⟩
 have h100 := s99.one
 refine Wn <| Wq <| WC_block <| Ws <| R z (fd fld_82_1 z) <| R z (l1 agg_3 z fid (h98.at z)) <| R z (eql z z) <| Ra z <| Wn <| Wc z (fun hc339 => ?_) (fun hc339 => ?_)
 ·refine Ws <| Rm z ?_
  have h344 := lt_ h23.size s52.size
  obtain ⟨r351, e352, hm353⟩ := bdS (ifT hm65 hc339)
  refine E z (fc Tryz.call94 z (W_impl_FormatInt (B := B) e352 (lt_ hBw (lt_ (lt_ h344 h95.size) h100.size)) ((((hG.ext h23).ext s52).ext h95).chg h100 (ltge (mem1le (lt_ hBw h344)))) p3_0)) ?_
  rintro _ w354 ⟨s355, rfl, h356⟩
  refine Ra z <| Wn ?_
  obtain rfl := som hm353
  exact Wr (rtO (ret1 hr z ⟨(bup (bM (bup (bup h23 s52) h95) h100 (mem1le h344)) s355), z, h356⟩))
 refine Wq ?_
 obtain ⟨u372, hu373, hm374⟩ := bdS (ifF hm65 hc339)
 refine WC_cut (fun a w => ∃ (x371 : Bool), x371 = u372 ∧ Sat 58 [(2, (vI x3)), (7, (.pointer (some ⟨w50.heap.size, 0, none⟩))), (27, (vB x371))] a ∧ Below w97.heap.size w97 w) ?_ ?_
 ·refine Wg <| R z (fd fld_82_1 z) <| R z (l1 agg_3 z fid (h98.at z)) <| R z (eql z z) <| Rm z ?_
  rcases bsplit (x63.kind == 6) with hc375 | hc375
  ·exact Rh z hc375 (mv z) <| Rh z hc375 (fd fld_82_5 z) <| Rh z hc375 (l1 agg_72 z fid (h98.at z)) <| Rh z hc375 (lnR und_72 z ((h84.ext h95).chg h100 (ltge (mem1le (lt_ hBw (lt_ h23.size s52.size)))))) <| Rh z hc375 (lss z z) <| R z (pT z hc375 z) <| Ra z <| Wl <| fun _ q => ⟨decide (x3 < (x63.names.length : Int)), som (ifT hu373 hc375), (q.weaken (s3 z z z)), (br w97)⟩
  iterate 5 refine Nh z hc375 ?_
  exact R z (pF z hc375 z) <| Ra z <| Wl <| fun _ q => ⟨false, som (ifF hu373 hc375), (q.weaken (s3 z z z)), (br w97)⟩
 rintro a383 w384 ⟨x371, rfl, hS385, s386⟩
 revert a383
 refine Wo <| Wc z (fun hc464 => ?_) (fun hc464 => ?_)
 ·refine Ws <| R z (fd fld_82_5 z) <| R z (l1 agg_72 z fid ((h98.ext s386).at z)) <| Rm z ?_
  obtain ⟨x467, e468, hm469⟩ := bdS (ifT hm374 hc464)
  have h471 := lt_ h23.size s52.size
  refine RX z (at_ (α := Str) und_72 size_9 z z z (((h84.ext h95).chg h100 (ltge (mem1le (lt_ hBw h471)))).ext s386) e468) ?_
  rintro _ ⟨b476, o477, cs478, rfl, h479, h480, h481⟩
  obtain ⟨rfl, h482⟩ := Str_open h480
  refine R z (l1 agg_9 z fid (h479.at0 z)) <| Ra z <| Wn ?_
  obtain rfl := som hm469
  exact Wr (rtO (ret1 hr z ⟨(bup (bM (bup (bup h23 s52) h95) h100 (mem1le h471)) s386), z, h482⟩))
 have hm488 := ifF hm374 hc464
 refine Ws <| Rm z <| R z (rd_gtr z z) <| Ra z <| Wn <| Wc z (fun hc536 => ?_) (fun hc536 => ?_)
 ·refine Ws <| Ra z <| Wn ?_
  obtain rfl := som (ifT hm488 hc536)
  exact Wr (rtO (ret1 hr z ⟨(bup (bM (bup (bup h23 s52) h95) h100 (mem1le (lt_ h23.size s52.size))) s386), z, (lb z)⟩))
 have hm544 := ifF hm488 hc536
 refine Ws <| R z (fd fld_82_1 z) ?_
 have h545 := h98.ext s386
 refine R z (l1 agg_3 z fid (h545.at z)) <| R z (eql z z) <| Ra z <| Wn <| Wc z (fun hc579 => ?_) (fun hc579 => ?_)
 ·refine Ws <| Ra z <| Wn ?_
  obtain rfl := som (ifT hm544 hc579)
  exact Wr (rtO (ret1 hr z ⟨(bup (bM (bup (bup h23 s52) h95) h100 (mem1le (lt_ h23.size s52.size))) s386), z, (lb z)⟩))
 have hm587 := ifF hm544 hc579
 refine Ws <| R z (fd fld_82_1 z) <| R z (l1 agg_3 z fid (h545.at z)) <| R z (eql z z) <| Ra z <| Wn <| Wc z (fun hc609 => ?_) (fun hc609 => ?_)
 ·refine Ws <| Ra z <| Wn ?_
  obtain rfl := som (ifT hm587 hc609)
  exact Wr (rtO (ret1 hr z ⟨(bup (bM (bup (bup h23 s52) h95) h100 (mem1le (lt_ h23.size s52.size))) s386), z, (lb z)⟩))
 have hm617 := ifF hm587 hc609
 refine Ws <| R z (fd fld_82_1 z) <| R z (l1 agg_3 z fid (h545.at z)) <| R z (eql z z) <| Ra z <| Wn <| Wc z (fun hc628 => ?_) (fun hc628 => ?_)
 ·refine Ws <| Ra z <| Wn ?_
  obtain rfl := som (ifT hm617 hc628)
  exact Wr (rtO (ret1 hr z ⟨(bup (bM (bup (bup h23 s52) h95) h100 (mem1le (lt_ h23.size s52.size))) s386), z, (lb z)⟩))
 refine Wk <| Ws <| Ra z <| Wn ?_
 obtain rfl := som (ifF hm617 hc628)
 exact Wr (ret1 hr z ⟨(bup (bM (bup (bup h23 s52) h95) h100 (mem1le (lt_ h23.size s52.size))) s386), z, (lb z)⟩)
def Q_impl_childRule (w0 : World) (B : Nat) (r : Int) (v : Value) (w' : World) : Prop := Below w0.heap.size w0 w' ∧ (fun r1 => (vI r1) = v ∧ inI r1) r
theorem W_impl_childRule {x1 : Desc} {x2 : Int} {x3 : Val} {b3 o3 : Nat} {x4 : Int} {res : Int} (hm : M_impl_childRule x1 x2 x3 x4 = some res) (hBw : B ≤ w0.heap.size) (p1_0 : repS w0 B (.slice pa1_0 pn1_0 pc1_0) x1.rules) (p2_0 : inI x2) (p3_0 : inI x3.number) (p3_1 : repS w0 B (.slice pa3_1 pn3_1 pc3_1) x3.bytes) (p3_2 : repS w0 B (.slice pa3_2 pn3_2 pc3_2) x3.items) (hC3 : CellsAt w0 b3 o3 [(vI x3.number), (.slice pa3_1 pn3_1 pc3_1), (.slice pa3_2 pn3_2 pc3_2)]) (hC3b : b3 < B) (p4_0 : inI x4) : CallsR Tryz.prog 60 [(.agg #[(.slice pa1_0 pn1_0 pc1_0)]), (vI x2), (.pointer (some ⟨b3, o3, none⟩)), (vI x4)] w0 (Q_impl_childRule w0 B res) := by
 unfold M_impl_childRule at hm
 obtain ⟨fn, hf, hb, hN, hr⟩ := fnE Tryz.func60
 refine goW hf (hb.trans z) (hN.trans z) (lb z) <| Ws <| E z (fb z) ?_
 rintro _ w21 ⟨rfl, h22⟩
 have h23 := h22.below
 have h24 : Blk w21 w0.heap.size [(.slice pa1_0 pn1_0 pc1_0)] := h22.blk
 refine Ra z <| Wn <| Ws <| R z (fd fld_31_0 z) <| R z (l1 agg_29 z fid (h24.at z)) <| Rm z ?_
 obtain ⟨x25, e26, hm27⟩ := bdS hm
 refine RX z (at_ (α := Rule) und_29 size_82 z z z (p1_0.ext h23) e26) ?_
 rintro _ ⟨b29, o30, cs31, rfl, h32, h33, h34⟩
 obtain ⟨a38, n39, c40, a42, n43, c44, a46, n47, c48, a50, n51, c52, rfl, h35, h36, h37, h41, h45, h49, h53⟩ := Rule_open h33
 refine Ra z <| Wn <| Wq <| Ws <| Rm z <| R z (rd_nil z) <| R z (fd fld_82_1 z) <| R z (l1 agg_3 z fid (h32.at (j := 1) z)) <| Wn <| WC_block <| Ws <| R z (eql z z) <| Ra z <| Wn <| Wc z (fun hc239 => ?_) (fun hc239 => ?_)
 ·refine Ws <| Rm z <| R z (rd_nil z) <| R z (fd fld_82_7 z) <| R z (l1 agg_73 z fid (h32.at (j := 7) z)) ?_
  obtain ⟨x241, e242, hm243⟩ := bdS (ifT hm27 hc239)
  refine RX z (at_ (α := Int) und_73 size_3 z z z h53 e242) ?_
  rintro _ ⟨b244, o245, cs246, rfl, h247, h248, h249⟩
  obtain ⟨rfl, h250⟩ := Int_open h248
  refine R z (l1 agg_3 z fid (h247.at0 z)) <| Ra z <| Wn ?_
  obtain rfl := som hm243
  exact Wr (rtO (ret1 hr z ⟨h23, z, h250⟩))
 refine Ws <| R z (eql z z) <| Ra z <| Wn ?_
 obtain ⟨u327, hu328, hm329⟩ := bdS (ifF hm27 hc239)
 refine WC_cut (fun a w => Sum.inl () = u327 ∧ Sat 80 [] a ∧ Below w21.heap.size w21 w) ?_ ?_
 ·refine Wc z (fun hc330 => ?_) (fun hc330 => ?_)
  ·have hm331 := ifT hu328 hc330
   refine Ws <| Rm z <| Rm z <| R z (rd_nil z) <| R z (fd fld_82_7 z) <| R z (l1 agg_73 z fid (h32.at (j := 7) z)) <| R z (lnR und_73 z h53) <| R z (lss z z) <| Wn <| Wc z (fun hc347 => ?_) (fun hc347 => ?_)
   ·refine Ws <| Rm z <| R z (rd_nil z) <| R z (fd fld_82_7 z) <| R z (l1 agg_73 z fid (h32.at (j := 7) z)) <| Rm z ?_
    obtain ⟨x349, e350, hm351⟩ := bdS (ifT hm331 hc347)
    refine RX z (at_ (α := Int) und_73 size_3 z z z h53 e350) ?_
    rintro _ ⟨b352, o353, cs354, rfl, h355, h356, h357⟩
    obtain ⟨rfl, h358⟩ := Int_open h356
    refine R z (l1 agg_3 z fid (h355.at0 z)) <| Ra z <| Wn ?_
    obtain rfl := som hm351
    have hm359 := elR hm329
    obtain rfl := som hm359
    exact Wr (rtO (ret1 hr z ⟨h23, z, h358⟩))
   exact WC_skip <| fun _ q => ⟨som (ifF hm331 hc347), (q.weaken sn), (br w21)⟩
  refine Ws <| R z (eql z z) <| Ra z <| Wn ?_
  obtain ⟨u419, hu420, hm421⟩ := bdS (ifF hu328 hc330)
  refine WC_cut (fun a w => Sum.inl () = u419 ∧ Sat 80 [] a ∧ Below w21.heap.size w21 w) ?_ ?_
  ·refine Wc z (fun hc422 => ?_) (fun hc422 => ?_)
   ·refine Ws <| Rm z <| R z (rd_nil z) <| R z (fd fld_82_6 z) <| R z (l1 agg_73 z fid (h32.at (j := 6) z)) <| R z (lnR und_73 z h49) <| Rm z <| Wn ?_
    obtain ⟨u455, hu456, hm457⟩ := bdS (ifT hu420 hc422)
    refine WC_forN (σ := Unit) (ρ := Int) (fun (k458 : Nat) (_ : Unit) a w => Sat 80 [(2, (.pointer (some ⟨b3, o3, none⟩))), (9, (.pointer (some ⟨b29, o30, none⟩))), (49, (.slice a46 n47 c48)), (50, (vI (x25.tags.length : Int))), (51, (vI ((k458 : Nat) : Int)))] a ∧ Below w21.heap.size w21 w) (fun (_ : Unit) a w => Sat 80 [] a ∧ Below w21.heap.size w21 w) (fun r ex a w => ex = .ret ∧ RetPost Tryz.prog fn (Q_impl_childRule w0 B r) a w) hu456 ?_ ?_ ?_ ?_ ?_
    ·exact fun _ q => ⟨(q.weaken (s5 z z z z z)), (br w21)⟩
    ·rintro k458 _ a459 w460 o461 hk462 ⟨hS463, s464⟩ hm465
     refine Wu (e := [(2, (.pointer (some ⟨b3, o3, none⟩))), (9, (.pointer (some ⟨b29, o30, none⟩))), (49, (.slice a46 n47 c48)), (50, (vI (x25.tags.length : Int))), (51, (vI ((k458 : Nat) : Int)))]) (N := 80) ?_ hS463
     refine Ws <| R z (lss z z) <| Wn <| Wq <| Wc z (fun _ => ?_) (fun hc => (nolt hk462 hc).elim)
     refine Wk <| Wq <| WC_block <| Ws <| Rm z ?_
     obtain ⟨x497, e498, hm499⟩ := bdS hm465
     refine RX z (at_ (α := Int) und_73 size_3 z z z (h49.ext s464) e498) ?_
     rintro _ ⟨b501, o502, cs503, rfl, h504, h505, h506⟩
     obtain ⟨rfl, h507⟩ := Int_open h505
     refine R z (l1 agg_3 z fid (h504.at0 z)) <| Ra z <| Ra z <| Wn <| Ws <| Rm z <| Rm z <| R z (rd_nil z) <| R z (fd fld_61_0 z) <| R z (l1 agg_3 z fid (((hC3.ext h23).ext s464).at (j := 0) z)) <| R z (eql z z) <| Wn <| Wc z (fun hc527 => ?_) (fun hc527 => ?_)
     ·refine Ws <| Rm z <| R z (rd_nil z) <| R z (fd fld_82_7 z) <| R z (l1 agg_73 z fid ((h32.ext s464).at (j := 7) z)) <| Rm z <| R z (inc_ hk462 (lt_ (repS.len h49) LEN_le) z z) ?_
      obtain ⟨x530, e531, hm532⟩ := bdS (ifT hm499 hc527)
      refine RX z (at_ (α := Int) und_73 size_3 z z z (h53.ext s464) e531) ?_
      rintro _ ⟨b534, o535, cs536, rfl, h537, h538, h539⟩
      obtain ⟨rfl, h540⟩ := Int_open h538
      exact R z (l1 agg_3 z fid (h537.at0 z)) <| Ra z <| Wn <| Wr (rtO (QO_retL (som hm532).symm (ret1 hr z ⟨(bup h23 s464), z, h540⟩)))
     exact Wk <| Wg <| R z (inc_ hk462 (lt_ (repS.len h49) LEN_le) z z) <| Rm z <| Wl <| fun _ q => ⟨(), (som (ifF hm499 hc527)).symm, ⟨(q.weaken (s5 z z z z z)), s464⟩⟩
    ·rintro _ a543 w544 ⟨hS545, s546⟩
     refine Wu (e := [(2, (.pointer (some ⟨b3, o3, none⟩))), (9, (.pointer (some ⟨b29, o30, none⟩))), (49, (.slice a46 n47 c48)), (50, (vI (x25.tags.length : Int))), (51, (vI ((x25.tags.length : Nat) : Int)))]) (N := 80) ?_ hS545
     refine Ws <| R z (lss z z) <| Wn <| Wq <| Wc z (fun hc => (noltt hc).elim) (fun _ => ?_)
     exact WC_exit (fun a' ha' => ⟨rfl, ⟨(Sat.weaken ha' sn), s546⟩⟩)
    ·rintro _ a547 w548 rfl ⟨hS549, s550⟩
     have hm551 := elL hm457
     revert a547
     exact fun _ q => ⟨som hm551, (q.weaken sn), s550⟩
    rintro r552 ex553 a554 w555 rfl ⟨rfl, hq556⟩
    have hm557 := elR hm457
    obtain rfl := som hm557
    have hm558 := elR hm421
    obtain rfl := som hm558
    have hm559 := elR hm329
    obtain rfl := som hm559
    exact ⟨hq556, z⟩
   refine Wq <| Ws <| R z (eql z z) <| Ra z <| Wn ?_
   obtain ⟨u565, hu566, hm567⟩ := bdS (ifF hu420 hc422)
   refine WC_cut (fun a w => ∃ (x564 : Bool), x564 = u565 ∧ Sat 80 [(9, (.pointer (some ⟨b29, o30, none⟩))), (71, (vB x564))] a ∧ Below w21.heap.size w21 w) ?_ ?_
   ·refine Wc z (fun hc568 => ?_) (fun hc568 => ?_)
    ·exact WC_skip <| fun _ q => ⟨x25.kind == 8, som (ifT hu566 hc568), (q.weaken (s2 z z)), (br w21)⟩
    exact Wg <| R z (eql z z) <| Ra z <| Wl <| fun _ q => ⟨x25.kind == 9, som (ifF hu566 hc568), (q.weaken (s2 z z)), (br w21)⟩
   rintro a571 w572 ⟨x564, rfl, hS573, s574⟩
   revert a571
   refine Wo <| Wc z (fun hc594 => ?_) (fun hc594 => ?_)
   ·refine Ws <| Rm z <| R z (rd_nil z) <| R z (fd fld_82_7 z) <| R z (l1 agg_73 z fid ((h32.ext s574).at (j := 7) z)) ?_
    obtain ⟨x597, e598, hm599⟩ := bdS (ifT hm567 hc594)
    refine RX z (at_ (α := Int) und_73 size_3 z z z (h53.ext s574) e598) ?_
    rintro _ ⟨b601, o602, cs603, rfl, h604, h605, h606⟩
    obtain ⟨rfl, h607⟩ := Int_open h605
    refine R z (l1 agg_3 z fid (h604.at0 z)) <| Ra z <| Wn ?_
    obtain rfl := som hm599
    have hm608 := elR hm421
    obtain rfl := som hm608
    have hm609 := elR hm329
    obtain rfl := som hm609
    exact Wr (rtO (ret1 hr z ⟨(bup h23 s574), z, h607⟩))
   exact WC_skip <| fun _ q => ⟨som (ifF hm567 hc594), (q.weaken sn), s574⟩
  rintro a612 w613 ⟨rfl, hS614, s615⟩
  have hm616 := elL hm421
  revert a612
  exact fun _ q => ⟨som hm616, (q.weaken sn), s615⟩
 rintro a617 w618 ⟨rfl, hS619, s620⟩
 have hm621 := elL hm329
 revert a617
 refine Wo <| Ws <| Ra z <| Wn ?_
 obtain rfl := som hm621
 exact Wr (ret1 hr z ⟨(bup h23 s620), z, (ii z)⟩)
def Q_impl_indexer_part (w0 : World) (g1 : Nat) (B : Nat) (pa1_0 : Option Addr) (pn1_0 pc1_0 : Nat) (pa1_1 : Option Addr) (pn1_1 pc1_1 : Nat) (pa1_2 : Option Addr) (pn1_2 pc1_2 : Nat) (S1_2 : List Nat) (x1 : Indexer) (r : Int × (List Entry)) (v : Value) (w' : World) : Prop := Chg (· ∈ ([g1] ++ S1_2)) w0 w' ∧ un2 (fun r1 r2 => ∃ (a1 : Option Addr) (n1 c1 : Nat) (S1 : List Nat), (vI r1) = v ∧ inI r1 ∧ ownS w' S1 (.slice a1 n1 c1) r2 ∧ S1.Nodup ∧ (∀ k ∈ S1, k ∈ S1_2 ∨ w0.heap.size ≤ k) ∧ Blk w' g1 [(.slice pa1_0 pn1_0 pc1_0), (.slice pa1_1 pn1_1 pc1_1), .slice a1 n1 c1]) r
structure S_impl_indexer_part (n : Nat) : Prop where
  run : ∀ {B : Nat} {x1 : Indexer} {pa1_0 : Option Addr} {pn1_0 pc1_0 : Nat} {pa1_1 : Option Addr} {pn1_1 pc1_1 : Nat} {pa1_2 : Option Addr} {pn1_2 pc1_2 : Nat} {S1_2 : List Nat} {g1 : Nat} {x2 : Str} {x3 : Int} {x4 : Val} {pa4_1 : Option Addr} {pn4_1 pc4_1 : Nat} {pa4_2 : Option Addr} {pn4_2 pc4_2 : Nat} {b4 o4 : Nat} {x5 : Int} {res : Int × (List Entry)} {w0 : World} (hm : (F_impl_indexer_part n).impl_indexer_part x1 x2 x3 x4 x5 = some res) (hB1 : Blk w0 g1 [(.slice pa1_0 pn1_0 pc1_0), (.slice pa1_1 pn1_1 pc1_1), (.slice pa1_2 pn1_2 pc1_2)]) (hBw : B ≤ g1) (hG : Gl w0 B) (p1_0 : repS w0 B (.slice pa1_0 pn1_0 pc1_0) x1.d.rules) (p1_1 : repS w0 B (.slice pa1_1 pn1_1 pc1_1) x1.b) (p1_2 : ownS w0 S1_2 (.slice pa1_2 pn1_2 pc1_2) x1.list_) (p1_2n : S1_2.Nodup) (p1_2g : ∀ k ∈ S1_2, B ≤ k) (p1_2d : ∀ k ∈ S1_2, k ∉ [g1]) (p2_0 : x2.b.length ≤ LEN) (p3_0 : inI x3) (p4_0 : inI x4.number) (p4_1 : repS w0 B (.slice pa4_1 pn4_1 pc4_1) x4.bytes) (p4_2 : repS w0 B (.slice pa4_2 pn4_2 pc4_2) x4.items) (hC4 : CellsAt w0 b4 o4 [(vI x4.number), (.slice pa4_1 pn4_1 pc4_1), (.slice pa4_2 pn4_2 pc4_2)]) (hC4b : b4 < B) (p5_0 : inI x5), CallsR Tryz.prog 35 [(.pointer (some ⟨g1, 0, none⟩)), (Str.v x2), (vI x3), (.pointer (some ⟨b4, o4, none⟩)), (vI x5)] w0 (Q_impl_indexer_part w0 g1 B pa1_0 pn1_0 pc1_0 pa1_1 pn1_1 pc1_1 pa1_2 pn1_2 pc1_2 S1_2 x1 res)
theorem T_impl_indexer_part (ih_impl_indexer_part : S_impl_indexer_part n) {x1 : Indexer} {S1_2 : List Nat} {g1 : Nat} {x2 : Str} {x3 : Int} {x4 : Val} {b4 o4 : Nat} {x5 : Int} {res : Int × (List Entry)} (hm : B_impl_indexer_part n (F_impl_indexer_part n) x1 x2 x3 x4 x5 = some res) (hB1 : Blk w0 g1 [(.slice pa1_0 pn1_0 pc1_0), (.slice pa1_1 pn1_1 pc1_1), (.slice pa1_2 pn1_2 pc1_2)]) (hBw : B ≤ g1) (hG : Gl w0 B) (p1_0 : repS w0 B (.slice pa1_0 pn1_0 pc1_0) x1.d.rules) (p1_1 : repS w0 B (.slice pa1_1 pn1_1 pc1_1) x1.b) (p1_2 : ownS w0 S1_2 (.slice pa1_2 pn1_2 pc1_2) x1.list_) (p1_2n : S1_2.Nodup) (p1_2g : ∀ k ∈ S1_2, B ≤ k) (p1_2d : ∀ k ∈ S1_2, k ∉ [g1]) (p2_0 : x2.b.length ≤ LEN) (p3_0 : inI x3) (p4_0 : inI x4.number) (p4_1 : repS w0 B (.slice pa4_1 pn4_1 pc4_1) x4.bytes) (p4_2 : repS w0 B (.slice pa4_2 pn4_2 pc4_2) x4.items) (hC4 : CellsAt w0 b4 o4 [(vI x4.number), (.slice pa4_1 pn4_1 pc4_1), (.slice pa4_2 pn4_2 pc4_2)]) (hC4b : b4 < B) (p5_0 : inI x5) : CallsR Tryz.prog 35 [(.pointer (some ⟨g1, 0, none⟩)), (Str.v x2), (vI x3), (.pointer (some ⟨b4, o4, none⟩)), (vI x5)] w0 (Q_impl_indexer_part w0 g1 B pa1_0 pn1_0 pc1_0 pa1_1 pn1_1 pc1_1 pa1_2 pn1_2 pc1_2 S1_2 x1 res) := by
 unfold B_impl_indexer_part at hm
 obtain ⟨fn, hf, hb, hN, hr⟩ := fnE Tryz.func35
 refine goW hf (hb.trans z) (hN.trans z) (lb z) <| Ws <| Ra z <| Wn <| Ws <| Rm z <| R z (rd_nil z) <| R z (fd fld_66_2 z) <| R z (l1 agg_39 z fid (hB1.at z)) <| R z (lnR und_39 z (ownS.rep p1_2)) <| Ra z <| Wn <| Ws <| Rm z <| Rm z ?_
 refine R z (rd_nil z) <| R z (fd fld_66_2 z) <| R z (l1 agg_39 z fid (hB1.at z)) <| Rm z <| Rm z <| Rm z <| R z (bP (parts := [(0, (.tmp 27)), (1, (.tmp 28)), (2, (.tmp 29))]) (cs := [(Str.v x2), (vI x3), (vI x5), (vI 0)]) build_47 z z) <| E z (ef_buildSlice [(.tmp 30)] el_39 z z z (szAll z) (lb z) (lb z)) ?_
 rintro _ w21 ⟨rfl, h22⟩
 have h23 := h22.below
 have h24 : Blk w21 w0.heap.size [(Str.v x2), (vI x3), (vI x5), (vI 0)] := h22.blk
 have h25 := ownS_new1 h22 (Entry_mkO (x := (⟨x2, x3, x5, 0⟩ : Entry))  p2_0 p3_0 p5_0 (ii z))
 obtain ⟨x36, e37, hm38⟩ := bdS hm
 refine E z (ef_pushN (α := Entry) el_39 e37 z z (p1_2.ext h23) p1_2n h24 (Entry_mkO (x := (⟨x2, x3, x5, 0⟩ : Entry))  p2_0 p3_0 p5_0 (ii z)) all_nil nd_nil) ?_
 rintro _ w27 ⟨S28, a29, n30, c31, rfl, s32, h33, h34, h35⟩
 refine R z (rd_nil z) <| R z (fd fld_66_2 z) <| E0 (fs (cur' := [(.slice pa1_0 pn1_0 pc1_0), (.slice pa1_1 pn1_1 pc1_1), (.slice a29 n30 c31)]) size_39 z z ((hB1.ext h23).chg s32 (djs p1_2d)) z (lb z) (oneAll z) z) ?_
 rintro _ w41 ⟨h42, s43⟩
 have h44 := s43.one
 refine Wn <| Wq <| WC_draw (X := noX) 0 (.rd 0 (.rd 1 (.rd 2 (.rd 3 (.rd 4 (.rd 5 (.rd 6 (.rd 7 (.rd 8 (.rd 9 (.ef 10 (.rd 11 (.rd 12 (.rd 13 (.rd 14 (.rd 15 .done)))))))))))))))) mo (by kernel_rfl) fun w45 s46 _ => dR z z (mv z) <| dR z z (rd_nil z) <| dR z z (fd fld_66_0 z) ?_
 have h47 := h42.ext s46
 refine dR z z (lN (vs := [(.slice pa1_0 pn1_0 pc1_0)]) agg_31 size_31 z z fid (h47.row 0 1 z)) <| dR z z (mv z) <| dR z z (mv z) <| dR z z (rd_nil z) <| dR z z (fd fld_66_1 z) <| dR z z (l1 agg_25 z fid (h47.at z)) <| dR z z (mv z) ?_
 have h51 := (((p1_0.ext h23).chg s32 (ltge p1_2g)).chg h44 (ltge (mem1 hBw))).ext s46
 have h55 := (((p1_1.ext h23).chg s32 (ltge p1_2g)).chg h44 (ltge (mem1 hBw))).ext s46
 have h58 := lt_ (lt_ (lt_ h23.size s32.size) h44.size) s46.size
 obtain ⟨r60, r61, e62, hm63⟩ := bd2S hm38
 refine dE z z (fc Tryz.call58 z (W_impl_CheckValue (B := B) e62 (lt_ (lt_ hBw (Nat.le_of_lt (Blk.lt hB1))) h58) h51 p3_0 h55 p5_0)) (.inr fun _ _ h => chgB (h.1)) ?_
 rintro _ w64 ⟨s65, rfl, h66, h67⟩
 refine dR z z (mv z) <| dR z z (ext_ z z) <| dR z z (ext_ z z) <| dR z z (asg z) <| dR z z (asg z) <| PR_done <| Wo <| Ws <| Rm z <| Ra z <| Wn <| Wq <| Ws <| Rm z <| R z (rd_nil z) ?_
 refine R z (fd fld_66_0 z) <| R z (fd fld_31_0 z) ?_
 have h68 := h47.ext s65
 refine R z (l1 agg_29 z fid (h68.at z)) <| Rm z ?_
 obtain ⟨x69, e70, hm71⟩ := bdS hm63
 have h72 := h51.ext s65
 refine RX z (at_ (α := Rule) und_29 size_82 z z z h72 e70) ?_
 rintro _ ⟨b73, o74, cs75, rfl, h76, h77, h78⟩
 obtain ⟨a82, n83, c84, a86, n87, c88, a90, n91, c92, a94, n95, c96, rfl, h79, h80, h81, h85, h89, h93, h97⟩ := Rule_open h77
 refine R z (lN (vs := [(Str.v x69.name), (vI x69.kind), (vI x69.size), (vB x69.little), (.slice a82 n83 c84), (.slice a86 n87 c88), (.slice a90 n91 c92), (.slice a94 n95 c96)]) agg_82 size_82 z z fid h76) <| E z (fa zero_82) ?_
 rintro _ w98 ⟨rfl, h99⟩
 have h100 := h99.below
 have h101 : Blk w98 w64.heap.size [(Str.v (⟨[]⟩ : Str)), (vI 0), (vI 0), (vB false), (.slice none 0 0), (.slice none 0 0), (.slice none 0 0), (.slice none 0 0)] := h99.blk
 refine E0 (fs (cur' := [(Str.v x69.name), (vI x69.kind), (vI x69.size), (vB x69.little), (.slice a82 n83 c84), (.slice a86 n87 c88), (.slice a90 n91 c92), (.slice a94 n95 c96)]) size_82 z z h101 z (lb z) (oneAll z) z) ?_
 rintro _ w102 ⟨h103, s104⟩
 have h105 := s104.one
 refine Wn <| Ws <| R z (fd fld_82_1 z) <| R z (l1 agg_3 z fid (h103.at z)) <| Wn <| WC_block <| Wq <| Ws <| R z (eql z z) <| Ra z <| Wn ?_
 obtain ⟨u182, hu183, hm184⟩ := bdS hm71
 refine WC_cut (fun a w => ∃ (x181 : Bool), x181 = u182 ∧ Sat 126 [(0, (.pointer (some ⟨g1, 0, none⟩))), (1, (Str.v x2)), (2, (vI x3)), (3, (.pointer (some ⟨b4, o4, none⟩))), (11, (vI (x1.list_.length : Int))), (12, (vI r60)), (14, (vI x5)), (15, (.pointer (some ⟨w64.heap.size, 0, none⟩))), (59, (vI x69.kind)), (60, (vB x181))] a ∧ Below w102.heap.size w102 w) ?_ ?_
 ·refine Wc z (fun hc185 => ?_) (fun hc185 => ?_)
  ·exact WC_skip <| fun _ q => ⟨x69.kind == 5, som (ifT hu183 hc185), (q.weaken (sc z (sc z (sc z (sc z (sc z (sc z (sc z (sc z (sc z (sc z sn))))))))))), (br w102)⟩
  exact Wg <| R z (eql z z) <| Ra z <| Wl <| fun _ q => ⟨x69.kind == 7, som (ifF hu183 hc185), (q.weaken (sc z (sc z (sc z (sc z (sc z (sc z (sc z (sc z (sc z (sc z sn))))))))))), (br w102)⟩
 rintro a188 w189 ⟨x181, rfl, hS190, s191⟩
 revert a188
 refine Wo ?_
 obtain ⟨u260, hu261, hm262⟩ := bdS hm184
 refine WC_cut (fun a w => ∃ (x258 : Int), x258 = u260 ∧ Sat 126 [(0, (.pointer (some ⟨g1, 0, none⟩))), (1, (Str.v x2)), (2, (vI x3)), (3, (.pointer (some ⟨b4, o4, none⟩))), (11, (vI (x1.list_.length : Int))), (12, (vI r60)), (14, (vI x258))] a ∧ Below w189.heap.size w189 w ∧ inI x258) ?_ ?_
 ·refine Wc z (fun hc263 => ?_) (fun hc263 => ?_)
  ·refine WC_draw (X := noX) 0 (.rd 0 (.rd 1 (.rd 2 (.rd 3 (.rd 4 (.rd 5 (.rd 6 (.rd 7 (.rd 8 (.rd 9 (.rd 10 (.rd 11 (.rd 12 (.rd 13 (.rd 14 .done))))))))))))))) mo (by kernel_rfl) fun w265 s266 _ => dR z z (mv z) <| dR z z (mv z) <| dR z z (rd_nil z) <| dR z z (fd fld_66_0 z) <| dR z z (fd fld_31_0 z) ?_
   have h268 := lt_ h58 s65.size
   refine dR z z (l1 agg_29 z fid (((((h68.ext h100).chg h105 (djs (mm1 (Blk.lt hB1) h268))).ext s191).ext s266).at z)) <| dR z z (fd fld_82_7 z) <| dR z z (l1 agg_73 z fid (((h103.ext s191).ext s266).at z)) ?_
   obtain ⟨x275, e276, hm277⟩ := bdS (ifT hu261 hc263)
   have h280 := mem1le (lt_ (lt_ hBw (Nat.le_of_lt (Blk.lt hB1))) h268)
   refine dRX z z (at_ (α := Int) und_73 size_3 z z z ((((h97.ext h100).chg h105 (ltge h280)).ext s191).ext s266) e276) ?_
   rintro _ ⟨b284, o285, cs286, rfl, h287, h288, h289⟩
   obtain ⟨rfl, h290⟩ := Int_open h288
   refine dR z z (l1 agg_3 z fid (h287.at0 z)) ?_
   obtain ⟨x291, e292, hm293⟩ := bdS hm277
   refine dRX z z (at_ (α := Rule) und_29 size_82 z z z ((((h72.ext h100).chg h105 (ltge h280)).ext s191).ext s266) e292) ?_
   rintro _ ⟨b298, o299, cs300, rfl, h301, h302, h303⟩
   obtain ⟨a307, n308, c309, a311, n312, c313, a315, n316, c317, a319, n320, c321, rfl, h304, h305, h306, h310, h314, h318, h322⟩ := Rule_open h302
   exact dR z z (fd fld_82_2 z) <| dR z z (l1 agg_3 z fid (h301.at (j := 2) z)) <| dR z z (add_ z z) <| dR z z (asg z) <| PR_done <| fun _ q => ⟨iadd x5 x291.size, som hm293, (q.weaken (s7 z z z z z z z)), s266, (iA _ _)⟩
  refine Ws <| R z (eql z z) <| Ra z <| Wn ?_
  obtain ⟨u329, hu330, hm331⟩ := bdS (ifF hu261 hc263)
  refine WC_cut (fun a w => ∃ (x327 : Int), x327 = u329 ∧ Sat 126 [(0, (.pointer (some ⟨g1, 0, none⟩))), (1, (Str.v x2)), (2, (vI x3)), (3, (.pointer (some ⟨b4, o4, none⟩))), (11, (vI (x1.list_.length : Int))), (12, (vI r60)), (14, (vI x327))] a ∧ Below w189.heap.size w189 w ∧ inI x327) ?_ ?_
  ·refine Wc z (fun hc332 => ?_) (fun hc332 => ?_)
   ·exact Wg <| Rm z <| R z (add_ z z) <| Ra z <| Wl <| fun _ q => ⟨iadd x5 1, som (ifT hu330 hc332), (q.weaken (s7 z z z z z z z)), (br w189), (iA _ _)⟩
   exact WC_skip <| fun _ q => ⟨x5, som (ifF hu330 hc332), (q.weaken (s7 z z z z z z z)), (br w189), p5_0⟩
  rintro a335 w336 ⟨x327, rfl, hS337, s338, h328⟩
  revert a335
  exact fun _ q => ⟨x327, som hm331, (q.weaken (s7 z z z z z z z)), s338, h328⟩
 rintro a339 w340 ⟨x258, rfl, hS341, s342, h259⟩
 revert a339
 refine Wo <| Wq <| Ws <| Rm z <| R z (rd_nil z) <| R z (fd fld_61_2 z) ?_
 have h349 := lt_ h58 s65.size
 have h351 := mem1le (lt_ (lt_ hBw (Nat.le_of_lt (Blk.lt hB1))) h349)
 have h354 := ((((((((hC4.ext h23).chg s32 ((ltge p1_2g) _ hC4b)).chg h44 ((ltge (mem1 hBw)) _ hC4b)).ext s46).ext s65).ext h100).chg h105 ((ltge h351) _ hC4b)).ext s191).ext s342
 refine R z (l1 agg_59 z fid (h354.at (j := 2) z)) ?_
 have h363 := ((((((((p4_2.ext h23).chg s32 (ltge p1_2g)).chg h44 (ltge (mem1 hBw))).ext s46).ext s65).ext h100).chg h105 (ltge h351)).ext s191).ext s342
 refine R z (lnR und_59 z h363) <| Rm z <| Wn ?_
 obtain ⟨u656, hu657, hm658⟩ := bdS hm262
 refine WC_forN (σ := Int × (List Entry)) (ρ := Int × (List Entry)) (fun (k659 : Nat) s a w => un2 (fun x645 x647 => ∃ (a648 : Option Addr) (n649 c650 : Nat) (S652 : List Nat), Sat 126 [(0, (.pointer (some ⟨g1, 0, none⟩))), (1, (Str.v x2)), (2, (vI x3)), (3, (.pointer (some ⟨b4, o4, none⟩))), (11, (vI (x1.list_.length : Int))), (12, (vI r60)), (14, (vI x645)), (85, (vI (x4.items.length : Int))), (86, (vI ((k659 : Nat) : Int)))] a ∧ Chg (· ∈ ([g1] ++ S28)) w340 w ∧ inI x645 ∧ ownS w S652 (.slice a648 n649 c650) x647 ∧ S652.Nodup ∧ (∀ k ∈ S652, k ∈ S28 ∨ w340.heap.size ≤ k) ∧ Blk w g1 [(.slice pa1_0 pn1_0 pc1_0), (.slice pa1_1 pn1_1 pc1_1), (.slice a648 n649 c650)]) s) (fun s a w => un2 (fun x645 x647 => ∃ (a648 : Option Addr) (n649 c650 : Nat) (S652 : List Nat), Sat 126 [(0, (.pointer (some ⟨g1, 0, none⟩))), (11, (vI (x1.list_.length : Int))), (12, (vI r60))] a ∧ Chg (· ∈ ([g1] ++ S28)) w340 w ∧ inI x645 ∧ ownS w S652 (.slice a648 n649 c650) x647 ∧ S652.Nodup ∧ (∀ k ∈ S652, k ∈ S28 ∨ w340.heap.size ≤ k) ∧ Blk w g1 [(.slice pa1_0 pn1_0 pc1_0), (.slice pa1_1 pn1_1 pc1_1), (.slice a648 n649 c650)]) s) (fun r ex a w => ex = .ret ∧ RetPost Tryz.prog fn (Q_impl_indexer_part w0 g1 B pa1_0 pn1_0 pc1_0 pa1_1 pn1_1 pc1_1 pa1_2 pn1_2 pc1_2 S1_2 x1 r) a w) hu657 ?_ ?_ ?_ ?_ ?_
 ·have h660 : ∀ k ∈ S28, k ∉ [g1] := or2 h35 p1_2d all_nil (ltnot (mem1 (Blk.lt hB1)) h23.size)
  exact fun _ q => ⟨a29, n30, c31, S28, (q.weaken (s9 z z z z z z z z z)), (cr ([g1] ++ S28) w340), h259, (((((((h33.chg h44 h660).ext s46).ext s65).ext h100).chg h105 (dj_symm (mno (ownS.lt h33) (lt_ (lt_ h44.size s46.size) s65.size)))).ext s191).ext s342), h34, (inor sr), ((((h68.ext h100).chg h105 (djs (mm1 (Blk.lt hB1) h349))).ext s191).ext s342)⟩
 ·rintro k659 ⟨x645, x647⟩ a676 w677 o678 hk679 ⟨a648, n649, c650, S652, hS680, s681, h646, h651, h653, h654, h655⟩ hm682
  have hm683 := un2S hm682
  refine Wu (e := [(0, (.pointer (some ⟨g1, 0, none⟩))), (1, (Str.v x2)), (2, (vI x3)), (3, (.pointer (some ⟨b4, o4, none⟩))), (11, (vI (x1.list_.length : Int))), (12, (vI r60)), (14, (vI x645)), (85, (vI (x4.items.length : Int))), (86, (vI ((k659 : Nat) : Int)))]) (N := 126) ?_ hS680
  refine Ws <| R z (lss z z) <| Wn <| Wq <| Wc z (fun _ => ?_) (fun hc => (nolt hk679 hc).elim)
  refine Wk <| Wq <| WC_block <| Ws <| Rm z <| Ra z <| Wn <| WC_draw (X := noX) 67108864 (.rd 0 (.rd 1 (.rd 2 (.rd 3 (.rd 4 (.rd 5 (.rd 6 (.rd 7 (.rd 8 (.rd 11 (.rd 12 (.rd 13 (.rd 14 (.rd 15 (.rd 16 (.rd 17 (.rd 19 (.rd 20 (.rd 21 (.rd 22 (.rd 23 (.rd 24 (.rd 25 (.ef 9 (.rd 10 (.ef 18 (.ef 26 (.rd 27 .done)))))))))))))))))))))))))))) mo (by kernel_rfl) fun w812 s813 _ => dR z z (mv z) <| dR z z (mv z) ?_
  obtain ⟨x814, e815, hm816⟩ := bdS hm683
  refine dR z z (rd_catC z z e815) <| dR z z (mv z) <| dR z z (rd_nil z) <| dR z z (fd fld_66_0 z) ?_
  have h817 := h655.ext s813
  refine dR z z (lN (vs := [(.slice pa1_0 pn1_0 pc1_0)]) agg_31 size_31 z z fid (h817.row 0 1 z)) ?_
  iterate 3 refine dR z z (mv z) ?_
  refine dR z z (rd_nil z) <| dR z z (fd fld_66_0 z) <| dR z z (lN (vs := [(.slice pa1_0 pn1_0 pc1_0)]) agg_31 size_31 z z fid (h817.row 0 1 z)) ?_
  iterate 4 refine dR z z (mv z) ?_
  refine dR z z (rd_nil z) <| dR z z (fd fld_61_2 z) ?_
  have h819 : ∀ k ∈ S28, B ≤ k := or2 h35 p1_2g all_nil (lele (lt_ (lt_ hBw (Nat.le_of_lt (Blk.lt hB1))) h23.size))
  have h821 := (h354.chg s681 ((nmA (ltge (mem1 hBw)) (ltge h819)) _ hC4b)).ext s813
  refine dR z z (l1 agg_59 z fid (h821.at (j := 2) z)) <| dR z z (mv z) ?_
  obtain ⟨x822, e823, hm824⟩ := bdS hm816
  have h826 := (h363.chg s681 (nmA (ltge (mem1 hBw)) (ltge h819))).ext s813
  refine dRX z z (at_ (α := Val) und_59 size_61 z z z h826 e823) ?_
  rintro _ ⟨b827, o828, cs829, rfl, h830, h831, h832⟩
  obtain ⟨a834, n835, c836, a838, n839, c840, rfl, h833, h837, h841⟩ := Val_open h831
  refine dR z z (mv z) ?_
  have h847 := (((((h72.ext h100).chg h105 (ltge h351)).ext s191).ext s342).chg s681 (nmA (ltge (mem1 hBw)) (ltge h819))).ext s813
  have h858 := ((((((((((hG.ext h23).chg s32 (ltge p1_2g)).chg h44 (ltge (mem1 hBw))).ext s46).ext s65).ext h100).chg h105 (ltge h351)).ext s191).ext s342).chg s681 (nmA (ltge (mem1 hBw)) (ltge h819))).ext s813
  have h862 := lt_ (lt_ (lt_ (lt_ h349 h100.size) h105.size) s191.size) s342.size
  have h864 := lt_ (lt_ h862 s681.size) s813.size
  obtain ⟨r866, e867, hm868⟩ := bdS hm824
  refine dE z z (fc Tryz.call59 z (W_impl_StepOf (B := B) e867 (lt_ (lt_ hBw (Nat.le_of_lt (Blk.lt hB1))) h864) h858 h847 p3_0 (inI_cnt (Nat.le_of_lt hk679) (lt_ (repS.len p4_2) LEN_le)))) (.inr fun _ _ h => chgB (h.1)) ?_
  rintro _ w869 ⟨s870, rfl, h871⟩
  obtain ⟨x872, e873, hm874⟩ := bdS hm868
  refine dR z z (rd_catC z z e873) ?_
  have h875 := h847.ext s870
  have h888 := (((((((((((p4_1.ext h23).chg s32 (ltge p1_2g)).chg h44 (ltge (mem1 hBw))).ext s46).ext s65).ext h100).chg h105 (ltge h351)).ext s191).ext s342).chg s681 (nmA (ltge (mem1 hBw)) (ltge h819))).ext s813).ext s870
  obtain ⟨r892, e893, hm894⟩ := bdS hm874
  refine dE z z (fc Tryz.call60 z (W_impl_childRule (B := B) e893 (lt_ (lt_ hBw (Nat.le_of_lt (Blk.lt hB1))) (lt_ h864 s870.size)) h875 p3_0 p4_0 h888 (h826.ext s870) (h821.ext s870) hC4b (inI_cnt (Nat.le_of_lt hk679) (lt_ (repS.len p4_2) LEN_le)))) (.inr fun _ _ h => chgB (h.1)) ?_
  rintro _ w895 ⟨s896, rfl, h897⟩
  have h921 : ∀ k ∈ S28, k ∉ [g1] := or2 h35 p1_2d all_nil (ltnot (mem1 (Blk.lt hB1)) h23.size)
  have h922 : ∀ k ∈ S652, k ∉ [g1] := or1 h654 h921 (ltnot (mem1 (Blk.lt hB1)) h862)
  obtain ⟨r925, r928, e926, hm927⟩ := bd2S hm894
  refine dE z z (fc Tryz.call35 z (ih_impl_indexer_part.run (B := B) e926 ((h817.ext s870).ext s896) hBw ((h858.ext s870).ext s896) (h875.ext s896) (((((((((h55.ext s65).ext h100).chg h105 (ltge h351)).ext s191).ext s342).chg s681 (nmA (ltge (mem1 hBw)) (ltge h819))).ext s813).ext s870).ext s896) (((h651.ext s813).ext s870).ext s896) h653 (o1le h654 h819 (lt_ (lt_ hBw (Nat.le_of_lt (Blk.lt hB1))) h862)) h922 (cat_len e873) h897 h833 ((h837.ext s870).ext s896) ((h841.ext s870).ext s896) ((h830.ext s870).ext s896) h832 h646)) (.inl z) ?_
  rintro _ w929 ⟨s930, a933, n934, c935, S936, rfl, h931, h932, h937, h938, h939⟩
  refine dR z z (asg z) <| PR_done <| Wo <| Wg <| R z (inc_ hk679 (lt_ (repS.len p4_2) LEN_le) z z) <| Rm z <| Wl ?_
  have h943 : ∀ k ∈ S652, k ∈ S28 ∨ w340.heap.size ≤ k := or1 h654 (inor sr) (leor lr)
  have h944 : ∀ k ∈ S936, k ∈ S28 ∨ w340.heap.size ≤ k := or1 h938 h943 (leor (lt_ (lt_ (lt_ s681.size s813.size) s870.size) s896.size))
  have h945 : Chg (· ∈ ([g1] ++ S28)) w340 w677 := cM (cr ([g1] ++ S28) w340) s681 (all_app (inor (sub_l sr)) (inor (sub_r sr)))
  have h946 : Chg (· ∈ ([g1] ++ S28)) w340 w812 := cext h945 s813
  have h947 : Chg (· ∈ ([g1] ++ S28)) w340 w869 := cext h946 s870
  have h948 : Chg (· ∈ ([g1] ++ S28)) w340 w895 := cext h947 s896
  have h949 : ∀ k ∈ S652, k ∈ ([g1] ++ S28) ∨ w340.heap.size ≤ k := or1 h654 (inor (sub_r sr)) (leor lr)
  have h950 : Chg (· ∈ ([g1] ++ S28)) w340 w929 := cM h948 s930 (all_app (inor (sub_l sr)) h949)
  exact fun _ q => ⟨(r925, r928), (som hm927).symm, ⟨a933, n934, c935, S936, (q.weaken (s9 z z z z z z z z z)), h950, h931, h932, h937, h944, h939⟩⟩
 ·rintro ⟨x645, x647⟩ a951 w952 ⟨a648, n649, c650, S652, hS953, s954, h646, h651, h653, h654, h655⟩
  refine Wu (e := [(0, (.pointer (some ⟨g1, 0, none⟩))), (1, (Str.v x2)), (2, (vI x3)), (3, (.pointer (some ⟨b4, o4, none⟩))), (11, (vI (x1.list_.length : Int))), (12, (vI r60)), (14, (vI x645)), (85, (vI (x4.items.length : Int))), (86, (vI ((x4.items.length : Nat) : Int)))]) (N := 126) ?_ hS953
  refine Ws <| R z (lss z z) <| Wn <| Wq <| Wc z (fun hc => (noltt hc).elim) (fun _ => ?_)
  have h957 : ∀ k ∈ S652, k ∈ S28 ∨ w340.heap.size ≤ k := or1 h654 (inor sr) (leor lr)
  have h958 : Chg (· ∈ ([g1] ++ S28)) w340 w952 := cM (cr ([g1] ++ S28) w340) s954 (all_app (inor (sub_l sr)) (inor (sub_r sr)))
  exact WC_exit (fun a' ha' => ⟨rfl, ⟨a648, n649, c650, S652, (Sat.weaken ha' (s3 z z z)), h958, h646, h651, h653, h957, h655⟩⟩)
 ·rintro ⟨x645, x647⟩ a959 w960 rfl ⟨a648, n649, c650, S652, hS961, s962, h646, h651, h653, h654, h655⟩
  have hm963 := elL hm658
  have hm964 := un2S hm963
  revert a959
  refine Wo <| Ws <| Rm z <| R z (rd_nil z) <| R z (fd fld_66_2 z) <| R z (l1 agg_39 z fid (h655.at z)) <| Rm z <| Rm z ?_
  obtain ⟨x965, e966, hm967⟩ := bdS hm964
  refine RX z (rd_atQ (α := Entry) und_39 size_47 z z h651 e966) ?_
  rintro _ ⟨g968, h969, rfl⟩
  refine R z (fd fld_47_3 z) ?_
  obtain ⟨x970, e971, hm972⟩ := bdS hm967
  refine E0 (ef_setF (α := Entry) (v' := (⟨x965.path, x965.rule, x965.start, r60⟩ : Entry)) size_3 z h969 z z z z e966 e971 h651 h653 (lb z) (fun _ _ _ h => Entry_setO3 h h66)) ?_
  rintro _ w973 ⟨S974, s975, h976, h977, h978⟩
  refine Wn <| Ws <| Rm z <| Ra z <| Wn ?_
  obtain rfl := som hm972
  have h979 : Chg (· ∈ ([g1] ++ S1_2)) w0 w21 := cext (cr ([g1] ++ S1_2) w0) h23
  have h980 : Chg (· ∈ ([g1] ++ S1_2)) w0 w27 := cM h979 s32 (inor (sub_r sr))
  have h981 : Chg (· ∈ ([g1] ++ S1_2)) w0 w41 := cM h980 h44 (inor (sub_l sr))
  have h982 : Chg (· ∈ ([g1] ++ S1_2)) w0 w45 := cext h981 s46
  have h983 : Chg (· ∈ ([g1] ++ S1_2)) w0 w64 := cext h982 s65
  have h984 : Chg (· ∈ ([g1] ++ S1_2)) w0 w98 := cext h983 h100
  have h985 : ∀ k ∈ [w64.heap.size], k ∈ ([g1] ++ S1_2) ∨ w0.heap.size ≤ k := mor h349
  have h986 : Chg (· ∈ ([g1] ++ S1_2)) w0 w102 := cM h984 h105 h985
  have h987 : Chg (· ∈ ([g1] ++ S1_2)) w0 w189 := cext h986 s191
  have h988 : Chg (· ∈ ([g1] ++ S1_2)) w0 w340 := cext h987 s342
  have h989 : ∀ k ∈ S28, k ∈ ([g1] ++ S1_2) ∨ w0.heap.size ≤ k := or2 h35 (inor (sub_r sr)) all_nil (leor h23.size)
  have h990 : Chg (· ∈ ([g1] ++ S1_2)) w0 w960 := cM h988 s962 (all_app (inor (sub_l sr)) h989)
  have h994 := lt_ (lt_ (lt_ (lt_ h349 h100.size) h105.size) s191.size) s342.size
  have h995 : ∀ k ∈ S652, k ∈ ([g1] ++ S1_2) ∨ w0.heap.size ≤ k := or1 h654 h989 (leor h994)
  have h996 : Chg (· ∈ ([g1] ++ S1_2)) w0 w973 := cM h990 s975 h995
  have h998 : ∀ k ∈ S28, k ∈ S1_2 ∨ w0.heap.size ≤ k := or2 h35 (inor sr) all_nil (leor h23.size)
  have h999 : ∀ k ∈ S652, k ∈ S1_2 ∨ w0.heap.size ≤ k := or1 h654 h998 (leor h994)
  have h1000 : ∀ k ∈ S974, k ∈ S1_2 ∨ w0.heap.size ≤ k := or1 h978 h999 (leor (lt_ h994 s962.size))
  have h1001 : ∀ k ∈ S28, k ∉ [g1] := or2 h35 p1_2d all_nil (ltnot (mem1 (Blk.lt hB1)) h23.size)
  have h1002 : ∀ k ∈ S652, k ∉ [g1] := or1 h654 h1001 (ltnot (mem1 (Blk.lt hB1)) h994)
  exact Wr (ret1 hr z ⟨h996, a648, n649, c650, S974, z, h66, h976, h977, h1000, (h655.chg s975 (djs h1002))⟩)
 rintro r1004 ex1005 a1006 w1007 rfl ⟨rfl, hq1008⟩
 have hm1009 := elR hm658
 obtain rfl := som hm1009
 exact ⟨hq1008, z⟩
theorem A_impl_indexer_part : ∀ n, S_impl_indexer_part n
  | 0 => ⟨fun hm => by intros; exact nomatch (show none = some _ from hm)⟩
  | n + 1 => by
    have ih := A_impl_indexer_part n
    have i0 := ih
    exact ⟨fun hm => T_impl_indexer_part i0 hm⟩
theorem W_impl_indexer_part : ∀ {x1 : Indexer} {S1_2 : List Nat} {g1 : Nat} {x2 : Str} {x3 : Int} {x4 : Val} {b4 o4 : Nat} {x5 : Int} {res : Int × (List Entry)} (hm : (F_impl_indexer_part n).impl_indexer_part x1 x2 x3 x4 x5 = some res) (hB1 : Blk w0 g1 [(.slice pa1_0 pn1_0 pc1_0), (.slice pa1_1 pn1_1 pc1_1), (.slice pa1_2 pn1_2 pc1_2)]) (hBw : B ≤ g1) (hG : Gl w0 B) (p1_0 : repS w0 B (.slice pa1_0 pn1_0 pc1_0) x1.d.rules) (p1_1 : repS w0 B (.slice pa1_1 pn1_1 pc1_1) x1.b) (p1_2 : ownS w0 S1_2 (.slice pa1_2 pn1_2 pc1_2) x1.list_) (p1_2n : S1_2.Nodup) (p1_2g : ∀ k ∈ S1_2, B ≤ k) (p1_2d : ∀ k ∈ S1_2, k ∉ [g1]) (p2_0 : x2.b.length ≤ LEN) (p3_0 : inI x3) (p4_0 : inI x4.number) (p4_1 : repS w0 B (.slice pa4_1 pn4_1 pc4_1) x4.bytes) (p4_2 : repS w0 B (.slice pa4_2 pn4_2 pc4_2) x4.items) (hC4 : CellsAt w0 b4 o4 [(vI x4.number), (.slice pa4_1 pn4_1 pc4_1), (.slice pa4_2 pn4_2 pc4_2)]) (hC4b : b4 < B) (p5_0 : inI x5), CallsR Tryz.prog 35 [(.pointer (some ⟨g1, 0, none⟩)), (Str.v x2), (vI x3), (.pointer (some ⟨b4, o4, none⟩)), (vI x5)] w0 (Q_impl_indexer_part w0 g1 B pa1_0 pn1_0 pc1_0 pa1_1 pn1_1 pc1_1 pa1_2 pn1_2 pc1_2 S1_2 x1 res) := (A_impl_indexer_part n).run

def Q_impl_BuildIndex (w0 : World) (B : Nat) (r : (List Entry) × Bool) (v : Value) (w' : World) : Prop := Below w0.heap.size w0 w' ∧ un2 (fun r1 r2 => ∃ (a1 : Option Addr) (n1 c1 : Nat) (S1 : List Nat), v = .tuple #[(.slice a1 n1 c1), (vB r2)] ∧ ownS w' S1 (.slice a1 n1 c1) r1 ∧ S1.Nodup ∧ (∀ k ∈ S1, w0.heap.size ≤ k)) r
theorem W_impl_BuildIndex {x1 : Desc} {x2 : List UInt8} {res : (List Entry) × Bool} (hm : M_impl_BuildIndex n x1 x2 = some res) (hBw : B ≤ w0.heap.size) (hG : Gl w0 B) (p1_0 : repS w0 B (.slice pa1_0 pn1_0 pc1_0) x1.rules) (p2_0 : repS w0 B (.slice pa2_0 pn2_0 pc2_0) x2) : CallsR Tryz.prog 16 [(.agg #[(.slice pa1_0 pn1_0 pc1_0)]), (.slice pa2_0 pn2_0 pc2_0)] w0 (Q_impl_BuildIndex w0 B res) := by
 unfold M_impl_BuildIndex at hm
 obtain ⟨fn, hf, hb, hN, hr⟩ := fnE Tryz.func16
 refine goW hf (hb.trans z) (hN.trans z) (lb z) <| Ws <| E z (fb z) ?_
 rintro _ w21 ⟨rfl, h22⟩
 have h23 := h22.below
 have h24 : Blk w21 w0.heap.size [(.slice pa1_0 pn1_0 pc1_0)] := h22.blk
 refine Ra z <| Ra z <| Wn <| Ws <| R z (lN (vs := [(.slice pa1_0 pn1_0 pc1_0)]) agg_31 size_31 z z fid (h24.row 0 1 z)) <| Rm z ?_
 have h25 := p1_0.ext h23
 have h26 := p2_0.ext h23
 have h27 := hG.ext h23
 obtain ⟨r29, r30, r31, e32, hm33⟩ := bd3S hm
 refine E z (fc Tryz.call34 z (W_impl_ReadFile (B := B) e32 (lt_ hBw h23.size) h27 h25 h26)) ?_
 rintro _ w34 ⟨s35, a37, n38, c39, S41, a42, n43, c44, S46, rfl, h36, h40, h45, h47, h48, h49, h50⟩
 refine Rm z ?_
 iterate 3 refine R z (ext_ z z) ?_
 refine E z (fa zero_61) ?_
 rintro _ w51 ⟨rfl, h52⟩
 have h53 := h52.below
 have h54 : Blk w51 w34.heap.size [(vI 0), (.slice none 0 0), (.slice none 0 0)] := h52.blk
 refine E0 (fs (cur' := [(vI r29.number), (.slice a37 n38 c39), (.slice a42 n43 c44)]) size_61 z z h54 z (lb z) (oneAll z) z) ?_
 rintro _ w55 ⟨h56, s57⟩
 have h58 := s57.one
 refine Ra z <| Ra z <| Wn <| Wq <| Ws <| Rm z <| R z (rd_neq z z) <| Wn <| Wc z (fun hc78 => ?_) (fun hc78 => ?_)
 ·refine Ws <| E z (ef_lit0 (α := Entry) el_39) ?_
  rintro _ w80 ⟨a81, n82, c83, rfl, s84, h85⟩
  refine Ra z <| Ra z <| Wn ?_
  obtain rfl := som (ifT hm33 hc78)
  have h88 := lt_ h23.size s35.size
  exact Wr (ret2 hr z z ⟨(bup (bM (bup (bup h23 s35) h53) h58 (mem1le h88)) s84), a81, n82, c83, [w55.heap.size], z, h85, nd_one, (mem1le (lt_ (lt_ h88 h53.size) h58.size))⟩)
 refine Wk <| Ws ?_
 have h99 := ((h24.ext s35).ext h53).chg h58 (djs (mm1 h24.lt s35.size))
 refine R z (lN (vs := [(.slice pa1_0 pn1_0 pc1_0)]) agg_31 size_31 z z fid (h99.row 0 1 z)) <| Rm z <| R z (bP (parts := [(0, (.tmp 20)), (1, (.tmp 21))]) (cs := [(.slice pa1_0 pn1_0 pc1_0), (.slice pa2_0 pn2_0 pc2_0), (.slice none 0 0)]) build_66 z z) <| E z (fb z) ?_
 rintro _ w100 ⟨rfl, h101⟩
 have h102 := h101.below
 have h103 : Blk w100 w55.heap.size [(.slice pa1_0 pn1_0 pc1_0), (.slice pa2_0 pn2_0 pc2_0), (.slice none 0 0)] := h101.blk
 refine Ra z <| Wn <| Ws <| Rm z <| R z (lN (vs := [(.slice pa1_0 pn1_0 pc1_0)]) agg_31 size_31 z z fid ((h99.ext h102).row 0 1 z)) ?_
 have h107 := lt_ h23.size s35.size
 have h109 := mem1le (lt_ hBw h107)
 have h111 := (((h25.ext s35).ext h53).chg h58 (ltge h109)).ext h102
 have h112 := lt_ h107 h53.size
 have h113 := lt_ h112 h58.size
 have h114 := lt_ h113 h102.size
 obtain ⟨r116, e117, hm118⟩ := bdS (ifF hm33 hc78)
 refine E z (fc Tryz.call36 z (W_impl_RootOf (B := B) e117 (lt_ hBw h114) h111)) ?_
 rintro _ w119 ⟨s120, rfl, h121⟩
 have h141 := lt_ hBw h112
 obtain ⟨r147, r150, e148, hm149⟩ := bd2S hm118
 refine E z (fc Tryz.call35 z (W_impl_indexer_part (B := w51.heap.size) e148 (h103.ext s120) h58.size ((((((h27.ext s35).ext h53).chg h58 (ltge h109)).ext h102).ext s120).mono h141) (repS.mono (h111.ext s120) h141) (repS.mono (((((h26.ext s35).ext h53).chg h58 (ltge h109)).ext h102).ext s120) h141) onL nd_nil all_nil all_nil (lb z) h121 h36 (repS.mono (ownS_rep ((((h40.ext h53).chg h58 (dj_symm (mnr (ownS.lt h40)))).ext h102).ext s120) (ownS.lt h40)) h53.size) (repS.mono (ownS_rep ((((h45.ext h53).chg h58 (dj_symm (mnr (ownS.lt h45)))).ext h102).ext s120) (ownS.lt h45)) h53.size) (((h56.ext h102).ext s120).row 0 3 z) h54.lt (ii z))) ?_
 rintro _ w151 ⟨s152, a155, n156, c157, S158, rfl, h153, h154, h159, h160, h161⟩
 refine Wn <| Ws <| Rm z <| R z (rd_nil z) <| R z (fd fld_66_2 z) <| R z (l1 agg_39 z fid (h161.at z)) <| Ra z <| Ra z <| Wn ?_
 obtain rfl := som hm149
 have h171 : ∀ k ∈ S158, w0.heap.size ≤ k := or1 h160 all_nil (lele (lt_ h114 s120.size))
 exact Wr (ret2 hr z z ⟨(bM (bup (bup (bM (bup (bup h23 s35) h53) h58 (mem1le h107)) h102) s120) s152 (all_app (mem1le h113) all_nil)), a155, n156, c157, S158, z, h154, h159, h171⟩)
def Q_laws_eqEntry (w0 : World) (B : Nat) (r : Bool) (v : Value) (w' : World) : Prop := Below w0.heap.size w0 w' ∧ (fun r1 => (vB r1) = v) r
theorem W_laws_eqEntry {x1 : Entry} {x2 : Entry} {res : Bool} (hm : M_laws_eqEntry x1 x2 = some res) (hBw : B ≤ w0.heap.size) (p1_0 : x1.path.b.length ≤ LEN) (p1_1 : inI x1.rule) (p1_2 : inI x1.start) (p1_3 : inI x1.end_) (p2_0 : x2.path.b.length ≤ LEN) (p2_1 : inI x2.rule) (p2_2 : inI x2.start) (p2_3 : inI x2.end_) : CallsR Tryz.prog 37 [(.agg #[(Str.v x1.path), (vI x1.rule), (vI x1.start), (vI x1.end_)]), (.agg #[(Str.v x2.path), (vI x2.rule), (vI x2.start), (vI x2.end_)])] w0 (Q_laws_eqEntry w0 B res) := by
 unfold M_laws_eqEntry at hm
 obtain ⟨fn, hf, hb, hN, hr⟩ := fnE Tryz.func37
 refine goW hf (hb.trans z) (hN.trans z) (lb z) <| Ws <| E z (fb z) ?_
 rintro _ w21 ⟨rfl, h22⟩
 have h23 := h22.below
 have h24 : Blk w21 w0.heap.size [(Str.v x1.path), (vI x1.rule), (vI x1.start), (vI x1.end_)] := h22.blk
 refine E z (fb z) ?_
 rintro _ w25 ⟨rfl, h26⟩
 have h27 := h26.below
 have h28 : Blk w25 w21.heap.size [(Str.v x2.path), (vI x2.rule), (vI x2.start), (vI x2.end_)] := h26.blk
 refine Ra z <| Wn <| Wq <| Ws <| R z (fd fld_47_0 z) ?_
 have h29 := h24.ext h27
 refine R z (l1 agg_9 z fid (h29.at z)) <| R z (fd fld_47_0 z) <| R z (l1 agg_9 z fid (h28.at z)) <| R z (rd_neqT z z) <| Wn <| Wc z (fun hc35 => ?_) (fun hc35 => ?_)
 ·refine Ws <| Ra z <| Wn ?_
  obtain rfl := som (ifT hm hc35)
  exact Wr (ret1 hr z ⟨(bup h23 h27), z⟩)
 have hm38 := ifF hm hc35
 refine Wk <| Wq <| Ws <| R z (fd fld_47_1 z) <| R z (l1 agg_3 z fid (h29.at z)) <| R z (fd fld_47_1 z) <| R z (l1 agg_3 z fid (h28.at z)) <| R z (rd_neq z z) <| Wn <| Wc z (fun hc44 => ?_) (fun hc44 => ?_)
 ·refine Ws <| Ra z <| Wn ?_
  obtain rfl := som (ifT hm38 hc44)
  exact Wr (ret1 hr z ⟨(bup h23 h27), z⟩)
 have hm47 := ifF hm38 hc44
 refine Wk <| Wq <| Ws <| R z (fd fld_47_2 z) <| R z (l1 agg_3 z fid (h29.at z)) <| R z (fd fld_47_2 z) <| R z (l1 agg_3 z fid (h28.at z)) <| R z (rd_neq z z) <| Wn <| Wc z (fun hc53 => ?_) (fun hc53 => ?_)
 ·refine Ws <| Ra z <| Wn ?_
  obtain rfl := som (ifT hm47 hc53)
  exact Wr (ret1 hr z ⟨(bup h23 h27), z⟩)
 have hm56 := ifF hm47 hc53
 refine Wk <| Wq <| Ws <| R z (fd fld_47_3 z) <| R z (l1 agg_3 z fid (h29.at z)) <| R z (fd fld_47_3 z) <| R z (l1 agg_3 z fid (h28.at z)) <| R z (rd_neq z z) <| Wn <| Wc z (fun hc62 => ?_) (fun hc62 => ?_)
 ·refine Ws <| Ra z <| Wn ?_
  obtain rfl := som (ifT hm56 hc62)
  exact Wr (ret1 hr z ⟨(bup h23 h27), z⟩)
 refine Wk <| Ws <| Ra z <| Wn ?_
 obtain rfl := som (ifF hm56 hc62)
 exact Wr (ret1 hr z ⟨(bup h23 h27), z⟩)
def Q_laws_eqEntryS (w0 : World) (B : Nat) (r : Bool) (v : Value) (w' : World) : Prop := Below w0.heap.size w0 w' ∧ (fun r1 => (vB r1) = v) r
theorem W_laws_eqEntryS {x1 : List Entry} {x2 : List Entry} {res : Bool} (hm : M_laws_eqEntryS x1 x2 = some res) (hBw : B ≤ w0.heap.size) (p1_0 : repS w0 B (.slice pa1_0 pn1_0 pc1_0) x1) (p2_0 : repS w0 B (.slice pa2_0 pn2_0 pc2_0) x2) : CallsR Tryz.prog 17 [(.slice pa1_0 pn1_0 pc1_0), (.slice pa2_0 pn2_0 pc2_0)] w0 (Q_laws_eqEntryS w0 B res) := by
 unfold M_laws_eqEntryS at hm
 obtain ⟨fn, hf, hb, hN, hr⟩ := fnE Tryz.func17
 refine goW hf (hb.trans z) (hN.trans z) (lb z) <| Ws <| Ra z <| Wn <| Wq <| Ws <| Rm z <| R z (lnR und_39 z p1_0) <| Rm z <| R z (lnR und_39 z p2_0) <| R z (rd_neq z z) <| Wn <| Wc z (fun hc25 => ?_) (fun hc25 => ?_)
 ·refine Ws <| Ra z <| Wn ?_
  obtain rfl := som (ifT hm hc25)
  exact Wr (ret1 hr z ⟨(br w0), z⟩)
 refine Wk <| Wq <| Ws <| Ra z <| Wn ?_
 obtain ⟨u74, hu75, hm76⟩ := bdS (ifF hm hc25)
 refine WC_forN (σ := Unit) (ρ := Bool) (fun (k77 : Nat) (_ : Unit) a w => Sat 27 [(0, (.slice pa1_0 pn1_0 pc1_0)), (1, (.slice pa2_0 pn2_0 pc2_0)), (5, (vI ((k77 : Nat) : Int)))] a ∧ Below w0.heap.size w0 w) (fun (_ : Unit) a w => Sat 27 [] a ∧ Below w0.heap.size w0 w) (fun r ex a w => ex = .ret ∧ RetPost Tryz.prog fn (Q_laws_eqEntryS w0 B r) a w) hu75 ?_ ?_ ?_ ?_ ?_
 ·exact fun _ q => ⟨(q.weaken (s3 z z z)), (br w0)⟩
 ·rintro k77 _ a78 w79 o80 hk81 ⟨hS82, s83⟩ hm84
  refine Wu (e := [(0, (.slice pa1_0 pn1_0 pc1_0)), (1, (.slice pa2_0 pn2_0 pc2_0)), (5, (vI ((k77 : Nat) : Int)))]) (N := 27) ?_ hS82
  refine Wq <| Ws <| Rm z <| Rm z ?_
  have h85 := p1_0.ext s83
  refine R z (lnR und_39 z h85) <| R z (lss z z) <| Wn <| Wc z (fun _ => ?_) (fun hc => (nolt hk81 hc).elim)
  refine Wk <| Wq <| WC_block <| Wq <| WC_draw (X := noX) 0 (.rd 0 (.rd 1 (.rd 2 (.rd 3 (.rd 4 (.rd 5 (.rd 6 (.rd 7 (.ef 8 (.rd 9 .done)))))))))) mo (by kernel_rfl) fun w131 s132 _ => dR z z (mv z) <| dR z z (mv z) ?_
  obtain ⟨x133, e134, hm135⟩ := bdS hm84
  refine dRX z z (at_ (α := Entry) und_39 size_47 z z z (h85.ext s132) e134) ?_
  rintro _ ⟨b137, o138, cs139, rfl, h140, h141, h142⟩
  obtain ⟨rfl, h143, h144, h145, h146⟩ := Entry_open h141
  refine dR z z (lN (vs := [(Str.v x133.path), (vI x133.rule), (vI x133.start), (vI x133.end_)]) agg_47 size_47 z z fid h140) <| dR z z (mv z) <| dR z z (mv z) ?_
  obtain ⟨x147, e148, hm149⟩ := bdS hm135
  refine dRX z z (at_ (α := Entry) und_39 size_47 z z z ((p2_0.ext s83).ext s132) e148) ?_
  rintro _ ⟨b152, o153, cs154, rfl, h155, h156, h157⟩
  obtain ⟨rfl, h158, h159, h160, h161⟩ := Entry_open h156
  refine dR z z (lN (vs := [(Str.v x147.path), (vI x147.rule), (vI x147.start), (vI x147.end_)]) agg_47 size_47 z z fid h155) ?_
  obtain ⟨r164, e165, hm166⟩ := bdS hm149
  refine dE z z (fc Tryz.call37 z (W_laws_eqEntry (B := B) e165 (lt_ hBw (lt_ s83.size s132.size)) h143 h144 h145 h146 h158 h159 h160 h161)) (.inr fun _ _ h => chgB (h.1)) ?_
  rintro _ w167 ⟨s168, rfl⟩
  refine dR z z (not_ z) <| PR_done <| Wo <| Wc z (fun hc175 => ?_) (fun hc175 => ?_)
  ·exact Ws <| Ra z <| Wn <| Wr (rtO (QO_retL (som (ifT hm166 hc175)).symm (ret1 hr z ⟨(bup (bup s83 s132) s168), z⟩)))
  exact Wk <| Wg <| Rm z <| R z (inc_ hk81 (lt_ (repS.len p1_0) LEN_le) z z) <| Ra z <| Wl <| fun _ q => ⟨(), (som (ifF hm166 hc175)).symm, ⟨(q.weaken (s3 z z z)), (bup (bup s83 s132) s168)⟩⟩
 ·rintro _ a182 w183 ⟨hS184, s185⟩
  refine Wu (e := [(0, (.slice pa1_0 pn1_0 pc1_0)), (1, (.slice pa2_0 pn2_0 pc2_0)), (5, (vI ((x1.length : Nat) : Int)))]) (N := 27) ?_ hS184
  refine Wq <| Ws <| Rm z <| Rm z <| R z (lnR und_39 z (p1_0.ext s185)) <| R z (lss z z) <| Wn <| Wc z (fun hc => (noltt hc).elim) (fun _ => ?_)
  exact WC_exit (fun a' ha' => ⟨rfl, ⟨(Sat.weaken ha' sn), s185⟩⟩)
 ·rintro _ a187 w188 rfl ⟨hS189, s190⟩
  have hm191 := elL hm76
  revert a187
  refine Wo <| Ws <| Ra z <| Wn ?_
  obtain rfl := som hm191
  exact Wr (ret1 hr z ⟨s190, z⟩)
 rintro r192 ex193 a194 w195 rfl ⟨rfl, hq196⟩
 have hm197 := elR hm76
 obtain rfl := som hm197
 exact ⟨hq196, z⟩
def Q_laws_eqByteS (w0 : World) (B : Nat) (r : Bool) (v : Value) (w' : World) : Prop := Below w0.heap.size w0 w' ∧ (fun r1 => (vB r1) = v) r
theorem W_laws_eqByteS {x1 : List UInt8} {x2 : List UInt8} {res : Bool} (hm : M_laws_eqByteS x1 x2 = some res) (hBw : B ≤ w0.heap.size) (p1_0 : repS w0 B (.slice pa1_0 pn1_0 pc1_0) x1) (p2_0 : repS w0 B (.slice pa2_0 pn2_0 pc2_0) x2) : CallsR Tryz.prog 10 [(.slice pa1_0 pn1_0 pc1_0), (.slice pa2_0 pn2_0 pc2_0)] w0 (Q_laws_eqByteS w0 B res) := by
 unfold M_laws_eqByteS at hm
 obtain ⟨fn, hf, hb, hN, hr⟩ := fnE Tryz.func10
 refine goW hf (hb.trans z) (hN.trans z) (lb z) <| Ws <| Ra z <| Wn <| Wq <| Ws <| Rm z <| R z (lnR und_25 z p1_0) <| Rm z <| R z (lnR und_25 z p2_0) <| R z (rd_neq z z) <| Wn <| Wc z (fun hc25 => ?_) (fun hc25 => ?_)
 ·refine Ws <| Ra z <| Wn ?_
  obtain rfl := som (ifT hm hc25)
  exact Wr (ret1 hr z ⟨(br w0), z⟩)
 refine Wk <| Wq <| Ws <| Ra z <| Wn ?_
 obtain ⟨u58, hu59, hm60⟩ := bdS (ifF hm hc25)
 refine WC_forN (σ := Unit) (ρ := Bool) (fun (k61 : Nat) (_ : Unit) a w => Sat 26 [(0, (.slice pa1_0 pn1_0 pc1_0)), (1, (.slice pa2_0 pn2_0 pc2_0)), (5, (vI ((k61 : Nat) : Int)))] a ∧ Below w0.heap.size w0 w) (fun (_ : Unit) a w => Sat 26 [] a ∧ Below w0.heap.size w0 w) (fun r ex a w => ex = .ret ∧ RetPost Tryz.prog fn (Q_laws_eqByteS w0 B r) a w) hu59 ?_ ?_ ?_ ?_ ?_
 ·exact fun _ q => ⟨(q.weaken (s3 z z z)), (br w0)⟩
 ·rintro k61 _ a62 w63 o64 hk65 ⟨hS66, s67⟩ hm68
  refine Wu (e := [(0, (.slice pa1_0 pn1_0 pc1_0)), (1, (.slice pa2_0 pn2_0 pc2_0)), (5, (vI ((k61 : Nat) : Int)))]) (N := 26) ?_ hS66
  refine Wq <| Ws <| Rm z <| Rm z ?_
  have h69 := p1_0.ext s67
  refine R z (lnR und_25 z h69) <| R z (lss z z) <| Wn <| Wc z (fun _ => ?_) (fun hc => (nolt hk65 hc).elim)
  refine Wk <| Wq <| WC_block <| Wq <| WC_draw (X := noX) 0 (.rd 0 (.rd 1 (.rd 2 (.rd 3 (.rd 4 (.rd 5 (.rd 6 (.rd 7 (.rd 8 .done))))))))) mo (by kernel_rfl) fun w99 s100 _ => dR z z (mv z) <| dR z z (mv z) ?_
  obtain ⟨x101, e102, hm103⟩ := bdS hm68
  refine dRX z z (at_ (α := UInt8) und_25 size_5 z z z (h69.ext s100) e102) ?_
  rintro _ ⟨b105, o106, cs107, rfl, h108, h109, h110⟩
  obtain rfl := UInt8_open h109
  refine dR z z (l1 agg_5 z fid (h108.at0 z)) <| dR z z (mv z) <| dR z z (mv z) ?_
  obtain ⟨x111, e112, hm113⟩ := bdS hm103
  refine dRX z z (at_ (α := UInt8) und_25 size_5 z z z ((p2_0.ext s67).ext s100) e112) ?_
  rintro _ ⟨b116, o117, cs118, rfl, h119, h120, h121⟩
  obtain rfl := UInt8_open h120
  refine dR z z (l1 agg_5 z fid (h119.at0 z)) <| dR z z (rd_neq z z) <| PR_done <| Wo <| Wc z (fun hc127 => ?_) (fun hc127 => ?_)
  ·exact Ws <| Ra z <| Wn <| Wr (rtO (QO_retL (som (ifT hm113 hc127)).symm (ret1 hr z ⟨(bup s67 s100), z⟩)))
  exact Wk <| Wg <| Rm z <| R z (inc_ hk65 (lt_ (repS.len p1_0) LEN_le) z z) <| Ra z <| Wl <| fun _ q => ⟨(), (som (ifF hm113 hc127)).symm, ⟨(q.weaken (s3 z z z)), (bup s67 s100)⟩⟩
 ·rintro _ a132 w133 ⟨hS134, s135⟩
  refine Wu (e := [(0, (.slice pa1_0 pn1_0 pc1_0)), (1, (.slice pa2_0 pn2_0 pc2_0)), (5, (vI ((x1.length : Nat) : Int)))]) (N := 26) ?_ hS134
  refine Wq <| Ws <| Rm z <| Rm z <| R z (lnR und_25 z (p1_0.ext s135)) <| R z (lss z z) <| Wn <| Wc z (fun hc => (noltt hc).elim) (fun _ => ?_)
  exact WC_exit (fun a' ha' => ⟨rfl, ⟨(Sat.weaken ha' sn), s135⟩⟩)
 ·rintro _ a137 w138 rfl ⟨hS139, s140⟩
  have hm141 := elL hm60
  revert a137
  refine Wo <| Ws <| Ra z <| Wn ?_
  obtain rfl := som hm141
  exact Wr (ret1 hr z ⟨s140, z⟩)
 rintro r142 ex143 a144 w145 rfl ⟨rfl, hq146⟩
 have hm147 := elR hm60
 obtain rfl := som hm147
 exact ⟨hq146, z⟩
def Q_laws_eqStringS (w0 : World) (B : Nat) (r : Bool) (v : Value) (w' : World) : Prop := Below w0.heap.size w0 w' ∧ (fun r1 => (vB r1) = v) r
theorem W_laws_eqStringS {x1 : List Str} {x2 : List Str} {res : Bool} (hm : M_laws_eqStringS x1 x2 = some res) (hBw : B ≤ w0.heap.size) (p1_0 : repS w0 B (.slice pa1_0 pn1_0 pc1_0) x1) (p2_0 : repS w0 B (.slice pa2_0 pn2_0 pc2_0) x2) : CallsR Tryz.prog 86 [(.slice pa1_0 pn1_0 pc1_0), (.slice pa2_0 pn2_0 pc2_0)] w0 (Q_laws_eqStringS w0 B res) := by
 unfold M_laws_eqStringS at hm
 obtain ⟨fn, hf, hb, hN, hr⟩ := fnE Tryz.func86
 refine goW hf (hb.trans z) (hN.trans z) (lb z) <| Ws <| Ra z <| Wn <| Wq <| Ws <| Rm z <| R z (lnR und_72 z p1_0) <| Rm z <| R z (lnR und_72 z p2_0) <| R z (rd_neq z z) <| Wn <| Wc z (fun hc25 => ?_) (fun hc25 => ?_)
 ·refine Ws <| Ra z <| Wn ?_
  obtain rfl := som (ifT hm hc25)
  exact Wr (ret1 hr z ⟨(br w0), z⟩)
 refine Wk <| Wq <| Ws <| Ra z <| Wn ?_
 obtain ⟨u60, hu61, hm62⟩ := bdS (ifF hm hc25)
 refine WC_forN (σ := Unit) (ρ := Bool) (fun (k63 : Nat) (_ : Unit) a w => Sat 26 [(0, (.slice pa1_0 pn1_0 pc1_0)), (1, (.slice pa2_0 pn2_0 pc2_0)), (5, (vI ((k63 : Nat) : Int)))] a ∧ Below w0.heap.size w0 w) (fun (_ : Unit) a w => Sat 26 [] a ∧ Below w0.heap.size w0 w) (fun r ex a w => ex = .ret ∧ RetPost Tryz.prog fn (Q_laws_eqStringS w0 B r) a w) hu61 ?_ ?_ ?_ ?_ ?_
 ·exact fun _ q => ⟨(q.weaken (s3 z z z)), (br w0)⟩
 ·rintro k63 _ a64 w65 o66 hk67 ⟨hS68, s69⟩ hm70
  refine Wu (e := [(0, (.slice pa1_0 pn1_0 pc1_0)), (1, (.slice pa2_0 pn2_0 pc2_0)), (5, (vI ((k63 : Nat) : Int)))]) (N := 26) ?_ hS68
  refine Wq <| Ws <| Rm z <| Rm z ?_
  have h71 := p1_0.ext s69
  refine R z (lnR und_72 z h71) <| R z (lss z z) <| Wn <| Wc z (fun _ => ?_) (fun hc => (nolt hk67 hc).elim)
  refine Wk <| Wq <| WC_block <| Wq <| WC_draw (X := noX) 0 (.rd 0 (.rd 1 (.rd 2 (.rd 3 (.rd 4 (.rd 5 (.rd 6 (.rd 7 (.rd 8 .done))))))))) mo (by kernel_rfl) fun w103 s104 _ => dR z z (mv z) <| dR z z (mv z) ?_
  obtain ⟨x105, e106, hm107⟩ := bdS hm70
  refine dRX z z (at_ (α := Str) und_72 size_9 z z z (h71.ext s104) e106) ?_
  rintro _ ⟨b109, o110, cs111, rfl, h112, h113, h114⟩
  obtain ⟨rfl, h115⟩ := Str_open h113
  refine dR z z (l1 agg_9 z fid (h112.at0 z)) <| dR z z (mv z) <| dR z z (mv z) ?_
  obtain ⟨x116, e117, hm118⟩ := bdS hm107
  refine dRX z z (at_ (α := Str) und_72 size_9 z z z ((p2_0.ext s69).ext s104) e117) ?_
  rintro _ ⟨b121, o122, cs123, rfl, h124, h125, h126⟩
  obtain ⟨rfl, h127⟩ := Str_open h125
  refine dR z z (l1 agg_9 z fid (h124.at0 z)) <| dR z z (rd_neqT z z) <| PR_done <| Wo <| Wc z (fun hc133 => ?_) (fun hc133 => ?_)
  ·exact Ws <| Ra z <| Wn <| Wr (rtO (QO_retL (som (ifT hm118 hc133)).symm (ret1 hr z ⟨(bup s69 s104), z⟩)))
  exact Wk <| Wg <| Rm z <| R z (inc_ hk67 (lt_ (repS.len p1_0) LEN_le) z z) <| Ra z <| Wl <| fun _ q => ⟨(), (som (ifF hm118 hc133)).symm, ⟨(q.weaken (s3 z z z)), (bup s69 s104)⟩⟩
 ·rintro _ a138 w139 ⟨hS140, s141⟩
  refine Wu (e := [(0, (.slice pa1_0 pn1_0 pc1_0)), (1, (.slice pa2_0 pn2_0 pc2_0)), (5, (vI ((x1.length : Nat) : Int)))]) (N := 26) ?_ hS140
  refine Wq <| Ws <| Rm z <| Rm z <| R z (lnR und_72 z (p1_0.ext s141)) <| R z (lss z z) <| Wn <| Wc z (fun hc => (noltt hc).elim) (fun _ => ?_)
  exact WC_exit (fun a' ha' => ⟨rfl, ⟨(Sat.weaken ha' sn), s141⟩⟩)
 ·rintro _ a143 w144 rfl ⟨hS145, s146⟩
  have hm147 := elL hm62
  revert a143
  refine Wo <| Ws <| Ra z <| Wn ?_
  obtain rfl := som hm147
  exact Wr (ret1 hr z ⟨s146, z⟩)
 rintro r148 ex149 a150 w151 rfl ⟨rfl, hq152⟩
 have hm153 := elR hm62
 obtain rfl := som hm153
 exact ⟨hq152, z⟩
def Q_laws_eqIntS (w0 : World) (B : Nat) (r : Bool) (v : Value) (w' : World) : Prop := Below w0.heap.size w0 w' ∧ (fun r1 => (vB r1) = v) r
theorem W_laws_eqIntS {x1 : List Int} {x2 : List Int} {res : Bool} (hm : M_laws_eqIntS x1 x2 = some res) (hBw : B ≤ w0.heap.size) (p1_0 : repS w0 B (.slice pa1_0 pn1_0 pc1_0) x1) (p2_0 : repS w0 B (.slice pa2_0 pn2_0 pc2_0) x2) : CallsR Tryz.prog 87 [(.slice pa1_0 pn1_0 pc1_0), (.slice pa2_0 pn2_0 pc2_0)] w0 (Q_laws_eqIntS w0 B res) := by
 unfold M_laws_eqIntS at hm
 obtain ⟨fn, hf, hb, hN, hr⟩ := fnE Tryz.func87
 refine goW hf (hb.trans z) (hN.trans z) (lb z) <| Ws <| Ra z <| Wn <| Wq <| Ws <| Rm z <| R z (lnR und_73 z p1_0) <| Rm z <| R z (lnR und_73 z p2_0) <| R z (rd_neq z z) <| Wn <| Wc z (fun hc25 => ?_) (fun hc25 => ?_)
 ·refine Ws <| Ra z <| Wn ?_
  obtain rfl := som (ifT hm hc25)
  exact Wr (ret1 hr z ⟨(br w0), z⟩)
 refine Wk <| Wq <| Ws <| Ra z <| Wn ?_
 obtain ⟨u60, hu61, hm62⟩ := bdS (ifF hm hc25)
 refine WC_forN (σ := Unit) (ρ := Bool) (fun (k63 : Nat) (_ : Unit) a w => Sat 26 [(0, (.slice pa1_0 pn1_0 pc1_0)), (1, (.slice pa2_0 pn2_0 pc2_0)), (5, (vI ((k63 : Nat) : Int)))] a ∧ Below w0.heap.size w0 w) (fun (_ : Unit) a w => Sat 26 [] a ∧ Below w0.heap.size w0 w) (fun r ex a w => ex = .ret ∧ RetPost Tryz.prog fn (Q_laws_eqIntS w0 B r) a w) hu61 ?_ ?_ ?_ ?_ ?_
 ·exact fun _ q => ⟨(q.weaken (s3 z z z)), (br w0)⟩
 ·rintro k63 _ a64 w65 o66 hk67 ⟨hS68, s69⟩ hm70
  refine Wu (e := [(0, (.slice pa1_0 pn1_0 pc1_0)), (1, (.slice pa2_0 pn2_0 pc2_0)), (5, (vI ((k63 : Nat) : Int)))]) (N := 26) ?_ hS68
  refine Wq <| Ws <| Rm z <| Rm z ?_
  have h71 := p1_0.ext s69
  refine R z (lnR und_73 z h71) <| R z (lss z z) <| Wn <| Wc z (fun _ => ?_) (fun hc => (nolt hk67 hc).elim)
  refine Wk <| Wq <| WC_block <| Wq <| WC_draw (X := noX) 0 (.rd 0 (.rd 1 (.rd 2 (.rd 3 (.rd 4 (.rd 5 (.rd 6 (.rd 7 (.rd 8 .done))))))))) mo (by kernel_rfl) fun w103 s104 _ => dR z z (mv z) <| dR z z (mv z) ?_
  obtain ⟨x105, e106, hm107⟩ := bdS hm70
  refine dRX z z (at_ (α := Int) und_73 size_3 z z z (h71.ext s104) e106) ?_
  rintro _ ⟨b109, o110, cs111, rfl, h112, h113, h114⟩
  obtain ⟨rfl, h115⟩ := Int_open h113
  refine dR z z (l1 agg_3 z fid (h112.at0 z)) <| dR z z (mv z) <| dR z z (mv z) ?_
  obtain ⟨x116, e117, hm118⟩ := bdS hm107
  refine dRX z z (at_ (α := Int) und_73 size_3 z z z ((p2_0.ext s69).ext s104) e117) ?_
  rintro _ ⟨b121, o122, cs123, rfl, h124, h125, h126⟩
  obtain ⟨rfl, h127⟩ := Int_open h125
  refine dR z z (l1 agg_3 z fid (h124.at0 z)) <| dR z z (rd_neq z z) <| PR_done <| Wo <| Wc z (fun hc133 => ?_) (fun hc133 => ?_)
  ·exact Ws <| Ra z <| Wn <| Wr (rtO (QO_retL (som (ifT hm118 hc133)).symm (ret1 hr z ⟨(bup s69 s104), z⟩)))
  exact Wk <| Wg <| Rm z <| R z (inc_ hk67 (lt_ (repS.len p1_0) LEN_le) z z) <| Ra z <| Wl <| fun _ q => ⟨(), (som (ifF hm118 hc133)).symm, ⟨(q.weaken (s3 z z z)), (bup s69 s104)⟩⟩
 ·rintro _ a138 w139 ⟨hS140, s141⟩
  refine Wu (e := [(0, (.slice pa1_0 pn1_0 pc1_0)), (1, (.slice pa2_0 pn2_0 pc2_0)), (5, (vI ((x1.length : Nat) : Int)))]) (N := 26) ?_ hS140
  refine Wq <| Ws <| Rm z <| Rm z <| R z (lnR und_73 z (p1_0.ext s141)) <| R z (lss z z) <| Wn <| Wc z (fun hc => (noltt hc).elim) (fun _ => ?_)
  exact WC_exit (fun a' ha' => ⟨rfl, ⟨(Sat.weaken ha' sn), s141⟩⟩)
 ·rintro _ a143 w144 rfl ⟨hS145, s146⟩
  have hm147 := elL hm62
  revert a143
  refine Wo <| Ws <| Ra z <| Wn ?_
  obtain rfl := som hm147
  exact Wr (ret1 hr z ⟨s146, z⟩)
 rintro r148 ex149 a150 w151 rfl ⟨rfl, hq152⟩
 have hm153 := elR hm62
 obtain rfl := som hm153
 exact ⟨hq152, z⟩
def Q_laws_eqRule (w0 : World) (B : Nat) (r : Bool) (v : Value) (w' : World) : Prop := Below w0.heap.size w0 w' ∧ (fun r1 => (vB r1) = v) r
theorem W_laws_eqRule {x1 : Rule} {x2 : Rule} {res : Bool} (hm : M_laws_eqRule x1 x2 = some res) (hBw : B ≤ w0.heap.size) (p1_0 : x1.name.b.length ≤ LEN) (p1_1 : inI x1.kind) (p1_2 : inI x1.size) (p1_4 : repS w0 B (.slice pa1_4 pn1_4 pc1_4) x1.bytes) (p1_5 : repS w0 B (.slice pa1_5 pn1_5 pc1_5) x1.names) (p1_6 : repS w0 B (.slice pa1_6 pn1_6 pc1_6) x1.tags) (p1_7 : repS w0 B (.slice pa1_7 pn1_7 pc1_7) x1.kids) (p2_0 : x2.name.b.length ≤ LEN) (p2_1 : inI x2.kind) (p2_2 : inI x2.size) (p2_4 : repS w0 B (.slice pa2_4 pn2_4 pc2_4) x2.bytes) (p2_5 : repS w0 B (.slice pa2_5 pn2_5 pc2_5) x2.names) (p2_6 : repS w0 B (.slice pa2_6 pn2_6 pc2_6) x2.tags) (p2_7 : repS w0 B (.slice pa2_7 pn2_7 pc2_7) x2.kids) : CallsR Tryz.prog 51 [(.agg #[(Str.v x1.name), (vI x1.kind), (vI x1.size), (vB x1.little), (.slice pa1_4 pn1_4 pc1_4), (.slice pa1_5 pn1_5 pc1_5), (.slice pa1_6 pn1_6 pc1_6), (.slice pa1_7 pn1_7 pc1_7)]), (.agg #[(Str.v x2.name), (vI x2.kind), (vI x2.size), (vB x2.little), (.slice pa2_4 pn2_4 pc2_4), (.slice pa2_5 pn2_5 pc2_5), (.slice pa2_6 pn2_6 pc2_6), (.slice pa2_7 pn2_7 pc2_7)])] w0 (Q_laws_eqRule w0 B res) := by
 unfold M_laws_eqRule at hm
 obtain ⟨fn, hf, hb, hN, hr⟩ := fnE Tryz.func51
 refine goW hf (hb.trans z) (hN.trans z) (lb z) <| Ws <| E z (fb z) ?_
 rintro _ w21 ⟨rfl, h22⟩
 have h23 := h22.below
 have h24 : Blk w21 w0.heap.size [(Str.v x1.name), (vI x1.kind), (vI x1.size), (vB x1.little), (.slice pa1_4 pn1_4 pc1_4), (.slice pa1_5 pn1_5 pc1_5), (.slice pa1_6 pn1_6 pc1_6), (.slice pa1_7 pn1_7 pc1_7)] := h22.blk
 refine E z (fb z) ?_
 rintro _ w25 ⟨rfl, h26⟩
 have h27 := h26.below
 have h28 : Blk w25 w21.heap.size [(Str.v x2.name), (vI x2.kind), (vI x2.size), (vB x2.little), (.slice pa2_4 pn2_4 pc2_4), (.slice pa2_5 pn2_5 pc2_5), (.slice pa2_6 pn2_6 pc2_6), (.slice pa2_7 pn2_7 pc2_7)] := h26.blk
 refine Ra z <| Wn <| Wq <| Ws <| R z (fd fld_82_0 z) ?_
 have h29 := h24.ext h27
 refine R z (l1 agg_9 z fid (h29.at z)) <| R z (fd fld_82_0 z) <| R z (l1 agg_9 z fid (h28.at z)) <| R z (rd_neqT z z) <| Wn <| Wc z (fun hc35 => ?_) (fun hc35 => ?_)
 ·refine Ws <| Ra z <| Wn ?_
  obtain rfl := som (ifT hm hc35)
  exact Wr (ret1 hr z ⟨(bup h23 h27), z⟩)
 have hm38 := ifF hm hc35
 refine Wk <| Wq <| Ws <| R z (fd fld_82_1 z) <| R z (l1 agg_3 z fid (h29.at z)) <| R z (fd fld_82_1 z) <| R z (l1 agg_3 z fid (h28.at z)) <| R z (rd_neq z z) <| Wn <| Wc z (fun hc44 => ?_) (fun hc44 => ?_)
 ·refine Ws <| Ra z <| Wn ?_
  obtain rfl := som (ifT hm38 hc44)
  exact Wr (ret1 hr z ⟨(bup h23 h27), z⟩)
 have hm47 := ifF hm38 hc44
 refine Wk <| Wq <| Ws <| R z (fd fld_82_2 z) <| R z (l1 agg_3 z fid (h29.at z)) <| R z (fd fld_82_2 z) <| R z (l1 agg_3 z fid (h28.at z)) <| R z (rd_neq z z) <| Wn <| Wc z (fun hc53 => ?_) (fun hc53 => ?_)
 ·refine Ws <| Ra z <| Wn ?_
  obtain rfl := som (ifT hm47 hc53)
  exact Wr (ret1 hr z ⟨(bup h23 h27), z⟩)
 have hm56 := ifF hm47 hc53
 refine Wk <| Wq <| Ws <| R z (fd fld_82_3 z) <| R z (l1 agg_4 z fid (h29.at z)) <| R z (fd fld_82_3 z) <| R z (l1 agg_4 z fid (h28.at z)) <| R z (rd_neqB und_4 z z) <| Wn <| Wc z (fun hc62 => ?_) (fun hc62 => ?_)
 ·refine Ws <| Ra z <| Wn ?_
  obtain rfl := som (ifT hm56 hc62)
  exact Wr (ret1 hr z ⟨(bup h23 h27), z⟩)
 refine Wk <| Wq <| Ws <| R z (fd fld_82_4 z) <| R z (l1 agg_25 z fid (h29.at z)) <| R z (fd fld_82_4 z) <| R z (l1 agg_25 z fid (h28.at z)) ?_
 have h70 := lt_ h23.size h27.size
 obtain ⟨r72, e73, hm74⟩ := bdS (ifF hm56 hc62)
 refine E z (fc Tryz.call10 z (W_laws_eqByteS (B := B) e73 (lt_ hBw h70) ((p1_4.ext h23).ext h27) ((p2_4.ext h23).ext h27))) ?_
 rintro _ w75 ⟨s76, rfl⟩
 refine R z (not_ z) <| Wn <| Wc z (fun hc83 => ?_) (fun hc83 => ?_)
 ·refine Ws <| Ra z <| Wn ?_
  obtain rfl := som (ifT hm74 hc83)
  exact Wr (ret1 hr z ⟨(bup (bup h23 h27) s76), z⟩)
 refine Wk <| Wq <| Ws <| R z (fd fld_82_5 z) ?_
 have h88 := h29.ext s76
 refine R z (l1 agg_72 z fid (h88.at z)) <| R z (fd fld_82_5 z) ?_
 have h89 := h28.ext s76
 refine R z (l1 agg_72 z fid (h89.at z)) ?_
 have h96 := lt_ h70 s76.size
 obtain ⟨r98, e99, hm100⟩ := bdS (ifF hm74 hc83)
 refine E z (fc Tryz.call86 z (W_laws_eqStringS (B := B) e99 (lt_ hBw h96) (((p1_5.ext h23).ext h27).ext s76) (((p2_5.ext h23).ext h27).ext s76))) ?_
 rintro _ w101 ⟨s102, rfl⟩
 refine R z (not_ z) <| Wn <| Wc z (fun hc110 => ?_) (fun hc110 => ?_)
 ·refine Ws <| Ra z <| Wn ?_
  obtain rfl := som (ifT hm100 hc110)
  exact Wr (ret1 hr z ⟨(bup (bup (bup h23 h27) s76) s102), z⟩)
 refine Wk <| Wq <| Ws <| R z (fd fld_82_6 z) ?_
 have h116 := h88.ext s102
 refine R z (l1 agg_73 z fid (h116.at z)) <| R z (fd fld_82_6 z) ?_
 have h117 := h89.ext s102
 refine R z (l1 agg_73 z fid (h117.at z)) ?_
 have h126 := lt_ h96 s102.size
 obtain ⟨r128, e129, hm130⟩ := bdS (ifF hm100 hc110)
 refine E z (fc Tryz.call87 z (W_laws_eqIntS (B := B) e129 (lt_ hBw h126) ((((p1_6.ext h23).ext h27).ext s76).ext s102) ((((p2_6.ext h23).ext h27).ext s76).ext s102))) ?_
 rintro _ w131 ⟨s132, rfl⟩
 refine R z (not_ z) <| Wn <| Wc z (fun hc141 => ?_) (fun hc141 => ?_)
 ·refine Ws <| Ra z <| Wn ?_
  obtain rfl := som (ifT hm130 hc141)
  exact Wr (ret1 hr z ⟨(bup (bup (bup (bup h23 h27) s76) s102) s132), z⟩)
 refine Wk <| Wq <| Ws <| R z (fd fld_82_7 z) <| R z (l1 agg_73 z fid ((h116.ext s132).at z)) <| R z (fd fld_82_7 z) <| R z (l1 agg_73 z fid ((h117.ext s132).at z)) ?_
 obtain ⟨r162, e163, hm164⟩ := bdS (ifF hm130 hc141)
 refine E z (fc Tryz.call87 z (W_laws_eqIntS (B := B) e163 (lt_ hBw (lt_ h126 s132.size)) (((((p1_7.ext h23).ext h27).ext s76).ext s102).ext s132) (((((p2_7.ext h23).ext h27).ext s76).ext s102).ext s132))) ?_
 rintro _ w165 ⟨s166, rfl⟩
 refine R z (not_ z) <| Wn <| Wc z (fun hc176 => ?_) (fun hc176 => ?_)
 ·refine Ws <| Ra z <| Wn ?_
  obtain rfl := som (ifT hm164 hc176)
  exact Wr (ret1 hr z ⟨(bup (bup (bup (bup (bup h23 h27) s76) s102) s132) s166), z⟩)
 refine Wk <| Ws <| Ra z <| Wn ?_
 obtain rfl := som (ifF hm164 hc176)
 exact Wr (ret1 hr z ⟨(bup (bup (bup (bup (bup h23 h27) s76) s102) s132) s166), z⟩)
def Q_laws_eqRuleS (w0 : World) (B : Nat) (r : Bool) (v : Value) (w' : World) : Prop := Below w0.heap.size w0 w' ∧ (fun r1 => (vB r1) = v) r
theorem W_laws_eqRuleS {x1 : List Rule} {x2 : List Rule} {res : Bool} (hm : M_laws_eqRuleS x1 x2 = some res) (hBw : B ≤ w0.heap.size) (p1_0 : repS w0 B (.slice pa1_0 pn1_0 pc1_0) x1) (p2_0 : repS w0 B (.slice pa2_0 pn2_0 pc2_0) x2) : CallsR Tryz.prog 30 [(.slice pa1_0 pn1_0 pc1_0), (.slice pa2_0 pn2_0 pc2_0)] w0 (Q_laws_eqRuleS w0 B res) := by
 unfold M_laws_eqRuleS at hm
 obtain ⟨fn, hf, hb, hN, hr⟩ := fnE Tryz.func30
 refine goW hf (hb.trans z) (hN.trans z) (lb z) <| Ws <| Ra z <| Wn <| Wq <| Ws <| Rm z <| R z (lnR und_29 z p1_0) <| Rm z <| R z (lnR und_29 z p2_0) <| R z (rd_neq z z) <| Wn <| Wc z (fun hc25 => ?_) (fun hc25 => ?_)
 ·refine Ws <| Ra z <| Wn ?_
  obtain rfl := som (ifT hm hc25)
  exact Wr (ret1 hr z ⟨(br w0), z⟩)
 refine Wk <| Wq <| Ws <| Ra z <| Wn ?_
 obtain ⟨u104, hu105, hm106⟩ := bdS (ifF hm hc25)
 refine WC_forN (σ := Unit) (ρ := Bool) (fun (k107 : Nat) (_ : Unit) a w => Sat 27 [(0, (.slice pa1_0 pn1_0 pc1_0)), (1, (.slice pa2_0 pn2_0 pc2_0)), (5, (vI ((k107 : Nat) : Int)))] a ∧ Below w0.heap.size w0 w) (fun (_ : Unit) a w => Sat 27 [] a ∧ Below w0.heap.size w0 w) (fun r ex a w => ex = .ret ∧ RetPost Tryz.prog fn (Q_laws_eqRuleS w0 B r) a w) hu105 ?_ ?_ ?_ ?_ ?_
 ·exact fun _ q => ⟨(q.weaken (s3 z z z)), (br w0)⟩
 ·rintro k107 _ a108 w109 o110 hk111 ⟨hS112, s113⟩ hm114
  refine Wu (e := [(0, (.slice pa1_0 pn1_0 pc1_0)), (1, (.slice pa2_0 pn2_0 pc2_0)), (5, (vI ((k107 : Nat) : Int)))]) (N := 27) ?_ hS112
  refine Wq <| Ws <| Rm z <| Rm z ?_
  have h115 := p1_0.ext s113
  refine R z (lnR und_29 z h115) <| R z (lss z z) <| Wn <| Wc z (fun _ => ?_) (fun hc => (nolt hk111 hc).elim)
  refine Wk <| Wq <| WC_block <| Wq <| WC_draw (X := noX) 0 (.rd 0 (.rd 1 (.rd 2 (.rd 3 (.rd 4 (.rd 5 (.rd 6 (.rd 7 (.ef 8 (.rd 9 .done)))))))))) mo (by kernel_rfl) fun w191 s192 _ => dR z z (mv z) <| dR z z (mv z) ?_
  obtain ⟨x193, e194, hm195⟩ := bdS hm114
  refine dRX z z (at_ (α := Rule) und_29 size_82 z z z (h115.ext s192) e194) ?_
  rintro _ ⟨b197, o198, cs199, rfl, h200, h201, h202⟩
  obtain ⟨a206, n207, c208, a210, n211, c212, a214, n215, c216, a218, n219, c220, rfl, h203, h204, h205, h209, h213, h217, h221⟩ := Rule_open h201
  refine dR z z (lN (vs := [(Str.v x193.name), (vI x193.kind), (vI x193.size), (vB x193.little), (.slice a206 n207 c208), (.slice a210 n211 c212), (.slice a214 n215 c216), (.slice a218 n219 c220)]) agg_82 size_82 z z fid h200) <| dR z z (mv z) <| dR z z (mv z) ?_
  obtain ⟨x222, e223, hm224⟩ := bdS hm195
  refine dRX z z (at_ (α := Rule) und_29 size_82 z z z ((p2_0.ext s113).ext s192) e223) ?_
  rintro _ ⟨b227, o228, cs229, rfl, h230, h231, h232⟩
  obtain ⟨a236, n237, c238, a240, n241, c242, a244, n245, c246, a248, n249, c250, rfl, h233, h234, h235, h239, h243, h247, h251⟩ := Rule_open h231
  refine dR z z (lN (vs := [(Str.v x222.name), (vI x222.kind), (vI x222.size), (vB x222.little), (.slice a236 n237 c238), (.slice a240 n241 c242), (.slice a244 n245 c246), (.slice a248 n249 c250)]) agg_82 size_82 z z fid h230) ?_
  obtain ⟨r254, e255, hm256⟩ := bdS hm224
  refine dE z z (fc Tryz.call51 z (W_laws_eqRule (B := B) e255 (lt_ hBw (lt_ s113.size s192.size)) h203 h204 h205 h209 h213 h217 h221 h233 h234 h235 h239 h243 h247 h251)) (.inr fun _ _ h => chgB (h.1)) ?_
  rintro _ w257 ⟨s258, rfl⟩
  refine dR z z (not_ z) <| PR_done <| Wo <| Wc z (fun hc265 => ?_) (fun hc265 => ?_)
  ·exact Ws <| Ra z <| Wn <| Wr (rtO (QO_retL (som (ifT hm256 hc265)).symm (ret1 hr z ⟨(bup (bup s113 s192) s258), z⟩)))
  exact Wk <| Wg <| Rm z <| R z (inc_ hk111 (lt_ (repS.len p1_0) LEN_le) z z) <| Ra z <| Wl <| fun _ q => ⟨(), (som (ifF hm256 hc265)).symm, ⟨(q.weaken (s3 z z z)), (bup (bup s113 s192) s258)⟩⟩
 ·rintro _ a272 w273 ⟨hS274, s275⟩
  refine Wu (e := [(0, (.slice pa1_0 pn1_0 pc1_0)), (1, (.slice pa2_0 pn2_0 pc2_0)), (5, (vI ((x1.length : Nat) : Int)))]) (N := 27) ?_ hS274
  refine Wq <| Ws <| Rm z <| Rm z <| R z (lnR und_29 z (p1_0.ext s275)) <| R z (lss z z) <| Wn <| Wc z (fun hc => (noltt hc).elim) (fun _ => ?_)
  exact WC_exit (fun a' ha' => ⟨rfl, ⟨(Sat.weaken ha' sn), s275⟩⟩)
 ·rintro _ a277 w278 rfl ⟨hS279, s280⟩
  have hm281 := elL hm106
  revert a277
  refine Wo <| Ws <| Ra z <| Wn ?_
  obtain rfl := som hm281
  exact Wr (ret1 hr z ⟨s280, z⟩)
 rintro r282 ex283 a284 w285 rfl ⟨rfl, hq286⟩
 have hm287 := elR hm106
 obtain rfl := som hm287
 exact ⟨hq286, z⟩
def Q_laws_eqDescription (w0 : World) (B : Nat) (r : Bool) (v : Value) (w' : World) : Prop := Below w0.heap.size w0 w' ∧ (fun r1 => (vB r1) = v) r
theorem W_laws_eqDescription {x1 : Desc} {x2 : Desc} {res : Bool} (hm : M_laws_eqDescription x1 x2 = some res) (hBw : B ≤ w0.heap.size) (p1_0 : repS w0 B (.slice pa1_0 pn1_0 pc1_0) x1.rules) (p2_0 : repS w0 B (.slice pa2_0 pn2_0 pc2_0) x2.rules) : CallsR Tryz.prog 11 [(.agg #[(.slice pa1_0 pn1_0 pc1_0)]), (.agg #[(.slice pa2_0 pn2_0 pc2_0)])] w0 (Q_laws_eqDescription w0 B res) := by
 unfold M_laws_eqDescription at hm
 obtain ⟨fn, hf, hb, hN, hr⟩ := fnE Tryz.func11
 refine goW hf (hb.trans z) (hN.trans z) (lb z) <| Ws <| E z (fb z) ?_
 rintro _ w21 ⟨rfl, h22⟩
 have h23 := h22.below
 have h24 : Blk w21 w0.heap.size [(.slice pa1_0 pn1_0 pc1_0)] := h22.blk
 refine E z (fb z) ?_
 rintro _ w25 ⟨rfl, h26⟩
 have h27 := h26.below
 have h28 : Blk w25 w21.heap.size [(.slice pa2_0 pn2_0 pc2_0)] := h26.blk
 refine Ra z <| Wn <| Wq <| Ws <| R z (fd fld_31_0 z) <| R z (l1 agg_29 z fid ((h24.ext h27).at z)) <| R z (fd fld_31_0 z) <| R z (l1 agg_29 z fid (h28.at z)) ?_
 obtain ⟨r36, e37, hm38⟩ := bdS hm
 refine E z (fc Tryz.call30 z (W_laws_eqRuleS (B := B) e37 (lt_ hBw (lt_ h23.size h27.size)) ((p1_0.ext h23).ext h27) ((p2_0.ext h23).ext h27))) ?_
 rintro _ w39 ⟨s40, rfl⟩
 refine R z (not_ z) <| Wn <| Wc z (fun hc47 => ?_) (fun hc47 => ?_)
 ·refine Ws <| Ra z <| Wn ?_
  obtain rfl := som (ifT hm38 hc47)
  exact Wr (ret1 hr z ⟨(bup (bup h23 h27) s40), z⟩)
 refine Wk <| Ws <| Ra z <| Wn ?_
 obtain rfl := som (ifF hm38 hc47)
 exact Wr (ret1 hr z ⟨(bup (bup h23 h27) s40), z⟩)
def Q_laws_markText (w0 : World) (B : Nat) (r : Str) (v : Value) (w' : World) : Prop := Below w0.heap.size w0 w' ∧ (fun r1 => (Str.v r1) = v ∧ r1.b.length ≤ LEN) r
theorem W_laws_markText {x1 : Int} {res : Str} (hm : M_laws_markText n x1 = some res) (hBw : B ≤ w0.heap.size) (p1_0 : inI x1) : CallsR Tryz.prog 38 [(vI x1)] w0 (Q_laws_markText w0 B res) := by
 unfold M_laws_markText at hm
 obtain ⟨fn, hf, hb, hN, hr⟩ := fnE Tryz.func38
 refine goW hf (hb.trans z) (hN.trans z) (lb z) <| Ws <| Ra z <| Wn <| Wq <| Ws <| Rm z <| R z (rd_leq z z) <| Wn <| Wc z (fun hc25 => ?_) (fun hc25 => ?_)
 ·refine Ws <| Ra z <| Wn ?_
  obtain rfl := som (ifT hm hc25)
  exact Wr (ret1 hr z ⟨(br w0), z, (lb z)⟩)
 refine Wk <| Ws <| Ra z <| Wn <| Wq ?_
 obtain ⟨u58, hu59, hm60⟩ := bdS (ifF hm hc25)
 refine WC_iter (σ := Int × Str) (ρ := Str) (fun s a w => un2 (fun x54 x56 => Sat 20 [(0, (vI x54)), (3, (Str.v x56))] a ∧ Below w0.heap.size w0 w ∧ inI x54 ∧ x56.b.length ≤ LEN) s) (fun s a w => un2 (fun x54 x56 => Sat 20 [(3, (Str.v x56))] a ∧ Below w0.heap.size w0 w ∧ inI x54 ∧ x56.b.length ≤ LEN) s) (fun r ex a w => ex = .ret ∧ RetPost Tryz.prog fn (Q_laws_markText w0 B r) a w) hu59 ?_ ?_ ?_ ?_
 ·exact fun _ q => ⟨(q.weaken (s2 z z)), (br w0), p1_0, (lb z)⟩
 ·rintro ⟨x54, x56⟩ a62 w63 o64 ⟨hS66, s67, h55, h57⟩ hm68
  have hm69 := un2S hm68
  refine Wu (e := [(0, (vI x54)), (3, (Str.v x56))]) (N := 20) ?_ hS66
  refine Wq <| Ws <| Rm z <| R z (rd_gtr z z) <| Wn <| Wc z (fun hc74 => ?_) (fun hc74 => ?_)
  ·refine Wk <| WC_block <| Ws <| Rm z <| R z (rd_rem z z (by decide)) <| R z (add_ z z) <| R z (rd_convU und_3 und_5 z) <| E z (ef_buildSlice [(.tmp 11)] el_25 z z z (szAll z) (lb z) (lb z)) ?_
   rintro _ w84 ⟨rfl, h85⟩
   have h87 : Blk w84 w63.heap.size [(vU (byteI (mkB (iadd 48 (irem x54 10)))))] := h85.blk
   refine R z (rd_convST und_25 und_9 und_5 size_5 z (ownS.rep (ownS_new1 h85 UInt8_own))) <| Rm z ?_
   obtain ⟨x89, e90, hm91⟩ := bdS (ifT hm69 hc74)
   exact R z (rd_catC z z e90) <| Ra z <| Wn <| Wg <| Rm z <| R z (rd_quo z z (by decide)) <| Ra z <| Wl <| fun _ q => ⟨(iquo x54 10, x89), (som hm91).symm, ⟨(q.weaken (s2 z z)), (bup s67 h85.below), (inI_quo _ _), (cat_len e90)⟩⟩
  exact WC_exit (fun a' ha' => QO_brk (som (ifF hm69 hc74)).symm ⟨(Sat.weaken ha' (s1 z)), s67, h55, h57⟩)
 ·rintro ⟨x54, x56⟩ a94 w95 rfl ⟨hS96, s97, h55, h57⟩
  have hm98 := elL hm60
  have hm99 := un2S hm98
  revert a94
  refine Wo <| Ws <| Rm z ?_
  obtain ⟨x100, e101, hm102⟩ := bdS hm99
  refine R z (rd_catC z z e101) <| Ra z <| Wn ?_
  obtain rfl := som hm102
  exact Wr (ret1 hr z ⟨s97, z, (cat_len e101)⟩)
 rintro r103 ex104 a105 w106 rfl ⟨rfl, hq107⟩
 have hm108 := elR hm60
 obtain rfl := som hm108
 exact ⟨hq107, z⟩
def Q_laws_markByteS (w0 : World) (B : Nat) (pa1_0 : Option Addr) (pn1_0 pc1_0 : Nat) (S1_0 : List Nat) (r : Int × (List UInt8)) (v : Value) (w' : World) : Prop := Chg (· ∈ S1_0) w0 w' ∧ un2 (fun r1 r2 => ∃ (S1 : List Nat), (vI r1) = v ∧ inI r1 ∧ ownS w' S1 (.slice pa1_0 pn1_0 pc1_0) r2 ∧ S1.Nodup ∧ (∀ k ∈ S1, k ∈ S1_0 ∨ w0.heap.size ≤ k)) r
theorem W_laws_markByteS {x1 : List UInt8} {S1_0 : List Nat} {x2 : Int} {res : Int × (List UInt8)} (hm : M_laws_markByteS n x1 x2 = some res) (hBw : B ≤ w0.heap.size) (p1_0 : ownS w0 S1_0 (.slice pa1_0 pn1_0 pc1_0) x1) (p1_0n : S1_0.Nodup) (p1_0g : ∀ k ∈ S1_0, B ≤ k) (p2_0 : inI x2) : CallsR Tryz.prog 13 [(.slice pa1_0 pn1_0 pc1_0), (vI x2)] w0 (Q_laws_markByteS w0 B pa1_0 pn1_0 pc1_0 S1_0 res) := by
 unfold M_laws_markByteS at hm
 obtain ⟨fn, hf, hb, hN, hr⟩ := fnE Tryz.func13
 refine goW hf (hb.trans z) (hN.trans z) (lb z) <| Ws <| Ra z <| Wn <| Wq <| Ws <| Ra z <| Wn ?_
 obtain ⟨u117, hu118, hm119⟩ := bdS hm
 refine WC_iter (σ := (List UInt8) × Int × Int) (ρ := Int × (List UInt8)) (fun s a w => un3 (fun x105 x113 x115 => ∃  (S110 : List Nat), Sat 20 [(0, (.slice pa1_0 pn1_0 pc1_0)), (1, (vI x113)), (5, (vI x115))] a ∧ Chg (· ∈ S1_0) w0 w ∧ ownS w S110 (.slice pa1_0 pn1_0 pc1_0) x105 ∧ S110.Nodup ∧ (∀ k ∈ S110, k ∈ S1_0 ∨ w0.heap.size ≤ k) ∧ inI x113 ∧ inI x115) s) (fun s a w => un3 (fun x105 x113 x115 => ∃  (S110 : List Nat), Sat 20 [(0, (.slice pa1_0 pn1_0 pc1_0)), (1, (vI x113))] a ∧ Chg (· ∈ S1_0) w0 w ∧ ownS w S110 (.slice pa1_0 pn1_0 pc1_0) x105 ∧ S110.Nodup ∧ (∀ k ∈ S110, k ∈ S1_0 ∨ w0.heap.size ≤ k) ∧ inI x113 ∧ inI x115) s) (fun r ex a w => ex = .ret ∧ RetPost Tryz.prog fn (Q_laws_markByteS w0 B pa1_0 pn1_0 pc1_0 S1_0 r) a w) hu118 ?_ ?_ ?_ ?_
 ·exact fun _ q => ⟨S1_0, (q.weaken (s3 z z z)), (cr S1_0 w0), p1_0, p1_0n, (inor sr), p2_0, (ii z)⟩
 ·rintro ⟨x105, x113, x115⟩ a121 w122 o123 ⟨S110, hS125, s126, h109, h111, h112, h114, h116⟩ hm127
  have hm128 := un3S hm127
  refine Wu (e := [(0, (.slice pa1_0 pn1_0 pc1_0)), (1, (vI x113)), (5, (vI x115))]) (N := 20) ?_ hS125
  refine Wq <| Ws <| Rm z <| Rm z <| R z (lnR und_25 z (ownS.rep h109)) <| R z (lss z z) <| Wn <| Wc z (fun hc135 => ?_) (fun hc135 => ?_)
  ·refine Wk <| Wq <| WC_block <| Ws <| Rm z <| Rm z <| Rm z <| R z (rd_convU und_3 und_5 z) ?_
   obtain ⟨x148, e149, hm150⟩ := bdS (ifT hm128 hc135)
   refine RX z (rd_atU (α := UInt8) und_25 size_5 z z h109 e149) ?_
   rintro _ ⟨g151, h152, rfl⟩
   refine E0 (ef_setN (α := UInt8) size_5 z h152 z z z e149 h109 h111 UInt8_own all_nil nd_nil) ?_
   rintro _ w153 ⟨S154, s155, h156, h157, h158⟩
   refine Wn <| Wg <| Rm z <| R z (add_ z z) <| Ra z <| Wn <| Wg <| Rm z <| R z (add_ z z) <| Ra z <| Wl ?_
   have h159 : ∀ k ∈ S110, k ∈ S1_0 ∨ w0.heap.size ≤ k := or1 h112 (inor sr) (leor lr)
   have h160 : ∀ k ∈ S154, k ∈ S1_0 ∨ w0.heap.size ≤ k := or2 h158 h159 all_nil (leor s126.size)
   have h161 : Chg (· ∈ S1_0) w0 w122 := cM (cr S1_0 w0) s126 (inor sr)
   have h162 : Chg (· ∈ S1_0) w0 w153 := cM h161 s155 h159
   exact fun _ q => ⟨(x148, iadd x113 1, iadd x115 1), (som hm150).symm, ⟨S154, (q.weaken (s3 z z z)), h162, h156, h157, h160, (iA _ _), (iA _ _)⟩⟩
  have h164 : ∀ k ∈ S110, k ∈ S1_0 ∨ w0.heap.size ≤ k := or1 h112 (inor sr) (leor lr)
  have h165 : Chg (· ∈ S1_0) w0 w122 := cM (cr S1_0 w0) s126 (inor sr)
  exact WC_exit (fun a' ha' => QO_brk (som (ifF hm128 hc135)).symm ⟨S110, (Sat.weaken ha' (s2 z z)), h165, h109, h111, h164, h114, h116⟩)
 ·rintro ⟨x105, x113, x115⟩ a166 w167 rfl ⟨S110, hS168, s169, h109, h111, h112, h114, h116⟩
  have hm170 := elL hm119
  have hm171 := un3S hm170
  revert a166
  refine Wo <| Ws <| Rm z <| Ra z <| Wn ?_
  obtain rfl := som hm171
  have h172 : Chg (· ∈ S1_0) w0 w167 := cM (cr S1_0 w0) s169 (inor sr)
  have h173 : ∀ k ∈ S110, k ∈ S1_0 ∨ w0.heap.size ≤ k := or1 h112 (inor sr) (leor lr)
  exact Wr (ret1 hr z ⟨h172, S110, z, h114, h109, h111, h173⟩)
 rintro r174 ex175 a176 w177 rfl ⟨rfl, hq178⟩
 have hm179 := elR hm119
 obtain rfl := som hm179
 exact ⟨hq178, z⟩
def Q_laws_markStringS (w0 : World) (B : Nat) (pa1_0 : Option Addr) (pn1_0 pc1_0 : Nat) (S1_0 : List Nat) (r : Int × (List Str)) (v : Value) (w' : World) : Prop := Chg (· ∈ S1_0) w0 w' ∧ un2 (fun r1 r2 => ∃ (S1 : List Nat), (vI r1) = v ∧ inI r1 ∧ ownS w' S1 (.slice pa1_0 pn1_0 pc1_0) r2 ∧ S1.Nodup ∧ (∀ k ∈ S1, k ∈ S1_0 ∨ w0.heap.size ≤ k)) r
theorem W_laws_markStringS {x1 : List Str} {S1_0 : List Nat} {x2 : Int} {res : Int × (List Str)} (hm : M_laws_markStringS n x1 x2 = some res) (hBw : B ≤ w0.heap.size) (p1_0 : ownS w0 S1_0 (.slice pa1_0 pn1_0 pc1_0) x1) (p1_0n : S1_0.Nodup) (p1_0g : ∀ k ∈ S1_0, B ≤ k) (p2_0 : inI x2) : CallsR Tryz.prog 52 [(.slice pa1_0 pn1_0 pc1_0), (vI x2)] w0 (Q_laws_markStringS w0 B pa1_0 pn1_0 pc1_0 S1_0 res) := by
 unfold M_laws_markStringS at hm
 obtain ⟨fn, hf, hb, hN, hr⟩ := fnE Tryz.func52
 refine goW hf (hb.trans z) (hN.trans z) (lb z) <| Ws <| Ra z <| Wn <| Wq <| Ws <| Ra z <| Wn ?_
 obtain ⟨u149, hu150, hm151⟩ := bdS hm
 refine WC_iter (σ := (List Str) × Int × Int) (ρ := Int × (List Str)) (fun s a w => un3 (fun x137 x145 x147 => ∃  (S142 : List Nat), Sat 20 [(0, (.slice pa1_0 pn1_0 pc1_0)), (1, (vI x145)), (5, (vI x147))] a ∧ Chg (· ∈ S1_0) w0 w ∧ ownS w S142 (.slice pa1_0 pn1_0 pc1_0) x137 ∧ S142.Nodup ∧ (∀ k ∈ S142, k ∈ S1_0 ∨ w0.heap.size ≤ k) ∧ inI x145 ∧ inI x147) s) (fun s a w => un3 (fun x137 x145 x147 => ∃  (S142 : List Nat), Sat 20 [(0, (.slice pa1_0 pn1_0 pc1_0)), (1, (vI x145))] a ∧ Chg (· ∈ S1_0) w0 w ∧ ownS w S142 (.slice pa1_0 pn1_0 pc1_0) x137 ∧ S142.Nodup ∧ (∀ k ∈ S142, k ∈ S1_0 ∨ w0.heap.size ≤ k) ∧ inI x145 ∧ inI x147) s) (fun r ex a w => ex = .ret ∧ RetPost Tryz.prog fn (Q_laws_markStringS w0 B pa1_0 pn1_0 pc1_0 S1_0 r) a w) hu150 ?_ ?_ ?_ ?_
 ·exact fun _ q => ⟨S1_0, (q.weaken (s3 z z z)), (cr S1_0 w0), p1_0, p1_0n, (inor sr), p2_0, (ii z)⟩
 ·rintro ⟨x137, x145, x147⟩ a153 w154 o155 ⟨S142, hS157, s158, h141, h143, h144, h146, h148⟩ hm159
  have hm160 := un3S hm159
  refine Wu (e := [(0, (.slice pa1_0 pn1_0 pc1_0)), (1, (vI x145)), (5, (vI x147))]) (N := 20) ?_ hS157
  refine Wq <| Ws <| Rm z <| Rm z <| R z (lnR und_72 z (ownS.rep h141)) <| R z (lss z z) <| Wn <| Wc z (fun hc167 => ?_) (fun hc167 => ?_)
  ·refine Wk <| Wq <| WC_block <| Ws <| Rm z <| Rm z <| Rm z ?_
   obtain ⟨r189, e190, hm191⟩ := bdS (ifT hm160 hc167)
   refine E z (fc Tryz.call38 z (W_laws_markText (B := B) e190 (lt_ hBw s158.size) h146)) ?_
   rintro _ w192 ⟨s193, rfl, h194⟩
   obtain ⟨x195, e196, hm197⟩ := bdS hm191
   have h198 := h141.ext s193
   refine RX z (rd_atU (α := Str) und_72 size_9 z z h198 e196) ?_
   rintro _ ⟨g199, h200, rfl⟩
   refine E0 (ef_setN (α := Str) size_9 z h200 z z z e196 h198 h143 (Str_own h194) all_nil nd_nil) ?_
   rintro _ w201 ⟨S202, s203, h204, h205, h206⟩
   refine Wn <| Wg <| Rm z <| R z (add_ z z) <| Ra z <| Wn <| Wg <| Rm z <| R z (add_ z z) <| Ra z <| Wl ?_
   have h208 : ∀ k ∈ S142, k ∈ S1_0 ∨ w0.heap.size ≤ k := or1 h144 (inor sr) (leor lr)
   have h209 : ∀ k ∈ S202, k ∈ S1_0 ∨ w0.heap.size ≤ k := or2 h206 h208 all_nil (leor (lt_ s158.size s193.size))
   have h210 : Chg (· ∈ S1_0) w0 w154 := cM (cr S1_0 w0) s158 (inor sr)
   have h211 : Chg (· ∈ S1_0) w0 w192 := cext h210 s193
   have h212 : Chg (· ∈ S1_0) w0 w201 := cM h211 s203 h208
   exact fun _ q => ⟨(x195, iadd x145 1, iadd x147 1), (som hm197).symm, ⟨S202, (q.weaken (s3 z z z)), h212, h204, h205, h209, (iA _ _), (iA _ _)⟩⟩
  have h214 : ∀ k ∈ S142, k ∈ S1_0 ∨ w0.heap.size ≤ k := or1 h144 (inor sr) (leor lr)
  have h215 : Chg (· ∈ S1_0) w0 w154 := cM (cr S1_0 w0) s158 (inor sr)
  exact WC_exit (fun a' ha' => QO_brk (som (ifF hm160 hc167)).symm ⟨S142, (Sat.weaken ha' (s2 z z)), h215, h141, h143, h214, h146, h148⟩)
 ·rintro ⟨x137, x145, x147⟩ a216 w217 rfl ⟨S142, hS218, s219, h141, h143, h144, h146, h148⟩
  have hm220 := elL hm151
  have hm221 := un3S hm220
  revert a216
  refine Wo <| Ws <| Rm z <| Ra z <| Wn ?_
  obtain rfl := som hm221
  have h222 : Chg (· ∈ S1_0) w0 w217 := cM (cr S1_0 w0) s219 (inor sr)
  have h223 : ∀ k ∈ S142, k ∈ S1_0 ∨ w0.heap.size ≤ k := or1 h144 (inor sr) (leor lr)
  exact Wr (ret1 hr z ⟨h222, S142, z, h146, h141, h143, h223⟩)
 rintro r224 ex225 a226 w227 rfl ⟨rfl, hq228⟩
 have hm229 := elR hm151
 obtain rfl := som hm229
 exact ⟨hq228, z⟩
def Q_laws_markIntS (w0 : World) (B : Nat) (pa1_0 : Option Addr) (pn1_0 pc1_0 : Nat) (S1_0 : List Nat) (r : Int × (List Int)) (v : Value) (w' : World) : Prop := Chg (· ∈ S1_0) w0 w' ∧ un2 (fun r1 r2 => ∃ (S1 : List Nat), (vI r1) = v ∧ inI r1 ∧ ownS w' S1 (.slice pa1_0 pn1_0 pc1_0) r2 ∧ S1.Nodup ∧ (∀ k ∈ S1, k ∈ S1_0 ∨ w0.heap.size ≤ k)) r
theorem W_laws_markIntS {x1 : List Int} {S1_0 : List Nat} {x2 : Int} {res : Int × (List Int)} (hm : M_laws_markIntS n x1 x2 = some res) (hBw : B ≤ w0.heap.size) (p1_0 : ownS w0 S1_0 (.slice pa1_0 pn1_0 pc1_0) x1) (p1_0n : S1_0.Nodup) (p1_0g : ∀ k ∈ S1_0, B ≤ k) (p2_0 : inI x2) : CallsR Tryz.prog 53 [(.slice pa1_0 pn1_0 pc1_0), (vI x2)] w0 (Q_laws_markIntS w0 B pa1_0 pn1_0 pc1_0 S1_0 res) := by
 unfold M_laws_markIntS at hm
 obtain ⟨fn, hf, hb, hN, hr⟩ := fnE Tryz.func53
 refine goW hf (hb.trans z) (hN.trans z) (lb z) <| Ws <| Ra z <| Wn <| Wq <| Ws <| Ra z <| Wn ?_
 obtain ⟨u117, hu118, hm119⟩ := bdS hm
 refine WC_iter (σ := (List Int) × Int × Int) (ρ := Int × (List Int)) (fun s a w => un3 (fun x105 x113 x115 => ∃  (S110 : List Nat), Sat 19 [(0, (.slice pa1_0 pn1_0 pc1_0)), (1, (vI x113)), (5, (vI x115))] a ∧ Chg (· ∈ S1_0) w0 w ∧ ownS w S110 (.slice pa1_0 pn1_0 pc1_0) x105 ∧ S110.Nodup ∧ (∀ k ∈ S110, k ∈ S1_0 ∨ w0.heap.size ≤ k) ∧ inI x113 ∧ inI x115) s) (fun s a w => un3 (fun x105 x113 x115 => ∃  (S110 : List Nat), Sat 19 [(0, (.slice pa1_0 pn1_0 pc1_0)), (1, (vI x113))] a ∧ Chg (· ∈ S1_0) w0 w ∧ ownS w S110 (.slice pa1_0 pn1_0 pc1_0) x105 ∧ S110.Nodup ∧ (∀ k ∈ S110, k ∈ S1_0 ∨ w0.heap.size ≤ k) ∧ inI x113 ∧ inI x115) s) (fun r ex a w => ex = .ret ∧ RetPost Tryz.prog fn (Q_laws_markIntS w0 B pa1_0 pn1_0 pc1_0 S1_0 r) a w) hu118 ?_ ?_ ?_ ?_
 ·exact fun _ q => ⟨S1_0, (q.weaken (s3 z z z)), (cr S1_0 w0), p1_0, p1_0n, (inor sr), p2_0, (ii z)⟩
 ·rintro ⟨x105, x113, x115⟩ a121 w122 o123 ⟨S110, hS125, s126, h109, h111, h112, h114, h116⟩ hm127
  have hm128 := un3S hm127
  refine Wu (e := [(0, (.slice pa1_0 pn1_0 pc1_0)), (1, (vI x113)), (5, (vI x115))]) (N := 19) ?_ hS125
  refine Wq <| Ws <| Rm z <| Rm z <| R z (lnR und_73 z (ownS.rep h109)) <| R z (lss z z) <| Wn <| Wc z (fun hc135 => ?_) (fun hc135 => ?_)
  ·refine Wk <| Wq <| WC_block <| Ws <| Rm z <| Rm z <| Rm z ?_
   obtain ⟨x148, e149, hm150⟩ := bdS (ifT hm128 hc135)
   refine RX z (rd_atU (α := Int) und_73 size_3 z z h109 e149) ?_
   rintro _ ⟨g151, h152, rfl⟩
   refine E0 (ef_setN (α := Int) size_3 z h152 z z z e149 h109 h111 (Int_own h114) all_nil nd_nil) ?_
   rintro _ w153 ⟨S154, s155, h156, h157, h158⟩
   refine Wn <| Wg <| Rm z <| R z (add_ z z) <| Ra z <| Wn <| Wg <| Rm z <| R z (add_ z z) <| Ra z <| Wl ?_
   have h159 : ∀ k ∈ S110, k ∈ S1_0 ∨ w0.heap.size ≤ k := or1 h112 (inor sr) (leor lr)
   have h160 : ∀ k ∈ S154, k ∈ S1_0 ∨ w0.heap.size ≤ k := or2 h158 h159 all_nil (leor s126.size)
   have h161 : Chg (· ∈ S1_0) w0 w122 := cM (cr S1_0 w0) s126 (inor sr)
   have h162 : Chg (· ∈ S1_0) w0 w153 := cM h161 s155 h159
   exact fun _ q => ⟨(x148, iadd x113 1, iadd x115 1), (som hm150).symm, ⟨S154, (q.weaken (s3 z z z)), h162, h156, h157, h160, (iA _ _), (iA _ _)⟩⟩
  have h164 : ∀ k ∈ S110, k ∈ S1_0 ∨ w0.heap.size ≤ k := or1 h112 (inor sr) (leor lr)
  have h165 : Chg (· ∈ S1_0) w0 w122 := cM (cr S1_0 w0) s126 (inor sr)
  exact WC_exit (fun a' ha' => QO_brk (som (ifF hm128 hc135)).symm ⟨S110, (Sat.weaken ha' (s2 z z)), h165, h109, h111, h164, h114, h116⟩)
 ·rintro ⟨x105, x113, x115⟩ a166 w167 rfl ⟨S110, hS168, s169, h109, h111, h112, h114, h116⟩
  have hm170 := elL hm119
  have hm171 := un3S hm170
  revert a166
  refine Wo <| Ws <| Rm z <| Ra z <| Wn ?_
  obtain rfl := som hm171
  have h172 : Chg (· ∈ S1_0) w0 w167 := cM (cr S1_0 w0) s169 (inor sr)
  have h173 : ∀ k ∈ S110, k ∈ S1_0 ∨ w0.heap.size ≤ k := or1 h112 (inor sr) (leor lr)
  exact Wr (ret1 hr z ⟨h172, S110, z, h114, h109, h111, h173⟩)
 rintro r174 ex175 a176 w177 rfl ⟨rfl, hq178⟩
 have hm179 := elR hm119
 obtain rfl := som hm179
 exact ⟨hq178, z⟩
def Q_laws_markRuleS (w0 : World) (B : Nat) (pa1_0 : Option Addr) (pn1_0 pc1_0 : Nat) (S1_0 : List Nat) (r : Int × (List Rule)) (v : Value) (w' : World) : Prop := Chg (· ∈ S1_0) w0 w' ∧ un2 (fun r1 r2 => ∃ (S1 : List Nat), (vI r1) = v ∧ inI r1 ∧ ownS w' S1 (.slice pa1_0 pn1_0 pc1_0) r2 ∧ S1.Nodup ∧ (∀ k ∈ S1, k ∈ S1_0 ∨ w0.heap.size ≤ k)) r
theorem W_laws_markRuleS {x1 : List Rule} {S1_0 : List Nat} {x2 : Int} {res : Int × (List Rule)} (hm : M_laws_markRuleS n x1 x2 = some res) (hBw : B ≤ w0.heap.size) (p1_0 : ownS w0 S1_0 (.slice pa1_0 pn1_0 pc1_0) x1) (p1_0n : S1_0.Nodup) (p1_0g : ∀ k ∈ S1_0, B ≤ k) (p2_0 : inI x2) : CallsR Tryz.prog 31 [(.slice pa1_0 pn1_0 pc1_0), (vI x2)] w0 (Q_laws_markRuleS w0 B pa1_0 pn1_0 pc1_0 S1_0 res) := by
 unfold M_laws_markRuleS at hm
 obtain ⟨fn, hf, hb, hN, hr⟩ := fnE Tryz.func31
 refine goW hf (hb.trans z) (hN.trans z) (lb z) <| Ws <| Ra z <| Wn <| Wq <| Ws <| Ra z <| Wn ?_
 obtain ⟨u1383, hu1384, hm1385⟩ := bdS hm
 refine WC_iter (σ := (List Rule) × Int × Int) (ρ := Int × (List Rule)) (fun s a w => un3 (fun x1371 x1379 x1381 => ∃  (S1376 : List Nat), Sat 72 [(0, (.slice pa1_0 pn1_0 pc1_0)), (1, (vI x1379)), (5, (vI x1381))] a ∧ Chg (· ∈ S1_0) w0 w ∧ ownS w S1376 (.slice pa1_0 pn1_0 pc1_0) x1371 ∧ S1376.Nodup ∧ (∀ k ∈ S1376, k ∈ S1_0 ∨ w0.heap.size ≤ k) ∧ inI x1379 ∧ inI x1381) s) (fun s a w => un3 (fun x1371 x1379 x1381 => ∃  (S1376 : List Nat), Sat 72 [(0, (.slice pa1_0 pn1_0 pc1_0)), (1, (vI x1379))] a ∧ Chg (· ∈ S1_0) w0 w ∧ ownS w S1376 (.slice pa1_0 pn1_0 pc1_0) x1371 ∧ S1376.Nodup ∧ (∀ k ∈ S1376, k ∈ S1_0 ∨ w0.heap.size ≤ k) ∧ inI x1379 ∧ inI x1381) s) (fun r ex a w => ex = .ret ∧ RetPost Tryz.prog fn (Q_laws_markRuleS w0 B pa1_0 pn1_0 pc1_0 S1_0 r) a w) hu1384 ?_ ?_ ?_ ?_
 ·exact fun _ q => ⟨S1_0, (q.weaken (s3 z z z)), (cr S1_0 w0), p1_0, p1_0n, (inor sr), p2_0, (ii z)⟩
 ·rintro ⟨x1371, x1379, x1381⟩ a1387 w1388 o1389 ⟨S1376, hS1391, s1392, h1375, h1377, h1378, h1380, h1382⟩ hm1393
  have hm1394 := un3S hm1393
  refine Wu (e := [(0, (.slice pa1_0 pn1_0 pc1_0)), (1, (vI x1379)), (5, (vI x1381))]) (N := 72) ?_ hS1391
  refine Wq <| Ws <| Rm z <| Rm z <| R z (lnR und_29 z (ownS.rep h1375)) <| R z (lss z z) <| Wn <| Wc z (fun hc1401 => ?_) (fun hc1401 => ?_)
  ·refine Wk <| Wq <| WC_block <| Ws <| Rm z <| Rm z <| Rm z ?_
   obtain ⟨r1732, e1733, hm1734⟩ := bdS (ifT hm1394 hc1401)
   refine E z (fc Tryz.call38 z (W_laws_markText (B := B) e1733 (lt_ hBw s1392.size) h1380)) ?_
   rintro _ w1735 ⟨s1736, rfl, h1737⟩
   obtain ⟨x1738, e1739, hm1740⟩ := bdS hm1734
   have h1741 := h1375.ext s1736
   refine RX z (rd_atQ (α := Rule) und_29 size_82 z z h1741 e1739) ?_
   rintro _ ⟨g1742, h1743, rfl⟩
   refine R z (fd fld_82_0 z) ?_
   obtain ⟨x1744, e1745, hm1746⟩ := bdS hm1740
   refine E0 (ef_setF (α := Rule) (v' := (⟨r1732, x1738.kind, x1738.size, x1738.little, x1738.bytes, x1738.names, x1738.tags, x1738.kids⟩ : Rule)) size_9 z h1743 z z z z e1739 e1745 h1741 h1377 (lb z) (fun _ _ _ h => Rule_setO0 h h1737)) ?_
   rintro _ w1747 ⟨S1748, s1749, h1750, h1751, h1752⟩
   refine Wn <| Ws <| Rm z <| R z (add_ z z) <| Ra z <| Wn <| Ws <| Rm z <| Rm z <| Rm z ?_
   obtain ⟨x1753, e1754, hm1755⟩ := bdS hm1746
   refine RX z (rd_atQ (α := Rule) und_29 size_82 z z h1750 e1754) ?_
   rintro _ ⟨g1756, h1757, rfl⟩
   refine R z (fd fld_82_1 z) ?_
   obtain ⟨x1758, e1759, hm1760⟩ := bdS hm1755
   refine E0 (ef_setF (α := Rule) (v' := (⟨x1753.name, iadd x1379 1, x1753.size, x1753.little, x1753.bytes, x1753.names, x1753.tags, x1753.kids⟩ : Rule)) size_3 z h1757 z z z z e1754 e1759 h1750 h1751 (lb z) (fun _ _ _ h => Rule_setO1 h (iA _ _))) ?_
   rintro _ w1761 ⟨S1762, s1763, h1764, h1765, h1766⟩
   refine Wn <| Ws <| Rm z <| R z (add_ z z) <| Ra z <| Wn <| Ws <| Rm z <| Rm z <| Rm z ?_
   obtain ⟨x1767, e1768, hm1769⟩ := bdS hm1760
   refine RX z (rd_atQ (α := Rule) und_29 size_82 z z h1764 e1768) ?_
   rintro _ ⟨g1770, h1771, rfl⟩
   refine R z (fd fld_82_2 z) ?_
   obtain ⟨x1772, e1773, hm1774⟩ := bdS hm1769
   refine E0 (ef_setF (α := Rule) (v' := (⟨x1767.name, x1767.kind, iadd (iadd x1379 1) 1, x1767.little, x1767.bytes, x1767.names, x1767.tags, x1767.kids⟩ : Rule)) size_3 z h1771 z z z z e1768 e1773 h1764 h1765 (lb z) (fun _ _ _ h => Rule_setO2 h (iA _ _))) ?_
   rintro _ w1775 ⟨S1776, s1777, h1778, h1779, h1780⟩
   refine Wn <| Ws <| Rm z <| R z (add_ z z) <| Ra z <| Wn <| Ws <| Rm z <| Rm z <| Rm z <| R z (rd_rem z z (by decide)) <| R z (eql z z) ?_
   obtain ⟨x1781, e1782, hm1783⟩ := bdS hm1774
   refine RX z (rd_atQ (α := Rule) und_29 size_82 z z h1778 e1782) ?_
   rintro _ ⟨g1784, h1785, rfl⟩
   refine R z (fd fld_82_3 z) ?_
   obtain ⟨x1786, e1787, hm1788⟩ := bdS hm1783
   refine E0 (ef_setF (α := Rule) (v' := (⟨x1781.name, x1781.kind, x1781.size, (irem (iadd (iadd (iadd x1379 1) 1) 1) 3) == 0, x1781.bytes, x1781.names, x1781.tags, x1781.kids⟩ : Rule)) size_4 z h1785 z z z z e1782 e1787 h1778 h1779 (lb z) (fun _ _ _ h => Rule_setO3 h)) ?_
   rintro _ w1789 ⟨S1790, s1791, h1792, h1793, h1794⟩
   refine Wn <| Ws <| Rm z <| R z (add_ z z) <| Ra z <| Wn <| Ws <| Rm z <| Rm z ?_
   obtain ⟨x1795, e1796, hm1797⟩ := bdS hm1788
   refine RX z (rd_atQ (α := Rule) und_29 size_82 z z h1792 e1796) ?_
   rintro _ ⟨g1798, h1799, rfl⟩
   obtain ⟨cs1800, S1801, h1802, h1803, h1804, h1805, h1806, h1807⟩ := own_lens h1799 h1792 h1793 e1796
   obtain ⟨a1811, n1812, c1813, a1816, n1817, c1818, a1821, n1822, c1823, a1826, n1827, c1828, S1815, S1820, S1825, S1830, rfl, rfl, h1808, h1809, h1810, h1814, h1819, h1824, h1829⟩ := Rule_openO h1803
   refine R z (fd fld_82_4 z) <| R z (l1 agg_25 z fid (h1802.at (j := 4) z)) <| Rm z ?_
   have h1831 := lt_ s1392.size s1736.size
   have h1832 := lt_ h1831 s1749.size
   have h1833 := lt_ h1832 s1763.size
   have h1834 := lt_ h1833 s1777.size
   have h1835 := lt_ h1834 s1791.size
   have h1836 := lt_ hBw h1835
   have h1845 := o1le h1794 (o1le h1780 (o1le h1766 (o1le h1752 (o1le h1378 p1_0g hBw) (lt_ hBw h1831)) (lt_ hBw h1832)) (lt_ hBw h1833)) (lt_ hBw h1834)
   obtain ⟨r1847, r1850, e1848, hm1849⟩ := bd2S hm1797
   refine E z (fc Tryz.call13 z (W_laws_markByteS (B := B) e1848 h1836 h1814 (nd_left h1804) (o1le (fun k hk => .inl (h1805 k (List.mem_append_left _ hk))) h1845 h1836) (iA _ _))) ?_
   rintro _ w1851 ⟨s1852, S1854, rfl, h1853, h1855, h1856, h1857⟩
   have h1864 : Chg (· ∈ (S1815 ++ (S1820 ++ (S1825 ++ S1830)))) w1789 w1851 := cM (cr (S1815 ++ (S1820 ++ (S1825 ++ S1830))) w1789) s1852 (inor (sub_l sr))
   have h1869 : ∀ k ∈ S1854, k ∈ (S1815 ++ (S1820 ++ (S1825 ++ S1830))) ∨ w1789.heap.size ≤ k := or1 h1857 (inor (sub_l sr)) (leor lr)
   obtain ⟨S1865, h1866, h1867, h1868⟩ := h1807 _ _ _ h1864 (Rule_mkO (x := (⟨x1795.name, x1795.kind, x1795.size, x1795.little, r1850, x1795.names, x1795.tags, x1795.kids⟩ : Rule)) (S1 := S1854) (S2 := S1820) (S3 := S1825) (S4 := S1830) h1808 h1809 h1810 h1855 (h1819.chg s1852 (dj_symm (nmL (nd_dj h1804)))) (h1824.chg s1852 (dj_symm (nmL (nmR (nd_dj h1804))))) (h1829.chg s1852 (dj_symm (nmR (nmR (nd_dj h1804)))))) (nd_app h1856 (nd_app (nd_left (nd_right h1804)) (nd_app (nd_left (nd_right (nd_right h1804))) (nd_right (nd_right (nd_right h1804))) (nd_dj (nd_right (nd_right h1804)))) (nmA (nmL (nd_dj (nd_right h1804))) (nmR (nd_dj (nd_right h1804))))) (nmA (o1no h1857 (nmL (nd_dj h1804)) (ownS.lt h1819) (Nat.le_refl _)) (nmA (o1no h1857 (nmL (nmR (nd_dj h1804))) (ownS.lt h1824) (Nat.le_refl _)) (o1no h1857 (nmR (nmR (nd_dj h1804))) (ownS.lt h1829) (Nat.le_refl _))))) (all_app h1869 (all_app (inor (sub_r (sub_l sr))) (all_app (inor (sub_r (sub_r (sub_l sr)))) (inor (sub_r (sub_r (sub_r sr)))))))
   refine Ra z <| Wn <| Ws <| Rm z <| Rm z ?_
   obtain ⟨x1870, e1871, hm1872⟩ := bdS hm1849
   refine RX z (rd_atQ (α := Rule) und_29 size_82 z z h1866 e1871) ?_
   rintro _ ⟨g1873, h1874, rfl⟩
   obtain ⟨cs1875, S1876, h1877, h1878, h1879, h1880, h1881, h1882⟩ := own_lens h1874 h1866 h1867 e1871
   obtain ⟨a1886, n1887, c1888, a1891, n1892, c1893, a1896, n1897, c1898, a1901, n1902, c1903, S1890, S1895, S1900, S1905, rfl, rfl, h1883, h1884, h1885, h1889, h1894, h1899, h1904⟩ := Rule_openO h1878
   refine R z (fd fld_82_5 z) <| R z (l1 agg_72 z fid (h1877.at (j := 5) z)) <| Rm z ?_
   have h1906 := lt_ h1835 s1852.size
   have h1907 := lt_ hBw h1906
   have h1908 := o1le h1868 h1845 h1836
   obtain ⟨r1910, r1913, e1911, hm1912⟩ := bd2S hm1872
   refine E z (fc Tryz.call52 z (W_laws_markStringS (B := B) e1911 h1907 h1894 (nd_left (nd_right h1879)) (o1le (fun k hk => .inl ((fun k hk => h1880 k (List.mem_append_right _ hk)) k (List.mem_append_left _ hk))) h1908 h1907) h1853)) ?_
   rintro _ w1914 ⟨s1915, S1917, rfl, h1916, h1918, h1919, h1920⟩
   have h1927 : Chg (· ∈ (S1890 ++ (S1895 ++ (S1900 ++ S1905)))) w1851 w1914 := cM (cr (S1890 ++ (S1895 ++ (S1900 ++ S1905))) w1851) s1915 (inor (sub_r (sub_l sr)))
   have h1932 : ∀ k ∈ S1917, k ∈ (S1890 ++ (S1895 ++ (S1900 ++ S1905))) ∨ w1851.heap.size ≤ k := or1 h1920 (inor (sub_r (sub_l sr))) (leor lr)
   obtain ⟨S1928, h1929, h1930, h1931⟩ := h1882 _ _ _ h1927 (Rule_mkO (x := (⟨x1870.name, x1870.kind, x1870.size, x1870.little, x1870.bytes, r1913, x1870.tags, x1870.kids⟩ : Rule)) (S1 := S1890) (S2 := S1917) (S3 := S1900) (S4 := S1905) h1883 h1884 h1885 (h1889.chg s1915 (nmL (nd_dj h1879))) h1918 (h1899.chg s1915 (dj_symm (nmL (nd_dj (nd_right h1879))))) (h1904.chg s1915 (dj_symm (nmR (nd_dj (nd_right h1879)))))) (nd_app (nd_left h1879) (nd_app h1919 (nd_app (nd_left (nd_right (nd_right h1879))) (nd_right (nd_right (nd_right h1879))) (nd_dj (nd_right (nd_right h1879)))) (nmA (o1no h1920 (nmL (nd_dj (nd_right h1879))) (ownS.lt h1899) (Nat.le_refl _)) (o1no h1920 (nmR (nd_dj (nd_right h1879))) (ownS.lt h1904) (Nat.le_refl _)))) (nmA (dj_symm (o1no h1920 (dj_symm (nmL (nd_dj h1879))) (ownS.lt h1889) (Nat.le_refl _))) (nmA (nmL (nmR (nd_dj h1879))) (nmR (nmR (nd_dj h1879)))))) (all_app (inor (sub_l sr)) (all_app h1932 (all_app (inor (sub_r (sub_r (sub_l sr)))) (inor (sub_r (sub_r (sub_r sr)))))))
   refine Ra z <| Wn <| Ws <| Rm z <| Rm z ?_
   obtain ⟨x1933, e1934, hm1935⟩ := bdS hm1912
   refine RX z (rd_atQ (α := Rule) und_29 size_82 z z h1929 e1934) ?_
   rintro _ ⟨g1936, h1937, rfl⟩
   obtain ⟨cs1938, S1939, h1940, h1941, h1942, h1943, h1944, h1945⟩ := own_lens h1937 h1929 h1930 e1934
   obtain ⟨a1949, n1950, c1951, a1954, n1955, c1956, a1959, n1960, c1961, a1964, n1965, c1966, S1953, S1958, S1963, S1968, rfl, rfl, h1946, h1947, h1948, h1952, h1957, h1962, h1967⟩ := Rule_openO h1941
   refine R z (fd fld_82_6 z) <| R z (l1 agg_73 z fid (h1940.at (j := 6) z)) <| Rm z ?_
   have h1969 := lt_ h1906 s1915.size
   have h1970 := lt_ hBw h1969
   have h1971 := o1le h1931 h1908 h1907
   obtain ⟨r1973, r1976, e1974, hm1975⟩ := bd2S hm1935
   refine E z (fc Tryz.call53 z (W_laws_markIntS (B := B) e1974 h1970 h1962 (nd_left (nd_right (nd_right h1942))) (o1le (fun k hk => .inl ((fun k hk => (fun k hk => h1943 k (List.mem_append_right _ hk)) k (List.mem_append_right _ hk)) k (List.mem_append_left _ hk))) h1971 h1970) h1916)) ?_
   rintro _ w1977 ⟨s1978, S1980, rfl, h1979, h1981, h1982, h1983⟩
   have h1990 : Chg (· ∈ (S1953 ++ (S1958 ++ (S1963 ++ S1968)))) w1914 w1977 := cM (cr (S1953 ++ (S1958 ++ (S1963 ++ S1968))) w1914) s1978 (inor (sub_r (sub_r (sub_l sr))))
   have h1995 : ∀ k ∈ S1980, k ∈ (S1953 ++ (S1958 ++ (S1963 ++ S1968))) ∨ w1914.heap.size ≤ k := or1 h1983 (inor (sub_r (sub_r (sub_l sr)))) (leor lr)
   obtain ⟨S1991, h1992, h1993, h1994⟩ := h1945 _ _ _ h1990 (Rule_mkO (x := (⟨x1933.name, x1933.kind, x1933.size, x1933.little, x1933.bytes, x1933.names, r1976, x1933.kids⟩ : Rule)) (S1 := S1953) (S2 := S1958) (S3 := S1980) (S4 := S1968) h1946 h1947 h1948 (h1952.chg s1978 (nmL (nmR (nd_dj h1942)))) (h1957.chg s1978 (nmL (nd_dj (nd_right h1942)))) h1981 (h1967.chg s1978 (dj_symm (nd_dj (nd_right (nd_right h1942)))))) (nd_app (nd_left h1942) (nd_app (nd_left (nd_right h1942)) (nd_app h1982 (nd_right (nd_right (nd_right h1942))) (o1no h1983 (nd_dj (nd_right (nd_right h1942))) (ownS.lt h1967) (Nat.le_refl _))) (nmA (dj_symm (o1no h1983 (dj_symm (nmL (nd_dj (nd_right h1942)))) (ownS.lt h1957) (Nat.le_refl _))) (nmR (nd_dj (nd_right h1942))))) (nmA (nmL (nd_dj h1942)) (nmA (dj_symm (o1no h1983 (dj_symm (nmL (nmR (nd_dj h1942)))) (ownS.lt h1952) (Nat.le_refl _))) (nmR (nmR (nd_dj h1942)))))) (all_app (inor (sub_l sr)) (all_app (inor (sub_r (sub_l sr))) (all_app h1995 (inor (sub_r (sub_r (sub_r sr)))))))
   refine Ra z <| Wn <| Wg <| Rm z <| Rm z ?_
   obtain ⟨x1996, e1997, hm1998⟩ := bdS hm1975
   refine RX z (rd_atQ (α := Rule) und_29 size_82 z z h1992 e1997) ?_
   rintro _ ⟨g1999, h2000, rfl⟩
   obtain ⟨cs2001, S2002, h2003, h2004, h2005, h2006, h2007, h2008⟩ := own_lens h2000 h1992 h1993 e1997
   obtain ⟨a2012, n2013, c2014, a2017, n2018, c2019, a2022, n2023, c2024, a2027, n2028, c2029, S2016, S2021, S2026, S2031, rfl, rfl, h2009, h2010, h2011, h2015, h2020, h2025, h2030⟩ := Rule_openO h2004
   refine R z (fd fld_82_7 z) <| R z (l1 agg_73 z fid (h2003.at (j := 7) z)) <| Rm z ?_
   have h2032 := lt_ h1969 s1978.size
   have h2033 := lt_ hBw h2032
   have h2035 := o1le (fun k hk => .inl ((fun k hk => (fun k hk => (fun k hk => h2006 k (List.mem_append_right _ hk)) k (List.mem_append_right _ hk)) k (List.mem_append_right _ hk)) k hk)) (o1le h1994 h1971 h1970) h2033
   obtain ⟨r2036, r2039, e2037, hm2038⟩ := bd2S hm1998
   refine E z (fc Tryz.call53 z (W_laws_markIntS (B := B) e2037 h2033 h2030 (nd_right (nd_right (nd_right h2005))) h2035 h1979)) ?_
   rintro _ w2040 ⟨s2041, S2043, rfl, h2042, h2044, h2045, h2046⟩
   have h2053 : Chg (· ∈ (S2016 ++ (S2021 ++ (S2026 ++ S2031)))) w1977 w2040 := cM (cr (S2016 ++ (S2021 ++ (S2026 ++ S2031))) w1977) s2041 (inor (sub_r (sub_r (sub_r sr))))
   have h2058 : ∀ k ∈ S2043, k ∈ (S2016 ++ (S2021 ++ (S2026 ++ S2031))) ∨ w1977.heap.size ≤ k := or1 h2046 (inor (sub_r (sub_r (sub_r sr)))) (leor lr)
   obtain ⟨S2054, h2055, h2056, h2057⟩ := h2008 _ _ _ h2053 (Rule_mkO (x := (⟨x1996.name, x1996.kind, x1996.size, x1996.little, x1996.bytes, x1996.names, x1996.tags, r2039⟩ : Rule)) (S1 := S2016) (S2 := S2021) (S3 := S2026) (S4 := S2043) h2009 h2010 h2011 (h2015.chg s2041 (nmR (nmR (nd_dj h2005)))) (h2020.chg s2041 (nmR (nd_dj (nd_right h2005)))) (h2025.chg s2041 (nd_dj (nd_right (nd_right h2005)))) h2044) (nd_app (nd_left h2005) (nd_app (nd_left (nd_right h2005)) (nd_app (nd_left (nd_right (nd_right h2005))) h2045 (dj_symm (o1no h2046 (dj_symm (nd_dj (nd_right (nd_right h2005)))) (ownS.lt h2025) (Nat.le_refl _)))) (nmA (nmL (nd_dj (nd_right h2005))) (dj_symm (o1no h2046 (dj_symm (nmR (nd_dj (nd_right h2005)))) (ownS.lt h2020) (Nat.le_refl _))))) (nmA (nmL (nd_dj h2005)) (nmA (nmL (nmR (nd_dj h2005))) (dj_symm (o1no h2046 (dj_symm (nmR (nmR (nd_dj h2005)))) (ownS.lt h2015) (Nat.le_refl _)))))) (all_app (inor (sub_l sr)) (all_app (inor (sub_r (sub_l sr))) (all_app (inor (sub_r (sub_r (sub_l sr)))) h2058)))
   refine Ra z <| Wn <| Wg <| Rm z <| R z (add_ z z) <| Ra z <| Wl ?_
   have h2059 : ∀ k ∈ S1376, k ∈ S1_0 ∨ w0.heap.size ≤ k := or1 h1378 (inor sr) (leor lr)
   have h2060 : ∀ k ∈ S1748, k ∈ S1_0 ∨ w0.heap.size ≤ k := or1 h1752 h2059 (leor h1831)
   have h2061 : ∀ k ∈ S1762, k ∈ S1_0 ∨ w0.heap.size ≤ k := or1 h1766 h2060 (leor h1832)
   have h2062 : ∀ k ∈ S1776, k ∈ S1_0 ∨ w0.heap.size ≤ k := or1 h1780 h2061 (leor h1833)
   have h2063 : ∀ k ∈ S1790, k ∈ S1_0 ∨ w0.heap.size ≤ k := or1 h1794 h2062 (leor h1834)
   have h2064 : ∀ k ∈ S1865, k ∈ S1_0 ∨ w0.heap.size ≤ k := or1 h1868 h2063 (leor h1835)
   have h2065 : ∀ k ∈ S1928, k ∈ S1_0 ∨ w0.heap.size ≤ k := or1 h1931 h2064 (leor h1906)
   have h2066 : ∀ k ∈ S1991, k ∈ S1_0 ∨ w0.heap.size ≤ k := or1 h1994 h2065 (leor h1969)
   have h2067 : ∀ k ∈ S2054, k ∈ S1_0 ∨ w0.heap.size ≤ k := or1 h2057 h2066 (leor h2032)
   have h2068 : Chg (· ∈ S1_0) w0 w1388 := cM (cr S1_0 w0) s1392 (inor sr)
   have h2069 : Chg (· ∈ S1_0) w0 w1735 := cext h2068 s1736
   have h2070 : Chg (· ∈ S1_0) w0 w1747 := cM h2069 s1749 h2059
   have h2071 : Chg (· ∈ S1_0) w0 w1761 := cM h2070 s1763 h2060
   have h2072 : Chg (· ∈ S1_0) w0 w1775 := cM h2071 s1777 h2061
   have h2073 : Chg (· ∈ S1_0) w0 w1789 := cM h2072 s1791 h2062
   have h2074 : ∀ k ∈ S1815, k ∈ S1_0 ∨ w0.heap.size ≤ k := or1 (fun k hk => .inl (h1805 k (List.mem_append_left _ hk))) h2063 (leor h1835)
   have h2075 : Chg (· ∈ S1_0) w0 w1851 := cM h2073 s1852 h2074
   have h2076 : ∀ k ∈ S1895, k ∈ S1_0 ∨ w0.heap.size ≤ k := or1 (fun k hk => .inl ((fun k hk => h1880 k (List.mem_append_right _ hk)) k (List.mem_append_left _ hk))) h2064 (leor h1906)
   have h2077 : Chg (· ∈ S1_0) w0 w1914 := cM h2075 s1915 h2076
   have h2078 : ∀ k ∈ S1963, k ∈ S1_0 ∨ w0.heap.size ≤ k := or1 (fun k hk => .inl ((fun k hk => (fun k hk => h1943 k (List.mem_append_right _ hk)) k (List.mem_append_right _ hk)) k (List.mem_append_left _ hk))) h2065 (leor h1969)
   have h2079 : Chg (· ∈ S1_0) w0 w1977 := cM h2077 s1978 h2078
   have h2080 : ∀ k ∈ S2031, k ∈ S1_0 ∨ w0.heap.size ≤ k := or1 (fun k hk => .inl ((fun k hk => (fun k hk => (fun k hk => h2006 k (List.mem_append_right _ hk)) k (List.mem_append_right _ hk)) k (List.mem_append_right _ hk)) k hk)) h2066 (leor h2032)
   have h2081 : Chg (· ∈ S1_0) w0 w2040 := cM h2079 s2041 h2080
   exact fun _ q => ⟨(((((x1786.set (x1381).toNat (⟨x1795.name, x1795.kind, x1795.size, x1795.little, r1850, x1795.names, x1795.tags, x1795.kids⟩ : Rule)).set (x1381).toNat (⟨x1870.name, x1870.kind, x1870.size, x1870.little, x1870.bytes, r1913, x1870.tags, x1870.kids⟩ : Rule)).set (x1381).toNat (⟨x1933.name, x1933.kind, x1933.size, x1933.little, x1933.bytes, x1933.names, r1976, x1933.kids⟩ : Rule)).set (x1381).toNat (⟨x1996.name, x1996.kind, x1996.size, x1996.little, x1996.bytes, x1996.names, x1996.tags, r2039⟩ : Rule)), r2036, iadd x1381 1), (som hm2038).symm, ⟨S2054, (q.weaken (s3 z z z)), h2081, h2055, h2056, h2067, h2042, (iA _ _)⟩⟩
  have h2083 : ∀ k ∈ S1376, k ∈ S1_0 ∨ w0.heap.size ≤ k := or1 h1378 (inor sr) (leor lr)
  have h2084 : Chg (· ∈ S1_0) w0 w1388 := cM (cr S1_0 w0) s1392 (inor sr)
  exact WC_exit (fun a' ha' => QO_brk (som (ifF hm1394 hc1401)).symm ⟨S1376, (Sat.weaken ha' (s2 z z)), h2084, h1375, h1377, h2083, h1380, h1382⟩)
 ·rintro ⟨x1371, x1379, x1381⟩ a2085 w2086 rfl ⟨S1376, hS2087, s2088, h1375, h1377, h1378, h1380, h1382⟩
  have hm2089 := elL hm1385
  have hm2090 := un3S hm2089
  revert a2085
  refine Wo <| Ws <| Rm z <| Ra z <| Wn ?_
  obtain rfl := som hm2090
  have h2091 : Chg (· ∈ S1_0) w0 w2086 := cM (cr S1_0 w0) s2088 (inor sr)
  have h2092 : ∀ k ∈ S1376, k ∈ S1_0 ∨ w0.heap.size ≤ k := or1 h1378 (inor sr) (leor lr)
  exact Wr (ret1 hr z ⟨h2091, S1376, z, h1380, h1375, h1377, h2092⟩)
 rintro r2093 ex2094 a2095 w2096 rfl ⟨rfl, hq2097⟩
 have hm2098 := elR hm1385
 obtain rfl := som hm2098
 exact ⟨hq2097, z⟩
def Q_laws_markDescription (w0 : World) (B : Nat) (pa1_0 : Option Addr) (pn1_0 pc1_0 : Nat) (S1_0 : List Nat) (r : Int × (List Rule)) (v : Value) (w' : World) : Prop := Chg (· ∈ S1_0) w0 w' ∧ un2 (fun r1 r2 => ∃ (S1 : List Nat), (vI r1) = v ∧ inI r1 ∧ ownS w' S1 (.slice pa1_0 pn1_0 pc1_0) r2 ∧ S1.Nodup ∧ (∀ k ∈ S1, k ∈ S1_0 ∨ w0.heap.size ≤ k)) r
theorem W_laws_markDescription {x1 : Desc} {S1_0 : List Nat} {x2 : Int} {res : Int × (List Rule)} (hm : M_laws_markDescription n x1 x2 = some res) (hBw : B ≤ w0.heap.size) (p1_0 : ownS w0 S1_0 (.slice pa1_0 pn1_0 pc1_0) x1.rules) (p1_0n : S1_0.Nodup) (p1_0g : ∀ k ∈ S1_0, B ≤ k) (p2_0 : inI x2) : CallsR Tryz.prog 12 [(.agg #[(.slice pa1_0 pn1_0 pc1_0)]), (vI x2)] w0 (Q_laws_markDescription w0 B pa1_0 pn1_0 pc1_0 S1_0 res) := by
 unfold M_laws_markDescription at hm
 obtain ⟨fn, hf, hb, hN, hr⟩ := fnE Tryz.func12
 refine goW hf (hb.trans z) (hN.trans z) (lb z) <| Ws <| E z (fb z) ?_
 rintro _ w21 ⟨rfl, h22⟩
 have h23 := h22.below
 have h24 : Blk w21 w0.heap.size [(.slice pa1_0 pn1_0 pc1_0)] := h22.blk
 refine Ra z <| Wn <| Ws <| R z (fd fld_31_0 z) <| R z (l1 agg_29 z fid (h24.at z)) <| Rm z ?_
 obtain ⟨r27, r30, e28, hm29⟩ := bd2S hm
 refine E z (fc Tryz.call31 z (W_laws_markRuleS (B := B) e28 (lt_ hBw h23.size) (p1_0.ext h23) p1_0n p1_0g p2_0)) ?_
 rintro _ w31 ⟨s32, S34, rfl, h33, h35, h36, h37⟩
 refine Ra z <| Wn <| Ws <| Rm z <| Ra z <| Wn ?_
 obtain rfl := som hm29
 have h38 : Chg (· ∈ S1_0) w0 w21 := cext (cr S1_0 w0) h23
 have h39 : Chg (· ∈ S1_0) w0 w31 := cM h38 s32 (inor sr)
 have h40 : ∀ k ∈ S34, k ∈ S1_0 ∨ w0.heap.size ≤ k := or1 h37 (inor sr) (leor h23.size)
 exact Wr (ret1 hr z ⟨h39, S34, z, h33, h35, h36, h40⟩)
def Q_laws_markEntryS (w0 : World) (B : Nat) (pa1_0 : Option Addr) (pn1_0 pc1_0 : Nat) (S1_0 : List Nat) (r : Int × (List Entry)) (v : Value) (w' : World) : Prop := Chg (· ∈ S1_0) w0 w' ∧ un2 (fun r1 r2 => ∃ (S1 : List Nat), (vI r1) = v ∧ inI r1 ∧ ownS w' S1 (.slice pa1_0 pn1_0 pc1_0) r2 ∧ S1.Nodup ∧ (∀ k ∈ S1, k ∈ S1_0 ∨ w0.heap.size ≤ k)) r
theorem W_laws_markEntryS {x1 : List Entry} {S1_0 : List Nat} {x2 : Int} {res : Int × (List Entry)} (hm : M_laws_markEntryS n x1 x2 = some res) (hBw : B ≤ w0.heap.size) (p1_0 : ownS w0 S1_0 (.slice pa1_0 pn1_0 pc1_0) x1) (p1_0n : S1_0.Nodup) (p1_0g : ∀ k ∈ S1_0, B ≤ k) (p2_0 : inI x2) : CallsR Tryz.prog 18 [(.slice pa1_0 pn1_0 pc1_0), (vI x2)] w0 (Q_laws_markEntryS w0 B pa1_0 pn1_0 pc1_0 S1_0 res) := by
 unfold M_laws_markEntryS at hm
 obtain ⟨fn, hf, hb, hN, hr⟩ := fnE Tryz.func18
 refine goW hf (hb.trans z) (hN.trans z) (lb z) <| Ws <| Ra z <| Wn <| Wq <| Ws <| Ra z <| Wn ?_
 obtain ⟨u329, hu330, hm331⟩ := bdS hm
 refine WC_iter (σ := (List Entry) × Int × Int) (ρ := Int × (List Entry)) (fun s a w => un3 (fun x317 x325 x327 => ∃  (S322 : List Nat), Sat 42 [(0, (.slice pa1_0 pn1_0 pc1_0)), (1, (vI x325)), (5, (vI x327))] a ∧ Chg (· ∈ S1_0) w0 w ∧ ownS w S322 (.slice pa1_0 pn1_0 pc1_0) x317 ∧ S322.Nodup ∧ (∀ k ∈ S322, k ∈ S1_0 ∨ w0.heap.size ≤ k) ∧ inI x325 ∧ inI x327) s) (fun s a w => un3 (fun x317 x325 x327 => ∃  (S322 : List Nat), Sat 42 [(0, (.slice pa1_0 pn1_0 pc1_0)), (1, (vI x325))] a ∧ Chg (· ∈ S1_0) w0 w ∧ ownS w S322 (.slice pa1_0 pn1_0 pc1_0) x317 ∧ S322.Nodup ∧ (∀ k ∈ S322, k ∈ S1_0 ∨ w0.heap.size ≤ k) ∧ inI x325 ∧ inI x327) s) (fun r ex a w => ex = .ret ∧ RetPost Tryz.prog fn (Q_laws_markEntryS w0 B pa1_0 pn1_0 pc1_0 S1_0 r) a w) hu330 ?_ ?_ ?_ ?_
 ·exact fun _ q => ⟨S1_0, (q.weaken (s3 z z z)), (cr S1_0 w0), p1_0, p1_0n, (inor sr), p2_0, (ii z)⟩
 ·rintro ⟨x317, x325, x327⟩ a333 w334 o335 ⟨S322, hS337, s338, h321, h323, h324, h326, h328⟩ hm339
  have hm340 := un3S hm339
  refine Wu (e := [(0, (.slice pa1_0 pn1_0 pc1_0)), (1, (vI x325)), (5, (vI x327))]) (N := 42) ?_ hS337
  refine Wq <| Ws <| Rm z <| Rm z <| R z (lnR und_39 z (ownS.rep h321)) <| R z (lss z z) <| Wn <| Wc z (fun hc347 => ?_) (fun hc347 => ?_)
  ·refine Wk <| Wq <| WC_block <| Ws <| Rm z <| Rm z <| Rm z ?_
   obtain ⟨r414, e415, hm416⟩ := bdS (ifT hm340 hc347)
   refine E z (fc Tryz.call38 z (W_laws_markText (B := B) e415 (lt_ hBw s338.size) h326)) ?_
   rintro _ w417 ⟨s418, rfl, h419⟩
   obtain ⟨x420, e421, hm422⟩ := bdS hm416
   have h423 := h321.ext s418
   refine RX z (rd_atQ (α := Entry) und_39 size_47 z z h423 e421) ?_
   rintro _ ⟨g424, h425, rfl⟩
   refine R z (fd fld_47_0 z) ?_
   obtain ⟨x426, e427, hm428⟩ := bdS hm422
   refine E0 (ef_setF (α := Entry) (v' := (⟨r414, x420.rule, x420.start, x420.end_⟩ : Entry)) size_9 z h425 z z z z e421 e427 h423 h323 (lb z) (fun _ _ _ h => Entry_setO0 h h419)) ?_
   rintro _ w429 ⟨S430, s431, h432, h433, h434⟩
   refine Wn <| Ws <| Rm z <| R z (add_ z z) <| Ra z <| Wn <| Ws <| Rm z <| Rm z <| Rm z ?_
   obtain ⟨x435, e436, hm437⟩ := bdS hm428
   refine RX z (rd_atQ (α := Entry) und_39 size_47 z z h432 e436) ?_
   rintro _ ⟨g438, h439, rfl⟩
   refine R z (fd fld_47_1 z) ?_
   obtain ⟨x440, e441, hm442⟩ := bdS hm437
   refine E0 (ef_setF (α := Entry) (v' := (⟨x435.path, iadd x325 1, x435.start, x435.end_⟩ : Entry)) size_3 z h439 z z z z e436 e441 h432 h433 (lb z) (fun _ _ _ h => Entry_setO1 h (iA _ _))) ?_
   rintro _ w443 ⟨S444, s445, h446, h447, h448⟩
   refine Wn <| Ws <| Rm z <| R z (add_ z z) <| Ra z <| Wn <| Ws <| Rm z <| Rm z <| Rm z ?_
   obtain ⟨x449, e450, hm451⟩ := bdS hm442
   refine RX z (rd_atQ (α := Entry) und_39 size_47 z z h446 e450) ?_
   rintro _ ⟨g452, h453, rfl⟩
   refine R z (fd fld_47_2 z) ?_
   obtain ⟨x454, e455, hm456⟩ := bdS hm451
   refine E0 (ef_setF (α := Entry) (v' := (⟨x449.path, x449.rule, iadd (iadd x325 1) 1, x449.end_⟩ : Entry)) size_3 z h453 z z z z e450 e455 h446 h447 (lb z) (fun _ _ _ h => Entry_setO2 h (iA _ _))) ?_
   rintro _ w457 ⟨S458, s459, h460, h461, h462⟩
   refine Wn <| Ws <| Rm z <| R z (add_ z z) <| Ra z <| Wn <| Ws <| Rm z <| Rm z <| Rm z ?_
   obtain ⟨x463, e464, hm465⟩ := bdS hm456
   refine RX z (rd_atQ (α := Entry) und_39 size_47 z z h460 e464) ?_
   rintro _ ⟨g466, h467, rfl⟩
   refine R z (fd fld_47_3 z) ?_
   obtain ⟨x468, e469, hm470⟩ := bdS hm465
   refine E0 (ef_setF (α := Entry) (v' := (⟨x463.path, x463.rule, x463.start, iadd (iadd (iadd x325 1) 1) 1⟩ : Entry)) size_3 z h467 z z z z e464 e469 h460 h461 (lb z) (fun _ _ _ h => Entry_setO3 h (iA _ _))) ?_
   rintro _ w471 ⟨S472, s473, h474, h475, h476⟩
   refine Wn <| Wg <| Rm z <| R z (add_ z z) <| Ra z <| Wn <| Wg <| Rm z <| R z (add_ z z) <| Ra z <| Wl ?_
   have h477 := lt_ s338.size s418.size
   have h478 := lt_ h477 s431.size
   have h479 := lt_ h478 s445.size
   have h481 : ∀ k ∈ S322, k ∈ S1_0 ∨ w0.heap.size ≤ k := or1 h324 (inor sr) (leor lr)
   have h482 : ∀ k ∈ S430, k ∈ S1_0 ∨ w0.heap.size ≤ k := or1 h434 h481 (leor h477)
   have h483 : ∀ k ∈ S444, k ∈ S1_0 ∨ w0.heap.size ≤ k := or1 h448 h482 (leor h478)
   have h484 : ∀ k ∈ S458, k ∈ S1_0 ∨ w0.heap.size ≤ k := or1 h462 h483 (leor h479)
   have h485 : ∀ k ∈ S472, k ∈ S1_0 ∨ w0.heap.size ≤ k := or1 h476 h484 (leor (lt_ h479 s459.size))
   have h486 : Chg (· ∈ S1_0) w0 w334 := cM (cr S1_0 w0) s338 (inor sr)
   have h487 : Chg (· ∈ S1_0) w0 w417 := cext h486 s418
   have h488 : Chg (· ∈ S1_0) w0 w429 := cM h487 s431 h481
   have h489 : Chg (· ∈ S1_0) w0 w443 := cM h488 s445 h482
   have h490 : Chg (· ∈ S1_0) w0 w457 := cM h489 s459 h483
   have h491 : Chg (· ∈ S1_0) w0 w471 := cM h490 s473 h484
   exact fun _ q => ⟨(x468, iadd (iadd (iadd (iadd x325 1) 1) 1) 1, iadd x327 1), (som hm470).symm, ⟨S472, (q.weaken (s3 z z z)), h491, h474, h475, h485, (iA _ _), (iA _ _)⟩⟩
  have h493 : ∀ k ∈ S322, k ∈ S1_0 ∨ w0.heap.size ≤ k := or1 h324 (inor sr) (leor lr)
  have h494 : Chg (· ∈ S1_0) w0 w334 := cM (cr S1_0 w0) s338 (inor sr)
  exact WC_exit (fun a' ha' => QO_brk (som (ifF hm340 hc347)).symm ⟨S322, (Sat.weaken ha' (s2 z z)), h494, h321, h323, h493, h326, h328⟩)
 ·rintro ⟨x317, x325, x327⟩ a495 w496 rfl ⟨S322, hS497, s498, h321, h323, h324, h326, h328⟩
  have hm499 := elL hm331
  have hm500 := un3S hm499
  revert a495
  refine Wo <| Ws <| Rm z <| Ra z <| Wn ?_
  obtain rfl := som hm500
  have h501 : Chg (· ∈ S1_0) w0 w496 := cM (cr S1_0 w0) s498 (inor sr)
  have h502 : ∀ k ∈ S322, k ∈ S1_0 ∨ w0.heap.size ≤ k := or1 h324 (inor sr) (leor lr)
  exact Wr (ret1 hr z ⟨h501, S322, z, h326, h321, h323, h502⟩)
 rintro r503 ex504 a505 w506 rfl ⟨rfl, hq507⟩
 have hm508 := elR hm331
 obtain rfl := som hm508
 exact ⟨hq507, z⟩
def Q_laws_heldEntryS (w0 : World) (B : Nat) (r : Int) (v : Value) (w' : World) : Prop := Below w0.heap.size w0 w' ∧ (fun r1 => (vI r1) = v ∧ inI r1) r
theorem W_laws_heldEntryS {x1 : List Entry} {x2 : Int} {res : Int} (hm : M_laws_heldEntryS n x1 x2 = some res) (hBw : B ≤ w0.heap.size) (p1_0 : repS w0 B (.slice pa1_0 pn1_0 pc1_0) x1) (p2_0 : inI x2) : CallsR Tryz.prog 19 [(.slice pa1_0 pn1_0 pc1_0), (vI x2)] w0 (Q_laws_heldEntryS w0 B res) := by
 unfold M_laws_heldEntryS at hm
 obtain ⟨fn, hf, hb, hN, hr⟩ := fnE Tryz.func19
 refine goW hf (hb.trans z) (hN.trans z) (lb z) <| Ws <| Ra z <| Wn <| Wq <| Ws <| Ra z <| Wn ?_
 obtain ⟨u211, hu212, hm213⟩ := bdS hm
 refine WC_forN (σ := Int) (ρ := Int) (fun (k214 : Nat) (x209 : Int) a w => Sat 50 [(0, (.slice pa1_0 pn1_0 pc1_0)), (1, (vI x209)), (5, (vI ((k214 : Nat) : Int)))] a ∧ Below w0.heap.size w0 w ∧ inI x209) (fun (x209 : Int) a w => Sat 50 [(1, (vI x209))] a ∧ Below w0.heap.size w0 w ∧ inI x209) (fun r ex a w => ex = .ret ∧ RetPost Tryz.prog fn (Q_laws_heldEntryS w0 B r) a w) hu212 ?_ ?_ ?_ ?_ ?_
 ·exact fun _ q => ⟨(q.weaken (s3 z z z)), (br w0), p2_0⟩
 ·rintro k214 x209 a215 w216 o217 hk218 ⟨hS219, s220, h210⟩ hm221
  refine Wu (e := [(0, (.slice pa1_0 pn1_0 pc1_0)), (1, (vI x209)), (5, (vI ((k214 : Nat) : Int)))]) (N := 50) ?_ hS219
  refine Wq <| Ws <| Rm z <| Rm z ?_
  have h222 := p1_0.ext s220
  refine R z (lnR und_39 z h222) <| R z (lss z z) <| Wn <| Wc z (fun _ => ?_) (fun hc => (nolt hk218 hc).elim)
  refine Wk <| Wq <| WC_block <| Wq <| Wq <| WC_draw (X := noX) 0 (.rd 0 (.rd 1 (.rd 2 (.rd 3 (.rd 4 (.rd 5 (.ef 6 (.rd 7 .done)))))))) mo (by kernel_rfl) fun w315 s316 _ => dR z z (mv z) <| dR z z (mv z) ?_
  obtain ⟨x317, e318, hm319⟩ := bdS hm221
  have h320 := h222.ext s316
  refine dRX z z (at_ (α := Entry) und_39 size_47 z z z h320 e318) ?_
  rintro _ ⟨b321, o322, cs323, rfl, h324, h325, h326⟩
  obtain ⟨rfl, h327, h328, h329, h330⟩ := Entry_open h325
  refine dR z z (fd fld_47_0 z) <| dR z z (l1 agg_9 z fid (h324.at (j := 0) z)) <| dR z z (mv z) ?_
  obtain ⟨r333, e334, hm335⟩ := bdS hm319
  refine dE z z (fc Tryz.call38 z (W_laws_markText (B := B) e334 (lt_ hBw (lt_ s220.size s316.size)) h210)) (.inr fun _ _ h => chgB (h.1)) ?_
  rintro _ w336 ⟨s337, rfl, h338⟩
  refine dR z z (rd_neqT z z) <| PR_done <| Wo <| Wc z (fun hc345 => ?_) (fun hc345 => ?_)
  ·exact Ws <| Ra z <| Wn <| Wr (rtO (QO_retL (som (ifT hm335 hc345)).symm (ret1 hr z ⟨(bup (bup s220 s316) s337), z, (ii z)⟩)))
  refine Wk <| Ws <| Rm z <| R z (add_ z z) <| Ra z <| Wn <| Wq <| Ws <| Rm z <| Rm z ?_
  obtain ⟨x350, e351, hm352⟩ := bdS (ifF hm335 hc345)
  have h353 := h320.ext s337
  refine RX z (at_ (α := Entry) und_39 size_47 z z z h353 e351) ?_
  rintro _ ⟨b354, o355, cs356, rfl, h357, h358, h359⟩
  obtain ⟨rfl, h360, h361, h362, h363⟩ := Entry_open h358
  refine R z (fd fld_47_1 z) <| R z (l1 agg_3 z fid (h357.at (j := 1) z)) <| Rm z <| R z (rd_neq z z) <| Wn <| Wc z (fun hc370 => ?_) (fun hc370 => ?_)
  ·exact Ws <| Ra z <| Wn <| Wr (rtO (QO_retL (som (ifT hm352 hc370)).symm (ret1 hr z ⟨(bup (bup s220 s316) s337), z, (ii z)⟩)))
  refine Wk <| Ws <| Rm z <| R z (add_ z z) <| Ra z <| Wn <| Wq <| Ws <| Rm z <| Rm z ?_
  obtain ⟨x375, e376, hm377⟩ := bdS (ifF hm352 hc370)
  refine RX z (at_ (α := Entry) und_39 size_47 z z z h353 e376) ?_
  rintro _ ⟨b378, o379, cs380, rfl, h381, h382, h383⟩
  obtain ⟨rfl, h384, h385, h386, h387⟩ := Entry_open h382
  refine R z (fd fld_47_2 z) <| R z (l1 agg_3 z fid (h381.at (j := 2) z)) <| Rm z <| R z (rd_neq z z) <| Wn <| Wc z (fun hc394 => ?_) (fun hc394 => ?_)
  ·exact Ws <| Ra z <| Wn <| Wr (rtO (QO_retL (som (ifT hm377 hc394)).symm (ret1 hr z ⟨(bup (bup s220 s316) s337), z, (ii z)⟩)))
  refine Wk <| Ws <| Rm z <| R z (add_ z z) <| Ra z <| Wn <| Wq <| Ws <| Rm z <| Rm z ?_
  obtain ⟨x399, e400, hm401⟩ := bdS (ifF hm377 hc394)
  refine RX z (at_ (α := Entry) und_39 size_47 z z z h353 e400) ?_
  rintro _ ⟨b402, o403, cs404, rfl, h405, h406, h407⟩
  obtain ⟨rfl, h408, h409, h410, h411⟩ := Entry_open h406
  refine R z (fd fld_47_3 z) <| R z (l1 agg_3 z fid (h405.at (j := 3) z)) <| Rm z <| R z (rd_neq z z) <| Wn <| Wc z (fun hc418 => ?_) (fun hc418 => ?_)
  ·exact Ws <| Ra z <| Wn <| Wr (rtO (QO_retL (som (ifT hm401 hc418)).symm (ret1 hr z ⟨(bup (bup s220 s316) s337), z, (ii z)⟩)))
  exact Wk <| Wg <| Rm z <| R z (add_ z z) <| Ra z <| Wn <| Wg <| Rm z <| R z (inc_ hk218 (lt_ (repS.len p1_0) LEN_le) z z) <| Ra z <| Wl <| fun _ q => ⟨iadd (iadd (iadd (iadd x209 1) 1) 1) 1, (som (ifF hm401 hc418)).symm, ⟨(q.weaken (s3 z z z)), (bup (bup s220 s316) s337), (iA _ _)⟩⟩
 ·rintro x209 a425 w426 ⟨hS427, s428, h210⟩
  refine Wu (e := [(0, (.slice pa1_0 pn1_0 pc1_0)), (1, (vI x209)), (5, (vI ((x1.length : Nat) : Int)))]) (N := 50) ?_ hS427
  refine Wq <| Ws <| Rm z <| Rm z <| R z (lnR und_39 z (p1_0.ext s428)) <| R z (lss z z) <| Wn <| Wc z (fun hc => (noltt hc).elim) (fun _ => ?_)
  exact WC_exit (fun a' ha' => ⟨rfl, ⟨(Sat.weaken ha' (s1 z)), s428, h210⟩⟩)
 ·rintro x209 a430 w431 rfl ⟨hS432, s433, h210⟩
  have hm434 := elL hm213
  revert a430
  refine Wo <| Ws <| Rm z <| Ra z <| Wn ?_
  obtain rfl := som hm434
  exact Wr (ret1 hr z ⟨s433, z, h210⟩)
 rintro r435 ex436 a437 w438 rfl ⟨rfl, hq439⟩
 have hm440 := elR hm213
 obtain rfl := som hm440
 exact ⟨hq439, z⟩
def Q_laws_FnExactBuildIndex (w0 : World) (B : Nat) (r : Bool) (v : Value) (w' : World) : Prop := Below w0.heap.size w0 w' ∧ (fun r1 => (vB r1) = v) r
theorem W_laws_FnExactBuildIndex {x1 : Desc} {x2 : List UInt8} {res : Bool} (hm : M_laws_FnExactBuildIndex n x1 x2 = some res) (hBw : B ≤ w0.heap.size) (hG : Gl w0 B) (p1_0 : repS w0 B (.slice pa1_0 pn1_0 pc1_0) x1.rules) (p2_0 : repS w0 B (.slice pa2_0 pn2_0 pc2_0) x2) : CallsR Tryz.prog 4 [(.agg #[(.slice pa1_0 pn1_0 pc1_0)]), (.slice pa2_0 pn2_0 pc2_0)] w0 (Q_laws_FnExactBuildIndex w0 B res) := by
 unfold M_laws_FnExactBuildIndex at hm
 obtain ⟨fn, hf, hb, hN, hr⟩ := fnE Tryz.func4
 refine goW hf (hb.trans z) (hN.trans z) (lb z) <| Ws <| E z (fb z) ?_
 rintro _ w21 ⟨rfl, h22⟩
 have h23 := h22.below
 have h24 : Blk w21 w0.heap.size [(.slice pa1_0 pn1_0 pc1_0)] := h22.blk
 refine Ra z <| Wn <| Wq <| Ws <| Rm z ?_
 have h25 := p2_0.ext h23
 refine R z (lnR und_25 z h25) <| R z (rd_gtr z z) <| Wn <| Wc z (fun hc30 => ?_) (fun hc30 => ?_)
 ·refine Ws <| Ra z <| Wn ?_
  obtain rfl := som (ifT hm hc30)
  exact Wr (ret1 hr z ⟨h23, z⟩)
 refine Wk <| Ws <| Ra z <| Wn <| Ws <| R z (lN (vs := [(.slice pa1_0 pn1_0 pc1_0)]) agg_24 size_24 z z fid (h24.row 0 1 z)) <| Rm z ?_
 have h33 := p1_0.ext h23
 obtain ⟨r35, e36, hm37⟩ := bdS (ifF hm hc30)
 refine E z (fc Tryz.call5 z (W_laws_szDescription (B := B) e36 (lt_ hBw h23.size) h33 (ii z))) ?_
 rintro _ w38 ⟨s39, rfl, h40⟩
 refine Ra z <| Wn <| Wq <| Ws <| Rm z <| R z (lss z z) <| Wn <| Wc z (fun hc46 => ?_) (fun hc46 => ?_)
 ·refine Ws <| Ra z <| Wn ?_
  obtain rfl := som (ifT hm37 hc46)
  exact Wr (ret1 hr z ⟨(bup h23 s39), z⟩)
 refine Wk <| Ws ?_
 have h50 := h24.ext s39
 refine R z (lN (vs := [(.slice pa1_0 pn1_0 pc1_0)]) agg_24 size_24 z z fid (h50.row 0 1 z)) ?_
 have h51 := h33.ext s39
 have h52 := lt_ h23.size s39.size
 obtain ⟨r54, e55, hm56⟩ := bdS (ifF hm37 hc46)
 refine E z (fc Tryz.call7 z (W_laws_toDescription (B := B) e55 (lt_ hBw h52) h51)) ?_
 rintro _ w57 ⟨s58, a59, n60, c61, S63, rfl, h62, h64, h65⟩
 refine Rm z ?_
 have h67 := (h25.ext s39).ext s58
 have h68 := lt_ h52 s58.size
 obtain ⟨r70, e71, hm72⟩ := bdS hm56
 refine E z (fc Tryz.call8 z (W_laws_toByteS (B := B) e71 (lt_ hBw h68) h67)) ?_
 rintro _ w73 ⟨s74, a75, n76, c77, S79, rfl, h78, h80, h81⟩
 obtain ⟨r83, r84, e85, hm86⟩ := bd2S hm72
 refine E z (fc Tryz.call15 z (W_spec_BuildIndex (B := w73.heap.size) e85 lr (repS.mono (ownS_rep (h62.ext s74) (ownS.lt h62)) s74.size) (ownS.rep h78))) ?_
 rintro _ w87 ⟨s88, a89, n90, c91, S93, rfl, h92, h94, h95⟩
 refine Rm z <| R z (ext_ z z) <| R z (ext_ z z) <| Ra z <| Ra z <| Wn <| Ws ?_
 have h98 := ((h50.ext s58).ext s74).ext s88
 refine R z (lN (vs := [(.slice pa1_0 pn1_0 pc1_0)]) agg_24 size_24 z z fid (h98.row 0 1 z)) ?_
 have h101 := ((h51.ext s58).ext s74).ext s88
 have h103 := lt_ (lt_ h68 s74.size) s88.size
 have h104 := lt_ hBw h103
 obtain ⟨r105, e106, hm107⟩ := bdS hm86
 refine E z (fc Tryz.call7 z (W_laws_toDescription (B := B) e106 h104 h101)) ?_
 rintro _ w108 ⟨s109, a110, n111, c112, S114, rfl, h113, h115, h116⟩
 refine E z (fa zero_31) ?_
 rintro _ w117 ⟨rfl, h118⟩
 have h119 := h118.below
 have h120 : Blk w117 w108.heap.size [(.slice none 0 0)] := h118.blk
 refine E0 (fs (cur' := [(.slice a110 n111 c112)]) size_31 z z h120 z (lb z) (oneAll z) z) ?_
 rintro _ w121 ⟨h122, s123⟩
 have h124 := s123.one
 refine Wn <| Ws <| Rm z ?_
 have h129 := lt_ h103 s109.size
 have h131 := mem1le (lt_ hBw h129)
 have h132 := ((((h67.ext s74).ext s88).ext s109).ext h119).chg h124 (ltge h131)
 have h134 := lt_ (lt_ h129 h119.size) h124.size
 have h135 := lt_ hBw h134
 obtain ⟨r136, e137, hm138⟩ := bdS hm107
 refine E z (fc Tryz.call8 z (W_laws_toByteS (B := B) e137 h135 h132)) ?_
 rintro _ w139 ⟨s140, a141, n142, c143, S145, rfl, h144, h146, h147⟩
 refine Ra z <| Wn <| Ws ?_
 have h148 := h122.ext s140
 refine R z (lN (vs := [(.slice a110 n111 c112)]) agg_31 size_31 z z fid (h148.row 0 1 z)) <| Rm z ?_
 have h152 := ((h113.ext h119).chg h124 (dj_symm (mnr (ownS.lt h113)))).ext s140
 have h153 := lt_ h119.size h124.size
 have h154 := lt_ h153 s140.size
 have h163 := ((((((((hG.ext h23).ext s39).ext s58).ext s74).ext s88).ext s109).ext h119).chg h124 (ltge h131)).ext s140
 have h164 := lt_ h134 s140.size
 have h165 := lt_ hBw h164
 obtain ⟨r166, r167, e168, hm169⟩ := bd2S hm138
 refine E z (fc Tryz.call16 z (W_impl_BuildIndex (B := w139.heap.size) e168 lr (h163.mono h165) (repS.mono (ownS_rep h152 (ownS.lt h113)) h154) (ownS.rep h144))) ?_
 rintro _ w170 ⟨s171, a172, n173, c174, S176, rfl, h175, h177, h178⟩
 refine Rm z <| R z (ext_ z z) <| R z (ext_ z z) <| Ra z <| Ra z <| Wn <| Wq <| Wq ?_
 obtain ⟨u198, hu199, hm200⟩ := bdS hm169
 refine WC_cut (fun a w => ∃ (x197 : Bool), x197 = u198 ∧ Sat 117 [(1, (.slice pa2_0 pn2_0 pc2_0)), (2, (.pointer (some ⟨w0.heap.size, 0, none⟩))), (6, (.slice a89 n90 c91)), (7, (vB r84)), (8, (.pointer (some ⟨w108.heap.size, 0, none⟩))), (9, (.slice a141 n142 c143)), (10, (.slice a172 n173 c174)), (11, (vB r167)), (51, (vB x197))] a ∧ Below w170.heap.size w170 w) ?_ ?_
 ·refine Wg <| Rm z <| Rm z ?_
  obtain ⟨r211, e212, hm213⟩ := bdS hu199
  refine E z (fc Tryz.call17 z (W_laws_eqEntryS (B := w170.heap.size) e212 lr (ownS.rep h175) (repS.mono (ownS_rep (((((h92.ext s109).ext h119).chg h124 (dj_symm (mno (ownS.lt h92) s109.size))).ext s140).ext s171) (ownS.lt h92)) (lt_ (lt_ (lt_ (lt_ s109.size h119.size) h124.size) s140.size) s171.size)))) ?_
  rintro _ w214 ⟨s215, rfl⟩
  refine R z (not_ z) <| Rm z ?_
  rcases bsplit (!r211) with hc216 | hc216
  ·iterate 3 refine Nh z hc216 ?_
   exact R z (pT z hc216 z) <| Wl <| fun _ q => ⟨true, som (ifT hm213 hc216), (q.weaken (s9 z z z z z z z z z)), s215⟩
  exact Rh z hc216 (mv z) <| Rh z hc216 (mv z) <| Rh z hc216 (rd_neqB und_4 z z) <| R z (pF z hc216 z) <| Wl <| fun _ q => ⟨r167 != r84, som (ifF hm213 hc216), (q.weaken (s9 z z z z z z z z z)), s215⟩
 rintro a219 w220 ⟨x197, rfl, hS221, s222⟩
 revert a219
 refine Wo <| Wc z (fun hc238 => ?_) (fun hc238 => ?_)
 ·refine Ws <| Ra z <| Wn ?_
  obtain rfl := som (ifT hm200 hc238)
  exact Wr (ret1 hr z ⟨(bup (bup (bup (bM (bup (bup (bup (bup (bup (bup h23 s39) s58) s74) s88) s109) h119) h124 (mem1le h129)) s140) s171) s222), z⟩)
 refine Wk <| Wq <| Wq <| WC_draw (X := noX) 0 (.rd 0 (.rd 1 (.ef 2 (.ef 3 (.rd 4 .done))))) mo (by kernel_rfl) fun w252 s253 _ => ?_
 have h256 := ((h148.ext s171).ext s222).ext s253
 refine dR z z (lN (vs := [(.slice a110 n111 c112)]) agg_31 size_31 z z fid (h256.row 0 1 z)) ?_
 have h261 := lt_ (lt_ (lt_ s39.size s58.size) s74.size) s88.size
 have h262 := lt_ h261 s109.size
 have h268 := ((((((h98.ext s109).ext h119).chg h124 (djs (mm1 h24.lt h262))).ext s140).ext s171).ext s222).ext s253
 refine dR z z (lN (vs := [(.slice pa1_0 pn1_0 pc1_0)]) agg_24 size_24 z z fid (h268.row 0 1 z)) ?_
 have h275 := ((((((h101.ext s109).ext h119).chg h124 (ltge h131)).ext s140).ext s171).ext s222).ext s253
 have h278 := lt_ (lt_ (lt_ h164 s171.size) s222.size) s253.size
 obtain ⟨r280, e281, hm282⟩ := bdS (ifF hm200 hc238)
 refine dE z z (fc Tryz.call7 z (W_laws_toDescription (B := B) e281 (lt_ hBw h278) h275)) (.inr fun _ _ h => chgB (h.1)) ?_
 rintro _ w283 ⟨s284, a285, n286, c287, S289, rfl, h288, h290, h291⟩
 have h295 := (((h152.ext s171).ext s222).ext s253).ext s284
 obtain ⟨r300, e301, hm302⟩ := bdS hm282
 refine dE z z (fc Tryz.call11 z (W_laws_eqDescription (B := w283.heap.size) e301 lr (repS.mono (ownS_rep h295 (ownS.lt h113)) (lt_ (lt_ (lt_ (lt_ h154 s171.size) s222.size) s253.size) s284.size)) (ownS.rep h288))) (.inr fun _ _ h => chgB (h.1)) ?_
 rintro _ w303 ⟨s304, rfl⟩
 refine dR z z (not_ z) <| PR_done <| Wo <| Wc z (fun hc323 => ?_) (fun hc323 => ?_)
 ·refine Ws <| Ra z <| Wn ?_
  obtain rfl := som (ifT hm302 hc323)
  exact Wr (ret1 hr z ⟨(bup (bup (bup (bup (bup (bup (bM (bup (bup (bup (bup (bup (bup h23 s39) s58) s74) s88) s109) h119) h124 (mem1le h129)) s140) s171) s222) s253) s284) s304), z⟩)
 refine Wk <| Wq <| Ws <| Rm z <| Rm z ?_
 have h345 := (((((h132.ext s140).ext s171).ext s222).ext s253).ext s284).ext s304
 have h347 := lt_ (lt_ h278 s284.size) s304.size
 obtain ⟨r349, e350, hm351⟩ := bdS (ifF hm302 hc323)
 refine E z (fc Tryz.call8 z (W_laws_toByteS (B := B) e350 (lt_ hBw h347) h345)) ?_
 rintro _ w352 ⟨s353, a354, n355, c356, S358, rfl, h357, h359, h360⟩
 have h366 := (((((h144.ext s171).ext s222).ext s253).ext s284).ext s304).ext s353
 obtain ⟨r372, e373, hm374⟩ := bdS hm351
 refine E z (fc Tryz.call10 z (W_laws_eqByteS (B := w352.heap.size) e373 lr (repS.mono (ownS_rep h366 (ownS.lt h144)) (lt_ (lt_ (lt_ (lt_ (lt_ s171.size s222.size) s253.size) s284.size) s304.size) s353.size)) (ownS.rep h357))) ?_
 rintro _ w375 ⟨s376, rfl⟩
 refine R z (not_ z) <| Wn <| Wc z (fun hc397 => ?_) (fun hc397 => ?_)
 ·refine Ws <| Ra z <| Wn ?_
  obtain rfl := som (ifT hm374 hc397)
  exact Wr (ret1 hr z ⟨(bup (bup (bup (bup (bup (bup (bup (bup (bM (bup (bup (bup (bup (bup (bup h23 s39) s58) s74) s88) s109) h119) h124 (mem1le h129)) s140) s171) s222) s253) s284) s304) s353) s376), z⟩)
 refine Wk <| Ws <| Ra z <| Wn <| Ws <| R z (lN (vs := [(.slice a110 n111 c112)]) agg_31 size_31 z z fid (((((h256.ext s284).ext s304).ext s353).ext s376).row 0 1 z)) <| Rm z ?_
 have h423 := o0le h116 h104
 have h425 := lt_ (lt_ h347 s353.size) s376.size
 obtain ⟨r427, r430, e428, hm429⟩ := bd2S (ifF hm374 hc397)
 refine E z (fc Tryz.call12 z (W_laws_markDescription (B := B) e428 (lt_ hBw h425) (((h295.ext s304).ext s353).ext s376) h115 h423 (ii z))) ?_
 rintro _ w431 ⟨s432, S434, rfl, h433, h435, h436, h437⟩
 refine Ra z <| Wn <| Ws <| Rm z <| Rm z ?_
 have h441 := o0le h147 h135
 have h442 := lt_ h425 s432.size
 obtain ⟨r444, r447, e445, hm446⟩ := bd2S hm429
 refine E z (fc Tryz.call13 z (W_laws_markByteS (B := B) e445 (lt_ hBw h442) ((h366.ext s376).chg s432 (o0no h147 (ownS.lt h113) h153)) h146 h441 h433)) ?_
 rintro _ w448 ⟨s449, S451, rfl, h450, h452, h453, h454⟩
 refine Ra z <| Wn <| Wq <| Wq ?_
 obtain ⟨u504, hu505, hm506⟩ := bdS hm446
 refine WC_cut (fun a w => ∃ (x503 : Bool), x503 = u504 ∧ Sat 117 [(1, (.slice pa2_0 pn2_0 pc2_0)), (2, (.pointer (some ⟨w0.heap.size, 0, none⟩))), (6, (.slice a89 n90 c91)), (7, (vB r84)), (10, (.slice a172 n173 c174)), (80, (vB x503))] a ∧ Below w448.heap.size w448 w) ?_ ?_
 ·refine Wg <| Rm z <| R z (lss z z) <| Rm z ?_
  rcases bsplit (decide (r444 < 0)) with hc507 | hc507
  ·iterate 4 refine Nh z hc507 ?_
   exact R z (pT z hc507 z) <| Rm z <| Nh z z <| Nh z z <| Nh z z <| R z (pT z z z) <| Wl <| fun _ q => ⟨true, som (ifT hu505 hc507), (q.weaken (s6 z z z z z z)), (br w448)⟩
  refine Rh z hc507 (mv z) <| Rh z hc507 (mv z) ?_
  have h533 := (((((((((((h92.ext s109).ext h119).chg h124 (dj_symm (mno (ownS.lt h92) s109.size))).ext s140).ext s171).ext s222).ext s253).ext s284).ext s304).ext s353).ext s376).chg s432 (dj_symm (o0no h116 (ownS.lt h92) (Nat.le_refl _)))
  have h535 := lt_ (lt_ s109.size h119.size) h124.size
  obtain ⟨r547, e548, hm549⟩ := bdS (ifF hu505 hc507)
  refine Eg z z hc507 z (fc Tryz.call17 z (W_laws_eqEntryS (B := w170.heap.size) e548 (lt_ (lt_ (lt_ (lt_ (lt_ (lt_ (lt_ s222.size s253.size) s284.size) s304.size) s353.size) s376.size) s432.size) s449.size) (ownS_rep ((((((((h175.ext s222).ext s253).ext s284).ext s304).ext s353).ext s376).chg s432 (o0no h178 (ownS.lt h113) h154)).chg s449 (o0no h178 (ownS.lt h144) (Nat.le_refl _))) (ownS.lt h175)) (repS.mono (ownS_rep (h533.chg s449 (dj_symm (o0no h147 (ownS.lt h92) h535))) (ownS.lt h92)) (lt_ (lt_ h535 s140.size) s171.size)))) ?_
  rintro _ w550 ⟨s551, rfl⟩
  refine Rh z hc507 (not_ z) <| R z (pF z hc507 z) <| Rm z ?_
  rcases bsplit (!r547) with hc552 | hc552
  ·iterate 3 refine Nh z hc552 ?_
   exact R z (pT z hc552 z) <| Wl <| fun _ q => ⟨true, som (ifT hm549 hc552), (q.weaken (s6 z z z z z z)), s551⟩
  exact Rh z hc552 (mv z) <| Rh z hc552 (mv z) <| Rh z hc552 (rd_neqB und_4 z z) <| R z (pF z hc552 z) <| Wl <| fun _ q => ⟨r167 != r84, som (ifF hm549 hc552), (q.weaken (s6 z z z z z z)), s551⟩
 rintro a555 w556 ⟨x503, rfl, hS557, s558⟩
 revert a555
 refine Wo <| Wc z (fun hc584 => ?_) (fun hc584 => ?_)
 ·refine Ws <| Ra z <| Wn ?_
  obtain rfl := som (ifT hm506 hc584)
  have h603 := bM (bup (bup (bup (bup (bup (bup (bup (bup (bM (bup (bup (bup (bup (bup (bup h23 s39) s58) s74) s88) s109) h119) h124 (mem1le h129)) s140) s171) s222) s253) s284) s304) s353) s376) s432 (o0le h116 h103)
  exact Wr (ret1 hr z ⟨(bup (bM h603 s449 (o0le h147 h134)) s558), z⟩)
 refine Wk <| Ws <| Ra z <| Wn <| Ws <| Rm z <| Rm z ?_
 have h619 := o0le h178 h165
 have h621 := lt_ (lt_ h442 s449.size) s558.size
 obtain ⟨r623, r626, e624, hm625⟩ := bd2S (ifF hm506 hc584)
 refine E z (fc Tryz.call18 z (W_laws_markEntryS (B := B) e624 (lt_ hBw h621) (((((((((h175.ext s222).ext s253).ext s284).ext s304).ext s353).ext s376).chg s432 (o0no h178 (ownS.lt h113) h154)).chg s449 (o0no h178 (ownS.lt h144) (Nat.le_refl _))).ext s558) h177 h619 (ii z))) ?_
 rintro _ w627 ⟨s628, S630, rfl, h629, h631, h632, h633⟩
 refine Ra z <| Wn <| Ws <| Ra z <| Wn <| Ws <| Rm z <| Rm z ?_
 obtain ⟨r634, e635, hm636⟩ := bdS hm625
 refine E z (fc Tryz.call19 z (W_laws_heldEntryS (B := w627.heap.size) e635 lr (ownS.rep h631) (ii z))) ?_
 rintro _ w637 ⟨s638, rfl, h639⟩
 refine Ra z <| Wn <| Wq <| Ws <| Rm z <| R z (lss z z) <| Wn <| Wc z (fun hc668 => ?_) (fun hc668 => ?_)
 ·refine Ws <| Ra z <| Wn ?_
  obtain rfl := som (ifT hm636 hc668)
  have h687 := bM (bup (bup (bup (bup (bup (bup (bup (bup (bM (bup (bup (bup (bup (bup (bup h23 s39) s58) s74) s88) s109) h119) h124 (mem1le h129)) s140) s171) s222) s253) s284) s304) s353) s376) s432 (o0le h116 h103)
  exact Wr (ret1 hr z ⟨(bup (bM (bup (bM h687 s449 (o0le h147 h134)) s558) s628 (o0le h178 h164)) s638), z⟩)
 have hm694 := ifF hm636 hc668
 refine Wk <| Wq <| Ws <| Rm z <| Rm z <| R z (rd_neq z z) <| Wn <| Wc z (fun hc723 => ?_) (fun hc723 => ?_)
 ·refine Ws <| Ra z <| Wn ?_
  obtain rfl := som (ifT hm694 hc723)
  have h742 := bM (bup (bup (bup (bup (bup (bup (bup (bup (bM (bup (bup (bup (bup (bup (bup h23 s39) s58) s74) s88) s109) h119) h124 (mem1le h129)) s140) s171) s222) s253) s284) s304) s353) s376) s432 (o0le h116 h103)
  exact Wr (ret1 hr z ⟨(bup (bM (bup (bM h742 s449 (o0le h147 h134)) s558) s628 (o0le h178 h164)) s638), z⟩)
 refine Wk <| Ws ?_
 have h757 := lt_ (lt_ h262 h119.size) h124.size
 have h760 := ((((((h268.ext s284).ext s304).ext s353).ext s376).chg s432 (djs (o0n1 h116 h24.lt h261))).chg s449 (djs (o0n1 h147 h24.lt h757))).ext s558
 refine R z (lN (vs := [(.slice pa1_0 pn1_0 pc1_0)]) agg_24 size_24 z z fid (((h760.chg s628 (djs (o0n1 h178 h24.lt (lt_ h757 s140.size)))).ext s638).row 0 1 z)) ?_
 have h775 := lt_ (lt_ h621 s628.size) s638.size
 obtain ⟨r777, e778, hm779⟩ := bdS (ifF hm694 hc723)
 refine E z (fc Tryz.call7 z (W_laws_toDescription (B := B) e778 (lt_ hBw h775) (((((((((h275.ext s284).ext s304).ext s353).ext s376).chg s432 (ltge h423)).chg s449 (ltge h441)).ext s558).chg s628 (ltge h619)).ext s638))) ?_
 rintro _ w780 ⟨s781, a782, n783, c784, S786, rfl, h785, h787, h788⟩
 refine Rm z ?_
 have h797 := lt_ h775 s781.size
 obtain ⟨r799, e800, hm801⟩ := bdS hm779
 refine E z (fc Tryz.call8 z (W_laws_toByteS (B := B) e800 (lt_ hBw h797) ((((((((h345.ext s353).ext s376).chg s432 (ltge h423)).chg s449 (ltge h441)).ext s558).chg s628 (ltge h619)).ext s638).ext s781))) ?_
 rintro _ w802 ⟨s803, a804, n805, c806, S808, rfl, h807, h809, h810⟩
 obtain ⟨r828, r829, e830, hm831⟩ := bd2S hm801
 refine E z (fc Tryz.call16 z (W_impl_BuildIndex (B := w802.heap.size) e830 lr (((((((((((((((h163.ext s171).ext s222).ext s253).ext s284).ext s304).ext s353).ext s376).chg s432 (ltge h423)).chg s449 (ltge h441)).ext s558).chg s628 (ltge h619)).ext s638).ext s781).ext s803).mono (lt_ hBw (lt_ h797 s803.size))) (repS.mono (ownS_rep (h785.ext s803) (ownS.lt h785)) s803.size) (ownS.rep h807))) ?_
 rintro _ w832 ⟨s833, a834, n835, c836, S838, rfl, h837, h839, h840⟩
 refine Rm z <| R z (ext_ z z) <| R z (ext_ z z) <| Ra z <| Ra z <| Wn <| Wq <| Wq ?_
 obtain ⟨u891, hu892, hm893⟩ := bdS hm831
 refine WC_cut (fun a w => ∃ (x890 : Bool), x890 = u891 ∧ Sat 117 [(10, (.slice a172 n173 c174)), (13, (vI r623)), (108, (vB x890))] a ∧ Below w832.heap.size w832 w) ?_ ?_
 ·refine Wg <| Rm z <| Rm z ?_
  have h907 := (((((((((((h92.ext s109).ext h119).chg h124 (dj_symm (mno (ownS.lt h92) s109.size))).ext s140).ext s171).ext s222).ext s253).ext s284).ext s304).ext s353).ext s376).chg s432 (dj_symm (o0no h116 (ownS.lt h92) (Nat.le_refl _)))
  have h909 := lt_ (lt_ s109.size h119.size) h124.size
  have h913 := lt_ h909 s140.size
  have h932 := lt_ (lt_ (lt_ (lt_ (lt_ (lt_ (lt_ (lt_ (lt_ (lt_ (lt_ (lt_ (lt_ h913 s171.size) s222.size) s253.size) s284.size) s304.size) s353.size) s376.size) s432.size) s449.size) s558.size) s628.size) s638.size) s781.size
  obtain ⟨r935, e936, hm937⟩ := bdS hu892
  refine E z (fc Tryz.call17 z (W_laws_eqEntryS (B := w832.heap.size) e936 lr (ownS.rep h837) (repS.mono (ownS_rep (((((((h907.chg s449 (dj_symm (o0no h147 (ownS.lt h92) h909))).ext s558).chg s628 (dj_symm (o0no h178 (ownS.lt h92) h913))).ext s638).ext s781).ext s803).ext s833) (ownS.lt h92)) (lt_ (lt_ h932 s803.size) s833.size)))) ?_
  rintro _ w938 ⟨s939, rfl⟩
  refine R z (not_ z) <| Rm z ?_
  rcases bsplit (!r935) with hc940 | hc940
  ·iterate 3 refine Nh z hc940 ?_
   exact R z (pT z hc940 z) <| Wl <| fun _ q => ⟨true, som (ifT hm937 hc940), (q.weaken (s3 z z z)), s939⟩
  exact Rh z hc940 (mv z) <| Rh z hc940 (mv z) <| Rh z hc940 (rd_neqB und_4 z z) <| R z (pF z hc940 z) <| Wl <| fun _ q => ⟨r829 != r84, som (ifF hm937 hc940), (q.weaken (s3 z z z)), s939⟩
 rintro a943 w944 ⟨x890, rfl, hS945, s946⟩
 revert a943
 refine Wo <| Wc z (fun hc979 => ?_) (fun hc979 => ?_)
 ·refine Ws <| Ra z <| Wn ?_
  obtain rfl := som (ifT hm893 hc979)
  have h998 := bM (bup (bup (bup (bup (bup (bup (bup (bup (bM (bup (bup (bup (bup (bup (bup h23 s39) s58) s74) s88) s109) h119) h124 (mem1le h129)) s140) s171) s222) s253) s284) s304) s353) s376) s432 (o0le h116 h103)
  exact Wr (ret1 hr z ⟨(bup (bup (bup (bup (bup (bM (bup (bM h998 s449 (o0le h147 h134)) s558) s628 (o0le h178 h164)) s638) s781) s803) s833) s946), z⟩)
 refine Wk <| Ws <| Ra z <| Wn <| Ws <| Rm z <| Rm z ?_
 obtain ⟨r1019, e1020, hm1021⟩ := bdS (ifF hm893 hc979)
 refine E z (fc Tryz.call19 z (W_laws_heldEntryS (B := w627.heap.size) e1020 (lt_ (lt_ (lt_ (lt_ s638.size s781.size) s803.size) s833.size) s946.size) (ownS_rep (((((h631.ext s638).ext s781).ext s803).ext s833).ext s946) (ownS.lt h631)) (ii z))) ?_
 rintro _ w1022 ⟨s1023, rfl, h1024⟩
 refine Ra z <| Wn <| Wq <| Ws <| Rm z <| R z (lss z z) <| Wn <| Wc z (fun hc1058 => ?_) (fun hc1058 => ?_)
 ·refine Ws <| Ra z <| Wn ?_
  obtain rfl := som (ifT hm1021 hc1058)
  have h1077 := bM (bup (bup (bup (bup (bup (bup (bup (bup (bM (bup (bup (bup (bup (bup (bup h23 s39) s58) s74) s88) s109) h119) h124 (mem1le h129)) s140) s171) s222) s253) s284) s304) s353) s376) s432 (o0le h116 h103)
  exact Wr (ret1 hr z ⟨(bup (bup (bup (bup (bup (bup (bM (bup (bM h1077 s449 (o0le h147 h134)) s558) s628 (o0le h178 h164)) s638) s781) s803) s833) s946) s1023), z⟩)
 have hm1089 := ifF hm1021 hc1058
 refine Wk <| Wq <| Ws <| Rm z <| Rm z <| R z (rd_neq z z) <| Wn <| Wc z (fun hc1123 => ?_) (fun hc1123 => ?_)
 ·refine Ws <| Ra z <| Wn ?_
  obtain rfl := som (ifT hm1089 hc1123)
  have h1142 := bM (bup (bup (bup (bup (bup (bup (bup (bup (bM (bup (bup (bup (bup (bup (bup h23 s39) s58) s74) s88) s109) h119) h124 (mem1le h129)) s140) s171) s222) s253) s284) s304) s353) s376) s432 (o0le h116 h103)
  exact Wr (ret1 hr z ⟨(bup (bup (bup (bup (bup (bup (bM (bup (bM h1142 s449 (o0le h147 h134)) s558) s628 (o0le h178 h164)) s638) s781) s803) s833) s946) s1023), z⟩)
 refine Wk <| Ws <| Ra z <| Wn ?_
 obtain rfl := som (ifF hm1089 hc1123)
 have h1172 := bM (bup (bup (bup (bup (bup (bup (bup (bup (bM (bup (bup (bup (bup (bup (bup h23 s39) s58) s74) s88) s109) h119) h124 (mem1le h129)) s140) s171) s222) s253) s284) s304) s353) s376) s432 (o0le h116 h103)
 exact Wr (ret1 hr z ⟨(bup (bup (bup (bup (bup (bup (bM (bup (bM h1172 s449 (o0le h147 h134)) s558) s628 (o0le h178 h164)) s638) s781) s803) s833) s946) s1023), z⟩)
end Go.Vw

