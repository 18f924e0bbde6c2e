import Derived.Test.YtkabbifadcaenaaGreatDoorVwTModels
import Derived.Test.YtkabbifadcaenaaGreatDoorVwTFacts
import Derived.Test.YtkabbifadcaenaaGreatDoorVwTExt
import Derived.Test.YtkabbifadcaenaaGreatDoorProg
import Derived.Test.YtkabbifadcaenaaGreatDoorVwShort
set_option linter.unusedVariables false
namespace Go.Vw
open Go.RowKit Dat Go.Proofs
open Go.Vw renaming WC_seq → Wq, WC_region → Wg, WC.of_KC → Wo, WL_nil → Wl, WC_cond → Wc, WC_ret → Wr, WC_run → Wu, rd_pickT → pT, rd_pickF → pF, rd_field → fd, rd_load1 → l1, rd_loadN → lN, rd_move → mv, rd_assign → asg, rd_lenR → lnR, rd_lss → lss, rd_eql → eql, rd_extract → ext_, rd_buildP → bP, rd_add → add_, rd_inc → inc_, rd_not → not_, rd_at → at_, ef_call → fc, ef_store → fs, ef_box → fb, ef_alloc → fa, sub_refl → sr, crefl → cr, cchgM → cM, bchgM → bM, inI_sub → iS, inI_add → iA, brefl → br
variable {pa1_0 : Option Addr} {pn1_0 pc1_0 : Nat} {B : Nat} {w0 : World} {pa1_4 : Option Addr} {pa1_5 : Option Addr} {pa1_6 : Option Addr} {pa1_7 : Option Addr} {pn1_4 pc1_4 : Nat} {pn1_5 pc1_5 : Nat} {pn1_6 pc1_6 : Nat} {pn1_7 pc1_7 : Nat} {pa2_4 : Option Addr} {pa2_5 : Option Addr} {pa2_6 : Option Addr} {pa2_7 : Option Addr} {pn2_4 pc2_4 : Nat} {pn2_5 pc2_5 : Nat} {pn2_6 pc2_6 : Nat} {pn2_7 pc2_7 : Nat} {pa3_0 : Option Addr} {pn3_0 pc3_0 : Nat} {pa2_0 : Option Addr} {pn2_0 pc2_0 : Nat} {n : Nat} {pa5_0 : Option Addr} {pn5_0 pc5_0 : Nat} {pa1_1 : Option Addr} {pn1_1 pc1_1 : Nat} {pa2_1 : Option Addr} {pa2_2 : Option Addr} {pn2_1 pc2_1 : Nat} {pn2_2 pc2_2 : Nat} {pa3_1 : Option Addr} {pa3_2 : Option Addr} {pn3_1 pc3_1 : Nat} {pn3_2 pc3_2 : Nat} {pa1_2 : Option Addr} {pa4_1 : Option Addr} {pa4_2 : Option Addr} {pn1_2 pc1_2 : Nat} {pn4_1 pc4_1 : Nat} {pn4_2 pc4_2 : Nat}
def Q_laws_szByteS (w0 : World) (B : Nat) (r : Int) (v : Value) (w' : World) : Prop := Below w0.heap.size w0 w' ∧ (fun r1 => (vI r1) = v ∧ inI r1) r
theorem W_laws_szByteS {x1 : List UInt8} {x2 : Int} {res : Int} (hm : M_laws_szByteS x1 x2 = some res) (hBw : B ≤ w0.heap.size) (p1_0 : repS w0 B (.slice pa1_0 pn1_0 pc1_0) x1) (p2_0 : inI x2) : CallsR Tryz.prog 61 [(.slice pa1_0 pn1_0 pc1_0), (vI x2)] w0 (Q_laws_szByteS w0 B res) := by
 unfold M_laws_szByteS at hm
 obtain ⟨fn, hf, hb, hN, hr⟩ := fnE Tryz.func61
 refine goW hf (hb.trans z) (hN.trans z) (lb z) <| Ws <| Ra z <| Wn <| Ws <| Rm z <| Rm z <| R z (lnR und_25 z p1_0) <| R z (rd_sub z z) <| Ra z <| Wn <| Wq <| Ws <| Rm z <| R z (lss z z) ?_
 refine Wn <| Wc z (fun hc25 => ?_) (fun hc25 => ?_)
 ·refine Ws <| Ra z <| Wn ?_
  obtain rfl := som (ifT hm hc25)
  exact Wr (ret1 hr z ⟨(br w0), z, (ii z)⟩)
 refine Wk <| Ws <| Rm z <| Ra z <| Wn ?_
 obtain rfl := som (ifF hm hc25)
 exact Wr (ret1 hr z ⟨(br w0), z, (iS _ _)⟩)
def Q_laws_szStringS (w0 : World) (B : Nat) (r : Int) (v : Value) (w' : World) : Prop := Below w0.heap.size w0 w' ∧ (fun r1 => (vI r1) = v ∧ inI r1) r
theorem W_laws_szStringS {x1 : List Str} {x2 : Int} {res : Int} (hm : M_laws_szStringS x1 x2 = some res) (hBw : B ≤ w0.heap.size) (p1_0 : repS w0 B (.slice pa1_0 pn1_0 pc1_0) x1) (p2_0 : inI x2) : CallsR Tryz.prog 62 [(.slice pa1_0 pn1_0 pc1_0), (vI x2)] w0 (Q_laws_szStringS w0 B res) := by
 unfold M_laws_szStringS at hm
 obtain ⟨fn, hf, hb, hN, hr⟩ := fnE Tryz.func62
 refine goW hf (hb.trans z) (hN.trans z) (lb z) <| Ws <| Ra z <| Wn <| Ws <| Rm z <| Rm z <| R z (lnR und_72 z p1_0) <| R z (rd_sub z z) <| Ra z <| Wn <| Wq <| Ws <| Rm z <| R z (lss z z) ?_
 refine Wn <| Wc z (fun hc25 => ?_) (fun hc25 => ?_)
 ·refine Ws <| Ra z <| Wn ?_
  obtain rfl := som (ifT hm hc25)
  exact Wr (ret1 hr z ⟨(br w0), z, (ii z)⟩)
 refine Wk <| Wq <| Ws <| Ra z <| Wn ?_
 obtain ⟨u64, hu65, hm66⟩ := bdS (ifF hm hc25)
 refine WC_forN (σ := Int) (ρ := Int) (fun (k67 : Nat) (x62 : Int) a w => Sat 28 [(0, (.slice pa1_0 pn1_0 pc1_0)), (1, (vI x62)), (5, (vI ((k67 : Nat) : Int)))] a ∧ Below w0.heap.size w0 w ∧ inI x62) (fun (x62 : Int) a w => Sat 28 [(1, (vI x62))] a ∧ Below w0.heap.size w0 w ∧ inI x62) (fun r ex a w => ex = .ret ∧ RetPost Tryz.prog fn (Q_laws_szStringS w0 B r) a w) hu65 ?_ ?_ ?_ ?_ ?_
 ·exact fun _ q => ⟨(q.weaken (s3 z z z)), (br w0), (iS _ _)⟩
 ·rintro k67 x62 a68 w69 o70 hk71 ⟨hS72, s73, h63⟩ hm74
  refine Wu (e := [(0, (.slice pa1_0 pn1_0 pc1_0)), (1, (vI x62)), (5, (vI ((k67 : Nat) : Int)))]) (N := 28) ?_ hS72
  refine Wq <| Ws <| Rm z <| Rm z ?_
  have h75 := p1_0.ext s73
  refine R z (lnR und_72 z h75) <| R z (lss z z) <| Wn <| Wc z (fun _ => ?_) (fun hc => (nolt hk71 hc).elim)
  refine Wk <| Wq <| WC_block <| Ws <| Rm z <| Rm z <| Rm z ?_
  obtain ⟨x91, e92, hm93⟩ := bdS hm74
  refine RX z (at_ (α := Str) und_72 size_9 z z z h75 e92) ?_
  rintro _ ⟨b94, o95, cs96, rfl, h97, h98, h99⟩
  obtain ⟨rfl, h100⟩ := Str_open h98
  refine R z (l1 agg_9 z fid (h97.at0 z)) <| R z (rd_lenT und_9 z) <| R z (rd_sub z z) <| Ra z <| Wn <| Ws <| Rm z <| R z (lss z z) <| Wn <| Wc z (fun hc105 => ?_) (fun hc105 => ?_)
  ·exact Ws <| Ra z <| Wn <| Wr (rtO (QO_retL (som (ifT hm93 hc105)).symm (ret1 hr z ⟨s73, z, (ii z)⟩)))
  exact Wk <| Wg <| Rm z <| R z (inc_ hk71 (lt_ (repS.len p1_0) LEN_le) z z) <| Ra z <| Wl <| fun _ q => ⟨isub x62 (x91.b.length : Int), (som (ifF hm93 hc105)).symm, ⟨(q.weaken (s3 z z z)), s73, (iS _ _)⟩⟩
 ·rintro x62 a108 w109 ⟨hS110, s111, h63⟩
  refine Wu (e := [(0, (.slice pa1_0 pn1_0 pc1_0)), (1, (vI x62)), (5, (vI ((x1.length : Nat) : Int)))]) (N := 28) ?_ hS110
  refine Wq <| Ws <| Rm z <| Rm z <| R z (lnR und_72 z (p1_0.ext s111)) <| R z (lss z z) <| Wn <| Wc z (fun hc => (noltt hc).elim) (fun _ => ?_)
  exact WC_exit (fun a' ha' => ⟨rfl, ⟨(Sat.weaken ha' (s1 z)), s111, h63⟩⟩)
 ·rintro x62 a113 w114 rfl ⟨hS115, s116, h63⟩
  have hm117 := elL hm66
  revert a113
  refine Wo <| Ws <| Rm z <| Ra z <| Wn ?_
  obtain rfl := som hm117
  exact Wr (ret1 hr z ⟨s116, z, h63⟩)
 rintro r118 ex119 a120 w121 rfl ⟨rfl, hq122⟩
 have hm123 := elR hm66
 obtain rfl := som hm123
 exact ⟨hq122, z⟩
def Q_laws_szIntS (w0 : World) (B : Nat) (r : Int) (v : Value) (w' : World) : Prop := Below w0.heap.size w0 w' ∧ (fun r1 => (vI r1) = v ∧ inI r1) r
theorem W_laws_szIntS {x1 : List Int} {x2 : Int} {res : Int} (hm : M_laws_szIntS x1 x2 = some res) (hBw : B ≤ w0.heap.size) (p1_0 : repS w0 B (.slice pa1_0 pn1_0 pc1_0) x1) (p2_0 : inI x2) : CallsR Tryz.prog 63 [(.slice pa1_0 pn1_0 pc1_0), (vI x2)] w0 (Q_laws_szIntS w0 B res) := by
 unfold M_laws_szIntS at hm
 obtain ⟨fn, hf, hb, hN, hr⟩ := fnE Tryz.func63
 refine goW hf (hb.trans z) (hN.trans z) (lb z) <| Ws <| Ra z <| Wn <| Ws <| Rm z <| Rm z <| R z (lnR und_73 z p1_0) <| R z (rd_sub z z) <| Ra z <| Wn <| Wq <| Ws <| Rm z <| R z (lss z z) ?_
 refine Wn <| Wc z (fun hc25 => ?_) (fun hc25 => ?_)
 ·refine Ws <| Ra z <| Wn ?_
  obtain rfl := som (ifT hm hc25)
  exact Wr (ret1 hr z ⟨(br w0), z, (ii z)⟩)
 refine Wk <| Ws <| Rm z <| Ra z <| Wn ?_
 obtain rfl := som (ifF hm hc25)
 exact Wr (ret1 hr z ⟨(br w0), z, (iS _ _)⟩)
def Q_laws_szRule (w0 : World) (B : Nat) (r : Int) (v : Value) (w' : World) : Prop := Below w0.heap.size w0 w' ∧ (fun r1 => (vI r1) = v ∧ inI r1) r
theorem W_laws_szRule {x1 : Rule} {x2 : Int} {res : Int} (hm : M_laws_szRule x1 x2 = some res) (hBw : B ≤ w0.heap.size) (p1_0 : x1.name.b.length ≤ LEN) (p1_1 : inI x1.kind) (p1_2 : inI x1.size) (p1_4 : repS w0 B (.slice pa1_4 pn1_4 pc1_4) x1.bytes) (p1_5 : repS w0 B (.slice pa1_5 pn1_5 pc1_5) x1.names) (p1_6 : repS w0 B (.slice pa1_6 pn1_6 pc1_6) x1.tags) (p1_7 : repS w0 B (.slice pa1_7 pn1_7 pc1_7) x1.kids) (p2_0 : inI x2) : CallsR Tryz.prog 39 [(.agg #[(Str.v x1.name), (vI x1.kind), (vI x1.size), (vB x1.little), (.slice pa1_4 pn1_4 pc1_4), (.slice pa1_5 pn1_5 pc1_5), (.slice pa1_6 pn1_6 pc1_6), (.slice pa1_7 pn1_7 pc1_7)]), (vI x2)] w0 (Q_laws_szRule w0 B res) := by
 unfold M_laws_szRule at hm
 obtain ⟨fn, hf, hb, hN, hr⟩ := fnE Tryz.func39
 refine goW hf (hb.trans z) (hN.trans z) (lb z) <| Ws <| E z (fb z) ?_
 rintro _ w21 ⟨rfl, h22⟩
 have h23 := h22.below
 have h24 : Blk w21 w0.heap.size [(Str.v x1.name), (vI x1.kind), (vI x1.size), (vB x1.little), (.slice pa1_4 pn1_4 pc1_4), (.slice pa1_5 pn1_5 pc1_5), (.slice pa1_6 pn1_6 pc1_6), (.slice pa1_7 pn1_7 pc1_7)] := h22.blk
 refine Ra z <| Wn <| Ws <| Rm z <| R z (fd fld_75_0 z) <| R z (l1 agg_9 z fid (h24.at z)) <| R z (rd_lenT und_9 z) <| R z (rd_sub z z) <| Ra z <| Wn <| Wq <| Ws <| Rm z <| R z (lss z z) <| Wn ?_
 refine Wc z (fun hc29 => ?_) (fun hc29 => ?_)
 ·refine Ws <| Ra z <| Wn ?_
  obtain rfl := som (ifT hm hc29)
  exact Wr (ret1 hr z ⟨h23, z, (ii z)⟩)
 refine Wk <| Ws <| R z (fd fld_75_4 z) <| R z (l1 agg_25 z fid (h24.at z)) <| Rm z ?_
 obtain ⟨r34, e35, hm36⟩ := bdS (ifF hm hc29)
 refine E z (fc Tryz.call61 z (W_laws_szByteS (B := B) e35 (lt_ hBw h23.size) (p1_4.ext h23) (iS _ _))) ?_
 rintro _ w37 ⟨s38, rfl, h39⟩
 refine Ra z <| Wn <| Wq <| Ws <| Rm z <| R z (lss z z) <| Wn <| Wc z (fun hc45 => ?_) (fun hc45 => ?_)
 ·refine Ws <| Ra z <| Wn ?_
  obtain rfl := som (ifT hm36 hc45)
  exact Wr (ret1 hr z ⟨(bup h23 s38), z, (ii z)⟩)
 refine Wk <| Ws <| R z (fd fld_75_5 z) ?_
 have h49 := h24.ext s38
 refine R z (l1 agg_72 z fid (h49.at z)) <| Rm z ?_
 have h52 := lt_ h23.size s38.size
 obtain ⟨r54, e55, hm56⟩ := bdS (ifF hm36 hc45)
 refine E z (fc Tryz.call62 z (W_laws_szStringS (B := B) e55 (lt_ hBw h52) ((p1_5.ext h23).ext s38) h39)) ?_
 rintro _ w57 ⟨s58, rfl, h59⟩
 refine Ra z <| Wn <| Wq <| Ws <| Rm z <| R z (lss z z) <| Wn <| Wc z (fun hc66 => ?_) (fun hc66 => ?_)
 ·refine Ws <| Ra z <| Wn ?_
  obtain rfl := som (ifT hm56 hc66)
  exact Wr (ret1 hr z ⟨(bup (bup h23 s38) s58), z, (ii z)⟩)
 refine Wk <| Ws <| R z (fd fld_75_6 z) ?_
 have h71 := h49.ext s58
 refine R z (l1 agg_73 z fid (h71.at z)) <| Rm z ?_
 have h75 := lt_ h52 s58.size
 obtain ⟨r77, e78, hm79⟩ := bdS (ifF hm56 hc66)
 refine E z (fc Tryz.call63 z (W_laws_szIntS (B := B) e78 (lt_ hBw h75) (((p1_6.ext h23).ext s38).ext s58) h59)) ?_
 rintro _ w80 ⟨s81, rfl, h82⟩
 refine Ra z <| Wn <| Wq <| Ws <| Rm z <| R z (lss z z) <| Wn <| Wc z (fun hc90 => ?_) (fun hc90 => ?_)
 ·refine Ws <| Ra z <| Wn ?_
  obtain rfl := som (ifT hm79 hc90)
  exact Wr (ret1 hr z ⟨(bup (bup (bup h23 s38) s58) s81), z, (ii z)⟩)
 refine Wk <| Ws <| R z (fd fld_75_7 z) <| R z (l1 agg_73 z fid ((h71.ext s81).at z)) <| Rm z ?_
 obtain ⟨r103, e104, hm105⟩ := bdS (ifF hm79 hc90)
 refine E z (fc Tryz.call63 z (W_laws_szIntS (B := B) e104 (lt_ hBw (lt_ h75 s81.size)) ((((p1_7.ext h23).ext s38).ext s58).ext s81) h82)) ?_
 rintro _ w106 ⟨s107, rfl, h108⟩
 refine Ra z <| Wn <| Wq <| Ws <| Rm z <| R z (lss z z) <| Wn <| Wc z (fun hc117 => ?_) (fun hc117 => ?_)
 ·refine Ws <| Ra z <| Wn ?_
  obtain rfl := som (ifT hm105 hc117)
  exact Wr (ret1 hr z ⟨(bup (bup (bup (bup h23 s38) s58) s81) s107), z, (ii z)⟩)
 refine Wk <| Ws <| Rm z <| Ra z <| Wn ?_
 obtain rfl := som (ifF hm105 hc117)
 exact Wr (ret1 hr z ⟨(bup (bup (bup (bup h23 s38) s58) s81) s107), z, h108⟩)
def Q_laws_szRuleS (w0 : World) (B : Nat) (r : Int) (v : Value) (w' : World) : Prop := Below w0.heap.size w0 w' ∧ (fun r1 => (vI r1) = v ∧ inI r1) r
theorem W_laws_szRuleS {x1 : List Rule} {x2 : Int} {res : Int} (hm : M_laws_szRuleS x1 x2 = some res) (hBw : B ≤ w0.heap.size) (p1_0 : repS w0 B (.slice pa1_0 pn1_0 pc1_0) x1) (p2_0 : inI x2) : CallsR Tryz.prog 20 [(.slice pa1_0 pn1_0 pc1_0), (vI x2)] w0 (Q_laws_szRuleS w0 B res) := by
 unfold M_laws_szRuleS at hm
 obtain ⟨fn, hf, hb, hN, hr⟩ := fnE Tryz.func20
 refine goW hf (hb.trans z) (hN.trans z) (lb z) <| Ws <| Ra z <| Wn <| Ws <| Rm z <| Rm z <| R z (lnR und_22 z p1_0) <| R z (rd_sub z z) <| Ra z <| Wn <| Wq <| Ws <| Rm z <| R z (lss z z) ?_
 refine Wn <| Wc z (fun hc25 => ?_) (fun hc25 => ?_)
 ·refine Ws <| Ra z <| Wn ?_
  obtain rfl := som (ifT hm hc25)
  exact Wr (ret1 hr z ⟨(br w0), z, (ii z)⟩)
 refine Wk <| Wq <| Ws <| Ra z <| Wn ?_
 obtain ⟨u116, hu117, hm118⟩ := bdS (ifF hm hc25)
 refine WC_forN (σ := Int) (ρ := Int) (fun (k119 : Nat) (x114 : Int) a w => Sat 27 [(0, (.slice pa1_0 pn1_0 pc1_0)), (1, (vI x114)), (5, (vI ((k119 : Nat) : Int)))] a ∧ Below w0.heap.size w0 w ∧ inI x114) (fun (x114 : Int) a w => Sat 27 [(1, (vI x114))] a ∧ Below w0.heap.size w0 w ∧ inI x114) (fun r ex a w => ex = .ret ∧ RetPost Tryz.prog fn (Q_laws_szRuleS w0 B r) a w) hu117 ?_ ?_ ?_ ?_ ?_
 ·exact fun _ q => ⟨(q.weaken (s3 z z z)), (br w0), (iS _ _)⟩
 ·rintro k119 x114 a120 w121 o122 hk123 ⟨hS124, s125, h115⟩ hm126
  refine Wu (e := [(0, (.slice pa1_0 pn1_0 pc1_0)), (1, (vI x114)), (5, (vI ((k119 : Nat) : Int)))]) (N := 27) ?_ hS124
  refine Wq <| Ws <| Rm z <| Rm z ?_
  have h127 := p1_0.ext s125
  refine R z (lnR und_22 z h127) <| R z (lss z z) <| Wn <| Wc z (fun _ => ?_) (fun hc => (nolt hk123 hc).elim)
  refine Wk <| Wq <| WC_block <| Ws <| Rm z <| Rm z ?_
  obtain ⟨x169, e170, hm171⟩ := bdS hm126
  refine RX z (at_ (α := Rule) und_22 size_75 z z z h127 e170) ?_
  rintro _ ⟨b172, o173, cs174, rfl, h175, h176, h177⟩
  obtain ⟨a181, n182, c183, a185, n186, c187, a189, n190, c191, a193, n194, c195, rfl, h178, h179, h180, h184, h188, h192, h196⟩ := Rule_open h176
  refine R z (lN (vs := [(Str.v x169.name), (vI x169.kind), (vI x169.size), (vB x169.little), (.slice a181 n182 c183), (.slice a185 n186 c187), (.slice a189 n190 c191), (.slice a193 n194 c195)]) agg_75 size_75 z z fid h175) <| Rm z ?_
  obtain ⟨r198, e199, hm200⟩ := bdS hm171
  refine E z (fc Tryz.call39 z (W_laws_szRule (B := B) e199 (lt_ hBw s125.size) h178 h179 h180 h184 h188 h192 h196 h115)) ?_
  rintro _ w201 ⟨s202, rfl, h203⟩
  refine Ra z <| Wn <| Ws <| Rm z <| R z (lss z z) <| Wn <| Wc z (fun hc209 => ?_) (fun hc209 => ?_)
  ·exact Ws <| Ra z <| Wn <| Wr (rtO (QO_retL (som (ifT hm200 hc209)).symm (ret1 hr z ⟨(bup s125 s202), z, (ii z)⟩)))
  exact Wk <| Wg <| Rm z <| R z (inc_ hk123 (lt_ (repS.len p1_0) LEN_le) z z) <| Ra z <| Wl <| fun _ q => ⟨r198, (som (ifF hm200 hc209)).symm, ⟨(q.weaken (s3 z z z)), (bup s125 s202), h203⟩⟩
 ·rintro x114 a214 w215 ⟨hS216, s217, h115⟩
  refine Wu (e := [(0, (.slice pa1_0 pn1_0 pc1_0)), (1, (vI x114)), (5, (vI ((x1.length : Nat) : Int)))]) (N := 27) ?_ hS216
  refine Wq <| Ws <| Rm z <| Rm z <| R z (lnR und_22 z (p1_0.ext s217)) <| R z (lss z z) <| Wn <| Wc z (fun hc => (noltt hc).elim) (fun _ => ?_)
  exact WC_exit (fun a' ha' => ⟨rfl, ⟨(Sat.weaken ha' (s1 z)), s217, h115⟩⟩)
 ·rintro x114 a219 w220 rfl ⟨hS221, s222, h115⟩
  have hm223 := elL hm118
  revert a219
  refine Wo <| Ws <| Rm z <| Ra z <| Wn ?_
  obtain rfl := som hm223
  exact Wr (ret1 hr z ⟨s222, z, h115⟩)
 rintro r224 ex225 a226 w227 rfl ⟨rfl, hq228⟩
 have hm229 := elR hm118
 obtain rfl := som hm229
 exact ⟨hq228, z⟩
def Q_laws_szDescription (w0 : World) (B : Nat) (r : Int) (v : Value) (w' : World) : Prop := Below w0.heap.size w0 w' ∧ (fun r1 => (vI r1) = v ∧ inI r1) r
theorem W_laws_szDescription {x1 : Desc} {x2 : Int} {res : Int} (hm : M_laws_szDescription x1 x2 = some res) (hBw : B ≤ w0.heap.size) (p1_0 : repS w0 B (.slice pa1_0 pn1_0 pc1_0) x1.rules) (p2_0 : inI x2) : CallsR Tryz.prog 5 [(.agg #[(.slice pa1_0 pn1_0 pc1_0)]), (vI x2)] w0 (Q_laws_szDescription w0 B res) := by
 unfold M_laws_szDescription at hm
 obtain ⟨fn, hf, hb, hN, hr⟩ := fnE Tryz.func5
 refine goW hf (hb.trans z) (hN.trans z) (lb z) <| Ws <| E z (fb z) ?_
 rintro _ w21 ⟨rfl, h22⟩
 have h23 := h22.below
 have h24 : Blk w21 w0.heap.size [(.slice pa1_0 pn1_0 pc1_0)] := h22.blk
 refine Ra z <| Wn <| Ws <| R z (fd fld_24_0 z) <| R z (l1 agg_22 z fid (h24.at z)) <| Rm z ?_
 obtain ⟨r27, e28, hm29⟩ := bdS hm
 refine E z (fc Tryz.call20 z (W_laws_szRuleS (B := B) e28 (lt_ hBw h23.size) (p1_0.ext h23) p2_0)) ?_
 rintro _ w30 ⟨s31, rfl, h32⟩
 refine Ra z <| Wn <| Wq <| Ws <| Rm z <| R z (lss z z) <| Wn <| Wc z (fun hc38 => ?_) (fun hc38 => ?_)
 ·refine Ws <| Ra z <| Wn ?_
  obtain rfl := som (ifT hm29 hc38)
  exact Wr (ret1 hr z ⟨(bup h23 s31), z, (ii z)⟩)
 refine Wk <| Ws <| Rm z <| Ra z <| Wn ?_
 obtain rfl := som (ifF hm29 hc38)
 exact Wr (ret1 hr z ⟨(bup h23 s31), z, h32⟩)
def Q_laws_toByteS (w0 : World) (B : Nat) (r : (List UInt8)) (v : Value) (w' : World) : Prop := Below w0.heap.size w0 w' ∧ (fun r1 => ∃ (a1 : Option Addr) (n1 c1 : Nat) (S1 : List Nat), (.slice a1 n1 c1) = v ∧ ownS w' S1 (.slice a1 n1 c1) r1 ∧ S1.Nodup ∧ (∀ k ∈ S1, w0.heap.size ≤ k)) r
theorem W_laws_toByteS {x1 : List UInt8} {res : (List UInt8)} (hm : M_laws_toByteS x1 = some res) (hBw : B ≤ w0.heap.size) (p1_0 : repS w0 B (.slice pa1_0 pn1_0 pc1_0) x1) : CallsR Tryz.prog 8 [(.slice pa1_0 pn1_0 pc1_0)] w0 (Q_laws_toByteS w0 B res) := by
 unfold M_laws_toByteS at hm
 obtain ⟨fn, hf, hb, hN, hr⟩ := fnE Tryz.func8
 refine goW hf (hb.trans z) (hN.trans z) (lb z) <| Ws <| Ra z <| Wn <| Ws <| Rm z <| R z (lnR und_25 z p1_0) ?_
 obtain ⟨x27, e28, hm29⟩ := bdS hm
 refine E z (ef_makeN (α := UInt8) el_25 (fun _ => UInt8_own0) e28 z z) ?_
 rintro _ w21 ⟨a22, n23, c24, rfl, s25, h26⟩
 refine Ra z <| Wn <| Wq <| Ws <| Ra z <| Wn ?_
 obtain ⟨u92, hu93, hm94⟩ := bdS hm29
 refine WC_forN (σ := (List UInt8)) (ρ := (List UInt8)) (fun (k95 : Nat) (x84 : List UInt8) a w => ∃  (S89 : List Nat), Sat 22 [(0, (.slice pa1_0 pn1_0 pc1_0)), (3, (.slice a22 n23 c24)), (4, (vI ((k95 : Nat) : Int)))] a ∧ Chg (· ∈ [w0.heap.size]) w21 w ∧ ownS w S89 (.slice a22 n23 c24) x84 ∧ S89.Nodup ∧ (∀ k ∈ S89, k ∈ [w0.heap.size] ∨ w21.heap.size ≤ k)) (fun (x84 : List UInt8) a w => ∃  (S89 : List Nat), Sat 22 [(3, (.slice a22 n23 c24))] a ∧ Chg (· ∈ [w0.heap.size]) w21 w ∧ ownS w S89 (.slice a22 n23 c24) x84 ∧ S89.Nodup ∧ (∀ k ∈ S89, k ∈ [w0.heap.size] ∨ w21.heap.size ≤ k)) (fun r ex a w => ex = .ret ∧ RetPost Tryz.prog fn (Q_laws_toByteS w0 B r) a w) hu93 ?_ ?_ ?_ ?_ ?_
 ·exact fun _ q => ⟨[w0.heap.size], (q.weaken (s3 z z z)), (cr [w0.heap.size] w21), h26, nd_one, (inor sr)⟩
 ·rintro k95 x84 a96 w97 o98 hk99 ⟨S89, hS100, s101, h88, h90, h91⟩ hm102
  refine Wu (e := [(0, (.slice pa1_0 pn1_0 pc1_0)), (3, (.slice a22 n23 c24)), (4, (vI ((k95 : Nat) : Int)))]) (N := 22) ?_ hS100
  refine Wq <| Ws <| Rm z <| Rm z ?_
  have h105 := (p1_0.ext s25).chg s101 (ltge (mem1le hBw))
  refine R z (lnR und_25 z h105) <| R z (lss z z) <| Wn <| Wc z (fun _ => ?_) (fun hc => (nolt hk99 hc).elim)
  refine Wk <| Wq <| WC_block <| Wg <| Rm z <| Rm z <| Rm z <| Rm z ?_
  obtain ⟨x126, e127, hm128⟩ := bdS hm102
  refine RX z (at_ (α := UInt8) und_25 size_5 z z z h105 e127) ?_
  rintro _ ⟨b129, o130, cs131, rfl, h132, h133, h134⟩
  obtain rfl := UInt8_open h133
  refine R z (l1 agg_5 z fid (h132.at0 z)) ?_
  obtain ⟨x135, e136, hm137⟩ := bdS hm128
  refine RX z (rd_atU (α := UInt8) und_25 size_5 z z h88 e136) ?_
  rintro _ ⟨g138, h139, rfl⟩
  refine E0 (ef_setN (α := UInt8) size_5 z h139 z z z e136 h88 h90 UInt8_own all_nil nd_nil) ?_
  rintro _ w140 ⟨S141, s142, h143, h144, h145⟩
  refine Wn <| Wg <| Rm z <| R z (inc_ hk99 (lt_ (repS.len p1_0) LEN_le) z z) <| Ra z <| Wl ?_
  have h146 : ∀ k ∈ S89, k ∈ [w0.heap.size] ∨ w21.heap.size ≤ k := or1 h91 (inor sr) (leor lr)
  have h147 : ∀ k ∈ S141, k ∈ [w0.heap.size] ∨ w21.heap.size ≤ k := or2 h145 h146 all_nil (leor s101.size)
  have h148 : Chg (· ∈ [w0.heap.size]) w21 w97 := cM (cr [w0.heap.size] w21) s101 (inor sr)
  have h149 : Chg (· ∈ [w0.heap.size]) w21 w140 := cM h148 s142 h146
  exact fun _ q => ⟨x135, (som hm137).symm, ⟨S141, (q.weaken (s3 z z z)), h149, h143, h144, h147⟩⟩
 ·rintro x84 a150 w151 ⟨S89, hS152, s153, h88, h90, h91⟩
  refine Wu (e := [(0, (.slice pa1_0 pn1_0 pc1_0)), (3, (.slice a22 n23 c24)), (4, (vI ((x1.length : Nat) : Int)))]) (N := 22) ?_ hS152
  refine Wq <| Ws <| Rm z <| Rm z <| R z (lnR und_25 z ((p1_0.ext s25).chg s153 (ltge (mem1le hBw)))) <| R z (lss z z) <| Wn <| Wc z (fun hc => (noltt hc).elim) (fun _ => ?_)
  have h159 : ∀ k ∈ S89, k ∈ [w0.heap.size] ∨ w21.heap.size ≤ k := or1 h91 (inor sr) (leor lr)
  have h160 : Chg (· ∈ [w0.heap.size]) w21 w151 := cM (cr [w0.heap.size] w21) s153 (inor sr)
  exact WC_exit (fun a' ha' => ⟨rfl, ⟨S89, (Sat.weaken ha' (s1 z)), h160, h88, h90, h159⟩⟩)
 ·rintro x84 a161 w162 rfl ⟨S89, hS163, s164, h88, h90, h91⟩
  have hm165 := elL hm94
  revert a161
  refine Wo <| Ws <| Rm z <| Ra z <| Wn ?_
  obtain rfl := som hm165
  have h167 : ∀ k ∈ S89, w0.heap.size ≤ k := or1 h91 (mem1 lr) (lele s25.size)
  exact Wr (ret1 hr z ⟨(bM s25 s164 (mem1 lr)), a22, n23, c24, S89, z, h88, h90, h167⟩)
 rintro r168 ex169 a170 w171 rfl ⟨rfl, hq172⟩
 have hm173 := elR hm94
 obtain rfl := som hm173
 exact ⟨hq172, z⟩
def Q_laws_toStringS (w0 : World) (B : Nat) (r : (List Str)) (v : Value) (w' : World) : Prop := Below w0.heap.size w0 w' ∧ (fun r1 => ∃ (a1 : Option Addr) (n1 c1 : Nat) (S1 : List Nat), (.slice a1 n1 c1) = v ∧ ownS w' S1 (.slice a1 n1 c1) r1 ∧ S1.Nodup ∧ (∀ k ∈ S1, w0.heap.size ≤ k)) r
theorem W_laws_toStringS {x1 : List Str} {res : (List Str)} (hm : M_laws_toStringS x1 = some res) (hBw : B ≤ w0.heap.size) (p1_0 : repS w0 B (.slice pa1_0 pn1_0 pc1_0) x1) : CallsR Tryz.prog 77 [(.slice pa1_0 pn1_0 pc1_0)] w0 (Q_laws_toStringS w0 B res) := by
 unfold M_laws_toStringS at hm
 obtain ⟨fn, hf, hb, hN, hr⟩ := fnE Tryz.func77
 refine goW hf (hb.trans z) (hN.trans z) (lb z) <| Ws <| Ra z <| Wn <| Ws <| Rm z <| R z (lnR und_72 z p1_0) ?_
 obtain ⟨x27, e28, hm29⟩ := bdS hm
 refine E z (ef_makeN (α := Str) el_72 (fun _ => (Str_own (lb z))) e28 z z) ?_
 rintro _ w21 ⟨a22, n23, c24, rfl, s25, h26⟩
 refine Ra z <| Wn <| Wq <| Ws <| Ra z <| Wn ?_
 obtain ⟨u94, hu95, hm96⟩ := bdS hm29
 refine WC_forN (σ := (List Str)) (ρ := (List Str)) (fun (k97 : Nat) (x86 : List Str) a w => ∃  (S91 : List Nat), Sat 22 [(0, (.slice pa1_0 pn1_0 pc1_0)), (3, (.slice a22 n23 c24)), (4, (vI ((k97 : Nat) : Int)))] a ∧ Chg (· ∈ [w0.heap.size]) w21 w ∧ ownS w S91 (.slice a22 n23 c24) x86 ∧ S91.Nodup ∧ (∀ k ∈ S91, k ∈ [w0.heap.size] ∨ w21.heap.size ≤ k)) (fun (x86 : List Str) a w => ∃  (S91 : List Nat), Sat 22 [(3, (.slice a22 n23 c24))] a ∧ Chg (· ∈ [w0.heap.size]) w21 w ∧ ownS w S91 (.slice a22 n23 c24) x86 ∧ S91.Nodup ∧ (∀ k ∈ S91, k ∈ [w0.heap.size] ∨ w21.heap.size ≤ k)) (fun r ex a w => ex = .ret ∧ RetPost Tryz.prog fn (Q_laws_toStringS w0 B r) a w) hu95 ?_ ?_ ?_ ?_ ?_
 ·exact fun _ q => ⟨[w0.heap.size], (q.weaken (s3 z z z)), (cr [w0.heap.size] w21), h26, nd_one, (inor sr)⟩
 ·rintro k97 x86 a98 w99 o100 hk101 ⟨S91, hS102, s103, h90, h92, h93⟩ hm104
  refine Wu (e := [(0, (.slice pa1_0 pn1_0 pc1_0)), (3, (.slice a22 n23 c24)), (4, (vI ((k97 : Nat) : Int)))]) (N := 22) ?_ hS102
  refine Wq <| Ws <| Rm z <| Rm z ?_
  have h107 := (p1_0.ext s25).chg s103 (ltge (mem1le hBw))
  refine R z (lnR und_72 z h107) <| R z (lss z z) <| Wn <| Wc z (fun _ => ?_) (fun hc => (nolt hk101 hc).elim)
  refine Wk <| Wq <| WC_block <| Wg <| Rm z <| Rm z <| Rm z <| Rm z ?_
  obtain ⟨x129, e130, hm131⟩ := bdS hm104
  refine RX z (at_ (α := Str) und_72 size_9 z z z h107 e130) ?_
  rintro _ ⟨b132, o133, cs134, rfl, h135, h136, h137⟩
  obtain ⟨rfl, h138⟩ := Str_open h136
  refine R z (l1 agg_9 z fid (h135.at0 z)) ?_
  obtain ⟨x139, e140, hm141⟩ := bdS hm131
  refine RX z (rd_atU (α := Str) und_72 size_9 z z h90 e140) ?_
  rintro _ ⟨g142, h143, rfl⟩
  refine E0 (ef_setN (α := Str) size_9 z h143 z z z e140 h90 h92 (Str_own h138) all_nil nd_nil) ?_
  rintro _ w144 ⟨S145, s146, h147, h148, h149⟩
  refine Wn <| Wg <| Rm z <| R z (inc_ hk101 (lt_ (repS.len p1_0) LEN_le) z z) <| Ra z <| Wl ?_
  have h150 : ∀ k ∈ S91, k ∈ [w0.heap.size] ∨ w21.heap.size ≤ k := or1 h93 (inor sr) (leor lr)
  have h151 : ∀ k ∈ S145, k ∈ [w0.heap.size] ∨ w21.heap.size ≤ k := or2 h149 h150 all_nil (leor s103.size)
  have h152 : Chg (· ∈ [w0.heap.size]) w21 w99 := cM (cr [w0.heap.size] w21) s103 (inor sr)
  have h153 : Chg (· ∈ [w0.heap.size]) w21 w144 := cM h152 s146 h150
  exact fun _ q => ⟨x139, (som hm141).symm, ⟨S145, (q.weaken (s3 z z z)), h153, h147, h148, h151⟩⟩
 ·rintro x86 a154 w155 ⟨S91, hS156, s157, h90, h92, h93⟩
  refine Wu (e := [(0, (.slice pa1_0 pn1_0 pc1_0)), (3, (.slice a22 n23 c24)), (4, (vI ((x1.length : Nat) : Int)))]) (N := 22) ?_ hS156
  refine Wq <| Ws <| Rm z <| Rm z <| R z (lnR und_72 z ((p1_0.ext s25).chg s157 (ltge (mem1le hBw)))) <| R z (lss z z) <| Wn <| Wc z (fun hc => (noltt hc).elim) (fun _ => ?_)
  have h163 : ∀ k ∈ S91, k ∈ [w0.heap.size] ∨ w21.heap.size ≤ k := or1 h93 (inor sr) (leor lr)
  have h164 : Chg (· ∈ [w0.heap.size]) w21 w155 := cM (cr [w0.heap.size] w21) s157 (inor sr)
  exact WC_exit (fun a' ha' => ⟨rfl, ⟨S91, (Sat.weaken ha' (s1 z)), h164, h90, h92, h163⟩⟩)
 ·rintro x86 a165 w166 rfl ⟨S91, hS167, s168, h90, h92, h93⟩
  have hm169 := elL hm96
  revert a165
  refine Wo <| Ws <| Rm z <| Ra z <| Wn ?_
  obtain rfl := som hm169
  have h171 : ∀ k ∈ S91, w0.heap.size ≤ k := or1 h93 (mem1 lr) (lele s25.size)
  exact Wr (ret1 hr z ⟨(bM s25 s168 (mem1 lr)), a22, n23, c24, S91, z, h90, h92, h171⟩)
 rintro r172 ex173 a174 w175 rfl ⟨rfl, hq176⟩
 have hm177 := elR hm96
 obtain rfl := som hm177
 exact ⟨hq176, z⟩
def Q_laws_toIntS (w0 : World) (B : Nat) (r : (List Int)) (v : Value) (w' : World) : Prop := Below w0.heap.size w0 w' ∧ (fun r1 => ∃ (a1 : Option Addr) (n1 c1 : Nat) (S1 : List Nat), (.slice a1 n1 c1) = v ∧ ownS w' S1 (.slice a1 n1 c1) r1 ∧ S1.Nodup ∧ (∀ k ∈ S1, w0.heap.size ≤ k)) r
theorem W_laws_toIntS {x1 : List Int} {res : (List Int)} (hm : M_laws_toIntS x1 = some res) (hBw : B ≤ w0.heap.size) (p1_0 : repS w0 B (.slice pa1_0 pn1_0 pc1_0) x1) : CallsR Tryz.prog 78 [(.slice pa1_0 pn1_0 pc1_0)] w0 (Q_laws_toIntS w0 B res) := by
 unfold M_laws_toIntS at hm
 obtain ⟨fn, hf, hb, hN, hr⟩ := fnE Tryz.func78
 refine goW hf (hb.trans z) (hN.trans z) (lb z) <| Ws <| Ra z <| Wn <| Ws <| Rm z <| R z (lnR und_73 z p1_0) ?_
 obtain ⟨x27, e28, hm29⟩ := bdS hm
 refine E z (ef_makeN (α := Int) el_73 (fun _ => (Int_own (ii z))) e28 z z) ?_
 rintro _ w21 ⟨a22, n23, c24, rfl, s25, h26⟩
 refine Ra z <| Wn <| Wq <| Ws <| Ra z <| Wn ?_
 obtain ⟨u94, hu95, hm96⟩ := bdS hm29
 refine WC_forN (σ := (List Int)) (ρ := (List Int)) (fun (k97 : Nat) (x86 : List Int) a w => ∃  (S91 : List Nat), Sat 22 [(0, (.slice pa1_0 pn1_0 pc1_0)), (3, (.slice a22 n23 c24)), (4, (vI ((k97 : Nat) : Int)))] a ∧ Chg (· ∈ [w0.heap.size]) w21 w ∧ ownS w S91 (.slice a22 n23 c24) x86 ∧ S91.Nodup ∧ (∀ k ∈ S91, k ∈ [w0.heap.size] ∨ w21.heap.size ≤ k)) (fun (x86 : List Int) a w => ∃  (S91 : List Nat), Sat 22 [(3, (.slice a22 n23 c24))] a ∧ Chg (· ∈ [w0.heap.size]) w21 w ∧ ownS w S91 (.slice a22 n23 c24) x86 ∧ S91.Nodup ∧ (∀ k ∈ S91, k ∈ [w0.heap.size] ∨ w21.heap.size ≤ k)) (fun r ex a w => ex = .ret ∧ RetPost Tryz.prog fn (Q_laws_toIntS w0 B r) a w) hu95 ?_ ?_ ?_ ?_ ?_
 ·exact fun _ q => ⟨[w0.heap.size], (q.weaken (s3 z z z)), (cr [w0.heap.size] w21), h26, nd_one, (inor sr)⟩
 ·rintro k97 x86 a98 w99 o100 hk101 ⟨S91, hS102, s103, h90, h92, h93⟩ hm104
  refine Wu (e := [(0, (.slice pa1_0 pn1_0 pc1_0)), (3, (.slice a22 n23 c24)), (4, (vI ((k97 : Nat) : Int)))]) (N := 22) ?_ hS102
  refine Wq <| Ws <| Rm z <| Rm z ?_
  have h107 := (p1_0.ext s25).chg s103 (ltge (mem1le hBw))
  refine R z (lnR und_73 z h107) <| R z (lss z z) <| Wn <| Wc z (fun _ => ?_) (fun hc => (nolt hk101 hc).elim)
  refine Wk <| Wq <| WC_block <| Wg <| Rm z <| Rm z <| Rm z <| Rm z ?_
  obtain ⟨x129, e130, hm131⟩ := bdS hm104
  refine RX z (at_ (α := Int) und_73 size_3 z z z h107 e130) ?_
  rintro _ ⟨b132, o133, cs134, rfl, h135, h136, h137⟩
  obtain ⟨rfl, h138⟩ := Int_open h136
  refine R z (l1 agg_3 z fid (h135.at0 z)) ?_
  obtain ⟨x139, e140, hm141⟩ := bdS hm131
  refine RX z (rd_atU (α := Int) und_73 size_3 z z h90 e140) ?_
  rintro _ ⟨g142, h143, rfl⟩
  refine E0 (ef_setN (α := Int) size_3 z h143 z z z e140 h90 h92 (Int_own h138) all_nil nd_nil) ?_
  rintro _ w144 ⟨S145, s146, h147, h148, h149⟩
  refine Wn <| Wg <| Rm z <| R z (inc_ hk101 (lt_ (repS.len p1_0) LEN_le) z z) <| Ra z <| Wl ?_
  have h150 : ∀ k ∈ S91, k ∈ [w0.heap.size] ∨ w21.heap.size ≤ k := or1 h93 (inor sr) (leor lr)
  have h151 : ∀ k ∈ S145, k ∈ [w0.heap.size] ∨ w21.heap.size ≤ k := or2 h149 h150 all_nil (leor s103.size)
  have h152 : Chg (· ∈ [w0.heap.size]) w21 w99 := cM (cr [w0.heap.size] w21) s103 (inor sr)
  have h153 : Chg (· ∈ [w0.heap.size]) w21 w144 := cM h152 s146 h150
  exact fun _ q => ⟨x139, (som hm141).symm, ⟨S145, (q.weaken (s3 z z z)), h153, h147, h148, h151⟩⟩
 ·rintro x86 a154 w155 ⟨S91, hS156, s157, h90, h92, h93⟩
  refine Wu (e := [(0, (.slice pa1_0 pn1_0 pc1_0)), (3, (.slice a22 n23 c24)), (4, (vI ((x1.length : Nat) : Int)))]) (N := 22) ?_ hS156
  refine Wq <| Ws <| Rm z <| Rm z <| R z (lnR und_73 z ((p1_0.ext s25).chg s157 (ltge (mem1le hBw)))) <| R z (lss z z) <| Wn <| Wc z (fun hc => (noltt hc).elim) (fun _ => ?_)
  have h163 : ∀ k ∈ S91, k ∈ [w0.heap.size] ∨ w21.heap.size ≤ k := or1 h93 (inor sr) (leor lr)
  have h164 : Chg (· ∈ [w0.heap.size]) w21 w155 := cM (cr [w0.heap.size] w21) s157 (inor sr)
  exact WC_exit (fun a' ha' => ⟨rfl, ⟨S91, (Sat.weaken ha' (s1 z)), h164, h90, h92, h163⟩⟩)
 ·rintro x86 a165 w166 rfl ⟨S91, hS167, s168, h90, h92, h93⟩
  have hm169 := elL hm96
  revert a165
  refine Wo <| Ws <| Rm z <| Ra z <| Wn ?_
  obtain rfl := som hm169
  have h171 : ∀ k ∈ S91, w0.heap.size ≤ k := or1 h93 (mem1 lr) (lele s25.size)
  exact Wr (ret1 hr z ⟨(bM s25 s168 (mem1 lr)), a22, n23, c24, S91, z, h90, h92, h171⟩)
 rintro r172 ex173 a174 w175 rfl ⟨rfl, hq176⟩
 have hm177 := elR hm96
 obtain rfl := som hm177
 exact ⟨hq176, z⟩
def Q_laws_toRule (w0 : World) (B : Nat) (r : Rule) (v : Value) (w' : World) : Prop := Below w0.heap.size w0 w' ∧ (fun r1 => ∃ (a1 : Option Addr) (n1 c1 : Nat) (S1 : List Nat) (a2 : Option Addr) (n2 c2 : Nat) (S2 : List Nat) (a3 : Option Addr) (n3 c3 : Nat) (S3 : List Nat) (a4 : Option Addr) (n4 c4 : Nat) (S4 : List Nat), (.agg #[Str.v r1.name, vI r1.kind, vI r1.size, vB r1.little, .slice a1 n1 c1, .slice a2 n2 c2, .slice a3 n3 c3, .slice a4 n4 c4]) = v ∧ r1.name.b.length ≤ LEN ∧ inI r1.kind ∧ inI r1.size ∧ ownS w' S1 (.slice a1 n1 c1) r1.bytes ∧ ownS w' S2 (.slice a2 n2 c2) r1.names ∧ ownS w' S3 (.slice a3 n3 c3) r1.tags ∧ ownS w' S4 (.slice a4 n4 c4) r1.kids ∧ (S1 ++ (S2 ++ (S3 ++ S4))).Nodup ∧ (∀ k ∈ (S1 ++ (S2 ++ (S3 ++ S4))), w0.heap.size ≤ k)) r
theorem W_laws_toRule {x1 : Rule} {res : Rule} (hm : M_laws_toRule x1 = some res) (hBw : B ≤ w0.heap.size) (p1_0 : x1.name.b.length ≤ LEN) (p1_1 : inI x1.kind) (p1_2 : inI x1.size) (p1_4 : repS w0 B (.slice pa1_4 pn1_4 pc1_4) x1.bytes) (p1_5 : repS w0 B (.slice pa1_5 pn1_5 pc1_5) x1.names) (p1_6 : repS w0 B (.slice pa1_6 pn1_6 pc1_6) x1.tags) (p1_7 : repS w0 B (.slice pa1_7 pn1_7 pc1_7) x1.kids) : CallsR Tryz.prog 45 [(.agg #[(Str.v x1.name), (vI x1.kind), (vI x1.size), (vB x1.little), (.slice pa1_4 pn1_4 pc1_4), (.slice pa1_5 pn1_5 pc1_5), (.slice pa1_6 pn1_6 pc1_6), (.slice pa1_7 pn1_7 pc1_7)])] w0 (Q_laws_toRule w0 B res) := by
 unfold M_laws_toRule at hm
 obtain ⟨fn, hf, hb, hN, hr⟩ := fnE Tryz.func45
 refine goW hf (hb.trans z) (hN.trans z) (lb z) <| Ws <| E z (fb z) ?_
 rintro _ w21 ⟨rfl, h22⟩
 have h23 := h22.below
 have h24 : Blk w21 w0.heap.size [(Str.v x1.name), (vI x1.kind), (vI x1.size), (vB x1.little), (.slice pa1_4 pn1_4 pc1_4), (.slice pa1_5 pn1_5 pc1_5), (.slice pa1_6 pn1_6 pc1_6), (.slice pa1_7 pn1_7 pc1_7)] := h22.blk
 refine E z (fa zero_82) ?_
 rintro _ w25 ⟨rfl, h26⟩
 have h27 := h26.below
 have h28 : Blk w25 w21.heap.size [(Str.v (⟨[]⟩ : Str)), (vI 0), (vI 0), (vB false), (.slice none 0 0), (.slice none 0 0), (.slice none 0 0), (.slice none 0 0)] := h26.blk
 refine Wn <| Ws <| E z (fa zero_82) ?_
 rintro _ w29 ⟨rfl, h30⟩
 have h31 := h30.below
 have h32 : Blk w29 w25.heap.size [(Str.v (⟨[]⟩ : Str)), (vI 0), (vI 0), (vB false), (.slice none 0 0), (.slice none 0 0), (.slice none 0 0), (.slice none 0 0)] := h30.blk
 refine Wn <| Ws <| R z (fd fld_75_0 z) ?_
 have h34 := (h24.ext h27).ext h31
 refine R z (l1 agg_9 z fid (h34.at z)) <| R z (fd fld_82_0 z) <| E0 (fs (cur' := [(Str.v x1.name), (vI 0), (vI 0), (vB false), (.slice none 0 0), (.slice none 0 0), (.slice none 0 0), (.slice none 0 0)]) size_9 z z h32 z (lb z) (oneAll z) z) ?_
 rintro _ w35 ⟨h36, s37⟩
 have h38 := s37.one
 refine Wn <| Ws <| R z (fd fld_75_1 z) ?_
 have h39 := mm1 h24.lt h27.size
 have h40 := h34.chg h38 (djs h39)
 refine R z (l1 agg_3 z fid (h40.at z)) <| R z (fd fld_82_1 z) <| E0 (fs (cur' := [(Str.v x1.name), (vI x1.kind), (vI 0), (vB false), (.slice none 0 0), (.slice none 0 0), (.slice none 0 0), (.slice none 0 0)]) size_3 z z h36 z (lb z) (oneAll z) z) ?_
 rintro _ w41 ⟨h42, s43⟩
 have h44 := s43.one
 refine Wn <| Ws <| R z (fd fld_75_2 z) ?_
 have h45 := h40.chg h44 (djs h39)
 refine R z (l1 agg_3 z fid (h45.at z)) <| R z (fd fld_82_2 z) <| E0 (fs (cur' := [(Str.v x1.name), (vI x1.kind), (vI x1.size), (vB false), (.slice none 0 0), (.slice none 0 0), (.slice none 0 0), (.slice none 0 0)]) size_3 z z h42 z (lb z) (oneAll z) z) ?_
 rintro _ w46 ⟨h47, s48⟩
 have h49 := s48.one
 refine Wn <| Ws <| R z (fd fld_75_3 z) ?_
 have h50 := h45.chg h49 (djs h39)
 refine R z (l1 agg_4 z fid (h50.at z)) <| R z (fd fld_82_3 z) <| E0 (fs (cur' := [(Str.v x1.name), (vI x1.kind), (vI x1.size), (vB x1.little), (.slice none 0 0), (.slice none 0 0), (.slice none 0 0), (.slice none 0 0)]) size_4 z z h47 z (lb z) (oneAll z) z) ?_
 rintro _ w51 ⟨h52, s53⟩
 have h54 := s53.one
 refine Wn <| Ws <| R z (fd fld_75_4 z) ?_
 have h55 := h50.chg h54 (djs h39)
 refine R z (l1 agg_25 z fid (h55.at z)) ?_
 have h59 := lt_ h23.size h27.size
 have h61 := mem1le (lt_ hBw h59)
 have h70 := lt_ (lt_ (lt_ (lt_ (lt_ h59 h31.size) h38.size) h44.size) h49.size) h54.size
 obtain ⟨r72, e73, hm74⟩ := bdS hm
 refine E z (fc Tryz.call8 z (W_laws_toByteS (B := B) e73 (lt_ hBw h70) (((((((p1_4.ext h23).ext h27).ext h31).chg h38 (ltge h61)).chg h44 (ltge h61)).chg h49 (ltge h61)).chg h54 (ltge h61)))) ?_
 rintro _ w75 ⟨s76, a77, n78, c79, S81, rfl, h80, h82, h83⟩
 refine R z (fd fld_82_4 z) <| E0 (fs (cur' := [(Str.v x1.name), (vI x1.kind), (vI x1.size), (vB x1.little), (.slice a77 n78 c79), (.slice none 0 0), (.slice none 0 0), (.slice none 0 0)]) size_25 z z (h52.ext s76) z (lb z) (oneAll z) z) ?_
 rintro _ w85 ⟨h86, s87⟩
 have h88 := s87.one
 refine Wn <| Ws <| R z (fd fld_75_5 z) ?_
 have h90 := (h55.ext s76).chg h88 (djs h39)
 refine R z (l1 agg_72 z fid (h90.at z)) ?_
 have h101 := lt_ (lt_ h70 s76.size) h88.size
 obtain ⟨r103, e104, hm105⟩ := bdS hm74
 refine E z (fc Tryz.call77 z (W_laws_toStringS (B := B) e104 (lt_ hBw h101) (((((((((p1_5.ext h23).ext h27).ext h31).chg h38 (ltge h61)).chg h44 (ltge h61)).chg h49 (ltge h61)).chg h54 (ltge h61)).ext s76).chg h88 (ltge h61)))) ?_
 rintro _ w106 ⟨s107, a108, n109, c110, S112, rfl, h111, h113, h114⟩
 refine R z (fd fld_82_5 z) <| E0 (fs (cur' := [(Str.v x1.name), (vI x1.kind), (vI x1.size), (vB x1.little), (.slice a77 n78 c79), (.slice a108 n109 c110), (.slice none 0 0), (.slice none 0 0)]) size_72 z z (h86.ext s107) z (lb z) (oneAll z) z) ?_
 rintro _ w116 ⟨h117, s118⟩
 have h119 := s118.one
 refine Wn <| Ws <| R z (fd fld_75_6 z) ?_
 have h121 := (h90.ext s107).chg h119 (djs h39)
 refine R z (l1 agg_73 z fid (h121.at z)) ?_
 have h134 := lt_ (lt_ h101 s107.size) h119.size
 obtain ⟨r136, e137, hm138⟩ := bdS hm105
 refine E z (fc Tryz.call78 z (W_laws_toIntS (B := B) e137 (lt_ hBw h134) (((((((((((p1_6.ext h23).ext h27).ext h31).chg h38 (ltge h61)).chg h44 (ltge h61)).chg h49 (ltge h61)).chg h54 (ltge h61)).ext s76).chg h88 (ltge h61)).ext s107).chg h119 (ltge h61)))) ?_
 rintro _ w139 ⟨s140, a141, n142, c143, S145, rfl, h144, h146, h147⟩
 refine R z (fd fld_82_6 z) <| E0 (fs (cur' := [(Str.v x1.name), (vI x1.kind), (vI x1.size), (vB x1.little), (.slice a77 n78 c79), (.slice a108 n109 c110), (.slice a141 n142 c143), (.slice none 0 0)]) size_73 z z (h117.ext s140) z (lb z) (oneAll z) z) ?_
 rintro _ w149 ⟨h150, s151⟩
 have h152 := s151.one
 refine Wn <| Ws <| R z (fd fld_75_7 z) <| R z (l1 agg_73 z fid (((h121.ext s140).chg h152 (djs h39)).at z)) ?_
 have h167 := ((((((((((((p1_7.ext h23).ext h27).ext h31).chg h38 (ltge h61)).chg h44 (ltge h61)).chg h49 (ltge h61)).chg h54 (ltge h61)).ext s76).chg h88 (ltge h61)).ext s107).chg h119 (ltge h61)).ext s140).chg h152 (ltge h61)
 have h169 := lt_ (lt_ h134 s140.size) h152.size
 obtain ⟨r171, e172, hm173⟩ := bdS hm138
 refine E z (fc Tryz.call78 z (W_laws_toIntS (B := B) e172 (lt_ hBw h169) h167)) ?_
 rintro _ w174 ⟨s175, a176, n177, c178, S180, rfl, h179, h181, h182⟩
 refine R z (fd fld_82_7 z) <| E0 (fs (cur' := [(Str.v x1.name), (vI x1.kind), (vI x1.size), (vB x1.little), (.slice a77 n78 c79), (.slice a108 n109 c110), (.slice a141 n142 c143), (.slice a176 n177 c178)]) size_73 z z (h150.ext s175) z (lb z) (oneAll z) z) ?_
 rintro _ w184 ⟨h185, s186⟩
 have h187 := s186.one
 refine Wn <| Ws <| R z (lN (vs := [(Str.v x1.name), (vI x1.kind), (vI x1.size), (vB x1.little), (.slice a77 n78 c79), (.slice a108 n109 c110), (.slice a141 n142 c143), (.slice a176 n177 c178)]) agg_82 size_82 z z fid (h185.row 0 8 z)) ?_
 have h189 := mmr h28.lt
 have h193 := ((((h28.ext h31).chg h38 (djs h189)).chg h44 (djs h189)).chg h49 (djs h189)).chg h54 (djs h189)
 have h199 := (((((h193.ext s76).chg h88 (djs h189)).ext s107).chg h119 (djs h189)).ext s140).chg h152 (djs h189)
 refine E0 (fs (cur' := [(Str.v x1.name), (vI x1.kind), (vI x1.size), (vB x1.little), (.slice a77 n78 c79), (.slice a108 n109 c110), (.slice a141 n142 c143), (.slice a176 n177 c178)]) size_82 z z ((h199.ext s175).chg h187 (djs h189)) z (lb z) (oneAll z) z) ?_
 rintro _ w202 ⟨h203, s204⟩
 have h205 := s204.one
 refine Wn ?_
 obtain rfl := som hm173
 have h208 := lt_ (lt_ (lt_ h38.size h44.size) h49.size) h54.size
 have h209 := o0n1 h83 h32.lt h208
 have h220 := lt_ (lt_ (lt_ (lt_ h31.size h38.size) h44.size) h49.size) h54.size
 have h224 := lt_ (lt_ h208 s76.size) h88.size
 have h225 := o0n1 h114 h32.lt h224
 have h232 := lt_ (lt_ h220 s76.size) h88.size
 have h236 := lt_ (lt_ h224 s107.size) h119.size
 have h237 := o0n1 h147 h32.lt h236
 have h242 := lt_ (lt_ h232 s107.size) h119.size
 have h255 := mem1le h59
 have h267 := bM (bup (bM (bup (bM (bup (bM (bup (bM (bM (bM (bM (bup (bup h23 h27) h31) h38 h255) h44 h255) h49 h255) h54 h255) s76) h88 h255) s107) h119 h255) s140) h152 h255) s175) h187 h255
 have h277 := lt_ (lt_ h88.size s107.size) h119.size
 exact Wr (ret1 hr (resC agg_82 size_82 z h203 z) ⟨(bM h267 h205 (mem1le h23.size)), a77, n78, c79, S81, a108, n109, c110, S112, a141, n142, c143, S145, a176, n177, c178, S180, z, p1_0, p1_1, p1_2, ((((((((h80.chg h88 h209).ext s107).chg h119 h209).ext s140).chg h152 h209).ext s175).chg h187 h209).chg h205 (o0n1 h83 h28.lt h220)), ((((((h111.chg h119 h225).ext s140).chg h152 h225).ext s175).chg h187 h225).chg h205 (o0n1 h114 h28.lt h232)), ((((h144.chg h152 h237).ext s175).chg h187 h237).chg h205 (o0n1 h147 h28.lt h242)), ((h179.chg h187 (o0n1 h182 h32.lt (lt_ (lt_ h236 s140.size) h152.size))).chg h205 (o0n1 h182 h28.lt (lt_ (lt_ h242 s140.size) h152.size))), (nd_app h82 (nd_app h113 (nd_app h146 h181 (dj_symm (o0no h182 (ownS.lt h144) h152.size))) (nmA (dj_symm (o0no h147 (ownS.lt h111) h119.size)) (dj_symm (o0no h182 (ownS.lt h111) (lt_ (lt_ h119.size s140.size) h152.size))))) (nmA (dj_symm (o0no h114 (ownS.lt h80) h88.size)) (nmA (dj_symm (o0no h147 (ownS.lt h80) h277)) (dj_symm (o0no h182 (ownS.lt h80) (lt_ (lt_ h277 s140.size) h152.size)))))), (all_app (o0le h83 h70) (all_app (o0le h114 h101) (all_app (o0le h147 h134) (o0le h182 h169))))⟩)
def Q_laws_toRuleS (w0 : World) (B : Nat) (r : (List Rule)) (v : Value) (w' : World) : Prop := Below w0.heap.size w0 w' ∧ (fun r1 => ∃ (a1 : Option Addr) (n1 c1 : Nat) (S1 : List Nat), (.slice a1 n1 c1) = v ∧ ownS w' S1 (.slice a1 n1 c1) r1 ∧ S1.Nodup ∧ (∀ k ∈ S1, w0.heap.size ≤ k)) r
theorem W_laws_toRuleS {x1 : List Rule} {res : (List Rule)} (hm : M_laws_toRuleS x1 = some res) (hBw : B ≤ w0.heap.size) (p1_0 : repS w0 B (.slice pa1_0 pn1_0 pc1_0) x1) : CallsR Tryz.prog 24 [(.slice pa1_0 pn1_0 pc1_0)] w0 (Q_laws_toRuleS w0 B res) := by
 unfold M_laws_toRuleS at hm
 obtain ⟨fn, hf, hb, hN, hr⟩ := fnE Tryz.func24
 refine goW hf (hb.trans z) (hN.trans z) (lb z) <| Ws <| Ra z <| Wn <| Ws <| Rm z <| R z (lnR und_22 z p1_0) ?_
 obtain ⟨x27, e28, hm29⟩ := bdS hm
 refine E z (ef_makeN (α := Rule) el_29 (fun _ => (Rule_mkO (x := (⟨(⟨[]⟩ : Str), 0, 0, false, ([] : List UInt8), ([] : List Str), ([] : List Int), ([] : List Int)⟩ : Rule)) (S1 := ([] : List Nat)) (S2 := ([] : List Nat)) (S3 := ([] : List Nat)) (S4 := ([] : List Nat)) (lb z) (ii z) (ii z) onL onL onL onL)) e28 z z) ?_
 rintro _ w21 ⟨a22, n23, c24, rfl, s25, h26⟩
 refine Ra z <| Wn <| Wq <| Ws <| Ra z <| Wn ?_
 obtain ⟨u204, hu205, hm206⟩ := bdS hm29
 refine WC_forN (σ := (List Rule)) (ρ := (List Rule)) (fun (k207 : Nat) (x196 : List Rule) a w => ∃  (S201 : List Nat), Sat 23 [(0, (.slice pa1_0 pn1_0 pc1_0)), (3, (.slice a22 n23 c24)), (4, (vI ((k207 : Nat) : Int)))] a ∧ Chg (· ∈ [w0.heap.size]) w21 w ∧ ownS w S201 (.slice a22 n23 c24) x196 ∧ S201.Nodup ∧ (∀ k ∈ S201, k ∈ [w0.heap.size] ∨ w21.heap.size ≤ k)) (fun (x196 : List Rule) a w => ∃  (S201 : List Nat), Sat 23 [(3, (.slice a22 n23 c24))] a ∧ Chg (· ∈ [w0.heap.size]) w21 w ∧ ownS w S201 (.slice a22 n23 c24) x196 ∧ S201.Nodup ∧ (∀ k ∈ S201, k ∈ [w0.heap.size] ∨ w21.heap.size ≤ k)) (fun r ex a w => ex = .ret ∧ RetPost Tryz.prog fn (Q_laws_toRuleS w0 B r) a w) hu205 ?_ ?_ ?_ ?_ ?_
 ·exact fun _ q => ⟨[w0.heap.size], (q.weaken (s3 z z z)), (cr [w0.heap.size] w21), h26, nd_one, (inor sr)⟩
 ·rintro k207 x196 a208 w209 o210 hk211 ⟨S201, hS212, s213, h200, h202, h203⟩ hm214
  refine Wu (e := [(0, (.slice pa1_0 pn1_0 pc1_0)), (3, (.slice a22 n23 c24)), (4, (vI ((k207 : Nat) : Int)))]) (N := 23) ?_ hS212
  refine Wq <| Ws <| Rm z <| Rm z ?_
  have h217 := (p1_0.ext s25).chg s213 (ltge (mem1le hBw))
  refine R z (lnR und_22 z h217) <| R z (lss z z) <| Wn <| Wc z (fun _ => ?_) (fun hc => (nolt hk211 hc).elim)
  refine Wk <| Wq <| WC_block <| Wg <| Rm z <| Rm z <| Rm z <| Rm z ?_
  obtain ⟨x294, e295, hm296⟩ := bdS hm214
  refine RX z (at_ (α := Rule) und_22 size_75 z z z h217 e295) ?_
  rintro _ ⟨b297, o298, cs299, rfl, h300, h301, h302⟩
  obtain ⟨a306, n307, c308, a310, n311, c312, a314, n315, c316, a318, n319, c320, rfl, h303, h304, h305, h309, h313, h317, h321⟩ := Rule_open h301
  refine R z (lN (vs := [(Str.v x294.name), (vI x294.kind), (vI x294.size), (vB x294.little), (.slice a306 n307 c308), (.slice a310 n311 c312), (.slice a314 n315 c316), (.slice a318 n319 c320)]) agg_75 size_75 z z fid h300) ?_
  obtain ⟨r324, e325, hm326⟩ := bdS hm296
  refine E z (fc Tryz.call45 z (W_laws_toRule (B := B) e325 (lt_ hBw (lt_ s25.size s213.size)) h303 h304 h305 h309 h313 h317 h321)) ?_
  rintro _ w327 ⟨s328, a332, n333, c334, S336, a337, n338, c339, S341, a342, n343, c344, S346, a347, n348, c349, S351, rfl, h329, h330, h331, h335, h340, h345, h350, h352, h353⟩
  obtain ⟨x354, e355, hm356⟩ := bdS hm326
  have h357 := h200.ext s328
  refine RX z (rd_atU (α := Rule) und_29 size_82 z z h357 e355) ?_
  rintro _ ⟨g358, h359, rfl⟩
  refine E0 (ef_setN (α := Rule) size_82 z h359 z z z e355 h357 h202 (Rule_mkO (x := r324) (S1 := S336) (S2 := S341) (S3 := S346) (S4 := S351) h329 h330 h331 h335 h340 h345 h350) (all_app (o0no (all_left h353) (ownS.lt h200) (Nat.le_refl _)) (all_app (o0no (all_left (all_right h353)) (ownS.lt h200) (Nat.le_refl _)) (all_app (o0no (all_left (all_right (all_right h353))) (ownS.lt h200) (Nat.le_refl _)) (o0no (all_right (all_right (all_right h353))) (ownS.lt h200) (Nat.le_refl _))))) (nd_app (nd_left h352) (nd_app (nd_left (nd_right h352)) (nd_app (nd_left (nd_right (nd_right h352))) (nd_right (nd_right (nd_right h352))) (nd_dj (nd_right (nd_right h352)))) (nmA (nmL (nd_dj (nd_right h352))) (nmR (nd_dj (nd_right h352))))) (nmA (nmL (nd_dj h352)) (nmA (nmL (nmR (nd_dj h352))) (nmR (nmR (nd_dj h352))))))) ?_
  rintro _ w360 ⟨S361, s362, h363, h364, h365⟩
  refine Wn <| Wg <| Rm z <| R z (inc_ hk211 (lt_ (repS.len p1_0) LEN_le) z z) <| Ra z <| Wl ?_
  have h371 : ∀ k ∈ S201, k ∈ [w0.heap.size] ∨ w21.heap.size ≤ k := or1 h203 (inor sr) (leor lr)
  have h372 : ∀ k ∈ S336, k ∈ [w0.heap.size] ∨ w21.heap.size ≤ k := or0 (all_left h353)  (leor s213.size)
  have h373 : ∀ k ∈ S341, k ∈ [w0.heap.size] ∨ w21.heap.size ≤ k := or0 (all_left (all_right h353))  (leor s213.size)
  have h374 : ∀ k ∈ S346, k ∈ [w0.heap.size] ∨ w21.heap.size ≤ k := or0 (all_left (all_right (all_right h353)))  (leor s213.size)
  have h375 : ∀ k ∈ S351, k ∈ [w0.heap.size] ∨ w21.heap.size ≤ k := or0 (all_right (all_right (all_right h353)))  (leor s213.size)
  have h376 : ∀ k ∈ S361, k ∈ [w0.heap.size] ∨ w21.heap.size ≤ k := or2 h365 h371 (all_app h372 (all_app h373 (all_app h374 h375))) (leor (lt_ s213.size s328.size))
  have h377 : Chg (· ∈ [w0.heap.size]) w21 w209 := cM (cr [w0.heap.size] w21) s213 (inor sr)
  have h378 : Chg (· ∈ [w0.heap.size]) w21 w327 := cext h377 s328
  have h379 : Chg (· ∈ [w0.heap.size]) w21 w360 := cM h378 s362 h371
  exact fun _ q => ⟨x354, (som hm356).symm, ⟨S361, (q.weaken (s3 z z z)), h379, h363, h364, h376⟩⟩
 ·rintro x196 a380 w381 ⟨S201, hS382, s383, h200, h202, h203⟩
  refine Wu (e := [(0, (.slice pa1_0 pn1_0 pc1_0)), (3, (.slice a22 n23 c24)), (4, (vI ((x1.length : Nat) : Int)))]) (N := 23) ?_ hS382
  refine Wq <| Ws <| Rm z <| Rm z <| R z (lnR und_22 z ((p1_0.ext s25).chg s383 (ltge (mem1le hBw)))) <| R z (lss z z) <| Wn <| Wc z (fun hc => (noltt hc).elim) (fun _ => ?_)
  have h389 : ∀ k ∈ S201, k ∈ [w0.heap.size] ∨ w21.heap.size ≤ k := or1 h203 (inor sr) (leor lr)
  have h390 : Chg (· ∈ [w0.heap.size]) w21 w381 := cM (cr [w0.heap.size] w21) s383 (inor sr)
  exact WC_exit (fun a' ha' => ⟨rfl, ⟨S201, (Sat.weaken ha' (s1 z)), h390, h200, h202, h389⟩⟩)
 ·rintro x196 a391 w392 rfl ⟨S201, hS393, s394, h200, h202, h203⟩
  have hm395 := elL hm206
  revert a391
  refine Wo <| Ws <| Rm z <| Ra z <| Wn ?_
  obtain rfl := som hm395
  have h397 : ∀ k ∈ S201, w0.heap.size ≤ k := or1 h203 (mem1 lr) (lele s25.size)
  exact Wr (ret1 hr z ⟨(bM s25 s394 (mem1 lr)), a22, n23, c24, S201, z, h200, h202, h397⟩)
 rintro r398 ex399 a400 w401 rfl ⟨rfl, hq402⟩
 have hm403 := elR hm206
 obtain rfl := som hm403
 exact ⟨hq402, z⟩
def Q_laws_toDescription (w0 : World) (B : Nat) (r : Desc) (v : Value) (w' : World) : Prop := Below w0.heap.size w0 w' ∧ (fun r1 => ∃ (a1 : Option Addr) (n1 c1 : Nat) (S1 : List Nat), (.agg #[.slice a1 n1 c1]) = v ∧ ownS w' S1 (.slice a1 n1 c1) r1.rules ∧ S1.Nodup ∧ (∀ k ∈ S1, w0.heap.size ≤ k)) r
theorem W_laws_toDescription {x1 : Desc} {res : Desc} (hm : M_laws_toDescription x1 = some res) (hBw : B ≤ w0.heap.size) (p1_0 : repS w0 B (.slice pa1_0 pn1_0 pc1_0) x1.rules) : CallsR Tryz.prog 7 [(.agg #[(.slice pa1_0 pn1_0 pc1_0)])] w0 (Q_laws_toDescription w0 B res) := by
 unfold M_laws_toDescription at hm
 obtain ⟨fn, hf, hb, hN, hr⟩ := fnE Tryz.func7
 refine goW hf (hb.trans z) (hN.trans z) (lb z) <| Ws <| E z (fb z) ?_
 rintro _ w21 ⟨rfl, h22⟩
 have h23 := h22.below
 have h24 : Blk w21 w0.heap.size [(.slice pa1_0 pn1_0 pc1_0)] := h22.blk
 refine E z (fa zero_31) ?_
 rintro _ w25 ⟨rfl, h26⟩
 have h27 := h26.below
 have h28 : Blk w25 w21.heap.size [(.slice none 0 0)] := h26.blk
 refine Wn <| Ws <| E z (fa zero_31) ?_
 rintro _ w29 ⟨rfl, h30⟩
 have h31 := h30.below
 have h32 : Blk w29 w25.heap.size [(.slice none 0 0)] := h30.blk
 refine Wn <| Ws <| R z (fd fld_24_0 z) <| R z (l1 agg_22 z fid (((h24.ext h27).ext h31).at z)) ?_
 have h38 := lt_ h23.size h27.size
 have h39 := lt_ h38 h31.size
 obtain ⟨r41, e42, hm43⟩ := bdS hm
 refine E z (fc Tryz.call24 z (W_laws_toRuleS (B := B) e42 (lt_ hBw h39) (((p1_0.ext h23).ext h27).ext h31))) ?_
 rintro _ w44 ⟨s45, a46, n47, c48, S50, rfl, h49, h51, h52⟩
 refine R z (fd fld_31_0 z) <| E0 (fs (cur' := [(.slice a46 n47 c48)]) size_29 z z (h32.ext s45) z (lb z) (oneAll z) z) ?_
 rintro _ w54 ⟨h55, s56⟩
 have h57 := s56.one
 refine Wn <| Ws <| R z (lN (vs := [(.slice a46 n47 c48)]) agg_31 size_31 z z fid (h55.row 0 1 z)) <| E0 (fs (cur' := [(.slice a46 n47 c48)]) size_31 z z (((h28.ext h31).ext s45).chg h57 (djs (mmr h28.lt))) z (lb z) (oneAll z) z) ?_
 rintro _ w62 ⟨h63, s64⟩
 have h65 := s64.one
 refine Wn ?_
 obtain rfl := som hm43
 exact Wr (ret1 hr (resC agg_31 size_31 z h63 z) ⟨(bM (bM (bup (bup (bup h23 h27) h31) s45) h57 (mem1le h38)) h65 (mem1le h23.size)), a46, n47, c48, S50, z, ((h49.chg h57 (o0n1 h52 h32.lt (Nat.le_refl _))).chg h65 (o0n1 h52 h28.lt h31.size)), h51, (o0le h52 h39)⟩)
def Q_spec_RootOf (w0 : World) (B : Nat) (r : Int) (v : Value) (w' : World) : Prop := Below w0.heap.size w0 w' ∧ (fun r1 => (vI r1) = v ∧ inI r1) r
theorem W_spec_RootOf {x1 : Desc} {res : Int} (hm : M_spec_RootOf x1 = some res) (hBw : B ≤ w0.heap.size) (p1_0 : repS w0 B (.slice pa1_0 pn1_0 pc1_0) x1.rules) : CallsR Tryz.prog 33 [(.agg #[(.slice pa1_0 pn1_0 pc1_0)])] w0 (Q_spec_RootOf w0 B res) := by
 unfold M_spec_RootOf at hm
 obtain ⟨fn, hf, hb, hN, hr⟩ := fnE Tryz.func33
 refine goW hf (hb.trans z) (hN.trans z) (lb z) <| Ws <| E z (fb z) ?_
 rintro _ w21 ⟨rfl, h22⟩
 have h23 := h22.below
 have h24 : Blk w21 w0.heap.size [(.slice pa1_0 pn1_0 pc1_0)] := h22.blk
 refine Ra z <| Wn <| Ws <| R z (fd fld_31_0 z) <| R z (l1 agg_29 z fid (h24.at z)) <| R z (lnR und_29 z (p1_0.ext h23)) <| R z (rd_sub z z) <| Ra z <| Wn ?_
 obtain rfl := som hm
 exact Wr (ret1 hr z ⟨h23, z, (iS _ _)⟩)
def Q_spec_l1In (w0 : World) (B : Nat) (r : Bool) (v : Value) (w' : World) : Prop := Below w0.heap.size w0 w' ∧ (fun r1 => (vB r1) = v) r
theorem W_spec_l1In {x1 : Int} {x2 : Int} {x3 : Int} {res : Bool} (hm : M_spec_l1In x1 x2 x3 = some res) (hBw : B ≤ w0.heap.size) (p1_0 : inI x1) (p2_0 : inI x2) (p3_0 : inI x3) : CallsR Tryz.prog 67 [(vI x1), (vI x2), (vI x3)] w0 (Q_spec_l1In w0 B res) := by
 unfold M_spec_l1In at hm
 obtain ⟨fn, hf, hb, hN, hr⟩ := fnE Tryz.func67
 refine goW hf (hb.trans z) (hN.trans z) (lb z) <| Ws <| Ra z <| Wn <| Wq ?_
 obtain ⟨u25, hu26, hm27⟩ := bdS hm
 refine WC_cut (fun a w => ∃ (x24 : Bool), x24 = u25 ∧ Sat 15 [(6, (vB x24))] a ∧ Below w0.heap.size w0 w) ?_ ?_
 ·refine Wg <| Rm z <| Rm z <| R z (rd_geq z z) <| Rm z ?_
  rcases bsplit (decide (x2 ≤ x1)) with hc28 | hc28
  ·exact Rh z hc28 (mv z) <| Rh z hc28 (mv z) <| Rh z hc28 (rd_leq z z) <| R z (pT z hc28 z) <| Ra z <| Wl <| fun _ q => ⟨decide (x1 ≤ x3), som (ifT hu26 hc28), (q.weaken (s1 z)), (br w0)⟩
  iterate 3 refine Nh z hc28 ?_
  exact R z (pF z hc28 z) <| Ra z <| Wl <| fun _ q => ⟨false, som (ifF hu26 hc28), (q.weaken (s1 z)), (br w0)⟩
 rintro a31 w32 ⟨x24, rfl, hS33, s34⟩
 revert a31
 refine Wo ?_
 obtain rfl := som hm27
 exact Wr (ret1 hr z ⟨s34, z⟩)
def Q_spec_IsName (w0 : World) (B : Nat) (r : Bool) (v : Value) (w' : World) : Prop := Below w0.heap.size w0 w' ∧ (fun r1 => (vB r1) = v) r
theorem W_spec_IsName {x1 : Str} {res : Bool} (hm : M_spec_IsName x1 = some res) (hBw : B ≤ w0.heap.size) (p1_0 : x1.b.length ≤ LEN) : CallsR Tryz.prog 95 [(Str.v x1)] w0 (Q_spec_IsName w0 B res) := by
 unfold M_spec_IsName at hm
 obtain ⟨fn, hf, hb, hN, hr⟩ := fnE Tryz.func95
 refine goW hf (hb.trans z) (hN.trans z) (lb z) <| Ws <| Ra z <| Wn <| Wq <| Ws <| Ra z <| Wn ?_
 obtain ⟨u56, hu57, hm58⟩ := bdS hm
 refine WC_forN (σ := Unit) (ρ := Bool) (fun (k59 : Nat) (_ : Unit) a w => Sat 45 [(0, (Str.v x1)), (3, (vI ((k59 : Nat) : Int)))] a ∧ Below w0.heap.size w0 w) (fun (_ : Unit) a w => Sat 45 [(0, (Str.v x1))] a ∧ Below w0.heap.size w0 w) (fun r ex a w => ex = .ret ∧ RetPost Tryz.prog fn (Q_spec_IsName w0 B r) a w) hu57 ?_ ?_ ?_ ?_ ?_
 ·exact fun _ q => ⟨(q.weaken (s2 z z)), (br w0)⟩
 ·rintro k59 _ a60 w61 o62 hk63 ⟨hS64, s65⟩ hm66
  refine Wu (e := [(0, (Str.v x1)), (3, (vI ((k59 : Nat) : Int)))]) (N := 45) ?_ hS64
  refine Wq <| Ws <| Rm z <| Rm z <| R z (rd_lenT und_9 z) <| R z (lss z z) <| Wn <| Wc z (fun _ => ?_) (fun hc => (nolt hk63 hc).elim)
  refine Wk <| Wq <| WC_block <| Wq ?_
  obtain ⟨u112, hu113, hm114⟩ := bdS hm66
  refine WC_cut (fun a w => ∃ (x111 : Bool), x111 = u112 ∧ Sat 45 [(0, (Str.v x1)), (3, (vI ((k59 : Nat) : Int))), (4, (vB x111))] a ∧ Below w61.heap.size w61 w) ?_ ?_
  ·refine Wg <| Rm z <| Rm z ?_
   obtain ⟨x115, e116, hm117⟩ := bdS hu113
   refine R z (rd_indexStr und_9 z z (idxS e116).1 (idxS e116).2.1) <| R z (rd_geq z z) <| Rm z ?_
   rcases bsplit (decide ((byteI (97 : UInt8)) ≤ (byteI x115))) with hc118 | hc118
   ·refine Rh z hc118 (mv z) <| Rh z hc118 (mv z) ?_
    obtain ⟨x120, e121, hm122⟩ := bdS (ifT hm117 hc118)
    exact Rh z hc118 (rd_indexStr und_9 z z (idxS e121).1 (idxS e121).2.1) <| Rh z hc118 (rd_leq z z) <| R z (pT z hc118 z) <| Ra z <| Wl <| fun _ q => ⟨decide ((byteI x120) ≤ (byteI (122 : UInt8))), som hm122, (q.weaken (s3 z z z)), (br w61)⟩
   iterate 4 refine Nh z hc118 ?_
   exact R z (pF z hc118 z) <| Ra z <| Wl <| fun _ q => ⟨false, som (ifF hm117 hc118), (q.weaken (s3 z z z)), (br w61)⟩
  rintro a124 w125 ⟨x111, rfl, hS126, s127⟩
  revert a124
  refine Wo <| Wq ?_
  obtain ⟨u138, hu139, hm140⟩ := bdS hm114
  refine WC_cut (fun a w => ∃ (x137 : Bool), x137 = u138 ∧ Sat 45 [(0, (Str.v x1)), (3, (vI ((k59 : Nat) : Int))), (4, (vB x111)), (5, (vB x137))] a ∧ Below w125.heap.size w125 w) ?_ ?_
  ·refine Wg <| Rm z <| Rm z ?_
   obtain ⟨x141, e142, hm143⟩ := bdS hu139
   refine R z (rd_indexStr und_9 z z (idxS e142).1 (idxS e142).2.1) <| R z (rd_geq z z) <| Rm z ?_
   rcases bsplit (decide ((byteI (48 : UInt8)) ≤ (byteI x141))) with hc144 | hc144
   ·refine Rh z hc144 (mv z) <| Rh z hc144 (mv z) ?_
    obtain ⟨x146, e147, hm148⟩ := bdS (ifT hm143 hc144)
    exact Rh z hc144 (rd_indexStr und_9 z z (idxS e147).1 (idxS e147).2.1) <| Rh z hc144 (rd_leq z z) <| R z (pT z hc144 z) <| Ra z <| Wl <| fun _ q => ⟨decide ((byteI x146) ≤ (byteI (57 : UInt8))), som hm148, (q.weaken (s4 z z z z)), (br w125)⟩
   iterate 4 refine Nh z hc144 ?_
   exact R z (pF z hc144 z) <| Ra z <| Wl <| fun _ q => ⟨false, som (ifF hm143 hc144), (q.weaken (s4 z z z z)), (br w125)⟩
  rintro a150 w151 ⟨x137, rfl, hS152, s153⟩
  revert a150
  refine Wo <| Wq ?_
  obtain ⟨u161, hu162, hm163⟩ := bdS hm140
  refine WC_cut (fun a w => ∃ (x160 : Bool), x160 = u161 ∧ Sat 45 [(0, (Str.v x1)), (3, (vI ((k59 : Nat) : Int))), (41, (vB x160))] a ∧ Below w151.heap.size w151 w) ?_ ?_
  ·refine Wg <| Rm z <| R z (not_ z) <| Rm z ?_
   rcases bsplit (!x111) with hc164 | hc164
   ·have hm165 := ifT hu162 hc164
    refine Rh z hc164 (mv z) <| Rh z hc164 (not_ z) <| Rh z hc164 (mv z) ?_
    rcases bsplit (!x137) with hc166 | hc166
    ·exact Nh z hc166 <| Nh z hc166 <| Rh z hc164 (pT z hc166 z) <| R z (pT z hc164 z) <| Wl <| fun _ q => ⟨true, som (ifT hm165 hc166), (q.weaken (s3 z z z)), (br w151)⟩
    exact Rh z hc166 (mv z) <| Rh z hc166 (eql z z) <| Rh z hc164 (pF z hc166 z) <| R z (pT z hc164 z) <| Wl <| fun _ q => ⟨((k59 : Nat) : Int) == 0, som (ifF hm165 hc166), (q.weaken (s3 z z z)), (br w151)⟩
   iterate 3 refine Nh z hc164 ?_
   exact Nv z <| Nv z <| Nh z hc164 <| R z (pF z hc164 z) <| Wl <| fun _ q => ⟨false, som (ifF hu162 hc164), (q.weaken (s3 z z z)), (br w151)⟩
  rintro a170 w171 ⟨x160, rfl, hS172, s173⟩
  revert a170
  refine Wo <| Wc z (fun hc181 => ?_) (fun hc181 => ?_)
  ·exact Ws <| Ra z <| Wn <| Wr (rtO (QO_retL (som (ifT hm163 hc181)).symm (ret1 hr z ⟨(bup (bup (bup s65 s127) s153) s173), z⟩)))
  exact Wk <| Wg <| Rm z <| R z (inc_ hk63 (lt_ p1_0 LEN_le) z z) <| Ra z <| Wl <| fun _ q => ⟨(), (som (ifF hm163 hc181)).symm, ⟨(q.weaken (s2 z z)), (bup (bup (bup s65 s127) s153) s173)⟩⟩
 ·rintro _ a190 w191 ⟨hS192, s193⟩
  refine Wu (e := [(0, (Str.v x1)), (3, (vI ((x1.b.length : Nat) : Int)))]) (N := 45) ?_ hS192
  refine Wq <| Ws <| Rm z <| Rm z <| R z (rd_lenT und_9 z) <| R z (lss z z) <| Wn <| Wc z (fun hc => (noltt hc).elim) (fun _ => ?_)
  exact WC_exit (fun a' ha' => ⟨rfl, ⟨(Sat.weaken ha' (s1 z)), s193⟩⟩)
 ·rintro _ a194 w195 rfl ⟨hS196, s197⟩
  have hm198 := elL hm58
  revert a194
  refine Wo <| Ws <| Rm z <| R z (rd_lenT und_9 z) ?_
  obtain ⟨r200, e201, hm202⟩ := bdS hm198
  refine E z (fc Tryz.call67 z (W_spec_l1In (B := B) e201 (lt_ hBw s197.size) (inI_len p1_0) (ii z) (ii z))) ?_
  rintro _ w203 ⟨s204, rfl⟩
  refine Ra z <| Wn ?_
  obtain rfl := som hm202
  exact Wr (ret1 hr z ⟨(bup s197 s204), z⟩)
 rintro r206 ex207 a208 w209 rfl ⟨rfl, hq210⟩
 have hm211 := elR hm58
 obtain rfl := som hm211
 exact ⟨hq210, z⟩
def Q_spec_l4Shape (w0 : World) (B : Nat) (r : Bool) (v : Value) (w' : World) : Prop := Below w0.heap.size w0 w' ∧ (fun r1 => (vB r1) = v) r
theorem W_spec_l4Shape {x1 : Rule} {x2 : Bool} {x3 : Bool} {x4 : Bool} {x5 : Bool} {x6 : Int} {res : Bool} (hm : M_spec_l4Shape x1 x2 x3 x4 x5 x6 = some res) (hBw : B ≤ w0.heap.size) (p1_0 : x1.name.b.length ≤ LEN) (p1_1 : inI x1.kind) (p1_2 : inI x1.size) (p1_4 : repS w0 B (.slice pa1_4 pn1_4 pc1_4) x1.bytes) (p1_5 : repS w0 B (.slice pa1_5 pn1_5 pc1_5) x1.names) (p1_6 : repS w0 B (.slice pa1_6 pn1_6 pc1_6) x1.tags) (p1_7 : repS w0 B (.slice pa1_7 pn1_7 pc1_7) x1.kids) (p6_0 : inI x6) : CallsR Tryz.prog 131 [(.agg #[(Str.v x1.name), (vI x1.kind), (vI x1.size), (vB x1.little), (.slice pa1_4 pn1_4 pc1_4), (.slice pa1_5 pn1_5 pc1_5), (.slice pa1_6 pn1_6 pc1_6), (.slice pa1_7 pn1_7 pc1_7)]), (vB x2), (vB x3), (vB x4), (vB x5), (vI x6)] w0 (Q_spec_l4Shape w0 B res) := by
 unfold M_spec_l4Shape at hm
 obtain ⟨fn, hf, hb, hN, hr⟩ := fnE Tryz.func131
 refine goW hf (hb.trans z) (hN.trans z) (lb z) <| Ws <| E z (fb z) ?_
 rintro _ w21 ⟨rfl, h22⟩
 have h23 := h22.below
 have h24 : Blk w21 w0.heap.size [(Str.v x1.name), (vI x1.kind), (vI x1.size), (vB x1.little), (.slice pa1_4 pn1_4 pc1_4), (.slice pa1_5 pn1_5 pc1_5), (.slice pa1_6 pn1_6 pc1_6), (.slice pa1_7 pn1_7 pc1_7)] := h22.blk
 refine Ra z <| Wn <| Wq ?_
 obtain ⟨u338, hu339, hm340⟩ := bdS hm
 refine WC_cut (fun a w => ∃ (x337 : Bool), x337 = u338 ∧ Sat 67 [(12, (vB x337))] a ∧ Below w21.heap.size w21 w) ?_ ?_
 ·refine Wg <| Rm z <| Rm z ?_
  rcases bsplit x2 with hc341 | hc341
  ·have hm342 := ifT hu339 hc341
   iterate 3 refine Nh z hc341 ?_
   refine R z (pT z hc341 z) <| Rm z <| Rh z z (mv z) <| Rh z z (mv z) ?_
   rcases bsplit x3 with hc343 | hc343
   ·have hm344 := ifT hm342 hc343
    iterate 4 refine Nh z hc343 ?_
    refine Rh z z (pT z hc343 z) <| R z (pT z z z) <| Rm z <| Rh z z (mv z) <| Rh z z (mv z) ?_
    rcases bsplit x4 with hc345 | hc345
    ·have hm346 := ifT hm344 hc345
     iterate 4 refine Nh z hc345 ?_
     refine Rh z z (pT z hc345 z) <| R z (pT z z z) <| Rm z <| Rh z z (mv z) <| Rh z z (mv z) ?_
     rcases bsplit x5 with hc347 | hc347
     ·have hm348 := ifT hm346 hc347
      iterate 4 refine Nh z hc347 ?_
      refine Rh z z (pT z hc347 z) <| R z (pT z z z) <| Rm z <| Rh z z (mv z) <| Rh z z (lss z z) <| Rh z z (mv z) ?_
      rcases bsplit (decide (x6 < 0)) with hc349 | hc349
      ·have hm350 := ifT hm348 hc349
       iterate 5 refine Nh z hc349 ?_
       refine Rh z z (pT z hc349 z) <| R z (pT z z z) <| Rm z <| Rh z z (fd fld_82_3 z) <| Rh z z (l1 agg_4 z fid (h24.at z)) <| Rh z z (not_ z) <| Rh z z (mv z) ?_
       rcases bsplit (!x1.little) with hc351 | hc351
       ·iterate 3 refine Nh z hc351 ?_
        exact Rh z z (pT z hc351 z) <| R z (pT z z z) <| Ra z <| Wl <| fun _ q => ⟨true, som (ifT hm350 hc351), (q.weaken (s1 z)), (br w21)⟩
       exact Rh z hc351 (fd fld_82_1 z) <| Rh z hc351 (l1 agg_3 z fid (h24.at z)) <| Rh z hc351 (eql z z) <| Rh z z (pF z hc351 z) <| R z (pT z z z) <| Ra z <| Wl <| fun _ q => ⟨x1.kind == 1, som (ifF hm350 hc351), (q.weaken (s1 z)), (br w21)⟩
      have hm354 := ifF hm348 hc349
      refine Rh z hc349 (fd fld_82_7 z) <| Rh z hc349 (l1 agg_73 z fid (h24.at z)) <| Rh z hc349 (lnR und_73 z (p1_7.ext h23)) <| Rh z hc349 (mv z) <| Rh z hc349 (eql z z) <| Rh z z (pF z hc349 z) <| R z (pT z z z) <| Rm z ?_
      rcases bsplit ((x1.kids.length : Int) == x6) with hc356 | hc356
      ·have hm357 := ifT hm354 hc356
       refine Rh z hc356 (fd fld_82_3 z) <| Rh z hc356 (l1 agg_4 z fid (h24.at z)) <| Rh z hc356 (not_ z) <| Rh z hc356 (mv z) ?_
       rcases bsplit (!x1.little) with hc358 | hc358
       ·iterate 3 refine Nh z hc358 ?_
        exact Rh z hc356 (pT z hc358 z) <| R z (pT z hc356 z) <| Ra z <| Wl <| fun _ q => ⟨true, som (ifT hm357 hc358), (q.weaken (s1 z)), (br w21)⟩
       exact Rh z hc358 (fd fld_82_1 z) <| Rh z hc358 (l1 agg_3 z fid (h24.at z)) <| Rh z hc358 (eql z z) <| Rh z hc356 (pF z hc358 z) <| R z (pT z hc356 z) <| Ra z <| Wl <| fun _ q => ⟨x1.kind == 1, som (ifF hm357 hc358), (q.weaken (s1 z)), (br w21)⟩
      iterate 4 refine Nh z hc356 ?_
      exact Nv z <| Nv z <| Nv z <| Nh z hc356 <| R z (pF z hc356 z) <| Ra z <| Wl <| fun _ q => ⟨false, som (ifF hm354 hc356), (q.weaken (s1 z)), (br w21)⟩
     have hm362 := ifF hm346 hc347
     refine Rh z hc347 (fd fld_82_6 z) <| Rh z hc347 (l1 agg_73 z fid (h24.at z)) <| Rh z hc347 (lnR und_73 z (p1_6.ext h23)) <| Rh z hc347 (eql z z) <| Rh z z (pF z hc347 z) <| R z (pT z z z) <| Rm z ?_
     rcases bsplit ((x1.tags.length : Int) == 0) with hc364 | hc364
     ·have hm365 := ifT hm362 hc364
      refine Rh z hc364 (mv z) <| Rh z hc364 (lss z z) <| Rh z hc364 (mv z) ?_
      rcases bsplit (decide (x6 < 0)) with hc366 | hc366
      ·have hm367 := ifT hm365 hc366
       iterate 5 refine Nh z hc366 ?_
       refine Rh z hc364 (pT z hc366 z) <| R z (pT z hc364 z) <| Rm z <| Rh z z (fd fld_82_3 z) <| Rh z z (l1 agg_4 z fid (h24.at z)) <| Rh z z (not_ z) <| Rh z z (mv z) ?_
       rcases bsplit (!x1.little) with hc368 | hc368
       ·iterate 3 refine Nh z hc368 ?_
        exact Rh z z (pT z hc368 z) <| R z (pT z z z) <| Ra z <| Wl <| fun _ q => ⟨true, som (ifT hm367 hc368), (q.weaken (s1 z)), (br w21)⟩
       exact Rh z hc368 (fd fld_82_1 z) <| Rh z hc368 (l1 agg_3 z fid (h24.at z)) <| Rh z hc368 (eql z z) <| Rh z z (pF z hc368 z) <| R z (pT z z z) <| Ra z <| Wl <| fun _ q => ⟨x1.kind == 1, som (ifF hm367 hc368), (q.weaken (s1 z)), (br w21)⟩
      have hm371 := ifF hm365 hc366
      refine Rh z hc366 (fd fld_82_7 z) <| Rh z hc366 (l1 agg_73 z fid (h24.at z)) <| Rh z hc366 (lnR und_73 z (p1_7.ext h23)) <| Rh z hc366 (mv z) <| Rh z hc366 (eql z z) <| Rh z hc364 (pF z hc366 z) <| R z (pT z hc364 z) <| Rm z ?_
      rcases bsplit ((x1.kids.length : Int) == x6) with hc373 | hc373
      ·have hm374 := ifT hm371 hc373
       refine Rh z hc373 (fd fld_82_3 z) <| Rh z hc373 (l1 agg_4 z fid (h24.at z)) <| Rh z hc373 (not_ z) <| Rh z hc373 (mv z) ?_
       rcases bsplit (!x1.little) with hc375 | hc375
       ·iterate 3 refine Nh z hc375 ?_
        exact Rh z hc373 (pT z hc375 z) <| R z (pT z hc373 z) <| Ra z <| Wl <| fun _ q => ⟨true, som (ifT hm374 hc375), (q.weaken (s1 z)), (br w21)⟩
       exact Rh z hc375 (fd fld_82_1 z) <| Rh z hc375 (l1 agg_3 z fid (h24.at z)) <| Rh z hc375 (eql z z) <| Rh z hc373 (pF z hc375 z) <| R z (pT z hc373 z) <| Ra z <| Wl <| fun _ q => ⟨x1.kind == 1, som (ifF hm374 hc375), (q.weaken (s1 z)), (br w21)⟩
      iterate 4 refine Nh z hc373 ?_
      exact Nv z <| Nv z <| Nv z <| Nh z hc373 <| R z (pF z hc373 z) <| Ra z <| Wl <| fun _ q => ⟨false, som (ifF hm371 hc373), (q.weaken (s1 z)), (br w21)⟩
     iterate 3 refine Nh z hc364 ?_
     refine Nv z <| Nv z <| Nv z <| Nv z <| Nv z <| Nh z hc364 <| R z (pF z hc364 z) <| Rm z <| Nh z z <| Nh z z <| Nh z z <| Nh z z <| Nv z <| Nv z <| Nv z ?_
     exact Nh z z <| R z (pF z z z) <| Ra z <| Wl <| fun _ q => ⟨false, som (ifF hm362 hc364), (q.weaken (s1 z)), (br w21)⟩
    have hm380 := ifF hm344 hc345
    refine Rh z hc345 (fd fld_82_5 z) <| Rh z hc345 (l1 agg_72 z fid (h24.at z)) <| Rh z hc345 (lnR und_72 z (p1_5.ext h23)) <| Rh z hc345 (eql z z) <| Rh z z (pF z hc345 z) <| R z (pT z z z) <| Rm z ?_
    rcases bsplit ((x1.names.length : Int) == 0) with hc382 | hc382
    ·have hm383 := ifT hm380 hc382
     refine Rh z hc382 (mv z) <| Rh z hc382 (mv z) ?_
     rcases bsplit x5 with hc384 | hc384
     ·have hm385 := ifT hm383 hc384
      iterate 4 refine Nh z hc384 ?_
      refine Rh z hc382 (pT z hc384 z) <| R z (pT z hc382 z) <| Rm z <| Rh z z (mv z) <| Rh z z (lss z z) <| Rh z z (mv z) ?_
      rcases bsplit (decide (x6 < 0)) with hc386 | hc386
      ·have hm387 := ifT hm385 hc386
       iterate 5 refine Nh z hc386 ?_
       refine Rh z z (pT z hc386 z) <| R z (pT z z z) <| Rm z <| Rh z z (fd fld_82_3 z) <| Rh z z (l1 agg_4 z fid (h24.at z)) <| Rh z z (not_ z) <| Rh z z (mv z) ?_
       rcases bsplit (!x1.little) with hc388 | hc388
       ·iterate 3 refine Nh z hc388 ?_
        exact Rh z z (pT z hc388 z) <| R z (pT z z z) <| Ra z <| Wl <| fun _ q => ⟨true, som (ifT hm387 hc388), (q.weaken (s1 z)), (br w21)⟩
       exact Rh z hc388 (fd fld_82_1 z) <| Rh z hc388 (l1 agg_3 z fid (h24.at z)) <| Rh z hc388 (eql z z) <| Rh z z (pF z hc388 z) <| R z (pT z z z) <| Ra z <| Wl <| fun _ q => ⟨x1.kind == 1, som (ifF hm387 hc388), (q.weaken (s1 z)), (br w21)⟩
      have hm391 := ifF hm385 hc386
      refine Rh z hc386 (fd fld_82_7 z) <| Rh z hc386 (l1 agg_73 z fid (h24.at z)) <| Rh z hc386 (lnR und_73 z (p1_7.ext h23)) <| Rh z hc386 (mv z) <| Rh z hc386 (eql z z) <| Rh z z (pF z hc386 z) <| R z (pT z z z) <| Rm z ?_
      rcases bsplit ((x1.kids.length : Int) == x6) with hc393 | hc393
      ·have hm394 := ifT hm391 hc393
       refine Rh z hc393 (fd fld_82_3 z) <| Rh z hc393 (l1 agg_4 z fid (h24.at z)) <| Rh z hc393 (not_ z) <| Rh z hc393 (mv z) ?_
       rcases bsplit (!x1.little) with hc395 | hc395
       ·iterate 3 refine Nh z hc395 ?_
        exact Rh z hc393 (pT z hc395 z) <| R z (pT z hc393 z) <| Ra z <| Wl <| fun _ q => ⟨true, som (ifT hm394 hc395), (q.weaken (s1 z)), (br w21)⟩
       exact Rh z hc395 (fd fld_82_1 z) <| Rh z hc395 (l1 agg_3 z fid (h24.at z)) <| Rh z hc395 (eql z z) <| Rh z hc393 (pF z hc395 z) <| R z (pT z hc393 z) <| Ra z <| Wl <| fun _ q => ⟨x1.kind == 1, som (ifF hm394 hc395), (q.weaken (s1 z)), (br w21)⟩
      iterate 4 refine Nh z hc393 ?_
      exact Nv z <| Nv z <| Nv z <| Nh z hc393 <| R z (pF z hc393 z) <| Ra z <| Wl <| fun _ q => ⟨false, som (ifF hm391 hc393), (q.weaken (s1 z)), (br w21)⟩
     have hm399 := ifF hm383 hc384
     refine Rh z hc384 (fd fld_82_6 z) <| Rh z hc384 (l1 agg_73 z fid (h24.at z)) <| Rh z hc384 (lnR und_73 z (p1_6.ext h23)) <| Rh z hc384 (eql z z) <| Rh z hc382 (pF z hc384 z) <| R z (pT z hc382 z) <| Rm z ?_
     rcases bsplit ((x1.tags.length : Int) == 0) with hc401 | hc401
     ·have hm402 := ifT hm399 hc401
      refine Rh z hc401 (mv z) <| Rh z hc401 (lss z z) <| Rh z hc401 (mv z) ?_
      rcases bsplit (decide (x6 < 0)) with hc403 | hc403
      ·have hm404 := ifT hm402 hc403
       iterate 5 refine Nh z hc403 ?_
       refine Rh z hc401 (pT z hc403 z) <| R z (pT z hc401 z) <| Rm z <| Rh z z (fd fld_82_3 z) <| Rh z z (l1 agg_4 z fid (h24.at z)) <| Rh z z (not_ z) <| Rh z z (mv z) ?_
       rcases bsplit (!x1.little) with hc405 | hc405
       ·iterate 3 refine Nh z hc405 ?_
        exact Rh z z (pT z hc405 z) <| R z (pT z z z) <| Ra z <| Wl <| fun _ q => ⟨true, som (ifT hm404 hc405), (q.weaken (s1 z)), (br w21)⟩
       exact Rh z hc405 (fd fld_82_1 z) <| Rh z hc405 (l1 agg_3 z fid (h24.at z)) <| Rh z hc405 (eql z z) <| Rh z z (pF z hc405 z) <| R z (pT z z z) <| Ra z <| Wl <| fun _ q => ⟨x1.kind == 1, som (ifF hm404 hc405), (q.weaken (s1 z)), (br w21)⟩
      have hm408 := ifF hm402 hc403
      refine Rh z hc403 (fd fld_82_7 z) <| Rh z hc403 (l1 agg_73 z fid (h24.at z)) <| Rh z hc403 (lnR und_73 z (p1_7.ext h23)) <| Rh z hc403 (mv z) <| Rh z hc403 (eql z z) <| Rh z hc401 (pF z hc403 z) <| R z (pT z hc401 z) <| Rm z ?_
      rcases bsplit ((x1.kids.length : Int) == x6) with hc410 | hc410
      ·have hm411 := ifT hm408 hc410
       refine Rh z hc410 (fd fld_82_3 z) <| Rh z hc410 (l1 agg_4 z fid (h24.at z)) <| Rh z hc410 (not_ z) <| Rh z hc410 (mv z) ?_
       rcases bsplit (!x1.little) with hc412 | hc412
       ·iterate 3 refine Nh z hc412 ?_
        exact Rh z hc410 (pT z hc412 z) <| R z (pT z hc410 z) <| Ra z <| Wl <| fun _ q => ⟨true, som (ifT hm411 hc412), (q.weaken (s1 z)), (br w21)⟩
       exact Rh z hc412 (fd fld_82_1 z) <| Rh z hc412 (l1 agg_3 z fid (h24.at z)) <| Rh z hc412 (eql z z) <| Rh z hc410 (pF z hc412 z) <| R z (pT z hc410 z) <| Ra z <| Wl <| fun _ q => ⟨x1.kind == 1, som (ifF hm411 hc412), (q.weaken (s1 z)), (br w21)⟩
      iterate 4 refine Nh z hc410 ?_
      exact Nv z <| Nv z <| Nv z <| Nh z hc410 <| R z (pF z hc410 z) <| Ra z <| Wl <| fun _ q => ⟨false, som (ifF hm408 hc410), (q.weaken (s1 z)), (br w21)⟩
     iterate 3 refine Nh z hc401 ?_
     refine Nv z <| Nv z <| Nv z <| Nv z <| Nv z <| Nh z hc401 <| R z (pF z hc401 z) <| Rm z <| Nh z z <| Nh z z <| Nh z z <| Nh z z <| Nv z <| Nv z <| Nv z ?_
     exact Nh z z <| R z (pF z z z) <| Ra z <| Wl <| fun _ q => ⟨false, som (ifF hm399 hc401), (q.weaken (s1 z)), (br w21)⟩
    refine Nh z hc382 <| Nh z hc382 <| Nv z <| Nv z <| Nv z <| Nv z <| Nh z hc382 <| R z (pF z hc382 z) <| Rm z <| Nh z z <| Nh z z <| Nh z z <| Nv z <| Nv z <| Nv z ?_
    refine Nv z <| Nv z <| Nh z z <| R z (pF z z z) <| Rm z <| Nh z z <| Nh z z <| Nh z z <| Nh z z <| Nv z <| Nv z <| Nv z <| Nh z z <| R z (pF z z z) <| Ra z ?_
    exact Wl <| fun _ q => ⟨false, som (ifF hm380 hc382), (q.weaken (s1 z)), (br w21)⟩
   have hm418 := ifF hm342 hc343
   refine Rh z hc343 (fd fld_82_4 z) <| Rh z hc343 (l1 agg_25 z fid (h24.at z)) <| Rh z hc343 (lnR und_25 z (p1_4.ext h23)) <| Rh z hc343 (eql z z) <| Rh z z (pF z hc343 z) <| R z (pT z z z) <| Rm z ?_
   rcases bsplit ((x1.bytes.length : Int) == 0) with hc420 | hc420
   ·have hm421 := ifT hm418 hc420
    refine Rh z hc420 (mv z) <| Rh z hc420 (mv z) ?_
    rcases bsplit x4 with hc422 | hc422
    ·have hm423 := ifT hm421 hc422
     iterate 4 refine Nh z hc422 ?_
     refine Rh z hc420 (pT z hc422 z) <| R z (pT z hc420 z) <| Rm z <| Rh z z (mv z) <| Rh z z (mv z) ?_
     rcases bsplit x5 with hc424 | hc424
     ·have hm425 := ifT hm423 hc424
      iterate 4 refine Nh z hc424 ?_
      refine Rh z z (pT z hc424 z) <| R z (pT z z z) <| Rm z <| Rh z z (mv z) <| Rh z z (lss z z) <| Rh z z (mv z) ?_
      rcases bsplit (decide (x6 < 0)) with hc426 | hc426
      ·have hm427 := ifT hm425 hc426
       iterate 5 refine Nh z hc426 ?_
       refine Rh z z (pT z hc426 z) <| R z (pT z z z) <| Rm z <| Rh z z (fd fld_82_3 z) <| Rh z z (l1 agg_4 z fid (h24.at z)) <| Rh z z (not_ z) <| Rh z z (mv z) ?_
       rcases bsplit (!x1.little) with hc428 | hc428
       ·iterate 3 refine Nh z hc428 ?_
        exact Rh z z (pT z hc428 z) <| R z (pT z z z) <| Ra z <| Wl <| fun _ q => ⟨true, som (ifT hm427 hc428), (q.weaken (s1 z)), (br w21)⟩
       exact Rh z hc428 (fd fld_82_1 z) <| Rh z hc428 (l1 agg_3 z fid (h24.at z)) <| Rh z hc428 (eql z z) <| Rh z z (pF z hc428 z) <| R z (pT z z z) <| Ra z <| Wl <| fun _ q => ⟨x1.kind == 1, som (ifF hm427 hc428), (q.weaken (s1 z)), (br w21)⟩
      have hm431 := ifF hm425 hc426
      refine Rh z hc426 (fd fld_82_7 z) <| Rh z hc426 (l1 agg_73 z fid (h24.at z)) <| Rh z hc426 (lnR und_73 z (p1_7.ext h23)) <| Rh z hc426 (mv z) <| Rh z hc426 (eql z z) <| Rh z z (pF z hc426 z) <| R z (pT z z z) <| Rm z ?_
      rcases bsplit ((x1.kids.length : Int) == x6) with hc433 | hc433
      ·have hm434 := ifT hm431 hc433
       refine Rh z hc433 (fd fld_82_3 z) <| Rh z hc433 (l1 agg_4 z fid (h24.at z)) <| Rh z hc433 (not_ z) <| Rh z hc433 (mv z) ?_
       rcases bsplit (!x1.little) with hc435 | hc435
       ·iterate 3 refine Nh z hc435 ?_
        exact Rh z hc433 (pT z hc435 z) <| R z (pT z hc433 z) <| Ra z <| Wl <| fun _ q => ⟨true, som (ifT hm434 hc435), (q.weaken (s1 z)), (br w21)⟩
       exact Rh z hc435 (fd fld_82_1 z) <| Rh z hc435 (l1 agg_3 z fid (h24.at z)) <| Rh z hc435 (eql z z) <| Rh z hc433 (pF z hc435 z) <| R z (pT z hc433 z) <| Ra z <| Wl <| fun _ q => ⟨x1.kind == 1, som (ifF hm434 hc435), (q.weaken (s1 z)), (br w21)⟩
      iterate 4 refine Nh z hc433 ?_
      exact Nv z <| Nv z <| Nv z <| Nh z hc433 <| R z (pF z hc433 z) <| Ra z <| Wl <| fun _ q => ⟨false, som (ifF hm431 hc433), (q.weaken (s1 z)), (br w21)⟩
     have hm439 := ifF hm423 hc424
     refine Rh z hc424 (fd fld_82_6 z) <| Rh z hc424 (l1 agg_73 z fid (h24.at z)) <| Rh z hc424 (lnR und_73 z (p1_6.ext h23)) <| Rh z hc424 (eql z z) <| Rh z z (pF z hc424 z) <| R z (pT z z z) <| Rm z ?_
     rcases bsplit ((x1.tags.length : Int) == 0) with hc441 | hc441
     ·have hm442 := ifT hm439 hc441
      refine Rh z hc441 (mv z) <| Rh z hc441 (lss z z) <| Rh z hc441 (mv z) ?_
      rcases bsplit (decide (x6 < 0)) with hc443 | hc443
      ·have hm444 := ifT hm442 hc443
       iterate 5 refine Nh z hc443 ?_
       refine Rh z hc441 (pT z hc443 z) <| R z (pT z hc441 z) <| Rm z <| Rh z z (fd fld_82_3 z) <| Rh z z (l1 agg_4 z fid (h24.at z)) <| Rh z z (not_ z) <| Rh z z (mv z) ?_
       rcases bsplit (!x1.little) with hc445 | hc445
       ·iterate 3 refine Nh z hc445 ?_
        exact Rh z z (pT z hc445 z) <| R z (pT z z z) <| Ra z <| Wl <| fun _ q => ⟨true, som (ifT hm444 hc445), (q.weaken (s1 z)), (br w21)⟩
       exact Rh z hc445 (fd fld_82_1 z) <| Rh z hc445 (l1 agg_3 z fid (h24.at z)) <| Rh z hc445 (eql z z) <| Rh z z (pF z hc445 z) <| R z (pT z z z) <| Ra z <| Wl <| fun _ q => ⟨x1.kind == 1, som (ifF hm444 hc445), (q.weaken (s1 z)), (br w21)⟩
      have hm448 := ifF hm442 hc443
      refine Rh z hc443 (fd fld_82_7 z) <| Rh z hc443 (l1 agg_73 z fid (h24.at z)) <| Rh z hc443 (lnR und_73 z (p1_7.ext h23)) <| Rh z hc443 (mv z) <| Rh z hc443 (eql z z) <| Rh z hc441 (pF z hc443 z) <| R z (pT z hc441 z) <| Rm z ?_
      rcases bsplit ((x1.kids.length : Int) == x6) with hc450 | hc450
      ·have hm451 := ifT hm448 hc450
       refine Rh z hc450 (fd fld_82_3 z) <| Rh z hc450 (l1 agg_4 z fid (h24.at z)) <| Rh z hc450 (not_ z) <| Rh z hc450 (mv z) ?_
       rcases bsplit (!x1.little) with hc452 | hc452
       ·iterate 3 refine Nh z hc452 ?_
        exact Rh z hc450 (pT z hc452 z) <| R z (pT z hc450 z) <| Ra z <| Wl <| fun _ q => ⟨true, som (ifT hm451 hc452), (q.weaken (s1 z)), (br w21)⟩
       exact Rh z hc452 (fd fld_82_1 z) <| Rh z hc452 (l1 agg_3 z fid (h24.at z)) <| Rh z hc452 (eql z z) <| Rh z hc450 (pF z hc452 z) <| R z (pT z hc450 z) <| Ra z <| Wl <| fun _ q => ⟨x1.kind == 1, som (ifF hm451 hc452), (q.weaken (s1 z)), (br w21)⟩
      iterate 4 refine Nh z hc450 ?_
      exact Nv z <| Nv z <| Nv z <| Nh z hc450 <| R z (pF z hc450 z) <| Ra z <| Wl <| fun _ q => ⟨false, som (ifF hm448 hc450), (q.weaken (s1 z)), (br w21)⟩
     iterate 3 refine Nh z hc441 ?_
     refine Nv z <| Nv z <| Nv z <| Nv z <| Nv z <| Nh z hc441 <| R z (pF z hc441 z) <| Rm z <| Nh z z <| Nh z z <| Nh z z <| Nh z z <| Nv z <| Nv z <| Nv z ?_
     exact Nh z z <| R z (pF z z z) <| Ra z <| Wl <| fun _ q => ⟨false, som (ifF hm439 hc441), (q.weaken (s1 z)), (br w21)⟩
    have hm457 := ifF hm421 hc422
    refine Rh z hc422 (fd fld_82_5 z) <| Rh z hc422 (l1 agg_72 z fid (h24.at z)) <| Rh z hc422 (lnR und_72 z (p1_5.ext h23)) <| Rh z hc422 (eql z z) <| Rh z hc420 (pF z hc422 z) <| R z (pT z hc420 z) <| Rm z ?_
    rcases bsplit ((x1.names.length : Int) == 0) with hc459 | hc459
    ·have hm460 := ifT hm457 hc459
     refine Rh z hc459 (mv z) <| Rh z hc459 (mv z) ?_
     rcases bsplit x5 with hc461 | hc461
     ·have hm462 := ifT hm460 hc461
      iterate 4 refine Nh z hc461 ?_
      refine Rh z hc459 (pT z hc461 z) <| R z (pT z hc459 z) <| Rm z <| Rh z z (mv z) <| Rh z z (lss z z) <| Rh z z (mv z) ?_
      rcases bsplit (decide (x6 < 0)) with hc463 | hc463
      ·have hm464 := ifT hm462 hc463
       iterate 5 refine Nh z hc463 ?_
       refine Rh z z (pT z hc463 z) <| R z (pT z z z) <| Rm z <| Rh z z (fd fld_82_3 z) <| Rh z z (l1 agg_4 z fid (h24.at z)) <| Rh z z (not_ z) <| Rh z z (mv z) ?_
       rcases bsplit (!x1.little) with hc465 | hc465
       ·iterate 3 refine Nh z hc465 ?_
        exact Rh z z (pT z hc465 z) <| R z (pT z z z) <| Ra z <| Wl <| fun _ q => ⟨true, som (ifT hm464 hc465), (q.weaken (s1 z)), (br w21)⟩
       exact Rh z hc465 (fd fld_82_1 z) <| Rh z hc465 (l1 agg_3 z fid (h24.at z)) <| Rh z hc465 (eql z z) <| Rh z z (pF z hc465 z) <| R z (pT z z z) <| Ra z <| Wl <| fun _ q => ⟨x1.kind == 1, som (ifF hm464 hc465), (q.weaken (s1 z)), (br w21)⟩
      have hm468 := ifF hm462 hc463
      refine Rh z hc463 (fd fld_82_7 z) <| Rh z hc463 (l1 agg_73 z fid (h24.at z)) <| Rh z hc463 (lnR und_73 z (p1_7.ext h23)) <| Rh z hc463 (mv z) <| Rh z hc463 (eql z z) <| Rh z z (pF z hc463 z) <| R z (pT z z z) <| Rm z ?_
      rcases bsplit ((x1.kids.length : Int) == x6) with hc470 | hc470
      ·have hm471 := ifT hm468 hc470
       refine Rh z hc470 (fd fld_82_3 z) <| Rh z hc470 (l1 agg_4 z fid (h24.at z)) <| Rh z hc470 (not_ z) <| Rh z hc470 (mv z) ?_
       rcases bsplit (!x1.little) with hc472 | hc472
       ·iterate 3 refine Nh z hc472 ?_
        exact Rh z hc470 (pT z hc472 z) <| R z (pT z hc470 z) <| Ra z <| Wl <| fun _ q => ⟨true, som (ifT hm471 hc472), (q.weaken (s1 z)), (br w21)⟩
       exact Rh z hc472 (fd fld_82_1 z) <| Rh z hc472 (l1 agg_3 z fid (h24.at z)) <| Rh z hc472 (eql z z) <| Rh z hc470 (pF z hc472 z) <| R z (pT z hc470 z) <| Ra z <| Wl <| fun _ q => ⟨x1.kind == 1, som (ifF hm471 hc472), (q.weaken (s1 z)), (br w21)⟩
      iterate 4 refine Nh z hc470 ?_
      exact Nv z <| Nv z <| Nv z <| Nh z hc470 <| R z (pF z hc470 z) <| Ra z <| Wl <| fun _ q => ⟨false, som (ifF hm468 hc470), (q.weaken (s1 z)), (br w21)⟩
     have hm476 := ifF hm460 hc461
     refine Rh z hc461 (fd fld_82_6 z) <| Rh z hc461 (l1 agg_73 z fid (h24.at z)) <| Rh z hc461 (lnR und_73 z (p1_6.ext h23)) <| Rh z hc461 (eql z z) <| Rh z hc459 (pF z hc461 z) <| R z (pT z hc459 z) <| Rm z ?_
     rcases bsplit ((x1.tags.length : Int) == 0) with hc478 | hc478
     ·have hm479 := ifT hm476 hc478
      refine Rh z hc478 (mv z) <| Rh z hc478 (lss z z) <| Rh z hc478 (mv z) ?_
      rcases bsplit (decide (x6 < 0)) with hc480 | hc480
      ·have hm481 := ifT hm479 hc480
       iterate 5 refine Nh z hc480 ?_
       refine Rh z hc478 (pT z hc480 z) <| R z (pT z hc478 z) <| Rm z <| Rh z z (fd fld_82_3 z) <| Rh z z (l1 agg_4 z fid (h24.at z)) <| Rh z z (not_ z) <| Rh z z (mv z) ?_
       rcases bsplit (!x1.little) with hc482 | hc482
       ·iterate 3 refine Nh z hc482 ?_
        exact Rh z z (pT z hc482 z) <| R z (pT z z z) <| Ra z <| Wl <| fun _ q => ⟨true, som (ifT hm481 hc482), (q.weaken (s1 z)), (br w21)⟩
       exact Rh z hc482 (fd fld_82_1 z) <| Rh z hc482 (l1 agg_3 z fid (h24.at z)) <| Rh z hc482 (eql z z) <| Rh z z (pF z hc482 z) <| R z (pT z z z) <| Ra z <| Wl <| fun _ q => ⟨x1.kind == 1, som (ifF hm481 hc482), (q.weaken (s1 z)), (br w21)⟩
      have hm485 := ifF hm479 hc480
      refine Rh z hc480 (fd fld_82_7 z) <| Rh z hc480 (l1 agg_73 z fid (h24.at z)) <| Rh z hc480 (lnR und_73 z (p1_7.ext h23)) <| Rh z hc480 (mv z) <| Rh z hc480 (eql z z) <| Rh z hc478 (pF z hc480 z) <| R z (pT z hc478 z) <| Rm z ?_
      rcases bsplit ((x1.kids.length : Int) == x6) with hc487 | hc487
      ·have hm488 := ifT hm485 hc487
       refine Rh z hc487 (fd fld_82_3 z) <| Rh z hc487 (l1 agg_4 z fid (h24.at z)) <| Rh z hc487 (not_ z) <| Rh z hc487 (mv z) ?_
       rcases bsplit (!x1.little) with hc489 | hc489
       ·iterate 3 refine Nh z hc489 ?_
        exact Rh z hc487 (pT z hc489 z) <| R z (pT z hc487 z) <| Ra z <| Wl <| fun _ q => ⟨true, som (ifT hm488 hc489), (q.weaken (s1 z)), (br w21)⟩
       exact Rh z hc489 (fd fld_82_1 z) <| Rh z hc489 (l1 agg_3 z fid (h24.at z)) <| Rh z hc489 (eql z z) <| Rh z hc487 (pF z hc489 z) <| R z (pT z hc487 z) <| Ra z <| Wl <| fun _ q => ⟨x1.kind == 1, som (ifF hm488 hc489), (q.weaken (s1 z)), (br w21)⟩
      iterate 4 refine Nh z hc487 ?_
      exact Nv z <| Nv z <| Nv z <| Nh z hc487 <| R z (pF z hc487 z) <| Ra z <| Wl <| fun _ q => ⟨false, som (ifF hm485 hc487), (q.weaken (s1 z)), (br w21)⟩
     iterate 3 refine Nh z hc478 ?_
     refine Nv z <| Nv z <| Nv z <| Nv z <| Nv z <| Nh z hc478 <| R z (pF z hc478 z) <| Rm z <| Nh z z <| Nh z z <| Nh z z <| Nh z z <| Nv z <| Nv z <| Nv z ?_
     exact Nh z z <| R z (pF z z z) <| Ra z <| Wl <| fun _ q => ⟨false, som (ifF hm476 hc478), (q.weaken (s1 z)), (br w21)⟩
    refine Nh z hc459 <| Nh z hc459 <| Nv z <| Nv z <| Nv z <| Nv z <| Nh z hc459 <| R z (pF z hc459 z) <| Rm z <| Nh z z <| Nh z z <| Nh z z <| Nv z <| Nv z <| Nv z ?_
    refine Nv z <| Nv z <| Nh z z <| R z (pF z z z) <| Rm z <| Nh z z <| Nh z z <| Nh z z <| Nh z z <| Nv z <| Nv z <| Nv z <| Nh z z <| R z (pF z z z) <| Ra z ?_
    exact Wl <| fun _ q => ⟨false, som (ifF hm457 hc459), (q.weaken (s1 z)), (br w21)⟩
   refine Nh z hc420 <| Nh z hc420 <| Nv z <| Nv z <| Nv z <| Nv z <| Nh z hc420 <| R z (pF z hc420 z) <| Rm z <| Nh z z <| Nh z z <| Nv z <| Nv z <| Nv z <| Nv z ?_
   refine Nh z z <| R z (pF z z z) <| Rm z <| Nh z z <| Nh z z <| Nh z z <| Nv z <| Nv z <| Nv z <| Nv z <| Nv z <| Nh z z <| R z (pF z z z) <| Rm z <| Nh z z ?_
   exact Nh z z <| Nh z z <| Nh z z <| Nv z <| Nv z <| Nv z <| Nh z z <| R z (pF z z z) <| Ra z <| Wl <| fun _ q => ⟨false, som (ifF hm418 hc420), (q.weaken (s1 z)), (br w21)⟩
  have hm496 := ifF hu339 hc341
  refine Rh z hc341 (fd fld_82_2 z) <| Rh z hc341 (l1 agg_3 z fid (h24.at z)) <| Rh z hc341 (eql z z) <| R z (pF z hc341 z) <| Rm z ?_
  rcases bsplit (x1.size == 0) with hc497 | hc497
  ·have hm498 := ifT hm496 hc497
   refine Rh z hc497 (mv z) <| Rh z hc497 (mv z) ?_
   rcases bsplit x3 with hc499 | hc499
   ·have hm500 := ifT hm498 hc499
    iterate 4 refine Nh z hc499 ?_
    refine Rh z hc497 (pT z hc499 z) <| R z (pT z hc497 z) <| Rm z <| Rh z z (mv z) <| Rh z z (mv z) ?_
    rcases bsplit x4 with hc501 | hc501
    ·have hm502 := ifT hm500 hc501
     iterate 4 refine Nh z hc501 ?_
     refine Rh z z (pT z hc501 z) <| R z (pT z z z) <| Rm z <| Rh z z (mv z) <| Rh z z (mv z) ?_
     rcases bsplit x5 with hc503 | hc503
     ·have hm504 := ifT hm502 hc503
      iterate 4 refine Nh z hc503 ?_
      refine Rh z z (pT z hc503 z) <| R z (pT z z z) <| Rm z <| Rh z z (mv z) <| Rh z z (lss z z) <| Rh z z (mv z) ?_
      rcases bsplit (decide (x6 < 0)) with hc505 | hc505
      ·have hm506 := ifT hm504 hc505
       iterate 5 refine Nh z hc505 ?_
       refine Rh z z (pT z hc505 z) <| R z (pT z z z) <| Rm z <| Rh z z (fd fld_82_3 z) <| Rh z z (l1 agg_4 z fid (h24.at z)) <| Rh z z (not_ z) <| Rh z z (mv z) ?_
       rcases bsplit (!x1.little) with hc507 | hc507
       ·iterate 3 refine Nh z hc507 ?_
        exact Rh z z (pT z hc507 z) <| R z (pT z z z) <| Ra z <| Wl <| fun _ q => ⟨true, som (ifT hm506 hc507), (q.weaken (s1 z)), (br w21)⟩
       exact Rh z hc507 (fd fld_82_1 z) <| Rh z hc507 (l1 agg_3 z fid (h24.at z)) <| Rh z hc507 (eql z z) <| Rh z z (pF z hc507 z) <| R z (pT z z z) <| Ra z <| Wl <| fun _ q => ⟨x1.kind == 1, som (ifF hm506 hc507), (q.weaken (s1 z)), (br w21)⟩
      have hm510 := ifF hm504 hc505
      refine Rh z hc505 (fd fld_82_7 z) <| Rh z hc505 (l1 agg_73 z fid (h24.at z)) <| Rh z hc505 (lnR und_73 z (p1_7.ext h23)) <| Rh z hc505 (mv z) <| Rh z hc505 (eql z z) <| Rh z z (pF z hc505 z) <| R z (pT z z z) <| Rm z ?_
      rcases bsplit ((x1.kids.length : Int) == x6) with hc512 | hc512
      ·have hm513 := ifT hm510 hc512
       refine Rh z hc512 (fd fld_82_3 z) <| Rh z hc512 (l1 agg_4 z fid (h24.at z)) <| Rh z hc512 (not_ z) <| Rh z hc512 (mv z) ?_
       rcases bsplit (!x1.little) with hc514 | hc514
       ·iterate 3 refine Nh z hc514 ?_
        exact Rh z hc512 (pT z hc514 z) <| R z (pT z hc512 z) <| Ra z <| Wl <| fun _ q => ⟨true, som (ifT hm513 hc514), (q.weaken (s1 z)), (br w21)⟩
       exact Rh z hc514 (fd fld_82_1 z) <| Rh z hc514 (l1 agg_3 z fid (h24.at z)) <| Rh z hc514 (eql z z) <| Rh z hc512 (pF z hc514 z) <| R z (pT z hc512 z) <| Ra z <| Wl <| fun _ q => ⟨x1.kind == 1, som (ifF hm513 hc514), (q.weaken (s1 z)), (br w21)⟩
      iterate 4 refine Nh z hc512 ?_
      exact Nv z <| Nv z <| Nv z <| Nh z hc512 <| R z (pF z hc512 z) <| Ra z <| Wl <| fun _ q => ⟨false, som (ifF hm510 hc512), (q.weaken (s1 z)), (br w21)⟩
     have hm518 := ifF hm502 hc503
     refine Rh z hc503 (fd fld_82_6 z) <| Rh z hc503 (l1 agg_73 z fid (h24.at z)) <| Rh z hc503 (lnR und_73 z (p1_6.ext h23)) <| Rh z hc503 (eql z z) <| Rh z z (pF z hc503 z) <| R z (pT z z z) <| Rm z ?_
     rcases bsplit ((x1.tags.length : Int) == 0) with hc520 | hc520
     ·have hm521 := ifT hm518 hc520
      refine Rh z hc520 (mv z) <| Rh z hc520 (lss z z) <| Rh z hc520 (mv z) ?_
      rcases bsplit (decide (x6 < 0)) with hc522 | hc522
      ·have hm523 := ifT hm521 hc522
       iterate 5 refine Nh z hc522 ?_
       refine Rh z hc520 (pT z hc522 z) <| R z (pT z hc520 z) <| Rm z <| Rh z z (fd fld_82_3 z) <| Rh z z (l1 agg_4 z fid (h24.at z)) <| Rh z z (not_ z) <| Rh z z (mv z) ?_
       rcases bsplit (!x1.little) with hc524 | hc524
       ·iterate 3 refine Nh z hc524 ?_
        exact Rh z z (pT z hc524 z) <| R z (pT z z z) <| Ra z <| Wl <| fun _ q => ⟨true, som (ifT hm523 hc524), (q.weaken (s1 z)), (br w21)⟩
       exact Rh z hc524 (fd fld_82_1 z) <| Rh z hc524 (l1 agg_3 z fid (h24.at z)) <| Rh z hc524 (eql z z) <| Rh z z (pF z hc524 z) <| R z (pT z z z) <| Ra z <| Wl <| fun _ q => ⟨x1.kind == 1, som (ifF hm523 hc524), (q.weaken (s1 z)), (br w21)⟩
      have hm527 := ifF hm521 hc522
      refine Rh z hc522 (fd fld_82_7 z) <| Rh z hc522 (l1 agg_73 z fid (h24.at z)) <| Rh z hc522 (lnR und_73 z (p1_7.ext h23)) <| Rh z hc522 (mv z) <| Rh z hc522 (eql z z) <| Rh z hc520 (pF z hc522 z) <| R z (pT z hc520 z) <| Rm z ?_
      rcases bsplit ((x1.kids.length : Int) == x6) with hc529 | hc529
      ·have hm530 := ifT hm527 hc529
       refine Rh z hc529 (fd fld_82_3 z) <| Rh z hc529 (l1 agg_4 z fid (h24.at z)) <| Rh z hc529 (not_ z) <| Rh z hc529 (mv z) ?_
       rcases bsplit (!x1.little) with hc531 | hc531
       ·iterate 3 refine Nh z hc531 ?_
        exact Rh z hc529 (pT z hc531 z) <| R z (pT z hc529 z) <| Ra z <| Wl <| fun _ q => ⟨true, som (ifT hm530 hc531), (q.weaken (s1 z)), (br w21)⟩
       exact Rh z hc531 (fd fld_82_1 z) <| Rh z hc531 (l1 agg_3 z fid (h24.at z)) <| Rh z hc531 (eql z z) <| Rh z hc529 (pF z hc531 z) <| R z (pT z hc529 z) <| Ra z <| Wl <| fun _ q => ⟨x1.kind == 1, som (ifF hm530 hc531), (q.weaken (s1 z)), (br w21)⟩
      iterate 4 refine Nh z hc529 ?_
      exact Nv z <| Nv z <| Nv z <| Nh z hc529 <| R z (pF z hc529 z) <| Ra z <| Wl <| fun _ q => ⟨false, som (ifF hm527 hc529), (q.weaken (s1 z)), (br w21)⟩
     iterate 3 refine Nh z hc520 ?_
     refine Nv z <| Nv z <| Nv z <| Nv z <| Nv z <| Nh z hc520 <| R z (pF z hc520 z) <| Rm z <| Nh z z <| Nh z z <| Nh z z <| Nh z z <| Nv z <| Nv z <| Nv z ?_
     exact Nh z z <| R z (pF z z z) <| Ra z <| Wl <| fun _ q => ⟨false, som (ifF hm518 hc520), (q.weaken (s1 z)), (br w21)⟩
    have hm536 := ifF hm500 hc501
    refine Rh z hc501 (fd fld_82_5 z) <| Rh z hc501 (l1 agg_72 z fid (h24.at z)) <| Rh z hc501 (lnR und_72 z (p1_5.ext h23)) <| Rh z hc501 (eql z z) <| Rh z z (pF z hc501 z) <| R z (pT z z z) <| Rm z ?_
    rcases bsplit ((x1.names.length : Int) == 0) with hc538 | hc538
    ·have hm539 := ifT hm536 hc538
     refine Rh z hc538 (mv z) <| Rh z hc538 (mv z) ?_
     rcases bsplit x5 with hc540 | hc540
     ·have hm541 := ifT hm539 hc540
      iterate 4 refine Nh z hc540 ?_
      refine Rh z hc538 (pT z hc540 z) <| R z (pT z hc538 z) <| Rm z <| Rh z z (mv z) <| Rh z z (lss z z) <| Rh z z (mv z) ?_
      rcases bsplit (decide (x6 < 0)) with hc542 | hc542
      ·have hm543 := ifT hm541 hc542
       iterate 5 refine Nh z hc542 ?_
       refine Rh z z (pT z hc542 z) <| R z (pT z z z) <| Rm z <| Rh z z (fd fld_82_3 z) <| Rh z z (l1 agg_4 z fid (h24.at z)) <| Rh z z (not_ z) <| Rh z z (mv z) ?_
       rcases bsplit (!x1.little) with hc544 | hc544
       ·iterate 3 refine Nh z hc544 ?_
        exact Rh z z (pT z hc544 z) <| R z (pT z z z) <| Ra z <| Wl <| fun _ q => ⟨true, som (ifT hm543 hc544), (q.weaken (s1 z)), (br w21)⟩
       exact Rh z hc544 (fd fld_82_1 z) <| Rh z hc544 (l1 agg_3 z fid (h24.at z)) <| Rh z hc544 (eql z z) <| Rh z z (pF z hc544 z) <| R z (pT z z z) <| Ra z <| Wl <| fun _ q => ⟨x1.kind == 1, som (ifF hm543 hc544), (q.weaken (s1 z)), (br w21)⟩
      have hm547 := ifF hm541 hc542
      refine Rh z hc542 (fd fld_82_7 z) <| Rh z hc542 (l1 agg_73 z fid (h24.at z)) <| Rh z hc542 (lnR und_73 z (p1_7.ext h23)) <| Rh z hc542 (mv z) <| Rh z hc542 (eql z z) <| Rh z z (pF z hc542 z) <| R z (pT z z z) <| Rm z ?_
      rcases bsplit ((x1.kids.length : Int) == x6) with hc549 | hc549
      ·have hm550 := ifT hm547 hc549
       refine Rh z hc549 (fd fld_82_3 z) <| Rh z hc549 (l1 agg_4 z fid (h24.at z)) <| Rh z hc549 (not_ z) <| Rh z hc549 (mv z) ?_
       rcases bsplit (!x1.little) with hc551 | hc551
       ·iterate 3 refine Nh z hc551 ?_
        exact Rh z hc549 (pT z hc551 z) <| R z (pT z hc549 z) <| Ra z <| Wl <| fun _ q => ⟨true, som (ifT hm550 hc551), (q.weaken (s1 z)), (br w21)⟩
       exact Rh z hc551 (fd fld_82_1 z) <| Rh z hc551 (l1 agg_3 z fid (h24.at z)) <| Rh z hc551 (eql z z) <| Rh z hc549 (pF z hc551 z) <| R z (pT z hc549 z) <| Ra z <| Wl <| fun _ q => ⟨x1.kind == 1, som (ifF hm550 hc551), (q.weaken (s1 z)), (br w21)⟩
      iterate 4 refine Nh z hc549 ?_
      exact Nv z <| Nv z <| Nv z <| Nh z hc549 <| R z (pF z hc549 z) <| Ra z <| Wl <| fun _ q => ⟨false, som (ifF hm547 hc549), (q.weaken (s1 z)), (br w21)⟩
     have hm555 := ifF hm539 hc540
     refine Rh z hc540 (fd fld_82_6 z) <| Rh z hc540 (l1 agg_73 z fid (h24.at z)) <| Rh z hc540 (lnR und_73 z (p1_6.ext h23)) <| Rh z hc540 (eql z z) <| Rh z hc538 (pF z hc540 z) <| R z (pT z hc538 z) <| Rm z ?_
     rcases bsplit ((x1.tags.length : Int) == 0) with hc557 | hc557
     ·have hm558 := ifT hm555 hc557
      refine Rh z hc557 (mv z) <| Rh z hc557 (lss z z) <| Rh z hc557 (mv z) ?_
      rcases bsplit (decide (x6 < 0)) with hc559 | hc559
      ·have hm560 := ifT hm558 hc559
       iterate 5 refine Nh z hc559 ?_
       refine Rh z hc557 (pT z hc559 z) <| R z (pT z hc557 z) <| Rm z <| Rh z z (fd fld_82_3 z) <| Rh z z (l1 agg_4 z fid (h24.at z)) <| Rh z z (not_ z) <| Rh z z (mv z) ?_
       rcases bsplit (!x1.little) with hc561 | hc561
       ·iterate 3 refine Nh z hc561 ?_
        exact Rh z z (pT z hc561 z) <| R z (pT z z z) <| Ra z <| Wl <| fun _ q => ⟨true, som (ifT hm560 hc561), (q.weaken (s1 z)), (br w21)⟩
       exact Rh z hc561 (fd fld_82_1 z) <| Rh z hc561 (l1 agg_3 z fid (h24.at z)) <| Rh z hc561 (eql z z) <| Rh z z (pF z hc561 z) <| R z (pT z z z) <| Ra z <| Wl <| fun _ q => ⟨x1.kind == 1, som (ifF hm560 hc561), (q.weaken (s1 z)), (br w21)⟩
      have hm564 := ifF hm558 hc559
      refine Rh z hc559 (fd fld_82_7 z) <| Rh z hc559 (l1 agg_73 z fid (h24.at z)) <| Rh z hc559 (lnR und_73 z (p1_7.ext h23)) <| Rh z hc559 (mv z) <| Rh z hc559 (eql z z) <| Rh z hc557 (pF z hc559 z) <| R z (pT z hc557 z) <| Rm z ?_
      rcases bsplit ((x1.kids.length : Int) == x6) with hc566 | hc566
      ·have hm567 := ifT hm564 hc566
       refine Rh z hc566 (fd fld_82_3 z) <| Rh z hc566 (l1 agg_4 z fid (h24.at z)) <| Rh z hc566 (not_ z) <| Rh z hc566 (mv z) ?_
       rcases bsplit (!x1.little) with hc568 | hc568
       ·iterate 3 refine Nh z hc568 ?_
        exact Rh z hc566 (pT z hc568 z) <| R z (pT z hc566 z) <| Ra z <| Wl <| fun _ q => ⟨true, som (ifT hm567 hc568), (q.weaken (s1 z)), (br w21)⟩
       exact Rh z hc568 (fd fld_82_1 z) <| Rh z hc568 (l1 agg_3 z fid (h24.at z)) <| Rh z hc568 (eql z z) <| Rh z hc566 (pF z hc568 z) <| R z (pT z hc566 z) <| Ra z <| Wl <| fun _ q => ⟨x1.kind == 1, som (ifF hm567 hc568), (q.weaken (s1 z)), (br w21)⟩
      iterate 4 refine Nh z hc566 ?_
      exact Nv z <| Nv z <| Nv z <| Nh z hc566 <| R z (pF z hc566 z) <| Ra z <| Wl <| fun _ q => ⟨false, som (ifF hm564 hc566), (q.weaken (s1 z)), (br w21)⟩
     iterate 3 refine Nh z hc557 ?_
     refine Nv z <| Nv z <| Nv z <| Nv z <| Nv z <| Nh z hc557 <| R z (pF z hc557 z) <| Rm z <| Nh z z <| Nh z z <| Nh z z <| Nh z z <| Nv z <| Nv z <| Nv z ?_
     exact Nh z z <| R z (pF z z z) <| Ra z <| Wl <| fun _ q => ⟨false, som (ifF hm555 hc557), (q.weaken (s1 z)), (br w21)⟩
    refine Nh z hc538 <| Nh z hc538 <| Nv z <| Nv z <| Nv z <| Nv z <| Nh z hc538 <| R z (pF z hc538 z) <| Rm z <| Nh z z <| Nh z z <| Nh z z <| Nv z <| Nv z <| Nv z ?_
    refine Nv z <| Nv z <| Nh z z <| R z (pF z z z) <| Rm z <| Nh z z <| Nh z z <| Nh z z <| Nh z z <| Nv z <| Nv z <| Nv z <| Nh z z <| R z (pF z z z) <| Ra z ?_
    exact Wl <| fun _ q => ⟨false, som (ifF hm536 hc538), (q.weaken (s1 z)), (br w21)⟩
   have hm574 := ifF hm498 hc499
   refine Rh z hc499 (fd fld_82_4 z) <| Rh z hc499 (l1 agg_25 z fid (h24.at z)) <| Rh z hc499 (lnR und_25 z (p1_4.ext h23)) <| Rh z hc499 (eql z z) <| Rh z hc497 (pF z hc499 z) <| R z (pT z hc497 z) <| Rm z ?_
   rcases bsplit ((x1.bytes.length : Int) == 0) with hc576 | hc576
   ·have hm577 := ifT hm574 hc576
    refine Rh z hc576 (mv z) <| Rh z hc576 (mv z) ?_
    rcases bsplit x4 with hc578 | hc578
    ·have hm579 := ifT hm577 hc578
     iterate 4 refine Nh z hc578 ?_
     refine Rh z hc576 (pT z hc578 z) <| R z (pT z hc576 z) <| Rm z <| Rh z z (mv z) <| Rh z z (mv z) ?_
     rcases bsplit x5 with hc580 | hc580
     ·have hm581 := ifT hm579 hc580
      iterate 4 refine Nh z hc580 ?_
      refine Rh z z (pT z hc580 z) <| R z (pT z z z) <| Rm z <| Rh z z (mv z) <| Rh z z (lss z z) <| Rh z z (mv z) ?_
      rcases bsplit (decide (x6 < 0)) with hc582 | hc582
      ·have hm583 := ifT hm581 hc582
       iterate 5 refine Nh z hc582 ?_
       refine Rh z z (pT z hc582 z) <| R z (pT z z z) <| Rm z <| Rh z z (fd fld_82_3 z) <| Rh z z (l1 agg_4 z fid (h24.at z)) <| Rh z z (not_ z) <| Rh z z (mv z) ?_
       rcases bsplit (!x1.little) with hc584 | hc584
       ·iterate 3 refine Nh z hc584 ?_
        exact Rh z z (pT z hc584 z) <| R z (pT z z z) <| Ra z <| Wl <| fun _ q => ⟨true, som (ifT hm583 hc584), (q.weaken (s1 z)), (br w21)⟩
       exact Rh z hc584 (fd fld_82_1 z) <| Rh z hc584 (l1 agg_3 z fid (h24.at z)) <| Rh z hc584 (eql z z) <| Rh z z (pF z hc584 z) <| R z (pT z z z) <| Ra z <| Wl <| fun _ q => ⟨x1.kind == 1, som (ifF hm583 hc584), (q.weaken (s1 z)), (br w21)⟩
      have hm587 := ifF hm581 hc582
      refine Rh z hc582 (fd fld_82_7 z) <| Rh z hc582 (l1 agg_73 z fid (h24.at z)) <| Rh z hc582 (lnR und_73 z (p1_7.ext h23)) <| Rh z hc582 (mv z) <| Rh z hc582 (eql z z) <| Rh z z (pF z hc582 z) <| R z (pT z z z) <| Rm z ?_
      rcases bsplit ((x1.kids.length : Int) == x6) with hc589 | hc589
      ·have hm590 := ifT hm587 hc589
       refine Rh z hc589 (fd fld_82_3 z) <| Rh z hc589 (l1 agg_4 z fid (h24.at z)) <| Rh z hc589 (not_ z) <| Rh z hc589 (mv z) ?_
       rcases bsplit (!x1.little) with hc591 | hc591
       ·iterate 3 refine Nh z hc591 ?_
        exact Rh z hc589 (pT z hc591 z) <| R z (pT z hc589 z) <| Ra z <| Wl <| fun _ q => ⟨true, som (ifT hm590 hc591), (q.weaken (s1 z)), (br w21)⟩
       exact Rh z hc591 (fd fld_82_1 z) <| Rh z hc591 (l1 agg_3 z fid (h24.at z)) <| Rh z hc591 (eql z z) <| Rh z hc589 (pF z hc591 z) <| R z (pT z hc589 z) <| Ra z <| Wl <| fun _ q => ⟨x1.kind == 1, som (ifF hm590 hc591), (q.weaken (s1 z)), (br w21)⟩
      iterate 4 refine Nh z hc589 ?_
      exact Nv z <| Nv z <| Nv z <| Nh z hc589 <| R z (pF z hc589 z) <| Ra z <| Wl <| fun _ q => ⟨false, som (ifF hm587 hc589), (q.weaken (s1 z)), (br w21)⟩
     have hm595 := ifF hm579 hc580
     refine Rh z hc580 (fd fld_82_6 z) <| Rh z hc580 (l1 agg_73 z fid (h24.at z)) <| Rh z hc580 (lnR und_73 z (p1_6.ext h23)) <| Rh z hc580 (eql z z) <| Rh z z (pF z hc580 z) <| R z (pT z z z) <| Rm z ?_
     rcases bsplit ((x1.tags.length : Int) == 0) with hc597 | hc597
     ·have hm598 := ifT hm595 hc597
      refine Rh z hc597 (mv z) <| Rh z hc597 (lss z z) <| Rh z hc597 (mv z) ?_
      rcases bsplit (decide (x6 < 0)) with hc599 | hc599
      ·have hm600 := ifT hm598 hc599
       iterate 5 refine Nh z hc599 ?_
       refine Rh z hc597 (pT z hc599 z) <| R z (pT z hc597 z) <| Rm z <| Rh z z (fd fld_82_3 z) <| Rh z z (l1 agg_4 z fid (h24.at z)) <| Rh z z (not_ z) <| Rh z z (mv z) ?_
       rcases bsplit (!x1.little) with hc601 | hc601
       ·iterate 3 refine Nh z hc601 ?_
        exact Rh z z (pT z hc601 z) <| R z (pT z z z) <| Ra z <| Wl <| fun _ q => ⟨true, som (ifT hm600 hc601), (q.weaken (s1 z)), (br w21)⟩
       exact Rh z hc601 (fd fld_82_1 z) <| Rh z hc601 (l1 agg_3 z fid (h24.at z)) <| Rh z hc601 (eql z z) <| Rh z z (pF z hc601 z) <| R z (pT z z z) <| Ra z <| Wl <| fun _ q => ⟨x1.kind == 1, som (ifF hm600 hc601), (q.weaken (s1 z)), (br w21)⟩
      have hm604 := ifF hm598 hc599
      refine Rh z hc599 (fd fld_82_7 z) <| Rh z hc599 (l1 agg_73 z fid (h24.at z)) <| Rh z hc599 (lnR und_73 z (p1_7.ext h23)) <| Rh z hc599 (mv z) <| Rh z hc599 (eql z z) <| Rh z hc597 (pF z hc599 z) <| R z (pT z hc597 z) <| Rm z ?_
      rcases bsplit ((x1.kids.length : Int) == x6) with hc606 | hc606
      ·have hm607 := ifT hm604 hc606
       refine Rh z hc606 (fd fld_82_3 z) <| Rh z hc606 (l1 agg_4 z fid (h24.at z)) <| Rh z hc606 (not_ z) <| Rh z hc606 (mv z) ?_
       rcases bsplit (!x1.little) with hc608 | hc608
       ·iterate 3 refine Nh z hc608 ?_
        exact Rh z hc606 (pT z hc608 z) <| R z (pT z hc606 z) <| Ra z <| Wl <| fun _ q => ⟨true, som (ifT hm607 hc608), (q.weaken (s1 z)), (br w21)⟩
       exact Rh z hc608 (fd fld_82_1 z) <| Rh z hc608 (l1 agg_3 z fid (h24.at z)) <| Rh z hc608 (eql z z) <| Rh z hc606 (pF z hc608 z) <| R z (pT z hc606 z) <| Ra z <| Wl <| fun _ q => ⟨x1.kind == 1, som (ifF hm607 hc608), (q.weaken (s1 z)), (br w21)⟩
      iterate 4 refine Nh z hc606 ?_
      exact Nv z <| Nv z <| Nv z <| Nh z hc606 <| R z (pF z hc606 z) <| Ra z <| Wl <| fun _ q => ⟨false, som (ifF hm604 hc606), (q.weaken (s1 z)), (br w21)⟩
     iterate 3 refine Nh z hc597 ?_
     refine Nv z <| Nv z <| Nv z <| Nv z <| Nv z <| Nh z hc597 <| R z (pF z hc597 z) <| Rm z <| Nh z z <| Nh z z <| Nh z z <| Nh z z <| Nv z <| Nv z <| Nv z ?_
     exact Nh z z <| R z (pF z z z) <| Ra z <| Wl <| fun _ q => ⟨false, som (ifF hm595 hc597), (q.weaken (s1 z)), (br w21)⟩
    have hm613 := ifF hm577 hc578
    refine Rh z hc578 (fd fld_82_5 z) <| Rh z hc578 (l1 agg_72 z fid (h24.at z)) <| Rh z hc578 (lnR und_72 z (p1_5.ext h23)) <| Rh z hc578 (eql z z) <| Rh z hc576 (pF z hc578 z) <| R z (pT z hc576 z) <| Rm z ?_
    rcases bsplit ((x1.names.length : Int) == 0) with hc615 | hc615
    ·have hm616 := ifT hm613 hc615
     refine Rh z hc615 (mv z) <| Rh z hc615 (mv z) ?_
     rcases bsplit x5 with hc617 | hc617
     ·have hm618 := ifT hm616 hc617
      iterate 4 refine Nh z hc617 ?_
      refine Rh z hc615 (pT z hc617 z) <| R z (pT z hc615 z) <| Rm z <| Rh z z (mv z) <| Rh z z (lss z z) <| Rh z z (mv z) ?_
      rcases bsplit (decide (x6 < 0)) with hc619 | hc619
      ·have hm620 := ifT hm618 hc619
       iterate 5 refine Nh z hc619 ?_
       refine Rh z z (pT z hc619 z) <| R z (pT z z z) <| Rm z <| Rh z z (fd fld_82_3 z) <| Rh z z (l1 agg_4 z fid (h24.at z)) <| Rh z z (not_ z) <| Rh z z (mv z) ?_
       rcases bsplit (!x1.little) with hc621 | hc621
       ·iterate 3 refine Nh z hc621 ?_
        exact Rh z z (pT z hc621 z) <| R z (pT z z z) <| Ra z <| Wl <| fun _ q => ⟨true, som (ifT hm620 hc621), (q.weaken (s1 z)), (br w21)⟩
       exact Rh z hc621 (fd fld_82_1 z) <| Rh z hc621 (l1 agg_3 z fid (h24.at z)) <| Rh z hc621 (eql z z) <| Rh z z (pF z hc621 z) <| R z (pT z z z) <| Ra z <| Wl <| fun _ q => ⟨x1.kind == 1, som (ifF hm620 hc621), (q.weaken (s1 z)), (br w21)⟩
      have hm624 := ifF hm618 hc619
      refine Rh z hc619 (fd fld_82_7 z) <| Rh z hc619 (l1 agg_73 z fid (h24.at z)) <| Rh z hc619 (lnR und_73 z (p1_7.ext h23)) <| Rh z hc619 (mv z) <| Rh z hc619 (eql z z) <| Rh z z (pF z hc619 z) <| R z (pT z z z) <| Rm z ?_
      rcases bsplit ((x1.kids.length : Int) == x6) with hc626 | hc626
      ·have hm627 := ifT hm624 hc626
       refine Rh z hc626 (fd fld_82_3 z) <| Rh z hc626 (l1 agg_4 z fid (h24.at z)) <| Rh z hc626 (not_ z) <| Rh z hc626 (mv z) ?_
       rcases bsplit (!x1.little) with hc628 | hc628
       ·iterate 3 refine Nh z hc628 ?_
        exact Rh z hc626 (pT z hc628 z) <| R z (pT z hc626 z) <| Ra z <| Wl <| fun _ q => ⟨true, som (ifT hm627 hc628), (q.weaken (s1 z)), (br w21)⟩
       exact Rh z hc628 (fd fld_82_1 z) <| Rh z hc628 (l1 agg_3 z fid (h24.at z)) <| Rh z hc628 (eql z z) <| Rh z hc626 (pF z hc628 z) <| R z (pT z hc626 z) <| Ra z <| Wl <| fun _ q => ⟨x1.kind == 1, som (ifF hm627 hc628), (q.weaken (s1 z)), (br w21)⟩
      iterate 4 refine Nh z hc626 ?_
      exact Nv z <| Nv z <| Nv z <| Nh z hc626 <| R z (pF z hc626 z) <| Ra z <| Wl <| fun _ q => ⟨false, som (ifF hm624 hc626), (q.weaken (s1 z)), (br w21)⟩
     have hm632 := ifF hm616 hc617
     refine Rh z hc617 (fd fld_82_6 z) <| Rh z hc617 (l1 agg_73 z fid (h24.at z)) <| Rh z hc617 (lnR und_73 z (p1_6.ext h23)) <| Rh z hc617 (eql z z) <| Rh z hc615 (pF z hc617 z) <| R z (pT z hc615 z) <| Rm z ?_
     rcases bsplit ((x1.tags.length : Int) == 0) with hc634 | hc634
     ·have hm635 := ifT hm632 hc634
      refine Rh z hc634 (mv z) <| Rh z hc634 (lss z z) <| Rh z hc634 (mv z) ?_
      rcases bsplit (decide (x6 < 0)) with hc636 | hc636
      ·have hm637 := ifT hm635 hc636
       iterate 5 refine Nh z hc636 ?_
       refine Rh z hc634 (pT z hc636 z) <| R z (pT z hc634 z) <| Rm z <| Rh z z (fd fld_82_3 z) <| Rh z z (l1 agg_4 z fid (h24.at z)) <| Rh z z (not_ z) <| Rh z z (mv z) ?_
       rcases bsplit (!x1.little) with hc638 | hc638
       ·iterate 3 refine Nh z hc638 ?_
        exact Rh z z (pT z hc638 z) <| R z (pT z z z) <| Ra z <| Wl <| fun _ q => ⟨true, som (ifT hm637 hc638), (q.weaken (s1 z)), (br w21)⟩
       exact Rh z hc638 (fd fld_82_1 z) <| Rh z hc638 (l1 agg_3 z fid (h24.at z)) <| Rh z hc638 (eql z z) <| Rh z z (pF z hc638 z) <| R z (pT z z z) <| Ra z <| Wl <| fun _ q => ⟨x1.kind == 1, som (ifF hm637 hc638), (q.weaken (s1 z)), (br w21)⟩
      have hm641 := ifF hm635 hc636
      refine Rh z hc636 (fd fld_82_7 z) <| Rh z hc636 (l1 agg_73 z fid (h24.at z)) <| Rh z hc636 (lnR und_73 z (p1_7.ext h23)) <| Rh z hc636 (mv z) <| Rh z hc636 (eql z z) <| Rh z hc634 (pF z hc636 z) <| R z (pT z hc634 z) <| Rm z ?_
      rcases bsplit ((x1.kids.length : Int) == x6) with hc643 | hc643
      ·have hm644 := ifT hm641 hc643
       refine Rh z hc643 (fd fld_82_3 z) <| Rh z hc643 (l1 agg_4 z fid (h24.at z)) <| Rh z hc643 (not_ z) <| Rh z hc643 (mv z) ?_
       rcases bsplit (!x1.little) with hc645 | hc645
       ·iterate 3 refine Nh z hc645 ?_
        exact Rh z hc643 (pT z hc645 z) <| R z (pT z hc643 z) <| Ra z <| Wl <| fun _ q => ⟨true, som (ifT hm644 hc645), (q.weaken (s1 z)), (br w21)⟩
       exact Rh z hc645 (fd fld_82_1 z) <| Rh z hc645 (l1 agg_3 z fid (h24.at z)) <| Rh z hc645 (eql z z) <| Rh z hc643 (pF z hc645 z) <| R z (pT z hc643 z) <| Ra z <| Wl <| fun _ q => ⟨x1.kind == 1, som (ifF hm644 hc645), (q.weaken (s1 z)), (br w21)⟩
      iterate 4 refine Nh z hc643 ?_
      exact Nv z <| Nv z <| Nv z <| Nh z hc643 <| R z (pF z hc643 z) <| Ra z <| Wl <| fun _ q => ⟨false, som (ifF hm641 hc643), (q.weaken (s1 z)), (br w21)⟩
     iterate 3 refine Nh z hc634 ?_
     refine Nv z <| Nv z <| Nv z <| Nv z <| Nv z <| Nh z hc634 <| R z (pF z hc634 z) <| Rm z <| Nh z z <| Nh z z <| Nh z z <| Nh z z <| Nv z <| Nv z <| Nv z ?_
     exact Nh z z <| R z (pF z z z) <| Ra z <| Wl <| fun _ q => ⟨false, som (ifF hm632 hc634), (q.weaken (s1 z)), (br w21)⟩
    refine Nh z hc615 <| Nh z hc615 <| Nv z <| Nv z <| Nv z <| Nv z <| Nh z hc615 <| R z (pF z hc615 z) <| Rm z <| Nh z z <| Nh z z <| Nh z z <| Nv z <| Nv z <| Nv z ?_
    refine Nv z <| Nv z <| Nh z z <| R z (pF z z z) <| Rm z <| Nh z z <| Nh z z <| Nh z z <| Nh z z <| Nv z <| Nv z <| Nv z <| Nh z z <| R z (pF z z z) <| Ra z ?_
    exact Wl <| fun _ q => ⟨false, som (ifF hm613 hc615), (q.weaken (s1 z)), (br w21)⟩
   refine Nh z hc576 <| Nh z hc576 <| Nv z <| Nv z <| Nv z <| Nv z <| Nh z hc576 <| R z (pF z hc576 z) <| Rm z <| Nh z z <| Nh z z <| Nv z <| Nv z <| Nv z <| Nv z ?_
   refine Nh z z <| R z (pF z z z) <| Rm z <| Nh z z <| Nh z z <| Nh z z <| Nv z <| Nv z <| Nv z <| Nv z <| Nv z <| Nh z z <| R z (pF z z z) <| Rm z <| Nh z z ?_
   exact Nh z z <| Nh z z <| Nh z z <| Nv z <| Nv z <| Nv z <| Nh z z <| R z (pF z z z) <| Ra z <| Wl <| fun _ q => ⟨false, som (ifF hm574 hc576), (q.weaken (s1 z)), (br w21)⟩
  refine Nh z hc497 <| Nh z hc497 <| Nv z <| Nv z <| Nv z <| Nv z <| Nh z hc497 <| R z (pF z hc497 z) <| Rm z <| Nh z z <| Nh z z <| Nv z <| Nv z <| Nv z <| Nv z ?_
  refine Nh z z <| R z (pF z z z) <| Rm z <| Nh z z <| Nh z z <| Nv z <| Nv z <| Nv z <| Nv z <| Nh z z <| R z (pF z z z) <| Rm z <| Nh z z <| Nh z z <| Nh z z ?_
  refine Nv z <| Nv z <| Nv z <| Nv z <| Nv z <| Nh z z <| R z (pF z z z) <| Rm z <| Nh z z <| Nh z z <| Nh z z <| Nh z z <| Nv z <| Nv z <| Nv z ?_
  exact Nh z z <| R z (pF z z z) <| Ra z <| Wl <| fun _ q => ⟨false, som (ifF hm496 hc497), (q.weaken (s1 z)), (br w21)⟩
 rintro a653 w654 ⟨x337, rfl, hS655, s656⟩
 revert a653
 refine Wo ?_
 obtain rfl := som hm340
 exact Wr (ret1 hr z ⟨(bup h23 s656), z⟩)
def Q_spec_l2Power (w0 : World) (B : Nat) (r : Int) (v : Value) (w' : World) : Prop := Below w0.heap.size w0 w' ∧ (fun r1 => (vI r1) = v ∧ inI r1) r
theorem W_spec_l2Power {x1 : Int} {res : Int} (hm : M_spec_l2Power x1 = some res) (hBw : B ≤ w0.heap.size) (p1_0 : inI x1) : CallsR Tryz.prog 148 [(vI x1)] w0 (Q_spec_l2Power w0 B res) := by
 unfold M_spec_l2Power at hm
 obtain ⟨fn, hf, hb, hN, hr⟩ := fnE Tryz.func148
 refine goW hf (hb.trans z) (hN.trans z) (lb z) <| Ws <| Ra z <| Wn <| Ws <| Rm z <| R z (rd_mul z z) ?_
 obtain ⟨u21, e22, hm23⟩ := bdS hm
 refine R z (rd_shl z z (nnS e22)) <| Ra z <| Wn ?_
 obtain rfl := som hm23
 exact Wr (ret1 hr z ⟨(br w0), z, (inI_shl (ii z))⟩)
def Q_spec_IntegerLimit (w0 : World) (B : Nat) (r : Int) (v : Value) (w' : World) : Prop := Below w0.heap.size w0 w' ∧ (fun r1 => (vI r1) = v ∧ inI r1) r
theorem W_spec_IntegerLimit {x1 : Desc} {x2 : Int} {res : Int} (hm : M_spec_IntegerLimit x1 x2 = some res) (hBw : B ≤ w0.heap.size) (p1_0 : repS w0 B (.slice pa1_0 pn1_0 pc1_0) x1.rules) (p2_0 : inI x2) : CallsR Tryz.prog 132 [(.agg #[(.slice pa1_0 pn1_0 pc1_0)]), (vI x2)] w0 (Q_spec_IntegerLimit w0 B res) := by
 unfold M_spec_IntegerLimit at hm
 obtain ⟨fn, hf, hb, hN, hr⟩ := fnE Tryz.func132
 refine goW hf (hb.trans z) (hN.trans z) (lb z) <| Ws <| E z (fb z) ?_
 rintro _ w21 ⟨rfl, h22⟩
 have h23 := h22.below
 have h24 : Blk w21 w0.heap.size [(.slice pa1_0 pn1_0 pc1_0)] := h22.blk
 refine Ra z <| Wn <| Wq <| Wq ?_
 obtain ⟨u104, hu105, hm106⟩ := bdS hm
 refine WC_cut (fun a w => ∃ (x103 : Bool), x103 = u104 ∧ Sat 39 [(1, (vI x2)), (2, (.pointer (some ⟨w0.heap.size, 0, none⟩))), (30, (vB x103))] a ∧ Below w21.heap.size w21 w) ?_ ?_
 ·refine Wg <| Rm z <| R z (fd fld_31_0 z) <| R z (l1 agg_29 z fid (h24.at z)) ?_
  have h107 := p1_0.ext h23
  refine R z (lnR und_29 z h107) <| R z (rd_sub z z) ?_
  obtain ⟨r109, e110, hm111⟩ := bdS hu105
  refine E z (fc Tryz.call67 z (W_spec_l1In (B := B) e110 (lt_ hBw h23.size) p2_0 (ii z) (iS _ _))) ?_
  rintro _ w112 ⟨s113, rfl⟩
  refine R z (not_ z) <| Rm z ?_
  rcases bsplit (!r109) with hc114 | hc114
  ·iterate 7 refine Nh z hc114 ?_
   exact R z (pT z hc114 z) <| Rm z <| Nh z z <| Nh z z <| Nh z z <| Nh z z <| Nh z z <| Nh z z <| Nh z z <| Nh z z <| R z (pT z z z) <| Wl <| fun _ q => ⟨true, som (ifT hm111 hc114), (q.weaken (s3 z z z)), s113⟩
  refine Rh z hc114 (fd fld_31_0 z) ?_
  have h117 := h24.ext s113
  refine Rh z hc114 (l1 agg_29 z fid (h117.at z)) <| Rh z hc114 (mv z) ?_
  obtain ⟨x118, e119, hm120⟩ := bdS (ifF hm111 hc114)
  have h121 := h107.ext s113
  refine RXg z z hc114 z (at_ (α := Rule) und_29 size_82 z z z h121 e119) ?_
  rintro _ ⟨b122, o123, cs124, rfl, h125, h126, h127⟩
  obtain ⟨a131, n132, c133, a135, n136, c137, a139, n140, c141, a143, n144, c145, rfl, h128, h129, h130, h134, h138, h142, h146⟩ := Rule_open h126
  refine Rh z hc114 (fd fld_82_1 z) <| Rh z hc114 (l1 agg_3 z fid (h125.at (j := 1) z)) <| Rh z hc114 (rd_neq z z) <| R z (pF z hc114 z) <| Rm z ?_
  rcases bsplit (x118.kind != 1) with hc147 | hc147
  ·iterate 8 refine Nh z hc147 ?_
   exact R z (pT z hc147 z) <| Wl <| fun _ q => ⟨true, som (ifT hm120 hc147), (q.weaken (s3 z z z)), s113⟩
  refine Rh z hc147 (fd fld_31_0 z) <| Rh z hc147 (l1 agg_29 z fid (h117.at z)) <| Rh z hc147 (mv z) ?_
  obtain ⟨x150, e151, hm152⟩ := bdS (ifF hm120 hc147)
  refine RXg z z hc147 z (at_ (α := Rule) und_29 size_82 z z z h121 e151) ?_
  rintro _ ⟨b153, o154, cs155, rfl, h156, h157, h158⟩
  obtain ⟨a162, n163, c164, a166, n167, c168, a170, n171, c172, a174, n175, c176, rfl, h159, h160, h161, h165, h169, h173, h177⟩ := Rule_open h157
  refine Rh z hc147 (fd fld_82_2 z) <| Rh z hc147 (l1 agg_3 z fid (h156.at (j := 2) z)) ?_
  obtain ⟨r180, e181, hm182⟩ := bdS hm152
  refine Eg z z hc147 z (fc Tryz.call67 z (W_spec_l1In (B := B) e181 (lt_ hBw (lt_ h23.size s113.size)) h161 (ii z) (ii z))) ?_
  rintro _ w183 ⟨s184, rfl⟩
  exact Rh z hc147 (not_ z) <| R z (pF z hc147 z) <| Wl <| fun _ q => ⟨!r180, som hm182, (q.weaken (s3 z z z)), (bup s113 s184)⟩
 rintro a186 w187 ⟨x103, rfl, hS188, s189⟩
 revert a186
 refine Wo <| Wc z (fun hc195 => ?_) (fun hc195 => ?_)
 ·refine Ws <| Ra z <| Wn ?_
  obtain rfl := som (ifT hm106 hc195)
  exact Wr (ret1 hr z ⟨(bup h23 s189), z, (ii z)⟩)
 refine Wk <| Ws <| R z (fd fld_31_0 z) <| R z (l1 agg_29 z fid ((h24.ext s189).at z)) <| Rm z ?_
 obtain ⟨x200, e201, hm202⟩ := bdS (ifF hm106 hc195)
 refine RX z (at_ (α := Rule) und_29 size_82 z z z ((p1_0.ext h23).ext s189) e201) ?_
 rintro _ ⟨b205, o206, cs207, rfl, h208, h209, h210⟩
 obtain ⟨a214, n215, c216, a218, n219, c220, a222, n223, c224, a226, n227, c228, rfl, h211, h212, h213, h217, h221, h225, h229⟩ := Rule_open h209
 refine R z (fd fld_82_2 z) <| R z (l1 agg_3 z fid (h208.at (j := 2) z)) ?_
 obtain ⟨r232, e233, hm234⟩ := bdS hm202
 refine E z (fc Tryz.call148 z (W_spec_l2Power (B := B) e233 (lt_ hBw (lt_ h23.size s189.size)) h213)) ?_
 rintro _ w235 ⟨s236, rfl, h237⟩
 refine R z (rd_sub z z) <| Ra z <| Wn ?_
 obtain rfl := som hm234
 exact Wr (ret1 hr z ⟨(bup (bup h23 s189) s236), z, (iS _ _)⟩)
def Q_spec_ContainsText (w0 : World) (B : Nat) (r : Bool) (v : Value) (w' : World) : Prop := Below w0.heap.size w0 w' ∧ (fun r1 => (vB r1) = v) r
theorem W_spec_ContainsText {x1 : List Str} {x2 : Str} {res : Bool} (hm : M_spec_ContainsText x1 x2 = some res) (hBw : B ≤ w0.heap.size) (p1_0 : repS w0 B (.slice pa1_0 pn1_0 pc1_0) x1) (p2_0 : x2.b.length ≤ LEN) : CallsR Tryz.prog 149 [(.slice pa1_0 pn1_0 pc1_0), (Str.v x2)] w0 (Q_spec_ContainsText w0 B res) := by
 unfold M_spec_ContainsText at hm
 obtain ⟨fn, hf, hb, hN, hr⟩ := fnE Tryz.func149
 refine goW hf (hb.trans z) (hN.trans z) (lb z) <| Ws <| Ra z <| Wn <| Wq <| Ws <| Ra z <| Wn ?_
 obtain ⟨u37, hu38, hm39⟩ := bdS hm
 refine WC_forN (σ := Unit) (ρ := Bool) (fun (k40 : Nat) (_ : Unit) a w => Sat 18 [(0, (.slice pa1_0 pn1_0 pc1_0)), (1, (Str.v x2)), (5, (vI ((k40 : Nat) : Int)))] a ∧ Below w0.heap.size w0 w) (fun (_ : Unit) a w => Sat 18 [] a ∧ Below w0.heap.size w0 w) (fun r ex a w => ex = .ret ∧ RetPost Tryz.prog fn (Q_spec_ContainsText w0 B r) a w) hu38 ?_ ?_ ?_ ?_ ?_
 ·exact fun _ q => ⟨(q.weaken (s3 z z z)), (br w0)⟩
 ·rintro k40 _ a41 w42 o43 hk44 ⟨hS45, s46⟩ hm47
  refine Wu (e := [(0, (.slice pa1_0 pn1_0 pc1_0)), (1, (Str.v x2)), (5, (vI ((k40 : Nat) : Int)))]) (N := 18) ?_ hS45
  refine Wq <| Ws <| Rm z <| Rm z ?_
  have h48 := p1_0.ext s46
  refine R z (lnR und_72 z h48) <| R z (lss z z) <| Wn <| Wc z (fun _ => ?_) (fun hc => (nolt hk44 hc).elim)
  refine Wk <| Wq <| WC_block <| Ws <| Rm z <| Rm z ?_
  obtain ⟨x64, e65, hm66⟩ := bdS hm47
  refine RX z (at_ (α := Str) und_72 size_9 z z z h48 e65) ?_
  rintro _ ⟨b67, o68, cs69, rfl, h70, h71, h72⟩
  obtain ⟨rfl, h73⟩ := Str_open h71
  refine R z (l1 agg_9 z fid (h70.at0 z)) <| Rm z <| R z (rd_eqlT z z) <| Wn <| Wc z (fun hc78 => ?_) (fun hc78 => ?_)
  ·exact Ws <| Ra z <| Wn <| Wr (rtO (QO_retL (som (ifT hm66 hc78)).symm (ret1 hr z ⟨s46, z⟩)))
  exact Wk <| Wg <| Rm z <| R z (inc_ hk44 (lt_ (repS.len p1_0) LEN_le) z z) <| Ra z <| Wl <| fun _ q => ⟨(), (som (ifF hm66 hc78)).symm, ⟨(q.weaken (s3 z z z)), s46⟩⟩
 ·rintro _ a81 w82 ⟨hS83, s84⟩
  refine Wu (e := [(0, (.slice pa1_0 pn1_0 pc1_0)), (1, (Str.v x2)), (5, (vI ((x1.length : Nat) : Int)))]) (N := 18) ?_ hS83
  refine Wq <| Ws <| Rm z <| Rm z <| R z (lnR und_72 z (p1_0.ext s84)) <| R z (lss z z) <| Wn <| Wc z (fun hc => (noltt hc).elim) (fun _ => ?_)
  exact WC_exit (fun a' ha' => ⟨rfl, ⟨(Sat.weaken ha' sn), s84⟩⟩)
 ·rintro _ a86 w87 rfl ⟨hS88, s89⟩
  have hm90 := elL hm39
  revert a86
  refine Wo <| Ws <| Ra z <| Wn ?_
  obtain rfl := som hm90
  exact Wr (ret1 hr z ⟨s89, z⟩)
 rintro r91 ex92 a93 w94 rfl ⟨rfl, hq95⟩
 have hm96 := elR hm39
 obtain rfl := som hm96
 exact ⟨hq95, z⟩
def Q_spec_l4Names (w0 : World) (B : Nat) (r : Bool) (v : Value) (w' : World) : Prop := Below w0.heap.size w0 w' ∧ (fun r1 => (vB r1) = v) r
theorem W_spec_l4Names {x1 : List Str} {res : Bool} (hm : M_spec_l4Names x1 = some res) (hBw : B ≤ w0.heap.size) (p1_0 : repS w0 B (.slice pa1_0 pn1_0 pc1_0) x1) : CallsR Tryz.prog 133 [(.slice pa1_0 pn1_0 pc1_0)] w0 (Q_spec_l4Names w0 B res) := by
 unfold M_spec_l4Names at hm
 obtain ⟨fn, hf, hb, hN, hr⟩ := fnE Tryz.func133
 refine goW hf (hb.trans z) (hN.trans z) (lb z) <| Ws <| Ra z <| Wn <| Wq <| Ws <| Ra z <| Wn ?_
 obtain ⟨u77, hu78, hm79⟩ := bdS hm
 refine WC_forN (σ := Unit) (ρ := Bool) (fun (k80 : Nat) (_ : Unit) a w => Sat 29 [(0, (.slice pa1_0 pn1_0 pc1_0)), (3, (vI ((k80 : Nat) : Int)))] a ∧ Below w0.heap.size w0 w) (fun (_ : Unit) a w => Sat 29 [(0, (.slice pa1_0 pn1_0 pc1_0))] a ∧ Below w0.heap.size w0 w) (fun r ex a w => ex = .ret ∧ RetPost Tryz.prog fn (Q_spec_l4Names w0 B r) a w) hu78 ?_ ?_ ?_ ?_ ?_
 ·exact fun _ q => ⟨(q.weaken (s2 z z)), (br w0)⟩
 ·rintro k80 _ a81 w82 o83 hk84 ⟨hS85, s86⟩ hm87
  refine Wu (e := [(0, (.slice pa1_0 pn1_0 pc1_0)), (3, (vI ((k80 : Nat) : Int)))]) (N := 29) ?_ hS85
  refine Wq <| Ws <| Rm z <| Rm z ?_
  have h88 := p1_0.ext s86
  refine R z (lnR und_72 z h88) <| R z (lss z z) <| Wn <| Wc z (fun _ => ?_) (fun hc => (nolt hk84 hc).elim)
  refine Wk <| Wq <| WC_block <| Wq ?_
  obtain ⟨u193, hu194, hm195⟩ := bdS hm87
  refine WC_cut (fun a w => ∃ (x192 : Bool), x192 = u193 ∧ Sat 29 [(0, (.slice pa1_0 pn1_0 pc1_0)), (3, (vI ((k80 : Nat) : Int))), (25, (vB x192))] a ∧ Below w82.heap.size w82 w) ?_ ?_
  ·refine WC_draw (X := noX) 0 (.rd 0 (.rd 1 (.rd 2 (.rd 3 (.ef 4 (.rd 5 (.rd 6 (.rd 7 (.rd 8 (.rd 9 (.rd 10 (.rd 11 (.rd 12 (.rd 13 (.ef 14 (.rd 15 .done)))))))))))))))) mo (by kernel_rfl) fun w196 s197 _ => dR z z (mv z) <| dR z z (mv z) ?_
   obtain ⟨x198, e199, hm200⟩ := bdS hu194
   have h201 := h88.ext s197
   refine dRX z z (at_ (α := Str) und_72 size_9 z z z h201 e199) ?_
   rintro _ ⟨b202, o203, cs204, rfl, h205, h206, h207⟩
   obtain ⟨rfl, h208⟩ := Str_open h206
   refine dR z z (l1 agg_9 z fid (h205.at0 z)) ?_
   have h209 := lt_ s86.size s197.size
   obtain ⟨r211, e212, hm213⟩ := bdS hm200
   refine dE z z (fc Tryz.call95 z (W_spec_IsName (B := B) e212 (lt_ hBw h209) h208)) (.inr fun _ _ h => chgB (h.1)) ?_
   rintro _ w214 ⟨s215, rfl⟩
   refine dR z z (not_ z) <| dR z z (mv z) ?_
   rcases bsplit (!r211) with hc216 | hc216
   ·iterate 7 refine dRn z z z hc216 z ?_
    exact dEn z z z hc216 z <| dR z z (pT z hc216 z) <| PR_done <| fun _ q => ⟨true, som (ifT hm213 hc216), (q.weaken (s3 z z z)), (bup s197 s215)⟩
   refine dRg z z z hc216 z (mv z) <| dRg z z z hc216 z (mv z) ?_
   obtain ⟨x220, e221, hm222⟩ := bdS (ifF hm213 hc216)
   have h223 := h201.ext s215
   refine dRXg z z z hc216 z (rd_sliceX und_72 size_9 z z h223 z z e221) ?_
   rintro _ ⟨a224, n225, c226, rfl, h227⟩
   refine dRg z z z hc216 z (mv z) <| dRg z z z hc216 z (mv z) ?_
   obtain ⟨x228, e229, hm230⟩ := bdS hm222
   refine dRXg z z z hc216 z (at_ (α := Str) und_72 size_9 z z z h223 e229) ?_
   rintro _ ⟨b231, o232, cs233, rfl, h234, h235, h236⟩
   obtain ⟨rfl, h237⟩ := Str_open h235
   refine dRg z z z hc216 z (l1 agg_9 z fid (h234.at0 z)) ?_
   obtain ⟨r240, e241, hm242⟩ := bdS hm230
   refine dEg z z z hc216 z (fc Tryz.call149 z (W_spec_ContainsText (B := B) e241 (lt_ hBw (lt_ h209 s215.size)) h227 h237)) (.inr fun _ _ h => chgB (h.1)) ?_
   rintro _ w243 ⟨s244, rfl⟩
   exact dR z z (pF z hc216 z) <| PR_done <| fun _ q => ⟨r240, som hm242, (q.weaken (s3 z z z)), (bup (bup s197 s215) s244)⟩
  rintro a247 w248 ⟨x192, rfl, hS249, s250⟩
  revert a247
  refine Wo <| Wc z (fun hc256 => ?_) (fun hc256 => ?_)
  ·exact Ws <| Ra z <| Wn <| Wr (rtO (QO_retL (som (ifT hm195 hc256)).symm (ret1 hr z ⟨(bup s86 s250), z⟩)))
  exact Wk <| Wg <| Rm z <| R z (inc_ hk84 (lt_ (repS.len p1_0) LEN_le) z z) <| Ra z <| Wl <| fun _ q => ⟨(), (som (ifF hm195 hc256)).symm, ⟨(q.weaken (s2 z z)), (bup s86 s250)⟩⟩
 ·rintro _ a261 w262 ⟨hS263, s264⟩
  refine Wu (e := [(0, (.slice pa1_0 pn1_0 pc1_0)), (3, (vI ((x1.length : Nat) : Int)))]) (N := 29) ?_ hS263
  refine Wq <| Ws <| Rm z <| Rm z <| R z (lnR und_72 z (p1_0.ext s264)) <| R z (lss z z) <| Wn <| Wc z (fun hc => (noltt hc).elim) (fun _ => ?_)
  exact WC_exit (fun a' ha' => ⟨rfl, ⟨(Sat.weaken ha' (s1 z)), s264⟩⟩)
 ·rintro _ a266 w267 rfl ⟨hS268, s269⟩
  have hm270 := elL hm79
  revert a266
  refine Wo <| Ws <| Rm z ?_
  have h271 := p1_0.ext s269
  refine R z (lnR und_72 z h271) ?_
  obtain ⟨r273, e274, hm275⟩ := bdS hm270
  refine E z (fc Tryz.call67 z (W_spec_l1In (B := B) e274 (lt_ hBw s269.size) (inI_len (repS.len h271)) (ii z) (ii z))) ?_
  rintro _ w276 ⟨s277, rfl⟩
  refine Ra z <| Wn ?_
  obtain rfl := som hm275
  exact Wr (ret1 hr z ⟨(bup s269 s277), z⟩)
 rintro r279 ex280 a281 w282 rfl ⟨rfl, hq283⟩
 have hm284 := elR hm79
 obtain rfl := som hm284
 exact ⟨hq283, z⟩
def Q_spec_l4Tags (w0 : World) (B : Nat) (r : Bool) (v : Value) (w' : World) : Prop := Below w0.heap.size w0 w' ∧ (fun r1 => (vB r1) = v) r
theorem W_spec_l4Tags {x1 : Desc} {x2 : Rule} {res : Bool} (hm : M_spec_l4Tags x1 x2 = some res) (hBw : B ≤ w0.heap.size) (p1_0 : repS w0 B (.slice pa1_0 pn1_0 pc1_0) x1.rules) (p2_0 : x2.name.b.length ≤ LEN) (p2_1 : inI x2.kind) (p2_2 : inI x2.size) (p2_4 : repS w0 B (.slice pa2_4 pn2_4 pc2_4) x2.bytes) (p2_5 : repS w0 B (.slice pa2_5 pn2_5 pc2_5) x2.names) (p2_6 : repS w0 B (.slice pa2_6 pn2_6 pc2_6) x2.tags) (p2_7 : repS w0 B (.slice pa2_7 pn2_7 pc2_7) x2.kids) : CallsR Tryz.prog 134 [(.agg #[(.slice pa1_0 pn1_0 pc1_0)]), (.agg #[(Str.v x2.name), (vI x2.kind), (vI x2.size), (vB x2.little), (.slice pa2_4 pn2_4 pc2_4), (.slice pa2_5 pn2_5 pc2_5), (.slice pa2_6 pn2_6 pc2_6), (.slice pa2_7 pn2_7 pc2_7)])] w0 (Q_spec_l4Tags w0 B res) := by
 unfold M_spec_l4Tags at hm
 obtain ⟨fn, hf, hb, hN, hr⟩ := fnE Tryz.func134
 refine goW hf (hb.trans z) (hN.trans z) (lb z) <| Ws <| E z (fb z) ?_
 rintro _ w21 ⟨rfl, h22⟩
 have h23 := h22.below
 have h24 : Blk w21 w0.heap.size [(.slice pa1_0 pn1_0 pc1_0)] := h22.blk
 refine E z (fb z) ?_
 rintro _ w25 ⟨rfl, h26⟩
 have h27 := h26.below
 have h28 : Blk w25 w21.heap.size [(Str.v x2.name), (vI x2.kind), (vI x2.size), (vB x2.little), (.slice pa2_4 pn2_4 pc2_4), (.slice pa2_5 pn2_5 pc2_5), (.slice pa2_6 pn2_6 pc2_6), (.slice pa2_7 pn2_7 pc2_7)] := h26.blk
 refine Ra z <| Wn <| Wq <| Wq ?_
 obtain ⟨u44, hu45, hm46⟩ := bdS hm
 refine WC_cut (fun a w => ∃ (x43 : Bool), x43 = u44 ∧ Sat 59 [(2, (.pointer (some ⟨w0.heap.size, 0, none⟩))), (3, (.pointer (some ⟨w21.heap.size, 0, none⟩))), (20, (vB x43))] a ∧ Below w25.heap.size w25 w) ?_ ?_
 ·refine Wg <| R z (fd fld_82_7 z) <| R z (l1 agg_73 z fid (h28.at z)) <| R z (lnR und_73 z ((p2_7.ext h23).ext h27)) <| R z (fd fld_82_6 z) <| R z (l1 agg_73 z fid (h28.at z)) ?_
  have h50 := (p2_6.ext h23).ext h27
  refine R z (lnR und_73 z h50) <| R z (add_ z z) <| R z (rd_neq z z) <| Rm z ?_
  rcases bsplit ((x2.kids.length : Int) != (iadd (x2.tags.length : Int) 1)) with hc51 | hc51
  ·iterate 5 refine Nh z hc51 ?_
   exact R z (pT z hc51 z) <| Wl <| fun _ q => ⟨true, som (ifT hu45 hc51), (q.weaken (s3 z z z)), (br w25)⟩
  refine Rh z hc51 (fd fld_82_6 z) <| Rh z hc51 (l1 agg_73 z fid (h28.at z)) <| Rh z hc51 (lnR und_73 z h50) ?_
  obtain ⟨r56, e57, hm58⟩ := bdS (ifF hu45 hc51)
  refine Eg z z hc51 z (fc Tryz.call67 z (W_spec_l1In (B := B) e57 (lt_ hBw (lt_ h23.size h27.size)) (inI_len (repS.len h50)) (ii z) (ii z))) ?_
  rintro _ w59 ⟨s60, rfl⟩
  exact Rh z hc51 (not_ z) <| R z (pF z hc51 z) <| Wl <| fun _ q => ⟨!r56, som hm58, (q.weaken (s3 z z z)), s60⟩
 rintro a61 w62 ⟨x43, rfl, hS63, s64⟩
 revert a61
 refine Wo <| Wc z (fun hc71 => ?_) (fun hc71 => ?_)
 ·refine Ws <| Ra z <| Wn ?_
  obtain rfl := som (ifT hm46 hc71)
  exact Wr (ret1 hr z ⟨(bup (bup h23 h27) s64), z⟩)
 refine Wk <| Wq <| Ws <| Ra z <| Wn ?_
 obtain ⟨u178, hu179, hm180⟩ := bdS (ifF hm46 hc71)
 refine WC_forN (σ := Unit) (ρ := Bool) (fun (k181 : Nat) (_ : Unit) a w => Sat 59 [(2, (.pointer (some ⟨w0.heap.size, 0, none⟩))), (3, (.pointer (some ⟨w21.heap.size, 0, none⟩))), (5, (vI ((k181 : Nat) : Int)))] a ∧ Below w62.heap.size w62 w) (fun (_ : Unit) a w => Sat 59 [] a ∧ Below w62.heap.size w62 w) (fun r ex a w => ex = .ret ∧ RetPost Tryz.prog fn (Q_spec_l4Tags w0 B r) a w) hu179 ?_ ?_ ?_ ?_ ?_
 ·exact fun _ q => ⟨(q.weaken (s3 z z z)), (br w62)⟩
 ·rintro k181 _ a182 w183 o184 hk185 ⟨hS186, s187⟩ hm188
  refine Wu (e := [(2, (.pointer (some ⟨w0.heap.size, 0, none⟩))), (3, (.pointer (some ⟨w21.heap.size, 0, none⟩))), (5, (vI ((k181 : Nat) : Int)))]) (N := 59) ?_ hS186
  refine Wq <| Ws <| Rm z <| R z (fd fld_82_6 z) ?_
  have h190 := (h28.ext s64).ext s187
  refine R z (l1 agg_73 z fid (h190.at z)) ?_
  have h194 := (((p2_6.ext h23).ext h27).ext s64).ext s187
  refine R z (lnR und_73 z h194) <| R z (lss z z) <| Wn <| Wc z (fun _ => ?_) (fun hc => (nolt hk185 hc).elim)
  refine Wk <| Wq <| WC_block <| Wq ?_
  obtain ⟨u378, hu379, hm380⟩ := bdS hm188
  refine WC_cut (fun a w => ∃ (x377 : Bool), x377 = u378 ∧ Sat 59 [(2, (.pointer (some ⟨w0.heap.size, 0, none⟩))), (3, (.pointer (some ⟨w21.heap.size, 0, none⟩))), (5, (vI ((k181 : Nat) : Int))), (58, (vB x377))] a ∧ Below w183.heap.size w183 w) ?_ ?_
  ·refine WC_draw (X := noX) 0 (.rd 0 (.rd 1 (.rd 2 (.rd 3 (.rd 4 (.rd 5 (.rd 6 (.rd 7 (.rd 8 (.rd 9 (.ef 10 (.ef 11 (.rd 12 (.rd 13 (.rd 14 (.rd 15 (.rd 16 (.rd 17 (.rd 18 (.rd 19 (.rd 20 (.rd 21 (.rd 22 (.rd 23 (.rd 24 (.rd 25 (.rd 26 (.rd 27 (.rd 28 (.rd 29 (.rd 30 .done))))))))))))))))))))))))))))))) mo (by kernel_rfl) fun w381 s382 _ => dR z z (fd fld_82_6 z) ?_
   have h383 := h190.ext s382
   refine dR z z (l1 agg_73 z fid (h383.at z)) <| dR z z (mv z) ?_
   obtain ⟨x384, e385, hm386⟩ := bdS hu379
   have h387 := h194.ext s382
   refine dRX z z (at_ (α := Int) und_73 size_3 z z z h387 e385) ?_
   rintro _ ⟨b388, o389, cs390, rfl, h391, h392, h393⟩
   obtain ⟨rfl, h394⟩ := Int_open h392
   refine dR z z (l1 agg_3 z fid (h391.at0 z)) <| dR z z (lN (vs := [(.slice pa1_0 pn1_0 pc1_0)]) agg_31 size_31 z z fid (((((h24.ext h27).ext s64).ext s187).ext s382).row 0 1 z)) <| dR z z (fd fld_82_7 z) <| dR z z (l1 agg_73 z fid (h383.at z)) ?_
   obtain ⟨x399, e400, hm401⟩ := bdS hm386
   refine dRX z z (at_ (α := Int) und_73 size_3 z z z (((((p2_7.ext h23).ext h27).ext s64).ext s187).ext s382) e400) ?_
   rintro _ ⟨b407, o408, cs409, rfl, h410, h411, h412⟩
   obtain ⟨rfl, h413⟩ := Int_open h411
   refine dR z z (l1 agg_3 z fid (h410.at0 z)) ?_
   have h422 := lt_ (lt_ (lt_ (lt_ h23.size h27.size) s64.size) s187.size) s382.size
   obtain ⟨r424, e425, hm426⟩ := bdS hm401
   refine dE z z (fc Tryz.call132 z (W_spec_IntegerLimit (B := B) e425 (lt_ hBw h422) (((((p1_0.ext h23).ext h27).ext s64).ext s187).ext s382) h413)) (.inr fun _ _ h => chgB (h.1)) ?_
   rintro _ w427 ⟨s428, rfl, h429⟩
   obtain ⟨r432, e433, hm434⟩ := bdS hm426
   refine dE z z (fc Tryz.call67 z (W_spec_l1In (B := B) e433 (lt_ hBw (lt_ h422 s428.size)) h394 (ii z) h429)) (.inr fun _ _ h => chgB (h.1)) ?_
   rintro _ w435 ⟨s436, rfl⟩
   refine dR z z (not_ z) <| dR z z (mv z) ?_
   rcases bsplit (!r432) with hc437 | hc437
   ·iterate 3 refine dRn z z z hc437 z ?_
    iterate 12 refine dRu z z z z ?_
    exact dRn z z z hc437 z <| dR z z (pT z hc437 z) <| PR_done <| fun _ q => ⟨true, som (ifT hm434 hc437), (q.weaken (s4 z z z z)), (bup (bup s382 s428) s436)⟩
   have hm441 := ifF hm434 hc437
   refine dRg z z z hc437 z (mv z) <| dRg z z z hc437 z (rd_gtr z z) <| dRg z z z hc437 z (mv z) ?_
   rcases bsplit (decide (0 < ((k181 : Nat) : Int))) with hc442 | hc442
   ·refine dRg z z z hc442 z (fd fld_82_6 z) ?_
    have h445 := (h383.ext s428).ext s436
    refine dRg z z z hc442 z (l1 agg_73 z fid (h445.at z)) <| dRg z z z hc442 z (mv z) <| dRg z z z hc442 z (rd_sub z z) ?_
    obtain ⟨x446, e447, hm448⟩ := bdS (ifT hm441 hc442)
    have h450 := (h387.ext s428).ext s436
    refine dRXg z z z hc442 z (at_ (α := Int) und_73 size_3 z z z h450 e447) ?_
    rintro _ ⟨b451, o452, cs453, rfl, h454, h455, h456⟩
    obtain ⟨rfl, h457⟩ := Int_open h455
    refine dRg z z z hc442 z (l1 agg_3 z fid (h454.at0 z)) <| dRg z z z hc442 z (fd fld_82_6 z) <| dRg z z z hc442 z (l1 agg_73 z fid (h445.at z)) <| dRg z z z hc442 z (mv z) ?_
    obtain ⟨x458, e459, hm460⟩ := bdS hm448
    refine dRXg z z z hc442 z (at_ (α := Int) und_73 size_3 z z z h450 e459) ?_
    rintro _ ⟨b461, o462, cs463, rfl, h464, h465, h466⟩
    obtain ⟨rfl, h467⟩ := Int_open h465
    exact dRg z z z hc442 z (l1 agg_3 z fid (h464.at0 z)) <| dRg z z z hc442 z (rd_geq z z) <| dRg z z z hc437 z (pT z hc442 z) <| dR z z (pF z hc437 z) <| PR_done <| fun _ q => ⟨decide (x458 ≤ x446), som hm460, (q.weaken (s4 z z z z)), (bup (bup s382 s428) s436)⟩
   iterate 12 refine dRn z z z hc442 z ?_
   exact dRg z z z hc437 z (pF z hc442 z) <| dR z z (pF z hc437 z) <| PR_done <| fun _ q => ⟨false, som (ifF hm441 hc442), (q.weaken (s4 z z z z)), (bup (bup s382 s428) s436)⟩
  rintro a473 w474 ⟨x377, rfl, hS475, s476⟩
  revert a473
  refine Wo <| Wc z (fun hc485 => ?_) (fun hc485 => ?_)
  ·exact Ws <| Ra z <| Wn <| Wr (rtO (QO_retL (som (ifT hm380 hc485)).symm (ret1 hr z ⟨(bup (bup (bup (bup h23 h27) s64) s187) s476), z⟩)))
  exact Wk <| Wg <| Rm z <| R z (inc_ hk185 (lt_ (repS.len p2_6) LEN_le) z z) <| Ra z <| Wl <| fun _ q => ⟨(), (som (ifF hm380 hc485)).symm, ⟨(q.weaken (s3 z z z)), (bup s187 s476)⟩⟩
 ·rintro _ a493 w494 ⟨hS495, s496⟩
  refine Wu (e := [(2, (.pointer (some ⟨w0.heap.size, 0, none⟩))), (3, (.pointer (some ⟨w21.heap.size, 0, none⟩))), (5, (vI ((x2.tags.length : Nat) : Int)))]) (N := 59) ?_ hS495
  refine Wq <| Ws <| Rm z <| R z (fd fld_82_6 z) <| R z (l1 agg_73 z fid (((h28.ext s64).ext s496).at z)) <| R z (lnR und_73 z ((((p2_6.ext h23).ext h27).ext s64).ext s496)) <| R z (lss z z) <| Wn <| Wc z (fun hc => (noltt hc).elim) (fun _ => ?_)
  exact WC_exit (fun a' ha' => ⟨rfl, ⟨(Sat.weaken ha' sn), s496⟩⟩)
 ·rintro _ a503 w504 rfl ⟨hS505, s506⟩
  have hm507 := elL hm180
  revert a503
  refine Wo <| Ws <| Ra z <| Wn ?_
  obtain rfl := som hm507
  exact Wr (ret1 hr z ⟨(bup (bup (bup h23 h27) s64) s506), z⟩)
 rintro r511 ex512 a513 w514 rfl ⟨rfl, hq515⟩
 have hm516 := elR hm180
 obtain rfl := som hm516
 exact ⟨hq515, z⟩
def Q_spec_l4Kind (w0 : World) (B : Nat) (r : Bool) (v : Value) (w' : World) : Prop := Below w0.heap.size w0 w' ∧ (fun r1 => (vB r1) = v) r
theorem W_spec_l4Kind {x1 : Desc} {x2 : Rule} {res : Bool} (hm : M_spec_l4Kind x1 x2 = some res) (hBw : B ≤ w0.heap.size) (p1_0 : repS w0 B (.slice pa1_0 pn1_0 pc1_0) x1.rules) (p2_0 : x2.name.b.length ≤ LEN) (p2_1 : inI x2.kind) (p2_2 : inI x2.size) (p2_4 : repS w0 B (.slice pa2_4 pn2_4 pc2_4) x2.bytes) (p2_5 : repS w0 B (.slice pa2_5 pn2_5 pc2_5) x2.names) (p2_6 : repS w0 B (.slice pa2_6 pn2_6 pc2_6) x2.tags) (p2_7 : repS w0 B (.slice pa2_7 pn2_7 pc2_7) x2.kids) : CallsR Tryz.prog 97 [(.agg #[(.slice pa1_0 pn1_0 pc1_0)]), (.agg #[(Str.v x2.name), (vI x2.kind), (vI x2.size), (vB x2.little), (.slice pa2_4 pn2_4 pc2_4), (.slice pa2_5 pn2_5 pc2_5), (.slice pa2_6 pn2_6 pc2_6), (.slice pa2_7 pn2_7 pc2_7)])] w0 (Q_spec_l4Kind w0 B res) := by
 unfold M_spec_l4Kind at hm
 obtain ⟨fn, hf, hb, hN, hr⟩ := fnE Tryz.func97
 refine goW hf (hb.trans z) (hN.trans z) (lb z) <| Ws <| E z (fb z) ?_
 rintro _ w21 ⟨rfl, h22⟩
 have h23 := h22.below
 have h24 : Blk w21 w0.heap.size [(.slice pa1_0 pn1_0 pc1_0)] := h22.blk
 refine E z (fb z) ?_
 rintro _ w25 ⟨rfl, h26⟩
 have h27 := h26.below
 have h28 : Blk w25 w21.heap.size [(Str.v x2.name), (vI x2.kind), (vI x2.size), (vB x2.little), (.slice pa2_4 pn2_4 pc2_4), (.slice pa2_5 pn2_5 pc2_5), (.slice pa2_6 pn2_6 pc2_6), (.slice pa2_7 pn2_7 pc2_7)] := h26.blk
 refine Ra z <| Wn <| Wq <| Ws <| R z (fd fld_82_1 z) <| R z (l1 agg_3 z fid (h28.at z)) <| Wn <| WC_block <| Ws <| R z (eql z z) <| Ra z <| Wn <| Wc z (fun hc872 => ?_) (fun hc872 => ?_)
 ·refine Wq ?_
  obtain ⟨u908, hu909, hm910⟩ := bdS (ifT hm hc872)
  refine WC_cut (fun a w => ∃ (x907 : Bool), x907 = u908 ∧ Sat 114 [(4, (vB x907))] a ∧ Below w25.heap.size w25 w) ?_ ?_
  ·refine Wg <| R z (lN (vs := [(Str.v x2.name), (vI x2.kind), (vI x2.size), (vB x2.little), (.slice pa2_4 pn2_4 pc2_4), (.slice pa2_5 pn2_5 pc2_5), (.slice pa2_6 pn2_6 pc2_6), (.slice pa2_7 pn2_7 pc2_7)]) agg_82 size_82 z z fid (h28.row 0 8 z)) ?_
   have h919 := lt_ h23.size h27.size
   obtain ⟨r921, e922, hm923⟩ := bdS hu909
   refine E z (fc Tryz.call131 z (W_spec_l4Shape (B := B) e922 (lt_ hBw h919) p2_0 p2_1 p2_2 ((p2_4.ext h23).ext h27) ((p2_5.ext h23).ext h27) ((p2_6.ext h23).ext h27) ((p2_7.ext h23).ext h27) (ii z))) ?_
   rintro _ w924 ⟨s925, rfl⟩
   refine Rm z ?_
   rcases bsplit r921 with hc926 | hc926
   ·refine Rh z hc926 (fd fld_82_2 z) ?_
    have h928 := h28.ext s925
    refine Rh z hc926 (l1 agg_3 z fid (h928.at z)) ?_
    obtain ⟨r931, e932, hm933⟩ := bdS (ifT hm923 hc926)
    refine Eg z z hc926 z (fc Tryz.call67 z (W_spec_l1In (B := B) e932 (lt_ hBw (lt_ h919 s925.size)) p2_2 (ii z) (ii z))) ?_
    rintro _ w934 ⟨s935, rfl⟩
    refine R z (pT z hc926 z) <| Rm z ?_
    rcases bsplit r931 with hc936 | hc936
    ·have hm937 := ifT hm933 hc936
     refine Rh z hc936 (fd fld_82_3 z) ?_
     have h938 := h928.ext s935
     refine Rh z hc936 (l1 agg_4 z fid (h938.at z)) <| Rh z hc936 (not_ z) <| Rh z hc936 (mv z) ?_
     rcases bsplit (!x2.little) with hc939 | hc939
     ·iterate 3 refine Nh z hc939 ?_
      exact Rh z hc936 (pT z hc939 z) <| R z (pT z hc936 z) <| Ra z <| Wl <| fun _ q => ⟨true, som (ifT hm937 hc939), (q.weaken (s1 z)), (bup s925 s935)⟩
     exact Rh z hc939 (fd fld_82_2 z) <| Rh z hc939 (l1 agg_3 z fid (h938.at z)) <| Rh z hc939 (rd_gtr z z) <| Rh z hc936 (pF z hc939 z) <| R z (pT z hc936 z) <| Ra z <| Wl <| fun _ q => ⟨decide (1 < x2.size), som (ifF hm937 hc939), (q.weaken (s1 z)), (bup s925 s935)⟩
    iterate 4 refine Nh z hc936 ?_
    exact Nv z <| Nv z <| Nv z <| Nh z hc936 <| R z (pF z hc936 z) <| Ra z <| Wl <| fun _ q => ⟨false, som (ifF hm933 hc936), (q.weaken (s1 z)), (bup s925 s935)⟩
   iterate 3 refine Nh z hc926 ?_
   exact R z (pF z hc926 z) <| Rm z <| Nh z z <| Nh z z <| Nh z z <| Nh z z <| Nv z <| Nv z <| Nv z <| Nh z z <| R z (pF z z z) <| Ra z <| Wl <| fun _ q => ⟨false, som (ifF hm923 hc926), (q.weaken (s1 z)), s925⟩
  rintro a947 w948 ⟨x907, rfl, hS949, s950⟩
  revert a947
  refine Wo ?_
  obtain rfl := som hm910
  exact Wr (rtO (ret1 hr z ⟨(bup (bup h23 h27) s950), z⟩))
 have hm953 := ifF hm hc872
 refine Ws <| R z (eql z z) <| Ra z <| Wn <| Wc z (fun hc1323 => ?_) (fun hc1323 => ?_)
 ·refine Wq ?_
  obtain ⟨u1353, hu1354, hm1355⟩ := bdS (ifT hm953 hc1323)
  refine WC_cut (fun a w => ∃ (x1352 : Bool), x1352 = u1353 ∧ Sat 114 [(4, (vB x1352))] a ∧ Below w25.heap.size w25 w) ?_ ?_
  ·refine Wg <| R z (lN (vs := [(Str.v x2.name), (vI x2.kind), (vI x2.size), (vB x2.little), (.slice pa2_4 pn2_4 pc2_4), (.slice pa2_5 pn2_5 pc2_5), (.slice pa2_6 pn2_6 pc2_6), (.slice pa2_7 pn2_7 pc2_7)]) agg_82 size_82 z z fid (h28.row 0 8 z)) ?_
   have h1357 := (p2_4.ext h23).ext h27
   have h1364 := lt_ h23.size h27.size
   obtain ⟨r1366, e1367, hm1368⟩ := bdS hu1354
   refine E z (fc Tryz.call131 z (W_spec_l4Shape (B := B) e1367 (lt_ hBw h1364) p2_0 p2_1 p2_2 h1357 ((p2_5.ext h23).ext h27) ((p2_6.ext h23).ext h27) ((p2_7.ext h23).ext h27) (ii z))) ?_
   rintro _ w1369 ⟨s1370, rfl⟩
   refine Rm z ?_
   rcases bsplit r1366 with hc1371 | hc1371
   ·refine Rh z hc1371 (fd fld_82_4 z) <| Rh z hc1371 (l1 agg_25 z fid ((h28.ext s1370).at z)) ?_
    have h1374 := h1357.ext s1370
    refine Rh z hc1371 (lnR und_25 z h1374) ?_
    obtain ⟨r1377, e1378, hm1379⟩ := bdS (ifT hm1368 hc1371)
    refine Eg z z hc1371 z (fc Tryz.call67 z (W_spec_l1In (B := B) e1378 (lt_ hBw (lt_ h1364 s1370.size)) (inI_len (repS.len h1374)) (ii z) (ii z))) ?_
    rintro _ w1380 ⟨s1381, rfl⟩
    exact R z (pT z hc1371 z) <| Ra z <| Wl <| fun _ q => ⟨r1377, som hm1379, (q.weaken (s1 z)), (bup s1370 s1381)⟩
   iterate 4 refine Nh z hc1371 ?_
   exact R z (pF z hc1371 z) <| Ra z <| Wl <| fun _ q => ⟨false, som (ifF hm1368 hc1371), (q.weaken (s1 z)), s1370⟩
  rintro a1384 w1385 ⟨x1352, rfl, hS1386, s1387⟩
  revert a1384
  refine Wo ?_
  obtain rfl := som hm1355
  exact Wr (rtO (ret1 hr z ⟨(bup (bup h23 h27) s1387), z⟩))
 have hm1390 := ifF hm953 hc1323
 refine Ws <| R z (eql z z) <| Ra z <| Wn <| Wc z (fun hc1719 => ?_) (fun hc1719 => ?_)
 ·refine Wq ?_
  obtain ⟨u1748, hu1749, hm1750⟩ := bdS (ifT hm1390 hc1719)
  refine WC_cut (fun a w => ∃ (x1747 : Bool), x1747 = u1748 ∧ Sat 114 [(4, (vB x1747))] a ∧ Below w25.heap.size w25 w) ?_ ?_
  ·refine Wg <| R z (lN (vs := [(Str.v x2.name), (vI x2.kind), (vI x2.size), (vB x2.little), (.slice pa2_4 pn2_4 pc2_4), (.slice pa2_5 pn2_5 pc2_5), (.slice pa2_6 pn2_6 pc2_6), (.slice pa2_7 pn2_7 pc2_7)]) agg_82 size_82 z z fid (h28.row 0 8 z)) ?_
   have h1759 := lt_ h23.size h27.size
   obtain ⟨r1761, e1762, hm1763⟩ := bdS hu1749
   refine E z (fc Tryz.call131 z (W_spec_l4Shape (B := B) e1762 (lt_ hBw h1759) p2_0 p2_1 p2_2 ((p2_4.ext h23).ext h27) ((p2_5.ext h23).ext h27) ((p2_6.ext h23).ext h27) ((p2_7.ext h23).ext h27) (ii z))) ?_
   rintro _ w1764 ⟨s1765, rfl⟩
   refine Rm z ?_
   rcases bsplit r1761 with hc1766 | hc1766
   ·refine Rh z hc1766 (fd fld_82_2 z) <| Rh z hc1766 (l1 agg_3 z fid ((h28.ext s1765).at z)) ?_
    obtain ⟨r1771, e1772, hm1773⟩ := bdS (ifT hm1763 hc1766)
    refine Eg z z hc1766 z (fc Tryz.call67 z (W_spec_l1In (B := B) e1772 (lt_ hBw (lt_ h1759 s1765.size)) p2_2 (ii z) (ii z))) ?_
    rintro _ w1774 ⟨s1775, rfl⟩
    exact R z (pT z hc1766 z) <| Ra z <| Wl <| fun _ q => ⟨r1771, som hm1773, (q.weaken (s1 z)), (bup s1765 s1775)⟩
   iterate 3 refine Nh z hc1766 ?_
   exact R z (pF z hc1766 z) <| Ra z <| Wl <| fun _ q => ⟨false, som (ifF hm1763 hc1766), (q.weaken (s1 z)), s1765⟩
  rintro a1778 w1779 ⟨x1747, rfl, hS1780, s1781⟩
  revert a1778
  refine Wo ?_
  obtain rfl := som hm1750
  exact Wr (rtO (ret1 hr z ⟨(bup (bup h23 h27) s1781), z⟩))
 have hm1784 := ifF hm1390 hc1719
 refine Ws <| R z (eql z z) <| Ra z <| Wn <| Wc z (fun hc2074 => ?_) (fun hc2074 => ?_)
 ·refine Wq ?_
  obtain ⟨u2130, hu2131, hm2132⟩ := bdS (ifT hm1784 hc2074)
  refine WC_cut (fun a w => ∃ (x2129 : Bool), x2129 = u2130 ∧ Sat 114 [(4, (vB x2129))] a ∧ Below w25.heap.size w25 w) ?_ ?_
  ·refine WC_draw (X := noX) 0 (.rd 0 (.ef 1 (.rd 2 (.rd 3 (.rd 4 (.rd 5 (.rd 6 (.rd 7 (.ef 8 (.rd 9 (.rd 10 (.rd 11 .done)))))))))))) mo (by kernel_rfl) fun w2133 s2134 _ => ?_
   have h2135 := h28.ext s2134
   refine dR z z (lN (vs := [(Str.v x2.name), (vI x2.kind), (vI x2.size), (vB x2.little), (.slice pa2_4 pn2_4 pc2_4), (.slice pa2_5 pn2_5 pc2_5), (.slice pa2_6 pn2_6 pc2_6), (.slice pa2_7 pn2_7 pc2_7)]) agg_82 size_82 z z fid (h2135.row 0 8 z)) ?_
   have h2147 := ((p2_7.ext h23).ext h27).ext s2134
   have h2149 := lt_ (lt_ h23.size h27.size) s2134.size
   obtain ⟨r2151, e2152, hm2153⟩ := bdS hu2131
   refine dE z z (fc Tryz.call131 z (W_spec_l4Shape (B := B) e2152 (lt_ hBw h2149) p2_0 p2_1 p2_2 (((p2_4.ext h23).ext h27).ext s2134) (((p2_5.ext h23).ext h27).ext s2134) (((p2_6.ext h23).ext h27).ext s2134) h2147 (ii z))) (.inr fun _ _ h => chgB (h.1)) ?_
   rintro _ w2154 ⟨s2155, rfl⟩
   refine dR z z (mv z) ?_
   rcases bsplit r2151 with hc2156 | hc2156
   ·refine dRg z z z hc2156 z (lN (vs := [(.slice pa1_0 pn1_0 pc1_0)]) agg_31 size_31 z z fid ((((h24.ext h27).ext s2134).ext s2155).row 0 1 z)) <| dRg z z z hc2156 z (fd fld_82_7 z) <| dRg z z z hc2156 z (l1 agg_73 z fid ((h2135.ext s2155).at z)) ?_
    obtain ⟨x2162, e2163, hm2164⟩ := bdS (ifT hm2153 hc2156)
    refine dRXg z z z hc2156 z (at_ (α := Int) und_73 size_3 z z z (h2147.ext s2155) e2163) ?_
    rintro _ ⟨b2166, o2167, cs2168, rfl, h2169, h2170, h2171⟩
    obtain ⟨rfl, h2172⟩ := Int_open h2170
    refine dRg z z z hc2156 z (l1 agg_3 z fid (h2169.at0 z)) ?_
    obtain ⟨r2179, e2180, hm2181⟩ := bdS hm2164
    refine dEg z z z hc2156 z (fc Tryz.call132 z (W_spec_IntegerLimit (B := B) e2180 (lt_ hBw (lt_ h2149 s2155.size)) ((((p1_0.ext h23).ext h27).ext s2134).ext s2155) h2172)) (.inr fun _ _ h => chgB (h.1)) ?_
    rintro _ w2182 ⟨s2183, rfl, h2184⟩
    exact dRg z z z hc2156 z (rd_gtr z z) <| dR z z (pT z hc2156 z) <| dR z z (asg z) <| PR_done <| fun _ q => ⟨decide (0 < r2179), som hm2181, (q.weaken (s1 z)), (bup (bup s2134 s2155) s2183)⟩
   iterate 5 refine dRn z z z hc2156 z ?_
   exact dEn z z z hc2156 z <| dRn z z z hc2156 z <| dR z z (pF z hc2156 z) <| dR z z (asg z) <| PR_done <| fun _ q => ⟨false, som (ifF hm2153 hc2156), (q.weaken (s1 z)), (bup s2134 s2155)⟩
  rintro a2189 w2190 ⟨x2129, rfl, hS2191, s2192⟩
  revert a2189
  refine Wo ?_
  obtain rfl := som hm2132
  exact Wr (rtO (ret1 hr z ⟨(bup (bup h23 h27) s2192), z⟩))
 have hm2195 := ifF hm1784 hc2074
 refine Ws <| R z (eql z z) <| Ra z <| Wn <| Wc z (fun hc2420 => ?_) (fun hc2420 => ?_)
 ·refine Wq ?_
  obtain ⟨u2476, hu2477, hm2478⟩ := bdS (ifT hm2195 hc2420)
  refine WC_cut (fun a w => ∃ (x2475 : Bool), x2475 = u2476 ∧ Sat 114 [(4, (vB x2475))] a ∧ Below w25.heap.size w25 w) ?_ ?_
  ·refine WC_draw (X := noX) 0 (.rd 0 (.ef 1 (.rd 2 (.rd 3 (.rd 4 (.rd 5 (.rd 6 (.rd 7 (.ef 8 (.rd 9 (.rd 10 (.rd 11 .done)))))))))))) mo (by kernel_rfl) fun w2479 s2480 _ => ?_
   have h2481 := h28.ext s2480
   refine dR z z (lN (vs := [(Str.v x2.name), (vI x2.kind), (vI x2.size), (vB x2.little), (.slice pa2_4 pn2_4 pc2_4), (.slice pa2_5 pn2_5 pc2_5), (.slice pa2_6 pn2_6 pc2_6), (.slice pa2_7 pn2_7 pc2_7)]) agg_82 size_82 z z fid (h2481.row 0 8 z)) ?_
   have h2493 := ((p2_7.ext h23).ext h27).ext s2480
   have h2495 := lt_ (lt_ h23.size h27.size) s2480.size
   obtain ⟨r2497, e2498, hm2499⟩ := bdS hu2477
   refine dE z z (fc Tryz.call131 z (W_spec_l4Shape (B := B) e2498 (lt_ hBw h2495) p2_0 p2_1 p2_2 (((p2_4.ext h23).ext h27).ext s2480) (((p2_5.ext h23).ext h27).ext s2480) (((p2_6.ext h23).ext h27).ext s2480) h2493 (ii z))) (.inr fun _ _ h => chgB (h.1)) ?_
   rintro _ w2500 ⟨s2501, rfl⟩
   refine dR z z (mv z) ?_
   rcases bsplit r2497 with hc2502 | hc2502
   ·refine dRg z z z hc2502 z (lN (vs := [(.slice pa1_0 pn1_0 pc1_0)]) agg_31 size_31 z z fid ((((h24.ext h27).ext s2480).ext s2501).row 0 1 z)) <| dRg z z z hc2502 z (fd fld_82_7 z) <| dRg z z z hc2502 z (l1 agg_73 z fid ((h2481.ext s2501).at z)) ?_
    obtain ⟨x2508, e2509, hm2510⟩ := bdS (ifT hm2499 hc2502)
    refine dRXg z z z hc2502 z (at_ (α := Int) und_73 size_3 z z z (h2493.ext s2501) e2509) ?_
    rintro _ ⟨b2512, o2513, cs2514, rfl, h2515, h2516, h2517⟩
    obtain ⟨rfl, h2518⟩ := Int_open h2516
    refine dRg z z z hc2502 z (l1 agg_3 z fid (h2515.at0 z)) ?_
    obtain ⟨r2525, e2526, hm2527⟩ := bdS hm2510
    refine dEg z z z hc2502 z (fc Tryz.call132 z (W_spec_IntegerLimit (B := B) e2526 (lt_ hBw (lt_ h2495 s2501.size)) ((((p1_0.ext h23).ext h27).ext s2480).ext s2501) h2518)) (.inr fun _ _ h => chgB (h.1)) ?_
    rintro _ w2528 ⟨s2529, rfl, h2530⟩
    exact dRg z z z hc2502 z (rd_gtr z z) <| dR z z (pT z hc2502 z) <| dR z z (asg z) <| PR_done <| fun _ q => ⟨decide (0 < r2525), som hm2527, (q.weaken (s1 z)), (bup (bup s2480 s2501) s2529)⟩
   iterate 5 refine dRn z z z hc2502 z ?_
   exact dEn z z z hc2502 z <| dRn z z z hc2502 z <| dR z z (pF z hc2502 z) <| dR z z (asg z) <| PR_done <| fun _ q => ⟨false, som (ifF hm2499 hc2502), (q.weaken (s1 z)), (bup s2480 s2501)⟩
  rintro a2535 w2536 ⟨x2475, rfl, hS2537, s2538⟩
  revert a2535
  refine Wo ?_
  obtain rfl := som hm2478
  exact Wr (rtO (ret1 hr z ⟨(bup (bup h23 h27) s2538), z⟩))
 have hm2541 := ifF hm2195 hc2420
 refine Ws <| R z (eql z z) <| Ra z <| Wn <| Wc z (fun hc2702 => ?_) (fun hc2702 => ?_)
 ·refine Wq ?_
  obtain ⟨u2732, hu2733, hm2734⟩ := bdS (ifT hm2541 hc2702)
  refine WC_cut (fun a w => ∃ (x2731 : Bool), x2731 = u2732 ∧ Sat 114 [(4, (vB x2731))] a ∧ Below w25.heap.size w25 w) ?_ ?_
  ·refine Wg <| R z (lN (vs := [(Str.v x2.name), (vI x2.kind), (vI x2.size), (vB x2.little), (.slice pa2_4 pn2_4 pc2_4), (.slice pa2_5 pn2_5 pc2_5), (.slice pa2_6 pn2_6 pc2_6), (.slice pa2_7 pn2_7 pc2_7)]) agg_82 size_82 z z fid (h28.row 0 8 z)) <| R z (fd fld_82_5 z) <| R z (l1 agg_72 z fid (h28.at z)) ?_
   have h2736 := (p2_5.ext h23).ext h27
   refine R z (lnR und_72 z h2736) ?_
   have h2743 := lt_ h23.size h27.size
   obtain ⟨r2745, e2746, hm2747⟩ := bdS hu2733
   refine E z (fc Tryz.call131 z (W_spec_l4Shape (B := B) e2746 (lt_ hBw h2743) p2_0 p2_1 p2_2 ((p2_4.ext h23).ext h27) h2736 ((p2_6.ext h23).ext h27) ((p2_7.ext h23).ext h27) (inI_len (repS.len h2736)))) ?_
   rintro _ w2748 ⟨s2749, rfl⟩
   refine Rm z ?_
   rcases bsplit r2745 with hc2750 | hc2750
   ·refine Rh z hc2750 (fd fld_82_5 z) <| Rh z hc2750 (l1 agg_72 z fid ((h28.ext s2749).at z)) ?_
    obtain ⟨r2756, e2757, hm2758⟩ := bdS (ifT hm2747 hc2750)
    refine Eg z z hc2750 z (fc Tryz.call133 z (W_spec_l4Names (B := B) e2757 (lt_ hBw (lt_ h2743 s2749.size)) (h2736.ext s2749))) ?_
    rintro _ w2759 ⟨s2760, rfl⟩
    exact R z (pT z hc2750 z) <| Ra z <| Wl <| fun _ q => ⟨r2756, som hm2758, (q.weaken (s1 z)), (bup s2749 s2760)⟩
   iterate 3 refine Nh z hc2750 ?_
   exact R z (pF z hc2750 z) <| Ra z <| Wl <| fun _ q => ⟨false, som (ifF hm2747 hc2750), (q.weaken (s1 z)), s2749⟩
  rintro a2763 w2764 ⟨x2731, rfl, hS2765, s2766⟩
  revert a2763
  refine Wo ?_
  obtain rfl := som hm2734
  exact Wr (rtO (ret1 hr z ⟨(bup (bup h23 h27) s2766), z⟩))
 have hm2769 := ifF hm2541 hc2702
 refine Ws <| R z (eql z z) <| Ra z <| Wn <| Wc z (fun hc2893 => ?_) (fun hc2893 => ?_)
 ·refine Wq ?_
  obtain ⟨u2931, hu2932, hm2933⟩ := bdS (ifT hm2769 hc2893)
  refine WC_cut (fun a w => ∃ (x2930 : Bool), x2930 = u2931 ∧ Sat 114 [(4, (vB x2930))] a ∧ Below w25.heap.size w25 w) ?_ ?_
  ·refine Wg <| R z (lN (vs := [(Str.v x2.name), (vI x2.kind), (vI x2.size), (vB x2.little), (.slice pa2_4 pn2_4 pc2_4), (.slice pa2_5 pn2_5 pc2_5), (.slice pa2_6 pn2_6 pc2_6), (.slice pa2_7 pn2_7 pc2_7)]) agg_82 size_82 z z fid (h28.row 0 8 z)) ?_
   have h2935 := (p2_4.ext h23).ext h27
   have h2937 := (p2_5.ext h23).ext h27
   have h2939 := (p2_6.ext h23).ext h27
   have h2941 := (p2_7.ext h23).ext h27
   have h2942 := lt_ h23.size h27.size
   obtain ⟨r2944, e2945, hm2946⟩ := bdS hu2932
   refine E z (fc Tryz.call131 z (W_spec_l4Shape (B := B) e2945 (lt_ hBw h2942) p2_0 p2_1 p2_2 h2935 h2937 h2939 h2941 (ii z))) ?_
   rintro _ w2947 ⟨s2948, rfl⟩
   refine Rm z ?_
   rcases bsplit r2944 with hc2949 | hc2949
   ·refine Rh z hc2949 (lN (vs := [(.slice pa1_0 pn1_0 pc1_0)]) agg_31 size_31 z z fid (((h24.ext h27).ext s2948).row 0 1 z)) <| Rh z hc2949 (lN (vs := [(Str.v x2.name), (vI x2.kind), (vI x2.size), (vB x2.little), (.slice pa2_4 pn2_4 pc2_4), (.slice pa2_5 pn2_5 pc2_5), (.slice pa2_6 pn2_6 pc2_6), (.slice pa2_7 pn2_7 pc2_7)]) agg_82 size_82 z z fid ((h28.ext s2948).row 0 8 z)) ?_
    obtain ⟨r2963, e2964, hm2965⟩ := bdS (ifT hm2946 hc2949)
    refine Eg z z hc2949 z (fc Tryz.call134 z (W_spec_l4Tags (B := B) e2964 (lt_ hBw (lt_ h2942 s2948.size)) (((p1_0.ext h23).ext h27).ext s2948) p2_0 p2_1 p2_2 (h2935.ext s2948) (h2937.ext s2948) (h2939.ext s2948) (h2941.ext s2948))) ?_
    rintro _ w2966 ⟨s2967, rfl⟩
    exact R z (pT z hc2949 z) <| Ra z <| Wl <| fun _ q => ⟨r2963, som hm2965, (q.weaken (s1 z)), (bup s2948 s2967)⟩
   iterate 3 refine Nh z hc2949 ?_
   exact R z (pF z hc2949 z) <| Ra z <| Wl <| fun _ q => ⟨false, som (ifF hm2946 hc2949), (q.weaken (s1 z)), s2948⟩
  rintro a2970 w2971 ⟨x2930, rfl, hS2972, s2973⟩
  revert a2970
  refine Wo ?_
  obtain rfl := som hm2933
  exact Wr (rtO (ret1 hr z ⟨(bup (bup h23 h27) s2973), z⟩))
 refine Wq <| Ws <| R z (eql z z) <| Ra z <| Wn ?_
 obtain ⟨u2981, hu2982, hm2983⟩ := bdS (ifF hm2769 hc2893)
 refine WC_cut (fun a w => ∃ (x2980 : Bool), x2980 = u2981 ∧ Sat 114 [(3, (.pointer (some ⟨w21.heap.size, 0, none⟩))), (6, (vI x2.kind)), (92, (vB x2980))] a ∧ Below w25.heap.size w25 w) ?_ ?_
 ·refine Wc z (fun hc2984 => ?_) (fun hc2984 => ?_)
  ·exact WC_skip <| fun _ q => ⟨x2.kind == 8, som (ifT hu2982 hc2984), (q.weaken (s3 z z z)), (br w25)⟩
  exact Wg <| R z (eql z z) <| Ra z <| Wl <| fun _ q => ⟨x2.kind == 9, som (ifF hu2982 hc2984), (q.weaken (s3 z z z)), (br w25)⟩
 rintro a2987 w2988 ⟨x2980, rfl, hS2989, s2990⟩
 revert a2987
 refine Wo <| Wc z (fun hc3066 => ?_) (fun hc3066 => ?_)
 ·refine Ws <| R z (lN (vs := [(Str.v x2.name), (vI x2.kind), (vI x2.size), (vB x2.little), (.slice pa2_4 pn2_4 pc2_4), (.slice pa2_5 pn2_5 pc2_5), (.slice pa2_6 pn2_6 pc2_6), (.slice pa2_7 pn2_7 pc2_7)]) agg_82 size_82 z z fid ((h28.ext s2990).row 0 8 z)) ?_
  obtain ⟨r3084, e3085, hm3086⟩ := bdS (ifT hm2983 hc3066)
  refine E z (fc Tryz.call131 z (W_spec_l4Shape (B := B) e3085 (lt_ hBw (lt_ (lt_ h23.size h27.size) s2990.size)) p2_0 p2_1 p2_2 (((p2_4.ext h23).ext h27).ext s2990) (((p2_5.ext h23).ext h27).ext s2990) (((p2_6.ext h23).ext h27).ext s2990) (((p2_7.ext h23).ext h27).ext s2990) (ii z))) ?_
  rintro _ w3087 ⟨s3088, rfl⟩
  refine Ra z <| Wn ?_
  obtain rfl := som hm3086
  exact Wr (rtO (ret1 hr z ⟨(bup (bup (bup h23 h27) s2990) s3088), z⟩))
 have hm3092 := ifF hm2983 hc3066
 refine Ws <| R z (eql z z) <| Ra z <| Wn <| Wc z (fun hc3139 => ?_) (fun hc3139 => ?_)
 ·refine Wq ?_
  obtain ⟨u3180, hu3181, hm3182⟩ := bdS (ifT hm3092 hc3139)
  refine WC_cut (fun a w => ∃ (x3179 : Bool), x3179 = u3180 ∧ Sat 114 [(4, (vB x3179))] a ∧ Below w2988.heap.size w2988 w) ?_ ?_
  ·refine Wg ?_
   have h3183 := h28.ext s2990
   refine R z (lN (vs := [(Str.v x2.name), (vI x2.kind), (vI x2.size), (vB x2.little), (.slice pa2_4 pn2_4 pc2_4), (.slice pa2_5 pn2_5 pc2_5), (.slice pa2_6 pn2_6 pc2_6), (.slice pa2_7 pn2_7 pc2_7)]) agg_82 size_82 z z fid (h3183.row 0 8 z)) ?_
   have h3186 := ((p2_4.ext h23).ext h27).ext s2990
   obtain ⟨r3199, e3200, hm3201⟩ := bdS hu3181
   refine E z (fc Tryz.call131 z (W_spec_l4Shape (B := B) e3200 (lt_ hBw (lt_ (lt_ h23.size h27.size) s2990.size)) p2_0 p2_1 p2_2 h3186 (((p2_5.ext h23).ext h27).ext s2990) (((p2_6.ext h23).ext h27).ext s2990) (((p2_7.ext h23).ext h27).ext s2990) (ii z))) ?_
   rintro _ w3202 ⟨s3203, rfl⟩
   refine Rm z ?_
   rcases bsplit r3199 with hc3204 | hc3204
   ·have hm3205 := ifT hm3201 hc3204
    refine Rh z hc3204 (fd fld_82_4 z) ?_
    have h3206 := h3183.ext s3203
    refine Rh z hc3204 (l1 agg_25 z fid (h3206.at z)) ?_
    have h3207 := h3186.ext s3203
    refine Rh z hc3204 (lnR und_25 z h3207) <| Rh z hc3204 (eql z z) <| R z (pT z hc3204 z) <| Rm z ?_
    rcases bsplit ((x2.bytes.length : Int) == 1) with hc3208 | hc3208
    ·refine Rh z hc3208 (fd fld_82_4 z) <| Rh z hc3208 (l1 agg_25 z fid (h3206.at z)) ?_
     obtain ⟨x3210, e3211, hm3212⟩ := bdS (ifT hm3205 hc3208)
     refine RXg z z hc3208 z (at_ (α := UInt8) und_25 size_5 z z z h3207 e3211) ?_
     rintro _ ⟨b3213, o3214, cs3215, rfl, h3216, h3217, h3218⟩
     obtain rfl := UInt8_open h3217
     exact Rh z hc3208 (l1 agg_5 z fid (h3216.at0 z)) <| Rh z hc3208 (rd_neq z z) <| R z (pT z hc3208 z) <| Ra z <| Wl <| fun _ q => ⟨(byteI x3210) != (byteI (92 : UInt8)), som hm3212, (q.weaken (s1 z)), s3203⟩
    iterate 5 refine Nh z hc3208 ?_
    exact R z (pF z hc3208 z) <| Ra z <| Wl <| fun _ q => ⟨false, som (ifF hm3205 hc3208), (q.weaken (s1 z)), s3203⟩
   iterate 4 refine Nh z hc3204 ?_
   exact R z (pF z hc3204 z) <| Rm z <| Nh z z <| Nh z z <| Nh z z <| Nh z z <| Nh z z <| R z (pF z z z) <| Ra z <| Wl <| fun _ q => ⟨false, som (ifF hm3201 hc3204), (q.weaken (s1 z)), s3203⟩
  rintro a3221 w3222 ⟨x3179, rfl, hS3223, s3224⟩
  revert a3221
  refine Wo ?_
  obtain rfl := som hm3182
  exact Wr (rtO (ret1 hr z ⟨(bup (bup (bup h23 h27) s2990) s3224), z⟩))
 refine Wk <| Ws <| Ra z <| Wn ?_
 obtain rfl := som (ifF hm3092 hc3139)
 exact Wr (ret1 hr z ⟨(bup (bup h23 h27) s2990), z⟩)
def Q_spec_IsValidRule (w0 : World) (B : Nat) (r : Bool) (v : Value) (w' : World) : Prop := Below w0.heap.size w0 w' ∧ (fun r1 => (vB r1) = v) r
theorem W_spec_IsValidRule {x1 : Desc} {x2 : Int} {res : Bool} (hm : M_spec_IsValidRule x1 x2 = some res) (hBw : B ≤ w0.heap.size) (p1_0 : repS w0 B (.slice pa1_0 pn1_0 pc1_0) x1.rules) (p2_0 : inI x2) : CallsR Tryz.prog 66 [(.agg #[(.slice pa1_0 pn1_0 pc1_0)]), (vI x2)] w0 (Q_spec_IsValidRule w0 B res) := by
 unfold M_spec_IsValidRule at hm
 obtain ⟨fn, hf, hb, hN, hr⟩ := fnE Tryz.func66
 refine goW hf (hb.trans z) (hN.trans z) (lb z) <| Ws <| E z (fb z) ?_
 rintro _ w21 ⟨rfl, h22⟩
 have h23 := h22.below
 have h24 : Blk w21 w0.heap.size [(.slice pa1_0 pn1_0 pc1_0)] := h22.blk
 refine Ra z <| Wn <| Wq <| Ws <| Rm z <| R z (fd fld_31_0 z) <| R z (l1 agg_29 z fid (h24.at z)) ?_
 have h25 := p1_0.ext h23
 refine R z (lnR und_29 z h25) <| R z (rd_sub z z) ?_
 obtain ⟨r27, e28, hm29⟩ := bdS hm
 refine E z (fc Tryz.call67 z (W_spec_l1In (B := B) e28 (lt_ hBw h23.size) p2_0 (ii z) (iS _ _))) ?_
 rintro _ w30 ⟨s31, rfl⟩
 refine R z (not_ z) <| Wn <| Wc z (fun hc37 => ?_) (fun hc37 => ?_)
 ·refine Ws <| Ra z <| Wn ?_
  obtain rfl := som (ifT hm29 hc37)
  exact Wr (ret1 hr z ⟨(bup h23 s31), z⟩)
 refine Wk <| Ws <| R z (fd fld_31_0 z) ?_
 have h41 := h24.ext s31
 refine R z (l1 agg_29 z fid (h41.at z)) <| Rm z ?_
 obtain ⟨x42, e43, hm44⟩ := bdS (ifF hm29 hc37)
 have h45 := h25.ext s31
 refine RX z (at_ (α := Rule) und_29 size_82 z z z h45 e43) ?_
 rintro _ ⟨b46, o47, cs48, rfl, h49, h50, h51⟩
 obtain ⟨a55, n56, c57, a59, n60, c61, a63, n64, c65, a67, n68, c69, rfl, h52, h53, h54, h58, h62, h66, h70⟩ := Rule_open h50
 refine R z (lN (vs := [(Str.v x42.name), (vI x42.kind), (vI x42.size), (vB x42.little), (.slice a55 n56 c57), (.slice a59 n60 c61), (.slice a63 n64 c65), (.slice a67 n68 c69)]) agg_82 size_82 z z fid h49) <| E z (fa zero_82) ?_
 rintro _ w71 ⟨rfl, h72⟩
 have h73 := h72.below
 have h74 : Blk w71 w30.heap.size [(Str.v (⟨[]⟩ : Str)), (vI 0), (vI 0), (vB false), (.slice none 0 0), (.slice none 0 0), (.slice none 0 0), (.slice none 0 0)] := h72.blk
 refine E0 (fs (cur' := [(Str.v x42.name), (vI x42.kind), (vI x42.size), (vB x42.little), (.slice a55 n56 c57), (.slice a59 n60 c61), (.slice a63 n64 c65), (.slice a67 n68 c69)]) size_82 z z h74 z (lb z) (oneAll z) z) ?_
 rintro _ w75 ⟨h76, s77⟩
 have h78 := s77.one
 refine Wn <| Wq <| Ws <| Ra z <| Wn ?_
 obtain ⟨u134, hu135, hm136⟩ := bdS hm44
 refine WC_forN (σ := Unit) (ρ := Bool) (fun (k137 : Nat) (_ : Unit) a w => Sat 58 [(1, (vI x2)), (2, (.pointer (some ⟨w0.heap.size, 0, none⟩))), (5, (.pointer (some ⟨w30.heap.size, 0, none⟩))), (6, (vI ((k137 : Nat) : Int)))] a ∧ Below w75.heap.size w75 w) (fun (_ : Unit) a w => Sat 58 [(1, (vI x2)), (2, (.pointer (some ⟨w0.heap.size, 0, none⟩))), (5, (.pointer (some ⟨w30.heap.size, 0, none⟩)))] a ∧ Below w75.heap.size w75 w) (fun r ex a w => ex = .ret ∧ RetPost Tryz.prog fn (Q_spec_IsValidRule w0 B r) a w) hu135 ?_ ?_ ?_ ?_ ?_
 ·exact fun _ q => ⟨(q.weaken (s4 z z z z)), (br w75)⟩
 ·rintro k137 _ a138 w139 o140 hk141 ⟨hS142, s143⟩ hm144
  refine Wu (e := [(1, (vI x2)), (2, (.pointer (some ⟨w0.heap.size, 0, none⟩))), (5, (.pointer (some ⟨w30.heap.size, 0, none⟩))), (6, (vI ((k137 : Nat) : Int)))]) (N := 58) ?_ hS142
  refine Wq <| Ws <| Rm z <| Rm z <| R z (lss z z) <| Wn <| Wc z (fun _ => ?_) (fun hc => (noltI hk141 hc).elim)
  refine Wk <| Wq <| WC_block <| Wq <| WC_draw (X := noX) 0 (.rd 0 (.rd 1 (.rd 2 (.rd 3 (.rd 4 (.rd 5 (.rd 6 (.rd 7 (.rd 8 .done))))))))) mo (by kernel_rfl) fun w200 s201 _ => dR z z (fd fld_31_0 z) <| dR z z (l1 agg_29 z fid (((((h41.ext h73).chg h78 (djs (mm1 h24.lt s31.size))).ext s143).ext s201).at z)) <| dR z z (mv z) ?_
  obtain ⟨x207, e208, hm209⟩ := bdS hm144
  have h211 := lt_ h23.size s31.size
  refine dRX z z (at_ (α := Rule) und_29 size_82 z z z ((((h45.ext h73).chg h78 (ltge (mem1le (lt_ hBw h211)))).ext s143).ext s201) e208) ?_
  rintro _ ⟨b217, o218, cs219, rfl, h220, h221, h222⟩
  obtain ⟨a226, n227, c228, a230, n231, c232, a234, n235, c236, a238, n239, c240, rfl, h223, h224, h225, h229, h233, h237, h241⟩ := Rule_open h221
  refine dR z z (fd fld_82_0 z) <| dR z z (l1 agg_9 z fid (h220.at (j := 0) z)) <| dR z z (fd fld_82_0 z) <| dR z z (l1 agg_9 z fid (((h76.ext s143).ext s201).at z)) <| dR z z (rd_eqlT z z) <| PR_done <| Wo <| Wc z (fun hc254 => ?_) (fun hc254 => ?_)
  ·exact Ws <| Ra z <| Wn <| Wr (rtO (QO_retL (som (ifT hm209 hc254)).symm (ret1 hr z ⟨(bup (bup (bM (bup (bup h23 s31) h73) h78 (mem1le h211)) s143) s201), z⟩)))
  exact Wk <| Wg <| Rm z <| R z (inc_ hk141 (toNat_le p2_0) z z) <| Ra z <| Wl <| fun _ q => ⟨(), (som (ifF hm209 hc254)).symm, ⟨(q.weaken (s4 z z z z)), (bup s143 s201)⟩⟩
 ·rintro _ a264 w265 ⟨hS266, s267⟩
  refine Wu (e := [(1, (vI x2)), (2, (.pointer (some ⟨w0.heap.size, 0, none⟩))), (5, (.pointer (some ⟨w30.heap.size, 0, none⟩))), (6, (vI ((x2.toNat : Nat) : Int)))]) (N := 58) ?_ hS266
  refine Wq <| Ws <| Rm z <| Rm z <| R z (lss z z) <| Wn <| Wc z (fun hc => (nolttI hc).elim) (fun _ => ?_)
  exact WC_exit (fun a' ha' => ⟨rfl, ⟨(Sat.weaken ha' (s3 z z z)), s267⟩⟩)
 ·rintro _ a268 w269 rfl ⟨hS270, s271⟩
  have hm272 := elL hm136
  revert a268
  refine Wo <| Wq <| Ws <| Ra z <| Wn ?_
  obtain ⟨u314, hu315, hm316⟩ := bdS hm272
  refine WC_forN (σ := Unit) (ρ := Bool) (fun (k317 : Nat) (_ : Unit) a w => Sat 58 [(1, (vI x2)), (2, (.pointer (some ⟨w0.heap.size, 0, none⟩))), (5, (.pointer (some ⟨w30.heap.size, 0, none⟩))), (7, (vI ((k317 : Nat) : Int)))] a ∧ Below w269.heap.size w269 w) (fun (_ : Unit) a w => Sat 58 [(2, (.pointer (some ⟨w0.heap.size, 0, none⟩))), (5, (.pointer (some ⟨w30.heap.size, 0, none⟩)))] a ∧ Below w269.heap.size w269 w) (fun r ex a w => ex = .ret ∧ RetPost Tryz.prog fn (Q_spec_IsValidRule w0 B r) a w) hu315 ?_ ?_ ?_ ?_ ?_
  ·exact fun _ q => ⟨(q.weaken (s4 z z z z)), (br w269)⟩
  ·rintro k317 _ a318 w319 o320 hk321 ⟨hS322, s323⟩ hm324
   refine Wu (e := [(1, (vI x2)), (2, (.pointer (some ⟨w0.heap.size, 0, none⟩))), (5, (.pointer (some ⟨w30.heap.size, 0, none⟩))), (7, (vI ((k317 : Nat) : Int)))]) (N := 58) ?_ hS322
   refine Wq <| Ws <| Rm z <| R z (fd fld_82_7 z) ?_
   have h326 := (h76.ext s271).ext s323
   refine R z (l1 agg_73 z fid (h326.at z)) ?_
   have h328 := lt_ h23.size s31.size
   have h333 := (((h70.ext h73).chg h78 (ltge (mem1le (lt_ hBw h328)))).ext s271).ext s323
   refine R z (lnR und_73 z h333) <| R z (lss z z) <| Wn <| Wc z (fun _ => ?_) (fun hc => (nolt hk321 hc).elim)
   refine Wk <| Wq <| WC_block <| Ws <| R z (fd fld_82_7 z) <| R z (l1 agg_73 z fid (h326.at z)) <| Rm z ?_
   obtain ⟨x366, e367, hm368⟩ := bdS hm324
   refine RX z (at_ (α := Int) und_73 size_3 z z z h333 e367) ?_
   rintro _ ⟨b369, o370, cs371, rfl, h372, h373, h374⟩
   obtain ⟨rfl, h375⟩ := Int_open h373
   refine R z (l1 agg_3 z fid (h372.at0 z)) <| Rm z <| R z (rd_sub z z) ?_
   obtain ⟨r381, e382, hm383⟩ := bdS hm368
   refine E z (fc Tryz.call67 z (W_spec_l1In (B := B) e382 (lt_ hBw (lt_ (lt_ (lt_ (lt_ h328 h73.size) h78.size) s271.size) s323.size)) h375 (ii z) (iS _ _))) ?_
   rintro _ w384 ⟨s385, rfl⟩
   refine R z (not_ z) <| Wn <| Wc z (fun hc397 => ?_) (fun hc397 => ?_)
   ·exact Ws <| Ra z <| Wn <| Wr (rtO (QO_retL (som (ifT hm383 hc397)).symm (ret1 hr z ⟨(bup (bup (bup (bM (bup (bup h23 s31) h73) h78 (mem1le h328)) s271) s323) s385), z⟩)))
   exact Wk <| Wg <| Rm z <| R z (inc_ hk321 (lt_ (repS.len h70) LEN_le) z z) <| Ra z <| Wl <| fun _ q => ⟨(), (som (ifF hm383 hc397)).symm, ⟨(q.weaken (s4 z z z z)), (bup s323 s385)⟩⟩
  ·rintro _ a408 w409 ⟨hS410, s411⟩
   refine Wu (e := [(1, (vI x2)), (2, (.pointer (some ⟨w0.heap.size, 0, none⟩))), (5, (.pointer (some ⟨w30.heap.size, 0, none⟩))), (7, (vI ((x42.kids.length : Nat) : Int)))]) (N := 58) ?_ hS410
   refine Wq <| Ws <| Rm z <| R z (fd fld_82_7 z) <| R z (l1 agg_73 z fid (((h76.ext s271).ext s411).at z)) <| R z (lnR und_73 z ((((h70.ext h73).chg h78 (ltge (mem1le (lt_ hBw (lt_ h23.size s31.size))))).ext s271).ext s411)) <| R z (lss z z) <| Wn <| Wc z (fun hc => (noltt hc).elim) (fun _ => ?_)
   exact WC_exit (fun a' ha' => ⟨rfl, ⟨(Sat.weaken ha' (s2 z z)), s411⟩⟩)
  ·rintro _ a421 w422 rfl ⟨hS423, s424⟩
   have hm425 := elL hm316
   revert a421
   refine Wo <| Wq ?_
   obtain ⟨u484, hu485, hm486⟩ := bdS hm425
   refine WC_cut (fun a w => ∃ (x483 : Bool), x483 = u484 ∧ Sat 58 [(4, (vB x483))] a ∧ Below w422.heap.size w422 w) ?_ ?_
   ·refine Wg <| R z (fd fld_82_0 z) ?_
    have h488 := (h76.ext s271).ext s424
    refine R z (l1 agg_9 z fid (h488.at z)) ?_
    have h489 := lt_ h23.size s31.size
    have h493 := lt_ (lt_ (lt_ (lt_ h489 h73.size) h78.size) s271.size) s424.size
    obtain ⟨r495, e496, hm497⟩ := bdS hu485
    refine E z (fc Tryz.call95 z (W_spec_IsName (B := B) e496 (lt_ hBw h493) h52)) ?_
    rintro _ w498 ⟨s499, rfl⟩
    refine Rm z ?_
    rcases bsplit r495 with hc500 | hc500
    ·refine Rh z hc500 (lN (vs := [(.slice pa1_0 pn1_0 pc1_0)]) agg_31 size_31 z z fid ((((((h41.ext h73).chg h78 (djs (mm1 h24.lt s31.size))).ext s271).ext s424).ext s499).row 0 1 z)) <| Rh z hc500 (lN (vs := [(Str.v x42.name), (vI x42.kind), (vI x42.size), (vB x42.little), (.slice a55 n56 c57), (.slice a59 n60 c61), (.slice a63 n64 c65), (.slice a67 n68 c69)]) agg_82 size_82 z z fid ((h488.ext s499).row 0 8 z)) ?_
     have h511 := mem1le (lt_ hBw h489)
     obtain ⟨r538, e539, hm540⟩ := bdS (ifT hm497 hc500)
     refine Eg z z hc500 z (fc Tryz.call97 z (W_spec_l4Kind (B := B) e539 (lt_ hBw (lt_ h493 s499.size)) (((((h45.ext h73).chg h78 (ltge h511)).ext s271).ext s424).ext s499) h52 h53 h54 (((((h58.ext h73).chg h78 (ltge h511)).ext s271).ext s424).ext s499) (((((h62.ext h73).chg h78 (ltge h511)).ext s271).ext s424).ext s499) (((((h66.ext h73).chg h78 (ltge h511)).ext s271).ext s424).ext s499) (((((h70.ext h73).chg h78 (ltge h511)).ext s271).ext s424).ext s499))) ?_
     rintro _ w541 ⟨s542, rfl⟩
     exact R z (pT z hc500 z) <| Ra z <| Wl <| fun _ q => ⟨r538, som hm540, (q.weaken (s1 z)), (bup s499 s542)⟩
    iterate 3 refine Nh z hc500 ?_
    exact R z (pF z hc500 z) <| Ra z <| Wl <| fun _ q => ⟨false, som (ifF hm497 hc500), (q.weaken (s1 z)), s499⟩
   rintro a545 w546 ⟨x483, rfl, hS547, s548⟩
   revert a545
   refine Wo ?_
   obtain rfl := som hm486
   exact Wr (ret1 hr z ⟨(bup (bup (bup (bM (bup (bup h23 s31) h73) h78 (mem1le (lt_ h23.size s31.size))) s271) s424) s548), z⟩)
  rintro r557 ex558 a559 w560 rfl ⟨rfl, hq561⟩
  have hm562 := elR hm316
  obtain rfl := som hm562
  exact ⟨hq561, z⟩
 rintro r563 ex564 a565 w566 rfl ⟨rfl, hq567⟩
 have hm568 := elR hm136
 obtain rfl := som hm568
 exact ⟨hq567, z⟩
def Q_spec_IsValidDescription (w0 : World) (B : Nat) (r : Bool) (v : Value) (w' : World) : Prop := Below w0.heap.size w0 w' ∧ (fun r1 => (vB r1) = v) r
theorem W_spec_IsValidDescription {x1 : Desc} {res : Bool} (hm : M_spec_IsValidDescription x1 = some res) (hBw : B ≤ w0.heap.size) (p1_0 : repS w0 B (.slice pa1_0 pn1_0 pc1_0) x1.rules) : CallsR Tryz.prog 41 [(.agg #[(.slice pa1_0 pn1_0 pc1_0)])] w0 (Q_spec_IsValidDescription w0 B res) := by
 unfold M_spec_IsValidDescription at hm
 obtain ⟨fn, hf, hb, hN, hr⟩ := fnE Tryz.func41
 refine goW hf (hb.trans z) (hN.trans z) (lb z) <| Ws <| E z (fb z) ?_
 rintro _ w21 ⟨rfl, h22⟩
 have h23 := h22.below
 have h24 : Blk w21 w0.heap.size [(.slice pa1_0 pn1_0 pc1_0)] := h22.blk
 refine Ra z <| Wn <| Wq <| Ws <| Ra z <| Wn ?_
 obtain ⟨u42, hu43, hm44⟩ := bdS hm
 refine WC_forN (σ := Unit) (ρ := Bool) (fun (k45 : Nat) (_ : Unit) a w => Sat 19 [(1, (.pointer (some ⟨w0.heap.size, 0, none⟩))), (3, (vI ((k45 : Nat) : Int)))] a ∧ Below w21.heap.size w21 w) (fun (_ : Unit) a w => Sat 19 [(1, (.pointer (some ⟨w0.heap.size, 0, none⟩)))] a ∧ Below w21.heap.size w21 w) (fun r ex a w => ex = .ret ∧ RetPost Tryz.prog fn (Q_spec_IsValidDescription w0 B r) a w) hu43 ?_ ?_ ?_ ?_ ?_
 ·exact fun _ q => ⟨(q.weaken (s2 z z)), (br w21)⟩
 ·rintro k45 _ a46 w47 o48 hk49 ⟨hS50, s51⟩ hm52
  refine Wu (e := [(1, (.pointer (some ⟨w0.heap.size, 0, none⟩))), (3, (vI ((k45 : Nat) : Int)))]) (N := 19) ?_ hS50
  refine Wq <| Ws <| Rm z <| R z (fd fld_31_0 z) ?_
  have h53 := h24.ext s51
  refine R z (l1 agg_29 z fid (h53.at z)) ?_
  have h55 := (p1_0.ext h23).ext s51
  refine R z (lnR und_29 z h55) <| R z (lss z z) <| Wn <| Wc z (fun _ => ?_) (fun hc => (nolt hk49 hc).elim)
  refine Wk <| Wq <| WC_block <| Ws <| R z (lN (vs := [(.slice pa1_0 pn1_0 pc1_0)]) agg_31 size_31 z z fid (h53.row 0 1 z)) <| Rm z ?_
  obtain ⟨r72, e73, hm74⟩ := bdS hm52
  refine E z (fc Tryz.call66 z (W_spec_IsValidRule (B := B) e73 (lt_ hBw (lt_ h23.size s51.size)) h55 (inI_cnt (Nat.le_of_lt hk49) (lt_ (repS.len p1_0) LEN_le)))) ?_
  rintro _ w75 ⟨s76, rfl⟩
  refine R z (not_ z) <| Wn <| Wc z (fun hc83 => ?_) (fun hc83 => ?_)
  ·exact Ws <| Ra z <| Wn <| Wr (rtO (QO_retL (som (ifT hm74 hc83)).symm (ret1 hr z ⟨(bup (bup h23 s51) s76), z⟩)))
  exact Wk <| Wg <| Rm z <| R z (inc_ hk49 (lt_ (repS.len p1_0) LEN_le) z z) <| Ra z <| Wl <| fun _ q => ⟨(), (som (ifF hm74 hc83)).symm, ⟨(q.weaken (s2 z z)), (bup s51 s76)⟩⟩
 ·rintro _ a89 w90 ⟨hS91, s92⟩
  refine Wu (e := [(1, (.pointer (some ⟨w0.heap.size, 0, none⟩))), (3, (vI ((x1.rules.length : Nat) : Int)))]) (N := 19) ?_ hS91
  refine Wq <| Ws <| Rm z <| R z (fd fld_31_0 z) <| R z (l1 agg_29 z fid ((h24.ext s92).at z)) <| R z (lnR und_29 z ((p1_0.ext h23).ext s92)) <| R z (lss z z) <| Wn <| Wc z (fun hc => (noltt hc).elim) (fun _ => ?_)
  exact WC_exit (fun a' ha' => ⟨rfl, ⟨(Sat.weaken ha' (s1 z)), s92⟩⟩)
 ·rintro _ a96 w97 rfl ⟨hS98, s99⟩
  have hm100 := elL hm44
  revert a96
  refine Wo <| Ws <| R z (fd fld_31_0 z) <| R z (l1 agg_29 z fid ((h24.ext s99).at z)) ?_
  have h103 := (p1_0.ext h23).ext s99
  refine R z (lnR und_29 z h103) ?_
  obtain ⟨r106, e107, hm108⟩ := bdS hm100
  refine E z (fc Tryz.call67 z (W_spec_l1In (B := B) e107 (lt_ hBw (lt_ h23.size s99.size)) (inI_len (repS.len h103)) (ii z) (ii z))) ?_
  rintro _ w109 ⟨s110, rfl⟩
  refine Ra z <| Wn ?_
  obtain rfl := som hm108
  exact Wr (ret1 hr z ⟨(bup (bup h23 s99) s110), z⟩)
 rintro r113 ex114 a115 w116 rfl ⟨rfl, hq117⟩
 have hm118 := elR hm44
 obtain rfl := som hm118
 exact ⟨hq117, z⟩
def Q_spec_l7Rule (w0 : World) (B : Nat) (r : Bool) (v : Value) (w' : World) : Prop := Below w0.heap.size w0 w' ∧ (fun r1 => (vB r1) = v) r
theorem W_spec_l7Rule {x1 : Desc} {x2 : Int} {res : Bool} (hm : M_spec_l7Rule x1 x2 = some res) (hBw : B ≤ w0.heap.size) (p1_0 : repS w0 B (.slice pa1_0 pn1_0 pc1_0) x1.rules) (p2_0 : inI x2) : CallsR Tryz.prog 99 [(.agg #[(.slice pa1_0 pn1_0 pc1_0)]), (vI x2)] w0 (Q_spec_l7Rule w0 B res) := by
 unfold M_spec_l7Rule at hm
 obtain ⟨fn, hf, hb, hN, hr⟩ := fnE Tryz.func99
 refine goW hf (hb.trans z) (hN.trans z) (lb z) <| Ws <| E z (fb z) ?_
 rintro _ w21 ⟨rfl, h22⟩
 have h23 := h22.below
 have h24 : Blk w21 w0.heap.size [(.slice pa1_0 pn1_0 pc1_0)] := h22.blk
 refine Ra z <| Wn <| Wq ?_
 obtain ⟨u45, hu46, hm47⟩ := bdS hm
 refine WC_cut (fun a w => ∃ (x44 : Bool), x44 = u45 ∧ Sat 15 [(4, (vB x44))] a ∧ Below w21.heap.size w21 w) ?_ ?_
 ·refine Wg <| Rm z <| R z (fd fld_31_0 z) <| R z (l1 agg_29 z fid (h24.at z)) ?_
  have h48 := p1_0.ext h23
  refine R z (lnR und_29 z h48) <| R z (rd_sub z z) ?_
  obtain ⟨r50, e51, hm52⟩ := bdS hu46
  refine E z (fc Tryz.call67 z (W_spec_l1In (B := B) e51 (lt_ hBw h23.size) p2_0 (ii z) (iS _ _))) ?_
  rintro _ w53 ⟨s54, rfl⟩
  refine Rm z ?_
  rcases bsplit r50 with hc55 | hc55
  ·refine Rh z hc55 (lN (vs := [(.slice pa1_0 pn1_0 pc1_0)]) agg_31 size_31 z z fid ((h24.ext s54).row 0 1 z)) ?_
   obtain ⟨r61, e62, hm63⟩ := bdS (ifT hm52 hc55)
   refine Eg z z hc55 z (fc Tryz.call41 z (W_spec_IsValidDescription (B := B) e62 (lt_ hBw (lt_ h23.size s54.size)) (h48.ext s54))) ?_
   rintro _ w64 ⟨s65, rfl⟩
   exact R z (pT z hc55 z) <| Ra z <| Wl <| fun _ q => ⟨r61, som hm63, (q.weaken (s1 z)), (bup s54 s65)⟩
  exact Nh z hc55 <| Nh z hc55 <| R z (pF z hc55 z) <| Ra z <| Wl <| fun _ q => ⟨false, som (ifF hm52 hc55), (q.weaken (s1 z)), s54⟩
 rintro a68 w69 ⟨x44, rfl, hS70, s71⟩
 revert a68
 refine Wo ?_
 obtain rfl := som hm47
 exact Wr (ret1 hr z ⟨(bup h23 s71), z⟩)
def Q_spec_ReadInteger (w0 : World) (B : Nat) (r : Int) (v : Value) (w' : World) : Prop := Below w0.heap.size w0 w' ∧ (fun r1 => (vI r1) = v ∧ inI r1) r
theorem W_spec_ReadInteger {x1 : List UInt8} {x2 : Bool} {res : Int} (hm : M_spec_ReadInteger x1 x2 = some res) (hBw : B ≤ w0.heap.size) (p1_0 : repS w0 B (.slice pa1_0 pn1_0 pc1_0) x1) : CallsR Tryz.prog 88 [(.slice pa1_0 pn1_0 pc1_0), (vB x2)] w0 (Q_spec_ReadInteger w0 B res) := by
 unfold M_spec_ReadInteger at hm
 obtain ⟨fn, hf, hb, hN, hr⟩ := fnE Tryz.func88
 refine goW hf (hb.trans z) (hN.trans z) (lb z) <| Ws <| Ra z <| Wn <| Ws <| Ra z <| Wn <| Wq <| Ws <| Rm z <| R z (lnR und_25 z p1_0) <| R z (rd_gtr z z) <| Wn <| Wc z (fun hc25 => ?_) (fun hc25 => ?_)
 ·refine Ws <| Ra z <| Wn ?_
  obtain rfl := som (ifT hm hc25)
  exact Wr (ret1 hr z ⟨(br w0), z, (ii z)⟩)
 refine Wk <| Wq <| Ws <| Ra z <| Wn ?_
 obtain ⟨u64, hu65, hm66⟩ := bdS (ifF hm hc25)
 refine WC_forN (σ := Int) (ρ := Int) (fun (k67 : Nat) (x62 : Int) a w => Sat 33 [(0, (.slice pa1_0 pn1_0 pc1_0)), (1, (vB x2)), (5, (vI x62)), (6, (vI ((k67 : Nat) : Int)))] a ∧ Below w0.heap.size w0 w ∧ inI x62) (fun (x62 : Int) a w => Sat 33 [(5, (vI x62))] a ∧ Below w0.heap.size w0 w ∧ inI x62) (fun r ex a w => ex = .ret ∧ RetPost Tryz.prog fn (Q_spec_ReadInteger w0 B r) a w) hu65 ?_ ?_ ?_ ?_ ?_
 ·exact fun _ q => ⟨(q.weaken (s4 z z z z)), (br w0), (ii z)⟩
 ·rintro k67 x62 a68 w69 o70 hk71 ⟨hS72, s73, h63⟩ hm74
  refine Wu (e := [(0, (.slice pa1_0 pn1_0 pc1_0)), (1, (vB x2)), (5, (vI x62)), (6, (vI ((k67 : Nat) : Int)))]) (N := 33) ?_ hS72
  refine Wq <| Ws <| Rm z <| Rm z ?_
  have h75 := p1_0.ext s73
  refine R z (lnR und_25 z h75) <| R z (lss z z) <| Wn <| Wc z (fun _ => ?_) (fun hc => (nolt hk71 hc).elim)
  refine Wk <| Wq <| WC_block <| Ws <| Rm z <| Ra z <| Wn <| Wq <| Ws <| Rm z <| Wn ?_
  obtain ⟨u96, hu97, hm98⟩ := bdS hm74
  refine WC_cut (fun a w => ∃ (x94 : Int), x94 = u96 ∧ Sat 33 [(0, (.slice pa1_0 pn1_0 pc1_0)), (1, (vB x2)), (5, (vI x62)), (6, (vI ((k67 : Nat) : Int))), (7, (vI x94))] a ∧ Below w69.heap.size w69 w ∧ inI x94) ?_ ?_
  ·refine Wc z (fun hc99 => ?_) (fun hc99 => ?_)
   ·exact Wg <| Rm z <| R z (lnR und_25 z h75) <| R z (rd_sub z z) <| Rm z <| R z (rd_sub z z) <| Ra z <| Wl <| fun _ q => ⟨isub (isub (x1.length : Int) 1) ((k67 : Nat) : Int), som (ifT hu97 hc99), (q.weaken (s5 z z z z z)), (br w69), (iS _ _)⟩
   exact WC_skip <| fun _ q => ⟨((k67 : Nat) : Int), som (ifF hu97 hc99), (q.weaken (s5 z z z z z)), (br w69), (inI_cnt (Nat.le_of_lt hk71) (lt_ (repS.len p1_0) LEN_le))⟩
  rintro a102 w103 ⟨x94, rfl, hS104, s105, h95⟩
  revert a102
  refine Wo <| Wg <| Rm z <| R z (rd_mul z z) <| Rm z <| Rm z ?_
  obtain ⟨x106, e107, hm108⟩ := bdS hm98
  refine RX z (at_ (α := UInt8) und_25 size_5 z z z (h75.ext s105) e107) ?_
  rintro _ ⟨b110, o111, cs112, rfl, h113, h114, h115⟩
  obtain rfl := UInt8_open h114
  exact R z (l1 agg_5 z fid (h113.at0 z)) <| R z (rd_convUI und_5 und_3 z) <| R z (add_ z z) <| Ra z <| Wn <| Wg <| Rm z <| R z (inc_ hk71 (lt_ (repS.len p1_0) LEN_le) z z) <| Ra z <| Wl <| fun _ q => ⟨iadd (imul x62 256) (byteI x106), (som hm108).symm, ⟨(q.weaken (s4 z z z z)), (bup s73 s105), (iA _ _)⟩⟩
 ·rintro x62 a117 w118 ⟨hS119, s120, h63⟩
  refine Wu (e := [(0, (.slice pa1_0 pn1_0 pc1_0)), (1, (vB x2)), (5, (vI x62)), (6, (vI ((x1.length : Nat) : Int)))]) (N := 33) ?_ hS119
  refine Wq <| Ws <| Rm z <| Rm z <| R z (lnR und_25 z (p1_0.ext s120)) <| R z (lss z z) <| Wn <| Wc z (fun hc => (noltt hc).elim) (fun _ => ?_)
  exact WC_exit (fun a' ha' => ⟨rfl, ⟨(Sat.weaken ha' (s1 z)), s120, h63⟩⟩)
 ·rintro x62 a122 w123 rfl ⟨hS124, s125, h63⟩
  have hm126 := elL hm66
  revert a122
  refine Wo <| Ws <| Rm z <| Ra z <| Wn ?_
  obtain rfl := som hm126
  exact Wr (ret1 hr z ⟨s125, z, h63⟩)
 rintro r127 ex128 a129 w130 rfl ⟨rfl, hq131⟩
 have hm132 := elR hm66
 obtain rfl := som hm132
 exact ⟨hq131, z⟩
def Q_spec_l11Integer (w0 : World) (B : Nat) (r : Int × Int × Bool) (v : Value) (w' : World) : Prop := Below w0.heap.size w0 w' ∧ un3 (fun r1 r2 r3 => v = .tuple #[(vI r1), (vI r2), (vB r3)] ∧ inI r1 ∧ inI r2) r
theorem W_spec_l11Integer {x1 : Desc} {x2 : Int} {x3 : List UInt8} {x4 : Int} {res : Int × Int × Bool} (hm : M_spec_l11Integer x1 x2 x3 x4 = some res) (hBw : B ≤ w0.heap.size) (p1_0 : repS w0 B (.slice pa1_0 pn1_0 pc1_0) x1.rules) (p2_0 : inI x2) (p3_0 : repS w0 B (.slice pa3_0 pn3_0 pc3_0) x3) (p4_0 : inI x4) : CallsR Tryz.prog 54 [(.agg #[(.slice pa1_0 pn1_0 pc1_0)]), (vI x2), (.slice pa3_0 pn3_0 pc3_0), (vI x4)] w0 (Q_spec_l11Integer w0 B res) := by
 unfold M_spec_l11Integer at hm
 obtain ⟨fn, hf, hb, hN, hr⟩ := fnE Tryz.func54
 refine goW hf (hb.trans z) (hN.trans z) (lb z) <| Ws <| E z (fb z) ?_
 rintro _ w21 ⟨rfl, h22⟩
 have h23 := h22.below
 have h24 : Blk w21 w0.heap.size [(.slice pa1_0 pn1_0 pc1_0)] := h22.blk
 refine Ra z <| Ra z <| Ra z <| Wn <| Ws <| R z (fd fld_31_0 z) <| R z (l1 agg_29 z fid (h24.at z)) <| Rm z ?_
 obtain ⟨x25, e26, hm27⟩ := bdS hm
 refine RX z (at_ (α := Rule) und_29 size_82 z z z (p1_0.ext h23) e26) ?_
 rintro _ ⟨b29, o30, cs31, rfl, h32, h33, h34⟩
 obtain ⟨a38, n39, c40, a42, n43, c44, a46, n47, c48, a50, n51, c52, rfl, h35, h36, h37, h41, h45, h49, h53⟩ := Rule_open h33
 refine R z (lN (vs := [(Str.v x25.name), (vI x25.kind), (vI x25.size), (vB x25.little), (.slice a38 n39 c40), (.slice a42 n43 c44), (.slice a46 n47 c48), (.slice a50 n51 c52)]) agg_82 size_82 z z fid h32) <| E z (fa zero_82) ?_
 rintro _ w54 ⟨rfl, h55⟩
 have h56 := h55.below
 have h57 : Blk w54 w21.heap.size [(Str.v (⟨[]⟩ : Str)), (vI 0), (vI 0), (vB false), (.slice none 0 0), (.slice none 0 0), (.slice none 0 0), (.slice none 0 0)] := h55.blk
 refine E0 (fs (cur' := [(Str.v x25.name), (vI x25.kind), (vI x25.size), (vB x25.little), (.slice a38 n39 c40), (.slice a42 n43 c44), (.slice a46 n47 c48), (.slice a50 n51 c52)]) size_82 z z h57 z (lb z) (oneAll z) z) ?_
 rintro _ w58 ⟨h59, s60⟩
 have h61 := s60.one
 refine Wn <| Wq <| Ws <| Rm z ?_
 have h66 := ((p3_0.ext h23).ext h56).chg h61 (ltge (mem1le (lt_ hBw h23.size)))
 refine R z (lnR und_25 z h66) <| Rm z <| R z (rd_sub z z) <| R z (fd fld_82_2 z) <| R z (l1 agg_3 z fid (h59.at z)) <| R z (lss z z) <| Wn <| Wc z (fun hc74 => ?_) (fun hc74 => ?_)
 ·refine Ws <| Rm z <| Ra z <| Ra z <| Ra z <| Wn ?_
  obtain rfl := som (ifT hm27 hc74)
  exact Wr (ret3 hr z z z ⟨(bM (bup h23 h56) h61 (mem1le h23.size)), z, (ii z), p4_0⟩)
 refine Wk <| Wq <| WC_draw (X := noX) 0 (.rd 0 (.rd 1 (.rd 2 (.rd 3 (.rd 4 (.rd 5 (.rd 6 (.rd 7 (.rd 8 (.rd 10 (.rd 11 (.rd 12 (.rd 13 (.ef 9 (.rd 14 (.rd 15 (.rd 16 .done))))))))))))))))) mo (by kernel_rfl) fun w80 s81 _ => ?_
 iterate 3 refine dR z z (mv z) ?_
 refine dR z z (fd fld_82_2 z) ?_
 have h82 := h59.ext s81
 refine dR z z (l1 agg_3 z fid (h82.at z)) <| dR z z (add_ z z) ?_
 obtain ⟨x83, e84, hm85⟩ := bdS (ifF hm27 hc74)
 refine dRX z z (rd_sliceX und_25 size_5 z z (h66.ext s81) z z e84) ?_
 rintro _ ⟨a87, n88, c89, rfl, h90⟩
 refine dR z z (fd fld_82_3 z) <| dR z z (l1 agg_4 z fid (h82.at z)) <| dR z z (mv z) <| dR z z (fd fld_82_2 z) <| dR z z (l1 agg_3 z fid (h82.at z)) <| dR z z (add_ z z) ?_
 obtain ⟨r95, e96, hm97⟩ := bdS hm85
 refine dE z z (fc Tryz.call88 z (W_spec_ReadInteger (B := B) e96 (lt_ hBw (lt_ (lt_ (lt_ h23.size h56.size) h61.size) s81.size)) h90)) (.inr fun _ _ h => chgB (h.1)) ?_
 rintro _ w98 ⟨s99, rfl, h100⟩
 iterate 3 refine dR z z (asg z) ?_
 refine PR_done <| Wo ?_
 obtain rfl := som hm97
 exact Wr (ret3 hr z z z ⟨(bup (bup (bM (bup h23 h56) h61 (mem1le h23.size)) s81) s99), z, h100, (iA _ _)⟩)
def Q_spec_l11Const (w0 : World) (B : Nat) (r : Val × Int × Int) (v : Value) (w' : World) : Prop := Below w0.heap.size w0 w' ∧ un3 (fun r1 r2 r3 => ∃ (a1 : Option Addr) (n1 c1 : Nat) (S1 : List Nat) (a2 : Option Addr) (n2 c2 : Nat) (S2 : List Nat), v = .tuple #[(.agg #[vI r1.number, .slice a1 n1 c1, .slice a2 n2 c2]), (vI r2), (vI r3)] ∧ inI r1.number ∧ ownS w' S1 (.slice a1 n1 c1) r1.bytes ∧ ownS w' S2 (.slice a2 n2 c2) r1.items ∧ inI r2 ∧ inI r3 ∧ (S1 ++ S2).Nodup ∧ (∀ k ∈ (S1 ++ S2), w0.heap.size ≤ k)) r
theorem W_spec_l11Const {x1 : Rule} {x2 : List UInt8} {x3 : Int} {res : Val × Int × Int} (hm : M_spec_l11Const x1 x2 x3 = some res) (hBw : B ≤ w0.heap.size) (p1_0 : x1.name.b.length ≤ LEN) (p1_1 : inI x1.kind) (p1_2 : inI x1.size) (p1_4 : repS w0 B (.slice pa1_4 pn1_4 pc1_4) x1.bytes) (p1_5 : repS w0 B (.slice pa1_5 pn1_5 pc1_5) x1.names) (p1_6 : repS w0 B (.slice pa1_6 pn1_6 pc1_6) x1.tags) (p1_7 : repS w0 B (.slice pa1_7 pn1_7 pc1_7) x1.kids) (p2_0 : repS w0 B (.slice pa2_0 pn2_0 pc2_0) x2) (p3_0 : inI x3) : CallsR Tryz.prog 69 [(.agg #[(Str.v x1.name), (vI x1.kind), (vI x1.size), (vB x1.little), (.slice pa1_4 pn1_4 pc1_4), (.slice pa1_5 pn1_5 pc1_5), (.slice pa1_6 pn1_6 pc1_6), (.slice pa1_7 pn1_7 pc1_7)]), (.slice pa2_0 pn2_0 pc2_0), (vI x3)] w0 (Q_spec_l11Const w0 B res) := by
 unfold M_spec_l11Const at hm
 obtain ⟨fn, hf, hb, hN, hr⟩ := fnE Tryz.func69
 refine goW hf (hb.trans z) (hN.trans z) (lb z) <| Ws <| E z (fb z) ?_
 rintro _ w21 ⟨rfl, h22⟩
 have h23 := h22.below
 have h24 : Blk w21 w0.heap.size [(Str.v x1.name), (vI x1.kind), (vI x1.size), (vB x1.little), (.slice pa1_4 pn1_4 pc1_4), (.slice pa1_5 pn1_5 pc1_5), (.slice pa1_6 pn1_6 pc1_6), (.slice pa1_7 pn1_7 pc1_7)] := h22.blk
 refine E z (fa zero_61) ?_
 rintro _ w25 ⟨rfl, h26⟩
 have h27 := h26.below
 have h28 : Blk w25 w21.heap.size [(vI 0), (.slice none 0 0), (.slice none 0 0)] := h26.blk
 refine Ra z <| Ra z <| Wn <| Wq <| Ws <| Ra z <| Wn ?_
 obtain ⟨u90, hu91, hm92⟩ := bdS hm
 refine WC_forN (σ := Unit) (ρ := Val × Int × Int) (fun (k93 : Nat) (_ : Unit) a w => Sat 47 [(1, (.slice pa2_0 pn2_0 pc2_0)), (2, (vI x3)), (3, (.pointer (some ⟨w0.heap.size, 0, none⟩))), (6, (.pointer (some ⟨w21.heap.size, 0, none⟩))), (9, (vI ((k93 : Nat) : Int)))] a ∧ Below w25.heap.size w25 w) (fun (_ : Unit) a w => Sat 47 [(2, (vI x3)), (3, (.pointer (some ⟨w0.heap.size, 0, none⟩))), (6, (.pointer (some ⟨w21.heap.size, 0, none⟩)))] a ∧ Below w25.heap.size w25 w) (fun r ex a w => ex = .ret ∧ RetPost Tryz.prog fn (Q_spec_l11Const w0 B r) a w) hu91 ?_ ?_ ?_ ?_ ?_
 ·exact fun _ q => ⟨(q.weaken (s5 z z z z z)), (br w25)⟩
 ·rintro k93 _ a94 w95 o96 hk97 ⟨hS98, s99⟩ hm100
  refine Wu (e := [(1, (.slice pa2_0 pn2_0 pc2_0)), (2, (vI x3)), (3, (.pointer (some ⟨w0.heap.size, 0, none⟩))), (6, (.pointer (some ⟨w21.heap.size, 0, none⟩))), (9, (vI ((k93 : Nat) : Int)))]) (N := 47) ?_ hS98
  refine Wq <| Ws <| Rm z <| R z (fd fld_82_4 z) ?_
  have h102 := (h24.ext h27).ext s99
  refine R z (l1 agg_25 z fid (h102.at z)) ?_
  have h105 := ((p1_4.ext h23).ext h27).ext s99
  refine R z (lnR und_25 z h105) <| R z (lss z z) <| Wn <| Wc z (fun _ => ?_) (fun hc => (nolt hk97 hc).elim)
  refine Wk <| Wq <| WC_block <| Wq <| Ws <| Rm z <| Rm z <| R z (add_ z z) <| Rm z ?_
  have h164 := ((p2_0.ext h23).ext h27).ext s99
  refine R z (lnR und_25 z h164) <| R z (rd_geq z z) <| Wn <| Wc z (fun hc178 => ?_) (fun hc178 => ?_)
  ·refine Ws <| R z (bP (parts := []) (cs := [(vI 0), (.slice none 0 0), (.slice none 0 0)]) build_61 z z) <| Rm z <| E0 (fs (cur' := [(vI 0), (.slice none 0 0), (.slice none 0 0)]) size_61 z z (h28.ext s99) z (lb z) (oneAll z) z) ?_
   rintro _ w181 ⟨h182, s183⟩
   exact Ra z <| Ra z <| Wn <| Wr (rtO (QO_retL (som (ifT hm100 hc178)).symm (ret3 hr (resC agg_61 size_61 z h182 z) z z ⟨(bM (bup (bup h23 h27) s99) s183.one (mem1le h23.size)), none, 0, 0, [], none, 0, 0, [], z, (ii z), onL, onL, p3_0, (ii z), nd0, al0⟩)))
  refine Wk <| Wq <| WC_draw (X := noX) 0 (.rd 0 (.rd 1 (.rd 2 (.rd 3 (.rd 4 (.rd 5 (.rd 6 (.rd 7 (.rd 8 (.rd 9 (.rd 10 (.rd 11 .done)))))))))))) mo (by kernel_rfl) fun w190 s191 _ => ?_
  iterate 3 refine dR z z (mv z) ?_
  refine dR z z (add_ z z) ?_
  obtain ⟨x192, e193, hm194⟩ := bdS (ifF hm100 hc178)
  refine dRX z z (at_ (α := UInt8) und_25 size_5 z z z (h164.ext s191) e193) ?_
  rintro _ ⟨b196, o197, cs198, rfl, h199, h200, h201⟩
  obtain rfl := UInt8_open h200
  refine dR z z (l1 agg_5 z fid (h199.at0 z)) <| dR z z (fd fld_82_4 z) <| dR z z (l1 agg_25 z fid ((h102.ext s191).at z)) <| dR z z (mv z) ?_
  obtain ⟨x203, e204, hm205⟩ := bdS hm194
  refine dRX z z (at_ (α := UInt8) und_25 size_5 z z z (h105.ext s191) e204) ?_
  rintro _ ⟨b207, o208, cs209, rfl, h210, h211, h212⟩
  obtain rfl := UInt8_open h211
  refine dR z z (l1 agg_5 z fid (h210.at0 z)) <| dR z z (rd_neq z z) <| PR_done <| Wo <| Wc z (fun hc228 => ?_) (fun hc228 => ?_)
  ·refine Ws <| R z (bP (parts := []) (cs := [(vI 0), (.slice none 0 0), (.slice none 0 0)]) build_61 z z) <| Rm z <| Rm z <| R z (add_ z z) <| E0 (fs (cur' := [(vI 0), (.slice none 0 0), (.slice none 0 0)]) size_61 z z ((h28.ext s99).ext s191) z (lb z) (oneAll z) z) ?_
   rintro _ w232 ⟨h233, s234⟩
   exact Ra z <| Ra z <| Wn <| Wr (rtO (QO_retL (som (ifT hm205 hc228)).symm (ret3 hr (resC agg_61 size_61 z h233 z) z z ⟨(bM (bup (bup (bup h23 h27) s99) s191) s234.one (mem1le h23.size)), none, 0, 0, [], none, 0, 0, [], z, (ii z), onL, onL, (iA _ _), (ii z), nd0, al0⟩)))
  exact Wk <| Wg <| Rm z <| R z (inc_ hk97 (lt_ (repS.len p1_4) LEN_le) z z) <| Ra z <| Wl <| fun _ q => ⟨(), (som (ifF hm205 hc228)).symm, ⟨(q.weaken (s5 z z z z z)), (bup s99 s191)⟩⟩
 ·rintro _ a243 w244 ⟨hS245, s246⟩
  refine Wu (e := [(1, (.slice pa2_0 pn2_0 pc2_0)), (2, (vI x3)), (3, (.pointer (some ⟨w0.heap.size, 0, none⟩))), (6, (.pointer (some ⟨w21.heap.size, 0, none⟩))), (9, (vI ((x1.bytes.length : Nat) : Int)))]) (N := 47) ?_ hS245
  refine Wq <| Ws <| Rm z <| R z (fd fld_82_4 z) <| R z (l1 agg_25 z fid (((h24.ext h27).ext s246).at z)) <| R z (lnR und_25 z (((p1_4.ext h23).ext h27).ext s246)) <| R z (lss z z) <| Wn <| Wc z (fun hc => (noltt hc).elim) (fun _ => ?_)
  exact WC_exit (fun a' ha' => ⟨rfl, ⟨(Sat.weaken ha' (s3 z z z)), s246⟩⟩)
 ·rintro _ a252 w253 rfl ⟨hS254, s255⟩
  have hm256 := elL hm92
  revert a252
  refine Wo <| Wq <| WC_draw (X := (· ∈ [w21.heap.size])) 0 (.rd 0 (.rd 1 (.rd 2 (.rd 3 (.rd 4 (.rd 5 (.ef 6 (.rd 7 (.rd 8 .done))))))))) mo (by kernel_rfl) fun w257 s258 _ => dR z z (bP (parts := []) (cs := [(vI 0), (.slice none 0 0), (.slice none 0 0)]) build_61 z z) <| dR z z (mv z) <| dR z z (fd fld_82_4 z) <| dR z z (l1 agg_25 z (djs (mmr h24.lt)) ((((h24.ext h27).ext s255).ext s258).at z)) <| dR z z (lnR und_25 z ((((p1_4.ext h23).ext h27).ext s255).ext s258)) <| dR z z (add_ z z) <| dE0 z (fs (cur' := [(vI 0), (.slice none 0 0), (.slice none 0 0)]) size_61 z z ((h28.ext s255).ext s258) z (lb z) (oneAll z) z) (.inr fun _ _ h => chgIn (List.mem_singleton.2 z) h.2) ?_
  rintro _ w269 ⟨h270, s271⟩
  refine dR z z (asg z) <| dR z z (asg z) <| PR_done <| Wo ?_
  obtain rfl := som hm256
  exact Wr (ret3 hr (resC agg_61 size_61 z h270 z) z z ⟨(bM (bup (bup (bup h23 h27) s255) s258) s271.one (mem1le h23.size)), none, 0, 0, [], none, 0, 0, [], z, (ii z), onL, onL, (iA _ _), (ii z), nd0, al0⟩)
 rintro r278 ex279 a280 w281 rfl ⟨rfl, hq282⟩
 have hm283 := elR hm92
 obtain rfl := som hm283
 exact ⟨hq282, z⟩
def Q_spec_l11Bytes (w0 : World) (B : Nat) (r : Val × Int × Int) (v : Value) (w' : World) : Prop := Below w0.heap.size w0 w' ∧ un3 (fun r1 r2 r3 => ∃ (a1 : Option Addr) (n1 c1 : Nat) (S1 : List Nat) (a2 : Option Addr) (n2 c2 : Nat) (S2 : List Nat), v = .tuple #[(.agg #[vI r1.number, .slice a1 n1 c1, .slice a2 n2 c2]), (vI r2), (vI r3)] ∧ inI r1.number ∧ ownS w' S1 (.slice a1 n1 c1) r1.bytes ∧ ownS w' S2 (.slice a2 n2 c2) r1.items ∧ inI r2 ∧ inI r3 ∧ (S1 ++ S2).Nodup ∧ (∀ k ∈ (S1 ++ S2), w0.heap.size ≤ k)) r
theorem W_spec_l11Bytes {x1 : List UInt8} {x2 : Int} {x3 : Int} {res : Val × Int × Int} (hm : M_spec_l11Bytes x1 x2 x3 = some res) (hBw : B ≤ w0.heap.size) (p1_0 : repS w0 B (.slice pa1_0 pn1_0 pc1_0) x1) (p2_0 : inI x2) (p3_0 : inI x3) : CallsR Tryz.prog 70 [(.slice pa1_0 pn1_0 pc1_0), (vI x2), (vI x3)] w0 (Q_spec_l11Bytes w0 B res) := by
 unfold M_spec_l11Bytes at hm
 obtain ⟨fn, hf, hb, hN, hr⟩ := fnE Tryz.func70
 refine goW hf (hb.trans z) (hN.trans z) (lb z) <| Ws <| E z (fa zero_61) ?_
 rintro _ w21 ⟨rfl, h22⟩
 have h23 := h22.below
 have h24 : Blk w21 w0.heap.size [(vI 0), (.slice none 0 0), (.slice none 0 0)] := h22.blk
 refine Ra z <| Ra z <| Wn <| Wq <| Ws <| Rm z ?_
 have h25 := p1_0.ext h23
 refine R z (lnR und_25 z h25) <| Rm z <| R z (rd_sub z z) <| Rm z <| R z (lss z z) <| Wn <| Wc z (fun hc35 => ?_) (fun hc35 => ?_)
 ·refine Ws <| R z (bP (parts := []) (cs := [(vI 0), (.slice none 0 0), (.slice none 0 0)]) build_61 z z) <| Rm z <| E0 (fs (cur' := [(vI 0), (.slice none 0 0), (.slice none 0 0)]) size_61 z z h24 z (lb z) (oneAll z) z) ?_
  rintro _ w37 ⟨h38, s39⟩
  refine Ra z <| Ra z <| Wn ?_
  obtain rfl := som (ifT hm hc35)
  exact Wr (ret3 hr (resC agg_61 size_61 z h38 z) z z ⟨(bM h23 s39.one (mem1 lr)), none, 0, 0, [], none, 0, 0, [], z, (ii z), onL, onL, p2_0, (ii z), nd0, al0⟩)
 refine Wk <| Ws <| E z (ef_lit0 (α := UInt8) el_25) ?_
 rintro _ w43 ⟨a44, n45, c46, rfl, s47, h48⟩
 refine Rm z <| Rm z <| Rm z <| Rm z <| R z (add_ z z) ?_
 obtain ⟨x49, e50, hm51⟩ := bdS (ifF hm hc35)
 refine RX z (rd_sliceX und_25 size_5 z z (h25.ext s47) z z e50) ?_
 rintro _ ⟨a53, n54, c55, rfl, h56⟩
 obtain ⟨x66, e67, hm68⟩ := bdS hm51
 refine E z (ef_appendN (α := UInt8) el_25 e67 z z h48 nd_one h56) ?_
 rintro _ w57 ⟨S58, a59, n60, c61, rfl, s62, h63, h64, h65⟩
 refine R z (bP (parts := [(1, (.tmp 24))]) (cs := [(vI 0), (.slice a59 n60 c61), (.slice none 0 0)]) build_61 z z) <| Rm z <| Rm z <| R z (add_ z z) ?_
 have h70 := mmr h24.lt
 refine E0 (fs (cur' := [(vI 0), (.slice a59 n60 c61), (.slice none 0 0)]) size_61 z z ((h24.ext s47).chg s62 (djs h70)) z (lb z) (oneAll z) z) ?_
 rintro _ w72 ⟨h73, s74⟩
 have h75 := s74.one
 refine Ra z <| Ra z <| Wn ?_
 obtain rfl := som hm68
 have h76 : ∀ k ∈ S58, k ∉ [w0.heap.size] := or1 h65 h70 (ltnot (mem1 h24.lt) s47.size)
 have h79 := mem1le h23.size
 exact Wr (ret3 hr (resC agg_61 size_61 z h73 z) z z ⟨(bM (bM (bup h23 s47) s62 h79) h75 (mem1 lr)), a59, n60, c61, S58, none, 0, 0, [], z, (ii z), (h63.chg h75 h76), onL, (iA _ _), (ii z), (nd_app h64 nd_nil (nmN _)), (all_app (o1le h65 h79 (lt_ h23.size s47.size)) all_nil)⟩)
def Q_spec_ReadTerminated (w0 : World) (B : Nat) (r : (List UInt8) × Int × Bool) (v : Value) (w' : World) : Prop := Below w0.heap.size w0 w' ∧ un3 (fun r1 r2 r3 => ∃ (a1 : Option Addr) (n1 c1 : Nat) (S1 : List Nat), v = .tuple #[(.slice a1 n1 c1), (vI r2), (vB r3)] ∧ ownS w' S1 (.slice a1 n1 c1) r1 ∧ inI r2 ∧ S1.Nodup ∧ (∀ k ∈ S1, w0.heap.size ≤ k)) r
theorem W_spec_ReadTerminated {x1 : List UInt8} {x2 : Int} {x3 : UInt8} {res : (List UInt8) × Int × Bool} (hm : M_spec_ReadTerminated n x1 x2 x3 = some res) (hBw : B ≤ w0.heap.size) (p1_0 : repS w0 B (.slice pa1_0 pn1_0 pc1_0) x1) (p2_0 : inI x2) : CallsR Tryz.prog 71 [(.slice pa1_0 pn1_0 pc1_0), (vI x2), (vU (byteI x3))] w0 (Q_spec_ReadTerminated w0 B res) := by
 unfold M_spec_ReadTerminated at hm
 obtain ⟨fn, hf, hb, hN, hr⟩ := fnE Tryz.func71
 refine goW hf (hb.trans z) (hN.trans z) (lb z) <| Ws <| Ra z <| Ra z <| Ra z <| Wn <| Ws <| E z (ef_lit0 (α := UInt8) el_25) ?_
 rintro _ w21 ⟨a22, n23, c24, rfl, s25, h26⟩
 refine Ra z <| Wn <| Wq <| Ws <| Rm z <| Ra z <| Wn ?_
 obtain ⟨u220, hu221, hm222⟩ := bdS hm
 refine WC_iter (σ := (List UInt8) × Int) (ρ := (List UInt8) × Int × Bool) (fun s a w => un2 (fun x210 x218 => ∃ (a211 : Option Addr) (n212 c213 : Nat) (S215 : List Nat), Sat 54 [(0, (.slice pa1_0 pn1_0 pc1_0)), (1, (vI x2)), (2, (vU (byteI x3))), (9, (.slice a211 n212 c213)), (10, (vI x218))] a ∧ Chg (· ∈ [w0.heap.size]) w21 w ∧ ownS w S215 (.slice a211 n212 c213) x210 ∧ S215.Nodup ∧ (∀ k ∈ S215, k ∈ [w0.heap.size] ∨ w21.heap.size ≤ k) ∧ inI x218) s) (fun s a w => un2 (fun x210 x218 => ∃ (a211 : Option Addr) (n212 c213 : Nat) (S215 : List Nat), Sat 54 [(1, (vI x2))] a ∧ Chg (· ∈ [w0.heap.size]) w21 w ∧ ownS w S215 (.slice a211 n212 c213) x210 ∧ S215.Nodup ∧ (∀ k ∈ S215, k ∈ [w0.heap.size] ∨ w21.heap.size ≤ k) ∧ inI x218) s) (fun r ex a w => ex = .ret ∧ RetPost Tryz.prog fn (Q_spec_ReadTerminated w0 B r) a w) hu221 ?_ ?_ ?_ ?_
 ·exact fun _ q => ⟨a22, n23, c24, [w0.heap.size], (q.weaken (s5 z z z z z)), (cr [w0.heap.size] w21), h26, nd_one, (inor sr), p2_0⟩
 ·rintro ⟨x210, x218⟩ a224 w225 o226 ⟨a211, n212, c213, S215, hS228, s229, h214, h216, h217, h219⟩ hm230
  have hm231 := un2S hm230
  refine Wu (e := [(0, (.slice pa1_0 pn1_0 pc1_0)), (1, (vI x2)), (2, (vU (byteI x3))), (9, (.slice a211 n212 c213)), (10, (vI x218))]) (N := 54) ?_ hS228
  refine Wq <| Wq ?_
  obtain ⟨u247, hu248, hm249⟩ := bdS hm231
  refine WC_cut (fun a w => ∃ (x246 : Bool), x246 = u247 ∧ Sat 54 [(0, (.slice pa1_0 pn1_0 pc1_0)), (1, (vI x2)), (2, (vU (byteI x3))), (9, (.slice a211 n212 c213)), (10, (vI x218)), (22, (vB x246))] a ∧ Below w225.heap.size w225 w) ?_ ?_
  ·refine Wg <| Rm z <| Rm z ?_
   have h252 := (p1_0.ext s25).chg s229 (ltge (mem1le hBw))
   refine R z (lnR und_25 z h252) ?_
   obtain ⟨r255, e256, hm257⟩ := bdS hu248
   refine E z (fc Tryz.call67 z (W_spec_l1In (B := B) e256 (lt_ hBw (lt_ s25.size s229.size)) p2_0 (ii z) (inI_len (repS.len h252)))) ?_
   rintro _ w258 ⟨s259, rfl⟩
   refine Rm z ?_
   rcases bsplit r255 with hc260 | hc260
   ·exact Rh z hc260 (mv z) <| Rh z hc260 (mv z) <| Rh z hc260 (lnR und_25 z (h252.ext s259)) <| Rh z hc260 (lss z z) <| R z (pT z hc260 z) <| Wl <| fun _ q => ⟨decide (x218 < (x1.length : Int)), som (ifT hm257 hc260), (q.weaken (s6 z z z z z z)), s259⟩
   iterate 4 refine Nh z hc260 ?_
   exact R z (pF z hc260 z) <| Wl <| fun _ q => ⟨false, som (ifF hm257 hc260), (q.weaken (s6 z z z z z z)), s259⟩
  rintro a264 w265 ⟨x246, rfl, hS266, s267⟩
  revert a264
  refine Wo <| Wc z (fun hc276 => ?_) (fun hc276 => ?_)
  ·refine Wk <| Wq <| WC_block <| Wq <| Ws <| Rm z <| Rm z ?_
   obtain ⟨x354, e355, hm356⟩ := bdS (ifT hm249 hc276)
   have h360 := ((p1_0.ext s25).chg s229 (ltge (mem1le hBw))).ext s267
   refine RX z (at_ (α := UInt8) und_25 size_5 z z z h360 e355) ?_
   rintro _ ⟨b361, o362, cs363, rfl, h364, h365, h366⟩
   obtain rfl := UInt8_open h365
   refine R z (l1 agg_5 z fid (h364.at0 z)) <| Rm z <| R z (eql z z) <| Wn <| Wc z (fun hc375 => ?_) (fun hc375 => ?_)
   ·refine Ws <| Rm z <| Rm z <| R z (add_ z z) <| Ra z <| Ra z <| Ra z <| Wn ?_
    have h380 : ∀ k ∈ S215, w0.heap.size ≤ k := or1 h217 (mem1 lr) (lele s25.size)
    exact Wr (rtO (QO_retL (som (ifT hm356 hc375)).symm (ret3 hr z z z ⟨(bup (bM s25 s229 (mem1 lr)) s267), a211, n212, c213, S215, z, (h214.ext s267), (iA _ _), h216, h380⟩)))
   refine Wk <| Wq <| Ws <| Rm z <| Rm z ?_
   obtain ⟨x382, e383, hm384⟩ := bdS (ifF hm356 hc375)
   refine RX z (at_ (α := UInt8) und_25 size_5 z z z h360 e383) ?_
   rintro _ ⟨b385, o386, cs387, rfl, h388, h389, h390⟩
   obtain rfl := UInt8_open h389
   refine R z (l1 agg_5 z fid (h388.at0 z)) <| R z (eql z z) <| Wn ?_
   obtain ⟨u405, hu406, hm407⟩ := bdS hm384
   refine WC_cut (fun a w => ∃ (x403 : Int), Sum.inl x403 = u405 ∧ Sat 54 [(0, (.slice pa1_0 pn1_0 pc1_0)), (1, (vI x2)), (2, (vU (byteI x3))), (9, (.slice a211 n212 c213)), (10, (vI x403))] a ∧ Below w265.heap.size w265 w ∧ inI x403) ?_ ?_
   ·refine Wc z (fun hc408 => ?_) (fun hc408 => ?_)
    ·have hm409 := ifT hu406 hc408
     refine Ws <| Rm z <| R z (add_ z z) <| Ra z <| Wn <| Ws <| Rm z <| Rm z <| R z (lnR und_25 z h360) <| R z (eql z z) <| Wn <| Wc z (fun hc419 => ?_) (fun hc419 => ?_)
     ·obtain rfl := som (ifT hm409 hc419)
      have hm421 := elR hm407
      have h423 : ∀ k ∈ S215, k ∈ [w0.heap.size] ∨ w21.heap.size ≤ k := or1 h217 (inor sr) (leor lr)
      have h424 : Chg (· ∈ [w0.heap.size]) w21 w225 := cM (cr [w0.heap.size] w21) s229 (inor sr)
      have h425 : Chg (· ∈ [w0.heap.size]) w21 w265 := cext h424 s267
      exact WC_exit (exO z (fun a' ha' => QO_brk (som hm421).symm ⟨a211, n212, c213, S215, (Sat.weaken ha' (s1 z)), h425, (h214.ext s267), h216, h423, (iA _ _)⟩))
     exact WC_skip <| fun _ q => ⟨iadd x218 1, som (ifF hm409 hc419), (q.weaken (s5 z z z z z)), (br w265), (iA _ _)⟩
    exact WC_skip <| fun _ q => ⟨x218, som (ifF hu406 hc408), (q.weaken (s5 z z z z z)), (br w265), h219⟩
   rintro a428 w429 ⟨x403, rfl, hS430, s431, h404⟩
   have hm432 := elL hm407
   revert a428
   refine Wo <| Wg <| Rm z <| Rm z <| Rm z ?_
   obtain ⟨x433, e434, hm435⟩ := bdS hm432
   refine RX z (at_ (α := UInt8) und_25 size_5 z z z (h360.ext s431) e434) ?_
   rintro _ ⟨b437, o438, cs439, rfl, h440, h441, h442⟩
   obtain rfl := UInt8_open h441
   refine R z (l1 agg_5 z fid (h440.at0 z)) <| E z (ef_buildSlice [(.tmp 49)] el_25 z z z (szAll z) (lb z) (lb z)) ?_
   rintro _ w443 ⟨rfl, h444⟩
   have h445 := h444.below
   have h446 : Blk w443 w429.heap.size [(vU (byteI x433))] := h444.blk
   have h447 := ownS_new1 h444 UInt8_own
   obtain ⟨x460, e461, hm462⟩ := bdS hm435
   refine E z (ef_pushN (α := UInt8) el_25 e461 z z (((h214.ext s267).ext s431).ext h445) h216 h446 UInt8_own all_nil nd_nil) ?_
   rintro _ w451 ⟨S452, a453, n454, c455, rfl, s456, h457, h458, h459⟩
   refine Ra z <| Wn <| Wg <| Rm z <| R z (add_ z z) <| Ra z <| Wl ?_
   have h466 : ∀ k ∈ S215, k ∈ [w0.heap.size] ∨ w21.heap.size ≤ k := or1 h217 (inor sr) (leor lr)
   have h467 : ∀ k ∈ S452, k ∈ [w0.heap.size] ∨ w21.heap.size ≤ k := or2 h459 h466 all_nil (leor (lt_ (lt_ (lt_ s229.size s267.size) s431.size) h445.size))
   have h468 : Chg (· ∈ [w0.heap.size]) w21 w225 := cM (cr [w0.heap.size] w21) s229 (inor sr)
   have h469 : Chg (· ∈ [w0.heap.size]) w21 w265 := cext h468 s267
   have h470 : Chg (· ∈ [w0.heap.size]) w21 w429 := cext h469 s431
   have h471 : Chg (· ∈ [w0.heap.size]) w21 w443 := cext h470 h445
   have h472 : Chg (· ∈ [w0.heap.size]) w21 w451 := cM h471 s456 h466
   exact fun _ q => ⟨(x460, iadd x403 1), (som hm462).symm, ⟨a453, n454, c455, S452, (q.weaken (s5 z z z z z)), h472, h457, h458, h467, (iA _ _)⟩⟩
  have h475 : ∀ k ∈ S215, k ∈ [w0.heap.size] ∨ w21.heap.size ≤ k := or1 h217 (inor sr) (leor lr)
  have h476 : Chg (· ∈ [w0.heap.size]) w21 w225 := cM (cr [w0.heap.size] w21) s229 (inor sr)
  have h477 : Chg (· ∈ [w0.heap.size]) w21 w265 := cext h476 s267
  exact WC_exit (fun a' ha' => QO_brk (som (ifF hm249 hc276)).symm ⟨a211, n212, c213, S215, (Sat.weaken ha' (s1 z)), h477, (h214.ext s267), h216, h475, h219⟩)
 ·rintro ⟨x210, x218⟩ a478 w479 rfl ⟨a211, n212, c213, S215, hS480, s481, h214, h216, h217, h219⟩
  have hm482 := elL hm222
  have hm483 := un2S hm482
  revert a478
  refine Wo <| Ws <| E z (ef_lit0 (α := UInt8) el_25) ?_
  rintro _ w484 ⟨a485, n486, c487, rfl, s488, h489⟩
  refine Rm z <| Ra z <| Ra z <| Ra z <| Wn ?_
  obtain rfl := som hm483
  exact Wr (ret3 hr z z z ⟨(bup (bM s25 s481 (mem1 lr)) s488), a485, n486, c487, [w479.heap.size], z, h489, p2_0, nd_one, (mem1le (lt_ s25.size s481.size))⟩)
 rintro r494 ex495 a496 w497 rfl ⟨rfl, hq498⟩
 have hm499 := elR hm222
 obtain rfl := som hm499
 exact ⟨hq498, z⟩
def Q_spec_l9Item (w0 : World) (B : Nat) (r : Int) (v : Value) (w' : World) : Prop := Below w0.heap.size w0 w' ∧ (fun r1 => (vI r1) = v ∧ inI r1) r
theorem W_spec_l9Item {x1 : Rule} {x2 : Int} {x3 : Int} {res : Int} (hm : M_spec_l9Item x1 x2 x3 = some res) (hBw : B ≤ w0.heap.size) (p1_0 : x1.name.b.length ≤ LEN) (p1_1 : inI x1.kind) (p1_2 : inI x1.size) (p1_4 : repS w0 B (.slice pa1_4 pn1_4 pc1_4) x1.bytes) (p1_5 : repS w0 B (.slice pa1_5 pn1_5 pc1_5) x1.names) (p1_6 : repS w0 B (.slice pa1_6 pn1_6 pc1_6) x1.tags) (p1_7 : repS w0 B (.slice pa1_7 pn1_7 pc1_7) x1.kids) (p2_0 : inI x2) (p3_0 : inI x3) : CallsR Tryz.prog 55 [(.agg #[(Str.v x1.name), (vI x1.kind), (vI x1.size), (vB x1.little), (.slice pa1_4 pn1_4 pc1_4), (.slice pa1_5 pn1_5 pc1_5), (.slice pa1_6 pn1_6 pc1_6), (.slice pa1_7 pn1_7 pc1_7)]), (vI x2), (vI x3)] w0 (Q_spec_l9Item w0 B res) := by
 unfold M_spec_l9Item at hm
 obtain ⟨fn, hf, hb, hN, hr⟩ := fnE Tryz.func55
 refine goW hf (hb.trans z) (hN.trans z) (lb z) <| Ws <| E z (fb z) ?_
 rintro _ w21 ⟨rfl, h22⟩
 have h23 := h22.below
 have h24 : Blk w21 w0.heap.size [(Str.v x1.name), (vI x1.kind), (vI x1.size), (vB x1.little), (.slice pa1_4 pn1_4 pc1_4), (.slice pa1_5 pn1_5 pc1_5), (.slice pa1_6 pn1_6 pc1_6), (.slice pa1_7 pn1_7 pc1_7)] := h22.blk
 refine Ra z <| Wn <| Wq <| Ws <| R z (fd fld_82_1 z) <| R z (l1 agg_3 z fid (h24.at z)) <| Wn <| WC_block <| Ws <| R z (eql z z) <| Ra z <| Wn <| Wc z (fun hc216 => ?_) (fun hc216 => ?_)
 ·refine Ws <| R z (fd fld_82_7 z) <| R z (l1 agg_73 z fid (h24.at z)) ?_
  obtain ⟨x218, e219, hm220⟩ := bdS (ifT hm hc216)
  refine RX z (at_ (α := Int) und_73 size_3 z z z (p1_7.ext h23) e219) ?_
  rintro _ ⟨b222, o223, cs224, rfl, h225, h226, h227⟩
  obtain ⟨rfl, h228⟩ := Int_open h226
  refine R z (l1 agg_3 z fid (h225.at0 z)) <| Ra z <| Wn ?_
  obtain rfl := som hm220
  exact Wr (rtO (ret1 hr z ⟨h23, z, h228⟩))
 refine Ws <| R z (eql z z) <| Ra z <| Wn ?_
 obtain ⟨u307, hu308, hm309⟩ := bdS (ifF hm hc216)
 refine WC_cut (fun a w => Sum.inl () = u307 ∧ Sat 57 [] a ∧ Below w21.heap.size w21 w) ?_ ?_
 ·refine Wc z (fun hc310 => ?_) (fun hc310 => ?_)
  ·have hm311 := ifT hu308 hc310
   refine Ws <| Rm z <| R z (fd fld_82_7 z) <| R z (l1 agg_73 z fid (h24.at z)) ?_
   have h312 := p1_7.ext h23
   refine R z (lnR und_73 z h312) <| R z (lss z z) <| Wn <| Wc z (fun hc328 => ?_) (fun hc328 => ?_)
   ·refine Ws <| R z (fd fld_82_7 z) <| R z (l1 agg_73 z fid (h24.at z)) <| Rm z ?_
    obtain ⟨x330, e331, hm332⟩ := bdS (ifT hm311 hc328)
    refine RX z (at_ (α := Int) und_73 size_3 z z z h312 e331) ?_
    rintro _ ⟨b333, o334, cs335, rfl, h336, h337, h338⟩
    obtain ⟨rfl, h339⟩ := Int_open h337
    refine R z (l1 agg_3 z fid (h336.at0 z)) <| Ra z <| Wn ?_
    obtain rfl := som hm332
    have hm340 := elR hm309
    obtain rfl := som hm340
    exact Wr (rtO (ret1 hr z ⟨h23, z, h339⟩))
   exact WC_skip <| fun _ q => ⟨som (ifF hm311 hc328), (q.weaken sn), (br w21)⟩
  refine Ws <| R z (eql z z) <| Ra z <| Wn ?_
  obtain ⟨u401, hu402, hm403⟩ := bdS (ifF hu308 hc310)
  refine WC_cut (fun a w => Sum.inl () = u401 ∧ Sat 57 [] a ∧ Below w21.heap.size w21 w) ?_ ?_
  ·refine Wc z (fun hc404 => ?_) (fun hc404 => ?_)
   ·refine Ws <| Ra z <| Wn ?_
    obtain ⟨u437, hu438, hm439⟩ := bdS (ifT hu402 hc404)
    refine WC_forN (σ := Unit) (ρ := Int) (fun (k440 : Nat) (_ : Unit) a w => Sat 57 [(1, (vI x2)), (3, (.pointer (some ⟨w0.heap.size, 0, none⟩))), (7, (vI ((k440 : Nat) : Int)))] a ∧ Below w21.heap.size w21 w) (fun (_ : Unit) a w => Sat 57 [] a ∧ Below w21.heap.size w21 w) (fun r ex a w => ex = .ret ∧ RetPost Tryz.prog fn (Q_spec_l9Item w0 B r) a w) hu438 ?_ ?_ ?_ ?_ ?_
    ·exact fun _ q => ⟨(q.weaken (s3 z z z)), (br w21)⟩
    ·rintro k440 _ a441 w442 o443 hk444 ⟨hS445, s446⟩ hm447
     refine Wu (e := [(1, (vI x2)), (3, (.pointer (some ⟨w0.heap.size, 0, none⟩))), (7, (vI ((k440 : Nat) : Int)))]) (N := 57) ?_ hS445
     refine Wq <| Ws <| Rm z <| R z (fd fld_82_6 z) ?_
     have h448 := h24.ext s446
     refine R z (l1 agg_73 z fid (h448.at z)) ?_
     have h450 := (p1_6.ext h23).ext s446
     refine R z (lnR und_73 z h450) <| R z (lss z z) <| Wn <| Wc z (fun _ => ?_) (fun hc => (nolt hk444 hc).elim)
     refine Wk <| Wq <| WC_block <| Ws <| R z (fd fld_82_6 z) <| R z (l1 agg_73 z fid (h448.at z)) <| Rm z ?_
     obtain ⟨x479, e480, hm481⟩ := bdS hm447
     refine RX z (at_ (α := Int) und_73 size_3 z z z h450 e480) ?_
     rintro _ ⟨b482, o483, cs484, rfl, h485, h486, h487⟩
     obtain ⟨rfl, h488⟩ := Int_open h486
     refine R z (l1 agg_3 z fid (h485.at0 z)) <| Rm z <| R z (eql z z) <| Wn <| Wc z (fun hc506 => ?_) (fun hc506 => ?_)
     ·refine Ws <| R z (fd fld_82_7 z) <| R z (l1 agg_73 z fid (h448.at z)) <| Rm z <| R z (inc_ hk444 (lt_ (repS.len p1_6) LEN_le) z z) ?_
      obtain ⟨x508, e509, hm510⟩ := bdS (ifT hm481 hc506)
      refine RX z (at_ (α := Int) und_73 size_3 z z z ((p1_7.ext h23).ext s446) e509) ?_
      rintro _ ⟨b513, o514, cs515, rfl, h516, h517, h518⟩
      obtain ⟨rfl, h519⟩ := Int_open h517
      exact R z (l1 agg_3 z fid (h516.at0 z)) <| Ra z <| Wn <| Wr (rtO (QO_retL (som hm510).symm (ret1 hr z ⟨(bup h23 s446), z, h519⟩)))
     exact Wk <| Wg <| Rm z <| R z (inc_ hk444 (lt_ (repS.len p1_6) LEN_le) z z) <| Ra z <| Wl <| fun _ q => ⟨(), (som (ifF hm481 hc506)).symm, ⟨(q.weaken (s3 z z z)), s446⟩⟩
    ·rintro _ a522 w523 ⟨hS524, s525⟩
     refine Wu (e := [(1, (vI x2)), (3, (.pointer (some ⟨w0.heap.size, 0, none⟩))), (7, (vI ((x1.tags.length : Nat) : Int)))]) (N := 57) ?_ hS524
     refine Wq <| Ws <| Rm z <| R z (fd fld_82_6 z) <| R z (l1 agg_73 z fid ((h24.ext s525).at z)) <| R z (lnR und_73 z ((p1_6.ext h23).ext s525)) <| R z (lss z z) <| Wn <| Wc z (fun hc => (noltt hc).elim) (fun _ => ?_)
     exact WC_exit (fun a' ha' => ⟨rfl, ⟨(Sat.weaken ha' sn), s525⟩⟩)
    ·rintro _ a529 w530 rfl ⟨hS531, s532⟩
     have hm533 := elL hm439
     revert a529
     exact fun _ q => ⟨som hm533, (q.weaken sn), s532⟩
    rintro r534 ex535 a536 w537 rfl ⟨rfl, hq538⟩
    have hm539 := elR hm439
    obtain rfl := som hm539
    have hm540 := elR hm403
    obtain rfl := som hm540
    have hm541 := elR hm309
    obtain rfl := som hm541
    exact ⟨hq538, z⟩
   refine Wq <| Ws <| R z (eql z z) <| Ra z <| Wn ?_
   obtain ⟨u547, hu548, hm549⟩ := bdS (ifF hu402 hc404)
   refine WC_cut (fun a w => ∃ (x546 : Bool), x546 = u547 ∧ Sat 57 [(3, (.pointer (some ⟨w0.heap.size, 0, none⟩))), (50, (vB x546))] a ∧ Below w21.heap.size w21 w) ?_ ?_
   ·refine Wc z (fun hc550 => ?_) (fun hc550 => ?_)
    ·exact WC_skip <| fun _ q => ⟨x1.kind == 8, som (ifT hu548 hc550), (q.weaken (s2 z z)), (br w21)⟩
    exact Wg <| R z (eql z z) <| Ra z <| Wl <| fun _ q => ⟨x1.kind == 9, som (ifF hu548 hc550), (q.weaken (s2 z z)), (br w21)⟩
   rintro a553 w554 ⟨x546, rfl, hS555, s556⟩
   revert a553
   refine Wo <| Wc z (fun hc577 => ?_) (fun hc577 => ?_)
   ·refine Ws <| R z (fd fld_82_7 z) <| R z (l1 agg_73 z fid ((h24.ext s556).at z)) ?_
    obtain ⟨x580, e581, hm582⟩ := bdS (ifT hm549 hc577)
    refine RX z (at_ (α := Int) und_73 size_3 z z z ((p1_7.ext h23).ext s556) e581) ?_
    rintro _ ⟨b585, o586, cs587, rfl, h588, h589, h590⟩
    obtain ⟨rfl, h591⟩ := Int_open h589
    refine R z (l1 agg_3 z fid (h588.at0 z)) <| Ra z <| Wn ?_
    obtain rfl := som hm582
    have hm592 := elR hm403
    obtain rfl := som hm592
    have hm593 := elR hm309
    obtain rfl := som hm593
    exact Wr (rtO (ret1 hr z ⟨(bup h23 s556), z, h591⟩))
   exact WC_skip <| fun _ q => ⟨som (ifF hm549 hc577), (q.weaken sn), s556⟩
  rintro a596 w597 ⟨rfl, hS598, s599⟩
  have hm600 := elL hm403
  revert a596
  exact fun _ q => ⟨som hm600, (q.weaken sn), s599⟩
 rintro a601 w602 ⟨rfl, hS603, s604⟩
 have hm605 := elL hm309
 revert a601
 refine Wo <| Ws <| Ra z <| Wn ?_
 obtain rfl := som hm605
 exact Wr (ret1 hr z ⟨(bup h23 s604), z, (ii z)⟩)
def Q_spec_SumOfBytes (w0 : World) (B : Nat) (r : Int) (v : Value) (w' : World) : Prop := Below w0.heap.size w0 w' ∧ (fun r1 => (vI r1) = v ∧ inI r1) r
theorem W_spec_SumOfBytes {x1 : List UInt8} {res : Int} (hm : M_spec_SumOfBytes x1 = some res) (hBw : B ≤ w0.heap.size) (p1_0 : repS w0 B (.slice pa1_0 pn1_0 pc1_0) x1) : CallsR Tryz.prog 98 [(.slice pa1_0 pn1_0 pc1_0)] w0 (Q_spec_SumOfBytes w0 B res) := by
 unfold M_spec_SumOfBytes at hm
 obtain ⟨fn, hf, hb, hN, hr⟩ := fnE Tryz.func98
 refine goW hf (hb.trans z) (hN.trans z) (lb z) <| Ws <| Ra z <| Wn <| Ws <| Ra z <| Wn <| Wq <| Ws <| Ra z <| Wn ?_
 obtain ⟨u45, hu46, hm47⟩ := bdS hm
 refine WC_forN (σ := Int) (ρ := Int) (fun (k48 : Nat) (x43 : Int) a w => Sat 20 [(0, (.slice pa1_0 pn1_0 pc1_0)), (3, (vI x43)), (4, (vI ((k48 : Nat) : Int)))] a ∧ Below w0.heap.size w0 w ∧ inI x43) (fun (x43 : Int) a w => Sat 20 [(3, (vI x43))] a ∧ Below w0.heap.size w0 w ∧ inI x43) (fun r ex a w => ex = .ret ∧ RetPost Tryz.prog fn (Q_spec_SumOfBytes w0 B r) a w) hu46 ?_ ?_ ?_ ?_ ?_
 ·exact fun _ q => ⟨(q.weaken (s3 z z z)), (br w0), (ii z)⟩
 ·rintro k48 x43 a49 w50 o51 hk52 ⟨hS53, s54, h44⟩ hm55
  refine Wu (e := [(0, (.slice pa1_0 pn1_0 pc1_0)), (3, (vI x43)), (4, (vI ((k48 : Nat) : Int)))]) (N := 20) ?_ hS53
  refine Wq <| Ws <| Rm z <| Rm z ?_
  have h56 := p1_0.ext s54
  refine R z (lnR und_25 z h56) <| R z (lss z z) <| Wn <| Wc z (fun _ => ?_) (fun hc => (nolt hk52 hc).elim)
  refine Wk <| Wq <| WC_block <| Wg <| Rm z <| Rm z <| Rm z ?_
  obtain ⟨x66, e67, hm68⟩ := bdS hm55
  refine RX z (at_ (α := UInt8) und_25 size_5 z z z h56 e67) ?_
  rintro _ ⟨b69, o70, cs71, rfl, h72, h73, h74⟩
  obtain rfl := UInt8_open h73
  exact R z (l1 agg_5 z fid (h72.at0 z)) <| R z (rd_convUI und_5 und_3 z) <| R z (add_ z z) <| R z (rd_rem z z (by decide)) <| Ra z <| Wn <| Wg <| Rm z <| R z (inc_ hk52 (lt_ (repS.len p1_0) LEN_le) z z) <| Ra z <| Wl <| fun _ q => ⟨irem (iadd x43 (byteI x66)) 256, (som hm68).symm, ⟨(q.weaken (s3 z z z)), s54, (inI_rem (iA _ _))⟩⟩
 ·rintro x43 a75 w76 ⟨hS77, s78, h44⟩
  refine Wu (e := [(0, (.slice pa1_0 pn1_0 pc1_0)), (3, (vI x43)), (4, (vI ((x1.length : Nat) : Int)))]) (N := 20) ?_ hS77
  refine Wq <| Ws <| Rm z <| Rm z <| R z (lnR und_25 z (p1_0.ext s78)) <| R z (lss z z) <| Wn <| Wc z (fun hc => (noltt hc).elim) (fun _ => ?_)
  exact WC_exit (fun a' ha' => ⟨rfl, ⟨(Sat.weaken ha' (s1 z)), s78, h44⟩⟩)
 ·rintro x43 a80 w81 rfl ⟨hS82, s83, h44⟩
  have hm84 := elL hm47
  revert a80
  refine Wo <| Ws <| Rm z <| Ra z <| Wn ?_
  obtain rfl := som hm84
  exact Wr (ret1 hr z ⟨s83, z, h44⟩)
 rintro r85 ex86 a87 w88 rfl ⟨rfl, hq89⟩
 have hm90 := elR hm47
 obtain rfl := som hm90
 exact ⟨hq89, z⟩
def Q_spec_l11Read (w0 : World) (B : Nat) (r : Val × Int × Int) (v : Value) (w' : World) : Prop := Below w0.heap.size w0 w' ∧ un3 (fun r1 r2 r3 => ∃ (a1 : Option Addr) (n1 c1 : Nat) (S1 : List Nat) (a2 : Option Addr) (n2 c2 : Nat) (S2 : List Nat), v = .tuple #[(.agg #[vI r1.number, .slice a1 n1 c1, .slice a2 n2 c2]), (vI r2), (vI r3)] ∧ inI r1.number ∧ ownS w' S1 (.slice a1 n1 c1) r1.bytes ∧ ownS w' S2 (.slice a2 n2 c2) r1.items ∧ inI r2 ∧ inI r3 ∧ (S1 ++ S2).Nodup ∧ (∀ k ∈ (S1 ++ S2), w0.heap.size ≤ k)) r
def Q_spec_l11Items (w0 : World) (B : Nat) (r : Val × Int × Int) (v : Value) (w' : World) : Prop := Below w0.heap.size w0 w' ∧ un3 (fun r1 r2 r3 => ∃ (a1 : Option Addr) (n1 c1 : Nat) (S1 : List Nat) (a2 : Option Addr) (n2 c2 : Nat) (S2 : List Nat), v = .tuple #[(.agg #[vI r1.number, .slice a1 n1 c1, .slice a2 n2 c2]), (vI r2), (vI r3)] ∧ inI r1.number ∧ ownS w' S1 (.slice a1 n1 c1) r1.bytes ∧ ownS w' S2 (.slice a2 n2 c2) r1.items ∧ inI r2 ∧ inI r3 ∧ (S1 ++ S2).Nodup ∧ (∀ k ∈ (S1 ++ S2), w0.heap.size ≤ k)) r
def Q_spec_l11Choice (w0 : World) (B : Nat) (r : Val × Int × Int) (v : Value) (w' : World) : Prop := Below w0.heap.size w0 w' ∧ un3 (fun r1 r2 r3 => ∃ (a1 : Option Addr) (n1 c1 : Nat) (S1 : List Nat) (a2 : Option Addr) (n2 c2 : Nat) (S2 : List Nat), v = .tuple #[(.agg #[vI r1.number, .slice a1 n1 c1, .slice a2 n2 c2]), (vI r2), (vI r3)] ∧ inI r1.number ∧ ownS w' S1 (.slice a1 n1 c1) r1.bytes ∧ ownS w' S2 (.slice a2 n2 c2) r1.items ∧ inI r2 ∧ inI r3 ∧ (S1 ++ S2).Nodup ∧ (∀ k ∈ (S1 ++ S2), w0.heap.size ≤ k)) r
def Q_spec_l11Option (w0 : World) (B : Nat) (r : Val × Int × Int) (v : Value) (w' : World) : Prop := Below w0.heap.size w0 w' ∧ un3 (fun r1 r2 r3 => ∃ (a1 : Option Addr) (n1 c1 : Nat) (S1 : List Nat) (a2 : Option Addr) (n2 c2 : Nat) (S2 : List Nat), v = .tuple #[(.agg #[vI r1.number, .slice a1 n1 c1, .slice a2 n2 c2]), (vI r2), (vI r3)] ∧ inI r1.number ∧ ownS w' S1 (.slice a1 n1 c1) r1.bytes ∧ ownS w' S2 (.slice a2 n2 c2) r1.items ∧ inI r2 ∧ inI r3 ∧ (S1 ++ S2).Nodup ∧ (∀ k ∈ (S1 ++ S2), w0.heap.size ≤ k)) r
def Q_spec_l11Checked (w0 : World) (B : Nat) (r : Val × Int × Int) (v : Value) (w' : World) : Prop := Below w0.heap.size w0 w' ∧ un3 (fun r1 r2 r3 => ∃ (a1 : Option Addr) (n1 c1 : Nat) (S1 : List Nat) (a2 : Option Addr) (n2 c2 : Nat) (S2 : List Nat), v = .tuple #[(.agg #[vI r1.number, .slice a1 n1 c1, .slice a2 n2 c2]), (vI r2), (vI r3)] ∧ inI r1.number ∧ ownS w' S1 (.slice a1 n1 c1) r1.bytes ∧ ownS w' S2 (.slice a2 n2 c2) r1.items ∧ inI r2 ∧ inI r3 ∧ (S1 ++ S2).Nodup ∧ (∀ k ∈ (S1 ++ S2), w0.heap.size ≤ k)) r
structure S_spec_l11Read (n : Nat) : Prop where
  run : ∀ {B : Nat} {x1 : Desc} {pa1_0 : Option Addr} {pn1_0 pc1_0 : Nat} {x2 : Int} {x3 : List UInt8} {pa3_0 : Option Addr} {pn3_0 pc3_0 : Nat} {x4 : Int} {res : Val × Int × Int} {w0 : World} (hm : (F_spec_l11Read n).spec_l11Read x1 x2 x3 x4 = some res) (hBw : B ≤ w0.heap.size) (p1_0 : repS w0 B (.slice pa1_0 pn1_0 pc1_0) x1.rules) (p2_0 : inI x2) (p3_0 : repS w0 B (.slice pa3_0 pn3_0 pc3_0) x3) (p4_0 : inI x4), CallsR Tryz.prog 43 [(.agg #[(.slice pa1_0 pn1_0 pc1_0)]), (vI x2), (.slice pa3_0 pn3_0 pc3_0), (vI x4)] w0 (Q_spec_l11Read w0 B res)
structure S_spec_l11Items (n : Nat) : Prop where
  run : ∀ {B : Nat} {x1 : Desc} {pa1_0 : Option Addr} {pn1_0 pc1_0 : Nat} {x2 : Rule} {pa2_4 : Option Addr} {pn2_4 pc2_4 : Nat} {pa2_5 : Option Addr} {pn2_5 pc2_5 : Nat} {pa2_6 : Option Addr} {pn2_6 pc2_6 : Nat} {pa2_7 : Option Addr} {pn2_7 pc2_7 : Nat} {x3 : Int} {x4 : Int} {x5 : List UInt8} {pa5_0 : Option Addr} {pn5_0 pc5_0 : Nat} {x6 : Int} {res : Val × Int × Int} {w0 : World} (hm : (F_spec_l11Read n).spec_l11Items x1 x2 x3 x4 x5 x6 = some res) (hBw : B ≤ w0.heap.size) (p1_0 : repS w0 B (.slice pa1_0 pn1_0 pc1_0) x1.rules) (p2_0 : x2.name.b.length ≤ LEN) (p2_1 : inI x2.kind) (p2_2 : inI x2.size) (p2_4 : repS w0 B (.slice pa2_4 pn2_4 pc2_4) x2.bytes) (p2_5 : repS w0 B (.slice pa2_5 pn2_5 pc2_5) x2.names) (p2_6 : repS w0 B (.slice pa2_6 pn2_6 pc2_6) x2.tags) (p2_7 : repS w0 B (.slice pa2_7 pn2_7 pc2_7) x2.kids) (p3_0 : inI x3) (p4_0 : inI x4) (p5_0 : repS w0 B (.slice pa5_0 pn5_0 pc5_0) x5) (p6_0 : inI x6), CallsR Tryz.prog 72 [(.agg #[(.slice pa1_0 pn1_0 pc1_0)]), (.agg #[(Str.v x2.name), (vI x2.kind), (vI x2.size), (vB x2.little), (.slice pa2_4 pn2_4 pc2_4), (.slice pa2_5 pn2_5 pc2_5), (.slice pa2_6 pn2_6 pc2_6), (.slice pa2_7 pn2_7 pc2_7)]), (vI x3), (vI x4), (.slice pa5_0 pn5_0 pc5_0), (vI x6)] w0 (Q_spec_l11Items w0 B res)
structure S_spec_l11Choice (n : Nat) : Prop where
  run : ∀ {B : Nat} {x1 : Desc} {pa1_0 : Option Addr} {pn1_0 pc1_0 : Nat} {x2 : Rule} {pa2_4 : Option Addr} {pn2_4 pc2_4 : Nat} {pa2_5 : Option Addr} {pn2_5 pc2_5 : Nat} {pa2_6 : Option Addr} {pn2_6 pc2_6 : Nat} {pa2_7 : Option Addr} {pn2_7 pc2_7 : Nat} {x3 : List UInt8} {pa3_0 : Option Addr} {pn3_0 pc3_0 : Nat} {x4 : Int} {res : Val × Int × Int} {w0 : World} (hm : (F_spec_l11Read n).spec_l11Choice x1 x2 x3 x4 = some res) (hBw : B ≤ w0.heap.size) (p1_0 : repS w0 B (.slice pa1_0 pn1_0 pc1_0) x1.rules) (p2_0 : x2.name.b.length ≤ LEN) (p2_1 : inI x2.kind) (p2_2 : inI x2.size) (p2_4 : repS w0 B (.slice pa2_4 pn2_4 pc2_4) x2.bytes) (p2_5 : repS w0 B (.slice pa2_5 pn2_5 pc2_5) x2.names) (p2_6 : repS w0 B (.slice pa2_6 pn2_6 pc2_6) x2.tags) (p2_7 : repS w0 B (.slice pa2_7 pn2_7 pc2_7) x2.kids) (p3_0 : repS w0 B (.slice pa3_0 pn3_0 pc3_0) x3) (p4_0 : inI x4), CallsR Tryz.prog 73 [(.agg #[(.slice pa1_0 pn1_0 pc1_0)]), (.agg #[(Str.v x2.name), (vI x2.kind), (vI x2.size), (vB x2.little), (.slice pa2_4 pn2_4 pc2_4), (.slice pa2_5 pn2_5 pc2_5), (.slice pa2_6 pn2_6 pc2_6), (.slice pa2_7 pn2_7 pc2_7)]), (.slice pa3_0 pn3_0 pc3_0), (vI x4)] w0 (Q_spec_l11Choice w0 B res)
structure S_spec_l11Option (n : Nat) : Prop where
  run : ∀ {B : Nat} {x1 : Desc} {pa1_0 : Option Addr} {pn1_0 pc1_0 : Nat} {x2 : Rule} {pa2_4 : Option Addr} {pn2_4 pc2_4 : Nat} {pa2_5 : Option Addr} {pn2_5 pc2_5 : Nat} {pa2_6 : Option Addr} {pn2_6 pc2_6 : Nat} {pa2_7 : Option Addr} {pn2_7 pc2_7 : Nat} {x3 : List UInt8} {pa3_0 : Option Addr} {pn3_0 pc3_0 : Nat} {x4 : Int} {res : Val × Int × Int} {w0 : World} (hm : (F_spec_l11Read n).spec_l11Option x1 x2 x3 x4 = some res) (hBw : B ≤ w0.heap.size) (p1_0 : repS w0 B (.slice pa1_0 pn1_0 pc1_0) x1.rules) (p2_0 : x2.name.b.length ≤ LEN) (p2_1 : inI x2.kind) (p2_2 : inI x2.size) (p2_4 : repS w0 B (.slice pa2_4 pn2_4 pc2_4) x2.bytes) (p2_5 : repS w0 B (.slice pa2_5 pn2_5 pc2_5) x2.names) (p2_6 : repS w0 B (.slice pa2_6 pn2_6 pc2_6) x2.tags) (p2_7 : repS w0 B (.slice pa2_7 pn2_7 pc2_7) x2.kids) (p3_0 : repS w0 B (.slice pa3_0 pn3_0 pc3_0) x3) (p4_0 : inI x4), CallsR Tryz.prog 74 [(.agg #[(.slice pa1_0 pn1_0 pc1_0)]), (.agg #[(Str.v x2.name), (vI x2.kind), (vI x2.size), (vB x2.little), (.slice pa2_4 pn2_4 pc2_4), (.slice pa2_5 pn2_5 pc2_5), (.slice pa2_6 pn2_6 pc2_6), (.slice pa2_7 pn2_7 pc2_7)]), (.slice pa3_0 pn3_0 pc3_0), (vI x4)] w0 (Q_spec_l11Option w0 B res)
structure S_spec_l11Checked (n : Nat) : Prop where
  run : ∀ {B : Nat} {x1 : Desc} {pa1_0 : Option Addr} {pn1_0 pc1_0 : Nat} {x2 : Rule} {pa2_4 : Option Addr} {pn2_4 pc2_4 : Nat} {pa2_5 : Option Addr} {pn2_5 pc2_5 : Nat} {pa2_6 : Option Addr} {pn2_6 pc2_6 : Nat} {pa2_7 : Option Addr} {pn2_7 pc2_7 : Nat} {x3 : List UInt8} {pa3_0 : Option Addr} {pn3_0 pc3_0 : Nat} {x4 : Int} {res : Val × Int × Int} {w0 : World} (hm : (F_spec_l11Read n).spec_l11Checked x1 x2 x3 x4 = some res) (hBw : B ≤ w0.heap.size) (p1_0 : repS w0 B (.slice pa1_0 pn1_0 pc1_0) x1.rules) (p2_0 : x2.name.b.length ≤ LEN) (p2_1 : inI x2.kind) (p2_2 : inI x2.size) (p2_4 : repS w0 B (.slice pa2_4 pn2_4 pc2_4) x2.bytes) (p2_5 : repS w0 B (.slice pa2_5 pn2_5 pc2_5) x2.names) (p2_6 : repS w0 B (.slice pa2_6 pn2_6 pc2_6) x2.tags) (p2_7 : repS w0 B (.slice pa2_7 pn2_7 pc2_7) x2.kids) (p3_0 : repS w0 B (.slice pa3_0 pn3_0 pc3_0) x3) (p4_0 : inI x4), CallsR Tryz.prog 75 [(.agg #[(.slice pa1_0 pn1_0 pc1_0)]), (.agg #[(Str.v x2.name), (vI x2.kind), (vI x2.size), (vB x2.little), (.slice pa2_4 pn2_4 pc2_4), (.slice pa2_5 pn2_5 pc2_5), (.slice pa2_6 pn2_6 pc2_6), (.slice pa2_7 pn2_7 pc2_7)]), (.slice pa3_0 pn3_0 pc3_0), (vI x4)] w0 (Q_spec_l11Checked w0 B res)
theorem T_spec_l11Read (ih_spec_l11Read : S_spec_l11Read n) (ih_spec_l11Items : S_spec_l11Items n) (ih_spec_l11Choice : S_spec_l11Choice n) (ih_spec_l11Option : S_spec_l11Option n) (ih_spec_l11Checked : S_spec_l11Checked n) {x1 : Desc} {x2 : Int} {x3 : List UInt8} {x4 : Int} {res : Val × Int × Int} (hm : B_spec_l11Read n (F_spec_l11Read n) x1 x2 x3 x4 = some res) (hBw : B ≤ w0.heap.size) (p1_0 : repS w0 B (.slice pa1_0 pn1_0 pc1_0) x1.rules) (p2_0 : inI x2) (p3_0 : repS w0 B (.slice pa3_0 pn3_0 pc3_0) x3) (p4_0 : inI x4) : CallsR Tryz.prog 43 [(.agg #[(.slice pa1_0 pn1_0 pc1_0)]), (vI x2), (.slice pa3_0 pn3_0 pc3_0), (vI x4)] w0 (Q_spec_l11Read w0 B res) := by
 unfold B_spec_l11Read at hm
 obtain ⟨fn, hf, hb, hN, hr⟩ := fnE Tryz.func43
 refine goW hf (hb.trans z) (hN.trans z) (lb z) <| Ws <| E z (fb z) ?_
 rintro _ w21 ⟨rfl, h22⟩
 have h23 := h22.below
 have h24 : Blk w21 w0.heap.size [(.slice pa1_0 pn1_0 pc1_0)] := h22.blk
 refine E z (fa zero_61) ?_
 rintro _ w25 ⟨rfl, h26⟩
 have h27 := h26.below
 have h28 : Blk w25 w21.heap.size [(vI 0), (.slice none 0 0), (.slice none 0 0)] := h26.blk
 refine Ra z <| Ra z <| Wn <| Ws <| R z (fd fld_31_0 z) ?_
 have h29 := h24.ext h27
 refine R z (l1 agg_29 z fid (h29.at z)) <| Rm z ?_
 obtain ⟨x30, e31, hm32⟩ := bdS hm
 have h34 := (p1_0.ext h23).ext h27
 refine RX z (at_ (α := Rule) und_29 size_82 z z z h34 e31) ?_
 rintro _ ⟨b35, o36, cs37, rfl, h38, h39, h40⟩
 obtain ⟨a44, n45, c46, a48, n49, c50, a52, n53, c54, a56, n57, c58, rfl, h41, h42, h43, h47, h51, h55, h59⟩ := Rule_open h39
 refine R z (lN (vs := [(Str.v x30.name), (vI x30.kind), (vI x30.size), (vB x30.little), (.slice a44 n45 c46), (.slice a48 n49 c50), (.slice a52 n53 c54), (.slice a56 n57 c58)]) agg_82 size_82 z z fid h38) <| E z (fa zero_82) ?_
 rintro _ w60 ⟨rfl, h61⟩
 have h62 := h61.below
 have h63 : Blk w60 w25.heap.size [(Str.v (⟨[]⟩ : Str)), (vI 0), (vI 0), (vB false), (.slice none 0 0), (.slice none 0 0), (.slice none 0 0), (.slice none 0 0)] := h61.blk
 refine E0 (fs (cur' := [(Str.v x30.name), (vI x30.kind), (vI x30.size), (vB x30.little), (.slice a44 n45 c46), (.slice a48 n49 c50), (.slice a52 n53 c54), (.slice a56 n57 c58)]) size_82 z z h63 z (lb z) (oneAll z) z) ?_
 rintro _ w64 ⟨h65, s66⟩
 have h67 := s66.one
 refine Wn <| Wq <| Ws <| R z (fd fld_82_1 z) <| R z (l1 agg_3 z fid (h65.at z)) <| Wn <| WC_block <| Ws <| R z (eql z z) <| Ra z <| Wn <| Wc z (fun hc1240 => ?_) (fun hc1240 => ?_)
 ·refine Ws <| R z (lN (vs := [(.slice pa1_0 pn1_0 pc1_0)]) agg_31 size_31 z z fid (((h29.ext h62).chg h67 (djs (mm1 h24.lt h27.size))).row 0 1 z)) <| Rm z <| Rm z <| Rm z ?_
  have h1246 := lt_ h23.size h27.size
  have h1248 := mem1le (lt_ hBw h1246)
  obtain ⟨r1257, r1258, r1259, e1260, hm1261⟩ := bd3S (ifT hm32 hc1240)
  refine E z (fc Tryz.call54 z (W_spec_l11Integer (B := B) e1260 (lt_ hBw (lt_ (lt_ h1246 h62.size) h67.size)) ((h34.ext h62).chg h67 (ltge h1248)) p2_0 ((((p3_0.ext h23).ext h27).ext h62).chg h67 (ltge h1248)) p4_0)) ?_
  rintro _ w1262 ⟨s1263, rfl, h1264, h1265⟩
  refine Rm z ?_
  iterate 3 refine R z (ext_ z z) ?_
  refine Ra z <| Ra z <| Ra z <| Wn <| Wq <| Ws <| Rm z <| R z (not_ z) <| Wn <| Wc z (fun hc1285 => ?_) (fun hc1285 => ?_)
  ·refine Ws <| R z (bP (parts := []) (cs := [(vI 0), (.slice none 0 0), (.slice none 0 0)]) build_61 z z) <| Rm z <| E0 (fs (cur' := [(vI 0), (.slice none 0 0), (.slice none 0 0)]) size_61 z z (((h28.ext h62).chg h67 (djs (mmr h28.lt))).ext s1263) z (lb z) (oneAll z) z) ?_
   rintro _ w1291 ⟨h1292, s1293⟩
   refine Ra z <| Ra z <| Wn ?_
   obtain rfl := som (ifT hm1261 hc1285)
   exact Wr (rtO (ret3 hr (resC agg_61 size_61 z h1292 z) z z ⟨(bM (bup (bM (bup (bup h23 h27) h62) h67 (mem1le h1246)) s1263) s1293.one (mem1le h23.size)), none, 0, 0, [], none, 0, 0, [], z, (ii z), onL, onL, p4_0, (ii z), nd0, al0⟩))
  refine Wk <| Ws <| Rm z <| R z (bP (parts := [(0, (.tmp 43))]) (cs := [(vI r1257), (.slice none 0 0), (.slice none 0 0)]) build_61 z z) <| Rm z <| E0 (fs (cur' := [(vI r1257), (.slice none 0 0), (.slice none 0 0)]) size_61 z z (((h28.ext h62).chg h67 (djs (mmr h28.lt))).ext s1263) z (lb z) (oneAll z) z) ?_
  rintro _ w1307 ⟨h1308, s1309⟩
  refine Ra z <| Ra z <| Wn ?_
  obtain rfl := som (ifF hm1261 hc1285)
  exact Wr (rtO (ret3 hr (resC agg_61 size_61 z h1308 z) z z ⟨(bM (bup (bM (bup (bup h23 h27) h62) h67 (mem1le h1246)) s1263) s1309.one (mem1le h23.size)), none, 0, 0, [], none, 0, 0, [], z, h1264, onL, onL, h1265, (ii z), nd0, al0⟩))
 have hm1318 := ifF hm32 hc1240
 refine Ws <| R z (eql z z) <| Ra z <| Wn <| Wc z (fun hc1829 => ?_) (fun hc1829 => ?_)
 ·refine Ws <| R z (lN (vs := [(Str.v x30.name), (vI x30.kind), (vI x30.size), (vB x30.little), (.slice a44 n45 c46), (.slice a48 n49 c50), (.slice a52 n53 c54), (.slice a56 n57 c58)]) agg_82 size_82 z z fid (h65.row 0 8 z)) <| Rm z <| Rm z ?_
  have h1832 := lt_ h23.size h27.size
  have h1834 := mem1le (lt_ hBw h1832)
  have h1847 := lt_ (lt_ h1832 h62.size) h67.size
  obtain ⟨r1849, r1850, r1851, e1852, hm1853⟩ := bd3S (ifT hm1318 hc1829)
  refine E z (fc Tryz.call69 z (W_spec_l11Const (B := B) e1852 (lt_ hBw h1847) h41 h42 h43 ((h47.ext h62).chg h67 (ltge h1834)) ((h51.ext h62).chg h67 (ltge h1834)) ((h55.ext h62).chg h67 (ltge h1834)) ((h59.ext h62).chg h67 (ltge h1834)) ((((p3_0.ext h23).ext h27).ext h62).chg h67 (ltge h1834)) p4_0)) ?_
  rintro _ w1854 ⟨s1855, a1857, n1858, c1859, S1861, a1862, n1863, c1864, S1866, rfl, h1856, h1860, h1865, h1867, h1868, h1869, h1870⟩
  iterate 3 refine R z (ext_ z z) ?_
  refine E0 (fs (cur' := [(vI r1849.number), (.slice a1857 n1858 c1859), (.slice a1862 n1863 c1864)]) size_61 z z (((h28.ext h62).chg h67 (djs (mmr h28.lt))).ext s1855) z (lb z) (oneAll z) z) ?_
  rintro _ w1875 ⟨h1876, s1877⟩
  have h1878 := s1877.one
  refine Ra z <| Ra z <| Wn ?_
  obtain rfl := som hm1853
  have h1879 := lt_ h62.size h67.size
  exact Wr (rtO (ret3 hr (resC agg_61 size_61 z h1876 z) z z ⟨(bM (bup (bM (bup (bup h23 h27) h62) h67 (mem1le h1832)) s1855) h1878 (mem1le h23.size)), a1857, n1858, c1859, S1861, a1862, n1863, c1864, S1866, z, h1856, (h1860.chg h1878 (o0n1 (all_left h1870) h28.lt h1879)), (h1865.chg h1878 (o0n1 (all_right h1870) h28.lt h1879)), h1867, h1868, (nd_app (nd_left h1869) (nd_right h1869) (nd_dj h1869)), (all_app (o0le (all_left h1870) h1847) (o0le (all_right h1870) h1847))⟩))
 have hm1893 := ifF hm1318 hc1829
 refine Ws <| R z (eql z z) <| Ra z <| Wn <| Wc z (fun hc2331 => ?_) (fun hc2331 => ?_)
 ·refine Ws <| Rm z <| Rm z <| R z (fd fld_82_2 z) <| R z (l1 agg_3 z fid (h65.at z)) ?_
  have h2336 := lt_ h23.size h27.size
  have h2341 := lt_ (lt_ h2336 h62.size) h67.size
  obtain ⟨r2343, r2344, r2345, e2346, hm2347⟩ := bd3S (ifT hm1893 hc2331)
  refine E z (fc Tryz.call70 z (W_spec_l11Bytes (B := B) e2346 (lt_ hBw h2341) ((((p3_0.ext h23).ext h27).ext h62).chg h67 (ltge (mem1le (lt_ hBw h2336)))) p4_0 h43)) ?_
  rintro _ w2348 ⟨s2349, a2351, n2352, c2353, S2355, a2356, n2357, c2358, S2360, rfl, h2350, h2354, h2359, h2361, h2362, h2363, h2364⟩
  iterate 3 refine R z (ext_ z z) ?_
  refine E0 (fs (cur' := [(vI r2343.number), (.slice a2351 n2352 c2353), (.slice a2356 n2357 c2358)]) size_61 z z (((h28.ext h62).chg h67 (djs (mmr h28.lt))).ext s2349) z (lb z) (oneAll z) z) ?_
  rintro _ w2369 ⟨h2370, s2371⟩
  have h2372 := s2371.one
  refine Ra z <| Ra z <| Wn ?_
  obtain rfl := som hm2347
  have h2373 := lt_ h62.size h67.size
  exact Wr (rtO (ret3 hr (resC agg_61 size_61 z h2370 z) z z ⟨(bM (bup (bM (bup (bup h23 h27) h62) h67 (mem1le h2336)) s2349) h2372 (mem1le h23.size)), a2351, n2352, c2353, S2355, a2356, n2357, c2358, S2360, z, h2350, (h2354.chg h2372 (o0n1 (all_left h2364) h28.lt h2373)), (h2359.chg h2372 (o0n1 (all_right h2364) h28.lt h2373)), h2361, h2362, (nd_app (nd_left h2363) (nd_right h2363) (nd_dj h2363)), (all_app (o0le (all_left h2364) h2341) (o0le (all_right h2364) h2341))⟩))
 have hm2387 := ifF hm1893 hc2331
 refine Ws <| R z (eql z z) <| Ra z <| Wn <| Wc z (fun hc2761 => ?_) (fun hc2761 => ?_)
 ·refine Ws <| Rm z <| Rm z <| R z (fd fld_82_4 z) <| R z (l1 agg_25 z fid (h65.at z)) ?_
  obtain ⟨x2763, e2764, hm2765⟩ := bdS (ifT hm2387 hc2761)
  have h2767 := lt_ h23.size h27.size
  have h2769 := mem1le (lt_ hBw h2767)
  refine RX z (at_ (α := UInt8) und_25 size_5 z z z ((h47.ext h62).chg h67 (ltge h2769)) e2764) ?_
  rintro _ ⟨b2771, o2772, cs2773, rfl, h2774, h2775, h2776⟩
  obtain rfl := UInt8_open h2775
  refine R z (l1 agg_5 z fid (h2774.at0 z)) ?_
  have h2782 := lt_ (lt_ h2767 h62.size) h67.size
  obtain ⟨r2784, r2785, r2786, e2787, hm2788⟩ := bd3S hm2765
  refine E z (fc Tryz.call71 z (W_spec_ReadTerminated (B := B) e2787 (lt_ hBw h2782) ((((p3_0.ext h23).ext h27).ext h62).chg h67 (ltge h2769)) p4_0)) ?_
  rintro _ w2789 ⟨s2790, a2791, n2792, c2793, S2795, rfl, h2794, h2796, h2797, h2798⟩
  refine Rm z ?_
  iterate 3 refine R z (ext_ z z) ?_
  refine Ra z <| Ra z <| Ra z <| Wn <| Wq <| Ws <| Rm z <| R z (not_ z) <| Wn <| Wc z (fun hc2818 => ?_) (fun hc2818 => ?_)
  ·refine Ws <| R z (bP (parts := []) (cs := [(vI 0), (.slice none 0 0), (.slice none 0 0)]) build_61 z z) <| Rm z <| E0 (fs (cur' := [(vI 0), (.slice none 0 0), (.slice none 0 0)]) size_61 z z (((h28.ext h62).chg h67 (djs (mmr h28.lt))).ext s2790) z (lb z) (oneAll z) z) ?_
   rintro _ w2824 ⟨h2825, s2826⟩
   refine Ra z <| Ra z <| Wn ?_
   obtain rfl := som (ifT hm2788 hc2818)
   exact Wr (rtO (ret3 hr (resC agg_61 size_61 z h2825 z) z z ⟨(bM (bup (bM (bup (bup h23 h27) h62) h67 (mem1le h2767)) s2790) s2826.one (mem1le h23.size)), none, 0, 0, [], none, 0, 0, [], z, (ii z), onL, onL, p4_0, (ii z), nd0, al0⟩))
  refine Wk <| Ws <| Rm z <| R z (bP (parts := [(1, (.tmp 82))]) (cs := [(vI 0), (.slice a2791 n2792 c2793), (.slice none 0 0)]) build_61 z z) <| Rm z <| E0 (fs (cur' := [(vI 0), (.slice a2791 n2792 c2793), (.slice none 0 0)]) size_61 z z (((h28.ext h62).chg h67 (djs (mmr h28.lt))).ext s2790) z (lb z) (oneAll z) z) ?_
  rintro _ w2840 ⟨h2841, s2842⟩
  have h2843 := s2842.one
  refine Ra z <| Ra z <| Wn ?_
  obtain rfl := som (ifF hm2788 hc2818)
  exact Wr (rtO (ret3 hr (resC agg_61 size_61 z h2841 z) z z ⟨(bM (bup (bM (bup (bup h23 h27) h62) h67 (mem1le h2767)) s2790) h2843 (mem1le h23.size)), a2791, n2792, c2793, S2795, none, 0, 0, [], z, (ii z), (h2794.chg h2843 (o0n1 h2798 h28.lt (lt_ h62.size h67.size))), onL, h2796, (ii z), (nd_app h2797 nd_nil (nmN _)), (all_app (o0le h2798 h2782) all_nil)⟩))
 have hm2855 := ifF hm2387 hc2761
 refine Ws <| R z (eql z z) <| Ra z <| Wn <| Wc z (fun hc3146 => ?_) (fun hc3146 => ?_)
 ·refine Ws <| R z (lN (vs := [(.slice pa1_0 pn1_0 pc1_0)]) agg_31 size_31 z z fid (((h29.ext h62).chg h67 (djs (mm1 h24.lt h27.size))).row 0 1 z)) <| R z (lN (vs := [(Str.v x30.name), (vI x30.kind), (vI x30.size), (vB x30.little), (.slice a44 n45 c46), (.slice a48 n49 c50), (.slice a52 n53 c54), (.slice a56 n57 c58)]) agg_82 size_82 z z fid (h65.row 0 8 z)) <| R z (fd fld_82_7 z) <| R z (l1 agg_73 z fid (h65.at z)) ?_
  have h3152 := lt_ h23.size h27.size
  have h3154 := mem1le (lt_ hBw h3152)
  have h3155 := (h59.ext h62).chg h67 (ltge h3154)
  refine R z (lnR und_73 z h3155) <| Rm z <| Rm z ?_
  have h3169 := lt_ (lt_ h3152 h62.size) h67.size
  obtain ⟨r3171, r3172, r3173, e3174, hm3175⟩ := bd3S (ifT hm2855 hc3146)
  refine E z (fc Tryz.call72 z (ih_spec_l11Items.run (B := B) e3174 (lt_ hBw h3169) ((h34.ext h62).chg h67 (ltge h3154)) h41 h42 h43 ((h47.ext h62).chg h67 (ltge h3154)) ((h51.ext h62).chg h67 (ltge h3154)) ((h55.ext h62).chg h67 (ltge h3154)) h3155 (ii z) (inI_len (repS.len h3155)) ((((p3_0.ext h23).ext h27).ext h62).chg h67 (ltge h3154)) p4_0)) ?_
  rintro _ w3176 ⟨s3177, a3179, n3180, c3181, S3183, a3184, n3185, c3186, S3188, rfl, h3178, h3182, h3187, h3189, h3190, h3191, h3192⟩
  iterate 3 refine R z (ext_ z z) ?_
  refine E0 (fs (cur' := [(vI r3171.number), (.slice a3179 n3180 c3181), (.slice a3184 n3185 c3186)]) size_61 z z (((h28.ext h62).chg h67 (djs (mmr h28.lt))).ext s3177) z (lb z) (oneAll z) z) ?_
  rintro _ w3197 ⟨h3198, s3199⟩
  have h3200 := s3199.one
  refine Ra z <| Ra z <| Wn ?_
  obtain rfl := som hm3175
  have h3201 := lt_ h62.size h67.size
  exact Wr (rtO (ret3 hr (resC agg_61 size_61 z h3198 z) z z ⟨(bM (bup (bM (bup (bup h23 h27) h62) h67 (mem1le h3152)) s3177) h3200 (mem1le h23.size)), a3179, n3180, c3181, S3183, a3184, n3185, c3186, S3188, z, h3178, (h3182.chg h3200 (o0n1 (all_left h3192) h28.lt h3201)), (h3187.chg h3200 (o0n1 (all_right h3192) h28.lt h3201)), h3189, h3190, (nd_app (nd_left h3191) (nd_right h3191) (nd_dj h3191)), (all_app (o0le (all_left h3192) h3169) (o0le (all_right h3192) h3169))⟩))
 have hm3215 := ifF hm2855 hc3146
 refine Ws <| R z (eql z z) <| Ra z <| Wn <| Wc z (fun hc3432 => ?_) (fun hc3432 => ?_)
 ·refine Ws <| R z (lN (vs := [(.slice pa1_0 pn1_0 pc1_0)]) agg_31 size_31 z z fid (((h29.ext h62).chg h67 (djs (mm1 h24.lt h27.size))).row 0 1 z)) <| R z (lN (vs := [(Str.v x30.name), (vI x30.kind), (vI x30.size), (vB x30.little), (.slice a44 n45 c46), (.slice a48 n49 c50), (.slice a52 n53 c54), (.slice a56 n57 c58)]) agg_82 size_82 z z fid (h65.row 0 8 z)) <| Rm z <| Rm z ?_
  have h3438 := lt_ h23.size h27.size
  have h3440 := mem1le (lt_ hBw h3438)
  have h3455 := lt_ (lt_ h3438 h62.size) h67.size
  obtain ⟨r3457, r3458, r3459, e3460, hm3461⟩ := bd3S (ifT hm3215 hc3432)
  refine E z (fc Tryz.call73 z (ih_spec_l11Choice.run (B := B) e3460 (lt_ hBw h3455) ((h34.ext h62).chg h67 (ltge h3440)) h41 h42 h43 ((h47.ext h62).chg h67 (ltge h3440)) ((h51.ext h62).chg h67 (ltge h3440)) ((h55.ext h62).chg h67 (ltge h3440)) ((h59.ext h62).chg h67 (ltge h3440)) ((((p3_0.ext h23).ext h27).ext h62).chg h67 (ltge h3440)) p4_0)) ?_
  rintro _ w3462 ⟨s3463, a3465, n3466, c3467, S3469, a3470, n3471, c3472, S3474, rfl, h3464, h3468, h3473, h3475, h3476, h3477, h3478⟩
  iterate 3 refine R z (ext_ z z) ?_
  refine E0 (fs (cur' := [(vI r3457.number), (.slice a3465 n3466 c3467), (.slice a3470 n3471 c3472)]) size_61 z z (((h28.ext h62).chg h67 (djs (mmr h28.lt))).ext s3463) z (lb z) (oneAll z) z) ?_
  rintro _ w3483 ⟨h3484, s3485⟩
  have h3486 := s3485.one
  refine Ra z <| Ra z <| Wn ?_
  obtain rfl := som hm3461
  have h3487 := lt_ h62.size h67.size
  exact Wr (rtO (ret3 hr (resC agg_61 size_61 z h3484 z) z z ⟨(bM (bup (bM (bup (bup h23 h27) h62) h67 (mem1le h3438)) s3463) h3486 (mem1le h23.size)), a3465, n3466, c3467, S3469, a3470, n3471, c3472, S3474, z, h3464, (h3468.chg h3486 (o0n1 (all_left h3478) h28.lt h3487)), (h3473.chg h3486 (o0n1 (all_right h3478) h28.lt h3487)), h3475, h3476, (nd_app (nd_left h3477) (nd_right h3477) (nd_dj h3477)), (all_app (o0le (all_left h3478) h3455) (o0le (all_right h3478) h3455))⟩))
 have hm3501 := ifF hm3215 hc3432
 refine Ws <| R z (eql z z) <| Ra z <| Wn <| Wc z (fun hc3645 => ?_) (fun hc3645 => ?_)
 ·refine Ws <| R z (lN (vs := [(.slice pa1_0 pn1_0 pc1_0)]) agg_31 size_31 z z fid (((h29.ext h62).chg h67 (djs (mm1 h24.lt h27.size))).row 0 1 z)) <| R z (lN (vs := [(Str.v x30.name), (vI x30.kind), (vI x30.size), (vB x30.little), (.slice a44 n45 c46), (.slice a48 n49 c50), (.slice a52 n53 c54), (.slice a56 n57 c58)]) agg_82 size_82 z z fid (h65.row 0 8 z)) <| Rm z <| Rm z ?_
  have h3651 := lt_ h23.size h27.size
  have h3653 := mem1le (lt_ hBw h3651)
  have h3668 := lt_ (lt_ h3651 h62.size) h67.size
  obtain ⟨r3670, r3671, r3672, e3673, hm3674⟩ := bd3S (ifT hm3501 hc3645)
  refine E z (fc Tryz.call74 z (ih_spec_l11Option.run (B := B) e3673 (lt_ hBw h3668) ((h34.ext h62).chg h67 (ltge h3653)) h41 h42 h43 ((h47.ext h62).chg h67 (ltge h3653)) ((h51.ext h62).chg h67 (ltge h3653)) ((h55.ext h62).chg h67 (ltge h3653)) ((h59.ext h62).chg h67 (ltge h3653)) ((((p3_0.ext h23).ext h27).ext h62).chg h67 (ltge h3653)) p4_0)) ?_
  rintro _ w3675 ⟨s3676, a3678, n3679, c3680, S3682, a3683, n3684, c3685, S3687, rfl, h3677, h3681, h3686, h3688, h3689, h3690, h3691⟩
  iterate 3 refine R z (ext_ z z) ?_
  refine E0 (fs (cur' := [(vI r3670.number), (.slice a3678 n3679 c3680), (.slice a3683 n3684 c3685)]) size_61 z z (((h28.ext h62).chg h67 (djs (mmr h28.lt))).ext s3676) z (lb z) (oneAll z) z) ?_
  rintro _ w3696 ⟨h3697, s3698⟩
  have h3699 := s3698.one
  refine Ra z <| Ra z <| Wn ?_
  obtain rfl := som hm3674
  have h3700 := lt_ h62.size h67.size
  exact Wr (rtO (ret3 hr (resC agg_61 size_61 z h3697 z) z z ⟨(bM (bup (bM (bup (bup h23 h27) h62) h67 (mem1le h3651)) s3676) h3699 (mem1le h23.size)), a3678, n3679, c3680, S3682, a3683, n3684, c3685, S3687, z, h3677, (h3681.chg h3699 (o0n1 (all_left h3691) h28.lt h3700)), (h3686.chg h3699 (o0n1 (all_right h3691) h28.lt h3700)), h3688, h3689, (nd_app (nd_left h3690) (nd_right h3690) (nd_dj h3690)), (all_app (o0le (all_left h3691) h3668) (o0le (all_right h3691) h3668))⟩))
 have hm3714 := ifF hm3501 hc3645
 refine Ws <| R z (eql z z) <| Ra z <| Wn <| Wc z (fun hc3786 => ?_) (fun hc3786 => ?_)
 ·refine Ws <| R z (lN (vs := [(.slice pa1_0 pn1_0 pc1_0)]) agg_31 size_31 z z fid (((h29.ext h62).chg h67 (djs (mm1 h24.lt h27.size))).row 0 1 z)) <| R z (lN (vs := [(Str.v x30.name), (vI x30.kind), (vI x30.size), (vB x30.little), (.slice a44 n45 c46), (.slice a48 n49 c50), (.slice a52 n53 c54), (.slice a56 n57 c58)]) agg_82 size_82 z z fid (h65.row 0 8 z)) <| Rm z <| Rm z ?_
  have h3792 := lt_ h23.size h27.size
  have h3794 := mem1le (lt_ hBw h3792)
  have h3809 := lt_ (lt_ h3792 h62.size) h67.size
  obtain ⟨r3811, r3812, r3813, e3814, hm3815⟩ := bd3S (ifT hm3714 hc3786)
  refine E z (fc Tryz.call75 z (ih_spec_l11Checked.run (B := B) e3814 (lt_ hBw h3809) ((h34.ext h62).chg h67 (ltge h3794)) h41 h42 h43 ((h47.ext h62).chg h67 (ltge h3794)) ((h51.ext h62).chg h67 (ltge h3794)) ((h55.ext h62).chg h67 (ltge h3794)) ((h59.ext h62).chg h67 (ltge h3794)) ((((p3_0.ext h23).ext h27).ext h62).chg h67 (ltge h3794)) p4_0)) ?_
  rintro _ w3816 ⟨s3817, a3819, n3820, c3821, S3823, a3824, n3825, c3826, S3828, rfl, h3818, h3822, h3827, h3829, h3830, h3831, h3832⟩
  iterate 3 refine R z (ext_ z z) ?_
  refine E0 (fs (cur' := [(vI r3811.number), (.slice a3819 n3820 c3821), (.slice a3824 n3825 c3826)]) size_61 z z (((h28.ext h62).chg h67 (djs (mmr h28.lt))).ext s3817) z (lb z) (oneAll z) z) ?_
  rintro _ w3837 ⟨h3838, s3839⟩
  have h3840 := s3839.one
  refine Ra z <| Ra z <| Wn ?_
  obtain rfl := som hm3815
  have h3841 := lt_ h62.size h67.size
  exact Wr (rtO (ret3 hr (resC agg_61 size_61 z h3838 z) z z ⟨(bM (bup (bM (bup (bup h23 h27) h62) h67 (mem1le h3792)) s3817) h3840 (mem1le h23.size)), a3819, n3820, c3821, S3823, a3824, n3825, c3826, S3828, z, h3818, (h3822.chg h3840 (o0n1 (all_left h3832) h28.lt h3841)), (h3827.chg h3840 (o0n1 (all_right h3832) h28.lt h3841)), h3829, h3830, (nd_app (nd_left h3831) (nd_right h3831) (nd_dj h3831)), (all_app (o0le (all_left h3832) h3809) (o0le (all_right h3832) h3809))⟩))
 refine Wk <| Wq <| WC_draw (X := noX) 0 (.rd 0 (.rd 1 (.rd 2 (.rd 3 (.rd 4 (.rd 5 (.rd 6 (.ef 7 (.rd 8 (.rd 9 (.rd 10 (.rd 11 (.rd 12 (.rd 13 (.rd 14 .done))))))))))))))) mo (by kernel_rfl) fun w3856 s3857 _ => ?_
 have h3861 := ((h29.ext h62).chg h67 (djs (mm1 h24.lt h27.size))).ext s3857
 refine dR z z (lN (vs := [(.slice pa1_0 pn1_0 pc1_0)]) agg_31 size_31 z z fid (h3861.row 0 1 z)) <| dR z z (fd fld_82_7 z) ?_
 have h3862 := h65.ext s3857
 refine dR z z (l1 agg_73 z fid (h3862.at z)) ?_
 obtain ⟨x3863, e3864, hm3865⟩ := bdS (ifF hm3714 hc3786)
 have h3867 := lt_ h23.size h27.size
 have h3869 := mem1le (lt_ hBw h3867)
 have h3871 := ((h59.ext h62).chg h67 (ltge h3869)).ext s3857
 refine dRX z z (at_ (α := Int) und_73 size_3 z z z h3871 e3864) ?_
 rintro _ ⟨b3872, o3873, cs3874, rfl, h3875, h3876, h3877⟩
 obtain ⟨rfl, h3878⟩ := Int_open h3876
 refine dR z z (l1 agg_3 z fid (h3875.at0 z)) <| dR z z (mv z) <| dR z z (mv z) ?_
 have h3881 := ((h34.ext h62).chg h67 (ltge h3869)).ext s3857
 have h3886 := ((((p3_0.ext h23).ext h27).ext h62).chg h67 (ltge h3869)).ext s3857
 have h3889 := lt_ (lt_ (lt_ h3867 h62.size) h67.size) s3857.size
 obtain ⟨r3891, r3892, r3893, e3894, hm3895⟩ := bd3S hm3865
 refine dE z z (fc Tryz.call54 z (W_spec_l11Integer (B := B) e3894 (lt_ hBw h3889) h3881 h3878 h3886 p4_0)) (.inr fun _ _ h => chgB (h.1)) ?_
 rintro _ w3896 ⟨s3897, rfl, h3898, h3899⟩
 refine dR z z (mv z) ?_
 iterate 3 refine dR z z (ext_ z z) ?_
 iterate 3 refine dR z z (asg z) ?_
 refine PR_done <| Wo <| Wq <| WC_block <| Ws <| Rm z <| R z (not_ z) <| Ra z <| Wn <| Wc z (fun hc4109 => ?_) (fun hc4109 => ?_)
 ·refine Ws <| R z (bP (parts := []) (cs := [(vI 0), (.slice none 0 0), (.slice none 0 0)]) build_61 z z) <| Rm z <| E0 (fs (cur' := [(vI 0), (.slice none 0 0), (.slice none 0 0)]) size_61 z z ((((h28.ext h62).chg h67 (djs (mmr h28.lt))).ext s3857).ext s3897) z (lb z) (oneAll z) z) ?_
  rintro _ w4116 ⟨h4117, s4118⟩
  refine Ra z <| Ra z <| Wn ?_
  obtain rfl := som (ifT hm3895 hc4109)
  exact Wr (rtO (ret3 hr (resC agg_61 size_61 z h4117 z) z z ⟨(bM (bup (bup (bM (bup (bup h23 h27) h62) h67 (mem1le h3867)) s3857) s3897) s4118.one (mem1le h23.size)), none, 0, 0, [], none, 0, 0, [], z, (ii z), onL, onL, p4_0, (ii z), nd0, al0⟩))
 have hm4128 := ifF hm3895 hc4109
 refine Ws <| R z (fd fld_82_1 z) ?_
 have h4129 := h3862.ext s3897
 refine R z (l1 agg_3 z fid (h4129.at z)) <| R z (eql z z) <| Ra z <| Wn <| Wc z (fun hc4209 => ?_) (fun hc4209 => ?_)
 ·refine Ws <| Rm z <| Rm z <| Rm z ?_
  have h4212 := lt_ h3889 s3897.size
  obtain ⟨r4214, r4215, r4216, e4217, hm4218⟩ := bd3S (ifT hm4128 hc4209)
  refine E z (fc Tryz.call70 z (W_spec_l11Bytes (B := B) e4217 (lt_ hBw h4212) (h3886.ext s3897) h3899 h3898)) ?_
  rintro _ w4219 ⟨s4220, a4222, n4223, c4224, S4226, a4227, n4228, c4229, S4231, rfl, h4221, h4225, h4230, h4232, h4233, h4234, h4235⟩
  iterate 3 refine R z (ext_ z z) ?_
  refine E0 (fs (cur' := [(vI r4214.number), (.slice a4222 n4223 c4224), (.slice a4227 n4228 c4229)]) size_61 z z (((((h28.ext h62).chg h67 (djs (mmr h28.lt))).ext s3857).ext s3897).ext s4220) z (lb z) (oneAll z) z) ?_
  rintro _ w4242 ⟨h4243, s4244⟩
  have h4245 := s4244.one
  refine Ra z <| Ra z <| Wn ?_
  obtain rfl := som hm4218
  have h4248 := lt_ (lt_ (lt_ h62.size h67.size) s3857.size) s3897.size
  exact Wr (rtO (ret3 hr (resC agg_61 size_61 z h4243 z) z z ⟨(bM (bup (bup (bup (bM (bup (bup h23 h27) h62) h67 (mem1le h3867)) s3857) s3897) s4220) h4245 (mem1le h23.size)), a4222, n4223, c4224, S4226, a4227, n4228, c4229, S4231, z, h4221, (h4225.chg h4245 (o0n1 (all_left h4235) h28.lt h4248)), (h4230.chg h4245 (o0n1 (all_right h4235) h28.lt h4248)), h4232, h4233, (nd_app (nd_left h4234) (nd_right h4234) (nd_dj h4234)), (all_app (o0le (all_left h4235) h4212) (o0le (all_right h4235) h4212))⟩))
 have hm4264 := ifF hm4128 hc4209
 refine Ws <| Rm z <| R z (rd_gtr z z) <| Ra z <| Wn <| Wc z (fun hc4286 => ?_) (fun hc4286 => ?_)
 ·refine Ws <| R z (bP (parts := []) (cs := [(vI 0), (.slice none 0 0), (.slice none 0 0)]) build_61 z z) <| Rm z <| E0 (fs (cur' := [(vI 0), (.slice none 0 0), (.slice none 0 0)]) size_61 z z ((((h28.ext h62).chg h67 (djs (mmr h28.lt))).ext s3857).ext s3897) z (lb z) (oneAll z) z) ?_
  rintro _ w4293 ⟨h4294, s4295⟩
  refine Ra z <| Ra z <| Wn ?_
  obtain rfl := som (ifT hm4264 hc4286)
  exact Wr (rtO (ret3 hr (resC agg_61 size_61 z h4294 z) z z ⟨(bM (bup (bup (bM (bup (bup h23 h27) h62) h67 (mem1le h3867)) s3857) s3897) s4295.one (mem1le h23.size)), none, 0, 0, [], none, 0, 0, [], z, (ii z), onL, onL, p4_0, (ii z), nd0, al0⟩))
 refine Wk <| Ws <| R z (lN (vs := [(.slice pa1_0 pn1_0 pc1_0)]) agg_31 size_31 z z fid ((h3861.ext s3897).row 0 1 z)) <| R z (lN (vs := [(Str.v x30.name), (vI x30.kind), (vI x30.size), (vB x30.little), (.slice a44 n45 c46), (.slice a48 n49 c50), (.slice a52 n53 c54), (.slice a56 n57 c58)]) agg_82 size_82 z z fid (h4129.row 0 8 z)) <| Rm z <| Rm z <| Rm z ?_
 have h4322 := lt_ h3889 s3897.size
 obtain ⟨r4324, r4325, r4326, e4327, hm4328⟩ := bd3S (ifF hm4264 hc4286)
 refine E z (fc Tryz.call72 z (ih_spec_l11Items.run (B := B) e4327 (lt_ hBw h4322) (h3881.ext s3897) h41 h42 h43 ((((h47.ext h62).chg h67 (ltge h3869)).ext s3857).ext s3897) ((((h51.ext h62).chg h67 (ltge h3869)).ext s3857).ext s3897) ((((h55.ext h62).chg h67 (ltge h3869)).ext s3857).ext s3897) (h3871.ext s3897) (ii z) h3898 (h3886.ext s3897) h3899)) ?_
 rintro _ w4329 ⟨s4330, a4332, n4333, c4334, S4336, a4337, n4338, c4339, S4341, rfl, h4331, h4335, h4340, h4342, h4343, h4344, h4345⟩
 iterate 3 refine R z (ext_ z z) ?_
 refine E0 (fs (cur' := [(vI r4324.number), (.slice a4332 n4333 c4334), (.slice a4337 n4338 c4339)]) size_61 z z (((((h28.ext h62).chg h67 (djs (mmr h28.lt))).ext s3857).ext s3897).ext s4330) z (lb z) (oneAll z) z) ?_
 rintro _ w4352 ⟨h4353, s4354⟩
 have h4355 := s4354.one
 refine Ra z <| Ra z <| Wn ?_
 obtain rfl := som hm4328
 have h4358 := lt_ (lt_ (lt_ h62.size h67.size) s3857.size) s3897.size
 exact Wr (ret3 hr (resC agg_61 size_61 z h4353 z) z z ⟨(bM (bup (bup (bup (bM (bup (bup h23 h27) h62) h67 (mem1le h3867)) s3857) s3897) s4330) h4355 (mem1le h23.size)), a4332, n4333, c4334, S4336, a4337, n4338, c4339, S4341, z, h4331, (h4335.chg h4355 (o0n1 (all_left h4345) h28.lt h4358)), (h4340.chg h4355 (o0n1 (all_right h4345) h28.lt h4358)), h4342, h4343, (nd_app (nd_left h4344) (nd_right h4344) (nd_dj h4344)), (all_app (o0le (all_left h4345) h4322) (o0le (all_right h4345) h4322))⟩)
theorem T_spec_l11Items (ih_spec_l11Read : S_spec_l11Read n) (ih_spec_l11Items : S_spec_l11Items n) (ih_spec_l11Choice : S_spec_l11Choice n) (ih_spec_l11Option : S_spec_l11Option n) (ih_spec_l11Checked : S_spec_l11Checked n) {x1 : Desc} {x2 : Rule} {x3 : Int} {x4 : Int} {x5 : List UInt8} {x6 : Int} {res : Val × Int × Int} (hm : B_spec_l11Items n (F_spec_l11Read n) x1 x2 x3 x4 x5 x6 = some res) (hBw : B ≤ w0.heap.size) (p1_0 : repS w0 B (.slice pa1_0 pn1_0 pc1_0) x1.rules) (p2_0 : x2.name.b.length ≤ LEN) (p2_1 : inI x2.kind) (p2_2 : inI x2.size) (p2_4 : repS w0 B (.slice pa2_4 pn2_4 pc2_4) x2.bytes) (p2_5 : repS w0 B (.slice pa2_5 pn2_5 pc2_5) x2.names) (p2_6 : repS w0 B (.slice pa2_6 pn2_6 pc2_6) x2.tags) (p2_7 : repS w0 B (.slice pa2_7 pn2_7 pc2_7) x2.kids) (p3_0 : inI x3) (p4_0 : inI x4) (p5_0 : repS w0 B (.slice pa5_0 pn5_0 pc5_0) x5) (p6_0 : inI x6) : CallsR Tryz.prog 72 [(.agg #[(.slice pa1_0 pn1_0 pc1_0)]), (.agg #[(Str.v x2.name), (vI x2.kind), (vI x2.size), (vB x2.little), (.slice pa2_4 pn2_4 pc2_4), (.slice pa2_5 pn2_5 pc2_5), (.slice pa2_6 pn2_6 pc2_6), (.slice pa2_7 pn2_7 pc2_7)]), (vI x3), (vI x4), (.slice pa5_0 pn5_0 pc5_0), (vI x6)] w0 (Q_spec_l11Items w0 B res) := by
 unfold B_spec_l11Items at hm
 obtain ⟨fn, hf, hb, hN, hr⟩ := fnE Tryz.func72
 refine goW hf (hb.trans z) (hN.trans z) (lb z) <| Ws <| E z (fb z) ?_
 rintro _ w21 ⟨rfl, h22⟩
 have h23 := h22.below
 have h24 : Blk w21 w0.heap.size [(.slice pa1_0 pn1_0 pc1_0)] := h22.blk
 refine E z (fb z) ?_
 rintro _ w25 ⟨rfl, h26⟩
 have h27 := h26.below
 have h28 : Blk w25 w21.heap.size [(Str.v x2.name), (vI x2.kind), (vI x2.size), (vB x2.little), (.slice pa2_4 pn2_4 pc2_4), (.slice pa2_5 pn2_5 pc2_5), (.slice pa2_6 pn2_6 pc2_6), (.slice pa2_7 pn2_7 pc2_7)] := h26.blk
 refine E z (fa zero_61) ?_
 rintro _ w29 ⟨rfl, h30⟩
 have h31 := h30.below
 have h32 : Blk w29 w25.heap.size [(vI 0), (.slice none 0 0), (.slice none 0 0)] := h30.blk
 refine Ra z <| Ra z <| Wn <| Ws <| R z (bP (parts := []) (cs := [(vI 0), (.slice none 0 0), (.slice none 0 0)]) build_61 z z) <| E z (fa zero_61) ?_
 rintro _ w33 ⟨rfl, h34⟩
 have h35 := h34.below
 have h36 : Blk w33 w29.heap.size [(vI 0), (.slice none 0 0), (.slice none 0 0)] := h34.blk
 refine E0 (fs (cur' := [(vI 0), (.slice none 0 0), (.slice none 0 0)]) size_61 z z h36 z (lb z) (oneAll z) z) ?_
 rintro _ w37 ⟨h38, s39⟩
 have h40 := s39.one
 refine Wn <| Wq <| Ws <| Ra z <| Wn ?_
 obtain ⟨u767, hu768, hm769⟩ := bdS hm
 refine WC_forN (σ := Int × (List Val)) (ρ := Val × Int × Int) (fun (k770 : Nat) s a w => un2 (fun x756 x758 => ∃ (a759 : Option Addr) (n760 c761 : Nat) (S763 : List Nat), Sat 52 [(2, (vI x3)), (3, (vI x4)), (4, (.slice pa5_0 pn5_0 pc5_0)), (5, (vI x756)), (6, (.pointer (some ⟨w0.heap.size, 0, none⟩))), (7, (.pointer (some ⟨w21.heap.size, 0, none⟩))), (12, (.pointer (some ⟨w25.heap.size, 0, none⟩))), (15, (.pointer (some ⟨w29.heap.size, 0, none⟩))), (16, (vI ((k770 : Nat) : Int)))] a ∧ Chg (· ∈ [w29.heap.size]) w37 w ∧ inI x756 ∧ ownS w S763 (.slice a759 n760 c761) x758 ∧ S763.Nodup ∧ (∀ k ∈ S763, w37.heap.size ≤ k) ∧ Blk w w29.heap.size [(vI 0), (.slice none 0 0), (.slice a759 n760 c761)]) s) (fun s a w => un2 (fun x756 x758 => ∃ (a759 : Option Addr) (n760 c761 : Nat) (S763 : List Nat), Sat 52 [(5, (vI x756)), (12, (.pointer (some ⟨w25.heap.size, 0, none⟩))), (15, (.pointer (some ⟨w29.heap.size, 0, none⟩)))] a ∧ Chg (· ∈ [w29.heap.size]) w37 w ∧ inI x756 ∧ ownS w S763 (.slice a759 n760 c761) x758 ∧ S763.Nodup ∧ (∀ k ∈ S763, w37.heap.size ≤ k) ∧ Blk w w29.heap.size [(vI 0), (.slice none 0 0), (.slice a759 n760 c761)]) s) (fun r ex a w => ex = .ret ∧ RetPost Tryz.prog fn (Q_spec_l11Items w0 B r) a w) hu768 ?_ ?_ ?_ ?_ ?_
 ·exact fun _ q => ⟨none, 0, 0, [], (q.weaken (s9 z z z z z z z z z)), (cr [w29.heap.size] w37), p6_0, onL, nd_nil, all_nil, h38⟩
 ·rintro k770 ⟨x756, x758⟩ a771 w772 o773 hk774 ⟨a759, n760, c761, S763, hS775, s776, h757, h762, h764, h765, h766⟩ hm777
  have hm778 := un2S hm777
  refine Wu (e := [(2, (vI x3)), (3, (vI x4)), (4, (.slice pa5_0 pn5_0 pc5_0)), (5, (vI x756)), (6, (.pointer (some ⟨w0.heap.size, 0, none⟩))), (7, (.pointer (some ⟨w21.heap.size, 0, none⟩))), (12, (.pointer (some ⟨w25.heap.size, 0, none⟩))), (15, (.pointer (some ⟨w29.heap.size, 0, none⟩))), (16, (vI ((k770 : Nat) : Int)))]) (N := 52) ?_ hS775
  refine Wq <| Ws <| Rm z <| Rm z <| R z (lss z z) <| Wn <| Wc z (fun _ => ?_) (fun hc => (noltI hk774 hc).elim)
  refine Wk <| Wq <| WC_block <| Wq ?_
  obtain ⟨u1432, hu1433, hm1434⟩ := bdS hm778
  refine WC_cut (fun a w => ∃ (x1404 : Int) (x1406 : List UInt8) (x1414 : List Val) (x1425 : Int) (x1427 : Int), (x1404, x1406, x1414, x1425, x1427) = u1432 ∧ ∃ (a1407 : Option Addr) (n1408 c1409 : Nat) (S1411 : List Nat) (a1415 : Option Addr) (n1416 c1417 : Nat) (S1419 : List Nat) (g1422 : Nat), Sat 52 [(2, (vI x3)), (3, (vI x4)), (4, (.slice pa5_0 pn5_0 pc5_0)), (6, (.pointer (some ⟨w0.heap.size, 0, none⟩))), (7, (.pointer (some ⟨w21.heap.size, 0, none⟩))), (12, (.pointer (some ⟨w25.heap.size, 0, none⟩))), (15, (.pointer (some ⟨w29.heap.size, 0, none⟩))), (16, (vI ((k770 : Nat) : Int))), (17, (.pointer (some ⟨g1422, 0, none⟩))), (18, (vI x1425)), (19, (vI x1427))] a ∧ Below w772.heap.size w772 w ∧ inI x1404 ∧ ownS w S1411 (.slice a1407 n1408 c1409) x1406 ∧ S1411.Nodup ∧ (∀ k ∈ S1411, w772.heap.size ≤ k) ∧ ownS w S1419 (.slice a1415 n1416 c1417) x1414 ∧ S1419.Nodup ∧ (∀ k ∈ S1419, w772.heap.size ≤ k) ∧ (∀ k ∈ S1419, k ∉ S1411) ∧ inI x1425 ∧ inI x1427 ∧ Blk w g1422 [(vI x1404), (.slice a1407 n1408 c1409), (.slice a1415 n1416 c1417)] ∧ w772.heap.size ≤ g1422 ∧ (∀ k ∈ S1411, k ∉ [g1422]) ∧ (∀ k ∈ S1419, k ∉ [g1422])) ?_ ?_
  ·refine WC_draw (X := fun k => k ∈ ([] : List Nat) ∨ w772.heap.size ≤ k) 0 (.rd 0 (.rd 1 (.rd 2 (.rd 3 (.rd 5 (.rd 6 (.br 4 (.br 7 (.rd 8 (.rd 9 (.rd 10 (.rd 11 (.ef 12 (.ef 13 (.rd 14 (.rd 15 .done)))))))) 12 (.ef 7 (.rd 8 (.rd 9 (.rd 10 (.rd 11 (.ef 13 (.rd 14 (.rd 15 .done))))))))) 12 (.ef 4 (.ef 7 (.rd 8 (.rd 9 (.rd 10 (.rd 11 (.ef 13 (.rd 14 (.rd 15 .done)))))))))))))))) mo (by kernel_rfl) fun w1435 s1436 _ => ?_
   have h1440 := lt_ h27.size h31.size
   have h1441 := mm1 h24.lt h1440
   refine dR z z (lN (vs := [(.slice pa1_0 pn1_0 pc1_0)]) agg_31 size_31 z z (notNew (atp (nmN _)) (Nat.lt_of_lt_of_le h24.lt (lt_ (lt_ (lt_ h1440 h35.size) h40.size) s776.size))) (((((((h24.ext h27).ext h31).ext h35).chg h40 (djs h1441)).chg s776 (djs h1441)).ext s1436).row 0 1 z)) ?_
   have h1450 := mm1 h28.lt h31.size
   refine dR z z (lN (vs := [(Str.v x2.name), (vI x2.kind), (vI x2.size), (vB x2.little), (.slice pa2_4 pn2_4 pc2_4), (.slice pa2_5 pn2_5 pc2_5), (.slice pa2_6 pn2_6 pc2_6), (.slice pa2_7 pn2_7 pc2_7)]) agg_82 size_82 z z (notNew (atp (nmN _)) (Nat.lt_of_lt_of_le h28.lt (lt_ (lt_ (lt_ h31.size h35.size) h40.size) s776.size))) ((((((h28.ext h31).ext h35).chg h40 (djs h1450)).chg s776 (djs h1450)).ext s1436).row 0 8 z)) ?_
   iterate 4 refine dR z z (mv z) ?_
   refine PR_br ?_ ?_
   ·have h1462 := lt_ (lt_ h23.size h27.size) h31.size
    have h1464 := mem1le (lt_ hBw h1462)
    have h1492 := lt_ (lt_ (lt_ (lt_ h1462 h35.size) h40.size) s776.size) s1436.size
    obtain ⟨r1494, e1495, hm1496⟩ := bdS hu1433
    refine dE z z (fc Tryz.call55 z (W_spec_l9Item (B := B) e1495 (lt_ hBw h1492) p2_0 p2_1 p2_2 (((((((p2_4.ext h23).ext h27).ext h31).ext h35).chg h40 (ltge h1464)).chg s776 (ltge h1464)).ext s1436) (((((((p2_5.ext h23).ext h27).ext h31).ext h35).chg h40 (ltge h1464)).chg s776 (ltge h1464)).ext s1436) (((((((p2_6.ext h23).ext h27).ext h31).ext h35).chg h40 (ltge h1464)).chg s776 (ltge h1464)).ext s1436) (((((((p2_7.ext h23).ext h27).ext h31).ext h35).chg h40 (ltge h1464)).chg s776 (ltge h1464)).ext s1436) p3_0 (inI_cnt (Nat.le_of_lt hk774) (toNat_le p4_0)))) (.inr fun _ _ h => chgB (h.1)) ?_
    rintro _ w1497 ⟨s1498, rfl, h1499⟩
    refine PR_br ?_ ?_
    ·obtain ⟨r1518, r1519, r1520, e1521, hm1522⟩ := bd3S hm1496
     refine dE z z (fc Tryz.call43 z (ih_spec_l11Read.run (B := B) e1521 (lt_ hBw (lt_ h1492 s1498.size)) ((((((((p1_0.ext h23).ext h27).ext h31).ext h35).chg h40 (ltge h1464)).chg s776 (ltge h1464)).ext s1436).ext s1498) h1499 ((((((((p5_0.ext h23).ext h27).ext h31).ext h35).chg h40 (ltge h1464)).chg s776 (ltge h1464)).ext s1436).ext s1498) h757)) (.inr fun _ _ h => chgB (h.1)) ?_
     rintro _ w1523 ⟨s1524, a1526, n1527, c1528, S1530, a1531, n1532, c1533, S1535, rfl, h1525, h1529, h1534, h1536, h1537, h1538, h1539⟩
     refine dR z z (mv z) ?_
     iterate 3 refine dR z z (ext_ z z) ?_
     refine dE z z (fa zero_61) (.inr fun _ _ h => chgB (h.2.below)) ?_
     rintro _ w1540 ⟨rfl, h1541⟩
     have h1542 := h1541.below
     have h1543 : Blk w1540 w1523.heap.size [(vI 0), (.slice none 0 0), (.slice none 0 0)] := h1541.blk
     have h1547 := lt_ s1436.size s1498.size
     have h1549 := mem1le (lt_ h1547 s1524.size)
     refine dE0 z (fs (cur' := [(vI r1518.number), (.slice a1526 n1527 c1528), (.slice a1531 n1532 c1533)]) size_61 z z h1543 z (lb z) (oneAll z) z) (.inr fun _ _ h => chgNew (atp h1549) h.2) ?_
     rintro _ w1544 ⟨h1545, s1546⟩
     have h1550 := s1546.one
     refine dR z z (asg z) <| dR z z (asg z) <| PR_done ?_
     have h1552 := mnr (ownS.lt h1529)
     have h1556 := mnr (ownS.lt h1534)
     exact fun _ q => ⟨r1518.number, r1518.bytes, r1518.items, r1519, r1520, som hm1522, a1526, n1527, c1528, S1530, a1531, n1532, c1533, S1535, w1523.heap.size, (q.weaken (sc z (sc z (sc z (sc z (sc z (sc z (sc z (sc z (sc z (sc z (sc z sn)))))))))))), (bM (bup (bup (bup s1436 s1498) s1524) h1542) h1550 h1549), h1525, ((h1529.ext h1542).chg h1550 (dj_symm h1552)), (nd_left h1538), (o0le (all_left h1539) h1547), ((h1534.ext h1542).chg h1550 (dj_symm h1556)), (nd_right h1538), (o0le (all_right h1539) h1547), (dj_symm (nd_dj h1538)), h1536, h1537, h1545, (atp h1549), (dj_symm h1552), (dj_symm h1556)⟩
    refine dE z z (fa zero_61) (.inr fun _ _ h => chgB (h.2.below)) ?_
    rintro _ w1563 ⟨rfl, h1564⟩
    have h1565 := h1564.below
    have h1566 : Blk w1563 w1497.heap.size [(vI 0), (.slice none 0 0), (.slice none 0 0)] := h1564.blk
    obtain ⟨r1588, r1589, r1590, e1591, hm1592⟩ := bd3S hm1496
    refine dE z z (fc Tryz.call43 z (ih_spec_l11Read.run (B := B) e1591 (lt_ hBw (lt_ (lt_ h1492 s1498.size) h1565.size)) (((((((((p1_0.ext h23).ext h27).ext h31).ext h35).chg h40 (ltge h1464)).chg s776 (ltge h1464)).ext s1436).ext s1498).ext h1565) h1499 (((((((((p5_0.ext h23).ext h27).ext h31).ext h35).chg h40 (ltge h1464)).chg s776 (ltge h1464)).ext s1436).ext s1498).ext h1565) h757)) (.inr fun _ _ h => chgB (h.1)) ?_
    rintro _ w1593 ⟨s1594, a1596, n1597, c1598, S1600, a1601, n1602, c1603, S1605, rfl, h1595, h1599, h1604, h1606, h1607, h1608, h1609⟩
    refine dR z z (mv z) ?_
    iterate 3 refine dR z z (ext_ z z) ?_
    have h1614 := lt_ s1436.size s1498.size
    have h1615 := mem1le h1614
    refine dE0 z (fs (cur' := [(vI r1588.number), (.slice a1596 n1597 c1598), (.slice a1601 n1602 c1603)]) size_61 z z (h1566.ext s1594) z (lb z) (oneAll z) z) (.inr fun _ _ h => chgNew (atp h1615) h.2) ?_
    rintro _ w1611 ⟨h1612, s1613⟩
    have h1616 := s1613.one
    refine dR z z (asg z) <| dR z z (asg z) <| PR_done ?_
    have h1617 := o0n1 (all_left h1609) h1566.lt (Nat.le_refl _)
    have h1619 := lt_ h1614 h1565.size
    have h1621 := o0n1 (all_right h1609) h1566.lt (Nat.le_refl _)
    exact fun _ q => ⟨r1588.number, r1588.bytes, r1588.items, r1589, r1590, som hm1592, a1596, n1597, c1598, S1600, a1601, n1602, c1603, S1605, w1497.heap.size, (q.weaken (sc z (sc z (sc z (sc z (sc z (sc z (sc z (sc z (sc z (sc z (sc z sn)))))))))))), (bM (bup (bup (bup s1436 s1498) h1565) s1594) h1616 h1615), h1595, (h1599.chg h1616 h1617), (nd_left h1608), (o0le (all_left h1609) h1619), (h1604.chg h1616 h1621), (nd_right h1608), (o0le (all_right h1609) h1619), (dj_symm (nd_dj h1608)), h1606, h1607, h1612, (atp h1615), h1617, h1621⟩
   refine dE z z (fa zero_61) (.inr fun _ _ h => chgB (h.2.below)) ?_
   rintro _ w1628 ⟨rfl, h1629⟩
   have h1630 := h1629.below
   have h1631 : Blk w1628 w1435.heap.size [(vI 0), (.slice none 0 0), (.slice none 0 0)] := h1629.blk
   have h1637 := lt_ (lt_ h23.size h27.size) h31.size
   have h1639 := mem1le (lt_ hBw h1637)
   have h1672 := lt_ (lt_ (lt_ (lt_ (lt_ h1637 h35.size) h40.size) s776.size) s1436.size) h1630.size
   obtain ⟨r1674, e1675, hm1676⟩ := bdS hu1433
   refine dE z z (fc Tryz.call55 z (W_spec_l9Item (B := B) e1675 (lt_ hBw h1672) p2_0 p2_1 p2_2 ((((((((p2_4.ext h23).ext h27).ext h31).ext h35).chg h40 (ltge h1639)).chg s776 (ltge h1639)).ext s1436).ext h1630) ((((((((p2_5.ext h23).ext h27).ext h31).ext h35).chg h40 (ltge h1639)).chg s776 (ltge h1639)).ext s1436).ext h1630) ((((((((p2_6.ext h23).ext h27).ext h31).ext h35).chg h40 (ltge h1639)).chg s776 (ltge h1639)).ext s1436).ext h1630) ((((((((p2_7.ext h23).ext h27).ext h31).ext h35).chg h40 (ltge h1639)).chg s776 (ltge h1639)).ext s1436).ext h1630) p3_0 (inI_cnt (Nat.le_of_lt hk774) (toNat_le p4_0)))) (.inr fun _ _ h => chgB (h.1)) ?_
   rintro _ w1677 ⟨s1678, rfl, h1679⟩
   obtain ⟨r1700, r1701, r1702, e1703, hm1704⟩ := bd3S hm1676
   refine dE z z (fc Tryz.call43 z (ih_spec_l11Read.run (B := B) e1703 (lt_ hBw (lt_ h1672 s1678.size)) (((((((((p1_0.ext h23).ext h27).ext h31).ext h35).chg h40 (ltge h1639)).chg s776 (ltge h1639)).ext s1436).ext h1630).ext s1678) h1679 (((((((((p5_0.ext h23).ext h27).ext h31).ext h35).chg h40 (ltge h1639)).chg s776 (ltge h1639)).ext s1436).ext h1630).ext s1678) h757)) (.inr fun _ _ h => chgB (h.1)) ?_
   rintro _ w1705 ⟨s1706, a1708, n1709, c1710, S1712, a1713, n1714, c1715, S1717, rfl, h1707, h1711, h1716, h1718, h1719, h1720, h1721⟩
   refine dR z z (mv z) ?_
   iterate 3 refine dR z z (ext_ z z) ?_
   have h1727 := mem1le s1436.size
   refine dE0 z (fs (cur' := [(vI r1700.number), (.slice a1708 n1709 c1710), (.slice a1713 n1714 c1715)]) size_61 z z ((h1631.ext s1678).ext s1706) z (lb z) (oneAll z) z) (.inr fun _ _ h => chgNew (atp h1727) h.2) ?_
   rintro _ w1724 ⟨h1725, s1726⟩
   have h1728 := s1726.one
   refine dR z z (asg z) <| dR z z (asg z) <| PR_done ?_
   have h1729 := o0n1 (all_left h1721) h1631.lt s1678.size
   have h1732 := lt_ (lt_ s1436.size h1630.size) s1678.size
   have h1734 := o0n1 (all_right h1721) h1631.lt s1678.size
   exact fun _ q => ⟨r1700.number, r1700.bytes, r1700.items, r1701, r1702, som hm1704, a1708, n1709, c1710, S1712, a1713, n1714, c1715, S1717, w1435.heap.size, (q.weaken (sc z (sc z (sc z (sc z (sc z (sc z (sc z (sc z (sc z (sc z (sc z sn)))))))))))), (bM (bup (bup (bup s1436 h1630) s1678) s1706) h1728 h1727), h1707, (h1711.chg h1728 h1729), (nd_left h1720), (o0le (all_left h1721) h1732), (h1716.chg h1728 h1734), (nd_right h1720), (o0le (all_right h1721) h1732), (dj_symm (nd_dj h1720)), h1718, h1719, h1725, (atp h1727), h1729, h1734⟩
  rintro a1741 w1742 ⟨x1404, x1406, x1414, x1425, x1427, rfl, a1407, n1408, c1409, S1411, a1415, n1416, c1417, S1419, g1422, hS1743, s1744, h1405, h1410, h1412, h1413, h1418, h1420, h1421, h1429, h1426, h1428, h1423, h1424, h1430, h1431⟩
  have hm1745 := un5S hm1434
  revert a1741
  refine Wo <| Wq <| Ws <| Rm z <| R z (rd_neq z z) <| Wn <| Wc z (fun hc1770 => ?_) (fun hc1770 => ?_)
  ·refine Ws <| R z (bP (parts := []) (cs := [(vI 0), (.slice none 0 0), (.slice none 0 0)]) build_61 z z) <| Rm z <| Rm z ?_
   have h1773 := mmr h32.lt
   refine E0 (fs (cur' := [(vI 0), (.slice none 0 0), (.slice none 0 0)]) size_61 z z ((((h32.ext h35).chg h40 (djs h1773)).chg s776 (djs h1773)).ext s1744) z (lb z) (oneAll z) z) ?_
   rintro _ w1777 ⟨h1778, s1779⟩
   refine Ra z <| Ra z <| Wn ?_
   have h1784 := lt_ h23.size h27.size
   have h1786 := mem1le (lt_ h1784 h31.size)
   exact Wr (rtO (QO_retL (som (ifT hm1745 hc1770)).symm (ret3 hr (resC agg_61 size_61 z h1778 z) z z ⟨(bM (bup (bM (bM (bup (bup (bup h23 h27) h31) h35) h40 h1786) s776 h1786) s1744) s1779.one (mem1le h1784)), none, 0, 0, [], none, 0, 0, [], z, (ii z), onL, onL, h1426, h1428, nd0, al0⟩)))
  refine Wk <| Ws <| R z (fd fld_61_2 z) ?_
  have h1793 := h766.ext s1744
  refine R z (l1 agg_59 z fid (h1793.at z)) <| R z (lN (vs := [(vI x1404), (.slice a1407 n1408 c1409), (.slice a1415 n1416 c1417)]) agg_61 size_61 z z fid (h1423.row 0 3 z)) <| E z (ef_buildSlice [(.tmp 45)] el_59 z z z (szAll z) (lb z) (lb z)) ?_
  rintro _ w1794 ⟨rfl, h1795⟩
  have h1796 := h1795.below
  have h1797 : Blk w1794 w1742.heap.size [(vI x1404), (.slice a1407 n1408 c1409), (.slice a1415 n1416 c1417)] := h1795.blk
  obtain ⟨x1809, e1810, hm1811⟩ := bdS (ifF hm1745 hc1770)
  refine E z (ef_pushN (α := Val) el_59 e1810 z z ((h762.ext s1744).ext h1796) h764 h1797 (Val_mkO (x := (⟨x1404, x1406, x1414⟩ : Val)) (S1 := S1411) (S2 := S1419) h1405 (h1410.ext h1796) (h1418.ext h1796)) (all_app (o0no h1413 (ownS.lt h762) (Nat.le_refl _)) (o0no h1421 (ownS.lt h762) (Nat.le_refl _))) (nd_app h1412 h1420 (dj_symm h1429))) ?_
  rintro _ w1800 ⟨S1801, a1802, n1803, c1804, rfl, s1805, h1806, h1807, h1808⟩
  refine R z (fd fld_61_2 z) ?_
  have h1817 := o0n1 h765 h36.lt h40.size
  refine E0 (fs (cur' := [(vI 0), (.slice none 0 0), (.slice a1802 n1803 c1804)]) size_59 z z ((h1793.ext h1796).chg s1805 (djs h1817)) z (lb z) (oneAll z) z) ?_
  rintro _ w1819 ⟨h1820, s1821⟩
  have h1822 := s1821.one
  refine Wn <| Wg <| Rm z <| Ra z <| Wn <| Wg <| Rm z <| R z (inc_ hk774 (toNat_le p4_0) z z) <| Ra z <| Wl ?_
  have h1823 := lt_ h40.size s776.size
  have h1828 : ∀ k ∈ S1801, k ∉ [w29.heap.size] := or2 h1808 h1817 (all_app (o0n1 h1413 h36.lt h1823) (o0n1 h1421 h36.lt h1823)) (ltnot (mem1 h36.lt) (lt_ (lt_ h1823 s1744.size) h1796.size))
  have h1834 : ∀ k ∈ S1801, w37.heap.size ≤ k := or2 h1808 h765 (all_app (o0le h1413 s776.size) (o0le h1421 s776.size)) (lele (lt_ (lt_ s776.size s1744.size) h1796.size))
  have h1835 : Chg (· ∈ [w29.heap.size]) w37 w772 := cM (cr [w29.heap.size] w37) s776 (inor sr)
  have h1836 : Chg (· ∈ [w29.heap.size]) w37 w1742 := cext h1835 s1744
  have h1837 : Chg (· ∈ [w29.heap.size]) w37 w1794 := cext h1836 h1796
  have h1838 : ∀ k ∈ S763, k ∈ [w29.heap.size] ∨ w37.heap.size ≤ k := or0 h765  (leor lr)
  have h1839 : Chg (· ∈ [w29.heap.size]) w37 w1800 := cM h1837 s1805 h1838
  have h1840 : Chg (· ∈ [w29.heap.size]) w37 w1819 := cM h1839 h1822 (inor sr)
  exact fun _ q => ⟨(x1425, x1809), (som hm1811).symm, ⟨a1802, n1803, c1804, S1801, (q.weaken (s9 z z z z z z z z z)), h1840, h1426, (h1806.chg h1822 h1828), h1807, h1834, h1820⟩⟩
 ·rintro ⟨x756, x758⟩ a1841 w1842 ⟨a759, n760, c761, S763, hS1843, s1844, h757, h762, h764, h765, h766⟩
  refine Wu (e := [(2, (vI x3)), (3, (vI x4)), (4, (.slice pa5_0 pn5_0 pc5_0)), (5, (vI x756)), (6, (.pointer (some ⟨w0.heap.size, 0, none⟩))), (7, (.pointer (some ⟨w21.heap.size, 0, none⟩))), (12, (.pointer (some ⟨w25.heap.size, 0, none⟩))), (15, (.pointer (some ⟨w29.heap.size, 0, none⟩))), (16, (vI ((x4.toNat : Nat) : Int)))]) (N := 52) ?_ hS1843
  refine Wq <| Ws <| Rm z <| Rm z <| R z (lss z z) <| Wn <| Wc z (fun hc => (nolttI hc).elim) (fun _ => ?_)
  have h1846 : Chg (· ∈ [w29.heap.size]) w37 w1842 := cM (cr [w29.heap.size] w37) s1844 (inor sr)
  exact WC_exit (fun a' ha' => ⟨rfl, ⟨a759, n760, c761, S763, (Sat.weaken ha' (s3 z z z)), h1846, h757, h762, h764, h765, h766⟩⟩)
 ·rintro ⟨x756, x758⟩ a1847 w1848 rfl ⟨a759, n760, c761, S763, hS1849, s1850, h757, h762, h764, h765, h766⟩
  have hm1851 := elL hm769
  have hm1852 := un2S hm1851
  revert a1847
  refine Wo <| Ws <| R z (lN (vs := [(vI 0), (.slice none 0 0), (.slice a759 n760 c761)]) agg_61 size_61 z z fid (h766.row 0 3 z)) <| Rm z ?_
  have h1854 := mmr h32.lt
  refine E0 (fs (cur' := [(vI 0), (.slice none 0 0), (.slice a759 n760 c761)]) size_61 z z (((h32.ext h35).chg h40 (djs h1854)).chg s1850 (djs h1854)) z (lb z) (oneAll z) z) ?_
  rintro _ w1857 ⟨h1858, s1859⟩
  have h1860 := s1859.one
  refine Ra z <| Ra z <| Wn ?_
  obtain rfl := som hm1852
  have h1867 := lt_ h23.size h27.size
  have h1868 := lt_ h1867 h31.size
  have h1869 := mem1le h1868
  exact Wr (ret3 hr (resC agg_61 size_61 z h1858 z) z z ⟨(bM (bM (bM (bup (bup (bup h23 h27) h31) h35) h40 h1869) s1850 h1869) h1860 (mem1le h1867)), none, 0, 0, [], a759, n760, c761, S763, z, (ii z), onL, (h762.chg h1860 (o0n1 h765 h32.lt (lt_ h35.size h40.size))), h757, (ii z), (nd_app nd_nil h764 all_nil), (all_app all_nil (o0le h765 (lt_ (lt_ h1868 h35.size) h40.size)))⟩)
 rintro r1877 ex1878 a1879 w1880 rfl ⟨rfl, hq1881⟩
 have hm1882 := elR hm769
 obtain rfl := som hm1882
 exact ⟨hq1881, z⟩
theorem T_spec_l11Choice (ih_spec_l11Read : S_spec_l11Read n) (ih_spec_l11Items : S_spec_l11Items n) (ih_spec_l11Choice : S_spec_l11Choice n) (ih_spec_l11Option : S_spec_l11Option n) (ih_spec_l11Checked : S_spec_l11Checked n) {x1 : Desc} {x2 : Rule} {x3 : List UInt8} {x4 : Int} {res : Val × Int × Int} (hm : B_spec_l11Choice n (F_spec_l11Read n) x1 x2 x3 x4 = some res) (hBw : B ≤ w0.heap.size) (p1_0 : repS w0 B (.slice pa1_0 pn1_0 pc1_0) x1.rules) (p2_0 : x2.name.b.length ≤ LEN) (p2_1 : inI x2.kind) (p2_2 : inI x2.size) (p2_4 : repS w0 B (.slice pa2_4 pn2_4 pc2_4) x2.bytes) (p2_5 : repS w0 B (.slice pa2_5 pn2_5 pc2_5) x2.names) (p2_6 : repS w0 B (.slice pa2_6 pn2_6 pc2_6) x2.tags) (p2_7 : repS w0 B (.slice pa2_7 pn2_7 pc2_7) x2.kids) (p3_0 : repS w0 B (.slice pa3_0 pn3_0 pc3_0) x3) (p4_0 : inI x4) : CallsR Tryz.prog 73 [(.agg #[(.slice pa1_0 pn1_0 pc1_0)]), (.agg #[(Str.v x2.name), (vI x2.kind), (vI x2.size), (vB x2.little), (.slice pa2_4 pn2_4 pc2_4), (.slice pa2_5 pn2_5 pc2_5), (.slice pa2_6 pn2_6 pc2_6), (.slice pa2_7 pn2_7 pc2_7)]), (.slice pa3_0 pn3_0 pc3_0), (vI x4)] w0 (Q_spec_l11Choice w0 B res) := by
 unfold B_spec_l11Choice at hm
 obtain ⟨fn, hf, hb, hN, hr⟩ := fnE Tryz.func73
 refine goW hf (hb.trans z) (hN.trans z) (lb z) <| Ws <| E z (fb z) ?_
 rintro _ w21 ⟨rfl, h22⟩
 have h23 := h22.below
 have h24 : Blk w21 w0.heap.size [(.slice pa1_0 pn1_0 pc1_0)] := h22.blk
 refine E z (fb z) ?_
 rintro _ w25 ⟨rfl, h26⟩
 have h27 := h26.below
 have h28 : Blk w25 w21.heap.size [(Str.v x2.name), (vI x2.kind), (vI x2.size), (vB x2.little), (.slice pa2_4 pn2_4 pc2_4), (.slice pa2_5 pn2_5 pc2_5), (.slice pa2_6 pn2_6 pc2_6), (.slice pa2_7 pn2_7 pc2_7)] := h26.blk
 refine E z (fa zero_61) ?_
 rintro _ w29 ⟨rfl, h30⟩
 have h31 := h30.below
 have h32 : Blk w29 w25.heap.size [(vI 0), (.slice none 0 0), (.slice none 0 0)] := h30.blk
 refine Ra z <| Ra z <| Wn <| Wq <| WC_draw (X := noX) 0 (.rd 0 (.rd 1 (.rd 2 (.rd 3 (.rd 4 (.rd 5 (.rd 6 (.ef 7 (.rd 8 (.rd 9 (.rd 10 (.rd 11 (.rd 12 (.rd 13 (.rd 14 .done))))))))))))))) mo (by kernel_rfl) fun w33 s34 _ => ?_
 have h37 := ((h24.ext h27).ext h31).ext s34
 refine dR z z (lN (vs := [(.slice pa1_0 pn1_0 pc1_0)]) agg_31 size_31 z z fid (h37.row 0 1 z)) <| dR z z (fd fld_82_7 z) ?_
 have h39 := (h28.ext h31).ext s34
 refine dR z z (l1 agg_73 z fid (h39.at z)) ?_
 obtain ⟨x40, e41, hm42⟩ := bdS hm
 have h46 := (((p2_7.ext h23).ext h27).ext h31).ext s34
 refine dRX z z (at_ (α := Int) und_73 size_3 z z z h46 e41) ?_
 rintro _ ⟨b47, o48, cs49, rfl, h50, h51, h52⟩
 obtain ⟨rfl, h53⟩ := Int_open h51
 refine dR z z (l1 agg_3 z fid (h50.at0 z)) <| dR z z (mv z) <| dR z z (mv z) ?_
 have h57 := (((p1_0.ext h23).ext h27).ext h31).ext s34
 have h61 := (((p3_0.ext h23).ext h27).ext h31).ext s34
 have h62 := lt_ h23.size h27.size
 have h64 := lt_ (lt_ h62 h31.size) s34.size
 obtain ⟨r66, r67, r68, e69, hm70⟩ := bd3S hm42
 refine dE z z (fc Tryz.call54 z (W_spec_l11Integer (B := B) e69 (lt_ hBw h64) h57 h53 h61 p4_0)) (.inr fun _ _ h => chgB (h.1)) ?_
 rintro _ w71 ⟨s72, rfl, h73, h74⟩
 refine dR z z (mv z) ?_
 iterate 3 refine dR z z (ext_ z z) ?_
 iterate 3 refine dR z z (asg z) ?_
 refine PR_done <| Wo <| Wq <| Ws <| Rm z <| R z (not_ z) <| Wn <| Wc z (fun hc91 => ?_) (fun hc91 => ?_)
 ·refine Ws <| R z (bP (parts := []) (cs := [(vI 0), (.slice none 0 0), (.slice none 0 0)]) build_61 z z) <| Rm z <| E0 (fs (cur' := [(vI 0), (.slice none 0 0), (.slice none 0 0)]) size_61 z z ((h32.ext s34).ext s72) z (lb z) (oneAll z) z) ?_
  rintro _ w95 ⟨h96, s97⟩
  refine Ra z <| Ra z <| Wn ?_
  obtain rfl := som (ifT hm70 hc91)
  exact Wr (ret3 hr (resC agg_61 size_61 z h96 z) z z ⟨(bM (bup (bup (bup (bup h23 h27) h31) s34) s72) s97.one (mem1le h62)), none, 0, 0, [], none, 0, 0, [], z, (ii z), onL, onL, p4_0, (ii z), nd0, al0⟩)
 refine Wk <| Wq <| Ws ?_
 have h106 := h39.ext s72
 refine R z (lN (vs := [(Str.v x2.name), (vI x2.kind), (vI x2.size), (vB x2.little), (.slice pa2_4 pn2_4 pc2_4), (.slice pa2_5 pn2_5 pc2_5), (.slice pa2_6 pn2_6 pc2_6), (.slice pa2_7 pn2_7 pc2_7)]) agg_82 size_82 z z fid (h106.row 0 8 z)) <| Rm z ?_
 have h111 := ((((p2_4.ext h23).ext h27).ext h31).ext s34).ext s72
 have h116 := ((((p2_5.ext h23).ext h27).ext h31).ext s34).ext s72
 have h121 := ((((p2_6.ext h23).ext h27).ext h31).ext s34).ext s72
 have h122 := h46.ext s72
 have h123 := lt_ h64 s72.size
 obtain ⟨r125, e126, hm127⟩ := bdS (ifF hm70 hc91)
 refine E z (fc Tryz.call55 z (W_spec_l9Item (B := B) e126 (lt_ hBw h123) p2_0 p2_1 p2_2 h111 h116 h121 h122 h73 (ii z))) ?_
 rintro _ w128 ⟨s129, rfl, h130⟩
 refine R z (lss z z) <| Wn <| Wc z (fun hc149 => ?_) (fun hc149 => ?_)
 ·refine Ws <| R z (bP (parts := []) (cs := [(vI 0), (.slice none 0 0), (.slice none 0 0)]) build_61 z z) <| Rm z <| E0 (fs (cur' := [(vI 0), (.slice none 0 0), (.slice none 0 0)]) size_61 z z (((h32.ext s34).ext s72).ext s129) z (lb z) (oneAll z) z) ?_
  rintro _ w154 ⟨h155, s156⟩
  refine Ra z <| Ra z <| Wn ?_
  obtain rfl := som (ifT hm127 hc149)
  exact Wr (ret3 hr (resC agg_61 size_61 z h155 z) z z ⟨(bM (bup (bup (bup (bup (bup h23 h27) h31) s34) s72) s129) s156.one (mem1le h62)), none, 0, 0, [], none, 0, 0, [], z, (ii z), onL, onL, p4_0, (ii z), nd0, al0⟩)
 refine Wk <| Ws <| R z (lN (vs := [(.slice pa1_0 pn1_0 pc1_0)]) agg_31 size_31 z z fid (((h37.ext s72).ext s129).row 0 1 z)) <| R z (lN (vs := [(Str.v x2.name), (vI x2.kind), (vI x2.size), (vB x2.little), (.slice pa2_4 pn2_4 pc2_4), (.slice pa2_5 pn2_5 pc2_5), (.slice pa2_6 pn2_6 pc2_6), (.slice pa2_7 pn2_7 pc2_7)]) agg_82 size_82 z z fid ((h106.ext s129).row 0 8 z)) <| Rm z <| Rm z <| Rm z ?_
 have h177 := lt_ h123 s129.size
 obtain ⟨r179, r180, r181, e182, hm183⟩ := bd3S (ifF hm127 hc149)
 refine E z (fc Tryz.call72 z (ih_spec_l11Items.run (B := B) e182 (lt_ hBw h177) ((h57.ext s72).ext s129) p2_0 p2_1 p2_2 (h111.ext s129) (h116.ext s129) (h121.ext s129) (h122.ext s129) h73 (ii z) ((h61.ext s72).ext s129) h74)) ?_
 rintro _ w184 ⟨s185, a187, n188, c189, S191, a192, n193, c194, S196, rfl, h186, h190, h195, h197, h198, h199, h200⟩
 refine Rm z ?_
 iterate 3 refine R z (ext_ z z) ?_
 refine E z (fa zero_61) ?_
 rintro _ w201 ⟨rfl, h202⟩
 have h203 := h202.below
 have h204 : Blk w201 w184.heap.size [(vI 0), (.slice none 0 0), (.slice none 0 0)] := h202.blk
 refine E0 (fs (cur' := [(vI r179.number), (.slice a187 n188 c189), (.slice a192 n193 c194)]) size_61 z z h204 z (lb z) (oneAll z) z) ?_
 rintro _ w205 ⟨h206, s207⟩
 have h208 := s207.one
 refine Ra z <| Ra z <| Wn <| Wq <| Ws <| Rm z <| R z (eql z z) <| Wn ?_
 obtain ⟨u219, hu220, hm221⟩ := bdS hm183
 refine WC_cut (fun a w => ∃ (x216 : Int), x216 = u219 ∧ Sat 56 [(8, (.pointer (some ⟨w25.heap.size, 0, none⟩))), (14, (.pointer (some ⟨w184.heap.size, 0, none⟩))), (15, (vI r180)), (16, (vI r181))] a ∧ Chg (· ∈ [w184.heap.size]) w205 w ∧ inI x216 ∧ Blk w w184.heap.size [(vI x216), (.slice a187 n188 c189), (.slice a192 n193 c194)]) ?_ ?_
 ·refine Wc z (fun hc222 => ?_) (fun hc222 => ?_)
  ·refine Wg <| Rm z <| R z (fd fld_61_0 z) <| E0 (fs (cur' := [(vI r66), (.slice a187 n188 c189), (.slice a192 n193 c194)]) size_3 z z h206 z (lb z) (oneAll z) z) ?_
   rintro _ w224 ⟨h225, s226⟩
   refine Wl ?_
   have h228 : Chg (· ∈ [w184.heap.size]) w205 w224 := cM (cr [w184.heap.size] w205) s226.one (inor sr)
   exact fun _ q => ⟨r66, som (ifT hu220 hc222), (q.weaken (s4 z z z z)), h228, h73, h225⟩
  exact WC_skip <| fun _ q => ⟨r179.number, som (ifF hu220 hc222), (q.weaken (s4 z z z z)), (cr [w184.heap.size] w205), h186, h206⟩
 rintro a230 w231 ⟨x216, rfl, hS232, s233, h217, h218⟩
 revert a230
 refine Wo <| Ws <| R z (lN (vs := [(vI x216), (.slice a187 n188 c189), (.slice a192 n193 c194)]) agg_61 size_61 z z fid (h218.row 0 3 z)) <| Rm z <| Rm z ?_
 have h240 := lt_ (lt_ s34.size s72.size) s129.size
 have h242 := mm1 h32.lt (lt_ h240 s185.size)
 refine E0 (fs (cur' := [(vI x216), (.slice a187 n188 c189), (.slice a192 n193 c194)]) size_61 z z (((((((h32.ext s34).ext s72).ext s129).ext s185).ext h203).chg h208 (djs h242)).chg s233 (djs h242)) z (lb z) (oneAll z) z) ?_
 rintro _ w245 ⟨h246, s247⟩
 have h248 := s247.one
 refine Ra z <| Ra z <| Wn ?_
 obtain rfl := som hm221
 have h250 := mnr (ownS.lt h190)
 have h256 := mnr (ownS.lt h195)
 have h269 := mem1le (lt_ h177 s185.size)
 exact Wr (ret3 hr (resC agg_61 size_61 z h246 z) z z ⟨(bM (bM (bM (bup (bup (bup (bup (bup (bup (bup h23 h27) h31) s34) s72) s129) s185) h203) h208 h269) s233 h269) h248 (mem1le h62)), a187, n188, c189, S191, a192, n193, c194, S196, z, h217, ((((h190.ext h203).chg h208 (dj_symm h250)).chg s233 (dj_symm h250)).chg h248 (o0n1 (all_left h200) h32.lt h240)), ((((h195.ext h203).chg h208 (dj_symm h256)).chg s233 (dj_symm h256)).chg h248 (o0n1 (all_right h200) h32.lt h240)), h197, h198, (nd_app (nd_left h199) (nd_right h199) (nd_dj h199)), (all_app (o0le (all_left h200) h177) (o0le (all_right h200) h177))⟩)
theorem T_spec_l11Option (ih_spec_l11Read : S_spec_l11Read n) (ih_spec_l11Items : S_spec_l11Items n) (ih_spec_l11Choice : S_spec_l11Choice n) (ih_spec_l11Option : S_spec_l11Option n) (ih_spec_l11Checked : S_spec_l11Checked n) {x1 : Desc} {x2 : Rule} {x3 : List UInt8} {x4 : Int} {res : Val × Int × Int} (hm : B_spec_l11Option n (F_spec_l11Read n) x1 x2 x3 x4 = some res) (hBw : B ≤ w0.heap.size) (p1_0 : repS w0 B (.slice pa1_0 pn1_0 pc1_0) x1.rules) (p2_0 : x2.name.b.length ≤ LEN) (p2_1 : inI x2.kind) (p2_2 : inI x2.size) (p2_4 : repS w0 B (.slice pa2_4 pn2_4 pc2_4) x2.bytes) (p2_5 : repS w0 B (.slice pa2_5 pn2_5 pc2_5) x2.names) (p2_6 : repS w0 B (.slice pa2_6 pn2_6 pc2_6) x2.tags) (p2_7 : repS w0 B (.slice pa2_7 pn2_7 pc2_7) x2.kids) (p3_0 : repS w0 B (.slice pa3_0 pn3_0 pc3_0) x3) (p4_0 : inI x4) : CallsR Tryz.prog 74 [(.agg #[(.slice pa1_0 pn1_0 pc1_0)]), (.agg #[(Str.v x2.name), (vI x2.kind), (vI x2.size), (vB x2.little), (.slice pa2_4 pn2_4 pc2_4), (.slice pa2_5 pn2_5 pc2_5), (.slice pa2_6 pn2_6 pc2_6), (.slice pa2_7 pn2_7 pc2_7)]), (.slice pa3_0 pn3_0 pc3_0), (vI x4)] w0 (Q_spec_l11Option w0 B res) := by
 unfold B_spec_l11Option at hm
 obtain ⟨fn, hf, hb, hN, hr⟩ := fnE Tryz.func74
 refine goW hf (hb.trans z) (hN.trans z) (lb z) <| Ws <| E z (fb z) ?_
 rintro _ w21 ⟨rfl, h22⟩
 have h23 := h22.below
 have h24 : Blk w21 w0.heap.size [(.slice pa1_0 pn1_0 pc1_0)] := h22.blk
 refine E z (fb z) ?_
 rintro _ w25 ⟨rfl, h26⟩
 have h27 := h26.below
 have h28 : Blk w25 w21.heap.size [(Str.v x2.name), (vI x2.kind), (vI x2.size), (vB x2.little), (.slice pa2_4 pn2_4 pc2_4), (.slice pa2_5 pn2_5 pc2_5), (.slice pa2_6 pn2_6 pc2_6), (.slice pa2_7 pn2_7 pc2_7)] := h26.blk
 refine E z (fa zero_61) ?_
 rintro _ w29 ⟨rfl, h30⟩
 have h31 := h30.below
 have h32 : Blk w29 w25.heap.size [(vI 0), (.slice none 0 0), (.slice none 0 0)] := h30.blk
 refine Ra z <| Ra z <| Wn <| Wq <| WC_block <| Ws <| Rm z <| Rm z ?_
 have h76 := ((p3_0.ext h23).ext h27).ext h31
 refine R z (lnR und_25 z h76) <| R z (rd_geq z z) <| Ra z <| Wn <| Wc z (fun hc113 => ?_) (fun hc113 => ?_)
 ·refine Ws <| R z (bP (parts := []) (cs := [(vI 0), (.slice none 0 0), (.slice none 0 0)]) build_61 z z) <| Rm z <| E0 (fs (cur' := [(vI 0), (.slice none 0 0), (.slice none 0 0)]) size_61 z z h32 z (lb z) (oneAll z) z) ?_
  rintro _ w115 ⟨h116, s117⟩
  refine Ra z <| Ra z <| Wn ?_
  obtain rfl := som (ifT hm hc113)
  exact Wr (rtO (ret3 hr (resC agg_61 size_61 z h116 z) z z ⟨(bM (bup (bup h23 h27) h31) s117.one (mem1le (lt_ h23.size h27.size))), none, 0, 0, [], none, 0, 0, [], z, (ii z), onL, onL, p4_0, (ii z), nd0, al0⟩))
 refine Ws <| Rm z <| Rm z ?_
 obtain ⟨x125, e126, hm127⟩ := bdS (ifF hm hc113)
 refine RX z (at_ (α := UInt8) und_25 size_5 z z z h76 e126) ?_
 rintro _ ⟨b128, o129, cs130, rfl, h131, h132, h133⟩
 obtain rfl := UInt8_open h132
 refine R z (l1 agg_5 z fid (h131.at0 z)) <| R z (rd_gtr z z) <| Ra z <| Wn <| Wc z (fun hc147 => ?_) (fun hc147 => ?_)
 ·refine Ws <| R z (bP (parts := []) (cs := [(vI 0), (.slice none 0 0), (.slice none 0 0)]) build_61 z z) <| Rm z <| E0 (fs (cur' := [(vI 0), (.slice none 0 0), (.slice none 0 0)]) size_61 z z h32 z (lb z) (oneAll z) z) ?_
  rintro _ w149 ⟨h150, s151⟩
  refine Ra z <| Ra z <| Wn ?_
  obtain rfl := som (ifT hm127 hc147)
  exact Wr (rtO (ret3 hr (resC agg_61 size_61 z h150 z) z z ⟨(bM (bup (bup h23 h27) h31) s151.one (mem1le (lt_ h23.size h27.size))), none, 0, 0, [], none, 0, 0, [], z, (ii z), onL, onL, p4_0, (ii z), nd0, al0⟩))
 refine Wk <| Wq <| WC_draw (X := noX) 16384 (.rd 0 (.rd 1 (.rd 2 (.rd 3 (.rd 4 (.rd 5 (.rd 6 (.rd 7 (.rd 8 (.rd 9 (.ef 10 (.rd 11 (.rd 12 (.rd 13 (.ef 14 (.rd 15 (.rd 16 .done))))))))))))))))) mo (by kernel_rfl) fun w159 s160 _ => dR z z (lN (vs := [(.slice pa1_0 pn1_0 pc1_0)]) agg_31 size_31 z z fid ((((h24.ext h27).ext h31).ext s160).row 0 1 z)) <| dR z z (lN (vs := [(Str.v x2.name), (vI x2.kind), (vI x2.size), (vB x2.little), (.slice pa2_4 pn2_4 pc2_4), (.slice pa2_5 pn2_5 pc2_5), (.slice pa2_6 pn2_6 pc2_6), (.slice pa2_7 pn2_7 pc2_7)]) agg_82 size_82 z z fid (((h28.ext h31).ext s160).row 0 8 z)) <| dR z z (mv z) <| dR z z (mv z) ?_
 obtain ⟨x166, e167, hm168⟩ := bdS (ifF hm127 hc147)
 have h169 := h76.ext s160
 refine dRX z z (at_ (α := UInt8) und_25 size_5 z z z h169 e167) ?_
 rintro _ ⟨b170, o171, cs172, rfl, h173, h174, h175⟩
 obtain rfl := UInt8_open h174
 refine dR z z (l1 agg_5 z fid (h173.at0 z)) <| dR z z (rd_convUI und_5 und_3 z) <| dR z z (mv z) <| dR z z (mv z) <| dR z z (add_ z z) ?_
 have h196 := lt_ h23.size h27.size
 have h198 := lt_ (lt_ h196 h31.size) s160.size
 obtain ⟨r200, r201, r202, e203, hm204⟩ := bd3S hm168
 refine dE z z (fc Tryz.call72 z (ih_spec_l11Items.run (B := B) e203 (lt_ hBw h198) ((((p1_0.ext h23).ext h27).ext h31).ext s160) p2_0 p2_1 p2_2 ((((p2_4.ext h23).ext h27).ext h31).ext s160) ((((p2_5.ext h23).ext h27).ext h31).ext s160) ((((p2_6.ext h23).ext h27).ext h31).ext s160) ((((p2_7.ext h23).ext h27).ext h31).ext s160) (ii z) (inI_byte _) h169 (iA _ _))) (.inr fun _ _ h => chgB (h.1)) ?_
 rintro _ w205 ⟨s206, a208, n209, c210, S212, a213, n214, c215, S217, rfl, h207, h211, h216, h218, h219, h220, h221⟩
 iterate 3 refine dR z z (ext_ z z) ?_
 refine dE0 z (fs (cur' := [(vI r200.number), (.slice a208 n209 c210), (.slice a213 n214 c215)]) size_61 z z ((h32.ext s160).ext s206) z (lb z) (oneAll z) z) (.inl z) ?_
 rintro _ w224 ⟨h225, s226⟩
 have h227 := s226.one
 refine dR z z (asg z) <| dR z z (asg z) <| PR_done <| Wo ?_
 obtain rfl := som hm204
 exact Wr (ret3 hr (resC agg_61 size_61 z h225 z) z z ⟨(bM (bup (bup (bup (bup h23 h27) h31) s160) s206) h227 (mem1le h196)), a208, n209, c210, S212, a213, n214, c215, S217, z, h207, (h211.chg h227 (o0n1 (all_left h221) h32.lt s160.size)), (h216.chg h227 (o0n1 (all_right h221) h32.lt s160.size)), h218, h219, (nd_app (nd_left h220) (nd_right h220) (nd_dj h220)), (all_app (o0le (all_left h221) h198) (o0le (all_right h221) h198))⟩)
theorem T_spec_l11Checked (ih_spec_l11Read : S_spec_l11Read n) (ih_spec_l11Items : S_spec_l11Items n) (ih_spec_l11Choice : S_spec_l11Choice n) (ih_spec_l11Option : S_spec_l11Option n) (ih_spec_l11Checked : S_spec_l11Checked n) {x1 : Desc} {x2 : Rule} {x3 : List UInt8} {x4 : Int} {res : Val × Int × Int} (hm : B_spec_l11Checked n (F_spec_l11Read n) x1 x2 x3 x4 = some res) (hBw : B ≤ w0.heap.size) (p1_0 : repS w0 B (.slice pa1_0 pn1_0 pc1_0) x1.rules) (p2_0 : x2.name.b.length ≤ LEN) (p2_1 : inI x2.kind) (p2_2 : inI x2.size) (p2_4 : repS w0 B (.slice pa2_4 pn2_4 pc2_4) x2.bytes) (p2_5 : repS w0 B (.slice pa2_5 pn2_5 pc2_5) x2.names) (p2_6 : repS w0 B (.slice pa2_6 pn2_6 pc2_6) x2.tags) (p2_7 : repS w0 B (.slice pa2_7 pn2_7 pc2_7) x2.kids) (p3_0 : repS w0 B (.slice pa3_0 pn3_0 pc3_0) x3) (p4_0 : inI x4) : CallsR Tryz.prog 75 [(.agg #[(.slice pa1_0 pn1_0 pc1_0)]), (.agg #[(Str.v x2.name), (vI x2.kind), (vI x2.size), (vB x2.little), (.slice pa2_4 pn2_4 pc2_4), (.slice pa2_5 pn2_5 pc2_5), (.slice pa2_6 pn2_6 pc2_6), (.slice pa2_7 pn2_7 pc2_7)]), (.slice pa3_0 pn3_0 pc3_0), (vI x4)] w0 (Q_spec_l11Checked w0 B res) := by
 unfold B_spec_l11Checked at hm
 obtain ⟨fn, hf, hb, hN, hr⟩ := fnE Tryz.func75
 refine goW hf (hb.trans z) (hN.trans z) (lb z) <| Ws <| E z (fb z) ?_
 rintro _ w21 ⟨rfl, h22⟩
 have h23 := h22.below
 have h24 : Blk w21 w0.heap.size [(.slice pa1_0 pn1_0 pc1_0)] := h22.blk
 refine E z (fb z) ?_
 rintro _ w25 ⟨rfl, h26⟩
 have h27 := h26.below
 have h28 : Blk w25 w21.heap.size [(Str.v x2.name), (vI x2.kind), (vI x2.size), (vB x2.little), (.slice pa2_4 pn2_4 pc2_4), (.slice pa2_5 pn2_5 pc2_5), (.slice pa2_6 pn2_6 pc2_6), (.slice pa2_7 pn2_7 pc2_7)] := h26.blk
 refine E z (fa zero_61) ?_
 rintro _ w29 ⟨rfl, h30⟩
 have h31 := h30.below
 have h32 : Blk w29 w25.heap.size [(vI 0), (.slice none 0 0), (.slice none 0 0)] := h30.blk
 refine Ra z <| Ra z <| Wn <| Ws <| R z (lN (vs := [(.slice pa1_0 pn1_0 pc1_0)]) agg_31 size_31 z z fid (((h24.ext h27).ext h31).row 0 1 z)) <| R z (lN (vs := [(Str.v x2.name), (vI x2.kind), (vI x2.size), (vB x2.little), (.slice pa2_4 pn2_4 pc2_4), (.slice pa2_5 pn2_5 pc2_5), (.slice pa2_6 pn2_6 pc2_6), (.slice pa2_7 pn2_7 pc2_7)]) agg_82 size_82 z z fid ((h28.ext h31).row 0 8 z)) <| Rm z <| Rm z ?_
 have h53 := ((p3_0.ext h23).ext h27).ext h31
 have h54 := lt_ h23.size h27.size
 have h55 := lt_ h54 h31.size
 obtain ⟨r57, r58, r59, e60, hm61⟩ := bd3S hm
 refine E z (fc Tryz.call72 z (ih_spec_l11Items.run (B := B) e60 (lt_ hBw h55) (((p1_0.ext h23).ext h27).ext h31) p2_0 p2_1 p2_2 (((p2_4.ext h23).ext h27).ext h31) (((p2_5.ext h23).ext h27).ext h31) (((p2_6.ext h23).ext h27).ext h31) (((p2_7.ext h23).ext h27).ext h31) (ii z) (ii z) h53 p4_0)) ?_
 rintro _ w62 ⟨s63, a65, n66, c67, S69, a70, n71, c72, S74, rfl, h64, h68, h73, h75, h76, h77, h78⟩
 refine Rm z ?_
 iterate 3 refine R z (ext_ z z) ?_
 refine E z (fa zero_61) ?_
 rintro _ w79 ⟨rfl, h80⟩
 have h81 := h80.below
 have h82 : Blk w79 w62.heap.size [(vI 0), (.slice none 0 0), (.slice none 0 0)] := h80.blk
 refine E0 (fs (cur' := [(vI r57.number), (.slice a65 n66 c67), (.slice a70 n71 c72)]) size_61 z z h82 z (lb z) (oneAll z) z) ?_
 rintro _ w83 ⟨h84, s85⟩
 have h86 := s85.one
 refine Ra z <| Ra z <| Wn <| Wq <| WC_block <| Ws <| Rm z <| R z (rd_neq z z) <| Ra z <| Wn <| Wc z (fun hc320 => ?_) (fun hc320 => ?_)
 ·refine Ws <| R z (lN (vs := [(vI r57.number), (.slice a65 n66 c67), (.slice a70 n71 c72)]) agg_61 size_61 z z fid (h84.row 0 3 z)) <| Rm z <| Rm z <| E0 (fs (cur' := [(vI r57.number), (.slice a65 n66 c67), (.slice a70 n71 c72)]) size_61 z z (((h32.ext s63).ext h81).chg h86 (djs (mm1 h32.lt s63.size))) z (lb z) (oneAll z) z) ?_
  rintro _ w326 ⟨h327, s328⟩
  have h329 := s328.one
  refine Ra z <| Ra z <| Wn ?_
  obtain rfl := som (ifT hm61 hc320)
  exact Wr (rtO (ret3 hr (resC agg_61 size_61 z h327 z) z z ⟨(bM (bM (bup (bup (bup (bup h23 h27) h31) s63) h81) h86 (mem1le (lt_ h55 s63.size))) h329 (mem1le h54)), a65, n66, c67, S69, a70, n71, c72, S74, z, h64, (((h68.ext h81).chg h86 (dj_symm (mnr (ownS.lt h68)))).chg h329 (o0n1 (all_left h78) h32.lt (Nat.le_refl _))), (((h73.ext h81).chg h86 (dj_symm (mnr (ownS.lt h73)))).chg h329 (o0n1 (all_right h78) h32.lt (Nat.le_refl _))), h75, h76, (nd_app (nd_left h77) (nd_right h77) (nd_dj h77)), (all_app (o0le (all_left h78) h55) (o0le (all_right h78) h55))⟩))
 have hm351 := ifF hm61 hc320
 refine Ws <| Rm z <| Rm z ?_
 have h354 := lt_ h55 s63.size
 have h357 := ((h53.ext s63).ext h81).chg h86 (ltge (mem1le (lt_ hBw h354)))
 refine R z (lnR und_25 z h357) <| R z (rd_geq z z) <| Ra z <| Wn <| Wc z (fun hc432 => ?_) (fun hc432 => ?_)
 ·refine Ws <| R z (bP (parts := []) (cs := [(vI 0), (.slice none 0 0), (.slice none 0 0)]) build_61 z z) <| Rm z <| E0 (fs (cur' := [(vI 0), (.slice none 0 0), (.slice none 0 0)]) size_61 z z (((h32.ext s63).ext h81).chg h86 (djs (mm1 h32.lt s63.size))) z (lb z) (oneAll z) z) ?_
  rintro _ w438 ⟨h439, s440⟩
  refine Ra z <| Ra z <| Wn ?_
  obtain rfl := som (ifT hm351 hc432)
  exact Wr (rtO (ret3 hr (resC agg_61 size_61 z h439 z) z z ⟨(bM (bM (bup (bup (bup (bup h23 h27) h31) s63) h81) h86 (mem1le h354)) s440.one (mem1le h54)), none, 0, 0, [], none, 0, 0, [], z, (ii z), onL, onL, h75, (ii z), nd0, al0⟩))
 refine Wq <| WC_draw (X := noX) 0 (.rd 0 (.rd 1 (.rd 2 (.rd 3 (.rd 4 (.rd 5 (.rd 6 (.rd 7 (.rd 8 (.ef 9 (.rd 10 (.rd 11 .done)))))))))))) mo (by kernel_rfl) fun w451 s452 _ => dR z z (mv z) <| dR z z (mv z) ?_
 obtain ⟨x453, e454, hm455⟩ := bdS (ifF hm351 hc432)
 have h456 := h357.ext s452
 refine dRX z z (at_ (α := UInt8) und_25 size_5 z z z h456 e454) ?_
 rintro _ ⟨b457, o458, cs459, rfl, h460, h461, h462⟩
 obtain rfl := UInt8_open h461
 refine dR z z (l1 agg_5 z fid (h460.at0 z)) <| dR z z (rd_convUI und_5 und_3 z) ?_
 iterate 3 refine dR z z (mv z) ?_
 obtain ⟨x463, e464, hm465⟩ := bdS hm455
 refine dRX z z (rd_sliceX und_25 size_5 z z h456 z z e464) ?_
 rintro _ ⟨a466, n467, c468, rfl, h469⟩
 obtain ⟨r474, e475, hm476⟩ := bdS hm465
 refine dE z z (fc Tryz.call98 z (W_spec_SumOfBytes (B := B) e475 (lt_ hBw (lt_ (lt_ (lt_ h354 h81.size) h86.size) s452.size)) h469)) (.inr fun _ _ h => chgB (h.1)) ?_
 rintro _ w477 ⟨s478, rfl, h479⟩
 refine dR z z (rd_neq z z) <| dR z z (asg z) <| PR_done <| Wo <| Wc z (fun hc504 => ?_) (fun hc504 => ?_)
 ·refine Ws <| R z (bP (parts := []) (cs := [(vI 0), (.slice none 0 0), (.slice none 0 0)]) build_61 z z) <| Rm z <| E0 (fs (cur' := [(vI 0), (.slice none 0 0), (.slice none 0 0)]) size_61 z z (((((h32.ext s63).ext h81).chg h86 (djs (mm1 h32.lt s63.size))).ext s452).ext s478) z (lb z) (oneAll z) z) ?_
  rintro _ w512 ⟨h513, s514⟩
  refine Ra z <| Ra z <| Wn ?_
  obtain rfl := som (ifT hm476 hc504)
  exact Wr (rtO (ret3 hr (resC agg_61 size_61 z h513 z) z z ⟨(bM (bup (bup (bM (bup (bup (bup (bup h23 h27) h31) s63) h81) h86 (mem1le h354)) s452) s478) s514.one (mem1le h54)), none, 0, 0, [], none, 0, 0, [], z, (ii z), onL, onL, h75, (ii z), nd0, al0⟩))
 refine Wk <| Ws <| R z (lN (vs := [(vI r57.number), (.slice a65 n66 c67), (.slice a70 n71 c72)]) agg_61 size_61 z z fid (((h84.ext s452).ext s478).row 0 3 z)) <| Rm z <| R z (add_ z z) <| E0 (fs (cur' := [(vI r57.number), (.slice a65 n66 c67), (.slice a70 n71 c72)]) size_61 z z (((((h32.ext s63).ext h81).chg h86 (djs (mm1 h32.lt s63.size))).ext s452).ext s478) z (lb z) (oneAll z) z) ?_
 rintro _ w535 ⟨h536, s537⟩
 have h538 := s537.one
 refine Ra z <| Ra z <| Wn ?_
 obtain rfl := som (ifF hm476 hc504)
 exact Wr (ret3 hr (resC agg_61 size_61 z h536 z) z z ⟨(bM (bup (bup (bM (bup (bup (bup (bup h23 h27) h31) s63) h81) h86 (mem1le h354)) s452) s478) h538 (mem1le h54)), a65, n66, c67, S69, a70, n71, c72, S74, z, h64, (((((h68.ext h81).chg h86 (dj_symm (mnr (ownS.lt h68)))).ext s452).ext s478).chg h538 (o0n1 (all_left h78) h32.lt (Nat.le_refl _))), (((((h73.ext h81).chg h86 (dj_symm (mnr (ownS.lt h73)))).ext s452).ext s478).chg h538 (o0n1 (all_right h78) h32.lt (Nat.le_refl _))), (iA _ _), (ii z), (nd_app (nd_left h77) (nd_right h77) (nd_dj h77)), (all_app (o0le (all_left h78) h55) (o0le (all_right h78) h55))⟩)
theorem A_spec_l11Read : ∀ n, S_spec_l11Read n ∧ S_spec_l11Items n ∧ S_spec_l11Choice n ∧ S_spec_l11Option n ∧ S_spec_l11Checked n
  | 0 => ⟨⟨fun hm => by intros; exact nomatch (show none = some _ from hm)⟩, ⟨fun hm => by intros; exact nomatch (show none = some _ from hm)⟩, ⟨fun hm => by intros; exact nomatch (show none = some _ from hm)⟩, ⟨fun hm => by intros; exact nomatch (show none = some _ from hm)⟩, ⟨fun hm => by intros; exact nomatch (show none = some _ from hm)⟩⟩
  | n + 1 => by
    have ih := A_spec_l11Read n
    obtain ⟨i0, i1, i2, i3, i4⟩ := ih
    exact ⟨⟨fun hm => T_spec_l11Read i0 i1 i2 i3 i4 hm⟩, ⟨fun hm => T_spec_l11Items i0 i1 i2 i3 i4 hm⟩, ⟨fun hm => T_spec_l11Choice i0 i1 i2 i3 i4 hm⟩, ⟨fun hm => T_spec_l11Option i0 i1 i2 i3 i4 hm⟩, ⟨fun hm => T_spec_l11Checked i0 i1 i2 i3 i4 hm⟩⟩
theorem W_spec_l11Read : ∀ {x1 : Desc} {x2 : Int} {x3 : List UInt8} {x4 : Int} {res : Val × Int × Int} (hm : (F_spec_l11Read n).spec_l11Read x1 x2 x3 x4 = some res) (hBw : B ≤ w0.heap.size) (p1_0 : repS w0 B (.slice pa1_0 pn1_0 pc1_0) x1.rules) (p2_0 : inI x2) (p3_0 : repS w0 B (.slice pa3_0 pn3_0 pc3_0) x3) (p4_0 : inI x4), CallsR Tryz.prog 43 [(.agg #[(.slice pa1_0 pn1_0 pc1_0)]), (vI x2), (.slice pa3_0 pn3_0 pc3_0), (vI x4)] w0 (Q_spec_l11Read w0 B res) := ((A_spec_l11Read n).1).run
theorem W_spec_l11Items : ∀ {x1 : Desc} {x2 : Rule} {x3 : Int} {x4 : Int} {x5 : List UInt8} {x6 : Int} {res : Val × Int × Int} (hm : (F_spec_l11Read n).spec_l11Items x1 x2 x3 x4 x5 x6 = some res) (hBw : B ≤ w0.heap.size) (p1_0 : repS w0 B (.slice pa1_0 pn1_0 pc1_0) x1.rules) (p2_0 : x2.name.b.length ≤ LEN) (p2_1 : inI x2.kind) (p2_2 : inI x2.size) (p2_4 : repS w0 B (.slice pa2_4 pn2_4 pc2_4) x2.bytes) (p2_5 : repS w0 B (.slice pa2_5 pn2_5 pc2_5) x2.names) (p2_6 : repS w0 B (.slice pa2_6 pn2_6 pc2_6) x2.tags) (p2_7 : repS w0 B (.slice pa2_7 pn2_7 pc2_7) x2.kids) (p3_0 : inI x3) (p4_0 : inI x4) (p5_0 : repS w0 B (.slice pa5_0 pn5_0 pc5_0) x5) (p6_0 : inI x6), CallsR Tryz.prog 72 [(.agg #[(.slice pa1_0 pn1_0 pc1_0)]), (.agg #[(Str.v x2.name), (vI x2.kind), (vI x2.size), (vB x2.little), (.slice pa2_4 pn2_4 pc2_4), (.slice pa2_5 pn2_5 pc2_5), (.slice pa2_6 pn2_6 pc2_6), (.slice pa2_7 pn2_7 pc2_7)]), (vI x3), (vI x4), (.slice pa5_0 pn5_0 pc5_0), (vI x6)] w0 (Q_spec_l11Items w0 B res) := ((A_spec_l11Read n).2.1).run
end Go.Vw

