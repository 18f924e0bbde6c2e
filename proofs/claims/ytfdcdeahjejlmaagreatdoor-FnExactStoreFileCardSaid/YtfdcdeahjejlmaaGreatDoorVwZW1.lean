import Derived.Test.YtfdcdeahjejlmaaGreatDoorVwTModels
import Derived.Test.YtfdcdeahjejlmaaGreatDoorVwZFacts
import Derived.Test.YtfdcdeahjejlmaaGreatDoorVwZExt
import Derived.Test.YtfdcdeahjejlmaaGreatDoorVwFun
import Derived.Test.YtfdcdeahjejlmaaGreatDoorVwCut
import Derived.Test.YtfdcdeahjejlmaaGreatDoorVwShr
import Derived.Test.YtfdcdeahjejlmaaGreatDoorVwArc
import Derived.Test.YtfdcdeahjejlmaaGreatDoorVwPan
import Derived.Test.YtfdcdeahjejlmaaGreatDoorProg
import Derived.Test.YtfdcdeahjejlmaaGreatDoorVwShort
set_option linter.unusedVariables false
namespace Go.Vw
open Go.RowKit Dat Go.Proofs
open Go.Proofs.Tryz
open Go.Vw renaming WC_seq → Wq, WC_region → Wg, WC.of_KC → Wo, WL_nil → Wl, WC_cond → Wc, WC_ret → Wr, WC_run → Wu, rd_pickT → pT, rd_pickF → pF, rd_field → fd, rd_load1 → l1, rd_loadN → lN, rd_move → mv, rd_assign → asg, rd_lenR → lnR, rd_lss → lss, rd_eql → eql, rd_extract → ext_, rd_buildP → bP, rd_add → add_, rd_inc → inc_, rd_not → not_, rd_at → at_, ef_call → fc, ef_store → fs, ef_box → fb, ef_alloc → fa, sub_refl → sr, crefl → cr, cchgM → cM, bchgM → bM, inI_sub → iS, inI_add → iA, brefl → br, oneAll → oA, bsplit → bs, ltge → lg, inor → io, rd_neq → nq, rd_lenT → lnT, rd_sub → sb_, all_right → ar_, all_left → al_, dj_symm → ds, mem1le → m1, nd_right → nr_, nd_left → nl_, all_app → aa_, all_nil → an_, WC_block → Wb, UInt8_open → u8, PR_done → pD, WC_exit → We, WC_cut → Wt, ef_buildSlice → fS, ownS_rep → or_, WC_forN → Wf, QO_retL → qL, WC_draw → Wd, ef_appendN → fN, nd_app → na_, nd_dj → nj, ef_lit0 → f0, rd_sliceX → rX, toNat_le → tl_, inI_cnt → ic
variable {A0 : Option Addr} {N0 C0 : Nat} {B : Nat} {w0 : World} {AB : Option Addr} {A7 : Option Addr} {AA : Option Addr} {A8 : Option Addr} {NB CB : Nat} {N7 C7 : Nat} {NA CA : Nat} {N8 C8 : Nat} {A1 : Option Addr} {N1 C1 : Nat} {n : Nat} {AE : Option Addr} {NE CE : Nat} {A6 : Option Addr} {N6 C6 : Nat} {AC : Option Addr} {NC CC : Nat} {A3 : Option Addr} {A4 : Option Addr} {A2 : Option Addr} {A5 : Option Addr} {N3 C3 : Nat} {N4 C4 : Nat} {N2 C2 : Nat} {N5 C5 : Nat} {A9 : Option Addr} {N9 C9 : Nat} {AF : Option Addr} {NF CF : Nat} {AI : Option Addr} {NI CI : Nat} {AD : Option Addr} {ND CD : Nat}
def Q0 (w0 : World) (B : Nat) (r : Int) (v : Value) (w' : World) : Prop := Bw w0 w' ∧ (fun r1 => (vI r1) = v ∧ inI r1) r
theorem W_w0q {x1 : List UInt8} {x2 : Int} {res : Int} (hm : M_laws_szByteS x1 x2 = some res) (hBw : B ≤ w0.z) (p1_0 : repS w0 B (sl A0 N0 C0) x1) (p2_0 : inI x2) : CallsR prog 64 [sl A0 N0 C0, vI x2] w0 (Q0 w0 B res) := by
 unfold M_laws_szByteS at hm
 refine goF func64 z z (lb z) fun fn hr => Ws<|Ra z<|Wn<|Ws<|Rm z<|Rm z<|R z (lnR d_25 z p1_0)<|R z (sb_ z z)<|Ra z<|Wn<|Wq<|Ws<|Rm z<|R z (lss z z)<|Wn<|Wc z (fun hc0 => ?_) (fun hc0 => ?_)
 ·refine Ws<|Ra z<|Wn ?_
  obtain rfl := som (ifT hm hc0)
  exact Wr<|ret1 hr z ⟨(br w0), z, (ii z)⟩
 refine Wk<|Ws<|Rm z<|Ra z<|Wn ?_
 obtain rfl := som (ifF hm hc0)
 exact Wr<|ret1 hr z ⟨(br w0), z, (iS _ _)⟩
theorem W_w1x {x1 : List Str} {x2 : Int} {res : Int} (hm : M_laws_szStringS x1 x2 = some res) (hBw : B ≤ w0.z) (p1_0 : repS w0 B (sl A0 N0 C0) x1) (p2_0 : inI x2) : CallsR prog 160 [sl A0 N0 C0, vI x2] w0 (Q0 w0 B res) := by
 unfold M_laws_szStringS at hm
 refine goF func160 z z (lb z) fun fn hr => Ws<|Ra z<|Wn<|Ws<|Rm z<|Rm z<|R z (lnR d_41 z p1_0)<|R z (sb_ z z)<|Ra z<|Wn<|Wq<|Ws<|Rm z<|R z (lss z z)<|Wn<|Wc z (fun hc2 => ?_) (fun hc2 => ?_)
 ·refine Ws<|Ra z<|Wn ?_
  obtain rfl := som (ifT hm hc2)
  exact Wr<|ret1 hr z ⟨(br w0), z, (ii z)⟩
 refine Wk<|Wq<|Ws<|Ra z<|Wn ?_
 obtain ⟨uo, hub, hm5⟩ := bdS (ifF hm hc2)
 refine Wf (σ := Int) (ρ := Int) (fun (k6 : Nat) (x0 : Int) a w => Sat 28 [(0, sl A0 N0 C0), (1, vI x0), (5, (vI ((k6 : Nat) : Int)))] a ∧ Below w0.z w0 w ∧ inI x0) (fun (x0 : Int) a w => Sat 28 [(1, vI x0)] a ∧ Below w0.z w0 w ∧ inI x0) (fun r ex a w => ex = .ret ∧ RetPost prog fn (Q0 w0 B r) a w) hub ?_ ?_ ?_ ?_ ?_
 ·exact fun _ q => ⟨(q.k<|s3 z z z), (br w0), (iS _ _)⟩
 ·rintro k6 x0 ap wq os hk7 ⟨hSc, s4, h1⟩ hmd
  refine Wu ?_ hSc
  refine Wq<|Ws<|Rm z<|Rm z ?_
  have h8 := p1_0.e s4
  refine R z (lnR d_41 z h8)<|R z (lss z z)<|Wn<|Wc z (fun _ => ?_) (fun hc => (nolt hk7 hc).elim)
  refine Wk<|Wq<|Wb<|Ws<|Rm z<|Rm z<|Rm z ?_
  obtain ⟨xe, ef, hm9⟩ := bdS hmd
  refine RX z (at_ (α := Str) d_41 z_9 z z z h8 ef) ?_
  rintro _ ⟨bt, ou, csr, rfl, hg, hh, hv⟩
  obtain ⟨rfl, hw⟩ := Str_open hh
  refine R z (l1 g_9 z fid<|hg.at0 z)<|R z (lnT d_9 z)<|R z (sb_ z z)<|Ra z<|Wn<|Ws<|Rm z<|R z (lss z z)<|Wn<|Wc z (fun hc3 => ?_) (fun hc3 => ?_)
  ·exact Ws<|Ra z<|Wn<|Wr<|rtO<|qL (som<|ifT hm9 hc3).symm<|ret1 hr z ⟨s4, z, (ii z)⟩
  exact Wk<|Wg<|Rm z<|R z (inc_ hk7 (lt_ (repS.len p1_0) LEN_le) z z)<|Ra z<|Wl (fun _ q => ⟨isub x0 (xe.b.length : Int), (som<|ifF hm9 hc3).symm, ⟨(q.k<|s3 z z z), s4, (iS _ _)⟩⟩)
 ·rintro x0 ax wy ⟨hSi, sa, h1⟩
  refine Wu ?_ hSi
  refine Wq<|Ws<|Rm z<|Rm z<|R z (lnR d_41 z<|p1_0.e sa)<|R z (lss z z)<|Wn<|Wc z (fun hc => (noltt hc).elim) (fun _ => ?_)
  exact We (fun a' ha' => ⟨rfl, ⟨(Sat.weaken ha'<|s1 z), sa, h1⟩⟩)
 ·rintro x0 aj wz rfl ⟨hS10, sk, h1⟩
  have hml := elL hm5
  revert aj
  refine Wo<|Ws<|Rm z<|Ra z<|Wn ?_
  obtain rfl := som hml
  exact Wr<|ret1 hr z ⟨sk, z, h1⟩
 rintro r11 ex12 a13 w14 rfl ⟨rfl, hqm⟩
 have hmn := elR hm5
 obtain rfl := som hmn
 exact ⟨hqm, z⟩
theorem W_w0r {x1 : List Int} {x2 : Int} {res : Int} (hm : M_laws_szIntS x1 x2 = some res) (hBw : B ≤ w0.z) (p1_0 : repS w0 B (sl A0 N0 C0) x1) (p2_0 : inI x2) : CallsR prog 161 [sl A0 N0 C0, vI x2] w0 (Q0 w0 B res) := by
 unfold M_laws_szIntS at hm
 refine goF func161 z z (lb z) fun fn hr => Ws<|Ra z<|Wn<|Ws<|Rm z<|Rm z<|R z (lnR d_142 z p1_0)<|R z (sb_ z z)<|Ra z<|Wn<|Wq<|Ws<|Rm z<|R z (lss z z)<|Wn<|Wc z (fun hc0 => ?_) (fun hc0 => ?_)
 ·refine Ws<|Ra z<|Wn ?_
  obtain rfl := som (ifT hm hc0)
  exact Wr<|ret1 hr z ⟨(br w0), z, (ii z)⟩
 refine Wk<|Ws<|Rm z<|Ra z<|Wn ?_
 obtain rfl := som (ifF hm hc0)
 exact Wr<|ret1 hr z ⟨(br w0), z, (iS _ _)⟩
theorem W_w1y {x1 : Rule} {x2 : Int} {res : Int} (hm : M_laws_szRule x1 x2 = some res) (hBw : B ≤ w0.z) (p1_0 : x1.name.b.length ≤ LEN) (p1_1 : inI x1.kind) (p1_2 : inI x1.size) (p1_4 : repS w0 B (sl AB NB CB) x1.bytes) (p1_5 : repS w0 B (sl A7 N7 C7) x1.names) (p1_6 : repS w0 B (sl AA NA CA) x1.tags) (p1_7 : repS w0 B (sl A8 N8 C8) x1.kids) (p2_0 : inI x2) : CallsR prog 144 [(.agg #[Str.v x1.name, vI x1.kind, vI x1.size, vB x1.little, sl AB NB CB, sl A7 N7 C7, sl AA NA CA, sl A8 N8 C8]), vI x2] w0 (Q0 w0 B res) := by
 unfold M_laws_szRule at hm
 refine goF func144 z z (lb z) fun fn hr => Ws<|E z (fb z) ?_
 rintro _ wk ⟨rfl, ha⟩
 have h0 := ha.below
 have h4 : Blk wk w0.z (vR x1 AB NB CB A7 N7 C7 AA NA CA A8 N8 C8) := ha.blk
 refine Ra z<|Wn<|Ws<|Rm z<|R z (fd f_151_0 z)<|R z (l1 g_9 z fid<|h4.at z)<|R z (lnT d_9 z)<|R z (sb_ z z)<|Ra z<|Wn<|Wq<|Ws<|Rm z<|R z (lss z z)<|Wn<|Wc z (fun hc5 => ?_) (fun hc5 => ?_)
 ·refine Ws<|Ra z<|Wn ?_
  obtain rfl := som (ifT hm hc5)
  exact Wr<|ret1 hr z ⟨h0, z, (ii z)⟩
 refine Wk<|Ws<|R z (fd f_151_4 z)<|R z (l1 g_25 z fid<|h4.at z)<|Rm z ?_
 obtain ⟨rs, el, hmb⟩ := bdS (ifF hm hc5)
 refine E z (fc call64 z<|W_w0q (B := B) el (lt_ hBw h0.s) (p1_4.e h0)<|iS _ _) ?_
 rintro _ wu ⟨s1, rfl, hn⟩
 refine Ra z<|Wn<|Wq<|Ws<|Rm z<|R z (lss z z)<|Wn<|Wc z (fun hc6 => ?_) (fun hc6 => ?_)
 ·refine Ws<|Ra z<|Wn ?_
  obtain rfl := som (ifT hmb hc6)
  exact Wr<|ret1 hr z ⟨(bup h0 s1), z, (ii z)⟩
 refine Wk<|Ws<|R z (fd f_151_5 z) ?_
 have hc := h4.e s1
 refine R z (l1 g_41 z fid<|hc.at z)<|Rm z ?_
 have hd := lt_ h0.s s1.s
 obtain ⟨rv, em, hme⟩ := bdS (ifF hmb hc6)
 refine E z (fc call160 z<|W_w1x (B := B) em (lt_ hBw hd) ((p1_5.e h0).e s1) hn) ?_
 rintro _ ww ⟨s2, rfl, ho⟩
 refine Ra z<|Wn<|Wq<|Ws<|Rm z<|R z (lss z z)<|Wn<|Wc z (fun hc7 => ?_) (fun hc7 => ?_)
 ·refine Ws<|Ra z<|Wn ?_
  obtain rfl := som (ifT hme hc7)
  exact Wr<|ret1 hr z ⟨(bup (bup h0 s1) s2), z, (ii z)⟩
 refine Wk<|Ws<|R z (fd f_151_6 z) ?_
 have hf := hc.e s2
 refine R z (l1 g_142 z fid<|hf.at z)<|Rm z ?_
 have hg := lt_ hd s2.s
 obtain ⟨rx, ep, hmh⟩ := bdS (ifF hme hc7)
 refine E z (fc call161 z<|W_w0r (B := B) ep (lt_ hBw hg) (((p1_6.e h0).e s1).e s2) ho) ?_
 rintro _ wy ⟨s3, rfl, hq⟩
 refine Ra z<|Wn<|Wq<|Ws<|Rm z<|R z (lss z z)<|Wn<|Wc z (fun hc8 => ?_) (fun hc8 => ?_)
 ·refine Ws<|Ra z<|Wn ?_
  obtain rfl := som (ifT hmh hc8)
  exact Wr<|ret1 hr z ⟨(bup (bup (bup h0 s1) s2) s3), z, (ii z)⟩
 refine Wk<|Ws<|R z (fd f_151_7 z)<|R z (l1 g_142 z fid<|(hf.e s3).at z)<|Rm z ?_
 obtain ⟨rz, er, hmi⟩ := bdS (ifF hmh hc8)
 refine E z (fc call161 z<|W_w0r (B := B) er (lt_ hBw<|lt_ hg s3.s) ((((p1_7.e h0).e s1).e s2).e s3) hq) ?_
 rintro _ w10 ⟨sj, rfl, ht⟩
 refine Ra z<|Wn<|Wq<|Ws<|Rm z<|R z (lss z z)<|Wn<|Wc z (fun hc9 => ?_) (fun hc9 => ?_)
 ·refine Ws<|Ra z<|Wn ?_
  obtain rfl := som (ifT hmi hc9)
  exact Wr<|ret1 hr z ⟨(bup (bup (bup (bup h0 s1) s2) s3) sj), z, (ii z)⟩
 refine Wk<|Ws<|Rm z<|Ra z<|Wn ?_
 obtain rfl := som (ifF hmi hc9)
 exact Wr<|ret1 hr z ⟨(bup (bup (bup (bup h0 s1) s2) s3) sj), z, ht⟩
theorem W_w1z {x1 : List Rule} {x2 : Int} {res : Int} (hm : M_laws_szRuleS x1 x2 = some res) (hBw : B ≤ w0.z) (p1_0 : repS w0 B (sl A0 N0 C0) x1) (p2_0 : inI x2) : CallsR prog 123 [sl A0 N0 C0, vI x2] w0 (Q0 w0 B res) := by
 unfold M_laws_szRuleS at hm
 refine goF func123 z z (lb z) fun fn hr => Ws<|Ra z<|Wn<|Ws<|Rm z<|Rm z<|R z (lnR d_108 z p1_0)<|R z (sb_ z z)<|Ra z<|Wn<|Wq<|Ws<|Rm z<|R z (lss z z)<|Wn<|Wc z (fun hc3 => ?_) (fun hc3 => ?_)
 ·refine Ws<|Ra z<|Wn ?_
  obtain rfl := som (ifT hm hc3)
  exact Wr<|ret1 hr z ⟨(br w0), z, (ii z)⟩
 refine Wk<|Wq<|Ws<|Ra z<|Wn ?_
 obtain ⟨u1c, huc, hm5⟩ := bdS (ifF hm hc3)
 refine Wf (σ := Int) (ρ := Int) (fun (k6 : Nat) (x0 : Int) a w => Sat 27 [(0, sl A0 N0 C0), (1, vI x0), (5, (vI ((k6 : Nat) : Int)))] a ∧ Below w0.z w0 w ∧ inI x0) (fun (x0 : Int) a w => Sat 27 [(1, vI x0)] a ∧ Below w0.z w0 w ∧ inI x0) (fun r ex a w => ex = .ret ∧ RetPost prog fn (Q0 w0 B r) a w) huc ?_ ?_ ?_ ?_ ?_
 ·exact fun _ q => ⟨(q.k<|s3 z z z), (br w0), (iS _ _)⟩
 ·rintro k6 x0 a1d w1e o1f hk7 ⟨hSd, s2, h1⟩ hme
  refine Wu ?_ hSd
  refine Wq<|Ws<|Rm z<|Rm z ?_
  have h8 := p1_0.e s2
  refine R z (lnR d_108 z h8)<|R z (lss z z)<|Wn<|Wc z (fun _ => ?_) (fun hc => (nolt hk7 hc).elim)
  refine Wk<|Wq<|Wb<|Ws<|Rm z<|Rm z ?_
  obtain ⟨xf, eg, hmh⟩ := bdS hme
  refine RX z (at_ (α := Rule) d_108 z_151 z z z h8 eg) ?_
  rintro _ ⟨b1g, o1h, cs1i, rfl, hi, hj, h1j⟩
  obtain ⟨ak, nl, cm, an, no, cp, aq, nr, cs, au, nt, cv, rfl, hw, hx, hy, hz, h10, h11, h12⟩ := Rule_open hj
  refine R z (lN (vs := (vR xf ak nl cm an no cp aq nr cs au nt cv)) g_151 z_151 z z fid hi)<|Rm z ?_
  obtain ⟨r13, e14, hm9⟩ := bdS hmh
  refine E z (fc call144 z<|W_w1y (B := B) e14 (lt_ hBw s2.s) hw hx hy hz h10 h11 h12 h1) ?_
  rintro _ w1k ⟨sa, rfl, h15⟩
  refine Ra z<|Wn<|Ws<|Rm z<|R z (lss z z)<|Wn<|Wc z (fun hc4 => ?_) (fun hc4 => ?_)
  ·exact Ws<|Ra z<|Wn<|Wr<|rtO<|qL (som<|ifT hm9 hc4).symm<|ret1 hr z ⟨(bup s2 sa), z, (ii z)⟩
  exact Wk<|Wg<|Rm z<|R z (inc_ hk7 (lt_ (repS.len p1_0) LEN_le) z z)<|Ra z<|Wl (fun _ q => ⟨r13, (som<|ifF hm9 hc4).symm, ⟨(q.k<|s3 z z z), (bup s2 sa), h15⟩⟩)
 ·rintro x0 a1l w1m ⟨hS16, sb, h1⟩
  refine Wu ?_ hS16
  refine Wq<|Ws<|Rm z<|Rm z<|R z (lnR d_108 z<|p1_0.e sb)<|R z (lss z z)<|Wn<|Wc z (fun hc => (noltt hc).elim) (fun _ => ?_)
  exact We (fun a' ha' => ⟨rfl, ⟨(Sat.weaken ha'<|s1 z), sb, h1⟩⟩)
 ·rintro x0 a17 w1n rfl ⟨hS1o, s18, h1⟩
  have hm19 := elL hm5
  revert a17
  refine Wo<|Ws<|Rm z<|Ra z<|Wn ?_
  obtain rfl := som hm19
  exact Wr<|ret1 hr z ⟨s18, z, h1⟩
 rintro r1p ex1q a1r w1s rfl ⟨rfl, hq1a⟩
 have hm1b := elR hm5
 obtain rfl := som hm1b
 exact ⟨hq1a, z⟩
theorem W_w20 {x1 : Desc} {x2 : Int} {res : Int} (hm : M_laws_szDescription x1 x2 = some res) (hBw : B ≤ w0.z) (p1_0 : repS w0 B (sl A0 N0 C0) x1.rules) (p2_0 : inI x2) : CallsR prog 96 [(.agg #[sl A0 N0 C0]), vI x2] w0 (Q0 w0 B res) := by
 unfold M_laws_szDescription at hm
 refine goF func96 z z (lb z) fun fn hr => Ws<|E z (fb z) ?_
 rintro _ w5 ⟨rfl, h2⟩
 have h0 := h2.below
 have h6 : Blk w5 w0.z [sl A0 N0 C0] := h2.blk
 refine Ra z<|Wn<|Ws<|R z (fd f_110_0 z)<|R z (l1 g_108 z fid<|h6.at z)<|Rm z ?_
 obtain ⟨r9, e7, hm3⟩ := bdS hm
 refine E z (fc call123 z<|W_w1z (B := B) e7 (lt_ hBw h0.s) (p1_0.e h0) p2_0) ?_
 rintro _ wa ⟨s4, rfl, h8⟩
 refine Ra z<|Wn<|Wq<|Ws<|Rm z<|R z (lss z z)<|Wn<|Wc z (fun hc1 => ?_) (fun hc1 => ?_)
 ·refine Ws<|Ra z<|Wn ?_
  obtain rfl := som (ifT hm3 hc1)
  exact Wr<|ret1 hr z ⟨(bup h0 s4), z, (ii z)⟩
 refine Wk<|Ws<|Rm z<|Ra z<|Wn ?_
 obtain rfl := som (ifF hm3 hc1)
 exact Wr<|ret1 hr z ⟨(bup h0 s4), z, h8⟩
theorem W_w21 {x1 : List Desc} {x2 : Int} {res : Int} (hm : M_laws_szDescriptionS x1 x2 = some res) (hBw : B ≤ w0.z) (p1_0 : repS w0 B (sl A0 N0 C0) x1) (p2_0 : inI x2) : CallsR prog 63 [sl A0 N0 C0, vI x2] w0 (Q0 w0 B res) := by
 unfold M_laws_szDescriptionS at hm
 refine goF func63 z z (lb z) fun fn hr => Ws<|Ra z<|Wn<|Ws<|Rm z<|Rm z<|R z (lnR d_22 z p1_0)<|R z (sb_ z z)<|Ra z<|Wn<|Wq<|Ws<|Rm z<|R z (lss z z)<|Wn<|Wc z (fun hc3 => ?_) (fun hc3 => ?_)
 ·refine Ws<|Ra z<|Wn ?_
  obtain rfl := som (ifT hm hc3)
  exact Wr<|ret1 hr z ⟨(br w0), z, (ii z)⟩
 refine Wk<|Wq<|Ws<|Ra z<|Wn ?_
 obtain ⟨uw, huc, hm5⟩ := bdS (ifF hm hc3)
 refine Wf (σ := Int) (ρ := Int) (fun (k6 : Nat) (x0 : Int) a w => Sat 27 [(0, sl A0 N0 C0), (1, vI x0), (5, (vI ((k6 : Nat) : Int)))] a ∧ Below w0.z w0 w ∧ inI x0) (fun (x0 : Int) a w => Sat 27 [(1, vI x0)] a ∧ Below w0.z w0 w ∧ inI x0) (fun r ex a w => ex = .ret ∧ RetPost prog fn (Q0 w0 B r) a w) huc ?_ ?_ ?_ ?_ ?_
 ·exact fun _ q => ⟨(q.k<|s3 z z z), (br w0), (iS _ _)⟩
 ·rintro k6 x0 ax wy oz hk7 ⟨hSd, s2, h1⟩ hme
  refine Wu ?_ hSd
  refine Wq<|Ws<|Rm z<|Rm z ?_
  have h8 := p1_0.e s2
  refine R z (lnR d_22 z h8)<|R z (lss z z)<|Wn<|Wc z (fun _ => ?_) (fun hc => (nolt hk7 hc).elim)
  refine Wk<|Wq<|Wb<|Ws<|Rm z<|Rm z ?_
  obtain ⟨x10, ef, hmg⟩ := bdS hme
  refine RX z (at_ (α := Desc) d_22 z_110 z z z h8 ef) ?_
  rintro _ ⟨b11, o12, cs13, rfl, hh, hi, h14⟩
  obtain ⟨aj, nk, cl, rfl, hn⟩ := Desc_open hi
  refine R z (lN (vs := [sl aj nk cl]) g_110 z_110 z z fid hh)<|Rm z ?_
  obtain ⟨rm, eo, hm9⟩ := bdS hmg
  refine E z (fc call96 z<|W_w20 (B := B) eo (lt_ hBw s2.s) hn h1) ?_
  rintro _ w15 ⟨sa, rfl, hp⟩
  refine Ra z<|Wn<|Ws<|Rm z<|R z (lss z z)<|Wn<|Wc z (fun hc4 => ?_) (fun hc4 => ?_)
  ·exact Ws<|Ra z<|Wn<|Wr<|rtO<|qL (som<|ifT hm9 hc4).symm<|ret1 hr z ⟨(bup s2 sa), z, (ii z)⟩
  exact Wk<|Wg<|Rm z<|R z (inc_ hk7 (lt_ (repS.len p1_0) LEN_le) z z)<|Ra z<|Wl (fun _ q => ⟨rm, (som<|ifF hm9 hc4).symm, ⟨(q.k<|s3 z z z), (bup s2 sa), hp⟩⟩)
 ·rintro x0 a16 w17 ⟨hSq, sb, h1⟩
  refine Wu ?_ hSq
  refine Wq<|Ws<|Rm z<|Rm z<|R z (lnR d_22 z<|p1_0.e sb)<|R z (lss z z)<|Wn<|Wc z (fun hc => (noltt hc).elim) (fun _ => ?_)
  exact We (fun a' ha' => ⟨rfl, ⟨(Sat.weaken ha'<|s1 z), sb, h1⟩⟩)
 ·rintro x0 ar w18 rfl ⟨hS19, ss, h1⟩
  have hmt := elL hm5
  revert ar
  refine Wo<|Ws<|Rm z<|Ra z<|Wn ?_
  obtain rfl := som hmt
  exact Wr<|ret1 hr z ⟨ss, z, h1⟩
 rintro r1a ex1b a1c w1d rfl ⟨rfl, hqu⟩
 have hmv := elR hm5
 obtain rfl := som hmv
 exact ⟨hqu, z⟩
theorem W_w22 {x1 : Registry} {x2 : Int} {res : Int} (hm : M_laws_szRegistry x1 x2 = some res) (hBw : B ≤ w0.z) (p1_0 : repS w0 B (sl A0 N0 C0) x1.versions) (p2_0 : inI x2) : CallsR prog 32 [(.agg #[sl A0 N0 C0]), vI x2] w0 (Q0 w0 B res) := by
 unfold M_laws_szRegistry at hm
 refine goF func32 z z (lb z) fun fn hr => Ws<|E z (fb z) ?_
 rintro _ w5 ⟨rfl, h2⟩
 have h0 := h2.below
 have h6 : Blk w5 w0.z [sl A0 N0 C0] := h2.blk
 refine Ra z<|Wn<|Ws<|R z (fd f_24_0 z)<|R z (l1 g_22 z fid<|h6.at z)<|Rm z ?_
 obtain ⟨r9, e7, hm3⟩ := bdS hm
 refine E z (fc call63 z<|W_w21 (B := B) e7 (lt_ hBw h0.s) (p1_0.e h0) p2_0) ?_
 rintro _ wa ⟨s4, rfl, h8⟩
 refine Ra z<|Wn<|Wq<|Ws<|Rm z<|R z (lss z z)<|Wn<|Wc z (fun hc1 => ?_) (fun hc1 => ?_)
 ·refine Ws<|Ra z<|Wn ?_
  obtain rfl := som (ifT hm3 hc1)
  exact Wr<|ret1 hr z ⟨(bup h0 s4), z, (ii z)⟩
 refine Wk<|Ws<|Rm z<|Ra z<|Wn ?_
 obtain rfl := som (ifF hm3 hc1)
 exact Wr<|ret1 hr z ⟨(bup h0 s4), z, h8⟩
theorem W_w23 {x1 : Log} {x2 : Int} {res : Int} (hm : M_laws_szLog x1 x2 = some res) (hBw : B ≤ w0.z) (p1_0 : repS w0 B (sl A0 N0 C0) x1.bytes) (p1_1 : inI x1.stored) (p2_0 : inI x2) : CallsR prog 33 [(.agg #[sl A0 N0 C0, vI x1.stored]), vI x2] w0 (Q0 w0 B res) := by
 unfold M_laws_szLog at hm
 refine goF func33 z z (lb z) fun fn hr => Ws<|E z (fb z) ?_
 rintro _ w5 ⟨rfl, h2⟩
 have h0 := h2.below
 have h6 : Blk w5 w0.z [sl A0 N0 C0, vI x1.stored] := h2.blk
 refine Ra z<|Wn<|Ws<|R z (fd f_27_0 z)<|R z (l1 g_25 z fid<|h6.at z)<|Rm z ?_
 obtain ⟨r9, e7, hm3⟩ := bdS hm
 refine E z (fc call64 z<|W_w0q (B := B) e7 (lt_ hBw h0.s) (p1_0.e h0) p2_0) ?_
 rintro _ wa ⟨s4, rfl, h8⟩
 refine Ra z<|Wn<|Wq<|Ws<|Rm z<|R z (lss z z)<|Wn<|Wc z (fun hc1 => ?_) (fun hc1 => ?_)
 ·refine Ws<|Ra z<|Wn ?_
  obtain rfl := som (ifT hm3 hc1)
  exact Wr<|ret1 hr z ⟨(bup h0 s4), z, (ii z)⟩
 refine Wk<|Ws<|Rm z<|Ra z<|Wn ?_
 obtain rfl := som (ifF hm3 hc1)
 exact Wr<|ret1 hr z ⟨(bup h0 s4), z, h8⟩
theorem W_w24 {x1 : Archive} {x2 : Int} {res : Int} (hm : M_laws_szArchive x1 x2 = some res) (hBw : B ≤ w0.z) (p1_0 : repS w0 B (sl A0 N0 C0) x1.registry.versions) (p1_1 : repS w0 B (sl A1 N1 C1) x1.log.bytes) (p1_2 : inI x1.log.stored) (p2_0 : inI x2) : CallsR prog 9 [(.agg #[sl A0 N0 C0, sl A1 N1 C1, vI x1.log.stored]), vI x2] w0 (Q0 w0 B res) := by
 unfold M_laws_szArchive at hm
 refine goF func9 z z (lb z) fun fn hr => Ws<|E z (fb z) ?_
 rintro _ w9 ⟨rfl, h4⟩
 have h0 := h4.below
 have h5 : Blk w9 w0.z [sl A0 N0 C0, sl A1 N1 C1, vI x1.log.stored] := h4.blk
 refine Ra z<|Wn<|Ws<|R z (fd f_29_0 z)<|R z (lN (vs := [sl A0 N0 C0]) g_24 z_24 z z fid<|h5.row 0 1 z)<|Rm z ?_
 obtain ⟨re, ea, hm6⟩ := bdS hm
 refine E z (fc call32 z<|W_w22 (B := B) (x1 := (⟨x1.registry.versions⟩ : Registry)) ea (lt_ hBw h0.s) (p1_0.e h0) p2_0) ?_
 rintro _ wf ⟨s1, rfl, hb⟩
 refine Ra z<|Wn<|Wq<|Ws<|Rm z<|R z (lss z z)<|Wn<|Wc z (fun hc2 => ?_) (fun hc2 => ?_)
 ·refine Ws<|Ra z<|Wn ?_
  obtain rfl := som (ifT hm6 hc2)
  exact Wr<|ret1 hr z ⟨(bup h0 s1), z, (ii z)⟩
 refine Wk<|Ws<|R z (fd f_29_1 z)<|R z (lN (vs := [sl A1 N1 C1, vI x1.log.stored]) g_27 z_27 z z fid<|(h5.e s1).row 1 2 z)<|Rm z ?_
 obtain ⟨rg, ec, hm7⟩ := bdS (ifF hm6 hc2)
 refine E z (fc call33 z<|W_w23 (B := B) (x1 := (⟨x1.log.bytes, x1.log.stored⟩ : Log)) ec (lt_ hBw<|lt_ h0.s s1.s) ((p1_1.e h0).e s1) p1_2 hb) ?_
 rintro _ wh ⟨s8, rfl, hd⟩
 refine Ra z<|Wn<|Wq<|Ws<|Rm z<|R z (lss z z)<|Wn<|Wc z (fun hc3 => ?_) (fun hc3 => ?_)
 ·refine Ws<|Ra z<|Wn ?_
  obtain rfl := som (ifT hm7 hc3)
  exact Wr<|ret1 hr z ⟨(bup (bup h0 s1) s8), z, (ii z)⟩
 refine Wk<|Ws<|Rm z<|Ra z<|Wn ?_
 obtain rfl := som (ifF hm7 hc3)
 exact Wr<|ret1 hr z ⟨(bup (bup h0 s1) s8), z, hd⟩
def Q1 (w0 : World) (B : Nat) (r : (List UInt8)) (v : Value) (w' : World) : Prop := Bw w0 w' ∧ (fun r1 => ∃ a1 n1 c1 S1, (sl a1 n1 c1) = v ∧ ownS w' S1 (sl a1 n1 c1) r1 ∧ S1.Nodup ∧ (∀ k ∈ S1, w0.z ≤ k)) r
theorem W_w07 {x1 : List UInt8} {res : (List UInt8)} (hm : M_laws_toByteS x1 = some res) (hBw : B ≤ w0.z) (p1_0 : repS w0 B (sl A0 N0 C0) x1) : CallsR prog 24 [sl A0 N0 C0] w0 (Q1 w0 B res) := by
 unfold M_laws_toByteS at hm
 refine goF func24 z z (lb z) fun fn hr => Ws<|Ra z<|Wn<|Ws<|Rm z<|R z (lnR d_25 z p1_0) ?_
 obtain ⟨x1f, ej, hmk⟩ := bdS hm
 refine E z (ef_makeN (α := UInt8) el_25 (fun _ => UInt8_own0) ej z z) ?_
 rintro _ w1 ⟨a4, n5, c6, rfl, s9, hl⟩
 refine Ra z<|Wn<|Wq<|Ws<|Ra z<|Wn ?_
 obtain ⟨u1g, hum, hmb⟩ := bdS hmk
 refine Wf (σ := (List UInt8)) (ρ := (List UInt8)) (fun (kc : Nat) (x2 : List UInt8) a w => ∃  (S0 : List Nat), Sat 22 [(0, sl A0 N0 C0), (3, sl a4 n5 c6), (4, (vI ((kc : Nat) : Int)))] a ∧ Chg (· ∈ [w0.z]) w1 w ∧ ownS w S0 (sl a4 n5 c6) x2 ∧ S0.Nodup ∧ (∀ k ∈ S0, k ∈ [w0.z] ∨ w1.z ≤ k)) (fun (x2 : List UInt8) a w => ∃  (S0 : List Nat), Sat 22 [(3, sl a4 n5 c6)] a ∧ Chg (· ∈ [w0.z]) w1 w ∧ ownS w S0 (sl a4 n5 c6) x2 ∧ S0.Nodup ∧ (∀ k ∈ S0, k ∈ [w0.z] ∨ w1.z ≤ k)) (fun r ex a w => ex = .ret ∧ RetPost prog fn (Q1 w0 B r) a w) hum ?_ ?_ ?_ ?_ ?_
 ·exact fun _ q => ⟨[w0.z], (q.k<|s3 z z z), (cr [w0.z] w1), hl, nd_one, (io sr)⟩
 ·rintro kc x2 a1h wn o1i hkd ⟨S0, hSo, sa, h3, h7, h8⟩ hmp
  refine Wu ?_ hSo
  refine Wq<|Ws<|Rm z<|Rm z ?_
  have he := (p1_0.e s9).c sa<|lg<|m1 hBw
  refine R z (lnR d_25 z he)<|R z (lss z z)<|Wn<|Wc z (fun _ => ?_) (fun hc => (nolt hkd hc).elim)
  refine Wk<|Wq<|Wb<|Wg<|Rm z<|Rm z<|Rm z<|Rm z ?_
  obtain ⟨x1j, eq, hmr⟩ := bdS hmp
  refine RX z (at_ (α := UInt8) d_25 z_5 z z z he eq) ?_
  rintro _ ⟨b1k, o1l, cs1m, rfl, ht, hu, h1n⟩
  obtain rfl := u8 hu
  refine R z (l1 g_5 z fid<|ht.at0 z) ?_
  obtain ⟨xs, ef, hmv⟩ := bdS hmr
  refine RX z (rd_atU (α := UInt8) d_25 z_5 z z h3 ef) ?_
  rintro _ ⟨g1o, hw, rfl⟩
  refine E0 (ef_setN (α := UInt8) z_5 z hw z z z ef h3 h7 UInt8_own an_ nd_nil) ?_
  rintro _ wx ⟨Sg, sy, hz, h10, h11⟩
  refine Wn<|Wg<|Rm z<|R z (inc_ hkd (lt_ (repS.len p1_0) LEN_le) z z)<|Ra z<|Wl ?_
  have hh : ∀ k ∈ S0, k ∈ [w0.z] ∨ w1.z ≤ k := or1 h8 (io sr) (leor lr)
  have h12 : ∀ k ∈ Sg, k ∈ [w0.z] ∨ w1.z ≤ k := or2 h11 hh an_ (leor sa.s)
  have h13 : Chg (· ∈ [w0.z]) w1 wn := cM (cr [w0.z] w1) sa (io sr)
  have h14 : Chg (· ∈ [w0.z]) w1 wx := cM h13 sy hh
  exact fun _ q => ⟨xs, (som hmv).symm, ⟨Sg, (q.k<|s3 z z z), h14, hz, h10, h12⟩⟩
 ·rintro x2 a1p w15 ⟨S0, hS16, si, h3, h7, h8⟩
  refine Wu ?_ hS16
  refine Wq<|Ws<|Rm z<|Rm z<|R z (lnR d_25 z<|(p1_0.e s9).c si<|lg<|m1 hBw)<|R z (lss z z)<|Wn<|Wc z (fun hc => (noltt hc).elim) (fun _ => ?_)
  have h17 : ∀ k ∈ S0, k ∈ [w0.z] ∨ w1.z ≤ k := or1 h8 (io sr) (leor lr)
  have h18 : Chg (· ∈ [w0.z]) w1 w15 := cM (cr [w0.z] w1) si (io sr)
  exact We (fun a' ha' => ⟨rfl, ⟨S0, (Sat.weaken ha'<|s1 z), h18, h3, h7, h17⟩⟩)
 ·rintro x2 a19 w1q rfl ⟨S0, hS1r, s1a, h3, h7, h8⟩
  have hm1b := elL hmb
  revert a19
  refine Wo<|Ws<|Rm z<|Ra z<|Wn ?_
  obtain rfl := som hm1b
  have h1c : ∀ k ∈ S0, w0.z ≤ k := or1 h8 (mem1 lr) (lele s9.s)
  exact Wr<|ret1 hr z ⟨(bM s9 s1a<|mem1 lr), a4, n5, c6, S0, z, h3, h7, h1c⟩
 rintro r1s ex1t a1u w1v rfl ⟨rfl, hq1d⟩
 have hm1e := elR hmb
 obtain rfl := som hm1e
 exact ⟨hq1d, z⟩
def Q2 (w0 : World) (B : Nat) (r : (List Str)) (v : Value) (w' : World) : Prop := Bw w0 w' ∧ (fun r1 => ∃ a1 n1 c1 S1, (sl a1 n1 c1) = v ∧ ownS w' S1 (sl a1 n1 c1) r1 ∧ S1.Nodup ∧ (∀ k ∈ S1, w0.z ≤ k)) r
theorem W_w25 {x1 : List Str} {res : (List Str)} (hm : M_laws_toStringS x1 = some res) (hBw : B ≤ w0.z) (p1_0 : repS w0 B (sl A0 N0 C0) x1) : CallsR prog 174 [sl A0 N0 C0] w0 (Q2 w0 B res) := by
 unfold M_laws_toStringS at hm
 refine goF func174 z z (lb z) fun fn hr => Ws<|Ra z<|Wn<|Ws<|Rm z<|R z (lnR d_41 z p1_0) ?_
 obtain ⟨x1g, ej, hmk⟩ := bdS hm
 refine E z (ef_makeN (α := Str) el_41 (fun _ => (Str_own<|lb z)) ej z z) ?_
 rintro _ w1 ⟨a4, n5, c6, rfl, s9, hl⟩
 refine Ra z<|Wn<|Wq<|Ws<|Ra z<|Wn ?_
 obtain ⟨u1h, hum, hmb⟩ := bdS hmk
 refine Wf (σ := (List Str)) (ρ := (List Str)) (fun (kc : Nat) (x2 : List Str) a w => ∃  (S0 : List Nat), Sat 22 [(0, sl A0 N0 C0), (3, sl a4 n5 c6), (4, (vI ((kc : Nat) : Int)))] a ∧ Chg (· ∈ [w0.z]) w1 w ∧ ownS w S0 (sl a4 n5 c6) x2 ∧ S0.Nodup ∧ (∀ k ∈ S0, k ∈ [w0.z] ∨ w1.z ≤ k)) (fun (x2 : List Str) a w => ∃  (S0 : List Nat), Sat 22 [(3, sl a4 n5 c6)] a ∧ Chg (· ∈ [w0.z]) w1 w ∧ ownS w S0 (sl a4 n5 c6) x2 ∧ S0.Nodup ∧ (∀ k ∈ S0, k ∈ [w0.z] ∨ w1.z ≤ k)) (fun r ex a w => ex = .ret ∧ RetPost prog fn (Q2 w0 B r) a w) hum ?_ ?_ ?_ ?_ ?_
 ·exact fun _ q => ⟨[w0.z], (q.k<|s3 z z z), (cr [w0.z] w1), hl, nd_one, (io sr)⟩
 ·rintro kc x2 a1i wn o1j hkd ⟨S0, hSo, sa, h3, h7, h8⟩ hmp
  refine Wu ?_ hSo
  refine Wq<|Ws<|Rm z<|Rm z ?_
  have he := (p1_0.e s9).c sa<|lg<|m1 hBw
  refine R z (lnR d_41 z he)<|R z (lss z z)<|Wn<|Wc z (fun _ => ?_) (fun hc => (nolt hkd hc).elim)
  refine Wk<|Wq<|Wb<|Wg<|Rm z<|Rm z<|Rm z<|Rm z ?_
  obtain ⟨x1k, eq, hmr⟩ := bdS hmp
  refine RX z (at_ (α := Str) d_41 z_9 z z z he eq) ?_
  rintro _ ⟨b1l, o1m, cs1n, rfl, ht, hu, h1o⟩
  obtain ⟨rfl, hv⟩ := Str_open hu
  refine R z (l1 g_9 z fid<|ht.at0 z) ?_
  obtain ⟨xs, ef, hmw⟩ := bdS hmr
  refine RX z (rd_atU (α := Str) d_41 z_9 z z h3 ef) ?_
  rintro _ ⟨g1p, hx, rfl⟩
  refine E0 (ef_setN (α := Str) z_9 z hx z z z ef h3 h7 (Str_own hv) an_ nd_nil) ?_
  rintro _ wy ⟨Sg, sz, h10, h11, h12⟩
  refine Wn<|Wg<|Rm z<|R z (inc_ hkd (lt_ (repS.len p1_0) LEN_le) z z)<|Ra z<|Wl ?_
  have hh : ∀ k ∈ S0, k ∈ [w0.z] ∨ w1.z ≤ k := or1 h8 (io sr) (leor lr)
  have h13 : ∀ k ∈ Sg, k ∈ [w0.z] ∨ w1.z ≤ k := or2 h12 hh an_ (leor sa.s)
  have h14 : Chg (· ∈ [w0.z]) w1 wn := cM (cr [w0.z] w1) sa (io sr)
  have h15 : Chg (· ∈ [w0.z]) w1 wy := cM h14 sz hh
  exact fun _ q => ⟨xs, (som hmw).symm, ⟨Sg, (q.k<|s3 z z z), h15, h10, h11, h13⟩⟩
 ·rintro x2 a1q w16 ⟨S0, hS17, si, h3, h7, h8⟩
  refine Wu ?_ hS17
  refine Wq<|Ws<|Rm z<|Rm z<|R z (lnR d_41 z<|(p1_0.e s9).c si<|lg<|m1 hBw)<|R z (lss z z)<|Wn<|Wc z (fun hc => (noltt hc).elim) (fun _ => ?_)
  have h18 : ∀ k ∈ S0, k ∈ [w0.z] ∨ w1.z ≤ k := or1 h8 (io sr) (leor lr)
  have h19 : Chg (· ∈ [w0.z]) w1 w16 := cM (cr [w0.z] w1) si (io sr)
  exact We (fun a' ha' => ⟨rfl, ⟨S0, (Sat.weaken ha'<|s1 z), h19, h3, h7, h18⟩⟩)
 ·rintro x2 a1a w1r rfl ⟨S0, hS1s, s1b, h3, h7, h8⟩
  have hm1c := elL hmb
  revert a1a
  refine Wo<|Ws<|Rm z<|Ra z<|Wn ?_
  obtain rfl := som hm1c
  have h1d : ∀ k ∈ S0, w0.z ≤ k := or1 h8 (mem1 lr) (lele s9.s)
  exact Wr<|ret1 hr z ⟨(bM s9 s1b<|mem1 lr), a4, n5, c6, S0, z, h3, h7, h1d⟩
 rintro r1t ex1u a1v w1w rfl ⟨rfl, hq1e⟩
 have hm1f := elR hmb
 obtain rfl := som hm1f
 exact ⟨hq1e, z⟩
def Q3 (w0 : World) (B : Nat) (r : (List Int)) (v : Value) (w' : World) : Prop := Bw w0 w' ∧ (fun r1 => ∃ a1 n1 c1 S1, (sl a1 n1 c1) = v ∧ ownS w' S1 (sl a1 n1 c1) r1 ∧ S1.Nodup ∧ (∀ k ∈ S1, w0.z ≤ k)) r
theorem W_w0s {x1 : List Int} {res : (List Int)} (hm : M_laws_toIntS x1 = some res) (hBw : B ≤ w0.z) (p1_0 : repS w0 B (sl A0 N0 C0) x1) : CallsR prog 175 [sl A0 N0 C0] w0 (Q3 w0 B res) := by
 unfold M_laws_toIntS at hm
 refine goF func175 z z (lb z) fun fn hr => Ws<|Ra z<|Wn<|Ws<|Rm z<|R z (lnR d_142 z p1_0) ?_
 obtain ⟨x1g, ej, hmk⟩ := bdS hm
 refine E z (ef_makeN (α := Int) el_142 (fun _ => (Int_own<|ii z)) ej z z) ?_
 rintro _ w1 ⟨a4, n5, c6, rfl, s9, hl⟩
 refine Ra z<|Wn<|Wq<|Ws<|Ra z<|Wn ?_
 obtain ⟨u1h, hum, hmb⟩ := bdS hmk
 refine Wf (σ := (List Int)) (ρ := (List Int)) (fun (kc : Nat) (x2 : List Int) a w => ∃  (S0 : List Nat), Sat 22 [(0, sl A0 N0 C0), (3, sl a4 n5 c6), (4, (vI ((kc : Nat) : Int)))] a ∧ Chg (· ∈ [w0.z]) w1 w ∧ ownS w S0 (sl a4 n5 c6) x2 ∧ S0.Nodup ∧ (∀ k ∈ S0, k ∈ [w0.z] ∨ w1.z ≤ k)) (fun (x2 : List Int) a w => ∃  (S0 : List Nat), Sat 22 [(3, sl a4 n5 c6)] a ∧ Chg (· ∈ [w0.z]) w1 w ∧ ownS w S0 (sl a4 n5 c6) x2 ∧ S0.Nodup ∧ (∀ k ∈ S0, k ∈ [w0.z] ∨ w1.z ≤ k)) (fun r ex a w => ex = .ret ∧ RetPost prog fn (Q3 w0 B r) a w) hum ?_ ?_ ?_ ?_ ?_
 ·exact fun _ q => ⟨[w0.z], (q.k<|s3 z z z), (cr [w0.z] w1), hl, nd_one, (io sr)⟩
 ·rintro kc x2 a1i wn o1j hkd ⟨S0, hSo, sa, h3, h7, h8⟩ hmp
  refine Wu ?_ hSo
  refine Wq<|Ws<|Rm z<|Rm z ?_
  have he := (p1_0.e s9).c sa<|lg<|m1 hBw
  refine R z (lnR d_142 z he)<|R z (lss z z)<|Wn<|Wc z (fun _ => ?_) (fun hc => (nolt hkd hc).elim)
  refine Wk<|Wq<|Wb<|Wg<|Rm z<|Rm z<|Rm z<|Rm z ?_
  obtain ⟨x1k, eq, hmr⟩ := bdS hmp
  refine RX z (at_ (α := Int) d_142 z_3 z z z he eq) ?_
  rintro _ ⟨b1l, o1m, cs1n, rfl, ht, hu, h1o⟩
  obtain ⟨rfl, hv⟩ := Int_open hu
  refine R z (l1 g_3 z fid<|ht.at0 z) ?_
  obtain ⟨xs, ef, hmw⟩ := bdS hmr
  refine RX z (rd_atU (α := Int) d_142 z_3 z z h3 ef) ?_
  rintro _ ⟨g1p, hx, rfl⟩
  refine E0 (ef_setN (α := Int) z_3 z hx z z z ef h3 h7 (Int_own hv) an_ nd_nil) ?_
  rintro _ wy ⟨Sg, sz, h10, h11, h12⟩
  refine Wn<|Wg<|Rm z<|R z (inc_ hkd (lt_ (repS.len p1_0) LEN_le) z z)<|Ra z<|Wl ?_
  have hh : ∀ k ∈ S0, k ∈ [w0.z] ∨ w1.z ≤ k := or1 h8 (io sr) (leor lr)
  have h13 : ∀ k ∈ Sg, k ∈ [w0.z] ∨ w1.z ≤ k := or2 h12 hh an_ (leor sa.s)
  have h14 : Chg (· ∈ [w0.z]) w1 wn := cM (cr [w0.z] w1) sa (io sr)
  have h15 : Chg (· ∈ [w0.z]) w1 wy := cM h14 sz hh
  exact fun _ q => ⟨xs, (som hmw).symm, ⟨Sg, (q.k<|s3 z z z), h15, h10, h11, h13⟩⟩
 ·rintro x2 a1q w16 ⟨S0, hS17, si, h3, h7, h8⟩
  refine Wu ?_ hS17
  refine Wq<|Ws<|Rm z<|Rm z<|R z (lnR d_142 z<|(p1_0.e s9).c si<|lg<|m1 hBw)<|R z (lss z z)<|Wn<|Wc z (fun hc => (noltt hc).elim) (fun _ => ?_)
  have h18 : ∀ k ∈ S0, k ∈ [w0.z] ∨ w1.z ≤ k := or1 h8 (io sr) (leor lr)
  have h19 : Chg (· ∈ [w0.z]) w1 w16 := cM (cr [w0.z] w1) si (io sr)
  exact We (fun a' ha' => ⟨rfl, ⟨S0, (Sat.weaken ha'<|s1 z), h19, h3, h7, h18⟩⟩)
 ·rintro x2 a1a w1r rfl ⟨S0, hS1s, s1b, h3, h7, h8⟩
  have hm1c := elL hmb
  revert a1a
  refine Wo<|Ws<|Rm z<|Ra z<|Wn ?_
  obtain rfl := som hm1c
  have h1d : ∀ k ∈ S0, w0.z ≤ k := or1 h8 (mem1 lr) (lele s9.s)
  exact Wr<|ret1 hr z ⟨(bM s9 s1b<|mem1 lr), a4, n5, c6, S0, z, h3, h7, h1d⟩
 rintro r1t ex1u a1v w1w rfl ⟨rfl, hq1e⟩
 have hm1f := elR hmb
 obtain rfl := som hm1f
 exact ⟨hq1e, z⟩
def Q4 (w0 : World) (B : Nat) (r : Rule) (v : Value) (w' : World) : Prop := Bw w0 w' ∧ (fun r1 => ∃ a1 n1 c1 S1 a2 n2 c2 S2 a3 n3 c3 S3 a4 n4 c4 S4, (.agg #[Str.v r1.name, vI r1.kind, vI r1.size, vB r1.little, sl a1 n1 c1, sl a2 n2 c2, sl a3 n3 c3, sl a4 n4 c4]) = v ∧ r1.name.b.length ≤ LEN ∧ inI r1.kind ∧ inI r1.size ∧ ownS w' S1 (sl a1 n1 c1) r1.bytes ∧ ownS w' S2 (sl a2 n2 c2) r1.names ∧ ownS w' S3 (sl a3 n3 c3) r1.tags ∧ ownS w' S4 (sl a4 n4 c4) r1.kids ∧ (S1 ++ (S2 ++ (S3 ++ S4))).Nodup ∧ (∀ k ∈ (S1 ++ (S2 ++ (S3 ++ S4))), w0.z ≤ k)) r
theorem W_w26 {x1 : Rule} {res : Rule} (hm : M_laws_toRule x1 = some res) (hBw : B ≤ w0.z) (p1_0 : x1.name.b.length ≤ LEN) (p1_1 : inI x1.kind) (p1_2 : inI x1.size) (p1_4 : repS w0 B (sl AB NB CB) x1.bytes) (p1_5 : repS w0 B (sl A7 N7 C7) x1.names) (p1_6 : repS w0 B (sl AA NA CA) x1.tags) (p1_7 : repS w0 B (sl A8 N8 C8) x1.kids) : CallsR prog 148 [(.agg #[Str.v x1.name, vI x1.kind, vI x1.size, vB x1.little, sl AB NB CB, sl A7 N7 C7, sl AA NA CA, sl A8 N8 C8])] w0 (Q4 w0 B res) := by
 unfold M_laws_toRule at hm
 refine goF func148 z z (lb z) fun fn hr => Ws<|E z (fb z) ?_
 rintro _ w1a ⟨rfl, h1b⟩
 have hf := h1b.below
 have h1c : Blk w1a w0.z (vR x1 AB NB CB A7 N7 C7 AA NA CA A8 N8 C8) := h1b.blk
 refine E z (fa zero_144) ?_
 rintro _ w1d ⟨rfl, h1e⟩
 have hc := h1e.below
 have hk : Blk w1d w1a.z [(Str.v (⟨[]⟩ : Str)), vI 0, vI 0, vB false, sl none 0 0, sl none 0 0, sl none 0 0, sl none 0 0] := h1e.blk
 refine Wn<|Ws<|E z (fa zero_144) ?_
 rintro _ w1x ⟨rfl, h1f⟩
 have hb := h1f.below
 have ht : Blk w1x w1d.z [(Str.v (⟨[]⟩ : Str)), vI 0, vI 0, vB false, sl none 0 0, sl none 0 0, sl none 0 0, sl none 0 0] := h1f.blk
 refine Wn<|Ws<|R z (fd f_151_0 z) ?_
 have h1g := (h1c.e hc).e hb
 refine R z (l1 g_9 z fid<|h1g.at z)<|R z (fd f_144_0 z)<|E0 (fs (cur' := [Str.v x1.name, vI 0, vI 0, vB false, sl none 0 0, sl none 0 0, sl none 0 0, sl none 0 0]) z_9 z z ht z (lb z) (oA z) z) ?_
 rintro _ w31 ⟨h1y, s1z⟩
 have h6 := s1z.one
 refine Wn<|Ws<|R z (fd f_151_1 z) ?_
 have hg := mm1 h1c.lt hc.s
 have h1h := h1g.c h6<|djs hg
 refine R z (l1 g_3 z fid<|h1h.at z)<|R z (fd f_144_1 z)<|E0 (fs (cur' := [Str.v x1.name, vI x1.kind, vI 0, vB false, sl none 0 0, sl none 0 0, sl none 0 0, sl none 0 0]) z_3 z z h1y z (lb z) (oA z) z) ?_
 rintro _ w32 ⟨h20, s21⟩
 have h7 := s21.one
 refine Wn<|Ws<|R z (fd f_151_2 z) ?_
 have h1i := h1h.c h7<|djs hg
 refine R z (l1 g_3 z fid<|h1i.at z)<|R z (fd f_144_2 z)<|E0 (fs (cur' := [Str.v x1.name, vI x1.kind, vI x1.size, vB false, sl none 0 0, sl none 0 0, sl none 0 0, sl none 0 0]) z_3 z z h20 z (lb z) (oA z) z) ?_
 rintro _ w33 ⟨h22, s23⟩
 have h8 := s23.one
 refine Wn<|Ws<|R z (fd f_151_3 z) ?_
 have h1j := h1i.c h8<|djs hg
 refine R z (l1 g_4 z fid<|h1j.at z)<|R z (fd f_144_3 z)<|E0 (fs (cur' := (vR x1 none 0 0 none 0 0 none 0 0 none 0 0)) z_4 z z h22 z (lb z) (oA z) z) ?_
 rintro _ w34 ⟨h24, s25⟩
 have h9 := s25.one
 refine Wn<|Ws<|R z (fd f_151_4 z) ?_
 have h1k := h1j.c h9<|djs hg
 refine R z (l1 g_25 z fid<|h1k.at z) ?_
 have h13 := lt_ hf.s hc.s
 have h0 := m1<|lt_ hBw h13
 have h14 := lt_ (lt_ (lt_ (lt_ (lt_ h13 hb.s) h6.s) h7.s) h8.s) h9.s
 obtain ⟨r35, e26, hm27⟩ := bdS hm
 refine E z (fc call24 z<|W_w07 (B := B) e26 (lt_ hBw h14)<|((((((p1_4.e hf).e hc).e hb).c h6<|lg h0).c h7<|lg h0).c h8<|lg h0).c h9<|lg h0) ?_
 rintro _ w36 ⟨sa, ah, ni, cj, S28, rfl, hx, h29, h15⟩
 refine R z (fd f_144_4 z)<|E0 (fs (cur' := (vR x1 ah ni cj none 0 0 none 0 0 none 0 0)) z_25 z z (h24.e sa) z (lb z) (oA z) z) ?_
 rintro _ w37 ⟨h2a, s2b⟩
 have h3 := s2b.one
 refine Wn<|Ws<|R z (fd f_151_5 z) ?_
 have h1l := (h1k.e sa).c h3<|djs hg
 refine R z (l1 g_41 z fid<|h1l.at z) ?_
 have h16 := lt_ (lt_ h14 sa.s) h3.s
 obtain ⟨r38, e2c, hm2d⟩ := bdS hm27
 refine E z (fc call174 z<|W_w25 (B := B) e2c (lt_ hBw h16)<|((((((((p1_5.e hf).e hc).e hb).c h6<|lg h0).c h7<|lg h0).c h8<|lg h0).c h9<|lg h0).e sa).c h3<|lg h0) ?_
 rintro _ w39 ⟨s5, al, nm, cn, S2e, rfl, h17, h2f, hy⟩
 refine R z (fd f_144_5 z)<|E0 (fs (cur' := (vR x1 ah ni cj al nm cn none 0 0 none 0 0)) z_41 z z (h2a.e s5) z (lb z) (oA z) z) ?_
 rintro _ w3a ⟨h2g, s2h⟩
 have h1 := s2h.one
 refine Wn<|Ws<|R z (fd f_151_6 z) ?_
 have h1m := (h1l.e s5).c h1<|djs hg
 refine R z (l1 g_142 z fid<|h1m.at z) ?_
 have h18 := lt_ (lt_ h16 s5.s) h1.s
 obtain ⟨r3b, e2i, hm2j⟩ := bdS hm2d
 refine E z (fc call175 z<|W_w0s (B := B) e2i (lt_ hBw h18)<|((((((((((p1_6.e hf).e hc).e hb).c h6<|lg h0).c h7<|lg h0).c h8<|lg h0).c h9<|lg h0).e sa).c h3<|lg h0).e s5).c h1<|lg h0) ?_
 rintro _ w3c ⟨s4, ar, ns, cu, S2k, rfl, h1n, h2l, hv⟩
 refine R z (fd f_144_6 z)<|E0 (fs (cur' := (vR x1 ah ni cj al nm cn ar ns cu none 0 0)) z_142 z z (h2g.e s4) z (lb z) (oA z) z) ?_
 rintro _ w3d ⟨h2m, s2n⟩
 have h2 := s2n.one
 refine Wn<|Ws<|R z (fd f_151_7 z)<|R z (l1 g_142 z fid<|((h1m.e s4).c h2<|djs hg).at z) ?_
 have h2o := ((((((((((((p1_7.e hf).e hc).e hb).c h6<|lg h0).c h7<|lg h0).c h8<|lg h0).c h9<|lg h0).e sa).c h3<|lg h0).e s5).c h1<|lg h0).e s4).c h2<|lg h0
 have h1o := lt_ (lt_ h18 s4.s) h2.s
 obtain ⟨r3e, e2p, hm2q⟩ := bdS hm2j
 refine E z (fc call175 z<|W_w0s (B := B) e2p (lt_ hBw h1o) h2o) ?_
 rintro _ w3f ⟨so, az, n10, c11, S2r, rfl, h2s, h2t, hp⟩
 refine R z (fd f_144_7 z)<|E0 (fs (cur' := (vR x1 ah ni cj al nm cn ar ns cu az n10 c11)) z_142 z z (h2m.e so) z (lb z) (oA z) z) ?_
 rintro _ w3g ⟨h2u, s2v⟩
 have hq := s2v.one
 refine Wn<|Ws<|R z (lN (vs := (vR x1 ah ni cj al nm cn ar ns cu az n10 c11)) g_144 z_144 z z fid<|h2u.row 0 8 z) ?_
 have hd := mmr hk.lt
 have h2w := ((((hk.e hb).c h6<|djs hd).c h7<|djs hd).c h8<|djs hd).c h9<|djs hd
 have h2x := (((((h2w.e sa).c h3<|djs hd).e s5).c h1<|djs hd).e s4).c h2<|djs hd
 refine E0 (fs (cur' := (vR x1 ah ni cj al nm cn ar ns cu az n10 c11)) z_144 z z ((h2x.e so).c hq<|djs hd) z (lb z) (oA z) z) ?_
 rintro _ w3h ⟨h2y, s2z⟩
 have hw := s2z.one
 refine Wn ?_
 obtain rfl := som hm2q
 have h1p := lt_ (lt_ (lt_ h6.s h7.s) h8.s) h9.s
 have h12 := o0n1 h15 ht.lt h1p
 have h1q := lt_ (lt_ (lt_ (lt_ hb.s h6.s) h7.s) h8.s) h9.s
 have h1r := lt_ (lt_ h1p sa.s) h3.s
 have h19 := o0n1 hy ht.lt h1r
 have h1s := lt_ (lt_ h1q sa.s) h3.s
 have h1t := lt_ (lt_ h1r s5.s) h1.s
 have h1u := o0n1 hv ht.lt h1t
 have h1v := lt_ (lt_ h1s s5.s) h1.s
 have he := m1 h13
 have h30 := bM (bup (bM (bup (bM (bup (bM (bup (bM (bM (bM (bM (bup (bup hf hc) hb) h6 he) h7 he) h8 he) h9 he) sa) h3 he) s5) h1 he) s4) h2 he) so) hq he
 have h1w := lt_ (lt_ h3.s s5.s) h1.s
 exact Wr<|ret1 hr (resC g_144 z_144 z h2y z) ⟨(bM h30 hw<|m1 hf.s), ah, ni, cj, S28, al, nm, cn, S2e, ar, ns, cu, S2k, az, n10, c11, S2r, z, p1_0, p1_1, p1_2, ((((((((hx.c h3 h12).e s5).c h1 h12).e s4).c h2 h12).e so).c hq h12).c hw<|o0n1 h15 hk.lt h1q), ((((((h17.c h1 h19).e s4).c h2 h19).e so).c hq h19).c hw<|o0n1 hy hk.lt h1s), ((((h1n.c h2 h1u).e so).c hq h1u).c hw<|o0n1 hv hk.lt h1v), ((h2s.c hq<|o0n1 hp ht.lt<|lt_ (lt_ h1t s4.s) h2.s).c hw<|o0n1 hp hk.lt<|lt_ (lt_ h1v s4.s) h2.s), (na_ h29 (na_ h2f (na_ h2l h2t<|ds<|o0no hp (ownS.lt h1n) h2.s)<|nmA (ds<|o0no hv (ownS.lt h17) h1.s)<|ds<|o0no hp (ownS.lt h17)<|lt_ (lt_ h1.s s4.s) h2.s)<|nmA (ds<|o0no hy (ownS.lt hx) h3.s)<|nmA (ds<|o0no hv (ownS.lt hx) h1w)<|ds<|o0no hp (ownS.lt hx)<|lt_ (lt_ h1w s4.s) h2.s), (aa_ (o0le h15 h14)<|aa_ (o0le hy h16)<|aa_ (o0le hv h18)<|o0le hp h1o)⟩
def Q5 (w0 : World) (B : Nat) (r : (List Rule)) (v : Value) (w' : World) : Prop := Bw w0 w' ∧ (fun r1 => ∃ a1 n1 c1 S1, (sl a1 n1 c1) = v ∧ ownS w' S1 (sl a1 n1 c1) r1 ∧ S1.Nodup ∧ (∀ k ∈ S1, w0.z ≤ k)) r
theorem W_w27 {x1 : List Rule} {res : (List Rule)} (hm : M_laws_toRuleS x1 = some res) (hBw : B ≤ w0.z) (p1_0 : repS w0 B (sl A0 N0 C0) x1) : CallsR prog 130 [sl A0 N0 C0] w0 (Q5 w0 B res) := by
 unfold M_laws_toRuleS at hm
 refine goF func130 z z (lb z) fun fn hr => Ws<|Ra z<|Wn<|Ws<|Rm z<|R z (lnR d_108 z p1_0) ?_
 obtain ⟨x2n, er, hms⟩ := bdS hm
 refine E z (ef_makeN (α := Rule) el_93 (fun _ => (Rule_mkO (x := (⟨(⟨[]⟩ : Str), 0, 0, false, ([] : List UInt8), ([] : List Str), ([] : List Int), ([] : List Int)⟩ : Rule)) (S1 := ([] : List Nat)) (S2 := ([] : List Nat)) (S3 := ([] : List Nat)) (S4 := ([] : List Nat)) (lb z) (ii z) (ii z) onL onL onL onL)) er z z) ?_
 rintro _ w1 ⟨a7, n8, c9, rfl, sa, ht⟩
 refine Ra z<|Wn<|Wq<|Ws<|Ra z<|Wn ?_
 obtain ⟨u2o, huu, hme⟩ := bdS hms
 refine Wf (σ := (List Rule)) (ρ := (List Rule)) (fun (kf : Nat) (x6 : List Rule) a w => ∃  (S0 : List Nat), Sat 23 [(0, sl A0 N0 C0), (3, sl a7 n8 c9), (4, (vI ((kf : Nat) : Int)))] a ∧ Chg (· ∈ [w0.z]) w1 w ∧ ownS w S0 (sl a7 n8 c9) x6 ∧ S0.Nodup ∧ (∀ k ∈ S0, k ∈ [w0.z] ∨ w1.z ≤ k)) (fun (x6 : List Rule) a w => ∃  (S0 : List Nat), Sat 23 [(3, sl a7 n8 c9)] a ∧ Chg (· ∈ [w0.z]) w1 w ∧ ownS w S0 (sl a7 n8 c9) x6 ∧ S0.Nodup ∧ (∀ k ∈ S0, k ∈ [w0.z] ∨ w1.z ≤ k)) (fun r ex a w => ex = .ret ∧ RetPost prog fn (Q5 w0 B r) a w) huu ?_ ?_ ?_ ?_ ?_
 ·exact fun _ q => ⟨[w0.z], (q.k<|s3 z z z), (cr [w0.z] w1), ht, nd_one, (io sr)⟩
 ·rintro kf x6 a2p wv o2q hkg ⟨S0, hSw, s4, h3, hb, hd⟩ hmx
  refine Wu ?_ hSw
  refine Wq<|Ws<|Rm z<|Rm z ?_
  have hh := (p1_0.e sa).c s4<|lg<|m1 hBw
  refine R z (lnR d_108 z hh)<|R z (lss z z)<|Wn<|Wc z (fun _ => ?_) (fun hc => (nolt hkg hc).elim)
  refine Wk<|Wq<|Wb<|Wg<|Rm z<|Rm z<|Rm z<|Rm z ?_
  obtain ⟨xy, ez, hm10⟩ := bdS hmx
  refine RX z (at_ (α := Rule) d_108 z_151 z z z hh ez) ?_
  rintro _ ⟨b2r, o2s, cs2t, rfl, h11, h12, h2u⟩
  obtain ⟨a13, n14, c15, a16, n17, c18, a19, n1a, c1b, a1c, n1d, c1e, rfl, h1f, h1g, h1h, h1i, h1j, h1k, h1l⟩ := Rule_open h12
  refine R z (lN (vs := (vR xy a13 n14 c15 a16 n17 c18 a19 n1a c1b a1c n1d c1e)) g_151 z_151 z z fid h11) ?_
  obtain ⟨r1m, e1n, hm1o⟩ := bdS hm10
  refine E z (fc call148 z<|W_w26 (B := B) e1n (lt_ hBw<|lt_ sa.s s4.s) h1f h1g h1h h1i h1j h1k h1l) ?_
  rintro _ w1p ⟨sc, a2v, n2w, c2x, Si, a2y, n2z, c30, Sj, a31, n32, c33, Sk, a34, n35, c36, Sl, rfl, h1q, h1r, h1s, h1t, h1u, h1v, h1w, h2, h5⟩
  obtain ⟨x1x, em, hm1y⟩ := bdS hm1o
  have hn := h3.e sc
  refine RX z (rd_atU (α := Rule) d_93 z_144 z z hn em) ?_
  rintro _ ⟨g37, h1z, rfl⟩
  refine E0 (ef_setN (α := Rule) z_144 z h1z z z z em hn hb (Rule_mkO (x := r1m) (S1 := Si) (S2 := Sj) (S3 := Sk) (S4 := Sl) h1q h1r h1s h1t h1u h1v h1w) (aa_ (o0no (al_ h5) (ownS.lt h3) lr)<|aa_ (o0no (al_<|ar_ h5) (ownS.lt h3) lr)<|aa_ (o0no (al_<|ar_<|ar_ h5) (ownS.lt h3) lr)<|o0no (ar_<|ar_<|ar_ h5) (ownS.lt h3) lr)<|na_ (nl_ h2) (na_ (nl_<|nr_ h2) (na_ (nl_<|nr_<|nr_ h2) (nr_<|nr_<|nr_ h2)<|nj<|nr_<|nr_ h2)<|nmA (nmL<|nj<|nr_ h2)<|nmR<|nj<|nr_ h2)<|nmA (nmL<|nj h2)<|nmA (nmL<|nmR<|nj h2)<|nmR<|nmR<|nj h2) ?_
  rintro _ w20 ⟨So, s21, h22, h23, h24⟩
  refine Wn<|Wg<|Rm z<|R z (inc_ hkg (lt_ (repS.len p1_0) LEN_le) z z)<|Ra z<|Wl ?_
  have hp : ∀ k ∈ S0, k ∈ [w0.z] ∨ w1.z ≤ k := or1 hd (io sr) (leor lr)
  have h25 : ∀ k ∈ Si, k ∈ [w0.z] ∨ w1.z ≤ k := or0 (al_ h5)  (leor s4.s)
  have h26 : ∀ k ∈ Sj, k ∈ [w0.z] ∨ w1.z ≤ k := or0 (al_ (ar_ h5))  (leor s4.s)
  have h27 : ∀ k ∈ Sk, k ∈ [w0.z] ∨ w1.z ≤ k := or0 (al_ (ar_ (ar_ h5)))  (leor s4.s)
  have h28 : ∀ k ∈ Sl, k ∈ [w0.z] ∨ w1.z ≤ k := or0 (ar_ (ar_ (ar_ h5)))  (leor s4.s)
  have h29 : ∀ k ∈ So, k ∈ [w0.z] ∨ w1.z ≤ k := or2 h24 hp (aa_ h25 (aa_ h26 (aa_ h27 h28))) (leor (lt_ s4.s sc.s))
  have h2a : Chg (· ∈ [w0.z]) w1 wv := cM (cr [w0.z] w1) s4 (io sr)
  have h2b : Chg (· ∈ [w0.z]) w1 w1p := cext h2a sc
  have h2c : Chg (· ∈ [w0.z]) w1 w20 := cM h2b s21 hp
  exact fun _ q => ⟨x1x, (som hm1y).symm, ⟨So, (q.k<|s3 z z z), h2c, h22, h23, h29⟩⟩
 ·rintro x6 a38 w2d ⟨S0, hS2e, sq, h3, hb, hd⟩
  refine Wu ?_ hS2e
  refine Wq<|Ws<|Rm z<|Rm z<|R z (lnR d_108 z<|(p1_0.e sa).c sq<|lg<|m1 hBw)<|R z (lss z z)<|Wn<|Wc z (fun hc => (noltt hc).elim) (fun _ => ?_)
  have h2f : ∀ k ∈ S0, k ∈ [w0.z] ∨ w1.z ≤ k := or1 hd (io sr) (leor lr)
  have h2g : Chg (· ∈ [w0.z]) w1 w2d := cM (cr [w0.z] w1) sq (io sr)
  exact We (fun a' ha' => ⟨rfl, ⟨S0, (Sat.weaken ha'<|s1 z), h2g, h3, hb, h2f⟩⟩)
 ·rintro x6 a2h w39 rfl ⟨S0, hS3a, s2i, h3, hb, hd⟩
  have hm2j := elL hme
  revert a2h
  refine Wo<|Ws<|Rm z<|Ra z<|Wn ?_
  obtain rfl := som hm2j
  have h2k : ∀ k ∈ S0, w0.z ≤ k := or1 hd (mem1 lr) (lele sa.s)
  exact Wr<|ret1 hr z ⟨(bM sa s2i<|mem1 lr), a7, n8, c9, S0, z, h3, hb, h2k⟩
 rintro r3b ex3c a3d w3e rfl ⟨rfl, hq2l⟩
 have hm2m := elR hme
 obtain rfl := som hm2m
 exact ⟨hq2l, z⟩
def Q6 (w0 : World) (B : Nat) (r : Desc) (v : Value) (w' : World) : Prop := Bw w0 w' ∧ (fun r1 => ∃ a1 n1 c1 S1, (.agg #[.slice a1 n1 c1]) = v ∧ ownS w' S1 (sl a1 n1 c1) r1.rules ∧ S1.Nodup ∧ (∀ k ∈ S1, w0.z ≤ k)) r
theorem W_w28 {x1 : Desc} {res : Desc} (hm : M_laws_toDescription x1 = some res) (hBw : B ≤ w0.z) (p1_0 : repS w0 B (sl A0 N0 C0) x1.rules) : CallsR prog 102 [(.agg #[sl A0 N0 C0])] w0 (Q6 w0 B res) := by
 unfold M_laws_toDescription at hm
 refine goF func102 z z (lb z) fun fn hr => Ws<|E z (fb z) ?_
 rintro _ wa ⟨rfl, hb⟩
 have h1 := hb.below
 have hj : Blk wa w0.z [sl A0 N0 C0] := hb.blk
 refine E z (fa zero_95) ?_
 rintro _ wc ⟨rfl, hd⟩
 have h2 := hd.below
 have h6 : Blk wc wa.z [sl none 0 0] := hd.blk
 refine Wn<|Ws<|E z (fa zero_95) ?_
 rintro _ wk ⟨rfl, he⟩
 have h0 := he.below
 have hf : Blk wk wc.z [sl none 0 0] := he.blk
 refine Wn<|Ws<|R z (fd f_110_0 z)<|R z (l1 g_108 z fid<|((hj.e h2).e h0).at z) ?_
 have hg := lt_ h1.s h2.s
 have hh := lt_ hg h0.s
 obtain ⟨ru, el, hmm⟩ := bdS hm
 refine E z (fc call130 z<|W_w27 (B := B) el (lt_ hBw hh)<|((p1_0.e h1).e h2).e h0) ?_
 rintro _ wv ⟨s7, a3, n4, c5, Sn, rfl, ho, hp, h8⟩
 refine R z (fd f_95_0 z)<|E0 (fs (cur' := [sl a3 n4 c5]) z_93 z z (hf.e s7) z (lb z) (oA z) z) ?_
 rintro _ ww ⟨hq, sr⟩
 have h9 := sr.one
 refine Wn<|Ws<|R z (lN (vs := [sl a3 n4 c5]) g_95 z_95 z z fid<|hq.row 0 1 z)<|E0 (fs (cur' := [sl a3 n4 c5]) z_95 z z (((h6.e h0).e s7).c h9<|djs<|mmr h6.lt) z (lb z) (oA z) z) ?_
 rintro _ wx ⟨ht, ss⟩
 have hi := ss.one
 refine Wn ?_
 obtain rfl := som hmm
 exact Wr<|ret1 hr (resC g_95 z_95 z ht z) ⟨(bM (bM (bup (bup (bup h1 h2) h0) s7) h9<|m1 hg) hi<|m1 h1.s), a3, n4, c5, Sn, z, ((ho.c h9<|o0n1 h8 hf.lt lr).c hi<|o0n1 h8 h6.lt h0.s), hp, (o0le h8 hh)⟩
def Q7 (w0 : World) (B : Nat) (r : (List Desc)) (v : Value) (w' : World) : Prop := Bw w0 w' ∧ (fun r1 => ∃ a1 n1 c1 S1, (sl a1 n1 c1) = v ∧ ownS w' S1 (sl a1 n1 c1) r1 ∧ S1.Nodup ∧ (∀ k ∈ S1, w0.z ≤ k)) r
theorem W_w29 {x1 : List Desc} {res : (List Desc)} (hm : M_laws_toDescriptionS x1 = some res) (hBw : B ≤ w0.z) (p1_0 : repS w0 B (sl A0 N0 C0) x1) : CallsR prog 70 [sl A0 N0 C0] w0 (Q7 w0 B res) := by
 unfold M_laws_toDescriptionS at hm
 refine goF func70 z z (lb z) fun fn hr => Ws<|Ra z<|Wn<|Ws<|Rm z<|R z (lnR d_22 z p1_0) ?_
 obtain ⟨x1v, en, hmo⟩ := bdS hm
 refine E z (ef_makeN (α := Desc) el_32 (fun _ => (Desc_mkO (x := (⟨([] : List Rule)⟩ : Desc)) (S1 := ([] : List Nat)) onL)) en z z) ?_
 rintro _ w1 ⟨a4, n5, c6, rfl, s7, hp⟩
 refine Ra z<|Wn<|Wq<|Ws<|Ra z<|Wn ?_
 obtain ⟨u1w, huq, hmc⟩ := bdS hmo
 refine Wf (σ := (List Desc)) (ρ := (List Desc)) (fun (kd : Nat) (x2 : List Desc) a w => ∃  (S0 : List Nat), Sat 23 [(0, sl A0 N0 C0), (3, sl a4 n5 c6), (4, (vI ((kd : Nat) : Int)))] a ∧ Chg (· ∈ [w0.z]) w1 w ∧ ownS w S0 (sl a4 n5 c6) x2 ∧ S0.Nodup ∧ (∀ k ∈ S0, k ∈ [w0.z] ∨ w1.z ≤ k)) (fun (x2 : List Desc) a w => ∃  (S0 : List Nat), Sat 23 [(3, sl a4 n5 c6)] a ∧ Chg (· ∈ [w0.z]) w1 w ∧ ownS w S0 (sl a4 n5 c6) x2 ∧ S0.Nodup ∧ (∀ k ∈ S0, k ∈ [w0.z] ∨ w1.z ≤ k)) (fun r ex a w => ex = .ret ∧ RetPost prog fn (Q7 w0 B r) a w) huq ?_ ?_ ?_ ?_ ?_
 ·exact fun _ q => ⟨[w0.z], (q.k<|s3 z z z), (cr [w0.z] w1), hp, nd_one, (io sr)⟩
 ·rintro kd x2 a1x wr o1y hke ⟨S0, hSs, s8, h3, h9, ha⟩ hmt
  refine Wu ?_ hSs
  refine Wq<|Ws<|Rm z<|Rm z ?_
  have hf := (p1_0.e s7).c s8<|lg<|m1 hBw
  refine R z (lnR d_22 z hf)<|R z (lss z z)<|Wn<|Wc z (fun _ => ?_) (fun hc => (nolt hke hc).elim)
  refine Wk<|Wq<|Wb<|Wg<|Rm z<|Rm z<|Rm z<|Rm z ?_
  obtain ⟨x1z, eu, hmv⟩ := bdS hmt
  refine RX z (at_ (α := Desc) d_22 z_110 z z z hf eu) ?_
  rintro _ ⟨b20, o21, cs22, rfl, hw, hx, h23⟩
  obtain ⟨ay, nz, c10, rfl, h11⟩ := Desc_open hx
  refine R z (lN (vs := [sl ay nz c10]) g_110 z_110 z z fid hw) ?_
  obtain ⟨r12, e13, hm14⟩ := bdS hmv
  refine E z (fc call102 z<|W_w28 (B := B) e13 (lt_ hBw<|lt_ s7.s s8.s) h11) ?_
  rintro _ w15 ⟨sb, a24, n25, c26, Sg, rfl, h16, h17, hh⟩
  obtain ⟨x18, ei, hm19⟩ := bdS hm14
  have hj := h3.e sb
  refine RX z (rd_atU (α := Desc) d_32 z_95 z z hj ei) ?_
  rintro _ ⟨g27, h1a, rfl⟩
  refine E0 (ef_setN (α := Desc) z_95 z h1a z z z ei hj h9 (Desc_mkO (x := r12) (S1 := Sg) h16) (o0no hh (ownS.lt h3) lr) h17) ?_
  rintro _ w1b ⟨Sk, s1c, h1d, h1e, h1f⟩
  refine Wn<|Wg<|Rm z<|R z (inc_ hke (lt_ (repS.len p1_0) LEN_le) z z)<|Ra z<|Wl ?_
  have hl : ∀ k ∈ S0, k ∈ [w0.z] ∨ w1.z ≤ k := or1 ha (io sr) (leor lr)
  have h1g : ∀ k ∈ Sg, k ∈ [w0.z] ∨ w1.z ≤ k := or0 hh  (leor s8.s)
  have h1h : ∀ k ∈ Sk, k ∈ [w0.z] ∨ w1.z ≤ k := or2 h1f hl h1g (leor (lt_ s8.s sb.s))
  have h1i : Chg (· ∈ [w0.z]) w1 wr := cM (cr [w0.z] w1) s8 (io sr)
  have h1j : Chg (· ∈ [w0.z]) w1 w15 := cext h1i sb
  have h1k : Chg (· ∈ [w0.z]) w1 w1b := cM h1j s1c hl
  exact fun _ q => ⟨x18, (som hm19).symm, ⟨Sk, (q.k<|s3 z z z), h1k, h1d, h1e, h1h⟩⟩
 ·rintro x2 a28 w1l ⟨S0, hS1m, sm, h3, h9, ha⟩
  refine Wu ?_ hS1m
  refine Wq<|Ws<|Rm z<|Rm z<|R z (lnR d_22 z<|(p1_0.e s7).c sm<|lg<|m1 hBw)<|R z (lss z z)<|Wn<|Wc z (fun hc => (noltt hc).elim) (fun _ => ?_)
  have h1n : ∀ k ∈ S0, k ∈ [w0.z] ∨ w1.z ≤ k := or1 ha (io sr) (leor lr)
  have h1o : Chg (· ∈ [w0.z]) w1 w1l := cM (cr [w0.z] w1) sm (io sr)
  exact We (fun a' ha' => ⟨rfl, ⟨S0, (Sat.weaken ha'<|s1 z), h1o, h3, h9, h1n⟩⟩)
 ·rintro x2 a1p w29 rfl ⟨S0, hS2a, s1q, h3, h9, ha⟩
  have hm1r := elL hmc
  revert a1p
  refine Wo<|Ws<|Rm z<|Ra z<|Wn ?_
  obtain rfl := som hm1r
  have h1s : ∀ k ∈ S0, w0.z ≤ k := or1 ha (mem1 lr) (lele s7.s)
  exact Wr<|ret1 hr z ⟨(bM s7 s1q<|mem1 lr), a4, n5, c6, S0, z, h3, h9, h1s⟩
 rintro r2b ex2c a2d w2e rfl ⟨rfl, hq1t⟩
 have hm1u := elR hmc
 obtain rfl := som hm1u
 exact ⟨hq1t, z⟩
def Q8 (w0 : World) (B : Nat) (r : Registry) (v : Value) (w' : World) : Prop := Bw w0 w' ∧ (fun r1 => ∃ a1 n1 c1 S1, (.agg #[.slice a1 n1 c1]) = v ∧ ownS w' S1 (sl a1 n1 c1) r1.versions ∧ S1.Nodup ∧ (∀ k ∈ S1, w0.z ≤ k)) r
theorem W_w2a {x1 : Registry} {res : Registry} (hm : M_laws_toRegistry x1 = some res) (hBw : B ≤ w0.z) (p1_0 : repS w0 B (sl A0 N0 C0) x1.versions) : CallsR prog 36 [(.agg #[sl A0 N0 C0])] w0 (Q8 w0 B res) := by
 unfold M_laws_toRegistry at hm
 refine goF func36 z z (lb z) fun fn hr => Ws<|E z (fb z) ?_
 rintro _ wa ⟨rfl, hb⟩
 have h1 := hb.below
 have hj : Blk wa w0.z [sl A0 N0 C0] := hb.blk
 refine E z (fa zero_34) ?_
 rintro _ wc ⟨rfl, hd⟩
 have h2 := hd.below
 have h6 : Blk wc wa.z [sl none 0 0] := hd.blk
 refine Wn<|Ws<|E z (fa zero_34) ?_
 rintro _ wk ⟨rfl, he⟩
 have h0 := he.below
 have hf : Blk wk wc.z [sl none 0 0] := he.blk
 refine Wn<|Ws<|R z (fd f_24_0 z)<|R z (l1 g_22 z fid<|((hj.e h2).e h0).at z) ?_
 have hg := lt_ h1.s h2.s
 have hh := lt_ hg h0.s
 obtain ⟨ru, el, hmm⟩ := bdS hm
 refine E z (fc call70 z<|W_w29 (B := B) el (lt_ hBw hh)<|((p1_0.e h1).e h2).e h0) ?_
 rintro _ wv ⟨s7, a3, n4, c5, Sn, rfl, ho, hp, h8⟩
 refine R z (fd f_34_0 z)<|E0 (fs (cur' := [sl a3 n4 c5]) z_32 z z (hf.e s7) z (lb z) (oA z) z) ?_
 rintro _ ww ⟨hq, sr⟩
 have h9 := sr.one
 refine Wn<|Ws<|R z (lN (vs := [sl a3 n4 c5]) g_34 z_34 z z fid<|hq.row 0 1 z)<|E0 (fs (cur' := [sl a3 n4 c5]) z_34 z z (((h6.e h0).e s7).c h9<|djs<|mmr h6.lt) z (lb z) (oA z) z) ?_
 rintro _ wx ⟨ht, ss⟩
 have hi := ss.one
 refine Wn ?_
 obtain rfl := som hmm
 exact Wr<|ret1 hr (resC g_34 z_34 z ht z) ⟨(bM (bM (bup (bup (bup h1 h2) h0) s7) h9<|m1 hg) hi<|m1 h1.s), a3, n4, c5, Sn, z, ((ho.c h9<|o0n1 h8 hf.lt lr).c hi<|o0n1 h8 h6.lt h0.s), hp, (o0le h8 hh)⟩
def Q9 (w0 : World) (B : Nat) (r : Log) (v : Value) (w' : World) : Prop := Bw w0 w' ∧ (fun r1 => ∃ a1 n1 c1 S1, (.agg #[.slice a1 n1 c1, vI r1.stored]) = v ∧ ownS w' S1 (sl a1 n1 c1) r1.bytes ∧ inI r1.stored ∧ S1.Nodup ∧ (∀ k ∈ S1, w0.z ≤ k)) r
theorem W_w2b {x1 : Log} {res : Log} (hm : M_laws_toLog x1 = some res) (hBw : B ≤ w0.z) (p1_0 : repS w0 B (sl A0 N0 C0) x1.bytes) (p1_1 : inI x1.stored) : CallsR prog 37 [(.agg #[sl A0 N0 C0, vI x1.stored])] w0 (Q9 w0 B res) := by
 unfold M_laws_toLog at hm
 refine goF func37 z z (lb z) fun fn hr => Ws<|E z (fb z) ?_
 rintro _ wb ⟨rfl, hc⟩
 have h5 := hc.below
 have hd : Blk wb w0.z [sl A0 N0 C0, vI x1.stored] := hc.blk
 refine E z (fa zero_35) ?_
 rintro _ we ⟨rfl, hf⟩
 have h1 := hf.below
 have h8 : Blk we wb.z [sl none 0 0, vI 0] := hf.blk
 refine Wn<|Ws<|E z (fa zero_35) ?_
 rintro _ wm ⟨rfl, hg⟩
 have h0 := hg.below
 have hh : Blk wm we.z [sl none 0 0, vI 0] := hg.blk
 refine Wn<|Ws<|R z (fd f_27_0 z) ?_
 have hi := (hd.e h1).e h0
 refine R z (l1 g_25 z fid<|hi.at z) ?_
 have hj := lt_ h5.s h1.s
 have hk := lt_ hj h0.s
 obtain ⟨r11, eq, hmr⟩ := bdS hm
 refine E z (fc call24 z<|W_w07 (B := B) eq (lt_ hBw hk)<|((p1_0.e h5).e h1).e h0) ?_
 rintro _ w12 ⟨s6, a2, n3, c4, Ss, rfl, ht, hu, h9⟩
 refine R z (fd f_35_0 z)<|E0 (fs (cur' := [sl a2 n3 c4, vI 0]) z_25 z z (hh.e s6) z (lb z) (oA z) z) ?_
 rintro _ w13 ⟨hv, sw⟩
 have h7 := sw.one
 refine Wn<|Ws<|R z (fd f_27_1 z)<|R z (l1 g_3 z fid<|((hi.e s6).c h7<|djs<|mm1 hd.lt h1.s).at z)<|R z (fd f_35_1 z)<|E0 (fs (cur' := [sl a2 n3 c4, vI x1.stored]) z_3 z z hv z (lb z) (oA z) z) ?_
 rintro _ w14 ⟨hx, sy⟩
 have ha := sy.one
 refine Wn<|Ws<|R z (lN (vs := [sl a2 n3 c4, vI x1.stored]) g_35 z_35 z z fid<|hx.row 0 2 z) ?_
 have hl := mmr h8.lt
 refine E0 (fs (cur' := [sl a2 n3 c4, vI x1.stored]) z_35 z z ((((h8.e h0).e s6).c h7<|djs hl).c ha<|djs hl) z (lb z) (oA z) z) ?_
 rintro _ w15 ⟨hz, s10⟩
 have hn := s10.one
 refine Wn ?_
 obtain rfl := som hmr
 have ho := o0n1 h9 hh.lt lr
 have hp := m1 hj
 exact Wr<|ret1 hr (resC g_35 z_35 z hz z) ⟨(bM (bM (bM (bup (bup (bup h5 h1) h0) s6) h7 hp) ha hp) hn<|m1 h5.s), a2, n3, c4, Ss, z, (((ht.c h7 ho).c ha ho).c hn<|o0n1 h9 h8.lt h0.s), p1_1, hu, (o0le h9 hk)⟩
def Q10 (w0 : World) (B : Nat) (r : Archive) (v : Value) (w' : World) : Prop := Bw w0 w' ∧ (fun r1 => ∃ a1 n1 c1 S1 a2 n2 c2 S2, (.agg #[.slice a1 n1 c1, sl a2 n2 c2, vI r1.log.stored]) = v ∧ ownS w' S1 (sl a1 n1 c1) r1.registry.versions ∧ ownS w' S2 (sl a2 n2 c2) r1.log.bytes ∧ inI r1.log.stored ∧ (S1 ++ S2).Nodup ∧ (∀ k ∈ (S1 ++ S2), w0.z ≤ k)) r
theorem W_w08 {x1 : Archive} {res : Archive} (hm : M_laws_toArchive x1 = some res) (hBw : B ≤ w0.z) (p1_0 : repS w0 B (sl A0 N0 C0) x1.registry.versions) (p1_1 : repS w0 B (sl A1 N1 C1) x1.log.bytes) (p1_2 : inI x1.log.stored) : CallsR prog 11 [(.agg #[sl A0 N0 C0, sl A1 N1 C1, vI x1.log.stored])] w0 (Q10 w0 B res) := by
 unfold M_laws_toArchive at hm
 refine goF func11 z z (lb z) fun fn hr => Ws<|E z (fb z) ?_
 rintro _ wl ⟨rfl, hn⟩
 have h4 := hn.below
 have ho : Blk wl w0.z [sl A0 N0 C0, sl A1 N1 C1, vI x1.log.stored] := hn.blk
 refine E z (fa zero_37) ?_
 rintro _ wm ⟨rfl, hp⟩
 have h3 := hp.below
 have h8 : Blk wm wl.z [sl none 0 0, sl none 0 0, vI 0] := hp.blk
 refine Wn<|Ws<|E z (fa zero_37) ?_
 rintro _ wr ⟨rfl, hq⟩
 have h1 := hq.below
 have hf : Blk wr wm.z [sl none 0 0, sl none 0 0, vI 0] := hq.blk
 refine Wn<|Ws<|R z (fd f_29_0 z) ?_
 have ht := (ho.e h3).e h1
 refine R z (lN (vs := [sl A0 N0 C0]) g_24 z_24 z z fid<|ht.row 0 1 z) ?_
 have hg := lt_ h4.s h3.s
 have hh := lt_ hg h1.s
 obtain ⟨r1e, es, hmz⟩ := bdS hm
 refine E z (fc call36 z<|W_w2a (B := B) (x1 := (⟨x1.registry.versions⟩ : Registry)) es (lt_ hBw hh)<|((p1_0.e h4).e h3).e h1) ?_
 rintro _ w1f ⟨s2, a5, n6, c7, S10, rfl, hu, h11, hi⟩
 refine R z (fd f_37_0 z)<|E0 (fs (cur' := [sl a5 n6 c7, sl none 0 0, vI 0]) z_34 z z (hf.e s2) z (lb z) (oA z) z) ?_
 rintro _ w1g ⟨h12, s13⟩
 have h0 := s13.one
 refine Wn<|Ws<|R z (fd f_29_1 z)<|R z (lN (vs := [sl A1 N1 C1, vI x1.log.stored]) g_27 z_27 z z fid<|((ht.e s2).c h0<|djs<|mm1 ho.lt h3.s).row 1 2 z) ?_
 have hv := lt_ (lt_ hh s2.s) h0.s
 obtain ⟨rj, e14, hm15⟩ := bdS hmz
 refine E z (fc call37 z<|W_w2b (B := B) (x1 := (⟨x1.log.bytes, x1.log.stored⟩ : Log)) e14 (lt_ hBw hv) (((((p1_1.e h4).e h3).e h1).e s2).c h0<|lg<|m1<|lt_ hBw hg) p1_2) ?_
 rintro _ w1h ⟨s9, aa, nb, cc, S16, rfl, h17, h18, h19, hd⟩
 refine R z (fd f_37_1 z)<|E0 (fs (cur' := [sl a5 n6 c7, sl aa nb cc, vI rj.stored]) z_35 z z (h12.e s9) z (lb z) (oA z) z) ?_
 rintro _ w1i ⟨h1a, s1b⟩
 have he := s1b.one
 refine Wn<|Ws<|R z (lN (vs := [sl a5 n6 c7, sl aa nb cc, vI rj.stored]) g_37 z_37 z z fid<|h1a.row 0 3 z) ?_
 have hw := mmr h8.lt
 refine E0 (fs (cur' := [sl a5 n6 c7, sl aa nb cc, vI rj.stored]) z_37 z z (((((h8.e h1).e s2).c h0<|djs hw).e s9).c he<|djs hw) z (lb z) (oA z) z) ?_
 rintro _ w1j ⟨h1c, s1d⟩
 have hk := s1d.one
 refine Wn ?_
 obtain rfl := som hm15
 have hx := o0n1 hi hf.lt lr
 have hy := m1 hg
 exact Wr<|ret1 hr (resC g_37 z_37 z h1c z) ⟨(bM (bM (bup (bM (bup (bup (bup h4 h3) h1) s2) h0 hy) s9) he hy) hk<|m1 h4.s), a5, n6, c7, S10, aa, nb, cc, S16, z, ((((hu.c h0 hx).e s9).c he hx).c hk<|o0n1 hi h8.lt h1.s), ((h17.c he<|o0n1 hd hf.lt<|lt_ s2.s h0.s).c hk<|o0n1 hd h8.lt<|lt_ (lt_ h1.s s2.s) h0.s), h18, (na_ h11 h19<|ds<|o0no hd (ownS.lt hu) h0.s), (aa_ (o0le hi hh)<|o0le hd hv)⟩
theorem W_w2c {x1 : Rule} {res : Rule} (hm : M_spec_l4Rule x1 = some res) (hBw : B ≤ w0.z) (p1_0 : x1.name.b.length ≤ LEN) (p1_1 : inI x1.kind) (p1_2 : inI x1.size) (p1_4 : repS w0 B (sl AB NB CB) x1.bytes) (p1_5 : repS w0 B (sl A7 N7 C7) x1.names) (p1_6 : repS w0 B (sl AA NA CA) x1.tags) (p1_7 : repS w0 B (sl A8 N8 C8) x1.kids) : CallsR prog 133 [(.agg #[Str.v x1.name, vI x1.kind, vI x1.size, vB x1.little, sl AB NB CB, sl A7 N7 C7, sl AA NA CA, sl A8 N8 C8])] w0 (Q4 w0 B res) := by
 unfold M_spec_l4Rule at hm
 refine goF func133 z z (lb z) fun fn hr => Ws<|E z (fb z) ?_
 rintro _ wl ⟨rfl, h1k⟩
 have hg := h1k.below
 have hv : Blk wl w0.z (vR x1 AB NB CB A7 N7 C7 AA NA CA A8 N8 C8) := h1k.blk
 refine E z (fa zero_144) ?_
 rintro _ wm ⟨rfl, h1l⟩
 have he := h1l.below
 have hb : Blk wm wl.z [(Str.v (⟨[]⟩ : Str)), vI 0, vI 0, vB false, sl none 0 0, sl none 0 0, sl none 0 0, sl none 0 0] := h1l.blk
 refine Wn<|Ws ?_
 have h1m := hv.e he
 refine R z (lN (vs := (vR x1 AB NB CB A7 N7 C7 AA NA CA A8 N8 C8)) g_144 z_144 z z fid<|h1m.row 0 8 z)<|E z (fa zero_144) ?_
 rintro _ w30 ⟨rfl, h1n⟩
 have hc := h1n.below
 have hf : Blk w30 wm.z [(Str.v (⟨[]⟩ : Str)), vI 0, vI 0, vB false, sl none 0 0, sl none 0 0, sl none 0 0, sl none 0 0] := h1n.blk
 refine E0 (fs (cur' := (vR x1 AB NB CB A7 N7 C7 AA NA CA A8 N8 C8)) z_144 z z hf z (lb z) (oA z) z) ?_
 rintro _ w43 ⟨h31, s32⟩
 have h6 := s32.one
 refine Wn<|Ws<|E z (f0 (α := UInt8) el_25) ?_
 rintro _ w44 ⟨a45, n46, c47, rfl, s7, h33⟩
 refine R z (fd f_144_4 z) ?_
 have h12 := mm1 hv.lt he.s
 have h1o := ((h1m.e hc).c h6<|djs h12).e s7
 refine R z (l1 g_25 z fid<|h1o.at z) ?_
 obtain ⟨x48, e34, hm35⟩ := bdS hm
 have h18 := lt_ hg.s he.s
 have hd := m1<|lt_ hBw h18
 refine E z (fN (α := UInt8) el_25 e34 z z h33 nd_one<|((((p1_4.e hg).e he).e hc).c h6<|lg hd).e s7) ?_
 rintro _ w49 ⟨S19, ah, ni, cj, rfl, sa, hk, h36, h1a⟩
 refine R z (fd f_144_4 z) ?_
 have h1p := mm1 hf.lt h6.s
 refine E0 (fs (cur' := (vR x1 ah ni cj A7 N7 C7 AA NA CA A8 N8 C8)) z_25 z z ((h31.e s7).c sa<|djs h1p) z (lb z) (oA z) z) ?_
 rintro _ w4a ⟨h37, s38⟩
 have h3 := s38.one
 refine Wn<|Ws<|E z (f0 (α := Str) el_41) ?_
 rintro _ w4b ⟨a4c, n4d, c4e, rfl, s4, h39⟩
 refine R z (fd f_144_5 z) ?_
 have h1q := lt_ (lt_ he.s hc.s) h6.s
 have h1r := ((h1o.c sa<|djs<|mm1 hv.lt h1q).c h3<|djs h12).e s4
 refine R z (l1 g_41 z fid<|h1r.at z) ?_
 obtain ⟨x4f, e3a, hm3b⟩ := bdS hm35
 have h1b := lt_ (lt_ h18 hc.s) h6.s
 have h1c := m1<|lt_ hBw h1b
 refine E z (fN (α := Str) el_41 e3a z z h39 nd_one<|(((((((p1_5.e hg).e he).e hc).c h6<|lg hd).e s7).c sa<|lg h1c).c h3<|lg hd).e s4) ?_
 rintro _ w4g ⟨S1d, an, no, cp, rfl, s8, hw, h3c, h13⟩
 refine R z (fd f_144_5 z) ?_
 have h1s := lt_ h6.s s7.s
 have h1t := lt_ (lt_ h1s sa.s) h3.s
 have h1u := mm1 hf.lt h1t
 refine E0 (fs (cur' := (vR x1 ah ni cj an no cp AA NA CA A8 N8 C8)) z_41 z z ((h37.e s4).c s8<|djs h1u) z (lb z) (oA z) z) ?_
 rintro _ w4h ⟨h3d, s3e⟩
 have h0 := s3e.one
 refine Wn<|Ws<|E z (f0 (α := Int) el_142) ?_
 rintro _ w4i ⟨a4j, n4k, c4l, rfl, s5, h3f⟩
 refine R z (fd f_144_6 z) ?_
 have h1v := lt_ (lt_ (lt_ h1q s7.s) sa.s) h3.s
 have h1w := ((h1r.c s8<|djs<|mm1 hv.lt h1v).c h0<|djs h12).e s5
 refine R z (l1 g_142 z fid<|h1w.at z) ?_
 obtain ⟨x4m, e3g, hm3h⟩ := bdS hm3b
 have h1x := lt_ h1b s7.s
 have h1e := lt_ (lt_ h1x sa.s) h3.s
 have h1y := m1<|lt_ hBw h1e
 refine E z (fN (α := Int) el_142 e3g z z h3f nd_one<|((((((((((p1_6.e hg).e he).e hc).c h6<|lg hd).e s7).c sa<|lg h1c).c h3<|lg hd).e s4).c s8<|lg h1y).c h0<|lg hd).e s5) ?_
 rintro _ w4n ⟨S1f, ar, ns, cx, rfl, s9, h1g, h3i, hy⟩
 refine R z (fd f_144_6 z) ?_
 have h1z := lt_ h1t s4.s
 have h20 := lt_ (lt_ h1z s8.s) h0.s
 have h21 := mm1 hf.lt h20
 refine E0 (fs (cur' := (vR x1 ah ni cj an no cp ar ns cx A8 N8 C8)) z_142 z z ((h3d.e s5).c s9<|djs h21) z (lb z) (oA z) z) ?_
 rintro _ w4o ⟨h3j, s3k⟩
 have h1 := s3k.one
 refine Wn<|Ws<|E z (f0 (α := Int) el_142) ?_
 rintro _ w4p ⟨a4q, n4r, c4s, rfl, s2, h3l⟩
 refine R z (fd f_144_7 z)<|R z (l1 g_142 z fid<|(((h1w.c s9<|djs<|mm1 hv.lt<|lt_ (lt_ (lt_ h1v s4.s) s8.s) h0.s).c h1<|djs h12).e s2).at z) ?_
 obtain ⟨x4t, e3m, hm3n⟩ := bdS hm3h
 have h22 := lt_ h1e s4.s
 have h1h := lt_ (lt_ h22 s8.s) h0.s
 have h3o := (((((((((((p1_7.e hg).e he).e hc).c h6<|lg hd).e s7).c sa<|lg h1c).c h3<|lg hd).e s4).c s8<|lg h1y).c h0<|lg hd).e s5).c s9<|lg<|m1<|lt_ hBw h1h
 refine E z (fN (α := Int) el_142 e3m z z h3l nd_one<|(h3o.c h1<|lg hd).e s2) ?_
 rintro _ w4u ⟨S1i, a14, n15, c16, rfl, sq, h3p, h3q, ht⟩
 refine R z (fd f_144_7 z) ?_
 have h23 := lt_ h20 s5.s
 have h24 := lt_ (lt_ h23 s9.s) h1.s
 have h25 := mm1 hf.lt h24
 refine E0 (fs (cur' := (vR x1 ah ni cj an no cp ar ns cx a14 n15 c16)) z_142 z z ((h3j.e s2).c sq<|djs h25) z (lb z) (oA z) z) ?_
 rintro _ w4v ⟨h3r, s3s⟩
 have hu := s3s.one
 refine Wn<|Ws<|R z (lN (vs := (vR x1 ah ni cj an no cp ar ns cx a14 n15 c16)) g_144 z_144 z z fid<|h3r.row 0 8 z) ?_
 have hz := mmr hb.lt
 have h26 := lt_ hc.s h6.s
 have h27 := mm1 hb.lt h26
 have h28 := lt_ h26 s7.s
 have h29 := lt_ (lt_ h28 sa.s) h3.s
 have h2a := mm1 hb.lt h29
 have h3t := ((((((hb.e hc).c h6<|djs hz).e s7).c sa<|djs h27).c h3<|djs hz).e s4).c s8<|djs h2a
 have h2b := lt_ h29 s4.s
 have h2c := lt_ (lt_ h2b s8.s) h0.s
 have h2d := mm1 hb.lt h2c
 have h2e := lt_ h2c s5.s
 have h2f := lt_ (lt_ h2e s9.s) h1.s
 have h2g := mm1 hb.lt h2f
 have h3u := (((((h3t.c h0<|djs hz).e s5).c s9<|djs h2d).c h1<|djs hz).e s2).c sq<|djs h2g
 refine E0 (fs (cur' := (vR x1 ah ni cj an no cp ar ns cx a14 n15 c16)) z_144 z z (h3u.c hu<|djs hz) z (lb z) (oA z) z) ?_
 rintro _ w4w ⟨h3v, s3w⟩
 have h10 := s3w.one
 refine Wn ?_
 obtain rfl := som hm3n
 have h17 : ∀ k ∈ S19, k ∉ [wm.z] := or1 h1a h1p (ltnot (mem1 hf.lt) h1s)
 have h2h := mno (ownS.lt hk) h3.s
 have h2i := lt_ h3.s s4.s
 have h2j := lt_ (lt_ h2i s8.s) h0.s
 have h2k := mno (ownS.lt hk) h2j
 have h2l := lt_ h2j s5.s
 have h2m := lt_ (lt_ h2l s9.s) h1.s
 have h2n := mno (ownS.lt hk) h2m
 have h3x : ∀ k ∈ S19, k ∉ [wl.z] := or1 h1a h27 (ltnot (mem1 hb.lt) h28)
 have h1j : ∀ k ∈ S1d, k ∉ [wm.z] := or1 h13 h1u (ltnot (mem1 hf.lt) h1z)
 have h2o := mno (ownS.lt hw) h0.s
 have h2p := lt_ h0.s s5.s
 have h2q := lt_ (lt_ h2p s9.s) h1.s
 have h2r := mno (ownS.lt hw) h2q
 have h3y : ∀ k ∈ S1d, k ∉ [wl.z] := or1 h13 h2a (ltnot (mem1 hb.lt) h2b)
 have h2s : ∀ k ∈ S1f, k ∉ [wm.z] := or1 hy h21 (ltnot (mem1 hf.lt) h23)
 have h2t := mno (ownS.lt h1g) h1.s
 have h3z : ∀ k ∈ S1f, k ∉ [wl.z] := or1 hy h2d (ltnot (mem1 hb.lt) h2e)
 have h40 : ∀ k ∈ S1i, k ∉ [wm.z] := or1 ht h25 (ltnot (mem1 hf.lt) (lt_ h24 s2.s))
 have h41 : ∀ k ∈ S1i, k ∉ [wl.z] := or1 ht h2g (ltnot (mem1 hb.lt) (lt_ h2f s2.s))
 have h11 := m1 h18
 have h2u := m1 h1b
 have h2v := m1 h1e
 have h2w := m1 h1h
 have h2x := lt_ h1h s5.s
 have h2y := lt_ (lt_ h2x s9.s) h1.s
 have h2z := m1 h2y
 have h42 := bM (bup (bM (bM (bup (bM (bM (bup (bM (bM (bup (bM (bup (bup hg he) hc) h6 h11) s7) sa h2u) h3 h11) s4) s8 h2v) h0 h11) s5) s9 h2w) h1 h11) s2) sq h2z
 exact Wr<|ret1 hr (resC g_144 z_144 z h3v z) ⟨(bM (bM h42 hu h11) h10<|m1 hg.s), ah, ni, cj, S19, an, no, cp, S1d, ar, ns, cx, S1f, a14, n15, c16, S1i, z, p1_0, p1_1, p1_2, (((((((((((hk.c h3 h17).e s4).c s8<|ds h2h).c h0 h17).e s5).c s9<|ds h2k).c h1 h17).e s2).c sq<|ds h2n).c hu h17).c h10 h3x), ((((((((hw.c h0 h1j).e s5).c s9<|ds h2o).c h1 h1j).e s2).c sq<|ds h2r).c hu h1j).c h10 h3y), (((((h1g.c h1 h2s).e s2).c sq<|ds h2t).c hu h2s).c h10 h3z), ((h3p.c hu h40).c h10 h41), (na_ h36 (na_ h3c (na_ h3i h3q<|ds<|o1no ht h2t (ownS.lt h1g)<|lt_ h1.s s2.s)<|nmA (ds<|o1no hy h2o (ownS.lt hw) h2p)<|ds<|o1no ht h2r (ownS.lt hw)<|lt_ h2q s2.s)<|nmA (ds<|o1no h13 h2h (ownS.lt hk) h2i)<|nmA (ds<|o1no hy h2k (ownS.lt hk) h2l)<|ds<|o1no ht h2n (ownS.lt hk)<|lt_ h2m s2.s), (aa_ (o1le h1a h2u h1x)<|aa_ (o1le h13 h2v h22)<|aa_ (o1le hy h2w h2x)<|o1le ht h2z<|lt_ h2y s2.s)⟩
theorem W_w2d {x1 : Desc} {res : Desc} (hm : M_spec_CopyDescription x1 = some res) (hBw : B ≤ w0.z) (p1_0 : repS w0 B (sl A0 N0 C0) x1.rules) : CallsR prog 105 [(.agg #[sl A0 N0 C0])] w0 (Q6 w0 B res) := by
 unfold M_spec_CopyDescription at hm
 refine goF func105 z z (lb z) fun fn hr => Ws<|E z (fb z) ?_
 rintro _ wo ⟨rfl, ht⟩
 have hg := ht.below
 have hp : Blk wo w0.z [sl A0 N0 C0] := ht.blk
 refine E z (fa zero_95) ?_
 rintro _ w1 ⟨rfl, hu⟩
 have h9 := hu.below
 have hq : Blk w1 wo.z [sl none 0 0] := hu.blk
 refine Wn<|Ws<|R z (bP (parts := []) (cs := [sl none 0 0]) build_95 z z)<|E z (fa zero_95) ?_
 rintro _ w1n ⟨rfl, hv⟩
 have hb := hv.below
 have hh : Blk w1n w1.z [sl none 0 0] := hv.blk
 refine E0 (fs (cur' := [sl none 0 0]) z_95 z z hh z (lb z) (oA z) z) ?_
 rintro _ w2 ⟨h1o, s1p⟩
 have h8 := s1p.one
 refine Wn<|Wq<|Ws<|Ra z<|Wn ?_
 obtain ⟨u40, hu1q, hmw⟩ := bdS hm
 refine Wf (σ := (List Rule)) (ρ := Desc) (fun (kx : Nat) (xc : List Rule) a w => ∃ a3 n4 c5 S0, Sat 25 [(1, pt w0.z), (2, pt wo.z), (3, pt w1.z), (4, (vI ((kx : Nat) : Int)))] a ∧ Chg (· ∈ [w1.z]) w2 w ∧ ownS w S0 (sl a3 n4 c5) xc ∧ S0.Nodup ∧ (∀ k ∈ S0, w2.z ≤ k) ∧ Blk w w1.z [sl a3 n4 c5]) (fun (xc : List Rule) a w => ∃ a3 n4 c5 S0, Sat 25 [(2, pt wo.z), (3, pt w1.z)] a ∧ Chg (· ∈ [w1.z]) w2 w ∧ ownS w S0 (sl a3 n4 c5) xc ∧ S0.Nodup ∧ (∀ k ∈ S0, w2.z ≤ k) ∧ Blk w w1.z [sl a3 n4 c5]) (fun r ex a w => ex = .ret ∧ RetPost prog fn (Q6 w0 B r) a w) hu1q ?_ ?_ ?_ ?_ ?_
 ·exact fun _ q => ⟨none, 0, 0, [], (q.k<|s4 z z z z), (cr [w1.z] w2), onL, nd_nil, an_, h1o⟩
 ·rintro kx xc a41 w1r o42 hky ⟨a3, n4, c5, S0, hS1s, si, hd, hj, hf, hk⟩ hm1t
  refine Wu ?_ hS1s
  refine Wq<|Ws<|Rm z<|R z (fd f_95_0 z) ?_
  have hz := mm1 hp.lt h9.s
  have h10 := (((hp.e h9).e hb).c h8<|djs hz).c si<|djs hz
  refine R z (l1 g_93 z fid<|h10.at z) ?_
  have h11 := lt_ hg.s h9.s
  have h12 := m1<|lt_ hBw h11
  have h13 := ((((p1_0.e hg).e h9).e hb).c h8<|lg h12).c si<|lg h12
  refine R z (lnR d_93 z h13)<|R z (lss z z)<|Wn<|Wc z (fun _ => ?_) (fun hc => (nolt hky hc).elim)
  refine Wk<|Wq<|Wb (Wd (X := noX) 2560 (.rd 0 (.rd 1 (.rd 2 (.rd 3 (.rd 4 (.rd 5 (.rd 6 (.ef 7 (.ef 8 (.ef 9 (.rd 10 (.ef 11 .done)))))))))))) mo (by kernel_rfl) fun w1u s6 _ => dR z z (fd f_95_0 z) ?_)
  have h14 := hk.e s6
  refine dR z z (l1 g_93 z fid<|h14.at z)<|dR z z (fd f_95_0 z)<|dR z z (l1 g_93 z fid<|(h10.e s6).at z)<|dR z z (mv z) ?_
  obtain ⟨x1v, e1w, hm1x⟩ := bdS hm1t
  refine dRX z z (at_ (α := Rule) d_93 z_144 z z z (h13.e s6) e1w) ?_
  rintro _ ⟨b43, o44, cs45, rfl, h1y, h1z, h46⟩
  obtain ⟨a20, n21, c22, a23, n24, c25, a26, n27, c28, a29, n2a, c2b, rfl, h2c, h2d, h2e, h2f, h2g, h2h, h2i⟩ := Rule_open h1z
  refine dR z z (lN (vs := (vR x1v a20 n21 c22 a23 n24 c25 a26 n27 c28 a29 n2a c2b)) g_144 z_144 z z fid h1y) ?_
  obtain ⟨r15, e2j, hm2k⟩ := bdS hm1x
  refine dE z z (fc call133 z<|W_w2c (B := B) e2j (lt_ hBw<|lt_ (lt_ (lt_ (lt_ h11 hb.s) h8.s) si.s) s6.s) h2c h2d h2e h2f h2g h2h h2i) (.inr fun _ _ h => chgB<|h.1) ?_
  rintro _ w16 ⟨sm, a2l, n2m, c2n, S2o, a2p, n2q, c2r, S2s, a2t, n2u, c2v, S2w, a2x, n2y, c2z, S30, rfl, h31, h32, h33, h34, h35, h36, h37, ha, h7⟩
  refine dE z z (fS [(.tmp 20)] el_93 z z z (szAll z) (lb z)<|lb z) (.inr fun _ _ h => chgB<|h.2.below) ?_
  rintro _ w17 ⟨rfl, h18⟩
  have he := h18.below
  have h38 : Blk w17 w16.z (vR r15 a2l n2m c2n a2p n2q c2r a2t n2u c2v a2x n2y c2z) := h18.blk
  obtain ⟨x39, e3a, hm3b⟩ := bdS hm2k
  refine dE z z (ef_pushN (α := Rule) el_93 e3a z z (((hd.e s6).e sm).e he) hj h38 (Rule_mkO (x := r15) (S1 := S2o) (S2 := S2s) (S3 := S2w) (S4 := S30) h31 h32 h33 (h34.e he) (h35.e he) (h36.e he)<|h37.e he) (aa_ (o0no (al_ h7) (ownS.lt hd) s6.s)<|aa_ (o0no (al_<|ar_ h7) (ownS.lt hd) s6.s)<|aa_ (o0no (al_<|ar_<|ar_ h7) (ownS.lt hd) s6.s)<|o0no (ar_<|ar_<|ar_ h7) (ownS.lt hd) s6.s)<|na_ (nl_ ha) (na_ (nl_<|nr_ ha) (na_ (nl_<|nr_<|nr_ ha) (nr_<|nr_<|nr_ ha)<|nj<|nr_<|nr_ ha)<|nmA (nmL<|nj<|nr_ ha)<|nmR<|nj<|nr_ ha)<|nmA (nmL<|nj ha)<|nmA (nmL<|nmR<|nj ha)<|nmR<|nmR<|nj ha) (.inl z) ?_
  rintro _ w3c ⟨Sr, a19, n1a, c1b, rfl, s1c, h3d, h3e, h1d⟩
  refine dR z z (fd f_95_0 z) ?_
  have h1e := o0n1 hf hh.lt h8.s
  refine dE0 z (fs (cur' := [sl a19 n1a c1b]) z_93 z z (((h14.e sm).e he).c s1c<|djs h1e) z (lb z) (oA z) z) (.inl z) ?_
  rintro _ w3f ⟨h3g, s3h⟩
  have h1f := s3h.one
  refine pD<|Wo<|Wg<|Rm z<|R z (inc_ hky (lt_ (repS.len p1_0) LEN_le) z z)<|Ra z<|Wl ?_
  have hl := lt_ (lt_ h8.s si.s) s6.s
  have h3i : ∀ k ∈ Sr, k ∉ [w1.z] := or2 h1d h1e (aa_ (o0n1 (al_ h7) hh.lt hl) (aa_ (o0n1 (al_ (ar_ h7)) hh.lt hl) (aa_ (o0n1 (al_ (ar_ (ar_ h7))) hh.lt hl) (o0n1 (ar_ (ar_ (ar_ h7))) hh.lt hl)))) (ltnot (mem1 hh.lt) (lt_ (lt_ hl sm.s) he.s))
  have hn := lt_ si.s s6.s
  have h3j : ∀ k ∈ Sr, w2.z ≤ k := or2 h1d hf (aa_ (o0le (al_ h7) hn) (aa_ (o0le (al_ (ar_ h7)) hn) (aa_ (o0le (al_ (ar_ (ar_ h7))) hn) (o0le (ar_ (ar_ (ar_ h7))) hn)))) (lele (lt_ (lt_ hn sm.s) he.s))
  have h3k : Chg (· ∈ [w1.z]) w2 w1r := cM (cr [w1.z] w2) si (io sr)
  have h3l : Chg (· ∈ [w1.z]) w2 w1u := cext h3k s6
  have h3m : Chg (· ∈ [w1.z]) w2 w16 := cext h3l sm
  have h3n : Chg (· ∈ [w1.z]) w2 w17 := cext h3m he
  have h3o : ∀ k ∈ S0, k ∈ [w1.z] ∨ w2.z ≤ k := or0 hf  (leor lr)
  have h3p : Chg (· ∈ [w1.z]) w2 w3c := cM h3n s1c h3o
  have h3q : Chg (· ∈ [w1.z]) w2 w3f := cM h3p h1f (io sr)
  exact fun _ q => ⟨x39, (som hm3b).symm, ⟨a19, n1a, c1b, Sr, (q.k<|s4 z z z z), h3q, (h3d.c h1f h3i), h3e, h3j, h3g⟩⟩
 ·rintro xc a47 w3r ⟨a3, n4, c5, S0, hS3s, ss, hd, hj, hf, hk⟩
  refine Wu ?_ hS3s
  refine Wq<|Ws<|Rm z<|R z (fd f_95_0 z) ?_
  have h1g := mm1 hp.lt h9.s
  refine R z (l1 g_93 z fid<|((((hp.e h9).e hb).c h8<|djs h1g).c ss<|djs h1g).at z) ?_
  have h1h := m1<|lt_ hBw<|lt_ hg.s h9.s
  refine R z (lnR d_93 z<|((((p1_0.e hg).e h9).e hb).c h8<|lg h1h).c ss<|lg h1h)<|R z (lss z z)<|Wn<|Wc z (fun hc => (noltt hc).elim) (fun _ => ?_)
  have h3t : Chg (· ∈ [w1.z]) w2 w3r := cM (cr [w1.z] w2) ss (io sr)
  exact We (fun a' ha' => ⟨rfl, ⟨a3, n4, c5, S0, (Sat.weaken ha'<|s2 z z), h3t, hd, hj, hf, hk⟩⟩)
 ·rintro xc a3u w48 rfl ⟨a3, n4, c5, S0, hS49, s1i, hd, hj, hf, hk⟩
  have hm3v := elL hmw
  revert a3u
  refine Wo<|Ws<|R z (lN (vs := [sl a3 n4 c5]) g_95 z_95 z z fid<|hk.row 0 1 z) ?_
  have h1j := mmr hq.lt
  refine E0 (fs (cur' := [sl a3 n4 c5]) z_95 z z (((hq.e hb).c h8<|djs h1j).c s1i<|djs h1j) z (lb z) (oA z) z) ?_
  rintro _ w4a ⟨h3w, s3x⟩
  have h1k := s3x.one
  refine Wn ?_
  obtain rfl := som hm3v
  have h1l := lt_ hg.s h9.s
  have h1m := m1 h1l
  exact Wr<|ret1 hr (resC g_95 z_95 z h3w z) ⟨(bM (bM (bM (bup (bup hg h9) hb) h8 h1m) s1i h1m) h1k<|m1 hg.s), a3, n4, c5, S0, z, (hd.c h1k<|o0n1 hf hq.lt<|lt_ hb.s h8.s), hj, (o0le hf<|lt_ (lt_ h1l hb.s) h8.s)⟩
 rintro r4b ex4c a4d w4e rfl ⟨rfl, hq3y⟩
 have hm3z := elR hmw
 obtain rfl := som hm3z
 exact ⟨hq3y, z⟩
theorem W_w2e {x1 : Registry} {res : Registry} (hm : M_spec_l31Copy x1 = some res) (hBw : B ≤ w0.z) (p1_0 : repS w0 B (sl A0 N0 C0) x1.versions) : CallsR prog 74 [(.agg #[sl A0 N0 C0])] w0 (Q8 w0 B res) := by
 unfold M_spec_l31Copy at hm
 refine goF func74 z z (lb z) fun fn hr => Ws<|E z (fb z) ?_
 rintro _ wj ⟨rfl, hq⟩
 have hb := hq.below
 have hk : Blk wj w0.z [sl A0 N0 C0] := hq.blk
 refine E z (fa zero_34) ?_
 rintro _ w1 ⟨rfl, ht⟩
 have h7 := ht.below
 have hn : Blk w1 wj.z [sl none 0 0] := ht.blk
 refine Wn<|Ws<|R z (bP (parts := []) (cs := [sl none 0 0]) build_34 z z)<|E z (fa zero_34) ?_
 rintro _ w1l ⟨rfl, hu⟩
 have h8 := hu.below
 have hl : Blk w1l w1.z [sl none 0 0] := hu.blk
 refine E0 (fs (cur' := [sl none 0 0]) z_34 z z hl z (lb z) (oA z) z) ?_
 rintro _ w2 ⟨h1m, s1n⟩
 have h6 := s1n.one
 refine Wn<|Wq<|Ws<|Ra z<|Wn ?_
 obtain ⟨u32, hu1o, hmr⟩ := bdS hm
 refine Wf (σ := (List Desc)) (ρ := Registry) (fun (ks : Nat) (xc : List Desc) a w => ∃ a3 n4 c5 S0, Sat 25 [(1, pt w0.z), (2, pt wj.z), (3, pt w1.z), (4, (vI ((ks : Nat) : Int)))] a ∧ Chg (· ∈ [w1.z]) w2 w ∧ ownS w S0 (sl a3 n4 c5) xc ∧ S0.Nodup ∧ (∀ k ∈ S0, w2.z ≤ k) ∧ Blk w w1.z [sl a3 n4 c5]) (fun (xc : List Desc) a w => ∃ a3 n4 c5 S0, Sat 25 [(2, pt wj.z), (3, pt w1.z)] a ∧ Chg (· ∈ [w1.z]) w2 w ∧ ownS w S0 (sl a3 n4 c5) xc ∧ S0.Nodup ∧ (∀ k ∈ S0, w2.z ≤ k) ∧ Blk w w1.z [sl a3 n4 c5]) (fun r ex a w => ex = .ret ∧ RetPost prog fn (Q8 w0 B r) a w) hu1o ?_ ?_ ?_ ?_ ?_
 ·exact fun _ q => ⟨none, 0, 0, [], (q.k<|s4 z z z z), (cr [w1.z] w2), onL, nd_nil, an_, h1m⟩
 ·rintro ks xc a33 w1p o34 hkv ⟨a3, n4, c5, S0, hS1q, sd, he, hg, ha, hh⟩ hm1r
  refine Wu ?_ hS1q
  refine Wq<|Ws<|Rm z<|R z (fd f_34_0 z) ?_
  have hw := mm1 hk.lt h7.s
  have hx := (((hk.e h7).e h8).c h6<|djs hw).c sd<|djs hw
  refine R z (l1 g_32 z fid<|hx.at z) ?_
  have hy := lt_ hb.s h7.s
  have hz := m1<|lt_ hBw hy
  have h10 := ((((p1_0.e hb).e h7).e h8).c h6<|lg hz).c sd<|lg hz
  refine R z (lnR d_32 z h10)<|R z (lss z z)<|Wn<|Wc z (fun _ => ?_) (fun hc => (nolt hkv hc).elim)
  refine Wk<|Wq<|Wb (Wd (X := noX) 2560 (.rd 0 (.rd 1 (.rd 2 (.rd 3 (.rd 4 (.rd 5 (.rd 6 (.ef 7 (.ef 8 (.ef 9 (.rd 10 (.ef 11 .done)))))))))))) mo (by kernel_rfl) fun w1s s9 _ => dR z z (fd f_34_0 z) ?_)
  have h11 := hh.e s9
  refine dR z z (l1 g_32 z fid<|h11.at z)<|dR z z (fd f_34_0 z)<|dR z z (l1 g_32 z fid<|(hx.e s9).at z)<|dR z z (mv z) ?_
  obtain ⟨x35, e1t, hm1u⟩ := bdS hm1r
  refine dRX z z (at_ (α := Desc) d_32 z_95 z z z (h10.e s9) e1t) ?_
  rintro _ ⟨b36, o37, cs38, rfl, h1v, h1w, h39⟩
  obtain ⟨a1x, n1y, c1z, rfl, h20⟩ := Desc_open h1w
  refine dR z z (lN (vs := [sl a1x n1y c1z]) g_95 z_95 z z fid h1v) ?_
  obtain ⟨r21, e22, hm23⟩ := bdS hm1u
  refine dE z z (fc call105 z<|W_w2d (B := B) e22 (lt_ hBw<|lt_ (lt_ (lt_ (lt_ hy h8.s) h6.s) sd.s) s9.s) h20) (.inr fun _ _ h => chgB<|h.1) ?_
  rintro _ w12 ⟨si, a24, n25, c26, S27, rfl, h28, h29, ho⟩
  refine dE z z (fS [(.tmp 20)] el_32 z z z (szAll z) (lb z)<|lb z) (.inr fun _ _ h => chgB<|h.2.below) ?_
  rintro _ w13 ⟨rfl, h14⟩
  have hf := h14.below
  have h2a : Blk w13 w12.z [sl a24 n25 c26] := h14.blk
  obtain ⟨x2b, e2c, hm2d⟩ := bdS hm23
  refine dE z z (ef_pushN (α := Desc) el_32 e2c z z (((he.e s9).e si).e hf) hg h2a (Desc_mkO (x := r21) (S1 := S27)<|h28.e hf) (o0no ho (ownS.lt he) s9.s) h29) (.inl z) ?_
  rintro _ w2e ⟨Sm, a15, n16, c17, rfl, s18, h2f, h2g, h19⟩
  refine dR z z (fd f_34_0 z) ?_
  have h1a := o0n1 ha hl.lt h6.s
  refine dE0 z (fs (cur' := [sl a15 n16 c17]) z_32 z z (((h11.e si).e hf).c s18<|djs h1a) z (lb z) (oA z) z) (.inl z) ?_
  rintro _ w2h ⟨h2i, s2j⟩
  have h1b := s2j.one
  refine pD<|Wo<|Wg<|Rm z<|R z (inc_ hkv (lt_ (repS.len p1_0) LEN_le) z z)<|Ra z<|Wl ?_
  have h1c := lt_ (lt_ h6.s sd.s) s9.s
  have h2k : ∀ k ∈ Sm, k ∉ [w1.z] := or2 h19 h1a (o0n1 ho hl.lt h1c) (ltnot (mem1 hl.lt) (lt_ (lt_ h1c si.s) hf.s))
  have h1d := lt_ sd.s s9.s
  have h2l : ∀ k ∈ Sm, w2.z ≤ k := or2 h19 ha (o0le ho h1d) (lele (lt_ (lt_ h1d si.s) hf.s))
  have h2m : Chg (· ∈ [w1.z]) w2 w1p := cM (cr [w1.z] w2) sd (io sr)
  have h2n : Chg (· ∈ [w1.z]) w2 w1s := cext h2m s9
  have h2o : Chg (· ∈ [w1.z]) w2 w12 := cext h2n si
  have h2p : Chg (· ∈ [w1.z]) w2 w13 := cext h2o hf
  have h2q : ∀ k ∈ S0, k ∈ [w1.z] ∨ w2.z ≤ k := or0 ha  (leor lr)
  have h2r : Chg (· ∈ [w1.z]) w2 w2e := cM h2p s18 h2q
  have h2s : Chg (· ∈ [w1.z]) w2 w2h := cM h2r h1b (io sr)
  exact fun _ q => ⟨x2b, (som hm2d).symm, ⟨a15, n16, c17, Sm, (q.k<|s4 z z z z), h2s, (h2f.c h1b h2k), h2g, h2l, h2i⟩⟩
 ·rintro xc a3a w2t ⟨a3, n4, c5, S0, hS2u, sp, he, hg, ha, hh⟩
  refine Wu ?_ hS2u
  refine Wq<|Ws<|Rm z<|R z (fd f_34_0 z) ?_
  have h1e := mm1 hk.lt h7.s
  refine R z (l1 g_32 z fid<|((((hk.e h7).e h8).c h6<|djs h1e).c sp<|djs h1e).at z) ?_
  have h1f := m1<|lt_ hBw<|lt_ hb.s h7.s
  refine R z (lnR d_32 z<|((((p1_0.e hb).e h7).e h8).c h6<|lg h1f).c sp<|lg h1f)<|R z (lss z z)<|Wn<|Wc z (fun hc => (noltt hc).elim) (fun _ => ?_)
  have h2v : Chg (· ∈ [w1.z]) w2 w2t := cM (cr [w1.z] w2) sp (io sr)
  exact We (fun a' ha' => ⟨rfl, ⟨a3, n4, c5, S0, (Sat.weaken ha'<|s2 z z), h2v, he, hg, ha, hh⟩⟩)
 ·rintro xc a2w w3b rfl ⟨a3, n4, c5, S0, hS3c, s1g, he, hg, ha, hh⟩
  have hm2x := elL hmr
  revert a2w
  refine Wo<|Ws<|R z (lN (vs := [sl a3 n4 c5]) g_34 z_34 z z fid<|hh.row 0 1 z) ?_
  have h1h := mmr hn.lt
  refine E0 (fs (cur' := [sl a3 n4 c5]) z_34 z z (((hn.e h8).c h6<|djs h1h).c s1g<|djs h1h) z (lb z) (oA z) z) ?_
  rintro _ w3d ⟨h2y, s2z⟩
  have h1i := s2z.one
  refine Wn ?_
  obtain rfl := som hm2x
  have h1j := lt_ hb.s h7.s
  have h1k := m1 h1j
  exact Wr<|ret1 hr (resC g_34 z_34 z h2y z) ⟨(bM (bM (bM (bup (bup hb h7) h8) h6 h1k) s1g h1k) h1i<|m1 hb.s), a3, n4, c5, S0, z, (he.c h1i<|o0n1 ha hn.lt<|lt_ h8.s h6.s), hg, (o0le ha<|lt_ (lt_ h1j h8.s) h6.s)⟩
 rintro r3e ex3f a3g w3h rfl ⟨rfl, hq30⟩
 have hm31 := elR hmr
 obtain rfl := som hm31
 exact ⟨hq30, z⟩
theorem W_w0t {x1 : Log} {res : Log} (hm : M_spec_l34Copy x1 = some res) (hBw : B ≤ w0.z) (p1_0 : repS w0 B (sl A0 N0 C0) x1.bytes) (p1_1 : inI x1.stored) : CallsR prog 75 [(.agg #[sl A0 N0 C0, vI x1.stored])] w0 (Q9 w0 B res) := by
 unfold M_spec_l34Copy at hm
 refine goF func75 z z (lb z) fun fn hr => Ws<|E z (fb z) ?_
 rintro _ w4 ⟨rfl, hb⟩
 have h3 := hb.below
 have h5 : Blk w4 w0.z [sl A0 N0 C0, vI x1.stored] := hb.blk
 refine E z (fa zero_35) ?_
 rintro _ w6 ⟨rfl, hc⟩
 have h1 := hc.below
 have h7 : Blk w6 w4.z [sl none 0 0, vI 0] := hc.blk
 refine Wn<|Wq (Wd (X := fun k => k ∈ ([] : List Nat) ∨ w6.z ≤ k) 128 (.rd 1 (.rd 2 (.rd 4 (.rd 5 (.ef 0 (.ef 3 (.rd 6 (.ef 7 .done)))))))) mo (by kernel_rfl) fun wk s0 _ => dR z z (fd f_35_0 z) ?_)
 have hd := (h5.e h1).e s0
 refine dR z z (l1 g_25 z (notNew nm0<|Nat.lt_of_lt_of_le h5.lt h1.s)<|hd.at z)<|dR z z (fd f_35_1 z)<|dR z z (l1 g_3 z (notNew nm0<|Nat.lt_of_lt_of_le h5.lt h1.s)<|hd.at z)<|dE z z (f0 (α := UInt8) el_25) (.inr fun _ _ h => chgB (by obtain ⟨_, _, _, _, h, _⟩ := h; exact h)) ?_
 rintro _ ws ⟨aw, nx, cy, rfl, s2, hn⟩
 obtain ⟨xz, em, hmo⟩ := bdS hm
 have hp : ∀ k ∈ [wk.z], k ∈ ([] : List Nat) ∨ w6.z ≤ k := mor s0.s
 refine dE z z (fN (α := UInt8) el_25 em z z hn nd_one<|(((p1_0.e h3).e h1).e s0).e s2) (.inr fun _ _ h => by obtain ⟨_, _, _, _, _, h, _⟩ := h; exact h.mono fun k _ hk => hp k hk) ?_
 rintro _ w10 ⟨Se, a8, n9, ca, rfl, sf, hq, ht, hg⟩
 refine dR z z (bP (parts := [(0, (.tmp 6)), (1, (.tmp 8))]) (cs := [sl a8 n9 ca, vI x1.stored]) build_35 z z) ?_
 have hh := mm1 h7.lt s0.s
 refine dE0 z (fs (cur' := [sl a8 n9 ca, vI x1.stored]) z_35 z z (((h7.e s0).e s2).c sf<|djs hh) z (lb z) (oA z) z) (.inl z) ?_
 rintro _ w11 ⟨hu, sr⟩
 have hi := sr.one
 refine pD<|Wo ?_
 obtain rfl := som hmo
 have hv : ∀ k ∈ Se, k ∉ [w4.z] := or1 hg hh (ltnot (mem1 h7.lt) (lt_ s0.s s2.s))
 have hj := lt_ (lt_ h3.s h1.s) s0.s
 have hl := m1 hj
 exact Wr<|ret1 hr (resC g_35 z_35 z hu z) ⟨(bM (bM (bup (bup (bup h3 h1) s0) s2) sf hl) hi<|m1 h3.s), a8, n9, ca, Se, z, (hq.c hi hv), p1_1, ht, (o1le hg hl<|lt_ hj s2.s)⟩
theorem W_w0u {x1 : Archive} {res : Archive} (hm : M_spec_l35Copy x1 = some res) (hBw : B ≤ w0.z) (p1_0 : repS w0 B (sl A0 N0 C0) x1.registry.versions) (p1_1 : repS w0 B (sl A1 N1 C1) x1.log.bytes) (p1_2 : inI x1.log.stored) : CallsR prog 47 [(.agg #[sl A0 N0 C0, sl A1 N1 C1, vI x1.log.stored])] w0 (Q10 w0 B res) := by
 unfold M_spec_l35Copy at hm
 refine goF func47 z z (lb z) fun fn hr => Ws<|E z (fb z) ?_
 rintro _ wf ⟨rfl, hg⟩
 have h1 := hg.below
 have hn : Blk wf w0.z [sl A0 N0 C0, sl A1 N1 C1, vI x1.log.stored] := hg.blk
 refine E z (fa zero_37) ?_
 rintro _ wo ⟨rfl, hh⟩
 have h2 := hh.below
 have h4 : Blk wo wf.z [sl none 0 0, sl none 0 0, vI 0] := hh.blk
 refine Wn<|Wq (Wd (X := noX) 128 (.rd 0 (.rd 1 (.rd 3 (.rd 4 (.ef 2 (.ef 5 (.rd 6 (.ef 7 .done)))))))) mo (by kernel_rfl) fun w11 s0 _ => dR z z (fd f_37_0 z) ?_)
 have hi := (hn.e h2).e s0
 refine dR z z (lN (vs := [sl A0 N0 C0]) g_34 z_34 z z fid<|hi.row 0 1 z)<|dR z z (fd f_37_1 z)<|dR z z (lN (vs := [sl A1 N1 C1, vI x1.log.stored]) g_35 z_35 z z fid<|hi.row 1 2 z) ?_
 have h5 := lt_ (lt_ h1.s h2.s) s0.s
 obtain ⟨r12, ep, hmq⟩ := bdS hm
 refine dE z z (fc call74 z<|W_w2e (B := B) (x1 := (⟨x1.registry.versions⟩ : Registry)) ep (lt_ hBw h5)<|((p1_0.e h1).e h2).e s0) (.inr fun _ _ h => chgB<|h.1) ?_
 rintro _ w13 ⟨s3, a6, n7, c8, Sr, rfl, hj, ht, hk⟩
 have hl := lt_ h5 s3.s
 obtain ⟨rm, es, hmu⟩ := bdS hmq
 refine dE z z (fc call75 z<|W_w0t (B := B) (x1 := (⟨x1.log.bytes, x1.log.stored⟩ : Log)) es (lt_ hBw hl) ((((p1_1.e h1).e h2).e s0).e s3) p1_2) (.inr fun _ _ h => chgB<|h.1) ?_
 rintro _ w14 ⟨s9, aa, nb, cc, Sv, rfl, hw, hx, hy, hd⟩
 refine dR z z (bP (parts := [(0, (.tmp 5)), (1, (.tmp 8))]) (cs := [sl a6 n7 c8, sl aa nb cc, vI rm.stored]) build_37 z z)<|dE0 z (fs (cur' := [sl a6 n7 c8, sl aa nb cc, vI rm.stored]) z_37 z z (((h4.e s0).e s3).e s9) z (lb z) (oA z) z) (.inl z) ?_
 rintro _ w15 ⟨hz, s10⟩
 have he := s10.one
 refine pD<|Wo ?_
 obtain rfl := som hmu
 exact Wr<|ret1 hr (resC g_37 z_37 z hz z) ⟨(bM (bup (bup (bup (bup h1 h2) s0) s3) s9) he<|m1 h1.s), a6, n7, c8, Sr, aa, nb, cc, Sv, z, ((hj.e s9).c he<|o0n1 hk h4.lt s0.s), (hw.c he<|o0n1 hd h4.lt<|lt_ s0.s s3.s), hx, (na_ ht hy<|ds<|o0no hd (ownS.lt hj) lr), (aa_ (o0le hk h5)<|o0le hd hl)⟩
def Q11 (w0 : World) (B : Nat) (r : Bool) (v : Value) (w' : World) : Prop := Bw w0 w' ∧ (fun r1 => (vB r1) = v) r
theorem W_w00 {x1 : Int} {x2 : Int} {x3 : Int} {res : Bool} (hm : M_spec_l1In x1 x2 x3 = some res) (hBw : B ≤ w0.z) (p1_0 : inI x1) (p2_0 : inI x2) (p3_0 : inI x3) : CallsR prog 97 [vI x1, vI x2, vI x3] w0 (Q11 w0 B res) := by
 unfold M_spec_l1In at hm
 refine goF func97 z z (lb z) fun fn hr => Ws<|Ra z<|Wn<|Wq ?_
 obtain ⟨u2, hu1, hm3⟩ := bdS hm
 refine Wt (fun a w => ∃ (x4 : Bool), x4 = u2 ∧ Sat 15 [(6, vB x4)] a ∧ Below w0.z w0 w) ?_ ?_
 ·refine Wg<|Rm z<|Rm z<|R z (rd_geq z z)<|Rm z ?_
  rcases bs (decide (x2 ≤ x1)) with hc0 | hc0
  ·exact Rh z hc0 (mv z)<|Rh z hc0 (mv z)<|Rh z hc0 (rd_leq z z)<|R z (pT z hc0 z)<|Ra z<|Wl (fun _ q => ⟨decide (x1 ≤ x3), som<|ifT hu1 hc0, (q.k<|s1 z), (br w0)⟩)
  iterate 3 refine Nh z hc0 ?_
  exact R z (pF z hc0 z)<|Ra z<|Wl (fun _ q => ⟨false, som<|ifF hu1 hc0, (q.k<|s1 z), (br w0)⟩)
 rintro a5 w7 ⟨x4, rfl, hS8, s6⟩
 revert a5
 refine Wo ?_
 obtain rfl := som hm3
 exact Wr<|ret1 hr z ⟨s6, z⟩
theorem W_w0v {x1 : List UInt8} {x2 : Bool} {res : Int} (hm : M_spec_ReadInteger x1 x2 = some res) (hBw : B ≤ w0.z) (p1_0 : repS w0 B (sl A0 N0 C0) x1) : CallsR prog 125 [sl A0 N0 C0, vB x2] w0 (Q0 w0 B res) := by
 unfold M_spec_ReadInteger at hm
 refine goF func125 z z (lb z) fun fn hr => Ws<|Ra z<|Wn<|Ws<|Ra z<|Wn<|Wq<|Ws<|Rm z<|R z (lnR d_25 z p1_0)<|R z (rd_gtr z z)<|Wn<|Wc z (fun hc5 => ?_) (fun hc5 => ?_)
 ·refine Ws<|Ra z<|Wn ?_
  obtain rfl := som (ifT hm hc5)
  exact Wr<|ret1 hr z ⟨(br w0), z, (ii z)⟩
 refine Wk<|Wq<|Ws<|Ra z<|Wn ?_
 obtain ⟨uv, hue, hm9⟩ := bdS (ifF hm hc5)
 refine Wf (σ := Int) (ρ := Int) (fun (k1 : Nat) (x0 : Int) a w => Sat 33 [(0, sl A0 N0 C0), (1, vB x2), (5, vI x0), (6, (vI ((k1 : Nat) : Int)))] a ∧ Below w0.z w0 w ∧ inI x0) (fun (x0 : Int) a w => Sat 33 [(5, vI x0)] a ∧ Below w0.z w0 w ∧ inI x0) (fun r ex a w => ex = .ret ∧ RetPost prog fn (Q0 w0 B r) a w) hue ?_ ?_ ?_ ?_ ?_
 ·exact fun _ q => ⟨(q.k<|s4 z z z z), (br w0), (ii z)⟩
 ·rintro k1 x0 aw w2 ox hk6 ⟨hSf, sa, h3⟩ hmg
  refine Wu ?_ hSf
  refine Wq<|Ws<|Rm z<|Rm z ?_
  have h7 := p1_0.e sa
  refine R z (lnR d_25 z h7)<|R z (lss z z)<|Wn<|Wc z (fun _ => ?_) (fun hc => (nolt hk6 hc).elim)
  refine Wk<|Wq<|Wb<|Ws<|Rm z<|Ra z<|Wn<|Wq<|Ws<|Rm z<|Wn ?_
  obtain ⟨uh, hub, hmi⟩ := bdS hmg
  refine Wt (fun a w => ∃ (x4 : Int), x4 = uh ∧ Sat 33 [(0, sl A0 N0 C0), (1, vB x2), (5, vI x0), (6, (vI ((k1 : Nat) : Int))), (7, vI x4)] a ∧ Below w2.z w2 w ∧ inI x4) ?_ ?_
  ·refine Wc z (fun hc8 => ?_) (fun hc8 => ?_)
   ·exact Wg<|Rm z<|R z (lnR d_25 z h7)<|R z (sb_ z z)<|Rm z<|R z (sb_ z z)<|Ra z<|Wl (fun _ q => ⟨isub (isub (x1.length : Int) 1) ((k1 : Nat) : Int), som<|ifT hub hc8, (q.k<|s5 z z z z z), (br w2), (iS _ _)⟩)
   exact WC_skip (fun _ q => ⟨((k1 : Nat) : Int), som<|ifF hub hc8, (q.k<|s5 z z z z z), (br w2), (ic (Nat.le_of_lt hk6)<|lt_ (repS.len p1_0) LEN_le)⟩)
  rintro aj wy ⟨x4, rfl, hSz, sc, h10⟩
  revert aj
  refine Wo<|Wg<|Rm z<|R z (rd_mul z z)<|Rm z<|Rm z ?_
  obtain ⟨xk, el, hmm⟩ := bdS hmi
  refine RX z (at_ (α := UInt8) d_25 z_5 z z z (h7.e sc) el) ?_
  rintro _ ⟨b11, o12, cs13, rfl, hn, ho, h14⟩
  obtain rfl := u8 ho
  exact R z (l1 g_5 z fid<|hn.at0 z)<|R z (rd_convUI d_5 d_3 z)<|R z (add_ z z)<|Ra z<|Wn<|Wg<|Rm z<|R z (inc_ hk6 (lt_ (repS.len p1_0) LEN_le) z z)<|Ra z<|Wl (fun _ q => ⟨iadd (imul x0 256)<|byteI xk, (som hmm).symm, ⟨(q.k<|s4 z z z z), (bup sa sc), (iA _ _)⟩⟩)
 ·rintro x0 a15 w16 ⟨hSp, sd, h3⟩
  refine Wu ?_ hSp
  refine Wq<|Ws<|Rm z<|Rm z<|R z (lnR d_25 z<|p1_0.e sd)<|R z (lss z z)<|Wn<|Wc z (fun hc => (noltt hc).elim) (fun _ => ?_)
  exact We (fun a' ha' => ⟨rfl, ⟨(Sat.weaken ha'<|s1 z), sd, h3⟩⟩)
 ·rintro x0 aq w17 rfl ⟨hS18, sr, h3⟩
  have hms := elL hm9
  revert aq
  refine Wo<|Ws<|Rm z<|Ra z<|Wn ?_
  obtain rfl := som hms
  exact Wr<|ret1 hr z ⟨sr, z, h3⟩
 rintro r19 ex1a a1b w1c rfl ⟨rfl, hqt⟩
 have hmu := elR hm9
 obtain rfl := som hmu
 exact ⟨hqt, z⟩
def Q12 (w0 : World) (B : Nat) (r : (List UInt8) × Bool) (v : Value) (w' : World) : Prop := Bw w0 w' ∧ un2 (fun r1 r2 => ∃ a1 n1 c1 S1, v = .tuple #[sl a1 n1 c1, vB r2] ∧ ownS w' S1 (sl a1 n1 c1) r1 ∧ S1.Nodup ∧ (∀ k ∈ S1, w0.z ≤ k)) r
theorem W_w2f {x1 : List UInt8} {res : (List UInt8) × Bool} (hm : M_spec_UnpackBytes n x1 = some res) (hBw : B ≤ w0.z) (p1_0 : repS w0 B (sl A0 N0 C0) x1) : CallsR prog 126 [sl A0 N0 C0] w0 (Q12 w0 B res) := by
 unfold M_spec_UnpackBytes at hm
 refine goF func126 z z (lb z) fun fn hr => Ws<|Ra z<|Ra z<|Wn<|Ws<|E z (f0 (α := UInt8) el_25) ?_
 rintro _ w3 ⟨a1u, n1v, c1w, rfl, s7, h1x⟩
 refine Ra z<|Wn<|Wq<|Ws<|Ra z<|Wn ?_
 obtain ⟨u4p, hu1y, hm18⟩ := bdS hm
 refine WC_iter (σ := (List UInt8) × Int) (ρ := (List UInt8) × Bool) (fun s a w => un2 (fun xk x4 => ∃ a5 n8 c9 S0, Sat 79 [(0, sl A0 N0 C0), (4, sl a5 n8 c9), (5, vI x4)] a ∧ Chg (· ∈ [w0.z]) w3 w ∧ ownS w S0 (sl a5 n8 c9) xk ∧ S0.Nodup ∧ (∀ k ∈ S0, k ∈ [w0.z] ∨ w3.z ≤ k) ∧ inI x4) s) (fun s a w => un2 (fun xk x4 => ∃ a5 n8 c9 S0, Sat 79 [(4, sl a5 n8 c9)] a ∧ Chg (· ∈ [w0.z]) w3 w ∧ ownS w S0 (sl a5 n8 c9) xk ∧ S0.Nodup ∧ (∀ k ∈ S0, k ∈ [w0.z] ∨ w3.z ≤ k) ∧ inI x4) s) (fun r ex a w => ex = .ret ∧ RetPost prog fn (Q12 w0 B r) a w) hu1y ?_ ?_ ?_ ?_
 ·exact fun _ q => ⟨a1u, n1v, c1w, [w0.z], (q.k<|s3 z z z), (cr [w0.z] w3), h1x, nd_one, (io sr), (ii z)⟩
 ·rintro ⟨xk, x4⟩ a4q wg o4r ⟨a5, n8, c9, S0, hS1z, sb, hl, hn, hi, h19⟩ hm20
  have hm1a := un2S hm20
  refine Wu ?_ hS1z
  refine Wq<|Ws<|Rm z<|Rm z ?_
  have h1b := m1 hBw
  have ho := (p1_0.e s7).c sb<|lg h1b
  refine R z (lnR d_25 z ho)<|R z (lss z z)<|Wn<|Wc z (fun hcx => ?_) (fun hcx => ?_)
  ·refine Wk<|Wb<|Ws<|Rm z<|Rm z ?_
   obtain ⟨xm, e21, hm22⟩ := bdS (ifT hm1a hcx)
   refine RX z (at_ (α := UInt8) d_25 z_5 z z z ho e21) ?_
   rintro _ ⟨b4s, o4t, cs4u, rfl, h23, h24, h4v⟩
   obtain rfl := u8 h24
   refine R z (l1 g_5 z fid<|h23.at0 z)<|R z (rd_convUI d_5 d_3 z)<|Ra z<|Wn<|Wq<|Wb<|Wq ?_
   obtain ⟨u25, hu1c, hm1d⟩ := bdS hm22
   refine Wt (fun a w => ∃ (xy : Bool), xy = u25 ∧ Sat 79 [(0, sl A0 N0 C0), (4, sl a5 n8 c9), (5, vI x4), (6, vI<|byteI xm), (40, vB xy)] a ∧ Below wg.z wg w) ?_ ?_
   ·refine Wg<|Rm z<|R z (eql z z)<|Rm z ?_
    rcases bs ((byteI xm) == 0) with hcf | hcf
    ·exact Nh z hcf<|Nh z hcf<|R z (pT z hcf z)<|Rm z<|Nh z z<|Nh z z<|Nh z z<|Nh z z<|Nh z z<|R z (pT z z z)<|Ra z<|Wl (fun _ q => ⟨true, som<|ifT hu1c hcf, (q.k<|s5 z z z z z), (br wg)⟩)
    have hm1e := ifF hu1c hcf
    refine Rh z hcf (mv z)<|Rh z hcf (eql z z)<|R z (pF z hcf z)<|Rm z ?_
    rcases bs ((byteI xm) == 128) with hca | hca
    ·iterate 5 refine Nh z hca ?_
     exact R z (pT z hca z)<|Ra z<|Wl (fun _ q => ⟨true, som<|ifT hm1e hca, (q.k<|s5 z z z z z), (br wg)⟩)
    exact Rh z hca (mv z)<|Rh z hca (add_ z z)<|Rh z hca (mv z)<|Rh z hca (lnR d_25 z ho)<|Rh z hca (rd_geq z z)<|R z (pF z hca z)<|Ra z<|Wl (fun _ q => ⟨decide ((x1.length : Int) ≤ (iadd x4 1)), som<|ifF hm1e hca, (q.k<|s5 z z z z z), (br wg)⟩)
   rintro a26 w1 ⟨xy, rfl, hS4w, s6⟩
   revert a26
   refine Wo<|Wc z (fun hcz => ?_) (fun hcz => ?_)
   ·refine Ws<|E z (f0 (α := UInt8) el_25) ?_
    rintro _ w4x ⟨a27, n28, c29, rfl, s2a, h2b⟩
    exact Ra z<|Ra z<|Wn<|Wr<|rtO<|rtO<|qL (som<|ifT hm1d hcz).symm<|ret2 hr z z ⟨(bup (bup (bM s7 sb<|mem1 lr) s6) s2a), a27, n28, c29, [w1.z], z, h2b, nd_one, (m1<|lt_ (lt_ s7.s sb.s) s6.s)⟩
   refine Ws<|Rm z<|R z (rd_gtr z z)<|Ra z<|Wn ?_
   obtain ⟨u2c, hu1f, hm10⟩ := bdS (ifF hm1d hcz)
   refine Wt (fun a w => ∃ (xr : List UInt8) (xp : Int), Sum.inl (xr, xp) = u2c ∧ ∃ av ns cw Sj, Sat 79 [(0, sl A0 N0 C0), (4, sl av ns cw), (5, vI xp)] a ∧ Chg (· ∈ S0) w1 w ∧ ownS w Sj (sl av ns cw) xr ∧ Sj.Nodup ∧ (∀ k ∈ Sj, k ∈ S0 ∨ w1.z ≤ k) ∧ inI xp) ?_ ?_
   ·refine Wc z (fun hc11 => ?_) (fun hc11 => ?_)
    ·refine Wq<|Ws<|Ra z<|Wn ?_
     obtain ⟨u4y, hu2d, hm1g⟩ := bdS (ifT hu1f hc11)
     refine Wf (σ := (List UInt8)) (ρ := (List UInt8) × Bool) (fun (k1h : Nat) (xh : List UInt8) a w => ∃ ac nd ce S2, Sat 79 [(0, sl A0 N0 C0), (4, sl ac nd ce), (5, vI x4), (6, vI<|byteI xm), (7, (vI ((k1h : Nat) : Int)))] a ∧ Chg (· ∈ S0) w1 w ∧ ownS w S2 (sl ac nd ce) xh ∧ S2.Nodup ∧ (∀ k ∈ S2, k ∈ S0 ∨ w1.z ≤ k)) (fun (xh : List UInt8) a w => ∃ ac nd ce S2, Sat 79 [(0, sl A0 N0 C0), (4, sl ac nd ce), (5, vI x4)] a ∧ Chg (· ∈ S0) w1 w ∧ ownS w S2 (sl ac nd ce) xh ∧ S2.Nodup ∧ (∀ k ∈ S2, k ∈ S0 ∨ w1.z ≤ k)) (fun r ex a w => ex = .ret ∧ RetPost prog fn (Q12 w0 B r) a w) hu2d ?_ ?_ ?_ ?_ ?_
     ·exact fun _ q => ⟨a5, n8, c9, S0, (q.k<|s5 z z z z z), (cr S0 w1), (hl.e s6), hn, (io sr)⟩
     ·rintro k1h xh a4z w1i o50 hk1j ⟨ac, nd, ce, S2, hS2e, s12, hq, ht, hu⟩ hm2f
      refine Wu ?_ hS2e
      refine Wq<|Ws<|Rm z<|Rm z<|R z (sb_ z z)<|R z (lss z z)<|Wn<|Wc z (fun _ => ?_) (fun hc => (noltI hk1j hc).elim)
      refine Wk<|Wq<|Wb<|Wg<|Rm z<|Rm z<|Rm z<|R z (add_ z z) ?_
      obtain ⟨x2g, e2h, hm2i⟩ := bdS hm2f
      refine RX z (at_ (α := UInt8) d_25 z_5 z z z ((ho.e s6).c s12<|lg<|o1le hi h1b<|lt_ hBw s7.s) e2h) ?_
      rintro _ ⟨b51, o52, cs53, rfl, h2j, h2k, h54⟩
      obtain rfl := u8 h2k
      refine R z (l1 g_5 z fid<|h2j.at0 z)<|E z (fS [(.tmp 69)] el_25 z z z (szAll z) (lb z)<|lb z) ?_
      rintro _ w1k ⟨rfl, h13⟩
      have h14 := h13.below
      have h2l : Blk w1k w1i.z [vU (byteI x2g)] := h13.blk
      have h55 := ownS_new1 h13 UInt8_own
      obtain ⟨x2m, e2n, hm2o⟩ := bdS hm2i
      refine E z (ef_pushN (α := UInt8) el_25 e2n z z (hq.e h14) ht h2l UInt8_own an_ nd_nil) ?_
      rintro _ w2p ⟨S1l, a2q, n2r, c2s, rfl, s2t, h2u, h2v, h2w⟩
      refine Ra z<|Wn<|Wg<|Rm z<|R z (inc_ hk1j (tl_<|iS _ _) z z)<|Ra z<|Wl ?_
      have h1m : ∀ k ∈ S2, k ∈ S0 ∨ w1.z ≤ k := or1 hu (io sr) (leor lr)
      have h2x : ∀ k ∈ S1l, k ∈ S0 ∨ w1.z ≤ k := or2 h2w h1m an_ (leor (lt_ s12.s h14.s))
      have h2y : Chg (· ∈ S0) w1 w1i := cM (cr S0 w1) s12 (io sr)
      have h2z : Chg (· ∈ S0) w1 w1k := cext h2y h14
      have h30 : Chg (· ∈ S0) w1 w2p := cM h2z s2t h1m
      exact fun _ q => ⟨x2m, (som hm2o).symm, ⟨a2q, n2r, c2s, S1l, (q.k<|s5 z z z z z), h30, h2u, h2v, h2x⟩⟩
     ·rintro xh a56 w31 ⟨ac, nd, ce, S2, hS32, s33, hq, ht, hu⟩
      refine Wu ?_ hS32
      refine Wq<|Ws<|Rm z<|Rm z<|R z (sb_ z z)<|R z (lss z z)<|Wn<|Wc z (fun hc => (nolttI hc).elim) (fun _ => ?_)
      have h34 : ∀ k ∈ S2, k ∈ S0 ∨ w1.z ≤ k := or1 hu (io sr) (leor lr)
      have h35 : Chg (· ∈ S0) w1 w31 := cM (cr S0 w1) s33 (io sr)
      exact We (fun a' ha' => ⟨rfl, ⟨ac, nd, ce, S2, (Sat.weaken ha'<|s3 z z z), h35, hq, ht, h34⟩⟩)
     ·rintro xh a36 w37 rfl ⟨ac, nd, ce, S2, hS57, s38, hq, ht, hu⟩
      have hm39 := elL hm1g
      revert a36
      refine Wo<|Wg<|Rm z<|R z (add_ z z)<|Ra z<|Wl ?_
      have h3a : ∀ k ∈ S2, k ∈ S0 ∨ w1.z ≤ k := or1 hu (io sr) (leor lr)
      have h3b : Chg (· ∈ S0) w1 w37 := cM (cr S0 w1) s38 (io sr)
      exact fun _ q => ⟨xh, iadd x4 2, som hm39, ac, nd, ce, S2, (q.k<|s3 z z z), h3b, hq, ht, h3a, (iA _ _)⟩
     rintro r58 ex59 a5a w5b rfl ⟨rfl, hq3c⟩
     have hm3d := elR hm1g
     obtain rfl := som hm3d
     have hm3e := elR hm10
     exact ⟨(inbR<|inbR<|QO_ret (som hm3e).symm ⟨rfl, hq3c⟩), z⟩
    have hm1n := ifF hu1f hc11
    refine Wq<|Ws<|Rm z<|R z (add_ z z)<|Rm z<|R z (add_ z z)<|Rm z ?_
    have h1o := ho.e s6
    refine R z (lnR d_25 z h1o)<|R z (rd_gtr z z)<|Wn<|Wc z (fun hc15 => ?_) (fun hc15 => ?_)
    ·refine Ws<|E z (f0 (α := UInt8) el_25) ?_
     rintro _ w5c ⟨a3f, n3g, c3h, rfl, s3i, h3j⟩
     refine Ra z<|Ra z<|Wn ?_
     obtain rfl := som (ifT hm1n hc15)
     have hm3k := elR hm10
     exact Wr<|rtO<|rtO<|qL (som hm3k).symm<|ret2 hr z z ⟨(bup (bup (bM s7 sb<|mem1 lr) s6) s3i), a3f, n3g, c3h, [w1.z], z, h3j, nd_one, (m1<|lt_ (lt_ s7.s sb.s) s6.s)⟩
    refine Wk<|Ws<|Rm z<|Rm z<|Rm z<|R z (add_ z z)<|Rm z<|R z (add_ z z)<|Rm z<|R z (add_ z z) ?_
    obtain ⟨x5d, e3l, hm3m⟩ := bdS (ifF hm1n hc15)
    refine RX z (rX d_25 z_5 z z h1o z z e3l) ?_
    rintro _ ⟨a5e, n5f, c5g, rfl, h3n⟩
    obtain ⟨x3o, e3p, hm3q⟩ := bdS hm3m
    refine E z (fN (α := UInt8) el_25 e3p z z (hl.e s6) hn h3n) ?_
    rintro _ w3r ⟨S1p, a3s, n3t, c3u, rfl, s3v, h3w, h3x, h3y⟩
    refine Ra z<|Wn<|Wg<|Rm z<|R z (add_ z z)<|Rm z<|R z (add_ z z)<|Ra z<|Wl ?_
    have h3z : ∀ k ∈ S1p, k ∈ S0 ∨ w1.z ≤ k := or1 h3y (io sr) (leor lr)
    have h40 : Chg (· ∈ S0) w1 w3r := cM (cr S0 w1) s3v (io sr)
    exact fun _ q => ⟨x3o, iadd (iadd x4 1)<|byteI xm, som hm3q, a3s, n3t, c3u, S1p, (q.k<|s3 z z z), h40, h3w, h3x, h3z, (iA _ _)⟩
   rintro a41 w1q ⟨xr, xp, rfl, av, ns, cw, Sj, hS5h, s16, h1r, h42, h43, h44⟩
   have hm45 := elL hm10
   have hm1s := un2S hm45
   revert a41
   refine Wo<|Ws<|Rm z<|R z (lnR d_25 z<|ownS.rep h1r)<|R z (rd_gtr z z)<|Wn<|Wc z (fun hc17 => ?_) (fun hc17 => ?_)
   ·refine Ws<|E z (f0 (α := UInt8) el_25) ?_
    rintro _ w5i ⟨a46, n47, c48, rfl, s49, h4a⟩
    refine Ra z<|Ra z<|Wn ?_
    have h4b : ∀ k ∈ S0, w0.z ≤ k := or1 hi (mem1 lr) (lele s7.s)
    exact Wr<|rtO<|qL (som<|ifT hm1s hc17).symm<|ret2 hr z z ⟨(bup (bM (bup (bM s7 sb<|mem1 lr) s6) s16 h4b) s49), a46, n47, c48, [w1q.z], z, h4a, nd_one, (m1<|lt_ (lt_ (lt_ s7.s sb.s) s6.s) s16.s)⟩
   refine WC_skip ?_
   have h1t : ∀ k ∈ S0, k ∈ [w0.z] ∨ w3.z ≤ k := or1 hi (io sr) (leor lr)
   have h4c : ∀ k ∈ Sj, k ∈ [w0.z] ∨ w3.z ≤ k := or1 h43 h1t (leor (lt_ sb.s s6.s))
   have h4d : Chg (· ∈ [w0.z]) w3 wg := cM (cr [w0.z] w3) sb (io sr)
   have h4e : Chg (· ∈ [w0.z]) w3 w1 := cext h4d s6
   have h4f : Chg (· ∈ [w0.z]) w3 w1q := cM h4e s16 h1t
   exact fun _ q => ⟨(xr, xp), (som<|ifF hm1s hc17).symm, ⟨av, ns, cw, Sj, (q.k<|s3 z z z), h4f, h1r, h42, h4c, h44⟩⟩
  have h4g : ∀ k ∈ S0, k ∈ [w0.z] ∨ w3.z ≤ k := or1 hi (io sr) (leor lr)
  have h4h : Chg (· ∈ [w0.z]) w3 wg := cM (cr [w0.z] w3) sb (io sr)
  exact We (fun a' ha' => QO_brk (som<|ifF hm1a hcx).symm ⟨a5, n8, c9, S0, (Sat.weaken ha'<|s1 z), h4h, hl, hn, h4g, h19⟩)
 ·rintro ⟨xk, x4⟩ a4i w5j rfl ⟨a5, n8, c9, S0, hS5k, s4j, hl, hn, hi, h19⟩
  have hm4k := elL hm18
  have hm4l := un2S hm4k
  revert a4i
  refine Wo<|Ws<|Rm z<|Ra z<|Ra z<|Wn ?_
  obtain rfl := som hm4l
  have h4m : ∀ k ∈ S0, w0.z ≤ k := or1 hi (mem1 lr) (lele s7.s)
  exact Wr<|ret2 hr z z ⟨(bM s7 s4j<|mem1 lr), a5, n8, c9, S0, z, hl, hn, h4m⟩
 rintro r5l ex5m a5n w5o rfl ⟨rfl, hq4n⟩
 have hm4o := elR hm18
 obtain rfl := som hm4o
 exact ⟨hq4n, z⟩
theorem W_w0e {x1 : Str} {res : Bool} (hm : M_spec_IsName x1 = some res) (hBw : B ≤ w0.z) (p1_0 : x1.b.length ≤ LEN) : CallsR prog 106 [Str.v x1] w0 (Q11 w0 B res) := by
 unfold M_spec_IsName at hm
 refine goF func106 z z (lb z) fun fn hr => Ws<|Ra z<|Wn<|Wq<|Ws<|Ra z<|Wn ?_
 obtain ⟨u1k, hus, hmc⟩ := bdS hm
 refine Wf (σ := Unit) (ρ := Bool) (fun (k4 : Nat) (_ : Unit) a w => Sat 45 [(0, Str.v x1), (3, (vI ((k4 : Nat) : Int)))] a ∧ Below w0.z w0 w) (fun (_ : Unit) a w => Sat 45 [(0, Str.v x1)] a ∧ Below w0.z w0 w) (fun r ex a w => ex = .ret ∧ RetPost prog fn (Q11 w0 B r) a w) hus ?_ ?_ ?_ ?_ ?_
 ·exact fun _ q => ⟨(q.k<|s2 z z), (br w0)⟩
 ·rintro k4 _ a1l w7 o1m hkd ⟨hSt, se⟩ hmu
  refine Wu ?_ hSt
  refine Wq<|Ws<|Rm z<|Rm z<|R z (lnT d_9 z)<|R z (lss z z)<|Wn<|Wc z (fun _ => ?_) (fun hc => (nolt hkd hc).elim)
  refine Wk<|Wq<|Wb<|Wq ?_
  obtain ⟨uv, huw, hmx⟩ := bdS hmu
  refine Wt (fun a w => ∃ (x5 : Bool), x5 = uv ∧ Sat 45 [(0, Str.v x1), (3, (vI ((k4 : Nat) : Int))), (4, vB x5)] a ∧ Below w7.z w7 w) ?_ ?_
  ·refine Wg<|Rm z<|Rm z ?_
   obtain ⟨xy, ef, hmg⟩ := bdS huw
   refine R z (rd_indexStr d_9 z z (idxS ef).1 (idxS ef).2.1)<|R z (rd_geq z z)<|Rm z ?_
   rcases bs (decide ((byteI (97 : UInt8)) ≤ (byteI xy))) with hc1 | hc1
   ·refine Rh z hc1 (mv z)<|Rh z hc1 (mv z) ?_
    obtain ⟨xz, eh, hm10⟩ := bdS (ifT hmg hc1)
    exact Rh z hc1 (rd_indexStr d_9 z z (idxS eh).1 (idxS eh).2.1)<|Rh z hc1 (rd_leq z z)<|R z (pT z hc1 z)<|Ra z<|Wl (fun _ q => ⟨decide ((byteI xz) ≤ (byteI (122 : UInt8))), som hm10, (q.k<|s3 z z z), (br w7)⟩)
   iterate 4 refine Nh z hc1 ?_
   exact R z (pF z hc1 z)<|Ra z<|Wl (fun _ q => ⟨false, som<|ifF hmg hc1, (q.k<|s3 z z z), (br w7)⟩)
  rintro a11 w8 ⟨x5, rfl, hS1n, si⟩
  revert a11
  refine Wo<|Wq ?_
  obtain ⟨u12, hu13, hm14⟩ := bdS hmx
  refine Wt (fun a w => ∃ (x9 : Bool), x9 = u12 ∧ Sat 45 [(0, Str.v x1), (3, (vI ((k4 : Nat) : Int))), (4, vB x5), (5, vB x9)] a ∧ Below w8.z w8 w) ?_ ?_
  ·refine Wg<|Rm z<|Rm z ?_
   obtain ⟨x15, ej, hmk⟩ := bdS hu13
   refine R z (rd_indexStr d_9 z z (idxS ej).1 (idxS ej).2.1)<|R z (rd_geq z z)<|Rm z ?_
   rcases bs (decide ((byteI (48 : UInt8)) ≤ (byteI x15))) with hc2 | hc2
   ·refine Rh z hc2 (mv z)<|Rh z hc2 (mv z) ?_
    obtain ⟨x16, el, hm17⟩ := bdS (ifT hmk hc2)
    exact Rh z hc2 (rd_indexStr d_9 z z (idxS el).1 (idxS el).2.1)<|Rh z hc2 (rd_leq z z)<|R z (pT z hc2 z)<|Ra z<|Wl (fun _ q => ⟨decide ((byteI x16) ≤ (byteI (57 : UInt8))), som hm17, (q.k<|s4 z z z z), (br w8)⟩)
   iterate 4 refine Nh z hc2 ?_
   exact R z (pF z hc2 z)<|Ra z<|Wl (fun _ q => ⟨false, som<|ifF hmk hc2, (q.k<|s4 z z z z), (br w8)⟩)
  rintro a18 w6 ⟨x9, rfl, hS1o, sm⟩
  revert a18
  refine Wo<|Wq ?_
  obtain ⟨u19, hun, hmo⟩ := bdS hm14
  refine Wt (fun a w => ∃ (xa : Bool), xa = u19 ∧ Sat 45 [(0, Str.v x1), (3, (vI ((k4 : Nat) : Int))), (41, vB xa)] a ∧ Below w6.z w6 w) ?_ ?_
  ·refine Wg<|Rm z<|R z (not_ z)<|Rm z ?_
   rcases bs (!x5) with hc0 | hc0
   ·have hmp := ifT hun hc0
    refine Rh z hc0 (mv z)<|Rh z hc0 (not_ z)<|Rh z hc0 (mv z) ?_
    rcases bs (!x9) with hc3 | hc3
    ·exact Nh z hc3<|Nh z hc3<|Rh z hc0 (pT z hc3 z)<|R z (pT z hc0 z)<|Wl (fun _ q => ⟨true, som<|ifT hmp hc3, (q.k<|s3 z z z), (br w6)⟩)
    exact Rh z hc3 (mv z)<|Rh z hc3 (eql z z)<|Rh z hc0 (pF z hc3 z)<|R z (pT z hc0 z)<|Wl (fun _ q => ⟨((k4 : Nat) : Int) == 0, som<|ifF hmp hc3, (q.k<|s3 z z z), (br w6)⟩)
   iterate 3 refine Nh z hc0 ?_
   exact Nv z<|Nv z<|Nh z hc0<|R z (pF z hc0 z)<|Wl (fun _ q => ⟨false, som<|ifF hun hc0, (q.k<|s3 z z z), (br w6)⟩)
  rintro a1a w1p ⟨xa, rfl, hS1q, sq⟩
  revert a1a
  refine Wo<|Wc z (fun hcb => ?_) (fun hcb => ?_)
  ·exact Ws<|Ra z<|Wn<|Wr<|rtO<|qL (som<|ifT hmo hcb).symm<|ret1 hr z ⟨(bup (bup (bup se si) sm) sq), z⟩
  exact Wk<|Wg<|Rm z<|R z (inc_ hkd (lt_ p1_0 LEN_le) z z)<|Ra z<|Wl (fun _ q => ⟨(), (som<|ifF hmo hcb).symm, ⟨(q.k<|s2 z z), (bup (bup (bup se si) sm) sq)⟩⟩)
 ·rintro _ a1r w1s ⟨hS1b, s1c⟩
  refine Wu ?_ hS1b
  refine Wq<|Ws<|Rm z<|Rm z<|R z (lnT d_9 z)<|R z (lss z z)<|Wn<|Wc z (fun hc => (noltt hc).elim) (fun _ => ?_)
  exact We (fun a' ha' => ⟨rfl, ⟨(Sat.weaken ha'<|s1 z), s1c⟩⟩)
 ·rintro _ a1d w1t rfl ⟨hS1u, sr⟩
  have hm1e := elL hmc
  revert a1d
  refine Wo<|Ws<|Rm z<|R z (lnT d_9 z) ?_
  obtain ⟨r1v, e1f, hm1g⟩ := bdS hm1e
  refine E z (fc call97 z<|W_w00 (B := B) e1f (lt_ hBw sr.s) (inI_len p1_0) (ii z)<|ii z) ?_
  rintro _ w1w ⟨s1h, rfl⟩
  refine Ra z<|Wn ?_
  obtain rfl := som hm1g
  exact Wr<|ret1 hr z ⟨(bup sr s1h), z⟩
 rintro r1x ex1y a1z w20 rfl ⟨rfl, hq1i⟩
 have hm1j := elR hmc
 obtain rfl := som hm1j
 exact ⟨hq1i, z⟩
theorem W_w0w {x1 : Record} {res : Bool} (hm : M_spec_IsValidRecord x1 = some res) (hBw : B ≤ w0.z) (p1_0 : inI x1.kind) (p1_1 : x1.name.b.length ≤ LEN) (p1_2 : inI x1.version) (p1_3 : repS w0 B (sl AE NE CE) x1.data) : CallsR prog 76 [(.agg #[vI x1.kind, Str.v x1.name, vI x1.version, sl AE NE CE])] w0 (Q11 w0 B res) := by
 unfold M_spec_IsValidRecord at hm
 refine goF func76 z z (lb z) fun fn hr => Ws<|E z (fb z) ?_
 rintro _ wb ⟨rfl, hd⟩
 have h9 := hd.below
 have he : Blk wb w0.z [vI x1.kind, Str.v x1.name, vI x1.version, sl AE NE CE] := hd.blk
 refine Ra z<|Wn<|Wq ?_
 obtain ⟨up, huq, hmr⟩ := bdS hm
 refine Wt (fun a w => ∃ (xc : Bool), xc = up ∧ Sat 38 [(2, vB xc)] a ∧ Below wb.z wb w) ?_ ?_
 ·refine Wg<|R z (fd f_76_0 z)<|R z (l1 g_3 z fid<|he.at z) ?_
  obtain ⟨rs, et, hmf⟩ := bdS huq
  refine E z (fc call97 z<|W_w00 (B := B) et (lt_ hBw h9.s) p1_0 (ii z)<|ii z) ?_
  rintro _ w10 ⟨s2, rfl⟩
  refine Rm z ?_
  rcases bs rs with hc5 | hc5
  ·refine Rh z hc5 (fd f_76_1 z) ?_
   have hg := he.e s2
   refine Rh z hc5 (l1 g_9 z fid<|hg.at z) ?_
   have hh := lt_ h9.s s2.s
   obtain ⟨ru, ev, hmi⟩ := bdS (ifT hmf hc5)
   refine Eg z z hc5 z (fc call106 z<|W_w0e (B := B) ev (lt_ hBw hh) p1_1) ?_
   rintro _ w11 ⟨s6, rfl⟩
   refine R z (pT z hc5 z)<|Rm z ?_
   rcases bs ru with hc7 | hc7
   ·refine Rh z hc7 (fd f_76_2 z) ?_
    have hj := hg.e s6
    refine Rh z hc7 (l1 g_3 z fid<|hj.at z) ?_
    obtain ⟨rx, ew, hmk⟩ := bdS (ifT hmi hc7)
    refine Eg z z hc7 z (fc call97 z<|W_w00 (B := B) ew (lt_ hBw<|lt_ hh s6.s) p1_2 (ii z)<|ii z) ?_
    rintro _ w12 ⟨s8, rfl⟩
    refine R z (pT z hc7 z)<|Rm z ?_
    rcases bs rx with hc3 | hc3
    ·have hml := ifT hmk hc3
     refine Rh z hc3 (fd f_76_3 z) ?_
     have ha := hj.e s8
     refine Rh z hc3 (l1 g_25 z fid<|ha.at z) ?_
     have hn := (((p1_3.e h9).e s2).e s6).e s8
     refine Rh z hc3 (lnR d_25 z hn)<|Rh z hc3 (rd_leq z z)<|R z (pT z hc3 z)<|Rm z ?_
     rcases bs (decide ((x1.data.length : Int) ≤ 400)) with hc0 | hc0
     ·have hmm := ifT hml hc0
      refine Rh z hc0 (fd f_76_0 z)<|Rh z hc0 (l1 g_3 z fid<|ha.at z)<|Rh z hc0 (eql z z)<|Rh z hc0 (mv z) ?_
      rcases bs (x1.kind == 1) with hc1 | hc1
      ·iterate 4 refine Nh z hc1 ?_
       exact Nv z<|Nv z<|Nv z<|Nv z<|Nh z hc1<|Rh z hc0 (pT z hc1 z)<|R z (pT z hc0 z)<|Ra z<|Wl (fun _ q => ⟨true, som<|ifT hmm hc1, (q.k<|s1 z), (bup (bup s2 s6) s8)⟩)
      have hmo := ifF hmm hc1
      refine Rh z hc1 (fd f_76_2 z)<|Rh z hc1 (l1 g_3 z fid<|ha.at z)<|Rh z hc1 (eql z z)<|Rh z hc1 (mv z) ?_
      rcases bs (x1.version == 0) with hc4 | hc4
      ·exact Rh z hc4 (fd f_76_3 z)<|Rh z hc4 (l1 g_25 z fid<|ha.at z)<|Rh z hc4 (lnR d_25 z hn)<|Rh z hc4 (eql z z)<|Rh z hc1 (pT z hc4 z)<|Rh z hc0 (pF z hc1 z)<|R z (pT z hc0 z)<|Ra z<|Wl (fun _ q => ⟨(x1.data.length : Int) == 0, som<|ifT hmo hc4, (q.k<|s1 z), (bup (bup s2 s6) s8)⟩)
      iterate 4 refine Nh z hc4 ?_
      exact Rh z hc1 (pF z hc4 z)<|Rh z hc0 (pF z hc1 z)<|R z (pT z hc0 z)<|Ra z<|Wl (fun _ q => ⟨false, som<|ifF hmo hc4, (q.k<|s1 z), (bup (bup s2 s6) s8)⟩)
     iterate 4 refine Nh z hc0 ?_
     exact Nv z<|Nv z<|Nv z<|Nv z<|Nv z<|Nv z<|Nv z<|Nv z<|Nv z<|Nh z hc0<|R z (pF z hc0 z)<|Ra z<|Wl (fun _ q => ⟨false, som<|ifF hml hc0, (q.k<|s1 z), (bup (bup s2 s6) s8)⟩)
    iterate 4 refine Nh z hc3 ?_
    exact R z (pF z hc3 z)<|Rm z<|Nh z z<|Nh z z<|Nh z z<|Nh z z<|Nv z<|Nv z<|Nv z<|Nv z<|Nv z<|Nv z<|Nv z<|Nv z<|Nv z<|Nh z z<|R z (pF z z z)<|Ra z<|Wl (fun _ q => ⟨false, som<|ifF hmk hc3, (q.k<|s1 z), (bup (bup s2 s6) s8)⟩)
   iterate 3 refine Nh z hc7 ?_
   refine R z (pF z hc7 z)<|Rm z<|Nh z z<|Nh z z<|Nh z z<|Nh z z<|R z (pF z z z)<|Rm z<|Nh z z<|Nh z z<|Nh z z<|Nh z z<|Nv z<|Nv z<|Nv z<|Nv z<|Nv z<|Nv z<|Nv z<|Nv z<|Nv z<|Nh z z<|R z (pF z z z)<|Ra z<|Wl ?_
   exact fun _ q => ⟨false, som<|ifF hmi hc7, (q.k<|s1 z), (bup s2 s6)⟩
  iterate 3 refine Nh z hc5 ?_
  refine R z (pF z hc5 z)<|Rm z<|Nh z z<|Nh z z<|Nh z z<|R z (pF z z z)<|Rm z<|Nh z z<|Nh z z<|Nh z z<|Nh z z<|R z (pF z z z)<|Rm z<|Nh z z<|Nh z z<|Nh z z<|Nh z z<|Nv z<|Nv z<|Nv z<|Nv z<|Nv z<|Nv z<|Nv z<|Nv z ?_
  exact Nv z<|Nh z z<|R z (pF z z z)<|Ra z<|Wl (fun _ q => ⟨false, som<|ifF hmf hc5, (q.k<|s1 z), s2⟩)
 rintro ay w13 ⟨xc, rfl, hS14, sz⟩
 revert ay
 refine Wo ?_
 obtain rfl := som hmr
 exact Wr<|ret1 hr z ⟨(bup h9 sz), z⟩
theorem W_w0x {x1 : List UInt8} {x2 : Int} {res : Int} (hm : M_spec_RunAt n x1 x2 = some res) (hBw : B ≤ w0.z) (p1_0 : repS w0 B (sl A0 N0 C0) x1) (p2_0 : inI x2) : CallsR prog 108 [sl A0 N0 C0, vI x2] w0 (Q0 w0 B res) := by
 unfold M_spec_RunAt at hm
 refine goF func108 z z (lb z) fun fn hr => Ws<|Ra z<|Wn<|Wq<|Ws<|Rm z<|Rm z<|R z (lnR d_25 z p1_0)<|R z (sb_ z z) ?_
 obtain ⟨r12, eh, hmb⟩ := bdS hm
 refine E z (fc call97 z<|W_w00 (B := B) eh hBw p2_0 (ii z)<|iS _ _) ?_
 rintro _ w1 ⟨s2, rfl⟩
 refine R z (not_ z)<|Wn<|Wc z (fun hc4 => ?_) (fun hc4 => ?_)
 ·refine Ws<|Ra z<|Wn ?_
  obtain rfl := som (ifT hmb hc4)
  exact Wr<|ret1 hr z ⟨s2, z, (ii z)⟩
 refine Wk<|Ws<|Ra z<|Wn<|Wq ?_
 obtain ⟨u13, hui, hmc⟩ := bdS (ifF hmb hc4)
 refine WC_iter (σ := Int) (ρ := Int) (fun (x3 : Int) a w => Sat 34 [(0, sl A0 N0 C0), (1, vI x2), (5, vI x3)] a ∧ Below w1.z w1 w ∧ inI x3) (fun (x3 : Int) a w => Sat 34 [(5, vI x3)] a ∧ Below w1.z w1 w ∧ inI x3) (fun r ex a w => ex = .ret ∧ RetPost prog fn (Q0 w0 B r) a w) hui ?_ ?_ ?_ ?_
 ·exact fun _ q => ⟨(q.k<|s3 z z z), (br w1), (ii z)⟩
 ·rintro x3 a14 wd o15 ⟨hSj, s5, h6⟩ hmk
  refine Wu ?_ hSj
  refine Wq<|Wq ?_
  obtain ⟨ul, hue, hmf⟩ := bdS hmk
  refine Wt (fun a w => ∃ (x7 : Bool), x7 = ul ∧ Sat 34 [(0, sl A0 N0 C0), (1, vI x2), (5, vI x3), (30, vB x7)] a ∧ Below wd.z wd w) ?_ ?_
  ·refine Wd (X := noX) 0 (.rd 0 (.rd 1 (.rd 2 (.rd 3 (.rd 4 (.rd 5 (.rd 6 (.rd 7 (.rd 8 (.rd 9 (.rd 10 (.rd 11 (.rd 12 (.rd 13 (.rd 14 (.rd 15 (.rd 16 (.rd 17 (.rd 18 .done))))))))))))))))))) mo (by kernel_rfl) fun w16 s8 _ => dR z z (mv z)<|dR z z (mv z)<|dR z z (add_ z z)<|dR z z (mv z) ?_
   have h9 := ((p1_0.e s2).e s5).e s8
   refine dR z z (lnR d_25 z h9)<|dR z z (lss z z)<|dR z z (mv z) ?_
   rcases bs (decide ((iadd x2 x3) < (x1.length : Int))) with hc0 | hc0
   ·iterate 3 refine dRg z z z hc0 z (mv z) ?_
    refine dRg z z z hc0 z (add_ z z) ?_
    obtain ⟨xm, en, hmo⟩ := bdS (ifT hue hc0)
    refine dRXg z z z hc0 z (at_ (α := UInt8) d_25 z_5 z z z h9 en) ?_
    rintro _ ⟨b17, o18, cs19, rfl, hp, hq, h1a⟩
    obtain rfl := u8 hq
    refine dRg z z z hc0 z (l1 g_5 z fid<|hp.at0 z)<|dRg z z z hc0 z (mv z)<|dRg z z z hc0 z (mv z) ?_
    obtain ⟨xr, es, hmt⟩ := bdS hmo
    refine dRXg z z z hc0 z (at_ (α := UInt8) d_25 z_5 z z z h9 es) ?_
    rintro _ ⟨b1b, o1c, cs1d, rfl, hu, hv, h1e⟩
    obtain rfl := u8 hv
    exact dRg z z z hc0 z (l1 g_5 z fid<|hu.at0 z)<|dRg z z z hc0 z (eql z z)<|dR z z (pT z hc0 z)<|pD (fun _ q => ⟨(byteI xm) == (byteI xr), som hmt, (q.k<|s4 z z z z), s8⟩)
   iterate 11 refine dRn z z z hc0 z ?_
   exact dR z z (pF z hc0 z)<|pD (fun _ q => ⟨false, som<|ifF hue hc0, (q.k<|s4 z z z z), s8⟩)
  rintro aw w1f ⟨x7, rfl, hS1g, sg⟩
  revert aw
  refine Wo<|Wc z (fun hca => ?_) (fun hca => ?_)
  ·exact Wk<|Wb<|Wg<|Rm z<|R z (add_ z z)<|Ra z<|Wl (fun _ q => ⟨iadd x3 1, (som<|ifT hmf hca).symm, ⟨(q.k<|s3 z z z), (bup s5 sg), (iA _ _)⟩⟩)
  exact We (fun a' ha' => QO_brk (som<|ifF hmf hca).symm ⟨(Sat.weaken ha'<|s1 z), (bup s5 sg), h6⟩)
 ·rintro x3 ax w1h rfl ⟨hS1i, sy, h6⟩
  have hmz := elL hmc
  revert ax
  refine Wo<|Ws<|Rm z<|Ra z<|Wn ?_
  obtain rfl := som hmz
  exact Wr<|ret1 hr z ⟨(bup s2 sy), z, h6⟩
 rintro r1j ex1k a1l w1m rfl ⟨rfl, hq10⟩
 have hm11 := elR hmc
 obtain rfl := som hm11
 exact ⟨hq10, z⟩
theorem W_w2g {x1 : Int} {x2 : Int} {res : Int} (hm : M_spec_Min x1 x2 = some res) (hBw : B ≤ w0.z) (p1_0 : inI x1) (p2_0 : inI x2) : CallsR prog 107 [vI x1, vI x2] w0 (Q0 w0 B res) := by
 unfold M_spec_Min at hm
 refine goF func107 z z (lb z) fun fn hr => Ws<|Ra z<|Wn<|Wq<|Ws<|Rm z<|Rm z<|R z (lss z z)<|Wn<|Wc z (fun hc0 => ?_) (fun hc0 => ?_)
 ·refine Ws<|Rm z<|Ra z<|Wn ?_
  obtain rfl := som (ifT hm hc0)
  exact Wr<|ret1 hr z ⟨(br w0), z, p2_0⟩
 refine Wk<|Ws<|Rm z<|Ra z<|Wn ?_
 obtain rfl := som (ifF hm hc0)
 exact Wr<|ret1 hr z ⟨(br w0), z, p1_0⟩
theorem W_w2h {x1 : List UInt8} {res : (List UInt8)} (hm : M_spec_PackBytes n x1 = some res) (hBw : B ≤ w0.z) (p1_0 : repS w0 B (sl A0 N0 C0) x1) : CallsR prog 77 [sl A0 N0 C0] w0 (Q1 w0 B res) := by
 unfold M_spec_PackBytes at hm
 refine goF func77 z z (lb z) fun fn hr => Ws<|Ra z<|Wn<|Ws<|E z (f0 (α := UInt8) el_25) ?_
 rintro _ w2 ⟨a1w, n1x, c1y, rfl, se, h1z⟩
 refine Ra z<|Wn<|Wq<|Ws<|Ra z<|Wn ?_
 obtain ⟨u4n, hu20, hm18⟩ := bdS hm
 refine WC_iter (σ := (List UInt8) × Int) (ρ := (List UInt8)) (fun s a w => un2 (fun xf x4 => ∃ a5 n6 c7 S0, Sat 64 [(0, sl A0 N0 C0), (3, sl a5 n6 c7), (4, vI x4)] a ∧ Chg (· ∈ [w0.z]) w2 w ∧ ownS w S0 (sl a5 n6 c7) xf ∧ S0.Nodup ∧ (∀ k ∈ S0, k ∈ [w0.z] ∨ w2.z ≤ k) ∧ inI x4) s) (fun s a w => un2 (fun xf x4 => ∃ a5 n6 c7 S0, Sat 64 [(3, sl a5 n6 c7)] a ∧ Chg (· ∈ [w0.z]) w2 w ∧ ownS w S0 (sl a5 n6 c7) xf ∧ S0.Nodup ∧ (∀ k ∈ S0, k ∈ [w0.z] ∨ w2.z ≤ k) ∧ inI x4) s) (fun r ex a w => ex = .ret ∧ RetPost prog fn (Q1 w0 B r) a w) hu20 ?_ ?_ ?_ ?_
 ·exact fun _ q => ⟨a1w, n1x, c1y, [w0.z], (q.k<|s3 z z z), (cr [w0.z] w2), h1z, nd_one, (io sr), (ii z)⟩
 ·rintro ⟨xf, x4⟩ a4o w1 o4p ⟨a5, n6, c7, S0, hS21, sg, hh, hi, hj, ho⟩ hm22
  have hm19 := un2S hm22
  refine Wu ?_ hS21
  refine Wq<|Ws<|Rm z<|Rm z ?_
  have h1a := m1 hBw
  have hl := (p1_0.e se).c sg<|lg h1a
  refine R z (lnR d_25 z hl)<|R z (lss z z)<|Wn<|Wc z (fun hcy => ?_) (fun hcy => ?_)
  ·refine Wk ?_
   obtain ⟨u23, hu24, hm1b⟩ := bdS (ifT hm19 hcy)
   refine Wt (fun a w => ∃ (xp : List UInt8) (xk : Int), Sum.inl (xp, xk) = u23 ∧ ∃ aq nr cs Sd, Sat 64 [(0, sl A0 N0 C0), (3, sl aq nr cs), (4, vI xk)] a ∧ Chg (· ∈ S0) w1 w ∧ ownS w Sd (sl aq nr cs) xp ∧ Sd.Nodup ∧ (∀ k ∈ Sd, k ∈ S0 ∨ w1.z ≤ k) ∧ inI xk) ?_ ?_
   ·refine Wb<|Ws<|Rm z<|Rm z ?_
    have h1c := lt_ se.s sg.s
    obtain ⟨r4q, e25, hm26⟩ := bdS hu24
    refine E z (fc call108 z<|W_w0x (B := B) e25 (lt_ hBw h1c) hl ho) ?_
    rintro _ w1d ⟨s8, rfl, h27⟩
    have h1e := lt_ h1c s8.s
    obtain ⟨rt, e28, hm1f⟩ := bdS hm26
    refine E z (fc call107 z<|W_w2g (B := B) e28 (lt_ hBw h1e) h27<|ii z) ?_
    rintro _ w9 ⟨sa, rfl, h4r⟩
    refine Ra z<|Wn<|Wq<|Ws<|Rm z<|R z (rd_geq z z)<|Wn<|Wc z (fun hcz => ?_) (fun hcz => ?_)
    ·refine Ws<|Rm z<|Rm z<|R z (add_ z z)<|R z (rd_convU d_3 d_5 z)<|Rm z<|Rm z ?_
     obtain ⟨x10, e29, hm2a⟩ := bdS (ifT hm1f hcz)
     refine RX z (at_ (α := UInt8) d_25 z_5 z z z ((hl.e s8).e sa) e29) ?_
     rintro _ ⟨b4s, o4t, cs4u, rfl, h2b, h2c, h4v⟩
     obtain rfl := u8 h2c
     refine R z (l1 g_5 z fid<|h2b.at0 z)<|E z (fS [(.tmp 21), (.tmp 25)] el_25 z z z (szAll z) (lb z)<|lb z) ?_
     rintro _ w11 ⟨rfl, h1g⟩
     have h12 := h1g.below
     have h2d : Blk w11 w9.z [(vU (byteI (mkB (iadd 128 rt)))), vU (byteI x10)] := h1g.blk
     have h2e : ownS w11 [w9.z] (sl (some ⟨w9.z, 0, none⟩) 2 2) [mkB (iadd 128 rt), x10] := own_lit (l := [mkB (iadd 128 rt), x10]) h2d z
     obtain ⟨x2f, e2g, hm2h⟩ := bdS hm2a
     refine E z (fN (α := UInt8) el_25 e2g z z (((hh.e s8).e sa).e h12) hi<|ownS.rep h2e) ?_
     rintro _ w2i ⟨S1h, a2j, n2k, c2l, rfl, s2m, h2n, h2o, h2p⟩
     refine Ra z<|Wn<|Ws<|Rm z<|Rm z<|R z (add_ z z)<|Ra z<|Wn<|We<|exH ?_
     have h2q : ∀ k ∈ S1h, k ∈ S0 ∨ w1.z ≤ k := or1 h2p (io sr) (leor (lt_ (lt_ s8.s sa.s) h12.s))
     have h2r : Chg (· ∈ S0) w1 w1d := cext (cr S0 w1) s8
     have h2s : Chg (· ∈ S0) w1 w9 := cext h2r sa
     have h2t : Chg (· ∈ S0) w1 w11 := cext h2s h12
     have h2u : Chg (· ∈ S0) w1 w2i := cM h2t s2m (io sr)
     exact fun _ q => ⟨x2f, iadd x4 rt, som hm2h, a2j, n2k, c2l, S1h, (q.k<|s3 z z z), h2u, h2n, h2o, h2q, (iA _ _)⟩
    refine Wk<|Ws<|Rm z<|Ra z<|Wn<|Wq ?_
    obtain ⟨u4w, hu2v, hm1i⟩ := bdS (ifF hm1f hcz)
    refine WC_iter (σ := Int) (ρ := (List UInt8)) (fun (x3 : Int) a w => Sat 64 [(0, sl A0 N0 C0), (3, sl a5 n6 c7), (4, vI x4), (6, vI x3)] a ∧ Below w9.z w9 w ∧ inI x3) (fun (x3 : Int) a w => Sat 64 [(0, sl A0 N0 C0), (3, sl a5 n6 c7), (4, vI x4), (6, vI x3)] a ∧ Below w9.z w9 w ∧ inI x3) (fun r ex a w => ex = .ret ∧ RetPost prog fn (Q1 w0 B r) a w) hu2v ?_ ?_ ?_ ?_
    ·exact fun _ q => ⟨(q.k<|s4 z z z z), (br w9), ho⟩
    ·rintro x3 a4x wu o4y ⟨hS2w, sv, hw⟩ hm2x
     refine Wu ?_ hS2w
     refine Wq<|Wq ?_
     obtain ⟨u2y, hu1j, hm1k⟩ := bdS hm2x
     refine Wt (fun a w => ∃ (x13 : Bool), x13 = u2y ∧ Sat 64 [(0, sl A0 N0 C0), (3, sl a5 n6 c7), (4, vI x4), (6, vI x3), (47, vB x13)] a ∧ Below wu.z wu w) ?_ ?_
     ·refine Wg<|Rm z<|Rm z ?_
      have h1l := ((hl.e s8).e sa).e sv
      refine R z (lnR d_25 z h1l)<|R z (lss z z)<|Rm z ?_
      rcases bs (decide (x3 < (x1.length : Int))) with hcb | hcb
      ·have hm1m := ifT hu1j hcb
       refine Rh z hcb (mv z)<|Rh z hcb (mv z)<|Rh z hcb (sb_ z z)<|Rh z hcb (lss z z)<|R z (pT z hcb z)<|Rm z ?_
       rcases bs (decide ((isub x3 x4) < 127)) with hcc | hcc
       ·refine Rh z hcc (mv z)<|Rh z hcc (mv z) ?_
        obtain ⟨r2z, e30, hm31⟩ := bdS (ifT hm1m hcc)
        refine Eg z z hcc z (fc call108 z<|W_w0x (B := B) e30 (lt_ hBw<|lt_ (lt_ h1e sa.s) sv.s) h1l hw) ?_
        rintro _ w4z ⟨s32, rfl, h50⟩
        exact Rh z hcc (lss z z)<|R z (pT z hcc z)<|Wl (fun _ q => ⟨decide (r2z < 3), som hm31, (q.k<|s5 z z z z z), s32⟩)
       iterate 4 refine Nh z hcc ?_
       exact R z (pF z hcc z)<|Wl (fun _ q => ⟨false, som<|ifF hm1m hcc, (q.k<|s5 z z z z z), (br wu)⟩)
      iterate 4 refine Nh z hcb ?_
      exact R z (pF z hcb z)<|Rm z<|Nh z z<|Nh z z<|Nh z z<|Nh z z<|R z (pF z z z)<|Wl (fun _ q => ⟨false, som<|ifF hu1j hcb, (q.k<|s5 z z z z z), (br wu)⟩)
     rintro a33 w51 ⟨x13, rfl, hS52, s1n⟩
     revert a33
     refine Wo<|Wc z (fun hc14 => ?_) (fun hc14 => ?_)
     ·exact Wk<|Wb<|Wg<|Rm z<|R z (add_ z z)<|Ra z<|Wl (fun _ q => ⟨iadd x3 1, (som<|ifT hm1k hc14).symm, ⟨(q.k<|s4 z z z z), (bup sv s1n), (iA _ _)⟩⟩)
     exact We (fun a' ha' => QO_brk (som<|ifF hm1k hc14).symm ⟨(Sat.weaken ha'<|s4 z z z z), (bup sv s1n), hw⟩)
    ·rintro x3 a34 w15 rfl ⟨hS53, sx, hw⟩
     have hm35 := elL hm1i
     revert a34
     refine Wo<|Wq (Wd (X := fun k => k ∈ S0 ∨ w15.z ≤ k) 0 (.rd 0 (.rd 1 (.rd 2 (.rd 3 (.rd 4 (.rd 7 (.rd 8 (.rd 9 (.rd 10 (.ef 5 (.ef 6 (.ef 11 (.rd 12 .done))))))))))))) mo (by kernel_rfl) fun w1o sm _ => ?_)
     iterate 3 refine dR z z (mv z) ?_
     refine dR z z (sb_ z z)<|dR z z (rd_convU d_3 d_5 z) ?_
     iterate 3 refine dR z z (mv z) ?_
     obtain ⟨x54, e36, hm37⟩ := bdS hm35
     refine dRX z z (rX d_25 z_5 z z ((((hl.e s8).e sa).e sx).e sm) z z e36) ?_
     rintro _ ⟨a55, n56, c57, rfl, h38⟩
     refine dE z z (fS [(.tmp 54)] el_25 z z z (szAll z) (lb z)<|lb z) (.inr fun _ _ h => chgB<|h.2.below) ?_
     rintro _ w1p ⟨rfl, h16⟩
     have hn := h16.below
     have h39 : Blk w1p w1o.z [(vU (byteI (mkB (isub x3 x4))))] := h16.blk
     have h58 := ownS_new1 h16 UInt8_own
     obtain ⟨x59, e3a, hm3b⟩ := bdS hm37
     refine dE z z (ef_pushN (α := UInt8) el_25 e3a z z (((((hh.e s8).e sa).e sx).e sm).e hn) hi h39 UInt8_own an_ nd_nil) (.inr fun _ _ h => by obtain ⟨_, _, _, _, _, h, _⟩ := h; exact h.mono fun k _ hk => (io sr) k hk) ?_
     rintro _ w3c ⟨S1q, a5a, n5b, c5c, rfl, s17, h3d, h3e, h1r⟩
     obtain ⟨x3f, e3g, hm3h⟩ := bdS hm3b
     have h3i : ∀ k ∈ S1q, k ∈ S0 ∨ w15.z ≤ k := or2 h1r (io sr) an_ (leor (lt_ sm.s hn.s))
     refine dE z z (fN (α := UInt8) el_25 e3g z z h3d h3e<|(h38.e hn).c s17<|lg<|o1le hj h1a<|lt_ hBw se.s) (.inr fun _ _ h => by obtain ⟨_, _, _, _, _, h, _⟩ := h; exact h.mono fun k _ hk => h3i k hk) ?_
     rintro _ w3j ⟨S1s, a3k, n3l, c3m, rfl, s3n, h3o, h3p, h3q⟩
     refine dR z z (asg z)<|pD<|Wo<|Wg<|Rm z<|Ra z<|Wl ?_
     have h1t := lt_ (lt_ (lt_ (lt_ s8.s sa.s) sx.s) sm.s) hn.s
     have h1u : ∀ k ∈ S1q, k ∈ S0 ∨ w1.z ≤ k := or2 h1r (io sr) an_ (leor h1t)
     have h3r : ∀ k ∈ S1s, k ∈ S0 ∨ w1.z ≤ k := or1 h3q h1u (leor (lt_ h1t s17.s))
     have h3s : Chg (· ∈ S0) w1 w1d := cext (cr S0 w1) s8
     have h3t : Chg (· ∈ S0) w1 w9 := cext h3s sa
     have h3u : Chg (· ∈ S0) w1 w15 := cext h3t sx
     have h3v : Chg (· ∈ S0) w1 w1o := cext h3u sm
     have h3w : Chg (· ∈ S0) w1 w1p := cext h3v hn
     have h3x : Chg (· ∈ S0) w1 w3c := cM h3w s17 (io sr)
     have h3y : Chg (· ∈ S0) w1 w3j := cM h3x s3n h1u
     exact fun _ q => ⟨x3f, x3, som hm3h, a3k, n3l, c3m, S1s, (q.k<|s3 z z z), h3y, h3o, h3p, h3r, hw⟩
    rintro r5d ex5e a5f w5g rfl ⟨rfl, hq3z⟩
    have hm40 := elR hm1i
    obtain rfl := som hm40
    have hm41 := elR hm1b
    exact ⟨(inbR<|QO_ret (som hm41).symm ⟨rfl, hq3z⟩), z⟩
   rintro a42 w43 ⟨xp, xk, rfl, aq, nr, cs, Sd, hS5h, s44, h45, h46, h47, h48⟩
   have hm49 := elL hm1b
   have hm4a := un2S hm49
   revert a42
   have h1v : ∀ k ∈ S0, k ∈ [w0.z] ∨ w2.z ≤ k := or1 hj (io sr) (leor lr)
   have h4b : ∀ k ∈ Sd, k ∈ [w0.z] ∨ w2.z ≤ k := or1 h47 h1v (leor sg.s)
   have h4c : Chg (· ∈ [w0.z]) w2 w1 := cM (cr [w0.z] w2) sg (io sr)
   have h4d : Chg (· ∈ [w0.z]) w2 w43 := cM h4c s44 h1v
   exact fun _ q => ⟨(xp, xk), (som hm4a).symm, ⟨aq, nr, cs, Sd, (q.k<|s3 z z z), h4d, h45, h46, h4b, h48⟩⟩
  have h4e : ∀ k ∈ S0, k ∈ [w0.z] ∨ w2.z ≤ k := or1 hj (io sr) (leor lr)
  have h4f : Chg (· ∈ [w0.z]) w2 w1 := cM (cr [w0.z] w2) sg (io sr)
  exact We (fun a' ha' => QO_brk (som<|ifF hm19 hcy).symm ⟨a5, n6, c7, S0, (Sat.weaken ha'<|s1 z), h4f, hh, hi, h4e, ho⟩)
 ·rintro ⟨xf, x4⟩ a4g w5i rfl ⟨a5, n6, c7, S0, hS5j, s4h, hh, hi, hj, ho⟩
  have hm4i := elL hm18
  have hm4j := un2S hm4i
  revert a4g
  refine Wo<|Ws<|Rm z<|Ra z<|Wn ?_
  obtain rfl := som hm4j
  have h4k : ∀ k ∈ S0, w0.z ≤ k := or1 hj (mem1 lr) (lele se.s)
  exact Wr<|ret1 hr z ⟨(bM se s4h<|mem1 lr), a5, n6, c7, S0, z, hh, hi, h4k⟩
 rintro r5k ex5l a5m w5n rfl ⟨rfl, hq4l⟩
 have hm4m := elR hm18
 obtain rfl := som hm4m
 exact ⟨hq4l, z⟩
theorem W_w0y {x1 : Int} {res : Int} (hm : M_spec_l2Power x1 = some res) (hBw : B ≤ w0.z) (p1_0 : inI x1) : CallsR prog 109 [vI x1] w0 (Q0 w0 B res) := by
 unfold M_spec_l2Power at hm
 refine goF func109 z z (lb z) fun fn hr => Ws<|Ra z<|Wn<|Ws<|Rm z<|R z (rd_mul z z) ?_
 obtain ⟨u2, e0, hm1⟩ := bdS hm
 refine R z (rd_shl z z<|nnS e0)<|Ra z<|Wn ?_
 obtain rfl := som hm1
 exact Wr<|ret1 hr z ⟨(br w0), z, (inI_shl<|ii z)⟩
theorem W_w2i {x1 : Int} {x2 : Int} {res : (List UInt8)} (hm : M_spec_BigEndian n x1 x2 = some res) (hBw : B ≤ w0.z) (p1_0 : inI x1) (p2_0 : inI x2) : CallsR prog 78 [vI x1, vI x2] w0 (Q1 w0 B res) := by
 unfold M_spec_BigEndian at hm
 refine goF func78 z z (lb z) fun fn hr => Ws<|Ra z<|Wn<|Ws<|E z (f0 (α := UInt8) el_25) ?_
 rintro _ wm ⟨ad, ne, cf, rfl, s7, hp⟩
 refine Ra z<|Wn<|Wq<|Wq ?_
 obtain ⟨u10, hu11, hmq⟩ := bdS hm
 refine Wt (fun a w => ∃ (xg : Bool), xg = u10 ∧ Sat 35 [(0, vI x1), (1, vI x2), (5, sl ad ne cf), (18, vB xg)] a ∧ Below wm.z wm w) ?_ ?_
 ·refine Wg<|Rm z ?_
  obtain ⟨r12, e13, hmr⟩ := bdS hu11
  refine E z (fc call97 z<|W_w00 (B := B) e13 (lt_ hBw s7.s) p2_0 (ii z)<|ii z) ?_
  rintro _ w25 ⟨sh, rfl⟩
  refine R z (not_ z)<|Rm z ?_
  rcases bs (!r12) with hc2 | hc2
  ·iterate 6 refine Nh z hc2 ?_
   exact R z (pT z hc2 z)<|Wl (fun _ q => ⟨true, som<|ifT hmr hc2, (q.k<|s4 z z z z), sh⟩)
  refine Rh z hc2 (mv z)<|Rh z hc2 (mv z) ?_
  have ht := lt_ s7.s sh.s
  obtain ⟨r26, e14, hm15⟩ := bdS (ifF hmr hc2)
  refine Eg z z hc2 z (fc call109 z<|W_w0y (B := B) e14 (lt_ hBw ht) p2_0) ?_
  rintro _ w27 ⟨ss, rfl, h28⟩
  refine Rh z hc2 (sb_ z z) ?_
  obtain ⟨r16, e17, hm18⟩ := bdS hm15
  refine Eg z z hc2 z (fc call97 z<|W_w00 (B := B) e17 (lt_ hBw<|lt_ ht ss.s) p1_0 (ii z)<|iS _ _) ?_
  rintro _ w29 ⟨s19, rfl⟩
  exact Rh z hc2 (not_ z)<|R z (pF z hc2 z)<|Wl (fun _ q => ⟨!r16, som hm18, (q.k<|s4 z z z z), (bup (bup sh ss) s19)⟩)
 rintro a1a w1 ⟨xg, rfl, hS2a, s8⟩
 revert a1a
 refine Wo<|Wc z (fun hci => ?_) (fun hci => ?_)
 ·refine Ws<|Rm z<|Ra z<|Wn ?_
  obtain rfl := som (ifT hmq hci)
  exact Wr<|ret1 hr z ⟨(bup s7 s8), ad, ne, cf, [w0.z], z, (hp.e s8), nd_one, (mem1 lr)⟩
 refine Wk<|Wq<|Ws<|Rm z<|R z (sb_ z z)<|Ra z<|Wn ?_
 obtain ⟨u2b, hu1b, hmu⟩ := bdS (ifF hmq hci)
 refine WC_iter (σ := (List UInt8) × Int) (ρ := (List UInt8)) (fun s a w => un2 (fun x9 x6 => ∃ a3 n4 c5 S0, Sat 35 [(0, vI x1), (5, sl a3 n4 c5), (6, vI x6)] a ∧ Chg (· ∈ [w0.z]) w1 w ∧ ownS w S0 (sl a3 n4 c5) x9 ∧ S0.Nodup ∧ (∀ k ∈ S0, k ∈ [w0.z] ∨ w1.z ≤ k) ∧ inI x6) s) (fun s a w => un2 (fun x9 x6 => ∃ a3 n4 c5 S0, Sat 35 [(5, sl a3 n4 c5)] a ∧ Chg (· ∈ [w0.z]) w1 w ∧ ownS w S0 (sl a3 n4 c5) x9 ∧ S0.Nodup ∧ (∀ k ∈ S0, k ∈ [w0.z] ∨ w1.z ≤ k) ∧ inI x6) s) (fun r ex a w => ex = .ret ∧ RetPost prog fn (Q1 w0 B r) a w) hu1b ?_ ?_ ?_ ?_
 ·exact fun _ q => ⟨ad, ne, cf, [w0.z], (q.k<|s3 z z z), (cr [w0.z] w1), (hp.e s8), nd_one, (io sr), (iS _ _)⟩
 ·rintro ⟨x9, x6⟩ a2c wj o2d ⟨a3, n4, c5, S0, hS1c, sk, ha, hb, hc, hv⟩ hm1d
  have hmw := un2S hm1d
  refine Wu ?_ hS1c
  refine Wq<|Ws<|Rm z<|R z (rd_geq z z)<|Wn<|Wc z (fun hcl => ?_) (fun hcl => ?_)
  ·refine Wk<|Wq<|Wb<|Wg<|Rm z<|Rm z<|Rm z<|R z (rd_mul z z) ?_
   obtain ⟨u2e, e1e, hm1f⟩ := bdS (ifT hmw hcl)
   refine R z (rd_shr z z<|nnS e1e)<|R z (rd_convU d_3 d_5 z)<|E z (fS [(.tmp 31)] el_25 z z z (szAll z) (lb z)<|lb z) ?_
   rintro _ wx ⟨rfl, hn⟩
   have ho := hn.below
   have h1g : Blk wx wj.z [(vU (byteI (mkB (shrK .i64 x1 (imul 8 x6)))))] := hn.blk
   have h2f := ownS_new1 hn UInt8_own
   obtain ⟨x1h, e1i, hm1j⟩ := bdS hm1f
   refine E z (ef_pushN (α := UInt8) el_25 e1i z z (ha.e ho) hb h1g UInt8_own an_ nd_nil) ?_
   rintro _ w1k ⟨Sy, a1l, n1m, c1n, rfl, s1o, h1p, h1q, h1r⟩
   refine Ra z<|Wn<|Wg<|Rm z<|R z (sb_ z z)<|Ra z<|Wl ?_
   have hz : ∀ k ∈ S0, k ∈ [w0.z] ∨ w1.z ≤ k := or1 hc (io sr) (leor lr)
   have h1s : ∀ k ∈ Sy, k ∈ [w0.z] ∨ w1.z ≤ k := or2 h1r hz an_ (leor (lt_ sk.s ho.s))
   have h1t : Chg (· ∈ [w0.z]) w1 wj := cM (cr [w0.z] w1) sk (io sr)
   have h1u : Chg (· ∈ [w0.z]) w1 wx := cext h1t ho
   have h1v : Chg (· ∈ [w0.z]) w1 w1k := cM h1u s1o hz
   exact fun _ q => ⟨(x1h, isub x6 1), (som hm1j).symm, ⟨a1l, n1m, c1n, Sy, (q.k<|s3 z z z), h1v, h1p, h1q, h1s, (iS _ _)⟩⟩
  have h1w : ∀ k ∈ S0, k ∈ [w0.z] ∨ w1.z ≤ k := or1 hc (io sr) (leor lr)
  have h1x : Chg (· ∈ [w0.z]) w1 wj := cM (cr [w0.z] w1) sk (io sr)
  exact We (fun a' ha' => QO_brk (som<|ifF hmw hcl).symm ⟨a3, n4, c5, S0, (Sat.weaken ha'<|s1 z), h1x, ha, hb, h1w, hv⟩)
 ·rintro ⟨x9, x6⟩ a1y w2g rfl ⟨a3, n4, c5, S0, hS2h, s1z, ha, hb, hc, hv⟩
  have hm20 := elL hmu
  have hm21 := un2S hm20
  revert a1y
  refine Wo<|Ws<|Rm z<|Ra z<|Wn ?_
  obtain rfl := som hm21
  have h22 : ∀ k ∈ S0, w0.z ≤ k := or1 hc (mem1 lr) (lele (lt_ s7.s s8.s))
  exact Wr<|ret1 hr z ⟨(bM (bup s7 s8) s1z<|mem1 lr), a3, n4, c5, S0, z, ha, hb, h22⟩
 rintro r2i ex2j a2k w2l rfl ⟨rfl, hq23⟩
 have hm24 := elR hmu
 obtain rfl := som hm24
 exact ⟨hq23, z⟩
theorem W_w0z {x1 : List UInt8} {res : Int} (hm : M_spec_SumOfBytes x1 = some res) (hBw : B ≤ w0.z) (p1_0 : repS w0 B (sl A0 N0 C0) x1) : CallsR prog 79 [sl A0 N0 C0] w0 (Q0 w0 B res) := by
 unfold M_spec_SumOfBytes at hm
 refine goF func79 z z (lb z) fun fn hr => Ws<|Ra z<|Wn<|Ws<|Ra z<|Wn<|Wq<|Ws<|Ra z<|Wn ?_
 obtain ⟨um, hu8, hm2⟩ := bdS hm
 refine Wf (σ := Int) (ρ := Int) (fun (k3 : Nat) (x0 : Int) a w => Sat 20 [(0, sl A0 N0 C0), (3, vI x0), (4, (vI ((k3 : Nat) : Int)))] a ∧ Below w0.z w0 w ∧ inI x0) (fun (x0 : Int) a w => Sat 20 [(3, vI x0)] a ∧ Below w0.z w0 w ∧ inI x0) (fun r ex a w => ex = .ret ∧ RetPost prog fn (Q0 w0 B r) a w) hu8 ?_ ?_ ?_ ?_ ?_
 ·exact fun _ q => ⟨(q.k<|s3 z z z), (br w0), (ii z)⟩
 ·rintro k3 x0 an wo op hk4 ⟨hS9, s5, h1⟩ hma
  refine Wu ?_ hS9
  refine Wq<|Ws<|Rm z<|Rm z ?_
  have h6 := p1_0.e s5
  refine R z (lnR d_25 z h6)<|R z (lss z z)<|Wn<|Wc z (fun _ => ?_) (fun hc => (nolt hk4 hc).elim)
  refine Wk<|Wq<|Wb<|Wg<|Rm z<|Rm z<|Rm z ?_
  obtain ⟨xb, ec, hmd⟩ := bdS hma
  refine RX z (at_ (α := UInt8) d_25 z_5 z z z h6 ec) ?_
  rintro _ ⟨bq, os, csr, rfl, he, hf, ht⟩
  obtain rfl := u8 hf
  exact R z (l1 g_5 z fid<|he.at0 z)<|R z (rd_convUI d_5 d_3 z)<|R z (add_ z z)<|R z (rd_rem z z (by decide))<|Ra z<|Wn<|Wg<|Rm z<|R z (inc_ hk4 (lt_ (repS.len p1_0) LEN_le) z z)<|Ra z<|Wl (fun _ q => ⟨irem (iadd x0<|byteI xb) 256, (som hmd).symm, ⟨(q.k<|s3 z z z), s5, (inI_rem<|iA _ _)⟩⟩)
 ·rintro x0 au wv ⟨hSg, s7, h1⟩
  refine Wu ?_ hSg
  refine Wq<|Ws<|Rm z<|Rm z<|R z (lnR d_25 z<|p1_0.e s7)<|R z (lss z z)<|Wn<|Wc z (fun hc => (noltt hc).elim) (fun _ => ?_)
  exact We (fun a' ha' => ⟨rfl, ⟨(Sat.weaken ha'<|s1 z), s7, h1⟩⟩)
 ·rintro x0 ah ww rfl ⟨hSx, si, h1⟩
  have hmj := elL hm2
  revert ah
  refine Wo<|Ws<|Rm z<|Ra z<|Wn ?_
  obtain rfl := som hmj
  exact Wr<|ret1 hr z ⟨si, z, h1⟩
 rintro ry exz a10 w11 rfl ⟨rfl, hqk⟩
 have hml := elR hm2
 obtain rfl := som hml
 exact ⟨hqk, z⟩
theorem W_w10 {x1 : Record} {res : (List UInt8)} (hm : M_spec_EncodeRecord n x1 = some res) (hBw : B ≤ w0.z) (p1_0 : inI x1.kind) (p1_1 : x1.name.b.length ≤ LEN) (p1_2 : inI x1.version) (p1_3 : repS w0 B (sl AE NE CE) x1.data) : CallsR prog 48 [(.agg #[vI x1.kind, Str.v x1.name, vI x1.version, sl AE NE CE])] w0 (Q1 w0 B res) := by
 unfold M_spec_EncodeRecord at hm
 refine goF func48 z z (lb z) fun fn hr => Ws<|E z (fb z) ?_
 rintro _ w1c ⟨rfl, hk⟩
 have h2 := hk.below
 have h9 : Blk w1c w0.z [vI x1.kind, Str.v x1.name, vI x1.version, sl AE NE CE] := hk.blk
 refine Ra z<|Wn<|Wq<|Ws<|R z (lN (vs := [vI x1.kind, Str.v x1.name, vI x1.version, sl AE NE CE]) g_76 z_76 z z fid<|h9.row 0 4 z) ?_
 have hl := p1_3.e h2
 obtain ⟨r2v, e1d, hmm⟩ := bdS hm
 refine E z (fc call76 z<|W_w0w (B := B) e1d (lt_ hBw h2.s) p1_0 p1_1 p1_2 hl) ?_
 rintro _ w1e ⟨s0, rfl⟩
 refine R z (not_ z)<|Wn<|Wc z (fun hca => ?_) (fun hca => ?_)
 ·refine Ws<|E z (f0 (α := UInt8) el_25) ?_
  rintro _ w2w ⟨a1f, n1g, c1h, rfl, s1i, h1j⟩
  refine Ra z<|Wn ?_
  obtain rfl := som (ifT hmm hca)
  exact Wr<|ret1 hr z ⟨(bup (bup h2 s0) s1i), a1f, n1g, c1h, [w1e.z], z, h1j, nd_one, (m1<|lt_ h2.s s0.s)⟩
 refine Wk<|Ws<|R z (fd f_76_3 z) ?_
 have hn := h9.e s0
 refine R z (l1 g_25 z fid<|hn.at z) ?_
 have ho := lt_ h2.s s0.s
 obtain ⟨r2x, e1k, hm1l⟩ := bdS (ifF hmm hca)
 refine E z (fc call77 z<|W_w2h (B := B) e1k (lt_ hBw ho)<|hl.e s0) ?_
 rintro _ wb ⟨s7, a2y, n2z, c30, S1m, rfl, h1, h31, h32⟩
 refine Ra z<|Wn<|Ws<|R z (fd f_76_0 z) ?_
 have hc := hn.e s7
 refine R z (l1 g_3 z fid<|hc.at z)<|R z (rd_convU d_3 d_5 z)<|R z (fd f_76_1 z)<|R z (l1 g_9 z fid<|hc.at z)<|R z (lnT d_9 z)<|R z (rd_convU d_3 d_5 z)<|E z (fS [(.tmp 14), (.tmp 18)] el_25 z z z (szAll z) (lb z)<|lb z) ?_
 rintro _ wp ⟨rfl, hq⟩
 have h4 := hq.below
 have h1n : Blk wp wb.z [(vU (byteI (mkB x1.kind))), (vU (byteI (mkB (x1.name.b.length : Int))))] := hq.blk
 have h1o : ownS wp [wb.z] (sl (some ⟨wb.z, 0, none⟩) 2 2) [mkB x1.kind, mkB (x1.name.b.length : Int)] := own_lit (l := [mkB x1.kind, mkB (x1.name.b.length : Int)]) h1n z
 refine R z (fd f_76_1 z) ?_
 have ht := hc.e h4
 refine R z (l1 g_9 z fid<|ht.at z)<|E z (ef_convTS d_9 d_25 d_5 z p1_1) ?_
 rintro _ w33 ⟨a34, n35, c36, rfl, s3, h1p⟩
 obtain ⟨x37, e1q, hm1r⟩ := bdS hm1l
 refine E z (fN (α := UInt8) el_25 e1q z z (h1o.e s3) nd_one<|ownS.rep h1p) ?_
 rintro _ w1s ⟨S38, a39, n3a, c3b, rfl, s5, h1t, h1u, hu⟩
 refine Ra z<|Wn<|Ws<|Rm z<|R z (fd f_76_2 z)<|R z (l1 g_3 z fid<|((ht.e s3).c s5<|djs<|mm1 h9.lt<|lt_ s0.s s7.s).at z)<|R z (rd_convU d_3 d_5 z)<|E z (fS [(.tmp 27)] el_25 z z z (szAll z) (lb z)<|lb z) ?_
 rintro _ w1v ⟨rfl, hd⟩
 have h6 := hd.below
 have h1w : Blk w1v w1s.z [(vU (byteI (mkB x1.version)))] := hd.blk
 have h3c := ownS_new1 hd UInt8_own
 obtain ⟨x3d, e1x, hm1y⟩ := bdS hm1r
 refine E z (ef_pushN (α := UInt8) el_25 e1x z z (h1t.e h6) h1u h1w UInt8_own an_ nd_nil) ?_
 rintro _ w3e ⟨Sr, a3f, n3g, c3h, rfl, se, h1z, h20, hv⟩
 refine Rm z ?_
 have hw := mnr<|ownS.lt h1
 have hx := lt_ h4.s s3.s
 have hy := o1no hu hw (ownS.lt h1) hx
 have hf := ((((h1.e h4).e s3).c s5<|ds hw).e h6).c se<|ds hy
 refine R z (lnR d_25 z<|or_ hf<|ownS.lt h1) ?_
 have hz := lt_ ho s7.s
 have h10 := lt_ (lt_ hz h4.s) s3.s
 have h11 := lt_ (lt_ h10 s5.s) h6.s
 have h12 := lt_ h11 se.s
 obtain ⟨r3i, e21, hm22⟩ := bdS hm1y
 refine E z (fc call78 z<|W_w2i (B := B) e21 (lt_ hBw h12) (inI_len<|repS.len<|or_ hf<|ownS.lt h1)<|ii z) ?_
 rintro _ w3j ⟨s8, a3k, n3l, c3m, S3n, rfl, h23, h3o, h3p⟩
 obtain ⟨x3q, e24, hm25⟩ := bdS hm22
 refine E z (fN (α := UInt8) el_25 e24 z z (h1z.e s8) h20<|ownS.rep h23) ?_
 rintro _ w3r ⟨S3s, a3t, n3u, c3v, rfl, sg, h26, h27, h28⟩
 refine Rm z ?_
 obtain ⟨x3w, e29, hm2a⟩ := bdS hm25
 have h2b : ∀ k ∈ Sr, k ∉ S1m := or2 hv hy an_ (ltnot (ownS.lt h1) (lt_ (lt_ hx s5.s) h6.s))
 refine E z (fN (α := UInt8) el_25 e29 z z h26 h27<|or_ ((hf.e s8).c sg<|ds h2b)<|ownS.lt h1) ?_
 rintro _ w2c ⟨S3x, a3y, n3z, c40, rfl, ss, h13, h2d, h2e⟩
 refine Ra z<|Wn<|Ws<|Rm z<|Rm z ?_
 obtain ⟨r2f, e2g, hm2h⟩ := bdS hm2a
 refine E z (fc call79 z<|W_w0z (B := w2c.z) e2g lr<|ownS.rep h13) ?_
 rintro _ w2i ⟨sh, rfl, h41⟩
 refine R z (rd_convU d_3 d_5 z)<|E z (fS [(.tmp 39)] el_25 z z z (szAll z) (lb z)<|lb z) ?_
 rintro _ w2j ⟨rfl, hi⟩
 have hj := hi.below
 have h2k : Blk w2j w2i.z [(vU (byteI (mkB r2f)))] := hi.blk
 have h42 := ownS_new1 hi UInt8_own
 obtain ⟨x43, e2l, hm2m⟩ := bdS hm2h
 refine E z (ef_pushN (α := UInt8) el_25 e2l z z ((h13.e sh).e hj) h2d h2k UInt8_own an_ nd_nil) ?_
 rintro _ w44 ⟨S14, a2n, n2o, c2p, rfl, s2q, h2r, h2s, h2t⟩
 refine Ra z<|Wn ?_
 obtain rfl := som hm2m
 have h15 := m1 hz
 have h16 := o1le hu h15 h10
 have h17 : ∀ k ∈ Sr, w0.z ≤ k := or2 hv h16 an_ (lele h11)
 have h18 := lt_ h12 s8.s
 have h19 := o1le h28 h17 h18
 have h1a := lt_ h18 sg.s
 have h1b := o1le h2e h19 h1a
 have h2u : ∀ k ∈ S14, w0.z ≤ k := or2 h2t h1b an_ (lele (lt_ (lt_ (lt_ h1a ss.s) sh.s) hj.s))
 exact Wr<|ret1 hr z ⟨(bM (bup (bup (bM (bM (bup (bM (bup (bM (bup (bup (bup (bup h2 s0) s7) h4) s3) s5 h15) h6) se h16) s8) sg h17) ss h19) sh) hj) s2q h1b), a2n, n2o, c2p, S14, z, h2r, h2s, h2u⟩
theorem W_w2j {x1 : List UInt8} {x2 : List UInt8} {res : Bool} (hm : M_spec_EqualBytes x1 x2 = some res) (hBw : B ≤ w0.z) (p1_0 : repS w0 B (sl A0 N0 C0) x1) (p2_0 : repS w0 B (sl A6 N6 C6) x2) : CallsR prog 127 [sl A0 N0 C0, sl A6 N6 C6] w0 (Q11 w0 B res) := by
 unfold M_spec_EqualBytes at hm
 refine goF func127 z z (lb z) fun fn hr => Ws<|Ra z<|Wn<|Wq<|Ws<|Rm z<|R z (lnR d_25 z p1_0)<|Rm z<|R z (lnR d_25 z p2_0)<|R z (nq z z)<|Wn<|Wc z (fun hc2 => ?_) (fun hc2 => ?_)
 ·refine Ws<|Ra z<|Wn ?_
  obtain rfl := som (ifT hm hc2)
  exact Wr<|ret1 hr z ⟨(br w0), z⟩
 refine Wk<|Wq<|Ws<|Ra z<|Wn ?_
 obtain ⟨uq, hua, hm4⟩ := bdS (ifF hm hc2)
 refine Wf (σ := Unit) (ρ := Bool) (fun (k5 : Nat) (_ : Unit) a w => Sat 26 [(0, sl A0 N0 C0), (1, sl A6 N6 C6), (5, (vI ((k5 : Nat) : Int)))] a ∧ Below w0.z w0 w) (fun (_ : Unit) a w => Sat 26 [] a ∧ Below w0.z w0 w) (fun r ex a w => ex = .ret ∧ RetPost prog fn (Q11 w0 B r) a w) hua ?_ ?_ ?_ ?_ ?_
 ·exact fun _ q => ⟨(q.k<|s3 z z z), (br w0)⟩
 ·rintro k5 _ ar ws ot hk6 ⟨hSb, s0⟩ hmc
  refine Wu ?_ hSb
  refine Wq<|Ws<|Rm z<|Rm z ?_
  have h7 := p1_0.e s0
  refine R z (lnR d_25 z h7)<|R z (lss z z)<|Wn<|Wc z (fun _ => ?_) (fun hc => (nolt hk6 hc).elim)
  refine Wk<|Wq<|Wb<|Wq (Wd (X := noX) 0 (.rd 0 (.rd 1 (.rd 2 (.rd 3 (.rd 4 (.rd 5 (.rd 6 (.rd 7 (.rd 8 .done))))))))) mo (by kernel_rfl) fun wu s1 _ => dR z z (mv z)<|dR z z (mv z) ?_)
  obtain ⟨xv, ed, hme⟩ := bdS hmc
  refine dRX z z (at_ (α := UInt8) d_25 z_5 z z z (h7.e s1) ed) ?_
  rintro _ ⟨bw, ox, csy, rfl, hf, hg, hz⟩
  obtain rfl := u8 hg
  refine dR z z (l1 g_5 z fid<|hf.at0 z)<|dR z z (mv z)<|dR z z (mv z) ?_
  obtain ⟨x10, eh, hm8⟩ := bdS hme
  refine dRX z z (at_ (α := UInt8) d_25 z_5 z z z ((p2_0.e s0).e s1) eh) ?_
  rintro _ ⟨b11, o12, cs13, rfl, hi, hj, h14⟩
  obtain rfl := u8 hj
  refine dR z z (l1 g_5 z fid<|hi.at0 z)<|dR z z (nq z z)<|pD<|Wo<|Wc z (fun hc3 => ?_) (fun hc3 => ?_)
  ·exact Ws<|Ra z<|Wn<|Wr<|rtO<|qL (som<|ifT hm8 hc3).symm<|ret1 hr z ⟨(bup s0 s1), z⟩
  exact Wk<|Wg<|Rm z<|R z (inc_ hk6 (lt_ (repS.len p1_0) LEN_le) z z)<|Ra z<|Wl (fun _ q => ⟨(), (som<|ifF hm8 hc3).symm, ⟨(q.k<|s3 z z z), (bup s0 s1)⟩⟩)
 ·rintro _ a15 w16 ⟨hSk, s9⟩
  refine Wu ?_ hSk
  refine Wq<|Ws<|Rm z<|Rm z<|R z (lnR d_25 z<|p1_0.e s9)<|R z (lss z z)<|Wn<|Wc z (fun hc => (noltt hc).elim) (fun _ => ?_)
  exact We (fun a' ha' => ⟨rfl, ⟨(Sat.weaken ha' sn), s9⟩⟩)
 ·rintro _ al w17 rfl ⟨hS18, sm⟩
  have hmn := elL hm4
  revert al
  refine Wo<|Ws<|Ra z<|Wn ?_
  obtain rfl := som hmn
  exact Wr<|ret1 hr z ⟨sm, z⟩
 rintro r19 ex1a a1b w1c rfl ⟨rfl, hqo⟩
 have hmp := elR hm4
 obtain rfl := som hmp
 exact ⟨hqo, z⟩
def Q13 (w0 : World) (B : Nat) (r : Record × Int × Bool) (v : Value) (w' : World) : Prop := Bw w0 w' ∧ un3 (fun r1 r2 r3 => ∃ a1 n1 c1 S1, v = .tuple #[(.agg #[vI r1.kind, Str.v r1.name, vI r1.version, sl a1 n1 c1]), vI r2, vB r3] ∧ inI r1.kind ∧ r1.name.b.length ≤ LEN ∧ inI r1.version ∧ ownS w' S1 (sl a1 n1 c1) r1.data ∧ inI r2 ∧ S1.Nodup ∧ (∀ k ∈ S1, w0.z ≤ k)) r
theorem W_w2k {x1 : List UInt8} {x2 : Int} {res : Record × Int × Bool} (hm : M_spec_DecodeRecord n x1 x2 = some res) (hBw : B ≤ w0.z) (p1_0 : repS w0 B (sl A0 N0 C0) x1) (p2_0 : inI x2) : CallsR prog 100 [sl A0 N0 C0, vI x2] w0 (Q13 w0 B res) := by
 unfold M_spec_DecodeRecord at hm
 refine goF func100 z z (lb z) fun fn hr => Ws<|E z (fa zero_76) ?_
 rintro _ w1a ⟨rfl, ht⟩
 have h5 := ht.below
 have h6 : Blk w1a w0.z [vI 0, (Str.v (⟨[]⟩ : Str)), vI 0, sl none 0 0] := ht.blk
 refine Ra z<|Ra z<|Wn<|Wq<|Ws<|Rm z<|Rm z ?_
 have hu := p1_0.e h5
 refine R z (lnR d_25 z hu)<|R z (sb_ z z) ?_
 obtain ⟨r2t, e1b, hmv⟩ := bdS hm
 refine E z (fc call97 z<|W_w00 (B := B) e1b (lt_ hBw h5.s) p2_0 (ii z)<|iS _ _) ?_
 rintro _ w2u ⟨s0, rfl⟩
 refine R z (not_ z)<|Wn<|Wc z (fun hcl => ?_) (fun hcl => ?_)
 ·refine Ws<|R z (bP (parts := []) (cs := [vI 0, (Str.v (⟨[]⟩ : Str)), vI 0, sl none 0 0]) build_76 z z)<|Rm z<|E0 (fs (cur' := [vI 0, (Str.v (⟨[]⟩ : Str)), vI 0, sl none 0 0]) z_76 z z (h6.e s0) z (lb z) (oA z) z) ?_
  rintro _ w2v ⟨h1c, s1d⟩
  refine Ra z<|Ra z<|Wn ?_
  obtain rfl := som (ifT hmv hcl)
  exact Wr<|ret3 hr (resC g_76 z_76 z h1c z) z z ⟨(bM (bup h5 s0) s1d.one<|mem1 lr), none, 0, 0, [], z, (ii z), (lb z), (ii z), onL, p2_0, nd_nil, an_⟩
 refine Wk<|Ws<|Rm z<|R z (add_ z z)<|Ra z<|Wn<|Ws<|Rm z<|Rm z<|Rm z<|R z (add_ z z) ?_
 obtain ⟨x1e, e1f, hmw⟩ := bdS (ifF hmv hcl)
 have hi := hu.e s0
 refine RX z (at_ (α := UInt8) d_25 z_5 z z z hi e1f) ?_
 rintro _ ⟨b2w, o2x, cs2y, rfl, h1g, h1h, h2z⟩
 obtain rfl := u8 h1h
 refine R z (l1 g_5 z fid<|h1g.at0 z)<|R z (rd_convUI d_5 d_3 z)<|R z (add_ z z)<|Ra z<|Wn<|Wq<|Ws<|Rm z<|R z (add_ z z)<|Rm z<|R z (lnR d_25 z hi)<|R z (rd_gtr z z)<|Wn<|Wc z (fun hcm => ?_) (fun hcm => ?_)
 ·refine Ws<|R z (bP (parts := []) (cs := [vI 0, (Str.v (⟨[]⟩ : Str)), vI 0, sl none 0 0]) build_76 z z)<|Rm z<|E0 (fs (cur' := [vI 0, (Str.v (⟨[]⟩ : Str)), vI 0, sl none 0 0]) z_76 z z (h6.e s0) z (lb z) (oA z) z) ?_
  rintro _ w30 ⟨h1i, s1j⟩
  refine Ra z<|Ra z<|Wn ?_
  obtain rfl := som (ifT hmw hcm)
  exact Wr<|ret3 hr (resC g_76 z_76 z h1i z) z z ⟨(bM (bup h5 s0) s1j.one<|mem1 lr), none, 0, 0, [], z, (ii z), (lb z), (ii z), onL, p2_0, nd_nil, an_⟩
 refine Wk<|Ws<|Rm z<|Rm z<|R z (add_ z z)<|Rm z<|R z (add_ z z) ?_
 obtain ⟨x31, e1k, hm1l⟩ := bdS (ifF hmw hcm)
 refine RX z (rX d_25 z_5 z z hi z z e1k) ?_
 rintro _ ⟨a32, n33, c34, rfl, h1m⟩
 have hx := lt_ h5.s s0.s
 obtain ⟨r1n, e1o, hmy⟩ := bdS hm1l
 refine E z (fc call125 z<|W_w0v (B := B) e1o (lt_ hBw hx) h1m) ?_
 rintro _ w35 ⟨s3, rfl, h36⟩
 refine Ra z<|Wn<|Ws<|Rm z<|R z (add_ z z)<|Rm z<|R z (add_ z z)<|Ra z<|Wn<|Wq<|Ws<|Rm z<|Rm z ?_
 have hn := hi.e s3
 refine R z (lnR d_25 z hn)<|R z (rd_geq z z)<|Wn<|Wc z (fun hco => ?_) (fun hco => ?_)
 ·refine Ws<|R z (bP (parts := []) (cs := [vI 0, (Str.v (⟨[]⟩ : Str)), vI 0, sl none 0 0]) build_76 z z)<|Rm z<|E0 (fs (cur' := [vI 0, (Str.v (⟨[]⟩ : Str)), vI 0, sl none 0 0]) z_76 z z ((h6.e s0).e s3) z (lb z) (oA z) z) ?_
  rintro _ w37 ⟨h1p, s1q⟩
  refine Ra z<|Ra z<|Wn ?_
  obtain rfl := som (ifT hmy hco)
  exact Wr<|ret3 hr (resC g_76 z_76 z h1p z) z z ⟨(bM (bup (bup h5 s0) s3) s1q.one<|mem1 lr), none, 0, 0, [], z, (ii z), (lb z), (ii z), onL, p2_0, nd_nil, an_⟩
 refine Wk<|Ws<|Rm z<|Rm z<|R z (add_ z z)<|Rm z ?_
 obtain ⟨x38, e1r, hm1s⟩ := bdS (ifF hmy hco)
 refine RX z (rX d_25 z_5 z z hn z z e1r) ?_
 rintro _ ⟨a39, n3a, c3b, rfl, h1t⟩
 have hh := lt_ hx s3.s
 obtain ⟨r1u, r3c, e1v, hm1w⟩ := bd2S hm1s
 refine E z (fc call126 z<|W_w2f (B := B) e1v (lt_ hBw hh) h1t) ?_
 rintro _ w1x ⟨s4, aa, nb, cc, S1y, rfl, hp, h1z, hz⟩
 refine Rm z<|R z (ext_ z z)<|R z (ext_ z z)<|Ra z<|Ra z<|Wn<|Wq (Wd (X := noX) 262144 (.rd 0 (.rd 1 (.rd 2 (.rd 3 (.rd 4 (.rd 5 (.rd 6 (.rd 7 (.rd 8 (.rd 9 (.rd 10 (.rd 11 (.rd 12 (.rd 13 (.rd 14 (.rd 15 (.rd 16 (.ef 17 (.ef 18 .done))))))))))))))))))) mo (by kernel_rfl) fun w10 s1 _ => dR z z (mv z)<|dR z z (mv z) ?_)
 obtain ⟨xd, e20, hm21⟩ := bdS hm1w
 have hj := (hn.e s4).e s1
 refine dRX z z (at_ (α := UInt8) d_25 z_5 z z z hj e20) ?_
 rintro _ ⟨b3d, o3e, cs3f, rfl, h22, h23, h3g⟩
 obtain rfl := u8 h23
 refine dR z z (l1 g_5 z fid<|h22.at0 z)<|dR z z (rd_convUI d_5 d_3 z) ?_
 iterate 3 refine dR z z (mv z) ?_
 obtain ⟨xe, e24, hm25⟩ := bdS hm21
 refine dRX z z (rX d_25 z_5 z z hj z z e24) ?_
 rintro _ ⟨a3h, n3i, c3j, rfl, hq⟩
 refine dR z z (rd_convST d_25 d_9 d_5 z_5 z hq)<|dR z z (mv z)<|dR z z (mv z) ?_
 obtain ⟨xf, e26, hm27⟩ := bdS hm25
 refine dRX z z (at_ (α := UInt8) d_25 z_5 z z z hj e26) ?_
 rintro _ ⟨b3k, o3l, cs3m, rfl, h28, h29, h3n⟩
 obtain rfl := u8 h29
 refine dR z z (l1 g_5 z fid<|h28.at0 z)<|dR z z (rd_convUI d_5 d_3 z)<|dR z z (mv z)<|dR z z (bP (parts := [(0, (.tmp 70)), (1, (.tmp 75)), (2, (.tmp 80)), (3, (.tmp 81))]) (cs := [vI (byteI xd), Str.v (⟨xe⟩ : Str), vI<|byteI xf, sl aa nb cc]) build_76 z z)<|dE z z (fa zero_76) (.inr fun _ _ h => chgB<|h.2.below) ?_
 rintro _ w2a ⟨rfl, h11⟩
 have h7 := h11.below
 have h2b : Blk w2a w10.z [vI 0, (Str.v (⟨[]⟩ : Str)), vI 0, sl none 0 0] := h11.blk
 refine dE0 z (fs (cur' := [vI (byteI xd), Str.v (⟨xe⟩ : Str), vI<|byteI xf, sl aa nb cc]) z_76 z z h2b z (lb z) (oA z) z) (.inl z) ?_
 rintro _ w3o ⟨h12, s2c⟩
 have h8 := s2c.one
 refine pD<|Wo<|Wq<|Ws<|R z (lN (vs := [vI (byteI xd), Str.v (⟨xe⟩ : Str), vI<|byteI xf, sl aa nb cc]) g_76 z_76 z z fid<|h12.row 0 4 z) ?_
 have h13 := ((hp.e s1).e h7).c h8<|ds<|mno (ownS.lt hp) s1.s
 obtain ⟨r2d, e2e, hm2f⟩ := bdS hm27
 refine E z (fc call48 z<|W_w10 (B := w1x.z) (x1 := (⟨byteI xd, (⟨xe⟩ : Str), byteI xf, r1u⟩ : Record)) e2e (lt_ (lt_ s1.s h7.s) h8.s) (inI_byte _) (repS.len hq) (inI_byte _)<|or_ h13<|ownS.lt hp) ?_
 rintro _ wk ⟨s9, a3p, n3q, c3r, S3s, rfl, h14, h3t, h3u⟩
 refine Ra z<|Wn<|Wq ?_
 obtain ⟨u2g, hu15, hm16⟩ := bdS hm2f
 refine Wt (fun a w => ∃ (xr : Bool), xr = u2g ∧ Sat 103 [(1, vI x2), (4, pt w0.z), (10, (vI<|iadd (iadd (iadd (iadd x2 2)<|byteI x1e) 3) r1n)), (13, pt w10.z), (97, vB xr)] a ∧ Below wk.z wk w) ?_ ?_
 ·refine Wg<|Rm z<|R z (lnR d_25 z<|ownS.rep h14)<|R z (eql z z)<|Rm z ?_
  rcases bs ((r2d.length : Int) == 0) with hc2 | hc2
  ·iterate 8 refine Nh z hc2 ?_
   exact R z (pT z hc2 z)<|Wl (fun _ q => ⟨true, som<|ifT hu15 hc2, (q.k<|s5 z z z z z), (br wk)⟩)
  iterate 4 refine Rh z hc2 (mv z) ?_
  refine Rh z hc2 (add_ z z) ?_
  obtain ⟨x3v, e2h, hm2i⟩ := bdS (ifF hu15 hc2)
  have h17 := lt_ (lt_ hh s4.s) s1.s
  refine RXg z z hc2 z (rX d_25 z_5 z z (((hj.e h7).c h8<|lg<|m1<|lt_ hBw h17).e s9) z z e2h) ?_
  rintro _ ⟨a3w, n3x, c3y, rfl, h2j⟩
  obtain ⟨r2k, e2l, hm2m⟩ := bdS hm2i
  refine Eg z z hc2 z (fc call127 z<|W_w2j (B := wk.z) e2l lr (ownS.rep h14)<|repS.mono h2j<|lt_ hBw<|lt_ (lt_ (lt_ h17 h7.s) h8.s) s9.s) ?_
  rintro _ w3z ⟨s2n, rfl⟩
  exact Rh z hc2 (not_ z)<|R z (pF z hc2 z)<|Wl (fun _ q => ⟨!r2k, som hm2m, (q.k<|s5 z z z z z), s2n⟩)
 rintro a2o w40 ⟨xr, rfl, hS41, sg⟩
 revert a2o
 refine Wo<|Wc z (fun hcs => ?_) (fun hcs => ?_)
 ·refine Ws<|R z (bP (parts := []) (cs := [vI 0, (Str.v (⟨[]⟩ : Str)), vI 0, sl none 0 0]) build_76 z z)<|Rm z<|E0 (fs (cur' := [vI 0, (Str.v (⟨[]⟩ : Str)), vI 0, sl none 0 0]) z_76 z z ((((((((h6.e s0).e s3).e s4).e s1).e h7).c h8<|djs<|mm1 h6.lt<|lt_ (lt_ (lt_ s0.s s3.s) s4.s) s1.s).e s9).e sg) z (lb z) (oA z) z) ?_
  rintro _ w42 ⟨h2p, s2q⟩
  refine Ra z<|Ra z<|Wn ?_
  obtain rfl := som (ifT hm16 hcs)
  exact Wr<|ret3 hr (resC g_76 z_76 z h2p z) z z ⟨(bM (bup (bup (bM (bup (bup (bup (bup (bup h5 s0) s3) s4) s1) h7) h8<|m1<|lt_ (lt_ hh s4.s) s1.s) s9) sg) s2q.one<|mem1 lr), none, 0, 0, [], z, (ii z), (lb z), (ii z), onL, p2_0, nd_nil, an_⟩
 refine Wk<|Ws<|R z (lN (vs := [vI (byteI xd), Str.v (⟨xe⟩ : Str), vI<|byteI xf, sl aa nb cc]) g_76 z_76 z z fid<|((h12.e s9).e sg).row 0 4 z)<|Rm z<|R z (add_ z z) ?_
 have h18 := lt_ s0.s s3.s
 refine E0 (fs (cur' := [vI (byteI xd), Str.v (⟨xe⟩ : Str), vI<|byteI xf, sl aa nb cc]) z_76 z z ((((((((h6.e s0).e s3).e s4).e s1).e h7).c h8<|djs<|mm1 h6.lt<|lt_ (lt_ h18 s4.s) s1.s).e s9).e sg) z (lb z) (oA z) z) ?_
 rintro _ w43 ⟨h2r, s2s⟩
 have h19 := s2s.one
 refine Ra z<|Ra z<|Wn ?_
 obtain rfl := som (ifF hm16 hcs)
 exact Wr<|ret3 hr (resC g_76 z_76 z h2r z) z z ⟨(bM (bup (bup (bM (bup (bup (bup (bup (bup h5 s0) s3) s4) s1) h7) h8<|m1<|lt_ (lt_ hh s4.s) s1.s) s9) sg) h19<|mem1 lr), aa, nb, cc, S1y, z, (inI_byte _), (repS.len hq), (inI_byte _), (((h13.e s9).e sg).c h19<|o0n1 hz h6.lt h18), (iA _ _), h1z, (o0le hz hh)⟩
def Q14 (w0 : World) (B : Nat) (r : (List Record) × Int) (v : Value) (w' : World) : Prop := Bw w0 w' ∧ un2 (fun r1 r2 => ∃ a1 n1 c1 S1, v = .tuple #[sl a1 n1 c1, vI r2] ∧ ownS w' S1 (sl a1 n1 c1) r1 ∧ inI r2 ∧ S1.Nodup ∧ (∀ k ∈ S1, w0.z ≤ k)) r
theorem W_w09 {x1 : List UInt8} {res : (List Record) × Int} (hm : M_spec_ReadRecords n x1 = some res) (hBw : B ≤ w0.z) (p1_0 : repS w0 B (sl A0 N0 C0) x1) : CallsR prog 68 [sl A0 N0 C0] w0 (Q14 w0 B res) := by
 unfold M_spec_ReadRecords at hm
 refine goF func68 z z (lb z) fun fn hr => Ws<|Ra z<|Ra z<|Wn<|Ws<|E z (f0 (α := Record) el_89) ?_
 rintro _ w1 ⟨a11, n12, c13, rfl, sc, h14⟩
 refine Ra z<|Wn<|Ws<|Ra z<|Wn ?_
 obtain ⟨u2c, hu15, hmo⟩ := bdS hm
 refine WC_iter (σ := (List Record) × Int) (ρ := (List Record) × Int) (fun s a w => un2 (fun xd x9 => ∃ a4 n5 c6 S0, Sat 26 [(0, sl A0 N0 C0), (2, sl none 0 0), (3, vI 0), (4, sl a4 n5 c6), (5, vI x9)] a ∧ Chg (· ∈ [w0.z]) w1 w ∧ ownS w S0 (sl a4 n5 c6) xd ∧ S0.Nodup ∧ (∀ k ∈ S0, k ∈ [w0.z] ∨ w1.z ≤ k) ∧ inI x9) s) (fun s a w => un2 (fun xd x9 => ∃ a4 n5 c6 S0, Sat 26 [(2, sl none 0 0), (3, vI 0)] a ∧ Chg (· ∈ [w0.z]) w1 w ∧ ownS w S0 (sl a4 n5 c6) xd ∧ S0.Nodup ∧ (∀ k ∈ S0, k ∈ [w0.z] ∨ w1.z ≤ k) ∧ inI x9) s) (fun r ex a w => ex = .ret ∧ RetPost prog fn (Q14 w0 B r) a w) hu15 ?_ ?_ ?_ ?_
 ·exact fun _ q => ⟨a11, n12, c13, [w0.z], (q.k<|s5 z z z z z), (cr [w0.z] w1), h14, nd_one, (io sr), (ii z)⟩
 ·rintro ⟨xd, x9⟩ a2d w16 o2e ⟨a4, n5, c6, S0, hS17, sa, hb, hg, hh, hi⟩ hm18
  have hm19 := un2S hm18
  refine Wu ?_ hS17
  refine Wb<|Ws<|Rm z<|Rm z ?_
  have hp := lt_ sc.s sa.s
  obtain ⟨r2, r1a, r2f, e1b, hmq⟩ := bd3S hm19
  refine E z (fc call100 z<|W_w2k (B := B) e1b (lt_ hBw hp) ((p1_0.e sc).c sa<|lg<|m1 hBw) hi) ?_
  rintro _ wj ⟨s3, ak, nl, cm, Sr, rfl, h1c, h1d, h1e, he, h1f, h1g, ht⟩
  refine Rm z ?_
  iterate 3 refine R z (ext_ z z) ?_
  refine E z (fa zero_76) ?_
  rintro _ ws ⟨rfl, hu⟩
  have h7 := hu.below
  have h1h : Blk ws wj.z [vI 0, (Str.v (⟨[]⟩ : Str)), vI 0, sl none 0 0] := hu.blk
  refine E0 (fs (cur' := [vI r2.kind, Str.v r2.name, vI r2.version, sl ak nl cm]) z_76 z z h1h z (lb z) (oA z) z) ?_
  rintro _ wv ⟨h1i, s1j⟩
  have h8 := s1j.one
  refine Ra z<|Ra z<|Wn<|Wq<|Ws<|Rm z<|R z (not_ z)<|Wn<|Wc z (fun hcn => ?_) (fun hcn => ?_)
  ·refine Ws<|Rm z<|Rm z<|Ra z<|Ra z<|Wn ?_
   have h1k : ∀ k ∈ S0, w0.z ≤ k := or1 hh (mem1 lr) (lele sc.s)
   exact Wr<|rtO<|qL (som<|ifT hmq hcn).symm<|ret2 hr z z ⟨(bM (bup (bup (bM sc sa<|mem1 lr) s3) h7) h8<|m1<|lt_ hp s3.s), a4, n5, c6, S0, z, (((hb.e s3).e h7).c h8<|ds<|mno (ownS.lt hb) s3.s), hi, hg, h1k⟩
  refine Wk<|Ws<|Rm z<|R z (lN (vs := [vI r2.kind, Str.v r2.name, vI r2.version, sl ak nl cm]) g_76 z_76 z z fid<|h1i.row 0 4 z)<|E z (fS [(.tmp 22)] el_89 z z z (szAll z) (lb z)<|lb z) ?_
  rintro _ ww ⟨rfl, hx⟩
  have hf := hx.below
  have h1l : Blk ww wv.z [vI r2.kind, Str.v r2.name, vI r2.version, sl ak nl cm] := hx.blk
  have h2g := (he.e h7).c h8<|ds<|mnr<|ownS.lt he
  obtain ⟨x1m, e1n, hm1o⟩ := bdS (ifF hmq hcn)
  refine E z (ef_pushN (α := Record) el_89 e1n z z ((((hb.e s3).e h7).c h8<|ds<|mno (ownS.lt hb) s3.s).e hf) hg h1l (Record_mkO (x := r2) (S1 := Sr) h1c h1d h1e<|((he.e h7).c h8<|ds<|mnr<|ownS.lt he).e hf) (o0no ht (ownS.lt hb) lr) h1g) ?_
  rintro _ w1p ⟨Sy, a1q, n1r, c1s, rfl, s1t, h1u, h1v, h1w⟩
  refine Ra z<|Wn<|Wg<|Rm z<|Ra z<|Wl ?_
  have hz := lt_ sa.s s3.s
  have h10 : ∀ k ∈ S0, k ∈ [w0.z] ∨ w1.z ≤ k := or1 hh (io sr) (leor lr)
  have h1x : ∀ k ∈ Sr, k ∈ [w0.z] ∨ w1.z ≤ k := or0 ht  (leor sa.s)
  have h1y : ∀ k ∈ Sy, k ∈ [w0.z] ∨ w1.z ≤ k := or2 h1w h10 h1x (leor (lt_ (lt_ (lt_ hz h7.s) h8.s) hf.s))
  have h1z : Chg (· ∈ [w0.z]) w1 w16 := cM (cr [w0.z] w1) sa (io sr)
  have h20 : Chg (· ∈ [w0.z]) w1 wj := cext h1z s3
  have h21 : Chg (· ∈ [w0.z]) w1 ws := cext h20 h7
  have h22 : ∀ k ∈ [wj.z], k ∈ [w0.z] ∨ w1.z ≤ k := mor hz
  have h23 : Chg (· ∈ [w0.z]) w1 wv := cM h21 h8 h22
  have h24 : Chg (· ∈ [w0.z]) w1 ww := cext h23 hf
  have h25 : Chg (· ∈ [w0.z]) w1 w1p := cM h24 s1t h10
  exact fun _ q => ⟨(x1m, r1a), (som hm1o).symm, ⟨a1q, n1r, c1s, Sy, (q.k<|s5 z z z z z), h25, h1u, h1v, h1y, h1f⟩⟩
 ·rintro ⟨xd, x9⟩ a26 w2h rfl ⟨a4, n5, c6, S0, hS2i, s27, hb, hg, hh, hi⟩
  have hm28 := elL hmo
  have hm29 := un2S hm28
  revert a26
  obtain rfl := som hm29
  exact ret2 hr z z ⟨(bM sc s27<|mem1 lr), none, 0, 0, [], z, onL, (ii z), nd_nil, an_⟩
 rintro r2j ex2k a2l w2m rfl ⟨rfl, hq2a⟩
 have hm2b := elR hmo
 obtain rfl := som hm2b
 exact ⟨hq2a, z⟩
theorem W_w11 {x1 : Log} {res : Bool} (hm : M_spec_IsValidLog n x1 = some res) (hBw : B ≤ w0.z) (p1_0 : repS w0 B (sl A0 N0 C0) x1.bytes) (p1_1 : inI x1.stored) : CallsR prog 65 [(.agg #[sl A0 N0 C0, vI x1.stored])] w0 (Q11 w0 B res) := by
 unfold M_spec_IsValidLog at hm
 refine goF func65 z z (lb z) fun fn hr => Ws<|E z (fb z) ?_
 rintro _ wj ⟨rfl, hb⟩
 have h1 := hb.below
 have h5 : Blk wj w0.z [sl A0 N0 C0, vI x1.stored] := hb.blk
 refine Ra z<|Wn<|Wq<|Ws<|R z (fd f_35_1 z)<|R z (l1 g_3 z fid<|h5.at z)<|R z (fd f_35_0 z)<|R z (l1 g_25 z fid<|h5.at z) ?_
 have h6 := p1_0.e h1
 refine R z (lnR d_25 z h6) ?_
 obtain ⟨ry, ek, hmc⟩ := bdS hm
 refine E z (fc call97 z<|W_w00 (B := B) ek (lt_ hBw h1.s) p1_1 (ii z)<|inI_len<|repS.len h6) ?_
 rintro _ wz ⟨s2, rfl⟩
 refine R z (not_ z)<|Wn<|Wc z (fun hc7 => ?_) (fun hc7 => ?_)
 ·refine Ws<|Ra z<|Wn ?_
  obtain rfl := som (ifT hmc hc7)
  exact Wr<|ret1 hr z ⟨(bup h1 s2), z⟩
 refine Wk<|Ws<|R z (fd f_35_0 z) ?_
 have hd := h5.e s2
 refine R z (l1 g_25 z fid<|hd.at z) ?_
 have he := h6.e s2
 have hf := lt_ h1.s s2.s
 obtain ⟨r10, rl, em, hmn⟩ := bd2S (ifF hmc hc7)
 refine E z (fc call68 z<|W_w09 (B := B) em (lt_ hBw hf) he) ?_
 rintro _ w11 ⟨s3, a12, n13, c14, S15, rfl, h16, h17, h18, h19⟩
 refine Rm z<|R z (ext_ z z)<|R z (ext_ z z)<|Ra z<|Ra z<|Wn<|Ws<|R z (fd f_35_0 z) ?_
 have h8 := hd.e s3
 refine R z (l1 g_25 z fid<|h8.at z)<|R z (fd f_35_1 z)<|R z (l1 g_3 z fid<|h8.at z) ?_
 obtain ⟨x1a, eo, hmp⟩ := bdS hmn
 have hg := he.e s3
 refine RX z (rX d_25 z_5 z z hg z z eo) ?_
 rintro _ ⟨a1b, n1c, c1d, rfl, hq⟩
 obtain ⟨r1e, rr, es, hmt⟩ := bd2S hmp
 refine E z (fc call68 z<|W_w09 (B := B) es (lt_ hBw<|lt_ hf s3.s) hq) ?_
 rintro _ w4 ⟨s9, a1f, n1g, c1h, S1i, rfl, h1j, h1k, h1l, h1m⟩
 refine Rm z<|R z (ext_ z z)<|R z (ext_ z z)<|Ra z<|Ra z<|Wn<|Wq ?_
 obtain ⟨uu, huh, hmv⟩ := bdS hmt
 refine Wt (fun a w => ∃ (xa : Bool), xa = uu ∧ Sat 40 [(2, vB xa)] a ∧ Below w4.z w4 w) ?_ ?_
 ·refine Wg<|Rm z<|R z (fd f_35_0 z) ?_
  have hi := h8.e s9
  refine R z (l1 g_25 z fid<|hi.at z)<|R z (lnR d_25 z<|hg.e s9)<|R z (eql z z)<|Rm z ?_
  rcases bs (rl == (x1.bytes.length : Int)) with hc0 | hc0
  ·exact Rh z hc0 (mv z)<|Rh z hc0 (fd f_35_1 z)<|Rh z hc0 (l1 g_3 z fid<|hi.at z)<|Rh z hc0 (eql z z)<|R z (pT z hc0 z)<|Ra z<|Wl (fun _ q => ⟨rr == x1.stored, som<|ifT huh hc0, (q.k<|s1 z), (br w4)⟩)
  iterate 4 refine Nh z hc0 ?_
  exact R z (pF z hc0 z)<|Ra z<|Wl (fun _ q => ⟨false, som<|ifF huh hc0, (q.k<|s1 z), (br w4)⟩)
 rintro aw w1n ⟨xa, rfl, hS1o, sx⟩
 revert aw
 refine Wo ?_
 obtain rfl := som hmv
 exact Wr<|ret1 hr z ⟨(bup (bup (bup (bup h1 s2) s3) s9) sx), z⟩
def Q15 (w0 : World) (B : Nat) (r : Log × Bool) (v : Value) (w' : World) : Prop := Bw w0 w' ∧ un2 (fun r1 r2 => ∃ a1 n1 c1 S1, v = .tuple #[(.agg #[.slice a1 n1 c1, vI r1.stored]), vB r2] ∧ ownS w' S1 (sl a1 n1 c1) r1.bytes ∧ inI r1.stored ∧ S1.Nodup ∧ (∀ k ∈ S1, w0.z ≤ k)) r
theorem W_w2l {x1 : Log} {x2 : Record} {res : Log × Bool} (hm : M_spec_AppendRecord n x1 x2 = some res) (hBw : B ≤ w0.z) (p1_0 : repS w0 B (sl A0 N0 C0) x1.bytes) (p1_1 : inI x1.stored) (p2_0 : inI x2.kind) (p2_1 : x2.name.b.length ≤ LEN) (p2_2 : inI x2.version) (p2_3 : repS w0 B (sl AC NC CC) x2.data) : CallsR prog 55 [(.agg #[sl A0 N0 C0, vI x1.stored]), (.agg #[vI x2.kind, Str.v x2.name, vI x2.version, sl AC NC CC])] w0 (Q15 w0 B res) := by
 unfold M_spec_AppendRecord at hm
 refine goF func55 z z (lb z) fun fn hr => Ws<|E z (fb z) ?_
 rintro _ wo ⟨rfl, hz⟩
 have ha := hz.below
 have h10 : Blk wo w0.z [sl A0 N0 C0, vI x1.stored] := hz.blk
 refine E z (fb z) ?_
 rintro _ we ⟨rfl, h11⟩
 have h7 := h11.below
 have hf : Blk we wo.z [vI x2.kind, Str.v x2.name, vI x2.version, sl AC NC CC] := h11.blk
 refine E z (fa zero_35) ?_
 rintro _ w1o ⟨rfl, h12⟩
 have h4 := h12.below
 have h8 : Blk w1o we.z [sl none 0 0, vI 0] := h12.blk
 refine Ra z<|Wn<|Ws ?_
 have h13 := (h10.e h7).e h4
 refine R z (lN (vs := [sl A0 N0 C0, vI x1.stored]) g_35 z_35 z z fid<|h13.row 0 2 z) ?_
 have h14 := ((p1_0.e ha).e h7).e h4
 have hp := lt_ ha.s h7.s
 have hb := lt_ hp h4.s
 obtain ⟨rc, e1p, hm1q⟩ := bdS hm
 refine E z (fc call75 z<|W_w0t (B := B) e1p (lt_ hBw hb) h14 p1_1) ?_
 rintro _ wq ⟨s0, ag, nh, ci, S1r, rfl, hj, h15, h16, hk⟩
 refine E z (fa zero_35) ?_
 rintro _ w1s ⟨rfl, h17⟩
 have h2 := h17.below
 have h18 : Blk w1s wq.z [sl none 0 0, vI 0] := h17.blk
 refine E0 (fs (cur' := [sl ag nh ci, vI rc.stored]) z_35 z z h18 z (lb z) (oA z) z) ?_
 rintro _ w19 ⟨h1a, s1t⟩
 have h1 := s1t.one
 refine Wn<|Wq<|Wq ?_
 obtain ⟨u1u, hu1v, hm1b⟩ := bdS hm1q
 refine Wt (fun a w => ∃ (xr : Bool), xr = u1u ∧ Sat 25 [(3, pt wo.z), (4, pt we.z), (6, pt wq.z), (16, vB xr)] a ∧ Below w19.z w19 w) ?_ ?_
 ·refine Wg<|R z (lN (vs := [sl A0 N0 C0, vI x1.stored]) g_35 z_35 z z fid<|(((h13.e s0).e h2).c h1<|djs<|mm1 h10.lt<|lt_ (lt_ h7.s h4.s) s0.s).row 0 2 z) ?_
  have h1c := lt_ hb s0.s
  have h1d := m1<|lt_ hBw h1c
  have h1e := lt_ (lt_ h1c h2.s) h1.s
  obtain ⟨r1w, e1x, hm1f⟩ := bdS hu1v
  refine E z (fc call65 z<|W_w11 (B := B) e1x (lt_ hBw h1e) (((h14.e s0).e h2).c h1<|lg h1d) p1_1) ?_
  rintro _ w2j ⟨sd, rfl⟩
  refine R z (not_ z)<|Rm z ?_
  rcases bs (!r1w) with hc5 | hc5
  ·iterate 3 refine Nh z hc5 ?_
   exact R z (pT z hc5 z)<|Wl (fun _ q => ⟨true, som<|ifT hm1f hc5, (q.k<|s4 z z z z), sd⟩)
  refine Rh z hc5 (lN (vs := [vI x2.kind, Str.v x2.name, vI x2.version, sl AC NC CC]) g_76 z_76 z z fid<|(((((hf.e h4).e s0).e h2).c h1<|djs<|mm1 hf.lt<|lt_ h4.s s0.s).e sd).row 0 4 z) ?_
  obtain ⟨r1y, e1z, hm20⟩ := bdS (ifF hm1f hc5)
  refine Eg z z hc5 z (fc call76 z<|W_w0w (B := B) e1z (lt_ hBw<|lt_ h1e sd.s) p2_0 p2_1 p2_2<|((((((p2_3.e ha).e h7).e h4).e s0).e h2).c h1<|lg h1d).e sd) ?_
  rintro _ w2k ⟨s21, rfl⟩
  exact Rh z hc5 (not_ z)<|R z (pF z hc5 z)<|Wl (fun _ q => ⟨!r1y, som hm20, (q.k<|s4 z z z z), (bup sd s21)⟩)
 rintro a22 w2l ⟨xr, rfl, hS2m, s3⟩
 revert a22
 refine Wo<|Wc z (fun hcs => ?_) (fun hcs => ?_)
 ·refine Ws<|R z (lN (vs := [sl ag nh ci, vI rc.stored]) g_35 z_35 z z fid<|(h1a.e s3).row 0 2 z)<|E0 (fs (cur' := [sl ag nh ci, vI rc.stored]) z_35 z z ((((h8.e s0).e h2).c h1<|djs<|mm1 h8.lt s0.s).e s3) z (lb z) (oA z) z) ?_
  rintro _ w2n ⟨h23, s24⟩
  have h1g := s24.one
  refine Ra z<|Wn ?_
  obtain rfl := som (ifT hm1b hcs)
  exact Wr<|ret2 hr (resC g_35 z_35 z h23 z) z ⟨(bM (bup (bM (bup (bup (bup (bup ha h7) h4) s0) h2) h1<|m1<|lt_ hb s0.s) s3) h1g<|m1 hp), ag, nh, ci, S1r, z, ((((hj.e h2).c h1<|ds<|mnr<|ownS.lt hj).e s3).c h1g<|o0n1 hk h8.lt lr), h15, h16, (o0le hk hb)⟩
 refine Wk<|Wq (Wd (X := noX) 80 (.rd 0 (.rd 1 (.rd 2 (.ef 3 (.ef 4 (.rd 5 (.ef 6 .done))))))) mo (by kernel_rfl) fun w2o s6 _ => dR z z (fd f_35_0 z) ?_)
 have h1h := (h1a.e s3).e s6
 refine dR z z (l1 g_25 z fid<|h1h.at z)<|dR z z (lN (vs := [vI x2.kind, Str.v x2.name, vI x2.version, sl AC NC CC]) g_76 z_76 z z fid<|((((((hf.e h4).e s0).e h2).c h1<|djs<|mm1 hf.lt<|lt_ h4.s s0.s).e s3).e s6).row 0 4 z) ?_
 have ht := lt_ hb s0.s
 have h1i := lt_ (lt_ (lt_ (lt_ ht h2.s) h1.s) s3.s) s6.s
 obtain ⟨r2p, e25, hm26⟩ := bdS (ifF hm1b hcs)
 refine dE z z (fc call48 z<|W_w10 (B := B) e25 (lt_ hBw h1i) p2_0 p2_1 p2_2<|(((((((p2_3.e ha).e h7).e h4).e s0).e h2).c h1<|lg<|m1<|lt_ hBw ht).e s3).e s6) (.inr fun _ _ h => chgB<|h.1) ?_
 rintro _ w2q ⟨s9, a2r, n2s, c2t, S2u, rfl, h27, h2v, h2w⟩
 have hu := mnr<|ownS.lt hj
 obtain ⟨x2x, e28, hm29⟩ := bdS hm26
 refine dE z z (fN (α := UInt8) el_25 e28 z z (((((hj.e h2).c h1<|ds hu).e s3).e s6).e s9) h16<|ownS.rep h27) (.inl z) ?_
 rintro _ w2y ⟨Sv, al, nm, cn, rfl, sw, h2a, h2b, hx⟩
 refine dR z z (fd f_35_0 z)<|dE0 z (fs (cur' := [sl al nm cn, vI rc.stored]) z_25 z z ((h1h.e s9).c sw<|atp hu) z (lb z) (oA z) z) (.inl z) ?_
 rintro _ w2z ⟨h2c, s2d⟩
 have hy := s2d.one
 refine pD<|Wo<|Ws<|R z (lN (vs := [sl al nm cn, vI rc.stored]) g_35 z_35 z z fid<|h2c.row 0 2 z) ?_
 have h1j := mm1 h8.lt s0.s
 have h1k := o0n1 hk h8.lt lr
 have h2e := (((((((h8.e s0).e h2).c h1<|djs h1j).e s3).e s6).e s9).c sw<|djs h1k).c hy<|djs h1j
 refine E0 (fs (cur' := [sl al nm cn, vI rc.stored]) z_35 z z h2e z (lb z) (oA z) z) ?_
 rintro _ w30 ⟨h2f, s2g⟩
 have h1l := s2g.one
 refine Ra z<|Wn ?_
 obtain rfl := som hm29
 have h2h : ∀ k ∈ Sv, k ∉ [wq.z] := or1 hx (ds hu) (ltnot (mem1 h18.lt) (lt_ (lt_ (lt_ h1.s s3.s) s6.s) s9.s))
 have h2i : ∀ k ∈ Sv, k ∉ [we.z] := or1 hx h1k (ltnot (mem1 h8.lt) (lt_ (lt_ (lt_ (lt_ (lt_ s0.s h2.s) h1.s) s3.s) s6.s) s9.s))
 have h1m := m1 ht
 have h1n := o0le hk hb
 exact Wr<|ret2 hr (resC g_35 z_35 z h2f z) z ⟨(bM (bM (bM (bup (bup (bup (bM (bup (bup (bup (bup ha h7) h4) s0) h2) h1 h1m) s3) s6) s9) sw h1n) hy h1m) h1l<|m1 hp), al, nm, cn, Sv, z, ((h2a.c hy h2h).c h1l h2i), h15, h2b, (o1le hx h1n<|lt_ h1i s9.s)⟩
theorem W_w04 {x1 : Rule} {x2 : Bool} {x3 : Bool} {x4 : Bool} {x5 : Bool} {x6 : Int} {res : Bool} (hm : M_spec_l4Shape x1 x2 x3 x4 x5 x6 = some res) (hBw : B ≤ w0.z) (p1_0 : x1.name.b.length ≤ LEN) (p1_1 : inI x1.kind) (p1_2 : inI x1.size) (p1_4 : repS w0 B (sl AB NB CB) x1.bytes) (p1_5 : repS w0 B (sl A7 N7 C7) x1.names) (p1_6 : repS w0 B (sl AA NA CA) x1.tags) (p1_7 : repS w0 B (sl A8 N8 C8) x1.kids) (p6_0 : inI x6) : CallsR prog 162 [(.agg #[Str.v x1.name, vI x1.kind, vI x1.size, vB x1.little, sl AB NB CB, sl A7 N7 C7, sl AA NA CA, sl A8 N8 C8]), vB x2, vB x3, vB x4, vB x5, vI x6] w0 (Q11 w0 B res) := by
 unfold M_spec_l4Shape at hm
 refine goF func162 z z (lb z) fun fn hr => Ws<|E z (fb z) ?_
 rintro _ wc ⟨rfl, hf⟩
 have hd := hf.below
 have hb : Blk wc w0.z (vR x1 AB NB CB A7 N7 C7 AA NA CA A8 N8 C8) := hf.blk
 refine Ra z<|Wn<|Wq ?_
 obtain ⟨uw, hux, hmy⟩ := bdS hm
 refine Wt (fun a w => ∃ (xe : Bool), xe = uw ∧ Sat 67 [(12, vB xe)] a ∧ Below wc.z wc w) ?_ ?_
 ·refine Wg<|Rm z<|Rm z ?_
  obtain ⟨ug, huh, hmz⟩ := bdS hux
  refine WLcut 18 ug 4 ?_ ?_
  ·rcases bs x2 with hc9 | hc9
   ·iterate 3 refine Nh z hc9 ?_
    exact R z (pT z hc9 z)<|WLq 4 (ifT huh hc9) z z z
   exact Rh z hc9 (fd f_144_2 z)<|Rh z hc9 (l1 g_3 z fid<|hb.at z)<|Rh z hc9 (eql z z)<|R z (pF z hc9 z)<|WLq 4 (ifF huh hc9) z z z
  refine Rm z ?_
  obtain ⟨ui, huj, hm10⟩ := bdS hmz
  refine WLcut 27 ui 8 ?_ ?_
  ·rcases bs ug with hc1 | hc1
   ·have hmk := ifT huj hc1
    refine Rh z hc1 (mv z)<|Rh z hc1 (mv z) ?_
    rcases bs x3 with hc6 | hc6
    ·iterate 4 refine Nh z hc6 ?_
     exact Rh z hc1 (pT z hc6 z)<|R z (pT z hc1 z)<|WLq 8 (ifT hmk hc6) z z z
    exact Rh z hc6 (fd f_144_4 z)<|Rh z hc6 (l1 g_25 z fid<|hb.at z)<|Rh z hc6 (lnR d_25 z<|p1_4.e hd)<|Rh z hc6 (eql z z)<|Rh z hc1 (pF z hc6 z)<|R z (pT z hc1 z)<|WLq 8 (ifF hmk hc6) z z z
   exact Nh z hc1<|Nh z hc1<|Nv z<|Nv z<|Nv z<|Nv z<|Nh z hc1<|R z (pF z hc1 z)<|WLq 8 (ifF huj hc1) z z z
  refine Rm z ?_
  obtain ⟨ul, hum, hm11⟩ := bdS hm10
  refine WLcut 36 ul 8 ?_ ?_
  ·rcases bs ui with hc2 | hc2
   ·have hmn := ifT hum hc2
    refine Rh z hc2 (mv z)<|Rh z hc2 (mv z) ?_
    rcases bs x4 with hc7 | hc7
    ·iterate 4 refine Nh z hc7 ?_
     exact Rh z hc2 (pT z hc7 z)<|R z (pT z hc2 z)<|WLq 8 (ifT hmn hc7) z z z
    exact Rh z hc7 (fd f_144_5 z)<|Rh z hc7 (l1 g_41 z fid<|hb.at z)<|Rh z hc7 (lnR d_41 z<|p1_5.e hd)<|Rh z hc7 (eql z z)<|Rh z hc2 (pF z hc7 z)<|R z (pT z hc2 z)<|WLq 8 (ifF hmn hc7) z z z
   exact Nh z hc2<|Nh z hc2<|Nv z<|Nv z<|Nv z<|Nv z<|Nh z hc2<|R z (pF z hc2 z)<|WLq 8 (ifF hum hc2) z z z
  refine Rm z ?_
  obtain ⟨uo, hup, hm12⟩ := bdS hm11
  refine WLcut 45 uo 8 ?_ ?_
  ·rcases bs ul with hc3 | hc3
   ·have hmq := ifT hup hc3
    refine Rh z hc3 (mv z)<|Rh z hc3 (mv z) ?_
    rcases bs x5 with hc8 | hc8
    ·iterate 4 refine Nh z hc8 ?_
     exact Rh z hc3 (pT z hc8 z)<|R z (pT z hc3 z)<|WLq 8 (ifT hmq hc8) z z z
    exact Rh z hc8 (fd f_144_6 z)<|Rh z hc8 (l1 g_142 z fid<|hb.at z)<|Rh z hc8 (lnR d_142 z<|p1_6.e hd)<|Rh z hc8 (eql z z)<|Rh z hc3 (pF z hc8 z)<|R z (pT z hc3 z)<|WLq 8 (ifF hmq hc8) z z z
   exact Nh z hc3<|Nh z hc3<|Nv z<|Nv z<|Nv z<|Nv z<|Nh z hc3<|R z (pF z hc3 z)<|WLq 8 (ifF hup hc3) z z z
  refine Rm z ?_
  obtain ⟨ur, hus, hmt⟩ := bdS hm12
  refine WLcut 56 ur 10 ?_ ?_
  ·rcases bs uo with hc4 | hc4
   ·have hmu := ifT hus hc4
    refine Rh z hc4 (mv z)<|Rh z hc4 (lss z z)<|Rh z hc4 (mv z) ?_
    rcases bs (decide (x6 < 0)) with hc5 | hc5
    ·iterate 5 refine Nh z hc5 ?_
     exact Rh z hc4 (pT z hc5 z)<|R z (pT z hc4 z)<|WLq 10 (ifT hmu hc5) z z z
    exact Rh z hc5 (fd f_144_7 z)<|Rh z hc5 (l1 g_142 z fid<|hb.at z)<|Rh z hc5 (lnR d_142 z<|p1_7.e hd)<|Rh z hc5 (mv z)<|Rh z hc5 (eql z z)<|Rh z hc4 (pF z hc5 z)<|R z (pT z hc4 z)<|WLq 10 (ifF hmu hc5) z z z
   iterate 3 refine Nh z hc4 ?_
   exact Nv z<|Nv z<|Nv z<|Nv z<|Nv z<|Nh z hc4<|R z (pF z hc4 z)<|WLq 10 (ifF hus hc4) z z z
  refine Rm z ?_
  rcases bs ur with hc0 | hc0
  ·have hmv := ifT hmt hc0
   refine Rh z hc0 (fd f_144_3 z)<|Rh z hc0 (l1 g_4 z fid<|hb.at z)<|Rh z hc0 (not_ z)<|Rh z hc0 (mv z) ?_
   rcases bs (!x1.little) with hca | hca
   ·iterate 3 refine Nh z hca ?_
    exact Rh z hc0 (pT z hca z)<|R z (pT z hc0 z)<|Ra z<|Wl (fun _ q => ⟨true, som<|ifT hmv hca, (q.k<|s1 z), (br wc)⟩)
   exact Rh z hca (fd f_144_1 z)<|Rh z hca (l1 g_3 z fid<|hb.at z)<|Rh z hca (eql z z)<|Rh z hc0 (pF z hca z)<|R z (pT z hc0 z)<|Ra z<|Wl (fun _ q => ⟨x1.kind == 1, som<|ifF hmv hca, (q.k<|s1 z), (br wc)⟩)
  iterate 4 refine Nh z hc0 ?_
  exact Nv z<|Nv z<|Nv z<|Nh z hc0<|R z (pF z hc0 z)<|Ra z<|Wl (fun _ q => ⟨false, som<|ifF hmt hc0, (q.k<|s1 z), (br wc)⟩)
 rintro a13 w15 ⟨xe, rfl, hS16, s14⟩
 revert a13
 refine Wo ?_
 obtain rfl := som hmy
 exact Wr<|ret1 hr z ⟨(bup hd s14), z⟩
theorem W_w0f {x1 : Desc} {x2 : Int} {res : Int} (hm : M_spec_IntegerLimit x1 x2 = some res) (hBw : B ≤ w0.z) (p1_0 : repS w0 B (sl A0 N0 C0) x1.rules) (p2_0 : inI x2) : CallsR prog 163 [(.agg #[sl A0 N0 C0]), vI x2] w0 (Q0 w0 B res) := by
 unfold M_spec_IntegerLimit at hm
 refine goF func163 z z (lb z) fun fn hr => Ws<|E z (fb z) ?_
 rintro _ w3 ⟨rfl, h9⟩
 have h2 := h9.below
 have h6 : Blk w3 w0.z [sl A0 N0 C0] := h9.blk
 refine Ra z<|Wn<|Wq<|Wq ?_
 obtain ⟨ug, huh, hma⟩ := bdS hm
 refine Wt (fun a w => ∃ (x7 : Bool), x7 = ug ∧ Sat 39 [(1, vI x2), (2, pt w0.z), (30, vB x7)] a ∧ Below w3.z w3 w) ?_ ?_
 ·refine Wg<|Rm z<|R z (fd f_95_0 z)<|R z (l1 g_93 z fid<|h6.at z) ?_
  have hb := p1_0.e h2
  refine R z (lnR d_93 z hb)<|R z (sb_ z z) ?_
  obtain ⟨ri, ej, hmc⟩ := bdS huh
  refine E z (fc call97 z<|W_w00 (B := B) ej (lt_ hBw h2.s) p2_0 (ii z)<|iS _ _) ?_
  rintro _ w16 ⟨s4, rfl⟩
  refine R z (not_ z)<|Rm z ?_
  rcases bs (!ri) with hc1 | hc1
  ·iterate 7 refine Nh z hc1 ?_
   exact R z (pT z hc1 z)<|Rm z<|Nh z z<|Nh z z<|Nh z z<|Nh z z<|Nh z z<|Nh z z<|Nh z z<|Nh z z<|R z (pT z z z)<|Wl (fun _ q => ⟨true, som<|ifT hmc hc1, (q.k<|s3 z z z), s4⟩)
  refine Rh z hc1 (fd f_95_0 z) ?_
  have hd := h6.e s4
  refine Rh z hc1 (l1 g_93 z fid<|hd.at z)<|Rh z hc1 (mv z) ?_
  obtain ⟨xk, el, hme⟩ := bdS (ifF hmc hc1)
  have hf := hb.e s4
  refine RXg z z hc1 z (at_ (α := Rule) d_93 z_144 z z z hf el) ?_
  rintro _ ⟨b17, o18, cs19, rfl, hn, ho, h1a⟩
  obtain ⟨a1b, n1c, c1d, a1e, n1f, c1g, a1h, n1i, c1j, a1k, n1l, c1m, rfl, h1n, h1o, h1p, h1q, h1r, h1s, h1t⟩ := Rule_open ho
  refine Rh z hc1 (fd f_144_1 z)<|Rh z hc1 (l1 g_3 z fid<|hn.at (j := 1) z)<|Rh z hc1 (nq z z)<|R z (pF z hc1 z)<|Rm z ?_
  rcases bs (xk.kind != 1) with hc0 | hc0
  ·iterate 8 refine Nh z hc0 ?_
   exact R z (pT z hc0 z)<|Wl (fun _ q => ⟨true, som<|ifT hme hc0, (q.k<|s3 z z z), s4⟩)
  refine Rh z hc0 (fd f_95_0 z)<|Rh z hc0 (l1 g_93 z fid<|hd.at z)<|Rh z hc0 (mv z) ?_
  obtain ⟨x1u, em, hmp⟩ := bdS (ifF hme hc0)
  refine RXg z z hc0 z (at_ (α := Rule) d_93 z_144 z z z hf em) ?_
  rintro _ ⟨b1v, o1w, cs1x, rfl, hq, ht, h1y⟩
  obtain ⟨a1z, n20, c21, a22, n23, c24, a25, n26, c27, a28, n29, c2a, rfl, h2b, h2c, hu, h2d, h2e, h2f, h2g⟩ := Rule_open ht
  refine Rh z hc0 (fd f_144_2 z)<|Rh z hc0 (l1 g_3 z fid<|hq.at (j := 2) z) ?_
  obtain ⟨rr, es, hmv⟩ := bdS hmp
  refine Eg z z hc0 z (fc call97 z<|W_w00 (B := B) es (lt_ hBw<|lt_ h2.s s4.s) hu (ii z)<|ii z) ?_
  rintro _ w2h ⟨sw, rfl⟩
  exact Rh z hc0 (not_ z)<|R z (pF z hc0 z)<|Wl (fun _ q => ⟨!rr, som hmv, (q.k<|s3 z z z), (bup s4 sw)⟩)
 rintro ax w2i ⟨x7, rfl, hS2j, s5⟩
 revert ax
 refine Wo<|Wc z (fun hc8 => ?_) (fun hc8 => ?_)
 ·refine Ws<|Ra z<|Wn ?_
  obtain rfl := som (ifT hma hc8)
  exact Wr<|ret1 hr z ⟨(bup h2 s5), z, (ii z)⟩
 refine Wk<|Ws<|R z (fd f_95_0 z)<|R z (l1 g_93 z fid<|(h6.e s5).at z)<|Rm z ?_
 obtain ⟨x2k, ey, hmz⟩ := bdS (ifF hma hc8)
 refine RX z (at_ (α := Rule) d_93 z_144 z z z ((p1_0.e h2).e s5) ey) ?_
 rintro _ ⟨b2l, o2m, cs2n, rfl, h10, h11, h2o⟩
 obtain ⟨a2p, n2q, c2r, a2s, n2t, c2u, a2v, n2w, c2x, a2y, n2z, c30, rfl, h31, h32, h12, h33, h34, h35, h36⟩ := Rule_open h11
 refine R z (fd f_144_2 z)<|R z (l1 g_3 z fid<|h10.at (j := 2) z) ?_
 obtain ⟨r37, e13, hm14⟩ := bdS hmz
 refine E z (fc call109 z<|W_w0y (B := B) e13 (lt_ hBw<|lt_ h2.s s5.s) h12) ?_
 rintro _ w38 ⟨s15, rfl, h39⟩
 refine R z (sb_ z z)<|Ra z<|Wn ?_
 obtain rfl := som hm14
 exact Wr<|ret1 hr z ⟨(bup (bup h2 s5) s15), z, (iS _ _)⟩
theorem W_w2m {x1 : List Str} {x2 : Str} {res : Bool} (hm : M_spec_ContainsText x1 x2 = some res) (hBw : B ≤ w0.z) (p1_0 : repS w0 B (sl A0 N0 C0) x1) (p2_0 : x2.b.length ≤ LEN) : CallsR prog 200 [sl A0 N0 C0, Str.v x2] w0 (Q11 w0 B res) := by
 unfold M_spec_ContainsText at hm
 refine goF func200 z z (lb z) fun fn hr => Ws<|Ra z<|Wn<|Wq<|Ws<|Ra z<|Wn ?_
 obtain ⟨uk, hu8, hm2⟩ := bdS hm
 refine Wf (σ := Unit) (ρ := Bool) (fun (k3 : Nat) (_ : Unit) a w => Sat 18 [(0, sl A0 N0 C0), (1, Str.v x2), (5, (vI ((k3 : Nat) : Int)))] a ∧ Below w0.z w0 w) (fun (_ : Unit) a w => Sat 18 [] a ∧ Below w0.z w0 w) (fun r ex a w => ex = .ret ∧ RetPost prog fn (Q11 w0 B r) a w) hu8 ?_ ?_ ?_ ?_ ?_
 ·exact fun _ q => ⟨(q.k<|s3 z z z), (br w0)⟩
 ·rintro k3 _ al wm on hk4 ⟨hS9, s0⟩ hma
  refine Wu ?_ hS9
  refine Wq<|Ws<|Rm z<|Rm z ?_
  have h5 := p1_0.e s0
  refine R z (lnR d_41 z h5)<|R z (lss z z)<|Wn<|Wc z (fun _ => ?_) (fun hc => (nolt hk4 hc).elim)
  refine Wk<|Wq<|Wb<|Ws<|Rm z<|Rm z ?_
  obtain ⟨xo, eb, hm6⟩ := bdS hma
  refine RX z (at_ (α := Str) d_41 z_9 z z z h5 eb) ?_
  rintro _ ⟨bp, oq, csr, rfl, hd, he, ht⟩
  obtain ⟨rfl, hu⟩ := Str_open he
  refine R z (l1 g_9 z fid<|hd.at0 z)<|Rm z<|R z (rd_eqlT z z)<|Wn<|Wc z (fun hc1 => ?_) (fun hc1 => ?_)
  ·exact Ws<|Ra z<|Wn<|Wr<|rtO<|qL (som<|ifT hm6 hc1).symm<|ret1 hr z ⟨s0, z⟩
  exact Wk<|Wg<|Rm z<|R z (inc_ hk4 (lt_ (repS.len p1_0) LEN_le) z z)<|Ra z<|Wl (fun _ q => ⟨(), (som<|ifF hm6 hc1).symm, ⟨(q.k<|s3 z z z), s0⟩⟩)
 ·rintro _ av ws ⟨hSc, s7⟩
  refine Wu ?_ hSc
  refine Wq<|Ws<|Rm z<|Rm z<|R z (lnR d_41 z<|p1_0.e s7)<|R z (lss z z)<|Wn<|Wc z (fun hc => (noltt hc).elim) (fun _ => ?_)
  exact We (fun a' ha' => ⟨rfl, ⟨(Sat.weaken ha' sn), s7⟩⟩)
 ·rintro _ af ww rfl ⟨hSx, sg⟩
  have hmh := elL hm2
  revert af
  refine Wo<|Ws<|Ra z<|Wn ?_
  obtain rfl := som hmh
  exact Wr<|ret1 hr z ⟨sg, z⟩
 rintro ry exz a10 w11 rfl ⟨rfl, hqi⟩
 have hmj := elR hm2
 obtain rfl := som hmj
 exact ⟨hqi, z⟩
theorem W_w2n {x1 : List Str} {res : Bool} (hm : M_spec_l4Names x1 = some res) (hBw : B ≤ w0.z) (p1_0 : repS w0 B (sl A0 N0 C0) x1) : CallsR prog 164 [sl A0 N0 C0] w0 (Q11 w0 B res) := by
 unfold M_spec_l4Names at hm
 refine goF func164 z z (lb z) fun fn hr => Ws<|Ra z<|Wn<|Wq<|Ws<|Ra z<|Wn ?_
 obtain ⟨u1h, huk, hm8⟩ := bdS hm
 refine Wf (σ := Unit) (ρ := Bool) (fun (k1 : Nat) (_ : Unit) a w => Sat 29 [(0, sl A0 N0 C0), (3, (vI ((k1 : Nat) : Int)))] a ∧ Below w0.z w0 w) (fun (_ : Unit) a w => Sat 29 [(0, sl A0 N0 C0)] a ∧ Below w0.z w0 w) (fun r ex a w => ex = .ret ∧ RetPost prog fn (Q11 w0 B r) a w) huk ?_ ?_ ?_ ?_ ?_
 ·exact fun _ q => ⟨(q.k<|s2 z z), (br w0)⟩
 ·rintro k1 _ a1i w9 o1j hka ⟨hSl, s4⟩ hmm
  refine Wu ?_ hSl
  refine Wq<|Ws<|Rm z<|Rm z ?_
  have hb := p1_0.e s4
  refine R z (lnR d_41 z hb)<|R z (lss z z)<|Wn<|Wc z (fun _ => ?_) (fun hc => (nolt hka hc).elim)
  refine Wk<|Wq<|Wb<|Wq ?_
  obtain ⟨un, huo, hmc⟩ := bdS hmm
  refine Wt (fun a w => ∃ (x2 : Bool), x2 = un ∧ Sat 29 [(0, sl A0 N0 C0), (3, (vI ((k1 : Nat) : Int))), (25, vB x2)] a ∧ Below w9.z w9 w) ?_ ?_
  ·refine Wd (X := noX) 0 (.rd 0 (.rd 1 (.rd 2 (.rd 3 (.ef 4 (.rd 5 (.rd 6 (.rd 7 (.rd 8 (.rd 9 (.rd 10 (.rd 11 (.rd 12 (.rd 13 (.ef 14 (.rd 15 .done)))))))))))))))) mo (by kernel_rfl) fun w1k s5 _ => dR z z (mv z)<|dR z z (mv z) ?_
   obtain ⟨x1l, ep, hmq⟩ := bdS huo
   have hd := hb.e s5
   refine dRX z z (at_ (α := Str) d_41 z_9 z z z hd ep) ?_
   rintro _ ⟨b1m, o1n, cs1o, rfl, ht, hu, h1p⟩
   obtain ⟨rfl, hv⟩ := Str_open hu
   refine dR z z (l1 g_9 z fid<|ht.at0 z) ?_
   have he := lt_ s4.s s5.s
   obtain ⟨rr, es, hmf⟩ := bdS hmq
   refine dE z z (fc call106 z<|W_w0e (B := B) es (lt_ hBw he) hv) (.inr fun _ _ h => chgB<|h.1) ?_
   rintro _ w1q ⟨s6, rfl⟩
   refine dR z z (not_ z)<|dR z z (mv z) ?_
   rcases bs (!rr) with hc0 | hc0
   ·iterate 7 refine dRn z z z hc0 z ?_
    exact dEn z z z hc0 z<|dR z z (pT z hc0 z)<|pD (fun _ q => ⟨true, som<|ifT hmf hc0, (q.k<|s3 z z z), (bup s5 s6)⟩)
   refine dRg z z z hc0 z (mv z)<|dRg z z z hc0 z (mv z) ?_
   obtain ⟨x1r, ew, hmx⟩ := bdS (ifF hmf hc0)
   have hg := hd.e s6
   refine dRXg z z z hc0 z (rX d_41 z_9 z z hg z z ew) ?_
   rintro _ ⟨a1s, n1t, c1u, rfl, hy⟩
   refine dRg z z z hc0 z (mv z)<|dRg z z z hc0 z (mv z) ?_
   obtain ⟨x1v, ez, hm10⟩ := bdS hmx
   refine dRXg z z z hc0 z (at_ (α := Str) d_41 z_9 z z z hg ez) ?_
   rintro _ ⟨b1w, o1x, cs1y, rfl, h11, h12, h1z⟩
   obtain ⟨rfl, h13⟩ := Str_open h12
   refine dRg z z z hc0 z (l1 g_9 z fid<|h11.at0 z) ?_
   obtain ⟨r14, e15, hm16⟩ := bdS hm10
   refine dEg z z z hc0 z (fc call200 z<|W_w2m (B := B) e15 (lt_ hBw<|lt_ he s6.s) hy h13) (.inr fun _ _ h => chgB<|h.1) ?_
   rintro _ w20 ⟨s17, rfl⟩
   exact dR z z (pF z hc0 z)<|pD (fun _ q => ⟨r14, som hm16, (q.k<|s3 z z z), (bup (bup s5 s6) s17)⟩)
  rintro a18 w21 ⟨x2, rfl, hS22, sh⟩
  revert a18
  refine Wo<|Wc z (fun hc3 => ?_) (fun hc3 => ?_)
  ·exact Ws<|Ra z<|Wn<|Wr<|rtO<|qL (som<|ifT hmc hc3).symm<|ret1 hr z ⟨(bup s4 sh), z⟩
  exact Wk<|Wg<|Rm z<|R z (inc_ hka (lt_ (repS.len p1_0) LEN_le) z z)<|Ra z<|Wl (fun _ q => ⟨(), (som<|ifF hmc hc3).symm, ⟨(q.k<|s2 z z), (bup s4 sh)⟩⟩)
 ·rintro _ a23 w24 ⟨hS19, si⟩
  refine Wu ?_ hS19
  refine Wq<|Ws<|Rm z<|Rm z<|R z (lnR d_41 z<|p1_0.e si)<|R z (lss z z)<|Wn<|Wc z (fun hc => (noltt hc).elim) (fun _ => ?_)
  exact We (fun a' ha' => ⟨rfl, ⟨(Sat.weaken ha'<|s1 z), si⟩⟩)
 ·rintro _ a1a w25 rfl ⟨hS26, s7⟩
  have hm1b := elL hm8
  revert a1a
  refine Wo<|Ws<|Rm z ?_
  have hj := p1_0.e s7
  refine R z (lnR d_41 z hj) ?_
  obtain ⟨r27, e1c, hm1d⟩ := bdS hm1b
  refine E z (fc call97 z<|W_w00 (B := B) e1c (lt_ hBw s7.s) (inI_len<|repS.len hj) (ii z)<|ii z) ?_
  rintro _ w28 ⟨s1e, rfl⟩
  refine Ra z<|Wn ?_
  obtain rfl := som hm1d
  exact Wr<|ret1 hr z ⟨(bup s7 s1e), z⟩
 rintro r29 ex2a a2b w2c rfl ⟨rfl, hq1f⟩
 have hm1g := elR hm8
 obtain rfl := som hm1g
 exact ⟨hq1f, z⟩
theorem W_w2o {x1 : Desc} {x2 : Rule} {res : Bool} (hm : M_spec_l4Tags x1 x2 = some res) (hBw : B ≤ w0.z) (p1_0 : repS w0 B (sl A0 N0 C0) x1.rules) (p2_0 : x2.name.b.length ≤ LEN) (p2_1 : inI x2.kind) (p2_2 : inI x2.size) (p2_4 : repS w0 B (sl A3 N3 C3) x2.bytes) (p2_5 : repS w0 B (sl A4 N4 C4) x2.names) (p2_6 : repS w0 B (sl A2 N2 C2) x2.tags) (p2_7 : repS w0 B (sl A5 N5 C5) x2.kids) : CallsR prog 165 [(.agg #[sl A0 N0 C0]), (.agg #[Str.v x2.name, vI x2.kind, vI x2.size, vB x2.little, sl A3 N3 C3, sl A4 N4 C4, sl A2 N2 C2, sl A5 N5 C5])] w0 (Q11 w0 B res) := by
 unfold M_spec_l4Tags at hm
 refine goF func165 z z (lb z) fun fn hr => Ws<|E z (fb z) ?_
 rintro _ w9 ⟨rfl, hl⟩
 have h3 := hl.below
 have h13 : Blk w9 w0.z [sl A0 N0 C0] := hl.blk
 refine E z (fb z) ?_
 rintro _ wd ⟨rfl, hn⟩
 have h2 := hn.below
 have ha : Blk wd w9.z (vR x2 A3 N3 C3 A4 N4 C4 A2 N2 C2 A5 N5 C5) := hn.blk
 refine Ra z<|Wn<|Wq<|Wq ?_
 obtain ⟨u14, huo, hmp⟩ := bdS hm
 refine Wt (fun a w => ∃ (xf : Bool), xf = u14 ∧ Sat 59 [(2, pt w0.z), (3, pt w9.z), (20, vB xf)] a ∧ Below wd.z wd w) ?_ ?_
 ·refine Wg<|R z (fd f_144_7 z)<|R z (l1 g_142 z fid<|ha.at z)<|R z (lnR d_142 z<|(p2_7.e h3).e h2)<|R z (fd f_144_6 z)<|R z (l1 g_142 z fid<|ha.at z) ?_
  have hg := (p2_6.e h3).e h2
  refine R z (lnR d_142 z hg)<|R z (add_ z z)<|R z (nq z z)<|Rm z ?_
  rcases bs ((x2.kids.length : Int) != (iadd (x2.tags.length : Int) 1)) with hc4 | hc4
  ·iterate 5 refine Nh z hc4 ?_
   exact R z (pT z hc4 z)<|Wl (fun _ q => ⟨true, som<|ifT huo hc4, (q.k<|s3 z z z), (br wd)⟩)
  refine Rh z hc4 (fd f_144_6 z)<|Rh z hc4 (l1 g_142 z fid<|ha.at z)<|Rh z hc4 (lnR d_142 z hg) ?_
  obtain ⟨r15, e16, hm17⟩ := bdS (ifF huo hc4)
  refine Eg z z hc4 z (fc call97 z<|W_w00 (B := B) e16 (lt_ hBw<|lt_ h3.s h2.s) (inI_len<|repS.len hg) (ii z)<|ii z) ?_
  rintro _ w2b ⟨s18, rfl⟩
  exact Rh z hc4 (not_ z)<|R z (pF z hc4 z)<|Wl (fun _ q => ⟨!r15, som hm17, (q.k<|s3 z z z), s18⟩)
 rintro a19 wb ⟨xf, rfl, hS2c, s5⟩
 revert a19
 refine Wo<|Wc z (fun hch => ?_) (fun hch => ?_)
 ·refine Ws<|Ra z<|Wn ?_
  obtain rfl := som (ifT hmp hch)
  exact Wr<|ret1 hr z ⟨(bup (bup h3 h2) s5), z⟩
 refine Wk<|Wq<|Ws<|Ra z<|Wn ?_
 obtain ⟨u2d, hu1a, hmq⟩ := bdS (ifF hmp hch)
 refine Wf (σ := Unit) (ρ := Bool) (fun (ke : Nat) (_ : Unit) a w => Sat 59 [(2, pt w0.z), (3, pt w9.z), (5, (vI ((ke : Nat) : Int)))] a ∧ Below wb.z wb w) (fun (_ : Unit) a w => Sat 59 [] a ∧ Below wb.z wb w) (fun r ex a w => ex = .ret ∧ RetPost prog fn (Q11 w0 B r) a w) hu1a ?_ ?_ ?_ ?_ ?_
 ·exact fun _ q => ⟨(q.k<|s3 z z z), (br wb)⟩
 ·rintro ke _ a2e wr o2f hks ⟨hS1b, s7⟩ hm1c
  refine Wu ?_ hS1b
  refine Wq<|Ws<|Rm z<|R z (fd f_144_6 z) ?_
  have ht := (ha.e s5).e s7
  refine R z (l1 g_142 z fid<|ht.at z) ?_
  have hu := (((p2_6.e h3).e h2).e s5).e s7
  refine R z (lnR d_142 z hu)<|R z (lss z z)<|Wn<|Wc z (fun _ => ?_) (fun hc => (nolt hks hc).elim)
  refine Wk<|Wq<|Wb<|Wq ?_
  obtain ⟨u1d, hu1e, hmv⟩ := bdS hm1c
  refine Wt (fun a w => ∃ (xi : Bool), xi = u1d ∧ Sat 59 [(2, pt w0.z), (3, pt w9.z), (5, (vI ((ke : Nat) : Int))), (58, vB xi)] a ∧ Below wr.z wr w) ?_ ?_
  ·refine Wd (X := noX) 0 (.rd 0 (.rd 1 (.rd 2 (.rd 3 (.rd 4 (.rd 5 (.rd 6 (.rd 7 (.rd 8 (.rd 9 (.ef 10 (.ef 11 (.rd 12 (.rd 13 (.rd 14 (.rd 15 (.rd 16 (.rd 17 (.rd 18 (.rd 19 (.rd 20 (.rd 21 (.rd 22 (.rd 23 (.rd 24 (.rd 25 (.rd 26 (.rd 27 (.rd 28 (.rd 29 (.rd 30 .done))))))))))))))))))))))))))))))) mo (by kernel_rfl) fun w2g s6 _ => dR z z (fd f_144_6 z) ?_
   have hj := ht.e s6
   refine dR z z (l1 g_142 z fid<|hj.at z)<|dR z z (mv z) ?_
   obtain ⟨x2h, e1f, hm1g⟩ := bdS hu1e
   have hw := hu.e s6
   refine dRX z z (at_ (α := Int) d_142 z_3 z z z hw e1f) ?_
   rintro _ ⟨b2i, o2j, cs2k, rfl, h1h, h1i, h2l⟩
   obtain ⟨rfl, h1j⟩ := Int_open h1i
   refine dR z z (l1 g_3 z fid<|h1h.at0 z)<|dR z z (lN (vs := [sl A0 N0 C0]) g_95 z_95 z z fid<|((((h13.e h2).e s5).e s7).e s6).row 0 1 z)<|dR z z (fd f_144_7 z)<|dR z z (l1 g_142 z fid<|hj.at z) ?_
   obtain ⟨x2m, e1k, hm1l⟩ := bdS hm1g
   refine dRX z z (at_ (α := Int) d_142 z_3 z z z (((((p2_7.e h3).e h2).e s5).e s7).e s6) e1k) ?_
   rintro _ ⟨b2n, o2o, cs2p, rfl, h1m, h1n, h2q⟩
   obtain ⟨rfl, h1o⟩ := Int_open h1n
   refine dR z z (l1 g_3 z fid<|h1m.at0 z) ?_
   have hx := lt_ (lt_ (lt_ (lt_ h3.s h2.s) s5.s) s7.s) s6.s
   obtain ⟨r2r, e1p, hm1q⟩ := bdS hm1l
   refine dE z z (fc call163 z<|W_w0f (B := B) e1p (lt_ hBw hx) (((((p1_0.e h3).e h2).e s5).e s7).e s6) h1o) (.inr fun _ _ h => chgB<|h.1) ?_
   rintro _ w2s ⟨s8, rfl, h1r⟩
   obtain ⟨r1s, e1t, hmy⟩ := bdS hm1q
   refine dE z z (fc call97 z<|W_w00 (B := B) e1t (lt_ hBw<|lt_ hx s8.s) h1j (ii z) h1r) (.inr fun _ _ h => chgB<|h.1) ?_
   rintro _ w2t ⟨sc, rfl⟩
   refine dR z z (not_ z)<|dR z z (mv z) ?_
   rcases bs (!r1s) with hc1 | hc1
   ·iterate 3 refine dRn z z z hc1 z ?_
    iterate 12 refine dRu z z z z ?_
    exact dRn z z z hc1 z<|dR z z (pT z hc1 z)<|pD (fun _ q => ⟨true, som<|ifT hmy hc1, (q.k<|s4 z z z z), (bup (bup s6 s8) sc)⟩)
   have hmz := ifF hmy hc1
   refine dRg z z z hc1 z (mv z)<|dRg z z z hc1 z (rd_gtr z z)<|dRg z z z hc1 z (mv z) ?_
   rcases bs (decide (0 < ((ke : Nat) : Int))) with hc0 | hc0
   ·refine dRg z z z hc0 z (fd f_144_6 z) ?_
    have h10 := (hj.e s8).e sc
    refine dRg z z z hc0 z (l1 g_142 z fid<|h10.at z)<|dRg z z z hc0 z (mv z)<|dRg z z z hc0 z (sb_ z z) ?_
    obtain ⟨x1u, e1v, hm1w⟩ := bdS (ifT hmz hc0)
    have h11 := (hw.e s8).e sc
    refine dRXg z z z hc0 z (at_ (α := Int) d_142 z_3 z z z h11 e1v) ?_
    rintro _ ⟨b2u, o2v, cs2w, rfl, h1x, h1y, h2x⟩
    obtain ⟨rfl, h2y⟩ := Int_open h1y
    refine dRg z z z hc0 z (l1 g_3 z fid<|h1x.at0 z)<|dRg z z z hc0 z (fd f_144_6 z)<|dRg z z z hc0 z (l1 g_142 z fid<|h10.at z)<|dRg z z z hc0 z (mv z) ?_
    obtain ⟨x1z, e20, hm21⟩ := bdS hm1w
    refine dRXg z z z hc0 z (at_ (α := Int) d_142 z_3 z z z h11 e20) ?_
    rintro _ ⟨b2z, o30, cs31, rfl, h22, h23, h32⟩
    obtain ⟨rfl, h33⟩ := Int_open h23
    exact dRg z z z hc0 z (l1 g_3 z fid<|h22.at0 z)<|dRg z z z hc0 z (rd_geq z z)<|dRg z z z hc1 z (pT z hc0 z)<|dR z z (pF z hc1 z)<|pD (fun _ q => ⟨decide (x1z ≤ x1u), som hm21, (q.k<|s4 z z z z), (bup (bup s6 s8) sc)⟩)
   iterate 12 refine dRn z z z hc0 z ?_
   exact dRg z z z hc1 z (pF z hc0 z)<|dR z z (pF z hc1 z)<|pD (fun _ q => ⟨false, som<|ifF hmz hc0, (q.k<|s4 z z z z), (bup (bup s6 s8) sc)⟩)
  rintro a24 w34 ⟨xi, rfl, hS35, s12⟩
  revert a24
  refine Wo<|Wc z (fun hck => ?_) (fun hck => ?_)
  ·exact Ws<|Ra z<|Wn<|Wr<|rtO<|qL (som<|ifT hmv hck).symm<|ret1 hr z ⟨(bup (bup (bup (bup h3 h2) s5) s7) s12), z⟩
  exact Wk<|Wg<|Rm z<|R z (inc_ hks (lt_ (repS.len p2_6) LEN_le) z z)<|Ra z<|Wl (fun _ q => ⟨(), (som<|ifF hmv hck).symm, ⟨(q.k<|s3 z z z), (bup s7 s12)⟩⟩)
 ·rintro _ a36 w37 ⟨hS25, sm⟩
  refine Wu ?_ hS25
  refine Wq<|Ws<|Rm z<|R z (fd f_144_6 z)<|R z (l1 g_142 z fid<|((ha.e s5).e sm).at z)<|R z (lnR d_142 z<|(((p2_6.e h3).e h2).e s5).e sm)<|R z (lss z z)<|Wn<|Wc z (fun hc => (noltt hc).elim) (fun _ => ?_)
  exact We (fun a' ha' => ⟨rfl, ⟨(Sat.weaken ha' sn), sm⟩⟩)
 ·rintro _ a26 w38 rfl ⟨hS39, s27⟩
  have hm28 := elL hmq
  revert a26
  refine Wo<|Ws<|Ra z<|Wn ?_
  obtain rfl := som hm28
  exact Wr<|ret1 hr z ⟨(bup (bup (bup h3 h2) s5) s27), z⟩
 rintro r3a ex3b a3c w3d rfl ⟨rfl, hq29⟩
 have hm2a := elR hmq
 obtain rfl := som hm2a
 exact ⟨hq29, z⟩
theorem W_w2p {x1 : Desc} {x2 : Rule} {res : Bool} (hm : M_spec_l4Kind x1 x2 = some res) (hBw : B ≤ w0.z) (p1_0 : repS w0 B (sl A0 N0 C0) x1.rules) (p2_0 : x2.name.b.length ≤ LEN) (p2_1 : inI x2.kind) (p2_2 : inI x2.size) (p2_4 : repS w0 B (sl A3 N3 C3) x2.bytes) (p2_5 : repS w0 B (sl A4 N4 C4) x2.names) (p2_6 : repS w0 B (sl A2 N2 C2) x2.tags) (p2_7 : repS w0 B (sl A5 N5 C5) x2.kids) : CallsR prog 145 [(.agg #[sl A0 N0 C0]), (.agg #[Str.v x2.name, vI x2.kind, vI x2.size, vB x2.little, sl A3 N3 C3, sl A4 N4 C4, sl A2 N2 C2, sl A5 N5 C5])] w0 (Q11 w0 B res) := by
 unfold M_spec_l4Kind at hm
 refine goF func145 z z (lb z) fun fn hr => Ws<|E z (fb z) ?_
 rintro _ ws ⟨rfl, h1d⟩
 have h1 := h1d.below
 have ht : Blk ws w0.z [sl A0 N0 C0] := h1d.blk
 refine E z (fb z) ?_
 rintro _ w2 ⟨rfl, h1e⟩
 have h0 := h1e.below
 have h3 : Blk w2 ws.z (vR x2 A3 N3 C3 A4 N4 C4 A2 N2 C2 A5 N5 C5) := h1e.blk
 refine Ra z<|Wn<|Wq<|Ws<|R z (fd f_144_1 z)<|R z (l1 g_3 z fid<|h3.at z)<|Wn<|Wb<|Ws<|R z (eql z z)<|Ra z<|Wn<|Wc z (fun hcu => ?_) (fun hcu => ?_)
 ·refine Wq ?_
  obtain ⟨u2n, hu2o, hm2p⟩ := bdS (ifT hm hcu)
  refine Wt (fun a w => ∃ (xv : Bool), xv = u2n ∧ Sat 114 [(4, vB xv)] a ∧ Below w2.z w2 w) ?_ ?_
  ·refine Wg<|R z (lN (vs := (vR x2 A3 N3 C3 A4 N4 C4 A2 N2 C2 A5 N5 C5)) g_144 z_144 z z fid<|h3.row 0 8 z) ?_
   have h1f := lt_ h1.s h0.s
   obtain ⟨r2q, e2r, hm1g⟩ := bdS hu2o
   refine E z (fc call162 z<|W_w04 (B := B) e2r (lt_ hBw h1f) p2_0 p2_1 p2_2 ((p2_4.e h1).e h0) ((p2_5.e h1).e h0) ((p2_6.e h1).e h0) ((p2_7.e h1).e h0)<|ii z) ?_
   rintro _ w5h ⟨sm, rfl⟩
   refine Rm z ?_
   rcases bs r2q with hce | hce
   ·refine Rh z hce (fd f_144_2 z) ?_
    have h1h := h3.e sm
    refine Rh z hce (l1 g_3 z fid<|h1h.at z) ?_
    obtain ⟨r2s, e2t, hm1i⟩ := bdS (ifT hm1g hce)
    refine Eg z z hce z (fc call97 z<|W_w00 (B := B) e2t (lt_ hBw<|lt_ h1f sm.s) p2_2 (ii z)<|ii z) ?_
    rintro _ w5i ⟨sq, rfl⟩
    refine R z (pT z hce z)<|Rm z ?_
    rcases bs r2s with hc7 | hc7
    ·have hm1j := ifT hm1i hc7
     refine Rh z hc7 (fd f_144_3 z) ?_
     have h1k := h1h.e sq
     refine Rh z hc7 (l1 g_4 z fid<|h1k.at z)<|Rh z hc7 (not_ z)<|Rh z hc7 (mv z) ?_
     rcases bs (!x2.little) with hcf | hcf
     ·iterate 3 refine Nh z hcf ?_
      exact Rh z hc7 (pT z hcf z)<|R z (pT z hc7 z)<|Ra z<|Wl (fun _ q => ⟨true, som<|ifT hm1j hcf, (q.k<|s1 z), (bup sm sq)⟩)
     exact Rh z hcf (fd f_144_2 z)<|Rh z hcf (l1 g_3 z fid<|h1k.at z)<|Rh z hcf (rd_gtr z z)<|Rh z hc7 (pF z hcf z)<|R z (pT z hc7 z)<|Ra z<|Wl (fun _ q => ⟨decide (1 < x2.size), som<|ifF hm1j hcf, (q.k<|s1 z), (bup sm sq)⟩)
    iterate 4 refine Nh z hc7 ?_
    exact Nv z<|Nv z<|Nv z<|Nh z hc7<|R z (pF z hc7 z)<|Ra z<|Wl (fun _ q => ⟨false, som<|ifF hm1i hc7, (q.k<|s1 z), (bup sm sq)⟩)
   iterate 3 refine Nh z hce ?_
   exact R z (pF z hce z)<|Rm z<|Nh z z<|Nh z z<|Nh z z<|Nh z z<|Nv z<|Nv z<|Nv z<|Nh z z<|R z (pF z z z)<|Ra z<|Wl (fun _ q => ⟨false, som<|ifF hm1g hce, (q.k<|s1 z), sm⟩)
  rintro a2u w5j ⟨xv, rfl, hS5k, s2v⟩
  revert a2u
  refine Wo ?_
  obtain rfl := som hm2p
  exact Wr<|rtO<|ret1 hr z ⟨(bup (bup h1 h0) s2v), z⟩
 have hm1l := ifF hm hcu
 refine Ws<|R z (eql z z)<|Ra z<|Wn<|Wc z (fun hcw => ?_) (fun hcw => ?_)
 ·refine Wq ?_
  obtain ⟨u2w, hu2x, hm2y⟩ := bdS (ifT hm1l hcw)
  refine Wt (fun a w => ∃ (xx : Bool), xx = u2w ∧ Sat 114 [(4, vB xx)] a ∧ Below w2.z w2 w) ?_ ?_
  ·refine Wg<|R z (lN (vs := (vR x2 A3 N3 C3 A4 N4 C4 A2 N2 C2 A5 N5 C5)) g_144 z_144 z z fid<|h3.row 0 8 z) ?_
   have h1m := (p2_4.e h1).e h0
   have h1n := lt_ h1.s h0.s
   obtain ⟨r2z, e30, hm1o⟩ := bdS hu2x
   refine E z (fc call162 z<|W_w04 (B := B) e30 (lt_ hBw h1n) p2_0 p2_1 p2_2 h1m ((p2_5.e h1).e h0) ((p2_6.e h1).e h0) ((p2_7.e h1).e h0)<|ii z) ?_
   rintro _ w5l ⟨sn, rfl⟩
   refine Rm z ?_
   rcases bs r2z with hc9 | hc9
   ·refine Rh z hc9 (fd f_144_4 z)<|Rh z hc9 (l1 g_25 z fid<|(h3.e sn).at z) ?_
    have h1p := h1m.e sn
    refine Rh z hc9 (lnR d_25 z h1p) ?_
    obtain ⟨r31, e32, hm33⟩ := bdS (ifT hm1o hc9)
    refine Eg z z hc9 z (fc call97 z<|W_w00 (B := B) e32 (lt_ hBw<|lt_ h1n sn.s) (inI_len<|repS.len h1p) (ii z)<|ii z) ?_
    rintro _ w5m ⟨s34, rfl⟩
    exact R z (pT z hc9 z)<|Ra z<|Wl (fun _ q => ⟨r31, som hm33, (q.k<|s1 z), (bup sn s34)⟩)
   iterate 4 refine Nh z hc9 ?_
   exact R z (pF z hc9 z)<|Ra z<|Wl (fun _ q => ⟨false, som<|ifF hm1o hc9, (q.k<|s1 z), sn⟩)
  rintro a35 w5n ⟨xx, rfl, hS5o, s36⟩
  revert a35
  refine Wo ?_
  obtain rfl := som hm2y
  exact Wr<|rtO<|ret1 hr z ⟨(bup (bup h1 h0) s36), z⟩
 have hm1q := ifF hm1l hcw
 refine Ws<|R z (eql z z)<|Ra z<|Wn<|Wc z (fun hcy => ?_) (fun hcy => ?_)
 ·refine Wq ?_
  obtain ⟨u37, hu38, hm39⟩ := bdS (ifT hm1q hcy)
  refine Wt (fun a w => ∃ (xz : Bool), xz = u37 ∧ Sat 114 [(4, vB xz)] a ∧ Below w2.z w2 w) ?_ ?_
  ·refine Wg<|R z (lN (vs := (vR x2 A3 N3 C3 A4 N4 C4 A2 N2 C2 A5 N5 C5)) g_144 z_144 z z fid<|h3.row 0 8 z) ?_
   have h1r := lt_ h1.s h0.s
   obtain ⟨r3a, e3b, hm1s⟩ := bdS hu38
   refine E z (fc call162 z<|W_w04 (B := B) e3b (lt_ hBw h1r) p2_0 p2_1 p2_2 ((p2_4.e h1).e h0) ((p2_5.e h1).e h0) ((p2_6.e h1).e h0) ((p2_7.e h1).e h0)<|ii z) ?_
   rintro _ w5p ⟨sr, rfl⟩
   refine Rm z ?_
   rcases bs r3a with hcg | hcg
   ·refine Rh z hcg (fd f_144_2 z)<|Rh z hcg (l1 g_3 z fid<|(h3.e sr).at z) ?_
    obtain ⟨r3c, e3d, hm3e⟩ := bdS (ifT hm1s hcg)
    refine Eg z z hcg z (fc call97 z<|W_w00 (B := B) e3d (lt_ hBw<|lt_ h1r sr.s) p2_2 (ii z)<|ii z) ?_
    rintro _ w5q ⟨s3f, rfl⟩
    exact R z (pT z hcg z)<|Ra z<|Wl (fun _ q => ⟨r3c, som hm3e, (q.k<|s1 z), (bup sr s3f)⟩)
   iterate 3 refine Nh z hcg ?_
   exact R z (pF z hcg z)<|Ra z<|Wl (fun _ q => ⟨false, som<|ifF hm1s hcg, (q.k<|s1 z), sr⟩)
  rintro a3g w5r ⟨xz, rfl, hS5s, s3h⟩
  revert a3g
  refine Wo ?_
  obtain rfl := som hm39
  exact Wr<|rtO<|ret1 hr z ⟨(bup (bup h1 h0) s3h), z⟩
 have hm1t := ifF hm1q hcy
 refine Ws<|R z (eql z z)<|Ra z<|Wn<|Wc z (fun hc10 => ?_) (fun hc10 => ?_)
 ·refine Wq ?_
  obtain ⟨u3i, hu3j, hm3k⟩ := bdS (ifT hm1t hc10)
  refine Wt (fun a w => ∃ (x11 : Bool), x11 = u3i ∧ Sat 114 [(4, vB x11)] a ∧ Below w2.z w2 w) ?_ ?_
  ·refine Wd (X := noX) 0 (.rd 0 (.ef 1 (.rd 2 (.rd 3 (.rd 4 (.rd 5 (.rd 6 (.rd 7 (.ef 8 (.rd 9 (.rd 10 (.rd 11 .done)))))))))))) mo (by kernel_rfl) fun w5t sa _ => ?_
   have h1u := h3.e sa
   refine dR z z (lN (vs := (vR x2 A3 N3 C3 A4 N4 C4 A2 N2 C2 A5 N5 C5)) g_144 z_144 z z fid<|h1u.row 0 8 z) ?_
   have h1v := ((p2_7.e h1).e h0).e sa
   have h1w := lt_ (lt_ h1.s h0.s) sa.s
   obtain ⟨r3l, e3m, hm1x⟩ := bdS hu3j
   refine dE z z (fc call162 z<|W_w04 (B := B) e3m (lt_ hBw h1w) p2_0 p2_1 p2_2 (((p2_4.e h1).e h0).e sa) (((p2_5.e h1).e h0).e sa) (((p2_6.e h1).e h0).e sa) h1v<|ii z) (.inr fun _ _ h => chgB<|h.1) ?_
   rintro _ w5u ⟨sj, rfl⟩
   refine dR z z (mv z) ?_
   rcases bs r3l with hc4 | hc4
   ·refine dRg z z z hc4 z (lN (vs := [sl A0 N0 C0]) g_95 z_95 z z fid<|(((ht.e h0).e sa).e sj).row 0 1 z)<|dRg z z z hc4 z (fd f_144_7 z)<|dRg z z z hc4 z (l1 g_142 z fid<|(h1u.e sj).at z) ?_
    obtain ⟨x5v, e3n, hm3o⟩ := bdS (ifT hm1x hc4)
    refine dRXg z z z hc4 z (at_ (α := Int) d_142 z_3 z z z (h1v.e sj) e3n) ?_
    rintro _ ⟨b5w, o5x, cs5y, rfl, h3p, h3q, h5z⟩
    obtain ⟨rfl, h3r⟩ := Int_open h3q
    refine dRg z z z hc4 z (l1 g_3 z fid<|h3p.at0 z) ?_
    obtain ⟨r3s, e3t, hm3u⟩ := bdS hm3o
    refine dEg z z z hc4 z (fc call163 z<|W_w0f (B := B) e3t (lt_ hBw<|lt_ h1w sj.s) ((((p1_0.e h1).e h0).e sa).e sj) h3r) (.inr fun _ _ h => chgB<|h.1) ?_
    rintro _ w60 ⟨s3v, rfl, h61⟩
    exact dRg z z z hc4 z (rd_gtr z z)<|dR z z (pT z hc4 z)<|dR z z (asg z)<|pD (fun _ q => ⟨decide (0 < r3s), som hm3u, (q.k<|s1 z), (bup (bup sa sj) s3v)⟩)
   iterate 5 refine dRn z z z hc4 z ?_
   exact dEn z z z hc4 z<|dRn z z z hc4 z<|dR z z (pF z hc4 z)<|dR z z (asg z)<|pD (fun _ q => ⟨false, som<|ifF hm1x hc4, (q.k<|s1 z), (bup sa sj)⟩)
  rintro a3w w62 ⟨x11, rfl, hS63, s3x⟩
  revert a3w
  refine Wo ?_
  obtain rfl := som hm3k
  exact Wr<|rtO<|ret1 hr z ⟨(bup (bup h1 h0) s3x), z⟩
 have hm1y := ifF hm1t hc10
 refine Ws<|R z (eql z z)<|Ra z<|Wn<|Wc z (fun hc12 => ?_) (fun hc12 => ?_)
 ·refine Wq ?_
  obtain ⟨u3y, hu3z, hm40⟩ := bdS (ifT hm1y hc12)
  refine Wt (fun a w => ∃ (x13 : Bool), x13 = u3y ∧ Sat 114 [(4, vB x13)] a ∧ Below w2.z w2 w) ?_ ?_
  ·refine Wd (X := noX) 0 (.rd 0 (.ef 1 (.rd 2 (.rd 3 (.rd 4 (.rd 5 (.rd 6 (.rd 7 (.ef 8 (.rd 9 (.rd 10 (.rd 11 .done)))))))))))) mo (by kernel_rfl) fun w64 sb _ => ?_
   have h1z := h3.e sb
   refine dR z z (lN (vs := (vR x2 A3 N3 C3 A4 N4 C4 A2 N2 C2 A5 N5 C5)) g_144 z_144 z z fid<|h1z.row 0 8 z) ?_
   have h20 := ((p2_7.e h1).e h0).e sb
   have h21 := lt_ (lt_ h1.s h0.s) sb.s
   obtain ⟨r41, e42, hm22⟩ := bdS hu3z
   refine dE z z (fc call162 z<|W_w04 (B := B) e42 (lt_ hBw h21) p2_0 p2_1 p2_2 (((p2_4.e h1).e h0).e sb) (((p2_5.e h1).e h0).e sb) (((p2_6.e h1).e h0).e sb) h20<|ii z) (.inr fun _ _ h => chgB<|h.1) ?_
   rintro _ w65 ⟨sk, rfl⟩
   refine dR z z (mv z) ?_
   rcases bs r41 with hc5 | hc5
   ·refine dRg z z z hc5 z (lN (vs := [sl A0 N0 C0]) g_95 z_95 z z fid<|(((ht.e h0).e sb).e sk).row 0 1 z)<|dRg z z z hc5 z (fd f_144_7 z)<|dRg z z z hc5 z (l1 g_142 z fid<|(h1z.e sk).at z) ?_
    obtain ⟨x66, e43, hm44⟩ := bdS (ifT hm22 hc5)
    refine dRXg z z z hc5 z (at_ (α := Int) d_142 z_3 z z z (h20.e sk) e43) ?_
    rintro _ ⟨b67, o68, cs69, rfl, h45, h46, h6a⟩
    obtain ⟨rfl, h47⟩ := Int_open h46
    refine dRg z z z hc5 z (l1 g_3 z fid<|h45.at0 z) ?_
    obtain ⟨r48, e49, hm4a⟩ := bdS hm44
    refine dEg z z z hc5 z (fc call163 z<|W_w0f (B := B) e49 (lt_ hBw<|lt_ h21 sk.s) ((((p1_0.e h1).e h0).e sb).e sk) h47) (.inr fun _ _ h => chgB<|h.1) ?_
    rintro _ w6b ⟨s4b, rfl, h6c⟩
    exact dRg z z z hc5 z (rd_gtr z z)<|dR z z (pT z hc5 z)<|dR z z (asg z)<|pD (fun _ q => ⟨decide (0 < r48), som hm4a, (q.k<|s1 z), (bup (bup sb sk) s4b)⟩)
   iterate 5 refine dRn z z z hc5 z ?_
   exact dEn z z z hc5 z<|dRn z z z hc5 z<|dR z z (pF z hc5 z)<|dR z z (asg z)<|pD (fun _ q => ⟨false, som<|ifF hm22 hc5, (q.k<|s1 z), (bup sb sk)⟩)
  rintro a4c w6d ⟨x13, rfl, hS6e, s4d⟩
  revert a4c
  refine Wo ?_
  obtain rfl := som hm40
  exact Wr<|rtO<|ret1 hr z ⟨(bup (bup h1 h0) s4d), z⟩
 have hm23 := ifF hm1y hc12
 refine Ws<|R z (eql z z)<|Ra z<|Wn<|Wc z (fun hc14 => ?_) (fun hc14 => ?_)
 ·refine Wq ?_
  obtain ⟨u4e, hu4f, hm4g⟩ := bdS (ifT hm23 hc14)
  refine Wt (fun a w => ∃ (x15 : Bool), x15 = u4e ∧ Sat 114 [(4, vB x15)] a ∧ Below w2.z w2 w) ?_ ?_
  ·refine Wg<|R z (lN (vs := (vR x2 A3 N3 C3 A4 N4 C4 A2 N2 C2 A5 N5 C5)) g_144 z_144 z z fid<|h3.row 0 8 z)<|R z (fd f_144_5 z)<|R z (l1 g_41 z fid<|h3.at z) ?_
   have hl := (p2_5.e h1).e h0
   refine R z (lnR d_41 z hl) ?_
   have h24 := lt_ h1.s h0.s
   obtain ⟨r4h, e4i, hm25⟩ := bdS hu4f
   refine E z (fc call162 z<|W_w04 (B := B) e4i (lt_ hBw h24) p2_0 p2_1 p2_2 ((p2_4.e h1).e h0) hl ((p2_6.e h1).e h0) ((p2_7.e h1).e h0)<|inI_len<|repS.len hl) ?_
   rintro _ w6f ⟨so, rfl⟩
   refine Rm z ?_
   rcases bs r4h with hch | hch
   ·refine Rh z hch (fd f_144_5 z)<|Rh z hch (l1 g_41 z fid<|(h3.e so).at z) ?_
    obtain ⟨r4j, e4k, hm4l⟩ := bdS (ifT hm25 hch)
    refine Eg z z hch z (fc call164 z<|W_w2n (B := B) e4k (lt_ hBw<|lt_ h24 so.s)<|hl.e so) ?_
    rintro _ w6g ⟨s4m, rfl⟩
    exact R z (pT z hch z)<|Ra z<|Wl (fun _ q => ⟨r4j, som hm4l, (q.k<|s1 z), (bup so s4m)⟩)
   iterate 3 refine Nh z hch ?_
   exact R z (pF z hch z)<|Ra z<|Wl (fun _ q => ⟨false, som<|ifF hm25 hch, (q.k<|s1 z), so⟩)
  rintro a4n w6h ⟨x15, rfl, hS6i, s4o⟩
  revert a4n
  refine Wo ?_
  obtain rfl := som hm4g
  exact Wr<|rtO<|ret1 hr z ⟨(bup (bup h1 h0) s4o), z⟩
 have hm26 := ifF hm23 hc14
 refine Ws<|R z (eql z z)<|Ra z<|Wn<|Wc z (fun hc16 => ?_) (fun hc16 => ?_)
 ·refine Wq ?_
  obtain ⟨u4p, hu4q, hm4r⟩ := bdS (ifT hm26 hc16)
  refine Wt (fun a w => ∃ (x17 : Bool), x17 = u4p ∧ Sat 114 [(4, vB x17)] a ∧ Below w2.z w2 w) ?_ ?_
  ·refine Wg<|R z (lN (vs := (vR x2 A3 N3 C3 A4 N4 C4 A2 N2 C2 A5 N5 C5)) g_144 z_144 z z fid<|h3.row 0 8 z) ?_
   have h27 := (p2_4.e h1).e h0
   have h28 := (p2_5.e h1).e h0
   have h29 := (p2_6.e h1).e h0
   have h2a := (p2_7.e h1).e h0
   have h2b := lt_ h1.s h0.s
   obtain ⟨r4s, e4t, hm2c⟩ := bdS hu4q
   refine E z (fc call162 z<|W_w04 (B := B) e4t (lt_ hBw h2b) p2_0 p2_1 p2_2 h27 h28 h29 h2a<|ii z) ?_
   rintro _ w6j ⟨sc, rfl⟩
   refine Rm z ?_
   rcases bs r4s with hci | hci
   ·refine Rh z hci (lN (vs := [sl A0 N0 C0]) g_95 z_95 z z fid<|((ht.e h0).e sc).row 0 1 z)<|Rh z hci (lN (vs := (vR x2 A3 N3 C3 A4 N4 C4 A2 N2 C2 A5 N5 C5)) g_144 z_144 z z fid<|(h3.e sc).row 0 8 z) ?_
    obtain ⟨r4u, e4v, hm4w⟩ := bdS (ifT hm2c hci)
    refine Eg z z hci z (fc call165 z<|W_w2o (B := B) e4v (lt_ hBw<|lt_ h2b sc.s) (((p1_0.e h1).e h0).e sc) p2_0 p2_1 p2_2 (h27.e sc) (h28.e sc) (h29.e sc)<|h2a.e sc) ?_
    rintro _ w6k ⟨s4x, rfl⟩
    exact R z (pT z hci z)<|Ra z<|Wl (fun _ q => ⟨r4u, som hm4w, (q.k<|s1 z), (bup sc s4x)⟩)
   iterate 3 refine Nh z hci ?_
   exact R z (pF z hci z)<|Ra z<|Wl (fun _ q => ⟨false, som<|ifF hm2c hci, (q.k<|s1 z), sc⟩)
  rintro a4y w6l ⟨x17, rfl, hS6m, s4z⟩
  revert a4y
  refine Wo ?_
  obtain rfl := som hm4r
  exact Wr<|rtO<|ret1 hr z ⟨(bup (bup h1 h0) s4z), z⟩
 refine Wq<|Ws<|R z (eql z z)<|Ra z<|Wn ?_
 obtain ⟨u50, hu2d, hm2e⟩ := bdS (ifF hm26 hc16)
 refine Wt (fun a w => ∃ (x18 : Bool), x18 = u50 ∧ Sat 114 [(3, pt ws.z), (6, vI x2.kind), (92, vB x18)] a ∧ Below w2.z w2 w) ?_ ?_
 ·refine Wc z (fun hc19 => ?_) (fun hc19 => ?_)
  ·exact WC_skip (fun _ q => ⟨x2.kind == 8, som<|ifT hu2d hc19, (q.k<|s3 z z z), (br w2)⟩)
  exact Wg<|R z (eql z z)<|Ra z<|Wl (fun _ q => ⟨x2.kind == 9, som<|ifF hu2d hc19, (q.k<|s3 z z z), (br w2)⟩)
 rintro a51 w2f ⟨x18, rfl, hS6n, s6⟩
 revert a51
 refine Wo<|Wc z (fun hc1a => ?_) (fun hc1a => ?_)
 ·refine Ws<|R z (lN (vs := (vR x2 A3 N3 C3 A4 N4 C4 A2 N2 C2 A5 N5 C5)) g_144 z_144 z z fid<|(h3.e s6).row 0 8 z) ?_
  obtain ⟨r6o, e52, hm53⟩ := bdS (ifT hm2e hc1a)
  refine E z (fc call162 z<|W_w04 (B := B) e52 (lt_ hBw<|lt_ (lt_ h1.s h0.s) s6.s) p2_0 p2_1 p2_2 (((p2_4.e h1).e h0).e s6) (((p2_5.e h1).e h0).e s6) (((p2_6.e h1).e h0).e s6) (((p2_7.e h1).e h0).e s6)<|ii z) ?_
  rintro _ w6p ⟨s54, rfl⟩
  refine Ra z<|Wn ?_
  obtain rfl := som hm53
  exact Wr<|rtO<|ret1 hr z ⟨(bup (bup (bup h1 h0) s6) s54), z⟩
 have hm2g := ifF hm2e hc1a
 refine Ws<|R z (eql z z)<|Ra z<|Wn<|Wc z (fun hc1b => ?_) (fun hc1b => ?_)
 ·refine Wq ?_
  obtain ⟨u55, hu56, hm57⟩ := bdS (ifT hm2g hc1b)
  refine Wt (fun a w => ∃ (x1c : Bool), x1c = u55 ∧ Sat 114 [(4, vB x1c)] a ∧ Below w2f.z w2f w) ?_ ?_
  ·refine Wg ?_
   have h2h := h3.e s6
   refine R z (lN (vs := (vR x2 A3 N3 C3 A4 N4 C4 A2 N2 C2 A5 N5 C5)) g_144 z_144 z z fid<|h2h.row 0 8 z) ?_
   have h2i := ((p2_4.e h1).e h0).e s6
   obtain ⟨r58, e59, hm2j⟩ := bdS hu56
   refine E z (fc call162 z<|W_w04 (B := B) e59 (lt_ hBw<|lt_ (lt_ h1.s h0.s) s6.s) p2_0 p2_1 p2_2 h2i (((p2_5.e h1).e h0).e s6) (((p2_6.e h1).e h0).e s6) (((p2_7.e h1).e h0).e s6)<|ii z) ?_
   rintro _ w6q ⟨sp, rfl⟩
   refine Rm z ?_
   rcases bs r58 with hcd | hcd
   ·have hm2k := ifT hm2j hcd
    refine Rh z hcd (fd f_144_4 z) ?_
    have h2l := h2h.e sp
    refine Rh z hcd (l1 g_25 z fid<|h2l.at z) ?_
    have h2m := h2i.e sp
    refine Rh z hcd (lnR d_25 z h2m)<|Rh z hcd (eql z z)<|R z (pT z hcd z)<|Rm z ?_
    rcases bs ((x2.bytes.length : Int) == 1) with hc8 | hc8
    ·refine Rh z hc8 (fd f_144_4 z)<|Rh z hc8 (l1 g_25 z fid<|h2l.at z) ?_
     obtain ⟨x5a, e5b, hm5c⟩ := bdS (ifT hm2k hc8)
     refine RXg z z hc8 z (at_ (α := UInt8) d_25 z_5 z z z h2m e5b) ?_
     rintro _ ⟨b6r, o6s, cs6t, rfl, h5d, h5e, h6u⟩
     obtain rfl := u8 h5e
     exact Rh z hc8 (l1 g_5 z fid<|h5d.at0 z)<|Rh z hc8 (nq z z)<|R z (pT z hc8 z)<|Ra z<|Wl (fun _ q => ⟨(byteI x5a) != (byteI (92 : UInt8)), som hm5c, (q.k<|s1 z), sp⟩)
    iterate 5 refine Nh z hc8 ?_
    exact R z (pF z hc8 z)<|Ra z<|Wl (fun _ q => ⟨false, som<|ifF hm2k hc8, (q.k<|s1 z), sp⟩)
   iterate 4 refine Nh z hcd ?_
   exact R z (pF z hcd z)<|Rm z<|Nh z z<|Nh z z<|Nh z z<|Nh z z<|Nh z z<|R z (pF z z z)<|Ra z<|Wl (fun _ q => ⟨false, som<|ifF hm2j hcd, (q.k<|s1 z), sp⟩)
  rintro a5f w6v ⟨x1c, rfl, hS6w, s5g⟩
  revert a5f
  refine Wo ?_
  obtain rfl := som hm57
  exact Wr<|rtO<|ret1 hr z ⟨(bup (bup (bup h1 h0) s6) s5g), z⟩
 refine Wk<|Ws<|Ra z<|Wn ?_
 obtain rfl := som (ifF hm2g hc1b)
 exact Wr<|ret1 hr z ⟨(bup (bup h1 h0) s6), z⟩
theorem W_w2q {x1 : Desc} {x2 : Int} {res : Bool} (hm : M_spec_IsValidRule x1 x2 = some res) (hBw : B ≤ w0.z) (p1_0 : repS w0 B (sl A0 N0 C0) x1.rules) (p2_0 : inI x2) : CallsR prog 124 [(.agg #[sl A0 N0 C0]), vI x2] w0 (Q11 w0 B res) := by
 unfold M_spec_IsValidRule at hm
 refine goF func124 z z (lb z) fun fn hr => Ws<|E z (fb z) ?_
 rintro _ w1p ⟨rfl, h13⟩
 have h2 := h13.below
 have hf : Blk w1p w0.z [sl A0 N0 C0] := h13.blk
 refine Ra z<|Wn<|Wq<|Ws<|Rm z<|R z (fd f_95_0 z)<|R z (l1 g_93 z fid<|hf.at z) ?_
 have h14 := p1_0.e h2
 refine R z (lnR d_93 z h14)<|R z (sb_ z z) ?_
 obtain ⟨r34, e1q, hm15⟩ := bdS hm
 refine E z (fc call97 z<|W_w00 (B := B) e1q (lt_ hBw h2.s) p2_0 (ii z)<|iS _ _) ?_
 rintro _ w4 ⟨s6, rfl⟩
 refine R z (not_ z)<|Wn<|Wc z (fun hci => ?_) (fun hci => ?_)
 ·refine Ws<|Ra z<|Wn ?_
  obtain rfl := som (ifT hm15 hci)
  exact Wr<|ret1 hr z ⟨(bup h2 s6), z⟩
 refine Wk<|Ws<|R z (fd f_95_0 z) ?_
 have hj := hf.e s6
 refine R z (l1 g_93 z fid<|hj.at z)<|Rm z ?_
 obtain ⟨xk, e1r, hm1s⟩ := bdS (ifF hm15 hci)
 have hl := h14.e s6
 refine RX z (at_ (α := Rule) d_93 z_144 z z z hl e1r) ?_
 rintro _ ⟨b35, o36, cs37, rfl, h1t, h1u, h38⟩
 obtain ⟨am, nn, co, ap, nq, cr, au, ns, ct, av, nw, cx, rfl, h16, h1v, h1w, h1x, h1y, h1z, hg⟩ := Rule_open h1u
 refine R z (lN (vs := (vR xk am nn co ap nq cr au ns ct av nw cx)) g_144 z_144 z z fid h1t)<|E z (fa zero_144) ?_
 rintro _ w20 ⟨rfl, h17⟩
 have h0 := h17.below
 have h21 : Blk w20 w4.z [(Str.v (⟨[]⟩ : Str)), vI 0, vI 0, vB false, sl none 0 0, sl none 0 0, sl none 0 0, sl none 0 0] := h17.blk
 refine E0 (fs (cur' := (vR xk am nn co ap nq cr au ns ct av nw cx)) z_144 z z h21 z (lb z) (oA z) z) ?_
 rintro _ w9 ⟨hh, s22⟩
 have h1 := s22.one
 refine Wn<|Wq<|Ws<|Ra z<|Wn ?_
 obtain ⟨u39, hu23, hm18⟩ := bdS hm1s
 refine Wf (σ := Unit) (ρ := Bool) (fun (k19 : Nat) (_ : Unit) a w => Sat 58 [(1, vI x2), (2, pt w0.z), (5, pt w4.z), (6, (vI ((k19 : Nat) : Int)))] a ∧ Below w9.z w9 w) (fun (_ : Unit) a w => Sat 58 [(1, vI x2), (2, pt w0.z), (5, pt w4.z)] a ∧ Below w9.z w9 w) (fun r ex a w => ex = .ret ∧ RetPost prog fn (Q11 w0 B r) a w) hu23 ?_ ?_ ?_ ?_ ?_
 ·exact fun _ q => ⟨(q.k<|s4 z z z z), (br w9)⟩
 ·rintro k19 _ a3a w3b o3c hk1a ⟨hS24, sa⟩ hm25
  refine Wu ?_ hS24
  refine Wq<|Ws<|Rm z<|Rm z<|R z (lss z z)<|Wn<|Wc z (fun _ => ?_) (fun hc => (noltI hk1a hc).elim)
  refine Wk<|Wq<|Wb<|Wq (Wd (X := noX) 0 (.rd 0 (.rd 1 (.rd 2 (.rd 3 (.rd 4 (.rd 5 (.rd 6 (.rd 7 (.rd 8 .done))))))))) mo (by kernel_rfl) fun w3d sb _ => dR z z (fd f_95_0 z)<|dR z z (l1 g_93 z fid<|((((hj.e h0).c h1<|djs<|mm1 hf.lt s6.s).e sa).e sb).at z)<|dR z z (mv z) ?_)
  obtain ⟨x3e, e26, hm1b⟩ := bdS hm25
  have h1c := lt_ h2.s s6.s
  refine dRX z z (at_ (α := Rule) d_93 z_144 z z z ((((hl.e h0).c h1<|lg<|m1<|lt_ hBw h1c).e sa).e sb) e26) ?_
  rintro _ ⟨b3f, o3g, cs3h, rfl, h27, h28, h3i⟩
  obtain ⟨a3j, n3k, c3l, a3m, n3n, c3o, a3p, n3q, c3r, a3s, n3t, c3u, rfl, h3v, h3w, h3x, h3y, h3z, h40, h41⟩ := Rule_open h28
  refine dR z z (fd f_144_0 z)<|dR z z (l1 g_9 z fid<|h27.at (j := 0) z)<|dR z z (fd f_144_0 z)<|dR z z (l1 g_9 z fid<|((hh.e sa).e sb).at z)<|dR z z (rd_eqlT z z)<|pD<|Wo<|Wc z (fun hcy => ?_) (fun hcy => ?_)
  ·exact Ws<|Ra z<|Wn<|Wr<|rtO<|qL (som<|ifT hm1b hcy).symm<|ret1 hr z ⟨(bup (bup (bM (bup (bup h2 s6) h0) h1<|m1 h1c) sa) sb), z⟩
  exact Wk<|Wg<|Rm z<|R z (inc_ hk1a (tl_ p2_0) z z)<|Ra z<|Wl (fun _ q => ⟨(), (som<|ifF hm1b hcy).symm, ⟨(q.k<|s4 z z z z), (bup sa sb)⟩⟩)
 ·rintro _ a42 w43 ⟨hS29, s2a⟩
  refine Wu ?_ hS29
  refine Wq<|Ws<|Rm z<|Rm z<|R z (lss z z)<|Wn<|Wc z (fun hc => (nolttI hc).elim) (fun _ => ?_)
  exact We (fun a' ha' => ⟨rfl, ⟨(Sat.weaken ha'<|s3 z z z), s2a⟩⟩)
 ·rintro _ a2b wc rfl ⟨hS44, s5⟩
  have hm2c := elL hm18
  revert a2b
  refine Wo<|Wq<|Ws<|Ra z<|Wn ?_
  obtain ⟨u45, hu2d, hm1d⟩ := bdS hm2c
  refine Wf (σ := Unit) (ρ := Bool) (fun (k1e : Nat) (_ : Unit) a w => Sat 58 [(1, vI x2), (2, pt w0.z), (5, pt w4.z), (7, (vI ((k1e : Nat) : Int)))] a ∧ Below wc.z wc w) (fun (_ : Unit) a w => Sat 58 [(2, pt w0.z), (5, pt w4.z)] a ∧ Below wc.z wc w) (fun r ex a w => ex = .ret ∧ RetPost prog fn (Q11 w0 B r) a w) hu2d ?_ ?_ ?_ ?_ ?_
  ·exact fun _ q => ⟨(q.k<|s4 z z z z), (br wc)⟩
  ·rintro k1e _ a46 w47 o48 hk1f ⟨hS2e, sd⟩ hm2f
   refine Wu ?_ hS2e
   refine Wq<|Ws<|Rm z<|R z (fd f_144_7 z) ?_
   have h1g := (hh.e s5).e sd
   refine R z (l1 g_142 z fid<|h1g.at z) ?_
   have hz := lt_ h2.s s6.s
   have h1h := (((hg.e h0).c h1<|lg<|m1<|lt_ hBw hz).e s5).e sd
   refine R z (lnR d_142 z h1h)<|R z (lss z z)<|Wn<|Wc z (fun _ => ?_) (fun hc => (nolt hk1f hc).elim)
   refine Wk<|Wq<|Wb<|Ws<|R z (fd f_144_7 z)<|R z (l1 g_142 z fid<|h1g.at z)<|Rm z ?_
   obtain ⟨x49, e2g, hm2h⟩ := bdS hm2f
   refine RX z (at_ (α := Int) d_142 z_3 z z z h1h e2g) ?_
   rintro _ ⟨b4a, o4b, cs4c, rfl, h2i, h2j, h4d⟩
   obtain ⟨rfl, h2k⟩ := Int_open h2j
   refine R z (l1 g_3 z fid<|h2i.at0 z)<|Rm z<|R z (sb_ z z) ?_
   obtain ⟨r4e, e2l, hm1i⟩ := bdS hm2h
   refine E z (fc call97 z<|W_w00 (B := B) e2l (lt_ hBw<|lt_ (lt_ (lt_ (lt_ hz h0.s) h1.s) s5.s) sd.s) h2k (ii z)<|iS _ _) ?_
   rintro _ w4f ⟨s1j, rfl⟩
   refine R z (not_ z)<|Wn<|Wc z (fun hc10 => ?_) (fun hc10 => ?_)
   ·exact Ws<|Ra z<|Wn<|Wr<|rtO<|qL (som<|ifT hm1i hc10).symm<|ret1 hr z ⟨(bup (bup (bup (bM (bup (bup h2 s6) h0) h1<|m1 hz) s5) sd) s1j), z⟩
   exact Wk<|Wg<|Rm z<|R z (inc_ hk1f (lt_ (repS.len hg) LEN_le) z z)<|Ra z<|Wl (fun _ q => ⟨(), (som<|ifF hm1i hc10).symm, ⟨(q.k<|s4 z z z z), (bup sd s1j)⟩⟩)
  ·rintro _ a4g w4h ⟨hS2m, s11⟩
   refine Wu ?_ hS2m
   refine Wq<|Ws<|Rm z<|R z (fd f_144_7 z)<|R z (l1 g_142 z fid<|((hh.e s5).e s11).at z)<|R z (lnR d_142 z<|(((hg.e h0).c h1<|lg<|m1<|lt_ hBw<|lt_ h2.s s6.s).e s5).e s11)<|R z (lss z z)<|Wn<|Wc z (fun hc => (noltt hc).elim) (fun _ => ?_)
   exact We (fun a' ha' => ⟨rfl, ⟨(Sat.weaken ha'<|s2 z z), s11⟩⟩)
  ·rintro _ a2n w1k rfl ⟨hS4i, s8⟩
   have hm2o := elL hm1d
   revert a2n
   refine Wo<|Wq ?_
   obtain ⟨u2p, hu2q, hm2r⟩ := bdS hm2o
   refine Wt (fun a w => ∃ (x12 : Bool), x12 = u2p ∧ Sat 58 [(4, vB x12)] a ∧ Below w1k.z w1k w) ?_ ?_
   ·refine Wg<|R z (fd f_144_0 z) ?_
    have h1l := (hh.e s5).e s8
    refine R z (l1 g_9 z fid<|h1l.at z) ?_
    have h1m := lt_ h2.s s6.s
    have h1n := lt_ (lt_ (lt_ (lt_ h1m h0.s) h1.s) s5.s) s8.s
    obtain ⟨r2s, e2t, hm1o⟩ := bdS hu2q
    refine E z (fc call106 z<|W_w0e (B := B) e2t (lt_ hBw h1n) h16) ?_
    rintro _ w4j ⟨s7, rfl⟩
    refine Rm z ?_
    rcases bs r2s with hc3 | hc3
    ·refine Rh z hc3 (lN (vs := [sl A0 N0 C0]) g_95 z_95 z z fid<|(((((hj.e h0).c h1<|djs<|mm1 hf.lt s6.s).e s5).e s8).e s7).row 0 1 z)<|Rh z hc3 (lN (vs := (vR xk am nn co ap nq cr au ns ct av nw cx)) g_144 z_144 z z fid<|(h1l.e s7).row 0 8 z) ?_
     have he := m1<|lt_ hBw h1m
     obtain ⟨r2u, e2v, hm2w⟩ := bdS (ifT hm1o hc3)
     refine Eg z z hc3 z (fc call145 z<|W_w2p (B := B) e2v (lt_ hBw<|lt_ h1n s7.s) (((((hl.e h0).c h1<|lg he).e s5).e s8).e s7) h16 h1v h1w (((((h1x.e h0).c h1<|lg he).e s5).e s8).e s7) (((((h1y.e h0).c h1<|lg he).e s5).e s8).e s7) (((((h1z.e h0).c h1<|lg he).e s5).e s8).e s7)<|((((hg.e h0).c h1<|lg he).e s5).e s8).e s7) ?_
     rintro _ w4k ⟨s2x, rfl⟩
     exact R z (pT z hc3 z)<|Ra z<|Wl (fun _ q => ⟨r2u, som hm2w, (q.k<|s1 z), (bup s7 s2x)⟩)
    iterate 3 refine Nh z hc3 ?_
    exact R z (pF z hc3 z)<|Ra z<|Wl (fun _ q => ⟨false, som<|ifF hm1o hc3, (q.k<|s1 z), s7⟩)
   rintro a2y w4l ⟨x12, rfl, hS4m, s2z⟩
   revert a2y
   refine Wo ?_
   obtain rfl := som hm2r
   exact Wr<|ret1 hr z ⟨(bup (bup (bup (bM (bup (bup h2 s6) h0) h1<|m1<|lt_ h2.s s6.s) s5) s8) s2z), z⟩
  rintro r4n ex4o a4p w4q rfl ⟨rfl, hq30⟩
  have hm31 := elR hm1d
  obtain rfl := som hm31
  exact ⟨hq30, z⟩
 rintro r4r ex4s a4t w4u rfl ⟨rfl, hq32⟩
 have hm33 := elR hm18
 obtain rfl := som hm33
 exact ⟨hq32, z⟩
theorem W_w12 {x1 : Desc} {res : Bool} (hm : M_spec_IsValidDescription x1 = some res) (hBw : B ≤ w0.z) (p1_0 : repS w0 B (sl A0 N0 C0) x1.rules) : CallsR prog 99 [(.agg #[sl A0 N0 C0])] w0 (Q11 w0 B res) := by
 unfold M_spec_IsValidDescription at hm
 refine goF func99 z z (lb z) fun fn hr => Ws<|E z (fb z) ?_
 rintro _ w1 ⟨rfl, h8⟩
 have h0 := h8.below
 have h2 : Blk w1 w0.z [sl A0 N0 C0] := h8.blk
 refine Ra z<|Wn<|Wq<|Ws<|Ra z<|Wn ?_
 obtain ⟨us, hug, hm9⟩ := bdS hm
 refine Wf (σ := Unit) (ρ := Bool) (fun (ka : Nat) (_ : Unit) a w => Sat 19 [(1, pt w0.z), (3, (vI ((ka : Nat) : Int)))] a ∧ Below w1.z w1 w) (fun (_ : Unit) a w => Sat 19 [(1, pt w0.z)] a ∧ Below w1.z w1 w) (fun r ex a w => ex = .ret ∧ RetPost prog fn (Q11 w0 B r) a w) hug ?_ ?_ ?_ ?_ ?_
 ·exact fun _ q => ⟨(q.k<|s2 z z), (br w1)⟩
 ·rintro ka _ au wt ov hk5 ⟨hSh, s3⟩ hmi
  refine Wu ?_ hSh
  refine Wq<|Ws<|Rm z<|R z (fd f_95_0 z) ?_
  have hb := h2.e s3
  refine R z (l1 g_93 z fid<|hb.at z) ?_
  have hd := (p1_0.e h0).e s3
  refine R z (lnR d_93 z hd)<|R z (lss z z)<|Wn<|Wc z (fun _ => ?_) (fun hc => (nolt hk5 hc).elim)
  refine Wk<|Wq<|Wb<|Ws<|R z (lN (vs := [sl A0 N0 C0]) g_95 z_95 z z fid<|hb.row 0 1 z)<|Rm z ?_
  obtain ⟨rx, ej, hmc⟩ := bdS hmi
  refine E z (fc call124 z<|W_w2q (B := B) ej (lt_ hBw<|lt_ h0.s s3.s) hd<|ic (Nat.le_of_lt hk5)<|lt_ (repS.len p1_0) LEN_le) ?_
  rintro _ ww ⟨se, rfl⟩
  refine R z (not_ z)<|Wn<|Wc z (fun hc6 => ?_) (fun hc6 => ?_)
  ·exact Ws<|Ra z<|Wn<|Wr<|rtO<|qL (som<|ifT hmc hc6).symm<|ret1 hr z ⟨(bup (bup h0 s3) se), z⟩
  exact Wk<|Wg<|Rm z<|R z (inc_ hk5 (lt_ (repS.len p1_0) LEN_le) z z)<|Ra z<|Wl (fun _ q => ⟨(), (som<|ifF hmc hc6).symm, ⟨(q.k<|s2 z z), (bup s3 se)⟩⟩)
 ·rintro _ ay wz ⟨hSk, s7⟩
  refine Wu ?_ hSk
  refine Wq<|Ws<|Rm z<|R z (fd f_95_0 z)<|R z (l1 g_93 z fid<|(h2.e s7).at z)<|R z (lnR d_93 z<|(p1_0.e h0).e s7)<|R z (lss z z)<|Wn<|Wc z (fun hc => (noltt hc).elim) (fun _ => ?_)
  exact We (fun a' ha' => ⟨rfl, ⟨(Sat.weaken ha'<|s1 z), s7⟩⟩)
 ·rintro _ al w10 rfl ⟨hS11, s4⟩
  have hmm := elL hm9
  revert al
  refine Wo<|Ws<|R z (fd f_95_0 z)<|R z (l1 g_93 z fid<|(h2.e s4).at z) ?_
  have hf := (p1_0.e h0).e s4
  refine R z (lnR d_93 z hf) ?_
  obtain ⟨r12, en, hmo⟩ := bdS hmm
  refine E z (fc call97 z<|W_w00 (B := B) en (lt_ hBw<|lt_ h0.s s4.s) (inI_len<|repS.len hf) (ii z)<|ii z) ?_
  rintro _ w13 ⟨sp, rfl⟩
  refine Ra z<|Wn ?_
  obtain rfl := som hmo
  exact Wr<|ret1 hr z ⟨(bup (bup h0 s4) sp), z⟩
 rintro r14 ex15 a16 w17 rfl ⟨rfl, hqq⟩
 have hmr := elR hm9
 obtain rfl := som hmr
 exact ⟨hqq, z⟩
theorem W_w2r {x1 : Registry} {res : Bool} (hm : M_spec_IsValidRegistry x1 = some res) (hBw : B ≤ w0.z) (p1_0 : repS w0 B (sl A0 N0 C0) x1.versions) : CallsR prog 67 [(.agg #[sl A0 N0 C0])] w0 (Q11 w0 B res) := by
 unfold M_spec_IsValidRegistry at hm
 refine goF func67 z z (lb z) fun fn hr => Ws<|E z (fb z) ?_
 rintro _ w1 ⟨rfl, h7⟩
 have h0 := h7.below
 have h2 : Blk w1 w0.z [sl A0 N0 C0] := h7.blk
 refine Ra z<|Wn<|Wq<|Ws<|Ra z<|Wn ?_
 obtain ⟨uw, huf, hm8⟩ := bdS hm
 refine Wf (σ := Unit) (ρ := Bool) (fun (k9 : Nat) (_ : Unit) a w => Sat 22 [(1, pt w0.z), (3, (vI ((k9 : Nat) : Int)))] a ∧ Below w1.z w1 w) (fun (_ : Unit) a w => Sat 22 [(1, pt w0.z)] a ∧ Below w1.z w1 w) (fun r ex a w => ex = .ret ∧ RetPost prog fn (Q11 w0 B r) a w) huf ?_ ?_ ?_ ?_ ?_
 ·exact fun _ q => ⟨(q.k<|s2 z z), (br w1)⟩
 ·rintro k9 _ ax wy oz hka ⟨hSg, s3⟩ hmh
  refine Wu ?_ hSg
  refine Wq<|Ws<|Rm z<|R z (fd f_34_0 z) ?_
  have hb := h2.e s3
  refine R z (l1 g_32 z fid<|hb.at z) ?_
  have hd := (p1_0.e h0).e s3
  refine R z (lnR d_32 z hd)<|R z (lss z z)<|Wn<|Wc z (fun _ => ?_) (fun hc => (nolt hka hc).elim)
  refine Wk<|Wq<|Wb<|Ws<|R z (fd f_34_0 z)<|R z (l1 g_32 z fid<|hb.at z)<|Rm z ?_
  obtain ⟨x10, ei, hmj⟩ := bdS hmh
  refine RX z (at_ (α := Desc) d_32 z_95 z z z hd ei) ?_
  rintro _ ⟨b11, o12, cs13, rfl, hk, hl, h14⟩
  obtain ⟨am, nn, co, rfl, hp⟩ := Desc_open hl
  refine R z (lN (vs := [sl am nn co]) g_95 z_95 z z fid hk) ?_
  obtain ⟨r15, eq, hmc⟩ := bdS hmj
  refine E z (fc call99 z<|W_w12 (B := B) eq (lt_ hBw<|lt_ h0.s s3.s) hp) ?_
  rintro _ w16 ⟨se, rfl⟩
  refine R z (not_ z)<|Wn<|Wc z (fun hc4 => ?_) (fun hc4 => ?_)
  ·exact Ws<|Ra z<|Wn<|Wr<|rtO<|qL (som<|ifT hmc hc4).symm<|ret1 hr z ⟨(bup (bup h0 s3) se), z⟩
  exact Wk<|Wg<|Rm z<|R z (inc_ hka (lt_ (repS.len p1_0) LEN_le) z z)<|Ra z<|Wl (fun _ q => ⟨(), (som<|ifF hmc hc4).symm, ⟨(q.k<|s2 z z), (bup s3 se)⟩⟩)
 ·rintro _ a17 w18 ⟨hSr, s5⟩
  refine Wu ?_ hSr
  refine Wq<|Ws<|Rm z<|R z (fd f_34_0 z)<|R z (l1 g_32 z fid<|(h2.e s5).at z)<|R z (lnR d_32 z<|(p1_0.e h0).e s5)<|R z (lss z z)<|Wn<|Wc z (fun hc => (noltt hc).elim) (fun _ => ?_)
  exact We (fun a' ha' => ⟨rfl, ⟨(Sat.weaken ha'<|s1 z), s5⟩⟩)
 ·rintro _ au w19 rfl ⟨hS1a, s6⟩
  have hms := elL hm8
  revert au
  refine Wo<|Ws<|R z (fd f_34_0 z)<|R z (l1 g_32 z fid<|(h2.e s6).at z)<|R z (lnR d_32 z<|(p1_0.e h0).e s6)<|R z (rd_leq z z)<|Ra z<|Wn ?_
  obtain rfl := som hms
  exact Wr<|ret1 hr z ⟨(bup h0 s6), z⟩
 rintro r1b ex1c a1d w1e rfl ⟨rfl, hqt⟩
 have hmv := elR hm8
 obtain rfl := som hmv
 exact ⟨hqt, z⟩
def Q16 (w0 : World) (B : Nat) (r : (List StoredFile)) (v : Value) (w' : World) : Prop := Bw w0 w' ∧ (fun r1 => ∃ a1 n1 c1, (sl a1 n1 c1) = v ∧ repS w' w'.z (sl a1 n1 c1) r1) r
theorem W_w2s {x1 : List StoredFile} {x2 : Record} {res : (List StoredFile)} (hm : M_spec_l35Apply x1 x2 = some res) (hBw : B ≤ w0.z) (p1_0 : repS w0 B (sl A0 N0 C0) x1) (p2_0 : inI x2.kind) (p2_1 : x2.name.b.length ≤ LEN) (p2_2 : inI x2.version) (p2_3 : repS w0 B (sl AC NC CC) x2.data) : CallsR prog 98 [sl A0 N0 C0, (.agg #[vI x2.kind, Str.v x2.name, vI x2.version, sl AC NC CC])] w0 (Q16 w0 B res) := by
 unfold M_spec_l35Apply at hm
 refine goF func98 z z (lb z) fun fn hr => Ws<|E z (fb z) ?_
 rintro _ w3v ⟨rfl, h2a⟩
 have hd := h2a.below
 have ht : Blk w3v w0.z [vI x2.kind, Str.v x2.name, vI x2.version, sl AC NC CC] := h2a.blk
 refine Ra z<|Wn<|Ws<|E z (ef_lit0R (α := StoredFile) el_59 B) ?_
 rintro _ wh ⟨a2b, rfl, s2, h3w⟩
 refine Ra z<|Wn<|Wq ?_
 obtain ⟨u3x, hu1m, hm3y⟩ := bdS hm
 refine Wt (fun a w => ∃ (x8 : Str) (x9 : Int) (xw : List UInt8), (x8, x9, xw) = u3x ∧ ∃ am nn co Sx ga, Sat 61 [(0, sl A0 N0 C0), (3, pt w0.z), (5, sl a2b 0 0), (6, pt ga)] a ∧ Below wh.z wh w ∧ x8.b.length ≤ LEN ∧ inI x9 ∧ ownS w Sx (sl am nn co) xw ∧ Sx.Nodup ∧ (∀ k ∈ Sx, wh.z ≤ k) ∧ Blk w ga [Str.v x8, vI x9, sl am nn co] ∧ wh.z ≤ ga ∧ (∀ k ∈ Sx, k ∉ [ga])) ?_ ?_
 ·refine Wd (X := fun k => k ∈ ([] : List Nat) ∨ wh.z ≤ k) 1024 (.rd 0 (.rd 1 (.rd 2 (.rd 3 (.rd 5 (.rd 6 (.br 4 (.br 7 (.rd 8 (.ef 9 (.ef 10 .done))) 9 (.ef 7 (.rd 8 (.ef 10 .done)))) 9 (.ef 4 (.ef 7 (.rd 8 (.ef 10 .done))))))))))) mo (by kernel_rfl) fun wy s5 _ => dR z z (fd f_76_1 z) ?_
  have h1n := (ht.e s2).e s5
  refine dR z z (l1 g_9 z (notNew nm0<|Nat.lt_of_lt_of_le ht.lt s2.s)<|h1n.at z)<|dR z z (fd f_76_2 z)<|dR z z (l1 g_3 z (notNew nm0<|Nat.lt_of_lt_of_le ht.lt s2.s)<|h1n.at z)<|dR z z (fd f_76_3 z)<|dR z z (l1 g_25 z (notNew nm0<|Nat.lt_of_lt_of_le ht.lt s2.s)<|h1n.at z)<|PR_br ?_ ?_
  ·refine dE z z (f0 (α := UInt8) el_25) (.inr fun _ _ h => chgB (by obtain ⟨_, _, _, _, h, _⟩ := h; exact h)) ?_
   rintro _ w1o ⟨a7d, n7e, c7f, rfl, ss, h1p⟩
   refine PR_br ?_ ?_
   ·obtain ⟨x3z, e40, hm41⟩ := bdS hu1m
    have h42 : ∀ k ∈ [wy.z], k ∈ ([] : List Nat) ∨ wh.z ≤ k := mor s5.s
    refine dE z z (fN (α := UInt8) el_25 e40 z z h1p nd_one<|(((p2_3.e hd).e s2).e s5).e ss) (.inr fun _ _ h => by obtain ⟨_, _, _, _, _, h, _⟩ := h; exact h.mono fun k _ hk => h42 k hk) ?_
    rintro _ w2c ⟨S43, a1q, n1r, c1s, rfl, s2d, h2e, h44, h45⟩
    refine dR z z (bP (parts := [(0, (.tmp 11)), (1, (.tmp 13)), (2, (.tmp 17))]) (cs := [Str.v x2.name, vI x2.version, sl a1q n1r c1s]) build_63 z z)<|dE z z (fa zero_63) (.inr fun _ _ h => chgB<|h.2.below) ?_
    rintro _ w46 ⟨rfl, h2f⟩
    have h2g := h2f.below
    have h47 : Blk w46 w2c.z [(Str.v (⟨[]⟩ : Str)), vI 0, sl none 0 0] := h2f.blk
    have h2h := lt_ s5.s ss.s
    have h1t := m1<|lt_ h2h s2d.s
    refine dE0 z (fs (cur' := [Str.v x2.name, vI x2.version, sl a1q n1r c1s]) z_63 z z h47 z (lb z) (oA z) z) (.inr fun _ _ h => chgNew (atp h1t) h.2) ?_
    rintro _ w7g ⟨h48, s49⟩
    have h2i := s49.one
    refine pD ?_
    have h2j := mnr<|ownS.lt h2e
    have h2k := m1 s5.s
    exact fun _ q => ⟨x2.name, x2.version, x3z, som hm41, a1q, n1r, c1s, S43, w2c.z, (q.k<|s4 z z z z), (bM (bup (bM (bup s5 ss) s2d h2k) h2g) h2i h1t), p2_1, p2_2, ((h2e.e h2g).c h2i<|ds h2j), h44, (o1le h45 h2k h2h), h48, (atp h1t), (ds h2j)⟩
   refine dE z z (fa zero_63) (.inr fun _ _ h => chgB<|h.2.below) ?_
   rintro _ w4a ⟨rfl, h2l⟩
   have h12 := h2l.below
   have h2m : Blk w4a w1o.z [(Str.v (⟨[]⟩ : Str)), vI 0, sl none 0 0] := h2l.blk
   obtain ⟨x4b, e4c, hm4d⟩ := bdS hu1m
   have h4e : ∀ k ∈ [wy.z], k ∈ ([] : List Nat) ∨ wh.z ≤ k := mor s5.s
   refine dE z z (fN (α := UInt8) el_25 e4c z z (h1p.e h12) nd_one<|((((p2_3.e hd).e s2).e s5).e ss).e h12) (.inr fun _ _ h => by obtain ⟨_, _, _, _, _, h, _⟩ := h; exact h.mono fun k _ hk => h4e k hk) ?_
   rintro _ w7h ⟨S2n, a1u, n1v, c1w, rfl, s2o, h4f, h4g, h2p⟩
   refine dR z z (bP (parts := [(0, (.tmp 11)), (1, (.tmp 13)), (2, (.tmp 17))]) (cs := [Str.v x2.name, vI x2.version, sl a1u n1v c1w]) build_63 z z) ?_
   have h2q := mnr<|ownS.lt h1p
   have h2r := lt_ s5.s ss.s
   have h1x := m1 h2r
   refine dE0 z (fs (cur' := [Str.v x2.name, vI x2.version, sl a1u n1v c1w]) z_63 z z (h2m.c s2o<|atp h2q) z (lb z) (oA z) z) (.inr fun _ _ h => chgNew (atp h1x) h.2) ?_
   rintro _ w7i ⟨h4h, s4i⟩
   have h2s := s4i.one
   refine pD ?_
   have h2t : ∀ k ∈ S2n, k ∉ [w1o.z] := or1 h2p (ds h2q) (ltnot (mem1 h2m.lt) lr)
   have h2u := m1 s5.s
   exact fun _ q => ⟨x2.name, x2.version, x4b, som hm4d, a1u, n1v, c1w, S2n, w1o.z, (q.k<|s4 z z z z), (bM (bM (bup (bup s5 ss) h12) s2o h2u) h2s h1x), p2_1, p2_2, (h4f.c h2s h2t), h4g, (o1le h2p h2u<|lt_ h2r h12.s), h4h, (atp h1x), h2t⟩
  refine dE z z (fa zero_63) (.inr fun _ _ h => chgB<|h.2.below) ?_
  rintro _ w2v ⟨rfl, h2w⟩
  have h1y := h2w.below
  have h1z : Blk w2v wy.z [(Str.v (⟨[]⟩ : Str)), vI 0, sl none 0 0] := h2w.blk
  refine dE z z (f0 (α := UInt8) el_25) (.inr fun _ _ h => chgB (by obtain ⟨_, _, _, _, h, _⟩ := h; exact h)) ?_
  rintro _ w7j ⟨a7k, n7l, c7m, rfl, sz, h4j⟩
  obtain ⟨x4k, e4l, hm4m⟩ := bdS hu1m
  have h20 := lt_ s5.s h1y.s
  have h4n : ∀ k ∈ [w2v.z], k ∈ ([] : List Nat) ∨ wh.z ≤ k := mor h20
  refine dE z z (fN (α := UInt8) el_25 e4l z z h4j nd_one<|((((p2_3.e hd).e s2).e s5).e h1y).e sz) (.inr fun _ _ h => by obtain ⟨_, _, _, _, _, h, _⟩ := h; exact h.mono fun k _ hk => h4n k hk) ?_
  rintro _ w7n ⟨S2x, a21, n22, c23, rfl, s2y, h4o, h4p, h2z⟩
  refine dR z z (bP (parts := [(0, (.tmp 11)), (1, (.tmp 13)), (2, (.tmp 17))]) (cs := [Str.v x2.name, vI x2.version, sl a21 n22 c23]) build_63 z z) ?_
  have h30 := mmr h1z.lt
  have h24 := m1 s5.s
  refine dE0 z (fs (cur' := [Str.v x2.name, vI x2.version, sl a21 n22 c23]) z_63 z z ((h1z.e sz).c s2y<|djs h30) z (lb z) (oA z) z) (.inr fun _ _ h => chgNew (atp h24) h.2) ?_
  rintro _ w7o ⟨h4q, s4r⟩
  have h31 := s4r.one
  refine pD ?_
  have h32 : ∀ k ∈ S2x, k ∉ [wy.z] := or1 h2z h30 (ltnot (mem1 h1z.lt) sz.s)
  have h33 := m1 h20
  exact fun _ q => ⟨x2.name, x2.version, x4k, som hm4m, a21, n22, c23, S2x, wy.z, (q.k<|s4 z z z z), (bM (bM (bup (bup s5 h1y) sz) s2y h33) h31 h24), p2_1, p2_2, (h4o.c h31 h32), h4p, (o1le h2z h33<|lt_ h20 sz.s), h4q, (atp h24), h32⟩
 rintro a4s w3 ⟨x8, x9, xw, rfl, am, nn, co, Sx, ga, hS7p, sc, h34, h35, hu, h7q, h7r, h36, h7s, h7t⟩
 have hm4t := un3S hm3y
 revert a4s
 refine Wo<|Ws<|Ra z<|Wn<|Wq<|Ws<|Ra z<|Wn ?_
 obtain ⟨u7u, hu4u, hm37⟩ := bdS hm4t
 refine Wf (σ := (List StoredFile) × Bool) (ρ := (List StoredFile)) (fun (k13 : Nat) s a w => un2 (fun xi xe => ∃ a4 n6 c7 S0, Sat 61 [(0, sl A0 N0 C0), (3, pt w0.z), (5, sl a4 n6 c7), (6, pt ga), (7, vB xe), (8, (vI ((k13 : Nat) : Int)))] a ∧ Below w3.z w3 w ∧ shrS w S0 w3.z (sl a4 n6 c7) xi ∧ S0.Nodup ∧ (∀ k ∈ S0, w3.z ≤ k)) s) (fun s a w => un2 (fun xi xe => ∃ a4 n6 c7 S0, Sat 61 [(3, pt w0.z), (5, sl a4 n6 c7), (6, pt ga), (7, vB xe)] a ∧ Below w3.z w3 w ∧ shrS w S0 w3.z (sl a4 n6 c7) xi ∧ S0.Nodup ∧ (∀ k ∈ S0, w3.z ≤ k)) s) (fun r ex a w => ex = .ret ∧ RetPost prog fn (Q16 w0 B r) a w) hu4u ?_ ?_ ?_ ?_ ?_
 ·exact fun _ q => ⟨a2b, 0, 0, ([] : List Nat), (q.k<|s6 z z z z z z), (br w3), (shrS.mono (h3w.e sc)<|lt_ hBw<|lt_ (lt_ hd.s s2.s) sc.s), nd_nil, an_⟩
 ·rintro k13 ⟨xi, xe⟩ a7v w7w o7x hk38 ⟨a4, n6, c7, S0, hS4v, sp, hj, hl, hf⟩ hm4w
  have hm4x := un2S hm4w
  refine Wu ?_ hS4v
  refine Wq<|Ws<|Rm z<|Rm z ?_
  have h39 := (((p1_0.e hd).e s2).e sc).e sp
  refine R z (lnR d_59 z h39)<|R z (lss z z)<|Wn<|Wc z (fun _ => ?_) (fun hc => (nolt hk38 hc).elim)
  refine Wk<|Wq<|Wb<|Wb<|Wq (Wd (X := noX) 0 (.rd 0 (.rd 1 (.rd 2 (.rd 3 (.rd 4 (.rd 5 (.rd 6 (.rd 7 (.rd 8 .done))))))))) mo (by kernel_rfl) fun w1 sb _ => dR z z (mv z)<|dR z z (mv z) ?_)
  obtain ⟨x7y, e4y, hm4z⟩ := bdS hm4x
  have h3a := h39.e sb
  refine dRX z z (at_ (α := StoredFile) d_59 z_63 z z z h3a e4y) ?_
  rintro _ ⟨b7z, o80, cs81, rfl, h50, h51, h82⟩
  obtain ⟨a83, n84, c85, rfl, h86, h87, h88⟩ := StoredFile_open h51
  refine dR z z (fd f_63_0 z)<|dR z z (l1 g_9 z fid<|h50.at (j := 0) z)<|dR z z (fd f_76_1 z) ?_
  have h3b := (((ht.e s2).e sc).e sp).e sb
  refine dR z z (l1 g_9 z fid<|h3b.at z)<|dR z z (rd_neqT z z)<|dR z z (asg z)<|pD<|Wo ?_
  obtain ⟨u52, hu3c, hm53⟩ := bdS hm4z
  refine Wt (fun a w => ∃ (x14 : List StoredFile) (x15 : Bool), (x14, x15) = u52 ∧ ∃ a16 n17 c18 S10, Sat 61 [(0, sl A0 N0 C0), (3, pt w0.z), (5, sl a16 n17 c18), (6, pt ga), (7, vB x15), (8, (vI ((k13 : Nat) : Int)))] a ∧ Chg (· ∈ S0) w1 w ∧ shrS w S10 w3.z (sl a16 n17 c18) x14 ∧ S10.Nodup ∧ (∀ k ∈ S10, k ∈ S0 ∨ w1.z ≤ k)) ?_ ?_
  ·refine Wc z (fun hc25 => ?_) (fun hc25 => ?_)
   ·refine Wg<|Rm z<|Rm z<|Rm z ?_
    obtain ⟨x11, e54, hm55⟩ := bdS (ifT hu3c hc25)
    refine RX z (at_ (α := StoredFile) d_59 z_63 z z z h3a e54) ?_
    rintro _ ⟨b89, o8a, cs8b, rfl, h56, h57, h8c⟩
    obtain ⟨a3d, n3e, c3f, rfl, h58, h59, h5a⟩ := StoredFile_open h57
    refine R z (lN (vs := [Str.v x11.name, vI x11.version, sl a3d n3e c3f]) g_63 z_63 z z fid h56)<|E z (fS [(.tmp 38)] el_59 z z z (szAll z) (lb z)<|lb z) ?_
    rintro _ w3g ⟨rfl, h3h⟩
    have h19 := h3h.below
    have h5b : Blk w3g w1.z [Str.v x11.name, vI x11.version, sl a3d n3e c3f] := h3h.blk
    obtain ⟨x5c, e5d, hm5e⟩ := bdS hm55
    refine E z (ef_pushR (α := StoredFile) el_59 e5d z z ((hj.e sb).e h19) hl h5b (StoredFile_mk (x := x11) h58 h59<|repS.mono (h5a.e h19)<|lt_ hBw<|lt_ (lt_ hd.s s2.s) sc.s) hf) ?_
    rintro _ w5f ⟨S3i, a5g, n5h, c5i, rfl, s5j, h5k, h5l, h5m⟩
    refine Ra z<|Wl ?_
    have h5n : ∀ k ∈ S3i, k ∈ S0 ∨ w1.z ≤ k := or1 h5m (io sr) (leor h19.s)
    have h5o : Chg (· ∈ S0) w1 w3g := cext (cr S0 w1) h19
    have h5p : Chg (· ∈ S0) w1 w5f := cM h5o s5j (io sr)
    exact fun _ q => ⟨x5c, xe, som hm5e, a5g, n5h, c5i, S3i, (q.k<|s6 z z z z z z), h5p, h5k, h5l, h5n⟩
   refine Ws<|R z (fd f_76_0 z)<|R z (l1 g_3 z fid<|h3b.at z)<|R z (eql z z)<|Ra z<|Wn ?_
   obtain ⟨u5q, hu3j, hm5r⟩ := bdS (ifF hu3c hc25)
   refine Wt (fun a w => ∃ (x1a : List StoredFile) (x1b : Bool), (x1a, x1b) = u5q ∧ ∃ a1c n1d c1e Sr, Sat 61 [(0, sl A0 N0 C0), (3, pt w0.z), (5, sl a1c n1d c1e), (6, pt ga), (7, vB x1b), (8, (vI ((k13 : Nat) : Int)))] a ∧ Chg (· ∈ S0) w1 w ∧ shrS w Sr w3.z (sl a1c n1d c1e) x1a ∧ Sr.Nodup ∧ (∀ k ∈ Sr, k ∈ S0 ∨ w1.z ≤ k)) ?_ ?_
   ·refine Wc z (fun hc26 => ?_) (fun hc26 => ?_)
    ·refine Ws<|Rm z<|R z (lN (vs := [Str.v x8, vI x9, sl am nn co]) g_63 z_63 z z fid<|((h36.e sp).e sb).row 0 3 z)<|E z (fS [(.tmp 46)] el_59 z z z (szAll z) (lb z)<|lb z) ?_
     rintro _ w3k ⟨rfl, h3l⟩
     have h1f := h3l.below
     have h5s : Blk w3k w1.z [Str.v x8, vI x9, sl am nn co] := h3l.blk
     have h8d := (hu.e sp).e sb
     obtain ⟨x5t, e5u, hm5v⟩ := bdS (ifT hu3j hc26)
     refine E z (ef_pushR (α := StoredFile) el_59 e5u z z ((hj.e sb).e h1f) hl h5s (StoredFile_mk (x := (⟨x8, x9, xw⟩ : StoredFile)) h34 h35<|or_ (((hu.e sp).e sb).e h1f)<|ownS.lt hu) hf) ?_
     rintro _ w5w ⟨S3m, a5x, n5y, c5z, rfl, s60, h61, h62, h63⟩
     refine Ra z<|Wn<|Wg<|Ra z<|Wl ?_
     have h64 : ∀ k ∈ S3m, k ∈ S0 ∨ w1.z ≤ k := or1 h63 (io sr) (leor h1f.s)
     have h65 : Chg (· ∈ S0) w1 w3k := cext (cr S0 w1) h1f
     have h66 : Chg (· ∈ S0) w1 w5w := cM h65 s60 (io sr)
     exact fun _ q => ⟨x5t, true, som hm5v, a5x, n5y, c5z, S3m, (q.k<|s6 z z z z z z), h66, h61, h62, h64⟩
    exact WC_skip (fun _ q => ⟨xi, xe, som<|ifF hu3j hc26, a4, n6, c7, S0, (q.k<|s6 z z z z z z), (cr S0 w1), (hj.e sb), hl, (io sr)⟩)
   rintro a67 w68 ⟨x1a, x1b, rfl, a1c, n1d, c1e, Sr, hS8e, s69, h6a, h6b, h6c⟩
   have hm6d := un2S hm5r
   revert a67
   have h6e : ∀ k ∈ Sr, k ∈ S0 ∨ w1.z ≤ k := or1 h6c (io sr) (leor lr)
   have h6f : Chg (· ∈ S0) w1 w68 := cM (cr S0 w1) s69 (io sr)
   exact fun _ q => ⟨x1a, x1b, som hm6d, a1c, n1d, c1e, Sr, (q.k<|s6 z z z z z z), h6f, h6a, h6b, h6e⟩
  rintro a6g w8f ⟨x14, x15, rfl, a16, n17, c18, S10, hS8g, s6h, h6i, h6j, h6k⟩
  have hm6l := un2S hm53
  revert a6g
  exact Wo<|Wg<|Rm z<|R z (inc_ hk38 (lt_ (repS.len p1_0) LEN_le) z z)<|Ra z<|Wl (fun _ q => ⟨(x14, x15), (som hm6l).symm, ⟨a16, n17, c18, S10, (q.k<|s6 z z z z z z), (bM (bup sp sb) s6h hf), h6i, h6j, (o1le h6k hf<|lt_ sp.s sb.s)⟩⟩)
 ·rintro ⟨xi, xe⟩ a8h w8i ⟨a4, n6, c7, S0, hS6m, s3n, hj, hl, hf⟩
  refine Wu ?_ hS6m
  refine Wq<|Ws<|Rm z<|Rm z<|R z (lnR d_59 z<|(((p1_0.e hd).e s2).e sc).e s3n)<|R z (lss z z)<|Wn<|Wc z (fun hc => (noltt hc).elim) (fun _ => ?_)
  exact We (fun a' ha' => ⟨rfl, ⟨a4, n6, c7, S0, (Sat.weaken ha'<|s4 z z z z), s3n, hj, hl, hf⟩⟩)
 ·rintro ⟨xi, xe⟩ a6n w1g rfl ⟨a4, n6, c7, S0, hS8j, sv, hj, hl, hf⟩
  have hm6o := elL hm37
  have hm6p := un2S hm6o
  revert a6n
  refine Wo<|Wq<|Wq ?_
  obtain ⟨u6q, hu3o, hm6r⟩ := bdS hm6p
  refine Wt (fun a w => ∃ (x27 : Bool), x27 = u6q ∧ Sat 61 [(5, sl a4 n6 c7), (6, pt ga), (55, vB x27)] a ∧ Below w1g.z w1g w) ?_ ?_
  ·refine Wg<|R z (fd f_76_0 z)<|R z (l1 g_3 z fid<|(((ht.e s2).e sc).e sv).at z)<|R z (eql z z)<|Rm z ?_
   rcases bs (x2.kind == 1) with hcg | hcg
   ·exact Rh z hcg (mv z)<|Rh z hcg (not_ z)<|R z (pT z hcg z)<|Wl (fun _ q => ⟨!xe, som<|ifT hu3o hcg, (q.k<|s3 z z z), (br w1g)⟩)
   exact Nh z hcg<|Nh z hcg<|R z (pF z hcg z)<|Wl (fun _ q => ⟨false, som<|ifF hu3o hcg, (q.k<|s3 z z z), (br w1g)⟩)
  rintro a6s wk ⟨x27, rfl, hS8k, sq⟩
  revert a6s
  refine Wo ?_
  obtain ⟨u6t, hu3p, hm6u⟩ := bdS hm6r
  refine Wt (fun a w => ∃ (x28 : List StoredFile), x28 = u6t ∧ ∃ a1h n1i c1j S1k, Sat 61 [(5, sl a1h n1i c1j)] a ∧ Chg (· ∈ S0) wk w ∧ shrS w S1k w3.z (sl a1h n1i c1j) x28 ∧ S1k.Nodup ∧ (∀ k ∈ S1k, k ∈ S0 ∨ wk.z ≤ k)) ?_ ?_
  ·refine Wc z (fun hc29 => ?_) (fun hc29 => ?_)
   ·refine Wg<|Rm z<|R z (lN (vs := [Str.v x8, vI x9, sl am nn co]) g_63 z_63 z z fid<|((h36.e sv).e sq).row 0 3 z)<|E z (fS [(.tmp 57)] el_59 z z z (szAll z) (lb z)<|lb z) ?_
    rintro _ w3q ⟨rfl, h3r⟩
    have h1l := h3r.below
    have h6v : Blk w3q wk.z [Str.v x8, vI x9, sl am nn co] := h3r.blk
    have h8l := (hu.e sv).e sq
    obtain ⟨x6w, e6x, hm6y⟩ := bdS (ifT hu3p hc29)
    refine E z (ef_pushR (α := StoredFile) el_59 e6x z z ((hj.e sq).e h1l) hl h6v (StoredFile_mk (x := (⟨x8, x9, xw⟩ : StoredFile)) h34 h35<|or_ (((hu.e sv).e sq).e h1l)<|ownS.lt hu) hf) ?_
    rintro _ w6z ⟨S3s, a70, n71, c72, rfl, s73, h74, h75, h76⟩
    refine Ra z<|Wl ?_
    have h77 : ∀ k ∈ S3s, k ∈ S0 ∨ wk.z ≤ k := or1 h76 (io sr) (leor h1l.s)
    have h78 : Chg (· ∈ S0) wk w3q := cext (cr S0 wk) h1l
    have h79 : Chg (· ∈ S0) wk w6z := cM h78 s73 (io sr)
    exact fun _ q => ⟨x6w, som hm6y, a70, n71, c72, S3s, (q.k<|s1 z), h79, h74, h75, h77⟩
   exact WC_skip (fun _ q => ⟨xi, som<|ifF hu3p hc29, a4, n6, c7, S0, (q.k<|s1 z), (cr S0 wk), (hj.e sq), hl, (io sr)⟩)
  rintro a7a w8m ⟨x28, rfl, a1h, n1i, c1j, S1k, hS8n, s3t, h3u, h8o, h8p⟩
  revert a7a
  refine Wo<|Ws<|Rm z<|Ra z<|Wn ?_
  obtain rfl := som hm6u
  exact Wr<|ret1 hr z ⟨(bM (bup (bup (bup (bup hd s2) sc) sv) sq) s3t<|o0le hf<|lt_ (lt_ hd.s s2.s) sc.s), a1h, n1i, c1j, z, (shrS.rep h3u (shrS.lt h3u)<|lt_ (lt_ sv.s sq.s) s3t.s)⟩
 rintro r8q ex8r a8s w8t rfl ⟨rfl, hq7b⟩
 have hm7c := elR hm37
 obtain rfl := som hm7c
 exact ⟨hq7b, z⟩
theorem W_w2t {x1 : List UInt8} {res : (List StoredFile)} (hm : M_spec_l35Files n x1 = some res) (hBw : B ≤ w0.z) (p1_0 : repS w0 B (sl A0 N0 C0) x1) : CallsR prog 66 [sl A0 N0 C0] w0 (Q16 w0 B res) := by
 unfold M_spec_l35Files at hm
 refine goF func66 z z (lb z) fun fn hr => Ws<|Ra z<|Wn<|Ws<|E z (f0 (α := StoredFile) el_59) ?_
 rintro _ w1i ⟨ah, ni, cj, rfl, s8, h9⟩
 refine Ra z<|Wn<|Ws<|Rm z ?_
 obtain ⟨r1j, r1k, ek, hml⟩ := bd2S hm
 refine E z (fc call68 z<|W_w09 (B := B) ek (lt_ hBw s8.s)<|p1_0.e s8) ?_
 rintro _ w5 ⟨s7, am, nn, co, S1l, rfl, h3, h1m, h1n, h1o⟩
 refine Rm z<|R z (ext_ z z)<|R z (ext_ z z)<|Ra z<|Ra z<|Wn<|Wq<|Ws<|Ra z<|Wn ?_
 have h1p := h9.e s7
 obtain ⟨u1q, hup, hmc⟩ := bdS hml
 refine Wf (σ := (List StoredFile)) (ρ := (List StoredFile)) (fun (kd : Nat) (x4 : List StoredFile) a w => ∃ a0 n1 c2, Sat 26 [(3, sl a0 n1 c2), (4, sl am nn co), (6, (vI ((kd : Nat) : Int)))] a ∧ Below w5.z w5 w ∧ repS w w.z (sl a0 n1 c2) x4) (fun (x4 : List StoredFile) a w => ∃ a0 n1 c2, Sat 26 [(3, sl a0 n1 c2)] a ∧ Below w5.z w5 w ∧ repS w w.z (sl a0 n1 c2) x4) (fun r ex a w => ex = .ret ∧ RetPost prog fn (Q16 w0 B r) a w) hup ?_ ?_ ?_ ?_ ?_
 ·exact fun _ q => ⟨ah, ni, cj, (q.k<|s3 z z z), (br w5), (repS.mono (or_ (h9.e s7)<|ownS.lt h9) s7.s)⟩
 ·rintro kd x4 a1r wq o1s hke ⟨a0, n1, c2, hSr, sa, h6⟩ hms
  refine Wu ?_ hSr
  refine Wq<|Ws<|Rm z<|Rm z ?_
  have hf := h3.e sa
  refine R z (lnR d_89 z<|or_ hf<|ownS.lt h3)<|R z (lss z z)<|Wn<|Wc z (fun _ => ?_) (fun hc => (nolt hke hc).elim)
  refine Wk<|Wq<|Wb<|Wg<|Rm z<|Rm z<|Rm z ?_
  obtain ⟨xb, et, hmu⟩ := bdS hms
  refine RX z (at_ (α := Record) d_89 z_76 z z z (or_ hf<|ownS.lt h3) et) ?_
  rintro _ ⟨b1t, o1u, cs1v, rfl, hv, hw, h1w⟩
  obtain ⟨ax, ny, cz, rfl, h10, h11, h12, h13⟩ := Record_open hw
  refine R z (lN (vs := [vI xb.kind, Str.v xb.name, vI xb.version, sl ax ny cz]) g_76 z_76 z z fid hv) ?_
  obtain ⟨r14, e15, hm16⟩ := bdS hmu
  refine E z (fc call98 z<|W_w2s (B := wq.z) e15 lr h6 h10 h11 h12<|repS.mono h13 sa.s) ?_
  rintro _ w1x ⟨s17, a18, n19, c1a, rfl, h1b⟩
  exact Ra z<|Wn<|Wg<|Rm z<|R z (inc_ hke (lt_ (ownS.len h3) LEN_le) z z)<|Ra z<|Wl (fun _ q => ⟨r14, (som hm16).symm, ⟨a18, n19, c1a, (q.k<|s3 z z z), (bup sa s17), h1b⟩⟩)
 ·rintro x4 a1y w1z ⟨a0, n1, c2, hS1c, sg, h6⟩
  refine Wu ?_ hS1c
  refine Wq<|Ws<|Rm z<|Rm z<|R z (lnR d_89 z<|or_ (h3.e sg)<|ownS.lt h3)<|R z (lss z z)<|Wn<|Wc z (fun hc => (noltt hc).elim) (fun _ => ?_)
  exact We (fun a' ha' => ⟨rfl, ⟨a0, n1, c2, (Sat.weaken ha'<|s1 z), sg, h6⟩⟩)
 ·rintro x4 a1d w20 rfl ⟨a0, n1, c2, hS21, s1e, h6⟩
  have hm1f := elL hmc
  revert a1d
  refine Wo<|Ws<|Rm z<|Ra z<|Wn ?_
  obtain rfl := som hm1f
  exact Wr<|ret1 hr z ⟨(bup (bup s8 s7) s1e), a0, n1, c2, z, h6⟩
 rintro r22 ex23 a24 w25 rfl ⟨rfl, hq1g⟩
 have hm1h := elR hmc
 obtain rfl := som hm1h
 exact ⟨hq1g, z⟩
theorem W_w13 {x1 : Desc} {res : Int} (hm : M_spec_RootOf x1 = some res) (hBw : B ≤ w0.z) (p1_0 : repS w0 B (sl A0 N0 C0) x1.rules) : CallsR prog 129 [(.agg #[sl A0 N0 C0])] w0 (Q0 w0 B res) := by
 unfold M_spec_RootOf at hm
 refine goF func129 z z (lb z) fun fn hr => Ws<|E z (fb z) ?_
 rintro _ w2 ⟨rfl, h0⟩
 have h1 := h0.below
 have h3 : Blk w2 w0.z [sl A0 N0 C0] := h0.blk
 refine Ra z<|Wn<|Ws<|R z (fd f_95_0 z)<|R z (l1 g_93 z fid<|h3.at z)<|R z (lnR d_93 z<|p1_0.e h1)<|R z (sb_ z z)<|Ra z<|Wn ?_
 obtain rfl := som hm
 exact Wr<|ret1 hr z ⟨h1, z, (iS _ _)⟩
theorem W_w2u {x1 : Desc} {x2 : Int} {res : Bool} (hm : M_spec_l7Rule x1 x2 = some res) (hBw : B ≤ w0.z) (p1_0 : repS w0 B (sl A0 N0 C0) x1.rules) (p2_0 : inI x2) : CallsR prog 146 [(.agg #[sl A0 N0 C0]), vI x2] w0 (Q11 w0 B res) := by
 unfold M_spec_l7Rule at hm
 refine goF func146 z z (lb z) fun fn hr => Ws<|E z (fb z) ?_
 rintro _ w3 ⟨rfl, h5⟩
 have h1 := h5.below
 have h6 : Blk w3 w0.z [sl A0 N0 C0] := h5.blk
 refine Ra z<|Wn<|Wq ?_
 obtain ⟨u9, hua, hmb⟩ := bdS hm
 refine Wt (fun a w => ∃ (x4 : Bool), x4 = u9 ∧ Sat 15 [(4, vB x4)] a ∧ Below w3.z w3 w) ?_ ?_
 ·refine Wg<|Rm z<|R z (fd f_95_0 z)<|R z (l1 g_93 z fid<|h6.at z) ?_
  have h7 := p1_0.e h1
  refine R z (lnR d_93 z h7)<|R z (sb_ z z) ?_
  obtain ⟨rc, ed, hm8⟩ := bdS hua
  refine E z (fc call97 z<|W_w00 (B := B) ed (lt_ hBw h1.s) p2_0 (ii z)<|iS _ _) ?_
  rintro _ wk ⟨s2, rfl⟩
  refine Rm z ?_
  rcases bs rc with hc0 | hc0
  ·refine Rh z hc0 (lN (vs := [sl A0 N0 C0]) g_95 z_95 z z fid<|(h6.e s2).row 0 1 z) ?_
   obtain ⟨re, ef, hmg⟩ := bdS (ifT hm8 hc0)
   refine Eg z z hc0 z (fc call99 z<|W_w12 (B := B) ef (lt_ hBw<|lt_ h1.s s2.s)<|h7.e s2) ?_
   rintro _ wl ⟨sh, rfl⟩
   exact R z (pT z hc0 z)<|Ra z<|Wl (fun _ q => ⟨re, som hmg, (q.k<|s1 z), (bup s2 sh)⟩)
  exact Nh z hc0<|Nh z hc0<|R z (pF z hc0 z)<|Ra z<|Wl (fun _ q => ⟨false, som<|ifF hm8 hc0, (q.k<|s1 z), s2⟩)
 rintro ai wm ⟨x4, rfl, hSn, sj⟩
 revert ai
 refine Wo ?_
 obtain rfl := som hmb
 exact Wr<|ret1 hr z ⟨(bup h1 sj), z⟩
def Q17 (w0 : World) (B : Nat) (r : Int × Int × Bool) (v : Value) (w' : World) : Prop := Bw w0 w' ∧ un3 (fun r1 r2 r3 => v = .tuple #[vI r1, vI r2, vB r3] ∧ inI r1 ∧ inI r2) r
theorem W_w0g {x1 : Desc} {x2 : Int} {x3 : List UInt8} {x4 : Int} {res : Int × Int × Bool} (hm : M_spec_l11Integer x1 x2 x3 x4 = some res) (hBw : B ≤ w0.z) (p1_0 : repS w0 B (sl A0 N0 C0) x1.rules) (p2_0 : inI x2) (p3_0 : repS w0 B (sl A9 N9 C9) x3) (p4_0 : inI x4) : CallsR prog 166 [(.agg #[sl A0 N0 C0]), vI x2, sl A9 N9 C9, vI x4] w0 (Q17 w0 B res) := by
 unfold M_spec_l11Integer at hm
 refine goF func166 z z (lb z) fun fn hr => Ws<|E z (fb z) ?_
 rintro _ w6 ⟨rfl, h7⟩
 have h0 := h7.below
 have hq : Blk w6 w0.z [sl A0 N0 C0] := h7.blk
 refine Ra z<|Ra z<|Ra z<|Wn<|Ws<|R z (fd f_95_0 z)<|R z (l1 g_93 z fid<|hq.at z)<|Rm z ?_
 obtain ⟨x8, em, hm9⟩ := bdS hm
 refine RX z (at_ (α := Rule) d_93 z_144 z z z (p1_0.e h0) em) ?_
 rintro _ ⟨b13, o14, cs15, rfl, ht, hu, h16⟩
 obtain ⟨aa, nb, cc, ad, ne, cf, ag, nh, ci, aj, nk, cl, rfl, h17, h18, h19, h1a, h1b, h1c, h1d⟩ := Rule_open hu
 refine R z (lN (vs := (vR x8 aa nb cc ad ne cf ag nh ci aj nk cl)) g_144 z_144 z z fid ht)<|E z (fa zero_144) ?_
 rintro _ wr ⟨rfl, hn⟩
 have h1 := hn.below
 have hv : Blk wr w6.z [(Str.v (⟨[]⟩ : Str)), vI 0, vI 0, vB false, sl none 0 0, sl none 0 0, sl none 0 0, sl none 0 0] := hn.blk
 refine E0 (fs (cur' := (vR x8 aa nb cc ad ne cf ag nh ci aj nk cl)) z_144 z z hv z (lb z) (oA z) z) ?_
 rintro _ w1e ⟨ho, ss⟩
 have h2 := ss.one
 refine Wn<|Wq<|Ws<|Rm z ?_
 have hp := ((p3_0.e h0).e h1).c h2<|lg<|m1<|lt_ hBw h0.s
 refine R z (lnR d_25 z hp)<|Rm z<|R z (sb_ z z)<|R z (fd f_144_2 z)<|R z (l1 g_3 z fid<|ho.at z)<|R z (lss z z)<|Wn<|Wc z (fun hc4 => ?_) (fun hc4 => ?_)
 ·refine Ws<|Rm z<|Ra z<|Ra z<|Ra z<|Wn ?_
  obtain rfl := som (ifT hm9 hc4)
  exact Wr<|ret3 hr z z z ⟨(bM (bup h0 h1) h2<|m1 h0.s), z, (ii z), p4_0⟩
 refine Wk<|Wq (Wd (X := noX) 0 (.rd 0 (.rd 1 (.rd 2 (.rd 3 (.rd 4 (.rd 5 (.rd 6 (.rd 7 (.rd 8 (.rd 10 (.rd 11 (.rd 12 (.rd 13 (.ef 9 (.rd 14 (.rd 15 (.rd 16 .done))))))))))))))))) mo (by kernel_rfl) fun w1f s3 _ => ?_)
 iterate 3 refine dR z z (mv z) ?_
 refine dR z z (fd f_144_2 z) ?_
 have h5 := ho.e s3
 refine dR z z (l1 g_3 z fid<|h5.at z)<|dR z z (add_ z z) ?_
 obtain ⟨x1g, ew, hmx⟩ := bdS (ifF hm9 hc4)
 refine dRX z z (rX d_25 z_5 z z (hp.e s3) z z ew) ?_
 rintro _ ⟨a1h, n1i, c1j, rfl, hy⟩
 refine dR z z (fd f_144_3 z)<|dR z z (l1 g_4 z fid<|h5.at z)<|dR z z (mv z)<|dR z z (fd f_144_2 z)<|dR z z (l1 g_3 z fid<|h5.at z)<|dR z z (add_ z z) ?_
 obtain ⟨r1k, ez, hm10⟩ := bdS hmx
 refine dE z z (fc call125 z<|W_w0v (B := B) ez (lt_ hBw<|lt_ (lt_ (lt_ h0.s h1.s) h2.s) s3.s) hy) (.inr fun _ _ h => chgB<|h.1) ?_
 rintro _ w1l ⟨s11, rfl, h12⟩
 iterate 3 refine dR z z (asg z) ?_
 refine pD<|Wo ?_
 obtain rfl := som hm10
 exact Wr<|ret3 hr z z z ⟨(bup (bup (bM (bup h0 h1) h2<|m1 h0.s) s3) s11), z, h12, (iA _ _)⟩
def Q18 (w0 : World) (B : Nat) (r : Val × Int × Int) (v : Value) (w' : World) : Prop := Bw w0 w' ∧ un3 (fun r1 r2 r3 => ∃ a1 n1 c1 S1 a2 n2 c2 S2, v = .tuple #[(.agg #[vI r1.number, sl a1 n1 c1, sl a2 n2 c2]), vI r2, vI r3] ∧ inI r1.number ∧ ownS w' S1 (sl a1 n1 c1) r1.bytes ∧ ownS w' S2 (sl a2 n2 c2) r1.items ∧ inI r2 ∧ inI r3 ∧ (S1 ++ S2).Nodup ∧ (∀ k ∈ (S1 ++ S2), w0.z ≤ k)) r
theorem W_w2v {x1 : Rule} {x2 : List UInt8} {x3 : Int} {res : Val × Int × Int} (hm : M_spec_l11Const x1 x2 x3 = some res) (hBw : B ≤ w0.z) (p1_0 : x1.name.b.length ≤ LEN) (p1_1 : inI x1.kind) (p1_2 : inI x1.size) (p1_4 : repS w0 B (sl AB NB CB) x1.bytes) (p1_5 : repS w0 B (sl A7 N7 C7) x1.names) (p1_6 : repS w0 B (sl AA NA CA) x1.tags) (p1_7 : repS w0 B (sl A8 N8 C8) x1.kids) (p2_0 : repS w0 B (sl A6 N6 C6) x2) (p3_0 : inI x3) : CallsR prog 167 [(.agg #[Str.v x1.name, vI x1.kind, vI x1.size, vB x1.little, sl AB NB CB, sl A7 N7 C7, sl AA NA CA, sl A8 N8 C8]), sl A6 N6 C6, vI x3] w0 (Q18 w0 B res) := by
 unfold M_spec_l11Const at hm
 refine goF func167 z z (lb z) fun fn hr => Ws<|E z (fb z) ?_
 rintro _ w5 ⟨rfl, hd⟩
 have h0 := hd.below
 have h6 : Blk w5 w0.z (vR x1 AB NB CB A7 N7 C7 AA NA CA A8 N8 C8) := hd.blk
 refine E z (fa zero_118) ?_
 rintro _ w3 ⟨rfl, he⟩
 have h1 := he.below
 have h9 : Blk w3 w5.z [vI 0, sl none 0 0, sl none 0 0] := he.blk
 refine Ra z<|Ra z<|Wn<|Wq<|Ws<|Ra z<|Wn ?_
 obtain ⟨u17, hun, hmf⟩ := bdS hm
 refine Wf (σ := Unit) (ρ := Val × Int × Int) (fun (kg : Nat) (_ : Unit) a w => Sat 47 [(1, sl A6 N6 C6), (2, vI x3), (3, pt w0.z), (6, pt w5.z), (9, (vI ((kg : Nat) : Int)))] a ∧ Below w3.z w3 w) (fun (_ : Unit) a w => Sat 47 [(2, vI x3), (3, pt w0.z), (6, pt w5.z)] a ∧ Below w3.z w3 w) (fun r ex a w => ex = .ret ∧ RetPost prog fn (Q18 w0 B r) a w) hun ?_ ?_ ?_ ?_ ?_
 ·exact fun _ q => ⟨(q.k<|s5 z z z z z), (br w3)⟩
 ·rintro kg _ a18 w19 o1a hkh ⟨hSo, s2⟩ hmi
  refine Wu ?_ hSo
  refine Wq<|Ws<|Rm z<|R z (fd f_144_4 z) ?_
  have hj := (h6.e h1).e s2
  refine R z (l1 g_25 z fid<|hj.at z) ?_
  have hk := ((p1_4.e h0).e h1).e s2
  refine R z (lnR d_25 z hk)<|R z (lss z z)<|Wn<|Wc z (fun _ => ?_) (fun hc => (nolt hkh hc).elim)
  refine Wk<|Wq<|Wb<|Wq<|Ws<|Rm z<|Rm z<|R z (add_ z z)<|Rm z ?_
  have hl := ((p2_0.e h0).e h1).e s2
  refine R z (lnR d_25 z hl)<|R z (rd_geq z z)<|Wn<|Wc z (fun hca => ?_) (fun hca => ?_)
  ·refine Ws<|R z (bP (parts := []) (cs := [vI 0, sl none 0 0, sl none 0 0]) build_118 z z)<|Rm z<|E0 (fs (cur' := [vI 0, sl none 0 0, sl none 0 0]) z_118 z z (h9.e s2) z (lb z) (oA z) z) ?_
   rintro _ w1b ⟨hp, sq⟩
   exact Ra z<|Ra z<|Wn<|Wr<|rtO<|qL (som<|ifT hmi hca).symm<|ret3 hr (resC g_118 z_118 z hp z) z z ⟨(bM (bup (bup h0 h1) s2) sq.one<|m1 h0.s), none, 0, 0, [], none, 0, 0, [], z, (ii z), onL, onL, p3_0, (ii z), nd0, al0⟩
  refine Wk<|Wq (Wd (X := noX) 0 (.rd 0 (.rd 1 (.rd 2 (.rd 3 (.rd 4 (.rd 5 (.rd 6 (.rd 7 (.rd 8 (.rd 9 (.rd 10 (.rd 11 .done)))))))))))) mo (by kernel_rfl) fun w1c s4 _ => ?_)
  iterate 3 refine dR z z (mv z) ?_
  refine dR z z (add_ z z) ?_
  obtain ⟨x1d, er, hms⟩ := bdS (ifF hmi hca)
  refine dRX z z (at_ (α := UInt8) d_25 z_5 z z z (hl.e s4) er) ?_
  rintro _ ⟨b1e, o1f, cs1g, rfl, ht, hu, h1h⟩
  obtain rfl := u8 hu
  refine dR z z (l1 g_5 z fid<|ht.at0 z)<|dR z z (fd f_144_4 z)<|dR z z (l1 g_25 z fid<|(hj.e s4).at z)<|dR z z (mv z) ?_
  obtain ⟨x1i, ev, hmm⟩ := bdS hms
  refine dRX z z (at_ (α := UInt8) d_25 z_5 z z z (hk.e s4) ev) ?_
  rintro _ ⟨b1j, o1k, cs1l, rfl, hw, hx, h1m⟩
  obtain rfl := u8 hx
  refine dR z z (l1 g_5 z fid<|hw.at0 z)<|dR z z (nq z z)<|pD<|Wo<|Wc z (fun hcb => ?_) (fun hcb => ?_)
  ·refine Ws<|R z (bP (parts := []) (cs := [vI 0, sl none 0 0, sl none 0 0]) build_118 z z)<|Rm z<|Rm z<|R z (add_ z z)<|E0 (fs (cur' := [vI 0, sl none 0 0, sl none 0 0]) z_118 z z ((h9.e s2).e s4) z (lb z) (oA z) z) ?_
   rintro _ w1n ⟨hy, sz⟩
   exact Ra z<|Ra z<|Wn<|Wr<|rtO<|qL (som<|ifT hmm hcb).symm<|ret3 hr (resC g_118 z_118 z hy z) z z ⟨(bM (bup (bup (bup h0 h1) s2) s4) sz.one<|m1 h0.s), none, 0, 0, [], none, 0, 0, [], z, (ii z), onL, onL, (iA _ _), (ii z), nd0, al0⟩
  exact Wk<|Wg<|Rm z<|R z (inc_ hkh (lt_ (repS.len p1_4) LEN_le) z z)<|Ra z<|Wl (fun _ q => ⟨(), (som<|ifF hmm hcb).symm, ⟨(q.k<|s5 z z z z z), (bup s2 s4)⟩⟩)
 ·rintro _ a1o w1p ⟨hS10, sc⟩
  refine Wu ?_ hS10
  refine Wq<|Ws<|Rm z<|R z (fd f_144_4 z)<|R z (l1 g_25 z fid<|((h6.e h1).e sc).at z)<|R z (lnR d_25 z<|((p1_4.e h0).e h1).e sc)<|R z (lss z z)<|Wn<|Wc z (fun hc => (noltt hc).elim) (fun _ => ?_)
  exact We (fun a' ha' => ⟨rfl, ⟨(Sat.weaken ha'<|s3 z z z), sc⟩⟩)
 ·rintro _ a11 w1q rfl ⟨hS1r, s7⟩
  have hm12 := elL hmf
  revert a11
  refine Wo<|Wq (Wd (X := (· ∈ [w5.z])) 0 (.rd 0 (.rd 1 (.rd 2 (.rd 3 (.rd 4 (.rd 5 (.ef 6 (.rd 7 (.rd 8 .done))))))))) mo (by kernel_rfl) fun w1s s8 _ => dR z z (bP (parts := []) (cs := [vI 0, sl none 0 0, sl none 0 0]) build_118 z z)<|dR z z (mv z)<|dR z z (fd f_144_4 z)<|dR z z (l1 g_25 z (djs<|mmr h6.lt)<|(((h6.e h1).e s7).e s8).at z)<|dR z z (lnR d_25 z<|(((p1_4.e h0).e h1).e s7).e s8)<|dR z z (add_ z z)<|dE0 z (fs (cur' := [vI 0, sl none 0 0, sl none 0 0]) z_118 z z ((h9.e s7).e s8) z (lb z) (oA z) z) (.inr fun _ _ h => chgIn (List.mem_singleton.2 z) h.2) ?_)
  rintro _ w1t ⟨h13, s14⟩
  refine dR z z (asg z)<|dR z z (asg z)<|pD<|Wo ?_
  obtain rfl := som hm12
  exact Wr<|ret3 hr (resC g_118 z_118 z h13 z) z z ⟨(bM (bup (bup (bup h0 h1) s7) s8) s14.one<|m1 h0.s), none, 0, 0, [], none, 0, 0, [], z, (ii z), onL, onL, (iA _ _), (ii z), nd0, al0⟩
 rintro r1u ex1v a1w w1x rfl ⟨rfl, hq15⟩
 have hm16 := elR hmf
 obtain rfl := som hm16
 exact ⟨hq15, z⟩
theorem W_w14 {x1 : List UInt8} {x2 : Int} {x3 : Int} {res : Val × Int × Int} (hm : M_spec_l11Bytes x1 x2 x3 = some res) (hBw : B ≤ w0.z) (p1_0 : repS w0 B (sl A0 N0 C0) x1) (p2_0 : inI x2) (p3_0 : inI x3) : CallsR prog 168 [sl A0 N0 C0, vI x2, vI x3] w0 (Q18 w0 B res) := by
 unfold M_spec_l11Bytes at hm
 refine goF func168 z z (lb z) fun fn hr => Ws<|E z (fa zero_118) ?_
 rintro _ wf ⟨rfl, h7⟩
 have h0 := h7.below
 have h2 : Blk wf w0.z [vI 0, sl none 0 0, sl none 0 0] := h7.blk
 refine Ra z<|Ra z<|Wn<|Wq<|Ws<|Rm z ?_
 have h8 := p1_0.e h0
 refine R z (lnR d_25 z h8)<|Rm z<|R z (sb_ z z)<|Rm z<|R z (lss z z)<|Wn<|Wc z (fun hc3 => ?_) (fun hc3 => ?_)
 ·refine Ws<|R z (bP (parts := []) (cs := [vI 0, sl none 0 0, sl none 0 0]) build_118 z z)<|Rm z<|E0 (fs (cur' := [vI 0, sl none 0 0, sl none 0 0]) z_118 z z h2 z (lb z) (oA z) z) ?_
  rintro _ ws ⟨hg, sh⟩
  refine Ra z<|Ra z<|Wn ?_
  obtain rfl := som (ifT hm hc3)
  exact Wr<|ret3 hr (resC g_118 z_118 z hg z) z z ⟨(bM h0 sh.one<|mem1 lr), none, 0, 0, [], none, 0, 0, [], z, (ii z), onL, onL, p2_0, (ii z), nd0, al0⟩
 refine Wk<|Ws<|E z (f0 (α := UInt8) el_25) ?_
 rintro _ wu ⟨av, nw, cx, rfl, s1, hi⟩
 refine Rm z<|Rm z<|Rm z<|Rm z<|R z (add_ z z) ?_
 obtain ⟨xy, ej, hmk⟩ := bdS (ifF hm hc3)
 refine RX z (rX d_25 z_5 z z (h8.e s1) z z ej) ?_
 rintro _ ⟨az, n10, c11, rfl, hl⟩
 obtain ⟨x12, em, hmn⟩ := bdS hmk
 refine E z (fN (α := UInt8) el_25 em z z hi nd_one hl) ?_
 rintro _ w13 ⟨S9, a4, n5, c6, rfl, sa, ho, hp, hb⟩
 refine R z (bP (parts := [(1, (.tmp 24))]) (cs := [vI 0, sl a4 n5 c6, sl none 0 0]) build_118 z z)<|Rm z<|Rm z<|R z (add_ z z) ?_
 have hc := mmr h2.lt
 refine E0 (fs (cur' := [vI 0, sl a4 n5 c6, sl none 0 0]) z_118 z z ((h2.e s1).c sa<|djs hc) z (lb z) (oA z) z) ?_
 rintro _ w14 ⟨hq, sr⟩
 have hd := sr.one
 refine Ra z<|Ra z<|Wn ?_
 obtain rfl := som hmn
 have ht : ∀ k ∈ S9, k ∉ [w0.z] := or1 hb hc (ltnot (mem1 h2.lt) s1.s)
 have he := m1 h0.s
 exact Wr<|ret3 hr (resC g_118 z_118 z hq z) z z ⟨(bM (bM (bup h0 s1) sa he) hd<|mem1 lr), a4, n5, c6, S9, none, 0, 0, [], z, (ii z), (ho.c hd ht), onL, (iA _ _), (ii z), (na_ hp nd_nil<|nmN _), (aa_ (o1le hb he<|lt_ h0.s s1.s) an_)⟩
def Q19 (w0 : World) (B : Nat) (r : (List UInt8) × Int × Bool) (v : Value) (w' : World) : Prop := Bw w0 w' ∧ un3 (fun r1 r2 r3 => ∃ a1 n1 c1 S1, v = .tuple #[sl a1 n1 c1, vI r2, vB r3] ∧ ownS w' S1 (sl a1 n1 c1) r1 ∧ inI r2 ∧ S1.Nodup ∧ (∀ k ∈ S1, w0.z ≤ k)) r
theorem W_w2w {x1 : List UInt8} {x2 : Int} {x3 : UInt8} {res : (List UInt8) × Int × Bool} (hm : M_spec_ReadTerminated n x1 x2 x3 = some res) (hBw : B ≤ w0.z) (p1_0 : repS w0 B (sl A0 N0 C0) x1) (p2_0 : inI x2) : CallsR prog 169 [sl A0 N0 C0, vI x2, vU (byteI x3)] w0 (Q19 w0 B res) := by
 unfold M_spec_ReadTerminated at hm
 refine goF func169 z z (lb z) fun fn hr => Ws<|Ra z<|Ra z<|Ra z<|Wn<|Ws<|E z (f0 (α := UInt8) el_25) ?_
 rintro _ w1 ⟨a15, n16, c17, rfl, s9, h18⟩
 refine Ra z<|Wn<|Wq<|Ws<|Rm z<|Ra z<|Wn ?_
 obtain ⟨u2y, hu19, hmr⟩ := bdS hm
 refine WC_iter (σ := (List UInt8) × Int) (ρ := (List UInt8) × Int × Bool) (fun s a w => un2 (fun xb x5 => ∃ a2 n3 c4 S0, Sat 54 [(0, sl A0 N0 C0), (1, vI x2), (2, vU<|byteI x3), (9, sl a2 n3 c4), (10, vI x5)] a ∧ Chg (· ∈ [w0.z]) w1 w ∧ ownS w S0 (sl a2 n3 c4) xb ∧ S0.Nodup ∧ (∀ k ∈ S0, k ∈ [w0.z] ∨ w1.z ≤ k) ∧ inI x5) s) (fun s a w => un2 (fun xb x5 => ∃ a2 n3 c4 S0, Sat 54 [(1, vI x2)] a ∧ Chg (· ∈ [w0.z]) w1 w ∧ ownS w S0 (sl a2 n3 c4) xb ∧ S0.Nodup ∧ (∀ k ∈ S0, k ∈ [w0.z] ∨ w1.z ≤ k) ∧ inI x5) s) (fun r ex a w => ex = .ret ∧ RetPost prog fn (Q19 w0 B r) a w) hu19 ?_ ?_ ?_ ?_
 ·exact fun _ q => ⟨a15, n16, c17, [w0.z], (q.k<|s5 z z z z z), (cr [w0.z] w1), h18, nd_one, (io sr), p2_0⟩
 ·rintro ⟨xb, x5⟩ a2z wc o30 ⟨a2, n3, c4, S0, hS1a, s8, hd, he, hf, hj⟩ hm1b
  have hm1c := un2S hm1b
  refine Wu ?_ hS1a
  refine Wq<|Wq ?_
  obtain ⟨u1d, hu1e, hms⟩ := bdS hm1c
  refine Wt (fun a w => ∃ (xk : Bool), xk = u1d ∧ Sat 54 [(0, sl A0 N0 C0), (1, vI x2), (2, vU<|byteI x3), (9, sl a2 n3 c4), (10, vI x5), (22, vB xk)] a ∧ Below wc.z wc w) ?_ ?_
  ·refine Wg<|Rm z<|Rm z ?_
   have hl := (p1_0.e s9).c s8<|lg<|m1 hBw
   refine R z (lnR d_25 z hl) ?_
   obtain ⟨r1f, e1g, hmv⟩ := bdS hu1e
   refine E z (fc call97 z<|W_w00 (B := B) e1g (lt_ hBw<|lt_ s9.s s8.s) p2_0 (ii z)<|inI_len<|repS.len hl) ?_
   rintro _ w31 ⟨sm, rfl⟩
   refine Rm z ?_
   rcases bs r1f with hc6 | hc6
   ·exact Rh z hc6 (mv z)<|Rh z hc6 (mv z)<|Rh z hc6 (lnR d_25 z<|hl.e sm)<|Rh z hc6 (lss z z)<|R z (pT z hc6 z)<|Wl (fun _ q => ⟨decide (x5 < (x1.length : Int)), som<|ifT hmv hc6, (q.k<|s6 z z z z z z), sm⟩)
   iterate 4 refine Nh z hc6 ?_
   exact R z (pF z hc6 z)<|Wl (fun _ q => ⟨false, som<|ifF hmv hc6, (q.k<|s6 z z z z z z), sm⟩)
  rintro a1h wa ⟨xk, rfl, hS32, s7⟩
  revert a1h
  refine Wo<|Wc z (fun hcn => ?_) (fun hcn => ?_)
  ·refine Wk<|Wq<|Wb<|Wq<|Ws<|Rm z<|Rm z ?_
   obtain ⟨x33, e1i, hmw⟩ := bdS (ifT hms hcn)
   have hh := ((p1_0.e s9).c s8<|lg<|m1 hBw).e s7
   refine RX z (at_ (α := UInt8) d_25 z_5 z z z hh e1i) ?_
   rintro _ ⟨b34, o35, cs36, rfl, h1j, h1k, h37⟩
   obtain rfl := u8 h1k
   refine R z (l1 g_5 z fid<|h1j.at0 z)<|Rm z<|R z (eql z z)<|Wn<|Wc z (fun hco => ?_) (fun hco => ?_)
   ·refine Ws<|Rm z<|Rm z<|R z (add_ z z)<|Ra z<|Ra z<|Ra z<|Wn ?_
    have h1l : ∀ k ∈ S0, w0.z ≤ k := or1 hf (mem1 lr) (lele s9.s)
    exact Wr<|rtO<|qL (som<|ifT hmw hco).symm<|ret3 hr z z z ⟨(bup (bM s9 s8<|mem1 lr) s7), a2, n3, c4, S0, z, (hd.e s7), (iA _ _), he, h1l⟩
   refine Wk<|Wq<|Ws<|Rm z<|Rm z ?_
   obtain ⟨x38, e1m, hm1n⟩ := bdS (ifF hmw hco)
   refine RX z (at_ (α := UInt8) d_25 z_5 z z z hh e1m) ?_
   rintro _ ⟨b39, o3a, cs3b, rfl, h1o, h1p, h3c⟩
   obtain rfl := u8 h1p
   refine R z (l1 g_5 z fid<|h1o.at0 z)<|R z (eql z z)<|Wn ?_
   obtain ⟨u1q, hux, hmy⟩ := bdS hm1n
   refine Wt (fun a w => ∃ (xg : Int), Sum.inl xg = u1q ∧ Sat 54 [(0, sl A0 N0 C0), (1, vI x2), (2, vU<|byteI x3), (9, sl a2 n3 c4), (10, vI xg)] a ∧ Below wa.z wa w ∧ inI xg) ?_ ?_
   ·refine Wc z (fun hcp => ?_) (fun hcp => ?_)
    ·have hmz := ifT hux hcp
     refine Ws<|Rm z<|R z (add_ z z)<|Ra z<|Wn<|Ws<|Rm z<|Rm z<|R z (lnR d_25 z hh)<|R z (eql z z)<|Wn<|Wc z (fun hcq => ?_) (fun hcq => ?_)
     ·obtain rfl := som (ifT hmz hcq)
      have hm1r := elR hmy
      have h1s : ∀ k ∈ S0, k ∈ [w0.z] ∨ w1.z ≤ k := or1 hf (io sr) (leor lr)
      have h1t : Chg (· ∈ [w0.z]) w1 wc := cM (cr [w0.z] w1) s8 (io sr)
      have h1u : Chg (· ∈ [w0.z]) w1 wa := cext h1t s7
      exact We<|exO z (fun a' ha' => QO_brk (som hm1r).symm ⟨a2, n3, c4, S0, (Sat.weaken ha'<|s1 z), h1u, (hd.e s7), he, h1s, (iA _ _)⟩)
     exact WC_skip (fun _ q => ⟨iadd x5 1, som<|ifF hmz hcq, (q.k<|s5 z z z z z), (br wa), (iA _ _)⟩)
    exact WC_skip (fun _ q => ⟨x5, som<|ifF hux hcp, (q.k<|s5 z z z z z), (br wa), hj⟩)
   rintro a1v w10 ⟨xg, rfl, hS3d, si, h3e⟩
   have hm1w := elL hmy
   revert a1v
   refine Wo<|Wg<|Rm z<|Rm z<|Rm z ?_
   obtain ⟨x1x, e1y, hm1z⟩ := bdS hm1w
   refine RX z (at_ (α := UInt8) d_25 z_5 z z z (hh.e si) e1y) ?_
   rintro _ ⟨b3f, o3g, cs3h, rfl, h20, h21, h3i⟩
   obtain rfl := u8 h21
   refine R z (l1 g_5 z fid<|h20.at0 z)<|E z (fS [(.tmp 49)] el_25 z z z (szAll z) (lb z)<|lb z) ?_
   rintro _ w11 ⟨rfl, ht⟩
   have hu := ht.below
   have h22 : Blk w11 w10.z [vU (byteI x1x)] := ht.blk
   have h3j := ownS_new1 ht UInt8_own
   obtain ⟨x23, e24, hm25⟩ := bdS hm1z
   refine E z (ef_pushN (α := UInt8) el_25 e24 z z (((hd.e s7).e si).e hu) he h22 UInt8_own an_ nd_nil) ?_
   rintro _ w26 ⟨S12, a27, n28, c29, rfl, s2a, h2b, h2c, h2d⟩
   refine Ra z<|Wn<|Wg<|Rm z<|R z (add_ z z)<|Ra z<|Wl ?_
   have h13 : ∀ k ∈ S0, k ∈ [w0.z] ∨ w1.z ≤ k := or1 hf (io sr) (leor lr)
   have h2e : ∀ k ∈ S12, k ∈ [w0.z] ∨ w1.z ≤ k := or2 h2d h13 an_ (leor (lt_ (lt_ (lt_ s8.s s7.s) si.s) hu.s))
   have h2f : Chg (· ∈ [w0.z]) w1 wc := cM (cr [w0.z] w1) s8 (io sr)
   have h2g : Chg (· ∈ [w0.z]) w1 wa := cext h2f s7
   have h2h : Chg (· ∈ [w0.z]) w1 w10 := cext h2g si
   have h2i : Chg (· ∈ [w0.z]) w1 w11 := cext h2h hu
   have h2j : Chg (· ∈ [w0.z]) w1 w26 := cM h2i s2a h13
   exact fun _ q => ⟨(x23, iadd xg 1), (som hm25).symm, ⟨a27, n28, c29, S12, (q.k<|s5 z z z z z), h2j, h2b, h2c, h2e, (iA _ _)⟩⟩
  have h2k : ∀ k ∈ S0, k ∈ [w0.z] ∨ w1.z ≤ k := or1 hf (io sr) (leor lr)
  have h2l : Chg (· ∈ [w0.z]) w1 wc := cM (cr [w0.z] w1) s8 (io sr)
  have h2m : Chg (· ∈ [w0.z]) w1 wa := cext h2l s7
  exact We (fun a' ha' => QO_brk (som<|ifF hms hcn).symm ⟨a2, n3, c4, S0, (Sat.weaken ha'<|s1 z), h2m, (hd.e s7), he, h2k, hj⟩)
 ·rintro ⟨xb, x5⟩ a2n w2o rfl ⟨a2, n3, c4, S0, hS3k, s14, hd, he, hf, hj⟩
  have hm2p := elL hmr
  have hm2q := un2S hm2p
  revert a2n
  refine Wo<|Ws<|E z (f0 (α := UInt8) el_25) ?_
  rintro _ w3l ⟨a2r, n2s, c2t, rfl, s2u, h2v⟩
  refine Rm z<|Ra z<|Ra z<|Ra z<|Wn ?_
  obtain rfl := som hm2q
  exact Wr<|ret3 hr z z z ⟨(bup (bM s9 s14<|mem1 lr) s2u), a2r, n2s, c2t, [w2o.z], z, h2v, p2_0, nd_one, (m1<|lt_ s9.s s14.s)⟩
 rintro r3m ex3n a3o w3p rfl ⟨rfl, hq2w⟩
 have hm2x := elR hmr
 obtain rfl := som hm2x
 exact ⟨hq2w, z⟩
theorem W_w0h {x1 : Rule} {x2 : Int} {x3 : Int} {res : Int} (hm : M_spec_l9Item x1 x2 x3 = some res) (hBw : B ≤ w0.z) (p1_0 : x1.name.b.length ≤ LEN) (p1_1 : inI x1.kind) (p1_2 : inI x1.size) (p1_4 : repS w0 B (sl AB NB CB) x1.bytes) (p1_5 : repS w0 B (sl A7 N7 C7) x1.names) (p1_6 : repS w0 B (sl AA NA CA) x1.tags) (p1_7 : repS w0 B (sl A8 N8 C8) x1.kids) (p2_0 : inI x2) (p3_0 : inI x3) : CallsR prog 201 [(.agg #[Str.v x1.name, vI x1.kind, vI x1.size, vB x1.little, sl AB NB CB, sl A7 N7 C7, sl AA NA CA, sl A8 N8 C8]), vI x2, vI x3] w0 (Q0 w0 B res) := by
 unfold M_spec_l9Item at hm
 refine goF func201 z z (lb z) fun fn hr => Ws<|E z (fb z) ?_
 rintro _ w1 ⟨rfl, hi⟩
 have h0 := hi.below
 have h2 : Blk w1 w0.z (vR x1 AB NB CB A7 N7 C7 AA NA CA A8 N8 C8) := hi.blk
 refine Ra z<|Wn<|Wq<|Ws<|R z (fd f_144_1 z)<|R z (l1 g_3 z fid<|h2.at z)<|Wn<|Wb<|Ws<|R z (eql z z)<|Ra z<|Wn<|Wc z (fun hc6 => ?_) (fun hc6 => ?_)
 ·refine Ws<|R z (fd f_144_7 z)<|R z (l1 g_142 z fid<|h2.at z) ?_
  obtain ⟨x24, et, hmu⟩ := bdS (ifT hm hc6)
  refine RX z (at_ (α := Int) d_142 z_3 z z z (p1_7.e h0) et) ?_
  rintro _ ⟨b25, o26, cs27, rfl, hv, hw, h28⟩
  obtain ⟨rfl, hx⟩ := Int_open hw
  refine R z (l1 g_3 z fid<|hv.at0 z)<|Ra z<|Wn ?_
  obtain rfl := som hmu
  exact Wr<|rtO<|ret1 hr z ⟨h0, z, hx⟩
 refine Ws<|R z (eql z z)<|Ra z<|Wn ?_
 obtain ⟨uy, huj, hm3⟩ := bdS (ifF hm hc6)
 refine Wt (fun a w => Sum.inl () = uy ∧ Sat 57 [] a ∧ Below w1.z w1 w) ?_ ?_
 ·refine Wc z (fun hc7 => ?_) (fun hc7 => ?_)
  ·have hmk := ifT huj hc7
   refine Ws<|Rm z<|R z (fd f_144_7 z)<|R z (l1 g_142 z fid<|h2.at z) ?_
   have hl := p1_7.e h0
   refine R z (lnR d_142 z hl)<|R z (lss z z)<|Wn<|Wc z (fun hc8 => ?_) (fun hc8 => ?_)
   ·refine Ws<|R z (fd f_144_7 z)<|R z (l1 g_142 z fid<|h2.at z)<|Rm z ?_
    obtain ⟨x29, ez, hm10⟩ := bdS (ifT hmk hc8)
    refine RX z (at_ (α := Int) d_142 z_3 z z z hl ez) ?_
    rintro _ ⟨b2a, o2b, cs2c, rfl, h11, h12, h2d⟩
    obtain ⟨rfl, h13⟩ := Int_open h12
    refine R z (l1 g_3 z fid<|h11.at0 z)<|Ra z<|Wn ?_
    obtain rfl := som hm10
    have hm14 := elR hm3
    obtain rfl := som hm14
    exact Wr<|rtO<|ret1 hr z ⟨h0, z, h13⟩
   exact WC_skip (fun _ q => ⟨som<|ifF hmk hc8, (q.k sn), (br w1)⟩)
  refine Ws<|R z (eql z z)<|Ra z<|Wn ?_
  obtain ⟨u15, hum, hm9⟩ := bdS (ifF huj hc7)
  refine Wt (fun a w => Sum.inl () = u15 ∧ Sat 57 [] a ∧ Below w1.z w1 w) ?_ ?_
  ·refine Wc z (fun hca => ?_) (fun hca => ?_)
   ·refine Ws<|Ra z<|Wn ?_
    obtain ⟨u2e, hu16, hmn⟩ := bdS (ifT hum hca)
    refine Wf (σ := Unit) (ρ := Int) (fun (ko : Nat) (_ : Unit) a w => Sat 57 [(1, vI x2), (3, pt w0.z), (7, (vI ((ko : Nat) : Int)))] a ∧ Below w1.z w1 w) (fun (_ : Unit) a w => Sat 57 [] a ∧ Below w1.z w1 w) (fun r ex a w => ex = .ret ∧ RetPost prog fn (Q0 w0 B r) a w) hu16 ?_ ?_ ?_ ?_ ?_
    ·exact fun _ q => ⟨(q.k<|s3 z z z), (br w1)⟩
    ·rintro ko _ a2f w2g o2h hkb ⟨hS17, s4⟩ hm18
     refine Wu ?_ hS17
     refine Wq<|Ws<|Rm z<|R z (fd f_144_6 z) ?_
     have hd := h2.e s4
     refine R z (l1 g_142 z fid<|hd.at z) ?_
     have hp := (p1_6.e h0).e s4
     refine R z (lnR d_142 z hp)<|R z (lss z z)<|Wn<|Wc z (fun _ => ?_) (fun hc => (nolt hkb hc).elim)
     refine Wk<|Wq<|Wb<|Ws<|R z (fd f_144_6 z)<|R z (l1 g_142 z fid<|hd.at z)<|Rm z ?_
     obtain ⟨x2i, e19, hmq⟩ := bdS hm18
     refine RX z (at_ (α := Int) d_142 z_3 z z z hp e19) ?_
     rintro _ ⟨b2j, o2k, cs2l, rfl, h1a, h1b, h2m⟩
     obtain ⟨rfl, h2n⟩ := Int_open h1b
     refine R z (l1 g_3 z fid<|h1a.at0 z)<|Rm z<|R z (eql z z)<|Wn<|Wc z (fun hcc => ?_) (fun hcc => ?_)
     ·refine Ws<|R z (fd f_144_7 z)<|R z (l1 g_142 z fid<|hd.at z)<|Rm z<|R z (inc_ hkb (lt_ (repS.len p1_6) LEN_le) z z) ?_
      obtain ⟨x2o, e1c, hm1d⟩ := bdS (ifT hmq hcc)
      refine RX z (at_ (α := Int) d_142 z_3 z z z ((p1_7.e h0).e s4) e1c) ?_
      rintro _ ⟨b2p, o2q, cs2r, rfl, h1e, h1f, h2s⟩
      obtain ⟨rfl, h1g⟩ := Int_open h1f
      exact R z (l1 g_3 z fid<|h1e.at0 z)<|Ra z<|Wn<|Wr<|rtO<|qL (som hm1d).symm<|ret1 hr z ⟨(bup h0 s4), z, h1g⟩
     exact Wk<|Wg<|Rm z<|R z (inc_ hkb (lt_ (repS.len p1_6) LEN_le) z z)<|Ra z<|Wl (fun _ q => ⟨(), (som<|ifF hmq hcc).symm, ⟨(q.k<|s3 z z z), s4⟩⟩)
    ·rintro _ a2t w2u ⟨hS1h, se⟩
     refine Wu ?_ hS1h
     refine Wq<|Ws<|Rm z<|R z (fd f_144_6 z)<|R z (l1 g_142 z fid<|(h2.e se).at z)<|R z (lnR d_142 z<|(p1_6.e h0).e se)<|R z (lss z z)<|Wn<|Wc z (fun hc => (noltt hc).elim) (fun _ => ?_)
     exact We (fun a' ha' => ⟨rfl, ⟨(Sat.weaken ha' sn), se⟩⟩)
    ·rintro _ a1i w2v rfl ⟨hS2w, s1j⟩
     have hm1k := elL hmn
     revert a1i
     exact fun _ q => ⟨som hm1k, (q.k sn), s1j⟩
    rintro r2x ex2y a2z w30 rfl ⟨rfl, hq1l⟩
    have hm1m := elR hmn
    obtain rfl := som hm1m
    have hm1n := elR hm9
    obtain rfl := som hm1n
    have hm1o := elR hm3
    obtain rfl := som hm1o
    exact ⟨hq1l, z⟩
   refine Wq<|Ws<|R z (eql z z)<|Ra z<|Wn ?_
   obtain ⟨u1p, hur, hms⟩ := bdS (ifF hum hca)
   refine Wt (fun a w => ∃ (xf : Bool), xf = u1p ∧ Sat 57 [(3, pt w0.z), (50, vB xf)] a ∧ Below w1.z w1 w) ?_ ?_
   ·refine Wc z (fun hcg => ?_) (fun hcg => ?_)
    ·exact WC_skip (fun _ q => ⟨x1.kind == 8, som<|ifT hur hcg, (q.k<|s2 z z), (br w1)⟩)
    exact Wg<|R z (eql z z)<|Ra z<|Wl (fun _ q => ⟨x1.kind == 9, som<|ifF hur hcg, (q.k<|s2 z z), (br w1)⟩)
   rintro a1q w31 ⟨xf, rfl, hS32, s5⟩
   revert a1q
   refine Wo<|Wc z (fun hch => ?_) (fun hch => ?_)
   ·refine Ws<|R z (fd f_144_7 z)<|R z (l1 g_142 z fid<|(h2.e s5).at z) ?_
    obtain ⟨x33, e1r, hm1s⟩ := bdS (ifT hms hch)
    refine RX z (at_ (α := Int) d_142 z_3 z z z ((p1_7.e h0).e s5) e1r) ?_
    rintro _ ⟨b34, o35, cs36, rfl, h1t, h1u, h37⟩
    obtain ⟨rfl, h1v⟩ := Int_open h1u
    refine R z (l1 g_3 z fid<|h1t.at0 z)<|Ra z<|Wn ?_
    obtain rfl := som hm1s
    have hm1w := elR hm9
    obtain rfl := som hm1w
    have hm1x := elR hm3
    obtain rfl := som hm1x
    exact Wr<|rtO<|ret1 hr z ⟨(bup h0 s5), z, h1v⟩
   exact WC_skip (fun _ q => ⟨som<|ifF hms hch, (q.k sn), s5⟩)
  rintro a1y w38 ⟨rfl, hS39, s1z⟩
  have hm20 := elL hm9
  revert a1y
  exact fun _ q => ⟨som hm20, (q.k sn), s1z⟩
 rintro a21 w3a ⟨rfl, hS3b, s22⟩
 have hm23 := elL hm3
 revert a21
 refine Wo<|Ws<|Ra z<|Wn ?_
 obtain rfl := som hm23
 exact Wr<|ret1 hr z ⟨(bup h0 s22), z, (ii z)⟩
structure S_spec_l11Read (f : Desc → Int → (List UInt8) → Int → Option (Val × Int × Int)) : Prop where
  run : ∀ {B N0 C0 N9 C9 : Nat} {A0 A9 : Option Addr} {x1 : Desc} {x2 : Int} {x3 : List UInt8} {x4 : Int} {res : Val × Int × Int} {w0 : World} (hm : f x1 x2 x3 x4 = some res) (hBw : B ≤ w0.z) (p1_0 : repS w0 B (sl A0 N0 C0) x1.rules) (p2_0 : inI x2) (p3_0 : repS w0 B (sl A9 N9 C9) x3) (p4_0 : inI x4), CallsR prog 147 [(.agg #[sl A0 N0 C0]), vI x2, sl A9 N9 C9, vI x4] w0 (Q18 w0 B res)
structure S_spec_l11Items (f : Desc → Rule → Int → Int → (List UInt8) → Int → Option (Val × Int × Int)) : Prop where
  run : ∀ {B N0 C0 N3 C3 N4 C4 N2 C2 N5 C5 NG CG : Nat} {A0 A3 A4 A2 A5 AG : Option Addr} {x1 : Desc} {x2 : Rule} {x3 : Int} {x4 : Int} {x5 : List UInt8} {x6 : Int} {res : Val × Int × Int} {w0 : World} (hm : f x1 x2 x3 x4 x5 x6 = some res) (hBw : B ≤ w0.z) (p1_0 : repS w0 B (sl A0 N0 C0) x1.rules) (p2_0 : x2.name.b.length ≤ LEN) (p2_1 : inI x2.kind) (p2_2 : inI x2.size) (p2_4 : repS w0 B (sl A3 N3 C3) x2.bytes) (p2_5 : repS w0 B (sl A4 N4 C4) x2.names) (p2_6 : repS w0 B (sl A2 N2 C2) x2.tags) (p2_7 : repS w0 B (sl A5 N5 C5) x2.kids) (p3_0 : inI x3) (p4_0 : inI x4) (p5_0 : repS w0 B (sl AG NG CG) x5) (p6_0 : inI x6), CallsR prog 170 [(.agg #[sl A0 N0 C0]), (.agg #[Str.v x2.name, vI x2.kind, vI x2.size, vB x2.little, sl A3 N3 C3, sl A4 N4 C4, sl A2 N2 C2, sl A5 N5 C5]), vI x3, vI x4, sl AG NG CG, vI x6] w0 (Q18 w0 B res)
structure S_spec_l11Choice (f : Desc → Rule → (List UInt8) → Int → Option (Val × Int × Int)) : Prop where
  run : ∀ {B N0 C0 N3 C3 N4 C4 N2 C2 N5 C5 N9 C9 : Nat} {A0 A3 A4 A2 A5 A9 : Option Addr} {x1 : Desc} {x2 : Rule} {x3 : List UInt8} {x4 : Int} {res : Val × Int × Int} {w0 : World} (hm : f x1 x2 x3 x4 = some res) (hBw : B ≤ w0.z) (p1_0 : repS w0 B (sl A0 N0 C0) x1.rules) (p2_0 : x2.name.b.length ≤ LEN) (p2_1 : inI x2.kind) (p2_2 : inI x2.size) (p2_4 : repS w0 B (sl A3 N3 C3) x2.bytes) (p2_5 : repS w0 B (sl A4 N4 C4) x2.names) (p2_6 : repS w0 B (sl A2 N2 C2) x2.tags) (p2_7 : repS w0 B (sl A5 N5 C5) x2.kids) (p3_0 : repS w0 B (sl A9 N9 C9) x3) (p4_0 : inI x4), CallsR prog 171 [(.agg #[sl A0 N0 C0]), (.agg #[Str.v x2.name, vI x2.kind, vI x2.size, vB x2.little, sl A3 N3 C3, sl A4 N4 C4, sl A2 N2 C2, sl A5 N5 C5]), sl A9 N9 C9, vI x4] w0 (Q18 w0 B res)
structure S_spec_l11Option (f : Desc → Rule → (List UInt8) → Int → Option (Val × Int × Int)) : Prop where
  run : ∀ {B N0 C0 N3 C3 N4 C4 N2 C2 N5 C5 N9 C9 : Nat} {A0 A3 A4 A2 A5 A9 : Option Addr} {x1 : Desc} {x2 : Rule} {x3 : List UInt8} {x4 : Int} {res : Val × Int × Int} {w0 : World} (hm : f x1 x2 x3 x4 = some res) (hBw : B ≤ w0.z) (p1_0 : repS w0 B (sl A0 N0 C0) x1.rules) (p2_0 : x2.name.b.length ≤ LEN) (p2_1 : inI x2.kind) (p2_2 : inI x2.size) (p2_4 : repS w0 B (sl A3 N3 C3) x2.bytes) (p2_5 : repS w0 B (sl A4 N4 C4) x2.names) (p2_6 : repS w0 B (sl A2 N2 C2) x2.tags) (p2_7 : repS w0 B (sl A5 N5 C5) x2.kids) (p3_0 : repS w0 B (sl A9 N9 C9) x3) (p4_0 : inI x4), CallsR prog 172 [(.agg #[sl A0 N0 C0]), (.agg #[Str.v x2.name, vI x2.kind, vI x2.size, vB x2.little, sl A3 N3 C3, sl A4 N4 C4, sl A2 N2 C2, sl A5 N5 C5]), sl A9 N9 C9, vI x4] w0 (Q18 w0 B res)
structure S_spec_l11Checked (f : Desc → Rule → (List UInt8) → Int → Option (Val × Int × Int)) : Prop where
  run : ∀ {B N0 C0 N3 C3 N4 C4 N2 C2 N5 C5 N9 C9 : Nat} {A0 A3 A4 A2 A5 A9 : Option Addr} {x1 : Desc} {x2 : Rule} {x3 : List UInt8} {x4 : Int} {res : Val × Int × Int} {w0 : World} (hm : f x1 x2 x3 x4 = some res) (hBw : B ≤ w0.z) (p1_0 : repS w0 B (sl A0 N0 C0) x1.rules) (p2_0 : x2.name.b.length ≤ LEN) (p2_1 : inI x2.kind) (p2_2 : inI x2.size) (p2_4 : repS w0 B (sl A3 N3 C3) x2.bytes) (p2_5 : repS w0 B (sl A4 N4 C4) x2.names) (p2_6 : repS w0 B (sl A2 N2 C2) x2.tags) (p2_7 : repS w0 B (sl A5 N5 C5) x2.kids) (p3_0 : repS w0 B (sl A9 N9 C9) x3) (p4_0 : inI x4), CallsR prog 173 [(.agg #[sl A0 N0 C0]), (.agg #[Str.v x2.name, vI x2.kind, vI x2.size, vB x2.little, sl A3 N3 C3, sl A4 N4 C4, sl A2 N2 C2, sl A5 N5 C5]), sl A9 N9 C9, vI x4] w0 (Q18 w0 B res)
abbrev I_spec_l11Read (n : Nat) : Prop := S_spec_l11Read (F_spec_l11Read n).spec_l11Read ∧ S_spec_l11Items (F_spec_l11Read n).spec_l11Items ∧ S_spec_l11Choice (F_spec_l11Read n).spec_l11Choice ∧ S_spec_l11Option (F_spec_l11Read n).spec_l11Option ∧ S_spec_l11Checked (F_spec_l11Read n).spec_l11Checked
theorem T_w02 (ih : I_spec_l11Read n) : S_spec_l11Read (B_spec_l11Read n (F_spec_l11Read n)) := by
 obtain ⟨ih0, ih1, ih2, ih3, ih4⟩ := ih
 constructor
 intro B N0 C0 N9 C9 A0 A9 x1 x2 x3 x4 res w0 hm hBw p1_0 p2_0 p3_0 p4_0
 unfold B_spec_l11Read at hm
 refine goF func147 z z (lb z) fun fn hr => Ws<|E z (fb z) ?_
 rintro _ w2r ⟨rfl, h2s⟩
 have h2 := h2s.below
 have hl : Blk w2r w0.z [sl A0 N0 C0] := h2s.blk
 refine E z (fa zero_118) ?_
 rintro _ w2t ⟨rfl, h2u⟩
 have h4 := h2u.below
 have h3 : Blk w2t w2r.z [vI 0, sl none 0 0, sl none 0 0] := h2u.blk
 refine Ra z<|Ra z<|Wn<|Ws<|R z (fd f_95_0 z) ?_
 have hn := hl.e h4
 refine R z (l1 g_93 z fid<|hn.at z)<|Rm z ?_
 obtain ⟨x8, e5e, hm2v⟩ := bdS hm
 have ho := (p1_0.e h2).e h4
 refine RX z (at_ (α := Rule) d_93 z_144 z z z ho e5e) ?_
 rintro _ ⟨b92, o93, cs94, rfl, h5f, h5g, h95⟩
 obtain ⟨a9, na, cb, ac, nd, ce, af, ng, ch, ai, nk, cj, rfl, ht, hu, hp, hq, hv, hw, hx⟩ := Rule_open h5g
 refine R z (lN (vs := (vR x8 a9 na cb ac nd ce af ng ch ai nk cj)) g_144 z_144 z z fid h5f)<|E z (fa zero_144) ?_
 rintro _ w5h ⟨rfl, h2w⟩
 have h0 := h2w.below
 have h5i : Blk w5h w2t.z [(Str.v (⟨[]⟩ : Str)), vI 0, vI 0, vB false, sl none 0 0, sl none 0 0, sl none 0 0, sl none 0 0] := h2w.blk
 refine E0 (fs (cur' := (vR x8 a9 na cb ac nd ce af ng ch ai nk cj)) z_144 z z h5i z (lb z) (oA z) z) ?_
 rintro _ w96 ⟨h7, s5j⟩
 have h1 := s5j.one
 refine Wn<|Wq<|Ws<|R z (fd f_144_1 z)<|R z (l1 g_3 z fid<|h7.at z)<|Wn<|Wb<|Ws<|R z (eql z z)<|Ra z<|Wn<|Wc z (fun hcs => ?_) (fun hcs => ?_)
 ·refine Ws<|R z (lN (vs := [sl A0 N0 C0]) g_95 z_95 z z fid<|((hn.e h0).c h1<|djs<|mm1 hl.lt h4.s).row 0 1 z)<|Rm z<|Rm z<|Rm z ?_
  have h15 := lt_ h2.s h4.s
  have h2x := m1<|lt_ hBw h15
  obtain ⟨r2y, r97, r98, e5k, hm2z⟩ := bd3S (ifT hm2v hcs)
  refine E z (fc call166 z<|W_w0g (B := B) e5k (lt_ hBw<|lt_ (lt_ h15 h0.s) h1.s) ((ho.e h0).c h1<|lg h2x) p2_0 ((((p3_0.e h2).e h4).e h0).c h1<|lg h2x) p4_0) ?_
  rintro _ w99 ⟨sm, rfl, h5l, h5m⟩
  refine Rm z ?_
  iterate 3 refine R z (ext_ z z) ?_
  refine Ra z<|Ra z<|Ra z<|Wn<|Wq<|Ws<|Rm z<|R z (not_ z)<|Wn<|Wc z (fun hc1f => ?_) (fun hc1f => ?_)
  ·refine Ws<|R z (bP (parts := []) (cs := [vI 0, sl none 0 0, sl none 0 0]) build_118 z z)<|Rm z<|E0 (fs (cur' := [vI 0, sl none 0 0, sl none 0 0]) z_118 z z (((h3.e h0).c h1<|djs<|mmr h3.lt).e sm) z (lb z) (oA z) z) ?_
   rintro _ w9a ⟨h5n, s5o⟩
   refine Ra z<|Ra z<|Wn ?_
   obtain rfl := som (ifT hm2z hc1f)
   exact Wr<|rtO<|ret3 hr (resC g_118 z_118 z h5n z) z z ⟨(bM (bup (bM (bup (bup h2 h4) h0) h1<|m1 h15) sm) s5o.one<|m1 h2.s), none, 0, 0, [], none, 0, 0, [], z, (ii z), onL, onL, p4_0, (ii z), nd0, al0⟩
  refine Wk<|Ws<|Rm z<|R z (bP (parts := [(0, (.tmp 43))]) (cs := [vI r2y, sl none 0 0, sl none 0 0]) build_118 z z)<|Rm z<|E0 (fs (cur' := [vI r2y, sl none 0 0, sl none 0 0]) z_118 z z (((h3.e h0).c h1<|djs<|mmr h3.lt).e sm) z (lb z) (oA z) z) ?_
  rintro _ w9b ⟨h5p, s5q⟩
  refine Ra z<|Ra z<|Wn ?_
  obtain rfl := som (ifF hm2z hc1f)
  exact Wr<|rtO<|ret3 hr (resC g_118 z_118 z h5p z) z z ⟨(bM (bup (bM (bup (bup h2 h4) h0) h1<|m1 h15) sm) s5q.one<|m1 h2.s), none, 0, 0, [], none, 0, 0, [], z, h5l, onL, onL, h5m, (ii z), nd0, al0⟩
 have hm30 := ifF hm2v hcs
 refine Ws<|R z (eql z z)<|Ra z<|Wn<|Wc z (fun hc1g => ?_) (fun hc1g => ?_)
 ·refine Ws<|R z (lN (vs := (vR x8 a9 na cb ac nd ce af ng ch ai nk cj)) g_144 z_144 z z fid<|h7.row 0 8 z)<|Rm z<|Rm z ?_
  have h1h := lt_ h2.s h4.s
  have h14 := m1<|lt_ hBw h1h
  have h1i := lt_ (lt_ h1h h0.s) h1.s
  obtain ⟨r5r, r9c, r9d, e5s, hm5t⟩ := bd3S (ifT hm30 hc1g)
  refine E z (fc call167 z<|W_w2v (B := B) e5s (lt_ hBw h1i) ht hu hp ((hq.e h0).c h1<|lg h14) ((hv.e h0).c h1<|lg h14) ((hw.e h0).c h1<|lg h14) ((hx.e h0).c h1<|lg h14) ((((p3_0.e h2).e h4).e h0).c h1<|lg h14) p4_0) ?_
  rintro _ w9e ⟨s31, a32, n33, c34, S5u, a35, n36, c37, S5v, rfl, h5w, h5x, h5y, h5z, h60, h1j, h16⟩
  iterate 3 refine R z (ext_ z z) ?_
  refine E0 (fs (cur' := [vI r5r.number, sl a32 n33 c34, sl a35 n36 c37]) z_118 z z (((h3.e h0).c h1<|djs<|mmr h3.lt).e s31) z (lb z) (oA z) z) ?_
  rintro _ w9f ⟨h61, s62⟩
  have h1k := s62.one
  refine Ra z<|Ra z<|Wn ?_
  obtain rfl := som hm5t
  have h38 := lt_ h0.s h1.s
  exact Wr<|rtO<|ret3 hr (resC g_118 z_118 z h61 z) z z ⟨(bM (bup (bM (bup (bup h2 h4) h0) h1<|m1 h1h) s31) h1k<|m1 h2.s), a32, n33, c34, S5u, a35, n36, c37, S5v, z, h5w, (h5x.c h1k<|o0n1 (al_ h16) h3.lt h38), (h5y.c h1k<|o0n1 (ar_ h16) h3.lt h38), h5z, h60, (na_ (nl_ h1j) (nr_ h1j)<|nj h1j), (aa_ (o0le (al_ h16) h1i)<|o0le (ar_ h16) h1i)⟩
 have hm39 := ifF hm30 hc1g
 refine Ws<|R z (eql z z)<|Ra z<|Wn<|Wc z (fun hc1l => ?_) (fun hc1l => ?_)
 ·refine Ws<|Rm z<|Rm z<|R z (fd f_144_2 z)<|R z (l1 g_3 z fid<|h7.at z) ?_
  have h1m := lt_ h2.s h4.s
  have h1n := lt_ (lt_ h1m h0.s) h1.s
  obtain ⟨r63, r9g, r9h, e64, hm65⟩ := bd3S (ifT hm39 hc1l)
  refine E z (fc call168 z<|W_w14 (B := B) e64 (lt_ hBw h1n) ((((p3_0.e h2).e h4).e h0).c h1<|lg<|m1<|lt_ hBw h1m) p4_0 hp) ?_
  rintro _ w9i ⟨s3a, a3b, n3c, c3d, S66, a3e, n3f, c3g, S67, rfl, h68, h69, h6a, h6b, h6c, h1o, h17⟩
  iterate 3 refine R z (ext_ z z) ?_
  refine E0 (fs (cur' := [vI r63.number, sl a3b n3c c3d, sl a3e n3f c3g]) z_118 z z (((h3.e h0).c h1<|djs<|mmr h3.lt).e s3a) z (lb z) (oA z) z) ?_
  rintro _ w9j ⟨h6d, s6e⟩
  have h1p := s6e.one
  refine Ra z<|Ra z<|Wn ?_
  obtain rfl := som hm65
  have h3h := lt_ h0.s h1.s
  exact Wr<|rtO<|ret3 hr (resC g_118 z_118 z h6d z) z z ⟨(bM (bup (bM (bup (bup h2 h4) h0) h1<|m1 h1m) s3a) h1p<|m1 h2.s), a3b, n3c, c3d, S66, a3e, n3f, c3g, S67, z, h68, (h69.c h1p<|o0n1 (al_ h17) h3.lt h3h), (h6a.c h1p<|o0n1 (ar_ h17) h3.lt h3h), h6b, h6c, (na_ (nl_ h1o) (nr_ h1o)<|nj h1o), (aa_ (o0le (al_ h17) h1n)<|o0le (ar_ h17) h1n)⟩
 have hm3i := ifF hm39 hc1l
 refine Ws<|R z (eql z z)<|Ra z<|Wn<|Wc z (fun hc1q => ?_) (fun hc1q => ?_)
 ·refine Ws<|Rm z<|Rm z<|R z (fd f_144_4 z)<|R z (l1 g_25 z fid<|h7.at z) ?_
  obtain ⟨x9k, e6f, hm6g⟩ := bdS (ifT hm3i hc1q)
  have h18 := lt_ h2.s h4.s
  have h3j := m1<|lt_ hBw h18
  refine RX z (at_ (α := UInt8) d_25 z_5 z z z ((hq.e h0).c h1<|lg h3j) e6f) ?_
  rintro _ ⟨b9l, o9m, cs9n, rfl, h6h, h6i, h9o⟩
  obtain rfl := u8 h6i
  refine R z (l1 g_5 z fid<|h6h.at0 z) ?_
  have h3k := lt_ (lt_ h18 h0.s) h1.s
  obtain ⟨r9p, r9q, r9r, e6j, hm3l⟩ := bd3S hm6g
  refine E z (fc call169 z<|W_w2w (B := B) e6j (lt_ hBw h3k) ((((p3_0.e h2).e h4).e h0).c h1<|lg h3j) p4_0) ?_
  rintro _ w9s ⟨sr, a1r, n1s, c1t, S6k, rfl, h6l, h6m, h6n, h3m⟩
  refine Rm z ?_
  iterate 3 refine R z (ext_ z z) ?_
  refine Ra z<|Ra z<|Ra z<|Wn<|Wq<|Ws<|Rm z<|R z (not_ z)<|Wn<|Wc z (fun hc1u => ?_) (fun hc1u => ?_)
  ·refine Ws<|R z (bP (parts := []) (cs := [vI 0, sl none 0 0, sl none 0 0]) build_118 z z)<|Rm z<|E0 (fs (cur' := [vI 0, sl none 0 0, sl none 0 0]) z_118 z z (((h3.e h0).c h1<|djs<|mmr h3.lt).e sr) z (lb z) (oA z) z) ?_
   rintro _ w9t ⟨h6o, s6p⟩
   refine Ra z<|Ra z<|Wn ?_
   obtain rfl := som (ifT hm3l hc1u)
   exact Wr<|rtO<|ret3 hr (resC g_118 z_118 z h6o z) z z ⟨(bM (bup (bM (bup (bup h2 h4) h0) h1<|m1 h18) sr) s6p.one<|m1 h2.s), none, 0, 0, [], none, 0, 0, [], z, (ii z), onL, onL, p4_0, (ii z), nd0, al0⟩
  refine Wk<|Ws<|Rm z<|R z (bP (parts := [(1, (.tmp 82))]) (cs := [vI 0, sl a1r n1s c1t, sl none 0 0]) build_118 z z)<|Rm z<|E0 (fs (cur' := [vI 0, sl a1r n1s c1t, sl none 0 0]) z_118 z z (((h3.e h0).c h1<|djs<|mmr h3.lt).e sr) z (lb z) (oA z) z) ?_
  rintro _ w9u ⟨h6q, s6r⟩
  have h3n := s6r.one
  refine Ra z<|Ra z<|Wn ?_
  obtain rfl := som (ifF hm3l hc1u)
  exact Wr<|rtO<|ret3 hr (resC g_118 z_118 z h6q z) z z ⟨(bM (bup (bM (bup (bup h2 h4) h0) h1<|m1 h18) sr) h3n<|m1 h2.s), a1r, n1s, c1t, S6k, none, 0, 0, [], z, (ii z), (h6l.c h3n<|o0n1 h3m h3.lt<|lt_ h0.s h1.s), onL, h6m, (ii z), (na_ h6n nd_nil<|nmN _), (aa_ (o0le h3m h3k) an_)⟩
 have hm3o := ifF hm3i hc1q
 refine Ws<|R z (eql z z)<|Ra z<|Wn<|Wc z (fun hc1v => ?_) (fun hc1v => ?_)
 ·refine Ws<|R z (lN (vs := [sl A0 N0 C0]) g_95 z_95 z z fid<|((hn.e h0).c h1<|djs<|mm1 hl.lt h4.s).row 0 1 z)<|R z (lN (vs := (vR x8 a9 na cb ac nd ce af ng ch ai nk cj)) g_144 z_144 z z fid<|h7.row 0 8 z)<|R z (fd f_144_7 z)<|R z (l1 g_142 z fid<|h7.at z) ?_
  have h1w := lt_ h2.s h4.s
  have hy := m1<|lt_ hBw h1w
  have h1x := (hx.e h0).c h1<|lg hy
  refine R z (lnR d_142 z h1x)<|Rm z<|Rm z ?_
  have h1y := lt_ (lt_ h1w h0.s) h1.s
  obtain ⟨r6s, r9v, r9w, e6t, hm6u⟩ := bd3S (ifT hm3o hc1v)
  refine E z (fc call170 z<|ih1.run (B := B) e6t (lt_ hBw h1y) ((ho.e h0).c h1<|lg hy) ht hu hp ((hq.e h0).c h1<|lg hy) ((hv.e h0).c h1<|lg hy) ((hw.e h0).c h1<|lg hy) h1x (ii z) (inI_len<|repS.len h1x) ((((p3_0.e h2).e h4).e h0).c h1<|lg hy) p4_0) ?_
  rintro _ w9x ⟨s3p, a3q, n3r, c3s, S6v, a3t, n3u, c3v, S6w, rfl, h6x, h6y, h6z, h70, h71, h1z, h19⟩
  iterate 3 refine R z (ext_ z z) ?_
  refine E0 (fs (cur' := [vI r6s.number, sl a3q n3r c3s, sl a3t n3u c3v]) z_118 z z (((h3.e h0).c h1<|djs<|mmr h3.lt).e s3p) z (lb z) (oA z) z) ?_
  rintro _ w9y ⟨h72, s73⟩
  have h20 := s73.one
  refine Ra z<|Ra z<|Wn ?_
  obtain rfl := som hm6u
  have h3w := lt_ h0.s h1.s
  exact Wr<|rtO<|ret3 hr (resC g_118 z_118 z h72 z) z z ⟨(bM (bup (bM (bup (bup h2 h4) h0) h1<|m1 h1w) s3p) h20<|m1 h2.s), a3q, n3r, c3s, S6v, a3t, n3u, c3v, S6w, z, h6x, (h6y.c h20<|o0n1 (al_ h19) h3.lt h3w), (h6z.c h20<|o0n1 (ar_ h19) h3.lt h3w), h70, h71, (na_ (nl_ h1z) (nr_ h1z)<|nj h1z), (aa_ (o0le (al_ h19) h1y)<|o0le (ar_ h19) h1y)⟩
 have hm3x := ifF hm3o hc1v
 refine Ws<|R z (eql z z)<|Ra z<|Wn<|Wc z (fun hc21 => ?_) (fun hc21 => ?_)
 ·refine Ws<|R z (lN (vs := [sl A0 N0 C0]) g_95 z_95 z z fid<|((hn.e h0).c h1<|djs<|mm1 hl.lt h4.s).row 0 1 z)<|R z (lN (vs := (vR x8 a9 na cb ac nd ce af ng ch ai nk cj)) g_144 z_144 z z fid<|h7.row 0 8 z)<|Rm z<|Rm z ?_
  have h22 := lt_ h2.s h4.s
  have hz := m1<|lt_ hBw h22
  have h23 := lt_ (lt_ h22 h0.s) h1.s
  obtain ⟨r74, r9z, r100, e75, hm76⟩ := bd3S (ifT hm3x hc21)
  refine E z (fc call171 z<|ih2.run (B := B) e75 (lt_ hBw h23) ((ho.e h0).c h1<|lg hz) ht hu hp ((hq.e h0).c h1<|lg hz) ((hv.e h0).c h1<|lg hz) ((hw.e h0).c h1<|lg hz) ((hx.e h0).c h1<|lg hz) ((((p3_0.e h2).e h4).e h0).c h1<|lg hz) p4_0) ?_
  rintro _ w101 ⟨s3y, a3z, n40, c41, S77, a42, n43, c44, S78, rfl, h79, h7a, h7b, h7c, h7d, h24, h1a⟩
  iterate 3 refine R z (ext_ z z) ?_
  refine E0 (fs (cur' := [vI r74.number, sl a3z n40 c41, sl a42 n43 c44]) z_118 z z (((h3.e h0).c h1<|djs<|mmr h3.lt).e s3y) z (lb z) (oA z) z) ?_
  rintro _ w102 ⟨h7e, s7f⟩
  have h25 := s7f.one
  refine Ra z<|Ra z<|Wn ?_
  obtain rfl := som hm76
  have h45 := lt_ h0.s h1.s
  exact Wr<|rtO<|ret3 hr (resC g_118 z_118 z h7e z) z z ⟨(bM (bup (bM (bup (bup h2 h4) h0) h1<|m1 h22) s3y) h25<|m1 h2.s), a3z, n40, c41, S77, a42, n43, c44, S78, z, h79, (h7a.c h25<|o0n1 (al_ h1a) h3.lt h45), (h7b.c h25<|o0n1 (ar_ h1a) h3.lt h45), h7c, h7d, (na_ (nl_ h24) (nr_ h24)<|nj h24), (aa_ (o0le (al_ h1a) h23)<|o0le (ar_ h1a) h23)⟩
 have hm46 := ifF hm3x hc21
 refine Ws<|R z (eql z z)<|Ra z<|Wn<|Wc z (fun hc26 => ?_) (fun hc26 => ?_)
 ·refine Ws<|R z (lN (vs := [sl A0 N0 C0]) g_95 z_95 z z fid<|((hn.e h0).c h1<|djs<|mm1 hl.lt h4.s).row 0 1 z)<|R z (lN (vs := (vR x8 a9 na cb ac nd ce af ng ch ai nk cj)) g_144 z_144 z z fid<|h7.row 0 8 z)<|Rm z<|Rm z ?_
  have h27 := lt_ h2.s h4.s
  have h10 := m1<|lt_ hBw h27
  have h28 := lt_ (lt_ h27 h0.s) h1.s
  obtain ⟨r7g, r103, r104, e7h, hm7i⟩ := bd3S (ifT hm46 hc26)
  refine E z (fc call172 z<|ih3.run (B := B) e7h (lt_ hBw h28) ((ho.e h0).c h1<|lg h10) ht hu hp ((hq.e h0).c h1<|lg h10) ((hv.e h0).c h1<|lg h10) ((hw.e h0).c h1<|lg h10) ((hx.e h0).c h1<|lg h10) ((((p3_0.e h2).e h4).e h0).c h1<|lg h10) p4_0) ?_
  rintro _ w105 ⟨s47, a48, n49, c4a, S7j, a4b, n4c, c4d, S7k, rfl, h7l, h7m, h7n, h7o, h7p, h29, h1b⟩
  iterate 3 refine R z (ext_ z z) ?_
  refine E0 (fs (cur' := [vI r7g.number, sl a48 n49 c4a, sl a4b n4c c4d]) z_118 z z (((h3.e h0).c h1<|djs<|mmr h3.lt).e s47) z (lb z) (oA z) z) ?_
  rintro _ w106 ⟨h7q, s7r⟩
  have h2a := s7r.one
  refine Ra z<|Ra z<|Wn ?_
  obtain rfl := som hm7i
  have h4e := lt_ h0.s h1.s
  exact Wr<|rtO<|ret3 hr (resC g_118 z_118 z h7q z) z z ⟨(bM (bup (bM (bup (bup h2 h4) h0) h1<|m1 h27) s47) h2a<|m1 h2.s), a48, n49, c4a, S7j, a4b, n4c, c4d, S7k, z, h7l, (h7m.c h2a<|o0n1 (al_ h1b) h3.lt h4e), (h7n.c h2a<|o0n1 (ar_ h1b) h3.lt h4e), h7o, h7p, (na_ (nl_ h29) (nr_ h29)<|nj h29), (aa_ (o0le (al_ h1b) h28)<|o0le (ar_ h1b) h28)⟩
 have hm4f := ifF hm46 hc26
 refine Ws<|R z (eql z z)<|Ra z<|Wn<|Wc z (fun hc2b => ?_) (fun hc2b => ?_)
 ·refine Ws<|R z (lN (vs := [sl A0 N0 C0]) g_95 z_95 z z fid<|((hn.e h0).c h1<|djs<|mm1 hl.lt h4.s).row 0 1 z)<|R z (lN (vs := (vR x8 a9 na cb ac nd ce af ng ch ai nk cj)) g_144 z_144 z z fid<|h7.row 0 8 z)<|Rm z<|Rm z ?_
  have h2c := lt_ h2.s h4.s
  have h11 := m1<|lt_ hBw h2c
  have h2d := lt_ (lt_ h2c h0.s) h1.s
  obtain ⟨r7s, r107, r108, e7t, hm7u⟩ := bd3S (ifT hm4f hc2b)
  refine E z (fc call173 z<|ih4.run (B := B) e7t (lt_ hBw h2d) ((ho.e h0).c h1<|lg h11) ht hu hp ((hq.e h0).c h1<|lg h11) ((hv.e h0).c h1<|lg h11) ((hw.e h0).c h1<|lg h11) ((hx.e h0).c h1<|lg h11) ((((p3_0.e h2).e h4).e h0).c h1<|lg h11) p4_0) ?_
  rintro _ w109 ⟨s4g, a4h, n4i, c4j, S7v, a4k, n4l, c4m, S7w, rfl, h7x, h7y, h7z, h80, h81, h2e, h1c⟩
  iterate 3 refine R z (ext_ z z) ?_
  refine E0 (fs (cur' := [vI r7s.number, sl a4h n4i c4j, sl a4k n4l c4m]) z_118 z z (((h3.e h0).c h1<|djs<|mmr h3.lt).e s4g) z (lb z) (oA z) z) ?_
  rintro _ w10a ⟨h82, s83⟩
  have h2f := s83.one
  refine Ra z<|Ra z<|Wn ?_
  obtain rfl := som hm7u
  have h4n := lt_ h0.s h1.s
  exact Wr<|rtO<|ret3 hr (resC g_118 z_118 z h82 z) z z ⟨(bM (bup (bM (bup (bup h2 h4) h0) h1<|m1 h2c) s4g) h2f<|m1 h2.s), a4h, n4i, c4j, S7v, a4k, n4l, c4m, S7w, z, h7x, (h7y.c h2f<|o0n1 (al_ h1c) h3.lt h4n), (h7z.c h2f<|o0n1 (ar_ h1c) h3.lt h4n), h80, h81, (na_ (nl_ h2e) (nr_ h2e)<|nj h2e), (aa_ (o0le (al_ h1c) h2d)<|o0le (ar_ h1c) h2d)⟩
 refine Wk<|Wq (Wd (X := noX) 0 (.rd 0 (.rd 1 (.rd 2 (.rd 3 (.rd 4 (.rd 5 (.rd 6 (.ef 7 (.rd 8 (.rd 9 (.rd 10 (.rd 11 (.rd 12 (.rd 13 (.rd 14 .done))))))))))))))) mo (by kernel_rfl) fun w10b s6 _ => ?_)
 have h4o := ((hn.e h0).c h1<|djs<|mm1 hl.lt h4.s).e s6
 refine dR z z (lN (vs := [sl A0 N0 C0]) g_95 z_95 z z fid<|h4o.row 0 1 z)<|dR z z (fd f_144_7 z) ?_
 have h4p := h7.e s6
 refine dR z z (l1 g_142 z fid<|h4p.at z) ?_
 obtain ⟨x10c, e84, hm85⟩ := bdS (ifF hm4f hc2b)
 have h12 := lt_ h2.s h4.s
 have h13 := m1<|lt_ hBw h12
 have h4q := ((hx.e h0).c h1<|lg h13).e s6
 refine dRX z z (at_ (α := Int) d_142 z_3 z z z h4q e84) ?_
 rintro _ ⟨b10d, o10e, cs10f, rfl, h86, h87, h10g⟩
 obtain ⟨rfl, h88⟩ := Int_open h87
 refine dR z z (l1 g_3 z fid<|h86.at0 z)<|dR z z (mv z)<|dR z z (mv z) ?_
 have h4r := ((ho.e h0).c h1<|lg h13).e s6
 have h2g := ((((p3_0.e h2).e h4).e h0).c h1<|lg h13).e s6
 have h2h := lt_ (lt_ (lt_ h12 h0.s) h1.s) s6.s
 obtain ⟨r10h, r10i, r10j, e89, hm4s⟩ := bd3S hm85
 refine dE z z (fc call166 z<|W_w0g (B := B) e89 (lt_ hBw h2h) h4r h88 h2g p4_0) (.inr fun _ _ h => chgB<|h.1) ?_
 rintro _ w10k ⟨s5, rfl, h4t, h4u⟩
 refine dR z z (mv z) ?_
 iterate 3 refine dR z z (ext_ z z) ?_
 iterate 3 refine dR z z (asg z) ?_
 refine pD<|Wo<|Wq<|Wb<|Ws<|Rm z<|R z (not_ z)<|Ra z<|Wn<|Wc z (fun hc2i => ?_) (fun hc2i => ?_)
 ·refine Ws<|R z (bP (parts := []) (cs := [vI 0, sl none 0 0, sl none 0 0]) build_118 z z)<|Rm z<|E0 (fs (cur' := [vI 0, sl none 0 0, sl none 0 0]) z_118 z z ((((h3.e h0).c h1<|djs<|mmr h3.lt).e s6).e s5) z (lb z) (oA z) z) ?_
  rintro _ w10l ⟨h8a, s8b⟩
  refine Ra z<|Ra z<|Wn ?_
  obtain rfl := som (ifT hm4s hc2i)
  exact Wr<|rtO<|ret3 hr (resC g_118 z_118 z h8a z) z z ⟨(bM (bup (bup (bM (bup (bup h2 h4) h0) h1<|m1 h12) s6) s5) s8b.one<|m1 h2.s), none, 0, 0, [], none, 0, 0, [], z, (ii z), onL, onL, p4_0, (ii z), nd0, al0⟩
 have hm4v := ifF hm4s hc2i
 refine Ws<|R z (fd f_144_1 z) ?_
 have h4w := h4p.e s5
 refine R z (l1 g_3 z fid<|h4w.at z)<|R z (eql z z)<|Ra z<|Wn<|Wc z (fun hc2j => ?_) (fun hc2j => ?_)
 ·refine Ws<|Rm z<|Rm z<|Rm z ?_
  have h2k := lt_ h2h s5.s
  obtain ⟨r8c, r10m, r10n, e8d, hm8e⟩ := bd3S (ifT hm4v hc2j)
  refine E z (fc call168 z<|W_w14 (B := B) e8d (lt_ hBw h2k) (h2g.e s5) h4u h4t) ?_
  rintro _ w10o ⟨s4x, a4y, n4z, c50, S8f, a51, n52, c53, S8g, rfl, h8h, h8i, h8j, h8k, h8l, h2l, h1d⟩
  iterate 3 refine R z (ext_ z z) ?_
  refine E0 (fs (cur' := [vI r8c.number, sl a4y n4z c50, sl a51 n52 c53]) z_118 z z (((((h3.e h0).c h1<|djs<|mmr h3.lt).e s6).e s5).e s4x) z (lb z) (oA z) z) ?_
  rintro _ w10p ⟨h8m, s8n⟩
  have h2m := s8n.one
  refine Ra z<|Ra z<|Wn ?_
  obtain rfl := som hm8e
  have h54 := lt_ (lt_ (lt_ h0.s h1.s) s6.s) s5.s
  exact Wr<|rtO<|ret3 hr (resC g_118 z_118 z h8m z) z z ⟨(bM (bup (bup (bup (bM (bup (bup h2 h4) h0) h1<|m1 h12) s6) s5) s4x) h2m<|m1 h2.s), a4y, n4z, c50, S8f, a51, n52, c53, S8g, z, h8h, (h8i.c h2m<|o0n1 (al_ h1d) h3.lt h54), (h8j.c h2m<|o0n1 (ar_ h1d) h3.lt h54), h8k, h8l, (na_ (nl_ h2l) (nr_ h2l)<|nj h2l), (aa_ (o0le (al_ h1d) h2k)<|o0le (ar_ h1d) h2k)⟩
 have hm55 := ifF hm4v hc2j
 refine Ws<|Rm z<|R z (rd_gtr z z)<|Ra z<|Wn<|Wc z (fun hc2n => ?_) (fun hc2n => ?_)
 ·refine Ws<|R z (bP (parts := []) (cs := [vI 0, sl none 0 0, sl none 0 0]) build_118 z z)<|Rm z<|E0 (fs (cur' := [vI 0, sl none 0 0, sl none 0 0]) z_118 z z ((((h3.e h0).c h1<|djs<|mmr h3.lt).e s6).e s5) z (lb z) (oA z) z) ?_
  rintro _ w10q ⟨h8o, s8p⟩
  refine Ra z<|Ra z<|Wn ?_
  obtain rfl := som (ifT hm55 hc2n)
  exact Wr<|rtO<|ret3 hr (resC g_118 z_118 z h8o z) z z ⟨(bM (bup (bup (bM (bup (bup h2 h4) h0) h1<|m1 h12) s6) s5) s8p.one<|m1 h2.s), none, 0, 0, [], none, 0, 0, [], z, (ii z), onL, onL, p4_0, (ii z), nd0, al0⟩
 refine Wk<|Ws<|R z (lN (vs := [sl A0 N0 C0]) g_95 z_95 z z fid<|(h4o.e s5).row 0 1 z)<|R z (lN (vs := (vR x8 a9 na cb ac nd ce af ng ch ai nk cj)) g_144 z_144 z z fid<|h4w.row 0 8 z)<|Rm z<|Rm z<|Rm z ?_
 have h2o := lt_ h2h s5.s
 obtain ⟨r8q, r10r, r10s, e8r, hm8s⟩ := bd3S (ifF hm55 hc2n)
 refine E z (fc call170 z<|ih1.run (B := B) e8r (lt_ hBw h2o) (h4r.e s5) ht hu hp ((((hq.e h0).c h1<|lg h13).e s6).e s5) ((((hv.e h0).c h1<|lg h13).e s6).e s5) ((((hw.e h0).c h1<|lg h13).e s6).e s5) (h4q.e s5) (ii z) h4t (h2g.e s5) h4u) ?_
 rintro _ w10t ⟨s56, a57, n58, c59, S8t, a5a, n5b, c5c, S8u, rfl, h8v, h8w, h8x, h8y, h8z, h2p, h1e⟩
 iterate 3 refine R z (ext_ z z) ?_
 refine E0 (fs (cur' := [vI r8q.number, sl a57 n58 c59, sl a5a n5b c5c]) z_118 z z (((((h3.e h0).c h1<|djs<|mmr h3.lt).e s6).e s5).e s56) z (lb z) (oA z) z) ?_
 rintro _ w10u ⟨h90, s91⟩
 have h2q := s91.one
 refine Ra z<|Ra z<|Wn ?_
 obtain rfl := som hm8s
 have h5d := lt_ (lt_ (lt_ h0.s h1.s) s6.s) s5.s
 exact Wr<|ret3 hr (resC g_118 z_118 z h90 z) z z ⟨(bM (bup (bup (bup (bM (bup (bup h2 h4) h0) h1<|m1 h12) s6) s5) s56) h2q<|m1 h2.s), a57, n58, c59, S8t, a5a, n5b, c5c, S8u, z, h8v, (h8w.c h2q<|o0n1 (al_ h1e) h3.lt h5d), (h8x.c h2q<|o0n1 (ar_ h1e) h3.lt h5d), h8y, h8z, (na_ (nl_ h2p) (nr_ h2p)<|nj h2p), (aa_ (o0le (al_ h1e) h2o)<|o0le (ar_ h1e) h2o)⟩
end Go.Vw

