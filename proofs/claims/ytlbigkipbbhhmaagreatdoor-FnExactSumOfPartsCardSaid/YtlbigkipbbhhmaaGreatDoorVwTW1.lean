import Derived.Test.YtlbigkipbbhhmaaGreatDoorVwTModels
import Derived.Test.YtlbigkipbbhhmaaGreatDoorVwTFacts
import Derived.Test.YtlbigkipbbhhmaaGreatDoorVwTExt
import Derived.Test.YtlbigkipbbhhmaaGreatDoorVwGen6
import Derived.Test.YtlbigkipbbhhmaaGreatDoorVwMap
import Derived.Test.YtlbigkipbbhhmaaGreatDoorVwCut
import Derived.Test.YtlbigkipbbhhmaaGreatDoorVwFun
import Derived.Test.YtlbigkipbbhhmaaGreatDoorVwGoto
import Derived.Test.YtlbigkipbbhhmaaGreatDoorVwSeq
import Derived.Test.YtlbigkipbbhhmaaGreatDoorVwMap
import Derived.Test.YtlbigkipbbhhmaaGreatDoorProg
import Derived.Test.YtlbigkipbbhhmaaGreatDoorVwShort
set_option linter.unusedVariables false
namespace Go.Vw
open Go.RowKit Dat Go.Proofs
open Go.Proofs.Tryz
open Go.Vw renaming WC_seq → Wq, WC_region → Wg, WC.of_KC → Wo, WL_nil → Wl, WC_cond → Wc, WC_ret → Wr, WC_run → Wu, rd_pickT → pT, rd_pickF → pF, rd_field → fd, rd_load1 → l1, rd_loadN → lN, rd_move → mv, rd_assign → asg, rd_lenR → lnR, rd_lss → lss, rd_eql → eql, rd_extract → ext_, rd_buildP → bP, rd_add → add_, rd_inc → inc_, rd_not → not_, rd_at → at_, ef_call → fc, ef_store → fs, ef_box → fb, ef_alloc → fa, sub_refl → sr, crefl → cr, cchgM → cM, bchgM → bM, inI_sub → iS, inI_add → iA, brefl → br, oneAll → oA, bsplit → bs, ltge → lg, inor → io, rd_neq → nq, rd_lenT → lnT, rd_sub → sb_
variable {A0 : Option Addr} {N0 C0 : Nat} {B : Nat} {w0 : World} {A9 : Option Addr} {A8 : Option Addr} {AA : Option Addr} {AB : Option Addr} {N9 C9 : Nat} {N8 C8 : Nat} {NA CA : Nat} {NB CB : Nat} {A2 : Option Addr} {A3 : Option Addr} {A1 : Option Addr} {A4 : Option Addr} {N2 C2 : Nat} {N3 C3 : Nat} {N1 C1 : Nat} {N4 C4 : Nat} {A7 : Option Addr} {N7 C7 : Nat} {A5 : Option Addr} {N5 C5 : Nat} {n : Nat} {A6 : Option Addr} {N6 C6 : Nat} {AI : Option Addr} {AJ : Option Addr} {NI CI : Nat} {NJ CJ : Nat}
def Q0 (w0 : World) (B : Nat) (r : Int) (v : Value) (w' : World) : Prop := Bw w0 w' ∧ (fun r1 => (vI r1) = v ∧ inI r1) r
theorem W_w1m {x1 : List UInt8} {x2 : Int} {res : Int} (hm : M_laws_szByteS x1 x2 = some res) (hBw : B ≤ w0.z) (p1_0 : repS w0 B (sl A0 N0 C0) x1) (p2_0 : inI x2) : CallsR prog 146 [sl A0 N0 C0, vI x2] w0 (Q0 w0 B res) := by
 unfold M_laws_szByteS at hm
 refine goF func146 z z (lb z) fun fn hr => Ws (Ra z (Wn (Ws (Rm z (Rm z (R z (lnR d_25 z p1_0) (R z (sb_ z z) (Ra z (Wn (Wq (Ws (Rm z (R z (lss z z) (Wn (Wc z (fun hc10 => ?_) (fun hc10 => ?_))))))))))))))))
 ·refine Ws (Ra z (Wn ?_))
  obtain rfl := som (ifT hm hc10)
  exact Wr (ret1 hr z ⟨(br w0), z, (ii z)⟩)
 refine Wk (Ws (Rm z (Ra z (Wn ?_))))
 obtain rfl := som (ifF hm hc10)
 exact Wr (ret1 hr z ⟨(br w0), z, (iS _ _)⟩)
theorem W_w1n {x1 : List Str} {x2 : Int} {res : Int} (hm : M_laws_szStringS x1 x2 = some res) (hBw : B ≤ w0.z) (p1_0 : repS w0 B (sl A0 N0 C0) x1) (p2_0 : inI x2) : CallsR prog 147 [sl A0 N0 C0, vI x2] w0 (Q0 w0 B res) := by
 unfold M_laws_szStringS at hm
 refine goF func147 z z (lb z) fun fn hr => Ws (Ra z (Wn (Ws (Rm z (Rm z (R z (lnR d_77 z p1_0) (R z (sb_ z z) (Ra z (Wn (Wq (Ws (Rm z (R z (lss z z) (Wn (Wc z (fun hc12 => ?_) (fun hc12 => ?_))))))))))))))))
 ·refine Ws (Ra z (Wn ?_))
  obtain rfl := som (ifT hm hc12)
  exact Wr (ret1 hr z ⟨(br w0), z, (ii z)⟩)
 refine Wk (Wq (Ws (Ra z (Wn ?_))))
 obtain ⟨u1o, hu1b, hm16⟩ := bdS (ifF hm hc12)
 refine WC_forN (σ := Int) (ρ := Int) (fun (k13 : Nat) (x10 : Int) a w => Sat 28 [(0, sl A0 N0 C0), (1, vI x10), (5, (vI ((k13 : Nat) : Int)))] a ∧ Below w0.z w0 w ∧ inI x10) (fun (x10 : Int) a w => Sat 28 [(1, vI x10)] a ∧ Below w0.z w0 w ∧ inI x10) (fun r ex a w => ex = .ret ∧ RetPost prog fn (Q0 w0 B r) a w) hu1b ?_ ?_ ?_ ?_ ?_
 ·exact fun _ q => ⟨(q.k (s3 z z z)), (br w0), (iS _ _)⟩
 ·rintro k13 x10 a1p w1q o1r hk17 ⟨hS1c, s14, h11⟩ hm1d
  refine Wu ?_ hS1c
  refine Wq (Ws (Rm z (Rm z ?_)))
  have h18 := p1_0.ext s14
  refine R z (lnR d_77 z h18) (R z (lss z z) (Wn (Wc z (fun _ => ?_) (fun hc => (nolt hk17 hc).elim))))
  refine Wk (Wq (WC_block (Ws (Rm z (Rm z (Rm z ?_))))))
  obtain ⟨x1e, e1f, hm19⟩ := bdS hm1d
  refine RX z (at_ (α := Str) d_77 z_9 z z z h18 e1f) ?_
  rintro _ ⟨b1s, o1t, cs1u, rfl, h1g, h1h, h1v⟩
  obtain ⟨rfl, h1w⟩ := Str_open h1h
  refine R z (l1 g_9 z fid (h1g.at0 z)) (R z (lnT d_9 z) (R z (sb_ z z) (Ra z (Wn (Ws (Rm z (R z (lss z z) (Wn (Wc z (fun hc15 => ?_) (fun hc15 => ?_))))))))))
  ·exact Ws (Ra z (Wn (Wr (rtO (QO_retL (som (ifT hm19 hc15)).symm (ret1 hr z ⟨s14, z, (ii z)⟩))))))
  exact Wk (Wg (Rm z (R z (inc_ hk17 (lt_ (repS.len p1_0) LEN_le) z z) (Ra z (Wl (fun _ q => ⟨isub x10 (x1e.b.length : Int), (som (ifF hm19 hc15)).symm, ⟨(q.k (s3 z z z)), s14, (iS _ _)⟩⟩))))))
 ·rintro x10 a1x w1y ⟨hS1i, s1a, h11⟩
  refine Wu ?_ hS1i
  refine Wq (Ws (Rm z (Rm z (R z (lnR d_77 z (p1_0.ext s1a)) (R z (lss z z) (Wn (Wc z (fun hc => (noltt hc).elim) (fun _ => ?_))))))))
  exact WC_exit (fun a' ha' => ⟨rfl, ⟨(Sat.weaken ha' (s1 z)), s1a, h11⟩⟩)
 ·rintro x10 a1j w1z rfl ⟨hS20, s1k, h11⟩
  have hm1l := elL hm16
  revert a1j
  refine Wo (Ws (Rm z (Ra z (Wn ?_))))
  obtain rfl := som hm1l
  exact Wr (ret1 hr z ⟨s1k, z, h11⟩)
 rintro r21 ex22 a23 w24 rfl ⟨rfl, hq1m⟩
 have hm1n := elR hm16
 obtain rfl := som hm1n
 exact ⟨hq1m, z⟩
theorem W_w0u {x1 : List Int} {x2 : Int} {res : Int} (hm : M_laws_szIntS x1 x2 = some res) (hBw : B ≤ w0.z) (p1_0 : repS w0 B (sl A0 N0 C0) x1) (p2_0 : inI x2) : CallsR prog 148 [sl A0 N0 C0, vI x2] w0 (Q0 w0 B res) := by
 unfold M_laws_szIntS at hm
 refine goF func148 z z (lb z) fun fn hr => Ws (Ra z (Wn (Ws (Rm z (Rm z (R z (lnR d_78 z p1_0) (R z (sb_ z z) (Ra z (Wn (Wq (Ws (Rm z (R z (lss z z) (Wn (Wc z (fun hc10 => ?_) (fun hc10 => ?_))))))))))))))))
 ·refine Ws (Ra z (Wn ?_))
  obtain rfl := som (ifT hm hc10)
  exact Wr (ret1 hr z ⟨(br w0), z, (ii z)⟩)
 refine Wk (Ws (Rm z (Ra z (Wn ?_))))
 obtain rfl := som (ifF hm hc10)
 exact Wr (ret1 hr z ⟨(br w0), z, (iS _ _)⟩)
theorem W_w1o {x1 : Rule} {x2 : Int} {res : Int} (hm : M_laws_szRule x1 x2 = some res) (hBw : B ≤ w0.z) (p1_0 : x1.name.b.length ≤ LEN) (p1_1 : inI x1.kind) (p1_2 : inI x1.size) (p1_4 : repS w0 B (sl A9 N9 C9) x1.bytes) (p1_5 : repS w0 B (sl A8 N8 C8) x1.names) (p1_6 : repS w0 B (sl AA NA CA) x1.tags) (p1_7 : repS w0 B (sl AB NB CB) x1.kids) (p2_0 : inI x2) : CallsR prog 100 [(.agg #[Str.v x1.name, vI x1.kind, vI x1.size, vB x1.little, sl A9 N9 C9, sl A8 N8 C8, sl AA NA CA, sl AB NB CB]), vI x2] w0 (Q0 w0 B res) := by
 unfold M_laws_szRule at hm
 refine goF func100 z z (lb z) fun fn hr => Ws (E z (fb z) ?_)
 rintro _ w1k ⟨rfl, h1a⟩
 have h10 := h1a.below
 have h14 : Blk w1k w0.z (vR x1 A9 N9 C9 A8 N8 C8 AA NA CA AB NB CB) := h1a.blk
 refine Ra z (Wn (Ws (Rm z (R z (fd f_128_0 z) (R z (l1 g_9 z fid (h14.at z)) (R z (lnT d_9 z) (R z (sb_ z z) (Ra z (Wn (Wq (Ws (Rm z (R z (lss z z) (Wn (Wc z (fun hc15 => ?_) (fun hc15 => ?_))))))))))))))))
 ·refine Ws (Ra z (Wn ?_))
  obtain rfl := som (ifT hm hc15)
  exact Wr (ret1 hr z ⟨h10, z, (ii z)⟩)
 refine Wk (Ws (R z (fd f_128_4 z) (R z (l1 g_25 z fid (h14.at z)) (Rm z ?_))))
 obtain ⟨r1t, e1l, hm1b⟩ := bdS (ifF hm hc15)
 refine E z (fc call146 z (W_w1m (B := B) e1l (lt_ hBw h10.size) (p1_4.ext h10) (iS _ _))) ?_
 rintro _ w1u ⟨s11, rfl, h1m⟩
 refine Ra z (Wn (Wq (Ws (Rm z (R z (lss z z) (Wn (Wc z (fun hc16 => ?_) (fun hc16 => ?_))))))))
 ·refine Ws (Ra z (Wn ?_))
  obtain rfl := som (ifT hm1b hc16)
  exact Wr (ret1 hr z ⟨(bup h10 s11), z, (ii z)⟩)
 refine Wk (Ws (R z (fd f_128_5 z) ?_))
 have h1c := h14.ext s11
 refine R z (l1 g_77 z fid (h1c.at z)) (Rm z ?_)
 have h1d := lt_ h10.size s11.size
 obtain ⟨r1v, e1n, hm1e⟩ := bdS (ifF hm1b hc16)
 refine E z (fc call147 z (W_w1n (B := B) e1n (lt_ hBw h1d) ((p1_5.ext h10).ext s11) h1m)) ?_
 rintro _ w1w ⟨s12, rfl, h1o⟩
 refine Ra z (Wn (Wq (Ws (Rm z (R z (lss z z) (Wn (Wc z (fun hc17 => ?_) (fun hc17 => ?_))))))))
 ·refine Ws (Ra z (Wn ?_))
  obtain rfl := som (ifT hm1e hc17)
  exact Wr (ret1 hr z ⟨(bup (bup h10 s11) s12), z, (ii z)⟩)
 refine Wk (Ws (R z (fd f_128_6 z) ?_))
 have h1f := h1c.ext s12
 refine R z (l1 g_78 z fid (h1f.at z)) (Rm z ?_)
 have h1g := lt_ h1d s12.size
 obtain ⟨r1x, e1p, hm1h⟩ := bdS (ifF hm1e hc17)
 refine E z (fc call148 z (W_w0u (B := B) e1p (lt_ hBw h1g) (((p1_6.ext h10).ext s11).ext s12) h1o)) ?_
 rintro _ w1y ⟨s13, rfl, h1q⟩
 refine Ra z (Wn (Wq (Ws (Rm z (R z (lss z z) (Wn (Wc z (fun hc18 => ?_) (fun hc18 => ?_))))))))
 ·refine Ws (Ra z (Wn ?_))
  obtain rfl := som (ifT hm1h hc18)
  exact Wr (ret1 hr z ⟨(bup (bup (bup h10 s11) s12) s13), z, (ii z)⟩)
 refine Wk (Ws (R z (fd f_128_7 z) (R z (l1 g_78 z fid ((h1f.ext s13).at z)) (Rm z ?_))))
 obtain ⟨r1z, e1r, hm1i⟩ := bdS (ifF hm1h hc18)
 refine E z (fc call148 z (W_w0u (B := B) e1r (lt_ hBw (lt_ h1g s13.size)) ((((p1_7.ext h10).ext s11).ext s12).ext s13) h1q)) ?_
 rintro _ w20 ⟨s1j, rfl, h1s⟩
 refine Ra z (Wn (Wq (Ws (Rm z (R z (lss z z) (Wn (Wc z (fun hc19 => ?_) (fun hc19 => ?_))))))))
 ·refine Ws (Ra z (Wn ?_))
  obtain rfl := som (ifT hm1i hc19)
  exact Wr (ret1 hr z ⟨(bup (bup (bup (bup h10 s11) s12) s13) s1j), z, (ii z)⟩)
 refine Wk (Ws (Rm z (Ra z (Wn ?_))))
 obtain rfl := som (ifF hm1i hc19)
 exact Wr (ret1 hr z ⟨(bup (bup (bup (bup h10 s11) s12) s13) s1j), z, h1s⟩)
theorem W_w1p {x1 : List Rule} {x2 : Int} {res : Int} (hm : M_laws_szRuleS x1 x2 = some res) (hBw : B ≤ w0.z) (p1_0 : repS w0 B (sl A0 N0 C0) x1) (p2_0 : inI x2) : CallsR prog 52 [sl A0 N0 C0, vI x2] w0 (Q0 w0 B res) := by
 unfold M_laws_szRuleS at hm
 refine goF func52 z z (lb z) fun fn hr => Ws (Ra z (Wn (Ws (Rm z (Rm z (R z (lnR d_22 z p1_0) (R z (sb_ z z) (Ra z (Wn (Wq (Ws (Rm z (R z (lss z z) (Wn (Wc z (fun hc14 => ?_) (fun hc14 => ?_))))))))))))))))
 ·refine Ws (Ra z (Wn ?_))
  obtain rfl := som (ifT hm hc14)
  exact Wr (ret1 hr z ⟨(br w0), z, (ii z)⟩)
 refine Wk (Wq (Ws (Ra z (Wn ?_))))
 obtain ⟨u2c, hu1d, hm17⟩ := bdS (ifF hm hc14)
 refine WC_forN (σ := Int) (ρ := Int) (fun (k15 : Nat) (x10 : Int) a w => Sat 27 [(0, sl A0 N0 C0), (1, vI x10), (5, (vI ((k15 : Nat) : Int)))] a ∧ Below w0.z w0 w ∧ inI x10) (fun (x10 : Int) a w => Sat 27 [(1, vI x10)] a ∧ Below w0.z w0 w ∧ inI x10) (fun r ex a w => ex = .ret ∧ RetPost prog fn (Q0 w0 B r) a w) hu1d ?_ ?_ ?_ ?_ ?_
 ·exact fun _ q => ⟨(q.k (s3 z z z)), (br w0), (iS _ _)⟩
 ·rintro k15 x10 a2d w2e o2f hk18 ⟨hS1e, s12, h11⟩ hm1f
  refine Wu ?_ hS1e
  refine Wq (Ws (Rm z (Rm z ?_)))
  have h19 := p1_0.ext s12
  refine R z (lnR d_22 z h19) (R z (lss z z) (Wn (Wc z (fun _ => ?_) (fun hc => (nolt hk18 hc).elim))))
  refine Wk (Wq (WC_block (Ws (Rm z (Rm z ?_)))))
  obtain ⟨x13, e1g, hm1h⟩ := bdS hm1f
  refine RX z (at_ (α := Rule) d_22 z_128 z z z h19 e1g) ?_
  rintro _ ⟨b2g, o2h, cs2i, rfl, h1i, h1j, h2j⟩
  obtain ⟨a1k, n1l, c1m, a1n, n1o, c1p, a1q, n1r, c1s, a1t, n1u, c1v, rfl, h1w, h1x, h1y, h1z, h20, h21, h22⟩ := Rule_open h1j
  refine R z (lN (vs := (vR x13 a1k n1l c1m a1n n1o c1p a1q n1r c1s a1t n1u c1v)) g_128 z_128 z z fid h1i) (Rm z ?_)
  obtain ⟨r23, e24, hm1a⟩ := bdS hm1h
  refine E z (fc call100 z (W_w1o (B := B) e24 (lt_ hBw s12.size) h1w h1x h1y h1z h20 h21 h22 h11)) ?_
  rintro _ w2k ⟨s1b, rfl, h25⟩
  refine Ra z (Wn (Ws (Rm z (R z (lss z z) (Wn (Wc z (fun hc16 => ?_) (fun hc16 => ?_)))))))
  ·exact Ws (Ra z (Wn (Wr (rtO (QO_retL (som (ifT hm1a hc16)).symm (ret1 hr z ⟨(bup s12 s1b), z, (ii z)⟩))))))
  exact Wk (Wg (Rm z (R z (inc_ hk18 (lt_ (repS.len p1_0) LEN_le) z z) (Ra z (Wl (fun _ q => ⟨r23, (som (ifF hm1a hc16)).symm, ⟨(q.k (s3 z z z)), (bup s12 s1b), h25⟩⟩))))))
 ·rintro x10 a2l w2m ⟨hS26, s1c, h11⟩
  refine Wu ?_ hS26
  refine Wq (Ws (Rm z (Rm z (R z (lnR d_22 z (p1_0.ext s1c)) (R z (lss z z) (Wn (Wc z (fun hc => (noltt hc).elim) (fun _ => ?_))))))))
  exact WC_exit (fun a' ha' => ⟨rfl, ⟨(Sat.weaken ha' (s1 z)), s1c, h11⟩⟩)
 ·rintro x10 a27 w2n rfl ⟨hS2o, s28, h11⟩
  have hm29 := elL hm17
  revert a27
  refine Wo (Ws (Rm z (Ra z (Wn ?_))))
  obtain rfl := som hm29
  exact Wr (ret1 hr z ⟨s28, z, h11⟩)
 rintro r2p ex2q a2r w2s rfl ⟨rfl, hq2a⟩
 have hm2b := elR hm17
 obtain rfl := som hm2b
 exact ⟨hq2a, z⟩
theorem W_w1q {x1 : Desc} {x2 : Int} {res : Int} (hm : M_laws_szDescription x1 x2 = some res) (hBw : B ≤ w0.z) (p1_0 : repS w0 B (sl A0 N0 C0) x1.rules) (p2_0 : inI x2) : CallsR prog 9 [(.agg #[sl A0 N0 C0]), vI x2] w0 (Q0 w0 B res) := by
 unfold M_laws_szDescription at hm
 refine goF func9 z z (lb z) fun fn hr => Ws (E z (fb z) ?_)
 rintro _ w15 ⟨rfl, h12⟩
 have h10 := h12.below
 have h16 : Blk w15 w0.z [sl A0 N0 C0] := h12.blk
 refine Ra z (Wn (Ws (R z (fd f_24_0 z) (R z (l1 g_22 z fid (h16.at z)) (Rm z ?_)))))
 obtain ⟨r19, e17, hm13⟩ := bdS hm
 refine E z (fc call52 z (W_w1p (B := B) e17 (lt_ hBw h10.size) (p1_0.ext h10) p2_0)) ?_
 rintro _ w1a ⟨s14, rfl, h18⟩
 refine Ra z (Wn (Wq (Ws (Rm z (R z (lss z z) (Wn (Wc z (fun hc11 => ?_) (fun hc11 => ?_))))))))
 ·refine Ws (Ra z (Wn ?_))
  obtain rfl := som (ifT hm13 hc11)
  exact Wr (ret1 hr z ⟨(bup h10 s14), z, (ii z)⟩)
 refine Wk (Ws (Rm z (Ra z (Wn ?_))))
 obtain rfl := som (ifF hm13 hc11)
 exact Wr (ret1 hr z ⟨(bup h10 s14), z, h18⟩)
def Q1 (w0 : World) (B : Nat) (r : (List UInt8)) (v : Value) (w' : World) : Prop := Bw w0 w' ∧ (fun r1 => ∃ a1 n1 c1 S1, (sl a1 n1 c1) = v ∧ ownS w' S1 (sl a1 n1 c1) r1 ∧ S1.Nodup ∧ (∀ k ∈ S1, w0.z ≤ k)) r
theorem W_w0b {x1 : List UInt8} {res : (List UInt8)} (hm : M_laws_toByteS x1 = some res) (hBw : B ≤ w0.z) (p1_0 : repS w0 B (sl A0 N0 C0) x1) : CallsR prog 12 [sl A0 N0 C0] w0 (Q1 w0 B res) := by
 unfold M_laws_toByteS at hm
 refine goF func12 z z (lb z) fun fn hr => Ws (Ra z (Wn (Ws (Rm z (R z (lnR d_25 z p1_0) ?_)))))
 obtain ⟨x2f, e1j, hm1k⟩ := bdS hm
 refine E z (ef_makeN (α := UInt8) el_25 (fun _ => UInt8_own0) e1j z z) ?_
 rintro _ w11 ⟨a12, n13, c14, rfl, s19, h1l⟩
 refine Ra z (Wn (Wq (Ws (Ra z (Wn ?_)))))
 obtain ⟨u2g, hu1m, hm1c⟩ := bdS hm1k
 refine WC_forN (σ := (List UInt8)) (ρ := (List UInt8)) (fun (k1a : Nat) (x15 : List UInt8) a w => ∃  (S10 : List Nat), Sat 22 [(0, sl A0 N0 C0), (3, sl a12 n13 c14), (4, (vI ((k1a : Nat) : Int)))] a ∧ Chg (· ∈ [w0.z]) w11 w ∧ ownS w S10 (sl a12 n13 c14) x15 ∧ S10.Nodup ∧ (∀ k ∈ S10, k ∈ [w0.z] ∨ w11.z ≤ k)) (fun (x15 : List UInt8) a w => ∃  (S10 : List Nat), Sat 22 [(3, sl a12 n13 c14)] a ∧ Chg (· ∈ [w0.z]) w11 w ∧ ownS w S10 (sl a12 n13 c14) x15 ∧ S10.Nodup ∧ (∀ k ∈ S10, k ∈ [w0.z] ∨ w11.z ≤ k)) (fun r ex a w => ex = .ret ∧ RetPost prog fn (Q1 w0 B r) a w) hu1m ?_ ?_ ?_ ?_ ?_
 ·exact fun _ q => ⟨[w0.z], (q.k (s3 z z z)), (cr [w0.z] w11), h1l, nd_one, (io sr)⟩
 ·rintro k1a x15 a2h w1n o2i hk1d ⟨S10, hS1o, s1b, h16, h17, h18⟩ hm1p
  refine Wu ?_ hS1o
  refine Wq (Ws (Rm z (Rm z ?_)))
  have h1e := (p1_0.ext s19).chg s1b (lg (mem1le hBw))
  refine R z (lnR d_25 z h1e) (R z (lss z z) (Wn (Wc z (fun _ => ?_) (fun hc => (nolt hk1d hc).elim))))
  refine Wk (Wq (WC_block (Wg (Rm z (Rm z (Rm z (Rm z ?_)))))))
  obtain ⟨x2j, e1q, hm1r⟩ := bdS hm1p
  refine RX z (at_ (α := UInt8) d_25 z_5 z z z h1e e1q) ?_
  rintro _ ⟨b2k, o2l, cs2m, rfl, h1s, h1t, h2n⟩
  obtain rfl := UInt8_open h1t
  refine R z (l1 g_5 z fid (h1s.at0 z)) ?_
  obtain ⟨x1u, e1f, hm1v⟩ := bdS hm1r
  refine RX z (rd_atU (α := UInt8) d_25 z_5 z z h16 e1f) ?_
  rintro _ ⟨g2o, h1w, rfl⟩
  refine E0 (ef_setN (α := UInt8) z_5 z h1w z z z e1f h16 h17 UInt8_own all_nil nd_nil) ?_
  rintro _ w1x ⟨S1g, s1y, h1z, h20, h21⟩
  refine Wn (Wg (Rm z (R z (inc_ hk1d (lt_ (repS.len p1_0) LEN_le) z z) (Ra z (Wl ?_)))))
  have h1h : ∀ k ∈ S10, k ∈ [w0.z] ∨ w11.z ≤ k := or1 h18 (io sr) (leor lr)
  have h22 : ∀ k ∈ S1g, k ∈ [w0.z] ∨ w11.z ≤ k := or2 h21 h1h all_nil (leor s1b.size)
  have h23 : Chg (· ∈ [w0.z]) w11 w1n := cM (cr [w0.z] w11) s1b (io sr)
  have h24 : Chg (· ∈ [w0.z]) w11 w1x := cM h23 s1y h1h
  exact fun _ q => ⟨x1u, (som hm1v).symm, ⟨S1g, (q.k (s3 z z z)), h24, h1z, h20, h22⟩⟩
 ·rintro x15 a2p w25 ⟨S10, hS26, s1i, h16, h17, h18⟩
  refine Wu ?_ hS26
  refine Wq (Ws (Rm z (Rm z (R z (lnR d_25 z ((p1_0.ext s19).chg s1i (lg (mem1le hBw)))) (R z (lss z z) (Wn (Wc z (fun hc => (noltt hc).elim) (fun _ => ?_))))))))
  have h27 : ∀ k ∈ S10, k ∈ [w0.z] ∨ w11.z ≤ k := or1 h18 (io sr) (leor lr)
  have h28 : Chg (· ∈ [w0.z]) w11 w25 := cM (cr [w0.z] w11) s1i (io sr)
  exact WC_exit (fun a' ha' => ⟨rfl, ⟨S10, (Sat.weaken ha' (s1 z)), h28, h16, h17, h27⟩⟩)
 ·rintro x15 a29 w2q rfl ⟨S10, hS2r, s2a, h16, h17, h18⟩
  have hm2b := elL hm1c
  revert a29
  refine Wo (Ws (Rm z (Ra z (Wn ?_))))
  obtain rfl := som hm2b
  have h2c : ∀ k ∈ S10, w0.z ≤ k := or1 h18 (mem1 lr) (lele s19.size)
  exact Wr (ret1 hr z ⟨(bM s19 s2a (mem1 lr)), a12, n13, c14, S10, z, h16, h17, h2c⟩)
 rintro r2s ex2t a2u w2v rfl ⟨rfl, hq2d⟩
 have hm2e := elR hm1c
 obtain rfl := som hm2e
 exact ⟨hq2d, z⟩
def Q2 (w0 : World) (B : Nat) (r : (List Str)) (v : Value) (w' : World) : Prop := Bw w0 w' ∧ (fun r1 => ∃ a1 n1 c1 S1, (sl a1 n1 c1) = v ∧ ownS w' S1 (sl a1 n1 c1) r1 ∧ S1.Nodup ∧ (∀ k ∈ S1, w0.z ≤ k)) r
theorem W_w1r {x1 : List Str} {res : (List Str)} (hm : M_laws_toStringS x1 = some res) (hBw : B ≤ w0.z) (p1_0 : repS w0 B (sl A0 N0 C0) x1) : CallsR prog 149 [sl A0 N0 C0] w0 (Q2 w0 B res) := by
 unfold M_laws_toStringS at hm
 refine goF func149 z z (lb z) fun fn hr => Ws (Ra z (Wn (Ws (Rm z (R z (lnR d_77 z p1_0) ?_)))))
 obtain ⟨x2g, e1j, hm1k⟩ := bdS hm
 refine E z (ef_makeN (α := Str) el_77 (fun _ => (Str_own (lb z))) e1j z z) ?_
 rintro _ w11 ⟨a12, n13, c14, rfl, s19, h1l⟩
 refine Ra z (Wn (Wq (Ws (Ra z (Wn ?_)))))
 obtain ⟨u2h, hu1m, hm1c⟩ := bdS hm1k
 refine WC_forN (σ := (List Str)) (ρ := (List Str)) (fun (k1a : Nat) (x15 : List Str) a w => ∃  (S10 : List Nat), Sat 22 [(0, sl A0 N0 C0), (3, sl a12 n13 c14), (4, (vI ((k1a : Nat) : Int)))] a ∧ Chg (· ∈ [w0.z]) w11 w ∧ ownS w S10 (sl a12 n13 c14) x15 ∧ S10.Nodup ∧ (∀ k ∈ S10, k ∈ [w0.z] ∨ w11.z ≤ k)) (fun (x15 : List Str) a w => ∃  (S10 : List Nat), Sat 22 [(3, sl a12 n13 c14)] a ∧ Chg (· ∈ [w0.z]) w11 w ∧ ownS w S10 (sl a12 n13 c14) x15 ∧ S10.Nodup ∧ (∀ k ∈ S10, k ∈ [w0.z] ∨ w11.z ≤ k)) (fun r ex a w => ex = .ret ∧ RetPost prog fn (Q2 w0 B r) a w) hu1m ?_ ?_ ?_ ?_ ?_
 ·exact fun _ q => ⟨[w0.z], (q.k (s3 z z z)), (cr [w0.z] w11), h1l, nd_one, (io sr)⟩
 ·rintro k1a x15 a2i w1n o2j hk1d ⟨S10, hS1o, s1b, h16, h17, h18⟩ hm1p
  refine Wu ?_ hS1o
  refine Wq (Ws (Rm z (Rm z ?_)))
  have h1e := (p1_0.ext s19).chg s1b (lg (mem1le hBw))
  refine R z (lnR d_77 z h1e) (R z (lss z z) (Wn (Wc z (fun _ => ?_) (fun hc => (nolt hk1d hc).elim))))
  refine Wk (Wq (WC_block (Wg (Rm z (Rm z (Rm z (Rm z ?_)))))))
  obtain ⟨x2k, e1q, hm1r⟩ := bdS hm1p
  refine RX z (at_ (α := Str) d_77 z_9 z z z h1e e1q) ?_
  rintro _ ⟨b2l, o2m, cs2n, rfl, h1s, h1t, h2o⟩
  obtain ⟨rfl, h1u⟩ := Str_open h1t
  refine R z (l1 g_9 z fid (h1s.at0 z)) ?_
  obtain ⟨x1v, e1f, hm1w⟩ := bdS hm1r
  refine RX z (rd_atU (α := Str) d_77 z_9 z z h16 e1f) ?_
  rintro _ ⟨g2p, h1x, rfl⟩
  refine E0 (ef_setN (α := Str) z_9 z h1x z z z e1f h16 h17 (Str_own h1u) all_nil nd_nil) ?_
  rintro _ w1y ⟨S1g, s1z, h20, h21, h22⟩
  refine Wn (Wg (Rm z (R z (inc_ hk1d (lt_ (repS.len p1_0) LEN_le) z z) (Ra z (Wl ?_)))))
  have h1h : ∀ k ∈ S10, k ∈ [w0.z] ∨ w11.z ≤ k := or1 h18 (io sr) (leor lr)
  have h23 : ∀ k ∈ S1g, k ∈ [w0.z] ∨ w11.z ≤ k := or2 h22 h1h all_nil (leor s1b.size)
  have h24 : Chg (· ∈ [w0.z]) w11 w1n := cM (cr [w0.z] w11) s1b (io sr)
  have h25 : Chg (· ∈ [w0.z]) w11 w1y := cM h24 s1z h1h
  exact fun _ q => ⟨x1v, (som hm1w).symm, ⟨S1g, (q.k (s3 z z z)), h25, h20, h21, h23⟩⟩
 ·rintro x15 a2q w26 ⟨S10, hS27, s1i, h16, h17, h18⟩
  refine Wu ?_ hS27
  refine Wq (Ws (Rm z (Rm z (R z (lnR d_77 z ((p1_0.ext s19).chg s1i (lg (mem1le hBw)))) (R z (lss z z) (Wn (Wc z (fun hc => (noltt hc).elim) (fun _ => ?_))))))))
  have h28 : ∀ k ∈ S10, k ∈ [w0.z] ∨ w11.z ≤ k := or1 h18 (io sr) (leor lr)
  have h29 : Chg (· ∈ [w0.z]) w11 w26 := cM (cr [w0.z] w11) s1i (io sr)
  exact WC_exit (fun a' ha' => ⟨rfl, ⟨S10, (Sat.weaken ha' (s1 z)), h29, h16, h17, h28⟩⟩)
 ·rintro x15 a2a w2r rfl ⟨S10, hS2s, s2b, h16, h17, h18⟩
  have hm2c := elL hm1c
  revert a2a
  refine Wo (Ws (Rm z (Ra z (Wn ?_))))
  obtain rfl := som hm2c
  have h2d : ∀ k ∈ S10, w0.z ≤ k := or1 h18 (mem1 lr) (lele s19.size)
  exact Wr (ret1 hr z ⟨(bM s19 s2b (mem1 lr)), a12, n13, c14, S10, z, h16, h17, h2d⟩)
 rintro r2t ex2u a2v w2w rfl ⟨rfl, hq2e⟩
 have hm2f := elR hm1c
 obtain rfl := som hm2f
 exact ⟨hq2e, z⟩
def Q3 (w0 : World) (B : Nat) (r : (List Int)) (v : Value) (w' : World) : Prop := Bw w0 w' ∧ (fun r1 => ∃ a1 n1 c1 S1, (sl a1 n1 c1) = v ∧ ownS w' S1 (sl a1 n1 c1) r1 ∧ S1.Nodup ∧ (∀ k ∈ S1, w0.z ≤ k)) r
theorem W_w0v {x1 : List Int} {res : (List Int)} (hm : M_laws_toIntS x1 = some res) (hBw : B ≤ w0.z) (p1_0 : repS w0 B (sl A0 N0 C0) x1) : CallsR prog 150 [sl A0 N0 C0] w0 (Q3 w0 B res) := by
 unfold M_laws_toIntS at hm
 refine goF func150 z z (lb z) fun fn hr => Ws (Ra z (Wn (Ws (Rm z (R z (lnR d_78 z p1_0) ?_)))))
 obtain ⟨x2g, e1j, hm1k⟩ := bdS hm
 refine E z (ef_makeN (α := Int) el_78 (fun _ => (Int_own (ii z))) e1j z z) ?_
 rintro _ w11 ⟨a12, n13, c14, rfl, s19, h1l⟩
 refine Ra z (Wn (Wq (Ws (Ra z (Wn ?_)))))
 obtain ⟨u2h, hu1m, hm1c⟩ := bdS hm1k
 refine WC_forN (σ := (List Int)) (ρ := (List Int)) (fun (k1a : Nat) (x15 : List Int) a w => ∃  (S10 : List Nat), Sat 22 [(0, sl A0 N0 C0), (3, sl a12 n13 c14), (4, (vI ((k1a : Nat) : Int)))] a ∧ Chg (· ∈ [w0.z]) w11 w ∧ ownS w S10 (sl a12 n13 c14) x15 ∧ S10.Nodup ∧ (∀ k ∈ S10, k ∈ [w0.z] ∨ w11.z ≤ k)) (fun (x15 : List Int) a w => ∃  (S10 : List Nat), Sat 22 [(3, sl a12 n13 c14)] a ∧ Chg (· ∈ [w0.z]) w11 w ∧ ownS w S10 (sl a12 n13 c14) x15 ∧ S10.Nodup ∧ (∀ k ∈ S10, k ∈ [w0.z] ∨ w11.z ≤ k)) (fun r ex a w => ex = .ret ∧ RetPost prog fn (Q3 w0 B r) a w) hu1m ?_ ?_ ?_ ?_ ?_
 ·exact fun _ q => ⟨[w0.z], (q.k (s3 z z z)), (cr [w0.z] w11), h1l, nd_one, (io sr)⟩
 ·rintro k1a x15 a2i w1n o2j hk1d ⟨S10, hS1o, s1b, h16, h17, h18⟩ hm1p
  refine Wu ?_ hS1o
  refine Wq (Ws (Rm z (Rm z ?_)))
  have h1e := (p1_0.ext s19).chg s1b (lg (mem1le hBw))
  refine R z (lnR d_78 z h1e) (R z (lss z z) (Wn (Wc z (fun _ => ?_) (fun hc => (nolt hk1d hc).elim))))
  refine Wk (Wq (WC_block (Wg (Rm z (Rm z (Rm z (Rm z ?_)))))))
  obtain ⟨x2k, e1q, hm1r⟩ := bdS hm1p
  refine RX z (at_ (α := Int) d_78 z_3 z z z h1e e1q) ?_
  rintro _ ⟨b2l, o2m, cs2n, rfl, h1s, h1t, h2o⟩
  obtain ⟨rfl, h1u⟩ := Int_open h1t
  refine R z (l1 g_3 z fid (h1s.at0 z)) ?_
  obtain ⟨x1v, e1f, hm1w⟩ := bdS hm1r
  refine RX z (rd_atU (α := Int) d_78 z_3 z z h16 e1f) ?_
  rintro _ ⟨g2p, h1x, rfl⟩
  refine E0 (ef_setN (α := Int) z_3 z h1x z z z e1f h16 h17 (Int_own h1u) all_nil nd_nil) ?_
  rintro _ w1y ⟨S1g, s1z, h20, h21, h22⟩
  refine Wn (Wg (Rm z (R z (inc_ hk1d (lt_ (repS.len p1_0) LEN_le) z z) (Ra z (Wl ?_)))))
  have h1h : ∀ k ∈ S10, k ∈ [w0.z] ∨ w11.z ≤ k := or1 h18 (io sr) (leor lr)
  have h23 : ∀ k ∈ S1g, k ∈ [w0.z] ∨ w11.z ≤ k := or2 h22 h1h all_nil (leor s1b.size)
  have h24 : Chg (· ∈ [w0.z]) w11 w1n := cM (cr [w0.z] w11) s1b (io sr)
  have h25 : Chg (· ∈ [w0.z]) w11 w1y := cM h24 s1z h1h
  exact fun _ q => ⟨x1v, (som hm1w).symm, ⟨S1g, (q.k (s3 z z z)), h25, h20, h21, h23⟩⟩
 ·rintro x15 a2q w26 ⟨S10, hS27, s1i, h16, h17, h18⟩
  refine Wu ?_ hS27
  refine Wq (Ws (Rm z (Rm z (R z (lnR d_78 z ((p1_0.ext s19).chg s1i (lg (mem1le hBw)))) (R z (lss z z) (Wn (Wc z (fun hc => (noltt hc).elim) (fun _ => ?_))))))))
  have h28 : ∀ k ∈ S10, k ∈ [w0.z] ∨ w11.z ≤ k := or1 h18 (io sr) (leor lr)
  have h29 : Chg (· ∈ [w0.z]) w11 w26 := cM (cr [w0.z] w11) s1i (io sr)
  exact WC_exit (fun a' ha' => ⟨rfl, ⟨S10, (Sat.weaken ha' (s1 z)), h29, h16, h17, h28⟩⟩)
 ·rintro x15 a2a w2r rfl ⟨S10, hS2s, s2b, h16, h17, h18⟩
  have hm2c := elL hm1c
  revert a2a
  refine Wo (Ws (Rm z (Ra z (Wn ?_))))
  obtain rfl := som hm2c
  have h2d : ∀ k ∈ S10, w0.z ≤ k := or1 h18 (mem1 lr) (lele s19.size)
  exact Wr (ret1 hr z ⟨(bM s19 s2b (mem1 lr)), a12, n13, c14, S10, z, h16, h17, h2d⟩)
 rintro r2t ex2u a2v w2w rfl ⟨rfl, hq2e⟩
 have hm2f := elR hm1c
 obtain rfl := som hm2f
 exact ⟨hq2e, z⟩
def Q4 (w0 : World) (B : Nat) (r : Rule) (v : Value) (w' : World) : Prop := Bw w0 w' ∧ (fun r1 => ∃ a1 n1 c1 S1 a2 n2 c2 S2 a3 n3 c3 S3 a4 n4 c4 S4, (.agg #[Str.v r1.name, vI r1.kind, vI r1.size, vB r1.little, sl a1 n1 c1, sl a2 n2 c2, sl a3 n3 c3, sl a4 n4 c4]) = v ∧ r1.name.b.length ≤ LEN ∧ inI r1.kind ∧ inI r1.size ∧ ownS w' S1 (sl a1 n1 c1) r1.bytes ∧ ownS w' S2 (sl a2 n2 c2) r1.names ∧ ownS w' S3 (sl a3 n3 c3) r1.tags ∧ ownS w' S4 (sl a4 n4 c4) r1.kids ∧ (S1 ++ (S2 ++ (S3 ++ S4))).Nodup ∧ (∀ k ∈ (S1 ++ (S2 ++ (S3 ++ S4))), w0.z ≤ k)) r
theorem W_w1s {x1 : Rule} {res : Rule} (hm : M_laws_toRule x1 = some res) (hBw : B ≤ w0.z) (p1_0 : x1.name.b.length ≤ LEN) (p1_1 : inI x1.kind) (p1_2 : inI x1.size) (p1_4 : repS w0 B (sl A9 N9 C9) x1.bytes) (p1_5 : repS w0 B (sl A8 N8 C8) x1.names) (p1_6 : repS w0 B (sl AA NA CA) x1.tags) (p1_7 : repS w0 B (sl AB NB CB) x1.kids) : CallsR prog 101 [(.agg #[Str.v x1.name, vI x1.kind, vI x1.size, vB x1.little, sl A9 N9 C9, sl A8 N8 C8, sl AA NA CA, sl AB NB CB])] w0 (Q4 w0 B res) := by
 unfold M_laws_toRule at hm
 refine goF func101 z z (lb z) fun fn hr => Ws (E z (fb z) ?_)
 rintro _ w2a ⟨rfl, h2b⟩
 have h1f := h2b.below
 have h2c : Blk w2a w0.z (vR x1 A9 N9 C9 A8 N8 C8 AA NA CA AB NB CB) := h2b.blk
 refine E z (fa zero_80) ?_
 rintro _ w2d ⟨rfl, h2e⟩
 have h1c := h2e.below
 have h1k : Blk w2d w2a.z [(Str.v (⟨[]⟩ : Str)), vI 0, vI 0, vB false, sl none 0 0, sl none 0 0, sl none 0 0, sl none 0 0] := h2e.blk
 refine Wn (Ws (E z (fa zero_80) ?_))
 rintro _ w2x ⟨rfl, h2f⟩
 have h1b := h2f.below
 have h1r : Blk w2x w2d.z [(Str.v (⟨[]⟩ : Str)), vI 0, vI 0, vB false, sl none 0 0, sl none 0 0, sl none 0 0, sl none 0 0] := h2f.blk
 refine Wn (Ws (R z (fd f_128_0 z) ?_))
 have h2g := (h2c.ext h1c).ext h1b
 refine R z (l1 g_9 z fid (h2g.at z)) (R z (fd f_80_0 z) (E0 (fs (cur' := [Str.v x1.name, vI 0, vI 0, vB false, sl none 0 0, sl none 0 0, sl none 0 0, sl none 0 0]) z_9 z z h1r z (lb z) (oA z) z) ?_))
 rintro _ w41 ⟨h2y, s2z⟩
 have h16 := s2z.one
 refine Wn (Ws (R z (fd f_128_1 z) ?_))
 have h1g := mm1 h2c.lt h1c.size
 have h2h := h2g.chg h16 (djs h1g)
 refine R z (l1 g_3 z fid (h2h.at z)) (R z (fd f_80_1 z) (E0 (fs (cur' := [Str.v x1.name, vI x1.kind, vI 0, vB false, sl none 0 0, sl none 0 0, sl none 0 0, sl none 0 0]) z_3 z z h2y z (lb z) (oA z) z) ?_))
 rintro _ w42 ⟨h30, s31⟩
 have h17 := s31.one
 refine Wn (Ws (R z (fd f_128_2 z) ?_))
 have h2i := h2h.chg h17 (djs h1g)
 refine R z (l1 g_3 z fid (h2i.at z)) (R z (fd f_80_2 z) (E0 (fs (cur' := [Str.v x1.name, vI x1.kind, vI x1.size, vB false, sl none 0 0, sl none 0 0, sl none 0 0, sl none 0 0]) z_3 z z h30 z (lb z) (oA z) z) ?_))
 rintro _ w43 ⟨h32, s33⟩
 have h18 := s33.one
 refine Wn (Ws (R z (fd f_128_3 z) ?_))
 have h2j := h2i.chg h18 (djs h1g)
 refine R z (l1 g_4 z fid (h2j.at z)) (R z (fd f_80_3 z) (E0 (fs (cur' := (vR x1 none 0 0 none 0 0 none 0 0 none 0 0)) z_4 z z h32 z (lb z) (oA z) z) ?_))
 rintro _ w44 ⟨h34, s35⟩
 have h19 := s35.one
 refine Wn (Ws (R z (fd f_128_4 z) ?_))
 have h2k := h2j.chg h19 (djs h1g)
 refine R z (l1 g_25 z fid (h2k.at z)) ?_
 have h23 := lt_ h1f.size h1c.size
 have h10 := mem1le (lt_ hBw h23)
 have h24 := lt_ (lt_ (lt_ (lt_ (lt_ h23 h1b.size) h16.size) h17.size) h18.size) h19.size
 obtain ⟨r45, e36, hm37⟩ := bdS hm
 refine E z (fc call12 z (W_w0b (B := B) e36 (lt_ hBw h24) (((((((p1_4.ext h1f).ext h1c).ext h1b).chg h16 (lg h10)).chg h17 (lg h10)).chg h18 (lg h10)).chg h19 (lg h10)))) ?_
 rintro _ w46 ⟨s1a, a1h, n1i, c1j, S38, rfl, h1x, h39, h25⟩
 refine R z (fd f_80_4 z) (E0 (fs (cur' := (vR x1 a1h n1i c1j none 0 0 none 0 0 none 0 0)) z_25 z z (h34.ext s1a) z (lb z) (oA z) z) ?_)
 rintro _ w47 ⟨h3a, s3b⟩
 have h13 := s3b.one
 refine Wn (Ws (R z (fd f_128_5 z) ?_))
 have h2l := (h2k.ext s1a).chg h13 (djs h1g)
 refine R z (l1 g_77 z fid (h2l.at z)) ?_
 have h26 := lt_ (lt_ h24 s1a.size) h13.size
 obtain ⟨r48, e3c, hm3d⟩ := bdS hm37
 refine E z (fc call149 z (W_w1r (B := B) e3c (lt_ hBw h26) (((((((((p1_5.ext h1f).ext h1c).ext h1b).chg h16 (lg h10)).chg h17 (lg h10)).chg h18 (lg h10)).chg h19 (lg h10)).ext s1a).chg h13 (lg h10)))) ?_
 rintro _ w49 ⟨s15, a1l, n1m, c1n, S3e, rfl, h27, h3f, h1y⟩
 refine R z (fd f_80_5 z) (E0 (fs (cur' := (vR x1 a1h n1i c1j a1l n1m c1n none 0 0 none 0 0)) z_77 z z (h3a.ext s15) z (lb z) (oA z) z) ?_)
 rintro _ w4a ⟨h3g, s3h⟩
 have h11 := s3h.one
 refine Wn (Ws (R z (fd f_128_6 z) ?_))
 have h2m := (h2l.ext s15).chg h11 (djs h1g)
 refine R z (l1 g_78 z fid (h2m.at z)) ?_
 have h28 := lt_ (lt_ h26 s15.size) h11.size
 obtain ⟨r4b, e3i, hm3j⟩ := bdS hm3d
 refine E z (fc call150 z (W_w0v (B := B) e3i (lt_ hBw h28) (((((((((((p1_6.ext h1f).ext h1c).ext h1b).chg h16 (lg h10)).chg h17 (lg h10)).chg h18 (lg h10)).chg h19 (lg h10)).ext s1a).chg h13 (lg h10)).ext s15).chg h11 (lg h10)))) ?_
 rintro _ w4c ⟨s14, a1s, n1t, c1u, S3k, rfl, h2n, h3l, h1v⟩
 refine R z (fd f_80_6 z) (E0 (fs (cur' := (vR x1 a1h n1i c1j a1l n1m c1n a1s n1t c1u none 0 0)) z_78 z z (h3g.ext s14) z (lb z) (oA z) z) ?_)
 rintro _ w4d ⟨h3m, s3n⟩
 have h12 := s3n.one
 refine Wn (Ws (R z (fd f_128_7 z) (R z (l1 g_78 z fid (((h2m.ext s14).chg h12 (djs h1g)).at z)) ?_)))
 have h3o := ((((((((((((p1_7.ext h1f).ext h1c).ext h1b).chg h16 (lg h10)).chg h17 (lg h10)).chg h18 (lg h10)).chg h19 (lg h10)).ext s1a).chg h13 (lg h10)).ext s15).chg h11 (lg h10)).ext s14).chg h12 (lg h10)
 have h2o := lt_ (lt_ h28 s14.size) h12.size
 obtain ⟨r4e, e3p, hm3q⟩ := bdS hm3j
 refine E z (fc call150 z (W_w0v (B := B) e3p (lt_ hBw h2o) h3o)) ?_
 rintro _ w4f ⟨s1o, a1z, n20, c21, S3r, rfl, h3s, h3t, h1p⟩
 refine R z (fd f_80_7 z) (E0 (fs (cur' := (vR x1 a1h n1i c1j a1l n1m c1n a1s n1t c1u a1z n20 c21)) z_78 z z (h3m.ext s1o) z (lb z) (oA z) z) ?_)
 rintro _ w4g ⟨h3u, s3v⟩
 have h1q := s3v.one
 refine Wn (Ws (R z (lN (vs := (vR x1 a1h n1i c1j a1l n1m c1n a1s n1t c1u a1z n20 c21)) g_80 z_80 z z fid (h3u.row 0 8 z)) ?_))
 have h1d := mmr h1k.lt
 have h3w := ((((h1k.ext h1b).chg h16 (djs h1d)).chg h17 (djs h1d)).chg h18 (djs h1d)).chg h19 (djs h1d)
 have h3x := (((((h3w.ext s1a).chg h13 (djs h1d)).ext s15).chg h11 (djs h1d)).ext s14).chg h12 (djs h1d)
 refine E0 (fs (cur' := (vR x1 a1h n1i c1j a1l n1m c1n a1s n1t c1u a1z n20 c21)) z_80 z z ((h3x.ext s1o).chg h1q (djs h1d)) z (lb z) (oA z) z) ?_
 rintro _ w4h ⟨h3y, s3z⟩
 have h1w := s3z.one
 refine Wn ?_
 obtain rfl := som hm3q
 have h2p := lt_ (lt_ (lt_ h16.size h17.size) h18.size) h19.size
 have h22 := o0n1 h25 h1r.lt h2p
 have h2q := lt_ (lt_ (lt_ (lt_ h1b.size h16.size) h17.size) h18.size) h19.size
 have h2r := lt_ (lt_ h2p s1a.size) h13.size
 have h29 := o0n1 h1y h1r.lt h2r
 have h2s := lt_ (lt_ h2q s1a.size) h13.size
 have h2t := lt_ (lt_ h2r s15.size) h11.size
 have h2u := o0n1 h1v h1r.lt h2t
 have h2v := lt_ (lt_ h2s s15.size) h11.size
 have h1e := mem1le h23
 have h40 := bM (bup (bM (bup (bM (bup (bM (bup (bM (bM (bM (bM (bup (bup h1f h1c) h1b) h16 h1e) h17 h1e) h18 h1e) h19 h1e) s1a) h13 h1e) s15) h11 h1e) s14) h12 h1e) s1o) h1q h1e
 have h2w := lt_ (lt_ h13.size s15.size) h11.size
 exact Wr (ret1 hr (resC g_80 z_80 z h3y z) ⟨(bM h40 h1w (mem1le h1f.size)), a1h, n1i, c1j, S38, a1l, n1m, c1n, S3e, a1s, n1t, c1u, S3k, a1z, n20, c21, S3r, z, p1_0, p1_1, p1_2, ((((((((h1x.chg h13 h22).ext s15).chg h11 h22).ext s14).chg h12 h22).ext s1o).chg h1q h22).chg h1w (o0n1 h25 h1k.lt h2q)), ((((((h27.chg h11 h29).ext s14).chg h12 h29).ext s1o).chg h1q h29).chg h1w (o0n1 h1y h1k.lt h2s)), ((((h2n.chg h12 h2u).ext s1o).chg h1q h2u).chg h1w (o0n1 h1v h1k.lt h2v)), ((h3s.chg h1q (o0n1 h1p h1r.lt (lt_ (lt_ h2t s14.size) h12.size))).chg h1w (o0n1 h1p h1k.lt (lt_ (lt_ h2v s14.size) h12.size))), (nd_app h39 (nd_app h3f (nd_app h3l h3t (dj_symm (o0no h1p (ownS.lt h2n) h12.size))) (nmA (dj_symm (o0no h1v (ownS.lt h27) h11.size)) (dj_symm (o0no h1p (ownS.lt h27) (lt_ (lt_ h11.size s14.size) h12.size))))) (nmA (dj_symm (o0no h1y (ownS.lt h1x) h13.size)) (nmA (dj_symm (o0no h1v (ownS.lt h1x) h2w)) (dj_symm (o0no h1p (ownS.lt h1x) (lt_ (lt_ h2w s14.size) h12.size)))))), (all_app (o0le h25 h24) (all_app (o0le h1y h26) (all_app (o0le h1v h28) (o0le h1p h2o))))⟩)
def Q5 (w0 : World) (B : Nat) (r : (List Rule)) (v : Value) (w' : World) : Prop := Bw w0 w' ∧ (fun r1 => ∃ a1 n1 c1 S1, (sl a1 n1 c1) = v ∧ ownS w' S1 (sl a1 n1 c1) r1 ∧ S1.Nodup ∧ (∀ k ∈ S1, w0.z ≤ k)) r
theorem W_w1t {x1 : List Rule} {res : (List Rule)} (hm : M_laws_toRuleS x1 = some res) (hBw : B ≤ w0.z) (p1_0 : repS w0 B (sl A0 N0 C0) x1) : CallsR prog 54 [sl A0 N0 C0] w0 (Q5 w0 B res) := by
 unfold M_laws_toRuleS at hm
 refine goF func54 z z (lb z) fun fn hr => Ws (Ra z (Wn (Ws (Rm z (R z (lnR d_22 z p1_0) ?_)))))
 obtain ⟨x3n, e1s, hm1t⟩ := bdS hm
 refine E z (ef_makeN (α := Rule) el_28 (fun _ => (Rule_mkO (x := (⟨(⟨[]⟩ : Str), 0, 0, false, ([] : List UInt8), ([] : List Str), ([] : List Int), ([] : List Int)⟩ : Rule)) (S1 := ([] : List Nat)) (S2 := ([] : List Nat)) (S3 := ([] : List Nat)) (S4 := ([] : List Nat)) (lb z) (ii z) (ii z) onL onL onL onL)) e1s z z) ?_
 rintro _ w10 ⟨a16, n17, c18, rfl, s1a, h1u⟩
 refine Ra z (Wn (Wq (Ws (Ra z (Wn ?_)))))
 obtain ⟨u3o, hu1v, hm1g⟩ := bdS hm1t
 refine WC_forN (σ := (List Rule)) (ρ := (List Rule)) (fun (k1e : Nat) (x19 : List Rule) a w => ∃  (S11 : List Nat), Sat 23 [(0, sl A0 N0 C0), (3, sl a16 n17 c18), (4, (vI ((k1e : Nat) : Int)))] a ∧ Chg (· ∈ [w0.z]) w10 w ∧ ownS w S11 (sl a16 n17 c18) x19 ∧ S11.Nodup ∧ (∀ k ∈ S11, k ∈ [w0.z] ∨ w10.z ≤ k)) (fun (x19 : List Rule) a w => ∃  (S11 : List Nat), Sat 23 [(3, sl a16 n17 c18)] a ∧ Chg (· ∈ [w0.z]) w10 w ∧ ownS w S11 (sl a16 n17 c18) x19 ∧ S11.Nodup ∧ (∀ k ∈ S11, k ∈ [w0.z] ∨ w10.z ≤ k)) (fun r ex a w => ex = .ret ∧ RetPost prog fn (Q5 w0 B r) a w) hu1v ?_ ?_ ?_ ?_ ?_
 ·exact fun _ q => ⟨[w0.z], (q.k (s3 z z z)), (cr [w0.z] w10), h1u, nd_one, (io sr)⟩
 ·rintro k1e x19 a3p w1w o3q hk1h ⟨S11, hS1x, s14, h13, h1b, h1c⟩ hm1y
  refine Wu ?_ hS1x
  refine Wq (Ws (Rm z (Rm z ?_)))
  have h1i := (p1_0.ext s1a).chg s14 (lg (mem1le hBw))
  refine R z (lnR d_22 z h1i) (R z (lss z z) (Wn (Wc z (fun _ => ?_) (fun hc => (nolt hk1h hc).elim))))
  refine Wk (Wq (WC_block (Wg (Rm z (Rm z (Rm z (Rm z ?_)))))))
  obtain ⟨x1d, e1z, hm20⟩ := bdS hm1y
  refine RX z (at_ (α := Rule) d_22 z_128 z z z h1i e1z) ?_
  rintro _ ⟨b3r, o3s, cs3t, rfl, h21, h22, h3u⟩
  obtain ⟨a23, n24, c25, a26, n27, c28, a29, n2a, c2b, a2c, n2d, c2e, rfl, h2f, h2g, h2h, h2i, h2j, h2k, h2l⟩ := Rule_open h22
  refine R z (lN (vs := (vR x1d a23 n24 c25 a26 n27 c28 a29 n2a c2b a2c n2d c2e)) g_128 z_128 z z fid h21) ?_
  obtain ⟨r2m, e2n, hm2o⟩ := bdS hm20
  refine E z (fc call101 z (W_w1s (B := B) e2n (lt_ hBw (lt_ s1a.size s14.size)) h2f h2g h2h h2i h2j h2k h2l)) ?_
  rintro _ w2p ⟨s1f, a3v, n3w, c3x, S1j, a3y, n3z, c40, S1k, a41, n42, c43, S1l, a44, n45, c46, S1m, rfl, h2q, h2r, h2s, h2t, h2u, h2v, h2w, h12, h15⟩
  obtain ⟨x2x, e1n, hm2y⟩ := bdS hm2o
  have h1o := h13.ext s1f
  refine RX z (rd_atU (α := Rule) d_28 z_80 z z h1o e1n) ?_
  rintro _ ⟨g47, h2z, rfl⟩
  refine E0 (ef_setN (α := Rule) z_80 z h2z z z z e1n h1o h1b (Rule_mkO (x := r2m) (S1 := S1j) (S2 := S1k) (S3 := S1l) (S4 := S1m) h2q h2r h2s h2t h2u h2v h2w) (all_app (o0no (all_left h15) (ownS.lt h13) lr) (all_app (o0no (all_left (all_right h15)) (ownS.lt h13) lr) (all_app (o0no (all_left (all_right (all_right h15))) (ownS.lt h13) lr) (o0no (all_right (all_right (all_right h15))) (ownS.lt h13) lr)))) (nd_app (nd_left h12) (nd_app (nd_left (nd_right h12)) (nd_app (nd_left (nd_right (nd_right h12))) (nd_right (nd_right (nd_right h12))) (nd_dj (nd_right (nd_right h12)))) (nmA (nmL (nd_dj (nd_right h12))) (nmR (nd_dj (nd_right h12))))) (nmA (nmL (nd_dj h12)) (nmA (nmL (nmR (nd_dj h12))) (nmR (nmR (nd_dj h12))))))) ?_
  rintro _ w30 ⟨S1p, s31, h32, h33, h34⟩
  refine Wn (Wg (Rm z (R z (inc_ hk1h (lt_ (repS.len p1_0) LEN_le) z z) (Ra z (Wl ?_)))))
  have h1q : ∀ k ∈ S11, k ∈ [w0.z] ∨ w10.z ≤ k := or1 h1c (io sr) (leor lr)
  have h35 : ∀ k ∈ S1j, k ∈ [w0.z] ∨ w10.z ≤ k := or0 (all_left h15)  (leor s14.size)
  have h36 : ∀ k ∈ S1k, k ∈ [w0.z] ∨ w10.z ≤ k := or0 (all_left (all_right h15))  (leor s14.size)
  have h37 : ∀ k ∈ S1l, k ∈ [w0.z] ∨ w10.z ≤ k := or0 (all_left (all_right (all_right h15)))  (leor s14.size)
  have h38 : ∀ k ∈ S1m, k ∈ [w0.z] ∨ w10.z ≤ k := or0 (all_right (all_right (all_right h15)))  (leor s14.size)
  have h39 : ∀ k ∈ S1p, k ∈ [w0.z] ∨ w10.z ≤ k := or2 h34 h1q (all_app h35 (all_app h36 (all_app h37 h38))) (leor (lt_ s14.size s1f.size))
  have h3a : Chg (· ∈ [w0.z]) w10 w1w := cM (cr [w0.z] w10) s14 (io sr)
  have h3b : Chg (· ∈ [w0.z]) w10 w2p := cext h3a s1f
  have h3c : Chg (· ∈ [w0.z]) w10 w30 := cM h3b s31 h1q
  exact fun _ q => ⟨x2x, (som hm2y).symm, ⟨S1p, (q.k (s3 z z z)), h3c, h32, h33, h39⟩⟩
 ·rintro x19 a48 w3d ⟨S11, hS3e, s1r, h13, h1b, h1c⟩
  refine Wu ?_ hS3e
  refine Wq (Ws (Rm z (Rm z (R z (lnR d_22 z ((p1_0.ext s1a).chg s1r (lg (mem1le hBw)))) (R z (lss z z) (Wn (Wc z (fun hc => (noltt hc).elim) (fun _ => ?_))))))))
  have h3f : ∀ k ∈ S11, k ∈ [w0.z] ∨ w10.z ≤ k := or1 h1c (io sr) (leor lr)
  have h3g : Chg (· ∈ [w0.z]) w10 w3d := cM (cr [w0.z] w10) s1r (io sr)
  exact WC_exit (fun a' ha' => ⟨rfl, ⟨S11, (Sat.weaken ha' (s1 z)), h3g, h13, h1b, h3f⟩⟩)
 ·rintro x19 a3h w49 rfl ⟨S11, hS4a, s3i, h13, h1b, h1c⟩
  have hm3j := elL hm1g
  revert a3h
  refine Wo (Ws (Rm z (Ra z (Wn ?_))))
  obtain rfl := som hm3j
  have h3k : ∀ k ∈ S11, w0.z ≤ k := or1 h1c (mem1 lr) (lele s1a.size)
  exact Wr (ret1 hr z ⟨(bM s1a s3i (mem1 lr)), a16, n17, c18, S11, z, h13, h1b, h3k⟩)
 rintro r4b ex4c a4d w4e rfl ⟨rfl, hq3l⟩
 have hm3m := elR hm1g
 obtain rfl := som hm3m
 exact ⟨hq3l, z⟩
def Q6 (w0 : World) (B : Nat) (r : Desc) (v : Value) (w' : World) : Prop := Bw w0 w' ∧ (fun r1 => ∃ a1 n1 c1 S1, (.agg #[.slice a1 n1 c1]) = v ∧ ownS w' S1 (sl a1 n1 c1) r1.rules ∧ S1.Nodup ∧ (∀ k ∈ S1, w0.z ≤ k)) r
theorem W_w0h {x1 : Desc} {res : Desc} (hm : M_laws_toDescription x1 = some res) (hBw : B ≤ w0.z) (p1_0 : repS w0 B (sl A0 N0 C0) x1.rules) : CallsR prog 11 [(.agg #[sl A0 N0 C0])] w0 (Q6 w0 B res) := by
 unfold M_laws_toDescription at hm
 refine goF func11 z z (lb z) fun fn hr => Ws (E z (fb z) ?_)
 rintro _ w1a ⟨rfl, h1b⟩
 have h11 := h1b.below
 have h1j : Blk w1a w0.z [sl A0 N0 C0] := h1b.blk
 refine E z (fa zero_30) ?_
 rintro _ w1c ⟨rfl, h1d⟩
 have h12 := h1d.below
 have h16 : Blk w1c w1a.z [sl none 0 0] := h1d.blk
 refine Wn (Ws (E z (fa zero_30) ?_))
 rintro _ w1k ⟨rfl, h1e⟩
 have h10 := h1e.below
 have h1f : Blk w1k w1c.z [sl none 0 0] := h1e.blk
 refine Wn (Ws (R z (fd f_24_0 z) (R z (l1 g_22 z fid (((h1j.ext h12).ext h10).at z)) ?_)))
 have h1g := lt_ h11.size h12.size
 have h1h := lt_ h1g h10.size
 obtain ⟨r1u, e1l, hm1m⟩ := bdS hm
 refine E z (fc call54 z (W_w1t (B := B) e1l (lt_ hBw h1h) (((p1_0.ext h11).ext h12).ext h10))) ?_
 rintro _ w1v ⟨s17, a13, n14, c15, S1n, rfl, h1o, h1p, h18⟩
 refine R z (fd f_30_0 z) (E0 (fs (cur' := [sl a13 n14 c15]) z_28 z z (h1f.ext s17) z (lb z) (oA z) z) ?_)
 rintro _ w1w ⟨h1q, s1r⟩
 have h19 := s1r.one
 refine Wn (Ws (R z (lN (vs := [sl a13 n14 c15]) g_30 z_30 z z fid (h1q.row 0 1 z)) (E0 (fs (cur' := [sl a13 n14 c15]) z_30 z z (((h16.ext h10).ext s17).chg h19 (djs (mmr h16.lt))) z (lb z) (oA z) z) ?_)))
 rintro _ w1x ⟨h1s, s1t⟩
 have h1i := s1t.one
 refine Wn ?_
 obtain rfl := som hm1m
 exact Wr (ret1 hr (resC g_30 z_30 z h1s z) ⟨(bM (bM (bup (bup (bup h11 h12) h10) s17) h19 (mem1le h1g)) h1i (mem1le h11.size)), a13, n14, c15, S1n, z, ((h1o.chg h19 (o0n1 h18 h1f.lt lr)).chg h1i (o0n1 h18 h16.lt h10.size)), h1p, (o0le h18 h1h)⟩)
theorem W_w0i {x1 : Desc} {res : Int} (hm : M_spec_RootOf x1 = some res) (hBw : B ≤ w0.z) (p1_0 : repS w0 B (sl A0 N0 C0) x1.rules) : CallsR prog 80 [(.agg #[sl A0 N0 C0])] w0 (Q0 w0 B res) := by
 unfold M_spec_RootOf at hm
 refine goF func80 z z (lb z) fun fn hr => Ws (E z (fb z) ?_)
 rintro _ w12 ⟨rfl, h10⟩
 have h11 := h10.below
 have h13 : Blk w12 w0.z [sl A0 N0 C0] := h10.blk
 refine Ra z (Wn (Ws (R z (fd f_30_0 z) (R z (l1 g_28 z fid (h13.at z)) (R z (lnR d_28 z (p1_0.ext h11)) (R z (sb_ z z) (Ra z (Wn ?_))))))))
 obtain rfl := som hm
 exact Wr (ret1 hr z ⟨h11, z, (iS _ _)⟩)
def Q7 (w0 : World) (B : Nat) (r : Bool) (v : Value) (w' : World) : Prop := Bw w0 w' ∧ (fun r1 => (vB r1) = v) r
theorem W_w00 {x1 : Int} {x2 : Int} {x3 : Int} {res : Bool} (hm : M_spec_l1In x1 x2 x3 = some res) (hBw : B ≤ w0.z) (p1_0 : inI x1) (p2_0 : inI x2) (p3_0 : inI x3) : CallsR prog 87 [vI x1, vI x2, vI x3] w0 (Q7 w0 B res) := by
 unfold M_spec_l1In at hm
 refine goF func87 z z (lb z) fun fn hr => Ws (Ra z (Wn (Wq ?_)))
 obtain ⟨u13, hu12, hm14⟩ := bdS hm
 refine WC_cut (fun a w => ∃ (x11 : Bool), x11 = u13 ∧ Sat 15 [(6, vB x11)] a ∧ Below w0.z w0 w) ?_ ?_
 ·refine Wg (Rm z (Rm z (R z (rd_geq z z) (Rm z ?_))))
  rcases bs (decide (x2 ≤ x1)) with hc10 | hc10
  ·exact Rh z hc10 (mv z) (Rh z hc10 (mv z) (Rh z hc10 (rd_leq z z) (R z (pT z hc10 z) (Ra z (Wl (fun _ q => ⟨decide (x1 ≤ x3), som (ifT hu12 hc10), (q.k (s1 z)), (br w0)⟩))))))
  iterate 3 refine Nh z hc10 ?_
  exact R z (pF z hc10 z) (Ra z (Wl (fun _ q => ⟨false, som (ifF hu12 hc10), (q.k (s1 z)), (br w0)⟩)))
 rintro a15 w17 ⟨x11, rfl, hS18, s16⟩
 revert a15
 refine Wo ?_
 obtain rfl := som hm14
 exact Wr (ret1 hr z ⟨s16, z⟩)
theorem W_w0j {x1 : Str} {res : Bool} (hm : M_spec_IsName x1 = some res) (hBw : B ≤ w0.z) (p1_0 : x1.b.length ≤ LEN) : CallsR prog 178 [Str.v x1] w0 (Q7 w0 B res) := by
 unfold M_spec_IsName at hm
 refine goF func178 z z (lb z) fun fn hr => Ws (Ra z (Wn (Wq (Ws (Ra z (Wn ?_))))))
 obtain ⟨u2k, hu1s, hm1c⟩ := bdS hm
 refine WC_forN (σ := Unit) (ρ := Bool) (fun (k14 : Nat) (_ : Unit) a w => Sat 45 [(0, Str.v x1), (3, (vI ((k14 : Nat) : Int)))] a ∧ Below w0.z w0 w) (fun (_ : Unit) a w => Sat 45 [(0, Str.v x1)] a ∧ Below w0.z w0 w) (fun r ex a w => ex = .ret ∧ RetPost prog fn (Q7 w0 B r) a w) hu1s ?_ ?_ ?_ ?_ ?_
 ·exact fun _ q => ⟨(q.k (s2 z z)), (br w0)⟩
 ·rintro k14 _ a2l w17 o2m hk1d ⟨hS1t, s1e⟩ hm1u
  refine Wu ?_ hS1t
  refine Wq (Ws (Rm z (Rm z (R z (lnT d_9 z) (R z (lss z z) (Wn (Wc z (fun _ => ?_) (fun hc => (nolt hk1d hc).elim))))))))
  refine Wk (Wq (WC_block (Wq ?_)))
  obtain ⟨u1v, hu1w, hm1x⟩ := bdS hm1u
  refine WC_cut (fun a w => ∃ (x15 : Bool), x15 = u1v ∧ Sat 45 [(0, Str.v x1), (3, (vI ((k14 : Nat) : Int))), (4, vB x15)] a ∧ Below w17.z w17 w) ?_ ?_
  ·refine Wg (Rm z (Rm z ?_))
   obtain ⟨x1y, e1f, hm1g⟩ := bdS hu1w
   refine R z (rd_indexStr d_9 z z (idxS e1f).1 (idxS e1f).2.1) (R z (rd_geq z z) (Rm z ?_))
   rcases bs (decide ((byteI (97 : UInt8)) ≤ (byteI x1y))) with hc11 | hc11
   ·refine Rh z hc11 (mv z) (Rh z hc11 (mv z) ?_)
    obtain ⟨x1z, e1h, hm20⟩ := bdS (ifT hm1g hc11)
    exact Rh z hc11 (rd_indexStr d_9 z z (idxS e1h).1 (idxS e1h).2.1) (Rh z hc11 (rd_leq z z) (R z (pT z hc11 z) (Ra z (Wl (fun _ q => ⟨decide ((byteI x1z) ≤ (byteI (122 : UInt8))), som hm20, (q.k (s3 z z z)), (br w17)⟩)))))
   iterate 4 refine Nh z hc11 ?_
   exact R z (pF z hc11 z) (Ra z (Wl (fun _ q => ⟨false, som (ifF hm1g hc11), (q.k (s3 z z z)), (br w17)⟩)))
  rintro a21 w18 ⟨x15, rfl, hS2n, s1i⟩
  revert a21
  refine Wo (Wq ?_)
  obtain ⟨u22, hu23, hm24⟩ := bdS hm1x
  refine WC_cut (fun a w => ∃ (x19 : Bool), x19 = u22 ∧ Sat 45 [(0, Str.v x1), (3, (vI ((k14 : Nat) : Int))), (4, vB x15), (5, vB x19)] a ∧ Below w18.z w18 w) ?_ ?_
  ·refine Wg (Rm z (Rm z ?_))
   obtain ⟨x25, e1j, hm1k⟩ := bdS hu23
   refine R z (rd_indexStr d_9 z z (idxS e1j).1 (idxS e1j).2.1) (R z (rd_geq z z) (Rm z ?_))
   rcases bs (decide ((byteI (48 : UInt8)) ≤ (byteI x25))) with hc12 | hc12
   ·refine Rh z hc12 (mv z) (Rh z hc12 (mv z) ?_)
    obtain ⟨x26, e1l, hm27⟩ := bdS (ifT hm1k hc12)
    exact Rh z hc12 (rd_indexStr d_9 z z (idxS e1l).1 (idxS e1l).2.1) (Rh z hc12 (rd_leq z z) (R z (pT z hc12 z) (Ra z (Wl (fun _ q => ⟨decide ((byteI x26) ≤ (byteI (57 : UInt8))), som hm27, (q.k (s4 z z z z)), (br w18)⟩)))))
   iterate 4 refine Nh z hc12 ?_
   exact R z (pF z hc12 z) (Ra z (Wl (fun _ q => ⟨false, som (ifF hm1k hc12), (q.k (s4 z z z z)), (br w18)⟩)))
  rintro a28 w16 ⟨x19, rfl, hS2o, s1m⟩
  revert a28
  refine Wo (Wq ?_)
  obtain ⟨u29, hu1n, hm1o⟩ := bdS hm24
  refine WC_cut (fun a w => ∃ (x1a : Bool), x1a = u29 ∧ Sat 45 [(0, Str.v x1), (3, (vI ((k14 : Nat) : Int))), (41, vB x1a)] a ∧ Below w16.z w16 w) ?_ ?_
  ·refine Wg (Rm z (R z (not_ z) (Rm z ?_)))
   rcases bs (!x15) with hc10 | hc10
   ·have hm1p := ifT hu1n hc10
    refine Rh z hc10 (mv z) (Rh z hc10 (not_ z) (Rh z hc10 (mv z) ?_))
    rcases bs (!x19) with hc13 | hc13
    ·exact Nh z hc13 (Nh z hc13 (Rh z hc10 (pT z hc13 z) (R z (pT z hc10 z) (Wl (fun _ q => ⟨true, som (ifT hm1p hc13), (q.k (s3 z z z)), (br w16)⟩)))))
    exact Rh z hc13 (mv z) (Rh z hc13 (eql z z) (Rh z hc10 (pF z hc13 z) (R z (pT z hc10 z) (Wl (fun _ q => ⟨((k14 : Nat) : Int) == 0, som (ifF hm1p hc13), (q.k (s3 z z z)), (br w16)⟩)))))
   iterate 3 refine Nh z hc10 ?_
   exact Nv z (Nv z (Nh z hc10 (R z (pF z hc10 z) (Wl (fun _ q => ⟨false, som (ifF hu1n hc10), (q.k (s3 z z z)), (br w16)⟩)))))
  rintro a2a w2p ⟨x1a, rfl, hS2q, s1q⟩
  revert a2a
  refine Wo (Wc z (fun hc1b => ?_) (fun hc1b => ?_))
  ·exact Ws (Ra z (Wn (Wr (rtO (QO_retL (som (ifT hm1o hc1b)).symm (ret1 hr z ⟨(bup (bup (bup s1e s1i) s1m) s1q), z⟩))))))
  exact Wk (Wg (Rm z (R z (inc_ hk1d (lt_ p1_0 LEN_le) z z) (Ra z (Wl (fun _ q => ⟨(), (som (ifF hm1o hc1b)).symm, ⟨(q.k (s2 z z)), (bup (bup (bup s1e s1i) s1m) s1q)⟩⟩))))))
 ·rintro _ a2r w2s ⟨hS2b, s2c⟩
  refine Wu ?_ hS2b
  refine Wq (Ws (Rm z (Rm z (R z (lnT d_9 z) (R z (lss z z) (Wn (Wc z (fun hc => (noltt hc).elim) (fun _ => ?_))))))))
  exact WC_exit (fun a' ha' => ⟨rfl, ⟨(Sat.weaken ha' (s1 z)), s2c⟩⟩)
 ·rintro _ a2d w2t rfl ⟨hS2u, s1r⟩
  have hm2e := elL hm1c
  revert a2d
  refine Wo (Ws (Rm z (R z (lnT d_9 z) ?_)))
  obtain ⟨r2v, e2f, hm2g⟩ := bdS hm2e
  refine E z (fc call87 z (W_w00 (B := B) e2f (lt_ hBw s1r.size) (inI_len p1_0) (ii z) (ii z))) ?_
  rintro _ w2w ⟨s2h, rfl⟩
  refine Ra z (Wn ?_)
  obtain rfl := som hm2g
  exact Wr (ret1 hr z ⟨(bup s1r s2h), z⟩)
 rintro r2x ex2y a2z w30 rfl ⟨rfl, hq2i⟩
 have hm2j := elR hm1c
 obtain rfl := som hm2j
 exact ⟨hq2i, z⟩
theorem W_w04 {x1 : Rule} {x2 : Bool} {x3 : Bool} {x4 : Bool} {x5 : Bool} {x6 : Int} {res : Bool} (hm : M_spec_l4Shape x1 x2 x3 x4 x5 x6 = some res) (hBw : B ≤ w0.z) (p1_0 : x1.name.b.length ≤ LEN) (p1_1 : inI x1.kind) (p1_2 : inI x1.size) (p1_4 : repS w0 B (sl A9 N9 C9) x1.bytes) (p1_5 : repS w0 B (sl A8 N8 C8) x1.names) (p1_6 : repS w0 B (sl AA NA CA) x1.tags) (p1_7 : repS w0 B (sl AB NB CB) x1.kids) (p6_0 : inI x6) : CallsR prog 212 [(.agg #[Str.v x1.name, vI x1.kind, vI x1.size, vB x1.little, sl A9 N9 C9, sl A8 N8 C8, sl AA NA CA, sl AB NB CB]), vB x2, vB x3, vB x4, vB x5, vI x6] w0 (Q7 w0 B res) := by
 unfold M_spec_l4Shape at hm
 refine goF func212 z z (lb z) fun fn hr => Ws (E z (fb z) ?_)
 rintro _ w1c ⟨rfl, h1f⟩
 have h1d := h1f.below
 have h1b : Blk w1c w0.z (vR x1 A9 N9 C9 A8 N8 C8 AA NA CA AB NB CB) := h1f.blk
 refine Ra z (Wn (Wq ?_))
 obtain ⟨u1w, hu1x, hm1y⟩ := bdS hm
 refine WC_cut (fun a w => ∃ (x1e : Bool), x1e = u1w ∧ Sat 67 [(12, vB x1e)] a ∧ Below w1c.z w1c w) ?_ ?_
 ·refine Wg (Rm z (Rm z ?_))
  obtain ⟨u1g, hu1h, hm1z⟩ := bdS hu1x
  refine WLcut 18 u1g 4 ?_ ?_
  ·rcases bs x2 with hc19 | hc19
   ·iterate 3 refine Nh z hc19 ?_
    exact R z (pT z hc19 z) (WLq 4 (ifT hu1h hc19) z z z)
   exact Rh z hc19 (fd f_80_2 z) (Rh z hc19 (l1 g_3 z fid (h1b.at z)) (Rh z hc19 (eql z z) (R z (pF z hc19 z) (WLq 4 (ifF hu1h hc19) z z z))))
  refine Rm z ?_
  obtain ⟨u1i, hu1j, hm20⟩ := bdS hm1z
  refine WLcut 27 u1i 8 ?_ ?_
  ·rcases bs u1g with hc11 | hc11
   ·have hm1k := ifT hu1j hc11
    refine Rh z hc11 (mv z) (Rh z hc11 (mv z) ?_)
    rcases bs x3 with hc16 | hc16
    ·iterate 4 refine Nh z hc16 ?_
     exact Rh z hc11 (pT z hc16 z) (R z (pT z hc11 z) (WLq 8 (ifT hm1k hc16) z z z))
    exact Rh z hc16 (fd f_80_4 z) (Rh z hc16 (l1 g_25 z fid (h1b.at z)) (Rh z hc16 (lnR d_25 z (p1_4.ext h1d)) (Rh z hc16 (eql z z) (Rh z hc11 (pF z hc16 z) (R z (pT z hc11 z) (WLq 8 (ifF hm1k hc16) z z z))))))
   exact Nh z hc11 (Nh z hc11 (Nv z (Nv z (Nv z (Nv z (Nh z hc11 (R z (pF z hc11 z) (WLq 8 (ifF hu1j hc11) z z z))))))))
  refine Rm z ?_
  obtain ⟨u1l, hu1m, hm21⟩ := bdS hm20
  refine WLcut 36 u1l 8 ?_ ?_
  ·rcases bs u1i with hc12 | hc12
   ·have hm1n := ifT hu1m hc12
    refine Rh z hc12 (mv z) (Rh z hc12 (mv z) ?_)
    rcases bs x4 with hc17 | hc17
    ·iterate 4 refine Nh z hc17 ?_
     exact Rh z hc12 (pT z hc17 z) (R z (pT z hc12 z) (WLq 8 (ifT hm1n hc17) z z z))
    exact Rh z hc17 (fd f_80_5 z) (Rh z hc17 (l1 g_77 z fid (h1b.at z)) (Rh z hc17 (lnR d_77 z (p1_5.ext h1d)) (Rh z hc17 (eql z z) (Rh z hc12 (pF z hc17 z) (R z (pT z hc12 z) (WLq 8 (ifF hm1n hc17) z z z))))))
   exact Nh z hc12 (Nh z hc12 (Nv z (Nv z (Nv z (Nv z (Nh z hc12 (R z (pF z hc12 z) (WLq 8 (ifF hu1m hc12) z z z))))))))
  refine Rm z ?_
  obtain ⟨u1o, hu1p, hm22⟩ := bdS hm21
  refine WLcut 45 u1o 8 ?_ ?_
  ·rcases bs u1l with hc13 | hc13
   ·have hm1q := ifT hu1p hc13
    refine Rh z hc13 (mv z) (Rh z hc13 (mv z) ?_)
    rcases bs x5 with hc18 | hc18
    ·iterate 4 refine Nh z hc18 ?_
     exact Rh z hc13 (pT z hc18 z) (R z (pT z hc13 z) (WLq 8 (ifT hm1q hc18) z z z))
    exact Rh z hc18 (fd f_80_6 z) (Rh z hc18 (l1 g_78 z fid (h1b.at z)) (Rh z hc18 (lnR d_78 z (p1_6.ext h1d)) (Rh z hc18 (eql z z) (Rh z hc13 (pF z hc18 z) (R z (pT z hc13 z) (WLq 8 (ifF hm1q hc18) z z z))))))
   exact Nh z hc13 (Nh z hc13 (Nv z (Nv z (Nv z (Nv z (Nh z hc13 (R z (pF z hc13 z) (WLq 8 (ifF hu1p hc13) z z z))))))))
  refine Rm z ?_
  obtain ⟨u1r, hu1s, hm1t⟩ := bdS hm22
  refine WLcut 56 u1r 10 ?_ ?_
  ·rcases bs u1o with hc14 | hc14
   ·have hm1u := ifT hu1s hc14
    refine Rh z hc14 (mv z) (Rh z hc14 (lss z z) (Rh z hc14 (mv z) ?_))
    rcases bs (decide (x6 < 0)) with hc15 | hc15
    ·iterate 5 refine Nh z hc15 ?_
     exact Rh z hc14 (pT z hc15 z) (R z (pT z hc14 z) (WLq 10 (ifT hm1u hc15) z z z))
    exact Rh z hc15 (fd f_80_7 z) (Rh z hc15 (l1 g_78 z fid (h1b.at z)) (Rh z hc15 (lnR d_78 z (p1_7.ext h1d)) (Rh z hc15 (mv z) (Rh z hc15 (eql z z) (Rh z hc14 (pF z hc15 z) (R z (pT z hc14 z) (WLq 10 (ifF hm1u hc15) z z z)))))))
   iterate 3 refine Nh z hc14 ?_
   exact Nv z (Nv z (Nv z (Nv z (Nv z (Nh z hc14 (R z (pF z hc14 z) (WLq 10 (ifF hu1s hc14) z z z)))))))
  refine Rm z ?_
  rcases bs u1r with hc10 | hc10
  ·have hm1v := ifT hm1t hc10
   refine Rh z hc10 (fd f_80_3 z) (Rh z hc10 (l1 g_4 z fid (h1b.at z)) (Rh z hc10 (not_ z) (Rh z hc10 (mv z) ?_)))
   rcases bs (!x1.little) with hc1a | hc1a
   ·iterate 3 refine Nh z hc1a ?_
    exact Rh z hc10 (pT z hc1a z) (R z (pT z hc10 z) (Ra z (Wl (fun _ q => ⟨true, som (ifT hm1v hc1a), (q.k (s1 z)), (br w1c)⟩))))
   exact Rh z hc1a (fd f_80_1 z) (Rh z hc1a (l1 g_3 z fid (h1b.at z)) (Rh z hc1a (eql z z) (Rh z hc10 (pF z hc1a z) (R z (pT z hc10 z) (Ra z (Wl (fun _ q => ⟨x1.kind == 1, som (ifF hm1v hc1a), (q.k (s1 z)), (br w1c)⟩)))))))
  iterate 4 refine Nh z hc10 ?_
  exact Nv z (Nv z (Nv z (Nh z hc10 (R z (pF z hc10 z) (Ra z (Wl (fun _ q => ⟨false, som (ifF hm1t hc10), (q.k (s1 z)), (br w1c)⟩)))))))
 rintro a23 w25 ⟨x1e, rfl, hS26, s24⟩
 revert a23
 refine Wo ?_
 obtain rfl := som hm1y
 exact Wr (ret1 hr z ⟨(bup h1d s24), z⟩)
theorem W_w1u {x1 : Int} {res : Int} (hm : M_spec_l2Power x1 = some res) (hBw : B ≤ w0.z) (p1_0 : inI x1) : CallsR prog 117 [vI x1] w0 (Q0 w0 B res) := by
 unfold M_spec_l2Power at hm
 refine goF func117 z z (lb z) fun fn hr => Ws (Ra z (Wn (Ws (Rm z (R z (rd_mul z z) ?_)))))
 obtain ⟨u12, e10, hm11⟩ := bdS hm
 refine R z (rd_shl z z (nnS e10)) (Ra z (Wn ?_))
 obtain rfl := som hm11
 exact Wr (ret1 hr z ⟨(br w0), z, (inI_shl (ii z))⟩)
theorem W_w0k {x1 : Desc} {x2 : Int} {res : Int} (hm : M_spec_IntegerLimit x1 x2 = some res) (hBw : B ≤ w0.z) (p1_0 : repS w0 B (sl A0 N0 C0) x1.rules) (p2_0 : inI x2) : CallsR prog 213 [(.agg #[sl A0 N0 C0]), vI x2] w0 (Q0 w0 B res) := by
 unfold M_spec_IntegerLimit at hm
 refine goF func213 z z (lb z) fun fn hr => Ws (E z (fb z) ?_)
 rintro _ w15 ⟨rfl, h19⟩
 have h12 := h19.below
 have h16 : Blk w15 w0.z [sl A0 N0 C0] := h19.blk
 refine Ra z (Wn (Wq (Wq ?_)))
 obtain ⟨u1g, hu1h, hm1a⟩ := bdS hm
 refine WC_cut (fun a w => ∃ (x17 : Bool), x17 = u1g ∧ Sat 39 [(1, vI x2), (2, pt w0.z), (30, vB x17)] a ∧ Below w15.z w15 w) ?_ ?_
 ·refine Wg (Rm z (R z (fd f_30_0 z) (R z (l1 g_28 z fid (h16.at z)) ?_)))
  have h1b := p1_0.ext h12
  refine R z (lnR d_28 z h1b) (R z (sb_ z z) ?_)
  obtain ⟨r1i, e1j, hm1c⟩ := bdS hu1h
  refine E z (fc call87 z (W_w00 (B := B) e1j (lt_ hBw h12.size) p2_0 (ii z) (iS _ _))) ?_
  rintro _ w26 ⟨s13, rfl⟩
  refine R z (not_ z) (Rm z ?_)
  rcases bs (!r1i) with hc11 | hc11
  ·iterate 7 refine Nh z hc11 ?_
   exact R z (pT z hc11 z) (Rm z (Nh z z (Nh z z (Nh z z (Nh z z (Nh z z (Nh z z (Nh z z (Nh z z (R z (pT z z z) (Wl (fun _ q => ⟨true, som (ifT hm1c hc11), (q.k (s3 z z z)), s13⟩))))))))))))
  refine Rh z hc11 (fd f_30_0 z) ?_
  have h1d := h16.ext s13
  refine Rh z hc11 (l1 g_28 z fid (h1d.at z)) (Rh z hc11 (mv z) ?_)
  obtain ⟨x1k, e1l, hm1e⟩ := bdS (ifF hm1c hc11)
  have h1f := h1b.ext s13
  refine RXg z z hc11 z (at_ (α := Rule) d_28 z_80 z z z h1f e1l) ?_
  rintro _ ⟨b27, o28, cs29, rfl, h1m, h1n, h2a⟩
  obtain ⟨a2b, n2c, c2d, a2e, n2f, c2g, a2h, n2i, c2j, a2k, n2l, c2m, rfl, h2n, h2o, h2p, h2q, h2r, h2s, h2t⟩ := Rule_open h1n
  refine Rh z hc11 (fd f_80_1 z) (Rh z hc11 (l1 g_3 z fid (h1m.at (j := 1) z)) (Rh z hc11 (nq z z) (R z (pF z hc11 z) (Rm z ?_))))
  rcases bs (x1k.kind != 1) with hc10 | hc10
  ·iterate 8 refine Nh z hc10 ?_
   exact R z (pT z hc10 z) (Wl (fun _ q => ⟨true, som (ifT hm1e hc10), (q.k (s3 z z z)), s13⟩))
  refine Rh z hc10 (fd f_30_0 z) (Rh z hc10 (l1 g_28 z fid (h1d.at z)) (Rh z hc10 (mv z) ?_))
  obtain ⟨x2u, e1o, hm1p⟩ := bdS (ifF hm1e hc10)
  refine RXg z z hc10 z (at_ (α := Rule) d_28 z_80 z z z h1f e1o) ?_
  rintro _ ⟨b2v, o2w, cs2x, rfl, h1q, h1r, h2y⟩
  obtain ⟨a2z, n30, c31, a32, n33, c34, a35, n36, c37, a38, n39, c3a, rfl, h3b, h3c, h1s, h3d, h3e, h3f, h3g⟩ := Rule_open h1r
  refine Rh z hc10 (fd f_80_2 z) (Rh z hc10 (l1 g_3 z fid (h1q.at (j := 2) z)) ?_)
  obtain ⟨r1t, e1u, hm1v⟩ := bdS hm1p
  refine Eg z z hc10 z (fc call87 z (W_w00 (B := B) e1u (lt_ hBw (lt_ h12.size s13.size)) h1s (ii z) (ii z))) ?_
  rintro _ w3h ⟨s1w, rfl⟩
  exact Rh z hc10 (not_ z) (R z (pF z hc10 z) (Wl (fun _ q => ⟨!r1t, som hm1v, (q.k (s3 z z z)), (bup s13 s1w)⟩)))
 rintro a1x w3i ⟨x17, rfl, hS3j, s14⟩
 revert a1x
 refine Wo (Wc z (fun hc18 => ?_) (fun hc18 => ?_))
 ·refine Ws (Ra z (Wn ?_))
  obtain rfl := som (ifT hm1a hc18)
  exact Wr (ret1 hr z ⟨(bup h12 s14), z, (ii z)⟩)
 refine Wk (Ws (R z (fd f_30_0 z) (R z (l1 g_28 z fid ((h16.ext s14).at z)) (Rm z ?_))))
 obtain ⟨x3k, e1y, hm1z⟩ := bdS (ifF hm1a hc18)
 refine RX z (at_ (α := Rule) d_28 z_80 z z z ((p1_0.ext h12).ext s14) e1y) ?_
 rintro _ ⟨b3l, o3m, cs3n, rfl, h20, h21, h3o⟩
 obtain ⟨a3p, n3q, c3r, a3s, n3t, c3u, a3v, n3w, c3x, a3y, n3z, c40, rfl, h41, h42, h22, h43, h44, h45, h46⟩ := Rule_open h21
 refine R z (fd f_80_2 z) (R z (l1 g_3 z fid (h20.at (j := 2) z)) ?_)
 obtain ⟨r47, e23, hm24⟩ := bdS hm1z
 refine E z (fc call117 z (W_w1u (B := B) e23 (lt_ hBw (lt_ h12.size s14.size)) h22)) ?_
 rintro _ w48 ⟨s25, rfl, h49⟩
 refine R z (sb_ z z) (Ra z (Wn ?_))
 obtain rfl := som hm24
 exact Wr (ret1 hr z ⟨(bup (bup h12 s14) s25), z, (iS _ _)⟩)
theorem W_w1v {x1 : List Str} {x2 : Str} {res : Bool} (hm : M_spec_ContainsText x1 x2 = some res) (hBw : B ≤ w0.z) (p1_0 : repS w0 B (sl A0 N0 C0) x1) (p2_0 : x2.b.length ≤ LEN) : CallsR prog 228 [sl A0 N0 C0, Str.v x2] w0 (Q7 w0 B res) := by
 unfold M_spec_ContainsText at hm
 refine goF func228 z z (lb z) fun fn hr => Ws (Ra z (Wn (Wq (Ws (Ra z (Wn ?_))))))
 obtain ⟨u1k, hu18, hm13⟩ := bdS hm
 refine WC_forN (σ := Unit) (ρ := Bool) (fun (k10 : Nat) (_ : Unit) a w => Sat 18 [(0, sl A0 N0 C0), (1, Str.v x2), (5, (vI ((k10 : Nat) : Int)))] a ∧ Below w0.z w0 w) (fun (_ : Unit) a w => Sat 18 [] a ∧ Below w0.z w0 w) (fun r ex a w => ex = .ret ∧ RetPost prog fn (Q7 w0 B r) a w) hu18 ?_ ?_ ?_ ?_ ?_
 ·exact fun _ q => ⟨(q.k (s3 z z z)), (br w0)⟩
 ·rintro k10 _ a1l w1m o1n hk14 ⟨hS19, s11⟩ hm1a
  refine Wu ?_ hS19
  refine Wq (Ws (Rm z (Rm z ?_)))
  have h15 := p1_0.ext s11
  refine R z (lnR d_77 z h15) (R z (lss z z) (Wn (Wc z (fun _ => ?_) (fun hc => (nolt hk14 hc).elim))))
  refine Wk (Wq (WC_block (Ws (Rm z (Rm z ?_)))))
  obtain ⟨x1o, e1b, hm16⟩ := bdS hm1a
  refine RX z (at_ (α := Str) d_77 z_9 z z z h15 e1b) ?_
  rintro _ ⟨b1p, o1q, cs1r, rfl, h1c, h1d, h1s⟩
  obtain ⟨rfl, h1t⟩ := Str_open h1d
  refine R z (l1 g_9 z fid (h1c.at0 z)) (Rm z (R z (rd_eqlT z z) (Wn (Wc z (fun hc12 => ?_) (fun hc12 => ?_)))))
  ·exact Ws (Ra z (Wn (Wr (rtO (QO_retL (som (ifT hm16 hc12)).symm (ret1 hr z ⟨s11, z⟩))))))
  exact Wk (Wg (Rm z (R z (inc_ hk14 (lt_ (repS.len p1_0) LEN_le) z z) (Ra z (Wl (fun _ q => ⟨(), (som (ifF hm16 hc12)).symm, ⟨(q.k (s3 z z z)), s11⟩⟩))))))
 ·rintro _ a1u w1v ⟨hS1e, s17⟩
  refine Wu ?_ hS1e
  refine Wq (Ws (Rm z (Rm z (R z (lnR d_77 z (p1_0.ext s17)) (R z (lss z z) (Wn (Wc z (fun hc => (noltt hc).elim) (fun _ => ?_))))))))
  exact WC_exit (fun a' ha' => ⟨rfl, ⟨(Sat.weaken ha' sn), s17⟩⟩)
 ·rintro _ a1f w1w rfl ⟨hS1x, s1g⟩
  have hm1h := elL hm13
  revert a1f
  refine Wo (Ws (Ra z (Wn ?_)))
  obtain rfl := som hm1h
  exact Wr (ret1 hr z ⟨s1g, z⟩)
 rintro r1y ex1z a20 w21 rfl ⟨rfl, hq1i⟩
 have hm1j := elR hm13
 obtain rfl := som hm1j
 exact ⟨hq1i, z⟩
theorem W_w1w {x1 : List Str} {res : Bool} (hm : M_spec_l4Names x1 = some res) (hBw : B ≤ w0.z) (p1_0 : repS w0 B (sl A0 N0 C0) x1) : CallsR prog 214 [sl A0 N0 C0] w0 (Q7 w0 B res) := by
 unfold M_spec_l4Names at hm
 refine goF func214 z z (lb z) fun fn hr => Ws (Ra z (Wn (Wq (Ws (Ra z (Wn ?_))))))
 obtain ⟨u2h, hu1k, hm18⟩ := bdS hm
 refine WC_forN (σ := Unit) (ρ := Bool) (fun (k11 : Nat) (_ : Unit) a w => Sat 29 [(0, sl A0 N0 C0), (3, (vI ((k11 : Nat) : Int)))] a ∧ Below w0.z w0 w) (fun (_ : Unit) a w => Sat 29 [(0, sl A0 N0 C0)] a ∧ Below w0.z w0 w) (fun r ex a w => ex = .ret ∧ RetPost prog fn (Q7 w0 B r) a w) hu1k ?_ ?_ ?_ ?_ ?_
 ·exact fun _ q => ⟨(q.k (s2 z z)), (br w0)⟩
 ·rintro k11 _ a2i w19 o2j hk1a ⟨hS1l, s12⟩ hm1m
  refine Wu ?_ hS1l
  refine Wq (Ws (Rm z (Rm z ?_)))
  have h1b := p1_0.ext s12
  refine R z (lnR d_77 z h1b) (R z (lss z z) (Wn (Wc z (fun _ => ?_) (fun hc => (nolt hk1a hc).elim))))
  refine Wk (Wq (WC_block (Wq ?_)))
  obtain ⟨u1n, hu1o, hm1c⟩ := bdS hm1m
  refine WC_cut (fun a w => ∃ (x15 : Bool), x15 = u1n ∧ Sat 29 [(0, sl A0 N0 C0), (3, (vI ((k11 : Nat) : Int))), (25, vB x15)] a ∧ Below w19.z w19 w) ?_ ?_
  ·refine WC_draw (X := noX) 0 (.rd 0 (.rd 1 (.rd 2 (.rd 3 (.ef 4 (.rd 5 (.rd 6 (.rd 7 (.rd 8 (.rd 9 (.rd 10 (.rd 11 (.rd 12 (.rd 13 (.ef 14 (.rd 15 .done)))))))))))))))) mo (by kernel_rfl) fun w2k s13 _ => dR z z (mv z) (dR z z (mv z) ?_)
   obtain ⟨x2l, e1p, hm1q⟩ := bdS hu1o
   have h1d := h1b.ext s13
   refine dRX z z (at_ (α := Str) d_77 z_9 z z z h1d e1p) ?_
   rintro _ ⟨b2m, o2n, cs2o, rfl, h1r, h1s, h2p⟩
   obtain ⟨rfl, h1t⟩ := Str_open h1s
   refine dR z z (l1 g_9 z fid (h1r.at0 z)) ?_
   have h1e := lt_ s12.size s13.size
   obtain ⟨r1u, e1v, hm1f⟩ := bdS hm1q
   refine dE z z (fc call178 z (W_w0j (B := B) e1v (lt_ hBw h1e) h1t)) (.inr fun _ _ h => chgB (h.1)) ?_
   rintro _ w2q ⟨s14, rfl⟩
   refine dR z z (not_ z) (dR z z (mv z) ?_)
   rcases bs (!r1u) with hc10 | hc10
   ·iterate 7 refine dRn z z z hc10 z ?_
    exact dEn z z z hc10 z (dR z z (pT z hc10 z) (PR_done (fun _ q => ⟨true, som (ifT hm1f hc10), (q.k (s3 z z z)), (bup s13 s14)⟩)))
   refine dRg z z z hc10 z (mv z) (dRg z z z hc10 z (mv z) ?_)
   obtain ⟨x2r, e1w, hm1x⟩ := bdS (ifF hm1f hc10)
   have h1g := h1d.ext s14
   refine dRXg z z z hc10 z (rd_sliceX d_77 z_9 z z h1g z z e1w) ?_
   rintro _ ⟨a2s, n2t, c2u, rfl, h1y⟩
   refine dRg z z z hc10 z (mv z) (dRg z z z hc10 z (mv z) ?_)
   obtain ⟨x2v, e1z, hm20⟩ := bdS hm1x
   refine dRXg z z z hc10 z (at_ (α := Str) d_77 z_9 z z z h1g e1z) ?_
   rintro _ ⟨b2w, o2x, cs2y, rfl, h21, h22, h2z⟩
   obtain ⟨rfl, h23⟩ := Str_open h22
   refine dRg z z z hc10 z (l1 g_9 z fid (h21.at0 z)) ?_
   obtain ⟨r24, e25, hm26⟩ := bdS hm20
   refine dEg z z z hc10 z (fc call228 z (W_w1v (B := B) e25 (lt_ hBw (lt_ h1e s14.size)) h1y h23)) (.inr fun _ _ h => chgB (h.1)) ?_
   rintro _ w30 ⟨s27, rfl⟩
   exact dR z z (pF z hc10 z) (PR_done (fun _ q => ⟨r24, som hm26, (q.k (s3 z z z)), (bup (bup s13 s14) s27)⟩))
  rintro a28 w31 ⟨x15, rfl, hS32, s1h⟩
  revert a28
  refine Wo (Wc z (fun hc16 => ?_) (fun hc16 => ?_))
  ·exact Ws (Ra z (Wn (Wr (rtO (QO_retL (som (ifT hm1c hc16)).symm (ret1 hr z ⟨(bup s12 s1h), z⟩))))))
  exact Wk (Wg (Rm z (R z (inc_ hk1a (lt_ (repS.len p1_0) LEN_le) z z) (Ra z (Wl (fun _ q => ⟨(), (som (ifF hm1c hc16)).symm, ⟨(q.k (s2 z z)), (bup s12 s1h)⟩⟩))))))
 ·rintro _ a33 w34 ⟨hS29, s1i⟩
  refine Wu ?_ hS29
  refine Wq (Ws (Rm z (Rm z (R z (lnR d_77 z (p1_0.ext s1i)) (R z (lss z z) (Wn (Wc z (fun hc => (noltt hc).elim) (fun _ => ?_))))))))
  exact WC_exit (fun a' ha' => ⟨rfl, ⟨(Sat.weaken ha' (s1 z)), s1i⟩⟩)
 ·rintro _ a2a w35 rfl ⟨hS36, s17⟩
  have hm2b := elL hm18
  revert a2a
  refine Wo (Ws (Rm z ?_))
  have h1j := p1_0.ext s17
  refine R z (lnR d_77 z h1j) ?_
  obtain ⟨r37, e2c, hm2d⟩ := bdS hm2b
  refine E z (fc call87 z (W_w00 (B := B) e2c (lt_ hBw s17.size) (inI_len (repS.len h1j)) (ii z) (ii z))) ?_
  rintro _ w38 ⟨s2e, rfl⟩
  refine Ra z (Wn ?_)
  obtain rfl := som hm2d
  exact Wr (ret1 hr z ⟨(bup s17 s2e), z⟩)
 rintro r39 ex3a a3b w3c rfl ⟨rfl, hq2f⟩
 have hm2g := elR hm18
 obtain rfl := som hm2g
 exact ⟨hq2f, z⟩
theorem W_w1x {x1 : Desc} {x2 : Rule} {res : Bool} (hm : M_spec_l4Tags x1 x2 = some res) (hBw : B ≤ w0.z) (p1_0 : repS w0 B (sl A0 N0 C0) x1.rules) (p2_0 : x2.name.b.length ≤ LEN) (p2_1 : inI x2.kind) (p2_2 : inI x2.size) (p2_4 : repS w0 B (sl A2 N2 C2) x2.bytes) (p2_5 : repS w0 B (sl A3 N3 C3) x2.names) (p2_6 : repS w0 B (sl A1 N1 C1) x2.tags) (p2_7 : repS w0 B (sl A4 N4 C4) x2.kids) : CallsR prog 215 [(.agg #[sl A0 N0 C0]), (.agg #[Str.v x2.name, vI x2.kind, vI x2.size, vB x2.little, sl A2 N2 C2, sl A3 N3 C3, sl A1 N1 C1, sl A4 N4 C4])] w0 (Q7 w0 B res) := by
 unfold M_spec_l4Tags at hm
 refine goF func215 z z (lb z) fun fn hr => Ws (E z (fb z) ?_)
 rintro _ w18 ⟨rfl, h1m⟩
 have h13 := h1m.below
 have h23 : Blk w18 w0.z [sl A0 N0 C0] := h1m.blk
 refine E z (fb z) ?_
 rintro _ w1e ⟨rfl, h1n⟩
 have h12 := h1n.below
 have h1a : Blk w1e w18.z (vR x2 A2 N2 C2 A3 N3 C3 A1 N1 C1 A4 N4 C4) := h1n.blk
 refine Ra z (Wn (Wq (Wq ?_)))
 obtain ⟨u24, hu1o, hm1p⟩ := bdS hm
 refine WC_cut (fun a w => ∃ (x1f : Bool), x1f = u24 ∧ Sat 59 [(2, pt w0.z), (3, pt w18.z), (20, vB x1f)] a ∧ Below w1e.z w1e w) ?_ ?_
 ·refine Wg (R z (fd f_80_7 z) (R z (l1 g_78 z fid (h1a.at z)) (R z (lnR d_78 z ((p2_7.ext h13).ext h12)) (R z (fd f_80_6 z) (R z (l1 g_78 z fid (h1a.at z)) ?_)))))
  have h1g := (p2_6.ext h13).ext h12
  refine R z (lnR d_78 z h1g) (R z (add_ z z) (R z (nq z z) (Rm z ?_)))
  rcases bs ((x2.kids.length : Int) != (iadd (x2.tags.length : Int) 1)) with hc14 | hc14
  ·iterate 5 refine Nh z hc14 ?_
   exact R z (pT z hc14 z) (Wl (fun _ q => ⟨true, som (ifT hu1o hc14), (q.k (s3 z z z)), (br w1e)⟩))
  refine Rh z hc14 (fd f_80_6 z) (Rh z hc14 (l1 g_78 z fid (h1a.at z)) (Rh z hc14 (lnR d_78 z h1g) ?_))
  obtain ⟨r25, e26, hm27⟩ := bdS (ifF hu1o hc14)
  refine Eg z z hc14 z (fc call87 z (W_w00 (B := B) e26 (lt_ hBw (lt_ h13.size h12.size)) (inI_len (repS.len h1g)) (ii z) (ii z))) ?_
  rintro _ w3b ⟨s28, rfl⟩
  exact Rh z hc14 (not_ z) (R z (pF z hc14 z) (Wl (fun _ q => ⟨!r25, som hm27, (q.k (s3 z z z)), s28⟩)))
 rintro a29 w1b ⟨x1f, rfl, hS3c, s15⟩
 revert a29
 refine Wo (Wc z (fun hc1h => ?_) (fun hc1h => ?_))
 ·refine Ws (Ra z (Wn ?_))
  obtain rfl := som (ifT hm1p hc1h)
  exact Wr (ret1 hr z ⟨(bup (bup h13 h12) s15), z⟩)
 refine Wk (Wq (Ws (Ra z (Wn ?_))))
 obtain ⟨u3d, hu2a, hm1q⟩ := bdS (ifF hm1p hc1h)
 refine WC_forN (σ := Unit) (ρ := Bool) (fun (k1c : Nat) (_ : Unit) a w => Sat 59 [(2, pt w0.z), (3, pt w18.z), (5, (vI ((k1c : Nat) : Int)))] a ∧ Below w1b.z w1b w) (fun (_ : Unit) a w => Sat 59 [] a ∧ Below w1b.z w1b w) (fun r ex a w => ex = .ret ∧ RetPost prog fn (Q7 w0 B r) a w) hu2a ?_ ?_ ?_ ?_ ?_
 ·exact fun _ q => ⟨(q.k (s3 z z z)), (br w1b)⟩
 ·rintro k1c _ a3e w1r o3f hk1s ⟨hS2b, s17⟩ hm2c
  refine Wu ?_ hS2b
  refine Wq (Ws (Rm z (R z (fd f_80_6 z) ?_)))
  have h1t := (h1a.ext s15).ext s17
  refine R z (l1 g_78 z fid (h1t.at z)) ?_
  have h1u := (((p2_6.ext h13).ext h12).ext s15).ext s17
  refine R z (lnR d_78 z h1u) (R z (lss z z) (Wn (Wc z (fun _ => ?_) (fun hc => (nolt hk1s hc).elim))))
  refine Wk (Wq (WC_block (Wq ?_)))
  obtain ⟨u2d, hu2e, hm1v⟩ := bdS hm2c
  refine WC_cut (fun a w => ∃ (x1i : Bool), x1i = u2d ∧ Sat 59 [(2, pt w0.z), (3, pt w18.z), (5, (vI ((k1c : Nat) : Int))), (58, vB x1i)] a ∧ Below w1r.z w1r w) ?_ ?_
  ·refine WC_draw (X := noX) 0 (.rd 0 (.rd 1 (.rd 2 (.rd 3 (.rd 4 (.rd 5 (.rd 6 (.rd 7 (.rd 8 (.rd 9 (.ef 10 (.ef 11 (.rd 12 (.rd 13 (.rd 14 (.rd 15 (.rd 16 (.rd 17 (.rd 18 (.rd 19 (.rd 20 (.rd 21 (.rd 22 (.rd 23 (.rd 24 (.rd 25 (.rd 26 (.rd 27 (.rd 28 (.rd 29 (.rd 30 .done))))))))))))))))))))))))))))))) mo (by kernel_rfl) fun w3g s16 _ => dR z z (fd f_80_6 z) ?_
   have h1j := h1t.ext s16
   refine dR z z (l1 g_78 z fid (h1j.at z)) (dR z z (mv z) ?_)
   obtain ⟨x3h, e2f, hm2g⟩ := bdS hu2e
   have h1w := h1u.ext s16
   refine dRX z z (at_ (α := Int) d_78 z_3 z z z h1w e2f) ?_
   rintro _ ⟨b3i, o3j, cs3k, rfl, h2h, h2i, h3l⟩
   obtain ⟨rfl, h2j⟩ := Int_open h2i
   refine dR z z (l1 g_3 z fid (h2h.at0 z)) (dR z z (lN (vs := [sl A0 N0 C0]) g_30 z_30 z z fid (((((h23.ext h12).ext s15).ext s17).ext s16).row 0 1 z)) (dR z z (fd f_80_7 z) (dR z z (l1 g_78 z fid (h1j.at z)) ?_)))
   obtain ⟨x3m, e2k, hm2l⟩ := bdS hm2g
   refine dRX z z (at_ (α := Int) d_78 z_3 z z z (((((p2_7.ext h13).ext h12).ext s15).ext s17).ext s16) e2k) ?_
   rintro _ ⟨b3n, o3o, cs3p, rfl, h2m, h2n, h3q⟩
   obtain ⟨rfl, h2o⟩ := Int_open h2n
   refine dR z z (l1 g_3 z fid (h2m.at0 z)) ?_
   have h1x := lt_ (lt_ (lt_ (lt_ h13.size h12.size) s15.size) s17.size) s16.size
   obtain ⟨r3r, e2p, hm2q⟩ := bdS hm2l
   refine dE z z (fc call213 z (W_w0k (B := B) e2p (lt_ hBw h1x) (((((p1_0.ext h13).ext h12).ext s15).ext s17).ext s16) h2o)) (.inr fun _ _ h => chgB (h.1)) ?_
   rintro _ w3s ⟨s19, rfl, h2r⟩
   obtain ⟨r2s, e2t, hm1y⟩ := bdS hm2q
   refine dE z z (fc call87 z (W_w00 (B := B) e2t (lt_ hBw (lt_ h1x s19.size)) h2j (ii z) h2r)) (.inr fun _ _ h => chgB (h.1)) ?_
   rintro _ w3t ⟨s1d, rfl⟩
   refine dR z z (not_ z) (dR z z (mv z) ?_)
   rcases bs (!r2s) with hc11 | hc11
   ·iterate 3 refine dRn z z z hc11 z ?_
    iterate 12 refine dRu z z z z ?_
    exact dRn z z z hc11 z (dR z z (pT z hc11 z) (PR_done (fun _ q => ⟨true, som (ifT hm1y hc11), (q.k (s4 z z z z)), (bup (bup s16 s19) s1d)⟩)))
   have hm1z := ifF hm1y hc11
   refine dRg z z z hc11 z (mv z) (dRg z z z hc11 z (rd_gtr z z) (dRg z z z hc11 z (mv z) ?_))
   rcases bs (decide (0 < ((k1c : Nat) : Int))) with hc10 | hc10
   ·refine dRg z z z hc10 z (fd f_80_6 z) ?_
    have h20 := (h1j.ext s19).ext s1d
    refine dRg z z z hc10 z (l1 g_78 z fid (h20.at z)) (dRg z z z hc10 z (mv z) (dRg z z z hc10 z (sb_ z z) ?_))
    obtain ⟨x2u, e2v, hm2w⟩ := bdS (ifT hm1z hc10)
    have h21 := (h1w.ext s19).ext s1d
    refine dRXg z z z hc10 z (at_ (α := Int) d_78 z_3 z z z h21 e2v) ?_
    rintro _ ⟨b3u, o3v, cs3w, rfl, h2x, h2y, h3x⟩
    obtain ⟨rfl, h3y⟩ := Int_open h2y
    refine dRg z z z hc10 z (l1 g_3 z fid (h2x.at0 z)) (dRg z z z hc10 z (fd f_80_6 z) (dRg z z z hc10 z (l1 g_78 z fid (h20.at z)) (dRg z z z hc10 z (mv z) ?_)))
    obtain ⟨x2z, e30, hm31⟩ := bdS hm2w
    refine dRXg z z z hc10 z (at_ (α := Int) d_78 z_3 z z z h21 e30) ?_
    rintro _ ⟨b3z, o40, cs41, rfl, h32, h33, h42⟩
    obtain ⟨rfl, h43⟩ := Int_open h33
    exact dRg z z z hc10 z (l1 g_3 z fid (h32.at0 z)) (dRg z z z hc10 z (rd_geq z z) (dRg z z z hc11 z (pT z hc10 z) (dR z z (pF z hc11 z) (PR_done (fun _ q => ⟨decide (x2z ≤ x2u), som hm31, (q.k (s4 z z z z)), (bup (bup s16 s19) s1d)⟩)))))
   iterate 12 refine dRn z z z hc10 z ?_
   exact dRg z z z hc11 z (pF z hc10 z) (dR z z (pF z hc11 z) (PR_done (fun _ q => ⟨false, som (ifF hm1z hc10), (q.k (s4 z z z z)), (bup (bup s16 s19) s1d)⟩)))
  rintro a34 w44 ⟨x1i, rfl, hS45, s22⟩
  revert a34
  refine Wo (Wc z (fun hc1k => ?_) (fun hc1k => ?_))
  ·exact Ws (Ra z (Wn (Wr (rtO (QO_retL (som (ifT hm1v hc1k)).symm (ret1 hr z ⟨(bup (bup (bup (bup h13 h12) s15) s17) s22), z⟩))))))
  exact Wk (Wg (Rm z (R z (inc_ hk1s (lt_ (repS.len p2_6) LEN_le) z z) (Ra z (Wl (fun _ q => ⟨(), (som (ifF hm1v hc1k)).symm, ⟨(q.k (s3 z z z)), (bup s17 s22)⟩⟩))))))
 ·rintro _ a46 w47 ⟨hS35, s1l⟩
  refine Wu ?_ hS35
  refine Wq (Ws (Rm z (R z (fd f_80_6 z) (R z (l1 g_78 z fid (((h1a.ext s15).ext s1l).at z)) (R z (lnR d_78 z ((((p2_6.ext h13).ext h12).ext s15).ext s1l)) (R z (lss z z) (Wn (Wc z (fun hc => (noltt hc).elim) (fun _ => ?_)))))))))
  exact WC_exit (fun a' ha' => ⟨rfl, ⟨(Sat.weaken ha' sn), s1l⟩⟩)
 ·rintro _ a36 w48 rfl ⟨hS49, s37⟩
  have hm38 := elL hm1q
  revert a36
  refine Wo (Ws (Ra z (Wn ?_)))
  obtain rfl := som hm38
  exact Wr (ret1 hr z ⟨(bup (bup (bup h13 h12) s15) s37), z⟩)
 rintro r4a ex4b a4c w4d rfl ⟨rfl, hq39⟩
 have hm3a := elR hm1q
 obtain rfl := som hm3a
 exact ⟨hq39, z⟩
theorem W_w1y {x1 : Desc} {x2 : Rule} {res : Bool} (hm : M_spec_l4Kind x1 x2 = some res) (hBw : B ≤ w0.z) (p1_0 : repS w0 B (sl A0 N0 C0) x1.rules) (p2_0 : x2.name.b.length ≤ LEN) (p2_1 : inI x2.kind) (p2_2 : inI x2.size) (p2_4 : repS w0 B (sl A2 N2 C2) x2.bytes) (p2_5 : repS w0 B (sl A3 N3 C3) x2.names) (p2_6 : repS w0 B (sl A1 N1 C1) x2.tags) (p2_7 : repS w0 B (sl A4 N4 C4) x2.kids) : CallsR prog 179 [(.agg #[sl A0 N0 C0]), (.agg #[Str.v x2.name, vI x2.kind, vI x2.size, vB x2.little, sl A2 N2 C2, sl A3 N3 C3, sl A1 N1 C1, sl A4 N4 C4])] w0 (Q7 w0 B res) := by
 unfold M_spec_l4Kind at hm
 refine goF func179 z z (lb z) fun fn hr => Ws (E z (fb z) ?_)
 rintro _ w1s ⟨rfl, h2d⟩
 have h11 := h2d.below
 have h1t : Blk w1s w0.z [sl A0 N0 C0] := h2d.blk
 refine E z (fb z) ?_
 rintro _ w12 ⟨rfl, h2e⟩
 have h10 := h2e.below
 have h13 : Blk w12 w1s.z (vR x2 A2 N2 C2 A3 N3 C3 A1 N1 C1 A4 N4 C4) := h2e.blk
 refine Ra z (Wn (Wq (Ws (R z (fd f_80_1 z) (R z (l1 g_3 z fid (h13.at z)) (Wn (WC_block (Ws (R z (eql z z) (Ra z (Wn (Wc z (fun hc1u => ?_) (fun hc1u => ?_)))))))))))))
 ·refine Wq ?_
  obtain ⟨u3n, hu3o, hm3p⟩ := bdS (ifT hm hc1u)
  refine WC_cut (fun a w => ∃ (x1v : Bool), x1v = u3n ∧ Sat 114 [(4, vB x1v)] a ∧ Below w12.z w12 w) ?_ ?_
  ·refine Wg (R z (lN (vs := (vR x2 A2 N2 C2 A3 N3 C3 A1 N1 C1 A4 N4 C4)) g_80 z_80 z z fid (h13.row 0 8 z)) ?_)
   have h2f := lt_ h11.size h10.size
   obtain ⟨r3q, e3r, hm2g⟩ := bdS hu3o
   refine E z (fc call212 z (W_w04 (B := B) e3r (lt_ hBw h2f) p2_0 p2_1 p2_2 ((p2_4.ext h11).ext h10) ((p2_5.ext h11).ext h10) ((p2_6.ext h11).ext h10) ((p2_7.ext h11).ext h10) (ii z))) ?_
   rintro _ w6h ⟨s1l, rfl⟩
   refine Rm z ?_
   rcases bs r3q with hc1e | hc1e
   ·refine Rh z hc1e (fd f_80_2 z) ?_
    have h2h := h13.ext s1l
    refine Rh z hc1e (l1 g_3 z fid (h2h.at z)) ?_
    obtain ⟨r3s, e3t, hm2i⟩ := bdS (ifT hm2g hc1e)
    refine Eg z z hc1e z (fc call87 z (W_w00 (B := B) e3t (lt_ hBw (lt_ h2f s1l.size)) p2_2 (ii z) (ii z))) ?_
    rintro _ w6i ⟨s1p, rfl⟩
    refine R z (pT z hc1e z) (Rm z ?_)
    rcases bs r3s with hc17 | hc17
    ·have hm2j := ifT hm2i hc17
     refine Rh z hc17 (fd f_80_3 z) ?_
     have h2k := h2h.ext s1p
     refine Rh z hc17 (l1 g_4 z fid (h2k.at z)) (Rh z hc17 (not_ z) (Rh z hc17 (mv z) ?_))
     rcases bs (!x2.little) with hc1f | hc1f
     ·iterate 3 refine Nh z hc1f ?_
      exact Rh z hc17 (pT z hc1f z) (R z (pT z hc17 z) (Ra z (Wl (fun _ q => ⟨true, som (ifT hm2j hc1f), (q.k (s1 z)), (bup s1l s1p)⟩))))
     exact Rh z hc1f (fd f_80_2 z) (Rh z hc1f (l1 g_3 z fid (h2k.at z)) (Rh z hc1f (rd_gtr z z) (Rh z hc17 (pF z hc1f z) (R z (pT z hc17 z) (Ra z (Wl (fun _ q => ⟨decide (1 < x2.size), som (ifF hm2j hc1f), (q.k (s1 z)), (bup s1l s1p)⟩)))))))
    iterate 4 refine Nh z hc17 ?_
    exact Nv z (Nv z (Nv z (Nh z hc17 (R z (pF z hc17 z) (Ra z (Wl (fun _ q => ⟨false, som (ifF hm2i hc17), (q.k (s1 z)), (bup s1l s1p)⟩)))))))
   iterate 3 refine Nh z hc1e ?_
   exact R z (pF z hc1e z) (Rm z (Nh z z (Nh z z (Nh z z (Nh z z (Nv z (Nv z (Nv z (Nh z z (R z (pF z z z) (Ra z (Wl (fun _ q => ⟨false, som (ifF hm2g hc1e), (q.k (s1 z)), s1l⟩)))))))))))))
  rintro a3u w6j ⟨x1v, rfl, hS6k, s3v⟩
  revert a3u
  refine Wo ?_
  obtain rfl := som hm3p
  exact Wr (rtO (ret1 hr z ⟨(bup (bup h11 h10) s3v), z⟩))
 have hm2l := ifF hm hc1u
 refine Ws (R z (eql z z) (Ra z (Wn (Wc z (fun hc1w => ?_) (fun hc1w => ?_)))))
 ·refine Wq ?_
  obtain ⟨u3w, hu3x, hm3y⟩ := bdS (ifT hm2l hc1w)
  refine WC_cut (fun a w => ∃ (x1x : Bool), x1x = u3w ∧ Sat 114 [(4, vB x1x)] a ∧ Below w12.z w12 w) ?_ ?_
  ·refine Wg (R z (lN (vs := (vR x2 A2 N2 C2 A3 N3 C3 A1 N1 C1 A4 N4 C4)) g_80 z_80 z z fid (h13.row 0 8 z)) ?_)
   have h2m := (p2_4.ext h11).ext h10
   have h2n := lt_ h11.size h10.size
   obtain ⟨r3z, e40, hm2o⟩ := bdS hu3x
   refine E z (fc call212 z (W_w04 (B := B) e40 (lt_ hBw h2n) p2_0 p2_1 p2_2 h2m ((p2_5.ext h11).ext h10) ((p2_6.ext h11).ext h10) ((p2_7.ext h11).ext h10) (ii z))) ?_
   rintro _ w6l ⟨s1m, rfl⟩
   refine Rm z ?_
   rcases bs r3z with hc19 | hc19
   ·refine Rh z hc19 (fd f_80_4 z) (Rh z hc19 (l1 g_25 z fid ((h13.ext s1m).at z)) ?_)
    have h2p := h2m.ext s1m
    refine Rh z hc19 (lnR d_25 z h2p) ?_
    obtain ⟨r41, e42, hm43⟩ := bdS (ifT hm2o hc19)
    refine Eg z z hc19 z (fc call87 z (W_w00 (B := B) e42 (lt_ hBw (lt_ h2n s1m.size)) (inI_len (repS.len h2p)) (ii z) (ii z))) ?_
    rintro _ w6m ⟨s44, rfl⟩
    exact R z (pT z hc19 z) (Ra z (Wl (fun _ q => ⟨r41, som hm43, (q.k (s1 z)), (bup s1m s44)⟩)))
   iterate 4 refine Nh z hc19 ?_
   exact R z (pF z hc19 z) (Ra z (Wl (fun _ q => ⟨false, som (ifF hm2o hc19), (q.k (s1 z)), s1m⟩)))
  rintro a45 w6n ⟨x1x, rfl, hS6o, s46⟩
  revert a45
  refine Wo ?_
  obtain rfl := som hm3y
  exact Wr (rtO (ret1 hr z ⟨(bup (bup h11 h10) s46), z⟩))
 have hm2q := ifF hm2l hc1w
 refine Ws (R z (eql z z) (Ra z (Wn (Wc z (fun hc1y => ?_) (fun hc1y => ?_)))))
 ·refine Wq ?_
  obtain ⟨u47, hu48, hm49⟩ := bdS (ifT hm2q hc1y)
  refine WC_cut (fun a w => ∃ (x1z : Bool), x1z = u47 ∧ Sat 114 [(4, vB x1z)] a ∧ Below w12.z w12 w) ?_ ?_
  ·refine Wg (R z (lN (vs := (vR x2 A2 N2 C2 A3 N3 C3 A1 N1 C1 A4 N4 C4)) g_80 z_80 z z fid (h13.row 0 8 z)) ?_)
   have h2r := lt_ h11.size h10.size
   obtain ⟨r4a, e4b, hm2s⟩ := bdS hu48
   refine E z (fc call212 z (W_w04 (B := B) e4b (lt_ hBw h2r) p2_0 p2_1 p2_2 ((p2_4.ext h11).ext h10) ((p2_5.ext h11).ext h10) ((p2_6.ext h11).ext h10) ((p2_7.ext h11).ext h10) (ii z))) ?_
   rintro _ w6p ⟨s1q, rfl⟩
   refine Rm z ?_
   rcases bs r4a with hc1g | hc1g
   ·refine Rh z hc1g (fd f_80_2 z) (Rh z hc1g (l1 g_3 z fid ((h13.ext s1q).at z)) ?_)
    obtain ⟨r4c, e4d, hm4e⟩ := bdS (ifT hm2s hc1g)
    refine Eg z z hc1g z (fc call87 z (W_w00 (B := B) e4d (lt_ hBw (lt_ h2r s1q.size)) p2_2 (ii z) (ii z))) ?_
    rintro _ w6q ⟨s4f, rfl⟩
    exact R z (pT z hc1g z) (Ra z (Wl (fun _ q => ⟨r4c, som hm4e, (q.k (s1 z)), (bup s1q s4f)⟩)))
   iterate 3 refine Nh z hc1g ?_
   exact R z (pF z hc1g z) (Ra z (Wl (fun _ q => ⟨false, som (ifF hm2s hc1g), (q.k (s1 z)), s1q⟩)))
  rintro a4g w6r ⟨x1z, rfl, hS6s, s4h⟩
  revert a4g
  refine Wo ?_
  obtain rfl := som hm49
  exact Wr (rtO (ret1 hr z ⟨(bup (bup h11 h10) s4h), z⟩))
 have hm2t := ifF hm2q hc1y
 refine Ws (R z (eql z z) (Ra z (Wn (Wc z (fun hc20 => ?_) (fun hc20 => ?_)))))
 ·refine Wq ?_
  obtain ⟨u4i, hu4j, hm4k⟩ := bdS (ifT hm2t hc20)
  refine WC_cut (fun a w => ∃ (x21 : Bool), x21 = u4i ∧ Sat 114 [(4, vB x21)] a ∧ Below w12.z w12 w) ?_ ?_
  ·refine WC_draw (X := noX) 0 (.rd 0 (.ef 1 (.rd 2 (.rd 3 (.rd 4 (.rd 5 (.rd 6 (.rd 7 (.ef 8 (.rd 9 (.rd 10 (.rd 11 .done)))))))))))) mo (by kernel_rfl) fun w6t s1a _ => ?_
   have h2u := h13.ext s1a
   refine dR z z (lN (vs := (vR x2 A2 N2 C2 A3 N3 C3 A1 N1 C1 A4 N4 C4)) g_80 z_80 z z fid (h2u.row 0 8 z)) ?_
   have h2v := ((p2_7.ext h11).ext h10).ext s1a
   have h2w := lt_ (lt_ h11.size h10.size) s1a.size
   obtain ⟨r4l, e4m, hm2x⟩ := bdS hu4j
   refine dE z z (fc call212 z (W_w04 (B := B) e4m (lt_ hBw h2w) p2_0 p2_1 p2_2 (((p2_4.ext h11).ext h10).ext s1a) (((p2_5.ext h11).ext h10).ext s1a) (((p2_6.ext h11).ext h10).ext s1a) h2v (ii z))) (.inr fun _ _ h => chgB (h.1)) ?_
   rintro _ w6u ⟨s1j, rfl⟩
   refine dR z z (mv z) ?_
   rcases bs r4l with hc14 | hc14
   ·refine dRg z z z hc14 z (lN (vs := [sl A0 N0 C0]) g_30 z_30 z z fid ((((h1t.ext h10).ext s1a).ext s1j).row 0 1 z)) (dRg z z z hc14 z (fd f_80_7 z) (dRg z z z hc14 z (l1 g_78 z fid ((h2u.ext s1j).at z)) ?_))
    obtain ⟨x6v, e4n, hm4o⟩ := bdS (ifT hm2x hc14)
    refine dRXg z z z hc14 z (at_ (α := Int) d_78 z_3 z z z (h2v.ext s1j) e4n) ?_
    rintro _ ⟨b6w, o6x, cs6y, rfl, h4p, h4q, h6z⟩
    obtain ⟨rfl, h4r⟩ := Int_open h4q
    refine dRg z z z hc14 z (l1 g_3 z fid (h4p.at0 z)) ?_
    obtain ⟨r4s, e4t, hm4u⟩ := bdS hm4o
    refine dEg z z z hc14 z (fc call213 z (W_w0k (B := B) e4t (lt_ hBw (lt_ h2w s1j.size)) ((((p1_0.ext h11).ext h10).ext s1a).ext s1j) h4r)) (.inr fun _ _ h => chgB (h.1)) ?_
    rintro _ w70 ⟨s4v, rfl, h71⟩
    exact dRg z z z hc14 z (rd_gtr z z) (dR z z (pT z hc14 z) (dR z z (asg z) (PR_done (fun _ q => ⟨decide (0 < r4s), som hm4u, (q.k (s1 z)), (bup (bup s1a s1j) s4v)⟩))))
   iterate 5 refine dRn z z z hc14 z ?_
   exact dEn z z z hc14 z (dRn z z z hc14 z (dR z z (pF z hc14 z) (dR z z (asg z) (PR_done (fun _ q => ⟨false, som (ifF hm2x hc14), (q.k (s1 z)), (bup s1a s1j)⟩)))))
  rintro a4w w72 ⟨x21, rfl, hS73, s4x⟩
  revert a4w
  refine Wo ?_
  obtain rfl := som hm4k
  exact Wr (rtO (ret1 hr z ⟨(bup (bup h11 h10) s4x), z⟩))
 have hm2y := ifF hm2t hc20
 refine Ws (R z (eql z z) (Ra z (Wn (Wc z (fun hc22 => ?_) (fun hc22 => ?_)))))
 ·refine Wq ?_
  obtain ⟨u4y, hu4z, hm50⟩ := bdS (ifT hm2y hc22)
  refine WC_cut (fun a w => ∃ (x23 : Bool), x23 = u4y ∧ Sat 114 [(4, vB x23)] a ∧ Below w12.z w12 w) ?_ ?_
  ·refine WC_draw (X := noX) 0 (.rd 0 (.ef 1 (.rd 2 (.rd 3 (.rd 4 (.rd 5 (.rd 6 (.rd 7 (.ef 8 (.rd 9 (.rd 10 (.rd 11 .done)))))))))))) mo (by kernel_rfl) fun w74 s1b _ => ?_
   have h2z := h13.ext s1b
   refine dR z z (lN (vs := (vR x2 A2 N2 C2 A3 N3 C3 A1 N1 C1 A4 N4 C4)) g_80 z_80 z z fid (h2z.row 0 8 z)) ?_
   have h30 := ((p2_7.ext h11).ext h10).ext s1b
   have h31 := lt_ (lt_ h11.size h10.size) s1b.size
   obtain ⟨r51, e52, hm32⟩ := bdS hu4z
   refine dE z z (fc call212 z (W_w04 (B := B) e52 (lt_ hBw h31) p2_0 p2_1 p2_2 (((p2_4.ext h11).ext h10).ext s1b) (((p2_5.ext h11).ext h10).ext s1b) (((p2_6.ext h11).ext h10).ext s1b) h30 (ii z))) (.inr fun _ _ h => chgB (h.1)) ?_
   rintro _ w75 ⟨s1k, rfl⟩
   refine dR z z (mv z) ?_
   rcases bs r51 with hc15 | hc15
   ·refine dRg z z z hc15 z (lN (vs := [sl A0 N0 C0]) g_30 z_30 z z fid ((((h1t.ext h10).ext s1b).ext s1k).row 0 1 z)) (dRg z z z hc15 z (fd f_80_7 z) (dRg z z z hc15 z (l1 g_78 z fid ((h2z.ext s1k).at z)) ?_))
    obtain ⟨x76, e53, hm54⟩ := bdS (ifT hm32 hc15)
    refine dRXg z z z hc15 z (at_ (α := Int) d_78 z_3 z z z (h30.ext s1k) e53) ?_
    rintro _ ⟨b77, o78, cs79, rfl, h55, h56, h7a⟩
    obtain ⟨rfl, h57⟩ := Int_open h56
    refine dRg z z z hc15 z (l1 g_3 z fid (h55.at0 z)) ?_
    obtain ⟨r58, e59, hm5a⟩ := bdS hm54
    refine dEg z z z hc15 z (fc call213 z (W_w0k (B := B) e59 (lt_ hBw (lt_ h31 s1k.size)) ((((p1_0.ext h11).ext h10).ext s1b).ext s1k) h57)) (.inr fun _ _ h => chgB (h.1)) ?_
    rintro _ w7b ⟨s5b, rfl, h7c⟩
    exact dRg z z z hc15 z (rd_gtr z z) (dR z z (pT z hc15 z) (dR z z (asg z) (PR_done (fun _ q => ⟨decide (0 < r58), som hm5a, (q.k (s1 z)), (bup (bup s1b s1k) s5b)⟩))))
   iterate 5 refine dRn z z z hc15 z ?_
   exact dEn z z z hc15 z (dRn z z z hc15 z (dR z z (pF z hc15 z) (dR z z (asg z) (PR_done (fun _ q => ⟨false, som (ifF hm32 hc15), (q.k (s1 z)), (bup s1b s1k)⟩)))))
  rintro a5c w7d ⟨x23, rfl, hS7e, s5d⟩
  revert a5c
  refine Wo ?_
  obtain rfl := som hm50
  exact Wr (rtO (ret1 hr z ⟨(bup (bup h11 h10) s5d), z⟩))
 have hm33 := ifF hm2y hc22
 refine Ws (R z (eql z z) (Ra z (Wn (Wc z (fun hc24 => ?_) (fun hc24 => ?_)))))
 ·refine Wq ?_
  obtain ⟨u5e, hu5f, hm5g⟩ := bdS (ifT hm33 hc24)
  refine WC_cut (fun a w => ∃ (x25 : Bool), x25 = u5e ∧ Sat 114 [(4, vB x25)] a ∧ Below w12.z w12 w) ?_ ?_
  ·refine Wg (R z (lN (vs := (vR x2 A2 N2 C2 A3 N3 C3 A1 N1 C1 A4 N4 C4)) g_80 z_80 z z fid (h13.row 0 8 z)) (R z (fd f_80_5 z) (R z (l1 g_77 z fid (h13.at z)) ?_)))
   have h1r := (p2_5.ext h11).ext h10
   refine R z (lnR d_77 z h1r) ?_
   have h34 := lt_ h11.size h10.size
   obtain ⟨r5h, e5i, hm35⟩ := bdS hu5f
   refine E z (fc call212 z (W_w04 (B := B) e5i (lt_ hBw h34) p2_0 p2_1 p2_2 ((p2_4.ext h11).ext h10) h1r ((p2_6.ext h11).ext h10) ((p2_7.ext h11).ext h10) (inI_len (repS.len h1r)))) ?_
   rintro _ w7f ⟨s1n, rfl⟩
   refine Rm z ?_
   rcases bs r5h with hc1h | hc1h
   ·refine Rh z hc1h (fd f_80_5 z) (Rh z hc1h (l1 g_77 z fid ((h13.ext s1n).at z)) ?_)
    obtain ⟨r5j, e5k, hm5l⟩ := bdS (ifT hm35 hc1h)
    refine Eg z z hc1h z (fc call214 z (W_w1w (B := B) e5k (lt_ hBw (lt_ h34 s1n.size)) (h1r.ext s1n))) ?_
    rintro _ w7g ⟨s5m, rfl⟩
    exact R z (pT z hc1h z) (Ra z (Wl (fun _ q => ⟨r5j, som hm5l, (q.k (s1 z)), (bup s1n s5m)⟩)))
   iterate 3 refine Nh z hc1h ?_
   exact R z (pF z hc1h z) (Ra z (Wl (fun _ q => ⟨false, som (ifF hm35 hc1h), (q.k (s1 z)), s1n⟩)))
  rintro a5n w7h ⟨x25, rfl, hS7i, s5o⟩
  revert a5n
  refine Wo ?_
  obtain rfl := som hm5g
  exact Wr (rtO (ret1 hr z ⟨(bup (bup h11 h10) s5o), z⟩))
 have hm36 := ifF hm33 hc24
 refine Ws (R z (eql z z) (Ra z (Wn (Wc z (fun hc26 => ?_) (fun hc26 => ?_)))))
 ·refine Wq ?_
  obtain ⟨u5p, hu5q, hm5r⟩ := bdS (ifT hm36 hc26)
  refine WC_cut (fun a w => ∃ (x27 : Bool), x27 = u5p ∧ Sat 114 [(4, vB x27)] a ∧ Below w12.z w12 w) ?_ ?_
  ·refine Wg (R z (lN (vs := (vR x2 A2 N2 C2 A3 N3 C3 A1 N1 C1 A4 N4 C4)) g_80 z_80 z z fid (h13.row 0 8 z)) ?_)
   have h37 := (p2_4.ext h11).ext h10
   have h38 := (p2_5.ext h11).ext h10
   have h39 := (p2_6.ext h11).ext h10
   have h3a := (p2_7.ext h11).ext h10
   have h3b := lt_ h11.size h10.size
   obtain ⟨r5s, e5t, hm3c⟩ := bdS hu5q
   refine E z (fc call212 z (W_w04 (B := B) e5t (lt_ hBw h3b) p2_0 p2_1 p2_2 h37 h38 h39 h3a (ii z))) ?_
   rintro _ w7j ⟨s1c, rfl⟩
   refine Rm z ?_
   rcases bs r5s with hc1i | hc1i
   ·refine Rh z hc1i (lN (vs := [sl A0 N0 C0]) g_30 z_30 z z fid (((h1t.ext h10).ext s1c).row 0 1 z)) (Rh z hc1i (lN (vs := (vR x2 A2 N2 C2 A3 N3 C3 A1 N1 C1 A4 N4 C4)) g_80 z_80 z z fid ((h13.ext s1c).row 0 8 z)) ?_)
    obtain ⟨r5u, e5v, hm5w⟩ := bdS (ifT hm3c hc1i)
    refine Eg z z hc1i z (fc call215 z (W_w1x (B := B) e5v (lt_ hBw (lt_ h3b s1c.size)) (((p1_0.ext h11).ext h10).ext s1c) p2_0 p2_1 p2_2 (h37.ext s1c) (h38.ext s1c) (h39.ext s1c) (h3a.ext s1c))) ?_
    rintro _ w7k ⟨s5x, rfl⟩
    exact R z (pT z hc1i z) (Ra z (Wl (fun _ q => ⟨r5u, som hm5w, (q.k (s1 z)), (bup s1c s5x)⟩)))
   iterate 3 refine Nh z hc1i ?_
   exact R z (pF z hc1i z) (Ra z (Wl (fun _ q => ⟨false, som (ifF hm3c hc1i), (q.k (s1 z)), s1c⟩)))
  rintro a5y w7l ⟨x27, rfl, hS7m, s5z⟩
  revert a5y
  refine Wo ?_
  obtain rfl := som hm5r
  exact Wr (rtO (ret1 hr z ⟨(bup (bup h11 h10) s5z), z⟩))
 refine Wq (Ws (R z (eql z z) (Ra z (Wn ?_))))
 obtain ⟨u60, hu3d, hm3e⟩ := bdS (ifF hm36 hc26)
 refine WC_cut (fun a w => ∃ (x28 : Bool), x28 = u60 ∧ Sat 114 [(3, pt w1s.z), (6, vI x2.kind), (92, vB x28)] a ∧ Below w12.z w12 w) ?_ ?_
 ·refine Wc z (fun hc29 => ?_) (fun hc29 => ?_)
  ·exact WC_skip (fun _ q => ⟨x2.kind == 8, som (ifT hu3d hc29), (q.k (s3 z z z)), (br w12)⟩)
  exact Wg (R z (eql z z) (Ra z (Wl (fun _ q => ⟨x2.kind == 9, som (ifF hu3d hc29), (q.k (s3 z z z)), (br w12)⟩))))
 rintro a61 w3f ⟨x28, rfl, hS7n, s16⟩
 revert a61
 refine Wo (Wc z (fun hc2a => ?_) (fun hc2a => ?_))
 ·refine Ws (R z (lN (vs := (vR x2 A2 N2 C2 A3 N3 C3 A1 N1 C1 A4 N4 C4)) g_80 z_80 z z fid ((h13.ext s16).row 0 8 z)) ?_)
  obtain ⟨r7o, e62, hm63⟩ := bdS (ifT hm3e hc2a)
  refine E z (fc call212 z (W_w04 (B := B) e62 (lt_ hBw (lt_ (lt_ h11.size h10.size) s16.size)) p2_0 p2_1 p2_2 (((p2_4.ext h11).ext h10).ext s16) (((p2_5.ext h11).ext h10).ext s16) (((p2_6.ext h11).ext h10).ext s16) (((p2_7.ext h11).ext h10).ext s16) (ii z))) ?_
  rintro _ w7p ⟨s64, rfl⟩
  refine Ra z (Wn ?_)
  obtain rfl := som hm63
  exact Wr (rtO (ret1 hr z ⟨(bup (bup (bup h11 h10) s16) s64), z⟩))
 have hm3g := ifF hm3e hc2a
 refine Ws (R z (eql z z) (Ra z (Wn (Wc z (fun hc2b => ?_) (fun hc2b => ?_)))))
 ·refine Wq ?_
  obtain ⟨u65, hu66, hm67⟩ := bdS (ifT hm3g hc2b)
  refine WC_cut (fun a w => ∃ (x2c : Bool), x2c = u65 ∧ Sat 114 [(4, vB x2c)] a ∧ Below w3f.z w3f w) ?_ ?_
  ·refine Wg ?_
   have h3h := h13.ext s16
   refine R z (lN (vs := (vR x2 A2 N2 C2 A3 N3 C3 A1 N1 C1 A4 N4 C4)) g_80 z_80 z z fid (h3h.row 0 8 z)) ?_
   have h3i := ((p2_4.ext h11).ext h10).ext s16
   obtain ⟨r68, e69, hm3j⟩ := bdS hu66
   refine E z (fc call212 z (W_w04 (B := B) e69 (lt_ hBw (lt_ (lt_ h11.size h10.size) s16.size)) p2_0 p2_1 p2_2 h3i (((p2_5.ext h11).ext h10).ext s16) (((p2_6.ext h11).ext h10).ext s16) (((p2_7.ext h11).ext h10).ext s16) (ii z))) ?_
   rintro _ w7q ⟨s1o, rfl⟩
   refine Rm z ?_
   rcases bs r68 with hc1d | hc1d
   ·have hm3k := ifT hm3j hc1d
    refine Rh z hc1d (fd f_80_4 z) ?_
    have h3l := h3h.ext s1o
    refine Rh z hc1d (l1 g_25 z fid (h3l.at z)) ?_
    have h3m := h3i.ext s1o
    refine Rh z hc1d (lnR d_25 z h3m) (Rh z hc1d (eql z z) (R z (pT z hc1d z) (Rm z ?_)))
    rcases bs ((x2.bytes.length : Int) == 1) with hc18 | hc18
    ·refine Rh z hc18 (fd f_80_4 z) (Rh z hc18 (l1 g_25 z fid (h3l.at z)) ?_)
     obtain ⟨x6a, e6b, hm6c⟩ := bdS (ifT hm3k hc18)
     refine RXg z z hc18 z (at_ (α := UInt8) d_25 z_5 z z z h3m e6b) ?_
     rintro _ ⟨b7r, o7s, cs7t, rfl, h6d, h6e, h7u⟩
     obtain rfl := UInt8_open h6e
     exact Rh z hc18 (l1 g_5 z fid (h6d.at0 z)) (Rh z hc18 (nq z z) (R z (pT z hc18 z) (Ra z (Wl (fun _ q => ⟨(byteI x6a) != (byteI (92 : UInt8)), som hm6c, (q.k (s1 z)), s1o⟩)))))
    iterate 5 refine Nh z hc18 ?_
    exact R z (pF z hc18 z) (Ra z (Wl (fun _ q => ⟨false, som (ifF hm3k hc18), (q.k (s1 z)), s1o⟩)))
   iterate 4 refine Nh z hc1d ?_
   exact R z (pF z hc1d z) (Rm z (Nh z z (Nh z z (Nh z z (Nh z z (Nh z z (R z (pF z z z) (Ra z (Wl (fun _ q => ⟨false, som (ifF hm3j hc1d), (q.k (s1 z)), s1o⟩))))))))))
  rintro a6f w7v ⟨x2c, rfl, hS7w, s6g⟩
  revert a6f
  refine Wo ?_
  obtain rfl := som hm67
  exact Wr (rtO (ret1 hr z ⟨(bup (bup (bup h11 h10) s16) s6g), z⟩))
 refine Wk (Ws (Ra z (Wn ?_)))
 obtain rfl := som (ifF hm3g hc2b)
 exact Wr (ret1 hr z ⟨(bup (bup h11 h10) s16), z⟩)
theorem W_w1z {x1 : Desc} {x2 : Int} {res : Bool} (hm : M_spec_IsValidRule x1 x2 = some res) (hBw : B ≤ w0.z) (p1_0 : repS w0 B (sl A0 N0 C0) x1.rules) (p2_0 : inI x2) : CallsR prog 137 [(.agg #[sl A0 N0 C0]), vI x2] w0 (Q7 w0 B res) := by
 unfold M_spec_IsValidRule at hm
 refine goF func137 z z (lb z) fun fn hr => Ws (E z (fb z) ?_)
 rintro _ w2p ⟨rfl, h25⟩
 have h15 := h25.below
 have h1g : Blk w2p w0.z [sl A0 N0 C0] := h25.blk
 refine Ra z (Wn (Wq (Ws (Rm z (R z (fd f_30_0 z) (R z (l1 g_28 z fid (h1g.at z)) ?_))))))
 have h26 := p1_0.ext h15
 refine R z (lnR d_28 z h26) (R z (sb_ z z) ?_)
 obtain ⟨r44, e2q, hm27⟩ := bdS hm
 refine E z (fc call87 z (W_w00 (B := B) e2q (lt_ hBw h15.size) p2_0 (ii z) (iS _ _))) ?_
 rintro _ w17 ⟨s13, rfl⟩
 refine R z (not_ z) (Wn (Wc z (fun hc1j => ?_) (fun hc1j => ?_)))
 ·refine Ws (Ra z (Wn ?_))
  obtain rfl := som (ifT hm27 hc1j)
  exact Wr (ret1 hr z ⟨(bup h15 s13), z⟩)
 refine Wk (Ws (R z (fd f_30_0 z) ?_))
 have h1k := h1g.ext s13
 refine R z (l1 g_28 z fid (h1k.at z)) (Rm z ?_)
 obtain ⟨x14, e2r, hm2s⟩ := bdS (ifF hm27 hc1j)
 have h1l := h26.ext s13
 refine RX z (at_ (α := Rule) d_28 z_80 z z z h1l e2r) ?_
 rintro _ ⟨b45, o46, cs47, rfl, h2t, h2u, h48⟩
 obtain ⟨a1m, n1n, c1o, a1p, n1q, c1r, a1s, n1t, c1u, a1v, n1w, c1x, rfl, h28, h2v, h2w, h2x, h2y, h2z, h1h⟩ := Rule_open h2u
 refine R z (lN (vs := (vR x14 a1m n1n c1o a1p n1q c1r a1s n1t c1u a1v n1w c1x)) g_80 z_80 z z fid h2t) (E z (fa zero_80) ?_)
 rintro _ w30 ⟨rfl, h29⟩
 have h10 := h29.below
 have h31 : Blk w30 w17.z [(Str.v (⟨[]⟩ : Str)), vI 0, vI 0, vB false, sl none 0 0, sl none 0 0, sl none 0 0, sl none 0 0] := h29.blk
 refine E0 (fs (cur' := (vR x14 a1m n1n c1o a1p n1q c1r a1s n1t c1u a1v n1w c1x)) z_80 z z h31 z (lb z) (oA z) z) ?_
 rintro _ w1a ⟨h1i, s32⟩
 have h11 := s32.one
 refine Wn (Wq (Ws (Ra z (Wn ?_))))
 obtain ⟨u49, hu33, hm2a⟩ := bdS hm2s
 refine WC_forN (σ := Unit) (ρ := Bool) (fun (k1y : Nat) (_ : Unit) a w => Sat 58 [(1, vI x2), (2, pt w0.z), (5, pt w17.z), (6, (vI ((k1y : Nat) : Int)))] a ∧ Below w1a.z w1a w) (fun (_ : Unit) a w => Sat 58 [(1, vI x2), (2, pt w0.z), (5, pt w17.z)] a ∧ Below w1a.z w1a w) (fun r ex a w => ex = .ret ∧ RetPost prog fn (Q7 w0 B r) a w) hu33 ?_ ?_ ?_ ?_ ?_
 ·exact fun _ q => ⟨(q.k (s4 z z z z)), (br w1a)⟩
 ·rintro k1y _ a4a w4b o4c hk2b ⟨hS34, s1b⟩ hm35
  refine Wu ?_ hS34
  refine Wq (Ws (Rm z (Rm z (R z (lss z z) (Wn (Wc z (fun _ => ?_) (fun hc => (noltI hk2b hc).elim)))))))
  refine Wk (Wq (WC_block (Wq (WC_draw (X := noX) 0 (.rd 0 (.rd 1 (.rd 2 (.rd 3 (.rd 4 (.rd 5 (.rd 6 (.rd 7 (.rd 8 .done))))))))) mo (by kernel_rfl) fun w4d s1c _ => dR z z (fd f_30_0 z) (dR z z (l1 g_28 z fid (((((h1k.ext h10).chg h11 (djs (mm1 h1g.lt s13.size))).ext s1b).ext s1c).at z)) (dR z z (mv z) ?_))))))
  obtain ⟨x4e, e36, hm2c⟩ := bdS hm35
  have h2d := lt_ h15.size s13.size
  refine dRX z z (at_ (α := Rule) d_28 z_80 z z z ((((h1l.ext h10).chg h11 (lg (mem1le (lt_ hBw h2d)))).ext s1b).ext s1c) e36) ?_
  rintro _ ⟨b4f, o4g, cs4h, rfl, h37, h38, h4i⟩
  obtain ⟨a4j, n4k, c4l, a4m, n4n, c4o, a4p, n4q, c4r, a4s, n4t, c4u, rfl, h4v, h4w, h4x, h4y, h4z, h50, h51⟩ := Rule_open h38
  refine dR z z (fd f_80_0 z) (dR z z (l1 g_9 z fid (h37.at (j := 0) z)) (dR z z (fd f_80_0 z) (dR z z (l1 g_9 z fid (((h1i.ext s1b).ext s1c).at z)) (dR z z (rd_eqlT z z) (PR_done (Wo (Wc z (fun hc1z => ?_) (fun hc1z => ?_))))))))
  ·exact Ws (Ra z (Wn (Wr (rtO (QO_retL (som (ifT hm2c hc1z)).symm (ret1 hr z ⟨(bup (bup (bM (bup (bup h15 s13) h10) h11 (mem1le h2d)) s1b) s1c), z⟩))))))
  exact Wk (Wg (Rm z (R z (inc_ hk2b (toNat_le p2_0) z z) (Ra z (Wl (fun _ q => ⟨(), (som (ifF hm2c hc1z)).symm, ⟨(q.k (s4 z z z z)), (bup s1b s1c)⟩⟩))))))
 ·rintro _ a52 w53 ⟨hS39, s3a⟩
  refine Wu ?_ hS39
  refine Wq (Ws (Rm z (Rm z (R z (lss z z) (Wn (Wc z (fun hc => (nolttI hc).elim) (fun _ => ?_)))))))
  exact WC_exit (fun a' ha' => ⟨rfl, ⟨(Sat.weaken ha' (s3 z z z)), s3a⟩⟩)
 ·rintro _ a3b w1d rfl ⟨hS54, s12⟩
  have hm3c := elL hm2a
  revert a3b
  refine Wo (Wq (Ws (Ra z (Wn ?_))))
  obtain ⟨u55, hu3d, hm2e⟩ := bdS hm3c
  refine WC_forN (σ := Unit) (ρ := Bool) (fun (k20 : Nat) (_ : Unit) a w => Sat 58 [(1, vI x2), (2, pt w0.z), (5, pt w17.z), (7, (vI ((k20 : Nat) : Int)))] a ∧ Below w1d.z w1d w) (fun (_ : Unit) a w => Sat 58 [(2, pt w0.z), (5, pt w17.z)] a ∧ Below w1d.z w1d w) (fun r ex a w => ex = .ret ∧ RetPost prog fn (Q7 w0 B r) a w) hu3d ?_ ?_ ?_ ?_ ?_
  ·exact fun _ q => ⟨(q.k (s4 z z z z)), (br w1d)⟩
  ·rintro k20 _ a56 w57 o58 hk2f ⟨hS3e, s1e⟩ hm3f
   refine Wu ?_ hS3e
   refine Wq (Ws (Rm z (R z (fd f_80_7 z) ?_)))
   have h2g := (h1i.ext s12).ext s1e
   refine R z (l1 g_78 z fid (h2g.at z)) ?_
   have h21 := lt_ h15.size s13.size
   have h2h := (((h1h.ext h10).chg h11 (lg (mem1le (lt_ hBw h21)))).ext s12).ext s1e
   refine R z (lnR d_78 z h2h) (R z (lss z z) (Wn (Wc z (fun _ => ?_) (fun hc => (nolt hk2f hc).elim))))
   refine Wk (Wq (WC_block (Ws (R z (fd f_80_7 z) (R z (l1 g_78 z fid (h2g.at z)) (Rm z ?_))))))
   obtain ⟨x59, e3g, hm3h⟩ := bdS hm3f
   refine RX z (at_ (α := Int) d_78 z_3 z z z h2h e3g) ?_
   rintro _ ⟨b5a, o5b, cs5c, rfl, h3i, h3j, h5d⟩
   obtain ⟨rfl, h3k⟩ := Int_open h3j
   refine R z (l1 g_3 z fid (h3i.at0 z)) (Rm z (R z (sb_ z z) ?_))
   obtain ⟨r5e, e3l, hm2i⟩ := bdS hm3h
   refine E z (fc call87 z (W_w00 (B := B) e3l (lt_ hBw (lt_ (lt_ (lt_ (lt_ h21 h10.size) h11.size) s12.size) s1e.size)) h3k (ii z) (iS _ _))) ?_
   rintro _ w5f ⟨s2j, rfl⟩
   refine R z (not_ z) (Wn (Wc z (fun hc22 => ?_) (fun hc22 => ?_)))
   ·exact Ws (Ra z (Wn (Wr (rtO (QO_retL (som (ifT hm2i hc22)).symm (ret1 hr z ⟨(bup (bup (bup (bM (bup (bup h15 s13) h10) h11 (mem1le h21)) s12) s1e) s2j), z⟩))))))
   exact Wk (Wg (Rm z (R z (inc_ hk2f (lt_ (repS.len h1h) LEN_le) z z) (Ra z (Wl (fun _ q => ⟨(), (som (ifF hm2i hc22)).symm, ⟨(q.k (s4 z z z z)), (bup s1e s2j)⟩⟩))))))
  ·rintro _ a5g w5h ⟨hS3m, s23⟩
   refine Wu ?_ hS3m
   refine Wq (Ws (Rm z (R z (fd f_80_7 z) (R z (l1 g_78 z fid (((h1i.ext s12).ext s23).at z)) (R z (lnR d_78 z ((((h1h.ext h10).chg h11 (lg (mem1le (lt_ hBw (lt_ h15.size s13.size))))).ext s12).ext s23)) (R z (lss z z) (Wn (Wc z (fun hc => (noltt hc).elim) (fun _ => ?_)))))))))
   exact WC_exit (fun a' ha' => ⟨rfl, ⟨(Sat.weaken ha' (s2 z z)), s23⟩⟩)
  ·rintro _ a3n w2k rfl ⟨hS5i, s18⟩
   have hm3o := elL hm2e
   revert a3n
   refine Wo (Wq ?_)
   obtain ⟨u3p, hu3q, hm3r⟩ := bdS hm3o
   refine WC_cut (fun a w => ∃ (x24 : Bool), x24 = u3p ∧ Sat 58 [(4, vB x24)] a ∧ Below w2k.z w2k w) ?_ ?_
   ·refine Wg (R z (fd f_80_0 z) ?_)
    have h2l := (h1i.ext s12).ext s18
    refine R z (l1 g_9 z fid (h2l.at z)) ?_
    have h2m := lt_ h15.size s13.size
    have h2n := lt_ (lt_ (lt_ (lt_ h2m h10.size) h11.size) s12.size) s18.size
    obtain ⟨r3s, e3t, hm2o⟩ := bdS hu3q
    refine E z (fc call178 z (W_w0j (B := B) e3t (lt_ hBw h2n) h28)) ?_
    rintro _ w5j ⟨s16, rfl⟩
    refine Rm z ?_
    rcases bs r3s with hc19 | hc19
    ·refine Rh z hc19 (lN (vs := [sl A0 N0 C0]) g_30 z_30 z z fid ((((((h1k.ext h10).chg h11 (djs (mm1 h1g.lt s13.size))).ext s12).ext s18).ext s16).row 0 1 z)) (Rh z hc19 (lN (vs := (vR x14 a1m n1n c1o a1p n1q c1r a1s n1t c1u a1v n1w c1x)) g_80 z_80 z z fid ((h2l.ext s16).row 0 8 z)) ?_)
     have h1f := mem1le (lt_ hBw h2m)
     obtain ⟨r3u, e3v, hm3w⟩ := bdS (ifT hm2o hc19)
     refine Eg z z hc19 z (fc call179 z (W_w1y (B := B) e3v (lt_ hBw (lt_ h2n s16.size)) (((((h1l.ext h10).chg h11 (lg h1f)).ext s12).ext s18).ext s16) h28 h2v h2w (((((h2x.ext h10).chg h11 (lg h1f)).ext s12).ext s18).ext s16) (((((h2y.ext h10).chg h11 (lg h1f)).ext s12).ext s18).ext s16) (((((h2z.ext h10).chg h11 (lg h1f)).ext s12).ext s18).ext s16) (((((h1h.ext h10).chg h11 (lg h1f)).ext s12).ext s18).ext s16))) ?_
     rintro _ w5k ⟨s3x, rfl⟩
     exact R z (pT z hc19 z) (Ra z (Wl (fun _ q => ⟨r3u, som hm3w, (q.k (s1 z)), (bup s16 s3x)⟩)))
    iterate 3 refine Nh z hc19 ?_
    exact R z (pF z hc19 z) (Ra z (Wl (fun _ q => ⟨false, som (ifF hm2o hc19), (q.k (s1 z)), s16⟩)))
   rintro a3y w5l ⟨x24, rfl, hS5m, s3z⟩
   revert a3y
   refine Wo ?_
   obtain rfl := som hm3r
   exact Wr (ret1 hr z ⟨(bup (bup (bup (bM (bup (bup h15 s13) h10) h11 (mem1le (lt_ h15.size s13.size))) s12) s18) s3z), z⟩)
  rintro r5n ex5o a5p w5q rfl ⟨rfl, hq40⟩
  have hm41 := elR hm2e
  obtain rfl := som hm41
  exact ⟨hq40, z⟩
 rintro r5r ex5s a5t w5u rfl ⟨rfl, hq42⟩
 have hm43 := elR hm2a
 obtain rfl := som hm43
 exact ⟨hq42, z⟩
theorem W_w20 {x1 : Desc} {res : Bool} (hm : M_spec_IsValidDescription x1 = some res) (hBw : B ≤ w0.z) (p1_0 : repS w0 B (sl A0 N0 C0) x1.rules) : CallsR prog 97 [(.agg #[sl A0 N0 C0])] w0 (Q7 w0 B res) := by
 unfold M_spec_IsValidDescription at hm
 refine goF func97 z z (lb z) fun fn hr => Ws (E z (fb z) ?_)
 rintro _ w11 ⟨rfl, h19⟩
 have h10 := h19.below
 have h14 : Blk w11 w0.z [sl A0 N0 C0] := h19.blk
 refine Ra z (Wn (Wq (Ws (Ra z (Wn ?_)))))
 obtain ⟨u1s, hu1g, hm1a⟩ := bdS hm
 refine WC_forN (σ := Unit) (ρ := Bool) (fun (k15 : Nat) (_ : Unit) a w => Sat 19 [(1, pt w0.z), (3, (vI ((k15 : Nat) : Int)))] a ∧ Below w11.z w11 w) (fun (_ : Unit) a w => Sat 19 [(1, pt w0.z)] a ∧ Below w11.z w11 w) (fun r ex a w => ex = .ret ∧ RetPost prog fn (Q7 w0 B r) a w) hu1g ?_ ?_ ?_ ?_ ?_
 ·exact fun _ q => ⟨(q.k (s2 z z)), (br w11)⟩
 ·rintro k15 _ a1t w1u o1v hk16 ⟨hS1h, s12⟩ hm1i
  refine Wu ?_ hS1h
  refine Wq (Ws (Rm z (R z (fd f_30_0 z) ?_)))
  have h1b := h14.ext s12
  refine R z (l1 g_28 z fid (h1b.at z)) ?_
  have h1c := (p1_0.ext h10).ext s12
  refine R z (lnR d_28 z h1c) (R z (lss z z) (Wn (Wc z (fun _ => ?_) (fun hc => (nolt hk16 hc).elim))))
  refine Wk (Wq (WC_block (Ws (R z (lN (vs := [sl A0 N0 C0]) g_30 z_30 z z fid (h1b.row 0 1 z)) (Rm z ?_)))))
  obtain ⟨r1w, e1j, hm1d⟩ := bdS hm1i
  refine E z (fc call137 z (W_w1z (B := B) e1j (lt_ hBw (lt_ h10.size s12.size)) h1c (inI_cnt (Nat.le_of_lt hk16) (lt_ (repS.len p1_0) LEN_le)))) ?_
  rintro _ w1x ⟨s1e, rfl⟩
  refine R z (not_ z) (Wn (Wc z (fun hc17 => ?_) (fun hc17 => ?_)))
  ·exact Ws (Ra z (Wn (Wr (rtO (QO_retL (som (ifT hm1d hc17)).symm (ret1 hr z ⟨(bup (bup h10 s12) s1e), z⟩))))))
  exact Wk (Wg (Rm z (R z (inc_ hk16 (lt_ (repS.len p1_0) LEN_le) z z) (Ra z (Wl (fun _ q => ⟨(), (som (ifF hm1d hc17)).symm, ⟨(q.k (s2 z z)), (bup s12 s1e)⟩⟩))))))
 ·rintro _ a1y w1z ⟨hS1k, s18⟩
  refine Wu ?_ hS1k
  refine Wq (Ws (Rm z (R z (fd f_30_0 z) (R z (l1 g_28 z fid ((h14.ext s18).at z)) (R z (lnR d_28 z ((p1_0.ext h10).ext s18)) (R z (lss z z) (Wn (Wc z (fun hc => (noltt hc).elim) (fun _ => ?_)))))))))
  exact WC_exit (fun a' ha' => ⟨rfl, ⟨(Sat.weaken ha' (s1 z)), s18⟩⟩)
 ·rintro _ a1l w20 rfl ⟨hS21, s13⟩
  have hm1m := elL hm1a
  revert a1l
  refine Wo (Ws (R z (fd f_30_0 z) (R z (l1 g_28 z fid ((h14.ext s13).at z)) ?_)))
  have h1f := (p1_0.ext h10).ext s13
  refine R z (lnR d_28 z h1f) ?_
  obtain ⟨r22, e1n, hm1o⟩ := bdS hm1m
  refine E z (fc call87 z (W_w00 (B := B) e1n (lt_ hBw (lt_ h10.size s13.size)) (inI_len (repS.len h1f)) (ii z) (ii z))) ?_
  rintro _ w23 ⟨s1p, rfl⟩
  refine Ra z (Wn ?_)
  obtain rfl := som hm1o
  exact Wr (ret1 hr z ⟨(bup (bup h10 s13) s1p), z⟩)
 rintro r24 ex25 a26 w27 rfl ⟨rfl, hq1q⟩
 have hm1r := elR hm1a
 obtain rfl := som hm1r
 exact ⟨hq1q, z⟩
theorem W_w21 {x1 : Desc} {x2 : Int} {res : Bool} (hm : M_spec_l7Rule x1 x2 = some res) (hBw : B ≤ w0.z) (p1_0 : repS w0 B (sl A0 N0 C0) x1.rules) (p2_0 : inI x2) : CallsR prog 125 [(.agg #[sl A0 N0 C0]), vI x2] w0 (Q7 w0 B res) := by
 unfold M_spec_l7Rule at hm
 refine goF func125 z z (lb z) fun fn hr => Ws (E z (fb z) ?_)
 rintro _ w13 ⟨rfl, h15⟩
 have h12 := h15.below
 have h16 : Blk w13 w0.z [sl A0 N0 C0] := h15.blk
 refine Ra z (Wn (Wq ?_))
 obtain ⟨u19, hu1a, hm1b⟩ := bdS hm
 refine WC_cut (fun a w => ∃ (x14 : Bool), x14 = u19 ∧ Sat 15 [(4, vB x14)] a ∧ Below w13.z w13 w) ?_ ?_
 ·refine Wg (Rm z (R z (fd f_30_0 z) (R z (l1 g_28 z fid (h16.at z)) ?_)))
  have h17 := p1_0.ext h12
  refine R z (lnR d_28 z h17) (R z (sb_ z z) ?_)
  obtain ⟨r1c, e1d, hm18⟩ := bdS hu1a
  refine E z (fc call87 z (W_w00 (B := B) e1d (lt_ hBw h12.size) p2_0 (ii z) (iS _ _))) ?_
  rintro _ w1k ⟨s11, rfl⟩
  refine Rm z ?_
  rcases bs r1c with hc10 | hc10
  ·refine Rh z hc10 (lN (vs := [sl A0 N0 C0]) g_30 z_30 z z fid ((h16.ext s11).row 0 1 z)) ?_
   obtain ⟨r1e, e1f, hm1g⟩ := bdS (ifT hm18 hc10)
   refine Eg z z hc10 z (fc call97 z (W_w20 (B := B) e1f (lt_ hBw (lt_ h12.size s11.size)) (h17.ext s11))) ?_
   rintro _ w1l ⟨s1h, rfl⟩
   exact R z (pT z hc10 z) (Ra z (Wl (fun _ q => ⟨r1e, som hm1g, (q.k (s1 z)), (bup s11 s1h)⟩)))
  exact Nh z hc10 (Nh z hc10 (R z (pF z hc10 z) (Ra z (Wl (fun _ q => ⟨false, som (ifF hm18 hc10), (q.k (s1 z)), s11⟩)))))
 rintro a1i w1m ⟨x14, rfl, hS1n, s1j⟩
 revert a1i
 refine Wo ?_
 obtain rfl := som hm1b
 exact Wr (ret1 hr z ⟨(bup h12 s1j), z⟩)
theorem W_w0w {x1 : List UInt8} {x2 : Bool} {res : Int} (hm : M_spec_ReadInteger x1 x2 = some res) (hBw : B ≤ w0.z) (p1_0 : repS w0 B (sl A0 N0 C0) x1) : CallsR prog 53 [sl A0 N0 C0, vB x2] w0 (Q0 w0 B res) := by
 unfold M_spec_ReadInteger at hm
 refine goF func53 z z (lb z) fun fn hr => Ws (Ra z (Wn (Ws (Ra z (Wn (Wq (Ws (Rm z (R z (lnR d_25 z p1_0) (R z (rd_gtr z z) (Wn (Wc z (fun hc15 => ?_) (fun hc15 => ?_)))))))))))))
 ·refine Ws (Ra z (Wn ?_))
  obtain rfl := som (ifT hm hc15)
  exact Wr (ret1 hr z ⟨(br w0), z, (ii z)⟩)
 refine Wk (Wq (Ws (Ra z (Wn ?_))))
 obtain ⟨u1v, hu1e, hm19⟩ := bdS (ifF hm hc15)
 refine WC_forN (σ := Int) (ρ := Int) (fun (k11 : Nat) (x10 : Int) a w => Sat 33 [(0, sl A0 N0 C0), (1, vB x2), (5, vI x10), (6, (vI ((k11 : Nat) : Int)))] a ∧ Below w0.z w0 w ∧ inI x10) (fun (x10 : Int) a w => Sat 33 [(5, vI x10)] a ∧ Below w0.z w0 w ∧ inI x10) (fun r ex a w => ex = .ret ∧ RetPost prog fn (Q0 w0 B r) a w) hu1e ?_ ?_ ?_ ?_ ?_
 ·exact fun _ q => ⟨(q.k (s4 z z z z)), (br w0), (ii z)⟩
 ·rintro k11 x10 a1w w12 o1x hk16 ⟨hS1f, s1a, h13⟩ hm1g
  refine Wu ?_ hS1f
  refine Wq (Ws (Rm z (Rm z ?_)))
  have h17 := p1_0.ext s1a
  refine R z (lnR d_25 z h17) (R z (lss z z) (Wn (Wc z (fun _ => ?_) (fun hc => (nolt hk16 hc).elim))))
  refine Wk (Wq (WC_block (Ws (Rm z (Ra z (Wn (Wq (Ws (Rm z (Wn ?_))))))))))
  obtain ⟨u1h, hu1b, hm1i⟩ := bdS hm1g
  refine WC_cut (fun a w => ∃ (x14 : Int), x14 = u1h ∧ Sat 33 [(0, sl A0 N0 C0), (1, vB x2), (5, vI x10), (6, (vI ((k11 : Nat) : Int))), (7, vI x14)] a ∧ Below w12.z w12 w ∧ inI x14) ?_ ?_
  ·refine Wc z (fun hc18 => ?_) (fun hc18 => ?_)
   ·exact Wg (Rm z (R z (lnR d_25 z h17) (R z (sb_ z z) (Rm z (R z (sb_ z z) (Ra z (Wl (fun _ q => ⟨isub (isub (x1.length : Int) 1) ((k11 : Nat) : Int), som (ifT hu1b hc18), (q.k (s5 z z z z z)), (br w12), (iS _ _)⟩))))))))
   exact WC_skip (fun _ q => ⟨((k11 : Nat) : Int), som (ifF hu1b hc18), (q.k (s5 z z z z z)), (br w12), (inI_cnt (Nat.le_of_lt hk16) (lt_ (repS.len p1_0) LEN_le))⟩)
  rintro a1j w1y ⟨x14, rfl, hS1z, s1c, h20⟩
  revert a1j
  refine Wo (Wg (Rm z (R z (rd_mul z z) (Rm z (Rm z ?_)))))
  obtain ⟨x1k, e1l, hm1m⟩ := bdS hm1i
  refine RX z (at_ (α := UInt8) d_25 z_5 z z z (h17.ext s1c) e1l) ?_
  rintro _ ⟨b21, o22, cs23, rfl, h1n, h1o, h24⟩
  obtain rfl := UInt8_open h1o
  exact R z (l1 g_5 z fid (h1n.at0 z)) (R z (rd_convUI d_5 d_3 z) (R z (add_ z z) (Ra z (Wn (Wg (Rm z (R z (inc_ hk16 (lt_ (repS.len p1_0) LEN_le) z z) (Ra z (Wl (fun _ q => ⟨iadd (imul x10 256) (byteI x1k), (som hm1m).symm, ⟨(q.k (s4 z z z z)), (bup s1a s1c), (iA _ _)⟩⟩))))))))))
 ·rintro x10 a25 w26 ⟨hS1p, s1d, h13⟩
  refine Wu ?_ hS1p
  refine Wq (Ws (Rm z (Rm z (R z (lnR d_25 z (p1_0.ext s1d)) (R z (lss z z) (Wn (Wc z (fun hc => (noltt hc).elim) (fun _ => ?_))))))))
  exact WC_exit (fun a' ha' => ⟨rfl, ⟨(Sat.weaken ha' (s1 z)), s1d, h13⟩⟩)
 ·rintro x10 a1q w27 rfl ⟨hS28, s1r, h13⟩
  have hm1s := elL hm19
  revert a1q
  refine Wo (Ws (Rm z (Ra z (Wn ?_))))
  obtain rfl := som hm1s
  exact Wr (ret1 hr z ⟨s1r, z, h13⟩)
 rintro r29 ex2a a2b w2c rfl ⟨rfl, hq1t⟩
 have hm1u := elR hm19
 obtain rfl := som hm1u
 exact ⟨hq1t, z⟩
def Q8 (w0 : World) (B : Nat) (r : Int × Int × Bool) (v : Value) (w' : World) : Prop := Bw w0 w' ∧ un3 (fun r1 r2 r3 => v = .tuple #[vI r1, vI r2, vB r3] ∧ inI r1 ∧ inI r2) r
theorem W_w0c {x1 : Desc} {x2 : Int} {x3 : List UInt8} {x4 : Int} {res : Int × Int × Bool} (hm : M_spec_l11Integer x1 x2 x3 x4 = some res) (hBw : B ≤ w0.z) (p1_0 : repS w0 B (sl A0 N0 C0) x1.rules) (p2_0 : inI x2) (p3_0 : repS w0 B (sl A7 N7 C7) x3) (p4_0 : inI x4) : CallsR prog 128 [(.agg #[sl A0 N0 C0]), vI x2, sl A7 N7 C7, vI x4] w0 (Q8 w0 B res) := by
 unfold M_spec_l11Integer at hm
 refine goF func128 z z (lb z) fun fn hr => Ws (E z (fb z) ?_)
 rintro _ w17 ⟨rfl, h18⟩
 have h10 := h18.below
 have h1p : Blk w17 w0.z [sl A0 N0 C0] := h18.blk
 refine Ra z (Ra z (Ra z (Wn (Ws (R z (fd f_30_0 z) (R z (l1 g_28 z fid (h1p.at z)) (Rm z ?_)))))))
 obtain ⟨x11, e1q, hm19⟩ := bdS hm
 refine RX z (at_ (α := Rule) d_28 z_80 z z z (p1_0.ext h10) e1q) ?_
 rintro _ ⟨b23, o24, cs25, rfl, h1r, h1s, h26⟩
 obtain ⟨a1a, n1b, c1c, a1d, n1e, c1f, a1g, n1h, c1i, a1j, n1k, c1l, rfl, h27, h28, h29, h2a, h2b, h2c, h2d⟩ := Rule_open h1s
 refine R z (lN (vs := (vR x11 a1a n1b c1c a1d n1e c1f a1g n1h c1i a1j n1k c1l)) g_80 z_80 z z fid h1r) (E z (fa zero_80) ?_)
 rintro _ w1t ⟨rfl, h1m⟩
 have h12 := h1m.below
 have h1u : Blk w1t w17.z [(Str.v (⟨[]⟩ : Str)), vI 0, vI 0, vB false, sl none 0 0, sl none 0 0, sl none 0 0, sl none 0 0] := h1m.blk
 refine E0 (fs (cur' := (vR x11 a1a n1b c1c a1d n1e c1f a1g n1h c1i a1j n1k c1l)) z_80 z z h1u z (lb z) (oA z) z) ?_
 rintro _ w2e ⟨h1n, s1v⟩
 have h13 := s1v.one
 refine Wn (Wq (Ws (Rm z ?_)))
 have h1o := ((p3_0.ext h10).ext h12).chg h13 (lg (mem1le (lt_ hBw h10.size)))
 refine R z (lnR d_25 z h1o) (Rm z (R z (sb_ z z) (R z (fd f_80_2 z) (R z (l1 g_3 z fid (h1n.at z)) (R z (lss z z) (Wn (Wc z (fun hc15 => ?_) (fun hc15 => ?_))))))))
 ·refine Ws (Rm z (Ra z (Ra z (Ra z (Wn ?_)))))
  obtain rfl := som (ifT hm19 hc15)
  exact Wr (ret3 hr z z z ⟨(bM (bup h10 h12) h13 (mem1le h10.size)), z, (ii z), p4_0⟩)
 refine Wk (Wq (WC_draw (X := noX) 0 (.rd 0 (.rd 1 (.rd 2 (.rd 3 (.rd 4 (.rd 5 (.rd 6 (.rd 7 (.rd 8 (.rd 10 (.rd 11 (.rd 12 (.rd 13 (.ef 9 (.rd 14 (.rd 15 (.rd 16 .done))))))))))))))))) mo (by kernel_rfl) fun w2f s14 _ => ?_))
 iterate 3 refine dR z z (mv z) ?_
 refine dR z z (fd f_80_2 z) ?_
 have h16 := h1n.ext s14
 refine dR z z (l1 g_3 z fid (h16.at z)) (dR z z (add_ z z) ?_)
 obtain ⟨x2g, e1w, hm1x⟩ := bdS (ifF hm19 hc15)
 refine dRX z z (rd_sliceX d_25 z_5 z z (h1o.ext s14) z z e1w) ?_
 rintro _ ⟨a2h, n2i, c2j, rfl, h1y⟩
 refine dR z z (fd f_80_3 z) (dR z z (l1 g_4 z fid (h16.at z)) (dR z z (mv z) (dR z z (fd f_80_2 z) (dR z z (l1 g_3 z fid (h16.at z)) (dR z z (add_ z z) ?_)))))
 obtain ⟨r2k, e1z, hm20⟩ := bdS hm1x
 refine dE z z (fc call53 z (W_w0w (B := B) e1z (lt_ hBw (lt_ (lt_ (lt_ h10.size h12.size) h13.size) s14.size)) h1y)) (.inr fun _ _ h => chgB (h.1)) ?_
 rintro _ w2l ⟨s21, rfl, h22⟩
 iterate 3 refine dR z z (asg z) ?_
 refine PR_done (Wo ?_)
 obtain rfl := som hm20
 exact Wr (ret3 hr z z z ⟨(bup (bup (bM (bup h10 h12) h13 (mem1le h10.size)) s14) s21), z, h22, (iA _ _)⟩)
def Q9 (w0 : World) (B : Nat) (r : Val × Int × Int) (v : Value) (w' : World) : Prop := Bw w0 w' ∧ un3 (fun r1 r2 r3 => ∃ a1 n1 c1 S1 a2 n2 c2 S2, v = .tuple #[(.agg #[vI r1.number, sl a1 n1 c1, sl a2 n2 c2]), vI r2, vI r3] ∧ inI r1.number ∧ ownS w' S1 (sl a1 n1 c1) r1.bytes ∧ ownS w' S2 (sl a2 n2 c2) r1.items ∧ inI r2 ∧ inI r3 ∧ (S1 ++ S2).Nodup ∧ (∀ k ∈ (S1 ++ S2), w0.z ≤ k)) r
theorem W_w22 {x1 : Rule} {x2 : List UInt8} {x3 : Int} {res : Val × Int × Int} (hm : M_spec_l11Const x1 x2 x3 = some res) (hBw : B ≤ w0.z) (p1_0 : x1.name.b.length ≤ LEN) (p1_1 : inI x1.kind) (p1_2 : inI x1.size) (p1_4 : repS w0 B (sl A9 N9 C9) x1.bytes) (p1_5 : repS w0 B (sl A8 N8 C8) x1.names) (p1_6 : repS w0 B (sl AA NA CA) x1.tags) (p1_7 : repS w0 B (sl AB NB CB) x1.kids) (p2_0 : repS w0 B (sl A5 N5 C5) x2) (p3_0 : inI x3) : CallsR prog 139 [(.agg #[Str.v x1.name, vI x1.kind, vI x1.size, vB x1.little, sl A9 N9 C9, sl A8 N8 C8, sl AA NA CA, sl AB NB CB]), sl A5 N5 C5, vI x3] w0 (Q9 w0 B res) := by
 unfold M_spec_l11Const at hm
 refine goF func139 z z (lb z) fun fn hr => Ws (E z (fb z) ?_)
 rintro _ w13 ⟨rfl, h1e⟩
 have h10 := h1e.below
 have h16 : Blk w13 w0.z (vR x1 A9 N9 C9 A8 N8 C8 AA NA CA AB NB CB) := h1e.blk
 refine E z (fa zero_52) ?_
 rintro _ w14 ⟨rfl, h1f⟩
 have h11 := h1f.below
 have h19 : Blk w14 w13.z [vI 0, sl none 0 0, sl none 0 0] := h1f.blk
 refine Ra z (Ra z (Wn (Wq (Ws (Ra z (Wn ?_))))))
 obtain ⟨u27, hu1n, hm1g⟩ := bdS hm
 refine WC_forN (σ := Unit) (ρ := Val × Int × Int) (fun (k1a : Nat) (_ : Unit) a w => Sat 47 [(1, sl A5 N5 C5), (2, vI x3), (3, pt w0.z), (6, pt w13.z), (9, (vI ((k1a : Nat) : Int)))] a ∧ Below w14.z w14 w) (fun (_ : Unit) a w => Sat 47 [(2, vI x3), (3, pt w0.z), (6, pt w13.z)] a ∧ Below w14.z w14 w) (fun r ex a w => ex = .ret ∧ RetPost prog fn (Q9 w0 B r) a w) hu1n ?_ ?_ ?_ ?_ ?_
 ·exact fun _ q => ⟨(q.k (s5 z z z z z)), (br w14)⟩
 ·rintro k1a _ a28 w29 o2a hk1h ⟨hS1o, s12⟩ hm1i
  refine Wu ?_ hS1o
  refine Wq (Ws (Rm z (R z (fd f_80_4 z) ?_)))
  have h1j := (h16.ext h11).ext s12
  refine R z (l1 g_25 z fid (h1j.at z)) ?_
  have h1k := ((p1_4.ext h10).ext h11).ext s12
  refine R z (lnR d_25 z h1k) (R z (lss z z) (Wn (Wc z (fun _ => ?_) (fun hc => (nolt hk1h hc).elim))))
  refine Wk (Wq (WC_block (Wq (Ws (Rm z (Rm z (R z (add_ z z) (Rm z ?_))))))))
  have h1l := ((p2_0.ext h10).ext h11).ext s12
  refine R z (lnR d_25 z h1l) (R z (rd_geq z z) (Wn (Wc z (fun hc1b => ?_) (fun hc1b => ?_))))
  ·refine Ws (R z (bP (parts := []) (cs := [vI 0, sl none 0 0, sl none 0 0]) build_52 z z) (Rm z (E0 (fs (cur' := [vI 0, sl none 0 0, sl none 0 0]) z_52 z z (h19.ext s12) z (lb z) (oA z) z) ?_)))
   rintro _ w2b ⟨h1p, s1q⟩
   exact Ra z (Ra z (Wn (Wr (rtO (QO_retL (som (ifT hm1i hc1b)).symm (ret3 hr (resC g_52 z_52 z h1p z) z z ⟨(bM (bup (bup h10 h11) s12) s1q.one (mem1le h10.size)), none, 0, 0, [], none, 0, 0, [], z, (ii z), onL, onL, p3_0, (ii z), nd0, al0⟩))))))
  refine Wk (Wq (WC_draw (X := noX) 0 (.rd 0 (.rd 1 (.rd 2 (.rd 3 (.rd 4 (.rd 5 (.rd 6 (.rd 7 (.rd 8 (.rd 9 (.rd 10 (.rd 11 .done)))))))))))) mo (by kernel_rfl) fun w2c s15 _ => ?_))
  iterate 3 refine dR z z (mv z) ?_
  refine dR z z (add_ z z) ?_
  obtain ⟨x2d, e1r, hm1s⟩ := bdS (ifF hm1i hc1b)
  refine dRX z z (at_ (α := UInt8) d_25 z_5 z z z (h1l.ext s15) e1r) ?_
  rintro _ ⟨b2e, o2f, cs2g, rfl, h1t, h1u, h2h⟩
  obtain rfl := UInt8_open h1u
  refine dR z z (l1 g_5 z fid (h1t.at0 z)) (dR z z (fd f_80_4 z) (dR z z (l1 g_25 z fid ((h1j.ext s15).at z)) (dR z z (mv z) ?_)))
  obtain ⟨x2i, e1v, hm1m⟩ := bdS hm1s
  refine dRX z z (at_ (α := UInt8) d_25 z_5 z z z (h1k.ext s15) e1v) ?_
  rintro _ ⟨b2j, o2k, cs2l, rfl, h1w, h1x, h2m⟩
  obtain rfl := UInt8_open h1x
  refine dR z z (l1 g_5 z fid (h1w.at0 z)) (dR z z (nq z z) (PR_done (Wo (Wc z (fun hc1c => ?_) (fun hc1c => ?_)))))
  ·refine Ws (R z (bP (parts := []) (cs := [vI 0, sl none 0 0, sl none 0 0]) build_52 z z) (Rm z (Rm z (R z (add_ z z) (E0 (fs (cur' := [vI 0, sl none 0 0, sl none 0 0]) z_52 z z ((h19.ext s12).ext s15) z (lb z) (oA z) z) ?_)))))
   rintro _ w2n ⟨h1y, s1z⟩
   exact Ra z (Ra z (Wn (Wr (rtO (QO_retL (som (ifT hm1m hc1c)).symm (ret3 hr (resC g_52 z_52 z h1y z) z z ⟨(bM (bup (bup (bup h10 h11) s12) s15) s1z.one (mem1le h10.size)), none, 0, 0, [], none, 0, 0, [], z, (ii z), onL, onL, (iA _ _), (ii z), nd0, al0⟩))))))
  exact Wk (Wg (Rm z (R z (inc_ hk1h (lt_ (repS.len p1_4) LEN_le) z z) (Ra z (Wl (fun _ q => ⟨(), (som (ifF hm1m hc1c)).symm, ⟨(q.k (s5 z z z z z)), (bup s12 s15)⟩⟩))))))
 ·rintro _ a2o w2p ⟨hS20, s1d⟩
  refine Wu ?_ hS20
  refine Wq (Ws (Rm z (R z (fd f_80_4 z) (R z (l1 g_25 z fid (((h16.ext h11).ext s1d).at z)) (R z (lnR d_25 z (((p1_4.ext h10).ext h11).ext s1d)) (R z (lss z z) (Wn (Wc z (fun hc => (noltt hc).elim) (fun _ => ?_)))))))))
  exact WC_exit (fun a' ha' => ⟨rfl, ⟨(Sat.weaken ha' (s3 z z z)), s1d⟩⟩)
 ·rintro _ a21 w2q rfl ⟨hS2r, s17⟩
  have hm22 := elL hm1g
  revert a21
  refine Wo (Wq (WC_draw (X := (· ∈ [w13.z])) 0 (.rd 0 (.rd 1 (.rd 2 (.rd 3 (.rd 4 (.rd 5 (.ef 6 (.rd 7 (.rd 8 .done))))))))) mo (by kernel_rfl) fun w2s s18 _ => dR z z (bP (parts := []) (cs := [vI 0, sl none 0 0, sl none 0 0]) build_52 z z) (dR z z (mv z) (dR z z (fd f_80_4 z) (dR z z (l1 g_25 z (djs (mmr h16.lt)) ((((h16.ext h11).ext s17).ext s18).at z)) (dR z z (lnR d_25 z ((((p1_4.ext h10).ext h11).ext s17).ext s18)) (dR z z (add_ z z) (dE0 z (fs (cur' := [vI 0, sl none 0 0, sl none 0 0]) z_52 z z ((h19.ext s17).ext s18) z (lb z) (oA z) z) (.inr fun _ _ h => chgIn (List.mem_singleton.2 z) h.2) ?_))))))))
  rintro _ w2t ⟨h23, s24⟩
  refine dR z z (asg z) (dR z z (asg z) (PR_done (Wo ?_)))
  obtain rfl := som hm22
  exact Wr (ret3 hr (resC g_52 z_52 z h23 z) z z ⟨(bM (bup (bup (bup h10 h11) s17) s18) s24.one (mem1le h10.size)), none, 0, 0, [], none, 0, 0, [], z, (ii z), onL, onL, (iA _ _), (ii z), nd0, al0⟩)
 rintro r2u ex2v a2w w2x rfl ⟨rfl, hq25⟩
 have hm26 := elR hm1g
 obtain rfl := som hm26
 exact ⟨hq25, z⟩
theorem W_w0x {x1 : List UInt8} {x2 : Int} {x3 : Int} {res : Val × Int × Int} (hm : M_spec_l11Bytes x1 x2 x3 = some res) (hBw : B ≤ w0.z) (p1_0 : repS w0 B (sl A0 N0 C0) x1) (p2_0 : inI x2) (p3_0 : inI x3) : CallsR prog 140 [sl A0 N0 C0, vI x2, vI x3] w0 (Q9 w0 B res) := by
 unfold M_spec_l11Bytes at hm
 refine goF func140 z z (lb z) fun fn hr => Ws (E z (fa zero_52) ?_)
 rintro _ w1f ⟨rfl, h17⟩
 have h10 := h17.below
 have h12 : Blk w1f w0.z [vI 0, sl none 0 0, sl none 0 0] := h17.blk
 refine Ra z (Ra z (Wn (Wq (Ws (Rm z ?_)))))
 have h18 := p1_0.ext h10
 refine R z (lnR d_25 z h18) (Rm z (R z (sb_ z z) (Rm z (R z (lss z z) (Wn (Wc z (fun hc13 => ?_) (fun hc13 => ?_)))))))
 ·refine Ws (R z (bP (parts := []) (cs := [vI 0, sl none 0 0, sl none 0 0]) build_52 z z) (Rm z (E0 (fs (cur' := [vI 0, sl none 0 0, sl none 0 0]) z_52 z z h12 z (lb z) (oA z) z) ?_)))
  rintro _ w1t ⟨h1g, s1h⟩
  refine Ra z (Ra z (Wn ?_))
  obtain rfl := som (ifT hm hc13)
  exact Wr (ret3 hr (resC g_52 z_52 z h1g z) z z ⟨(bM h10 s1h.one (mem1 lr)), none, 0, 0, [], none, 0, 0, [], z, (ii z), onL, onL, p2_0, (ii z), nd0, al0⟩)
 refine Wk (Ws (E z (ef_lit0 (α := UInt8) el_25) ?_))
 rintro _ w1u ⟨a1v, n1w, c1x, rfl, s11, h1i⟩
 refine Rm z (Rm z (Rm z (Rm z (R z (add_ z z) ?_))))
 obtain ⟨x1y, e1j, hm1k⟩ := bdS (ifF hm hc13)
 refine RX z (rd_sliceX d_25 z_5 z z (h18.ext s11) z z e1j) ?_
 rintro _ ⟨a1z, n20, c21, rfl, h1l⟩
 obtain ⟨x22, e1m, hm1n⟩ := bdS hm1k
 refine E z (ef_appendN (α := UInt8) el_25 e1m z z h1i nd_one h1l) ?_
 rintro _ w23 ⟨S19, a14, n15, c16, rfl, s1a, h1o, h1p, h1b⟩
 refine R z (bP (parts := [(1, (.tmp 24))]) (cs := [vI 0, sl a14 n15 c16, sl none 0 0]) build_52 z z) (Rm z (Rm z (R z (add_ z z) ?_)))
 have h1c := mmr h12.lt
 refine E0 (fs (cur' := [vI 0, sl a14 n15 c16, sl none 0 0]) z_52 z z ((h12.ext s11).chg s1a (djs h1c)) z (lb z) (oA z) z) ?_
 rintro _ w24 ⟨h1q, s1r⟩
 have h1d := s1r.one
 refine Ra z (Ra z (Wn ?_))
 obtain rfl := som hm1n
 have h1s : ∀ k ∈ S19, k ∉ [w0.z] := or1 h1b h1c (ltnot (mem1 h12.lt) s11.size)
 have h1e := mem1le h10.size
 exact Wr (ret3 hr (resC g_52 z_52 z h1q z) z z ⟨(bM (bM (bup h10 s11) s1a h1e) h1d (mem1 lr)), a14, n15, c16, S19, none, 0, 0, [], z, (ii z), (h1o.chg h1d h1s), onL, (iA _ _), (ii z), (nd_app h1p nd_nil (nmN _)), (all_app (o1le h1b h1e (lt_ h10.size s11.size)) all_nil)⟩)
def Q10 (w0 : World) (B : Nat) (r : (List UInt8) × Int × Bool) (v : Value) (w' : World) : Prop := Bw w0 w' ∧ un3 (fun r1 r2 r3 => ∃ a1 n1 c1 S1, v = .tuple #[sl a1 n1 c1, vI r2, vB r3] ∧ ownS w' S1 (sl a1 n1 c1) r1 ∧ inI r2 ∧ S1.Nodup ∧ (∀ k ∈ S1, w0.z ≤ k)) r
theorem W_w23 {x1 : List UInt8} {x2 : Int} {x3 : UInt8} {res : (List UInt8) × Int × Bool} (hm : M_spec_ReadTerminated n x1 x2 x3 = some res) (hBw : B ≤ w0.z) (p1_0 : repS w0 B (sl A0 N0 C0) x1) (p2_0 : inI x2) : CallsR prog 141 [sl A0 N0 C0, vI x2, vU (byteI x3)] w0 (Q10 w0 B res) := by
 unfold M_spec_ReadTerminated at hm
 refine goF func141 z z (lb z) fun fn hr => Ws (Ra z (Ra z (Ra z (Wn (Ws (E z (ef_lit0 (α := UInt8) el_25) ?_))))))
 rintro _ w10 ⟨a25, n26, c27, rfl, s19, h28⟩
 refine Ra z (Wn (Wq (Ws (Rm z (Ra z (Wn ?_))))))
 obtain ⟨u3y, hu29, hm1t⟩ := bdS hm
 refine WC_iter (σ := (List UInt8) × Int) (ρ := (List UInt8) × Int × Bool) (fun s a w => un2 (fun x1b x15 => ∃ a12 n13 c14 S11, Sat 54 [(0, sl A0 N0 C0), (1, vI x2), (2, vU (byteI x3)), (9, sl a12 n13 c14), (10, vI x15)] a ∧ Chg (· ∈ [w0.z]) w10 w ∧ ownS w S11 (sl a12 n13 c14) x1b ∧ S11.Nodup ∧ (∀ k ∈ S11, k ∈ [w0.z] ∨ w10.z ≤ k) ∧ inI x15) s) (fun s a w => un2 (fun x1b x15 => ∃ a12 n13 c14 S11, Sat 54 [(1, vI x2)] a ∧ Chg (· ∈ [w0.z]) w10 w ∧ ownS w S11 (sl a12 n13 c14) x1b ∧ S11.Nodup ∧ (∀ k ∈ S11, k ∈ [w0.z] ∨ w10.z ≤ k) ∧ inI x15) s) (fun r ex a w => ex = .ret ∧ RetPost prog fn (Q10 w0 B r) a w) hu29 ?_ ?_ ?_ ?_
 ·exact fun _ q => ⟨a25, n26, c27, [w0.z], (q.k (s5 z z z z z)), (cr [w0.z] w10), h28, nd_one, (io sr), p2_0⟩
 ·rintro ⟨x1b, x15⟩ a3z w1c o40 ⟨a12, n13, c14, S11, hS2a, s18, h1d, h1e, h1f, h1j⟩ hm2b
  have hm2c := un2S hm2b
  refine Wu ?_ hS2a
  refine Wq (Wq ?_)
  obtain ⟨u2d, hu2e, hm1u⟩ := bdS hm2c
  refine WC_cut (fun a w => ∃ (x1k : Bool), x1k = u2d ∧ Sat 54 [(0, sl A0 N0 C0), (1, vI x2), (2, vU (byteI x3)), (9, sl a12 n13 c14), (10, vI x15), (22, vB x1k)] a ∧ Below w1c.z w1c w) ?_ ?_
  ·refine Wg (Rm z (Rm z ?_))
   have h1l := (p1_0.ext s19).chg s18 (lg (mem1le hBw))
   refine R z (lnR d_25 z h1l) ?_
   obtain ⟨r2f, e2g, hm1v⟩ := bdS hu2e
   refine E z (fc call87 z (W_w00 (B := B) e2g (lt_ hBw (lt_ s19.size s18.size)) p2_0 (ii z) (inI_len (repS.len h1l)))) ?_
   rintro _ w41 ⟨s1m, rfl⟩
   refine Rm z ?_
   rcases bs r2f with hc16 | hc16
   ·exact Rh z hc16 (mv z) (Rh z hc16 (mv z) (Rh z hc16 (lnR d_25 z (h1l.ext s1m)) (Rh z hc16 (lss z z) (R z (pT z hc16 z) (Wl (fun _ q => ⟨decide (x15 < (x1.length : Int)), som (ifT hm1v hc16), (q.k (s6 z z z z z z)), s1m⟩))))))
   iterate 4 refine Nh z hc16 ?_
   exact R z (pF z hc16 z) (Wl (fun _ q => ⟨false, som (ifF hm1v hc16), (q.k (s6 z z z z z z)), s1m⟩))
  rintro a2h w1a ⟨x1k, rfl, hS42, s17⟩
  revert a2h
  refine Wo (Wc z (fun hc1n => ?_) (fun hc1n => ?_))
  ·refine Wk (Wq (WC_block (Wq (Ws (Rm z (Rm z ?_))))))
   obtain ⟨x43, e2i, hm1w⟩ := bdS (ifT hm1u hc1n)
   have h1h := ((p1_0.ext s19).chg s18 (lg (mem1le hBw))).ext s17
   refine RX z (at_ (α := UInt8) d_25 z_5 z z z h1h e2i) ?_
   rintro _ ⟨b44, o45, cs46, rfl, h2j, h2k, h47⟩
   obtain rfl := UInt8_open h2k
   refine R z (l1 g_5 z fid (h2j.at0 z)) (Rm z (R z (eql z z) (Wn (Wc z (fun hc1o => ?_) (fun hc1o => ?_)))))
   ·refine Ws (Rm z (Rm z (R z (add_ z z) (Ra z (Ra z (Ra z (Wn ?_)))))))
    have h2l : ∀ k ∈ S11, w0.z ≤ k := or1 h1f (mem1 lr) (lele s19.size)
    exact Wr (rtO (QO_retL (som (ifT hm1w hc1o)).symm (ret3 hr z z z ⟨(bup (bM s19 s18 (mem1 lr)) s17), a12, n13, c14, S11, z, (h1d.ext s17), (iA _ _), h1e, h2l⟩)))
   refine Wk (Wq (Ws (Rm z (Rm z ?_))))
   obtain ⟨x48, e2m, hm2n⟩ := bdS (ifF hm1w hc1o)
   refine RX z (at_ (α := UInt8) d_25 z_5 z z z h1h e2m) ?_
   rintro _ ⟨b49, o4a, cs4b, rfl, h2o, h2p, h4c⟩
   obtain rfl := UInt8_open h2p
   refine R z (l1 g_5 z fid (h2o.at0 z)) (R z (eql z z) (Wn ?_))
   obtain ⟨u2q, hu1x, hm1y⟩ := bdS hm2n
   refine WC_cut (fun a w => ∃ (x1g : Int), Sum.inl x1g = u2q ∧ Sat 54 [(0, sl A0 N0 C0), (1, vI x2), (2, vU (byteI x3)), (9, sl a12 n13 c14), (10, vI x1g)] a ∧ Below w1a.z w1a w ∧ inI x1g) ?_ ?_
   ·refine Wc z (fun hc1p => ?_) (fun hc1p => ?_)
    ·have hm1z := ifT hu1x hc1p
     refine Ws (Rm z (R z (add_ z z) (Ra z (Wn (Ws (Rm z (Rm z (R z (lnR d_25 z h1h) (R z (eql z z) (Wn (Wc z (fun hc1q => ?_) (fun hc1q => ?_))))))))))))
     ·obtain rfl := som (ifT hm1z hc1q)
      have hm2r := elR hm1y
      have h2s : ∀ k ∈ S11, k ∈ [w0.z] ∨ w10.z ≤ k := or1 h1f (io sr) (leor lr)
      have h2t : Chg (· ∈ [w0.z]) w10 w1c := cM (cr [w0.z] w10) s18 (io sr)
      have h2u : Chg (· ∈ [w0.z]) w10 w1a := cext h2t s17
      exact WC_exit (exO z (fun a' ha' => QO_brk (som hm2r).symm ⟨a12, n13, c14, S11, (Sat.weaken ha' (s1 z)), h2u, (h1d.ext s17), h1e, h2s, (iA _ _)⟩))
     exact WC_skip (fun _ q => ⟨iadd x15 1, som (ifF hm1z hc1q), (q.k (s5 z z z z z)), (br w1a), (iA _ _)⟩)
    exact WC_skip (fun _ q => ⟨x15, som (ifF hu1x hc1p), (q.k (s5 z z z z z)), (br w1a), h1j⟩)
   rintro a2v w20 ⟨x1g, rfl, hS4d, s1i, h4e⟩
   have hm2w := elL hm1y
   revert a2v
   refine Wo (Wg (Rm z (Rm z (Rm z ?_))))
   obtain ⟨x2x, e2y, hm2z⟩ := bdS hm2w
   refine RX z (at_ (α := UInt8) d_25 z_5 z z z (h1h.ext s1i) e2y) ?_
   rintro _ ⟨b4f, o4g, cs4h, rfl, h30, h31, h4i⟩
   obtain rfl := UInt8_open h31
   refine R z (l1 g_5 z fid (h30.at0 z)) (E z (ef_buildSlice [(.tmp 49)] el_25 z z z (szAll z) (lb z) (lb z)) ?_)
   rintro _ w21 ⟨rfl, h1r⟩
   have h1s := h1r.below
   have h32 : Blk w21 w20.z [vU (byteI x2x)] := h1r.blk
   have h4j := ownS_new1 h1r UInt8_own
   obtain ⟨x33, e34, hm35⟩ := bdS hm2z
   refine E z (ef_pushN (α := UInt8) el_25 e34 z z (((h1d.ext s17).ext s1i).ext h1s) h1e h32 UInt8_own all_nil nd_nil) ?_
   rintro _ w36 ⟨S22, a37, n38, c39, rfl, s3a, h3b, h3c, h3d⟩
   refine Ra z (Wn (Wg (Rm z (R z (add_ z z) (Ra z (Wl ?_))))))
   have h23 : ∀ k ∈ S11, k ∈ [w0.z] ∨ w10.z ≤ k := or1 h1f (io sr) (leor lr)
   have h3e : ∀ k ∈ S22, k ∈ [w0.z] ∨ w10.z ≤ k := or2 h3d h23 all_nil (leor (lt_ (lt_ (lt_ s18.size s17.size) s1i.size) h1s.size))
   have h3f : Chg (· ∈ [w0.z]) w10 w1c := cM (cr [w0.z] w10) s18 (io sr)
   have h3g : Chg (· ∈ [w0.z]) w10 w1a := cext h3f s17
   have h3h : Chg (· ∈ [w0.z]) w10 w20 := cext h3g s1i
   have h3i : Chg (· ∈ [w0.z]) w10 w21 := cext h3h h1s
   have h3j : Chg (· ∈ [w0.z]) w10 w36 := cM h3i s3a h23
   exact fun _ q => ⟨(x33, iadd x1g 1), (som hm35).symm, ⟨a37, n38, c39, S22, (q.k (s5 z z z z z)), h3j, h3b, h3c, h3e, (iA _ _)⟩⟩
  have h3k : ∀ k ∈ S11, k ∈ [w0.z] ∨ w10.z ≤ k := or1 h1f (io sr) (leor lr)
  have h3l : Chg (· ∈ [w0.z]) w10 w1c := cM (cr [w0.z] w10) s18 (io sr)
  have h3m : Chg (· ∈ [w0.z]) w10 w1a := cext h3l s17
  exact WC_exit (fun a' ha' => QO_brk (som (ifF hm1u hc1n)).symm ⟨a12, n13, c14, S11, (Sat.weaken ha' (s1 z)), h3m, (h1d.ext s17), h1e, h3k, h1j⟩)
 ·rintro ⟨x1b, x15⟩ a3n w3o rfl ⟨a12, n13, c14, S11, hS4k, s24, h1d, h1e, h1f, h1j⟩
  have hm3p := elL hm1t
  have hm3q := un2S hm3p
  revert a3n
  refine Wo (Ws (E z (ef_lit0 (α := UInt8) el_25) ?_))
  rintro _ w4l ⟨a3r, n3s, c3t, rfl, s3u, h3v⟩
  refine Rm z (Ra z (Ra z (Ra z (Wn ?_))))
  obtain rfl := som hm3q
  exact Wr (ret3 hr z z z ⟨(bup (bM s19 s24 (mem1 lr)) s3u), a3r, n3s, c3t, [w3o.z], z, h3v, p2_0, nd_one, (mem1le (lt_ s19.size s24.size))⟩)
 rintro r4m ex4n a4o w4p rfl ⟨rfl, hq3w⟩
 have hm3x := elR hm1t
 obtain rfl := som hm3x
 exact ⟨hq3w, z⟩
theorem W_w0d {x1 : Rule} {x2 : Int} {x3 : Int} {res : Int} (hm : M_spec_l9Item x1 x2 x3 = some res) (hBw : B ≤ w0.z) (p1_0 : x1.name.b.length ≤ LEN) (p1_1 : inI x1.kind) (p1_2 : inI x1.size) (p1_4 : repS w0 B (sl A9 N9 C9) x1.bytes) (p1_5 : repS w0 B (sl A8 N8 C8) x1.names) (p1_6 : repS w0 B (sl AA NA CA) x1.tags) (p1_7 : repS w0 B (sl AB NB CB) x1.kids) (p2_0 : inI x2) (p3_0 : inI x3) : CallsR prog 114 [(.agg #[Str.v x1.name, vI x1.kind, vI x1.size, vB x1.little, sl A9 N9 C9, sl A8 N8 C8, sl AA NA CA, sl AB NB CB]), vI x2, vI x3] w0 (Q0 w0 B res) := by
 unfold M_spec_l9Item at hm
 refine goF func114 z z (lb z) fun fn hr => Ws (E z (fb z) ?_)
 rintro _ w10 ⟨rfl, h1j⟩
 have h11 := h1j.below
 have h12 : Blk w10 w0.z (vR x1 A9 N9 C9 A8 N8 C8 AA NA CA AB NB CB) := h1j.blk
 refine Ra z (Wn (Wq (Ws (R z (fd f_80_1 z) (R z (l1 g_3 z fid (h12.at z)) (Wn (WC_block (Ws (R z (eql z z) (Ra z (Wn (Wc z (fun hc16 => ?_) (fun hc16 => ?_)))))))))))))
 ·refine Ws (R z (fd f_80_7 z) (R z (l1 g_78 z fid (h12.at z)) ?_))
  obtain ⟨x34, e1t, hm1u⟩ := bdS (ifT hm hc16)
  refine RX z (at_ (α := Int) d_78 z_3 z z z (p1_7.ext h11) e1t) ?_
  rintro _ ⟨b35, o36, cs37, rfl, h1v, h1w, h38⟩
  obtain ⟨rfl, h1x⟩ := Int_open h1w
  refine R z (l1 g_3 z fid (h1v.at0 z)) (Ra z (Wn ?_))
  obtain rfl := som hm1u
  exact Wr (rtO (ret1 hr z ⟨h11, z, h1x⟩))
 refine Ws (R z (eql z z) (Ra z (Wn ?_)))
 obtain ⟨u1y, hu1k, hm14⟩ := bdS (ifF hm hc16)
 refine WC_cut (fun a w => Sum.inl () = u1y ∧ Sat 57 [] a ∧ Below w10.z w10 w) ?_ ?_
 ·refine Wc z (fun hc17 => ?_) (fun hc17 => ?_)
  ·have hm1l := ifT hu1k hc17
   refine Ws (Rm z (R z (fd f_80_7 z) (R z (l1 g_78 z fid (h12.at z)) ?_)))
   have h1m := p1_7.ext h11
   refine R z (lnR d_78 z h1m) (R z (lss z z) (Wn (Wc z (fun hc18 => ?_) (fun hc18 => ?_))))
   ·refine Ws (R z (fd f_80_7 z) (R z (l1 g_78 z fid (h12.at z)) (Rm z ?_)))
    obtain ⟨x39, e1z, hm20⟩ := bdS (ifT hm1l hc18)
    refine RX z (at_ (α := Int) d_78 z_3 z z z h1m e1z) ?_
    rintro _ ⟨b3a, o3b, cs3c, rfl, h21, h22, h3d⟩
    obtain ⟨rfl, h23⟩ := Int_open h22
    refine R z (l1 g_3 z fid (h21.at0 z)) (Ra z (Wn ?_))
    obtain rfl := som hm20
    have hm24 := elR hm14
    obtain rfl := som hm24
    exact Wr (rtO (ret1 hr z ⟨h11, z, h23⟩))
   exact WC_skip (fun _ q => ⟨som (ifF hm1l hc18), (q.k sn), (br w10)⟩)
  refine Ws (R z (eql z z) (Ra z (Wn ?_)))
  obtain ⟨u25, hu1n, hm19⟩ := bdS (ifF hu1k hc17)
  refine WC_cut (fun a w => Sum.inl () = u25 ∧ Sat 57 [] a ∧ Below w10.z w10 w) ?_ ?_
  ·refine Wc z (fun hc1a => ?_) (fun hc1a => ?_)
   ·refine Ws (Ra z (Wn ?_))
    obtain ⟨u3e, hu26, hm1o⟩ := bdS (ifT hu1n hc1a)
    refine WC_forN (σ := Unit) (ρ := Int) (fun (k1b : Nat) (_ : Unit) a w => Sat 57 [(1, vI x2), (3, pt w0.z), (7, (vI ((k1b : Nat) : Int)))] a ∧ Below w10.z w10 w) (fun (_ : Unit) a w => Sat 57 [] a ∧ Below w10.z w10 w) (fun r ex a w => ex = .ret ∧ RetPost prog fn (Q0 w0 B r) a w) hu26 ?_ ?_ ?_ ?_ ?_
    ·exact fun _ q => ⟨(q.k (s3 z z z)), (br w10)⟩
    ·rintro k1b _ a3f w3g o3h hk1c ⟨hS27, s13⟩ hm28
     refine Wu ?_ hS27
     refine Wq (Ws (Rm z (R z (fd f_80_6 z) ?_)))
     have h1d := h12.ext s13
     refine R z (l1 g_78 z fid (h1d.at z)) ?_
     have h1p := (p1_6.ext h11).ext s13
     refine R z (lnR d_78 z h1p) (R z (lss z z) (Wn (Wc z (fun _ => ?_) (fun hc => (nolt hk1c hc).elim))))
     refine Wk (Wq (WC_block (Ws (R z (fd f_80_6 z) (R z (l1 g_78 z fid (h1d.at z)) (Rm z ?_))))))
     obtain ⟨x3i, e29, hm1q⟩ := bdS hm28
     refine RX z (at_ (α := Int) d_78 z_3 z z z h1p e29) ?_
     rintro _ ⟨b3j, o3k, cs3l, rfl, h2a, h2b, h3m⟩
     obtain ⟨rfl, h3n⟩ := Int_open h2b
     refine R z (l1 g_3 z fid (h2a.at0 z)) (Rm z (R z (eql z z) (Wn (Wc z (fun hc1e => ?_) (fun hc1e => ?_)))))
     ·refine Ws (R z (fd f_80_7 z) (R z (l1 g_78 z fid (h1d.at z)) (Rm z (R z (inc_ hk1c (lt_ (repS.len p1_6) LEN_le) z z) ?_))))
      obtain ⟨x3o, e2c, hm2d⟩ := bdS (ifT hm1q hc1e)
      refine RX z (at_ (α := Int) d_78 z_3 z z z ((p1_7.ext h11).ext s13) e2c) ?_
      rintro _ ⟨b3p, o3q, cs3r, rfl, h2e, h2f, h3s⟩
      obtain ⟨rfl, h2g⟩ := Int_open h2f
      exact R z (l1 g_3 z fid (h2e.at0 z)) (Ra z (Wn (Wr (rtO (QO_retL (som hm2d).symm (ret1 hr z ⟨(bup h11 s13), z, h2g⟩))))))
     exact Wk (Wg (Rm z (R z (inc_ hk1c (lt_ (repS.len p1_6) LEN_le) z z) (Ra z (Wl (fun _ q => ⟨(), (som (ifF hm1q hc1e)).symm, ⟨(q.k (s3 z z z)), s13⟩⟩))))))
    ·rintro _ a3t w3u ⟨hS2h, s1f⟩
     refine Wu ?_ hS2h
     refine Wq (Ws (Rm z (R z (fd f_80_6 z) (R z (l1 g_78 z fid ((h12.ext s1f).at z)) (R z (lnR d_78 z ((p1_6.ext h11).ext s1f)) (R z (lss z z) (Wn (Wc z (fun hc => (noltt hc).elim) (fun _ => ?_)))))))))
     exact WC_exit (fun a' ha' => ⟨rfl, ⟨(Sat.weaken ha' sn), s1f⟩⟩)
    ·rintro _ a2i w3v rfl ⟨hS3w, s2j⟩
     have hm2k := elL hm1o
     revert a2i
     exact fun _ q => ⟨som hm2k, (q.k sn), s2j⟩
    rintro r3x ex3y a3z w40 rfl ⟨rfl, hq2l⟩
    have hm2m := elR hm1o
    obtain rfl := som hm2m
    have hm2n := elR hm19
    obtain rfl := som hm2n
    have hm2o := elR hm14
    obtain rfl := som hm2o
    exact ⟨hq2l, z⟩
   refine Wq (Ws (R z (eql z z) (Ra z (Wn ?_))))
   obtain ⟨u2p, hu1r, hm1s⟩ := bdS (ifF hu1n hc1a)
   refine WC_cut (fun a w => ∃ (x1g : Bool), x1g = u2p ∧ Sat 57 [(3, pt w0.z), (50, vB x1g)] a ∧ Below w10.z w10 w) ?_ ?_
   ·refine Wc z (fun hc1h => ?_) (fun hc1h => ?_)
    ·exact WC_skip (fun _ q => ⟨x1.kind == 8, som (ifT hu1r hc1h), (q.k (s2 z z)), (br w10)⟩)
    exact Wg (R z (eql z z) (Ra z (Wl (fun _ q => ⟨x1.kind == 9, som (ifF hu1r hc1h), (q.k (s2 z z)), (br w10)⟩))))
   rintro a2q w41 ⟨x1g, rfl, hS42, s15⟩
   revert a2q
   refine Wo (Wc z (fun hc1i => ?_) (fun hc1i => ?_))
   ·refine Ws (R z (fd f_80_7 z) (R z (l1 g_78 z fid ((h12.ext s15).at z)) ?_))
    obtain ⟨x43, e2r, hm2s⟩ := bdS (ifT hm1s hc1i)
    refine RX z (at_ (α := Int) d_78 z_3 z z z ((p1_7.ext h11).ext s15) e2r) ?_
    rintro _ ⟨b44, o45, cs46, rfl, h2t, h2u, h47⟩
    obtain ⟨rfl, h2v⟩ := Int_open h2u
    refine R z (l1 g_3 z fid (h2t.at0 z)) (Ra z (Wn ?_))
    obtain rfl := som hm2s
    have hm2w := elR hm19
    obtain rfl := som hm2w
    have hm2x := elR hm14
    obtain rfl := som hm2x
    exact Wr (rtO (ret1 hr z ⟨(bup h11 s15), z, h2v⟩))
   exact WC_skip (fun _ q => ⟨som (ifF hm1s hc1i), (q.k sn), s15⟩)
  rintro a2y w48 ⟨rfl, hS49, s2z⟩
  have hm30 := elL hm19
  revert a2y
  exact fun _ q => ⟨som hm30, (q.k sn), s2z⟩
 rintro a31 w4a ⟨rfl, hS4b, s32⟩
 have hm33 := elL hm14
 revert a31
 refine Wo (Ws (Ra z (Wn ?_)))
 obtain rfl := som hm33
 exact Wr (ret1 hr z ⟨(bup h11 s32), z, (ii z)⟩)
theorem W_w24 {x1 : List UInt8} {res : Int} (hm : M_spec_SumOfBytes x1 = some res) (hBw : B ≤ w0.z) (p1_0 : repS w0 B (sl A0 N0 C0) x1) : CallsR prog 116 [sl A0 N0 C0] w0 (Q0 w0 B res) := by
 unfold M_spec_SumOfBytes at hm
 refine goF func116 z z (lb z) fun fn hr => Ws (Ra z (Wn (Ws (Ra z (Wn (Wq (Ws (Ra z (Wn ?_)))))))))
 obtain ⟨u1m, hu18, hm13⟩ := bdS hm
 refine WC_forN (σ := Int) (ρ := Int) (fun (k12 : Nat) (x10 : Int) a w => Sat 20 [(0, sl A0 N0 C0), (3, vI x10), (4, (vI ((k12 : Nat) : Int)))] a ∧ Below w0.z w0 w ∧ inI x10) (fun (x10 : Int) a w => Sat 20 [(3, vI x10)] a ∧ Below w0.z w0 w ∧ inI x10) (fun r ex a w => ex = .ret ∧ RetPost prog fn (Q0 w0 B r) a w) hu18 ?_ ?_ ?_ ?_ ?_
 ·exact fun _ q => ⟨(q.k (s3 z z z)), (br w0), (ii z)⟩
 ·rintro k12 x10 a1n w1o o1p hk14 ⟨hS19, s15, h11⟩ hm1a
  refine Wu ?_ hS19
  refine Wq (Ws (Rm z (Rm z ?_)))
  have h16 := p1_0.ext s15
  refine R z (lnR d_25 z h16) (R z (lss z z) (Wn (Wc z (fun _ => ?_) (fun hc => (nolt hk14 hc).elim))))
  refine Wk (Wq (WC_block (Wg (Rm z (Rm z (Rm z ?_))))))
  obtain ⟨x1b, e1c, hm1d⟩ := bdS hm1a
  refine RX z (at_ (α := UInt8) d_25 z_5 z z z h16 e1c) ?_
  rintro _ ⟨b1q, o1r, cs1s, rfl, h1e, h1f, h1t⟩
  obtain rfl := UInt8_open h1f
  exact R z (l1 g_5 z fid (h1e.at0 z)) (R z (rd_convUI d_5 d_3 z) (R z (add_ z z) (R z (rd_rem z z (by decide)) (Ra z (Wn (Wg (Rm z (R z (inc_ hk14 (lt_ (repS.len p1_0) LEN_le) z z) (Ra z (Wl (fun _ q => ⟨irem (iadd x10 (byteI x1b)) 256, (som hm1d).symm, ⟨(q.k (s3 z z z)), s15, (inI_rem (iA _ _))⟩⟩)))))))))))
 ·rintro x10 a1u w1v ⟨hS1g, s17, h11⟩
  refine Wu ?_ hS1g
  refine Wq (Ws (Rm z (Rm z (R z (lnR d_25 z (p1_0.ext s17)) (R z (lss z z) (Wn (Wc z (fun hc => (noltt hc).elim) (fun _ => ?_))))))))
  exact WC_exit (fun a' ha' => ⟨rfl, ⟨(Sat.weaken ha' (s1 z)), s17, h11⟩⟩)
 ·rintro x10 a1h w1w rfl ⟨hS1x, s1i, h11⟩
  have hm1j := elL hm13
  revert a1h
  refine Wo (Ws (Rm z (Ra z (Wn ?_))))
  obtain rfl := som hm1j
  exact Wr (ret1 hr z ⟨s1i, z, h11⟩)
 rintro r1y ex1z a20 w21 rfl ⟨rfl, hq1k⟩
 have hm1l := elR hm13
 obtain rfl := som hm1l
 exact ⟨hq1k, z⟩
structure S_spec_l11Read (f : Desc → Int → (List UInt8) → Int → Option (Val × Int × Int)) : Prop where
  run : ∀ {B N0 C0 N7 C7 : Nat} {A0 A7 : Option Addr} {x1 : Desc} {x2 : Int} {x3 : List UInt8} {x4 : Int} {res : Val × Int × Int} {w0 : World} (hm : f x1 x2 x3 x4 = some res) (hBw : B ≤ w0.z) (p1_0 : repS w0 B (sl A0 N0 C0) x1.rules) (p2_0 : inI x2) (p3_0 : repS w0 B (sl A7 N7 C7) x3) (p4_0 : inI x4), CallsR prog 99 [(.agg #[sl A0 N0 C0]), vI x2, sl A7 N7 C7, vI x4] w0 (Q9 w0 B res)
structure S_spec_l11Items (f : Desc → Rule → Int → Int → (List UInt8) → Int → Option (Val × Int × Int)) : Prop where
  run : ∀ {B N0 C0 N2 C2 N3 C3 N1 C1 N4 C4 ND CD : Nat} {A0 A2 A3 A1 A4 AD : Option Addr} {x1 : Desc} {x2 : Rule} {x3 : Int} {x4 : Int} {x5 : List UInt8} {x6 : Int} {res : Val × Int × Int} {w0 : World} (hm : f x1 x2 x3 x4 x5 x6 = some res) (hBw : B ≤ w0.z) (p1_0 : repS w0 B (sl A0 N0 C0) x1.rules) (p2_0 : x2.name.b.length ≤ LEN) (p2_1 : inI x2.kind) (p2_2 : inI x2.size) (p2_4 : repS w0 B (sl A2 N2 C2) x2.bytes) (p2_5 : repS w0 B (sl A3 N3 C3) x2.names) (p2_6 : repS w0 B (sl A1 N1 C1) x2.tags) (p2_7 : repS w0 B (sl A4 N4 C4) x2.kids) (p3_0 : inI x3) (p4_0 : inI x4) (p5_0 : repS w0 B (sl AD ND CD) x5) (p6_0 : inI x6), CallsR prog 142 [(.agg #[sl A0 N0 C0]), (.agg #[Str.v x2.name, vI x2.kind, vI x2.size, vB x2.little, sl A2 N2 C2, sl A3 N3 C3, sl A1 N1 C1, sl A4 N4 C4]), vI x3, vI x4, sl AD ND CD, vI x6] w0 (Q9 w0 B res)
structure S_spec_l11Choice (f : Desc → Rule → (List UInt8) → Int → Option (Val × Int × Int)) : Prop where
  run : ∀ {B N0 C0 N2 C2 N3 C3 N1 C1 N4 C4 N7 C7 : Nat} {A0 A2 A3 A1 A4 A7 : Option Addr} {x1 : Desc} {x2 : Rule} {x3 : List UInt8} {x4 : Int} {res : Val × Int × Int} {w0 : World} (hm : f x1 x2 x3 x4 = some res) (hBw : B ≤ w0.z) (p1_0 : repS w0 B (sl A0 N0 C0) x1.rules) (p2_0 : x2.name.b.length ≤ LEN) (p2_1 : inI x2.kind) (p2_2 : inI x2.size) (p2_4 : repS w0 B (sl A2 N2 C2) x2.bytes) (p2_5 : repS w0 B (sl A3 N3 C3) x2.names) (p2_6 : repS w0 B (sl A1 N1 C1) x2.tags) (p2_7 : repS w0 B (sl A4 N4 C4) x2.kids) (p3_0 : repS w0 B (sl A7 N7 C7) x3) (p4_0 : inI x4), CallsR prog 143 [(.agg #[sl A0 N0 C0]), (.agg #[Str.v x2.name, vI x2.kind, vI x2.size, vB x2.little, sl A2 N2 C2, sl A3 N3 C3, sl A1 N1 C1, sl A4 N4 C4]), sl A7 N7 C7, vI x4] w0 (Q9 w0 B res)
structure S_spec_l11Option (f : Desc → Rule → (List UInt8) → Int → Option (Val × Int × Int)) : Prop where
  run : ∀ {B N0 C0 N2 C2 N3 C3 N1 C1 N4 C4 N7 C7 : Nat} {A0 A2 A3 A1 A4 A7 : Option Addr} {x1 : Desc} {x2 : Rule} {x3 : List UInt8} {x4 : Int} {res : Val × Int × Int} {w0 : World} (hm : f x1 x2 x3 x4 = some res) (hBw : B ≤ w0.z) (p1_0 : repS w0 B (sl A0 N0 C0) x1.rules) (p2_0 : x2.name.b.length ≤ LEN) (p2_1 : inI x2.kind) (p2_2 : inI x2.size) (p2_4 : repS w0 B (sl A2 N2 C2) x2.bytes) (p2_5 : repS w0 B (sl A3 N3 C3) x2.names) (p2_6 : repS w0 B (sl A1 N1 C1) x2.tags) (p2_7 : repS w0 B (sl A4 N4 C4) x2.kids) (p3_0 : repS w0 B (sl A7 N7 C7) x3) (p4_0 : inI x4), CallsR prog 144 [(.agg #[sl A0 N0 C0]), (.agg #[Str.v x2.name, vI x2.kind, vI x2.size, vB x2.little, sl A2 N2 C2, sl A3 N3 C3, sl A1 N1 C1, sl A4 N4 C4]), sl A7 N7 C7, vI x4] w0 (Q9 w0 B res)
structure S_spec_l11Checked (f : Desc → Rule → (List UInt8) → Int → Option (Val × Int × Int)) : Prop where
  run : ∀ {B N0 C0 N2 C2 N3 C3 N1 C1 N4 C4 N7 C7 : Nat} {A0 A2 A3 A1 A4 A7 : Option Addr} {x1 : Desc} {x2 : Rule} {x3 : List UInt8} {x4 : Int} {res : Val × Int × Int} {w0 : World} (hm : f x1 x2 x3 x4 = some res) (hBw : B ≤ w0.z) (p1_0 : repS w0 B (sl A0 N0 C0) x1.rules) (p2_0 : x2.name.b.length ≤ LEN) (p2_1 : inI x2.kind) (p2_2 : inI x2.size) (p2_4 : repS w0 B (sl A2 N2 C2) x2.bytes) (p2_5 : repS w0 B (sl A3 N3 C3) x2.names) (p2_6 : repS w0 B (sl A1 N1 C1) x2.tags) (p2_7 : repS w0 B (sl A4 N4 C4) x2.kids) (p3_0 : repS w0 B (sl A7 N7 C7) x3) (p4_0 : inI x4), CallsR prog 145 [(.agg #[sl A0 N0 C0]), (.agg #[Str.v x2.name, vI x2.kind, vI x2.size, vB x2.little, sl A2 N2 C2, sl A3 N3 C3, sl A1 N1 C1, sl A4 N4 C4]), sl A7 N7 C7, vI x4] w0 (Q9 w0 B res)
abbrev I_spec_l11Read (n : Nat) : Prop := S_spec_l11Read (F_spec_l11Read n).spec_l11Read ∧ S_spec_l11Items (F_spec_l11Read n).spec_l11Items ∧ S_spec_l11Choice (F_spec_l11Read n).spec_l11Choice ∧ S_spec_l11Option (F_spec_l11Read n).spec_l11Option ∧ S_spec_l11Checked (F_spec_l11Read n).spec_l11Checked
theorem T_w02 (ih : I_spec_l11Read n) : S_spec_l11Read (B_spec_l11Read n (F_spec_l11Read n)) := by
 obtain ⟨ih0, ih1, ih2, ih3, ih4⟩ := ih
 constructor
 intro B N0 C0 N7 C7 A0 A7 x1 x2 x3 x4 res w0 hm hBw p1_0 p2_0 p3_0 p4_0
 unfold B_spec_l11Read at hm
 refine goF func99 z z (lb z) fun fn hr => Ws (E z (fb z) ?_)
 rintro _ w3r ⟨rfl, h3s⟩
 have h12 := h3s.below
 have h1l : Blk w3r w0.z [sl A0 N0 C0] := h3s.blk
 refine E z (fa zero_52) ?_
 rintro _ w3t ⟨rfl, h3u⟩
 have h14 := h3u.below
 have h13 : Blk w3t w3r.z [vI 0, sl none 0 0, sl none 0 0] := h3u.blk
 refine Ra z (Ra z (Wn (Ws (R z (fd f_30_0 z) ?_))))
 have h1m := h1l.ext h14
 refine R z (l1 g_28 z fid (h1m.at z)) (Rm z ?_)
 obtain ⟨x15, e6e, hm3v⟩ := bdS hm
 have h1n := (p1_0.ext h12).ext h14
 refine RX z (at_ (α := Rule) d_28 z_80 z z z h1n e6e) ?_
 rintro _ ⟨b102, o103, cs104, rfl, h6f, h6g, h105⟩
 obtain ⟨a19, n1a, c1b, a1c, n1d, c1e, a1f, n1g, c1h, a1i, n1j, c1k, rfl, h1q, h1r, h1o, h1p, h1s, h1t, h1u⟩ := Rule_open h6g
 refine R z (lN (vs := (vR x15 a19 n1a c1b a1c n1d c1e a1f n1g c1h a1i n1j c1k)) g_80 z_80 z z fid h6f) (E z (fa zero_80) ?_)
 rintro _ w6h ⟨rfl, h3w⟩
 have h10 := h3w.below
 have h6i : Blk w6h w3t.z [(Str.v (⟨[]⟩ : Str)), vI 0, vI 0, vB false, sl none 0 0, sl none 0 0, sl none 0 0, sl none 0 0] := h3w.blk
 refine E0 (fs (cur' := (vR x15 a19 n1a c1b a1c n1d c1e a1f n1g c1h a1i n1j c1k)) z_80 z z h6i z (lb z) (oA z) z) ?_
 rintro _ w106 ⟨h18, s6j⟩
 have h11 := s6j.one
 refine Wn (Wq (Ws (R z (fd f_80_1 z) (R z (l1 g_3 z fid (h18.at z)) (Wn (WC_block (Ws (R z (eql z z) (Ra z (Wn (Wc z (fun hc2e => ?_) (fun hc2e => ?_))))))))))))
 ·refine Ws (R z (lN (vs := [sl A0 N0 C0]) g_30 z_30 z z fid (((h1m.ext h10).chg h11 (djs (mm1 h1l.lt h14.size))).row 0 1 z)) (Rm z (Rm z (Rm z ?_))))
  have h22 := lt_ h12.size h14.size
  have h3x := mem1le (lt_ hBw h22)
  obtain ⟨r3y, r107, r108, e6k, hm3z⟩ := bd3S (ifT hm3v hc2e)
  refine E z (fc call128 z (W_w0c (B := B) e6k (lt_ hBw (lt_ (lt_ h22 h10.size) h11.size)) ((h1n.ext h10).chg h11 (lg h3x)) p2_0 ((((p3_0.ext h12).ext h14).ext h10).chg h11 (lg h3x)) p4_0)) ?_
  rintro _ w109 ⟨s23, rfl, h6l, h6m⟩
  refine Rm z ?_
  iterate 3 refine R z (ext_ z z) ?_
  refine Ra z (Ra z (Ra z (Wn (Wq (Ws (Rm z (R z (not_ z) (Wn (Wc z (fun hc2f => ?_) (fun hc2f => ?_))))))))))
  ·refine Ws (R z (bP (parts := []) (cs := [vI 0, sl none 0 0, sl none 0 0]) build_52 z z) (Rm z (E0 (fs (cur' := [vI 0, sl none 0 0, sl none 0 0]) z_52 z z (((h13.ext h10).chg h11 (djs (mmr h13.lt))).ext s23) z (lb z) (oA z) z) ?_)))
   rintro _ w10a ⟨h6n, s6o⟩
   refine Ra z (Ra z (Wn ?_))
   obtain rfl := som (ifT hm3z hc2f)
   exact Wr (rtO (ret3 hr (resC g_52 z_52 z h6n z) z z ⟨(bM (bup (bM (bup (bup h12 h14) h10) h11 (mem1le h22)) s23) s6o.one (mem1le h12.size)), none, 0, 0, [], none, 0, 0, [], z, (ii z), onL, onL, p4_0, (ii z), nd0, al0⟩))
  refine Wk (Ws (Rm z (R z (bP (parts := [(0, (.tmp 43))]) (cs := [vI r3y, sl none 0 0, sl none 0 0]) build_52 z z) (Rm z (E0 (fs (cur' := [vI r3y, sl none 0 0, sl none 0 0]) z_52 z z (((h13.ext h10).chg h11 (djs (mmr h13.lt))).ext s23) z (lb z) (oA z) z) ?_)))))
  rintro _ w10b ⟨h6p, s6q⟩
  refine Ra z (Ra z (Wn ?_))
  obtain rfl := som (ifF hm3z hc2f)
  exact Wr (rtO (ret3 hr (resC g_52 z_52 z h6p z) z z ⟨(bM (bup (bM (bup (bup h12 h14) h10) h11 (mem1le h22)) s23) s6q.one (mem1le h12.size)), none, 0, 0, [], none, 0, 0, [], z, h6l, onL, onL, h6m, (ii z), nd0, al0⟩))
 have hm40 := ifF hm3v hc2e
 refine Ws (R z (eql z z) (Ra z (Wn (Wc z (fun hc2g => ?_) (fun hc2g => ?_)))))
 ·refine Ws (R z (lN (vs := (vR x15 a19 n1a c1b a1c n1d c1e a1f n1g c1h a1i n1j c1k)) g_80 z_80 z z fid (h18.row 0 8 z)) (Rm z (Rm z ?_)))
  have h2h := lt_ h12.size h14.size
  have h21 := mem1le (lt_ hBw h2h)
  have h2i := lt_ (lt_ h2h h10.size) h11.size
  obtain ⟨r6r, r10c, r10d, e6s, hm6t⟩ := bd3S (ifT hm40 hc2g)
  refine E z (fc call139 z (W_w22 (B := B) e6s (lt_ hBw h2i) h1q h1r h1o ((h1p.ext h10).chg h11 (lg h21)) ((h1s.ext h10).chg h11 (lg h21)) ((h1t.ext h10).chg h11 (lg h21)) ((h1u.ext h10).chg h11 (lg h21)) ((((p3_0.ext h12).ext h14).ext h10).chg h11 (lg h21)) p4_0)) ?_
  rintro _ w10e ⟨s41, a42, n43, c44, S6u, a45, n46, c47, S6v, rfl, h6w, h6x, h6y, h6z, h70, h2j, h24⟩
  iterate 3 refine R z (ext_ z z) ?_
  refine E0 (fs (cur' := [vI r6r.number, sl a42 n43 c44, sl a45 n46 c47]) z_52 z z (((h13.ext h10).chg h11 (djs (mmr h13.lt))).ext s41) z (lb z) (oA z) z) ?_
  rintro _ w10f ⟨h71, s72⟩
  have h2k := s72.one
  refine Ra z (Ra z (Wn ?_))
  obtain rfl := som hm6t
  have h48 := lt_ h10.size h11.size
  exact Wr (rtO (ret3 hr (resC g_52 z_52 z h71 z) z z ⟨(bM (bup (bM (bup (bup h12 h14) h10) h11 (mem1le h2h)) s41) h2k (mem1le h12.size)), a42, n43, c44, S6u, a45, n46, c47, S6v, z, h6w, (h6x.chg h2k (o0n1 (all_left h24) h13.lt h48)), (h6y.chg h2k (o0n1 (all_right h24) h13.lt h48)), h6z, h70, (nd_app (nd_left h2j) (nd_right h2j) (nd_dj h2j)), (all_app (o0le (all_left h24) h2i) (o0le (all_right h24) h2i))⟩))
 have hm49 := ifF hm40 hc2g
 refine Ws (R z (eql z z) (Ra z (Wn (Wc z (fun hc2l => ?_) (fun hc2l => ?_)))))
 ·refine Ws (Rm z (Rm z (R z (fd f_80_2 z) (R z (l1 g_3 z fid (h18.at z)) ?_))))
  have h2m := lt_ h12.size h14.size
  have h2n := lt_ (lt_ h2m h10.size) h11.size
  obtain ⟨r73, r10g, r10h, e74, hm75⟩ := bd3S (ifT hm49 hc2l)
  refine E z (fc call140 z (W_w0x (B := B) e74 (lt_ hBw h2n) ((((p3_0.ext h12).ext h14).ext h10).chg h11 (lg (mem1le (lt_ hBw h2m)))) p4_0 h1o)) ?_
  rintro _ w10i ⟨s4a, a4b, n4c, c4d, S76, a4e, n4f, c4g, S77, rfl, h78, h79, h7a, h7b, h7c, h2o, h25⟩
  iterate 3 refine R z (ext_ z z) ?_
  refine E0 (fs (cur' := [vI r73.number, sl a4b n4c c4d, sl a4e n4f c4g]) z_52 z z (((h13.ext h10).chg h11 (djs (mmr h13.lt))).ext s4a) z (lb z) (oA z) z) ?_
  rintro _ w10j ⟨h7d, s7e⟩
  have h2p := s7e.one
  refine Ra z (Ra z (Wn ?_))
  obtain rfl := som hm75
  have h4h := lt_ h10.size h11.size
  exact Wr (rtO (ret3 hr (resC g_52 z_52 z h7d z) z z ⟨(bM (bup (bM (bup (bup h12 h14) h10) h11 (mem1le h2m)) s4a) h2p (mem1le h12.size)), a4b, n4c, c4d, S76, a4e, n4f, c4g, S77, z, h78, (h79.chg h2p (o0n1 (all_left h25) h13.lt h4h)), (h7a.chg h2p (o0n1 (all_right h25) h13.lt h4h)), h7b, h7c, (nd_app (nd_left h2o) (nd_right h2o) (nd_dj h2o)), (all_app (o0le (all_left h25) h2n) (o0le (all_right h25) h2n))⟩))
 have hm4i := ifF hm49 hc2l
 refine Ws (R z (eql z z) (Ra z (Wn (Wc z (fun hc2q => ?_) (fun hc2q => ?_)))))
 ·refine Ws (Rm z (Rm z (R z (fd f_80_4 z) (R z (l1 g_25 z fid (h18.at z)) ?_))))
  obtain ⟨x10k, e7f, hm7g⟩ := bdS (ifT hm4i hc2q)
  have h26 := lt_ h12.size h14.size
  have h4j := mem1le (lt_ hBw h26)
  refine RX z (at_ (α := UInt8) d_25 z_5 z z z ((h1p.ext h10).chg h11 (lg h4j)) e7f) ?_
  rintro _ ⟨b10l, o10m, cs10n, rfl, h7h, h7i, h10o⟩
  obtain rfl := UInt8_open h7i
  refine R z (l1 g_5 z fid (h7h.at0 z)) ?_
  have h4k := lt_ (lt_ h26 h10.size) h11.size
  obtain ⟨r10p, r10q, r10r, e7j, hm4l⟩ := bd3S hm7g
  refine E z (fc call141 z (W_w23 (B := B) e7j (lt_ hBw h4k) ((((p3_0.ext h12).ext h14).ext h10).chg h11 (lg h4j)) p4_0)) ?_
  rintro _ w10s ⟨s27, a2r, n2s, c2t, S7k, rfl, h7l, h7m, h7n, h4m⟩
  refine Rm z ?_
  iterate 3 refine R z (ext_ z z) ?_
  refine Ra z (Ra z (Ra z (Wn (Wq (Ws (Rm z (R z (not_ z) (Wn (Wc z (fun hc2u => ?_) (fun hc2u => ?_))))))))))
  ·refine Ws (R z (bP (parts := []) (cs := [vI 0, sl none 0 0, sl none 0 0]) build_52 z z) (Rm z (E0 (fs (cur' := [vI 0, sl none 0 0, sl none 0 0]) z_52 z z (((h13.ext h10).chg h11 (djs (mmr h13.lt))).ext s27) z (lb z) (oA z) z) ?_)))
   rintro _ w10t ⟨h7o, s7p⟩
   refine Ra z (Ra z (Wn ?_))
   obtain rfl := som (ifT hm4l hc2u)
   exact Wr (rtO (ret3 hr (resC g_52 z_52 z h7o z) z z ⟨(bM (bup (bM (bup (bup h12 h14) h10) h11 (mem1le h26)) s27) s7p.one (mem1le h12.size)), none, 0, 0, [], none, 0, 0, [], z, (ii z), onL, onL, p4_0, (ii z), nd0, al0⟩))
  refine Wk (Ws (Rm z (R z (bP (parts := [(1, (.tmp 82))]) (cs := [vI 0, sl a2r n2s c2t, sl none 0 0]) build_52 z z) (Rm z (E0 (fs (cur' := [vI 0, sl a2r n2s c2t, sl none 0 0]) z_52 z z (((h13.ext h10).chg h11 (djs (mmr h13.lt))).ext s27) z (lb z) (oA z) z) ?_)))))
  rintro _ w10u ⟨h7q, s7r⟩
  have h4n := s7r.one
  refine Ra z (Ra z (Wn ?_))
  obtain rfl := som (ifF hm4l hc2u)
  exact Wr (rtO (ret3 hr (resC g_52 z_52 z h7q z) z z ⟨(bM (bup (bM (bup (bup h12 h14) h10) h11 (mem1le h26)) s27) h4n (mem1le h12.size)), a2r, n2s, c2t, S7k, none, 0, 0, [], z, (ii z), (h7l.chg h4n (o0n1 h4m h13.lt (lt_ h10.size h11.size))), onL, h7m, (ii z), (nd_app h7n nd_nil (nmN _)), (all_app (o0le h4m h4k) all_nil)⟩))
 have hm4o := ifF hm4i hc2q
 refine Ws (R z (eql z z) (Ra z (Wn (Wc z (fun hc2v => ?_) (fun hc2v => ?_)))))
 ·refine Ws (R z (lN (vs := [sl A0 N0 C0]) g_30 z_30 z z fid (((h1m.ext h10).chg h11 (djs (mm1 h1l.lt h14.size))).row 0 1 z)) (R z (lN (vs := (vR x15 a19 n1a c1b a1c n1d c1e a1f n1g c1h a1i n1j c1k)) g_80 z_80 z z fid (h18.row 0 8 z)) (R z (fd f_80_7 z) (R z (l1 g_78 z fid (h18.at z)) ?_))))
  have h2w := lt_ h12.size h14.size
  have h1v := mem1le (lt_ hBw h2w)
  have h2x := (h1u.ext h10).chg h11 (lg h1v)
  refine R z (lnR d_78 z h2x) (Rm z (Rm z ?_))
  have h2y := lt_ (lt_ h2w h10.size) h11.size
  obtain ⟨r7s, r10v, r10w, e7t, hm7u⟩ := bd3S (ifT hm4o hc2v)
  refine E z (fc call142 z (ih1.run (B := B) e7t (lt_ hBw h2y) ((h1n.ext h10).chg h11 (lg h1v)) h1q h1r h1o ((h1p.ext h10).chg h11 (lg h1v)) ((h1s.ext h10).chg h11 (lg h1v)) ((h1t.ext h10).chg h11 (lg h1v)) h2x (ii z) (inI_len (repS.len h2x)) ((((p3_0.ext h12).ext h14).ext h10).chg h11 (lg h1v)) p4_0)) ?_
  rintro _ w10x ⟨s4p, a4q, n4r, c4s, S7v, a4t, n4u, c4v, S7w, rfl, h7x, h7y, h7z, h80, h81, h2z, h28⟩
  iterate 3 refine R z (ext_ z z) ?_
  refine E0 (fs (cur' := [vI r7s.number, sl a4q n4r c4s, sl a4t n4u c4v]) z_52 z z (((h13.ext h10).chg h11 (djs (mmr h13.lt))).ext s4p) z (lb z) (oA z) z) ?_
  rintro _ w10y ⟨h82, s83⟩
  have h30 := s83.one
  refine Ra z (Ra z (Wn ?_))
  obtain rfl := som hm7u
  have h4w := lt_ h10.size h11.size
  exact Wr (rtO (ret3 hr (resC g_52 z_52 z h82 z) z z ⟨(bM (bup (bM (bup (bup h12 h14) h10) h11 (mem1le h2w)) s4p) h30 (mem1le h12.size)), a4q, n4r, c4s, S7v, a4t, n4u, c4v, S7w, z, h7x, (h7y.chg h30 (o0n1 (all_left h28) h13.lt h4w)), (h7z.chg h30 (o0n1 (all_right h28) h13.lt h4w)), h80, h81, (nd_app (nd_left h2z) (nd_right h2z) (nd_dj h2z)), (all_app (o0le (all_left h28) h2y) (o0le (all_right h28) h2y))⟩))
 have hm4x := ifF hm4o hc2v
 refine Ws (R z (eql z z) (Ra z (Wn (Wc z (fun hc31 => ?_) (fun hc31 => ?_)))))
 ·refine Ws (R z (lN (vs := [sl A0 N0 C0]) g_30 z_30 z z fid (((h1m.ext h10).chg h11 (djs (mm1 h1l.lt h14.size))).row 0 1 z)) (R z (lN (vs := (vR x15 a19 n1a c1b a1c n1d c1e a1f n1g c1h a1i n1j c1k)) g_80 z_80 z z fid (h18.row 0 8 z)) (Rm z (Rm z ?_))))
  have h32 := lt_ h12.size h14.size
  have h1w := mem1le (lt_ hBw h32)
  have h33 := lt_ (lt_ h32 h10.size) h11.size
  obtain ⟨r84, r10z, r110, e85, hm86⟩ := bd3S (ifT hm4x hc31)
  refine E z (fc call143 z (ih2.run (B := B) e85 (lt_ hBw h33) ((h1n.ext h10).chg h11 (lg h1w)) h1q h1r h1o ((h1p.ext h10).chg h11 (lg h1w)) ((h1s.ext h10).chg h11 (lg h1w)) ((h1t.ext h10).chg h11 (lg h1w)) ((h1u.ext h10).chg h11 (lg h1w)) ((((p3_0.ext h12).ext h14).ext h10).chg h11 (lg h1w)) p4_0)) ?_
  rintro _ w111 ⟨s4y, a4z, n50, c51, S87, a52, n53, c54, S88, rfl, h89, h8a, h8b, h8c, h8d, h34, h29⟩
  iterate 3 refine R z (ext_ z z) ?_
  refine E0 (fs (cur' := [vI r84.number, sl a4z n50 c51, sl a52 n53 c54]) z_52 z z (((h13.ext h10).chg h11 (djs (mmr h13.lt))).ext s4y) z (lb z) (oA z) z) ?_
  rintro _ w112 ⟨h8e, s8f⟩
  have h35 := s8f.one
  refine Ra z (Ra z (Wn ?_))
  obtain rfl := som hm86
  have h55 := lt_ h10.size h11.size
  exact Wr (rtO (ret3 hr (resC g_52 z_52 z h8e z) z z ⟨(bM (bup (bM (bup (bup h12 h14) h10) h11 (mem1le h32)) s4y) h35 (mem1le h12.size)), a4z, n50, c51, S87, a52, n53, c54, S88, z, h89, (h8a.chg h35 (o0n1 (all_left h29) h13.lt h55)), (h8b.chg h35 (o0n1 (all_right h29) h13.lt h55)), h8c, h8d, (nd_app (nd_left h34) (nd_right h34) (nd_dj h34)), (all_app (o0le (all_left h29) h33) (o0le (all_right h29) h33))⟩))
 have hm56 := ifF hm4x hc31
 refine Ws (R z (eql z z) (Ra z (Wn (Wc z (fun hc36 => ?_) (fun hc36 => ?_)))))
 ·refine Ws (R z (lN (vs := [sl A0 N0 C0]) g_30 z_30 z z fid (((h1m.ext h10).chg h11 (djs (mm1 h1l.lt h14.size))).row 0 1 z)) (R z (lN (vs := (vR x15 a19 n1a c1b a1c n1d c1e a1f n1g c1h a1i n1j c1k)) g_80 z_80 z z fid (h18.row 0 8 z)) (Rm z (Rm z ?_))))
  have h37 := lt_ h12.size h14.size
  have h1x := mem1le (lt_ hBw h37)
  have h38 := lt_ (lt_ h37 h10.size) h11.size
  obtain ⟨r8g, r113, r114, e8h, hm8i⟩ := bd3S (ifT hm56 hc36)
  refine E z (fc call144 z (ih3.run (B := B) e8h (lt_ hBw h38) ((h1n.ext h10).chg h11 (lg h1x)) h1q h1r h1o ((h1p.ext h10).chg h11 (lg h1x)) ((h1s.ext h10).chg h11 (lg h1x)) ((h1t.ext h10).chg h11 (lg h1x)) ((h1u.ext h10).chg h11 (lg h1x)) ((((p3_0.ext h12).ext h14).ext h10).chg h11 (lg h1x)) p4_0)) ?_
  rintro _ w115 ⟨s57, a58, n59, c5a, S8j, a5b, n5c, c5d, S8k, rfl, h8l, h8m, h8n, h8o, h8p, h39, h2a⟩
  iterate 3 refine R z (ext_ z z) ?_
  refine E0 (fs (cur' := [vI r8g.number, sl a58 n59 c5a, sl a5b n5c c5d]) z_52 z z (((h13.ext h10).chg h11 (djs (mmr h13.lt))).ext s57) z (lb z) (oA z) z) ?_
  rintro _ w116 ⟨h8q, s8r⟩
  have h3a := s8r.one
  refine Ra z (Ra z (Wn ?_))
  obtain rfl := som hm8i
  have h5e := lt_ h10.size h11.size
  exact Wr (rtO (ret3 hr (resC g_52 z_52 z h8q z) z z ⟨(bM (bup (bM (bup (bup h12 h14) h10) h11 (mem1le h37)) s57) h3a (mem1le h12.size)), a58, n59, c5a, S8j, a5b, n5c, c5d, S8k, z, h8l, (h8m.chg h3a (o0n1 (all_left h2a) h13.lt h5e)), (h8n.chg h3a (o0n1 (all_right h2a) h13.lt h5e)), h8o, h8p, (nd_app (nd_left h39) (nd_right h39) (nd_dj h39)), (all_app (o0le (all_left h2a) h38) (o0le (all_right h2a) h38))⟩))
 have hm5f := ifF hm56 hc36
 refine Ws (R z (eql z z) (Ra z (Wn (Wc z (fun hc3b => ?_) (fun hc3b => ?_)))))
 ·refine Ws (R z (lN (vs := [sl A0 N0 C0]) g_30 z_30 z z fid (((h1m.ext h10).chg h11 (djs (mm1 h1l.lt h14.size))).row 0 1 z)) (R z (lN (vs := (vR x15 a19 n1a c1b a1c n1d c1e a1f n1g c1h a1i n1j c1k)) g_80 z_80 z z fid (h18.row 0 8 z)) (Rm z (Rm z ?_))))
  have h3c := lt_ h12.size h14.size
  have h1y := mem1le (lt_ hBw h3c)
  have h3d := lt_ (lt_ h3c h10.size) h11.size
  obtain ⟨r8s, r117, r118, e8t, hm8u⟩ := bd3S (ifT hm5f hc3b)
  refine E z (fc call145 z (ih4.run (B := B) e8t (lt_ hBw h3d) ((h1n.ext h10).chg h11 (lg h1y)) h1q h1r h1o ((h1p.ext h10).chg h11 (lg h1y)) ((h1s.ext h10).chg h11 (lg h1y)) ((h1t.ext h10).chg h11 (lg h1y)) ((h1u.ext h10).chg h11 (lg h1y)) ((((p3_0.ext h12).ext h14).ext h10).chg h11 (lg h1y)) p4_0)) ?_
  rintro _ w119 ⟨s5g, a5h, n5i, c5j, S8v, a5k, n5l, c5m, S8w, rfl, h8x, h8y, h8z, h90, h91, h3e, h2b⟩
  iterate 3 refine R z (ext_ z z) ?_
  refine E0 (fs (cur' := [vI r8s.number, sl a5h n5i c5j, sl a5k n5l c5m]) z_52 z z (((h13.ext h10).chg h11 (djs (mmr h13.lt))).ext s5g) z (lb z) (oA z) z) ?_
  rintro _ w11a ⟨h92, s93⟩
  have h3f := s93.one
  refine Ra z (Ra z (Wn ?_))
  obtain rfl := som hm8u
  have h5n := lt_ h10.size h11.size
  exact Wr (rtO (ret3 hr (resC g_52 z_52 z h92 z) z z ⟨(bM (bup (bM (bup (bup h12 h14) h10) h11 (mem1le h3c)) s5g) h3f (mem1le h12.size)), a5h, n5i, c5j, S8v, a5k, n5l, c5m, S8w, z, h8x, (h8y.chg h3f (o0n1 (all_left h2b) h13.lt h5n)), (h8z.chg h3f (o0n1 (all_right h2b) h13.lt h5n)), h90, h91, (nd_app (nd_left h3e) (nd_right h3e) (nd_dj h3e)), (all_app (o0le (all_left h2b) h3d) (o0le (all_right h2b) h3d))⟩))
 refine Wk (Wq (WC_draw (X := noX) 0 (.rd 0 (.rd 1 (.rd 2 (.rd 3 (.rd 4 (.rd 5 (.rd 6 (.ef 7 (.rd 8 (.rd 9 (.rd 10 (.rd 11 (.rd 12 (.rd 13 (.rd 14 .done))))))))))))))) mo (by kernel_rfl) fun w11b s17 _ => ?_))
 have h5o := ((h1m.ext h10).chg h11 (djs (mm1 h1l.lt h14.size))).ext s17
 refine dR z z (lN (vs := [sl A0 N0 C0]) g_30 z_30 z z fid (h5o.row 0 1 z)) (dR z z (fd f_80_7 z) ?_)
 have h5p := h18.ext s17
 refine dR z z (l1 g_78 z fid (h5p.at z)) ?_
 obtain ⟨x11c, e94, hm95⟩ := bdS (ifF hm5f hc3b)
 have h1z := lt_ h12.size h14.size
 have h20 := mem1le (lt_ hBw h1z)
 have h5q := ((h1u.ext h10).chg h11 (lg h20)).ext s17
 refine dRX z z (at_ (α := Int) d_78 z_3 z z z h5q e94) ?_
 rintro _ ⟨b11d, o11e, cs11f, rfl, h96, h97, h11g⟩
 obtain ⟨rfl, h98⟩ := Int_open h97
 refine dR z z (l1 g_3 z fid (h96.at0 z)) (dR z z (mv z) (dR z z (mv z) ?_))
 have h5r := ((h1n.ext h10).chg h11 (lg h20)).ext s17
 have h3g := ((((p3_0.ext h12).ext h14).ext h10).chg h11 (lg h20)).ext s17
 have h3h := lt_ (lt_ (lt_ h1z h10.size) h11.size) s17.size
 obtain ⟨r11h, r11i, r11j, e99, hm5s⟩ := bd3S hm95
 refine dE z z (fc call128 z (W_w0c (B := B) e99 (lt_ hBw h3h) h5r h98 h3g p4_0)) (.inr fun _ _ h => chgB (h.1)) ?_
 rintro _ w11k ⟨s16, rfl, h5t, h5u⟩
 refine dR z z (mv z) ?_
 iterate 3 refine dR z z (ext_ z z) ?_
 iterate 3 refine dR z z (asg z) ?_
 refine PR_done (Wo (Wq (WC_block (Ws (Rm z (R z (not_ z) (Ra z (Wn (Wc z (fun hc3i => ?_) (fun hc3i => ?_))))))))))
 ·refine Ws (R z (bP (parts := []) (cs := [vI 0, sl none 0 0, sl none 0 0]) build_52 z z) (Rm z (E0 (fs (cur' := [vI 0, sl none 0 0, sl none 0 0]) z_52 z z ((((h13.ext h10).chg h11 (djs (mmr h13.lt))).ext s17).ext s16) z (lb z) (oA z) z) ?_)))
  rintro _ w11l ⟨h9a, s9b⟩
  refine Ra z (Ra z (Wn ?_))
  obtain rfl := som (ifT hm5s hc3i)
  exact Wr (rtO (ret3 hr (resC g_52 z_52 z h9a z) z z ⟨(bM (bup (bup (bM (bup (bup h12 h14) h10) h11 (mem1le h1z)) s17) s16) s9b.one (mem1le h12.size)), none, 0, 0, [], none, 0, 0, [], z, (ii z), onL, onL, p4_0, (ii z), nd0, al0⟩))
 have hm5v := ifF hm5s hc3i
 refine Ws (R z (fd f_80_1 z) ?_)
 have h5w := h5p.ext s16
 refine R z (l1 g_3 z fid (h5w.at z)) (R z (eql z z) (Ra z (Wn (Wc z (fun hc3j => ?_) (fun hc3j => ?_)))))
 ·refine Ws (Rm z (Rm z (Rm z ?_)))
  have h3k := lt_ h3h s16.size
  obtain ⟨r9c, r11m, r11n, e9d, hm9e⟩ := bd3S (ifT hm5v hc3j)
  refine E z (fc call140 z (W_w0x (B := B) e9d (lt_ hBw h3k) (h3g.ext s16) h5u h5t)) ?_
  rintro _ w11o ⟨s5x, a5y, n5z, c60, S9f, a61, n62, c63, S9g, rfl, h9h, h9i, h9j, h9k, h9l, h3l, h2c⟩
  iterate 3 refine R z (ext_ z z) ?_
  refine E0 (fs (cur' := [vI r9c.number, sl a5y n5z c60, sl a61 n62 c63]) z_52 z z (((((h13.ext h10).chg h11 (djs (mmr h13.lt))).ext s17).ext s16).ext s5x) z (lb z) (oA z) z) ?_
  rintro _ w11p ⟨h9m, s9n⟩
  have h3m := s9n.one
  refine Ra z (Ra z (Wn ?_))
  obtain rfl := som hm9e
  have h64 := lt_ (lt_ (lt_ h10.size h11.size) s17.size) s16.size
  exact Wr (rtO (ret3 hr (resC g_52 z_52 z h9m z) z z ⟨(bM (bup (bup (bup (bM (bup (bup h12 h14) h10) h11 (mem1le h1z)) s17) s16) s5x) h3m (mem1le h12.size)), a5y, n5z, c60, S9f, a61, n62, c63, S9g, z, h9h, (h9i.chg h3m (o0n1 (all_left h2c) h13.lt h64)), (h9j.chg h3m (o0n1 (all_right h2c) h13.lt h64)), h9k, h9l, (nd_app (nd_left h3l) (nd_right h3l) (nd_dj h3l)), (all_app (o0le (all_left h2c) h3k) (o0le (all_right h2c) h3k))⟩))
 have hm65 := ifF hm5v hc3j
 refine Ws (Rm z (R z (rd_gtr z z) (Ra z (Wn (Wc z (fun hc3n => ?_) (fun hc3n => ?_))))))
 ·refine Ws (R z (bP (parts := []) (cs := [vI 0, sl none 0 0, sl none 0 0]) build_52 z z) (Rm z (E0 (fs (cur' := [vI 0, sl none 0 0, sl none 0 0]) z_52 z z ((((h13.ext h10).chg h11 (djs (mmr h13.lt))).ext s17).ext s16) z (lb z) (oA z) z) ?_)))
  rintro _ w11q ⟨h9o, s9p⟩
  refine Ra z (Ra z (Wn ?_))
  obtain rfl := som (ifT hm65 hc3n)
  exact Wr (rtO (ret3 hr (resC g_52 z_52 z h9o z) z z ⟨(bM (bup (bup (bM (bup (bup h12 h14) h10) h11 (mem1le h1z)) s17) s16) s9p.one (mem1le h12.size)), none, 0, 0, [], none, 0, 0, [], z, (ii z), onL, onL, p4_0, (ii z), nd0, al0⟩))
 refine Wk (Ws (R z (lN (vs := [sl A0 N0 C0]) g_30 z_30 z z fid ((h5o.ext s16).row 0 1 z)) (R z (lN (vs := (vR x15 a19 n1a c1b a1c n1d c1e a1f n1g c1h a1i n1j c1k)) g_80 z_80 z z fid (h5w.row 0 8 z)) (Rm z (Rm z (Rm z ?_))))))
 have h3o := lt_ h3h s16.size
 obtain ⟨r9q, r11r, r11s, e9r, hm9s⟩ := bd3S (ifF hm65 hc3n)
 refine E z (fc call142 z (ih1.run (B := B) e9r (lt_ hBw h3o) (h5r.ext s16) h1q h1r h1o ((((h1p.ext h10).chg h11 (lg h20)).ext s17).ext s16) ((((h1s.ext h10).chg h11 (lg h20)).ext s17).ext s16) ((((h1t.ext h10).chg h11 (lg h20)).ext s17).ext s16) (h5q.ext s16) (ii z) h5t (h3g.ext s16) h5u)) ?_
 rintro _ w11t ⟨s66, a67, n68, c69, S9t, a6a, n6b, c6c, S9u, rfl, h9v, h9w, h9x, h9y, h9z, h3p, h2d⟩
 iterate 3 refine R z (ext_ z z) ?_
 refine E0 (fs (cur' := [vI r9q.number, sl a67 n68 c69, sl a6a n6b c6c]) z_52 z z (((((h13.ext h10).chg h11 (djs (mmr h13.lt))).ext s17).ext s16).ext s66) z (lb z) (oA z) z) ?_
 rintro _ w11u ⟨h100, s101⟩
 have h3q := s101.one
 refine Ra z (Ra z (Wn ?_))
 obtain rfl := som hm9s
 have h6d := lt_ (lt_ (lt_ h10.size h11.size) s17.size) s16.size
 exact Wr (ret3 hr (resC g_52 z_52 z h100 z) z z ⟨(bM (bup (bup (bup (bM (bup (bup h12 h14) h10) h11 (mem1le h1z)) s17) s16) s66) h3q (mem1le h12.size)), a67, n68, c69, S9t, a6a, n6b, c6c, S9u, z, h9v, (h9w.chg h3q (o0n1 (all_left h2d) h13.lt h6d)), (h9x.chg h3q (o0n1 (all_right h2d) h13.lt h6d)), h9y, h9z, (nd_app (nd_left h3p) (nd_right h3p) (nd_dj h3p)), (all_app (o0le (all_left h2d) h3o) (o0le (all_right h2d) h3o))⟩)
theorem T_w0y (ih : I_spec_l11Read n) : S_spec_l11Items (B_spec_l11Items n (F_spec_l11Read n)) := by
 obtain ⟨ih0, ih1, ih2, ih3, ih4⟩ := ih
 constructor
 intro B N0 C0 N2 C2 N3 C3 N1 C1 N4 C4 ND CD A0 A2 A3 A1 A4 AD x1 x2 x3 x4 x5 x6 res w0 hm hBw p1_0 p2_0 p2_1 p2_2 p2_4 p2_5 p2_6 p2_7 p3_0 p4_0 p5_0 p6_0
 unfold B_spec_l11Items at hm
 refine goF func142 z z (lb z) fun fn hr => Ws (E z (fb z) ?_)
 rintro _ w1t ⟨rfl, h33⟩
 have h17 := h33.below
 have h2i : Blk w1t w0.z [sl A0 N0 C0] := h33.blk
 refine E z (fb z) ?_
 rintro _ w1k ⟨rfl, h34⟩
 have h15 := h34.below
 have h2j : Blk w1k w1t.z (vR x2 A2 N2 C2 A3 N3 C3 A1 N1 C1 A4 N4 C4) := h34.blk
 refine E z (fa zero_52) ?_
 rintro _ w16 ⟨rfl, h35⟩
 have h13 := h35.below
 have h1w : Blk w16 w1k.z [vI 0, sl none 0 0, sl none 0 0] := h35.blk
 refine Ra z (Ra z (Wn (Ws (R z (bP (parts := []) (cs := [vI 0, sl none 0 0, sl none 0 0]) build_52 z z) (E z (fa zero_52) ?_)))))
 rintro _ w56 ⟨rfl, h36⟩
 have h12 := h36.below
 have h1x : Blk w56 w16.z [vI 0, sl none 0 0, sl none 0 0] := h36.blk
 refine E0 (fs (cur' := [vI 0, sl none 0 0, sl none 0 0]) z_52 z z h1x z (lb z) (oA z) z) ?_
 rintro _ w19 ⟨h57, s58⟩
 have h10 := s58.one
 refine Wn (Wq (Ws (Ra z (Wn ?_))))
 obtain ⟨u7s, hu59, hm37⟩ := bdS hm
 refine WC_forN (σ := Int × (List Val)) (ρ := Val × Int × Int) (fun (k28 : Nat) s a w => un2 (fun x1f x1u => ∃ a1b n1c c1d S1a, Sat 52 [(2, vI x3), (3, vI x4), (4, sl AD ND CD), (5, vI x1f), (6, pt w0.z), (7, pt w1t.z), (12, pt w1k.z), (15, pt w16.z), (16, (vI ((k28 : Nat) : Int)))] a ∧ Chg (· ∈ [w16.z]) w19 w ∧ inI x1f ∧ ownS w S1a (sl a1b n1c c1d) x1u ∧ S1a.Nodup ∧ (∀ k ∈ S1a, w19.z ≤ k) ∧ Blk w w16.z [vI 0, sl none 0 0, sl a1b n1c c1d]) s) (fun s a w => un2 (fun x1f x1u => ∃ a1b n1c c1d S1a, Sat 52 [(5, vI x1f), (12, pt w1k.z), (15, pt w16.z)] a ∧ Chg (· ∈ [w16.z]) w19 w ∧ inI x1f ∧ ownS w S1a (sl a1b n1c c1d) x1u ∧ S1a.Nodup ∧ (∀ k ∈ S1a, w19.z ≤ k) ∧ Blk w w16.z [vI 0, sl none 0 0, sl a1b n1c c1d]) s) (fun r ex a w => ex = .ret ∧ RetPost prog fn (Q9 w0 B r) a w) hu59 ?_ ?_ ?_ ?_ ?_
 ·exact fun _ q => ⟨none, 0, 0, [], (q.k (s9 z z z z z z z z z)), (cr [w16.z] w19), p6_0, onL, nd_nil, all_nil, h57⟩
 ·rintro k28 ⟨x1f, x1u⟩ a7t w1l o7u hk29 ⟨a1b, n1c, c1d, S1a, hS5a, s11, h1m, h1n, h1y, h1i, h1z⟩ hm5b
  have hm5c := un2S hm5b
  refine Wu ?_ hS5a
  refine Wq (Ws (Rm z (Rm z (R z (lss z z) (Wn (Wc z (fun _ => ?_) (fun hc => (noltI hk29 hc).elim)))))))
  refine Wk (Wq (WC_block (Wq ?_)))
  obtain ⟨u5d, hu38, hm5e⟩ := bdS hm5c
  refine WC_cut (fun a w => ∃ (x1o : Int) (x2a : List UInt8) (x2b : List Val) (x20 : Int) (x2c : Int), (x1o, x2a, x2b, x20, x2c) = u5d ∧ ∃ a21 n22 c23 S1p a24 n25 c26 S1q g1v, Sat 52 [(2, vI x3), (3, vI x4), (4, sl AD ND CD), (6, pt w0.z), (7, pt w1t.z), (12, pt w1k.z), (15, pt w16.z), (16, (vI ((k28 : Nat) : Int))), (17, pt g1v), (18, vI x20), (19, vI x2c)] a ∧ Below w1l.z w1l w ∧ inI x1o ∧ ownS w S1p (sl a21 n22 c23) x2a ∧ S1p.Nodup ∧ (∀ k ∈ S1p, w1l.z ≤ k) ∧ ownS w S1q (sl a24 n25 c26) x2b ∧ S1q.Nodup ∧ (∀ k ∈ S1q, w1l.z ≤ k) ∧ (∀ k ∈ S1q, k ∉ S1p) ∧ inI x20 ∧ inI x2c ∧ Blk w g1v [vI x1o, sl a21 n22 c23, sl a24 n25 c26] ∧ w1l.z ≤ g1v ∧ (∀ k ∈ S1p, k ∉ [g1v]) ∧ (∀ k ∈ S1q, k ∉ [g1v])) ?_ ?_
  ·refine WC_draw (X := fun k => k ∈ ([] : List Nat) ∨ w1l.z ≤ k) 0 (.rd 0 (.rd 1 (.rd 2 (.rd 3 (.rd 5 (.rd 6 (.br 4 (.br 7 (.rd 8 (.rd 9 (.rd 10 (.rd 11 (.ef 12 (.ef 13 (.rd 14 (.rd 15 .done)))))))) 12 (.ef 7 (.rd 8 (.rd 9 (.rd 10 (.rd 11 (.ef 13 (.rd 14 (.rd 15 .done))))))))) 12 (.ef 4 (.ef 7 (.rd 8 (.rd 9 (.rd 10 (.rd 11 (.ef 13 (.rd 14 (.rd 15 .done)))))))))))))))) mo (by kernel_rfl) fun w39 s14 _ => ?_
   have h3a := lt_ h15.size h13.size
   have h3b := mm1 h2i.lt h3a
   refine dR z z (lN (vs := [sl A0 N0 C0]) g_30 z_30 z z (notNew nm0 (Nat.lt_of_lt_of_le h2i.lt (lt_ (lt_ (lt_ h3a h12.size) h10.size) s11.size))) (((((((h2i.ext h15).ext h13).ext h12).chg h10 (djs h3b)).chg s11 (djs h3b)).ext s14).row 0 1 z)) ?_
   have h3c := mm1 h2j.lt h13.size
   refine dR z z (lN (vs := (vR x2 A2 N2 C2 A3 N3 C3 A1 N1 C1 A4 N4 C4)) g_80 z_80 z z (notNew nm0 (Nat.lt_of_lt_of_le h2j.lt (lt_ (lt_ (lt_ h13.size h12.size) h10.size) s11.size))) ((((((h2j.ext h13).ext h12).chg h10 (djs h3c)).chg s11 (djs h3c)).ext s14).row 0 8 z)) ?_
   iterate 4 refine dR z z (mv z) ?_
   refine PR_br ?_ ?_
   ·have h3d := lt_ (lt_ h17.size h15.size) h13.size
    have h18 := mem1le (lt_ hBw h3d)
    have h2k := lt_ (lt_ (lt_ (lt_ h3d h12.size) h10.size) s11.size) s14.size
    obtain ⟨r7v, e5f, hm3e⟩ := bdS hu38
    refine dE z z (fc call114 z (W_w0d (B := B) e5f (lt_ hBw h2k) p2_0 p2_1 p2_2 (((((((p2_4.ext h17).ext h15).ext h13).ext h12).chg h10 (lg h18)).chg s11 (lg h18)).ext s14) (((((((p2_5.ext h17).ext h15).ext h13).ext h12).chg h10 (lg h18)).chg s11 (lg h18)).ext s14) (((((((p2_6.ext h17).ext h15).ext h13).ext h12).chg h10 (lg h18)).chg s11 (lg h18)).ext s14) (((((((p2_7.ext h17).ext h15).ext h13).ext h12).chg h10 (lg h18)).chg s11 (lg h18)).ext s14) p3_0 (inI_cnt (Nat.le_of_lt hk29) (toNat_le p4_0)))) (.inr fun _ _ h => chgB (h.1)) ?_
    rintro _ w3f ⟨s1g, rfl, h3g⟩
    refine PR_br ?_ ?_
    ·obtain ⟨r2d, r5g, r5h, e5i, hm5j⟩ := bd3S hm3e
     refine dE z z (fc call99 z (ih0.run (B := B) e5i (lt_ hBw (lt_ h2k s1g.size)) ((((((((p1_0.ext h17).ext h15).ext h13).ext h12).chg h10 (lg h18)).chg s11 (lg h18)).ext s14).ext s1g) h3g ((((((((p5_0.ext h17).ext h15).ext h13).ext h12).chg h10 (lg h18)).chg s11 (lg h18)).ext s14).ext s1g) h1m)) (.inr fun _ _ h => chgB (h.1)) ?_
     rintro _ w3h ⟨s3i, a3j, n3k, c3l, S5k, a3m, n3n, c3o, S5l, rfl, h5m, h3p, h3q, h5n, h5o, h2l, h3r⟩
     refine dR z z (mv z) ?_
     iterate 3 refine dR z z (ext_ z z) ?_
     refine dE z z (fa zero_52) (.inr fun _ _ h => chgB (h.2.below)) ?_
     rintro _ w5p ⟨rfl, h3s⟩
     have h2m := h3s.below
     have h5q : Blk w5p w3h.z [vI 0, sl none 0 0, sl none 0 0] := h3s.blk
     have h2n := lt_ s14.size s1g.size
     have h2o := mem1le (lt_ h2n s3i.size)
     refine dE0 z (fs (cur' := [vI r2d.number, sl a3j n3k c3l, sl a3m n3n c3o]) z_52 z z h5q z (lb z) (oA z) z) (.inr fun _ _ h => chgNew (atp h2o) h.2) ?_
     rintro _ w7w ⟨h5r, s5s⟩
     have h2p := s5s.one
     refine dR z z (asg z) (dR z z (asg z) (PR_done ?_))
     have h3t := mnr (ownS.lt h3p)
     have h3u := mnr (ownS.lt h3q)
     exact fun _ q => ⟨r2d.number, r2d.bytes, r2d.items, r5g, r5h, som hm5j, a3j, n3k, c3l, S5k, a3m, n3n, c3o, S5l, w3h.z, (q.k (sc z (sc z (sc z (sc z (sc z (sc z (sc z (sc z (sc z (sc z (sc z sn)))))))))))), (bM (bup (bup (bup s14 s1g) s3i) h2m) h2p h2o), h5m, ((h3p.ext h2m).chg h2p (dj_symm h3t)), (nd_left h2l), (o0le (all_left h3r) h2n), ((h3q.ext h2m).chg h2p (dj_symm h3u)), (nd_right h2l), (o0le (all_right h3r) h2n), (dj_symm (nd_dj h2l)), h5n, h5o, h5r, (atp h2o), (dj_symm h3t), (dj_symm h3u)⟩
    refine dE z z (fa zero_52) (.inr fun _ _ h => chgB (h.2.below)) ?_
    rintro _ w5t ⟨rfl, h3v⟩
    have h27 := h3v.below
    have h2q : Blk w5t w3f.z [vI 0, sl none 0 0, sl none 0 0] := h3v.blk
    obtain ⟨r2e, r5u, r5v, e5w, hm5x⟩ := bd3S hm3e
    refine dE z z (fc call99 z (ih0.run (B := B) e5w (lt_ hBw (lt_ (lt_ h2k s1g.size) h27.size)) (((((((((p1_0.ext h17).ext h15).ext h13).ext h12).chg h10 (lg h18)).chg s11 (lg h18)).ext s14).ext s1g).ext h27) h3g (((((((((p5_0.ext h17).ext h15).ext h13).ext h12).chg h10 (lg h18)).chg s11 (lg h18)).ext s14).ext s1g).ext h27) h1m)) (.inr fun _ _ h => chgB (h.1)) ?_
    rintro _ w7x ⟨s3w, a3x, n3y, c3z, S5y, a40, n41, c42, S5z, rfl, h60, h61, h62, h63, h64, h2r, h2f⟩
    refine dR z z (mv z) ?_
    iterate 3 refine dR z z (ext_ z z) ?_
    have h43 := lt_ s14.size s1g.size
    have h2s := mem1le h43
    refine dE0 z (fs (cur' := [vI r2e.number, sl a3x n3y c3z, sl a40 n41 c42]) z_52 z z (h2q.ext s3w) z (lb z) (oA z) z) (.inr fun _ _ h => chgNew (atp h2s) h.2) ?_
    rintro _ w7y ⟨h65, s66⟩
    have h2t := s66.one
    refine dR z z (asg z) (dR z z (asg z) (PR_done ?_))
    have h44 := o0n1 (all_left h2f) h2q.lt lr
    have h45 := lt_ h43 h27.size
    have h46 := o0n1 (all_right h2f) h2q.lt lr
    exact fun _ q => ⟨r2e.number, r2e.bytes, r2e.items, r5u, r5v, som hm5x, a3x, n3y, c3z, S5y, a40, n41, c42, S5z, w3f.z, (q.k (sc z (sc z (sc z (sc z (sc z (sc z (sc z (sc z (sc z (sc z (sc z sn)))))))))))), (bM (bup (bup (bup s14 s1g) h27) s3w) h2t h2s), h60, (h61.chg h2t h44), (nd_left h2r), (o0le (all_left h2f) h45), (h62.chg h2t h46), (nd_right h2r), (o0le (all_right h2f) h45), (dj_symm (nd_dj h2r)), h63, h64, h65, (atp h2s), h44, h46⟩
   refine dE z z (fa zero_52) (.inr fun _ _ h => chgB (h.2.below)) ?_
   rintro _ w67 ⟨rfl, h47⟩
   have h1h := h47.below
   have h2u : Blk w67 w39.z [vI 0, sl none 0 0, sl none 0 0] := h47.blk
   have h48 := lt_ (lt_ h17.size h15.size) h13.size
   have h1e := mem1le (lt_ hBw h48)
   have h49 := lt_ (lt_ (lt_ (lt_ (lt_ h48 h12.size) h10.size) s11.size) s14.size) h1h.size
   obtain ⟨r7z, e68, hm69⟩ := bdS hu38
   refine dE z z (fc call114 z (W_w0d (B := B) e68 (lt_ hBw h49) p2_0 p2_1 p2_2 ((((((((p2_4.ext h17).ext h15).ext h13).ext h12).chg h10 (lg h1e)).chg s11 (lg h1e)).ext s14).ext h1h) ((((((((p2_5.ext h17).ext h15).ext h13).ext h12).chg h10 (lg h1e)).chg s11 (lg h1e)).ext s14).ext h1h) ((((((((p2_6.ext h17).ext h15).ext h13).ext h12).chg h10 (lg h1e)).chg s11 (lg h1e)).ext s14).ext h1h) ((((((((p2_7.ext h17).ext h15).ext h13).ext h12).chg h10 (lg h1e)).chg s11 (lg h1e)).ext s14).ext h1h) p3_0 (inI_cnt (Nat.le_of_lt hk29) (toNat_le p4_0)))) (.inr fun _ _ h => chgB (h.1)) ?_
   rintro _ w80 ⟨s1j, rfl, h6a⟩
   obtain ⟨r2g, r6b, r6c, e6d, hm6e⟩ := bd3S hm69
   refine dE z z (fc call99 z (ih0.run (B := B) e6d (lt_ hBw (lt_ h49 s1j.size)) (((((((((p1_0.ext h17).ext h15).ext h13).ext h12).chg h10 (lg h1e)).chg s11 (lg h1e)).ext s14).ext h1h).ext s1j) h6a (((((((((p5_0.ext h17).ext h15).ext h13).ext h12).chg h10 (lg h1e)).chg s11 (lg h1e)).ext s14).ext h1h).ext s1j) h1m)) (.inr fun _ _ h => chgB (h.1)) ?_
   rintro _ w81 ⟨s4a, a4b, n4c, c4d, S6f, a4e, n4f, c4g, S6g, rfl, h6h, h6i, h6j, h6k, h6l, h2v, h2h⟩
   refine dR z z (mv z) ?_
   iterate 3 refine dR z z (ext_ z z) ?_
   have h2w := mem1le s14.size
   refine dE0 z (fs (cur' := [vI r2g.number, sl a4b n4c c4d, sl a4e n4f c4g]) z_52 z z ((h2u.ext s1j).ext s4a) z (lb z) (oA z) z) (.inr fun _ _ h => chgNew (atp h2w) h.2) ?_
   rintro _ w82 ⟨h6m, s6n⟩
   have h2x := s6n.one
   refine dR z z (asg z) (dR z z (asg z) (PR_done ?_))
   have h4h := o0n1 (all_left h2h) h2u.lt s1j.size
   have h4i := lt_ (lt_ s14.size h1h.size) s1j.size
   have h4j := o0n1 (all_right h2h) h2u.lt s1j.size
   exact fun _ q => ⟨r2g.number, r2g.bytes, r2g.items, r6b, r6c, som hm6e, a4b, n4c, c4d, S6f, a4e, n4f, c4g, S6g, w39.z, (q.k (sc z (sc z (sc z (sc z (sc z (sc z (sc z (sc z (sc z (sc z (sc z sn)))))))))))), (bM (bup (bup (bup s14 h1h) s1j) s4a) h2x h2w), h6h, (h6i.chg h2x h4h), (nd_left h2v), (o0le (all_left h2h) h4i), (h6j.chg h2x h4j), (nd_right h2v), (o0le (all_right h2h) h4i), (dj_symm (nd_dj h2v)), h6k, h6l, h6m, (atp h2w), h4h, h4j⟩
  rintro a6o w4k ⟨x1o, x2a, x2b, x20, x2c, rfl, a21, n22, c23, S1p, a24, n25, c26, S1q, g1v, hS83, s1r, h6p, h6q, h6r, h2y, h6s, h6t, h2z, h6u, h4l, h6v, h6w, h84, h85, h86⟩
  have hm4m := un5S hm5e
  revert a6o
  refine Wo (Wq (Ws (Rm z (R z (nq z z) (Wn (Wc z (fun hc30 => ?_) (fun hc30 => ?_)))))))
  ·refine Ws (R z (bP (parts := []) (cs := [vI 0, sl none 0 0, sl none 0 0]) build_52 z z) (Rm z (Rm z ?_)))
   have h4n := mmr h1w.lt
   refine E0 (fs (cur' := [vI 0, sl none 0 0, sl none 0 0]) z_52 z z ((((h1w.ext h12).chg h10 (djs h4n)).chg s11 (djs h4n)).ext s1r) z (lb z) (oA z) z) ?_
   rintro _ w87 ⟨h6x, s6y⟩
   refine Ra z (Ra z (Wn ?_))
   have h4o := lt_ h17.size h15.size
   have h4p := mem1le (lt_ h4o h13.size)
   exact Wr (rtO (QO_retL (som (ifT hm4m hc30)).symm (ret3 hr (resC g_52 z_52 z h6x z) z z ⟨(bM (bup (bM (bM (bup (bup (bup h17 h15) h13) h12) h10 h4p) s11 h4p) s1r) s6y.one (mem1le h4o)), none, 0, 0, [], none, 0, 0, [], z, (ii z), onL, onL, h4l, h6v, nd0, al0⟩)))
  refine Wk (Ws (R z (fd f_52_2 z) ?_))
  have h4q := h1z.ext s1r
  refine R z (l1 g_50 z fid (h4q.at z)) (R z (lN (vs := [vI x1o, sl a21 n22 c23, sl a24 n25 c26]) g_52 z_52 z z fid (h6w.row 0 3 z)) (E z (ef_buildSlice [(.tmp 45)] el_50 z z z (szAll z) (lb z) (lb z)) ?_))
  rintro _ w4r ⟨rfl, h4s⟩
  have h1s := h4s.below
  have h6z : Blk w4r w4k.z [vI x1o, sl a21 n22 c23, sl a24 n25 c26] := h4s.blk
  obtain ⟨x70, e71, hm72⟩ := bdS (ifF hm4m hc30)
  refine E z (ef_pushN (α := Val) el_50 e71 z z ((h1n.ext s1r).ext h1s) h1y h6z (Val_mkO (x := (⟨x1o, x2a, x2b⟩ : Val)) (S1 := S1p) (S2 := S1q) h6p (h6q.ext h1s) (h6s.ext h1s)) (all_app (o0no h2y (ownS.lt h1n) lr) (o0no h2z (ownS.lt h1n) lr)) (nd_app h6r h6t (dj_symm h6u))) ?_
  rintro _ w73 ⟨S31, a4t, n4u, c4v, rfl, s4w, h74, h75, h4x⟩
  refine R z (fd f_52_2 z) ?_
  have h4y := o0n1 h1i h1x.lt h10.size
  refine E0 (fs (cur' := [vI 0, sl none 0 0, sl a4t n4u c4v]) z_50 z z ((h4q.ext h1s).chg s4w (djs h4y)) z (lb z) (oA z) z) ?_
  rintro _ w76 ⟨h77, s78⟩
  have h4z := s78.one
  refine Wn (Wg (Rm z (Ra z (Wn (Wg (Rm z (R z (inc_ hk29 (toNat_le p4_0) z z) (Ra z (Wl ?_)))))))))
  have h32 := lt_ h10.size s11.size
  have h79 : ∀ k ∈ S31, k ∉ [w16.z] := or2 h4x h4y (all_app (o0n1 h2y h1x.lt h32) (o0n1 h2z h1x.lt h32)) (ltnot (mem1 h1x.lt) (lt_ (lt_ h32 s1r.size) h1s.size))
  have h7a : ∀ k ∈ S31, w19.z ≤ k := or2 h4x h1i (all_app (o0le h2y s11.size) (o0le h2z s11.size)) (lele (lt_ (lt_ s11.size s1r.size) h1s.size))
  have h7b : Chg (· ∈ [w16.z]) w19 w1l := cM (cr [w16.z] w19) s11 (io sr)
  have h7c : Chg (· ∈ [w16.z]) w19 w4k := cext h7b s1r
  have h7d : Chg (· ∈ [w16.z]) w19 w4r := cext h7c h1s
  have h7e : ∀ k ∈ S1a, k ∈ [w16.z] ∨ w19.z ≤ k := or0 h1i  (leor lr)
  have h7f : Chg (· ∈ [w16.z]) w19 w73 := cM h7d s4w h7e
  have h7g : Chg (· ∈ [w16.z]) w19 w76 := cM h7f h4z (io sr)
  exact fun _ q => ⟨(x20, x70), (som hm72).symm, ⟨a4t, n4u, c4v, S31, (q.k (s9 z z z z z z z z z)), h7g, h4l, (h74.chg h4z h79), h75, h7a, h77⟩⟩
 ·rintro ⟨x1f, x1u⟩ a88 w7h ⟨a1b, n1c, c1d, S1a, hS7i, s7j, h1m, h1n, h1y, h1i, h1z⟩
  refine Wu ?_ hS7i
  refine Wq (Ws (Rm z (Rm z (R z (lss z z) (Wn (Wc z (fun hc => (nolttI hc).elim) (fun _ => ?_)))))))
  have h7k : Chg (· ∈ [w16.z]) w19 w7h := cM (cr [w16.z] w19) s7j (io sr)
  exact WC_exit (fun a' ha' => ⟨rfl, ⟨a1b, n1c, c1d, S1a, (Sat.weaken ha' (s3 z z z)), h7k, h1m, h1n, h1y, h1i, h1z⟩⟩)
 ·rintro ⟨x1f, x1u⟩ a7l w89 rfl ⟨a1b, n1c, c1d, S1a, hS8a, s50, h1m, h1n, h1y, h1i, h1z⟩
  have hm7m := elL hm37
  have hm7n := un2S hm7m
  revert a7l
  refine Wo (Ws (R z (lN (vs := [vI 0, sl none 0 0, sl a1b n1c c1d]) g_52 z_52 z z fid (h1z.row 0 3 z)) (Rm z ?_)))
  have h51 := mmr h1w.lt
  refine E0 (fs (cur' := [vI 0, sl none 0 0, sl a1b n1c c1d]) z_52 z z (((h1w.ext h12).chg h10 (djs h51)).chg s50 (djs h51)) z (lb z) (oA z) z) ?_
  rintro _ w8b ⟨h7o, s7p⟩
  have h52 := s7p.one
  refine Ra z (Ra z (Wn ?_))
  obtain rfl := som hm7n
  have h53 := lt_ h17.size h15.size
  have h54 := lt_ h53 h13.size
  have h55 := mem1le h54
  exact Wr (ret3 hr (resC g_52 z_52 z h7o z) z z ⟨(bM (bM (bM (bup (bup (bup h17 h15) h13) h12) h10 h55) s50 h55) h52 (mem1le h53)), none, 0, 0, [], a1b, n1c, c1d, S1a, z, (ii z), onL, (h1n.chg h52 (o0n1 h1i h1w.lt (lt_ h12.size h10.size))), h1m, (ii z), (nd_app nd_nil h1y all_nil), (all_app all_nil (o0le h1i (lt_ (lt_ h54 h12.size) h10.size)))⟩)
 rintro r8c ex8d a8e w8f rfl ⟨rfl, hq7q⟩
 have hm7r := elR hm37
 obtain rfl := som hm7r
 exact ⟨hq7q, z⟩
theorem T_w0z (ih : I_spec_l11Read n) : S_spec_l11Choice (B_spec_l11Choice n (F_spec_l11Read n)) := by
 obtain ⟨ih0, ih1, ih2, ih3, ih4⟩ := ih
 constructor
 intro B N0 C0 N2 C2 N3 C3 N1 C1 N4 C4 N7 C7 A0 A2 A3 A1 A4 A7 x1 x2 x3 x4 res w0 hm hBw p1_0 p2_0 p2_1 p2_2 p2_4 p2_5 p2_6 p2_7 p3_0 p4_0
 unfold B_spec_l11Choice at hm
 refine goF func143 z z (lb z) fun fn hr => Ws (E z (fb z) ?_)
 rintro _ w1v ⟨rfl, h1w⟩
 have h15 := h1w.below
 have h2o : Blk w1v w0.z [sl A0 N0 C0] := h1w.blk
 refine E z (fb z) ?_
 rintro _ w1n ⟨rfl, h1x⟩
 have h14 := h1x.below
 have h2p : Blk w1n w1v.z (vR x2 A2 N2 C2 A3 N3 C3 A1 N1 C1 A4 N4 C4) := h1x.blk
 refine E z (fa zero_52) ?_
 rintro _ w2q ⟨rfl, h1y⟩
 have h13 := h1y.below
 have h17 : Blk w2q w1n.z [vI 0, sl none 0 0, sl none 0 0] := h1y.blk
 refine Ra z (Ra z (Wn (Wq (WC_draw (X := noX) 0 (.rd 0 (.rd 1 (.rd 2 (.rd 3 (.rd 4 (.rd 5 (.rd 6 (.ef 7 (.rd 8 (.rd 9 (.rd 10 (.rd 11 (.rd 12 (.rd 13 (.rd 14 .done))))))))))))))) mo (by kernel_rfl) fun w3q s10 _ => ?_))))
 have h1z := ((h2o.ext h14).ext h13).ext s10
 refine dR z z (lN (vs := [sl A0 N0 C0]) g_30 z_30 z z fid (h1z.row 0 1 z)) (dR z z (fd f_80_7 z) ?_)
 have h20 := (h2p.ext h13).ext s10
 refine dR z z (l1 g_78 z fid (h20.at z)) ?_
 obtain ⟨x3r, e2r, hm2s⟩ := bdS hm
 have h21 := (((p2_7.ext h15).ext h14).ext h13).ext s10
 refine dRX z z (at_ (α := Int) d_78 z_3 z z z h21 e2r) ?_
 rintro _ ⟨b3s, o3t, cs3u, rfl, h2t, h2u, h3v⟩
 obtain ⟨rfl, h2v⟩ := Int_open h2u
 refine dR z z (l1 g_3 z fid (h2t.at0 z)) (dR z z (mv z) (dR z z (mv z) ?_))
 have h22 := (((p1_0.ext h15).ext h14).ext h13).ext s10
 have h23 := (((p3_0.ext h15).ext h14).ext h13).ext s10
 have h1f := lt_ h15.size h14.size
 have h24 := lt_ (lt_ h1f h13.size) s10.size
 obtain ⟨r25, r3w, r3x, e2w, hm26⟩ := bd3S hm2s
 refine dE z z (fc call128 z (W_w0c (B := B) e2w (lt_ hBw h24) h22 h2v h23 p4_0)) (.inr fun _ _ h => chgB (h.1)) ?_
 rintro _ w3y ⟨s11, rfl, h1o, h2x⟩
 refine dR z z (mv z) ?_
 iterate 3 refine dR z z (ext_ z z) ?_
 iterate 3 refine dR z z (asg z) ?_
 refine PR_done (Wo (Wq (Ws (Rm z (R z (not_ z) (Wn (Wc z (fun hc1p => ?_) (fun hc1p => ?_))))))))
 ·refine Ws (R z (bP (parts := []) (cs := [vI 0, sl none 0 0, sl none 0 0]) build_52 z z) (Rm z (E0 (fs (cur' := [vI 0, sl none 0 0, sl none 0 0]) z_52 z z ((h17.ext s10).ext s11) z (lb z) (oA z) z) ?_)))
  rintro _ w3z ⟨h2y, s2z⟩
  refine Ra z (Ra z (Wn ?_))
  obtain rfl := som (ifT hm26 hc1p)
  exact Wr (ret3 hr (resC g_52 z_52 z h2y z) z z ⟨(bM (bup (bup (bup (bup h15 h14) h13) s10) s11) s2z.one (mem1le h1f)), none, 0, 0, [], none, 0, 0, [], z, (ii z), onL, onL, p4_0, (ii z), nd0, al0⟩)
 refine Wk (Wq (Ws ?_))
 have h27 := h20.ext s11
 refine R z (lN (vs := (vR x2 A2 N2 C2 A3 N3 C3 A1 N1 C1 A4 N4 C4)) g_80 z_80 z z fid (h27.row 0 8 z)) (Rm z ?_)
 have h28 := ((((p2_4.ext h15).ext h14).ext h13).ext s10).ext s11
 have h29 := ((((p2_5.ext h15).ext h14).ext h13).ext s10).ext s11
 have h2a := ((((p2_6.ext h15).ext h14).ext h13).ext s10).ext s11
 have h2b := h21.ext s11
 have h2c := lt_ h24 s11.size
 obtain ⟨r40, e30, hm2d⟩ := bdS (ifF hm26 hc1p)
 refine E z (fc call114 z (W_w0d (B := B) e30 (lt_ hBw h2c) p2_0 p2_1 p2_2 h28 h29 h2a h2b h1o (ii z))) ?_
 rintro _ w41 ⟨s12, rfl, h42⟩
 refine R z (lss z z) (Wn (Wc z (fun hc1q => ?_) (fun hc1q => ?_)))
 ·refine Ws (R z (bP (parts := []) (cs := [vI 0, sl none 0 0, sl none 0 0]) build_52 z z) (Rm z (E0 (fs (cur' := [vI 0, sl none 0 0, sl none 0 0]) z_52 z z (((h17.ext s10).ext s11).ext s12) z (lb z) (oA z) z) ?_)))
  rintro _ w43 ⟨h31, s32⟩
  refine Ra z (Ra z (Wn ?_))
  obtain rfl := som (ifT hm2d hc1q)
  exact Wr (ret3 hr (resC g_52 z_52 z h31 z) z z ⟨(bM (bup (bup (bup (bup (bup h15 h14) h13) s10) s11) s12) s32.one (mem1le h1f)), none, 0, 0, [], none, 0, 0, [], z, (ii z), onL, onL, p4_0, (ii z), nd0, al0⟩)
 refine Wk (Ws (R z (lN (vs := [sl A0 N0 C0]) g_30 z_30 z z fid (((h1z.ext s11).ext s12).row 0 1 z)) (R z (lN (vs := (vR x2 A2 N2 C2 A3 N3 C3 A1 N1 C1 A4 N4 C4)) g_80 z_80 z z fid ((h27.ext s12).row 0 8 z)) (Rm z (Rm z (Rm z ?_))))))
 have h1g := lt_ h2c s12.size
 obtain ⟨r2e, r33, r34, e35, hm36⟩ := bd3S (ifF hm2d hc1q)
 refine E z (fc call142 z (ih1.run (B := B) e35 (lt_ hBw h1g) ((h22.ext s11).ext s12) p2_0 p2_1 p2_2 (h28.ext s12) (h29.ext s12) (h2a.ext s12) (h2b.ext s12) h1o (ii z) ((h23.ext s11).ext s12) h2x)) ?_
 rintro _ w16 ⟨s1h, a18, n19, c1a, S37, a1b, n1c, c1d, S38, rfl, h39, h2f, h2g, h3a, h3b, h1r, h1i⟩
 refine Rm z ?_
 iterate 3 refine R z (ext_ z z) ?_
 refine E z (fa zero_52) ?_
 rintro _ w3c ⟨rfl, h2h⟩
 have h1j := h2h.below
 have h3d : Blk w3c w16.z [vI 0, sl none 0 0, sl none 0 0] := h2h.blk
 refine E0 (fs (cur' := [vI r2e.number, sl a18 n19 c1a, sl a1b n1c c1d]) z_52 z z h3d z (lb z) (oA z) z) ?_
 rintro _ w1k ⟨h2i, s3e⟩
 have h1l := s3e.one
 refine Ra z (Ra z (Wn (Wq (Ws (Rm z (R z (eql z z) (Wn ?_)))))))
 obtain ⟨u3f, hu2j, hm3g⟩ := bdS hm36
 refine WC_cut (fun a w => ∃ (x1e : Int), x1e = u3f ∧ Sat 56 [(8, pt w1n.z), (14, pt w16.z), (15, vI r33), (16, vI r34)] a ∧ Chg (· ∈ [w16.z]) w1k w ∧ inI x1e ∧ Blk w w16.z [vI x1e, sl a18 n19 c1a, sl a1b n1c c1d]) ?_ ?_
 ·refine Wc z (fun hc1s => ?_) (fun hc1s => ?_)
  ·refine Wg (Rm z (R z (fd f_52_0 z) (E0 (fs (cur' := [vI r25, sl a18 n19 c1a, sl a1b n1c c1d]) z_3 z z h2i z (lb z) (oA z) z) ?_)))
   rintro _ w3h ⟨h3i, s3j⟩
   refine Wl ?_
   have h3k : Chg (· ∈ [w16.z]) w1k w3h := cM (cr [w16.z] w1k) s3j.one (io sr)
   exact fun _ q => ⟨r25, som (ifT hu2j hc1s), (q.k (s4 z z z z)), h3k, h1o, h3i⟩
  exact WC_skip (fun _ q => ⟨r2e.number, som (ifF hu2j hc1s), (q.k (s4 z z z z)), (cr [w16.z] w1k), h39, h2i⟩)
 rintro a3l w44 ⟨x1e, rfl, hS45, s1m, h3m, h3n⟩
 revert a3l
 refine Wo (Ws (R z (lN (vs := [vI x1e, sl a18 n19 c1a, sl a1b n1c c1d]) g_52 z_52 z z fid (h3n.row 0 3 z)) (Rm z (Rm z ?_))))
 have h1t := lt_ (lt_ s10.size s11.size) s12.size
 have h2k := mm1 h17.lt (lt_ h1t s1h.size)
 refine E0 (fs (cur' := [vI x1e, sl a18 n19 c1a, sl a1b n1c c1d]) z_52 z z (((((((h17.ext s10).ext s11).ext s12).ext s1h).ext h1j).chg h1l (djs h2k)).chg s1m (djs h2k)) z (lb z) (oA z) z) ?_
 rintro _ w46 ⟨h3o, s3p⟩
 have h1u := s3p.one
 refine Ra z (Ra z (Wn ?_))
 obtain rfl := som hm3g
 have h2l := mnr (ownS.lt h2f)
 have h2m := mnr (ownS.lt h2g)
 have h2n := mem1le (lt_ h1g s1h.size)
 exact Wr (ret3 hr (resC g_52 z_52 z h3o z) z z ⟨(bM (bM (bM (bup (bup (bup (bup (bup (bup (bup h15 h14) h13) s10) s11) s12) s1h) h1j) h1l h2n) s1m h2n) h1u (mem1le h1f)), a18, n19, c1a, S37, a1b, n1c, c1d, S38, z, h3m, ((((h2f.ext h1j).chg h1l (dj_symm h2l)).chg s1m (dj_symm h2l)).chg h1u (o0n1 (all_left h1i) h17.lt h1t)), ((((h2g.ext h1j).chg h1l (dj_symm h2m)).chg s1m (dj_symm h2m)).chg h1u (o0n1 (all_right h1i) h17.lt h1t)), h3a, h3b, (nd_app (nd_left h1r) (nd_right h1r) (nd_dj h1r)), (all_app (o0le (all_left h1i) h1g) (o0le (all_right h1i) h1g))⟩)
theorem T_w10 (ih : I_spec_l11Read n) : S_spec_l11Option (B_spec_l11Option n (F_spec_l11Read n)) := by
 obtain ⟨ih0, ih1, ih2, ih3, ih4⟩ := ih
 constructor
 intro B N0 C0 N2 C2 N3 C3 N1 C1 N4 C4 N7 C7 A0 A2 A3 A1 A4 A7 x1 x2 x3 x4 res w0 hm hBw p1_0 p2_0 p2_1 p2_2 p2_4 p2_5 p2_6 p2_7 p3_0 p4_0
 unfold B_spec_l11Option at hm
 refine goF func144 z z (lb z) fun fn hr => Ws (E z (fb z) ?_)
 rintro _ w1c ⟨rfl, h1d⟩
 have h12 := h1d.below
 have h1r : Blk w1c w0.z [sl A0 N0 C0] := h1d.blk
 refine E z (fb z) ?_
 rintro _ w1e ⟨rfl, h1f⟩
 have h10 := h1f.below
 have h1s : Blk w1e w1c.z (vR x2 A2 N2 C2 A3 N3 C3 A1 N1 C1 A4 N4 C4) := h1f.blk
 refine E z (fa zero_52) ?_
 rintro _ w1t ⟨rfl, h1g⟩
 have h13 := h1g.below
 have h14 : Blk w1t w1e.z [vI 0, sl none 0 0, sl none 0 0] := h1g.blk
 refine Ra z (Ra z (Wn (Wq (WC_block (Ws (Rm z (Rm z ?_)))))))
 have h16 := ((p3_0.ext h12).ext h10).ext h13
 refine R z (lnR d_25 z h16) (R z (rd_geq z z) (Ra z (Wn (Wc z (fun hc17 => ?_) (fun hc17 => ?_)))))
 ·refine Ws (R z (bP (parts := []) (cs := [vI 0, sl none 0 0, sl none 0 0]) build_52 z z) (Rm z (E0 (fs (cur' := [vI 0, sl none 0 0, sl none 0 0]) z_52 z z h14 z (lb z) (oA z) z) ?_)))
  rintro _ w2h ⟨h1u, s1v⟩
  refine Ra z (Ra z (Wn ?_))
  obtain rfl := som (ifT hm hc17)
  exact Wr (rtO (ret3 hr (resC g_52 z_52 z h1u z) z z ⟨(bM (bup (bup h12 h10) h13) s1v.one (mem1le (lt_ h12.size h10.size))), none, 0, 0, [], none, 0, 0, [], z, (ii z), onL, onL, p4_0, (ii z), nd0, al0⟩))
 refine Ws (Rm z (Rm z ?_))
 obtain ⟨x2i, e1w, hm1h⟩ := bdS (ifF hm hc17)
 refine RX z (at_ (α := UInt8) d_25 z_5 z z z h16 e1w) ?_
 rintro _ ⟨b2j, o2k, cs2l, rfl, h1x, h1y, h2m⟩
 obtain rfl := UInt8_open h1y
 refine R z (l1 g_5 z fid (h1x.at0 z)) (R z (rd_gtr z z) (Ra z (Wn (Wc z (fun hc18 => ?_) (fun hc18 => ?_)))))
 ·refine Ws (R z (bP (parts := []) (cs := [vI 0, sl none 0 0, sl none 0 0]) build_52 z z) (Rm z (E0 (fs (cur' := [vI 0, sl none 0 0, sl none 0 0]) z_52 z z h14 z (lb z) (oA z) z) ?_)))
  rintro _ w2n ⟨h1z, s20⟩
  refine Ra z (Ra z (Wn ?_))
  obtain rfl := som (ifT hm1h hc18)
  exact Wr (rtO (ret3 hr (resC g_52 z_52 z h1z z) z z ⟨(bM (bup (bup h12 h10) h13) s20.one (mem1le (lt_ h12.size h10.size))), none, 0, 0, [], none, 0, 0, [], z, (ii z), onL, onL, p4_0, (ii z), nd0, al0⟩))
 refine Wk (Wq (WC_draw (X := noX) 16384 (.rd 0 (.rd 1 (.rd 2 (.rd 3 (.rd 4 (.rd 5 (.rd 6 (.rd 7 (.rd 8 (.rd 9 (.ef 10 (.rd 11 (.rd 12 (.rd 13 (.ef 14 (.rd 15 (.rd 16 .done))))))))))))))))) mo (by kernel_rfl) fun w2o s11 _ => dR z z (lN (vs := [sl A0 N0 C0]) g_30 z_30 z z fid ((((h1r.ext h10).ext h13).ext s11).row 0 1 z)) (dR z z (lN (vs := (vR x2 A2 N2 C2 A3 N3 C3 A1 N1 C1 A4 N4 C4)) g_80 z_80 z z fid (((h1s.ext h13).ext s11).row 0 8 z)) (dR z z (mv z) (dR z z (mv z) ?_)))))
 obtain ⟨x2p, e21, hm22⟩ := bdS (ifF hm1h hc18)
 have h1i := h16.ext s11
 refine dRX z z (at_ (α := UInt8) d_25 z_5 z z z h1i e21) ?_
 rintro _ ⟨b2q, o2r, cs2s, rfl, h23, h24, h2t⟩
 obtain rfl := UInt8_open h24
 refine dR z z (l1 g_5 z fid (h23.at0 z)) (dR z z (rd_convUI d_5 d_3 z) (dR z z (mv z) (dR z z (mv z) (dR z z (add_ z z) ?_))))
 have h1j := lt_ h12.size h10.size
 have h19 := lt_ (lt_ h1j h13.size) s11.size
 obtain ⟨r25, r2u, r2v, e26, hm27⟩ := bd3S hm22
 refine dE z z (fc call142 z (ih1.run (B := B) e26 (lt_ hBw h19) ((((p1_0.ext h12).ext h10).ext h13).ext s11) p2_0 p2_1 p2_2 ((((p2_4.ext h12).ext h10).ext h13).ext s11) ((((p2_5.ext h12).ext h10).ext h13).ext s11) ((((p2_6.ext h12).ext h10).ext h13).ext s11) ((((p2_7.ext h12).ext h10).ext h13).ext s11) (ii z) (inI_byte _) h1i (iA _ _))) (.inr fun _ _ h => chgB (h.1)) ?_
 rintro _ w2w ⟨s1k, a1l, n1m, c1n, S28, a1o, n1p, c1q, S29, rfl, h2a, h2b, h2c, h2d, h2e, h1a, h15⟩
 iterate 3 refine dR z z (ext_ z z) ?_
 refine dE0 z (fs (cur' := [vI r25.number, sl a1l n1m c1n, sl a1o n1p c1q]) z_52 z z ((h14.ext s11).ext s1k) z (lb z) (oA z) z) (.inl z) ?_
 rintro _ w2x ⟨h2f, s2g⟩
 have h1b := s2g.one
 refine dR z z (asg z) (dR z z (asg z) (PR_done (Wo ?_)))
 obtain rfl := som hm27
 exact Wr (ret3 hr (resC g_52 z_52 z h2f z) z z ⟨(bM (bup (bup (bup (bup h12 h10) h13) s11) s1k) h1b (mem1le h1j)), a1l, n1m, c1n, S28, a1o, n1p, c1q, S29, z, h2a, (h2b.chg h1b (o0n1 (all_left h15) h14.lt s11.size)), (h2c.chg h1b (o0n1 (all_right h15) h14.lt s11.size)), h2d, h2e, (nd_app (nd_left h1a) (nd_right h1a) (nd_dj h1a)), (all_app (o0le (all_left h15) h19) (o0le (all_right h15) h19))⟩)
theorem T_w11 (ih : I_spec_l11Read n) : S_spec_l11Checked (B_spec_l11Checked n (F_spec_l11Read n)) := by
 obtain ⟨ih0, ih1, ih2, ih3, ih4⟩ := ih
 constructor
 intro B N0 C0 N2 C2 N3 C3 N1 C1 N4 C4 N7 C7 A0 A2 A3 A1 A4 A7 x1 x2 x3 x4 res w0 hm hBw p1_0 p2_0 p2_1 p2_2 p2_4 p2_5 p2_6 p2_7 p3_0 p4_0
 unfold B_spec_l11Checked at hm
 refine goF func145 z z (lb z) fun fn hr => Ws (E z (fb z) ?_)
 rintro _ w1t ⟨rfl, h1u⟩
 have h16 := h1u.below
 have h29 : Blk w1t w0.z [sl A0 N0 C0] := h1u.blk
 refine E z (fb z) ?_
 rintro _ w1v ⟨rfl, h1w⟩
 have h14 := h1w.below
 have h2a : Blk w1v w1t.z (vR x2 A2 N2 C2 A3 N3 C3 A1 N1 C1 A4 N4 C4) := h1w.blk
 refine E z (fa zero_52) ?_
 rintro _ w2b ⟨rfl, h1x⟩
 have h13 := h1x.below
 have h15 : Blk w2b w1v.z [vI 0, sl none 0 0, sl none 0 0] := h1x.blk
 refine Ra z (Ra z (Wn (Ws (R z (lN (vs := [sl A0 N0 C0]) g_30 z_30 z z fid (((h29.ext h14).ext h13).row 0 1 z)) (R z (lN (vs := (vR x2 A2 N2 C2 A3 N3 C3 A1 N1 C1 A4 N4 C4)) g_80 z_80 z z fid ((h2a.ext h13).row 0 8 z)) (Rm z (Rm z ?_)))))))
 have h1y := ((p3_0.ext h16).ext h14).ext h13
 have h1i := lt_ h16.size h14.size
 have h19 := lt_ h1i h13.size
 obtain ⟨r1j, r2y, r2z, e2c, hm1z⟩ := bd3S hm
 refine E z (fc call142 z (ih1.run (B := B) e2c (lt_ hBw h19) (((p1_0.ext h16).ext h14).ext h13) p2_0 p2_1 p2_2 (((p2_4.ext h16).ext h14).ext h13) (((p2_5.ext h16).ext h14).ext h13) (((p2_6.ext h16).ext h14).ext h13) (((p2_7.ext h16).ext h14).ext h13) (ii z) (ii z) h1y p4_0)) ?_
 rintro _ w2d ⟨s10, a1a, n1b, c1c, S20, a1d, n1e, c1f, S21, rfl, h22, h1l, h1m, h1n, h2e, h1h, h18⟩
 refine Rm z ?_
 iterate 3 refine R z (ext_ z z) ?_
 refine E z (fa zero_52) ?_
 rintro _ w2f ⟨rfl, h23⟩
 have h11 := h23.below
 have h2g : Blk w2f w2d.z [vI 0, sl none 0 0, sl none 0 0] := h23.blk
 refine E0 (fs (cur' := [vI r1j.number, sl a1a n1b c1c, sl a1d n1e c1f]) z_52 z z h2g z (lb z) (oA z) z) ?_
 rintro _ w30 ⟨h24, s2h⟩
 have h12 := s2h.one
 refine Ra z (Ra z (Wn (Wq (WC_block (Ws (Rm z (R z (nq z z) (Ra z (Wn (Wc z (fun hc1o => ?_) (fun hc1o => ?_)))))))))))
 ·refine Ws (R z (lN (vs := [vI r1j.number, sl a1a n1b c1c, sl a1d n1e c1f]) g_52 z_52 z z fid (h24.row 0 3 z)) (Rm z (Rm z (E0 (fs (cur' := [vI r1j.number, sl a1a n1b c1c, sl a1d n1e c1f]) z_52 z z (((h15.ext s10).ext h11).chg h12 (djs (mm1 h15.lt s10.size))) z (lb z) (oA z) z) ?_))))
  rintro _ w31 ⟨h2i, s2j⟩
  have h1p := s2j.one
  refine Ra z (Ra z (Wn ?_))
  obtain rfl := som (ifT hm1z hc1o)
  exact Wr (rtO (ret3 hr (resC g_52 z_52 z h2i z) z z ⟨(bM (bM (bup (bup (bup (bup h16 h14) h13) s10) h11) h12 (mem1le (lt_ h19 s10.size))) h1p (mem1le h1i)), a1a, n1b, c1c, S20, a1d, n1e, c1f, S21, z, h22, (((h1l.ext h11).chg h12 (dj_symm (mnr (ownS.lt h1l)))).chg h1p (o0n1 (all_left h18) h15.lt lr)), (((h1m.ext h11).chg h12 (dj_symm (mnr (ownS.lt h1m)))).chg h1p (o0n1 (all_right h18) h15.lt lr)), h1n, h2e, (nd_app (nd_left h1h) (nd_right h1h) (nd_dj h1h)), (all_app (o0le (all_left h18) h19) (o0le (all_right h18) h19))⟩))
 have hm25 := ifF hm1z hc1o
 refine Ws (Rm z (Rm z ?_))
 have h1k := lt_ h19 s10.size
 have h26 := ((h1y.ext s10).ext h11).chg h12 (lg (mem1le (lt_ hBw h1k)))
 refine R z (lnR d_25 z h26) (R z (rd_geq z z) (Ra z (Wn (Wc z (fun hc1q => ?_) (fun hc1q => ?_)))))
 ·refine Ws (R z (bP (parts := []) (cs := [vI 0, sl none 0 0, sl none 0 0]) build_52 z z) (Rm z (E0 (fs (cur' := [vI 0, sl none 0 0, sl none 0 0]) z_52 z z (((h15.ext s10).ext h11).chg h12 (djs (mm1 h15.lt s10.size))) z (lb z) (oA z) z) ?_)))
  rintro _ w32 ⟨h2k, s2l⟩
  refine Ra z (Ra z (Wn ?_))
  obtain rfl := som (ifT hm25 hc1q)
  exact Wr (rtO (ret3 hr (resC g_52 z_52 z h2k z) z z ⟨(bM (bM (bup (bup (bup (bup h16 h14) h13) s10) h11) h12 (mem1le h1k)) s2l.one (mem1le h1i)), none, 0, 0, [], none, 0, 0, [], z, (ii z), onL, onL, h1n, (ii z), nd0, al0⟩))
 refine Wq (WC_draw (X := noX) 0 (.rd 0 (.rd 1 (.rd 2 (.rd 3 (.rd 4 (.rd 5 (.rd 6 (.rd 7 (.rd 8 (.ef 9 (.rd 10 (.rd 11 .done)))))))))))) mo (by kernel_rfl) fun w33 s17 _ => dR z z (mv z) (dR z z (mv z) ?_))
 obtain ⟨x34, e2m, hm2n⟩ := bdS (ifF hm25 hc1q)
 have h27 := h26.ext s17
 refine dRX z z (at_ (α := UInt8) d_25 z_5 z z z h27 e2m) ?_
 rintro _ ⟨b35, o36, cs37, rfl, h2o, h2p, h38⟩
 obtain rfl := UInt8_open h2p
 refine dR z z (l1 g_5 z fid (h2o.at0 z)) (dR z z (rd_convUI d_5 d_3 z) ?_)
 iterate 3 refine dR z z (mv z) ?_
 obtain ⟨x39, e2q, hm2r⟩ := bdS hm2n
 refine dRX z z (rd_sliceX d_25 z_5 z z h27 z z e2q) ?_
 rintro _ ⟨a3a, n3b, c3c, rfl, h2s⟩
 obtain ⟨r3d, e2t, hm28⟩ := bdS hm2r
 refine dE z z (fc call116 z (W_w24 (B := B) e2t (lt_ hBw (lt_ (lt_ (lt_ h1k h11.size) h12.size) s17.size)) h2s)) (.inr fun _ _ h => chgB (h.1)) ?_
 rintro _ w3e ⟨s1g, rfl, h3f⟩
 refine dR z z (nq z z) (dR z z (asg z) (PR_done (Wo (Wc z (fun hc1r => ?_) (fun hc1r => ?_)))))
 ·refine Ws (R z (bP (parts := []) (cs := [vI 0, sl none 0 0, sl none 0 0]) build_52 z z) (Rm z (E0 (fs (cur' := [vI 0, sl none 0 0, sl none 0 0]) z_52 z z (((((h15.ext s10).ext h11).chg h12 (djs (mm1 h15.lt s10.size))).ext s17).ext s1g) z (lb z) (oA z) z) ?_)))
  rintro _ w3g ⟨h2u, s2v⟩
  refine Ra z (Ra z (Wn ?_))
  obtain rfl := som (ifT hm28 hc1r)
  exact Wr (rtO (ret3 hr (resC g_52 z_52 z h2u z) z z ⟨(bM (bup (bup (bM (bup (bup (bup (bup h16 h14) h13) s10) h11) h12 (mem1le h1k)) s17) s1g) s2v.one (mem1le h1i)), none, 0, 0, [], none, 0, 0, [], z, (ii z), onL, onL, h1n, (ii z), nd0, al0⟩))
 refine Wk (Ws (R z (lN (vs := [vI r1j.number, sl a1a n1b c1c, sl a1d n1e c1f]) g_52 z_52 z z fid (((h24.ext s17).ext s1g).row 0 3 z)) (Rm z (R z (add_ z z) (E0 (fs (cur' := [vI r1j.number, sl a1a n1b c1c, sl a1d n1e c1f]) z_52 z z (((((h15.ext s10).ext h11).chg h12 (djs (mm1 h15.lt s10.size))).ext s17).ext s1g) z (lb z) (oA z) z) ?_)))))
 rintro _ w3h ⟨h2w, s2x⟩
 have h1s := s2x.one
 refine Ra z (Ra z (Wn ?_))
 obtain rfl := som (ifF hm28 hc1r)
 exact Wr (ret3 hr (resC g_52 z_52 z h2w z) z z ⟨(bM (bup (bup (bM (bup (bup (bup (bup h16 h14) h13) s10) h11) h12 (mem1le h1k)) s17) s1g) h1s (mem1le h1i)), a1a, n1b, c1c, S20, a1d, n1e, c1f, S21, z, h22, (((((h1l.ext h11).chg h12 (dj_symm (mnr (ownS.lt h1l)))).ext s17).ext s1g).chg h1s (o0n1 (all_left h18) h15.lt lr)), (((((h1m.ext h11).chg h12 (dj_symm (mnr (ownS.lt h1m)))).ext s17).ext s1g).chg h1s (o0n1 (all_right h18) h15.lt lr)), (iA _ _), (ii z), (nd_app (nd_left h1h) (nd_right h1h) (nd_dj h1h)), (all_app (o0le (all_left h18) h19) (o0le (all_right h18) h19))⟩)
theorem A_w02 : ∀ n, I_spec_l11Read n
  | 0 => ⟨⟨fun hm => by intros; exact nomatch (show none = some _ from hm)⟩, ⟨fun hm => by intros; exact nomatch (show none = some _ from hm)⟩, ⟨fun hm => by intros; exact nomatch (show none = some _ from hm)⟩, ⟨fun hm => by intros; exact nomatch (show none = some _ from hm)⟩, ⟨fun hm => by intros; exact nomatch (show none = some _ from hm)⟩⟩
  | n + 1 => ⟨T_w02 (A_w02 n), T_w0y (A_w02 n), T_w0z (A_w02 n), T_w10 (A_w02 n), T_w11 (A_w02 n)⟩
theorem W_w02 : S_spec_l11Read (F_spec_l11Read n).spec_l11Read := (A_w02 n).1
theorem W_w0y : S_spec_l11Items (F_spec_l11Read n).spec_l11Items := (A_w02 n).2.1
theorem W_w0z : S_spec_l11Choice (F_spec_l11Read n).spec_l11Choice := (A_w02 n).2.2.1
theorem W_w10 : S_spec_l11Option (F_spec_l11Read n).spec_l11Option := (A_w02 n).2.2.2.1
theorem W_w11 : S_spec_l11Checked (F_spec_l11Read n).spec_l11Checked := (A_w02 n).2.2.2.2

theorem W_w0l {x1 : Desc} {x2 : Int} {x3 : List UInt8} {x4 : Int} {res : Val × Int × Int} (hm : M_spec_ReadValue n x1 x2 x3 x4 = some res) (hBw : B ≤ w0.z) (p1_0 : repS w0 B (sl A0 N0 C0) x1.rules) (p2_0 : inI x2) (p3_0 : repS w0 B (sl A7 N7 C7) x3) (p4_0 : inI x4) : CallsR prog 79 [(.agg #[sl A0 N0 C0]), vI x2, sl A7 N7 C7, vI x4] w0 (Q9 w0 B res) := by
 unfold M_spec_ReadValue at hm
 refine goF func79 z z (lb z) fun fn hr => Ws (E z (fb z) ?_)
 rintro _ w18 ⟨rfl, h1h⟩
 have h11 := h1h.below
 have h1i : Blk w18 w0.z [sl A0 N0 C0] := h1h.blk
 refine E z (fa zero_52) ?_
 rintro _ w19 ⟨rfl, h1j⟩
 have h12 := h1j.below
 have h16 : Blk w19 w18.z [vI 0, sl none 0 0, sl none 0 0] := h1j.blk
 refine Ra z (Ra z (Wn (Wq (Wq ?_))))
 obtain ⟨u1v, hu1w, hm1k⟩ := bdS hm
 refine WC_cut (fun a w => ∃ (x1a : Bool), x1a = u1v ∧ Sat 36 [(1, vI x2), (2, sl A7 N7 C7), (3, vI x4), (4, pt w0.z), (8, pt w18.z), (26, vB x1a)] a ∧ Below w19.z w19 w) ?_ ?_
 ·refine Wg (R z (lN (vs := [sl A0 N0 C0]) g_30 z_30 z z fid ((h1i.ext h12).row 0 1 z)) (Rm z ?_))
  have h1l := lt_ h11.size h12.size
  obtain ⟨r1x, e1y, hm1m⟩ := bdS hu1w
  refine E z (fc call125 z (W_w21 (B := B) e1y (lt_ hBw h1l) ((p1_0.ext h11).ext h12) p2_0)) ?_
  rintro _ w2g ⟨s15, rfl⟩
  refine R z (not_ z) (Rm z ?_)
  rcases bs (!r1x) with hc10 | hc10
  ·iterate 5 refine Nh z hc10 ?_
   exact R z (pT z hc10 z) (Rm z (Nh z z (Nh z z (Nh z z (R z (pT z z z) (Wl (fun _ q => ⟨true, som (ifT hm1m hc10), (q.k (s6 z z z z z z)), s15⟩)))))))
  refine Rh z hc10 (mv z) (Rh z hc10 (mv z) ?_)
  have h1b := ((p3_0.ext h11).ext h12).ext s15
  refine Rh z hc10 (lnR d_25 z h1b) ?_
  obtain ⟨r1z, e20, hm1n⟩ := bdS (ifF hm1m hc10)
  refine Eg z z hc10 z (fc call87 z (W_w00 (B := B) e20 (lt_ hBw (lt_ h1l s15.size)) p4_0 (ii z) (inI_len (repS.len h1b)))) ?_
  rintro _ w2h ⟨s1c, rfl⟩
  refine Rh z hc10 (not_ z) (R z (pF z hc10 z) (Rm z ?_))
  rcases bs (!r1z) with hc14 | hc14
  ·iterate 3 refine Nh z hc14 ?_
   exact R z (pT z hc14 z) (Wl (fun _ q => ⟨true, som (ifT hm1n hc14), (q.k (s6 z z z z z z)), (bup s15 s1c)⟩))
  exact Rh z hc14 (mv z) (Rh z hc14 (lnR d_25 z (h1b.ext s1c)) (Rh z hc14 (rd_gtr z z) (R z (pF z hc14 z) (Wl (fun _ q => ⟨decide (400 < (x3.length : Int)), som (ifF hm1n hc14), (q.k (s6 z z z z z z)), (bup s15 s1c)⟩)))))
 rintro a21 w2i ⟨x1a, rfl, hS2j, s13⟩
 revert a21
 refine Wo (Wc z (fun hc1d => ?_) (fun hc1d => ?_))
 ·refine Ws (R z (bP (parts := []) (cs := [vI 0, sl none 0 0, sl none 0 0]) build_52 z z) (E0 (fs (cur' := [vI 0, sl none 0 0, sl none 0 0]) z_52 z z (h16.ext s13) z (lb z) (oA z) z) ?_))
  rintro _ w2k ⟨h22, s23⟩
  refine Ra z (Ra z (Wn ?_))
  obtain rfl := som (ifT hm1k hc1d)
  exact Wr (ret3 hr (resC g_52 z_52 z h22 z) z z ⟨(bM (bup (bup h11 h12) s13) s23.one (mem1le h11.size)), none, 0, 0, [], none, 0, 0, [], z, (ii z), onL, onL, (ii z), (ii z), nd0, al0⟩)
 refine Wk (Ws (R z (lN (vs := [sl A0 N0 C0]) g_30 z_30 z z fid (((h1i.ext h12).ext s13).row 0 1 z)) (Rm z (Rm z (Rm z ?_)))))
 have h1e := lt_ (lt_ h11.size h12.size) s13.size
 obtain ⟨r24, r2l, r2m, e25, hm26⟩ := bd3S (ifF hm1k hc1d)
 refine E z (fc call99 z (W_w02.run (B := B) e25 (lt_ hBw h1e) (((p1_0.ext h11).ext h12).ext s13) p2_0 (((p3_0.ext h11).ext h12).ext s13) p4_0)) ?_
 rintro _ w2n ⟨s1o, a1p, n1q, c1r, S27, a1s, n1t, c1u, S28, rfl, h29, h2a, h2b, h2c, h2d, h1f, h17⟩
 iterate 3 refine R z (ext_ z z) ?_
 refine E0 (fs (cur' := [vI r24.number, sl a1p n1q c1r, sl a1s n1t c1u]) z_52 z z ((h16.ext s13).ext s1o) z (lb z) (oA z) z) ?_
 rintro _ w2o ⟨h2e, s2f⟩
 have h1g := s2f.one
 refine Ra z (Ra z (Wn ?_))
 obtain rfl := som hm26
 exact Wr (ret3 hr (resC g_52 z_52 z h2e z) z z ⟨(bM (bup (bup (bup h11 h12) s13) s1o) h1g (mem1le h11.size)), a1p, n1q, c1r, S27, a1s, n1t, c1u, S28, z, h29, (h2a.chg h1g (o0n1 (all_left h17) h16.lt s13.size)), (h2b.chg h1g (o0n1 (all_right h17) h16.lt s13.size)), h2c, h2d, (nd_app (nd_left h1f) (nd_right h1f) (nd_dj h1f)), (all_app (o0le (all_left h17) h1e) (o0le (all_right h17) h1e))⟩)
theorem W_w25 {x1 : Desc} {x2 : List UInt8} {res : Val × Int × Int} (hm : M_spec_ReadFile n x1 x2 = some res) (hBw : B ≤ w0.z) (p1_0 : repS w0 B (sl A0 N0 C0) x1.rules) (p2_0 : repS w0 B (sl A5 N5 C5) x2) : CallsR prog 30 [(.agg #[sl A0 N0 C0]), sl A5 N5 C5] w0 (Q9 w0 B res) := by
 unfold M_spec_ReadFile at hm
 refine goF func30 z z (lb z) fun fn hr => Ws (E z (fb z) ?_)
 rintro _ w1n ⟨rfl, h2g⟩
 have h12 := h2g.below
 have h1v : Blk w1n w0.z [sl A0 N0 C0] := h2g.blk
 refine E z (fa zero_52) ?_
 rintro _ w16 ⟨rfl, h2h⟩
 have h11 := h2h.below
 have h1o : Blk w16 w1n.z [vI 0, sl none 0 0, sl none 0 0] := h2h.blk
 refine Ra z (Ra z (Wn (Wq ?_)))
 obtain ⟨u3x, hu2i, hm3y⟩ := bdS hm
 refine WC_cut (fun a w => ∃ (x1b : Int) (x1w : List UInt8) (x1x : List Val) (x1c : Int) (x1d : Int), (x1b, x1w, x1x, x1c, x1d) = u3x ∧ ∃ a1e n1f c1g S17 a1h n1i c1j S18 g19, Sat 32 [(1, sl A5 N5 C5), (4, pt w1n.z), (7, pt g19), (8, vI x1c), (9, vI x1d)] a ∧ Below w16.z w16 w ∧ inI x1b ∧ ownS w S17 (sl a1e n1f c1g) x1w ∧ S17.Nodup ∧ (∀ k ∈ S17, w16.z ≤ k) ∧ ownS w S18 (sl a1h n1i c1j) x1x ∧ S18.Nodup ∧ (∀ k ∈ S18, w16.z ≤ k) ∧ (∀ k ∈ S18, k ∉ S17) ∧ inI x1c ∧ inI x1d ∧ Blk w g19 [vI x1b, sl a1e n1f c1g, sl a1h n1i c1j] ∧ w16.z ≤ g19 ∧ (∀ k ∈ S17, k ∉ [g19]) ∧ (∀ k ∈ S18, k ∉ [g19])) ?_ ?_
 ·refine WC_draw (X := fun k => k ∈ ([] : List Nat) ∨ w16.z ≤ k) 0 (.rd 0 (.rd 1 (.rd 3 (.br 2 (.br 4 (.rd 5 (.rd 6 (.rd 7 (.rd 8 (.ef 9 (.ef 10 (.rd 11 (.rd 12 .done)))))))) 9 (.ef 4 (.rd 5 (.rd 6 (.rd 7 (.rd 8 (.ef 10 (.rd 11 (.rd 12 .done))))))))) 9 (.ef 2 (.ef 4 (.rd 5 (.rd 6 (.rd 7 (.rd 8 (.ef 10 (.rd 11 (.rd 12 .done))))))))))))) mo (by kernel_rfl) fun w2j s10 _ => ?_
  have h2k := (h1v.ext h11).ext s10
  refine dR z z (lN (vs := [sl A0 N0 C0]) g_30 z_30 z z (notNew nm0 (Nat.lt_of_lt_of_le h1v.lt h11.size)) (h2k.row 0 1 z)) (dR z z (lN (vs := [sl A0 N0 C0]) g_30 z_30 z z (notNew nm0 (Nat.lt_of_lt_of_le h1v.lt h11.size)) (h2k.row 0 1 z)) (dR z z (mv z) (PR_br ?_ ?_)))
  ·have h1y := ((p1_0.ext h12).ext h11).ext s10
   have h1z := lt_ (lt_ h12.size h11.size) s10.size
   obtain ⟨r5o, e3z, hm2l⟩ := bdS hu2i
   refine dE z z (fc call80 z (W_w0i (B := B) e3z (lt_ hBw h1z) h1y)) (.inr fun _ _ h => chgB (h.1)) ?_
   rintro _ w2m ⟨s13, rfl, h2n⟩
   refine PR_br ?_ ?_
   ·obtain ⟨r1p, r40, r41, e42, hm43⟩ := bd3S hm2l
    refine dE z z (fc call79 z (W_w0l (B := B) e42 (lt_ hBw (lt_ h1z s13.size)) (h1y.ext s13) h2n ((((p2_0.ext h12).ext h11).ext s10).ext s13) (ii z))) (.inr fun _ _ h => chgB (h.1)) ?_
    rintro _ w2o ⟨s2p, a2q, n2r, c2s, S44, a2t, n2u, c2v, S45, rfl, h46, h2w, h2x, h47, h48, h20, h2y⟩
    refine dR z z (mv z) ?_
    iterate 3 refine dR z z (ext_ z z) ?_
    refine dE z z (fa zero_52) (.inr fun _ _ h => chgB (h.2.below)) ?_
    rintro _ w49 ⟨rfl, h2z⟩
    have h21 := h2z.below
    have h4a : Blk w49 w2o.z [vI 0, sl none 0 0, sl none 0 0] := h2z.blk
    have h22 := lt_ s10.size s13.size
    have h23 := mem1le (lt_ h22 s2p.size)
    refine dE0 z (fs (cur' := [vI r1p.number, sl a2q n2r c2s, sl a2t n2u c2v]) z_52 z z h4a z (lb z) (oA z) z) (.inr fun _ _ h => chgNew (atp h23) h.2) ?_
    rintro _ w5p ⟨h4b, s4c⟩
    have h24 := s4c.one
    refine dR z z (asg z) (dR z z (asg z) (PR_done ?_))
    have h30 := mnr (ownS.lt h2w)
    have h31 := mnr (ownS.lt h2x)
    exact fun _ q => ⟨r1p.number, r1p.bytes, r1p.items, r40, r41, som hm43, a2q, n2r, c2s, S44, a2t, n2u, c2v, S45, w2o.z, (q.k (s5 z z z z z)), (bM (bup (bup (bup s10 s13) s2p) h21) h24 h23), h46, ((h2w.ext h21).chg h24 (dj_symm h30)), (nd_left h20), (o0le (all_left h2y) h22), ((h2x.ext h21).chg h24 (dj_symm h31)), (nd_right h20), (o0le (all_right h2y) h22), (dj_symm (nd_dj h20)), h47, h48, h4b, (atp h23), (dj_symm h30), (dj_symm h31)⟩
   refine dE z z (fa zero_52) (.inr fun _ _ h => chgB (h.2.below)) ?_
   rintro _ w4d ⟨rfl, h32⟩
   have h1k := h32.below
   have h25 : Blk w4d w2m.z [vI 0, sl none 0 0, sl none 0 0] := h32.blk
   obtain ⟨r1q, r4e, r4f, e4g, hm4h⟩ := bd3S hm2l
   refine dE z z (fc call79 z (W_w0l (B := B) e4g (lt_ hBw (lt_ (lt_ h1z s13.size) h1k.size)) ((h1y.ext s13).ext h1k) h2n (((((p2_0.ext h12).ext h11).ext s10).ext s13).ext h1k) (ii z))) (.inr fun _ _ h => chgB (h.1)) ?_
   rintro _ w5q ⟨s33, a34, n35, c36, S4i, a37, n38, c39, S4j, rfl, h4k, h4l, h4m, h4n, h4o, h26, h1r⟩
   refine dR z z (mv z) ?_
   iterate 3 refine dR z z (ext_ z z) ?_
   have h3a := lt_ s10.size s13.size
   have h27 := mem1le h3a
   refine dE0 z (fs (cur' := [vI r1q.number, sl a34 n35 c36, sl a37 n38 c39]) z_52 z z (h25.ext s33) z (lb z) (oA z) z) (.inr fun _ _ h => chgNew (atp h27) h.2) ?_
   rintro _ w5r ⟨h4p, s4q⟩
   have h28 := s4q.one
   refine dR z z (asg z) (dR z z (asg z) (PR_done ?_))
   have h3b := o0n1 (all_left h1r) h25.lt lr
   have h3c := lt_ h3a h1k.size
   have h3d := o0n1 (all_right h1r) h25.lt lr
   exact fun _ q => ⟨r1q.number, r1q.bytes, r1q.items, r4e, r4f, som hm4h, a34, n35, c36, S4i, a37, n38, c39, S4j, w2m.z, (q.k (s5 z z z z z)), (bM (bup (bup (bup s10 s13) h1k) s33) h28 h27), h4k, (h4l.chg h28 h3b), (nd_left h26), (o0le (all_left h1r) h3c), (h4m.chg h28 h3d), (nd_right h26), (o0le (all_right h1r) h3c), (dj_symm (nd_dj h26)), h4n, h4o, h4p, (atp h27), h3b, h3d⟩
  refine dE z z (fa zero_52) (.inr fun _ _ h => chgB (h.2.below)) ?_
  rintro _ w4r ⟨rfl, h3e⟩
  have h1l := h3e.below
  have h29 : Blk w4r w2j.z [vI 0, sl none 0 0, sl none 0 0] := h3e.blk
  have h3f := (((p1_0.ext h12).ext h11).ext s10).ext h1l
  have h3g := lt_ (lt_ (lt_ h12.size h11.size) s10.size) h1l.size
  obtain ⟨r5s, e4s, hm4t⟩ := bdS hu2i
  refine dE z z (fc call80 z (W_w0i (B := B) e4s (lt_ hBw h3g) h3f)) (.inr fun _ _ h => chgB (h.1)) ?_
  rintro _ w5t ⟨s15, rfl, h4u⟩
  obtain ⟨r1s, r4v, r4w, e4x, hm4y⟩ := bd3S hm4t
  refine dE z z (fc call79 z (W_w0l (B := B) e4x (lt_ hBw (lt_ h3g s15.size)) (h3f.ext s15) h4u (((((p2_0.ext h12).ext h11).ext s10).ext h1l).ext s15) (ii z))) (.inr fun _ _ h => chgB (h.1)) ?_
  rintro _ w5u ⟨s3h, a3i, n3j, c3k, S4z, a3l, n3m, c3n, S50, rfl, h51, h52, h53, h54, h55, h2a, h1t⟩
  refine dR z z (mv z) ?_
  iterate 3 refine dR z z (ext_ z z) ?_
  have h2b := mem1le s10.size
  refine dE0 z (fs (cur' := [vI r1s.number, sl a3i n3j c3k, sl a3l n3m c3n]) z_52 z z ((h29.ext s15).ext s3h) z (lb z) (oA z) z) (.inr fun _ _ h => chgNew (atp h2b) h.2) ?_
  rintro _ w5v ⟨h56, s57⟩
  have h2c := s57.one
  refine dR z z (asg z) (dR z z (asg z) (PR_done ?_))
  have h3o := o0n1 (all_left h1t) h29.lt s15.size
  have h3p := lt_ (lt_ s10.size h1l.size) s15.size
  have h3q := o0n1 (all_right h1t) h29.lt s15.size
  exact fun _ q => ⟨r1s.number, r1s.bytes, r1s.items, r4v, r4w, som hm4y, a3i, n3j, c3k, S4z, a3l, n3m, c3n, S50, w2j.z, (q.k (s5 z z z z z)), (bM (bup (bup (bup s10 h1l) s15) s3h) h2c h2b), h51, (h52.chg h2c h3o), (nd_left h2a), (o0le (all_left h1t) h3p), (h53.chg h2c h3q), (nd_right h2a), (o0le (all_right h1t) h3p), (dj_symm (nd_dj h2a)), h54, h55, h56, (atp h2b), h3o, h3q⟩
 rintro a58 w1u ⟨x1b, x1w, x1x, x1c, x1d, rfl, a1e, n1f, c1g, S17, a1h, n1i, c1j, S18, g19, hS5w, s1m, h59, h5a, h5b, h3r, h5c, h5d, h3s, h5e, h3t, h5f, h5g, h5x, h5y, h5z⟩
 have hm5h := un5S hm3y
 revert a58
 refine Wo (Wq (Wq ?_))
 obtain ⟨u5i, hu3u, hm3v⟩ := bdS hm5h
 refine WC_cut (fun a w => ∃ (x2d : Bool), x2d = u5i ∧ Sat 32 [(4, pt w1n.z), (7, pt g19), (8, vI x1c), (9, vI x1d), (26, vB x2d)] a ∧ Below w1u.z w1u w) ?_ ?_
 ·refine Wg (Rm z (R z (eql z z) (Rm z ?_)))
  rcases bs (x1d == 0) with hc14 | hc14
  ·exact Rh z hc14 (mv z) (Rh z hc14 (mv z) (Rh z hc14 (lnR d_25 z (((p2_0.ext h12).ext h11).ext s1m)) (Rh z hc14 (lss z z) (R z (pT z hc14 z) (Wl (fun _ q => ⟨decide (x1c < (x2.length : Int)), som (ifT hu3u hc14), (q.k (s5 z z z z z)), (br w1u)⟩))))))
  iterate 4 refine Nh z hc14 ?_
  exact R z (pF z hc14 z) (Wl (fun _ q => ⟨false, som (ifF hu3u hc14), (q.k (s5 z z z z z)), (br w1u)⟩))
 rintro a5j w60 ⟨x2d, rfl, hS61, s1a⟩
 revert a5j
 refine Wo (Wc z (fun hc2e => ?_) (fun hc2e => ?_))
 ·refine Ws (R z (bP (parts := []) (cs := [vI 0, sl none 0 0, sl none 0 0]) build_52 z z) (Rm z (E0 (fs (cur' := [vI 0, sl none 0 0, sl none 0 0]) z_52 z z ((h1o.ext s1m).ext s1a) z (lb z) (oA z) z) ?_)))
  rintro _ w62 ⟨h5k, s5l⟩
  refine Ra z (Ra z (Wn ?_))
  obtain rfl := som (ifT hm3v hc2e)
  exact Wr (ret3 hr (resC g_52 z_52 z h5k z) z z ⟨(bM (bup (bup (bup h12 h11) s1m) s1a) s5l.one (mem1le h12.size)), none, 0, 0, [], none, 0, 0, [], z, (ii z), onL, onL, h3t, (ii z), nd0, al0⟩)
 refine Wk (Ws (R z (lN (vs := [vI x1b, sl a1e n1f c1g, sl a1h n1i c1j]) g_52 z_52 z z fid ((h5g.ext s1a).row 0 3 z)) (Rm z (Rm z (E0 (fs (cur' := [vI x1b, sl a1e n1f c1g, sl a1h n1i c1j]) z_52 z z ((h1o.ext s1m).ext s1a) z (lb z) (oA z) z) ?_)))))
 rintro _ w63 ⟨h5m, s5n⟩
 have h2f := s5n.one
 refine Ra z (Ra z (Wn ?_))
 obtain rfl := som (ifF hm3v hc2e)
 have h3w := lt_ h12.size h11.size
 exact Wr (ret3 hr (resC g_52 z_52 z h5m z) z z ⟨(bM (bup (bup (bup h12 h11) s1m) s1a) h2f (mem1le h12.size)), a1e, n1f, c1g, S17, a1h, n1i, c1j, S18, z, h59, ((h5a.ext s1a).chg h2f (o0n1 h3r h1o.lt lr)), ((h5c.ext s1a).chg h2f (o0n1 h3s h1o.lt lr)), h3t, h5f, (nd_app h5b h5d (dj_symm h5e)), (all_app (o0le h3r h3w) (o0le h3s h3w))⟩)
theorem W_w26 {x1 : Desc} {x2 : List UInt8} {res : Bool} (hm : M_spec_IsFileOf n x1 x2 = some res) (hBw : B ≤ w0.z) (p1_0 : repS w0 B (sl A0 N0 C0) x1.rules) (p2_0 : repS w0 B (sl A5 N5 C5) x2) : CallsR prog 51 [(.agg #[sl A0 N0 C0]), sl A5 N5 C5] w0 (Q7 w0 B res) := by
 unfold M_spec_IsFileOf at hm
 refine goF func51 z z (lb z) fun fn hr => Ws (E z (fb z) ?_)
 rintro _ w14 ⟨rfl, h11⟩
 have h10 := h11.below
 have h15 : Blk w14 w0.z [sl A0 N0 C0] := h11.blk
 refine Ra z (Wn (Ws (R z (lN (vs := [sl A0 N0 C0]) g_30 z_30 z z fid (h15.row 0 1 z)) (Rm z ?_))))
 obtain ⟨r16, r1j, r1k, e17, hm18⟩ := bd3S hm
 refine E z (fc call30 z (W_w25 (B := B) e17 (lt_ hBw h10.size) (p1_0.ext h10) (p2_0.ext h10))) ?_
 rintro _ w19 ⟨s12, a1a, n1b, c1c, S1l, a1d, n1e, c1f, S1m, rfl, h1n, h1o, h1p, h1q, h1r, h1s, h1t⟩
 refine Rm z ?_
 iterate 3 refine R z (ext_ z z) ?_
 refine E z (fa zero_52) ?_
 rintro _ w1g ⟨rfl, h13⟩
 have h1h : Blk w1g w19.z [vI 0, sl none 0 0, sl none 0 0] := h13.blk
 refine E0 (fs (cur' := [vI r16.number, sl a1a n1b c1c, sl a1d n1e c1f]) z_52 z z h1h z (lb z) (oA z) z) ?_
 rintro _ w1u ⟨h1v, s1i⟩
 refine Ra z (Ra z (Wn (Ws (Rm z (R z (eql z z) (Ra z (Wn ?_)))))))
 obtain rfl := som hm18
 exact Wr (ret1 hr z ⟨(bM (bup (bup h10 s12) h13.below) s1i.one (mem1le (lt_ h10.size s12.size))), z⟩)
def Q11 (w0 : World) (B : Nat) (r : Str) (v : Value) (w' : World) : Prop := Bw w0 w' ∧ (fun r1 => (Str.v r1) = v ∧ r1.b.length ≤ LEN) r
theorem W_w0m {x1 : Int} {res : Str} (hm : M_spec_FormatInt n x1 = some res) (hBw : B ≤ w0.z) (p1_0 : inI x1) : CallsR prog 164 [vI x1] w0 (Q11 w0 B res) := by
 unfold M_spec_FormatInt at hm
 refine goF func164 z z (lb z) fun fn hr => Ws (Ra z (Wn (Wq (Ws (Rm z (R z (eql z z) (Wn (Wc z (fun hc14 => ?_) (fun hc14 => ?_)))))))))
 ·refine Ws (Ra z (Wn ?_))
  obtain rfl := som (ifT hm hc14)
  exact Wr (ret1 hr z ⟨(br w0), z, (lb z)⟩)
 refine Wk (Ws (Ra z (Wn (Wq (Ws (Rm z (Ra z (Wn ?_))))))))
 obtain ⟨u1z, hu1j, hm1b⟩ := bdS (ifF hm hc14)
 refine WC_iter (σ := Str × Int) (ρ := Str) (fun s a w => un2 (fun x11 x10 => Sat 31 [(0, vI x1), (3, Str.v x11), (4, vI x10)] a ∧ Below w0.z w0 w ∧ x11.b.length ≤ LEN ∧ inI x10) s) (fun s a w => un2 (fun x11 x10 => Sat 31 [(0, vI x1), (3, Str.v x11)] a ∧ Below w0.z w0 w ∧ x11.b.length ≤ LEN ∧ inI x10) s) (fun r ex a w => ex = .ret ∧ RetPost prog fn (Q11 w0 B r) a w) hu1j ?_ ?_ ?_ ?_
 ·exact fun _ q => ⟨(q.k (s3 z z z)), (br w0), (lb z), p1_0⟩
 ·rintro ⟨x11, x10⟩ a20 w13 o21 ⟨hS1k, s1c, h15, h16⟩ hm1l
  have hm1d := un2S hm1l
  refine Wu ?_ hS1k
  refine Wq (Ws (Rm z (R z (nq z z) (Wn (Wc z (fun hc17 => ?_) (fun hc17 => ?_))))))
  ·refine Wk (Wq (WC_block (Ws (Rm z (R z (rd_rem z z (by decide)) (Ra z (Wn (Wq (Ws (Rm z (R z (lss z z) (Wn ?_))))))))))))
   obtain ⟨u1m, hu1e, hm1n⟩ := bdS (ifT hm1d hc17)
   refine WC_cut (fun a w => ∃ (x12 : Int), x12 = u1m ∧ Sat 31 [(0, vI x1), (3, Str.v x11), (4, vI x10), (5, vI x12)] a ∧ Below w13.z w13 w ∧ inI x12) ?_ ?_
   ·refine Wc z (fun hc18 => ?_) (fun hc18 => ?_)
    ·exact Wg (Rm z (R z (rd_neg z) (Ra z (Wl (fun _ q => ⟨ineg (irem x10 10), som (ifT hu1e hc18), (q.k (s4 z z z z)), (br w13), (inI_neg _)⟩)))))
    exact WC_skip (fun _ q => ⟨irem x10 10, som (ifF hu1e hc18), (q.k (s4 z z z z)), (br w13), (inI_rem h16)⟩)
   rintro a1o w1p ⟨x12, rfl, hS22, s1q, h23⟩
   revert a1o
   refine Wo (Wg (Rm z (R z (add_ z z) (R z (rd_convU d_3 d_5 z) (E z (ef_buildSlice [(.tmp 21)] el_25 z z z (szAll z) (lb z) (lb z)) ?_)))))
   rintro _ w1r ⟨rfl, h19⟩
   have h24 : Blk w1r w1p.z [(vU (byteI (mkB (iadd 48 x12))))] := h19.blk
   refine R z (rd_convST d_25 d_9 d_5 z_5 z (ownS.rep (ownS_new1 h19 UInt8_own))) (Rm z ?_)
   obtain ⟨x1s, e1f, hm1t⟩ := bdS hm1n
   exact R z (rd_catC z z e1f) (Ra z (Wn (Wg (Rm z (R z (rd_quo z z (by decide)) (Ra z (Wl (fun _ q => ⟨(x1s, iquo x10 10), (som hm1t).symm, ⟨(q.k (s3 z z z)), (bup (bup s1c s1q) h19.below), (cat_len e1f), (inI_quo _ _)⟩⟩))))))))
  exact WC_exit (fun a' ha' => QO_brk (som (ifF hm1d hc17)).symm ⟨(Sat.weaken ha' (s2 z z)), s1c, h15, h16⟩)
 ·rintro ⟨x11, x10⟩ a1u w25 rfl ⟨hS26, s1g, h15, h16⟩
  have hm1v := elL hm1b
  have hm1h := un2S hm1v
  revert a1u
  refine Wo (Wq (Ws (Rm z (R z (lss z z) (Wn (Wc z (fun hc1a => ?_) (fun hc1a => ?_)))))))
  ·refine Ws (Rm z ?_)
   obtain ⟨x27, e1i, hm1w⟩ := bdS (ifT hm1h hc1a)
   refine R z (rd_catC z z e1i) (Ra z (Wn ?_))
   obtain rfl := som hm1w
   exact Wr (ret1 hr z ⟨s1g, z, (cat_len e1i)⟩)
  refine Wk (Ws (Rm z (Ra z (Wn ?_))))
  obtain rfl := som (ifF hm1h hc1a)
  exact Wr (ret1 hr z ⟨s1g, z, h15⟩)
 rintro r28 ex29 a2a w2b rfl ⟨rfl, hq1x⟩
 have hm1y := elR hm1b
 obtain rfl := som hm1y
 exact ⟨hq1x, z⟩
theorem W_w27 {x1 : Rule} {x2 : Int} {res : Str} (hm : M_spec_l18Step n x1 x2 = some res) (hBw : B ≤ w0.z) (p1_0 : x1.name.b.length ≤ LEN) (p1_1 : inI x1.kind) (p1_2 : inI x1.size) (p1_4 : repS w0 B (sl A9 N9 C9) x1.bytes) (p1_5 : repS w0 B (sl A8 N8 C8) x1.names) (p1_6 : repS w0 B (sl AA NA CA) x1.tags) (p1_7 : repS w0 B (sl AB NB CB) x1.kids) (p2_0 : inI x2) : CallsR prog 129 [(.agg #[Str.v x1.name, vI x1.kind, vI x1.size, vB x1.little, sl A9 N9 C9, sl A8 N8 C8, sl AA NA CA, sl AB NB CB]), vI x2] w0 (Q11 w0 B res) := by
 unfold M_spec_l18Step at hm
 refine goF func129 z z (lb z) fun fn hr => Ws (E z (fb z) ?_)
 rintro _ w18 ⟨rfl, h1m⟩
 have h12 := h1m.below
 have h16 : Blk w18 w0.z (vR x1 A9 N9 C9 A8 N8 C8 AA NA CA AB NB CB) := h1m.blk
 refine Ra z (Wn (Wq (WC_block (Ws (R z (fd f_80_1 z) (R z (l1 g_3 z fid (h16.at z)) (R z (eql z z) (Ra z (Wn (Wc z (fun hc1d => ?_) (fun hc1d => ?_)))))))))))
 ·refine Ws (Rm z ?_)
  obtain ⟨r2d, e1w, hm1x⟩ := bdS (ifT hm hc1d)
  refine E z (fc call164 z (W_w0m (B := B) e1w (lt_ hBw h12.size) p2_0)) ?_
  rintro _ w2e ⟨s1y, rfl, h1z⟩
  refine Ra z (Wn ?_)
  obtain rfl := som hm1x
  exact Wr (rtO (ret1 hr z ⟨(bup h12 s1y), z, h1z⟩))
 refine Wq ?_
 obtain ⟨u20, hu1n, hm1o⟩ := bdS (ifF hm hc1d)
 refine WC_cut (fun a w => ∃ (x1e : Bool), x1e = u20 ∧ Sat 51 [(1, vI x2), (2, pt w0.z), (11, vB x1e)] a ∧ Below w18.z w18 w) ?_ ?_
 ·refine Wg (R z (fd f_80_1 z) (R z (l1 g_3 z fid (h16.at z)) (R z (eql z z) (Rm z ?_))))
  rcases bs (x1.kind == 6) with hc10 | hc10
  ·exact Rh z hc10 (mv z) (Rh z hc10 (fd f_80_5 z) (Rh z hc10 (l1 g_77 z fid (h16.at z)) (Rh z hc10 (lnR d_77 z (p1_5.ext h12)) (Rh z hc10 (lss z z) (R z (pT z hc10 z) (Ra z (Wl (fun _ q => ⟨decide (x2 < (x1.names.length : Int)), som (ifT hu1n hc10), (q.k (s3 z z z)), (br w18)⟩))))))))
  iterate 5 refine Nh z hc10 ?_
  exact R z (pF z hc10 z) (Ra z (Wl (fun _ q => ⟨false, som (ifF hu1n hc10), (q.k (s3 z z z)), (br w18)⟩)))
 rintro a21 w19 ⟨x1e, rfl, hS2f, s11⟩
 revert a21
 refine Wo (Wc z (fun hc1f => ?_) (fun hc1f => ?_))
 ·refine Ws (R z (fd f_80_5 z) (R z (l1 g_77 z fid ((h16.ext s11).at z)) (Rm z ?_)))
  obtain ⟨x2g, e22, hm23⟩ := bdS (ifT hm1o hc1f)
  refine RX z (at_ (α := Str) d_77 z_9 z z z ((p1_5.ext h12).ext s11) e22) ?_
  rintro _ ⟨b2h, o2i, cs2j, rfl, h24, h25, h2k⟩
  obtain ⟨rfl, h26⟩ := Str_open h25
  refine R z (l1 g_9 z fid (h24.at0 z)) (Ra z (Wn ?_))
  obtain rfl := som hm23
  exact Wr (rtO (ret1 hr z ⟨(bup h12 s11), z, h26⟩))
 refine Wq ?_
 obtain ⟨u27, hu1p, hm1q⟩ := bdS (ifF hm1o hc1f)
 refine WC_cut (fun a w => ∃ (x1g : Bool), x1g = u27 ∧ Sat 51 [(1, vI x2), (2, pt w0.z), (27, vB x1g)] a ∧ Below w19.z w19 w) ?_ ?_
 ·refine Wg (R z (fd f_80_1 z) (R z (l1 g_3 z fid ((h16.ext s11).at z)) (R z (eql z z) (Rm z ?_))))
  rcases bs (x1.kind == 7) with hc13 | hc13
  ·exact Rh z hc13 (mv z) (Rh z hc13 (eql z z) (R z (pT z hc13 z) (Ra z (Wl (fun _ q => ⟨x2 == 0, som (ifT hu1p hc13), (q.k (s3 z z z)), (br w19)⟩)))))
  exact Nh z hc13 (Nh z hc13 (R z (pF z hc13 z) (Ra z (Wl (fun _ q => ⟨false, som (ifF hu1p hc13), (q.k (s3 z z z)), (br w19)⟩)))))
 rintro a28 w1a ⟨x1g, rfl, hS2l, s17⟩
 revert a28
 refine Wo (Wc z (fun hc1h => ?_) (fun hc1h => ?_))
 ·refine Ws (Ra z (Wn ?_))
  obtain rfl := som (ifT hm1q hc1h)
  exact Wr (rtO (ret1 hr z ⟨(bup (bup h12 s11) s17), z, (lb z)⟩))
 refine Wq ?_
 obtain ⟨u29, hu1r, hm1s⟩ := bdS (ifF hm1q hc1h)
 refine WC_cut (fun a w => ∃ (x1i : Bool), x1i = u29 ∧ Sat 51 [(1, vI x2), (2, pt w0.z), (35, vB x1i)] a ∧ Below w1a.z w1a w) ?_ ?_
 ·refine Wg (R z (fd f_80_1 z) (R z (l1 g_3 z fid (((h16.ext s11).ext s17).at z)) (R z (eql z z) (Rm z ?_))))
  rcases bs (x1.kind == 8) with hc14 | hc14
  ·exact Rh z hc14 (mv z) (Rh z hc14 (eql z z) (R z (pT z hc14 z) (Ra z (Wl (fun _ q => ⟨x2 == 0, som (ifT hu1r hc14), (q.k (s3 z z z)), (br w1a)⟩)))))
  exact Nh z hc14 (Nh z hc14 (R z (pF z hc14 z) (Ra z (Wl (fun _ q => ⟨false, som (ifF hu1r hc14), (q.k (s3 z z z)), (br w1a)⟩)))))
 rintro a2a w1b ⟨x1i, rfl, hS2m, s1c⟩
 revert a2a
 refine Wo (Wc z (fun hc1j => ?_) (fun hc1j => ?_))
 ·refine Ws (Ra z (Wn ?_))
  obtain rfl := som (ifT hm1s hc1j)
  exact Wr (rtO (ret1 hr z ⟨(bup (bup (bup h12 s11) s17) s1c), z, (lb z)⟩))
 refine Wq ?_
 obtain ⟨u2b, hu1t, hm1u⟩ := bdS (ifF hm1s hc1j)
 refine WC_cut (fun a w => ∃ (x1k : Bool), x1k = u2b ∧ Sat 51 [(43, vB x1k)] a ∧ Below w1b.z w1b w) ?_ ?_
 ·refine Wg (R z (fd f_80_1 z) (R z (l1 g_3 z fid ((((h16.ext s11).ext s17).ext s1c).at z)) (R z (eql z z) (Rm z ?_))))
  rcases bs (x1.kind == 9) with hc15 | hc15
  ·exact Rh z hc15 (mv z) (Rh z hc15 (eql z z) (R z (pT z hc15 z) (Ra z (Wl (fun _ q => ⟨x2 == 0, som (ifT hu1t hc15), (q.k (s1 z)), (br w1b)⟩)))))
  exact Nh z hc15 (Nh z hc15 (R z (pF z hc15 z) (Ra z (Wl (fun _ q => ⟨false, som (ifF hu1t hc15), (q.k (s1 z)), (br w1b)⟩)))))
 rintro a2c w2n ⟨x1k, rfl, hS2o, s1v⟩
 revert a2c
 refine Wo (Wc z (fun hc1l => ?_) (fun hc1l => ?_))
 ·refine Ws (Ra z (Wn ?_))
  obtain rfl := som (ifT hm1u hc1l)
  exact Wr (rtO (ret1 hr z ⟨(bup (bup (bup (bup h12 s11) s17) s1c) s1v), z, (lb z)⟩))
 refine Wk (Ws (Ra z (Wn ?_)))
 obtain rfl := som (ifF hm1u hc1l)
 exact Wr (ret1 hr z ⟨(bup (bup (bup (bup h12 s11) s17) s1c) s1v), z, (lb z)⟩)
def Q12 (w0 : World) (B : Nat) (r : (List Entry) × Int) (v : Value) (w' : World) : Prop := Bw w0 w' ∧ un2 (fun r1 r2 => ∃ a1 n1 c1 S1, v = .tuple #[sl a1 n1 c1, vI r2] ∧ ownS w' S1 (sl a1 n1 c1) r1 ∧ inI r2 ∧ S1.Nodup ∧ (∀ k ∈ S1, w0.z ≤ k)) r
structure S_spec_l19Build (f : Desc → Int → (List UInt8) → Int → Str → Option ((List Entry) × Int)) : Prop where
  run : ∀ {B N0 C0 N7 C7 : Nat} {A0 A7 : Option Addr} {x1 : Desc} {x2 : Int} {x3 : List UInt8} {x4 : Int} {x5 : Str} {res : (List Entry) × Int} {w0 : World} (hm : f x1 x2 x3 x4 x5 = some res) (hBw : B ≤ w0.z) (p1_0 : repS w0 B (sl A0 N0 C0) x1.rules) (p2_0 : inI x2) (p3_0 : repS w0 B (sl A7 N7 C7) x3) (p4_0 : inI x4) (p5_0 : x5.b.length ≤ LEN), CallsR prog 91 [(.agg #[sl A0 N0 C0]), vI x2, sl A7 N7 C7, vI x4, Str.v x5] w0 (Q12 w0 B res)
abbrev I_spec_l19Build (n : Nat) : Prop := S_spec_l19Build (F_spec_l19Build n).spec_l19Build
theorem T_w08 (ih0 : I_spec_l19Build n) : S_spec_l19Build (B_spec_l19Build n (F_spec_l19Build n)) := by
 constructor
 intro B N0 C0 N7 C7 A0 A7 x1 x2 x3 x4 x5 res w0 hm hBw p1_0 p2_0 p3_0 p4_0 p5_0
 unfold B_spec_l19Build at hm
 refine goF func91 z z (lb z) fun fn hr => Ws (E z (fb z) ?_)
 rintro _ w1l ⟨rfl, h2w⟩
 have h1p := h2w.below
 have h1q : Blk w1l w0.z [sl A0 N0 C0] := h2w.blk
 refine Ra z (Ra z (Wn (Ws (R z (fd f_30_0 z) (R z (l1 g_28 z fid (h1q.at z)) (Rm z ?_))))))
 obtain ⟨x15, e3u, hm3v⟩ := bdS hm
 have h2x := p1_0.ext h1p
 refine RX z (at_ (α := Rule) d_28 z_80 z z z h2x e3u) ?_
 rintro _ ⟨b6g, o6h, cs6i, rfl, h3w, h3x, h6j⟩
 obtain ⟨a21, n22, c23, a24, n25, c26, a27, n28, c29, a2a, n2b, c2c, rfl, h2y, h2z, h30, h3y, h3z, h40, h31⟩ := Rule_open h3x
 refine R z (lN (vs := (vR x15 a21 n22 c23 a24 n25 c26 a27 n28 c29 a2a n2b c2c)) g_80 z_80 z z fid h3w) (E z (fa zero_80) ?_)
 rintro _ w41 ⟨rfl, h32⟩
 have h1d := h32.below
 have h2h : Blk w41 w1l.z [(Str.v (⟨[]⟩ : Str)), vI 0, vI 0, vB false, sl none 0 0, sl none 0 0, sl none 0 0, sl none 0 0] := h32.blk
 refine E0 (fs (cur' := (vR x15 a21 n22 c23 a24 n25 c26 a27 n28 c29 a2a n2b c2c)) z_80 z z h2h z (lb z) (oA z) z) ?_
 rintro _ w6k ⟨h42, s43⟩
 have h1a := s43.one
 refine Wn (Ws ?_)
 have h2i := (h1q.ext h1d).chg h1a (djs (mmr h1q.lt))
 refine R z (lN (vs := [sl A0 N0 C0]) g_30 z_30 z z fid (h2i.row 0 1 z)) (Rm z (Rm z (Rm z ?_)))
 have h1m := mem1le (lt_ hBw h1p.size)
 have h2j := (h2x.ext h1d).chg h1a (lg h1m)
 have h2k := ((p3_0.ext h1p).ext h1d).chg h1a (lg h1m)
 have h2d := lt_ (lt_ h1p.size h1d.size) h1a.size
 obtain ⟨r33, r1i, r6l, e44, hm45⟩ := bd3S hm3v
 refine E z (fc call99 z (W_w02.run (B := B) e44 (lt_ hBw h2d) h2j p2_0 h2k p4_0)) ?_
 rintro _ w1n ⟨s16, a46, n47, c48, S6m, a49, n4a, c4b, S6n, rfl, h4c, h6o, h1h, h34, h6p, h6q, h6r⟩
 refine Rm z ?_
 iterate 3 refine R z (ext_ z z) ?_
 refine E z (fa zero_52) ?_
 rintro _ w4d ⟨rfl, h35⟩
 have h12 := h35.below
 have h2l : Blk w4d w1n.z [vI 0, sl none 0 0, sl none 0 0] := h35.blk
 refine E0 (fs (cur' := [vI r33.number, sl a46 n47 c48, sl a49 n4a c4b]) z_52 z z h2l z (lb z) (oA z) z) ?_
 rintro _ w11 ⟨h36, s4e⟩
 have h10 := s4e.one
 refine Ra z (Ra z (Wn (Ws (Rm z (Rm z (Rm z (Rm z (R z (bP (parts := [(0, (.tmp 38)), (1, (.tmp 39)), (2, (.tmp 40)), (3, (.tmp 41))]) (cs := [Str.v x5, vI x2, vI x4, vI r1i]) build_57 z z) (E z (ef_buildSlice [(.tmp 42)] el_36 z z z (szAll z) (lb z) (lb z)) ?_)))))))))
 rintro _ w1w ⟨rfl, h2m⟩
 have h14 := h2m.below
 have h6s : Blk w1w w11.z [Str.v x5, vI x2, vI x4, vI r1i] := h2m.blk
 refine Ra z (Wn (Ws (Rm z (Ra z (Wn (Wq (Ws (R z (fd f_80_1 z) ?_))))))))
 have h37 := lt_ h1a.size s16.size
 have h2n := (((h42.ext s16).ext h12).chg h10 (djs (mm1 h2h.lt h37))).ext h14
 refine R z (l1 g_3 z fid (h2n.at z)) (Wn (WC_block (Wq (Ws (R z (eql z z) (Ra z (Wn ?_)))))))
 obtain ⟨u4f, hu38, hm4g⟩ := bdS hm45
 refine WC_cut (fun a w => ∃ (x2o : Bool), x2o = u4f ∧ Sat 98 [(2, sl A7 N7 C7), (3, vI x4), (4, Str.v x5), (5, pt w0.z), (12, pt w1l.z), (13, pt w1n.z), (14, vI r1i), (16, sl (some ⟨w11.z, 0, none⟩) 1 1), (17, vI x4), (46, vI x15.kind), (47, vB x2o)] a ∧ Below w1w.z w1w w) ?_ ?_
 ·refine Wc z (fun hc2p => ?_) (fun hc2p => ?_)
  ·exact WC_skip (fun _ q => ⟨x15.kind == 5, som (ifT hu38 hc2p), (q.k (sc z (sc z (sc z (sc z (sc z (sc z (sc z (sc z (sc z (sc z (sc z sn)))))))))))), (br w1w)⟩)
  exact Wg (R z (eql z z) (Ra z (Wl (fun _ q => ⟨x15.kind == 7, som (ifF hu38 hc2p), (q.k (sc z (sc z (sc z (sc z (sc z (sc z (sc z (sc z (sc z (sc z (sc z sn)))))))))))), (br w1w)⟩))))
 rintro a4h w1r ⟨x2o, rfl, hS6t, s13⟩
 revert a4h
 refine Wo ?_
 obtain ⟨u4i, hu39, hm4j⟩ := bdS hm4g
 refine WC_cut (fun a w => ∃ (x2e : Int), x2e = u4i ∧ Sat 98 [(2, sl A7 N7 C7), (4, Str.v x5), (5, pt w0.z), (12, pt w1l.z), (13, pt w1n.z), (14, vI r1i), (16, sl (some ⟨w11.z, 0, none⟩) 1 1), (17, vI x2e)] a ∧ Below w1r.z w1r w ∧ inI x2e) ?_ ?_
 ·refine Wc z (fun hc2q => ?_) (fun hc2q => ?_)
  ·refine Wq (WC_draw (X := noX) 0 (.rd 0 (.rd 1 (.rd 2 (.rd 3 (.rd 4 (.rd 5 (.rd 6 (.ef 7 (.rd 8 (.rd 9 (.rd 10 (.rd 11 (.rd 12 (.rd 13 (.rd 14 .done))))))))))))))) mo (by kernel_rfl) fun w6u s1o _ => dR z z (lN (vs := [sl A0 N0 C0]) g_30 z_30 z z fid (((((((h2i.ext s16).ext h12).chg h10 (djs (mm1 h1q.lt (lt_ (lt_ h1d.size h1a.size) s16.size)))).ext h14).ext s13).ext s1o).row 0 1 z)) (dR z z (fd f_80_7 z) (dR z z (l1 g_78 z fid (((h2n.ext s13).ext s1o).at z)) ?_)))
   obtain ⟨x6v, e4k, hm4l⟩ := bdS (ifT hu39 hc2q)
   have h3a := lt_ h2d s16.size
   have h2r := mem1le (lt_ hBw h3a)
   refine dRX z z (at_ (α := Int) d_78 z_3 z z z ((((((((h31.ext h1d).chg h1a (lg h1m)).ext s16).ext h12).chg h10 (lg h2r)).ext h14).ext s13).ext s1o) e4k) ?_
   rintro _ ⟨b6w, o6x, cs6y, rfl, h4m, h4n, h6z⟩
   obtain ⟨rfl, h4o⟩ := Int_open h4n
   refine dR z z (l1 g_3 z fid (h4m.at0 z)) (dR z z (mv z) (dR z z (mv z) ?_))
   obtain ⟨r70, r4p, r71, e4q, hm4r⟩ := bd3S hm4l
   refine dE z z (fc call128 z (W_w0c (B := B) e4q (lt_ hBw (lt_ (lt_ (lt_ (lt_ (lt_ h3a h12.size) h10.size) h14.size) s13.size) s1o.size)) ((((((h2j.ext s16).ext h12).chg h10 (lg h2r)).ext h14).ext s13).ext s1o) h4o ((((((h2k.ext s16).ext h12).chg h10 (lg h2r)).ext h14).ext s13).ext s1o) p4_0)) (.inr fun _ _ h => chgB (h.1)) ?_
   rintro _ w72 ⟨s4s, rfl, h73, h4t⟩
   refine dR z z (mv z) ?_
   iterate 3 refine dR z z (ext_ z z) ?_
   iterate 3 refine dR z z (asg z) ?_
   exact PR_done (Wo (Wg (Rm z (Ra z (Wl (fun _ q => ⟨r4p, som hm4r, (q.k (s8 z z z z z z z z)), (bup s1o s4s), h4t⟩))))))
  refine Ws (R z (eql z z) (Ra z (Wn ?_)))
  obtain ⟨u4u, hu3b, hm4v⟩ := bdS (ifF hu39 hc2q)
  refine WC_cut (fun a w => ∃ (x1x : Int), x1x = u4u ∧ Sat 98 [(2, sl A7 N7 C7), (4, Str.v x5), (5, pt w0.z), (12, pt w1l.z), (13, pt w1n.z), (14, vI r1i), (16, sl (some ⟨w11.z, 0, none⟩) 1 1), (17, vI x1x)] a ∧ Below w1r.z w1r w ∧ inI x1x) ?_ ?_
  ·refine Wc z (fun hc2s => ?_) (fun hc2s => ?_)
   ·exact Wg (Rm z (R z (add_ z z) (Ra z (Wl (fun _ q => ⟨iadd x4 1, som (ifT hu3b hc2s), (q.k (s8 z z z z z z z z)), (br w1r), (iA _ _)⟩)))))
   exact WC_skip (fun _ q => ⟨x4, som (ifF hu3b hc2s), (q.k (s8 z z z z z z z z)), (br w1r), p4_0⟩)
  rintro a4w w74 ⟨x1x, rfl, hS75, s4x, h4y⟩
  revert a4w
  exact fun _ q => ⟨x1x, som hm4v, (q.k (s8 z z z z z z z z)), s4x, h4y⟩
 rintro a4z w17 ⟨x2e, rfl, hS76, s18, h50⟩
 revert a4z
 refine Wo (Wq (Ws (Ra z (Wn ?_))))
 obtain ⟨u77, hu51, hm3c⟩ := bdS hm4j
 refine WC_forN (σ := (List Entry) × Int) (ρ := (List Entry) × Int) (fun (k2t : Nat) s a w => un2 (fun x1s x1k => ∃ a1e n1f c1g S19, Sat 98 [(2, sl A7 N7 C7), (4, Str.v x5), (5, pt w0.z), (12, pt w1l.z), (13, pt w1n.z), (14, vI r1i), (16, sl a1e n1f c1g), (17, vI x1k), (21, (vI ((k2t : Nat) : Int)))] a ∧ Chg (· ∈ [w11.z]) w17 w ∧ ownS w S19 (sl a1e n1f c1g) x1s ∧ S19.Nodup ∧ (∀ k ∈ S19, k ∈ [w11.z] ∨ w17.z ≤ k) ∧ inI x1k) s) (fun s a w => un2 (fun x1s x1k => ∃ a1e n1f c1g S19, Sat 98 [(14, vI r1i), (16, sl a1e n1f c1g)] a ∧ Chg (· ∈ [w11.z]) w17 w ∧ ownS w S19 (sl a1e n1f c1g) x1s ∧ S19.Nodup ∧ (∀ k ∈ S19, k ∈ [w11.z] ∨ w17.z ≤ k) ∧ inI x1k) s) (fun r ex a w => ex = .ret ∧ RetPost prog fn (Q12 w0 B r) a w) hu51 ?_ ?_ ?_ ?_ ?_
 ·exact fun _ q => ⟨(some ⟨w11.z, 0, none⟩), 1, 1, [w11.z], (q.k (s9 z z z z z z z z z)), (cr [w11.z] w17), (((ownS_new1 h2m (Entry_mkO (x := (⟨x5, x2, x4, r1i⟩ : Entry))  p5_0 p2_0 p4_0 h34)).ext s13).ext s18), nd_one, (io sr), h50⟩
 ·rintro k2t ⟨x1s, x1k⟩ a78 w52 o79 hk2f ⟨a1e, n1f, c1g, S19, hS53, s1b, h1y, h1z, h20, h2g⟩ hm54
  have hm55 := un2S hm54
  refine Wu ?_ hS53
  refine Wq (Ws (Rm z (R z (fd f_52_2 z) ?_)))
  have h3d := (((h36.ext h14).ext s13).ext s18).chg s1b (djs (mm1 h2l.lt h10.size))
  refine R z (l1 g_50 z fid (h3d.at z)) (R z (lnR d_50 z (ownS_rep ((((((h1h.ext h12).chg h10 (dj_symm (mnr (ownS.lt h1h)))).ext h14).ext s13).ext s18).chg s1b (dj_symm (mno (ownS.lt h1h) (lt_ h12.size h10.size)))) (ownS.lt h1h))) (R z (lss z z) (Wn (Wc z (fun _ => ?_) (fun hc => (nolt hk2f hc).elim)))))
  refine Wk (Wq (WC_block (Wq (WC_draw (X := noX) 0 (.rd 0 (.rd 1 (.rd 2 (.rd 3 (.rd 4 (.rd 6 (.rd 7 (.rd 8 (.rd 9 (.rd 10 (.rd 11 (.ef 5 (.ef 12 (.rd 13 (.ef 14 (.rd 15 (.rd 16 (.rd 17 (.rd 18 (.rd 19 .done)))))))))))))))))))) mo (by kernel_rfl) fun w56 s1c _ => ?_))))
  have h3e := lt_ (lt_ h1d.size h1a.size) s16.size
  have h57 := ((((((h2i.ext s16).ext h12).chg h10 (djs (mm1 h1q.lt h3e))).ext h14).ext s13).ext s18).chg s1b (djs (mm1 h1q.lt (lt_ (lt_ h3e h12.size) h10.size)))
  refine dR z z (lN (vs := [sl A0 N0 C0]) g_30 z_30 z z fid ((h57.ext s1c).row 0 1 z)) ?_
  have h3f := (((h2n.ext s13).ext s18).chg s1b (djs (mm1 h2h.lt (lt_ (lt_ h37 h12.size) h10.size)))).ext s1c
  refine dR z z (lN (vs := (vR x15 a21 n22 c23 a24 n25 c26 a27 n28 c29 a2a n2b c2c)) g_80 z_80 z z fid (h3f.row 0 8 z)) (dR z z (fd f_52_0 z) (dR z z (l1 g_3 z fid ((h3d.ext s1c).at z)) ?_))
  iterate 4 refine dR z z (mv z) ?_
  obtain ⟨x7a, e58, hm59⟩ := bdS hm55
  refine dR z z (rd_catC z z e58) (dR z z (lN (vs := (vR x15 a21 n22 c23 a24 n25 c26 a27 n28 c29 a2a n2b c2c)) g_80 z_80 z z fid (h3f.row 0 8 z)) (dR z z (mv z) ?_))
  have h3g := lt_ h2d s16.size
  have h1t := mem1le (lt_ hBw h3g)
  have h3h := lt_ (lt_ h3g h12.size) h10.size
  have h1u := mem1le (lt_ hBw h3h)
  have h3i := (((((((((h3y.ext h1d).chg h1a (lg h1m)).ext s16).ext h12).chg h10 (lg h1t)).ext h14).ext s13).ext s18).chg s1b (lg h1u)).ext s1c
  have h3j := (((((((((h3z.ext h1d).chg h1a (lg h1m)).ext s16).ext h12).chg h10 (lg h1t)).ext h14).ext s13).ext s18).chg s1b (lg h1u)).ext s1c
  have h3k := (((((((((h40.ext h1d).chg h1a (lg h1m)).ext s16).ext h12).chg h10 (lg h1t)).ext h14).ext s13).ext s18).chg s1b (lg h1u)).ext s1c
  have h3l := (((((((((h31.ext h1d).chg h1a (lg h1m)).ext s16).ext h12).chg h10 (lg h1t)).ext h14).ext s13).ext s18).chg s1b (lg h1u)).ext s1c
  have h3m := lt_ (lt_ (lt_ (lt_ (lt_ h3h h14.size) s13.size) s18.size) s1b.size) s1c.size
  obtain ⟨r7b, e5a, hm5b⟩ := bdS hm59
  refine dE z z (fc call114 z (W_w0d (B := B) e5a (lt_ hBw h3m) h2y h2z h30 h3i h3j h3k h3l h4c (inI_cnt (Nat.le_of_lt hk2f) (lt_ (ownS.len h1h) LEN_le)))) (.inr fun _ _ h => chgB (h.1)) ?_
  rintro _ w5c ⟨s1j, rfl, h5d⟩
  have h3n := lt_ h3m s1j.size
  obtain ⟨r7c, e5e, hm5f⟩ := bdS hm5b
  refine dE z z (fc call129 z (W_w27 (B := B) e5e (lt_ hBw h3n) h2y h2z h30 (h3i.ext s1j) (h3j.ext s1j) (h3k.ext s1j) (h3l.ext s1j) (inI_cnt (Nat.le_of_lt hk2f) (lt_ (ownS.len h1h) LEN_le)))) (.inr fun _ _ h => chgB (h.1)) ?_
  rintro _ w5g ⟨s1v, rfl, h7d⟩
  obtain ⟨x7e, e3o, hm5h⟩ := bdS hm5f
  refine dR z z (rd_catC z z e3o) ?_
  obtain ⟨r7f, r5i, e5j, hm5k⟩ := bd2S hm5h
  refine dE z z (fc call91 z (ih0.run (B := B) e5j (lt_ hBw (lt_ h3n s1v.size)) ((((((((((h2j.ext s16).ext h12).chg h10 (lg h1t)).ext h14).ext s13).ext s18).chg s1b (lg h1u)).ext s1c).ext s1j).ext s1v) h5d ((((((((((h2k.ext s16).ext h12).chg h10 (lg h1t)).ext h14).ext s13).ext s18).chg s1b (lg h1u)).ext s1c).ext s1j).ext s1v) h2g (cat_len e3o))) (.inr fun _ _ h => chgB (h.1)) ?_
  rintro _ w5l ⟨s2u, a7g, n7h, c7i, S7j, rfl, h5m, h5n, h7k, h7l⟩
  refine dR z z (mv z) (dR z z (ext_ z z) (dR z z (ext_ z z) (dR z z (asg z) (dR z z (asg z) (PR_done (Wo (Ws (Rm z (Rm z ?_)))))))))
  obtain ⟨x5o, e5p, hm5q⟩ := bdS hm5k
  refine E z (ef_appendN (α := Entry) el_36 e5p z z ((((h1y.ext s1c).ext s1j).ext s1v).ext s2u) h1z (ownS.rep h5m)) ?_
  rintro _ w5r ⟨S3p, a5s, n5t, c5u, rfl, s5v, h5w, h5x, h5y⟩
  refine Ra z (Wn (Wg (Rm z (Ra z (Wn (Wg (Rm z (R z (inc_ hk2f (lt_ (ownS.len h1h) LEN_le) z z) (Ra z (Wl ?_))))))))))
  have h3q : ∀ k ∈ S19, k ∈ [w11.z] ∨ w17.z ≤ k := or1 h20 (io sr) (leor lr)
  have h5z : ∀ k ∈ S3p, k ∈ [w11.z] ∨ w17.z ≤ k := or1 h5y h3q (leor (lt_ (lt_ (lt_ (lt_ s1b.size s1c.size) s1j.size) s1v.size) s2u.size))
  have h60 : Chg (· ∈ [w11.z]) w17 w52 := cM (cr [w11.z] w17) s1b (io sr)
  have h61 : Chg (· ∈ [w11.z]) w17 w56 := cext h60 s1c
  have h62 : Chg (· ∈ [w11.z]) w17 w5c := cext h61 s1j
  have h63 : Chg (· ∈ [w11.z]) w17 w5g := cext h62 s1v
  have h64 : Chg (· ∈ [w11.z]) w17 w5l := cext h63 s2u
  have h65 : Chg (· ∈ [w11.z]) w17 w5r := cM h64 s5v h3q
  exact fun _ q => ⟨(x5o, r5i), (som hm5q).symm, ⟨a5s, n5t, c5u, S3p, (q.k (s9 z z z z z z z z z)), h65, h5w, h5x, h5z, h5n⟩⟩
 ·rintro ⟨x1s, x1k⟩ a7m w66 ⟨a1e, n1f, c1g, S19, hS67, s2v, h1y, h1z, h20, h2g⟩
  refine Wu ?_ hS67
  refine Wq (Ws (Rm z (R z (fd f_52_2 z) (R z (l1 g_50 z fid (((((h36.ext h14).ext s13).ext s18).chg s2v (djs (mm1 h2l.lt h10.size))).at z)) (R z (lnR d_50 z (ownS_rep ((((((h1h.ext h12).chg h10 (dj_symm (mnr (ownS.lt h1h)))).ext h14).ext s13).ext s18).chg s2v (dj_symm (mno (ownS.lt h1h) (lt_ h12.size h10.size)))) (ownS.lt h1h))) (R z (lss z z) (Wn (Wc z (fun hc => (noltt hc).elim) (fun _ => ?_)))))))))
  have h68 : ∀ k ∈ S19, k ∈ [w11.z] ∨ w17.z ≤ k := or1 h20 (io sr) (leor lr)
  have h69 : Chg (· ∈ [w11.z]) w17 w66 := cM (cr [w11.z] w17) s2v (io sr)
  exact WC_exit (fun a' ha' => ⟨rfl, ⟨a1e, n1f, c1g, S19, (Sat.weaken ha' (s2 z z)), h69, h1y, h1z, h68, h2g⟩⟩)
 ·rintro ⟨x1s, x1k⟩ a6a w7n rfl ⟨a1e, n1f, c1g, S19, hS7o, s6b, h1y, h1z, h20, h2g⟩
  have hm6c := elL hm3c
  have hm6d := un2S hm6c
  revert a6a
  refine Wo (Ws (Rm z (Rm z (Ra z (Ra z (Wn ?_))))))
  obtain rfl := som hm6d
  have h3r := lt_ h2d s16.size
  have h3s := lt_ (lt_ h3r h12.size) h10.size
  have h3t := mem1le h3s
  exact Wr (ret2 hr z z ⟨(bM (bup (bup (bup (bM (bup (bup (bM (bup h1p h1d) h1a (mem1le h1p.size)) s16) h12) h10 (mem1le h3r)) h14) s13) s18) s6b h3t), a1e, n1f, c1g, S19, z, h1y, h34, h1z, (o1le h20 h3t (lt_ (lt_ (lt_ h3s h14.size) s13.size) s18.size))⟩)
 rintro r7p ex7q a7r w7s rfl ⟨rfl, hq6e⟩
 have hm6f := elR hm3c
 obtain rfl := som hm6f
 exact ⟨hq6e, z⟩
theorem A_w08 : ∀ n, I_spec_l19Build n
  | 0 => ⟨fun hm => by intros; exact nomatch (show none = some _ from hm)⟩
  | n + 1 => T_w08 (A_w08 n)
theorem W_w08 : S_spec_l19Build (F_spec_l19Build n).spec_l19Build := A_w08 n

def Q13 (w0 : World) (B : Nat) (r : (List Entry) × Bool) (v : Value) (w' : World) : Prop := Bw w0 w' ∧ un2 (fun r1 r2 => ∃ a1 n1 c1 S1, v = .tuple #[sl a1 n1 c1, vB r2] ∧ ownS w' S1 (sl a1 n1 c1) r1 ∧ S1.Nodup ∧ (∀ k ∈ S1, w0.z ≤ k)) r
theorem W_w28 {x1 : Desc} {x2 : List UInt8} {res : (List Entry) × Bool} (hm : M_spec_BuildIndex n x1 x2 = some res) (hBw : B ≤ w0.z) (p1_0 : repS w0 B (sl A0 N0 C0) x1.rules) (p2_0 : repS w0 B (sl A5 N5 C5) x2) : CallsR prog 39 [(.agg #[sl A0 N0 C0]), sl A5 N5 C5] w0 (Q13 w0 B res) := by
 unfold M_spec_BuildIndex at hm
 refine goF func39 z z (lb z) fun fn hr => Ws (E z (fb z) ?_)
 rintro _ w1e ⟨rfl, h15⟩
 have h10 := h15.below
 have h16 : Blk w1e w0.z [sl A0 N0 C0] := h15.blk
 refine Ra z (Ra z (Wn (Wq (Ws (R z (lN (vs := [sl A0 N0 C0]) g_30 z_30 z z fid (h16.row 0 1 z)) (Rm z ?_))))))
 have h17 := p1_0.ext h10
 have h18 := p2_0.ext h10
 obtain ⟨r1z, e1f, hm19⟩ := bdS hm
 refine E z (fc call51 z (W_w26 (B := B) e1f (lt_ hBw h10.size) h17 h18)) ?_
 rintro _ w1g ⟨s11, rfl⟩
 refine R z (not_ z) (Wn (Wc z (fun hc14 => ?_) (fun hc14 => ?_)))
 ·refine Ws (E z (ef_lit0 (α := Entry) el_36) ?_)
  rintro _ w20 ⟨a1h, n1i, c1j, rfl, s1k, h1l⟩
  refine Ra z (Ra z (Wn ?_))
  obtain rfl := som (ifT hm19 hc14)
  exact Wr (ret2 hr z z ⟨(bup (bup h10 s11) s1k), a1h, n1i, c1j, [w1g.z], z, h1l, nd_one, (mem1le (lt_ h10.size s11.size))⟩)
 refine Wk (Wq (WC_draw (X := noX) 0 (.rd 0 (.rd 1 (.rd 3 (.ef 2 (.ef 4 (.rd 5 (.rd 6 (.rd 7 (.rd 8 (.rd 9 .done)))))))))) mo (by kernel_rfl) fun w21 s12 _ => ?_))
 have h1a := (h16.ext s11).ext s12
 refine dR z z (lN (vs := [sl A0 N0 C0]) g_30 z_30 z z fid (h1a.row 0 1 z)) (dR z z (lN (vs := [sl A0 N0 C0]) g_30 z_30 z z fid (h1a.row 0 1 z)) (dR z z (mv z) ?_))
 have h1b := (h17.ext s11).ext s12
 have h1c := lt_ (lt_ h10.size s11.size) s12.size
 obtain ⟨r22, e1m, hm1n⟩ := bdS (ifF hm19 hc14)
 refine dE z z (fc call80 z (W_w0i (B := B) e1m (lt_ hBw h1c) h1b)) (.inr fun _ _ h => chgB (h.1)) ?_
 rintro _ w23 ⟨s13, rfl, h1o⟩
 have h1d := lt_ h1c s13.size
 obtain ⟨r24, r25, e1p, hm1q⟩ := bd2S hm1n
 refine dE z z (fc call91 z (W_w08.run (B := B) e1p (lt_ hBw h1d) (h1b.ext s13) h1o (((h18.ext s11).ext s12).ext s13) (ii z) (lb z))) (.inr fun _ _ h => chgB (h.1)) ?_
 rintro _ w26 ⟨s1r, a1s, n1t, c1u, S1v, rfl, h1w, h27, h1x, h1y⟩
 refine dR z z (mv z) (dR z z (ext_ z z) (dR z z (ext_ z z) (dR z z (asg z) (dR z z (asg z) (PR_done (Wo (Ws (Rm z (Ra z (Ra z (Wn ?_)))))))))))
 obtain rfl := som hm1q
 exact Wr (ret2 hr z z ⟨(bup (bup (bup (bup h10 s11) s12) s13) s1r), a1s, n1t, c1u, S1v, z, h1w, h1x, (o0le h1y h1d)⟩)
theorem W_w12 {x1 : Str} {x2 : UInt8} {res : (List Str)} (hm : M_spec_SplitText n x1 x2 = some res) (hBw : B ≤ w0.z) (p1_0 : x1.b.length ≤ LEN) : CallsR prog 135 [Str.v x1, vU (byteI x2)] w0 (Q2 w0 B res) := by
 unfold M_spec_SplitText at hm
 refine goF func135 z z (lb z) fun fn hr => Ws (Ra z (Wn (Ws (E z (ef_lit0 (α := Str) el_77) ?_))))
 rintro _ w11 ⟨a23, n24, c25, rfl, s1t, h26⟩
 refine Ra z (Wn (Ws (Ra z (Wn (Wq (Ws (Ra z (Wn ?_))))))))
 obtain ⟨u3j, hu27, hm1u⟩ := bdS hm
 refine WC_iter (σ := (List Str) × Int × Int) (ρ := (List Str)) (fun s a w => un3 (fun x19 x17 x12 => ∃ a13 n14 c15 S10, Sat 36 [(0, Str.v x1), (1, vU (byteI x2)), (5, sl a13 n14 c15), (6, vI x17), (7, vI x12)] a ∧ Chg (· ∈ [w0.z]) w11 w ∧ ownS w S10 (sl a13 n14 c15) x19 ∧ S10.Nodup ∧ (∀ k ∈ S10, k ∈ [w0.z] ∨ w11.z ≤ k) ∧ inI x17 ∧ inI x12) s) (fun s a w => un3 (fun x19 x17 x12 => ∃ a13 n14 c15 S10, Sat 36 [(5, sl a13 n14 c15)] a ∧ Chg (· ∈ [w0.z]) w11 w ∧ ownS w S10 (sl a13 n14 c15) x19 ∧ S10.Nodup ∧ (∀ k ∈ S10, k ∈ [w0.z] ∨ w11.z ≤ k) ∧ inI x17 ∧ inI x12) s) (fun r ex a w => ex = .ret ∧ RetPost prog fn (Q2 w0 B r) a w) hu27 ?_ ?_ ?_ ?_
 ·exact fun _ q => ⟨a23, n24, c25, [w0.z], (q.k (s5 z z z z z)), (cr [w0.z] w11), h26, nd_one, (io sr), (ii z), (ii z)⟩
 ·rintro ⟨x19, x17, x12⟩ a3k w1a o3l ⟨a13, n14, c15, S10, hS28, s1l, h1c, h1d, h1f, h1m, h1v⟩ hm29
  have hm1w := un3S hm29
  refine Wu ?_ hS28
  refine Wq (Ws (Rm z (Rm z (R z (lnT d_9 z) (R z (rd_leq z z) (Wn (Wc z (fun hc1n => ?_) (fun hc1n => ?_))))))))
  ·refine Wk (Wq (WC_block (Wq ?_)))
   obtain ⟨u2a, hu1x, hm2b⟩ := bdS (ifT hm1w hc1n)
   refine WC_cut (fun a w => ∃ (x1o : Bool), x1o = u2a ∧ Sat 36 [(0, Str.v x1), (1, vU (byteI x2)), (5, sl a13 n14 c15), (6, vI x17), (7, vI x12), (25, vB x1o)] a ∧ Below w1a.z w1a w) ?_ ?_
   ·refine Wg (Rm z (Rm z (R z (lnT d_9 z) (R z (eql z z) (Rm z ?_)))))
    rcases bs (x12 == (x1.b.length : Int)) with hc16 | hc16
    ·iterate 5 refine Nh z hc16 ?_
     exact R z (pT z hc16 z) (Wl (fun _ q => ⟨true, som (ifT hu1x hc16), (q.k (s6 z z z z z z)), (br w1a)⟩))
    refine Rh z hc16 (mv z) (Rh z hc16 (mv z) ?_)
    obtain ⟨x2c, e1y, hm2d⟩ := bdS (ifF hu1x hc16)
    exact Rh z hc16 (rd_indexStr d_9 z z (idxS e1y).1 (idxS e1y).2.1) (Rh z hc16 (mv z) (Rh z hc16 (eql z z) (R z (pF z hc16 z) (Wl (fun _ q => ⟨(byteI x2c) == (byteI x2), som hm2d, (q.k (s6 z z z z z z)), (br w1a)⟩)))))
   rintro a2e w18 ⟨x1o, rfl, hS3m, s1g⟩
   revert a2e
   refine Wo ?_
   obtain ⟨u2f, hu1z, hm2g⟩ := bdS hm2b
   refine WC_cut (fun a w => ∃ (x1h : List Str) (x1e : Int), (x1h, x1e) = u2f ∧ ∃ a1i n1j c1k S1b, Sat 36 [(0, Str.v x1), (1, vU (byteI x2)), (5, sl a1i n1j c1k), (6, vI x1e), (7, vI x12)] a ∧ Chg (· ∈ S10) w18 w ∧ ownS w S1b (sl a1i n1j c1k) x1h ∧ S1b.Nodup ∧ (∀ k ∈ S1b, k ∈ S10 ∨ w18.z ≤ k) ∧ inI x1e) ?_ ?_
   ·refine Wc z (fun hc1p => ?_) (fun hc1p => ?_)
    ·refine Ws (Rm z (Rm z (Rm z (Rm z ?_))))
     obtain ⟨x2h, e1q, hm2i⟩ := bdS (ifT hu1z hc1p)
     refine R z (rd_sliceT d_9 z z z p1_0 e1q) (E z (ef_buildSlice [(.tmp 30)] el_77 z z z (szAll z) (lb z) (lb z)) ?_)
     rintro _ w20 ⟨rfl, h1r⟩
     have h1s := h1r.below
     have h2j : Blk w20 w18.z [Str.v x2h] := h1r.blk
     have h3n := ownS_new1 h1r (Str_own (slcT_len e1q p1_0))
     obtain ⟨x2k, e2l, hm2m⟩ := bdS hm2i
     refine E z (ef_pushN (α := Str) el_77 e2l z z ((h1c.ext s1g).ext h1s) h1d h2j (Str_own (slcT_len e1q p1_0)) all_nil nd_nil) ?_
     rintro _ w2n ⟨S21, a2o, n2p, c2q, rfl, s2r, h2s, h2t, h2u⟩
     refine Ra z (Wn (Wg (Rm z (R z (add_ z z) (Ra z (Wl ?_))))))
     have h2v : ∀ k ∈ S21, k ∈ S10 ∨ w18.z ≤ k := or2 h2u (io sr) all_nil (leor h1s.size)
     have h2w : Chg (· ∈ S10) w18 w20 := cext (cr S10 w18) h1s
     have h2x : Chg (· ∈ S10) w18 w2n := cM h2w s2r (io sr)
     exact fun _ q => ⟨x2k, iadd x12 1, som hm2m, a2o, n2p, c2q, S21, (q.k (s5 z z z z z)), h2x, h2s, h2t, h2v, (iA _ _)⟩
    exact WC_skip (fun _ q => ⟨x19, x17, som (ifF hu1z hc1p), a13, n14, c15, S10, (q.k (s5 z z z z z)), (cr S10 w18), (h1c.ext s1g), h1d, (io sr), h1m⟩)
   rintro a2y w2z ⟨x1h, x1e, rfl, a1i, n1j, c1k, S1b, hS3o, s30, h31, h32, h33, h34⟩
   have hm35 := un2S hm2g
   revert a2y
   refine Wo (Wg (Rm z (R z (add_ z z) (Ra z (Wl ?_)))))
   have h22 : ∀ k ∈ S10, k ∈ [w0.z] ∨ w11.z ≤ k := or1 h1f (io sr) (leor lr)
   have h36 : ∀ k ∈ S1b, k ∈ [w0.z] ∨ w11.z ≤ k := or1 h33 h22 (leor (lt_ s1l.size s1g.size))
   have h37 : Chg (· ∈ [w0.z]) w11 w1a := cM (cr [w0.z] w11) s1l (io sr)
   have h38 : Chg (· ∈ [w0.z]) w11 w18 := cext h37 s1g
   have h39 : Chg (· ∈ [w0.z]) w11 w2z := cM h38 s30 h22
   exact fun _ q => ⟨(x1h, x1e, iadd x12 1), (som hm35).symm, ⟨a1i, n1j, c1k, S1b, (q.k (s5 z z z z z)), h39, h31, h32, h36, h34, (iA _ _)⟩⟩
  have h3a : ∀ k ∈ S10, k ∈ [w0.z] ∨ w11.z ≤ k := or1 h1f (io sr) (leor lr)
  have h3b : Chg (· ∈ [w0.z]) w11 w1a := cM (cr [w0.z] w11) s1l (io sr)
  exact WC_exit (fun a' ha' => QO_brk (som (ifF hm1w hc1n)).symm ⟨a13, n14, c15, S10, (Sat.weaken ha' (s1 z)), h3b, h1c, h1d, h3a, h1m, h1v⟩)
 ·rintro ⟨x19, x17, x12⟩ a3c w3p rfl ⟨a13, n14, c15, S10, hS3q, s3d, h1c, h1d, h1f, h1m, h1v⟩
  have hm3e := elL hm1u
  have hm3f := un3S hm3e
  revert a3c
  refine Wo (Ws (Rm z (Ra z (Wn ?_))))
  obtain rfl := som hm3f
  have h3g : ∀ k ∈ S10, w0.z ≤ k := or1 h1f (mem1 lr) (lele s1t.size)
  exact Wr (ret1 hr z ⟨(bM s1t s3d (mem1 lr)), a13, n14, c15, S10, z, h1c, h1d, h3g⟩)
 rintro r3r ex3s a3t w3u rfl ⟨rfl, hq3h⟩
 have hm3i := elR hm1u
 obtain rfl := som hm3i
 exact ⟨hq3h, z⟩
def Q14 (w0 : World) (B : Nat) (r : Int × Bool) (v : Value) (w' : World) : Prop := Bw w0 w' ∧ un2 (fun r1 r2 => v = .tuple #[vI r1, vB r2] ∧ inI r1) r
theorem W_w13 {x1 : Str} {res : Int × Bool} (hm : M_spec_ParseInt n x1 = some res) (hBw : B ≤ w0.z) (p1_0 : x1.b.length ≤ LEN) : CallsR prog 153 [Str.v x1] w0 (Q14 w0 B res) := by
 unfold M_spec_ParseInt at hm
 refine goF func153 z z (lb z) fun fn hr => Ws (Ra z (Ra z (Wn (Wq (Ws (Rm z (R z (lnT d_9 z) ?_)))))))
 obtain ⟨r27, e1n, hm1d⟩ := bdS hm
 refine E z (fc call87 z (W_w00 (B := B) e1n hBw (inI_len p1_0) (ii z) (ii z))) ?_
 rintro _ w13 ⟨s12, rfl⟩
 refine R z (not_ z) (Wn (Wc z (fun hc15 => ?_) (fun hc15 => ?_)))
 ·refine Ws (Ra z (Ra z (Wn ?_)))
  obtain rfl := som (ifT hm1d hc15)
  exact Wr (ret2 hr z z ⟨s12, z, (ii z)⟩)
 refine Wk (Ws (Ra z (Wn (Wq (Ws (Ra z (Wn ?_)))))))
 obtain ⟨u28, hu1o, hm1e⟩ := bdS (ifF hm1d hc15)
 refine WC_forN (σ := Int) (ρ := Int × Bool) (fun (k16 : Nat) (x10 : Int) a w => Sat 39 [(0, Str.v x1), (4, vI x10), (5, (vI ((k16 : Nat) : Int)))] a ∧ Below w13.z w13 w ∧ inI x10) (fun (x10 : Int) a w => Sat 39 [(0, Str.v x1), (4, vI x10)] a ∧ Below w13.z w13 w ∧ inI x10) (fun r ex a w => ex = .ret ∧ RetPost prog fn (Q14 w0 B r) a w) hu1o ?_ ?_ ?_ ?_ ?_
 ·exact fun _ q => ⟨(q.k (s3 z z z)), (br w13), (ii z)⟩
 ·rintro k16 x10 a29 w2a o2b hk1f ⟨hS1p, s17, h14⟩ hm1q
  refine Wu ?_ hS1p
  refine Wq (Ws (Rm z (Rm z (R z (lnT d_9 z) (R z (lss z z) (Wn (Wc z (fun _ => ?_) (fun hc => (nolt hk1f hc).elim))))))))
  refine Wk (Wq (WC_block (Wq (Ws (Rm z (Rm z ?_))))))
  obtain ⟨x2c, e1g, hm1r⟩ := bdS hm1q
  refine R z (rd_indexStr d_9 z z (idxS e1g).1 (idxS e1g).2.1) (R z (rd_convUI d_5 d_3 z) ?_)
  obtain ⟨r2d, e1s, hm1h⟩ := bdS hm1r
  refine E z (fc call87 z (W_w00 (B := B) e1s (lt_ hBw (lt_ s12.size s17.size)) (inI_byte _) (ii z) (ii z))) ?_
  rintro _ w2e ⟨s1i, rfl⟩
  refine R z (not_ z) (Wn (Wc z (fun hc18 => ?_) (fun hc18 => ?_)))
  ·exact Ws (Ra z (Ra z (Wn (Wr (rtO (QO_retL (som (ifT hm1h hc18)).symm (ret2 hr z z ⟨(bup (bup s12 s17) s1i), z, (ii z)⟩)))))))
  refine Wk (Wg (Rm z (R z (rd_mul z z) (Rm z (Rm z ?_)))))
  obtain ⟨x1t, e1j, hm1u⟩ := bdS (ifF hm1h hc18)
  exact R z (rd_indexStr d_9 z z (idxS e1j).1 (idxS e1j).2.1) (R z (rd_subB z z) (R z (rd_convUI d_5 d_3 z) (R z (add_ z z) (Ra z (Wn (Wg (Rm z (R z (inc_ hk1f (lt_ p1_0 LEN_le) z z) (Ra z (Wl (fun _ q => ⟨iadd (imul 10 x10) (byteI (mkB (byteI x1t - byteI (48 : UInt8)))), (som hm1u).symm, ⟨(q.k (s3 z z z)), (bup s17 s1i), (iA _ _)⟩⟩)))))))))))
 ·rintro x10 a2f w2g ⟨hS1v, s1w, h14⟩
  refine Wu ?_ hS1v
  refine Wq (Ws (Rm z (Rm z (R z (lnT d_9 z) (R z (lss z z) (Wn (Wc z (fun hc => (noltt hc).elim) (fun _ => ?_))))))))
  exact WC_exit (fun a' ha' => ⟨rfl, ⟨(Sat.weaken ha' (s2 z z)), s1w, h14⟩⟩)
 ·rintro x10 a1x w19 rfl ⟨hS2h, s1a, h14⟩
  have hm1y := elL hm1e
  revert a1x
  refine Wo (Wq (Wq ?_))
  obtain ⟨u1z, hu1k, hm1l⟩ := bdS hm1y
  refine WC_cut (fun a w => ∃ (x1b : Bool), x1b = u1z ∧ Sat 39 [(4, vI x10), (37, vB x1b)] a ∧ Below w19.z w19 w) ?_ ?_
  ·refine Wg (Rm z (R z (rd_gtr z z) (Rm z ?_)))
   rcases bs (decide (1000000000000 < x10)) with hc11 | hc11
   ·iterate 4 refine Nh z hc11 ?_
    exact R z (pT z hc11 z) (Wl (fun _ q => ⟨true, som (ifT hu1k hc11), (q.k (s2 z z)), (br w19)⟩))
   refine Rh z hc11 (mv z) ?_
   obtain ⟨r20, e21, hm22⟩ := bdS (ifF hu1k hc11)
   refine Eg z z hc11 z (fc call164 z (W_w0m (B := B) e21 (lt_ hBw (lt_ s12.size s1a.size)) h14)) ?_
   rintro _ w2i ⟨s23, rfl, h2j⟩
   exact Rh z hc11 (mv z) (Rh z hc11 (rd_neqT z z) (R z (pF z hc11 z) (Wl (fun _ q => ⟨r20.b != x1.b, som hm22, (q.k (s2 z z)), s23⟩))))
  rintro a24 w2k ⟨x1b, rfl, hS2l, s1m⟩
  revert a24
  refine Wo (Wc z (fun hc1c => ?_) (fun hc1c => ?_))
  ·refine Ws (Ra z (Ra z (Wn ?_)))
   obtain rfl := som (ifT hm1l hc1c)
   exact Wr (ret2 hr z z ⟨(bup (bup s12 s1a) s1m), z, (ii z)⟩)
  refine Wk (Ws (Rm z (Ra z (Ra z (Wn ?_)))))
  obtain rfl := som (ifF hm1l hc1c)
  exact Wr (ret2 hr z z ⟨(bup (bup s12 s1a) s1m), z, h14⟩)
 rintro r2m ex2n a2o w2p rfl ⟨rfl, hq25⟩
 have hm26 := elR hm1e
 obtain rfl := som hm26
 exact ⟨hq25, z⟩
theorem W_w14 {x1 : Str} {res : Bool} (hm : M_spec_IsStep n x1 = some res) (hBw : B ≤ w0.z) (p1_0 : x1.b.length ≤ LEN) : CallsR prog 136 [Str.v x1] w0 (Q7 w0 B res) := by
 unfold M_spec_IsStep at hm
 refine goF func136 z z (lb z) fun fn hr => Ws (Ra z (Wn (Wq (Wq ?_))))
 obtain ⟨u1g, hu1h, hm1a⟩ := bdS hm
 refine WC_cut (fun a w => ∃ (x16 : Bool), x16 = u1g ∧ Sat 31 [(0, Str.v x1), (18, vB x16)] a ∧ Below w0.z w0 w) ?_ ?_
 ·refine Wg (Rm z ?_)
  obtain ⟨r1i, e1j, hm1b⟩ := bdS hu1h
  refine E z (fc call178 z (W_w0j (B := B) e1j hBw p1_0)) ?_
  rintro _ w1x ⟨s14, rfl⟩
  refine Rm z ?_
  rcases bs r1i with hc11 | hc11
  ·exact Nh z hc11 (Nh z hc11 (R z (pT z hc11 z) (Rm z (Nh z z (Nh z z (R z (pT z z z) (Rm z (Nh z z (Nh z z (R z (pT z z z) (Wl (fun _ q => ⟨true, som (ifT hm1b hc11), (q.k (s2 z z)), s14⟩))))))))))))
  have hm1c := ifF hm1b hc11
  refine Rh z hc11 (mv z) (Rh z hc11 (rd_eqlT z z) (R z (pF z hc11 z) (Rm z ?_)))
  rcases bs (x1.b == (⟨[42]⟩ : Str).b) with hc12 | hc12
  ·exact Nh z hc12 (Nh z hc12 (R z (pT z hc12 z) (Rm z (Nh z z (Nh z z (R z (pT z z z) (Wl (fun _ q => ⟨true, som (ifT hm1c hc12), (q.k (s2 z z)), s14⟩))))))))
  have hm1d := ifF hm1c hc12
  refine Rh z hc12 (mv z) (Rh z hc12 (rd_eqlT z z) (R z (pF z hc12 z) (Rm z ?_)))
  rcases bs (x1.b == (⟨[63]⟩ : Str).b) with hc13 | hc13
  ·exact Nh z hc13 (Nh z hc13 (R z (pT z hc13 z) (Wl (fun _ q => ⟨true, som (ifT hm1d hc13), (q.k (s2 z z)), s14⟩))))
  exact Rh z hc13 (mv z) (Rh z hc13 (rd_eqlT z z) (R z (pF z hc13 z) (Wl (fun _ q => ⟨x1.b == (⟨[43]⟩ : Str).b, som (ifF hm1d hc13), (q.k (s2 z z)), s14⟩))))
 rintro a1k w1y ⟨x16, rfl, hS1z, s15⟩
 revert a1k
 refine Wo (Wc z (fun hc17 => ?_) (fun hc17 => ?_))
 ·refine Ws (Ra z (Wn ?_))
  obtain rfl := som (ifT hm1a hc17)
  exact Wr (ret1 hr z ⟨s15, z⟩)
 refine Wk (Ws (Rm z ?_))
 obtain ⟨r20, r1l, e1m, hm1n⟩ := bd2S (ifF hm1a hc17)
 refine E z (fc call153 z (W_w13 (B := B) e1m (lt_ hBw s15.size) p1_0)) ?_
 rintro _ w18 ⟨s1e, rfl, h1o⟩
 refine Rm z (R z (ext_ z z) (R z (ext_ z z) (Ra z (Ra z (Wn (Wq ?_))))))
 obtain ⟨u1p, hu1f, hm1q⟩ := bdS hm1n
 refine WC_cut (fun a w => ∃ (x19 : Bool), x19 = u1p ∧ Sat 31 [(2, vB x19)] a ∧ Below w18.z w18 w) ?_ ?_
 ·refine Wg (Rm z (Rm z ?_))
  rcases bs r1l with hc10 | hc10
  ·refine Rh z hc10 (mv z) ?_
   obtain ⟨r1r, e1s, hm1t⟩ := bdS (ifT hu1f hc10)
   refine Eg z z hc10 z (fc call164 z (W_w0m (B := B) e1s (lt_ hBw (lt_ s15.size s1e.size)) h1o)) ?_
   rintro _ w21 ⟨s1u, rfl, h22⟩
   exact Rh z hc10 (mv z) (Rh z hc10 (rd_eqlT z z) (R z (pT z hc10 z) (Ra z (Wl (fun _ q => ⟨r1r.b == x1.b, som hm1t, (q.k (s1 z)), s1u⟩)))))
  iterate 4 refine Nh z hc10 ?_
  exact R z (pF z hc10 z) (Ra z (Wl (fun _ q => ⟨false, som (ifF hu1f hc10), (q.k (s1 z)), (br w18)⟩)))
 rintro a1v w23 ⟨x19, rfl, hS24, s1w⟩
 revert a1v
 refine Wo ?_
 obtain rfl := som hm1q
 exact Wr (ret1 hr z ⟨(bup (bup s15 s1e) s1w), z⟩)
def Q15 (w0 : World) (B : Nat) (r : (List Str) × Bool) (v : Value) (w' : World) : Prop := Bw w0 w' ∧ un2 (fun r1 r2 => ∃ a1 n1 c1, v = .tuple #[sl a1 n1 c1, vB r2] ∧ repS w' w'.z (sl a1 n1 c1) r1) r
theorem W_w29 {x1 : Str} {res : (List Str) × Bool} (hm : M_spec_l21Steps n x1 = some res) (hBw : B ≤ w0.z) (p1_0 : x1.b.length ≤ LEN) : CallsR prog 103 [Str.v x1] w0 (Q15 w0 B res) := by
 unfold M_spec_l21Steps at hm
 refine goF func103 z z (lb z) fun fn hr => Ws (Ra z (Ra z (Wn (Wq (Ws (Rm z (R z (rd_eqlT z z) (Wn (Wc z (fun hc1e => ?_) (fun hc1e => ?_))))))))))
 ·refine Ws (E z (ef_lit0 (α := Str) el_77) ?_)
  rintro _ w3k ⟨a26, n27, c28, rfl, s29, h2a⟩
  refine Ra z (Ra z (Wn ?_))
  obtain rfl := som (ifT hm hc1e)
  exact Wr (ret2 hr z z ⟨s29, a26, n27, c28, z, (ownS.rep h2a)⟩)
 refine Wk (Ws (Rm z ?_))
 obtain ⟨r2b, e2c, hm2d⟩ := bdS (ifF hm hc1e)
 refine E z (fc call135 z (W_w12 (B := B) e2c hBw p1_0)) ?_
 rintro _ w15 ⟨s1f, a17, n18, c19, S3l, rfl, h12, h3m, h3n⟩
 refine Ra z (Wn (Wq (Ws (Ra z (Wn ?_)))))
 obtain ⟨u3o, hu2e, hm1p⟩ := bdS hm2d
 refine WC_iter (σ := Int) (ρ := (List Str) × Bool) (fun (x13 : Int) a w => Sat 49 [(4, sl a17 n18 c19), (5, vI x13)] a ∧ Below w15.z w15 w ∧ inI x13) (fun (x13 : Int) a w => Sat 49 [(4, sl a17 n18 c19)] a ∧ Below w15.z w15 w ∧ inI x13) (fun r ex a w => ex = .ret ∧ RetPost prog fn (Q15 w0 B r) a w) hu2e ?_ ?_ ?_ ?_
 ·exact fun _ q => ⟨(q.k (s2 z z)), (br w15), (ii z)⟩
 ·rintro x13 a3p w1q o3q ⟨hS2f, s16, h1r⟩ hm1s
  refine Wu ?_ hS2f
  refine Wq (Ws (Rm z (Rm z ?_)))
  have h1g := h12.ext s16
  refine R z (lnR d_77 z (ownS_rep h1g (ownS.lt h12))) (R z (lss z z) (Wn (Wc z (fun hc1h => ?_) (fun hc1h => ?_))))
  ·refine Wk (Wq (WC_block (Wq ?_)))
   obtain ⟨u2g, hu2h, hm1t⟩ := bdS (ifT hm1s hc1h)
   refine WC_cut (fun a w => ∃ (x1i : Bool), x1i = u2g ∧ Sat 49 [(4, sl a17 n18 c19), (5, vI x13), (36, vB x1i)] a ∧ Below w1q.z w1q w) ?_ ?_
   ·refine Wg (Rm z (Rm z ?_))
    obtain ⟨x3r, e2i, hm2j⟩ := bdS hu2h
    refine RX z (at_ (α := Str) d_77 z_9 z z z (ownS_rep h1g (ownS.lt h12)) e2i) ?_
    rintro _ ⟨b3s, o3t, cs3u, rfl, h2k, h2l, h3v⟩
    obtain ⟨rfl, h2m⟩ := Str_open h2l
    refine R z (l1 g_9 z fid (h2k.at0 z)) ?_
    obtain ⟨r2n, e2o, hm1u⟩ := bdS hm2j
    refine E z (fc call136 z (W_w14 (B := B) e2o (lt_ hBw (lt_ s1f.size s16.size)) h2m)) ?_
    rintro _ w3w ⟨s1a, rfl⟩
    refine R z (not_ z) (Rm z ?_)
    rcases bs (!r2n) with hc10 | hc10
    ·refine Rh z hc10 (mv z) (Rh z hc10 (mv z) ?_)
     obtain ⟨x2p, e2q, hm1v⟩ := bdS (ifT hm1u hc10)
     have h1w := h1g.ext s1a
     refine RXg z z hc10 z (at_ (α := Str) d_77 z_9 z z z (ownS_rep h1w (ownS.lt h12)) e2q) ?_
     rintro _ ⟨b3x, o3y, cs3z, rfl, h2r, h2s, h40⟩
     obtain ⟨rfl, h41⟩ := Str_open h2s
     refine Rh z hc10 (l1 g_9 z fid (h2r.at0 z)) (Rh z hc10 (rd_neqT z z) (R z (pT z hc10 z) (Rm z ?_)))
     rcases bs (x2p.b != (⟨[35]⟩ : Str).b) with hc11 | hc11
     ·refine Rh z hc11 (mv z) (Rh z hc11 (mv z) ?_)
      obtain ⟨x2t, e2u, hm2v⟩ := bdS (ifT hm1v hc11)
      refine RXg z z hc11 z (at_ (α := Str) d_77 z_9 z z z (ownS_rep h1w (ownS.lt h12)) e2u) ?_
      rintro _ ⟨b42, o43, cs44, rfl, h2w, h2x, h45⟩
      obtain ⟨rfl, h46⟩ := Str_open h2x
      exact Rh z hc11 (l1 g_9 z fid (h2w.at0 z)) (Rh z hc11 (rd_neqT z z) (R z (pT z hc11 z) (Wl (fun _ q => ⟨x2t.b != (⟨[46, 46]⟩ : Str).b, som hm2v, (q.k (s3 z z z)), s1a⟩))))
     iterate 5 refine Nh z hc11 ?_
     exact R z (pF z hc11 z) (Wl (fun _ q => ⟨false, som (ifF hm1v hc11), (q.k (s3 z z z)), s1a⟩))
    iterate 5 refine Nh z hc10 ?_
    exact R z (pF z hc10 z) (Rm z (Nh z z (Nh z z (Nh z z (Nh z z (Nh z z (R z (pF z z z) (Wl (fun _ q => ⟨false, som (ifF hm1u hc10), (q.k (s3 z z z)), s1a⟩)))))))))
   rintro a2y w47 ⟨x1i, rfl, hS48, s1x⟩
   revert a2y
   refine Wo (Wc z (fun hc1j => ?_) (fun hc1j => ?_))
   ·refine Ws (E z (ef_lit0 (α := Str) el_77) ?_)
    rintro _ w49 ⟨a2z, n30, c31, rfl, s32, h33⟩
    exact Ra z (Ra z (Wn (Wr (rtO (QO_retL (som (ifT hm1t hc1j)).symm (ret2 hr z z ⟨(bup (bup (bup s1f s16) s1x) s32), a2z, n30, c31, z, (ownS.rep h33)⟩))))))
   exact Wk (Wg (Rm z (R z (add_ z z) (Ra z (Wl (fun _ q => ⟨iadd x13 1, (som (ifF hm1t hc1j)).symm, ⟨(q.k (s2 z z)), (bup s16 s1x), (iA _ _)⟩⟩))))))
  exact WC_exit (fun a' ha' => QO_brk (som (ifF hm1s hc1h)).symm ⟨(Sat.weaken ha' (s1 z)), s16, h1r⟩)
 ·rintro x13 a34 w1y rfl ⟨hS4a, s1k, h1r⟩
  have hm35 := elL hm1p
  revert a34
  refine Wo (Wq ?_)
  obtain ⟨u36, hu37, hm38⟩ := bdS hm35
  refine WC_cut (fun a w => ∃ (x1l : List Str) (x1m : Bool), (x1l, x1m) = u36 ∧ ∃ a1b n1c c1d, Sat 49 [(2, sl a1b n1c c1d), (3, vB x1m)] a ∧ Below w1y.z w1y w ∧ repS w w15.z (sl a1b n1c c1d) x1l) ?_ ?_
  ·refine WC_draw (X := noX) 0 (.rd 0 (.rd 1 (.rd 2 (.rd 3 (.rd 4 (.rd 5 (.rd 6 (.rd 7 (.rd 8 (.rd 9 (.rd 10 (.rd 11 (.rd 12 .done))))))))))))) mo (by kernel_rfl) fun w4b s1n _ => dR z z (mv z) ?_
   obtain ⟨x1z, e39, hm3a⟩ := bdS hu37
   have h1o := (h12.ext s1k).ext s1n
   refine dRX z z (rd_sliceX d_77 z_9 z z (ownS_rep h1o (ownS.lt h12)) z z e39) ?_
   rintro _ ⟨a20, n21, c22, rfl, h23⟩
   refine dR z z (mv z) ?_
   obtain ⟨x3b, e3c, hm24⟩ := bdS hm3a
   refine dRX z z (at_ (α := Str) d_77 z_9 z z z (ownS_rep h1o (ownS.lt h12)) e3c) ?_
   rintro _ ⟨b4c, o4d, cs4e, rfl, h3d, h3e, h4f⟩
   obtain ⟨rfl, h4g⟩ := Str_open h3e
   refine dR z z (l1 g_9 z fid (h3d.at0 z)) (dR z z (rd_eqlT z z) (dR z z (mv z) ?_))
   rcases bs (x3b.b == (⟨[]⟩ : Str).b) with hc14 | hc14
   ·exact dRg z z z hc14 z (mv z) (dRg z z z hc14 z (lnR d_77 z (ownS_rep h1o (ownS.lt h12))) (dRg z z z hc14 z (rd_gtr z z) (dR z z (pT z hc14 z) (dR z z (asg z) (dR z z (asg z) (PR_done (fun _ q => ⟨x1z, decide (1 < (r2b.length : Int)), som (ifT hm24 hc14), a20, n21, c22, (q.k (s2 z z)), s1n, h23⟩)))))))
   iterate 3 refine dRn z z z hc14 z ?_
   exact dR z z (pF z hc14 z) (dR z z (asg z) (dR z z (asg z) (PR_done (fun _ q => ⟨x1z, false, som (ifF hm24 hc14), a20, n21, c22, (q.k (s2 z z)), s1n, h23⟩))))
  rintro a3f w4h ⟨x1l, x1m, rfl, a1b, n1c, c1d, hS4i, s25, h3g⟩
  have hm3h := un2S hm38
  revert a3f
  refine Wo ?_
  obtain rfl := som hm3h
  exact Wr (ret2 hr z z ⟨(bup (bup s1f s1k) s25), a1b, n1c, c1d, z, (repS.mono h3g (lt_ s1k.size s25.size))⟩)
 rintro r4j ex4k a4l w4m rfl ⟨rfl, hq3i⟩
 have hm3j := elR hm1p
 obtain rfl := som hm3j
 exact ⟨hq3i, z⟩
theorem W_w2a {x1 : Str} {res : (List Str) × Bool} (hm : M_spec_SplitPath n x1 = some res) (hBw : B ≤ w0.z) (p1_0 : x1.b.length ≤ LEN) : CallsR prog 96 [Str.v x1] w0 (Q15 w0 B res) := by
 unfold M_spec_SplitPath at hm
 refine goF func96 z z (lb z) fun fn hr => Ws (Ra z (Ra z (Wn (Wq (Ws (Rm z (R z (rd_eqlT z z) (Wn (Wc z (fun hc15 => ?_) (fun hc15 => ?_))))))))))
 ·refine Ws (E z (ef_lit0 (α := Str) el_77) ?_)
  rintro _ w2n ⟨a1l, n1m, c1n, rfl, s1o, h1p⟩
  refine Ra z (Ra z (Wn ?_))
  obtain rfl := som (ifT hm hc15)
  exact Wr (ret2 hr z z ⟨s1o, a1l, n1m, c1n, z, (ownS.rep h1p)⟩)
 refine Wk (Ws (Rm z ?_))
 obtain ⟨r2o, e1q, hm1r⟩ := bdS (ifF hm hc15)
 refine E z (fc call135 z (W_w12 (B := B) e1q hBw p1_0)) ?_
 rintro _ w12 ⟨s14, a16, n17, c18, S2p, rfl, h11, h2q, h2r⟩
 refine Ra z (Wn (Wq (Ws (Rm z ?_))))
 obtain ⟨x2s, e1s, hm1d⟩ := bdS hm1r
 refine RX z (at_ (α := Str) d_77 z_9 z z z (ownS.rep h11) e1s) ?_
 rintro _ ⟨b2t, o2u, cs2v, rfl, h1t, h1u, h2w⟩
 obtain ⟨rfl, h2x⟩ := Str_open h1u
 refine R z (l1 g_9 z fid (h1t.at0 z)) (R z (rd_neqT z z) (Wn (Wc z (fun hc19 => ?_) (fun hc19 => ?_))))
 ·refine Ws (E z (ef_lit0 (α := Str) el_77) ?_)
  rintro _ w2y ⟨a1v, n1w, c1x, rfl, s1y, h1z⟩
  refine Ra z (Ra z (Wn ?_))
  obtain rfl := som (ifT hm1d hc19)
  exact Wr (ret2 hr z z ⟨(bup s14 s1y), a1v, n1w, c1x, z, (ownS.rep h1z)⟩)
 refine Wk (Wq (Ws (Ra z (Wn ?_))))
 obtain ⟨u2z, hu20, hm1e⟩ := bdS (ifF hm1d hc19)
 refine WC_iter (σ := Int) (ρ := (List Str) × Bool) (fun (x10 : Int) a w => Sat 34 [(4, sl a16 n17 c18), (5, vI x10)] a ∧ Below w12.z w12 w ∧ inI x10) (fun (x10 : Int) a w => Sat 34 [(4, sl a16 n17 c18)] a ∧ Below w12.z w12 w ∧ inI x10) (fun r ex a w => ex = .ret ∧ RetPost prog fn (Q15 w0 B r) a w) hu20 ?_ ?_ ?_ ?_
 ·exact fun _ q => ⟨(q.k (s2 z z)), (br w12), (ii z)⟩
 ·rintro x10 a30 w31 o32 ⟨hS21, s13, h1f⟩ hm1g
  refine Wu ?_ hS21
  refine Wq (Ws (Rm z (Rm z ?_)))
  have h1h := h11.ext s13
  refine R z (lnR d_77 z (ownS_rep h1h (ownS.lt h11))) (R z (lss z z) (Wn (Wc z (fun hc1a => ?_) (fun hc1a => ?_))))
  ·refine Wk (Wq (WC_block (Ws (Rm z (Rm z ?_)))))
   obtain ⟨x33, e22, hm23⟩ := bdS (ifT hm1g hc1a)
   refine RX z (at_ (α := Str) d_77 z_9 z z z (ownS_rep h1h (ownS.lt h11)) e22) ?_
   rintro _ ⟨b34, o35, cs36, rfl, h24, h25, h37⟩
   obtain ⟨rfl, h26⟩ := Str_open h25
   refine R z (l1 g_9 z fid (h24.at0 z)) ?_
   obtain ⟨r38, e27, hm1i⟩ := bdS hm23
   refine E z (fc call136 z (W_w14 (B := B) e27 (lt_ hBw (lt_ s14.size s13.size)) h26)) ?_
   rintro _ w39 ⟨s1j, rfl⟩
   refine R z (not_ z) (Wn (Wc z (fun hc1b => ?_) (fun hc1b => ?_)))
   ·refine Ws (E z (ef_lit0 (α := Str) el_77) ?_)
    rintro _ w3a ⟨a28, n29, c2a, rfl, s2b, h2c⟩
    exact Ra z (Ra z (Wn (Wr (rtO (QO_retL (som (ifT hm1i hc1b)).symm (ret2 hr z z ⟨(bup (bup (bup s14 s13) s1j) s2b), a28, n29, c2a, z, (ownS.rep h2c)⟩))))))
   exact Wk (Wg (Rm z (R z (add_ z z) (Ra z (Wl (fun _ q => ⟨iadd x10 1, (som (ifF hm1i hc1b)).symm, ⟨(q.k (s2 z z)), (bup s13 s1j), (iA _ _)⟩⟩))))))
  exact WC_exit (fun a' ha' => QO_brk (som (ifF hm1g hc1a)).symm ⟨(Sat.weaken ha' (s1 z)), s13, h1f⟩)
 ·rintro x10 a2d w3b rfl ⟨hS3c, s1c, h1f⟩
  have hm2e := elL hm1e
  revert a2d
  refine Wo (Ws (Rm z ?_))
  obtain ⟨x3d, e2f, hm2g⟩ := bdS hm2e
  have h1k := h11.ext s1c
  refine RX z (rd_sliceX d_77 z_9 z z (ownS_rep h1k (ownS.lt h11)) z z e2f) ?_
  rintro _ ⟨a2h, n2i, c2j, rfl, h2k⟩
  refine Rm z (R z (lnR d_77 z (ownS_rep h1k (ownS.lt h11))) (R z (rd_gtr z z) (Ra z (Ra z (Wn ?_)))))
  obtain rfl := som hm2g
  exact Wr (ret2 hr z z ⟨(bup s14 s1c), a2h, n2i, c2j, z, (repS.mono h2k s1c.size)⟩)
 rintro r3e ex3f a3g w3h rfl ⟨rfl, hq2l⟩
 have hm2m := elR hm1e
 obtain rfl := som hm2m
 exact ⟨hq2l, z⟩
theorem W_w2b {x1 : List Str} {x2 : List Str} {res : Bool} (hm : M_spec_MatchSteps n x1 x2 = some res) (hBw : B ≤ w0.z) (p1_0 : repS w0 B (sl A0 N0 C0) x1) (p2_0 : repS w0 B (sl A5 N5 C5) x2) : CallsR prog 104 [sl A0 N0 C0, sl A5 N5 C5] w0 (Q7 w0 B res) := by
 unfold M_spec_MatchSteps at hm
 refine goF func104 z z (lb z) fun fn hr => Ws (Ra z (Wn (Ws (Rm z (R z (lnR d_77 z p2_0) (R z (add_ z z) ?_))))))
 obtain ⟨x9s, e3s, hm3t⟩ := bdS hm
 refine E z (ef_makeN (α := Bool) el_174 (fun _ => Bool_own) e3s z z) ?_
 rintro _ w9t ⟨a3u, n3v, c3w, rfl, s1w, h2g⟩
 refine Ra z (Wn (Ws (Rm z ?_)))
 obtain ⟨x9u, e2h, hm3x⟩ := bdS hm3t
 refine RX z (rd_atU (α := Bool) d_174 z_4 z z h2g e2h) ?_
 rintro _ ⟨g9v, h3y, rfl⟩
 refine E0 (ef_setN (α := Bool) z_4 z h3y z z z e2h h2g nd_one Bool_own all_nil nd_nil) ?_
 rintro _ w1n ⟨S1x, s1y, h3z, h40, h9w⟩
 refine Wn (Wq (Ws (Ra z (Wn ?_))))
 obtain ⟨u9x, hu41, hm2i⟩ := bdS hm3x
 refine WC_forN (σ := (List Bool)) (ρ := Bool) (fun (k1o : Nat) (x1z : List Bool) a w => ∃ a15 n16 c17 S1g, Sat 111 [(0, sl A0 N0 C0), (1, sl A5 N5 C5), (5, sl a15 n16 c17), (6, (vI ((k1o : Nat) : Int)))] a ∧ Below w1n.z w1n w ∧ ownS w S1g (sl a15 n16 c17) x1z ∧ S1g.Nodup ∧ (∀ k ∈ S1g, k ∈ S1x ∨ w1n.z ≤ k)) (fun (x1z : List Bool) a w => ∃ a15 n16 c17 S1g, Sat 111 [(1, sl A5 N5 C5), (5, sl a15 n16 c17)] a ∧ Below w1n.z w1n w ∧ ownS w S1g (sl a15 n16 c17) x1z ∧ S1g.Nodup ∧ (∀ k ∈ S1g, k ∈ S1x ∨ w1n.z ≤ k)) (fun r ex a w => ex = .ret ∧ RetPost prog fn (Q7 w0 B r) a w) hu41 ?_ ?_ ?_ ?_ ?_
 ·exact fun _ q => ⟨a3u, n3v, c3w, S1x, (q.k (s4 z z z z)), (br w1n), h3z, h40, (io sr)⟩
 ·rintro k1o x1z a9y w19 o9z hk2j ⟨a15, n16, c17, S1g, hS42, s1s, h1p, h29, h2a⟩ hm43
  refine Wu ?_ hS42
  refine Wq (Ws (Rm z (Rm z ?_)))
  have h2k := mem1le hBw
  have h2l := ((p1_0.ext s1w).chg s1y (lg h2k)).ext s1s
  refine R z (lnR d_77 z h2l) (R z (lss z z) (Wn (Wc z (fun _ => ?_) (fun hc => (nolt hk2j hc).elim))))
  refine Wk (Wq (WC_block (Ws (Rm z ?_))))
  have h2m := ((p2_0.ext s1w).chg s1y (lg h2k)).ext s1s
  refine R z (lnR d_77 z h2m) (R z (add_ z z) ?_)
  obtain ⟨x100, e44, hm45⟩ := bdS hm43
  refine E z (ef_makeN (α := Bool) el_174 (fun _ => Bool_own) e44 z z) ?_
  rintro _ w1b ⟨a1c, n1d, c1e, rfl, s1t, h46⟩
  refine Ra z (Wn (Wq (Ws (Ra z (Wn ?_)))))
  obtain ⟨u101, hu47, hm2n⟩ := bdS hm45
  refine WC_iter (σ := (List Bool) × Int) (ρ := Bool) (fun s a w => un2 (fun x1u x1a => ∃  (S10 : List Nat), Sat 111 [(0, sl A0 N0 C0), (1, sl A5 N5 C5), (5, sl a15 n16 c17), (6, (vI ((k1o : Nat) : Int))), (7, sl a1c n1d c1e), (8, vI x1a)] a ∧ Chg (· ∈ [w19.z]) w1b w ∧ ownS w S10 (sl a1c n1d c1e) x1u ∧ S10.Nodup ∧ (∀ k ∈ S10, k ∈ [w19.z] ∨ w1b.z ≤ k) ∧ inI x1a) s) (fun s a w => un2 (fun x1u x1a => ∃  (S10 : List Nat), Sat 111 [(0, sl A0 N0 C0), (1, sl A5 N5 C5), (6, (vI ((k1o : Nat) : Int))), (7, sl a1c n1d c1e)] a ∧ Chg (· ∈ [w19.z]) w1b w ∧ ownS w S10 (sl a1c n1d c1e) x1u ∧ S10.Nodup ∧ (∀ k ∈ S10, k ∈ [w19.z] ∨ w1b.z ≤ k) ∧ inI x1a) s) (fun r ex a w => ex = .ret ∧ RetPost prog fn (Q7 w0 B r) a w) hu47 ?_ ?_ ?_ ?_
  ·exact fun _ q => ⟨[w19.z], (q.k (s6 z z z z z z)), (cr [w19.z] w1b), h46, nd_one, (io sr), (ii z)⟩
  ·rintro ⟨x1u, x1a⟩ a102 w11 o103 ⟨S10, hS48, s1r, h18, h1h, h25, h2o⟩ hm49
   have hm2p := un2S hm49
   refine Wu ?_ hS48
   refine Wq (Ws (Rm z (Rm z ?_)))
   have h2q := lt_ (lt_ s1w.size s1y.size) s1s.size
   have h2r := mem1le (lt_ hBw h2q)
   have h2s := (h2m.ext s1t).chg s1r (lg h2r)
   refine R z (lnR d_77 z h2s) (R z (rd_leq z z) (Wn (Wc z (fun hc2b => ?_) (fun hc2b => ?_))))
   ·refine Wk (Wq ?_)
    obtain ⟨u4a, hu4b, hm4c⟩ := bdS (ifT hm2p hc2b)
    refine WC_cut (fun a w => ∃ (x26 : List Bool), x26 = u4a ∧ ∃  (S20 : List Nat), Sat 111 [(0, sl A0 N0 C0), (1, sl A5 N5 C5), (5, sl a15 n16 c17), (6, (vI ((k1o : Nat) : Int))), (7, sl a1c n1d c1e), (8, vI x1a)] a ∧ Chg (· ∈ S10) w11 w ∧ ownS w S20 (sl a1c n1d c1e) x26 ∧ S20.Nodup ∧ (∀ k ∈ S20, k ∈ S10 ∨ w11.z ≤ k)) ?_ ?_
    ·refine WC_block (Wq (Ws (Rm z (Rm z ?_))))
     obtain ⟨x104, e4d, hm2t⟩ := bdS hu4b
     have h2u := (h2l.ext s1t).chg s1r (lg h2r)
     refine RX z (at_ (α := Str) d_77 z_9 z z z h2u e4d) ?_
     rintro _ ⟨b105, o106, cs107, rfl, h4e, h4f, h108⟩
     obtain ⟨rfl, h109⟩ := Str_open h4f
     refine R z (l1 g_9 z fid (h4e.at0 z)) (R z (rd_eqlT z z) (Wn (Wc z (fun hc2c => ?_) (fun hc2c => ?_))))
     ·refine Wq ?_
      obtain ⟨u4g, hu4h, hm4i⟩ := bdS (ifT hm2t hc2c)
      refine WC_cut (fun a w => ∃ (x27 : List Bool), x27 = u4g ∧ ∃  (S21 : List Nat), Sat 111 [(0, sl A0 N0 C0), (1, sl A5 N5 C5), (5, sl a15 n16 c17), (6, (vI ((k1o : Nat) : Int))), (7, sl a1c n1d c1e), (8, vI x1a)] a ∧ Chg (· ∈ S10) w11 w ∧ ownS w S21 (sl a1c n1d c1e) x27 ∧ S21.Nodup ∧ (∀ k ∈ S21, k ∈ S10 ∨ w11.z ≤ k)) ?_ ?_
      ·refine Wg (Rm z (Rm z (Rm z (Rm z ?_))))
       obtain ⟨x4j, e4k, hm2v⟩ := bdS hu4h
       refine RX z (at_ (α := Bool) d_174 z_4 z z z (ownS_rep ((h1p.ext s1t).chg s1r (dj_symm (mnr (ownS.lt h1p)))) (ownS.lt h1p)) e4k) ?_
       rintro _ ⟨b10a, o10b, cs10c, rfl, h4l, h4m, h10d⟩
       obtain rfl := Bool_open h4m
       refine R z (l1 g_4 z fid (h4l.at0 z)) (Rm z ?_)
       rcases bs x4j with hc1f | hc1f
       ·iterate 3 refine Nh z hc1f ?_
        refine Nv z (Nv z (Nv z (Nv z (Nv z (Nh z hc1f (R z (pT z hc1f z) ?_))))))
        obtain ⟨x4n, e2w, hm4o⟩ := bdS (ifT hm2v hc1f)
        refine RX z (rd_atU (α := Bool) d_174 z_4 z z h18 e2w) ?_
        rintro _ ⟨g10e, h4p, rfl⟩
        refine E0 (ef_setN (α := Bool) z_4 z h4p z z z e2w h18 h1h Bool_own all_nil nd_nil) ?_
        rintro _ w4q ⟨S2x, s4r, h4s, h4t, h4u⟩
        refine Wl ?_
        have h4v : ∀ k ∈ S2x, k ∈ S10 ∨ w11.z ≤ k := or2 h4u (io sr) all_nil (leor lr)
        have h4w : Chg (· ∈ S10) w11 w4q := cM (cr S10 w11) s4r (io sr)
        exact fun _ q => ⟨x4n, som hm4o, S2x, (q.k (s6 z z z z z z)), h4w, h4s, h4t, h4v⟩
       have hm2y := ifF hm2v hc1f
       refine Rh z hc1f (mv z) (Rh z hc1f (rd_gtr z z) (Rh z hc1f (mv z) ?_))
       rcases bs (decide (0 < x1a)) with hc1k | hc1k
       ·refine Rh z hc1k (mv z) (Rh z hc1k (mv z) (Rh z hc1k (sb_ z z) ?_))
        obtain ⟨x10f, e4x, hm4y⟩ := bdS (ifT hm2y hc1k)
        refine RXg z z hc1k z (at_ (α := Bool) d_174 z_4 z z z (ownS.rep h18) e4x) ?_
        rintro _ ⟨b10g, o10h, cs10i, rfl, h4z, h50, h10j⟩
        obtain rfl := Bool_open h50
        refine Rh z hc1k (l1 g_4 z fid (h4z.at0 z)) (Rh z hc1f (pT z hc1k z) (R z (pF z hc1f z) ?_))
        obtain ⟨x51, e2z, hm52⟩ := bdS hm4y
        refine RX z (rd_atU (α := Bool) d_174 z_4 z z h18 e2z) ?_
        rintro _ ⟨g10k, h53, rfl⟩
        refine E0 (ef_setN (α := Bool) z_4 z h53 z z z e2z h18 h1h Bool_own all_nil nd_nil) ?_
        rintro _ w54 ⟨S30, s55, h56, h57, h58⟩
        refine Wl ?_
        have h59 : ∀ k ∈ S30, k ∈ S10 ∨ w11.z ≤ k := or2 h58 (io sr) all_nil (leor lr)
        have h5a : Chg (· ∈ S10) w11 w54 := cM (cr S10 w11) s55 (io sr)
        exact fun _ q => ⟨x51, som hm52, S30, (q.k (s6 z z z z z z)), h5a, h56, h57, h59⟩
       iterate 5 refine Nh z hc1k ?_
       refine Rh z hc1f (pF z hc1k z) (R z (pF z hc1f z) ?_)
       obtain ⟨x5b, e31, hm5c⟩ := bdS (ifF hm2y hc1k)
       refine RX z (rd_atU (α := Bool) d_174 z_4 z z h18 e31) ?_
       rintro _ ⟨g10l, h5d, rfl⟩
       refine E0 (ef_setN (α := Bool) z_4 z h5d z z z e31 h18 h1h Bool_own all_nil nd_nil) ?_
       rintro _ w5e ⟨S32, s5f, h5g, h5h, h5i⟩
       refine Wl ?_
       have h5j : ∀ k ∈ S32, k ∈ S10 ∨ w11.z ≤ k := or2 h5i (io sr) all_nil (leor lr)
       have h5k : Chg (· ∈ S10) w11 w5e := cM (cr S10 w11) s5f (io sr)
       exact fun _ q => ⟨x5b, som hm5c, S32, (q.k (s6 z z z z z z)), h5k, h5g, h5h, h5j⟩
      rintro a5l w5m ⟨x27, rfl, S21, hS10m, s5n, h5o, h5p, h5q⟩
      revert a5l
      refine Wo (WC_exit (exH ?_))
      have h5r : ∀ k ∈ S21, k ∈ S10 ∨ w11.z ≤ k := or1 h5q (io sr) (leor lr)
      have h5s : Chg (· ∈ S10) w11 w5m := cM (cr S10 w11) s5n (io sr)
      exact fun _ q => ⟨x27, som hm4i, S21, (q.k (s6 z z z z z z)), h5s, h5o, h5p, h5r⟩
     refine Wk (Wq (Wq ?_))
     obtain ⟨u5t, hu33, hm34⟩ := bdS (ifF hm2t hc2c)
     refine WC_cut (fun a w => ∃ (x2d : Bool), x2d = u5t ∧ Sat 111 [(0, sl A0 N0 C0), (1, sl A5 N5 C5), (5, sl a15 n16 c17), (6, (vI ((k1o : Nat) : Int))), (7, sl a1c n1d c1e), (8, vI x1a), (65, vB x2d)] a ∧ Below w11.z w11 w) ?_ ?_
     ·refine Wg (Rm z (R z (eql z z) (Rm z ?_)))
      rcases bs (x1a == 0) with hc1i | hc1i
      ·iterate 6 refine Nh z hc1i ?_
       exact R z (pT z hc1i z) (Wl (fun _ q => ⟨true, som (ifT hu33 hc1i), (q.k (s7 z z z z z z z)), (br w11)⟩))
      refine Rh z hc1i (mv z) (Rh z hc1i (mv z) (Rh z hc1i (sb_ z z) ?_))
      obtain ⟨x5u, e5v, hm5w⟩ := bdS (ifF hu33 hc1i)
      refine RXg z z hc1i z (at_ (α := Bool) d_174 z_4 z z z (ownS_rep ((h1p.ext s1t).chg s1r (dj_symm (mnr (ownS.lt h1p)))) (ownS.lt h1p)) e5v) ?_
      rintro _ ⟨b10n, o10o, cs10p, rfl, h5x, h5y, h10q⟩
      obtain rfl := Bool_open h5y
      exact Rh z hc1i (l1 g_4 z fid (h5x.at0 z)) (Rh z hc1i (not_ z) (R z (pF z hc1i z) (Wl (fun _ q => ⟨!x5u, som hm5w, (q.k (s7 z z z z z z z)), (br w11)⟩))))
     rintro a5z w35 ⟨x2d, rfl, hS10r, s1j⟩
     revert a5z
     refine Wo (Wc z (fun hc2e => ?_) (fun hc2e => ?_))
     ·refine WC_exit (exH ?_)
      have h60 : Chg (· ∈ S10) w11 w35 := cext (cr S10 w11) s1j
      exact fun _ q => ⟨x1u, som (ifT hm34 hc2e), S10, (q.k (s6 z z z z z z)), h60, (h18.ext s1j), h1h, (io sr)⟩
     refine Wk (Ws (Rm z (Rm z (R z (sb_ z z) ?_))))
     obtain ⟨x10s, e61, hm62⟩ := bdS (ifF hm34 hc2e)
     have h2f := h2s.ext s1j
     refine RX z (at_ (α := Str) d_77 z_9 z z z h2f e61) ?_
     rintro _ ⟨b10t, o10u, cs10v, rfl, h63, h64, h10w⟩
     obtain ⟨rfl, h65⟩ := Str_open h64
     refine R z (l1 g_9 z fid (h63.at0 z)) ?_
     obtain ⟨r10x, r66, e67, hm68⟩ := bd2S hm62
     refine E z (fc call153 z (W_w13 (B := B) e67 (lt_ hBw (lt_ (lt_ (lt_ h2q s1t.size) s1r.size) s1j.size)) h65)) ?_
     rintro _ w12 ⟨s1q, rfl, h10y⟩
     refine Rm z (R z (ext_ z z) (R z (ext_ z z) (Ra z (Ra z (Wn ?_)))))
     obtain ⟨u69, hu6a, hm6b⟩ := bdS hm68
     refine WC_cut (fun a w => ∃ (x28 : List Bool), x28 = u69 ∧ ∃  (S22 : List Nat), Sat 111 [(0, sl A0 N0 C0), (1, sl A5 N5 C5), (5, sl a15 n16 c17), (6, (vI ((k1o : Nat) : Int))), (7, sl a1c n1d c1e), (8, vI x1a)] a ∧ Chg (· ∈ S10) w12 w ∧ ownS w S22 (sl a1c n1d c1e) x28 ∧ S22.Nodup ∧ (∀ k ∈ S22, k ∈ S10 ∨ w12.z ≤ k)) ?_ ?_
     ·refine WC_draw (X := noX) 1073741824 (.rd 0 (.rd 1 (.rd 2 (.rd 3 (.rd 4 (.rd 5 (.rd 6 (.rd 7 (.rd 8 (.rd 9 (.rd 10 (.rd 11 (.rd 12 (.rd 13 (.rd 14 (.rd 15 (.rd 16 (.rd 17 (.rd 18 (.rd 19 (.rd 20 (.rd 21 (.rd 22 (.rd 23 (.rd 24 (.rd 25 (.rd 26 (.rd 27 (.rd 28 (.rd 29 (.ef 30 .done))))))))))))))))))))))))))))))) mo (by kernel_rfl) fun w23 s14 _ => ?_
      iterate 4 refine dR z z (mv z) ?_
      obtain ⟨x6c, e6d, hm36⟩ := bdS hu6a
      have h24 := ((h2u.ext s1j).ext s1q).ext s14
      refine dRX z z (at_ (α := Str) d_77 z_9 z z z h24 e6d) ?_
      rintro _ ⟨b10z, o110, cs111, rfl, h6e, h6f, h112⟩
      obtain ⟨rfl, h113⟩ := Str_open h6f
      refine dR z z (l1 g_9 z fid (h6e.at0 z)) (dR z z (rd_eqlT z z) (dR z z (mv z) ?_))
      rcases bs (x6c.b == (⟨[35]⟩ : Str).b) with hc1v | hc1v
      ·have hm37 := ifT hm36 hc1v
       refine dRg z z z hc1v z (mv z) (dR z z (pT z hc1v z) (dR z z (mv z) ?_))
       rcases bs r66 with hc13 | hc13
       ·iterate 11 refine dRn z z z hc13 z ?_
        iterate 5 refine dRu z z z z ?_
        refine dRn z z z hc13 z (dR z z (pT z hc13 z) ?_)
        obtain ⟨x6g, e38, hm6h⟩ := bdS (ifT hm37 hc13)
        have h39 := ((h18.ext s1j).ext s1q).ext s14
        refine dRX z z (rd_atU (α := Bool) d_174 z_4 z z h39 e38) ?_
        rintro _ ⟨g114, h6i, rfl⟩
        refine dE0 z (ef_setN (α := Bool) z_4 z h6i z z z e38 h39 h1h Bool_own all_nil nd_nil) (.inl z) ?_
        rintro _ w6j ⟨S3a, s6k, h6l, h6m, h6n⟩
        refine PR_done ?_
        have h6o : ∀ k ∈ S3a, k ∈ S10 ∨ w12.z ≤ k := or2 h6n (io sr) all_nil (leor s14.size)
        have h6p : Chg (· ∈ S10) w12 w23 := cext (cr S10 w12) s14
        have h6q : Chg (· ∈ S10) w12 w6j := cM h6p s6k (io sr)
        exact fun _ q => ⟨x6g, som hm6h, S3a, (q.k (s6 z z z z z z)), h6q, h6l, h6m, h6o⟩
       refine dRg z z z hc13 z (mv z) (dRg z z z hc13 z (mv z) ?_)
       obtain ⟨x6r, e6s, hm6t⟩ := bdS (ifF hm37 hc13)
       refine dRXg z z z hc13 z (at_ (α := Str) d_77 z_9 z z z h24 e6s) ?_
       rintro _ ⟨b115, o116, cs117, rfl, h6u, h6v, h118⟩
       obtain ⟨rfl, h119⟩ := Str_open h6v
       refine dRg z z z hc13 z (l1 g_9 z fid (h6u.at0 z)) (dRg z z z hc13 z (mv z) (dRg z z z hc13 z (mv z) (dRg z z z hc13 z (sb_ z z) ?_)))
       obtain ⟨x6w, e6x, hm3b⟩ := bdS hm6t
       refine dRXg z z z hc13 z (at_ (α := Str) d_77 z_9 z z z ((h2f.ext s1q).ext s14) e6x) ?_
       rintro _ ⟨b11a, o11b, cs11c, rfl, h6y, h6z, h11d⟩
       obtain ⟨rfl, h11e⟩ := Str_open h6z
       refine dRg z z z hc13 z (l1 g_9 z fid (h6y.at0 z)) (dRg z z z hc13 z (rd_eqlT z z) (dRg z z z hc13 z (mv z) ?_))
       rcases bs (x6r.b == x6w.b) with hc1l | hc1l
       ·refine dRg z z z hc1l z (mv z) (dRg z z z hc1l z (mv z) ?_)
        obtain ⟨x11f, e70, hm71⟩ := bdS (ifT hm3b hc1l)
        refine dRXg z z z hc1l z (at_ (α := Str) d_77 z_9 z z z h24 e70) ?_
        rintro _ ⟨b11g, o11h, cs11i, rfl, h72, h73, h11j⟩
        obtain ⟨rfl, h11k⟩ := Str_open h73
        refine dRg z z z hc1l z (l1 g_9 z fid (h72.at0 z)) (dRg z z z hc1l z (rd_neqT z z) (dRg z z z hc13 z (pT z hc1l z) (dR z z (pF z hc13 z) ?_)))
        obtain ⟨x74, e3c, hm75⟩ := bdS hm71
        have h3d := ((h18.ext s1j).ext s1q).ext s14
        refine dRX z z (rd_atU (α := Bool) d_174 z_4 z z h3d e3c) ?_
        rintro _ ⟨g11l, h76, rfl⟩
        refine dE0 z (ef_setN (α := Bool) z_4 z h76 z z z e3c h3d h1h Bool_own all_nil nd_nil) (.inl z) ?_
        rintro _ w77 ⟨S3e, s78, h79, h7a, h7b⟩
        refine PR_done ?_
        have h7c : ∀ k ∈ S3e, k ∈ S10 ∨ w12.z ≤ k := or2 h7b (io sr) all_nil (leor s14.size)
        have h7d : Chg (· ∈ S10) w12 w23 := cext (cr S10 w12) s14
        have h7e : Chg (· ∈ S10) w12 w77 := cM h7d s78 (io sr)
        exact fun _ q => ⟨x74, som hm75, S3e, (q.k (s6 z z z z z z)), h7e, h79, h7a, h7c⟩
       iterate 5 refine dRn z z z hc1l z ?_
       refine dRg z z z hc13 z (pF z hc1l z) (dR z z (pF z hc13 z) ?_)
       obtain ⟨x7f, e3f, hm7g⟩ := bdS (ifF hm3b hc1l)
       have h3g := ((h18.ext s1j).ext s1q).ext s14
       refine dRX z z (rd_atU (α := Bool) d_174 z_4 z z h3g e3f) ?_
       rintro _ ⟨g11m, h7h, rfl⟩
       refine dE0 z (ef_setN (α := Bool) z_4 z h7h z z z e3f h3g h1h Bool_own all_nil nd_nil) (.inl z) ?_
       rintro _ w7i ⟨S3h, s7j, h7k, h7l, h7m⟩
       refine PR_done ?_
       have h7n : ∀ k ∈ S3h, k ∈ S10 ∨ w12.z ≤ k := or2 h7m (io sr) all_nil (leor s14.size)
       have h7o : Chg (· ∈ S10) w12 w23 := cext (cr S10 w12) s14
       have h7p : Chg (· ∈ S10) w12 w7i := cM h7o s7j (io sr)
       exact fun _ q => ⟨x7f, som hm7g, S3h, (q.k (s6 z z z z z z)), h7p, h7k, h7l, h7n⟩
      refine dRn z z z hc1v z (dR z z (pF z hc1v z) (dR z z (mv z) (dRg z z z z z (mv z) (dRg z z z z z (mv z) ?_))))
      obtain ⟨x7q, e7r, hm7s⟩ := bdS (ifF hm36 hc1v)
      refine dRXg z z z z z (at_ (α := Str) d_77 z_9 z z z h24 e7r) ?_
      rintro _ ⟨b11n, o11o, cs11p, rfl, h7t, h7u, h11q⟩
      obtain ⟨rfl, h11r⟩ := Str_open h7u
      refine dRg z z z z z (l1 g_9 z fid (h7t.at0 z)) (dRg z z z z z (mv z) (dRg z z z z z (mv z) (dRg z z z z z (sb_ z z) ?_)))
      obtain ⟨x7v, e7w, hm3i⟩ := bdS hm7s
      refine dRXg z z z z z (at_ (α := Str) d_77 z_9 z z z ((h2f.ext s1q).ext s14) e7w) ?_
      rintro _ ⟨b11s, o11t, cs11u, rfl, h7x, h7y, h11v⟩
      obtain ⟨rfl, h11w⟩ := Str_open h7y
      refine dRg z z z z z (l1 g_9 z fid (h7x.at0 z)) (dRg z z z z z (rd_eqlT z z) (dRg z z z z z (mv z) ?_))
      rcases bs (x7q.b == x7v.b) with hc1m | hc1m
      ·refine dRg z z z hc1m z (mv z) (dRg z z z hc1m z (mv z) ?_)
       obtain ⟨x11x, e7z, hm80⟩ := bdS (ifT hm3i hc1m)
       refine dRXg z z z hc1m z (at_ (α := Str) d_77 z_9 z z z h24 e7z) ?_
       rintro _ ⟨b11y, o11z, cs120, rfl, h81, h82, h121⟩
       obtain ⟨rfl, h122⟩ := Str_open h82
       refine dRg z z z hc1m z (l1 g_9 z fid (h81.at0 z)) (dRg z z z hc1m z (rd_neqT z z) (dRg z z z z z (pT z hc1m z) (dR z z (pF z z z) ?_)))
       obtain ⟨x83, e3j, hm84⟩ := bdS hm80
       have h3k := ((h18.ext s1j).ext s1q).ext s14
       refine dRX z z (rd_atU (α := Bool) d_174 z_4 z z h3k e3j) ?_
       rintro _ ⟨g123, h85, rfl⟩
       refine dE0 z (ef_setN (α := Bool) z_4 z h85 z z z e3j h3k h1h Bool_own all_nil nd_nil) (.inl z) ?_
       rintro _ w86 ⟨S3l, s87, h88, h89, h8a⟩
       refine PR_done ?_
       have h8b : ∀ k ∈ S3l, k ∈ S10 ∨ w12.z ≤ k := or2 h8a (io sr) all_nil (leor s14.size)
       have h8c : Chg (· ∈ S10) w12 w23 := cext (cr S10 w12) s14
       have h8d : Chg (· ∈ S10) w12 w86 := cM h8c s87 (io sr)
       exact fun _ q => ⟨x83, som hm84, S3l, (q.k (s6 z z z z z z)), h8d, h88, h89, h8b⟩
      iterate 5 refine dRn z z z hc1m z ?_
      refine dRg z z z z z (pF z hc1m z) (dR z z (pF z z z) ?_)
      obtain ⟨x8e, e3m, hm8f⟩ := bdS (ifF hm3i hc1m)
      have h3n := ((h18.ext s1j).ext s1q).ext s14
      refine dRX z z (rd_atU (α := Bool) d_174 z_4 z z h3n e3m) ?_
      rintro _ ⟨g124, h8g, rfl⟩
      refine dE0 z (ef_setN (α := Bool) z_4 z h8g z z z e3m h3n h1h Bool_own all_nil nd_nil) (.inl z) ?_
      rintro _ w8h ⟨S3o, s8i, h8j, h8k, h8l⟩
      refine PR_done ?_
      have h8m : ∀ k ∈ S3o, k ∈ S10 ∨ w12.z ≤ k := or2 h8l (io sr) all_nil (leor s14.size)
      have h8n : Chg (· ∈ S10) w12 w23 := cext (cr S10 w12) s14
      have h8o : Chg (· ∈ S10) w12 w8h := cM h8n s8i (io sr)
      exact fun _ q => ⟨x8e, som hm8f, S3o, (q.k (s6 z z z z z z)), h8o, h8j, h8k, h8m⟩
     rintro a8p w8q ⟨x28, rfl, S22, hS125, s8r, h8s, h8t, h8u⟩
     revert a8p
     have h8v : ∀ k ∈ S22, k ∈ S10 ∨ w11.z ≤ k := or1 h8u (io sr) (leor (lt_ s1j.size s1q.size))
     have h8w : Chg (· ∈ S10) w11 w35 := cext (cr S10 w11) s1j
     have h8x : Chg (· ∈ S10) w11 w12 := cext h8w s1q
     have h8y : Chg (· ∈ S10) w11 w8q := cM h8x s8r (io sr)
     exact fun _ q => ⟨x28, som hm6b, S22, (q.k (s6 z z z z z z)), h8y, h8s, h8t, h8v⟩
    rintro a8z w90 ⟨x26, rfl, S20, hS126, s91, h92, h93, h94⟩
    revert a8z
    refine Wo (Wg (Rm z (R z (add_ z z) (Ra z (Wl ?_)))))
    have h3p : ∀ k ∈ S10, k ∈ [w19.z] ∨ w1b.z ≤ k := or1 h25 (io sr) (leor lr)
    have h95 : ∀ k ∈ S20, k ∈ [w19.z] ∨ w1b.z ≤ k := or1 h94 h3p (leor s1r.size)
    have h96 : Chg (· ∈ [w19.z]) w1b w11 := cM (cr [w19.z] w1b) s1r (io sr)
    have h97 : Chg (· ∈ [w19.z]) w1b w90 := cM h96 s91 h3p
    exact fun _ q => ⟨(x26, iadd x1a 1), (som hm4c).symm, ⟨S20, (q.k (s6 z z z z z z)), h97, h92, h93, h95, (iA _ _)⟩⟩
   have h98 : ∀ k ∈ S10, k ∈ [w19.z] ∨ w1b.z ≤ k := or1 h25 (io sr) (leor lr)
   have h99 : Chg (· ∈ [w19.z]) w1b w11 := cM (cr [w19.z] w1b) s1r (io sr)
   exact WC_exit (fun a' ha' => QO_brk (som (ifF hm2p hc2b)).symm ⟨S10, (Sat.weaken ha' (s4 z z z z)), h99, h18, h1h, h98, h2o⟩)
  ·rintro ⟨x1u, x1a⟩ a9a w127 rfl ⟨S10, hS128, s9b, h18, h1h, h25, h2o⟩
   have hm9c := elL hm2n
   have hm9d := un2S hm9c
   revert a9a
   refine Wo (Wg (Rm z (Ra z (Wn (Wg (Rm z (R z (inc_ hk2j (lt_ (repS.len p1_0) LEN_le) z z) (Ra z (Wl ?_)))))))))
   have h9e : ∀ k ∈ [w19.z], k ∈ S1x ∨ w1n.z ≤ k := mor s1s.size
   have h9f : ∀ k ∈ S10, k ∈ S1x ∨ w1n.z ≤ k := or1 h25 h9e (leor (lt_ s1s.size s1t.size))
   exact fun _ q => ⟨x1u, (som hm9d).symm, ⟨a1c, n1d, c1e, S10, (q.k (s4 z z z z)), (bM (bup s1s s1t) s9b (mem1le s1s.size)), h18, h1h, h9f⟩⟩
  rintro r129 ex12a a12b w12c rfl ⟨rfl, hq9g⟩
  have hm9h := elR hm2n
  exact ⟨(inbR (QO_ret (som hm9h).symm ⟨rfl, hq9g⟩)), z⟩
 ·rintro x1z a12d w12e ⟨a15, n16, c17, S1g, hS9i, s3q, h1p, h29, h2a⟩
  refine Wu ?_ hS9i
  refine Wq (Ws (Rm z (Rm z (R z (lnR d_77 z (((p1_0.ext s1w).chg s1y (lg (mem1le hBw))).ext s3q)) (R z (lss z z) (Wn (Wc z (fun hc => (noltt hc).elim) (fun _ => ?_))))))))
  have h9j : ∀ k ∈ S1g, k ∈ S1x ∨ w1n.z ≤ k := or1 h2a (io sr) (leor lr)
  exact WC_exit (fun a' ha' => ⟨rfl, ⟨a15, n16, c17, S1g, (Sat.weaken ha' (s2 z z)), s3q, h1p, h29, h9j⟩⟩)
 ·rintro x1z a9k w12f rfl ⟨a15, n16, c17, S1g, hS12g, s3r, h1p, h29, h2a⟩
  have hm9l := elL hm2i
  revert a9k
  refine Wo (Ws (Rm z (Rm z (R z (lnR d_77 z (((p2_0.ext s1w).chg s1y (lg (mem1le hBw))).ext s3r)) ?_))))
  obtain ⟨x12h, e9m, hm9n⟩ := bdS hm9l
  refine RX z (at_ (α := Bool) d_174 z_4 z z z (ownS.rep h1p) e9m) ?_
  rintro _ ⟨b12i, o12j, cs12k, rfl, h9o, h9p, h12l⟩
  obtain rfl := Bool_open h9p
  refine R z (l1 g_4 z fid (h9o.at0 z)) (Ra z (Wn ?_))
  obtain rfl := som hm9n
  exact Wr (ret1 hr z ⟨(bup (bM s1w s1y (mem1 lr)) s3r), z⟩)
 rintro r12m ex12n a12o w12p rfl ⟨rfl, hq9q⟩
 have hm9r := elR hm2i
 obtain rfl := som hm9r
 exact ⟨hq9q, z⟩
theorem W_w2c {x1 : Str} {x2 : Str} {res : Bool} (hm : M_spec_MatchPath n x1 x2 = some res) (hBw : B ≤ w0.z) (p1_0 : x1.b.length ≤ LEN) (p2_0 : x2.b.length ≤ LEN) : CallsR prog 57 [Str.v x1, Str.v x2] w0 (Q7 w0 B res) := by
 unfold M_spec_MatchPath at hm
 refine goF func57 z z (lb z) fun fn hr => Ws (Ra z (Wn (Ws (Rm z ?_))))
 obtain ⟨r1o, r18, e19, hm1a⟩ := bd2S hm
 refine E z (fc call103 z (W_w29 (B := B) e19 hBw p1_0)) ?_
 rintro _ w1p ⟨s15, a1q, n1r, c1s, rfl, h1b⟩
 refine Rm z (R z (ext_ z z) (R z (ext_ z z) (Ra z (Ra z (Wn (Ws (Rm z ?_)))))))
 obtain ⟨r1t, r1c, e1d, hm1e⟩ := bd2S hm1a
 refine E z (fc call96 z (W_w2a (B := B) e1d (lt_ hBw s15.size) p2_0)) ?_
 rintro _ w12 ⟨s13, a1u, n1v, c1w, rfl, h1f⟩
 refine Rm z (R z (ext_ z z) (R z (ext_ z z) (Ra z (Ra z (Wn (Wq ?_))))))
 obtain ⟨u1g, hu16, hm1h⟩ := bdS hm1e
 refine WC_cut (fun a w => ∃ (x14 : Bool), x14 = u1g ∧ Sat 28 [(4, vB x14)] a ∧ Below w12.z w12 w) ?_ ?_
 ·refine Wg (Rm z (Rm z ?_))
  rcases bs r18 with hc11 | hc11
  ·have hm17 := ifT hu16 hc11
   refine Rh z hc11 (mv z) (R z (pT z hc11 z) (Rm z ?_))
   rcases bs r1c with hc10 | hc10
   ·refine Rh z hc10 (mv z) (Rh z hc10 (mv z) ?_)
    obtain ⟨r1i, e1j, hm1k⟩ := bdS (ifT hm17 hc10)
    refine Eg z z hc10 z (fc call104 z (W_w2b (B := w12.z) e1j lr (repS.mono (h1b.ext s13) s13.size) h1f)) ?_
    rintro _ w1x ⟨s1l, rfl⟩
    exact R z (pT z hc10 z) (Ra z (Wl (fun _ q => ⟨r1i, som hm1k, (q.k (s1 z)), s1l⟩)))
   iterate 3 refine Nh z hc10 ?_
   exact R z (pF z hc10 z) (Ra z (Wl (fun _ q => ⟨false, som (ifF hm17 hc10), (q.k (s1 z)), (br w12)⟩)))
  exact Nh z hc11 (R z (pF z hc11 z) (Rm z (Nh z z (Nh z z (Nh z z (R z (pF z z z) (Ra z (Wl (fun _ q => ⟨false, som (ifF hu16 hc11), (q.k (s1 z)), (br w12)⟩)))))))))
 rintro a1m w1y ⟨x14, rfl, hS1z, s1n⟩
 revert a1m
 refine Wo ?_
 obtain rfl := som hm1h
 exact Wr (ret1 hr z ⟨(bup (bup s15 s13) s1n), z⟩)
def Q16 (w0 : World) (B : Nat) (r : (List Entry)) (v : Value) (w' : World) : Prop := Bw w0 w' ∧ (fun r1 => ∃ a1 n1 c1 S1, (sl a1 n1 c1) = v ∧ ownS w' S1 (sl a1 n1 c1) r1 ∧ S1.Nodup ∧ (∀ k ∈ S1, w0.z ≤ k)) r
end Go.Vw

