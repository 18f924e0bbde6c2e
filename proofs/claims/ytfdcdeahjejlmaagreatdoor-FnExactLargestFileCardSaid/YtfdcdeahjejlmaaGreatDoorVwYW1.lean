import Derived.Test.YtfdcdeahjejlmaaGreatDoorVwTModels
import Derived.Test.YtfdcdeahjejlmaaGreatDoorVwYFacts
import Derived.Test.YtfdcdeahjejlmaaGreatDoorVwYExt
import Derived.Test.YtfdcdeahjejlmaaGreatDoorVwGen6
import Derived.Test.YtfdcdeahjejlmaaGreatDoorVwMap
import Derived.Test.YtfdcdeahjejlmaaGreatDoorVwCut
import Derived.Test.YtfdcdeahjejlmaaGreatDoorVwFun
import Derived.Test.YtfdcdeahjejlmaaGreatDoorVwShr
import Derived.Test.YtfdcdeahjejlmaaGreatDoorVwArc
import Derived.Test.YtfdcdeahjejlmaaGreatDoorVwPan
import Derived.Test.YtfdcdeahjejlmaaGreatDoorVwMap
import Derived.Test.YtfdcdeahjejlmaaGreatDoorProg
import Derived.Test.YtfdcdeahjejlmaaGreatDoorVwShort
set_option linter.unusedVariables false
namespace Go.Vw
open Go.RowKit Dat Go.Proofs
open Go.Proofs.Tryz
open Go.Vw renaming WC_seq → Wq, WC_region → Wg, WC.of_KC → Wo, WL_nil → Wl, WC_cond → Wc, WC_ret → Wr, WC_run → Wu, rd_pickT → pT, rd_pickF → pF, rd_field → fd, rd_load1 → l1, rd_loadN → lN, rd_move → mv, rd_assign → asg, rd_lenR → lnR, rd_lss → lss, rd_eql → eql, rd_extract → ext_, rd_buildP → bP, rd_add → add_, rd_inc → inc_, rd_not → not_, rd_at → at_, ef_call → fc, ef_store → fs, ef_box → fb, ef_alloc → fa, sub_refl → sr, crefl → cr, cchgM → cM, bchgM → bM, inI_sub → iS, inI_add → iA, brefl → br, oneAll → oA, bsplit → bs, ltge → lg, inor → io, rd_neq → nq, rd_lenT → lnT, rd_sub → sb_
variable {A0 : Option Addr} {N0 C0 : Nat} {B : Nat} {w0 : World} {A9 : Option Addr} {A8 : Option Addr} {AA : Option Addr} {AB : Option Addr} {N9 C9 : Nat} {N8 C8 : Nat} {NA CA : Nat} {NB CB : Nat} {A3 : Option Addr} {N3 C3 : Nat} {n : Nat} {AD : Option Addr} {ND CD : Nat} {A6 : Option Addr} {N6 C6 : Nat} {AG : Option Addr} {NG CG : Nat} {A2 : Option Addr} {A4 : Option Addr} {A1 : Option Addr} {A5 : Option Addr} {N2 C2 : Nat} {N4 C4 : Nat} {N1 C1 : Nat} {N5 C5 : Nat} {A7 : Option Addr} {N7 C7 : Nat} {AH : Option Addr} {NH CH : Nat} {AC : Option Addr} {NC CC : Nat}
def Q0 (w0 : World) (B : Nat) (r : Int) (v : Value) (w' : World) : Prop := Bw w0 w' ∧ (fun r1 => (vI r1) = v ∧ inI r1) r
theorem W_w0k {x1 : List UInt8} {x2 : Int} {res : Int} (hm : M_laws_szByteS x1 x2 = some res) (hBw : B ≤ w0.z) (p1_0 : repS w0 B (sl A0 N0 C0) x1) (p2_0 : inI x2) : CallsR prog 64 [sl A0 N0 C0, vI x2] w0 (Q0 w0 B res) := by
 unfold M_laws_szByteS at hm
 refine goF func64 z z (lb z) fun fn hr => Ws (Ra z (Wn (Ws (Rm z (Rm z (R z (lnR d_25 z p1_0) (R z (sb_ z z) (Ra z (Wn (Wq (Ws (Rm z (R z (lss z z) (Wn (Wc z (fun hc10 => ?_) (fun hc10 => ?_))))))))))))))))
 ·refine Ws (Ra z (Wn ?_))
  obtain rfl := som (ifT hm hc10)
  exact Wr (ret1 hr z ⟨(br w0), z, (ii z)⟩)
 refine Wk (Ws (Rm z (Ra z (Wn ?_))))
 obtain rfl := som (ifF hm hc10)
 exact Wr (ret1 hr z ⟨(br w0), z, (iS _ _)⟩)
theorem W_w1i {x1 : List Str} {x2 : Int} {res : Int} (hm : M_laws_szStringS x1 x2 = some res) (hBw : B ≤ w0.z) (p1_0 : repS w0 B (sl A0 N0 C0) x1) (p2_0 : inI x2) : CallsR prog 160 [sl A0 N0 C0, vI x2] w0 (Q0 w0 B res) := by
 unfold M_laws_szStringS at hm
 refine goF func160 z z (lb z) fun fn hr => Ws (Ra z (Wn (Ws (Rm z (Rm z (R z (lnR d_41 z p1_0) (R z (sb_ z z) (Ra z (Wn (Wq (Ws (Rm z (R z (lss z z) (Wn (Wc z (fun hc12 => ?_) (fun hc12 => ?_))))))))))))))))
 ·refine Ws (Ra z (Wn ?_))
  obtain rfl := som (ifT hm hc12)
  exact Wr (ret1 hr z ⟨(br w0), z, (ii z)⟩)
 refine Wk (Wq (Ws (Ra z (Wn ?_))))
 obtain ⟨u1o, hu1b, hm16⟩ := bdS (ifF hm hc12)
 refine WC_forN (σ := Int) (ρ := Int) (fun (k13 : Nat) (x10 : Int) a w => Sat 28 [(0, sl A0 N0 C0), (1, vI x10), (5, (vI ((k13 : Nat) : Int)))] a ∧ Below w0.z w0 w ∧ inI x10) (fun (x10 : Int) a w => Sat 28 [(1, vI x10)] a ∧ Below w0.z w0 w ∧ inI x10) (fun r ex a w => ex = .ret ∧ RetPost prog fn (Q0 w0 B r) a w) hu1b ?_ ?_ ?_ ?_ ?_
 ·exact fun _ q => ⟨(q.k (s3 z z z)), (br w0), (iS _ _)⟩
 ·rintro k13 x10 a1p w1q o1r hk17 ⟨hS1c, s14, h11⟩ hm1d
  refine Wu ?_ hS1c
  refine Wq (Ws (Rm z (Rm z ?_)))
  have h18 := p1_0.ext s14
  refine R z (lnR d_41 z h18) (R z (lss z z) (Wn (Wc z (fun _ => ?_) (fun hc => (nolt hk17 hc).elim))))
  refine Wk (Wq (WC_block (Ws (Rm z (Rm z (Rm z ?_))))))
  obtain ⟨x1e, e1f, hm19⟩ := bdS hm1d
  refine RX z (at_ (α := Str) d_41 z_9 z z z h18 e1f) ?_
  rintro _ ⟨b1s, o1t, cs1u, rfl, h1g, h1h, h1v⟩
  obtain ⟨rfl, h1w⟩ := Str_open h1h
  refine R z (l1 g_9 z fid (h1g.at0 z)) (R z (lnT d_9 z) (R z (sb_ z z) (Ra z (Wn (Ws (Rm z (R z (lss z z) (Wn (Wc z (fun hc15 => ?_) (fun hc15 => ?_))))))))))
  ·exact Ws (Ra z (Wn (Wr (rtO (QO_retL (som (ifT hm19 hc15)).symm (ret1 hr z ⟨s14, z, (ii z)⟩))))))
  exact Wk (Wg (Rm z (R z (inc_ hk17 (lt_ (repS.len p1_0) LEN_le) z z) (Ra z (Wl (fun _ q => ⟨isub x10 (x1e.b.length : Int), (som (ifF hm19 hc15)).symm, ⟨(q.k (s3 z z z)), s14, (iS _ _)⟩⟩))))))
 ·rintro x10 a1x w1y ⟨hS1i, s1a, h11⟩
  refine Wu ?_ hS1i
  refine Wq (Ws (Rm z (Rm z (R z (lnR d_41 z (p1_0.ext s1a)) (R z (lss z z) (Wn (Wc z (fun hc => (noltt hc).elim) (fun _ => ?_))))))))
  exact WC_exit (fun a' ha' => ⟨rfl, ⟨(Sat.weaken ha' (s1 z)), s1a, h11⟩⟩)
 ·rintro x10 a1j w1z rfl ⟨hS20, s1k, h11⟩
  have hm1l := elL hm16
  revert a1j
  refine Wo (Ws (Rm z (Ra z (Wn ?_))))
  obtain rfl := som hm1l
  exact Wr (ret1 hr z ⟨s1k, z, h11⟩)
 rintro r21 ex22 a23 w24 rfl ⟨rfl, hq1m⟩
 have hm1n := elR hm16
 obtain rfl := som hm1n
 exact ⟨hq1m, z⟩
theorem W_w0l {x1 : List Int} {x2 : Int} {res : Int} (hm : M_laws_szIntS x1 x2 = some res) (hBw : B ≤ w0.z) (p1_0 : repS w0 B (sl A0 N0 C0) x1) (p2_0 : inI x2) : CallsR prog 161 [sl A0 N0 C0, vI x2] w0 (Q0 w0 B res) := by
 unfold M_laws_szIntS at hm
 refine goF func161 z z (lb z) fun fn hr => Ws (Ra z (Wn (Ws (Rm z (Rm z (R z (lnR d_142 z p1_0) (R z (sb_ z z) (Ra z (Wn (Wq (Ws (Rm z (R z (lss z z) (Wn (Wc z (fun hc10 => ?_) (fun hc10 => ?_))))))))))))))))
 ·refine Ws (Ra z (Wn ?_))
  obtain rfl := som (ifT hm hc10)
  exact Wr (ret1 hr z ⟨(br w0), z, (ii z)⟩)
 refine Wk (Ws (Rm z (Ra z (Wn ?_))))
 obtain rfl := som (ifF hm hc10)
 exact Wr (ret1 hr z ⟨(br w0), z, (iS _ _)⟩)
theorem W_w1j {x1 : Rule} {x2 : Int} {res : Int} (hm : M_laws_szRule x1 x2 = some res) (hBw : B ≤ w0.z) (p1_0 : x1.name.b.length ≤ LEN) (p1_1 : inI x1.kind) (p1_2 : inI x1.size) (p1_4 : repS w0 B (sl A9 N9 C9) x1.bytes) (p1_5 : repS w0 B (sl A8 N8 C8) x1.names) (p1_6 : repS w0 B (sl AA NA CA) x1.tags) (p1_7 : repS w0 B (sl AB NB CB) x1.kids) (p2_0 : inI x2) : CallsR prog 144 [(.agg #[Str.v x1.name, vI x1.kind, vI x1.size, vB x1.little, sl A9 N9 C9, sl A8 N8 C8, sl AA NA CA, sl AB NB CB]), vI x2] w0 (Q0 w0 B res) := by
 unfold M_laws_szRule at hm
 refine goF func144 z z (lb z) fun fn hr => Ws (E z (fb z) ?_)
 rintro _ w1k ⟨rfl, h1a⟩
 have h10 := h1a.below
 have h14 : Blk w1k w0.z (vR x1 A9 N9 C9 A8 N8 C8 AA NA CA AB NB CB) := h1a.blk
 refine Ra z (Wn (Ws (Rm z (R z (fd f_151_0 z) (R z (l1 g_9 z fid (h14.at z)) (R z (lnT d_9 z) (R z (sb_ z z) (Ra z (Wn (Wq (Ws (Rm z (R z (lss z z) (Wn (Wc z (fun hc15 => ?_) (fun hc15 => ?_))))))))))))))))
 ·refine Ws (Ra z (Wn ?_))
  obtain rfl := som (ifT hm hc15)
  exact Wr (ret1 hr z ⟨h10, z, (ii z)⟩)
 refine Wk (Ws (R z (fd f_151_4 z) (R z (l1 g_25 z fid (h14.at z)) (Rm z ?_))))
 obtain ⟨r1t, e1l, hm1b⟩ := bdS (ifF hm hc15)
 refine E z (fc call64 z (W_w0k (B := B) e1l (lt_ hBw h10.size) (p1_4.ext h10) (iS _ _))) ?_
 rintro _ w1u ⟨s11, rfl, h1m⟩
 refine Ra z (Wn (Wq (Ws (Rm z (R z (lss z z) (Wn (Wc z (fun hc16 => ?_) (fun hc16 => ?_))))))))
 ·refine Ws (Ra z (Wn ?_))
  obtain rfl := som (ifT hm1b hc16)
  exact Wr (ret1 hr z ⟨(bup h10 s11), z, (ii z)⟩)
 refine Wk (Ws (R z (fd f_151_5 z) ?_))
 have h1c := h14.ext s11
 refine R z (l1 g_41 z fid (h1c.at z)) (Rm z ?_)
 have h1d := lt_ h10.size s11.size
 obtain ⟨r1v, e1n, hm1e⟩ := bdS (ifF hm1b hc16)
 refine E z (fc call160 z (W_w1i (B := B) e1n (lt_ hBw h1d) ((p1_5.ext h10).ext s11) h1m)) ?_
 rintro _ w1w ⟨s12, rfl, h1o⟩
 refine Ra z (Wn (Wq (Ws (Rm z (R z (lss z z) (Wn (Wc z (fun hc17 => ?_) (fun hc17 => ?_))))))))
 ·refine Ws (Ra z (Wn ?_))
  obtain rfl := som (ifT hm1e hc17)
  exact Wr (ret1 hr z ⟨(bup (bup h10 s11) s12), z, (ii z)⟩)
 refine Wk (Ws (R z (fd f_151_6 z) ?_))
 have h1f := h1c.ext s12
 refine R z (l1 g_142 z fid (h1f.at z)) (Rm z ?_)
 have h1g := lt_ h1d s12.size
 obtain ⟨r1x, e1p, hm1h⟩ := bdS (ifF hm1e hc17)
 refine E z (fc call161 z (W_w0l (B := B) e1p (lt_ hBw h1g) (((p1_6.ext h10).ext s11).ext s12) h1o)) ?_
 rintro _ w1y ⟨s13, rfl, h1q⟩
 refine Ra z (Wn (Wq (Ws (Rm z (R z (lss z z) (Wn (Wc z (fun hc18 => ?_) (fun hc18 => ?_))))))))
 ·refine Ws (Ra z (Wn ?_))
  obtain rfl := som (ifT hm1h hc18)
  exact Wr (ret1 hr z ⟨(bup (bup (bup h10 s11) s12) s13), z, (ii z)⟩)
 refine Wk (Ws (R z (fd f_151_7 z) (R z (l1 g_142 z fid ((h1f.ext s13).at z)) (Rm z ?_))))
 obtain ⟨r1z, e1r, hm1i⟩ := bdS (ifF hm1h hc18)
 refine E z (fc call161 z (W_w0l (B := B) e1r (lt_ hBw (lt_ h1g s13.size)) ((((p1_7.ext h10).ext s11).ext s12).ext s13) h1q)) ?_
 rintro _ w20 ⟨s1j, rfl, h1s⟩
 refine Ra z (Wn (Wq (Ws (Rm z (R z (lss z z) (Wn (Wc z (fun hc19 => ?_) (fun hc19 => ?_))))))))
 ·refine Ws (Ra z (Wn ?_))
  obtain rfl := som (ifT hm1i hc19)
  exact Wr (ret1 hr z ⟨(bup (bup (bup (bup h10 s11) s12) s13) s1j), z, (ii z)⟩)
 refine Wk (Ws (Rm z (Ra z (Wn ?_))))
 obtain rfl := som (ifF hm1i hc19)
 exact Wr (ret1 hr z ⟨(bup (bup (bup (bup h10 s11) s12) s13) s1j), z, h1s⟩)
theorem W_w1k {x1 : List Rule} {x2 : Int} {res : Int} (hm : M_laws_szRuleS x1 x2 = some res) (hBw : B ≤ w0.z) (p1_0 : repS w0 B (sl A0 N0 C0) x1) (p2_0 : inI x2) : CallsR prog 123 [sl A0 N0 C0, vI x2] w0 (Q0 w0 B res) := by
 unfold M_laws_szRuleS at hm
 refine goF func123 z z (lb z) fun fn hr => Ws (Ra z (Wn (Ws (Rm z (Rm z (R z (lnR d_108 z p1_0) (R z (sb_ z z) (Ra z (Wn (Wq (Ws (Rm z (R z (lss z z) (Wn (Wc z (fun hc14 => ?_) (fun hc14 => ?_))))))))))))))))
 ·refine Ws (Ra z (Wn ?_))
  obtain rfl := som (ifT hm hc14)
  exact Wr (ret1 hr z ⟨(br w0), z, (ii z)⟩)
 refine Wk (Wq (Ws (Ra z (Wn ?_))))
 obtain ⟨u2c, hu1d, hm17⟩ := bdS (ifF hm hc14)
 refine WC_forN (σ := Int) (ρ := Int) (fun (k15 : Nat) (x10 : Int) a w => Sat 27 [(0, sl A0 N0 C0), (1, vI x10), (5, (vI ((k15 : Nat) : Int)))] a ∧ Below w0.z w0 w ∧ inI x10) (fun (x10 : Int) a w => Sat 27 [(1, vI x10)] a ∧ Below w0.z w0 w ∧ inI x10) (fun r ex a w => ex = .ret ∧ RetPost prog fn (Q0 w0 B r) a w) hu1d ?_ ?_ ?_ ?_ ?_
 ·exact fun _ q => ⟨(q.k (s3 z z z)), (br w0), (iS _ _)⟩
 ·rintro k15 x10 a2d w2e o2f hk18 ⟨hS1e, s12, h11⟩ hm1f
  refine Wu ?_ hS1e
  refine Wq (Ws (Rm z (Rm z ?_)))
  have h19 := p1_0.ext s12
  refine R z (lnR d_108 z h19) (R z (lss z z) (Wn (Wc z (fun _ => ?_) (fun hc => (nolt hk18 hc).elim))))
  refine Wk (Wq (WC_block (Ws (Rm z (Rm z ?_)))))
  obtain ⟨x13, e1g, hm1h⟩ := bdS hm1f
  refine RX z (at_ (α := Rule) d_108 z_151 z z z h19 e1g) ?_
  rintro _ ⟨b2g, o2h, cs2i, rfl, h1i, h1j, h2j⟩
  obtain ⟨a1k, n1l, c1m, a1n, n1o, c1p, a1q, n1r, c1s, a1t, n1u, c1v, rfl, h1w, h1x, h1y, h1z, h20, h21, h22⟩ := Rule_open h1j
  refine R z (lN (vs := (vR x13 a1k n1l c1m a1n n1o c1p a1q n1r c1s a1t n1u c1v)) g_151 z_151 z z fid h1i) (Rm z ?_)
  obtain ⟨r23, e24, hm1a⟩ := bdS hm1h
  refine E z (fc call144 z (W_w1j (B := B) e24 (lt_ hBw s12.size) h1w h1x h1y h1z h20 h21 h22 h11)) ?_
  rintro _ w2k ⟨s1b, rfl, h25⟩
  refine Ra z (Wn (Ws (Rm z (R z (lss z z) (Wn (Wc z (fun hc16 => ?_) (fun hc16 => ?_)))))))
  ·exact Ws (Ra z (Wn (Wr (rtO (QO_retL (som (ifT hm1a hc16)).symm (ret1 hr z ⟨(bup s12 s1b), z, (ii z)⟩))))))
  exact Wk (Wg (Rm z (R z (inc_ hk18 (lt_ (repS.len p1_0) LEN_le) z z) (Ra z (Wl (fun _ q => ⟨r23, (som (ifF hm1a hc16)).symm, ⟨(q.k (s3 z z z)), (bup s12 s1b), h25⟩⟩))))))
 ·rintro x10 a2l w2m ⟨hS26, s1c, h11⟩
  refine Wu ?_ hS26
  refine Wq (Ws (Rm z (Rm z (R z (lnR d_108 z (p1_0.ext s1c)) (R z (lss z z) (Wn (Wc z (fun hc => (noltt hc).elim) (fun _ => ?_))))))))
  exact WC_exit (fun a' ha' => ⟨rfl, ⟨(Sat.weaken ha' (s1 z)), s1c, h11⟩⟩)
 ·rintro x10 a27 w2n rfl ⟨hS2o, s28, h11⟩
  have hm29 := elL hm17
  revert a27
  refine Wo (Ws (Rm z (Ra z (Wn ?_))))
  obtain rfl := som hm29
  exact Wr (ret1 hr z ⟨s28, z, h11⟩)
 rintro r2p ex2q a2r w2s rfl ⟨rfl, hq2a⟩
 have hm2b := elR hm17
 obtain rfl := som hm2b
 exact ⟨hq2a, z⟩
theorem W_w1l {x1 : Desc} {x2 : Int} {res : Int} (hm : M_laws_szDescription x1 x2 = some res) (hBw : B ≤ w0.z) (p1_0 : repS w0 B (sl A0 N0 C0) x1.rules) (p2_0 : inI x2) : CallsR prog 96 [(.agg #[sl A0 N0 C0]), vI x2] w0 (Q0 w0 B res) := by
 unfold M_laws_szDescription at hm
 refine goF func96 z z (lb z) fun fn hr => Ws (E z (fb z) ?_)
 rintro _ w15 ⟨rfl, h12⟩
 have h10 := h12.below
 have h16 : Blk w15 w0.z [sl A0 N0 C0] := h12.blk
 refine Ra z (Wn (Ws (R z (fd f_110_0 z) (R z (l1 g_108 z fid (h16.at z)) (Rm z ?_)))))
 obtain ⟨r19, e17, hm13⟩ := bdS hm
 refine E z (fc call123 z (W_w1k (B := B) e17 (lt_ hBw h10.size) (p1_0.ext h10) p2_0)) ?_
 rintro _ w1a ⟨s14, rfl, h18⟩
 refine Ra z (Wn (Wq (Ws (Rm z (R z (lss z z) (Wn (Wc z (fun hc11 => ?_) (fun hc11 => ?_))))))))
 ·refine Ws (Ra z (Wn ?_))
  obtain rfl := som (ifT hm13 hc11)
  exact Wr (ret1 hr z ⟨(bup h10 s14), z, (ii z)⟩)
 refine Wk (Ws (Rm z (Ra z (Wn ?_))))
 obtain rfl := som (ifF hm13 hc11)
 exact Wr (ret1 hr z ⟨(bup h10 s14), z, h18⟩)
theorem W_w1m {x1 : List Desc} {x2 : Int} {res : Int} (hm : M_laws_szDescriptionS x1 x2 = some res) (hBw : B ≤ w0.z) (p1_0 : repS w0 B (sl A0 N0 C0) x1) (p2_0 : inI x2) : CallsR prog 63 [sl A0 N0 C0, vI x2] w0 (Q0 w0 B res) := by
 unfold M_laws_szDescriptionS at hm
 refine goF func63 z z (lb z) fun fn hr => Ws (Ra z (Wn (Ws (Rm z (Rm z (R z (lnR d_22 z p1_0) (R z (sb_ z z) (Ra z (Wn (Wq (Ws (Rm z (R z (lss z z) (Wn (Wc z (fun hc13 => ?_) (fun hc13 => ?_))))))))))))))))
 ·refine Ws (Ra z (Wn ?_))
  obtain rfl := som (ifT hm hc13)
  exact Wr (ret1 hr z ⟨(br w0), z, (ii z)⟩)
 refine Wk (Wq (Ws (Ra z (Wn ?_))))
 obtain ⟨u1w, hu1c, hm16⟩ := bdS (ifF hm hc13)
 refine WC_forN (σ := Int) (ρ := Int) (fun (k14 : Nat) (x10 : Int) a w => Sat 27 [(0, sl A0 N0 C0), (1, vI x10), (5, (vI ((k14 : Nat) : Int)))] a ∧ Below w0.z w0 w ∧ inI x10) (fun (x10 : Int) a w => Sat 27 [(1, vI x10)] a ∧ Below w0.z w0 w ∧ inI x10) (fun r ex a w => ex = .ret ∧ RetPost prog fn (Q0 w0 B r) a w) hu1c ?_ ?_ ?_ ?_ ?_
 ·exact fun _ q => ⟨(q.k (s3 z z z)), (br w0), (iS _ _)⟩
 ·rintro k14 x10 a1x w1y o1z hk17 ⟨hS1d, s12, h11⟩ hm1e
  refine Wu ?_ hS1d
  refine Wq (Ws (Rm z (Rm z ?_)))
  have h18 := p1_0.ext s12
  refine R z (lnR d_22 z h18) (R z (lss z z) (Wn (Wc z (fun _ => ?_) (fun hc => (nolt hk17 hc).elim))))
  refine Wk (Wq (WC_block (Ws (Rm z (Rm z ?_)))))
  obtain ⟨x20, e1f, hm1g⟩ := bdS hm1e
  refine RX z (at_ (α := Desc) d_22 z_110 z z z h18 e1f) ?_
  rintro _ ⟨b21, o22, cs23, rfl, h1h, h1i, h24⟩
  obtain ⟨a1j, n1k, c1l, rfl, h1m⟩ := Desc_open h1i
  refine R z (lN (vs := [sl a1j n1k c1l]) g_110 z_110 z z fid h1h) (Rm z ?_)
  obtain ⟨r1n, e1o, hm19⟩ := bdS hm1g
  refine E z (fc call96 z (W_w1l (B := B) e1o (lt_ hBw s12.size) h1m h11)) ?_
  rintro _ w25 ⟨s1a, rfl, h1p⟩
  refine Ra z (Wn (Ws (Rm z (R z (lss z z) (Wn (Wc z (fun hc15 => ?_) (fun hc15 => ?_)))))))
  ·exact Ws (Ra z (Wn (Wr (rtO (QO_retL (som (ifT hm19 hc15)).symm (ret1 hr z ⟨(bup s12 s1a), z, (ii z)⟩))))))
  exact Wk (Wg (Rm z (R z (inc_ hk17 (lt_ (repS.len p1_0) LEN_le) z z) (Ra z (Wl (fun _ q => ⟨r1n, (som (ifF hm19 hc15)).symm, ⟨(q.k (s3 z z z)), (bup s12 s1a), h1p⟩⟩))))))
 ·rintro x10 a26 w27 ⟨hS1q, s1b, h11⟩
  refine Wu ?_ hS1q
  refine Wq (Ws (Rm z (Rm z (R z (lnR d_22 z (p1_0.ext s1b)) (R z (lss z z) (Wn (Wc z (fun hc => (noltt hc).elim) (fun _ => ?_))))))))
  exact WC_exit (fun a' ha' => ⟨rfl, ⟨(Sat.weaken ha' (s1 z)), s1b, h11⟩⟩)
 ·rintro x10 a1r w28 rfl ⟨hS29, s1s, h11⟩
  have hm1t := elL hm16
  revert a1r
  refine Wo (Ws (Rm z (Ra z (Wn ?_))))
  obtain rfl := som hm1t
  exact Wr (ret1 hr z ⟨s1s, z, h11⟩)
 rintro r2a ex2b a2c w2d rfl ⟨rfl, hq1u⟩
 have hm1v := elR hm16
 obtain rfl := som hm1v
 exact ⟨hq1u, z⟩
theorem W_w1n {x1 : Registry} {x2 : Int} {res : Int} (hm : M_laws_szRegistry x1 x2 = some res) (hBw : B ≤ w0.z) (p1_0 : repS w0 B (sl A0 N0 C0) x1.versions) (p2_0 : inI x2) : CallsR prog 32 [(.agg #[sl A0 N0 C0]), vI x2] w0 (Q0 w0 B res) := by
 unfold M_laws_szRegistry at hm
 refine goF func32 z z (lb z) fun fn hr => Ws (E z (fb z) ?_)
 rintro _ w15 ⟨rfl, h12⟩
 have h10 := h12.below
 have h16 : Blk w15 w0.z [sl A0 N0 C0] := h12.blk
 refine Ra z (Wn (Ws (R z (fd f_24_0 z) (R z (l1 g_22 z fid (h16.at z)) (Rm z ?_)))))
 obtain ⟨r19, e17, hm13⟩ := bdS hm
 refine E z (fc call63 z (W_w1m (B := B) e17 (lt_ hBw h10.size) (p1_0.ext h10) p2_0)) ?_
 rintro _ w1a ⟨s14, rfl, h18⟩
 refine Ra z (Wn (Wq (Ws (Rm z (R z (lss z z) (Wn (Wc z (fun hc11 => ?_) (fun hc11 => ?_))))))))
 ·refine Ws (Ra z (Wn ?_))
  obtain rfl := som (ifT hm13 hc11)
  exact Wr (ret1 hr z ⟨(bup h10 s14), z, (ii z)⟩)
 refine Wk (Ws (Rm z (Ra z (Wn ?_))))
 obtain rfl := som (ifF hm13 hc11)
 exact Wr (ret1 hr z ⟨(bup h10 s14), z, h18⟩)
theorem W_w1o {x1 : Log} {x2 : Int} {res : Int} (hm : M_laws_szLog x1 x2 = some res) (hBw : B ≤ w0.z) (p1_0 : repS w0 B (sl A0 N0 C0) x1.bytes) (p1_1 : inI x1.stored) (p2_0 : inI x2) : CallsR prog 33 [(.agg #[sl A0 N0 C0, vI x1.stored]), vI x2] w0 (Q0 w0 B res) := by
 unfold M_laws_szLog at hm
 refine goF func33 z z (lb z) fun fn hr => Ws (E z (fb z) ?_)
 rintro _ w15 ⟨rfl, h12⟩
 have h10 := h12.below
 have h16 : Blk w15 w0.z [sl A0 N0 C0, vI x1.stored] := h12.blk
 refine Ra z (Wn (Ws (R z (fd f_27_0 z) (R z (l1 g_25 z fid (h16.at z)) (Rm z ?_)))))
 obtain ⟨r19, e17, hm13⟩ := bdS hm
 refine E z (fc call64 z (W_w0k (B := B) e17 (lt_ hBw h10.size) (p1_0.ext h10) p2_0)) ?_
 rintro _ w1a ⟨s14, rfl, h18⟩
 refine Ra z (Wn (Wq (Ws (Rm z (R z (lss z z) (Wn (Wc z (fun hc11 => ?_) (fun hc11 => ?_))))))))
 ·refine Ws (Ra z (Wn ?_))
  obtain rfl := som (ifT hm13 hc11)
  exact Wr (ret1 hr z ⟨(bup h10 s14), z, (ii z)⟩)
 refine Wk (Ws (Rm z (Ra z (Wn ?_))))
 obtain rfl := som (ifF hm13 hc11)
 exact Wr (ret1 hr z ⟨(bup h10 s14), z, h18⟩)
theorem W_w1p {x1 : Archive} {x2 : Int} {res : Int} (hm : M_laws_szArchive x1 x2 = some res) (hBw : B ≤ w0.z) (p1_0 : repS w0 B (sl A0 N0 C0) x1.registry.versions) (p1_1 : repS w0 B (sl A3 N3 C3) x1.log.bytes) (p1_2 : inI x1.log.stored) (p2_0 : inI x2) : CallsR prog 9 [(.agg #[sl A0 N0 C0, sl A3 N3 C3, vI x1.log.stored]), vI x2] w0 (Q0 w0 B res) := by
 unfold M_laws_szArchive at hm
 refine goF func9 z z (lb z) fun fn hr => Ws (E z (fb z) ?_)
 rintro _ w19 ⟨rfl, h14⟩
 have h10 := h14.below
 have h15 : Blk w19 w0.z [sl A0 N0 C0, sl A3 N3 C3, vI x1.log.stored] := h14.blk
 refine Ra z (Wn (Ws (R z (fd f_29_0 z) (R z (lN (vs := [sl A0 N0 C0]) g_24 z_24 z z fid (h15.row 0 1 z)) (Rm z ?_)))))
 obtain ⟨r1e, e1a, hm16⟩ := bdS hm
 refine E z (fc call32 z (W_w1n (B := B) (x1 := (⟨x1.registry.versions⟩ : Registry)) e1a (lt_ hBw h10.size) (p1_0.ext h10) p2_0)) ?_
 rintro _ w1f ⟨s11, rfl, h1b⟩
 refine Ra z (Wn (Wq (Ws (Rm z (R z (lss z z) (Wn (Wc z (fun hc12 => ?_) (fun hc12 => ?_))))))))
 ·refine Ws (Ra z (Wn ?_))
  obtain rfl := som (ifT hm16 hc12)
  exact Wr (ret1 hr z ⟨(bup h10 s11), z, (ii z)⟩)
 refine Wk (Ws (R z (fd f_29_1 z) (R z (lN (vs := [sl A3 N3 C3, vI x1.log.stored]) g_27 z_27 z z fid ((h15.ext s11).row 1 2 z)) (Rm z ?_))))
 obtain ⟨r1g, e1c, hm17⟩ := bdS (ifF hm16 hc12)
 refine E z (fc call33 z (W_w1o (B := B) (x1 := (⟨x1.log.bytes, x1.log.stored⟩ : Log)) e1c (lt_ hBw (lt_ h10.size s11.size)) ((p1_1.ext h10).ext s11) p1_2 h1b)) ?_
 rintro _ w1h ⟨s18, rfl, h1d⟩
 refine Ra z (Wn (Wq (Ws (Rm z (R z (lss z z) (Wn (Wc z (fun hc13 => ?_) (fun hc13 => ?_))))))))
 ·refine Ws (Ra z (Wn ?_))
  obtain rfl := som (ifT hm17 hc13)
  exact Wr (ret1 hr z ⟨(bup (bup h10 s11) s18), z, (ii z)⟩)
 refine Wk (Ws (Rm z (Ra z (Wn ?_))))
 obtain rfl := som (ifF hm17 hc13)
 exact Wr (ret1 hr z ⟨(bup (bup h10 s11) s18), z, h1d⟩)
def Q1 (w0 : World) (B : Nat) (r : (List UInt8)) (v : Value) (w' : World) : Prop := Bw w0 w' ∧ (fun r1 => ∃ a1 n1 c1 S1, (sl a1 n1 c1) = v ∧ ownS w' S1 (sl a1 n1 c1) r1 ∧ S1.Nodup ∧ (∀ k ∈ S1, w0.z ≤ k)) r
theorem W_w0m {x1 : List UInt8} {res : (List UInt8)} (hm : M_laws_toByteS x1 = some res) (hBw : B ≤ w0.z) (p1_0 : repS w0 B (sl A0 N0 C0) x1) : CallsR prog 24 [sl A0 N0 C0] w0 (Q1 w0 B res) := by
 unfold M_laws_toByteS at hm
 refine goF func24 z z (lb z) fun fn hr => Ws (Ra z (Wn (Ws (Rm z (R z (lnR d_25 z p1_0) ?_)))))
 obtain ⟨x2f, e1j, hm1k⟩ := bdS hm
 refine E z (ef_makeN (α := UInt8) el_25 (fun _ => UInt8_own0) e1j z z) ?_
 rintro _ w11 ⟨a12, n13, c14, rfl, s19, h1l⟩
 refine Ra z (Wn (Wq (Ws (Ra z (Wn ?_)))))
 obtain ⟨u2g, hu1m, hm1c⟩ := bdS hm1k
 refine WC_forN (σ := (List UInt8)) (ρ := (List UInt8)) (fun (k1a : Nat) (x15 : List UInt8) a w => ∃  (S10 : List Nat), Sat 22 [(0, sl A0 N0 C0), (3, sl a12 n13 c14), (4, (vI ((k1a : Nat) : Int)))] a ∧ Chg (· ∈ [w0.z]) w11 w ∧ ownS w S10 (sl a12 n13 c14) x15 ∧ S10.Nodup ∧ (∀ k ∈ S10, k ∈ [w0.z] ∨ w11.z ≤ k)) (fun (x15 : List UInt8) a w => ∃  (S10 : List Nat), Sat 22 [(3, sl a12 n13 c14)] a ∧ Chg (· ∈ [w0.z]) w11 w ∧ ownS w S10 (sl a12 n13 c14) x15 ∧ S10.Nodup ∧ (∀ k ∈ S10, k ∈ [w0.z] ∨ w11.z ≤ k)) (fun r ex a w => ex = .ret ∧ RetPost prog fn (Q1 w0 B r) a w) hu1m ?_ ?_ ?_ ?_ ?_
 ·exact fun _ q => ⟨[w0.z], (q.k (s3 z z z)), (cr [w0.z] w11), h1l, nd_one, (io sr)⟩
 ·rintro k1a x15 a2h w1n o2i hk1d ⟨S10, hS1o, s1b, h16, h17, h18⟩ hm1p
  refine Wu ?_ hS1o
  refine Wq (Ws (Rm z (Rm z ?_)))
  have h1e := (p1_0.ext s19).chg s1b (lg (mem1le hBw))
  refine R z (lnR d_25 z h1e) (R z (lss z z) (Wn (Wc z (fun _ => ?_) (fun hc => (nolt hk1d hc).elim))))
  refine Wk (Wq (WC_block (Wg (Rm z (Rm z (Rm z (Rm z ?_)))))))
  obtain ⟨x2j, e1q, hm1r⟩ := bdS hm1p
  refine RX z (at_ (α := UInt8) d_25 z_5 z z z h1e e1q) ?_
  rintro _ ⟨b2k, o2l, cs2m, rfl, h1s, h1t, h2n⟩
  obtain rfl := UInt8_open h1t
  refine R z (l1 g_5 z fid (h1s.at0 z)) ?_
  obtain ⟨x1u, e1f, hm1v⟩ := bdS hm1r
  refine RX z (rd_atU (α := UInt8) d_25 z_5 z z h16 e1f) ?_
  rintro _ ⟨g2o, h1w, rfl⟩
  refine E0 (ef_setN (α := UInt8) z_5 z h1w z z z e1f h16 h17 UInt8_own all_nil nd_nil) ?_
  rintro _ w1x ⟨S1g, s1y, h1z, h20, h21⟩
  refine Wn (Wg (Rm z (R z (inc_ hk1d (lt_ (repS.len p1_0) LEN_le) z z) (Ra z (Wl ?_)))))
  have h1h : ∀ k ∈ S10, k ∈ [w0.z] ∨ w11.z ≤ k := or1 h18 (io sr) (leor lr)
  have h22 : ∀ k ∈ S1g, k ∈ [w0.z] ∨ w11.z ≤ k := or2 h21 h1h all_nil (leor s1b.size)
  have h23 : Chg (· ∈ [w0.z]) w11 w1n := cM (cr [w0.z] w11) s1b (io sr)
  have h24 : Chg (· ∈ [w0.z]) w11 w1x := cM h23 s1y h1h
  exact fun _ q => ⟨x1u, (som hm1v).symm, ⟨S1g, (q.k (s3 z z z)), h24, h1z, h20, h22⟩⟩
 ·rintro x15 a2p w25 ⟨S10, hS26, s1i, h16, h17, h18⟩
  refine Wu ?_ hS26
  refine Wq (Ws (Rm z (Rm z (R z (lnR d_25 z ((p1_0.ext s19).chg s1i (lg (mem1le hBw)))) (R z (lss z z) (Wn (Wc z (fun hc => (noltt hc).elim) (fun _ => ?_))))))))
  have h27 : ∀ k ∈ S10, k ∈ [w0.z] ∨ w11.z ≤ k := or1 h18 (io sr) (leor lr)
  have h28 : Chg (· ∈ [w0.z]) w11 w25 := cM (cr [w0.z] w11) s1i (io sr)
  exact WC_exit (fun a' ha' => ⟨rfl, ⟨S10, (Sat.weaken ha' (s1 z)), h28, h16, h17, h27⟩⟩)
 ·rintro x15 a29 w2q rfl ⟨S10, hS2r, s2a, h16, h17, h18⟩
  have hm2b := elL hm1c
  revert a29
  refine Wo (Ws (Rm z (Ra z (Wn ?_))))
  obtain rfl := som hm2b
  have h2c : ∀ k ∈ S10, w0.z ≤ k := or1 h18 (mem1 lr) (lele s19.size)
  exact Wr (ret1 hr z ⟨(bM s19 s2a (mem1 lr)), a12, n13, c14, S10, z, h16, h17, h2c⟩)
 rintro r2s ex2t a2u w2v rfl ⟨rfl, hq2d⟩
 have hm2e := elR hm1c
 obtain rfl := som hm2e
 exact ⟨hq2d, z⟩
def Q2 (w0 : World) (B : Nat) (r : (List Str)) (v : Value) (w' : World) : Prop := Bw w0 w' ∧ (fun r1 => ∃ a1 n1 c1 S1, (sl a1 n1 c1) = v ∧ ownS w' S1 (sl a1 n1 c1) r1 ∧ S1.Nodup ∧ (∀ k ∈ S1, w0.z ≤ k)) r
theorem W_w1q {x1 : List Str} {res : (List Str)} (hm : M_laws_toStringS x1 = some res) (hBw : B ≤ w0.z) (p1_0 : repS w0 B (sl A0 N0 C0) x1) : CallsR prog 174 [sl A0 N0 C0] w0 (Q2 w0 B res) := by
 unfold M_laws_toStringS at hm
 refine goF func174 z z (lb z) fun fn hr => Ws (Ra z (Wn (Ws (Rm z (R z (lnR d_41 z p1_0) ?_)))))
 obtain ⟨x2g, e1j, hm1k⟩ := bdS hm
 refine E z (ef_makeN (α := Str) el_41 (fun _ => (Str_own (lb z))) e1j z z) ?_
 rintro _ w11 ⟨a12, n13, c14, rfl, s19, h1l⟩
 refine Ra z (Wn (Wq (Ws (Ra z (Wn ?_)))))
 obtain ⟨u2h, hu1m, hm1c⟩ := bdS hm1k
 refine WC_forN (σ := (List Str)) (ρ := (List Str)) (fun (k1a : Nat) (x15 : List Str) a w => ∃  (S10 : List Nat), Sat 22 [(0, sl A0 N0 C0), (3, sl a12 n13 c14), (4, (vI ((k1a : Nat) : Int)))] a ∧ Chg (· ∈ [w0.z]) w11 w ∧ ownS w S10 (sl a12 n13 c14) x15 ∧ S10.Nodup ∧ (∀ k ∈ S10, k ∈ [w0.z] ∨ w11.z ≤ k)) (fun (x15 : List Str) a w => ∃  (S10 : List Nat), Sat 22 [(3, sl a12 n13 c14)] a ∧ Chg (· ∈ [w0.z]) w11 w ∧ ownS w S10 (sl a12 n13 c14) x15 ∧ S10.Nodup ∧ (∀ k ∈ S10, k ∈ [w0.z] ∨ w11.z ≤ k)) (fun r ex a w => ex = .ret ∧ RetPost prog fn (Q2 w0 B r) a w) hu1m ?_ ?_ ?_ ?_ ?_
 ·exact fun _ q => ⟨[w0.z], (q.k (s3 z z z)), (cr [w0.z] w11), h1l, nd_one, (io sr)⟩
 ·rintro k1a x15 a2i w1n o2j hk1d ⟨S10, hS1o, s1b, h16, h17, h18⟩ hm1p
  refine Wu ?_ hS1o
  refine Wq (Ws (Rm z (Rm z ?_)))
  have h1e := (p1_0.ext s19).chg s1b (lg (mem1le hBw))
  refine R z (lnR d_41 z h1e) (R z (lss z z) (Wn (Wc z (fun _ => ?_) (fun hc => (nolt hk1d hc).elim))))
  refine Wk (Wq (WC_block (Wg (Rm z (Rm z (Rm z (Rm z ?_)))))))
  obtain ⟨x2k, e1q, hm1r⟩ := bdS hm1p
  refine RX z (at_ (α := Str) d_41 z_9 z z z h1e e1q) ?_
  rintro _ ⟨b2l, o2m, cs2n, rfl, h1s, h1t, h2o⟩
  obtain ⟨rfl, h1u⟩ := Str_open h1t
  refine R z (l1 g_9 z fid (h1s.at0 z)) ?_
  obtain ⟨x1v, e1f, hm1w⟩ := bdS hm1r
  refine RX z (rd_atU (α := Str) d_41 z_9 z z h16 e1f) ?_
  rintro _ ⟨g2p, h1x, rfl⟩
  refine E0 (ef_setN (α := Str) z_9 z h1x z z z e1f h16 h17 (Str_own h1u) all_nil nd_nil) ?_
  rintro _ w1y ⟨S1g, s1z, h20, h21, h22⟩
  refine Wn (Wg (Rm z (R z (inc_ hk1d (lt_ (repS.len p1_0) LEN_le) z z) (Ra z (Wl ?_)))))
  have h1h : ∀ k ∈ S10, k ∈ [w0.z] ∨ w11.z ≤ k := or1 h18 (io sr) (leor lr)
  have h23 : ∀ k ∈ S1g, k ∈ [w0.z] ∨ w11.z ≤ k := or2 h22 h1h all_nil (leor s1b.size)
  have h24 : Chg (· ∈ [w0.z]) w11 w1n := cM (cr [w0.z] w11) s1b (io sr)
  have h25 : Chg (· ∈ [w0.z]) w11 w1y := cM h24 s1z h1h
  exact fun _ q => ⟨x1v, (som hm1w).symm, ⟨S1g, (q.k (s3 z z z)), h25, h20, h21, h23⟩⟩
 ·rintro x15 a2q w26 ⟨S10, hS27, s1i, h16, h17, h18⟩
  refine Wu ?_ hS27
  refine Wq (Ws (Rm z (Rm z (R z (lnR d_41 z ((p1_0.ext s19).chg s1i (lg (mem1le hBw)))) (R z (lss z z) (Wn (Wc z (fun hc => (noltt hc).elim) (fun _ => ?_))))))))
  have h28 : ∀ k ∈ S10, k ∈ [w0.z] ∨ w11.z ≤ k := or1 h18 (io sr) (leor lr)
  have h29 : Chg (· ∈ [w0.z]) w11 w26 := cM (cr [w0.z] w11) s1i (io sr)
  exact WC_exit (fun a' ha' => ⟨rfl, ⟨S10, (Sat.weaken ha' (s1 z)), h29, h16, h17, h28⟩⟩)
 ·rintro x15 a2a w2r rfl ⟨S10, hS2s, s2b, h16, h17, h18⟩
  have hm2c := elL hm1c
  revert a2a
  refine Wo (Ws (Rm z (Ra z (Wn ?_))))
  obtain rfl := som hm2c
  have h2d : ∀ k ∈ S10, w0.z ≤ k := or1 h18 (mem1 lr) (lele s19.size)
  exact Wr (ret1 hr z ⟨(bM s19 s2b (mem1 lr)), a12, n13, c14, S10, z, h16, h17, h2d⟩)
 rintro r2t ex2u a2v w2w rfl ⟨rfl, hq2e⟩
 have hm2f := elR hm1c
 obtain rfl := som hm2f
 exact ⟨hq2e, z⟩
def Q3 (w0 : World) (B : Nat) (r : (List Int)) (v : Value) (w' : World) : Prop := Bw w0 w' ∧ (fun r1 => ∃ a1 n1 c1 S1, (sl a1 n1 c1) = v ∧ ownS w' S1 (sl a1 n1 c1) r1 ∧ S1.Nodup ∧ (∀ k ∈ S1, w0.z ≤ k)) r
theorem W_w0n {x1 : List Int} {res : (List Int)} (hm : M_laws_toIntS x1 = some res) (hBw : B ≤ w0.z) (p1_0 : repS w0 B (sl A0 N0 C0) x1) : CallsR prog 175 [sl A0 N0 C0] w0 (Q3 w0 B res) := by
 unfold M_laws_toIntS at hm
 refine goF func175 z z (lb z) fun fn hr => Ws (Ra z (Wn (Ws (Rm z (R z (lnR d_142 z p1_0) ?_)))))
 obtain ⟨x2g, e1j, hm1k⟩ := bdS hm
 refine E z (ef_makeN (α := Int) el_142 (fun _ => (Int_own (ii z))) e1j z z) ?_
 rintro _ w11 ⟨a12, n13, c14, rfl, s19, h1l⟩
 refine Ra z (Wn (Wq (Ws (Ra z (Wn ?_)))))
 obtain ⟨u2h, hu1m, hm1c⟩ := bdS hm1k
 refine WC_forN (σ := (List Int)) (ρ := (List Int)) (fun (k1a : Nat) (x15 : List Int) a w => ∃  (S10 : List Nat), Sat 22 [(0, sl A0 N0 C0), (3, sl a12 n13 c14), (4, (vI ((k1a : Nat) : Int)))] a ∧ Chg (· ∈ [w0.z]) w11 w ∧ ownS w S10 (sl a12 n13 c14) x15 ∧ S10.Nodup ∧ (∀ k ∈ S10, k ∈ [w0.z] ∨ w11.z ≤ k)) (fun (x15 : List Int) a w => ∃  (S10 : List Nat), Sat 22 [(3, sl a12 n13 c14)] a ∧ Chg (· ∈ [w0.z]) w11 w ∧ ownS w S10 (sl a12 n13 c14) x15 ∧ S10.Nodup ∧ (∀ k ∈ S10, k ∈ [w0.z] ∨ w11.z ≤ k)) (fun r ex a w => ex = .ret ∧ RetPost prog fn (Q3 w0 B r) a w) hu1m ?_ ?_ ?_ ?_ ?_
 ·exact fun _ q => ⟨[w0.z], (q.k (s3 z z z)), (cr [w0.z] w11), h1l, nd_one, (io sr)⟩
 ·rintro k1a x15 a2i w1n o2j hk1d ⟨S10, hS1o, s1b, h16, h17, h18⟩ hm1p
  refine Wu ?_ hS1o
  refine Wq (Ws (Rm z (Rm z ?_)))
  have h1e := (p1_0.ext s19).chg s1b (lg (mem1le hBw))
  refine R z (lnR d_142 z h1e) (R z (lss z z) (Wn (Wc z (fun _ => ?_) (fun hc => (nolt hk1d hc).elim))))
  refine Wk (Wq (WC_block (Wg (Rm z (Rm z (Rm z (Rm z ?_)))))))
  obtain ⟨x2k, e1q, hm1r⟩ := bdS hm1p
  refine RX z (at_ (α := Int) d_142 z_3 z z z h1e e1q) ?_
  rintro _ ⟨b2l, o2m, cs2n, rfl, h1s, h1t, h2o⟩
  obtain ⟨rfl, h1u⟩ := Int_open h1t
  refine R z (l1 g_3 z fid (h1s.at0 z)) ?_
  obtain ⟨x1v, e1f, hm1w⟩ := bdS hm1r
  refine RX z (rd_atU (α := Int) d_142 z_3 z z h16 e1f) ?_
  rintro _ ⟨g2p, h1x, rfl⟩
  refine E0 (ef_setN (α := Int) z_3 z h1x z z z e1f h16 h17 (Int_own h1u) all_nil nd_nil) ?_
  rintro _ w1y ⟨S1g, s1z, h20, h21, h22⟩
  refine Wn (Wg (Rm z (R z (inc_ hk1d (lt_ (repS.len p1_0) LEN_le) z z) (Ra z (Wl ?_)))))
  have h1h : ∀ k ∈ S10, k ∈ [w0.z] ∨ w11.z ≤ k := or1 h18 (io sr) (leor lr)
  have h23 : ∀ k ∈ S1g, k ∈ [w0.z] ∨ w11.z ≤ k := or2 h22 h1h all_nil (leor s1b.size)
  have h24 : Chg (· ∈ [w0.z]) w11 w1n := cM (cr [w0.z] w11) s1b (io sr)
  have h25 : Chg (· ∈ [w0.z]) w11 w1y := cM h24 s1z h1h
  exact fun _ q => ⟨x1v, (som hm1w).symm, ⟨S1g, (q.k (s3 z z z)), h25, h20, h21, h23⟩⟩
 ·rintro x15 a2q w26 ⟨S10, hS27, s1i, h16, h17, h18⟩
  refine Wu ?_ hS27
  refine Wq (Ws (Rm z (Rm z (R z (lnR d_142 z ((p1_0.ext s19).chg s1i (lg (mem1le hBw)))) (R z (lss z z) (Wn (Wc z (fun hc => (noltt hc).elim) (fun _ => ?_))))))))
  have h28 : ∀ k ∈ S10, k ∈ [w0.z] ∨ w11.z ≤ k := or1 h18 (io sr) (leor lr)
  have h29 : Chg (· ∈ [w0.z]) w11 w26 := cM (cr [w0.z] w11) s1i (io sr)
  exact WC_exit (fun a' ha' => ⟨rfl, ⟨S10, (Sat.weaken ha' (s1 z)), h29, h16, h17, h28⟩⟩)
 ·rintro x15 a2a w2r rfl ⟨S10, hS2s, s2b, h16, h17, h18⟩
  have hm2c := elL hm1c
  revert a2a
  refine Wo (Ws (Rm z (Ra z (Wn ?_))))
  obtain rfl := som hm2c
  have h2d : ∀ k ∈ S10, w0.z ≤ k := or1 h18 (mem1 lr) (lele s19.size)
  exact Wr (ret1 hr z ⟨(bM s19 s2b (mem1 lr)), a12, n13, c14, S10, z, h16, h17, h2d⟩)
 rintro r2t ex2u a2v w2w rfl ⟨rfl, hq2e⟩
 have hm2f := elR hm1c
 obtain rfl := som hm2f
 exact ⟨hq2e, z⟩
def Q4 (w0 : World) (B : Nat) (r : Rule) (v : Value) (w' : World) : Prop := Bw w0 w' ∧ (fun r1 => ∃ a1 n1 c1 S1 a2 n2 c2 S2 a3 n3 c3 S3 a4 n4 c4 S4, (.agg #[Str.v r1.name, vI r1.kind, vI r1.size, vB r1.little, sl a1 n1 c1, sl a2 n2 c2, sl a3 n3 c3, sl a4 n4 c4]) = v ∧ r1.name.b.length ≤ LEN ∧ inI r1.kind ∧ inI r1.size ∧ ownS w' S1 (sl a1 n1 c1) r1.bytes ∧ ownS w' S2 (sl a2 n2 c2) r1.names ∧ ownS w' S3 (sl a3 n3 c3) r1.tags ∧ ownS w' S4 (sl a4 n4 c4) r1.kids ∧ (S1 ++ (S2 ++ (S3 ++ S4))).Nodup ∧ (∀ k ∈ (S1 ++ (S2 ++ (S3 ++ S4))), w0.z ≤ k)) r
theorem W_w1r {x1 : Rule} {res : Rule} (hm : M_laws_toRule x1 = some res) (hBw : B ≤ w0.z) (p1_0 : x1.name.b.length ≤ LEN) (p1_1 : inI x1.kind) (p1_2 : inI x1.size) (p1_4 : repS w0 B (sl A9 N9 C9) x1.bytes) (p1_5 : repS w0 B (sl A8 N8 C8) x1.names) (p1_6 : repS w0 B (sl AA NA CA) x1.tags) (p1_7 : repS w0 B (sl AB NB CB) x1.kids) : CallsR prog 148 [(.agg #[Str.v x1.name, vI x1.kind, vI x1.size, vB x1.little, sl A9 N9 C9, sl A8 N8 C8, sl AA NA CA, sl AB NB CB])] w0 (Q4 w0 B res) := by
 unfold M_laws_toRule at hm
 refine goF func148 z z (lb z) fun fn hr => Ws (E z (fb z) ?_)
 rintro _ w2a ⟨rfl, h2b⟩
 have h1f := h2b.below
 have h2c : Blk w2a w0.z (vR x1 A9 N9 C9 A8 N8 C8 AA NA CA AB NB CB) := h2b.blk
 refine E z (fa zero_144) ?_
 rintro _ w2d ⟨rfl, h2e⟩
 have h1c := h2e.below
 have h1k : Blk w2d w2a.z [(Str.v (⟨[]⟩ : Str)), vI 0, vI 0, vB false, sl none 0 0, sl none 0 0, sl none 0 0, sl none 0 0] := h2e.blk
 refine Wn (Ws (E z (fa zero_144) ?_))
 rintro _ w2x ⟨rfl, h2f⟩
 have h1b := h2f.below
 have h1r : Blk w2x w2d.z [(Str.v (⟨[]⟩ : Str)), vI 0, vI 0, vB false, sl none 0 0, sl none 0 0, sl none 0 0, sl none 0 0] := h2f.blk
 refine Wn (Ws (R z (fd f_151_0 z) ?_))
 have h2g := (h2c.ext h1c).ext h1b
 refine R z (l1 g_9 z fid (h2g.at z)) (R z (fd f_144_0 z) (E0 (fs (cur' := [Str.v x1.name, vI 0, vI 0, vB false, sl none 0 0, sl none 0 0, sl none 0 0, sl none 0 0]) z_9 z z h1r z (lb z) (oA z) z) ?_))
 rintro _ w41 ⟨h2y, s2z⟩
 have h16 := s2z.one
 refine Wn (Ws (R z (fd f_151_1 z) ?_))
 have h1g := mm1 h2c.lt h1c.size
 have h2h := h2g.chg h16 (djs h1g)
 refine R z (l1 g_3 z fid (h2h.at z)) (R z (fd f_144_1 z) (E0 (fs (cur' := [Str.v x1.name, vI x1.kind, vI 0, vB false, sl none 0 0, sl none 0 0, sl none 0 0, sl none 0 0]) z_3 z z h2y z (lb z) (oA z) z) ?_))
 rintro _ w42 ⟨h30, s31⟩
 have h17 := s31.one
 refine Wn (Ws (R z (fd f_151_2 z) ?_))
 have h2i := h2h.chg h17 (djs h1g)
 refine R z (l1 g_3 z fid (h2i.at z)) (R z (fd f_144_2 z) (E0 (fs (cur' := [Str.v x1.name, vI x1.kind, vI x1.size, vB false, sl none 0 0, sl none 0 0, sl none 0 0, sl none 0 0]) z_3 z z h30 z (lb z) (oA z) z) ?_))
 rintro _ w43 ⟨h32, s33⟩
 have h18 := s33.one
 refine Wn (Ws (R z (fd f_151_3 z) ?_))
 have h2j := h2i.chg h18 (djs h1g)
 refine R z (l1 g_4 z fid (h2j.at z)) (R z (fd f_144_3 z) (E0 (fs (cur' := (vR x1 none 0 0 none 0 0 none 0 0 none 0 0)) z_4 z z h32 z (lb z) (oA z) z) ?_))
 rintro _ w44 ⟨h34, s35⟩
 have h19 := s35.one
 refine Wn (Ws (R z (fd f_151_4 z) ?_))
 have h2k := h2j.chg h19 (djs h1g)
 refine R z (l1 g_25 z fid (h2k.at z)) ?_
 have h23 := lt_ h1f.size h1c.size
 have h10 := mem1le (lt_ hBw h23)
 have h24 := lt_ (lt_ (lt_ (lt_ (lt_ h23 h1b.size) h16.size) h17.size) h18.size) h19.size
 obtain ⟨r45, e36, hm37⟩ := bdS hm
 refine E z (fc call24 z (W_w0m (B := B) e36 (lt_ hBw h24) (((((((p1_4.ext h1f).ext h1c).ext h1b).chg h16 (lg h10)).chg h17 (lg h10)).chg h18 (lg h10)).chg h19 (lg h10)))) ?_
 rintro _ w46 ⟨s1a, a1h, n1i, c1j, S38, rfl, h1x, h39, h25⟩
 refine R z (fd f_144_4 z) (E0 (fs (cur' := (vR x1 a1h n1i c1j none 0 0 none 0 0 none 0 0)) z_25 z z (h34.ext s1a) z (lb z) (oA z) z) ?_)
 rintro _ w47 ⟨h3a, s3b⟩
 have h13 := s3b.one
 refine Wn (Ws (R z (fd f_151_5 z) ?_))
 have h2l := (h2k.ext s1a).chg h13 (djs h1g)
 refine R z (l1 g_41 z fid (h2l.at z)) ?_
 have h26 := lt_ (lt_ h24 s1a.size) h13.size
 obtain ⟨r48, e3c, hm3d⟩ := bdS hm37
 refine E z (fc call174 z (W_w1q (B := B) e3c (lt_ hBw h26) (((((((((p1_5.ext h1f).ext h1c).ext h1b).chg h16 (lg h10)).chg h17 (lg h10)).chg h18 (lg h10)).chg h19 (lg h10)).ext s1a).chg h13 (lg h10)))) ?_
 rintro _ w49 ⟨s15, a1l, n1m, c1n, S3e, rfl, h27, h3f, h1y⟩
 refine R z (fd f_144_5 z) (E0 (fs (cur' := (vR x1 a1h n1i c1j a1l n1m c1n none 0 0 none 0 0)) z_41 z z (h3a.ext s15) z (lb z) (oA z) z) ?_)
 rintro _ w4a ⟨h3g, s3h⟩
 have h11 := s3h.one
 refine Wn (Ws (R z (fd f_151_6 z) ?_))
 have h2m := (h2l.ext s15).chg h11 (djs h1g)
 refine R z (l1 g_142 z fid (h2m.at z)) ?_
 have h28 := lt_ (lt_ h26 s15.size) h11.size
 obtain ⟨r4b, e3i, hm3j⟩ := bdS hm3d
 refine E z (fc call175 z (W_w0n (B := B) e3i (lt_ hBw h28) (((((((((((p1_6.ext h1f).ext h1c).ext h1b).chg h16 (lg h10)).chg h17 (lg h10)).chg h18 (lg h10)).chg h19 (lg h10)).ext s1a).chg h13 (lg h10)).ext s15).chg h11 (lg h10)))) ?_
 rintro _ w4c ⟨s14, a1s, n1t, c1u, S3k, rfl, h2n, h3l, h1v⟩
 refine R z (fd f_144_6 z) (E0 (fs (cur' := (vR x1 a1h n1i c1j a1l n1m c1n a1s n1t c1u none 0 0)) z_142 z z (h3g.ext s14) z (lb z) (oA z) z) ?_)
 rintro _ w4d ⟨h3m, s3n⟩
 have h12 := s3n.one
 refine Wn (Ws (R z (fd f_151_7 z) (R z (l1 g_142 z fid (((h2m.ext s14).chg h12 (djs h1g)).at z)) ?_)))
 have h3o := ((((((((((((p1_7.ext h1f).ext h1c).ext h1b).chg h16 (lg h10)).chg h17 (lg h10)).chg h18 (lg h10)).chg h19 (lg h10)).ext s1a).chg h13 (lg h10)).ext s15).chg h11 (lg h10)).ext s14).chg h12 (lg h10)
 have h2o := lt_ (lt_ h28 s14.size) h12.size
 obtain ⟨r4e, e3p, hm3q⟩ := bdS hm3j
 refine E z (fc call175 z (W_w0n (B := B) e3p (lt_ hBw h2o) h3o)) ?_
 rintro _ w4f ⟨s1o, a1z, n20, c21, S3r, rfl, h3s, h3t, h1p⟩
 refine R z (fd f_144_7 z) (E0 (fs (cur' := (vR x1 a1h n1i c1j a1l n1m c1n a1s n1t c1u a1z n20 c21)) z_142 z z (h3m.ext s1o) z (lb z) (oA z) z) ?_)
 rintro _ w4g ⟨h3u, s3v⟩
 have h1q := s3v.one
 refine Wn (Ws (R z (lN (vs := (vR x1 a1h n1i c1j a1l n1m c1n a1s n1t c1u a1z n20 c21)) g_144 z_144 z z fid (h3u.row 0 8 z)) ?_))
 have h1d := mmr h1k.lt
 have h3w := ((((h1k.ext h1b).chg h16 (djs h1d)).chg h17 (djs h1d)).chg h18 (djs h1d)).chg h19 (djs h1d)
 have h3x := (((((h3w.ext s1a).chg h13 (djs h1d)).ext s15).chg h11 (djs h1d)).ext s14).chg h12 (djs h1d)
 refine E0 (fs (cur' := (vR x1 a1h n1i c1j a1l n1m c1n a1s n1t c1u a1z n20 c21)) z_144 z z ((h3x.ext s1o).chg h1q (djs h1d)) z (lb z) (oA z) z) ?_
 rintro _ w4h ⟨h3y, s3z⟩
 have h1w := s3z.one
 refine Wn ?_
 obtain rfl := som hm3q
 have h2p := lt_ (lt_ (lt_ h16.size h17.size) h18.size) h19.size
 have h22 := o0n1 h25 h1r.lt h2p
 have h2q := lt_ (lt_ (lt_ (lt_ h1b.size h16.size) h17.size) h18.size) h19.size
 have h2r := lt_ (lt_ h2p s1a.size) h13.size
 have h29 := o0n1 h1y h1r.lt h2r
 have h2s := lt_ (lt_ h2q s1a.size) h13.size
 have h2t := lt_ (lt_ h2r s15.size) h11.size
 have h2u := o0n1 h1v h1r.lt h2t
 have h2v := lt_ (lt_ h2s s15.size) h11.size
 have h1e := mem1le h23
 have h40 := bM (bup (bM (bup (bM (bup (bM (bup (bM (bM (bM (bM (bup (bup h1f h1c) h1b) h16 h1e) h17 h1e) h18 h1e) h19 h1e) s1a) h13 h1e) s15) h11 h1e) s14) h12 h1e) s1o) h1q h1e
 have h2w := lt_ (lt_ h13.size s15.size) h11.size
 exact Wr (ret1 hr (resC g_144 z_144 z h3y z) ⟨(bM h40 h1w (mem1le h1f.size)), a1h, n1i, c1j, S38, a1l, n1m, c1n, S3e, a1s, n1t, c1u, S3k, a1z, n20, c21, S3r, z, p1_0, p1_1, p1_2, ((((((((h1x.chg h13 h22).ext s15).chg h11 h22).ext s14).chg h12 h22).ext s1o).chg h1q h22).chg h1w (o0n1 h25 h1k.lt h2q)), ((((((h27.chg h11 h29).ext s14).chg h12 h29).ext s1o).chg h1q h29).chg h1w (o0n1 h1y h1k.lt h2s)), ((((h2n.chg h12 h2u).ext s1o).chg h1q h2u).chg h1w (o0n1 h1v h1k.lt h2v)), ((h3s.chg h1q (o0n1 h1p h1r.lt (lt_ (lt_ h2t s14.size) h12.size))).chg h1w (o0n1 h1p h1k.lt (lt_ (lt_ h2v s14.size) h12.size))), (nd_app h39 (nd_app h3f (nd_app h3l h3t (dj_symm (o0no h1p (ownS.lt h2n) h12.size))) (nmA (dj_symm (o0no h1v (ownS.lt h27) h11.size)) (dj_symm (o0no h1p (ownS.lt h27) (lt_ (lt_ h11.size s14.size) h12.size))))) (nmA (dj_symm (o0no h1y (ownS.lt h1x) h13.size)) (nmA (dj_symm (o0no h1v (ownS.lt h1x) h2w)) (dj_symm (o0no h1p (ownS.lt h1x) (lt_ (lt_ h2w s14.size) h12.size)))))), (all_app (o0le h25 h24) (all_app (o0le h1y h26) (all_app (o0le h1v h28) (o0le h1p h2o))))⟩)
def Q5 (w0 : World) (B : Nat) (r : (List Rule)) (v : Value) (w' : World) : Prop := Bw w0 w' ∧ (fun r1 => ∃ a1 n1 c1 S1, (sl a1 n1 c1) = v ∧ ownS w' S1 (sl a1 n1 c1) r1 ∧ S1.Nodup ∧ (∀ k ∈ S1, w0.z ≤ k)) r
theorem W_w1s {x1 : List Rule} {res : (List Rule)} (hm : M_laws_toRuleS x1 = some res) (hBw : B ≤ w0.z) (p1_0 : repS w0 B (sl A0 N0 C0) x1) : CallsR prog 130 [sl A0 N0 C0] w0 (Q5 w0 B res) := by
 unfold M_laws_toRuleS at hm
 refine goF func130 z z (lb z) fun fn hr => Ws (Ra z (Wn (Ws (Rm z (R z (lnR d_108 z p1_0) ?_)))))
 obtain ⟨x3n, e1s, hm1t⟩ := bdS hm
 refine E z (ef_makeN (α := Rule) el_93 (fun _ => (Rule_mkO (x := (⟨(⟨[]⟩ : Str), 0, 0, false, ([] : List UInt8), ([] : List Str), ([] : List Int), ([] : List Int)⟩ : Rule)) (S1 := ([] : List Nat)) (S2 := ([] : List Nat)) (S3 := ([] : List Nat)) (S4 := ([] : List Nat)) (lb z) (ii z) (ii z) onL onL onL onL)) e1s z z) ?_
 rintro _ w10 ⟨a16, n17, c18, rfl, s1a, h1u⟩
 refine Ra z (Wn (Wq (Ws (Ra z (Wn ?_)))))
 obtain ⟨u3o, hu1v, hm1g⟩ := bdS hm1t
 refine WC_forN (σ := (List Rule)) (ρ := (List Rule)) (fun (k1e : Nat) (x19 : List Rule) a w => ∃  (S11 : List Nat), Sat 23 [(0, sl A0 N0 C0), (3, sl a16 n17 c18), (4, (vI ((k1e : Nat) : Int)))] a ∧ Chg (· ∈ [w0.z]) w10 w ∧ ownS w S11 (sl a16 n17 c18) x19 ∧ S11.Nodup ∧ (∀ k ∈ S11, k ∈ [w0.z] ∨ w10.z ≤ k)) (fun (x19 : List Rule) a w => ∃  (S11 : List Nat), Sat 23 [(3, sl a16 n17 c18)] a ∧ Chg (· ∈ [w0.z]) w10 w ∧ ownS w S11 (sl a16 n17 c18) x19 ∧ S11.Nodup ∧ (∀ k ∈ S11, k ∈ [w0.z] ∨ w10.z ≤ k)) (fun r ex a w => ex = .ret ∧ RetPost prog fn (Q5 w0 B r) a w) hu1v ?_ ?_ ?_ ?_ ?_
 ·exact fun _ q => ⟨[w0.z], (q.k (s3 z z z)), (cr [w0.z] w10), h1u, nd_one, (io sr)⟩
 ·rintro k1e x19 a3p w1w o3q hk1h ⟨S11, hS1x, s14, h13, h1b, h1c⟩ hm1y
  refine Wu ?_ hS1x
  refine Wq (Ws (Rm z (Rm z ?_)))
  have h1i := (p1_0.ext s1a).chg s14 (lg (mem1le hBw))
  refine R z (lnR d_108 z h1i) (R z (lss z z) (Wn (Wc z (fun _ => ?_) (fun hc => (nolt hk1h hc).elim))))
  refine Wk (Wq (WC_block (Wg (Rm z (Rm z (Rm z (Rm z ?_)))))))
  obtain ⟨x1d, e1z, hm20⟩ := bdS hm1y
  refine RX z (at_ (α := Rule) d_108 z_151 z z z h1i e1z) ?_
  rintro _ ⟨b3r, o3s, cs3t, rfl, h21, h22, h3u⟩
  obtain ⟨a23, n24, c25, a26, n27, c28, a29, n2a, c2b, a2c, n2d, c2e, rfl, h2f, h2g, h2h, h2i, h2j, h2k, h2l⟩ := Rule_open h22
  refine R z (lN (vs := (vR x1d a23 n24 c25 a26 n27 c28 a29 n2a c2b a2c n2d c2e)) g_151 z_151 z z fid h21) ?_
  obtain ⟨r2m, e2n, hm2o⟩ := bdS hm20
  refine E z (fc call148 z (W_w1r (B := B) e2n (lt_ hBw (lt_ s1a.size s14.size)) h2f h2g h2h h2i h2j h2k h2l)) ?_
  rintro _ w2p ⟨s1f, a3v, n3w, c3x, S1j, a3y, n3z, c40, S1k, a41, n42, c43, S1l, a44, n45, c46, S1m, rfl, h2q, h2r, h2s, h2t, h2u, h2v, h2w, h12, h15⟩
  obtain ⟨x2x, e1n, hm2y⟩ := bdS hm2o
  have h1o := h13.ext s1f
  refine RX z (rd_atU (α := Rule) d_93 z_144 z z h1o e1n) ?_
  rintro _ ⟨g47, h2z, rfl⟩
  refine E0 (ef_setN (α := Rule) z_144 z h2z z z z e1n h1o h1b (Rule_mkO (x := r2m) (S1 := S1j) (S2 := S1k) (S3 := S1l) (S4 := S1m) h2q h2r h2s h2t h2u h2v h2w) (all_app (o0no (all_left h15) (ownS.lt h13) lr) (all_app (o0no (all_left (all_right h15)) (ownS.lt h13) lr) (all_app (o0no (all_left (all_right (all_right h15))) (ownS.lt h13) lr) (o0no (all_right (all_right (all_right h15))) (ownS.lt h13) lr)))) (nd_app (nd_left h12) (nd_app (nd_left (nd_right h12)) (nd_app (nd_left (nd_right (nd_right h12))) (nd_right (nd_right (nd_right h12))) (nd_dj (nd_right (nd_right h12)))) (nmA (nmL (nd_dj (nd_right h12))) (nmR (nd_dj (nd_right h12))))) (nmA (nmL (nd_dj h12)) (nmA (nmL (nmR (nd_dj h12))) (nmR (nmR (nd_dj h12))))))) ?_
  rintro _ w30 ⟨S1p, s31, h32, h33, h34⟩
  refine Wn (Wg (Rm z (R z (inc_ hk1h (lt_ (repS.len p1_0) LEN_le) z z) (Ra z (Wl ?_)))))
  have h1q : ∀ k ∈ S11, k ∈ [w0.z] ∨ w10.z ≤ k := or1 h1c (io sr) (leor lr)
  have h35 : ∀ k ∈ S1j, k ∈ [w0.z] ∨ w10.z ≤ k := or0 (all_left h15)  (leor s14.size)
  have h36 : ∀ k ∈ S1k, k ∈ [w0.z] ∨ w10.z ≤ k := or0 (all_left (all_right h15))  (leor s14.size)
  have h37 : ∀ k ∈ S1l, k ∈ [w0.z] ∨ w10.z ≤ k := or0 (all_left (all_right (all_right h15)))  (leor s14.size)
  have h38 : ∀ k ∈ S1m, k ∈ [w0.z] ∨ w10.z ≤ k := or0 (all_right (all_right (all_right h15)))  (leor s14.size)
  have h39 : ∀ k ∈ S1p, k ∈ [w0.z] ∨ w10.z ≤ k := or2 h34 h1q (all_app h35 (all_app h36 (all_app h37 h38))) (leor (lt_ s14.size s1f.size))
  have h3a : Chg (· ∈ [w0.z]) w10 w1w := cM (cr [w0.z] w10) s14 (io sr)
  have h3b : Chg (· ∈ [w0.z]) w10 w2p := cext h3a s1f
  have h3c : Chg (· ∈ [w0.z]) w10 w30 := cM h3b s31 h1q
  exact fun _ q => ⟨x2x, (som hm2y).symm, ⟨S1p, (q.k (s3 z z z)), h3c, h32, h33, h39⟩⟩
 ·rintro x19 a48 w3d ⟨S11, hS3e, s1r, h13, h1b, h1c⟩
  refine Wu ?_ hS3e
  refine Wq (Ws (Rm z (Rm z (R z (lnR d_108 z ((p1_0.ext s1a).chg s1r (lg (mem1le hBw)))) (R z (lss z z) (Wn (Wc z (fun hc => (noltt hc).elim) (fun _ => ?_))))))))
  have h3f : ∀ k ∈ S11, k ∈ [w0.z] ∨ w10.z ≤ k := or1 h1c (io sr) (leor lr)
  have h3g : Chg (· ∈ [w0.z]) w10 w3d := cM (cr [w0.z] w10) s1r (io sr)
  exact WC_exit (fun a' ha' => ⟨rfl, ⟨S11, (Sat.weaken ha' (s1 z)), h3g, h13, h1b, h3f⟩⟩)
 ·rintro x19 a3h w49 rfl ⟨S11, hS4a, s3i, h13, h1b, h1c⟩
  have hm3j := elL hm1g
  revert a3h
  refine Wo (Ws (Rm z (Ra z (Wn ?_))))
  obtain rfl := som hm3j
  have h3k : ∀ k ∈ S11, w0.z ≤ k := or1 h1c (mem1 lr) (lele s1a.size)
  exact Wr (ret1 hr z ⟨(bM s1a s3i (mem1 lr)), a16, n17, c18, S11, z, h13, h1b, h3k⟩)
 rintro r4b ex4c a4d w4e rfl ⟨rfl, hq3l⟩
 have hm3m := elR hm1g
 obtain rfl := som hm3m
 exact ⟨hq3l, z⟩
def Q6 (w0 : World) (B : Nat) (r : Desc) (v : Value) (w' : World) : Prop := Bw w0 w' ∧ (fun r1 => ∃ a1 n1 c1 S1, (.agg #[.slice a1 n1 c1]) = v ∧ ownS w' S1 (sl a1 n1 c1) r1.rules ∧ S1.Nodup ∧ (∀ k ∈ S1, w0.z ≤ k)) r
theorem W_w1t {x1 : Desc} {res : Desc} (hm : M_laws_toDescription x1 = some res) (hBw : B ≤ w0.z) (p1_0 : repS w0 B (sl A0 N0 C0) x1.rules) : CallsR prog 102 [(.agg #[sl A0 N0 C0])] w0 (Q6 w0 B res) := by
 unfold M_laws_toDescription at hm
 refine goF func102 z z (lb z) fun fn hr => Ws (E z (fb z) ?_)
 rintro _ w1a ⟨rfl, h1b⟩
 have h11 := h1b.below
 have h1j : Blk w1a w0.z [sl A0 N0 C0] := h1b.blk
 refine E z (fa zero_95) ?_
 rintro _ w1c ⟨rfl, h1d⟩
 have h12 := h1d.below
 have h16 : Blk w1c w1a.z [sl none 0 0] := h1d.blk
 refine Wn (Ws (E z (fa zero_95) ?_))
 rintro _ w1k ⟨rfl, h1e⟩
 have h10 := h1e.below
 have h1f : Blk w1k w1c.z [sl none 0 0] := h1e.blk
 refine Wn (Ws (R z (fd f_110_0 z) (R z (l1 g_108 z fid (((h1j.ext h12).ext h10).at z)) ?_)))
 have h1g := lt_ h11.size h12.size
 have h1h := lt_ h1g h10.size
 obtain ⟨r1u, e1l, hm1m⟩ := bdS hm
 refine E z (fc call130 z (W_w1s (B := B) e1l (lt_ hBw h1h) (((p1_0.ext h11).ext h12).ext h10))) ?_
 rintro _ w1v ⟨s17, a13, n14, c15, S1n, rfl, h1o, h1p, h18⟩
 refine R z (fd f_95_0 z) (E0 (fs (cur' := [sl a13 n14 c15]) z_93 z z (h1f.ext s17) z (lb z) (oA z) z) ?_)
 rintro _ w1w ⟨h1q, s1r⟩
 have h19 := s1r.one
 refine Wn (Ws (R z (lN (vs := [sl a13 n14 c15]) g_95 z_95 z z fid (h1q.row 0 1 z)) (E0 (fs (cur' := [sl a13 n14 c15]) z_95 z z (((h16.ext h10).ext s17).chg h19 (djs (mmr h16.lt))) z (lb z) (oA z) z) ?_)))
 rintro _ w1x ⟨h1s, s1t⟩
 have h1i := s1t.one
 refine Wn ?_
 obtain rfl := som hm1m
 exact Wr (ret1 hr (resC g_95 z_95 z h1s z) ⟨(bM (bM (bup (bup (bup h11 h12) h10) s17) h19 (mem1le h1g)) h1i (mem1le h11.size)), a13, n14, c15, S1n, z, ((h1o.chg h19 (o0n1 h18 h1f.lt lr)).chg h1i (o0n1 h18 h16.lt h10.size)), h1p, (o0le h18 h1h)⟩)
def Q7 (w0 : World) (B : Nat) (r : (List Desc)) (v : Value) (w' : World) : Prop := Bw w0 w' ∧ (fun r1 => ∃ a1 n1 c1 S1, (sl a1 n1 c1) = v ∧ ownS w' S1 (sl a1 n1 c1) r1 ∧ S1.Nodup ∧ (∀ k ∈ S1, w0.z ≤ k)) r
theorem W_w1u {x1 : List Desc} {res : (List Desc)} (hm : M_laws_toDescriptionS x1 = some res) (hBw : B ≤ w0.z) (p1_0 : repS w0 B (sl A0 N0 C0) x1) : CallsR prog 70 [sl A0 N0 C0] w0 (Q7 w0 B res) := by
 unfold M_laws_toDescriptionS at hm
 refine goF func70 z z (lb z) fun fn hr => Ws (Ra z (Wn (Ws (Rm z (R z (lnR d_22 z p1_0) ?_)))))
 obtain ⟨x2v, e1n, hm1o⟩ := bdS hm
 refine E z (ef_makeN (α := Desc) el_32 (fun _ => (Desc_mkO (x := (⟨([] : List Rule)⟩ : Desc)) (S1 := ([] : List Nat)) onL)) e1n z z) ?_
 rintro _ w10 ⟨a12, n13, c14, rfl, s17, h1p⟩
 refine Ra z (Wn (Wq (Ws (Ra z (Wn ?_)))))
 obtain ⟨u2w, hu1q, hm1d⟩ := bdS hm1o
 refine WC_forN (σ := (List Desc)) (ρ := (List Desc)) (fun (k1b : Nat) (x15 : List Desc) a w => ∃  (S11 : List Nat), Sat 23 [(0, sl A0 N0 C0), (3, sl a12 n13 c14), (4, (vI ((k1b : Nat) : Int)))] a ∧ Chg (· ∈ [w0.z]) w10 w ∧ ownS w S11 (sl a12 n13 c14) x15 ∧ S11.Nodup ∧ (∀ k ∈ S11, k ∈ [w0.z] ∨ w10.z ≤ k)) (fun (x15 : List Desc) a w => ∃  (S11 : List Nat), Sat 23 [(3, sl a12 n13 c14)] a ∧ Chg (· ∈ [w0.z]) w10 w ∧ ownS w S11 (sl a12 n13 c14) x15 ∧ S11.Nodup ∧ (∀ k ∈ S11, k ∈ [w0.z] ∨ w10.z ≤ k)) (fun r ex a w => ex = .ret ∧ RetPost prog fn (Q7 w0 B r) a w) hu1q ?_ ?_ ?_ ?_ ?_
 ·exact fun _ q => ⟨[w0.z], (q.k (s3 z z z)), (cr [w0.z] w10), h1p, nd_one, (io sr)⟩
 ·rintro k1b x15 a2x w1r o2y hk1e ⟨S11, hS1s, s18, h16, h19, h1a⟩ hm1t
  refine Wu ?_ hS1s
  refine Wq (Ws (Rm z (Rm z ?_)))
  have h1f := (p1_0.ext s17).chg s18 (lg (mem1le hBw))
  refine R z (lnR d_22 z h1f) (R z (lss z z) (Wn (Wc z (fun _ => ?_) (fun hc => (nolt hk1e hc).elim))))
  refine Wk (Wq (WC_block (Wg (Rm z (Rm z (Rm z (Rm z ?_)))))))
  obtain ⟨x2z, e1u, hm1v⟩ := bdS hm1t
  refine RX z (at_ (α := Desc) d_22 z_110 z z z h1f e1u) ?_
  rintro _ ⟨b30, o31, cs32, rfl, h1w, h1x, h33⟩
  obtain ⟨a1y, n1z, c20, rfl, h21⟩ := Desc_open h1x
  refine R z (lN (vs := [sl a1y n1z c20]) g_110 z_110 z z fid h1w) ?_
  obtain ⟨r22, e23, hm24⟩ := bdS hm1v
  refine E z (fc call102 z (W_w1t (B := B) e23 (lt_ hBw (lt_ s17.size s18.size)) h21)) ?_
  rintro _ w25 ⟨s1c, a34, n35, c36, S1g, rfl, h26, h27, h1h⟩
  obtain ⟨x28, e1i, hm29⟩ := bdS hm24
  have h1j := h16.ext s1c
  refine RX z (rd_atU (α := Desc) d_32 z_95 z z h1j e1i) ?_
  rintro _ ⟨g37, h2a, rfl⟩
  refine E0 (ef_setN (α := Desc) z_95 z h2a z z z e1i h1j h19 (Desc_mkO (x := r22) (S1 := S1g) h26) (o0no h1h (ownS.lt h16) lr) h27) ?_
  rintro _ w2b ⟨S1k, s2c, h2d, h2e, h2f⟩
  refine Wn (Wg (Rm z (R z (inc_ hk1e (lt_ (repS.len p1_0) LEN_le) z z) (Ra z (Wl ?_)))))
  have h1l : ∀ k ∈ S11, k ∈ [w0.z] ∨ w10.z ≤ k := or1 h1a (io sr) (leor lr)
  have h2g : ∀ k ∈ S1g, k ∈ [w0.z] ∨ w10.z ≤ k := or0 h1h  (leor s18.size)
  have h2h : ∀ k ∈ S1k, k ∈ [w0.z] ∨ w10.z ≤ k := or2 h2f h1l h2g (leor (lt_ s18.size s1c.size))
  have h2i : Chg (· ∈ [w0.z]) w10 w1r := cM (cr [w0.z] w10) s18 (io sr)
  have h2j : Chg (· ∈ [w0.z]) w10 w25 := cext h2i s1c
  have h2k : Chg (· ∈ [w0.z]) w10 w2b := cM h2j s2c h1l
  exact fun _ q => ⟨x28, (som hm29).symm, ⟨S1k, (q.k (s3 z z z)), h2k, h2d, h2e, h2h⟩⟩
 ·rintro x15 a38 w2l ⟨S11, hS2m, s1m, h16, h19, h1a⟩
  refine Wu ?_ hS2m
  refine Wq (Ws (Rm z (Rm z (R z (lnR d_22 z ((p1_0.ext s17).chg s1m (lg (mem1le hBw)))) (R z (lss z z) (Wn (Wc z (fun hc => (noltt hc).elim) (fun _ => ?_))))))))
  have h2n : ∀ k ∈ S11, k ∈ [w0.z] ∨ w10.z ≤ k := or1 h1a (io sr) (leor lr)
  have h2o : Chg (· ∈ [w0.z]) w10 w2l := cM (cr [w0.z] w10) s1m (io sr)
  exact WC_exit (fun a' ha' => ⟨rfl, ⟨S11, (Sat.weaken ha' (s1 z)), h2o, h16, h19, h2n⟩⟩)
 ·rintro x15 a2p w39 rfl ⟨S11, hS3a, s2q, h16, h19, h1a⟩
  have hm2r := elL hm1d
  revert a2p
  refine Wo (Ws (Rm z (Ra z (Wn ?_))))
  obtain rfl := som hm2r
  have h2s : ∀ k ∈ S11, w0.z ≤ k := or1 h1a (mem1 lr) (lele s17.size)
  exact Wr (ret1 hr z ⟨(bM s17 s2q (mem1 lr)), a12, n13, c14, S11, z, h16, h19, h2s⟩)
 rintro r3b ex3c a3d w3e rfl ⟨rfl, hq2t⟩
 have hm2u := elR hm1d
 obtain rfl := som hm2u
 exact ⟨hq2t, z⟩
def Q8 (w0 : World) (B : Nat) (r : Registry) (v : Value) (w' : World) : Prop := Bw w0 w' ∧ (fun r1 => ∃ a1 n1 c1 S1, (.agg #[.slice a1 n1 c1]) = v ∧ ownS w' S1 (sl a1 n1 c1) r1.versions ∧ S1.Nodup ∧ (∀ k ∈ S1, w0.z ≤ k)) r
theorem W_w1v {x1 : Registry} {res : Registry} (hm : M_laws_toRegistry x1 = some res) (hBw : B ≤ w0.z) (p1_0 : repS w0 B (sl A0 N0 C0) x1.versions) : CallsR prog 36 [(.agg #[sl A0 N0 C0])] w0 (Q8 w0 B res) := by
 unfold M_laws_toRegistry at hm
 refine goF func36 z z (lb z) fun fn hr => Ws (E z (fb z) ?_)
 rintro _ w1a ⟨rfl, h1b⟩
 have h11 := h1b.below
 have h1j : Blk w1a w0.z [sl A0 N0 C0] := h1b.blk
 refine E z (fa zero_34) ?_
 rintro _ w1c ⟨rfl, h1d⟩
 have h12 := h1d.below
 have h16 : Blk w1c w1a.z [sl none 0 0] := h1d.blk
 refine Wn (Ws (E z (fa zero_34) ?_))
 rintro _ w1k ⟨rfl, h1e⟩
 have h10 := h1e.below
 have h1f : Blk w1k w1c.z [sl none 0 0] := h1e.blk
 refine Wn (Ws (R z (fd f_24_0 z) (R z (l1 g_22 z fid (((h1j.ext h12).ext h10).at z)) ?_)))
 have h1g := lt_ h11.size h12.size
 have h1h := lt_ h1g h10.size
 obtain ⟨r1u, e1l, hm1m⟩ := bdS hm
 refine E z (fc call70 z (W_w1u (B := B) e1l (lt_ hBw h1h) (((p1_0.ext h11).ext h12).ext h10))) ?_
 rintro _ w1v ⟨s17, a13, n14, c15, S1n, rfl, h1o, h1p, h18⟩
 refine R z (fd f_34_0 z) (E0 (fs (cur' := [sl a13 n14 c15]) z_32 z z (h1f.ext s17) z (lb z) (oA z) z) ?_)
 rintro _ w1w ⟨h1q, s1r⟩
 have h19 := s1r.one
 refine Wn (Ws (R z (lN (vs := [sl a13 n14 c15]) g_34 z_34 z z fid (h1q.row 0 1 z)) (E0 (fs (cur' := [sl a13 n14 c15]) z_34 z z (((h16.ext h10).ext s17).chg h19 (djs (mmr h16.lt))) z (lb z) (oA z) z) ?_)))
 rintro _ w1x ⟨h1s, s1t⟩
 have h1i := s1t.one
 refine Wn ?_
 obtain rfl := som hm1m
 exact Wr (ret1 hr (resC g_34 z_34 z h1s z) ⟨(bM (bM (bup (bup (bup h11 h12) h10) s17) h19 (mem1le h1g)) h1i (mem1le h11.size)), a13, n14, c15, S1n, z, ((h1o.chg h19 (o0n1 h18 h1f.lt lr)).chg h1i (o0n1 h18 h16.lt h10.size)), h1p, (o0le h18 h1h)⟩)
def Q9 (w0 : World) (B : Nat) (r : Log) (v : Value) (w' : World) : Prop := Bw w0 w' ∧ (fun r1 => ∃ a1 n1 c1 S1, (.agg #[.slice a1 n1 c1, vI r1.stored]) = v ∧ ownS w' S1 (sl a1 n1 c1) r1.bytes ∧ inI r1.stored ∧ S1.Nodup ∧ (∀ k ∈ S1, w0.z ≤ k)) r
theorem W_w1w {x1 : Log} {res : Log} (hm : M_laws_toLog x1 = some res) (hBw : B ≤ w0.z) (p1_0 : repS w0 B (sl A0 N0 C0) x1.bytes) (p1_1 : inI x1.stored) : CallsR prog 37 [(.agg #[sl A0 N0 C0, vI x1.stored])] w0 (Q9 w0 B res) := by
 unfold M_laws_toLog at hm
 refine goF func37 z z (lb z) fun fn hr => Ws (E z (fb z) ?_)
 rintro _ w1b ⟨rfl, h1c⟩
 have h15 := h1c.below
 have h1d : Blk w1b w0.z [sl A0 N0 C0, vI x1.stored] := h1c.blk
 refine E z (fa zero_35) ?_
 rintro _ w1e ⟨rfl, h1f⟩
 have h11 := h1f.below
 have h18 : Blk w1e w1b.z [sl none 0 0, vI 0] := h1f.blk
 refine Wn (Ws (E z (fa zero_35) ?_))
 rintro _ w1p ⟨rfl, h1g⟩
 have h10 := h1g.below
 have h1h : Blk w1p w1e.z [sl none 0 0, vI 0] := h1g.blk
 refine Wn (Ws (R z (fd f_27_0 z) ?_))
 have h1i := (h1d.ext h11).ext h10
 refine R z (l1 g_25 z fid (h1i.at z)) ?_
 have h1j := lt_ h15.size h11.size
 have h1k := lt_ h1j h10.size
 obtain ⟨r21, e1q, hm1r⟩ := bdS hm
 refine E z (fc call24 z (W_w0m (B := B) e1q (lt_ hBw h1k) (((p1_0.ext h15).ext h11).ext h10))) ?_
 rintro _ w22 ⟨s16, a12, n13, c14, S1s, rfl, h1t, h1u, h19⟩
 refine R z (fd f_35_0 z) (E0 (fs (cur' := [sl a12 n13 c14, vI 0]) z_25 z z (h1h.ext s16) z (lb z) (oA z) z) ?_)
 rintro _ w23 ⟨h1v, s1w⟩
 have h17 := s1w.one
 refine Wn (Ws (R z (fd f_27_1 z) (R z (l1 g_3 z fid (((h1i.ext s16).chg h17 (djs (mm1 h1d.lt h11.size))).at z)) (R z (fd f_35_1 z) (E0 (fs (cur' := [sl a12 n13 c14, vI x1.stored]) z_3 z z h1v z (lb z) (oA z) z) ?_)))))
 rintro _ w24 ⟨h1x, s1y⟩
 have h1a := s1y.one
 refine Wn (Ws (R z (lN (vs := [sl a12 n13 c14, vI x1.stored]) g_35 z_35 z z fid (h1x.row 0 2 z)) ?_))
 have h1l := mmr h18.lt
 refine E0 (fs (cur' := [sl a12 n13 c14, vI x1.stored]) z_35 z z ((((h18.ext h10).ext s16).chg h17 (djs h1l)).chg h1a (djs h1l)) z (lb z) (oA z) z) ?_
 rintro _ w25 ⟨h1z, s20⟩
 have h1m := s20.one
 refine Wn ?_
 obtain rfl := som hm1r
 have h1n := o0n1 h19 h1h.lt lr
 have h1o := mem1le h1j
 exact Wr (ret1 hr (resC g_35 z_35 z h1z z) ⟨(bM (bM (bM (bup (bup (bup h15 h11) h10) s16) h17 h1o) h1a h1o) h1m (mem1le h15.size)), a12, n13, c14, S1s, z, (((h1t.chg h17 h1n).chg h1a h1n).chg h1m (o0n1 h19 h18.lt h10.size)), p1_1, h1u, (o0le h19 h1k)⟩)
def Q10 (w0 : World) (B : Nat) (r : Archive) (v : Value) (w' : World) : Prop := Bw w0 w' ∧ (fun r1 => ∃ a1 n1 c1 S1 a2 n2 c2 S2, (.agg #[.slice a1 n1 c1, sl a2 n2 c2, vI r1.log.stored]) = v ∧ ownS w' S1 (sl a1 n1 c1) r1.registry.versions ∧ ownS w' S2 (sl a2 n2 c2) r1.log.bytes ∧ inI r1.log.stored ∧ (S1 ++ S2).Nodup ∧ (∀ k ∈ (S1 ++ S2), w0.z ≤ k)) r
theorem W_w0a {x1 : Archive} {res : Archive} (hm : M_laws_toArchive x1 = some res) (hBw : B ≤ w0.z) (p1_0 : repS w0 B (sl A0 N0 C0) x1.registry.versions) (p1_1 : repS w0 B (sl A3 N3 C3) x1.log.bytes) (p1_2 : inI x1.log.stored) : CallsR prog 11 [(.agg #[sl A0 N0 C0, sl A3 N3 C3, vI x1.log.stored])] w0 (Q10 w0 B res) := by
 unfold M_laws_toArchive at hm
 refine goF func11 z z (lb z) fun fn hr => Ws (E z (fb z) ?_)
 rintro _ w1l ⟨rfl, h1m⟩
 have h14 := h1m.below
 have h1n : Blk w1l w0.z [sl A0 N0 C0, sl A3 N3 C3, vI x1.log.stored] := h1m.blk
 refine E z (fa zero_37) ?_
 rintro _ w1o ⟨rfl, h1p⟩
 have h13 := h1p.below
 have h18 : Blk w1o w1l.z [sl none 0 0, sl none 0 0, vI 0] := h1p.blk
 refine Wn (Ws (E z (fa zero_37) ?_))
 rintro _ w1x ⟨rfl, h1q⟩
 have h11 := h1q.below
 have h1f : Blk w1x w1o.z [sl none 0 0, sl none 0 0, vI 0] := h1q.blk
 refine Wn (Ws (R z (fd f_29_0 z) ?_))
 have h1r := (h1n.ext h13).ext h11
 refine R z (lN (vs := [sl A0 N0 C0]) g_24 z_24 z z fid (h1r.row 0 1 z)) ?_
 have h1g := lt_ h14.size h13.size
 have h1h := lt_ h1g h11.size
 obtain ⟨r2e, e1y, hm1z⟩ := bdS hm
 refine E z (fc call36 z (W_w1v (B := B) (x1 := (⟨x1.registry.versions⟩ : Registry)) e1y (lt_ hBw h1h) (((p1_0.ext h14).ext h13).ext h11))) ?_
 rintro _ w2f ⟨s12, a15, n16, c17, S20, rfl, h1s, h21, h1i⟩
 refine R z (fd f_37_0 z) (E0 (fs (cur' := [sl a15 n16 c17, sl none 0 0, vI 0]) z_34 z z (h1f.ext s12) z (lb z) (oA z) z) ?_)
 rintro _ w2g ⟨h22, s23⟩
 have h10 := s23.one
 refine Wn (Ws (R z (fd f_29_1 z) (R z (lN (vs := [sl A3 N3 C3, vI x1.log.stored]) g_27 z_27 z z fid (((h1r.ext s12).chg h10 (djs (mm1 h1n.lt h13.size))).row 1 2 z)) ?_)))
 have h1t := lt_ (lt_ h1h s12.size) h10.size
 obtain ⟨r1j, e24, hm25⟩ := bdS hm1z
 refine E z (fc call37 z (W_w1w (B := B) (x1 := (⟨x1.log.bytes, x1.log.stored⟩ : Log)) e24 (lt_ hBw h1t) (((((p1_1.ext h14).ext h13).ext h11).ext s12).chg h10 (lg (mem1le (lt_ hBw h1g)))) p1_2)) ?_
 rintro _ w2h ⟨s19, a1a, n1b, c1c, S26, rfl, h27, h28, h29, h1d⟩
 refine R z (fd f_37_1 z) (E0 (fs (cur' := [sl a15 n16 c17, sl a1a n1b c1c, vI r1j.stored]) z_35 z z (h22.ext s19) z (lb z) (oA z) z) ?_)
 rintro _ w2i ⟨h2a, s2b⟩
 have h1e := s2b.one
 refine Wn (Ws (R z (lN (vs := [sl a15 n16 c17, sl a1a n1b c1c, vI r1j.stored]) g_37 z_37 z z fid (h2a.row 0 3 z)) ?_))
 have h1u := mmr h18.lt
 refine E0 (fs (cur' := [sl a15 n16 c17, sl a1a n1b c1c, vI r1j.stored]) z_37 z z (((((h18.ext h11).ext s12).chg h10 (djs h1u)).ext s19).chg h1e (djs h1u)) z (lb z) (oA z) z) ?_
 rintro _ w2j ⟨h2c, s2d⟩
 have h1k := s2d.one
 refine Wn ?_
 obtain rfl := som hm25
 have h1v := o0n1 h1i h1f.lt lr
 have h1w := mem1le h1g
 exact Wr (ret1 hr (resC g_37 z_37 z h2c z) ⟨(bM (bM (bup (bM (bup (bup (bup h14 h13) h11) s12) h10 h1w) s19) h1e h1w) h1k (mem1le h14.size)), a15, n16, c17, S20, a1a, n1b, c1c, S26, z, ((((h1s.chg h10 h1v).ext s19).chg h1e h1v).chg h1k (o0n1 h1i h18.lt h11.size)), ((h27.chg h1e (o0n1 h1d h1f.lt (lt_ s12.size h10.size))).chg h1k (o0n1 h1d h18.lt (lt_ (lt_ h11.size s12.size) h10.size))), h28, (nd_app h21 h29 (dj_symm (o0no h1d (ownS.lt h1s) h10.size))), (all_app (o0le h1i h1h) (o0le h1d h1t))⟩)
def Q11 (w0 : World) (B : Nat) (r : Bool) (v : Value) (w' : World) : Prop := Bw w0 w' ∧ (fun r1 => (vB r1) = v) r
theorem W_w00 {x1 : Int} {x2 : Int} {x3 : Int} {res : Bool} (hm : M_spec_l1In x1 x2 x3 = some res) (hBw : B ≤ w0.z) (p1_0 : inI x1) (p2_0 : inI x2) (p3_0 : inI x3) : CallsR prog 97 [vI x1, vI x2, vI x3] w0 (Q11 w0 B res) := by
 unfold M_spec_l1In at hm
 refine goF func97 z z (lb z) fun fn hr => Ws (Ra z (Wn (Wq ?_)))
 obtain ⟨u13, hu12, hm14⟩ := bdS hm
 refine WC_cut (fun a w => ∃ (x11 : Bool), x11 = u13 ∧ Sat 15 [(6, vB x11)] a ∧ Below w0.z w0 w) ?_ ?_
 ·refine Wg (Rm z (Rm z (R z (rd_geq z z) (Rm z ?_))))
  rcases bs (decide (x2 ≤ x1)) with hc10 | hc10
  ·exact Rh z hc10 (mv z) (Rh z hc10 (mv z) (Rh z hc10 (rd_leq z z) (R z (pT z hc10 z) (Ra z (Wl (fun _ q => ⟨decide (x1 ≤ x3), som (ifT hu12 hc10), (q.k (s1 z)), (br w0)⟩))))))
  iterate 3 refine Nh z hc10 ?_
  exact R z (pF z hc10 z) (Ra z (Wl (fun _ q => ⟨false, som (ifF hu12 hc10), (q.k (s1 z)), (br w0)⟩)))
 rintro a15 w17 ⟨x11, rfl, hS18, s16⟩
 revert a15
 refine Wo ?_
 obtain rfl := som hm14
 exact Wr (ret1 hr z ⟨s16, z⟩)
theorem W_w0o {x1 : List UInt8} {x2 : Bool} {res : Int} (hm : M_spec_ReadInteger x1 x2 = some res) (hBw : B ≤ w0.z) (p1_0 : repS w0 B (sl A0 N0 C0) x1) : CallsR prog 125 [sl A0 N0 C0, vB x2] w0 (Q0 w0 B res) := by
 unfold M_spec_ReadInteger at hm
 refine goF func125 z z (lb z) fun fn hr => Ws (Ra z (Wn (Ws (Ra z (Wn (Wq (Ws (Rm z (R z (lnR d_25 z p1_0) (R z (rd_gtr z z) (Wn (Wc z (fun hc15 => ?_) (fun hc15 => ?_)))))))))))))
 ·refine Ws (Ra z (Wn ?_))
  obtain rfl := som (ifT hm hc15)
  exact Wr (ret1 hr z ⟨(br w0), z, (ii z)⟩)
 refine Wk (Wq (Ws (Ra z (Wn ?_))))
 obtain ⟨u1v, hu1e, hm19⟩ := bdS (ifF hm hc15)
 refine WC_forN (σ := Int) (ρ := Int) (fun (k11 : Nat) (x10 : Int) a w => Sat 33 [(0, sl A0 N0 C0), (1, vB x2), (5, vI x10), (6, (vI ((k11 : Nat) : Int)))] a ∧ Below w0.z w0 w ∧ inI x10) (fun (x10 : Int) a w => Sat 33 [(5, vI x10)] a ∧ Below w0.z w0 w ∧ inI x10) (fun r ex a w => ex = .ret ∧ RetPost prog fn (Q0 w0 B r) a w) hu1e ?_ ?_ ?_ ?_ ?_
 ·exact fun _ q => ⟨(q.k (s4 z z z z)), (br w0), (ii z)⟩
 ·rintro k11 x10 a1w w12 o1x hk16 ⟨hS1f, s1a, h13⟩ hm1g
  refine Wu ?_ hS1f
  refine Wq (Ws (Rm z (Rm z ?_)))
  have h17 := p1_0.ext s1a
  refine R z (lnR d_25 z h17) (R z (lss z z) (Wn (Wc z (fun _ => ?_) (fun hc => (nolt hk16 hc).elim))))
  refine Wk (Wq (WC_block (Ws (Rm z (Ra z (Wn (Wq (Ws (Rm z (Wn ?_))))))))))
  obtain ⟨u1h, hu1b, hm1i⟩ := bdS hm1g
  refine WC_cut (fun a w => ∃ (x14 : Int), x14 = u1h ∧ Sat 33 [(0, sl A0 N0 C0), (1, vB x2), (5, vI x10), (6, (vI ((k11 : Nat) : Int))), (7, vI x14)] a ∧ Below w12.z w12 w ∧ inI x14) ?_ ?_
  ·refine Wc z (fun hc18 => ?_) (fun hc18 => ?_)
   ·exact Wg (Rm z (R z (lnR d_25 z h17) (R z (sb_ z z) (Rm z (R z (sb_ z z) (Ra z (Wl (fun _ q => ⟨isub (isub (x1.length : Int) 1) ((k11 : Nat) : Int), som (ifT hu1b hc18), (q.k (s5 z z z z z)), (br w12), (iS _ _)⟩))))))))
   exact WC_skip (fun _ q => ⟨((k11 : Nat) : Int), som (ifF hu1b hc18), (q.k (s5 z z z z z)), (br w12), (inI_cnt (Nat.le_of_lt hk16) (lt_ (repS.len p1_0) LEN_le))⟩)
  rintro a1j w1y ⟨x14, rfl, hS1z, s1c, h20⟩
  revert a1j
  refine Wo (Wg (Rm z (R z (rd_mul z z) (Rm z (Rm z ?_)))))
  obtain ⟨x1k, e1l, hm1m⟩ := bdS hm1i
  refine RX z (at_ (α := UInt8) d_25 z_5 z z z (h17.ext s1c) e1l) ?_
  rintro _ ⟨b21, o22, cs23, rfl, h1n, h1o, h24⟩
  obtain rfl := UInt8_open h1o
  exact R z (l1 g_5 z fid (h1n.at0 z)) (R z (rd_convUI d_5 d_3 z) (R z (add_ z z) (Ra z (Wn (Wg (Rm z (R z (inc_ hk16 (lt_ (repS.len p1_0) LEN_le) z z) (Ra z (Wl (fun _ q => ⟨iadd (imul x10 256) (byteI x1k), (som hm1m).symm, ⟨(q.k (s4 z z z z)), (bup s1a s1c), (iA _ _)⟩⟩))))))))))
 ·rintro x10 a25 w26 ⟨hS1p, s1d, h13⟩
  refine Wu ?_ hS1p
  refine Wq (Ws (Rm z (Rm z (R z (lnR d_25 z (p1_0.ext s1d)) (R z (lss z z) (Wn (Wc z (fun hc => (noltt hc).elim) (fun _ => ?_))))))))
  exact WC_exit (fun a' ha' => ⟨rfl, ⟨(Sat.weaken ha' (s1 z)), s1d, h13⟩⟩)
 ·rintro x10 a1q w27 rfl ⟨hS28, s1r, h13⟩
  have hm1s := elL hm19
  revert a1q
  refine Wo (Ws (Rm z (Ra z (Wn ?_))))
  obtain rfl := som hm1s
  exact Wr (ret1 hr z ⟨s1r, z, h13⟩)
 rintro r29 ex2a a2b w2c rfl ⟨rfl, hq1t⟩
 have hm1u := elR hm19
 obtain rfl := som hm1u
 exact ⟨hq1t, z⟩
def Q12 (w0 : World) (B : Nat) (r : (List UInt8) × Bool) (v : Value) (w' : World) : Prop := Bw w0 w' ∧ un2 (fun r1 r2 => ∃ a1 n1 c1 S1, v = .tuple #[sl a1 n1 c1, vB r2] ∧ ownS w' S1 (sl a1 n1 c1) r1 ∧ S1.Nodup ∧ (∀ k ∈ S1, w0.z ≤ k)) r
theorem W_w1x {x1 : List UInt8} {res : (List UInt8) × Bool} (hm : M_spec_UnpackBytes n x1 = some res) (hBw : B ≤ w0.z) (p1_0 : repS w0 B (sl A0 N0 C0) x1) : CallsR prog 126 [sl A0 N0 C0] w0 (Q12 w0 B res) := by
 unfold M_spec_UnpackBytes at hm
 refine goF func126 z z (lb z) fun fn hr => Ws (Ra z (Ra z (Wn (Ws (E z (ef_lit0 (α := UInt8) el_25) ?_)))))
 rintro _ w14 ⟨a2u, n2v, c2w, rfl, s1c, h2x⟩
 refine Ra z (Wn (Wq (Ws (Ra z (Wn ?_)))))
 obtain ⟨u5p, hu2y, hm29⟩ := bdS hm
 refine WC_iter (σ := (List UInt8) × Int) (ρ := (List UInt8) × Bool) (fun s a w => un2 (fun x1l x12 => ∃ a15 n16 c17 S10, Sat 79 [(0, sl A0 N0 C0), (4, sl a15 n16 c17), (5, vI x12)] a ∧ Chg (· ∈ [w0.z]) w14 w ∧ ownS w S10 (sl a15 n16 c17) x1l ∧ S10.Nodup ∧ (∀ k ∈ S10, k ∈ [w0.z] ∨ w14.z ≤ k) ∧ inI x12) s) (fun s a w => un2 (fun x1l x12 => ∃ a15 n16 c17 S10, Sat 79 [(4, sl a15 n16 c17)] a ∧ Chg (· ∈ [w0.z]) w14 w ∧ ownS w S10 (sl a15 n16 c17) x1l ∧ S10.Nodup ∧ (∀ k ∈ S10, k ∈ [w0.z] ∨ w14.z ≤ k) ∧ inI x12) s) (fun r ex a w => ex = .ret ∧ RetPost prog fn (Q12 w0 B r) a w) hu2y ?_ ?_ ?_ ?_
 ·exact fun _ q => ⟨a2u, n2v, c2w, [w0.z], (q.k (s3 z z z)), (cr [w0.z] w14), h2x, nd_one, (io sr), (ii z)⟩
 ·rintro ⟨x1l, x12⟩ a5q w1h o5r ⟨a15, n16, c17, S10, hS2z, s1e, h1m, h1n, h1j, h2a⟩ hm30
  have hm2b := un2S hm30
  refine Wu ?_ hS2z
  refine Wq (Ws (Rm z (Rm z ?_)))
  have h2c := mem1le hBw
  have h1o := (p1_0.ext s1c).chg s1e (lg h2c)
  refine R z (lnR d_25 z h1o) (R z (lss z z) (Wn (Wc z (fun hc1x => ?_) (fun hc1x => ?_))))
  ·refine Wk (WC_block (Ws (Rm z (Rm z ?_))))
   obtain ⟨x1g, e31, hm32⟩ := bdS (ifT hm2b hc1x)
   refine RX z (at_ (α := UInt8) d_25 z_5 z z z h1o e31) ?_
   rintro _ ⟨b5s, o5t, cs5u, rfl, h33, h34, h5v⟩
   obtain rfl := UInt8_open h34
   refine R z (l1 g_5 z fid (h33.at0 z)) (R z (rd_convUI d_5 d_3 z) (Ra z (Wn (Wq (WC_block (Wq ?_))))))
   obtain ⟨u35, hu2d, hm2e⟩ := bdS hm32
   refine WC_cut (fun a w => ∃ (x1y : Bool), x1y = u35 ∧ Sat 79 [(0, sl A0 N0 C0), (4, sl a15 n16 c17), (5, vI x12), (6, vI (byteI x1g)), (40, vB x1y)] a ∧ Below w1h.z w1h w) ?_ ?_
   ·refine Wg (Rm z (R z (eql z z) (Rm z ?_)))
    rcases bs ((byteI x1g) == 0) with hc1f | hc1f
    ·exact Nh z hc1f (Nh z hc1f (R z (pT z hc1f z) (Rm z (Nh z z (Nh z z (Nh z z (Nh z z (Nh z z (R z (pT z z z) (Ra z (Wl (fun _ q => ⟨true, som (ifT hu2d hc1f), (q.k (s5 z z z z z)), (br w1h)⟩))))))))))))
    have hm2f := ifF hu2d hc1f
    refine Rh z hc1f (mv z) (Rh z hc1f (eql z z) (R z (pF z hc1f z) (Rm z ?_)))
    rcases bs ((byteI x1g) == 128) with hc1d | hc1d
    ·iterate 5 refine Nh z hc1d ?_
     exact R z (pT z hc1d z) (Ra z (Wl (fun _ q => ⟨true, som (ifT hm2f hc1d), (q.k (s5 z z z z z)), (br w1h)⟩)))
    exact Rh z hc1d (mv z) (Rh z hc1d (add_ z z) (Rh z hc1d (mv z) (Rh z hc1d (lnR d_25 z h1o) (Rh z hc1d (rd_geq z z) (R z (pF z hc1d z) (Ra z (Wl (fun _ q => ⟨decide ((x1.length : Int) ≤ (iadd x12 1)), som (ifF hm2f hc1d), (q.k (s5 z z z z z)), (br w1h)⟩))))))))
   rintro a36 w11 ⟨x1y, rfl, hS5w, s18⟩
   revert a36
   refine Wo (Wc z (fun hc1z => ?_) (fun hc1z => ?_))
   ·refine Ws (E z (ef_lit0 (α := UInt8) el_25) ?_)
    rintro _ w5x ⟨a37, n38, c39, rfl, s3a, h3b⟩
    exact Ra z (Ra z (Wn (Wr (rtO (rtO (QO_retL (som (ifT hm2e hc1z)).symm (ret2 hr z z ⟨(bup (bup (bM s1c s1e (mem1 lr)) s18) s3a), a37, n38, c39, [w11.z], z, h3b, nd_one, (mem1le (lt_ (lt_ s1c.size s1e.size) s18.size))⟩)))))))
   refine Ws (Rm z (R z (rd_gtr z z) (Ra z (Wn ?_))))
   obtain ⟨u3c, hu2g, hm20⟩ := bdS (ifF hm2e hc1z)
   refine WC_cut (fun a w => ∃ (x1t : List UInt8) (x1p : Int), Sum.inl (x1t, x1p) = u3c ∧ ∃ a1u n1v c1w S1k, Sat 79 [(0, sl A0 N0 C0), (4, sl a1u n1v c1w), (5, vI x1p)] a ∧ Chg (· ∈ S10) w11 w ∧ ownS w S1k (sl a1u n1v c1w) x1t ∧ S1k.Nodup ∧ (∀ k ∈ S1k, k ∈ S10 ∨ w11.z ≤ k) ∧ inI x1p) ?_ ?_
   ·refine Wc z (fun hc21 => ?_) (fun hc21 => ?_)
    ·refine Wq (Ws (Ra z (Wn ?_)))
     obtain ⟨u5y, hu3d, hm2h⟩ := bdS (ifT hu2g hc21)
     refine WC_forN (σ := (List UInt8)) (ρ := (List UInt8) × Bool) (fun (k22 : Nat) (x1i : List UInt8) a w => ∃ a19 n1a c1b S13, Sat 79 [(0, sl A0 N0 C0), (4, sl a19 n1a c1b), (5, vI x12), (6, vI (byteI x1g)), (7, (vI ((k22 : Nat) : Int)))] a ∧ Chg (· ∈ S10) w11 w ∧ ownS w S13 (sl a19 n1a c1b) x1i ∧ S13.Nodup ∧ (∀ k ∈ S13, k ∈ S10 ∨ w11.z ≤ k)) (fun (x1i : List UInt8) a w => ∃ a19 n1a c1b S13, Sat 79 [(0, sl A0 N0 C0), (4, sl a19 n1a c1b), (5, vI x12)] a ∧ Chg (· ∈ S10) w11 w ∧ ownS w S13 (sl a19 n1a c1b) x1i ∧ S13.Nodup ∧ (∀ k ∈ S13, k ∈ S10 ∨ w11.z ≤ k)) (fun r ex a w => ex = .ret ∧ RetPost prog fn (Q12 w0 B r) a w) hu3d ?_ ?_ ?_ ?_ ?_
     ·exact fun _ q => ⟨a15, n16, c17, S10, (q.k (s5 z z z z z)), (cr S10 w11), (h1m.ext s18), h1n, (io sr)⟩
     ·rintro k22 x1i a5z w2i o60 hk2j ⟨a19, n1a, c1b, S13, hS3e, s23, h1q, h1r, h1s⟩ hm3f
      refine Wu ?_ hS3e
      refine Wq (Ws (Rm z (Rm z (R z (sb_ z z) (R z (lss z z) (Wn (Wc z (fun _ => ?_) (fun hc => (noltI hk2j hc).elim))))))))
      refine Wk (Wq (WC_block (Wg (Rm z (Rm z (Rm z (R z (add_ z z) ?_)))))))
      obtain ⟨x3g, e3h, hm3i⟩ := bdS hm3f
      refine RX z (at_ (α := UInt8) d_25 z_5 z z z ((h1o.ext s18).chg s23 (lg (o1le h1j h2c (lt_ hBw s1c.size)))) e3h) ?_
      rintro _ ⟨b61, o62, cs63, rfl, h3j, h3k, h64⟩
      obtain rfl := UInt8_open h3k
      refine R z (l1 g_5 z fid (h3j.at0 z)) (E z (ef_buildSlice [(.tmp 69)] el_25 z z z (szAll z) (lb z) (lb z)) ?_)
      rintro _ w2k ⟨rfl, h24⟩
      have h25 := h24.below
      have h3l : Blk w2k w2i.z [vU (byteI x3g)] := h24.blk
      have h65 := ownS_new1 h24 UInt8_own
      obtain ⟨x3m, e3n, hm3o⟩ := bdS hm3i
      refine E z (ef_pushN (α := UInt8) el_25 e3n z z (h1q.ext h25) h1r h3l UInt8_own all_nil nd_nil) ?_
      rintro _ w3p ⟨S2l, a3q, n3r, c3s, rfl, s3t, h3u, h3v, h3w⟩
      refine Ra z (Wn (Wg (Rm z (R z (inc_ hk2j (toNat_le (iS _ _)) z z) (Ra z (Wl ?_))))))
      have h2m : ∀ k ∈ S13, k ∈ S10 ∨ w11.z ≤ k := or1 h1s (io sr) (leor lr)
      have h3x : ∀ k ∈ S2l, k ∈ S10 ∨ w11.z ≤ k := or2 h3w h2m all_nil (leor (lt_ s23.size h25.size))
      have h3y : Chg (· ∈ S10) w11 w2i := cM (cr S10 w11) s23 (io sr)
      have h3z : Chg (· ∈ S10) w11 w2k := cext h3y h25
      have h40 : Chg (· ∈ S10) w11 w3p := cM h3z s3t h2m
      exact fun _ q => ⟨x3m, (som hm3o).symm, ⟨a3q, n3r, c3s, S2l, (q.k (s5 z z z z z)), h40, h3u, h3v, h3x⟩⟩
     ·rintro x1i a66 w41 ⟨a19, n1a, c1b, S13, hS42, s43, h1q, h1r, h1s⟩
      refine Wu ?_ hS42
      refine Wq (Ws (Rm z (Rm z (R z (sb_ z z) (R z (lss z z) (Wn (Wc z (fun hc => (nolttI hc).elim) (fun _ => ?_))))))))
      have h44 : ∀ k ∈ S13, k ∈ S10 ∨ w11.z ≤ k := or1 h1s (io sr) (leor lr)
      have h45 : Chg (· ∈ S10) w11 w41 := cM (cr S10 w11) s43 (io sr)
      exact WC_exit (fun a' ha' => ⟨rfl, ⟨a19, n1a, c1b, S13, (Sat.weaken ha' (s3 z z z)), h45, h1q, h1r, h44⟩⟩)
     ·rintro x1i a46 w47 rfl ⟨a19, n1a, c1b, S13, hS67, s48, h1q, h1r, h1s⟩
      have hm49 := elL hm2h
      revert a46
      refine Wo (Wg (Rm z (R z (add_ z z) (Ra z (Wl ?_)))))
      have h4a : ∀ k ∈ S13, k ∈ S10 ∨ w11.z ≤ k := or1 h1s (io sr) (leor lr)
      have h4b : Chg (· ∈ S10) w11 w47 := cM (cr S10 w11) s48 (io sr)
      exact fun _ q => ⟨x1i, iadd x12 2, som hm49, a19, n1a, c1b, S13, (q.k (s3 z z z)), h4b, h1q, h1r, h4a, (iA _ _)⟩
     rintro r68 ex69 a6a w6b rfl ⟨rfl, hq4c⟩
     have hm4d := elR hm2h
     obtain rfl := som hm4d
     have hm4e := elR hm20
     exact ⟨(inbR (inbR (QO_ret (som hm4e).symm ⟨rfl, hq4c⟩))), z⟩
    have hm2n := ifF hu2g hc21
    refine Wq (Ws (Rm z (R z (add_ z z) (Rm z (R z (add_ z z) (Rm z ?_))))))
    have h2o := h1o.ext s18
    refine R z (lnR d_25 z h2o) (R z (rd_gtr z z) (Wn (Wc z (fun hc26 => ?_) (fun hc26 => ?_))))
    ·refine Ws (E z (ef_lit0 (α := UInt8) el_25) ?_)
     rintro _ w6c ⟨a4f, n4g, c4h, rfl, s4i, h4j⟩
     refine Ra z (Ra z (Wn ?_))
     obtain rfl := som (ifT hm2n hc26)
     have hm4k := elR hm20
     exact Wr (rtO (rtO (QO_retL (som hm4k).symm (ret2 hr z z ⟨(bup (bup (bM s1c s1e (mem1 lr)) s18) s4i), a4f, n4g, c4h, [w11.z], z, h4j, nd_one, (mem1le (lt_ (lt_ s1c.size s1e.size) s18.size))⟩))))
    refine Wk (Ws (Rm z (Rm z (Rm z (R z (add_ z z) (Rm z (R z (add_ z z) (Rm z (R z (add_ z z) ?_)))))))))
    obtain ⟨x6d, e4l, hm4m⟩ := bdS (ifF hm2n hc26)
    refine RX z (rd_sliceX d_25 z_5 z z h2o z z e4l) ?_
    rintro _ ⟨a6e, n6f, c6g, rfl, h4n⟩
    obtain ⟨x4o, e4p, hm4q⟩ := bdS hm4m
    refine E z (ef_appendN (α := UInt8) el_25 e4p z z (h1m.ext s18) h1n h4n) ?_
    rintro _ w4r ⟨S2p, a4s, n4t, c4u, rfl, s4v, h4w, h4x, h4y⟩
    refine Ra z (Wn (Wg (Rm z (R z (add_ z z) (Rm z (R z (add_ z z) (Ra z (Wl ?_))))))))
    have h4z : ∀ k ∈ S2p, k ∈ S10 ∨ w11.z ≤ k := or1 h4y (io sr) (leor lr)
    have h50 : Chg (· ∈ S10) w11 w4r := cM (cr S10 w11) s4v (io sr)
    exact fun _ q => ⟨x4o, iadd (iadd x12 1) (byteI x1g), som hm4q, a4s, n4t, c4u, S2p, (q.k (s3 z z z)), h50, h4w, h4x, h4z, (iA _ _)⟩
   rintro a51 w2q ⟨x1t, x1p, rfl, a1u, n1v, c1w, S1k, hS6h, s27, h2r, h52, h53, h54⟩
   have hm55 := elL hm20
   have hm2s := un2S hm55
   revert a51
   refine Wo (Ws (Rm z (R z (lnR d_25 z (ownS.rep h2r)) (R z (rd_gtr z z) (Wn (Wc z (fun hc28 => ?_) (fun hc28 => ?_)))))))
   ·refine Ws (E z (ef_lit0 (α := UInt8) el_25) ?_)
    rintro _ w6i ⟨a56, n57, c58, rfl, s59, h5a⟩
    refine Ra z (Ra z (Wn ?_))
    have h5b : ∀ k ∈ S10, w0.z ≤ k := or1 h1j (mem1 lr) (lele s1c.size)
    exact Wr (rtO (QO_retL (som (ifT hm2s hc28)).symm (ret2 hr z z ⟨(bup (bM (bup (bM s1c s1e (mem1 lr)) s18) s27 h5b) s59), a56, n57, c58, [w2q.z], z, h5a, nd_one, (mem1le (lt_ (lt_ (lt_ s1c.size s1e.size) s18.size) s27.size))⟩)))
   refine WC_skip ?_
   have h2t : ∀ k ∈ S10, k ∈ [w0.z] ∨ w14.z ≤ k := or1 h1j (io sr) (leor lr)
   have h5c : ∀ k ∈ S1k, k ∈ [w0.z] ∨ w14.z ≤ k := or1 h53 h2t (leor (lt_ s1e.size s18.size))
   have h5d : Chg (· ∈ [w0.z]) w14 w1h := cM (cr [w0.z] w14) s1e (io sr)
   have h5e : Chg (· ∈ [w0.z]) w14 w11 := cext h5d s18
   have h5f : Chg (· ∈ [w0.z]) w14 w2q := cM h5e s27 h2t
   exact fun _ q => ⟨(x1t, x1p), (som (ifF hm2s hc28)).symm, ⟨a1u, n1v, c1w, S1k, (q.k (s3 z z z)), h5f, h2r, h52, h5c, h54⟩⟩
  have h5g : ∀ k ∈ S10, k ∈ [w0.z] ∨ w14.z ≤ k := or1 h1j (io sr) (leor lr)
  have h5h : Chg (· ∈ [w0.z]) w14 w1h := cM (cr [w0.z] w14) s1e (io sr)
  exact WC_exit (fun a' ha' => QO_brk (som (ifF hm2b hc1x)).symm ⟨a15, n16, c17, S10, (Sat.weaken ha' (s1 z)), h5h, h1m, h1n, h5g, h2a⟩)
 ·rintro ⟨x1l, x12⟩ a5i w6j rfl ⟨a15, n16, c17, S10, hS6k, s5j, h1m, h1n, h1j, h2a⟩
  have hm5k := elL hm29
  have hm5l := un2S hm5k
  revert a5i
  refine Wo (Ws (Rm z (Ra z (Ra z (Wn ?_)))))
  obtain rfl := som hm5l
  have h5m : ∀ k ∈ S10, w0.z ≤ k := or1 h1j (mem1 lr) (lele s1c.size)
  exact Wr (ret2 hr z z ⟨(bM s1c s5j (mem1 lr)), a15, n16, c17, S10, z, h1m, h1n, h5m⟩)
 rintro r6l ex6m a6n w6o rfl ⟨rfl, hq5n⟩
 have hm5o := elR hm29
 obtain rfl := som hm5o
 exact ⟨hq5n, z⟩
theorem W_w0b {x1 : Str} {res : Bool} (hm : M_spec_IsName x1 = some res) (hBw : B ≤ w0.z) (p1_0 : x1.b.length ≤ LEN) : CallsR prog 106 [Str.v x1] w0 (Q11 w0 B res) := by
 unfold M_spec_IsName at hm
 refine goF func106 z z (lb z) fun fn hr => Ws (Ra z (Wn (Wq (Ws (Ra z (Wn ?_))))))
 obtain ⟨u2k, hu1s, hm1c⟩ := bdS hm
 refine WC_forN (σ := Unit) (ρ := Bool) (fun (k14 : Nat) (_ : Unit) a w => Sat 45 [(0, Str.v x1), (3, (vI ((k14 : Nat) : Int)))] a ∧ Below w0.z w0 w) (fun (_ : Unit) a w => Sat 45 [(0, Str.v x1)] a ∧ Below w0.z w0 w) (fun r ex a w => ex = .ret ∧ RetPost prog fn (Q11 w0 B r) a w) hu1s ?_ ?_ ?_ ?_ ?_
 ·exact fun _ q => ⟨(q.k (s2 z z)), (br w0)⟩
 ·rintro k14 _ a2l w17 o2m hk1d ⟨hS1t, s1e⟩ hm1u
  refine Wu ?_ hS1t
  refine Wq (Ws (Rm z (Rm z (R z (lnT d_9 z) (R z (lss z z) (Wn (Wc z (fun _ => ?_) (fun hc => (nolt hk1d hc).elim))))))))
  refine Wk (Wq (WC_block (Wq ?_)))
  obtain ⟨u1v, hu1w, hm1x⟩ := bdS hm1u
  refine WC_cut (fun a w => ∃ (x15 : Bool), x15 = u1v ∧ Sat 45 [(0, Str.v x1), (3, (vI ((k14 : Nat) : Int))), (4, vB x15)] a ∧ Below w17.z w17 w) ?_ ?_
  ·refine Wg (Rm z (Rm z ?_))
   obtain ⟨x1y, e1f, hm1g⟩ := bdS hu1w
   refine R z (rd_indexStr d_9 z z (idxS e1f).1 (idxS e1f).2.1) (R z (rd_geq z z) (Rm z ?_))
   rcases bs (decide ((byteI (97 : UInt8)) ≤ (byteI x1y))) with hc11 | hc11
   ·refine Rh z hc11 (mv z) (Rh z hc11 (mv z) ?_)
    obtain ⟨x1z, e1h, hm20⟩ := bdS (ifT hm1g hc11)
    exact Rh z hc11 (rd_indexStr d_9 z z (idxS e1h).1 (idxS e1h).2.1) (Rh z hc11 (rd_leq z z) (R z (pT z hc11 z) (Ra z (Wl (fun _ q => ⟨decide ((byteI x1z) ≤ (byteI (122 : UInt8))), som hm20, (q.k (s3 z z z)), (br w17)⟩)))))
   iterate 4 refine Nh z hc11 ?_
   exact R z (pF z hc11 z) (Ra z (Wl (fun _ q => ⟨false, som (ifF hm1g hc11), (q.k (s3 z z z)), (br w17)⟩)))
  rintro a21 w18 ⟨x15, rfl, hS2n, s1i⟩
  revert a21
  refine Wo (Wq ?_)
  obtain ⟨u22, hu23, hm24⟩ := bdS hm1x
  refine WC_cut (fun a w => ∃ (x19 : Bool), x19 = u22 ∧ Sat 45 [(0, Str.v x1), (3, (vI ((k14 : Nat) : Int))), (4, vB x15), (5, vB x19)] a ∧ Below w18.z w18 w) ?_ ?_
  ·refine Wg (Rm z (Rm z ?_))
   obtain ⟨x25, e1j, hm1k⟩ := bdS hu23
   refine R z (rd_indexStr d_9 z z (idxS e1j).1 (idxS e1j).2.1) (R z (rd_geq z z) (Rm z ?_))
   rcases bs (decide ((byteI (48 : UInt8)) ≤ (byteI x25))) with hc12 | hc12
   ·refine Rh z hc12 (mv z) (Rh z hc12 (mv z) ?_)
    obtain ⟨x26, e1l, hm27⟩ := bdS (ifT hm1k hc12)
    exact Rh z hc12 (rd_indexStr d_9 z z (idxS e1l).1 (idxS e1l).2.1) (Rh z hc12 (rd_leq z z) (R z (pT z hc12 z) (Ra z (Wl (fun _ q => ⟨decide ((byteI x26) ≤ (byteI (57 : UInt8))), som hm27, (q.k (s4 z z z z)), (br w18)⟩)))))
   iterate 4 refine Nh z hc12 ?_
   exact R z (pF z hc12 z) (Ra z (Wl (fun _ q => ⟨false, som (ifF hm1k hc12), (q.k (s4 z z z z)), (br w18)⟩)))
  rintro a28 w16 ⟨x19, rfl, hS2o, s1m⟩
  revert a28
  refine Wo (Wq ?_)
  obtain ⟨u29, hu1n, hm1o⟩ := bdS hm24
  refine WC_cut (fun a w => ∃ (x1a : Bool), x1a = u29 ∧ Sat 45 [(0, Str.v x1), (3, (vI ((k14 : Nat) : Int))), (41, vB x1a)] a ∧ Below w16.z w16 w) ?_ ?_
  ·refine Wg (Rm z (R z (not_ z) (Rm z ?_)))
   rcases bs (!x15) with hc10 | hc10
   ·have hm1p := ifT hu1n hc10
    refine Rh z hc10 (mv z) (Rh z hc10 (not_ z) (Rh z hc10 (mv z) ?_))
    rcases bs (!x19) with hc13 | hc13
    ·exact Nh z hc13 (Nh z hc13 (Rh z hc10 (pT z hc13 z) (R z (pT z hc10 z) (Wl (fun _ q => ⟨true, som (ifT hm1p hc13), (q.k (s3 z z z)), (br w16)⟩)))))
    exact Rh z hc13 (mv z) (Rh z hc13 (eql z z) (Rh z hc10 (pF z hc13 z) (R z (pT z hc10 z) (Wl (fun _ q => ⟨((k14 : Nat) : Int) == 0, som (ifF hm1p hc13), (q.k (s3 z z z)), (br w16)⟩)))))
   iterate 3 refine Nh z hc10 ?_
   exact Nv z (Nv z (Nh z hc10 (R z (pF z hc10 z) (Wl (fun _ q => ⟨false, som (ifF hu1n hc10), (q.k (s3 z z z)), (br w16)⟩)))))
  rintro a2a w2p ⟨x1a, rfl, hS2q, s1q⟩
  revert a2a
  refine Wo (Wc z (fun hc1b => ?_) (fun hc1b => ?_))
  ·exact Ws (Ra z (Wn (Wr (rtO (QO_retL (som (ifT hm1o hc1b)).symm (ret1 hr z ⟨(bup (bup (bup s1e s1i) s1m) s1q), z⟩))))))
  exact Wk (Wg (Rm z (R z (inc_ hk1d (lt_ p1_0 LEN_le) z z) (Ra z (Wl (fun _ q => ⟨(), (som (ifF hm1o hc1b)).symm, ⟨(q.k (s2 z z)), (bup (bup (bup s1e s1i) s1m) s1q)⟩⟩))))))
 ·rintro _ a2r w2s ⟨hS2b, s2c⟩
  refine Wu ?_ hS2b
  refine Wq (Ws (Rm z (Rm z (R z (lnT d_9 z) (R z (lss z z) (Wn (Wc z (fun hc => (noltt hc).elim) (fun _ => ?_))))))))
  exact WC_exit (fun a' ha' => ⟨rfl, ⟨(Sat.weaken ha' (s1 z)), s2c⟩⟩)
 ·rintro _ a2d w2t rfl ⟨hS2u, s1r⟩
  have hm2e := elL hm1c
  revert a2d
  refine Wo (Ws (Rm z (R z (lnT d_9 z) ?_)))
  obtain ⟨r2v, e2f, hm2g⟩ := bdS hm2e
  refine E z (fc call97 z (W_w00 (B := B) e2f (lt_ hBw s1r.size) (inI_len p1_0) (ii z) (ii z))) ?_
  rintro _ w2w ⟨s2h, rfl⟩
  refine Ra z (Wn ?_)
  obtain rfl := som hm2g
  exact Wr (ret1 hr z ⟨(bup s1r s2h), z⟩)
 rintro r2x ex2y a2z w30 rfl ⟨rfl, hq2i⟩
 have hm2j := elR hm1c
 obtain rfl := som hm2j
 exact ⟨hq2i, z⟩
theorem W_w1y {x1 : Record} {res : Bool} (hm : M_spec_IsValidRecord x1 = some res) (hBw : B ≤ w0.z) (p1_0 : inI x1.kind) (p1_1 : x1.name.b.length ≤ LEN) (p1_2 : inI x1.version) (p1_3 : repS w0 B (sl AD ND CD) x1.data) : CallsR prog 76 [(.agg #[vI x1.kind, Str.v x1.name, vI x1.version, sl AD ND CD])] w0 (Q11 w0 B res) := by
 unfold M_spec_IsValidRecord at hm
 refine goF func76 z z (lb z) fun fn hr => Ws (E z (fb z) ?_)
 rintro _ w1b ⟨rfl, h1d⟩
 have h19 := h1d.below
 have h1e : Blk w1b w0.z [vI x1.kind, Str.v x1.name, vI x1.version, sl AD ND CD] := h1d.blk
 refine Ra z (Wn (Wq ?_))
 obtain ⟨u1p, hu1q, hm1r⟩ := bdS hm
 refine WC_cut (fun a w => ∃ (x1c : Bool), x1c = u1p ∧ Sat 38 [(2, vB x1c)] a ∧ Below w1b.z w1b w) ?_ ?_
 ·refine Wg (R z (fd f_76_0 z) (R z (l1 g_3 z fid (h1e.at z)) ?_))
  obtain ⟨r1s, e1t, hm1f⟩ := bdS hu1q
  refine E z (fc call97 z (W_w00 (B := B) e1t (lt_ hBw h19.size) p1_0 (ii z) (ii z))) ?_
  rintro _ w20 ⟨s12, rfl⟩
  refine Rm z ?_
  rcases bs r1s with hc15 | hc15
  ·refine Rh z hc15 (fd f_76_1 z) ?_
   have h1g := h1e.ext s12
   refine Rh z hc15 (l1 g_9 z fid (h1g.at z)) ?_
   have h1h := lt_ h19.size s12.size
   obtain ⟨r1u, e1v, hm1i⟩ := bdS (ifT hm1f hc15)
   refine Eg z z hc15 z (fc call106 z (W_w0b (B := B) e1v (lt_ hBw h1h) p1_1)) ?_
   rintro _ w21 ⟨s16, rfl⟩
   refine R z (pT z hc15 z) (Rm z ?_)
   rcases bs r1u with hc17 | hc17
   ·refine Rh z hc17 (fd f_76_2 z) ?_
    have h1j := h1g.ext s16
    refine Rh z hc17 (l1 g_3 z fid (h1j.at z)) ?_
    obtain ⟨r1w, e1x, hm1k⟩ := bdS (ifT hm1i hc17)
    refine Eg z z hc17 z (fc call97 z (W_w00 (B := B) e1x (lt_ hBw (lt_ h1h s16.size)) p1_2 (ii z) (ii z))) ?_
    rintro _ w22 ⟨s18, rfl⟩
    refine R z (pT z hc17 z) (Rm z ?_)
    rcases bs r1w with hc13 | hc13
    ·have hm1l := ifT hm1k hc13
     refine Rh z hc13 (fd f_76_3 z) ?_
     have h1a := h1j.ext s18
     refine Rh z hc13 (l1 g_25 z fid (h1a.at z)) ?_
     have h1m := (((p1_3.ext h19).ext s12).ext s16).ext s18
     refine Rh z hc13 (lnR d_25 z h1m) (Rh z hc13 (rd_leq z z) (R z (pT z hc13 z) (Rm z ?_)))
     rcases bs (decide ((x1.data.length : Int) ≤ 400)) with hc10 | hc10
     ·have hm1n := ifT hm1l hc10
      refine Rh z hc10 (fd f_76_0 z) (Rh z hc10 (l1 g_3 z fid (h1a.at z)) (Rh z hc10 (eql z z) (Rh z hc10 (mv z) ?_)))
      rcases bs (x1.kind == 1) with hc11 | hc11
      ·iterate 4 refine Nh z hc11 ?_
       exact Nv z (Nv z (Nv z (Nv z (Nh z hc11 (Rh z hc10 (pT z hc11 z) (R z (pT z hc10 z) (Ra z (Wl (fun _ q => ⟨true, som (ifT hm1n hc11), (q.k (s1 z)), (bup (bup s12 s16) s18)⟩)))))))))
      have hm1o := ifF hm1n hc11
      refine Rh z hc11 (fd f_76_2 z) (Rh z hc11 (l1 g_3 z fid (h1a.at z)) (Rh z hc11 (eql z z) (Rh z hc11 (mv z) ?_)))
      rcases bs (x1.version == 0) with hc14 | hc14
      ·exact Rh z hc14 (fd f_76_3 z) (Rh z hc14 (l1 g_25 z fid (h1a.at z)) (Rh z hc14 (lnR d_25 z h1m) (Rh z hc14 (eql z z) (Rh z hc11 (pT z hc14 z) (Rh z hc10 (pF z hc11 z) (R z (pT z hc10 z) (Ra z (Wl (fun _ q => ⟨(x1.data.length : Int) == 0, som (ifT hm1o hc14), (q.k (s1 z)), (bup (bup s12 s16) s18)⟩)))))))))
      iterate 4 refine Nh z hc14 ?_
      exact Rh z hc11 (pF z hc14 z) (Rh z hc10 (pF z hc11 z) (R z (pT z hc10 z) (Ra z (Wl (fun _ q => ⟨false, som (ifF hm1o hc14), (q.k (s1 z)), (bup (bup s12 s16) s18)⟩)))))
     iterate 4 refine Nh z hc10 ?_
     exact Nv z (Nv z (Nv z (Nv z (Nv z (Nv z (Nv z (Nv z (Nv z (Nh z hc10 (R z (pF z hc10 z) (Ra z (Wl (fun _ q => ⟨false, som (ifF hm1l hc10), (q.k (s1 z)), (bup (bup s12 s16) s18)⟩)))))))))))))
    iterate 4 refine Nh z hc13 ?_
    exact R z (pF z hc13 z) (Rm z (Nh z z (Nh z z (Nh z z (Nh z z (Nv z (Nv z (Nv z (Nv z (Nv z (Nv z (Nv z (Nv z (Nv z (Nh z z (R z (pF z z z) (Ra z (Wl (fun _ q => ⟨false, som (ifF hm1k hc13), (q.k (s1 z)), (bup (bup s12 s16) s18)⟩)))))))))))))))))))
   iterate 3 refine Nh z hc17 ?_
   refine R z (pF z hc17 z) (Rm z (Nh z z (Nh z z (Nh z z (Nh z z (R z (pF z z z) (Rm z (Nh z z (Nh z z (Nh z z (Nh z z (Nv z (Nv z (Nv z (Nv z (Nv z (Nv z (Nv z (Nv z (Nv z (Nh z z (R z (pF z z z) (Ra z (Wl ?_))))))))))))))))))))))))
   exact fun _ q => ⟨false, som (ifF hm1i hc17), (q.k (s1 z)), (bup s12 s16)⟩
  iterate 3 refine Nh z hc15 ?_
  refine R z (pF z hc15 z) (Rm z (Nh z z (Nh z z (Nh z z (R z (pF z z z) (Rm z (Nh z z (Nh z z (Nh z z (Nh z z (R z (pF z z z) (Rm z (Nh z z (Nh z z (Nh z z (Nh z z (Nv z (Nv z (Nv z (Nv z (Nv z (Nv z (Nv z (Nv z ?_))))))))))))))))))))))))
  exact Nv z (Nh z z (R z (pF z z z) (Ra z (Wl (fun _ q => ⟨false, som (ifF hm1f hc15), (q.k (s1 z)), s12⟩)))))
 rintro a1y w23 ⟨x1c, rfl, hS24, s1z⟩
 revert a1y
 refine Wo ?_
 obtain rfl := som hm1r
 exact Wr (ret1 hr z ⟨(bup h19 s1z), z⟩)
theorem W_w0p {x1 : List UInt8} {x2 : Int} {res : Int} (hm : M_spec_RunAt n x1 x2 = some res) (hBw : B ≤ w0.z) (p1_0 : repS w0 B (sl A0 N0 C0) x1) (p2_0 : inI x2) : CallsR prog 108 [sl A0 N0 C0, vI x2] w0 (Q0 w0 B res) := by
 unfold M_spec_RunAt at hm
 refine goF func108 z z (lb z) fun fn hr => Ws (Ra z (Wn (Wq (Ws (Rm z (Rm z (R z (lnR d_25 z p1_0) (R z (sb_ z z) ?_))))))))
 obtain ⟨r22, e1h, hm1b⟩ := bdS hm
 refine E z (fc call97 z (W_w00 (B := B) e1h hBw p2_0 (ii z) (iS _ _))) ?_
 rintro _ w12 ⟨s13, rfl⟩
 refine R z (not_ z) (Wn (Wc z (fun hc14 => ?_) (fun hc14 => ?_)))
 ·refine Ws (Ra z (Wn ?_))
  obtain rfl := som (ifT hm1b hc14)
  exact Wr (ret1 hr z ⟨s13, z, (ii z)⟩)
 refine Wk (Ws (Ra z (Wn (Wq ?_))))
 obtain ⟨u23, hu1i, hm1c⟩ := bdS (ifF hm1b hc14)
 refine WC_iter (σ := Int) (ρ := Int) (fun (x11 : Int) a w => Sat 34 [(0, sl A0 N0 C0), (1, vI x2), (5, vI x11)] a ∧ Below w12.z w12 w ∧ inI x11) (fun (x11 : Int) a w => Sat 34 [(5, vI x11)] a ∧ Below w12.z w12 w ∧ inI x11) (fun r ex a w => ex = .ret ∧ RetPost prog fn (Q0 w0 B r) a w) hu1i ?_ ?_ ?_ ?_
 ·exact fun _ q => ⟨(q.k (s3 z z z)), (br w12), (ii z)⟩
 ·rintro x11 a24 w1d o25 ⟨hS1j, s15, h16⟩ hm1k
  refine Wu ?_ hS1j
  refine Wq (Wq ?_)
  obtain ⟨u1l, hu1e, hm1f⟩ := bdS hm1k
  refine WC_cut (fun a w => ∃ (x17 : Bool), x17 = u1l ∧ Sat 34 [(0, sl A0 N0 C0), (1, vI x2), (5, vI x11), (30, vB x17)] a ∧ Below w1d.z w1d w) ?_ ?_
  ·refine WC_draw (X := noX) 0 (.rd 0 (.rd 1 (.rd 2 (.rd 3 (.rd 4 (.rd 5 (.rd 6 (.rd 7 (.rd 8 (.rd 9 (.rd 10 (.rd 11 (.rd 12 (.rd 13 (.rd 14 (.rd 15 (.rd 16 (.rd 17 (.rd 18 .done))))))))))))))))))) mo (by kernel_rfl) fun w26 s18 _ => dR z z (mv z) (dR z z (mv z) (dR z z (add_ z z) (dR z z (mv z) ?_)))
   have h19 := ((p1_0.ext s13).ext s15).ext s18
   refine dR z z (lnR d_25 z h19) (dR z z (lss z z) (dR z z (mv z) ?_))
   rcases bs (decide ((iadd x2 x11) < (x1.length : Int))) with hc10 | hc10
   ·iterate 3 refine dRg z z z hc10 z (mv z) ?_
    refine dRg z z z hc10 z (add_ z z) ?_
    obtain ⟨x1m, e1n, hm1o⟩ := bdS (ifT hu1e hc10)
    refine dRXg z z z hc10 z (at_ (α := UInt8) d_25 z_5 z z z h19 e1n) ?_
    rintro _ ⟨b27, o28, cs29, rfl, h1p, h1q, h2a⟩
    obtain rfl := UInt8_open h1q
    refine dRg z z z hc10 z (l1 g_5 z fid (h1p.at0 z)) (dRg z z z hc10 z (mv z) (dRg z z z hc10 z (mv z) ?_))
    obtain ⟨x1r, e1s, hm1t⟩ := bdS hm1o
    refine dRXg z z z hc10 z (at_ (α := UInt8) d_25 z_5 z z z h19 e1s) ?_
    rintro _ ⟨b2b, o2c, cs2d, rfl, h1u, h1v, h2e⟩
    obtain rfl := UInt8_open h1v
    exact dRg z z z hc10 z (l1 g_5 z fid (h1u.at0 z)) (dRg z z z hc10 z (eql z z) (dR z z (pT z hc10 z) (PR_done (fun _ q => ⟨(byteI x1m) == (byteI x1r), som hm1t, (q.k (s4 z z z z)), s18⟩))))
   iterate 11 refine dRn z z z hc10 z ?_
   exact dR z z (pF z hc10 z) (PR_done (fun _ q => ⟨false, som (ifF hu1e hc10), (q.k (s4 z z z z)), s18⟩))
  rintro a1w w2f ⟨x17, rfl, hS2g, s1g⟩
  revert a1w
  refine Wo (Wc z (fun hc1a => ?_) (fun hc1a => ?_))
  ·exact Wk (WC_block (Wg (Rm z (R z (add_ z z) (Ra z (Wl (fun _ q => ⟨iadd x11 1, (som (ifT hm1f hc1a)).symm, ⟨(q.k (s3 z z z)), (bup s15 s1g), (iA _ _)⟩⟩)))))))
  exact WC_exit (fun a' ha' => QO_brk (som (ifF hm1f hc1a)).symm ⟨(Sat.weaken ha' (s1 z)), (bup s15 s1g), h16⟩)
 ·rintro x11 a1x w2h rfl ⟨hS2i, s1y, h16⟩
  have hm1z := elL hm1c
  revert a1x
  refine Wo (Ws (Rm z (Ra z (Wn ?_))))
  obtain rfl := som hm1z
  exact Wr (ret1 hr z ⟨(bup s13 s1y), z, h16⟩)
 rintro r2j ex2k a2l w2m rfl ⟨rfl, hq20⟩
 have hm21 := elR hm1c
 obtain rfl := som hm21
 exact ⟨hq20, z⟩
theorem W_w1z {x1 : Int} {x2 : Int} {res : Int} (hm : M_spec_Min x1 x2 = some res) (hBw : B ≤ w0.z) (p1_0 : inI x1) (p2_0 : inI x2) : CallsR prog 107 [vI x1, vI x2] w0 (Q0 w0 B res) := by
 unfold M_spec_Min at hm
 refine goF func107 z z (lb z) fun fn hr => Ws (Ra z (Wn (Wq (Ws (Rm z (Rm z (R z (lss z z) (Wn (Wc z (fun hc10 => ?_) (fun hc10 => ?_))))))))))
 ·refine Ws (Rm z (Ra z (Wn ?_)))
  obtain rfl := som (ifT hm hc10)
  exact Wr (ret1 hr z ⟨(br w0), z, p2_0⟩)
 refine Wk (Ws (Rm z (Ra z (Wn ?_))))
 obtain rfl := som (ifF hm hc10)
 exact Wr (ret1 hr z ⟨(br w0), z, p1_0⟩)
theorem W_w20 {x1 : List UInt8} {res : (List UInt8)} (hm : M_spec_PackBytes n x1 = some res) (hBw : B ≤ w0.z) (p1_0 : repS w0 B (sl A0 N0 C0) x1) : CallsR prog 77 [sl A0 N0 C0] w0 (Q1 w0 B res) := by
 unfold M_spec_PackBytes at hm
 refine goF func77 z z (lb z) fun fn hr => Ws (Ra z (Wn (Ws (E z (ef_lit0 (α := UInt8) el_25) ?_))))
 rintro _ w17 ⟨a2w, n2x, c2y, rfl, s1e, h2z⟩
 refine Ra z (Wn (Wq (Ws (Ra z (Wn ?_)))))
 obtain ⟨u5n, hu30, hm28⟩ := bdS hm
 refine WC_iter (σ := (List UInt8) × Int) (ρ := (List UInt8)) (fun s a w => un2 (fun x1f x12 => ∃ a13 n14 c15 S10, Sat 64 [(0, sl A0 N0 C0), (3, sl a13 n14 c15), (4, vI x12)] a ∧ Chg (· ∈ [w0.z]) w17 w ∧ ownS w S10 (sl a13 n14 c15) x1f ∧ S10.Nodup ∧ (∀ k ∈ S10, k ∈ [w0.z] ∨ w17.z ≤ k) ∧ inI x12) s) (fun s a w => un2 (fun x1f x12 => ∃ a13 n14 c15 S10, Sat 64 [(3, sl a13 n14 c15)] a ∧ Chg (· ∈ [w0.z]) w17 w ∧ ownS w S10 (sl a13 n14 c15) x1f ∧ S10.Nodup ∧ (∀ k ∈ S10, k ∈ [w0.z] ∨ w17.z ≤ k) ∧ inI x12) s) (fun r ex a w => ex = .ret ∧ RetPost prog fn (Q1 w0 B r) a w) hu30 ?_ ?_ ?_ ?_
 ·exact fun _ q => ⟨a2w, n2x, c2y, [w0.z], (q.k (s3 z z z)), (cr [w0.z] w17), h2z, nd_one, (io sr), (ii z)⟩
 ·rintro ⟨x1f, x12⟩ a5o w11 o5p ⟨a13, n14, c15, S10, hS31, s1g, h1h, h1i, h1j, h1o⟩ hm32
  have hm29 := un2S hm32
  refine Wu ?_ hS31
  refine Wq (Ws (Rm z (Rm z ?_)))
  have h2a := mem1le hBw
  have h1k := (p1_0.ext s1e).chg s1g (lg h2a)
  refine R z (lnR d_25 z h1k) (R z (lss z z) (Wn (Wc z (fun hc1y => ?_) (fun hc1y => ?_))))
  ·refine Wk ?_
   obtain ⟨u33, hu34, hm2b⟩ := bdS (ifT hm29 hc1y)
   refine WC_cut (fun a w => ∃ (x1p : List UInt8) (x1l : Int), Sum.inl (x1p, x1l) = u33 ∧ ∃ a1q n1r c1s S1d, Sat 64 [(0, sl A0 N0 C0), (3, sl a1q n1r c1s), (4, vI x1l)] a ∧ Chg (· ∈ S10) w11 w ∧ ownS w S1d (sl a1q n1r c1s) x1p ∧ S1d.Nodup ∧ (∀ k ∈ S1d, k ∈ S10 ∨ w11.z ≤ k) ∧ inI x1l) ?_ ?_
   ·refine WC_block (Ws (Rm z (Rm z ?_)))
    have h2c := lt_ s1e.size s1g.size
    obtain ⟨r5q, e35, hm36⟩ := bdS hu34
    refine E z (fc call108 z (W_w0p (B := B) e35 (lt_ hBw h2c) h1k h1o)) ?_
    rintro _ w2d ⟨s18, rfl, h37⟩
    have h2e := lt_ h2c s18.size
    obtain ⟨r1t, e38, hm2f⟩ := bdS hm36
    refine E z (fc call107 z (W_w1z (B := B) e38 (lt_ hBw h2e) h37 (ii z))) ?_
    rintro _ w19 ⟨s1a, rfl, h5r⟩
    refine Ra z (Wn (Wq (Ws (Rm z (R z (rd_geq z z) (Wn (Wc z (fun hc1z => ?_) (fun hc1z => ?_))))))))
    ·refine Ws (Rm z (Rm z (R z (add_ z z) (R z (rd_convU d_3 d_5 z) (Rm z (Rm z ?_))))))
     obtain ⟨x20, e39, hm3a⟩ := bdS (ifT hm2f hc1z)
     refine RX z (at_ (α := UInt8) d_25 z_5 z z z ((h1k.ext s18).ext s1a) e39) ?_
     rintro _ ⟨b5s, o5t, cs5u, rfl, h3b, h3c, h5v⟩
     obtain rfl := UInt8_open h3c
     refine R z (l1 g_5 z fid (h3b.at0 z)) (E z (ef_buildSlice [(.tmp 21), (.tmp 25)] el_25 z z z (szAll z) (lb z) (lb z)) ?_)
     rintro _ w21 ⟨rfl, h2g⟩
     have h22 := h2g.below
     have h3d : Blk w21 w19.z [(vU (byteI (mkB (iadd 128 r1t)))), vU (byteI x20)] := h2g.blk
     have h3e : ownS w21 [w19.z] (sl (some ⟨w19.z, 0, none⟩) 2 2) [mkB (iadd 128 r1t), x20] := own_lit (l := [mkB (iadd 128 r1t), x20]) h3d z
     obtain ⟨x3f, e3g, hm3h⟩ := bdS hm3a
     refine E z (ef_appendN (α := UInt8) el_25 e3g z z (((h1h.ext s18).ext s1a).ext h22) h1i (ownS.rep h3e)) ?_
     rintro _ w3i ⟨S2h, a3j, n3k, c3l, rfl, s3m, h3n, h3o, h3p⟩
     refine Ra z (Wn (Ws (Rm z (Rm z (R z (add_ z z) (Ra z (Wn (WC_exit (exH ?_)))))))))
     have h3q : ∀ k ∈ S2h, k ∈ S10 ∨ w11.z ≤ k := or1 h3p (io sr) (leor (lt_ (lt_ s18.size s1a.size) h22.size))
     have h3r : Chg (· ∈ S10) w11 w2d := cext (cr S10 w11) s18
     have h3s : Chg (· ∈ S10) w11 w19 := cext h3r s1a
     have h3t : Chg (· ∈ S10) w11 w21 := cext h3s h22
     have h3u : Chg (· ∈ S10) w11 w3i := cM h3t s3m (io sr)
     exact fun _ q => ⟨x3f, iadd x12 r1t, som hm3h, a3j, n3k, c3l, S2h, (q.k (s3 z z z)), h3u, h3n, h3o, h3q, (iA _ _)⟩
    refine Wk (Ws (Rm z (Ra z (Wn (Wq ?_)))))
    obtain ⟨u5w, hu3v, hm2i⟩ := bdS (ifF hm2f hc1z)
    refine WC_iter (σ := Int) (ρ := (List UInt8)) (fun (x16 : Int) a w => Sat 64 [(0, sl A0 N0 C0), (3, sl a13 n14 c15), (4, vI x12), (6, vI x16)] a ∧ Below w19.z w19 w ∧ inI x16) (fun (x16 : Int) a w => Sat 64 [(0, sl A0 N0 C0), (3, sl a13 n14 c15), (4, vI x12), (6, vI x16)] a ∧ Below w19.z w19 w ∧ inI x16) (fun r ex a w => ex = .ret ∧ RetPost prog fn (Q1 w0 B r) a w) hu3v ?_ ?_ ?_ ?_
    ·exact fun _ q => ⟨(q.k (s4 z z z z)), (br w19), h1o⟩
    ·rintro x16 a5x w1u o5y ⟨hS3w, s1v, h1w⟩ hm3x
     refine Wu ?_ hS3w
     refine Wq (Wq ?_)
     obtain ⟨u3y, hu2j, hm2k⟩ := bdS hm3x
     refine WC_cut (fun a w => ∃ (x23 : Bool), x23 = u3y ∧ Sat 64 [(0, sl A0 N0 C0), (3, sl a13 n14 c15), (4, vI x12), (6, vI x16), (47, vB x23)] a ∧ Below w1u.z w1u w) ?_ ?_
     ·refine Wg (Rm z (Rm z ?_))
      have h2l := ((h1k.ext s18).ext s1a).ext s1v
      refine R z (lnR d_25 z h2l) (R z (lss z z) (Rm z ?_))
      rcases bs (decide (x16 < (x1.length : Int))) with hc1b | hc1b
      ·have hm2m := ifT hu2j hc1b
       refine Rh z hc1b (mv z) (Rh z hc1b (mv z) (Rh z hc1b (sb_ z z) (Rh z hc1b (lss z z) (R z (pT z hc1b z) (Rm z ?_)))))
       rcases bs (decide ((isub x16 x12) < 127)) with hc1c | hc1c
       ·refine Rh z hc1c (mv z) (Rh z hc1c (mv z) ?_)
        obtain ⟨r3z, e40, hm41⟩ := bdS (ifT hm2m hc1c)
        refine Eg z z hc1c z (fc call108 z (W_w0p (B := B) e40 (lt_ hBw (lt_ (lt_ h2e s1a.size) s1v.size)) h2l h1w)) ?_
        rintro _ w5z ⟨s42, rfl, h60⟩
        exact Rh z hc1c (lss z z) (R z (pT z hc1c z) (Wl (fun _ q => ⟨decide (r3z < 3), som hm41, (q.k (s5 z z z z z)), s42⟩)))
       iterate 4 refine Nh z hc1c ?_
       exact R z (pF z hc1c z) (Wl (fun _ q => ⟨false, som (ifF hm2m hc1c), (q.k (s5 z z z z z)), (br w1u)⟩))
      iterate 4 refine Nh z hc1b ?_
      exact R z (pF z hc1b z) (Rm z (Nh z z (Nh z z (Nh z z (Nh z z (R z (pF z z z) (Wl (fun _ q => ⟨false, som (ifF hu2j hc1b), (q.k (s5 z z z z z)), (br w1u)⟩))))))))
     rintro a43 w61 ⟨x23, rfl, hS62, s2n⟩
     revert a43
     refine Wo (Wc z (fun hc24 => ?_) (fun hc24 => ?_))
     ·exact Wk (WC_block (Wg (Rm z (R z (add_ z z) (Ra z (Wl (fun _ q => ⟨iadd x16 1, (som (ifT hm2k hc24)).symm, ⟨(q.k (s4 z z z z)), (bup s1v s2n), (iA _ _)⟩⟩)))))))
     exact WC_exit (fun a' ha' => QO_brk (som (ifF hm2k hc24)).symm ⟨(Sat.weaken ha' (s4 z z z z)), (bup s1v s2n), h1w⟩)
    ·rintro x16 a44 w25 rfl ⟨hS63, s1x, h1w⟩
     have hm45 := elL hm2i
     revert a44
     refine Wo (Wq (WC_draw (X := fun k => k ∈ S10 ∨ w25.z ≤ k) 0 (.rd 0 (.rd 1 (.rd 2 (.rd 3 (.rd 4 (.rd 7 (.rd 8 (.rd 9 (.rd 10 (.ef 5 (.ef 6 (.ef 11 (.rd 12 .done))))))))))))) mo (by kernel_rfl) fun w2o s1m _ => ?_))
     iterate 3 refine dR z z (mv z) ?_
     refine dR z z (sb_ z z) (dR z z (rd_convU d_3 d_5 z) ?_)
     iterate 3 refine dR z z (mv z) ?_
     obtain ⟨x64, e46, hm47⟩ := bdS hm45
     refine dRX z z (rd_sliceX d_25 z_5 z z ((((h1k.ext s18).ext s1a).ext s1x).ext s1m) z z e46) ?_
     rintro _ ⟨a65, n66, c67, rfl, h48⟩
     refine dE z z (ef_buildSlice [(.tmp 54)] el_25 z z z (szAll z) (lb z) (lb z)) (.inr fun _ _ h => chgB (h.2.below)) ?_
     rintro _ w2p ⟨rfl, h26⟩
     have h1n := h26.below
     have h49 : Blk w2p w2o.z [(vU (byteI (mkB (isub x16 x12))))] := h26.blk
     have h68 := ownS_new1 h26 UInt8_own
     obtain ⟨x69, e4a, hm4b⟩ := bdS hm47
     refine dE z z (ef_pushN (α := UInt8) el_25 e4a z z (((((h1h.ext s18).ext s1a).ext s1x).ext s1m).ext h1n) h1i h49 UInt8_own all_nil nd_nil) (.inr fun _ _ h => by obtain ⟨_, _, _, _, _, h, _⟩ := h; exact h.mono fun k _ hk => (io sr) k hk) ?_
     rintro _ w4c ⟨S2q, a6a, n6b, c6c, rfl, s27, h4d, h4e, h2r⟩
     obtain ⟨x4f, e4g, hm4h⟩ := bdS hm4b
     have h4i : ∀ k ∈ S2q, k ∈ S10 ∨ w25.z ≤ k := or2 h2r (io sr) all_nil (leor (lt_ s1m.size h1n.size))
     refine dE z z (ef_appendN (α := UInt8) el_25 e4g z z h4d h4e ((h48.ext h1n).chg s27 (lg (o1le h1j h2a (lt_ hBw s1e.size))))) (.inr fun _ _ h => by obtain ⟨_, _, _, _, _, h, _⟩ := h; exact h.mono fun k _ hk => h4i k hk) ?_
     rintro _ w4j ⟨S2s, a4k, n4l, c4m, rfl, s4n, h4o, h4p, h4q⟩
     refine dR z z (asg z) (PR_done (Wo (Wg (Rm z (Ra z (Wl ?_))))))
     have h2t := lt_ (lt_ (lt_ (lt_ s18.size s1a.size) s1x.size) s1m.size) h1n.size
     have h2u : ∀ k ∈ S2q, k ∈ S10 ∨ w11.z ≤ k := or2 h2r (io sr) all_nil (leor h2t)
     have h4r : ∀ k ∈ S2s, k ∈ S10 ∨ w11.z ≤ k := or1 h4q h2u (leor (lt_ h2t s27.size))
     have h4s : Chg (· ∈ S10) w11 w2d := cext (cr S10 w11) s18
     have h4t : Chg (· ∈ S10) w11 w19 := cext h4s s1a
     have h4u : Chg (· ∈ S10) w11 w25 := cext h4t s1x
     have h4v : Chg (· ∈ S10) w11 w2o := cext h4u s1m
     have h4w : Chg (· ∈ S10) w11 w2p := cext h4v h1n
     have h4x : Chg (· ∈ S10) w11 w4c := cM h4w s27 (io sr)
     have h4y : Chg (· ∈ S10) w11 w4j := cM h4x s4n h2u
     exact fun _ q => ⟨x4f, x16, som hm4h, a4k, n4l, c4m, S2s, (q.k (s3 z z z)), h4y, h4o, h4p, h4r, h1w⟩
    rintro r6d ex6e a6f w6g rfl ⟨rfl, hq4z⟩
    have hm50 := elR hm2i
    obtain rfl := som hm50
    have hm51 := elR hm2b
    exact ⟨(inbR (QO_ret (som hm51).symm ⟨rfl, hq4z⟩)), z⟩
   rintro a52 w53 ⟨x1p, x1l, rfl, a1q, n1r, c1s, S1d, hS6h, s54, h55, h56, h57, h58⟩
   have hm59 := elL hm2b
   have hm5a := un2S hm59
   revert a52
   have h2v : ∀ k ∈ S10, k ∈ [w0.z] ∨ w17.z ≤ k := or1 h1j (io sr) (leor lr)
   have h5b : ∀ k ∈ S1d, k ∈ [w0.z] ∨ w17.z ≤ k := or1 h57 h2v (leor s1g.size)
   have h5c : Chg (· ∈ [w0.z]) w17 w11 := cM (cr [w0.z] w17) s1g (io sr)
   have h5d : Chg (· ∈ [w0.z]) w17 w53 := cM h5c s54 h2v
   exact fun _ q => ⟨(x1p, x1l), (som hm5a).symm, ⟨a1q, n1r, c1s, S1d, (q.k (s3 z z z)), h5d, h55, h56, h5b, h58⟩⟩
  have h5e : ∀ k ∈ S10, k ∈ [w0.z] ∨ w17.z ≤ k := or1 h1j (io sr) (leor lr)
  have h5f : Chg (· ∈ [w0.z]) w17 w11 := cM (cr [w0.z] w17) s1g (io sr)
  exact WC_exit (fun a' ha' => QO_brk (som (ifF hm29 hc1y)).symm ⟨a13, n14, c15, S10, (Sat.weaken ha' (s1 z)), h5f, h1h, h1i, h5e, h1o⟩)
 ·rintro ⟨x1f, x12⟩ a5g w6i rfl ⟨a13, n14, c15, S10, hS6j, s5h, h1h, h1i, h1j, h1o⟩
  have hm5i := elL hm28
  have hm5j := un2S hm5i
  revert a5g
  refine Wo (Ws (Rm z (Ra z (Wn ?_))))
  obtain rfl := som hm5j
  have h5k : ∀ k ∈ S10, w0.z ≤ k := or1 h1j (mem1 lr) (lele s1e.size)
  exact Wr (ret1 hr z ⟨(bM s1e s5h (mem1 lr)), a13, n14, c15, S10, z, h1h, h1i, h5k⟩)
 rintro r6k ex6l a6m w6n rfl ⟨rfl, hq5l⟩
 have hm5m := elR hm28
 obtain rfl := som hm5m
 exact ⟨hq5l, z⟩
theorem W_w0q {x1 : Int} {res : Int} (hm : M_spec_l2Power x1 = some res) (hBw : B ≤ w0.z) (p1_0 : inI x1) : CallsR prog 109 [vI x1] w0 (Q0 w0 B res) := by
 unfold M_spec_l2Power at hm
 refine goF func109 z z (lb z) fun fn hr => Ws (Ra z (Wn (Ws (Rm z (R z (rd_mul z z) ?_)))))
 obtain ⟨u12, e10, hm11⟩ := bdS hm
 refine R z (rd_shl z z (nnS e10)) (Ra z (Wn ?_))
 obtain rfl := som hm11
 exact Wr (ret1 hr z ⟨(br w0), z, (inI_shl (ii z))⟩)
theorem W_w21 {x1 : Int} {x2 : Int} {res : (List UInt8)} (hm : M_spec_BigEndian n x1 x2 = some res) (hBw : B ≤ w0.z) (p1_0 : inI x1) (p2_0 : inI x2) : CallsR prog 78 [vI x1, vI x2] w0 (Q1 w0 B res) := by
 unfold M_spec_BigEndian at hm
 refine goF func78 z z (lb z) fun fn hr => Ws (Ra z (Wn (Ws (E z (ef_lit0 (α := UInt8) el_25) ?_))))
 rintro _ w1o ⟨a1d, n1e, c1f, rfl, s17, h1p⟩
 refine Ra z (Wn (Wq (Wq ?_)))
 obtain ⟨u20, hu21, hm1q⟩ := bdS hm
 refine WC_cut (fun a w => ∃ (x1g : Bool), x1g = u20 ∧ Sat 35 [(0, vI x1), (1, vI x2), (5, sl a1d n1e c1f), (18, vB x1g)] a ∧ Below w1o.z w1o w) ?_ ?_
 ·refine Wg (Rm z ?_)
  obtain ⟨r22, e23, hm1r⟩ := bdS hu21
  refine E z (fc call97 z (W_w00 (B := B) e23 (lt_ hBw s17.size) p2_0 (ii z) (ii z))) ?_
  rintro _ w35 ⟨s1h, rfl⟩
  refine R z (not_ z) (Rm z ?_)
  rcases bs (!r22) with hc12 | hc12
  ·iterate 6 refine Nh z hc12 ?_
   exact R z (pT z hc12 z) (Wl (fun _ q => ⟨true, som (ifT hm1r hc12), (q.k (s4 z z z z)), s1h⟩))
  refine Rh z hc12 (mv z) (Rh z hc12 (mv z) ?_)
  have h1s := lt_ s17.size s1h.size
  obtain ⟨r36, e24, hm25⟩ := bdS (ifF hm1r hc12)
  refine Eg z z hc12 z (fc call109 z (W_w0q (B := B) e24 (lt_ hBw h1s) p2_0)) ?_
  rintro _ w37 ⟨s1t, rfl, h38⟩
  refine Rh z hc12 (sb_ z z) ?_
  obtain ⟨r26, e27, hm28⟩ := bdS hm25
  refine Eg z z hc12 z (fc call97 z (W_w00 (B := B) e27 (lt_ hBw (lt_ h1s s1t.size)) p1_0 (ii z) (iS _ _))) ?_
  rintro _ w39 ⟨s29, rfl⟩
  exact Rh z hc12 (not_ z) (R z (pF z hc12 z) (Wl (fun _ q => ⟨!r26, som hm28, (q.k (s4 z z z z)), (bup (bup s1h s1t) s29)⟩)))
 rintro a2a w10 ⟨x1g, rfl, hS3a, s18⟩
 revert a2a
 refine Wo (Wc z (fun hc1i => ?_) (fun hc1i => ?_))
 ·refine Ws (Rm z (Ra z (Wn ?_)))
  obtain rfl := som (ifT hm1q hc1i)
  exact Wr (ret1 hr z ⟨(bup s17 s18), a1d, n1e, c1f, [w0.z], z, (h1p.ext s18), nd_one, (mem1 lr)⟩)
 refine Wk (Wq (Ws (Rm z (R z (sb_ z z) (Ra z (Wn ?_))))))
 obtain ⟨u3b, hu2b, hm1u⟩ := bdS (ifF hm1q hc1i)
 refine WC_iter (σ := (List UInt8) × Int) (ρ := (List UInt8)) (fun s a w => un2 (fun x19 x16 => ∃ a13 n14 c15 S11, Sat 35 [(0, vI x1), (5, sl a13 n14 c15), (6, vI x16)] a ∧ Chg (· ∈ [w0.z]) w10 w ∧ ownS w S11 (sl a13 n14 c15) x19 ∧ S11.Nodup ∧ (∀ k ∈ S11, k ∈ [w0.z] ∨ w10.z ≤ k) ∧ inI x16) s) (fun s a w => un2 (fun x19 x16 => ∃ a13 n14 c15 S11, Sat 35 [(5, sl a13 n14 c15)] a ∧ Chg (· ∈ [w0.z]) w10 w ∧ ownS w S11 (sl a13 n14 c15) x19 ∧ S11.Nodup ∧ (∀ k ∈ S11, k ∈ [w0.z] ∨ w10.z ≤ k) ∧ inI x16) s) (fun r ex a w => ex = .ret ∧ RetPost prog fn (Q1 w0 B r) a w) hu2b ?_ ?_ ?_ ?_
 ·exact fun _ q => ⟨a1d, n1e, c1f, [w0.z], (q.k (s3 z z z)), (cr [w0.z] w10), (h1p.ext s18), nd_one, (io sr), (iS _ _)⟩
 ·rintro ⟨x19, x16⟩ a3c w1j o3d ⟨a13, n14, c15, S11, hS2c, s1k, h1a, h1b, h1c, h1v⟩ hm2d
  have hm1w := un2S hm2d
  refine Wu ?_ hS2c
  refine Wq (Ws (Rm z (R z (rd_geq z z) (Wn (Wc z (fun hc1l => ?_) (fun hc1l => ?_))))))
  ·refine Wk (Wq (WC_block (Wg (Rm z (Rm z (Rm z (R z (rd_mul z z) ?_)))))))
   obtain ⟨u3e, e2e, hm2f⟩ := bdS (ifT hm1w hc1l)
   refine R z (rd_shr z z (nnS e2e)) (R z (rd_convU d_3 d_5 z) (E z (ef_buildSlice [(.tmp 31)] el_25 z z z (szAll z) (lb z) (lb z)) ?_))
   rintro _ w1x ⟨rfl, h1m⟩
   have h1n := h1m.below
   have h2g : Blk w1x w1j.z [(vU (byteI (mkB (shrK .i64 x1 (imul 8 x16)))))] := h1m.blk
   have h3f := ownS_new1 h1m UInt8_own
   obtain ⟨x2h, e2i, hm2j⟩ := bdS hm2f
   refine E z (ef_pushN (α := UInt8) el_25 e2i z z (h1a.ext h1n) h1b h2g UInt8_own all_nil nd_nil) ?_
   rintro _ w2k ⟨S1y, a2l, n2m, c2n, rfl, s2o, h2p, h2q, h2r⟩
   refine Ra z (Wn (Wg (Rm z (R z (sb_ z z) (Ra z (Wl ?_))))))
   have h1z : ∀ k ∈ S11, k ∈ [w0.z] ∨ w10.z ≤ k := or1 h1c (io sr) (leor lr)
   have h2s : ∀ k ∈ S1y, k ∈ [w0.z] ∨ w10.z ≤ k := or2 h2r h1z all_nil (leor (lt_ s1k.size h1n.size))
   have h2t : Chg (· ∈ [w0.z]) w10 w1j := cM (cr [w0.z] w10) s1k (io sr)
   have h2u : Chg (· ∈ [w0.z]) w10 w1x := cext h2t h1n
   have h2v : Chg (· ∈ [w0.z]) w10 w2k := cM h2u s2o h1z
   exact fun _ q => ⟨(x2h, isub x16 1), (som hm2j).symm, ⟨a2l, n2m, c2n, S1y, (q.k (s3 z z z)), h2v, h2p, h2q, h2s, (iS _ _)⟩⟩
  have h2w : ∀ k ∈ S11, k ∈ [w0.z] ∨ w10.z ≤ k := or1 h1c (io sr) (leor lr)
  have h2x : Chg (· ∈ [w0.z]) w10 w1j := cM (cr [w0.z] w10) s1k (io sr)
  exact WC_exit (fun a' ha' => QO_brk (som (ifF hm1w hc1l)).symm ⟨a13, n14, c15, S11, (Sat.weaken ha' (s1 z)), h2x, h1a, h1b, h2w, h1v⟩)
 ·rintro ⟨x19, x16⟩ a2y w3g rfl ⟨a13, n14, c15, S11, hS3h, s2z, h1a, h1b, h1c, h1v⟩
  have hm30 := elL hm1u
  have hm31 := un2S hm30
  revert a2y
  refine Wo (Ws (Rm z (Ra z (Wn ?_))))
  obtain rfl := som hm31
  have h32 : ∀ k ∈ S11, w0.z ≤ k := or1 h1c (mem1 lr) (lele (lt_ s17.size s18.size))
  exact Wr (ret1 hr z ⟨(bM (bup s17 s18) s2z (mem1 lr)), a13, n14, c15, S11, z, h1a, h1b, h32⟩)
 rintro r3i ex3j a3k w3l rfl ⟨rfl, hq33⟩
 have hm34 := elR hm1u
 obtain rfl := som hm34
 exact ⟨hq33, z⟩
theorem W_w0r {x1 : List UInt8} {res : Int} (hm : M_spec_SumOfBytes x1 = some res) (hBw : B ≤ w0.z) (p1_0 : repS w0 B (sl A0 N0 C0) x1) : CallsR prog 79 [sl A0 N0 C0] w0 (Q0 w0 B res) := by
 unfold M_spec_SumOfBytes at hm
 refine goF func79 z z (lb z) fun fn hr => Ws (Ra z (Wn (Ws (Ra z (Wn (Wq (Ws (Ra z (Wn ?_)))))))))
 obtain ⟨u1m, hu18, hm13⟩ := bdS hm
 refine WC_forN (σ := Int) (ρ := Int) (fun (k12 : Nat) (x10 : Int) a w => Sat 20 [(0, sl A0 N0 C0), (3, vI x10), (4, (vI ((k12 : Nat) : Int)))] a ∧ Below w0.z w0 w ∧ inI x10) (fun (x10 : Int) a w => Sat 20 [(3, vI x10)] a ∧ Below w0.z w0 w ∧ inI x10) (fun r ex a w => ex = .ret ∧ RetPost prog fn (Q0 w0 B r) a w) hu18 ?_ ?_ ?_ ?_ ?_
 ·exact fun _ q => ⟨(q.k (s3 z z z)), (br w0), (ii z)⟩
 ·rintro k12 x10 a1n w1o o1p hk14 ⟨hS19, s15, h11⟩ hm1a
  refine Wu ?_ hS19
  refine Wq (Ws (Rm z (Rm z ?_)))
  have h16 := p1_0.ext s15
  refine R z (lnR d_25 z h16) (R z (lss z z) (Wn (Wc z (fun _ => ?_) (fun hc => (nolt hk14 hc).elim))))
  refine Wk (Wq (WC_block (Wg (Rm z (Rm z (Rm z ?_))))))
  obtain ⟨x1b, e1c, hm1d⟩ := bdS hm1a
  refine RX z (at_ (α := UInt8) d_25 z_5 z z z h16 e1c) ?_
  rintro _ ⟨b1q, o1r, cs1s, rfl, h1e, h1f, h1t⟩
  obtain rfl := UInt8_open h1f
  exact R z (l1 g_5 z fid (h1e.at0 z)) (R z (rd_convUI d_5 d_3 z) (R z (add_ z z) (R z (rd_rem z z (by decide)) (Ra z (Wn (Wg (Rm z (R z (inc_ hk14 (lt_ (repS.len p1_0) LEN_le) z z) (Ra z (Wl (fun _ q => ⟨irem (iadd x10 (byteI x1b)) 256, (som hm1d).symm, ⟨(q.k (s3 z z z)), s15, (inI_rem (iA _ _))⟩⟩)))))))))))
 ·rintro x10 a1u w1v ⟨hS1g, s17, h11⟩
  refine Wu ?_ hS1g
  refine Wq (Ws (Rm z (Rm z (R z (lnR d_25 z (p1_0.ext s17)) (R z (lss z z) (Wn (Wc z (fun hc => (noltt hc).elim) (fun _ => ?_))))))))
  exact WC_exit (fun a' ha' => ⟨rfl, ⟨(Sat.weaken ha' (s1 z)), s17, h11⟩⟩)
 ·rintro x10 a1h w1w rfl ⟨hS1x, s1i, h11⟩
  have hm1j := elL hm13
  revert a1h
  refine Wo (Ws (Rm z (Ra z (Wn ?_))))
  obtain rfl := som hm1j
  exact Wr (ret1 hr z ⟨s1i, z, h11⟩)
 rintro r1y ex1z a20 w21 rfl ⟨rfl, hq1k⟩
 have hm1l := elR hm13
 obtain rfl := som hm1l
 exact ⟨hq1k, z⟩
theorem W_w22 {x1 : Record} {res : (List UInt8)} (hm : M_spec_EncodeRecord n x1 = some res) (hBw : B ≤ w0.z) (p1_0 : inI x1.kind) (p1_1 : x1.name.b.length ≤ LEN) (p1_2 : inI x1.version) (p1_3 : repS w0 B (sl AD ND CD) x1.data) : CallsR prog 48 [(.agg #[vI x1.kind, Str.v x1.name, vI x1.version, sl AD ND CD])] w0 (Q1 w0 B res) := by
 unfold M_spec_EncodeRecord at hm
 refine goF func48 z z (lb z) fun fn hr => Ws (E z (fb z) ?_)
 rintro _ w2c ⟨rfl, h1k⟩
 have h12 := h1k.below
 have h19 : Blk w2c w0.z [vI x1.kind, Str.v x1.name, vI x1.version, sl AD ND CD] := h1k.blk
 refine Ra z (Wn (Wq (Ws (R z (lN (vs := [vI x1.kind, Str.v x1.name, vI x1.version, sl AD ND CD]) g_76 z_76 z z fid (h19.row 0 4 z)) ?_))))
 have h1l := p1_3.ext h12
 obtain ⟨r3v, e2d, hm1m⟩ := bdS hm
 refine E z (fc call76 z (W_w1y (B := B) e2d (lt_ hBw h12.size) p1_0 p1_1 p1_2 h1l)) ?_
 rintro _ w2e ⟨s10, rfl⟩
 refine R z (not_ z) (Wn (Wc z (fun hc1a => ?_) (fun hc1a => ?_)))
 ·refine Ws (E z (ef_lit0 (α := UInt8) el_25) ?_)
  rintro _ w3w ⟨a2f, n2g, c2h, rfl, s2i, h2j⟩
  refine Ra z (Wn ?_)
  obtain rfl := som (ifT hm1m hc1a)
  exact Wr (ret1 hr z ⟨(bup (bup h12 s10) s2i), a2f, n2g, c2h, [w2e.z], z, h2j, nd_one, (mem1le (lt_ h12.size s10.size))⟩)
 refine Wk (Ws (R z (fd f_76_3 z) ?_))
 have h1n := h19.ext s10
 refine R z (l1 g_25 z fid (h1n.at z)) ?_
 have h1o := lt_ h12.size s10.size
 obtain ⟨r3x, e2k, hm2l⟩ := bdS (ifF hm1m hc1a)
 refine E z (fc call77 z (W_w20 (B := B) e2k (lt_ hBw h1o) (h1l.ext s10))) ?_
 rintro _ w1b ⟨s17, a3y, n3z, c40, S2m, rfl, h11, h41, h42⟩
 refine Ra z (Wn (Ws (R z (fd f_76_0 z) ?_)))
 have h1c := h1n.ext s17
 refine R z (l1 g_3 z fid (h1c.at z)) (R z (rd_convU d_3 d_5 z) (R z (fd f_76_1 z) (R z (l1 g_9 z fid (h1c.at z)) (R z (lnT d_9 z) (R z (rd_convU d_3 d_5 z) (E z (ef_buildSlice [(.tmp 14), (.tmp 18)] el_25 z z z (szAll z) (lb z) (lb z)) ?_))))))
 rintro _ w1p ⟨rfl, h1q⟩
 have h14 := h1q.below
 have h2n : Blk w1p w1b.z [(vU (byteI (mkB x1.kind))), (vU (byteI (mkB (x1.name.b.length : Int))))] := h1q.blk
 have h2o : ownS w1p [w1b.z] (sl (some ⟨w1b.z, 0, none⟩) 2 2) [mkB x1.kind, mkB (x1.name.b.length : Int)] := own_lit (l := [mkB x1.kind, mkB (x1.name.b.length : Int)]) h2n z
 refine R z (fd f_76_1 z) ?_
 have h1r := h1c.ext h14
 refine R z (l1 g_9 z fid (h1r.at z)) (E z (ef_convTS d_9 d_25 d_5 z p1_1) ?_)
 rintro _ w43 ⟨a44, n45, c46, rfl, s13, h2p⟩
 obtain ⟨x47, e2q, hm2r⟩ := bdS hm2l
 refine E z (ef_appendN (α := UInt8) el_25 e2q z z (h2o.ext s13) nd_one (ownS.rep h2p)) ?_
 rintro _ w2s ⟨S48, a49, n4a, c4b, rfl, s15, h2t, h2u, h1s⟩
 refine Ra z (Wn (Ws (Rm z (R z (fd f_76_2 z) (R z (l1 g_3 z fid (((h1r.ext s13).chg s15 (djs (mm1 h19.lt (lt_ s10.size s17.size)))).at z)) (R z (rd_convU d_3 d_5 z) (E z (ef_buildSlice [(.tmp 27)] el_25 z z z (szAll z) (lb z) (lb z)) ?_)))))))
 rintro _ w2v ⟨rfl, h1d⟩
 have h16 := h1d.below
 have h2w : Blk w2v w2s.z [(vU (byteI (mkB x1.version)))] := h1d.blk
 have h4c := ownS_new1 h1d UInt8_own
 obtain ⟨x4d, e2x, hm2y⟩ := bdS hm2r
 refine E z (ef_pushN (α := UInt8) el_25 e2x z z (h2t.ext h16) h2u h2w UInt8_own all_nil nd_nil) ?_
 rintro _ w4e ⟨S1t, a4f, n4g, c4h, rfl, s1e, h2z, h30, h1u⟩
 refine Rm z ?_
 have h1v := mnr (ownS.lt h11)
 have h1w := lt_ h14.size s13.size
 have h1x := o1no h1s h1v (ownS.lt h11) h1w
 have h1f := ((((h11.ext h14).ext s13).chg s15 (dj_symm h1v)).ext h16).chg s1e (dj_symm h1x)
 refine R z (lnR d_25 z (ownS_rep h1f (ownS.lt h11))) ?_
 have h1y := lt_ h1o s17.size
 have h1z := lt_ (lt_ h1y h14.size) s13.size
 have h20 := lt_ (lt_ h1z s15.size) h16.size
 have h21 := lt_ h20 s1e.size
 obtain ⟨r4i, e31, hm32⟩ := bdS hm2y
 refine E z (fc call78 z (W_w21 (B := B) e31 (lt_ hBw h21) (inI_len (repS.len (ownS_rep h1f (ownS.lt h11)))) (ii z))) ?_
 rintro _ w4j ⟨s18, a4k, n4l, c4m, S4n, rfl, h33, h4o, h4p⟩
 obtain ⟨x4q, e34, hm35⟩ := bdS hm32
 refine E z (ef_appendN (α := UInt8) el_25 e34 z z (h2z.ext s18) h30 (ownS.rep h33)) ?_
 rintro _ w4r ⟨S4s, a4t, n4u, c4v, rfl, s1g, h36, h37, h38⟩
 refine Rm z ?_
 obtain ⟨x4w, e39, hm3a⟩ := bdS hm35
 have h3b : ∀ k ∈ S1t, k ∉ S2m := or2 h1u h1x all_nil (ltnot (ownS.lt h11) (lt_ (lt_ h1w s15.size) h16.size))
 refine E z (ef_appendN (α := UInt8) el_25 e39 z z h36 h37 (ownS_rep ((h1f.ext s18).chg s1g (dj_symm h3b)) (ownS.lt h11))) ?_
 rintro _ w3c ⟨S4x, a4y, n4z, c50, rfl, s22, h23, h3d, h3e⟩
 refine Ra z (Wn (Ws (Rm z (Rm z ?_))))
 obtain ⟨r3f, e3g, hm3h⟩ := bdS hm3a
 refine E z (fc call79 z (W_w0r (B := w3c.z) e3g lr (ownS.rep h23))) ?_
 rintro _ w3i ⟨s1h, rfl, h51⟩
 refine R z (rd_convU d_3 d_5 z) (E z (ef_buildSlice [(.tmp 39)] el_25 z z z (szAll z) (lb z) (lb z)) ?_)
 rintro _ w3j ⟨rfl, h1i⟩
 have h1j := h1i.below
 have h3k : Blk w3j w3i.z [(vU (byteI (mkB r3f)))] := h1i.blk
 have h52 := ownS_new1 h1i UInt8_own
 obtain ⟨x53, e3l, hm3m⟩ := bdS hm3h
 refine E z (ef_pushN (α := UInt8) el_25 e3l z z ((h23.ext s1h).ext h1j) h3d h3k UInt8_own all_nil nd_nil) ?_
 rintro _ w54 ⟨S24, a3n, n3o, c3p, rfl, s3q, h3r, h3s, h3t⟩
 refine Ra z (Wn ?_)
 obtain rfl := som hm3m
 have h25 := mem1le h1y
 have h26 := o1le h1s h25 h1z
 have h27 : ∀ k ∈ S1t, w0.z ≤ k := or2 h1u h26 all_nil (lele h20)
 have h28 := lt_ h21 s18.size
 have h29 := o1le h38 h27 h28
 have h2a := lt_ h28 s1g.size
 have h2b := o1le h3e h29 h2a
 have h3u : ∀ k ∈ S24, w0.z ≤ k := or2 h3t h2b all_nil (lele (lt_ (lt_ (lt_ h2a s22.size) s1h.size) h1j.size))
 exact Wr (ret1 hr z ⟨(bM (bup (bup (bM (bM (bup (bM (bup (bM (bup (bup (bup (bup h12 s10) s17) h14) s13) s15 h25) h16) s1e h26) s18) s1g h27) s22 h29) s1h) h1j) s3q h2b), a3n, n3o, c3p, S24, z, h3r, h3s, h3u⟩)
theorem W_w23 {x1 : List UInt8} {x2 : List UInt8} {res : Bool} (hm : M_spec_EqualBytes x1 x2 = some res) (hBw : B ≤ w0.z) (p1_0 : repS w0 B (sl A0 N0 C0) x1) (p2_0 : repS w0 B (sl A6 N6 C6) x2) : CallsR prog 127 [sl A0 N0 C0, sl A6 N6 C6] w0 (Q11 w0 B res) := by
 unfold M_spec_EqualBytes at hm
 refine goF func127 z z (lb z) fun fn hr => Ws (Ra z (Wn (Wq (Ws (Rm z (R z (lnR d_25 z p1_0) (Rm z (R z (lnR d_25 z p2_0) (R z (nq z z) (Wn (Wc z (fun hc12 => ?_) (fun hc12 => ?_))))))))))))
 ·refine Ws (Ra z (Wn ?_))
  obtain rfl := som (ifT hm hc12)
  exact Wr (ret1 hr z ⟨(br w0), z⟩)
 refine Wk (Wq (Ws (Ra z (Wn ?_))))
 obtain ⟨u1q, hu1a, hm15⟩ := bdS (ifF hm hc12)
 refine WC_forN (σ := Unit) (ρ := Bool) (fun (k13 : Nat) (_ : Unit) a w => Sat 26 [(0, sl A0 N0 C0), (1, sl A6 N6 C6), (5, (vI ((k13 : Nat) : Int)))] a ∧ Below w0.z w0 w) (fun (_ : Unit) a w => Sat 26 [] a ∧ Below w0.z w0 w) (fun r ex a w => ex = .ret ∧ RetPost prog fn (Q11 w0 B r) a w) hu1a ?_ ?_ ?_ ?_ ?_
 ·exact fun _ q => ⟨(q.k (s3 z z z)), (br w0)⟩
 ·rintro k13 _ a1r w1s o1t hk16 ⟨hS1b, s10⟩ hm1c
  refine Wu ?_ hS1b
  refine Wq (Ws (Rm z (Rm z ?_)))
  have h17 := p1_0.ext s10
  refine R z (lnR d_25 z h17) (R z (lss z z) (Wn (Wc z (fun _ => ?_) (fun hc => (nolt hk16 hc).elim))))
  refine Wk (Wq (WC_block (Wq (WC_draw (X := noX) 0 (.rd 0 (.rd 1 (.rd 2 (.rd 3 (.rd 4 (.rd 5 (.rd 6 (.rd 7 (.rd 8 .done))))))))) mo (by kernel_rfl) fun w1u s11 _ => dR z z (mv z) (dR z z (mv z) ?_)))))
  obtain ⟨x1v, e1d, hm1e⟩ := bdS hm1c
  refine dRX z z (at_ (α := UInt8) d_25 z_5 z z z (h17.ext s11) e1d) ?_
  rintro _ ⟨b1w, o1x, cs1y, rfl, h1f, h1g, h1z⟩
  obtain rfl := UInt8_open h1g
  refine dR z z (l1 g_5 z fid (h1f.at0 z)) (dR z z (mv z) (dR z z (mv z) ?_))
  obtain ⟨x20, e1h, hm18⟩ := bdS hm1e
  refine dRX z z (at_ (α := UInt8) d_25 z_5 z z z ((p2_0.ext s10).ext s11) e1h) ?_
  rintro _ ⟨b21, o22, cs23, rfl, h1i, h1j, h24⟩
  obtain rfl := UInt8_open h1j
  refine dR z z (l1 g_5 z fid (h1i.at0 z)) (dR z z (nq z z) (PR_done (Wo (Wc z (fun hc14 => ?_) (fun hc14 => ?_)))))
  ·exact Ws (Ra z (Wn (Wr (rtO (QO_retL (som (ifT hm18 hc14)).symm (ret1 hr z ⟨(bup s10 s11), z⟩))))))
  exact Wk (Wg (Rm z (R z (inc_ hk16 (lt_ (repS.len p1_0) LEN_le) z z) (Ra z (Wl (fun _ q => ⟨(), (som (ifF hm18 hc14)).symm, ⟨(q.k (s3 z z z)), (bup s10 s11)⟩⟩))))))
 ·rintro _ a25 w26 ⟨hS1k, s19⟩
  refine Wu ?_ hS1k
  refine Wq (Ws (Rm z (Rm z (R z (lnR d_25 z (p1_0.ext s19)) (R z (lss z z) (Wn (Wc z (fun hc => (noltt hc).elim) (fun _ => ?_))))))))
  exact WC_exit (fun a' ha' => ⟨rfl, ⟨(Sat.weaken ha' sn), s19⟩⟩)
 ·rintro _ a1l w27 rfl ⟨hS28, s1m⟩
  have hm1n := elL hm15
  revert a1l
  refine Wo (Ws (Ra z (Wn ?_)))
  obtain rfl := som hm1n
  exact Wr (ret1 hr z ⟨s1m, z⟩)
 rintro r29 ex2a a2b w2c rfl ⟨rfl, hq1o⟩
 have hm1p := elR hm15
 obtain rfl := som hm1p
 exact ⟨hq1o, z⟩
def Q13 (w0 : World) (B : Nat) (r : Record × Int × Bool) (v : Value) (w' : World) : Prop := Bw w0 w' ∧ un3 (fun r1 r2 r3 => ∃ a1 n1 c1 S1, v = .tuple #[(.agg #[vI r1.kind, Str.v r1.name, vI r1.version, sl a1 n1 c1]), vI r2, vB r3] ∧ inI r1.kind ∧ r1.name.b.length ≤ LEN ∧ inI r1.version ∧ ownS w' S1 (sl a1 n1 c1) r1.data ∧ inI r2 ∧ S1.Nodup ∧ (∀ k ∈ S1, w0.z ≤ k)) r
theorem W_w24 {x1 : List UInt8} {x2 : Int} {res : Record × Int × Bool} (hm : M_spec_DecodeRecord n x1 x2 = some res) (hBw : B ≤ w0.z) (p1_0 : repS w0 B (sl A0 N0 C0) x1) (p2_0 : inI x2) : CallsR prog 100 [sl A0 N0 C0, vI x2] w0 (Q13 w0 B res) := by
 unfold M_spec_DecodeRecord at hm
 refine goF func100 z z (lb z) fun fn hr => Ws (E z (fa zero_76) ?_)
 rintro _ w2a ⟨rfl, h1t⟩
 have h15 := h1t.below
 have h16 : Blk w2a w0.z [vI 0, (Str.v (⟨[]⟩ : Str)), vI 0, sl none 0 0] := h1t.blk
 refine Ra z (Ra z (Wn (Wq (Ws (Rm z (Rm z ?_))))))
 have h1u := p1_0.ext h15
 refine R z (lnR d_25 z h1u) (R z (sb_ z z) ?_)
 obtain ⟨r3t, e2b, hm1v⟩ := bdS hm
 refine E z (fc call97 z (W_w00 (B := B) e2b (lt_ hBw h15.size) p2_0 (ii z) (iS _ _))) ?_
 rintro _ w3u ⟨s10, rfl⟩
 refine R z (not_ z) (Wn (Wc z (fun hc1l => ?_) (fun hc1l => ?_)))
 ·refine Ws (R z (bP (parts := []) (cs := [vI 0, (Str.v (⟨[]⟩ : Str)), vI 0, sl none 0 0]) build_76 z z) (Rm z (E0 (fs (cur' := [vI 0, (Str.v (⟨[]⟩ : Str)), vI 0, sl none 0 0]) z_76 z z (h16.ext s10) z (lb z) (oA z) z) ?_)))
  rintro _ w3v ⟨h2c, s2d⟩
  refine Ra z (Ra z (Wn ?_))
  obtain rfl := som (ifT hm1v hc1l)
  exact Wr (ret3 hr (resC g_76 z_76 z h2c z) z z ⟨(bM (bup h15 s10) s2d.one (mem1 lr)), none, 0, 0, [], z, (ii z), (lb z), (ii z), onL, p2_0, nd_nil, all_nil⟩)
 refine Wk (Ws (Rm z (R z (add_ z z) (Ra z (Wn (Ws (Rm z (Rm z (Rm z (R z (add_ z z) ?_))))))))))
 obtain ⟨x2e, e2f, hm1w⟩ := bdS (ifF hm1v hc1l)
 have h1i := h1u.ext s10
 refine RX z (at_ (α := UInt8) d_25 z_5 z z z h1i e2f) ?_
 rintro _ ⟨b3w, o3x, cs3y, rfl, h2g, h2h, h3z⟩
 obtain rfl := UInt8_open h2h
 refine R z (l1 g_5 z fid (h2g.at0 z)) (R z (rd_convUI d_5 d_3 z) (R z (add_ z z) (Ra z (Wn (Wq (Ws (Rm z (R z (add_ z z) (Rm z (R z (lnR d_25 z h1i) (R z (rd_gtr z z) (Wn (Wc z (fun hc1m => ?_) (fun hc1m => ?_))))))))))))))
 ·refine Ws (R z (bP (parts := []) (cs := [vI 0, (Str.v (⟨[]⟩ : Str)), vI 0, sl none 0 0]) build_76 z z) (Rm z (E0 (fs (cur' := [vI 0, (Str.v (⟨[]⟩ : Str)), vI 0, sl none 0 0]) z_76 z z (h16.ext s10) z (lb z) (oA z) z) ?_)))
  rintro _ w40 ⟨h2i, s2j⟩
  refine Ra z (Ra z (Wn ?_))
  obtain rfl := som (ifT hm1w hc1m)
  exact Wr (ret3 hr (resC g_76 z_76 z h2i z) z z ⟨(bM (bup h15 s10) s2j.one (mem1 lr)), none, 0, 0, [], z, (ii z), (lb z), (ii z), onL, p2_0, nd_nil, all_nil⟩)
 refine Wk (Ws (Rm z (Rm z (R z (add_ z z) (Rm z (R z (add_ z z) ?_))))))
 obtain ⟨x41, e2k, hm2l⟩ := bdS (ifF hm1w hc1m)
 refine RX z (rd_sliceX d_25 z_5 z z h1i z z e2k) ?_
 rintro _ ⟨a42, n43, c44, rfl, h2m⟩
 have h1x := lt_ h15.size s10.size
 obtain ⟨r2n, e2o, hm1y⟩ := bdS hm2l
 refine E z (fc call125 z (W_w0o (B := B) e2o (lt_ hBw h1x) h2m)) ?_
 rintro _ w45 ⟨s13, rfl, h46⟩
 refine Ra z (Wn (Ws (Rm z (R z (add_ z z) (Rm z (R z (add_ z z) (Ra z (Wn (Wq (Ws (Rm z (Rm z ?_))))))))))))
 have h1n := h1i.ext s13
 refine R z (lnR d_25 z h1n) (R z (rd_geq z z) (Wn (Wc z (fun hc1o => ?_) (fun hc1o => ?_))))
 ·refine Ws (R z (bP (parts := []) (cs := [vI 0, (Str.v (⟨[]⟩ : Str)), vI 0, sl none 0 0]) build_76 z z) (Rm z (E0 (fs (cur' := [vI 0, (Str.v (⟨[]⟩ : Str)), vI 0, sl none 0 0]) z_76 z z ((h16.ext s10).ext s13) z (lb z) (oA z) z) ?_)))
  rintro _ w47 ⟨h2p, s2q⟩
  refine Ra z (Ra z (Wn ?_))
  obtain rfl := som (ifT hm1y hc1o)
  exact Wr (ret3 hr (resC g_76 z_76 z h2p z) z z ⟨(bM (bup (bup h15 s10) s13) s2q.one (mem1 lr)), none, 0, 0, [], z, (ii z), (lb z), (ii z), onL, p2_0, nd_nil, all_nil⟩)
 refine Wk (Ws (Rm z (Rm z (R z (add_ z z) (Rm z ?_)))))
 obtain ⟨x48, e2r, hm2s⟩ := bdS (ifF hm1y hc1o)
 refine RX z (rd_sliceX d_25 z_5 z z h1n z z e2r) ?_
 rintro _ ⟨a49, n4a, c4b, rfl, h2t⟩
 have h1h := lt_ h1x s13.size
 obtain ⟨r2u, r4c, e2v, hm2w⟩ := bd2S hm2s
 refine E z (fc call126 z (W_w1x (B := B) e2v (lt_ hBw h1h) h2t)) ?_
 rintro _ w2x ⟨s14, a1a, n1b, c1c, S2y, rfl, h1p, h2z, h1z⟩
 refine Rm z (R z (ext_ z z) (R z (ext_ z z) (Ra z (Ra z (Wn (Wq (WC_draw (X := noX) 262144 (.rd 0 (.rd 1 (.rd 2 (.rd 3 (.rd 4 (.rd 5 (.rd 6 (.rd 7 (.rd 8 (.rd 9 (.rd 10 (.rd 11 (.rd 12 (.rd 13 (.rd 14 (.rd 15 (.rd 16 (.ef 17 (.ef 18 .done))))))))))))))))))) mo (by kernel_rfl) fun w20 s11 _ => dR z z (mv z) (dR z z (mv z) ?_))))))))
 obtain ⟨x1d, e30, hm31⟩ := bdS hm2w
 have h1j := (h1n.ext s14).ext s11
 refine dRX z z (at_ (α := UInt8) d_25 z_5 z z z h1j e30) ?_
 rintro _ ⟨b4d, o4e, cs4f, rfl, h32, h33, h4g⟩
 obtain rfl := UInt8_open h33
 refine dR z z (l1 g_5 z fid (h32.at0 z)) (dR z z (rd_convUI d_5 d_3 z) ?_)
 iterate 3 refine dR z z (mv z) ?_
 obtain ⟨x1e, e34, hm35⟩ := bdS hm31
 refine dRX z z (rd_sliceX d_25 z_5 z z h1j z z e34) ?_
 rintro _ ⟨a4h, n4i, c4j, rfl, h1q⟩
 refine dR z z (rd_convST d_25 d_9 d_5 z_5 z h1q) (dR z z (mv z) (dR z z (mv z) ?_))
 obtain ⟨x1f, e36, hm37⟩ := bdS hm35
 refine dRX z z (at_ (α := UInt8) d_25 z_5 z z z h1j e36) ?_
 rintro _ ⟨b4k, o4l, cs4m, rfl, h38, h39, h4n⟩
 obtain rfl := UInt8_open h39
 refine dR z z (l1 g_5 z fid (h38.at0 z)) (dR z z (rd_convUI d_5 d_3 z) (dR z z (mv z) (dR z z (bP (parts := [(0, (.tmp 70)), (1, (.tmp 75)), (2, (.tmp 80)), (3, (.tmp 81))]) (cs := [vI (byteI x1d), Str.v (⟨x1e⟩ : Str), vI (byteI x1f), sl a1a n1b c1c]) build_76 z z) (dE z z (fa zero_76) (.inr fun _ _ h => chgB (h.2.below)) ?_))))
 rintro _ w3a ⟨rfl, h21⟩
 have h17 := h21.below
 have h3b : Blk w3a w20.z [vI 0, (Str.v (⟨[]⟩ : Str)), vI 0, sl none 0 0] := h21.blk
 refine dE0 z (fs (cur' := [vI (byteI x1d), Str.v (⟨x1e⟩ : Str), vI (byteI x1f), sl a1a n1b c1c]) z_76 z z h3b z (lb z) (oA z) z) (.inl z) ?_
 rintro _ w4o ⟨h22, s3c⟩
 have h18 := s3c.one
 refine PR_done (Wo (Wq (Ws (R z (lN (vs := [vI (byteI x1d), Str.v (⟨x1e⟩ : Str), vI (byteI x1f), sl a1a n1b c1c]) g_76 z_76 z z fid (h22.row 0 4 z)) ?_))))
 have h23 := ((h1p.ext s11).ext h17).chg h18 (dj_symm (mno (ownS.lt h1p) s11.size))
 obtain ⟨r3d, e3e, hm3f⟩ := bdS hm37
 refine E z (fc call48 z (W_w22 (B := w2x.z) (x1 := (⟨byteI x1d, (⟨x1e⟩ : Str), byteI x1f, r2u⟩ : Record)) e3e (lt_ (lt_ s11.size h17.size) h18.size) (inI_byte _) (repS.len h1q) (inI_byte _) (ownS_rep h23 (ownS.lt h1p)))) ?_
 rintro _ w1k ⟨s19, a4p, n4q, c4r, S4s, rfl, h24, h4t, h4u⟩
 refine Ra z (Wn (Wq ?_))
 obtain ⟨u3g, hu25, hm26⟩ := bdS hm3f
 refine WC_cut (fun a w => ∃ (x1r : Bool), x1r = u3g ∧ Sat 103 [(1, vI x2), (4, pt w0.z), (10, (vI (iadd (iadd (iadd (iadd x2 2) (byteI x2e)) 3) r2n))), (13, pt w20.z), (97, vB x1r)] a ∧ Below w1k.z w1k w) ?_ ?_
 ·refine Wg (Rm z (R z (lnR d_25 z (ownS.rep h24)) (R z (eql z z) (Rm z ?_))))
  rcases bs ((r3d.length : Int) == 0) with hc12 | hc12
  ·iterate 8 refine Nh z hc12 ?_
   exact R z (pT z hc12 z) (Wl (fun _ q => ⟨true, som (ifT hu25 hc12), (q.k (s5 z z z z z)), (br w1k)⟩))
  iterate 4 refine Rh z hc12 (mv z) ?_
  refine Rh z hc12 (add_ z z) ?_
  obtain ⟨x4v, e3h, hm3i⟩ := bdS (ifF hu25 hc12)
  have h27 := lt_ (lt_ h1h s14.size) s11.size
  refine RXg z z hc12 z (rd_sliceX d_25 z_5 z z (((h1j.ext h17).chg h18 (lg (mem1le (lt_ hBw h27)))).ext s19) z z e3h) ?_
  rintro _ ⟨a4w, n4x, c4y, rfl, h3j⟩
  obtain ⟨r3k, e3l, hm3m⟩ := bdS hm3i
  refine Eg z z hc12 z (fc call127 z (W_w23 (B := w1k.z) e3l lr (ownS.rep h24) (repS.mono h3j (lt_ hBw (lt_ (lt_ (lt_ h27 h17.size) h18.size) s19.size))))) ?_
  rintro _ w4z ⟨s3n, rfl⟩
  exact Rh z hc12 (not_ z) (R z (pF z hc12 z) (Wl (fun _ q => ⟨!r3k, som hm3m, (q.k (s5 z z z z z)), s3n⟩)))
 rintro a3o w50 ⟨x1r, rfl, hS51, s1g⟩
 revert a3o
 refine Wo (Wc z (fun hc1s => ?_) (fun hc1s => ?_))
 ·refine Ws (R z (bP (parts := []) (cs := [vI 0, (Str.v (⟨[]⟩ : Str)), vI 0, sl none 0 0]) build_76 z z) (Rm z (E0 (fs (cur' := [vI 0, (Str.v (⟨[]⟩ : Str)), vI 0, sl none 0 0]) z_76 z z ((((((((h16.ext s10).ext s13).ext s14).ext s11).ext h17).chg h18 (djs (mm1 h16.lt (lt_ (lt_ (lt_ s10.size s13.size) s14.size) s11.size)))).ext s19).ext s1g) z (lb z) (oA z) z) ?_)))
  rintro _ w52 ⟨h3p, s3q⟩
  refine Ra z (Ra z (Wn ?_))
  obtain rfl := som (ifT hm26 hc1s)
  exact Wr (ret3 hr (resC g_76 z_76 z h3p z) z z ⟨(bM (bup (bup (bM (bup (bup (bup (bup (bup h15 s10) s13) s14) s11) h17) h18 (mem1le (lt_ (lt_ h1h s14.size) s11.size))) s19) s1g) s3q.one (mem1 lr)), none, 0, 0, [], z, (ii z), (lb z), (ii z), onL, p2_0, nd_nil, all_nil⟩)
 refine Wk (Ws (R z (lN (vs := [vI (byteI x1d), Str.v (⟨x1e⟩ : Str), vI (byteI x1f), sl a1a n1b c1c]) g_76 z_76 z z fid (((h22.ext s19).ext s1g).row 0 4 z)) (Rm z (R z (add_ z z) ?_))))
 have h28 := lt_ s10.size s13.size
 refine E0 (fs (cur' := [vI (byteI x1d), Str.v (⟨x1e⟩ : Str), vI (byteI x1f), sl a1a n1b c1c]) z_76 z z ((((((((h16.ext s10).ext s13).ext s14).ext s11).ext h17).chg h18 (djs (mm1 h16.lt (lt_ (lt_ h28 s14.size) s11.size)))).ext s19).ext s1g) z (lb z) (oA z) z) ?_
 rintro _ w53 ⟨h3r, s3s⟩
 have h29 := s3s.one
 refine Ra z (Ra z (Wn ?_))
 obtain rfl := som (ifF hm26 hc1s)
 exact Wr (ret3 hr (resC g_76 z_76 z h3r z) z z ⟨(bM (bup (bup (bM (bup (bup (bup (bup (bup h15 s10) s13) s14) s11) h17) h18 (mem1le (lt_ (lt_ h1h s14.size) s11.size))) s19) s1g) h29 (mem1 lr)), a1a, n1b, c1c, S2y, z, (inI_byte _), (repS.len h1q), (inI_byte _), (((h23.ext s19).ext s1g).chg h29 (o0n1 h1z h16.lt h28)), (iA _ _), h2z, (o0le h1z h1h)⟩)
def Q14 (w0 : World) (B : Nat) (r : (List Record) × Int) (v : Value) (w' : World) : Prop := Bw w0 w' ∧ un2 (fun r1 r2 => ∃ a1 n1 c1 S1, v = .tuple #[sl a1 n1 c1, vI r2] ∧ ownS w' S1 (sl a1 n1 c1) r1 ∧ inI r2 ∧ S1.Nodup ∧ (∀ k ∈ S1, w0.z ≤ k)) r
theorem W_w07 {x1 : List UInt8} {res : (List Record) × Int} (hm : M_spec_ReadRecords n x1 = some res) (hBw : B ≤ w0.z) (p1_0 : repS w0 B (sl A0 N0 C0) x1) : CallsR prog 68 [sl A0 N0 C0] w0 (Q14 w0 B res) := by
 unfold M_spec_ReadRecords at hm
 refine goF func68 z z (lb z) fun fn hr => Ws (Ra z (Ra z (Wn (Ws (E z (ef_lit0 (α := Record) el_89) ?_)))))
 rintro _ w10 ⟨a21, n22, c23, rfl, s1c, h24⟩
 refine Ra z (Wn (Ws (Ra z (Wn ?_))))
 obtain ⟨u3c, hu25, hm1o⟩ := bdS hm
 refine WC_iter (σ := (List Record) × Int) (ρ := (List Record) × Int) (fun s a w => un2 (fun x1d x17 => ∃ a13 n14 c15 S11, Sat 26 [(0, sl A0 N0 C0), (2, sl none 0 0), (3, vI 0), (4, sl a13 n14 c15), (5, vI x17)] a ∧ Chg (· ∈ [w0.z]) w10 w ∧ ownS w S11 (sl a13 n14 c15) x1d ∧ S11.Nodup ∧ (∀ k ∈ S11, k ∈ [w0.z] ∨ w10.z ≤ k) ∧ inI x17) s) (fun s a w => un2 (fun x1d x17 => ∃ a13 n14 c15 S11, Sat 26 [(2, sl none 0 0), (3, vI 0)] a ∧ Chg (· ∈ [w0.z]) w10 w ∧ ownS w S11 (sl a13 n14 c15) x1d ∧ S11.Nodup ∧ (∀ k ∈ S11, k ∈ [w0.z] ∨ w10.z ≤ k) ∧ inI x17) s) (fun r ex a w => ex = .ret ∧ RetPost prog fn (Q14 w0 B r) a w) hu25 ?_ ?_ ?_ ?_
 ·exact fun _ q => ⟨a21, n22, c23, [w0.z], (q.k (s5 z z z z z)), (cr [w0.z] w10), h24, nd_one, (io sr), (ii z)⟩
 ·rintro ⟨x1d, x17⟩ a3d w26 o3e ⟨a13, n14, c15, S11, hS27, s1a, h1b, h1g, h1h, h1i⟩ hm28
  have hm29 := un2S hm28
  refine Wu ?_ hS27
  refine WC_block (Ws (Rm z (Rm z ?_)))
  have h1p := lt_ s1c.size s1a.size
  obtain ⟨r12, r2a, r3f, e2b, hm1q⟩ := bd3S hm29
  refine E z (fc call100 z (W_w24 (B := B) e2b (lt_ hBw h1p) ((p1_0.ext s1c).chg s1a (lg (mem1le hBw))) h1i)) ?_
  rintro _ w1j ⟨s16, a1k, n1l, c1m, S1r, rfl, h2c, h2d, h2e, h1e, h2f, h2g, h1s⟩
  refine Rm z ?_
  iterate 3 refine R z (ext_ z z) ?_
  refine E z (fa zero_76) ?_
  rintro _ w1t ⟨rfl, h1u⟩
  have h18 := h1u.below
  have h2h : Blk w1t w1j.z [vI 0, (Str.v (⟨[]⟩ : Str)), vI 0, sl none 0 0] := h1u.blk
  refine E0 (fs (cur' := [vI r12.kind, Str.v r12.name, vI r12.version, sl a1k n1l c1m]) z_76 z z h2h z (lb z) (oA z) z) ?_
  rintro _ w1v ⟨h2i, s2j⟩
  have h19 := s2j.one
  refine Ra z (Ra z (Wn (Wq (Ws (Rm z (R z (not_ z) (Wn (Wc z (fun hc1n => ?_) (fun hc1n => ?_)))))))))
  ·refine Ws (Rm z (Rm z (Ra z (Ra z (Wn ?_)))))
   have h2k : ∀ k ∈ S11, w0.z ≤ k := or1 h1h (mem1 lr) (lele s1c.size)
   exact Wr (rtO (QO_retL (som (ifT hm1q hc1n)).symm (ret2 hr z z ⟨(bM (bup (bup (bM s1c s1a (mem1 lr)) s16) h18) h19 (mem1le (lt_ h1p s16.size))), a13, n14, c15, S11, z, (((h1b.ext s16).ext h18).chg h19 (dj_symm (mno (ownS.lt h1b) s16.size))), h1i, h1g, h2k⟩)))
  refine Wk (Ws (Rm z (R z (lN (vs := [vI r12.kind, Str.v r12.name, vI r12.version, sl a1k n1l c1m]) g_76 z_76 z z fid (h2i.row 0 4 z)) (E z (ef_buildSlice [(.tmp 22)] el_89 z z z (szAll z) (lb z) (lb z)) ?_))))
  rintro _ w1w ⟨rfl, h1x⟩
  have h1f := h1x.below
  have h2l : Blk w1w w1v.z [vI r12.kind, Str.v r12.name, vI r12.version, sl a1k n1l c1m] := h1x.blk
  have h3g := (h1e.ext h18).chg h19 (dj_symm (mnr (ownS.lt h1e)))
  obtain ⟨x2m, e2n, hm2o⟩ := bdS (ifF hm1q hc1n)
  refine E z (ef_pushN (α := Record) el_89 e2n z z ((((h1b.ext s16).ext h18).chg h19 (dj_symm (mno (ownS.lt h1b) s16.size))).ext h1f) h1g h2l (Record_mkO (x := r12) (S1 := S1r) h2c h2d h2e (((h1e.ext h18).chg h19 (dj_symm (mnr (ownS.lt h1e)))).ext h1f)) (o0no h1s (ownS.lt h1b) lr) h2g) ?_
  rintro _ w2p ⟨S1y, a2q, n2r, c2s, rfl, s2t, h2u, h2v, h2w⟩
  refine Ra z (Wn (Wg (Rm z (Ra z (Wl ?_)))))
  have h1z := lt_ s1a.size s16.size
  have h20 : ∀ k ∈ S11, k ∈ [w0.z] ∨ w10.z ≤ k := or1 h1h (io sr) (leor lr)
  have h2x : ∀ k ∈ S1r, k ∈ [w0.z] ∨ w10.z ≤ k := or0 h1s  (leor s1a.size)
  have h2y : ∀ k ∈ S1y, k ∈ [w0.z] ∨ w10.z ≤ k := or2 h2w h20 h2x (leor (lt_ (lt_ (lt_ h1z h18.size) h19.size) h1f.size))
  have h2z : Chg (· ∈ [w0.z]) w10 w26 := cM (cr [w0.z] w10) s1a (io sr)
  have h30 : Chg (· ∈ [w0.z]) w10 w1j := cext h2z s16
  have h31 : Chg (· ∈ [w0.z]) w10 w1t := cext h30 h18
  have h32 : ∀ k ∈ [w1j.z], k ∈ [w0.z] ∨ w10.z ≤ k := mor h1z
  have h33 : Chg (· ∈ [w0.z]) w10 w1v := cM h31 h19 h32
  have h34 : Chg (· ∈ [w0.z]) w10 w1w := cext h33 h1f
  have h35 : Chg (· ∈ [w0.z]) w10 w2p := cM h34 s2t h20
  exact fun _ q => ⟨(x2m, r2a), (som hm2o).symm, ⟨a2q, n2r, c2s, S1y, (q.k (s5 z z z z z)), h35, h2u, h2v, h2y, h2f⟩⟩
 ·rintro ⟨x1d, x17⟩ a36 w3h rfl ⟨a13, n14, c15, S11, hS3i, s37, h1b, h1g, h1h, h1i⟩
  have hm38 := elL hm1o
  have hm39 := un2S hm38
  revert a36
  obtain rfl := som hm39
  exact ret2 hr z z ⟨(bM s1c s37 (mem1 lr)), none, 0, 0, [], z, onL, (ii z), nd_nil, all_nil⟩
 rintro r3j ex3k a3l w3m rfl ⟨rfl, hq3a⟩
 have hm3b := elR hm1o
 obtain rfl := som hm3b
 exact ⟨hq3a, z⟩
theorem W_w0s {x1 : Log} {res : Bool} (hm : M_spec_IsValidLog n x1 = some res) (hBw : B ≤ w0.z) (p1_0 : repS w0 B (sl A0 N0 C0) x1.bytes) (p1_1 : inI x1.stored) : CallsR prog 65 [(.agg #[sl A0 N0 C0, vI x1.stored])] w0 (Q11 w0 B res) := by
 unfold M_spec_IsValidLog at hm
 refine goF func65 z z (lb z) fun fn hr => Ws (E z (fb z) ?_)
 rintro _ w1j ⟨rfl, h1b⟩
 have h11 := h1b.below
 have h15 : Blk w1j w0.z [sl A0 N0 C0, vI x1.stored] := h1b.blk
 refine Ra z (Wn (Wq (Ws (R z (fd f_35_1 z) (R z (l1 g_3 z fid (h15.at z)) (R z (fd f_35_0 z) (R z (l1 g_25 z fid (h15.at z)) ?_)))))))
 have h16 := p1_0.ext h11
 refine R z (lnR d_25 z h16) ?_
 obtain ⟨r1y, e1k, hm1c⟩ := bdS hm
 refine E z (fc call97 z (W_w00 (B := B) e1k (lt_ hBw h11.size) p1_1 (ii z) (inI_len (repS.len h16)))) ?_
 rintro _ w1z ⟨s12, rfl⟩
 refine R z (not_ z) (Wn (Wc z (fun hc17 => ?_) (fun hc17 => ?_)))
 ·refine Ws (Ra z (Wn ?_))
  obtain rfl := som (ifT hm1c hc17)
  exact Wr (ret1 hr z ⟨(bup h11 s12), z⟩)
 refine Wk (Ws (R z (fd f_35_0 z) ?_))
 have h1d := h15.ext s12
 refine R z (l1 g_25 z fid (h1d.at z)) ?_
 have h1e := h16.ext s12
 have h1f := lt_ h11.size s12.size
 obtain ⟨r20, r1l, e1m, hm1n⟩ := bd2S (ifF hm1c hc17)
 refine E z (fc call68 z (W_w07 (B := B) e1m (lt_ hBw h1f) h1e)) ?_
 rintro _ w21 ⟨s13, a22, n23, c24, S25, rfl, h26, h27, h28, h29⟩
 refine Rm z (R z (ext_ z z) (R z (ext_ z z) (Ra z (Ra z (Wn (Ws (R z (fd f_35_0 z) ?_)))))))
 have h18 := h1d.ext s13
 refine R z (l1 g_25 z fid (h18.at z)) (R z (fd f_35_1 z) (R z (l1 g_3 z fid (h18.at z)) ?_))
 obtain ⟨x2a, e1o, hm1p⟩ := bdS hm1n
 have h1g := h1e.ext s13
 refine RX z (rd_sliceX d_25 z_5 z z h1g z z e1o) ?_
 rintro _ ⟨a2b, n2c, c2d, rfl, h1q⟩
 obtain ⟨r2e, r1r, e1s, hm1t⟩ := bd2S hm1p
 refine E z (fc call68 z (W_w07 (B := B) e1s (lt_ hBw (lt_ h1f s13.size)) h1q)) ?_
 rintro _ w14 ⟨s19, a2f, n2g, c2h, S2i, rfl, h2j, h2k, h2l, h2m⟩
 refine Rm z (R z (ext_ z z) (R z (ext_ z z) (Ra z (Ra z (Wn (Wq ?_))))))
 obtain ⟨u1u, hu1h, hm1v⟩ := bdS hm1t
 refine WC_cut (fun a w => ∃ (x1a : Bool), x1a = u1u ∧ Sat 40 [(2, vB x1a)] a ∧ Below w14.z w14 w) ?_ ?_
 ·refine Wg (Rm z (R z (fd f_35_0 z) ?_))
  have h1i := h18.ext s19
  refine R z (l1 g_25 z fid (h1i.at z)) (R z (lnR d_25 z (h1g.ext s19)) (R z (eql z z) (Rm z ?_)))
  rcases bs (r1l == (x1.bytes.length : Int)) with hc10 | hc10
  ·exact Rh z hc10 (mv z) (Rh z hc10 (fd f_35_1 z) (Rh z hc10 (l1 g_3 z fid (h1i.at z)) (Rh z hc10 (eql z z) (R z (pT z hc10 z) (Ra z (Wl (fun _ q => ⟨r1r == x1.stored, som (ifT hu1h hc10), (q.k (s1 z)), (br w14)⟩)))))))
  iterate 4 refine Nh z hc10 ?_
  exact R z (pF z hc10 z) (Ra z (Wl (fun _ q => ⟨false, som (ifF hu1h hc10), (q.k (s1 z)), (br w14)⟩)))
 rintro a1w w2n ⟨x1a, rfl, hS2o, s1x⟩
 revert a1w
 refine Wo ?_
 obtain rfl := som hm1v
 exact Wr (ret1 hr z ⟨(bup (bup (bup (bup h11 s12) s13) s19) s1x), z⟩)
def Q15 (w0 : World) (B : Nat) (r : (List StoredFile)) (v : Value) (w' : World) : Prop := Bw w0 w' ∧ (fun r1 => ∃ a1 n1 c1, (sl a1 n1 c1) = v ∧ repS w' w'.z (sl a1 n1 c1) r1) r
theorem W_w25 {x1 : List StoredFile} {x2 : Record} {res : (List StoredFile)} (hm : M_spec_l35Apply x1 x2 = some res) (hBw : B ≤ w0.z) (p1_0 : repS w0 B (sl A0 N0 C0) x1) (p2_0 : inI x2.kind) (p2_1 : x2.name.b.length ≤ LEN) (p2_2 : inI x2.version) (p2_3 : repS w0 B (sl AG NG CG) x2.data) : CallsR prog 98 [sl A0 N0 C0, (.agg #[vI x2.kind, Str.v x2.name, vI x2.version, sl AG NG CG])] w0 (Q15 w0 B res) := by
 unfold M_spec_l35Apply at hm
 refine goF func98 z z (lb z) fun fn hr => Ws (E z (fb z) ?_)
 rintro _ w4v ⟨rfl, h3a⟩
 have h1d := h3a.below
 have h1r : Blk w4v w0.z [vI x2.kind, Str.v x2.name, vI x2.version, sl AG NG CG] := h3a.blk
 refine Ra z (Wn (Ws (E z (ef_lit0R (α := StoredFile) el_59 B) ?_)))
 rintro _ w1h ⟨a3b, rfl, s12, h4w⟩
 refine Ra z (Wn (Wq ?_))
 obtain ⟨u4x, hu2m, hm4y⟩ := bdS hm
 refine WC_cut (fun a w => ∃ (x1a : Str) (x1b : Int) (x1w : List UInt8), (x1a, x1b, x1w) = u4x ∧ ∃ a1m n1n c1o S1x g17, Sat 61 [(0, sl A0 N0 C0), (3, pt w0.z), (5, sl a3b 0 0), (6, pt g17)] a ∧ Below w1h.z w1h w ∧ x1a.b.length ≤ LEN ∧ inI x1b ∧ ownS w S1x (sl a1m n1n c1o) x1w ∧ S1x.Nodup ∧ (∀ k ∈ S1x, w1h.z ≤ k) ∧ Blk w g17 [Str.v x1a, vI x1b, sl a1m n1n c1o] ∧ w1h.z ≤ g17 ∧ (∀ k ∈ S1x, k ∉ [g17])) ?_ ?_
 ·refine WC_draw (X := fun k => k ∈ ([] : List Nat) ∨ w1h.z ≤ k) 1024 (.rd 0 (.rd 1 (.rd 2 (.rd 3 (.rd 5 (.rd 6 (.br 4 (.br 7 (.rd 8 (.ef 9 (.ef 10 .done))) 9 (.ef 7 (.rd 8 (.ef 10 .done)))) 9 (.ef 4 (.ef 7 (.rd 8 (.ef 10 .done))))))))))) mo (by kernel_rfl) fun w1y s13 _ => dR z z (fd f_76_1 z) ?_
  have h2n := (h1r.ext s12).ext s13
  refine dR z z (l1 g_9 z (notNew nm0 (Nat.lt_of_lt_of_le h1r.lt s12.size)) (h2n.at z)) (dR z z (fd f_76_2 z) (dR z z (l1 g_3 z (notNew nm0 (Nat.lt_of_lt_of_le h1r.lt s12.size)) (h2n.at z)) (dR z z (fd f_76_3 z) (dR z z (l1 g_25 z (notNew nm0 (Nat.lt_of_lt_of_le h1r.lt s12.size)) (h2n.at z)) (PR_br ?_ ?_)))))
  ·refine dE z z (ef_lit0 (α := UInt8) el_25) (.inr fun _ _ h => chgB (by obtain ⟨_, _, _, _, h, _⟩ := h; exact h)) ?_
   rintro _ w2o ⟨a8d, n8e, c8f, rfl, s1s, h2p⟩
   refine PR_br ?_ ?_
   ·obtain ⟨x4z, e50, hm51⟩ := bdS hu2m
    have h52 : ∀ k ∈ [w1y.z], k ∈ ([] : List Nat) ∨ w1h.z ≤ k := mor s13.size
    refine dE z z (ef_appendN (α := UInt8) el_25 e50 z z h2p nd_one ((((p2_3.ext h1d).ext s12).ext s13).ext s1s)) (.inr fun _ _ h => by obtain ⟨_, _, _, _, _, h, _⟩ := h; exact h.mono fun k _ hk => h52 k hk) ?_
    rintro _ w3c ⟨S53, a2q, n2r, c2s, rfl, s3d, h3e, h54, h55⟩
    refine dR z z (bP (parts := [(0, (.tmp 11)), (1, (.tmp 13)), (2, (.tmp 17))]) (cs := [Str.v x2.name, vI x2.version, sl a2q n2r c2s]) build_63 z z) (dE z z (fa zero_63) (.inr fun _ _ h => chgB (h.2.below)) ?_)
    rintro _ w56 ⟨rfl, h3f⟩
    have h3g := h3f.below
    have h57 : Blk w56 w3c.z [(Str.v (⟨[]⟩ : Str)), vI 0, sl none 0 0] := h3f.blk
    have h3h := lt_ s13.size s1s.size
    have h2t := mem1le (lt_ h3h s3d.size)
    refine dE0 z (fs (cur' := [Str.v x2.name, vI x2.version, sl a2q n2r c2s]) z_63 z z h57 z (lb z) (oA z) z) (.inr fun _ _ h => chgNew (atp h2t) h.2) ?_
    rintro _ w8g ⟨h58, s59⟩
    have h3i := s59.one
    refine PR_done ?_
    have h3j := mnr (ownS.lt h3e)
    have h3k := mem1le s13.size
    exact fun _ q => ⟨x2.name, x2.version, x4z, som hm51, a2q, n2r, c2s, S53, w3c.z, (q.k (s4 z z z z)), (bM (bup (bM (bup s13 s1s) s3d h3k) h3g) h3i h2t), p2_1, p2_2, ((h3e.ext h3g).chg h3i (dj_symm h3j)), h54, (o1le h55 h3k h3h), h58, (atp h2t), (dj_symm h3j)⟩
   refine dE z z (fa zero_63) (.inr fun _ _ h => chgB (h.2.below)) ?_
   rintro _ w5a ⟨rfl, h3l⟩
   have h23 := h3l.below
   have h3m : Blk w5a w2o.z [(Str.v (⟨[]⟩ : Str)), vI 0, sl none 0 0] := h3l.blk
   obtain ⟨x5b, e5c, hm5d⟩ := bdS hu2m
   have h5e : ∀ k ∈ [w1y.z], k ∈ ([] : List Nat) ∨ w1h.z ≤ k := mor s13.size
   refine dE z z (ef_appendN (α := UInt8) el_25 e5c z z (h2p.ext h23) nd_one (((((p2_3.ext h1d).ext s12).ext s13).ext s1s).ext h23)) (.inr fun _ _ h => by obtain ⟨_, _, _, _, _, h, _⟩ := h; exact h.mono fun k _ hk => h5e k hk) ?_
   rintro _ w8h ⟨S3n, a2u, n2v, c2w, rfl, s3o, h5f, h5g, h3p⟩
   refine dR z z (bP (parts := [(0, (.tmp 11)), (1, (.tmp 13)), (2, (.tmp 17))]) (cs := [Str.v x2.name, vI x2.version, sl a2u n2v c2w]) build_63 z z) ?_
   have h3q := mnr (ownS.lt h2p)
   have h3r := lt_ s13.size s1s.size
   have h2x := mem1le h3r
   refine dE0 z (fs (cur' := [Str.v x2.name, vI x2.version, sl a2u n2v c2w]) z_63 z z (h3m.chg s3o (atp h3q)) z (lb z) (oA z) z) (.inr fun _ _ h => chgNew (atp h2x) h.2) ?_
   rintro _ w8i ⟨h5h, s5i⟩
   have h3s := s5i.one
   refine PR_done ?_
   have h3t : ∀ k ∈ S3n, k ∉ [w2o.z] := or1 h3p (dj_symm h3q) (ltnot (mem1 h3m.lt) lr)
   have h3u := mem1le s13.size
   exact fun _ q => ⟨x2.name, x2.version, x5b, som hm5d, a2u, n2v, c2w, S3n, w2o.z, (q.k (s4 z z z z)), (bM (bM (bup (bup s13 s1s) h23) s3o h3u) h3s h2x), p2_1, p2_2, (h5f.chg h3s h3t), h5g, (o1le h3p h3u (lt_ h3r h23.size)), h5h, (atp h2x), h3t⟩
  refine dE z z (fa zero_63) (.inr fun _ _ h => chgB (h.2.below)) ?_
  rintro _ w3v ⟨rfl, h3w⟩
  have h2y := h3w.below
  have h2z : Blk w3v w1y.z [(Str.v (⟨[]⟩ : Str)), vI 0, sl none 0 0] := h3w.blk
  refine dE z z (ef_lit0 (α := UInt8) el_25) (.inr fun _ _ h => chgB (by obtain ⟨_, _, _, _, h, _⟩ := h; exact h)) ?_
  rintro _ w8j ⟨a8k, n8l, c8m, rfl, s1z, h5j⟩
  obtain ⟨x5k, e5l, hm5m⟩ := bdS hu2m
  have h30 := lt_ s13.size h2y.size
  have h5n : ∀ k ∈ [w3v.z], k ∈ ([] : List Nat) ∨ w1h.z ≤ k := mor h30
  refine dE z z (ef_appendN (α := UInt8) el_25 e5l z z h5j nd_one (((((p2_3.ext h1d).ext s12).ext s13).ext h2y).ext s1z)) (.inr fun _ _ h => by obtain ⟨_, _, _, _, _, h, _⟩ := h; exact h.mono fun k _ hk => h5n k hk) ?_
  rintro _ w8n ⟨S3x, a31, n32, c33, rfl, s3y, h5o, h5p, h3z⟩
  refine dR z z (bP (parts := [(0, (.tmp 11)), (1, (.tmp 13)), (2, (.tmp 17))]) (cs := [Str.v x2.name, vI x2.version, sl a31 n32 c33]) build_63 z z) ?_
  have h40 := mmr h2z.lt
  have h34 := mem1le s13.size
  refine dE0 z (fs (cur' := [Str.v x2.name, vI x2.version, sl a31 n32 c33]) z_63 z z ((h2z.ext s1z).chg s3y (djs h40)) z (lb z) (oA z) z) (.inr fun _ _ h => chgNew (atp h34) h.2) ?_
  rintro _ w8o ⟨h5q, s5r⟩
  have h41 := s5r.one
  refine PR_done ?_
  have h42 : ∀ k ∈ S3x, k ∉ [w1y.z] := or1 h3z h40 (ltnot (mem1 h2z.lt) s1z.size)
  have h43 := mem1le h30
  exact fun _ q => ⟨x2.name, x2.version, x5k, som hm5m, a31, n32, c33, S3x, w1y.z, (q.k (s4 z z z z)), (bM (bM (bup (bup s13 h2y) s1z) s3y h43) h41 h34), p2_1, p2_2, (h5o.chg h41 h42), h5p, (o1le h3z h43 (lt_ h30 s1z.size)), h5q, (atp h34), h42⟩
 rintro a5s w18 ⟨x1a, x1b, x1w, rfl, a1m, n1n, c1o, S1x, g17, hS8p, s1e, h44, h45, h1t, h8q, h8r, h46, h8s, h8t⟩
 have hm5t := un3S hm4y
 revert a5s
 refine Wo (Ws (Ra z (Wn (Wq (Ws (Ra z (Wn ?_)))))))
 obtain ⟨u8u, hu5u, hm47⟩ := bdS hm5t
 refine WC_forN (σ := (List StoredFile) × Bool) (ρ := (List StoredFile)) (fun (k20 : Nat) s a w => un2 (fun x1i x19 => ∃ a14 n15 c16 S10, Sat 61 [(0, sl A0 N0 C0), (3, pt w0.z), (5, sl a14 n15 c16), (6, pt g17), (7, vB x19), (8, (vI ((k20 : Nat) : Int)))] a ∧ Below w18.z w18 w ∧ shrS w S10 w18.z (sl a14 n15 c16) x1i ∧ S10.Nodup ∧ (∀ k ∈ S10, w18.z ≤ k)) s) (fun s a w => un2 (fun x1i x19 => ∃ a14 n15 c16 S10, Sat 61 [(3, pt w0.z), (5, sl a14 n15 c16), (6, pt g17), (7, vB x19)] a ∧ Below w18.z w18 w ∧ shrS w S10 w18.z (sl a14 n15 c16) x1i ∧ S10.Nodup ∧ (∀ k ∈ S10, w18.z ≤ k)) s) (fun r ex a w => ex = .ret ∧ RetPost prog fn (Q15 w0 B r) a w) hu5u ?_ ?_ ?_ ?_ ?_
 ·exact fun _ q => ⟨a3b, 0, 0, ([] : List Nat), (q.k (s6 z z z z z z)), (br w18), (shrS.mono (h4w.ext s1e) (lt_ hBw (lt_ (lt_ h1d.size s12.size) s1e.size))), nd_nil, all_nil⟩
 ·rintro k20 ⟨x1i, x19⟩ a8v w8w o8x hk48 ⟨a14, n15, c16, S10, hS5v, s1p, h1j, h1k, h1f⟩ hm5w
  have hm5x := un2S hm5w
  refine Wu ?_ hS5v
  refine Wq (Ws (Rm z (Rm z ?_)))
  have h49 := (((p1_0.ext h1d).ext s12).ext s1e).ext s1p
  refine R z (lnR d_59 z h49) (R z (lss z z) (Wn (Wc z (fun _ => ?_) (fun hc => (nolt hk48 hc).elim))))
  refine Wk (Wq (WC_block (WC_block (Wq (WC_draw (X := noX) 0 (.rd 0 (.rd 1 (.rd 2 (.rd 3 (.rd 4 (.rd 5 (.rd 6 (.rd 7 (.rd 8 .done))))))))) mo (by kernel_rfl) fun w11 s1c _ => dR z z (mv z) (dR z z (mv z) ?_))))))
  obtain ⟨x8y, e5y, hm5z⟩ := bdS hm5x
  have h4a := h49.ext s1c
  refine dRX z z (at_ (α := StoredFile) d_59 z_63 z z z h4a e5y) ?_
  rintro _ ⟨b8z, o90, cs91, rfl, h60, h61, h92⟩
  obtain ⟨a93, n94, c95, rfl, h96, h97, h98⟩ := StoredFile_open h61
  refine dR z z (fd f_63_0 z) (dR z z (l1 g_9 z fid (h60.at (j := 0) z)) (dR z z (fd f_76_1 z) ?_))
  have h4b := (((h1r.ext s12).ext s1e).ext s1p).ext s1c
  refine dR z z (l1 g_9 z fid (h4b.at z)) (dR z z (rd_neqT z z) (dR z z (asg z) (PR_done (Wo ?_))))
  obtain ⟨u62, hu4c, hm63⟩ := bdS hm5z
  refine WC_cut (fun a w => ∃ (x24 : List StoredFile) (x25 : Bool), (x24, x25) = u62 ∧ ∃ a26 n27 c28 S21, Sat 61 [(0, sl A0 N0 C0), (3, pt w0.z), (5, sl a26 n27 c28), (6, pt g17), (7, vB x25), (8, (vI ((k20 : Nat) : Int)))] a ∧ Chg (· ∈ S10) w11 w ∧ shrS w S21 w18.z (sl a26 n27 c28) x24 ∧ S21.Nodup ∧ (∀ k ∈ S21, k ∈ S10 ∨ w11.z ≤ k)) ?_ ?_
  ·refine Wc z (fun hc35 => ?_) (fun hc35 => ?_)
   ·refine Wg (Rm z (Rm z (Rm z ?_)))
    obtain ⟨x22, e64, hm65⟩ := bdS (ifT hu4c hc35)
    refine RX z (at_ (α := StoredFile) d_59 z_63 z z z h4a e64) ?_
    rintro _ ⟨b99, o9a, cs9b, rfl, h66, h67, h9c⟩
    obtain ⟨a4d, n4e, c4f, rfl, h68, h69, h6a⟩ := StoredFile_open h67
    refine R z (lN (vs := [Str.v x22.name, vI x22.version, sl a4d n4e c4f]) g_63 z_63 z z fid h66) (E z (ef_buildSlice [(.tmp 38)] el_59 z z z (szAll z) (lb z) (lb z)) ?_)
    rintro _ w4g ⟨rfl, h4h⟩
    have h29 := h4h.below
    have h6b : Blk w4g w11.z [Str.v x22.name, vI x22.version, sl a4d n4e c4f] := h4h.blk
    obtain ⟨x6c, e6d, hm6e⟩ := bdS hm65
    refine E z (ef_pushR (α := StoredFile) el_59 e6d z z ((h1j.ext s1c).ext h29) h1k h6b (StoredFile_mk (x := x22) h68 h69 (repS.mono (h6a.ext h29) (lt_ hBw (lt_ (lt_ h1d.size s12.size) s1e.size)))) h1f) ?_
    rintro _ w6f ⟨S4i, a6g, n6h, c6i, rfl, s6j, h6k, h6l, h6m⟩
    refine Ra z (Wl ?_)
    have h6n : ∀ k ∈ S4i, k ∈ S10 ∨ w11.z ≤ k := or1 h6m (io sr) (leor h29.size)
    have h6o : Chg (· ∈ S10) w11 w4g := cext (cr S10 w11) h29
    have h6p : Chg (· ∈ S10) w11 w6f := cM h6o s6j (io sr)
    exact fun _ q => ⟨x6c, x19, som hm6e, a6g, n6h, c6i, S4i, (q.k (s6 z z z z z z)), h6p, h6k, h6l, h6n⟩
   refine Ws (R z (fd f_76_0 z) (R z (l1 g_3 z fid (h4b.at z)) (R z (eql z z) (Ra z (Wn ?_)))))
   obtain ⟨u6q, hu4j, hm6r⟩ := bdS (ifF hu4c hc35)
   refine WC_cut (fun a w => ∃ (x2a : List StoredFile) (x2b : Bool), (x2a, x2b) = u6q ∧ ∃ a2c n2d c2e S1u, Sat 61 [(0, sl A0 N0 C0), (3, pt w0.z), (5, sl a2c n2d c2e), (6, pt g17), (7, vB x2b), (8, (vI ((k20 : Nat) : Int)))] a ∧ Chg (· ∈ S10) w11 w ∧ shrS w S1u w18.z (sl a2c n2d c2e) x2a ∧ S1u.Nodup ∧ (∀ k ∈ S1u, k ∈ S10 ∨ w11.z ≤ k)) ?_ ?_
   ·refine Wc z (fun hc36 => ?_) (fun hc36 => ?_)
    ·refine Ws (Rm z (R z (lN (vs := [Str.v x1a, vI x1b, sl a1m n1n c1o]) g_63 z_63 z z fid (((h46.ext s1p).ext s1c).row 0 3 z)) (E z (ef_buildSlice [(.tmp 46)] el_59 z z z (szAll z) (lb z) (lb z)) ?_)))
     rintro _ w4k ⟨rfl, h4l⟩
     have h2f := h4l.below
     have h6s : Blk w4k w11.z [Str.v x1a, vI x1b, sl a1m n1n c1o] := h4l.blk
     have h9d := (h1t.ext s1p).ext s1c
     obtain ⟨x6t, e6u, hm6v⟩ := bdS (ifT hu4j hc36)
     refine E z (ef_pushR (α := StoredFile) el_59 e6u z z ((h1j.ext s1c).ext h2f) h1k h6s (StoredFile_mk (x := (⟨x1a, x1b, x1w⟩ : StoredFile)) h44 h45 (ownS_rep (((h1t.ext s1p).ext s1c).ext h2f) (ownS.lt h1t))) h1f) ?_
     rintro _ w6w ⟨S4m, a6x, n6y, c6z, rfl, s70, h71, h72, h73⟩
     refine Ra z (Wn (Wg (Ra z (Wl ?_))))
     have h74 : ∀ k ∈ S4m, k ∈ S10 ∨ w11.z ≤ k := or1 h73 (io sr) (leor h2f.size)
     have h75 : Chg (· ∈ S10) w11 w4k := cext (cr S10 w11) h2f
     have h76 : Chg (· ∈ S10) w11 w6w := cM h75 s70 (io sr)
     exact fun _ q => ⟨x6t, true, som hm6v, a6x, n6y, c6z, S4m, (q.k (s6 z z z z z z)), h76, h71, h72, h74⟩
    exact WC_skip (fun _ q => ⟨x1i, x19, som (ifF hu4j hc36), a14, n15, c16, S10, (q.k (s6 z z z z z z)), (cr S10 w11), (h1j.ext s1c), h1k, (io sr)⟩)
   rintro a77 w78 ⟨x2a, x2b, rfl, a2c, n2d, c2e, S1u, hS9e, s79, h7a, h7b, h7c⟩
   have hm7d := un2S hm6r
   revert a77
   have h7e : ∀ k ∈ S1u, k ∈ S10 ∨ w11.z ≤ k := or1 h7c (io sr) (leor lr)
   have h7f : Chg (· ∈ S10) w11 w78 := cM (cr S10 w11) s79 (io sr)
   exact fun _ q => ⟨x2a, x2b, som hm7d, a2c, n2d, c2e, S1u, (q.k (s6 z z z z z z)), h7f, h7a, h7b, h7e⟩
  rintro a7g w9f ⟨x24, x25, rfl, a26, n27, c28, S21, hS9g, s7h, h7i, h7j, h7k⟩
  have hm7l := un2S hm63
  revert a7g
  exact Wo (Wg (Rm z (R z (inc_ hk48 (lt_ (repS.len p1_0) LEN_le) z z) (Ra z (Wl (fun _ q => ⟨(x24, x25), (som hm7l).symm, ⟨a26, n27, c28, S21, (q.k (s6 z z z z z z)), (bM (bup s1p s1c) s7h h1f), h7i, h7j, (o1le h7k h1f (lt_ s1p.size s1c.size))⟩⟩))))))
 ·rintro ⟨x1i, x19⟩ a9h w9i ⟨a14, n15, c16, S10, hS7m, s4n, h1j, h1k, h1f⟩
  refine Wu ?_ hS7m
  refine Wq (Ws (Rm z (Rm z (R z (lnR d_59 z ((((p1_0.ext h1d).ext s12).ext s1e).ext s4n)) (R z (lss z z) (Wn (Wc z (fun hc => (noltt hc).elim) (fun _ => ?_))))))))
  exact WC_exit (fun a' ha' => ⟨rfl, ⟨a14, n15, c16, S10, (Sat.weaken ha' (s4 z z z z)), s4n, h1j, h1k, h1f⟩⟩)
 ·rintro ⟨x1i, x19⟩ a7n w2g rfl ⟨a14, n15, c16, S10, hS9j, s1v, h1j, h1k, h1f⟩
  have hm7o := elL hm47
  have hm7p := un2S hm7o
  revert a7n
  refine Wo (Wq (Wq ?_))
  obtain ⟨u7q, hu4o, hm7r⟩ := bdS hm7p
  refine WC_cut (fun a w => ∃ (x37 : Bool), x37 = u7q ∧ Sat 61 [(5, sl a14 n15 c16), (6, pt g17), (55, vB x37)] a ∧ Below w2g.z w2g w) ?_ ?_
  ·refine Wg (R z (fd f_76_0 z) (R z (l1 g_3 z fid ((((h1r.ext s12).ext s1e).ext s1v).at z)) (R z (eql z z) (Rm z ?_))))
   rcases bs (x2.kind == 1) with hc1g | hc1g
   ·exact Rh z hc1g (mv z) (Rh z hc1g (not_ z) (R z (pT z hc1g z) (Wl (fun _ q => ⟨!x19, som (ifT hu4o hc1g), (q.k (s3 z z z)), (br w2g)⟩))))
   exact Nh z hc1g (Nh z hc1g (R z (pF z hc1g z) (Wl (fun _ q => ⟨false, som (ifF hu4o hc1g), (q.k (s3 z z z)), (br w2g)⟩))))
  rintro a7s w1l ⟨x37, rfl, hS9k, s1q⟩
  revert a7s
  refine Wo ?_
  obtain ⟨u7t, hu4p, hm7u⟩ := bdS hm7r
  refine WC_cut (fun a w => ∃ (x38 : List StoredFile), x38 = u7t ∧ ∃ a2h n2i c2j S2k, Sat 61 [(5, sl a2h n2i c2j)] a ∧ Chg (· ∈ S10) w1l w ∧ shrS w S2k w18.z (sl a2h n2i c2j) x38 ∧ S2k.Nodup ∧ (∀ k ∈ S2k, k ∈ S10 ∨ w1l.z ≤ k)) ?_ ?_
  ·refine Wc z (fun hc39 => ?_) (fun hc39 => ?_)
   ·refine Wg (Rm z (R z (lN (vs := [Str.v x1a, vI x1b, sl a1m n1n c1o]) g_63 z_63 z z fid (((h46.ext s1v).ext s1q).row 0 3 z)) (E z (ef_buildSlice [(.tmp 57)] el_59 z z z (szAll z) (lb z) (lb z)) ?_)))
    rintro _ w4q ⟨rfl, h4r⟩
    have h2l := h4r.below
    have h7v : Blk w4q w1l.z [Str.v x1a, vI x1b, sl a1m n1n c1o] := h4r.blk
    have h9l := (h1t.ext s1v).ext s1q
    obtain ⟨x7w, e7x, hm7y⟩ := bdS (ifT hu4p hc39)
    refine E z (ef_pushR (α := StoredFile) el_59 e7x z z ((h1j.ext s1q).ext h2l) h1k h7v (StoredFile_mk (x := (⟨x1a, x1b, x1w⟩ : StoredFile)) h44 h45 (ownS_rep (((h1t.ext s1v).ext s1q).ext h2l) (ownS.lt h1t))) h1f) ?_
    rintro _ w7z ⟨S4s, a80, n81, c82, rfl, s83, h84, h85, h86⟩
    refine Ra z (Wl ?_)
    have h87 : ∀ k ∈ S4s, k ∈ S10 ∨ w1l.z ≤ k := or1 h86 (io sr) (leor h2l.size)
    have h88 : Chg (· ∈ S10) w1l w4q := cext (cr S10 w1l) h2l
    have h89 : Chg (· ∈ S10) w1l w7z := cM h88 s83 (io sr)
    exact fun _ q => ⟨x7w, som hm7y, a80, n81, c82, S4s, (q.k (s1 z)), h89, h84, h85, h87⟩
   exact WC_skip (fun _ q => ⟨x1i, som (ifF hu4p hc39), a14, n15, c16, S10, (q.k (s1 z)), (cr S10 w1l), (h1j.ext s1q), h1k, (io sr)⟩)
  rintro a8a w9m ⟨x38, rfl, a2h, n2i, c2j, S2k, hS9n, s4t, h4u, h9o, h9p⟩
  revert a8a
  refine Wo (Ws (Rm z (Ra z (Wn ?_))))
  obtain rfl := som hm7u
  exact Wr (ret1 hr z ⟨(bM (bup (bup (bup (bup h1d s12) s1e) s1v) s1q) s4t (o0le h1f (lt_ (lt_ h1d.size s12.size) s1e.size))), a2h, n2i, c2j, z, (shrS.rep h4u (shrS.lt h4u) (lt_ (lt_ s1v.size s1q.size) s4t.size))⟩)
 rintro r9q ex9r a9s w9t rfl ⟨rfl, hq8b⟩
 have hm8c := elR hm47
 obtain rfl := som hm8c
 exact ⟨hq8b, z⟩
theorem W_w0t {x1 : List UInt8} {res : (List StoredFile)} (hm : M_spec_l35Files n x1 = some res) (hBw : B ≤ w0.z) (p1_0 : repS w0 B (sl A0 N0 C0) x1) : CallsR prog 66 [sl A0 N0 C0] w0 (Q15 w0 B res) := by
 unfold M_spec_l35Files at hm
 refine goF func66 z z (lb z) fun fn hr => Ws (Ra z (Wn (Ws (E z (ef_lit0 (α := StoredFile) el_59) ?_))))
 rintro _ w2j ⟨a1k, n1l, c1m, rfl, s18, h19⟩
 refine Ra z (Wn (Ws (Rm z ?_)))
 obtain ⟨r1n, r2k, e1o, hm1p⟩ := bd2S hm
 refine E z (fc call68 z (W_w07 (B := B) e1o (lt_ hBw s18.size) (p1_0.ext s18))) ?_
 rintro _ w15 ⟨s17, a1a, n1b, c1c, S2l, rfl, h13, h2m, h2n, h2o⟩
 refine Rm z (R z (ext_ z z) (R z (ext_ z z) (Ra z (Ra z (Wn (Wq (Ws (Ra z (Wn ?_)))))))))
 have h2p := h19.ext s17
 obtain ⟨u2q, hu1q, hm1g⟩ := bdS hm1p
 refine WC_forN (σ := (List StoredFile)) (ρ := (List StoredFile)) (fun (k1d : Nat) (x14 : List StoredFile) a w => ∃ a10 n11 c12, Sat 26 [(3, sl a10 n11 c12), (4, sl a1a n1b c1c), (6, (vI ((k1d : Nat) : Int)))] a ∧ Below w15.z w15 w ∧ repS w w.z (sl a10 n11 c12) x14) (fun (x14 : List StoredFile) a w => ∃ a10 n11 c12, Sat 26 [(3, sl a10 n11 c12)] a ∧ Below w15.z w15 w ∧ repS w w.z (sl a10 n11 c12) x14) (fun r ex a w => ex = .ret ∧ RetPost prog fn (Q15 w0 B r) a w) hu1q ?_ ?_ ?_ ?_ ?_
 ·exact fun _ q => ⟨a1k, n1l, c1m, (q.k (s3 z z z)), (br w15), (repS.mono (ownS_rep (h19.ext s17) (ownS.lt h19)) s17.size)⟩
 ·rintro k1d x14 a2r w1r o2s hk1h ⟨a10, n11, c12, hS1s, s1e, h16⟩ hm1t
  refine Wu ?_ hS1s
  refine Wq (Ws (Rm z (Rm z ?_)))
  have h1i := h13.ext s1e
  refine R z (lnR d_89 z (ownS_rep h1i (ownS.lt h13))) (R z (lss z z) (Wn (Wc z (fun _ => ?_) (fun hc => (nolt hk1h hc).elim))))
  refine Wk (Wq (WC_block (Wg (Rm z (Rm z (Rm z ?_))))))
  obtain ⟨x1f, e1u, hm1v⟩ := bdS hm1t
  refine RX z (at_ (α := Record) d_89 z_76 z z z (ownS_rep h1i (ownS.lt h13)) e1u) ?_
  rintro _ ⟨b2t, o2u, cs2v, rfl, h1w, h1x, h2w⟩
  obtain ⟨a1y, n1z, c20, rfl, h21, h22, h23, h24⟩ := Record_open h1x
  refine R z (lN (vs := [vI x1f.kind, Str.v x1f.name, vI x1f.version, sl a1y n1z c20]) g_76 z_76 z z fid h1w) ?_
  obtain ⟨r25, e26, hm27⟩ := bdS hm1v
  refine E z (fc call98 z (W_w25 (B := w1r.z) e26 lr h16 h21 h22 h23 (repS.mono h24 s1e.size))) ?_
  rintro _ w2x ⟨s28, a29, n2a, c2b, rfl, h2c⟩
  exact Ra z (Wn (Wg (Rm z (R z (inc_ hk1h (lt_ (ownS.len h13) LEN_le) z z) (Ra z (Wl (fun _ q => ⟨r25, (som hm27).symm, ⟨a29, n2a, c2b, (q.k (s3 z z z)), (bup s1e s28), h2c⟩⟩)))))))
 ·rintro x14 a2y w2z ⟨a10, n11, c12, hS2d, s1j, h16⟩
  refine Wu ?_ hS2d
  refine Wq (Ws (Rm z (Rm z (R z (lnR d_89 z (ownS_rep (h13.ext s1j) (ownS.lt h13))) (R z (lss z z) (Wn (Wc z (fun hc => (noltt hc).elim) (fun _ => ?_))))))))
  exact WC_exit (fun a' ha' => ⟨rfl, ⟨a10, n11, c12, (Sat.weaken ha' (s1 z)), s1j, h16⟩⟩)
 ·rintro x14 a2e w30 rfl ⟨a10, n11, c12, hS31, s2f, h16⟩
  have hm2g := elL hm1g
  revert a2e
  refine Wo (Ws (Rm z (Ra z (Wn ?_))))
  obtain rfl := som hm2g
  exact Wr (ret1 hr z ⟨(bup (bup s18 s17) s2f), a10, n11, c12, z, h16⟩)
 rintro r32 ex33 a34 w35 rfl ⟨rfl, hq2h⟩
 have hm2i := elR hm1g
 obtain rfl := som hm2i
 exact ⟨hq2h, z⟩
theorem W_w26 {x1 : Archive} {res : (List StoredFile)} (hm : M_spec_ListFiles n x1 = some res) (hBw : B ≤ w0.z) (p1_0 : repS w0 B (sl A0 N0 C0) x1.registry.versions) (p1_1 : repS w0 B (sl A3 N3 C3) x1.log.bytes) (p1_2 : inI x1.log.stored) : CallsR prog 34 [(.agg #[sl A0 N0 C0, sl A3 N3 C3, vI x1.log.stored])] w0 (Q15 w0 B res) := by
 unfold M_spec_ListFiles at hm
 refine goF func34 z z (lb z) fun fn hr => Ws (E z (fb z) ?_)
 rintro _ w17 ⟨rfl, h13⟩
 have h10 := h13.below
 have h14 : Blk w17 w0.z [sl A0 N0 C0, sl A3 N3 C3, vI x1.log.stored] := h13.blk
 refine Ra z (Wn (Wq (Ws (R z (fd f_37_1 z) (R z (lN (vs := [sl A3 N3 C3, vI x1.log.stored]) g_35 z_35 z z fid (h14.row 1 2 z)) ?_)))))
 have h15 := p1_1.ext h10
 obtain ⟨r1l, e18, hm16⟩ := bdS hm
 refine E z (fc call65 z (W_w0s (B := B) (x1 := (⟨x1.log.bytes, x1.log.stored⟩ : Log)) e18 (lt_ hBw h10.size) h15 p1_2)) ?_
 rintro _ w1m ⟨s11, rfl⟩
 refine R z (not_ z) (Wn (Wc z (fun hc12 => ?_) (fun hc12 => ?_)))
 ·refine Ws (E z (ef_lit0 (α := StoredFile) el_59) ?_)
  rintro _ w1n ⟨a19, n1a, c1b, rfl, s1c, h1d⟩
  refine Ra z (Wn ?_)
  obtain rfl := som (ifT hm16 hc12)
  exact Wr (ret1 hr z ⟨(bup (bup h10 s11) s1c), a19, n1a, c1b, z, (ownS.rep h1d)⟩)
 refine Wk (Ws (R z (fd f_37_1 z) (R z (fd f_35_0 z) (R z (l1 g_25 z fid ((h14.ext s11).at z)) ?_))))
 obtain ⟨r1o, e1e, hm1f⟩ := bdS (ifF hm16 hc12)
 refine E z (fc call66 z (W_w0t (B := B) e1e (lt_ hBw (lt_ h10.size s11.size)) (h15.ext s11))) ?_
 rintro _ w1p ⟨s1g, a1h, n1i, c1j, rfl, h1k⟩
 refine Ra z (Wn ?_)
 obtain rfl := som hm1f
 exact Wr (ret1 hr z ⟨(bup (bup h10 s11) s1g), a1h, n1i, c1j, z, h1k⟩)
theorem W_w04 {x1 : Rule} {x2 : Bool} {x3 : Bool} {x4 : Bool} {x5 : Bool} {x6 : Int} {res : Bool} (hm : M_spec_l4Shape x1 x2 x3 x4 x5 x6 = some res) (hBw : B ≤ w0.z) (p1_0 : x1.name.b.length ≤ LEN) (p1_1 : inI x1.kind) (p1_2 : inI x1.size) (p1_4 : repS w0 B (sl A9 N9 C9) x1.bytes) (p1_5 : repS w0 B (sl A8 N8 C8) x1.names) (p1_6 : repS w0 B (sl AA NA CA) x1.tags) (p1_7 : repS w0 B (sl AB NB CB) x1.kids) (p6_0 : inI x6) : CallsR prog 162 [(.agg #[Str.v x1.name, vI x1.kind, vI x1.size, vB x1.little, sl A9 N9 C9, sl A8 N8 C8, sl AA NA CA, sl AB NB CB]), vB x2, vB x3, vB x4, vB x5, vI x6] w0 (Q11 w0 B res) := by
 unfold M_spec_l4Shape at hm
 refine goF func162 z z (lb z) fun fn hr => Ws (E z (fb z) ?_)
 rintro _ w1c ⟨rfl, h1f⟩
 have h1d := h1f.below
 have h1b : Blk w1c w0.z (vR x1 A9 N9 C9 A8 N8 C8 AA NA CA AB NB CB) := h1f.blk
 refine Ra z (Wn (Wq ?_))
 obtain ⟨u1w, hu1x, hm1y⟩ := bdS hm
 refine WC_cut (fun a w => ∃ (x1e : Bool), x1e = u1w ∧ Sat 67 [(12, vB x1e)] a ∧ Below w1c.z w1c w) ?_ ?_
 ·refine Wg (Rm z (Rm z ?_))
  obtain ⟨u1g, hu1h, hm1z⟩ := bdS hu1x
  refine WLcut 18 u1g 4 ?_ ?_
  ·rcases bs x2 with hc19 | hc19
   ·iterate 3 refine Nh z hc19 ?_
    exact R z (pT z hc19 z) (WLq 4 (ifT hu1h hc19) z z z)
   exact Rh z hc19 (fd f_144_2 z) (Rh z hc19 (l1 g_3 z fid (h1b.at z)) (Rh z hc19 (eql z z) (R z (pF z hc19 z) (WLq 4 (ifF hu1h hc19) z z z))))
  refine Rm z ?_
  obtain ⟨u1i, hu1j, hm20⟩ := bdS hm1z
  refine WLcut 27 u1i 8 ?_ ?_
  ·rcases bs u1g with hc11 | hc11
   ·have hm1k := ifT hu1j hc11
    refine Rh z hc11 (mv z) (Rh z hc11 (mv z) ?_)
    rcases bs x3 with hc16 | hc16
    ·iterate 4 refine Nh z hc16 ?_
     exact Rh z hc11 (pT z hc16 z) (R z (pT z hc11 z) (WLq 8 (ifT hm1k hc16) z z z))
    exact Rh z hc16 (fd f_144_4 z) (Rh z hc16 (l1 g_25 z fid (h1b.at z)) (Rh z hc16 (lnR d_25 z (p1_4.ext h1d)) (Rh z hc16 (eql z z) (Rh z hc11 (pF z hc16 z) (R z (pT z hc11 z) (WLq 8 (ifF hm1k hc16) z z z))))))
   exact Nh z hc11 (Nh z hc11 (Nv z (Nv z (Nv z (Nv z (Nh z hc11 (R z (pF z hc11 z) (WLq 8 (ifF hu1j hc11) z z z))))))))
  refine Rm z ?_
  obtain ⟨u1l, hu1m, hm21⟩ := bdS hm20
  refine WLcut 36 u1l 8 ?_ ?_
  ·rcases bs u1i with hc12 | hc12
   ·have hm1n := ifT hu1m hc12
    refine Rh z hc12 (mv z) (Rh z hc12 (mv z) ?_)
    rcases bs x4 with hc17 | hc17
    ·iterate 4 refine Nh z hc17 ?_
     exact Rh z hc12 (pT z hc17 z) (R z (pT z hc12 z) (WLq 8 (ifT hm1n hc17) z z z))
    exact Rh z hc17 (fd f_144_5 z) (Rh z hc17 (l1 g_41 z fid (h1b.at z)) (Rh z hc17 (lnR d_41 z (p1_5.ext h1d)) (Rh z hc17 (eql z z) (Rh z hc12 (pF z hc17 z) (R z (pT z hc12 z) (WLq 8 (ifF hm1n hc17) z z z))))))
   exact Nh z hc12 (Nh z hc12 (Nv z (Nv z (Nv z (Nv z (Nh z hc12 (R z (pF z hc12 z) (WLq 8 (ifF hu1m hc12) z z z))))))))
  refine Rm z ?_
  obtain ⟨u1o, hu1p, hm22⟩ := bdS hm21
  refine WLcut 45 u1o 8 ?_ ?_
  ·rcases bs u1l with hc13 | hc13
   ·have hm1q := ifT hu1p hc13
    refine Rh z hc13 (mv z) (Rh z hc13 (mv z) ?_)
    rcases bs x5 with hc18 | hc18
    ·iterate 4 refine Nh z hc18 ?_
     exact Rh z hc13 (pT z hc18 z) (R z (pT z hc13 z) (WLq 8 (ifT hm1q hc18) z z z))
    exact Rh z hc18 (fd f_144_6 z) (Rh z hc18 (l1 g_142 z fid (h1b.at z)) (Rh z hc18 (lnR d_142 z (p1_6.ext h1d)) (Rh z hc18 (eql z z) (Rh z hc13 (pF z hc18 z) (R z (pT z hc13 z) (WLq 8 (ifF hm1q hc18) z z z))))))
   exact Nh z hc13 (Nh z hc13 (Nv z (Nv z (Nv z (Nv z (Nh z hc13 (R z (pF z hc13 z) (WLq 8 (ifF hu1p hc13) z z z))))))))
  refine Rm z ?_
  obtain ⟨u1r, hu1s, hm1t⟩ := bdS hm22
  refine WLcut 56 u1r 10 ?_ ?_
  ·rcases bs u1o with hc14 | hc14
   ·have hm1u := ifT hu1s hc14
    refine Rh z hc14 (mv z) (Rh z hc14 (lss z z) (Rh z hc14 (mv z) ?_))
    rcases bs (decide (x6 < 0)) with hc15 | hc15
    ·iterate 5 refine Nh z hc15 ?_
     exact Rh z hc14 (pT z hc15 z) (R z (pT z hc14 z) (WLq 10 (ifT hm1u hc15) z z z))
    exact Rh z hc15 (fd f_144_7 z) (Rh z hc15 (l1 g_142 z fid (h1b.at z)) (Rh z hc15 (lnR d_142 z (p1_7.ext h1d)) (Rh z hc15 (mv z) (Rh z hc15 (eql z z) (Rh z hc14 (pF z hc15 z) (R z (pT z hc14 z) (WLq 10 (ifF hm1u hc15) z z z)))))))
   iterate 3 refine Nh z hc14 ?_
   exact Nv z (Nv z (Nv z (Nv z (Nv z (Nh z hc14 (R z (pF z hc14 z) (WLq 10 (ifF hu1s hc14) z z z)))))))
  refine Rm z ?_
  rcases bs u1r with hc10 | hc10
  ·have hm1v := ifT hm1t hc10
   refine Rh z hc10 (fd f_144_3 z) (Rh z hc10 (l1 g_4 z fid (h1b.at z)) (Rh z hc10 (not_ z) (Rh z hc10 (mv z) ?_)))
   rcases bs (!x1.little) with hc1a | hc1a
   ·iterate 3 refine Nh z hc1a ?_
    exact Rh z hc10 (pT z hc1a z) (R z (pT z hc10 z) (Ra z (Wl (fun _ q => ⟨true, som (ifT hm1v hc1a), (q.k (s1 z)), (br w1c)⟩))))
   exact Rh z hc1a (fd f_144_1 z) (Rh z hc1a (l1 g_3 z fid (h1b.at z)) (Rh z hc1a (eql z z) (Rh z hc10 (pF z hc1a z) (R z (pT z hc10 z) (Ra z (Wl (fun _ q => ⟨x1.kind == 1, som (ifF hm1v hc1a), (q.k (s1 z)), (br w1c)⟩)))))))
  iterate 4 refine Nh z hc10 ?_
  exact Nv z (Nv z (Nv z (Nh z hc10 (R z (pF z hc10 z) (Ra z (Wl (fun _ q => ⟨false, som (ifF hm1t hc10), (q.k (s1 z)), (br w1c)⟩)))))))
 rintro a23 w25 ⟨x1e, rfl, hS26, s24⟩
 revert a23
 refine Wo ?_
 obtain rfl := som hm1y
 exact Wr (ret1 hr z ⟨(bup h1d s24), z⟩)
theorem W_w0c {x1 : Desc} {x2 : Int} {res : Int} (hm : M_spec_IntegerLimit x1 x2 = some res) (hBw : B ≤ w0.z) (p1_0 : repS w0 B (sl A0 N0 C0) x1.rules) (p2_0 : inI x2) : CallsR prog 163 [(.agg #[sl A0 N0 C0]), vI x2] w0 (Q0 w0 B res) := by
 unfold M_spec_IntegerLimit at hm
 refine goF func163 z z (lb z) fun fn hr => Ws (E z (fb z) ?_)
 rintro _ w15 ⟨rfl, h19⟩
 have h12 := h19.below
 have h16 : Blk w15 w0.z [sl A0 N0 C0] := h19.blk
 refine Ra z (Wn (Wq (Wq ?_)))
 obtain ⟨u1g, hu1h, hm1a⟩ := bdS hm
 refine WC_cut (fun a w => ∃ (x17 : Bool), x17 = u1g ∧ Sat 39 [(1, vI x2), (2, pt w0.z), (30, vB x17)] a ∧ Below w15.z w15 w) ?_ ?_
 ·refine Wg (Rm z (R z (fd f_95_0 z) (R z (l1 g_93 z fid (h16.at z)) ?_)))
  have h1b := p1_0.ext h12
  refine R z (lnR d_93 z h1b) (R z (sb_ z z) ?_)
  obtain ⟨r1i, e1j, hm1c⟩ := bdS hu1h
  refine E z (fc call97 z (W_w00 (B := B) e1j (lt_ hBw h12.size) p2_0 (ii z) (iS _ _))) ?_
  rintro _ w26 ⟨s13, rfl⟩
  refine R z (not_ z) (Rm z ?_)
  rcases bs (!r1i) with hc11 | hc11
  ·iterate 7 refine Nh z hc11 ?_
   exact R z (pT z hc11 z) (Rm z (Nh z z (Nh z z (Nh z z (Nh z z (Nh z z (Nh z z (Nh z z (Nh z z (R z (pT z z z) (Wl (fun _ q => ⟨true, som (ifT hm1c hc11), (q.k (s3 z z z)), s13⟩))))))))))))
  refine Rh z hc11 (fd f_95_0 z) ?_
  have h1d := h16.ext s13
  refine Rh z hc11 (l1 g_93 z fid (h1d.at z)) (Rh z hc11 (mv z) ?_)
  obtain ⟨x1k, e1l, hm1e⟩ := bdS (ifF hm1c hc11)
  have h1f := h1b.ext s13
  refine RXg z z hc11 z (at_ (α := Rule) d_93 z_144 z z z h1f e1l) ?_
  rintro _ ⟨b27, o28, cs29, rfl, h1m, h1n, h2a⟩
  obtain ⟨a2b, n2c, c2d, a2e, n2f, c2g, a2h, n2i, c2j, a2k, n2l, c2m, rfl, h2n, h2o, h2p, h2q, h2r, h2s, h2t⟩ := Rule_open h1n
  refine Rh z hc11 (fd f_144_1 z) (Rh z hc11 (l1 g_3 z fid (h1m.at (j := 1) z)) (Rh z hc11 (nq z z) (R z (pF z hc11 z) (Rm z ?_))))
  rcases bs (x1k.kind != 1) with hc10 | hc10
  ·iterate 8 refine Nh z hc10 ?_
   exact R z (pT z hc10 z) (Wl (fun _ q => ⟨true, som (ifT hm1e hc10), (q.k (s3 z z z)), s13⟩))
  refine Rh z hc10 (fd f_95_0 z) (Rh z hc10 (l1 g_93 z fid (h1d.at z)) (Rh z hc10 (mv z) ?_))
  obtain ⟨x2u, e1o, hm1p⟩ := bdS (ifF hm1e hc10)
  refine RXg z z hc10 z (at_ (α := Rule) d_93 z_144 z z z h1f e1o) ?_
  rintro _ ⟨b2v, o2w, cs2x, rfl, h1q, h1r, h2y⟩
  obtain ⟨a2z, n30, c31, a32, n33, c34, a35, n36, c37, a38, n39, c3a, rfl, h3b, h3c, h1s, h3d, h3e, h3f, h3g⟩ := Rule_open h1r
  refine Rh z hc10 (fd f_144_2 z) (Rh z hc10 (l1 g_3 z fid (h1q.at (j := 2) z)) ?_)
  obtain ⟨r1t, e1u, hm1v⟩ := bdS hm1p
  refine Eg z z hc10 z (fc call97 z (W_w00 (B := B) e1u (lt_ hBw (lt_ h12.size s13.size)) h1s (ii z) (ii z))) ?_
  rintro _ w3h ⟨s1w, rfl⟩
  exact Rh z hc10 (not_ z) (R z (pF z hc10 z) (Wl (fun _ q => ⟨!r1t, som hm1v, (q.k (s3 z z z)), (bup s13 s1w)⟩)))
 rintro a1x w3i ⟨x17, rfl, hS3j, s14⟩
 revert a1x
 refine Wo (Wc z (fun hc18 => ?_) (fun hc18 => ?_))
 ·refine Ws (Ra z (Wn ?_))
  obtain rfl := som (ifT hm1a hc18)
  exact Wr (ret1 hr z ⟨(bup h12 s14), z, (ii z)⟩)
 refine Wk (Ws (R z (fd f_95_0 z) (R z (l1 g_93 z fid ((h16.ext s14).at z)) (Rm z ?_))))
 obtain ⟨x3k, e1y, hm1z⟩ := bdS (ifF hm1a hc18)
 refine RX z (at_ (α := Rule) d_93 z_144 z z z ((p1_0.ext h12).ext s14) e1y) ?_
 rintro _ ⟨b3l, o3m, cs3n, rfl, h20, h21, h3o⟩
 obtain ⟨a3p, n3q, c3r, a3s, n3t, c3u, a3v, n3w, c3x, a3y, n3z, c40, rfl, h41, h42, h22, h43, h44, h45, h46⟩ := Rule_open h21
 refine R z (fd f_144_2 z) (R z (l1 g_3 z fid (h20.at (j := 2) z)) ?_)
 obtain ⟨r47, e23, hm24⟩ := bdS hm1z
 refine E z (fc call109 z (W_w0q (B := B) e23 (lt_ hBw (lt_ h12.size s14.size)) h22)) ?_
 rintro _ w48 ⟨s25, rfl, h49⟩
 refine R z (sb_ z z) (Ra z (Wn ?_))
 obtain rfl := som hm24
 exact Wr (ret1 hr z ⟨(bup (bup h12 s14) s25), z, (iS _ _)⟩)
theorem W_w27 {x1 : List Str} {x2 : Str} {res : Bool} (hm : M_spec_ContainsText x1 x2 = some res) (hBw : B ≤ w0.z) (p1_0 : repS w0 B (sl A0 N0 C0) x1) (p2_0 : x2.b.length ≤ LEN) : CallsR prog 200 [sl A0 N0 C0, Str.v x2] w0 (Q11 w0 B res) := by
 unfold M_spec_ContainsText at hm
 refine goF func200 z z (lb z) fun fn hr => Ws (Ra z (Wn (Wq (Ws (Ra z (Wn ?_))))))
 obtain ⟨u1k, hu18, hm13⟩ := bdS hm
 refine WC_forN (σ := Unit) (ρ := Bool) (fun (k10 : Nat) (_ : Unit) a w => Sat 18 [(0, sl A0 N0 C0), (1, Str.v x2), (5, (vI ((k10 : Nat) : Int)))] a ∧ Below w0.z w0 w) (fun (_ : Unit) a w => Sat 18 [] a ∧ Below w0.z w0 w) (fun r ex a w => ex = .ret ∧ RetPost prog fn (Q11 w0 B r) a w) hu18 ?_ ?_ ?_ ?_ ?_
 ·exact fun _ q => ⟨(q.k (s3 z z z)), (br w0)⟩
 ·rintro k10 _ a1l w1m o1n hk14 ⟨hS19, s11⟩ hm1a
  refine Wu ?_ hS19
  refine Wq (Ws (Rm z (Rm z ?_)))
  have h15 := p1_0.ext s11
  refine R z (lnR d_41 z h15) (R z (lss z z) (Wn (Wc z (fun _ => ?_) (fun hc => (nolt hk14 hc).elim))))
  refine Wk (Wq (WC_block (Ws (Rm z (Rm z ?_)))))
  obtain ⟨x1o, e1b, hm16⟩ := bdS hm1a
  refine RX z (at_ (α := Str) d_41 z_9 z z z h15 e1b) ?_
  rintro _ ⟨b1p, o1q, cs1r, rfl, h1c, h1d, h1s⟩
  obtain ⟨rfl, h1t⟩ := Str_open h1d
  refine R z (l1 g_9 z fid (h1c.at0 z)) (Rm z (R z (rd_eqlT z z) (Wn (Wc z (fun hc12 => ?_) (fun hc12 => ?_)))))
  ·exact Ws (Ra z (Wn (Wr (rtO (QO_retL (som (ifT hm16 hc12)).symm (ret1 hr z ⟨s11, z⟩))))))
  exact Wk (Wg (Rm z (R z (inc_ hk14 (lt_ (repS.len p1_0) LEN_le) z z) (Ra z (Wl (fun _ q => ⟨(), (som (ifF hm16 hc12)).symm, ⟨(q.k (s3 z z z)), s11⟩⟩))))))
 ·rintro _ a1u w1v ⟨hS1e, s17⟩
  refine Wu ?_ hS1e
  refine Wq (Ws (Rm z (Rm z (R z (lnR d_41 z (p1_0.ext s17)) (R z (lss z z) (Wn (Wc z (fun hc => (noltt hc).elim) (fun _ => ?_))))))))
  exact WC_exit (fun a' ha' => ⟨rfl, ⟨(Sat.weaken ha' sn), s17⟩⟩)
 ·rintro _ a1f w1w rfl ⟨hS1x, s1g⟩
  have hm1h := elL hm13
  revert a1f
  refine Wo (Ws (Ra z (Wn ?_)))
  obtain rfl := som hm1h
  exact Wr (ret1 hr z ⟨s1g, z⟩)
 rintro r1y ex1z a20 w21 rfl ⟨rfl, hq1i⟩
 have hm1j := elR hm13
 obtain rfl := som hm1j
 exact ⟨hq1i, z⟩
theorem W_w28 {x1 : List Str} {res : Bool} (hm : M_spec_l4Names x1 = some res) (hBw : B ≤ w0.z) (p1_0 : repS w0 B (sl A0 N0 C0) x1) : CallsR prog 164 [sl A0 N0 C0] w0 (Q11 w0 B res) := by
 unfold M_spec_l4Names at hm
 refine goF func164 z z (lb z) fun fn hr => Ws (Ra z (Wn (Wq (Ws (Ra z (Wn ?_))))))
 obtain ⟨u2h, hu1k, hm18⟩ := bdS hm
 refine WC_forN (σ := Unit) (ρ := Bool) (fun (k11 : Nat) (_ : Unit) a w => Sat 29 [(0, sl A0 N0 C0), (3, (vI ((k11 : Nat) : Int)))] a ∧ Below w0.z w0 w) (fun (_ : Unit) a w => Sat 29 [(0, sl A0 N0 C0)] a ∧ Below w0.z w0 w) (fun r ex a w => ex = .ret ∧ RetPost prog fn (Q11 w0 B r) a w) hu1k ?_ ?_ ?_ ?_ ?_
 ·exact fun _ q => ⟨(q.k (s2 z z)), (br w0)⟩
 ·rintro k11 _ a2i w19 o2j hk1a ⟨hS1l, s12⟩ hm1m
  refine Wu ?_ hS1l
  refine Wq (Ws (Rm z (Rm z ?_)))
  have h1b := p1_0.ext s12
  refine R z (lnR d_41 z h1b) (R z (lss z z) (Wn (Wc z (fun _ => ?_) (fun hc => (nolt hk1a hc).elim))))
  refine Wk (Wq (WC_block (Wq ?_)))
  obtain ⟨u1n, hu1o, hm1c⟩ := bdS hm1m
  refine WC_cut (fun a w => ∃ (x15 : Bool), x15 = u1n ∧ Sat 29 [(0, sl A0 N0 C0), (3, (vI ((k11 : Nat) : Int))), (25, vB x15)] a ∧ Below w19.z w19 w) ?_ ?_
  ·refine WC_draw (X := noX) 0 (.rd 0 (.rd 1 (.rd 2 (.rd 3 (.ef 4 (.rd 5 (.rd 6 (.rd 7 (.rd 8 (.rd 9 (.rd 10 (.rd 11 (.rd 12 (.rd 13 (.ef 14 (.rd 15 .done)))))))))))))))) mo (by kernel_rfl) fun w2k s13 _ => dR z z (mv z) (dR z z (mv z) ?_)
   obtain ⟨x2l, e1p, hm1q⟩ := bdS hu1o
   have h1d := h1b.ext s13
   refine dRX z z (at_ (α := Str) d_41 z_9 z z z h1d e1p) ?_
   rintro _ ⟨b2m, o2n, cs2o, rfl, h1r, h1s, h2p⟩
   obtain ⟨rfl, h1t⟩ := Str_open h1s
   refine dR z z (l1 g_9 z fid (h1r.at0 z)) ?_
   have h1e := lt_ s12.size s13.size
   obtain ⟨r1u, e1v, hm1f⟩ := bdS hm1q
   refine dE z z (fc call106 z (W_w0b (B := B) e1v (lt_ hBw h1e) h1t)) (.inr fun _ _ h => chgB (h.1)) ?_
   rintro _ w2q ⟨s14, rfl⟩
   refine dR z z (not_ z) (dR z z (mv z) ?_)
   rcases bs (!r1u) with hc10 | hc10
   ·iterate 7 refine dRn z z z hc10 z ?_
    exact dEn z z z hc10 z (dR z z (pT z hc10 z) (PR_done (fun _ q => ⟨true, som (ifT hm1f hc10), (q.k (s3 z z z)), (bup s13 s14)⟩)))
   refine dRg z z z hc10 z (mv z) (dRg z z z hc10 z (mv z) ?_)
   obtain ⟨x2r, e1w, hm1x⟩ := bdS (ifF hm1f hc10)
   have h1g := h1d.ext s14
   refine dRXg z z z hc10 z (rd_sliceX d_41 z_9 z z h1g z z e1w) ?_
   rintro _ ⟨a2s, n2t, c2u, rfl, h1y⟩
   refine dRg z z z hc10 z (mv z) (dRg z z z hc10 z (mv z) ?_)
   obtain ⟨x2v, e1z, hm20⟩ := bdS hm1x
   refine dRXg z z z hc10 z (at_ (α := Str) d_41 z_9 z z z h1g e1z) ?_
   rintro _ ⟨b2w, o2x, cs2y, rfl, h21, h22, h2z⟩
   obtain ⟨rfl, h23⟩ := Str_open h22
   refine dRg z z z hc10 z (l1 g_9 z fid (h21.at0 z)) ?_
   obtain ⟨r24, e25, hm26⟩ := bdS hm20
   refine dEg z z z hc10 z (fc call200 z (W_w27 (B := B) e25 (lt_ hBw (lt_ h1e s14.size)) h1y h23)) (.inr fun _ _ h => chgB (h.1)) ?_
   rintro _ w30 ⟨s27, rfl⟩
   exact dR z z (pF z hc10 z) (PR_done (fun _ q => ⟨r24, som hm26, (q.k (s3 z z z)), (bup (bup s13 s14) s27)⟩))
  rintro a28 w31 ⟨x15, rfl, hS32, s1h⟩
  revert a28
  refine Wo (Wc z (fun hc16 => ?_) (fun hc16 => ?_))
  ·exact Ws (Ra z (Wn (Wr (rtO (QO_retL (som (ifT hm1c hc16)).symm (ret1 hr z ⟨(bup s12 s1h), z⟩))))))
  exact Wk (Wg (Rm z (R z (inc_ hk1a (lt_ (repS.len p1_0) LEN_le) z z) (Ra z (Wl (fun _ q => ⟨(), (som (ifF hm1c hc16)).symm, ⟨(q.k (s2 z z)), (bup s12 s1h)⟩⟩))))))
 ·rintro _ a33 w34 ⟨hS29, s1i⟩
  refine Wu ?_ hS29
  refine Wq (Ws (Rm z (Rm z (R z (lnR d_41 z (p1_0.ext s1i)) (R z (lss z z) (Wn (Wc z (fun hc => (noltt hc).elim) (fun _ => ?_))))))))
  exact WC_exit (fun a' ha' => ⟨rfl, ⟨(Sat.weaken ha' (s1 z)), s1i⟩⟩)
 ·rintro _ a2a w35 rfl ⟨hS36, s17⟩
  have hm2b := elL hm18
  revert a2a
  refine Wo (Ws (Rm z ?_))
  have h1j := p1_0.ext s17
  refine R z (lnR d_41 z h1j) ?_
  obtain ⟨r37, e2c, hm2d⟩ := bdS hm2b
  refine E z (fc call97 z (W_w00 (B := B) e2c (lt_ hBw s17.size) (inI_len (repS.len h1j)) (ii z) (ii z))) ?_
  rintro _ w38 ⟨s2e, rfl⟩
  refine Ra z (Wn ?_)
  obtain rfl := som hm2d
  exact Wr (ret1 hr z ⟨(bup s17 s2e), z⟩)
 rintro r39 ex3a a3b w3c rfl ⟨rfl, hq2f⟩
 have hm2g := elR hm18
 obtain rfl := som hm2g
 exact ⟨hq2f, z⟩
theorem W_w29 {x1 : Desc} {x2 : Rule} {res : Bool} (hm : M_spec_l4Tags x1 x2 = some res) (hBw : B ≤ w0.z) (p1_0 : repS w0 B (sl A0 N0 C0) x1.rules) (p2_0 : x2.name.b.length ≤ LEN) (p2_1 : inI x2.kind) (p2_2 : inI x2.size) (p2_4 : repS w0 B (sl A2 N2 C2) x2.bytes) (p2_5 : repS w0 B (sl A4 N4 C4) x2.names) (p2_6 : repS w0 B (sl A1 N1 C1) x2.tags) (p2_7 : repS w0 B (sl A5 N5 C5) x2.kids) : CallsR prog 165 [(.agg #[sl A0 N0 C0]), (.agg #[Str.v x2.name, vI x2.kind, vI x2.size, vB x2.little, sl A2 N2 C2, sl A4 N4 C4, sl A1 N1 C1, sl A5 N5 C5])] w0 (Q11 w0 B res) := by
 unfold M_spec_l4Tags at hm
 refine goF func165 z z (lb z) fun fn hr => Ws (E z (fb z) ?_)
 rintro _ w18 ⟨rfl, h1m⟩
 have h13 := h1m.below
 have h23 : Blk w18 w0.z [sl A0 N0 C0] := h1m.blk
 refine E z (fb z) ?_
 rintro _ w1e ⟨rfl, h1n⟩
 have h12 := h1n.below
 have h1a : Blk w1e w18.z (vR x2 A2 N2 C2 A4 N4 C4 A1 N1 C1 A5 N5 C5) := h1n.blk
 refine Ra z (Wn (Wq (Wq ?_)))
 obtain ⟨u24, hu1o, hm1p⟩ := bdS hm
 refine WC_cut (fun a w => ∃ (x1f : Bool), x1f = u24 ∧ Sat 59 [(2, pt w0.z), (3, pt w18.z), (20, vB x1f)] a ∧ Below w1e.z w1e w) ?_ ?_
 ·refine Wg (R z (fd f_144_7 z) (R z (l1 g_142 z fid (h1a.at z)) (R z (lnR d_142 z ((p2_7.ext h13).ext h12)) (R z (fd f_144_6 z) (R z (l1 g_142 z fid (h1a.at z)) ?_)))))
  have h1g := (p2_6.ext h13).ext h12
  refine R z (lnR d_142 z h1g) (R z (add_ z z) (R z (nq z z) (Rm z ?_)))
  rcases bs ((x2.kids.length : Int) != (iadd (x2.tags.length : Int) 1)) with hc14 | hc14
  ·iterate 5 refine Nh z hc14 ?_
   exact R z (pT z hc14 z) (Wl (fun _ q => ⟨true, som (ifT hu1o hc14), (q.k (s3 z z z)), (br w1e)⟩))
  refine Rh z hc14 (fd f_144_6 z) (Rh z hc14 (l1 g_142 z fid (h1a.at z)) (Rh z hc14 (lnR d_142 z h1g) ?_))
  obtain ⟨r25, e26, hm27⟩ := bdS (ifF hu1o hc14)
  refine Eg z z hc14 z (fc call97 z (W_w00 (B := B) e26 (lt_ hBw (lt_ h13.size h12.size)) (inI_len (repS.len h1g)) (ii z) (ii z))) ?_
  rintro _ w3b ⟨s28, rfl⟩
  exact Rh z hc14 (not_ z) (R z (pF z hc14 z) (Wl (fun _ q => ⟨!r25, som hm27, (q.k (s3 z z z)), s28⟩)))
 rintro a29 w1b ⟨x1f, rfl, hS3c, s15⟩
 revert a29
 refine Wo (Wc z (fun hc1h => ?_) (fun hc1h => ?_))
 ·refine Ws (Ra z (Wn ?_))
  obtain rfl := som (ifT hm1p hc1h)
  exact Wr (ret1 hr z ⟨(bup (bup h13 h12) s15), z⟩)
 refine Wk (Wq (Ws (Ra z (Wn ?_))))
 obtain ⟨u3d, hu2a, hm1q⟩ := bdS (ifF hm1p hc1h)
 refine WC_forN (σ := Unit) (ρ := Bool) (fun (k1c : Nat) (_ : Unit) a w => Sat 59 [(2, pt w0.z), (3, pt w18.z), (5, (vI ((k1c : Nat) : Int)))] a ∧ Below w1b.z w1b w) (fun (_ : Unit) a w => Sat 59 [] a ∧ Below w1b.z w1b w) (fun r ex a w => ex = .ret ∧ RetPost prog fn (Q11 w0 B r) a w) hu2a ?_ ?_ ?_ ?_ ?_
 ·exact fun _ q => ⟨(q.k (s3 z z z)), (br w1b)⟩
 ·rintro k1c _ a3e w1r o3f hk1s ⟨hS2b, s17⟩ hm2c
  refine Wu ?_ hS2b
  refine Wq (Ws (Rm z (R z (fd f_144_6 z) ?_)))
  have h1t := (h1a.ext s15).ext s17
  refine R z (l1 g_142 z fid (h1t.at z)) ?_
  have h1u := (((p2_6.ext h13).ext h12).ext s15).ext s17
  refine R z (lnR d_142 z h1u) (R z (lss z z) (Wn (Wc z (fun _ => ?_) (fun hc => (nolt hk1s hc).elim))))
  refine Wk (Wq (WC_block (Wq ?_)))
  obtain ⟨u2d, hu2e, hm1v⟩ := bdS hm2c
  refine WC_cut (fun a w => ∃ (x1i : Bool), x1i = u2d ∧ Sat 59 [(2, pt w0.z), (3, pt w18.z), (5, (vI ((k1c : Nat) : Int))), (58, vB x1i)] a ∧ Below w1r.z w1r w) ?_ ?_
  ·refine WC_draw (X := noX) 0 (.rd 0 (.rd 1 (.rd 2 (.rd 3 (.rd 4 (.rd 5 (.rd 6 (.rd 7 (.rd 8 (.rd 9 (.ef 10 (.ef 11 (.rd 12 (.rd 13 (.rd 14 (.rd 15 (.rd 16 (.rd 17 (.rd 18 (.rd 19 (.rd 20 (.rd 21 (.rd 22 (.rd 23 (.rd 24 (.rd 25 (.rd 26 (.rd 27 (.rd 28 (.rd 29 (.rd 30 .done))))))))))))))))))))))))))))))) mo (by kernel_rfl) fun w3g s16 _ => dR z z (fd f_144_6 z) ?_
   have h1j := h1t.ext s16
   refine dR z z (l1 g_142 z fid (h1j.at z)) (dR z z (mv z) ?_)
   obtain ⟨x3h, e2f, hm2g⟩ := bdS hu2e
   have h1w := h1u.ext s16
   refine dRX z z (at_ (α := Int) d_142 z_3 z z z h1w e2f) ?_
   rintro _ ⟨b3i, o3j, cs3k, rfl, h2h, h2i, h3l⟩
   obtain ⟨rfl, h2j⟩ := Int_open h2i
   refine dR z z (l1 g_3 z fid (h2h.at0 z)) (dR z z (lN (vs := [sl A0 N0 C0]) g_95 z_95 z z fid (((((h23.ext h12).ext s15).ext s17).ext s16).row 0 1 z)) (dR z z (fd f_144_7 z) (dR z z (l1 g_142 z fid (h1j.at z)) ?_)))
   obtain ⟨x3m, e2k, hm2l⟩ := bdS hm2g
   refine dRX z z (at_ (α := Int) d_142 z_3 z z z (((((p2_7.ext h13).ext h12).ext s15).ext s17).ext s16) e2k) ?_
   rintro _ ⟨b3n, o3o, cs3p, rfl, h2m, h2n, h3q⟩
   obtain ⟨rfl, h2o⟩ := Int_open h2n
   refine dR z z (l1 g_3 z fid (h2m.at0 z)) ?_
   have h1x := lt_ (lt_ (lt_ (lt_ h13.size h12.size) s15.size) s17.size) s16.size
   obtain ⟨r3r, e2p, hm2q⟩ := bdS hm2l
   refine dE z z (fc call163 z (W_w0c (B := B) e2p (lt_ hBw h1x) (((((p1_0.ext h13).ext h12).ext s15).ext s17).ext s16) h2o)) (.inr fun _ _ h => chgB (h.1)) ?_
   rintro _ w3s ⟨s19, rfl, h2r⟩
   obtain ⟨r2s, e2t, hm1y⟩ := bdS hm2q
   refine dE z z (fc call97 z (W_w00 (B := B) e2t (lt_ hBw (lt_ h1x s19.size)) h2j (ii z) h2r)) (.inr fun _ _ h => chgB (h.1)) ?_
   rintro _ w3t ⟨s1d, rfl⟩
   refine dR z z (not_ z) (dR z z (mv z) ?_)
   rcases bs (!r2s) with hc11 | hc11
   ·iterate 3 refine dRn z z z hc11 z ?_
    iterate 12 refine dRu z z z z ?_
    exact dRn z z z hc11 z (dR z z (pT z hc11 z) (PR_done (fun _ q => ⟨true, som (ifT hm1y hc11), (q.k (s4 z z z z)), (bup (bup s16 s19) s1d)⟩)))
   have hm1z := ifF hm1y hc11
   refine dRg z z z hc11 z (mv z) (dRg z z z hc11 z (rd_gtr z z) (dRg z z z hc11 z (mv z) ?_))
   rcases bs (decide (0 < ((k1c : Nat) : Int))) with hc10 | hc10
   ·refine dRg z z z hc10 z (fd f_144_6 z) ?_
    have h20 := (h1j.ext s19).ext s1d
    refine dRg z z z hc10 z (l1 g_142 z fid (h20.at z)) (dRg z z z hc10 z (mv z) (dRg z z z hc10 z (sb_ z z) ?_))
    obtain ⟨x2u, e2v, hm2w⟩ := bdS (ifT hm1z hc10)
    have h21 := (h1w.ext s19).ext s1d
    refine dRXg z z z hc10 z (at_ (α := Int) d_142 z_3 z z z h21 e2v) ?_
    rintro _ ⟨b3u, o3v, cs3w, rfl, h2x, h2y, h3x⟩
    obtain ⟨rfl, h3y⟩ := Int_open h2y
    refine dRg z z z hc10 z (l1 g_3 z fid (h2x.at0 z)) (dRg z z z hc10 z (fd f_144_6 z) (dRg z z z hc10 z (l1 g_142 z fid (h20.at z)) (dRg z z z hc10 z (mv z) ?_)))
    obtain ⟨x2z, e30, hm31⟩ := bdS hm2w
    refine dRXg z z z hc10 z (at_ (α := Int) d_142 z_3 z z z h21 e30) ?_
    rintro _ ⟨b3z, o40, cs41, rfl, h32, h33, h42⟩
    obtain ⟨rfl, h43⟩ := Int_open h33
    exact dRg z z z hc10 z (l1 g_3 z fid (h32.at0 z)) (dRg z z z hc10 z (rd_geq z z) (dRg z z z hc11 z (pT z hc10 z) (dR z z (pF z hc11 z) (PR_done (fun _ q => ⟨decide (x2z ≤ x2u), som hm31, (q.k (s4 z z z z)), (bup (bup s16 s19) s1d)⟩)))))
   iterate 12 refine dRn z z z hc10 z ?_
   exact dRg z z z hc11 z (pF z hc10 z) (dR z z (pF z hc11 z) (PR_done (fun _ q => ⟨false, som (ifF hm1z hc10), (q.k (s4 z z z z)), (bup (bup s16 s19) s1d)⟩)))
  rintro a34 w44 ⟨x1i, rfl, hS45, s22⟩
  revert a34
  refine Wo (Wc z (fun hc1k => ?_) (fun hc1k => ?_))
  ·exact Ws (Ra z (Wn (Wr (rtO (QO_retL (som (ifT hm1v hc1k)).symm (ret1 hr z ⟨(bup (bup (bup (bup h13 h12) s15) s17) s22), z⟩))))))
  exact Wk (Wg (Rm z (R z (inc_ hk1s (lt_ (repS.len p2_6) LEN_le) z z) (Ra z (Wl (fun _ q => ⟨(), (som (ifF hm1v hc1k)).symm, ⟨(q.k (s3 z z z)), (bup s17 s22)⟩⟩))))))
 ·rintro _ a46 w47 ⟨hS35, s1l⟩
  refine Wu ?_ hS35
  refine Wq (Ws (Rm z (R z (fd f_144_6 z) (R z (l1 g_142 z fid (((h1a.ext s15).ext s1l).at z)) (R z (lnR d_142 z ((((p2_6.ext h13).ext h12).ext s15).ext s1l)) (R z (lss z z) (Wn (Wc z (fun hc => (noltt hc).elim) (fun _ => ?_)))))))))
  exact WC_exit (fun a' ha' => ⟨rfl, ⟨(Sat.weaken ha' sn), s1l⟩⟩)
 ·rintro _ a36 w48 rfl ⟨hS49, s37⟩
  have hm38 := elL hm1q
  revert a36
  refine Wo (Ws (Ra z (Wn ?_)))
  obtain rfl := som hm38
  exact Wr (ret1 hr z ⟨(bup (bup (bup h13 h12) s15) s37), z⟩)
 rintro r4a ex4b a4c w4d rfl ⟨rfl, hq39⟩
 have hm3a := elR hm1q
 obtain rfl := som hm3a
 exact ⟨hq39, z⟩
theorem W_w2a {x1 : Desc} {x2 : Rule} {res : Bool} (hm : M_spec_l4Kind x1 x2 = some res) (hBw : B ≤ w0.z) (p1_0 : repS w0 B (sl A0 N0 C0) x1.rules) (p2_0 : x2.name.b.length ≤ LEN) (p2_1 : inI x2.kind) (p2_2 : inI x2.size) (p2_4 : repS w0 B (sl A2 N2 C2) x2.bytes) (p2_5 : repS w0 B (sl A4 N4 C4) x2.names) (p2_6 : repS w0 B (sl A1 N1 C1) x2.tags) (p2_7 : repS w0 B (sl A5 N5 C5) x2.kids) : CallsR prog 145 [(.agg #[sl A0 N0 C0]), (.agg #[Str.v x2.name, vI x2.kind, vI x2.size, vB x2.little, sl A2 N2 C2, sl A4 N4 C4, sl A1 N1 C1, sl A5 N5 C5])] w0 (Q11 w0 B res) := by
 unfold M_spec_l4Kind at hm
 refine goF func145 z z (lb z) fun fn hr => Ws (E z (fb z) ?_)
 rintro _ w1s ⟨rfl, h2d⟩
 have h11 := h2d.below
 have h1t : Blk w1s w0.z [sl A0 N0 C0] := h2d.blk
 refine E z (fb z) ?_
 rintro _ w12 ⟨rfl, h2e⟩
 have h10 := h2e.below
 have h13 : Blk w12 w1s.z (vR x2 A2 N2 C2 A4 N4 C4 A1 N1 C1 A5 N5 C5) := h2e.blk
 refine Ra z (Wn (Wq (Ws (R z (fd f_144_1 z) (R z (l1 g_3 z fid (h13.at z)) (Wn (WC_block (Ws (R z (eql z z) (Ra z (Wn (Wc z (fun hc1u => ?_) (fun hc1u => ?_)))))))))))))
 ·refine Wq ?_
  obtain ⟨u3n, hu3o, hm3p⟩ := bdS (ifT hm hc1u)
  refine WC_cut (fun a w => ∃ (x1v : Bool), x1v = u3n ∧ Sat 114 [(4, vB x1v)] a ∧ Below w12.z w12 w) ?_ ?_
  ·refine Wg (R z (lN (vs := (vR x2 A2 N2 C2 A4 N4 C4 A1 N1 C1 A5 N5 C5)) g_144 z_144 z z fid (h13.row 0 8 z)) ?_)
   have h2f := lt_ h11.size h10.size
   obtain ⟨r3q, e3r, hm2g⟩ := bdS hu3o
   refine E z (fc call162 z (W_w04 (B := B) e3r (lt_ hBw h2f) p2_0 p2_1 p2_2 ((p2_4.ext h11).ext h10) ((p2_5.ext h11).ext h10) ((p2_6.ext h11).ext h10) ((p2_7.ext h11).ext h10) (ii z))) ?_
   rintro _ w6h ⟨s1l, rfl⟩
   refine Rm z ?_
   rcases bs r3q with hc1e | hc1e
   ·refine Rh z hc1e (fd f_144_2 z) ?_
    have h2h := h13.ext s1l
    refine Rh z hc1e (l1 g_3 z fid (h2h.at z)) ?_
    obtain ⟨r3s, e3t, hm2i⟩ := bdS (ifT hm2g hc1e)
    refine Eg z z hc1e z (fc call97 z (W_w00 (B := B) e3t (lt_ hBw (lt_ h2f s1l.size)) p2_2 (ii z) (ii z))) ?_
    rintro _ w6i ⟨s1p, rfl⟩
    refine R z (pT z hc1e z) (Rm z ?_)
    rcases bs r3s with hc17 | hc17
    ·have hm2j := ifT hm2i hc17
     refine Rh z hc17 (fd f_144_3 z) ?_
     have h2k := h2h.ext s1p
     refine Rh z hc17 (l1 g_4 z fid (h2k.at z)) (Rh z hc17 (not_ z) (Rh z hc17 (mv z) ?_))
     rcases bs (!x2.little) with hc1f | hc1f
     ·iterate 3 refine Nh z hc1f ?_
      exact Rh z hc17 (pT z hc1f z) (R z (pT z hc17 z) (Ra z (Wl (fun _ q => ⟨true, som (ifT hm2j hc1f), (q.k (s1 z)), (bup s1l s1p)⟩))))
     exact Rh z hc1f (fd f_144_2 z) (Rh z hc1f (l1 g_3 z fid (h2k.at z)) (Rh z hc1f (rd_gtr z z) (Rh z hc17 (pF z hc1f z) (R z (pT z hc17 z) (Ra z (Wl (fun _ q => ⟨decide (1 < x2.size), som (ifF hm2j hc1f), (q.k (s1 z)), (bup s1l s1p)⟩)))))))
    iterate 4 refine Nh z hc17 ?_
    exact Nv z (Nv z (Nv z (Nh z hc17 (R z (pF z hc17 z) (Ra z (Wl (fun _ q => ⟨false, som (ifF hm2i hc17), (q.k (s1 z)), (bup s1l s1p)⟩)))))))
   iterate 3 refine Nh z hc1e ?_
   exact R z (pF z hc1e z) (Rm z (Nh z z (Nh z z (Nh z z (Nh z z (Nv z (Nv z (Nv z (Nh z z (R z (pF z z z) (Ra z (Wl (fun _ q => ⟨false, som (ifF hm2g hc1e), (q.k (s1 z)), s1l⟩)))))))))))))
  rintro a3u w6j ⟨x1v, rfl, hS6k, s3v⟩
  revert a3u
  refine Wo ?_
  obtain rfl := som hm3p
  exact Wr (rtO (ret1 hr z ⟨(bup (bup h11 h10) s3v), z⟩))
 have hm2l := ifF hm hc1u
 refine Ws (R z (eql z z) (Ra z (Wn (Wc z (fun hc1w => ?_) (fun hc1w => ?_)))))
 ·refine Wq ?_
  obtain ⟨u3w, hu3x, hm3y⟩ := bdS (ifT hm2l hc1w)
  refine WC_cut (fun a w => ∃ (x1x : Bool), x1x = u3w ∧ Sat 114 [(4, vB x1x)] a ∧ Below w12.z w12 w) ?_ ?_
  ·refine Wg (R z (lN (vs := (vR x2 A2 N2 C2 A4 N4 C4 A1 N1 C1 A5 N5 C5)) g_144 z_144 z z fid (h13.row 0 8 z)) ?_)
   have h2m := (p2_4.ext h11).ext h10
   have h2n := lt_ h11.size h10.size
   obtain ⟨r3z, e40, hm2o⟩ := bdS hu3x
   refine E z (fc call162 z (W_w04 (B := B) e40 (lt_ hBw h2n) p2_0 p2_1 p2_2 h2m ((p2_5.ext h11).ext h10) ((p2_6.ext h11).ext h10) ((p2_7.ext h11).ext h10) (ii z))) ?_
   rintro _ w6l ⟨s1m, rfl⟩
   refine Rm z ?_
   rcases bs r3z with hc19 | hc19
   ·refine Rh z hc19 (fd f_144_4 z) (Rh z hc19 (l1 g_25 z fid ((h13.ext s1m).at z)) ?_)
    have h2p := h2m.ext s1m
    refine Rh z hc19 (lnR d_25 z h2p) ?_
    obtain ⟨r41, e42, hm43⟩ := bdS (ifT hm2o hc19)
    refine Eg z z hc19 z (fc call97 z (W_w00 (B := B) e42 (lt_ hBw (lt_ h2n s1m.size)) (inI_len (repS.len h2p)) (ii z) (ii z))) ?_
    rintro _ w6m ⟨s44, rfl⟩
    exact R z (pT z hc19 z) (Ra z (Wl (fun _ q => ⟨r41, som hm43, (q.k (s1 z)), (bup s1m s44)⟩)))
   iterate 4 refine Nh z hc19 ?_
   exact R z (pF z hc19 z) (Ra z (Wl (fun _ q => ⟨false, som (ifF hm2o hc19), (q.k (s1 z)), s1m⟩)))
  rintro a45 w6n ⟨x1x, rfl, hS6o, s46⟩
  revert a45
  refine Wo ?_
  obtain rfl := som hm3y
  exact Wr (rtO (ret1 hr z ⟨(bup (bup h11 h10) s46), z⟩))
 have hm2q := ifF hm2l hc1w
 refine Ws (R z (eql z z) (Ra z (Wn (Wc z (fun hc1y => ?_) (fun hc1y => ?_)))))
 ·refine Wq ?_
  obtain ⟨u47, hu48, hm49⟩ := bdS (ifT hm2q hc1y)
  refine WC_cut (fun a w => ∃ (x1z : Bool), x1z = u47 ∧ Sat 114 [(4, vB x1z)] a ∧ Below w12.z w12 w) ?_ ?_
  ·refine Wg (R z (lN (vs := (vR x2 A2 N2 C2 A4 N4 C4 A1 N1 C1 A5 N5 C5)) g_144 z_144 z z fid (h13.row 0 8 z)) ?_)
   have h2r := lt_ h11.size h10.size
   obtain ⟨r4a, e4b, hm2s⟩ := bdS hu48
   refine E z (fc call162 z (W_w04 (B := B) e4b (lt_ hBw h2r) p2_0 p2_1 p2_2 ((p2_4.ext h11).ext h10) ((p2_5.ext h11).ext h10) ((p2_6.ext h11).ext h10) ((p2_7.ext h11).ext h10) (ii z))) ?_
   rintro _ w6p ⟨s1q, rfl⟩
   refine Rm z ?_
   rcases bs r4a with hc1g | hc1g
   ·refine Rh z hc1g (fd f_144_2 z) (Rh z hc1g (l1 g_3 z fid ((h13.ext s1q).at z)) ?_)
    obtain ⟨r4c, e4d, hm4e⟩ := bdS (ifT hm2s hc1g)
    refine Eg z z hc1g z (fc call97 z (W_w00 (B := B) e4d (lt_ hBw (lt_ h2r s1q.size)) p2_2 (ii z) (ii z))) ?_
    rintro _ w6q ⟨s4f, rfl⟩
    exact R z (pT z hc1g z) (Ra z (Wl (fun _ q => ⟨r4c, som hm4e, (q.k (s1 z)), (bup s1q s4f)⟩)))
   iterate 3 refine Nh z hc1g ?_
   exact R z (pF z hc1g z) (Ra z (Wl (fun _ q => ⟨false, som (ifF hm2s hc1g), (q.k (s1 z)), s1q⟩)))
  rintro a4g w6r ⟨x1z, rfl, hS6s, s4h⟩
  revert a4g
  refine Wo ?_
  obtain rfl := som hm49
  exact Wr (rtO (ret1 hr z ⟨(bup (bup h11 h10) s4h), z⟩))
 have hm2t := ifF hm2q hc1y
 refine Ws (R z (eql z z) (Ra z (Wn (Wc z (fun hc20 => ?_) (fun hc20 => ?_)))))
 ·refine Wq ?_
  obtain ⟨u4i, hu4j, hm4k⟩ := bdS (ifT hm2t hc20)
  refine WC_cut (fun a w => ∃ (x21 : Bool), x21 = u4i ∧ Sat 114 [(4, vB x21)] a ∧ Below w12.z w12 w) ?_ ?_
  ·refine WC_draw (X := noX) 0 (.rd 0 (.ef 1 (.rd 2 (.rd 3 (.rd 4 (.rd 5 (.rd 6 (.rd 7 (.ef 8 (.rd 9 (.rd 10 (.rd 11 .done)))))))))))) mo (by kernel_rfl) fun w6t s1a _ => ?_
   have h2u := h13.ext s1a
   refine dR z z (lN (vs := (vR x2 A2 N2 C2 A4 N4 C4 A1 N1 C1 A5 N5 C5)) g_144 z_144 z z fid (h2u.row 0 8 z)) ?_
   have h2v := ((p2_7.ext h11).ext h10).ext s1a
   have h2w := lt_ (lt_ h11.size h10.size) s1a.size
   obtain ⟨r4l, e4m, hm2x⟩ := bdS hu4j
   refine dE z z (fc call162 z (W_w04 (B := B) e4m (lt_ hBw h2w) p2_0 p2_1 p2_2 (((p2_4.ext h11).ext h10).ext s1a) (((p2_5.ext h11).ext h10).ext s1a) (((p2_6.ext h11).ext h10).ext s1a) h2v (ii z))) (.inr fun _ _ h => chgB (h.1)) ?_
   rintro _ w6u ⟨s1j, rfl⟩
   refine dR z z (mv z) ?_
   rcases bs r4l with hc14 | hc14
   ·refine dRg z z z hc14 z (lN (vs := [sl A0 N0 C0]) g_95 z_95 z z fid ((((h1t.ext h10).ext s1a).ext s1j).row 0 1 z)) (dRg z z z hc14 z (fd f_144_7 z) (dRg z z z hc14 z (l1 g_142 z fid ((h2u.ext s1j).at z)) ?_))
    obtain ⟨x6v, e4n, hm4o⟩ := bdS (ifT hm2x hc14)
    refine dRXg z z z hc14 z (at_ (α := Int) d_142 z_3 z z z (h2v.ext s1j) e4n) ?_
    rintro _ ⟨b6w, o6x, cs6y, rfl, h4p, h4q, h6z⟩
    obtain ⟨rfl, h4r⟩ := Int_open h4q
    refine dRg z z z hc14 z (l1 g_3 z fid (h4p.at0 z)) ?_
    obtain ⟨r4s, e4t, hm4u⟩ := bdS hm4o
    refine dEg z z z hc14 z (fc call163 z (W_w0c (B := B) e4t (lt_ hBw (lt_ h2w s1j.size)) ((((p1_0.ext h11).ext h10).ext s1a).ext s1j) h4r)) (.inr fun _ _ h => chgB (h.1)) ?_
    rintro _ w70 ⟨s4v, rfl, h71⟩
    exact dRg z z z hc14 z (rd_gtr z z) (dR z z (pT z hc14 z) (dR z z (asg z) (PR_done (fun _ q => ⟨decide (0 < r4s), som hm4u, (q.k (s1 z)), (bup (bup s1a s1j) s4v)⟩))))
   iterate 5 refine dRn z z z hc14 z ?_
   exact dEn z z z hc14 z (dRn z z z hc14 z (dR z z (pF z hc14 z) (dR z z (asg z) (PR_done (fun _ q => ⟨false, som (ifF hm2x hc14), (q.k (s1 z)), (bup s1a s1j)⟩)))))
  rintro a4w w72 ⟨x21, rfl, hS73, s4x⟩
  revert a4w
  refine Wo ?_
  obtain rfl := som hm4k
  exact Wr (rtO (ret1 hr z ⟨(bup (bup h11 h10) s4x), z⟩))
 have hm2y := ifF hm2t hc20
 refine Ws (R z (eql z z) (Ra z (Wn (Wc z (fun hc22 => ?_) (fun hc22 => ?_)))))
 ·refine Wq ?_
  obtain ⟨u4y, hu4z, hm50⟩ := bdS (ifT hm2y hc22)
  refine WC_cut (fun a w => ∃ (x23 : Bool), x23 = u4y ∧ Sat 114 [(4, vB x23)] a ∧ Below w12.z w12 w) ?_ ?_
  ·refine WC_draw (X := noX) 0 (.rd 0 (.ef 1 (.rd 2 (.rd 3 (.rd 4 (.rd 5 (.rd 6 (.rd 7 (.ef 8 (.rd 9 (.rd 10 (.rd 11 .done)))))))))))) mo (by kernel_rfl) fun w74 s1b _ => ?_
   have h2z := h13.ext s1b
   refine dR z z (lN (vs := (vR x2 A2 N2 C2 A4 N4 C4 A1 N1 C1 A5 N5 C5)) g_144 z_144 z z fid (h2z.row 0 8 z)) ?_
   have h30 := ((p2_7.ext h11).ext h10).ext s1b
   have h31 := lt_ (lt_ h11.size h10.size) s1b.size
   obtain ⟨r51, e52, hm32⟩ := bdS hu4z
   refine dE z z (fc call162 z (W_w04 (B := B) e52 (lt_ hBw h31) p2_0 p2_1 p2_2 (((p2_4.ext h11).ext h10).ext s1b) (((p2_5.ext h11).ext h10).ext s1b) (((p2_6.ext h11).ext h10).ext s1b) h30 (ii z))) (.inr fun _ _ h => chgB (h.1)) ?_
   rintro _ w75 ⟨s1k, rfl⟩
   refine dR z z (mv z) ?_
   rcases bs r51 with hc15 | hc15
   ·refine dRg z z z hc15 z (lN (vs := [sl A0 N0 C0]) g_95 z_95 z z fid ((((h1t.ext h10).ext s1b).ext s1k).row 0 1 z)) (dRg z z z hc15 z (fd f_144_7 z) (dRg z z z hc15 z (l1 g_142 z fid ((h2z.ext s1k).at z)) ?_))
    obtain ⟨x76, e53, hm54⟩ := bdS (ifT hm32 hc15)
    refine dRXg z z z hc15 z (at_ (α := Int) d_142 z_3 z z z (h30.ext s1k) e53) ?_
    rintro _ ⟨b77, o78, cs79, rfl, h55, h56, h7a⟩
    obtain ⟨rfl, h57⟩ := Int_open h56
    refine dRg z z z hc15 z (l1 g_3 z fid (h55.at0 z)) ?_
    obtain ⟨r58, e59, hm5a⟩ := bdS hm54
    refine dEg z z z hc15 z (fc call163 z (W_w0c (B := B) e59 (lt_ hBw (lt_ h31 s1k.size)) ((((p1_0.ext h11).ext h10).ext s1b).ext s1k) h57)) (.inr fun _ _ h => chgB (h.1)) ?_
    rintro _ w7b ⟨s5b, rfl, h7c⟩
    exact dRg z z z hc15 z (rd_gtr z z) (dR z z (pT z hc15 z) (dR z z (asg z) (PR_done (fun _ q => ⟨decide (0 < r58), som hm5a, (q.k (s1 z)), (bup (bup s1b s1k) s5b)⟩))))
   iterate 5 refine dRn z z z hc15 z ?_
   exact dEn z z z hc15 z (dRn z z z hc15 z (dR z z (pF z hc15 z) (dR z z (asg z) (PR_done (fun _ q => ⟨false, som (ifF hm32 hc15), (q.k (s1 z)), (bup s1b s1k)⟩)))))
  rintro a5c w7d ⟨x23, rfl, hS7e, s5d⟩
  revert a5c
  refine Wo ?_
  obtain rfl := som hm50
  exact Wr (rtO (ret1 hr z ⟨(bup (bup h11 h10) s5d), z⟩))
 have hm33 := ifF hm2y hc22
 refine Ws (R z (eql z z) (Ra z (Wn (Wc z (fun hc24 => ?_) (fun hc24 => ?_)))))
 ·refine Wq ?_
  obtain ⟨u5e, hu5f, hm5g⟩ := bdS (ifT hm33 hc24)
  refine WC_cut (fun a w => ∃ (x25 : Bool), x25 = u5e ∧ Sat 114 [(4, vB x25)] a ∧ Below w12.z w12 w) ?_ ?_
  ·refine Wg (R z (lN (vs := (vR x2 A2 N2 C2 A4 N4 C4 A1 N1 C1 A5 N5 C5)) g_144 z_144 z z fid (h13.row 0 8 z)) (R z (fd f_144_5 z) (R z (l1 g_41 z fid (h13.at z)) ?_)))
   have h1r := (p2_5.ext h11).ext h10
   refine R z (lnR d_41 z h1r) ?_
   have h34 := lt_ h11.size h10.size
   obtain ⟨r5h, e5i, hm35⟩ := bdS hu5f
   refine E z (fc call162 z (W_w04 (B := B) e5i (lt_ hBw h34) p2_0 p2_1 p2_2 ((p2_4.ext h11).ext h10) h1r ((p2_6.ext h11).ext h10) ((p2_7.ext h11).ext h10) (inI_len (repS.len h1r)))) ?_
   rintro _ w7f ⟨s1n, rfl⟩
   refine Rm z ?_
   rcases bs r5h with hc1h | hc1h
   ·refine Rh z hc1h (fd f_144_5 z) (Rh z hc1h (l1 g_41 z fid ((h13.ext s1n).at z)) ?_)
    obtain ⟨r5j, e5k, hm5l⟩ := bdS (ifT hm35 hc1h)
    refine Eg z z hc1h z (fc call164 z (W_w28 (B := B) e5k (lt_ hBw (lt_ h34 s1n.size)) (h1r.ext s1n))) ?_
    rintro _ w7g ⟨s5m, rfl⟩
    exact R z (pT z hc1h z) (Ra z (Wl (fun _ q => ⟨r5j, som hm5l, (q.k (s1 z)), (bup s1n s5m)⟩)))
   iterate 3 refine Nh z hc1h ?_
   exact R z (pF z hc1h z) (Ra z (Wl (fun _ q => ⟨false, som (ifF hm35 hc1h), (q.k (s1 z)), s1n⟩)))
  rintro a5n w7h ⟨x25, rfl, hS7i, s5o⟩
  revert a5n
  refine Wo ?_
  obtain rfl := som hm5g
  exact Wr (rtO (ret1 hr z ⟨(bup (bup h11 h10) s5o), z⟩))
 have hm36 := ifF hm33 hc24
 refine Ws (R z (eql z z) (Ra z (Wn (Wc z (fun hc26 => ?_) (fun hc26 => ?_)))))
 ·refine Wq ?_
  obtain ⟨u5p, hu5q, hm5r⟩ := bdS (ifT hm36 hc26)
  refine WC_cut (fun a w => ∃ (x27 : Bool), x27 = u5p ∧ Sat 114 [(4, vB x27)] a ∧ Below w12.z w12 w) ?_ ?_
  ·refine Wg (R z (lN (vs := (vR x2 A2 N2 C2 A4 N4 C4 A1 N1 C1 A5 N5 C5)) g_144 z_144 z z fid (h13.row 0 8 z)) ?_)
   have h37 := (p2_4.ext h11).ext h10
   have h38 := (p2_5.ext h11).ext h10
   have h39 := (p2_6.ext h11).ext h10
   have h3a := (p2_7.ext h11).ext h10
   have h3b := lt_ h11.size h10.size
   obtain ⟨r5s, e5t, hm3c⟩ := bdS hu5q
   refine E z (fc call162 z (W_w04 (B := B) e5t (lt_ hBw h3b) p2_0 p2_1 p2_2 h37 h38 h39 h3a (ii z))) ?_
   rintro _ w7j ⟨s1c, rfl⟩
   refine Rm z ?_
   rcases bs r5s with hc1i | hc1i
   ·refine Rh z hc1i (lN (vs := [sl A0 N0 C0]) g_95 z_95 z z fid (((h1t.ext h10).ext s1c).row 0 1 z)) (Rh z hc1i (lN (vs := (vR x2 A2 N2 C2 A4 N4 C4 A1 N1 C1 A5 N5 C5)) g_144 z_144 z z fid ((h13.ext s1c).row 0 8 z)) ?_)
    obtain ⟨r5u, e5v, hm5w⟩ := bdS (ifT hm3c hc1i)
    refine Eg z z hc1i z (fc call165 z (W_w29 (B := B) e5v (lt_ hBw (lt_ h3b s1c.size)) (((p1_0.ext h11).ext h10).ext s1c) p2_0 p2_1 p2_2 (h37.ext s1c) (h38.ext s1c) (h39.ext s1c) (h3a.ext s1c))) ?_
    rintro _ w7k ⟨s5x, rfl⟩
    exact R z (pT z hc1i z) (Ra z (Wl (fun _ q => ⟨r5u, som hm5w, (q.k (s1 z)), (bup s1c s5x)⟩)))
   iterate 3 refine Nh z hc1i ?_
   exact R z (pF z hc1i z) (Ra z (Wl (fun _ q => ⟨false, som (ifF hm3c hc1i), (q.k (s1 z)), s1c⟩)))
  rintro a5y w7l ⟨x27, rfl, hS7m, s5z⟩
  revert a5y
  refine Wo ?_
  obtain rfl := som hm5r
  exact Wr (rtO (ret1 hr z ⟨(bup (bup h11 h10) s5z), z⟩))
 refine Wq (Ws (R z (eql z z) (Ra z (Wn ?_))))
 obtain ⟨u60, hu3d, hm3e⟩ := bdS (ifF hm36 hc26)
 refine WC_cut (fun a w => ∃ (x28 : Bool), x28 = u60 ∧ Sat 114 [(3, pt w1s.z), (6, vI x2.kind), (92, vB x28)] a ∧ Below w12.z w12 w) ?_ ?_
 ·refine Wc z (fun hc29 => ?_) (fun hc29 => ?_)
  ·exact WC_skip (fun _ q => ⟨x2.kind == 8, som (ifT hu3d hc29), (q.k (s3 z z z)), (br w12)⟩)
  exact Wg (R z (eql z z) (Ra z (Wl (fun _ q => ⟨x2.kind == 9, som (ifF hu3d hc29), (q.k (s3 z z z)), (br w12)⟩))))
 rintro a61 w3f ⟨x28, rfl, hS7n, s16⟩
 revert a61
 refine Wo (Wc z (fun hc2a => ?_) (fun hc2a => ?_))
 ·refine Ws (R z (lN (vs := (vR x2 A2 N2 C2 A4 N4 C4 A1 N1 C1 A5 N5 C5)) g_144 z_144 z z fid ((h13.ext s16).row 0 8 z)) ?_)
  obtain ⟨r7o, e62, hm63⟩ := bdS (ifT hm3e hc2a)
  refine E z (fc call162 z (W_w04 (B := B) e62 (lt_ hBw (lt_ (lt_ h11.size h10.size) s16.size)) p2_0 p2_1 p2_2 (((p2_4.ext h11).ext h10).ext s16) (((p2_5.ext h11).ext h10).ext s16) (((p2_6.ext h11).ext h10).ext s16) (((p2_7.ext h11).ext h10).ext s16) (ii z))) ?_
  rintro _ w7p ⟨s64, rfl⟩
  refine Ra z (Wn ?_)
  obtain rfl := som hm63
  exact Wr (rtO (ret1 hr z ⟨(bup (bup (bup h11 h10) s16) s64), z⟩))
 have hm3g := ifF hm3e hc2a
 refine Ws (R z (eql z z) (Ra z (Wn (Wc z (fun hc2b => ?_) (fun hc2b => ?_)))))
 ·refine Wq ?_
  obtain ⟨u65, hu66, hm67⟩ := bdS (ifT hm3g hc2b)
  refine WC_cut (fun a w => ∃ (x2c : Bool), x2c = u65 ∧ Sat 114 [(4, vB x2c)] a ∧ Below w3f.z w3f w) ?_ ?_
  ·refine Wg ?_
   have h3h := h13.ext s16
   refine R z (lN (vs := (vR x2 A2 N2 C2 A4 N4 C4 A1 N1 C1 A5 N5 C5)) g_144 z_144 z z fid (h3h.row 0 8 z)) ?_
   have h3i := ((p2_4.ext h11).ext h10).ext s16
   obtain ⟨r68, e69, hm3j⟩ := bdS hu66
   refine E z (fc call162 z (W_w04 (B := B) e69 (lt_ hBw (lt_ (lt_ h11.size h10.size) s16.size)) p2_0 p2_1 p2_2 h3i (((p2_5.ext h11).ext h10).ext s16) (((p2_6.ext h11).ext h10).ext s16) (((p2_7.ext h11).ext h10).ext s16) (ii z))) ?_
   rintro _ w7q ⟨s1o, rfl⟩
   refine Rm z ?_
   rcases bs r68 with hc1d | hc1d
   ·have hm3k := ifT hm3j hc1d
    refine Rh z hc1d (fd f_144_4 z) ?_
    have h3l := h3h.ext s1o
    refine Rh z hc1d (l1 g_25 z fid (h3l.at z)) ?_
    have h3m := h3i.ext s1o
    refine Rh z hc1d (lnR d_25 z h3m) (Rh z hc1d (eql z z) (R z (pT z hc1d z) (Rm z ?_)))
    rcases bs ((x2.bytes.length : Int) == 1) with hc18 | hc18
    ·refine Rh z hc18 (fd f_144_4 z) (Rh z hc18 (l1 g_25 z fid (h3l.at z)) ?_)
     obtain ⟨x6a, e6b, hm6c⟩ := bdS (ifT hm3k hc18)
     refine RXg z z hc18 z (at_ (α := UInt8) d_25 z_5 z z z h3m e6b) ?_
     rintro _ ⟨b7r, o7s, cs7t, rfl, h6d, h6e, h7u⟩
     obtain rfl := UInt8_open h6e
     exact Rh z hc18 (l1 g_5 z fid (h6d.at0 z)) (Rh z hc18 (nq z z) (R z (pT z hc18 z) (Ra z (Wl (fun _ q => ⟨(byteI x6a) != (byteI (92 : UInt8)), som hm6c, (q.k (s1 z)), s1o⟩)))))
    iterate 5 refine Nh z hc18 ?_
    exact R z (pF z hc18 z) (Ra z (Wl (fun _ q => ⟨false, som (ifF hm3k hc18), (q.k (s1 z)), s1o⟩)))
   iterate 4 refine Nh z hc1d ?_
   exact R z (pF z hc1d z) (Rm z (Nh z z (Nh z z (Nh z z (Nh z z (Nh z z (R z (pF z z z) (Ra z (Wl (fun _ q => ⟨false, som (ifF hm3j hc1d), (q.k (s1 z)), s1o⟩))))))))))
  rintro a6f w7v ⟨x2c, rfl, hS7w, s6g⟩
  revert a6f
  refine Wo ?_
  obtain rfl := som hm67
  exact Wr (rtO (ret1 hr z ⟨(bup (bup (bup h11 h10) s16) s6g), z⟩))
 refine Wk (Ws (Ra z (Wn ?_)))
 obtain rfl := som (ifF hm3g hc2b)
 exact Wr (ret1 hr z ⟨(bup (bup h11 h10) s16), z⟩)
theorem W_w2b {x1 : Desc} {x2 : Int} {res : Bool} (hm : M_spec_IsValidRule x1 x2 = some res) (hBw : B ≤ w0.z) (p1_0 : repS w0 B (sl A0 N0 C0) x1.rules) (p2_0 : inI x2) : CallsR prog 124 [(.agg #[sl A0 N0 C0]), vI x2] w0 (Q11 w0 B res) := by
 unfold M_spec_IsValidRule at hm
 refine goF func124 z z (lb z) fun fn hr => Ws (E z (fb z) ?_)
 rintro _ w2p ⟨rfl, h25⟩
 have h15 := h25.below
 have h1g : Blk w2p w0.z [sl A0 N0 C0] := h25.blk
 refine Ra z (Wn (Wq (Ws (Rm z (R z (fd f_95_0 z) (R z (l1 g_93 z fid (h1g.at z)) ?_))))))
 have h26 := p1_0.ext h15
 refine R z (lnR d_93 z h26) (R z (sb_ z z) ?_)
 obtain ⟨r44, e2q, hm27⟩ := bdS hm
 refine E z (fc call97 z (W_w00 (B := B) e2q (lt_ hBw h15.size) p2_0 (ii z) (iS _ _))) ?_
 rintro _ w17 ⟨s13, rfl⟩
 refine R z (not_ z) (Wn (Wc z (fun hc1j => ?_) (fun hc1j => ?_)))
 ·refine Ws (Ra z (Wn ?_))
  obtain rfl := som (ifT hm27 hc1j)
  exact Wr (ret1 hr z ⟨(bup h15 s13), z⟩)
 refine Wk (Ws (R z (fd f_95_0 z) ?_))
 have h1k := h1g.ext s13
 refine R z (l1 g_93 z fid (h1k.at z)) (Rm z ?_)
 obtain ⟨x14, e2r, hm2s⟩ := bdS (ifF hm27 hc1j)
 have h1l := h26.ext s13
 refine RX z (at_ (α := Rule) d_93 z_144 z z z h1l e2r) ?_
 rintro _ ⟨b45, o46, cs47, rfl, h2t, h2u, h48⟩
 obtain ⟨a1m, n1n, c1o, a1p, n1q, c1r, a1s, n1t, c1u, a1v, n1w, c1x, rfl, h28, h2v, h2w, h2x, h2y, h2z, h1h⟩ := Rule_open h2u
 refine R z (lN (vs := (vR x14 a1m n1n c1o a1p n1q c1r a1s n1t c1u a1v n1w c1x)) g_144 z_144 z z fid h2t) (E z (fa zero_144) ?_)
 rintro _ w30 ⟨rfl, h29⟩
 have h10 := h29.below
 have h31 : Blk w30 w17.z [(Str.v (⟨[]⟩ : Str)), vI 0, vI 0, vB false, sl none 0 0, sl none 0 0, sl none 0 0, sl none 0 0] := h29.blk
 refine E0 (fs (cur' := (vR x14 a1m n1n c1o a1p n1q c1r a1s n1t c1u a1v n1w c1x)) z_144 z z h31 z (lb z) (oA z) z) ?_
 rintro _ w1a ⟨h1i, s32⟩
 have h11 := s32.one
 refine Wn (Wq (Ws (Ra z (Wn ?_))))
 obtain ⟨u49, hu33, hm2a⟩ := bdS hm2s
 refine WC_forN (σ := Unit) (ρ := Bool) (fun (k1y : Nat) (_ : Unit) a w => Sat 58 [(1, vI x2), (2, pt w0.z), (5, pt w17.z), (6, (vI ((k1y : Nat) : Int)))] a ∧ Below w1a.z w1a w) (fun (_ : Unit) a w => Sat 58 [(1, vI x2), (2, pt w0.z), (5, pt w17.z)] a ∧ Below w1a.z w1a w) (fun r ex a w => ex = .ret ∧ RetPost prog fn (Q11 w0 B r) a w) hu33 ?_ ?_ ?_ ?_ ?_
 ·exact fun _ q => ⟨(q.k (s4 z z z z)), (br w1a)⟩
 ·rintro k1y _ a4a w4b o4c hk2b ⟨hS34, s1b⟩ hm35
  refine Wu ?_ hS34
  refine Wq (Ws (Rm z (Rm z (R z (lss z z) (Wn (Wc z (fun _ => ?_) (fun hc => (noltI hk2b hc).elim)))))))
  refine Wk (Wq (WC_block (Wq (WC_draw (X := noX) 0 (.rd 0 (.rd 1 (.rd 2 (.rd 3 (.rd 4 (.rd 5 (.rd 6 (.rd 7 (.rd 8 .done))))))))) mo (by kernel_rfl) fun w4d s1c _ => dR z z (fd f_95_0 z) (dR z z (l1 g_93 z fid (((((h1k.ext h10).chg h11 (djs (mm1 h1g.lt s13.size))).ext s1b).ext s1c).at z)) (dR z z (mv z) ?_))))))
  obtain ⟨x4e, e36, hm2c⟩ := bdS hm35
  have h2d := lt_ h15.size s13.size
  refine dRX z z (at_ (α := Rule) d_93 z_144 z z z ((((h1l.ext h10).chg h11 (lg (mem1le (lt_ hBw h2d)))).ext s1b).ext s1c) e36) ?_
  rintro _ ⟨b4f, o4g, cs4h, rfl, h37, h38, h4i⟩
  obtain ⟨a4j, n4k, c4l, a4m, n4n, c4o, a4p, n4q, c4r, a4s, n4t, c4u, rfl, h4v, h4w, h4x, h4y, h4z, h50, h51⟩ := Rule_open h38
  refine dR z z (fd f_144_0 z) (dR z z (l1 g_9 z fid (h37.at (j := 0) z)) (dR z z (fd f_144_0 z) (dR z z (l1 g_9 z fid (((h1i.ext s1b).ext s1c).at z)) (dR z z (rd_eqlT z z) (PR_done (Wo (Wc z (fun hc1z => ?_) (fun hc1z => ?_))))))))
  ·exact Ws (Ra z (Wn (Wr (rtO (QO_retL (som (ifT hm2c hc1z)).symm (ret1 hr z ⟨(bup (bup (bM (bup (bup h15 s13) h10) h11 (mem1le h2d)) s1b) s1c), z⟩))))))
  exact Wk (Wg (Rm z (R z (inc_ hk2b (toNat_le p2_0) z z) (Ra z (Wl (fun _ q => ⟨(), (som (ifF hm2c hc1z)).symm, ⟨(q.k (s4 z z z z)), (bup s1b s1c)⟩⟩))))))
 ·rintro _ a52 w53 ⟨hS39, s3a⟩
  refine Wu ?_ hS39
  refine Wq (Ws (Rm z (Rm z (R z (lss z z) (Wn (Wc z (fun hc => (nolttI hc).elim) (fun _ => ?_)))))))
  exact WC_exit (fun a' ha' => ⟨rfl, ⟨(Sat.weaken ha' (s3 z z z)), s3a⟩⟩)
 ·rintro _ a3b w1d rfl ⟨hS54, s12⟩
  have hm3c := elL hm2a
  revert a3b
  refine Wo (Wq (Ws (Ra z (Wn ?_))))
  obtain ⟨u55, hu3d, hm2e⟩ := bdS hm3c
  refine WC_forN (σ := Unit) (ρ := Bool) (fun (k20 : Nat) (_ : Unit) a w => Sat 58 [(1, vI x2), (2, pt w0.z), (5, pt w17.z), (7, (vI ((k20 : Nat) : Int)))] a ∧ Below w1d.z w1d w) (fun (_ : Unit) a w => Sat 58 [(2, pt w0.z), (5, pt w17.z)] a ∧ Below w1d.z w1d w) (fun r ex a w => ex = .ret ∧ RetPost prog fn (Q11 w0 B r) a w) hu3d ?_ ?_ ?_ ?_ ?_
  ·exact fun _ q => ⟨(q.k (s4 z z z z)), (br w1d)⟩
  ·rintro k20 _ a56 w57 o58 hk2f ⟨hS3e, s1e⟩ hm3f
   refine Wu ?_ hS3e
   refine Wq (Ws (Rm z (R z (fd f_144_7 z) ?_)))
   have h2g := (h1i.ext s12).ext s1e
   refine R z (l1 g_142 z fid (h2g.at z)) ?_
   have h21 := lt_ h15.size s13.size
   have h2h := (((h1h.ext h10).chg h11 (lg (mem1le (lt_ hBw h21)))).ext s12).ext s1e
   refine R z (lnR d_142 z h2h) (R z (lss z z) (Wn (Wc z (fun _ => ?_) (fun hc => (nolt hk2f hc).elim))))
   refine Wk (Wq (WC_block (Ws (R z (fd f_144_7 z) (R z (l1 g_142 z fid (h2g.at z)) (Rm z ?_))))))
   obtain ⟨x59, e3g, hm3h⟩ := bdS hm3f
   refine RX z (at_ (α := Int) d_142 z_3 z z z h2h e3g) ?_
   rintro _ ⟨b5a, o5b, cs5c, rfl, h3i, h3j, h5d⟩
   obtain ⟨rfl, h3k⟩ := Int_open h3j
   refine R z (l1 g_3 z fid (h3i.at0 z)) (Rm z (R z (sb_ z z) ?_))
   obtain ⟨r5e, e3l, hm2i⟩ := bdS hm3h
   refine E z (fc call97 z (W_w00 (B := B) e3l (lt_ hBw (lt_ (lt_ (lt_ (lt_ h21 h10.size) h11.size) s12.size) s1e.size)) h3k (ii z) (iS _ _))) ?_
   rintro _ w5f ⟨s2j, rfl⟩
   refine R z (not_ z) (Wn (Wc z (fun hc22 => ?_) (fun hc22 => ?_)))
   ·exact Ws (Ra z (Wn (Wr (rtO (QO_retL (som (ifT hm2i hc22)).symm (ret1 hr z ⟨(bup (bup (bup (bM (bup (bup h15 s13) h10) h11 (mem1le h21)) s12) s1e) s2j), z⟩))))))
   exact Wk (Wg (Rm z (R z (inc_ hk2f (lt_ (repS.len h1h) LEN_le) z z) (Ra z (Wl (fun _ q => ⟨(), (som (ifF hm2i hc22)).symm, ⟨(q.k (s4 z z z z)), (bup s1e s2j)⟩⟩))))))
  ·rintro _ a5g w5h ⟨hS3m, s23⟩
   refine Wu ?_ hS3m
   refine Wq (Ws (Rm z (R z (fd f_144_7 z) (R z (l1 g_142 z fid (((h1i.ext s12).ext s23).at z)) (R z (lnR d_142 z ((((h1h.ext h10).chg h11 (lg (mem1le (lt_ hBw (lt_ h15.size s13.size))))).ext s12).ext s23)) (R z (lss z z) (Wn (Wc z (fun hc => (noltt hc).elim) (fun _ => ?_)))))))))
   exact WC_exit (fun a' ha' => ⟨rfl, ⟨(Sat.weaken ha' (s2 z z)), s23⟩⟩)
  ·rintro _ a3n w2k rfl ⟨hS5i, s18⟩
   have hm3o := elL hm2e
   revert a3n
   refine Wo (Wq ?_)
   obtain ⟨u3p, hu3q, hm3r⟩ := bdS hm3o
   refine WC_cut (fun a w => ∃ (x24 : Bool), x24 = u3p ∧ Sat 58 [(4, vB x24)] a ∧ Below w2k.z w2k w) ?_ ?_
   ·refine Wg (R z (fd f_144_0 z) ?_)
    have h2l := (h1i.ext s12).ext s18
    refine R z (l1 g_9 z fid (h2l.at z)) ?_
    have h2m := lt_ h15.size s13.size
    have h2n := lt_ (lt_ (lt_ (lt_ h2m h10.size) h11.size) s12.size) s18.size
    obtain ⟨r3s, e3t, hm2o⟩ := bdS hu3q
    refine E z (fc call106 z (W_w0b (B := B) e3t (lt_ hBw h2n) h28)) ?_
    rintro _ w5j ⟨s16, rfl⟩
    refine Rm z ?_
    rcases bs r3s with hc19 | hc19
    ·refine Rh z hc19 (lN (vs := [sl A0 N0 C0]) g_95 z_95 z z fid ((((((h1k.ext h10).chg h11 (djs (mm1 h1g.lt s13.size))).ext s12).ext s18).ext s16).row 0 1 z)) (Rh z hc19 (lN (vs := (vR x14 a1m n1n c1o a1p n1q c1r a1s n1t c1u a1v n1w c1x)) g_144 z_144 z z fid ((h2l.ext s16).row 0 8 z)) ?_)
     have h1f := mem1le (lt_ hBw h2m)
     obtain ⟨r3u, e3v, hm3w⟩ := bdS (ifT hm2o hc19)
     refine Eg z z hc19 z (fc call145 z (W_w2a (B := B) e3v (lt_ hBw (lt_ h2n s16.size)) (((((h1l.ext h10).chg h11 (lg h1f)).ext s12).ext s18).ext s16) h28 h2v h2w (((((h2x.ext h10).chg h11 (lg h1f)).ext s12).ext s18).ext s16) (((((h2y.ext h10).chg h11 (lg h1f)).ext s12).ext s18).ext s16) (((((h2z.ext h10).chg h11 (lg h1f)).ext s12).ext s18).ext s16) (((((h1h.ext h10).chg h11 (lg h1f)).ext s12).ext s18).ext s16))) ?_
     rintro _ w5k ⟨s3x, rfl⟩
     exact R z (pT z hc19 z) (Ra z (Wl (fun _ q => ⟨r3u, som hm3w, (q.k (s1 z)), (bup s16 s3x)⟩)))
    iterate 3 refine Nh z hc19 ?_
    exact R z (pF z hc19 z) (Ra z (Wl (fun _ q => ⟨false, som (ifF hm2o hc19), (q.k (s1 z)), s16⟩)))
   rintro a3y w5l ⟨x24, rfl, hS5m, s3z⟩
   revert a3y
   refine Wo ?_
   obtain rfl := som hm3r
   exact Wr (ret1 hr z ⟨(bup (bup (bup (bM (bup (bup h15 s13) h10) h11 (mem1le (lt_ h15.size s13.size))) s12) s18) s3z), z⟩)
  rintro r5n ex5o a5p w5q rfl ⟨rfl, hq40⟩
  have hm41 := elR hm2e
  obtain rfl := som hm41
  exact ⟨hq40, z⟩
 rintro r5r ex5s a5t w5u rfl ⟨rfl, hq42⟩
 have hm43 := elR hm2a
 obtain rfl := som hm43
 exact ⟨hq42, z⟩
theorem W_w0u {x1 : Desc} {res : Bool} (hm : M_spec_IsValidDescription x1 = some res) (hBw : B ≤ w0.z) (p1_0 : repS w0 B (sl A0 N0 C0) x1.rules) : CallsR prog 99 [(.agg #[sl A0 N0 C0])] w0 (Q11 w0 B res) := by
 unfold M_spec_IsValidDescription at hm
 refine goF func99 z z (lb z) fun fn hr => Ws (E z (fb z) ?_)
 rintro _ w11 ⟨rfl, h19⟩
 have h10 := h19.below
 have h14 : Blk w11 w0.z [sl A0 N0 C0] := h19.blk
 refine Ra z (Wn (Wq (Ws (Ra z (Wn ?_)))))
 obtain ⟨u1s, hu1g, hm1a⟩ := bdS hm
 refine WC_forN (σ := Unit) (ρ := Bool) (fun (k15 : Nat) (_ : Unit) a w => Sat 19 [(1, pt w0.z), (3, (vI ((k15 : Nat) : Int)))] a ∧ Below w11.z w11 w) (fun (_ : Unit) a w => Sat 19 [(1, pt w0.z)] a ∧ Below w11.z w11 w) (fun r ex a w => ex = .ret ∧ RetPost prog fn (Q11 w0 B r) a w) hu1g ?_ ?_ ?_ ?_ ?_
 ·exact fun _ q => ⟨(q.k (s2 z z)), (br w11)⟩
 ·rintro k15 _ a1t w1u o1v hk16 ⟨hS1h, s12⟩ hm1i
  refine Wu ?_ hS1h
  refine Wq (Ws (Rm z (R z (fd f_95_0 z) ?_)))
  have h1b := h14.ext s12
  refine R z (l1 g_93 z fid (h1b.at z)) ?_
  have h1c := (p1_0.ext h10).ext s12
  refine R z (lnR d_93 z h1c) (R z (lss z z) (Wn (Wc z (fun _ => ?_) (fun hc => (nolt hk16 hc).elim))))
  refine Wk (Wq (WC_block (Ws (R z (lN (vs := [sl A0 N0 C0]) g_95 z_95 z z fid (h1b.row 0 1 z)) (Rm z ?_)))))
  obtain ⟨r1w, e1j, hm1d⟩ := bdS hm1i
  refine E z (fc call124 z (W_w2b (B := B) e1j (lt_ hBw (lt_ h10.size s12.size)) h1c (inI_cnt (Nat.le_of_lt hk16) (lt_ (repS.len p1_0) LEN_le)))) ?_
  rintro _ w1x ⟨s1e, rfl⟩
  refine R z (not_ z) (Wn (Wc z (fun hc17 => ?_) (fun hc17 => ?_)))
  ·exact Ws (Ra z (Wn (Wr (rtO (QO_retL (som (ifT hm1d hc17)).symm (ret1 hr z ⟨(bup (bup h10 s12) s1e), z⟩))))))
  exact Wk (Wg (Rm z (R z (inc_ hk16 (lt_ (repS.len p1_0) LEN_le) z z) (Ra z (Wl (fun _ q => ⟨(), (som (ifF hm1d hc17)).symm, ⟨(q.k (s2 z z)), (bup s12 s1e)⟩⟩))))))
 ·rintro _ a1y w1z ⟨hS1k, s18⟩
  refine Wu ?_ hS1k
  refine Wq (Ws (Rm z (R z (fd f_95_0 z) (R z (l1 g_93 z fid ((h14.ext s18).at z)) (R z (lnR d_93 z ((p1_0.ext h10).ext s18)) (R z (lss z z) (Wn (Wc z (fun hc => (noltt hc).elim) (fun _ => ?_)))))))))
  exact WC_exit (fun a' ha' => ⟨rfl, ⟨(Sat.weaken ha' (s1 z)), s18⟩⟩)
 ·rintro _ a1l w20 rfl ⟨hS21, s13⟩
  have hm1m := elL hm1a
  revert a1l
  refine Wo (Ws (R z (fd f_95_0 z) (R z (l1 g_93 z fid ((h14.ext s13).at z)) ?_)))
  have h1f := (p1_0.ext h10).ext s13
  refine R z (lnR d_93 z h1f) ?_
  obtain ⟨r22, e1n, hm1o⟩ := bdS hm1m
  refine E z (fc call97 z (W_w00 (B := B) e1n (lt_ hBw (lt_ h10.size s13.size)) (inI_len (repS.len h1f)) (ii z) (ii z))) ?_
  rintro _ w23 ⟨s1p, rfl⟩
  refine Ra z (Wn ?_)
  obtain rfl := som hm1o
  exact Wr (ret1 hr z ⟨(bup (bup h10 s13) s1p), z⟩)
 rintro r24 ex25 a26 w27 rfl ⟨rfl, hq1q⟩
 have hm1r := elR hm1a
 obtain rfl := som hm1r
 exact ⟨hq1q, z⟩
theorem W_w2c {x1 : Registry} {res : Bool} (hm : M_spec_IsValidRegistry x1 = some res) (hBw : B ≤ w0.z) (p1_0 : repS w0 B (sl A0 N0 C0) x1.versions) : CallsR prog 67 [(.agg #[sl A0 N0 C0])] w0 (Q11 w0 B res) := by
 unfold M_spec_IsValidRegistry at hm
 refine goF func67 z z (lb z) fun fn hr => Ws (E z (fb z) ?_)
 rintro _ w10 ⟨rfl, h18⟩
 have h11 := h18.below
 have h13 : Blk w10 w0.z [sl A0 N0 C0] := h18.blk
 refine Ra z (Wn (Wq (Ws (Ra z (Wn ?_)))))
 obtain ⟨u1w, hu1f, hm19⟩ := bdS hm
 refine WC_forN (σ := Unit) (ρ := Bool) (fun (k14 : Nat) (_ : Unit) a w => Sat 22 [(1, pt w0.z), (3, (vI ((k14 : Nat) : Int)))] a ∧ Below w10.z w10 w) (fun (_ : Unit) a w => Sat 22 [(1, pt w0.z)] a ∧ Below w10.z w10 w) (fun r ex a w => ex = .ret ∧ RetPost prog fn (Q11 w0 B r) a w) hu1f ?_ ?_ ?_ ?_ ?_
 ·exact fun _ q => ⟨(q.k (s2 z z)), (br w10)⟩
 ·rintro k14 _ a1x w1y o1z hk1a ⟨hS1g, s12⟩ hm1h
  refine Wu ?_ hS1g
  refine Wq (Ws (Rm z (R z (fd f_34_0 z) ?_)))
  have h1b := h13.ext s12
  refine R z (l1 g_32 z fid (h1b.at z)) ?_
  have h1c := (p1_0.ext h11).ext s12
  refine R z (lnR d_32 z h1c) (R z (lss z z) (Wn (Wc z (fun _ => ?_) (fun hc => (nolt hk1a hc).elim))))
  refine Wk (Wq (WC_block (Ws (R z (fd f_34_0 z) (R z (l1 g_32 z fid (h1b.at z)) (Rm z ?_))))))
  obtain ⟨x20, e1i, hm1j⟩ := bdS hm1h
  refine RX z (at_ (α := Desc) d_32 z_95 z z z h1c e1i) ?_
  rintro _ ⟨b21, o22, cs23, rfl, h1k, h1l, h24⟩
  obtain ⟨a1m, n1n, c1o, rfl, h1p⟩ := Desc_open h1l
  refine R z (lN (vs := [sl a1m n1n c1o]) g_95 z_95 z z fid h1k) ?_
  obtain ⟨r25, e1q, hm1d⟩ := bdS hm1j
  refine E z (fc call99 z (W_w0u (B := B) e1q (lt_ hBw (lt_ h11.size s12.size)) h1p)) ?_
  rintro _ w26 ⟨s1e, rfl⟩
  refine R z (not_ z) (Wn (Wc z (fun hc15 => ?_) (fun hc15 => ?_)))
  ·exact Ws (Ra z (Wn (Wr (rtO (QO_retL (som (ifT hm1d hc15)).symm (ret1 hr z ⟨(bup (bup h11 s12) s1e), z⟩))))))
  exact Wk (Wg (Rm z (R z (inc_ hk1a (lt_ (repS.len p1_0) LEN_le) z z) (Ra z (Wl (fun _ q => ⟨(), (som (ifF hm1d hc15)).symm, ⟨(q.k (s2 z z)), (bup s12 s1e)⟩⟩))))))
 ·rintro _ a27 w28 ⟨hS1r, s16⟩
  refine Wu ?_ hS1r
  refine Wq (Ws (Rm z (R z (fd f_34_0 z) (R z (l1 g_32 z fid ((h13.ext s16).at z)) (R z (lnR d_32 z ((p1_0.ext h11).ext s16)) (R z (lss z z) (Wn (Wc z (fun hc => (noltt hc).elim) (fun _ => ?_)))))))))
  exact WC_exit (fun a' ha' => ⟨rfl, ⟨(Sat.weaken ha' (s1 z)), s16⟩⟩)
 ·rintro _ a1s w29 rfl ⟨hS2a, s17⟩
  have hm1t := elL hm19
  revert a1s
  refine Wo (Ws (R z (fd f_34_0 z) (R z (l1 g_32 z fid ((h13.ext s17).at z)) (R z (lnR d_32 z ((p1_0.ext h11).ext s17)) (R z (rd_leq z z) (Ra z (Wn ?_)))))))
  obtain rfl := som hm1t
  exact Wr (ret1 hr z ⟨(bup h11 s17), z⟩)
 rintro r2b ex2c a2d w2e rfl ⟨rfl, hq1u⟩
 have hm1v := elR hm19
 obtain rfl := som hm1v
 exact ⟨hq1u, z⟩
theorem W_w0v {x1 : Desc} {res : Int} (hm : M_spec_RootOf x1 = some res) (hBw : B ≤ w0.z) (p1_0 : repS w0 B (sl A0 N0 C0) x1.rules) : CallsR prog 129 [(.agg #[sl A0 N0 C0])] w0 (Q0 w0 B res) := by
 unfold M_spec_RootOf at hm
 refine goF func129 z z (lb z) fun fn hr => Ws (E z (fb z) ?_)
 rintro _ w12 ⟨rfl, h10⟩
 have h11 := h10.below
 have h13 : Blk w12 w0.z [sl A0 N0 C0] := h10.blk
 refine Ra z (Wn (Ws (R z (fd f_95_0 z) (R z (l1 g_93 z fid (h13.at z)) (R z (lnR d_93 z (p1_0.ext h11)) (R z (sb_ z z) (Ra z (Wn ?_))))))))
 obtain rfl := som hm
 exact Wr (ret1 hr z ⟨h11, z, (iS _ _)⟩)
theorem W_w2d {x1 : Desc} {x2 : Int} {res : Bool} (hm : M_spec_l7Rule x1 x2 = some res) (hBw : B ≤ w0.z) (p1_0 : repS w0 B (sl A0 N0 C0) x1.rules) (p2_0 : inI x2) : CallsR prog 146 [(.agg #[sl A0 N0 C0]), vI x2] w0 (Q11 w0 B res) := by
 unfold M_spec_l7Rule at hm
 refine goF func146 z z (lb z) fun fn hr => Ws (E z (fb z) ?_)
 rintro _ w13 ⟨rfl, h15⟩
 have h12 := h15.below
 have h16 : Blk w13 w0.z [sl A0 N0 C0] := h15.blk
 refine Ra z (Wn (Wq ?_))
 obtain ⟨u19, hu1a, hm1b⟩ := bdS hm
 refine WC_cut (fun a w => ∃ (x14 : Bool), x14 = u19 ∧ Sat 15 [(4, vB x14)] a ∧ Below w13.z w13 w) ?_ ?_
 ·refine Wg (Rm z (R z (fd f_95_0 z) (R z (l1 g_93 z fid (h16.at z)) ?_)))
  have h17 := p1_0.ext h12
  refine R z (lnR d_93 z h17) (R z (sb_ z z) ?_)
  obtain ⟨r1c, e1d, hm18⟩ := bdS hu1a
  refine E z (fc call97 z (W_w00 (B := B) e1d (lt_ hBw h12.size) p2_0 (ii z) (iS _ _))) ?_
  rintro _ w1k ⟨s11, rfl⟩
  refine Rm z ?_
  rcases bs r1c with hc10 | hc10
  ·refine Rh z hc10 (lN (vs := [sl A0 N0 C0]) g_95 z_95 z z fid ((h16.ext s11).row 0 1 z)) ?_
   obtain ⟨r1e, e1f, hm1g⟩ := bdS (ifT hm18 hc10)
   refine Eg z z hc10 z (fc call99 z (W_w0u (B := B) e1f (lt_ hBw (lt_ h12.size s11.size)) (h17.ext s11))) ?_
   rintro _ w1l ⟨s1h, rfl⟩
   exact R z (pT z hc10 z) (Ra z (Wl (fun _ q => ⟨r1e, som hm1g, (q.k (s1 z)), (bup s11 s1h)⟩)))
  exact Nh z hc10 (Nh z hc10 (R z (pF z hc10 z) (Ra z (Wl (fun _ q => ⟨false, som (ifF hm18 hc10), (q.k (s1 z)), s11⟩)))))
 rintro a1i w1m ⟨x14, rfl, hS1n, s1j⟩
 revert a1i
 refine Wo ?_
 obtain rfl := som hm1b
 exact Wr (ret1 hr z ⟨(bup h12 s1j), z⟩)
def Q16 (w0 : World) (B : Nat) (r : Int × Int × Bool) (v : Value) (w' : World) : Prop := Bw w0 w' ∧ un3 (fun r1 r2 r3 => v = .tuple #[vI r1, vI r2, vB r3] ∧ inI r1 ∧ inI r2) r
theorem W_w0d {x1 : Desc} {x2 : Int} {x3 : List UInt8} {x4 : Int} {res : Int × Int × Bool} (hm : M_spec_l11Integer x1 x2 x3 x4 = some res) (hBw : B ≤ w0.z) (p1_0 : repS w0 B (sl A0 N0 C0) x1.rules) (p2_0 : inI x2) (p3_0 : repS w0 B (sl A7 N7 C7) x3) (p4_0 : inI x4) : CallsR prog 166 [(.agg #[sl A0 N0 C0]), vI x2, sl A7 N7 C7, vI x4] w0 (Q16 w0 B res) := by
 unfold M_spec_l11Integer at hm
 refine goF func166 z z (lb z) fun fn hr => Ws (E z (fb z) ?_)
 rintro _ w17 ⟨rfl, h18⟩
 have h10 := h18.below
 have h1p : Blk w17 w0.z [sl A0 N0 C0] := h18.blk
 refine Ra z (Ra z (Ra z (Wn (Ws (R z (fd f_95_0 z) (R z (l1 g_93 z fid (h1p.at z)) (Rm z ?_)))))))
 obtain ⟨x11, e1q, hm19⟩ := bdS hm
 refine RX z (at_ (α := Rule) d_93 z_144 z z z (p1_0.ext h10) e1q) ?_
 rintro _ ⟨b23, o24, cs25, rfl, h1r, h1s, h26⟩
 obtain ⟨a1a, n1b, c1c, a1d, n1e, c1f, a1g, n1h, c1i, a1j, n1k, c1l, rfl, h27, h28, h29, h2a, h2b, h2c, h2d⟩ := Rule_open h1s
 refine R z (lN (vs := (vR x11 a1a n1b c1c a1d n1e c1f a1g n1h c1i a1j n1k c1l)) g_144 z_144 z z fid h1r) (E z (fa zero_144) ?_)
 rintro _ w1t ⟨rfl, h1m⟩
 have h12 := h1m.below
 have h1u : Blk w1t w17.z [(Str.v (⟨[]⟩ : Str)), vI 0, vI 0, vB false, sl none 0 0, sl none 0 0, sl none 0 0, sl none 0 0] := h1m.blk
 refine E0 (fs (cur' := (vR x11 a1a n1b c1c a1d n1e c1f a1g n1h c1i a1j n1k c1l)) z_144 z z h1u z (lb z) (oA z) z) ?_
 rintro _ w2e ⟨h1n, s1v⟩
 have h13 := s1v.one
 refine Wn (Wq (Ws (Rm z ?_)))
 have h1o := ((p3_0.ext h10).ext h12).chg h13 (lg (mem1le (lt_ hBw h10.size)))
 refine R z (lnR d_25 z h1o) (Rm z (R z (sb_ z z) (R z (fd f_144_2 z) (R z (l1 g_3 z fid (h1n.at z)) (R z (lss z z) (Wn (Wc z (fun hc15 => ?_) (fun hc15 => ?_))))))))
 ·refine Ws (Rm z (Ra z (Ra z (Ra z (Wn ?_)))))
  obtain rfl := som (ifT hm19 hc15)
  exact Wr (ret3 hr z z z ⟨(bM (bup h10 h12) h13 (mem1le h10.size)), z, (ii z), p4_0⟩)
 refine Wk (Wq (WC_draw (X := noX) 0 (.rd 0 (.rd 1 (.rd 2 (.rd 3 (.rd 4 (.rd 5 (.rd 6 (.rd 7 (.rd 8 (.rd 10 (.rd 11 (.rd 12 (.rd 13 (.ef 9 (.rd 14 (.rd 15 (.rd 16 .done))))))))))))))))) mo (by kernel_rfl) fun w2f s14 _ => ?_))
 iterate 3 refine dR z z (mv z) ?_
 refine dR z z (fd f_144_2 z) ?_
 have h16 := h1n.ext s14
 refine dR z z (l1 g_3 z fid (h16.at z)) (dR z z (add_ z z) ?_)
 obtain ⟨x2g, e1w, hm1x⟩ := bdS (ifF hm19 hc15)
 refine dRX z z (rd_sliceX d_25 z_5 z z (h1o.ext s14) z z e1w) ?_
 rintro _ ⟨a2h, n2i, c2j, rfl, h1y⟩
 refine dR z z (fd f_144_3 z) (dR z z (l1 g_4 z fid (h16.at z)) (dR z z (mv z) (dR z z (fd f_144_2 z) (dR z z (l1 g_3 z fid (h16.at z)) (dR z z (add_ z z) ?_)))))
 obtain ⟨r2k, e1z, hm20⟩ := bdS hm1x
 refine dE z z (fc call125 z (W_w0o (B := B) e1z (lt_ hBw (lt_ (lt_ (lt_ h10.size h12.size) h13.size) s14.size)) h1y)) (.inr fun _ _ h => chgB (h.1)) ?_
 rintro _ w2l ⟨s21, rfl, h22⟩
 iterate 3 refine dR z z (asg z) ?_
 refine PR_done (Wo ?_)
 obtain rfl := som hm20
 exact Wr (ret3 hr z z z ⟨(bup (bup (bM (bup h10 h12) h13 (mem1le h10.size)) s14) s21), z, h22, (iA _ _)⟩)
def Q17 (w0 : World) (B : Nat) (r : Val × Int × Int) (v : Value) (w' : World) : Prop := Bw w0 w' ∧ un3 (fun r1 r2 r3 => ∃ a1 n1 c1 S1 a2 n2 c2 S2, v = .tuple #[(.agg #[vI r1.number, sl a1 n1 c1, sl a2 n2 c2]), vI r2, vI r3] ∧ inI r1.number ∧ ownS w' S1 (sl a1 n1 c1) r1.bytes ∧ ownS w' S2 (sl a2 n2 c2) r1.items ∧ inI r2 ∧ inI r3 ∧ (S1 ++ S2).Nodup ∧ (∀ k ∈ (S1 ++ S2), w0.z ≤ k)) r
theorem W_w2e {x1 : Rule} {x2 : List UInt8} {x3 : Int} {res : Val × Int × Int} (hm : M_spec_l11Const x1 x2 x3 = some res) (hBw : B ≤ w0.z) (p1_0 : x1.name.b.length ≤ LEN) (p1_1 : inI x1.kind) (p1_2 : inI x1.size) (p1_4 : repS w0 B (sl A9 N9 C9) x1.bytes) (p1_5 : repS w0 B (sl A8 N8 C8) x1.names) (p1_6 : repS w0 B (sl AA NA CA) x1.tags) (p1_7 : repS w0 B (sl AB NB CB) x1.kids) (p2_0 : repS w0 B (sl A6 N6 C6) x2) (p3_0 : inI x3) : CallsR prog 167 [(.agg #[Str.v x1.name, vI x1.kind, vI x1.size, vB x1.little, sl A9 N9 C9, sl A8 N8 C8, sl AA NA CA, sl AB NB CB]), sl A6 N6 C6, vI x3] w0 (Q17 w0 B res) := by
 unfold M_spec_l11Const at hm
 refine goF func167 z z (lb z) fun fn hr => Ws (E z (fb z) ?_)
 rintro _ w13 ⟨rfl, h1e⟩
 have h10 := h1e.below
 have h16 : Blk w13 w0.z (vR x1 A9 N9 C9 A8 N8 C8 AA NA CA AB NB CB) := h1e.blk
 refine E z (fa zero_118) ?_
 rintro _ w14 ⟨rfl, h1f⟩
 have h11 := h1f.below
 have h19 : Blk w14 w13.z [vI 0, sl none 0 0, sl none 0 0] := h1f.blk
 refine Ra z (Ra z (Wn (Wq (Ws (Ra z (Wn ?_))))))
 obtain ⟨u27, hu1n, hm1g⟩ := bdS hm
 refine WC_forN (σ := Unit) (ρ := Val × Int × Int) (fun (k1a : Nat) (_ : Unit) a w => Sat 47 [(1, sl A6 N6 C6), (2, vI x3), (3, pt w0.z), (6, pt w13.z), (9, (vI ((k1a : Nat) : Int)))] a ∧ Below w14.z w14 w) (fun (_ : Unit) a w => Sat 47 [(2, vI x3), (3, pt w0.z), (6, pt w13.z)] a ∧ Below w14.z w14 w) (fun r ex a w => ex = .ret ∧ RetPost prog fn (Q17 w0 B r) a w) hu1n ?_ ?_ ?_ ?_ ?_
 ·exact fun _ q => ⟨(q.k (s5 z z z z z)), (br w14)⟩
 ·rintro k1a _ a28 w29 o2a hk1h ⟨hS1o, s12⟩ hm1i
  refine Wu ?_ hS1o
  refine Wq (Ws (Rm z (R z (fd f_144_4 z) ?_)))
  have h1j := (h16.ext h11).ext s12
  refine R z (l1 g_25 z fid (h1j.at z)) ?_
  have h1k := ((p1_4.ext h10).ext h11).ext s12
  refine R z (lnR d_25 z h1k) (R z (lss z z) (Wn (Wc z (fun _ => ?_) (fun hc => (nolt hk1h hc).elim))))
  refine Wk (Wq (WC_block (Wq (Ws (Rm z (Rm z (R z (add_ z z) (Rm z ?_))))))))
  have h1l := ((p2_0.ext h10).ext h11).ext s12
  refine R z (lnR d_25 z h1l) (R z (rd_geq z z) (Wn (Wc z (fun hc1b => ?_) (fun hc1b => ?_))))
  ·refine Ws (R z (bP (parts := []) (cs := [vI 0, sl none 0 0, sl none 0 0]) build_118 z z) (Rm z (E0 (fs (cur' := [vI 0, sl none 0 0, sl none 0 0]) z_118 z z (h19.ext s12) z (lb z) (oA z) z) ?_)))
   rintro _ w2b ⟨h1p, s1q⟩
   exact Ra z (Ra z (Wn (Wr (rtO (QO_retL (som (ifT hm1i hc1b)).symm (ret3 hr (resC g_118 z_118 z h1p z) z z ⟨(bM (bup (bup h10 h11) s12) s1q.one (mem1le h10.size)), none, 0, 0, [], none, 0, 0, [], z, (ii z), onL, onL, p3_0, (ii z), nd0, al0⟩))))))
  refine Wk (Wq (WC_draw (X := noX) 0 (.rd 0 (.rd 1 (.rd 2 (.rd 3 (.rd 4 (.rd 5 (.rd 6 (.rd 7 (.rd 8 (.rd 9 (.rd 10 (.rd 11 .done)))))))))))) mo (by kernel_rfl) fun w2c s15 _ => ?_))
  iterate 3 refine dR z z (mv z) ?_
  refine dR z z (add_ z z) ?_
  obtain ⟨x2d, e1r, hm1s⟩ := bdS (ifF hm1i hc1b)
  refine dRX z z (at_ (α := UInt8) d_25 z_5 z z z (h1l.ext s15) e1r) ?_
  rintro _ ⟨b2e, o2f, cs2g, rfl, h1t, h1u, h2h⟩
  obtain rfl := UInt8_open h1u
  refine dR z z (l1 g_5 z fid (h1t.at0 z)) (dR z z (fd f_144_4 z) (dR z z (l1 g_25 z fid ((h1j.ext s15).at z)) (dR z z (mv z) ?_)))
  obtain ⟨x2i, e1v, hm1m⟩ := bdS hm1s
  refine dRX z z (at_ (α := UInt8) d_25 z_5 z z z (h1k.ext s15) e1v) ?_
  rintro _ ⟨b2j, o2k, cs2l, rfl, h1w, h1x, h2m⟩
  obtain rfl := UInt8_open h1x
  refine dR z z (l1 g_5 z fid (h1w.at0 z)) (dR z z (nq z z) (PR_done (Wo (Wc z (fun hc1c => ?_) (fun hc1c => ?_)))))
  ·refine Ws (R z (bP (parts := []) (cs := [vI 0, sl none 0 0, sl none 0 0]) build_118 z z) (Rm z (Rm z (R z (add_ z z) (E0 (fs (cur' := [vI 0, sl none 0 0, sl none 0 0]) z_118 z z ((h19.ext s12).ext s15) z (lb z) (oA z) z) ?_)))))
   rintro _ w2n ⟨h1y, s1z⟩
   exact Ra z (Ra z (Wn (Wr (rtO (QO_retL (som (ifT hm1m hc1c)).symm (ret3 hr (resC g_118 z_118 z h1y z) z z ⟨(bM (bup (bup (bup h10 h11) s12) s15) s1z.one (mem1le h10.size)), none, 0, 0, [], none, 0, 0, [], z, (ii z), onL, onL, (iA _ _), (ii z), nd0, al0⟩))))))
  exact Wk (Wg (Rm z (R z (inc_ hk1h (lt_ (repS.len p1_4) LEN_le) z z) (Ra z (Wl (fun _ q => ⟨(), (som (ifF hm1m hc1c)).symm, ⟨(q.k (s5 z z z z z)), (bup s12 s15)⟩⟩))))))
 ·rintro _ a2o w2p ⟨hS20, s1d⟩
  refine Wu ?_ hS20
  refine Wq (Ws (Rm z (R z (fd f_144_4 z) (R z (l1 g_25 z fid (((h16.ext h11).ext s1d).at z)) (R z (lnR d_25 z (((p1_4.ext h10).ext h11).ext s1d)) (R z (lss z z) (Wn (Wc z (fun hc => (noltt hc).elim) (fun _ => ?_)))))))))
  exact WC_exit (fun a' ha' => ⟨rfl, ⟨(Sat.weaken ha' (s3 z z z)), s1d⟩⟩)
 ·rintro _ a21 w2q rfl ⟨hS2r, s17⟩
  have hm22 := elL hm1g
  revert a21
  refine Wo (Wq (WC_draw (X := (· ∈ [w13.z])) 0 (.rd 0 (.rd 1 (.rd 2 (.rd 3 (.rd 4 (.rd 5 (.ef 6 (.rd 7 (.rd 8 .done))))))))) mo (by kernel_rfl) fun w2s s18 _ => dR z z (bP (parts := []) (cs := [vI 0, sl none 0 0, sl none 0 0]) build_118 z z) (dR z z (mv z) (dR z z (fd f_144_4 z) (dR z z (l1 g_25 z (djs (mmr h16.lt)) ((((h16.ext h11).ext s17).ext s18).at z)) (dR z z (lnR d_25 z ((((p1_4.ext h10).ext h11).ext s17).ext s18)) (dR z z (add_ z z) (dE0 z (fs (cur' := [vI 0, sl none 0 0, sl none 0 0]) z_118 z z ((h19.ext s17).ext s18) z (lb z) (oA z) z) (.inr fun _ _ h => chgIn (List.mem_singleton.2 z) h.2) ?_))))))))
  rintro _ w2t ⟨h23, s24⟩
  refine dR z z (asg z) (dR z z (asg z) (PR_done (Wo ?_)))
  obtain rfl := som hm22
  exact Wr (ret3 hr (resC g_118 z_118 z h23 z) z z ⟨(bM (bup (bup (bup h10 h11) s17) s18) s24.one (mem1le h10.size)), none, 0, 0, [], none, 0, 0, [], z, (ii z), onL, onL, (iA _ _), (ii z), nd0, al0⟩)
 rintro r2u ex2v a2w w2x rfl ⟨rfl, hq25⟩
 have hm26 := elR hm1g
 obtain rfl := som hm26
 exact ⟨hq25, z⟩
theorem W_w0w {x1 : List UInt8} {x2 : Int} {x3 : Int} {res : Val × Int × Int} (hm : M_spec_l11Bytes x1 x2 x3 = some res) (hBw : B ≤ w0.z) (p1_0 : repS w0 B (sl A0 N0 C0) x1) (p2_0 : inI x2) (p3_0 : inI x3) : CallsR prog 168 [sl A0 N0 C0, vI x2, vI x3] w0 (Q17 w0 B res) := by
 unfold M_spec_l11Bytes at hm
 refine goF func168 z z (lb z) fun fn hr => Ws (E z (fa zero_118) ?_)
 rintro _ w1f ⟨rfl, h17⟩
 have h10 := h17.below
 have h12 : Blk w1f w0.z [vI 0, sl none 0 0, sl none 0 0] := h17.blk
 refine Ra z (Ra z (Wn (Wq (Ws (Rm z ?_)))))
 have h18 := p1_0.ext h10
 refine R z (lnR d_25 z h18) (Rm z (R z (sb_ z z) (Rm z (R z (lss z z) (Wn (Wc z (fun hc13 => ?_) (fun hc13 => ?_)))))))
 ·refine Ws (R z (bP (parts := []) (cs := [vI 0, sl none 0 0, sl none 0 0]) build_118 z z) (Rm z (E0 (fs (cur' := [vI 0, sl none 0 0, sl none 0 0]) z_118 z z h12 z (lb z) (oA z) z) ?_)))
  rintro _ w1t ⟨h1g, s1h⟩
  refine Ra z (Ra z (Wn ?_))
  obtain rfl := som (ifT hm hc13)
  exact Wr (ret3 hr (resC g_118 z_118 z h1g z) z z ⟨(bM h10 s1h.one (mem1 lr)), none, 0, 0, [], none, 0, 0, [], z, (ii z), onL, onL, p2_0, (ii z), nd0, al0⟩)
 refine Wk (Ws (E z (ef_lit0 (α := UInt8) el_25) ?_))
 rintro _ w1u ⟨a1v, n1w, c1x, rfl, s11, h1i⟩
 refine Rm z (Rm z (Rm z (Rm z (R z (add_ z z) ?_))))
 obtain ⟨x1y, e1j, hm1k⟩ := bdS (ifF hm hc13)
 refine RX z (rd_sliceX d_25 z_5 z z (h18.ext s11) z z e1j) ?_
 rintro _ ⟨a1z, n20, c21, rfl, h1l⟩
 obtain ⟨x22, e1m, hm1n⟩ := bdS hm1k
 refine E z (ef_appendN (α := UInt8) el_25 e1m z z h1i nd_one h1l) ?_
 rintro _ w23 ⟨S19, a14, n15, c16, rfl, s1a, h1o, h1p, h1b⟩
 refine R z (bP (parts := [(1, (.tmp 24))]) (cs := [vI 0, sl a14 n15 c16, sl none 0 0]) build_118 z z) (Rm z (Rm z (R z (add_ z z) ?_)))
 have h1c := mmr h12.lt
 refine E0 (fs (cur' := [vI 0, sl a14 n15 c16, sl none 0 0]) z_118 z z ((h12.ext s11).chg s1a (djs h1c)) z (lb z) (oA z) z) ?_
 rintro _ w24 ⟨h1q, s1r⟩
 have h1d := s1r.one
 refine Ra z (Ra z (Wn ?_))
 obtain rfl := som hm1n
 have h1s : ∀ k ∈ S19, k ∉ [w0.z] := or1 h1b h1c (ltnot (mem1 h12.lt) s11.size)
 have h1e := mem1le h10.size
 exact Wr (ret3 hr (resC g_118 z_118 z h1q z) z z ⟨(bM (bM (bup h10 s11) s1a h1e) h1d (mem1 lr)), a14, n15, c16, S19, none, 0, 0, [], z, (ii z), (h1o.chg h1d h1s), onL, (iA _ _), (ii z), (nd_app h1p nd_nil (nmN _)), (all_app (o1le h1b h1e (lt_ h10.size s11.size)) all_nil)⟩)
def Q18 (w0 : World) (B : Nat) (r : (List UInt8) × Int × Bool) (v : Value) (w' : World) : Prop := Bw w0 w' ∧ un3 (fun r1 r2 r3 => ∃ a1 n1 c1 S1, v = .tuple #[sl a1 n1 c1, vI r2, vB r3] ∧ ownS w' S1 (sl a1 n1 c1) r1 ∧ inI r2 ∧ S1.Nodup ∧ (∀ k ∈ S1, w0.z ≤ k)) r
theorem W_w2f {x1 : List UInt8} {x2 : Int} {x3 : UInt8} {res : (List UInt8) × Int × Bool} (hm : M_spec_ReadTerminated n x1 x2 x3 = some res) (hBw : B ≤ w0.z) (p1_0 : repS w0 B (sl A0 N0 C0) x1) (p2_0 : inI x2) : CallsR prog 169 [sl A0 N0 C0, vI x2, vU (byteI x3)] w0 (Q18 w0 B res) := by
 unfold M_spec_ReadTerminated at hm
 refine goF func169 z z (lb z) fun fn hr => Ws (Ra z (Ra z (Ra z (Wn (Ws (E z (ef_lit0 (α := UInt8) el_25) ?_))))))
 rintro _ w10 ⟨a25, n26, c27, rfl, s19, h28⟩
 refine Ra z (Wn (Wq (Ws (Rm z (Ra z (Wn ?_))))))
 obtain ⟨u3y, hu29, hm1t⟩ := bdS hm
 refine WC_iter (σ := (List UInt8) × Int) (ρ := (List UInt8) × Int × Bool) (fun s a w => un2 (fun x1b x15 => ∃ a12 n13 c14 S11, Sat 54 [(0, sl A0 N0 C0), (1, vI x2), (2, vU (byteI x3)), (9, sl a12 n13 c14), (10, vI x15)] a ∧ Chg (· ∈ [w0.z]) w10 w ∧ ownS w S11 (sl a12 n13 c14) x1b ∧ S11.Nodup ∧ (∀ k ∈ S11, k ∈ [w0.z] ∨ w10.z ≤ k) ∧ inI x15) s) (fun s a w => un2 (fun x1b x15 => ∃ a12 n13 c14 S11, Sat 54 [(1, vI x2)] a ∧ Chg (· ∈ [w0.z]) w10 w ∧ ownS w S11 (sl a12 n13 c14) x1b ∧ S11.Nodup ∧ (∀ k ∈ S11, k ∈ [w0.z] ∨ w10.z ≤ k) ∧ inI x15) s) (fun r ex a w => ex = .ret ∧ RetPost prog fn (Q18 w0 B r) a w) hu29 ?_ ?_ ?_ ?_
 ·exact fun _ q => ⟨a25, n26, c27, [w0.z], (q.k (s5 z z z z z)), (cr [w0.z] w10), h28, nd_one, (io sr), p2_0⟩
 ·rintro ⟨x1b, x15⟩ a3z w1c o40 ⟨a12, n13, c14, S11, hS2a, s18, h1d, h1e, h1f, h1j⟩ hm2b
  have hm2c := un2S hm2b
  refine Wu ?_ hS2a
  refine Wq (Wq ?_)
  obtain ⟨u2d, hu2e, hm1u⟩ := bdS hm2c
  refine WC_cut (fun a w => ∃ (x1k : Bool), x1k = u2d ∧ Sat 54 [(0, sl A0 N0 C0), (1, vI x2), (2, vU (byteI x3)), (9, sl a12 n13 c14), (10, vI x15), (22, vB x1k)] a ∧ Below w1c.z w1c w) ?_ ?_
  ·refine Wg (Rm z (Rm z ?_))
   have h1l := (p1_0.ext s19).chg s18 (lg (mem1le hBw))
   refine R z (lnR d_25 z h1l) ?_
   obtain ⟨r2f, e2g, hm1v⟩ := bdS hu2e
   refine E z (fc call97 z (W_w00 (B := B) e2g (lt_ hBw (lt_ s19.size s18.size)) p2_0 (ii z) (inI_len (repS.len h1l)))) ?_
   rintro _ w41 ⟨s1m, rfl⟩
   refine Rm z ?_
   rcases bs r2f with hc16 | hc16
   ·exact Rh z hc16 (mv z) (Rh z hc16 (mv z) (Rh z hc16 (lnR d_25 z (h1l.ext s1m)) (Rh z hc16 (lss z z) (R z (pT z hc16 z) (Wl (fun _ q => ⟨decide (x15 < (x1.length : Int)), som (ifT hm1v hc16), (q.k (s6 z z z z z z)), s1m⟩))))))
   iterate 4 refine Nh z hc16 ?_
   exact R z (pF z hc16 z) (Wl (fun _ q => ⟨false, som (ifF hm1v hc16), (q.k (s6 z z z z z z)), s1m⟩))
  rintro a2h w1a ⟨x1k, rfl, hS42, s17⟩
  revert a2h
  refine Wo (Wc z (fun hc1n => ?_) (fun hc1n => ?_))
  ·refine Wk (Wq (WC_block (Wq (Ws (Rm z (Rm z ?_))))))
   obtain ⟨x43, e2i, hm1w⟩ := bdS (ifT hm1u hc1n)
   have h1h := ((p1_0.ext s19).chg s18 (lg (mem1le hBw))).ext s17
   refine RX z (at_ (α := UInt8) d_25 z_5 z z z h1h e2i) ?_
   rintro _ ⟨b44, o45, cs46, rfl, h2j, h2k, h47⟩
   obtain rfl := UInt8_open h2k
   refine R z (l1 g_5 z fid (h2j.at0 z)) (Rm z (R z (eql z z) (Wn (Wc z (fun hc1o => ?_) (fun hc1o => ?_)))))
   ·refine Ws (Rm z (Rm z (R z (add_ z z) (Ra z (Ra z (Ra z (Wn ?_)))))))
    have h2l : ∀ k ∈ S11, w0.z ≤ k := or1 h1f (mem1 lr) (lele s19.size)
    exact Wr (rtO (QO_retL (som (ifT hm1w hc1o)).symm (ret3 hr z z z ⟨(bup (bM s19 s18 (mem1 lr)) s17), a12, n13, c14, S11, z, (h1d.ext s17), (iA _ _), h1e, h2l⟩)))
   refine Wk (Wq (Ws (Rm z (Rm z ?_))))
   obtain ⟨x48, e2m, hm2n⟩ := bdS (ifF hm1w hc1o)
   refine RX z (at_ (α := UInt8) d_25 z_5 z z z h1h e2m) ?_
   rintro _ ⟨b49, o4a, cs4b, rfl, h2o, h2p, h4c⟩
   obtain rfl := UInt8_open h2p
   refine R z (l1 g_5 z fid (h2o.at0 z)) (R z (eql z z) (Wn ?_))
   obtain ⟨u2q, hu1x, hm1y⟩ := bdS hm2n
   refine WC_cut (fun a w => ∃ (x1g : Int), Sum.inl x1g = u2q ∧ Sat 54 [(0, sl A0 N0 C0), (1, vI x2), (2, vU (byteI x3)), (9, sl a12 n13 c14), (10, vI x1g)] a ∧ Below w1a.z w1a w ∧ inI x1g) ?_ ?_
   ·refine Wc z (fun hc1p => ?_) (fun hc1p => ?_)
    ·have hm1z := ifT hu1x hc1p
     refine Ws (Rm z (R z (add_ z z) (Ra z (Wn (Ws (Rm z (Rm z (R z (lnR d_25 z h1h) (R z (eql z z) (Wn (Wc z (fun hc1q => ?_) (fun hc1q => ?_))))))))))))
     ·obtain rfl := som (ifT hm1z hc1q)
      have hm2r := elR hm1y
      have h2s : ∀ k ∈ S11, k ∈ [w0.z] ∨ w10.z ≤ k := or1 h1f (io sr) (leor lr)
      have h2t : Chg (· ∈ [w0.z]) w10 w1c := cM (cr [w0.z] w10) s18 (io sr)
      have h2u : Chg (· ∈ [w0.z]) w10 w1a := cext h2t s17
      exact WC_exit (exO z (fun a' ha' => QO_brk (som hm2r).symm ⟨a12, n13, c14, S11, (Sat.weaken ha' (s1 z)), h2u, (h1d.ext s17), h1e, h2s, (iA _ _)⟩))
     exact WC_skip (fun _ q => ⟨iadd x15 1, som (ifF hm1z hc1q), (q.k (s5 z z z z z)), (br w1a), (iA _ _)⟩)
    exact WC_skip (fun _ q => ⟨x15, som (ifF hu1x hc1p), (q.k (s5 z z z z z)), (br w1a), h1j⟩)
   rintro a2v w20 ⟨x1g, rfl, hS4d, s1i, h4e⟩
   have hm2w := elL hm1y
   revert a2v
   refine Wo (Wg (Rm z (Rm z (Rm z ?_))))
   obtain ⟨x2x, e2y, hm2z⟩ := bdS hm2w
   refine RX z (at_ (α := UInt8) d_25 z_5 z z z (h1h.ext s1i) e2y) ?_
   rintro _ ⟨b4f, o4g, cs4h, rfl, h30, h31, h4i⟩
   obtain rfl := UInt8_open h31
   refine R z (l1 g_5 z fid (h30.at0 z)) (E z (ef_buildSlice [(.tmp 49)] el_25 z z z (szAll z) (lb z) (lb z)) ?_)
   rintro _ w21 ⟨rfl, h1r⟩
   have h1s := h1r.below
   have h32 : Blk w21 w20.z [vU (byteI x2x)] := h1r.blk
   have h4j := ownS_new1 h1r UInt8_own
   obtain ⟨x33, e34, hm35⟩ := bdS hm2z
   refine E z (ef_pushN (α := UInt8) el_25 e34 z z (((h1d.ext s17).ext s1i).ext h1s) h1e h32 UInt8_own all_nil nd_nil) ?_
   rintro _ w36 ⟨S22, a37, n38, c39, rfl, s3a, h3b, h3c, h3d⟩
   refine Ra z (Wn (Wg (Rm z (R z (add_ z z) (Ra z (Wl ?_))))))
   have h23 : ∀ k ∈ S11, k ∈ [w0.z] ∨ w10.z ≤ k := or1 h1f (io sr) (leor lr)
   have h3e : ∀ k ∈ S22, k ∈ [w0.z] ∨ w10.z ≤ k := or2 h3d h23 all_nil (leor (lt_ (lt_ (lt_ s18.size s17.size) s1i.size) h1s.size))
   have h3f : Chg (· ∈ [w0.z]) w10 w1c := cM (cr [w0.z] w10) s18 (io sr)
   have h3g : Chg (· ∈ [w0.z]) w10 w1a := cext h3f s17
   have h3h : Chg (· ∈ [w0.z]) w10 w20 := cext h3g s1i
   have h3i : Chg (· ∈ [w0.z]) w10 w21 := cext h3h h1s
   have h3j : Chg (· ∈ [w0.z]) w10 w36 := cM h3i s3a h23
   exact fun _ q => ⟨(x33, iadd x1g 1), (som hm35).symm, ⟨a37, n38, c39, S22, (q.k (s5 z z z z z)), h3j, h3b, h3c, h3e, (iA _ _)⟩⟩
  have h3k : ∀ k ∈ S11, k ∈ [w0.z] ∨ w10.z ≤ k := or1 h1f (io sr) (leor lr)
  have h3l : Chg (· ∈ [w0.z]) w10 w1c := cM (cr [w0.z] w10) s18 (io sr)
  have h3m : Chg (· ∈ [w0.z]) w10 w1a := cext h3l s17
  exact WC_exit (fun a' ha' => QO_brk (som (ifF hm1u hc1n)).symm ⟨a12, n13, c14, S11, (Sat.weaken ha' (s1 z)), h3m, (h1d.ext s17), h1e, h3k, h1j⟩)
 ·rintro ⟨x1b, x15⟩ a3n w3o rfl ⟨a12, n13, c14, S11, hS4k, s24, h1d, h1e, h1f, h1j⟩
  have hm3p := elL hm1t
  have hm3q := un2S hm3p
  revert a3n
  refine Wo (Ws (E z (ef_lit0 (α := UInt8) el_25) ?_))
  rintro _ w4l ⟨a3r, n3s, c3t, rfl, s3u, h3v⟩
  refine Rm z (Ra z (Ra z (Ra z (Wn ?_))))
  obtain rfl := som hm3q
  exact Wr (ret3 hr z z z ⟨(bup (bM s19 s24 (mem1 lr)) s3u), a3r, n3s, c3t, [w3o.z], z, h3v, p2_0, nd_one, (mem1le (lt_ s19.size s24.size))⟩)
 rintro r4m ex4n a4o w4p rfl ⟨rfl, hq3w⟩
 have hm3x := elR hm1t
 obtain rfl := som hm3x
 exact ⟨hq3w, z⟩
theorem W_w0e {x1 : Rule} {x2 : Int} {x3 : Int} {res : Int} (hm : M_spec_l9Item x1 x2 x3 = some res) (hBw : B ≤ w0.z) (p1_0 : x1.name.b.length ≤ LEN) (p1_1 : inI x1.kind) (p1_2 : inI x1.size) (p1_4 : repS w0 B (sl A9 N9 C9) x1.bytes) (p1_5 : repS w0 B (sl A8 N8 C8) x1.names) (p1_6 : repS w0 B (sl AA NA CA) x1.tags) (p1_7 : repS w0 B (sl AB NB CB) x1.kids) (p2_0 : inI x2) (p3_0 : inI x3) : CallsR prog 201 [(.agg #[Str.v x1.name, vI x1.kind, vI x1.size, vB x1.little, sl A9 N9 C9, sl A8 N8 C8, sl AA NA CA, sl AB NB CB]), vI x2, vI x3] w0 (Q0 w0 B res) := by
 unfold M_spec_l9Item at hm
 refine goF func201 z z (lb z) fun fn hr => Ws (E z (fb z) ?_)
 rintro _ w10 ⟨rfl, h1j⟩
 have h11 := h1j.below
 have h12 : Blk w10 w0.z (vR x1 A9 N9 C9 A8 N8 C8 AA NA CA AB NB CB) := h1j.blk
 refine Ra z (Wn (Wq (Ws (R z (fd f_144_1 z) (R z (l1 g_3 z fid (h12.at z)) (Wn (WC_block (Ws (R z (eql z z) (Ra z (Wn (Wc z (fun hc16 => ?_) (fun hc16 => ?_)))))))))))))
 ·refine Ws (R z (fd f_144_7 z) (R z (l1 g_142 z fid (h12.at z)) ?_))
  obtain ⟨x34, e1t, hm1u⟩ := bdS (ifT hm hc16)
  refine RX z (at_ (α := Int) d_142 z_3 z z z (p1_7.ext h11) e1t) ?_
  rintro _ ⟨b35, o36, cs37, rfl, h1v, h1w, h38⟩
  obtain ⟨rfl, h1x⟩ := Int_open h1w
  refine R z (l1 g_3 z fid (h1v.at0 z)) (Ra z (Wn ?_))
  obtain rfl := som hm1u
  exact Wr (rtO (ret1 hr z ⟨h11, z, h1x⟩))
 refine Ws (R z (eql z z) (Ra z (Wn ?_)))
 obtain ⟨u1y, hu1k, hm14⟩ := bdS (ifF hm hc16)
 refine WC_cut (fun a w => Sum.inl () = u1y ∧ Sat 57 [] a ∧ Below w10.z w10 w) ?_ ?_
 ·refine Wc z (fun hc17 => ?_) (fun hc17 => ?_)
  ·have hm1l := ifT hu1k hc17
   refine Ws (Rm z (R z (fd f_144_7 z) (R z (l1 g_142 z fid (h12.at z)) ?_)))
   have h1m := p1_7.ext h11
   refine R z (lnR d_142 z h1m) (R z (lss z z) (Wn (Wc z (fun hc18 => ?_) (fun hc18 => ?_))))
   ·refine Ws (R z (fd f_144_7 z) (R z (l1 g_142 z fid (h12.at z)) (Rm z ?_)))
    obtain ⟨x39, e1z, hm20⟩ := bdS (ifT hm1l hc18)
    refine RX z (at_ (α := Int) d_142 z_3 z z z h1m e1z) ?_
    rintro _ ⟨b3a, o3b, cs3c, rfl, h21, h22, h3d⟩
    obtain ⟨rfl, h23⟩ := Int_open h22
    refine R z (l1 g_3 z fid (h21.at0 z)) (Ra z (Wn ?_))
    obtain rfl := som hm20
    have hm24 := elR hm14
    obtain rfl := som hm24
    exact Wr (rtO (ret1 hr z ⟨h11, z, h23⟩))
   exact WC_skip (fun _ q => ⟨som (ifF hm1l hc18), (q.k sn), (br w10)⟩)
  refine Ws (R z (eql z z) (Ra z (Wn ?_)))
  obtain ⟨u25, hu1n, hm19⟩ := bdS (ifF hu1k hc17)
  refine WC_cut (fun a w => Sum.inl () = u25 ∧ Sat 57 [] a ∧ Below w10.z w10 w) ?_ ?_
  ·refine Wc z (fun hc1a => ?_) (fun hc1a => ?_)
   ·refine Ws (Ra z (Wn ?_))
    obtain ⟨u3e, hu26, hm1o⟩ := bdS (ifT hu1n hc1a)
    refine WC_forN (σ := Unit) (ρ := Int) (fun (k1b : Nat) (_ : Unit) a w => Sat 57 [(1, vI x2), (3, pt w0.z), (7, (vI ((k1b : Nat) : Int)))] a ∧ Below w10.z w10 w) (fun (_ : Unit) a w => Sat 57 [] a ∧ Below w10.z w10 w) (fun r ex a w => ex = .ret ∧ RetPost prog fn (Q0 w0 B r) a w) hu26 ?_ ?_ ?_ ?_ ?_
    ·exact fun _ q => ⟨(q.k (s3 z z z)), (br w10)⟩
    ·rintro k1b _ a3f w3g o3h hk1c ⟨hS27, s13⟩ hm28
     refine Wu ?_ hS27
     refine Wq (Ws (Rm z (R z (fd f_144_6 z) ?_)))
     have h1d := h12.ext s13
     refine R z (l1 g_142 z fid (h1d.at z)) ?_
     have h1p := (p1_6.ext h11).ext s13
     refine R z (lnR d_142 z h1p) (R z (lss z z) (Wn (Wc z (fun _ => ?_) (fun hc => (nolt hk1c hc).elim))))
     refine Wk (Wq (WC_block (Ws (R z (fd f_144_6 z) (R z (l1 g_142 z fid (h1d.at z)) (Rm z ?_))))))
     obtain ⟨x3i, e29, hm1q⟩ := bdS hm28
     refine RX z (at_ (α := Int) d_142 z_3 z z z h1p e29) ?_
     rintro _ ⟨b3j, o3k, cs3l, rfl, h2a, h2b, h3m⟩
     obtain ⟨rfl, h3n⟩ := Int_open h2b
     refine R z (l1 g_3 z fid (h2a.at0 z)) (Rm z (R z (eql z z) (Wn (Wc z (fun hc1e => ?_) (fun hc1e => ?_)))))
     ·refine Ws (R z (fd f_144_7 z) (R z (l1 g_142 z fid (h1d.at z)) (Rm z (R z (inc_ hk1c (lt_ (repS.len p1_6) LEN_le) z z) ?_))))
      obtain ⟨x3o, e2c, hm2d⟩ := bdS (ifT hm1q hc1e)
      refine RX z (at_ (α := Int) d_142 z_3 z z z ((p1_7.ext h11).ext s13) e2c) ?_
      rintro _ ⟨b3p, o3q, cs3r, rfl, h2e, h2f, h3s⟩
      obtain ⟨rfl, h2g⟩ := Int_open h2f
      exact R z (l1 g_3 z fid (h2e.at0 z)) (Ra z (Wn (Wr (rtO (QO_retL (som hm2d).symm (ret1 hr z ⟨(bup h11 s13), z, h2g⟩))))))
     exact Wk (Wg (Rm z (R z (inc_ hk1c (lt_ (repS.len p1_6) LEN_le) z z) (Ra z (Wl (fun _ q => ⟨(), (som (ifF hm1q hc1e)).symm, ⟨(q.k (s3 z z z)), s13⟩⟩))))))
    ·rintro _ a3t w3u ⟨hS2h, s1f⟩
     refine Wu ?_ hS2h
     refine Wq (Ws (Rm z (R z (fd f_144_6 z) (R z (l1 g_142 z fid ((h12.ext s1f).at z)) (R z (lnR d_142 z ((p1_6.ext h11).ext s1f)) (R z (lss z z) (Wn (Wc z (fun hc => (noltt hc).elim) (fun _ => ?_)))))))))
     exact WC_exit (fun a' ha' => ⟨rfl, ⟨(Sat.weaken ha' sn), s1f⟩⟩)
    ·rintro _ a2i w3v rfl ⟨hS3w, s2j⟩
     have hm2k := elL hm1o
     revert a2i
     exact fun _ q => ⟨som hm2k, (q.k sn), s2j⟩
    rintro r3x ex3y a3z w40 rfl ⟨rfl, hq2l⟩
    have hm2m := elR hm1o
    obtain rfl := som hm2m
    have hm2n := elR hm19
    obtain rfl := som hm2n
    have hm2o := elR hm14
    obtain rfl := som hm2o
    exact ⟨hq2l, z⟩
   refine Wq (Ws (R z (eql z z) (Ra z (Wn ?_))))
   obtain ⟨u2p, hu1r, hm1s⟩ := bdS (ifF hu1n hc1a)
   refine WC_cut (fun a w => ∃ (x1g : Bool), x1g = u2p ∧ Sat 57 [(3, pt w0.z), (50, vB x1g)] a ∧ Below w10.z w10 w) ?_ ?_
   ·refine Wc z (fun hc1h => ?_) (fun hc1h => ?_)
    ·exact WC_skip (fun _ q => ⟨x1.kind == 8, som (ifT hu1r hc1h), (q.k (s2 z z)), (br w10)⟩)
    exact Wg (R z (eql z z) (Ra z (Wl (fun _ q => ⟨x1.kind == 9, som (ifF hu1r hc1h), (q.k (s2 z z)), (br w10)⟩))))
   rintro a2q w41 ⟨x1g, rfl, hS42, s15⟩
   revert a2q
   refine Wo (Wc z (fun hc1i => ?_) (fun hc1i => ?_))
   ·refine Ws (R z (fd f_144_7 z) (R z (l1 g_142 z fid ((h12.ext s15).at z)) ?_))
    obtain ⟨x43, e2r, hm2s⟩ := bdS (ifT hm1s hc1i)
    refine RX z (at_ (α := Int) d_142 z_3 z z z ((p1_7.ext h11).ext s15) e2r) ?_
    rintro _ ⟨b44, o45, cs46, rfl, h2t, h2u, h47⟩
    obtain ⟨rfl, h2v⟩ := Int_open h2u
    refine R z (l1 g_3 z fid (h2t.at0 z)) (Ra z (Wn ?_))
    obtain rfl := som hm2s
    have hm2w := elR hm19
    obtain rfl := som hm2w
    have hm2x := elR hm14
    obtain rfl := som hm2x
    exact Wr (rtO (ret1 hr z ⟨(bup h11 s15), z, h2v⟩))
   exact WC_skip (fun _ q => ⟨som (ifF hm1s hc1i), (q.k sn), s15⟩)
  rintro a2y w48 ⟨rfl, hS49, s2z⟩
  have hm30 := elL hm19
  revert a2y
  exact fun _ q => ⟨som hm30, (q.k sn), s2z⟩
 rintro a31 w4a ⟨rfl, hS4b, s32⟩
 have hm33 := elL hm14
 revert a31
 refine Wo (Ws (Ra z (Wn ?_)))
 obtain rfl := som hm33
 exact Wr (ret1 hr z ⟨(bup h11 s32), z, (ii z)⟩)
structure S_spec_l11Read (f : Desc → Int → (List UInt8) → Int → Option (Val × Int × Int)) : Prop where
  run : ∀ {B N0 C0 N7 C7 : Nat} {A0 A7 : Option Addr} {x1 : Desc} {x2 : Int} {x3 : List UInt8} {x4 : Int} {res : Val × Int × Int} {w0 : World} (hm : f x1 x2 x3 x4 = some res) (hBw : B ≤ w0.z) (p1_0 : repS w0 B (sl A0 N0 C0) x1.rules) (p2_0 : inI x2) (p3_0 : repS w0 B (sl A7 N7 C7) x3) (p4_0 : inI x4), CallsR prog 147 [(.agg #[sl A0 N0 C0]), vI x2, sl A7 N7 C7, vI x4] w0 (Q17 w0 B res)
structure S_spec_l11Items (f : Desc → Rule → Int → Int → (List UInt8) → Int → Option (Val × Int × Int)) : Prop where
  run : ∀ {B N0 C0 N2 C2 N4 C4 N1 C1 N5 C5 NE CE : Nat} {A0 A2 A4 A1 A5 AE : Option Addr} {x1 : Desc} {x2 : Rule} {x3 : Int} {x4 : Int} {x5 : List UInt8} {x6 : Int} {res : Val × Int × Int} {w0 : World} (hm : f x1 x2 x3 x4 x5 x6 = some res) (hBw : B ≤ w0.z) (p1_0 : repS w0 B (sl A0 N0 C0) x1.rules) (p2_0 : x2.name.b.length ≤ LEN) (p2_1 : inI x2.kind) (p2_2 : inI x2.size) (p2_4 : repS w0 B (sl A2 N2 C2) x2.bytes) (p2_5 : repS w0 B (sl A4 N4 C4) x2.names) (p2_6 : repS w0 B (sl A1 N1 C1) x2.tags) (p2_7 : repS w0 B (sl A5 N5 C5) x2.kids) (p3_0 : inI x3) (p4_0 : inI x4) (p5_0 : repS w0 B (sl AE NE CE) x5) (p6_0 : inI x6), CallsR prog 170 [(.agg #[sl A0 N0 C0]), (.agg #[Str.v x2.name, vI x2.kind, vI x2.size, vB x2.little, sl A2 N2 C2, sl A4 N4 C4, sl A1 N1 C1, sl A5 N5 C5]), vI x3, vI x4, sl AE NE CE, vI x6] w0 (Q17 w0 B res)
structure S_spec_l11Choice (f : Desc → Rule → (List UInt8) → Int → Option (Val × Int × Int)) : Prop where
  run : ∀ {B N0 C0 N2 C2 N4 C4 N1 C1 N5 C5 N7 C7 : Nat} {A0 A2 A4 A1 A5 A7 : Option Addr} {x1 : Desc} {x2 : Rule} {x3 : List UInt8} {x4 : Int} {res : Val × Int × Int} {w0 : World} (hm : f x1 x2 x3 x4 = some res) (hBw : B ≤ w0.z) (p1_0 : repS w0 B (sl A0 N0 C0) x1.rules) (p2_0 : x2.name.b.length ≤ LEN) (p2_1 : inI x2.kind) (p2_2 : inI x2.size) (p2_4 : repS w0 B (sl A2 N2 C2) x2.bytes) (p2_5 : repS w0 B (sl A4 N4 C4) x2.names) (p2_6 : repS w0 B (sl A1 N1 C1) x2.tags) (p2_7 : repS w0 B (sl A5 N5 C5) x2.kids) (p3_0 : repS w0 B (sl A7 N7 C7) x3) (p4_0 : inI x4), CallsR prog 171 [(.agg #[sl A0 N0 C0]), (.agg #[Str.v x2.name, vI x2.kind, vI x2.size, vB x2.little, sl A2 N2 C2, sl A4 N4 C4, sl A1 N1 C1, sl A5 N5 C5]), sl A7 N7 C7, vI x4] w0 (Q17 w0 B res)
structure S_spec_l11Option (f : Desc → Rule → (List UInt8) → Int → Option (Val × Int × Int)) : Prop where
  run : ∀ {B N0 C0 N2 C2 N4 C4 N1 C1 N5 C5 N7 C7 : Nat} {A0 A2 A4 A1 A5 A7 : Option Addr} {x1 : Desc} {x2 : Rule} {x3 : List UInt8} {x4 : Int} {res : Val × Int × Int} {w0 : World} (hm : f x1 x2 x3 x4 = some res) (hBw : B ≤ w0.z) (p1_0 : repS w0 B (sl A0 N0 C0) x1.rules) (p2_0 : x2.name.b.length ≤ LEN) (p2_1 : inI x2.kind) (p2_2 : inI x2.size) (p2_4 : repS w0 B (sl A2 N2 C2) x2.bytes) (p2_5 : repS w0 B (sl A4 N4 C4) x2.names) (p2_6 : repS w0 B (sl A1 N1 C1) x2.tags) (p2_7 : repS w0 B (sl A5 N5 C5) x2.kids) (p3_0 : repS w0 B (sl A7 N7 C7) x3) (p4_0 : inI x4), CallsR prog 172 [(.agg #[sl A0 N0 C0]), (.agg #[Str.v x2.name, vI x2.kind, vI x2.size, vB x2.little, sl A2 N2 C2, sl A4 N4 C4, sl A1 N1 C1, sl A5 N5 C5]), sl A7 N7 C7, vI x4] w0 (Q17 w0 B res)
structure S_spec_l11Checked (f : Desc → Rule → (List UInt8) → Int → Option (Val × Int × Int)) : Prop where
  run : ∀ {B N0 C0 N2 C2 N4 C4 N1 C1 N5 C5 N7 C7 : Nat} {A0 A2 A4 A1 A5 A7 : Option Addr} {x1 : Desc} {x2 : Rule} {x3 : List UInt8} {x4 : Int} {res : Val × Int × Int} {w0 : World} (hm : f x1 x2 x3 x4 = some res) (hBw : B ≤ w0.z) (p1_0 : repS w0 B (sl A0 N0 C0) x1.rules) (p2_0 : x2.name.b.length ≤ LEN) (p2_1 : inI x2.kind) (p2_2 : inI x2.size) (p2_4 : repS w0 B (sl A2 N2 C2) x2.bytes) (p2_5 : repS w0 B (sl A4 N4 C4) x2.names) (p2_6 : repS w0 B (sl A1 N1 C1) x2.tags) (p2_7 : repS w0 B (sl A5 N5 C5) x2.kids) (p3_0 : repS w0 B (sl A7 N7 C7) x3) (p4_0 : inI x4), CallsR prog 173 [(.agg #[sl A0 N0 C0]), (.agg #[Str.v x2.name, vI x2.kind, vI x2.size, vB x2.little, sl A2 N2 C2, sl A4 N4 C4, sl A1 N1 C1, sl A5 N5 C5]), sl A7 N7 C7, vI x4] w0 (Q17 w0 B res)
abbrev I_spec_l11Read (n : Nat) : Prop := S_spec_l11Read (F_spec_l11Read n).spec_l11Read ∧ S_spec_l11Items (F_spec_l11Read n).spec_l11Items ∧ S_spec_l11Choice (F_spec_l11Read n).spec_l11Choice ∧ S_spec_l11Option (F_spec_l11Read n).spec_l11Option ∧ S_spec_l11Checked (F_spec_l11Read n).spec_l11Checked
theorem T_w02 (ih : I_spec_l11Read n) : S_spec_l11Read (B_spec_l11Read n (F_spec_l11Read n)) := by
 obtain ⟨ih0, ih1, ih2, ih3, ih4⟩ := ih
 constructor
 intro B N0 C0 N7 C7 A0 A7 x1 x2 x3 x4 res w0 hm hBw p1_0 p2_0 p3_0 p4_0
 unfold B_spec_l11Read at hm
 refine goF func147 z z (lb z) fun fn hr => Ws (E z (fb z) ?_)
 rintro _ w3r ⟨rfl, h3s⟩
 have h12 := h3s.below
 have h1l : Blk w3r w0.z [sl A0 N0 C0] := h3s.blk
 refine E z (fa zero_118) ?_
 rintro _ w3t ⟨rfl, h3u⟩
 have h14 := h3u.below
 have h13 : Blk w3t w3r.z [vI 0, sl none 0 0, sl none 0 0] := h3u.blk
 refine Ra z (Ra z (Wn (Ws (R z (fd f_95_0 z) ?_))))
 have h1m := h1l.ext h14
 refine R z (l1 g_93 z fid (h1m.at z)) (Rm z ?_)
 obtain ⟨x15, e6e, hm3v⟩ := bdS hm
 have h1n := (p1_0.ext h12).ext h14
 refine RX z (at_ (α := Rule) d_93 z_144 z z z h1n e6e) ?_
 rintro _ ⟨b102, o103, cs104, rfl, h6f, h6g, h105⟩
 obtain ⟨a19, n1a, c1b, a1c, n1d, c1e, a1f, n1g, c1h, a1i, n1j, c1k, rfl, h1q, h1r, h1o, h1p, h1s, h1t, h1u⟩ := Rule_open h6g
 refine R z (lN (vs := (vR x15 a19 n1a c1b a1c n1d c1e a1f n1g c1h a1i n1j c1k)) g_144 z_144 z z fid h6f) (E z (fa zero_144) ?_)
 rintro _ w6h ⟨rfl, h3w⟩
 have h10 := h3w.below
 have h6i : Blk w6h w3t.z [(Str.v (⟨[]⟩ : Str)), vI 0, vI 0, vB false, sl none 0 0, sl none 0 0, sl none 0 0, sl none 0 0] := h3w.blk
 refine E0 (fs (cur' := (vR x15 a19 n1a c1b a1c n1d c1e a1f n1g c1h a1i n1j c1k)) z_144 z z h6i z (lb z) (oA z) z) ?_
 rintro _ w106 ⟨h18, s6j⟩
 have h11 := s6j.one
 refine Wn (Wq (Ws (R z (fd f_144_1 z) (R z (l1 g_3 z fid (h18.at z)) (Wn (WC_block (Ws (R z (eql z z) (Ra z (Wn (Wc z (fun hc2e => ?_) (fun hc2e => ?_))))))))))))
 ·refine Ws (R z (lN (vs := [sl A0 N0 C0]) g_95 z_95 z z fid (((h1m.ext h10).chg h11 (djs (mm1 h1l.lt h14.size))).row 0 1 z)) (Rm z (Rm z (Rm z ?_))))
  have h22 := lt_ h12.size h14.size
  have h3x := mem1le (lt_ hBw h22)
  obtain ⟨r3y, r107, r108, e6k, hm3z⟩ := bd3S (ifT hm3v hc2e)
  refine E z (fc call166 z (W_w0d (B := B) e6k (lt_ hBw (lt_ (lt_ h22 h10.size) h11.size)) ((h1n.ext h10).chg h11 (lg h3x)) p2_0 ((((p3_0.ext h12).ext h14).ext h10).chg h11 (lg h3x)) p4_0)) ?_
  rintro _ w109 ⟨s23, rfl, h6l, h6m⟩
  refine Rm z ?_
  iterate 3 refine R z (ext_ z z) ?_
  refine Ra z (Ra z (Ra z (Wn (Wq (Ws (Rm z (R z (not_ z) (Wn (Wc z (fun hc2f => ?_) (fun hc2f => ?_))))))))))
  ·refine Ws (R z (bP (parts := []) (cs := [vI 0, sl none 0 0, sl none 0 0]) build_118 z z) (Rm z (E0 (fs (cur' := [vI 0, sl none 0 0, sl none 0 0]) z_118 z z (((h13.ext h10).chg h11 (djs (mmr h13.lt))).ext s23) z (lb z) (oA z) z) ?_)))
   rintro _ w10a ⟨h6n, s6o⟩
   refine Ra z (Ra z (Wn ?_))
   obtain rfl := som (ifT hm3z hc2f)
   exact Wr (rtO (ret3 hr (resC g_118 z_118 z h6n z) z z ⟨(bM (bup (bM (bup (bup h12 h14) h10) h11 (mem1le h22)) s23) s6o.one (mem1le h12.size)), none, 0, 0, [], none, 0, 0, [], z, (ii z), onL, onL, p4_0, (ii z), nd0, al0⟩))
  refine Wk (Ws (Rm z (R z (bP (parts := [(0, (.tmp 43))]) (cs := [vI r3y, sl none 0 0, sl none 0 0]) build_118 z z) (Rm z (E0 (fs (cur' := [vI r3y, sl none 0 0, sl none 0 0]) z_118 z z (((h13.ext h10).chg h11 (djs (mmr h13.lt))).ext s23) z (lb z) (oA z) z) ?_)))))
  rintro _ w10b ⟨h6p, s6q⟩
  refine Ra z (Ra z (Wn ?_))
  obtain rfl := som (ifF hm3z hc2f)
  exact Wr (rtO (ret3 hr (resC g_118 z_118 z h6p z) z z ⟨(bM (bup (bM (bup (bup h12 h14) h10) h11 (mem1le h22)) s23) s6q.one (mem1le h12.size)), none, 0, 0, [], none, 0, 0, [], z, h6l, onL, onL, h6m, (ii z), nd0, al0⟩))
 have hm40 := ifF hm3v hc2e
 refine Ws (R z (eql z z) (Ra z (Wn (Wc z (fun hc2g => ?_) (fun hc2g => ?_)))))
 ·refine Ws (R z (lN (vs := (vR x15 a19 n1a c1b a1c n1d c1e a1f n1g c1h a1i n1j c1k)) g_144 z_144 z z fid (h18.row 0 8 z)) (Rm z (Rm z ?_)))
  have h2h := lt_ h12.size h14.size
  have h21 := mem1le (lt_ hBw h2h)
  have h2i := lt_ (lt_ h2h h10.size) h11.size
  obtain ⟨r6r, r10c, r10d, e6s, hm6t⟩ := bd3S (ifT hm40 hc2g)
  refine E z (fc call167 z (W_w2e (B := B) e6s (lt_ hBw h2i) h1q h1r h1o ((h1p.ext h10).chg h11 (lg h21)) ((h1s.ext h10).chg h11 (lg h21)) ((h1t.ext h10).chg h11 (lg h21)) ((h1u.ext h10).chg h11 (lg h21)) ((((p3_0.ext h12).ext h14).ext h10).chg h11 (lg h21)) p4_0)) ?_
  rintro _ w10e ⟨s41, a42, n43, c44, S6u, a45, n46, c47, S6v, rfl, h6w, h6x, h6y, h6z, h70, h2j, h24⟩
  iterate 3 refine R z (ext_ z z) ?_
  refine E0 (fs (cur' := [vI r6r.number, sl a42 n43 c44, sl a45 n46 c47]) z_118 z z (((h13.ext h10).chg h11 (djs (mmr h13.lt))).ext s41) z (lb z) (oA z) z) ?_
  rintro _ w10f ⟨h71, s72⟩
  have h2k := s72.one
  refine Ra z (Ra z (Wn ?_))
  obtain rfl := som hm6t
  have h48 := lt_ h10.size h11.size
  exact Wr (rtO (ret3 hr (resC g_118 z_118 z h71 z) z z ⟨(bM (bup (bM (bup (bup h12 h14) h10) h11 (mem1le h2h)) s41) h2k (mem1le h12.size)), a42, n43, c44, S6u, a45, n46, c47, S6v, z, h6w, (h6x.chg h2k (o0n1 (all_left h24) h13.lt h48)), (h6y.chg h2k (o0n1 (all_right h24) h13.lt h48)), h6z, h70, (nd_app (nd_left h2j) (nd_right h2j) (nd_dj h2j)), (all_app (o0le (all_left h24) h2i) (o0le (all_right h24) h2i))⟩))
 have hm49 := ifF hm40 hc2g
 refine Ws (R z (eql z z) (Ra z (Wn (Wc z (fun hc2l => ?_) (fun hc2l => ?_)))))
 ·refine Ws (Rm z (Rm z (R z (fd f_144_2 z) (R z (l1 g_3 z fid (h18.at z)) ?_))))
  have h2m := lt_ h12.size h14.size
  have h2n := lt_ (lt_ h2m h10.size) h11.size
  obtain ⟨r73, r10g, r10h, e74, hm75⟩ := bd3S (ifT hm49 hc2l)
  refine E z (fc call168 z (W_w0w (B := B) e74 (lt_ hBw h2n) ((((p3_0.ext h12).ext h14).ext h10).chg h11 (lg (mem1le (lt_ hBw h2m)))) p4_0 h1o)) ?_
  rintro _ w10i ⟨s4a, a4b, n4c, c4d, S76, a4e, n4f, c4g, S77, rfl, h78, h79, h7a, h7b, h7c, h2o, h25⟩
  iterate 3 refine R z (ext_ z z) ?_
  refine E0 (fs (cur' := [vI r73.number, sl a4b n4c c4d, sl a4e n4f c4g]) z_118 z z (((h13.ext h10).chg h11 (djs (mmr h13.lt))).ext s4a) z (lb z) (oA z) z) ?_
  rintro _ w10j ⟨h7d, s7e⟩
  have h2p := s7e.one
  refine Ra z (Ra z (Wn ?_))
  obtain rfl := som hm75
  have h4h := lt_ h10.size h11.size
  exact Wr (rtO (ret3 hr (resC g_118 z_118 z h7d z) z z ⟨(bM (bup (bM (bup (bup h12 h14) h10) h11 (mem1le h2m)) s4a) h2p (mem1le h12.size)), a4b, n4c, c4d, S76, a4e, n4f, c4g, S77, z, h78, (h79.chg h2p (o0n1 (all_left h25) h13.lt h4h)), (h7a.chg h2p (o0n1 (all_right h25) h13.lt h4h)), h7b, h7c, (nd_app (nd_left h2o) (nd_right h2o) (nd_dj h2o)), (all_app (o0le (all_left h25) h2n) (o0le (all_right h25) h2n))⟩))
 have hm4i := ifF hm49 hc2l
 refine Ws (R z (eql z z) (Ra z (Wn (Wc z (fun hc2q => ?_) (fun hc2q => ?_)))))
 ·refine Ws (Rm z (Rm z (R z (fd f_144_4 z) (R z (l1 g_25 z fid (h18.at z)) ?_))))
  obtain ⟨x10k, e7f, hm7g⟩ := bdS (ifT hm4i hc2q)
  have h26 := lt_ h12.size h14.size
  have h4j := mem1le (lt_ hBw h26)
  refine RX z (at_ (α := UInt8) d_25 z_5 z z z ((h1p.ext h10).chg h11 (lg h4j)) e7f) ?_
  rintro _ ⟨b10l, o10m, cs10n, rfl, h7h, h7i, h10o⟩
  obtain rfl := UInt8_open h7i
  refine R z (l1 g_5 z fid (h7h.at0 z)) ?_
  have h4k := lt_ (lt_ h26 h10.size) h11.size
  obtain ⟨r10p, r10q, r10r, e7j, hm4l⟩ := bd3S hm7g
  refine E z (fc call169 z (W_w2f (B := B) e7j (lt_ hBw h4k) ((((p3_0.ext h12).ext h14).ext h10).chg h11 (lg h4j)) p4_0)) ?_
  rintro _ w10s ⟨s27, a2r, n2s, c2t, S7k, rfl, h7l, h7m, h7n, h4m⟩
  refine Rm z ?_
  iterate 3 refine R z (ext_ z z) ?_
  refine Ra z (Ra z (Ra z (Wn (Wq (Ws (Rm z (R z (not_ z) (Wn (Wc z (fun hc2u => ?_) (fun hc2u => ?_))))))))))
  ·refine Ws (R z (bP (parts := []) (cs := [vI 0, sl none 0 0, sl none 0 0]) build_118 z z) (Rm z (E0 (fs (cur' := [vI 0, sl none 0 0, sl none 0 0]) z_118 z z (((h13.ext h10).chg h11 (djs (mmr h13.lt))).ext s27) z (lb z) (oA z) z) ?_)))
   rintro _ w10t ⟨h7o, s7p⟩
   refine Ra z (Ra z (Wn ?_))
   obtain rfl := som (ifT hm4l hc2u)
   exact Wr (rtO (ret3 hr (resC g_118 z_118 z h7o z) z z ⟨(bM (bup (bM (bup (bup h12 h14) h10) h11 (mem1le h26)) s27) s7p.one (mem1le h12.size)), none, 0, 0, [], none, 0, 0, [], z, (ii z), onL, onL, p4_0, (ii z), nd0, al0⟩))
  refine Wk (Ws (Rm z (R z (bP (parts := [(1, (.tmp 82))]) (cs := [vI 0, sl a2r n2s c2t, sl none 0 0]) build_118 z z) (Rm z (E0 (fs (cur' := [vI 0, sl a2r n2s c2t, sl none 0 0]) z_118 z z (((h13.ext h10).chg h11 (djs (mmr h13.lt))).ext s27) z (lb z) (oA z) z) ?_)))))
  rintro _ w10u ⟨h7q, s7r⟩
  have h4n := s7r.one
  refine Ra z (Ra z (Wn ?_))
  obtain rfl := som (ifF hm4l hc2u)
  exact Wr (rtO (ret3 hr (resC g_118 z_118 z h7q z) z z ⟨(bM (bup (bM (bup (bup h12 h14) h10) h11 (mem1le h26)) s27) h4n (mem1le h12.size)), a2r, n2s, c2t, S7k, none, 0, 0, [], z, (ii z), (h7l.chg h4n (o0n1 h4m h13.lt (lt_ h10.size h11.size))), onL, h7m, (ii z), (nd_app h7n nd_nil (nmN _)), (all_app (o0le h4m h4k) all_nil)⟩))
 have hm4o := ifF hm4i hc2q
 refine Ws (R z (eql z z) (Ra z (Wn (Wc z (fun hc2v => ?_) (fun hc2v => ?_)))))
 ·refine Ws (R z (lN (vs := [sl A0 N0 C0]) g_95 z_95 z z fid (((h1m.ext h10).chg h11 (djs (mm1 h1l.lt h14.size))).row 0 1 z)) (R z (lN (vs := (vR x15 a19 n1a c1b a1c n1d c1e a1f n1g c1h a1i n1j c1k)) g_144 z_144 z z fid (h18.row 0 8 z)) (R z (fd f_144_7 z) (R z (l1 g_142 z fid (h18.at z)) ?_))))
  have h2w := lt_ h12.size h14.size
  have h1v := mem1le (lt_ hBw h2w)
  have h2x := (h1u.ext h10).chg h11 (lg h1v)
  refine R z (lnR d_142 z h2x) (Rm z (Rm z ?_))
  have h2y := lt_ (lt_ h2w h10.size) h11.size
  obtain ⟨r7s, r10v, r10w, e7t, hm7u⟩ := bd3S (ifT hm4o hc2v)
  refine E z (fc call170 z (ih1.run (B := B) e7t (lt_ hBw h2y) ((h1n.ext h10).chg h11 (lg h1v)) h1q h1r h1o ((h1p.ext h10).chg h11 (lg h1v)) ((h1s.ext h10).chg h11 (lg h1v)) ((h1t.ext h10).chg h11 (lg h1v)) h2x (ii z) (inI_len (repS.len h2x)) ((((p3_0.ext h12).ext h14).ext h10).chg h11 (lg h1v)) p4_0)) ?_
  rintro _ w10x ⟨s4p, a4q, n4r, c4s, S7v, a4t, n4u, c4v, S7w, rfl, h7x, h7y, h7z, h80, h81, h2z, h28⟩
  iterate 3 refine R z (ext_ z z) ?_
  refine E0 (fs (cur' := [vI r7s.number, sl a4q n4r c4s, sl a4t n4u c4v]) z_118 z z (((h13.ext h10).chg h11 (djs (mmr h13.lt))).ext s4p) z (lb z) (oA z) z) ?_
  rintro _ w10y ⟨h82, s83⟩
  have h30 := s83.one
  refine Ra z (Ra z (Wn ?_))
  obtain rfl := som hm7u
  have h4w := lt_ h10.size h11.size
  exact Wr (rtO (ret3 hr (resC g_118 z_118 z h82 z) z z ⟨(bM (bup (bM (bup (bup h12 h14) h10) h11 (mem1le h2w)) s4p) h30 (mem1le h12.size)), a4q, n4r, c4s, S7v, a4t, n4u, c4v, S7w, z, h7x, (h7y.chg h30 (o0n1 (all_left h28) h13.lt h4w)), (h7z.chg h30 (o0n1 (all_right h28) h13.lt h4w)), h80, h81, (nd_app (nd_left h2z) (nd_right h2z) (nd_dj h2z)), (all_app (o0le (all_left h28) h2y) (o0le (all_right h28) h2y))⟩))
 have hm4x := ifF hm4o hc2v
 refine Ws (R z (eql z z) (Ra z (Wn (Wc z (fun hc31 => ?_) (fun hc31 => ?_)))))
 ·refine Ws (R z (lN (vs := [sl A0 N0 C0]) g_95 z_95 z z fid (((h1m.ext h10).chg h11 (djs (mm1 h1l.lt h14.size))).row 0 1 z)) (R z (lN (vs := (vR x15 a19 n1a c1b a1c n1d c1e a1f n1g c1h a1i n1j c1k)) g_144 z_144 z z fid (h18.row 0 8 z)) (Rm z (Rm z ?_))))
  have h32 := lt_ h12.size h14.size
  have h1w := mem1le (lt_ hBw h32)
  have h33 := lt_ (lt_ h32 h10.size) h11.size
  obtain ⟨r84, r10z, r110, e85, hm86⟩ := bd3S (ifT hm4x hc31)
  refine E z (fc call171 z (ih2.run (B := B) e85 (lt_ hBw h33) ((h1n.ext h10).chg h11 (lg h1w)) h1q h1r h1o ((h1p.ext h10).chg h11 (lg h1w)) ((h1s.ext h10).chg h11 (lg h1w)) ((h1t.ext h10).chg h11 (lg h1w)) ((h1u.ext h10).chg h11 (lg h1w)) ((((p3_0.ext h12).ext h14).ext h10).chg h11 (lg h1w)) p4_0)) ?_
  rintro _ w111 ⟨s4y, a4z, n50, c51, S87, a52, n53, c54, S88, rfl, h89, h8a, h8b, h8c, h8d, h34, h29⟩
  iterate 3 refine R z (ext_ z z) ?_
  refine E0 (fs (cur' := [vI r84.number, sl a4z n50 c51, sl a52 n53 c54]) z_118 z z (((h13.ext h10).chg h11 (djs (mmr h13.lt))).ext s4y) z (lb z) (oA z) z) ?_
  rintro _ w112 ⟨h8e, s8f⟩
  have h35 := s8f.one
  refine Ra z (Ra z (Wn ?_))
  obtain rfl := som hm86
  have h55 := lt_ h10.size h11.size
  exact Wr (rtO (ret3 hr (resC g_118 z_118 z h8e z) z z ⟨(bM (bup (bM (bup (bup h12 h14) h10) h11 (mem1le h32)) s4y) h35 (mem1le h12.size)), a4z, n50, c51, S87, a52, n53, c54, S88, z, h89, (h8a.chg h35 (o0n1 (all_left h29) h13.lt h55)), (h8b.chg h35 (o0n1 (all_right h29) h13.lt h55)), h8c, h8d, (nd_app (nd_left h34) (nd_right h34) (nd_dj h34)), (all_app (o0le (all_left h29) h33) (o0le (all_right h29) h33))⟩))
 have hm56 := ifF hm4x hc31
 refine Ws (R z (eql z z) (Ra z (Wn (Wc z (fun hc36 => ?_) (fun hc36 => ?_)))))
 ·refine Ws (R z (lN (vs := [sl A0 N0 C0]) g_95 z_95 z z fid (((h1m.ext h10).chg h11 (djs (mm1 h1l.lt h14.size))).row 0 1 z)) (R z (lN (vs := (vR x15 a19 n1a c1b a1c n1d c1e a1f n1g c1h a1i n1j c1k)) g_144 z_144 z z fid (h18.row 0 8 z)) (Rm z (Rm z ?_))))
  have h37 := lt_ h12.size h14.size
  have h1x := mem1le (lt_ hBw h37)
  have h38 := lt_ (lt_ h37 h10.size) h11.size
  obtain ⟨r8g, r113, r114, e8h, hm8i⟩ := bd3S (ifT hm56 hc36)
  refine E z (fc call172 z (ih3.run (B := B) e8h (lt_ hBw h38) ((h1n.ext h10).chg h11 (lg h1x)) h1q h1r h1o ((h1p.ext h10).chg h11 (lg h1x)) ((h1s.ext h10).chg h11 (lg h1x)) ((h1t.ext h10).chg h11 (lg h1x)) ((h1u.ext h10).chg h11 (lg h1x)) ((((p3_0.ext h12).ext h14).ext h10).chg h11 (lg h1x)) p4_0)) ?_
  rintro _ w115 ⟨s57, a58, n59, c5a, S8j, a5b, n5c, c5d, S8k, rfl, h8l, h8m, h8n, h8o, h8p, h39, h2a⟩
  iterate 3 refine R z (ext_ z z) ?_
  refine E0 (fs (cur' := [vI r8g.number, sl a58 n59 c5a, sl a5b n5c c5d]) z_118 z z (((h13.ext h10).chg h11 (djs (mmr h13.lt))).ext s57) z (lb z) (oA z) z) ?_
  rintro _ w116 ⟨h8q, s8r⟩
  have h3a := s8r.one
  refine Ra z (Ra z (Wn ?_))
  obtain rfl := som hm8i
  have h5e := lt_ h10.size h11.size
  exact Wr (rtO (ret3 hr (resC g_118 z_118 z h8q z) z z ⟨(bM (bup (bM (bup (bup h12 h14) h10) h11 (mem1le h37)) s57) h3a (mem1le h12.size)), a58, n59, c5a, S8j, a5b, n5c, c5d, S8k, z, h8l, (h8m.chg h3a (o0n1 (all_left h2a) h13.lt h5e)), (h8n.chg h3a (o0n1 (all_right h2a) h13.lt h5e)), h8o, h8p, (nd_app (nd_left h39) (nd_right h39) (nd_dj h39)), (all_app (o0le (all_left h2a) h38) (o0le (all_right h2a) h38))⟩))
 have hm5f := ifF hm56 hc36
 refine Ws (R z (eql z z) (Ra z (Wn (Wc z (fun hc3b => ?_) (fun hc3b => ?_)))))
 ·refine Ws (R z (lN (vs := [sl A0 N0 C0]) g_95 z_95 z z fid (((h1m.ext h10).chg h11 (djs (mm1 h1l.lt h14.size))).row 0 1 z)) (R z (lN (vs := (vR x15 a19 n1a c1b a1c n1d c1e a1f n1g c1h a1i n1j c1k)) g_144 z_144 z z fid (h18.row 0 8 z)) (Rm z (Rm z ?_))))
  have h3c := lt_ h12.size h14.size
  have h1y := mem1le (lt_ hBw h3c)
  have h3d := lt_ (lt_ h3c h10.size) h11.size
  obtain ⟨r8s, r117, r118, e8t, hm8u⟩ := bd3S (ifT hm5f hc3b)
  refine E z (fc call173 z (ih4.run (B := B) e8t (lt_ hBw h3d) ((h1n.ext h10).chg h11 (lg h1y)) h1q h1r h1o ((h1p.ext h10).chg h11 (lg h1y)) ((h1s.ext h10).chg h11 (lg h1y)) ((h1t.ext h10).chg h11 (lg h1y)) ((h1u.ext h10).chg h11 (lg h1y)) ((((p3_0.ext h12).ext h14).ext h10).chg h11 (lg h1y)) p4_0)) ?_
  rintro _ w119 ⟨s5g, a5h, n5i, c5j, S8v, a5k, n5l, c5m, S8w, rfl, h8x, h8y, h8z, h90, h91, h3e, h2b⟩
  iterate 3 refine R z (ext_ z z) ?_
  refine E0 (fs (cur' := [vI r8s.number, sl a5h n5i c5j, sl a5k n5l c5m]) z_118 z z (((h13.ext h10).chg h11 (djs (mmr h13.lt))).ext s5g) z (lb z) (oA z) z) ?_
  rintro _ w11a ⟨h92, s93⟩
  have h3f := s93.one
  refine Ra z (Ra z (Wn ?_))
  obtain rfl := som hm8u
  have h5n := lt_ h10.size h11.size
  exact Wr (rtO (ret3 hr (resC g_118 z_118 z h92 z) z z ⟨(bM (bup (bM (bup (bup h12 h14) h10) h11 (mem1le h3c)) s5g) h3f (mem1le h12.size)), a5h, n5i, c5j, S8v, a5k, n5l, c5m, S8w, z, h8x, (h8y.chg h3f (o0n1 (all_left h2b) h13.lt h5n)), (h8z.chg h3f (o0n1 (all_right h2b) h13.lt h5n)), h90, h91, (nd_app (nd_left h3e) (nd_right h3e) (nd_dj h3e)), (all_app (o0le (all_left h2b) h3d) (o0le (all_right h2b) h3d))⟩))
 refine Wk (Wq (WC_draw (X := noX) 0 (.rd 0 (.rd 1 (.rd 2 (.rd 3 (.rd 4 (.rd 5 (.rd 6 (.ef 7 (.rd 8 (.rd 9 (.rd 10 (.rd 11 (.rd 12 (.rd 13 (.rd 14 .done))))))))))))))) mo (by kernel_rfl) fun w11b s17 _ => ?_))
 have h5o := ((h1m.ext h10).chg h11 (djs (mm1 h1l.lt h14.size))).ext s17
 refine dR z z (lN (vs := [sl A0 N0 C0]) g_95 z_95 z z fid (h5o.row 0 1 z)) (dR z z (fd f_144_7 z) ?_)
 have h5p := h18.ext s17
 refine dR z z (l1 g_142 z fid (h5p.at z)) ?_
 obtain ⟨x11c, e94, hm95⟩ := bdS (ifF hm5f hc3b)
 have h1z := lt_ h12.size h14.size
 have h20 := mem1le (lt_ hBw h1z)
 have h5q := ((h1u.ext h10).chg h11 (lg h20)).ext s17
 refine dRX z z (at_ (α := Int) d_142 z_3 z z z h5q e94) ?_
 rintro _ ⟨b11d, o11e, cs11f, rfl, h96, h97, h11g⟩
 obtain ⟨rfl, h98⟩ := Int_open h97
 refine dR z z (l1 g_3 z fid (h96.at0 z)) (dR z z (mv z) (dR z z (mv z) ?_))
 have h5r := ((h1n.ext h10).chg h11 (lg h20)).ext s17
 have h3g := ((((p3_0.ext h12).ext h14).ext h10).chg h11 (lg h20)).ext s17
 have h3h := lt_ (lt_ (lt_ h1z h10.size) h11.size) s17.size
 obtain ⟨r11h, r11i, r11j, e99, hm5s⟩ := bd3S hm95
 refine dE z z (fc call166 z (W_w0d (B := B) e99 (lt_ hBw h3h) h5r h98 h3g p4_0)) (.inr fun _ _ h => chgB (h.1)) ?_
 rintro _ w11k ⟨s16, rfl, h5t, h5u⟩
 refine dR z z (mv z) ?_
 iterate 3 refine dR z z (ext_ z z) ?_
 iterate 3 refine dR z z (asg z) ?_
 refine PR_done (Wo (Wq (WC_block (Ws (Rm z (R z (not_ z) (Ra z (Wn (Wc z (fun hc3i => ?_) (fun hc3i => ?_))))))))))
 ·refine Ws (R z (bP (parts := []) (cs := [vI 0, sl none 0 0, sl none 0 0]) build_118 z z) (Rm z (E0 (fs (cur' := [vI 0, sl none 0 0, sl none 0 0]) z_118 z z ((((h13.ext h10).chg h11 (djs (mmr h13.lt))).ext s17).ext s16) z (lb z) (oA z) z) ?_)))
  rintro _ w11l ⟨h9a, s9b⟩
  refine Ra z (Ra z (Wn ?_))
  obtain rfl := som (ifT hm5s hc3i)
  exact Wr (rtO (ret3 hr (resC g_118 z_118 z h9a z) z z ⟨(bM (bup (bup (bM (bup (bup h12 h14) h10) h11 (mem1le h1z)) s17) s16) s9b.one (mem1le h12.size)), none, 0, 0, [], none, 0, 0, [], z, (ii z), onL, onL, p4_0, (ii z), nd0, al0⟩))
 have hm5v := ifF hm5s hc3i
 refine Ws (R z (fd f_144_1 z) ?_)
 have h5w := h5p.ext s16
 refine R z (l1 g_3 z fid (h5w.at z)) (R z (eql z z) (Ra z (Wn (Wc z (fun hc3j => ?_) (fun hc3j => ?_)))))
 ·refine Ws (Rm z (Rm z (Rm z ?_)))
  have h3k := lt_ h3h s16.size
  obtain ⟨r9c, r11m, r11n, e9d, hm9e⟩ := bd3S (ifT hm5v hc3j)
  refine E z (fc call168 z (W_w0w (B := B) e9d (lt_ hBw h3k) (h3g.ext s16) h5u h5t)) ?_
  rintro _ w11o ⟨s5x, a5y, n5z, c60, S9f, a61, n62, c63, S9g, rfl, h9h, h9i, h9j, h9k, h9l, h3l, h2c⟩
  iterate 3 refine R z (ext_ z z) ?_
  refine E0 (fs (cur' := [vI r9c.number, sl a5y n5z c60, sl a61 n62 c63]) z_118 z z (((((h13.ext h10).chg h11 (djs (mmr h13.lt))).ext s17).ext s16).ext s5x) z (lb z) (oA z) z) ?_
  rintro _ w11p ⟨h9m, s9n⟩
  have h3m := s9n.one
  refine Ra z (Ra z (Wn ?_))
  obtain rfl := som hm9e
  have h64 := lt_ (lt_ (lt_ h10.size h11.size) s17.size) s16.size
  exact Wr (rtO (ret3 hr (resC g_118 z_118 z h9m z) z z ⟨(bM (bup (bup (bup (bM (bup (bup h12 h14) h10) h11 (mem1le h1z)) s17) s16) s5x) h3m (mem1le h12.size)), a5y, n5z, c60, S9f, a61, n62, c63, S9g, z, h9h, (h9i.chg h3m (o0n1 (all_left h2c) h13.lt h64)), (h9j.chg h3m (o0n1 (all_right h2c) h13.lt h64)), h9k, h9l, (nd_app (nd_left h3l) (nd_right h3l) (nd_dj h3l)), (all_app (o0le (all_left h2c) h3k) (o0le (all_right h2c) h3k))⟩))
 have hm65 := ifF hm5v hc3j
 refine Ws (Rm z (R z (rd_gtr z z) (Ra z (Wn (Wc z (fun hc3n => ?_) (fun hc3n => ?_))))))
 ·refine Ws (R z (bP (parts := []) (cs := [vI 0, sl none 0 0, sl none 0 0]) build_118 z z) (Rm z (E0 (fs (cur' := [vI 0, sl none 0 0, sl none 0 0]) z_118 z z ((((h13.ext h10).chg h11 (djs (mmr h13.lt))).ext s17).ext s16) z (lb z) (oA z) z) ?_)))
  rintro _ w11q ⟨h9o, s9p⟩
  refine Ra z (Ra z (Wn ?_))
  obtain rfl := som (ifT hm65 hc3n)
  exact Wr (rtO (ret3 hr (resC g_118 z_118 z h9o z) z z ⟨(bM (bup (bup (bM (bup (bup h12 h14) h10) h11 (mem1le h1z)) s17) s16) s9p.one (mem1le h12.size)), none, 0, 0, [], none, 0, 0, [], z, (ii z), onL, onL, p4_0, (ii z), nd0, al0⟩))
 refine Wk (Ws (R z (lN (vs := [sl A0 N0 C0]) g_95 z_95 z z fid ((h5o.ext s16).row 0 1 z)) (R z (lN (vs := (vR x15 a19 n1a c1b a1c n1d c1e a1f n1g c1h a1i n1j c1k)) g_144 z_144 z z fid (h5w.row 0 8 z)) (Rm z (Rm z (Rm z ?_))))))
 have h3o := lt_ h3h s16.size
 obtain ⟨r9q, r11r, r11s, e9r, hm9s⟩ := bd3S (ifF hm65 hc3n)
 refine E z (fc call170 z (ih1.run (B := B) e9r (lt_ hBw h3o) (h5r.ext s16) h1q h1r h1o ((((h1p.ext h10).chg h11 (lg h20)).ext s17).ext s16) ((((h1s.ext h10).chg h11 (lg h20)).ext s17).ext s16) ((((h1t.ext h10).chg h11 (lg h20)).ext s17).ext s16) (h5q.ext s16) (ii z) h5t (h3g.ext s16) h5u)) ?_
 rintro _ w11t ⟨s66, a67, n68, c69, S9t, a6a, n6b, c6c, S9u, rfl, h9v, h9w, h9x, h9y, h9z, h3p, h2d⟩
 iterate 3 refine R z (ext_ z z) ?_
 refine E0 (fs (cur' := [vI r9q.number, sl a67 n68 c69, sl a6a n6b c6c]) z_118 z z (((((h13.ext h10).chg h11 (djs (mmr h13.lt))).ext s17).ext s16).ext s66) z (lb z) (oA z) z) ?_
 rintro _ w11u ⟨h100, s101⟩
 have h3q := s101.one
 refine Ra z (Ra z (Wn ?_))
 obtain rfl := som hm9s
 have h6d := lt_ (lt_ (lt_ h10.size h11.size) s17.size) s16.size
 exact Wr (ret3 hr (resC g_118 z_118 z h100 z) z z ⟨(bM (bup (bup (bup (bM (bup (bup h12 h14) h10) h11 (mem1le h1z)) s17) s16) s66) h3q (mem1le h12.size)), a67, n68, c69, S9t, a6a, n6b, c6c, S9u, z, h9v, (h9w.chg h3q (o0n1 (all_left h2d) h13.lt h6d)), (h9x.chg h3q (o0n1 (all_right h2d) h13.lt h6d)), h9y, h9z, (nd_app (nd_left h3p) (nd_right h3p) (nd_dj h3p)), (all_app (o0le (all_left h2d) h3o) (o0le (all_right h2d) h3o))⟩)
theorem T_w0x (ih : I_spec_l11Read n) : S_spec_l11Items (B_spec_l11Items n (F_spec_l11Read n)) := by
 obtain ⟨ih0, ih1, ih2, ih3, ih4⟩ := ih
 constructor
 intro B N0 C0 N2 C2 N4 C4 N1 C1 N5 C5 NE CE A0 A2 A4 A1 A5 AE x1 x2 x3 x4 x5 x6 res w0 hm hBw p1_0 p2_0 p2_1 p2_2 p2_4 p2_5 p2_6 p2_7 p3_0 p4_0 p5_0 p6_0
 unfold B_spec_l11Items at hm
 refine goF func170 z z (lb z) fun fn hr => Ws (E z (fb z) ?_)
 rintro _ w1t ⟨rfl, h33⟩
 have h17 := h33.below
 have h2i : Blk w1t w0.z [sl A0 N0 C0] := h33.blk
 refine E z (fb z) ?_
 rintro _ w1k ⟨rfl, h34⟩
 have h15 := h34.below
 have h2j : Blk w1k w1t.z (vR x2 A2 N2 C2 A4 N4 C4 A1 N1 C1 A5 N5 C5) := h34.blk
 refine E z (fa zero_118) ?_
 rintro _ w16 ⟨rfl, h35⟩
 have h13 := h35.below
 have h1w : Blk w16 w1k.z [vI 0, sl none 0 0, sl none 0 0] := h35.blk
 refine Ra z (Ra z (Wn (Ws (R z (bP (parts := []) (cs := [vI 0, sl none 0 0, sl none 0 0]) build_118 z z) (E z (fa zero_118) ?_)))))
 rintro _ w56 ⟨rfl, h36⟩
 have h12 := h36.below
 have h1x : Blk w56 w16.z [vI 0, sl none 0 0, sl none 0 0] := h36.blk
 refine E0 (fs (cur' := [vI 0, sl none 0 0, sl none 0 0]) z_118 z z h1x z (lb z) (oA z) z) ?_
 rintro _ w19 ⟨h57, s58⟩
 have h10 := s58.one
 refine Wn (Wq (Ws (Ra z (Wn ?_))))
 obtain ⟨u7s, hu59, hm37⟩ := bdS hm
 refine WC_forN (σ := Int × (List Val)) (ρ := Val × Int × Int) (fun (k28 : Nat) s a w => un2 (fun x1f x1u => ∃ a1b n1c c1d S1a, Sat 52 [(2, vI x3), (3, vI x4), (4, sl AE NE CE), (5, vI x1f), (6, pt w0.z), (7, pt w1t.z), (12, pt w1k.z), (15, pt w16.z), (16, (vI ((k28 : Nat) : Int)))] a ∧ Chg (· ∈ [w16.z]) w19 w ∧ inI x1f ∧ ownS w S1a (sl a1b n1c c1d) x1u ∧ S1a.Nodup ∧ (∀ k ∈ S1a, w19.z ≤ k) ∧ Blk w w16.z [vI 0, sl none 0 0, sl a1b n1c c1d]) s) (fun s a w => un2 (fun x1f x1u => ∃ a1b n1c c1d S1a, Sat 52 [(5, vI x1f), (12, pt w1k.z), (15, pt w16.z)] a ∧ Chg (· ∈ [w16.z]) w19 w ∧ inI x1f ∧ ownS w S1a (sl a1b n1c c1d) x1u ∧ S1a.Nodup ∧ (∀ k ∈ S1a, w19.z ≤ k) ∧ Blk w w16.z [vI 0, sl none 0 0, sl a1b n1c c1d]) s) (fun r ex a w => ex = .ret ∧ RetPost prog fn (Q17 w0 B r) a w) hu59 ?_ ?_ ?_ ?_ ?_
 ·exact fun _ q => ⟨none, 0, 0, [], (q.k (s9 z z z z z z z z z)), (cr [w16.z] w19), p6_0, onL, nd_nil, all_nil, h57⟩
 ·rintro k28 ⟨x1f, x1u⟩ a7t w1l o7u hk29 ⟨a1b, n1c, c1d, S1a, hS5a, s11, h1m, h1n, h1y, h1i, h1z⟩ hm5b
  have hm5c := un2S hm5b
  refine Wu ?_ hS5a
  refine Wq (Ws (Rm z (Rm z (R z (lss z z) (Wn (Wc z (fun _ => ?_) (fun hc => (noltI hk29 hc).elim)))))))
  refine Wk (Wq (WC_block (Wq ?_)))
  obtain ⟨u5d, hu38, hm5e⟩ := bdS hm5c
  refine WC_cut (fun a w => ∃ (x1o : Int) (x2a : List UInt8) (x2b : List Val) (x20 : Int) (x2c : Int), (x1o, x2a, x2b, x20, x2c) = u5d ∧ ∃ a21 n22 c23 S1p a24 n25 c26 S1q g1v, Sat 52 [(2, vI x3), (3, vI x4), (4, sl AE NE CE), (6, pt w0.z), (7, pt w1t.z), (12, pt w1k.z), (15, pt w16.z), (16, (vI ((k28 : Nat) : Int))), (17, pt g1v), (18, vI x20), (19, vI x2c)] a ∧ Below w1l.z w1l w ∧ inI x1o ∧ ownS w S1p (sl a21 n22 c23) x2a ∧ S1p.Nodup ∧ (∀ k ∈ S1p, w1l.z ≤ k) ∧ ownS w S1q (sl a24 n25 c26) x2b ∧ S1q.Nodup ∧ (∀ k ∈ S1q, w1l.z ≤ k) ∧ (∀ k ∈ S1q, k ∉ S1p) ∧ inI x20 ∧ inI x2c ∧ Blk w g1v [vI x1o, sl a21 n22 c23, sl a24 n25 c26] ∧ w1l.z ≤ g1v ∧ (∀ k ∈ S1p, k ∉ [g1v]) ∧ (∀ k ∈ S1q, k ∉ [g1v])) ?_ ?_
  ·refine WC_draw (X := fun k => k ∈ ([] : List Nat) ∨ w1l.z ≤ k) 0 (.rd 0 (.rd 1 (.rd 2 (.rd 3 (.rd 5 (.rd 6 (.br 4 (.br 7 (.rd 8 (.rd 9 (.rd 10 (.rd 11 (.ef 12 (.ef 13 (.rd 14 (.rd 15 .done)))))))) 12 (.ef 7 (.rd 8 (.rd 9 (.rd 10 (.rd 11 (.ef 13 (.rd 14 (.rd 15 .done))))))))) 12 (.ef 4 (.ef 7 (.rd 8 (.rd 9 (.rd 10 (.rd 11 (.ef 13 (.rd 14 (.rd 15 .done)))))))))))))))) mo (by kernel_rfl) fun w39 s14 _ => ?_
   have h3a := lt_ h15.size h13.size
   have h3b := mm1 h2i.lt h3a
   refine dR z z (lN (vs := [sl A0 N0 C0]) g_95 z_95 z z (notNew nm0 (Nat.lt_of_lt_of_le h2i.lt (lt_ (lt_ (lt_ h3a h12.size) h10.size) s11.size))) (((((((h2i.ext h15).ext h13).ext h12).chg h10 (djs h3b)).chg s11 (djs h3b)).ext s14).row 0 1 z)) ?_
   have h3c := mm1 h2j.lt h13.size
   refine dR z z (lN (vs := (vR x2 A2 N2 C2 A4 N4 C4 A1 N1 C1 A5 N5 C5)) g_144 z_144 z z (notNew nm0 (Nat.lt_of_lt_of_le h2j.lt (lt_ (lt_ (lt_ h13.size h12.size) h10.size) s11.size))) ((((((h2j.ext h13).ext h12).chg h10 (djs h3c)).chg s11 (djs h3c)).ext s14).row 0 8 z)) ?_
   iterate 4 refine dR z z (mv z) ?_
   refine PR_br ?_ ?_
   ·have h3d := lt_ (lt_ h17.size h15.size) h13.size
    have h18 := mem1le (lt_ hBw h3d)
    have h2k := lt_ (lt_ (lt_ (lt_ h3d h12.size) h10.size) s11.size) s14.size
    obtain ⟨r7v, e5f, hm3e⟩ := bdS hu38
    refine dE z z (fc call201 z (W_w0e (B := B) e5f (lt_ hBw h2k) p2_0 p2_1 p2_2 (((((((p2_4.ext h17).ext h15).ext h13).ext h12).chg h10 (lg h18)).chg s11 (lg h18)).ext s14) (((((((p2_5.ext h17).ext h15).ext h13).ext h12).chg h10 (lg h18)).chg s11 (lg h18)).ext s14) (((((((p2_6.ext h17).ext h15).ext h13).ext h12).chg h10 (lg h18)).chg s11 (lg h18)).ext s14) (((((((p2_7.ext h17).ext h15).ext h13).ext h12).chg h10 (lg h18)).chg s11 (lg h18)).ext s14) p3_0 (inI_cnt (Nat.le_of_lt hk29) (toNat_le p4_0)))) (.inr fun _ _ h => chgB (h.1)) ?_
    rintro _ w3f ⟨s1g, rfl, h3g⟩
    refine PR_br ?_ ?_
    ·obtain ⟨r2d, r5g, r5h, e5i, hm5j⟩ := bd3S hm3e
     refine dE z z (fc call147 z (ih0.run (B := B) e5i (lt_ hBw (lt_ h2k s1g.size)) ((((((((p1_0.ext h17).ext h15).ext h13).ext h12).chg h10 (lg h18)).chg s11 (lg h18)).ext s14).ext s1g) h3g ((((((((p5_0.ext h17).ext h15).ext h13).ext h12).chg h10 (lg h18)).chg s11 (lg h18)).ext s14).ext s1g) h1m)) (.inr fun _ _ h => chgB (h.1)) ?_
     rintro _ w3h ⟨s3i, a3j, n3k, c3l, S5k, a3m, n3n, c3o, S5l, rfl, h5m, h3p, h3q, h5n, h5o, h2l, h3r⟩
     refine dR z z (mv z) ?_
     iterate 3 refine dR z z (ext_ z z) ?_
     refine dE z z (fa zero_118) (.inr fun _ _ h => chgB (h.2.below)) ?_
     rintro _ w5p ⟨rfl, h3s⟩
     have h2m := h3s.below
     have h5q : Blk w5p w3h.z [vI 0, sl none 0 0, sl none 0 0] := h3s.blk
     have h2n := lt_ s14.size s1g.size
     have h2o := mem1le (lt_ h2n s3i.size)
     refine dE0 z (fs (cur' := [vI r2d.number, sl a3j n3k c3l, sl a3m n3n c3o]) z_118 z z h5q z (lb z) (oA z) z) (.inr fun _ _ h => chgNew (atp h2o) h.2) ?_
     rintro _ w7w ⟨h5r, s5s⟩
     have h2p := s5s.one
     refine dR z z (asg z) (dR z z (asg z) (PR_done ?_))
     have h3t := mnr (ownS.lt h3p)
     have h3u := mnr (ownS.lt h3q)
     exact fun _ q => ⟨r2d.number, r2d.bytes, r2d.items, r5g, r5h, som hm5j, a3j, n3k, c3l, S5k, a3m, n3n, c3o, S5l, w3h.z, (q.k (sc z (sc z (sc z (sc z (sc z (sc z (sc z (sc z (sc z (sc z (sc z sn)))))))))))), (bM (bup (bup (bup s14 s1g) s3i) h2m) h2p h2o), h5m, ((h3p.ext h2m).chg h2p (dj_symm h3t)), (nd_left h2l), (o0le (all_left h3r) h2n), ((h3q.ext h2m).chg h2p (dj_symm h3u)), (nd_right h2l), (o0le (all_right h3r) h2n), (dj_symm (nd_dj h2l)), h5n, h5o, h5r, (atp h2o), (dj_symm h3t), (dj_symm h3u)⟩
    refine dE z z (fa zero_118) (.inr fun _ _ h => chgB (h.2.below)) ?_
    rintro _ w5t ⟨rfl, h3v⟩
    have h27 := h3v.below
    have h2q : Blk w5t w3f.z [vI 0, sl none 0 0, sl none 0 0] := h3v.blk
    obtain ⟨r2e, r5u, r5v, e5w, hm5x⟩ := bd3S hm3e
    refine dE z z (fc call147 z (ih0.run (B := B) e5w (lt_ hBw (lt_ (lt_ h2k s1g.size) h27.size)) (((((((((p1_0.ext h17).ext h15).ext h13).ext h12).chg h10 (lg h18)).chg s11 (lg h18)).ext s14).ext s1g).ext h27) h3g (((((((((p5_0.ext h17).ext h15).ext h13).ext h12).chg h10 (lg h18)).chg s11 (lg h18)).ext s14).ext s1g).ext h27) h1m)) (.inr fun _ _ h => chgB (h.1)) ?_
    rintro _ w7x ⟨s3w, a3x, n3y, c3z, S5y, a40, n41, c42, S5z, rfl, h60, h61, h62, h63, h64, h2r, h2f⟩
    refine dR z z (mv z) ?_
    iterate 3 refine dR z z (ext_ z z) ?_
    have h43 := lt_ s14.size s1g.size
    have h2s := mem1le h43
    refine dE0 z (fs (cur' := [vI r2e.number, sl a3x n3y c3z, sl a40 n41 c42]) z_118 z z (h2q.ext s3w) z (lb z) (oA z) z) (.inr fun _ _ h => chgNew (atp h2s) h.2) ?_
    rintro _ w7y ⟨h65, s66⟩
    have h2t := s66.one
    refine dR z z (asg z) (dR z z (asg z) (PR_done ?_))
    have h44 := o0n1 (all_left h2f) h2q.lt lr
    have h45 := lt_ h43 h27.size
    have h46 := o0n1 (all_right h2f) h2q.lt lr
    exact fun _ q => ⟨r2e.number, r2e.bytes, r2e.items, r5u, r5v, som hm5x, a3x, n3y, c3z, S5y, a40, n41, c42, S5z, w3f.z, (q.k (sc z (sc z (sc z (sc z (sc z (sc z (sc z (sc z (sc z (sc z (sc z sn)))))))))))), (bM (bup (bup (bup s14 s1g) h27) s3w) h2t h2s), h60, (h61.chg h2t h44), (nd_left h2r), (o0le (all_left h2f) h45), (h62.chg h2t h46), (nd_right h2r), (o0le (all_right h2f) h45), (dj_symm (nd_dj h2r)), h63, h64, h65, (atp h2s), h44, h46⟩
   refine dE z z (fa zero_118) (.inr fun _ _ h => chgB (h.2.below)) ?_
   rintro _ w67 ⟨rfl, h47⟩
   have h1h := h47.below
   have h2u : Blk w67 w39.z [vI 0, sl none 0 0, sl none 0 0] := h47.blk
   have h48 := lt_ (lt_ h17.size h15.size) h13.size
   have h1e := mem1le (lt_ hBw h48)
   have h49 := lt_ (lt_ (lt_ (lt_ (lt_ h48 h12.size) h10.size) s11.size) s14.size) h1h.size
   obtain ⟨r7z, e68, hm69⟩ := bdS hu38
   refine dE z z (fc call201 z (W_w0e (B := B) e68 (lt_ hBw h49) p2_0 p2_1 p2_2 ((((((((p2_4.ext h17).ext h15).ext h13).ext h12).chg h10 (lg h1e)).chg s11 (lg h1e)).ext s14).ext h1h) ((((((((p2_5.ext h17).ext h15).ext h13).ext h12).chg h10 (lg h1e)).chg s11 (lg h1e)).ext s14).ext h1h) ((((((((p2_6.ext h17).ext h15).ext h13).ext h12).chg h10 (lg h1e)).chg s11 (lg h1e)).ext s14).ext h1h) ((((((((p2_7.ext h17).ext h15).ext h13).ext h12).chg h10 (lg h1e)).chg s11 (lg h1e)).ext s14).ext h1h) p3_0 (inI_cnt (Nat.le_of_lt hk29) (toNat_le p4_0)))) (.inr fun _ _ h => chgB (h.1)) ?_
   rintro _ w80 ⟨s1j, rfl, h6a⟩
   obtain ⟨r2g, r6b, r6c, e6d, hm6e⟩ := bd3S hm69
   refine dE z z (fc call147 z (ih0.run (B := B) e6d (lt_ hBw (lt_ h49 s1j.size)) (((((((((p1_0.ext h17).ext h15).ext h13).ext h12).chg h10 (lg h1e)).chg s11 (lg h1e)).ext s14).ext h1h).ext s1j) h6a (((((((((p5_0.ext h17).ext h15).ext h13).ext h12).chg h10 (lg h1e)).chg s11 (lg h1e)).ext s14).ext h1h).ext s1j) h1m)) (.inr fun _ _ h => chgB (h.1)) ?_
   rintro _ w81 ⟨s4a, a4b, n4c, c4d, S6f, a4e, n4f, c4g, S6g, rfl, h6h, h6i, h6j, h6k, h6l, h2v, h2h⟩
   refine dR z z (mv z) ?_
   iterate 3 refine dR z z (ext_ z z) ?_
   have h2w := mem1le s14.size
   refine dE0 z (fs (cur' := [vI r2g.number, sl a4b n4c c4d, sl a4e n4f c4g]) z_118 z z ((h2u.ext s1j).ext s4a) z (lb z) (oA z) z) (.inr fun _ _ h => chgNew (atp h2w) h.2) ?_
   rintro _ w82 ⟨h6m, s6n⟩
   have h2x := s6n.one
   refine dR z z (asg z) (dR z z (asg z) (PR_done ?_))
   have h4h := o0n1 (all_left h2h) h2u.lt s1j.size
   have h4i := lt_ (lt_ s14.size h1h.size) s1j.size
   have h4j := o0n1 (all_right h2h) h2u.lt s1j.size
   exact fun _ q => ⟨r2g.number, r2g.bytes, r2g.items, r6b, r6c, som hm6e, a4b, n4c, c4d, S6f, a4e, n4f, c4g, S6g, w39.z, (q.k (sc z (sc z (sc z (sc z (sc z (sc z (sc z (sc z (sc z (sc z (sc z sn)))))))))))), (bM (bup (bup (bup s14 h1h) s1j) s4a) h2x h2w), h6h, (h6i.chg h2x h4h), (nd_left h2v), (o0le (all_left h2h) h4i), (h6j.chg h2x h4j), (nd_right h2v), (o0le (all_right h2h) h4i), (dj_symm (nd_dj h2v)), h6k, h6l, h6m, (atp h2w), h4h, h4j⟩
  rintro a6o w4k ⟨x1o, x2a, x2b, x20, x2c, rfl, a21, n22, c23, S1p, a24, n25, c26, S1q, g1v, hS83, s1r, h6p, h6q, h6r, h2y, h6s, h6t, h2z, h6u, h4l, h6v, h6w, h84, h85, h86⟩
  have hm4m := un5S hm5e
  revert a6o
  refine Wo (Wq (Ws (Rm z (R z (nq z z) (Wn (Wc z (fun hc30 => ?_) (fun hc30 => ?_)))))))
  ·refine Ws (R z (bP (parts := []) (cs := [vI 0, sl none 0 0, sl none 0 0]) build_118 z z) (Rm z (Rm z ?_)))
   have h4n := mmr h1w.lt
   refine E0 (fs (cur' := [vI 0, sl none 0 0, sl none 0 0]) z_118 z z ((((h1w.ext h12).chg h10 (djs h4n)).chg s11 (djs h4n)).ext s1r) z (lb z) (oA z) z) ?_
   rintro _ w87 ⟨h6x, s6y⟩
   refine Ra z (Ra z (Wn ?_))
   have h4o := lt_ h17.size h15.size
   have h4p := mem1le (lt_ h4o h13.size)
   exact Wr (rtO (QO_retL (som (ifT hm4m hc30)).symm (ret3 hr (resC g_118 z_118 z h6x z) z z ⟨(bM (bup (bM (bM (bup (bup (bup h17 h15) h13) h12) h10 h4p) s11 h4p) s1r) s6y.one (mem1le h4o)), none, 0, 0, [], none, 0, 0, [], z, (ii z), onL, onL, h4l, h6v, nd0, al0⟩)))
  refine Wk (Ws (R z (fd f_118_2 z) ?_))
  have h4q := h1z.ext s1r
  refine R z (l1 g_116 z fid (h4q.at z)) (R z (lN (vs := [vI x1o, sl a21 n22 c23, sl a24 n25 c26]) g_118 z_118 z z fid (h6w.row 0 3 z)) (E z (ef_buildSlice [(.tmp 45)] el_116 z z z (szAll z) (lb z) (lb z)) ?_))
  rintro _ w4r ⟨rfl, h4s⟩
  have h1s := h4s.below
  have h6z : Blk w4r w4k.z [vI x1o, sl a21 n22 c23, sl a24 n25 c26] := h4s.blk
  obtain ⟨x70, e71, hm72⟩ := bdS (ifF hm4m hc30)
  refine E z (ef_pushN (α := Val) el_116 e71 z z ((h1n.ext s1r).ext h1s) h1y h6z (Val_mkO (x := (⟨x1o, x2a, x2b⟩ : Val)) (S1 := S1p) (S2 := S1q) h6p (h6q.ext h1s) (h6s.ext h1s)) (all_app (o0no h2y (ownS.lt h1n) lr) (o0no h2z (ownS.lt h1n) lr)) (nd_app h6r h6t (dj_symm h6u))) ?_
  rintro _ w73 ⟨S31, a4t, n4u, c4v, rfl, s4w, h74, h75, h4x⟩
  refine R z (fd f_118_2 z) ?_
  have h4y := o0n1 h1i h1x.lt h10.size
  refine E0 (fs (cur' := [vI 0, sl none 0 0, sl a4t n4u c4v]) z_116 z z ((h4q.ext h1s).chg s4w (djs h4y)) z (lb z) (oA z) z) ?_
  rintro _ w76 ⟨h77, s78⟩
  have h4z := s78.one
  refine Wn (Wg (Rm z (Ra z (Wn (Wg (Rm z (R z (inc_ hk29 (toNat_le p4_0) z z) (Ra z (Wl ?_)))))))))
  have h32 := lt_ h10.size s11.size
  have h79 : ∀ k ∈ S31, k ∉ [w16.z] := or2 h4x h4y (all_app (o0n1 h2y h1x.lt h32) (o0n1 h2z h1x.lt h32)) (ltnot (mem1 h1x.lt) (lt_ (lt_ h32 s1r.size) h1s.size))
  have h7a : ∀ k ∈ S31, w19.z ≤ k := or2 h4x h1i (all_app (o0le h2y s11.size) (o0le h2z s11.size)) (lele (lt_ (lt_ s11.size s1r.size) h1s.size))
  have h7b : Chg (· ∈ [w16.z]) w19 w1l := cM (cr [w16.z] w19) s11 (io sr)
  have h7c : Chg (· ∈ [w16.z]) w19 w4k := cext h7b s1r
  have h7d : Chg (· ∈ [w16.z]) w19 w4r := cext h7c h1s
  have h7e : ∀ k ∈ S1a, k ∈ [w16.z] ∨ w19.z ≤ k := or0 h1i  (leor lr)
  have h7f : Chg (· ∈ [w16.z]) w19 w73 := cM h7d s4w h7e
  have h7g : Chg (· ∈ [w16.z]) w19 w76 := cM h7f h4z (io sr)
  exact fun _ q => ⟨(x20, x70), (som hm72).symm, ⟨a4t, n4u, c4v, S31, (q.k (s9 z z z z z z z z z)), h7g, h4l, (h74.chg h4z h79), h75, h7a, h77⟩⟩
 ·rintro ⟨x1f, x1u⟩ a88 w7h ⟨a1b, n1c, c1d, S1a, hS7i, s7j, h1m, h1n, h1y, h1i, h1z⟩
  refine Wu ?_ hS7i
  refine Wq (Ws (Rm z (Rm z (R z (lss z z) (Wn (Wc z (fun hc => (nolttI hc).elim) (fun _ => ?_)))))))
  have h7k : Chg (· ∈ [w16.z]) w19 w7h := cM (cr [w16.z] w19) s7j (io sr)
  exact WC_exit (fun a' ha' => ⟨rfl, ⟨a1b, n1c, c1d, S1a, (Sat.weaken ha' (s3 z z z)), h7k, h1m, h1n, h1y, h1i, h1z⟩⟩)
 ·rintro ⟨x1f, x1u⟩ a7l w89 rfl ⟨a1b, n1c, c1d, S1a, hS8a, s50, h1m, h1n, h1y, h1i, h1z⟩
  have hm7m := elL hm37
  have hm7n := un2S hm7m
  revert a7l
  refine Wo (Ws (R z (lN (vs := [vI 0, sl none 0 0, sl a1b n1c c1d]) g_118 z_118 z z fid (h1z.row 0 3 z)) (Rm z ?_)))
  have h51 := mmr h1w.lt
  refine E0 (fs (cur' := [vI 0, sl none 0 0, sl a1b n1c c1d]) z_118 z z (((h1w.ext h12).chg h10 (djs h51)).chg s50 (djs h51)) z (lb z) (oA z) z) ?_
  rintro _ w8b ⟨h7o, s7p⟩
  have h52 := s7p.one
  refine Ra z (Ra z (Wn ?_))
  obtain rfl := som hm7n
  have h53 := lt_ h17.size h15.size
  have h54 := lt_ h53 h13.size
  have h55 := mem1le h54
  exact Wr (ret3 hr (resC g_118 z_118 z h7o z) z z ⟨(bM (bM (bM (bup (bup (bup h17 h15) h13) h12) h10 h55) s50 h55) h52 (mem1le h53)), none, 0, 0, [], a1b, n1c, c1d, S1a, z, (ii z), onL, (h1n.chg h52 (o0n1 h1i h1w.lt (lt_ h12.size h10.size))), h1m, (ii z), (nd_app nd_nil h1y all_nil), (all_app all_nil (o0le h1i (lt_ (lt_ h54 h12.size) h10.size)))⟩)
 rintro r8c ex8d a8e w8f rfl ⟨rfl, hq7q⟩
 have hm7r := elR hm37
 obtain rfl := som hm7r
 exact ⟨hq7q, z⟩
end Go.Vw

