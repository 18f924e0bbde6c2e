import Derived.Test.YtfdcdeahjejlmaaGreatDoorVqTModels
import Derived.Test.YtfdcdeahjejlmaaGreatDoorVqAFacts
import Derived.Test.YtfdcdeahjejlmaaGreatDoorVqAExt
import Derived.Test.YtfdcdeahjejlmaaGreatDoorVqFun
import Derived.Test.YtfdcdeahjejlmaaGreatDoorVqCut
import Derived.Test.YtfdcdeahjejlmaaGreatDoorVqShr
import Derived.Test.YtfdcdeahjejlmaaGreatDoorVqArc
import Derived.Test.YtfdcdeahjejlmaaGreatDoorVqPan
import Derived.Test.YtfdcdeahjejlmaaGreatDoorProg
import Derived.Test.YtfdcdeahjejlmaaGreatDoorVqShort
set_option linter.unusedVariables false
namespace Go.Vw
open Go.RowKit Dat Go.Proofs
open Go.Proofs.Tryz
open Go.Vw renaming h_6 → Wq, h_7 → Wg, WC.of_KC → Wo, f_f → Wl, i_J → Wc, i_H → Wr, j_u → Wu, j_h → pT, j_i → pF, j_w → fd, j_x → l1, j_y → lN, h_j → mv, h_k → asg, j_j → lnR, j_F → lss, j_D → eql, j_z → ext_, j_l → bP, h_n → add_, j_2 → inc_, j_G → not_, j_k → at_, i_V → fc, f_j → fs, i_U → fb, i_T → fa, j_a → sr, j_f → cr, j_g → cM, j_e → bM, i_Y → iS, i_X → iA, j_1 → br, j_4 → oA, j_6 → bs, ltge → lg, inor → io, j_E → nq, j_A → lnT, j_B → sb_, j_8 → ar_, j_7 → al_, j_9 → ds, k_r → m1, j_c → nr_, j_b → nl_, h_b → aa_, all_nil → an_, e_n → Wb, h_a → u8, i_O → pD, i_I → We, j_0 → Wt, i_W → fS, e_i → or_, j_v → Wf, j_p → qL, i_N → Wd, h_d → fN, h_c → na_, j_d → nj, j_m → f0, f_l → rX, j_n → tl_, j_o → ic
variable {A0 : Option Addr} {N0 C0 : Nat} {B : Zone} {w0 : World} {A9 : Option Addr} {A8 : Option Addr} {AA : Option Addr} {AB : Option Addr} {N9 C9 : Nat} {N8 C8 : Nat} {NA CA : Nat} {NB CB : Nat} {A1 : Option Addr} {N1 C1 : Nat} {n : Nat} {AD : Option Addr} {ND CD : Nat} {A6 : Option Addr} {N6 C6 : Nat} {AH : Option Addr} {NH CH : Nat} {A3 : Option Addr} {A4 : Option Addr} {A2 : Option Addr} {A5 : Option Addr} {N3 C3 : Nat} {N4 C4 : Nat} {N2 C2 : Nat} {N5 C5 : Nat} {A7 : Option Addr} {N7 C7 : Nat} {AE : Option Addr} {NE CE : Nat} {AC : Option Addr} {NC CC : Nat}
def Q0 (w0 : World) (B : Zone) (r : Int) (v : Value) (w' : World) : Prop := Bw w0 w' ∧ (fun r1 => (vI r1) = v ∧ inI r1) r
theorem W_w0m {x1 : List UInt8} {x2 : Int} {res : Int} (hm : f_J x1 x2 = some res) (hBw : B ≤ w0.z) (p1_0 : a_ w0 B (sl A0 N0 C0) x1) (p2_0 : inI x2) : j_ prog 64 [sl A0 N0 C0, vI x2] w0 (Q0 w0 B res) := by
 unfold f_J at hm
 refine goF func64 z z (lb z) fun fn hr => Ws<|Ra z<|Wn<|Ws<|Rm z<|Rm z<|R z (lnR h_ z p1_0)<|R z (sb_ z z)<|Ra z<|Wn<|Wq<|Ws<|Rm z<|R z (lss z z)<|Wn<|Wc z (fun hc0 => ?_) (fun hc0 => ?_)
 ·refine Ws<|Ra z<|Wn ?_
  obtain rfl := som (ifT hm hc0)
  exact Wr<|d_ hr z ⟨(br w0), z, (ii z)⟩
 refine Wk<|Ws<|Rm z<|Ra z<|Wn ?_
 obtain rfl := som (ifF hm hc0)
 exact Wr<|d_ hr z ⟨(br w0), z, (iS _ _)⟩
theorem W_w1r {x1 : List Str} {x2 : Int} {res : Int} (hm : f_K x1 x2 = some res) (hBw : B ≤ w0.z) (p1_0 : a_ w0 B (sl A0 N0 C0) x1) (p2_0 : inI x2) : j_ prog 160 [sl A0 N0 C0, vI x2] w0 (Q0 w0 B res) := by
 unfold f_K at hm
 refine goF func160 z z (lb z) fun fn hr => Ws<|Ra z<|Wn<|Ws<|Rm z<|Rm z<|R z (lnR a_1 z p1_0)<|R z (sb_ z z)<|Ra z<|Wn<|Wq<|Ws<|Rm z<|R z (lss z z)<|Wn<|Wc z (fun hc2 => ?_) (fun hc2 => ?_)
 ·refine Ws<|Ra z<|Wn ?_
  obtain rfl := som (ifT hm hc2)
  exact Wr<|d_ hr z ⟨(br w0), z, (ii z)⟩
 refine Wk<|Wq<|Ws<|Ra z<|Wn ?_
 obtain ⟨uo, hub, hm5⟩ := bdS (ifF hm hc2)
 refine Wf (σ := Int) (ρ := Int) (fun (k6 : Nat) (x0 : Int) a w => Sat 28 [(0, sl A0 N0 C0), (1, vI x0), (5, (vI ((k6 : Nat) : Int)))] a ∧ Below w0.z w0 w ∧ inI x0) (fun (x0 : Int) a w => Sat 28 [(1, vI x0)] a ∧ Below w0.z w0 w ∧ inI x0) (fun r ex a w => ex = .ret ∧ v_ prog fn (Q0 w0 B r) a w) hub ?_ ?_ ?_ ?_ ?_
 ·exact fun _ q => ⟨(q.k<|s3 z z z), (br w0), (iS _ _)⟩
 ·rintro k6 x0 ap wq os hk7 ⟨hSc, s4, h1⟩ hmd
  refine Wu ?_ hSc
  refine Wq<|Ws<|Rm z<|Rm z ?_
  have h8 := p1_0.e s4
  refine R z (lnR a_1 z h8)<|R z (lss z z)<|Wn<|Wc z (fun _ => ?_) (fun hc => (R_ hk7 hc).elim)
  refine Wk<|Wq<|Wb<|Ws<|Rm z<|Rm z<|Rm z ?_
  obtain ⟨xe, ef, hm9⟩ := bdS hmd
  refine RX z (at_ (α := Str) a_1 z_9 z z z h8 ef) ?_
  rintro _ ⟨bt, ou, csr, rfl, hg, hh, hv⟩
  obtain ⟨rfl, hw⟩ := b_J hh
  refine R z (l1 g_9 z fid<|hg.at0 z)<|R z (lnT d_9 z)<|R z (sb_ z z)<|Ra z<|Wn<|Ws<|Rm z<|R z (lss z z)<|Wn<|Wc z (fun hc3 => ?_) (fun hc3 => ?_)
  ·exact Ws<|Ra z<|Wn<|Wr<|rtO<|qL (som<|ifT hm9 hc3).symm<|d_ hr z ⟨s4, z, (ii z)⟩
  exact Wk<|Wg<|Rm z<|R z (inc_ hk7 (lt_ (a_.len p1_0) H_) z z)<|Ra z<|Wl (fun _ q => ⟨y_ x0 (xe.b.length : Int), (som<|ifF hm9 hc3).symm, ⟨(q.k<|s3 z z z), s4, (iS _ _)⟩⟩)
 ·rintro x0 ax wy ⟨hSi, sa, h1⟩
  refine Wu ?_ hSi
  refine Wq<|Ws<|Rm z<|Rm z<|R z (lnR a_1 z<|p1_0.e sa)<|R z (lss z z)<|Wn<|Wc z (fun hc => (S_ hc).elim) (fun _ => ?_)
  exact We (fun a' ha' => ⟨rfl, ⟨(Sat.weaken ha'<|s1 z), sa, h1⟩⟩)
 ·rintro x0 aj wz rfl ⟨hS10, sk, h1⟩
  have hml := elL hm5
  revert aj
  refine Wo<|Ws<|Rm z<|Ra z<|Wn ?_
  obtain rfl := som hml
  exact Wr<|d_ hr z ⟨sk, z, h1⟩
 rintro r11 ex12 a13 w14 rfl ⟨rfl, hqm⟩
 have hmn := elR hm5
 obtain rfl := som hmn
 exact ⟨hqm, z⟩
theorem W_w0n {x1 : List Int} {x2 : Int} {res : Int} (hm : f_L x1 x2 = some res) (hBw : B ≤ w0.z) (p1_0 : a_ w0 B (sl A0 N0 C0) x1) (p2_0 : inI x2) : j_ prog 161 [sl A0 N0 C0, vI x2] w0 (Q0 w0 B res) := by
 unfold f_L at hm
 refine goF func161 z z (lb z) fun fn hr => Ws<|Ra z<|Wn<|Ws<|Rm z<|Rm z<|R z (lnR B_ z p1_0)<|R z (sb_ z z)<|Ra z<|Wn<|Wq<|Ws<|Rm z<|R z (lss z z)<|Wn<|Wc z (fun hc0 => ?_) (fun hc0 => ?_)
 ·refine Ws<|Ra z<|Wn ?_
  obtain rfl := som (ifT hm hc0)
  exact Wr<|d_ hr z ⟨(br w0), z, (ii z)⟩
 refine Wk<|Ws<|Rm z<|Ra z<|Wn ?_
 obtain rfl := som (ifF hm hc0)
 exact Wr<|d_ hr z ⟨(br w0), z, (iS _ _)⟩
theorem W_w1s {x1 : e_} {x2 : Int} {res : Int} (hm : e_G x1 x2 = some res) (hBw : B ≤ w0.z) (p1_0 : x1.name.b.length ≤ LEN) (p1_1 : inI x1.kind) (p1_2 : inI x1.size) (p1_4 : a_ w0 B (sl A9 N9 C9) x1.bytes) (p1_5 : a_ w0 B (sl A8 N8 C8) x1.names) (p1_6 : a_ w0 B (sl AA NA CA) x1.tags) (p1_7 : a_ w0 B (sl AB NB CB) x1.kids) (p2_0 : inI x2) : j_ prog 144 [(.agg #[Str.v x1.name, vI x1.kind, vI x1.size, vB x1.little, sl A9 N9 C9, sl A8 N8 C8, sl AA NA CA, sl AB NB CB]), vI x2] w0 (Q0 w0 B res) := by
 unfold e_G at hm
 refine goF func144 z z (lb z) fun fn hr => Ws<|E z (fb z) ?_
 rintro _ wl ⟨rfl, ha⟩
 have h0 := ha.below
 have h4 : Blk wl w0.z (vR x1 A9 N9 C9 A8 N8 C8 AA NA CA AB NB CB) := ha.blk
 refine Ra z<|Wn<|Ws<|Rm z<|R z (fd k_y z)<|R z (l1 g_9 z fid<|h4.at z)<|R z (lnT d_9 z)<|R z (sb_ z z)<|Ra z<|Wn<|Wq<|Ws<|Rm z<|R z (lss z z)<|Wn<|Wc z (fun hc5 => ?_) (fun hc5 => ?_)
 ·refine Ws<|Ra z<|Wn ?_
  obtain rfl := som (ifT hm hc5)
  exact Wr<|d_ hr z ⟨h0, z, (ii z)⟩
 refine Wk<|Ws<|R z (fd k_z z)<|R z (l1 J_ z fid<|h4.at z)<|Rm z ?_
 obtain ⟨rv, en, hmb⟩ := bdS (ifF hm hc5)
 refine E z (fc call64 z<|W_w0m (B := B) en (zt' hBw h0.s) (p1_4.e h0)<|iS _ _) ?_
 rintro _ ww ⟨s1, rfl, ho⟩
 refine Ra z<|Wn<|Wq<|Ws<|Rm z<|R z (lss z z)<|Wn<|Wc z (fun hc6 => ?_) (fun hc6 => ?_)
 ·refine Ws<|Ra z<|Wn ?_
  obtain rfl := som (ifT hmb hc6)
  exact Wr<|d_ hr z ⟨(bup h0 s1), z, (ii z)⟩
 refine Wk<|Ws<|R z (fd k_A z) ?_
 have hc := h4.e s1
 refine R z (l1 b_M z fid<|hc.at z)<|Rm z ?_
 have hd := (h0.ag B).e s1
 have he := lt_ h0.s s1.s
 obtain ⟨rx, ep, hmf⟩ := bdS (ifF hmb hc6)
 refine E z (fc call160 z<|W_w1r (B := B) ep (zt' hBw he) (p1_5.g hd) ho) ?_
 rintro _ wy ⟨s2, rfl, hq⟩
 refine Ra z<|Wn<|Wq<|Ws<|Rm z<|R z (lss z z)<|Wn<|Wc z (fun hc7 => ?_) (fun hc7 => ?_)
 ·refine Ws<|Ra z<|Wn ?_
  obtain rfl := som (ifT hmf hc7)
  exact Wr<|d_ hr z ⟨(bup (bup h0 s1) s2), z, (ii z)⟩
 refine Wk<|Ws<|R z (fd k_B z) ?_
 have hg := hc.e s2
 refine R z (l1 G_ z fid<|hg.at z)<|Rm z ?_
 have hh := hd.e s2
 have hi := lt_ he s2.s
 obtain ⟨rz, er, hmj⟩ := bdS (ifF hmf hc7)
 refine E z (fc call161 z<|W_w0n (B := B) er (zt' hBw hi) (p1_6.g hh) hq) ?_
 rintro _ w10 ⟨s3, rfl, ht⟩
 refine Ra z<|Wn<|Wq<|Ws<|Rm z<|R z (lss z z)<|Wn<|Wc z (fun hc8 => ?_) (fun hc8 => ?_)
 ·refine Ws<|Ra z<|Wn ?_
  obtain rfl := som (ifT hmj hc8)
  exact Wr<|d_ hr z ⟨(bup (bup (bup h0 s1) s2) s3), z, (ii z)⟩
 refine Wk<|Ws<|R z (fd k_C z)<|R z (l1 G_ z fid<|(hg.e s3).at z)<|Rm z ?_
 obtain ⟨r11, es, hmk⟩ := bdS (ifF hmj hc8)
 refine E z (fc call161 z<|W_w0n (B := B) es (zt' hBw<|lt_ hi s3.s) (p1_7.g<|hh.e s3) ht) ?_
 rintro _ w12 ⟨sm, rfl, hu⟩
 refine Ra z<|Wn<|Wq<|Ws<|Rm z<|R z (lss z z)<|Wn<|Wc z (fun hc9 => ?_) (fun hc9 => ?_)
 ·refine Ws<|Ra z<|Wn ?_
  obtain rfl := som (ifT hmk hc9)
  exact Wr<|d_ hr z ⟨(bup (bup (bup (bup h0 s1) s2) s3) sm), z, (ii z)⟩
 refine Wk<|Ws<|Rm z<|Ra z<|Wn ?_
 obtain rfl := som (ifF hmk hc9)
 exact Wr<|d_ hr z ⟨(bup (bup (bup (bup h0 s1) s2) s3) sm), z, hu⟩
theorem W_w1t {x1 : List e_} {x2 : Int} {res : Int} (hm : h_V x1 x2 = some res) (hBw : B ≤ w0.z) (p1_0 : a_ w0 B (sl A0 N0 C0) x1) (p2_0 : inI x2) : j_ prog 123 [sl A0 N0 C0, vI x2] w0 (Q0 w0 B res) := by
 unfold h_V at hm
 refine goF func123 z z (lb z) fun fn hr => Ws<|Ra z<|Wn<|Ws<|Rm z<|Rm z<|R z (lnR d_l z p1_0)<|R z (sb_ z z)<|Ra z<|Wn<|Wq<|Ws<|Rm z<|R z (lss z z)<|Wn<|Wc z (fun hc3 => ?_) (fun hc3 => ?_)
 ·refine Ws<|Ra z<|Wn ?_
  obtain rfl := som (ifT hm hc3)
  exact Wr<|d_ hr z ⟨(br w0), z, (ii z)⟩
 refine Wk<|Wq<|Ws<|Ra z<|Wn ?_
 obtain ⟨u1c, huc, hm5⟩ := bdS (ifF hm hc3)
 refine Wf (σ := Int) (ρ := Int) (fun (k6 : Nat) (x0 : Int) a w => Sat 27 [(0, sl A0 N0 C0), (1, vI x0), (5, (vI ((k6 : Nat) : Int)))] a ∧ Below w0.z w0 w ∧ inI x0) (fun (x0 : Int) a w => Sat 27 [(1, vI x0)] a ∧ Below w0.z w0 w ∧ inI x0) (fun r ex a w => ex = .ret ∧ v_ prog fn (Q0 w0 B r) a w) huc ?_ ?_ ?_ ?_ ?_
 ·exact fun _ q => ⟨(q.k<|s3 z z z), (br w0), (iS _ _)⟩
 ·rintro k6 x0 a1d w1e o1f hk7 ⟨hSd, s2, h1⟩ hme
  refine Wu ?_ hSd
  refine Wq<|Ws<|Rm z<|Rm z ?_
  have h8 := p1_0.e s2
  refine R z (lnR d_l z h8)<|R z (lss z z)<|Wn<|Wc z (fun _ => ?_) (fun hc => (R_ hk7 hc).elim)
  refine Wk<|Wq<|Wb<|Ws<|Rm z<|Rm z ?_
  obtain ⟨xf, eg, hmh⟩ := bdS hme
  refine RX z (at_ (α := e_) d_l h_0 z z z h8 eg) ?_
  rintro _ ⟨b1g, o1h, cs1i, rfl, hi, hj, h1j⟩
  obtain ⟨ak, nl, cm, an, no, cp, aq, nr, cs, au, nt, cv, rfl, hw, hx, hy, hz, h10, h11, h12⟩ := b_1 hj
  refine R z (lN (vs := (vR xf ak nl cm an no cp aq nr cs au nt cv)) g_151 h_0 z z fid hi)<|Rm z ?_
  obtain ⟨r13, e14, hm9⟩ := bdS hmh
  refine E z (fc call144 z<|W_w1s (B := B) e14 (zt' hBw s2.s) hw hx hy hz h10 h11 h12 h1) ?_
  rintro _ w1k ⟨sa, rfl, h15⟩
  refine Ra z<|Wn<|Ws<|Rm z<|R z (lss z z)<|Wn<|Wc z (fun hc4 => ?_) (fun hc4 => ?_)
  ·exact Ws<|Ra z<|Wn<|Wr<|rtO<|qL (som<|ifT hm9 hc4).symm<|d_ hr z ⟨(bup s2 sa), z, (ii z)⟩
  exact Wk<|Wg<|Rm z<|R z (inc_ hk7 (lt_ (a_.len p1_0) H_) z z)<|Ra z<|Wl (fun _ q => ⟨r13, (som<|ifF hm9 hc4).symm, ⟨(q.k<|s3 z z z), (bup s2 sa), h15⟩⟩)
 ·rintro x0 a1l w1m ⟨hS16, sb, h1⟩
  refine Wu ?_ hS16
  refine Wq<|Ws<|Rm z<|Rm z<|R z (lnR d_l z<|p1_0.e sb)<|R z (lss z z)<|Wn<|Wc z (fun hc => (S_ hc).elim) (fun _ => ?_)
  exact We (fun a' ha' => ⟨rfl, ⟨(Sat.weaken ha'<|s1 z), sb, h1⟩⟩)
 ·rintro x0 a17 w1n rfl ⟨hS1o, s18, h1⟩
  have hm19 := elL hm5
  revert a17
  refine Wo<|Ws<|Rm z<|Ra z<|Wn ?_
  obtain rfl := som hm19
  exact Wr<|d_ hr z ⟨s18, z, h1⟩
 rintro r1p ex1q a1r w1s rfl ⟨rfl, hq1a⟩
 have hm1b := elR hm5
 obtain rfl := som hm1b
 exact ⟨hq1a, z⟩
theorem W_w1u {x1 : g_} {x2 : Int} {res : Int} (hm : e_H x1 x2 = some res) (hBw : B ≤ w0.z) (p1_0 : a_ w0 B (sl A0 N0 C0) x1.rules) (p2_0 : inI x2) : j_ prog 96 [(.agg #[sl A0 N0 C0]), vI x2] w0 (Q0 w0 B res) := by
 unfold e_H at hm
 refine goF func96 z z (lb z) fun fn hr => Ws<|E z (fb z) ?_
 rintro _ w5 ⟨rfl, h2⟩
 have h0 := h2.below
 have h6 : Blk w5 w0.z [sl A0 N0 C0] := h2.blk
 refine Ra z<|Wn<|Ws<|R z (fd k_x z)<|R z (l1 g_108 z fid<|h6.at z)<|Rm z ?_
 obtain ⟨r9, e7, hm3⟩ := bdS hm
 refine E z (fc call123 z<|W_w1t (B := B) e7 (zt' hBw h0.s) (p1_0.e h0) p2_0) ?_
 rintro _ wa ⟨s4, rfl, h8⟩
 refine Ra z<|Wn<|Wq<|Ws<|Rm z<|R z (lss z z)<|Wn<|Wc z (fun hc1 => ?_) (fun hc1 => ?_)
 ·refine Ws<|Ra z<|Wn ?_
  obtain rfl := som (ifT hm3 hc1)
  exact Wr<|d_ hr z ⟨(bup h0 s4), z, (ii z)⟩
 refine Wk<|Ws<|Rm z<|Ra z<|Wn ?_
 obtain rfl := som (ifF hm3 hc1)
 exact Wr<|d_ hr z ⟨(bup h0 s4), z, h8⟩
theorem W_w1v {x1 : List g_} {x2 : Int} {res : Int} (hm : g_w x1 x2 = some res) (hBw : B ≤ w0.z) (p1_0 : a_ w0 B (sl A0 N0 C0) x1) (p2_0 : inI x2) : j_ prog 63 [sl A0 N0 C0, vI x2] w0 (Q0 w0 B res) := by
 unfold g_w at hm
 refine goF func63 z z (lb z) fun fn hr => Ws<|Ra z<|Wn<|Ws<|Rm z<|Rm z<|R z (lnR d_m z p1_0)<|R z (sb_ z z)<|Ra z<|Wn<|Wq<|Ws<|Rm z<|R z (lss z z)<|Wn<|Wc z (fun hc3 => ?_) (fun hc3 => ?_)
 ·refine Ws<|Ra z<|Wn ?_
  obtain rfl := som (ifT hm hc3)
  exact Wr<|d_ hr z ⟨(br w0), z, (ii z)⟩
 refine Wk<|Wq<|Ws<|Ra z<|Wn ?_
 obtain ⟨uw, huc, hm5⟩ := bdS (ifF hm hc3)
 refine Wf (σ := Int) (ρ := Int) (fun (k6 : Nat) (x0 : Int) a w => Sat 27 [(0, sl A0 N0 C0), (1, vI x0), (5, (vI ((k6 : Nat) : Int)))] a ∧ Below w0.z w0 w ∧ inI x0) (fun (x0 : Int) a w => Sat 27 [(1, vI x0)] a ∧ Below w0.z w0 w ∧ inI x0) (fun r ex a w => ex = .ret ∧ v_ prog fn (Q0 w0 B r) a w) huc ?_ ?_ ?_ ?_ ?_
 ·exact fun _ q => ⟨(q.k<|s3 z z z), (br w0), (iS _ _)⟩
 ·rintro k6 x0 ax wy oz hk7 ⟨hSd, s2, h1⟩ hme
  refine Wu ?_ hSd
  refine Wq<|Ws<|Rm z<|Rm z ?_
  have h8 := p1_0.e s2
  refine R z (lnR d_m z h8)<|R z (lss z z)<|Wn<|Wc z (fun _ => ?_) (fun hc => (R_ hk7 hc).elim)
  refine Wk<|Wq<|Wb<|Ws<|Rm z<|Rm z ?_
  obtain ⟨x10, ef, hmg⟩ := bdS hme
  refine RX z (at_ (α := g_) d_m g_Z z z z h8 ef) ?_
  rintro _ ⟨b11, o12, cs13, rfl, hh, hi, h14⟩
  obtain ⟨aj, nk, cl, rfl, hn⟩ := d_q hi
  refine R z (lN (vs := [sl aj nk cl]) g_110 g_Z z z fid hh)<|Rm z ?_
  obtain ⟨rm, eo, hm9⟩ := bdS hmg
  refine E z (fc call96 z<|W_w1u (B := B) eo (zt' hBw s2.s) hn h1) ?_
  rintro _ w15 ⟨sa, rfl, hp⟩
  refine Ra z<|Wn<|Ws<|Rm z<|R z (lss z z)<|Wn<|Wc z (fun hc4 => ?_) (fun hc4 => ?_)
  ·exact Ws<|Ra z<|Wn<|Wr<|rtO<|qL (som<|ifT hm9 hc4).symm<|d_ hr z ⟨(bup s2 sa), z, (ii z)⟩
  exact Wk<|Wg<|Rm z<|R z (inc_ hk7 (lt_ (a_.len p1_0) H_) z z)<|Ra z<|Wl (fun _ q => ⟨rm, (som<|ifF hm9 hc4).symm, ⟨(q.k<|s3 z z z), (bup s2 sa), hp⟩⟩)
 ·rintro x0 a16 w17 ⟨hSq, sb, h1⟩
  refine Wu ?_ hSq
  refine Wq<|Ws<|Rm z<|Rm z<|R z (lnR d_m z<|p1_0.e sb)<|R z (lss z z)<|Wn<|Wc z (fun hc => (S_ hc).elim) (fun _ => ?_)
  exact We (fun a' ha' => ⟨rfl, ⟨(Sat.weaken ha'<|s1 z), sb, h1⟩⟩)
 ·rintro x0 ar w18 rfl ⟨hS19, ss, h1⟩
  have hmt := elL hm5
  revert ar
  refine Wo<|Ws<|Rm z<|Ra z<|Wn ?_
  obtain rfl := som hmt
  exact Wr<|d_ hr z ⟨ss, z, h1⟩
 rintro r1a ex1b a1c w1d rfl ⟨rfl, hqu⟩
 have hmv := elR hm5
 obtain rfl := som hmv
 exact ⟨hqu, z⟩
theorem W_w1w {x1 : V_} {x2 : Int} {res : Int} (hm : i_1 x1 x2 = some res) (hBw : B ≤ w0.z) (p1_0 : a_ w0 B (sl A0 N0 C0) x1.versions) (p2_0 : inI x2) : j_ prog 32 [(.agg #[sl A0 N0 C0]), vI x2] w0 (Q0 w0 B res) := by
 unfold i_1 at hm
 refine goF func32 z z (lb z) fun fn hr => Ws<|E z (fb z) ?_
 rintro _ w5 ⟨rfl, h2⟩
 have h0 := h2.below
 have h6 : Blk w5 w0.z [sl A0 N0 C0] := h2.blk
 refine Ra z<|Wn<|Ws<|R z (fd k_E z)<|R z (l1 g_22 z fid<|h6.at z)<|Rm z ?_
 obtain ⟨r9, e7, hm3⟩ := bdS hm
 refine E z (fc call63 z<|W_w1v (B := B) e7 (zt' hBw h0.s) (p1_0.e h0) p2_0) ?_
 rintro _ wa ⟨s4, rfl, h8⟩
 refine Ra z<|Wn<|Wq<|Ws<|Rm z<|R z (lss z z)<|Wn<|Wc z (fun hc1 => ?_) (fun hc1 => ?_)
 ·refine Ws<|Ra z<|Wn ?_
  obtain rfl := som (ifT hm3 hc1)
  exact Wr<|d_ hr z ⟨(bup h0 s4), z, (ii z)⟩
 refine Wk<|Ws<|Rm z<|Ra z<|Wn ?_
 obtain rfl := som (ifF hm3 hc1)
 exact Wr<|d_ hr z ⟨(bup h0 s4), z, h8⟩
theorem W_w1x {x1 : Log} {x2 : Int} {res : Int} (hm : i_2 x1 x2 = some res) (hBw : B ≤ w0.z) (p1_0 : a_ w0 B (sl A0 N0 C0) x1.bytes) (p1_1 : inI x1.stored) (p2_0 : inI x2) : j_ prog 33 [(.agg #[sl A0 N0 C0, vI x1.stored]), vI x2] w0 (Q0 w0 B res) := by
 unfold i_2 at hm
 refine goF func33 z z (lb z) fun fn hr => Ws<|E z (fb z) ?_
 rintro _ w5 ⟨rfl, h2⟩
 have h0 := h2.below
 have h6 : Blk w5 w0.z [sl A0 N0 C0, vI x1.stored] := h2.blk
 refine Ra z<|Wn<|Ws<|R z (fd k_F z)<|R z (l1 J_ z fid<|h6.at z)<|Rm z ?_
 obtain ⟨r9, e7, hm3⟩ := bdS hm
 refine E z (fc call64 z<|W_w0m (B := B) e7 (zt' hBw h0.s) (p1_0.e h0) p2_0) ?_
 rintro _ wa ⟨s4, rfl, h8⟩
 refine Ra z<|Wn<|Wq<|Ws<|Rm z<|R z (lss z z)<|Wn<|Wc z (fun hc1 => ?_) (fun hc1 => ?_)
 ·refine Ws<|Ra z<|Wn ?_
  obtain rfl := som (ifT hm3 hc1)
  exact Wr<|d_ hr z ⟨(bup h0 s4), z, (ii z)⟩
 refine Wk<|Ws<|Rm z<|Ra z<|Wn ?_
 obtain rfl := som (ifF hm3 hc1)
 exact Wr<|d_ hr z ⟨(bup h0 s4), z, h8⟩
theorem W_w1y {x1 : C_} {x2 : Int} {res : Int} (hm : e_X x1 x2 = some res) (hBw : B ≤ w0.z) (p1_0 : a_ w0 B (sl A0 N0 C0) x1.registry.versions) (p1_1 : a_ w0 B (sl A1 N1 C1) x1.log.bytes) (p1_2 : inI x1.log.stored) (p2_0 : inI x2) : j_ prog 9 [(.agg #[sl A0 N0 C0, sl A1 N1 C1, vI x1.log.stored]), vI x2] w0 (Q0 w0 B res) := by
 unfold e_X at hm
 refine goF func9 z z (lb z) fun fn hr => Ws<|E z (fb z) ?_
 rintro _ w9 ⟨rfl, h4⟩
 have h0 := h4.below
 have h5 : Blk w9 w0.z [sl A0 N0 C0, sl A1 N1 C1, vI x1.log.stored] := h4.blk
 refine Ra z<|Wn<|Ws<|R z (fd k_G z)<|R z (lN (vs := [sl A0 N0 C0]) g_24 z_24 z z fid<|h5.row 0 1 z)<|Rm z ?_
 obtain ⟨re, ea, hm6⟩ := bdS hm
 refine E z (fc call32 z<|W_w1w (B := B) (x1 := (⟨x1.registry.versions⟩ : V_)) ea (zt' hBw h0.s) (p1_0.e h0) p2_0) ?_
 rintro _ wf ⟨s1, rfl, hb⟩
 refine Ra z<|Wn<|Wq<|Ws<|Rm z<|R z (lss z z)<|Wn<|Wc z (fun hc2 => ?_) (fun hc2 => ?_)
 ·refine Ws<|Ra z<|Wn ?_
  obtain rfl := som (ifT hm6 hc2)
  exact Wr<|d_ hr z ⟨(bup h0 s1), z, (ii z)⟩
 refine Wk<|Ws<|R z (fd k_H z)<|R z (lN (vs := [sl A1 N1 C1, vI x1.log.stored]) g_27 z_27 z z fid<|(h5.e s1).row 1 2 z)<|Rm z ?_
 obtain ⟨rg, ec, hm7⟩ := bdS (ifF hm6 hc2)
 refine E z (fc call33 z<|W_w1x (B := B) (x1 := (⟨x1.log.bytes, x1.log.stored⟩ : Log)) ec (zt' hBw<|lt_ h0.s s1.s) (p1_1.g<|(h0.ag B).e s1) p1_2 hb) ?_
 rintro _ wh ⟨s8, rfl, hd⟩
 refine Ra z<|Wn<|Wq<|Ws<|Rm z<|R z (lss z z)<|Wn<|Wc z (fun hc3 => ?_) (fun hc3 => ?_)
 ·refine Ws<|Ra z<|Wn ?_
  obtain rfl := som (ifT hm7 hc3)
  exact Wr<|d_ hr z ⟨(bup (bup h0 s1) s8), z, (ii z)⟩
 refine Wk<|Ws<|Rm z<|Ra z<|Wn ?_
 obtain rfl := som (ifF hm7 hc3)
 exact Wr<|d_ hr z ⟨(bup (bup h0 s1) s8), z, hd⟩
def Q1 (w0 : World) (B : Zone) (r : (List UInt8)) (v : Value) (w' : World) : Prop := Bw w0 w' ∧ (fun r1 => ∃ a1 n1 c1 S1, (sl a1 n1 c1) = v ∧ b_ w' S1 (sl a1 n1 c1) r1 ∧ S1.Nodup ∧ (∀ k ∈ S1, w0.z ≤ k)) r
theorem W_w0o {x1 : List UInt8} {res : (List UInt8)} (hm : e_I x1 = some res) (hBw : B ≤ w0.z) (p1_0 : a_ w0 B (sl A0 N0 C0) x1) : j_ prog 24 [sl A0 N0 C0] w0 (Q1 w0 B res) := by
 unfold e_I at hm
 refine goF func24 z z (lb z) fun fn hr => Ws<|Ra z<|Wn<|Ws<|Rm z<|R z (lnR h_ z p1_0) ?_
 obtain ⟨x1h, ej, hmk⟩ := bdS hm
 refine E z (d_V (α := UInt8) D_ (fun _ => l_5) ej z z) ?_
 rintro _ w1 ⟨a4, n5, c6, rfl, s9, hl⟩
 refine Ra z<|Wn<|Wq<|Ws<|Ra z<|Wn ?_
 obtain ⟨u1i, hum, hmb⟩ := bdS hmk
 refine Wf (σ := (List UInt8)) (ρ := (List UInt8)) (fun (kc : Nat) (x2 : List UInt8) a w => ∃  (S0 : List Nat), Sat 22 [(0, sl A0 N0 C0), (3, sl a4 n5 c6), (4, (vI ((kc : Nat) : Int)))] a ∧ Chg (· ∈ [w0.z]) w1 w ∧ b_ w S0 (sl a4 n5 c6) x2 ∧ S0.Nodup ∧ (∀ k ∈ S0, k ∈ [w0.z] ∨ w1.z ≤ k)) (fun (x2 : List UInt8) a w => ∃  (S0 : List Nat), Sat 22 [(3, sl a4 n5 c6)] a ∧ Chg (· ∈ [w0.z]) w1 w ∧ b_ w S0 (sl a4 n5 c6) x2 ∧ S0.Nodup ∧ (∀ k ∈ S0, k ∈ [w0.z] ∨ w1.z ≤ k)) (fun r ex a w => ex = .ret ∧ v_ prog fn (Q1 w0 B r) a w) hum ?_ ?_ ?_ ?_ ?_
 ·exact fun _ q => ⟨[w0.z], (q.k<|s3 z z z), (cr [w0.z] w1), hl, a_0, (io sr)⟩
 ·rintro kc x2 a1j wn o1k hkd ⟨S0, hSo, sa, h3, h7, h8⟩ hmp
  refine Wu ?_ hSo
  refine Wq<|Ws<|Rm z<|Rm z ?_
  have hq : ∀ k ∈ [w0.z], ¬ B k := or0 (f_ lr)  (r_ hBw)
  have he := p1_0.g<|(s9.ag B).c sa<|k_ hq
  refine R z (lnR h_ z he)<|R z (lss z z)<|Wn<|Wc z (fun _ => ?_) (fun hc => (R_ hkd hc).elim)
  refine Wk<|Wq<|Wb<|Wg<|Rm z<|Rm z<|Rm z<|Rm z ?_
  obtain ⟨x1l, er, hms⟩ := bdS hmp
  refine RX z (at_ (α := UInt8) h_ z_5 z z z he er) ?_
  rintro _ ⟨b1m, o1n, cs1o, rfl, ht, hu, h1p⟩
  obtain rfl := u8 hu
  refine R z (l1 g_5 z fid<|ht.at0 z) ?_
  obtain ⟨xv, ef, hmw⟩ := bdS hms
  refine RX z (d_1 (α := UInt8) h_ z_5 z z h3 ef) ?_
  rintro _ ⟨g1q, hx, rfl⟩
  refine E0 (c_E (α := UInt8) z_5 z hx z z z ef h3 h7 a_z an_ K_) ?_
  rintro _ wy ⟨Sg, sz, h10, h11, h12⟩
  refine Wn<|Wg<|Rm z<|R z (inc_ hkd (lt_ (a_.len p1_0) H_) z z)<|Ra z<|Wl ?_
  have hh : ∀ k ∈ S0, k ∈ [w0.z] ∨ w1.z ≤ k := or1 h8 (io sr) (l_ lr)
  have h13 : ∀ k ∈ Sg, k ∈ [w0.z] ∨ w1.z ≤ k := or2 h12 hh an_ (l_ sa.s)
  have h14 : Chg (· ∈ [w0.z]) w1 wn := cM (cr [w0.z] w1) sa (io sr)
  have h15 : Chg (· ∈ [w0.z]) w1 wy := cM h14 sz hh
  exact fun _ q => ⟨xv, (som hmw).symm, ⟨Sg, (q.k<|s3 z z z), h15, h10, h11, h13⟩⟩
 ·rintro x2 a1r w16 ⟨S0, hS17, si, h3, h7, h8⟩
  refine Wu ?_ hS17
  refine Wq<|Ws<|Rm z<|Rm z ?_
  have h18 : ∀ k ∈ [w0.z], ¬ B k := or0 (f_ lr)  (r_ hBw)
  refine R z (lnR h_ z<|p1_0.g<|(s9.ag B).c si<|k_ h18)<|R z (lss z z)<|Wn<|Wc z (fun hc => (S_ hc).elim) (fun _ => ?_)
  have h19 : ∀ k ∈ S0, k ∈ [w0.z] ∨ w1.z ≤ k := or1 h8 (io sr) (l_ lr)
  have h1a : Chg (· ∈ [w0.z]) w1 w16 := cM (cr [w0.z] w1) si (io sr)
  exact We (fun a' ha' => ⟨rfl, ⟨S0, (Sat.weaken ha'<|s1 z), h1a, h3, h7, h19⟩⟩)
 ·rintro x2 a1b w1s rfl ⟨S0, hS1t, s1c, h3, h7, h8⟩
  have hm1d := elL hmb
  revert a1b
  refine Wo<|Ws<|Rm z<|Ra z<|Wn ?_
  obtain rfl := som hm1d
  have h1e : ∀ k ∈ S0, w0.z ≤ k := or1 h8 (f_ lr) (a_E s9.s)
  exact Wr<|d_ hr z ⟨(bM s9 s1c<|f_ lr), a4, n5, c6, S0, z, h3, h7, h1e⟩
 rintro r1u ex1v a1w w1x rfl ⟨rfl, hq1f⟩
 have hm1g := elR hmb
 obtain rfl := som hm1g
 exact ⟨hq1f, z⟩
def Q2 (w0 : World) (B : Zone) (r : (List Str)) (v : Value) (w' : World) : Prop := Bw w0 w' ∧ (fun r1 => ∃ a1 n1 c1 S1, (sl a1 n1 c1) = v ∧ b_ w' S1 (sl a1 n1 c1) r1 ∧ S1.Nodup ∧ (∀ k ∈ S1, w0.z ≤ k)) r
theorem W_w1z {x1 : List Str} {res : (List Str)} (hm : f_M x1 = some res) (hBw : B ≤ w0.z) (p1_0 : a_ w0 B (sl A0 N0 C0) x1) : j_ prog 174 [sl A0 N0 C0] w0 (Q2 w0 B res) := by
 unfold f_M at hm
 refine goF func174 z z (lb z) fun fn hr => Ws<|Ra z<|Wn<|Ws<|Rm z<|R z (lnR a_1 z p1_0) ?_
 obtain ⟨x1i, ej, hmk⟩ := bdS hm
 refine E z (d_V (α := Str) d_M (fun _ => (d_0<|lb z)) ej z z) ?_
 rintro _ w1 ⟨a4, n5, c6, rfl, s9, hl⟩
 refine Ra z<|Wn<|Wq<|Ws<|Ra z<|Wn ?_
 obtain ⟨u1j, hum, hmb⟩ := bdS hmk
 refine Wf (σ := (List Str)) (ρ := (List Str)) (fun (kc : Nat) (x2 : List Str) a w => ∃  (S0 : List Nat), Sat 22 [(0, sl A0 N0 C0), (3, sl a4 n5 c6), (4, (vI ((kc : Nat) : Int)))] a ∧ Chg (· ∈ [w0.z]) w1 w ∧ b_ w S0 (sl a4 n5 c6) x2 ∧ S0.Nodup ∧ (∀ k ∈ S0, k ∈ [w0.z] ∨ w1.z ≤ k)) (fun (x2 : List Str) a w => ∃  (S0 : List Nat), Sat 22 [(3, sl a4 n5 c6)] a ∧ Chg (· ∈ [w0.z]) w1 w ∧ b_ w S0 (sl a4 n5 c6) x2 ∧ S0.Nodup ∧ (∀ k ∈ S0, k ∈ [w0.z] ∨ w1.z ≤ k)) (fun r ex a w => ex = .ret ∧ v_ prog fn (Q2 w0 B r) a w) hum ?_ ?_ ?_ ?_ ?_
 ·exact fun _ q => ⟨[w0.z], (q.k<|s3 z z z), (cr [w0.z] w1), hl, a_0, (io sr)⟩
 ·rintro kc x2 a1k wn o1l hkd ⟨S0, hSo, sa, h3, h7, h8⟩ hmp
  refine Wu ?_ hSo
  refine Wq<|Ws<|Rm z<|Rm z ?_
  have hq : ∀ k ∈ [w0.z], ¬ B k := or0 (f_ lr)  (r_ hBw)
  have he := p1_0.g<|(s9.ag B).c sa<|k_ hq
  refine R z (lnR a_1 z he)<|R z (lss z z)<|Wn<|Wc z (fun _ => ?_) (fun hc => (R_ hkd hc).elim)
  refine Wk<|Wq<|Wb<|Wg<|Rm z<|Rm z<|Rm z<|Rm z ?_
  obtain ⟨x1m, er, hms⟩ := bdS hmp
  refine RX z (at_ (α := Str) a_1 z_9 z z z he er) ?_
  rintro _ ⟨b1n, o1o, cs1p, rfl, ht, hu, h1q⟩
  obtain ⟨rfl, hv⟩ := b_J hu
  refine R z (l1 g_9 z fid<|ht.at0 z) ?_
  obtain ⟨xw, ef, hmx⟩ := bdS hms
  refine RX z (d_1 (α := Str) a_1 z_9 z z h3 ef) ?_
  rintro _ ⟨g1r, hy, rfl⟩
  refine E0 (c_E (α := Str) z_9 z hy z z z ef h3 h7 (d_0 hv) an_ K_) ?_
  rintro _ wz ⟨Sg, s10, h11, h12, h13⟩
  refine Wn<|Wg<|Rm z<|R z (inc_ hkd (lt_ (a_.len p1_0) H_) z z)<|Ra z<|Wl ?_
  have hh : ∀ k ∈ S0, k ∈ [w0.z] ∨ w1.z ≤ k := or1 h8 (io sr) (l_ lr)
  have h14 : ∀ k ∈ Sg, k ∈ [w0.z] ∨ w1.z ≤ k := or2 h13 hh an_ (l_ sa.s)
  have h15 : Chg (· ∈ [w0.z]) w1 wn := cM (cr [w0.z] w1) sa (io sr)
  have h16 : Chg (· ∈ [w0.z]) w1 wz := cM h15 s10 hh
  exact fun _ q => ⟨xw, (som hmx).symm, ⟨Sg, (q.k<|s3 z z z), h16, h11, h12, h14⟩⟩
 ·rintro x2 a1s w17 ⟨S0, hS18, si, h3, h7, h8⟩
  refine Wu ?_ hS18
  refine Wq<|Ws<|Rm z<|Rm z ?_
  have h19 : ∀ k ∈ [w0.z], ¬ B k := or0 (f_ lr)  (r_ hBw)
  refine R z (lnR a_1 z<|p1_0.g<|(s9.ag B).c si<|k_ h19)<|R z (lss z z)<|Wn<|Wc z (fun hc => (S_ hc).elim) (fun _ => ?_)
  have h1a : ∀ k ∈ S0, k ∈ [w0.z] ∨ w1.z ≤ k := or1 h8 (io sr) (l_ lr)
  have h1b : Chg (· ∈ [w0.z]) w1 w17 := cM (cr [w0.z] w1) si (io sr)
  exact We (fun a' ha' => ⟨rfl, ⟨S0, (Sat.weaken ha'<|s1 z), h1b, h3, h7, h1a⟩⟩)
 ·rintro x2 a1c w1t rfl ⟨S0, hS1u, s1d, h3, h7, h8⟩
  have hm1e := elL hmb
  revert a1c
  refine Wo<|Ws<|Rm z<|Ra z<|Wn ?_
  obtain rfl := som hm1e
  have h1f : ∀ k ∈ S0, w0.z ≤ k := or1 h8 (f_ lr) (a_E s9.s)
  exact Wr<|d_ hr z ⟨(bM s9 s1d<|f_ lr), a4, n5, c6, S0, z, h3, h7, h1f⟩
 rintro r1v ex1w a1x w1y rfl ⟨rfl, hq1g⟩
 have hm1h := elR hmb
 obtain rfl := som hm1h
 exact ⟨hq1g, z⟩
def Q3 (w0 : World) (B : Zone) (r : (List Int)) (v : Value) (w' : World) : Prop := Bw w0 w' ∧ (fun r1 => ∃ a1 n1 c1 S1, (sl a1 n1 c1) = v ∧ b_ w' S1 (sl a1 n1 c1) r1 ∧ S1.Nodup ∧ (∀ k ∈ S1, w0.z ≤ k)) r
theorem W_w0p {x1 : List Int} {res : (List Int)} (hm : e_J x1 = some res) (hBw : B ≤ w0.z) (p1_0 : a_ w0 B (sl A0 N0 C0) x1) : j_ prog 175 [sl A0 N0 C0] w0 (Q3 w0 B res) := by
 unfold e_J at hm
 refine goF func175 z z (lb z) fun fn hr => Ws<|Ra z<|Wn<|Ws<|Rm z<|R z (lnR B_ z p1_0) ?_
 obtain ⟨x1i, ej, hmk⟩ := bdS hm
 refine E z (d_V (α := Int) i_i (fun _ => (c_C<|ii z)) ej z z) ?_
 rintro _ w1 ⟨a4, n5, c6, rfl, s9, hl⟩
 refine Ra z<|Wn<|Wq<|Ws<|Ra z<|Wn ?_
 obtain ⟨u1j, hum, hmb⟩ := bdS hmk
 refine Wf (σ := (List Int)) (ρ := (List Int)) (fun (kc : Nat) (x2 : List Int) a w => ∃  (S0 : List Nat), Sat 22 [(0, sl A0 N0 C0), (3, sl a4 n5 c6), (4, (vI ((kc : Nat) : Int)))] a ∧ Chg (· ∈ [w0.z]) w1 w ∧ b_ w S0 (sl a4 n5 c6) x2 ∧ S0.Nodup ∧ (∀ k ∈ S0, k ∈ [w0.z] ∨ w1.z ≤ k)) (fun (x2 : List Int) a w => ∃  (S0 : List Nat), Sat 22 [(3, sl a4 n5 c6)] a ∧ Chg (· ∈ [w0.z]) w1 w ∧ b_ w S0 (sl a4 n5 c6) x2 ∧ S0.Nodup ∧ (∀ k ∈ S0, k ∈ [w0.z] ∨ w1.z ≤ k)) (fun r ex a w => ex = .ret ∧ v_ prog fn (Q3 w0 B r) a w) hum ?_ ?_ ?_ ?_ ?_
 ·exact fun _ q => ⟨[w0.z], (q.k<|s3 z z z), (cr [w0.z] w1), hl, a_0, (io sr)⟩
 ·rintro kc x2 a1k wn o1l hkd ⟨S0, hSo, sa, h3, h7, h8⟩ hmp
  refine Wu ?_ hSo
  refine Wq<|Ws<|Rm z<|Rm z ?_
  have hq : ∀ k ∈ [w0.z], ¬ B k := or0 (f_ lr)  (r_ hBw)
  have he := p1_0.g<|(s9.ag B).c sa<|k_ hq
  refine R z (lnR B_ z he)<|R z (lss z z)<|Wn<|Wc z (fun _ => ?_) (fun hc => (R_ hkd hc).elim)
  refine Wk<|Wq<|Wb<|Wg<|Rm z<|Rm z<|Rm z<|Rm z ?_
  obtain ⟨x1m, er, hms⟩ := bdS hmp
  refine RX z (at_ (α := Int) B_ z_3 z z z he er) ?_
  rintro _ ⟨b1n, o1o, cs1p, rfl, ht, hu, h1q⟩
  obtain ⟨rfl, hv⟩ := a_7 hu
  refine R z (l1 g_3 z fid<|ht.at0 z) ?_
  obtain ⟨xw, ef, hmx⟩ := bdS hms
  refine RX z (d_1 (α := Int) B_ z_3 z z h3 ef) ?_
  rintro _ ⟨g1r, hy, rfl⟩
  refine E0 (c_E (α := Int) z_3 z hy z z z ef h3 h7 (c_C hv) an_ K_) ?_
  rintro _ wz ⟨Sg, s10, h11, h12, h13⟩
  refine Wn<|Wg<|Rm z<|R z (inc_ hkd (lt_ (a_.len p1_0) H_) z z)<|Ra z<|Wl ?_
  have hh : ∀ k ∈ S0, k ∈ [w0.z] ∨ w1.z ≤ k := or1 h8 (io sr) (l_ lr)
  have h14 : ∀ k ∈ Sg, k ∈ [w0.z] ∨ w1.z ≤ k := or2 h13 hh an_ (l_ sa.s)
  have h15 : Chg (· ∈ [w0.z]) w1 wn := cM (cr [w0.z] w1) sa (io sr)
  have h16 : Chg (· ∈ [w0.z]) w1 wz := cM h15 s10 hh
  exact fun _ q => ⟨xw, (som hmx).symm, ⟨Sg, (q.k<|s3 z z z), h16, h11, h12, h14⟩⟩
 ·rintro x2 a1s w17 ⟨S0, hS18, si, h3, h7, h8⟩
  refine Wu ?_ hS18
  refine Wq<|Ws<|Rm z<|Rm z ?_
  have h19 : ∀ k ∈ [w0.z], ¬ B k := or0 (f_ lr)  (r_ hBw)
  refine R z (lnR B_ z<|p1_0.g<|(s9.ag B).c si<|k_ h19)<|R z (lss z z)<|Wn<|Wc z (fun hc => (S_ hc).elim) (fun _ => ?_)
  have h1a : ∀ k ∈ S0, k ∈ [w0.z] ∨ w1.z ≤ k := or1 h8 (io sr) (l_ lr)
  have h1b : Chg (· ∈ [w0.z]) w1 w17 := cM (cr [w0.z] w1) si (io sr)
  exact We (fun a' ha' => ⟨rfl, ⟨S0, (Sat.weaken ha'<|s1 z), h1b, h3, h7, h1a⟩⟩)
 ·rintro x2 a1c w1t rfl ⟨S0, hS1u, s1d, h3, h7, h8⟩
  have hm1e := elL hmb
  revert a1c
  refine Wo<|Ws<|Rm z<|Ra z<|Wn ?_
  obtain rfl := som hm1e
  have h1f : ∀ k ∈ S0, w0.z ≤ k := or1 h8 (f_ lr) (a_E s9.s)
  exact Wr<|d_ hr z ⟨(bM s9 s1d<|f_ lr), a4, n5, c6, S0, z, h3, h7, h1f⟩
 rintro r1v ex1w a1x w1y rfl ⟨rfl, hq1g⟩
 have hm1h := elR hmb
 obtain rfl := som hm1h
 exact ⟨hq1g, z⟩
def Q4 (w0 : World) (B : Zone) (r : e_) (v : Value) (w' : World) : Prop := Bw w0 w' ∧ (fun r1 => ∃ a1 n1 c1 S1 a2 n2 c2 S2 a3 n3 c3 S3 a4 n4 c4 S4, (.agg #[Str.v r1.name, vI r1.kind, vI r1.size, vB r1.little, sl a1 n1 c1, sl a2 n2 c2, sl a3 n3 c3, sl a4 n4 c4]) = v ∧ r1.name.b.length ≤ LEN ∧ inI r1.kind ∧ inI r1.size ∧ b_ w' S1 (sl a1 n1 c1) r1.bytes ∧ b_ w' S2 (sl a2 n2 c2) r1.names ∧ b_ w' S3 (sl a3 n3 c3) r1.tags ∧ b_ w' S4 (sl a4 n4 c4) r1.kids ∧ (S1 ++ (S2 ++ (S3 ++ S4))).Nodup ∧ (∀ k ∈ (S1 ++ (S2 ++ (S3 ++ S4))), w0.z ≤ k)) r
theorem W_w20 {x1 : e_} {res : e_} (hm : f_N x1 = some res) (hBw : B ≤ w0.z) (p1_0 : x1.name.b.length ≤ LEN) (p1_1 : inI x1.kind) (p1_2 : inI x1.size) (p1_4 : a_ w0 B (sl A9 N9 C9) x1.bytes) (p1_5 : a_ w0 B (sl A8 N8 C8) x1.names) (p1_6 : a_ w0 B (sl AA NA CA) x1.tags) (p1_7 : a_ w0 B (sl AB NB CB) x1.kids) : j_ prog 148 [(.agg #[Str.v x1.name, vI x1.kind, vI x1.size, vB x1.little, sl A9 N9 C9, sl A8 N8 C8, sl AA NA CA, sl AB NB CB])] w0 (Q4 w0 B res) := by
 unfold f_N at hm
 refine goF func148 z z (lb z) fun fn hr => Ws<|E z (fb z) ?_
 rintro _ w1b ⟨rfl, h1c⟩
 have hw := h1c.below
 have h1d : Blk w1b w0.z (vR x1 A9 N9 C9 A8 N8 C8 AA NA CA AB NB CB) := h1c.blk
 refine E z (fa c_T) ?_
 rintro _ w13 ⟨rfl, h1e⟩
 have hp := h1e.below
 have hh : Blk w13 w1b.z [(Str.v (⟨[]⟩ : Str)), vI 0, vI 0, vB false, sl none 0 0, sl none 0 0, sl none 0 0, sl none 0 0] := h1e.blk
 refine Wn<|Ws<|E z (fa c_T) ?_
 rintro _ w20 ⟨rfl, h1f⟩
 have hi := h1f.below
 have hq : Blk w20 w13.z [(Str.v (⟨[]⟩ : Str)), vI 0, vI 0, vB false, sl none 0 0, sl none 0 0, sl none 0 0, sl none 0 0] := h1f.blk
 refine Wn<|Ws<|R z (fd k_y z) ?_
 have h1g := (h1d.e hp).e hi
 refine R z (l1 g_9 z fid<|h1g.at z)<|R z (fd c_s z)<|E0 (fs (cur' := [Str.v x1.name, vI 0, vI 0, vB false, sl none 0 0, sl none 0 0, sl none 0 0, sl none 0 0]) z_9 z z hq z (lb z) (oA z) z) ?_
 rintro _ w33 ⟨h21, s22⟩
 have h8 := s22.one
 refine Wn<|Ws<|R z (fd n_H z) ?_
 have h9 := mm1 h1d.lt hp.s
 have h1h := h1g.c h8<|djs h9
 refine R z (l1 g_3 z fid<|h1h.at z)<|R z (fd b_x z)<|E0 (fs (cur' := [Str.v x1.name, vI x1.kind, vI 0, vB false, sl none 0 0, sl none 0 0, sl none 0 0, sl none 0 0]) z_3 z z h21 z (lb z) (oA z) z) ?_
 rintro _ w34 ⟨h23, s24⟩
 have ha := s24.one
 refine Wn<|Ws<|R z (fd n_I z) ?_
 have h1i := h1h.c ha<|djs h9
 refine R z (l1 g_3 z fid<|h1i.at z)<|R z (fd a_D z)<|E0 (fs (cur' := [Str.v x1.name, vI x1.kind, vI x1.size, vB false, sl none 0 0, sl none 0 0, sl none 0 0, sl none 0 0]) z_3 z z h23 z (lb z) (oA z) z) ?_
 rintro _ w35 ⟨h25, s26⟩
 have hb := s26.one
 refine Wn<|Ws<|R z (fd n_J z) ?_
 have h1j := h1i.c hb<|djs h9
 refine R z (l1 g_4 z fid<|h1j.at z)<|R z (fd c_t z)<|E0 (fs (cur' := (vR x1 none 0 0 none 0 0 none 0 0 none 0 0)) z_4 z z h25 z (lb z) (oA z) z) ?_
 rintro _ w36 ⟨h27, s28⟩
 have hc := s28.one
 refine Wn<|Ws<|R z (fd k_z z) ?_
 have h1k := h1j.c hc<|djs h9
 refine R z (l1 J_ z fid<|h1k.at z) ?_
 have h14 := lt_ hw.s hp.s
 have hd : ∀ k ∈ [w13.z], ¬ B k := or0 (f_ lr)  (r_ (zt' hBw h14))
 have h1l := ((((((hw.ag B).e hp).e hi).c h8<|k_ hd).c ha<|k_ hd).c hb<|k_ hd).c hc<|k_ hd
 have h15 := lt_ (lt_ (lt_ (lt_ (lt_ h14 hi.s) h8.s) ha.s) hb.s) hc.s
 obtain ⟨r37, e29, hm2a⟩ := bdS hm
 refine E z (fc call24 z<|W_w0o (B := B) e29 (zt' hBw h15)<|p1_4.g h1l) ?_
 rintro _ w38 ⟨s5, ae, nf, cg, S2b, rfl, hx, h2c, h16⟩
 refine R z (fd a_R z)<|E0 (fs (cur' := (vR x1 ae nf cg none 0 0 none 0 0 none 0 0)) z_25 z z (h27.e s5) z (lb z) (oA z) z) ?_
 rintro _ w39 ⟨h2d, s2e⟩
 have h3 := s2e.one
 refine Wn<|Ws<|R z (fd k_A z) ?_
 have h1m := (h1k.e s5).c h3<|djs h9
 refine R z (l1 b_M z fid<|h1m.at z) ?_
 have h1n := (h1l.e s5).c h3<|k_ hd
 have h17 := lt_ (lt_ h15 s5.s) h3.s
 obtain ⟨r3a, e2f, hm2g⟩ := bdS hm2a
 refine E z (fc call174 z<|W_w1z (B := B) e2f (zt' hBw h17)<|p1_5.g h1n) ?_
 rintro _ w3b ⟨s4, aj, nk, cl, S2h, rfl, h18, h2i, hy⟩
 refine R z (fd c_4 z)<|E0 (fs (cur' := (vR x1 ae nf cg aj nk cl none 0 0 none 0 0)) z_41 z z (h2d.e s4) z (lb z) (oA z) z) ?_
 rintro _ w3c ⟨h2j, s2k⟩
 have h1 := s2k.one
 refine Wn<|Ws<|R z (fd k_B z) ?_
 have h1o := (h1m.e s4).c h1<|djs h9
 refine R z (l1 G_ z fid<|h1o.at z) ?_
 have h1p := (h1n.e s4).c h1<|k_ hd
 have h19 := lt_ (lt_ h17 s4.s) h1.s
 obtain ⟨r3d, e2l, hm2m⟩ := bdS hm2g
 refine E z (fc call175 z<|W_w0p (B := B) e2l (zt' hBw h19)<|p1_6.g h1p) ?_
 rintro _ w3e ⟨s2, ar, ns, ct, S2n, rfl, h1q, h2o, hu⟩
 refine R z (fd a_O z)<|E0 (fs (cur' := (vR x1 ae nf cg aj nk cl ar ns ct none 0 0)) z_142 z z (h2j.e s2) z (lb z) (oA z) z) ?_
 rintro _ w3f ⟨h2p, s2q⟩
 have h0 := s2q.one
 refine Wn<|Ws<|R z (fd k_C z)<|R z (l1 G_ z fid<|((h1o.e s2).c h0<|djs h9).at z) ?_
 have h1r := lt_ (lt_ h19 s2.s) h0.s
 obtain ⟨r3g, e2r, hm2s⟩ := bdS hm2m
 refine E z (fc call175 z<|W_w0p (B := B) e2r (zt' hBw h1r)<|p1_7.g<|(h1p.e s2).c h0<|k_ hd) ?_
 rintro _ w3h ⟨sm, az, n10, c11, S2t, rfl, h2u, h2v, hn⟩
 refine R z (fd a_8 z)<|E0 (fs (cur' := (vR x1 ae nf cg aj nk cl ar ns ct az n10 c11)) z_142 z z (h2p.e sm) z (lb z) (oA z) z) ?_
 rintro _ w3i ⟨h2w, s2x⟩
 have ho := s2x.one
 refine Wn<|Ws<|R z (lN (vs := (vR x1 ae nf cg aj nk cl ar ns ct az n10 c11)) N_ t_ z z fid<|h2w.row 0 8 z) ?_
 have h6 := mmr hh.lt
 have h2y := ((((hh.e hi).c h8<|djs h6).c ha<|djs h6).c hb<|djs h6).c hc<|djs h6
 have h2z := (((((h2y.e s5).c h3<|djs h6).e s4).c h1<|djs h6).e s2).c h0<|djs h6
 refine E0 (fs (cur' := (vR x1 ae nf cg aj nk cl ar ns ct az n10 c11)) t_ z z ((h2z.e sm).c ho<|djs h6) z (lb z) (oA z) z) ?_
 rintro _ w3j ⟨h30, s31⟩
 have hv := s31.one
 refine Wn ?_
 obtain rfl := som hm2s
 have h1s := lt_ (lt_ (lt_ h8.s ha.s) hb.s) hc.s
 have h12 := p_ h16 hq.lt h1s
 have h1t := lt_ (lt_ (lt_ (lt_ hi.s h8.s) ha.s) hb.s) hc.s
 have h1u := lt_ (lt_ h1s s5.s) h3.s
 have h1a := p_ hy hq.lt h1u
 have h1v := lt_ (lt_ h1t s5.s) h3.s
 have h1w := lt_ (lt_ h1u s4.s) h1.s
 have h1x := p_ hu hq.lt h1w
 have h1y := lt_ (lt_ h1v s4.s) h1.s
 have h7 := m1 h14
 have h32 := bM (bup (bM (bup (bM (bup (bM (bup (bM (bM (bM (bM (bup (bup hw hp) hi) h8 h7) ha h7) hb h7) hc h7) s5) h3 h7) s4) h1 h7) s2) h0 h7) sm) ho h7
 have h1z := lt_ (lt_ h3.s s4.s) h1.s
 exact Wr<|d_ hr (u_ N_ t_ z h30 z) ⟨(bM h32 hv<|m1 hw.s), ae, nf, cg, S2b, aj, nk, cl, S2h, ar, ns, ct, S2n, az, n10, c11, S2t, z, p1_0, p1_1, p1_2, ((((((((hx.c h3 h12).e s4).c h1 h12).e s2).c h0 h12).e sm).c ho h12).c hv<|p_ h16 hh.lt h1t), ((((((h18.c h1 h1a).e s2).c h0 h1a).e sm).c ho h1a).c hv<|p_ hy hh.lt h1v), ((((h1q.c h0 h1x).e sm).c ho h1x).c hv<|p_ hu hh.lt h1y), ((h2u.c ho<|p_ hn hq.lt<|lt_ (lt_ h1w s2.s) h0.s).c hv<|p_ hn hh.lt<|lt_ (lt_ h1y s2.s) h0.s), (na_ h2c (na_ h2i (na_ h2o h2v<|ds<|a_u hn (b_.lt h1q) h0.s)<|nmA (ds<|a_u hu (b_.lt h18) h1.s)<|ds<|a_u hn (b_.lt h18)<|lt_ (lt_ h1.s s2.s) h0.s)<|nmA (ds<|a_u hy (b_.lt hx) h3.s)<|nmA (ds<|a_u hu (b_.lt hx) h1z)<|ds<|a_u hn (b_.lt hx)<|lt_ (lt_ h1z s2.s) h0.s), (aa_ (m_ h16 h15)<|aa_ (m_ hy h17)<|aa_ (m_ hu h19)<|m_ hn h1r)⟩
def Q5 (w0 : World) (B : Zone) (r : (List e_)) (v : Value) (w' : World) : Prop := Bw w0 w' ∧ (fun r1 => ∃ a1 n1 c1 S1, (sl a1 n1 c1) = v ∧ b_ w' S1 (sl a1 n1 c1) r1 ∧ S1.Nodup ∧ (∀ k ∈ S1, w0.z ≤ k)) r
theorem W_w21 {x1 : List e_} {res : (List e_)} (hm : h_W x1 = some res) (hBw : B ≤ w0.z) (p1_0 : a_ w0 B (sl A0 N0 C0) x1) : j_ prog 130 [sl A0 N0 C0] w0 (Q5 w0 B res) := by
 unfold h_W at hm
 refine goF func130 z z (lb z) fun fn hr => Ws<|Ra z<|Wn<|Ws<|Rm z<|R z (lnR d_l z p1_0) ?_
 obtain ⟨x2p, er, hms⟩ := bdS hm
 refine E z (d_V (α := e_) el_93 (fun _ => (c_B (x := (⟨(⟨[]⟩ : Str), 0, 0, false, ([] : List UInt8), ([] : List Str), ([] : List Int), ([] : List Int)⟩ : e_)) (S1 := ([] : List Nat)) (S2 := ([] : List Nat)) (S3 := ([] : List Nat)) (S4 := ([] : List Nat)) (lb z) (ii z) (ii z) onL onL onL onL)) er z z) ?_
 rintro _ w1 ⟨a7, n8, c9, rfl, sa, ht⟩
 refine Ra z<|Wn<|Wq<|Ws<|Ra z<|Wn ?_
 obtain ⟨u2q, huu, hme⟩ := bdS hms
 refine Wf (σ := (List e_)) (ρ := (List e_)) (fun (kf : Nat) (x6 : List e_) a w => ∃  (S0 : List Nat), Sat 23 [(0, sl A0 N0 C0), (3, sl a7 n8 c9), (4, (vI ((kf : Nat) : Int)))] a ∧ Chg (· ∈ [w0.z]) w1 w ∧ b_ w S0 (sl a7 n8 c9) x6 ∧ S0.Nodup ∧ (∀ k ∈ S0, k ∈ [w0.z] ∨ w1.z ≤ k)) (fun (x6 : List e_) a w => ∃  (S0 : List Nat), Sat 23 [(3, sl a7 n8 c9)] a ∧ Chg (· ∈ [w0.z]) w1 w ∧ b_ w S0 (sl a7 n8 c9) x6 ∧ S0.Nodup ∧ (∀ k ∈ S0, k ∈ [w0.z] ∨ w1.z ≤ k)) (fun r ex a w => ex = .ret ∧ v_ prog fn (Q5 w0 B r) a w) huu ?_ ?_ ?_ ?_ ?_
 ·exact fun _ q => ⟨[w0.z], (q.k<|s3 z z z), (cr [w0.z] w1), ht, a_0, (io sr)⟩
 ·rintro kf x6 a2r wv o2s hkg ⟨S0, hSw, s4, h3, hb, hd⟩ hmx
  refine Wu ?_ hSw
  refine Wq<|Ws<|Rm z<|Rm z ?_
  have hy : ∀ k ∈ [w0.z], ¬ B k := or0 (f_ lr)  (r_ hBw)
  have hh := p1_0.g<|(sa.ag B).c s4<|k_ hy
  refine R z (lnR d_l z hh)<|R z (lss z z)<|Wn<|Wc z (fun _ => ?_) (fun hc => (R_ hkg hc).elim)
  refine Wk<|Wq<|Wb<|Wg<|Rm z<|Rm z<|Rm z<|Rm z ?_
  obtain ⟨xz, e10, hm11⟩ := bdS hmx
  refine RX z (at_ (α := e_) d_l h_0 z z z hh e10) ?_
  rintro _ ⟨b2t, o2u, cs2v, rfl, h12, h13, h2w⟩
  obtain ⟨a14, n15, c16, a17, n18, c19, a1a, n1b, c1c, a1d, n1e, c1f, rfl, h1g, h1h, h1i, h1j, h1k, h1l, h1m⟩ := b_1 h13
  refine R z (lN (vs := (vR xz a14 n15 c16 a17 n18 c19 a1a n1b c1c a1d n1e c1f)) g_151 h_0 z z fid h12) ?_
  obtain ⟨r1n, e1o, hm1p⟩ := bdS hm11
  refine E z (fc call148 z<|W_w20 (B := B) e1o (zt' hBw<|lt_ sa.s s4.s) h1g h1h h1i h1j h1k h1l h1m) ?_
  rintro _ w1q ⟨sc, a2x, n2y, c2z, Si, a30, n31, c32, Sj, a33, n34, c35, Sk, a36, n37, c38, Sl, rfl, h1r, h1s, h1t, h1u, h1v, h1w, h1x, h2, h5⟩
  obtain ⟨x1y, em, hm1z⟩ := bdS hm1p
  have hn := h3.e sc
  refine RX z (d_1 (α := e_) X_ t_ z z hn em) ?_
  rintro _ ⟨g39, h20, rfl⟩
  refine E0 (c_E (α := e_) t_ z h20 z z z em hn hb (c_B (x := r1n) (S1 := Si) (S2 := Sj) (S3 := Sk) (S4 := Sl) h1r h1s h1t h1u h1v h1w h1x) (aa_ (a_u (al_ h5) (b_.lt h3) lr)<|aa_ (a_u (al_<|ar_ h5) (b_.lt h3) lr)<|aa_ (a_u (al_<|ar_<|ar_ h5) (b_.lt h3) lr)<|a_u (ar_<|ar_<|ar_ h5) (b_.lt h3) lr)<|na_ (nl_ h2) (na_ (nl_<|nr_ h2) (na_ (nl_<|nr_<|nr_ h2) (nr_<|nr_<|nr_ h2)<|nj<|nr_<|nr_ h2)<|nmA (nmL<|nj<|nr_ h2)<|nmR<|nj<|nr_ h2)<|nmA (nmL<|nj h2)<|nmA (nmL<|nmR<|nj h2)<|nmR<|nmR<|nj h2) ?_
  rintro _ w21 ⟨So, s22, h23, h24, h25⟩
  refine Wn<|Wg<|Rm z<|R z (inc_ hkg (lt_ (a_.len p1_0) H_) z z)<|Ra z<|Wl ?_
  have hp : ∀ k ∈ S0, k ∈ [w0.z] ∨ w1.z ≤ k := or1 hd (io sr) (l_ lr)
  have h26 : ∀ k ∈ Si, k ∈ [w0.z] ∨ w1.z ≤ k := or0 (al_ h5)  (l_ s4.s)
  have h27 : ∀ k ∈ Sj, k ∈ [w0.z] ∨ w1.z ≤ k := or0 (al_ (ar_ h5))  (l_ s4.s)
  have h28 : ∀ k ∈ Sk, k ∈ [w0.z] ∨ w1.z ≤ k := or0 (al_ (ar_ (ar_ h5)))  (l_ s4.s)
  have h29 : ∀ k ∈ Sl, k ∈ [w0.z] ∨ w1.z ≤ k := or0 (ar_ (ar_ (ar_ h5)))  (l_ s4.s)
  have h2a : ∀ k ∈ So, k ∈ [w0.z] ∨ w1.z ≤ k := or2 h25 hp (aa_ h26 (aa_ h27 (aa_ h28 h29))) (l_ (lt_ s4.s sc.s))
  have h2b : Chg (· ∈ [w0.z]) w1 wv := cM (cr [w0.z] w1) s4 (io sr)
  have h2c : Chg (· ∈ [w0.z]) w1 w1q := z_ h2b sc
  have h2d : Chg (· ∈ [w0.z]) w1 w21 := cM h2c s22 hp
  exact fun _ q => ⟨x1y, (som hm1z).symm, ⟨So, (q.k<|s3 z z z), h2d, h23, h24, h2a⟩⟩
 ·rintro x6 a3a w2e ⟨S0, hS2f, sq, h3, hb, hd⟩
  refine Wu ?_ hS2f
  refine Wq<|Ws<|Rm z<|Rm z ?_
  have h2g : ∀ k ∈ [w0.z], ¬ B k := or0 (f_ lr)  (r_ hBw)
  refine R z (lnR d_l z<|p1_0.g<|(sa.ag B).c sq<|k_ h2g)<|R z (lss z z)<|Wn<|Wc z (fun hc => (S_ hc).elim) (fun _ => ?_)
  have h2h : ∀ k ∈ S0, k ∈ [w0.z] ∨ w1.z ≤ k := or1 hd (io sr) (l_ lr)
  have h2i : Chg (· ∈ [w0.z]) w1 w2e := cM (cr [w0.z] w1) sq (io sr)
  exact We (fun a' ha' => ⟨rfl, ⟨S0, (Sat.weaken ha'<|s1 z), h2i, h3, hb, h2h⟩⟩)
 ·rintro x6 a2j w3b rfl ⟨S0, hS3c, s2k, h3, hb, hd⟩
  have hm2l := elL hme
  revert a2j
  refine Wo<|Ws<|Rm z<|Ra z<|Wn ?_
  obtain rfl := som hm2l
  have h2m : ∀ k ∈ S0, w0.z ≤ k := or1 hd (f_ lr) (a_E sa.s)
  exact Wr<|d_ hr z ⟨(bM sa s2k<|f_ lr), a7, n8, c9, S0, z, h3, hb, h2m⟩
 rintro r3d ex3e a3f w3g rfl ⟨rfl, hq2n⟩
 have hm2o := elR hme
 obtain rfl := som hm2o
 exact ⟨hq2n, z⟩
def Q6 (w0 : World) (B : Zone) (r : g_) (v : Value) (w' : World) : Prop := Bw w0 w' ∧ (fun r1 => ∃ a1 n1 c1 S1, (.agg #[.slice a1 n1 c1]) = v ∧ b_ w' S1 (sl a1 n1 c1) r1.rules ∧ S1.Nodup ∧ (∀ k ∈ S1, w0.z ≤ k)) r
theorem W_w22 {x1 : g_} {res : g_} (hm : f_O x1 = some res) (hBw : B ≤ w0.z) (p1_0 : a_ w0 B (sl A0 N0 C0) x1.rules) : j_ prog 102 [(.agg #[sl A0 N0 C0])] w0 (Q6 w0 B res) := by
 unfold f_O at hm
 refine goF func102 z z (lb z) fun fn hr => Ws<|E z (fb z) ?_
 rintro _ wa ⟨rfl, hb⟩
 have h1 := hb.below
 have hj : Blk wa w0.z [sl A0 N0 C0] := hb.blk
 refine E z (fa i_l) ?_
 rintro _ wc ⟨rfl, hd⟩
 have h2 := hd.below
 have h6 : Blk wc wa.z [sl none 0 0] := hd.blk
 refine Wn<|Ws<|E z (fa i_l) ?_
 rintro _ wk ⟨rfl, he⟩
 have h0 := he.below
 have hf : Blk wk wc.z [sl none 0 0] := he.blk
 refine Wn<|Ws<|R z (fd k_x z)<|R z (l1 g_108 z fid<|((hj.e h2).e h0).at z) ?_
 have hg := lt_ h1.s h2.s
 have hh := lt_ hg h0.s
 obtain ⟨ru, el, hmm⟩ := bdS hm
 refine E z (fc call130 z<|W_w21 (B := B) el (zt' hBw hh)<|p1_0.g<|((h1.ag B).e h2).e h0) ?_
 rintro _ wv ⟨s7, a3, n4, c5, Sn, rfl, ho, hp, h8⟩
 refine R z (fd a_j z)<|E0 (fs (cur' := [sl a3 n4 c5]) z_93 z z (hf.e s7) z (lb z) (oA z) z) ?_
 rintro _ ww ⟨hq, sr⟩
 have h9 := sr.one
 refine Wn<|Ws<|R z (lN (vs := [sl a3 n4 c5]) P_ F_ z z fid<|hq.row 0 1 z)<|E0 (fs (cur' := [sl a3 n4 c5]) F_ z z (((h6.e h0).e s7).c h9<|djs<|mmr h6.lt) z (lb z) (oA z) z) ?_
 rintro _ wx ⟨ht, ss⟩
 have hi := ss.one
 refine Wn ?_
 obtain rfl := som hmm
 exact Wr<|d_ hr (u_ P_ F_ z ht z) ⟨(bM (bM (bup (bup (bup h1 h2) h0) s7) h9<|m1 hg) hi<|m1 h1.s), a3, n4, c5, Sn, z, ((ho.c h9<|p_ h8 hf.lt lr).c hi<|p_ h8 h6.lt h0.s), hp, (m_ h8 hh)⟩
def Q7 (w0 : World) (B : Zone) (r : (List g_)) (v : Value) (w' : World) : Prop := Bw w0 w' ∧ (fun r1 => ∃ a1 n1 c1 S1, (sl a1 n1 c1) = v ∧ b_ w' S1 (sl a1 n1 c1) r1 ∧ S1.Nodup ∧ (∀ k ∈ S1, w0.z ≤ k)) r
theorem W_w23 {x1 : List g_} {res : (List g_)} (hm : g_x x1 = some res) (hBw : B ≤ w0.z) (p1_0 : a_ w0 B (sl A0 N0 C0) x1) : j_ prog 70 [sl A0 N0 C0] w0 (Q7 w0 B res) := by
 unfold g_x at hm
 refine goF func70 z z (lb z) fun fn hr => Ws<|Ra z<|Wn<|Ws<|Rm z<|R z (lnR d_m z p1_0) ?_
 obtain ⟨x1x, en, hmo⟩ := bdS hm
 refine E z (d_V (α := g_) el_32 (fun _ => (i_R (x := (⟨([] : List e_)⟩ : g_)) (S1 := ([] : List Nat)) onL)) en z z) ?_
 rintro _ w1 ⟨a4, n5, c6, rfl, s7, hp⟩
 refine Ra z<|Wn<|Wq<|Ws<|Ra z<|Wn ?_
 obtain ⟨u1y, huq, hmc⟩ := bdS hmo
 refine Wf (σ := (List g_)) (ρ := (List g_)) (fun (kd : Nat) (x2 : List g_) a w => ∃  (S0 : List Nat), Sat 23 [(0, sl A0 N0 C0), (3, sl a4 n5 c6), (4, (vI ((kd : Nat) : Int)))] a ∧ Chg (· ∈ [w0.z]) w1 w ∧ b_ w S0 (sl a4 n5 c6) x2 ∧ S0.Nodup ∧ (∀ k ∈ S0, k ∈ [w0.z] ∨ w1.z ≤ k)) (fun (x2 : List g_) a w => ∃  (S0 : List Nat), Sat 23 [(3, sl a4 n5 c6)] a ∧ Chg (· ∈ [w0.z]) w1 w ∧ b_ w S0 (sl a4 n5 c6) x2 ∧ S0.Nodup ∧ (∀ k ∈ S0, k ∈ [w0.z] ∨ w1.z ≤ k)) (fun r ex a w => ex = .ret ∧ v_ prog fn (Q7 w0 B r) a w) huq ?_ ?_ ?_ ?_ ?_
 ·exact fun _ q => ⟨[w0.z], (q.k<|s3 z z z), (cr [w0.z] w1), hp, a_0, (io sr)⟩
 ·rintro kd x2 a1z wr o20 hke ⟨S0, hSs, s8, h3, h9, ha⟩ hmt
  refine Wu ?_ hSs
  refine Wq<|Ws<|Rm z<|Rm z ?_
  have hu : ∀ k ∈ [w0.z], ¬ B k := or0 (f_ lr)  (r_ hBw)
  have hf := p1_0.g<|(s7.ag B).c s8<|k_ hu
  refine R z (lnR d_m z hf)<|R z (lss z z)<|Wn<|Wc z (fun _ => ?_) (fun hc => (R_ hke hc).elim)
  refine Wk<|Wq<|Wb<|Wg<|Rm z<|Rm z<|Rm z<|Rm z ?_
  obtain ⟨x21, ev, hmw⟩ := bdS hmt
  refine RX z (at_ (α := g_) d_m g_Z z z z hf ev) ?_
  rintro _ ⟨b22, o23, cs24, rfl, hx, hy, h25⟩
  obtain ⟨az, n10, c11, rfl, h12⟩ := d_q hy
  refine R z (lN (vs := [sl az n10 c11]) g_110 g_Z z z fid hx) ?_
  obtain ⟨r13, e14, hm15⟩ := bdS hmw
  refine E z (fc call102 z<|W_w22 (B := B) e14 (zt' hBw<|lt_ s7.s s8.s) h12) ?_
  rintro _ w16 ⟨sb, a26, n27, c28, Sg, rfl, h17, h18, hh⟩
  obtain ⟨x19, ei, hm1a⟩ := bdS hm15
  have hj := h3.e sb
  refine RX z (d_1 (α := g_) a_S F_ z z hj ei) ?_
  rintro _ ⟨g29, h1b, rfl⟩
  refine E0 (c_E (α := g_) F_ z h1b z z z ei hj h9 (i_R (x := r13) (S1 := Sg) h17) (a_u hh (b_.lt h3) lr) h18) ?_
  rintro _ w1c ⟨Sk, s1d, h1e, h1f, h1g⟩
  refine Wn<|Wg<|Rm z<|R z (inc_ hke (lt_ (a_.len p1_0) H_) z z)<|Ra z<|Wl ?_
  have hl : ∀ k ∈ S0, k ∈ [w0.z] ∨ w1.z ≤ k := or1 ha (io sr) (l_ lr)
  have h1h : ∀ k ∈ Sg, k ∈ [w0.z] ∨ w1.z ≤ k := or0 hh  (l_ s8.s)
  have h1i : ∀ k ∈ Sk, k ∈ [w0.z] ∨ w1.z ≤ k := or2 h1g hl h1h (l_ (lt_ s8.s sb.s))
  have h1j : Chg (· ∈ [w0.z]) w1 wr := cM (cr [w0.z] w1) s8 (io sr)
  have h1k : Chg (· ∈ [w0.z]) w1 w16 := z_ h1j sb
  have h1l : Chg (· ∈ [w0.z]) w1 w1c := cM h1k s1d hl
  exact fun _ q => ⟨x19, (som hm1a).symm, ⟨Sk, (q.k<|s3 z z z), h1l, h1e, h1f, h1i⟩⟩
 ·rintro x2 a2a w1m ⟨S0, hS1n, sm, h3, h9, ha⟩
  refine Wu ?_ hS1n
  refine Wq<|Ws<|Rm z<|Rm z ?_
  have h1o : ∀ k ∈ [w0.z], ¬ B k := or0 (f_ lr)  (r_ hBw)
  refine R z (lnR d_m z<|p1_0.g<|(s7.ag B).c sm<|k_ h1o)<|R z (lss z z)<|Wn<|Wc z (fun hc => (S_ hc).elim) (fun _ => ?_)
  have h1p : ∀ k ∈ S0, k ∈ [w0.z] ∨ w1.z ≤ k := or1 ha (io sr) (l_ lr)
  have h1q : Chg (· ∈ [w0.z]) w1 w1m := cM (cr [w0.z] w1) sm (io sr)
  exact We (fun a' ha' => ⟨rfl, ⟨S0, (Sat.weaken ha'<|s1 z), h1q, h3, h9, h1p⟩⟩)
 ·rintro x2 a1r w2b rfl ⟨S0, hS2c, s1s, h3, h9, ha⟩
  have hm1t := elL hmc
  revert a1r
  refine Wo<|Ws<|Rm z<|Ra z<|Wn ?_
  obtain rfl := som hm1t
  have h1u : ∀ k ∈ S0, w0.z ≤ k := or1 ha (f_ lr) (a_E s7.s)
  exact Wr<|d_ hr z ⟨(bM s7 s1s<|f_ lr), a4, n5, c6, S0, z, h3, h9, h1u⟩
 rintro r2d ex2e a2f w2g rfl ⟨rfl, hq1v⟩
 have hm1w := elR hmc
 obtain rfl := som hm1w
 exact ⟨hq1v, z⟩
def Q8 (w0 : World) (B : Zone) (r : V_) (v : Value) (w' : World) : Prop := Bw w0 w' ∧ (fun r1 => ∃ a1 n1 c1 S1, (.agg #[.slice a1 n1 c1]) = v ∧ b_ w' S1 (sl a1 n1 c1) r1.versions ∧ S1.Nodup ∧ (∀ k ∈ S1, w0.z ≤ k)) r
theorem W_w24 {x1 : V_} {res : V_} (hm : i_3 x1 = some res) (hBw : B ≤ w0.z) (p1_0 : a_ w0 B (sl A0 N0 C0) x1.versions) : j_ prog 36 [(.agg #[sl A0 N0 C0])] w0 (Q8 w0 B res) := by
 unfold i_3 at hm
 refine goF func36 z z (lb z) fun fn hr => Ws<|E z (fb z) ?_
 rintro _ wa ⟨rfl, hb⟩
 have h1 := hb.below
 have hj : Blk wa w0.z [sl A0 N0 C0] := hb.blk
 refine E z (fa k_K) ?_
 rintro _ wc ⟨rfl, hd⟩
 have h2 := hd.below
 have h6 : Blk wc wa.z [sl none 0 0] := hd.blk
 refine Wn<|Ws<|E z (fa k_K) ?_
 rintro _ wk ⟨rfl, he⟩
 have h0 := he.below
 have hf : Blk wk wc.z [sl none 0 0] := he.blk
 refine Wn<|Ws<|R z (fd k_E z)<|R z (l1 g_22 z fid<|((hj.e h2).e h0).at z) ?_
 have hg := lt_ h1.s h2.s
 have hh := lt_ hg h0.s
 obtain ⟨ru, el, hmm⟩ := bdS hm
 refine E z (fc call70 z<|W_w23 (B := B) el (zt' hBw hh)<|p1_0.g<|((h1.ag B).e h2).e h0) ?_
 rintro _ wv ⟨s7, a3, n4, c5, Sn, rfl, ho, hp, h8⟩
 refine R z (fd b_y z)<|E0 (fs (cur' := [sl a3 n4 c5]) z_32 z z (hf.e s7) z (lb z) (oA z) z) ?_
 rintro _ ww ⟨hq, sr⟩
 have h9 := sr.one
 refine Wn<|Ws<|R z (lN (vs := [sl a3 n4 c5]) d_k c_x z z fid<|hq.row 0 1 z)<|E0 (fs (cur' := [sl a3 n4 c5]) c_x z z (((h6.e h0).e s7).c h9<|djs<|mmr h6.lt) z (lb z) (oA z) z) ?_
 rintro _ wx ⟨ht, ss⟩
 have hi := ss.one
 refine Wn ?_
 obtain rfl := som hmm
 exact Wr<|d_ hr (u_ d_k c_x z ht z) ⟨(bM (bM (bup (bup (bup h1 h2) h0) s7) h9<|m1 hg) hi<|m1 h1.s), a3, n4, c5, Sn, z, ((ho.c h9<|p_ h8 hf.lt lr).c hi<|p_ h8 h6.lt h0.s), hp, (m_ h8 hh)⟩
def Q9 (w0 : World) (B : Zone) (r : Log) (v : Value) (w' : World) : Prop := Bw w0 w' ∧ (fun r1 => ∃ a1 n1 c1 S1, (.agg #[.slice a1 n1 c1, vI r1.stored]) = v ∧ b_ w' S1 (sl a1 n1 c1) r1.bytes ∧ inI r1.stored ∧ S1.Nodup ∧ (∀ k ∈ S1, w0.z ≤ k)) r
theorem W_w25 {x1 : Log} {res : Log} (hm : i_4 x1 = some res) (hBw : B ≤ w0.z) (p1_0 : a_ w0 B (sl A0 N0 C0) x1.bytes) (p1_1 : inI x1.stored) : j_ prog 37 [(.agg #[sl A0 N0 C0, vI x1.stored])] w0 (Q9 w0 B res) := by
 unfold i_4 at hm
 refine goF func37 z z (lb z) fun fn hr => Ws<|E z (fb z) ?_
 rintro _ wb ⟨rfl, hc⟩
 have h5 := hc.below
 have hd : Blk wb w0.z [sl A0 N0 C0, vI x1.stored] := hc.blk
 refine E z (fa k_L) ?_
 rintro _ we ⟨rfl, hf⟩
 have h1 := hf.below
 have h8 : Blk we wb.z [sl none 0 0, vI 0] := hf.blk
 refine Wn<|Ws<|E z (fa k_L) ?_
 rintro _ wm ⟨rfl, hg⟩
 have h0 := hg.below
 have hh : Blk wm we.z [sl none 0 0, vI 0] := hg.blk
 refine Wn<|Ws<|R z (fd k_F z) ?_
 have hi := (hd.e h1).e h0
 refine R z (l1 J_ z fid<|hi.at z) ?_
 have hj := lt_ h5.s h1.s
 have hk := lt_ hj h0.s
 obtain ⟨r11, eq, hmr⟩ := bdS hm
 refine E z (fc call24 z<|W_w0o (B := B) eq (zt' hBw hk)<|p1_0.g<|((h5.ag B).e h1).e h0) ?_
 rintro _ w12 ⟨s6, a2, n3, c4, Ss, rfl, ht, hu, h9⟩
 refine R z (fd b_h z)<|E0 (fs (cur' := [sl a2 n3 c4, vI 0]) z_25 z z (hh.e s6) z (lb z) (oA z) z) ?_
 rintro _ w13 ⟨hv, sw⟩
 have h7 := sw.one
 refine Wn<|Ws<|R z (fd f_27_1 z)<|R z (l1 g_3 z fid<|((hi.e s6).c h7<|djs<|mm1 hd.lt h1.s).at z)<|R z (fd c_R z)<|E0 (fs (cur' := [sl a2 n3 c4, vI x1.stored]) z_3 z z hv z (lb z) (oA z) z) ?_
 rintro _ w14 ⟨hx, sy⟩
 have ha := sy.one
 refine Wn<|Ws<|R z (lN (vs := [sl a2 n3 c4, vI x1.stored]) c_Q c_5 z z fid<|hx.row 0 2 z) ?_
 have hl := mmr h8.lt
 refine E0 (fs (cur' := [sl a2 n3 c4, vI x1.stored]) c_5 z z ((((h8.e h0).e s6).c h7<|djs hl).c ha<|djs hl) z (lb z) (oA z) z) ?_
 rintro _ w15 ⟨hz, s10⟩
 have hn := s10.one
 refine Wn ?_
 obtain rfl := som hmr
 have ho := p_ h9 hh.lt lr
 have hp := m1 hj
 exact Wr<|d_ hr (u_ c_Q c_5 z hz z) ⟨(bM (bM (bM (bup (bup (bup h5 h1) h0) s6) h7 hp) ha hp) hn<|m1 h5.s), a2, n3, c4, Ss, z, (((ht.c h7 ho).c ha ho).c hn<|p_ h9 h8.lt h0.s), p1_1, hu, (m_ h9 hk)⟩
def Q10 (w0 : World) (B : Zone) (r : C_) (v : Value) (w' : World) : Prop := Bw w0 w' ∧ (fun r1 => ∃ a1 n1 c1 S1 a2 n2 c2 S2, (.agg #[.slice a1 n1 c1, sl a2 n2 c2, vI r1.log.stored]) = v ∧ b_ w' S1 (sl a1 n1 c1) r1.registry.versions ∧ b_ w' S2 (sl a2 n2 c2) r1.log.bytes ∧ inI r1.log.stored ∧ (S1 ++ S2).Nodup ∧ (∀ k ∈ (S1 ++ S2), w0.z ≤ k)) r
theorem h_1 {x1 : C_} {res : C_} (hm : c_3 x1 = some res) (hBw : B ≤ w0.z) (p1_0 : a_ w0 B (sl A0 N0 C0) x1.registry.versions) (p1_1 : a_ w0 B (sl A1 N1 C1) x1.log.bytes) (p1_2 : inI x1.log.stored) : j_ prog 11 [(.agg #[sl A0 N0 C0, sl A1 N1 C1, vI x1.log.stored])] w0 (Q10 w0 B res) := by
 unfold c_3 at hm
 refine goF func11 z z (lb z) fun fn hr => Ws<|E z (fb z) ?_
 rintro _ wm ⟨rfl, hn⟩
 have h7 := hn.below
 have ho : Blk wm w0.z [sl A0 N0 C0, sl A1 N1 C1, vI x1.log.stored] := hn.blk
 refine E z (fa i_k) ?_
 rintro _ wf ⟨rfl, hp⟩
 have h3 := hp.below
 have h8 : Blk wf wm.z [sl none 0 0, sl none 0 0, vI 0] := hp.blk
 refine Wn<|Ws<|E z (fa i_k) ?_
 rintro _ wr ⟨rfl, hq⟩
 have h2 := hq.below
 have hg : Blk wr wf.z [sl none 0 0, sl none 0 0, vI 0] := hq.blk
 refine Wn<|Ws<|R z (fd k_G z) ?_
 have ht := (ho.e h3).e h2
 refine R z (lN (vs := [sl A0 N0 C0]) g_24 z_24 z z fid<|ht.row 0 1 z) ?_
 have hu := ((h7.ag B).e h3).e h2
 have hh := lt_ h7.s h3.s
 have hi := lt_ hh h2.s
 obtain ⟨r1g, es, hm10⟩ := bdS hm
 refine E z (fc call36 z<|W_w24 (B := B) (x1 := (⟨x1.registry.versions⟩ : V_)) es (zt' hBw hi)<|p1_0.g hu) ?_
 rintro _ w1h ⟨s1, a4, n5, c6, S11, rfl, hv, h12, hj⟩
 refine R z (fd c_u z)<|E0 (fs (cur' := [sl a4 n5 c6, sl none 0 0, vI 0]) c_x z z (hg.e s1) z (lb z) (oA z) z) ?_
 rintro _ w1i ⟨h13, s14⟩
 have h0 := s14.one
 refine Wn<|Ws<|R z (fd k_H z)<|R z (lN (vs := [sl A1 N1 C1, vI x1.log.stored]) g_27 z_27 z z fid<|((ht.e s1).c h0<|djs<|mm1 ho.lt h3.s).row 1 2 z) ?_
 have h15 : ∀ k ∈ [wf.z], ¬ B k := or0 (f_ lr)  (r_ (zt' hBw hh))
 have hw := lt_ (lt_ hi s1.s) h0.s
 obtain ⟨rk, e16, hm17⟩ := bdS hm10
 refine E z (fc call37 z<|W_w25 (B := B) (x1 := (⟨x1.log.bytes, x1.log.stored⟩ : Log)) e16 (zt' hBw hw) (p1_1.g<|(hu.e s1).c h0<|k_ h15) p1_2) ?_
 rintro _ w1j ⟨s9, aa, nb, cc, S18, rfl, h19, h1a, h1b, hd⟩
 refine R z (fd b_H z)<|E0 (fs (cur' := [sl a4 n5 c6, sl aa nb cc, vI rk.stored]) c_5 z z (h13.e s9) z (lb z) (oA z) z) ?_
 rintro _ w1k ⟨h1c, s1d⟩
 have he := s1d.one
 refine Wn<|Ws<|R z (lN (vs := [sl a4 n5 c6, sl aa nb cc, vI rk.stored]) c_p b_P z z fid<|h1c.row 0 3 z) ?_
 have hx := mmr h8.lt
 refine E0 (fs (cur' := [sl a4 n5 c6, sl aa nb cc, vI rk.stored]) b_P z z (((((h8.e h2).e s1).c h0<|djs hx).e s9).c he<|djs hx) z (lb z) (oA z) z) ?_
 rintro _ w1l ⟨h1e, s1f⟩
 have hl := s1f.one
 refine Wn ?_
 obtain rfl := som hm17
 have hy := p_ hj hg.lt lr
 have hz := m1 hh
 exact Wr<|d_ hr (u_ c_p b_P z h1e z) ⟨(bM (bM (bup (bM (bup (bup (bup h7 h3) h2) s1) h0 hz) s9) he hz) hl<|m1 h7.s), a4, n5, c6, S11, aa, nb, cc, S18, z, ((((hv.c h0 hy).e s9).c he hy).c hl<|p_ hj h8.lt h2.s), ((h19.c he<|p_ hd hg.lt<|lt_ s1.s h0.s).c hl<|p_ hd h8.lt<|lt_ (lt_ h2.s s1.s) h0.s), h1a, (na_ h12 h1b<|ds<|a_u hd (b_.lt hv) h0.s), (aa_ (m_ hj hi)<|m_ hd hw)⟩
def Q11 (w0 : World) (B : Zone) (r : Bool) (v : Value) (w' : World) : Prop := Bw w0 w' ∧ (fun r1 => (vB r1) = v) r
theorem a_I {x1 : Int} {x2 : Int} {x3 : Int} {res : Bool} (hm : a_n x1 x2 x3 = some res) (hBw : B ≤ w0.z) (p1_0 : inI x1) (p2_0 : inI x2) (p3_0 : inI x3) : j_ prog 97 [vI x1, vI x2, vI x3] w0 (Q11 w0 B res) := by
 unfold a_n at hm
 refine goF func97 z z (lb z) fun fn hr => Ws<|Ra z<|Wn<|Wq ?_
 obtain ⟨u2, hu1, hm3⟩ := bdS hm
 refine Wt (fun a w => ∃ (x4 : Bool), x4 = u2 ∧ Sat 15 [(6, vB x4)] a ∧ Below w0.z w0 w) ?_ ?_
 ·refine Wg<|Rm z<|Rm z<|R z (a_M z z)<|Rm z ?_
  rcases bs (decide (x2 ≤ x1)) with hc0 | hc0
  ·exact Rh z hc0 (mv z)<|Rh z hc0 (mv z)<|Rh z hc0 (c_F z z)<|R z (pT z hc0 z)<|Ra z<|Wl (fun _ q => ⟨decide (x1 ≤ x3), som<|ifT hu1 hc0, (q.k<|s1 z), (br w0)⟩)
  iterate 3 refine Nh z hc0 ?_
  exact R z (pF z hc0 z)<|Ra z<|Wl (fun _ q => ⟨false, som<|ifF hu1 hc0, (q.k<|s1 z), (br w0)⟩)
 rintro a5 w7 ⟨x4, rfl, hS8, s6⟩
 revert a5
 refine Wo ?_
 obtain rfl := som hm3
 exact Wr<|d_ hr z ⟨s6, z⟩
theorem W_w0q {x1 : List UInt8} {x2 : Bool} {res : Int} (hm : e_L x1 x2 = some res) (hBw : B ≤ w0.z) (p1_0 : a_ w0 B (sl A0 N0 C0) x1) : j_ prog 125 [sl A0 N0 C0, vB x2] w0 (Q0 w0 B res) := by
 unfold e_L at hm
 refine goF func125 z z (lb z) fun fn hr => Ws<|Ra z<|Wn<|Ws<|Ra z<|Wn<|Wq<|Ws<|Rm z<|R z (lnR h_ z p1_0)<|R z (a_c z z)<|Wn<|Wc z (fun hc5 => ?_) (fun hc5 => ?_)
 ·refine Ws<|Ra z<|Wn ?_
  obtain rfl := som (ifT hm hc5)
  exact Wr<|d_ hr z ⟨(br w0), z, (ii z)⟩
 refine Wk<|Wq<|Ws<|Ra z<|Wn ?_
 obtain ⟨uv, hue, hm9⟩ := bdS (ifF hm hc5)
 refine Wf (σ := Int) (ρ := Int) (fun (k1 : Nat) (x0 : Int) a w => Sat 33 [(0, sl A0 N0 C0), (1, vB x2), (5, vI x0), (6, (vI ((k1 : Nat) : Int)))] a ∧ Below w0.z w0 w ∧ inI x0) (fun (x0 : Int) a w => Sat 33 [(5, vI x0)] a ∧ Below w0.z w0 w ∧ inI x0) (fun r ex a w => ex = .ret ∧ v_ prog fn (Q0 w0 B r) a w) hue ?_ ?_ ?_ ?_ ?_
 ·exact fun _ q => ⟨(q.k<|s4 z z z z), (br w0), (ii z)⟩
 ·rintro k1 x0 aw w2 ox hk6 ⟨hSf, s7, h3⟩ hmg
  refine Wu ?_ hSf
  refine Wq<|Ws<|Rm z<|Rm z ?_
  have ha := p1_0.e s7
  refine R z (lnR h_ z ha)<|R z (lss z z)<|Wn<|Wc z (fun _ => ?_) (fun hc => (R_ hk6 hc).elim)
  refine Wk<|Wq<|Wb<|Ws<|Rm z<|Ra z<|Wn<|Wq<|Ws<|Rm z<|Wn ?_
  obtain ⟨uh, hub, hmi⟩ := bdS hmg
  refine Wt (fun a w => ∃ (x4 : Int), x4 = uh ∧ Sat 33 [(0, sl A0 N0 C0), (1, vB x2), (5, vI x0), (6, (vI ((k1 : Nat) : Int))), (7, vI x4)] a ∧ Below w2.z w2 w ∧ inI x4) ?_ ?_
  ·refine Wc z (fun hc8 => ?_) (fun hc8 => ?_)
   ·exact Wg<|Rm z<|R z (lnR h_ z ha)<|R z (sb_ z z)<|Rm z<|R z (sb_ z z)<|Ra z<|Wl (fun _ q => ⟨y_ (y_ (x1.length : Int) 1) ((k1 : Nat) : Int), som<|ifT hub hc8, (q.k<|s5 z z z z z), (br w2), (iS _ _)⟩)
   exact a_J (fun _ q => ⟨((k1 : Nat) : Int), som<|ifF hub hc8, (q.k<|s5 z z z z z), (br w2), (ic (Nat.le_of_lt hk6)<|lt_ (a_.len p1_0) H_)⟩)
  rintro aj wy ⟨x4, rfl, hSz, sc, h10⟩
  revert aj
  refine Wo<|Wg<|Rm z<|R z (h_o z z)<|Rm z<|Rm z ?_
  obtain ⟨xk, el, hmm⟩ := bdS hmi
  refine RX z (at_ (α := UInt8) h_ z_5 z z z (p1_0.g<|(s7.ag B).e sc) el) ?_
  rintro _ ⟨b11, o12, cs13, rfl, hn, ho, h14⟩
  obtain rfl := u8 ho
  exact R z (l1 g_5 z fid<|hn.at0 z)<|R z (b_4 d_5 d_3 z)<|R z (add_ z z)<|Ra z<|Wn<|Wg<|Rm z<|R z (inc_ hk6 (lt_ (a_.len p1_0) H_) z z)<|Ra z<|Wl (fun _ q => ⟨c_ (b_6 x0 256)<|byteI xk, (som hmm).symm, ⟨(q.k<|s4 z z z z), (bup s7 sc), (iA _ _)⟩⟩)
 ·rintro x0 a15 w16 ⟨hSp, sd, h3⟩
  refine Wu ?_ hSp
  refine Wq<|Ws<|Rm z<|Rm z<|R z (lnR h_ z<|p1_0.e sd)<|R z (lss z z)<|Wn<|Wc z (fun hc => (S_ hc).elim) (fun _ => ?_)
  exact We (fun a' ha' => ⟨rfl, ⟨(Sat.weaken ha'<|s1 z), sd, h3⟩⟩)
 ·rintro x0 aq w17 rfl ⟨hS18, sr, h3⟩
  have hms := elL hm9
  revert aq
  refine Wo<|Ws<|Rm z<|Ra z<|Wn ?_
  obtain rfl := som hms
  exact Wr<|d_ hr z ⟨sr, z, h3⟩
 rintro r19 ex1a a1b w1c rfl ⟨rfl, hqt⟩
 have hmu := elR hm9
 obtain rfl := som hmu
 exact ⟨hqt, z⟩
def Q12 (w0 : World) (B : Zone) (r : (List UInt8) × Bool) (v : Value) (w' : World) : Prop := Bw w0 w' ∧ un2 (fun r1 r2 => ∃ a1 n1 c1 S1, v = .tuple #[sl a1 n1 c1, vB r2] ∧ b_ w' S1 (sl a1 n1 c1) r1 ∧ S1.Nodup ∧ (∀ k ∈ S1, w0.z ≤ k)) r
theorem W_w26 {x1 : List UInt8} {res : (List UInt8) × Bool} (hm : g_y n x1 = some res) (hBw : B ≤ w0.z) (p1_0 : a_ w0 B (sl A0 N0 C0) x1) : j_ prog 126 [sl A0 N0 C0] w0 (Q12 w0 B res) := by
 unfold g_y at hm
 refine goF func126 z z (lb z) fun fn hr => Ws<|Ra z<|Ra z<|Wn<|Ws<|E z (f0 (α := UInt8) D_) ?_
 rintro _ w3 ⟨a1v, n1w, c1x, rfl, s7, h1y⟩
 refine Ra z<|Wn<|Wq<|Ws<|Ra z<|Wn ?_
 obtain ⟨u4r, hu1z, hm19⟩ := bdS hm
 refine a_L (σ := (List UInt8) × Int) (ρ := (List UInt8) × Bool) (fun s a w => un2 (fun xk x4 => ∃ a5 n8 c9 S0, Sat 79 [(0, sl A0 N0 C0), (4, sl a5 n8 c9), (5, vI x4)] a ∧ Chg (· ∈ [w0.z]) w3 w ∧ b_ w S0 (sl a5 n8 c9) xk ∧ S0.Nodup ∧ (∀ k ∈ S0, k ∈ [w0.z] ∨ w3.z ≤ k) ∧ inI x4) s) (fun s a w => un2 (fun xk x4 => ∃ a5 n8 c9 S0, Sat 79 [(4, sl a5 n8 c9)] a ∧ Chg (· ∈ [w0.z]) w3 w ∧ b_ w S0 (sl a5 n8 c9) xk ∧ S0.Nodup ∧ (∀ k ∈ S0, k ∈ [w0.z] ∨ w3.z ≤ k) ∧ inI x4) s) (fun r ex a w => ex = .ret ∧ v_ prog fn (Q12 w0 B r) a w) hu1z ?_ ?_ ?_ ?_
 ·exact fun _ q => ⟨a1v, n1w, c1x, [w0.z], (q.k<|s3 z z z), (cr [w0.z] w3), h1y, a_0, (io sr), (ii z)⟩
 ·rintro ⟨xk, x4⟩ a4s wg o4t ⟨a5, n8, c9, S0, hS20, sb, hl, hn, hi, h1a⟩ hm21
  have hm1b := a_2 hm21
  refine Wu ?_ hS20
  refine Wq<|Ws<|Rm z<|Rm z ?_
  have h1c : ∀ k ∈ [w0.z], ¬ B k := or0 (f_ lr)  (r_ hBw)
  have hw := (s7.ag B).c sb<|k_ h1c
  have hx := p1_0.g hw
  refine R z (lnR h_ z hx)<|R z (lss z z)<|Wn<|Wc z (fun hcy => ?_) (fun hcy => ?_)
  ·refine Wk<|Wb<|Ws<|Rm z<|Rm z ?_
   obtain ⟨xm, e22, hm23⟩ := bdS (ifT hm1b hcy)
   refine RX z (at_ (α := UInt8) h_ z_5 z z z hx e22) ?_
   rintro _ ⟨b4u, o4v, cs4w, rfl, h24, h25, h4x⟩
   obtain rfl := u8 h25
   refine R z (l1 g_5 z fid<|h24.at0 z)<|R z (b_4 d_5 d_3 z)<|Ra z<|Wn<|Wq<|Wb<|Wq ?_
   obtain ⟨u26, hu1d, hm1e⟩ := bdS hm23
   refine Wt (fun a w => ∃ (xz : Bool), xz = u26 ∧ Sat 79 [(0, sl A0 N0 C0), (4, sl a5 n8 c9), (5, vI x4), (6, vI<|byteI xm), (40, vB xz)] a ∧ Below wg.z wg w) ?_ ?_
   ·refine Wg<|Rm z<|R z (eql z z)<|Rm z ?_
    rcases bs ((byteI xm) == 0) with hcf | hcf
    ·exact Nh z hcf<|Nh z hcf<|R z (pT z hcf z)<|Rm z<|Nh z z<|Nh z z<|Nh z z<|Nh z z<|Nh z z<|R z (pT z z z)<|Ra z<|Wl (fun _ q => ⟨true, som<|ifT hu1d hcf, (q.k<|s5 z z z z z), (br wg)⟩)
    have hm1f := ifF hu1d hcf
    refine Rh z hcf (mv z)<|Rh z hcf (eql z z)<|R z (pF z hcf z)<|Rm z ?_
    rcases bs ((byteI xm) == 128) with hca | hca
    ·iterate 5 refine Nh z hca ?_
     exact R z (pT z hca z)<|Ra z<|Wl (fun _ q => ⟨true, som<|ifT hm1f hca, (q.k<|s5 z z z z z), (br wg)⟩)
    exact Rh z hca (mv z)<|Rh z hca (add_ z z)<|Rh z hca (mv z)<|Rh z hca (lnR h_ z hx)<|Rh z hca (a_M z z)<|R z (pF z hca z)<|Ra z<|Wl (fun _ q => ⟨decide ((x1.length : Int) ≤ (c_ x4 1)), som<|ifF hm1f hca, (q.k<|s5 z z z z z), (br wg)⟩)
   rintro a27 w1 ⟨xz, rfl, hS4y, s6⟩
   revert a27
   refine Wo<|Wc z (fun hc10 => ?_) (fun hc10 => ?_)
   ·refine Ws<|E z (f0 (α := UInt8) D_) ?_
    rintro _ w4z ⟨a28, n29, c2a, rfl, s2b, h2c⟩
    exact Ra z<|Ra z<|Wn<|Wr<|rtO<|rtO<|qL (som<|ifT hm1e hc10).symm<|b_e hr z z ⟨(bup (bup (bM s7 sb<|f_ lr) s6) s2b), a28, n29, c2a, [w1.z], z, h2c, a_0, (m1<|lt_ (lt_ s7.s sb.s) s6.s)⟩
   refine Ws<|Rm z<|R z (a_c z z)<|Ra z<|Wn ?_
   obtain ⟨u2d, hu1g, hm11⟩ := bdS (ifF hm1e hc10)
   refine Wt (fun a w => ∃ (xr : List UInt8) (xo : Int), Sum.inl (xr, xo) = u2d ∧ ∃ au ns cv Sj, Sat 79 [(0, sl A0 N0 C0), (4, sl au ns cv), (5, vI xo)] a ∧ Chg (· ∈ S0) w1 w ∧ b_ w Sj (sl au ns cv) xr ∧ Sj.Nodup ∧ (∀ k ∈ Sj, k ∈ S0 ∨ w1.z ≤ k) ∧ inI xo) ?_ ?_
   ·refine Wc z (fun hc12 => ?_) (fun hc12 => ?_)
    ·refine Wq<|Ws<|Ra z<|Wn ?_
     obtain ⟨u50, hu2e, hm1h⟩ := bdS (ifT hu1g hc12)
     refine Wf (σ := (List UInt8)) (ρ := (List UInt8) × Bool) (fun (k1i : Nat) (xh : List UInt8) a w => ∃ ac nd ce S2, Sat 79 [(0, sl A0 N0 C0), (4, sl ac nd ce), (5, vI x4), (6, vI<|byteI xm), (7, (vI ((k1i : Nat) : Int)))] a ∧ Chg (· ∈ S0) w1 w ∧ b_ w S2 (sl ac nd ce) xh ∧ S2.Nodup ∧ (∀ k ∈ S2, k ∈ S0 ∨ w1.z ≤ k)) (fun (xh : List UInt8) a w => ∃ ac nd ce S2, Sat 79 [(0, sl A0 N0 C0), (4, sl ac nd ce), (5, vI x4)] a ∧ Chg (· ∈ S0) w1 w ∧ b_ w S2 (sl ac nd ce) xh ∧ S2.Nodup ∧ (∀ k ∈ S2, k ∈ S0 ∨ w1.z ≤ k)) (fun r ex a w => ex = .ret ∧ v_ prog fn (Q12 w0 B r) a w) hu2e ?_ ?_ ?_ ?_ ?_
     ·exact fun _ q => ⟨a5, n8, c9, S0, (q.k<|s5 z z z z z), (cr S0 w1), (hl.e s6), hn, (io sr)⟩
     ·rintro k1i xh a51 w1j o52 hk1k ⟨ac, nd, ce, S2, hS2f, s13, hp, hq, ht⟩ hm2g
      refine Wu ?_ hS2f
      refine Wq<|Ws<|Rm z<|Rm z<|R z (sb_ z z)<|R z (lss z z)<|Wn<|Wc z (fun _ => ?_) (fun hc => (h_e hk1k hc).elim)
      refine Wk<|Wq<|Wb<|Wg<|Rm z<|Rm z<|Rm z<|R z (add_ z z) ?_
      obtain ⟨x2h, e2i, hm2j⟩ := bdS hm2g
      have h2k : ∀ k ∈ S0, ¬ B k := or1 hi h1c (r_ (zt' hBw s7.s))
      refine RX z (at_ (α := UInt8) h_ z_5 z z z (p1_0.g<|(hw.e s6).c s13<|k_ h2k) e2i) ?_
      rintro _ ⟨b53, o54, cs55, rfl, h2l, h2m, h56⟩
      obtain rfl := u8 h2m
      refine R z (l1 g_5 z fid<|h2l.at0 z)<|E z (fS [(.tmp 69)] D_ z z z (a_p z) (lb z)<|lb z) ?_
      rintro _ w1l ⟨rfl, h14⟩
      have h15 := h14.below
      have h2n : Blk w1l w1j.z [vU (byteI x2h)] := h14.blk
      have h57 := b_r h14 a_z
      obtain ⟨x2o, e2p, hm2q⟩ := bdS hm2j
      refine E z (b_d (α := UInt8) D_ e2p z z (hp.e h15) hq h2n a_z an_ K_) ?_
      rintro _ w2r ⟨S1m, a2s, n2t, c2u, rfl, s2v, h2w, h2x, h2y⟩
      refine Ra z<|Wn<|Wg<|Rm z<|R z (inc_ hk1k (tl_<|iS _ _) z z)<|Ra z<|Wl ?_
      have h1n : ∀ k ∈ S2, k ∈ S0 ∨ w1.z ≤ k := or1 ht (io sr) (l_ lr)
      have h2z : ∀ k ∈ S1m, k ∈ S0 ∨ w1.z ≤ k := or2 h2y h1n an_ (l_ (lt_ s13.s h15.s))
      have h30 : Chg (· ∈ S0) w1 w1j := cM (cr S0 w1) s13 (io sr)
      have h31 : Chg (· ∈ S0) w1 w1l := z_ h30 h15
      have h32 : Chg (· ∈ S0) w1 w2r := cM h31 s2v h1n
      exact fun _ q => ⟨x2o, (som hm2q).symm, ⟨a2s, n2t, c2u, S1m, (q.k<|s5 z z z z z), h32, h2w, h2x, h2z⟩⟩
     ·rintro xh a58 w33 ⟨ac, nd, ce, S2, hS34, s35, hp, hq, ht⟩
      refine Wu ?_ hS34
      refine Wq<|Ws<|Rm z<|Rm z<|R z (sb_ z z)<|R z (lss z z)<|Wn<|Wc z (fun hc => (h_f hc).elim) (fun _ => ?_)
      have h36 : ∀ k ∈ S2, k ∈ S0 ∨ w1.z ≤ k := or1 ht (io sr) (l_ lr)
      have h37 : Chg (· ∈ S0) w1 w33 := cM (cr S0 w1) s35 (io sr)
      exact We (fun a' ha' => ⟨rfl, ⟨ac, nd, ce, S2, (Sat.weaken ha'<|s3 z z z), h37, hp, hq, h36⟩⟩)
     ·rintro xh a38 w39 rfl ⟨ac, nd, ce, S2, hS59, s3a, hp, hq, ht⟩
      have hm3b := elL hm1h
      revert a38
      refine Wo<|Wg<|Rm z<|R z (add_ z z)<|Ra z<|Wl ?_
      have h3c : ∀ k ∈ S2, k ∈ S0 ∨ w1.z ≤ k := or1 ht (io sr) (l_ lr)
      have h3d : Chg (· ∈ S0) w1 w39 := cM (cr S0 w1) s3a (io sr)
      exact fun _ q => ⟨xh, c_ x4 2, som hm3b, ac, nd, ce, S2, (q.k<|s3 z z z), h3d, hp, hq, h3c, (iA _ _)⟩
     rintro r5a ex5b a5c w5d rfl ⟨rfl, hq3e⟩
     have hm3f := elR hm1h
     obtain rfl := som hm3f
     have hm3g := elR hm11
     exact ⟨(e_F<|e_F<|f_m (som hm3g).symm ⟨rfl, hq3e⟩), z⟩
    have hm1o := ifF hu1g hc12
    refine Wq<|Ws<|Rm z<|R z (add_ z z)<|Rm z<|R z (add_ z z)<|Rm z ?_
    have h1p := p1_0.g<|hw.e s6
    refine R z (lnR h_ z h1p)<|R z (a_c z z)<|Wn<|Wc z (fun hc16 => ?_) (fun hc16 => ?_)
    ·refine Ws<|E z (f0 (α := UInt8) D_) ?_
     rintro _ w5e ⟨a3h, n3i, c3j, rfl, s3k, h3l⟩
     refine Ra z<|Ra z<|Wn ?_
     obtain rfl := som (ifT hm1o hc16)
     have hm3m := elR hm11
     exact Wr<|rtO<|rtO<|qL (som hm3m).symm<|b_e hr z z ⟨(bup (bup (bM s7 sb<|f_ lr) s6) s3k), a3h, n3i, c3j, [w1.z], z, h3l, a_0, (m1<|lt_ (lt_ s7.s sb.s) s6.s)⟩
    refine Wk<|Ws<|Rm z<|Rm z<|Rm z<|R z (add_ z z)<|Rm z<|R z (add_ z z)<|Rm z<|R z (add_ z z) ?_
    obtain ⟨x5f, e3n, hm3o⟩ := bdS (ifF hm1o hc16)
    refine RX z (rX h_ z_5 z z h1p z z e3n) ?_
    rintro _ ⟨a5g, n5h, c5i, rfl, h3p⟩
    obtain ⟨x3q, e3r, hm3s⟩ := bdS hm3o
    refine E z (fN (α := UInt8) D_ e3r z z (hl.e s6) hn h3p) ?_
    rintro _ w3t ⟨S1q, a3u, n3v, c3w, rfl, s3x, h3y, h3z, h40⟩
    refine Ra z<|Wn<|Wg<|Rm z<|R z (add_ z z)<|Rm z<|R z (add_ z z)<|Ra z<|Wl ?_
    have h41 : ∀ k ∈ S1q, k ∈ S0 ∨ w1.z ≤ k := or1 h40 (io sr) (l_ lr)
    have h42 : Chg (· ∈ S0) w1 w3t := cM (cr S0 w1) s3x (io sr)
    exact fun _ q => ⟨x3q, c_ (c_ x4 1)<|byteI xm, som hm3s, a3u, n3v, c3w, S1q, (q.k<|s3 z z z), h42, h3y, h3z, h41, (iA _ _)⟩
   rintro a43 w1r ⟨xr, xo, rfl, au, ns, cv, Sj, hS5j, s17, h1s, h44, h45, h46⟩
   have hm47 := elL hm11
   have hm1t := a_2 hm47
   revert a43
   refine Wo<|Ws<|Rm z<|R z (lnR h_ z<|b_.rep h1s)<|R z (a_c z z)<|Wn<|Wc z (fun hc18 => ?_) (fun hc18 => ?_)
   ·refine Ws<|E z (f0 (α := UInt8) D_) ?_
    rintro _ w5k ⟨a48, n49, c4a, rfl, s4b, h4c⟩
    refine Ra z<|Ra z<|Wn ?_
    have h4d : ∀ k ∈ S0, w0.z ≤ k := or1 hi (f_ lr) (a_E s7.s)
    exact Wr<|rtO<|qL (som<|ifT hm1t hc18).symm<|b_e hr z z ⟨(bup (bM (bup (bM s7 sb<|f_ lr) s6) s17 h4d) s4b), a48, n49, c4a, [w1r.z], z, h4c, a_0, (m1<|lt_ (lt_ (lt_ s7.s sb.s) s6.s) s17.s)⟩
   refine a_J ?_
   have h1u : ∀ k ∈ S0, k ∈ [w0.z] ∨ w3.z ≤ k := or1 hi (io sr) (l_ lr)
   have h4e : ∀ k ∈ Sj, k ∈ [w0.z] ∨ w3.z ≤ k := or1 h45 h1u (l_ (lt_ sb.s s6.s))
   have h4f : Chg (· ∈ [w0.z]) w3 wg := cM (cr [w0.z] w3) sb (io sr)
   have h4g : Chg (· ∈ [w0.z]) w3 w1 := z_ h4f s6
   have h4h : Chg (· ∈ [w0.z]) w3 w1r := cM h4g s17 h1u
   exact fun _ q => ⟨(xr, xo), (som<|ifF hm1t hc18).symm, ⟨au, ns, cv, Sj, (q.k<|s3 z z z), h4h, h1s, h44, h4e, h46⟩⟩
  have h4i : ∀ k ∈ S0, k ∈ [w0.z] ∨ w3.z ≤ k := or1 hi (io sr) (l_ lr)
  have h4j : Chg (· ∈ [w0.z]) w3 wg := cM (cr [w0.z] w3) sb (io sr)
  exact We (fun a' ha' => a_F (som<|ifF hm1b hcy).symm ⟨a5, n8, c9, S0, (Sat.weaken ha'<|s1 z), h4j, hl, hn, h4i, h1a⟩)
 ·rintro ⟨xk, x4⟩ a4k w5l rfl ⟨a5, n8, c9, S0, hS5m, s4l, hl, hn, hi, h1a⟩
  have hm4m := elL hm19
  have hm4n := a_2 hm4m
  revert a4k
  refine Wo<|Ws<|Rm z<|Ra z<|Ra z<|Wn ?_
  obtain rfl := som hm4n
  have h4o : ∀ k ∈ S0, w0.z ≤ k := or1 hi (f_ lr) (a_E s7.s)
  exact Wr<|b_e hr z z ⟨(bM s7 s4l<|f_ lr), a5, n8, c9, S0, z, hl, hn, h4o⟩
 rintro r5n ex5o a5p w5q rfl ⟨rfl, hq4p⟩
 have hm4q := elR hm19
 obtain rfl := som hm4q
 exact ⟨hq4p, z⟩
theorem i_m {x1 : Str} {res : Bool} (hm : e_7 x1 = some res) (hBw : B ≤ w0.z) (p1_0 : x1.b.length ≤ LEN) : j_ prog 106 [Str.v x1] w0 (Q11 w0 B res) := by
 unfold e_7 at hm
 refine goF func106 z z (lb z) fun fn hr => Ws<|Ra z<|Wn<|Wq<|Ws<|Ra z<|Wn ?_
 obtain ⟨u1k, hus, hmc⟩ := bdS hm
 refine Wf (σ := Unit) (ρ := Bool) (fun (k4 : Nat) (_ : Unit) a w => Sat 45 [(0, Str.v x1), (3, (vI ((k4 : Nat) : Int)))] a ∧ Below w0.z w0 w) (fun (_ : Unit) a w => Sat 45 [(0, Str.v x1)] a ∧ Below w0.z w0 w) (fun r ex a w => ex = .ret ∧ v_ prog fn (Q11 w0 B r) a w) hus ?_ ?_ ?_ ?_ ?_
 ·exact fun _ q => ⟨(q.k<|s2 z z), (br w0)⟩
 ·rintro k4 _ a1l w7 o1m hkd ⟨hSt, se⟩ hmu
  refine Wu ?_ hSt
  refine Wq<|Ws<|Rm z<|Rm z<|R z (lnT d_9 z)<|R z (lss z z)<|Wn<|Wc z (fun _ => ?_) (fun hc => (R_ hkd hc).elim)
  refine Wk<|Wq<|Wb<|Wq ?_
  obtain ⟨uv, huw, hmx⟩ := bdS hmu
  refine Wt (fun a w => ∃ (x5 : Bool), x5 = uv ∧ Sat 45 [(0, Str.v x1), (3, (vI ((k4 : Nat) : Int))), (4, vB x5)] a ∧ Below w7.z w7 w) ?_ ?_
  ·refine Wg<|Rm z<|Rm z ?_
   obtain ⟨xy, ef, hmg⟩ := bdS huw
   refine R z (h_m d_9 z z (b_A ef).1 (b_A ef).2.1)<|R z (a_M z z)<|Rm z ?_
   rcases bs (decide ((byteI (97 : UInt8)) ≤ (byteI xy))) with hc1 | hc1
   ·refine Rh z hc1 (mv z)<|Rh z hc1 (mv z) ?_
    obtain ⟨xz, eh, hm10⟩ := bdS (ifT hmg hc1)
    exact Rh z hc1 (h_m d_9 z z (b_A eh).1 (b_A eh).2.1)<|Rh z hc1 (c_F z z)<|R z (pT z hc1 z)<|Ra z<|Wl (fun _ q => ⟨decide ((byteI xz) ≤ (byteI (122 : UInt8))), som hm10, (q.k<|s3 z z z), (br w7)⟩)
   iterate 4 refine Nh z hc1 ?_
   exact R z (pF z hc1 z)<|Ra z<|Wl (fun _ q => ⟨false, som<|ifF hmg hc1, (q.k<|s3 z z z), (br w7)⟩)
  rintro a11 w8 ⟨x5, rfl, hS1n, si⟩
  revert a11
  refine Wo<|Wq ?_
  obtain ⟨u12, hu13, hm14⟩ := bdS hmx
  refine Wt (fun a w => ∃ (x9 : Bool), x9 = u12 ∧ Sat 45 [(0, Str.v x1), (3, (vI ((k4 : Nat) : Int))), (4, vB x5), (5, vB x9)] a ∧ Below w8.z w8 w) ?_ ?_
  ·refine Wg<|Rm z<|Rm z ?_
   obtain ⟨x15, ej, hmk⟩ := bdS hu13
   refine R z (h_m d_9 z z (b_A ej).1 (b_A ej).2.1)<|R z (a_M z z)<|Rm z ?_
   rcases bs (decide ((byteI (48 : UInt8)) ≤ (byteI x15))) with hc2 | hc2
   ·refine Rh z hc2 (mv z)<|Rh z hc2 (mv z) ?_
    obtain ⟨x16, el, hm17⟩ := bdS (ifT hmk hc2)
    exact Rh z hc2 (h_m d_9 z z (b_A el).1 (b_A el).2.1)<|Rh z hc2 (c_F z z)<|R z (pT z hc2 z)<|Ra z<|Wl (fun _ q => ⟨decide ((byteI x16) ≤ (byteI (57 : UInt8))), som hm17, (q.k<|s4 z z z z), (br w8)⟩)
   iterate 4 refine Nh z hc2 ?_
   exact R z (pF z hc2 z)<|Ra z<|Wl (fun _ q => ⟨false, som<|ifF hmk hc2, (q.k<|s4 z z z z), (br w8)⟩)
  rintro a18 w6 ⟨x9, rfl, hS1o, sm⟩
  revert a18
  refine Wo<|Wq ?_
  obtain ⟨u19, hun, hmo⟩ := bdS hm14
  refine Wt (fun a w => ∃ (xa : Bool), xa = u19 ∧ Sat 45 [(0, Str.v x1), (3, (vI ((k4 : Nat) : Int))), (41, vB xa)] a ∧ Below w6.z w6 w) ?_ ?_
  ·refine Wg<|Rm z<|R z (not_ z)<|Rm z ?_
   rcases bs (!x5) with hc0 | hc0
   ·have hmp := ifT hun hc0
    refine Rh z hc0 (mv z)<|Rh z hc0 (not_ z)<|Rh z hc0 (mv z) ?_
    rcases bs (!x9) with hc3 | hc3
    ·exact Nh z hc3<|Nh z hc3<|Rh z hc0 (pT z hc3 z)<|R z (pT z hc0 z)<|Wl (fun _ q => ⟨true, som<|ifT hmp hc3, (q.k<|s3 z z z), (br w6)⟩)
    exact Rh z hc3 (mv z)<|Rh z hc3 (eql z z)<|Rh z hc0 (pF z hc3 z)<|R z (pT z hc0 z)<|Wl (fun _ q => ⟨((k4 : Nat) : Int) == 0, som<|ifF hmp hc3, (q.k<|s3 z z z), (br w6)⟩)
   iterate 3 refine Nh z hc0 ?_
   exact Nv z<|Nv z<|Nh z hc0<|R z (pF z hc0 z)<|Wl (fun _ q => ⟨false, som<|ifF hun hc0, (q.k<|s3 z z z), (br w6)⟩)
  rintro a1a w1p ⟨xa, rfl, hS1q, sq⟩
  revert a1a
  refine Wo<|Wc z (fun hcb => ?_) (fun hcb => ?_)
  ·exact Ws<|Ra z<|Wn<|Wr<|rtO<|qL (som<|ifT hmo hcb).symm<|d_ hr z ⟨(bup (bup (bup se si) sm) sq), z⟩
  exact Wk<|Wg<|Rm z<|R z (inc_ hkd (lt_ p1_0 H_) z z)<|Ra z<|Wl (fun _ q => ⟨(), (som<|ifF hmo hcb).symm, ⟨(q.k<|s2 z z), (bup (bup (bup se si) sm) sq)⟩⟩)
 ·rintro _ a1r w1s ⟨hS1b, s1c⟩
  refine Wu ?_ hS1b
  refine Wq<|Ws<|Rm z<|Rm z<|R z (lnT d_9 z)<|R z (lss z z)<|Wn<|Wc z (fun hc => (S_ hc).elim) (fun _ => ?_)
  exact We (fun a' ha' => ⟨rfl, ⟨(Sat.weaken ha'<|s1 z), s1c⟩⟩)
 ·rintro _ a1d w1t rfl ⟨hS1u, sr⟩
  have hm1e := elL hmc
  revert a1d
  refine Wo<|Ws<|Rm z<|R z (lnT d_9 z) ?_
  obtain ⟨r1v, e1f, hm1g⟩ := bdS hm1e
  refine E z (fc call97 z<|a_I (B := B) e1f (zt' hBw sr.s) (b_2 p1_0) (ii z)<|ii z) ?_
  rintro _ w1w ⟨s1h, rfl⟩
  refine Ra z<|Wn ?_
  obtain rfl := som hm1g
  exact Wr<|d_ hr z ⟨(bup sr s1h), z⟩
 rintro r1x ex1y a1z w20 rfl ⟨rfl, hq1i⟩
 have hm1j := elR hmc
 obtain rfl := som hm1j
 exact ⟨hq1i, z⟩
theorem W_w27 {x1 : o_} {res : Bool} (hm : g_z x1 = some res) (hBw : B ≤ w0.z) (p1_0 : inI x1.kind) (p1_1 : x1.name.b.length ≤ LEN) (p1_2 : inI x1.version) (p1_3 : a_ w0 B (sl AD ND CD) x1.data) : j_ prog 76 [(.agg #[vI x1.kind, Str.v x1.name, vI x1.version, sl AD ND CD])] w0 (Q11 w0 B res) := by
 unfold g_z at hm
 refine goF func76 z z (lb z) fun fn hr => Ws<|E z (fb z) ?_
 rintro _ wb ⟨rfl, hd⟩
 have h9 := hd.below
 have he : Blk wb w0.z [vI x1.kind, Str.v x1.name, vI x1.version, sl AD ND CD] := hd.blk
 refine Ra z<|Wn<|Wq ?_
 obtain ⟨up, huq, hmr⟩ := bdS hm
 refine Wt (fun a w => ∃ (xc : Bool), xc = up ∧ Sat 38 [(2, vB xc)] a ∧ Below wb.z wb w) ?_ ?_
 ·refine Wg<|R z (fd b_N z)<|R z (l1 g_3 z fid<|he.at z) ?_
  obtain ⟨rs, et, hmf⟩ := bdS huq
  refine E z (fc call97 z<|a_I (B := B) et (zt' hBw h9.s) p1_0 (ii z)<|ii z) ?_
  rintro _ w10 ⟨s2, rfl⟩
  refine Rm z ?_
  rcases bs rs with hc5 | hc5
  ·refine Rh z hc5 (fd c_v z) ?_
   have hg := he.e s2
   refine Rh z hc5 (l1 g_9 z fid<|hg.at z) ?_
   have hh := lt_ h9.s s2.s
   obtain ⟨ru, ev, hmi⟩ := bdS (ifT hmf hc5)
   refine Eg z z hc5 z (fc call106 z<|i_m (B := B) ev (zt' hBw hh) p1_1) ?_
   rintro _ w11 ⟨s6, rfl⟩
   refine R z (pT z hc5 z)<|Rm z ?_
   rcases bs ru with hc7 | hc7
   ·refine Rh z hc7 (fd b_O z) ?_
    have hj := hg.e s6
    refine Rh z hc7 (l1 g_3 z fid<|hj.at z) ?_
    obtain ⟨rx, ew, hmk⟩ := bdS (ifT hmi hc7)
    refine Eg z z hc7 z (fc call97 z<|a_I (B := B) ew (zt' hBw<|lt_ hh s6.s) p1_2 (ii z)<|ii z) ?_
    rintro _ w12 ⟨s8, rfl⟩
    refine R z (pT z hc7 z)<|Rm z ?_
    rcases bs rx with hc3 | hc3
    ·have hml := ifT hmk hc3
     refine Rh z hc3 (fd c_w z) ?_
     have ha := hj.e s8
     refine Rh z hc3 (l1 J_ z fid<|ha.at z) ?_
     have hn := p1_3.g<|(((h9.ag B).e s2).e s6).e s8
     refine Rh z hc3 (lnR h_ z hn)<|Rh z hc3 (c_F z z)<|R z (pT z hc3 z)<|Rm z ?_
     rcases bs (decide ((x1.data.length : Int) ≤ 400)) with hc0 | hc0
     ·have hmm := ifT hml hc0
      refine Rh z hc0 (fd b_N z)<|Rh z hc0 (l1 g_3 z fid<|ha.at z)<|Rh z hc0 (eql z z)<|Rh z hc0 (mv z) ?_
      rcases bs (x1.kind == 1) with hc1 | hc1
      ·iterate 4 refine Nh z hc1 ?_
       exact Nv z<|Nv z<|Nv z<|Nv z<|Nh z hc1<|Rh z hc0 (pT z hc1 z)<|R z (pT z hc0 z)<|Ra z<|Wl (fun _ q => ⟨true, som<|ifT hmm hc1, (q.k<|s1 z), (bup (bup s2 s6) s8)⟩)
      have hmo := ifF hmm hc1
      refine Rh z hc1 (fd b_O z)<|Rh z hc1 (l1 g_3 z fid<|ha.at z)<|Rh z hc1 (eql z z)<|Rh z hc1 (mv z) ?_
      rcases bs (x1.version == 0) with hc4 | hc4
      ·exact Rh z hc4 (fd c_w z)<|Rh z hc4 (l1 J_ z fid<|ha.at z)<|Rh z hc4 (lnR h_ z hn)<|Rh z hc4 (eql z z)<|Rh z hc1 (pT z hc4 z)<|Rh z hc0 (pF z hc1 z)<|R z (pT z hc0 z)<|Ra z<|Wl (fun _ q => ⟨(x1.data.length : Int) == 0, som<|ifT hmo hc4, (q.k<|s1 z), (bup (bup s2 s6) s8)⟩)
      iterate 4 refine Nh z hc4 ?_
      exact Rh z hc1 (pF z hc4 z)<|Rh z hc0 (pF z hc1 z)<|R z (pT z hc0 z)<|Ra z<|Wl (fun _ q => ⟨false, som<|ifF hmo hc4, (q.k<|s1 z), (bup (bup s2 s6) s8)⟩)
     iterate 4 refine Nh z hc0 ?_
     exact Nv z<|Nv z<|Nv z<|Nv z<|Nv z<|Nv z<|Nv z<|Nv z<|Nv z<|Nh z hc0<|R z (pF z hc0 z)<|Ra z<|Wl (fun _ q => ⟨false, som<|ifF hml hc0, (q.k<|s1 z), (bup (bup s2 s6) s8)⟩)
    iterate 4 refine Nh z hc3 ?_
    exact R z (pF z hc3 z)<|Rm z<|Nh z z<|Nh z z<|Nh z z<|Nh z z<|Nv z<|Nv z<|Nv z<|Nv z<|Nv z<|Nv z<|Nv z<|Nv z<|Nv z<|Nh z z<|R z (pF z z z)<|Ra z<|Wl (fun _ q => ⟨false, som<|ifF hmk hc3, (q.k<|s1 z), (bup (bup s2 s6) s8)⟩)
   iterate 3 refine Nh z hc7 ?_
   refine R z (pF z hc7 z)<|Rm z<|Nh z z<|Nh z z<|Nh z z<|Nh z z<|R z (pF z z z)<|Rm z<|Nh z z<|Nh z z<|Nh z z<|Nh z z<|Nv z<|Nv z<|Nv z<|Nv z<|Nv z<|Nv z<|Nv z<|Nv z<|Nv z<|Nh z z<|R z (pF z z z)<|Ra z<|Wl ?_
   exact fun _ q => ⟨false, som<|ifF hmi hc7, (q.k<|s1 z), (bup s2 s6)⟩
  iterate 3 refine Nh z hc5 ?_
  refine R z (pF z hc5 z)<|Rm z<|Nh z z<|Nh z z<|Nh z z<|R z (pF z z z)<|Rm z<|Nh z z<|Nh z z<|Nh z z<|Nh z z<|R z (pF z z z)<|Rm z<|Nh z z<|Nh z z<|Nh z z<|Nh z z<|Nv z<|Nv z<|Nv z<|Nv z<|Nv z<|Nv z<|Nv z<|Nv z ?_
  exact Nv z<|Nh z z<|R z (pF z z z)<|Ra z<|Wl (fun _ q => ⟨false, som<|ifF hmf hc5, (q.k<|s1 z), s2⟩)
 rintro ay w13 ⟨xc, rfl, hS14, sz⟩
 revert ay
 refine Wo ?_
 obtain rfl := som hmr
 exact Wr<|d_ hr z ⟨(bup h9 sz), z⟩
theorem W_w0r {x1 : List UInt8} {x2 : Int} {res : Int} (hm : e_g n x1 x2 = some res) (hBw : B ≤ w0.z) (p1_0 : a_ w0 B (sl A0 N0 C0) x1) (p2_0 : inI x2) : j_ prog 108 [sl A0 N0 C0, vI x2] w0 (Q0 w0 B res) := by
 unfold e_g at hm
 refine goF func108 z z (lb z) fun fn hr => Ws<|Ra z<|Wn<|Wq<|Ws<|Rm z<|Rm z<|R z (lnR h_ z p1_0)<|R z (sb_ z z) ?_
 obtain ⟨r12, eh, hmb⟩ := bdS hm
 refine E z (fc call97 z<|a_I (B := B) eh hBw p2_0 (ii z)<|iS _ _) ?_
 rintro _ w1 ⟨s2, rfl⟩
 refine R z (not_ z)<|Wn<|Wc z (fun hc4 => ?_) (fun hc4 => ?_)
 ·refine Ws<|Ra z<|Wn ?_
  obtain rfl := som (ifT hmb hc4)
  exact Wr<|d_ hr z ⟨s2, z, (ii z)⟩
 refine Wk<|Ws<|Ra z<|Wn<|Wq ?_
 obtain ⟨u13, hui, hmc⟩ := bdS (ifF hmb hc4)
 refine a_L (σ := Int) (ρ := Int) (fun (x3 : Int) a w => Sat 34 [(0, sl A0 N0 C0), (1, vI x2), (5, vI x3)] a ∧ Below w1.z w1 w ∧ inI x3) (fun (x3 : Int) a w => Sat 34 [(5, vI x3)] a ∧ Below w1.z w1 w ∧ inI x3) (fun r ex a w => ex = .ret ∧ v_ prog fn (Q0 w0 B r) a w) hui ?_ ?_ ?_ ?_
 ·exact fun _ q => ⟨(q.k<|s3 z z z), (br w1), (ii z)⟩
 ·rintro x3 a14 wd o15 ⟨hSj, s5, h6⟩ hmk
  refine Wu ?_ hSj
  refine Wq<|Wq ?_
  obtain ⟨ul, hue, hmf⟩ := bdS hmk
  refine Wt (fun a w => ∃ (x7 : Bool), x7 = ul ∧ Sat 34 [(0, sl A0 N0 C0), (1, vI x2), (5, vI x3), (30, vB x7)] a ∧ Below wd.z wd w) ?_ ?_
  ·refine Wd (X := noX) 0 (.rd 0 (.rd 1 (.rd 2 (.rd 3 (.rd 4 (.rd 5 (.rd 6 (.rd 7 (.rd 8 (.rd 9 (.rd 10 (.rd 11 (.rd 12 (.rd 13 (.rd 14 (.rd 15 (.rd 16 (.rd 17 (.rd 18 .done))))))))))))))))))) mo (by kernel_rfl) fun w16 s8 _ => dR z z (mv z)<|dR z z (mv z)<|dR z z (add_ z z)<|dR z z (mv z) ?_
   have h9 := p1_0.g<|((s2.ag B).e s5).e s8
   refine dR z z (lnR h_ z h9)<|dR z z (lss z z)<|dR z z (mv z) ?_
   rcases bs (decide ((c_ x2 x3) < (x1.length : Int))) with hc0 | hc0
   ·iterate 3 refine dRg z z z hc0 z (mv z) ?_
    refine dRg z z z hc0 z (add_ z z) ?_
    obtain ⟨xm, en, hmo⟩ := bdS (ifT hue hc0)
    refine a_K z z z hc0 z (at_ (α := UInt8) h_ z_5 z z z h9 en) ?_
    rintro _ ⟨b17, o18, cs19, rfl, hp, hq, h1a⟩
    obtain rfl := u8 hq
    refine dRg z z z hc0 z (l1 g_5 z fid<|hp.at0 z)<|dRg z z z hc0 z (mv z)<|dRg z z z hc0 z (mv z) ?_
    obtain ⟨xr, es, hmt⟩ := bdS hmo
    refine a_K z z z hc0 z (at_ (α := UInt8) h_ z_5 z z z h9 es) ?_
    rintro _ ⟨b1b, o1c, cs1d, rfl, hu, hv, h1e⟩
    obtain rfl := u8 hv
    exact dRg z z z hc0 z (l1 g_5 z fid<|hu.at0 z)<|dRg z z z hc0 z (eql z z)<|dR z z (pT z hc0 z)<|pD (fun _ q => ⟨(byteI xm) == (byteI xr), som hmt, (q.k<|s4 z z z z), s8⟩)
   iterate 11 refine dRn z z z hc0 z ?_
   exact dR z z (pF z hc0 z)<|pD (fun _ q => ⟨false, som<|ifF hue hc0, (q.k<|s4 z z z z), s8⟩)
  rintro aw w1f ⟨x7, rfl, hS1g, sg⟩
  revert aw
  refine Wo<|Wc z (fun hca => ?_) (fun hca => ?_)
  ·exact Wk<|Wb<|Wg<|Rm z<|R z (add_ z z)<|Ra z<|Wl (fun _ q => ⟨c_ x3 1, (som<|ifT hmf hca).symm, ⟨(q.k<|s3 z z z), (bup s5 sg), (iA _ _)⟩⟩)
  exact We (fun a' ha' => a_F (som<|ifF hmf hca).symm ⟨(Sat.weaken ha'<|s1 z), (bup s5 sg), h6⟩)
 ·rintro x3 ax w1h rfl ⟨hS1i, sy, h6⟩
  have hmz := elL hmc
  revert ax
  refine Wo<|Ws<|Rm z<|Ra z<|Wn ?_
  obtain rfl := som hmz
  exact Wr<|d_ hr z ⟨(bup s2 sy), z, h6⟩
 rintro r1j ex1k a1l w1m rfl ⟨rfl, hq10⟩
 have hm11 := elR hmc
 obtain rfl := som hm11
 exact ⟨hq10, z⟩
theorem W_w28 {x1 : Int} {x2 : Int} {res : Int} (hm : g_A x1 x2 = some res) (hBw : B ≤ w0.z) (p1_0 : inI x1) (p2_0 : inI x2) : j_ prog 107 [vI x1, vI x2] w0 (Q0 w0 B res) := by
 unfold g_A at hm
 refine goF func107 z z (lb z) fun fn hr => Ws<|Ra z<|Wn<|Wq<|Ws<|Rm z<|Rm z<|R z (lss z z)<|Wn<|Wc z (fun hc0 => ?_) (fun hc0 => ?_)
 ·refine Ws<|Rm z<|Ra z<|Wn ?_
  obtain rfl := som (ifT hm hc0)
  exact Wr<|d_ hr z ⟨(br w0), z, p2_0⟩
 refine Wk<|Ws<|Rm z<|Ra z<|Wn ?_
 obtain rfl := som (ifF hm hc0)
 exact Wr<|d_ hr z ⟨(br w0), z, p1_0⟩
theorem W_w29 {x1 : List UInt8} {res : (List UInt8)} (hm : g_B n x1 = some res) (hBw : B ≤ w0.z) (p1_0 : a_ w0 B (sl A0 N0 C0) x1) : j_ prog 77 [sl A0 N0 C0] w0 (Q1 w0 B res) := by
 unfold g_B at hm
 refine goF func77 z z (lb z) fun fn hr => Ws<|Ra z<|Wn<|Ws<|E z (f0 (α := UInt8) D_) ?_
 rintro _ w2 ⟨a1x, n1y, c1z, rfl, se, h20⟩
 refine Ra z<|Wn<|Wq<|Ws<|Ra z<|Wn ?_
 obtain ⟨u4p, hu21, hm18⟩ := bdS hm
 refine a_L (σ := (List UInt8) × Int) (ρ := (List UInt8)) (fun s a w => un2 (fun xf x4 => ∃ a5 n6 c7 S0, Sat 64 [(0, sl A0 N0 C0), (3, sl a5 n6 c7), (4, vI x4)] a ∧ Chg (· ∈ [w0.z]) w2 w ∧ b_ w S0 (sl a5 n6 c7) xf ∧ S0.Nodup ∧ (∀ k ∈ S0, k ∈ [w0.z] ∨ w2.z ≤ k) ∧ inI x4) s) (fun s a w => un2 (fun xf x4 => ∃ a5 n6 c7 S0, Sat 64 [(3, sl a5 n6 c7)] a ∧ Chg (· ∈ [w0.z]) w2 w ∧ b_ w S0 (sl a5 n6 c7) xf ∧ S0.Nodup ∧ (∀ k ∈ S0, k ∈ [w0.z] ∨ w2.z ≤ k) ∧ inI x4) s) (fun r ex a w => ex = .ret ∧ v_ prog fn (Q1 w0 B r) a w) hu21 ?_ ?_ ?_ ?_
 ·exact fun _ q => ⟨a1x, n1y, c1z, [w0.z], (q.k<|s3 z z z), (cr [w0.z] w2), h20, a_0, (io sr), (ii z)⟩
 ·rintro ⟨xf, x4⟩ a4q w1 o4r ⟨a5, n6, c7, S0, hS22, sg, hh, hi, hj, hn⟩ hm23
  have hm19 := a_2 hm23
  refine Wu ?_ hS22
  refine Wq<|Ws<|Rm z<|Rm z ?_
  have h1a : ∀ k ∈ [w0.z], ¬ B k := or0 (f_ lr)  (r_ hBw)
  have ho := (se.ag B).c sg<|k_ h1a
  have h1b := p1_0.g ho
  refine R z (lnR h_ z h1b)<|R z (lss z z)<|Wn<|Wc z (fun hcy => ?_) (fun hcy => ?_)
  ·refine Wk ?_
   obtain ⟨u24, hu25, hm1c⟩ := bdS (ifT hm19 hcy)
   refine Wt (fun a w => ∃ (xp : List UInt8) (xk : Int), Sum.inl (xp, xk) = u24 ∧ ∃ aq nr cs Sd, Sat 64 [(0, sl A0 N0 C0), (3, sl aq nr cs), (4, vI xk)] a ∧ Chg (· ∈ S0) w1 w ∧ b_ w Sd (sl aq nr cs) xp ∧ Sd.Nodup ∧ (∀ k ∈ Sd, k ∈ S0 ∨ w1.z ≤ k) ∧ inI xk) ?_ ?_
   ·refine Wb<|Ws<|Rm z<|Rm z ?_
    have h1d := lt_ se.s sg.s
    obtain ⟨r4s, e26, hm27⟩ := bdS hu25
    refine E z (fc call108 z<|W_w0r (B := B) e26 (zt' hBw h1d) h1b hn) ?_
    rintro _ w1e ⟨s8, rfl, h28⟩
    have h1f := lt_ h1d s8.s
    obtain ⟨rt, e29, hm1g⟩ := bdS hm27
    refine E z (fc call107 z<|W_w28 (B := B) e29 (zt' hBw h1f) h28<|ii z) ?_
    rintro _ w9 ⟨sa, rfl, h4t⟩
    refine Ra z<|Wn<|Wq<|Ws<|Rm z<|R z (a_M z z)<|Wn<|Wc z (fun hcz => ?_) (fun hcz => ?_)
    ·refine Ws<|Rm z<|Rm z<|R z (add_ z z)<|R z (b_3 d_3 d_5 z)<|Rm z<|Rm z ?_
     obtain ⟨x10, e2a, hm2b⟩ := bdS (ifT hm1g hcz)
     refine RX z (at_ (α := UInt8) h_ z_5 z z z (p1_0.g<|(ho.e s8).e sa) e2a) ?_
     rintro _ ⟨b4u, o4v, cs4w, rfl, h2c, h2d, h4x⟩
     obtain rfl := u8 h2d
     refine R z (l1 g_5 z fid<|h2c.at0 z)<|E z (fS [(.tmp 21), (.tmp 25)] D_ z z z (a_p z) (lb z)<|lb z) ?_
     rintro _ w11 ⟨rfl, h1h⟩
     have h12 := h1h.below
     have h2e : Blk w11 w9.z [(vU (byteI (mkB (c_ 128 rt)))), vU (byteI x10)] := h1h.blk
     have h2f : b_ w11 [w9.z] (sl (some ⟨w9.z, 0, none⟩) 2 2) [mkB (c_ 128 rt), x10] := f_e (l := [mkB (c_ 128 rt), x10]) h2e z
     obtain ⟨x2g, e2h, hm2i⟩ := bdS hm2b
     refine E z (fN (α := UInt8) D_ e2h z z (((hh.e s8).e sa).e h12) hi<|b_.rep h2f) ?_
     rintro _ w2j ⟨S1i, a2k, n2l, c2m, rfl, s2n, h2o, h2p, h2q⟩
     refine Ra z<|Wn<|Ws<|Rm z<|Rm z<|R z (add_ z z)<|Ra z<|Wn<|We<|exH ?_
     have h2r : ∀ k ∈ S1i, k ∈ S0 ∨ w1.z ≤ k := or1 h2q (io sr) (l_ (lt_ (lt_ s8.s sa.s) h12.s))
     have h2s : Chg (· ∈ S0) w1 w1e := z_ (cr S0 w1) s8
     have h2t : Chg (· ∈ S0) w1 w9 := z_ h2s sa
     have h2u : Chg (· ∈ S0) w1 w11 := z_ h2t h12
     have h2v : Chg (· ∈ S0) w1 w2j := cM h2u s2n (io sr)
     exact fun _ q => ⟨x2g, c_ x4 rt, som hm2i, a2k, n2l, c2m, S1i, (q.k<|s3 z z z), h2v, h2o, h2p, h2r, (iA _ _)⟩
    refine Wk<|Ws<|Rm z<|Ra z<|Wn<|Wq ?_
    obtain ⟨u4y, hu2w, hm1j⟩ := bdS (ifF hm1g hcz)
    refine a_L (σ := Int) (ρ := (List UInt8)) (fun (x3 : Int) a w => Sat 64 [(0, sl A0 N0 C0), (3, sl a5 n6 c7), (4, vI x4), (6, vI x3)] a ∧ Below w9.z w9 w ∧ inI x3) (fun (x3 : Int) a w => Sat 64 [(0, sl A0 N0 C0), (3, sl a5 n6 c7), (4, vI x4), (6, vI x3)] a ∧ Below w9.z w9 w ∧ inI x3) (fun r ex a w => ex = .ret ∧ v_ prog fn (Q1 w0 B r) a w) hu2w ?_ ?_ ?_ ?_
    ·exact fun _ q => ⟨(q.k<|s4 z z z z), (br w9), hn⟩
    ·rintro x3 a4z wu o50 ⟨hS2x, sv, hw⟩ hm2y
     refine Wu ?_ hS2x
     refine Wq<|Wq ?_
     obtain ⟨u2z, hu1k, hm1l⟩ := bdS hm2y
     refine Wt (fun a w => ∃ (x13 : Bool), x13 = u2z ∧ Sat 64 [(0, sl A0 N0 C0), (3, sl a5 n6 c7), (4, vI x4), (6, vI x3), (47, vB x13)] a ∧ Below wu.z wu w) ?_ ?_
     ·refine Wg<|Rm z<|Rm z ?_
      have h1m := p1_0.g<|((ho.e s8).e sa).e sv
      refine R z (lnR h_ z h1m)<|R z (lss z z)<|Rm z ?_
      rcases bs (decide (x3 < (x1.length : Int))) with hcb | hcb
      ·have hm1n := ifT hu1k hcb
       refine Rh z hcb (mv z)<|Rh z hcb (mv z)<|Rh z hcb (sb_ z z)<|Rh z hcb (lss z z)<|R z (pT z hcb z)<|Rm z ?_
       rcases bs (decide ((y_ x3 x4) < 127)) with hcc | hcc
       ·refine Rh z hcc (mv z)<|Rh z hcc (mv z) ?_
        obtain ⟨r30, e31, hm32⟩ := bdS (ifT hm1n hcc)
        refine Eg z z hcc z (fc call108 z<|W_w0r (B := B) e31 (zt' hBw<|lt_ (lt_ h1f sa.s) sv.s) h1m hw) ?_
        rintro _ w51 ⟨s33, rfl, h52⟩
        exact Rh z hcc (lss z z)<|R z (pT z hcc z)<|Wl (fun _ q => ⟨decide (r30 < 3), som hm32, (q.k<|s5 z z z z z), s33⟩)
       iterate 4 refine Nh z hcc ?_
       exact R z (pF z hcc z)<|Wl (fun _ q => ⟨false, som<|ifF hm1n hcc, (q.k<|s5 z z z z z), (br wu)⟩)
      iterate 4 refine Nh z hcb ?_
      exact R z (pF z hcb z)<|Rm z<|Nh z z<|Nh z z<|Nh z z<|Nh z z<|R z (pF z z z)<|Wl (fun _ q => ⟨false, som<|ifF hu1k hcb, (q.k<|s5 z z z z z), (br wu)⟩)
     rintro a34 w53 ⟨x13, rfl, hS54, s1o⟩
     revert a34
     refine Wo<|Wc z (fun hc14 => ?_) (fun hc14 => ?_)
     ·exact Wk<|Wb<|Wg<|Rm z<|R z (add_ z z)<|Ra z<|Wl (fun _ q => ⟨c_ x3 1, (som<|ifT hm1l hc14).symm, ⟨(q.k<|s4 z z z z), (bup sv s1o), (iA _ _)⟩⟩)
     exact We (fun a' ha' => a_F (som<|ifF hm1l hc14).symm ⟨(Sat.weaken ha'<|s4 z z z z), (bup sv s1o), hw⟩)
    ·rintro x3 a35 w15 rfl ⟨hS55, sx, hw⟩
     have hm36 := elL hm1j
     revert a35
     refine Wo<|Wq (Wd (X := fun k => k ∈ S0 ∨ w15.z ≤ k) 0 (.rd 0 (.rd 1 (.rd 2 (.rd 3 (.rd 4 (.rd 7 (.rd 8 (.rd 9 (.rd 10 (.ef 5 (.ef 6 (.ef 11 (.rd 12 .done))))))))))))) mo (by kernel_rfl) fun w1p sm _ => ?_)
     iterate 3 refine dR z z (mv z) ?_
     refine dR z z (sb_ z z)<|dR z z (b_3 d_3 d_5 z) ?_
     iterate 3 refine dR z z (mv z) ?_
     obtain ⟨x56, e37, hm38⟩ := bdS hm36
     refine dRX z z (rX h_ z_5 z z (p1_0.g<|(((ho.e s8).e sa).e sx).e sm) z z e37) ?_
     rintro _ ⟨a57, n58, c59, rfl, h39⟩
     refine dE z z (fS [(.tmp 54)] D_ z z z (a_p z) (lb z)<|lb z) (.inr fun _ _ h => A_<|h.2.below) ?_
     rintro _ w1q ⟨rfl, h16⟩
     have hl := h16.below
     have h3a : Blk w1q w1p.z [(vU (byteI (mkB (y_ x3 x4))))] := h16.blk
     have h5a := b_r h16 a_z
     obtain ⟨x5b, e3b, hm3c⟩ := bdS hm38
     refine dE z z (b_d (α := UInt8) D_ e3b z z (((((hh.e s8).e sa).e sx).e sm).e hl) hi h3a a_z an_ K_) (.inr fun _ _ h => by obtain ⟨_, _, _, _, _, h, _⟩ := h; exact h.mono fun k _ hk => (io sr) k hk) ?_
     rintro _ w3d ⟨S1r, a5c, n5d, c5e, rfl, s17, h3e, h3f, h1s⟩
     obtain ⟨x3g, e3h, hm3i⟩ := bdS hm3c
     have h3j : ∀ k ∈ S0, ¬ B k := or1 hj h1a (r_ (zt' hBw se.s))
     have h3k : ∀ k ∈ S1r, k ∈ S0 ∨ w15.z ≤ k := or2 h1s (io sr) an_ (l_ (lt_ sm.s hl.s))
     refine dE z z (fN (α := UInt8) D_ e3h z z h3e h3f<|h39.g<|(hl.ag B).c s17<|k_ h3j) (.inr fun _ _ h => by obtain ⟨_, _, _, _, _, h, _⟩ := h; exact h.mono fun k _ hk => h3k k hk) ?_
     rintro _ w3l ⟨S1t, a3m, n3n, c3o, rfl, s3p, h3q, h3r, h3s⟩
     refine dR z z (asg z)<|pD<|Wo<|Wg<|Rm z<|Ra z<|Wl ?_
     have h1u := lt_ (lt_ (lt_ (lt_ s8.s sa.s) sx.s) sm.s) hl.s
     have h1v : ∀ k ∈ S1r, k ∈ S0 ∨ w1.z ≤ k := or2 h1s (io sr) an_ (l_ h1u)
     have h3t : ∀ k ∈ S1t, k ∈ S0 ∨ w1.z ≤ k := or1 h3s h1v (l_ (lt_ h1u s17.s))
     have h3u : Chg (· ∈ S0) w1 w1e := z_ (cr S0 w1) s8
     have h3v : Chg (· ∈ S0) w1 w9 := z_ h3u sa
     have h3w : Chg (· ∈ S0) w1 w15 := z_ h3v sx
     have h3x : Chg (· ∈ S0) w1 w1p := z_ h3w sm
     have h3y : Chg (· ∈ S0) w1 w1q := z_ h3x hl
     have h3z : Chg (· ∈ S0) w1 w3d := cM h3y s17 (io sr)
     have h40 : Chg (· ∈ S0) w1 w3l := cM h3z s3p h1v
     exact fun _ q => ⟨x3g, x3, som hm3i, a3m, n3n, c3o, S1t, (q.k<|s3 z z z), h40, h3q, h3r, h3t, hw⟩
    rintro r5f ex5g a5h w5i rfl ⟨rfl, hq41⟩
    have hm42 := elR hm1j
    obtain rfl := som hm42
    have hm43 := elR hm1c
    exact ⟨(e_F<|f_m (som hm43).symm ⟨rfl, hq41⟩), z⟩
   rintro a44 w45 ⟨xp, xk, rfl, aq, nr, cs, Sd, hS5j, s46, h47, h48, h49, h4a⟩
   have hm4b := elL hm1c
   have hm4c := a_2 hm4b
   revert a44
   have h1w : ∀ k ∈ S0, k ∈ [w0.z] ∨ w2.z ≤ k := or1 hj (io sr) (l_ lr)
   have h4d : ∀ k ∈ Sd, k ∈ [w0.z] ∨ w2.z ≤ k := or1 h49 h1w (l_ sg.s)
   have h4e : Chg (· ∈ [w0.z]) w2 w1 := cM (cr [w0.z] w2) sg (io sr)
   have h4f : Chg (· ∈ [w0.z]) w2 w45 := cM h4e s46 h1w
   exact fun _ q => ⟨(xp, xk), (som hm4c).symm, ⟨aq, nr, cs, Sd, (q.k<|s3 z z z), h4f, h47, h48, h4d, h4a⟩⟩
  have h4g : ∀ k ∈ S0, k ∈ [w0.z] ∨ w2.z ≤ k := or1 hj (io sr) (l_ lr)
  have h4h : Chg (· ∈ [w0.z]) w2 w1 := cM (cr [w0.z] w2) sg (io sr)
  exact We (fun a' ha' => a_F (som<|ifF hm19 hcy).symm ⟨a5, n6, c7, S0, (Sat.weaken ha'<|s1 z), h4h, hh, hi, h4g, hn⟩)
 ·rintro ⟨xf, x4⟩ a4i w5k rfl ⟨a5, n6, c7, S0, hS5l, s4j, hh, hi, hj, hn⟩
  have hm4k := elL hm18
  have hm4l := a_2 hm4k
  revert a4i
  refine Wo<|Ws<|Rm z<|Ra z<|Wn ?_
  obtain rfl := som hm4l
  have h4m : ∀ k ∈ S0, w0.z ≤ k := or1 hj (f_ lr) (a_E se.s)
  exact Wr<|d_ hr z ⟨(bM se s4j<|f_ lr), a5, n6, c7, S0, z, hh, hi, h4m⟩
 rintro r5m ex5n a5o w5p rfl ⟨rfl, hq4n⟩
 have hm4o := elR hm18
 obtain rfl := som hm4o
 exact ⟨hq4n, z⟩
theorem W_w0s {x1 : Int} {res : Int} (hm : e_8 x1 = some res) (hBw : B ≤ w0.z) (p1_0 : inI x1) : j_ prog 109 [vI x1] w0 (Q0 w0 B res) := by
 unfold e_8 at hm
 refine goF func109 z z (lb z) fun fn hr => Ws<|Ra z<|Wn<|Ws<|Rm z<|R z (h_o z z) ?_
 obtain ⟨u2, e0, hm1⟩ := bdS hm
 refine R z (f_v z z<|nnS e0)<|Ra z<|Wn ?_
 obtain rfl := som hm1
 exact Wr<|d_ hr z ⟨(br w0), z, (o_P<|ii z)⟩
theorem W_w2a {x1 : Int} {x2 : Int} {res : (List UInt8)} (hm : g_C n x1 x2 = some res) (hBw : B ≤ w0.z) (p1_0 : inI x1) (p2_0 : inI x2) : j_ prog 78 [vI x1, vI x2] w0 (Q1 w0 B res) := by
 unfold g_C at hm
 refine goF func78 z z (lb z) fun fn hr => Ws<|Ra z<|Wn<|Ws<|E z (f0 (α := UInt8) D_) ?_
 rintro _ wm ⟨ad, ne, cf, rfl, s7, hp⟩
 refine Ra z<|Wn<|Wq<|Wq ?_
 obtain ⟨u10, hu11, hmq⟩ := bdS hm
 refine Wt (fun a w => ∃ (xg : Bool), xg = u10 ∧ Sat 35 [(0, vI x1), (1, vI x2), (5, sl ad ne cf), (18, vB xg)] a ∧ Below wm.z wm w) ?_ ?_
 ·refine Wg<|Rm z ?_
  obtain ⟨r12, e13, hmr⟩ := bdS hu11
  refine E z (fc call97 z<|a_I (B := B) e13 (zt' hBw s7.s) p2_0 (ii z)<|ii z) ?_
  rintro _ w25 ⟨sh, rfl⟩
  refine R z (not_ z)<|Rm z ?_
  rcases bs (!r12) with hc2 | hc2
  ·iterate 6 refine Nh z hc2 ?_
   exact R z (pT z hc2 z)<|Wl (fun _ q => ⟨true, som<|ifT hmr hc2, (q.k<|s4 z z z z), sh⟩)
  refine Rh z hc2 (mv z)<|Rh z hc2 (mv z) ?_
  have ht := lt_ s7.s sh.s
  obtain ⟨r26, e14, hm15⟩ := bdS (ifF hmr hc2)
  refine Eg z z hc2 z (fc call109 z<|W_w0s (B := B) e14 (zt' hBw ht) p2_0) ?_
  rintro _ w27 ⟨ss, rfl, h28⟩
  refine Rh z hc2 (sb_ z z) ?_
  obtain ⟨r16, e17, hm18⟩ := bdS hm15
  refine Eg z z hc2 z (fc call97 z<|a_I (B := B) e17 (zt' hBw<|lt_ ht ss.s) p1_0 (ii z)<|iS _ _) ?_
  rintro _ w29 ⟨s19, rfl⟩
  exact Rh z hc2 (not_ z)<|R z (pF z hc2 z)<|Wl (fun _ q => ⟨!r16, som hm18, (q.k<|s4 z z z z), (bup (bup sh ss) s19)⟩)
 rintro a1a w1 ⟨xg, rfl, hS2a, s8⟩
 revert a1a
 refine Wo<|Wc z (fun hci => ?_) (fun hci => ?_)
 ·refine Ws<|Rm z<|Ra z<|Wn ?_
  obtain rfl := som (ifT hmq hci)
  exact Wr<|d_ hr z ⟨(bup s7 s8), ad, ne, cf, [w0.z], z, (hp.e s8), a_0, (f_ lr)⟩
 refine Wk<|Wq<|Ws<|Rm z<|R z (sb_ z z)<|Ra z<|Wn ?_
 obtain ⟨u2b, hu1b, hmu⟩ := bdS (ifF hmq hci)
 refine a_L (σ := (List UInt8) × Int) (ρ := (List UInt8)) (fun s a w => un2 (fun x9 x6 => ∃ a3 n4 c5 S0, Sat 35 [(0, vI x1), (5, sl a3 n4 c5), (6, vI x6)] a ∧ Chg (· ∈ [w0.z]) w1 w ∧ b_ w S0 (sl a3 n4 c5) x9 ∧ S0.Nodup ∧ (∀ k ∈ S0, k ∈ [w0.z] ∨ w1.z ≤ k) ∧ inI x6) s) (fun s a w => un2 (fun x9 x6 => ∃ a3 n4 c5 S0, Sat 35 [(5, sl a3 n4 c5)] a ∧ Chg (· ∈ [w0.z]) w1 w ∧ b_ w S0 (sl a3 n4 c5) x9 ∧ S0.Nodup ∧ (∀ k ∈ S0, k ∈ [w0.z] ∨ w1.z ≤ k) ∧ inI x6) s) (fun r ex a w => ex = .ret ∧ v_ prog fn (Q1 w0 B r) a w) hu1b ?_ ?_ ?_ ?_
 ·exact fun _ q => ⟨ad, ne, cf, [w0.z], (q.k<|s3 z z z), (cr [w0.z] w1), (hp.e s8), a_0, (io sr), (iS _ _)⟩
 ·rintro ⟨x9, x6⟩ a2c wj o2d ⟨a3, n4, c5, S0, hS1c, sk, ha, hb, hc, hv⟩ hm1d
  have hmw := a_2 hm1d
  refine Wu ?_ hS1c
  refine Wq<|Ws<|Rm z<|R z (a_M z z)<|Wn<|Wc z (fun hcl => ?_) (fun hcl => ?_)
  ·refine Wk<|Wq<|Wb<|Wg<|Rm z<|Rm z<|Rm z<|R z (h_o z z) ?_
   obtain ⟨u2e, e1e, hm1f⟩ := bdS (ifT hmw hcl)
   refine R z (l_f z z<|nnS e1e)<|R z (b_3 d_3 d_5 z)<|E z (fS [(.tmp 31)] D_ z z z (a_p z) (lb z)<|lb z) ?_
   rintro _ wx ⟨rfl, hn⟩
   have ho := hn.below
   have h1g : Blk wx wj.z [(vU (byteI (mkB (b_T .i64 x1 (b_6 8 x6)))))] := hn.blk
   have h2f := b_r hn a_z
   obtain ⟨x1h, e1i, hm1j⟩ := bdS hm1f
   refine E z (b_d (α := UInt8) D_ e1i z z (ha.e ho) hb h1g a_z an_ K_) ?_
   rintro _ w1k ⟨Sy, a1l, n1m, c1n, rfl, s1o, h1p, h1q, h1r⟩
   refine Ra z<|Wn<|Wg<|Rm z<|R z (sb_ z z)<|Ra z<|Wl ?_
   have hz : ∀ k ∈ S0, k ∈ [w0.z] ∨ w1.z ≤ k := or1 hc (io sr) (l_ lr)
   have h1s : ∀ k ∈ Sy, k ∈ [w0.z] ∨ w1.z ≤ k := or2 h1r hz an_ (l_ (lt_ sk.s ho.s))
   have h1t : Chg (· ∈ [w0.z]) w1 wj := cM (cr [w0.z] w1) sk (io sr)
   have h1u : Chg (· ∈ [w0.z]) w1 wx := z_ h1t ho
   have h1v : Chg (· ∈ [w0.z]) w1 w1k := cM h1u s1o hz
   exact fun _ q => ⟨(x1h, y_ x6 1), (som hm1j).symm, ⟨a1l, n1m, c1n, Sy, (q.k<|s3 z z z), h1v, h1p, h1q, h1s, (iS _ _)⟩⟩
  have h1w : ∀ k ∈ S0, k ∈ [w0.z] ∨ w1.z ≤ k := or1 hc (io sr) (l_ lr)
  have h1x : Chg (· ∈ [w0.z]) w1 wj := cM (cr [w0.z] w1) sk (io sr)
  exact We (fun a' ha' => a_F (som<|ifF hmw hcl).symm ⟨a3, n4, c5, S0, (Sat.weaken ha'<|s1 z), h1x, ha, hb, h1w, hv⟩)
 ·rintro ⟨x9, x6⟩ a1y w2g rfl ⟨a3, n4, c5, S0, hS2h, s1z, ha, hb, hc, hv⟩
  have hm20 := elL hmu
  have hm21 := a_2 hm20
  revert a1y
  refine Wo<|Ws<|Rm z<|Ra z<|Wn ?_
  obtain rfl := som hm21
  have h22 : ∀ k ∈ S0, w0.z ≤ k := or1 hc (f_ lr) (a_E (lt_ s7.s s8.s))
  exact Wr<|d_ hr z ⟨(bM (bup s7 s8) s1z<|f_ lr), a3, n4, c5, S0, z, ha, hb, h22⟩
 rintro r2i ex2j a2k w2l rfl ⟨rfl, hq23⟩
 have hm24 := elR hmu
 obtain rfl := som hm24
 exact ⟨hq23, z⟩
theorem W_w0t {x1 : List UInt8} {res : Int} (hm : e_N x1 = some res) (hBw : B ≤ w0.z) (p1_0 : a_ w0 B (sl A0 N0 C0) x1) : j_ prog 79 [sl A0 N0 C0] w0 (Q0 w0 B res) := by
 unfold e_N at hm
 refine goF func79 z z (lb z) fun fn hr => Ws<|Ra z<|Wn<|Ws<|Ra z<|Wn<|Wq<|Ws<|Ra z<|Wn ?_
 obtain ⟨um, hu8, hm2⟩ := bdS hm
 refine Wf (σ := Int) (ρ := Int) (fun (k3 : Nat) (x0 : Int) a w => Sat 20 [(0, sl A0 N0 C0), (3, vI x0), (4, (vI ((k3 : Nat) : Int)))] a ∧ Below w0.z w0 w ∧ inI x0) (fun (x0 : Int) a w => Sat 20 [(3, vI x0)] a ∧ Below w0.z w0 w ∧ inI x0) (fun r ex a w => ex = .ret ∧ v_ prog fn (Q0 w0 B r) a w) hu8 ?_ ?_ ?_ ?_ ?_
 ·exact fun _ q => ⟨(q.k<|s3 z z z), (br w0), (ii z)⟩
 ·rintro k3 x0 an wo op hk4 ⟨hS9, s5, h1⟩ hma
  refine Wu ?_ hS9
  refine Wq<|Ws<|Rm z<|Rm z ?_
  have h6 := p1_0.e s5
  refine R z (lnR h_ z h6)<|R z (lss z z)<|Wn<|Wc z (fun _ => ?_) (fun hc => (R_ hk4 hc).elim)
  refine Wk<|Wq<|Wb<|Wg<|Rm z<|Rm z<|Rm z ?_
  obtain ⟨xb, ec, hmd⟩ := bdS hma
  refine RX z (at_ (α := UInt8) h_ z_5 z z z h6 ec) ?_
  rintro _ ⟨bq, os, csr, rfl, he, hf, ht⟩
  obtain rfl := u8 hf
  exact R z (l1 g_5 z fid<|he.at0 z)<|R z (b_4 d_5 d_3 z)<|R z (add_ z z)<|R z (f_u z z (by decide))<|Ra z<|Wn<|Wg<|Rm z<|R z (inc_ hk4 (lt_ (a_.len p1_0) H_) z z)<|Ra z<|Wl (fun _ q => ⟨a_C (c_ x0<|byteI xb) 256, (som hmd).symm, ⟨(q.k<|s3 z z z), s5, (i_Z<|iA _ _)⟩⟩)
 ·rintro x0 au wv ⟨hSg, s7, h1⟩
  refine Wu ?_ hSg
  refine Wq<|Ws<|Rm z<|Rm z<|R z (lnR h_ z<|p1_0.e s7)<|R z (lss z z)<|Wn<|Wc z (fun hc => (S_ hc).elim) (fun _ => ?_)
  exact We (fun a' ha' => ⟨rfl, ⟨(Sat.weaken ha'<|s1 z), s7, h1⟩⟩)
 ·rintro x0 ah ww rfl ⟨hSx, si, h1⟩
  have hmj := elL hm2
  revert ah
  refine Wo<|Ws<|Rm z<|Ra z<|Wn ?_
  obtain rfl := som hmj
  exact Wr<|d_ hr z ⟨si, z, h1⟩
 rintro ry exz a10 w11 rfl ⟨rfl, hqk⟩
 have hml := elR hm2
 obtain rfl := som hml
 exact ⟨hqk, z⟩
theorem W_w2b {x1 : o_} {res : (List UInt8)} (hm : g_D n x1 = some res) (hBw : B ≤ w0.z) (p1_0 : inI x1.kind) (p1_1 : x1.name.b.length ≤ LEN) (p1_2 : inI x1.version) (p1_3 : a_ w0 B (sl AD ND CD) x1.data) : j_ prog 48 [(.agg #[vI x1.kind, Str.v x1.name, vI x1.version, sl AD ND CD])] w0 (Q1 w0 B res) := by
 unfold g_D at hm
 refine goF func48 z z (lb z) fun fn hr => Ws<|E z (fb z) ?_
 rintro _ w1b ⟨rfl, hk⟩
 have h0 := hk.below
 have h9 : Blk w1b w0.z [vI x1.kind, Str.v x1.name, vI x1.version, sl AD ND CD] := hk.blk
 refine Ra z<|Wn<|Wq<|Ws<|R z (lN (vs := [vI x1.kind, Str.v x1.name, vI x1.version, sl AD ND CD]) a_H T_ z z fid<|h9.row 0 4 z) ?_
 obtain ⟨r2u, e1c, hml⟩ := bdS hm
 refine E z (fc call76 z<|W_w27 (B := B) e1c (zt' hBw h0.s) p1_0 p1_1 p1_2<|p1_3.e h0) ?_
 rintro _ w1d ⟨s1, rfl⟩
 refine R z (not_ z)<|Wn<|Wc z (fun hca => ?_) (fun hca => ?_)
 ·refine Ws<|E z (f0 (α := UInt8) D_) ?_
  rintro _ w2v ⟨a1e, n1f, c1g, rfl, s1h, h1i⟩
  refine Ra z<|Wn ?_
  obtain rfl := som (ifT hml hca)
  exact Wr<|d_ hr z ⟨(bup (bup h0 s1) s1h), a1e, n1f, c1g, [w1d.z], z, h1i, a_0, (m1<|lt_ h0.s s1.s)⟩
 refine Wk<|Ws<|R z (fd c_w z) ?_
 have hn := h9.e s1
 refine R z (l1 J_ z fid<|hn.at z) ?_
 have ho := lt_ h0.s s1.s
 obtain ⟨r2w, e1j, hm1k⟩ := bdS (ifF hml hca)
 refine E z (fc call77 z<|W_w29 (B := B) e1j (zt' hBw ho)<|p1_3.g<|(h0.ag B).e s1) ?_
 rintro _ wb ⟨s7, a2x, n2y, c2z, S1l, rfl, h2, h30, h31⟩
 refine Ra z<|Wn<|Ws<|R z (fd b_N z) ?_
 have hc := hn.e s7
 refine R z (l1 g_3 z fid<|hc.at z)<|R z (b_3 d_3 d_5 z)<|R z (fd c_v z)<|R z (l1 g_9 z fid<|hc.at z)<|R z (lnT d_9 z)<|R z (b_3 d_3 d_5 z)<|E z (fS [(.tmp 14), (.tmp 18)] D_ z z z (a_p z) (lb z)<|lb z) ?_
 rintro _ wm ⟨rfl, hp⟩
 have h4 := hp.below
 have h1m : Blk wm wb.z [(vU (byteI (mkB x1.kind))), (vU (byteI (mkB (x1.name.b.length : Int))))] := hp.blk
 have h1n : b_ wm [wb.z] (sl (some ⟨wb.z, 0, none⟩) 2 2) [mkB x1.kind, mkB (x1.name.b.length : Int)] := f_e (l := [mkB x1.kind, mkB (x1.name.b.length : Int)]) h1m z
 refine R z (fd c_v z) ?_
 have hq := hc.e h4
 refine R z (l1 g_9 z fid<|hq.at z)<|E z (n_W d_9 h_ d_5 z p1_1) ?_
 rintro _ w32 ⟨a33, n34, c35, rfl, s3, h1o⟩
 obtain ⟨x36, e1p, hm1q⟩ := bdS hm1k
 refine E z (fN (α := UInt8) D_ e1p z z (h1n.e s3) a_0<|b_.rep h1o) ?_
 rintro _ w1r ⟨S37, a38, n39, c3a, rfl, s5, h1s, h1t, ht⟩
 refine Ra z<|Wn<|Ws<|Rm z<|R z (fd b_O z)<|R z (l1 g_3 z fid<|((hq.e s3).c s5<|djs<|mm1 h9.lt<|lt_ s1.s s7.s).at z)<|R z (b_3 d_3 d_5 z)<|E z (fS [(.tmp 27)] D_ z z z (a_p z) (lb z)<|lb z) ?_
 rintro _ w1u ⟨rfl, hd⟩
 have h6 := hd.below
 have h1v : Blk w1u w1r.z [(vU (byteI (mkB x1.version)))] := hd.blk
 have h3b := b_r hd a_z
 obtain ⟨x3c, e1w, hm1x⟩ := bdS hm1q
 refine E z (b_d (α := UInt8) D_ e1w z z (h1s.e h6) h1t h1v a_z an_ K_) ?_
 rintro _ w3d ⟨Sr, a3e, n3f, c3g, rfl, se, h1y, h1z, hu⟩
 refine Rm z ?_
 have hv := mnr<|b_.lt h2
 have hw := lt_ h4.s s3.s
 have hx := b_o ht hv (b_.lt h2) hw
 have hf := ((((h2.e h4).e s3).c s5<|ds hv).e h6).c se<|ds hx
 refine R z (lnR h_ z<|or_ hf<|b_.lt h2) ?_
 have hy := lt_ ho s7.s
 have hz := lt_ (lt_ hy h4.s) s3.s
 have h10 := lt_ (lt_ hz s5.s) h6.s
 have h11 := lt_ h10 se.s
 obtain ⟨r3h, e20, hm21⟩ := bdS hm1x
 refine E z (fc call78 z<|W_w2a (B := B) e20 (zt' hBw h11) (b_2<|a_.len<|or_ hf<|b_.lt h2)<|ii z) ?_
 rintro _ w3i ⟨s8, a3j, n3k, c3l, S3m, rfl, h22, h3n, h3o⟩
 obtain ⟨x3p, e23, hm24⟩ := bdS hm21
 refine E z (fN (α := UInt8) D_ e23 z z (h1y.e s8) h1z<|b_.rep h22) ?_
 rintro _ w3q ⟨S3r, a3s, n3t, c3u, rfl, sg, h25, h26, h27⟩
 refine Rm z ?_
 obtain ⟨x3v, e28, hm29⟩ := bdS hm24
 have h2a : ∀ k ∈ Sr, k ∉ S1l := or2 hu hx an_ (a_A (b_.lt h2) (lt_ (lt_ hw s5.s) h6.s))
 refine E z (fN (α := UInt8) D_ e28 z z h25 h26<|or_ ((hf.e s8).c sg<|ds h2a)<|b_.lt h2) ?_
 rintro _ w2b ⟨S3w, a3x, n3y, c3z, rfl, ss, h12, h2c, h2d⟩
 refine Ra z<|Wn<|Ws<|Rm z<|Rm z ?_
 obtain ⟨r2e, e2f, hm2g⟩ := bdS hm29
 refine E z (fc call79 z<|W_w0t (B := w2b.z) e2f zr<|b_.rep h12) ?_
 rintro _ w2h ⟨sh, rfl, h40⟩
 refine R z (b_3 d_3 d_5 z)<|E z (fS [(.tmp 39)] D_ z z z (a_p z) (lb z)<|lb z) ?_
 rintro _ w2i ⟨rfl, hi⟩
 have hj := hi.below
 have h2j : Blk w2i w2h.z [(vU (byteI (mkB r2e)))] := hi.blk
 have h41 := b_r hi a_z
 obtain ⟨x42, e2k, hm2l⟩ := bdS hm2g
 refine E z (b_d (α := UInt8) D_ e2k z z ((h12.e sh).e hj) h2c h2j a_z an_ K_) ?_
 rintro _ w43 ⟨S13, a2m, n2n, c2o, rfl, s2p, h2q, h2r, h2s⟩
 refine Ra z<|Wn ?_
 obtain rfl := som hm2l
 have h14 := m1 hy
 have h15 := a_x ht h14 hz
 have h16 : ∀ k ∈ Sr, w0.z ≤ k := or2 hu h15 an_ (a_E h10)
 have h17 := lt_ h11 s8.s
 have h18 := a_x h27 h16 h17
 have h19 := lt_ h17 sg.s
 have h1a := a_x h2d h18 h19
 have h2t : ∀ k ∈ S13, w0.z ≤ k := or2 h2s h1a an_ (a_E (lt_ (lt_ (lt_ h19 ss.s) sh.s) hj.s))
 exact Wr<|d_ hr z ⟨(bM (bup (bup (bM (bM (bup (bM (bup (bM (bup (bup (bup (bup h0 s1) s7) h4) s3) s5 h14) h6) se h15) s8) sg h16) ss h18) sh) hj) s2p h1a), a2m, n2n, c2o, S13, z, h2q, h2r, h2t⟩
theorem W_w2c {x1 : List UInt8} {x2 : List UInt8} {res : Bool} (hm : e_Y x1 x2 = some res) (hBw : B ≤ w0.z) (p1_0 : a_ w0 B (sl A0 N0 C0) x1) (p2_0 : a_ w0 B (sl A6 N6 C6) x2) : j_ prog 127 [sl A0 N0 C0, sl A6 N6 C6] w0 (Q11 w0 B res) := by
 unfold e_Y at hm
 refine goF func127 z z (lb z) fun fn hr => Ws<|Ra z<|Wn<|Wq<|Ws<|Rm z<|R z (lnR h_ z p1_0)<|Rm z<|R z (lnR h_ z p2_0)<|R z (nq z z)<|Wn<|Wc z (fun hc1 => ?_) (fun hc1 => ?_)
 ·refine Ws<|Ra z<|Wn ?_
  obtain rfl := som (ifT hm hc1)
  exact Wr<|d_ hr z ⟨(br w0), z⟩
 refine Wk<|Wq<|Ws<|Ra z<|Wn ?_
 obtain ⟨uq, hua, hm4⟩ := bdS (ifF hm hc1)
 refine Wf (σ := Unit) (ρ := Bool) (fun (k5 : Nat) (_ : Unit) a w => Sat 26 [(0, sl A0 N0 C0), (1, sl A6 N6 C6), (5, (vI ((k5 : Nat) : Int)))] a ∧ Below w0.z w0 w) (fun (_ : Unit) a w => Sat 26 [] a ∧ Below w0.z w0 w) (fun r ex a w => ex = .ret ∧ v_ prog fn (Q11 w0 B r) a w) hua ?_ ?_ ?_ ?_ ?_
 ·exact fun _ q => ⟨(q.k<|s3 z z z), (br w0)⟩
 ·rintro k5 _ ar ws ot hk6 ⟨hSb, s0⟩ hmc
  refine Wu ?_ hSb
  refine Wq<|Ws<|Rm z<|Rm z<|R z (lnR h_ z<|p1_0.e s0)<|R z (lss z z)<|Wn<|Wc z (fun _ => ?_) (fun hc => (R_ hk6 hc).elim)
  refine Wk<|Wq<|Wb<|Wq (Wd (X := noX) 0 (.rd 0 (.rd 1 (.rd 2 (.rd 3 (.rd 4 (.rd 5 (.rd 6 (.rd 7 (.rd 8 .done))))))))) mo (by kernel_rfl) fun wu s2 _ => dR z z (mv z)<|dR z z (mv z) ?_)
  obtain ⟨xv, ed, hme⟩ := bdS hmc
  have h7 := (s0.ag B).e s2
  refine dRX z z (at_ (α := UInt8) h_ z_5 z z z (p1_0.g h7) ed) ?_
  rintro _ ⟨bw, ox, csy, rfl, hf, hg, hz⟩
  obtain rfl := u8 hg
  refine dR z z (l1 g_5 z fid<|hf.at0 z)<|dR z z (mv z)<|dR z z (mv z) ?_
  obtain ⟨x10, eh, hm8⟩ := bdS hme
  refine dRX z z (at_ (α := UInt8) h_ z_5 z z z (p2_0.g h7) eh) ?_
  rintro _ ⟨b11, o12, cs13, rfl, hi, hj, h14⟩
  obtain rfl := u8 hj
  refine dR z z (l1 g_5 z fid<|hi.at0 z)<|dR z z (nq z z)<|pD<|Wo<|Wc z (fun hc3 => ?_) (fun hc3 => ?_)
  ·exact Ws<|Ra z<|Wn<|Wr<|rtO<|qL (som<|ifT hm8 hc3).symm<|d_ hr z ⟨(bup s0 s2), z⟩
  exact Wk<|Wg<|Rm z<|R z (inc_ hk6 (lt_ (a_.len p1_0) H_) z z)<|Ra z<|Wl (fun _ q => ⟨(), (som<|ifF hm8 hc3).symm, ⟨(q.k<|s3 z z z), (bup s0 s2)⟩⟩)
 ·rintro _ a15 w16 ⟨hSk, s9⟩
  refine Wu ?_ hSk
  refine Wq<|Ws<|Rm z<|Rm z<|R z (lnR h_ z<|p1_0.e s9)<|R z (lss z z)<|Wn<|Wc z (fun hc => (S_ hc).elim) (fun _ => ?_)
  exact We (fun a' ha' => ⟨rfl, ⟨(Sat.weaken ha' sn), s9⟩⟩)
 ·rintro _ al w17 rfl ⟨hS18, sm⟩
  have hmn := elL hm4
  revert al
  refine Wo<|Ws<|Ra z<|Wn ?_
  obtain rfl := som hmn
  exact Wr<|d_ hr z ⟨sm, z⟩
 rintro r19 ex1a a1b w1c rfl ⟨rfl, hqo⟩
 have hmp := elR hm4
 obtain rfl := som hmp
 exact ⟨hqo, z⟩
def Q13 (w0 : World) (B : Zone) (r : o_ × Int × Bool) (v : Value) (w' : World) : Prop := Bw w0 w' ∧ un3 (fun r1 r2 r3 => ∃ a1 n1 c1 S1, v = .tuple #[(.agg #[vI r1.kind, Str.v r1.name, vI r1.version, sl a1 n1 c1]), vI r2, vB r3] ∧ inI r1.kind ∧ r1.name.b.length ≤ LEN ∧ inI r1.version ∧ b_ w' S1 (sl a1 n1 c1) r1.data ∧ inI r2 ∧ S1.Nodup ∧ (∀ k ∈ S1, w0.z ≤ k)) r
theorem W_w2d {x1 : List UInt8} {x2 : Int} {res : o_ × Int × Bool} (hm : e_Z n x1 x2 = some res) (hBw : B ≤ w0.z) (p1_0 : a_ w0 B (sl A0 N0 C0) x1) (p2_0 : inI x2) : j_ prog 100 [sl A0 N0 C0, vI x2] w0 (Q13 w0 B res) := by
 unfold e_Z at hm
 refine goF func100 z z (lb z) fun fn hr => Ws<|E z (fa c_U) ?_
 rintro _ w1c ⟨rfl, ht⟩
 have h5 := ht.below
 have h6 : Blk w1c w0.z [vI 0, (Str.v (⟨[]⟩ : Str)), vI 0, sl none 0 0] := ht.blk
 refine Ra z<|Ra z<|Wn<|Wq<|Ws<|Rm z<|Rm z<|R z (lnR h_ z<|p1_0.e h5)<|R z (sb_ z z) ?_
 obtain ⟨r2w, e1d, hmu⟩ := bdS hm
 refine E z (fc call97 z<|a_I (B := B) e1d (zt' hBw h5.s) p2_0 (ii z)<|iS _ _) ?_
 rintro _ w2x ⟨s0, rfl⟩
 refine R z (not_ z)<|Wn<|Wc z (fun hcj => ?_) (fun hcj => ?_)
 ·refine Ws<|R z (bP (parts := []) (cs := [vI 0, (Str.v (⟨[]⟩ : Str)), vI 0, sl none 0 0]) c_r z z)<|Rm z<|E0 (fs (cur' := [vI 0, (Str.v (⟨[]⟩ : Str)), vI 0, sl none 0 0]) T_ z z (h6.e s0) z (lb z) (oA z) z) ?_
  rintro _ w2y ⟨h1e, s1f⟩
  refine Ra z<|Ra z<|Wn ?_
  obtain rfl := som (ifT hmu hcj)
  exact Wr<|s_ hr (u_ a_H T_ z h1e z) z z ⟨(bM (bup h5 s0) s1f.one<|f_ lr), none, 0, 0, [], z, (ii z), (lb z), (ii z), onL, p2_0, K_, an_⟩
 refine Wk<|Ws<|Rm z<|R z (add_ z z)<|Ra z<|Wn<|Ws<|Rm z<|Rm z<|Rm z<|R z (add_ z z) ?_
 obtain ⟨x1g, e1h, hmv⟩ := bdS (ifF hmu hcj)
 have hw := (h5.ag B).e s0
 have hk := p1_0.g hw
 refine RX z (at_ (α := UInt8) h_ z_5 z z z hk e1h) ?_
 rintro _ ⟨b2z, o30, cs31, rfl, h1i, h1j, h32⟩
 obtain rfl := u8 h1j
 refine R z (l1 g_5 z fid<|h1i.at0 z)<|R z (b_4 d_5 d_3 z)<|R z (add_ z z)<|Ra z<|Wn<|Wq<|Ws<|Rm z<|R z (add_ z z)<|Rm z<|R z (lnR h_ z hk)<|R z (a_c z z)<|Wn<|Wc z (fun hcl => ?_) (fun hcl => ?_)
 ·refine Ws<|R z (bP (parts := []) (cs := [vI 0, (Str.v (⟨[]⟩ : Str)), vI 0, sl none 0 0]) c_r z z)<|Rm z<|E0 (fs (cur' := [vI 0, (Str.v (⟨[]⟩ : Str)), vI 0, sl none 0 0]) T_ z z (h6.e s0) z (lb z) (oA z) z) ?_
  rintro _ w33 ⟨h1k, s1l⟩
  refine Ra z<|Ra z<|Wn ?_
  obtain rfl := som (ifT hmv hcl)
  exact Wr<|s_ hr (u_ a_H T_ z h1k z) z z ⟨(bM (bup h5 s0) s1l.one<|f_ lr), none, 0, 0, [], z, (ii z), (lb z), (ii z), onL, p2_0, K_, an_⟩
 refine Wk<|Ws<|Rm z<|Rm z<|R z (add_ z z)<|Rm z<|R z (add_ z z) ?_
 obtain ⟨x34, e1m, hm1n⟩ := bdS (ifF hmv hcl)
 refine RX z (rX h_ z_5 z z hk z z e1m) ?_
 rintro _ ⟨a35, n36, c37, rfl, h1o⟩
 have hx := lt_ h5.s s0.s
 obtain ⟨r1p, e1q, hmy⟩ := bdS hm1n
 refine E z (fc call125 z<|W_w0q (B := B) e1q (zt' hBw hx) h1o) ?_
 rintro _ w38 ⟨s3, rfl, h39⟩
 refine Ra z<|Wn<|Ws<|Rm z<|R z (add_ z z)<|Rm z<|R z (add_ z z)<|Ra z<|Wn<|Wq<|Ws<|Rm z<|Rm z ?_
 have hz := hw.e s3
 have h10 := p1_0.g hz
 refine R z (lnR h_ z h10)<|R z (a_M z z)<|Wn<|Wc z (fun hcm => ?_) (fun hcm => ?_)
 ·refine Ws<|R z (bP (parts := []) (cs := [vI 0, (Str.v (⟨[]⟩ : Str)), vI 0, sl none 0 0]) c_r z z)<|Rm z<|E0 (fs (cur' := [vI 0, (Str.v (⟨[]⟩ : Str)), vI 0, sl none 0 0]) T_ z z ((h6.e s0).e s3) z (lb z) (oA z) z) ?_
  rintro _ w3a ⟨h1r, s1s⟩
  refine Ra z<|Ra z<|Wn ?_
  obtain rfl := som (ifT hmy hcm)
  exact Wr<|s_ hr (u_ a_H T_ z h1r z) z z ⟨(bM (bup (bup h5 s0) s3) s1s.one<|f_ lr), none, 0, 0, [], z, (ii z), (lb z), (ii z), onL, p2_0, K_, an_⟩
 refine Wk<|Ws<|Rm z<|Rm z<|R z (add_ z z)<|Rm z ?_
 obtain ⟨x3b, e1t, hm1u⟩ := bdS (ifF hmy hcm)
 refine RX z (rX h_ z_5 z z h10 z z e1t) ?_
 rintro _ ⟨a3c, n3d, c3e, rfl, h1v⟩
 have hh := lt_ hx s3.s
 obtain ⟨r1w, r3f, e1x, hm1y⟩ := a_y hm1u
 refine E z (fc call126 z<|W_w26 (B := B) e1x (zt' hBw hh) h1v) ?_
 rintro _ w1z ⟨s4, aa, nb, cc, S20, rfl, hn, h21, h11⟩
 refine Rm z<|R z (ext_ z z)<|R z (ext_ z z)<|Ra z<|Ra z<|Wn<|Wq (Wd (X := noX) 262144 (.rd 0 (.rd 1 (.rd 2 (.rd 3 (.rd 4 (.rd 5 (.rd 6 (.rd 7 (.rd 8 (.rd 9 (.rd 10 (.rd 11 (.rd 12 (.rd 13 (.rd 14 (.rd 15 (.rd 16 (.ef 17 (.ef 18 .done))))))))))))))))))) mo (by kernel_rfl) fun wo s1 _ => dR z z (mv z)<|dR z z (mv z) ?_)
 obtain ⟨xd, e22, hm23⟩ := bdS hm1y
 have h12 := (hz.e s4).e s1
 have hp := p1_0.g h12
 refine dRX z z (at_ (α := UInt8) h_ z_5 z z z hp e22) ?_
 rintro _ ⟨b3g, o3h, cs3i, rfl, h24, h25, h3j⟩
 obtain rfl := u8 h25
 refine dR z z (l1 g_5 z fid<|h24.at0 z)<|dR z z (b_4 d_5 d_3 z) ?_
 iterate 3 refine dR z z (mv z) ?_
 obtain ⟨xe, e26, hm27⟩ := bdS hm23
 refine dRX z z (rX h_ z_5 z z hp z z e26) ?_
 rintro _ ⟨a3k, n3l, c3m, rfl, hq⟩
 refine dR z z (e_r h_ d_9 d_5 z_5 z hq)<|dR z z (mv z)<|dR z z (mv z) ?_
 obtain ⟨xf, e28, hm29⟩ := bdS hm27
 refine dRX z z (at_ (α := UInt8) h_ z_5 z z z hp e28) ?_
 rintro _ ⟨b3n, o3o, cs3p, rfl, h2a, h2b, h3q⟩
 obtain rfl := u8 h2b
 refine dR z z (l1 g_5 z fid<|h2a.at0 z)<|dR z z (b_4 d_5 d_3 z)<|dR z z (mv z)<|dR z z (bP (parts := [(0, (.tmp 70)), (1, (.tmp 75)), (2, (.tmp 80)), (3, (.tmp 81))]) (cs := [vI (byteI xd), Str.v (⟨xe⟩ : Str), vI<|byteI xf, sl aa nb cc]) c_r z z)<|dE z z (fa c_U) (.inr fun _ _ h => A_<|h.2.below) ?_
 rintro _ w2c ⟨rfl, h13⟩
 have h7 := h13.below
 have h2d : Blk w2c wo.z [vI 0, (Str.v (⟨[]⟩ : Str)), vI 0, sl none 0 0] := h13.blk
 refine dE0 z (fs (cur' := [vI (byteI xd), Str.v (⟨xe⟩ : Str), vI<|byteI xf, sl aa nb cc]) T_ z z h2d z (lb z) (oA z) z) (.inl z) ?_
 rintro _ w3r ⟨h14, s2e⟩
 have h8 := s2e.one
 refine pD<|Wo<|Wq<|Ws<|R z (lN (vs := [vI (byteI xd), Str.v (⟨xe⟩ : Str), vI<|byteI xf, sl aa nb cc]) a_H T_ z z fid<|h14.row 0 4 z) ?_
 have h15 := ((hn.e s1).e h7).c h8<|ds<|mno (b_.lt hn) s1.s
 obtain ⟨r2f, e2g, hm2h⟩ := bdS hm29
 refine E z (fc call48 z<|W_w2b (B := w1z.z) (x1 := (⟨byteI xd, (⟨xe⟩ : Str), byteI xf, r1w⟩ : o_)) e2g (b_5<|lt_ (lt_ s1.s h7.s) h8.s) (c_7 _) (a_.len hq) (c_7 _)<|or_ h15<|b_.lt hn) ?_
 rintro _ wi ⟨s9, a3s, n3t, c3u, S3v, rfl, h16, h3w, h3x⟩
 refine Ra z<|Wn<|Wq ?_
 obtain ⟨u2i, hu17, hm18⟩ := bdS hm2h
 refine Wt (fun a w => ∃ (xr : Bool), xr = u2i ∧ Sat 103 [(1, vI x2), (4, pt w0.z), (10, (vI<|c_ (c_ (c_ (c_ x2 2)<|byteI x1g) 3) r1p)), (13, pt wo.z), (97, vB xr)] a ∧ Below wi.z wi w) ?_ ?_
 ·refine Wg<|Rm z<|R z (lnR h_ z<|b_.rep h16)<|R z (eql z z)<|Rm z ?_
  rcases bs ((r2f.length : Int) == 0) with hc2 | hc2
  ·iterate 8 refine Nh z hc2 ?_
   exact R z (pT z hc2 z)<|Wl (fun _ q => ⟨true, som<|ifT hu17 hc2, (q.k<|s5 z z z z z), (br wi)⟩)
  iterate 4 refine Rh z hc2 (mv z) ?_
  refine Rh z hc2 (add_ z z) ?_
  obtain ⟨x3y, e2j, hm2k⟩ := bdS (ifF hu17 hc2)
  have h19 := lt_ (lt_ hh s4.s) s1.s
  have h2l : ∀ k ∈ [wo.z], ¬ B k := or0 (f_ lr)  (r_ (zt' hBw h19))
  refine RXg z z hc2 z (rX h_ z_5 z z (p1_0.g<|((h12.e h7).c h8<|k_ h2l).e s9) z z e2j) ?_
  rintro _ ⟨a3z, n40, c41, rfl, h2m⟩
  obtain ⟨r2n, e2o, hm2p⟩ := bdS hm2k
  refine Eg z z hc2 z (fc call127 z<|W_w2c (B := wi.z) e2o zr (b_.rep h16)<|a_.mono h2m<|zt' hBw<|lt_ (lt_ (lt_ h19 h7.s) h8.s) s9.s) ?_
  rintro _ w42 ⟨s2q, rfl⟩
  exact Rh z hc2 (not_ z)<|R z (pF z hc2 z)<|Wl (fun _ q => ⟨!r2n, som hm2p, (q.k<|s5 z z z z z), s2q⟩)
 rintro a2r w43 ⟨xr, rfl, hS44, sg⟩
 revert a2r
 refine Wo<|Wc z (fun hcs => ?_) (fun hcs => ?_)
 ·refine Ws<|R z (bP (parts := []) (cs := [vI 0, (Str.v (⟨[]⟩ : Str)), vI 0, sl none 0 0]) c_r z z)<|Rm z<|E0 (fs (cur' := [vI 0, (Str.v (⟨[]⟩ : Str)), vI 0, sl none 0 0]) T_ z z ((((((((h6.e s0).e s3).e s4).e s1).e h7).c h8<|djs<|mm1 h6.lt<|lt_ (lt_ (lt_ s0.s s3.s) s4.s) s1.s).e s9).e sg) z (lb z) (oA z) z) ?_
  rintro _ w45 ⟨h2s, s2t⟩
  refine Ra z<|Ra z<|Wn ?_
  obtain rfl := som (ifT hm18 hcs)
  exact Wr<|s_ hr (u_ a_H T_ z h2s z) z z ⟨(bM (bup (bup (bM (bup (bup (bup (bup (bup h5 s0) s3) s4) s1) h7) h8<|m1<|lt_ (lt_ hh s4.s) s1.s) s9) sg) s2t.one<|f_ lr), none, 0, 0, [], z, (ii z), (lb z), (ii z), onL, p2_0, K_, an_⟩
 refine Wk<|Ws<|R z (lN (vs := [vI (byteI xd), Str.v (⟨xe⟩ : Str), vI<|byteI xf, sl aa nb cc]) a_H T_ z z fid<|((h14.e s9).e sg).row 0 4 z)<|Rm z<|R z (add_ z z) ?_
 have h1a := lt_ s0.s s3.s
 refine E0 (fs (cur' := [vI (byteI xd), Str.v (⟨xe⟩ : Str), vI<|byteI xf, sl aa nb cc]) T_ z z ((((((((h6.e s0).e s3).e s4).e s1).e h7).c h8<|djs<|mm1 h6.lt<|lt_ (lt_ h1a s4.s) s1.s).e s9).e sg) z (lb z) (oA z) z) ?_
 rintro _ w46 ⟨h2u, s2v⟩
 have h1b := s2v.one
 refine Ra z<|Ra z<|Wn ?_
 obtain rfl := som (ifF hm18 hcs)
 exact Wr<|s_ hr (u_ a_H T_ z h2u z) z z ⟨(bM (bup (bup (bM (bup (bup (bup (bup (bup h5 s0) s3) s4) s1) h7) h8<|m1<|lt_ (lt_ hh s4.s) s1.s) s9) sg) h1b<|f_ lr), aa, nb, cc, S20, z, (c_7 _), (a_.len hq), (c_7 _), (((h15.e s9).e sg).c h1b<|p_ h11 h6.lt h1a), (iA _ _), h21, (m_ h11 hh)⟩
def Q14 (w0 : World) (B : Zone) (r : (List o_) × Int) (v : Value) (w' : World) : Prop := Bw w0 w' ∧ un2 (fun r1 r2 => ∃ a1 n1 c1 S1, v = .tuple #[sl a1 n1 c1, vI r2] ∧ b_ w' S1 (sl a1 n1 c1) r1 ∧ inI r2 ∧ S1.Nodup ∧ (∀ k ∈ S1, w0.z ≤ k)) r
theorem h_2 {x1 : List UInt8} {res : (List o_) × Int} (hm : d_K n x1 = some res) (hBw : B ≤ w0.z) (p1_0 : a_ w0 B (sl A0 N0 C0) x1) : j_ prog 68 [sl A0 N0 C0] w0 (Q14 w0 B res) := by
 unfold d_K at hm
 refine goF func68 z z (lb z) fun fn hr => Ws<|Ra z<|Ra z<|Wn<|Ws<|E z (f0 (α := o_) e_j) ?_
 rintro _ w1 ⟨a11, n12, c13, rfl, sc, h14⟩
 refine Ra z<|Wn<|Ws<|Ra z<|Wn ?_
 obtain ⟨u2d, hu15, hmo⟩ := bdS hm
 refine a_L (σ := (List o_) × Int) (ρ := (List o_) × Int) (fun s a w => un2 (fun xd x9 => ∃ a4 n5 c6 S0, Sat 26 [(0, sl A0 N0 C0), (2, sl none 0 0), (3, vI 0), (4, sl a4 n5 c6), (5, vI x9)] a ∧ Chg (· ∈ [w0.z]) w1 w ∧ b_ w S0 (sl a4 n5 c6) xd ∧ S0.Nodup ∧ (∀ k ∈ S0, k ∈ [w0.z] ∨ w1.z ≤ k) ∧ inI x9) s) (fun s a w => un2 (fun xd x9 => ∃ a4 n5 c6 S0, Sat 26 [(2, sl none 0 0), (3, vI 0)] a ∧ Chg (· ∈ [w0.z]) w1 w ∧ b_ w S0 (sl a4 n5 c6) xd ∧ S0.Nodup ∧ (∀ k ∈ S0, k ∈ [w0.z] ∨ w1.z ≤ k) ∧ inI x9) s) (fun r ex a w => ex = .ret ∧ v_ prog fn (Q14 w0 B r) a w) hu15 ?_ ?_ ?_ ?_
 ·exact fun _ q => ⟨a11, n12, c13, [w0.z], (q.k<|s5 z z z z z), (cr [w0.z] w1), h14, a_0, (io sr), (ii z)⟩
 ·rintro ⟨xd, x9⟩ a2e w16 o2f ⟨a4, n5, c6, S0, hS17, sa, hb, hg, hh, hi⟩ hm18
  have hm19 := a_2 hm18
  refine Wu ?_ hS17
  refine Wb<|Ws<|Rm z<|Rm z ?_
  have h1a : ∀ k ∈ [w0.z], ¬ B k := or0 (f_ lr)  (r_ hBw)
  have hp := lt_ sc.s sa.s
  obtain ⟨r2, r1b, r2g, e1c, hmq⟩ := O_ hm19
  refine E z (fc call100 z<|W_w2d (B := B) e1c (zt' hBw hp) (p1_0.g<|(sc.ag B).c sa<|k_ h1a) hi) ?_
  rintro _ wj ⟨s3, ak, nl, cm, Sr, rfl, h1d, h1e, h1f, he, h1g, h1h, ht⟩
  refine Rm z ?_
  iterate 3 refine R z (ext_ z z) ?_
  refine E z (fa c_U) ?_
  rintro _ ws ⟨rfl, hu⟩
  have h7 := hu.below
  have h1i : Blk ws wj.z [vI 0, (Str.v (⟨[]⟩ : Str)), vI 0, sl none 0 0] := hu.blk
  refine E0 (fs (cur' := [vI r2.kind, Str.v r2.name, vI r2.version, sl ak nl cm]) T_ z z h1i z (lb z) (oA z) z) ?_
  rintro _ wv ⟨h1j, s1k⟩
  have h8 := s1k.one
  refine Ra z<|Ra z<|Wn<|Wq<|Ws<|Rm z<|R z (not_ z)<|Wn<|Wc z (fun hcn => ?_) (fun hcn => ?_)
  ·refine Ws<|Rm z<|Rm z<|Ra z<|Ra z<|Wn ?_
   have h1l : ∀ k ∈ S0, w0.z ≤ k := or1 hh (f_ lr) (a_E sc.s)
   exact Wr<|rtO<|qL (som<|ifT hmq hcn).symm<|b_e hr z z ⟨(bM (bup (bup (bM sc sa<|f_ lr) s3) h7) h8<|m1<|lt_ hp s3.s), a4, n5, c6, S0, z, (((hb.e s3).e h7).c h8<|ds<|mno (b_.lt hb) s3.s), hi, hg, h1l⟩
  refine Wk<|Ws<|Rm z<|R z (lN (vs := [vI r2.kind, Str.v r2.name, vI r2.version, sl ak nl cm]) a_H T_ z z fid<|h1j.row 0 4 z)<|E z (fS [(.tmp 22)] e_j z z z (a_p z) (lb z)<|lb z) ?_
  rintro _ ww ⟨rfl, hx⟩
  have hf := hx.below
  have h1m : Blk ww wv.z [vI r2.kind, Str.v r2.name, vI r2.version, sl ak nl cm] := hx.blk
  have h2h := (he.e h7).c h8<|ds<|mnr<|b_.lt he
  obtain ⟨x1n, e1o, hm1p⟩ := bdS (ifF hmq hcn)
  refine E z (b_d (α := o_) e_j e1o z z ((((hb.e s3).e h7).c h8<|ds<|mno (b_.lt hb) s3.s).e hf) hg h1m (k_Z (x := r2) (S1 := Sr) h1d h1e h1f<|((he.e h7).c h8<|ds<|mnr<|b_.lt he).e hf) (a_u ht (b_.lt hb) lr) h1h) ?_
  rintro _ w1q ⟨Sy, a1r, n1s, c1t, rfl, s1u, h1v, h1w, h1x⟩
  refine Ra z<|Wn<|Wg<|Rm z<|Ra z<|Wl ?_
  have hz := lt_ sa.s s3.s
  have h10 : ∀ k ∈ S0, k ∈ [w0.z] ∨ w1.z ≤ k := or1 hh (io sr) (l_ lr)
  have h1y : ∀ k ∈ Sr, k ∈ [w0.z] ∨ w1.z ≤ k := or0 ht  (l_ sa.s)
  have h1z : ∀ k ∈ Sy, k ∈ [w0.z] ∨ w1.z ≤ k := or2 h1x h10 h1y (l_ (lt_ (lt_ (lt_ hz h7.s) h8.s) hf.s))
  have h20 : Chg (· ∈ [w0.z]) w1 w16 := cM (cr [w0.z] w1) sa (io sr)
  have h21 : Chg (· ∈ [w0.z]) w1 wj := z_ h20 s3
  have h22 : Chg (· ∈ [w0.z]) w1 ws := z_ h21 h7
  have h23 : ∀ k ∈ [wj.z], k ∈ [w0.z] ∨ w1.z ≤ k := mor hz
  have h24 : Chg (· ∈ [w0.z]) w1 wv := cM h22 h8 h23
  have h25 : Chg (· ∈ [w0.z]) w1 ww := z_ h24 hf
  have h26 : Chg (· ∈ [w0.z]) w1 w1q := cM h25 s1u h10
  exact fun _ q => ⟨(x1n, r1b), (som hm1p).symm, ⟨a1r, n1s, c1t, Sy, (q.k<|s5 z z z z z), h26, h1v, h1w, h1z, h1g⟩⟩
 ·rintro ⟨xd, x9⟩ a27 w2i rfl ⟨a4, n5, c6, S0, hS2j, s28, hb, hg, hh, hi⟩
  have hm29 := elL hmo
  have hm2a := a_2 hm29
  revert a27
  obtain rfl := som hm2a
  exact b_e hr z z ⟨(bM sc s28<|f_ lr), none, 0, 0, [], z, onL, (ii z), K_, an_⟩
 rintro r2k ex2l a2m w2n rfl ⟨rfl, hq2b⟩
 have hm2c := elR hmo
 obtain rfl := som hm2c
 exact ⟨hq2b, z⟩
theorem W_w0u {x1 : Log} {res : Bool} (hm : f_0 n x1 = some res) (hBw : B ≤ w0.z) (p1_0 : a_ w0 B (sl A0 N0 C0) x1.bytes) (p1_1 : inI x1.stored) : j_ prog 65 [(.agg #[sl A0 N0 C0, vI x1.stored])] w0 (Q11 w0 B res) := by
 unfold f_0 at hm
 refine goF func65 z z (lb z) fun fn hr => Ws<|E z (fb z) ?_
 rintro _ wj ⟨rfl, ha⟩
 have h1 := ha.below
 have h5 : Blk wj w0.z [sl A0 N0 C0, vI x1.stored] := ha.blk
 refine Ra z<|Wn<|Wq<|Ws<|R z (fd c_R z)<|R z (l1 g_3 z fid<|h5.at z)<|R z (fd b_h z)<|R z (l1 J_ z fid<|h5.at z) ?_
 have hb := p1_0.e h1
 refine R z (lnR h_ z hb) ?_
 obtain ⟨ry, ek, hmc⟩ := bdS hm
 refine E z (fc call97 z<|a_I (B := B) ek (zt' hBw h1.s) p1_1 (ii z)<|b_2<|a_.len hb) ?_
 rintro _ wz ⟨s2, rfl⟩
 refine R z (not_ z)<|Wn<|Wc z (fun hc6 => ?_) (fun hc6 => ?_)
 ·refine Ws<|Ra z<|Wn ?_
  obtain rfl := som (ifT hmc hc6)
  exact Wr<|d_ hr z ⟨(bup h1 s2), z⟩
 refine Wk<|Ws<|R z (fd b_h z) ?_
 have hd := h5.e s2
 refine R z (l1 J_ z fid<|hd.at z) ?_
 have he := (h1.ag B).e s2
 have hf := lt_ h1.s s2.s
 obtain ⟨r10, rl, em, hmn⟩ := a_y (ifF hmc hc6)
 refine E z (fc call68 z<|h_2 (B := B) em (zt' hBw hf)<|p1_0.g he) ?_
 rintro _ w11 ⟨s3, a12, n13, c14, S15, rfl, h16, h17, h18, h19⟩
 refine Rm z<|R z (ext_ z z)<|R z (ext_ z z)<|Ra z<|Ra z<|Wn<|Ws<|R z (fd b_h z) ?_
 have h7 := hd.e s3
 refine R z (l1 J_ z fid<|h7.at z)<|R z (fd c_R z)<|R z (l1 g_3 z fid<|h7.at z) ?_
 obtain ⟨x1a, eo, hmp⟩ := bdS hmn
 have hg := he.e s3
 refine RX z (rX h_ z_5 z z (p1_0.g hg) z z eo) ?_
 rintro _ ⟨a1b, n1c, c1d, rfl, hq⟩
 obtain ⟨r1e, rr, es, hmt⟩ := a_y hmp
 refine E z (fc call68 z<|h_2 (B := B) es (zt' hBw<|lt_ hf s3.s) hq) ?_
 rintro _ w4 ⟨s8, a1f, n1g, c1h, S1i, rfl, h1j, h1k, h1l, h1m⟩
 refine Rm z<|R z (ext_ z z)<|R z (ext_ z z)<|Ra z<|Ra z<|Wn<|Wq ?_
 obtain ⟨uu, huh, hmv⟩ := bdS hmt
 refine Wt (fun a w => ∃ (x9 : Bool), x9 = uu ∧ Sat 40 [(2, vB x9)] a ∧ Below w4.z w4 w) ?_ ?_
 ·refine Wg<|Rm z<|R z (fd b_h z) ?_
  have hi := h7.e s8
  refine R z (l1 J_ z fid<|hi.at z)<|R z (lnR h_ z<|p1_0.g<|hg.e s8)<|R z (eql z z)<|Rm z ?_
  rcases bs (rl == (x1.bytes.length : Int)) with hc0 | hc0
  ·exact Rh z hc0 (mv z)<|Rh z hc0 (fd c_R z)<|Rh z hc0 (l1 g_3 z fid<|hi.at z)<|Rh z hc0 (eql z z)<|R z (pT z hc0 z)<|Ra z<|Wl (fun _ q => ⟨rr == x1.stored, som<|ifT huh hc0, (q.k<|s1 z), (br w4)⟩)
  iterate 4 refine Nh z hc0 ?_
  exact R z (pF z hc0 z)<|Ra z<|Wl (fun _ q => ⟨false, som<|ifF huh hc0, (q.k<|s1 z), (br w4)⟩)
 rintro aw w1n ⟨x9, rfl, hS1o, sx⟩
 revert aw
 refine Wo ?_
 obtain rfl := som hmv
 exact Wr<|d_ hr z ⟨(bup (bup (bup (bup h1 s2) s3) s8) sx), z⟩
def Q15 (w0 : World) (B : Zone) (r : (List n_)) (v : Value) (w' : World) : Prop := Bw w0 w' ∧ (fun r1 => ∃ a1 n1 c1, (sl a1 n1 c1) = v ∧ a_ w' (zn B w0.z w'.z) (sl a1 n1 c1) r1) r
theorem W_w2e {x1 : List n_} {x2 : o_} {res : (List n_)} (hm : g_E x1 x2 = some res) (hBw : B ≤ w0.z) (p1_0 : a_ w0 B (sl A0 N0 C0) x1) (p2_0 : inI x2.kind) (p2_1 : x2.name.b.length ≤ LEN) (p2_2 : inI x2.version) (p2_3 : a_ w0 B (sl AH NH CH) x2.data) : j_ prog 98 [sl A0 N0 C0, (.agg #[vI x2.kind, Str.v x2.name, vI x2.version, sl AH NH CH])] w0 (Q15 w0 B res) := by
 unfold g_E at hm
 refine goF func98 z z (lb z) fun fn hr => Ws<|E z (fb z) ?_
 rintro _ w3z ⟨rfl, h2a⟩
 have h9 := h2a.below
 have ht : Blk w3z w0.z [vI x2.kind, Str.v x2.name, vI x2.version, sl AH NH CH] := h2a.blk
 refine Ra z<|Wn<|Ws<|E z (n_8 (α := n_) b_q B) ?_
 rintro _ w2 ⟨a2b, rfl, s5, h40⟩
 refine Ra z<|Wn<|Wq ?_
 obtain ⟨u41, hu1m, hm42⟩ := bdS hm
 refine Wt (fun a w => ∃ (xa : Str) (xb : Int) (xw : List UInt8), (xa, xb, xw) = u41 ∧ ∃ an no cp Sx gc, Sat 61 [(0, sl A0 N0 C0), (3, pt w0.z), (5, sl a2b 0 0), (6, pt gc)] a ∧ Below w2.z w2 w ∧ xa.b.length ≤ LEN ∧ inI xb ∧ b_ w Sx (sl an no cp) xw ∧ Sx.Nodup ∧ (∀ k ∈ Sx, w2.z ≤ k) ∧ Blk w gc [Str.v xa, vI xb, sl an no cp] ∧ w2.z ≤ gc ∧ (∀ k ∈ Sx, k ∉ [gc])) ?_ ?_
 ·refine Wd (X := fun k => k ∈ ([] : List Nat) ∨ w2.z ≤ k) 1024 (.rd 0 (.rd 1 (.rd 2 (.rd 3 (.rd 5 (.rd 6 (.br 4 (.br 7 (.rd 8 (.ef 9 (.ef 10 .done))) 9 (.ef 7 (.rd 8 (.ef 10 .done)))) 9 (.ef 4 (.ef 7 (.rd 8 (.ef 10 .done))))))))))) mo (by kernel_rfl) fun wy s7 _ => dR z z (fd c_v z) ?_
  have h1n := (ht.e s5).e s7
  refine dR z z (l1 g_9 z (d_6 nm0<|Nat.lt_of_lt_of_le ht.lt s5.s)<|h1n.at z)<|dR z z (fd b_O z)<|dR z z (l1 g_3 z (d_6 nm0<|Nat.lt_of_lt_of_le ht.lt s5.s)<|h1n.at z)<|dR z z (fd c_w z)<|dR z z (l1 J_ z (d_6 nm0<|Nat.lt_of_lt_of_le ht.lt s5.s)<|h1n.at z)<|d_o ?_ ?_
  ·refine dE z z (f0 (α := UInt8) D_) (.inr fun _ _ h => A_ (by obtain ⟨_, _, _, _, h, _⟩ := h; exact h)) ?_
   rintro _ w1o ⟨a7l, n7m, c7n, rfl, su, h1p⟩
   refine d_o ?_ ?_
   ·obtain ⟨x43, e44, hm45⟩ := bdS hu1m
    have h46 : ∀ k ∈ [wy.z], k ∈ ([] : List Nat) ∨ w2.z ≤ k := mor s7.s
    refine dE z z (fN (α := UInt8) D_ e44 z z h1p a_0<|p2_3.g<|(((h9.ag B).e s5).e s7).e su) (.inr fun _ _ h => by obtain ⟨_, _, _, _, _, h, _⟩ := h; exact h.mono fun k _ hk => h46 k hk) ?_
    rintro _ w2c ⟨S47, a1q, n1r, c1s, rfl, s2d, h2e, h48, h49⟩
    refine dR z z (bP (parts := [(0, (.tmp 11)), (1, (.tmp 13)), (2, (.tmp 17))]) (cs := [Str.v x2.name, vI x2.version, sl a1q n1r c1s]) g_V z z)<|dE z z (fa e_l) (.inr fun _ _ h => A_<|h.2.below) ?_
    rintro _ w4a ⟨rfl, h2f⟩
    have h2g := h2f.below
    have h4b : Blk w4a w2c.z [(Str.v (⟨[]⟩ : Str)), vI 0, sl none 0 0] := h2f.blk
    have h2h := lt_ s7.s su.s
    have h1t := m1<|lt_ h2h s2d.s
    refine dE0 z (fs (cur' := [Str.v x2.name, vI x2.version, sl a1q n1r c1s]) a_s z z h4b z (lb z) (oA z) z) (.inr fun _ _ h => b_S (atp h1t) h.2) ?_
    rintro _ w7o ⟨h4c, s4d⟩
    have h2i := s4d.one
    refine pD ?_
    have h2j := mnr<|b_.lt h2e
    have h2k := m1 s7.s
    exact fun _ q => ⟨x2.name, x2.version, x43, som hm45, a1q, n1r, c1s, S47, w2c.z, (q.k<|s4 z z z z), (bM (bup (bM (bup s7 su) s2d h2k) h2g) h2i h1t), p2_1, p2_2, ((h2e.e h2g).c h2i<|ds h2j), h48, (a_x h49 h2k h2h), h4c, (atp h1t), (ds h2j)⟩
   refine dE z z (fa e_l) (.inr fun _ _ h => A_<|h.2.below) ?_
   rintro _ w4e ⟨rfl, h2l⟩
   have h12 := h2l.below
   have h2m : Blk w4e w1o.z [(Str.v (⟨[]⟩ : Str)), vI 0, sl none 0 0] := h2l.blk
   obtain ⟨x4f, e4g, hm4h⟩ := bdS hu1m
   have h4i : ∀ k ∈ [wy.z], k ∈ ([] : List Nat) ∨ w2.z ≤ k := mor s7.s
   refine dE z z (fN (α := UInt8) D_ e4g z z (h1p.e h12) a_0<|p2_3.g<|((((h9.ag B).e s5).e s7).e su).e h12) (.inr fun _ _ h => by obtain ⟨_, _, _, _, _, h, _⟩ := h; exact h.mono fun k _ hk => h4i k hk) ?_
   rintro _ w7p ⟨S2n, a1u, n1v, c1w, rfl, s2o, h4j, h4k, h2p⟩
   refine dR z z (bP (parts := [(0, (.tmp 11)), (1, (.tmp 13)), (2, (.tmp 17))]) (cs := [Str.v x2.name, vI x2.version, sl a1u n1v c1w]) g_V z z) ?_
   have h2q := mnr<|b_.lt h1p
   have h2r := lt_ s7.s su.s
   have h1x := m1 h2r
   refine dE0 z (fs (cur' := [Str.v x2.name, vI x2.version, sl a1u n1v c1w]) a_s z z (h2m.c s2o<|atp h2q) z (lb z) (oA z) z) (.inr fun _ _ h => b_S (atp h1x) h.2) ?_
   rintro _ w7q ⟨h4l, s4m⟩
   have h2s := s4m.one
   refine pD ?_
   have h2t : ∀ k ∈ S2n, k ∉ [w1o.z] := or1 h2p (ds h2q) (a_A (f_ h2m.lt) lr)
   have h2u := m1 s7.s
   exact fun _ q => ⟨x2.name, x2.version, x4f, som hm4h, a1u, n1v, c1w, S2n, w1o.z, (q.k<|s4 z z z z), (bM (bM (bup (bup s7 su) h12) s2o h2u) h2s h1x), p2_1, p2_2, (h4j.c h2s h2t), h4k, (a_x h2p h2u<|lt_ h2r h12.s), h4l, (atp h1x), h2t⟩
  refine dE z z (fa e_l) (.inr fun _ _ h => A_<|h.2.below) ?_
  rintro _ w2v ⟨rfl, h2w⟩
  have h1y := h2w.below
  have h1z : Blk w2v wy.z [(Str.v (⟨[]⟩ : Str)), vI 0, sl none 0 0] := h2w.blk
  refine dE z z (f0 (α := UInt8) D_) (.inr fun _ _ h => A_ (by obtain ⟨_, _, _, _, h, _⟩ := h; exact h)) ?_
  rintro _ w7r ⟨a7s, n7t, c7u, rfl, sz, h4n⟩
  obtain ⟨x4o, e4p, hm4q⟩ := bdS hu1m
  have h20 := lt_ s7.s h1y.s
  have h4r : ∀ k ∈ [w2v.z], k ∈ ([] : List Nat) ∨ w2.z ≤ k := mor h20
  refine dE z z (fN (α := UInt8) D_ e4p z z h4n a_0<|p2_3.g<|((((h9.ag B).e s5).e s7).e h1y).e sz) (.inr fun _ _ h => by obtain ⟨_, _, _, _, _, h, _⟩ := h; exact h.mono fun k _ hk => h4r k hk) ?_
  rintro _ w7v ⟨S2x, a21, n22, c23, rfl, s2y, h4s, h4t, h2z⟩
  refine dR z z (bP (parts := [(0, (.tmp 11)), (1, (.tmp 13)), (2, (.tmp 17))]) (cs := [Str.v x2.name, vI x2.version, sl a21 n22 c23]) g_V z z) ?_
  have h30 := mmr h1z.lt
  have h24 := m1 s7.s
  refine dE0 z (fs (cur' := [Str.v x2.name, vI x2.version, sl a21 n22 c23]) a_s z z ((h1z.e sz).c s2y<|djs h30) z (lb z) (oA z) z) (.inr fun _ _ h => b_S (atp h24) h.2) ?_
  rintro _ w7w ⟨h4u, s4v⟩
  have h31 := s4v.one
  refine pD ?_
  have h32 : ∀ k ∈ S2x, k ∉ [wy.z] := or1 h2z h30 (a_A (f_ h1z.lt) sz.s)
  have h33 := m1 h20
  exact fun _ q => ⟨x2.name, x2.version, x4o, som hm4q, a21, n22, c23, S2x, wy.z, (q.k<|s4 z z z z), (bM (bM (bup (bup s7 h1y) sz) s2y h33) h31 h24), p2_1, p2_2, (h4s.c h31 h32), h4t, (a_x h2z h33<|lt_ h20 sz.s), h4u, (atp h24), h32⟩
 rintro a4w w3 ⟨xa, xb, xw, rfl, an, no, cp, Sx, gc, hS7x, sd, h34, h35, hv, h7y, h36, h37, h7z, h80⟩
 have hm4x := c_9 hm42
 revert a4w
 refine Wo<|Ws<|Ra z<|Wn<|Wq<|Ws<|Ra z<|Wn ?_
 obtain ⟨u81, hu4y, hm38⟩ := bdS hm4x
 refine Wf (σ := (List n_) × Bool) (ρ := (List n_)) (fun (k13 : Nat) s a w => un2 (fun xi xf => ∃ a4 n6 c8 S0, Sat 61 [(0, sl A0 N0 C0), (3, pt w0.z), (5, sl a4 n6 c8), (6, pt gc), (7, vB xf), (8, (vI ((k13 : Nat) : Int)))] a ∧ Below w3.z w3 w ∧ L_ w S0 (zn B w2.z w3.z) (sl a4 n6 c8) xi ∧ S0.Nodup ∧ (∀ k ∈ S0, w3.z ≤ k)) s) (fun s a w => un2 (fun xi xf => ∃ a4 n6 c8 S0, Sat 61 [(3, pt w0.z), (5, sl a4 n6 c8), (6, pt gc), (7, vB xf)] a ∧ Below w3.z w3 w ∧ L_ w S0 (zn B w2.z w3.z) (sl a4 n6 c8) xi ∧ S0.Nodup ∧ (∀ k ∈ S0, w3.z ≤ k)) s) (fun r ex a w => ex = .ret ∧ v_ prog fn (Q15 w0 B r) a w) hu4y ?_ ?_ ?_ ?_ ?_
 ·exact fun _ q => ⟨a2b, 0, 0, ([] : List Nat), (q.k<|s6 z z z z z z), (br w3), (L_.mono (h40.e sd) d_b), K_, an_⟩
 ·rintro k13 ⟨xi, xf⟩ a82 w83 o84 hk39 ⟨a4, n6, c8, S0, hS4z, sq, hj, hl, hg⟩ hm50
  have hm51 := a_2 hm50
  refine Wu ?_ hS4z
  refine Wq<|Ws<|Rm z<|Rm z ?_
  have h3a := (((h9.ag B).e s5).e sd).e sq
  refine R z (lnR b_c z<|p1_0.g h3a)<|R z (lss z z)<|Wn<|Wc z (fun _ => ?_) (fun hc => (R_ hk39 hc).elim)
  refine Wk<|Wq<|Wb<|Wb<|Wq (Wd (X := noX) 0 (.rd 0 (.rd 1 (.rd 2 (.rd 3 (.rd 4 (.rd 5 (.rd 6 (.rd 7 (.rd 8 .done))))))))) mo (by kernel_rfl) fun w1 se _ => dR z z (mv z)<|dR z z (mv z) ?_)
  obtain ⟨x85, e52, hm53⟩ := bdS hm51
  have h3b := p1_0.g<|h3a.e se
  refine dRX z z (at_ (α := n_) b_c a_s z z z h3b e52) ?_
  rintro _ ⟨b86, o87, cs88, rfl, h54, h55, h89⟩
  obtain ⟨a8a, n8b, c8c, rfl, h8d, h8e, h8f⟩ := d_P h55
  refine dR z z (fd g_Y z)<|dR z z (l1 g_9 z fid<|h54.at (j := 0) z)<|dR z z (fd c_v z) ?_
  have h3c := (((ht.e s5).e sd).e sq).e se
  refine dR z z (l1 g_9 z fid<|h3c.at z)<|dR z z (h_p z z)<|dR z z (asg z)<|pD<|Wo ?_
  obtain ⟨u56, hu3d, hm57⟩ := bdS hm53
  refine Wt (fun a w => ∃ (x14 : List n_) (x15 : Bool), (x14, x15) = u56 ∧ ∃ a16 n17 c18 S10, Sat 61 [(0, sl A0 N0 C0), (3, pt w0.z), (5, sl a16 n17 c18), (6, pt gc), (7, vB x15), (8, (vI ((k13 : Nat) : Int)))] a ∧ Chg (· ∈ S0) w1 w ∧ L_ w S10 (zn B w2.z w3.z) (sl a16 n17 c18) x14 ∧ S10.Nodup ∧ (∀ k ∈ S10, k ∈ S0 ∨ w1.z ≤ k)) ?_ ?_
  ·refine Wc z (fun hc25 => ?_) (fun hc25 => ?_)
   ·refine Wg<|Rm z<|Rm z<|Rm z ?_
    obtain ⟨x11, e58, hm59⟩ := bdS (ifT hu3d hc25)
    refine RX z (at_ (α := n_) b_c a_s z z z h3b e58) ?_
    rintro _ ⟨b8g, o8h, cs8i, rfl, h5a, h5b, h8j⟩
    obtain ⟨a3e, n3f, c3g, rfl, h5c, h5d, h5e⟩ := d_P h5b
    refine R z (lN (vs := [Str.v x11.name, vI x11.version, sl a3e n3f c3g]) c_q a_s z z fid h5a)<|E z (fS [(.tmp 38)] b_q z z z (a_p z) (lb z)<|lb z) ?_
    rintro _ w3h ⟨rfl, h3i⟩
    have h19 := h3i.below
    have h5f : Blk w3h w1.z [Str.v x11.name, vI x11.version, sl a3e n3f c3g] := h3i.blk
    obtain ⟨x5g, e5h, hm5i⟩ := bdS hm59
    have h5j : ∀ k ∈ S0, ¬ (zn B w2.z w3.z) k := or0 hg  (c_a (r_ (zt' hBw (lt_ (lt_ h9.s s5.s) sd.s))) lr)
    refine E z (h_U (α := n_) b_q e5h z z ((hj.e se).e h19) hl h5f (f_i (x := x11) h5c h5d<|a_.mono (h5e.e h19) d_b) h5j) ?_
    rintro _ w5k ⟨S3j, a5l, n5m, c5n, rfl, s5o, h5p, h5q, h5r⟩
    refine Ra z<|Wl ?_
    have h5s : ∀ k ∈ S3j, k ∈ S0 ∨ w1.z ≤ k := or1 h5r (io sr) (l_ h19.s)
    have h5t : Chg (· ∈ S0) w1 w3h := z_ (cr S0 w1) h19
    have h5u : Chg (· ∈ S0) w1 w5k := cM h5t s5o (io sr)
    exact fun _ q => ⟨x5g, xf, som hm5i, a5l, n5m, c5n, S3j, (q.k<|s6 z z z z z z), h5u, h5p, h5q, h5s⟩
   refine Ws<|R z (fd b_N z)<|R z (l1 g_3 z fid<|h3c.at z)<|R z (eql z z)<|Ra z<|Wn ?_
   obtain ⟨u5v, hu3k, hm5w⟩ := bdS (ifF hu3d hc25)
   refine Wt (fun a w => ∃ (x1a : List n_) (x1b : Bool), (x1a, x1b) = u5v ∧ ∃ a1c n1d c1e Sr, Sat 61 [(0, sl A0 N0 C0), (3, pt w0.z), (5, sl a1c n1d c1e), (6, pt gc), (7, vB x1b), (8, (vI ((k13 : Nat) : Int)))] a ∧ Chg (· ∈ S0) w1 w ∧ L_ w Sr (zn B w2.z w3.z) (sl a1c n1d c1e) x1a ∧ Sr.Nodup ∧ (∀ k ∈ Sr, k ∈ S0 ∨ w1.z ≤ k)) ?_ ?_
   ·refine Wc z (fun hc26 => ?_) (fun hc26 => ?_)
    ·refine Ws<|Rm z<|R z (lN (vs := [Str.v xa, vI xb, sl an no cp]) c_q a_s z z fid<|((h37.e sq).e se).row 0 3 z)<|E z (fS [(.tmp 46)] b_q z z z (a_p z) (lb z)<|lb z) ?_
     rintro _ w3l ⟨rfl, h3m⟩
     have h1f := h3m.below
     have h5x : Blk w3l w1.z [Str.v xa, vI xb, sl an no cp] := h3m.blk
     have h8k := (hv.e sq).e se
     obtain ⟨x5y, e5z, hm60⟩ := bdS (ifT hu3k hc26)
     have h61 : ∀ k ∈ S0, ¬ (zn B w2.z w3.z) k := or0 hg  (c_a (r_ (zt' hBw (lt_ (lt_ h9.s s5.s) sd.s))) lr)
     refine E z (h_U (α := n_) b_q e5z z z ((hj.e se).e h1f) hl h5x (f_i (x := (⟨xa, xb, xw⟩ : n_)) h34 h35<|or_ (((hv.e sq).e se).e h1f)<|zin (B := B) h36<|b_.lt hv) h61) ?_
     rintro _ w62 ⟨S3n, a63, n64, c65, rfl, s66, h67, h68, h69⟩
     refine Ra z<|Wn<|Wg<|Ra z<|Wl ?_
     have h6a : ∀ k ∈ S3n, k ∈ S0 ∨ w1.z ≤ k := or1 h69 (io sr) (l_ h1f.s)
     have h6b : Chg (· ∈ S0) w1 w3l := z_ (cr S0 w1) h1f
     have h6c : Chg (· ∈ S0) w1 w62 := cM h6b s66 (io sr)
     exact fun _ q => ⟨x5y, true, som hm60, a63, n64, c65, S3n, (q.k<|s6 z z z z z z), h6c, h67, h68, h6a⟩
    exact a_J (fun _ q => ⟨xi, xf, som<|ifF hu3k hc26, a4, n6, c8, S0, (q.k<|s6 z z z z z z), (cr S0 w1), (hj.e se), hl, (io sr)⟩)
   rintro a6d w6e ⟨x1a, x1b, rfl, a1c, n1d, c1e, Sr, hS8l, s6f, h6g, h6h, h6i⟩
   have hm6j := a_2 hm5w
   revert a6d
   have h6k : ∀ k ∈ Sr, k ∈ S0 ∨ w1.z ≤ k := or1 h6i (io sr) (l_ lr)
   have h6l : Chg (· ∈ S0) w1 w6e := cM (cr S0 w1) s6f (io sr)
   exact fun _ q => ⟨x1a, x1b, som hm6j, a1c, n1d, c1e, Sr, (q.k<|s6 z z z z z z), h6l, h6g, h6h, h6k⟩
  rintro a6m w8m ⟨x14, x15, rfl, a16, n17, c18, S10, hS8n, s6n, h6o, h6p, h6q⟩
  have hm6r := a_2 hm57
  revert a6m
  exact Wo<|Wg<|Rm z<|R z (inc_ hk39 (lt_ (a_.len p1_0) H_) z z)<|Ra z<|Wl (fun _ q => ⟨(x14, x15), (som hm6r).symm, ⟨a16, n17, c18, S10, (q.k<|s6 z z z z z z), (bM (bup sq se) s6n hg), h6o, h6p, (a_x h6q hg<|lt_ sq.s se.s)⟩⟩)
 ·rintro ⟨xi, xf⟩ a8o w8p ⟨a4, n6, c8, S0, hS6s, s3o, hj, hl, hg⟩
  refine Wu ?_ hS6s
  refine Wq<|Ws<|Rm z<|Rm z<|R z (lnR b_c z<|p1_0.g<|(((h9.ag B).e s5).e sd).e s3o)<|R z (lss z z)<|Wn<|Wc z (fun hc => (S_ hc).elim) (fun _ => ?_)
  exact We (fun a' ha' => ⟨rfl, ⟨a4, n6, c8, S0, (Sat.weaken ha'<|s4 z z z z), s3o, hj, hl, hg⟩⟩)
 ·rintro ⟨xi, xf⟩ a6t w1g rfl ⟨a4, n6, c8, S0, hS8q, ss, hj, hl, hg⟩
  have hm6u := elL hm38
  have hm6v := a_2 hm6u
  revert a6t
  refine Wo<|Wq<|Wq ?_
  obtain ⟨u6w, hu3p, hm6x⟩ := bdS hm6v
  refine Wt (fun a w => ∃ (x27 : Bool), x27 = u6w ∧ Sat 61 [(5, sl a4 n6 c8), (6, pt gc), (55, vB x27)] a ∧ Below w1g.z w1g w) ?_ ?_
  ·refine Wg<|R z (fd b_N z)<|R z (l1 g_3 z fid<|(((ht.e s5).e sd).e ss).at z)<|R z (eql z z)<|Rm z ?_
   rcases bs (x2.kind == 1) with hch | hch
   ·exact Rh z hch (mv z)<|Rh z hch (not_ z)<|R z (pT z hch z)<|Wl (fun _ q => ⟨!xf, som<|ifT hu3p hch, (q.k<|s3 z z z), (br w1g)⟩)
   exact Nh z hch<|Nh z hch<|R z (pF z hch z)<|Wl (fun _ q => ⟨false, som<|ifF hu3p hch, (q.k<|s3 z z z), (br w1g)⟩)
  rintro a6y wk ⟨x27, rfl, hS8r, sm⟩
  revert a6y
  refine Wo ?_
  obtain ⟨u6z, hu3q, hm70⟩ := bdS hm6x
  refine Wt (fun a w => ∃ (x28 : List n_), x28 = u6z ∧ ∃ a1h n1i c1j S1k, Sat 61 [(5, sl a1h n1i c1j)] a ∧ Chg (· ∈ S0) wk w ∧ L_ w S1k (zn B w2.z w3.z) (sl a1h n1i c1j) x28 ∧ S1k.Nodup ∧ (∀ k ∈ S1k, k ∈ S0 ∨ wk.z ≤ k)) ?_ ?_
  ·refine Wc z (fun hc29 => ?_) (fun hc29 => ?_)
   ·refine Wg<|Rm z<|R z (lN (vs := [Str.v xa, vI xb, sl an no cp]) c_q a_s z z fid<|((h37.e ss).e sm).row 0 3 z)<|E z (fS [(.tmp 57)] b_q z z z (a_p z) (lb z)<|lb z) ?_
    rintro _ w3r ⟨rfl, h3s⟩
    have h1l := h3s.below
    have h71 : Blk w3r wk.z [Str.v xa, vI xb, sl an no cp] := h3s.blk
    have h8s := (hv.e ss).e sm
    obtain ⟨x72, e73, hm74⟩ := bdS (ifT hu3q hc29)
    have h75 : ∀ k ∈ S0, ¬ (zn B w2.z w3.z) k := or0 hg  (c_a (r_ (zt' hBw (lt_ (lt_ h9.s s5.s) sd.s))) lr)
    refine E z (h_U (α := n_) b_q e73 z z ((hj.e sm).e h1l) hl h71 (f_i (x := (⟨xa, xb, xw⟩ : n_)) h34 h35<|or_ (((hv.e ss).e sm).e h1l)<|zin (B := B) h36<|b_.lt hv) h75) ?_
    rintro _ w76 ⟨S3t, a77, n78, c79, rfl, s7a, h7b, h7c, h7d⟩
    refine Ra z<|Wl ?_
    have h7e : ∀ k ∈ S3t, k ∈ S0 ∨ wk.z ≤ k := or1 h7d (io sr) (l_ h1l.s)
    have h7f : Chg (· ∈ S0) wk w3r := z_ (cr S0 wk) h1l
    have h7g : Chg (· ∈ S0) wk w76 := cM h7f s7a (io sr)
    exact fun _ q => ⟨x72, som hm74, a77, n78, c79, S3t, (q.k<|s1 z), h7g, h7b, h7c, h7e⟩
   exact a_J (fun _ q => ⟨xi, som<|ifF hu3q hc29, a4, n6, c8, S0, (q.k<|s1 z), (cr S0 wk), (hj.e sm), hl, (io sr)⟩)
  rintro a7h w8t ⟨x28, rfl, a1h, n1i, c1j, S1k, hS8u, s3u, h3v, h8v, h7i⟩
  revert a7h
  refine Wo<|Ws<|Rm z<|Ra z<|Wn ?_
  obtain rfl := som hm70
  have h3w := lt_ h9.s s5.s
  have h3x := lt_ h3w sd.s
  have h3y := m_ hg h3x
  exact Wr<|d_ hr z ⟨(bM (bup (bup (bup (bup h9 s5) sd) ss) sm) s3u h3y), a1h, n1i, c1j, z, (L_.rep h3v (zin (B := B) (a_x h7i h3y<|lt_ (lt_ h3x ss.s) sm.s)<|L_.lt h3v)<|b_i h3w<|lt_ (lt_ ss.s sm.s) s3u.s)⟩
 rintro r8w ex8x a8y w8z rfl ⟨rfl, hq7j⟩
 have hm7k := elR hm38
 obtain rfl := som hm7k
 exact ⟨hq7j, z⟩
theorem W_w0v {x1 : List UInt8} {res : (List n_)} (hm : f_1 n x1 = some res) (hBw : B ≤ w0.z) (p1_0 : a_ w0 B (sl A0 N0 C0) x1) : j_ prog 66 [sl A0 N0 C0] w0 (Q15 w0 B res) := by
 unfold f_1 at hm
 refine goF func66 z z (lb z) fun fn hr => Ws<|Ra z<|Wn<|Ws<|E z (f0 (α := n_) b_q) ?_
 rintro _ w1k ⟨ak, nl, cm, rfl, s5, ha⟩
 refine Ra z<|Wn<|Ws<|Rm z ?_
 obtain ⟨r1l, r1m, en, hmo⟩ := a_y hm
 refine E z (fc call68 z<|h_2 (B := B) en (zt' hBw s5.s)<|p1_0.e s5) ?_
 rintro _ w6 ⟨s7, ap, nq, cr, S1n, rfl, h3, h1o, h1p, hb⟩
 refine Rm z<|R z (ext_ z z)<|R z (ext_ z z)<|Ra z<|Ra z<|Wn<|Wq<|Ws<|Ra z<|Wn ?_
 have h1q := ha.e s7
 obtain ⟨u1r, hus, hmd⟩ := bdS hmo
 refine Wf (σ := (List n_)) (ρ := (List n_)) (fun (ke : Nat) (x4 : List n_) a w => ∃ a0 n1 c2, Sat 26 [(3, sl a0 n1 c2), (4, sl ap nq cr), (6, (vI ((ke : Nat) : Int)))] a ∧ Below w6.z w6 w ∧ a_ w (zn B w0.z w.z) (sl a0 n1 c2) x4) (fun (x4 : List n_) a w => ∃ a0 n1 c2, Sat 26 [(3, sl a0 n1 c2)] a ∧ Below w6.z w6 w ∧ a_ w (zn B w0.z w.z) (sl a0 n1 c2) x4) (fun r ex a w => ex = .ret ∧ v_ prog fn (Q15 w0 B r) a w) hus ?_ ?_ ?_ ?_ ?_
 ·exact fun _ q => ⟨ak, nl, cm, (q.k<|s3 z z z), (br w6), (a_.mono (or_ (ha.e s7)<|zin (B := B) (f_ lr)<|b_.lt ha)<|b_i lr s7.s)⟩
 ·rintro ke x4 a1s wt o1t hkf ⟨a0, n1, c2, hSu, s9, h8⟩ hmv
  refine Wu ?_ hSu
  refine Wq<|Ws<|Rm z<|Rm z ?_
  have hg := h3.e s9
  refine R z (lnR b_I z<|or_ hg<|zin (B := B) hb<|b_.lt h3)<|R z (lss z z)<|Wn<|Wc z (fun _ => ?_) (fun hc => (R_ hkf hc).elim)
  refine Wk<|Wq<|Wb<|Wg<|Rm z<|Rm z<|Rm z ?_
  obtain ⟨xc, ew, hmx⟩ := bdS hmv
  refine RX z (at_ (α := o_) b_I T_ z z z (or_ hg<|zin (B := B) hb<|b_.lt h3) ew) ?_
  rintro _ ⟨b1u, o1v, cs1w, rfl, hy, hz, h1x⟩
  obtain ⟨a10, n11, c12, rfl, h13, h14, h15, h16⟩ := d_Q hz
  refine R z (lN (vs := [vI xc.kind, Str.v xc.name, vI xc.version, sl a10 n11 c12]) a_H T_ z z fid hy) ?_
  have hh := lt_ (lt_ s5.s s7.s) s9.s
  obtain ⟨r17, e18, hm19⟩ := bdS hmx
  refine E z (fc call98 z<|W_w2e (B := (zn B w0.z wt.z)) e18 (f_s (zt' hBw hh) lr) h8 h13 h14 h15<|a_.mono h16<|b_i s5.s s9.s) ?_
  rintro _ w1y ⟨si, a1a, n1b, c1c, rfl, h1d⟩
  exact Ra z<|Wn<|Wg<|Rm z<|R z (inc_ hkf (lt_ (b_.len h3) H_) z z)<|Ra z<|Wl (fun _ q => ⟨r17, (som hm19).symm, ⟨a1a, n1b, c1c, (q.k<|s3 z z z), (bup s9 si), (a_.mono h1d<|zn_zn hh si.s)⟩⟩)
 ·rintro x4 a1z w20 ⟨a0, n1, c2, hS1e, sj, h8⟩
  refine Wu ?_ hS1e
  refine Wq<|Ws<|Rm z<|Rm z<|R z (lnR b_I z<|or_ (h3.e sj)<|zin (B := B) hb<|b_.lt h3)<|R z (lss z z)<|Wn<|Wc z (fun hc => (S_ hc).elim) (fun _ => ?_)
  exact We (fun a' ha' => ⟨rfl, ⟨a0, n1, c2, (Sat.weaken ha'<|s1 z), sj, h8⟩⟩)
 ·rintro x4 a1f w21 rfl ⟨a0, n1, c2, hS22, s1g, h8⟩
  have hm1h := elL hmd
  revert a1f
  refine Wo<|Ws<|Rm z<|Ra z<|Wn ?_
  obtain rfl := som hm1h
  exact Wr<|d_ hr z ⟨(bup (bup s5 s7) s1g), a0, n1, c2, z, h8⟩
 rintro r23 ex24 a25 w26 rfl ⟨rfl, hq1i⟩
 have hm1j := elR hmd
 obtain rfl := som hm1j
 exact ⟨hq1i, z⟩
theorem W_w2f {x1 : C_} {res : (List n_)} (hm : f_2 n x1 = some res) (hBw : B ≤ w0.z) (p1_0 : a_ w0 B (sl A0 N0 C0) x1.registry.versions) (p1_1 : a_ w0 B (sl A1 N1 C1) x1.log.bytes) (p1_2 : inI x1.log.stored) : j_ prog 34 [(.agg #[sl A0 N0 C0, sl A1 N1 C1, vI x1.log.stored])] w0 (Q15 w0 B res) := by
 unfold f_2 at hm
 refine goF func34 z z (lb z) fun fn hr => Ws<|E z (fb z) ?_
 rintro _ w8 ⟨rfl, h3⟩
 have h0 := h3.below
 have h4 : Blk w8 w0.z [sl A0 N0 C0, sl A1 N1 C1, vI x1.log.stored] := h3.blk
 refine Ra z<|Wn<|Wq<|Ws<|R z (fd b_H z)<|R z (lN (vs := [sl A1 N1 C1, vI x1.log.stored]) c_Q c_5 z z fid<|h4.row 1 2 z) ?_
 obtain ⟨rl, e9, hm5⟩ := bdS hm
 refine E z (fc call65 z<|W_w0u (B := B) (x1 := (⟨x1.log.bytes, x1.log.stored⟩ : Log)) e9 (zt' hBw h0.s) (p1_1.e h0) p1_2) ?_
 rintro _ wm ⟨s1, rfl⟩
 refine R z (not_ z)<|Wn<|Wc z (fun hc2 => ?_) (fun hc2 => ?_)
 ·refine Ws<|E z (f0 (α := n_) b_q) ?_
  rintro _ wn ⟨aa, nb, cc, rfl, sd, h6⟩
  refine Ra z<|Wn ?_
  obtain rfl := som (ifT hm5 hc2)
  exact Wr<|d_ hr z ⟨(bup (bup h0 s1) sd), aa, nb, cc, z, (a_.mono (or_ h6<|zin (B := B) (f_ lr)<|b_.lt h6)<|b_i (lt_ h0.s s1.s) lr)⟩
 refine Wk<|Ws<|R z (fd b_H z)<|R z (fd b_h z)<|R z (l1 J_ z fid<|(h4.e s1).at z) ?_
 have h7 := lt_ h0.s s1.s
 obtain ⟨ro, ee, hmf⟩ := bdS (ifF hm5 hc2)
 refine E z (fc call66 z<|W_w0v (B := B) ee (zt' hBw h7)<|p1_1.g<|(h0.ag B).e s1) ?_
 rintro _ wp ⟨sg, ah, ni, cj, rfl, hk⟩
 refine Ra z<|Wn ?_
 obtain rfl := som hmf
 exact Wr<|d_ hr z ⟨(bup (bup h0 s1) sg), ah, ni, cj, z, (a_.mono hk<|b_i h7 lr)⟩
theorem c_V {x1 : e_} {x2 : Bool} {x3 : Bool} {x4 : Bool} {x5 : Bool} {x6 : Int} {res : Bool} (hm : b_K x1 x2 x3 x4 x5 x6 = some res) (hBw : B ≤ w0.z) (p1_0 : x1.name.b.length ≤ LEN) (p1_1 : inI x1.kind) (p1_2 : inI x1.size) (p1_4 : a_ w0 B (sl A9 N9 C9) x1.bytes) (p1_5 : a_ w0 B (sl A8 N8 C8) x1.names) (p1_6 : a_ w0 B (sl AA NA CA) x1.tags) (p1_7 : a_ w0 B (sl AB NB CB) x1.kids) (p6_0 : inI x6) : j_ prog 162 [(.agg #[Str.v x1.name, vI x1.kind, vI x1.size, vB x1.little, sl A9 N9 C9, sl A8 N8 C8, sl AA NA CA, sl AB NB CB]), vB x2, vB x3, vB x4, vB x5, vI x6] w0 (Q11 w0 B res) := by
 unfold b_K at hm
 refine goF func162 z z (lb z) fun fn hr => Ws<|E z (fb z) ?_
 rintro _ wc ⟨rfl, hf⟩
 have hd := hf.below
 have hb : Blk wc w0.z (vR x1 A9 N9 C9 A8 N8 C8 AA NA CA AB NB CB) := hf.blk
 refine Ra z<|Wn<|Wq ?_
 obtain ⟨uw, hux, hmy⟩ := bdS hm
 refine Wt (fun a w => ∃ (xe : Bool), xe = uw ∧ Sat 67 [(12, vB xe)] a ∧ Below wc.z wc w) ?_ ?_
 ·refine Wg<|Rm z<|Rm z ?_
  obtain ⟨ug, huh, hmz⟩ := bdS hux
  refine c_Y 18 ug 4 ?_ ?_
  ·rcases bs x2 with hc9 | hc9
   ·iterate 3 refine Nh z hc9 ?_
    exact R z (pT z hc9 z)<|WLq 4 (ifT huh hc9) z z z
   exact Rh z hc9 (fd a_D z)<|Rh z hc9 (l1 g_3 z fid<|hb.at z)<|Rh z hc9 (eql z z)<|R z (pF z hc9 z)<|WLq 4 (ifF huh hc9) z z z
  refine Rm z ?_
  obtain ⟨ui, huj, hm10⟩ := bdS hmz
  refine c_Y 27 ui 8 ?_ ?_
  ·rcases bs ug with hc1 | hc1
   ·have hmk := ifT huj hc1
    refine Rh z hc1 (mv z)<|Rh z hc1 (mv z) ?_
    rcases bs x3 with hc6 | hc6
    ·iterate 4 refine Nh z hc6 ?_
     exact Rh z hc1 (pT z hc6 z)<|R z (pT z hc1 z)<|WLq 8 (ifT hmk hc6) z z z
    exact Rh z hc6 (fd a_R z)<|Rh z hc6 (l1 J_ z fid<|hb.at z)<|Rh z hc6 (lnR h_ z<|p1_4.e hd)<|Rh z hc6 (eql z z)<|Rh z hc1 (pF z hc6 z)<|R z (pT z hc1 z)<|WLq 8 (ifF hmk hc6) z z z
   exact Nh z hc1<|Nh z hc1<|Nv z<|Nv z<|Nv z<|Nv z<|Nh z hc1<|R z (pF z hc1 z)<|WLq 8 (ifF huj hc1) z z z
  refine Rm z ?_
  obtain ⟨ul, hum, hm11⟩ := bdS hm10
  refine c_Y 36 ul 8 ?_ ?_
  ·rcases bs ui with hc2 | hc2
   ·have hmn := ifT hum hc2
    refine Rh z hc2 (mv z)<|Rh z hc2 (mv z) ?_
    rcases bs x4 with hc7 | hc7
    ·iterate 4 refine Nh z hc7 ?_
     exact Rh z hc2 (pT z hc7 z)<|R z (pT z hc2 z)<|WLq 8 (ifT hmn hc7) z z z
    exact Rh z hc7 (fd c_4 z)<|Rh z hc7 (l1 b_M z fid<|hb.at z)<|Rh z hc7 (lnR a_1 z<|p1_5.e hd)<|Rh z hc7 (eql z z)<|Rh z hc2 (pF z hc7 z)<|R z (pT z hc2 z)<|WLq 8 (ifF hmn hc7) z z z
   exact Nh z hc2<|Nh z hc2<|Nv z<|Nv z<|Nv z<|Nv z<|Nh z hc2<|R z (pF z hc2 z)<|WLq 8 (ifF hum hc2) z z z
  refine Rm z ?_
  obtain ⟨uo, hup, hm12⟩ := bdS hm11
  refine c_Y 45 uo 8 ?_ ?_
  ·rcases bs ul with hc3 | hc3
   ·have hmq := ifT hup hc3
    refine Rh z hc3 (mv z)<|Rh z hc3 (mv z) ?_
    rcases bs x5 with hc8 | hc8
    ·iterate 4 refine Nh z hc8 ?_
     exact Rh z hc3 (pT z hc8 z)<|R z (pT z hc3 z)<|WLq 8 (ifT hmq hc8) z z z
    exact Rh z hc8 (fd a_O z)<|Rh z hc8 (l1 G_ z fid<|hb.at z)<|Rh z hc8 (lnR B_ z<|p1_6.e hd)<|Rh z hc8 (eql z z)<|Rh z hc3 (pF z hc8 z)<|R z (pT z hc3 z)<|WLq 8 (ifF hmq hc8) z z z
   exact Nh z hc3<|Nh z hc3<|Nv z<|Nv z<|Nv z<|Nv z<|Nh z hc3<|R z (pF z hc3 z)<|WLq 8 (ifF hup hc3) z z z
  refine Rm z ?_
  obtain ⟨ur, hus, hmt⟩ := bdS hm12
  refine c_Y 56 ur 10 ?_ ?_
  ·rcases bs uo with hc4 | hc4
   ·have hmu := ifT hus hc4
    refine Rh z hc4 (mv z)<|Rh z hc4 (lss z z)<|Rh z hc4 (mv z) ?_
    rcases bs (decide (x6 < 0)) with hc5 | hc5
    ·iterate 5 refine Nh z hc5 ?_
     exact Rh z hc4 (pT z hc5 z)<|R z (pT z hc4 z)<|WLq 10 (ifT hmu hc5) z z z
    exact Rh z hc5 (fd a_8 z)<|Rh z hc5 (l1 G_ z fid<|hb.at z)<|Rh z hc5 (lnR B_ z<|p1_7.e hd)<|Rh z hc5 (mv z)<|Rh z hc5 (eql z z)<|Rh z hc4 (pF z hc5 z)<|R z (pT z hc4 z)<|WLq 10 (ifF hmu hc5) z z z
   iterate 3 refine Nh z hc4 ?_
   exact Nv z<|Nv z<|Nv z<|Nv z<|Nv z<|Nh z hc4<|R z (pF z hc4 z)<|WLq 10 (ifF hus hc4) z z z
  refine Rm z ?_
  rcases bs ur with hc0 | hc0
  ·have hmv := ifT hmt hc0
   refine Rh z hc0 (fd c_t z)<|Rh z hc0 (l1 g_4 z fid<|hb.at z)<|Rh z hc0 (not_ z)<|Rh z hc0 (mv z) ?_
   rcases bs (!x1.little) with hca | hca
   ·iterate 3 refine Nh z hca ?_
    exact Rh z hc0 (pT z hca z)<|R z (pT z hc0 z)<|Ra z<|Wl (fun _ q => ⟨true, som<|ifT hmv hca, (q.k<|s1 z), (br wc)⟩)
   exact Rh z hca (fd b_x z)<|Rh z hca (l1 g_3 z fid<|hb.at z)<|Rh z hca (eql z z)<|Rh z hc0 (pF z hca z)<|R z (pT z hc0 z)<|Ra z<|Wl (fun _ q => ⟨x1.kind == 1, som<|ifF hmv hca, (q.k<|s1 z), (br wc)⟩)
  iterate 4 refine Nh z hc0 ?_
  exact Nv z<|Nv z<|Nv z<|Nh z hc0<|R z (pF z hc0 z)<|Ra z<|Wl (fun _ q => ⟨false, som<|ifF hmt hc0, (q.k<|s1 z), (br wc)⟩)
 rintro a13 w15 ⟨xe, rfl, hS16, s14⟩
 revert a13
 refine Wo ?_
 obtain rfl := som hmy
 exact Wr<|d_ hr z ⟨(bup hd s14), z⟩
theorem i_n {x1 : g_} {x2 : Int} {res : Int} (hm : e_9 x1 x2 = some res) (hBw : B ≤ w0.z) (p1_0 : a_ w0 B (sl A0 N0 C0) x1.rules) (p2_0 : inI x2) : j_ prog 163 [(.agg #[sl A0 N0 C0]), vI x2] w0 (Q0 w0 B res) := by
 unfold e_9 at hm
 refine goF func163 z z (lb z) fun fn hr => Ws<|E z (fb z) ?_
 rintro _ w3 ⟨rfl, h9⟩
 have h2 := h9.below
 have h6 : Blk w3 w0.z [sl A0 N0 C0] := h9.blk
 refine Ra z<|Wn<|Wq<|Wq ?_
 obtain ⟨uf, hug, hma⟩ := bdS hm
 refine Wt (fun a w => ∃ (x7 : Bool), x7 = uf ∧ Sat 39 [(1, vI x2), (2, pt w0.z), (30, vB x7)] a ∧ Below w3.z w3 w) ?_ ?_
 ·refine Wg<|Rm z<|R z (fd a_j z)<|R z (l1 a_o z fid<|h6.at z)<|R z (lnR X_ z<|p1_0.e h2)<|R z (sb_ z z) ?_
  obtain ⟨rh, ei, hmb⟩ := bdS hug
  refine E z (fc call97 z<|a_I (B := B) ei (zt' hBw h2.s) p2_0 (ii z)<|iS _ _) ?_
  rintro _ w15 ⟨s4, rfl⟩
  refine R z (not_ z)<|Rm z ?_
  rcases bs (!rh) with hc1 | hc1
  ·iterate 7 refine Nh z hc1 ?_
   exact R z (pT z hc1 z)<|Rm z<|Nh z z<|Nh z z<|Nh z z<|Nh z z<|Nh z z<|Nh z z<|Nh z z<|Nh z z<|R z (pT z z z)<|Wl (fun _ q => ⟨true, som<|ifT hmb hc1, (q.k<|s3 z z z), s4⟩)
  refine Rh z hc1 (fd a_j z) ?_
  have hc := h6.e s4
  refine Rh z hc1 (l1 a_o z fid<|hc.at z)<|Rh z hc1 (mv z) ?_
  obtain ⟨xj, ek, hmd⟩ := bdS (ifF hmb hc1)
  have he := p1_0.g<|(h2.ag B).e s4
  refine RXg z z hc1 z (at_ (α := e_) X_ t_ z z z he ek) ?_
  rintro _ ⟨b16, o17, cs18, rfl, hl, hn, h19⟩
  obtain ⟨a1a, n1b, c1c, a1d, n1e, c1f, a1g, n1h, c1i, a1j, n1k, c1l, rfl, h1m, h1n, h1o, h1p, h1q, h1r, h1s⟩ := b_1 hn
  refine Rh z hc1 (fd b_x z)<|Rh z hc1 (l1 g_3 z fid<|hl.at (j := 1) z)<|Rh z hc1 (nq z z)<|R z (pF z hc1 z)<|Rm z ?_
  rcases bs (xj.kind != 1) with hc0 | hc0
  ·iterate 8 refine Nh z hc0 ?_
   exact R z (pT z hc0 z)<|Wl (fun _ q => ⟨true, som<|ifT hmd hc0, (q.k<|s3 z z z), s4⟩)
  refine Rh z hc0 (fd a_j z)<|Rh z hc0 (l1 a_o z fid<|hc.at z)<|Rh z hc0 (mv z) ?_
  obtain ⟨x1t, em, hmo⟩ := bdS (ifF hmd hc0)
  refine RXg z z hc0 z (at_ (α := e_) X_ t_ z z z he em) ?_
  rintro _ ⟨b1u, o1v, cs1w, rfl, hp, hq, h1x⟩
  obtain ⟨a1y, n1z, c20, a21, n22, c23, a24, n25, c26, a27, n28, c29, rfl, h2a, h2b, ht, h2c, h2d, h2e, h2f⟩ := b_1 hq
  refine Rh z hc0 (fd a_D z)<|Rh z hc0 (l1 g_3 z fid<|hp.at (j := 2) z) ?_
  obtain ⟨rr, es, hmu⟩ := bdS hmo
  refine Eg z z hc0 z (fc call97 z<|a_I (B := B) es (zt' hBw<|lt_ h2.s s4.s) ht (ii z)<|ii z) ?_
  rintro _ w2g ⟨sv, rfl⟩
  exact Rh z hc0 (not_ z)<|R z (pF z hc0 z)<|Wl (fun _ q => ⟨!rr, som hmu, (q.k<|s3 z z z), (bup s4 sv)⟩)
 rintro aw w2h ⟨x7, rfl, hS2i, s5⟩
 revert aw
 refine Wo<|Wc z (fun hc8 => ?_) (fun hc8 => ?_)
 ·refine Ws<|Ra z<|Wn ?_
  obtain rfl := som (ifT hma hc8)
  exact Wr<|d_ hr z ⟨(bup h2 s5), z, (ii z)⟩
 refine Wk<|Ws<|R z (fd a_j z)<|R z (l1 a_o z fid<|(h6.e s5).at z)<|Rm z ?_
 obtain ⟨x2j, ex, hmy⟩ := bdS (ifF hma hc8)
 refine RX z (at_ (α := e_) X_ t_ z z z (p1_0.g<|(h2.ag B).e s5) ex) ?_
 rintro _ ⟨b2k, o2l, cs2m, rfl, hz, h10, h2n⟩
 obtain ⟨a2o, n2p, c2q, a2r, n2s, c2t, a2u, n2v, c2w, a2x, n2y, c2z, rfl, h30, h31, h11, h32, h33, h34, h35⟩ := b_1 h10
 refine R z (fd a_D z)<|R z (l1 g_3 z fid<|hz.at (j := 2) z) ?_
 obtain ⟨r36, e12, hm13⟩ := bdS hmy
 refine E z (fc call109 z<|W_w0s (B := B) e12 (zt' hBw<|lt_ h2.s s5.s) h11) ?_
 rintro _ w37 ⟨s14, rfl, h38⟩
 refine R z (sb_ z z)<|Ra z<|Wn ?_
 obtain rfl := som hm13
 exact Wr<|d_ hr z ⟨(bup (bup h2 s5) s14), z, (iS _ _)⟩
theorem W_w2g {x1 : List Str} {x2 : Str} {res : Bool} (hm : f_P x1 x2 = some res) (hBw : B ≤ w0.z) (p1_0 : a_ w0 B (sl A0 N0 C0) x1) (p2_0 : x2.b.length ≤ LEN) : j_ prog 200 [sl A0 N0 C0, Str.v x2] w0 (Q11 w0 B res) := by
 unfold f_P at hm
 refine goF func200 z z (lb z) fun fn hr => Ws<|Ra z<|Wn<|Wq<|Ws<|Ra z<|Wn ?_
 obtain ⟨uk, hu8, hm2⟩ := bdS hm
 refine Wf (σ := Unit) (ρ := Bool) (fun (k3 : Nat) (_ : Unit) a w => Sat 18 [(0, sl A0 N0 C0), (1, Str.v x2), (5, (vI ((k3 : Nat) : Int)))] a ∧ Below w0.z w0 w) (fun (_ : Unit) a w => Sat 18 [] a ∧ Below w0.z w0 w) (fun r ex a w => ex = .ret ∧ v_ prog fn (Q11 w0 B r) a w) hu8 ?_ ?_ ?_ ?_ ?_
 ·exact fun _ q => ⟨(q.k<|s3 z z z), (br w0)⟩
 ·rintro k3 _ al wm on hk4 ⟨hS9, s0⟩ hma
  refine Wu ?_ hS9
  refine Wq<|Ws<|Rm z<|Rm z ?_
  have h5 := p1_0.e s0
  refine R z (lnR a_1 z h5)<|R z (lss z z)<|Wn<|Wc z (fun _ => ?_) (fun hc => (R_ hk4 hc).elim)
  refine Wk<|Wq<|Wb<|Ws<|Rm z<|Rm z ?_
  obtain ⟨xo, eb, hm6⟩ := bdS hma
  refine RX z (at_ (α := Str) a_1 z_9 z z z h5 eb) ?_
  rintro _ ⟨bp, oq, csr, rfl, hd, he, ht⟩
  obtain ⟨rfl, hu⟩ := b_J he
  refine R z (l1 g_9 z fid<|hd.at0 z)<|Rm z<|R z (e_u z z)<|Wn<|Wc z (fun hc1 => ?_) (fun hc1 => ?_)
  ·exact Ws<|Ra z<|Wn<|Wr<|rtO<|qL (som<|ifT hm6 hc1).symm<|d_ hr z ⟨s0, z⟩
  exact Wk<|Wg<|Rm z<|R z (inc_ hk4 (lt_ (a_.len p1_0) H_) z z)<|Ra z<|Wl (fun _ q => ⟨(), (som<|ifF hm6 hc1).symm, ⟨(q.k<|s3 z z z), s0⟩⟩)
 ·rintro _ av ws ⟨hSc, s7⟩
  refine Wu ?_ hSc
  refine Wq<|Ws<|Rm z<|Rm z<|R z (lnR a_1 z<|p1_0.e s7)<|R z (lss z z)<|Wn<|Wc z (fun hc => (S_ hc).elim) (fun _ => ?_)
  exact We (fun a' ha' => ⟨rfl, ⟨(Sat.weaken ha' sn), s7⟩⟩)
 ·rintro _ af ww rfl ⟨hSx, sg⟩
  have hmh := elL hm2
  revert af
  refine Wo<|Ws<|Ra z<|Wn ?_
  obtain rfl := som hmh
  exact Wr<|d_ hr z ⟨sg, z⟩
 rintro ry exz a10 w11 rfl ⟨rfl, hqi⟩
 have hmj := elR hm2
 obtain rfl := som hmj
 exact ⟨hqi, z⟩
theorem W_w2h {x1 : List Str} {res : Bool} (hm : f_Q x1 = some res) (hBw : B ≤ w0.z) (p1_0 : a_ w0 B (sl A0 N0 C0) x1) : j_ prog 164 [sl A0 N0 C0] w0 (Q11 w0 B res) := by
 unfold f_Q at hm
 refine goF func164 z z (lb z) fun fn hr => Ws<|Ra z<|Wn<|Wq<|Ws<|Ra z<|Wn ?_
 obtain ⟨u1g, huj, hm8⟩ := bdS hm
 refine Wf (σ := Unit) (ρ := Bool) (fun (k1 : Nat) (_ : Unit) a w => Sat 29 [(0, sl A0 N0 C0), (3, (vI ((k1 : Nat) : Int)))] a ∧ Below w0.z w0 w) (fun (_ : Unit) a w => Sat 29 [(0, sl A0 N0 C0)] a ∧ Below w0.z w0 w) (fun r ex a w => ex = .ret ∧ v_ prog fn (Q11 w0 B r) a w) huj ?_ ?_ ?_ ?_ ?_
 ·exact fun _ q => ⟨(q.k<|s2 z z), (br w0)⟩
 ·rintro k1 _ a1h w9 o1i hka ⟨hSk, s4⟩ hml
  refine Wu ?_ hSk
  refine Wq<|Ws<|Rm z<|Rm z<|R z (lnR a_1 z<|p1_0.e s4)<|R z (lss z z)<|Wn<|Wc z (fun _ => ?_) (fun hc => (R_ hka hc).elim)
  refine Wk<|Wq<|Wb<|Wq ?_
  obtain ⟨um, hun, hmb⟩ := bdS hml
  refine Wt (fun a w => ∃ (x2 : Bool), x2 = um ∧ Sat 29 [(0, sl A0 N0 C0), (3, (vI ((k1 : Nat) : Int))), (25, vB x2)] a ∧ Below w9.z w9 w) ?_ ?_
  ·refine Wd (X := noX) 0 (.rd 0 (.rd 1 (.rd 2 (.rd 3 (.ef 4 (.rd 5 (.rd 6 (.rd 7 (.rd 8 (.rd 9 (.rd 10 (.rd 11 (.rd 12 (.rd 13 (.ef 14 (.rd 15 .done)))))))))))))))) mo (by kernel_rfl) fun w1j s5 _ => dR z z (mv z)<|dR z z (mv z) ?_
   obtain ⟨x1k, eo, hmp⟩ := bdS hun
   have hd := (s4.ag B).e s5
   refine dRX z z (at_ (α := Str) a_1 z_9 z z z (p1_0.g hd) eo) ?_
   rintro _ ⟨b1l, o1m, cs1n, rfl, hq, ht, h1o⟩
   obtain ⟨rfl, hu⟩ := b_J ht
   refine dR z z (l1 g_9 z fid<|hq.at0 z) ?_
   have he := lt_ s4.s s5.s
   obtain ⟨rr, es, hmc⟩ := bdS hmp
   refine dE z z (fc call106 z<|i_m (B := B) es (zt' hBw he) hu) (.inr fun _ _ h => A_<|h.1) ?_
   rintro _ w1p ⟨s6, rfl⟩
   refine dR z z (not_ z)<|dR z z (mv z) ?_
   rcases bs (!rr) with hc0 | hc0
   ·iterate 7 refine dRn z z z hc0 z ?_
    exact dEn z z z hc0 z<|dR z z (pT z hc0 z)<|pD (fun _ q => ⟨true, som<|ifT hmc hc0, (q.k<|s3 z z z), (bup s5 s6)⟩)
   refine dRg z z z hc0 z (mv z)<|dRg z z z hc0 z (mv z) ?_
   obtain ⟨x1q, ev, hmw⟩ := bdS (ifF hmc hc0)
   have hf := p1_0.g<|hd.e s6
   refine a_K z z z hc0 z (rX a_1 z_9 z z hf z z ev) ?_
   rintro _ ⟨a1r, n1s, c1t, rfl, hx⟩
   refine dRg z z z hc0 z (mv z)<|dRg z z z hc0 z (mv z) ?_
   obtain ⟨x1u, ey, hmz⟩ := bdS hmw
   refine a_K z z z hc0 z (at_ (α := Str) a_1 z_9 z z z hf ey) ?_
   rintro _ ⟨b1v, o1w, cs1x, rfl, h10, h11, h1y⟩
   obtain ⟨rfl, h12⟩ := b_J h11
   refine dRg z z z hc0 z (l1 g_9 z fid<|h10.at0 z) ?_
   obtain ⟨r13, e14, hm15⟩ := bdS hmz
   refine dEg z z z hc0 z (fc call200 z<|W_w2g (B := B) e14 (zt' hBw<|lt_ he s6.s) hx h12) (.inr fun _ _ h => A_<|h.1) ?_
   rintro _ w1z ⟨s16, rfl⟩
   exact dR z z (pF z hc0 z)<|pD (fun _ q => ⟨r13, som hm15, (q.k<|s3 z z z), (bup (bup s5 s6) s16)⟩)
  rintro a17 w20 ⟨x2, rfl, hS21, sg⟩
  revert a17
  refine Wo<|Wc z (fun hc3 => ?_) (fun hc3 => ?_)
  ·exact Ws<|Ra z<|Wn<|Wr<|rtO<|qL (som<|ifT hmb hc3).symm<|d_ hr z ⟨(bup s4 sg), z⟩
  exact Wk<|Wg<|Rm z<|R z (inc_ hka (lt_ (a_.len p1_0) H_) z z)<|Ra z<|Wl (fun _ q => ⟨(), (som<|ifF hmb hc3).symm, ⟨(q.k<|s2 z z), (bup s4 sg)⟩⟩)
 ·rintro _ a22 w23 ⟨hS18, sh⟩
  refine Wu ?_ hS18
  refine Wq<|Ws<|Rm z<|Rm z<|R z (lnR a_1 z<|p1_0.e sh)<|R z (lss z z)<|Wn<|Wc z (fun hc => (S_ hc).elim) (fun _ => ?_)
  exact We (fun a' ha' => ⟨rfl, ⟨(Sat.weaken ha'<|s1 z), sh⟩⟩)
 ·rintro _ a19 w24 rfl ⟨hS25, s7⟩
  have hm1a := elL hm8
  revert a19
  refine Wo<|Ws<|Rm z ?_
  have hi := p1_0.e s7
  refine R z (lnR a_1 z hi) ?_
  obtain ⟨r26, e1b, hm1c⟩ := bdS hm1a
  refine E z (fc call97 z<|a_I (B := B) e1b (zt' hBw s7.s) (b_2<|a_.len hi) (ii z)<|ii z) ?_
  rintro _ w27 ⟨s1d, rfl⟩
  refine Ra z<|Wn ?_
  obtain rfl := som hm1c
  exact Wr<|d_ hr z ⟨(bup s7 s1d), z⟩
 rintro r28 ex29 a2a w2b rfl ⟨rfl, hq1e⟩
 have hm1f := elR hm8
 obtain rfl := som hm1f
 exact ⟨hq1e, z⟩
theorem W_w2i {x1 : g_} {x2 : e_} {res : Bool} (hm : f_R x1 x2 = some res) (hBw : B ≤ w0.z) (p1_0 : a_ w0 B (sl A0 N0 C0) x1.rules) (p2_0 : x2.name.b.length ≤ LEN) (p2_1 : inI x2.kind) (p2_2 : inI x2.size) (p2_4 : a_ w0 B (sl A3 N3 C3) x2.bytes) (p2_5 : a_ w0 B (sl A4 N4 C4) x2.names) (p2_6 : a_ w0 B (sl A2 N2 C2) x2.tags) (p2_7 : a_ w0 B (sl A5 N5 C5) x2.kids) : j_ prog 165 [(.agg #[sl A0 N0 C0]), (.agg #[Str.v x2.name, vI x2.kind, vI x2.size, vB x2.little, sl A3 N3 C3, sl A4 N4 C4, sl A2 N2 C2, sl A5 N5 C5])] w0 (Q11 w0 B res) := by
 unfold f_R at hm
 refine goF func165 z z (lb z) fun fn hr => Ws<|E z (fb z) ?_
 rintro _ w9 ⟨rfl, hn⟩
 have h4 := hn.below
 have h14 : Blk w9 w0.z [sl A0 N0 C0] := hn.blk
 refine E z (fb z) ?_
 rintro _ wd ⟨rfl, ho⟩
 have h3 := ho.below
 have ha : Blk wd w9.z (vR x2 A3 N3 C3 A4 N4 C4 A2 N2 C2 A5 N5 C5) := ho.blk
 refine Ra z<|Wn<|Wq<|Wq ?_
 obtain ⟨u15, hup, hmq⟩ := bdS hm
 refine Wt (fun a w => ∃ (xg : Bool), xg = u15 ∧ Sat 59 [(2, pt w0.z), (3, pt w9.z), (20, vB xg)] a ∧ Below wd.z wd w) ?_ ?_
 ·refine Wg<|R z (fd a_8 z)<|R z (l1 G_ z fid<|ha.at z) ?_
  have ht := (h4.ag B).e h3
  refine R z (lnR B_ z<|p2_7.g ht)<|R z (fd a_O z)<|R z (l1 G_ z fid<|ha.at z) ?_
  have hh := p2_6.g ht
  refine R z (lnR B_ z hh)<|R z (add_ z z)<|R z (nq z z)<|Rm z ?_
  rcases bs ((x2.kids.length : Int) != (c_ (x2.tags.length : Int) 1)) with hc2 | hc2
  ·iterate 5 refine Nh z hc2 ?_
   exact R z (pT z hc2 z)<|Wl (fun _ q => ⟨true, som<|ifT hup hc2, (q.k<|s3 z z z), (br wd)⟩)
  refine Rh z hc2 (fd a_O z)<|Rh z hc2 (l1 G_ z fid<|ha.at z)<|Rh z hc2 (lnR B_ z hh) ?_
  obtain ⟨r16, e17, hm18⟩ := bdS (ifF hup hc2)
  refine Eg z z hc2 z (fc call97 z<|a_I (B := B) e17 (zt' hBw<|lt_ h4.s h3.s) (b_2<|a_.len hh) (ii z)<|ii z) ?_
  rintro _ w2c ⟨s19, rfl⟩
  exact Rh z hc2 (not_ z)<|R z (pF z hc2 z)<|Wl (fun _ q => ⟨!r16, som hm18, (q.k<|s3 z z z), s19⟩)
 rintro a1a wb ⟨xg, rfl, hS2d, s5⟩
 revert a1a
 refine Wo<|Wc z (fun hci => ?_) (fun hci => ?_)
 ·refine Ws<|Ra z<|Wn ?_
  obtain rfl := som (ifT hmq hci)
  exact Wr<|d_ hr z ⟨(bup (bup h4 h3) s5), z⟩
 refine Wk<|Wq<|Ws<|Ra z<|Wn ?_
 obtain ⟨u2e, hu1b, hmr⟩ := bdS (ifF hmq hci)
 refine Wf (σ := Unit) (ρ := Bool) (fun (ke : Nat) (_ : Unit) a w => Sat 59 [(2, pt w0.z), (3, pt w9.z), (5, (vI ((ke : Nat) : Int)))] a ∧ Below wb.z wb w) (fun (_ : Unit) a w => Sat 59 [] a ∧ Below wb.z wb w) (fun r ex a w => ex = .ret ∧ v_ prog fn (Q11 w0 B r) a w) hu1b ?_ ?_ ?_ ?_ ?_
 ·exact fun _ q => ⟨(q.k<|s3 z z z), (br wb)⟩
 ·rintro ke _ a2f ws o2g hku ⟨hS1c, s7⟩ hm1d
  refine Wu ?_ hS1c
  refine Wq<|Ws<|Rm z<|R z (fd a_O z) ?_
  have hv := (ha.e s5).e s7
  refine R z (l1 G_ z fid<|hv.at z) ?_
  have hw := (((h4.ag B).e h3).e s5).e s7
  refine R z (lnR B_ z<|p2_6.g hw)<|R z (lss z z)<|Wn<|Wc z (fun _ => ?_) (fun hc => (R_ hku hc).elim)
  refine Wk<|Wq<|Wb<|Wq ?_
  obtain ⟨u1e, hu1f, hmx⟩ := bdS hm1d
  refine Wt (fun a w => ∃ (xj : Bool), xj = u1e ∧ Sat 59 [(2, pt w0.z), (3, pt w9.z), (5, (vI ((ke : Nat) : Int))), (58, vB xj)] a ∧ Below ws.z ws w) ?_ ?_
  ·refine Wd (X := noX) 0 (.rd 0 (.rd 1 (.rd 2 (.rd 3 (.rd 4 (.rd 5 (.rd 6 (.rd 7 (.rd 8 (.rd 9 (.ef 10 (.ef 11 (.rd 12 (.rd 13 (.rd 14 (.rd 15 (.rd 16 (.rd 17 (.rd 18 (.rd 19 (.rd 20 (.rd 21 (.rd 22 (.rd 23 (.rd 24 (.rd 25 (.rd 26 (.rd 27 (.rd 28 (.rd 29 (.rd 30 .done))))))))))))))))))))))))))))))) mo (by kernel_rfl) fun w2h s6 _ => dR z z (fd a_O z) ?_
   have hk := hv.e s6
   refine dR z z (l1 G_ z fid<|hk.at z)<|dR z z (mv z) ?_
   obtain ⟨x2i, e1g, hm1h⟩ := bdS hu1f
   have hf := hw.e s6
   refine dRX z z (at_ (α := Int) B_ z_3 z z z (p2_6.g hf) e1g) ?_
   rintro _ ⟨b2j, o2k, cs2l, rfl, h1i, h1j, h2m⟩
   obtain ⟨rfl, h1k⟩ := a_7 h1j
   refine dR z z (l1 g_3 z fid<|h1i.at0 z)<|dR z z (lN (vs := [sl A0 N0 C0]) P_ F_ z z fid<|((((h14.e h3).e s5).e s7).e s6).row 0 1 z)<|dR z z (fd a_8 z)<|dR z z (l1 G_ z fid<|hk.at z) ?_
   obtain ⟨x2n, e1l, hm1m⟩ := bdS hm1h
   refine dRX z z (at_ (α := Int) B_ z_3 z z z (p2_7.g hf) e1l) ?_
   rintro _ ⟨b2o, o2p, cs2q, rfl, h1n, h1o, h2r⟩
   obtain ⟨rfl, h1p⟩ := a_7 h1o
   refine dR z z (l1 g_3 z fid<|h1n.at0 z) ?_
   have hy := lt_ (lt_ (lt_ (lt_ h4.s h3.s) s5.s) s7.s) s6.s
   obtain ⟨r2s, e1q, hm1r⟩ := bdS hm1m
   refine dE z z (fc call163 z<|i_n (B := B) e1q (zt' hBw hy) (p1_0.g hf) h1p) (.inr fun _ _ h => A_<|h.1) ?_
   rintro _ w2t ⟨s8, rfl, h1s⟩
   obtain ⟨r1t, e1u, hmz⟩ := bdS hm1r
   refine dE z z (fc call97 z<|a_I (B := B) e1u (zt' hBw<|lt_ hy s8.s) h1k (ii z) h1s) (.inr fun _ _ h => A_<|h.1) ?_
   rintro _ w2u ⟨sc, rfl⟩
   refine dR z z (not_ z)<|dR z z (mv z) ?_
   rcases bs (!r1t) with hc1 | hc1
   ·iterate 3 refine dRn z z z hc1 z ?_
    iterate 12 refine dRu z z z z ?_
    exact dRn z z z hc1 z<|dR z z (pT z hc1 z)<|pD (fun _ q => ⟨true, som<|ifT hmz hc1, (q.k<|s4 z z z z), (bup (bup s6 s8) sc)⟩)
   have hm10 := ifF hmz hc1
   refine dRg z z z hc1 z (mv z)<|dRg z z z hc1 z (a_c z z)<|dRg z z z hc1 z (mv z) ?_
   rcases bs (decide (0 < ((ke : Nat) : Int))) with hc0 | hc0
   ·refine dRg z z z hc0 z (fd a_O z) ?_
    have h11 := (hk.e s8).e sc
    refine dRg z z z hc0 z (l1 G_ z fid<|h11.at z)<|dRg z z z hc0 z (mv z)<|dRg z z z hc0 z (sb_ z z) ?_
    obtain ⟨x1v, e1w, hm1x⟩ := bdS (ifT hm10 hc0)
    have h12 := p2_6.g<|(hf.e s8).e sc
    refine a_K z z z hc0 z (at_ (α := Int) B_ z_3 z z z h12 e1w) ?_
    rintro _ ⟨b2v, o2w, cs2x, rfl, h1y, h1z, h2y⟩
    obtain ⟨rfl, h2z⟩ := a_7 h1z
    refine dRg z z z hc0 z (l1 g_3 z fid<|h1y.at0 z)<|dRg z z z hc0 z (fd a_O z)<|dRg z z z hc0 z (l1 G_ z fid<|h11.at z)<|dRg z z z hc0 z (mv z) ?_
    obtain ⟨x20, e21, hm22⟩ := bdS hm1x
    refine a_K z z z hc0 z (at_ (α := Int) B_ z_3 z z z h12 e21) ?_
    rintro _ ⟨b30, o31, cs32, rfl, h23, h24, h33⟩
    obtain ⟨rfl, h34⟩ := a_7 h24
    exact dRg z z z hc0 z (l1 g_3 z fid<|h23.at0 z)<|dRg z z z hc0 z (a_M z z)<|dRg z z z hc1 z (pT z hc0 z)<|dR z z (pF z hc1 z)<|pD (fun _ q => ⟨decide (x20 ≤ x1v), som hm22, (q.k<|s4 z z z z), (bup (bup s6 s8) sc)⟩)
   iterate 12 refine dRn z z z hc0 z ?_
   exact dRg z z z hc1 z (pF z hc0 z)<|dR z z (pF z hc1 z)<|pD (fun _ q => ⟨false, som<|ifF hm10 hc0, (q.k<|s4 z z z z), (bup (bup s6 s8) sc)⟩)
  rintro a25 w35 ⟨xj, rfl, hS36, s13⟩
  revert a25
  refine Wo<|Wc z (fun hcl => ?_) (fun hcl => ?_)
  ·exact Ws<|Ra z<|Wn<|Wr<|rtO<|qL (som<|ifT hmx hcl).symm<|d_ hr z ⟨(bup (bup (bup (bup h4 h3) s5) s7) s13), z⟩
  exact Wk<|Wg<|Rm z<|R z (inc_ hku (lt_ (a_.len p2_6) H_) z z)<|Ra z<|Wl (fun _ q => ⟨(), (som<|ifF hmx hcl).symm, ⟨(q.k<|s3 z z z), (bup s7 s13)⟩⟩)
 ·rintro _ a37 w38 ⟨hS26, sm⟩
  refine Wu ?_ hS26
  refine Wq<|Ws<|Rm z<|R z (fd a_O z)<|R z (l1 G_ z fid<|((ha.e s5).e sm).at z)<|R z (lnR B_ z<|p2_6.g<|(((h4.ag B).e h3).e s5).e sm)<|R z (lss z z)<|Wn<|Wc z (fun hc => (S_ hc).elim) (fun _ => ?_)
  exact We (fun a' ha' => ⟨rfl, ⟨(Sat.weaken ha' sn), sm⟩⟩)
 ·rintro _ a27 w39 rfl ⟨hS3a, s28⟩
  have hm29 := elL hmr
  revert a27
  refine Wo<|Ws<|Ra z<|Wn ?_
  obtain rfl := som hm29
  exact Wr<|d_ hr z ⟨(bup (bup (bup h4 h3) s5) s28), z⟩
 rintro r3b ex3c a3d w3e rfl ⟨rfl, hq2a⟩
 have hm2b := elR hmr
 obtain rfl := som hm2b
 exact ⟨hq2a, z⟩
theorem W_w2j {x1 : g_} {x2 : e_} {res : Bool} (hm : f_S x1 x2 = some res) (hBw : B ≤ w0.z) (p1_0 : a_ w0 B (sl A0 N0 C0) x1.rules) (p2_0 : x2.name.b.length ≤ LEN) (p2_1 : inI x2.kind) (p2_2 : inI x2.size) (p2_4 : a_ w0 B (sl A3 N3 C3) x2.bytes) (p2_5 : a_ w0 B (sl A4 N4 C4) x2.names) (p2_6 : a_ w0 B (sl A2 N2 C2) x2.tags) (p2_7 : a_ w0 B (sl A5 N5 C5) x2.kids) : j_ prog 145 [(.agg #[sl A0 N0 C0]), (.agg #[Str.v x2.name, vI x2.kind, vI x2.size, vB x2.little, sl A3 N3 C3, sl A4 N4 C4, sl A2 N2 C2, sl A5 N5 C5])] w0 (Q11 w0 B res) := by
 unfold f_S at hm
 refine goF func145 z z (lb z) fun fn hr => Ws<|E z (fb z) ?_
 rintro _ w11 ⟨rfl, h1n⟩
 have h1 := h1n.below
 have h12 : Blk w11 w0.z [sl A0 N0 C0] := h1n.blk
 refine E z (fb z) ?_
 rintro _ w2 ⟨rfl, h1o⟩
 have h0 := h1o.below
 have h3 : Blk w2 w11.z (vR x2 A3 N3 C3 A4 N4 C4 A2 N2 C2 A5 N5 C5) := h1o.blk
 refine Ra z<|Wn<|Wq<|Ws<|R z (fd b_x z)<|R z (l1 g_3 z fid<|h3.at z)<|Wn<|Wb<|Ws<|R z (eql z z)<|Ra z<|Wn<|Wc z (fun hc13 => ?_) (fun hc13 => ?_)
 ·refine Wq ?_
  obtain ⟨u2r, hu2s, hm2t⟩ := bdS (ifT hm hc13)
  refine Wt (fun a w => ∃ (x14 : Bool), x14 = u2r ∧ Sat 114 [(4, vB x14)] a ∧ Below w2.z w2 w) ?_ ?_
  ·refine Wg<|R z (lN (vs := (vR x2 A3 N3 C3 A4 N4 C4 A2 N2 C2 A5 N5 C5)) N_ t_ z z fid<|h3.row 0 8 z) ?_
   have hw := (h1.ag B).e h0
   have h1p := lt_ h1.s h0.s
   obtain ⟨r2u, e2v, hm1q⟩ := bdS hu2s
   refine E z (fc call162 z<|c_V (B := B) e2v (zt' hBw h1p) p2_0 p2_1 p2_2 (p2_4.g hw) (p2_5.g hw) (p2_6.g hw) (p2_7.g hw)<|ii z) ?_
   rintro _ w5l ⟨sg, rfl⟩
   refine Rm z ?_
   rcases bs r2u with hca | hca
   ·refine Rh z hca (fd a_D z) ?_
    have h1r := h3.e sg
    refine Rh z hca (l1 g_3 z fid<|h1r.at z) ?_
    obtain ⟨r2w, e2x, hm1s⟩ := bdS (ifT hm1q hca)
    refine Eg z z hca z (fc call97 z<|a_I (B := B) e2x (zt' hBw<|lt_ h1p sg.s) p2_2 (ii z)<|ii z) ?_
    rintro _ w5m ⟨sx, rfl⟩
    refine R z (pT z hca z)<|Rm z ?_
    rcases bs r2w with hc6 | hc6
    ·have hm1t := ifT hm1s hc6
     refine Rh z hc6 (fd c_t z) ?_
     have h1u := h1r.e sx
     refine Rh z hc6 (l1 g_4 z fid<|h1u.at z)<|Rh z hc6 (not_ z)<|Rh z hc6 (mv z) ?_
     rcases bs (!x2.little) with hcb | hcb
     ·iterate 3 refine Nh z hcb ?_
      exact Rh z hc6 (pT z hcb z)<|R z (pT z hc6 z)<|Ra z<|Wl (fun _ q => ⟨true, som<|ifT hm1t hcb, (q.k<|s1 z), (bup sg sx)⟩)
     exact Rh z hcb (fd a_D z)<|Rh z hcb (l1 g_3 z fid<|h1u.at z)<|Rh z hcb (a_c z z)<|Rh z hc6 (pF z hcb z)<|R z (pT z hc6 z)<|Ra z<|Wl (fun _ q => ⟨decide (1 < x2.size), som<|ifF hm1t hcb, (q.k<|s1 z), (bup sg sx)⟩)
    iterate 4 refine Nh z hc6 ?_
    exact Nv z<|Nv z<|Nv z<|Nh z hc6<|R z (pF z hc6 z)<|Ra z<|Wl (fun _ q => ⟨false, som<|ifF hm1s hc6, (q.k<|s1 z), (bup sg sx)⟩)
   iterate 3 refine Nh z hca ?_
   exact R z (pF z hca z)<|Rm z<|Nh z z<|Nh z z<|Nh z z<|Nh z z<|Nv z<|Nv z<|Nv z<|Nh z z<|R z (pF z z z)<|Ra z<|Wl (fun _ q => ⟨false, som<|ifF hm1q hca, (q.k<|s1 z), sg⟩)
  rintro a2y w5n ⟨x14, rfl, hS5o, s2z⟩
  revert a2y
  refine Wo ?_
  obtain rfl := som hm2t
  exact Wr<|rtO<|d_ hr z ⟨(bup (bup h1 h0) s2z), z⟩
 have hm1v := ifF hm hc13
 refine Ws<|R z (eql z z)<|Ra z<|Wn<|Wc z (fun hc15 => ?_) (fun hc15 => ?_)
 ·refine Wq ?_
  obtain ⟨u30, hu31, hm32⟩ := bdS (ifT hm1v hc15)
  refine Wt (fun a w => ∃ (x16 : Bool), x16 = u30 ∧ Sat 114 [(4, vB x16)] a ∧ Below w2.z w2 w) ?_ ?_
  ·refine Wg<|R z (lN (vs := (vR x2 A3 N3 C3 A4 N4 C4 A2 N2 C2 A5 N5 C5)) N_ t_ z z fid<|h3.row 0 8 z) ?_
   have hl := (h1.ag B).e h0
   have h1w := lt_ h1.s h0.s
   obtain ⟨r33, e34, hm1x⟩ := bdS hu31
   refine E z (fc call162 z<|c_V (B := B) e34 (zt' hBw h1w) p2_0 p2_1 p2_2 (p2_4.g hl) (p2_5.g hl) (p2_6.g hl) (p2_7.g hl)<|ii z) ?_
   rintro _ w5p ⟨sn, rfl⟩
   refine Rm z ?_
   rcases bs r33 with hc8 | hc8
   ·refine Rh z hc8 (fd a_R z)<|Rh z hc8 (l1 J_ z fid<|(h3.e sn).at z) ?_
    have h1y := p2_4.g<|hl.e sn
    refine Rh z hc8 (lnR h_ z h1y) ?_
    obtain ⟨r35, e36, hm37⟩ := bdS (ifT hm1x hc8)
    refine Eg z z hc8 z (fc call97 z<|a_I (B := B) e36 (zt' hBw<|lt_ h1w sn.s) (b_2<|a_.len h1y) (ii z)<|ii z) ?_
    rintro _ w5q ⟨s38, rfl⟩
    exact R z (pT z hc8 z)<|Ra z<|Wl (fun _ q => ⟨r35, som hm37, (q.k<|s1 z), (bup sn s38)⟩)
   iterate 4 refine Nh z hc8 ?_
   exact R z (pF z hc8 z)<|Ra z<|Wl (fun _ q => ⟨false, som<|ifF hm1x hc8, (q.k<|s1 z), sn⟩)
  rintro a39 w5r ⟨x16, rfl, hS5s, s3a⟩
  revert a39
  refine Wo ?_
  obtain rfl := som hm32
  exact Wr<|rtO<|d_ hr z ⟨(bup (bup h1 h0) s3a), z⟩
 have hm1z := ifF hm1v hc15
 refine Ws<|R z (eql z z)<|Ra z<|Wn<|Wc z (fun hc17 => ?_) (fun hc17 => ?_)
 ·refine Wq ?_
  obtain ⟨u3b, hu3c, hm3d⟩ := bdS (ifT hm1z hc17)
  refine Wt (fun a w => ∃ (x18 : Bool), x18 = u3b ∧ Sat 114 [(4, vB x18)] a ∧ Below w2.z w2 w) ?_ ?_
  ·refine Wg<|R z (lN (vs := (vR x2 A3 N3 C3 A4 N4 C4 A2 N2 C2 A5 N5 C5)) N_ t_ z z fid<|h3.row 0 8 z) ?_
   have hy := (h1.ag B).e h0
   have h20 := lt_ h1.s h0.s
   obtain ⟨r3e, e3f, hm21⟩ := bdS hu3c
   refine E z (fc call162 z<|c_V (B := B) e3f (zt' hBw h20) p2_0 p2_1 p2_2 (p2_4.g hy) (p2_5.g hy) (p2_6.g hy) (p2_7.g hy)<|ii z) ?_
   rintro _ w5t ⟨sz, rfl⟩
   refine Rm z ?_
   rcases bs r3e with hcc | hcc
   ·refine Rh z hcc (fd a_D z)<|Rh z hcc (l1 g_3 z fid<|(h3.e sz).at z) ?_
    obtain ⟨r3g, e3h, hm3i⟩ := bdS (ifT hm21 hcc)
    refine Eg z z hcc z (fc call97 z<|a_I (B := B) e3h (zt' hBw<|lt_ h20 sz.s) p2_2 (ii z)<|ii z) ?_
    rintro _ w5u ⟨s3j, rfl⟩
    exact R z (pT z hcc z)<|Ra z<|Wl (fun _ q => ⟨r3g, som hm3i, (q.k<|s1 z), (bup sz s3j)⟩)
   iterate 3 refine Nh z hcc ?_
   exact R z (pF z hcc z)<|Ra z<|Wl (fun _ q => ⟨false, som<|ifF hm21 hcc, (q.k<|s1 z), sz⟩)
  rintro a3k w5v ⟨x18, rfl, hS5w, s3l⟩
  revert a3k
  refine Wo ?_
  obtain rfl := som hm3d
  exact Wr<|rtO<|d_ hr z ⟨(bup (bup h1 h0) s3l), z⟩
 have hm22 := ifF hm1z hc17
 refine Ws<|R z (eql z z)<|Ra z<|Wn<|Wc z (fun hc19 => ?_) (fun hc19 => ?_)
 ·refine Wq ?_
  obtain ⟨u3m, hu3n, hm3o⟩ := bdS (ifT hm22 hc19)
  refine Wt (fun a w => ∃ (x1a : Bool), x1a = u3m ∧ Sat 114 [(4, vB x1a)] a ∧ Below w2.z w2 w) ?_ ?_
  ·refine Wd (X := noX) 0 (.rd 0 (.ef 1 (.rd 2 (.rd 3 (.rd 4 (.rd 5 (.rd 6 (.rd 7 (.ef 8 (.rd 9 (.rd 10 (.rd 11 .done)))))))))))) mo (by kernel_rfl) fun w5x sh _ => ?_
   have h23 := h3.e sh
   refine dR z z (lN (vs := (vR x2 A3 N3 C3 A4 N4 C4 A2 N2 C2 A5 N5 C5)) N_ t_ z z fid<|h23.row 0 8 z) ?_
   have ho := ((h1.ag B).e h0).e sh
   have h24 := lt_ (lt_ h1.s h0.s) sh.s
   obtain ⟨r3p, e3q, hm25⟩ := bdS hu3n
   refine dE z z (fc call162 z<|c_V (B := B) e3q (zt' hBw h24) p2_0 p2_1 p2_2 (p2_4.g ho) (p2_5.g ho) (p2_6.g ho) (p2_7.g ho)<|ii z) (.inr fun _ _ h => A_<|h.1) ?_
   rintro _ w5y ⟨si, rfl⟩
   refine dR z z (mv z) ?_
   rcases bs r3p with hc4 | hc4
   ·refine dRg z z z hc4 z (lN (vs := [sl A0 N0 C0]) P_ F_ z z fid<|(((h12.e h0).e sh).e si).row 0 1 z)<|dRg z z z hc4 z (fd a_8 z)<|dRg z z z hc4 z (l1 G_ z fid<|(h23.e si).at z) ?_
    obtain ⟨x5z, e3r, hm3s⟩ := bdS (ifT hm25 hc4)
    have h26 := ho.e si
    refine a_K z z z hc4 z (at_ (α := Int) B_ z_3 z z z (p2_7.g h26) e3r) ?_
    rintro _ ⟨b60, o61, cs62, rfl, h3t, h3u, h63⟩
    obtain ⟨rfl, h3v⟩ := a_7 h3u
    refine dRg z z z hc4 z (l1 g_3 z fid<|h3t.at0 z) ?_
    obtain ⟨r3w, e3x, hm3y⟩ := bdS hm3s
    refine dEg z z z hc4 z (fc call163 z<|i_n (B := B) e3x (zt' hBw<|lt_ h24 si.s) (p1_0.g h26) h3v) (.inr fun _ _ h => A_<|h.1) ?_
    rintro _ w64 ⟨s3z, rfl, h65⟩
    exact dRg z z z hc4 z (a_c z z)<|dR z z (pT z hc4 z)<|dR z z (asg z)<|pD (fun _ q => ⟨decide (0 < r3w), som hm3y, (q.k<|s1 z), (bup (bup sh si) s3z)⟩)
   iterate 5 refine dRn z z z hc4 z ?_
   exact dEn z z z hc4 z<|dRn z z z hc4 z<|dR z z (pF z hc4 z)<|dR z z (asg z)<|pD (fun _ q => ⟨false, som<|ifF hm25 hc4, (q.k<|s1 z), (bup sh si)⟩)
  rintro a40 w66 ⟨x1a, rfl, hS67, s41⟩
  revert a40
  refine Wo ?_
  obtain rfl := som hm3o
  exact Wr<|rtO<|d_ hr z ⟨(bup (bup h1 h0) s41), z⟩
 have hm27 := ifF hm22 hc19
 refine Ws<|R z (eql z z)<|Ra z<|Wn<|Wc z (fun hc1b => ?_) (fun hc1b => ?_)
 ·refine Wq ?_
  obtain ⟨u42, hu43, hm44⟩ := bdS (ifT hm27 hc1b)
  refine Wt (fun a w => ∃ (x1c : Bool), x1c = u42 ∧ Sat 114 [(4, vB x1c)] a ∧ Below w2.z w2 w) ?_ ?_
  ·refine Wd (X := noX) 0 (.rd 0 (.ef 1 (.rd 2 (.rd 3 (.rd 4 (.rd 5 (.rd 6 (.rd 7 (.ef 8 (.rd 9 (.rd 10 (.rd 11 .done)))))))))))) mo (by kernel_rfl) fun w68 sj _ => ?_
   have h28 := h3.e sj
   refine dR z z (lN (vs := (vR x2 A3 N3 C3 A4 N4 C4 A2 N2 C2 A5 N5 C5)) N_ t_ z z fid<|h28.row 0 8 z) ?_
   have hp := ((h1.ag B).e h0).e sj
   have h29 := lt_ (lt_ h1.s h0.s) sj.s
   obtain ⟨r45, e46, hm2a⟩ := bdS hu43
   refine dE z z (fc call162 z<|c_V (B := B) e46 (zt' hBw h29) p2_0 p2_1 p2_2 (p2_4.g hp) (p2_5.g hp) (p2_6.g hp) (p2_7.g hp)<|ii z) (.inr fun _ _ h => A_<|h.1) ?_
   rintro _ w69 ⟨sk, rfl⟩
   refine dR z z (mv z) ?_
   rcases bs r45 with hc5 | hc5
   ·refine dRg z z z hc5 z (lN (vs := [sl A0 N0 C0]) P_ F_ z z fid<|(((h12.e h0).e sj).e sk).row 0 1 z)<|dRg z z z hc5 z (fd a_8 z)<|dRg z z z hc5 z (l1 G_ z fid<|(h28.e sk).at z) ?_
    obtain ⟨x6a, e47, hm48⟩ := bdS (ifT hm2a hc5)
    have h2b := hp.e sk
    refine a_K z z z hc5 z (at_ (α := Int) B_ z_3 z z z (p2_7.g h2b) e47) ?_
    rintro _ ⟨b6b, o6c, cs6d, rfl, h49, h4a, h6e⟩
    obtain ⟨rfl, h4b⟩ := a_7 h4a
    refine dRg z z z hc5 z (l1 g_3 z fid<|h49.at0 z) ?_
    obtain ⟨r4c, e4d, hm4e⟩ := bdS hm48
    refine dEg z z z hc5 z (fc call163 z<|i_n (B := B) e4d (zt' hBw<|lt_ h29 sk.s) (p1_0.g h2b) h4b) (.inr fun _ _ h => A_<|h.1) ?_
    rintro _ w6f ⟨s4f, rfl, h6g⟩
    exact dRg z z z hc5 z (a_c z z)<|dR z z (pT z hc5 z)<|dR z z (asg z)<|pD (fun _ q => ⟨decide (0 < r4c), som hm4e, (q.k<|s1 z), (bup (bup sj sk) s4f)⟩)
   iterate 5 refine dRn z z z hc5 z ?_
   exact dEn z z z hc5 z<|dRn z z z hc5 z<|dR z z (pF z hc5 z)<|dR z z (asg z)<|pD (fun _ q => ⟨false, som<|ifF hm2a hc5, (q.k<|s1 z), (bup sj sk)⟩)
  rintro a4g w6h ⟨x1c, rfl, hS6i, s4h⟩
  revert a4g
  refine Wo ?_
  obtain rfl := som hm44
  exact Wr<|rtO<|d_ hr z ⟨(bup (bup h1 h0) s4h), z⟩
 have hm2c := ifF hm27 hc1b
 refine Ws<|R z (eql z z)<|Ra z<|Wn<|Wc z (fun hc1d => ?_) (fun hc1d => ?_)
 ·refine Wq ?_
  obtain ⟨u4i, hu4j, hm4k⟩ := bdS (ifT hm2c hc1d)
  refine Wt (fun a w => ∃ (x1e : Bool), x1e = u4i ∧ Sat 114 [(4, vB x1e)] a ∧ Below w2.z w2 w) ?_ ?_
  ·refine Wg<|R z (lN (vs := (vR x2 A3 N3 C3 A4 N4 C4 A2 N2 C2 A5 N5 C5)) N_ t_ z z fid<|h3.row 0 8 z)<|R z (fd c_4 z)<|R z (l1 b_M z fid<|h3.at z) ?_
   have hq := (h1.ag B).e h0
   have h1f := p2_5.g hq
   refine R z (lnR a_1 z h1f) ?_
   have h2d := lt_ h1.s h0.s
   obtain ⟨r4l, e4m, hm2e⟩ := bdS hu4j
   refine E z (fc call162 z<|c_V (B := B) e4m (zt' hBw h2d) p2_0 p2_1 p2_2 (p2_4.g hq) h1f (p2_6.g hq) (p2_7.g hq)<|b_2<|a_.len h1f) ?_
   rintro _ w6j ⟨sr, rfl⟩
   refine Rm z ?_
   rcases bs r4l with hcd | hcd
   ·refine Rh z hcd (fd c_4 z)<|Rh z hcd (l1 b_M z fid<|(h3.e sr).at z) ?_
    obtain ⟨r4n, e4o, hm4p⟩ := bdS (ifT hm2e hcd)
    refine Eg z z hcd z (fc call164 z<|W_w2h (B := B) e4o (zt' hBw<|lt_ h2d sr.s)<|p2_5.g<|hq.e sr) ?_
    rintro _ w6k ⟨s4q, rfl⟩
    exact R z (pT z hcd z)<|Ra z<|Wl (fun _ q => ⟨r4n, som hm4p, (q.k<|s1 z), (bup sr s4q)⟩)
   iterate 3 refine Nh z hcd ?_
   exact R z (pF z hcd z)<|Ra z<|Wl (fun _ q => ⟨false, som<|ifF hm2e hcd, (q.k<|s1 z), sr⟩)
  rintro a4r w6l ⟨x1e, rfl, hS6m, s4s⟩
  revert a4r
  refine Wo ?_
  obtain rfl := som hm4k
  exact Wr<|rtO<|d_ hr z ⟨(bup (bup h1 h0) s4s), z⟩
 have hm2f := ifF hm2c hc1d
 refine Ws<|R z (eql z z)<|Ra z<|Wn<|Wc z (fun hc1g => ?_) (fun hc1g => ?_)
 ·refine Wq ?_
  obtain ⟨u4t, hu4u, hm4v⟩ := bdS (ifT hm2f hc1g)
  refine Wt (fun a w => ∃ (x1h : Bool), x1h = u4t ∧ Sat 114 [(4, vB x1h)] a ∧ Below w2.z w2 w) ?_ ?_
  ·refine Wg<|R z (lN (vs := (vR x2 A3 N3 C3 A4 N4 C4 A2 N2 C2 A5 N5 C5)) N_ t_ z z fid<|h3.row 0 8 z) ?_
   have ht := (h1.ag B).e h0
   have h2g := lt_ h1.s h0.s
   obtain ⟨r4w, e4x, hm2h⟩ := bdS hu4u
   refine E z (fc call162 z<|c_V (B := B) e4x (zt' hBw h2g) p2_0 p2_1 p2_2 (p2_4.g ht) (p2_5.g ht) (p2_6.g ht) (p2_7.g ht)<|ii z) ?_
   rintro _ w6n ⟨sm, rfl⟩
   refine Rm z ?_
   rcases bs r4w with hce | hce
   ·refine Rh z hce (lN (vs := [sl A0 N0 C0]) P_ F_ z z fid<|((h12.e h0).e sm).row 0 1 z)<|Rh z hce (lN (vs := (vR x2 A3 N3 C3 A4 N4 C4 A2 N2 C2 A5 N5 C5)) N_ t_ z z fid<|(h3.e sm).row 0 8 z) ?_
    have hu := ht.e sm
    obtain ⟨r4y, e4z, hm50⟩ := bdS (ifT hm2h hce)
    refine Eg z z hce z (fc call165 z<|W_w2i (B := B) e4z (zt' hBw<|lt_ h2g sm.s) (p1_0.g hu) p2_0 p2_1 p2_2 (p2_4.g hu) (p2_5.g hu) (p2_6.g hu)<|p2_7.g hu) ?_
    rintro _ w6o ⟨s51, rfl⟩
    exact R z (pT z hce z)<|Ra z<|Wl (fun _ q => ⟨r4y, som hm50, (q.k<|s1 z), (bup sm s51)⟩)
   iterate 3 refine Nh z hce ?_
   exact R z (pF z hce z)<|Ra z<|Wl (fun _ q => ⟨false, som<|ifF hm2h hce, (q.k<|s1 z), sm⟩)
  rintro a52 w6p ⟨x1h, rfl, hS6q, s53⟩
  revert a52
  refine Wo ?_
  obtain rfl := som hm4v
  exact Wr<|rtO<|d_ hr z ⟨(bup (bup h1 h0) s53), z⟩
 refine Wq<|Ws<|R z (eql z z)<|Ra z<|Wn ?_
 obtain ⟨u54, hu2i, hm2j⟩ := bdS (ifF hm2f hc1g)
 refine Wt (fun a w => ∃ (x1i : Bool), x1i = u54 ∧ Sat 114 [(3, pt w11.z), (6, vI x2.kind), (92, vB x1i)] a ∧ Below w2.z w2 w) ?_ ?_
 ·refine Wc z (fun hc1j => ?_) (fun hc1j => ?_)
  ·exact a_J (fun _ q => ⟨x2.kind == 8, som<|ifT hu2i hc1j, (q.k<|s3 z z z), (br w2)⟩)
  exact Wg<|R z (eql z z)<|Ra z<|Wl (fun _ q => ⟨x2.kind == 9, som<|ifF hu2i hc1j, (q.k<|s3 z z z), (br w2)⟩)
 rintro a55 w2k ⟨x1i, rfl, hS6r, sf⟩
 revert a55
 refine Wo<|Wc z (fun hc1k => ?_) (fun hc1k => ?_)
 ·refine Ws<|R z (lN (vs := (vR x2 A3 N3 C3 A4 N4 C4 A2 N2 C2 A5 N5 C5)) N_ t_ z z fid<|(h3.e sf).row 0 8 z) ?_
  have h10 := ((h1.ag B).e h0).e sf
  obtain ⟨r6s, e56, hm57⟩ := bdS (ifT hm2j hc1k)
  refine E z (fc call162 z<|c_V (B := B) e56 (zt' hBw<|lt_ (lt_ h1.s h0.s) sf.s) p2_0 p2_1 p2_2 (p2_4.g h10) (p2_5.g h10) (p2_6.g h10) (p2_7.g h10)<|ii z) ?_
  rintro _ w6t ⟨s58, rfl⟩
  refine Ra z<|Wn ?_
  obtain rfl := som hm57
  exact Wr<|rtO<|d_ hr z ⟨(bup (bup (bup h1 h0) sf) s58), z⟩
 have hm2l := ifF hm2j hc1k
 refine Ws<|R z (eql z z)<|Ra z<|Wn<|Wc z (fun hc1l => ?_) (fun hc1l => ?_)
 ·refine Wq ?_
  obtain ⟨u59, hu5a, hm5b⟩ := bdS (ifT hm2l hc1l)
  refine Wt (fun a w => ∃ (x1m : Bool), x1m = u59 ∧ Sat 114 [(4, vB x1m)] a ∧ Below w2k.z w2k w) ?_ ?_
  ·refine Wg ?_
   have h2m := h3.e sf
   refine R z (lN (vs := (vR x2 A3 N3 C3 A4 N4 C4 A2 N2 C2 A5 N5 C5)) N_ t_ z z fid<|h2m.row 0 8 z) ?_
   have hv := ((h1.ag B).e h0).e sf
   obtain ⟨r5c, e5d, hm2n⟩ := bdS hu5a
   refine E z (fc call162 z<|c_V (B := B) e5d (zt' hBw<|lt_ (lt_ h1.s h0.s) sf.s) p2_0 p2_1 p2_2 (p2_4.g hv) (p2_5.g hv) (p2_6.g hv) (p2_7.g hv)<|ii z) ?_
   rintro _ w6u ⟨ss, rfl⟩
   refine Rm z ?_
   rcases bs r5c with hc9 | hc9
   ·have hm2o := ifT hm2n hc9
    refine Rh z hc9 (fd a_R z) ?_
    have h2p := h2m.e ss
    refine Rh z hc9 (l1 J_ z fid<|h2p.at z) ?_
    have h2q := p2_4.g<|hv.e ss
    refine Rh z hc9 (lnR h_ z h2q)<|Rh z hc9 (eql z z)<|R z (pT z hc9 z)<|Rm z ?_
    rcases bs ((x2.bytes.length : Int) == 1) with hc7 | hc7
    ·refine Rh z hc7 (fd a_R z)<|Rh z hc7 (l1 J_ z fid<|h2p.at z) ?_
     obtain ⟨x5e, e5f, hm5g⟩ := bdS (ifT hm2o hc7)
     refine RXg z z hc7 z (at_ (α := UInt8) h_ z_5 z z z h2q e5f) ?_
     rintro _ ⟨b6v, o6w, cs6x, rfl, h5h, h5i, h6y⟩
     obtain rfl := u8 h5i
     exact Rh z hc7 (l1 g_5 z fid<|h5h.at0 z)<|Rh z hc7 (nq z z)<|R z (pT z hc7 z)<|Ra z<|Wl (fun _ q => ⟨(byteI x5e) != (byteI (92 : UInt8)), som hm5g, (q.k<|s1 z), ss⟩)
    iterate 5 refine Nh z hc7 ?_
    exact R z (pF z hc7 z)<|Ra z<|Wl (fun _ q => ⟨false, som<|ifF hm2o hc7, (q.k<|s1 z), ss⟩)
   iterate 4 refine Nh z hc9 ?_
   exact R z (pF z hc9 z)<|Rm z<|Nh z z<|Nh z z<|Nh z z<|Nh z z<|Nh z z<|R z (pF z z z)<|Ra z<|Wl (fun _ q => ⟨false, som<|ifF hm2n hc9, (q.k<|s1 z), ss⟩)
  rintro a5j w6z ⟨x1m, rfl, hS70, s5k⟩
  revert a5j
  refine Wo ?_
  obtain rfl := som hm5b
  exact Wr<|rtO<|d_ hr z ⟨(bup (bup (bup h1 h0) sf) s5k), z⟩
 refine Wk<|Ws<|Ra z<|Wn ?_
 obtain rfl := som (ifF hm2l hc1l)
 exact Wr<|d_ hr z ⟨(bup (bup h1 h0) sf), z⟩
theorem W_w2k {x1 : g_} {x2 : Int} {res : Bool} (hm : f_T x1 x2 = some res) (hBw : B ≤ w0.z) (p1_0 : a_ w0 B (sl A0 N0 C0) x1.rules) (p2_0 : inI x2) : j_ prog 124 [(.agg #[sl A0 N0 C0]), vI x2] w0 (Q11 w0 B res) := by
 unfold f_T at hm
 refine goF func124 z z (lb z) fun fn hr => Ws<|E z (fb z) ?_
 rintro _ w1p ⟨rfl, h13⟩
 have h1 := h13.below
 have he : Blk w1p w0.z [sl A0 N0 C0] := h13.blk
 refine Ra z<|Wn<|Wq<|Ws<|Rm z<|R z (fd a_j z)<|R z (l1 a_o z fid<|he.at z)<|R z (lnR X_ z<|p1_0.e h1)<|R z (sb_ z z) ?_
 obtain ⟨r37, e1q, hm14⟩ := bdS hm
 refine E z (fc call97 z<|a_I (B := B) e1q (zt' hBw h1.s) p2_0 (ii z)<|iS _ _) ?_
 rintro _ w4 ⟨s0, rfl⟩
 refine R z (not_ z)<|Wn<|Wc z (fun hci => ?_) (fun hci => ?_)
 ·refine Ws<|Ra z<|Wn ?_
  obtain rfl := som (ifT hm14 hci)
  exact Wr<|d_ hr z ⟨(bup h1 s0), z⟩
 refine Wk<|Ws<|R z (fd a_j z) ?_
 have hj := he.e s0
 refine R z (l1 a_o z fid<|hj.at z)<|Rm z ?_
 obtain ⟨xk, e1r, hm1s⟩ := bdS (ifF hm14 hci)
 have hl := (h1.ag B).e s0
 refine RX z (at_ (α := e_) X_ t_ z z z (p1_0.g hl) e1r) ?_
 rintro _ ⟨b38, o39, cs3a, rfl, h1t, h1u, h3b⟩
 obtain ⟨am, nn, co, ap, nq, cr, au, ns, ct, av, nw, cx, rfl, h15, h1v, h1w, h1x, h1y, h1z, hf⟩ := b_1 h1u
 refine R z (lN (vs := (vR xk am nn co ap nq cr au ns ct av nw cx)) N_ t_ z z fid h1t)<|E z (fa c_T) ?_
 rintro _ w20 ⟨rfl, h16⟩
 have h2 := h16.below
 have h21 : Blk w20 w4.z [(Str.v (⟨[]⟩ : Str)), vI 0, vI 0, vB false, sl none 0 0, sl none 0 0, sl none 0 0, sl none 0 0] := h16.blk
 refine E0 (fs (cur' := (vR xk am nn co ap nq cr au ns ct av nw cx)) t_ z z h21 z (lb z) (oA z) z) ?_
 rintro _ w9 ⟨hg, s22⟩
 have h3 := s22.one
 refine Wn<|Wq<|Ws<|Ra z<|Wn ?_
 obtain ⟨u3c, hu23, hm17⟩ := bdS hm1s
 refine Wf (σ := Unit) (ρ := Bool) (fun (k18 : Nat) (_ : Unit) a w => Sat 58 [(1, vI x2), (2, pt w0.z), (5, pt w4.z), (6, (vI ((k18 : Nat) : Int)))] a ∧ Below w9.z w9 w) (fun (_ : Unit) a w => Sat 58 [(1, vI x2), (2, pt w0.z), (5, pt w4.z)] a ∧ Below w9.z w9 w) (fun r ex a w => ex = .ret ∧ v_ prog fn (Q11 w0 B r) a w) hu23 ?_ ?_ ?_ ?_ ?_
 ·exact fun _ q => ⟨(q.k<|s4 z z z z), (br w9)⟩
 ·rintro k18 _ a3d w3e o3f hk19 ⟨hS24, sa⟩ hm25
  refine Wu ?_ hS24
  refine Wq<|Ws<|Rm z<|Rm z<|R z (lss z z)<|Wn<|Wc z (fun _ => ?_) (fun hc => (h_e hk19 hc).elim)
  refine Wk<|Wq<|Wb<|Wq (Wd (X := noX) 0 (.rd 0 (.rd 1 (.rd 2 (.rd 3 (.rd 4 (.rd 5 (.rd 6 (.rd 7 (.rd 8 .done))))))))) mo (by kernel_rfl) fun w3g sb _ => dR z z (fd a_j z)<|dR z z (l1 a_o z fid<|((((hj.e h2).c h3<|djs<|mm1 he.lt s0.s).e sa).e sb).at z)<|dR z z (mv z) ?_)
  obtain ⟨x3h, e26, hm1a⟩ := bdS hm25
  have h1b := lt_ h1.s s0.s
  have h27 : ∀ k ∈ [w4.z], ¬ B k := or0 (f_ lr)  (r_ (zt' hBw h1b))
  refine dRX z z (at_ (α := e_) X_ t_ z z z (p1_0.g<|(((hl.e h2).c h3<|k_ h27).e sa).e sb) e26) ?_
  rintro _ ⟨b3i, o3j, cs3k, rfl, h28, h29, h3l⟩
  obtain ⟨a3m, n3n, c3o, a3p, n3q, c3r, a3s, n3t, c3u, a3v, n3w, c3x, rfl, h3y, h3z, h40, h41, h42, h43, h44⟩ := b_1 h29
  refine dR z z (fd c_s z)<|dR z z (l1 g_9 z fid<|h28.at (j := 0) z)<|dR z z (fd c_s z)<|dR z z (l1 g_9 z fid<|((hg.e sa).e sb).at z)<|dR z z (e_u z z)<|pD<|Wo<|Wc z (fun hcy => ?_) (fun hcy => ?_)
  ·exact Ws<|Ra z<|Wn<|Wr<|rtO<|qL (som<|ifT hm1a hcy).symm<|d_ hr z ⟨(bup (bup (bM (bup (bup h1 s0) h2) h3<|m1 h1b) sa) sb), z⟩
  exact Wk<|Wg<|Rm z<|R z (inc_ hk19 (tl_ p2_0) z z)<|Ra z<|Wl (fun _ q => ⟨(), (som<|ifF hm1a hcy).symm, ⟨(q.k<|s4 z z z z), (bup sa sb)⟩⟩)
 ·rintro _ a45 w46 ⟨hS2a, s2b⟩
  refine Wu ?_ hS2a
  refine Wq<|Ws<|Rm z<|Rm z<|R z (lss z z)<|Wn<|Wc z (fun hc => (h_f hc).elim) (fun _ => ?_)
  exact We (fun a' ha' => ⟨rfl, ⟨(Sat.weaken ha'<|s3 z z z), s2b⟩⟩)
 ·rintro _ a2c wc rfl ⟨hS47, s5⟩
  have hm2d := elL hm17
  revert a2c
  refine Wo<|Wq<|Ws<|Ra z<|Wn ?_
  obtain ⟨u48, hu2e, hm1c⟩ := bdS hm2d
  refine Wf (σ := Unit) (ρ := Bool) (fun (k1d : Nat) (_ : Unit) a w => Sat 58 [(1, vI x2), (2, pt w0.z), (5, pt w4.z), (7, (vI ((k1d : Nat) : Int)))] a ∧ Below wc.z wc w) (fun (_ : Unit) a w => Sat 58 [(2, pt w0.z), (5, pt w4.z)] a ∧ Below wc.z wc w) (fun r ex a w => ex = .ret ∧ v_ prog fn (Q11 w0 B r) a w) hu2e ?_ ?_ ?_ ?_ ?_
  ·exact fun _ q => ⟨(q.k<|s4 z z z z), (br wc)⟩
  ·rintro k1d _ a49 w4a o4b hk1e ⟨hS2f, sd⟩ hm2g
   refine Wu ?_ hS2f
   refine Wq<|Ws<|Rm z<|R z (fd a_8 z) ?_
   have h1f := (hg.e s5).e sd
   refine R z (l1 G_ z fid<|h1f.at z) ?_
   have hz := lt_ h1.s s0.s
   have h2h : ∀ k ∈ [w4.z], ¬ B k := or0 (f_ lr)  (r_ (zt' hBw hz))
   have h1g := hf.g<|(((h2.ag B).c h3<|k_ h2h).e s5).e sd
   refine R z (lnR B_ z h1g)<|R z (lss z z)<|Wn<|Wc z (fun _ => ?_) (fun hc => (R_ hk1e hc).elim)
   refine Wk<|Wq<|Wb<|Ws<|R z (fd a_8 z)<|R z (l1 G_ z fid<|h1f.at z)<|Rm z ?_
   obtain ⟨x4c, e2i, hm2j⟩ := bdS hm2g
   refine RX z (at_ (α := Int) B_ z_3 z z z h1g e2i) ?_
   rintro _ ⟨b4d, o4e, cs4f, rfl, h2k, h2l, h4g⟩
   obtain ⟨rfl, h2m⟩ := a_7 h2l
   refine R z (l1 g_3 z fid<|h2k.at0 z)<|Rm z<|R z (sb_ z z) ?_
   obtain ⟨r4h, e2n, hm1h⟩ := bdS hm2j
   refine E z (fc call97 z<|a_I (B := B) e2n (zt' hBw<|lt_ (lt_ (lt_ (lt_ hz h2.s) h3.s) s5.s) sd.s) h2m (ii z)<|iS _ _) ?_
   rintro _ w4i ⟨s1i, rfl⟩
   refine R z (not_ z)<|Wn<|Wc z (fun hc10 => ?_) (fun hc10 => ?_)
   ·exact Ws<|Ra z<|Wn<|Wr<|rtO<|qL (som<|ifT hm1h hc10).symm<|d_ hr z ⟨(bup (bup (bup (bM (bup (bup h1 s0) h2) h3<|m1 hz) s5) sd) s1i), z⟩
   exact Wk<|Wg<|Rm z<|R z (inc_ hk1e (lt_ (a_.len hf) H_) z z)<|Ra z<|Wl (fun _ q => ⟨(), (som<|ifF hm1h hc10).symm, ⟨(q.k<|s4 z z z z), (bup sd s1i)⟩⟩)
  ·rintro _ a4j w4k ⟨hS2o, s11⟩
   refine Wu ?_ hS2o
   refine Wq<|Ws<|Rm z<|R z (fd a_8 z)<|R z (l1 G_ z fid<|((hg.e s5).e s11).at z) ?_
   have h2p : ∀ k ∈ [w4.z], ¬ B k := or0 (f_ lr)  (r_ (zt' hBw (lt_ h1.s s0.s)))
   refine R z (lnR B_ z<|hf.g<|(((h2.ag B).c h3<|k_ h2p).e s5).e s11)<|R z (lss z z)<|Wn<|Wc z (fun hc => (S_ hc).elim) (fun _ => ?_)
   exact We (fun a' ha' => ⟨rfl, ⟨(Sat.weaken ha'<|s2 z z), s11⟩⟩)
  ·rintro _ a2q w1j rfl ⟨hS4l, s8⟩
   have hm2r := elL hm1c
   revert a2q
   refine Wo<|Wq ?_
   obtain ⟨u2s, hu2t, hm2u⟩ := bdS hm2r
   refine Wt (fun a w => ∃ (x12 : Bool), x12 = u2s ∧ Sat 58 [(4, vB x12)] a ∧ Below w1j.z w1j w) ?_ ?_
   ·refine Wg<|R z (fd c_s z) ?_
    have h1k := (hg.e s5).e s8
    refine R z (l1 g_9 z fid<|h1k.at z) ?_
    have h1l := lt_ h1.s s0.s
    have h1m := lt_ (lt_ (lt_ (lt_ h1l h2.s) h3.s) s5.s) s8.s
    obtain ⟨r2v, e2w, hm1n⟩ := bdS hu2t
    refine E z (fc call106 z<|i_m (B := B) e2w (zt' hBw h1m) h15) ?_
    rintro _ w4m ⟨s7, rfl⟩
    refine Rm z ?_
    rcases bs r2v with hc6 | hc6
    ·refine Rh z hc6 (lN (vs := [sl A0 N0 C0]) P_ F_ z z fid<|(((((hj.e h2).c h3<|djs<|mm1 he.lt s0.s).e s5).e s8).e s7).row 0 1 z)<|Rh z hc6 (lN (vs := (vR xk am nn co ap nq cr au ns ct av nw cx)) N_ t_ z z fid<|(h1k.e s7).row 0 8 z) ?_
     have h1o : ∀ k ∈ [w4.z], ¬ B k := or0 (f_ lr)  (r_ (zt' hBw h1l))
     have hh := ((((h2.ag B).c h3<|k_ h1o).e s5).e s8).e s7
     obtain ⟨r2x, e2y, hm2z⟩ := bdS (ifT hm1n hc6)
     refine Eg z z hc6 z (fc call145 z<|W_w2j (B := B) e2y (zt' hBw<|lt_ h1m s7.s) (p1_0.g<|((((hl.e h2).c h3<|k_ h1o).e s5).e s8).e s7) h15 h1v h1w (h1x.g hh) (h1y.g hh) (h1z.g hh)<|hf.g hh) ?_
     rintro _ w4n ⟨s30, rfl⟩
     exact R z (pT z hc6 z)<|Ra z<|Wl (fun _ q => ⟨r2x, som hm2z, (q.k<|s1 z), (bup s7 s30)⟩)
    iterate 3 refine Nh z hc6 ?_
    exact R z (pF z hc6 z)<|Ra z<|Wl (fun _ q => ⟨false, som<|ifF hm1n hc6, (q.k<|s1 z), s7⟩)
   rintro a31 w4o ⟨x12, rfl, hS4p, s32⟩
   revert a31
   refine Wo ?_
   obtain rfl := som hm2u
   exact Wr<|d_ hr z ⟨(bup (bup (bup (bM (bup (bup h1 s0) h2) h3<|m1<|lt_ h1.s s0.s) s5) s8) s32), z⟩
  rintro r4q ex4r a4s w4t rfl ⟨rfl, hq33⟩
  have hm34 := elR hm1c
  obtain rfl := som hm34
  exact ⟨hq33, z⟩
 rintro r4u ex4v a4w w4x rfl ⟨rfl, hq35⟩
 have hm36 := elR hm17
 obtain rfl := som hm36
 exact ⟨hq35, z⟩
theorem W_w0w {x1 : g_} {res : Bool} (hm : e_K x1 = some res) (hBw : B ≤ w0.z) (p1_0 : a_ w0 B (sl A0 N0 C0) x1.rules) : j_ prog 99 [(.agg #[sl A0 N0 C0])] w0 (Q11 w0 B res) := by
 unfold e_K at hm
 refine goF func99 z z (lb z) fun fn hr => Ws<|E z (fb z) ?_
 rintro _ w1 ⟨rfl, h8⟩
 have h0 := h8.below
 have h2 : Blk w1 w0.z [sl A0 N0 C0] := h8.blk
 refine Ra z<|Wn<|Wq<|Ws<|Ra z<|Wn ?_
 obtain ⟨us, hug, hm9⟩ := bdS hm
 refine Wf (σ := Unit) (ρ := Bool) (fun (ka : Nat) (_ : Unit) a w => Sat 19 [(1, pt w0.z), (3, (vI ((ka : Nat) : Int)))] a ∧ Below w1.z w1 w) (fun (_ : Unit) a w => Sat 19 [(1, pt w0.z)] a ∧ Below w1.z w1 w) (fun r ex a w => ex = .ret ∧ v_ prog fn (Q11 w0 B r) a w) hug ?_ ?_ ?_ ?_ ?_
 ·exact fun _ q => ⟨(q.k<|s2 z z), (br w1)⟩
 ·rintro ka _ au wt ov hk5 ⟨hSh, s3⟩ hmi
  refine Wu ?_ hSh
  refine Wq<|Ws<|Rm z<|R z (fd a_j z) ?_
  have hb := h2.e s3
  refine R z (l1 a_o z fid<|hb.at z) ?_
  have hd := p1_0.g<|(h0.ag B).e s3
  refine R z (lnR X_ z hd)<|R z (lss z z)<|Wn<|Wc z (fun _ => ?_) (fun hc => (R_ hk5 hc).elim)
  refine Wk<|Wq<|Wb<|Ws<|R z (lN (vs := [sl A0 N0 C0]) P_ F_ z z fid<|hb.row 0 1 z)<|Rm z ?_
  obtain ⟨rx, ej, hmc⟩ := bdS hmi
  refine E z (fc call124 z<|W_w2k (B := B) ej (zt' hBw<|lt_ h0.s s3.s) hd<|ic (Nat.le_of_lt hk5)<|lt_ (a_.len p1_0) H_) ?_
  rintro _ ww ⟨se, rfl⟩
  refine R z (not_ z)<|Wn<|Wc z (fun hc6 => ?_) (fun hc6 => ?_)
  ·exact Ws<|Ra z<|Wn<|Wr<|rtO<|qL (som<|ifT hmc hc6).symm<|d_ hr z ⟨(bup (bup h0 s3) se), z⟩
  exact Wk<|Wg<|Rm z<|R z (inc_ hk5 (lt_ (a_.len p1_0) H_) z z)<|Ra z<|Wl (fun _ q => ⟨(), (som<|ifF hmc hc6).symm, ⟨(q.k<|s2 z z), (bup s3 se)⟩⟩)
 ·rintro _ ay wz ⟨hSk, s7⟩
  refine Wu ?_ hSk
  refine Wq<|Ws<|Rm z<|R z (fd a_j z)<|R z (l1 a_o z fid<|(h2.e s7).at z)<|R z (lnR X_ z<|p1_0.g<|(h0.ag B).e s7)<|R z (lss z z)<|Wn<|Wc z (fun hc => (S_ hc).elim) (fun _ => ?_)
  exact We (fun a' ha' => ⟨rfl, ⟨(Sat.weaken ha'<|s1 z), s7⟩⟩)
 ·rintro _ al w10 rfl ⟨hS11, s4⟩
  have hmm := elL hm9
  revert al
  refine Wo<|Ws<|R z (fd a_j z)<|R z (l1 a_o z fid<|(h2.e s4).at z) ?_
  have hf := p1_0.g<|(h0.ag B).e s4
  refine R z (lnR X_ z hf) ?_
  obtain ⟨r12, en, hmo⟩ := bdS hmm
  refine E z (fc call97 z<|a_I (B := B) en (zt' hBw<|lt_ h0.s s4.s) (b_2<|a_.len hf) (ii z)<|ii z) ?_
  rintro _ w13 ⟨sp, rfl⟩
  refine Ra z<|Wn ?_
  obtain rfl := som hmo
  exact Wr<|d_ hr z ⟨(bup (bup h0 s4) sp), z⟩
 rintro r14 ex15 a16 w17 rfl ⟨rfl, hqq⟩
 have hmr := elR hm9
 obtain rfl := som hmr
 exact ⟨hqq, z⟩
theorem W_w2l {x1 : V_} {res : Bool} (hm : g_F x1 = some res) (hBw : B ≤ w0.z) (p1_0 : a_ w0 B (sl A0 N0 C0) x1.versions) : j_ prog 67 [(.agg #[sl A0 N0 C0])] w0 (Q11 w0 B res) := by
 unfold g_F at hm
 refine goF func67 z z (lb z) fun fn hr => Ws<|E z (fb z) ?_
 rintro _ w1 ⟨rfl, h7⟩
 have h0 := h7.below
 have h2 : Blk w1 w0.z [sl A0 N0 C0] := h7.blk
 refine Ra z<|Wn<|Wq<|Ws<|Ra z<|Wn ?_
 obtain ⟨uw, huf, hm8⟩ := bdS hm
 refine Wf (σ := Unit) (ρ := Bool) (fun (k9 : Nat) (_ : Unit) a w => Sat 22 [(1, pt w0.z), (3, (vI ((k9 : Nat) : Int)))] a ∧ Below w1.z w1 w) (fun (_ : Unit) a w => Sat 22 [(1, pt w0.z)] a ∧ Below w1.z w1 w) (fun r ex a w => ex = .ret ∧ v_ prog fn (Q11 w0 B r) a w) huf ?_ ?_ ?_ ?_ ?_
 ·exact fun _ q => ⟨(q.k<|s2 z z), (br w1)⟩
 ·rintro k9 _ ax wy oz hka ⟨hSg, s3⟩ hmh
  refine Wu ?_ hSg
  refine Wq<|Ws<|Rm z<|R z (fd b_y z) ?_
  have hb := h2.e s3
  refine R z (l1 b_G z fid<|hb.at z) ?_
  have hd := p1_0.g<|(h0.ag B).e s3
  refine R z (lnR a_S z hd)<|R z (lss z z)<|Wn<|Wc z (fun _ => ?_) (fun hc => (R_ hka hc).elim)
  refine Wk<|Wq<|Wb<|Ws<|R z (fd b_y z)<|R z (l1 b_G z fid<|hb.at z)<|Rm z ?_
  obtain ⟨x10, ei, hmj⟩ := bdS hmh
  refine RX z (at_ (α := g_) a_S F_ z z z hd ei) ?_
  rintro _ ⟨b11, o12, cs13, rfl, hk, hl, h14⟩
  obtain ⟨am, nn, co, rfl, hp⟩ := d_q hl
  refine R z (lN (vs := [sl am nn co]) P_ F_ z z fid hk) ?_
  obtain ⟨r15, eq, hmc⟩ := bdS hmj
  refine E z (fc call99 z<|W_w0w (B := B) eq (zt' hBw<|lt_ h0.s s3.s) hp) ?_
  rintro _ w16 ⟨se, rfl⟩
  refine R z (not_ z)<|Wn<|Wc z (fun hc4 => ?_) (fun hc4 => ?_)
  ·exact Ws<|Ra z<|Wn<|Wr<|rtO<|qL (som<|ifT hmc hc4).symm<|d_ hr z ⟨(bup (bup h0 s3) se), z⟩
  exact Wk<|Wg<|Rm z<|R z (inc_ hka (lt_ (a_.len p1_0) H_) z z)<|Ra z<|Wl (fun _ q => ⟨(), (som<|ifF hmc hc4).symm, ⟨(q.k<|s2 z z), (bup s3 se)⟩⟩)
 ·rintro _ a17 w18 ⟨hSr, s5⟩
  refine Wu ?_ hSr
  refine Wq<|Ws<|Rm z<|R z (fd b_y z)<|R z (l1 b_G z fid<|(h2.e s5).at z)<|R z (lnR a_S z<|p1_0.g<|(h0.ag B).e s5)<|R z (lss z z)<|Wn<|Wc z (fun hc => (S_ hc).elim) (fun _ => ?_)
  exact We (fun a' ha' => ⟨rfl, ⟨(Sat.weaken ha'<|s1 z), s5⟩⟩)
 ·rintro _ au w19 rfl ⟨hS1a, s6⟩
  have hms := elL hm8
  revert au
  refine Wo<|Ws<|R z (fd b_y z)<|R z (l1 b_G z fid<|(h2.e s6).at z)<|R z (lnR a_S z<|p1_0.g<|(h0.ag B).e s6)<|R z (c_F z z)<|Ra z<|Wn ?_
  obtain rfl := som hms
  exact Wr<|d_ hr z ⟨(bup h0 s6), z⟩
 rintro r1b ex1c a1d w1e rfl ⟨rfl, hqt⟩
 have hmv := elR hm8
 obtain rfl := som hmv
 exact ⟨hqt, z⟩
theorem W_w0x {x1 : g_} {res : Int} (hm : f_U x1 = some res) (hBw : B ≤ w0.z) (p1_0 : a_ w0 B (sl A0 N0 C0) x1.rules) : j_ prog 129 [(.agg #[sl A0 N0 C0])] w0 (Q0 w0 B res) := by
 unfold f_U at hm
 refine goF func129 z z (lb z) fun fn hr => Ws<|E z (fb z) ?_
 rintro _ w2 ⟨rfl, h0⟩
 have h1 := h0.below
 have h3 : Blk w2 w0.z [sl A0 N0 C0] := h0.blk
 refine Ra z<|Wn<|Ws<|R z (fd a_j z)<|R z (l1 a_o z fid<|h3.at z)<|R z (lnR X_ z<|p1_0.e h1)<|R z (sb_ z z)<|Ra z<|Wn ?_
 obtain rfl := som hm
 exact Wr<|d_ hr z ⟨h1, z, (iS _ _)⟩
theorem W_w2m {x1 : g_} {x2 : Int} {res : Bool} (hm : g_2 x1 x2 = some res) (hBw : B ≤ w0.z) (p1_0 : a_ w0 B (sl A0 N0 C0) x1.rules) (p2_0 : inI x2) : j_ prog 146 [(.agg #[sl A0 N0 C0]), vI x2] w0 (Q11 w0 B res) := by
 unfold g_2 at hm
 refine goF func146 z z (lb z) fun fn hr => Ws<|E z (fb z) ?_
 rintro _ w3 ⟨rfl, h5⟩
 have h1 := h5.below
 have h6 : Blk w3 w0.z [sl A0 N0 C0] := h5.blk
 refine Ra z<|Wn<|Wq ?_
 obtain ⟨u8, hu9, hma⟩ := bdS hm
 refine Wt (fun a w => ∃ (x4 : Bool), x4 = u8 ∧ Sat 15 [(4, vB x4)] a ∧ Below w3.z w3 w) ?_ ?_
 ·refine Wg<|Rm z<|R z (fd a_j z)<|R z (l1 a_o z fid<|h6.at z)<|R z (lnR X_ z<|p1_0.e h1)<|R z (sb_ z z) ?_
  obtain ⟨rb, ec, hm7⟩ := bdS hu9
  refine E z (fc call97 z<|a_I (B := B) ec (zt' hBw h1.s) p2_0 (ii z)<|iS _ _) ?_
  rintro _ wj ⟨s2, rfl⟩
  refine Rm z ?_
  rcases bs rb with hc0 | hc0
  ·refine Rh z hc0 (lN (vs := [sl A0 N0 C0]) P_ F_ z z fid<|(h6.e s2).row 0 1 z) ?_
   obtain ⟨rd, ee, hmf⟩ := bdS (ifT hm7 hc0)
   refine Eg z z hc0 z (fc call99 z<|W_w0w (B := B) ee (zt' hBw<|lt_ h1.s s2.s)<|p1_0.g<|(h1.ag B).e s2) ?_
   rintro _ wk ⟨sg, rfl⟩
   exact R z (pT z hc0 z)<|Ra z<|Wl (fun _ q => ⟨rd, som hmf, (q.k<|s1 z), (bup s2 sg)⟩)
  exact Nh z hc0<|Nh z hc0<|R z (pF z hc0 z)<|Ra z<|Wl (fun _ q => ⟨false, som<|ifF hm7 hc0, (q.k<|s1 z), s2⟩)
 rintro ah wl ⟨x4, rfl, hSm, si⟩
 revert ah
 refine Wo ?_
 obtain rfl := som hma
 exact Wr<|d_ hr z ⟨(bup h1 si), z⟩
def Q16 (w0 : World) (B : Zone) (r : Int × Int × Bool) (v : Value) (w' : World) : Prop := Bw w0 w' ∧ un3 (fun r1 r2 r3 => v = .tuple #[vI r1, vI r2, vB r3] ∧ inI r1 ∧ inI r2) r
theorem i_o {x1 : g_} {x2 : Int} {x3 : List UInt8} {x4 : Int} {res : Int × Int × Bool} (hm : e_a x1 x2 x3 x4 = some res) (hBw : B ≤ w0.z) (p1_0 : a_ w0 B (sl A0 N0 C0) x1.rules) (p2_0 : inI x2) (p3_0 : a_ w0 B (sl A7 N7 C7) x3) (p4_0 : inI x4) : j_ prog 166 [(.agg #[sl A0 N0 C0]), vI x2, sl A7 N7 C7, vI x4] w0 (Q16 w0 B res) := by
 unfold e_a at hm
 refine goF func166 z z (lb z) fun fn hr => Ws<|E z (fb z) ?_
 rintro _ w4 ⟨rfl, h7⟩
 have h0 := h7.below
 have hq : Blk w4 w0.z [sl A0 N0 C0] := h7.blk
 refine Ra z<|Ra z<|Ra z<|Wn<|Ws<|R z (fd a_j z)<|R z (l1 a_o z fid<|hq.at z)<|Rm z ?_
 obtain ⟨x8, em, hm9⟩ := bdS hm
 refine RX z (at_ (α := e_) X_ t_ z z z (p1_0.e h0) em) ?_
 rintro _ ⟨b14, o15, cs16, rfl, ht, hu, h17⟩
 obtain ⟨aa, nb, cc, ad, ne, cf, ah, ng, ci, aj, nk, cl, rfl, h18, h19, h1a, h1b, h1c, h1d, h1e⟩ := b_1 hu
 refine R z (lN (vs := (vR x8 aa nb cc ad ne cf ah ng ci aj nk cl)) N_ t_ z z fid ht)<|E z (fa c_T) ?_
 rintro _ wr ⟨rfl, hn⟩
 have h1 := hn.below
 have hv : Blk wr w4.z [(Str.v (⟨[]⟩ : Str)), vI 0, vI 0, vB false, sl none 0 0, sl none 0 0, sl none 0 0, sl none 0 0] := hn.blk
 refine E0 (fs (cur' := (vR x8 aa nb cc ad ne cf ah ng ci aj nk cl)) t_ z z hv z (lb z) (oA z) z) ?_
 rintro _ w1f ⟨ho, ss⟩
 have h2 := ss.one
 refine Wn<|Wq<|Ws<|Rm z ?_
 have hw : ∀ k ∈ [w4.z], ¬ B k := or0 (f_ lr)  (r_ (zt' hBw h0.s))
 have hp := ((h0.ag B).e h1).c h2<|k_ hw
 refine R z (lnR h_ z<|p3_0.g hp)<|Rm z<|R z (sb_ z z)<|R z (fd a_D z)<|R z (l1 g_3 z fid<|ho.at z)<|R z (lss z z)<|Wn<|Wc z (fun hc5 => ?_) (fun hc5 => ?_)
 ·refine Ws<|Rm z<|Ra z<|Ra z<|Ra z<|Wn ?_
  obtain rfl := som (ifT hm9 hc5)
  exact Wr<|s_ hr z z z ⟨(bM (bup h0 h1) h2<|m1 h0.s), z, (ii z), p4_0⟩
 refine Wk<|Wq (Wd (X := noX) 0 (.rd 0 (.rd 1 (.rd 2 (.rd 3 (.rd 4 (.rd 5 (.rd 6 (.rd 7 (.rd 8 (.rd 10 (.rd 11 (.rd 12 (.rd 13 (.ef 9 (.rd 14 (.rd 15 (.rd 16 .done))))))))))))))))) mo (by kernel_rfl) fun w1g s3 _ => ?_)
 iterate 3 refine dR z z (mv z) ?_
 refine dR z z (fd a_D z) ?_
 have h6 := ho.e s3
 refine dR z z (l1 g_3 z fid<|h6.at z)<|dR z z (add_ z z) ?_
 obtain ⟨x1h, ex, hmy⟩ := bdS (ifF hm9 hc5)
 refine dRX z z (rX h_ z_5 z z (p3_0.g<|hp.e s3) z z ex) ?_
 rintro _ ⟨a1i, n1j, c1k, rfl, hz⟩
 refine dR z z (fd c_t z)<|dR z z (l1 g_4 z fid<|h6.at z)<|dR z z (mv z)<|dR z z (fd a_D z)<|dR z z (l1 g_3 z fid<|h6.at z)<|dR z z (add_ z z) ?_
 obtain ⟨r1l, e10, hm11⟩ := bdS hmy
 refine dE z z (fc call125 z<|W_w0q (B := B) e10 (zt' hBw<|lt_ (lt_ (lt_ h0.s h1.s) h2.s) s3.s) hz) (.inr fun _ _ h => A_<|h.1) ?_
 rintro _ w1m ⟨s12, rfl, h13⟩
 iterate 3 refine dR z z (asg z) ?_
 refine pD<|Wo ?_
 obtain rfl := som hm11
 exact Wr<|s_ hr z z z ⟨(bup (bup (bM (bup h0 h1) h2<|m1 h0.s) s3) s12), z, h13, (iA _ _)⟩
def Q17 (w0 : World) (B : Zone) (r : Val × Int × Int) (v : Value) (w' : World) : Prop := Bw w0 w' ∧ un3 (fun r1 r2 r3 => ∃ a1 n1 c1 S1 a2 n2 c2 S2, v = .tuple #[(.agg #[vI r1.number, sl a1 n1 c1, sl a2 n2 c2]), vI r2, vI r3] ∧ inI r1.number ∧ b_ w' S1 (sl a1 n1 c1) r1.bytes ∧ b_ w' S2 (sl a2 n2 c2) r1.items ∧ inI r2 ∧ inI r3 ∧ (S1 ++ S2).Nodup ∧ (∀ k ∈ (S1 ++ S2), w0.z ≤ k)) r
theorem W_w2n {x1 : e_} {x2 : List UInt8} {x3 : Int} {res : Val × Int × Int} (hm : f_V x1 x2 x3 = some res) (hBw : B ≤ w0.z) (p1_0 : x1.name.b.length ≤ LEN) (p1_1 : inI x1.kind) (p1_2 : inI x1.size) (p1_4 : a_ w0 B (sl A9 N9 C9) x1.bytes) (p1_5 : a_ w0 B (sl A8 N8 C8) x1.names) (p1_6 : a_ w0 B (sl AA NA CA) x1.tags) (p1_7 : a_ w0 B (sl AB NB CB) x1.kids) (p2_0 : a_ w0 B (sl A6 N6 C6) x2) (p3_0 : inI x3) : j_ prog 167 [(.agg #[Str.v x1.name, vI x1.kind, vI x1.size, vB x1.little, sl A9 N9 C9, sl A8 N8 C8, sl AA NA CA, sl AB NB CB]), sl A6 N6 C6, vI x3] w0 (Q17 w0 B res) := by
 unfold f_V at hm
 refine goF func167 z z (lb z) fun fn hr => Ws<|E z (fb z) ?_
 rintro _ w4 ⟨rfl, he⟩
 have h0 := he.below
 have h5 : Blk w4 w0.z (vR x1 A9 N9 C9 A8 N8 C8 AA NA CA AB NB CB) := he.blk
 refine E z (fa a_9) ?_
 rintro _ w3 ⟨rfl, hf⟩
 have h1 := hf.below
 have h9 : Blk w3 w4.z [vI 0, sl none 0 0, sl none 0 0] := hf.blk
 refine Ra z<|Ra z<|Wn<|Wq<|Ws<|Ra z<|Wn ?_
 obtain ⟨u17, hun, hmg⟩ := bdS hm
 refine Wf (σ := Unit) (ρ := Val × Int × Int) (fun (kh : Nat) (_ : Unit) a w => Sat 47 [(1, sl A6 N6 C6), (2, vI x3), (3, pt w0.z), (6, pt w4.z), (9, (vI ((kh : Nat) : Int)))] a ∧ Below w3.z w3 w) (fun (_ : Unit) a w => Sat 47 [(2, vI x3), (3, pt w0.z), (6, pt w4.z)] a ∧ Below w3.z w3 w) (fun r ex a w => ex = .ret ∧ v_ prog fn (Q17 w0 B r) a w) hun ?_ ?_ ?_ ?_ ?_
 ·exact fun _ q => ⟨(q.k<|s5 z z z z z), (br w3)⟩
 ·rintro kh _ a18 w19 o1a hki ⟨hSo, s2⟩ hmj
  refine Wu ?_ hSo
  refine Wq<|Ws<|Rm z<|R z (fd a_R z) ?_
  have hk := (h5.e h1).e s2
  refine R z (l1 J_ z fid<|hk.at z) ?_
  have ha := ((h0.ag B).e h1).e s2
  refine R z (lnR h_ z<|p1_4.g ha)<|R z (lss z z)<|Wn<|Wc z (fun _ => ?_) (fun hc => (R_ hki hc).elim)
  refine Wk<|Wq<|Wb<|Wq<|Ws<|Rm z<|Rm z<|R z (add_ z z)<|Rm z<|R z (lnR h_ z<|p2_0.g ha)<|R z (a_M z z)<|Wn<|Wc z (fun hcb => ?_) (fun hcb => ?_)
  ·refine Ws<|R z (bP (parts := []) (cs := [vI 0, sl none 0 0, sl none 0 0]) Q_ z z)<|Rm z<|E0 (fs (cur' := [vI 0, sl none 0 0, sl none 0 0]) i_ z z (h9.e s2) z (lb z) (oA z) z) ?_
   rintro _ w1b ⟨hp, sq⟩
   exact Ra z<|Ra z<|Wn<|Wr<|rtO<|qL (som<|ifT hmj hcb).symm<|s_ hr (u_ x_ i_ z hp z) z z ⟨(bM (bup (bup h0 h1) s2) sq.one<|m1 h0.s), none, 0, 0, [], none, 0, 0, [], z, (ii z), onL, onL, p3_0, (ii z), nd0, al0⟩
  refine Wk<|Wq (Wd (X := noX) 0 (.rd 0 (.rd 1 (.rd 2 (.rd 3 (.rd 4 (.rd 5 (.rd 6 (.rd 7 (.rd 8 (.rd 9 (.rd 10 (.rd 11 .done)))))))))))) mo (by kernel_rfl) fun w1c s6 _ => ?_)
  iterate 3 refine dR z z (mv z) ?_
  refine dR z z (add_ z z) ?_
  obtain ⟨x1d, er, hms⟩ := bdS (ifF hmj hcb)
  have hl := ha.e s6
  refine dRX z z (at_ (α := UInt8) h_ z_5 z z z (p2_0.g hl) er) ?_
  rintro _ ⟨b1e, o1f, cs1g, rfl, ht, hu, h1h⟩
  obtain rfl := u8 hu
  refine dR z z (l1 g_5 z fid<|ht.at0 z)<|dR z z (fd a_R z)<|dR z z (l1 J_ z fid<|(hk.e s6).at z)<|dR z z (mv z) ?_
  obtain ⟨x1i, ev, hmm⟩ := bdS hms
  refine dRX z z (at_ (α := UInt8) h_ z_5 z z z (p1_4.g hl) ev) ?_
  rintro _ ⟨b1j, o1k, cs1l, rfl, hw, hx, h1m⟩
  obtain rfl := u8 hx
  refine dR z z (l1 g_5 z fid<|hw.at0 z)<|dR z z (nq z z)<|pD<|Wo<|Wc z (fun hcc => ?_) (fun hcc => ?_)
  ·refine Ws<|R z (bP (parts := []) (cs := [vI 0, sl none 0 0, sl none 0 0]) Q_ z z)<|Rm z<|Rm z<|R z (add_ z z)<|E0 (fs (cur' := [vI 0, sl none 0 0, sl none 0 0]) i_ z z ((h9.e s2).e s6) z (lb z) (oA z) z) ?_
   rintro _ w1n ⟨hy, sz⟩
   exact Ra z<|Ra z<|Wn<|Wr<|rtO<|qL (som<|ifT hmm hcc).symm<|s_ hr (u_ x_ i_ z hy z) z z ⟨(bM (bup (bup (bup h0 h1) s2) s6) sz.one<|m1 h0.s), none, 0, 0, [], none, 0, 0, [], z, (ii z), onL, onL, (iA _ _), (ii z), nd0, al0⟩
  exact Wk<|Wg<|Rm z<|R z (inc_ hki (lt_ (a_.len p1_4) H_) z z)<|Ra z<|Wl (fun _ q => ⟨(), (som<|ifF hmm hcc).symm, ⟨(q.k<|s5 z z z z z), (bup s2 s6)⟩⟩)
 ·rintro _ a1o w1p ⟨hS10, sd⟩
  refine Wu ?_ hS10
  refine Wq<|Ws<|Rm z<|R z (fd a_R z)<|R z (l1 J_ z fid<|((h5.e h1).e sd).at z)<|R z (lnR h_ z<|p1_4.g<|((h0.ag B).e h1).e sd)<|R z (lss z z)<|Wn<|Wc z (fun hc => (S_ hc).elim) (fun _ => ?_)
  exact We (fun a' ha' => ⟨rfl, ⟨(Sat.weaken ha'<|s3 z z z), sd⟩⟩)
 ·rintro _ a11 w1q rfl ⟨hS1r, s7⟩
  have hm12 := elL hmg
  revert a11
  refine Wo<|Wq (Wd (X := (· ∈ [w4.z])) 0 (.rd 0 (.rd 1 (.rd 2 (.rd 3 (.rd 4 (.rd 5 (.ef 6 (.rd 7 (.rd 8 .done))))))))) mo (by kernel_rfl) fun w1s s8 _ => dR z z (bP (parts := []) (cs := [vI 0, sl none 0 0, sl none 0 0]) Q_ z z)<|dR z z (mv z)<|dR z z (fd a_R z)<|dR z z (l1 J_ z (djs<|mmr h5.lt)<|(((h5.e h1).e s7).e s8).at z)<|dR z z (lnR h_ z<|p1_4.g<|(((h0.ag B).e h1).e s7).e s8)<|dR z z (add_ z z)<|dE0 z (fs (cur' := [vI 0, sl none 0 0, sl none 0 0]) i_ z z ((h9.e s7).e s8) z (lb z) (oA z) z) (.inr fun _ _ h => chgIn (List.mem_singleton.2 z) h.2) ?_)
  rintro _ w1t ⟨h13, s14⟩
  refine dR z z (asg z)<|dR z z (asg z)<|pD<|Wo ?_
  obtain rfl := som hm12
  exact Wr<|s_ hr (u_ x_ i_ z h13 z) z z ⟨(bM (bup (bup (bup h0 h1) s7) s8) s14.one<|m1 h0.s), none, 0, 0, [], none, 0, 0, [], z, (ii z), onL, onL, (iA _ _), (ii z), nd0, al0⟩
 rintro r1u ex1v a1w w1x rfl ⟨rfl, hq15⟩
 have hm16 := elR hmg
 obtain rfl := som hm16
 exact ⟨hq15, z⟩
theorem W_w0y {x1 : List UInt8} {x2 : Int} {x3 : Int} {res : Val × Int × Int} (hm : e_M x1 x2 x3 = some res) (hBw : B ≤ w0.z) (p1_0 : a_ w0 B (sl A0 N0 C0) x1) (p2_0 : inI x2) (p3_0 : inI x3) : j_ prog 168 [sl A0 N0 C0, vI x2, vI x3] w0 (Q17 w0 B res) := by
 unfold e_M at hm
 refine goF func168 z z (lb z) fun fn hr => Ws<|E z (fa a_9) ?_
 rintro _ we ⟨rfl, h7⟩
 have h0 := h7.below
 have h2 : Blk we w0.z [vI 0, sl none 0 0, sl none 0 0] := h7.blk
 refine Ra z<|Ra z<|Wn<|Wq<|Ws<|Rm z<|R z (lnR h_ z<|p1_0.e h0)<|Rm z<|R z (sb_ z z)<|Rm z<|R z (lss z z)<|Wn<|Wc z (fun hc3 => ?_) (fun hc3 => ?_)
 ·refine Ws<|R z (bP (parts := []) (cs := [vI 0, sl none 0 0, sl none 0 0]) Q_ z z)<|Rm z<|E0 (fs (cur' := [vI 0, sl none 0 0, sl none 0 0]) i_ z z h2 z (lb z) (oA z) z) ?_
  rintro _ wr ⟨hf, sg⟩
  refine Ra z<|Ra z<|Wn ?_
  obtain rfl := som (ifT hm hc3)
  exact Wr<|s_ hr (u_ x_ i_ z hf z) z z ⟨(bM h0 sg.one<|f_ lr), none, 0, 0, [], none, 0, 0, [], z, (ii z), onL, onL, p2_0, (ii z), nd0, al0⟩
 refine Wk<|Ws<|E z (f0 (α := UInt8) D_) ?_
 rintro _ ws ⟨au, nv, cw, rfl, s1, hh⟩
 refine Rm z<|Rm z<|Rm z<|Rm z<|R z (add_ z z) ?_
 obtain ⟨xx, ei, hmj⟩ := bdS (ifF hm hc3)
 refine RX z (rX h_ z_5 z z (p1_0.g<|(h0.ag B).e s1) z z ei) ?_
 rintro _ ⟨ay, nz, c10, rfl, hk⟩
 obtain ⟨x11, el, hmm⟩ := bdS hmj
 refine E z (fN (α := UInt8) D_ el z z hh a_0 hk) ?_
 rintro _ w12 ⟨S8, a4, n5, c6, rfl, s9, hn, ho, ha⟩
 refine R z (bP (parts := [(1, (.tmp 24))]) (cs := [vI 0, sl a4 n5 c6, sl none 0 0]) Q_ z z)<|Rm z<|Rm z<|R z (add_ z z) ?_
 have hb := mmr h2.lt
 refine E0 (fs (cur' := [vI 0, sl a4 n5 c6, sl none 0 0]) i_ z z ((h2.e s1).c s9<|djs hb) z (lb z) (oA z) z) ?_
 rintro _ w13 ⟨hp, sq⟩
 have hc := sq.one
 refine Ra z<|Ra z<|Wn ?_
 obtain rfl := som hmm
 have ht : ∀ k ∈ S8, k ∉ [w0.z] := or1 ha hb (a_A (f_ h2.lt) s1.s)
 have hd := m1 h0.s
 exact Wr<|s_ hr (u_ x_ i_ z hp z) z z ⟨(bM (bM (bup h0 s1) s9 hd) hc<|f_ lr), a4, n5, c6, S8, none, 0, 0, [], z, (ii z), (hn.c hc ht), onL, (iA _ _), (ii z), (na_ ho K_<|nmN _), (aa_ (a_x ha hd<|lt_ h0.s s1.s) an_)⟩
def Q18 (w0 : World) (B : Zone) (r : (List UInt8) × Int × Bool) (v : Value) (w' : World) : Prop := Bw w0 w' ∧ un3 (fun r1 r2 r3 => ∃ a1 n1 c1 S1, v = .tuple #[sl a1 n1 c1, vI r2, vB r3] ∧ b_ w' S1 (sl a1 n1 c1) r1 ∧ inI r2 ∧ S1.Nodup ∧ (∀ k ∈ S1, w0.z ≤ k)) r
theorem W_w2o {x1 : List UInt8} {x2 : Int} {x3 : UInt8} {res : (List UInt8) × Int × Bool} (hm : f_W n x1 x2 x3 = some res) (hBw : B ≤ w0.z) (p1_0 : a_ w0 B (sl A0 N0 C0) x1) (p2_0 : inI x2) : j_ prog 169 [sl A0 N0 C0, vI x2, vU (byteI x3)] w0 (Q18 w0 B res) := by
 unfold f_W at hm
 refine goF func169 z z (lb z) fun fn hr => Ws<|Ra z<|Ra z<|Ra z<|Wn<|Ws<|E z (f0 (α := UInt8) D_) ?_
 rintro _ w1 ⟨a17, n18, c19, rfl, s9, h1a⟩
 refine Ra z<|Wn<|Wq<|Ws<|Rm z<|Ra z<|Wn ?_
 obtain ⟨u32, hu1b, hmr⟩ := bdS hm
 refine a_L (σ := (List UInt8) × Int) (ρ := (List UInt8) × Int × Bool) (fun s a w => un2 (fun xb x5 => ∃ a2 n3 c4 S0, Sat 54 [(0, sl A0 N0 C0), (1, vI x2), (2, vU<|byteI x3), (9, sl a2 n3 c4), (10, vI x5)] a ∧ Chg (· ∈ [w0.z]) w1 w ∧ b_ w S0 (sl a2 n3 c4) xb ∧ S0.Nodup ∧ (∀ k ∈ S0, k ∈ [w0.z] ∨ w1.z ≤ k) ∧ inI x5) s) (fun s a w => un2 (fun xb x5 => ∃ a2 n3 c4 S0, Sat 54 [(1, vI x2)] a ∧ Chg (· ∈ [w0.z]) w1 w ∧ b_ w S0 (sl a2 n3 c4) xb ∧ S0.Nodup ∧ (∀ k ∈ S0, k ∈ [w0.z] ∨ w1.z ≤ k) ∧ inI x5) s) (fun r ex a w => ex = .ret ∧ v_ prog fn (Q18 w0 B r) a w) hu1b ?_ ?_ ?_ ?_
 ·exact fun _ q => ⟨a17, n18, c19, [w0.z], (q.k<|s5 z z z z z), (cr [w0.z] w1), h1a, a_0, (io sr), p2_0⟩
 ·rintro ⟨xb, x5⟩ a33 wc o34 ⟨a2, n3, c4, S0, hS1c, s8, hd, he, hf, hi⟩ hm1d
  have hm1e := a_2 hm1d
  refine Wu ?_ hS1c
  refine Wq<|Wq ?_
  obtain ⟨u1f, hu1g, hms⟩ := bdS hm1e
  refine Wt (fun a w => ∃ (xj : Bool), xj = u1f ∧ Sat 54 [(0, sl A0 N0 C0), (1, vI x2), (2, vU<|byteI x3), (9, sl a2 n3 c4), (10, vI x5), (22, vB xj)] a ∧ Below wc.z wc w) ?_ ?_
  ·refine Wg<|Rm z<|Rm z ?_
   have h1h : ∀ k ∈ [w0.z], ¬ B k := or0 (f_ lr)  (r_ hBw)
   have hu := (s9.ag B).c s8<|k_ h1h
   have hv := p1_0.g hu
   refine R z (lnR h_ z hv) ?_
   obtain ⟨r1i, e1j, hmw⟩ := bdS hu1g
   refine E z (fc call97 z<|a_I (B := B) e1j (zt' hBw<|lt_ s9.s s8.s) p2_0 (ii z)<|b_2<|a_.len hv) ?_
   rintro _ w35 ⟨sk, rfl⟩
   refine Rm z ?_
   rcases bs r1i with hc6 | hc6
   ·exact Rh z hc6 (mv z)<|Rh z hc6 (mv z)<|Rh z hc6 (lnR h_ z<|p1_0.g<|hu.e sk)<|Rh z hc6 (lss z z)<|R z (pT z hc6 z)<|Wl (fun _ q => ⟨decide (x5 < (x1.length : Int)), som<|ifT hmw hc6, (q.k<|s6 z z z z z z), sk⟩)
   iterate 4 refine Nh z hc6 ?_
   exact R z (pF z hc6 z)<|Wl (fun _ q => ⟨false, som<|ifF hmw hc6, (q.k<|s6 z z z z z z), sk⟩)
  rintro a1k wa ⟨xj, rfl, hS36, s7⟩
  revert a1k
  refine Wo<|Wc z (fun hcl => ?_) (fun hcl => ?_)
  ·refine Wk<|Wq<|Wb<|Wq<|Ws<|Rm z<|Rm z ?_
   obtain ⟨x37, e1l, hmx⟩ := bdS (ifT hms hcl)
   have h1m : ∀ k ∈ [w0.z], ¬ B k := or0 (f_ lr)  (r_ hBw)
   have hy := ((s9.ag B).c s8<|k_ h1m).e s7
   have hn := p1_0.g hy
   refine RX z (at_ (α := UInt8) h_ z_5 z z z hn e1l) ?_
   rintro _ ⟨b38, o39, cs3a, rfl, h1n, h1o, h3b⟩
   obtain rfl := u8 h1o
   refine R z (l1 g_5 z fid<|h1n.at0 z)<|Rm z<|R z (eql z z)<|Wn<|Wc z (fun hcm => ?_) (fun hcm => ?_)
   ·refine Ws<|Rm z<|Rm z<|R z (add_ z z)<|Ra z<|Ra z<|Ra z<|Wn ?_
    have h1p : ∀ k ∈ S0, w0.z ≤ k := or1 hf (f_ lr) (a_E s9.s)
    exact Wr<|rtO<|qL (som<|ifT hmx hcm).symm<|s_ hr z z z ⟨(bup (bM s9 s8<|f_ lr) s7), a2, n3, c4, S0, z, (hd.e s7), (iA _ _), he, h1p⟩
   refine Wk<|Wq<|Ws<|Rm z<|Rm z ?_
   obtain ⟨x3c, e1q, hm1r⟩ := bdS (ifF hmx hcm)
   refine RX z (at_ (α := UInt8) h_ z_5 z z z hn e1q) ?_
   rintro _ ⟨b3d, o3e, cs3f, rfl, h1s, h1t, h3g⟩
   obtain rfl := u8 h1t
   refine R z (l1 g_5 z fid<|h1s.at0 z)<|R z (eql z z)<|Wn ?_
   obtain ⟨u1u, huz, hm10⟩ := bdS hm1r
   refine Wt (fun a w => ∃ (xg : Int), Sum.inl xg = u1u ∧ Sat 54 [(0, sl A0 N0 C0), (1, vI x2), (2, vU<|byteI x3), (9, sl a2 n3 c4), (10, vI xg)] a ∧ Below wa.z wa w ∧ inI xg) ?_ ?_
   ·refine Wc z (fun hco => ?_) (fun hco => ?_)
    ·have hm11 := ifT huz hco
     refine Ws<|Rm z<|R z (add_ z z)<|Ra z<|Wn<|Ws<|Rm z<|Rm z<|R z (lnR h_ z hn)<|R z (eql z z)<|Wn<|Wc z (fun hcp => ?_) (fun hcp => ?_)
     ·obtain rfl := som (ifT hm11 hcp)
      have hm1v := elR hm10
      have h1w : ∀ k ∈ S0, k ∈ [w0.z] ∨ w1.z ≤ k := or1 hf (io sr) (l_ lr)
      have h1x : Chg (· ∈ [w0.z]) w1 wc := cM (cr [w0.z] w1) s8 (io sr)
      have h1y : Chg (· ∈ [w0.z]) w1 wa := z_ h1x s7
      exact We<|exO z (fun a' ha' => a_F (som hm1v).symm ⟨a2, n3, c4, S0, (Sat.weaken ha'<|s1 z), h1y, (hd.e s7), he, h1w, (iA _ _)⟩)
     exact a_J (fun _ q => ⟨c_ x5 1, som<|ifF hm11 hcp, (q.k<|s5 z z z z z), (br wa), (iA _ _)⟩)
    exact a_J (fun _ q => ⟨x5, som<|ifF huz hco, (q.k<|s5 z z z z z), (br wa), hi⟩)
   rintro a1z w12 ⟨xg, rfl, hS3h, sh, h3i⟩
   have hm20 := elL hm10
   revert a1z
   refine Wo<|Wg<|Rm z<|Rm z<|Rm z ?_
   obtain ⟨x21, e22, hm23⟩ := bdS hm20
   refine RX z (at_ (α := UInt8) h_ z_5 z z z (p1_0.g<|hy.e sh) e22) ?_
   rintro _ ⟨b3j, o3k, cs3l, rfl, h24, h25, h3m⟩
   obtain rfl := u8 h25
   refine R z (l1 g_5 z fid<|h24.at0 z)<|E z (fS [(.tmp 49)] D_ z z z (a_p z) (lb z)<|lb z) ?_
   rintro _ w13 ⟨rfl, hq⟩
   have ht := hq.below
   have h26 : Blk w13 w12.z [vU (byteI x21)] := hq.blk
   have h3n := b_r hq a_z
   obtain ⟨x27, e28, hm29⟩ := bdS hm23
   refine E z (b_d (α := UInt8) D_ e28 z z (((hd.e s7).e sh).e ht) he h26 a_z an_ K_) ?_
   rintro _ w2a ⟨S14, a2b, n2c, c2d, rfl, s2e, h2f, h2g, h2h⟩
   refine Ra z<|Wn<|Wg<|Rm z<|R z (add_ z z)<|Ra z<|Wl ?_
   have h15 : ∀ k ∈ S0, k ∈ [w0.z] ∨ w1.z ≤ k := or1 hf (io sr) (l_ lr)
   have h2i : ∀ k ∈ S14, k ∈ [w0.z] ∨ w1.z ≤ k := or2 h2h h15 an_ (l_ (lt_ (lt_ (lt_ s8.s s7.s) sh.s) ht.s))
   have h2j : Chg (· ∈ [w0.z]) w1 wc := cM (cr [w0.z] w1) s8 (io sr)
   have h2k : Chg (· ∈ [w0.z]) w1 wa := z_ h2j s7
   have h2l : Chg (· ∈ [w0.z]) w1 w12 := z_ h2k sh
   have h2m : Chg (· ∈ [w0.z]) w1 w13 := z_ h2l ht
   have h2n : Chg (· ∈ [w0.z]) w1 w2a := cM h2m s2e h15
   exact fun _ q => ⟨(x27, c_ xg 1), (som hm29).symm, ⟨a2b, n2c, c2d, S14, (q.k<|s5 z z z z z), h2n, h2f, h2g, h2i, (iA _ _)⟩⟩
  have h2o : ∀ k ∈ S0, k ∈ [w0.z] ∨ w1.z ≤ k := or1 hf (io sr) (l_ lr)
  have h2p : Chg (· ∈ [w0.z]) w1 wc := cM (cr [w0.z] w1) s8 (io sr)
  have h2q : Chg (· ∈ [w0.z]) w1 wa := z_ h2p s7
  exact We (fun a' ha' => a_F (som<|ifF hms hcl).symm ⟨a2, n3, c4, S0, (Sat.weaken ha'<|s1 z), h2q, (hd.e s7), he, h2o, hi⟩)
 ·rintro ⟨xb, x5⟩ a2r w2s rfl ⟨a2, n3, c4, S0, hS3o, s16, hd, he, hf, hi⟩
  have hm2t := elL hmr
  have hm2u := a_2 hm2t
  revert a2r
  refine Wo<|Ws<|E z (f0 (α := UInt8) D_) ?_
  rintro _ w3p ⟨a2v, n2w, c2x, rfl, s2y, h2z⟩
  refine Rm z<|Ra z<|Ra z<|Ra z<|Wn ?_
  obtain rfl := som hm2u
  exact Wr<|s_ hr z z z ⟨(bup (bM s9 s16<|f_ lr) s2y), a2v, n2w, c2x, [w2s.z], z, h2z, p2_0, a_0, (m1<|lt_ s9.s s16.s)⟩
 rintro r3q ex3r a3s w3t rfl ⟨rfl, hq30⟩
 have hm31 := elR hmr
 obtain rfl := som hm31
 exact ⟨hq30, z⟩
theorem i_p {x1 : e_} {x2 : Int} {x3 : Int} {res : Int} (hm : d_E x1 x2 x3 = some res) (hBw : B ≤ w0.z) (p1_0 : x1.name.b.length ≤ LEN) (p1_1 : inI x1.kind) (p1_2 : inI x1.size) (p1_4 : a_ w0 B (sl A9 N9 C9) x1.bytes) (p1_5 : a_ w0 B (sl A8 N8 C8) x1.names) (p1_6 : a_ w0 B (sl AA NA CA) x1.tags) (p1_7 : a_ w0 B (sl AB NB CB) x1.kids) (p2_0 : inI x2) (p3_0 : inI x3) : j_ prog 201 [(.agg #[Str.v x1.name, vI x1.kind, vI x1.size, vB x1.little, sl A9 N9 C9, sl A8 N8 C8, sl AA NA CA, sl AB NB CB]), vI x2, vI x3] w0 (Q0 w0 B res) := by
 unfold d_E at hm
 refine goF func201 z z (lb z) fun fn hr => Ws<|E z (fb z) ?_
 rintro _ w1 ⟨rfl, hi⟩
 have h0 := hi.below
 have h2 : Blk w1 w0.z (vR x1 A9 N9 C9 A8 N8 C8 AA NA CA AB NB CB) := hi.blk
 refine Ra z<|Wn<|Wq<|Ws<|R z (fd b_x z)<|R z (l1 g_3 z fid<|h2.at z)<|Wn<|Wb<|Ws<|R z (eql z z)<|Ra z<|Wn<|Wc z (fun hc6 => ?_) (fun hc6 => ?_)
 ·refine Ws<|R z (fd a_8 z)<|R z (l1 G_ z fid<|h2.at z) ?_
  obtain ⟨x25, eu, hmv⟩ := bdS (ifT hm hc6)
  refine RX z (at_ (α := Int) B_ z_3 z z z (p1_7.e h0) eu) ?_
  rintro _ ⟨b26, o27, cs28, rfl, hw, hx, h29⟩
  obtain ⟨rfl, hy⟩ := a_7 hx
  refine R z (l1 g_3 z fid<|hw.at0 z)<|Ra z<|Wn ?_
  obtain rfl := som hmv
  exact Wr<|rtO<|d_ hr z ⟨h0, z, hy⟩
 refine Ws<|R z (eql z z)<|Ra z<|Wn ?_
 obtain ⟨uz, huj, hm3⟩ := bdS (ifF hm hc6)
 refine Wt (fun a w => Sum.inl () = uz ∧ Sat 57 [] a ∧ Below w1.z w1 w) ?_ ?_
 ·refine Wc z (fun hc7 => ?_) (fun hc7 => ?_)
  ·have hmk := ifT huj hc7
   refine Ws<|Rm z<|R z (fd a_8 z)<|R z (l1 G_ z fid<|h2.at z) ?_
   have hl := p1_7.e h0
   refine R z (lnR B_ z hl)<|R z (lss z z)<|Wn<|Wc z (fun hc8 => ?_) (fun hc8 => ?_)
   ·refine Ws<|R z (fd a_8 z)<|R z (l1 G_ z fid<|h2.at z)<|Rm z ?_
    obtain ⟨x2a, e10, hm11⟩ := bdS (ifT hmk hc8)
    refine RX z (at_ (α := Int) B_ z_3 z z z hl e10) ?_
    rintro _ ⟨b2b, o2c, cs2d, rfl, h12, h13, h2e⟩
    obtain ⟨rfl, h14⟩ := a_7 h13
    refine R z (l1 g_3 z fid<|h12.at0 z)<|Ra z<|Wn ?_
    obtain rfl := som hm11
    have hm15 := elR hm3
    obtain rfl := som hm15
    exact Wr<|rtO<|d_ hr z ⟨h0, z, h14⟩
   exact a_J (fun _ q => ⟨som<|ifF hmk hc8, (q.k sn), (br w1)⟩)
  refine Ws<|R z (eql z z)<|Ra z<|Wn ?_
  obtain ⟨u16, hum, hm9⟩ := bdS (ifF huj hc7)
  refine Wt (fun a w => Sum.inl () = u16 ∧ Sat 57 [] a ∧ Below w1.z w1 w) ?_ ?_
  ·refine Wc z (fun hca => ?_) (fun hca => ?_)
   ·refine Ws<|Ra z<|Wn ?_
    obtain ⟨u2f, hu17, hmn⟩ := bdS (ifT hum hca)
    refine Wf (σ := Unit) (ρ := Int) (fun (ko : Nat) (_ : Unit) a w => Sat 57 [(1, vI x2), (3, pt w0.z), (7, (vI ((ko : Nat) : Int)))] a ∧ Below w1.z w1 w) (fun (_ : Unit) a w => Sat 57 [] a ∧ Below w1.z w1 w) (fun r ex a w => ex = .ret ∧ v_ prog fn (Q0 w0 B r) a w) hu17 ?_ ?_ ?_ ?_ ?_
    ·exact fun _ q => ⟨(q.k<|s3 z z z), (br w1)⟩
    ·rintro ko _ a2g w2h o2i hkb ⟨hS18, s4⟩ hm19
     refine Wu ?_ hS18
     refine Wq<|Ws<|Rm z<|R z (fd a_O z) ?_
     have hd := h2.e s4
     refine R z (l1 G_ z fid<|hd.at z) ?_
     have hp := (h0.ag B).e s4
     have hq := p1_6.g hp
     refine R z (lnR B_ z hq)<|R z (lss z z)<|Wn<|Wc z (fun _ => ?_) (fun hc => (R_ hkb hc).elim)
     refine Wk<|Wq<|Wb<|Ws<|R z (fd a_O z)<|R z (l1 G_ z fid<|hd.at z)<|Rm z ?_
     obtain ⟨x2j, e1a, hmr⟩ := bdS hm19
     refine RX z (at_ (α := Int) B_ z_3 z z z hq e1a) ?_
     rintro _ ⟨b2k, o2l, cs2m, rfl, h1b, h1c, h2n⟩
     obtain ⟨rfl, h2o⟩ := a_7 h1c
     refine R z (l1 g_3 z fid<|h1b.at0 z)<|Rm z<|R z (eql z z)<|Wn<|Wc z (fun hcc => ?_) (fun hcc => ?_)
     ·refine Ws<|R z (fd a_8 z)<|R z (l1 G_ z fid<|hd.at z)<|Rm z<|R z (inc_ hkb (lt_ (a_.len p1_6) H_) z z) ?_
      obtain ⟨x2p, e1d, hm1e⟩ := bdS (ifT hmr hcc)
      refine RX z (at_ (α := Int) B_ z_3 z z z (p1_7.g hp) e1d) ?_
      rintro _ ⟨b2q, o2r, cs2s, rfl, h1f, h1g, h2t⟩
      obtain ⟨rfl, h1h⟩ := a_7 h1g
      exact R z (l1 g_3 z fid<|h1f.at0 z)<|Ra z<|Wn<|Wr<|rtO<|qL (som hm1e).symm<|d_ hr z ⟨(bup h0 s4), z, h1h⟩
     exact Wk<|Wg<|Rm z<|R z (inc_ hkb (lt_ (a_.len p1_6) H_) z z)<|Ra z<|Wl (fun _ q => ⟨(), (som<|ifF hmr hcc).symm, ⟨(q.k<|s3 z z z), s4⟩⟩)
    ·rintro _ a2u w2v ⟨hS1i, se⟩
     refine Wu ?_ hS1i
     refine Wq<|Ws<|Rm z<|R z (fd a_O z)<|R z (l1 G_ z fid<|(h2.e se).at z)<|R z (lnR B_ z<|p1_6.g<|(h0.ag B).e se)<|R z (lss z z)<|Wn<|Wc z (fun hc => (S_ hc).elim) (fun _ => ?_)
     exact We (fun a' ha' => ⟨rfl, ⟨(Sat.weaken ha' sn), se⟩⟩)
    ·rintro _ a1j w2w rfl ⟨hS2x, s1k⟩
     have hm1l := elL hmn
     revert a1j
     exact fun _ q => ⟨som hm1l, (q.k sn), s1k⟩
    rintro r2y ex2z a30 w31 rfl ⟨rfl, hq1m⟩
    have hm1n := elR hmn
    obtain rfl := som hm1n
    have hm1o := elR hm9
    obtain rfl := som hm1o
    have hm1p := elR hm3
    obtain rfl := som hm1p
    exact ⟨hq1m, z⟩
   refine Wq<|Ws<|R z (eql z z)<|Ra z<|Wn ?_
   obtain ⟨u1q, hus, hmt⟩ := bdS (ifF hum hca)
   refine Wt (fun a w => ∃ (xf : Bool), xf = u1q ∧ Sat 57 [(3, pt w0.z), (50, vB xf)] a ∧ Below w1.z w1 w) ?_ ?_
   ·refine Wc z (fun hcg => ?_) (fun hcg => ?_)
    ·exact a_J (fun _ q => ⟨x1.kind == 8, som<|ifT hus hcg, (q.k<|s2 z z), (br w1)⟩)
    exact Wg<|R z (eql z z)<|Ra z<|Wl (fun _ q => ⟨x1.kind == 9, som<|ifF hus hcg, (q.k<|s2 z z), (br w1)⟩)
   rintro a1r w32 ⟨xf, rfl, hS33, s5⟩
   revert a1r
   refine Wo<|Wc z (fun hch => ?_) (fun hch => ?_)
   ·refine Ws<|R z (fd a_8 z)<|R z (l1 G_ z fid<|(h2.e s5).at z) ?_
    obtain ⟨x34, e1s, hm1t⟩ := bdS (ifT hmt hch)
    refine RX z (at_ (α := Int) B_ z_3 z z z (p1_7.g<|(h0.ag B).e s5) e1s) ?_
    rintro _ ⟨b35, o36, cs37, rfl, h1u, h1v, h38⟩
    obtain ⟨rfl, h1w⟩ := a_7 h1v
    refine R z (l1 g_3 z fid<|h1u.at0 z)<|Ra z<|Wn ?_
    obtain rfl := som hm1t
    have hm1x := elR hm9
    obtain rfl := som hm1x
    have hm1y := elR hm3
    obtain rfl := som hm1y
    exact Wr<|rtO<|d_ hr z ⟨(bup h0 s5), z, h1w⟩
   exact a_J (fun _ q => ⟨som<|ifF hmt hch, (q.k sn), s5⟩)
  rintro a1z w39 ⟨rfl, hS3a, s20⟩
  have hm21 := elL hm9
  revert a1z
  exact fun _ q => ⟨som hm21, (q.k sn), s20⟩
 rintro a22 w3b ⟨rfl, hS3c, s23⟩
 have hm24 := elL hm3
 revert a22
 refine Wo<|Ws<|Ra z<|Wn ?_
 obtain rfl := som hm24
 exact Wr<|d_ hr z ⟨(bup h0 s23), z, (ii z)⟩
structure i_q (f : g_ → Int → (List UInt8) → Int → Option (Val × Int × Int)) : Prop where
  run : ∀ {A0 A7 : Option Addr} {N0 C0 N7 C7 : Nat} {B : Zone} {x1 : g_} {x2 : Int} {x3 : List UInt8} {x4 : Int} {res : Val × Int × Int} {w0 : World} (hm : f x1 x2 x3 x4 = some res) (hBw : B ≤ w0.z) (p1_0 : a_ w0 B (sl A0 N0 C0) x1.rules) (p2_0 : inI x2) (p3_0 : a_ w0 B (sl A7 N7 C7) x3) (p4_0 : inI x4), j_ prog 147 [(.agg #[sl A0 N0 C0]), vI x2, sl A7 N7 C7, vI x4] w0 (Q17 w0 B res)
structure i_r (f : g_ → e_ → Int → Int → (List UInt8) → Int → Option (Val × Int × Int)) : Prop where
  run : ∀ {A0 A3 A4 A2 A5 AF : Option Addr} {N0 C0 N3 C3 N4 C4 N2 C2 N5 C5 NF CF : Nat} {B : Zone} {x1 : g_} {x2 : e_} {x3 : Int} {x4 : Int} {x5 : List UInt8} {x6 : Int} {res : Val × Int × Int} {w0 : World} (hm : f x1 x2 x3 x4 x5 x6 = some res) (hBw : B ≤ w0.z) (p1_0 : a_ w0 B (sl A0 N0 C0) x1.rules) (p2_0 : x2.name.b.length ≤ LEN) (p2_1 : inI x2.kind) (p2_2 : inI x2.size) (p2_4 : a_ w0 B (sl A3 N3 C3) x2.bytes) (p2_5 : a_ w0 B (sl A4 N4 C4) x2.names) (p2_6 : a_ w0 B (sl A2 N2 C2) x2.tags) (p2_7 : a_ w0 B (sl A5 N5 C5) x2.kids) (p3_0 : inI x3) (p4_0 : inI x4) (p5_0 : a_ w0 B (sl AF NF CF) x5) (p6_0 : inI x6), j_ prog 170 [(.agg #[sl A0 N0 C0]), (.agg #[Str.v x2.name, vI x2.kind, vI x2.size, vB x2.little, sl A3 N3 C3, sl A4 N4 C4, sl A2 N2 C2, sl A5 N5 C5]), vI x3, vI x4, sl AF NF CF, vI x6] w0 (Q17 w0 B res)
structure i_s (f : g_ → e_ → (List UInt8) → Int → Option (Val × Int × Int)) : Prop where
  run : ∀ {A0 A3 A4 A2 A5 A7 : Option Addr} {N0 C0 N3 C3 N4 C4 N2 C2 N5 C5 N7 C7 : Nat} {B : Zone} {x1 : g_} {x2 : e_} {x3 : List UInt8} {x4 : Int} {res : Val × Int × Int} {w0 : World} (hm : f x1 x2 x3 x4 = some res) (hBw : B ≤ w0.z) (p1_0 : a_ w0 B (sl A0 N0 C0) x1.rules) (p2_0 : x2.name.b.length ≤ LEN) (p2_1 : inI x2.kind) (p2_2 : inI x2.size) (p2_4 : a_ w0 B (sl A3 N3 C3) x2.bytes) (p2_5 : a_ w0 B (sl A4 N4 C4) x2.names) (p2_6 : a_ w0 B (sl A2 N2 C2) x2.tags) (p2_7 : a_ w0 B (sl A5 N5 C5) x2.kids) (p3_0 : a_ w0 B (sl A7 N7 C7) x3) (p4_0 : inI x4), j_ prog 171 [(.agg #[sl A0 N0 C0]), (.agg #[Str.v x2.name, vI x2.kind, vI x2.size, vB x2.little, sl A3 N3 C3, sl A4 N4 C4, sl A2 N2 C2, sl A5 N5 C5]), sl A7 N7 C7, vI x4] w0 (Q17 w0 B res)
structure i_t (f : g_ → e_ → (List UInt8) → Int → Option (Val × Int × Int)) : Prop where
  run : ∀ {A0 A3 A4 A2 A5 A7 : Option Addr} {N0 C0 N3 C3 N4 C4 N2 C2 N5 C5 N7 C7 : Nat} {B : Zone} {x1 : g_} {x2 : e_} {x3 : List UInt8} {x4 : Int} {res : Val × Int × Int} {w0 : World} (hm : f x1 x2 x3 x4 = some res) (hBw : B ≤ w0.z) (p1_0 : a_ w0 B (sl A0 N0 C0) x1.rules) (p2_0 : x2.name.b.length ≤ LEN) (p2_1 : inI x2.kind) (p2_2 : inI x2.size) (p2_4 : a_ w0 B (sl A3 N3 C3) x2.bytes) (p2_5 : a_ w0 B (sl A4 N4 C4) x2.names) (p2_6 : a_ w0 B (sl A2 N2 C2) x2.tags) (p2_7 : a_ w0 B (sl A5 N5 C5) x2.kids) (p3_0 : a_ w0 B (sl A7 N7 C7) x3) (p4_0 : inI x4), j_ prog 172 [(.agg #[sl A0 N0 C0]), (.agg #[Str.v x2.name, vI x2.kind, vI x2.size, vB x2.little, sl A3 N3 C3, sl A4 N4 C4, sl A2 N2 C2, sl A5 N5 C5]), sl A7 N7 C7, vI x4] w0 (Q17 w0 B res)
structure i_u (f : g_ → e_ → (List UInt8) → Int → Option (Val × Int × Int)) : Prop where
  run : ∀ {A0 A3 A4 A2 A5 A7 : Option Addr} {N0 C0 N3 C3 N4 C4 N2 C2 N5 C5 N7 C7 : Nat} {B : Zone} {x1 : g_} {x2 : e_} {x3 : List UInt8} {x4 : Int} {res : Val × Int × Int} {w0 : World} (hm : f x1 x2 x3 x4 = some res) (hBw : B ≤ w0.z) (p1_0 : a_ w0 B (sl A0 N0 C0) x1.rules) (p2_0 : x2.name.b.length ≤ LEN) (p2_1 : inI x2.kind) (p2_2 : inI x2.size) (p2_4 : a_ w0 B (sl A3 N3 C3) x2.bytes) (p2_5 : a_ w0 B (sl A4 N4 C4) x2.names) (p2_6 : a_ w0 B (sl A2 N2 C2) x2.tags) (p2_7 : a_ w0 B (sl A5 N5 C5) x2.kids) (p3_0 : a_ w0 B (sl A7 N7 C7) x3) (p4_0 : inI x4), j_ prog 173 [(.agg #[sl A0 N0 C0]), (.agg #[Str.v x2.name, vI x2.kind, vI x2.size, vB x2.little, sl A3 N3 C3, sl A4 N4 C4, sl A2 N2 C2, sl A5 N5 C5]), sl A7 N7 C7, vI x4] w0 (Q17 w0 B res)
abbrev e_m (n : Nat) : Prop := i_q (a_6 n).spec_l11Read ∧ i_r (a_6 n).spec_l11Items ∧ i_s (a_6 n).spec_l11Choice ∧ i_t (a_6 n).spec_l11Option ∧ i_u (a_6 n).spec_l11Checked
theorem T_w02 (ih : e_m n) : i_q (f_X n (a_6 n)) := by
 obtain ⟨ih0, ih1, ih2, ih3, ih4⟩ := ih
 constructor
 intro A0 A7 N0 C0 N7 C7 B x1 x2 x3 x4 res w0 hm hBw p1_0 p2_0 p3_0 p4_0
 unfold f_X at hm
 refine goF func147 z z (lb z) fun fn hr => Ws<|E z (fb z) ?_
 rintro _ w2s ⟨rfl, h2t⟩
 have h3 := h2t.below
 have hn : Blk w2s w0.z [sl A0 N0 C0] := h2t.blk
 refine E z (fa a_9) ?_
 rintro _ w7 ⟨rfl, h2u⟩
 have h4 := h2u.below
 have h2 : Blk w7 w2s.z [vI 0, sl none 0 0, sl none 0 0] := h2u.blk
 refine Ra z<|Ra z<|Wn<|Ws<|R z (fd a_j z) ?_
 have ho := hn.e h4
 refine R z (l1 a_o z fid<|ho.at z)<|Rm z ?_
 obtain ⟨xa, e5o, hm2v⟩ := bdS hm
 have h8 := (h3.ag B).e h4
 refine RX z (at_ (α := e_) X_ t_ z z z (p1_0.g h8) e5o) ?_
 rintro _ ⟨b9e, o9f, cs9g, rfl, h5p, h5q, h9h⟩
 obtain ⟨ab, nc, cd, ae, nf, cg, ah, ni, cj, ak, nl, cm, rfl, hu, hv, hp, hq, hw, hx, ht⟩ := b_1 h5q
 refine R z (lN (vs := (vR xa ab nc cd ae nf cg ah ni cj ak nl cm)) N_ t_ z z fid h5p)<|E z (fa c_T) ?_
 rintro _ w5r ⟨rfl, h2w⟩
 have h0 := h2w.below
 have h5s : Blk w5r w7.z [(Str.v (⟨[]⟩ : Str)), vI 0, vI 0, vB false, sl none 0 0, sl none 0 0, sl none 0 0, sl none 0 0] := h2w.blk
 refine E0 (fs (cur' := (vR xa ab nc cd ae nf cg ah ni cj ak nl cm)) t_ z z h5s z (lb z) (oA z) z) ?_
 rintro _ w9i ⟨h9, s5t⟩
 have h1 := s5t.one
 refine Wn<|Wq<|Ws<|R z (fd b_x z)<|R z (l1 g_3 z fid<|h9.at z)<|Wn<|Wb<|Ws<|R z (eql z z)<|Ra z<|Wn<|Wc z (fun hc1g => ?_) (fun hc1g => ?_)
 ·refine Ws<|R z (lN (vs := [sl A0 N0 C0]) P_ F_ z z fid<|((ho.e h0).c h1<|djs<|mm1 hn.lt h4.s).row 0 1 z)<|Rm z<|Rm z<|Rm z ?_
  have hz := lt_ h3.s h4.s
  have h5u : ∀ k ∈ [w7.z], ¬ B k := or0 (f_ lr)  (r_ (zt' hBw hz))
  have h2x := (h8.e h0).c h1<|k_ h5u
  obtain ⟨r2y, r9j, r9k, e5v, hm2z⟩ := O_ (ifT hm2v hc1g)
  refine E z (fc call166 z<|i_o (B := B) e5v (zt' hBw<|lt_ (lt_ hz h0.s) h1.s) (p1_0.g h2x) p2_0 (p3_0.g h2x) p4_0) ?_
  rintro _ w9l ⟨sr, rfl, h5w, h5x⟩
  refine Rm z ?_
  iterate 3 refine R z (ext_ z z) ?_
  refine Ra z<|Ra z<|Ra z<|Wn<|Wq<|Ws<|Rm z<|R z (not_ z)<|Wn<|Wc z (fun hc1h => ?_) (fun hc1h => ?_)
  ·refine Ws<|R z (bP (parts := []) (cs := [vI 0, sl none 0 0, sl none 0 0]) Q_ z z)<|Rm z<|E0 (fs (cur' := [vI 0, sl none 0 0, sl none 0 0]) i_ z z (((h2.e h0).c h1<|djs<|mmr h2.lt).e sr) z (lb z) (oA z) z) ?_
   rintro _ w9m ⟨h5y, s5z⟩
   refine Ra z<|Ra z<|Wn ?_
   obtain rfl := som (ifT hm2z hc1h)
   exact Wr<|rtO<|s_ hr (u_ x_ i_ z h5y z) z z ⟨(bM (bup (bM (bup (bup h3 h4) h0) h1<|m1 hz) sr) s5z.one<|m1 h3.s), none, 0, 0, [], none, 0, 0, [], z, (ii z), onL, onL, p4_0, (ii z), nd0, al0⟩
  refine Wk<|Ws<|Rm z<|R z (bP (parts := [(0, (.tmp 43))]) (cs := [vI r2y, sl none 0 0, sl none 0 0]) Q_ z z)<|Rm z<|E0 (fs (cur' := [vI r2y, sl none 0 0, sl none 0 0]) i_ z z (((h2.e h0).c h1<|djs<|mmr h2.lt).e sr) z (lb z) (oA z) z) ?_
  rintro _ w9n ⟨h60, s61⟩
  refine Ra z<|Ra z<|Wn ?_
  obtain rfl := som (ifF hm2z hc1h)
  exact Wr<|rtO<|s_ hr (u_ x_ i_ z h60 z) z z ⟨(bM (bup (bM (bup (bup h3 h4) h0) h1<|m1 hz) sr) s61.one<|m1 h3.s), none, 0, 0, [], none, 0, 0, [], z, h5w, onL, onL, h5x, (ii z), nd0, al0⟩
 have hm30 := ifF hm2v hc1g
 refine Ws<|R z (eql z z)<|Ra z<|Wn<|Wc z (fun hc1i => ?_) (fun hc1i => ?_)
 ·refine Ws<|R z (lN (vs := (vR xa ab nc cd ae nf cg ah ni cj ak nl cm)) N_ t_ z z fid<|h9.row 0 8 z)<|Rm z<|Rm z ?_
  have h1j := lt_ h3.s h4.s
  have h31 : ∀ k ∈ [w7.z], ¬ B k := or0 (f_ lr)  (r_ (zt' hBw h1j))
  have h10 := (h0.ag B).c h1<|k_ h31
  have h1k := lt_ (lt_ h1j h0.s) h1.s
  obtain ⟨r62, r9o, r9p, e63, hm64⟩ := O_ (ifT hm30 hc1i)
  refine E z (fc call167 z<|W_w2n (B := B) e63 (zt' hBw h1k) hu hv hp (hq.g h10) (hw.g h10) (hx.g h10) (ht.g h10) (p3_0.g<|(h8.e h0).c h1<|k_ h31) p4_0) ?_
  rintro _ w9q ⟨s32, a33, n34, c35, S65, a36, n37, c38, S66, rfl, h67, h68, h69, h6a, h6b, h1l, h11⟩
  iterate 3 refine R z (ext_ z z) ?_
  refine E0 (fs (cur' := [vI r62.number, sl a33 n34 c35, sl a36 n37 c38]) i_ z z (((h2.e h0).c h1<|djs<|mmr h2.lt).e s32) z (lb z) (oA z) z) ?_
  rintro _ w9r ⟨h6c, s6d⟩
  have h1m := s6d.one
  refine Ra z<|Ra z<|Wn ?_
  obtain rfl := som hm64
  have h39 := lt_ h0.s h1.s
  exact Wr<|rtO<|s_ hr (u_ x_ i_ z h6c z) z z ⟨(bM (bup (bM (bup (bup h3 h4) h0) h1<|m1 h1j) s32) h1m<|m1 h3.s), a33, n34, c35, S65, a36, n37, c38, S66, z, h67, (h68.c h1m<|p_ (al_ h11) h2.lt h39), (h69.c h1m<|p_ (ar_ h11) h2.lt h39), h6a, h6b, (na_ (nl_ h1l) (nr_ h1l)<|nj h1l), (aa_ (m_ (al_ h11) h1k)<|m_ (ar_ h11) h1k)⟩
 have hm3a := ifF hm30 hc1i
 refine Ws<|R z (eql z z)<|Ra z<|Wn<|Wc z (fun hc1n => ?_) (fun hc1n => ?_)
 ·refine Ws<|Rm z<|Rm z<|R z (fd a_D z)<|R z (l1 g_3 z fid<|h9.at z) ?_
  have h1o := lt_ h3.s h4.s
  have h6e : ∀ k ∈ [w7.z], ¬ B k := or0 (f_ lr)  (r_ (zt' hBw h1o))
  have h1p := lt_ (lt_ h1o h0.s) h1.s
  obtain ⟨r6f, r9s, r9t, e6g, hm6h⟩ := O_ (ifT hm3a hc1n)
  refine E z (fc call168 z<|W_w0y (B := B) e6g (zt' hBw h1p) (p3_0.g<|(h8.e h0).c h1<|k_ h6e) p4_0 hp) ?_
  rintro _ w9u ⟨s3b, a3c, n3d, c3e, S6i, a3f, n3g, c3h, S6j, rfl, h6k, h6l, h6m, h6n, h6o, h1q, h12⟩
  iterate 3 refine R z (ext_ z z) ?_
  refine E0 (fs (cur' := [vI r6f.number, sl a3c n3d c3e, sl a3f n3g c3h]) i_ z z (((h2.e h0).c h1<|djs<|mmr h2.lt).e s3b) z (lb z) (oA z) z) ?_
  rintro _ w9v ⟨h6p, s6q⟩
  have h1r := s6q.one
  refine Ra z<|Ra z<|Wn ?_
  obtain rfl := som hm6h
  have h3i := lt_ h0.s h1.s
  exact Wr<|rtO<|s_ hr (u_ x_ i_ z h6p z) z z ⟨(bM (bup (bM (bup (bup h3 h4) h0) h1<|m1 h1o) s3b) h1r<|m1 h3.s), a3c, n3d, c3e, S6i, a3f, n3g, c3h, S6j, z, h6k, (h6l.c h1r<|p_ (al_ h12) h2.lt h3i), (h6m.c h1r<|p_ (ar_ h12) h2.lt h3i), h6n, h6o, (na_ (nl_ h1q) (nr_ h1q)<|nj h1q), (aa_ (m_ (al_ h12) h1p)<|m_ (ar_ h12) h1p)⟩
 have hm3j := ifF hm3a hc1n
 refine Ws<|R z (eql z z)<|Ra z<|Wn<|Wc z (fun hc1s => ?_) (fun hc1s => ?_)
 ·refine Ws<|Rm z<|Rm z<|R z (fd a_R z)<|R z (l1 J_ z fid<|h9.at z) ?_
  obtain ⟨x9w, e6r, hm6s⟩ := bdS (ifT hm3j hc1s)
  have h13 := lt_ h3.s h4.s
  have h3k : ∀ k ∈ [w7.z], ¬ B k := or0 (f_ lr)  (r_ (zt' hBw h13))
  refine RX z (at_ (α := UInt8) h_ z_5 z z z (hq.g<|(h0.ag B).c h1<|k_ h3k) e6r) ?_
  rintro _ ⟨b9x, o9y, cs9z, rfl, h6t, h6u, h100⟩
  obtain rfl := u8 h6u
  refine R z (l1 g_5 z fid<|h6t.at0 z) ?_
  have h3l := lt_ (lt_ h13 h0.s) h1.s
  obtain ⟨r101, r102, r103, e6v, hm3m⟩ := O_ hm6s
  refine E z (fc call169 z<|W_w2o (B := B) e6v (zt' hBw h3l) (p3_0.g<|(h8.e h0).c h1<|k_ h3k) p4_0) ?_
  rintro _ w104 ⟨ss, a1t, n1u, c1v, S6w, rfl, h6x, h6y, h6z, h3n⟩
  refine Rm z ?_
  iterate 3 refine R z (ext_ z z) ?_
  refine Ra z<|Ra z<|Ra z<|Wn<|Wq<|Ws<|Rm z<|R z (not_ z)<|Wn<|Wc z (fun hc1w => ?_) (fun hc1w => ?_)
  ·refine Ws<|R z (bP (parts := []) (cs := [vI 0, sl none 0 0, sl none 0 0]) Q_ z z)<|Rm z<|E0 (fs (cur' := [vI 0, sl none 0 0, sl none 0 0]) i_ z z (((h2.e h0).c h1<|djs<|mmr h2.lt).e ss) z (lb z) (oA z) z) ?_
   rintro _ w105 ⟨h70, s71⟩
   refine Ra z<|Ra z<|Wn ?_
   obtain rfl := som (ifT hm3m hc1w)
   exact Wr<|rtO<|s_ hr (u_ x_ i_ z h70 z) z z ⟨(bM (bup (bM (bup (bup h3 h4) h0) h1<|m1 h13) ss) s71.one<|m1 h3.s), none, 0, 0, [], none, 0, 0, [], z, (ii z), onL, onL, p4_0, (ii z), nd0, al0⟩
  refine Wk<|Ws<|Rm z<|R z (bP (parts := [(1, (.tmp 82))]) (cs := [vI 0, sl a1t n1u c1v, sl none 0 0]) Q_ z z)<|Rm z<|E0 (fs (cur' := [vI 0, sl a1t n1u c1v, sl none 0 0]) i_ z z (((h2.e h0).c h1<|djs<|mmr h2.lt).e ss) z (lb z) (oA z) z) ?_
  rintro _ w106 ⟨h72, s73⟩
  have h3o := s73.one
  refine Ra z<|Ra z<|Wn ?_
  obtain rfl := som (ifF hm3m hc1w)
  exact Wr<|rtO<|s_ hr (u_ x_ i_ z h72 z) z z ⟨(bM (bup (bM (bup (bup h3 h4) h0) h1<|m1 h13) ss) h3o<|m1 h3.s), a1t, n1u, c1v, S6w, none, 0, 0, [], z, (ii z), (h6x.c h3o<|p_ h3n h2.lt<|lt_ h0.s h1.s), onL, h6y, (ii z), (na_ h6z K_<|nmN _), (aa_ (m_ h3n h3l) an_)⟩
 have hm3p := ifF hm3j hc1s
 refine Ws<|R z (eql z z)<|Ra z<|Wn<|Wc z (fun hc1x => ?_) (fun hc1x => ?_)
 ·refine Ws<|R z (lN (vs := [sl A0 N0 C0]) P_ F_ z z fid<|((ho.e h0).c h1<|djs<|mm1 hn.lt h4.s).row 0 1 z)<|R z (lN (vs := (vR xa ab nc cd ae nf cg ah ni cj ak nl cm)) N_ t_ z z fid<|h9.row 0 8 z)<|R z (fd a_8 z)<|R z (l1 G_ z fid<|h9.at z) ?_
  have h1y := lt_ h3.s h4.s
  have h3q : ∀ k ∈ [w7.z], ¬ B k := or0 (f_ lr)  (r_ (zt' hBw h1y))
  have h14 := (h0.ag B).c h1<|k_ h3q
  have h1z := ht.g h14
  refine R z (lnR B_ z h1z)<|Rm z<|Rm z ?_
  have h3r := (h8.e h0).c h1<|k_ h3q
  have h20 := lt_ (lt_ h1y h0.s) h1.s
  obtain ⟨r74, r107, r108, e75, hm76⟩ := O_ (ifT hm3p hc1x)
  refine E z (fc call170 z<|ih1.run (B := B) e75 (zt' hBw h20) (p1_0.g h3r) hu hv hp (hq.g h14) (hw.g h14) (hx.g h14) h1z (ii z) (b_2<|a_.len h1z) (p3_0.g h3r) p4_0) ?_
  rintro _ w109 ⟨s3s, a3t, n3u, c3v, S77, a3w, n3x, c3y, S78, rfl, h79, h7a, h7b, h7c, h7d, h21, h15⟩
  iterate 3 refine R z (ext_ z z) ?_
  refine E0 (fs (cur' := [vI r74.number, sl a3t n3u c3v, sl a3w n3x c3y]) i_ z z (((h2.e h0).c h1<|djs<|mmr h2.lt).e s3s) z (lb z) (oA z) z) ?_
  rintro _ w10a ⟨h7e, s7f⟩
  have h22 := s7f.one
  refine Ra z<|Ra z<|Wn ?_
  obtain rfl := som hm76
  have h3z := lt_ h0.s h1.s
  exact Wr<|rtO<|s_ hr (u_ x_ i_ z h7e z) z z ⟨(bM (bup (bM (bup (bup h3 h4) h0) h1<|m1 h1y) s3s) h22<|m1 h3.s), a3t, n3u, c3v, S77, a3w, n3x, c3y, S78, z, h79, (h7a.c h22<|p_ (al_ h15) h2.lt h3z), (h7b.c h22<|p_ (ar_ h15) h2.lt h3z), h7c, h7d, (na_ (nl_ h21) (nr_ h21)<|nj h21), (aa_ (m_ (al_ h15) h20)<|m_ (ar_ h15) h20)⟩
 have hm40 := ifF hm3p hc1x
 refine Ws<|R z (eql z z)<|Ra z<|Wn<|Wc z (fun hc23 => ?_) (fun hc23 => ?_)
 ·refine Ws<|R z (lN (vs := [sl A0 N0 C0]) P_ F_ z z fid<|((ho.e h0).c h1<|djs<|mm1 hn.lt h4.s).row 0 1 z)<|R z (lN (vs := (vR xa ab nc cd ae nf cg ah ni cj ak nl cm)) N_ t_ z z fid<|h9.row 0 8 z)<|Rm z<|Rm z ?_
  have h24 := lt_ h3.s h4.s
  have h41 : ∀ k ∈ [w7.z], ¬ B k := or0 (f_ lr)  (r_ (zt' hBw h24))
  have h42 := (h8.e h0).c h1<|k_ h41
  have h16 := (h0.ag B).c h1<|k_ h41
  have h25 := lt_ (lt_ h24 h0.s) h1.s
  obtain ⟨r7g, r10b, r10c, e7h, hm7i⟩ := O_ (ifT hm40 hc23)
  refine E z (fc call171 z<|ih2.run (B := B) e7h (zt' hBw h25) (p1_0.g h42) hu hv hp (hq.g h16) (hw.g h16) (hx.g h16) (ht.g h16) (p3_0.g h42) p4_0) ?_
  rintro _ w10d ⟨s43, a44, n45, c46, S7j, a47, n48, c49, S7k, rfl, h7l, h7m, h7n, h7o, h7p, h26, h17⟩
  iterate 3 refine R z (ext_ z z) ?_
  refine E0 (fs (cur' := [vI r7g.number, sl a44 n45 c46, sl a47 n48 c49]) i_ z z (((h2.e h0).c h1<|djs<|mmr h2.lt).e s43) z (lb z) (oA z) z) ?_
  rintro _ w10e ⟨h7q, s7r⟩
  have h27 := s7r.one
  refine Ra z<|Ra z<|Wn ?_
  obtain rfl := som hm7i
  have h4a := lt_ h0.s h1.s
  exact Wr<|rtO<|s_ hr (u_ x_ i_ z h7q z) z z ⟨(bM (bup (bM (bup (bup h3 h4) h0) h1<|m1 h24) s43) h27<|m1 h3.s), a44, n45, c46, S7j, a47, n48, c49, S7k, z, h7l, (h7m.c h27<|p_ (al_ h17) h2.lt h4a), (h7n.c h27<|p_ (ar_ h17) h2.lt h4a), h7o, h7p, (na_ (nl_ h26) (nr_ h26)<|nj h26), (aa_ (m_ (al_ h17) h25)<|m_ (ar_ h17) h25)⟩
 have hm4b := ifF hm40 hc23
 refine Ws<|R z (eql z z)<|Ra z<|Wn<|Wc z (fun hc28 => ?_) (fun hc28 => ?_)
 ·refine Ws<|R z (lN (vs := [sl A0 N0 C0]) P_ F_ z z fid<|((ho.e h0).c h1<|djs<|mm1 hn.lt h4.s).row 0 1 z)<|R z (lN (vs := (vR xa ab nc cd ae nf cg ah ni cj ak nl cm)) N_ t_ z z fid<|h9.row 0 8 z)<|Rm z<|Rm z ?_
  have h29 := lt_ h3.s h4.s
  have h4c : ∀ k ∈ [w7.z], ¬ B k := or0 (f_ lr)  (r_ (zt' hBw h29))
  have h4d := (h8.e h0).c h1<|k_ h4c
  have h18 := (h0.ag B).c h1<|k_ h4c
  have h2a := lt_ (lt_ h29 h0.s) h1.s
  obtain ⟨r7s, r10f, r10g, e7t, hm7u⟩ := O_ (ifT hm4b hc28)
  refine E z (fc call172 z<|ih3.run (B := B) e7t (zt' hBw h2a) (p1_0.g h4d) hu hv hp (hq.g h18) (hw.g h18) (hx.g h18) (ht.g h18) (p3_0.g h4d) p4_0) ?_
  rintro _ w10h ⟨s4e, a4f, n4g, c4h, S7v, a4i, n4j, c4k, S7w, rfl, h7x, h7y, h7z, h80, h81, h2b, h19⟩
  iterate 3 refine R z (ext_ z z) ?_
  refine E0 (fs (cur' := [vI r7s.number, sl a4f n4g c4h, sl a4i n4j c4k]) i_ z z (((h2.e h0).c h1<|djs<|mmr h2.lt).e s4e) z (lb z) (oA z) z) ?_
  rintro _ w10i ⟨h82, s83⟩
  have h2c := s83.one
  refine Ra z<|Ra z<|Wn ?_
  obtain rfl := som hm7u
  have h4l := lt_ h0.s h1.s
  exact Wr<|rtO<|s_ hr (u_ x_ i_ z h82 z) z z ⟨(bM (bup (bM (bup (bup h3 h4) h0) h1<|m1 h29) s4e) h2c<|m1 h3.s), a4f, n4g, c4h, S7v, a4i, n4j, c4k, S7w, z, h7x, (h7y.c h2c<|p_ (al_ h19) h2.lt h4l), (h7z.c h2c<|p_ (ar_ h19) h2.lt h4l), h80, h81, (na_ (nl_ h2b) (nr_ h2b)<|nj h2b), (aa_ (m_ (al_ h19) h2a)<|m_ (ar_ h19) h2a)⟩
 have hm4m := ifF hm4b hc28
 refine Ws<|R z (eql z z)<|Ra z<|Wn<|Wc z (fun hc2d => ?_) (fun hc2d => ?_)
 ·refine Ws<|R z (lN (vs := [sl A0 N0 C0]) P_ F_ z z fid<|((ho.e h0).c h1<|djs<|mm1 hn.lt h4.s).row 0 1 z)<|R z (lN (vs := (vR xa ab nc cd ae nf cg ah ni cj ak nl cm)) N_ t_ z z fid<|h9.row 0 8 z)<|Rm z<|Rm z ?_
  have h2e := lt_ h3.s h4.s
  have h4n : ∀ k ∈ [w7.z], ¬ B k := or0 (f_ lr)  (r_ (zt' hBw h2e))
  have h4o := (h8.e h0).c h1<|k_ h4n
  have h1a := (h0.ag B).c h1<|k_ h4n
  have h2f := lt_ (lt_ h2e h0.s) h1.s
  obtain ⟨r84, r10j, r10k, e85, hm86⟩ := O_ (ifT hm4m hc2d)
  refine E z (fc call173 z<|ih4.run (B := B) e85 (zt' hBw h2f) (p1_0.g h4o) hu hv hp (hq.g h1a) (hw.g h1a) (hx.g h1a) (ht.g h1a) (p3_0.g h4o) p4_0) ?_
  rintro _ w10l ⟨s4p, a4q, n4r, c4s, S87, a4t, n4u, c4v, S88, rfl, h89, h8a, h8b, h8c, h8d, h2g, h1b⟩
  iterate 3 refine R z (ext_ z z) ?_
  refine E0 (fs (cur' := [vI r84.number, sl a4q n4r c4s, sl a4t n4u c4v]) i_ z z (((h2.e h0).c h1<|djs<|mmr h2.lt).e s4p) z (lb z) (oA z) z) ?_
  rintro _ w10m ⟨h8e, s8f⟩
  have h2h := s8f.one
  refine Ra z<|Ra z<|Wn ?_
  obtain rfl := som hm86
  have h4w := lt_ h0.s h1.s
  exact Wr<|rtO<|s_ hr (u_ x_ i_ z h8e z) z z ⟨(bM (bup (bM (bup (bup h3 h4) h0) h1<|m1 h2e) s4p) h2h<|m1 h3.s), a4q, n4r, c4s, S87, a4t, n4u, c4v, S88, z, h89, (h8a.c h2h<|p_ (al_ h1b) h2.lt h4w), (h8b.c h2h<|p_ (ar_ h1b) h2.lt h4w), h8c, h8d, (na_ (nl_ h2g) (nr_ h2g)<|nj h2g), (aa_ (m_ (al_ h1b) h2f)<|m_ (ar_ h1b) h2f)⟩
 refine Wk<|Wq (Wd (X := noX) 0 (.rd 0 (.rd 1 (.rd 2 (.rd 3 (.rd 4 (.rd 5 (.rd 6 (.ef 7 (.rd 8 (.rd 9 (.rd 10 (.rd 11 (.rd 12 (.rd 13 (.rd 14 .done))))))))))))))) mo (by kernel_rfl) fun w10n s6 _ => ?_)
 have h4x := ((ho.e h0).c h1<|djs<|mm1 hn.lt h4.s).e s6
 refine dR z z (lN (vs := [sl A0 N0 C0]) P_ F_ z z fid<|h4x.row 0 1 z)<|dR z z (fd a_8 z) ?_
 have h4y := h9.e s6
 refine dR z z (l1 G_ z fid<|h4y.at z) ?_
 obtain ⟨x10o, e8g, hm8h⟩ := bdS (ifF hm4m hc2d)
 have hy := lt_ h3.s h4.s
 have h4z : ∀ k ∈ [w7.z], ¬ B k := or0 (f_ lr)  (r_ (zt' hBw hy))
 have h50 := ((h0.ag B).c h1<|k_ h4z).e s6
 refine dRX z z (at_ (α := Int) B_ z_3 z z z (ht.g h50) e8g) ?_
 rintro _ ⟨b10p, o10q, cs10r, rfl, h8i, h8j, h10s⟩
 obtain ⟨rfl, h8k⟩ := a_7 h8j
 refine dR z z (l1 g_3 z fid<|h8i.at0 z)<|dR z z (mv z)<|dR z z (mv z) ?_
 have h1c := ((h8.e h0).c h1<|k_ h4z).e s6
 have h2i := lt_ (lt_ (lt_ hy h0.s) h1.s) s6.s
 obtain ⟨r10t, r10u, r10v, e8l, hm51⟩ := O_ hm8h
 refine dE z z (fc call166 z<|i_o (B := B) e8l (zt' hBw h2i) (p1_0.g h1c) h8k (p3_0.g h1c) p4_0) (.inr fun _ _ h => A_<|h.1) ?_
 rintro _ w10w ⟨s5, rfl, h52, h53⟩
 refine dR z z (mv z) ?_
 iterate 3 refine dR z z (ext_ z z) ?_
 iterate 3 refine dR z z (asg z) ?_
 refine pD<|Wo<|Wq<|Wb<|Ws<|Rm z<|R z (not_ z)<|Ra z<|Wn<|Wc z (fun hc2j => ?_) (fun hc2j => ?_)
 ·refine Ws<|R z (bP (parts := []) (cs := [vI 0, sl none 0 0, sl none 0 0]) Q_ z z)<|Rm z<|E0 (fs (cur' := [vI 0, sl none 0 0, sl none 0 0]) i_ z z ((((h2.e h0).c h1<|djs<|mmr h2.lt).e s6).e s5) z (lb z) (oA z) z) ?_
  rintro _ w10x ⟨h8m, s8n⟩
  refine Ra z<|Ra z<|Wn ?_
  obtain rfl := som (ifT hm51 hc2j)
  exact Wr<|rtO<|s_ hr (u_ x_ i_ z h8m z) z z ⟨(bM (bup (bup (bM (bup (bup h3 h4) h0) h1<|m1 hy) s6) s5) s8n.one<|m1 h3.s), none, 0, 0, [], none, 0, 0, [], z, (ii z), onL, onL, p4_0, (ii z), nd0, al0⟩
 have hm54 := ifF hm51 hc2j
 refine Ws<|R z (fd b_x z) ?_
 have h55 := h4y.e s5
 refine R z (l1 g_3 z fid<|h55.at z)<|R z (eql z z)<|Ra z<|Wn<|Wc z (fun hc2k => ?_) (fun hc2k => ?_)
 ·refine Ws<|Rm z<|Rm z<|Rm z ?_
  have h2l := lt_ h2i s5.s
  obtain ⟨r8o, r10y, r10z, e8p, hm8q⟩ := O_ (ifT hm54 hc2k)
  refine E z (fc call168 z<|W_w0y (B := B) e8p (zt' hBw h2l) (p3_0.g<|h1c.e s5) h53 h52) ?_
  rintro _ w110 ⟨s56, a57, n58, c59, S8r, a5a, n5b, c5c, S8s, rfl, h8t, h8u, h8v, h8w, h8x, h2m, h1d⟩
  iterate 3 refine R z (ext_ z z) ?_
  refine E0 (fs (cur' := [vI r8o.number, sl a57 n58 c59, sl a5a n5b c5c]) i_ z z (((((h2.e h0).c h1<|djs<|mmr h2.lt).e s6).e s5).e s56) z (lb z) (oA z) z) ?_
  rintro _ w111 ⟨h8y, s8z⟩
  have h2n := s8z.one
  refine Ra z<|Ra z<|Wn ?_
  obtain rfl := som hm8q
  have h5d := lt_ (lt_ (lt_ h0.s h1.s) s6.s) s5.s
  exact Wr<|rtO<|s_ hr (u_ x_ i_ z h8y z) z z ⟨(bM (bup (bup (bup (bM (bup (bup h3 h4) h0) h1<|m1 hy) s6) s5) s56) h2n<|m1 h3.s), a57, n58, c59, S8r, a5a, n5b, c5c, S8s, z, h8t, (h8u.c h2n<|p_ (al_ h1d) h2.lt h5d), (h8v.c h2n<|p_ (ar_ h1d) h2.lt h5d), h8w, h8x, (na_ (nl_ h2m) (nr_ h2m)<|nj h2m), (aa_ (m_ (al_ h1d) h2l)<|m_ (ar_ h1d) h2l)⟩
 have hm5e := ifF hm54 hc2k
 refine Ws<|Rm z<|R z (a_c z z)<|Ra z<|Wn<|Wc z (fun hc2o => ?_) (fun hc2o => ?_)
 ·refine Ws<|R z (bP (parts := []) (cs := [vI 0, sl none 0 0, sl none 0 0]) Q_ z z)<|Rm z<|E0 (fs (cur' := [vI 0, sl none 0 0, sl none 0 0]) i_ z z ((((h2.e h0).c h1<|djs<|mmr h2.lt).e s6).e s5) z (lb z) (oA z) z) ?_
  rintro _ w112 ⟨h90, s91⟩
  refine Ra z<|Ra z<|Wn ?_
  obtain rfl := som (ifT hm5e hc2o)
  exact Wr<|rtO<|s_ hr (u_ x_ i_ z h90 z) z z ⟨(bM (bup (bup (bM (bup (bup h3 h4) h0) h1<|m1 hy) s6) s5) s91.one<|m1 h3.s), none, 0, 0, [], none, 0, 0, [], z, (ii z), onL, onL, p4_0, (ii z), nd0, al0⟩
 refine Wk<|Ws<|R z (lN (vs := [sl A0 N0 C0]) P_ F_ z z fid<|(h4x.e s5).row 0 1 z)<|R z (lN (vs := (vR xa ab nc cd ae nf cg ah ni cj ak nl cm)) N_ t_ z z fid<|h55.row 0 8 z)<|Rm z<|Rm z<|Rm z ?_
 have h5f := h1c.e s5
 have h1e := h50.e s5
 have h2p := lt_ h2i s5.s
 obtain ⟨r92, r113, r114, e93, hm94⟩ := O_ (ifF hm5e hc2o)
 refine E z (fc call170 z<|ih1.run (B := B) e93 (zt' hBw h2p) (p1_0.g h5f) hu hv hp (hq.g h1e) (hw.g h1e) (hx.g h1e) (ht.g h1e) (ii z) h52 (p3_0.g h5f) h53) ?_
 rintro _ w115 ⟨s5g, a5h, n5i, c5j, S95, a5k, n5l, c5m, S96, rfl, h97, h98, h99, h9a, h9b, h2q, h1f⟩
 iterate 3 refine R z (ext_ z z) ?_
 refine E0 (fs (cur' := [vI r92.number, sl a5h n5i c5j, sl a5k n5l c5m]) i_ z z (((((h2.e h0).c h1<|djs<|mmr h2.lt).e s6).e s5).e s5g) z (lb z) (oA z) z) ?_
 rintro _ w116 ⟨h9c, s9d⟩
 have h2r := s9d.one
 refine Ra z<|Ra z<|Wn ?_
 obtain rfl := som hm94
 have h5n := lt_ (lt_ (lt_ h0.s h1.s) s6.s) s5.s
 exact Wr<|s_ hr (u_ x_ i_ z h9c z) z z ⟨(bM (bup (bup (bup (bM (bup (bup h3 h4) h0) h1<|m1 hy) s6) s5) s5g) h2r<|m1 h3.s), a5h, n5i, c5j, S95, a5k, n5l, c5m, S96, z, h97, (h98.c h2r<|p_ (al_ h1f) h2.lt h5n), (h99.c h2r<|p_ (ar_ h1f) h2.lt h5n), h9a, h9b, (na_ (nl_ h2q) (nr_ h2q)<|nj h2q), (aa_ (m_ (al_ h1f) h2p)<|m_ (ar_ h1f) h2p)⟩
theorem T_w0z (ih : e_m n) : i_r (f_Y n (a_6 n)) := by
 obtain ⟨ih0, ih1, ih2, ih3, ih4⟩ := ih
 constructor
 intro A0 A3 A4 A2 A5 AF N0 C0 N3 C3 N4 C4 N2 C2 N5 C5 NF CF B x1 x2 x3 x4 x5 x6 res w0 hm hBw p1_0 p2_0 p2_1 p2_2 p2_4 p2_5 p2_6 p2_7 p3_0 p4_0 p5_0 p6_0
 unfold f_Y at hm
 refine goF func170 z z (lb z) fun fn hr => Ws<|E z (fb z) ?_
 rintro _ w15 ⟨rfl, h23⟩
 have hd := h23.below
 have h1h : Blk w15 w0.z [sl A0 N0 C0] := h23.blk
 refine E z (fb z) ?_
 rintro _ wr ⟨rfl, h24⟩
 have hb := h24.below
 have h1i : Blk wr w15.z (vR x2 A3 N3 C3 A4 N4 C4 A2 N2 C2 A5 N5 C5) := h24.blk
 refine E z (fa a_9) ?_
 rintro _ w1 ⟨rfl, h25⟩
 have h5 := h25.below
 have hu : Blk w1 wr.z [vI 0, sl none 0 0, sl none 0 0] := h25.blk
 refine Ra z<|Ra z<|Wn<|Ws<|R z (bP (parts := []) (cs := [vI 0, sl none 0 0, sl none 0 0]) Q_ z z)<|E z (fa a_9) ?_
 rintro _ w4b ⟨rfl, h26⟩
 have h3 := h26.below
 have hv : Blk w4b w1.z [vI 0, sl none 0 0, sl none 0 0] := h26.blk
 refine E0 (fs (cur' := [vI 0, sl none 0 0, sl none 0 0]) i_ z z hv z (lb z) (oA z) z) ?_
 rintro _ w2 ⟨h4c, s4d⟩
 have h0 := s4d.one
 refine Wn<|Wq<|Ws<|Ra z<|Wn ?_
 obtain ⟨u6x, hu4e, hm27⟩ := bdS hm
 refine Wf (σ := Int × (List Val)) (ρ := Val × Int × Int) (fun (k1j : Nat) s a w => un2 (fun xc xp => ∃ a8 n9 ca S6, Sat 52 [(2, vI x3), (3, vI x4), (4, sl AF NF CF), (5, vI xc), (6, pt w0.z), (7, pt w15.z), (12, pt wr.z), (15, pt w1.z), (16, (vI ((k1j : Nat) : Int)))] a ∧ Chg (· ∈ [w1.z]) w2 w ∧ inI xc ∧ b_ w S6 (sl a8 n9 ca) xp ∧ S6.Nodup ∧ (∀ k ∈ S6, w2.z ≤ k) ∧ Blk w w1.z [vI 0, sl none 0 0, sl a8 n9 ca]) s) (fun s a w => un2 (fun xc xp => ∃ a8 n9 ca S6, Sat 52 [(5, vI xc), (12, pt wr.z), (15, pt w1.z)] a ∧ Chg (· ∈ [w1.z]) w2 w ∧ inI xc ∧ b_ w S6 (sl a8 n9 ca) xp ∧ S6.Nodup ∧ (∀ k ∈ S6, w2.z ≤ k) ∧ Blk w w1.z [vI 0, sl none 0 0, sl a8 n9 ca]) s) (fun r ex a w => ex = .ret ∧ v_ prog fn (Q17 w0 B r) a w) hu4e ?_ ?_ ?_ ?_ ?_
 ·exact fun _ q => ⟨none, 0, 0, [], (q.k<|s9 z z z z z z z z z), (cr [w1.z] w2), p6_0, onL, K_, an_, h4c⟩
 ·rintro k1j ⟨xc, xp⟩ a6y wg o6z hk16 ⟨a8, n9, ca, S6, hS4f, s4, hh, hi, hw, he, hx⟩ hm4g
  have hm4h := a_2 hm4g
  refine Wu ?_ hS4f
  refine Wq<|Ws<|Rm z<|Rm z<|R z (lss z z)<|Wn<|Wc z (fun _ => ?_) (fun hc => (h_e hk16 hc).elim)
  refine Wk<|Wq<|Wb<|Wq ?_
  obtain ⟨u4i, hu28, hm4j⟩ := bdS hm4h
  refine Wt (fun a w => ∃ (xj : Int) (x17 : List UInt8) (x18 : List Val) (xs : Int) (x19 : Int), (xj, x17, x18, xs, x19) = u4i ∧ ∃ ay nz c10 Sk a11 n12 c13 Sl gq, Sat 52 [(2, vI x3), (3, vI x4), (4, sl AF NF CF), (6, pt w0.z), (7, pt w15.z), (12, pt wr.z), (15, pt w1.z), (16, (vI ((k1j : Nat) : Int))), (17, pt gq), (18, vI xs), (19, vI x19)] a ∧ Below wg.z wg w ∧ inI xj ∧ b_ w Sk (sl ay nz c10) x17 ∧ Sk.Nodup ∧ (∀ k ∈ Sk, wg.z ≤ k) ∧ b_ w Sl (sl a11 n12 c13) x18 ∧ Sl.Nodup ∧ (∀ k ∈ Sl, wg.z ≤ k) ∧ (∀ k ∈ Sl, k ∉ Sk) ∧ inI xs ∧ inI x19 ∧ Blk w gq [vI xj, sl ay nz c10, sl a11 n12 c13] ∧ wg.z ≤ gq ∧ (∀ k ∈ Sk, k ∉ [gq]) ∧ (∀ k ∈ Sl, k ∉ [gq])) ?_ ?_
  ·refine Wd (X := fun k => k ∈ ([] : List Nat) ∨ wg.z ≤ k) 0 (.rd 0 (.rd 1 (.rd 2 (.rd 3 (.rd 5 (.rd 6 (.br 4 (.br 7 (.rd 8 (.rd 9 (.rd 10 (.rd 11 (.ef 12 (.ef 13 (.rd 14 (.rd 15 .done)))))))) 12 (.ef 7 (.rd 8 (.rd 9 (.rd 10 (.rd 11 (.ef 13 (.rd 14 (.rd 15 .done))))))))) 12 (.ef 4 (.ef 7 (.rd 8 (.rd 9 (.rd 10 (.rd 11 (.ef 13 (.rd 14 (.rd 15 .done)))))))))))))))) mo (by kernel_rfl) fun w29 s7 _ => ?_
   have h2a := lt_ hb.s h5.s
   have h2b := mm1 h1h.lt h2a
   refine dR z z (lN (vs := [sl A0 N0 C0]) P_ F_ z z (d_6 nm0<|Nat.lt_of_lt_of_le h1h.lt<|lt_ (lt_ (lt_ h2a h3.s) h0.s) s4.s)<|((((((h1h.e hb).e h5).e h3).c h0<|djs h2b).c s4<|djs h2b).e s7).row 0 1 z) ?_
   have h2c := mm1 h1i.lt h5.s
   refine dR z z (lN (vs := (vR x2 A3 N3 C3 A4 N4 C4 A2 N2 C2 A5 N5 C5)) N_ t_ z z (d_6 nm0<|Nat.lt_of_lt_of_le h1i.lt<|lt_ (lt_ (lt_ h5.s h3.s) h0.s) s4.s)<|(((((h1i.e h5).e h3).c h0<|djs h2c).c s4<|djs h2c).e s7).row 0 8 z) ?_
   iterate 4 refine dR z z (mv z) ?_
   refine d_o ?_ ?_
   ·have h2d := lt_ (lt_ hd.s hb.s) h5.s
    have h2e : ∀ k ∈ [w1.z], ¬ B k := or0 (f_ lr)  (r_ (zt' hBw h2d))
    have ht := ((((((hd.ag B).e hb).e h5).e h3).c h0<|k_ h2e).c s4<|k_ h2e).e s7
    have h1k := lt_ (lt_ (lt_ (lt_ h2d h3.s) h0.s) s4.s) s7.s
    obtain ⟨r70, e4k, hm2f⟩ := bdS hu28
    refine dE z z (fc call201 z<|i_p (B := B) e4k (zt' hBw h1k) p2_0 p2_1 p2_2 (p2_4.g ht) (p2_5.g ht) (p2_6.g ht) (p2_7.g ht) p3_0<|ic (Nat.le_of_lt hk16)<|tl_ p4_0) (.inr fun _ _ h => A_<|h.1) ?_
    rintro _ w2g ⟨sf, rfl, h2h⟩
    refine d_o ?_ ?_
    ·have h2i := ht.e sf
     obtain ⟨r1a, r4l, r4m, e4n, hm4o⟩ := O_ hm2f
     refine dE z z (fc call147 z<|ih0.run (B := B) e4n (zt' hBw<|lt_ h1k sf.s) (p1_0.g h2i) h2h (p5_0.g h2i) hh) (.inr fun _ _ h => A_<|h.1) ?_
     rintro _ w2j ⟨s2k, a2l, n2m, c2n, S4p, a2o, n2p, c2q, S4q, rfl, h4r, h2r, h2s, h4s, h4t, h1l, h2t⟩
     refine dR z z (mv z) ?_
     iterate 3 refine dR z z (ext_ z z) ?_
     refine dE z z (fa a_9) (.inr fun _ _ h => A_<|h.2.below) ?_
     rintro _ w4u ⟨rfl, h2u⟩
     have h1m := h2u.below
     have h4v : Blk w4u w2j.z [vI 0, sl none 0 0, sl none 0 0] := h2u.blk
     have h1n := lt_ s7.s sf.s
     have h1o := m1<|lt_ h1n s2k.s
     refine dE0 z (fs (cur' := [vI r1a.number, sl a2l n2m c2n, sl a2o n2p c2q]) i_ z z h4v z (lb z) (oA z) z) (.inr fun _ _ h => b_S (atp h1o) h.2) ?_
     rintro _ w71 ⟨h4w, s4x⟩
     have h1p := s4x.one
     refine dR z z (asg z)<|dR z z (asg z)<|pD ?_
     have h2v := mnr<|b_.lt h2r
     have h2w := mnr<|b_.lt h2s
     exact fun _ q => ⟨r1a.number, r1a.bytes, r1a.items, r4l, r4m, som hm4o, a2l, n2m, c2n, S4p, a2o, n2p, c2q, S4q, w2j.z, (q.k<|sc z<|sc z<|sc z<|sc z<|sc z<|sc z<|sc z<|sc z<|sc z<|sc z<|sc z sn), (bM (bup (bup (bup s7 sf) s2k) h1m) h1p h1o), h4r, ((h2r.e h1m).c h1p<|ds h2v), (nl_ h1l), (m_ (al_ h2t) h1n), ((h2s.e h1m).c h1p<|ds h2w), (nr_ h1l), (m_ (ar_ h2t) h1n), (ds<|nj h1l), h4s, h4t, h4w, (atp h1o), (ds h2v), (ds h2w)⟩
    refine dE z z (fa a_9) (.inr fun _ _ h => A_<|h.2.below) ?_
    rintro _ w4y ⟨rfl, h2x⟩
    have h1b := h2x.below
    have h1q : Blk w4y w2g.z [vI 0, sl none 0 0, sl none 0 0] := h2x.blk
    have h2y := (ht.e sf).e h1b
    obtain ⟨r1c, r4z, r50, e51, hm52⟩ := O_ hm2f
    refine dE z z (fc call147 z<|ih0.run (B := B) e51 (zt' hBw<|lt_ (lt_ h1k sf.s) h1b.s) (p1_0.g h2y) h2h (p5_0.g h2y) hh) (.inr fun _ _ h => A_<|h.1) ?_
    rintro _ w72 ⟨s2z, a30, n31, c32, S53, a33, n34, c35, S54, rfl, h55, h56, h57, h58, h59, h1r, h1d⟩
    refine dR z z (mv z) ?_
    iterate 3 refine dR z z (ext_ z z) ?_
    have h36 := lt_ s7.s sf.s
    have h1s := m1 h36
    refine dE0 z (fs (cur' := [vI r1c.number, sl a30 n31 c32, sl a33 n34 c35]) i_ z z (h1q.e s2z) z (lb z) (oA z) z) (.inr fun _ _ h => b_S (atp h1s) h.2) ?_
    rintro _ w73 ⟨h5a, s5b⟩
    have h1t := s5b.one
    refine dR z z (asg z)<|dR z z (asg z)<|pD ?_
    have h37 := p_ (al_ h1d) h1q.lt lr
    have h38 := lt_ h36 h1b.s
    have h39 := p_ (ar_ h1d) h1q.lt lr
    exact fun _ q => ⟨r1c.number, r1c.bytes, r1c.items, r4z, r50, som hm52, a30, n31, c32, S53, a33, n34, c35, S54, w2g.z, (q.k<|sc z<|sc z<|sc z<|sc z<|sc z<|sc z<|sc z<|sc z<|sc z<|sc z<|sc z sn), (bM (bup (bup (bup s7 sf) h1b) s2z) h1t h1s), h55, (h56.c h1t h37), (nl_ h1r), (m_ (al_ h1d) h38), (h57.c h1t h39), (nr_ h1r), (m_ (ar_ h1d) h38), (ds<|nj h1r), h58, h59, h5a, (atp h1s), h37, h39⟩
   refine dE z z (fa a_9) (.inr fun _ _ h => A_<|h.2.below) ?_
   rintro _ w5c ⟨rfl, h3a⟩
   have h1e := h3a.below
   have h1u : Blk w5c w29.z [vI 0, sl none 0 0, sl none 0 0] := h3a.blk
   have h3b := lt_ (lt_ hd.s hb.s) h5.s
   have h3c : ∀ k ∈ [w1.z], ¬ B k := or0 (f_ lr)  (r_ (zt' hBw h3b))
   have h14 := (((((((hd.ag B).e hb).e h5).e h3).c h0<|k_ h3c).c s4<|k_ h3c).e s7).e h1e
   have h3d := lt_ (lt_ (lt_ (lt_ (lt_ h3b h3.s) h0.s) s4.s) s7.s) h1e.s
   obtain ⟨r74, e5d, hm5e⟩ := bdS hu28
   refine dE z z (fc call201 z<|i_p (B := B) e5d (zt' hBw h3d) p2_0 p2_1 p2_2 (p2_4.g h14) (p2_5.g h14) (p2_6.g h14) (p2_7.g h14) p3_0<|ic (Nat.le_of_lt hk16)<|tl_ p4_0) (.inr fun _ _ h => A_<|h.1) ?_
   rintro _ w75 ⟨sm, rfl, h5f⟩
   have h3e := h14.e sm
   obtain ⟨r1f, r5g, r5h, e5i, hm5j⟩ := O_ hm5e
   refine dE z z (fc call147 z<|ih0.run (B := B) e5i (zt' hBw<|lt_ h3d sm.s) (p1_0.g h3e) h5f (p5_0.g h3e) hh) (.inr fun _ _ h => A_<|h.1) ?_
   rintro _ w76 ⟨s3f, a3g, n3h, c3i, S5k, a3j, n3k, c3l, S5l, rfl, h5m, h5n, h5o, h5p, h5q, h1v, h1g⟩
   refine dR z z (mv z) ?_
   iterate 3 refine dR z z (ext_ z z) ?_
   have h1w := m1 s7.s
   refine dE0 z (fs (cur' := [vI r1f.number, sl a3g n3h c3i, sl a3j n3k c3l]) i_ z z ((h1u.e sm).e s3f) z (lb z) (oA z) z) (.inr fun _ _ h => b_S (atp h1w) h.2) ?_
   rintro _ w77 ⟨h5r, s5s⟩
   have h1x := s5s.one
   refine dR z z (asg z)<|dR z z (asg z)<|pD ?_
   have h3m := p_ (al_ h1g) h1u.lt sm.s
   have h3n := lt_ (lt_ s7.s h1e.s) sm.s
   have h3o := p_ (ar_ h1g) h1u.lt sm.s
   exact fun _ q => ⟨r1f.number, r1f.bytes, r1f.items, r5g, r5h, som hm5j, a3g, n3h, c3i, S5k, a3j, n3k, c3l, S5l, w29.z, (q.k<|sc z<|sc z<|sc z<|sc z<|sc z<|sc z<|sc z<|sc z<|sc z<|sc z<|sc z sn), (bM (bup (bup (bup s7 h1e) sm) s3f) h1x h1w), h5m, (h5n.c h1x h3m), (nl_ h1v), (m_ (al_ h1g) h3n), (h5o.c h1x h3o), (nr_ h1v), (m_ (ar_ h1g) h3n), (ds<|nj h1v), h5p, h5q, h5r, (atp h1w), h3m, h3o⟩
  rintro a5t w3p ⟨xj, x17, x18, xs, x19, rfl, ay, nz, c10, Sk, a11, n12, c13, Sl, gq, hS78, so, h5u, h5v, h5w, h1y, h5x, h5y, h1z, h5z, h3q, h60, h61, h79, h7a, h7b⟩
  have hm3r := un5S hm4j
  revert a5t
  refine Wo<|Wq<|Ws<|Rm z<|R z (nq z z)<|Wn<|Wc z (fun hc20 => ?_) (fun hc20 => ?_)
  ·refine Ws<|R z (bP (parts := []) (cs := [vI 0, sl none 0 0, sl none 0 0]) Q_ z z)<|Rm z<|Rm z ?_
   have h3s := mmr hu.lt
   refine E0 (fs (cur' := [vI 0, sl none 0 0, sl none 0 0]) i_ z z ((((hu.e h3).c h0<|djs h3s).c s4<|djs h3s).e so) z (lb z) (oA z) z) ?_
   rintro _ w7c ⟨h62, s63⟩
   refine Ra z<|Ra z<|Wn ?_
   have h3t := lt_ hd.s hb.s
   have h3u := m1<|lt_ h3t h5.s
   exact Wr<|rtO<|qL (som<|ifT hm3r hc20).symm<|s_ hr (u_ x_ i_ z h62 z) z z ⟨(bM (bup (bM (bM (bup (bup (bup hd hb) h5) h3) h0 h3u) s4 h3u) so) s63.one<|m1 h3t), none, 0, 0, [], none, 0, 0, [], z, (ii z), onL, onL, h3q, h60, nd0, al0⟩
  refine Wk<|Ws<|R z (fd g_X z) ?_
  have h3v := hx.e so
  refine R z (l1 g_116 z fid<|h3v.at z)<|R z (lN (vs := [vI xj, sl ay nz c10, sl a11 n12 c13]) x_ i_ z z fid<|h61.row 0 3 z)<|E z (fS [(.tmp 45)] g_W z z z (a_p z) (lb z)<|lb z) ?_
  rintro _ w3w ⟨rfl, h3x⟩
  have hn := h3x.below
  have h64 : Blk w3w w3p.z [vI xj, sl ay nz c10, sl a11 n12 c13] := h3x.blk
  obtain ⟨x65, e66, hm67⟩ := bdS (ifF hm3r hc20)
  refine E z (b_d (α := Val) g_W e66 z z ((hi.e so).e hn) hw h64 (n_e (x := (⟨xj, x17, x18⟩ : Val)) (S1 := Sk) (S2 := Sl) h5u (h5v.e hn)<|h5x.e hn) (aa_ (a_u h1y (b_.lt hi) lr)<|a_u h1z (b_.lt hi) lr)<|na_ h5w h5y<|ds h5z) ?_
  rintro _ w68 ⟨S21, a3y, n3z, c40, rfl, s41, h69, h6a, h42⟩
  refine R z (fd g_X z) ?_
  have h43 := p_ he hv.lt h0.s
  refine E0 (fs (cur' := [vI 0, sl none 0 0, sl a3y n3z c40]) z_116 z z ((h3v.e hn).c s41<|djs h43) z (lb z) (oA z) z) ?_
  rintro _ w6b ⟨h6c, s6d⟩
  have h44 := s6d.one
  refine Wn<|Wg<|Rm z<|Ra z<|Wn<|Wg<|Rm z<|R z (inc_ hk16 (tl_ p4_0) z z)<|Ra z<|Wl ?_
  have h22 := lt_ h0.s s4.s
  have h6e : ∀ k ∈ S21, k ∉ [w1.z] := or2 h42 h43 (aa_ (p_ h1y hv.lt h22) (p_ h1z hv.lt h22)) (a_A (f_ hv.lt) (lt_ (lt_ h22 so.s) hn.s))
  have h6f : ∀ k ∈ S21, w2.z ≤ k := or2 h42 he (aa_ (m_ h1y s4.s) (m_ h1z s4.s)) (a_E (lt_ (lt_ s4.s so.s) hn.s))
  have h6g : Chg (· ∈ [w1.z]) w2 wg := cM (cr [w1.z] w2) s4 (io sr)
  have h6h : Chg (· ∈ [w1.z]) w2 w3p := z_ h6g so
  have h6i : Chg (· ∈ [w1.z]) w2 w3w := z_ h6h hn
  have h6j : ∀ k ∈ S6, k ∈ [w1.z] ∨ w2.z ≤ k := or0 he  (l_ lr)
  have h6k : Chg (· ∈ [w1.z]) w2 w68 := cM h6i s41 h6j
  have h6l : Chg (· ∈ [w1.z]) w2 w6b := cM h6k h44 (io sr)
  exact fun _ q => ⟨(xs, x65), (som hm67).symm, ⟨a3y, n3z, c40, S21, (q.k<|s9 z z z z z z z z z), h6l, h3q, (h69.c h44 h6e), h6a, h6f, h6c⟩⟩
 ·rintro ⟨xc, xp⟩ a7d w6m ⟨a8, n9, ca, S6, hS6n, s6o, hh, hi, hw, he, hx⟩
  refine Wu ?_ hS6n
  refine Wq<|Ws<|Rm z<|Rm z<|R z (lss z z)<|Wn<|Wc z (fun hc => (h_f hc).elim) (fun _ => ?_)
  have h6p : Chg (· ∈ [w1.z]) w2 w6m := cM (cr [w1.z] w2) s6o (io sr)
  exact We (fun a' ha' => ⟨rfl, ⟨a8, n9, ca, S6, (Sat.weaken ha'<|s3 z z z), h6p, hh, hi, hw, he, hx⟩⟩)
 ·rintro ⟨xc, xp⟩ a6q w7e rfl ⟨a8, n9, ca, S6, hS7f, s45, hh, hi, hw, he, hx⟩
  have hm6r := elL hm27
  have hm6s := a_2 hm6r
  revert a6q
  refine Wo<|Ws<|R z (lN (vs := [vI 0, sl none 0 0, sl a8 n9 ca]) x_ i_ z z fid<|hx.row 0 3 z)<|Rm z ?_
  have h46 := mmr hu.lt
  refine E0 (fs (cur' := [vI 0, sl none 0 0, sl a8 n9 ca]) i_ z z (((hu.e h3).c h0<|djs h46).c s45<|djs h46) z (lb z) (oA z) z) ?_
  rintro _ w7g ⟨h6t, s6u⟩
  have h47 := s6u.one
  refine Ra z<|Ra z<|Wn ?_
  obtain rfl := som hm6s
  have h48 := lt_ hd.s hb.s
  have h49 := lt_ h48 h5.s
  have h4a := m1 h49
  exact Wr<|s_ hr (u_ x_ i_ z h6t z) z z ⟨(bM (bM (bM (bup (bup (bup hd hb) h5) h3) h0 h4a) s45 h4a) h47<|m1 h48), none, 0, 0, [], a8, n9, ca, S6, z, (ii z), onL, (hi.c h47<|p_ he hu.lt<|lt_ h3.s h0.s), hh, (ii z), (na_ K_ hw an_), (aa_ an_<|m_ he<|lt_ (lt_ h49 h3.s) h0.s)⟩
 rintro r7h ex7i a7j w7k rfl ⟨rfl, hq6v⟩
 have hm6w := elR hm27
 obtain rfl := som hm6w
 exact ⟨hq6v, z⟩
theorem T_w10 (ih : e_m n) : i_s (f_Z n (a_6 n)) := by
 obtain ⟨ih0, ih1, ih2, ih3, ih4⟩ := ih
 constructor
 intro A0 A3 A4 A2 A5 A7 N0 C0 N3 C3 N4 C4 N2 C2 N5 C5 N7 C7 B x1 x2 x3 x4 res w0 hm hBw p1_0 p2_0 p2_1 p2_2 p2_4 p2_5 p2_6 p2_7 p3_0 p4_0
 unfold f_Z at hm
 refine goF func171 z z (lb z) fun fn hr => Ws<|E z (fb z) ?_
 rintro _ wy ⟨rfl, hz⟩
 have hf := hz.below
 have h1k : Blk wy w0.z [sl A0 N0 C0] := hz.blk
 refine E z (fb z) ?_
 rintro _ wq ⟨rfl, h10⟩
 have h5 := h10.below
 have h1l : Blk wq wy.z (vR x2 A3 N3 C3 A4 N4 C4 A2 N2 C2 A5 N5 C5) := h10.blk
 refine E z (fa a_9) ?_
 rintro _ w1m ⟨rfl, h11⟩
 have h3 := h11.below
 have h6 : Blk w1m wq.z [vI 0, sl none 0 0, sl none 0 0] := h11.blk
 refine Ra z<|Ra z<|Wn<|Wq (Wd (X := noX) 0 (.rd 0 (.rd 1 (.rd 2 (.rd 3 (.rd 4 (.rd 5 (.rd 6 (.ef 7 (.rd 8 (.rd 9 (.rd 10 (.rd 11 (.rd 12 (.rd 13 (.rd 14 .done))))))))))))))) mo (by kernel_rfl) fun w2m s0 _ => ?_)
 have h12 := ((h1k.e h5).e h3).e s0
 refine dR z z (lN (vs := [sl A0 N0 C0]) P_ F_ z z fid<|h12.row 0 1 z)<|dR z z (fd a_8 z) ?_
 have h13 := (h1l.e h3).e s0
 refine dR z z (l1 G_ z fid<|h13.at z) ?_
 obtain ⟨x2n, e1n, hm1o⟩ := bdS hm
 have hh := (((hf.ag B).e h5).e h3).e s0
 refine dRX z z (at_ (α := Int) B_ z_3 z z z (p2_7.g hh) e1n) ?_
 rintro _ ⟨b2o, o2p, cs2q, rfl, h1p, h1q, h2r⟩
 obtain ⟨rfl, h1r⟩ := a_7 h1q
 refine dR z z (l1 g_3 z fid<|h1p.at0 z)<|dR z z (mv z)<|dR z z (mv z) ?_
 have hi := lt_ hf.s h5.s
 have h14 := lt_ (lt_ hi h3.s) s0.s
 obtain ⟨r15, r2s, r2t, e1s, hm16⟩ := O_ hm1o
 refine dE z z (fc call166 z<|i_o (B := B) e1s (zt' hBw h14) (p1_0.g hh) h1r (p3_0.g hh) p4_0) (.inr fun _ _ h => A_<|h.1) ?_
 rintro _ w2u ⟨s1, rfl, ht, h1t⟩
 refine dR z z (mv z) ?_
 iterate 3 refine dR z z (ext_ z z) ?_
 iterate 3 refine dR z z (asg z) ?_
 refine pD<|Wo<|Wq<|Ws<|Rm z<|R z (not_ z)<|Wn<|Wc z (fun hcr => ?_) (fun hcr => ?_)
 ·refine Ws<|R z (bP (parts := []) (cs := [vI 0, sl none 0 0, sl none 0 0]) Q_ z z)<|Rm z<|E0 (fs (cur' := [vI 0, sl none 0 0, sl none 0 0]) i_ z z ((h6.e s0).e s1) z (lb z) (oA z) z) ?_
  rintro _ w2v ⟨h1u, s1v⟩
  refine Ra z<|Ra z<|Wn ?_
  obtain rfl := som (ifT hm16 hcr)
  exact Wr<|s_ hr (u_ x_ i_ z h1u z) z z ⟨(bM (bup (bup (bup (bup hf h5) h3) s0) s1) s1v.one<|m1 hi), none, 0, 0, [], none, 0, 0, [], z, (ii z), onL, onL, p4_0, (ii z), nd0, al0⟩
 refine Wk<|Wq<|Ws ?_
 have h17 := h13.e s1
 refine R z (lN (vs := (vR x2 A3 N3 C3 A4 N4 C4 A2 N2 C2 A5 N5 C5)) N_ t_ z z fid<|h17.row 0 8 z)<|Rm z ?_
 have hg := hh.e s1
 have h18 := lt_ h14 s1.s
 obtain ⟨r2w, e1w, hm19⟩ := bdS (ifF hm16 hcr)
 refine E z (fc call201 z<|i_p (B := B) e1w (zt' hBw h18) p2_0 p2_1 p2_2 (p2_4.g hg) (p2_5.g hg) (p2_6.g hg) (p2_7.g hg) ht<|ii z) ?_
 rintro _ w2x ⟨s2, rfl, h2y⟩
 refine R z (lss z z)<|Wn<|Wc z (fun hcs => ?_) (fun hcs => ?_)
 ·refine Ws<|R z (bP (parts := []) (cs := [vI 0, sl none 0 0, sl none 0 0]) Q_ z z)<|Rm z<|E0 (fs (cur' := [vI 0, sl none 0 0, sl none 0 0]) i_ z z (((h6.e s0).e s1).e s2) z (lb z) (oA z) z) ?_
  rintro _ w2z ⟨h1x, s1y⟩
  refine Ra z<|Ra z<|Wn ?_
  obtain rfl := som (ifT hm19 hcs)
  exact Wr<|s_ hr (u_ x_ i_ z h1x z) z z ⟨(bM (bup (bup (bup (bup (bup hf h5) h3) s0) s1) s2) s1y.one<|m1 hi), none, 0, 0, [], none, 0, 0, [], z, (ii z), onL, onL, p4_0, (ii z), nd0, al0⟩
 refine Wk<|Ws<|R z (lN (vs := [sl A0 N0 C0]) P_ F_ z z fid<|((h12.e s1).e s2).row 0 1 z)<|R z (lN (vs := (vR x2 A3 N3 C3 A4 N4 C4 A2 N2 C2 A5 N5 C5)) N_ t_ z z fid<|(h17.e s2).row 0 8 z)<|Rm z<|Rm z<|Rm z ?_
 have h7 := hg.e s2
 have hj := lt_ h18 s2.s
 obtain ⟨r1a, r1z, r20, e21, hm22⟩ := O_ (ifF hm19 hcs)
 refine E z (fc call170 z<|ih1.run (B := B) e21 (zt' hBw hj) (p1_0.g h7) p2_0 p2_1 p2_2 (p2_4.g h7) (p2_5.g h7) (p2_6.g h7) (p2_7.g h7) ht (ii z) (p3_0.g h7) h1t) ?_
 rintro _ w4 ⟨sk, a8, n9, ca, S23, ab, nc, cd, S24, rfl, h25, h1b, h1c, h26, h27, hu, hl⟩
 refine Rm z ?_
 iterate 3 refine R z (ext_ z z) ?_
 refine E z (fa a_9) ?_
 rintro _ w28 ⟨rfl, h1d⟩
 have hn := h1d.below
 have h29 : Blk w28 w4.z [vI 0, sl none 0 0, sl none 0 0] := h1d.blk
 refine E0 (fs (cur' := [vI r1a.number, sl a8 n9 ca, sl ab nc cd]) i_ z z h29 z (lb z) (oA z) z) ?_
 rintro _ wm ⟨h1e, s2a⟩
 have ho := s2a.one
 refine Ra z<|Ra z<|Wn<|Wq<|Ws<|Rm z<|R z (eql z z)<|Wn ?_
 obtain ⟨u2b, hu1f, hm2c⟩ := bdS hm22
 refine Wt (fun a w => ∃ (xe : Int), xe = u2b ∧ Sat 56 [(8, pt wq.z), (14, pt w4.z), (15, vI r1z), (16, vI r20)] a ∧ Chg (· ∈ [w4.z]) wm w ∧ inI xe ∧ Blk w w4.z [vI xe, sl a8 n9 ca, sl ab nc cd]) ?_ ?_
 ·refine Wc z (fun hcv => ?_) (fun hcv => ?_)
  ·refine Wg<|Rm z<|R z (fd n_G z)<|E0 (fs (cur' := [vI r15, sl a8 n9 ca, sl ab nc cd]) z_3 z z h1e z (lb z) (oA z) z) ?_
   rintro _ w2d ⟨h2e, s2f⟩
   refine Wl ?_
   have h2g : Chg (· ∈ [w4.z]) wm w2d := cM (cr [w4.z] wm) s2f.one (io sr)
   exact fun _ q => ⟨r15, som<|ifT hu1f hcv, (q.k<|s4 z z z z), h2g, ht, h2e⟩
  exact a_J (fun _ q => ⟨r1a.number, som<|ifF hu1f hcv, (q.k<|s4 z z z z), (cr [w4.z] wm), h25, h1e⟩)
 rintro a2h w30 ⟨xe, rfl, hS31, sp, h2i, h2j⟩
 revert a2h
 refine Wo<|Ws<|R z (lN (vs := [vI xe, sl a8 n9 ca, sl ab nc cd]) x_ i_ z z fid<|h2j.row 0 3 z)<|Rm z<|Rm z ?_
 have hw := lt_ (lt_ s0.s s1.s) s2.s
 have h1g := mm1 h6.lt<|lt_ hw sk.s
 refine E0 (fs (cur' := [vI xe, sl a8 n9 ca, sl ab nc cd]) i_ z z (((((((h6.e s0).e s1).e s2).e sk).e hn).c ho<|djs h1g).c sp<|djs h1g) z (lb z) (oA z) z) ?_
 rintro _ w32 ⟨h2k, s2l⟩
 have hx := s2l.one
 refine Ra z<|Ra z<|Wn ?_
 obtain rfl := som hm2c
 have h1h := mnr<|b_.lt h1b
 have h1i := mnr<|b_.lt h1c
 have h1j := m1<|lt_ hj sk.s
 exact Wr<|s_ hr (u_ x_ i_ z h2k z) z z ⟨(bM (bM (bM (bup (bup (bup (bup (bup (bup (bup hf h5) h3) s0) s1) s2) sk) hn) ho h1j) sp h1j) hx<|m1 hi), a8, n9, ca, S23, ab, nc, cd, S24, z, h2i, ((((h1b.e hn).c ho<|ds h1h).c sp<|ds h1h).c hx<|p_ (al_ hl) h6.lt hw), ((((h1c.e hn).c ho<|ds h1i).c sp<|ds h1i).c hx<|p_ (ar_ hl) h6.lt hw), h26, h27, (na_ (nl_ hu) (nr_ hu)<|nj hu), (aa_ (m_ (al_ hl) hj)<|m_ (ar_ hl) hj)⟩
theorem T_w11 (ih : e_m n) : i_t (g_0 n (a_6 n)) := by
 obtain ⟨ih0, ih1, ih2, ih3, ih4⟩ := ih
 constructor
 intro A0 A3 A4 A2 A5 A7 N0 C0 N3 C3 N4 C4 N2 C2 N5 C5 N7 C7 B x1 x2 x3 x4 res w0 hm hBw p1_0 p2_0 p2_1 p2_2 p2_4 p2_5 p2_6 p2_7 p3_0 p4_0
 unfold g_0 at hm
 refine goF func172 z z (lb z) fun fn hr => Ws<|E z (fb z) ?_
 rintro _ wc ⟨rfl, hd⟩
 have h2 := hd.below
 have hu : Blk wc w0.z [sl A0 N0 C0] := hd.blk
 refine E z (fb z) ?_
 rintro _ we ⟨rfl, hf⟩
 have h0 := hf.below
 have hv : Blk we wc.z (vR x2 A3 N3 C3 A4 N4 C4 A2 N2 C2 A5 N5 C5) := hf.blk
 refine E z (fa a_9) ?_
 rintro _ ws ⟨rfl, hg⟩
 have h3 := hg.below
 have h5 : Blk ws we.z [vI 0, sl none 0 0, sl none 0 0] := hg.blk
 refine Ra z<|Ra z<|Wn<|Wq<|Wb<|Ws<|Rm z<|Rm z ?_
 have hh := ((h2.ag B).e h0).e h3
 have hi := p3_0.g hh
 refine R z (lnR h_ z hi)<|R z (a_M z z)<|Ra z<|Wn<|Wc z (fun hc7 => ?_) (fun hc7 => ?_)
 ·refine Ws<|R z (bP (parts := []) (cs := [vI 0, sl none 0 0, sl none 0 0]) Q_ z z)<|Rm z<|E0 (fs (cur' := [vI 0, sl none 0 0, sl none 0 0]) i_ z z h5 z (lb z) (oA z) z) ?_
  rintro _ w1j ⟨hw, sx⟩
  refine Ra z<|Ra z<|Wn ?_
  obtain rfl := som (ifT hm hc7)
  exact Wr<|rtO<|s_ hr (u_ x_ i_ z hw z) z z ⟨(bM (bup (bup h2 h0) h3) sx.one<|m1<|lt_ h2.s h0.s), none, 0, 0, [], none, 0, 0, [], z, (ii z), onL, onL, p4_0, (ii z), nd0, al0⟩
 refine Ws<|Rm z<|Rm z ?_
 obtain ⟨x1k, ey, hmj⟩ := bdS (ifF hm hc7)
 refine RX z (at_ (α := UInt8) h_ z_5 z z z hi ey) ?_
 rintro _ ⟨b1l, o1m, cs1n, rfl, hz, h10, h1o⟩
 obtain rfl := u8 h10
 refine R z (l1 g_5 z fid<|hz.at0 z)<|R z (a_c z z)<|Ra z<|Wn<|Wc z (fun hc8 => ?_) (fun hc8 => ?_)
 ·refine Ws<|R z (bP (parts := []) (cs := [vI 0, sl none 0 0, sl none 0 0]) Q_ z z)<|Rm z<|E0 (fs (cur' := [vI 0, sl none 0 0, sl none 0 0]) i_ z z h5 z (lb z) (oA z) z) ?_
  rintro _ w1p ⟨h11, s12⟩
  refine Ra z<|Ra z<|Wn ?_
  obtain rfl := som (ifT hmj hc8)
  exact Wr<|rtO<|s_ hr (u_ x_ i_ z h11 z) z z ⟨(bM (bup (bup h2 h0) h3) s12.one<|m1<|lt_ h2.s h0.s), none, 0, 0, [], none, 0, 0, [], z, (ii z), onL, onL, p4_0, (ii z), nd0, al0⟩
 refine Wk<|Wq (Wd (X := noX) 16384 (.rd 0 (.rd 1 (.rd 2 (.rd 3 (.rd 4 (.rd 5 (.rd 6 (.rd 7 (.rd 8 (.rd 9 (.ef 10 (.rd 11 (.rd 12 (.rd 13 (.ef 14 (.rd 15 (.rd 16 .done))))))))))))))))) mo (by kernel_rfl) fun w1q s1 _ => dR z z (lN (vs := [sl A0 N0 C0]) P_ F_ z z fid<|(((hu.e h0).e h3).e s1).row 0 1 z)<|dR z z (lN (vs := (vR x2 A3 N3 C3 A4 N4 C4 A2 N2 C2 A5 N5 C5)) N_ t_ z z fid<|((hv.e h3).e s1).row 0 8 z)<|dR z z (mv z)<|dR z z (mv z) ?_)
 obtain ⟨x1r, e13, hm14⟩ := bdS (ifF hmj hc8)
 have h4 := hh.e s1
 have hk := p3_0.g h4
 refine dRX z z (at_ (α := UInt8) h_ z_5 z z z hk e13) ?_
 rintro _ ⟨b1s, o1t, cs1u, rfl, h15, h16, h1v⟩
 obtain rfl := u8 h16
 refine dR z z (l1 g_5 z fid<|h15.at0 z)<|dR z z (b_4 d_5 d_3 z)<|dR z z (mv z)<|dR z z (mv z)<|dR z z (add_ z z) ?_
 have hl := lt_ h2.s h0.s
 have h9 := lt_ (lt_ hl h3.s) s1.s
 obtain ⟨r17, r1w, r1x, e18, hm19⟩ := O_ hm14
 refine dE z z (fc call170 z<|ih1.run (B := B) e18 (zt' hBw h9) (p1_0.g h4) p2_0 p2_1 p2_2 (p2_4.g h4) (p2_5.g h4) (p2_6.g h4) (p2_7.g h4) (ii z) (c_7 _) hk<|iA _ _) (.inr fun _ _ h => A_<|h.1) ?_
 rintro _ w1y ⟨sm, an, no, cp, S1a, aq, nr, ct, S1b, rfl, h1c, h1d, h1e, h1f, h1g, ha, h6⟩
 iterate 3 refine dR z z (ext_ z z) ?_
 refine dE0 z (fs (cur' := [vI r17.number, sl an no cp, sl aq nr ct]) i_ z z ((h5.e s1).e sm) z (lb z) (oA z) z) (.inl z) ?_
 rintro _ w1z ⟨h1h, s1i⟩
 have hb := s1i.one
 refine dR z z (asg z)<|dR z z (asg z)<|pD<|Wo ?_
 obtain rfl := som hm19
 exact Wr<|s_ hr (u_ x_ i_ z h1h z) z z ⟨(bM (bup (bup (bup (bup h2 h0) h3) s1) sm) hb<|m1 hl), an, no, cp, S1a, aq, nr, ct, S1b, z, h1c, (h1d.c hb<|p_ (al_ h6) h5.lt s1.s), (h1e.c hb<|p_ (ar_ h6) h5.lt s1.s), h1f, h1g, (na_ (nl_ ha) (nr_ ha)<|nj ha), (aa_ (m_ (al_ h6) h9)<|m_ (ar_ h6) h9)⟩
theorem T_w12 (ih : e_m n) : i_u (g_1 n (a_6 n)) := by
 obtain ⟨ih0, ih1, ih2, ih3, ih4⟩ := ih
 constructor
 intro A0 A3 A4 A2 A5 A7 N0 C0 N3 C3 N4 C4 N2 C2 N5 C5 N7 C7 B x1 x2 x3 x4 res w0 hm hBw p1_0 p2_0 p2_1 p2_2 p2_4 p2_5 p2_6 p2_7 p3_0 p4_0
 unfold g_1 at hm
 refine goF func173 z z (lb z) fun fn hr => Ws<|E z (fb z) ?_
 rintro _ wu ⟨rfl, hv⟩
 have hh := hv.below
 have h1a : Blk wu w0.z [sl A0 N0 C0] := hv.blk
 refine E z (fb z) ?_
 rintro _ ww ⟨rfl, hx⟩
 have h7 := hx.below
 have h1b : Blk ww wu.z (vR x2 A3 N3 C3 A4 N4 C4 A2 N2 C2 A5 N5 C5) := hx.blk
 refine E z (fa a_9) ?_
 rintro _ w1c ⟨rfl, hy⟩
 have h5 := hy.below
 have h3 : Blk w1c ww.z [vI 0, sl none 0 0, sl none 0 0] := hy.blk
 refine Ra z<|Ra z<|Wn<|Ws<|R z (lN (vs := [sl A0 N0 C0]) P_ F_ z z fid<|((h1a.e h7).e h5).row 0 1 z)<|R z (lN (vs := (vR x2 A3 N3 C3 A4 N4 C4 A2 N2 C2 A5 N5 C5)) N_ t_ z z fid<|(h1b.e h5).row 0 8 z)<|Rm z<|Rm z ?_
 have h8 := ((hh.ag B).e h7).e h5
 have hj := lt_ hh.s h7.s
 have h9 := lt_ hj h5.s
 obtain ⟨rk, r1z, r20, e1d, hmz⟩ := O_ hm
 refine E z (fc call170 z<|ih1.run (B := B) e1d (zt' hBw h9) (p1_0.g h8) p2_0 p2_1 p2_2 (p2_4.g h8) (p2_5.g h8) (p2_6.g h8) (p2_7.g h8) (ii z) (ii z) (p3_0.g h8) p4_0) ?_
 rintro _ w10 ⟨s0, aa, nb, cc, S11, ad, ne, cf, S12, rfl, h13, hn, ho, hp, h1e, hi, h6⟩
 refine Rm z ?_
 iterate 3 refine R z (ext_ z z) ?_
 refine E z (fa a_9) ?_
 rintro _ w1f ⟨rfl, h14⟩
 have h1 := h14.below
 have h1g : Blk w1f w10.z [vI 0, sl none 0 0, sl none 0 0] := h14.blk
 refine E0 (fs (cur' := [vI rk.number, sl aa nb cc, sl ad ne cf]) i_ z z h1g z (lb z) (oA z) z) ?_
 rintro _ w21 ⟨h15, s1h⟩
 have h2 := s1h.one
 refine Ra z<|Ra z<|Wn<|Wq<|Wb<|Ws<|Rm z<|R z (nq z z)<|Ra z<|Wn<|Wc z (fun hcm => ?_) (fun hcm => ?_)
 ·refine Ws<|R z (lN (vs := [vI rk.number, sl aa nb cc, sl ad ne cf]) x_ i_ z z fid<|h15.row 0 3 z)<|Rm z<|Rm z<|E0 (fs (cur' := [vI rk.number, sl aa nb cc, sl ad ne cf]) i_ z z (((h3.e s0).e h1).c h2<|djs<|mm1 h3.lt s0.s) z (lb z) (oA z) z) ?_
  rintro _ w22 ⟨h1i, s1j⟩
  have hq := s1j.one
  refine Ra z<|Ra z<|Wn ?_
  obtain rfl := som (ifT hmz hcm)
  exact Wr<|rtO<|s_ hr (u_ x_ i_ z h1i z) z z ⟨(bM (bM (bup (bup (bup (bup hh h7) h5) s0) h1) h2<|m1<|lt_ h9 s0.s) hq<|m1 hj), aa, nb, cc, S11, ad, ne, cf, S12, z, h13, (((hn.e h1).c h2<|ds<|mnr<|b_.lt hn).c hq<|p_ (al_ h6) h3.lt lr), (((ho.e h1).c h2<|ds<|mnr<|b_.lt ho).c hq<|p_ (ar_ h6) h3.lt lr), hp, h1e, (na_ (nl_ hi) (nr_ hi)<|nj hi), (aa_ (m_ (al_ h6) h9)<|m_ (ar_ h6) h9)⟩
 have hm16 := ifF hmz hcm
 refine Ws<|Rm z<|Rm z ?_
 have hl := lt_ h9 s0.s
 have h1k : ∀ k ∈ [w10.z], ¬ B k := or0 (f_ lr)  (r_ (zt' hBw hl))
 have h17 := ((h8.e s0).e h1).c h2<|k_ h1k
 refine R z (lnR h_ z<|p3_0.g h17)<|R z (a_M z z)<|Ra z<|Wn<|Wc z (fun hcr => ?_) (fun hcr => ?_)
 ·refine Ws<|R z (bP (parts := []) (cs := [vI 0, sl none 0 0, sl none 0 0]) Q_ z z)<|Rm z<|E0 (fs (cur' := [vI 0, sl none 0 0, sl none 0 0]) i_ z z (((h3.e s0).e h1).c h2<|djs<|mm1 h3.lt s0.s) z (lb z) (oA z) z) ?_
  rintro _ w23 ⟨h1l, s1m⟩
  refine Ra z<|Ra z<|Wn ?_
  obtain rfl := som (ifT hm16 hcr)
  exact Wr<|rtO<|s_ hr (u_ x_ i_ z h1l z) z z ⟨(bM (bM (bup (bup (bup (bup hh h7) h5) s0) h1) h2<|m1 hl) s1m.one<|m1 hj), none, 0, 0, [], none, 0, 0, [], z, (ii z), onL, onL, hp, (ii z), nd0, al0⟩
 refine Wq (Wd (X := noX) 0 (.rd 0 (.rd 1 (.rd 2 (.rd 3 (.rd 4 (.rd 5 (.rd 6 (.rd 7 (.rd 8 (.ef 9 (.rd 10 (.rd 11 .done)))))))))))) mo (by kernel_rfl) fun w24 s4 _ => dR z z (mv z)<|dR z z (mv z) ?_)
 obtain ⟨x25, e1n, hm1o⟩ := bdS (ifF hm16 hcr)
 have h18 := p3_0.g<|h17.e s4
 refine dRX z z (at_ (α := UInt8) h_ z_5 z z z h18 e1n) ?_
 rintro _ ⟨b26, o27, cs28, rfl, h1p, h1q, h29⟩
 obtain rfl := u8 h1q
 refine dR z z (l1 g_5 z fid<|h1p.at0 z)<|dR z z (b_4 d_5 d_3 z) ?_
 iterate 3 refine dR z z (mv z) ?_
 obtain ⟨x2a, e1r, hm1s⟩ := bdS hm1o
 refine dRX z z (rX h_ z_5 z z h18 z z e1r) ?_
 rintro _ ⟨a2b, n2c, c2d, rfl, h1t⟩
 obtain ⟨r2e, e1u, hm19⟩ := bdS hm1s
 refine dE z z (fc call79 z<|W_w0t (B := B) e1u (zt' hBw<|lt_ (lt_ (lt_ hl h1.s) h2.s) s4.s) h1t) (.inr fun _ _ h => A_<|h.1) ?_
 rintro _ w2f ⟨sg, rfl, h2g⟩
 refine dR z z (nq z z)<|dR z z (asg z)<|pD<|Wo<|Wc z (fun hcs => ?_) (fun hcs => ?_)
 ·refine Ws<|R z (bP (parts := []) (cs := [vI 0, sl none 0 0, sl none 0 0]) Q_ z z)<|Rm z<|E0 (fs (cur' := [vI 0, sl none 0 0, sl none 0 0]) i_ z z (((((h3.e s0).e h1).c h2<|djs<|mm1 h3.lt s0.s).e s4).e sg) z (lb z) (oA z) z) ?_
  rintro _ w2h ⟨h1v, s1w⟩
  refine Ra z<|Ra z<|Wn ?_
  obtain rfl := som (ifT hm19 hcs)
  exact Wr<|rtO<|s_ hr (u_ x_ i_ z h1v z) z z ⟨(bM (bup (bup (bM (bup (bup (bup (bup hh h7) h5) s0) h1) h2<|m1 hl) s4) sg) s1w.one<|m1 hj), none, 0, 0, [], none, 0, 0, [], z, (ii z), onL, onL, hp, (ii z), nd0, al0⟩
 refine Wk<|Ws<|R z (lN (vs := [vI rk.number, sl aa nb cc, sl ad ne cf]) x_ i_ z z fid<|((h15.e s4).e sg).row 0 3 z)<|Rm z<|R z (add_ z z)<|E0 (fs (cur' := [vI rk.number, sl aa nb cc, sl ad ne cf]) i_ z z (((((h3.e s0).e h1).c h2<|djs<|mm1 h3.lt s0.s).e s4).e sg) z (lb z) (oA z) z) ?_
 rintro _ w2i ⟨h1x, s1y⟩
 have ht := s1y.one
 refine Ra z<|Ra z<|Wn ?_
 obtain rfl := som (ifF hm19 hcs)
 exact Wr<|s_ hr (u_ x_ i_ z h1x z) z z ⟨(bM (bup (bup (bM (bup (bup (bup (bup hh h7) h5) s0) h1) h2<|m1 hl) s4) sg) ht<|m1 hj), aa, nb, cc, S11, ad, ne, cf, S12, z, h13, (((((hn.e h1).c h2<|ds<|mnr<|b_.lt hn).e s4).e sg).c ht<|p_ (al_ h6) h3.lt lr), (((((ho.e h1).c h2<|ds<|mnr<|b_.lt ho).e s4).e sg).c ht<|p_ (ar_ h6) h3.lt lr), (iA _ _), (ii z), (na_ (nl_ hi) (nr_ hi)<|nj hi), (aa_ (m_ (al_ h6) h9)<|m_ (ar_ h6) h9)⟩
theorem c_y : ∀ n, e_m n
  | 0 => ⟨⟨fun hm => by intros; exact nomatch (show none = some _ from hm)⟩, ⟨fun hm => by intros; exact nomatch (show none = some _ from hm)⟩, ⟨fun hm => by intros; exact nomatch (show none = some _ from hm)⟩, ⟨fun hm => by intros; exact nomatch (show none = some _ from hm)⟩, ⟨fun hm => by intros; exact nomatch (show none = some _ from hm)⟩⟩
  | n + 1 => ⟨T_w02 (c_y n), T_w0z (c_y n), T_w10 (c_y n), T_w11 (c_y n), T_w12 (c_y n)⟩
theorem W_w02 : i_q (a_6 n).spec_l11Read := (c_y n).1
theorem W_w0z : i_r (a_6 n).spec_l11Items := (c_y n).2.1
theorem W_w10 : i_s (a_6 n).spec_l11Choice := (c_y n).2.2.1
theorem W_w11 : i_t (a_6 n).spec_l11Option := (c_y n).2.2.2.1
theorem W_w12 : i_u (a_6 n).spec_l11Checked := (c_y n).2.2.2.2

theorem i_v {x1 : g_} {x2 : Int} {x3 : List UInt8} {x4 : Int} {res : Val × Int × Int} (hm : g_6 n x1 x2 x3 x4 = some res) (hBw : B ≤ w0.z) (p1_0 : a_ w0 B (sl A0 N0 C0) x1.rules) (p2_0 : inI x2) (p3_0 : a_ w0 B (sl A7 N7 C7) x3) (p4_0 : inI x4) : j_ prog 128 [(.agg #[sl A0 N0 C0]), vI x2, sl A7 N7 C7, vI x4] w0 (Q17 w0 B res) := by
 unfold g_6 at hm
 refine goF func128 z z (lb z) fun fn hr => Ws<|E z (fb z) ?_
 rintro _ w8 ⟨rfl, hg⟩
 have h3 := hg.below
 have hh : Blk w8 w0.z [sl A0 N0 C0] := hg.blk
 refine E z (fa a_9) ?_
 rintro _ w9 ⟨rfl, hi⟩
 have h4 := hi.below
 have h6 : Blk w9 w8.z [vI 0, sl none 0 0, sl none 0 0] := hi.blk
 refine Ra z<|Ra z<|Wn<|Wq<|Wq ?_
 obtain ⟨uy, huz, hmj⟩ := bdS hm
 refine Wt (fun a w => ∃ (xa : Bool), xa = uy ∧ Sat 36 [(1, vI x2), (2, sl A7 N7 C7), (3, vI x4), (4, pt w0.z), (8, pt w8.z), (26, vB xa)] a ∧ Below w9.z w9 w) ?_ ?_
 ·refine Wg<|R z (lN (vs := [sl A0 N0 C0]) P_ F_ z z fid<|(hh.e h4).row 0 1 z)<|Rm z ?_
  have hk := (h3.ag B).e h4
  have hl := lt_ h3.s h4.s
  obtain ⟨r10, e11, hmm⟩ := bdS huz
  refine E z (fc call146 z<|W_w2m (B := B) e11 (zt' hBw hl) (p1_0.g hk) p2_0) ?_
  rintro _ w1j ⟨s5, rfl⟩
  refine R z (not_ z)<|Rm z ?_
  rcases bs (!r10) with hc0 | hc0
  ·iterate 5 refine Nh z hc0 ?_
   exact R z (pT z hc0 z)<|Rm z<|Nh z z<|Nh z z<|Nh z z<|R z (pT z z z)<|Wl (fun _ q => ⟨true, som<|ifT hmm hc0, (q.k<|s6 z z z z z z), s5⟩)
  refine Rh z hc0 (mv z)<|Rh z hc0 (mv z) ?_
  have hn := hk.e s5
  have ho := p3_0.g hn
  refine Rh z hc0 (lnR h_ z ho) ?_
  obtain ⟨r12, e13, hmp⟩ := bdS (ifF hmm hc0)
  refine Eg z z hc0 z (fc call97 z<|a_I (B := B) e13 (zt' hBw<|lt_ hl s5.s) p4_0 (ii z)<|b_2<|a_.len ho) ?_
  rintro _ w1k ⟨sb, rfl⟩
  refine Rh z hc0 (not_ z)<|R z (pF z hc0 z)<|Rm z ?_
  rcases bs (!r12) with hc1 | hc1
  ·iterate 3 refine Nh z hc1 ?_
   exact R z (pT z hc1 z)<|Wl (fun _ q => ⟨true, som<|ifT hmp hc1, (q.k<|s6 z z z z z z), (bup s5 sb)⟩)
  exact Rh z hc1 (mv z)<|Rh z hc1 (lnR h_ z<|p3_0.g<|hn.e sb)<|Rh z hc1 (a_c z z)<|R z (pF z hc1 z)<|Wl (fun _ q => ⟨decide (400 < (x3.length : Int)), som<|ifF hmp hc1, (q.k<|s6 z z z z z z), (bup s5 sb)⟩)
 rintro a14 w1l ⟨xa, rfl, hS1m, s2⟩
 revert a14
 refine Wo<|Wc z (fun hcc => ?_) (fun hcc => ?_)
 ·refine Ws<|R z (bP (parts := []) (cs := [vI 0, sl none 0 0, sl none 0 0]) Q_ z z)<|E0 (fs (cur' := [vI 0, sl none 0 0, sl none 0 0]) i_ z z (h6.e s2) z (lb z) (oA z) z) ?_
  rintro _ w1n ⟨h15, s16⟩
  refine Ra z<|Ra z<|Wn ?_
  obtain rfl := som (ifT hmj hcc)
  exact Wr<|s_ hr (u_ x_ i_ z h15 z) z z ⟨(bM (bup (bup h3 h4) s2) s16.one<|m1 h3.s), none, 0, 0, [], none, 0, 0, [], z, (ii z), onL, onL, (ii z), (ii z), nd0, al0⟩
 refine Wk<|Ws<|R z (lN (vs := [sl A0 N0 C0]) P_ F_ z z fid<|((hh.e h4).e s2).row 0 1 z)<|Rm z<|Rm z<|Rm z ?_
 have hq := ((h3.ag B).e h4).e s2
 have hd := lt_ (lt_ h3.s h4.s) s2.s
 obtain ⟨r17, r1o, r1p, e18, hm19⟩ := O_ (ifF hmj hcc)
 refine E z (fc call147 z<|W_w02.run (B := B) e18 (zt' hBw hd) (p1_0.g hq) p2_0 (p3_0.g hq) p4_0) ?_
 rintro _ w1q ⟨sr, au, ns, ct, S1a, av, nw, cx, S1b, rfl, h1c, h1d, h1e, h1f, h1g, he, h7⟩
 iterate 3 refine R z (ext_ z z) ?_
 refine E0 (fs (cur' := [vI r17.number, sl au ns ct, sl av nw cx]) i_ z z ((h6.e s2).e sr) z (lb z) (oA z) z) ?_
 rintro _ w1r ⟨h1h, s1i⟩
 have hf := s1i.one
 refine Ra z<|Ra z<|Wn ?_
 obtain rfl := som hm19
 exact Wr<|s_ hr (u_ x_ i_ z h1h z) z z ⟨(bM (bup (bup (bup h3 h4) s2) sr) hf<|m1 h3.s), au, ns, ct, S1a, av, nw, cx, S1b, z, h1c, (h1d.c hf<|p_ (al_ h7) h6.lt s2.s), (h1e.c hf<|p_ (ar_ h7) h6.lt s2.s), h1f, h1g, (na_ (nl_ he) (nr_ he)<|nj he), (aa_ (m_ (al_ h7) hd)<|m_ (ar_ h7) hd)⟩
end Go.Vw

