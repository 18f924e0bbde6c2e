import Derived.Test.YtfdcdeahjejlmaaGreatDoorVqDW2
set_option linter.unusedVariables false
namespace Go.Vw
open Go.RowKit Dat Go.Proofs
open Go.Proofs.Tryz
open Go.Vw renaming h_l → Wq, h_m → Wg, WC.of_KC → Wo, f_j → Wl, i_H → Wc, i_F → Wr, j_M → Wu, j_B → pT, j_C → pF, j_O → fd, j_P → l1, j_Q → lN, h_K → mv, h_L → asg, j_D → lnR, j_X → lss, j_V → eql, j_R → ext_, j_F → bP, h_O → add_, j_n → inc_, j_Y → not_, j_E → at_, j_g → fc, f_q → fs, j_f → fb, j_e → fa, j_u → sr, j_z → cr, j_A → cM, j_y → bM, j_k → iS, j_j → iA, j_m → br, j_p → oA, j_q → bs, ltge → lg, inor → io, j_W → nq, j_S → lnT, j_T → sb_, j_s → ar_, j_r → al_, j_t → ds, k_M → m1, j_w → nr_, j_v → nl_, h_B → aa_, all_nil → an_, e_k → Wb, h_z → u8, i_M → pD, i_G → We, j_l → Wt, j_h → fS, e_j → or_, j_N → Wf, j_J → qL, i_L → Wd, h_D → fN, h_C → na_, j_x → nj, j_G → f0, f_t → rX, j_H → tl_, j_I → ic
variable {A0 : Option Addr} {N0 C0 : Nat} {B : Zone} {w0 : World} {AB : Option Addr} {A7 : Option Addr} {AA : Option Addr} {A8 : Option Addr} {NB CB : Nat} {N7 C7 : Nat} {NA CA : Nat} {N8 C8 : Nat} {A1 : Option Addr} {N1 C1 : Nat} {A3 : Option Addr} {A4 : Option Addr} {A2 : Option Addr} {A5 : Option Addr} {N3 C3 : Nat} {N4 C4 : Nat} {N2 C2 : Nat} {N5 C5 : Nat} {n : Nat} {AE : Option Addr} {NE CE : Nat} {A6 : Option Addr} {N6 C6 : Nat} {AC : Option Addr} {NC CC : Nat} {A9 : Option Addr} {N9 C9 : Nat} {AG : Option Addr} {NG CG : Nat} {AD : Option Addr} {ND CD : Nat}
theorem T_w01 (ih : d_Q n) : j_6 (g_t n (a_4 n)) := by
 obtain ⟨ih0, ih1, ih2, ih3, ih4, ih5⟩ := ih
 constructor
 intro A0 A1 N0 C0 N1 C1 b1 o1 B x1 x2 x3 res w0 hm hBw p1_0 p1_1 hC1 hC1b p2_0 p3_0
 unfold g_t at hm
 refine goF func154 z z (lb z) fun fn hr => Ws<|E z (fa a_f) ?_
 rintro _ w4 ⟨rfl, h2n⟩
 have h2 := h2n.below
 have h3 : Blk w4 w0.z [vI 0, sl none 0 0, sl none 0 0] := h2n.blk
 refine Ra z<|Ra z<|Wn<|Ws<|Rm z<|R z (b_Q z)<|R z (fd l_b z)<|R z (fd a_7 z) ?_
 have h5 := hC1.e h2
 refine R z (l1 a_e z fid<|h5.at (j := 0) z)<|Rm z ?_
 obtain ⟨x9, e5g, hm2o⟩ := bdS hm
 refine RX z (at_ (α := c_) J_ q_ z z z (p1_0.e h2) e5g) ?_
 rintro _ ⟨b9n, o9o, cs9p, rfl, h5h, h5i, h9q⟩
 obtain ⟨aa, nb, cc, ad, ne, cf, ah, ng, ci, aj, nk, cl, rfl, hq, ht, ho, hp, hu, hv, hn⟩ := a_E h5i
 refine R z (lN (vs := (vR x9 aa nb cc ad ne cf ah ng ci aj nk cl)) K_ q_ z z fid h5h)<|E z (fa b_N) ?_
 rintro _ w5j ⟨rfl, h2p⟩
 have h0 := h2p.below
 have h5k : Blk w5j w4.z [(Str.v (⟨[]⟩ : Str)), vI 0, vI 0, vB false, sl none 0 0, sl none 0 0, sl none 0 0, sl none 0 0] := h2p.blk
 refine E0 (fs (cur' := (vR x9 aa nb cc ad ne cf ah ng ci aj nk cl)) q_ z z h5k z (lb z) (oA z) z) ?_
 rintro _ w9r ⟨h7, s5l⟩
 have h1 := s5l.one
 refine Wn<|Wq<|Ws<|R z (fd b_y z)<|R z (l1 g_3 z fid<|h7.at z)<|Wn<|Wb<|Ws<|R z (eql z z)<|Ra z<|Wn<|Wc z (fun hcr => ?_) (fun hcr => ?_)
 ·refine Ws<|Rm z<|Rm z<|Rm z ?_
  have h2q : ∀ k ∈ [w4.z], ¬ B k := or0 (f_ lr)  (p_ (zt' hBw h2.s))
  have h2r := ((h2.ag B).e h0).c h1<|h_ h2q
  have h2s := lt_ (lt_ h2.s h0.s) h1.s
  obtain ⟨r2t, r9s, r9t, e5m, hm5n⟩ := W_ (ifT hm2o hcr)
  refine E z (fc call181 z<|h_w (B := B) e5m (zt' hBw h2s) (p1_0.g h2r) (p1_1.g h2r) ((h5.e h0).c h1<|(h_ h2q) _ hC1b) hC1b p2_0 p3_0) ?_
  rintro _ w9u ⟨s2u, v5o, S5p, rfl, h5q, h5r, h5s, h2v⟩
  refine Rm z ?_
  iterate 3 refine R z (ext_ z z) ?_
  refine Ra z<|Ra z<|Ra z<|Wn<|Ws<|Rm z<|R z (bP (parts := [(0, (.tmp 41))]) (cs := [vI r2t, sl none 0 0, sl none 0 0]) Y_ z z)<|Rm z<|Rm z<|E0 (fs (cur' := [vI r2t, sl none 0 0, sl none 0 0]) k_ z z (((h3.e h0).c h1<|djs<|mmr h3.lt).e s2u) z (lb z) (oA z) z) ?_
  rintro _ w9v ⟨h5t, s5u⟩
  have h2w := s5u.one
  refine Ra z<|Ra z<|Wn ?_
  obtain rfl := som hm5n
  exact Wr<|rtO<|x_ hr (r_ y_ k_ z h5t z) z z ⟨(bM (bup (bM (bup h2 h0) h1<|m1 h2.s) s2u) h2w<|f_ lr), none, 0, 0, [], none, 0, 0, [], v5o, S5p, z, h5q, onL, onL, h5r, (h5s.c h2w<|m_ h2v h3.lt<|lt_ h0.s h1.s), (l_ h2v h2s), nd0, al0⟩
 have hm2x := ifF hm2o hcr
 refine Ws<|R z (eql z z)<|Ra z<|Wn<|Wc z (fun hcs => ?_) (fun hcs => ?_)
 ·refine Ws<|Rm z<|R z (lN (vs := (vR x9 aa nb cc ad ne cf ah ng ci aj nk cl)) K_ q_ z z fid<|h7.row 0 8 z)<|Rm z ?_
  have h1m : ∀ k ∈ [w4.z], ¬ B k := or0 (f_ lr)  (p_ (zt' hBw h2.s))
  have h2y := ((h2.ag B).e h0).c h1<|h_ h1m
  have hw := (h0.ag B).c h1<|h_ h1m
  have h2z := lt_ (lt_ h2.s h0.s) h1.s
  obtain ⟨r9w, r9x, e5v, hm5w⟩ := a_w (ifT hm2x hcs)
  refine E z (fc call182 z<|W_w3q (B := B) e5v (zt' hBw h2z) (p1_0.g h2y) (p1_1.g h2y) ((h5.e h0).c h1<|(h_ h1m) _ hC1b) hC1b hq ht ho (hp.g hw) (hu.g hw) (hv.g hw) (hn.g hw) p3_0) ?_
  rintro _ w9y ⟨s30, v5x, S5y, rfl, h5z, h60, h31⟩
  refine Rm z<|R z (ext_ z z)<|R z (ext_ z z)<|Ra z<|Ra z<|Wn<|Ws<|R z (bP (parts := []) (cs := [vI 0, sl none 0 0, sl none 0 0]) Y_ z z)<|Rm z<|Rm z<|E0 (fs (cur' := [vI 0, sl none 0 0, sl none 0 0]) k_ z z (((h3.e h0).c h1<|djs<|mmr h3.lt).e s30) z (lb z) (oA z) z) ?_
  rintro _ w9z ⟨h61, s62⟩
  have h32 := s62.one
  refine Ra z<|Ra z<|Wn ?_
  obtain rfl := som hm5w
  exact Wr<|rtO<|x_ hr (r_ y_ k_ z h61 z) z z ⟨(bM (bup (bM (bup h2 h0) h1<|m1 h2.s) s30) h32<|f_ lr), none, 0, 0, [], none, 0, 0, [], v5x, S5y, z, (ii z), onL, onL, h5z, (h60.c h32<|m_ h31 h3.lt<|lt_ h0.s h1.s), (l_ h31 h2z), nd0, al0⟩
 have hm33 := ifF hm2x hcs
 refine Ws<|R z (eql z z)<|Ra z<|Wn<|Wc z (fun hc1n => ?_) (fun hc1n => ?_)
 ·refine Ws<|Rm z<|Rm z<|R z (fd a_O z)<|R z (l1 g_3 z fid<|h7.at z) ?_
  have h34 : ∀ k ∈ [w4.z], ¬ B k := or0 (f_ lr)  (p_ (zt' hBw h2.s))
  have h35 := ((h2.ag B).e h0).c h1<|h_ h34
  have hx := lt_ (lt_ h2.s h0.s) h1.s
  obtain ⟨r63, r100, r101, e64, hm65⟩ := W_ (ifT hm33 hc1n)
  refine E z (fc call183 z<|W_w1h (B := B) e64 (zt' hBw hx) (p1_0.g h35) (p1_1.g h35) ((h5.e h0).c h1<|(h_ h34) _ hC1b) hC1b p3_0 ho) ?_
  rintro _ w102 ⟨s36, a37, n38, c39, S66, a3a, n3b, c3c, S67, v68, S69, rfl, h6a, h6b, h6c, h6d, h6e, h3d, h1o, hy⟩
  iterate 3 refine R z (ext_ z z) ?_
  refine E0 (fs (cur' := [vI r63.number, sl a37 n38 c39, sl a3a n3b c3c]) k_ z z (((h3.e h0).c h1<|djs<|mmr h3.lt).e s36) z (lb z) (oA z) z) ?_
  rintro _ w103 ⟨h6f, s6g⟩
  have hz := s6g.one
  refine Ra z<|Ra z<|Wn ?_
  obtain rfl := som hm65
  have h1p := lt_ h0.s h1.s
  exact Wr<|rtO<|x_ hr (r_ y_ k_ z h6f z) z z ⟨(bM (bup (bM (bup h2 h0) h1<|m1 h2.s) s36) hz<|f_ lr), a37, n38, c39, S66, a3a, n3b, c3c, S67, v68, S69, z, h6a, (h6b.c hz<|m_ (al_ hy) h3.lt h1p), (h6c.c hz<|m_ (ar_ hy) h3.lt h1p), h6d, (h6e.c hz<|m_ h3d h3.lt h1p), (l_ h3d hx), (na_ (nl_ h1o) (nr_ h1o)<|nj h1o), (aa_ (l_ (al_ hy) hx)<|l_ (ar_ hy) hx)⟩
 have hm3e := ifF hm33 hc1n
 refine Ws<|R z (eql z z)<|Ra z<|Wn<|Wc z (fun hc1q => ?_) (fun hc1q => ?_)
 ·refine Ws<|Rm z<|R z (fd a_5 z)<|R z (l1 H_ z fid<|h7.at z) ?_
  obtain ⟨x104, e6h, hm6i⟩ := bdS (ifT hm3e hc1q)
  have h1r : ∀ k ∈ [w4.z], ¬ B k := or0 (f_ lr)  (p_ (zt' hBw h2.s))
  refine RX z (at_ (α := Int) F_ z_3 z z z (hn.g<|(h0.ag B).c h1<|h_ h1r) e6h) ?_
  rintro _ ⟨b105, o106, cs107, rfl, h6j, h6k, h108⟩
  obtain ⟨rfl, h6l⟩ := a_c h6k
  refine R z (l1 g_3 z fid<|h6j.at0 z)<|Rm z ?_
  have h3f := (h5.e h0).c h1<|(h_ h1r) _ hC1b
  have h1s := ((h2.ag B).e h0).c h1<|h_ h1r
  have h1t := lt_ (lt_ h2.s h0.s) h1.s
  obtain ⟨r109, r10a, r10b, e6m, hm3g⟩ := W_ hm6i
  refine E z (fc call181 z<|h_w (B := B) e6m (zt' hBw h1t) (p1_0.g h1s) (p1_1.g h1s) h3f hC1b h6l p3_0) ?_
  rintro _ w10c ⟨s8, v6n, S6o, rfl, h6p, h6q, h3h, h3i⟩
  refine Rm z ?_
  iterate 3 refine R z (ext_ z z) ?_
  refine Ra z<|Ra z<|Ra z<|Wn<|Wq<|Ws<|Rm z<|R z (d_6 c_W z z h3h)<|Wn<|Wc z (fun hc1u => ?_) (fun hc1u => ?_)
  ·refine Ws<|R z (bP (parts := []) (cs := [vI 0, sl none 0 0, sl none 0 0]) Y_ z z)<|Rm z<|Rm z<|E0 (fs (cur' := [vI 0, sl none 0 0, sl none 0 0]) k_ z z (((h3.e h0).c h1<|djs<|mmr h3.lt).e s8) z (lb z) (oA z) z) ?_
   rintro _ w10d ⟨h6r, s6s⟩
   have h3j := s6s.one
   refine Ra z<|Ra z<|Wn ?_
   obtain rfl := som (ifT hm3g hc1u)
   exact Wr<|rtO<|x_ hr (r_ y_ k_ z h6r z) z z ⟨(bM (bup (bM (bup h2 h0) h1<|m1 h2.s) s8) h3j<|f_ lr), none, 0, 0, [], none, 0, 0, [], v6n, S6o, z, (ii z), onL, onL, p3_0, (h3h.c h3j<|m_ h3i h3.lt<|lt_ h0.s h1.s), (l_ h3i h1t), nd0, al0⟩
  refine Wk<|Ws<|Rm z<|Rm z<|Rm z ?_
  have h3k := h1s.e s8
  have h10 := lt_ h1t s8.s
  obtain ⟨r6t, r10e, r10f, e6u, hm6v⟩ := W_ (ifF hm3g hc1u)
  refine E z (fc call183 z<|W_w1h (B := B) e6u (zt' hBw h10) (p1_0.g h3k) (p1_1.g h3k) (h3f.e s8) hC1b h6q h6p) ?_
  rintro _ w10g ⟨s3l, a3m, n3n, c3o, S6w, a3p, n3q, c3r, S6x, v6y, S6z, rfl, h70, h71, h72, h73, h74, h3s, h1v, h11⟩
  iterate 3 refine R z (ext_ z z) ?_
  refine E0 (fs (cur' := [vI r6t.number, sl a3m n3n c3o, sl a3p n3q c3r]) k_ z z ((((h3.e h0).c h1<|djs<|mmr h3.lt).e s8).e s3l) z (lb z) (oA z) z) ?_
  rintro _ w10h ⟨h75, s76⟩
  have h12 := s76.one
  refine Ra z<|Ra z<|Wn ?_
  obtain rfl := som hm6v
  have h1w := lt_ (lt_ h0.s h1.s) s8.s
  exact Wr<|rtO<|x_ hr (r_ y_ k_ z h75 z) z z ⟨(bM (bup (bup (bM (bup h2 h0) h1<|m1 h2.s) s8) s3l) h12<|f_ lr), a3m, n3n, c3o, S6w, a3p, n3q, c3r, S6x, v6y, S6z, z, h70, (h71.c h12<|m_ (al_ h11) h3.lt h1w), (h72.c h12<|m_ (ar_ h11) h3.lt h1w), h73, (h74.c h12<|m_ h3s h3.lt h1w), (l_ h3s h10), (na_ (nl_ h1v) (nr_ h1v)<|nj h1v), (aa_ (l_ (al_ h11) h10)<|l_ (ar_ h11) h10)⟩
 have hm3t := ifF hm3e hc1q
 refine Ws<|R z (eql z z)<|Ra z<|Wn<|Wc z (fun hc1x => ?_) (fun hc1x => ?_)
 ·refine Ws<|Rm z<|R z (lN (vs := (vR x9 aa nb cc ad ne cf ah ng ci aj nk cl)) K_ q_ z z fid<|h7.row 0 8 z)<|Rm z ?_
  have h1y : ∀ k ∈ [w4.z], ¬ B k := or0 (f_ lr)  (p_ (zt' hBw h2.s))
  have h3u := ((h2.ag B).e h0).c h1<|h_ h1y
  have h13 := (h0.ag B).c h1<|h_ h1y
  have h14 := lt_ (lt_ h2.s h0.s) h1.s
  obtain ⟨r77, r10i, r10j, e78, hm79⟩ := W_ (ifT hm3t hc1x)
  refine E z (fc call184 z<|ih1.run (B := B) e78 (zt' hBw h14) (p1_0.g h3u) (p1_1.g h3u) ((h5.e h0).c h1<|(h_ h1y) _ hC1b) hC1b hq ht ho (hp.g h13) (hu.g h13) (hv.g h13) (hn.g h13) p3_0) ?_
  rintro _ w10k ⟨s3v, a3w, n3x, c3y, S7a, a3z, n40, c41, S7b, v7c, S7d, rfl, h7e, h7f, h7g, h7h, h7i, h42, h1z, h15⟩
  iterate 3 refine R z (ext_ z z) ?_
  refine E0 (fs (cur' := [vI r77.number, sl a3w n3x c3y, sl a3z n40 c41]) k_ z z (((h3.e h0).c h1<|djs<|mmr h3.lt).e s3v) z (lb z) (oA z) z) ?_
  rintro _ w10l ⟨h7j, s7k⟩
  have h16 := s7k.one
  refine Ra z<|Ra z<|Wn ?_
  obtain rfl := som hm79
  have h20 := lt_ h0.s h1.s
  exact Wr<|rtO<|x_ hr (r_ y_ k_ z h7j z) z z ⟨(bM (bup (bM (bup h2 h0) h1<|m1 h2.s) s3v) h16<|f_ lr), a3w, n3x, c3y, S7a, a3z, n40, c41, S7b, v7c, S7d, z, h7e, (h7f.c h16<|m_ (al_ h15) h3.lt h20), (h7g.c h16<|m_ (ar_ h15) h3.lt h20), h7h, (h7i.c h16<|m_ h42 h3.lt h20), (l_ h42 h14), (na_ (nl_ h1z) (nr_ h1z)<|nj h1z), (aa_ (l_ (al_ h15) h14)<|l_ (ar_ h15) h14)⟩
 have hm43 := ifF hm3t hc1x
 refine Ws<|R z (eql z z)<|Ra z<|Wn<|Wc z (fun hc21 => ?_) (fun hc21 => ?_)
 ·refine Ws<|Rm z<|R z (bP (parts := []) (cs := [vI 0, sl none 0 0, sl none 0 0]) Y_ z z)<|R z (fd a_5 z)<|R z (l1 H_ z fid<|h7.at z)<|Rm z ?_
  have h22 : ∀ k ∈ [w4.z], ¬ B k := or0 (f_ lr)  (p_ (zt' hBw h2.s))
  have h44 := ((h2.ag B).e h0).c h1<|h_ h22
  have h17 := lt_ (lt_ h2.s h0.s) h1.s
  obtain ⟨r7l, r10m, r10n, e7m, hm7n⟩ := W_ (ifT hm43 hc21)
  refine E z (fc call185 z<|ih2.run (B := B) (x2 := (⟨0, ([] : List UInt8), ([] : List Val)⟩ : Val)) e7m (zt' hBw h17) (p1_0.g h44) (p1_1.g h44) ((h5.e h0).c h1<|(h_ h22) _ hC1b) hC1b (ii z) onL R_ an_ onL R_ an_ an_ (hn.g<|(h0.ag B).c h1<|h_ h22) p3_0) ?_
  rintro _ w10o ⟨s45, a46, n47, c48, S49, a4a, n4b, c4c, S4d, v7o, S7p, rfl, h7q, h7r, h7s, h7t, h7u, h4e, h23, h18⟩
  iterate 3 refine R z (ext_ z z) ?_
  refine E0 (fs (cur' := [vI r7l.number, sl a46 n47 c48, sl a4a n4b c4c]) k_ z z (((h3.e h0).c h1<|djs<|mmr h3.lt).c s45<|atp<|nmA (nmN _)<|nmN _) z (lb z) (oA z) z) ?_
  rintro _ w10p ⟨h7v, s7w⟩
  have h19 := s7w.one
  refine Ra z<|Ra z<|Wn ?_
  obtain rfl := som hm7n
  have h24 := lt_ h0.s h1.s
  have h7x : ∀ k ∈ S49, k ∉ [w0.z] := or1 (al_ h18) al0 (Q_ (f_ h3.lt) h24)
  have h7y : ∀ k ∈ S4d, k ∉ [w0.z] := or1 (ar_ h18) al0 (Q_ (f_ h3.lt) h24)
  exact Wr<|rtO<|x_ hr (r_ y_ k_ z h7v z) z z ⟨(bM (bM (bM (bup h2 h0) h1<|m1 h2.s) s45 al0) h19<|f_ lr), a46, n47, c48, S49, a4a, n4b, c4c, S4d, v7o, S7p, z, h7q, (h7r.c h19 h7x), (h7s.c h19 h7y), h7t, (h7u.c h19<|m_ h4e h3.lt h24), (l_ h4e h17), (na_ (nl_ h23) (nr_ h23)<|nj h23), (aa_ (a_b (al_ h18) al0 h17)<|a_b (ar_ h18) al0 h17)⟩
 have hm4f := ifF hm43 hc21
 refine Ws<|R z (eql z z)<|Ra z<|Wn<|Wc z (fun hc25 => ?_) (fun hc25 => ?_)
 ·refine Ws<|Rm z<|R z (lN (vs := (vR x9 aa nb cc ad ne cf ah ng ci aj nk cl)) K_ q_ z z fid<|h7.row 0 8 z)<|Rm z ?_
  have h26 : ∀ k ∈ [w4.z], ¬ B k := or0 (f_ lr)  (p_ (zt' hBw h2.s))
  have h4g := ((h2.ag B).e h0).c h1<|h_ h26
  have h1a := (h0.ag B).c h1<|h_ h26
  have h1b := lt_ (lt_ h2.s h0.s) h1.s
  obtain ⟨r7z, r10q, r10r, e80, hm81⟩ := W_ (ifT hm4f hc25)
  refine E z (fc call186 z<|ih3.run (B := B) e80 (zt' hBw h1b) (p1_0.g h4g) (p1_1.g h4g) ((h5.e h0).c h1<|(h_ h26) _ hC1b) hC1b hq ht ho (hp.g h1a) (hu.g h1a) (hv.g h1a) (hn.g h1a) p3_0) ?_
  rintro _ w10s ⟨s4h, a4i, n4j, c4k, S82, a4l, n4m, c4n, S83, v84, S85, rfl, h86, h87, h88, h89, h8a, h4o, h27, h1c⟩
  iterate 3 refine R z (ext_ z z) ?_
  refine E0 (fs (cur' := [vI r7z.number, sl a4i n4j c4k, sl a4l n4m c4n]) k_ z z (((h3.e h0).c h1<|djs<|mmr h3.lt).e s4h) z (lb z) (oA z) z) ?_
  rintro _ w10t ⟨h8b, s8c⟩
  have h1d := s8c.one
  refine Ra z<|Ra z<|Wn ?_
  obtain rfl := som hm81
  have h28 := lt_ h0.s h1.s
  exact Wr<|rtO<|x_ hr (r_ y_ k_ z h8b z) z z ⟨(bM (bup (bM (bup h2 h0) h1<|m1 h2.s) s4h) h1d<|f_ lr), a4i, n4j, c4k, S82, a4l, n4m, c4n, S83, v84, S85, z, h86, (h87.c h1d<|m_ (al_ h1c) h3.lt h28), (h88.c h1d<|m_ (ar_ h1c) h3.lt h28), h89, (h8a.c h1d<|m_ h4o h3.lt h28), (l_ h4o h1b), (na_ (nl_ h27) (nr_ h27)<|nj h27), (aa_ (l_ (al_ h1c) h1b)<|l_ (ar_ h1c) h1b)⟩
 have hm4p := ifF hm4f hc25
 refine Ws<|R z (eql z z)<|Ra z<|Wn<|Wc z (fun hc29 => ?_) (fun hc29 => ?_)
 ·refine Ws<|Rm z<|R z (lN (vs := (vR x9 aa nb cc ad ne cf ah ng ci aj nk cl)) K_ q_ z z fid<|h7.row 0 8 z)<|Rm z ?_
  have h2a : ∀ k ∈ [w4.z], ¬ B k := or0 (f_ lr)  (p_ (zt' hBw h2.s))
  have h4q := ((h2.ag B).e h0).c h1<|h_ h2a
  have h1e := (h0.ag B).c h1<|h_ h2a
  have h1f := lt_ (lt_ h2.s h0.s) h1.s
  obtain ⟨r8d, r10u, r10v, e8e, hm8f⟩ := W_ (ifT hm4p hc29)
  refine E z (fc call187 z<|ih4.run (B := B) e8e (zt' hBw h1f) (p1_0.g h4q) (p1_1.g h4q) ((h5.e h0).c h1<|(h_ h2a) _ hC1b) hC1b hq ht ho (hp.g h1e) (hu.g h1e) (hv.g h1e) (hn.g h1e) p3_0) ?_
  rintro _ w10w ⟨s4r, a4s, n4t, c4u, S8g, a4v, n4w, c4x, S8h, v8i, S8j, rfl, h8k, h8l, h8m, h8n, h8o, h4y, h2b, h1g⟩
  iterate 3 refine R z (ext_ z z) ?_
  refine E0 (fs (cur' := [vI r8d.number, sl a4s n4t c4u, sl a4v n4w c4x]) k_ z z (((h3.e h0).c h1<|djs<|mmr h3.lt).e s4r) z (lb z) (oA z) z) ?_
  rintro _ w10x ⟨h8p, s8q⟩
  have h1h := s8q.one
  refine Ra z<|Ra z<|Wn ?_
  obtain rfl := som hm8f
  have h2c := lt_ h0.s h1.s
  exact Wr<|rtO<|x_ hr (r_ y_ k_ z h8p z) z z ⟨(bM (bup (bM (bup h2 h0) h1<|m1 h2.s) s4r) h1h<|f_ lr), a4s, n4t, c4u, S8g, a4v, n4w, c4x, S8h, v8i, S8j, z, h8k, (h8l.c h1h<|m_ (al_ h1g) h3.lt h2c), (h8m.c h1h<|m_ (ar_ h1g) h3.lt h2c), h8n, (h8o.c h1h<|m_ h4y h3.lt h2c), (l_ h4y h1f), (na_ (nl_ h2b) (nr_ h2b)<|nj h2b), (aa_ (l_ (al_ h1g) h1f)<|l_ (ar_ h1g) h1f)⟩
 have hm4z := ifF hm4p hc29
 refine Ws<|R z (eql z z)<|Ra z<|Wn<|Wc z (fun hc2d => ?_) (fun hc2d => ?_)
 ·refine Ws<|Rm z<|R z (lN (vs := (vR x9 aa nb cc ad ne cf ah ng ci aj nk cl)) K_ q_ z z fid<|h7.row 0 8 z)<|Rm z ?_
  have h2e : ∀ k ∈ [w4.z], ¬ B k := or0 (f_ lr)  (p_ (zt' hBw h2.s))
  have h50 := ((h2.ag B).e h0).c h1<|h_ h2e
  have h1i := (h0.ag B).c h1<|h_ h2e
  have h1j := lt_ (lt_ h2.s h0.s) h1.s
  obtain ⟨r8r, r10y, r10z, e8s, hm8t⟩ := W_ (ifT hm4z hc2d)
  refine E z (fc call188 z<|ih5.run (B := B) e8s (zt' hBw h1j) (p1_0.g h50) (p1_1.g h50) ((h5.e h0).c h1<|(h_ h2e) _ hC1b) hC1b hq ht ho (hp.g h1i) (hu.g h1i) (hv.g h1i) (hn.g h1i) p3_0) ?_
  rintro _ w110 ⟨s51, a52, n53, c54, S8u, a55, n56, c57, S8v, v8w, S8x, rfl, h8y, h8z, h90, h91, h92, h58, h2f, h1k⟩
  iterate 3 refine R z (ext_ z z) ?_
  refine E0 (fs (cur' := [vI r8r.number, sl a52 n53 c54, sl a55 n56 c57]) k_ z z (((h3.e h0).c h1<|djs<|mmr h3.lt).e s51) z (lb z) (oA z) z) ?_
  rintro _ w111 ⟨h93, s94⟩
  have h1l := s94.one
  refine Ra z<|Ra z<|Wn ?_
  obtain rfl := som hm8t
  have h2g := lt_ h0.s h1.s
  exact Wr<|rtO<|x_ hr (r_ y_ k_ z h93 z) z z ⟨(bM (bup (bM (bup h2 h0) h1<|m1 h2.s) s51) h1l<|f_ lr), a52, n53, c54, S8u, a55, n56, c57, S8v, v8w, S8x, z, h8y, (h8z.c h1l<|m_ (al_ h1k) h3.lt h2g), (h90.c h1l<|m_ (ar_ h1k) h3.lt h2g), h91, (h92.c h1l<|m_ h58 h3.lt h2g), (l_ h58 h1j), (na_ (nl_ h2f) (nr_ h2f)<|nj h2f), (aa_ (l_ (al_ h1k) h1j)<|l_ (ar_ h1k) h1j)⟩
 refine Wk<|Wq (Wd (X := noX) 0 (.rd 0 (.rd 1 (.rd 2 (.rd 3 (.rd 4 (.rd 5 (.rd 6 (.rd 7 (.rd 8 (.ef 9 (.rd 10 (.rd 11 (.rd 12 (.rd 13 (.rd 14 (.rd 15 (.rd 16 .done))))))))))))))))) mo (by kernel_rfl) fun w112 s6 _ => dR z z (mv z)<|dR z z (b_Q z)<|dR z z (fd e_o z) ?_)
 have h2h : ∀ k ∈ [w4.z], ¬ B k := or0 (f_ lr)  (p_ (zt' hBw h2.s))
 refine dR z z (l1 I_ z fid<|(((h5.e h0).c h1<|(h_ h2h) _ hC1b).e s6).at (j := 1) z)<|dR z z (mv z)<|dR z z (fd a_N z)<|dR z z (l1 I_ z fid<|(h7.e s6).at z) ?_
 obtain ⟨x113, e95, hm96⟩ := bdS (ifF hm4z hc2d)
 refine dRX z z (at_ (α := UInt8) i_ z_5 z z z (hp.g<|((h0.ag B).c h1<|h_ h2h).e s6) e95) ?_
 rintro _ ⟨b114, o115, cs116, rfl, h97, h98, h117⟩
 obtain rfl := u8 h98
 refine dR z z (l1 g_5 z fid<|h97.at0 z) ?_
 have h2i := lt_ (lt_ (lt_ h2.s h0.s) h1.s) s6.s
 obtain ⟨r118, r119, r11a, e99, hm59⟩ := W_ hm96
 refine dE z z (fc call189 z<|W_w3r (B := B) e99 (zt' hBw h2i) (p1_1.g<|(((h2.ag B).e h0).c h1<|h_ h2h).e s6) p3_0) (.inr fun _ _ h => z_<|h.1) ?_
 rintro _ w11b ⟨sm, a2j, n2k, c2l, S9a, rfl, h9b, h9c, h9d, h5a⟩
 refine dR z z (mv z) ?_
 iterate 3 refine dR z z (ext_ z z) ?_
 iterate 3 refine dR z z (asg z) ?_
 refine pD<|Wo<|Wq<|Ws<|Rm z<|R z (not_ z)<|Wn<|Wc z (fun hc2m => ?_) (fun hc2m => ?_)
 ·refine Ws<|R z (bP (parts := []) (cs := [vI 0, sl none 0 0, sl none 0 0]) Y_ z z)<|Rm z<|Rm z ?_
  have h5b := lt_ h2i sm.s
  obtain ⟨r11c, e9e, hm9f⟩ := bdS (ifT hm59 hc2m)
  refine E z (fc call190 z<|d_o (B := B) e9e (zt' hBw h5b) p3_0<|ii z) ?_
  rintro _ w11d ⟨s5c, v9g, S9h, rfl, h9i, h5d⟩
  refine E0 (fs (cur' := [vI 0, sl none 0 0, sl none 0 0]) k_ z z (((((h3.e h0).c h1<|djs<|mmr h3.lt).e s6).e sm).e s5c) z (lb z) (oA z) z) ?_
  rintro _ w11e ⟨h9j, s9k⟩
  have h5e := s9k.one
  refine Ra z<|Ra z<|Wn ?_
  obtain rfl := som hm9f
  exact Wr<|x_ hr (r_ y_ k_ z h9j z) z z ⟨(bM (bup (bup (bup (bM (bup h2 h0) h1<|m1 h2.s) s6) sm) s5c) h5e<|f_ lr), none, 0, 0, [], none, 0, 0, [], v9g, S9h, z, (ii z), onL, onL, p3_0, (h9i.c h5e<|m_ h5d h3.lt<|lt_ (lt_ (lt_ h0.s h1.s) s6.s) sm.s), (l_ h5d h5b), nd0, al0⟩
 refine Wk<|Ws<|Rm z<|R z (bP (parts := [(1, (.tmp 159))]) (cs := [vI 0, sl a2j n2k c2l, sl none 0 0]) Y_ z z)<|Rm z<|E0 (fs (cur' := [vI 0, sl a2j n2k c2l, sl none 0 0]) k_ z z ((((h3.e h0).c h1<|djs<|mmr h3.lt).e s6).e sm) z (lb z) (oA z) z) ?_
 rintro _ w11f ⟨h9l, s9m⟩
 have h5f := s9m.one
 refine Ra z<|Ra z<|Wn ?_
 obtain rfl := som (ifF hm59 hc2m)
 exact Wr<|x_ hr (r_ y_ k_ z h9l z) z z ⟨(bM (bup (bup (bM (bup h2 h0) h1<|m1 h2.s) s6) sm) h5f<|f_ lr), a2j, n2k, c2l, S9a, none, 0, 0, [], .nilIface, ([] : List Nat), z, (ii z), (h9b.c h5f<|m_ h5a h3.lt<|lt_ (lt_ h0.s h1.s) s6.s), onL, h9c, d_q, an_, (na_ h9d R_<|nmN _), (aa_ (l_ h5a h2i) an_)⟩
theorem T_w1i (ih : d_Q n) : j_7 (g_u n (a_4 n)) := by
 obtain ⟨ih0, ih1, ih2, ih3, ih4, ih5⟩ := ih
 constructor
 intro A0 A1 A3 A4 A2 A5 N0 C0 N1 C1 b1 o1 N3 C3 N4 C4 N2 C2 N5 C5 B x1 x2 x3 res w0 hm hBw p1_0 p1_1 hC1 hC1b p2_0 p2_1 p2_2 p2_4 p2_5 p2_6 p2_7 p3_0
 unfold g_u at hm
 refine goF func184 z z (lb z) fun fn hr => Ws<|E z (fb z) ?_
 rintro _ w7 ⟨rfl, hw⟩
 have h4 := hw.below
 have hx : Blk w7 w0.z (vR x2 A3 N3 C3 A4 N4 C4 A2 N2 C2 A5 N5 C5) := hw.blk
 refine E z (fa a_f) ?_
 rintro _ w1r ⟨rfl, hy⟩
 have h6 := hy.below
 have h5 : Blk w1r w7.z [vI 0, sl none 0 0, sl none 0 0] := hy.blk
 refine Ra z<|Ra z<|Wn<|Ws<|Rm z<|R z (fd a_5 z) ?_
 have hz := hx.e h6
 refine R z (l1 H_ z fid<|hz.at z) ?_
 obtain ⟨x3m, e1s, hm1t⟩ := bdS hm
 have hd := (h4.ag B).e h6
 refine RX z (at_ (α := Int) F_ z_3 z z z (p2_7.g hd) e1s) ?_
 rintro _ ⟨b3n, o3o, cs3p, rfl, h1u, h1v, h3q⟩
 obtain ⟨rfl, h1w⟩ := a_c h1v
 refine R z (l1 g_3 z fid<|h1u.at0 z)<|Rm z ?_
 have h10 := (hC1.e h4).e h6
 have he := lt_ h4.s h6.s
 obtain ⟨r3r, rr, r3s, e1x, hms⟩ := W_ hm1t
 refine E z (fc call181 z<|h_w (B := B) e1x (zt' hBw he) (p1_0.g hd) (p1_1.g hd) h10 hC1b h1w p3_0) ?_
 rintro _ w1 ⟨s0, v1y, S1z, rfl, h3t, h20, h11, h12⟩
 refine Rm z ?_
 iterate 3 refine R z (ext_ z z) ?_
 refine Ra z<|Ra z<|Ra z<|Wn<|Wq<|Ws<|Rm z<|R z (d_6 c_W z z h11)<|Wn<|Wc z (fun hcm => ?_) (fun hcm => ?_)
 ·refine Ws<|R z (bP (parts := []) (cs := [vI 0, sl none 0 0, sl none 0 0]) Y_ z z)<|Rm z<|Rm z<|E0 (fs (cur' := [vI 0, sl none 0 0, sl none 0 0]) k_ z z (h5.e s0) z (lb z) (oA z) z) ?_
  rintro _ w3u ⟨h21, s22⟩
  have h13 := s22.one
  refine Ra z<|Ra z<|Wn ?_
  obtain rfl := som (ifT hms hcm)
  exact Wr<|x_ hr (r_ y_ k_ z h21 z) z z ⟨(bM (bup (bup h4 h6) s0) h13<|m1 h4.s), none, 0, 0, [], none, 0, 0, [], v1y, S1z, z, (ii z), onL, onL, p3_0, (h11.c h13<|m_ h12 h5.lt lr), (l_ h12 he), nd0, al0⟩
 have hm14 := ifF hms hcm
 refine Wk<|Wq<|Ws<|Rm z<|R z (a_i z z)<|Wn<|Wc z (fun hco => ?_) (fun hco => ?_)
 ·refine Ws<|R z (bP (parts := []) (cs := [vI 0, sl none 0 0, sl none 0 0]) Y_ z z)<|Rm z<|Rm z ?_
  have h15 := lt_ he s0.s
  obtain ⟨r3v, e23, hm24⟩ := bdS (ifT hm14 hco)
  refine E z (fc call190 z<|d_o (B := B) e23 (zt' hBw h15) p3_0<|ii z) ?_
  rintro _ w3w ⟨s16, v25, S26, rfl, h27, h17⟩
  refine E0 (fs (cur' := [vI 0, sl none 0 0, sl none 0 0]) k_ z z ((h5.e s0).e s16) z (lb z) (oA z) z) ?_
  rintro _ w3x ⟨h28, s29⟩
  have h18 := s29.one
  refine Ra z<|Ra z<|Wn ?_
  obtain rfl := som hm24
  exact Wr<|x_ hr (r_ y_ k_ z h28 z) z z ⟨(bM (bup (bup (bup h4 h6) s0) s16) h18<|m1 h4.s), none, 0, 0, [], none, 0, 0, [], v25, S26, z, (ii z), onL, onL, p3_0, (h27.c h18<|m_ h17 h5.lt s0.s), (l_ h17 h15), nd0, al0⟩
 refine Wk<|Ws<|Rm z ?_
 obtain ⟨x2a, e2b, hm2c⟩ := bdS (ifF hm14 hco)
 refine E z (d_V (α := Int) c_f (fun _ => (c_F<|ii z)) e2b z z) ?_
 rintro _ w2 ⟨ac, nf, cg, rfl, s8, hp⟩
 refine Ra z<|Wn<|Wq<|Ws<|Rm z<|R z (lnR F_ z<|a_.rep hp)<|Rm z<|Wn ?_
 obtain ⟨u3y, hu2d, hm19⟩ := bdS hm2c
 refine Wf (σ := (List Int)) (ρ := Val × Int × (Option<|Int × Int)) (fun (k1a : Nat) (x9 : List Int) a w => ∃  (S3 : List Nat), Sat 59 [(0, (.pointer<|some ⟨b1, o1, none⟩)), (4, pt w0.z), (6, pt w7.z), (10, vI rr), (12, sl ac nf cg), (39, vI (x2a.length : Int)), (40, (vI ((k1a : Nat) : Int)))] a ∧ Chg (· ∈ [w1.z]) w2 w ∧ a_ w S3 (sl ac nf cg) x9 ∧ S3.Nodup ∧ (∀ k ∈ S3, k ∈ [w1.z] ∨ w2.z ≤ k)) (fun (x9 : List Int) a w => ∃  (S3 : List Nat), Sat 59 [(0, (.pointer<|some ⟨b1, o1, none⟩)), (6, pt w7.z), (10, vI rr), (12, sl ac nf cg)] a ∧ Chg (· ∈ [w1.z]) w2 w ∧ a_ w S3 (sl ac nf cg) x9 ∧ S3.Nodup ∧ (∀ k ∈ S3, k ∈ [w1.z] ∨ w2.z ≤ k)) (fun r ex a w => ex = .ret ∧ v_ prog fn (Q25 w0 B r) a w) hu2d ?_ ?_ ?_ ?_ ?_
 ·exact fun _ q => ⟨[w1.z], (q.k<|s7 z z z z z z z), (cr [w1.z] w2), hp, X_, (io sr)⟩
 ·rintro k1a x9 a3z w2e o40 hk1b ⟨S3, hS2f, sh, ha, hi, hj⟩ hm2g
  refine Wu ?_ hS2f
  refine Ws<|R z (lss z z)<|Wn<|Wq<|Wc z (fun _ => ?_) (fun hc => (N_ hk1b hc).elim)
  refine Wk<|Wq<|Wb<|Ws<|Rm z<|Ra z<|Wn<|Wg<|Rm z<|Rm z<|R z (fd a_5 z)<|R z (l1 H_ z fid<|(((hz.e s0).e s8).c sh<|djs<|mm1 hx.lt<|lt_ h6.s s0.s).at z) ?_
  obtain ⟨x41, e2h, hm2i⟩ := bdS hm2g
  have h2j : ∀ k ∈ [w1.z], ¬ B k := or0 (f_ lr)  (p_ (zt' hBw (lt_ he s0.s)))
  refine RX z (at_ (α := Int) F_ z_3 z z z (p2_7.g<|((hd.e s0).e s8).c sh<|h_ h2j) e2h) ?_
  rintro _ ⟨b42, o43, cs44, rfl, h2k, h2l, h45⟩
  obtain ⟨rfl, h2m⟩ := a_c h2l
  refine R z (l1 g_3 z fid<|h2k.at0 z) ?_
  obtain ⟨x2n, e1c, hm2o⟩ := bdS hm2i
  refine RX z (d_1 (α := Int) F_ z_3 z z ha e1c) ?_
  rintro _ ⟨g46, h2p, rfl⟩
  refine E0 (c_H (α := Int) z_3 z h2p z z z e1c ha hi (c_F h2m) an_ R_) ?_
  rintro _ w2q ⟨S1d, s2r, h2s, h2t, h2u⟩
  refine Wn<|Wg<|R z (inc_ hk1b (lt_ (a_.len hp) G_) z z)<|Rm z<|Wl ?_
  have h1e : ∀ k ∈ S3, k ∈ [w1.z] ∨ w2.z ≤ k := or1 hj (io sr) (n_ lr)
  have h2v : ∀ k ∈ S1d, k ∈ [w1.z] ∨ w2.z ≤ k := or2 h2u h1e an_ (n_ sh.s)
  have h2w : Chg (· ∈ [w1.z]) w2 w2e := cM (cr [w1.z] w2) sh (io sr)
  have h2x : Chg (· ∈ [w1.z]) w2 w2q := cM h2w s2r h1e
  exact fun _ q => ⟨x2n, (som hm2o).symm, ⟨S1d, (q.k<|s7 z z z z z z z), h2x, h2s, h2t, h2v⟩⟩
 ·rintro x9 a47 w2y ⟨S3, hS2z, s30, ha, hi, hj⟩
  refine Wu ?_ hS2z
  refine Ws<|R z (lss z z)<|Wn<|Wq<|Wc z (fun hc => (O_ hc).elim) (fun _ => ?_)
  have h31 : ∀ k ∈ S3, k ∈ [w1.z] ∨ w2.z ≤ k := or1 hj (io sr) (n_ lr)
  have h32 : Chg (· ∈ [w1.z]) w2 w2y := cM (cr [w1.z] w2) s30 (io sr)
  exact We (fun a' ha' => ⟨rfl, ⟨S3, (Sat.weaken ha'<|s4 z z z z), h32, ha, hi, h31⟩⟩)
 ·rintro x9 a33 w34 rfl ⟨S3, hS48, sb, ha, hi, hj⟩
  have hm35 := elL hm19
  revert a33
  refine Wo<|Ws<|Rm z<|R z (bP (parts := []) (cs := [vI 0, sl none 0 0, sl none 0 0]) Y_ z z)<|Rm z<|Rm z ?_
  have hq := lt_ he s0.s
  have h1f : ∀ k ∈ [w1.z], ¬ B k := or0 (f_ lr)  (p_ (zt' hBw hq))
  have h1g := ((hd.e s0).e s8).c sb<|h_ h1f
  have hk := lt_ (lt_ hq s8.s) sb.s
  have ht := zt' hBw hk
  obtain ⟨r36, r49, r4a, e37, hm38⟩ := W_ hm35
  refine E z (fc call185 z<|ih2.run (B := w34.z) (x2 := (⟨0, ([] : List UInt8), ([] : List Val)⟩ : Val)) e37 zr (b_.mono (p1_0.g h1g) ht) (b_.mono (p1_1.g h1g) ht) (((h10.e s0).e s8).c sb<|(h_ h1f) _ hC1b) (zap' ht hC1b) (ii z) onL R_ (nbl an_) onL R_ (nbl an_) an_ (a_.rep ha) h20) ?_
  rintro _ w4b ⟨s1h, a1i, n1j, c1k, S1l, a1m, n1n, c1o, S1p, v39, S3a, rfl, h3b, h3c, h3d, h3e, h3f, h1q, hu, hl⟩
  iterate 3 refine R z (ext_ z z) ?_
  refine E0 (fs (cur' := [vI r36.number, sl a1i n1j c1k, sl a1m n1n c1o]) k_ z z ((((h5.e s0).e s8).c sb<|djs<|mm1 h5.lt s0.s).c s1h<|atp<|nmA (nmN _)<|nmN _) z (lb z) (oA z) z) ?_
  rintro _ w4c ⟨h3g, s3h⟩
  have hn := s3h.one
  refine Ra z<|Ra z<|Wn ?_
  obtain rfl := som hm38
  have hv := lt_ (lt_ s0.s s8.s) sb.s
  have h3i : ∀ k ∈ S1l, k ∉ [w7.z] := or1 (al_ hl) al0 (Q_ (f_ h5.lt) hv)
  have h3j : ∀ k ∈ S1p, k ∉ [w7.z] := or1 (ar_ hl) al0 (Q_ (f_ h5.lt) hv)
  exact Wr<|x_ hr (r_ y_ k_ z h3g z) z z ⟨(bM (bM (bM (bup (bup (bup h4 h6) s0) s8) sb<|m1 hq) s1h al0) hn<|m1 h4.s), a1i, n1j, c1k, S1l, a1m, n1n, c1o, S1p, v39, S3a, z, h3b, (h3c.c hn h3i), (h3d.c hn h3j), h3e, (h3f.c hn<|m_ h1q h5.lt hv), (l_ h1q hk), (na_ (nl_ hu) (nr_ hu)<|nj hu), (aa_ (a_b (al_ hl) al0 hk)<|a_b (ar_ hl) al0 hk)⟩
 rintro r4d ex4e a4f w4g rfl ⟨rfl, hq3k⟩
 have hm3l := elR hm19
 obtain rfl := som hm3l
 exact ⟨hq3k, z⟩
theorem T_w1j (ih : d_Q n) : j_8 (g_v n (a_4 n)) := by
 obtain ⟨ih0, ih1, ih2, ih3, ih4, ih5⟩ := ih
 constructor
 intro A0 A1 AD AH A9 N0 C0 N1 C1 b1 o1 ND CD NH CH N9 C9 S2_1 S2_2 B x1 x2 x3 x4 res w0 hm hBw p1_0 p1_1 hC1 hC1b p2_0 p2_1 p2_1n p2_1g p2_2 p2_2n p2_2g p2_2d1 p3_0 p4_0
 unfold g_v at hm
 refine goF func185 z z (lb z) fun fn hr => Ws<|E z (fb z) ?_
 rintro _ wb ⟨rfl, h17⟩
 have h2 := h17.below
 have he : Blk wb w0.z [vI x2.number, sl AD ND CD, sl AH NH CH] := h17.blk
 refine E z (fa a_f) ?_
 rintro _ w1 ⟨rfl, h18⟩
 have h9 := h18.below
 have hk : Blk w1 wb.z [vI 0, sl none 0 0, sl none 0 0] := h18.blk
 refine Ra z<|Ra z<|Wn<|Wq<|Ws<|Rm z ?_
 have h19 := (h2.ag B).e h9
 refine R z (lnR F_ z<|p3_0.g h19)<|Rm z<|Wn ?_
 obtain ⟨u47, hu21, hm1a⟩ := bdS hm
 refine Wf (σ := Int × (List Val)) (ρ := Val × Int × (Option<|Int × Int)) (fun (k1b : Nat) s a w => un2 (fun xc xh => ∃ a3 n4 c5 S0, Sat 45 [(0, (.pointer<|some ⟨b1, o1, none⟩)), (3, vI xc), (5, pt w0.z), (8, pt wb.z), (16, sl A9 N9 C9), (17, vI (x3.length : Int)), (18, (vI ((k1b : Nat) : Int)))] a ∧ Chg (· ∈ (S2_2 ++ [w0.z])) w1 w ∧ inI xc ∧ a_ w S0 (sl a3 n4 c5) xh ∧ S0.Nodup ∧ (∀ k ∈ S0, k ∈ S2_2 ∨ w1.z ≤ k) ∧ Blk w w0.z [vI x2.number, sl AD ND CD, sl a3 n4 c5]) s) (fun s a w => un2 (fun xc xh => ∃ a3 n4 c5 S0, Sat 45 [(3, vI xc), (5, pt w0.z), (8, pt wb.z)] a ∧ Chg (· ∈ (S2_2 ++ [w0.z])) w1 w ∧ inI xc ∧ a_ w S0 (sl a3 n4 c5) xh ∧ S0.Nodup ∧ (∀ k ∈ S0, k ∈ S2_2 ∨ w1.z ≤ k) ∧ Blk w w0.z [vI x2.number, sl AD ND CD, sl a3 n4 c5]) s) (fun r ex a w => ex = .ret ∧ v_ prog fn (Q26 w0 B S2_1 S2_2 r) a w) hu21 ?_ ?_ ?_ ?_ ?_
 ·exact fun _ q => ⟨AH, NH, CH, S2_2, (q.k<|s7 z z z z z z z), (cr (S2_2 ++ [w0.z]) w1), p4_0, ((p2_2.e h2).e h9), p2_2n, (io sr), (he.e h9)⟩
 ·rintro k1b ⟨xc, xh⟩ a48 w1c o49 hk1d ⟨a3, n4, c5, S0, hS22, s6, hi, hf, hl, hd, hn⟩ hm23
  have hm24 := a_h hm23
  refine Wu ?_ hS22
  refine Ws<|R z (lss z z)<|Wn<|Wq<|Wc z (fun _ => ?_) (fun hc => (N_ hk1d hc).elim)
  refine Wk<|Wq<|Wb<|Ws ?_
  obtain ⟨x4a, e25, hm26⟩ := bdS hm24
  have h1e : ∀ k ∈ [w0.z], ¬ B k := or0 (f_ lr)  (p_ hBw)
  have ht := h19.c s6<|nmA (h_ p2_2g)<|h_ h1e
  refine RX z (at_ (α := Int) F_ z_3 z z z (p3_0.g ht) e25) ?_
  rintro _ ⟨b4b, o4c, cs4d, rfl, h27, h28, h4e⟩
  obtain ⟨rfl, h29⟩ := a_c h28
  refine R z (l1 g_3 z fid<|h27.at0 z)<|Ra z<|Wn<|Ws<|Rm z<|Rm z<|Rm z ?_
  have hu := lt_ (lt_ h2.s h9.s) s6.s
  obtain ⟨ro, r2a, r4f, e2b, hm1f⟩ := W_ hm26
  refine E z (fc call154 z<|ih0.run (B := B) e2b (zt' hBw hu) (p1_0.g ht) (p1_1.g ht) (((hC1.e h2).e h9).c s6<|(nmA (h_ p2_2g)<|h_ h1e) _ hC1b) hC1b h29 hi) ?_
  rintro _ wm ⟨sa, ar, ns, cv, S1g, aw, nx, cy, S1h, v2c, S2d, rfl, h2e, hp, hq, h2f, h1i, h1j, hz, hj⟩
  refine Rm z ?_
  iterate 3 refine R z (ext_ z z) ?_
  refine E z (fa a_f) ?_
  rintro _ w10 ⟨rfl, h1k⟩
  have h7 := h1k.below
  have h2g : Blk w10 wm.z [vI 0, sl none 0 0, sl none 0 0] := h1k.blk
  refine E0 (fs (cur' := [vI ro.number, sl ar ns cv, sl aw nx cy]) k_ z z h2g z (lb z) (oA z) z) ?_
  rintro _ w11 ⟨h2h, s2i⟩
  have h8 := s2i.one
  refine Ra z<|Ra z<|Wn<|Wq<|Ws<|Rm z ?_
  have h1l := (h1i.e h7).c h8<|ds<|mnr<|a_y.lt h1i
  refine R z (d_6 c_W z z h1l)<|Wn<|Wc z (fun hc12 => ?_) (fun hc12 => ?_)
  ·refine Ws<|R z (bP (parts := []) (cs := [vI 0, sl none 0 0, sl none 0 0]) Y_ z z)<|Rm z<|Rm z ?_
   have h2j := (((hk.c s6<|atp<|nmA (mno (a_.lt p2_2) h2.s)<|mmr he.lt).e sa).e h7).c h8<|djs<|mm1 hk.lt<|lt_ s6.s sa.s
   refine E0 (fs (cur' := [vI 0, sl none 0 0, sl none 0 0]) k_ z z h2j z (lb z) (oA z) z) ?_
   rintro _ w2k ⟨h2l, s2m⟩
   have h1m := s2m.one
   refine Ra z<|Ra z<|Wn ?_
   have h2n : Chg (· ∈ (S2_1 ++ S2_2)) w0 wb := E_ (cr (S2_1 ++ S2_2) w0) h2
   have h2o : Chg (· ∈ (S2_1 ++ S2_2)) w0 w1 := E_ h2n h9
   have h2p : ∀ k ∈ [w0.z], k ∈ (S2_1 ++ S2_2) ∨ w0.z ≤ k := mor lr
   have h2q : Chg (· ∈ (S2_1 ++ S2_2)) w0 w1c := cM h2o s6 (aa_ (io (a_3 sr)) h2p)
   have h2r : Chg (· ∈ (S2_1 ++ S2_2)) w0 wm := E_ h2q sa
   have h2s : Chg (· ∈ (S2_1 ++ S2_2)) w0 w10 := E_ h2r h7
   have h2t : ∀ k ∈ [wm.z], k ∈ (S2_1 ++ S2_2) ∨ w0.z ≤ k := mor (lt_ hu sa.s)
   have h2u : Chg (· ∈ (S2_1 ++ S2_2)) w0 w11 := cM h2s h8 h2t
   have h2v : ∀ k ∈ [wb.z], k ∈ (S2_1 ++ S2_2) ∨ w0.z ≤ k := mor h2.s
   have h2w : Chg (· ∈ (S2_1 ++ S2_2)) w0 w2k := cM h2u h1m h2v
   exact Wr<|rtO<|qL (som<|ifT hm1f hc12).symm<|x_ hr (r_ y_ k_ z h2l z) z z ⟨h2w, none, 0, 0, [], none, 0, 0, [], v2c, S2d, z, (ii z), onL, onL, hi, (h1l.c h1m<|m_ h1j hk.lt s6.s), (l_ h1j hu), nd0, al0⟩
  refine Wk<|Ws<|R z (fd h_p z) ?_
  have h13 := lt_ h9.s s6.s
  have h1n := lt_ h13 sa.s
  have h1o := ((hn.e sa).e h7).c h8<|djs<|mm1 he.lt h1n
  refine R z (l1 g_116 z fid<|h1o.at z)<|R z (lN (vs := [vI ro.number, sl ar ns cv, sl aw nx cy]) y_ k_ z z fid<|h2h.row 0 3 z)<|E z (fS [(.tmp 37)] h_o z z z (a_x z) (lb z)<|lb z) ?_
  rintro _ w1p ⟨rfl, h1q⟩
  have hg := h1q.below
  have h2x : Blk w1p w11.z [vI ro.number, sl ar ns cv, sl aw nx cy] := h1q.blk
  have h4g := (hp.e h7).c h8<|ds<|mnr<|a_.lt hp
  have h4h := (hq.e h7).c h8<|ds<|mnr<|a_.lt hq
  obtain ⟨x2y, e2z, hm30⟩ := bdS (ifF hm1f hc12)
  refine E z (b_b (α := Val) h_o e2z z z ((((hf.e sa).e h7).c h8<|ds<|mno (a_.lt hf) sa.s).e hg) hl h2x (n_k (x := ro) (S1 := S1g) (S2 := S1h) h2e (((hp.e h7).c h8<|ds<|mnr<|a_.lt hp).e hg)<|((hq.e h7).c h8<|ds<|mnr<|a_.lt hq).e hg) (aa_ (U_ (al_ hj) (a_.lt hf) lr)<|U_ (ar_ hj) (a_.lt hf) lr)<|na_ (nl_ hz) (nr_ hz)<|nj hz) ?_
  rintro _ w31 ⟨S14, a1r, n1s, c1t, rfl, s1u, h32, h33, h1v⟩
  refine R z (fd h_p z) ?_
  have h1w : ∀ k ∈ S0, k ∉ [w0.z] := or1 hd (ds (mnr (a_.lt p2_2))) (Q_ (f_ he.lt) h9.s)
  refine E0 (fs (cur' := [vI x2.number, sl AD ND CD, sl a1r n1s c1t]) z_116 z z ((h1o.e hg).c s1u<|djs h1w) z (lb z) (oA z) z) ?_
  rintro _ w34 ⟨h35, s36⟩
  have h1x := s36.one
  refine Wn<|Wg<|Rm z<|Ra z<|Wn<|Wg<|R z (inc_ hk1d (lt_ (b_.len p3_0) G_) z z)<|Rm z<|Wl ?_
  have h37 : ∀ k ∈ S14, k ∉ [w0.z] := or2 h1v h1w (aa_ (m_ (al_ hj) he.lt h13) (m_ (ar_ hj) he.lt h13)) (Q_ (f_ he.lt) (lt_ (lt_ (lt_ h1n h7.s) h8.s) hg.s))
  have h1y := lt_ s6.s sa.s
  have h38 : ∀ k ∈ S0, k ∈ S2_2 ∨ w1.z ≤ k := or1 hd (io sr) (n_ lr)
  have h39 : ∀ k ∈ S1g, k ∈ S2_2 ∨ w1.z ≤ k := or0 (al_ hj)  (n_ s6.s)
  have h3a : ∀ k ∈ S1h, k ∈ S2_2 ∨ w1.z ≤ k := or0 (ar_ hj)  (n_ s6.s)
  have h3b : ∀ k ∈ S14, k ∈ S2_2 ∨ w1.z ≤ k := or2 h1v h38 (aa_ h39 h3a) (n_ (lt_ (lt_ (lt_ h1y h7.s) h8.s) hg.s))
  have h3c : Chg (· ∈ (S2_2 ++ [w0.z])) w1 w1c := cM (cr (S2_2 ++ [w0.z]) w1) s6 (aa_ (io (a_K sr)) (io (a_3 sr)))
  have h3d : Chg (· ∈ (S2_2 ++ [w0.z])) w1 wm := E_ h3c sa
  have h3e : Chg (· ∈ (S2_2 ++ [w0.z])) w1 w10 := E_ h3d h7
  have h3f : ∀ k ∈ [wm.z], k ∈ (S2_2 ++ [w0.z]) ∨ w1.z ≤ k := mor h1y
  have h3g : Chg (· ∈ (S2_2 ++ [w0.z])) w1 w11 := cM h3e h8 h3f
  have h3h : Chg (· ∈ (S2_2 ++ [w0.z])) w1 w1p := E_ h3g hg
  have h3i : ∀ k ∈ S0, k ∈ (S2_2 ++ [w0.z]) ∨ w1.z ≤ k := or1 hd (io (a_K sr)) (n_ lr)
  have h3j : Chg (· ∈ (S2_2 ++ [w0.z])) w1 w31 := cM h3h s1u h3i
  have h3k : Chg (· ∈ (S2_2 ++ [w0.z])) w1 w34 := cM h3j h1x (io (a_3 sr))
  exact fun _ q => ⟨(r2a, x2y), (som hm30).symm, ⟨a1r, n1s, c1t, S14, (q.k<|s7 z z z z z z z), h3k, h2f, (h32.c h1x h37), h33, h3b, h35⟩⟩
 ·rintro ⟨xc, xh⟩ a4i w3l ⟨a3, n4, c5, S0, hS3m, s3n, hi, hf, hl, hd, hn⟩
  refine Wu ?_ hS3m
  refine Ws<|R z (lss z z)<|Wn<|Wq<|Wc z (fun hc => (O_ hc).elim) (fun _ => ?_)
  have h3o : ∀ k ∈ S0, k ∈ S2_2 ∨ w1.z ≤ k := or1 hd (io sr) (n_ lr)
  have h3p : Chg (· ∈ (S2_2 ++ [w0.z])) w1 w3l := cM (cr (S2_2 ++ [w0.z]) w1) s3n (aa_ (io (a_K sr)) (io (a_3 sr)))
  exact We (fun a' ha' => ⟨rfl, ⟨a3, n4, c5, S0, (Sat.weaken ha'<|s3 z z z), h3p, hi, hf, hl, h3o, hn⟩⟩)
 ·rintro ⟨xc, xh⟩ a3q w3r rfl ⟨a3, n4, c5, S0, hS4j, s15, hi, hf, hl, hd, hn⟩
  have hm3s := elL hm1a
  have hm3t := a_h hm3s
  revert a3q
  refine Wo<|Ws<|R z (lN (vs := [vI x2.number, sl AD ND CD, sl a3 n4 c5]) y_ k_ z z fid<|hn.row 0 3 z)<|Rm z ?_
  have h1z := mno (a_.lt p2_2) h2.s
  refine E0 (fs (cur' := [vI x2.number, sl AD ND CD, sl a3 n4 c5]) k_ z z (hk.c s15<|atp<|nmA h1z<|mmr he.lt) z (lb z) (oA z) z) ?_
  rintro _ w3u ⟨h3v, s3w⟩
  have h16 := s3w.one
  refine Ra z<|Ra z<|Wn ?_
  obtain rfl := som hm3t
  have h3x : ∀ k ∈ S0, k ∉ [wb.z] := or1 hd (ds h1z) (Q_ (f_ hk.lt) lr)
  have h3y : Chg (· ∈ (S2_1 ++ S2_2)) w0 wb := E_ (cr (S2_1 ++ S2_2) w0) h2
  have h3z : Chg (· ∈ (S2_1 ++ S2_2)) w0 w1 := E_ h3y h9
  have h40 : ∀ k ∈ [w0.z], k ∈ (S2_1 ++ S2_2) ∨ w0.z ≤ k := mor lr
  have h41 : Chg (· ∈ (S2_1 ++ S2_2)) w0 w3r := cM h3z s15 (aa_ (io (a_3 sr)) h40)
  have h42 : ∀ k ∈ [wb.z], k ∈ (S2_1 ++ S2_2) ∨ w0.z ≤ k := mor h2.s
  have h43 : Chg (· ∈ (S2_1 ++ S2_2)) w0 w3u := cM h41 h16 h42
  have h20 := lt_ h2.s h9.s
  have h44 : ∀ k ∈ S0, k ∈ (S2_1 ++ S2_2) ∨ w0.z ≤ k := or1 hd (io (a_3 sr)) (n_ h20)
  exact Wr<|x_ hr (r_ y_ k_ z h3v z) z z ⟨h43, AD, ND, CD, S2_1, a3, n4, c5, S0, .nilIface, ([] : List Nat), z, p2_0, ((((p2_1.e h2).e h9).c s15<|nmA (ds p2_2d1)<|ds<|mnr<|a_.lt p2_1).c h16<|ds<|mno (a_.lt p2_1) h2.s), (hf.c h16 h3x), hi, d_q, an_, (na_ p2_1n hl<|ds<|a_H hd p2_2d1 (a_.lt p2_1) h20), (aa_ (io<|a_K sr) h44)⟩
 rintro r4k ex4l a4m w4n rfl ⟨rfl, hq45⟩
 have hm46 := elR hm1a
 obtain rfl := som hm46
 exact ⟨hq45, z⟩
theorem T_w1k (ih : d_Q n) : j_9 (g_w n (a_4 n)) := by
 obtain ⟨ih0, ih1, ih2, ih3, ih4, ih5⟩ := ih
 constructor
 intro A0 A1 A3 A4 A2 A5 N0 C0 N1 C1 b1 o1 N3 C3 N4 C4 N2 C2 N5 C5 B x1 x2 x3 res w0 hm hBw p1_0 p1_1 hC1 hC1b p2_0 p2_1 p2_2 p2_4 p2_5 p2_6 p2_7 p3_0
 unfold g_w at hm
 refine goF func186 z z (lb z) fun fn hr => Ws<|E z (fb z) ?_
 rintro _ w5 ⟨rfl, hk⟩
 have h1 := hk.below
 have h1b : Blk w5 w0.z (vR x2 A3 N3 C3 A4 N4 C4 A2 N2 C2 A5 N5 C5) := hk.blk
 refine E z (fa a_f) ?_
 rintro _ w1c ⟨rfl, hl⟩
 have h4 := hl.below
 have h2 : Blk w1c w5.z [vI 0, sl none 0 0, sl none 0 0] := hl.blk
 refine Ra z<|Ra z<|Wn<|Ws<|Rm z<|R z (fd a_5 z) ?_
 have hn := h1b.e h4
 refine R z (l1 H_ z fid<|hn.at z) ?_
 obtain ⟨x2q, e1d, hm1e⟩ := bdS hm
 have h7 := (h1.ag B).e h4
 refine RX z (at_ (α := Int) F_ z_3 z z z (p2_7.g h7) e1d) ?_
 rintro _ ⟨b2r, o2s, cs2t, rfl, h1f, h1g, h2u⟩
 obtain ⟨rfl, h1h⟩ := a_c h1g
 refine R z (l1 g_3 z fid<|h1f.at0 z)<|Rm z ?_
 have ho := (hC1.e h1).e h4
 have h8 := lt_ h1.s h4.s
 obtain ⟨re, r1i, r2v, e1j, hmm⟩ := W_ hm1e
 refine E z (fc call181 z<|h_w (B := B) e1j (zt' hBw h8) (p1_0.g h7) (p1_1.g h7) ho hC1b h1h p3_0) ?_
 rintro _ w6 ⟨s0, v1k, S1l, rfl, h1m, h1n, hp, hq⟩
 refine Rm z ?_
 iterate 3 refine R z (ext_ z z) ?_
 refine Ra z<|Ra z<|Ra z<|Wn<|Wq<|Ws<|Rm z<|R z (d_6 c_W z z hp)<|Wn<|Wc z (fun hcf => ?_) (fun hcf => ?_)
 ·refine Ws<|R z (bP (parts := []) (cs := [vI 0, sl none 0 0, sl none 0 0]) Y_ z z)<|Rm z<|Rm z<|E0 (fs (cur' := [vI 0, sl none 0 0, sl none 0 0]) k_ z z (h2.e s0) z (lb z) (oA z) z) ?_
  rintro _ w2w ⟨h1o, s1p⟩
  have ht := s1p.one
  refine Ra z<|Ra z<|Wn ?_
  obtain rfl := som (ifT hmm hcf)
  exact Wr<|x_ hr (r_ y_ k_ z h1o z) z z ⟨(bM (bup (bup h1 h4) s0) ht<|m1 h1.s), none, 0, 0, [], none, 0, 0, [], v1k, S1l, z, (ii z), onL, onL, p3_0, (hp.c ht<|m_ hq h2.lt lr), (l_ hq h8), nd0, al0⟩
 refine Wk<|Wq<|Ws<|R z (fd a_J z) ?_
 have hu := hn.e s0
 refine R z (l1 H_ z fid<|hu.at z) ?_
 have hv := h7.e s0
 refine R z (lnR F_ z<|p2_6.g hv)<|Rm z<|Wn ?_
 obtain ⟨u2x, hu1q, hmr⟩ := bdS (ifF hmm hcf)
 refine Wf (σ := Unit) (ρ := Val × Int × (Option<|Int × Int)) (fun (ks : Nat) (_ : Unit) a w => Sat 61 [(0, (.pointer<|some ⟨b1, o1, none⟩)), (2, vI x3), (4, pt w0.z), (6, pt w5.z), (9, vI re), (10, vI r1i), (31, sl A2 N2 C2), (32, vI (x2.tags.length : Int)), (33, (vI ((ks : Nat) : Int)))] a ∧ Below w6.z w6 w) (fun (_ : Unit) a w => Sat 61 [(2, vI x3), (6, pt w5.z)] a ∧ Below w6.z w6 w) (fun r ex a w => ex = .ret ∧ v_ prog fn (Q25 w0 B r) a w) hu1q ?_ ?_ ?_ ?_ ?_
 ·exact fun _ q => ⟨(q.k<|s9 z z z z z z z z z), (br w6)⟩
 ·rintro ks _ a2y w2z o30 hkg ⟨hS1r, s3⟩ hm1s
  refine Wu ?_ hS1r
  refine Ws<|R z (lss z z)<|Wn<|Wq<|Wc z (fun _ => ?_) (fun hc => (N_ hkg hc).elim)
  refine Wk<|Wq<|Wb<|Ws<|Rm z ?_
  obtain ⟨x31, e1t, hmw⟩ := bdS hm1s
  have h9 := hv.e s3
  refine RX z (at_ (α := Int) F_ z_3 z z z (p2_6.g h9) e1t) ?_
  rintro _ ⟨b32, o33, cs34, rfl, h1u, h1v, h35⟩
  obtain ⟨rfl, h36⟩ := a_c h1v
  refine R z (l1 g_3 z fid<|h1u.at0 z)<|Ra z<|Ra z<|Wn<|Ws<|Rm z<|Rm z<|R z (eql z z)<|Wn<|Wc z (fun hch => ?_) (fun hch => ?_)
  ·refine Ws<|Rm z<|Rm z<|R z (bP (parts := [(0, (.tmp 42))]) (cs := [vI re, sl none 0 0, sl none 0 0]) Y_ z z)<|R z (fd a_5 z)<|R z (l1 H_ z fid<|(hu.e s3).at z)<|Rm z<|R z (inc_ hkg (lt_ (b_.len p2_6) G_) z z)<|Rm z<|R z (add_ z z) ?_
   obtain ⟨x37, e1w, hm1x⟩ := bdS (ifT hmw hch)
   refine RX z (rX F_ z_3 z z (p2_7.g h9) z z e1w) ?_
   rintro _ ⟨a38, n39, c3a, rfl, h1y⟩
   refine Rm z ?_
   have ha := lt_ (lt_ h8 s0.s) s3.s
   obtain ⟨r1z, r3b, r3c, e20, hm21⟩ := W_ hm1x
   refine E z (fc call185 z<|ih2.run (B := B) (x2 := (⟨re, ([] : List UInt8), ([] : List Val)⟩ : Val)) e20 (zt' hBw ha) (p1_0.g h9) (p1_1.g h9) ((ho.e s0).e s3) hC1b h1m onL R_ an_ onL R_ an_ an_ h1y h1n) ?_
   rintro _ w3d ⟨sx, ay, nz, c10, S11, a12, n13, c14, S15, v22, S23, rfl, h24, h25, h26, h27, h28, h16, hi, hb⟩
   iterate 3 refine R z (ext_ z z) ?_
   refine E0 (fs (cur' := [vI r1z.number, sl ay nz c10, sl a12 n13 c14]) k_ z z (((h2.e s0).e s3).c sx<|atp<|nmA (nmN _)<|nmN _) z (lb z) (oA z) z) ?_
   rintro _ w3e ⟨h29, s2a⟩
   have hd := s2a.one
   refine Ra z<|Ra z<|Wn ?_
   have hj := lt_ s0.s s3.s
   have h2b : ∀ k ∈ S11, k ∉ [w5.z] := or1 (al_ hb) al0 (Q_ (f_ h2.lt) hj)
   have h2c : ∀ k ∈ S15, k ∉ [w5.z] := or1 (ar_ hb) al0 (Q_ (f_ h2.lt) hj)
   exact Wr<|rtO<|qL (som hm21).symm<|x_ hr (r_ y_ k_ z h29 z) z z ⟨(bM (bM (bup (bup (bup h1 h4) s0) s3) sx al0) hd<|m1 h1.s), ay, nz, c10, S11, a12, n13, c14, S15, v22, S23, z, h24, (h25.c hd h2b), (h26.c hd h2c), h27, (h28.c hd<|m_ h16 h2.lt hj), (l_ h16 ha), (na_ (nl_ hi) (nr_ hi)<|nj hi), (aa_ (a_b (al_ hb) al0 ha)<|a_b (ar_ hb) al0 ha)⟩
  exact Wk<|Wg<|R z (inc_ hkg (lt_ (b_.len p2_6) G_) z z)<|Rm z<|Wl (fun _ q => ⟨(), (som<|ifF hmw hch).symm, ⟨(q.k<|s9 z z z z z z z z z), s3⟩⟩)
 ·rintro _ a3f w3g ⟨hS2d, s2e⟩
  refine Wu ?_ hS2d
  refine Ws<|R z (lss z z)<|Wn<|Wq<|Wc z (fun hc => (O_ hc).elim) (fun _ => ?_)
  exact We (fun a' ha' => ⟨rfl, ⟨(Sat.weaken ha'<|s2 z z), s2e⟩⟩)
 ·rintro _ a2f w3h rfl ⟨hS3i, sc⟩
  have hm2g := elL hmr
  revert a2f
  refine Wo<|Ws<|R z (bP (parts := []) (cs := [vI 0, sl none 0 0, sl none 0 0]) Y_ z z)<|Rm z<|Rm z ?_
  have h17 := lt_ (lt_ h8 s0.s) sc.s
  obtain ⟨r3j, e2h, hm2i⟩ := bdS hm2g
  refine E z (fc call190 z<|d_o (B := B) e2h (zt' hBw h17) p3_0<|ii z) ?_
  rintro _ w3k ⟨s18, v2j, S2k, rfl, h2l, h19⟩
  refine E0 (fs (cur' := [vI 0, sl none 0 0, sl none 0 0]) k_ z z (((h2.e s0).e sc).e s18) z (lb z) (oA z) z) ?_
  rintro _ w3l ⟨h2m, s2n⟩
  have h1a := s2n.one
  refine Ra z<|Ra z<|Wn ?_
  obtain rfl := som hm2i
  exact Wr<|x_ hr (r_ y_ k_ z h2m z) z z ⟨(bM (bup (bup (bup (bup h1 h4) s0) sc) s18) h1a<|m1 h1.s), none, 0, 0, [], none, 0, 0, [], v2j, S2k, z, (ii z), onL, onL, p3_0, (h2l.c h1a<|m_ h19 h2.lt<|lt_ s0.s sc.s), (l_ h19 h17), nd0, al0⟩
 rintro r3m ex3n a3o w3p rfl ⟨rfl, hq2o⟩
 have hm2p := elR hmr
 obtain rfl := som hm2p
 exact ⟨hq2o, z⟩
theorem T_w1l (ih : d_Q n) : j_a (g_x n (a_4 n)) := by
 obtain ⟨ih0, ih1, ih2, ih3, ih4, ih5⟩ := ih
 constructor
 intro A0 A1 A3 A4 A2 A5 N0 C0 N1 C1 b1 o1 N3 C3 N4 C4 N2 C2 N5 C5 B x1 x2 x3 res w0 hm hBw p1_0 p1_1 hC1 hC1b p2_0 p2_1 p2_2 p2_4 p2_5 p2_6 p2_7 p3_0
 unfold g_x at hm
 refine goF func187 z z (lb z) fun fn hr => Ws<|E z (fb z) ?_
 rintro _ w4 ⟨rfl, hf⟩
 have h1 := hf.below
 have h13 : Blk w4 w0.z (vR x2 A3 N3 C3 A4 N4 C4 A2 N2 C2 A5 N5 C5) := hf.blk
 refine E z (fa a_f) ?_
 rintro _ w14 ⟨rfl, hg⟩
 have h3 := hg.below
 have h2 : Blk w14 w4.z [vI 0, sl none 0 0, sl none 0 0] := hg.blk
 refine Ra z<|Ra z<|Wn<|Ws<|Rm z<|Rm z ?_
 have hh := (hC1.e h1).e h3
 have h9 := (h1.ag B).e h3
 have h5 := lt_ h1.s h3.s
 obtain ⟨r23, r24, e15, hmi⟩ := a_w hm
 refine E z (fc call203 z<|h_v (B := B) e15 (zt' hBw h5) (p1_0.g h9) (p1_1.g h9) hh hC1b p3_0<|ii z) ?_
 rintro _ w25 ⟨s0, a26, n27, c28, v16, S17, rfl, hj, hk, hl⟩
 refine Rm z<|R z (ext_ z z)<|R z (ext_ z z)<|Ra z<|Ra z<|Wn<|Wq<|Wb<|Ws<|Rm z<|R z (d_6 c_W z z hk)<|Ra z<|Wn<|Wc z (fun hca => ?_) (fun hca => ?_)
 ·refine Ws<|R z (bP (parts := []) (cs := [vI 0, sl none 0 0, sl none 0 0]) Y_ z z)<|Rm z<|Rm z<|E0 (fs (cur' := [vI 0, sl none 0 0, sl none 0 0]) k_ z z (h2.e s0) z (lb z) (oA z) z) ?_
  rintro _ w29 ⟨h18, s19⟩
  have hn := s19.one
  refine Ra z<|Ra z<|Wn ?_
  obtain rfl := som (ifT hmi hca)
  exact Wr<|rtO<|x_ hr (r_ y_ k_ z h18 z) z z ⟨(bM (bup (bup h1 h3) s0) hn<|m1 h1.s), none, 0, 0, [], none, 0, 0, [], v16, S17, z, (ii z), onL, onL, p3_0, (hk.c hn<|m_ hl h2.lt lr), (l_ hl h5), nd0, al0⟩
 refine Ws<|Rm z ?_
 obtain ⟨x2a, e1a, hmm⟩ := bdS (ifF hmi hca)
 refine RX z (at_ (α := UInt8) i_ z_5 z z z hj e1a) ?_
 rintro _ ⟨b2b, o2c, cs2d, rfl, h1b, h1c, h2e⟩
 obtain rfl := u8 h1c
 refine R z (l1 g_5 z fid<|h1b.at0 z)<|R z (a_i z z)<|Ra z<|Wn<|Wc z (fun hcb => ?_) (fun hcb => ?_)
 ·refine Ws<|R z (bP (parts := []) (cs := [vI 0, sl none 0 0, sl none 0 0]) Y_ z z)<|Rm z<|Rm z ?_
  have ho := lt_ h5 s0.s
  obtain ⟨r2f, e1d, hm1e⟩ := bdS (ifT hmm hcb)
  refine E z (fc call190 z<|d_o (B := B) e1d (zt' hBw ho) p3_0<|ii z) ?_
  rintro _ w2g ⟨sp, v1f, S1g, rfl, h1h, hq⟩
  refine E0 (fs (cur' := [vI 0, sl none 0 0, sl none 0 0]) k_ z z ((h2.e s0).e sp) z (lb z) (oA z) z) ?_
  rintro _ w2h ⟨h1i, s1j⟩
  have ht := s1j.one
  refine Ra z<|Ra z<|Wn ?_
  obtain rfl := som hm1e
  exact Wr<|rtO<|x_ hr (r_ y_ k_ z h1i z) z z ⟨(bM (bup (bup (bup h1 h3) s0) sp) ht<|m1 h1.s), none, 0, 0, [], none, 0, 0, [], v1f, S1g, z, (ii z), onL, onL, p3_0, (h1h.c ht<|m_ hq h2.lt s0.s), (l_ hq ho), nd0, al0⟩
 refine Ws<|Rm z ?_
 obtain ⟨x2i, e1k, hmr⟩ := bdS (ifF hmm hcb)
 refine RX z (at_ (α := UInt8) i_ z_5 z z z hj e1k) ?_
 rintro _ ⟨b2j, o2k, cs2l, rfl, h1l, h1m, h2m⟩
 obtain rfl := u8 h1m
 refine R z (l1 g_5 z fid<|h1l.at0 z)<|R z (eql z z)<|Ra z<|Wn<|Wc z (fun hcc => ?_) (fun hcc => ?_)
 ·refine Ws<|R z (bP (parts := []) (cs := [vI 0, sl none 0 0, sl none 0 0]) Y_ z z)<|Rm z<|R z (add_ z z)<|E0 (fs (cur' := [vI 0, sl none 0 0, sl none 0 0]) k_ z z (h2.e s0) z (lb z) (oA z) z) ?_
  rintro _ w2n ⟨h1n, s1o⟩
  refine Ra z<|Ra z<|Wn ?_
  obtain rfl := som (ifT hmr hcc)
  exact Wr<|rtO<|x_ hr (r_ y_ k_ z h1n z) z z ⟨(bM (bup (bup h1 h3) s0) s1o.one<|m1 h1.s), none, 0, 0, [], none, 0, 0, [], .nilIface, ([] : List Nat), z, (ii z), onL, onL, (iA _ _), d_q, an_, nd0, al0⟩
 refine Wk<|Ws<|Rm z<|R z (bP (parts := []) (cs := [vI 0, sl none 0 0, sl none 0 0]) Y_ z z)<|R z (fd a_5 z)<|R z (l1 H_ z fid<|((h13.e h3).e s0).at z)<|Rm z<|R z (add_ z z) ?_
 have hd := h9.e s0
 have h6 := lt_ h5 s0.s
 obtain ⟨r1p, r2o, r2p, e1q, hm1r⟩ := W_ (ifF hmr hcc)
 refine E z (fc call185 z<|ih2.run (B := B) (x2 := (⟨0, ([] : List UInt8), ([] : List Val)⟩ : Val)) e1q (zt' hBw h6) (p1_0.g hd) (p1_1.g hd) (hh.e s0) hC1b (ii z) onL R_ an_ onL R_ an_ an_ (p2_7.g hd)<|iA _ _) ?_
 rintro _ w2q ⟨ss, au, nv, cw, Sx, ay, nz, c10, S11, v1s, S1t, rfl, h1u, h1v, h1w, h1x, h1y, h12, he, h7⟩
 iterate 3 refine R z (ext_ z z) ?_
 refine E0 (fs (cur' := [vI r1p.number, sl au nv cw, sl ay nz c10]) k_ z z ((h2.e s0).c ss<|atp<|nmA (nmN _)<|nmN _) z (lb z) (oA z) z) ?_
 rintro _ w2r ⟨h1z, s20⟩
 have h8 := s20.one
 refine Ra z<|Ra z<|Wn ?_
 obtain rfl := som hm1r
 have h21 : ∀ k ∈ Sx, k ∉ [w4.z] := or1 (al_ h7) al0 (Q_ (f_ h2.lt) s0.s)
 have h22 : ∀ k ∈ S11, k ∉ [w4.z] := or1 (ar_ h7) al0 (Q_ (f_ h2.lt) s0.s)
 exact Wr<|x_ hr (r_ y_ k_ z h1z z) z z ⟨(bM (bM (bup (bup h1 h3) s0) ss al0) h8<|m1 h1.s), au, nv, cw, Sx, ay, nz, c10, S11, v1s, S1t, z, h1u, (h1v.c h8 h21), (h1w.c h8 h22), h1x, (h1y.c h8<|m_ h12 h2.lt s0.s), (l_ h12 h6), (na_ (nl_ he) (nr_ he)<|nj he), (aa_ (a_b (al_ h7) al0 h6)<|a_b (ar_ h7) al0 h6)⟩
theorem T_w1m (ih : d_Q n) : j_b (g_y n (a_4 n)) := by
 obtain ⟨ih0, ih1, ih2, ih3, ih4, ih5⟩ := ih
 constructor
 intro A0 A1 A3 A4 A2 A5 N0 C0 N1 C1 b1 o1 N3 C3 N4 C4 N2 C2 N5 C5 B x1 x2 x3 res w0 hm hBw p1_0 p1_1 hC1 hC1b p2_0 p2_1 p2_2 p2_4 p2_5 p2_6 p2_7 p3_0
 unfold g_y at hm
 refine goF func188 z z (lb z) fun fn hr => Ws<|E z (fb z) ?_
 rintro _ wb ⟨rfl, hu⟩
 have h6 := hu.below
 have h1j : Blk wb w0.z (vR x2 A3 N3 C3 A4 N4 C4 A2 N2 C2 A5 N5 C5) := hu.blk
 refine E z (fa a_f) ?_
 rintro _ w1k ⟨rfl, hv⟩
 have h8 := hv.below
 have h3 : Blk w1k wb.z [vI 0, sl none 0 0, sl none 0 0] := hv.blk
 refine Ra z<|Ra z<|Wn<|Ws<|Rm z<|R z (bP (parts := []) (cs := [vI 0, sl none 0 0, sl none 0 0]) Y_ z z)<|R z (fd a_5 z)<|R z (l1 H_ z fid<|(h1j.e h8).at z)<|Rm z ?_
 have hw := (hC1.e h6).e h8
 have hc := (h6.ag B).e h8
 have h9 := lt_ h6.s h8.s
 obtain ⟨rk, r2k, r2l, e1l, hmr⟩ := W_ hm
 refine E z (fc call185 z<|ih2.run (B := B) (x2 := (⟨0, ([] : List UInt8), ([] : List Val)⟩ : Val)) e1l (zt' hBw h9) (p1_0.g hc) (p1_1.g hc) hw hC1b (ii z) onL R_ an_ onL R_ an_ an_ (p2_7.g hc) p3_0) ?_
 rintro _ ws ⟨s0, ad, ne, cf, Sx, ah, ng, ci, Sy, v1m, S1n, rfl, h1o, hz, h10, h11, h12, h13, hl, hj⟩
 refine Rm z ?_
 iterate 3 refine R z (ext_ z z) ?_
 refine E z (fa a_f) ?_
 rintro _ w1p ⟨rfl, h14⟩
 have h1 := h14.below
 have h1q : Blk w1p ws.z [vI 0, sl none 0 0, sl none 0 0] := h14.blk
 refine E0 (fs (cur' := [vI rk.number, sl ad ne cf, sl ah ng ci]) k_ z z h1q z (lb z) (oA z) z) ?_
 rintro _ w2m ⟨h1r, s1s⟩
 have h2 := s1s.one
 refine Ra z<|Ra z<|Wn<|Wq<|Ws<|Rm z ?_
 have h15 := (h12.e h1).c h2<|ds<|mnr<|a_y.lt h12
 refine R z (d_6 c_W z z h15)<|Wn<|Wc z (fun hcm => ?_) (fun hcm => ?_)
 ·refine Ws<|R z (bP (parts := []) (cs := [vI 0, sl none 0 0, sl none 0 0]) Y_ z z)<|Rm z<|Rm z<|E0 (fs (cur' := [vI 0, sl none 0 0, sl none 0 0]) k_ z z (((h3.c s0<|atp<|nmA (nmN _)<|nmN _).e h1).c h2<|djs<|mm1 h3.lt s0.s) z (lb z) (oA z) z) ?_
  rintro _ w2n ⟨h1t, s1u⟩
  have h16 := s1u.one
  refine Ra z<|Ra z<|Wn ?_
  obtain rfl := som (ifT hmr hcm)
  exact Wr<|x_ hr (r_ y_ k_ z h1t z) z z ⟨(bM (bM (bup (bM (bup h6 h8) s0 al0) h1) h2<|m1<|lt_ h9 s0.s) h16<|m1 h6.s), none, 0, 0, [], none, 0, 0, [], v1m, S1n, z, (ii z), onL, onL, p3_0, (h15.c h16<|m_ h13 h3.lt lr), (l_ h13 h9), nd0, al0⟩
 refine Wk<|Ws<|Rm z<|Rm z ?_
 have ha := lt_ h9 s0.s
 have h17 : ∀ k ∈ [ws.z], ¬ B k := or0 (f_ lr)  (p_ (zt' hBw ha))
 have h18 := ((hw.c s0<|(nmA (h_ an_)<|h_ an_) _ hC1b).e h1).c h2<|(h_ h17) _ hC1b
 have hn := ((hc.c s0<|nmA (h_ an_)<|h_ an_).e h1).c h2<|h_ h17
 have ho := lt_ (lt_ ha h1.s) h2.s
 obtain ⟨r2o, r2p, e1v, hm19⟩ := a_w (ifF hmr hcm)
 refine E z (fc call203 z<|h_v (B := B) e1v (zt' hBw ho) (p1_0.g hn) (p1_1.g hn) h18 hC1b h11<|ii z) ?_
 rintro _ w2q ⟨s4, a2r, n2s, c2t, v1w, S1x, rfl, h1y, h1a, h1b⟩
 refine Rm z<|R z (ext_ z z)<|R z (ext_ z z)<|Ra z<|Ra z<|Wn<|Wq<|Ws<|Rm z<|R z (d_6 c_W z z h1a)<|Wn<|Wc z (fun hcp => ?_) (fun hcp => ?_)
 ·refine Ws<|R z (bP (parts := []) (cs := [vI 0, sl none 0 0, sl none 0 0]) Y_ z z)<|Rm z<|Rm z<|E0 (fs (cur' := [vI 0, sl none 0 0, sl none 0 0]) k_ z z ((((h3.c s0<|atp<|nmA (nmN _)<|nmN _).e h1).c h2<|djs<|mm1 h3.lt s0.s).e s4) z (lb z) (oA z) z) ?_
  rintro _ w2u ⟨h1z, s20⟩
  have h1c := s20.one
  refine Ra z<|Ra z<|Wn ?_
  obtain rfl := som (ifT hm19 hcp)
  exact Wr<|x_ hr (r_ y_ k_ z h1z z) z z ⟨(bM (bup (bM (bup (bM (bup h6 h8) s0 al0) h1) h2<|m1 ha) s4) h1c<|m1 h6.s), none, 0, 0, [], none, 0, 0, [], v1w, S1x, z, (ii z), onL, onL, p3_0, (h1a.c h1c<|m_ h1b h3.lt<|lt_ (lt_ s0.s h1.s) h2.s), (l_ h1b ho), nd0, al0⟩
 refine Wk<|Wq<|Wq (Wd (X := noX) 0 (.rd 0 (.rd 1 (.rd 2 (.rd 3 (.rd 4 (.rd 5 (.rd 6 (.rd 7 (.rd 8 (.rd 9 (.rd 10 (.ef 11 (.rd 12 .done))))))))))))) mo (by kernel_rfl) fun w2v s5 _ => dR z z (mv z) ?_)
 obtain ⟨x2w, e21, hm22⟩ := bdS (ifF hm19 hcp)
 refine dRX z z (at_ (α := UInt8) i_ z_5 z z z (h1y.e s5) e21) ?_
 rintro _ ⟨b2x, o2y, cs2z, rfl, h23, h24, h30⟩
 obtain rfl := u8 h24
 refine dR z z (l1 g_5 z fid<|h23.at0 z)<|dR z z (b_g d_5 d_3 z)<|dR z z (mv z)<|dR z z (b_Q z)<|dR z z (fd e_o z)<|dR z z (l1 I_ z fid<|((h18.e s4).e s5).at (j := 1) z)<|dR z z (mv z)<|dR z z (mv z) ?_
 obtain ⟨x31, e25, hm26⟩ := bdS hm22
 refine dRX z z (rX i_ z_5 z z (p1_1.g<|(hn.e s4).e s5) z z e25) ?_
 rintro _ ⟨a32, n33, c34, rfl, h27⟩
 have h1d := lt_ (lt_ ho s4.s) s5.s
 obtain ⟨r35, e28, hm1e⟩ := bdS hm26
 refine dE z z (fc call91 z<|W_w1a (B := B) e28 (zt' hBw h1d) h27) (.inr fun _ _ h => z_<|h.1) ?_
 rintro _ w36 ⟨s7, rfl, h37⟩
 refine dR z z (nq z z)<|pD<|Wo<|Wc z (fun hcq => ?_) (fun hcq => ?_)
 ·refine Ws<|R z (bP (parts := []) (cs := [vI 0, sl none 0 0, sl none 0 0]) Y_ z z)<|Rm z<|Rm z ?_
  have h1f := lt_ h1d s7.s
  obtain ⟨r38, e29, hm2a⟩ := bdS (ifT hm1e hcq)
  refine E z (fc call190 z<|d_o (B := B) e29 (zt' hBw h1f) h11<|ii z) ?_
  rintro _ w39 ⟨s1g, v2b, S2c, rfl, h2d, h1h⟩
  refine E0 (fs (cur' := [vI 0, sl none 0 0, sl none 0 0]) k_ z z (((((((h3.c s0<|atp<|nmA (nmN _)<|nmN _).e h1).c h2<|djs<|mm1 h3.lt s0.s).e s4).e s5).e s7).e s1g) z (lb z) (oA z) z) ?_
  rintro _ w3a ⟨h2e, s2f⟩
  have h1i := s2f.one
  refine Ra z<|Ra z<|Wn ?_
  obtain rfl := som hm2a
  exact Wr<|x_ hr (r_ y_ k_ z h2e z) z z ⟨(bM (bup (bup (bup (bup (bM (bup (bM (bup h6 h8) s0 al0) h1) h2<|m1 ha) s4) s5) s7) s1g) h1i<|m1 h6.s), none, 0, 0, [], none, 0, 0, [], v2b, S2c, z, (ii z), onL, onL, p3_0, (h2d.c h1i<|m_ h1h h3.lt<|lt_ (lt_ (lt_ (lt_ (lt_ s0.s h1.s) h2.s) s4.s) s5.s) s7.s), (l_ h1h h1f), nd0, al0⟩
 refine Wk<|Ws<|R z (lN (vs := [vI rk.number, sl ad ne cf, sl ah ng ci]) y_ k_ z z fid<|(((h1r.e s4).e s5).e s7).row 0 3 z)<|Rm z<|R z (add_ z z)<|E0 (fs (cur' := [vI rk.number, sl ad ne cf, sl ah ng ci]) k_ z z ((((((h3.c s0<|atp<|nmA (nmN _)<|nmN _).e h1).c h2<|djs<|mm1 h3.lt s0.s).e s4).e s5).e s7) z (lb z) (oA z) z) ?_
 rintro _ w3b ⟨h2g, s2h⟩
 have ht := s2h.one
 refine Ra z<|Ra z<|Wn ?_
 obtain rfl := som (ifF hm1e hcq)
 have h2i : ∀ k ∈ Sx, k ∉ [wb.z] := or1 (al_ hj) al0 (Q_ (f_ h3.lt) lr)
 have h2j : ∀ k ∈ Sy, k ∉ [wb.z] := or1 (ar_ hj) al0 (Q_ (f_ h3.lt) lr)
 exact Wr<|x_ hr (r_ y_ k_ z h2g z) z z ⟨(bM (bup (bup (bup (bM (bup (bM (bup h6 h8) s0 al0) h1) h2<|m1 ha) s4) s5) s7) ht<|m1 h6.s), ad, ne, cf, Sx, ah, ng, ci, Sy, .nilIface, ([] : List Nat), z, h1o, ((((((hz.e h1).c h2<|ds<|mnr<|a_.lt hz).e s4).e s5).e s7).c ht h2i), ((((((h10.e h1).c h2<|ds<|mnr<|a_.lt h10).e s4).e s5).e s7).c ht h2j), (iA _ _), d_q, an_, (na_ (nl_ hl) (nr_ hl)<|nj hl), (aa_ (a_b (al_ hj) al0 h9)<|a_b (ar_ hj) al0 h9)⟩
theorem b_Z : ∀ n, d_Q n
  | 0 => ⟨⟨fun hm => by intros; exact nomatch (show none = some _ from hm)⟩, ⟨fun hm => by intros; exact nomatch (show none = some _ from hm)⟩, ⟨fun hm => by intros; exact nomatch (show none = some _ from hm)⟩, ⟨fun hm => by intros; exact nomatch (show none = some _ from hm)⟩, ⟨fun hm => by intros; exact nomatch (show none = some _ from hm)⟩, ⟨fun hm => by intros; exact nomatch (show none = some _ from hm)⟩⟩
  | n + 1 => ⟨T_w01 (b_Z n), T_w1i (b_Z n), T_w1j (b_Z n), T_w1k (b_Z n), T_w1l (b_Z n), T_w1m (b_Z n)⟩
theorem W_w01 : j_6 (a_4 n).impl_fileReader_value := (b_Z n).1
theorem W_w1i : j_7 (a_4 n).impl_fileReader_array := (b_Z n).2.1
theorem W_w1j : j_8 (a_4 n).impl_fileReader_items := (b_Z n).2.2.1
theorem W_w1k : j_9 (a_4 n).impl_fileReader_choice := (b_Z n).2.2.2.1
theorem W_w1l : j_a (a_4 n).impl_fileReader_option := (b_Z n).2.2.2.2.1
theorem W_w1m : j_b (a_4 n).impl_fileReader_checked := (b_Z n).2.2.2.2.2

theorem j_c {x1 : g_} {x2 : Int} {x3 : List UInt8} {x4 : Int} {res : Val × Int × Int} (hm : g_z n x1 x2 x3 x4 = some res) (hBw : B ≤ w0.z) (hG : Gl w0 B) (p1_0 : b_ w0 B (sl A0 N0 C0) x1.rules) (p2_0 : inI x2) (p3_0 : b_ w0 B (sl A9 N9 C9) x3) (p4_0 : inI x4) : j_ prog 138 [(.agg #[sl A0 N0 C0]), vI x2, sl A9 N9 C9, vI x4] w0 (Q17 w0 B res) := by
 unfold g_z at hm
 refine goF func138 z z (lb z) fun fn hr => Ws<|E z (fb z) ?_
 rintro _ wc ⟨rfl, h10⟩
 have h1 := h10.below
 have h11 : Blk wc w0.z [sl A0 N0 C0] := h10.blk
 refine E z (fa a_f) ?_
 rintro _ wp ⟨rfl, h12⟩
 have h4 := h12.below
 have h5 : Blk wp wc.z [vI 0, sl none 0 0, sl none 0 0] := h12.blk
 refine Ra z<|Ra z<|Wn<|Wq<|Wq ?_
 obtain ⟨u1v, hu1w, hm13⟩ := bdS hm
 refine Wt (fun a w => ∃ (xq : Bool), xq = u1v ∧ Sat 62 [(1, vI x2), (2, sl A9 N9 C9), (3, vI x4), (4, pt w0.z), (8, pt wc.z), (34, vB xq)] a ∧ Below wp.z wp w) ?_ ?_
 ·refine Wg<|R z (lN (vs := [sl A0 N0 C0]) P_ D_ z z fid<|(h11.e h4).row 0 1 z)<|Rm z ?_
  have h14 := (h1.ag B).e h4
  obtain ⟨r1x, e1y, hm15⟩ := bdS hu1w
  refine E z (fc call153 z<|W_w3o (B := B) e1y (zt' hBw<|lt_ h1.s h4.s) (p1_0.g h14) p2_0) ?_
  rintro _ w2s ⟨sd, rfl⟩
  refine R z (not_ z)<|Rm z ?_
  rcases bs (!r1x) with hc8 | hc8
  ·exact Nh z hc8<|Nh z hc8<|R z (pT z hc8 z)<|Rm z<|Nh z z<|Nh z z<|Nh z z<|Nh z z<|R z (pT z z z)<|Rm z<|Nh z z<|Nh z z<|Nh z z<|R z (pT z z z)<|Wl (fun _ q => ⟨true, som<|ifT hm15 hc8, (q.k<|s6 z z z z z z), sd⟩)
  have hm16 := ifF hm15 hc8
  refine Rh z hc8 (mv z)<|Rh z hc8 (lss z z)<|R z (pF z hc8 z)<|Rm z ?_
  rcases bs (decide (x4 < 0)) with hc6 | hc6
  ·iterate 4 refine Nh z hc6 ?_
   exact R z (pT z hc6 z)<|Rm z<|Nh z z<|Nh z z<|Nh z z<|R z (pT z z z)<|Wl (fun _ q => ⟨true, som<|ifT hm16 hc6, (q.k<|s6 z z z z z z), sd⟩)
  have hm17 := ifF hm16 hc6
  refine Rh z hc6 (mv z)<|Rh z hc6 (mv z) ?_
  have h18 := p3_0.g<|h14.e sd
  refine Rh z hc6 (lnR i_ z h18)<|Rh z hc6 (a_i z z)<|R z (pF z hc6 z)<|Rm z ?_
  rcases bs (decide ((x3.length : Int) < x4)) with hc9 | hc9
  ·iterate 3 refine Nh z hc9 ?_
   exact R z (pT z hc9 z)<|Wl (fun _ q => ⟨true, som<|ifT hm17 hc9, (q.k<|s6 z z z z z z), sd⟩)
  exact Rh z hc9 (mv z)<|Rh z hc9 (lnR i_ z h18)<|Rh z hc9 (a_i z z)<|R z (pF z hc9 z)<|Wl (fun _ q => ⟨decide (400 < (x3.length : Int)), som<|ifF hm17 hc9, (q.k<|s6 z z z z z z), sd⟩)
 rintro a1z w20 ⟨xq, rfl, hS2t, s0⟩
 revert a1z
 refine Wo<|Wc z (fun hcr => ?_) (fun hcr => ?_)
 ·refine Ws<|R z (bP (parts := []) (cs := [vI 0, sl none 0 0, sl none 0 0]) Y_ z z)<|E0 (fs (cur' := [vI 0, sl none 0 0, sl none 0 0]) k_ z z (h5.e s0) z (lb z) (oA z) z) ?_
  rintro _ w2u ⟨h21, s22⟩
  refine Ra z<|Ra z<|Wn ?_
  obtain rfl := som (ifT hm13 hcr)
  exact Wr<|x_ hr (r_ y_ k_ z h21 z) z z ⟨(bM (bup (bup h1 h4) s0) s22.one<|m1 h1.s), none, 0, 0, [], none, 0, 0, [], z, (ii z), onL, onL, (ii z), (ii z), nd0, al0⟩
 refine Wk<|Ws<|R z (lN (vs := [sl A0 N0 C0]) P_ D_ z z fid<|((h11.e h4).e s0).row 0 1 z)<|Rm z<|R z (bP (parts := [(0, (.tmp 36)), (1, (.tmp 37))]) (cs := [sl A0 N0 C0, sl A9 N9 C9]) o_7 z z)<|E z (fb z) ?_
 rintro _ w19 ⟨rfl, h1a⟩
 have ha := h1a.below
 have h1b : Blk w19 w20.z [sl A0 N0 C0, sl A9 N9 C9] := h1a.blk
 refine Ra z<|Wn<|Ws<|Rm z<|Rm z<|Rm z ?_
 have h1c := (((h1.ag B).e h4).e s0).e ha
 have he := lt_ (lt_ (lt_ h1.s h4.s) s0.s) ha.s
 have h1d := zt' hBw he
 obtain ⟨rs, r2v, r23, e24, hm1e⟩ := W_ (ifF hm13 hcr)
 refine E z (fc call154 z<|W_w01.run (B := w19.z) e24 zr (b_.mono (p1_0.g h1c) h1d) (b_.mono (p3_0.g h1c) h1d) (h1b.row 0 2 z) h1b.lt p2_0 p4_0) ?_
 rintro _ w1f ⟨sb, ah, ng, ci, S25, aj, nk, cl, S26, v2w, S2x, rfl, h27, h1g, h1h, h28, ht, h29, hu, hn⟩
 refine Rm z ?_
 iterate 3 refine R z (ext_ z z) ?_
 refine E z (fa a_f) ?_
 rintro _ w2a ⟨rfl, h1i⟩
 have h2 := h1i.below
 have h2b : Blk w2a w1f.z [vI 0, sl none 0 0, sl none 0 0] := h1i.blk
 refine E0 (fs (cur' := [vI rs.number, sl ah ng ci, sl aj nk cl]) k_ z z h2b z (lb z) (oA z) z) ?_
 rintro _ w1j ⟨h2c, s2d⟩
 have h3 := s2d.one
 refine Ra z<|Ra z<|Wn<|Ws<|E z (fa o_f) ?_
 rintro _ w2e ⟨rfl, h1k⟩
 have h7 := h1k.below
 have h1l : Blk w2e w1j.z [(.pointer none)] := h1k.blk
 refine Wn<|Wq<|Ws<|Rm z<|R z (f_G d_164 (fun _ h => by cases h) z) ?_
 have h1m := ((ht.e h2).c h3<|ds<|mnr<|a_y.lt ht).e h7
 rcases bs (r23.isSome) with hcm | hcm
 ·obtain ⟨r2y, r2z, e2f, hm2g⟩ := a_w (ifT hm1e hcm)
  have hv := lt_ he sb.s
  have h2h : ∀ k ∈ [w1f.z], ¬ B k := or0 (f_ lr)  (p_ (zt' hBw hv))
  refine E z (fc call155 z<|o_6 ((((((((hG.e h1).e h4).e s0).e ha).e sb).e h2).c h3<|h_ h2h).e h7) h1m e2f h1l) ?_
  rintro _ w30 ⟨g1n, rfl, s2i, h2j, h2k, h1o, h2l, h2m⟩
  have hw := s2i.one
  refine Wn<|Wc z (fun _ => ?_) (fun hc => (bcon z hc).elim)
  refine Wq (Wd (X := (· ∈ [wc.z])) 0 (.rd 0 (.rd 1 (.rd 2 (.rd 3 (.rd 4 (.rd 5 (.rd 6 (.rd 7 (.rd 8 (.ef 9 (.rd 10 (.rd 11 .done)))))))))))) mo (by kernel_rfl) fun w31 so _ => dR z z (bP (parts := []) (cs := [vI 0, sl none 0 0, sl none 0 0]) Y_ z z) ?_)
  have h1p := h2j.e so
  have h1q := lt_ s0.s ha.s
  have h1r := lt_ h1q sb.s
  have h1s := lt_ (lt_ h1r h2.s) h3.s
  have hx := mm1 h5.lt h1s
  refine dR z z (l1 g_162 z (atp hx)<|h1p.at z)<|dR z z (b_Q z)<|dR z z (fd o_d z) ?_
  have h2n : ∀ k ∈ [g1n], k ∉ [w1j.z] := or1 (f_ (.inl h1o)) (ds (mno (a_y.lt ht) (lt_ h2.s h3.s))) (Q_ (f_ h1l.lt) lr)
  have h1t := (h2k.c hw<|atp h2n).e so
  have h1u : ∀ k ∈ [g1n], k ∉ [wc.z] := or1 (f_ (.inl h1o)) (m_ h29 h5.lt h1q) (Q_ (f_ h5.lt) (lt_ h1s h7.s))
  refine dR z z (l1 g_3 z (atp h1u)<|h1t.at z)<|dR z z (l1 g_162 z (atp hx)<|h1p.at z)<|dR z z (b_Q z)<|dR z z (fd o_e z)<|dR z z (l1 g_3 z (atp h1u)<|h1t.at z)<|dE0 z (fs (cur' := [vI 0, sl none 0 0, sl none 0 0]) k_ z z ((((((((h5.e s0).e ha).e sb).e h2).c h3<|djs<|mm1 h5.lt h1r).e h7).c hw<|djs hx).e so) z (lb z) (oA z) z) (.inr fun _ _ h => chgIn (List.mem_singleton.2 z) h.2) ?_
  rintro _ w32 ⟨h2o, s2p⟩
  refine dR z z (asg z)<|dR z z (asg z)<|pD<|Wo ?_
  obtain rfl := som hm2g
  exact Wr<|x_ hr (r_ y_ k_ z h2o z) z z ⟨(bM (bup (bM (bup (bM (bup (bup (bup (bup (bup h1 h4) s0) ha) sb) h2) h3<|m1 hv) h7) hw<|m1<|lt_ (lt_ hv h2.s) h3.s) so) s2p.one<|m1 h1.s), none, 0, 0, [], none, 0, 0, [], z, (ii z), onL, onL, h2l, h2m, nd0, al0⟩
 refine E z (fc call155 z<|o_5 h1m hcm) ?_
 rintro _ w33 ⟨rfl, sf⟩
 refine Wn<|Wc z (fun hc => (bcon hc z).elim) (fun _ => ?_)
 refine Wk<|Ws<|R z (lN (vs := [vI rs.number, sl ah ng ci, sl aj nk cl]) y_ k_ z z fid<|((h2c.e h7).e sf).row 0 3 z)<|Rm z ?_
 have hy := lt_ s0.s ha.s
 refine E0 (fs (cur' := [vI rs.number, sl ah ng ci, sl aj nk cl]) k_ z z (((((((h5.e s0).e ha).e sb).e h2).c h3<|djs<|mm1 h5.lt<|lt_ hy sb.s).e h7).e sf) z (lb z) (oA z) z) ?_
 rintro _ w34 ⟨h2q, s2r⟩
 have hz := s2r.one
 refine Ra z<|Ra z<|Wn ?_
 obtain rfl := som (ifF hm1e hcm)
 exact Wr<|x_ hr (r_ y_ k_ z h2q z) z z ⟨(bM (bup (bup (bM (bup (bup (bup (bup (bup h1 h4) s0) ha) sb) h2) h3<|m1<|lt_ he sb.s) h7) sf) hz<|m1 h1.s), ah, ng, ci, S25, aj, nk, cl, S26, z, h27, (((((h1g.e h2).c h3<|ds<|mnr<|a_.lt h1g).e h7).e sf).c hz<|m_ (al_ hn) h5.lt hy), (((((h1h.e h2).c h3<|ds<|mnr<|a_.lt h1h).e h7).e sf).c hz<|m_ (ar_ hn) h5.lt hy), h28, (ii z), (na_ (nl_ hu) (nr_ hu)<|nj hu), (aa_ (l_ (al_ hn) he)<|l_ (ar_ hn) he)⟩
theorem W_w3s {x1 : g_} {x2 : List UInt8} {res : Val × Int × Int} (hm : g_A n x1 x2 = some res) (hBw : B ≤ w0.z) (hG : Gl w0 B) (p1_0 : b_ w0 B (sl A0 N0 C0) x1.rules) (p2_0 : b_ w0 B (sl A6 N6 C6) x2) : j_ prog 115 [(.agg #[sl A0 N0 C0]), sl A6 N6 C6] w0 (Q17 w0 B res) := by
 unfold g_A at hm
 refine goF func115 z z (lb z) fun fn hr => Ws<|E z (fb z) ?_
 rintro _ wn ⟨rfl, h1g⟩
 have h2 := h1g.below
 have hv : Blk wn w0.z [sl A0 N0 C0] := h1g.blk
 refine E z (fa a_f) ?_
 rintro _ w5 ⟨rfl, h1h⟩
 have h1 := h1h.below
 have ho : Blk w5 wn.z [vI 0, sl none 0 0, sl none 0 0] := h1h.blk
 refine Ra z<|Ra z<|Wn<|Wq ?_
 obtain ⟨u30, hu1i, hm31⟩ := bdS hm
 refine Wt (fun a w => ∃ (xb : Int) (xw : List UInt8) (xx : List Val) (xc : Int) (xd : Int), (xb, xw, xx, xc, xd) = u30 ∧ ∃ ae nf cg S7 ah ni cj S8 g9, Sat 32 [(1, sl A6 N6 C6), (4, pt wn.z), (7, pt g9), (8, vI xc), (9, vI xd)] a ∧ Below w5.z w5 w ∧ inI xb ∧ a_ w S7 (sl ae nf cg) xw ∧ S7.Nodup ∧ (∀ k ∈ S7, w5.z ≤ k) ∧ a_ w S8 (sl ah ni cj) xx ∧ S8.Nodup ∧ (∀ k ∈ S8, w5.z ≤ k) ∧ (∀ k ∈ S8, k ∉ S7) ∧ inI xc ∧ inI xd ∧ Blk w g9 [vI xb, sl ae nf cg, sl ah ni cj] ∧ w5.z ≤ g9 ∧ (∀ k ∈ S7, k ∉ [g9]) ∧ (∀ k ∈ S8, k ∉ [g9])) ?_ ?_
 ·refine Wd (X := fun k => k ∈ ([] : List Nat) ∨ w5.z ≤ k) 0 (.rd 0 (.rd 1 (.rd 3 (.br 2 (.br 4 (.rd 5 (.rd 6 (.rd 7 (.rd 8 (.ef 9 (.ef 10 (.rd 11 (.rd 12 .done)))))))) 9 (.ef 4 (.rd 5 (.rd 6 (.rd 7 (.rd 8 (.ef 10 (.rd 11 (.rd 12 .done))))))))) 9 (.ef 2 (.ef 4 (.rd 5 (.rd 6 (.rd 7 (.rd 8 (.ef 10 (.rd 11 (.rd 12 .done))))))))))))) mo (by kernel_rfl) fun w1j s0 _ => ?_
  have h1k := (hv.e h1).e s0
  refine dR z z (lN (vs := [sl A0 N0 C0]) P_ D_ z z (b_O nm0<|Nat.lt_of_lt_of_le hv.lt h1.s)<|h1k.row 0 1 z)<|dR z z (lN (vs := [sl A0 N0 C0]) P_ D_ z z (b_O nm0<|Nat.lt_of_lt_of_le hv.lt h1.s)<|h1k.row 0 1 z)<|dR z z (mv z)<|d_j ?_ ?_
  ·have hy := ((h2.ag B).e h1).e s0
   have hz := lt_ (lt_ h2.s h1.s) s0.s
   obtain ⟨r4r, e32, hm1l⟩ := bdS hu1i
   refine dE z z (fc call139 z<|W_w1g (B := B) e32 (zt' hBw hz)<|p1_0.g hy) (.inr fun _ _ h => z_<|h.1) ?_
   rintro _ w1m ⟨s3, rfl, h1n⟩
   refine d_j ?_ ?_
   ·have h1o := hy.e s3
    obtain ⟨rp, r33, r34, e35, hm36⟩ := W_ hm1l
    refine dE z z (fc call138 z<|j_c (B := B) e35 (zt' hBw<|lt_ hz s3.s) ((((hG.e h2).e h1).e s0).e s3) (p1_0.g h1o) h1n (p2_0.g h1o)<|ii z) (.inr fun _ _ h => z_<|h.1) ?_
    rintro _ w1p ⟨s1q, a1r, n1s, c1t, S37, a1u, n1v, c1w, S38, rfl, h39, h1x, h1y, h3a, h3b, h10, h1z⟩
    refine dR z z (mv z) ?_
    iterate 3 refine dR z z (ext_ z z) ?_
    refine dE z z (fa a_f) (.inr fun _ _ h => z_<|h.2.below) ?_
    rintro _ w3c ⟨rfl, h20⟩
    have h11 := h20.below
    have h3d : Blk w3c w1p.z [vI 0, sl none 0 0, sl none 0 0] := h20.blk
    have h12 := lt_ s0.s s3.s
    have h13 := m1<|lt_ h12 s1q.s
    refine dE0 z (fs (cur' := [vI rp.number, sl a1r n1s c1t, sl a1u n1v c1w]) k_ z z h3d z (lb z) (oA z) z) (.inr fun _ _ h => c_3 (atp h13) h.2) ?_
    rintro _ w4s ⟨h3e, s3f⟩
    have h14 := s3f.one
    refine dR z z (asg z)<|dR z z (asg z)<|pD ?_
    have h21 := mnr<|a_.lt h1x
    have h22 := mnr<|a_.lt h1y
    exact fun _ q => ⟨rp.number, rp.bytes, rp.items, r33, r34, som hm36, a1r, n1s, c1t, S37, a1u, n1v, c1w, S38, w1p.z, (q.k<|s5 z z z z z), (bM (bup (bup (bup s0 s3) s1q) h11) h14 h13), h39, ((h1x.e h11).c h14<|ds h21), (nl_ h10), (l_ (al_ h1z) h12), ((h1y.e h11).c h14<|ds h22), (nr_ h10), (l_ (ar_ h1z) h12), (ds<|nj h10), h3a, h3b, h3e, (atp h13), (ds h21), (ds h22)⟩
   refine dE z z (fa a_f) (.inr fun _ _ h => z_<|h.2.below) ?_
   rintro _ w3g ⟨rfl, h23⟩
   have hk := h23.below
   have h15 : Blk w3g w1m.z [vI 0, sl none 0 0, sl none 0 0] := h23.blk
   have h24 := (hy.e s3).e hk
   obtain ⟨rq, r3h, r3i, e3j, hm3k⟩ := W_ hm1l
   refine dE z z (fc call138 z<|j_c (B := B) e3j (zt' hBw<|lt_ (lt_ hz s3.s) hk.s) (((((hG.e h2).e h1).e s0).e s3).e hk) (p1_0.g h24) h1n (p2_0.g h24)<|ii z) (.inr fun _ _ h => z_<|h.1) ?_
   rintro _ w4t ⟨s25, a26, n27, c28, S3l, a29, n2a, c2b, S3m, rfl, h3n, h3o, h3p, h3q, h3r, h16, ht⟩
   refine dR z z (mv z) ?_
   iterate 3 refine dR z z (ext_ z z) ?_
   have h2c := lt_ s0.s s3.s
   have h17 := m1 h2c
   refine dE0 z (fs (cur' := [vI rq.number, sl a26 n27 c28, sl a29 n2a c2b]) k_ z z (h15.e s25) z (lb z) (oA z) z) (.inr fun _ _ h => c_3 (atp h17) h.2) ?_
   rintro _ w4u ⟨h3s, s3t⟩
   have h18 := s3t.one
   refine dR z z (asg z)<|dR z z (asg z)<|pD ?_
   have h2d := m_ (al_ ht) h15.lt lr
   have h2e := lt_ h2c hk.s
   have h2f := m_ (ar_ ht) h15.lt lr
   exact fun _ q => ⟨rq.number, rq.bytes, rq.items, r3h, r3i, som hm3k, a26, n27, c28, S3l, a29, n2a, c2b, S3m, w1m.z, (q.k<|s5 z z z z z), (bM (bup (bup (bup s0 s3) hk) s25) h18 h17), h3n, (h3o.c h18 h2d), (nl_ h16), (l_ (al_ ht) h2e), (h3p.c h18 h2f), (nr_ h16), (l_ (ar_ ht) h2e), (ds<|nj h16), h3q, h3r, h3s, (atp h17), h2d, h2f⟩
  refine dE z z (fa a_f) (.inr fun _ _ h => z_<|h.2.below) ?_
  rintro _ w3u ⟨rfl, h2g⟩
  have hl := h2g.below
  have h19 : Blk w3u w1j.z [vI 0, sl none 0 0, sl none 0 0] := h2g.blk
  have h2h := (((h2.ag B).e h1).e s0).e hl
  have h2i := lt_ (lt_ (lt_ h2.s h1.s) s0.s) hl.s
  obtain ⟨r4v, e3v, hm3w⟩ := bdS hu1i
  refine dE z z (fc call139 z<|W_w1g (B := B) e3v (zt' hBw h2i)<|p1_0.g h2h) (.inr fun _ _ h => z_<|h.1) ?_
  rintro _ w4w ⟨s6, rfl, h3x⟩
  have h2j := h2h.e s6
  obtain ⟨rr, r3y, r3z, e40, hm41⟩ := W_ hm3w
  refine dE z z (fc call138 z<|j_c (B := B) e40 (zt' hBw<|lt_ h2i s6.s) (((((hG.e h2).e h1).e s0).e hl).e s6) (p1_0.g h2j) h3x (p2_0.g h2j)<|ii z) (.inr fun _ _ h => z_<|h.1) ?_
  rintro _ w4x ⟨s2k, a2l, n2m, c2n, S42, a2o, n2p, c2q, S43, rfl, h44, h45, h46, h47, h48, h1a, hu⟩
  refine dR z z (mv z) ?_
  iterate 3 refine dR z z (ext_ z z) ?_
  have h1b := m1 s0.s
  refine dE0 z (fs (cur' := [vI rr.number, sl a2l n2m c2n, sl a2o n2p c2q]) k_ z z ((h19.e s6).e s2k) z (lb z) (oA z) z) (.inr fun _ _ h => c_3 (atp h1b) h.2) ?_
  rintro _ w4y ⟨h49, s4a⟩
  have h1c := s4a.one
  refine dR z z (asg z)<|dR z z (asg z)<|pD ?_
  have h2r := m_ (al_ hu) h19.lt s6.s
  have h2s := lt_ (lt_ s0.s hl.s) s6.s
  have h2t := m_ (ar_ hu) h19.lt s6.s
  exact fun _ q => ⟨rr.number, rr.bytes, rr.items, r3y, r3z, som hm41, a2l, n2m, c2n, S42, a2o, n2p, c2q, S43, w1j.z, (q.k<|s5 z z z z z), (bM (bup (bup (bup s0 hl) s6) s2k) h1c h1b), h44, (h45.c h1c h2r), (nl_ h1a), (l_ (al_ hu) h2s), (h46.c h1c h2t), (nr_ h1a), (l_ (ar_ hu) h2s), (ds<|nj h1a), h47, h48, h49, (atp h1b), h2r, h2t⟩
 rintro a4b ws ⟨xb, xw, xx, xc, xd, rfl, ae, nf, cg, S7, ah, ni, cj, S8, g9, hS4z, sm, h4c, h4d, h4e, h2u, h4f, h4g, h2v, h4h, h2w, h4i, h4j, h50, h51, h52⟩
 have hm4k := un5S hm31
 revert a4b
 refine Wo<|Wq<|Wq ?_
 obtain ⟨u4l, hu2x, hm2y⟩ := bdS hm4k
 refine Wt (fun a w => ∃ (x1d : Bool), x1d = u4l ∧ Sat 32 [(4, pt wn.z), (7, pt g9), (8, vI xc), (9, vI xd), (26, vB x1d)] a ∧ Below ws.z ws w) ?_ ?_
 ·refine Wg<|Rm z<|R z (eql z z)<|Rm z ?_
  rcases bs (xd == 0) with hc4 | hc4
  ·exact Rh z hc4 (mv z)<|Rh z hc4 (mv z)<|Rh z hc4 (lnR i_ z<|p2_0.g<|((h2.ag B).e h1).e sm)<|Rh z hc4 (lss z z)<|R z (pT z hc4 z)<|Wl (fun _ q => ⟨decide (xc < (x2.length : Int)), som<|ifT hu2x hc4, (q.k<|s5 z z z z z), (br ws)⟩)
  iterate 4 refine Nh z hc4 ?_
  exact R z (pF z hc4 z)<|Wl (fun _ q => ⟨false, som<|ifF hu2x hc4, (q.k<|s5 z z z z z), (br ws)⟩)
 rintro a4m w53 ⟨x1d, rfl, hS54, sa⟩
 revert a4m
 refine Wo<|Wc z (fun hc1e => ?_) (fun hc1e => ?_)
 ·refine Ws<|R z (bP (parts := []) (cs := [vI 0, sl none 0 0, sl none 0 0]) Y_ z z)<|Rm z<|E0 (fs (cur' := [vI 0, sl none 0 0, sl none 0 0]) k_ z z ((ho.e sm).e sa) z (lb z) (oA z) z) ?_
  rintro _ w55 ⟨h4n, s4o⟩
  refine Ra z<|Ra z<|Wn ?_
  obtain rfl := som (ifT hm2y hc1e)
  exact Wr<|x_ hr (r_ y_ k_ z h4n z) z z ⟨(bM (bup (bup (bup h2 h1) sm) sa) s4o.one<|m1 h2.s), none, 0, 0, [], none, 0, 0, [], z, (ii z), onL, onL, h2w, (ii z), nd0, al0⟩
 refine Wk<|Ws<|R z (lN (vs := [vI xb, sl ae nf cg, sl ah ni cj]) y_ k_ z z fid<|(h4j.e sa).row 0 3 z)<|Rm z<|Rm z<|E0 (fs (cur' := [vI xb, sl ae nf cg, sl ah ni cj]) k_ z z ((ho.e sm).e sa) z (lb z) (oA z) z) ?_
 rintro _ w56 ⟨h4p, s4q⟩
 have h1f := s4q.one
 refine Ra z<|Ra z<|Wn ?_
 obtain rfl := som (ifF hm2y hc1e)
 have h2z := lt_ h2.s h1.s
 exact Wr<|x_ hr (r_ y_ k_ z h4p z) z z ⟨(bM (bup (bup (bup h2 h1) sm) sa) h1f<|m1 h2.s), ae, nf, cg, S7, ah, ni, cj, S8, z, h4c, ((h4d.e sa).c h1f<|m_ h2u ho.lt lr), ((h4f.e sa).c h1f<|m_ h2v ho.lt lr), h2w, h4i, (na_ h4e h4g<|ds h4h), (aa_ (l_ h2u h2z)<|l_ h2v h2z)⟩
theorem W_w3t {x1 : g_} {x2 : List UInt8} {res : Bool} (hm : g_B n x1 x2 = some res) (hBw : B ≤ w0.z) (hG : Gl w0 B) (p1_0 : b_ w0 B (sl A0 N0 C0) x1.rules) (p2_0 : b_ w0 B (sl A6 N6 C6) x2) : j_ prog 86 [(.agg #[sl A0 N0 C0]), sl A6 N6 C6] w0 (Q11 w0 B res) := by
 unfold g_B at hm
 refine goF func86 z z (lb z) fun fn hr => Ws<|E z (fb z) ?_
 rintro _ w4 ⟨rfl, h1⟩
 have h0 := h1.below
 have h5 : Blk w4 w0.z [sl A0 N0 C0] := h1.blk
 refine Ra z<|Wn<|Ws<|R z (lN (vs := [sl A0 N0 C0]) P_ D_ z z fid<|h5.row 0 1 z)<|Rm z ?_
 obtain ⟨r6, rj, rk, e7, hm8⟩ := W_ hm
 refine E z (fc call115 z<|W_w3s (B := B) e7 (zt' hBw h0.s) (hG.e h0) (p1_0.e h0)<|p2_0.e h0) ?_
 rintro _ w9 ⟨s2, aa, nb, cc, Sl, ad, ne, cf, Sm, rfl, hn, ho, hp, hq, ht, hu, hv⟩
 refine Rm z ?_
 iterate 3 refine R z (ext_ z z) ?_
 refine E z (fa a_f) ?_
 rintro _ wg ⟨rfl, h3⟩
 have hh : Blk wg w9.z [vI 0, sl none 0 0, sl none 0 0] := h3.blk
 refine E0 (fs (cur' := [vI r6.number, sl aa nb cc, sl ad ne cf]) k_ z z hh z (lb z) (oA z) z) ?_
 rintro _ wr ⟨hw, si⟩
 refine Ra z<|Ra z<|Wn<|Ws<|Rm z<|R z (eql z z)<|Ra z<|Wn ?_
 obtain rfl := som hm8
 exact Wr<|d_ hr z ⟨(bM (bup (bup h0 s2) h3.below) si.one<|m1<|lt_ h0.s s2.s), z⟩
theorem W_w3u {x1 : w_} {res : Bool} (hm : h_1 n x1 = some res) (hBw : B ≤ w0.z) (hG : Gl w0 B) (p1_0 : b_ w0 B (sl A0 N0 C0) x1.registry.versions) (p1_1 : b_ w0 B (sl A1 N1 C1) x1.log.bytes) (p1_2 : inI x1.log.stored) : j_ prog 50 [(.agg #[sl A0 N0 C0, sl A1 N1 C1, vI x1.log.stored])] w0 (Q11 w0 B res) := by
 unfold h_1 at hm
 refine goF func50 z z (lb z) fun fn hr => Ws<|E z (fb z) ?_
 rintro _ wh ⟨rfl, hq⟩
 have h2 := hq.below
 have hg : Blk wh w0.z [sl A0 N0 C0, sl A1 N1 C1, vI x1.log.stored] := hq.blk
 refine Ra z<|Wn<|Wq<|Wq ?_
 obtain ⟨u1n, hu1o, hmr⟩ := bdS hm
 refine Wt (fun a w => ∃ (xj : Bool), xj = u1n ∧ Sat 60 [(1, pt w0.z), (21, vB xj)] a ∧ Below wh.z wh w) ?_ ?_
 ·refine Wg<|R z (fd b_L z)<|R z (lN (vs := [sl A0 N0 C0]) b_w a_Z z z fid<|hg.row 0 1 z) ?_
  obtain ⟨r1p, e1q, hms⟩ := bdS hu1o
  refine E z (fc call82 z<|W_w3b (B := B) (x1 := (⟨x1.registry.versions⟩ : B_)) e1q (zt' hBw h2.s)<|p1_0.e h2) ?_
  rintro _ w31 ⟨sc, rfl⟩
  refine R z (not_ z)<|Rm z ?_
  rcases bs (!r1p) with hc4 | hc4
  ·iterate 4 refine Nh z hc4 ?_
   exact R z (pT z hc4 z)<|Rm z<|Nh z z<|Nh z z<|Nh z z<|R z (pT z z z)<|Wl (fun _ q => ⟨true, som<|ifT hms hc4, (q.k<|s2 z z), sc⟩)
  refine Rh z hc4 (fd b_a z) ?_
  have ht := hg.e sc
  refine Rh z hc4 (lN (vs := [sl A1 N1 C1, vI x1.log.stored]) a_u a_2 z z fid<|ht.row 1 2 z) ?_
  have hu := (h2.ag B).e sc
  have hv := lt_ h2.s sc.s
  obtain ⟨r1r, e1s, hmw⟩ := bdS (ifF hms hc4)
  refine Eg z z hc4 z (fc call83 z<|W_w1d (B := B) (x1 := (⟨x1.log.bytes, x1.log.stored⟩ : Log)) e1s (zt' hBw hv) (p1_1.g hu) p1_2) ?_
  rintro _ w32 ⟨sf, rfl⟩
  refine Rh z hc4 (not_ z)<|R z (pF z hc4 z)<|Rm z ?_
  rcases bs (!r1r) with hc5 | hc5
  ·iterate 3 refine Nh z hc5 ?_
   exact R z (pT z hc5 z)<|Wl (fun _ q => ⟨true, som<|ifT hmw hc5, (q.k<|s2 z z), (bup sc sf)⟩)
  have hx := hu.e sf
  obtain ⟨r1t, e1u, hm1v⟩ := bdS (ifF hmw hc5)
  refine Eg z z hc5 z (fc call51 z<|W_w1f (B := (zn B w0.z wh.z)) e1u (e_y (zt' hBw<|lt_ hv sf.s)<|lt_ sc.s sf.s) (b_.mono (p1_0.g hx) zn_l) (b_.mono (p1_1.g hx) zn_l) p1_2 ((ht.e sf).row 0 3 z)<|atp<|zin (B := B) (f_ lr)<|f_ hg.lt) ?_
  rintro _ w33 ⟨s1w, a34, n35, c36, rfl, h1x⟩
  exact Rh z hc5 (lnR b_l z h1x)<|Rh z hc5 (a_i z z)<|R z (pF z hc5 z)<|Wl (fun _ q => ⟨decide (20 < (r1t.length : Int)), som hm1v, (q.k<|s2 z z), (bup (bup sc sf) s1w)⟩)
 rintro a1y w37 ⟨xj, rfl, hS38, s7⟩
 revert a1y
 refine Wo<|Wc z (fun hck => ?_) (fun hck => ?_)
 ·refine Ws<|Ra z<|Wn ?_
  obtain rfl := som (ifT hmr hck)
  exact Wr<|d_ hr z ⟨(bup h2 s7), z⟩
 refine Wk<|Ws<|R z (fd b_a z)<|R z (fd a_S z) ?_
 have hy := hg.e s7
 refine R z (l1 I_ z fid<|hy.at z) ?_
 have hz := (h2.ag B).e s7
 have hl := lt_ h2.s s7.s
 obtain ⟨r10, r39, e1z, hm20⟩ := a_w (ifF hmr hck)
 refine E z (fc call84 z<|W_w1e (B := B) e1z (zt' hBw hl)<|p1_1.g hz) ?_
 rintro _ wd ⟨s8, a11, n12, c13, S3a, rfl, hi, h3b, h3c, h3d⟩
 refine Rm z<|R z (ext_ z z)<|R z (ext_ z z)<|Ra z<|Ra z<|Wn<|Wq<|Ws<|Rm z<|R z (lnR b_M z<|a_.rep hi)<|Rm z<|Wn ?_
 obtain ⟨u3e, hu21, hm14⟩ := bdS hm20
 refine Wf (σ := Unit) (ρ := Bool) (fun (km : Nat) (_ : Unit) a w => Sat 60 [(1, pt w0.z), (29, sl a11 n12 c13), (30, vI (r10.length : Int)), (31, (vI ((km : Nat) : Int)))] a ∧ Below wd.z wd w) (fun (_ : Unit) a w => Sat 60 [] a ∧ Below wd.z wd w) (fun r ex a w => ex = .ret ∧ v_ prog fn (Q11 w0 B r) a w) hu21 ?_ ?_ ?_ ?_ ?_
 ·exact fun _ q => ⟨(q.k<|s4 z z z z), (br wd)⟩
 ·rintro km _ a3f w15 o3g hk16 ⟨hS22, s3⟩ hm23
  refine Wu ?_ hS22
  refine Ws<|R z (lss z z)<|Wn<|Wq<|Wc z (fun _ => ?_) (fun hc => (N_ hk16 hc).elim)
  refine Wk<|Wq<|Wb<|Ws ?_
  obtain ⟨xe, e24, hm25⟩ := bdS hm23
  refine RX z (at_ (α := o_) b_M V_ z z z (or_ (hi.e s3)<|a_.lt hi) e24) ?_
  rintro _ ⟨b3h, o3i, cs3j, rfl, h26, h27, h3k⟩
  obtain ⟨a17, n18, c19, rfl, h3l, h3m, h28, h29⟩ := d_R h27
  refine R z (lN (vs := [vI xe.kind, Str.v xe.name, vI xe.version, sl a17 n18 c19]) a_I V_ z z fid h26)<|E z (fa c_X) ?_
  rintro _ w2a ⟨rfl, h1a⟩
  have h9 := h1a.below
  have h2b : Blk w2a w15.z [vI 0, (Str.v (⟨[]⟩ : Str)), vI 0, sl none 0 0] := h1a.blk
  refine E0 (fs (cur' := [vI xe.kind, Str.v xe.name, vI xe.version, sl a17 n18 c19]) V_ z z h2b z (lb z) (oA z) z) ?_
  rintro _ w1b ⟨h2c, s2d⟩
  have ha := s2d.one
  refine Wn<|Wq ?_
  obtain ⟨u2e, hu1c, hm1d⟩ := bdS hm25
  refine Wt (fun a w => ∃ (xn : Bool), xn = u2e ∧ Sat 60 [(1, pt w0.z), (29, sl a11 n12 c13), (30, vI (r10.length : Int)), (31, (vI ((km : Nat) : Int))), (58, vB xn)] a ∧ Below w1b.z w1b w) ?_ ?_
  ·refine Wd (X := noX) 0 (.rd 0 (.rd 1 (.rd 2 (.rd 3 (.rd 4 (.rd 5 (.rd 6 (.rd 7 (.ef 8 (.rd 9 (.rd 10 (.rd 11 (.rd 12 (.rd 13 (.rd 14 (.rd 15 (.rd 16 (.rd 17 (.rd 18 (.rd 19 (.ef 20 (.rd 21 (.rd 22 (.rd 23 .done)))))))))))))))))))))))) mo (by kernel_rfl) fun w3n s6 _ => dR z z (fd b_W z) ?_
   have ho := h2c.e s6
   refine dR z z (l1 g_3 z fid<|ho.at z)<|dR z z (eql z z)<|dR z z (mv z) ?_
   rcases bs (xe.kind == 1) with hc0 | hc0
   ·refine dRg z z z hc0 z (fd b_L z) ?_
    have h1e := ((((hy.e s8).e s3).e h9).c ha<|djs<|mm1 hg.lt<|lt_ (lt_ s7.s s8.s) s3.s).e s6
    refine dRg z z z hc0 z (lN (vs := [sl A0 N0 C0]) b_w a_Z z z fid<|h1e.row 0 1 z)<|dRg z z z hc0 z (fd b_X z)<|dRg z z z hc0 z (l1 g_3 z fid<|ho.at z) ?_
    have h1f := lt_ hl s8.s
    have h1g := lt_ h1f s3.s
    have h1h : ∀ k ∈ [w15.z], ¬ B k := or0 (f_ lr)  (p_ (zt' hBw h1g))
    have h1i := ((((hz.e s8).e s3).e h9).c ha<|h_ h1h).e s6
    obtain ⟨r2f, e2g, hm1j⟩ := bdS (ifT hu1c hc0)
    refine dEg z z z hc0 z (fc call85 z<|W_w3n (B := B) (x1 := (⟨x1.registry.versions⟩ : B_)) e2g (zt' hBw<|lt_ (lt_ (lt_ h1g h9.s) ha.s) s6.s) (p1_0.g h1i) h28) (.inr fun _ _ h => z_<|h.1) ?_
    rintro _ w3o ⟨sb, rfl⟩
    refine dRg z z z hc0 z (not_ z)<|dRg z z z hc0 z (mv z) ?_
    rcases bs (!r2f) with hc1 | hc1
    ·iterate 9 refine dRn z z z hc1 z ?_
     exact dEn z z z hc1 z<|dRn z z z hc1 z<|dRg z z z hc0 z (pT z hc1 z)<|dR z z (pT z hc0 z)<|pD (fun _ q => ⟨true, som<|ifT hm1j hc1, (q.k<|s5 z z z z z), (bup s6 sb)⟩)
    refine dRg z z z hc1 z (fd b_L z)<|dRg z z z hc1 z (fd a_P z)<|dRg z z z hc1 z (l1 a_Y z fid<|(h1e.e sb).at z)<|dRg z z z hc1 z (fd b_X z) ?_
    have h1k := ho.e sb
    refine dRg z z z hc1 z (l1 g_3 z fid<|h1k.at z) ?_
    obtain ⟨x3p, e2h, hm2i⟩ := bdS (ifF hm1j hc1)
    refine a_V z z z hc1 z (at_ (α := g_) a_v D_ z z z (p1_0.g<|h1i.e sb) e2h) ?_
    rintro _ ⟨b3q, o3r, cs3s, rfl, h2j, h2k, h3t⟩
    obtain ⟨a2l, n2m, c2n, rfl, h2o⟩ := c_j h2k
    refine dRg z z z hc1 z (lN (vs := [sl a2l n2m c2n]) P_ D_ z z fid h2j)<|dRg z z z hc1 z (fd c_B z)<|dRg z z z hc1 z (l1 I_ z fid<|h1k.at z) ?_
    have h1l := zt' hBw h1f
    obtain ⟨r2p, e2q, hm2r⟩ := bdS hm2i
    refine dEg z z z hc1 z (fc call86 z<|W_w3t (B := wd.z) e2q (a_A<|lt_ (lt_ (lt_ (lt_ s3.s h9.s) ha.s) s6.s) sb.s) (((((((((hG.e h2).e s7).e s8).e s3).e h9).c ha<|h_ h1h).e s6).e sb).mono h1l) (b_.mono h2o h1l)<|h29.g<|(((h9.ag<|bl wd.z).c ha<|lg<|m1 s3.s).e s6).e sb) (.inr fun _ _ h => z_<|h.1) ?_
    rintro _ w3u ⟨s2s, rfl⟩
    exact dRg z z z hc1 z (not_ z)<|dRg z z z hc0 z (pF z hc1 z)<|dR z z (pT z hc0 z)<|pD (fun _ q => ⟨!r2p, som hm2r, (q.k<|s5 z z z z z), (bup (bup s6 sb) s2s)⟩)
   iterate 4 refine dRn z z z hc0 z ?_
   refine dEn z z z hc0 z<|dRn z z z hc0 z<|dRn z z z hc0 z ?_
   iterate 9 refine dRu z z z z ?_
   exact dEu z z z z<|dRu z z z z<|dRn z z z hc0 z<|dR z z (pF z hc0 z)<|pD (fun _ q => ⟨false, som<|ifF hu1c hc0, (q.k<|s5 z z z z z), s6⟩)
  rintro a2t w3v ⟨xn, rfl, hS3w, s1m⟩
  revert a2t
  refine Wo<|Wc z (fun hcp => ?_) (fun hcp => ?_)
  ·exact Ws<|Ra z<|Wn<|Wr<|rtO<|qL (som<|ifT hm1d hcp).symm<|d_ hr z ⟨(bup (bM (bup (bup (bup (bup h2 s7) s8) s3) h9) ha<|m1<|lt_ (lt_ hl s8.s) s3.s) s1m), z⟩
  exact Wk<|Wg<|R z (inc_ hk16 (lt_ (a_.len hi) G_) z z)<|Rm z<|Wl (fun _ q => ⟨(), (som<|ifF hm1d hcp).symm, ⟨(q.k<|s4 z z z z), (bup (bM (bup s3 h9) ha<|m1 s3.s) s1m)⟩⟩)
 ·rintro _ a3x w3y ⟨hS2u, s2v⟩
  refine Wu ?_ hS2u
  refine Ws<|R z (lss z z)<|Wn<|Wq<|Wc z (fun hc => (O_ hc).elim) (fun _ => ?_)
  exact We (fun a' ha' => ⟨rfl, ⟨(Sat.weaken ha' sn), s2v⟩⟩)
 ·rintro _ a2w w3z rfl ⟨hS40, s2x⟩
  have hm2y := elL hm14
  revert a2w
  refine Wo<|Ws<|Ra z<|Wn ?_
  obtain rfl := som hm2y
  exact Wr<|d_ hr z ⟨(bup (bup (bup h2 s7) s8) s2x), z⟩
 rintro r41 ex42 a43 w44 rfl ⟨rfl, hq2z⟩
 have hm30 := elR hm14
 obtain rfl := som hm30
 exact ⟨hq2z, z⟩
theorem W_w3v {x1 : s_} {x2 : Str} {b2 o2 : Nat} {res : Bool} (hm : i_D x1 x2 = some res) (hBw : B ≤ w0.z) (p1_0 : x1.name.b.length ≤ LEN) (p1_1 : inI x1.version) (p1_2 : b_ w0 B (sl AG NG CG) x1.data) (p2_0 : x2.b.length ≤ LEN) (hC2 : L_ w0 b2 o2 [Str.v x2]) (hC2b : B b2) : j_ prog 94 [(.agg #[Str.v x1.name, vI x1.version, sl AG NG CG]), (.pointer (some ⟨b2, o2, none⟩))] w0 (Q11 w0 B res) := by
 unfold i_D at hm
 refine goF func94 z z (lb z) fun fn hr => Ws<|E z (fb z) ?_
 rintro _ w2 ⟨rfl, h0⟩
 have h1 := h0.below
 have h3 : Blk w2 w0.z [Str.v x1.name, vI x1.version, sl AG NG CG] := h0.blk
 refine Ra z<|Wn<|Ws<|R z (fd h_q z)<|R z (l1 g_9 z fid<|h3.at z)<|R z (l1 g_9 z fid<|(hC2.e h1).at0 z)<|R z (d_s z z)<|Ra z<|Wn ?_
 obtain rfl := som hm
 exact Wr<|d_ hr z ⟨h1, z⟩
theorem W_w3w {x1 : List s_} {x2c0 : Str} {b2c0 o2c0 : Nat} {res : Int} (hm : h_h x1 x2c0 = some res) (hBw : B ≤ w0.z) (p1_0 : b_ w0 B (sl A0 N0 C0) x1) (p2c0_0 : x2c0.b.length ≤ LEN) (hC2c0 : L_ w0 b2c0 o2c0 [Str.v x2c0]) (hC2c0b : B b2c0) : j_ prog 87 [sl A0 N0 C0, (.func (.func 94) #[] #[(.pointer (some ⟨b2c0, o2c0, none⟩))])] w0 (Q0 w0 B res) := by
 unfold h_h at hm
 refine goF func87 z z (lb z) fun fn hr => Ws<|Ra z<|Wn<|Wq<|Ws<|Rm z<|R z (lnR b_l z p1_0)<|Rm z<|Wn ?_
 obtain ⟨u12, hug, hm9⟩ := bdS hm
 refine Wf (σ := Unit) (ρ := Int) (fun (ka : Nat) (_ : Unit) a w => Sat 19 [(1, (.func (.func 94) #[] #[(.pointer<|some ⟨b2c0, o2c0, none⟩)])), (7, sl A0 N0 C0), (8, vI (x1.length : Int)), (9, (vI ((ka : Nat) : Int)))] a ∧ Below w0.z w0 w) (fun (_ : Unit) a w => Sat 19 [] a ∧ Below w0.z w0 w) (fun r ex a w => ex = .ret ∧ v_ prog fn (Q0 w0 B r) a w) hug ?_ ?_ ?_ ?_ ?_
 ·exact fun _ q => ⟨(q.k<|s4 z z z z), (br w0)⟩
 ·rintro ka _ a13 wb o14 hk4 ⟨hSh, s0⟩ hmi
  refine Wu ?_ hSh
  refine Ws<|R z (lss z z)<|Wn<|Wq<|Wc z (fun _ => ?_) (fun hc => (N_ hk4 hc).elim)
  refine Wk<|Wq<|Wb<|Ws<|Rm z ?_
  obtain ⟨x2, ej, hmk⟩ := bdS hmi
  refine RX z (at_ (α := s_) b_l a_q z z z (p1_0.e s0) ej) ?_
  rintro _ ⟨b15, o16, cs17, rfl, hl, hn, h18⟩
  obtain ⟨a5, n6, c7, rfl, ho, hp, hq⟩ := e_t hn
  refine R z (lN (vs := [Str.v x2.name, vI x2.version, sl a5 n6 c7]) b_U a_q z z fid hl)<|E z (fa d_m) ?_
  rintro _ wm ⟨rfl, hd⟩
  have h1 := hd.below
  have ht : Blk wm wb.z [(Str.v (⟨[]⟩ : Str)), vI 0, sl none 0 0] := hd.blk
  refine Ra z<|E0 (fs (cur' := [Str.v x2.name, vI x2.version, sl a5 n6 c7]) a_q z z ht z (lb z) (oA z) z) ?_
  rintro _ w19 ⟨hu, sr⟩
  have h3 := sr.one
  refine Wn<|Ws<|Rm z<|R z (lN (vs := [Str.v x2.name, vI x2.version, sl a5 n6 c7]) b_U a_q z z fid<|hu.row 0 3 z) ?_
  have he : ∀ k ∈ [wb.z], ¬ B k := or0 (f_ lr)  (p_ (zt' hBw s0.s))
  obtain ⟨r1a, es, hmc⟩ := bdS hmk
  refine E z (j_i call94 z z<|W_w3v (B := B) es (zt' hBw<|lt_ (lt_ s0.s h1.s) h3.s) ho hp (hq.g<|(h1.ag B).c h3<|h_ he) p2c0_0 (((hC2c0.e s0).e h1).c h3<|(h_ he) _ hC2c0b) hC2c0b) ?_
  rintro _ w1b ⟨sf, rfl⟩
  refine Wn<|Wc z (fun hc8 => ?_) (fun hc8 => ?_)
  ·exact Ws<|Rm z<|Ra z<|Wn<|Wr<|rtO<|qL (som<|ifT hmc hc8).symm<|d_ hr z ⟨(bup (bM (bup s0 h1) h3<|m1 s0.s) sf), z, (ic (Nat.le_of_lt hk4)<|lt_ (b_.len p1_0) G_)⟩
  exact Wk<|Wg<|R z (inc_ hk4 (lt_ (b_.len p1_0) G_) z z)<|Rm z<|Wl (fun _ q => ⟨(), (som<|ifF hmc hc8).symm, ⟨(q.k<|s4 z z z z), (bup (bM (bup s0 h1) h3<|m1 s0.s) sf)⟩⟩)
 ·rintro _ a1c w1d ⟨hSv, sw⟩
  refine Wu ?_ hSv
  refine Ws<|R z (lss z z)<|Wn<|Wq<|Wc z (fun hc => (O_ hc).elim) (fun _ => ?_)
  exact We (fun a' ha' => ⟨rfl, ⟨(Sat.weaken ha' sn), sw⟩⟩)
 ·rintro _ ax w1e rfl ⟨hS1f, sy⟩
  have hmz := elL hm9
  revert ax
  refine Wo<|Ws<|Ra z<|Wn ?_
  obtain rfl := som hmz
  exact Wr<|d_ hr z ⟨sy, z, (ii z)⟩
 rintro r1g ex1h a1i w1j rfl ⟨rfl, hq10⟩
 have hm11 := elR hm9
 obtain rfl := som hm11
 exact ⟨hq10, z⟩
def Q27 (w0 : World) (B : Zone) (r : s_ × Bool) (v : Value) (w' : World) : Prop := Bw w0 w' ∧ un2 (fun r1 r2 => ∃ a1 n1 c1, v = .tuple #[(.agg #[Str.v r1.name, vI r1.version, sl a1 n1 c1]), vB r2] ∧ r1.name.b.length ≤ LEN ∧ inI r1.version ∧ b_ w' w'.z (sl a1 n1 c1) r1.data) r
theorem W_w3x {x1 : w_} {b1 o1 : Nat} {x2 : Str} {res : s_ × Bool} (hm : h_j n x1 x2 = some res) (hBw : B ≤ w0.z) (p1_0 : b_ w0 B (sl A0 N0 C0) x1.registry.versions) (p1_1 : b_ w0 B (sl A1 N1 C1) x1.log.bytes) (p1_2 : inI x1.log.stored) (hC1 : L_ w0 b1 o1 [sl A0 N0 C0, sl A1 N1 C1, vI x1.log.stored]) (hC1b : B b1) (p2_0 : x2.b.length ≤ LEN) : j_ prog 58 [(.pointer (some ⟨b1, o1, none⟩)), Str.v x2] w0 (Q27 w0 B res) := by
 unfold h_j at hm
 refine goF func58 z z (lb z) fun fn hr => Ws<|E z (fb z) ?_
 rintro _ w4 ⟨rfl, hd⟩
 have h0 := hd.below
 have he : Blk w4 w0.z [Str.v x2] := hd.blk
 refine E z (fa d_m) ?_
 rintro _ wf ⟨rfl, hg⟩
 have h2 := hg.below
 have h7 : Blk wf w4.z [(Str.v (⟨[]⟩ : Str)), vI 0, sl none 0 0] := hg.blk
 refine Ra z<|Wn<|Ws<|Rm z ?_
 have hh := (h0.ag B).e h2
 have hi := lt_ h0.s h2.s
 obtain ⟨r13, em, hmo⟩ := bdS hm
 refine E z (fc call51 z<|W_w1f (B := B) em (zt' hBw hi) (p1_0.g hh) (p1_1.g hh) p1_2 ((hC1.e h0).e h2) hC1b) ?_
 rintro _ wj ⟨s3, a14, n15, c16, rfl, hk⟩
 refine Ra z<|Wn<|Ws<|Rm z<|R z (l_n z) ?_
 have h8 := lt_ hi s3.s
 obtain ⟨r17, ep, hml⟩ := bdS hmo
 refine E z (fc call87 z<|W_w3w (B := wj.z) ep zr (b_.mono hk<|e_y (zt' hBw h8) lr) p2_0 (((he.e h2).e s3).row 0 1 z)<|zap' (a_A<|lt_ h2.s s3.s) he.lt) ?_
 rintro _ w18 ⟨s1, rfl, h19⟩
 refine Ra z<|Wn<|Wq<|Ws<|Rm z<|R z (lss z z)<|Wn<|Wc z (fun hc9 => ?_) (fun hc9 => ?_)
 ·refine Ws<|R z (bP (parts := []) (cs := [(Str.v (⟨[]⟩ : Str)), vI 0, sl none 0 0]) f_m z z)<|E0 (fs (cur' := [(Str.v (⟨[]⟩ : Str)), vI 0, sl none 0 0]) a_q z z ((h7.e s3).e s1) z (lb z) (oA z) z) ?_
  rintro _ w1a ⟨hq, sr⟩
  have hn := sr.one
  refine Ra z<|Wn ?_
  obtain rfl := som (ifT hml hc9)
  exact Wr<|a_z hr (r_ b_U a_q z hq z) z ⟨(bM (bup (bup (bup h0 h2) s3) s1) hn<|m1 h0.s), none, 0, 0, z, (lb z), (ii z), (b_.mono (or_ onL an_)<|a_A<|lt_ (lt_ h8 s1.s) hn.s)⟩
 refine Wk<|Ws<|Rm z<|Rm z ?_
 obtain ⟨x5, es, hmt⟩ := bdS (ifF hml hc9)
 refine RX z (at_ (α := s_) b_l a_q z z z (hk.e s1) es) ?_
 rintro _ ⟨b1b, o1c, cs1d, rfl, hu, hv, h1e⟩
 obtain ⟨aa, nb, cc, rfl, hw, hx, hy⟩ := e_t hv
 refine R z (lN (vs := [Str.v x5.name, vI x5.version, sl aa nb cc]) b_U a_q z z fid hu)<|E0 (fs (cur' := [Str.v x5.name, vI x5.version, sl aa nb cc]) a_q z z ((h7.e s3).e s1) z (lb z) (oA z) z) ?_
 rintro _ w1f ⟨hz, s10⟩
 have h6 := s10.one
 refine Ra z<|Wn ?_
 obtain rfl := som hmt
 have h11 : ∀ k ∈ [w4.z], ¬ B k := or0 (f_ lr)  (p_ (zt' hBw h0.s))
 have h12 : ∀ k ∈ [w4.z], ¬ (zn B wf.z wj.z) k := (nznL h11 (f_ h7.lt) lr)
 exact Wr<|a_z hr (r_ b_U a_q z hz z) z ⟨(bM (bup (bup (bup h0 h2) s3) s1) h6<|m1 h0.s), aa, nb, cc, z, hw, hx, (b_.mono (hy.c h6<|h_ h12)<|e_y (zt' hBw<|lt_ (lt_ h8 s1.s) h6.s)<|lt_ s1.s h6.s)⟩
theorem W_w3y {x1 : Log} {x2 : o_} {res : Log × Bool} (hm : h_e n x1 x2 = some res) (hBw : B ≤ w0.z) (p1_0 : b_ w0 B (sl A0 N0 C0) x1.bytes) (p1_1 : inI x1.stored) (p2_0 : inI x2.kind) (p2_1 : x2.name.b.length ≤ LEN) (p2_2 : inI x2.version) (p2_3 : b_ w0 B (sl AC NC CC) x2.data) : j_ prog 56 [(.agg #[sl A0 N0 C0, vI x1.stored]), (.agg #[vI x2.kind, Str.v x2.name, vI x2.version, sl AC NC CC])] w0 (Q19 w0 B res) := by
 unfold h_e at hm
 refine goF func56 z z (lb z) fun fn hr => Ws<|E z (fb z) ?_
 rintro _ wp ⟨rfl, h10⟩
 have he := h10.below
 have h11 : Blk wp w0.z [sl A0 N0 C0, vI x1.stored] := h10.blk
 refine E z (fb z) ?_
 rintro _ wf ⟨rfl, h12⟩
 have h9 := h12.below
 have hg : Blk wf wp.z [vI x2.kind, Str.v x2.name, vI x2.version, sl AC NC CC] := h12.blk
 refine E z (fa c_C) ?_
 rintro _ w1o ⟨rfl, h13⟩
 have h4 := h13.below
 have h7 : Blk w1o wf.z [sl none 0 0, vI 0] := h13.blk
 refine Ra z<|Wn<|Ws ?_
 have h14 := (h11.e h9).e h4
 refine R z (lN (vs := [sl A0 N0 C0, vI x1.stored]) a_u a_2 z z fid<|h14.row 0 2 z) ?_
 have hq := ((he.ag B).e h9).e h4
 have ht := lt_ he.s h9.s
 have ha := lt_ ht h4.s
 obtain ⟨rb, e1p, hm1q⟩ := bdS hm
 refine E z (fc call81 z<|W_w17 (B := B) e1p (zt' hBw ha) (p1_0.g hq) p1_1) ?_
 rintro _ wc ⟨s0, ah, ni, cj, S1r, rfl, hk, h15, h16, hl⟩
 refine E z (fa c_C) ?_
 rintro _ w1s ⟨rfl, h17⟩
 have h2 := h17.below
 have h18 : Blk w1s wc.z [sl none 0 0, vI 0] := h17.blk
 refine E0 (fs (cur' := [sl ah ni cj, vI rb.stored]) a_2 z z h18 z (lb z) (oA z) z) ?_
 rintro _ w19 ⟨h1a, s1t⟩
 have h1 := s1t.one
 refine Wn<|Wq<|Wq ?_
 obtain ⟨u1u, hu1v, hm1b⟩ := bdS hm1q
 refine Wt (fun a w => ∃ (xr : Bool), xr = u1u ∧ Sat 25 [(3, pt wp.z), (4, pt wf.z), (6, pt wc.z), (16, vB xr)] a ∧ Below w19.z w19 w) ?_ ?_
 ·refine Wg<|R z (lN (vs := [vI x2.kind, Str.v x2.name, vI x2.version, sl AC NC CC]) a_I V_ z z fid<|((((hg.e h4).e s0).e h2).c h1<|djs<|mm1 hg.lt<|lt_ h4.s s0.s).row 0 4 z) ?_
  have h1c := lt_ ha s0.s
  have h1w : ∀ k ∈ [wc.z], ¬ B k := or0 (f_ lr)  (p_ (zt' hBw h1c))
  have h1d := ((hq.e s0).e h2).c h1<|h_ h1w
  have h1e := lt_ (lt_ h1c h2.s) h1.s
  obtain ⟨r1x, e1y, hm1f⟩ := bdS hu1v
  refine E z (fc call89 z<|j_5 (B := B) e1y (zt' hBw h1e) p2_0 p2_1 p2_2<|p2_3.g h1d) ?_
  rintro _ w2l ⟨sd, rfl⟩
  refine R z (not_ z)<|Rm z ?_
  rcases bs (!r1x) with hc5 | hc5
  ·iterate 3 refine Nh z hc5 ?_
   exact R z (pT z hc5 z)<|Wl (fun _ q => ⟨true, som<|ifT hm1f hc5, (q.k<|s4 z z z z), sd⟩)
  refine Rh z hc5 (lN (vs := [sl A0 N0 C0, vI x1.stored]) a_u a_2 z z fid<|((((h14.e s0).e h2).c h1<|djs<|mm1 h11.lt<|lt_ (lt_ h9.s h4.s) s0.s).e sd).row 0 2 z) ?_
  obtain ⟨r1z, e20, hm21⟩ := bdS (ifF hm1f hc5)
  refine Eg z z hc5 z (fc call83 z<|W_w1d (B := B) e20 (zt' hBw<|lt_ h1e sd.s) (p1_0.g<|h1d.e sd) p1_1) ?_
  rintro _ w2m ⟨s22, rfl⟩
  exact Rh z hc5 (not_ z)<|R z (pF z hc5 z)<|Wl (fun _ q => ⟨!r1z, som hm21, (q.k<|s4 z z z z), (bup sd s22)⟩)
 rintro a23 w2n ⟨xr, rfl, hS2o, s3⟩
 revert a23
 refine Wo<|Wc z (fun hcs => ?_) (fun hcs => ?_)
 ·refine Ws<|R z (lN (vs := [sl ah ni cj, vI rb.stored]) a_u a_2 z z fid<|(h1a.e s3).row 0 2 z)<|E0 (fs (cur' := [sl ah ni cj, vI rb.stored]) a_2 z z ((((h7.e s0).e h2).c h1<|djs<|mm1 h7.lt s0.s).e s3) z (lb z) (oA z) z) ?_
  rintro _ w2p ⟨h24, s25⟩
  have h1g := s25.one
  refine Ra z<|Wn ?_
  obtain rfl := som (ifT hm1b hcs)
  exact Wr<|a_z hr (r_ a_u a_2 z h24 z) z ⟨(bM (bup (bM (bup (bup (bup (bup he h9) h4) s0) h2) h1<|m1<|lt_ ha s0.s) s3) h1g<|m1 ht), ah, ni, cj, S1r, z, ((((hk.e h2).c h1<|ds<|mnr<|a_.lt hk).e s3).c h1g<|m_ hl h7.lt lr), h15, h16, (l_ hl ha)⟩
 refine Wk<|Wq (Wd (X := noX) 80 (.rd 0 (.rd 1 (.rd 2 (.ef 3 (.ef 4 (.rd 5 (.ef 6 .done))))))) mo (by kernel_rfl) fun w2q s6 _ => dR z z (fd a_S z) ?_)
 have h1h := (h1a.e s3).e s6
 refine dR z z (l1 I_ z fid<|h1h.at z)<|dR z z (lN (vs := [vI x2.kind, Str.v x2.name, vI x2.version, sl AC NC CC]) a_I V_ z z fid<|((((((hg.e h4).e s0).e h2).c h1<|djs<|mm1 hg.lt<|lt_ h4.s s0.s).e s3).e s6).row 0 4 z) ?_
 have hu := lt_ ha s0.s
 have h26 : ∀ k ∈ [wc.z], ¬ B k := or0 (f_ lr)  (p_ (zt' hBw hu))
 have h1i := lt_ (lt_ (lt_ (lt_ hu h2.s) h1.s) s3.s) s6.s
 obtain ⟨r2r, e27, hm28⟩ := bdS (ifF hm1b hcs)
 refine dE z z (fc call52 z<|W_w1b (B := B) e27 (zt' hBw h1i) p2_0 p2_1 p2_2<|p2_3.g<|((((hq.e s0).e h2).c h1<|h_ h26).e s3).e s6) (.inr fun _ _ h => z_<|h.1) ?_
 rintro _ w2s ⟨s8, a2t, n2u, c2v, S2w, rfl, h29, h2x, h2y⟩
 have hv := mnr<|a_.lt hk
 obtain ⟨x2z, e2a, hm2b⟩ := bdS hm28
 refine dE z z (fN (α := UInt8) C_ e2a z z (((((hk.e h2).c h1<|ds hv).e s3).e s6).e s8) h16<|a_.rep h29) (.inl z) ?_
 rintro _ w30 ⟨Sw, am, nn, co, rfl, sx, h2c, h2d, hy⟩
 refine dR z z (fd a_S z)<|dE0 z (fs (cur' := [sl am nn co, vI rb.stored]) e_q z z ((h1h.e s8).c sx<|atp hv) z (lb z) (oA z) z) (.inl z) ?_
 rintro _ w31 ⟨h2e, s2f⟩
 have hz := s2f.one
 refine pD<|Wo<|Ws<|R z (lN (vs := [sl am nn co, vI rb.stored]) a_u a_2 z z fid<|h2e.row 0 2 z) ?_
 have h1j := mm1 h7.lt s0.s
 have h1k := m_ hl h7.lt lr
 have h2g := (((((((h7.e s0).e h2).c h1<|djs h1j).e s3).e s6).e s8).c sx<|djs h1k).c hz<|djs h1j
 refine E0 (fs (cur' := [sl am nn co, vI rb.stored]) a_2 z z h2g z (lb z) (oA z) z) ?_
 rintro _ w32 ⟨h2h, s2i⟩
 have h1l := s2i.one
 refine Ra z<|Wn ?_
 obtain rfl := som hm2b
 have h2j : ∀ k ∈ Sw, k ∉ [wc.z] := or1 hy (ds hv) (Q_ (f_ h18.lt) (lt_ (lt_ (lt_ h1.s s3.s) s6.s) s8.s))
 have h2k : ∀ k ∈ Sw, k ∉ [wf.z] := or1 hy h1k (Q_ (f_ h7.lt) (lt_ (lt_ (lt_ (lt_ (lt_ s0.s h2.s) h1.s) s3.s) s6.s) s8.s))
 have h1m := m1 hu
 have h1n := l_ hl ha
 exact Wr<|a_z hr (r_ a_u a_2 z h2h z) z ⟨(bM (bM (bM (bup (bup (bup (bM (bup (bup (bup (bup he h9) h4) s0) h2) h1 h1m) s3) s6) s8) sx h1n) hz h1m) h1l<|m1 ht), am, nn, co, Sw, z, ((h2c.c hz h2j).c h1l h2k), h15, h2d, (a_b hy h1n<|lt_ h1i s8.s)⟩
theorem W_w1n {x1 : w_} {x2 : Str} {res : w_ × Bool} (hm : f_e n x1 x2 = some res) (hBw : B ≤ w0.z) (hG : Gl w0 B) (p1_0 : b_ w0 B (sl A0 N0 C0) x1.registry.versions) (p1_1 : b_ w0 B (sl A1 N1 C1) x1.log.bytes) (p1_2 : inI x1.log.stored) (p2_0 : x2.b.length ≤ LEN) : j_ prog 29 [(.agg #[sl A0 N0 C0, sl A1 N1 C1, vI x1.log.stored]), Str.v x2] w0 (Q20 w0 B res) := by
 unfold f_e at hm
 refine goF func29 z z (lb z) fun fn hr => Ws<|E z (fb z) ?_
 rintro _ ww ⟨rfl, h1i⟩
 have he := h1i.below
 have hu : Blk ww w0.z [sl A0 N0 C0, sl A1 N1 C1, vI x1.log.stored] := h1i.blk
 refine E z (fa b_Y) ?_
 rintro _ w2d ⟨rfl, h1j⟩
 have hf := h1j.below
 have h6 : Blk w2d ww.z [sl none 0 0, sl none 0 0, vI 0] := h1j.blk
 refine Ra z<|Wn<|Ws ?_
 have h1k := hu.e hf
 have h14 := (he.ag B).e hf
 have hx := zt' hBw he.s
 obtain ⟨rm, e2e, hm2f⟩ := bdS hm
 refine E z (fc call49 z<|W_w35 (B := ww.z) e2e (a_A hf.s) (b_.mono (p1_0.g h14) hx) (b_.mono (p1_1.g h14) hx) p1_2 (h1k.row 0 3 z) hu.lt) ?_
 rintro _ w1l ⟨s7, a9, na, cb, Sy, ah, ng, ci, S15, rfl, hc, hn, h16, hj, hd⟩
 refine E z (fa b_Y) ?_
 rintro _ w2g ⟨rfl, h1m⟩
 have h3 := h1m.below
 have hp : Blk w2g w1l.z [sl none 0 0, sl none 0 0, vI 0] := h1m.blk
 refine E0 (fs (cur' := [sl a9 na cb, sl ah ng ci, vI rm.log.stored]) Z_ z z hp z (lb z) (oA z) z) ?_
 rintro _ w3k ⟨hz, s2h⟩
 have h1 := s2h.one
 refine Wn<|Wq<|Ws ?_
 have h1n := lt_ hf.s s7.s
 have h1o := ((h1k.e s7).e h3).c h1<|djs<|mm1 hu.lt h1n
 refine R z (lN (vs := [sl A0 N0 C0, sl A1 N1 C1, vI x1.log.stored]) a_n Z_ z z fid<|h1o.row 0 3 z) ?_
 have ho := lt_ he.s hf.s
 have hq := lt_ ho s7.s
 have h1p : ∀ k ∈ [w1l.z], ¬ B k := or0 (f_ lr)  (p_ (zt' hBw hq))
 have h17 := ((h14.e s7).e h3).c h1<|h_ h1p
 have h18 := lt_ (lt_ hq h3.s) h1.s
 obtain ⟨r3l, e2i, hm1q⟩ := bdS hm2f
 refine E z (fc call50 z<|W_w3u (B := B) e2i (zt' hBw h18) (((((hG.e he).e hf).e s7).e h3).c h1<|h_ h1p) (p1_0.g h17) (p1_1.g h17) p1_2) ?_
 rintro _ w3m ⟨s0, rfl⟩
 refine R z (not_ z)<|Wn<|Wc z (fun hc19 => ?_) (fun hc19 => ?_)
 ·refine Ws<|R z (lN (vs := [sl a9 na cb, sl ah ng ci, vI rm.log.stored]) a_n Z_ z z fid<|(hz.e s0).row 0 3 z)<|E0 (fs (cur' := [sl a9 na cb, sl ah ng ci, vI rm.log.stored]) Z_ z z ((((h6.e s7).e h3).c h1<|djs<|mm1 h6.lt s7.s).e s0) z (lb z) (oA z) z) ?_
  rintro _ w3n ⟨h2j, s2k⟩
  have h1a := s2k.one
  refine Ra z<|Wn ?_
  obtain rfl := som (ifT hm1q hc19)
  exact Wr<|a_z hr (r_ a_n Z_ z h2j z) z ⟨(bM (bup (bM (bup (bup (bup he hf) s7) h3) h1<|m1 hq) s0) h1a<|m1 he.s), a9, na, cb, Sy, ah, ng, ci, S15, z, ((((hc.e h3).c h1<|ds<|mnr<|a_.lt hc).e s0).c h1a<|m_ (al_ hd) h6.lt lr), ((((hn.e h3).c h1<|ds<|mnr<|a_.lt hn).e s0).c h1a<|m_ (ar_ hd) h6.lt lr), h16, (na_ (nl_ hj) (nr_ hj)<|nj hj), (aa_ (l_ (al_ hd) ho)<|l_ (ar_ hd) ho)⟩
 refine Wk<|Wq<|Ws<|Rm z ?_
 have h1r := h1o.e s0
 have h1b := h17.e s0
 have h1s := lt_ (lt_ (lt_ h1n h3.s) h1.s) s0.s
 obtain ⟨r1t, r3o, e2l, hm1u⟩ := a_w (ifF hm1q hc19)
 refine E z (fc call58 z<|W_w3x (B := ww.z) e2l (a_A h1s) (b_.mono (p1_0.g h1b) hx) (b_.mono (p1_1.g h1b) hx) p1_2 (h1r.row 0 3 z) hu.lt p2_0) ?_
 rintro _ w1v ⟨s2, a2m, n2n, c2o, rfl, h3p, h3q, h3r⟩
 refine Rm z<|R z (ext_ z z)<|R z (ext_ z z)<|E z (fa d_m) ?_
 rintro _ w2p ⟨rfl, h1w⟩
 have h4 := h1w.below
 have h2q : Blk w2p w1v.z [(Str.v (⟨[]⟩ : Str)), vI 0, sl none 0 0] := h1w.blk
 refine E0 (fs (cur' := [Str.v r1t.name, vI r1t.version, sl a2m n2n c2o]) a_q z z h2q z (lb z) (oA z) z) ?_
 rintro _ w3s ⟨h3t, s2r⟩
 have h5 := s2r.one
 refine Ra z<|Wn<|Ws<|Rm z<|R z (not_ z)<|Wn<|Wc z (fun hc1c => ?_) (fun hc1c => ?_)
 ·refine Ws<|R z (lN (vs := [sl a9 na cb, sl ah ng ci, vI rm.log.stored]) a_n Z_ z z fid<|((((hz.e s0).e s2).e h4).c h5<|djs<|mm1 hp.lt<|lt_ (lt_ h1.s s0.s) s2.s).row 0 3 z) ?_
  have h2s := ((((((h6.e s7).e h3).c h1<|djs<|mm1 h6.lt s7.s).e s0).e s2).e h4).c h5<|djs<|mm1 h6.lt<|lt_ (lt_ (lt_ (lt_ s7.s h3.s) h1.s) s0.s) s2.s
  refine E0 (fs (cur' := [sl a9 na cb, sl ah ng ci, vI rm.log.stored]) Z_ z z h2s z (lb z) (oA z) z) ?_
  rintro _ w3u ⟨h2t, s2u⟩
  have h1d := s2u.one
  refine Ra z<|Wn ?_
  obtain rfl := som (ifT hm1u hc1c)
  have h1x := lt_ (lt_ (lt_ h3.s h1.s) s0.s) s2.s
  exact Wr<|a_z hr (r_ a_n Z_ z h2t z) z ⟨(bM (bM (bup (bup (bup (bM (bup (bup (bup he hf) s7) h3) h1<|m1 hq) s0) s2) h4) h5<|m1<|lt_ (lt_ h18 s0.s) s2.s) h1d<|m1 he.s), a9, na, cb, Sy, ah, ng, ci, S15, z, (((((((hc.e h3).c h1<|ds<|mnr<|a_.lt hc).e s0).e s2).e h4).c h5<|ds<|mno (a_.lt hc) h1x).c h1d<|m_ (al_ hd) h6.lt lr), (((((((hn.e h3).c h1<|ds<|mnr<|a_.lt hn).e s0).e s2).e h4).c h5<|ds<|mno (a_.lt hn) h1x).c h1d<|m_ (ar_ hd) h6.lt lr), h16, (na_ (nl_ hj) (nr_ hj)<|nj hj), (aa_ (l_ (al_ hd) ho)<|l_ (ar_ hd) ho)⟩
 refine Wk<|Ws<|R z (fd b_a z)<|R z (lN (vs := [sl A1 N1 C1, vI x1.log.stored]) a_u a_2 z z fid<|(((h1r.e s2).e h4).c h5<|djs<|mm1 hu.lt<|lt_ h1s s2.s).row 1 2 z)<|Rm z<|R z (bP (parts := [(0, (.const (.int .i64 2))), (1, (.tmp 27))]) (cs := [vI 2, Str.v x2, vI 0, sl none 0 0]) b_V z z) ?_
 have h10 := lt_ (lt_ h18 s0.s) s2.s
 have h2v : ∀ k ∈ [w1v.z], ¬ B k := or0 (f_ lr)  (p_ (zt' hBw h10))
 have h11 := lt_ (lt_ h10 h4.s) h5.s
 obtain ⟨rv, r3v, e2w, hm1y⟩ := a_w (ifF hm1u hc1c)
 refine E z (fc call56 z<|W_w3y (B := w0.z) (x1 := (⟨x1.log.bytes, x1.log.stored⟩ : Log)) (x2 := (⟨2, x2, 0, ([] : List UInt8)⟩ : o_)) e2w (a_A h11) (b_.mono (p1_1.g<|((h1b.e s2).e h4).c h5<|h_ h2v) hBw) p1_2 (ii z) p2_0 (ii z)<|or_ onL an_) ?_
 rintro _ w2x ⟨s8, ar, ns, ct, S2y, rfl, h1z, h2z, h30, h12⟩
 refine Rm z<|R z (ext_ z z)<|R z (ext_ z z)<|E z (fa c_C) ?_
 rintro _ w31 ⟨rfl, h20⟩
 have hk := h20.below
 have h32 : Blk w31 w2x.z [sl none 0 0, vI 0] := h20.blk
 refine E0 (fs (cur' := [sl ar ns ct, vI rv.stored]) a_2 z z h32 z (lb z) (oA z) z) ?_
 rintro _ w3w ⟨h33, s34⟩
 have hl := s34.one
 refine Ra z<|Wn<|Wq<|Ws<|Rm z<|R z (not_ z)<|Wn<|Wc z (fun hc1e => ?_) (fun hc1e => ?_)
 ·refine Ws ?_
  have h21 := lt_ (lt_ h1.s s0.s) s2.s
  have h35 := ((((((hz.e s0).e s2).e h4).c h5<|djs<|mm1 hp.lt h21).e s8).e hk).c hl<|djs<|mm1 hp.lt<|lt_ (lt_ (lt_ h21 h4.s) h5.s) s8.s
  refine R z (lN (vs := [sl a9 na cb, sl ah ng ci, vI rm.log.stored]) a_n Z_ z z fid<|h35.row 0 3 z) ?_
  have h22 := lt_ (lt_ (lt_ (lt_ s7.s h3.s) h1.s) s0.s) s2.s
  have h36 := (((((((h6.e s7).e h3).c h1<|djs<|mm1 h6.lt s7.s).e s0).e s2).e h4).c h5<|djs<|mm1 h6.lt h22).e s8
  refine E0 (fs (cur' := [sl a9 na cb, sl ah ng ci, vI rm.log.stored]) Z_ z z ((h36.e hk).c hl<|djs<|mm1 h6.lt<|lt_ (lt_ (lt_ h22 h4.s) h5.s) s8.s) z (lb z) (oA z) z) ?_
  rintro _ w3x ⟨h37, s38⟩
  have h1f := s38.one
  refine Ra z<|Wn ?_
  obtain rfl := som (ifT hm1y hc1e)
  have h1g := lt_ (lt_ (lt_ h3.s h1.s) s0.s) s2.s
  have h23 := lt_ (lt_ (lt_ h1g h4.s) h5.s) s8.s
  have h39 := (((((((((hc.e h3).c h1<|ds<|mnr<|a_.lt hc).e s0).e s2).e h4).c h5<|ds<|mno (a_.lt hc) h1g).e s8).e hk).c hl<|ds<|mno (a_.lt hc) h23).c h1f<|m_ (al_ hd) h6.lt lr
  have h3a := (((((((((hn.e h3).c h1<|ds<|mnr<|a_.lt hn).e s0).e s2).e h4).c h5<|ds<|mno (a_.lt hn) h1g).e s8).e hk).c hl<|ds<|mno (a_.lt hn) h23).c h1f<|m_ (ar_ hd) h6.lt lr
  have h3b := bM (bM (bup (bup (bM (bup (bup (bup (bM (bup (bup (bup he hf) s7) h3) h1<|m1 hq) s0) s2) h4) h5<|m1 h10) s8) hk) hl<|m1<|lt_ h11 s8.s) h1f<|m1 he.s
  exact Wr<|a_z hr (r_ a_n Z_ z h37 z) z ⟨h3b, a9, na, cb, Sy, ah, ng, ci, S15, z, h39, h3a, h16, (na_ (nl_ hj) (nr_ hj)<|nj hj), (aa_ (l_ (al_ hd) ho)<|l_ (ar_ hd) ho)⟩
 refine Wk<|Ws<|R z (lN (vs := [sl ar ns ct, vI rv.stored]) a_u a_2 z z fid<|h33.row 0 2 z)<|R z (fd b_a z) ?_
 have h24 := lt_ (lt_ h1.s s0.s) s2.s
 have h25 := lt_ (lt_ h24 h4.s) h5.s
 have h3c := ((((((hz.e s0).e s2).e h4).c h5<|djs<|mm1 hp.lt h24).e s8).e hk).c hl<|djs<|mm1 hp.lt<|lt_ h25 s8.s
 refine E0 (fs (cur' := [sl a9 na cb, sl ar ns ct, vI rv.stored]) a_2 z z h3c z (lb z) (oA z) z) ?_
 rintro _ w3y ⟨h3d, s3e⟩
 have h13 := s3e.one
 refine Wn<|Ws<|R z (lN (vs := [sl a9 na cb, sl ar ns ct, vI rv.stored]) a_n Z_ z z fid<|h3d.row 0 3 z) ?_
 have h26 := mm1 h6.lt s7.s
 have h27 := lt_ (lt_ (lt_ (lt_ s7.s h3.s) h1.s) s0.s) s2.s
 have h3f := ((((((((h6.e s7).e h3).c h1<|djs h26).e s0).e s2).e h4).c h5<|djs<|mm1 h6.lt h27).e s8).e hk
 have h28 := lt_ (lt_ h27 h4.s) h5.s
 refine E0 (fs (cur' := [sl a9 na cb, sl ar ns ct, vI rv.stored]) Z_ z z ((h3f.c hl<|djs<|mm1 h6.lt<|lt_ h28 s8.s).c h13<|djs h26) z (lb z) (oA z) z) ?_
 rintro _ w3z ⟨h3g, s3h⟩
 have h1h := s3h.one
 refine Ra z<|Wn ?_
 obtain rfl := som (ifF hm1y hc1e)
 have h29 := mnr<|a_.lt hc
 have h2a := lt_ (lt_ (lt_ h3.s h1.s) s0.s) s2.s
 have h2b := lt_ (lt_ h2a h4.s) h5.s
 have h3i := (((((((((hc.e h3).c h1<|ds h29).e s0).e s2).e h4).c h5<|ds<|mno (a_.lt hc) h2a).e s8).e hk).c hl<|ds<|mno (a_.lt hc)<|lt_ h2b s8.s).c h13<|ds h29
 have h2c := m1 hq
 have h3j := bM (bM (bM (bup (bup (bM (bup (bup (bup (bM (bup (bup (bup he hf) s7) h3) h1 h2c) s0) s2) h4) h5<|m1 h10) s8) hk) hl<|m1<|lt_ h11 s8.s) h13 h2c) h1h<|m1 he.s
 exact Wr<|a_z hr (r_ a_n Z_ z h3g z) z ⟨h3j, a9, na, cb, Sy, ar, ns, ct, S2y, z, (h3i.c h1h<|m_ (al_ hd) h6.lt lr), ((((h1z.e hk).c hl<|ds<|mnr<|a_.lt h1z).c h13<|m_ h12 hp.lt h25).c h1h<|m_ h12 h6.lt h28), h2z, (na_ (nl_ hj) h30<|ds<|U_ h12 (a_.lt hc) h2b), (aa_ (l_ (al_ hd) ho)<|l_ h12 h11)⟩
theorem W_w1o {x1 : List UInt8} {x2 : List UInt8} {res : Bool} (hm : e_X x1 x2 = some res) (hBw : B ≤ w0.z) (p1_0 : b_ w0 B (sl A0 N0 C0) x1) (p2_0 : b_ w0 B (sl A6 N6 C6) x2) : j_ prog 26 [sl A0 N0 C0, sl A6 N6 C6] w0 (Q11 w0 B res) := by
 unfold e_X at hm
 refine goF func26 z z (lb z) fun fn hr => Ws<|Ra z<|Wn<|Wq<|Ws<|Rm z<|R z (lnR i_ z p1_0)<|Rm z<|R z (lnR i_ z p2_0)<|R z (nq z z)<|Wn<|Wc z (fun hc1 => ?_) (fun hc1 => ?_)
 ·refine Ws<|Ra z<|Wn ?_
  obtain rfl := som (ifT hm hc1)
  exact Wr<|d_ hr z ⟨(br w0), z⟩
 refine Wk<|Wq<|Ws<|Ra z<|Wn ?_
 obtain ⟨uq, hua, hm4⟩ := bdS (ifF hm hc1)
 refine Wf (σ := Unit) (ρ := Bool) (fun (k5 : Nat) (_ : Unit) a w => Sat 26 [(0, sl A0 N0 C0), (1, sl A6 N6 C6), (5, (vI ((k5 : Nat) : Int)))] a ∧ Below w0.z w0 w) (fun (_ : Unit) a w => Sat 26 [] a ∧ Below w0.z w0 w) (fun r ex a w => ex = .ret ∧ v_ prog fn (Q11 w0 B r) a w) hua ?_ ?_ ?_ ?_ ?_
 ·exact fun _ q => ⟨(q.k<|s3 z z z), (br w0)⟩
 ·rintro k5 _ ar ws ot hk6 ⟨hSb, s0⟩ hmc
  refine Wu ?_ hSb
  refine Wq<|Ws<|Rm z<|Rm z<|R z (lnR i_ z<|p1_0.e s0)<|R z (lss z z)<|Wn<|Wc z (fun _ => ?_) (fun hc => (N_ hk6 hc).elim)
  refine Wk<|Wq<|Wb<|Wq (Wd (X := noX) 0 (.rd 0 (.rd 1 (.rd 2 (.rd 3 (.rd 4 (.rd 5 (.rd 6 (.rd 7 (.rd 8 .done))))))))) mo (by kernel_rfl) fun wu s2 _ => dR z z (mv z)<|dR z z (mv z) ?_)
  obtain ⟨xv, ed, hme⟩ := bdS hmc
  have h7 := (s0.ag B).e s2
  refine dRX z z (at_ (α := UInt8) i_ z_5 z z z (p1_0.g h7) ed) ?_
  rintro _ ⟨bw, ox, csy, rfl, hf, hg, hz⟩
  obtain rfl := u8 hg
  refine dR z z (l1 g_5 z fid<|hf.at0 z)<|dR z z (mv z)<|dR z z (mv z) ?_
  obtain ⟨x10, eh, hm8⟩ := bdS hme
  refine dRX z z (at_ (α := UInt8) i_ z_5 z z z (p2_0.g h7) eh) ?_
  rintro _ ⟨b11, o12, cs13, rfl, hi, hj, h14⟩
  obtain rfl := u8 hj
  refine dR z z (l1 g_5 z fid<|hi.at0 z)<|dR z z (nq z z)<|pD<|Wo<|Wc z (fun hc3 => ?_) (fun hc3 => ?_)
  ·exact Ws<|Ra z<|Wn<|Wr<|rtO<|qL (som<|ifT hm8 hc3).symm<|d_ hr z ⟨(bup s0 s2), z⟩
  exact Wk<|Wg<|Rm z<|R z (inc_ hk6 (lt_ (b_.len p1_0) G_) z z)<|Ra z<|Wl (fun _ q => ⟨(), (som<|ifF hm8 hc3).symm, ⟨(q.k<|s3 z z z), (bup s0 s2)⟩⟩)
 ·rintro _ a15 w16 ⟨hSk, s9⟩
  refine Wu ?_ hSk
  refine Wq<|Ws<|Rm z<|Rm z<|R z (lnR i_ z<|p1_0.e s9)<|R z (lss z z)<|Wn<|Wc z (fun hc => (O_ hc).elim) (fun _ => ?_)
  exact We (fun a' ha' => ⟨rfl, ⟨(Sat.weaken ha' sn), s9⟩⟩)
 ·rintro _ al w17 rfl ⟨hS18, sm⟩
  have hmn := elL hm4
  revert al
  refine Wo<|Ws<|Ra z<|Wn ?_
  obtain rfl := som hmn
  exact Wr<|d_ hr z ⟨sm, z⟩
 rintro r19 ex1a a1b w1c rfl ⟨rfl, hqo⟩
 have hmp := elR hm4
 obtain rfl := som hmp
 exact ⟨hqo, z⟩
theorem W_w3z {x1 : List Str} {x2 : List Str} {res : Bool} (hm : g_C x1 x2 = some res) (hBw : B ≤ w0.z) (p1_0 : b_ w0 B (sl A0 N0 C0) x1) (p2_0 : b_ w0 B (sl A6 N6 C6) x2) : j_ prog 16 [sl A0 N0 C0, sl A6 N6 C6] w0 (Q11 w0 B res) := by
 unfold g_C at hm
 refine goF func16 z z (lb z) fun fn hr => Ws<|Ra z<|Wn<|Wq<|Ws<|Rm z<|R z (lnR a_8 z p1_0)<|Rm z<|R z (lnR a_8 z p2_0)<|R z (nq z z)<|Wn<|Wc z (fun hc1 => ?_) (fun hc1 => ?_)
 ·refine Ws<|Ra z<|Wn ?_
  obtain rfl := som (ifT hm hc1)
  exact Wr<|d_ hr z ⟨(br w0), z⟩
 refine Wk<|Wq<|Ws<|Ra z<|Wn ?_
 obtain ⟨uq, hua, hm4⟩ := bdS (ifF hm hc1)
 refine Wf (σ := Unit) (ρ := Bool) (fun (k5 : Nat) (_ : Unit) a w => Sat 26 [(0, sl A0 N0 C0), (1, sl A6 N6 C6), (5, (vI ((k5 : Nat) : Int)))] a ∧ Below w0.z w0 w) (fun (_ : Unit) a w => Sat 26 [] a ∧ Below w0.z w0 w) (fun r ex a w => ex = .ret ∧ v_ prog fn (Q11 w0 B r) a w) hua ?_ ?_ ?_ ?_ ?_
 ·exact fun _ q => ⟨(q.k<|s3 z z z), (br w0)⟩
 ·rintro k5 _ ar ws ot hk6 ⟨hSb, s0⟩ hmc
  refine Wu ?_ hSb
  refine Wq<|Ws<|Rm z<|Rm z<|R z (lnR a_8 z<|p1_0.e s0)<|R z (lss z z)<|Wn<|Wc z (fun _ => ?_) (fun hc => (N_ hk6 hc).elim)
  refine Wk<|Wq<|Wb<|Wq (Wd (X := noX) 0 (.rd 0 (.rd 1 (.rd 2 (.rd 3 (.rd 4 (.rd 5 (.rd 6 (.rd 7 (.rd 8 .done))))))))) mo (by kernel_rfl) fun wu s2 _ => dR z z (mv z)<|dR z z (mv z) ?_)
  obtain ⟨xv, ed, hme⟩ := bdS hmc
  have h7 := (s0.ag B).e s2
  refine dRX z z (at_ (α := Str) a_8 z_9 z z z (p1_0.g h7) ed) ?_
  rintro _ ⟨bw, ox, csy, rfl, hf, hg, hz⟩
  obtain ⟨rfl, h10⟩ := b_E hg
  refine dR z z (l1 g_9 z fid<|hf.at0 z)<|dR z z (mv z)<|dR z z (mv z) ?_
  obtain ⟨x11, eh, hm8⟩ := bdS hme
  refine dRX z z (at_ (α := Str) a_8 z_9 z z z (p2_0.g h7) eh) ?_
  rintro _ ⟨b12, o13, cs14, rfl, hi, hj, h15⟩
  obtain ⟨rfl, h16⟩ := b_E hj
  refine dR z z (l1 g_9 z fid<|hi.at0 z)<|dR z z (f_F z z)<|pD<|Wo<|Wc z (fun hc3 => ?_) (fun hc3 => ?_)
  ·exact Ws<|Ra z<|Wn<|Wr<|rtO<|qL (som<|ifT hm8 hc3).symm<|d_ hr z ⟨(bup s0 s2), z⟩
  exact Wk<|Wg<|Rm z<|R z (inc_ hk6 (lt_ (b_.len p1_0) G_) z z)<|Ra z<|Wl (fun _ q => ⟨(), (som<|ifF hm8 hc3).symm, ⟨(q.k<|s3 z z z), (bup s0 s2)⟩⟩)
 ·rintro _ a17 w18 ⟨hSk, s9⟩
  refine Wu ?_ hSk
  refine Wq<|Ws<|Rm z<|Rm z<|R z (lnR a_8 z<|p1_0.e s9)<|R z (lss z z)<|Wn<|Wc z (fun hc => (O_ hc).elim) (fun _ => ?_)
  exact We (fun a' ha' => ⟨rfl, ⟨(Sat.weaken ha' sn), s9⟩⟩)
 ·rintro _ al w19 rfl ⟨hS1a, sm⟩
  have hmn := elL hm4
  revert al
  refine Wo<|Ws<|Ra z<|Wn ?_
  obtain rfl := som hmn
  exact Wr<|d_ hr z ⟨sm, z⟩
 rintro r1b ex1c a1d w1e rfl ⟨rfl, hqo⟩
 have hmp := elR hm4
 obtain rfl := som hmp
 exact ⟨hqo, z⟩
theorem W_w1p {x1 : List Int} {x2 : List Int} {res : Bool} (hm : e_Y x1 x2 = some res) (hBw : B ≤ w0.z) (p1_0 : b_ w0 B (sl A0 N0 C0) x1) (p2_0 : b_ w0 B (sl A6 N6 C6) x2) : j_ prog 176 [sl A0 N0 C0, sl A6 N6 C6] w0 (Q11 w0 B res) := by
 unfold e_Y at hm
 refine goF func176 z z (lb z) fun fn hr => Ws<|Ra z<|Wn<|Wq<|Ws<|Rm z<|R z (lnR F_ z p1_0)<|Rm z<|R z (lnR F_ z p2_0)<|R z (nq z z)<|Wn<|Wc z (fun hc1 => ?_) (fun hc1 => ?_)
 ·refine Ws<|Ra z<|Wn ?_
  obtain rfl := som (ifT hm hc1)
  exact Wr<|d_ hr z ⟨(br w0), z⟩
 refine Wk<|Wq<|Ws<|Ra z<|Wn ?_
 obtain ⟨uq, hua, hm4⟩ := bdS (ifF hm hc1)
 refine Wf (σ := Unit) (ρ := Bool) (fun (k5 : Nat) (_ : Unit) a w => Sat 26 [(0, sl A0 N0 C0), (1, sl A6 N6 C6), (5, (vI ((k5 : Nat) : Int)))] a ∧ Below w0.z w0 w) (fun (_ : Unit) a w => Sat 26 [] a ∧ Below w0.z w0 w) (fun r ex a w => ex = .ret ∧ v_ prog fn (Q11 w0 B r) a w) hua ?_ ?_ ?_ ?_ ?_
 ·exact fun _ q => ⟨(q.k<|s3 z z z), (br w0)⟩
 ·rintro k5 _ ar ws ot hk6 ⟨hSb, s0⟩ hmc
  refine Wu ?_ hSb
  refine Wq<|Ws<|Rm z<|Rm z<|R z (lnR F_ z<|p1_0.e s0)<|R z (lss z z)<|Wn<|Wc z (fun _ => ?_) (fun hc => (N_ hk6 hc).elim)
  refine Wk<|Wq<|Wb<|Wq (Wd (X := noX) 0 (.rd 0 (.rd 1 (.rd 2 (.rd 3 (.rd 4 (.rd 5 (.rd 6 (.rd 7 (.rd 8 .done))))))))) mo (by kernel_rfl) fun wu s2 _ => dR z z (mv z)<|dR z z (mv z) ?_)
  obtain ⟨xv, ed, hme⟩ := bdS hmc
  have h7 := (s0.ag B).e s2
  refine dRX z z (at_ (α := Int) F_ z_3 z z z (p1_0.g h7) ed) ?_
  rintro _ ⟨bw, ox, csy, rfl, hf, hg, hz⟩
  obtain ⟨rfl, h10⟩ := a_c hg
  refine dR z z (l1 g_3 z fid<|hf.at0 z)<|dR z z (mv z)<|dR z z (mv z) ?_
  obtain ⟨x11, eh, hm8⟩ := bdS hme
  refine dRX z z (at_ (α := Int) F_ z_3 z z z (p2_0.g h7) eh) ?_
  rintro _ ⟨b12, o13, cs14, rfl, hi, hj, h15⟩
  obtain ⟨rfl, h16⟩ := a_c hj
  refine dR z z (l1 g_3 z fid<|hi.at0 z)<|dR z z (nq z z)<|pD<|Wo<|Wc z (fun hc3 => ?_) (fun hc3 => ?_)
  ·exact Ws<|Ra z<|Wn<|Wr<|rtO<|qL (som<|ifT hm8 hc3).symm<|d_ hr z ⟨(bup s0 s2), z⟩
  exact Wk<|Wg<|Rm z<|R z (inc_ hk6 (lt_ (b_.len p1_0) G_) z z)<|Ra z<|Wl (fun _ q => ⟨(), (som<|ifF hm8 hc3).symm, ⟨(q.k<|s3 z z z), (bup s0 s2)⟩⟩)
 ·rintro _ a17 w18 ⟨hSk, s9⟩
  refine Wu ?_ hSk
  refine Wq<|Ws<|Rm z<|Rm z<|R z (lnR F_ z<|p1_0.e s9)<|R z (lss z z)<|Wn<|Wc z (fun hc => (O_ hc).elim) (fun _ => ?_)
  exact We (fun a' ha' => ⟨rfl, ⟨(Sat.weaken ha' sn), s9⟩⟩)
 ·rintro _ al w19 rfl ⟨hS1a, sm⟩
  have hmn := elL hm4
  revert al
  refine Wo<|Ws<|Ra z<|Wn ?_
  obtain rfl := som hmn
  exact Wr<|d_ hr z ⟨sm, z⟩
 rintro r1b ex1c a1d w1e rfl ⟨rfl, hqo⟩
 have hmp := elR hm4
 obtain rfl := som hmp
 exact ⟨hqo, z⟩
theorem W_w40 {x1 : c_} {x2 : c_} {res : Bool} (hm : g_D x1 x2 = some res) (hBw : B ≤ w0.z) (p1_0 : x1.name.b.length ≤ LEN) (p1_1 : inI x1.kind) (p1_2 : inI x1.size) (p1_4 : b_ w0 B (sl AB NB CB) x1.bytes) (p1_5 : b_ w0 B (sl A7 N7 C7) x1.names) (p1_6 : b_ w0 B (sl AA NA CA) x1.tags) (p1_7 : b_ w0 B (sl A8 N8 C8) x1.kids) (p2_0 : x2.name.b.length ≤ LEN) (p2_1 : inI x2.kind) (p2_2 : inI x2.size) (p2_4 : b_ w0 B (sl A3 N3 C3) x2.bytes) (p2_5 : b_ w0 B (sl A4 N4 C4) x2.names) (p2_6 : b_ w0 B (sl A2 N2 C2) x2.tags) (p2_7 : b_ w0 B (sl A5 N5 C5) x2.kids) : j_ prog 149 [(.agg #[Str.v x1.name, vI x1.kind, vI x1.size, vB x1.little, sl AB NB CB, sl A7 N7 C7, sl AA NA CA, sl A8 N8 C8]), (.agg #[Str.v x2.name, vI x2.kind, vI x2.size, vB x2.little, sl A3 N3 C3, sl A4 N4 C4, sl A2 N2 C2, sl A5 N5 C5])] w0 (Q11 w0 B res) := by
 unfold g_D at hm
 refine goF func149 z z (lb z) fun fn hr => Ws<|E z (fb z) ?_
 rintro _ wi ⟨rfl, hj⟩
 have h1 := hj.below
 have h11 : Blk wi w0.z (vR x1 AB NB CB A7 N7 C7 AA NA CA A8 N8 C8) := hj.blk
 refine E z (fb z) ?_
 rintro _ w12 ⟨rfl, hk⟩
 have h0 := hk.below
 have h5 : Blk w12 wi.z (vR x2 A3 N3 C3 A4 N4 C4 A2 N2 C2 A5 N5 C5) := hk.blk
 refine Ra z<|Wn<|Wq<|Ws<|R z (fd c_g z) ?_
 have h6 := h11.e h0
 refine R z (l1 g_9 z fid<|h6.at z)<|R z (fd c_g z)<|R z (l1 g_9 z fid<|h5.at z)<|R z (f_F z z)<|Wn<|Wc z (fun hc7 => ?_) (fun hc7 => ?_)
 ·refine Ws<|Ra z<|Wn ?_
  obtain rfl := som (ifT hm hc7)
  exact Wr<|d_ hr z ⟨(bup h1 h0), z⟩
 have hml := ifF hm hc7
 refine Wk<|Wq<|Ws<|R z (fd b_y z)<|R z (l1 g_3 z fid<|h6.at z)<|R z (fd b_y z)<|R z (l1 g_3 z fid<|h5.at z)<|R z (nq z z)<|Wn<|Wc z (fun hc8 => ?_) (fun hc8 => ?_)
 ·refine Ws<|Ra z<|Wn ?_
  obtain rfl := som (ifT hml hc8)
  exact Wr<|d_ hr z ⟨(bup h1 h0), z⟩
 have hmm := ifF hml hc8
 refine Wk<|Wq<|Ws<|R z (fd a_O z)<|R z (l1 g_3 z fid<|h6.at z)<|R z (fd a_O z)<|R z (l1 g_3 z fid<|h5.at z)<|R z (nq z z)<|Wn<|Wc z (fun hc9 => ?_) (fun hc9 => ?_)
 ·refine Ws<|Ra z<|Wn ?_
  obtain rfl := som (ifT hmm hc9)
  exact Wr<|d_ hr z ⟨(bup h1 h0), z⟩
 have hmn := ifF hmm hc9
 refine Wk<|Wq<|Ws<|R z (fd c_h z)<|R z (l1 g_4 z fid<|h6.at z)<|R z (fd c_h z)<|R z (l1 g_4 z fid<|h5.at z)<|R z (f_E d_4 z z)<|Wn<|Wc z (fun hca => ?_) (fun hca => ?_)
 ·refine Ws<|Ra z<|Wn ?_
  obtain rfl := som (ifT hmn hca)
  exact Wr<|d_ hr z ⟨(bup h1 h0), z⟩
 refine Wk<|Wq<|Ws<|R z (fd a_N z)<|R z (l1 I_ z fid<|h6.at z)<|R z (fd a_N z)<|R z (l1 I_ z fid<|h5.at z) ?_
 have hb := (h1.ag B).e h0
 have ho := lt_ h1.s h0.s
 obtain ⟨r17, e13, hmp⟩ := bdS (ifF hmn hca)
 refine E z (fc call26 z<|W_w1o (B := B) e13 (zt' hBw ho) (p1_4.g hb)<|p2_4.g hb) ?_
 rintro _ w18 ⟨s2, rfl⟩
 refine R z (not_ z)<|Wn<|Wc z (fun hcc => ?_) (fun hcc => ?_)
 ·refine Ws<|Ra z<|Wn ?_
  obtain rfl := som (ifT hmp hcc)
  exact Wr<|d_ hr z ⟨(bup (bup h1 h0) s2), z⟩
 refine Wk<|Wq<|Ws<|R z (fd b_p z) ?_
 have hq := h6.e s2
 refine R z (l1 b_x z fid<|hq.at z)<|R z (fd b_p z) ?_
 have ht := h5.e s2
 refine R z (l1 b_x z fid<|ht.at z) ?_
 have hd := hb.e s2
 have hu := lt_ ho s2.s
 obtain ⟨r19, e14, hmr⟩ := bdS (ifF hmp hcc)
 refine E z (fc call16 z<|W_w3z (B := B) e14 (zt' hBw hu) (p1_5.g hd)<|p2_5.g hd) ?_
 rintro _ w1a ⟨s3, rfl⟩
 refine R z (not_ z)<|Wn<|Wc z (fun hce => ?_) (fun hce => ?_)
 ·refine Ws<|Ra z<|Wn ?_
  obtain rfl := som (ifT hmr hce)
  exact Wr<|d_ hr z ⟨(bup (bup (bup h1 h0) s2) s3), z⟩
 refine Wk<|Wq<|Ws<|R z (fd a_J z) ?_
 have hv := hq.e s3
 refine R z (l1 H_ z fid<|hv.at z)<|R z (fd a_J z) ?_
 have hw := ht.e s3
 refine R z (l1 H_ z fid<|hw.at z) ?_
 have hf := hd.e s3
 have hx := lt_ hu s3.s
 obtain ⟨r1b, e15, hms⟩ := bdS (ifF hmr hce)
 refine E z (fc call176 z<|W_w1p (B := B) e15 (zt' hBw hx) (p1_6.g hf)<|p2_6.g hf) ?_
 rintro _ w1c ⟨s4, rfl⟩
 refine R z (not_ z)<|Wn<|Wc z (fun hcg => ?_) (fun hcg => ?_)
 ·refine Ws<|Ra z<|Wn ?_
  obtain rfl := som (ifT hms hcg)
  exact Wr<|d_ hr z ⟨(bup (bup (bup (bup h1 h0) s2) s3) s4), z⟩
 refine Wk<|Wq<|Ws<|R z (fd a_5 z)<|R z (l1 H_ z fid<|(hv.e s4).at z)<|R z (fd a_5 z)<|R z (l1 H_ z fid<|(hw.e s4).at z) ?_
 have hy := hf.e s4
 obtain ⟨r1d, e16, hmz⟩ := bdS (ifF hms hcg)
 refine E z (fc call176 z<|W_w1p (B := B) e16 (zt' hBw<|lt_ hx s4.s) (p1_7.g hy)<|p2_7.g hy) ?_
 rintro _ w1e ⟨s10, rfl⟩
 refine R z (not_ z)<|Wn<|Wc z (fun hch => ?_) (fun hch => ?_)
 ·refine Ws<|Ra z<|Wn ?_
  obtain rfl := som (ifT hmz hch)
  exact Wr<|d_ hr z ⟨(bup (bup (bup (bup (bup h1 h0) s2) s3) s4) s10), z⟩
 refine Wk<|Ws<|Ra z<|Wn ?_
 obtain rfl := som (ifF hmz hch)
 exact Wr<|d_ hr z ⟨(bup (bup (bup (bup (bup h1 h0) s2) s3) s4) s10), z⟩
theorem W_w41 {x1 : List c_} {x2 : List c_} {res : Bool} (hm : i_o x1 x2 = some res) (hBw : B ≤ w0.z) (p1_0 : b_ w0 B (sl A0 N0 C0) x1) (p2_0 : b_ w0 B (sl A6 N6 C6) x2) : j_ prog 131 [sl A0 N0 C0, sl A6 N6 C6] w0 (Q11 w0 B res) := by
 unfold i_o at hm
 refine goF func131 z z (lb z) fun fn hr => Ws<|Ra z<|Wn<|Wq<|Ws<|Rm z<|R z (lnR J_ z p1_0)<|Rm z<|R z (lnR J_ z p2_0)<|R z (nq z z)<|Wn<|Wc z (fun hc2 => ?_) (fun hc2 => ?_)
 ·refine Ws<|Ra z<|Wn ?_
  obtain rfl := som (ifT hm hc2)
  exact Wr<|d_ hr z ⟨(br w0), z⟩
 refine Wk<|Wq<|Ws<|Ra z<|Wn ?_
 obtain ⟨u1x, hub, hm4⟩ := bdS (ifF hm hc2)
 refine Wf (σ := Unit) (ρ := Bool) (fun (k5 : Nat) (_ : Unit) a w => Sat 27 [(0, sl A0 N0 C0), (1, sl A6 N6 C6), (5, (vI ((k5 : Nat) : Int)))] a ∧ Below w0.z w0 w) (fun (_ : Unit) a w => Sat 27 [] a ∧ Below w0.z w0 w) (fun r ex a w => ex = .ret ∧ v_ prog fn (Q11 w0 B r) a w) hub ?_ ?_ ?_ ?_ ?_
 ·exact fun _ q => ⟨(q.k<|s3 z z z), (br w0)⟩
 ·rintro k5 _ a1y w1z o20 hk6 ⟨hSc, s0⟩ hmd
  refine Wu ?_ hSc
  refine Wq<|Ws<|Rm z<|Rm z<|R z (lnR J_ z<|p1_0.e s0)<|R z (lss z z)<|Wn<|Wc z (fun _ => ?_) (fun hc => (N_ hk6 hc).elim)
  refine Wk<|Wq<|Wb<|Wq (Wd (X := noX) 0 (.rd 0 (.rd 1 (.rd 2 (.rd 3 (.rd 4 (.rd 5 (.rd 6 (.rd 7 (.ef 8 (.rd 9 .done)))))))))) mo (by kernel_rfl) fun w21 s1 _ => dR z z (mv z)<|dR z z (mv z) ?_)
  obtain ⟨xe, eg, hmf⟩ := bdS hmd
  have h7 := (s0.ag B).e s1
  refine dRX z z (at_ (α := c_) J_ q_ z z z (p1_0.g h7) eg) ?_
  rintro _ ⟨b22, o23, cs24, rfl, hh, hi, h25⟩
  obtain ⟨aj, nk, cl, am, nn, co, ap, nr, cq, au, ns, ct, rfl, hv, hw, hx, hy, hz, h10, h11⟩ := a_E hi
  refine dR z z (lN (vs := (vR xe aj nk cl am nn co ap nr cq au ns ct)) K_ q_ z z fid hh)<|dR z z (mv z)<|dR z z (mv z) ?_
  obtain ⟨x12, e13, hm14⟩ := bdS hmf
  refine dRX z z (at_ (α := c_) J_ q_ z z z (p2_0.g h7) e13) ?_
  rintro _ ⟨b26, o27, cs28, rfl, h15, h16, h29⟩
  obtain ⟨a17, n18, c19, a1a, n1b, c1c, a1d, n1e, c1f, a1g, n1h, c1i, rfl, h1j, h1k, h1l, h1m, h1n, h1o, h1p⟩ := a_E h16
  refine dR z z (lN (vs := (vR x12 a17 n18 c19 a1a n1b c1c a1d n1e c1f a1g n1h c1i)) K_ q_ z z fid h15) ?_
  obtain ⟨r2a, e1q, hm8⟩ := bdS hm14
  refine dE z z (fc call149 z<|W_w40 (B := B) e1q (zt' hBw<|lt_ s0.s s1.s) hv hw hx hy hz h10 h11 h1j h1k h1l h1m h1n h1o h1p) (.inr fun _ _ h => z_<|h.1) ?_
  rintro _ w2b ⟨s9, rfl⟩
  refine dR z z (not_ z)<|pD<|Wo<|Wc z (fun hc3 => ?_) (fun hc3 => ?_)
  ·exact Ws<|Ra z<|Wn<|Wr<|rtO<|qL (som<|ifT hm8 hc3).symm<|d_ hr z ⟨(bup (bup s0 s1) s9), z⟩
  exact Wk<|Wg<|Rm z<|R z (inc_ hk6 (lt_ (b_.len p1_0) G_) z z)<|Ra z<|Wl (fun _ q => ⟨(), (som<|ifF hm8 hc3).symm, ⟨(q.k<|s3 z z z), (bup (bup s0 s1) s9)⟩⟩)
 ·rintro _ a2c w2d ⟨hS1r, sa⟩
  refine Wu ?_ hS1r
  refine Wq<|Ws<|Rm z<|Rm z<|R z (lnR J_ z<|p1_0.e sa)<|R z (lss z z)<|Wn<|Wc z (fun hc => (O_ hc).elim) (fun _ => ?_)
  exact We (fun a' ha' => ⟨rfl, ⟨(Sat.weaken ha' sn), sa⟩⟩)
 ·rintro _ a1s w2e rfl ⟨hS2f, s1t⟩
  have hm1u := elL hm4
  revert a1s
  refine Wo<|Ws<|Ra z<|Wn ?_
  obtain rfl := som hm1u
  exact Wr<|d_ hr z ⟨s1t, z⟩
 rintro r2g ex2h a2i w2j rfl ⟨rfl, hq1v⟩
 have hm1w := elR hm4
 obtain rfl := som hm1w
 exact ⟨hq1v, z⟩
theorem W_w42 {x1 : g_} {x2 : g_} {res : Bool} (hm : g_E x1 x2 = some res) (hBw : B ≤ w0.z) (p1_0 : b_ w0 B (sl A0 N0 C0) x1.rules) (p2_0 : b_ w0 B (sl A6 N6 C6) x2.rules) : j_ prog 103 [(.agg #[sl A0 N0 C0]), (.agg #[sl A6 N6 C6])] w0 (Q11 w0 B res) := by
 unfold g_E at hm
 refine goF func103 z z (lb z) fun fn hr => Ws<|E z (fb z) ?_
 rintro _ w3 ⟨rfl, h4⟩
 have h1 := h4.below
 have h9 : Blk w3 w0.z [sl A0 N0 C0] := h4.blk
 refine E z (fb z) ?_
 rintro _ wa ⟨rfl, h5⟩
 have h0 := h5.below
 have hb : Blk wa w3.z [sl A6 N6 C6] := h5.blk
 refine Ra z<|Wn<|Wq<|Ws<|R z (fd a_7 z)<|R z (l1 a_e z fid<|(h9.e h0).at z)<|R z (fd a_7 z)<|R z (l1 a_e z fid<|hb.at z) ?_
 have h6 := (h1.ag B).e h0
 obtain ⟨rd, ec, hm7⟩ := bdS hm
 refine E z (fc call131 z<|W_w41 (B := B) ec (zt' hBw<|lt_ h1.s h0.s) (p1_0.g h6)<|p2_0.g h6) ?_
 rintro _ we ⟨s8, rfl⟩
 refine R z (not_ z)<|Wn<|Wc z (fun hc2 => ?_) (fun hc2 => ?_)
 ·refine Ws<|Ra z<|Wn ?_
  obtain rfl := som (ifT hm7 hc2)
  exact Wr<|d_ hr z ⟨(bup (bup h1 h0) s8), z⟩
 refine Wk<|Ws<|Ra z<|Wn ?_
 obtain rfl := som (ifF hm7 hc2)
 exact Wr<|d_ hr z ⟨(bup (bup h1 h0) s8), z⟩
theorem W_w43 {x1 : List g_} {x2 : List g_} {res : Bool} (hm : h_2 x1 x2 = some res) (hBw : B ≤ w0.z) (p1_0 : b_ w0 B (sl A0 N0 C0) x1) (p2_0 : b_ w0 B (sl A6 N6 C6) x2) : j_ prog 72 [sl A0 N0 C0, sl A6 N6 C6] w0 (Q11 w0 B res) := by
 unfold h_2 at hm
 refine goF func72 z z (lb z) fun fn hr => Ws<|Ra z<|Wn<|Wq<|Ws<|Rm z<|R z (lnR a_v z p1_0)<|Rm z<|R z (lnR a_v z p2_0)<|R z (nq z z)<|Wn<|Wc z (fun hc2 => ?_) (fun hc2 => ?_)
 ·refine Ws<|Ra z<|Wn ?_
  obtain rfl := som (ifT hm hc2)
  exact Wr<|d_ hr z ⟨(br w0), z⟩
 refine Wk<|Wq<|Ws<|Ra z<|Wn ?_
 obtain ⟨u11, hub, hm4⟩ := bdS (ifF hm hc2)
 refine Wf (σ := Unit) (ρ := Bool) (fun (k5 : Nat) (_ : Unit) a w => Sat 27 [(0, sl A0 N0 C0), (1, sl A6 N6 C6), (5, (vI ((k5 : Nat) : Int)))] a ∧ Below w0.z w0 w) (fun (_ : Unit) a w => Sat 27 [] a ∧ Below w0.z w0 w) (fun r ex a w => ex = .ret ∧ v_ prog fn (Q11 w0 B r) a w) hub ?_ ?_ ?_ ?_ ?_
 ·exact fun _ q => ⟨(q.k<|s3 z z z), (br w0)⟩
 ·rintro k5 _ a12 w13 o14 hk6 ⟨hSc, s0⟩ hmd
  refine Wu ?_ hSc
  refine Wq<|Ws<|Rm z<|Rm z<|R z (lnR a_v z<|p1_0.e s0)<|R z (lss z z)<|Wn<|Wc z (fun _ => ?_) (fun hc => (N_ hk6 hc).elim)
  refine Wk<|Wq<|Wb<|Wq (Wd (X := noX) 0 (.rd 0 (.rd 1 (.rd 2 (.rd 3 (.rd 4 (.rd 5 (.rd 6 (.rd 7 (.ef 8 (.rd 9 .done)))))))))) mo (by kernel_rfl) fun w15 s1 _ => dR z z (mv z)<|dR z z (mv z) ?_)
  obtain ⟨x16, ee, hmf⟩ := bdS hmd
  have h7 := (s0.ag B).e s1
  refine dRX z z (at_ (α := g_) a_v D_ z z z (p1_0.g h7) ee) ?_
  rintro _ ⟨b17, o18, cs19, rfl, hg, hh, h1a⟩
  obtain ⟨ai, nj, ck, rfl, hl⟩ := c_j hh
  refine dR z z (lN (vs := [sl ai nj ck]) P_ D_ z z fid hg)<|dR z z (mv z)<|dR z z (mv z) ?_
  obtain ⟨x1b, em, hmn⟩ := bdS hmf
  refine dRX z z (at_ (α := g_) a_v D_ z z z (p2_0.g h7) em) ?_
  rintro _ ⟨b1c, o1d, cs1e, rfl, ho, hp, h1f⟩
  obtain ⟨aq, nr, cs, rfl, ht⟩ := c_j hp
  refine dR z z (lN (vs := [sl aq nr cs]) P_ D_ z z fid ho) ?_
  obtain ⟨r1g, eu, hm8⟩ := bdS hmn
  refine dE z z (fc call103 z<|W_w42 (B := B) eu (zt' hBw<|lt_ s0.s s1.s) hl ht) (.inr fun _ _ h => z_<|h.1) ?_
  rintro _ w1h ⟨s9, rfl⟩
  refine dR z z (not_ z)<|pD<|Wo<|Wc z (fun hc3 => ?_) (fun hc3 => ?_)
  ·exact Ws<|Ra z<|Wn<|Wr<|rtO<|qL (som<|ifT hm8 hc3).symm<|d_ hr z ⟨(bup (bup s0 s1) s9), z⟩
  exact Wk<|Wg<|Rm z<|R z (inc_ hk6 (lt_ (b_.len p1_0) G_) z z)<|Ra z<|Wl (fun _ q => ⟨(), (som<|ifF hm8 hc3).symm, ⟨(q.k<|s3 z z z), (bup (bup s0 s1) s9)⟩⟩)
 ·rintro _ a1i w1j ⟨hSv, sa⟩
  refine Wu ?_ hSv
  refine Wq<|Ws<|Rm z<|Rm z<|R z (lnR a_v z<|p1_0.e sa)<|R z (lss z z)<|Wn<|Wc z (fun hc => (O_ hc).elim) (fun _ => ?_)
  exact We (fun a' ha' => ⟨rfl, ⟨(Sat.weaken ha' sn), sa⟩⟩)
 ·rintro _ aw w1k rfl ⟨hS1l, sx⟩
  have hmy := elL hm4
  revert aw
  refine Wo<|Ws<|Ra z<|Wn ?_
  obtain rfl := som hmy
  exact Wr<|d_ hr z ⟨sx, z⟩
 rintro r1m ex1n a1o w1p rfl ⟨rfl, hqz⟩
 have hm10 := elR hm4
 obtain rfl := som hm10
 exact ⟨hqz, z⟩
theorem W_w44 {x1 : B_} {x2 : B_} {res : Bool} (hm : i_x x1 x2 = some res) (hBw : B ≤ w0.z) (p1_0 : b_ w0 B (sl A0 N0 C0) x1.versions) (p2_0 : b_ w0 B (sl A6 N6 C6) x2.versions) : j_ prog 39 [(.agg #[sl A0 N0 C0]), (.agg #[sl A6 N6 C6])] w0 (Q11 w0 B res) := by
 unfold i_x at hm
 refine goF func39 z z (lb z) fun fn hr => Ws<|E z (fb z) ?_
 rintro _ w3 ⟨rfl, h4⟩
 have h1 := h4.below
 have h9 : Blk w3 w0.z [sl A0 N0 C0] := h4.blk
 refine E z (fb z) ?_
 rintro _ wa ⟨rfl, h5⟩
 have h0 := h5.below
 have hb : Blk wa w3.z [sl A6 N6 C6] := h5.blk
 refine Ra z<|Wn<|Wq<|Ws<|R z (fd a_P z)<|R z (l1 a_Y z fid<|(h9.e h0).at z)<|R z (fd a_P z)<|R z (l1 a_Y z fid<|hb.at z) ?_
 have h6 := (h1.ag B).e h0
 obtain ⟨rd, ec, hm7⟩ := bdS hm
 refine E z (fc call72 z<|W_w43 (B := B) ec (zt' hBw<|lt_ h1.s h0.s) (p1_0.g h6)<|p2_0.g h6) ?_
 rintro _ we ⟨s8, rfl⟩
 refine R z (not_ z)<|Wn<|Wc z (fun hc2 => ?_) (fun hc2 => ?_)
 ·refine Ws<|Ra z<|Wn ?_
  obtain rfl := som (ifT hm7 hc2)
  exact Wr<|d_ hr z ⟨(bup (bup h1 h0) s8), z⟩
 refine Wk<|Ws<|Ra z<|Wn ?_
 obtain rfl := som (ifF hm7 hc2)
 exact Wr<|d_ hr z ⟨(bup (bup h1 h0) s8), z⟩
theorem W_w45 {x1 : Log} {x2 : Log} {res : Bool} (hm : i_y x1 x2 = some res) (hBw : B ≤ w0.z) (p1_0 : b_ w0 B (sl A0 N0 C0) x1.bytes) (p1_1 : inI x1.stored) (p2_0 : b_ w0 B (sl A6 N6 C6) x2.bytes) (p2_1 : inI x2.stored) : j_ prog 40 [(.agg #[sl A0 N0 C0, vI x1.stored]), (.agg #[sl A6 N6 C6, vI x2.stored])] w0 (Q11 w0 B res) := by
 unfold i_y at hm
 refine goF func40 z z (lb z) fun fn hr => Ws<|E z (fb z) ?_
 rintro _ w5 ⟨rfl, h6⟩
 have h1 := h6.below
 have hd : Blk w5 w0.z [sl A0 N0 C0, vI x1.stored] := h6.blk
 refine E z (fb z) ?_
 rintro _ we ⟨rfl, h7⟩
 have h0 := h7.below
 have h8 : Blk we w5.z [sl A6 N6 C6, vI x2.stored] := h7.blk
 refine Ra z<|Wn<|Wq<|Ws<|R z (fd a_S z) ?_
 have h9 := hd.e h0
 refine R z (l1 I_ z fid<|h9.at z)<|R z (fd a_S z)<|R z (l1 I_ z fid<|h8.at z) ?_
 have ha := (h1.ag B).e h0
 obtain ⟨rg, ef, hmb⟩ := bdS hm
 refine E z (fc call26 z<|W_w1o (B := B) ef (zt' hBw<|lt_ h1.s h0.s) (p1_0.g ha)<|p2_0.g ha) ?_
 rintro _ wh ⟨s2, rfl⟩
 refine R z (not_ z)<|Wn<|Wc z (fun hc3 => ?_) (fun hc3 => ?_)
 ·refine Ws<|Ra z<|Wn ?_
  obtain rfl := som (ifT hmb hc3)
  exact Wr<|d_ hr z ⟨(bup (bup h1 h0) s2), z⟩
 have hmc := ifF hmb hc3
 refine Wk<|Wq<|Ws<|R z (fd c_i z)<|R z (l1 g_3 z fid<|(h9.e s2).at z)<|R z (fd c_i z)<|R z (l1 g_3 z fid<|(h8.e s2).at z)<|R z (nq z z)<|Wn<|Wc z (fun hc4 => ?_) (fun hc4 => ?_)
 ·refine Ws<|Ra z<|Wn ?_
  obtain rfl := som (ifT hmc hc4)
  exact Wr<|d_ hr z ⟨(bup (bup h1 h0) s2), z⟩
 refine Wk<|Ws<|Ra z<|Wn ?_
 obtain rfl := som (ifF hmc hc4)
 exact Wr<|d_ hr z ⟨(bup (bup h1 h0) s2), z⟩
theorem h_x {x1 : w_} {x2 : w_} {res : Bool} (hm : d_O x1 x2 = some res) (hBw : B ≤ w0.z) (p1_0 : b_ w0 B (sl A0 N0 C0) x1.registry.versions) (p1_1 : b_ w0 B (sl A1 N1 C1) x1.log.bytes) (p1_2 : inI x1.log.stored) (p2_0 : b_ w0 B (sl A6 N6 C6) x2.registry.versions) (p2_1 : b_ w0 B (sl AD ND CD) x2.log.bytes) (p2_2 : inI x2.log.stored) : j_ prog 13 [(.agg #[sl A0 N0 C0, sl A1 N1 C1, vI x1.log.stored]), (.agg #[sl A6 N6 C6, sl AD ND CD, vI x2.log.stored])] w0 (Q11 w0 B res) := by
 unfold d_O at hm
 refine goF func13 z z (lb z) fun fn hr => Ws<|E z (fb z) ?_
 rintro _ w6 ⟨rfl, h7⟩
 have h2 := h7.below
 have hg : Blk w6 w0.z [sl A0 N0 C0, sl A1 N1 C1, vI x1.log.stored] := h7.blk
 refine E z (fb z) ?_
 rintro _ wh ⟨rfl, h8⟩
 have h1 := h8.below
 have h9 : Blk wh w6.z [sl A6 N6 C6, sl AD ND CD, vI x2.log.stored] := h8.blk
 refine Ra z<|Wn<|Wq<|Ws<|R z (fd b_L z) ?_
 have ha := hg.e h1
 refine R z (lN (vs := [sl A0 N0 C0]) b_w a_Z z z fid<|ha.row 0 1 z)<|R z (fd b_L z)<|R z (lN (vs := [sl A6 N6 C6]) b_w a_Z z z fid<|h9.row 0 1 z) ?_
 have h3 := (h2.ag B).e h1
 have hb := lt_ h2.s h1.s
 obtain ⟨rk, ei, hmc⟩ := bdS hm
 refine E z (fc call39 z<|W_w44 (B := B) (x1 := (⟨x1.registry.versions⟩ : B_)) (x2 := (⟨x2.registry.versions⟩ : B_)) ei (zt' hBw hb) (p1_0.g h3)<|p2_0.g h3) ?_
 rintro _ wl ⟨s0, rfl⟩
 refine R z (not_ z)<|Wn<|Wc z (fun hc4 => ?_) (fun hc4 => ?_)
 ·refine Ws<|Ra z<|Wn ?_
  obtain rfl := som (ifT hmc hc4)
  exact Wr<|d_ hr z ⟨(bup (bup h2 h1) s0), z⟩
 refine Wk<|Wq<|Ws<|R z (fd b_a z)<|R z (lN (vs := [sl A1 N1 C1, vI x1.log.stored]) a_u a_2 z z fid<|(ha.e s0).row 1 2 z)<|R z (fd b_a z)<|R z (lN (vs := [sl AD ND CD, vI x2.log.stored]) a_u a_2 z z fid<|(h9.e s0).row 1 2 z) ?_
 have hd := h3.e s0
 obtain ⟨rm, ej, hme⟩ := bdS (ifF hmc hc4)
 refine E z (fc call40 z<|W_w45 (B := B) (x1 := (⟨x1.log.bytes, x1.log.stored⟩ : Log)) (x2 := (⟨x2.log.bytes, x2.log.stored⟩ : Log)) ej (zt' hBw<|lt_ hb s0.s) (p1_1.g hd) p1_2 (p2_1.g hd) p2_2) ?_
 rintro _ wn ⟨sf, rfl⟩
 refine R z (not_ z)<|Wn<|Wc z (fun hc5 => ?_) (fun hc5 => ?_)
 ·refine Ws<|Ra z<|Wn ?_
  obtain rfl := som (ifT hme hc5)
  exact Wr<|d_ hr z ⟨(bup (bup (bup h2 h1) s0) sf), z⟩
 refine Wk<|Ws<|Ra z<|Wn ?_
 obtain rfl := som (ifF hme hc5)
 exact Wr<|d_ hr z ⟨(bup (bup (bup h2 h1) s0) sf), z⟩
def Q28 (w0 : World) (B : Zone) (r : Str) (v : Value) (w' : World) : Prop := Bw w0 w' ∧ (fun r1 => (Str.v r1) = v ∧ r1.b.length ≤ LEN) r
theorem h_y {x1 : Int} {res : Str} (hm : c_T n x1 = some res) (hBw : B ≤ w0.z) (p1_0 : inI x1) : j_ prog 46 [vI x1] w0 (Q28 w0 B res) := by
 unfold c_T at hm
 refine goF func46 z z (lb z) fun fn hr => Ws<|Ra z<|Wn<|Wq<|Ws<|Rm z<|R z (c_I z z)<|Wn<|Wc z (fun hc1 => ?_) (fun hc1 => ?_)
 ·refine Ws<|Ra z<|Wn ?_
  obtain rfl := som (ifT hm hc1)
  exact Wr<|d_ hr z ⟨(br w0), z, (lb z)⟩
 refine Wk<|Ws<|Ra z<|Wn<|Wq ?_
 obtain ⟨uq, huc, hm5⟩ := bdS (ifF hm hc1)
 refine b_4 (σ := Int × Str) (ρ := Str) (fun s a w => un2 (fun x0 x2 => Sat 20 [(0, vI x0), (3, Str.v x2)] a ∧ Below w0.z w0 w ∧ inI x0 ∧ x2.b.length ≤ LEN) s) (fun s a w => un2 (fun x0 x2 => Sat 20 [(3, Str.v x2)] a ∧ Below w0.z w0 w ∧ inI x0 ∧ x2.b.length ≤ LEN) s) (fun r ex a w => ex = .ret ∧ v_ prog fn (Q28 w0 B r) a w) huc ?_ ?_ ?_ ?_
 ·exact fun _ q => ⟨(q.k<|s2 z z), (br w0), p1_0, (lb z)⟩
 ·rintro ⟨x0, x2⟩ ar wd os ⟨hSe, s6, h7, h8⟩ hmf
  have hm9 := a_h hmf
  refine Wu ?_ hSe
  refine Wq<|Ws<|Rm z<|R z (a_i z z)<|Wn<|Wc z (fun hc3 => ?_) (fun hc3 => ?_)
  ·refine Wk<|Wb<|Ws<|Rm z<|R z (f_C z z (by decide))<|R z (add_ z z)<|R z (b_f d_3 d_5 z)<|E z (fS [(.tmp 11)] C_ z z z (a_x z) (lb z)<|lb z) ?_
   rintro _ wg ⟨rfl, h4⟩
   have ht : Blk wg wd.z [(vU (byteI (mkB (e_ 48 (b_m x0 10)))))] := h4.blk
   refine R z (f_v i_ d_9 d_5 z_5 z<|a_.rep<|c_1 h4 a_T)<|Rm z ?_
   obtain ⟨xh, ea, hmi⟩ := bdS (ifT hm9 hc3)
   exact R z (l_u z z ea)<|Ra z<|Wn<|Wg<|Rm z<|R z (rd_quo z z (by decide))<|Ra z<|Wl (fun _ q => ⟨(d_r x0 10, xh), (som hmi).symm, ⟨(q.k<|s2 z z), (bup s6 h4.below), (o_B _ _), (l_p ea)⟩⟩)
  exact We (fun a' ha' => b_0 (som<|ifF hm9 hc3).symm ⟨(Sat.weaken ha'<|s1 z), s6, h7, h8⟩)
 ·rintro ⟨x0, x2⟩ aj wu rfl ⟨hSv, sk, h7, h8⟩
  have hml := elL hm5
  have hmm := a_h hml
  revert aj
  refine Wo<|Ws<|Rm z ?_
  obtain ⟨xw, eb, hmn⟩ := bdS hmm
  refine R z (l_u z z eb)<|Ra z<|Wn ?_
  obtain rfl := som hmn
  exact Wr<|d_ hr z ⟨sk, z, (l_p eb)⟩
 rintro rx exy az w10 rfl ⟨rfl, hqo⟩
 have hmp := elR hm5
 obtain rfl := som hmp
 exact ⟨hqo, z⟩
def Q29 (w0 : World) (B : Zone) (A0 : Option Addr) (N0 C0 : Nat) (S1_0 : List Nat) (r : Int × (List UInt8)) (v : Value) (w' : World) : Prop := Chg (· ∈ S1_0) w0 w' ∧ un2 (fun r1 r2 => ∃ S1, (vI r1) = v ∧ inI r1 ∧ a_ w' S1 (sl A0 N0 C0) r2 ∧ S1.Nodup ∧ (∀ k ∈ S1, k ∈ S1_0 ∨ w0.z ≤ k)) r
theorem W_w1q {x1 : List UInt8} {S1_0 : List Nat} {x2 : Int} {res : Int × (List UInt8)} (hm : e_Z n x1 x2 = some res) (hBw : B ≤ w0.z) (p1_0 : a_ w0 S1_0 (sl A0 N0 C0) x1) (p1_0n : S1_0.Nodup) (p1_0g : ∀ k ∈ S1_0, ¬ B k) (p2_0 : inI x2) : j_ prog 27 [sl A0 N0 C0, vI x2] w0 (Q29 w0 B A0 N0 C0 S1_0 res) := by
 unfold e_Z at hm
 refine goF func27 z z (lb z) fun fn hr => Ws<|Ra z<|Wn<|Wq<|Ws<|Ra z<|Wn ?_
 obtain ⟨u16, huh, hma⟩ := bdS hm
 refine b_4 (σ := (List UInt8) × Int × Int) (ρ := Int × (List UInt8)) (fun s a w => un3 (fun x5 x3 x4 => ∃  (S0 : List Nat), Sat 20 [(0, sl A0 N0 C0), (1, vI x3), (5, vI x4)] a ∧ Chg (· ∈ S1_0) w0 w ∧ a_ w S0 (sl A0 N0 C0) x5 ∧ S0.Nodup ∧ (∀ k ∈ S0, k ∈ S1_0 ∨ w0.z ≤ k) ∧ inI x3 ∧ inI x4) s) (fun s a w => un3 (fun x5 x3 x4 => ∃  (S0 : List Nat), Sat 20 [(0, sl A0 N0 C0), (1, vI x3)] a ∧ Chg (· ∈ S1_0) w0 w ∧ a_ w S0 (sl A0 N0 C0) x5 ∧ S0.Nodup ∧ (∀ k ∈ S0, k ∈ S1_0 ∨ w0.z ≤ k) ∧ inI x3 ∧ inI x4) s) (fun r ex a w => ex = .ret ∧ v_ prog fn (Q29 w0 B A0 N0 C0 S1_0 r) a w) huh ?_ ?_ ?_ ?_
 ·exact fun _ q => ⟨S1_0, (q.k<|s3 z z z), (cr S1_0 w0), p1_0, p1_0n, (io sr), p2_0, (ii z)⟩
 ·rintro ⟨x5, x3, x4⟩ a17 wb o18 ⟨S0, hSi, s7, h1, h2, h6, h8, hc⟩ hmj
  have hmd := c_m hmj
  refine Wu ?_ hSi
  refine Wq<|Ws<|Rm z<|Rm z<|R z (lnR i_ z<|a_.rep h1)<|R z (lss z z)<|Wn<|Wc z (fun hc9 => ?_) (fun hc9 => ?_)
  ·refine Wk<|Wq<|Wb<|Ws<|Rm z<|Rm z<|Rm z<|R z (b_f d_3 d_5 z) ?_
   obtain ⟨xk, ee, hml⟩ := bdS (ifT hmd hc9)
   refine RX z (d_1 (α := UInt8) i_ z_5 z z h1 ee) ?_
   rintro _ ⟨g19, hn, rfl⟩
   refine E0 (c_H (α := UInt8) z_5 z hn z z z ee h1 h2 a_T an_ R_) ?_
   rintro _ wm ⟨Sf, so, hp, hq, ht⟩
   refine Wn<|Wg<|Rm z<|R z (add_ z z)<|Ra z<|Wn<|Wg<|Rm z<|R z (add_ z z)<|Ra z<|Wl ?_
   have hg : ∀ k ∈ S0, k ∈ S1_0 ∨ w0.z ≤ k := or1 h6 (io sr) (n_ lr)
   have hu : ∀ k ∈ Sf, k ∈ S1_0 ∨ w0.z ≤ k := or2 ht hg an_ (n_ s7.s)
   have hv : Chg (· ∈ S1_0) w0 wb := cM (cr S1_0 w0) s7 (io sr)
   have hw : Chg (· ∈ S1_0) w0 wm := cM hv so hg
   exact fun _ q => ⟨(xk, e_ x3 1, e_ x4 1), (som hml).symm, ⟨Sf, (q.k<|s3 z z z), hw, hp, hq, hu, (iA _ _), (iA _ _)⟩⟩
  have hx : ∀ k ∈ S0, k ∈ S1_0 ∨ w0.z ≤ k := or1 h6 (io sr) (n_ lr)
  have hy : Chg (· ∈ S1_0) w0 wb := cM (cr S1_0 w0) s7 (io sr)
  exact We (fun a' ha' => b_0 (som<|ifF hmd hc9).symm ⟨S0, (Sat.weaken ha'<|s2 z z), hy, h1, h2, hx, h8, hc⟩)
 ·rintro ⟨x5, x3, x4⟩ ar ws rfl ⟨S0, hS1a, sz, h1, h2, h6, h8, hc⟩
  have hm10 := elL hma
  have hm11 := c_m hm10
  revert ar
  refine Wo<|Ws<|Rm z<|Ra z<|Wn ?_
  obtain rfl := som hm11
  have h12 : Chg (· ∈ S1_0) w0 ws := cM (cr S1_0 w0) sz (io sr)
  have h13 : ∀ k ∈ S0, k ∈ S1_0 ∨ w0.z ≤ k := or1 h6 (io sr) (n_ lr)
  exact Wr<|d_ hr z ⟨h12, S0, z, h8, h1, h2, h13⟩
 rintro r1b ex1c a1d w1e rfl ⟨rfl, hq14⟩
 have hm15 := elR hma
 obtain rfl := som hm15
 exact ⟨hq14, z⟩
def Q30 (w0 : World) (B : Zone) (A0 : Option Addr) (N0 C0 : Nat) (S1_0 : List Nat) (r : Int × (List Str)) (v : Value) (w' : World) : Prop := Chg (· ∈ S1_0) w0 w' ∧ un2 (fun r1 r2 => ∃ S1, (vI r1) = v ∧ inI r1 ∧ a_ w' S1 (sl A0 N0 C0) r2 ∧ S1.Nodup ∧ (∀ k ∈ S1, k ∈ S1_0 ∨ w0.z ≤ k)) r
theorem W_w46 {x1 : List Str} {S1_0 : List Nat} {x2 : Int} {res : Int × (List Str)} (hm : g_F n x1 x2 = some res) (hBw : B ≤ w0.z) (p1_0 : a_ w0 S1_0 (sl A0 N0 C0) x1) (p1_0n : S1_0.Nodup) (p1_0g : ∀ k ∈ S1_0, ¬ B k) (p2_0 : inI x2) : j_ prog 18 [sl A0 N0 C0, vI x2] w0 (Q30 w0 B A0 N0 C0 S1_0 res) := by
 unfold g_F at hm
 refine goF func18 z z (lb z) fun fn hr => Ws<|Ra z<|Wn<|Wq<|Ws<|Ra z<|Wn ?_
 obtain ⟨u1d, huj, hmb⟩ := bdS hm
 refine b_4 (σ := (List Str) × Int × Int) (ρ := Int × (List Str)) (fun s a w => un3 (fun x5 x3 x4 => ∃  (S0 : List Nat), Sat 20 [(0, sl A0 N0 C0), (1, vI x3), (5, vI x4)] a ∧ Chg (· ∈ S1_0) w0 w ∧ a_ w S0 (sl A0 N0 C0) x5 ∧ S0.Nodup ∧ (∀ k ∈ S0, k ∈ S1_0 ∨ w0.z ≤ k) ∧ inI x3 ∧ inI x4) s) (fun s a w => un3 (fun x5 x3 x4 => ∃  (S0 : List Nat), Sat 20 [(0, sl A0 N0 C0), (1, vI x3)] a ∧ Chg (· ∈ S1_0) w0 w ∧ a_ w S0 (sl A0 N0 C0) x5 ∧ S0.Nodup ∧ (∀ k ∈ S0, k ∈ S1_0 ∨ w0.z ≤ k) ∧ inI x3 ∧ inI x4) s) (fun r ex a w => ex = .ret ∧ v_ prog fn (Q30 w0 B A0 N0 C0 S1_0 r) a w) huj ?_ ?_ ?_ ?_
 ·exact fun _ q => ⟨S1_0, (q.k<|s3 z z z), (cr S1_0 w0), p1_0, p1_0n, (io sr), p2_0, (ii z)⟩
 ·rintro ⟨x5, x3, x4⟩ a1e wc o1f ⟨S0, hSk, s6, h1, h2, h7, h8, hd⟩ hml
  have hme := c_m hml
  refine Wu ?_ hSk
  refine Wq<|Ws<|Rm z<|Rm z<|R z (lnR a_8 z<|a_.rep h1)<|R z (lss z z)<|Wn<|Wc z (fun hc9 => ?_) (fun hc9 => ?_)
  ·refine Wk<|Wq<|Wb<|Ws<|Rm z<|Rm z<|Rm z ?_
   obtain ⟨r1g, em, hmn⟩ := bdS (ifT hme hc9)
   refine E z (fc call46 z<|h_y (B := B) em (zt' hBw s6.s) h8) ?_
   rintro _ wo ⟨sa, rfl, hp⟩
   obtain ⟨xq, ef, hmr⟩ := bdS hmn
   have hg := h1.e sa
   refine RX z (d_1 (α := Str) a_8 z_9 z z hg ef) ?_
   rintro _ ⟨g1h, ht, rfl⟩
   refine E0 (c_H (α := Str) z_9 z ht z z z ef hg h2 (f_s hp) an_ R_) ?_
   rintro _ ws ⟨Sh, su, hv, hw, hx⟩
   refine Wn<|Wg<|Rm z<|R z (add_ z z)<|Ra z<|Wn<|Wg<|Rm z<|R z (add_ z z)<|Ra z<|Wl ?_
   have hi : ∀ k ∈ S0, k ∈ S1_0 ∨ w0.z ≤ k := or1 h7 (io sr) (n_ lr)
   have hy : ∀ k ∈ Sh, k ∈ S1_0 ∨ w0.z ≤ k := or2 hx hi an_ (n_ (lt_ s6.s sa.s))
   have hz : Chg (· ∈ S1_0) w0 wc := cM (cr S1_0 w0) s6 (io sr)
   have h10 : Chg (· ∈ S1_0) w0 wo := E_ hz sa
   have h11 : Chg (· ∈ S1_0) w0 ws := cM h10 su hi
   exact fun _ q => ⟨(xq, e_ x3 1, e_ x4 1), (som hmr).symm, ⟨Sh, (q.k<|s3 z z z), h11, hv, hw, hy, (iA _ _), (iA _ _)⟩⟩
  have h12 : ∀ k ∈ S0, k ∈ S1_0 ∨ w0.z ≤ k := or1 h7 (io sr) (n_ lr)
  have h13 : Chg (· ∈ S1_0) w0 wc := cM (cr S1_0 w0) s6 (io sr)
  exact We (fun a' ha' => b_0 (som<|ifF hme hc9).symm ⟨S0, (Sat.weaken ha'<|s2 z z), h13, h1, h2, h12, h8, hd⟩)
 ·rintro ⟨x5, x3, x4⟩ a14 w15 rfl ⟨S0, hS1i, s16, h1, h2, h7, h8, hd⟩
  have hm17 := elL hmb
  have hm18 := c_m hm17
  revert a14
  refine Wo<|Ws<|Rm z<|Ra z<|Wn ?_
  obtain rfl := som hm18
  have h19 : Chg (· ∈ S1_0) w0 w15 := cM (cr S1_0 w0) s16 (io sr)
  have h1a : ∀ k ∈ S0, k ∈ S1_0 ∨ w0.z ≤ k := or1 h7 (io sr) (n_ lr)
  exact Wr<|d_ hr z ⟨h19, S0, z, h8, h1, h2, h1a⟩
 rintro r1j ex1k a1l w1m rfl ⟨rfl, hq1b⟩
 have hm1c := elR hmb
 obtain rfl := som hm1c
 exact ⟨hq1b, z⟩
def Q31 (w0 : World) (B : Zone) (A0 : Option Addr) (N0 C0 : Nat) (S1_0 : List Nat) (r : Int × (List Int)) (v : Value) (w' : World) : Prop := Chg (· ∈ S1_0) w0 w' ∧ un2 (fun r1 r2 => ∃ S1, (vI r1) = v ∧ inI r1 ∧ a_ w' S1 (sl A0 N0 C0) r2 ∧ S1.Nodup ∧ (∀ k ∈ S1, k ∈ S1_0 ∨ w0.z ≤ k)) r
theorem W_w1r {x1 : List Int} {S1_0 : List Nat} {x2 : Int} {res : Int × (List Int)} (hm : f_0 n x1 x2 = some res) (hBw : B ≤ w0.z) (p1_0 : a_ w0 S1_0 (sl A0 N0 C0) x1) (p1_0n : S1_0.Nodup) (p1_0g : ∀ k ∈ S1_0, ¬ B k) (p2_0 : inI x2) : j_ prog 132 [sl A0 N0 C0, vI x2] w0 (Q31 w0 B A0 N0 C0 S1_0 res) := by
 unfold f_0 at hm
 refine goF func132 z z (lb z) fun fn hr => Ws<|Ra z<|Wn<|Wq<|Ws<|Ra z<|Wn ?_
 obtain ⟨u16, huh, hma⟩ := bdS hm
 refine b_4 (σ := (List Int) × Int × Int) (ρ := Int × (List Int)) (fun s a w => un3 (fun x5 x3 x4 => ∃  (S0 : List Nat), Sat 19 [(0, sl A0 N0 C0), (1, vI x3), (5, vI x4)] a ∧ Chg (· ∈ S1_0) w0 w ∧ a_ w S0 (sl A0 N0 C0) x5 ∧ S0.Nodup ∧ (∀ k ∈ S0, k ∈ S1_0 ∨ w0.z ≤ k) ∧ inI x3 ∧ inI x4) s) (fun s a w => un3 (fun x5 x3 x4 => ∃  (S0 : List Nat), Sat 19 [(0, sl A0 N0 C0), (1, vI x3)] a ∧ Chg (· ∈ S1_0) w0 w ∧ a_ w S0 (sl A0 N0 C0) x5 ∧ S0.Nodup ∧ (∀ k ∈ S0, k ∈ S1_0 ∨ w0.z ≤ k) ∧ inI x3 ∧ inI x4) s) (fun r ex a w => ex = .ret ∧ v_ prog fn (Q31 w0 B A0 N0 C0 S1_0 r) a w) huh ?_ ?_ ?_ ?_
 ·exact fun _ q => ⟨S1_0, (q.k<|s3 z z z), (cr S1_0 w0), p1_0, p1_0n, (io sr), p2_0, (ii z)⟩
 ·rintro ⟨x5, x3, x4⟩ a17 wb o18 ⟨S0, hSi, s8, h1, h2, h6, h7, hc⟩ hmj
  have hmd := c_m hmj
  refine Wu ?_ hSi
  refine Wq<|Ws<|Rm z<|Rm z<|R z (lnR F_ z<|a_.rep h1)<|R z (lss z z)<|Wn<|Wc z (fun hc9 => ?_) (fun hc9 => ?_)
  ·refine Wk<|Wq<|Wb<|Ws<|Rm z<|Rm z<|Rm z ?_
   obtain ⟨xk, ee, hml⟩ := bdS (ifT hmd hc9)
   refine RX z (d_1 (α := Int) F_ z_3 z z h1 ee) ?_
   rintro _ ⟨g19, hn, rfl⟩
   refine E0 (c_H (α := Int) z_3 z hn z z z ee h1 h2 (c_F h7) an_ R_) ?_
   rintro _ wm ⟨Sf, so, hp, hq, ht⟩
   refine Wn<|Wg<|Rm z<|R z (add_ z z)<|Ra z<|Wn<|Wg<|Rm z<|R z (add_ z z)<|Ra z<|Wl ?_
   have hg : ∀ k ∈ S0, k ∈ S1_0 ∨ w0.z ≤ k := or1 h6 (io sr) (n_ lr)
   have hu : ∀ k ∈ Sf, k ∈ S1_0 ∨ w0.z ≤ k := or2 ht hg an_ (n_ s8.s)
   have hv : Chg (· ∈ S1_0) w0 wb := cM (cr S1_0 w0) s8 (io sr)
   have hw : Chg (· ∈ S1_0) w0 wm := cM hv so hg
   exact fun _ q => ⟨(xk, e_ x3 1, e_ x4 1), (som hml).symm, ⟨Sf, (q.k<|s3 z z z), hw, hp, hq, hu, (iA _ _), (iA _ _)⟩⟩
  have hx : ∀ k ∈ S0, k ∈ S1_0 ∨ w0.z ≤ k := or1 h6 (io sr) (n_ lr)
  have hy : Chg (· ∈ S1_0) w0 wb := cM (cr S1_0 w0) s8 (io sr)
  exact We (fun a' ha' => b_0 (som<|ifF hmd hc9).symm ⟨S0, (Sat.weaken ha'<|s2 z z), hy, h1, h2, hx, h7, hc⟩)
 ·rintro ⟨x5, x3, x4⟩ ar ws rfl ⟨S0, hS1a, sz, h1, h2, h6, h7, hc⟩
  have hm10 := elL hma
  have hm11 := c_m hm10
  revert ar
  refine Wo<|Ws<|Rm z<|Ra z<|Wn ?_
  obtain rfl := som hm11
  have h12 : Chg (· ∈ S1_0) w0 ws := cM (cr S1_0 w0) sz (io sr)
  have h13 : ∀ k ∈ S0, k ∈ S1_0 ∨ w0.z ≤ k := or1 h6 (io sr) (n_ lr)
  exact Wr<|d_ hr z ⟨h12, S0, z, h7, h1, h2, h13⟩
 rintro r1b ex1c a1d w1e rfl ⟨rfl, hq14⟩
 have hm15 := elR hma
 obtain rfl := som hm15
 exact ⟨hq14, z⟩
def Q32 (w0 : World) (B : Zone) (A0 : Option Addr) (N0 C0 : Nat) (S1_0 : List Nat) (r : Int × (List c_)) (v : Value) (w' : World) : Prop := Chg (· ∈ S1_0) w0 w' ∧ un2 (fun r1 r2 => ∃ S1, (vI r1) = v ∧ inI r1 ∧ a_ w' S1 (sl A0 N0 C0) r2 ∧ S1.Nodup ∧ (∀ k ∈ S1, k ∈ S1_0 ∨ w0.z ≤ k)) r
theorem W_w47 {x1 : List c_} {S1_0 : List Nat} {x2 : Int} {res : Int × (List c_)} (hm : g_G n x1 x2 = some res) (hBw : B ≤ w0.z) (p1_0 : a_ w0 S1_0 (sl A0 N0 C0) x1) (p1_0n : S1_0.Nodup) (p1_0g : ∀ k ∈ S1_0, ¬ B k) (p2_0 : inI x2) : j_ prog 104 [sl A0 N0 C0, vI x2] w0 (Q32 w0 B A0 N0 C0 S1_0 res) := by
 unfold g_G at hm
 refine goF func104 z z (lb z) fun fn hr => Ws<|Ra z<|Wn<|Wq<|Ws<|Ra z<|Wn ?_
 obtain ⟨u7o, hu3u, hm1q⟩ := bdS hm
 refine b_4 (σ := (List c_) × Int × Int) (ρ := Int × (List c_)) (fun s a w => un3 (fun xi xa x9 => ∃  (S0 : List Nat), Sat 72 [(0, sl A0 N0 C0), (1, vI xa), (5, vI x9)] a ∧ Chg (· ∈ S1_0) w0 w ∧ a_ w S0 (sl A0 N0 C0) xi ∧ S0.Nodup ∧ (∀ k ∈ S0, k ∈ S1_0 ∨ w0.z ≤ k) ∧ inI xa ∧ inI x9) s) (fun s a w => un3 (fun xi xa x9 => ∃  (S0 : List Nat), Sat 72 [(0, sl A0 N0 C0), (1, vI xa)] a ∧ Chg (· ∈ S1_0) w0 w ∧ a_ w S0 (sl A0 N0 C0) xi ∧ S0.Nodup ∧ (∀ k ∈ S0, k ∈ S1_0 ∨ w0.z ≤ k) ∧ inI xa ∧ inI x9) s) (fun r ex a w => ex = .ret ∧ v_ prog fn (Q32 w0 B A0 N0 C0 S1_0 r) a w) hu3u ?_ ?_ ?_ ?_
 ·exact fun _ q => ⟨S1_0, (q.k<|s3 z z z), (cr S1_0 w0), p1_0, p1_0n, (io sr), p2_0, (ii z)⟩
 ·rintro ⟨xi, xa, x9⟩ a7p w1r o7q ⟨S0, hS3v, st, hj, hu, hl, hv, h1s⟩ hm3w
  have hm1t := c_m hm3w
  refine Wu ?_ hS3v
  refine Wq<|Ws<|Rm z<|Rm z<|R z (lnR J_ z<|a_.rep hj)<|R z (lss z z)<|Wn<|Wc z (fun hc1g => ?_) (fun hc1g => ?_)
  ·refine Wk<|Wq<|Wb<|Ws<|Rm z<|Rm z<|Rm z ?_
   obtain ⟨r3x, e3y, hm3z⟩ := bdS (ifT hm1t hc1g)
   refine E z (fc call46 z<|h_y (B := B) e3y (zt' hBw st.s) hv) ?_
   rintro _ w40 ⟨s1h, rfl, h41⟩
   obtain ⟨xb, e1u, hm42⟩ := bdS hm3z
   have h1v := hj.e s1h
   refine RX z (d_7 (α := c_) J_ q_ z z h1v e1u) ?_
   rintro _ ⟨g7r, h43, rfl⟩
   refine R z (fd c_g z) ?_
   obtain ⟨x7s, e44, hm45⟩ := bdS hm42
   refine E0 (h_H (α := c_) (v' := (⟨r3x, xb.kind, xb.size, xb.little, xb.bytes, xb.names, xb.tags, xb.kids⟩ : c_)) z_9 z h43 z z z z e1u e44 h1v hu (lb z) (fun _ _ _ h => o_n h h41)) ?_
   rintro _ w46 ⟨S1w, s1x, h1y, h47, h1z⟩
   refine Wn<|Ws<|Rm z<|R z (add_ z z)<|Ra z<|Wn<|Ws<|Rm z<|Rm z<|Rm z ?_
   obtain ⟨xc, e20, hm48⟩ := bdS hm45
   refine RX z (d_7 (α := c_) J_ q_ z z h1y e20) ?_
   rintro _ ⟨g7t, h49, rfl⟩
   refine R z (fd b_y z) ?_
   obtain ⟨x7u, e4a, hm4b⟩ := bdS hm48
   refine E0 (h_H (α := c_) (v' := (⟨xc.name, e_ xa 1, xc.size, xc.little, xc.bytes, xc.names, xc.tags, xc.kids⟩ : c_)) z_3 z h49 z z z z e20 e4a h1y h47 (lb z) (fun _ _ _ h => o_o h<|iA _ _)) ?_
   rintro _ w4c ⟨S21, s22, h23, h4d, h24⟩
   refine Wn<|Ws<|Rm z<|R z (add_ z z)<|Ra z<|Wn<|Ws<|Rm z<|Rm z<|Rm z ?_
   obtain ⟨xd, e25, hm4e⟩ := bdS hm4b
   refine RX z (d_7 (α := c_) J_ q_ z z h23 e25) ?_
   rintro _ ⟨g7v, h4f, rfl⟩
   refine R z (fd a_O z) ?_
   obtain ⟨x7w, e4g, hm4h⟩ := bdS hm4e
   refine E0 (h_H (α := c_) (v' := (⟨xd.name, xd.kind, e_ (e_ xa 1) 1, xd.little, xd.bytes, xd.names, xd.tags, xd.kids⟩ : c_)) z_3 z h4f z z z z e25 e4g h23 h4d (lb z) (fun _ _ _ h => o_p h<|iA _ _)) ?_
   rintro _ w4i ⟨S26, s27, h28, h4j, h29⟩
   refine Wn<|Ws<|Rm z<|R z (add_ z z)<|Ra z<|Wn<|Ws<|Rm z<|Rm z<|Rm z<|R z (f_C z z (by decide))<|R z (eql z z) ?_
   obtain ⟨xe, e2a, hm4k⟩ := bdS hm4h
   refine RX z (d_7 (α := c_) J_ q_ z z h28 e2a) ?_
   rintro _ ⟨g7x, h4l, rfl⟩
   refine R z (fd c_h z) ?_
   obtain ⟨x4m, e4n, hm4o⟩ := bdS hm4k
   refine E0 (h_H (α := c_) (v' := (⟨xe.name, xe.kind, xe.size, (b_m (e_ (e_ (e_ xa 1) 1) 1) 3) == 0, xe.bytes, xe.names, xe.tags, xe.kids⟩ : c_)) z_4 z h4l z z z z e2a e4n h28 h4j (lb z) (fun _ _ _ h => o_q h)) ?_
   rintro _ ww ⟨S2b, s2c, h2d, h4p, h2e⟩
   refine Wn<|Ws<|Rm z<|R z (add_ z z)<|Ra z<|Wn<|Ws<|Rm z<|Rm z ?_
   obtain ⟨x3, e2f, hm4q⟩ := bdS hm4o
   refine RX z (d_7 (α := c_) J_ q_ z z h2d e2f) ?_
   rintro _ ⟨g7y, h4r, rfl⟩
   obtain ⟨cs7z, S80, h4s, h4t, h1, h2g, h81, h4u⟩ := f_y h4r h2d h4p e2f
   obtain ⟨a82, n83, c84, a85, n86, c87, a88, n89, c8a, a8b, n8c, c8d, Sk, Sx, Sy, Sz, rfl, rfl, h4v, h4w, h4x, h4y, h2h, h2i, h2j⟩ := d_p h4t
   refine R z (fd a_N z)<|R z (l1 I_ z fid<|h4s.at (j := 4) z)<|Rm z ?_
   have h1i := lt_ st.s s1h.s
   have h1j := lt_ h1i s1x.s
   have h1k := lt_ h1j s22.s
   have h1l := lt_ h1k s27.s
   have h10 := lt_ h1l s2c.s
   have h1m := zt' hBw h10
   have h4z : ∀ k ∈ S0, ¬ B k := or1 hl p1_0g (p_ hBw)
   have h50 : ∀ k ∈ S1w, ¬ B k := or1 h1z h4z (p_ (zt' hBw h1i))
   have h51 : ∀ k ∈ S21, ¬ B k := or1 h24 h50 (p_ (zt' hBw h1j))
   have h52 : ∀ k ∈ S26, ¬ B k := or1 h29 h51 (p_ (zt' hBw h1k))
   have h2k : ∀ k ∈ S2b, ¬ B k := or1 h2e h52 (p_ (zt' hBw h1l))
   have h53 : ∀ k ∈ Sk, ¬ B k := or1 (fun k hk => .inl (h2g k (List.mem_append_left _ hk))) h2k (p_ h1m)
   obtain ⟨r8e, r2l, e54, hm55⟩ := a_w hm4q
   refine E z (fc call27 z<|W_w1q (B := B) e54 h1m h4y (nl_ h1) h53<|iA _ _) ?_
   rintro _ wm ⟨sf, S2m, rfl, h56, h57, h58, h11⟩
   have h59 : Chg (· ∈ (Sk ++ (Sx ++ (Sy ++ Sz)))) ww wm := cM (cr (Sk ++ (Sx ++ (Sy ++ Sz))) ww) sf (io (a_K sr))
   have h5a : ∀ k ∈ S2m, k ∈ (Sk ++ (Sx ++ (Sy ++ Sz))) ∨ ww.z ≤ k := or1 h11 (io (a_K sr)) (n_ lr)
   obtain ⟨S2n, h2o, h5b, h2p⟩ := h4u _ _ _ h59 (c_0 (x := (⟨x3.name, x3.kind, x3.size, x3.little, r2l, x3.names, x3.tags, x3.kids⟩ : c_)) (S1 := S2m) (S2 := Sx) (S3 := Sy) (S4 := Sz) h4v h4w h4x h57 (h2h.c sf (ds (nmL (nj h1)))) (h2i.c sf (ds (nmL (nmR (nj h1))))) (h2j.c sf (ds (nmR (nmR (nj h1)))))) (na_ h58 (na_ (nl_ (nr_ h1)) (na_ (nl_ (nr_ (nr_ h1))) (nr_ (nr_ (nr_ h1))) (nj (nr_ (nr_ h1)))) (nmA (nmL (nj (nr_ h1))) (nmR (nj (nr_ h1))))) (nmA (a_H h11 (nmL (nj h1)) (a_.lt h2h) lr) (nmA (a_H h11 (nmL (nmR (nj h1))) (a_.lt h2i) lr) (a_H h11 (nmR (nmR (nj h1))) (a_.lt h2j) lr)))) (aa_ h5a (aa_ (io (a_3 (a_K sr))) (aa_ (io (a_3 (a_3 (a_K sr)))) (io (a_3 (a_3 (a_3 sr)))))))
   refine Ra z<|Wn<|Ws<|Rm z<|Rm z ?_
   obtain ⟨x4, e2q, hm5c⟩ := bdS hm55
   refine RX z (d_7 (α := c_) J_ q_ z z h2o e2q) ?_
   rintro _ ⟨g8f, h5d, rfl⟩
   obtain ⟨cs8g, S8h, h5e, h5f, h2, h2r, h8i, h5g⟩ := f_y h5d h2o h5b e2q
   obtain ⟨a8j, n8k, c8l, a8m, n8n, c8o, a8p, n8q, c8r, a8s, n8t, c8u, S12, Sn, S13, S14, rfl, rfl, h5h, h5i, h5j, h2s, h5k, h2t, h2u⟩ := d_p h5f
   refine R z (fd b_p z)<|R z (l1 b_x z fid<|h5e.at (j := 5) z)<|Rm z ?_
   have h15 := lt_ h10 sf.s
   have h1n := zt' hBw h15
   have h2v : ∀ k ∈ S2n, ¬ B k := or1 h2p h2k (p_ h1m)
   have h5l : ∀ k ∈ Sn, ¬ B k := or1 (fun k hk => .inl ((fun k hk => h2r k (List.mem_append_right _ hk)) k (List.mem_append_left _ hk))) h2v (p_ h1n)
   obtain ⟨r8v, r2w, e5m, hm5n⟩ := a_w hm5c
   refine E z (fc call18 z<|W_w46 (B := B) e5m h1n h5k (nl_<|nr_ h2) h5l h56) ?_
   rintro _ wo ⟨sg, S2x, rfl, h5o, h5p, h5q, h16⟩
   have h5r : Chg (· ∈ (S12 ++ (Sn ++ (S13 ++ S14)))) wm wo := cM (cr (S12 ++ (Sn ++ (S13 ++ S14))) wm) sg (io (a_3 (a_K sr)))
   have h5s : ∀ k ∈ S2x, k ∈ (S12 ++ (Sn ++ (S13 ++ S14))) ∨ wm.z ≤ k := or1 h16 (io (a_3 (a_K sr))) (n_ lr)
   obtain ⟨S2y, h2z, h5t, h30⟩ := h5g _ _ _ h5r (c_0 (x := (⟨x4.name, x4.kind, x4.size, x4.little, x4.bytes, r2w, x4.tags, x4.kids⟩ : c_)) (S1 := S12) (S2 := S2x) (S3 := S13) (S4 := S14) h5h h5i h5j (h2s.c sg (nmL (nj h2))) h5p (h2t.c sg (ds (nmL (nj (nr_ h2))))) (h2u.c sg (ds (nmR (nj (nr_ h2)))))) (na_ (nl_ h2) (na_ h5q (na_ (nl_ (nr_ (nr_ h2))) (nr_ (nr_ (nr_ h2))) (nj (nr_ (nr_ h2)))) (nmA (a_H h16 (nmL (nj (nr_ h2))) (a_.lt h2t) lr) (a_H h16 (nmR (nj (nr_ h2))) (a_.lt h2u) lr))) (nmA (ds (a_H h16 (ds (nmL (nj h2))) (a_.lt h2s) lr)) (nmA (nmL (nmR (nj h2))) (nmR (nmR (nj h2)))))) (aa_ (io (a_K sr)) (aa_ h5s (aa_ (io (a_3 (a_3 (a_K sr)))) (io (a_3 (a_3 (a_3 sr)))))))
   refine Ra z<|Wn<|Ws<|Rm z<|Rm z ?_
   obtain ⟨x5, e31, hm5u⟩ := bdS hm5n
   refine RX z (d_7 (α := c_) J_ q_ z z h2z e31) ?_
   rintro _ ⟨g8w, h5v, rfl⟩
   obtain ⟨cs8x, S8y, h5w, h5x, h7, h32, h8z, h5y⟩ := f_y h5v h2z h5t e31
   obtain ⟨a90, n91, c92, a93, n94, c95, a96, n97, c98, a99, n9a, c9b, S17, S18, Sp, S19, rfl, rfl, h5z, h60, h61, h33, h34, h62, h35⟩ := d_p h5x
   refine R z (fd a_J z)<|R z (l1 H_ z fid<|h5w.at (j := 6) z)<|Rm z ?_
   have h1a := lt_ h15 sg.s
   have h1o := zt' hBw h1a
   have h36 : ∀ k ∈ S2y, ¬ B k := or1 h30 h2v (p_ h1n)
   have h63 : ∀ k ∈ Sp, ¬ B k := or1 (fun k hk => .inl ((fun k hk => (fun k hk => h32 k (List.mem_append_right _ hk)) k (List.mem_append_right _ hk)) k (List.mem_append_left _ hk))) h36 (p_ h1o)
   obtain ⟨r9c, r37, e64, hm65⟩ := a_w hm5u
   refine E z (fc call132 z<|W_w1r (B := B) e64 h1o h62 (nl_<|nr_<|nr_ h7) h63 h5o) ?_
   rintro _ wq ⟨sh, S38, rfl, h66, h67, h68, h1b⟩
   have h69 : Chg (· ∈ (S17 ++ (S18 ++ (Sp ++ S19)))) wo wq := cM (cr (S17 ++ (S18 ++ (Sp ++ S19))) wo) sh (io (a_3 (a_3 (a_K sr))))
   have h6a : ∀ k ∈ S38, k ∈ (S17 ++ (S18 ++ (Sp ++ S19))) ∨ wo.z ≤ k := or1 h1b (io (a_3 (a_3 (a_K sr)))) (n_ lr)
   obtain ⟨S39, h3a, h6b, h3b⟩ := h5y _ _ _ h69 (c_0 (x := (⟨x5.name, x5.kind, x5.size, x5.little, x5.bytes, x5.names, r37, x5.kids⟩ : c_)) (S1 := S17) (S2 := S18) (S3 := S38) (S4 := S19) h5z h60 h61 (h33.c sh (nmL (nmR (nj h7)))) (h34.c sh (nmL (nj (nr_ h7)))) h67 (h35.c sh (ds (nj (nr_ (nr_ h7)))))) (na_ (nl_ h7) (na_ (nl_ (nr_ h7)) (na_ h68 (nr_ (nr_ (nr_ h7))) (a_H h1b (nj (nr_ (nr_ h7))) (a_.lt h35) lr)) (nmA (ds (a_H h1b (ds (nmL (nj (nr_ h7)))) (a_.lt h34) lr)) (nmR (nj (nr_ h7))))) (nmA (nmL (nj h7)) (nmA (ds (a_H h1b (ds (nmL (nmR (nj h7)))) (a_.lt h33) lr)) (nmR (nmR (nj h7)))))) (aa_ (io (a_K sr)) (aa_ (io (a_3 (a_K sr))) (aa_ h6a (io (a_3 (a_3 (a_3 sr)))))))
   refine Ra z<|Wn<|Wg<|Rm z<|Rm z ?_
   obtain ⟨x6, e3c, hm6c⟩ := bdS hm65
   refine RX z (d_7 (α := c_) J_ q_ z z h3a e3c) ?_
   rintro _ ⟨g9d, h6d, rfl⟩
   obtain ⟨cs9e, S9f, h6e, h6f, h8, h3d, h9g, h6g⟩ := f_y h6d h3a h6b e3c
   obtain ⟨a9h, n9i, c9j, a9k, n9l, c9m, a9n, n9o, c9p, a9q, n9r, c9s, S1c, S1d, S1e, Sr, rfl, rfl, h6h, h6i, h6j, h3e, h3f, h3g, h6k⟩ := d_p h6f
   refine R z (fd a_5 z)<|R z (l1 H_ z fid<|h6e.at (j := 7) z)<|Rm z ?_
   have h1p := lt_ h1a sh.s
   have h3h := zt' hBw h1p
   have h6l : ∀ k ∈ S39, ¬ B k := or1 h3b h36 (p_ h1o)
   have h6m : ∀ k ∈ Sr, ¬ B k := or1 (fun k hk => .inl ((fun k hk => (fun k hk => (fun k hk => h3d k (List.mem_append_right _ hk)) k (List.mem_append_right _ hk)) k (List.mem_append_right _ hk)) k hk)) h6l (p_ h3h)
   obtain ⟨r6n, r3i, e6o, hm6p⟩ := a_w hm6c
   refine E z (fc call132 z<|W_w1r (B := B) e6o h3h h6k (nr_<|nr_<|nr_ h8) h6m h66) ?_
   rintro _ w3j ⟨ss, S3k, rfl, h6q, h6r, h6s, h1f⟩
   have h6t : Chg (· ∈ (S1c ++ (S1d ++ (S1e ++ Sr)))) wq w3j := cM (cr (S1c ++ (S1d ++ (S1e ++ Sr))) wq) ss (io (a_3 (a_3 (a_3 sr))))
   have h6u : ∀ k ∈ S3k, k ∈ (S1c ++ (S1d ++ (S1e ++ Sr))) ∨ wq.z ≤ k := or1 h1f (io (a_3 (a_3 (a_3 sr)))) (n_ lr)
   obtain ⟨S3l, h6v, h6w, h6x⟩ := h6g _ _ _ h6t (c_0 (x := (⟨x6.name, x6.kind, x6.size, x6.little, x6.bytes, x6.names, x6.tags, r3i⟩ : c_)) (S1 := S1c) (S2 := S1d) (S3 := S1e) (S4 := S3k) h6h h6i h6j (h3e.c ss (nmR (nmR (nj h8)))) (h3f.c ss (nmR (nj (nr_ h8)))) (h3g.c ss (nj (nr_ (nr_ h8)))) h6r) (na_ (nl_ h8) (na_ (nl_ (nr_ h8)) (na_ (nl_ (nr_ (nr_ h8))) h6s (ds (a_H h1f (ds (nj (nr_ (nr_ h8)))) (a_.lt h3g) lr))) (nmA (nmL (nj (nr_ h8))) (ds (a_H h1f (ds (nmR (nj (nr_ h8)))) (a_.lt h3f) lr)))) (nmA (nmL (nj h8)) (nmA (nmL (nmR (nj h8))) (ds (a_H h1f (ds (nmR (nmR (nj h8)))) (a_.lt h3e) lr))))) (aa_ (io (a_K sr)) (aa_ (io (a_3 (a_K sr))) (aa_ (io (a_3 (a_3 (a_K sr)))) h6u)))
   refine Ra z<|Wn<|Wg<|Rm z<|R z (add_ z z)<|Ra z<|Wl ?_
   have h3m : ∀ k ∈ S0, k ∈ S1_0 ∨ w0.z ≤ k := or1 hl (io sr) (n_ lr)
   have h3n : ∀ k ∈ S1w, k ∈ S1_0 ∨ w0.z ≤ k := or1 h1z h3m (n_ h1i)
   have h3o : ∀ k ∈ S21, k ∈ S1_0 ∨ w0.z ≤ k := or1 h24 h3n (n_ h1j)
   have h3p : ∀ k ∈ S26, k ∈ S1_0 ∨ w0.z ≤ k := or1 h29 h3o (n_ h1k)
   have h3q : ∀ k ∈ S2b, k ∈ S1_0 ∨ w0.z ≤ k := or1 h2e h3p (n_ h1l)
   have h3r : ∀ k ∈ S2n, k ∈ S1_0 ∨ w0.z ≤ k := or1 h2p h3q (n_ h10)
   have h3s : ∀ k ∈ S2y, k ∈ S1_0 ∨ w0.z ≤ k := or1 h30 h3r (n_ h15)
   have h3t : ∀ k ∈ S39, k ∈ S1_0 ∨ w0.z ≤ k := or1 h3b h3s (n_ h1a)
   have h6y : ∀ k ∈ S3l, k ∈ S1_0 ∨ w0.z ≤ k := or1 h6x h3t (n_ h1p)
   have h6z : Chg (· ∈ S1_0) w0 w1r := cM (cr S1_0 w0) st (io sr)
   have h70 : Chg (· ∈ S1_0) w0 w40 := E_ h6z s1h
   have h71 : Chg (· ∈ S1_0) w0 w46 := cM h70 s1x h3m
   have h72 : Chg (· ∈ S1_0) w0 w4c := cM h71 s22 h3n
   have h73 : Chg (· ∈ S1_0) w0 w4i := cM h72 s27 h3o
   have h74 : Chg (· ∈ S1_0) w0 ww := cM h73 s2c h3p
   have h75 : ∀ k ∈ Sk, k ∈ S1_0 ∨ w0.z ≤ k := or1 (fun k hk => .inl (h2g k (List.mem_append_left _ hk))) h3q (n_ h10)
   have h76 : Chg (· ∈ S1_0) w0 wm := cM h74 sf h75
   have h77 : ∀ k ∈ Sn, k ∈ S1_0 ∨ w0.z ≤ k := or1 (fun k hk => .inl ((fun k hk => h2r k (List.mem_append_right _ hk)) k (List.mem_append_left _ hk))) h3r (n_ h15)
   have h78 : Chg (· ∈ S1_0) w0 wo := cM h76 sg h77
   have h79 : ∀ k ∈ Sp, k ∈ S1_0 ∨ w0.z ≤ k := or1 (fun k hk => .inl ((fun k hk => (fun k hk => h32 k (List.mem_append_right _ hk)) k (List.mem_append_right _ hk)) k (List.mem_append_left _ hk))) h3s (n_ h1a)
   have h7a : Chg (· ∈ S1_0) w0 wq := cM h78 sh h79
   have h7b : ∀ k ∈ Sr, k ∈ S1_0 ∨ w0.z ≤ k := or1 (fun k hk => .inl ((fun k hk => (fun k hk => (fun k hk => h3d k (List.mem_append_right _ hk)) k (List.mem_append_right _ hk)) k (List.mem_append_right _ hk)) k hk)) h3t (n_ h1p)
   have h7c : Chg (· ∈ S1_0) w0 w3j := cM h7a ss h7b
   exact fun _ q => ⟨(((((x4m.set (x9).toNat (⟨x3.name, x3.kind, x3.size, x3.little, r2l, x3.names, x3.tags, x3.kids⟩ : c_)).set (x9).toNat (⟨x4.name, x4.kind, x4.size, x4.little, x4.bytes, r2w, x4.tags, x4.kids⟩ : c_)).set (x9).toNat (⟨x5.name, x5.kind, x5.size, x5.little, x5.bytes, x5.names, r37, x5.kids⟩ : c_)).set (x9).toNat (⟨x6.name, x6.kind, x6.size, x6.little, x6.bytes, x6.names, x6.tags, r3i⟩ : c_)), r6n, e_ x9 1), (som hm6p).symm, ⟨S3l, (q.k<|s3 z z z), h7c, h6v, h6w, h6y, h6q, (iA _ _)⟩⟩
  have h7d : ∀ k ∈ S0, k ∈ S1_0 ∨ w0.z ≤ k := or1 hl (io sr) (n_ lr)
  have h7e : Chg (· ∈ S1_0) w0 w1r := cM (cr S1_0 w0) st (io sr)
  exact We (fun a' ha' => b_0 (som<|ifF hm1t hc1g).symm ⟨S0, (Sat.weaken ha'<|s2 z z), h7e, hj, hu, h7d, hv, h1s⟩)
 ·rintro ⟨xi, xa, x9⟩ a7f w7g rfl ⟨S0, hS9t, s7h, hj, hu, hl, hv, h1s⟩
  have hm7i := elL hm1q
  have hm7j := c_m hm7i
  revert a7f
  refine Wo<|Ws<|Rm z<|Ra z<|Wn ?_
  obtain rfl := som hm7j
  have h7k : Chg (· ∈ S1_0) w0 w7g := cM (cr S1_0 w0) s7h (io sr)
  have h7l : ∀ k ∈ S0, k ∈ S1_0 ∨ w0.z ≤ k := or1 hl (io sr) (n_ lr)
  exact Wr<|d_ hr z ⟨h7k, S0, z, hv, hj, hu, h7l⟩
 rintro r9u ex9v a9w w9x rfl ⟨rfl, hq7m⟩
 have hm7n := elR hm1q
 obtain rfl := som hm7n
 exact ⟨hq7m, z⟩
def Q33 (w0 : World) (B : Zone) (A0 : Option Addr) (N0 C0 : Nat) (S1_0 : List Nat) (r : Int × (List g_)) (v : Value) (w' : World) : Prop := Chg (· ∈ S1_0) w0 w' ∧ un2 (fun r1 r2 => ∃ S1, (vI r1) = v ∧ inI r1 ∧ a_ w' S1 (sl A0 N0 C0) r2 ∧ S1.Nodup ∧ (∀ k ∈ S1, k ∈ S1_0 ∨ w0.z ≤ k)) r
theorem W_w48 {x1 : List g_} {S1_0 : List Nat} {x2 : Int} {res : Int × (List g_)} (hm : h_i n x1 x2 = some res) (hBw : B ≤ w0.z) (p1_0 : a_ w0 S1_0 (sl A0 N0 C0) x1) (p1_0n : S1_0.Nodup) (p1_0g : ∀ k ∈ S1_0, ¬ B k) (p2_0 : inI x2) : j_ prog 73 [sl A0 N0 C0, vI x2] w0 (Q33 w0 B A0 N0 C0 S1_0 res) := by
 unfold h_i at hm
 refine goF func73 z z (lb z) fun fn hr => Ws<|Ra z<|Wn<|Wq<|Ws<|Ra z<|Wn ?_
 obtain ⟨u1r, huo, hmc⟩ := bdS hm
 refine b_4 (σ := (List g_) × Int × Int) (ρ := Int × (List g_)) (fun s a w => un3 (fun x5 x4 x3 => ∃  (S0 : List Nat), Sat 20 [(0, sl A0 N0 C0), (1, vI x4), (5, vI x3)] a ∧ Chg (· ∈ S1_0) w0 w ∧ a_ w S0 (sl A0 N0 C0) x5 ∧ S0.Nodup ∧ (∀ k ∈ S0, k ∈ S1_0 ∨ w0.z ≤ k) ∧ inI x4 ∧ inI x3) s) (fun s a w => un3 (fun x5 x4 x3 => ∃  (S0 : List Nat), Sat 20 [(0, sl A0 N0 C0), (1, vI x4)] a ∧ Chg (· ∈ S1_0) w0 w ∧ a_ w S0 (sl A0 N0 C0) x5 ∧ S0.Nodup ∧ (∀ k ∈ S0, k ∈ S1_0 ∨ w0.z ≤ k) ∧ inI x4 ∧ inI x3) s) (fun r ex a w => ex = .ret ∧ v_ prog fn (Q33 w0 B A0 N0 C0 S1_0 r) a w) huo ?_ ?_ ?_ ?_
 ·exact fun _ q => ⟨S1_0, (q.k<|s3 z z z), (cr S1_0 w0), p1_0, p1_0n, (io sr), p2_0, (ii z)⟩
 ·rintro ⟨x5, x4, x3⟩ a1s w2 o1t ⟨S0, hSp, s6, h1, h9, h7, ha, hd⟩ hmq
  have hme := c_m hmq
  refine Wu ?_ hSp
  refine Wq<|Ws<|Rm z<|Rm z<|R z (lnR a_v z<|a_.rep h1)<|R z (lss z z)<|Wn<|Wc z (fun hcb => ?_) (fun hcb => ?_)
  ·refine Wk<|Wq<|Wb<|Wg<|Rm z<|Rm z ?_
   obtain ⟨x1u, ef, hmr⟩ := bdS (ifT hme hcb)
   refine RX z (d_7 (α := g_) a_v D_ z z h1 ef) ?_
   rintro _ ⟨g1v, ht, rfl⟩
   obtain ⟨cs1w, S8, hu, hv, hw, hg, h1x, hx⟩ := f_y ht h1 h9 ef
   obtain ⟨a1y, n1z, c20, S21, rfl, rfl, hy⟩ := o_r hv
   refine R z (fd a_7 z)<|R z (l1 a_e z fid<|hu.at (j := 0) z)<|Rm z ?_
   have hh := zt' hBw s6.s
   have hz : ∀ k ∈ S0, ¬ B k := or1 h7 p1_0g (p_ hBw)
   have h10 : ∀ k ∈ S8, ¬ B k := or1 (fun k hk => .inl (hg k hk)) hz (p_ hh)
   obtain ⟨rs, ri, e11, hm12⟩ := a_w hmr
   refine E z (fc call104 z<|W_w47 (B := B) e11 hh hy hw h10 ha) ?_
   rintro _ wj ⟨sk, Sl, rfl, h13, h14, h15, h16⟩
   have h17 : Chg (· ∈ S8) w2 wj := cM (cr S8 w2) sk (io sr)
   have h18 : ∀ k ∈ Sl, k ∈ S8 ∨ w2.z ≤ k := or1 h16 (io sr) (n_ lr)
   obtain ⟨Sm, h19, h1a, h1b⟩ := hx _ _ _ h17 (f_o (x := (⟨ri⟩ : g_)) (S1 := Sl) h14) h15 h18
   refine Ra z<|Wn<|Wg<|Rm z<|R z (add_ z z)<|Ra z<|Wl ?_
   have hn : ∀ k ∈ S0, k ∈ S1_0 ∨ w0.z ≤ k := or1 h7 (io sr) (n_ lr)
   have h1c : ∀ k ∈ Sm, k ∈ S1_0 ∨ w0.z ≤ k := or1 h1b hn (n_ s6.s)
   have h1d : Chg (· ∈ S1_0) w0 w2 := cM (cr S1_0 w0) s6 (io sr)
   have h1e : ∀ k ∈ S8, k ∈ S1_0 ∨ w0.z ≤ k := or1 (fun k hk => .inl (hg k hk)) hn (n_ s6.s)
   have h1f : Chg (· ∈ S1_0) w0 wj := cM h1d sk h1e
   exact fun _ q => ⟨((x5.set (x3).toNat (⟨ri⟩ : g_)), rs, e_ x3 1), (som hm12).symm, ⟨Sm, (q.k<|s3 z z z), h1f, h19, h1a, h1c, h13, (iA _ _)⟩⟩
  have h1g : ∀ k ∈ S0, k ∈ S1_0 ∨ w0.z ≤ k := or1 h7 (io sr) (n_ lr)
  have h1h : Chg (· ∈ S1_0) w0 w2 := cM (cr S1_0 w0) s6 (io sr)
  exact We (fun a' ha' => b_0 (som<|ifF hme hcb).symm ⟨S0, (Sat.weaken ha'<|s2 z z), h1h, h1, h9, h1g, ha, hd⟩)
 ·rintro ⟨x5, x4, x3⟩ a1i w1j rfl ⟨S0, hS22, s1k, h1, h9, h7, ha, hd⟩
  have hm1l := elL hmc
  have hm1m := c_m hm1l
  revert a1i
  refine Wo<|Ws<|Rm z<|Ra z<|Wn ?_
  obtain rfl := som hm1m
  have h1n : Chg (· ∈ S1_0) w0 w1j := cM (cr S1_0 w0) s1k (io sr)
  have h1o : ∀ k ∈ S0, k ∈ S1_0 ∨ w0.z ≤ k := or1 h7 (io sr) (n_ lr)
  exact Wr<|d_ hr z ⟨h1n, S0, z, ha, h1, h9, h1o⟩
 rintro r23 ex24 a25 w26 rfl ⟨rfl, hq1p⟩
 have hm1q := elR hmc
 obtain rfl := som hm1q
 exact ⟨hq1p, z⟩
theorem W_w49 {x1 : B_} {S1_0 : List Nat} {x2 : Int} {res : Int × (List g_)} (hm : i_E n x1 x2 = some res) (hBw : B ≤ w0.z) (p1_0 : a_ w0 S1_0 (sl A0 N0 C0) x1.versions) (p1_0n : S1_0.Nodup) (p1_0g : ∀ k ∈ S1_0, ¬ B k) (p2_0 : inI x2) : j_ prog 44 [(.agg #[sl A0 N0 C0]), vI x2] w0 (Q33 w0 B A0 N0 C0 S1_0 res) := by
 unfold i_E at hm
 refine goF func44 z z (lb z) fun fn hr => Ws<|E z (fb z) ?_
 rintro _ w1 ⟨rfl, h2⟩
 have h0 := h2.below
 have h4 : Blk w1 w0.z [sl A0 N0 C0] := h2.blk
 refine Ra z<|Wn<|Ws<|R z (fd a_P z)<|R z (l1 a_Y z fid<|h4.at z)<|Rm z ?_
 obtain ⟨rg, rh, e5, hm6⟩ := a_w hm
 refine E z (fc call73 z<|W_w48 (B := B) e5 (zt' hBw h0.s) (p1_0.e h0) p1_0n p1_0g p2_0) ?_
 rintro _ w7 ⟨s8, S3, rfl, h9, ha, hb, hc⟩
 refine Ra z<|Wn<|Ws<|Rm z<|Ra z<|Wn ?_
 obtain rfl := som hm6
 have hd : Chg (· ∈ S1_0) w0 w1 := E_ (cr S1_0 w0) h0
 have he : Chg (· ∈ S1_0) w0 w7 := cM hd s8 (io sr)
 have hf : ∀ k ∈ S3, k ∈ S1_0 ∨ w0.z ≤ k := or1 hc (io sr) (n_ h0.s)
 exact Wr<|d_ hr z ⟨he, S3, z, h9, ha, hb, hf⟩
theorem W_w4a {x1 : Log} {S1_0 : List Nat} {x2 : Int} {res : Int × (List UInt8)} (hm : i_z n x1 x2 = some res) (hBw : B ≤ w0.z) (p1_0 : a_ w0 S1_0 (sl A0 N0 C0) x1.bytes) (p1_0n : S1_0.Nodup) (p1_0g : ∀ k ∈ S1_0, ¬ B k) (p1_1 : inI x1.stored) (p2_0 : inI x2) : j_ prog 45 [(.agg #[sl A0 N0 C0, vI x1.stored]), vI x2] w0 (Q29 w0 B A0 N0 C0 S1_0 res) := by
 unfold i_z at hm
 refine goF func45 z z (lb z) fun fn hr => Ws<|E z (fb z) ?_
 rintro _ w1 ⟨rfl, h2⟩
 have h0 := h2.below
 have h4 : Blk w1 w0.z [sl A0 N0 C0, vI x1.stored] := h2.blk
 refine Ra z<|Wn<|Ws<|R z (fd a_S z)<|R z (l1 I_ z fid<|h4.at z)<|Rm z ?_
 obtain ⟨rg, rh, e5, hm6⟩ := a_w hm
 refine E z (fc call27 z<|W_w1q (B := B) e5 (zt' hBw h0.s) (p1_0.e h0) p1_0n p1_0g p2_0) ?_
 rintro _ w7 ⟨s8, S3, rfl, h9, ha, hb, hc⟩
 refine Ra z<|Wn<|Ws<|Rm z<|Ra z<|Wn ?_
 obtain rfl := som hm6
 have hd : Chg (· ∈ S1_0) w0 w1 := E_ (cr S1_0 w0) h0
 have he : Chg (· ∈ S1_0) w0 w7 := cM hd s8 (io sr)
 have hf : ∀ k ∈ S3, k ∈ S1_0 ∨ w0.z ≤ k := or1 hc (io sr) (n_ h0.s)
 exact Wr<|d_ hr z ⟨he, S3, z, h9, ha, hb, hf⟩
def Q34 (w0 : World) (B : Zone) (A0 : Option Addr) (N0 C0 : Nat) (S1_0 : List Nat) (A1 : Option Addr) (N1 C1 : Nat) (S1_1 : List Nat) (r : Int × (List g_) × (List UInt8)) (v : Value) (w' : World) : Prop := Chg (· ∈ (S1_0 ++ S1_1)) w0 w' ∧ un3 (fun r1 r2 r3 => ∃ S1 S2, (vI r1) = v ∧ inI r1 ∧ a_ w' S1 (sl A0 N0 C0) r2 ∧ S1.Nodup ∧ (∀ k ∈ S1, k ∈ S1_0 ∨ w0.z ≤ k) ∧ a_ w' S2 (sl A1 N1 C1) r3 ∧ S2.Nodup ∧ (∀ k ∈ S2, k ∈ S1_1 ∨ w0.z ≤ k)) r
theorem W_w1s {x1 : w_} {S1_0 : List Nat} {S1_1 : List Nat} {x2 : Int} {res : Int × (List g_) × (List UInt8)} (hm : f_d n x1 x2 = some res) (hBw : B ≤ w0.z) (p1_0 : a_ w0 S1_0 (sl A0 N0 C0) x1.registry.versions) (p1_0n : S1_0.Nodup) (p1_0g : ∀ k ∈ S1_0, ¬ B k) (p1_1 : a_ w0 S1_1 (sl A1 N1 C1) x1.log.bytes) (p1_1n : S1_1.Nodup) (p1_1g : ∀ k ∈ S1_1, ¬ B k) (p1_1d1 : ∀ k ∈ S1_1, k ∉ S1_0) (p1_2 : inI x1.log.stored) (p2_0 : inI x2) : j_ prog 17 [(.agg #[sl A0 N0 C0, sl A1 N1 C1, vI x1.log.stored]), vI x2] w0 (Q34 w0 B A0 N0 C0 S1_0 A1 N1 C1 S1_1 res) := by
 unfold f_d at hm
 refine goF func17 z z (lb z) fun fn hr => Ws<|E z (fb z) ?_
 rintro _ w2 ⟨rfl, h3⟩
 have h0 := h3.below
 have h4 : Blk w2 w0.z [sl A0 N0 C0, sl A1 N1 C1, vI x1.log.stored] := h3.blk
 refine Ra z<|Wn<|Ws<|R z (fd b_L z)<|R z (lN (vs := [sl A0 N0 C0]) b_w a_Z z z fid<|h4.row 0 1 z)<|Rm z ?_
 obtain ⟨rm, rr, ea, hmb⟩ := a_w hm
 refine E z (fc call44 z<|W_w49 (B := B) (x1 := (⟨x1.registry.versions⟩ : B_)) ea (zt' hBw h0.s) (p1_0.e h0) p1_0n p1_0g p2_0) ?_
 rintro _ wc ⟨s1, S5, rfl, hd, he, hf, h6⟩
 refine Ra z<|Wn<|Ws<|R z (fd b_a z)<|R z (lN (vs := [sl A1 N1 C1, vI x1.log.stored]) a_u a_2 z z fid<|(h4.c s1<|atp<|mnr<|a_.lt p1_0).row 1 2 z)<|Rm z ?_
 have h7 := lt_ h0.s s1.s
 obtain ⟨rs, rv, eg, hmh⟩ := a_w hmb
 refine E z (fc call45 z<|W_w4a (B := B) (x1 := (⟨x1.log.bytes, x1.log.stored⟩ : Log)) eg (zt' hBw h7) ((p1_1.e h0).c s1 p1_1d1) p1_1n p1_1g p1_2 hd) ?_
 rintro _ wi ⟨s8, S9, rfl, hj, hk, hl, hn⟩
 refine Ra z<|Wn<|Ws<|Rm z<|Ra z<|Wn ?_
 obtain rfl := som hmh
 have ho : Chg (· ∈ (S1_0 ++ S1_1)) w0 w2 := E_ (cr (S1_0 ++ S1_1) w0) h0
 have hp : Chg (· ∈ (S1_0 ++ S1_1)) w0 wc := cM ho s1 (io (a_K sr))
 have hq : Chg (· ∈ (S1_0 ++ S1_1)) w0 wi := cM hp s8 (io (a_3 sr))
 have ht : ∀ k ∈ S5, k ∈ S1_0 ∨ w0.z ≤ k := or1 h6 (io sr) (n_ h0.s)
 have hu : ∀ k ∈ S9, k ∈ S1_1 ∨ w0.z ≤ k := or1 hn (io sr) (n_ h7)
 exact Wr<|d_ hr z ⟨hq, S5, S9, z, hj, (he.c s8<|a_H h6 (ds p1_1d1) (a_.lt p1_1) h0.s), hf, ht, hk, hl, hu⟩
theorem W_w1t {x1 : List UInt8} {x2 : Int} {res : Int} (hm : f_1 x1 x2 = some res) (hBw : B ≤ w0.z) (p1_0 : b_ w0 B (sl A0 N0 C0) x1) (p2_0 : inI x2) : j_ prog 93 [sl A0 N0 C0, vI x2] w0 (Q0 w0 B res) := by
 unfold f_1 at hm
 refine goF func93 z z (lb z) fun fn hr => Ws<|Ra z<|Wn<|Wq<|Ws<|Ra z<|Wn ?_
 obtain ⟨um, hua, hm4⟩ := bdS hm
 refine Wf (σ := Int) (ρ := Int) (fun (k5 : Nat) (x0 : Int) a w => Sat 22 [(0, sl A0 N0 C0), (1, vI x0), (5, (vI ((k5 : Nat) : Int)))] a ∧ Below w0.z w0 w ∧ inI x0) (fun (x0 : Int) a w => Sat 22 [(1, vI x0)] a ∧ Below w0.z w0 w ∧ inI x0) (fun r ex a w => ex = .ret ∧ v_ prog fn (Q0 w0 B r) a w) hua ?_ ?_ ?_ ?_ ?_
 ·exact fun _ q => ⟨(q.k<|s3 z z z), (br w0), p2_0⟩
 ·rintro k5 x0 an wo op hk6 ⟨hSb, s2, h1⟩ hmc
  refine Wu ?_ hSb
  refine Wq<|Ws<|Rm z<|Rm z ?_
  have h7 := p1_0.e s2
  refine R z (lnR i_ z h7)<|R z (lss z z)<|Wn<|Wc z (fun _ => ?_) (fun hc => (N_ hk6 hc).elim)
  refine Wk<|Wq<|Wb<|Wq<|Ws<|Rm z<|Rm z ?_
  obtain ⟨xq, ed, hm8⟩ := bdS hmc
  refine RX z (at_ (α := UInt8) i_ z_5 z z z h7 ed) ?_
  rintro _ ⟨bs, ot, csr, rfl, he, hf, hu⟩
  obtain rfl := u8 hf
  refine R z (l1 g_5 z fid<|he.at0 z)<|Rm z<|R z (b_f d_3 d_5 z)<|R z (nq z z)<|Wn<|Wc z (fun hc3 => ?_) (fun hc3 => ?_)
  ·exact Ws<|Ra z<|Wn<|Wr<|rtO<|qL (som<|ifT hm8 hc3).symm<|d_ hr z ⟨s2, z, (ii z)⟩
  exact Wk<|Wg<|Rm z<|R z (add_ z z)<|Ra z<|Wn<|Wg<|Rm z<|R z (inc_ hk6 (lt_ (b_.len p1_0) G_) z z)<|Ra z<|Wl (fun _ q => ⟨e_ x0 1, (som<|ifF hm8 hc3).symm, ⟨(q.k<|s3 z z z), s2, (iA _ _)⟩⟩)
 ·rintro x0 av ww ⟨hSg, s9, h1⟩
  refine Wu ?_ hSg
  refine Wq<|Ws<|Rm z<|Rm z<|R z (lnR i_ z<|p1_0.e s9)<|R z (lss z z)<|Wn<|Wc z (fun hc => (O_ hc).elim) (fun _ => ?_)
  exact We (fun a' ha' => ⟨rfl, ⟨(Sat.weaken ha'<|s1 z), s9, h1⟩⟩)
 ·rintro x0 ah wx rfl ⟨hSy, si, h1⟩
  have hmj := elL hm4
  revert ah
  refine Wo<|Ws<|Rm z<|Ra z<|Wn ?_
  obtain rfl := som hmj
  exact Wr<|d_ hr z ⟨si, z, h1⟩
 rintro rz ex10 a11 w12 rfl ⟨rfl, hqk⟩
 have hml := elR hm4
 obtain rfl := som hml
 exact ⟨hqk, z⟩
theorem W_w4b {x1 : List Str} {x2 : Int} {res : Int} (hm : g_H n x1 x2 = some res) (hBw : B ≤ w0.z) (p1_0 : b_ w0 B (sl A0 N0 C0) x1) (p2_0 : inI x2) : j_ prog 19 [sl A0 N0 C0, vI x2] w0 (Q0 w0 B res) := by
 unfold g_H at hm
 refine goF func19 z z (lb z) fun fn hr => Ws<|Ra z<|Wn<|Wq<|Ws<|Ra z<|Wn ?_
 obtain ⟨up, hub, hm5⟩ := bdS hm
 refine Wf (σ := Int) (ρ := Int) (fun (k6 : Nat) (x0 : Int) a w => Sat 22 [(0, sl A0 N0 C0), (1, vI x0), (5, (vI ((k6 : Nat) : Int)))] a ∧ Below w0.z w0 w ∧ inI x0) (fun (x0 : Int) a w => Sat 22 [(1, vI x0)] a ∧ Below w0.z w0 w ∧ inI x0) (fun r ex a w => ex = .ret ∧ v_ prog fn (Q0 w0 B r) a w) hub ?_ ?_ ?_ ?_ ?_
 ·exact fun _ q => ⟨(q.k<|s3 z z z), (br w0), p2_0⟩
 ·rintro k6 x0 aq wr os hk7 ⟨hSc, s2, h1⟩ hmd
  refine Wu ?_ hSc
  refine Wq<|Ws<|Rm z<|Rm z<|R z (lnR a_8 z<|p1_0.e s2)<|R z (lss z z)<|Wn<|Wc z (fun _ => ?_) (fun hc => (N_ hk7 hc).elim)
  refine Wk<|Wq<|Wb<|Wq<|Wq (Wd (X := noX) 0 (.rd 0 (.rd 1 (.rd 2 (.rd 3 (.rd 4 (.ef 5 (.rd 6 .done))))))) mo (by kernel_rfl) fun wt s4 _ => dR z z (mv z)<|dR z z (mv z) ?_)
  obtain ⟨xu, ee, hmf⟩ := bdS hmd
  refine dRX z z (at_ (α := Str) a_8 z_9 z z z (p1_0.g<|(s2.ag B).e s4) ee) ?_
  rintro _ ⟨bv, ow, csx, rfl, hg, hh, hy⟩
  obtain ⟨rfl, hz⟩ := b_E hh
  refine dR z z (l1 g_9 z fid<|hg.at0 z)<|dR z z (mv z) ?_
  obtain ⟨r10, ei, hm8⟩ := bdS hmf
  refine dE z z (fc call46 z<|h_y (B := B) ei (zt' hBw<|lt_ s2.s s4.s) h1) (.inr fun _ _ h => z_<|h.1) ?_
  rintro _ w11 ⟨s9, rfl, h12⟩
  refine dR z z (f_F z z)<|pD<|Wo<|Wc z (fun hc3 => ?_) (fun hc3 => ?_)
  ·exact Ws<|Ra z<|Wn<|Wr<|rtO<|qL (som<|ifT hm8 hc3).symm<|d_ hr z ⟨(bup (bup s2 s4) s9), z, (ii z)⟩
  exact Wk<|Wg<|Rm z<|R z (add_ z z)<|Ra z<|Wn<|Wg<|Rm z<|R z (inc_ hk7 (lt_ (b_.len p1_0) G_) z z)<|Ra z<|Wl (fun _ q => ⟨e_ x0 1, (som<|ifF hm8 hc3).symm, ⟨(q.k<|s3 z z z), (bup (bup s2 s4) s9), (iA _ _)⟩⟩)
 ·rintro x0 a13 w14 ⟨hSj, sa, h1⟩
  refine Wu ?_ hSj
  refine Wq<|Ws<|Rm z<|Rm z<|R z (lnR a_8 z<|p1_0.e sa)<|R z (lss z z)<|Wn<|Wc z (fun hc => (O_ hc).elim) (fun _ => ?_)
  exact We (fun a' ha' => ⟨rfl, ⟨(Sat.weaken ha'<|s1 z), sa, h1⟩⟩)
 ·rintro x0 ak w15 rfl ⟨hS16, sm, h1⟩
  have hml := elL hm5
  revert ak
  refine Wo<|Ws<|Rm z<|Ra z<|Wn ?_
  obtain rfl := som hml
  exact Wr<|d_ hr z ⟨sm, z, h1⟩
 rintro r17 ex18 a19 w1a rfl ⟨rfl, hqn⟩
 have hmo := elR hm5
 obtain rfl := som hmo
 exact ⟨hqn, z⟩
theorem W_w1u {x1 : List Int} {x2 : Int} {res : Int} (hm : f_b x1 x2 = some res) (hBw : B ≤ w0.z) (p1_0 : b_ w0 B (sl A0 N0 C0) x1) (p2_0 : inI x2) : j_ prog 142 [sl A0 N0 C0, vI x2] w0 (Q0 w0 B res) := by
 unfold f_b at hm
 refine goF func142 z z (lb z) fun fn hr => Ws<|Ra z<|Wn<|Wq<|Ws<|Ra z<|Wn ?_
 obtain ⟨um, hua, hm4⟩ := bdS hm
 refine Wf (σ := Int) (ρ := Int) (fun (k5 : Nat) (x0 : Int) a w => Sat 21 [(0, sl A0 N0 C0), (1, vI x0), (5, (vI ((k5 : Nat) : Int)))] a ∧ Below w0.z w0 w ∧ inI x0) (fun (x0 : Int) a w => Sat 21 [(1, vI x0)] a ∧ Below w0.z w0 w ∧ inI x0) (fun r ex a w => ex = .ret ∧ v_ prog fn (Q0 w0 B r) a w) hua ?_ ?_ ?_ ?_ ?_
 ·exact fun _ q => ⟨(q.k<|s3 z z z), (br w0), p2_0⟩
 ·rintro k5 x0 an wo op hk6 ⟨hSb, s2, h1⟩ hmc
  refine Wu ?_ hSb
  refine Wq<|Ws<|Rm z<|Rm z ?_
  have h7 := p1_0.e s2
  refine R z (lnR F_ z h7)<|R z (lss z z)<|Wn<|Wc z (fun _ => ?_) (fun hc => (N_ hk6 hc).elim)
  refine Wk<|Wq<|Wb<|Wq<|Ws<|Rm z<|Rm z ?_
  obtain ⟨xq, ed, hm8⟩ := bdS hmc
  refine RX z (at_ (α := Int) F_ z_3 z z z h7 ed) ?_
  rintro _ ⟨bs, ot, csr, rfl, he, hf, hu⟩
  obtain ⟨rfl, hv⟩ := a_c hf
  refine R z (l1 g_3 z fid<|he.at0 z)<|Rm z<|R z (nq z z)<|Wn<|Wc z (fun hc3 => ?_) (fun hc3 => ?_)
  ·exact Ws<|Ra z<|Wn<|Wr<|rtO<|qL (som<|ifT hm8 hc3).symm<|d_ hr z ⟨s2, z, (ii z)⟩
  exact Wk<|Wg<|Rm z<|R z (add_ z z)<|Ra z<|Wn<|Wg<|Rm z<|R z (inc_ hk6 (lt_ (b_.len p1_0) G_) z z)<|Ra z<|Wl (fun _ q => ⟨e_ x0 1, (som<|ifF hm8 hc3).symm, ⟨(q.k<|s3 z z z), s2, (iA _ _)⟩⟩)
 ·rintro x0 aw wx ⟨hSg, s9, h1⟩
  refine Wu ?_ hSg
  refine Wq<|Ws<|Rm z<|Rm z<|R z (lnR F_ z<|p1_0.e s9)<|R z (lss z z)<|Wn<|Wc z (fun hc => (O_ hc).elim) (fun _ => ?_)
  exact We (fun a' ha' => ⟨rfl, ⟨(Sat.weaken ha'<|s1 z), s9, h1⟩⟩)
 ·rintro x0 ah wy rfl ⟨hSz, si, h1⟩
  have hmj := elL hm4
  revert ah
  refine Wo<|Ws<|Rm z<|Ra z<|Wn ?_
  obtain rfl := som hmj
  exact Wr<|d_ hr z ⟨si, z, h1⟩
 rintro r10 ex11 a12 w13 rfl ⟨rfl, hqk⟩
 have hml := elR hm4
 obtain rfl := som hml
 exact ⟨hqk, z⟩
theorem W_w4c {x1 : List c_} {x2 : Int} {res : Int} (hm : h_b n x1 x2 = some res) (hBw : B ≤ w0.z) (p1_0 : b_ w0 B (sl A0 N0 C0) x1) (p2_0 : inI x2) : j_ prog 121 [sl A0 N0 C0, vI x2] w0 (Q0 w0 B res) := by
 unfold h_b at hm
 refine goF func121 z z (lb z) fun fn hr => Ws<|Ra z<|Wn<|Wq<|Ws<|Ra z<|Wn ?_
 obtain ⟨u2i, hu12, hmh⟩ := bdS hm
 refine Wf (σ := Int) (ρ := Int) (fun (ki : Nat) (x3 : Int) a w => Sat 88 [(0, sl A0 N0 C0), (1, vI x3), (5, (vI ((ki : Nat) : Int)))] a ∧ Below w0.z w0 w ∧ inI x3) (fun (x3 : Int) a w => Sat 88 [(1, vI x3)] a ∧ Below w0.z w0 w ∧ inI x3) (fun r ex a w => ex = .ret ∧ v_ prog fn (Q0 w0 B r) a w) hu12 ?_ ?_ ?_ ?_ ?_
 ·exact fun _ q => ⟨(q.k<|s3 z z z), (br w0), p2_0⟩
 ·rintro ki x3 a2j w2k o2l hkj ⟨hS13, s0, h1⟩ hm14
  refine Wu ?_ hS13
  refine Wq<|Ws<|Rm z<|Rm z<|R z (lnR J_ z<|p1_0.e s0)<|R z (lss z z)<|Wn<|Wc z (fun _ => ?_) (fun hc => (N_ hkj hc).elim)
  refine Wk<|Wq<|Wb<|Wq<|Wq (Wd (X := noX) 0 (.rd 0 (.rd 1 (.rd 2 (.rd 3 (.rd 4 (.rd 5 (.ef 6 (.rd 7 .done)))))))) mo (by kernel_rfl) fun w2m s2 _ => dR z z (mv z)<|dR z z (mv z) ?_)
  obtain ⟨x2n, e15, hm16⟩ := bdS hm14
  have hk := (s0.ag B).e s2
  refine dRX z z (at_ (α := c_) J_ q_ z z z (p1_0.g hk) e15) ?_
  rintro _ ⟨b2o, o2p, cs2q, rfl, h17, h18, h2r⟩
  obtain ⟨a2s, n2t, c2u, a2v, n2w, c2x, a2y, n2z, c30, a31, n32, c33, rfl, h34, h35, h36, h37, h38, h39, h3a⟩ := a_E h18
  refine dR z z (fd c_g z)<|dR z z (l1 g_9 z fid<|h17.at (j := 0) z)<|dR z z (mv z) ?_
  have hl := lt_ s0.s s2.s
  obtain ⟨r3b, e19, hmm⟩ := bdS hm16
  refine dE z z (fc call46 z<|h_y (B := B) e19 (zt' hBw hl) h1) (.inr fun _ _ h => z_<|h.1) ?_
  rintro _ w3c ⟨s4, rfl, h3d⟩
  refine dR z z (f_F z z)<|pD<|Wo<|Wc z (fun hc9 => ?_) (fun hc9 => ?_)
  ·exact Ws<|Ra z<|Wn<|Wr<|rtO<|qL (som<|ifT hmm hc9).symm<|d_ hr z ⟨(bup (bup s0 s2) s4), z, (ii z)⟩
  refine Wk<|Ws<|Rm z<|R z (add_ z z)<|Ra z<|Wn<|Wq<|Ws<|Rm z<|Rm z ?_
  obtain ⟨x3e, e1a, hmn⟩ := bdS (ifF hmm hc9)
  have ho := hk.e s4
  have h8 := p1_0.g ho
  refine RX z (at_ (α := c_) J_ q_ z z z h8 e1a) ?_
  rintro _ ⟨b3f, o3g, cs3h, rfl, h1b, h1c, h3i⟩
  obtain ⟨a3j, n3k, c3l, a3m, n3n, c3o, a3p, n3q, c3r, a3s, n3t, c3u, rfl, h3v, h3w, h3x, h3y, h3z, h40, h41⟩ := a_E h1c
  refine R z (fd b_y z)<|R z (l1 g_3 z fid<|h1b.at (j := 1) z)<|Rm z<|R z (nq z z)<|Wn<|Wc z (fun hca => ?_) (fun hca => ?_)
  ·exact Ws<|Ra z<|Wn<|Wr<|rtO<|qL (som<|ifT hmn hca).symm<|d_ hr z ⟨(bup (bup s0 s2) s4), z, (ii z)⟩
  refine Wk<|Ws<|Rm z<|R z (add_ z z)<|Ra z<|Wn<|Wq<|Ws<|Rm z<|Rm z ?_
  obtain ⟨x42, e1d, hmp⟩ := bdS (ifF hmn hca)
  refine RX z (at_ (α := c_) J_ q_ z z z h8 e1d) ?_
  rintro _ ⟨b43, o44, cs45, rfl, h1e, h1f, h46⟩
  obtain ⟨a47, n48, c49, a4a, n4b, c4c, a4d, n4e, c4f, a4g, n4h, c4i, rfl, h4j, h4k, h4l, h4m, h4n, h4o, h4p⟩ := a_E h1f
  refine R z (fd a_O z)<|R z (l1 g_3 z fid<|h1e.at (j := 2) z)<|Rm z<|R z (nq z z)<|Wn<|Wc z (fun hcb => ?_) (fun hcb => ?_)
  ·exact Ws<|Ra z<|Wn<|Wr<|rtO<|qL (som<|ifT hmp hcb).symm<|d_ hr z ⟨(bup (bup s0 s2) s4), z, (ii z)⟩
  refine Wk<|Ws<|Rm z<|R z (add_ z z)<|Ra z<|Wn<|Wq<|Ws<|Rm z<|Rm z ?_
  obtain ⟨x4q, e1g, hmq⟩ := bdS (ifF hmp hcb)
  refine RX z (at_ (α := c_) J_ q_ z z z h8 e1g) ?_
  rintro _ ⟨b4r, o4s, cs4t, rfl, h1h, h1i, h4u⟩
  obtain ⟨a4v, n4w, c4x, a4y, n4z, c50, a51, n52, c53, a54, n55, c56, rfl, h57, h58, h59, h5a, h5b, h5c, h5d⟩ := a_E h1i
  refine R z (fd c_h z)<|R z (l1 g_4 z fid<|h1h.at (j := 3) z)<|Rm z<|R z (f_C z z (by decide))<|R z (eql z z)<|R z (f_E d_4 z z)<|Wn<|Wc z (fun hcc => ?_) (fun hcc => ?_)
  ·exact Ws<|Ra z<|Wn<|Wr<|rtO<|qL (som<|ifT hmq hcc).symm<|d_ hr z ⟨(bup (bup s0 s2) s4), z, (ii z)⟩
  refine Wk<|Ws<|Rm z<|R z (add_ z z)<|Ra z<|Wn<|Ws<|Rm z<|Rm z ?_
  obtain ⟨x5e, e1j, hm1k⟩ := bdS (ifF hmq hcc)
  refine RX z (at_ (α := c_) J_ q_ z z z h8 e1j) ?_
  rintro _ ⟨b5f, o5g, cs5h, rfl, h1l, h1m, h5i⟩
  obtain ⟨a5j, n5k, c5l, a5m, n5n, c5o, a5p, n5q, c5r, a5s, n5t, c5u, rfl, h5v, h5w, h5x, h1n, h5y, h5z, h60⟩ := a_E h1m
  refine R z (fd a_N z)<|R z (l1 I_ z fid<|h1l.at (j := 4) z)<|Rm z ?_
  have ht := lt_ hl s4.s
  obtain ⟨r61, e1o, hmr⟩ := bdS hm1k
  refine E z (fc call93 z<|W_w1t (B := B) e1o (zt' hBw ht) h1n<|iA _ _) ?_
  rintro _ w62 ⟨s5, rfl, h1p⟩
  refine Ra z<|Wn<|Wq<|Ws<|Rm z<|R z (lss z z)<|Wn<|Wc z (fun hcd => ?_) (fun hcd => ?_)
  ·exact Ws<|Ra z<|Wn<|Wr<|rtO<|qL (som<|ifT hmr hcd).symm<|d_ hr z ⟨(bup (bup (bup s0 s2) s4) s5), z, (ii z)⟩
  refine Wk<|Ws<|Rm z<|Rm z ?_
  obtain ⟨x63, e1q, hm1r⟩ := bdS (ifF hmr hcd)
  have hu := ho.e s5
  refine RX z (at_ (α := c_) J_ q_ z z z (p1_0.g hu) e1q) ?_
  rintro _ ⟨b64, o65, cs66, rfl, h1s, h1t, h67⟩
  obtain ⟨a68, n69, c6a, a6b, n6c, c6d, a6e, n6f, c6g, a6h, n6i, c6j, rfl, h6k, h6l, h6m, h6n, h1u, h6o, h6p⟩ := a_E h1t
  refine R z (fd b_p z)<|R z (l1 b_x z fid<|h1s.at (j := 5) z)<|Rm z ?_
  have hv := lt_ ht s5.s
  obtain ⟨r6q, e1v, hms⟩ := bdS hm1r
  refine E z (fc call19 z<|W_w4b (B := B) e1v (zt' hBw hv) h1u h1p) ?_
  rintro _ w6r ⟨s6, rfl, h1w⟩
  refine Ra z<|Wn<|Wq<|Ws<|Rm z<|R z (lss z z)<|Wn<|Wc z (fun hce => ?_) (fun hce => ?_)
  ·exact Ws<|Ra z<|Wn<|Wr<|rtO<|qL (som<|ifT hms hce).symm<|d_ hr z ⟨(bup (bup (bup (bup s0 s2) s4) s5) s6), z, (ii z)⟩
  refine Wk<|Ws<|Rm z<|Rm z ?_
  obtain ⟨x6s, e1x, hm1y⟩ := bdS (ifF hms hce)
  have hw := hu.e s6
  refine RX z (at_ (α := c_) J_ q_ z z z (p1_0.g hw) e1x) ?_
  rintro _ ⟨b6t, o6u, cs6v, rfl, h1z, h20, h6w⟩
  obtain ⟨a6x, n6y, c6z, a70, n71, c72, a73, n74, c75, a76, n77, c78, rfl, h79, h7a, h7b, h7c, h7d, h21, h7e⟩ := a_E h20
  refine R z (fd a_J z)<|R z (l1 H_ z fid<|h1z.at (j := 6) z)<|Rm z ?_
  have hx := lt_ hv s6.s
  obtain ⟨r7f, e22, hmy⟩ := bdS hm1y
  refine E z (fc call142 z<|W_w1u (B := B) e22 (zt' hBw hx) h21 h1w) ?_
  rintro _ w7g ⟨s7, rfl, h23⟩
  refine Ra z<|Wn<|Wq<|Ws<|Rm z<|R z (lss z z)<|Wn<|Wc z (fun hcf => ?_) (fun hcf => ?_)
  ·exact Ws<|Ra z<|Wn<|Wr<|rtO<|qL (som<|ifT hmy hcf).symm<|d_ hr z ⟨(bup (bup (bup (bup (bup s0 s2) s4) s5) s6) s7), z, (ii z)⟩
  refine Wk<|Ws<|Rm z<|Rm z ?_
  obtain ⟨x7h, e24, hm25⟩ := bdS (ifF hmy hcf)
  refine RX z (at_ (α := c_) J_ q_ z z z (p1_0.g<|hw.e s7) e24) ?_
  rintro _ ⟨b7i, o7j, cs7k, rfl, h26, h27, h7l⟩
  obtain ⟨a7m, n7n, c7o, a7p, n7q, c7r, a7s, n7t, c7u, a7v, n7w, c7x, rfl, h7y, h7z, h80, h81, h82, h83, h28⟩ := a_E h27
  refine R z (fd a_5 z)<|R z (l1 H_ z fid<|h26.at (j := 7) z)<|Rm z ?_
  obtain ⟨r29, e2a, hmz⟩ := bdS hm25
  refine E z (fc call142 z<|W_w1u (B := B) e2a (zt' hBw<|lt_ hx s7.s) h28 h23) ?_
  rintro _ w84 ⟨s10, rfl, h2b⟩
  refine Ra z<|Wn<|Ws<|Rm z<|R z (lss z z)<|Wn<|Wc z (fun hcg => ?_) (fun hcg => ?_)
  ·exact Ws<|Ra z<|Wn<|Wr<|rtO<|qL (som<|ifT hmz hcg).symm<|d_ hr z ⟨(bup (bup (bup (bup (bup (bup s0 s2) s4) s5) s6) s7) s10), z, (ii z)⟩
  exact Wk<|Wg<|Rm z<|R z (inc_ hkj (lt_ (b_.len p1_0) G_) z z)<|Ra z<|Wl (fun _ q => ⟨r29, (som<|ifF hmz hcg).symm, ⟨(q.k<|s3 z z z), (bup (bup (bup (bup (bup (bup s0 s2) s4) s5) s6) s7) s10), h2b⟩⟩)
 ·rintro x3 a85 w86 ⟨hS2c, s11, h1⟩
  refine Wu ?_ hS2c
  refine Wq<|Ws<|Rm z<|Rm z<|R z (lnR J_ z<|p1_0.e s11)<|R z (lss z z)<|Wn<|Wc z (fun hc => (O_ hc).elim) (fun _ => ?_)
  exact We (fun a' ha' => ⟨rfl, ⟨(Sat.weaken ha'<|s1 z), s11, h1⟩⟩)
 ·rintro x3 a2d w87 rfl ⟨hS88, s2e, h1⟩
  have hm2f := elL hmh
  revert a2d
  refine Wo<|Ws<|Rm z<|Ra z<|Wn ?_
  obtain rfl := som hm2f
  exact Wr<|d_ hr z ⟨s2e, z, h1⟩
 rintro r89 ex8a a8b w8c rfl ⟨rfl, hq2g⟩
 have hm2h := elR hmh
 obtain rfl := som hm2h
 exact ⟨hq2g, z⟩
theorem W_w4d {x1 : List g_} {x2 : Int} {res : Int} (hm : h_c n x1 x2 = some res) (hBw : B ≤ w0.z) (p1_0 : b_ w0 B (sl A0 N0 C0) x1) (p2_0 : inI x2) : j_ prog 92 [sl A0 N0 C0, vI x2] w0 (Q0 w0 B res) := by
 unfold h_c at hm
 refine goF func92 z z (lb z) fun fn hr => Ws<|Ra z<|Wn<|Wq<|Ws<|Ra z<|Wn ?_
 obtain ⟨us, hub, hm4⟩ := bdS hm
 refine Wf (σ := Int) (ρ := Int) (fun (k5 : Nat) (x0 : Int) a w => Sat 22 [(0, sl A0 N0 C0), (1, vI x0), (5, (vI ((k5 : Nat) : Int)))] a ∧ Below w0.z w0 w ∧ inI x0) (fun (x0 : Int) a w => Sat 22 [(1, vI x0)] a ∧ Below w0.z w0 w ∧ inI x0) (fun r ex a w => ex = .ret ∧ v_ prog fn (Q0 w0 B r) a w) hub ?_ ?_ ?_ ?_ ?_
 ·exact fun _ q => ⟨(q.k<|s3 z z z), (br w0), p2_0⟩
 ·rintro k5 x0 au wt ov hk6 ⟨hSc, s2, h1⟩ hmd
  refine Wu ?_ hSc
  refine Wq<|Ws<|Rm z<|Rm z ?_
  have h7 := p1_0.e s2
  refine R z (lnR a_v z h7)<|R z (lss z z)<|Wn<|Wc z (fun _ => ?_) (fun hc => (N_ hk6 hc).elim)
  refine Wk<|Wq<|Wb<|Ws<|Rm z<|Rm z ?_
  obtain ⟨xw, ee, hmf⟩ := bdS hmd
  refine RX z (at_ (α := g_) a_v D_ z z z h7 ee) ?_
  rintro _ ⟨bx, oy, csz, rfl, hg, hh, h10⟩
  obtain ⟨a11, n12, c13, rfl, hi⟩ := c_j hh
  refine R z (fd a_7 z)<|R z (l1 a_e z fid<|hg.at (j := 0) z)<|Rm z ?_
  obtain ⟨rj, ek, hm8⟩ := bdS hmf
  refine E z (fc call121 z<|W_w4c (B := B) ek (zt' hBw s2.s) hi h1) ?_
  rintro _ w14 ⟨s9, rfl, hl⟩
  refine Ra z<|Wn<|Ws<|Rm z<|R z (lss z z)<|Wn<|Wc z (fun hc3 => ?_) (fun hc3 => ?_)
  ·exact Ws<|Ra z<|Wn<|Wr<|rtO<|qL (som<|ifT hm8 hc3).symm<|d_ hr z ⟨(bup s2 s9), z, (ii z)⟩
  exact Wk<|Wg<|Rm z<|R z (inc_ hk6 (lt_ (b_.len p1_0) G_) z z)<|Ra z<|Wl (fun _ q => ⟨rj, (som<|ifF hm8 hc3).symm, ⟨(q.k<|s3 z z z), (bup s2 s9), hl⟩⟩)
 ·rintro x0 a15 w16 ⟨hSm, sa, h1⟩
  refine Wu ?_ hSm
  refine Wq<|Ws<|Rm z<|Rm z<|R z (lnR a_v z<|p1_0.e sa)<|R z (lss z z)<|Wn<|Wc z (fun hc => (O_ hc).elim) (fun _ => ?_)
  exact We (fun a' ha' => ⟨rfl, ⟨(Sat.weaken ha'<|s1 z), sa, h1⟩⟩)
 ·rintro x0 an w17 rfl ⟨hS18, so, h1⟩
  have hmp := elL hm4
  revert an
  refine Wo<|Ws<|Rm z<|Ra z<|Wn ?_
  obtain rfl := som hmp
  exact Wr<|d_ hr z ⟨so, z, h1⟩
 rintro r19 ex1a a1b w1c rfl ⟨rfl, hqq⟩
 have hmr := elR hm4
 obtain rfl := som hmr
 exact ⟨hqq, z⟩
theorem W_w4e {x1 : B_} {x2 : Int} {res : Int} (hm : i_B n x1 x2 = some res) (hBw : B ≤ w0.z) (p1_0 : b_ w0 B (sl A0 N0 C0) x1.versions) (p2_0 : inI x2) : j_ prog 53 [(.agg #[sl A0 N0 C0]), vI x2] w0 (Q0 w0 B res) := by
 unfold i_B at hm
 refine goF func53 z z (lb z) fun fn hr => Ws<|E z (fb z) ?_
 rintro _ w5 ⟨rfl, h2⟩
 have h0 := h2.below
 have h6 : Blk w5 w0.z [sl A0 N0 C0] := h2.blk
 refine Ra z<|Wn<|Ws<|R z (fd a_P z)<|R z (l1 a_Y z fid<|h6.at z)<|Rm z ?_
 obtain ⟨r9, e7, hm3⟩ := bdS hm
 refine E z (fc call92 z<|W_w4d (B := B) e7 (zt' hBw h0.s) (p1_0.e h0) p2_0) ?_
 rintro _ wa ⟨s4, rfl, h8⟩
 refine Ra z<|Wn<|Wq<|Ws<|Rm z<|R z (lss z z)<|Wn<|Wc z (fun hc1 => ?_) (fun hc1 => ?_)
 ·refine Ws<|Ra z<|Wn ?_
  obtain rfl := som (ifT hm3 hc1)
  exact Wr<|d_ hr z ⟨(bup h0 s4), z, (ii z)⟩
 refine Wk<|Ws<|Rm z<|Ra z<|Wn ?_
 obtain rfl := som (ifF hm3 hc1)
 exact Wr<|d_ hr z ⟨(bup h0 s4), z, h8⟩
theorem W_w4f {x1 : Log} {x2 : Int} {res : Int} (hm : i_C x1 x2 = some res) (hBw : B ≤ w0.z) (p1_0 : b_ w0 B (sl A0 N0 C0) x1.bytes) (p1_1 : inI x1.stored) (p2_0 : inI x2) : j_ prog 54 [(.agg #[sl A0 N0 C0, vI x1.stored]), vI x2] w0 (Q0 w0 B res) := by
 unfold i_C at hm
 refine goF func54 z z (lb z) fun fn hr => Ws<|E z (fb z) ?_
 rintro _ w5 ⟨rfl, h2⟩
 have h0 := h2.below
 have h6 : Blk w5 w0.z [sl A0 N0 C0, vI x1.stored] := h2.blk
 refine Ra z<|Wn<|Ws<|R z (fd a_S z)<|R z (l1 I_ z fid<|h6.at z)<|Rm z ?_
 obtain ⟨r9, e7, hm3⟩ := bdS hm
 refine E z (fc call93 z<|W_w1t (B := B) e7 (zt' hBw h0.s) (p1_0.e h0) p2_0) ?_
 rintro _ wa ⟨s4, rfl, h8⟩
 refine Ra z<|Wn<|Wq<|Ws<|Rm z<|R z (lss z z)<|Wn<|Wc z (fun hc1 => ?_) (fun hc1 => ?_)
 ·refine Ws<|Ra z<|Wn ?_
  obtain rfl := som (ifT hm3 hc1)
  exact Wr<|d_ hr z ⟨(bup h0 s4), z, (ii z)⟩
 refine Wk<|Ws<|Rm z<|Ra z<|Wn ?_
 obtain rfl := som (ifF hm3 hc1)
 exact Wr<|d_ hr z ⟨(bup h0 s4), z, h8⟩
theorem W_w1v {x1 : w_} {x2 : Int} {res : Int} (hm : f_c n x1 x2 = some res) (hBw : B ≤ w0.z) (p1_0 : b_ w0 B (sl A0 N0 C0) x1.registry.versions) (p1_1 : b_ w0 B (sl A1 N1 C1) x1.log.bytes) (p1_2 : inI x1.log.stored) (p2_0 : inI x2) : j_ prog 22 [(.agg #[sl A0 N0 C0, sl A1 N1 C1, vI x1.log.stored]), vI x2] w0 (Q0 w0 B res) := by
 unfold f_c at hm
 refine goF func22 z z (lb z) fun fn hr => Ws<|E z (fb z) ?_
 rintro _ w9 ⟨rfl, h4⟩
 have h0 := h4.below
 have h5 : Blk w9 w0.z [sl A0 N0 C0, sl A1 N1 C1, vI x1.log.stored] := h4.blk
 refine Ra z<|Wn<|Ws<|R z (fd b_L z)<|R z (lN (vs := [sl A0 N0 C0]) b_w a_Z z z fid<|h5.row 0 1 z)<|Rm z ?_
 obtain ⟨re, ea, hm6⟩ := bdS hm
 refine E z (fc call53 z<|W_w4e (B := B) (x1 := (⟨x1.registry.versions⟩ : B_)) ea (zt' hBw h0.s) (p1_0.e h0) p2_0) ?_
 rintro _ wf ⟨s1, rfl, hb⟩
 refine Ra z<|Wn<|Wq<|Ws<|Rm z<|R z (lss z z)<|Wn<|Wc z (fun hc2 => ?_) (fun hc2 => ?_)
 ·refine Ws<|Ra z<|Wn ?_
  obtain rfl := som (ifT hm6 hc2)
  exact Wr<|d_ hr z ⟨(bup h0 s1), z, (ii z)⟩
 refine Wk<|Ws<|R z (fd b_a z)<|R z (lN (vs := [sl A1 N1 C1, vI x1.log.stored]) a_u a_2 z z fid<|(h5.e s1).row 1 2 z)<|Rm z ?_
 obtain ⟨rg, ec, hm7⟩ := bdS (ifF hm6 hc2)
 refine E z (fc call54 z<|W_w4f (B := B) (x1 := (⟨x1.log.bytes, x1.log.stored⟩ : Log)) ec (zt' hBw<|lt_ h0.s s1.s) (p1_1.g<|(h0.ag B).e s1) p1_2 hb) ?_
 rintro _ wh ⟨s8, rfl, hd⟩
 refine Ra z<|Wn<|Wq<|Ws<|Rm z<|R z (lss z z)<|Wn<|Wc z (fun hc3 => ?_) (fun hc3 => ?_)
 ·refine Ws<|Ra z<|Wn ?_
  obtain rfl := som (ifT hm7 hc3)
  exact Wr<|d_ hr z ⟨(bup (bup h0 s1) s8), z, (ii z)⟩
 refine Wk<|Ws<|Rm z<|Ra z<|Wn ?_
 obtain rfl := som (ifF hm7 hc3)
 exact Wr<|d_ hr z ⟨(bup (bup h0 s1) s8), z, hd⟩
def o_l (w0 : World) (B : Zone) (r : Bool) (v : Value) (w' : World) : Prop := Bw w0 w' ∧ (fun r1 => (vB r1) = v) r
theorem o_m {x1 : w_} {x2 : Str} {res : Bool} (hm : h_k n x1 x2 = some res) (hBw : B ≤ w0.z) (hG : Gl w0 B) (p1_0 : b_ w0 B (sl A0 N0 C0) x1.registry.versions) (p1_1 : b_ w0 B (sl A1 N1 C1) x1.log.bytes) (p1_2 : inI x1.log.stored) (p2_0 : x2.b.length ≤ LEN) : j_ prog 7 [(.agg #[sl A0 N0 C0, sl A1 N1 C1, vI x1.log.stored]), Str.v x2] w0 (o_l w0 B res) := by
 unfold h_k at hm
 refine goF func7 z z (lb z) fun fn hr => Ws<|E z (fb z) ?_
 rintro _ w5b ⟨rfl, h3f⟩
 have hk := h3f.below
 have h11 : Blk w5b w0.z [sl A0 N0 C0, sl A1 N1 C1, vI x1.log.stored] := h3f.blk
 refine Ra z<|Wn<|Wq<|Ws<|Rm z<|R z (lnT d_9 z)<|R z (a_i z z)<|Wn<|Wc z (fun hc28 => ?_) (fun hc28 => ?_)
 ·refine Ws<|Ra z<|Wn ?_
  obtain rfl := som (ifT hm hc28)
  exact Wr<|d_ hr z ⟨hk, z⟩
 refine Wk<|Ws<|Ra z<|Wn<|Ws<|R z (lN (vs := [sl A0 N0 C0, sl A1 N1 C1, vI x1.log.stored]) g_29 z_29 z z fid<|h11.row 0 3 z)<|Rm z ?_
 obtain ⟨r80, e5c, hm3g⟩ := bdS (ifF hm hc28)
 refine E z (fc call9 z<|W_w23 (B := B) e5c (zt' hBw hk.s) (p1_0.e hk) (p1_1.e hk) p1_2<|ii z) ?_
 rintro _ w81 ⟨so, rfl, h82⟩
 refine Ra z<|Wn<|Wq<|Ws<|Rm z<|R z (lss z z)<|Wn<|Wc z (fun hc29 => ?_) (fun hc29 => ?_)
 ·refine Ws<|Ra z<|Wn ?_
  obtain rfl := som (ifT hm3g hc29)
  exact Wr<|d_ hr z ⟨(bup hk so), z⟩
 refine Wk<|Ws ?_
 have h3h := h11.e so
 refine R z (lN (vs := [sl A0 N0 C0, sl A1 N1 C1, vI x1.log.stored]) g_29 z_29 z z fid<|h3h.row 0 3 z) ?_
 have h2a := (hk.ag B).e so
 have h3i := lt_ hk.s so.s
 obtain ⟨r83, e5d, hm5e⟩ := bdS (ifF hm3g hc29)
 refine E z (fc call11 z<|h_t (B := B) e5d (zt' hBw h3i) (p1_0.g h2a) (p1_1.g h2a) p1_2) ?_
 rintro _ w5f ⟨sp, a84, n85, c86, S87, a88, n89, c8a, S8b, rfl, h5g, h5h, h5i, h8c, h8d⟩
 refine Rm z ?_
 obtain ⟨r1n, r1h, e5j, hm5k⟩ := a_w hm5e
 refine E z (fc call28 z<|W_w31 (B := w5f.z) e5j zr (a_.rep h5g) (a_.rep h5h) h5i p2_0) ?_
 rintro _ w1o ⟨sq, a1p, n1q, c1r, S8e, a1s, n1t, c1u, S8f, rfl, hf, hg, h2b, h8g, h8h⟩
 refine Rm z<|R z (ext_ z z)<|R z (ext_ z z)<|E z (fa b_Y) ?_
 rintro _ w5l ⟨rfl, h3j⟩
 have he := h3j.below
 have ht : Blk w5l w1o.z [sl none 0 0, sl none 0 0, vI 0] := h3j.blk
 refine E0 (fs (cur' := [sl a1p n1q c1r, sl a1s n1t c1u, vI r1n.log.stored]) Z_ z z ht z (lb z) (oA z) z) ?_
 rintro _ w8i ⟨h2c, s5m⟩
 have h6 := s5m.one
 refine Ra z<|Wn<|Ws ?_
 have h3k := lt_ (lt_ so.s sp.s) sq.s
 have h3l := (((h3h.e sp).e sq).e he).c h6<|djs<|mm1 h11.lt h3k
 refine R z (lN (vs := [sl A0 N0 C0, sl A1 N1 C1, vI x1.log.stored]) g_29 z_29 z z fid<|h3l.row 0 3 z) ?_
 have hy := lt_ (lt_ h3i sp.s) sq.s
 have h3m : ∀ k ∈ [w1o.z], ¬ B k := or0 (f_ lr)  (p_ (zt' hBw hy))
 have h2d := (((h2a.e sp).e sq).e he).c h6<|h_ h3m
 have hl := lt_ (lt_ hy he.s) h6.s
 have h2e := zt' hBw hl
 obtain ⟨r1v, e5n, hm5o⟩ := bdS hm5k
 refine E z (fc call11 z<|h_t (B := B) e5n h2e (p1_0.g h2d) (p1_1.g h2d) p1_2) ?_
 rintro _ w1w ⟨sc, a1x, n1y, c1z, S5p, a20, n21, c22, S5q, rfl, h12, h13, h2f, h2g, h8⟩
 refine E z (fa b_Y) ?_
 rintro _ w5r ⟨rfl, h3n⟩
 have h4 := h3n.below
 have h3o : Blk w5r w1w.z [sl none 0 0, sl none 0 0, vI 0] := h3n.blk
 refine E0 (fs (cur' := [sl a1x n1y c1z, sl a20 n21 c22, vI r1v.log.stored]) Z_ z z h3o z (lb z) (oA z) z) ?_
 rintro _ w8j ⟨h3p, s5s⟩
 have h3 := s5s.one
 refine Wn<|Ws<|R z (lN (vs := [sl a1x n1y c1z, sl a20 n21 c22, vI r1v.log.stored]) a_n Z_ z z fid<|h3p.row 0 3 z)<|Rm z ?_
 have h3q := (h12.e h4).c h3<|ds<|mnr<|a_.lt h12
 have h3r := (h13.e h4).c h3<|ds<|mnr<|a_.lt h13
 have hx := lt_ hl sc.s
 have h3s := zt' hBw hx
 have h3t : ∀ k ∈ [w1w.z], ¬ B k := or0 (f_ lr)  (p_ h3s)
 have h3u := ((((((((hG.e hk).e so).e sp).e sq).e he).c h6<|h_ h3m).e sc).e h4).c h3<|h_ h3t
 have hz := lt_ h4.s h3.s
 obtain ⟨r16, r2h, e5t, hm5u⟩ := a_w hm5o
 refine E z (fc call29 z<|W_w1n (B := w1w.z) e5t (a_A hz) (h3u.mono h3s) (or_ h3q<|a_.lt h12) (or_ h3r<|a_.lt h13) h2f p2_0) ?_
 rintro _ w1a ⟨s2, a1b, n1c, c1d, S5v, a1e, n1f, c1g, S5w, rfl, h17, h18, h1i, h2i, hb⟩
 refine Rm z<|R z (ext_ z z)<|R z (ext_ z z)<|E z (fa b_Y) ?_
 rintro _ w5x ⟨rfl, h3v⟩
 have h1 := h3v.below
 have h3w : Blk w5x w1a.z [sl none 0 0, sl none 0 0, vI 0] := h3v.blk
 refine E0 (fs (cur' := [sl a1b n1c c1d, sl a1e n1f c1g, vI r16.log.stored]) Z_ z z h3w z (lb z) (oA z) z) ?_
 rintro _ w3x ⟨h2j, s5y⟩
 have h0 := s5y.one
 refine Ra z<|Wn<|Wq<|Wq ?_
 obtain ⟨u5z, hu60, hm3y⟩ := bdS hm5u
 refine Wt (fun a w => ∃ (x2k : Bool), x2k = u5z ∧ Sat 104 [(1, Str.v x2), (2, pt w0.z), (6, pt w1o.z), (7, vB r1h), (8, pt w1w.z), (9, pt w1a.z), (10, vB r2h), (47, vB x2k)] a ∧ Below w3x.z w3x w) ?_ ?_
 ·refine Wg<|R z (lN (vs := [sl a1b n1c c1d, sl a1e n1f c1g, vI r16.log.stored]) a_n Z_ z z fid<|h2j.row 0 3 z) ?_
  have h3z := lt_ h6.s sc.s
  have h61 := (((((h2c.e sc).e h4).c h3<|djs<|mm1 ht.lt h3z).e s2).e h1).c h0<|djs<|mm1 ht.lt<|lt_ (lt_ (lt_ h3z h4.s) h3.s) s2.s
  refine R z (lN (vs := [sl a1p n1q c1r, sl a1s n1t c1u, vI r1n.log.stored]) a_n Z_ z z fid<|h61.row 0 3 z) ?_
  have h2l := lt_ (lt_ he.s h6.s) sc.s
  have h23 := lt_ (lt_ (lt_ h2l h4.s) h3.s) s2.s
  obtain ⟨r62, e63, hm40⟩ := bdS hu60
  refine E z (fc call13 z<|h_x (B := w1a.z) e63 (a_A<|lt_ h1.s h0.s) (or_ ((h17.e h1).c h0<|ds<|mnr<|a_.lt h17)<|a_.lt h17) (or_ ((h18.e h1).c h0<|ds<|mnr<|a_.lt h18)<|a_.lt h18) h1i (b_.mono (or_ ((((((((hf.e he).c h6<|ds<|mnr<|a_.lt hf).e sc).e h4).c h3<|ds<|mno (a_.lt hf) h2l).e s2).e h1).c h0<|ds<|mno (a_.lt hf) h23)<|a_.lt hf)<|a_A h23) (b_.mono (or_ ((((((((hg.e he).c h6<|ds<|mnr<|a_.lt hg).e sc).e h4).c h3<|ds<|mno (a_.lt hg) h2l).e s2).e h1).c h0<|ds<|mno (a_.lt hg) h23)<|a_.lt hg)<|a_A h23) h2b) ?_
  rintro _ w8k ⟨s41, rfl⟩
  refine R z (not_ z)<|Rm z ?_
  rcases bs (!r62) with hcs | hcs
  ·iterate 3 refine Nh z hcs ?_
   exact R z (pT z hcs z)<|Wl (fun _ q => ⟨true, som<|ifT hm40 hcs, (q.k<|s8 z z z z z z z z), s41⟩)
  exact Rh z hcs (mv z)<|Rh z hcs (mv z)<|Rh z hcs (f_E d_4 z z)<|R z (pF z hcs z)<|Wl (fun _ q => ⟨r2h != r1h, som<|ifF hm40 hcs, (q.k<|s8 z z z z z z z z), s41⟩)
 rintro a64 w8l ⟨x2k, rfl, hS8m, s5⟩
 revert a64
 refine Wo<|Wc z (fun hc2m => ?_) (fun hc2m => ?_)
 ·refine Ws<|Ra z<|Wn ?_
  obtain rfl := som (ifT hm3y hc2m)
  have h65 := bM (bup (bup (bM (bup (bup (bM (bup (bup (bup (bup hk so) sp) sq) he) h6<|m1 hy) sc) h4) h3<|m1 hx) s2) h1) h0<|m1<|lt_ (lt_ (lt_ hx h4.s) h3.s) s2.s
  exact Wr<|d_ hr z ⟨(bup h65 s5), z⟩
 refine Wk<|Wq<|Wq (Wd (X := noX) 0 (.rd 0 (.rd 1 (.ef 2 (.ef 3 (.rd 4 .done))))) mo (by kernel_rfl) fun w8n s7 _ => ?_)
 have h42 := ((((h3p.e s2).e h1).c h0<|djs<|mm1 h3o.lt<|lt_ h3.s s2.s).e s5).e s7
 refine dR z z (lN (vs := [sl a1x n1y c1z, sl a20 n21 c22, vI r1v.log.stored]) a_n Z_ z z fid<|h42.row 0 3 z) ?_
 have h2n := lt_ (lt_ h3k he.s) h6.s
 have h43 := lt_ h2n sc.s
 have h2o := lt_ (lt_ h43 h4.s) h3.s
 have h66 := (((((h3l.e sc).e h4).c h3<|djs<|mm1 h11.lt h43).e s2).e h1).c h0<|djs<|mm1 h11.lt<|lt_ h2o s2.s
 have h44 := (h66.e s5).e s7
 refine dR z z (lN (vs := [sl A0 N0 C0, sl A1 N1 C1, vI x1.log.stored]) g_29 z_29 z z fid<|h44.row 0 3 z) ?_
 have hu := lt_ (lt_ hx h4.s) h3.s
 have h10 := lt_ hu s2.s
 have h45 : ∀ k ∈ [w1a.z], ¬ B k := or0 (f_ lr)  (p_ (zt' hBw h10))
 have h2p := (((((((h2d.e sc).e h4).c h3<|h_ h3t).e s2).e h1).c h0<|h_ h45).e s5).e s7
 have h46 := lt_ (lt_ (lt_ (lt_ h10 h1.s) h0.s) s5.s) s7.s
 obtain ⟨r8o, e67, hm68⟩ := bdS (ifF hm3y hc2m)
 refine dE z z (fc call11 z<|h_t (B := B) e67 (zt' hBw h46) (p1_0.g h2p) (p1_1.g h2p) p1_2) (.inr fun _ _ h => z_<|h.1) ?_
 rintro _ w69 ⟨s9, a8p, n8q, c8r, S8s, a8t, n8u, c8v, S8w, rfl, h6a, h6b, h6c, h8x, h8y⟩
 have h2q := lt_ hz s2.s
 have h2r := mno (a_.lt h12) h2q
 have h47 := (((((h3q.e s2).e h1).c h0<|ds h2r).e s5).e s7).e s9
 have h2s := mno (a_.lt h13) h2q
 have h48 := (((((h3r.e s2).e h1).c h0<|ds h2s).e s5).e s7).e s9
 have h49 := lt_ (lt_ (lt_ (lt_ (lt_ h2q h1.s) h0.s) s5.s) s7.s) s9.s
 obtain ⟨r8z, e6d, hm4a⟩ := bdS hm68
 refine dE z z (fc call13 z<|h_x (B := w69.z) e6d zr (b_.mono (or_ h47<|a_.lt h12)<|a_A h49) (b_.mono (or_ h48<|a_.lt h13)<|a_A h49) h2f (a_.rep h6a) (a_.rep h6b) h6c) (.inr fun _ _ h => z_<|h.1) ?_
 rintro _ w90 ⟨sa, rfl⟩
 refine dR z z (not_ z)<|pD<|Wo<|Wc z (fun hc2t => ?_) (fun hc2t => ?_)
 ·refine Ws<|Ra z<|Wn ?_
  obtain rfl := som (ifT hm4a hc2t)
  have h6e := bup (bup (bup (bup (bM (bup (bup (bM (bup (bup (bM (bup (bup (bup (bup hk so) sp) sq) he) h6<|m1 hy) sc) h4) h3<|m1 hx) s2) h1) h0<|m1 h10) s5) s7) s9) sa
  exact Wr<|d_ hr z ⟨h6e, z⟩
 refine Wk<|Ws<|Ra z<|Wn<|Ws<|R z (lN (vs := [sl a1x n1y c1z, sl a20 n21 c22, vI r1v.log.stored]) a_n Z_ z z fid<|((h42.e s9).e sa).row 0 3 z)<|Rm z ?_
 have h2u : ∀ k ∈ S5p, ¬ B k := or0 (al_ h8)  (p_ h2e)
 have h2v : ∀ k ∈ S5q, ¬ B k := or0 (ar_ h8)  (p_ h2e)
 have h4b := lt_ (lt_ h46 s9.s) sa.s
 obtain ⟨r6f, r91, r92, e6g, hm6h⟩ := W_ (ifF hm4a hc2t)
 refine E z (fc call17 z<|W_w1s (B := B) e6g (zt' hBw h4b) (h47.e sa) (nl_ h2g) h2u (h48.e sa) (nr_ h2g) h2v (ds<|nj h2g) h2f<|ii z) ?_
 rintro _ w2w ⟨sd, S93, S94, rfl, h95, h96, h97, h98, h99, h9a, h9b⟩
 refine Ra z<|Wn<|Wq<|Wq ?_
 obtain ⟨u6i, hu4c, hm4d⟩ := bdS hm6h
 refine Wt (fun a w => ∃ (x2x : Bool), x2x = u6i ∧ Sat 104 [(1, Str.v x2), (2, pt w0.z), (6, pt w1o.z), (7, vB r1h), (9, pt w1a.z), (68, vB x2x)] a ∧ Below w2w.z w2w w) ?_ ?_
 ·refine Wg<|Rm z<|R z (lss z z)<|Rm z ?_
  rcases bs (decide (r6f < 0)) with hcr | hcr
  ·iterate 4 refine Nh z hcr ?_
   exact R z (pT z hcr z)<|Rm z<|Nh z z<|Nh z z<|Nh z z<|R z (pT z z z)<|Wl (fun _ q => ⟨true, som<|ifT hu4c hcr, (q.k<|s6 z z z z z z), (br w2w)⟩)
  refine Rh z hcr (lN (vs := [sl a1b n1c c1d, sl a1e n1f c1g, vI r16.log.stored]) a_n Z_ z z fid<|(((((h2j.e s5).e s7).e s9).e sa).c sd<|atp<|nmA h2r h2s).row 0 3 z) ?_
  have h4e := lt_ h6.s sc.s
  have h6j := (((((h2c.e sc).e h4).c h3<|djs<|mm1 ht.lt h4e).e s2).e h1).c h0<|djs<|mm1 ht.lt<|lt_ (lt_ (lt_ h4e h4.s) h3.s) s2.s
  refine Rh z hcr (lN (vs := [sl a1p n1q c1r, sl a1s n1t c1u, vI r1n.log.stored]) a_n Z_ z z fid<|(((((h6j.e s5).e s7).e s9).e sa).c sd<|atp<|nmA (ds<|m_ (al_ h8) ht.lt h6.s)<|ds<|m_ (ar_ h8) ht.lt h6.s).row 0 3 z) ?_
  have h6k := ((((((h17.e h1).c h0<|ds<|mnr<|a_.lt h17).e s5).e s7).e s9).e sa).c sd<|nmA (U_ (al_ hb) (a_.lt h12) hz)<|U_ (al_ hb) (a_.lt h13) hz
  have h6l := ((((((h18.e h1).c h0<|ds<|mnr<|a_.lt h18).e s5).e s7).e s9).e sa).c sd<|nmA (U_ (ar_ hb) (a_.lt h12) hz)<|U_ (ar_ hb) (a_.lt h13) hz
  have h1j := lt_ he.s h6.s
  have h2y := lt_ h1j sc.s
  have h24 := lt_ (lt_ (lt_ h2y h4.s) h3.s) s2.s
  have h6m := (((((((((hf.e he).c h6<|ds<|mnr<|a_.lt hf).e sc).e h4).c h3<|ds<|mno (a_.lt hf) h2y).e s2).e h1).c h0<|ds<|mno (a_.lt hf) h24).e s5).e s7
  have h6n := (((((((((hg.e he).c h6<|ds<|mnr<|a_.lt hg).e sc).e h4).c h3<|ds<|mno (a_.lt hg) h2y).e s2).e h1).c h0<|ds<|mno (a_.lt hg) h24).e s5).e s7
  obtain ⟨r6o, e6p, hm4f⟩ := bdS (ifF hu4c hcr)
  refine Eg z z hcr z (fc call13 z<|h_x (B := w1a.z) e6p (a_A<|lt_ (lt_ (lt_ (lt_ (lt_ (lt_ h1.s h0.s) s5.s) s7.s) s9.s) sa.s) sd.s) (or_ h6k<|a_.lt h17) (or_ h6l<|a_.lt h18) h1i (b_.mono (or_ (((h6m.e s9).e sa).c sd<|nmA (ds<|U_ (al_ h8) (a_.lt hf) h1j)<|ds<|U_ (ar_ h8) (a_.lt hf) h1j)<|a_.lt hf)<|a_A h24) (b_.mono (or_ (((h6n.e s9).e sa).c sd<|nmA (ds<|U_ (al_ h8) (a_.lt hg) h1j)<|ds<|U_ (ar_ h8) (a_.lt hg) h1j)<|a_.lt hg)<|a_A h24) h2b) ?_
  rintro _ w9c ⟨s4g, rfl⟩
  refine Rh z hcr (not_ z)<|R z (pF z hcr z)<|Rm z ?_
  rcases bs (!r6o) with hc14 | hc14
  ·iterate 3 refine Nh z hc14 ?_
   exact R z (pT z hc14 z)<|Wl (fun _ q => ⟨true, som<|ifT hm4f hc14, (q.k<|s6 z z z z z z), s4g⟩)
  exact Rh z hc14 (mv z)<|Rh z hc14 (mv z)<|Rh z hc14 (f_E d_4 z z)<|R z (pF z hc14 z)<|Wl (fun _ q => ⟨r2h != r1h, som<|ifF hm4f hc14, (q.k<|s6 z z z z z z), s4g⟩)
 rintro a6q w9d ⟨x2x, rfl, hS9e, sh⟩
 revert a6q
 refine Wo<|Wc z (fun hc2z => ?_) (fun hc2z => ?_)
 ·refine Ws<|Ra z<|Wn ?_
  obtain rfl := som (ifT hm4d hc2z)
  have h6r := bup (bup (bup (bup (bM (bup (bup (bM (bup (bup (bM (bup (bup (bup (bup hk so) sp) sq) he) h6<|m1 hy) sc) h4) h3<|m1 hx) s2) h1) h0<|m1 h10) s5) s7) s9) sa
  exact Wr<|d_ hr z ⟨(bup (bM h6r sd<|aa_ (l_ (al_ h8) hl)<|l_ (ar_ h8) hl) sh), z⟩
 refine Wk<|Ws<|Ra z<|Wn<|Ws ?_
 have h4h := (((((h2j.e s5).e s7).e s9).e sa).c sd<|atp<|nmA h2r h2s).e sh
 refine R z (lN (vs := [sl a1b n1c c1d, sl a1e n1f c1g, vI r16.log.stored]) a_n Z_ z z fid<|h4h.row 0 3 z)<|Rm z ?_
 have h4i := mnr<|a_.lt h17
 have h4j := zt' hBw hu
 have h30 : ∀ k ∈ S5v, ¬ B k := or0 (al_ hb)  (p_ h4j)
 have h4k := mnr<|a_.lt h18
 have h31 : ∀ k ∈ S5w, ¬ B k := or0 (ar_ hb)  (p_ h4j)
 have h4l := lt_ (lt_ h4b sd.s) sh.s
 obtain ⟨r6s, r4m, r4n, e6t, hm6u⟩ := W_ (ifF hm4d hc2z)
 refine E z (fc call17 z<|W_w1s (B := B) e6t (zt' hBw h4l) ((((((((h17.e h1).c h0<|ds h4i).e s5).e s7).e s9).e sa).c sd<|nmA (U_ (al_ hb) (a_.lt h12) hz)<|U_ (al_ hb) (a_.lt h13) hz).e sh) (nl_ h2i) h30 ((((((((h18.e h1).c h0<|ds h4k).e s5).e s7).e s9).e sa).c sd<|nmA (U_ (ar_ hb) (a_.lt h12) hz)<|U_ (ar_ hb) (a_.lt h13) hz).e sh) (nr_ h2i) h31 (ds<|nj h2i) h1i<|ii z) ?_
 rintro _ w4o ⟨sm, S9f, S9g, rfl, h9h, h25, h9i, h9j, h26, h9k, h9l⟩
 refine Ra z<|Wn<|Ws<|Ra z<|Wn<|Ws ?_
 have h4p := h4h.c sm<|atp<|nmA h4i h4k
 refine R z (lN (vs := [sl a1b n1c c1d, sl a1e n1f c1g, vI r16.log.stored]) a_n Z_ z z fid<|h4p.row 0 3 z)<|Rm z ?_
 obtain ⟨r9m, e6v, hm4q⟩ := bdS hm6u
 refine E z (fc call22 z<|W_w1v (B := w4o.z) (x1 := (⟨(⟨r4m⟩ : B_), (⟨r4n, r16.log.stored⟩ : Log)⟩ : w_)) e6v zr (a_.rep h25) (a_.rep h26) h1i<|ii z) ?_
 rintro _ w9n ⟨si, rfl, h9o⟩
 refine Ra z<|Wn<|Wq<|Ws<|Rm z<|R z (lss z z)<|Wn<|Wc z (fun hc32 => ?_) (fun hc32 => ?_)
 ·refine Ws<|Ra z<|Wn ?_
  obtain rfl := som (ifT hm4q hc32)
  have h6w := bup (bup (bup (bup (bM (bup (bup (bM (bup (bup (bM (bup (bup (bup (bup hk so) sp) sq) he) h6<|m1 hy) sc) h4) h3<|m1 hx) s2) h1) h0<|m1 h10) s5) s7) s9) sa
  exact Wr<|d_ hr z ⟨(bup (bM (bup (bM h6w sd<|aa_ (l_ (al_ h8) hl)<|l_ (ar_ h8) hl) sh) sm<|aa_ (l_ (al_ hb) hu)<|l_ (ar_ hb) hu) si), z⟩
 have hm4r := ifF hm4q hc32
 refine Wk<|Wq<|Ws<|Rm z<|Rm z<|R z (nq z z)<|Wn<|Wc z (fun hc33 => ?_) (fun hc33 => ?_)
 ·refine Ws<|Ra z<|Wn ?_
  obtain rfl := som (ifT hm4r hc33)
  have h6x := bup (bup (bup (bup (bM (bup (bup (bM (bup (bup (bM (bup (bup (bup (bup hk so) sp) sq) he) h6<|m1 hy) sc) h4) h3<|m1 hx) s2) h1) h0<|m1 h10) s5) s7) s9) sa
  exact Wr<|d_ hr z ⟨(bup (bM (bup (bM h6x sd<|aa_ (l_ (al_ h8) hl)<|l_ (ar_ h8) hl) sh) sm<|aa_ (l_ (al_ hb) hu)<|l_ (ar_ hb) hu) si), z⟩
 refine Wk<|Ws ?_
 have h6y := ((((h44.e s9).e sa).c sd<|atp<|nmA (ds<|m_ (al_ h8) h11.lt h2n)<|ds<|m_ (ar_ h8) h11.lt h2n).e sh).c sm<|atp<|nmA (ds<|m_ (al_ hb) h11.lt h2o)<|ds<|m_ (ar_ hb) h11.lt h2o
 refine R z (lN (vs := [sl A0 N0 C0, sl A1 N1 C1, vI x1.log.stored]) g_29 z_29 z z fid<|(h6y.e si).row 0 3 z) ?_
 have h4s := (((((h2p.e s9).e sa).c sd<|nmA (h_ h2u)<|h_ h2v).e sh).c sm<|nmA (h_ h30)<|h_ h31).e si
 have h4t := lt_ (lt_ h4l sm.s) si.s
 obtain ⟨r9p, e6z, hm70⟩ := bdS (ifF hm4r hc33)
 refine E z (fc call11 z<|h_t (B := B) e6z (zt' hBw h4t) (p1_0.g h4s) (p1_1.g h4s) p1_2) ?_
 rintro _ w71 ⟨sn, a9q, n9r, c9s, S9t, a9u, n9v, c9w, S9x, rfl, h72, h73, h74, h9y, h9z⟩
 refine Rm z ?_
 have h75 := (((((((((((h3u.e s2).e h1).c h0<|h_ h45).e s5).e s7).e s9).e sa).c sd<|nmA (h_ h2u)<|h_ h2v).e sh).c sm<|nmA (h_ h30)<|h_ h31).e si).e sn
 have h1k := lt_ h4t sn.s
 obtain ⟨r4u, r76, e77, hm78⟩ := a_w hm70
 refine E z (fc call29 z<|W_w1n (B := w71.z) e77 zr (h75.mono<|zt' hBw h1k) (a_.rep h72) (a_.rep h73) h74 p2_0) ?_
 rintro _ w4v ⟨sj, a4w, n4x, c4y, S100, a4z, n50, c51, S101, rfl, h34, h35, h79, h102, h103⟩
 refine Rm z<|R z (ext_ z z)<|R z (ext_ z z)<|E z (fa b_Y) ?_
 rintro _ w7a ⟨rfl, h52⟩
 have hv := h52.below
 have h7b : Blk w7a w4v.z [sl none 0 0, sl none 0 0, vI 0] := h52.blk
 refine E0 (fs (cur' := [sl a4w n4x c4y, sl a4z n50 c51, vI r4u.log.stored]) Z_ z z h7b z (lb z) (oA z) z) ?_
 rintro _ w53 ⟨h7c, s7d⟩
 have hw := s7d.one
 refine Ra z<|Wn<|Wq<|Wq ?_
 obtain ⟨u7e, hu7f, hm54⟩ := bdS hm78
 refine Wt (fun a w => ∃ (x36 : Bool), x36 = u7e ∧ Sat 104 [(9, pt w1a.z), (12, vI r6s), (95, vB x36)] a ∧ Below w53.z w53 w) ?_ ?_
 ·refine Wg<|R z (lN (vs := [sl a4w n4x c4y, sl a4z n50 c51, vI r4u.log.stored]) a_n Z_ z z fid<|h7c.row 0 3 z) ?_
  have h55 := lt_ h6.s sc.s
  have h37 := lt_ (lt_ h55 h4.s) h3.s
  have h56 := lt_ h37 s2.s
  have h7g := (((((((h2c.e sc).e h4).c h3<|djs<|mm1 ht.lt h55).e s2).e h1).c h0<|djs<|mm1 ht.lt h56).e s5).e s7
  have h7h := ((((h7g.e s9).e sa).c sd<|atp<|nmA (ds<|m_ (al_ h8) ht.lt h6.s)<|ds<|m_ (ar_ h8) ht.lt h6.s).e sh).c sm<|atp<|nmA (ds<|m_ (al_ hb) ht.lt h37)<|ds<|m_ (ar_ hb) ht.lt h37
  have h7i := mm1 ht.lt<|lt_ (lt_ (lt_ (lt_ (lt_ (lt_ (lt_ (lt_ (lt_ (lt_ (lt_ (lt_ h56 h1.s) h0.s) s5.s) s7.s) s9.s) sa.s) sd.s) sh.s) sm.s) si.s) sn.s) sj.s
  refine R z (lN (vs := [sl a1p n1q c1r, sl a1s n1t c1u, vI r1n.log.stored]) a_n Z_ z z fid<|(((((h7h.e si).e sn).e sj).e hv).c hw<|djs h7i).row 0 3 z) ?_
  have h1l := lt_ he.s h6.s
  have h38 := lt_ h1l sc.s
  have h1m := lt_ (lt_ h38 h4.s) h3.s
  have h39 := lt_ h1m s2.s
  have h7j := ((((((((hf.e he).c h6<|ds<|mnr<|a_.lt hf).e sc).e h4).c h3<|ds<|mno (a_.lt hf) h38).e s2).e h1).c h0<|ds<|mno (a_.lt hf) h39).e s5
  have h7k := (((((h7j.e s7).e s9).e sa).c sd<|nmA (ds<|U_ (al_ h8) (a_.lt hf) h1l)<|ds<|U_ (ar_ h8) (a_.lt hf) h1l).e sh).c sm<|nmA (ds<|U_ (al_ hb) (a_.lt hf) h1m)<|ds<|U_ (ar_ hb) (a_.lt hf) h1m
  have h27 := lt_ (lt_ (lt_ (lt_ (lt_ (lt_ (lt_ (lt_ (lt_ (lt_ (lt_ (lt_ h39 h1.s) h0.s) s5.s) s7.s) s9.s) sa.s) sd.s) sh.s) sm.s) si.s) sn.s) sj.s
  have h7l := ((((((((hg.e he).c h6<|ds<|mnr<|a_.lt hg).e sc).e h4).c h3<|ds<|mno (a_.lt hg) h38).e s2).e h1).c h0<|ds<|mno (a_.lt hg) h39).e s5
  have h7m := (((((h7l.e s7).e s9).e sa).c sd<|nmA (ds<|U_ (al_ h8) (a_.lt hg) h1l)<|ds<|U_ (ar_ h8) (a_.lt hg) h1l).e sh).c sm<|nmA (ds<|U_ (al_ hb) (a_.lt hg) h1m)<|ds<|U_ (ar_ hb) (a_.lt hg) h1m
  obtain ⟨r7n, e7o, hm57⟩ := bdS hu7f
  refine E z (fc call13 z<|h_x (B := w4v.z) e7o (a_A<|lt_ hv.s hw.s) (or_ ((h34.e hv).c hw<|ds<|mnr<|a_.lt h34)<|a_.lt h34) (or_ ((h35.e hv).c hw<|ds<|mnr<|a_.lt h35)<|a_.lt h35) h79 (b_.mono (or_ (((((h7k.e si).e sn).e sj).e hv).c hw<|ds<|mno (a_.lt hf) h27)<|a_.lt hf)<|a_A h27) (b_.mono (or_ (((((h7m.e si).e sn).e sj).e hv).c hw<|ds<|mno (a_.lt hg) h27)<|a_.lt hg)<|a_A h27) h2b) ?_
  rintro _ w104 ⟨s58, rfl⟩
  refine R z (not_ z)<|Rm z ?_
  rcases bs (!r7n) with hc15 | hc15
  ·iterate 3 refine Nh z hc15 ?_
   exact R z (pT z hc15 z)<|Wl (fun _ q => ⟨true, som<|ifT hm57 hc15, (q.k<|s3 z z z), s58⟩)
  exact Rh z hc15 (mv z)<|Rh z hc15 (mv z)<|Rh z hc15 (f_E d_4 z z)<|R z (pF z hc15 z)<|Wl (fun _ q => ⟨r76 != r1h, som<|ifF hm57 hc15, (q.k<|s3 z z z), s58⟩)
 rintro a7p w105 ⟨x36, rfl, hS106, s19⟩
 revert a7p
 refine Wo<|Wc z (fun hc3a => ?_) (fun hc3a => ?_)
 ·refine Ws<|Ra z<|Wn ?_
  obtain rfl := som (ifT hm54 hc3a)
  have h7q := bup (bup (bup (bup (bM (bup (bup (bM (bup (bup (bM (bup (bup (bup (bup hk so) sp) sq) he) h6<|m1 hy) sc) h4) h3<|m1 hx) s2) h1) h0<|m1 h10) s5) s7) s9) sa
  have h7r := bup (bup (bup (bM (bup (bM h7q sd<|aa_ (l_ (al_ h8) hl)<|l_ (ar_ h8) hl) sh) sm<|aa_ (l_ (al_ hb) hu)<|l_ (ar_ hb) hu) si) sn) sj
  exact Wr<|d_ hr z ⟨(bup (bM (bup h7r hv) hw<|m1<|lt_ h1k sj.s) s19), z⟩
 refine Wk<|Ws<|Ra z<|Wn<|Ws ?_
 have h7s := ((((h4p.e si).e sn).e sj).e hv).c hw<|djs<|mm1 h3w.lt<|lt_ (lt_ (lt_ (lt_ (lt_ (lt_ (lt_ (lt_ (lt_ (lt_ h0.s s5.s) s7.s) s9.s) sa.s) sd.s) sh.s) sm.s) si.s) sn.s) sj.s
 refine R z (lN (vs := [sl a1b n1c c1d, sl a1e n1f c1g, vI r16.log.stored]) a_n Z_ z z fid<|(h7s.e s19).row 0 3 z)<|Rm z ?_
 have h3b := lt_ (lt_ si.s sn.s) sj.s
 obtain ⟨r107, e7t, hm59⟩ := bdS (ifF hm54 hc3a)
 refine E z (fc call22 z<|W_w1v (B := w4o.z) (x1 := (⟨(⟨r4m⟩ : B_), (⟨r4n, r16.log.stored⟩ : Log)⟩ : w_)) e7t (a_A<|lt_ (lt_ (lt_ h3b hv.s) hw.s) s19.s) (or_ ((((((h25.e si).e sn).e sj).e hv).c hw<|ds<|mno (a_.lt h25) h3b).e s19)<|a_.lt h25) (or_ ((((((h26.e si).e sn).e sj).e hv).c hw<|ds<|mno (a_.lt h26) h3b).e s19)<|a_.lt h26) h1i<|ii z) ?_
 rintro _ w108 ⟨s3c, rfl, h109⟩
 refine Ra z<|Wn<|Wq<|Ws<|Rm z<|R z (lss z z)<|Wn<|Wc z (fun hc3d => ?_) (fun hc3d => ?_)
 ·refine Ws<|Ra z<|Wn ?_
  obtain rfl := som (ifT hm59 hc3d)
  have h7u := bup (bup (bup (bup (bM (bup (bup (bM (bup (bup (bM (bup (bup (bup (bup hk so) sp) sq) he) h6<|m1 hy) sc) h4) h3<|m1 hx) s2) h1) h0<|m1 h10) s5) s7) s9) sa
  have h7v := bup (bup (bup (bM (bup (bM h7u sd<|aa_ (l_ (al_ h8) hl)<|l_ (ar_ h8) hl) sh) sm<|aa_ (l_ (al_ hb) hu)<|l_ (ar_ hb) hu) si) sn) sj
  exact Wr<|d_ hr z ⟨(bup (bup (bM (bup h7v hv) hw<|m1<|lt_ h1k sj.s) s19) s3c), z⟩
 have hm5a := ifF hm59 hc3d
 refine Wk<|Wq<|Ws<|Rm z<|Rm z<|R z (nq z z)<|Wn<|Wc z (fun hc3e => ?_) (fun hc3e => ?_)
 ·refine Ws<|Ra z<|Wn ?_
  obtain rfl := som (ifT hm5a hc3e)
  have h7w := bup (bup (bup (bup (bM (bup (bup (bM (bup (bup (bM (bup (bup (bup (bup hk so) sp) sq) he) h6<|m1 hy) sc) h4) h3<|m1 hx) s2) h1) h0<|m1 h10) s5) s7) s9) sa
  have h7x := bup (bup (bup (bM (bup (bM h7w sd<|aa_ (l_ (al_ h8) hl)<|l_ (ar_ h8) hl) sh) sm<|aa_ (l_ (al_ hb) hu)<|l_ (ar_ hb) hu) si) sn) sj
  exact Wr<|d_ hr z ⟨(bup (bup (bM (bup h7x hv) hw<|m1<|lt_ h1k sj.s) s19) s3c), z⟩
 refine Wk<|Ws<|Ra z<|Wn ?_
 obtain rfl := som (ifF hm5a hc3e)
 have h7y := bup (bup (bup (bup (bM (bup (bup (bM (bup (bup (bM (bup (bup (bup (bup hk so) sp) sq) he) h6<|m1 hy) sc) h4) h3<|m1 hx) s2) h1) h0<|m1 h10) s5) s7) s9) sa
 have h7z := bup (bup (bup (bM (bup (bM h7y sd<|aa_ (l_ (al_ h8) hl)<|l_ (ar_ h8) hl) sh) sm<|aa_ (l_ (al_ hb) hu)<|l_ (ar_ hb) hu) si) sn) sj
 exact Wr<|d_ hr z ⟨(bup (bup (bM (bup h7z hv) hw<|m1<|lt_ h1k sj.s) s19) s3c), z⟩
end Go.Vw

