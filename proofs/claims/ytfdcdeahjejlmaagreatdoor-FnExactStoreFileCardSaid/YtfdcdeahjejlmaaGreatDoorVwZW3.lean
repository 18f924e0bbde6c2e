import Derived.Test.YtfdcdeahjejlmaaGreatDoorVwZW2
import Derived.Test.YtfdcdeahjejlmaaGreatDoorVwZModels
set_option linter.unusedVariables false
namespace Go.Vw
open Go.RowKit Dat Go.Proofs
open Go.Proofs.Tryz
open Go.Vw renaming WC_seq → Wq, WC_region → Wg, WC.of_KC → Wo, WL_nil → Wl, WC_cond → Wc, WC_ret → Wr, WC_run → Wu, rd_pickT → pT, rd_pickF → pF, rd_field → fd, rd_load1 → l1, rd_loadN → lN, rd_move → mv, rd_assign → asg, rd_lenR → lnR, rd_lss → lss, rd_eql → eql, rd_extract → ext_, rd_buildP → bP, rd_add → add_, rd_inc → inc_, rd_not → not_, rd_at → at_, ef_call → fc, ef_store → fs, ef_box → fb, ef_alloc → fa, sub_refl → sr, crefl → cr, cchgM → cM, bchgM → bM, inI_sub → iS, inI_add → iA, brefl → br, oneAll → oA, bsplit → bs, ltge → lg, inor → io, rd_neq → nq, rd_lenT → lnT, rd_sub → sb_, all_right → ar_, all_left → al_, dj_symm → ds, mem1le → m1, nd_right → nr_, nd_left → nl_, all_app → aa_, all_nil → an_, WC_block → Wb, UInt8_open → u8, PR_done → pD, WC_exit → We, WC_cut → Wt, ef_buildSlice → fS, ownS_rep → or_, WC_forN → Wf, QO_retL → qL, WC_draw → Wd, ef_appendN → fN, nd_app → na_, nd_dj → nj, ef_lit0 → f0, rd_sliceX → rX, toNat_le → tl_, inI_cnt → ic
variable {A0 : Option Addr} {N0 C0 : Nat} {B : Nat} {w0 : World} {AB : Option Addr} {A7 : Option Addr} {AA : Option Addr} {A8 : Option Addr} {NB CB : Nat} {N7 C7 : Nat} {NA CA : Nat} {N8 C8 : Nat} {A1 : Option Addr} {N1 C1 : Nat} {n : Nat} {AE : Option Addr} {NE CE : Nat} {A6 : Option Addr} {N6 C6 : Nat} {AC : Option Addr} {NC CC : Nat} {A3 : Option Addr} {A4 : Option Addr} {A2 : Option Addr} {A5 : Option Addr} {N3 C3 : Nat} {N4 C4 : Nat} {N2 C2 : Nat} {N5 C5 : Nat} {A9 : Option Addr} {N9 C9 : Nat} {AF : Option Addr} {NF CF : Nat} {AI : Option Addr} {NI CI : Nat} {AD : Option Addr} {ND CD : Nat}
theorem T_w01 (ih : I_impl_fileReader_value n) : S_impl_fileReader_value (B_impl_fileReader_value n (F_impl_fileReader_value n)) := by
 obtain ⟨ih0, ih1, ih2, ih3, ih4, ih5⟩ := ih
 constructor
 intro B N0 C0 N1 C1 b1 o1 A0 A1 x1 x2 x3 res w0 hm hBw p1_0 p1_1 hC1 hC1b p2_0 p3_0
 unfold B_impl_fileReader_value at hm
 refine goF func154 z z (lb z) fun fn hr => Ws<|E z (fa zero_118) ?_
 rintro _ w2j ⟨rfl, h2k⟩
 have h2 := h2k.below
 have h3 : Blk w2j w0.z [vI 0, sl none 0 0, sl none 0 0] := h2k.blk
 refine Ra z<|Ra z<|Wn<|Ws<|Rm z<|R z (rd_nil z)<|R z (fd f_157_0 z)<|R z (fd f_95_0 z) ?_
 have h4 := hC1.e h2
 refine R z (l1 g_93 z fid<|h4.at (j := 0) z)<|Rm z ?_
 obtain ⟨x9, e54, hm2l⟩ := bdS hm
 have h6 := p1_0.e h2
 refine RX z (at_ (α := Rule) d_93 z_144 z z z h6 e54) ?_
 rintro _ ⟨b9b, o9c, cs9d, rfl, h55, h56, h9e⟩
 obtain ⟨aa, nb, cc, ad, ne, cf, ag, nh, ci, aj, nk, cl, rfl, hx, hy, hv, hw, hz, h10, hn⟩ := Rule_open h56
 refine R z (lN (vs := (vR x9 aa nb cc ad ne cf ag nh ci aj nk cl)) g_144 z_144 z z fid h55)<|E z (fa zero_144) ?_
 rintro _ w57 ⟨rfl, h2m⟩
 have h0 := h2m.below
 have h58 : Blk w57 w2j.z [(Str.v (⟨[]⟩ : Str)), vI 0, vI 0, vB false, sl none 0 0, sl none 0 0, sl none 0 0, sl none 0 0] := h2m.blk
 refine E0 (fs (cur' := (vR x9 aa nb cc ad ne cf ag nh ci aj nk cl)) z_144 z z h58 z (lb z) (oA z) z) ?_
 rintro _ w9f ⟨h7, s59⟩
 have h1 := s59.one
 refine Wn<|Wq<|Ws<|R z (fd f_144_1 z)<|R z (l1 g_3 z fid<|h7.at z)<|Wn<|Wb<|Ws<|R z (eql z z)<|Ra z<|Wn<|Wc z (fun hcr => ?_) (fun hcr => ?_)
 ·refine Ws<|Rm z<|Rm z<|Rm z ?_
  have h1o := m1<|lt_ hBw h2.s
  have h2n := lt_ (lt_ h2.s h0.s) h1.s
  obtain ⟨r2o, r9g, r9h, e5a, hm5b⟩ := bd3S (ifT hm2l hcr)
  refine E z (fc call181 z<|W_w0b (B := B) e5a (lt_ hBw h2n) ((h6.e h0).c h1<|lg h1o) (((p1_1.e h2).e h0).c h1<|lg h1o) ((h4.e h0).c h1<|(lg h1o) _ hC1b) hC1b p2_0 p3_0) ?_
  rintro _ w9i ⟨s2p, v5c, S5d, rfl, h5e, h5f, h5g, h2q⟩
  refine Rm z ?_
  iterate 3 refine R z (ext_ z z) ?_
  refine Ra z<|Ra z<|Ra z<|Wn<|Ws<|Rm z<|R z (bP (parts := [(0, (.tmp 41))]) (cs := [vI r2o, sl none 0 0, sl none 0 0]) build_118 z z)<|Rm z<|Rm z<|E0 (fs (cur' := [vI r2o, sl none 0 0, sl none 0 0]) z_118 z z (((h3.e h0).c h1<|djs<|mmr h3.lt).e s2p) z (lb z) (oA z) z) ?_
  rintro _ w9j ⟨h5h, s5i⟩
  have h2r := s5i.one
  refine Ra z<|Ra z<|Wn ?_
  obtain rfl := som hm5b
  exact Wr<|rtO<|ret3 hr (resC g_118 z_118 z h5h z) z z ⟨(bM (bup (bM (bup h2 h0) h1<|m1 h2.s) s2p) h2r<|mem1 lr), none, 0, 0, [], none, 0, 0, [], v5c, S5d, z, h5e, onL, onL, h5f, (h5g.c h2r<|o0n1 h2q h3.lt<|lt_ h0.s h1.s), (o0le h2q h2n), nd0, al0⟩
 have hm2s := ifF hm2l hcr
 refine Ws<|R z (eql z z)<|Ra z<|Wn<|Wc z (fun hcs => ?_) (fun hcs => ?_)
 ·refine Ws<|Rm z<|R z (lN (vs := (vR x9 aa nb cc ad ne cf ag nh ci aj nk cl)) g_144 z_144 z z fid<|h7.row 0 8 z)<|Rm z ?_
  have ho := m1<|lt_ hBw h2.s
  have h2t := lt_ (lt_ h2.s h0.s) h1.s
  obtain ⟨r9k, r9l, e5j, hm5k⟩ := bd2S (ifT hm2s hcs)
  refine E z (fc call182 z<|W_w3q (B := B) e5j (lt_ hBw h2t) ((h6.e h0).c h1<|lg ho) (((p1_1.e h2).e h0).c h1<|lg ho) ((h4.e h0).c h1<|(lg ho) _ hC1b) hC1b hx hy hv ((hw.e h0).c h1<|lg ho) ((hz.e h0).c h1<|lg ho) ((h10.e h0).c h1<|lg ho) ((hn.e h0).c h1<|lg ho) p3_0) ?_
  rintro _ w9m ⟨s2u, v5l, S5m, rfl, h5n, h5o, h2v⟩
  refine Rm z<|R z (ext_ z z)<|R z (ext_ z z)<|Ra z<|Ra z<|Wn<|Ws<|R z (bP (parts := []) (cs := [vI 0, sl none 0 0, sl none 0 0]) build_118 z z)<|Rm z<|Rm z<|E0 (fs (cur' := [vI 0, sl none 0 0, sl none 0 0]) z_118 z z (((h3.e h0).c h1<|djs<|mmr h3.lt).e s2u) z (lb z) (oA z) z) ?_
  rintro _ w9n ⟨h5p, s5q⟩
  have h2w := s5q.one
  refine Ra z<|Ra z<|Wn ?_
  obtain rfl := som hm5k
  exact Wr<|rtO<|ret3 hr (resC g_118 z_118 z h5p z) z z ⟨(bM (bup (bM (bup h2 h0) h1<|m1 h2.s) s2u) h2w<|mem1 lr), none, 0, 0, [], none, 0, 0, [], v5l, S5m, z, (ii z), onL, onL, h5n, (h5o.c h2w<|o0n1 h2v h3.lt<|lt_ h0.s h1.s), (o0le h2v h2t), nd0, al0⟩
 have hm2x := ifF hm2s hcs
 refine Ws<|R z (eql z z)<|Ra z<|Wn<|Wc z (fun hc1p => ?_) (fun hc1p => ?_)
 ·refine Ws<|Rm z<|Rm z<|R z (fd f_144_2 z)<|R z (l1 g_3 z fid<|h7.at z) ?_
  have h1q := m1<|lt_ hBw h2.s
  have h11 := lt_ (lt_ h2.s h0.s) h1.s
  obtain ⟨r5r, r9o, r9p, e5s, hm5t⟩ := bd3S (ifT hm2x hc1p)
  refine E z (fc call183 z<|W_w1j (B := B) e5s (lt_ hBw h11) ((h6.e h0).c h1<|lg h1q) (((p1_1.e h2).e h0).c h1<|lg h1q) ((h4.e h0).c h1<|(lg h1q) _ hC1b) hC1b p3_0 hv) ?_
  rintro _ w9q ⟨s2y, a2z, n30, c31, S5u, a32, n33, c34, S5v, v5w, S5x, rfl, h5y, h5z, h60, h61, h62, h35, h1r, h12⟩
  iterate 3 refine R z (ext_ z z) ?_
  refine E0 (fs (cur' := [vI r5r.number, sl a2z n30 c31, sl a32 n33 c34]) z_118 z z (((h3.e h0).c h1<|djs<|mmr h3.lt).e s2y) z (lb z) (oA z) z) ?_
  rintro _ w9r ⟨h63, s64⟩
  have h13 := s64.one
  refine Ra z<|Ra z<|Wn ?_
  obtain rfl := som hm5t
  have h1s := lt_ h0.s h1.s
  exact Wr<|rtO<|ret3 hr (resC g_118 z_118 z h63 z) z z ⟨(bM (bup (bM (bup h2 h0) h1<|m1 h2.s) s2y) h13<|mem1 lr), a2z, n30, c31, S5u, a32, n33, c34, S5v, v5w, S5x, z, h5y, (h5z.c h13<|o0n1 (al_ h12) h3.lt h1s), (h60.c h13<|o0n1 (ar_ h12) h3.lt h1s), h61, (h62.c h13<|o0n1 h35 h3.lt h1s), (o0le h35 h11), (na_ (nl_ h1r) (nr_ h1r)<|nj h1r), (aa_ (o0le (al_ h12) h11)<|o0le (ar_ h12) h11)⟩
 have hm36 := ifF hm2x hc1p
 refine Ws<|R z (eql z z)<|Ra z<|Wn<|Wc z (fun hc1t => ?_) (fun hc1t => ?_)
 ·refine Ws<|Rm z<|R z (fd f_144_7 z)<|R z (l1 g_142 z fid<|h7.at z) ?_
  obtain ⟨x9s, e65, hm66⟩ := bdS (ifT hm36 hc1t)
  have h14 := m1<|lt_ hBw h2.s
  refine RX z (at_ (α := Int) d_142 z_3 z z z ((hn.e h0).c h1<|lg h14) e65) ?_
  rintro _ ⟨b9t, o9u, cs9v, rfl, h67, h68, h9w⟩
  obtain ⟨rfl, h69⟩ := Int_open h68
  refine R z (l1 g_3 z fid<|h67.at0 z)<|Rm z ?_
  have h37 := (h4.e h0).c h1<|(lg h14) _ hC1b
  have h38 := (h6.e h0).c h1<|lg h14
  have h39 := ((p1_1.e h2).e h0).c h1<|lg h14
  have h1u := lt_ (lt_ h2.s h0.s) h1.s
  obtain ⟨r9x, r9y, r9z, e6a, hm3a⟩ := bd3S hm66
  refine E z (fc call181 z<|W_w0b (B := B) e6a (lt_ hBw h1u) h38 h39 h37 hC1b h69 p3_0) ?_
  rintro _ w100 ⟨s8, v6b, S6c, rfl, h6d, h6e, h3b, h3c⟩
  refine Rm z ?_
  iterate 3 refine R z (ext_ z z) ?_
  refine Ra z<|Ra z<|Ra z<|Wn<|Wq<|Ws<|Rm z<|R z (rd_neqEr d_159 z z h3b)<|Wn<|Wc z (fun hc1v => ?_) (fun hc1v => ?_)
  ·refine Ws<|R z (bP (parts := []) (cs := [vI 0, sl none 0 0, sl none 0 0]) build_118 z z)<|Rm z<|Rm z<|E0 (fs (cur' := [vI 0, sl none 0 0, sl none 0 0]) z_118 z z (((h3.e h0).c h1<|djs<|mmr h3.lt).e s8) z (lb z) (oA z) z) ?_
   rintro _ w101 ⟨h6f, s6g⟩
   have h3d := s6g.one
   refine Ra z<|Ra z<|Wn ?_
   obtain rfl := som (ifT hm3a hc1v)
   exact Wr<|rtO<|ret3 hr (resC g_118 z_118 z h6f z) z z ⟨(bM (bup (bM (bup h2 h0) h1<|m1 h2.s) s8) h3d<|mem1 lr), none, 0, 0, [], none, 0, 0, [], v6b, S6c, z, (ii z), onL, onL, p3_0, (h3b.c h3d<|o0n1 h3c h3.lt<|lt_ h0.s h1.s), (o0le h3c h1u), nd0, al0⟩
  refine Wk<|Ws<|Rm z<|Rm z<|Rm z ?_
  have h15 := lt_ h1u s8.s
  obtain ⟨r6h, r102, r103, e6i, hm6j⟩ := bd3S (ifF hm3a hc1v)
  refine E z (fc call183 z<|W_w1j (B := B) e6i (lt_ hBw h15) (h38.e s8) (h39.e s8) (h37.e s8) hC1b h6e h6d) ?_
  rintro _ w104 ⟨s3e, a3f, n3g, c3h, S6k, a3i, n3j, c3k, S6l, v6m, S6n, rfl, h6o, h6p, h6q, h6r, h6s, h3l, h1w, h16⟩
  iterate 3 refine R z (ext_ z z) ?_
  refine E0 (fs (cur' := [vI r6h.number, sl a3f n3g c3h, sl a3i n3j c3k]) z_118 z z ((((h3.e h0).c h1<|djs<|mmr h3.lt).e s8).e s3e) z (lb z) (oA z) z) ?_
  rintro _ w105 ⟨h6t, s6u⟩
  have h17 := s6u.one
  refine Ra z<|Ra z<|Wn ?_
  obtain rfl := som hm6j
  have h1x := lt_ (lt_ h0.s h1.s) s8.s
  exact Wr<|rtO<|ret3 hr (resC g_118 z_118 z h6t z) z z ⟨(bM (bup (bup (bM (bup h2 h0) h1<|m1 h2.s) s8) s3e) h17<|mem1 lr), a3f, n3g, c3h, S6k, a3i, n3j, c3k, S6l, v6m, S6n, z, h6o, (h6p.c h17<|o0n1 (al_ h16) h3.lt h1x), (h6q.c h17<|o0n1 (ar_ h16) h3.lt h1x), h6r, (h6s.c h17<|o0n1 h3l h3.lt h1x), (o0le h3l h15), (na_ (nl_ h1w) (nr_ h1w)<|nj h1w), (aa_ (o0le (al_ h16) h15)<|o0le (ar_ h16) h15)⟩
 have hm3m := ifF hm36 hc1t
 refine Ws<|R z (eql z z)<|Ra z<|Wn<|Wc z (fun hc1y => ?_) (fun hc1y => ?_)
 ·refine Ws<|Rm z<|R z (lN (vs := (vR x9 aa nb cc ad ne cf ag nh ci aj nk cl)) g_144 z_144 z z fid<|h7.row 0 8 z)<|Rm z ?_
  have hp := m1<|lt_ hBw h2.s
  have h18 := lt_ (lt_ h2.s h0.s) h1.s
  obtain ⟨r6v, r106, r107, e6w, hm6x⟩ := bd3S (ifT hm3m hc1y)
  refine E z (fc call184 z<|ih1.run (B := B) e6w (lt_ hBw h18) ((h6.e h0).c h1<|lg hp) (((p1_1.e h2).e h0).c h1<|lg hp) ((h4.e h0).c h1<|(lg hp) _ hC1b) hC1b hx hy hv ((hw.e h0).c h1<|lg hp) ((hz.e h0).c h1<|lg hp) ((h10.e h0).c h1<|lg hp) ((hn.e h0).c h1<|lg hp) p3_0) ?_
  rintro _ w108 ⟨s3n, a3o, n3p, c3q, S6y, a3r, n3s, c3t, S6z, v70, S71, rfl, h72, h73, h74, h75, h76, h3u, h1z, h19⟩
  iterate 3 refine R z (ext_ z z) ?_
  refine E0 (fs (cur' := [vI r6v.number, sl a3o n3p c3q, sl a3r n3s c3t]) z_118 z z (((h3.e h0).c h1<|djs<|mmr h3.lt).e s3n) z (lb z) (oA z) z) ?_
  rintro _ w109 ⟨h77, s78⟩
  have h1a := s78.one
  refine Ra z<|Ra z<|Wn ?_
  obtain rfl := som hm6x
  have h20 := lt_ h0.s h1.s
  exact Wr<|rtO<|ret3 hr (resC g_118 z_118 z h77 z) z z ⟨(bM (bup (bM (bup h2 h0) h1<|m1 h2.s) s3n) h1a<|mem1 lr), a3o, n3p, c3q, S6y, a3r, n3s, c3t, S6z, v70, S71, z, h72, (h73.c h1a<|o0n1 (al_ h19) h3.lt h20), (h74.c h1a<|o0n1 (ar_ h19) h3.lt h20), h75, (h76.c h1a<|o0n1 h3u h3.lt h20), (o0le h3u h18), (na_ (nl_ h1z) (nr_ h1z)<|nj h1z), (aa_ (o0le (al_ h19) h18)<|o0le (ar_ h19) h18)⟩
 have hm3v := ifF hm3m hc1y
 refine Ws<|R z (eql z z)<|Ra z<|Wn<|Wc z (fun hc21 => ?_) (fun hc21 => ?_)
 ·refine Ws<|Rm z<|R z (bP (parts := []) (cs := [vI 0, sl none 0 0, sl none 0 0]) build_118 z z)<|R z (fd f_144_7 z)<|R z (l1 g_142 z fid<|h7.at z)<|Rm z ?_
  have h1b := m1<|lt_ hBw h2.s
  have h1c := lt_ (lt_ h2.s h0.s) h1.s
  obtain ⟨r79, r10a, r10b, e7a, hm7b⟩ := bd3S (ifT hm3v hc21)
  refine E z (fc call185 z<|ih2.run (B := B) (x2 := (⟨0, ([] : List UInt8), ([] : List Val)⟩ : Val)) e7a (lt_ hBw h1c) ((h6.e h0).c h1<|lg h1b) (((p1_1.e h2).e h0).c h1<|lg h1b) ((h4.e h0).c h1<|(lg h1b) _ hC1b) hC1b (ii z) onL nd_nil an_ onL nd_nil an_ an_ ((hn.e h0).c h1<|lg h1b) p3_0) ?_
  rintro _ w10c ⟨s3w, a3x, n3y, c3z, S40, a41, n42, c43, S44, v7c, S7d, rfl, h7e, h7f, h7g, h7h, h7i, h45, h22, h1d⟩
  iterate 3 refine R z (ext_ z z) ?_
  refine E0 (fs (cur' := [vI r79.number, sl a3x n3y c3z, sl a41 n42 c43]) z_118 z z (((h3.e h0).c h1<|djs<|mmr h3.lt).c s3w<|atp<|nmA (nmN _)<|nmN _) z (lb z) (oA z) z) ?_
  rintro _ w10d ⟨h7j, s7k⟩
  have h1e := s7k.one
  refine Ra z<|Ra z<|Wn ?_
  obtain rfl := som hm7b
  have h23 := lt_ h0.s h1.s
  have h7l : ∀ k ∈ S40, k ∉ [w0.z] := or1 (al_ h1d) al0 (ltnot (mem1 h3.lt) h23)
  have h7m : ∀ k ∈ S44, k ∉ [w0.z] := or1 (ar_ h1d) al0 (ltnot (mem1 h3.lt) h23)
  exact Wr<|rtO<|ret3 hr (resC g_118 z_118 z h7j z) z z ⟨(bM (bM (bM (bup h2 h0) h1<|m1 h2.s) s3w al0) h1e<|mem1 lr), a3x, n3y, c3z, S40, a41, n42, c43, S44, v7c, S7d, z, h7e, (h7f.c h1e h7l), (h7g.c h1e h7m), h7h, (h7i.c h1e<|o0n1 h45 h3.lt h23), (o0le h45 h1c), (na_ (nl_ h22) (nr_ h22)<|nj h22), (aa_ (o1le (al_ h1d) al0 h1c)<|o1le (ar_ h1d) al0 h1c)⟩
 have hm46 := ifF hm3v hc21
 refine Ws<|R z (eql z z)<|Ra z<|Wn<|Wc z (fun hc24 => ?_) (fun hc24 => ?_)
 ·refine Ws<|Rm z<|R z (lN (vs := (vR x9 aa nb cc ad ne cf ag nh ci aj nk cl)) g_144 z_144 z z fid<|h7.row 0 8 z)<|Rm z ?_
  have hq := m1<|lt_ hBw h2.s
  have h1f := lt_ (lt_ h2.s h0.s) h1.s
  obtain ⟨r7n, r10e, r10f, e7o, hm7p⟩ := bd3S (ifT hm46 hc24)
  refine E z (fc call186 z<|ih3.run (B := B) e7o (lt_ hBw h1f) ((h6.e h0).c h1<|lg hq) (((p1_1.e h2).e h0).c h1<|lg hq) ((h4.e h0).c h1<|(lg hq) _ hC1b) hC1b hx hy hv ((hw.e h0).c h1<|lg hq) ((hz.e h0).c h1<|lg hq) ((h10.e h0).c h1<|lg hq) ((hn.e h0).c h1<|lg hq) p3_0) ?_
  rintro _ w10g ⟨s47, a48, n49, c4a, S7q, a4b, n4c, c4d, S7r, v7s, S7t, rfl, h7u, h7v, h7w, h7x, h7y, h4e, h25, h1g⟩
  iterate 3 refine R z (ext_ z z) ?_
  refine E0 (fs (cur' := [vI r7n.number, sl a48 n49 c4a, sl a4b n4c c4d]) z_118 z z (((h3.e h0).c h1<|djs<|mmr h3.lt).e s47) z (lb z) (oA z) z) ?_
  rintro _ w10h ⟨h7z, s80⟩
  have h1h := s80.one
  refine Ra z<|Ra z<|Wn ?_
  obtain rfl := som hm7p
  have h26 := lt_ h0.s h1.s
  exact Wr<|rtO<|ret3 hr (resC g_118 z_118 z h7z z) z z ⟨(bM (bup (bM (bup h2 h0) h1<|m1 h2.s) s47) h1h<|mem1 lr), a48, n49, c4a, S7q, a4b, n4c, c4d, S7r, v7s, S7t, z, h7u, (h7v.c h1h<|o0n1 (al_ h1g) h3.lt h26), (h7w.c h1h<|o0n1 (ar_ h1g) h3.lt h26), h7x, (h7y.c h1h<|o0n1 h4e h3.lt h26), (o0le h4e h1f), (na_ (nl_ h25) (nr_ h25)<|nj h25), (aa_ (o0le (al_ h1g) h1f)<|o0le (ar_ h1g) h1f)⟩
 have hm4f := ifF hm46 hc24
 refine Ws<|R z (eql z z)<|Ra z<|Wn<|Wc z (fun hc27 => ?_) (fun hc27 => ?_)
 ·refine Ws<|Rm z<|R z (lN (vs := (vR x9 aa nb cc ad ne cf ag nh ci aj nk cl)) g_144 z_144 z z fid<|h7.row 0 8 z)<|Rm z ?_
  have ht := m1<|lt_ hBw h2.s
  have h1i := lt_ (lt_ h2.s h0.s) h1.s
  obtain ⟨r81, r10i, r10j, e82, hm83⟩ := bd3S (ifT hm4f hc27)
  refine E z (fc call187 z<|ih4.run (B := B) e82 (lt_ hBw h1i) ((h6.e h0).c h1<|lg ht) (((p1_1.e h2).e h0).c h1<|lg ht) ((h4.e h0).c h1<|(lg ht) _ hC1b) hC1b hx hy hv ((hw.e h0).c h1<|lg ht) ((hz.e h0).c h1<|lg ht) ((h10.e h0).c h1<|lg ht) ((hn.e h0).c h1<|lg ht) p3_0) ?_
  rintro _ w10k ⟨s4g, a4h, n4i, c4j, S84, a4k, n4l, c4m, S85, v86, S87, rfl, h88, h89, h8a, h8b, h8c, h4n, h28, h1j⟩
  iterate 3 refine R z (ext_ z z) ?_
  refine E0 (fs (cur' := [vI r81.number, sl a4h n4i c4j, sl a4k n4l c4m]) z_118 z z (((h3.e h0).c h1<|djs<|mmr h3.lt).e s4g) z (lb z) (oA z) z) ?_
  rintro _ w10l ⟨h8d, s8e⟩
  have h1k := s8e.one
  refine Ra z<|Ra z<|Wn ?_
  obtain rfl := som hm83
  have h29 := lt_ h0.s h1.s
  exact Wr<|rtO<|ret3 hr (resC g_118 z_118 z h8d z) z z ⟨(bM (bup (bM (bup h2 h0) h1<|m1 h2.s) s4g) h1k<|mem1 lr), a4h, n4i, c4j, S84, a4k, n4l, c4m, S85, v86, S87, z, h88, (h89.c h1k<|o0n1 (al_ h1j) h3.lt h29), (h8a.c h1k<|o0n1 (ar_ h1j) h3.lt h29), h8b, (h8c.c h1k<|o0n1 h4n h3.lt h29), (o0le h4n h1i), (na_ (nl_ h28) (nr_ h28)<|nj h28), (aa_ (o0le (al_ h1j) h1i)<|o0le (ar_ h1j) h1i)⟩
 have hm4o := ifF hm4f hc27
 refine Ws<|R z (eql z z)<|Ra z<|Wn<|Wc z (fun hc2a => ?_) (fun hc2a => ?_)
 ·refine Ws<|Rm z<|R z (lN (vs := (vR x9 aa nb cc ad ne cf ag nh ci aj nk cl)) g_144 z_144 z z fid<|h7.row 0 8 z)<|Rm z ?_
  have hu := m1<|lt_ hBw h2.s
  have h1l := lt_ (lt_ h2.s h0.s) h1.s
  obtain ⟨r8f, r10m, r10n, e8g, hm8h⟩ := bd3S (ifT hm4o hc2a)
  refine E z (fc call188 z<|ih5.run (B := B) e8g (lt_ hBw h1l) ((h6.e h0).c h1<|lg hu) (((p1_1.e h2).e h0).c h1<|lg hu) ((h4.e h0).c h1<|(lg hu) _ hC1b) hC1b hx hy hv ((hw.e h0).c h1<|lg hu) ((hz.e h0).c h1<|lg hu) ((h10.e h0).c h1<|lg hu) ((hn.e h0).c h1<|lg hu) p3_0) ?_
  rintro _ w10o ⟨s4p, a4q, n4r, c4s, S8i, a4t, n4u, c4v, S8j, v8k, S8l, rfl, h8m, h8n, h8o, h8p, h8q, h4w, h2b, h1m⟩
  iterate 3 refine R z (ext_ z z) ?_
  refine E0 (fs (cur' := [vI r8f.number, sl a4q n4r c4s, sl a4t n4u c4v]) z_118 z z (((h3.e h0).c h1<|djs<|mmr h3.lt).e s4p) z (lb z) (oA z) z) ?_
  rintro _ w10p ⟨h8r, s8s⟩
  have h1n := s8s.one
  refine Ra z<|Ra z<|Wn ?_
  obtain rfl := som hm8h
  have h2c := lt_ h0.s h1.s
  exact Wr<|rtO<|ret3 hr (resC g_118 z_118 z h8r z) z z ⟨(bM (bup (bM (bup h2 h0) h1<|m1 h2.s) s4p) h1n<|mem1 lr), a4q, n4r, c4s, S8i, a4t, n4u, c4v, S8j, v8k, S8l, z, h8m, (h8n.c h1n<|o0n1 (al_ h1m) h3.lt h2c), (h8o.c h1n<|o0n1 (ar_ h1m) h3.lt h2c), h8p, (h8q.c h1n<|o0n1 h4w h3.lt h2c), (o0le h4w h1l), (na_ (nl_ h2b) (nr_ h2b)<|nj h2b), (aa_ (o0le (al_ h1m) h1l)<|o0le (ar_ h1m) h1l)⟩
 refine Wk<|Wq (Wd (X := noX) 0 (.rd 0 (.rd 1 (.rd 2 (.rd 3 (.rd 4 (.rd 5 (.rd 6 (.rd 7 (.rd 8 (.ef 9 (.rd 10 (.rd 11 (.rd 12 (.rd 13 (.rd 14 (.rd 15 (.rd 16 .done))))))))))))))))) mo (by kernel_rfl) fun w10q s5 _ => dR z z (mv z)<|dR z z (rd_nil z)<|dR z z (fd f_157_1 z) ?_)
 have h2d := m1<|lt_ hBw h2.s
 refine dR z z (l1 g_25 z fid<|(((h4.e h0).c h1<|(lg h2d) _ hC1b).e s5).at (j := 1) z)<|dR z z (mv z)<|dR z z (fd f_144_4 z)<|dR z z (l1 g_25 z fid<|(h7.e s5).at z) ?_
 obtain ⟨x10r, e8t, hm8u⟩ := bdS (ifF hm4o hc2a)
 refine dRX z z (at_ (α := UInt8) d_25 z_5 z z z (((hw.e h0).c h1<|lg h2d).e s5) e8t) ?_
 rintro _ ⟨b10s, o10t, cs10u, rfl, h8v, h8w, h10v⟩
 obtain rfl := u8 h8w
 refine dR z z (l1 g_5 z fid<|h8v.at0 z) ?_
 have h2e := lt_ (lt_ (lt_ h2.s h0.s) h1.s) s5.s
 obtain ⟨r10w, r10x, r10y, e8x, hm4x⟩ := bd3S hm8u
 refine dE z z (fc call189 z<|W_w3r (B := B) e8x (lt_ hBw h2e) ((((p1_1.e h2).e h0).c h1<|lg h2d).e s5) p3_0) (.inr fun _ _ h => chgB<|h.1) ?_
 rintro _ w10z ⟨sm, a2f, n2g, c2h, S8y, rfl, h8z, h90, h91, h4y⟩
 refine dR z z (mv z) ?_
 iterate 3 refine dR z z (ext_ z z) ?_
 iterate 3 refine dR z z (asg z) ?_
 refine pD<|Wo<|Wq<|Ws<|Rm z<|R z (not_ z)<|Wn<|Wc z (fun hc2i => ?_) (fun hc2i => ?_)
 ·refine Ws<|R z (bP (parts := []) (cs := [vI 0, sl none 0 0, sl none 0 0]) build_118 z z)<|Rm z<|Rm z ?_
  have h4z := lt_ h2e sm.s
  obtain ⟨r110, e92, hm93⟩ := bdS (ifT hm4x hc2i)
  refine E z (fc call190 z<|W_w06 (B := B) e92 (lt_ hBw h4z) p3_0<|ii z) ?_
  rintro _ w111 ⟨s50, v94, S95, rfl, h96, h51⟩
  refine E0 (fs (cur' := [vI 0, sl none 0 0, sl none 0 0]) z_118 z z (((((h3.e h0).c h1<|djs<|mmr h3.lt).e s5).e sm).e s50) z (lb z) (oA z) z) ?_
  rintro _ w112 ⟨h97, s98⟩
  have h52 := s98.one
  refine Ra z<|Ra z<|Wn ?_
  obtain rfl := som hm93
  exact Wr<|ret3 hr (resC g_118 z_118 z h97 z) z z ⟨(bM (bup (bup (bup (bM (bup h2 h0) h1<|m1 h2.s) s5) sm) s50) h52<|mem1 lr), none, 0, 0, [], none, 0, 0, [], v94, S95, z, (ii z), onL, onL, p3_0, (h96.c h52<|o0n1 h51 h3.lt<|lt_ (lt_ (lt_ h0.s h1.s) s5.s) sm.s), (o0le h51 h4z), nd0, al0⟩
 refine Wk<|Ws<|Rm z<|R z (bP (parts := [(1, (.tmp 159))]) (cs := [vI 0, sl a2f n2g c2h, sl none 0 0]) build_118 z z)<|Rm z<|E0 (fs (cur' := [vI 0, sl a2f n2g c2h, sl none 0 0]) z_118 z z ((((h3.e h0).c h1<|djs<|mmr h3.lt).e s5).e sm) z (lb z) (oA z) z) ?_
 rintro _ w113 ⟨h99, s9a⟩
 have h53 := s9a.one
 refine Ra z<|Ra z<|Wn ?_
 obtain rfl := som (ifF hm4x hc2i)
 exact Wr<|ret3 hr (resC g_118 z_118 z h99 z) z z ⟨(bM (bup (bup (bM (bup h2 h0) h1<|m1 h2.s) s5) sm) h53<|mem1 lr), a2f, n2g, c2h, S8y, none, 0, 0, [], .nilIface, ([] : List Nat), z, (ii z), (h8z.c h53<|o0n1 h4y h3.lt<|lt_ (lt_ h0.s h1.s) s5.s), onL, h90, errR_nil, an_, (na_ h91 nd_nil<|nmN _), (aa_ (o0le h4y h2e) an_)⟩
theorem T_w1k (ih : I_impl_fileReader_value n) : S_impl_fileReader_array (B_impl_fileReader_array n (F_impl_fileReader_value n)) := by
 obtain ⟨ih0, ih1, ih2, ih3, ih4, ih5⟩ := ih
 constructor
 intro B N0 C0 N1 C1 b1 o1 N3 C3 N4 C4 N2 C2 N5 C5 A0 A1 A3 A4 A2 A5 x1 x2 x3 res w0 hm hBw p1_0 p1_1 hC1 hC1b p2_0 p2_1 p2_2 p2_4 p2_5 p2_6 p2_7 p3_0
 unfold B_impl_fileReader_array at hm
 refine goF func184 z z (lb z) fun fn hr => Ws<|E z (fb z) ?_
 rintro _ w7 ⟨rfl, hw⟩
 have h4 := hw.below
 have hx : Blk w7 w0.z (vR x2 A3 N3 C3 A4 N4 C4 A2 N2 C2 A5 N5 C5) := hw.blk
 refine E z (fa zero_118) ?_
 rintro _ w1s ⟨rfl, hy⟩
 have h5 := hy.below
 have h6 : Blk w1s w7.z [vI 0, sl none 0 0, sl none 0 0] := hy.blk
 refine Ra z<|Ra z<|Wn<|Ws<|Rm z<|R z (fd f_144_7 z) ?_
 have hz := hx.e h5
 refine R z (l1 g_142 z fid<|hz.at z) ?_
 obtain ⟨x3m, e1t, hm1u⟩ := bdS hm
 have h10 := (p2_7.e h4).e h5
 refine RX z (at_ (α := Int) d_142 z_3 z z z h10 e1t) ?_
 rintro _ ⟨b3n, o3o, cs3p, rfl, h1v, h1w, h3q⟩
 obtain ⟨rfl, h1x⟩ := Int_open h1w
 refine R z (l1 g_3 z fid<|h1v.at0 z)<|Rm z ?_
 have h11 := (hC1.e h4).e h5
 have h12 := (p1_0.e h4).e h5
 have h13 := (p1_1.e h4).e h5
 have hd := lt_ h4.s h5.s
 obtain ⟨r3r, rr, r3s, e1y, hms⟩ := bd3S hm1u
 refine E z (fc call181 z<|W_w0b (B := B) e1y (lt_ hBw hd) h12 h13 h11 hC1b h1x p3_0) ?_
 rintro _ w1 ⟨s0, v1z, S20, rfl, h3t, h21, h14, h15⟩
 refine Rm z ?_
 iterate 3 refine R z (ext_ z z) ?_
 refine Ra z<|Ra z<|Ra z<|Wn<|Wq<|Ws<|Rm z<|R z (rd_neqEr d_159 z z h14)<|Wn<|Wc z (fun hcm => ?_) (fun hcm => ?_)
 ·refine Ws<|R z (bP (parts := []) (cs := [vI 0, sl none 0 0, sl none 0 0]) build_118 z z)<|Rm z<|Rm z<|E0 (fs (cur' := [vI 0, sl none 0 0, sl none 0 0]) z_118 z z (h6.e s0) z (lb z) (oA z) z) ?_
  rintro _ w3u ⟨h22, s23⟩
  have h16 := s23.one
  refine Ra z<|Ra z<|Wn ?_
  obtain rfl := som (ifT hms hcm)
  exact Wr<|ret3 hr (resC g_118 z_118 z h22 z) z z ⟨(bM (bup (bup h4 h5) s0) h16<|m1 h4.s), none, 0, 0, [], none, 0, 0, [], v1z, S20, z, (ii z), onL, onL, p3_0, (h14.c h16<|o0n1 h15 h6.lt lr), (o0le h15 hd), nd0, al0⟩
 have hm17 := ifF hms hcm
 refine Wk<|Wq<|Ws<|Rm z<|R z (rd_gtr z z)<|Wn<|Wc z (fun hcn => ?_) (fun hcn => ?_)
 ·refine Ws<|R z (bP (parts := []) (cs := [vI 0, sl none 0 0, sl none 0 0]) build_118 z z)<|Rm z<|Rm z ?_
  have h18 := lt_ hd s0.s
  obtain ⟨r3v, e24, hm25⟩ := bdS (ifT hm17 hcn)
  refine E z (fc call190 z<|W_w06 (B := B) e24 (lt_ hBw h18) p3_0<|ii z) ?_
  rintro _ w3w ⟨s19, v26, S27, rfl, h28, h1a⟩
  refine E0 (fs (cur' := [vI 0, sl none 0 0, sl none 0 0]) z_118 z z ((h6.e s0).e s19) z (lb z) (oA z) z) ?_
  rintro _ w3x ⟨h29, s2a⟩
  have h1b := s2a.one
  refine Ra z<|Ra z<|Wn ?_
  obtain rfl := som hm25
  exact Wr<|ret3 hr (resC g_118 z_118 z h29 z) z z ⟨(bM (bup (bup (bup h4 h5) s0) s19) h1b<|m1 h4.s), none, 0, 0, [], none, 0, 0, [], v26, S27, z, (ii z), onL, onL, p3_0, (h28.c h1b<|o0n1 h1a h6.lt s0.s), (o0le h1a h18), nd0, al0⟩
 refine Wk<|Ws<|Rm z ?_
 obtain ⟨x2b, e2c, hm2d⟩ := bdS (ifF hm17 hcn)
 refine E z (ef_makeN (α := Int) el_142 (fun _ => (Int_own<|ii z)) e2c z z) ?_
 rintro _ w2 ⟨ac, ne, cf, rfl, s8, ho⟩
 refine Ra z<|Wn<|Wq<|Ws<|Rm z<|R z (lnR d_142 z<|ownS.rep ho)<|Rm z<|Wn ?_
 obtain ⟨u3y, hu2e, hm1c⟩ := bdS hm2d
 refine Wf (σ := (List Int)) (ρ := Val × Int × (Option<|Int × Int)) (fun (k1d : Nat) (xa : List Int) a w => ∃  (S3 : List Nat), Sat 59 [(0, (.pointer<|some ⟨b1, o1, none⟩)), (4, pt w0.z), (6, pt w7.z), (10, vI rr), (12, sl ac ne cf), (39, vI (x2b.length : Int)), (40, (vI ((k1d : Nat) : Int)))] a ∧ Chg (· ∈ [w1.z]) w2 w ∧ ownS w S3 (sl ac ne cf) xa ∧ S3.Nodup ∧ (∀ k ∈ S3, k ∈ [w1.z] ∨ w2.z ≤ k)) (fun (xa : List Int) a w => ∃  (S3 : List Nat), Sat 59 [(0, (.pointer<|some ⟨b1, o1, none⟩)), (6, pt w7.z), (10, vI rr), (12, sl ac ne cf)] a ∧ Chg (· ∈ [w1.z]) w2 w ∧ ownS w S3 (sl ac ne cf) xa ∧ S3.Nodup ∧ (∀ k ∈ S3, k ∈ [w1.z] ∨ w2.z ≤ k)) (fun r ex a w => ex = .ret ∧ RetPost prog fn (Q25 w0 B r) a w) hu2e ?_ ?_ ?_ ?_ ?_
 ·exact fun _ q => ⟨[w1.z], (q.k<|s7 z z z z z z z), (cr [w1.z] w2), ho, nd_one, (io sr)⟩
 ·rintro k1d xa a3z w2f o40 hk1e ⟨S3, hS2g, sg, hb, hh, hi⟩ hm2h
  refine Wu ?_ hS2g
  refine Ws<|R z (lss z z)<|Wn<|Wq<|Wc z (fun _ => ?_) (fun hc => (nolt hk1e hc).elim)
  refine Wk<|Wq<|Wb<|Ws<|Rm z<|Ra z<|Wn<|Wg<|Rm z<|Rm z<|R z (fd f_144_7 z)<|R z (l1 g_142 z fid<|(((hz.e s0).e s8).c sg<|djs<|mm1 hx.lt<|lt_ h5.s s0.s).at z) ?_
  obtain ⟨x41, e2i, hm2j⟩ := bdS hm2h
  refine RX z (at_ (α := Int) d_142 z_3 z z z (((h10.e s0).e s8).c sg<|lg<|m1<|lt_ hBw<|lt_ hd s0.s) e2i) ?_
  rintro _ ⟨b42, o43, cs44, rfl, h2k, h2l, h45⟩
  obtain ⟨rfl, h2m⟩ := Int_open h2l
  refine R z (l1 g_3 z fid<|h2k.at0 z) ?_
  obtain ⟨x2n, e1f, hm2o⟩ := bdS hm2j
  refine RX z (rd_atU (α := Int) d_142 z_3 z z hb e1f) ?_
  rintro _ ⟨g46, h2p, rfl⟩
  refine E0 (ef_setN (α := Int) z_3 z h2p z z z e1f hb hh (Int_own h2m) an_ nd_nil) ?_
  rintro _ w2q ⟨S1g, s2r, h2s, h2t, h2u⟩
  refine Wn<|Wg<|R z (inc_ hk1e (lt_ (ownS.len ho) LEN_le) z z)<|Rm z<|Wl ?_
  have h1h : ∀ k ∈ S3, k ∈ [w1.z] ∨ w2.z ≤ k := or1 hi (io sr) (leor lr)
  have h2v : ∀ k ∈ S1g, k ∈ [w1.z] ∨ w2.z ≤ k := or2 h2u h1h an_ (leor sg.s)
  have h2w : Chg (· ∈ [w1.z]) w2 w2f := cM (cr [w1.z] w2) sg (io sr)
  have h2x : Chg (· ∈ [w1.z]) w2 w2q := cM h2w s2r h1h
  exact fun _ q => ⟨x2n, (som hm2o).symm, ⟨S1g, (q.k<|s7 z z z z z z z), h2x, h2s, h2t, h2v⟩⟩
 ·rintro xa a47 w2y ⟨S3, hS2z, s30, hb, hh, hi⟩
  refine Wu ?_ hS2z
  refine Ws<|R z (lss z z)<|Wn<|Wq<|Wc z (fun hc => (noltt hc).elim) (fun _ => ?_)
  have h31 : ∀ k ∈ S3, k ∈ [w1.z] ∨ w2.z ≤ k := or1 hi (io sr) (leor lr)
  have h32 : Chg (· ∈ [w1.z]) w2 w2y := cM (cr [w1.z] w2) s30 (io sr)
  exact We (fun a' ha' => ⟨rfl, ⟨S3, (Sat.weaken ha'<|s4 z z z z), h32, hb, hh, h31⟩⟩)
 ·rintro xa a33 w34 rfl ⟨S3, hS48, s9, hb, hh, hi⟩
  have hm35 := elL hm1c
  revert a33
  refine Wo<|Ws<|Rm z<|R z (bP (parts := []) (cs := [vI 0, sl none 0 0, sl none 0 0]) build_118 z z)<|Rm z<|Rm z ?_
  have hp := lt_ hd s0.s
  have hq := m1<|lt_ hBw hp
  have hj := lt_ (lt_ hp s8.s) s9.s
  have ht := lt_ hBw hj
  obtain ⟨r36, r49, r4a, e37, hm38⟩ := bd3S hm35
  refine E z (fc call185 z<|ih2.run (B := w34.z) (x2 := (⟨0, ([] : List UInt8), ([] : List Val)⟩ : Val)) e37 lr (repS.mono (((h12.e s0).e s8).c s9<|lg hq) ht) (repS.mono (((h13.e s0).e s8).c s9<|lg hq) ht) (((h11.e s0).e s8).c s9<|(lg hq) _ hC1b) (Nat.lt_of_lt_of_le hC1b ht) (ii z) onL nd_nil an_ onL nd_nil an_ an_ (ownS.rep hb) h21) ?_
  rintro _ w4b ⟨s1i, a1j, n1k, c1l, S1m, a1n, n1o, c1p, S1q, v39, S3a, rfl, h3b, h3c, h3d, h3e, h3f, h1r, hu, hk⟩
  iterate 3 refine R z (ext_ z z) ?_
  refine E0 (fs (cur' := [vI r36.number, sl a1j n1k c1l, sl a1n n1o c1p]) z_118 z z ((((h6.e s0).e s8).c s9<|djs<|mm1 h6.lt s0.s).c s1i<|atp<|nmA (nmN _)<|nmN _) z (lb z) (oA z) z) ?_
  rintro _ w4c ⟨h3g, s3h⟩
  have hl := s3h.one
  refine Ra z<|Ra z<|Wn ?_
  obtain rfl := som hm38
  have hv := lt_ (lt_ s0.s s8.s) s9.s
  have h3i : ∀ k ∈ S1m, k ∉ [w7.z] := or1 (al_ hk) al0 (ltnot (mem1 h6.lt) hv)
  have h3j : ∀ k ∈ S1q, k ∉ [w7.z] := or1 (ar_ hk) al0 (ltnot (mem1 h6.lt) hv)
  exact Wr<|ret3 hr (resC g_118 z_118 z h3g z) z z ⟨(bM (bM (bM (bup (bup (bup h4 h5) s0) s8) s9<|m1 hp) s1i al0) hl<|m1 h4.s), a1j, n1k, c1l, S1m, a1n, n1o, c1p, S1q, v39, S3a, z, h3b, (h3c.c hl h3i), (h3d.c hl h3j), h3e, (h3f.c hl<|o0n1 h1r h6.lt hv), (o0le h1r hj), (na_ (nl_ hu) (nr_ hu)<|nj hu), (aa_ (o1le (al_ hk) al0 hj)<|o1le (ar_ hk) al0 hj)⟩
 rintro r4d ex4e a4f w4g rfl ⟨rfl, hq3k⟩
 have hm3l := elR hm1c
 obtain rfl := som hm3l
 exact ⟨hq3k, z⟩
theorem T_w1l (ih : I_impl_fileReader_value n) : S_impl_fileReader_items (B_impl_fileReader_items n (F_impl_fileReader_value n)) := by
 obtain ⟨ih0, ih1, ih2, ih3, ih4, ih5⟩ := ih
 constructor
 intro B N0 C0 N1 C1 b1 o1 ND CD NH CH N9 C9 A0 A1 AD AH A9 S2_1 S2_2 x1 x2 x3 x4 res w0 hm hBw p1_0 p1_1 hC1 hC1b p2_0 p2_1 p2_1n p2_1g p2_2 p2_2n p2_2g p2_2d1 p3_0 p4_0
 unfold B_impl_fileReader_items at hm
 refine goF func185 z z (lb z) fun fn hr => Ws<|E z (fb z) ?_
 rintro _ wb ⟨rfl, h17⟩
 have h2 := h17.below
 have he : Blk wb w0.z [vI x2.number, sl AD ND CD, sl AH NH CH] := h17.blk
 refine E z (fa zero_118) ?_
 rintro _ w1 ⟨rfl, h18⟩
 have h3 := h18.below
 have hk : Blk w1 wb.z [vI 0, sl none 0 0, sl none 0 0] := h18.blk
 refine Ra z<|Ra z<|Wn<|Wq<|Ws<|Rm z ?_
 have h19 := (p3_0.e h2).e h3
 refine R z (lnR d_142 z h19)<|Rm z<|Wn ?_
 obtain ⟨u46, hu20, hm1a⟩ := bdS hm
 refine Wf (σ := Int × (List Val)) (ρ := Val × Int × (Option<|Int × Int)) (fun (k1b : Nat) s a w => un2 (fun xc xh => ∃ a5 n6 c7 S0, Sat 45 [(0, (.pointer<|some ⟨b1, o1, none⟩)), (3, vI xc), (5, pt w0.z), (8, pt wb.z), (16, sl A9 N9 C9), (17, vI (x3.length : Int)), (18, (vI ((k1b : Nat) : Int)))] a ∧ Chg (· ∈ (S2_2 ++ [w0.z])) w1 w ∧ inI xc ∧ ownS w S0 (sl a5 n6 c7) xh ∧ S0.Nodup ∧ (∀ k ∈ S0, k ∈ S2_2 ∨ w1.z ≤ k) ∧ Blk w w0.z [vI x2.number, sl AD ND CD, sl a5 n6 c7]) s) (fun s a w => un2 (fun xc xh => ∃ a5 n6 c7 S0, Sat 45 [(3, vI xc), (5, pt w0.z), (8, pt wb.z)] a ∧ Chg (· ∈ (S2_2 ++ [w0.z])) w1 w ∧ inI xc ∧ ownS w S0 (sl a5 n6 c7) xh ∧ S0.Nodup ∧ (∀ k ∈ S0, k ∈ S2_2 ∨ w1.z ≤ k) ∧ Blk w w0.z [vI x2.number, sl AD ND CD, sl a5 n6 c7]) s) (fun r ex a w => ex = .ret ∧ RetPost prog fn (Q26 w0 B S2_1 S2_2 r) a w) hu20 ?_ ?_ ?_ ?_ ?_
 ·exact fun _ q => ⟨AH, NH, CH, S2_2, (q.k<|s7 z z z z z z z), (cr (S2_2 ++ [w0.z]) w1), p4_0, ((p2_2.e h2).e h3), p2_2n, (io sr), (he.e h3)⟩
 ·rintro k1b ⟨xc, xh⟩ a47 w1c o48 hk1d ⟨a5, n6, c7, S0, hS21, s4, hi, hf, hl, hd, hn⟩ hm22
  have hm23 := un2S hm22
  refine Wu ?_ hS21
  refine Ws<|R z (lss z z)<|Wn<|Wq<|Wc z (fun _ => ?_) (fun hc => (nolt hk1d hc).elim)
  refine Wk<|Wq<|Wb<|Ws ?_
  obtain ⟨x49, e24, hm25⟩ := bdS hm23
  have ho := m1 hBw
  refine RX z (at_ (α := Int) d_142 z_3 z z z (h19.c s4<|nmA (lg p2_2g)<|lg ho) e24) ?_
  rintro _ ⟨b4a, o4b, cs4c, rfl, h26, h27, h4d⟩
  obtain ⟨rfl, h28⟩ := Int_open h27
  refine R z (l1 g_3 z fid<|h26.at0 z)<|Ra z<|Wn<|Ws<|Rm z<|Rm z<|Rm z ?_
  have hu := lt_ (lt_ h2.s h3.s) s4.s
  obtain ⟨rp, r29, r4e, e2a, hm1e⟩ := bd3S hm25
  refine E z (fc call154 z<|ih0.run (B := B) e2a (lt_ hBw hu) (((p1_0.e h2).e h3).c s4<|nmA (lg p2_2g)<|lg ho) (((p1_1.e h2).e h3).c s4<|nmA (lg p2_2g)<|lg ho) (((hC1.e h2).e h3).c s4<|(nmA (lg p2_2g)<|lg ho) _ hC1b) hC1b h28 hi) ?_
  rintro _ wm ⟨sa, ar, ns, cv, S1f, aw, nx, cy, S1g, v2b, S2c, rfl, h2d, hq, ht, h2e, h1h, h1i, hz, hj⟩
  refine Rm z ?_
  iterate 3 refine R z (ext_ z z) ?_
  refine E z (fa zero_118) ?_
  rintro _ w10 ⟨rfl, h1j⟩
  have h8 := h1j.below
  have h2f : Blk w10 wm.z [vI 0, sl none 0 0, sl none 0 0] := h1j.blk
  refine E0 (fs (cur' := [vI rp.number, sl ar ns cv, sl aw nx cy]) z_118 z z h2f z (lb z) (oA z) z) ?_
  rintro _ w11 ⟨h2g, s2h⟩
  have h9 := s2h.one
  refine Ra z<|Ra z<|Wn<|Wq<|Ws<|Rm z ?_
  have h1k := (h1h.e h8).c h9<|ds<|mnr<|errR.lt h1h
  refine R z (rd_neqEr d_159 z z h1k)<|Wn<|Wc z (fun hc12 => ?_) (fun hc12 => ?_)
  ·refine Ws<|R z (bP (parts := []) (cs := [vI 0, sl none 0 0, sl none 0 0]) build_118 z z)<|Rm z<|Rm z ?_
   have h2i := (((hk.c s4<|atp<|nmA (mno (ownS.lt p2_2) h2.s)<|mmr he.lt).e sa).e h8).c h9<|djs<|mm1 hk.lt<|lt_ s4.s sa.s
   refine E0 (fs (cur' := [vI 0, sl none 0 0, sl none 0 0]) z_118 z z h2i z (lb z) (oA z) z) ?_
   rintro _ w2j ⟨h2k, s2l⟩
   have h1l := s2l.one
   refine Ra z<|Ra z<|Wn ?_
   have h2m : Chg (· ∈ (S2_1 ++ S2_2)) w0 wb := cext (cr (S2_1 ++ S2_2) w0) h2
   have h2n : Chg (· ∈ (S2_1 ++ S2_2)) w0 w1 := cext h2m h3
   have h2o : ∀ k ∈ [w0.z], k ∈ (S2_1 ++ S2_2) ∨ w0.z ≤ k := mor lr
   have h2p : Chg (· ∈ (S2_1 ++ S2_2)) w0 w1c := cM h2n s4 (aa_ (io (sub_r sr)) h2o)
   have h2q : Chg (· ∈ (S2_1 ++ S2_2)) w0 wm := cext h2p sa
   have h2r : Chg (· ∈ (S2_1 ++ S2_2)) w0 w10 := cext h2q h8
   have h2s : ∀ k ∈ [wm.z], k ∈ (S2_1 ++ S2_2) ∨ w0.z ≤ k := mor (lt_ hu sa.s)
   have h2t : Chg (· ∈ (S2_1 ++ S2_2)) w0 w11 := cM h2r h9 h2s
   have h2u : ∀ k ∈ [wb.z], k ∈ (S2_1 ++ S2_2) ∨ w0.z ≤ k := mor h2.s
   have h2v : Chg (· ∈ (S2_1 ++ S2_2)) w0 w2j := cM h2t h1l h2u
   exact Wr<|rtO<|qL (som<|ifT hm1e hc12).symm<|ret3 hr (resC g_118 z_118 z h2k z) z z ⟨h2v, none, 0, 0, [], none, 0, 0, [], v2b, S2c, z, (ii z), onL, onL, hi, (h1k.c h1l<|o0n1 h1i hk.lt s4.s), (o0le h1i hu), nd0, al0⟩
  refine Wk<|Ws<|R z (fd f_118_2 z) ?_
  have h13 := lt_ h3.s s4.s
  have h1m := lt_ h13 sa.s
  have h1n := ((hn.e sa).e h8).c h9<|djs<|mm1 he.lt h1m
  refine R z (l1 g_116 z fid<|h1n.at z)<|R z (lN (vs := [vI rp.number, sl ar ns cv, sl aw nx cy]) g_118 z_118 z z fid<|h2g.row 0 3 z)<|E z (fS [(.tmp 37)] el_116 z z z (szAll z) (lb z)<|lb z) ?_
  rintro _ w1o ⟨rfl, h1p⟩
  have hg := h1p.below
  have h2w : Blk w1o w11.z [vI rp.number, sl ar ns cv, sl aw nx cy] := h1p.blk
  have h4f := (hq.e h8).c h9<|ds<|mnr<|ownS.lt hq
  have h4g := (ht.e h8).c h9<|ds<|mnr<|ownS.lt ht
  obtain ⟨x2x, e2y, hm2z⟩ := bdS (ifF hm1e hc12)
  refine E z (ef_pushN (α := Val) el_116 e2y z z ((((hf.e sa).e h8).c h9<|ds<|mno (ownS.lt hf) sa.s).e hg) hl h2w (Val_mkO (x := rp) (S1 := S1f) (S2 := S1g) h2d (((hq.e h8).c h9<|ds<|mnr<|ownS.lt hq).e hg)<|((ht.e h8).c h9<|ds<|mnr<|ownS.lt ht).e hg) (aa_ (o0no (al_ hj) (ownS.lt hf) lr)<|o0no (ar_ hj) (ownS.lt hf) lr)<|na_ (nl_ hz) (nr_ hz)<|nj hz) ?_
  rintro _ w30 ⟨S14, a1q, n1r, c1s, rfl, s1t, h31, h32, h1u⟩
  refine R z (fd f_118_2 z) ?_
  have h1v : ∀ k ∈ S0, k ∉ [w0.z] := or1 hd (ds (mnr (ownS.lt p2_2))) (ltnot (mem1 he.lt) h3.s)
  refine E0 (fs (cur' := [vI x2.number, sl AD ND CD, sl a1q n1r c1s]) z_116 z z ((h1n.e hg).c s1t<|djs h1v) z (lb z) (oA z) z) ?_
  rintro _ w33 ⟨h34, s35⟩
  have h1w := s35.one
  refine Wn<|Wg<|Rm z<|Ra z<|Wn<|Wg<|R z (inc_ hk1d (lt_ (repS.len p3_0) LEN_le) z z)<|Rm z<|Wl ?_
  have h36 : ∀ k ∈ S14, k ∉ [w0.z] := or2 h1u h1v (aa_ (o0n1 (al_ hj) he.lt h13) (o0n1 (ar_ hj) he.lt h13)) (ltnot (mem1 he.lt) (lt_ (lt_ (lt_ h1m h8.s) h9.s) hg.s))
  have h1x := lt_ s4.s sa.s
  have h37 : ∀ k ∈ S0, k ∈ S2_2 ∨ w1.z ≤ k := or1 hd (io sr) (leor lr)
  have h38 : ∀ k ∈ S1f, k ∈ S2_2 ∨ w1.z ≤ k := or0 (al_ hj)  (leor s4.s)
  have h39 : ∀ k ∈ S1g, k ∈ S2_2 ∨ w1.z ≤ k := or0 (ar_ hj)  (leor s4.s)
  have h3a : ∀ k ∈ S14, k ∈ S2_2 ∨ w1.z ≤ k := or2 h1u h37 (aa_ h38 h39) (leor (lt_ (lt_ (lt_ h1x h8.s) h9.s) hg.s))
  have h3b : Chg (· ∈ (S2_2 ++ [w0.z])) w1 w1c := cM (cr (S2_2 ++ [w0.z]) w1) s4 (aa_ (io (sub_l sr)) (io (sub_r sr)))
  have h3c : Chg (· ∈ (S2_2 ++ [w0.z])) w1 wm := cext h3b sa
  have h3d : Chg (· ∈ (S2_2 ++ [w0.z])) w1 w10 := cext h3c h8
  have h3e : ∀ k ∈ [wm.z], k ∈ (S2_2 ++ [w0.z]) ∨ w1.z ≤ k := mor h1x
  have h3f : Chg (· ∈ (S2_2 ++ [w0.z])) w1 w11 := cM h3d h9 h3e
  have h3g : Chg (· ∈ (S2_2 ++ [w0.z])) w1 w1o := cext h3f hg
  have h3h : ∀ k ∈ S0, k ∈ (S2_2 ++ [w0.z]) ∨ w1.z ≤ k := or1 hd (io (sub_l sr)) (leor lr)
  have h3i : Chg (· ∈ (S2_2 ++ [w0.z])) w1 w30 := cM h3g s1t h3h
  have h3j : Chg (· ∈ (S2_2 ++ [w0.z])) w1 w33 := cM h3i h1w (io (sub_r sr))
  exact fun _ q => ⟨(r29, x2x), (som hm2z).symm, ⟨a1q, n1r, c1s, S14, (q.k<|s7 z z z z z z z), h3j, h2e, (h31.c h1w h36), h32, h3a, h34⟩⟩
 ·rintro ⟨xc, xh⟩ a4h w3k ⟨a5, n6, c7, S0, hS3l, s3m, hi, hf, hl, hd, hn⟩
  refine Wu ?_ hS3l
  refine Ws<|R z (lss z z)<|Wn<|Wq<|Wc z (fun hc => (noltt hc).elim) (fun _ => ?_)
  have h3n : ∀ k ∈ S0, k ∈ S2_2 ∨ w1.z ≤ k := or1 hd (io sr) (leor lr)
  have h3o : Chg (· ∈ (S2_2 ++ [w0.z])) w1 w3k := cM (cr (S2_2 ++ [w0.z]) w1) s3m (aa_ (io (sub_l sr)) (io (sub_r sr)))
  exact We (fun a' ha' => ⟨rfl, ⟨a5, n6, c7, S0, (Sat.weaken ha'<|s3 z z z), h3o, hi, hf, hl, h3n, hn⟩⟩)
 ·rintro ⟨xc, xh⟩ a3p w3q rfl ⟨a5, n6, c7, S0, hS4i, s15, hi, hf, hl, hd, hn⟩
  have hm3r := elL hm1a
  have hm3s := un2S hm3r
  revert a3p
  refine Wo<|Ws<|R z (lN (vs := [vI x2.number, sl AD ND CD, sl a5 n6 c7]) g_118 z_118 z z fid<|hn.row 0 3 z)<|Rm z ?_
  have h1y := mno (ownS.lt p2_2) h2.s
  refine E0 (fs (cur' := [vI x2.number, sl AD ND CD, sl a5 n6 c7]) z_118 z z (hk.c s15<|atp<|nmA h1y<|mmr he.lt) z (lb z) (oA z) z) ?_
  rintro _ w3t ⟨h3u, s3v⟩
  have h16 := s3v.one
  refine Ra z<|Ra z<|Wn ?_
  obtain rfl := som hm3s
  have h3w : ∀ k ∈ S0, k ∉ [wb.z] := or1 hd (ds h1y) (ltnot (mem1 hk.lt) lr)
  have h3x : Chg (· ∈ (S2_1 ++ S2_2)) w0 wb := cext (cr (S2_1 ++ S2_2) w0) h2
  have h3y : Chg (· ∈ (S2_1 ++ S2_2)) w0 w1 := cext h3x h3
  have h3z : ∀ k ∈ [w0.z], k ∈ (S2_1 ++ S2_2) ∨ w0.z ≤ k := mor lr
  have h40 : Chg (· ∈ (S2_1 ++ S2_2)) w0 w3q := cM h3y s15 (aa_ (io (sub_r sr)) h3z)
  have h41 : ∀ k ∈ [wb.z], k ∈ (S2_1 ++ S2_2) ∨ w0.z ≤ k := mor h2.s
  have h42 : Chg (· ∈ (S2_1 ++ S2_2)) w0 w3t := cM h40 h16 h41
  have h1z := lt_ h2.s h3.s
  have h43 : ∀ k ∈ S0, k ∈ (S2_1 ++ S2_2) ∨ w0.z ≤ k := or1 hd (io (sub_r sr)) (leor h1z)
  exact Wr<|ret3 hr (resC g_118 z_118 z h3u z) z z ⟨h42, AD, ND, CD, S2_1, a5, n6, c7, S0, .nilIface, ([] : List Nat), z, p2_0, ((((p2_1.e h2).e h3).c s15<|nmA (ds p2_2d1)<|ds<|mnr<|ownS.lt p2_1).c h16<|ds<|mno (ownS.lt p2_1) h2.s), (hf.c h16 h3w), hi, errR_nil, an_, (na_ p2_1n hl<|ds<|o1no hd p2_2d1 (ownS.lt p2_1) h1z), (aa_ (io<|sub_l sr) h43)⟩
 rintro r4j ex4k a4l w4m rfl ⟨rfl, hq44⟩
 have hm45 := elR hm1a
 obtain rfl := som hm45
 exact ⟨hq44, z⟩
theorem T_w1m (ih : I_impl_fileReader_value n) : S_impl_fileReader_choice (B_impl_fileReader_choice n (F_impl_fileReader_value n)) := by
 obtain ⟨ih0, ih1, ih2, ih3, ih4, ih5⟩ := ih
 constructor
 intro B N0 C0 N1 C1 b1 o1 N3 C3 N4 C4 N2 C2 N5 C5 A0 A1 A3 A4 A2 A5 x1 x2 x3 res w0 hm hBw p1_0 p1_1 hC1 hC1b p2_0 p2_1 p2_2 p2_4 p2_5 p2_6 p2_7 p3_0
 unfold B_impl_fileReader_choice at hm
 refine goF func186 z z (lb z) fun fn hr => Ws<|E z (fb z) ?_
 rintro _ w5 ⟨rfl, hi⟩
 have h1 := hi.below
 have h1c : Blk w5 w0.z (vR x2 A3 N3 C3 A4 N4 C4 A2 N2 C2 A5 N5 C5) := hi.blk
 refine E z (fa zero_118) ?_
 rintro _ w1d ⟨rfl, hj⟩
 have h2 := hj.below
 have h4 : Blk w1d w5.z [vI 0, sl none 0 0, sl none 0 0] := hj.blk
 refine Ra z<|Ra z<|Wn<|Ws<|Rm z<|R z (fd f_144_7 z) ?_
 have hk := h1c.e h2
 refine R z (l1 g_142 z fid<|hk.at z) ?_
 obtain ⟨x2r, e1e, hm1f⟩ := bdS hm
 have hl := (p2_7.e h1).e h2
 refine RX z (at_ (α := Int) d_142 z_3 z z z hl e1e) ?_
 rintro _ ⟨b2s, o2t, cs2u, rfl, h1g, h1h, h2v⟩
 obtain ⟨rfl, h1i⟩ := Int_open h1h
 refine R z (l1 g_3 z fid<|h1g.at0 z)<|Rm z ?_
 have hn := (hC1.e h1).e h2
 have ho := (p1_0.e h1).e h2
 have hp := (p1_1.e h1).e h2
 have h7 := lt_ h1.s h2.s
 obtain ⟨rc, r1j, r2w, e1k, hmm⟩ := bd3S hm1f
 refine E z (fc call181 z<|W_w0b (B := B) e1k (lt_ hBw h7) ho hp hn hC1b h1i p3_0) ?_
 rintro _ w6 ⟨s0, v1l, S1m, rfl, h1n, h1o, hq, ht⟩
 refine Rm z ?_
 iterate 3 refine R z (ext_ z z) ?_
 refine Ra z<|Ra z<|Ra z<|Wn<|Wq<|Ws<|Rm z<|R z (rd_neqEr d_159 z z hq)<|Wn<|Wc z (fun hcd => ?_) (fun hcd => ?_)
 ·refine Ws<|R z (bP (parts := []) (cs := [vI 0, sl none 0 0, sl none 0 0]) build_118 z z)<|Rm z<|Rm z<|E0 (fs (cur' := [vI 0, sl none 0 0, sl none 0 0]) z_118 z z (h4.e s0) z (lb z) (oA z) z) ?_
  rintro _ w2x ⟨h1p, s1q⟩
  have hu := s1q.one
  refine Ra z<|Ra z<|Wn ?_
  obtain rfl := som (ifT hmm hcd)
  exact Wr<|ret3 hr (resC g_118 z_118 z h1p z) z z ⟨(bM (bup (bup h1 h2) s0) hu<|m1 h1.s), none, 0, 0, [], none, 0, 0, [], v1l, S1m, z, (ii z), onL, onL, p3_0, (hq.c hu<|o0n1 ht h4.lt lr), (o0le ht h7), nd0, al0⟩
 refine Wk<|Wq<|Ws<|R z (fd f_144_6 z) ?_
 have hv := hk.e s0
 refine R z (l1 g_142 z fid<|hv.at z) ?_
 have hw := ((p2_6.e h1).e h2).e s0
 refine R z (lnR d_142 z hw)<|Rm z<|Wn ?_
 obtain ⟨u2y, hu1r, hmr⟩ := bdS (ifF hmm hcd)
 refine Wf (σ := Unit) (ρ := Val × Int × (Option<|Int × Int)) (fun (ks : Nat) (_ : Unit) a w => Sat 61 [(0, (.pointer<|some ⟨b1, o1, none⟩)), (2, vI x3), (4, pt w0.z), (6, pt w5.z), (9, vI rc), (10, vI r1j), (31, sl A2 N2 C2), (32, vI (x2.tags.length : Int)), (33, (vI ((ks : Nat) : Int)))] a ∧ Below w6.z w6 w) (fun (_ : Unit) a w => Sat 61 [(2, vI x3), (6, pt w5.z)] a ∧ Below w6.z w6 w) (fun r ex a w => ex = .ret ∧ RetPost prog fn (Q25 w0 B r) a w) hu1r ?_ ?_ ?_ ?_ ?_
 ·exact fun _ q => ⟨(q.k<|s9 z z z z z z z z z), (br w6)⟩
 ·rintro ks _ a2z w30 o31 hke ⟨hS1s, s3⟩ hm1t
  refine Wu ?_ hS1s
  refine Ws<|R z (lss z z)<|Wn<|Wq<|Wc z (fun _ => ?_) (fun hc => (nolt hke hc).elim)
  refine Wk<|Wq<|Wb<|Ws<|Rm z ?_
  obtain ⟨x32, e1u, hmx⟩ := bdS hm1t
  refine RX z (at_ (α := Int) d_142 z_3 z z z (hw.e s3) e1u) ?_
  rintro _ ⟨b33, o34, cs35, rfl, h1v, h1w, h36⟩
  obtain ⟨rfl, h37⟩ := Int_open h1w
  refine R z (l1 g_3 z fid<|h1v.at0 z)<|Ra z<|Ra z<|Wn<|Ws<|Rm z<|Rm z<|R z (eql z z)<|Wn<|Wc z (fun hcf => ?_) (fun hcf => ?_)
  ·refine Ws<|Rm z<|Rm z<|R z (bP (parts := [(0, (.tmp 42))]) (cs := [vI rc, sl none 0 0, sl none 0 0]) build_118 z z)<|R z (fd f_144_7 z)<|R z (l1 g_142 z fid<|(hv.e s3).at z)<|Rm z<|R z (inc_ hke (lt_ (repS.len p2_6) LEN_le) z z)<|Rm z<|R z (add_ z z) ?_
   obtain ⟨x38, e1x, hm1y⟩ := bdS (ifT hmx hcf)
   refine RX z (rX d_142 z_3 z z ((hl.e s0).e s3) z z e1x) ?_
   rintro _ ⟨a39, n3a, c3b, rfl, h1z⟩
   refine Rm z ?_
   have h8 := lt_ (lt_ h7 s0.s) s3.s
   obtain ⟨r20, r3c, r3d, e21, hm22⟩ := bd3S hm1y
   refine E z (fc call185 z<|ih2.run (B := B) (x2 := (⟨rc, ([] : List UInt8), ([] : List Val)⟩ : Val)) e21 (lt_ hBw h8) ((ho.e s0).e s3) ((hp.e s0).e s3) ((hn.e s0).e s3) hC1b h1n onL nd_nil an_ onL nd_nil an_ an_ h1z h1o) ?_
   rintro _ w3e ⟨sy, az, n10, c11, S12, a13, n14, c15, S16, v23, S24, rfl, h25, h26, h27, h28, h29, h17, hg, h9⟩
   iterate 3 refine R z (ext_ z z) ?_
   refine E0 (fs (cur' := [vI r20.number, sl az n10 c11, sl a13 n14 c15]) z_118 z z (((h4.e s0).e s3).c sy<|atp<|nmA (nmN _)<|nmN _) z (lb z) (oA z) z) ?_
   rintro _ w3f ⟨h2a, s2b⟩
   have ha := s2b.one
   refine Ra z<|Ra z<|Wn ?_
   have hh := lt_ s0.s s3.s
   have h2c : ∀ k ∈ S12, k ∉ [w5.z] := or1 (al_ h9) al0 (ltnot (mem1 h4.lt) hh)
   have h2d : ∀ k ∈ S16, k ∉ [w5.z] := or1 (ar_ h9) al0 (ltnot (mem1 h4.lt) hh)
   exact Wr<|rtO<|qL (som hm22).symm<|ret3 hr (resC g_118 z_118 z h2a z) z z ⟨(bM (bM (bup (bup (bup h1 h2) s0) s3) sy al0) ha<|m1 h1.s), az, n10, c11, S12, a13, n14, c15, S16, v23, S24, z, h25, (h26.c ha h2c), (h27.c ha h2d), h28, (h29.c ha<|o0n1 h17 h4.lt hh), (o0le h17 h8), (na_ (nl_ hg) (nr_ hg)<|nj hg), (aa_ (o1le (al_ h9) al0 h8)<|o1le (ar_ h9) al0 h8)⟩
  exact Wk<|Wg<|R z (inc_ hke (lt_ (repS.len p2_6) LEN_le) z z)<|Rm z<|Wl (fun _ q => ⟨(), (som<|ifF hmx hcf).symm, ⟨(q.k<|s9 z z z z z z z z z), s3⟩⟩)
 ·rintro _ a3g w3h ⟨hS2e, s2f⟩
  refine Wu ?_ hS2e
  refine Ws<|R z (lss z z)<|Wn<|Wq<|Wc z (fun hc => (noltt hc).elim) (fun _ => ?_)
  exact We (fun a' ha' => ⟨rfl, ⟨(Sat.weaken ha'<|s2 z z), s2f⟩⟩)
 ·rintro _ a2g w3i rfl ⟨hS3j, sb⟩
  have hm2h := elL hmr
  revert a2g
  refine Wo<|Ws<|R z (bP (parts := []) (cs := [vI 0, sl none 0 0, sl none 0 0]) build_118 z z)<|Rm z<|Rm z ?_
  have h18 := lt_ (lt_ h7 s0.s) sb.s
  obtain ⟨r3k, e2i, hm2j⟩ := bdS hm2h
  refine E z (fc call190 z<|W_w06 (B := B) e2i (lt_ hBw h18) p3_0<|ii z) ?_
  rintro _ w3l ⟨s19, v2k, S2l, rfl, h2m, h1a⟩
  refine E0 (fs (cur' := [vI 0, sl none 0 0, sl none 0 0]) z_118 z z (((h4.e s0).e sb).e s19) z (lb z) (oA z) z) ?_
  rintro _ w3m ⟨h2n, s2o⟩
  have h1b := s2o.one
  refine Ra z<|Ra z<|Wn ?_
  obtain rfl := som hm2j
  exact Wr<|ret3 hr (resC g_118 z_118 z h2n z) z z ⟨(bM (bup (bup (bup (bup h1 h2) s0) sb) s19) h1b<|m1 h1.s), none, 0, 0, [], none, 0, 0, [], v2k, S2l, z, (ii z), onL, onL, p3_0, (h2m.c h1b<|o0n1 h1a h4.lt<|lt_ s0.s sb.s), (o0le h1a h18), nd0, al0⟩
 rintro r3n ex3o a3p w3q rfl ⟨rfl, hq2p⟩
 have hm2q := elR hmr
 obtain rfl := som hm2q
 exact ⟨hq2p, z⟩
theorem T_w1n (ih : I_impl_fileReader_value n) : S_impl_fileReader_option (B_impl_fileReader_option n (F_impl_fileReader_value n)) := by
 obtain ⟨ih0, ih1, ih2, ih3, ih4, ih5⟩ := ih
 constructor
 intro B N0 C0 N1 C1 b1 o1 N3 C3 N4 C4 N2 C2 N5 C5 A0 A1 A3 A4 A2 A5 x1 x2 x3 res w0 hm hBw p1_0 p1_1 hC1 hC1b p2_0 p2_1 p2_2 p2_4 p2_5 p2_6 p2_7 p3_0
 unfold B_impl_fileReader_option at hm
 refine goF func187 z z (lb z) fun fn hr => Ws<|E z (fb z) ?_
 rintro _ w4 ⟨rfl, hd⟩
 have h1 := hd.below
 have h13 : Blk w4 w0.z (vR x2 A3 N3 C3 A4 N4 C4 A2 N2 C2 A5 N5 C5) := hd.blk
 refine E z (fa zero_118) ?_
 rintro _ w14 ⟨rfl, he⟩
 have h2 := he.below
 have h3 : Blk w14 w4.z [vI 0, sl none 0 0, sl none 0 0] := he.blk
 refine Ra z<|Ra z<|Wn<|Ws<|Rm z<|Rm z ?_
 have hf := (hC1.e h1).e h2
 have hg := (p1_0.e h1).e h2
 have hh := (p1_1.e h1).e h2
 have h5 := lt_ h1.s h2.s
 obtain ⟨r23, r24, e15, hmi⟩ := bd2S hm
 refine E z (fc call203 z<|W_w0a (B := B) e15 (lt_ hBw h5) hg hh hf hC1b p3_0<|ii z) ?_
 rintro _ w25 ⟨s0, a26, n27, c28, v16, S17, rfl, hj, hk, hl⟩
 refine Rm z<|R z (ext_ z z)<|R z (ext_ z z)<|Ra z<|Ra z<|Wn<|Wq<|Wb<|Ws<|Rm z<|R z (rd_neqEr d_159 z z hk)<|Ra z<|Wn<|Wc z (fun hc9 => ?_) (fun hc9 => ?_)
 ·refine Ws<|R z (bP (parts := []) (cs := [vI 0, sl none 0 0, sl none 0 0]) build_118 z z)<|Rm z<|Rm z<|E0 (fs (cur' := [vI 0, sl none 0 0, sl none 0 0]) z_118 z z (h3.e s0) z (lb z) (oA z) z) ?_
  rintro _ w29 ⟨h18, s19⟩
  have hn := s19.one
  refine Ra z<|Ra z<|Wn ?_
  obtain rfl := som (ifT hmi hc9)
  exact Wr<|rtO<|ret3 hr (resC g_118 z_118 z h18 z) z z ⟨(bM (bup (bup h1 h2) s0) hn<|m1 h1.s), none, 0, 0, [], none, 0, 0, [], v16, S17, z, (ii z), onL, onL, p3_0, (hk.c hn<|o0n1 hl h3.lt lr), (o0le hl h5), nd0, al0⟩
 refine Ws<|Rm z ?_
 obtain ⟨x2a, e1a, hmm⟩ := bdS (ifF hmi hc9)
 refine RX z (at_ (α := UInt8) d_25 z_5 z z z hj e1a) ?_
 rintro _ ⟨b2b, o2c, cs2d, rfl, h1b, h1c, h2e⟩
 obtain rfl := u8 h1c
 refine R z (l1 g_5 z fid<|h1b.at0 z)<|R z (rd_gtr z z)<|Ra z<|Wn<|Wc z (fun hca => ?_) (fun hca => ?_)
 ·refine Ws<|R z (bP (parts := []) (cs := [vI 0, sl none 0 0, sl none 0 0]) build_118 z z)<|Rm z<|Rm z ?_
  have ho := lt_ h5 s0.s
  obtain ⟨r2f, e1d, hm1e⟩ := bdS (ifT hmm hca)
  refine E z (fc call190 z<|W_w06 (B := B) e1d (lt_ hBw ho) p3_0<|ii z) ?_
  rintro _ w2g ⟨sp, v1f, S1g, rfl, h1h, hq⟩
  refine E0 (fs (cur' := [vI 0, sl none 0 0, sl none 0 0]) z_118 z z ((h3.e s0).e sp) z (lb z) (oA z) z) ?_
  rintro _ w2h ⟨h1i, s1j⟩
  have ht := s1j.one
  refine Ra z<|Ra z<|Wn ?_
  obtain rfl := som hm1e
  exact Wr<|rtO<|ret3 hr (resC g_118 z_118 z h1i z) z z ⟨(bM (bup (bup (bup h1 h2) s0) sp) ht<|m1 h1.s), none, 0, 0, [], none, 0, 0, [], v1f, S1g, z, (ii z), onL, onL, p3_0, (h1h.c ht<|o0n1 hq h3.lt s0.s), (o0le hq ho), nd0, al0⟩
 refine Ws<|Rm z ?_
 obtain ⟨x2i, e1k, hmr⟩ := bdS (ifF hmm hca)
 refine RX z (at_ (α := UInt8) d_25 z_5 z z z hj e1k) ?_
 rintro _ ⟨b2j, o2k, cs2l, rfl, h1l, h1m, h2m⟩
 obtain rfl := u8 h1m
 refine R z (l1 g_5 z fid<|h1l.at0 z)<|R z (eql z z)<|Ra z<|Wn<|Wc z (fun hcb => ?_) (fun hcb => ?_)
 ·refine Ws<|R z (bP (parts := []) (cs := [vI 0, sl none 0 0, sl none 0 0]) build_118 z z)<|Rm z<|R z (add_ z z)<|E0 (fs (cur' := [vI 0, sl none 0 0, sl none 0 0]) z_118 z z (h3.e s0) z (lb z) (oA z) z) ?_
  rintro _ w2n ⟨h1n, s1o⟩
  refine Ra z<|Ra z<|Wn ?_
  obtain rfl := som (ifT hmr hcb)
  exact Wr<|rtO<|ret3 hr (resC g_118 z_118 z h1n z) z z ⟨(bM (bup (bup h1 h2) s0) s1o.one<|m1 h1.s), none, 0, 0, [], none, 0, 0, [], .nilIface, ([] : List Nat), z, (ii z), onL, onL, (iA _ _), errR_nil, an_, nd0, al0⟩
 refine Wk<|Ws<|Rm z<|R z (bP (parts := []) (cs := [vI 0, sl none 0 0, sl none 0 0]) build_118 z z)<|R z (fd f_144_7 z)<|R z (l1 g_142 z fid<|((h13.e h2).e s0).at z)<|Rm z<|R z (add_ z z) ?_
 have h6 := lt_ h5 s0.s
 obtain ⟨r1p, r2o, r2p, e1q, hm1r⟩ := bd3S (ifF hmr hcb)
 refine E z (fc call185 z<|ih2.run (B := B) (x2 := (⟨0, ([] : List UInt8), ([] : List Val)⟩ : Val)) e1q (lt_ hBw h6) (hg.e s0) (hh.e s0) (hf.e s0) hC1b (ii z) onL nd_nil an_ onL nd_nil an_ an_ (((p2_7.e h1).e h2).e s0)<|iA _ _) ?_
 rintro _ w2q ⟨ss, au, nv, cw, Sx, ay, nz, c10, S11, v1s, S1t, rfl, h1u, h1v, h1w, h1x, h1y, h12, hc, h7⟩
 iterate 3 refine R z (ext_ z z) ?_
 refine E0 (fs (cur' := [vI r1p.number, sl au nv cw, sl ay nz c10]) z_118 z z ((h3.e s0).c ss<|atp<|nmA (nmN _)<|nmN _) z (lb z) (oA z) z) ?_
 rintro _ w2r ⟨h1z, s20⟩
 have h8 := s20.one
 refine Ra z<|Ra z<|Wn ?_
 obtain rfl := som hm1r
 have h21 : ∀ k ∈ Sx, k ∉ [w4.z] := or1 (al_ h7) al0 (ltnot (mem1 h3.lt) s0.s)
 have h22 : ∀ k ∈ S11, k ∉ [w4.z] := or1 (ar_ h7) al0 (ltnot (mem1 h3.lt) s0.s)
 exact Wr<|ret3 hr (resC g_118 z_118 z h1z z) z z ⟨(bM (bM (bup (bup h1 h2) s0) ss al0) h8<|m1 h1.s), au, nv, cw, Sx, ay, nz, c10, S11, v1s, S1t, z, h1u, (h1v.c h8 h21), (h1w.c h8 h22), h1x, (h1y.c h8<|o0n1 h12 h3.lt s0.s), (o0le h12 h6), (na_ (nl_ hc) (nr_ hc)<|nj hc), (aa_ (o1le (al_ h7) al0 h6)<|o1le (ar_ h7) al0 h6)⟩
theorem T_w1o (ih : I_impl_fileReader_value n) : S_impl_fileReader_checked (B_impl_fileReader_checked n (F_impl_fileReader_value n)) := by
 obtain ⟨ih0, ih1, ih2, ih3, ih4, ih5⟩ := ih
 constructor
 intro B N0 C0 N1 C1 b1 o1 N3 C3 N4 C4 N2 C2 N5 C5 A0 A1 A3 A4 A2 A5 x1 x2 x3 res w0 hm hBw p1_0 p1_1 hC1 hC1b p2_0 p2_1 p2_2 p2_4 p2_5 p2_6 p2_7 p3_0
 unfold B_impl_fileReader_checked at hm
 refine goF func188 z z (lb z) fun fn hr => Ws<|E z (fb z) ?_
 rintro _ wb ⟨rfl, ht⟩
 have h3 := ht.below
 have h1j : Blk wb w0.z (vR x2 A3 N3 C3 A4 N4 C4 A2 N2 C2 A5 N5 C5) := ht.blk
 refine E z (fa zero_118) ?_
 rintro _ w1k ⟨rfl, hu⟩
 have h7 := hu.below
 have h4 : Blk w1k wb.z [vI 0, sl none 0 0, sl none 0 0] := hu.blk
 refine Ra z<|Ra z<|Wn<|Ws<|Rm z<|R z (bP (parts := []) (cs := [vI 0, sl none 0 0, sl none 0 0]) build_118 z z)<|R z (fd f_144_7 z)<|R z (l1 g_142 z fid<|(h1j.e h7).at z)<|Rm z ?_
 have hv := (hC1.e h3).e h7
 have hw := (p1_0.e h3).e h7
 have hx := (p1_1.e h3).e h7
 have h9 := lt_ h3.s h7.s
 obtain ⟨rj, r2l, r2m, e1l, hmr⟩ := bd3S hm
 refine E z (fc call185 z<|ih2.run (B := B) (x2 := (⟨0, ([] : List UInt8), ([] : List Val)⟩ : Val)) e1l (lt_ hBw h9) hw hx hv hC1b (ii z) onL nd_nil an_ onL nd_nil an_ an_ ((p2_7.e h3).e h7) p3_0) ?_
 rintro _ w1m ⟨s0, ac, nd, ce, Ss, af, ng, ch, Sy, v1n, S1o, rfl, h1p, hz, h10, h11, h12, h13, hk, hi⟩
 refine Rm z ?_
 iterate 3 refine R z (ext_ z z) ?_
 refine E z (fa zero_118) ?_
 rintro _ w1q ⟨rfl, h14⟩
 have h1 := h14.below
 have h1r : Blk w1q w1m.z [vI 0, sl none 0 0, sl none 0 0] := h14.blk
 refine E0 (fs (cur' := [vI rj.number, sl ac nd ce, sl af ng ch]) z_118 z z h1r z (lb z) (oA z) z) ?_
 rintro _ w2n ⟨h1s, s1t⟩
 have h2 := s1t.one
 refine Ra z<|Ra z<|Wn<|Wq<|Ws<|Rm z ?_
 have h15 := (h12.e h1).c h2<|ds<|mnr<|errR.lt h12
 refine R z (rd_neqEr d_159 z z h15)<|Wn<|Wc z (fun hcl => ?_) (fun hcl => ?_)
 ·refine Ws<|R z (bP (parts := []) (cs := [vI 0, sl none 0 0, sl none 0 0]) build_118 z z)<|Rm z<|Rm z<|E0 (fs (cur' := [vI 0, sl none 0 0, sl none 0 0]) z_118 z z (((h4.c s0<|atp<|nmA (nmN _)<|nmN _).e h1).c h2<|djs<|mm1 h4.lt s0.s) z (lb z) (oA z) z) ?_
  rintro _ w2o ⟨h1u, s1v⟩
  have h16 := s1v.one
  refine Ra z<|Ra z<|Wn ?_
  obtain rfl := som (ifT hmr hcl)
  exact Wr<|ret3 hr (resC g_118 z_118 z h1u z) z z ⟨(bM (bM (bup (bM (bup h3 h7) s0 al0) h1) h2<|m1<|lt_ h9 s0.s) h16<|m1 h3.s), none, 0, 0, [], none, 0, 0, [], v1n, S1o, z, (ii z), onL, onL, p3_0, (h15.c h16<|o0n1 h13 h4.lt lr), (o0le h13 h9), nd0, al0⟩
 refine Wk<|Ws<|Rm z<|Rm z ?_
 have ha := lt_ h9 s0.s
 have hn := m1<|lt_ hBw ha
 have h17 := ((hv.c s0<|(nmA (lg an_)<|lg an_) _ hC1b).e h1).c h2<|(lg hn) _ hC1b
 have h18 := ((hx.c s0<|nmA (lg an_)<|lg an_).e h1).c h2<|lg hn
 have ho := lt_ (lt_ ha h1.s) h2.s
 obtain ⟨r2p, r2q, e1w, hm19⟩ := bd2S (ifF hmr hcl)
 refine E z (fc call203 z<|W_w0a (B := B) e1w (lt_ hBw ho) (((hw.c s0<|nmA (lg an_)<|lg an_).e h1).c h2<|lg hn) h18 h17 hC1b h11<|ii z) ?_
 rintro _ w2r ⟨s5, a2s, n2t, c2u, v1x, S1y, rfl, h1z, h1a, h1b⟩
 refine Rm z<|R z (ext_ z z)<|R z (ext_ z z)<|Ra z<|Ra z<|Wn<|Wq<|Ws<|Rm z<|R z (rd_neqEr d_159 z z h1a)<|Wn<|Wc z (fun hcm => ?_) (fun hcm => ?_)
 ·refine Ws<|R z (bP (parts := []) (cs := [vI 0, sl none 0 0, sl none 0 0]) build_118 z z)<|Rm z<|Rm z<|E0 (fs (cur' := [vI 0, sl none 0 0, sl none 0 0]) z_118 z z ((((h4.c s0<|atp<|nmA (nmN _)<|nmN _).e h1).c h2<|djs<|mm1 h4.lt s0.s).e s5) z (lb z) (oA z) z) ?_
  rintro _ w2v ⟨h20, s21⟩
  have h1c := s21.one
  refine Ra z<|Ra z<|Wn ?_
  obtain rfl := som (ifT hm19 hcm)
  exact Wr<|ret3 hr (resC g_118 z_118 z h20 z) z z ⟨(bM (bup (bM (bup (bM (bup h3 h7) s0 al0) h1) h2<|m1 ha) s5) h1c<|m1 h3.s), none, 0, 0, [], none, 0, 0, [], v1x, S1y, z, (ii z), onL, onL, p3_0, (h1a.c h1c<|o0n1 h1b h4.lt<|lt_ (lt_ s0.s h1.s) h2.s), (o0le h1b ho), nd0, al0⟩
 refine Wk<|Wq<|Wq (Wd (X := noX) 0 (.rd 0 (.rd 1 (.rd 2 (.rd 3 (.rd 4 (.rd 5 (.rd 6 (.rd 7 (.rd 8 (.rd 9 (.rd 10 (.ef 11 (.rd 12 .done))))))))))))) mo (by kernel_rfl) fun w2w s6 _ => dR z z (mv z) ?_)
 obtain ⟨x2x, e22, hm23⟩ := bdS (ifF hm19 hcm)
 refine dRX z z (at_ (α := UInt8) d_25 z_5 z z z (h1z.e s6) e22) ?_
 rintro _ ⟨b2y, o2z, cs30, rfl, h24, h25, h31⟩
 obtain rfl := u8 h25
 refine dR z z (l1 g_5 z fid<|h24.at0 z)<|dR z z (rd_convUI d_5 d_3 z)<|dR z z (mv z)<|dR z z (rd_nil z)<|dR z z (fd f_157_1 z)<|dR z z (l1 g_25 z fid<|((h17.e s5).e s6).at (j := 1) z)<|dR z z (mv z)<|dR z z (mv z) ?_
 obtain ⟨x32, e26, hm27⟩ := bdS hm23
 refine dRX z z (rX d_25 z_5 z z ((h18.e s5).e s6) z z e26) ?_
 rintro _ ⟨a33, n34, c35, rfl, h28⟩
 have h1d := lt_ (lt_ ho s5.s) s6.s
 obtain ⟨r36, e29, hm1e⟩ := bdS hm27
 refine dE z z (fc call91 z<|W_w1c (B := B) e29 (lt_ hBw h1d) h28) (.inr fun _ _ h => chgB<|h.1) ?_
 rintro _ w37 ⟨s8, rfl, h38⟩
 refine dR z z (nq z z)<|pD<|Wo<|Wc z (fun hcp => ?_) (fun hcp => ?_)
 ·refine Ws<|R z (bP (parts := []) (cs := [vI 0, sl none 0 0, sl none 0 0]) build_118 z z)<|Rm z<|Rm z ?_
  have h1f := lt_ h1d s8.s
  obtain ⟨r39, e2a, hm2b⟩ := bdS (ifT hm1e hcp)
  refine E z (fc call190 z<|W_w06 (B := B) e2a (lt_ hBw h1f) h11<|ii z) ?_
  rintro _ w3a ⟨s1g, v2c, S2d, rfl, h2e, h1h⟩
  refine E0 (fs (cur' := [vI 0, sl none 0 0, sl none 0 0]) z_118 z z (((((((h4.c s0<|atp<|nmA (nmN _)<|nmN _).e h1).c h2<|djs<|mm1 h4.lt s0.s).e s5).e s6).e s8).e s1g) z (lb z) (oA z) z) ?_
  rintro _ w3b ⟨h2f, s2g⟩
  have h1i := s2g.one
  refine Ra z<|Ra z<|Wn ?_
  obtain rfl := som hm2b
  exact Wr<|ret3 hr (resC g_118 z_118 z h2f z) z z ⟨(bM (bup (bup (bup (bup (bM (bup (bM (bup h3 h7) s0 al0) h1) h2<|m1 ha) s5) s6) s8) s1g) h1i<|m1 h3.s), none, 0, 0, [], none, 0, 0, [], v2c, S2d, z, (ii z), onL, onL, p3_0, (h2e.c h1i<|o0n1 h1h h4.lt<|lt_ (lt_ (lt_ (lt_ (lt_ s0.s h1.s) h2.s) s5.s) s6.s) s8.s), (o0le h1h h1f), nd0, al0⟩
 refine Wk<|Ws<|R z (lN (vs := [vI rj.number, sl ac nd ce, sl af ng ch]) g_118 z_118 z z fid<|(((h1s.e s5).e s6).e s8).row 0 3 z)<|Rm z<|R z (add_ z z)<|E0 (fs (cur' := [vI rj.number, sl ac nd ce, sl af ng ch]) z_118 z z ((((((h4.c s0<|atp<|nmA (nmN _)<|nmN _).e h1).c h2<|djs<|mm1 h4.lt s0.s).e s5).e s6).e s8) z (lb z) (oA z) z) ?_
 rintro _ w3c ⟨h2h, s2i⟩
 have hq := s2i.one
 refine Ra z<|Ra z<|Wn ?_
 obtain rfl := som (ifF hm1e hcp)
 have h2j : ∀ k ∈ Ss, k ∉ [wb.z] := or1 (al_ hi) al0 (ltnot (mem1 h4.lt) lr)
 have h2k : ∀ k ∈ Sy, k ∉ [wb.z] := or1 (ar_ hi) al0 (ltnot (mem1 h4.lt) lr)
 exact Wr<|ret3 hr (resC g_118 z_118 z h2h z) z z ⟨(bM (bup (bup (bup (bM (bup (bM (bup h3 h7) s0 al0) h1) h2<|m1 ha) s5) s6) s8) hq<|m1 h3.s), ac, nd, ce, Ss, af, ng, ch, Sy, .nilIface, ([] : List Nat), z, h1p, ((((((hz.e h1).c h2<|ds<|mnr<|ownS.lt hz).e s5).e s6).e s8).c hq h2j), ((((((h10.e h1).c h2<|ds<|mnr<|ownS.lt h10).e s5).e s6).e s8).c hq h2k), (iA _ _), errR_nil, an_, (na_ (nl_ hk) (nr_ hk)<|nj hk), (aa_ (o1le (al_ hi) al0 h9)<|o1le (ar_ hi) al0 h9)⟩
theorem A_w01 : ∀ n, I_impl_fileReader_value n
  | 0 => ⟨⟨fun hm => by intros; exact nomatch (show none = some _ from hm)⟩, ⟨fun hm => by intros; exact nomatch (show none = some _ from hm)⟩, ⟨fun hm => by intros; exact nomatch (show none = some _ from hm)⟩, ⟨fun hm => by intros; exact nomatch (show none = some _ from hm)⟩, ⟨fun hm => by intros; exact nomatch (show none = some _ from hm)⟩, ⟨fun hm => by intros; exact nomatch (show none = some _ from hm)⟩⟩
  | n + 1 => ⟨T_w01 (A_w01 n), T_w1k (A_w01 n), T_w1l (A_w01 n), T_w1m (A_w01 n), T_w1n (A_w01 n), T_w1o (A_w01 n)⟩
theorem W_w01 : S_impl_fileReader_value (F_impl_fileReader_value n).impl_fileReader_value := (A_w01 n).1
theorem W_w1k : S_impl_fileReader_array (F_impl_fileReader_value n).impl_fileReader_array := (A_w01 n).2.1
theorem W_w1l : S_impl_fileReader_items (F_impl_fileReader_value n).impl_fileReader_items := (A_w01 n).2.2.1
theorem W_w1m : S_impl_fileReader_choice (F_impl_fileReader_value n).impl_fileReader_choice := (A_w01 n).2.2.2.1
theorem W_w1n : S_impl_fileReader_option (F_impl_fileReader_value n).impl_fileReader_option := (A_w01 n).2.2.2.2.1
theorem W_w1o : S_impl_fileReader_checked (F_impl_fileReader_value n).impl_fileReader_checked := (A_w01 n).2.2.2.2.2

theorem W_w0n {x1 : Desc} {x2 : Int} {x3 : List UInt8} {x4 : Int} {res : Val × Int × Int} (hm : M_impl_ReadValue n x1 x2 x3 x4 = some res) (hBw : B ≤ w0.z) (hG : Gl w0 B) (p1_0 : repS w0 B (sl A0 N0 C0) x1.rules) (p2_0 : inI x2) (p3_0 : repS w0 B (sl A9 N9 C9) x3) (p4_0 : inI x4) : CallsR prog 138 [(.agg #[sl A0 N0 C0]), vI x2, sl A9 N9 C9, vI x4] w0 (Q18 w0 B res) := by
 unfold M_impl_ReadValue at hm
 refine goF func138 z z (lb z) fun fn hr => Ws<|E z (fb z) ?_
 rintro _ wc ⟨rfl, h10⟩
 have h0 := h10.below
 have h11 : Blk wc w0.z [sl A0 N0 C0] := h10.blk
 refine E z (fa zero_118) ?_
 rintro _ wp ⟨rfl, h12⟩
 have h2 := h12.below
 have h5 : Blk wp wc.z [vI 0, sl none 0 0, sl none 0 0] := h12.blk
 refine Ra z<|Ra z<|Wn<|Wq<|Wq ?_
 obtain ⟨u1s, hu1t, hm13⟩ := bdS hm
 refine Wt (fun a w => ∃ (xq : Bool), xq = u1s ∧ Sat 62 [(1, vI x2), (2, sl A9 N9 C9), (3, vI x4), (4, pt w0.z), (8, pt wc.z), (34, vB xq)] a ∧ Below wp.z wp w) ?_ ?_
 ·refine Wg<|R z (lN (vs := [sl A0 N0 C0]) g_95 z_95 z z fid<|(h11.e h2).row 0 1 z)<|Rm z ?_
  obtain ⟨r1u, e1v, hm14⟩ := bdS hu1t
  refine E z (fc call153 z<|W_w3o (B := B) e1v (lt_ hBw<|lt_ h0.s h2.s) ((p1_0.e h0).e h2) p2_0) ?_
  rintro _ w2p ⟨sd, rfl⟩
  refine R z (not_ z)<|Rm z ?_
  rcases bs (!r1u) with hc9 | hc9
  ·exact Nh z hc9<|Nh z hc9<|R z (pT z hc9 z)<|Rm z<|Nh z z<|Nh z z<|Nh z z<|Nh z z<|R z (pT z z z)<|Rm z<|Nh z z<|Nh z z<|Nh z z<|R z (pT z z z)<|Wl (fun _ q => ⟨true, som<|ifT hm14 hc9, (q.k<|s6 z z z z z z), sd⟩)
  have hm15 := ifF hm14 hc9
  refine Rh z hc9 (mv z)<|Rh z hc9 (lss z z)<|R z (pF z hc9 z)<|Rm z ?_
  rcases bs (decide (x4 < 0)) with hc6 | hc6
  ·iterate 4 refine Nh z hc6 ?_
   exact R z (pT z hc6 z)<|Rm z<|Nh z z<|Nh z z<|Nh z z<|R z (pT z z z)<|Wl (fun _ q => ⟨true, som<|ifT hm15 hc6, (q.k<|s6 z z z z z z), sd⟩)
  have hm16 := ifF hm15 hc6
  refine Rh z hc6 (mv z)<|Rh z hc6 (mv z) ?_
  have h17 := ((p3_0.e h0).e h2).e sd
  refine Rh z hc6 (lnR d_25 z h17)<|Rh z hc6 (rd_gtr z z)<|R z (pF z hc6 z)<|Rm z ?_
  rcases bs (decide ((x3.length : Int) < x4)) with hca | hca
  ·iterate 3 refine Nh z hca ?_
   exact R z (pT z hca z)<|Wl (fun _ q => ⟨true, som<|ifT hm16 hca, (q.k<|s6 z z z z z z), sd⟩)
  exact Rh z hca (mv z)<|Rh z hca (lnR d_25 z h17)<|Rh z hca (rd_gtr z z)<|R z (pF z hca z)<|Wl (fun _ q => ⟨decide (400 < (x3.length : Int)), som<|ifF hm16 hca, (q.k<|s6 z z z z z z), sd⟩)
 rintro a1w w1x ⟨xq, rfl, hS2q, s1⟩
 revert a1w
 refine Wo<|Wc z (fun hcr => ?_) (fun hcr => ?_)
 ·refine Ws<|R z (bP (parts := []) (cs := [vI 0, sl none 0 0, sl none 0 0]) build_118 z z)<|E0 (fs (cur' := [vI 0, sl none 0 0, sl none 0 0]) z_118 z z (h5.e s1) z (lb z) (oA z) z) ?_
  rintro _ w2r ⟨h1y, s1z⟩
  refine Ra z<|Ra z<|Wn ?_
  obtain rfl := som (ifT hm13 hcr)
  exact Wr<|ret3 hr (resC g_118 z_118 z h1y z) z z ⟨(bM (bup (bup h0 h2) s1) s1z.one<|m1 h0.s), none, 0, 0, [], none, 0, 0, [], z, (ii z), onL, onL, (ii z), (ii z), nd0, al0⟩
 refine Wk<|Ws<|R z (lN (vs := [sl A0 N0 C0]) g_95 z_95 z z fid<|((h11.e h2).e s1).row 0 1 z)<|Rm z<|R z (bP (parts := [(0, (.tmp 36)), (1, (.tmp 37))]) (cs := [sl A0 N0 C0, sl A9 N9 C9]) build_157 z z)<|E z (fb z) ?_
 rintro _ w18 ⟨rfl, h19⟩
 have h7 := h19.below
 have h1a : Blk w18 w1x.z [sl A0 N0 C0, sl A9 N9 C9] := h19.blk
 refine Ra z<|Wn<|Ws<|Rm z<|Rm z<|Rm z ?_
 have he := lt_ (lt_ (lt_ h0.s h2.s) s1.s) h7.s
 have h1b := lt_ hBw he
 obtain ⟨rs, r2s, r20, e21, hm1c⟩ := bd3S (ifF hm13 hcr)
 refine E z (fc call154 z<|W_w01.run (B := w18.z) e21 lr (repS.mono ((((p1_0.e h0).e h2).e s1).e h7) h1b) (repS.mono ((((p3_0.e h0).e h2).e s1).e h7) h1b) (h1a.row 0 2 z) h1a.lt p2_0 p4_0) ?_
 rintro _ w22 ⟨sb, ag, nh, ci, S23, aj, nk, cl, S24, v2t, S2u, rfl, h25, h1d, h1e, h26, ht, h27, hu, hn⟩
 refine Rm z ?_
 iterate 3 refine R z (ext_ z z) ?_
 refine E z (fa zero_118) ?_
 rintro _ w28 ⟨rfl, h1f⟩
 have h3 := h1f.below
 have h29 : Blk w28 w22.z [vI 0, sl none 0 0, sl none 0 0] := h1f.blk
 refine E0 (fs (cur' := [vI rs.number, sl ag nh ci, sl aj nk cl]) z_118 z z h29 z (lb z) (oA z) z) ?_
 rintro _ w1g ⟨h2a, s2b⟩
 have h4 := s2b.one
 refine Ra z<|Ra z<|Wn<|Ws<|E z (fa zero_162) ?_
 rintro _ w2c ⟨rfl, h1h⟩
 have h8 := h1h.below
 have h1i : Blk w2c w1g.z [(.pointer none)] := h1h.blk
 refine Wn<|Wq<|Ws<|Rm z<|R z (rd_makeIface d_164 (fun _ h => by cases h) z) ?_
 have h1j := ((ht.e h3).c h4<|ds<|mnr<|errR.lt ht).e h8
 rcases bs (r20.isSome) with hcm | hcm
 ·obtain ⟨r2v, r2w, e2d, hm2e⟩ := bd2S (ifT hm1c hcm)
  have hv := lt_ he sb.s
  refine E z (fc call155 z<|W_As_some ((((((((hG.e h0).e h2).e s1).e h7).e sb).e h3).c h4<|lg<|m1<|lt_ hBw hv).e h8) h1j e2d h1i) ?_
  rintro _ w2x ⟨g1k, rfl, s2f, h2g, h2h, h1l, h2i, h2j⟩
  have hw := s2f.one
  refine Wn<|Wc z (fun _ => ?_) (fun hc => (bcon z hc).elim)
  refine Wq (Wd (X := (· ∈ [wc.z])) 0 (.rd 0 (.rd 1 (.rd 2 (.rd 3 (.rd 4 (.rd 5 (.rd 6 (.rd 7 (.rd 8 (.ef 9 (.rd 10 (.rd 11 .done)))))))))))) mo (by kernel_rfl) fun w2y so _ => dR z z (bP (parts := []) (cs := [vI 0, sl none 0 0, sl none 0 0]) build_118 z z) ?_)
  have h1m := h2g.e so
  have h1n := lt_ s1.s h7.s
  have h1o := lt_ h1n sb.s
  have h1p := lt_ (lt_ h1o h3.s) h4.s
  have hx := mm1 h5.lt h1p
  refine dR z z (l1 g_162 z (atp hx)<|h1m.at z)<|dR z z (rd_nil z)<|dR z z (fd f_166_0 z) ?_
  have h2k : ∀ k ∈ [g1k], k ∉ [w1g.z] := or1 (mem1 (.inl h1l)) (ds (mno (errR.lt ht) (lt_ h3.s h4.s))) (ltnot (mem1 h1i.lt) lr)
  have h1q := (h2h.c hw<|atp h2k).e so
  have h1r : ∀ k ∈ [g1k], k ∉ [wc.z] := or1 (mem1 (.inl h1l)) (o0n1 h27 h5.lt h1n) (ltnot (mem1 h5.lt) (lt_ h1p h8.s))
  refine dR z z (l1 g_3 z (atp h1r)<|h1q.at z)<|dR z z (l1 g_162 z (atp hx)<|h1m.at z)<|dR z z (rd_nil z)<|dR z z (fd f_166_1 z)<|dR z z (l1 g_3 z (atp h1r)<|h1q.at z)<|dE0 z (fs (cur' := [vI 0, sl none 0 0, sl none 0 0]) z_118 z z ((((((((h5.e s1).e h7).e sb).e h3).c h4<|djs<|mm1 h5.lt h1o).e h8).c hw<|djs hx).e so) z (lb z) (oA z) z) (.inr fun _ _ h => chgIn (List.mem_singleton.2 z) h.2) ?_
  rintro _ w2z ⟨h2l, s2m⟩
  refine dR z z (asg z)<|dR z z (asg z)<|pD<|Wo ?_
  obtain rfl := som hm2e
  exact Wr<|ret3 hr (resC g_118 z_118 z h2l z) z z ⟨(bM (bup (bM (bup (bM (bup (bup (bup (bup (bup h0 h2) s1) h7) sb) h3) h4<|m1 hv) h8) hw<|m1<|lt_ (lt_ hv h3.s) h4.s) so) s2m.one<|m1 h0.s), none, 0, 0, [], none, 0, 0, [], z, (ii z), onL, onL, h2i, h2j, nd0, al0⟩
 refine E z (fc call155 z<|W_As_none h1j hcm) ?_
 rintro _ w30 ⟨rfl, sf⟩
 refine Wn<|Wc z (fun hc => (bcon hc z).elim) (fun _ => ?_)
 refine Wk<|Ws<|R z (lN (vs := [vI rs.number, sl ag nh ci, sl aj nk cl]) g_118 z_118 z z fid<|((h2a.e h8).e sf).row 0 3 z)<|Rm z ?_
 have hy := lt_ s1.s h7.s
 refine E0 (fs (cur' := [vI rs.number, sl ag nh ci, sl aj nk cl]) z_118 z z (((((((h5.e s1).e h7).e sb).e h3).c h4<|djs<|mm1 h5.lt<|lt_ hy sb.s).e h8).e sf) z (lb z) (oA z) z) ?_
 rintro _ w31 ⟨h2n, s2o⟩
 have hz := s2o.one
 refine Ra z<|Ra z<|Wn ?_
 obtain rfl := som (ifF hm1c hcm)
 exact Wr<|ret3 hr (resC g_118 z_118 z h2n z) z z ⟨(bM (bup (bup (bM (bup (bup (bup (bup (bup h0 h2) s1) h7) sb) h3) h4<|m1<|lt_ he sb.s) h8) sf) hz<|m1 h0.s), ag, nh, ci, S23, aj, nk, cl, S24, z, h25, (((((h1d.e h3).c h4<|ds<|mnr<|ownS.lt h1d).e h8).e sf).c hz<|o0n1 (al_ hn) h5.lt hy), (((((h1e.e h3).c h4<|ds<|mnr<|ownS.lt h1e).e h8).e sf).c hz<|o0n1 (ar_ hn) h5.lt hy), h26, (ii z), (na_ (nl_ hu) (nr_ hu)<|nj hu), (aa_ (o0le (al_ hn) he)<|o0le (ar_ hn) he)⟩
theorem W_w3s {x1 : Desc} {x2 : List UInt8} {res : Val × Int × Int} (hm : M_impl_ReadFile n x1 x2 = some res) (hBw : B ≤ w0.z) (hG : Gl w0 B) (p1_0 : repS w0 B (sl A0 N0 C0) x1.rules) (p2_0 : repS w0 B (sl A6 N6 C6) x2) : CallsR prog 115 [(.agg #[sl A0 N0 C0]), sl A6 N6 C6] w0 (Q18 w0 B res) := by
 unfold M_impl_ReadFile at hm
 refine goF func115 z z (lb z) fun fn hr => Ws<|E z (fb z) ?_
 rintro _ wn ⟨rfl, h1g⟩
 have h2 := h1g.below
 have hv : Blk wn w0.z [sl A0 N0 C0] := h1g.blk
 refine E z (fa zero_118) ?_
 rintro _ w5 ⟨rfl, h1h⟩
 have h1 := h1h.below
 have ho : Blk w5 wn.z [vI 0, sl none 0 0, sl none 0 0] := h1h.blk
 refine Ra z<|Ra z<|Wn<|Wq ?_
 obtain ⟨u2x, hu1i, hm2y⟩ := bdS hm
 refine Wt (fun a w => ∃ (xb : Int) (xw : List UInt8) (xx : List Val) (xc : Int) (xd : Int), (xb, xw, xx, xc, xd) = u2x ∧ ∃ ae nf cg S7 ah ni cj S8 g9, Sat 32 [(1, sl A6 N6 C6), (4, pt wn.z), (7, pt g9), (8, vI xc), (9, vI xd)] a ∧ Below w5.z w5 w ∧ inI xb ∧ ownS w S7 (sl ae nf cg) xw ∧ S7.Nodup ∧ (∀ k ∈ S7, w5.z ≤ k) ∧ ownS w S8 (sl ah ni cj) xx ∧ S8.Nodup ∧ (∀ k ∈ S8, w5.z ≤ k) ∧ (∀ k ∈ S8, k ∉ S7) ∧ inI xc ∧ inI xd ∧ Blk w g9 [vI xb, sl ae nf cg, sl ah ni cj] ∧ w5.z ≤ g9 ∧ (∀ k ∈ S7, k ∉ [g9]) ∧ (∀ k ∈ S8, k ∉ [g9])) ?_ ?_
 ·refine Wd (X := fun k => k ∈ ([] : List Nat) ∨ w5.z ≤ k) 0 (.rd 0 (.rd 1 (.rd 3 (.br 2 (.br 4 (.rd 5 (.rd 6 (.rd 7 (.rd 8 (.ef 9 (.ef 10 (.rd 11 (.rd 12 .done)))))))) 9 (.ef 4 (.rd 5 (.rd 6 (.rd 7 (.rd 8 (.ef 10 (.rd 11 (.rd 12 .done))))))))) 9 (.ef 2 (.ef 4 (.rd 5 (.rd 6 (.rd 7 (.rd 8 (.ef 10 (.rd 11 (.rd 12 .done))))))))))))) mo (by kernel_rfl) fun w1j s0 _ => ?_
  have h1k := (hv.e h1).e s0
  refine dR z z (lN (vs := [sl A0 N0 C0]) g_95 z_95 z z (notNew nm0<|Nat.lt_of_lt_of_le hv.lt h1.s)<|h1k.row 0 1 z)<|dR z z (lN (vs := [sl A0 N0 C0]) g_95 z_95 z z (notNew nm0<|Nat.lt_of_lt_of_le hv.lt h1.s)<|h1k.row 0 1 z)<|dR z z (mv z)<|PR_br ?_ ?_
  ·have hy := ((p1_0.e h2).e h1).e s0
   have hz := lt_ (lt_ h2.s h1.s) s0.s
   obtain ⟨r4o, e2z, hm1l⟩ := bdS hu1i
   refine dE z z (fc call139 z<|W_w1i (B := B) e2z (lt_ hBw hz) hy) (.inr fun _ _ h => chgB<|h.1) ?_
   rintro _ w1m ⟨s3, rfl, h1n⟩
   refine PR_br ?_ ?_
   ·obtain ⟨rp, r30, r31, e32, hm33⟩ := bd3S hm1l
    refine dE z z (fc call138 z<|W_w0n (B := B) e32 (lt_ hBw<|lt_ hz s3.s) ((((hG.e h2).e h1).e s0).e s3) (hy.e s3) h1n ((((p2_0.e h2).e h1).e s0).e s3)<|ii z) (.inr fun _ _ h => chgB<|h.1) ?_
    rintro _ w1o ⟨s1p, a1q, n1r, c1s, S34, a1t, n1u, c1v, S35, rfl, h36, h1w, h1x, h37, h38, h10, h1y⟩
    refine dR z z (mv z) ?_
    iterate 3 refine dR z z (ext_ z z) ?_
    refine dE z z (fa zero_118) (.inr fun _ _ h => chgB<|h.2.below) ?_
    rintro _ w39 ⟨rfl, h1z⟩
    have h11 := h1z.below
    have h3a : Blk w39 w1o.z [vI 0, sl none 0 0, sl none 0 0] := h1z.blk
    have h12 := lt_ s0.s s3.s
    have h13 := m1<|lt_ h12 s1p.s
    refine dE0 z (fs (cur' := [vI rp.number, sl a1q n1r c1s, sl a1t n1u c1v]) z_118 z z h3a z (lb z) (oA z) z) (.inr fun _ _ h => chgNew (atp h13) h.2) ?_
    rintro _ w4p ⟨h3b, s3c⟩
    have h14 := s3c.one
    refine dR z z (asg z)<|dR z z (asg z)<|pD ?_
    have h20 := mnr<|ownS.lt h1w
    have h21 := mnr<|ownS.lt h1x
    exact fun _ q => ⟨rp.number, rp.bytes, rp.items, r30, r31, som hm33, a1q, n1r, c1s, S34, a1t, n1u, c1v, S35, w1o.z, (q.k<|s5 z z z z z), (bM (bup (bup (bup s0 s3) s1p) h11) h14 h13), h36, ((h1w.e h11).c h14<|ds h20), (nl_ h10), (o0le (al_ h1y) h12), ((h1x.e h11).c h14<|ds h21), (nr_ h10), (o0le (ar_ h1y) h12), (ds<|nj h10), h37, h38, h3b, (atp h13), (ds h20), (ds h21)⟩
   refine dE z z (fa zero_118) (.inr fun _ _ h => chgB<|h.2.below) ?_
   rintro _ w3d ⟨rfl, h22⟩
   have hk := h22.below
   have h15 : Blk w3d w1m.z [vI 0, sl none 0 0, sl none 0 0] := h22.blk
   obtain ⟨rq, r3e, r3f, e3g, hm3h⟩ := bd3S hm1l
   refine dE z z (fc call138 z<|W_w0n (B := B) e3g (lt_ hBw<|lt_ (lt_ hz s3.s) hk.s) (((((hG.e h2).e h1).e s0).e s3).e hk) ((hy.e s3).e hk) h1n (((((p2_0.e h2).e h1).e s0).e s3).e hk)<|ii z) (.inr fun _ _ h => chgB<|h.1) ?_
   rintro _ w4q ⟨s23, a24, n25, c26, S3i, a27, n28, c29, S3j, rfl, h3k, h3l, h3m, h3n, h3o, h16, ht⟩
   refine dR z z (mv z) ?_
   iterate 3 refine dR z z (ext_ z z) ?_
   have h2a := lt_ s0.s s3.s
   have h17 := m1 h2a
   refine dE0 z (fs (cur' := [vI rq.number, sl a24 n25 c26, sl a27 n28 c29]) z_118 z z (h15.e s23) z (lb z) (oA z) z) (.inr fun _ _ h => chgNew (atp h17) h.2) ?_
   rintro _ w4r ⟨h3p, s3q⟩
   have h18 := s3q.one
   refine dR z z (asg z)<|dR z z (asg z)<|pD ?_
   have h2b := o0n1 (al_ ht) h15.lt lr
   have h2c := lt_ h2a hk.s
   have h2d := o0n1 (ar_ ht) h15.lt lr
   exact fun _ q => ⟨rq.number, rq.bytes, rq.items, r3e, r3f, som hm3h, a24, n25, c26, S3i, a27, n28, c29, S3j, w1m.z, (q.k<|s5 z z z z z), (bM (bup (bup (bup s0 s3) hk) s23) h18 h17), h3k, (h3l.c h18 h2b), (nl_ h16), (o0le (al_ ht) h2c), (h3m.c h18 h2d), (nr_ h16), (o0le (ar_ ht) h2c), (ds<|nj h16), h3n, h3o, h3p, (atp h17), h2b, h2d⟩
  refine dE z z (fa zero_118) (.inr fun _ _ h => chgB<|h.2.below) ?_
  rintro _ w3r ⟨rfl, h2e⟩
  have hl := h2e.below
  have h19 : Blk w3r w1j.z [vI 0, sl none 0 0, sl none 0 0] := h2e.blk
  have h2f := (((p1_0.e h2).e h1).e s0).e hl
  have h2g := lt_ (lt_ (lt_ h2.s h1.s) s0.s) hl.s
  obtain ⟨r4s, e3s, hm3t⟩ := bdS hu1i
  refine dE z z (fc call139 z<|W_w1i (B := B) e3s (lt_ hBw h2g) h2f) (.inr fun _ _ h => chgB<|h.1) ?_
  rintro _ w4t ⟨s6, rfl, h3u⟩
  obtain ⟨rr, r3v, r3w, e3x, hm3y⟩ := bd3S hm3t
  refine dE z z (fc call138 z<|W_w0n (B := B) e3x (lt_ hBw<|lt_ h2g s6.s) (((((hG.e h2).e h1).e s0).e hl).e s6) (h2f.e s6) h3u (((((p2_0.e h2).e h1).e s0).e hl).e s6)<|ii z) (.inr fun _ _ h => chgB<|h.1) ?_
  rintro _ w4u ⟨s2h, a2i, n2j, c2k, S3z, a2l, n2m, c2n, S40, rfl, h41, h42, h43, h44, h45, h1a, hu⟩
  refine dR z z (mv z) ?_
  iterate 3 refine dR z z (ext_ z z) ?_
  have h1b := m1 s0.s
  refine dE0 z (fs (cur' := [vI rr.number, sl a2i n2j c2k, sl a2l n2m c2n]) z_118 z z ((h19.e s6).e s2h) z (lb z) (oA z) z) (.inr fun _ _ h => chgNew (atp h1b) h.2) ?_
  rintro _ w4v ⟨h46, s47⟩
  have h1c := s47.one
  refine dR z z (asg z)<|dR z z (asg z)<|pD ?_
  have h2o := o0n1 (al_ hu) h19.lt s6.s
  have h2p := lt_ (lt_ s0.s hl.s) s6.s
  have h2q := o0n1 (ar_ hu) h19.lt s6.s
  exact fun _ q => ⟨rr.number, rr.bytes, rr.items, r3v, r3w, som hm3y, a2i, n2j, c2k, S3z, a2l, n2m, c2n, S40, w1j.z, (q.k<|s5 z z z z z), (bM (bup (bup (bup s0 hl) s6) s2h) h1c h1b), h41, (h42.c h1c h2o), (nl_ h1a), (o0le (al_ hu) h2p), (h43.c h1c h2q), (nr_ h1a), (o0le (ar_ hu) h2p), (ds<|nj h1a), h44, h45, h46, (atp h1b), h2o, h2q⟩
 rintro a48 ws ⟨xb, xw, xx, xc, xd, rfl, ae, nf, cg, S7, ah, ni, cj, S8, g9, hS4w, sm, h49, h4a, h4b, h2r, h4c, h4d, h2s, h4e, h2t, h4f, h4g, h4x, h4y, h4z⟩
 have hm4h := un5S hm2y
 revert a48
 refine Wo<|Wq<|Wq ?_
 obtain ⟨u4i, hu2u, hm2v⟩ := bdS hm4h
 refine Wt (fun a w => ∃ (x1d : Bool), x1d = u4i ∧ Sat 32 [(4, pt wn.z), (7, pt g9), (8, vI xc), (9, vI xd), (26, vB x1d)] a ∧ Below ws.z ws w) ?_ ?_
 ·refine Wg<|Rm z<|R z (eql z z)<|Rm z ?_
  rcases bs (xd == 0) with hc4 | hc4
  ·exact Rh z hc4 (mv z)<|Rh z hc4 (mv z)<|Rh z hc4 (lnR d_25 z<|((p2_0.e h2).e h1).e sm)<|Rh z hc4 (lss z z)<|R z (pT z hc4 z)<|Wl (fun _ q => ⟨decide (xc < (x2.length : Int)), som<|ifT hu2u hc4, (q.k<|s5 z z z z z), (br ws)⟩)
  iterate 4 refine Nh z hc4 ?_
  exact R z (pF z hc4 z)<|Wl (fun _ q => ⟨false, som<|ifF hu2u hc4, (q.k<|s5 z z z z z), (br ws)⟩)
 rintro a4j w50 ⟨x1d, rfl, hS51, sa⟩
 revert a4j
 refine Wo<|Wc z (fun hc1e => ?_) (fun hc1e => ?_)
 ·refine Ws<|R z (bP (parts := []) (cs := [vI 0, sl none 0 0, sl none 0 0]) build_118 z z)<|Rm z<|E0 (fs (cur' := [vI 0, sl none 0 0, sl none 0 0]) z_118 z z ((ho.e sm).e sa) z (lb z) (oA z) z) ?_
  rintro _ w52 ⟨h4k, s4l⟩
  refine Ra z<|Ra z<|Wn ?_
  obtain rfl := som (ifT hm2v hc1e)
  exact Wr<|ret3 hr (resC g_118 z_118 z h4k z) z z ⟨(bM (bup (bup (bup h2 h1) sm) sa) s4l.one<|m1 h2.s), none, 0, 0, [], none, 0, 0, [], z, (ii z), onL, onL, h2t, (ii z), nd0, al0⟩
 refine Wk<|Ws<|R z (lN (vs := [vI xb, sl ae nf cg, sl ah ni cj]) g_118 z_118 z z fid<|(h4g.e sa).row 0 3 z)<|Rm z<|Rm z<|E0 (fs (cur' := [vI xb, sl ae nf cg, sl ah ni cj]) z_118 z z ((ho.e sm).e sa) z (lb z) (oA z) z) ?_
 rintro _ w53 ⟨h4m, s4n⟩
 have h1f := s4n.one
 refine Ra z<|Ra z<|Wn ?_
 obtain rfl := som (ifF hm2v hc1e)
 have h2w := lt_ h2.s h1.s
 exact Wr<|ret3 hr (resC g_118 z_118 z h4m z) z z ⟨(bM (bup (bup (bup h2 h1) sm) sa) h1f<|m1 h2.s), ae, nf, cg, S7, ah, ni, cj, S8, z, h49, ((h4a.e sa).c h1f<|o0n1 h2r ho.lt lr), ((h4c.e sa).c h1f<|o0n1 h2s ho.lt lr), h2t, h4f, (na_ h4b h4d<|ds h4e), (aa_ (o0le h2r h2w)<|o0le h2s h2w)⟩
theorem W_w3t {x1 : Desc} {x2 : List UInt8} {res : Bool} (hm : M_impl_IsFileOf n x1 x2 = some res) (hBw : B ≤ w0.z) (hG : Gl w0 B) (p1_0 : repS w0 B (sl A0 N0 C0) x1.rules) (p2_0 : repS w0 B (sl A6 N6 C6) x2) : CallsR prog 86 [(.agg #[sl A0 N0 C0]), sl A6 N6 C6] w0 (Q11 w0 B res) := by
 unfold M_impl_IsFileOf at hm
 refine goF func86 z z (lb z) fun fn hr => Ws<|E z (fb z) ?_
 rintro _ w4 ⟨rfl, h1⟩
 have h0 := h1.below
 have h5 : Blk w4 w0.z [sl A0 N0 C0] := h1.blk
 refine Ra z<|Wn<|Ws<|R z (lN (vs := [sl A0 N0 C0]) g_95 z_95 z z fid<|h5.row 0 1 z)<|Rm z ?_
 obtain ⟨r6, rj, rk, e7, hm8⟩ := bd3S hm
 refine E z (fc call115 z<|W_w3s (B := B) e7 (lt_ hBw h0.s) (hG.e h0) (p1_0.e h0)<|p2_0.e h0) ?_
 rintro _ w9 ⟨s2, aa, nb, cc, Sl, ad, ne, cf, Sm, rfl, hn, ho, hp, hq, ht, hu, hv⟩
 refine Rm z ?_
 iterate 3 refine R z (ext_ z z) ?_
 refine E z (fa zero_118) ?_
 rintro _ wg ⟨rfl, h3⟩
 have hh : Blk wg w9.z [vI 0, sl none 0 0, sl none 0 0] := h3.blk
 refine E0 (fs (cur' := [vI r6.number, sl aa nb cc, sl ad ne cf]) z_118 z z hh z (lb z) (oA z) z) ?_
 rintro _ wr ⟨hw, si⟩
 refine Ra z<|Ra z<|Wn<|Ws<|Rm z<|R z (eql z z)<|Ra z<|Wn ?_
 obtain rfl := som hm8
 exact Wr<|ret1 hr z ⟨(bM (bup (bup h0 s2) h3.below) si.one<|m1<|lt_ h0.s s2.s), z⟩
theorem W_w1p {x1 : Archive} {res : Bool} (hm : M_impl_IsValidArchive n x1 = some res) (hBw : B ≤ w0.z) (hG : Gl w0 B) (p1_0 : repS w0 B (sl A0 N0 C0) x1.registry.versions) (p1_1 : repS w0 B (sl A1 N1 C1) x1.log.bytes) (p1_2 : inI x1.log.stored) : CallsR prog 50 [(.agg #[sl A0 N0 C0, sl A1 N1 C1, vI x1.log.stored])] w0 (Q11 w0 B res) := by
 unfold M_impl_IsValidArchive at hm
 refine goF func50 z z (lb z) fun fn hr => Ws<|E z (fb z) ?_
 rintro _ wh ⟨rfl, ht⟩
 have h2 := ht.below
 have hg : Blk wh w0.z [sl A0 N0 C0, sl A1 N1 C1, vI x1.log.stored] := ht.blk
 refine Ra z<|Wn<|Wq<|Wq ?_
 obtain ⟨u1l, hu1m, hmr⟩ := bdS hm
 refine Wt (fun a w => ∃ (xj : Bool), xj = u1l ∧ Sat 60 [(1, pt w0.z), (21, vB xj)] a ∧ Below wh.z wh w) ?_ ?_
 ·refine Wg<|R z (fd f_37_0 z)<|R z (lN (vs := [sl A0 N0 C0]) g_34 z_34 z z fid<|hg.row 0 1 z) ?_
  have hu := p1_0.e h2
  have hk := lt_ hBw h2.s
  obtain ⟨r1n, e1o, hms⟩ := bdS hu1m
  refine E z (fc call82 z<|W_w3j (B := B) (x1 := (⟨x1.registry.versions⟩ : Registry)) e1o hk hu) ?_
  rintro _ w30 ⟨s8, rfl⟩
  refine R z (not_ z)<|Rm z ?_
  rcases bs (!r1n) with hc4 | hc4
  ·iterate 4 refine Nh z hc4 ?_
   exact R z (pT z hc4 z)<|Rm z<|Nh z z<|Nh z z<|Nh z z<|R z (pT z z z)<|Wl (fun _ q => ⟨true, som<|ifT hms hc4, (q.k<|s2 z z), s8⟩)
  refine Rh z hc4 (fd f_37_1 z) ?_
  have hv := hg.e s8
  refine Rh z hc4 (lN (vs := [sl A1 N1 C1, vI x1.log.stored]) g_35 z_35 z z fid<|hv.row 1 2 z) ?_
  have hw := (p1_1.e h2).e s8
  obtain ⟨r1p, e1q, hmx⟩ := bdS (ifF hms hc4)
  refine Eg z z hc4 z (fc call83 z<|W_w1f (B := B) (x1 := (⟨x1.log.bytes, x1.log.stored⟩ : Log)) e1q (lt_ hBw<|lt_ h2.s s8.s) hw p1_2) ?_
  rintro _ w31 ⟨se, rfl⟩
  refine Rh z hc4 (not_ z)<|R z (pF z hc4 z)<|Rm z ?_
  rcases bs (!r1p) with hc5 | hc5
  ·iterate 3 refine Nh z hc5 ?_
   exact R z (pT z hc5 z)<|Wl (fun _ q => ⟨true, som<|ifT hmx hc5, (q.k<|s2 z z), (bup s8 se)⟩)
  obtain ⟨r1r, e1s, hm1t⟩ := bdS (ifF hmx hc5)
  refine Eg z z hc5 z (fc call51 z<|W_w3m (B := wh.z) e1s (lt_ s8.s se.s) (repS.mono ((hu.e s8).e se) hk) (repS.mono (hw.e se) hk) p1_2 ((hv.e se).row 0 3 z) hg.lt) ?_
  rintro _ w32 ⟨s1u, a33, n34, c35, rfl, h1v⟩
  exact Rh z hc5 (lnR d_59 z h1v)<|Rh z hc5 (rd_gtr z z)<|R z (pF z hc5 z)<|Wl (fun _ q => ⟨decide (20 < (r1r.length : Int)), som hm1t, (q.k<|s2 z z), (bup (bup s8 se) s1u)⟩)
 rintro a1w w36 ⟨xj, rfl, hS37, s7⟩
 revert a1w
 refine Wo<|Wc z (fun hcl => ?_) (fun hcl => ?_)
 ·refine Ws<|Ra z<|Wn ?_
  obtain rfl := som (ifT hmr hcl)
  exact Wr<|ret1 hr z ⟨(bup h2 s7), z⟩
 refine Wk<|Ws<|R z (fd f_37_1 z)<|R z (fd f_35_0 z) ?_
 have hy := hg.e s7
 refine R z (l1 g_25 z fid<|hy.at z) ?_
 have hn := lt_ h2.s s7.s
 obtain ⟨rz, r38, e1x, hm1y⟩ := bd2S (ifF hmr hcl)
 refine E z (fc call84 z<|W_w1h (B := B) e1x (lt_ hBw hn)<|(p1_1.e h2).e s7) ?_
 rintro _ wf ⟨s9, a10, n11, c12, S39, rfl, hi, h3a, h3b, h3c⟩
 refine Rm z<|R z (ext_ z z)<|R z (ext_ z z)<|Ra z<|Ra z<|Wn<|Wq<|Ws<|Rm z<|R z (lnR d_89 z<|ownS.rep hi)<|Rm z<|Wn ?_
 obtain ⟨u3d, hu1z, hm13⟩ := bdS hm1y
 refine Wf (σ := Unit) (ρ := Bool) (fun (km : Nat) (_ : Unit) a w => Sat 60 [(1, pt w0.z), (29, sl a10 n11 c12), (30, vI (rz.length : Int)), (31, (vI ((km : Nat) : Int)))] a ∧ Below wf.z wf w) (fun (_ : Unit) a w => Sat 60 [] a ∧ Below wf.z wf w) (fun r ex a w => ex = .ret ∧ RetPost prog fn (Q11 w0 B r) a w) hu1z ?_ ?_ ?_ ?_ ?_
 ·exact fun _ q => ⟨(q.k<|s4 z z z z), (br wf)⟩
 ·rintro km _ a3e w20 o3f hk14 ⟨hS21, s3⟩ hm22
  refine Wu ?_ hS21
  refine Ws<|R z (lss z z)<|Wn<|Wq<|Wc z (fun _ => ?_) (fun hc => (nolt hk14 hc).elim)
  refine Wk<|Wq<|Wb<|Ws ?_
  obtain ⟨xd, e23, hm24⟩ := bdS hm22
  refine RX z (at_ (α := Record) d_89 z_76 z z z (or_ (hi.e s3)<|ownS.lt hi) e23) ?_
  rintro _ ⟨b3g, o3h, cs3i, rfl, h25, h26, h3j⟩
  obtain ⟨a15, n16, c17, rfl, h3k, h3l, h27, h28⟩ := Record_open h26
  refine R z (lN (vs := [vI xd.kind, Str.v xd.name, vI xd.version, sl a15 n16 c17]) g_76 z_76 z z fid h25)<|E z (fa zero_76) ?_
  rintro _ w29 ⟨rfl, h18⟩
  have ha := h18.below
  have h2a : Blk w29 w20.z [vI 0, (Str.v (⟨[]⟩ : Str)), vI 0, sl none 0 0] := h18.blk
  refine E0 (fs (cur' := [vI xd.kind, Str.v xd.name, vI xd.version, sl a15 n16 c17]) z_76 z z h2a z (lb z) (oA z) z) ?_
  rintro _ w19 ⟨h2b, s2c⟩
  have hb := s2c.one
  refine Wn<|Wq ?_
  obtain ⟨u2d, hu1a, hm1b⟩ := bdS hm24
  refine Wt (fun a w => ∃ (xo : Bool), xo = u2d ∧ Sat 60 [(1, pt w0.z), (29, sl a10 n11 c12), (30, vI (rz.length : Int)), (31, (vI ((km : Nat) : Int))), (58, vB xo)] a ∧ Below w19.z w19 w) ?_ ?_
  ·refine Wd (X := noX) 0 (.rd 0 (.rd 1 (.rd 2 (.rd 3 (.rd 4 (.rd 5 (.rd 6 (.rd 7 (.ef 8 (.rd 9 (.rd 10 (.rd 11 (.rd 12 (.rd 13 (.rd 14 (.rd 15 (.rd 16 (.rd 17 (.rd 18 (.rd 19 (.ef 20 (.rd 21 (.rd 22 (.rd 23 .done)))))))))))))))))))))))) mo (by kernel_rfl) fun w3m s6 _ => dR z z (fd f_76_0 z) ?_
   have hp := h2b.e s6
   refine dR z z (l1 g_3 z fid<|hp.at z)<|dR z z (eql z z)<|dR z z (mv z) ?_
   rcases bs (xd.kind == 1) with hc0 | hc0
   ·refine dRg z z z hc0 z (fd f_37_0 z) ?_
    have h1c := ((((hy.e s9).e s3).e ha).c hb<|djs<|mm1 hg.lt<|lt_ (lt_ s7.s s9.s) s3.s).e s6
    refine dRg z z z hc0 z (lN (vs := [sl A0 N0 C0]) g_34 z_34 z z fid<|h1c.row 0 1 z)<|dRg z z z hc0 z (fd f_76_2 z)<|dRg z z z hc0 z (l1 g_3 z fid<|hp.at z) ?_
    have h1d := lt_ hn s9.s
    have h1e := lt_ h1d s3.s
    have h1f := m1<|lt_ hBw h1e
    have h1g := ((((((p1_0.e h2).e s7).e s9).e s3).e ha).c hb<|lg h1f).e s6
    obtain ⟨r2e, e2f, hm1h⟩ := bdS (ifT hu1a hc0)
    refine dEg z z z hc0 z (fc call85 z<|W_w3n (B := B) (x1 := (⟨x1.registry.versions⟩ : Registry)) e2f (lt_ hBw<|lt_ (lt_ (lt_ h1e ha.s) hb.s) s6.s) h1g h27) (.inr fun _ _ h => chgB<|h.1) ?_
    rintro _ w3n ⟨sc, rfl⟩
    refine dRg z z z hc0 z (not_ z)<|dRg z z z hc0 z (mv z) ?_
    rcases bs (!r2e) with hc1 | hc1
    ·iterate 9 refine dRn z z z hc1 z ?_
     exact dEn z z z hc1 z<|dRn z z z hc1 z<|dRg z z z hc0 z (pT z hc1 z)<|dR z z (pT z hc0 z)<|pD (fun _ q => ⟨true, som<|ifT hm1h hc1, (q.k<|s5 z z z z z), (bup s6 sc)⟩)
    refine dRg z z z hc1 z (fd f_37_0 z)<|dRg z z z hc1 z (fd f_34_0 z)<|dRg z z z hc1 z (l1 g_32 z fid<|(h1c.e sc).at z)<|dRg z z z hc1 z (fd f_76_2 z) ?_
    have h1i := hp.e sc
    refine dRg z z z hc1 z (l1 g_3 z fid<|h1i.at z) ?_
    obtain ⟨x3o, e2g, hm2h⟩ := bdS (ifF hm1h hc1)
    refine dRXg z z z hc1 z (at_ (α := Desc) d_32 z_95 z z z (h1g.e sc) e2g) ?_
    rintro _ ⟨b3p, o3q, cs3r, rfl, h2i, h2j, h3s⟩
    obtain ⟨a2k, n2l, c2m, rfl, h2n⟩ := Desc_open h2j
    refine dRg z z z hc1 z (lN (vs := [sl a2k n2l c2m]) g_95 z_95 z z fid h2i)<|dRg z z z hc1 z (fd f_76_3 z)<|dRg z z z hc1 z (l1 g_25 z fid<|h1i.at z) ?_
    have h1j := lt_ hBw h1d
    obtain ⟨r2o, e2p, hm2q⟩ := bdS hm2h
    refine dEg z z z hc1 z (fc call86 z<|W_w3t (B := wf.z) e2p (lt_ (lt_ (lt_ (lt_ s3.s ha.s) hb.s) s6.s) sc.s) (((((((((hG.e h2).e s7).e s9).e s3).e ha).c hb<|lg h1f).e s6).e sc).mono h1j) (repS.mono h2n h1j)<|(((h28.e ha).c hb<|lg<|m1 s3.s).e s6).e sc) (.inr fun _ _ h => chgB<|h.1) ?_
    rintro _ w3t ⟨s2r, rfl⟩
    exact dRg z z z hc1 z (not_ z)<|dRg z z z hc0 z (pF z hc1 z)<|dR z z (pT z hc0 z)<|pD (fun _ q => ⟨!r2o, som hm2q, (q.k<|s5 z z z z z), (bup (bup s6 sc) s2r)⟩)
   iterate 4 refine dRn z z z hc0 z ?_
   refine dEn z z z hc0 z<|dRn z z z hc0 z<|dRn z z z hc0 z ?_
   iterate 9 refine dRu z z z z ?_
   exact dEu z z z z<|dRu z z z z<|dRn z z z hc0 z<|dR z z (pF z hc0 z)<|pD (fun _ q => ⟨false, som<|ifF hu1a hc0, (q.k<|s5 z z z z z), s6⟩)
  rintro a2s w3u ⟨xo, rfl, hS3v, s1k⟩
  revert a2s
  refine Wo<|Wc z (fun hcq => ?_) (fun hcq => ?_)
  ·exact Ws<|Ra z<|Wn<|Wr<|rtO<|qL (som<|ifT hm1b hcq).symm<|ret1 hr z ⟨(bup (bM (bup (bup (bup (bup h2 s7) s9) s3) ha) hb<|m1<|lt_ (lt_ hn s9.s) s3.s) s1k), z⟩
  exact Wk<|Wg<|R z (inc_ hk14 (lt_ (ownS.len hi) LEN_le) z z)<|Rm z<|Wl (fun _ q => ⟨(), (som<|ifF hm1b hcq).symm, ⟨(q.k<|s4 z z z z), (bup (bM (bup s3 ha) hb<|m1 s3.s) s1k)⟩⟩)
 ·rintro _ a3w w3x ⟨hS2t, s2u⟩
  refine Wu ?_ hS2t
  refine Ws<|R z (lss z z)<|Wn<|Wq<|Wc z (fun hc => (noltt hc).elim) (fun _ => ?_)
  exact We (fun a' ha' => ⟨rfl, ⟨(Sat.weaken ha' sn), s2u⟩⟩)
 ·rintro _ a2v w3y rfl ⟨hS3z, s2w⟩
  have hm2x := elL hm13
  revert a2v
  refine Wo<|Ws<|Ra z<|Wn ?_
  obtain rfl := som hm2x
  exact Wr<|ret1 hr z ⟨(bup (bup (bup h2 s7) s9) s2w), z⟩
 rintro r40 ex41 a42 w43 rfl ⟨rfl, hq2y⟩
 have hm2z := elR hm13
 obtain rfl := som hm2z
 exact ⟨hq2y, z⟩
theorem W_w1q {x1 : Archive} {x2 : Str} {x3 : Int} {x4 : List UInt8} {res : Archive × Bool} (hm : M_impl_StoreFile n x1 x2 x3 x4 = some res) (hBw : B ≤ w0.z) (hG : Gl w0 B) (p1_0 : repS w0 B (sl A0 N0 C0) x1.registry.versions) (p1_1 : repS w0 B (sl A1 N1 C1) x1.log.bytes) (p1_2 : inI x1.log.stored) (p2_0 : x2.b.length ≤ LEN) (p3_0 : inI x3) (p4_0 : repS w0 B (sl AF NF CF) x4) : CallsR prog 25 [(.agg #[sl A0 N0 C0, sl A1 N1 C1, vI x1.log.stored]), Str.v x2, vI x3, sl AF NF CF] w0 (Q20 w0 B res) := by
 unfold M_impl_StoreFile at hm
 refine goF func25 z z (lb z) fun fn hr => Ws<|E z (fb z) ?_
 rintro _ ws ⟨rfl, h1g⟩
 have hb := h1g.below
 have hy : Blk ws w0.z [sl A0 N0 C0, sl A1 N1 C1, vI x1.log.stored] := h1g.blk
 refine E z (fa zero_37) ?_
 rintro _ w2d ⟨rfl, h1h⟩
 have hc := h1h.below
 have h7 : Blk w2d ws.z [sl none 0 0, sl none 0 0, vI 0] := h1h.blk
 refine Ra z<|Wn<|Ws ?_
 have h1i := hy.e hc
 have h1j := (p1_0.e hb).e hc
 have h1k := (p1_1.e hb).e hc
 have h1l := lt_ hBw hb.s
 obtain ⟨rr, e2e, hm2f⟩ := bdS hm
 refine E z (fc call49 z<|W_w33 (B := ws.z) e2e hc.s (repS.mono h1j h1l) (repS.mono h1k h1l) p1_2 (h1i.row 0 3 z) hy.lt) ?_
 rintro _ w1m ⟨s6, a8, n9, ca, S13, an, no, cp, S1n, rfl, hh, hq, h1o, ht, hd⟩
 refine E z (fa zero_37) ?_
 rintro _ w2g ⟨rfl, h1p⟩
 have h4 := h1p.below
 have hz : Blk w2g w1m.z [sl none 0 0, sl none 0 0, vI 0] := h1p.blk
 refine E0 (fs (cur' := [sl a8 n9 ca, sl an no cp, vI rr.log.stored]) z_37 z z hz z (lb z) (oA z) z) ?_
 rintro _ w3c ⟨h1q, s2h⟩
 have h1 := s2h.one
 refine Wn<|Ws<|R z (fd f_37_1 z) ?_
 have h1r := lt_ hc.s s6.s
 have h1s := ((h1i.e s6).e h4).c h1<|djs<|mm1 hy.lt h1r
 refine R z (lN (vs := [sl A1 N1 C1, vI x1.log.stored]) g_35 z_35 z z fid<|h1s.row 1 2 z)<|Rm z<|Rm z<|Rm z<|R z (bP (parts := [(0, (.const (.int .i64 1))), (1, (.tmp 18)), (2, (.tmp 19)), (3, (.tmp 20))]) (cs := [vI 1, Str.v x2, vI x3, sl AF NF CF]) build_76 z z) ?_
 have hu := lt_ hb.s hc.s
 have hv := lt_ hu s6.s
 have hw := m1<|lt_ hBw hv
 have h1t := ((h1k.e s6).e h4).c h1<|lg hw
 have hx := lt_ (lt_ hv h4.s) h1.s
 obtain ⟨ri, r2i, e2j, hm2k⟩ := bd2S hm2f
 refine E z (fc call56 z<|W_w3d (B := B) (x1 := (⟨x1.log.bytes, x1.log.stored⟩ : Log)) (x2 := (⟨1, x2, x3, x4⟩ : Record)) e2j (lt_ hBw hx) h1t p1_2 (ii z) p2_0 p3_0<|((((p4_0.e hb).e hc).e s6).e h4).c h1<|lg hw) ?_
 rintro _ w14 ⟨s0, ak, nl, cm, S2l, rfl, h10, h1u, h2m, h15⟩
 refine Rm z<|R z (ext_ z z)<|R z (ext_ z z)<|E z (fa zero_35) ?_
 rintro _ w2n ⟨rfl, h1v⟩
 have h2 := h1v.below
 have h2o : Blk w2n w14.z [sl none 0 0, vI 0] := h1v.blk
 refine E0 (fs (cur' := [sl ak nl cm, vI ri.stored]) z_35 z z h2o z (lb z) (oA z) z) ?_
 rintro _ w16 ⟨h2p, s2q⟩
 have h3 := s2q.one
 refine Ra z<|Wn<|Wq<|Wq ?_
 obtain ⟨u2r, hu1w, hm1x⟩ := bdS hm2k
 refine Wt (fun a w => ∃ (x17 : Bool), x17 = u2r ∧ Sat 42 [(8, pt ws.z), (10, pt w1m.z), (11, pt w14.z), (31, vB x17)] a ∧ Below w16.z w16 w) ?_ ?_
 ·refine Wg<|Rm z<|R z (not_ z)<|Rm z ?_
  rcases bs (!r2i) with hcj | hcj
  ·iterate 3 refine Nh z hcj ?_
   exact R z (pT z hcj z)<|Wl (fun _ q => ⟨true, som<|ifT hu1w hcj, (q.k<|s4 z z z z), (br w16)⟩)
  refine Rh z hcj (lN (vs := [sl A0 N0 C0, sl A1 N1 C1, vI x1.log.stored]) g_37 z_37 z z fid<|(((h1s.e s0).e h2).c h3<|djs<|mm1 hy.lt<|lt_ (lt_ (lt_ h1r h4.s) h1.s) s0.s).row 0 3 z) ?_
  have h1y := lt_ hx s0.s
  have h18 := m1<|lt_ hBw h1y
  obtain ⟨r2s, e2t, hm2u⟩ := bdS (ifF hu1w hcj)
  refine Eg z z hcj z (fc call50 z<|W_w1p (B := B) e2t (lt_ hBw<|lt_ (lt_ h1y h2.s) h3.s) ((((((((hG.e hb).e hc).e s6).e h4).c h1<|lg hw).e s0).e h2).c h3<|lg h18) ((((((h1j.e s6).e h4).c h1<|lg hw).e s0).e h2).c h3<|lg h18) (((h1t.e s0).e h2).c h3<|lg h18) p1_2) ?_
  rintro _ w3d ⟨s2v, rfl⟩
  exact Rh z hcj (not_ z)<|R z (pF z hcj z)<|Wl (fun _ q => ⟨!r2s, som hm2u, (q.k<|s4 z z z z), s2v⟩)
 rintro a2w w2x ⟨x17, rfl, hS3e, s5⟩
 revert a2w
 refine Wo<|Wc z (fun hc19 => ?_) (fun hc19 => ?_)
 ·refine Ws<|R z (lN (vs := [sl a8 n9 ca, sl an no cp, vI rr.log.stored]) g_37 z_37 z z fid<|((((h1q.e s0).e h2).c h3<|djs<|mm1 hz.lt<|lt_ h1.s s0.s).e s5).row 0 3 z) ?_
  have h2y := (((((h7.e s6).e h4).c h1<|djs<|mm1 h7.lt s6.s).e s0).e h2).c h3<|djs<|mm1 h7.lt<|lt_ (lt_ (lt_ s6.s h4.s) h1.s) s0.s
  refine E0 (fs (cur' := [sl a8 n9 ca, sl an no cp, vI rr.log.stored]) z_37 z z (h2y.e s5) z (lb z) (oA z) z) ?_
  rintro _ w3f ⟨h2z, s30⟩
  have h1a := s30.one
  refine Ra z<|Wn ?_
  obtain rfl := som (ifT hm1x hc19)
  have h1z := lt_ (lt_ h4.s h1.s) s0.s
  exact Wr<|ret2 hr (resC g_37 z_37 z h2z z) z ⟨(bM (bup (bM (bup (bup (bM (bup (bup (bup hb hc) s6) h4) h1<|m1 hv) s0) h2) h3<|m1<|lt_ hx s0.s) s5) h1a<|m1 hb.s), a8, n9, ca, S13, an, no, cp, S1n, z, (((((((hh.e h4).c h1<|ds<|mnr<|ownS.lt hh).e s0).e h2).c h3<|ds<|mno (ownS.lt hh) h1z).e s5).c h1a<|o0n1 (al_ hd) h7.lt lr), (((((((hq.e h4).c h1<|ds<|mnr<|ownS.lt hq).e s0).e h2).c h3<|ds<|mno (ownS.lt hq) h1z).e s5).c h1a<|o0n1 (ar_ hd) h7.lt lr), h1o, (na_ (nl_ ht) (nr_ ht)<|nj ht), (aa_ (o0le (al_ hd) hu)<|o0le (ar_ hd) hu)⟩
 refine Wk<|Ws<|R z (fd f_37_0 z) ?_
 have h20 := lt_ h1.s s0.s
 have h21 := (((h1q.e s0).e h2).c h3<|djs<|mm1 hz.lt h20).e s5
 refine R z (lN (vs := [sl a8 n9 ca]) g_34 z_34 z z fid<|h21.row 0 1 z)<|R z (lN (vs := [sl ak nl cm, vI ri.stored]) g_35 z_35 z z fid<|(h2p.e s5).row 0 2 z)<|R z (bP (parts := [(0, (.tmp 34)), (1, (.tmp 35))]) (cs := [sl a8 n9 ca, sl ak nl cm, vI ri.stored]) build_37 z z)<|E z (fa zero_37) ?_
 rintro _ w31 ⟨rfl, h22⟩
 have he := h22.below
 have h32 : Blk w31 w2x.z [sl none 0 0, sl none 0 0, vI 0] := h22.blk
 refine E0 (fs (cur' := [sl a8 n9 ca, sl ak nl cm, vI ri.stored]) z_37 z z h32 z (lb z) (oA z) z) ?_
 rintro _ w3g ⟨h23, s33⟩
 have hf := s33.one
 refine Wn<|Wq<|Ws<|R z (lN (vs := [sl a8 n9 ca, sl ak nl cm, vI ri.stored]) g_37 z_37 z z fid<|h23.row 0 3 z) ?_
 have h24 := lt_ h4.s h1.s
 have h11 := lt_ h24 s0.s
 have h25 := lt_ (lt_ (lt_ h11 h2.s) h3.s) s5.s
 have h1b := (((((((hh.e h4).c h1<|ds<|mnr<|ownS.lt hh).e s0).e h2).c h3<|ds<|mno (ownS.lt hh) h11).e s5).e he).c hf<|ds<|mno (ownS.lt hh) h25
 have h26 := lt_ (lt_ h2.s h3.s) s5.s
 have h27 := ((((h10.e h2).c h3<|ds<|mnr<|ownS.lt h10).e s5).e he).c hf<|ds<|mno (ownS.lt h10) h26
 have h12 := lt_ hx s0.s
 have h28 := lt_ hBw h12
 have h1c := lt_ (lt_ (lt_ h12 h2.s) h3.s) s5.s
 obtain ⟨r3h, e34, hm29⟩ := bdS (ifF hm1x hc19)
 refine E z (fc call50 z<|W_w1p (B := w14.z) (x1 := (⟨(⟨rr.registry.versions⟩ : Registry), (⟨ri.bytes, ri.stored⟩ : Log)⟩ : Archive)) e34 (lt_ (lt_ h26 he.s) hf.s) ((((((((((((hG.e hb).e hc).e s6).e h4).c h1<|lg hw).e s0).e h2).c h3<|lg<|m1 h28).e s5).e he).c hf<|lg<|m1<|lt_ hBw h1c).mono h28) (repS.mono (or_ h1b<|ownS.lt hh) h11) (or_ h27<|ownS.lt h10) h1u) ?_
 rintro _ w3i ⟨sg, rfl⟩
 refine R z (not_ z)<|Wn<|Wc z (fun hc1d => ?_) (fun hc1d => ?_)
 ·refine Ws<|R z (lN (vs := [sl a8 n9 ca, sl an no cp, vI rr.log.stored]) g_37 z_37 z z fid<|(((h21.e he).c hf<|djs<|mm1 hz.lt<|lt_ (lt_ (lt_ h20 h2.s) h3.s) s5.s).e sg).row 0 3 z) ?_
  have h2a := lt_ (lt_ (lt_ s6.s h4.s) h1.s) s0.s
  have h35 := (((((((h7.e s6).e h4).c h1<|djs<|mm1 h7.lt s6.s).e s0).e h2).c h3<|djs<|mm1 h7.lt h2a).e s5).e he
  refine E0 (fs (cur' := [sl a8 n9 ca, sl an no cp, vI rr.log.stored]) z_37 z z ((h35.c hf<|djs<|mm1 h7.lt<|lt_ (lt_ (lt_ h2a h2.s) h3.s) s5.s).e sg) z (lb z) (oA z) z) ?_
  rintro _ w3j ⟨h36, s37⟩
  have h1e := s37.one
  refine Ra z<|Wn ?_
  obtain rfl := som (ifT hm29 hc1d)
  have h38 := (((((((((hq.e h4).c h1<|ds<|mnr<|ownS.lt hq).e s0).e h2).c h3<|ds<|mno (ownS.lt hq) h11).e s5).e he).c hf<|ds<|mno (ownS.lt hq) h25).e sg).c h1e<|o0n1 (ar_ hd) h7.lt lr
  exact Wr<|ret2 hr (resC g_37 z_37 z h36 z) z ⟨(bM (bup (bM (bup (bup (bM (bup (bup (bM (bup (bup (bup hb hc) s6) h4) h1<|m1 hv) s0) h2) h3<|m1 h12) s5) he) hf<|m1 h1c) sg) h1e<|m1 hb.s), a8, n9, ca, S13, an, no, cp, S1n, z, ((h1b.e sg).c h1e<|o0n1 (al_ hd) h7.lt lr), h38, h1o, (na_ (nl_ ht) (nr_ ht)<|nj ht), (aa_ (o0le (al_ hd) hu)<|o0le (ar_ hd) hu)⟩
 refine Wk<|Ws<|R z (lN (vs := [sl a8 n9 ca, sl ak nl cm, vI ri.stored]) g_37 z_37 z z fid<|(h23.e sg).row 0 3 z) ?_
 have h2b := lt_ (lt_ s6.s h4.s) h1.s
 have h2c := lt_ h2b s0.s
 have h39 := (((((((h7.e s6).e h4).c h1<|djs<|mm1 h7.lt s6.s).e s0).e h2).c h3<|djs<|mm1 h7.lt h2c).e s5).e he
 refine E0 (fs (cur' := [sl a8 n9 ca, sl ak nl cm, vI ri.stored]) z_37 z z ((h39.c hf<|djs<|mm1 h7.lt<|lt_ (lt_ (lt_ h2c h2.s) h3.s) s5.s).e sg) z (lb z) (oA z) z) ?_
 rintro _ w3k ⟨h3a, s3b⟩
 have h1f := s3b.one
 refine Ra z<|Wn ?_
 obtain rfl := som (ifF hm29 hc1d)
 exact Wr<|ret2 hr (resC g_37 z_37 z h3a z) z ⟨(bM (bup (bM (bup (bup (bM (bup (bup (bM (bup (bup (bup hb hc) s6) h4) h1<|m1 hv) s0) h2) h3<|m1 h12) s5) he) hf<|m1 h1c) sg) h1f<|m1 hb.s), a8, n9, ca, S13, ak, nl, cm, S2l, z, ((h1b.e sg).c h1f<|o0n1 (al_ hd) h7.lt lr), ((h27.e sg).c h1f<|o0n1 h15 h7.lt h2b), h1u, (na_ (nl_ ht) h2m<|ds<|o0no h15 (ownS.lt hh) h24), (aa_ (o0le (al_ hd) hu)<|o0le h15 hx)⟩
theorem W_w0o {x1 : List UInt8} {x2 : List UInt8} {res : Bool} (hm : M_laws_eqByteS x1 x2 = some res) (hBw : B ≤ w0.z) (p1_0 : repS w0 B (sl A0 N0 C0) x1) (p2_0 : repS w0 B (sl A6 N6 C6) x2) : CallsR prog 26 [sl A0 N0 C0, sl A6 N6 C6] w0 (Q11 w0 B res) := by
 unfold M_laws_eqByteS at hm
 refine goF func26 z z (lb z) fun fn hr => Ws<|Ra z<|Wn<|Wq<|Ws<|Rm z<|R z (lnR d_25 z p1_0)<|Rm z<|R z (lnR d_25 z p2_0)<|R z (nq z z)<|Wn<|Wc z (fun hc2 => ?_) (fun hc2 => ?_)
 ·refine Ws<|Ra z<|Wn ?_
  obtain rfl := som (ifT hm hc2)
  exact Wr<|ret1 hr z ⟨(br w0), z⟩
 refine Wk<|Wq<|Ws<|Ra z<|Wn ?_
 obtain ⟨uq, hua, hm4⟩ := bdS (ifF hm hc2)
 refine Wf (σ := Unit) (ρ := Bool) (fun (k5 : Nat) (_ : Unit) a w => Sat 26 [(0, sl A0 N0 C0), (1, sl A6 N6 C6), (5, (vI ((k5 : Nat) : Int)))] a ∧ Below w0.z w0 w) (fun (_ : Unit) a w => Sat 26 [] a ∧ Below w0.z w0 w) (fun r ex a w => ex = .ret ∧ RetPost prog fn (Q11 w0 B r) a w) hua ?_ ?_ ?_ ?_ ?_
 ·exact fun _ q => ⟨(q.k<|s3 z z z), (br w0)⟩
 ·rintro k5 _ ar ws ot hk6 ⟨hSb, s0⟩ hmc
  refine Wu ?_ hSb
  refine Wq<|Ws<|Rm z<|Rm z ?_
  have h7 := p1_0.e s0
  refine R z (lnR d_25 z h7)<|R z (lss z z)<|Wn<|Wc z (fun _ => ?_) (fun hc => (nolt hk6 hc).elim)
  refine Wk<|Wq<|Wb<|Wq (Wd (X := noX) 0 (.rd 0 (.rd 1 (.rd 2 (.rd 3 (.rd 4 (.rd 5 (.rd 6 (.rd 7 (.rd 8 .done))))))))) mo (by kernel_rfl) fun wu s1 _ => dR z z (mv z)<|dR z z (mv z) ?_)
  obtain ⟨xv, ed, hme⟩ := bdS hmc
  refine dRX z z (at_ (α := UInt8) d_25 z_5 z z z (h7.e s1) ed) ?_
  rintro _ ⟨bw, ox, csy, rfl, hf, hg, hz⟩
  obtain rfl := u8 hg
  refine dR z z (l1 g_5 z fid<|hf.at0 z)<|dR z z (mv z)<|dR z z (mv z) ?_
  obtain ⟨x10, eh, hm8⟩ := bdS hme
  refine dRX z z (at_ (α := UInt8) d_25 z_5 z z z ((p2_0.e s0).e s1) eh) ?_
  rintro _ ⟨b11, o12, cs13, rfl, hi, hj, h14⟩
  obtain rfl := u8 hj
  refine dR z z (l1 g_5 z fid<|hi.at0 z)<|dR z z (nq z z)<|pD<|Wo<|Wc z (fun hc3 => ?_) (fun hc3 => ?_)
  ·exact Ws<|Ra z<|Wn<|Wr<|rtO<|qL (som<|ifT hm8 hc3).symm<|ret1 hr z ⟨(bup s0 s1), z⟩
  exact Wk<|Wg<|Rm z<|R z (inc_ hk6 (lt_ (repS.len p1_0) LEN_le) z z)<|Ra z<|Wl (fun _ q => ⟨(), (som<|ifF hm8 hc3).symm, ⟨(q.k<|s3 z z z), (bup s0 s1)⟩⟩)
 ·rintro _ a15 w16 ⟨hSk, s9⟩
  refine Wu ?_ hSk
  refine Wq<|Ws<|Rm z<|Rm z<|R z (lnR d_25 z<|p1_0.e s9)<|R z (lss z z)<|Wn<|Wc z (fun hc => (noltt hc).elim) (fun _ => ?_)
  exact We (fun a' ha' => ⟨rfl, ⟨(Sat.weaken ha' sn), s9⟩⟩)
 ·rintro _ al w17 rfl ⟨hS18, sm⟩
  have hmn := elL hm4
  revert al
  refine Wo<|Ws<|Ra z<|Wn ?_
  obtain rfl := som hmn
  exact Wr<|ret1 hr z ⟨sm, z⟩
 rintro r19 ex1a a1b w1c rfl ⟨rfl, hqo⟩
 have hmp := elR hm4
 obtain rfl := som hmp
 exact ⟨hqo, z⟩
theorem W_w3u {x1 : List Str} {x2 : List Str} {res : Bool} (hm : M_laws_eqStringS x1 x2 = some res) (hBw : B ≤ w0.z) (p1_0 : repS w0 B (sl A0 N0 C0) x1) (p2_0 : repS w0 B (sl A6 N6 C6) x2) : CallsR prog 16 [sl A0 N0 C0, sl A6 N6 C6] w0 (Q11 w0 B res) := by
 unfold M_laws_eqStringS at hm
 refine goF func16 z z (lb z) fun fn hr => Ws<|Ra z<|Wn<|Wq<|Ws<|Rm z<|R z (lnR d_41 z p1_0)<|Rm z<|R z (lnR d_41 z p2_0)<|R z (nq z z)<|Wn<|Wc z (fun hc2 => ?_) (fun hc2 => ?_)
 ·refine Ws<|Ra z<|Wn ?_
  obtain rfl := som (ifT hm hc2)
  exact Wr<|ret1 hr z ⟨(br w0), z⟩
 refine Wk<|Wq<|Ws<|Ra z<|Wn ?_
 obtain ⟨uq, hua, hm4⟩ := bdS (ifF hm hc2)
 refine Wf (σ := Unit) (ρ := Bool) (fun (k5 : Nat) (_ : Unit) a w => Sat 26 [(0, sl A0 N0 C0), (1, sl A6 N6 C6), (5, (vI ((k5 : Nat) : Int)))] a ∧ Below w0.z w0 w) (fun (_ : Unit) a w => Sat 26 [] a ∧ Below w0.z w0 w) (fun r ex a w => ex = .ret ∧ RetPost prog fn (Q11 w0 B r) a w) hua ?_ ?_ ?_ ?_ ?_
 ·exact fun _ q => ⟨(q.k<|s3 z z z), (br w0)⟩
 ·rintro k5 _ ar ws ot hk6 ⟨hSb, s0⟩ hmc
  refine Wu ?_ hSb
  refine Wq<|Ws<|Rm z<|Rm z ?_
  have h7 := p1_0.e s0
  refine R z (lnR d_41 z h7)<|R z (lss z z)<|Wn<|Wc z (fun _ => ?_) (fun hc => (nolt hk6 hc).elim)
  refine Wk<|Wq<|Wb<|Wq (Wd (X := noX) 0 (.rd 0 (.rd 1 (.rd 2 (.rd 3 (.rd 4 (.rd 5 (.rd 6 (.rd 7 (.rd 8 .done))))))))) mo (by kernel_rfl) fun wu s1 _ => dR z z (mv z)<|dR z z (mv z) ?_)
  obtain ⟨xv, ed, hme⟩ := bdS hmc
  refine dRX z z (at_ (α := Str) d_41 z_9 z z z (h7.e s1) ed) ?_
  rintro _ ⟨bw, ox, csy, rfl, hf, hg, hz⟩
  obtain ⟨rfl, h10⟩ := Str_open hg
  refine dR z z (l1 g_9 z fid<|hf.at0 z)<|dR z z (mv z)<|dR z z (mv z) ?_
  obtain ⟨x11, eh, hm8⟩ := bdS hme
  refine dRX z z (at_ (α := Str) d_41 z_9 z z z ((p2_0.e s0).e s1) eh) ?_
  rintro _ ⟨b12, o13, cs14, rfl, hi, hj, h15⟩
  obtain ⟨rfl, h16⟩ := Str_open hj
  refine dR z z (l1 g_9 z fid<|hi.at0 z)<|dR z z (rd_neqT z z)<|pD<|Wo<|Wc z (fun hc3 => ?_) (fun hc3 => ?_)
  ·exact Ws<|Ra z<|Wn<|Wr<|rtO<|qL (som<|ifT hm8 hc3).symm<|ret1 hr z ⟨(bup s0 s1), z⟩
  exact Wk<|Wg<|Rm z<|R z (inc_ hk6 (lt_ (repS.len p1_0) LEN_le) z z)<|Ra z<|Wl (fun _ q => ⟨(), (som<|ifF hm8 hc3).symm, ⟨(q.k<|s3 z z z), (bup s0 s1)⟩⟩)
 ·rintro _ a17 w18 ⟨hSk, s9⟩
  refine Wu ?_ hSk
  refine Wq<|Ws<|Rm z<|Rm z<|R z (lnR d_41 z<|p1_0.e s9)<|R z (lss z z)<|Wn<|Wc z (fun hc => (noltt hc).elim) (fun _ => ?_)
  exact We (fun a' ha' => ⟨rfl, ⟨(Sat.weaken ha' sn), s9⟩⟩)
 ·rintro _ al w19 rfl ⟨hS1a, sm⟩
  have hmn := elL hm4
  revert al
  refine Wo<|Ws<|Ra z<|Wn ?_
  obtain rfl := som hmn
  exact Wr<|ret1 hr z ⟨sm, z⟩
 rintro r1b ex1c a1d w1e rfl ⟨rfl, hqo⟩
 have hmp := elR hm4
 obtain rfl := som hmp
 exact ⟨hqo, z⟩
theorem W_w1r {x1 : List Int} {x2 : List Int} {res : Bool} (hm : M_laws_eqIntS x1 x2 = some res) (hBw : B ≤ w0.z) (p1_0 : repS w0 B (sl A0 N0 C0) x1) (p2_0 : repS w0 B (sl A6 N6 C6) x2) : CallsR prog 176 [sl A0 N0 C0, sl A6 N6 C6] w0 (Q11 w0 B res) := by
 unfold M_laws_eqIntS at hm
 refine goF func176 z z (lb z) fun fn hr => Ws<|Ra z<|Wn<|Wq<|Ws<|Rm z<|R z (lnR d_142 z p1_0)<|Rm z<|R z (lnR d_142 z p2_0)<|R z (nq z z)<|Wn<|Wc z (fun hc2 => ?_) (fun hc2 => ?_)
 ·refine Ws<|Ra z<|Wn ?_
  obtain rfl := som (ifT hm hc2)
  exact Wr<|ret1 hr z ⟨(br w0), z⟩
 refine Wk<|Wq<|Ws<|Ra z<|Wn ?_
 obtain ⟨uq, hua, hm4⟩ := bdS (ifF hm hc2)
 refine Wf (σ := Unit) (ρ := Bool) (fun (k5 : Nat) (_ : Unit) a w => Sat 26 [(0, sl A0 N0 C0), (1, sl A6 N6 C6), (5, (vI ((k5 : Nat) : Int)))] a ∧ Below w0.z w0 w) (fun (_ : Unit) a w => Sat 26 [] a ∧ Below w0.z w0 w) (fun r ex a w => ex = .ret ∧ RetPost prog fn (Q11 w0 B r) a w) hua ?_ ?_ ?_ ?_ ?_
 ·exact fun _ q => ⟨(q.k<|s3 z z z), (br w0)⟩
 ·rintro k5 _ ar ws ot hk6 ⟨hSb, s0⟩ hmc
  refine Wu ?_ hSb
  refine Wq<|Ws<|Rm z<|Rm z ?_
  have h7 := p1_0.e s0
  refine R z (lnR d_142 z h7)<|R z (lss z z)<|Wn<|Wc z (fun _ => ?_) (fun hc => (nolt hk6 hc).elim)
  refine Wk<|Wq<|Wb<|Wq (Wd (X := noX) 0 (.rd 0 (.rd 1 (.rd 2 (.rd 3 (.rd 4 (.rd 5 (.rd 6 (.rd 7 (.rd 8 .done))))))))) mo (by kernel_rfl) fun wu s1 _ => dR z z (mv z)<|dR z z (mv z) ?_)
  obtain ⟨xv, ed, hme⟩ := bdS hmc
  refine dRX z z (at_ (α := Int) d_142 z_3 z z z (h7.e s1) ed) ?_
  rintro _ ⟨bw, ox, csy, rfl, hf, hg, hz⟩
  obtain ⟨rfl, h10⟩ := Int_open hg
  refine dR z z (l1 g_3 z fid<|hf.at0 z)<|dR z z (mv z)<|dR z z (mv z) ?_
  obtain ⟨x11, eh, hm8⟩ := bdS hme
  refine dRX z z (at_ (α := Int) d_142 z_3 z z z ((p2_0.e s0).e s1) eh) ?_
  rintro _ ⟨b12, o13, cs14, rfl, hi, hj, h15⟩
  obtain ⟨rfl, h16⟩ := Int_open hj
  refine dR z z (l1 g_3 z fid<|hi.at0 z)<|dR z z (nq z z)<|pD<|Wo<|Wc z (fun hc3 => ?_) (fun hc3 => ?_)
  ·exact Ws<|Ra z<|Wn<|Wr<|rtO<|qL (som<|ifT hm8 hc3).symm<|ret1 hr z ⟨(bup s0 s1), z⟩
  exact Wk<|Wg<|Rm z<|R z (inc_ hk6 (lt_ (repS.len p1_0) LEN_le) z z)<|Ra z<|Wl (fun _ q => ⟨(), (som<|ifF hm8 hc3).symm, ⟨(q.k<|s3 z z z), (bup s0 s1)⟩⟩)
 ·rintro _ a17 w18 ⟨hSk, s9⟩
  refine Wu ?_ hSk
  refine Wq<|Ws<|Rm z<|Rm z<|R z (lnR d_142 z<|p1_0.e s9)<|R z (lss z z)<|Wn<|Wc z (fun hc => (noltt hc).elim) (fun _ => ?_)
  exact We (fun a' ha' => ⟨rfl, ⟨(Sat.weaken ha' sn), s9⟩⟩)
 ·rintro _ al w19 rfl ⟨hS1a, sm⟩
  have hmn := elL hm4
  revert al
  refine Wo<|Ws<|Ra z<|Wn ?_
  obtain rfl := som hmn
  exact Wr<|ret1 hr z ⟨sm, z⟩
 rintro r1b ex1c a1d w1e rfl ⟨rfl, hqo⟩
 have hmp := elR hm4
 obtain rfl := som hmp
 exact ⟨hqo, z⟩
theorem W_w3v {x1 : Rule} {x2 : Rule} {res : Bool} (hm : M_laws_eqRule x1 x2 = some res) (hBw : B ≤ w0.z) (p1_0 : x1.name.b.length ≤ LEN) (p1_1 : inI x1.kind) (p1_2 : inI x1.size) (p1_4 : repS w0 B (sl AB NB CB) x1.bytes) (p1_5 : repS w0 B (sl A7 N7 C7) x1.names) (p1_6 : repS w0 B (sl AA NA CA) x1.tags) (p1_7 : repS w0 B (sl A8 N8 C8) x1.kids) (p2_0 : x2.name.b.length ≤ LEN) (p2_1 : inI x2.kind) (p2_2 : inI x2.size) (p2_4 : repS w0 B (sl A3 N3 C3) x2.bytes) (p2_5 : repS w0 B (sl A4 N4 C4) x2.names) (p2_6 : repS w0 B (sl A2 N2 C2) x2.tags) (p2_7 : repS w0 B (sl A5 N5 C5) x2.kids) : CallsR prog 149 [(.agg #[Str.v x1.name, vI x1.kind, vI x1.size, vB x1.little, sl AB NB CB, sl A7 N7 C7, sl AA NA CA, sl A8 N8 C8]), (.agg #[Str.v x2.name, vI x2.kind, vI x2.size, vB x2.little, sl A3 N3 C3, sl A4 N4 C4, sl A2 N2 C2, sl A5 N5 C5])] w0 (Q11 w0 B res) := by
 unfold M_laws_eqRule at hm
 refine goF func149 z z (lb z) fun fn hr => Ws<|E z (fb z) ?_
 rintro _ wf ⟨rfl, hg⟩
 have h1 := hg.below
 have hx : Blk wf w0.z (vR x1 AB NB CB A7 N7 C7 AA NA CA A8 N8 C8) := hg.blk
 refine E z (fb z) ?_
 rintro _ wy ⟨rfl, hh⟩
 have h0 := hh.below
 have h5 : Blk wy wf.z (vR x2 A3 N3 C3 A4 N4 C4 A2 N2 C2 A5 N5 C5) := hh.blk
 refine Ra z<|Wn<|Wq<|Ws<|R z (fd f_144_0 z) ?_
 have h6 := hx.e h0
 refine R z (l1 g_9 z fid<|h6.at z)<|R z (fd f_144_0 z)<|R z (l1 g_9 z fid<|h5.at z)<|R z (rd_neqT z z)<|Wn<|Wc z (fun hc7 => ?_) (fun hc7 => ?_)
 ·refine Ws<|Ra z<|Wn ?_
  obtain rfl := som (ifT hm hc7)
  exact Wr<|ret1 hr z ⟨(bup h1 h0), z⟩
 have hmi := ifF hm hc7
 refine Wk<|Wq<|Ws<|R z (fd f_144_1 z)<|R z (l1 g_3 z fid<|h6.at z)<|R z (fd f_144_1 z)<|R z (l1 g_3 z fid<|h5.at z)<|R z (nq z z)<|Wn<|Wc z (fun hc8 => ?_) (fun hc8 => ?_)
 ·refine Ws<|Ra z<|Wn ?_
  obtain rfl := som (ifT hmi hc8)
  exact Wr<|ret1 hr z ⟨(bup h1 h0), z⟩
 have hmj := ifF hmi hc8
 refine Wk<|Wq<|Ws<|R z (fd f_144_2 z)<|R z (l1 g_3 z fid<|h6.at z)<|R z (fd f_144_2 z)<|R z (l1 g_3 z fid<|h5.at z)<|R z (nq z z)<|Wn<|Wc z (fun hc9 => ?_) (fun hc9 => ?_)
 ·refine Ws<|Ra z<|Wn ?_
  obtain rfl := som (ifT hmj hc9)
  exact Wr<|ret1 hr z ⟨(bup h1 h0), z⟩
 have hmk := ifF hmj hc9
 refine Wk<|Wq<|Ws<|R z (fd f_144_3 z)<|R z (l1 g_4 z fid<|h6.at z)<|R z (fd f_144_3 z)<|R z (l1 g_4 z fid<|h5.at z)<|R z (rd_neqB d_4 z z)<|Wn<|Wc z (fun hca => ?_) (fun hca => ?_)
 ·refine Ws<|Ra z<|Wn ?_
  obtain rfl := som (ifT hmk hca)
  exact Wr<|ret1 hr z ⟨(bup h1 h0), z⟩
 refine Wk<|Wq<|Ws<|R z (fd f_144_4 z)<|R z (l1 g_25 z fid<|h6.at z)<|R z (fd f_144_4 z)<|R z (l1 g_25 z fid<|h5.at z) ?_
 have hl := lt_ h1.s h0.s
 obtain ⟨r13, ez, hmm⟩ := bdS (ifF hmk hca)
 refine E z (fc call26 z<|W_w0o (B := B) ez (lt_ hBw hl) ((p1_4.e h1).e h0)<|(p2_4.e h1).e h0) ?_
 rintro _ w14 ⟨s2, rfl⟩
 refine R z (not_ z)<|Wn<|Wc z (fun hcb => ?_) (fun hcb => ?_)
 ·refine Ws<|Ra z<|Wn ?_
  obtain rfl := som (ifT hmm hcb)
  exact Wr<|ret1 hr z ⟨(bup (bup h1 h0) s2), z⟩
 refine Wk<|Wq<|Ws<|R z (fd f_144_5 z) ?_
 have hn := h6.e s2
 refine R z (l1 g_41 z fid<|hn.at z)<|R z (fd f_144_5 z) ?_
 have ho := h5.e s2
 refine R z (l1 g_41 z fid<|ho.at z) ?_
 have hp := lt_ hl s2.s
 obtain ⟨r15, e10, hmq⟩ := bdS (ifF hmm hcb)
 refine E z (fc call16 z<|W_w3u (B := B) e10 (lt_ hBw hp) (((p1_5.e h1).e h0).e s2)<|((p2_5.e h1).e h0).e s2) ?_
 rintro _ w16 ⟨s3, rfl⟩
 refine R z (not_ z)<|Wn<|Wc z (fun hcc => ?_) (fun hcc => ?_)
 ·refine Ws<|Ra z<|Wn ?_
  obtain rfl := som (ifT hmq hcc)
  exact Wr<|ret1 hr z ⟨(bup (bup (bup h1 h0) s2) s3), z⟩
 refine Wk<|Wq<|Ws<|R z (fd f_144_6 z) ?_
 have ht := hn.e s3
 refine R z (l1 g_142 z fid<|ht.at z)<|R z (fd f_144_6 z) ?_
 have hu := ho.e s3
 refine R z (l1 g_142 z fid<|hu.at z) ?_
 have hv := lt_ hp s3.s
 obtain ⟨r17, e11, hmr⟩ := bdS (ifF hmq hcc)
 refine E z (fc call176 z<|W_w1r (B := B) e11 (lt_ hBw hv) ((((p1_6.e h1).e h0).e s2).e s3)<|(((p2_6.e h1).e h0).e s2).e s3) ?_
 rintro _ w18 ⟨s4, rfl⟩
 refine R z (not_ z)<|Wn<|Wc z (fun hcd => ?_) (fun hcd => ?_)
 ·refine Ws<|Ra z<|Wn ?_
  obtain rfl := som (ifT hmr hcd)
  exact Wr<|ret1 hr z ⟨(bup (bup (bup (bup h1 h0) s2) s3) s4), z⟩
 refine Wk<|Wq<|Ws<|R z (fd f_144_7 z)<|R z (l1 g_142 z fid<|(ht.e s4).at z)<|R z (fd f_144_7 z)<|R z (l1 g_142 z fid<|(hu.e s4).at z) ?_
 obtain ⟨r19, e12, hms⟩ := bdS (ifF hmr hcd)
 refine E z (fc call176 z<|W_w1r (B := B) e12 (lt_ hBw<|lt_ hv s4.s) (((((p1_7.e h1).e h0).e s2).e s3).e s4)<|((((p2_7.e h1).e h0).e s2).e s3).e s4) ?_
 rintro _ w1a ⟨sw, rfl⟩
 refine R z (not_ z)<|Wn<|Wc z (fun hce => ?_) (fun hce => ?_)
 ·refine Ws<|Ra z<|Wn ?_
  obtain rfl := som (ifT hms hce)
  exact Wr<|ret1 hr z ⟨(bup (bup (bup (bup (bup h1 h0) s2) s3) s4) sw), z⟩
 refine Wk<|Ws<|Ra z<|Wn ?_
 obtain rfl := som (ifF hms hce)
 exact Wr<|ret1 hr z ⟨(bup (bup (bup (bup (bup h1 h0) s2) s3) s4) sw), z⟩
theorem W_w3w {x1 : List Rule} {x2 : List Rule} {res : Bool} (hm : M_laws_eqRuleS x1 x2 = some res) (hBw : B ≤ w0.z) (p1_0 : repS w0 B (sl A0 N0 C0) x1) (p2_0 : repS w0 B (sl A6 N6 C6) x2) : CallsR prog 131 [sl A0 N0 C0, sl A6 N6 C6] w0 (Q11 w0 B res) := by
 unfold M_laws_eqRuleS at hm
 refine goF func131 z z (lb z) fun fn hr => Ws<|Ra z<|Wn<|Wq<|Ws<|Rm z<|R z (lnR d_93 z p1_0)<|Rm z<|R z (lnR d_93 z p2_0)<|R z (nq z z)<|Wn<|Wc z (fun hc2 => ?_) (fun hc2 => ?_)
 ·refine Ws<|Ra z<|Wn ?_
  obtain rfl := som (ifT hm hc2)
  exact Wr<|ret1 hr z ⟨(br w0), z⟩
 refine Wk<|Wq<|Ws<|Ra z<|Wn ?_
 obtain ⟨u1x, hub, hm4⟩ := bdS (ifF hm hc2)
 refine Wf (σ := Unit) (ρ := Bool) (fun (k5 : Nat) (_ : Unit) a w => Sat 27 [(0, sl A0 N0 C0), (1, sl A6 N6 C6), (5, (vI ((k5 : Nat) : Int)))] a ∧ Below w0.z w0 w) (fun (_ : Unit) a w => Sat 27 [] a ∧ Below w0.z w0 w) (fun r ex a w => ex = .ret ∧ RetPost prog fn (Q11 w0 B r) a w) hub ?_ ?_ ?_ ?_ ?_
 ·exact fun _ q => ⟨(q.k<|s3 z z z), (br w0)⟩
 ·rintro k5 _ a1y w1z o20 hk6 ⟨hSc, s0⟩ hmd
  refine Wu ?_ hSc
  refine Wq<|Ws<|Rm z<|Rm z ?_
  have h7 := p1_0.e s0
  refine R z (lnR d_93 z h7)<|R z (lss z z)<|Wn<|Wc z (fun _ => ?_) (fun hc => (nolt hk6 hc).elim)
  refine Wk<|Wq<|Wb<|Wq (Wd (X := noX) 0 (.rd 0 (.rd 1 (.rd 2 (.rd 3 (.rd 4 (.rd 5 (.rd 6 (.rd 7 (.ef 8 (.rd 9 .done)))))))))) mo (by kernel_rfl) fun w21 s1 _ => dR z z (mv z)<|dR z z (mv z) ?_)
  obtain ⟨xe, eg, hmf⟩ := bdS hmd
  refine dRX z z (at_ (α := Rule) d_93 z_144 z z z (h7.e s1) eg) ?_
  rintro _ ⟨b22, o23, cs24, rfl, hh, hi, h25⟩
  obtain ⟨aj, nk, cl, am, nn, co, ap, nr, cq, au, ns, ct, rfl, hv, hw, hx, hy, hz, h10, h11⟩ := Rule_open hi
  refine dR z z (lN (vs := (vR xe aj nk cl am nn co ap nr cq au ns ct)) g_144 z_144 z z fid hh)<|dR z z (mv z)<|dR z z (mv z) ?_
  obtain ⟨x12, e13, hm14⟩ := bdS hmf
  refine dRX z z (at_ (α := Rule) d_93 z_144 z z z ((p2_0.e s0).e s1) e13) ?_
  rintro _ ⟨b26, o27, cs28, rfl, h15, h16, h29⟩
  obtain ⟨a17, n18, c19, a1a, n1b, c1c, a1d, n1e, c1f, a1g, n1h, c1i, rfl, h1j, h1k, h1l, h1m, h1n, h1o, h1p⟩ := Rule_open h16
  refine dR z z (lN (vs := (vR x12 a17 n18 c19 a1a n1b c1c a1d n1e c1f a1g n1h c1i)) g_144 z_144 z z fid h15) ?_
  obtain ⟨r2a, e1q, hm8⟩ := bdS hm14
  refine dE z z (fc call149 z<|W_w3v (B := B) e1q (lt_ hBw<|lt_ s0.s s1.s) hv hw hx hy hz h10 h11 h1j h1k h1l h1m h1n h1o h1p) (.inr fun _ _ h => chgB<|h.1) ?_
  rintro _ w2b ⟨s9, rfl⟩
  refine dR z z (not_ z)<|pD<|Wo<|Wc z (fun hc3 => ?_) (fun hc3 => ?_)
  ·exact Ws<|Ra z<|Wn<|Wr<|rtO<|qL (som<|ifT hm8 hc3).symm<|ret1 hr z ⟨(bup (bup s0 s1) s9), z⟩
  exact Wk<|Wg<|Rm z<|R z (inc_ hk6 (lt_ (repS.len p1_0) LEN_le) z z)<|Ra z<|Wl (fun _ q => ⟨(), (som<|ifF hm8 hc3).symm, ⟨(q.k<|s3 z z z), (bup (bup s0 s1) s9)⟩⟩)
 ·rintro _ a2c w2d ⟨hS1r, sa⟩
  refine Wu ?_ hS1r
  refine Wq<|Ws<|Rm z<|Rm z<|R z (lnR d_93 z<|p1_0.e sa)<|R z (lss z z)<|Wn<|Wc z (fun hc => (noltt hc).elim) (fun _ => ?_)
  exact We (fun a' ha' => ⟨rfl, ⟨(Sat.weaken ha' sn), sa⟩⟩)
 ·rintro _ a1s w2e rfl ⟨hS2f, s1t⟩
  have hm1u := elL hm4
  revert a1s
  refine Wo<|Ws<|Ra z<|Wn ?_
  obtain rfl := som hm1u
  exact Wr<|ret1 hr z ⟨s1t, z⟩
 rintro r2g ex2h a2i w2j rfl ⟨rfl, hq1v⟩
 have hm1w := elR hm4
 obtain rfl := som hm1w
 exact ⟨hq1v, z⟩
theorem W_w3x {x1 : Desc} {x2 : Desc} {res : Bool} (hm : M_laws_eqDescription x1 x2 = some res) (hBw : B ≤ w0.z) (p1_0 : repS w0 B (sl A0 N0 C0) x1.rules) (p2_0 : repS w0 B (sl A6 N6 C6) x2.rules) : CallsR prog 103 [(.agg #[sl A0 N0 C0]), (.agg #[sl A6 N6 C6])] w0 (Q11 w0 B res) := by
 unfold M_laws_eqDescription at hm
 refine goF func103 z z (lb z) fun fn hr => Ws<|E z (fb z) ?_
 rintro _ w3 ⟨rfl, h4⟩
 have h1 := h4.below
 have h8 : Blk w3 w0.z [sl A0 N0 C0] := h4.blk
 refine E z (fb z) ?_
 rintro _ w9 ⟨rfl, h5⟩
 have h0 := h5.below
 have ha : Blk w9 w3.z [sl A6 N6 C6] := h5.blk
 refine Ra z<|Wn<|Wq<|Ws<|R z (fd f_95_0 z)<|R z (l1 g_93 z fid<|(h8.e h0).at z)<|R z (fd f_95_0 z)<|R z (l1 g_93 z fid<|ha.at z) ?_
 obtain ⟨rc, eb, hm6⟩ := bdS hm
 refine E z (fc call131 z<|W_w3w (B := B) eb (lt_ hBw<|lt_ h1.s h0.s) ((p1_0.e h1).e h0)<|(p2_0.e h1).e h0) ?_
 rintro _ wd ⟨s7, rfl⟩
 refine R z (not_ z)<|Wn<|Wc z (fun hc2 => ?_) (fun hc2 => ?_)
 ·refine Ws<|Ra z<|Wn ?_
  obtain rfl := som (ifT hm6 hc2)
  exact Wr<|ret1 hr z ⟨(bup (bup h1 h0) s7), z⟩
 refine Wk<|Ws<|Ra z<|Wn ?_
 obtain rfl := som (ifF hm6 hc2)
 exact Wr<|ret1 hr z ⟨(bup (bup h1 h0) s7), z⟩
theorem W_w3y {x1 : List Desc} {x2 : List Desc} {res : Bool} (hm : M_laws_eqDescriptionS x1 x2 = some res) (hBw : B ≤ w0.z) (p1_0 : repS w0 B (sl A0 N0 C0) x1) (p2_0 : repS w0 B (sl A6 N6 C6) x2) : CallsR prog 72 [sl A0 N0 C0, sl A6 N6 C6] w0 (Q11 w0 B res) := by
 unfold M_laws_eqDescriptionS at hm
 refine goF func72 z z (lb z) fun fn hr => Ws<|Ra z<|Wn<|Wq<|Ws<|Rm z<|R z (lnR d_32 z p1_0)<|Rm z<|R z (lnR d_32 z p2_0)<|R z (nq z z)<|Wn<|Wc z (fun hc2 => ?_) (fun hc2 => ?_)
 ·refine Ws<|Ra z<|Wn ?_
  obtain rfl := som (ifT hm hc2)
  exact Wr<|ret1 hr z ⟨(br w0), z⟩
 refine Wk<|Wq<|Ws<|Ra z<|Wn ?_
 obtain ⟨u11, hub, hm4⟩ := bdS (ifF hm hc2)
 refine Wf (σ := Unit) (ρ := Bool) (fun (k5 : Nat) (_ : Unit) a w => Sat 27 [(0, sl A0 N0 C0), (1, sl A6 N6 C6), (5, (vI ((k5 : Nat) : Int)))] a ∧ Below w0.z w0 w) (fun (_ : Unit) a w => Sat 27 [] a ∧ Below w0.z w0 w) (fun r ex a w => ex = .ret ∧ RetPost prog fn (Q11 w0 B r) a w) hub ?_ ?_ ?_ ?_ ?_
 ·exact fun _ q => ⟨(q.k<|s3 z z z), (br w0)⟩
 ·rintro k5 _ a12 w13 o14 hk6 ⟨hSc, s0⟩ hmd
  refine Wu ?_ hSc
  refine Wq<|Ws<|Rm z<|Rm z ?_
  have h7 := p1_0.e s0
  refine R z (lnR d_32 z h7)<|R z (lss z z)<|Wn<|Wc z (fun _ => ?_) (fun hc => (nolt hk6 hc).elim)
  refine Wk<|Wq<|Wb<|Wq (Wd (X := noX) 0 (.rd 0 (.rd 1 (.rd 2 (.rd 3 (.rd 4 (.rd 5 (.rd 6 (.rd 7 (.ef 8 (.rd 9 .done)))))))))) mo (by kernel_rfl) fun w15 s1 _ => dR z z (mv z)<|dR z z (mv z) ?_)
  obtain ⟨x16, ee, hmf⟩ := bdS hmd
  refine dRX z z (at_ (α := Desc) d_32 z_95 z z z (h7.e s1) ee) ?_
  rintro _ ⟨b17, o18, cs19, rfl, hg, hh, h1a⟩
  obtain ⟨ai, nj, ck, rfl, hl⟩ := Desc_open hh
  refine dR z z (lN (vs := [sl ai nj ck]) g_95 z_95 z z fid hg)<|dR z z (mv z)<|dR z z (mv z) ?_
  obtain ⟨x1b, em, hmn⟩ := bdS hmf
  refine dRX z z (at_ (α := Desc) d_32 z_95 z z z ((p2_0.e s0).e s1) em) ?_
  rintro _ ⟨b1c, o1d, cs1e, rfl, ho, hp, h1f⟩
  obtain ⟨aq, nr, cs, rfl, ht⟩ := Desc_open hp
  refine dR z z (lN (vs := [sl aq nr cs]) g_95 z_95 z z fid ho) ?_
  obtain ⟨r1g, eu, hm8⟩ := bdS hmn
  refine dE z z (fc call103 z<|W_w3x (B := B) eu (lt_ hBw<|lt_ s0.s s1.s) hl ht) (.inr fun _ _ h => chgB<|h.1) ?_
  rintro _ w1h ⟨s9, rfl⟩
  refine dR z z (not_ z)<|pD<|Wo<|Wc z (fun hc3 => ?_) (fun hc3 => ?_)
  ·exact Ws<|Ra z<|Wn<|Wr<|rtO<|qL (som<|ifT hm8 hc3).symm<|ret1 hr z ⟨(bup (bup s0 s1) s9), z⟩
  exact Wk<|Wg<|Rm z<|R z (inc_ hk6 (lt_ (repS.len p1_0) LEN_le) z z)<|Ra z<|Wl (fun _ q => ⟨(), (som<|ifF hm8 hc3).symm, ⟨(q.k<|s3 z z z), (bup (bup s0 s1) s9)⟩⟩)
 ·rintro _ a1i w1j ⟨hSv, sa⟩
  refine Wu ?_ hSv
  refine Wq<|Ws<|Rm z<|Rm z<|R z (lnR d_32 z<|p1_0.e sa)<|R z (lss z z)<|Wn<|Wc z (fun hc => (noltt hc).elim) (fun _ => ?_)
  exact We (fun a' ha' => ⟨rfl, ⟨(Sat.weaken ha' sn), sa⟩⟩)
 ·rintro _ aw w1k rfl ⟨hS1l, sx⟩
  have hmy := elL hm4
  revert aw
  refine Wo<|Ws<|Ra z<|Wn ?_
  obtain rfl := som hmy
  exact Wr<|ret1 hr z ⟨sx, z⟩
 rintro r1m ex1n a1o w1p rfl ⟨rfl, hqz⟩
 have hm10 := elR hm4
 obtain rfl := som hm10
 exact ⟨hqz, z⟩
theorem W_w3z {x1 : Registry} {x2 : Registry} {res : Bool} (hm : M_laws_eqRegistry x1 x2 = some res) (hBw : B ≤ w0.z) (p1_0 : repS w0 B (sl A0 N0 C0) x1.versions) (p2_0 : repS w0 B (sl A6 N6 C6) x2.versions) : CallsR prog 39 [(.agg #[sl A0 N0 C0]), (.agg #[sl A6 N6 C6])] w0 (Q11 w0 B res) := by
 unfold M_laws_eqRegistry at hm
 refine goF func39 z z (lb z) fun fn hr => Ws<|E z (fb z) ?_
 rintro _ w3 ⟨rfl, h4⟩
 have h1 := h4.below
 have h8 : Blk w3 w0.z [sl A0 N0 C0] := h4.blk
 refine E z (fb z) ?_
 rintro _ w9 ⟨rfl, h5⟩
 have h0 := h5.below
 have ha : Blk w9 w3.z [sl A6 N6 C6] := h5.blk
 refine Ra z<|Wn<|Wq<|Ws<|R z (fd f_34_0 z)<|R z (l1 g_32 z fid<|(h8.e h0).at z)<|R z (fd f_34_0 z)<|R z (l1 g_32 z fid<|ha.at z) ?_
 obtain ⟨rc, eb, hm6⟩ := bdS hm
 refine E z (fc call72 z<|W_w3y (B := B) eb (lt_ hBw<|lt_ h1.s h0.s) ((p1_0.e h1).e h0)<|(p2_0.e h1).e h0) ?_
 rintro _ wd ⟨s7, rfl⟩
 refine R z (not_ z)<|Wn<|Wc z (fun hc2 => ?_) (fun hc2 => ?_)
 ·refine Ws<|Ra z<|Wn ?_
  obtain rfl := som (ifT hm6 hc2)
  exact Wr<|ret1 hr z ⟨(bup (bup h1 h0) s7), z⟩
 refine Wk<|Ws<|Ra z<|Wn ?_
 obtain rfl := som (ifF hm6 hc2)
 exact Wr<|ret1 hr z ⟨(bup (bup h1 h0) s7), z⟩
theorem W_w40 {x1 : Log} {x2 : Log} {res : Bool} (hm : M_laws_eqLog x1 x2 = some res) (hBw : B ≤ w0.z) (p1_0 : repS w0 B (sl A0 N0 C0) x1.bytes) (p1_1 : inI x1.stored) (p2_0 : repS w0 B (sl A6 N6 C6) x2.bytes) (p2_1 : inI x2.stored) : CallsR prog 40 [(.agg #[sl A0 N0 C0, vI x1.stored]), (.agg #[sl A6 N6 C6, vI x2.stored])] w0 (Q11 w0 B res) := by
 unfold M_laws_eqLog at hm
 refine goF func40 z z (lb z) fun fn hr => Ws<|E z (fb z) ?_
 rintro _ w5 ⟨rfl, h6⟩
 have h1 := h6.below
 have hc : Blk w5 w0.z [sl A0 N0 C0, vI x1.stored] := h6.blk
 refine E z (fb z) ?_
 rintro _ wd ⟨rfl, h7⟩
 have h0 := h7.below
 have h8 : Blk wd w5.z [sl A6 N6 C6, vI x2.stored] := h7.blk
 refine Ra z<|Wn<|Wq<|Ws<|R z (fd f_35_0 z) ?_
 have h9 := hc.e h0
 refine R z (l1 g_25 z fid<|h9.at z)<|R z (fd f_35_0 z)<|R z (l1 g_25 z fid<|h8.at z) ?_
 obtain ⟨rf, ee, hma⟩ := bdS hm
 refine E z (fc call26 z<|W_w0o (B := B) ee (lt_ hBw<|lt_ h1.s h0.s) ((p1_0.e h1).e h0)<|(p2_0.e h1).e h0) ?_
 rintro _ wg ⟨s2, rfl⟩
 refine R z (not_ z)<|Wn<|Wc z (fun hc3 => ?_) (fun hc3 => ?_)
 ·refine Ws<|Ra z<|Wn ?_
  obtain rfl := som (ifT hma hc3)
  exact Wr<|ret1 hr z ⟨(bup (bup h1 h0) s2), z⟩
 have hmb := ifF hma hc3
 refine Wk<|Wq<|Ws<|R z (fd f_35_1 z)<|R z (l1 g_3 z fid<|(h9.e s2).at z)<|R z (fd f_35_1 z)<|R z (l1 g_3 z fid<|(h8.e s2).at z)<|R z (nq z z)<|Wn<|Wc z (fun hc4 => ?_) (fun hc4 => ?_)
 ·refine Ws<|Ra z<|Wn ?_
  obtain rfl := som (ifT hmb hc4)
  exact Wr<|ret1 hr z ⟨(bup (bup h1 h0) s2), z⟩
 refine Wk<|Ws<|Ra z<|Wn ?_
 obtain rfl := som (ifF hmb hc4)
 exact Wr<|ret1 hr z ⟨(bup (bup h1 h0) s2), z⟩
theorem W_w0c {x1 : Archive} {x2 : Archive} {res : Bool} (hm : M_laws_eqArchive x1 x2 = some res) (hBw : B ≤ w0.z) (p1_0 : repS w0 B (sl A0 N0 C0) x1.registry.versions) (p1_1 : repS w0 B (sl A1 N1 C1) x1.log.bytes) (p1_2 : inI x1.log.stored) (p2_0 : repS w0 B (sl A6 N6 C6) x2.registry.versions) (p2_1 : repS w0 B (sl AD ND CD) x2.log.bytes) (p2_2 : inI x2.log.stored) : CallsR prog 13 [(.agg #[sl A0 N0 C0, sl A1 N1 C1, vI x1.log.stored]), (.agg #[sl A6 N6 C6, sl AD ND CD, vI x2.log.stored])] w0 (Q11 w0 B res) := by
 unfold M_laws_eqArchive at hm
 refine goF func13 z z (lb z) fun fn hr => Ws<|E z (fb z) ?_
 rintro _ w5 ⟨rfl, h6⟩
 have h1 := h6.below
 have he : Blk w5 w0.z [sl A0 N0 C0, sl A1 N1 C1, vI x1.log.stored] := h6.blk
 refine E z (fb z) ?_
 rintro _ wf ⟨rfl, h7⟩
 have h0 := h7.below
 have h8 : Blk wf w5.z [sl A6 N6 C6, sl AD ND CD, vI x2.log.stored] := h7.blk
 refine Ra z<|Wn<|Wq<|Ws<|R z (fd f_37_0 z) ?_
 have h9 := he.e h0
 refine R z (lN (vs := [sl A0 N0 C0]) g_34 z_34 z z fid<|h9.row 0 1 z)<|R z (fd f_37_0 z)<|R z (lN (vs := [sl A6 N6 C6]) g_34 z_34 z z fid<|h8.row 0 1 z) ?_
 have ha := lt_ h1.s h0.s
 obtain ⟨ri, eg, hmb⟩ := bdS hm
 refine E z (fc call39 z<|W_w3z (B := B) (x1 := (⟨x1.registry.versions⟩ : Registry)) (x2 := (⟨x2.registry.versions⟩ : Registry)) eg (lt_ hBw ha) ((p1_0.e h1).e h0)<|(p2_0.e h1).e h0) ?_
 rintro _ wj ⟨s2, rfl⟩
 refine R z (not_ z)<|Wn<|Wc z (fun hc3 => ?_) (fun hc3 => ?_)
 ·refine Ws<|Ra z<|Wn ?_
  obtain rfl := som (ifT hmb hc3)
  exact Wr<|ret1 hr z ⟨(bup (bup h1 h0) s2), z⟩
 refine Wk<|Wq<|Ws<|R z (fd f_37_1 z)<|R z (lN (vs := [sl A1 N1 C1, vI x1.log.stored]) g_35 z_35 z z fid<|(h9.e s2).row 1 2 z)<|R z (fd f_37_1 z)<|R z (lN (vs := [sl AD ND CD, vI x2.log.stored]) g_35 z_35 z z fid<|(h8.e s2).row 1 2 z) ?_
 obtain ⟨rk, eh, hmc⟩ := bdS (ifF hmb hc3)
 refine E z (fc call40 z<|W_w40 (B := B) (x1 := (⟨x1.log.bytes, x1.log.stored⟩ : Log)) (x2 := (⟨x2.log.bytes, x2.log.stored⟩ : Log)) eh (lt_ hBw<|lt_ ha s2.s) (((p1_1.e h1).e h0).e s2) p1_2 (((p2_1.e h1).e h0).e s2) p2_2) ?_
 rintro _ wl ⟨sd, rfl⟩
 refine R z (not_ z)<|Wn<|Wc z (fun hc4 => ?_) (fun hc4 => ?_)
 ·refine Ws<|Ra z<|Wn ?_
  obtain rfl := som (ifT hmc hc4)
  exact Wr<|ret1 hr z ⟨(bup (bup (bup h1 h0) s2) sd), z⟩
 refine Wk<|Ws<|Ra z<|Wn ?_
 obtain rfl := som (ifF hmc hc4)
 exact Wr<|ret1 hr z ⟨(bup (bup (bup h1 h0) s2) sd), z⟩
def Q27 (w0 : World) (B : Nat) (r : Str) (v : Value) (w' : World) : Prop := Bw w0 w' ∧ (fun r1 => (Str.v r1) = v ∧ r1.b.length ≤ LEN) r
theorem W_w0d {x1 : Int} {res : Str} (hm : M_laws_markText n x1 = some res) (hBw : B ≤ w0.z) (p1_0 : inI x1) : CallsR prog 46 [vI x1] w0 (Q27 w0 B res) := by
 unfold M_laws_markText at hm
 refine goF func46 z z (lb z) fun fn hr => Ws<|Ra z<|Wn<|Wq<|Ws<|Rm z<|R z (rd_leq z z)<|Wn<|Wc z (fun hc1 => ?_) (fun hc1 => ?_)
 ·refine Ws<|Ra z<|Wn ?_
  obtain rfl := som (ifT hm hc1)
  exact Wr<|ret1 hr z ⟨(br w0), z, (lb z)⟩
 refine Wk<|Ws<|Ra z<|Wn<|Wq ?_
 obtain ⟨uq, huc, hm5⟩ := bdS (ifF hm hc1)
 refine WC_iter (σ := Int × Str) (ρ := Str) (fun s a w => un2 (fun x0 x2 => Sat 20 [(0, vI x0), (3, Str.v x2)] a ∧ Below w0.z w0 w ∧ inI x0 ∧ x2.b.length ≤ LEN) s) (fun s a w => un2 (fun x0 x2 => Sat 20 [(3, Str.v x2)] a ∧ Below w0.z w0 w ∧ inI x0 ∧ x2.b.length ≤ LEN) s) (fun r ex a w => ex = .ret ∧ RetPost prog fn (Q27 w0 B r) a w) huc ?_ ?_ ?_ ?_
 ·exact fun _ q => ⟨(q.k<|s2 z z), (br w0), p1_0, (lb z)⟩
 ·rintro ⟨x0, x2⟩ ar wd os ⟨hSe, s6, h7, h8⟩ hmf
  have hm9 := un2S hmf
  refine Wu ?_ hSe
  refine Wq<|Ws<|Rm z<|R z (rd_gtr z z)<|Wn<|Wc z (fun hc3 => ?_) (fun hc3 => ?_)
  ·refine Wk<|Wb<|Ws<|Rm z<|R z (rd_rem z z (by decide))<|R z (add_ z z)<|R z (rd_convU d_3 d_5 z)<|E z (fS [(.tmp 11)] el_25 z z z (szAll z) (lb z)<|lb z) ?_
   rintro _ wg ⟨rfl, h4⟩
   have ht : Blk wg wd.z [(vU (byteI (mkB (iadd 48 (irem x0 10)))))] := h4.blk
   refine R z (rd_convST d_25 d_9 d_5 z_5 z<|ownS.rep<|ownS_new1 h4 UInt8_own)<|Rm z ?_
   obtain ⟨xh, ea, hmi⟩ := bdS (ifT hm9 hc3)
   exact R z (rd_catC z z ea)<|Ra z<|Wn<|Wg<|Rm z<|R z (rd_quo z z (by decide))<|Ra z<|Wl (fun _ q => ⟨(iquo x0 10, xh), (som hmi).symm, ⟨(q.k<|s2 z z), (bup s6 h4.below), (inI_quo _ _), (cat_len ea)⟩⟩)
  exact We (fun a' ha' => QO_brk (som<|ifF hm9 hc3).symm ⟨(Sat.weaken ha'<|s1 z), s6, h7, h8⟩)
 ·rintro ⟨x0, x2⟩ aj wu rfl ⟨hSv, sk, h7, h8⟩
  have hml := elL hm5
  have hmm := un2S hml
  revert aj
  refine Wo<|Ws<|Rm z ?_
  obtain ⟨xw, eb, hmn⟩ := bdS hmm
  refine R z (rd_catC z z eb)<|Ra z<|Wn ?_
  obtain rfl := som hmn
  exact Wr<|ret1 hr z ⟨sk, z, (cat_len eb)⟩
 rintro rx exy az w10 rfl ⟨rfl, hqo⟩
 have hmp := elR hm5
 obtain rfl := som hmp
 exact ⟨hqo, z⟩
def Q28 (w0 : World) (B : Nat) (A0 : Option Addr) (N0 C0 : Nat) (S1_0 : List Nat) (r : Int × (List UInt8)) (v : Value) (w' : World) : Prop := Chg (· ∈ S1_0) w0 w' ∧ un2 (fun r1 r2 => ∃ S1, (vI r1) = v ∧ inI r1 ∧ ownS w' S1 (sl A0 N0 C0) r2 ∧ S1.Nodup ∧ (∀ k ∈ S1, k ∈ S1_0 ∨ w0.z ≤ k)) r
theorem W_w0p {x1 : List UInt8} {S1_0 : List Nat} {x2 : Int} {res : Int × (List UInt8)} (hm : M_laws_markByteS n x1 x2 = some res) (hBw : B ≤ w0.z) (p1_0 : ownS w0 S1_0 (sl A0 N0 C0) x1) (p1_0n : S1_0.Nodup) (p1_0g : ∀ k ∈ S1_0, B ≤ k) (p2_0 : inI x2) : CallsR prog 27 [sl A0 N0 C0, vI x2] w0 (Q28 w0 B A0 N0 C0 S1_0 res) := by
 unfold M_laws_markByteS at hm
 refine goF func27 z z (lb z) fun fn hr => Ws<|Ra z<|Wn<|Wq<|Ws<|Ra z<|Wn ?_
 obtain ⟨u16, huh, hma⟩ := bdS hm
 refine WC_iter (σ := (List UInt8) × Int × Int) (ρ := Int × (List UInt8)) (fun s a w => un3 (fun x5 x3 x4 => ∃  (S0 : List Nat), Sat 20 [(0, sl A0 N0 C0), (1, vI x3), (5, vI x4)] a ∧ Chg (· ∈ S1_0) w0 w ∧ ownS w S0 (sl A0 N0 C0) x5 ∧ S0.Nodup ∧ (∀ k ∈ S0, k ∈ S1_0 ∨ w0.z ≤ k) ∧ inI x3 ∧ inI x4) s) (fun s a w => un3 (fun x5 x3 x4 => ∃  (S0 : List Nat), Sat 20 [(0, sl A0 N0 C0), (1, vI x3)] a ∧ Chg (· ∈ S1_0) w0 w ∧ ownS w S0 (sl A0 N0 C0) x5 ∧ S0.Nodup ∧ (∀ k ∈ S0, k ∈ S1_0 ∨ w0.z ≤ k) ∧ inI x3 ∧ inI x4) s) (fun r ex a w => ex = .ret ∧ RetPost prog fn (Q28 w0 B A0 N0 C0 S1_0 r) a w) huh ?_ ?_ ?_ ?_
 ·exact fun _ q => ⟨S1_0, (q.k<|s3 z z z), (cr S1_0 w0), p1_0, p1_0n, (io sr), p2_0, (ii z)⟩
 ·rintro ⟨x5, x3, x4⟩ a17 wb o18 ⟨S0, hSi, s7, h1, h2, h6, h8, hc⟩ hmj
  have hmd := un3S hmj
  refine Wu ?_ hSi
  refine Wq<|Ws<|Rm z<|Rm z<|R z (lnR d_25 z<|ownS.rep h1)<|R z (lss z z)<|Wn<|Wc z (fun hc9 => ?_) (fun hc9 => ?_)
  ·refine Wk<|Wq<|Wb<|Ws<|Rm z<|Rm z<|Rm z<|R z (rd_convU d_3 d_5 z) ?_
   obtain ⟨xk, ee, hml⟩ := bdS (ifT hmd hc9)
   refine RX z (rd_atU (α := UInt8) d_25 z_5 z z h1 ee) ?_
   rintro _ ⟨g19, hn, rfl⟩
   refine E0 (ef_setN (α := UInt8) z_5 z hn z z z ee h1 h2 UInt8_own an_ nd_nil) ?_
   rintro _ wm ⟨Sf, so, hp, hq, ht⟩
   refine Wn<|Wg<|Rm z<|R z (add_ z z)<|Ra z<|Wn<|Wg<|Rm z<|R z (add_ z z)<|Ra z<|Wl ?_
   have hg : ∀ k ∈ S0, k ∈ S1_0 ∨ w0.z ≤ k := or1 h6 (io sr) (leor lr)
   have hu : ∀ k ∈ Sf, k ∈ S1_0 ∨ w0.z ≤ k := or2 ht hg an_ (leor s7.s)
   have hv : Chg (· ∈ S1_0) w0 wb := cM (cr S1_0 w0) s7 (io sr)
   have hw : Chg (· ∈ S1_0) w0 wm := cM hv so hg
   exact fun _ q => ⟨(xk, iadd x3 1, iadd x4 1), (som hml).symm, ⟨Sf, (q.k<|s3 z z z), hw, hp, hq, hu, (iA _ _), (iA _ _)⟩⟩
  have hx : ∀ k ∈ S0, k ∈ S1_0 ∨ w0.z ≤ k := or1 h6 (io sr) (leor lr)
  have hy : Chg (· ∈ S1_0) w0 wb := cM (cr S1_0 w0) s7 (io sr)
  exact We (fun a' ha' => QO_brk (som<|ifF hmd hc9).symm ⟨S0, (Sat.weaken ha'<|s2 z z), hy, h1, h2, hx, h8, hc⟩)
 ·rintro ⟨x5, x3, x4⟩ ar ws rfl ⟨S0, hS1a, sz, h1, h2, h6, h8, hc⟩
  have hm10 := elL hma
  have hm11 := un3S hm10
  revert ar
  refine Wo<|Ws<|Rm z<|Ra z<|Wn ?_
  obtain rfl := som hm11
  have h12 : Chg (· ∈ S1_0) w0 ws := cM (cr S1_0 w0) sz (io sr)
  have h13 : ∀ k ∈ S0, k ∈ S1_0 ∨ w0.z ≤ k := or1 h6 (io sr) (leor lr)
  exact Wr<|ret1 hr z ⟨h12, S0, z, h8, h1, h2, h13⟩
 rintro r1b ex1c a1d w1e rfl ⟨rfl, hq14⟩
 have hm15 := elR hma
 obtain rfl := som hm15
 exact ⟨hq14, z⟩
def Q29 (w0 : World) (B : Nat) (A0 : Option Addr) (N0 C0 : Nat) (S1_0 : List Nat) (r : Int × (List Str)) (v : Value) (w' : World) : Prop := Chg (· ∈ S1_0) w0 w' ∧ un2 (fun r1 r2 => ∃ S1, (vI r1) = v ∧ inI r1 ∧ ownS w' S1 (sl A0 N0 C0) r2 ∧ S1.Nodup ∧ (∀ k ∈ S1, k ∈ S1_0 ∨ w0.z ≤ k)) r
theorem W_w41 {x1 : List Str} {S1_0 : List Nat} {x2 : Int} {res : Int × (List Str)} (hm : M_laws_markStringS n x1 x2 = some res) (hBw : B ≤ w0.z) (p1_0 : ownS w0 S1_0 (sl A0 N0 C0) x1) (p1_0n : S1_0.Nodup) (p1_0g : ∀ k ∈ S1_0, B ≤ k) (p2_0 : inI x2) : CallsR prog 18 [sl A0 N0 C0, vI x2] w0 (Q29 w0 B A0 N0 C0 S1_0 res) := by
 unfold M_laws_markStringS at hm
 refine goF func18 z z (lb z) fun fn hr => Ws<|Ra z<|Wn<|Wq<|Ws<|Ra z<|Wn ?_
 obtain ⟨u1d, huj, hmb⟩ := bdS hm
 refine WC_iter (σ := (List Str) × Int × Int) (ρ := Int × (List Str)) (fun s a w => un3 (fun x5 x3 x4 => ∃  (S0 : List Nat), Sat 20 [(0, sl A0 N0 C0), (1, vI x3), (5, vI x4)] a ∧ Chg (· ∈ S1_0) w0 w ∧ ownS w S0 (sl A0 N0 C0) x5 ∧ S0.Nodup ∧ (∀ k ∈ S0, k ∈ S1_0 ∨ w0.z ≤ k) ∧ inI x3 ∧ inI x4) s) (fun s a w => un3 (fun x5 x3 x4 => ∃  (S0 : List Nat), Sat 20 [(0, sl A0 N0 C0), (1, vI x3)] a ∧ Chg (· ∈ S1_0) w0 w ∧ ownS w S0 (sl A0 N0 C0) x5 ∧ S0.Nodup ∧ (∀ k ∈ S0, k ∈ S1_0 ∨ w0.z ≤ k) ∧ inI x3 ∧ inI x4) s) (fun r ex a w => ex = .ret ∧ RetPost prog fn (Q29 w0 B A0 N0 C0 S1_0 r) a w) huj ?_ ?_ ?_ ?_
 ·exact fun _ q => ⟨S1_0, (q.k<|s3 z z z), (cr S1_0 w0), p1_0, p1_0n, (io sr), p2_0, (ii z)⟩
 ·rintro ⟨x5, x3, x4⟩ a1e wc o1f ⟨S0, hSk, s6, h1, h2, h7, h8, hd⟩ hml
  have hme := un3S hml
  refine Wu ?_ hSk
  refine Wq<|Ws<|Rm z<|Rm z<|R z (lnR d_41 z<|ownS.rep h1)<|R z (lss z z)<|Wn<|Wc z (fun hc9 => ?_) (fun hc9 => ?_)
  ·refine Wk<|Wq<|Wb<|Ws<|Rm z<|Rm z<|Rm z ?_
   obtain ⟨r1g, em, hmn⟩ := bdS (ifT hme hc9)
   refine E z (fc call46 z<|W_w0d (B := B) em (lt_ hBw s6.s) h8) ?_
   rintro _ wo ⟨sa, rfl, hp⟩
   obtain ⟨xq, ef, hmr⟩ := bdS hmn
   have hg := h1.e sa
   refine RX z (rd_atU (α := Str) d_41 z_9 z z hg ef) ?_
   rintro _ ⟨g1h, ht, rfl⟩
   refine E0 (ef_setN (α := Str) z_9 z ht z z z ef hg h2 (Str_own hp) an_ nd_nil) ?_
   rintro _ ws ⟨Sh, su, hv, hw, hx⟩
   refine Wn<|Wg<|Rm z<|R z (add_ z z)<|Ra z<|Wn<|Wg<|Rm z<|R z (add_ z z)<|Ra z<|Wl ?_
   have hi : ∀ k ∈ S0, k ∈ S1_0 ∨ w0.z ≤ k := or1 h7 (io sr) (leor lr)
   have hy : ∀ k ∈ Sh, k ∈ S1_0 ∨ w0.z ≤ k := or2 hx hi an_ (leor (lt_ s6.s sa.s))
   have hz : Chg (· ∈ S1_0) w0 wc := cM (cr S1_0 w0) s6 (io sr)
   have h10 : Chg (· ∈ S1_0) w0 wo := cext hz sa
   have h11 : Chg (· ∈ S1_0) w0 ws := cM h10 su hi
   exact fun _ q => ⟨(xq, iadd x3 1, iadd x4 1), (som hmr).symm, ⟨Sh, (q.k<|s3 z z z), h11, hv, hw, hy, (iA _ _), (iA _ _)⟩⟩
  have h12 : ∀ k ∈ S0, k ∈ S1_0 ∨ w0.z ≤ k := or1 h7 (io sr) (leor lr)
  have h13 : Chg (· ∈ S1_0) w0 wc := cM (cr S1_0 w0) s6 (io sr)
  exact We (fun a' ha' => QO_brk (som<|ifF hme hc9).symm ⟨S0, (Sat.weaken ha'<|s2 z z), h13, h1, h2, h12, h8, hd⟩)
 ·rintro ⟨x5, x3, x4⟩ a14 w15 rfl ⟨S0, hS1i, s16, h1, h2, h7, h8, hd⟩
  have hm17 := elL hmb
  have hm18 := un3S hm17
  revert a14
  refine Wo<|Ws<|Rm z<|Ra z<|Wn ?_
  obtain rfl := som hm18
  have h19 : Chg (· ∈ S1_0) w0 w15 := cM (cr S1_0 w0) s16 (io sr)
  have h1a : ∀ k ∈ S0, k ∈ S1_0 ∨ w0.z ≤ k := or1 h7 (io sr) (leor lr)
  exact Wr<|ret1 hr z ⟨h19, S0, z, h8, h1, h2, h1a⟩
 rintro r1j ex1k a1l w1m rfl ⟨rfl, hq1b⟩
 have hm1c := elR hmb
 obtain rfl := som hm1c
 exact ⟨hq1b, z⟩
def Q30 (w0 : World) (B : Nat) (A0 : Option Addr) (N0 C0 : Nat) (S1_0 : List Nat) (r : Int × (List Int)) (v : Value) (w' : World) : Prop := Chg (· ∈ S1_0) w0 w' ∧ un2 (fun r1 r2 => ∃ S1, (vI r1) = v ∧ inI r1 ∧ ownS w' S1 (sl A0 N0 C0) r2 ∧ S1.Nodup ∧ (∀ k ∈ S1, k ∈ S1_0 ∨ w0.z ≤ k)) r
theorem W_w1s {x1 : List Int} {S1_0 : List Nat} {x2 : Int} {res : Int × (List Int)} (hm : M_laws_markIntS n x1 x2 = some res) (hBw : B ≤ w0.z) (p1_0 : ownS w0 S1_0 (sl A0 N0 C0) x1) (p1_0n : S1_0.Nodup) (p1_0g : ∀ k ∈ S1_0, B ≤ k) (p2_0 : inI x2) : CallsR prog 132 [sl A0 N0 C0, vI x2] w0 (Q30 w0 B A0 N0 C0 S1_0 res) := by
 unfold M_laws_markIntS at hm
 refine goF func132 z z (lb z) fun fn hr => Ws<|Ra z<|Wn<|Wq<|Ws<|Ra z<|Wn ?_
 obtain ⟨u16, huh, hma⟩ := bdS hm
 refine WC_iter (σ := (List Int) × Int × Int) (ρ := Int × (List Int)) (fun s a w => un3 (fun x5 x3 x4 => ∃  (S0 : List Nat), Sat 19 [(0, sl A0 N0 C0), (1, vI x3), (5, vI x4)] a ∧ Chg (· ∈ S1_0) w0 w ∧ ownS w S0 (sl A0 N0 C0) x5 ∧ S0.Nodup ∧ (∀ k ∈ S0, k ∈ S1_0 ∨ w0.z ≤ k) ∧ inI x3 ∧ inI x4) s) (fun s a w => un3 (fun x5 x3 x4 => ∃  (S0 : List Nat), Sat 19 [(0, sl A0 N0 C0), (1, vI x3)] a ∧ Chg (· ∈ S1_0) w0 w ∧ ownS w S0 (sl A0 N0 C0) x5 ∧ S0.Nodup ∧ (∀ k ∈ S0, k ∈ S1_0 ∨ w0.z ≤ k) ∧ inI x3 ∧ inI x4) s) (fun r ex a w => ex = .ret ∧ RetPost prog fn (Q30 w0 B A0 N0 C0 S1_0 r) a w) huh ?_ ?_ ?_ ?_
 ·exact fun _ q => ⟨S1_0, (q.k<|s3 z z z), (cr S1_0 w0), p1_0, p1_0n, (io sr), p2_0, (ii z)⟩
 ·rintro ⟨x5, x3, x4⟩ a17 wb o18 ⟨S0, hSi, s8, h1, h2, h6, h7, hc⟩ hmj
  have hmd := un3S hmj
  refine Wu ?_ hSi
  refine Wq<|Ws<|Rm z<|Rm z<|R z (lnR d_142 z<|ownS.rep h1)<|R z (lss z z)<|Wn<|Wc z (fun hc9 => ?_) (fun hc9 => ?_)
  ·refine Wk<|Wq<|Wb<|Ws<|Rm z<|Rm z<|Rm z ?_
   obtain ⟨xk, ee, hml⟩ := bdS (ifT hmd hc9)
   refine RX z (rd_atU (α := Int) d_142 z_3 z z h1 ee) ?_
   rintro _ ⟨g19, hn, rfl⟩
   refine E0 (ef_setN (α := Int) z_3 z hn z z z ee h1 h2 (Int_own h7) an_ nd_nil) ?_
   rintro _ wm ⟨Sf, so, hp, hq, ht⟩
   refine Wn<|Wg<|Rm z<|R z (add_ z z)<|Ra z<|Wn<|Wg<|Rm z<|R z (add_ z z)<|Ra z<|Wl ?_
   have hg : ∀ k ∈ S0, k ∈ S1_0 ∨ w0.z ≤ k := or1 h6 (io sr) (leor lr)
   have hu : ∀ k ∈ Sf, k ∈ S1_0 ∨ w0.z ≤ k := or2 ht hg an_ (leor s8.s)
   have hv : Chg (· ∈ S1_0) w0 wb := cM (cr S1_0 w0) s8 (io sr)
   have hw : Chg (· ∈ S1_0) w0 wm := cM hv so hg
   exact fun _ q => ⟨(xk, iadd x3 1, iadd x4 1), (som hml).symm, ⟨Sf, (q.k<|s3 z z z), hw, hp, hq, hu, (iA _ _), (iA _ _)⟩⟩
  have hx : ∀ k ∈ S0, k ∈ S1_0 ∨ w0.z ≤ k := or1 h6 (io sr) (leor lr)
  have hy : Chg (· ∈ S1_0) w0 wb := cM (cr S1_0 w0) s8 (io sr)
  exact We (fun a' ha' => QO_brk (som<|ifF hmd hc9).symm ⟨S0, (Sat.weaken ha'<|s2 z z), hy, h1, h2, hx, h7, hc⟩)
 ·rintro ⟨x5, x3, x4⟩ ar ws rfl ⟨S0, hS1a, sz, h1, h2, h6, h7, hc⟩
  have hm10 := elL hma
  have hm11 := un3S hm10
  revert ar
  refine Wo<|Ws<|Rm z<|Ra z<|Wn ?_
  obtain rfl := som hm11
  have h12 : Chg (· ∈ S1_0) w0 ws := cM (cr S1_0 w0) sz (io sr)
  have h13 : ∀ k ∈ S0, k ∈ S1_0 ∨ w0.z ≤ k := or1 h6 (io sr) (leor lr)
  exact Wr<|ret1 hr z ⟨h12, S0, z, h7, h1, h2, h13⟩
 rintro r1b ex1c a1d w1e rfl ⟨rfl, hq14⟩
 have hm15 := elR hma
 obtain rfl := som hm15
 exact ⟨hq14, z⟩
def Q31 (w0 : World) (B : Nat) (A0 : Option Addr) (N0 C0 : Nat) (S1_0 : List Nat) (r : Int × (List Rule)) (v : Value) (w' : World) : Prop := Chg (· ∈ S1_0) w0 w' ∧ un2 (fun r1 r2 => ∃ S1, (vI r1) = v ∧ inI r1 ∧ ownS w' S1 (sl A0 N0 C0) r2 ∧ S1.Nodup ∧ (∀ k ∈ S1, k ∈ S1_0 ∨ w0.z ≤ k)) r
theorem W_w42 {x1 : List Rule} {S1_0 : List Nat} {x2 : Int} {res : Int × (List Rule)} (hm : M_laws_markRuleS n x1 x2 = some res) (hBw : B ≤ w0.z) (p1_0 : ownS w0 S1_0 (sl A0 N0 C0) x1) (p1_0n : S1_0.Nodup) (p1_0g : ∀ k ∈ S1_0, B ≤ k) (p2_0 : inI x2) : CallsR prog 104 [sl A0 N0 C0, vI x2] w0 (Q31 w0 B A0 N0 C0 S1_0 res) := by
 unfold M_laws_markRuleS at hm
 refine goF func104 z z (lb z) fun fn hr => Ws<|Ra z<|Wn<|Wq<|Ws<|Ra z<|Wn ?_
 obtain ⟨u7g, hu3n, hm1q⟩ := bdS hm
 refine WC_iter (σ := (List Rule) × Int × Int) (ρ := Int × (List Rule)) (fun s a w => un3 (fun xi xa x9 => ∃  (S0 : List Nat), Sat 72 [(0, sl A0 N0 C0), (1, vI xa), (5, vI x9)] a ∧ Chg (· ∈ S1_0) w0 w ∧ ownS w S0 (sl A0 N0 C0) xi ∧ S0.Nodup ∧ (∀ k ∈ S0, k ∈ S1_0 ∨ w0.z ≤ k) ∧ inI xa ∧ inI x9) s) (fun s a w => un3 (fun xi xa x9 => ∃  (S0 : List Nat), Sat 72 [(0, sl A0 N0 C0), (1, vI xa)] a ∧ Chg (· ∈ S1_0) w0 w ∧ ownS w S0 (sl A0 N0 C0) xi ∧ S0.Nodup ∧ (∀ k ∈ S0, k ∈ S1_0 ∨ w0.z ≤ k) ∧ inI xa ∧ inI x9) s) (fun r ex a w => ex = .ret ∧ RetPost prog fn (Q31 w0 B A0 N0 C0 S1_0 r) a w) hu3n ?_ ?_ ?_ ?_
 ·exact fun _ q => ⟨S1_0, (q.k<|s3 z z z), (cr S1_0 w0), p1_0, p1_0n, (io sr), p2_0, (ii z)⟩
 ·rintro ⟨xi, xa, x9⟩ a7h w1r o7i ⟨S0, hS3o, sp, hj, hq, hl, ht, h1s⟩ hm3p
  have hm1t := un3S hm3p
  refine Wu ?_ hS3o
  refine Wq<|Ws<|Rm z<|Rm z<|R z (lnR d_93 z<|ownS.rep hj)<|R z (lss z z)<|Wn<|Wc z (fun hc1g => ?_) (fun hc1g => ?_)
  ·refine Wk<|Wq<|Wb<|Ws<|Rm z<|Rm z<|Rm z ?_
   obtain ⟨r3q, e3r, hm3s⟩ := bdS (ifT hm1t hc1g)
   refine E z (fc call46 z<|W_w0d (B := B) e3r (lt_ hBw sp.s) ht) ?_
   rintro _ w3t ⟨s1h, rfl, h3u⟩
   obtain ⟨xb, e1u, hm3v⟩ := bdS hm3s
   have h1v := hj.e s1h
   refine RX z (rd_atQ (α := Rule) d_93 z_144 z z h1v e1u) ?_
   rintro _ ⟨g7j, h3w, rfl⟩
   refine R z (fd f_144_0 z) ?_
   obtain ⟨x7k, e3x, hm3y⟩ := bdS hm3v
   refine E0 (ef_setF (α := Rule) (v' := (⟨r3q, xb.kind, xb.size, xb.little, xb.bytes, xb.names, xb.tags, xb.kids⟩ : Rule)) z_9 z h3w z z z z e1u e3x h1v hq (lb z) (fun _ _ _ h => Rule_setO0 h h3u)) ?_
   rintro _ w3z ⟨S40, s1w, h1x, h41, h1y⟩
   refine Wn<|Ws<|Rm z<|R z (add_ z z)<|Ra z<|Wn<|Ws<|Rm z<|Rm z<|Rm z ?_
   obtain ⟨xc, e1z, hm42⟩ := bdS hm3y
   refine RX z (rd_atQ (α := Rule) d_93 z_144 z z h1x e1z) ?_
   rintro _ ⟨g7l, h43, rfl⟩
   refine R z (fd f_144_1 z) ?_
   obtain ⟨x7m, e44, hm45⟩ := bdS hm42
   refine E0 (ef_setF (α := Rule) (v' := (⟨xc.name, iadd xa 1, xc.size, xc.little, xc.bytes, xc.names, xc.tags, xc.kids⟩ : Rule)) z_3 z h43 z z z z e1z e44 h1x h41 (lb z) (fun _ _ _ h => Rule_setO1 h<|iA _ _)) ?_
   rintro _ w46 ⟨S47, s20, h21, h48, h22⟩
   refine Wn<|Ws<|Rm z<|R z (add_ z z)<|Ra z<|Wn<|Ws<|Rm z<|Rm z<|Rm z ?_
   obtain ⟨xd, e23, hm49⟩ := bdS hm45
   refine RX z (rd_atQ (α := Rule) d_93 z_144 z z h21 e23) ?_
   rintro _ ⟨g7n, h4a, rfl⟩
   refine R z (fd f_144_2 z) ?_
   obtain ⟨x7o, e4b, hm4c⟩ := bdS hm49
   refine E0 (ef_setF (α := Rule) (v' := (⟨xd.name, xd.kind, iadd (iadd xa 1) 1, xd.little, xd.bytes, xd.names, xd.tags, xd.kids⟩ : Rule)) z_3 z h4a z z z z e23 e4b h21 h48 (lb z) (fun _ _ _ h => Rule_setO2 h<|iA _ _)) ?_
   rintro _ w4d ⟨S4e, s24, h25, h4f, h26⟩
   refine Wn<|Ws<|Rm z<|R z (add_ z z)<|Ra z<|Wn<|Ws<|Rm z<|Rm z<|Rm z<|R z (rd_rem z z (by decide))<|R z (eql z z) ?_
   obtain ⟨xe, e27, hm4g⟩ := bdS hm4c
   refine RX z (rd_atQ (α := Rule) d_93 z_144 z z h25 e27) ?_
   rintro _ ⟨g7p, h4h, rfl⟩
   refine R z (fd f_144_3 z) ?_
   obtain ⟨x4i, e4j, hm4k⟩ := bdS hm4g
   refine E0 (ef_setF (α := Rule) (v' := (⟨xe.name, xe.kind, xe.size, (irem (iadd (iadd (iadd xa 1) 1) 1) 3) == 0, xe.bytes, xe.names, xe.tags, xe.kids⟩ : Rule)) z_4 z h4h z z z z e27 e4j h25 h4f (lb z) (fun _ _ _ h => Rule_setO3 h)) ?_
   rintro _ wr ⟨S4l, s28, h29, h4m, h2a⟩
   refine Wn<|Ws<|Rm z<|R z (add_ z z)<|Ra z<|Wn<|Ws<|Rm z<|Rm z ?_
   obtain ⟨x3, e2b, hm4n⟩ := bdS hm4k
   refine RX z (rd_atQ (α := Rule) d_93 z_144 z z h29 e2b) ?_
   rintro _ ⟨g7q, h4o, rfl⟩
   obtain ⟨cs7r, S7s, h4p, h4q, h1, h2c, h7t, h4r⟩ := own_lens h4o h29 h4m e2b
   obtain ⟨a7u, n7v, c7w, a7x, n7y, c7z, a80, n81, c82, a83, n84, c85, Ss, Su, Sv, Sw, rfl, rfl, h4s, h4t, h4u, h4v, h2d, h2e, h2f⟩ := Rule_openO h4q
   refine R z (fd f_144_4 z)<|R z (l1 g_25 z fid<|h4p.at (j := 4) z)<|Rm z ?_
   have h1i := lt_ sp.s s1h.s
   have h1j := lt_ h1i s1w.s
   have h1k := lt_ h1j s20.s
   have h1l := lt_ h1k s24.s
   have hx := lt_ h1l s28.s
   have h1m := lt_ hBw hx
   have h2g := o1le h2a (o1le h26 (o1le h22 (o1le h1y (o1le hl p1_0g hBw)<|lt_ hBw h1i)<|lt_ hBw h1j)<|lt_ hBw h1k)<|lt_ hBw h1l
   obtain ⟨r86, r2h, e4w, hm4x⟩ := bd2S hm4n
   refine E z (fc call27 z<|W_w0p (B := B) e4w h1m h4v (nl_ h1) (o1le (fun k hk => .inl<|h2c k<|List.mem_append_left _ hk) h2g h1m)<|iA _ _) ?_
   rintro _ wk ⟨sf, S2i, rfl, h4y, h4z, h50, hy⟩
   have h51 : Chg (· ∈ (Ss ++ (Su ++ (Sv ++ Sw)))) wr wk := cM (cr (Ss ++ (Su ++ (Sv ++ Sw))) wr) sf (io (sub_l sr))
   have h52 : ∀ k ∈ S2i, k ∈ (Ss ++ (Su ++ (Sv ++ Sw))) ∨ wr.z ≤ k := or1 hy (io (sub_l sr)) (leor lr)
   obtain ⟨S53, h2j, h54, h2k⟩ := h4r _ _ _ h51 (Rule_mkO (x := (⟨x3.name, x3.kind, x3.size, x3.little, r2h, x3.names, x3.tags, x3.kids⟩ : Rule)) (S1 := S2i) (S2 := Su) (S3 := Sv) (S4 := Sw) h4s h4t h4u h4z (h2d.c sf (ds (nmL (nj h1)))) (h2e.c sf (ds (nmL (nmR (nj h1))))) (h2f.c sf (ds (nmR (nmR (nj h1)))))) (na_ h50 (na_ (nl_ (nr_ h1)) (na_ (nl_ (nr_ (nr_ h1))) (nr_ (nr_ (nr_ h1))) (nj (nr_ (nr_ h1)))) (nmA (nmL (nj (nr_ h1))) (nmR (nj (nr_ h1))))) (nmA (o1no hy (nmL (nj h1)) (ownS.lt h2d) lr) (nmA (o1no hy (nmL (nmR (nj h1))) (ownS.lt h2e) lr) (o1no hy (nmR (nmR (nj h1))) (ownS.lt h2f) lr)))) (aa_ h52 (aa_ (io (sub_r (sub_l sr))) (aa_ (io (sub_r (sub_r (sub_l sr)))) (io (sub_r (sub_r (sub_r sr)))))))
   refine Ra z<|Wn<|Ws<|Rm z<|Rm z ?_
   obtain ⟨x4, e2l, hm55⟩ := bdS hm4x
   refine RX z (rd_atQ (α := Rule) d_93 z_144 z z h2j e2l) ?_
   rintro _ ⟨g87, h56, rfl⟩
   obtain ⟨cs88, S89, h57, h58, h2, h2m, h8a, h59⟩ := own_lens h56 h2j h54 e2l
   obtain ⟨a8b, n8c, c8d, a8e, n8f, c8g, a8h, n8i, c8j, a8k, n8l, c8m, Sz, S10, S11, S12, rfl, rfl, h5a, h5b, h5c, h2n, h5d, h2o, h2p⟩ := Rule_openO h58
   refine R z (fd f_144_5 z)<|R z (l1 g_41 z fid<|h57.at (j := 5) z)<|Rm z ?_
   have h13 := lt_ hx sf.s
   have h1n := lt_ hBw h13
   have h2q := o1le h2k h2g h1m
   obtain ⟨r8n, r2r, e5e, hm5f⟩ := bd2S hm55
   refine E z (fc call18 z<|W_w41 (B := B) e5e h1n h5d (nl_<|nr_ h2) (o1le (fun k hk => .inl ((fun k hk => h2m k<|List.mem_append_right _ hk) k<|List.mem_append_left _ hk)) h2q h1n) h4y) ?_
   rintro _ wm ⟨sg, S2s, rfl, h5g, h5h, h5i, h14⟩
   have h5j : Chg (· ∈ (Sz ++ (S10 ++ (S11 ++ S12)))) wk wm := cM (cr (Sz ++ (S10 ++ (S11 ++ S12))) wk) sg (io (sub_r (sub_l sr)))
   have h5k : ∀ k ∈ S2s, k ∈ (Sz ++ (S10 ++ (S11 ++ S12))) ∨ wk.z ≤ k := or1 h14 (io (sub_r (sub_l sr))) (leor lr)
   obtain ⟨S5l, h2t, h5m, h2u⟩ := h59 _ _ _ h5j (Rule_mkO (x := (⟨x4.name, x4.kind, x4.size, x4.little, x4.bytes, r2r, x4.tags, x4.kids⟩ : Rule)) (S1 := Sz) (S2 := S2s) (S3 := S11) (S4 := S12) h5a h5b h5c (h2n.c sg (nmL (nj h2))) h5h (h2o.c sg (ds (nmL (nj (nr_ h2))))) (h2p.c sg (ds (nmR (nj (nr_ h2)))))) (na_ (nl_ h2) (na_ h5i (na_ (nl_ (nr_ (nr_ h2))) (nr_ (nr_ (nr_ h2))) (nj (nr_ (nr_ h2)))) (nmA (o1no h14 (nmL (nj (nr_ h2))) (ownS.lt h2o) lr) (o1no h14 (nmR (nj (nr_ h2))) (ownS.lt h2p) lr))) (nmA (ds (o1no h14 (ds (nmL (nj h2))) (ownS.lt h2n) lr)) (nmA (nmL (nmR (nj h2))) (nmR (nmR (nj h2)))))) (aa_ (io (sub_l sr)) (aa_ h5k (aa_ (io (sub_r (sub_r (sub_l sr)))) (io (sub_r (sub_r (sub_r sr)))))))
   refine Ra z<|Wn<|Ws<|Rm z<|Rm z ?_
   obtain ⟨x5, e2v, hm5n⟩ := bdS hm5f
   refine RX z (rd_atQ (α := Rule) d_93 z_144 z z h2t e2v) ?_
   rintro _ ⟨g8o, h5o, rfl⟩
   obtain ⟨cs8p, S8q, h5p, h5q, h7, h2w, h8r, h5r⟩ := own_lens h5o h2t h5m e2v
   obtain ⟨a8s, n8t, c8u, a8v, n8w, c8x, a8y, n8z, c90, a91, n92, c93, S15, S16, S17, S18, rfl, rfl, h5s, h5t, h5u, h2x, h2y, h5v, h2z⟩ := Rule_openO h5q
   refine R z (fd f_144_6 z)<|R z (l1 g_142 z fid<|h5p.at (j := 6) z)<|Rm z ?_
   have h19 := lt_ h13 sg.s
   have h1o := lt_ hBw h19
   have h30 := o1le h2u h2q h1n
   obtain ⟨r94, r31, e5w, hm5x⟩ := bd2S hm5n
   refine E z (fc call132 z<|W_w1s (B := B) e5w h1o h5v (nl_<|nr_<|nr_ h7) (o1le (fun k hk => .inl ((fun k hk => (fun k hk => h2w k<|List.mem_append_right _ hk) k<|List.mem_append_right _ hk) k<|List.mem_append_left _ hk)) h30 h1o) h5g) ?_
   rintro _ wn ⟨sh, S32, rfl, h5y, h5z, h60, h1a⟩
   have h61 : Chg (· ∈ (S15 ++ (S16 ++ (S17 ++ S18)))) wm wn := cM (cr (S15 ++ (S16 ++ (S17 ++ S18))) wm) sh (io (sub_r (sub_r (sub_l sr))))
   have h62 : ∀ k ∈ S32, k ∈ (S15 ++ (S16 ++ (S17 ++ S18))) ∨ wm.z ≤ k := or1 h1a (io (sub_r (sub_r (sub_l sr)))) (leor lr)
   obtain ⟨S63, h33, h64, h34⟩ := h5r _ _ _ h61 (Rule_mkO (x := (⟨x5.name, x5.kind, x5.size, x5.little, x5.bytes, x5.names, r31, x5.kids⟩ : Rule)) (S1 := S15) (S2 := S16) (S3 := S32) (S4 := S18) h5s h5t h5u (h2x.c sh (nmL (nmR (nj h7)))) (h2y.c sh (nmL (nj (nr_ h7)))) h5z (h2z.c sh (ds (nj (nr_ (nr_ h7)))))) (na_ (nl_ h7) (na_ (nl_ (nr_ h7)) (na_ h60 (nr_ (nr_ (nr_ h7))) (o1no h1a (nj (nr_ (nr_ h7))) (ownS.lt h2z) lr)) (nmA (ds (o1no h1a (ds (nmL (nj (nr_ h7)))) (ownS.lt h2y) lr)) (nmR (nj (nr_ h7))))) (nmA (nmL (nj h7)) (nmA (ds (o1no h1a (ds (nmL (nmR (nj h7)))) (ownS.lt h2x) lr)) (nmR (nmR (nj h7)))))) (aa_ (io (sub_l sr)) (aa_ (io (sub_r (sub_l sr))) (aa_ h62 (io (sub_r (sub_r (sub_r sr)))))))
   refine Ra z<|Wn<|Wg<|Rm z<|Rm z ?_
   obtain ⟨x6, e35, hm65⟩ := bdS hm5x
   refine RX z (rd_atQ (α := Rule) d_93 z_144 z z h33 e35) ?_
   rintro _ ⟨g95, h66, rfl⟩
   obtain ⟨cs96, S97, h67, h68, h8, h36, h98, h69⟩ := own_lens h66 h33 h64 e35
   obtain ⟨a99, n9a, c9b, a9c, n9d, c9e, a9f, n9g, c9h, a9i, n9j, c9k, S1b, S1c, S1d, S1e, rfl, rfl, h6a, h6b, h6c, h37, h38, h39, h6d⟩ := Rule_openO h68
   refine R z (fd f_144_7 z)<|R z (l1 g_142 z fid<|h67.at (j := 7) z)<|Rm z ?_
   have h1p := lt_ h19 sh.s
   have h3a := lt_ hBw h1p
   have h6e := o1le (fun k hk => .inl ((fun k hk => (fun k hk => (fun k hk => h36 k<|List.mem_append_right _ hk) k<|List.mem_append_right _ hk) k<|List.mem_append_right _ hk) k hk)) (o1le h34 h30 h1o) h3a
   obtain ⟨r6f, r3b, e6g, hm6h⟩ := bd2S hm65
   refine E z (fc call132 z<|W_w1s (B := B) e6g h3a h6d (nr_<|nr_<|nr_ h8) h6e h5y) ?_
   rintro _ w3c ⟨so, S3d, rfl, h6i, h6j, h6k, h1f⟩
   have h6l : Chg (· ∈ (S1b ++ (S1c ++ (S1d ++ S1e)))) wn w3c := cM (cr (S1b ++ (S1c ++ (S1d ++ S1e))) wn) so (io (sub_r (sub_r (sub_r sr))))
   have h6m : ∀ k ∈ S3d, k ∈ (S1b ++ (S1c ++ (S1d ++ S1e))) ∨ wn.z ≤ k := or1 h1f (io (sub_r (sub_r (sub_r sr)))) (leor lr)
   obtain ⟨S3e, h6n, h6o, h6p⟩ := h69 _ _ _ h6l (Rule_mkO (x := (⟨x6.name, x6.kind, x6.size, x6.little, x6.bytes, x6.names, x6.tags, r3b⟩ : Rule)) (S1 := S1b) (S2 := S1c) (S3 := S1d) (S4 := S3d) h6a h6b h6c (h37.c so (nmR (nmR (nj h8)))) (h38.c so (nmR (nj (nr_ h8)))) (h39.c so (nj (nr_ (nr_ h8)))) h6j) (na_ (nl_ h8) (na_ (nl_ (nr_ h8)) (na_ (nl_ (nr_ (nr_ h8))) h6k (ds (o1no h1f (ds (nj (nr_ (nr_ h8)))) (ownS.lt h39) lr))) (nmA (nmL (nj (nr_ h8))) (ds (o1no h1f (ds (nmR (nj (nr_ h8)))) (ownS.lt h38) lr)))) (nmA (nmL (nj h8)) (nmA (nmL (nmR (nj h8))) (ds (o1no h1f (ds (nmR (nmR (nj h8)))) (ownS.lt h37) lr))))) (aa_ (io (sub_l sr)) (aa_ (io (sub_r (sub_l sr))) (aa_ (io (sub_r (sub_r (sub_l sr)))) h6m)))
   refine Ra z<|Wn<|Wg<|Rm z<|R z (add_ z z)<|Ra z<|Wl ?_
   have h3f : ∀ k ∈ S0, k ∈ S1_0 ∨ w0.z ≤ k := or1 hl (io sr) (leor lr)
   have h3g : ∀ k ∈ S40, k ∈ S1_0 ∨ w0.z ≤ k := or1 h1y h3f (leor h1i)
   have h3h : ∀ k ∈ S47, k ∈ S1_0 ∨ w0.z ≤ k := or1 h22 h3g (leor h1j)
   have h3i : ∀ k ∈ S4e, k ∈ S1_0 ∨ w0.z ≤ k := or1 h26 h3h (leor h1k)
   have h3j : ∀ k ∈ S4l, k ∈ S1_0 ∨ w0.z ≤ k := or1 h2a h3i (leor h1l)
   have h3k : ∀ k ∈ S53, k ∈ S1_0 ∨ w0.z ≤ k := or1 h2k h3j (leor hx)
   have h3l : ∀ k ∈ S5l, k ∈ S1_0 ∨ w0.z ≤ k := or1 h2u h3k (leor h13)
   have h3m : ∀ k ∈ S63, k ∈ S1_0 ∨ w0.z ≤ k := or1 h34 h3l (leor h19)
   have h6q : ∀ k ∈ S3e, k ∈ S1_0 ∨ w0.z ≤ k := or1 h6p h3m (leor h1p)
   have h6r : Chg (· ∈ S1_0) w0 w1r := cM (cr S1_0 w0) sp (io sr)
   have h6s : Chg (· ∈ S1_0) w0 w3t := cext h6r s1h
   have h6t : Chg (· ∈ S1_0) w0 w3z := cM h6s s1w h3f
   have h6u : Chg (· ∈ S1_0) w0 w46 := cM h6t s20 h3g
   have h6v : Chg (· ∈ S1_0) w0 w4d := cM h6u s24 h3h
   have h6w : Chg (· ∈ S1_0) w0 wr := cM h6v s28 h3i
   have h6x : ∀ k ∈ Ss, k ∈ S1_0 ∨ w0.z ≤ k := or1 (fun k hk => .inl (h2c k (List.mem_append_left _ hk))) h3j (leor hx)
   have h6y : Chg (· ∈ S1_0) w0 wk := cM h6w sf h6x
   have h6z : ∀ k ∈ S10, k ∈ S1_0 ∨ w0.z ≤ k := or1 (fun k hk => .inl ((fun k hk => h2m k (List.mem_append_right _ hk)) k (List.mem_append_left _ hk))) h3k (leor h13)
   have h70 : Chg (· ∈ S1_0) w0 wm := cM h6y sg h6z
   have h71 : ∀ k ∈ S17, k ∈ S1_0 ∨ w0.z ≤ k := or1 (fun k hk => .inl ((fun k hk => (fun k hk => h2w k (List.mem_append_right _ hk)) k (List.mem_append_right _ hk)) k (List.mem_append_left _ hk))) h3l (leor h19)
   have h72 : Chg (· ∈ S1_0) w0 wn := cM h70 sh h71
   have h73 : ∀ k ∈ S1e, k ∈ S1_0 ∨ w0.z ≤ k := or1 (fun k hk => .inl ((fun k hk => (fun k hk => (fun k hk => h36 k (List.mem_append_right _ hk)) k (List.mem_append_right _ hk)) k (List.mem_append_right _ hk)) k hk)) h3m (leor h1p)
   have h74 : Chg (· ∈ S1_0) w0 w3c := cM h72 so h73
   exact fun _ q => ⟨(((((x4i.set (x9).toNat (⟨x3.name, x3.kind, x3.size, x3.little, r2h, x3.names, x3.tags, x3.kids⟩ : Rule)).set (x9).toNat (⟨x4.name, x4.kind, x4.size, x4.little, x4.bytes, r2r, x4.tags, x4.kids⟩ : Rule)).set (x9).toNat (⟨x5.name, x5.kind, x5.size, x5.little, x5.bytes, x5.names, r31, x5.kids⟩ : Rule)).set (x9).toNat (⟨x6.name, x6.kind, x6.size, x6.little, x6.bytes, x6.names, x6.tags, r3b⟩ : Rule)), r6f, iadd x9 1), (som hm6h).symm, ⟨S3e, (q.k<|s3 z z z), h74, h6n, h6o, h6q, h6i, (iA _ _)⟩⟩
  have h75 : ∀ k ∈ S0, k ∈ S1_0 ∨ w0.z ≤ k := or1 hl (io sr) (leor lr)
  have h76 : Chg (· ∈ S1_0) w0 w1r := cM (cr S1_0 w0) sp (io sr)
  exact We (fun a' ha' => QO_brk (som<|ifF hm1t hc1g).symm ⟨S0, (Sat.weaken ha'<|s2 z z), h76, hj, hq, h75, ht, h1s⟩)
 ·rintro ⟨xi, xa, x9⟩ a77 w78 rfl ⟨S0, hS9l, s79, hj, hq, hl, ht, h1s⟩
  have hm7a := elL hm1q
  have hm7b := un3S hm7a
  revert a77
  refine Wo<|Ws<|Rm z<|Ra z<|Wn ?_
  obtain rfl := som hm7b
  have h7c : Chg (· ∈ S1_0) w0 w78 := cM (cr S1_0 w0) s79 (io sr)
  have h7d : ∀ k ∈ S0, k ∈ S1_0 ∨ w0.z ≤ k := or1 hl (io sr) (leor lr)
  exact Wr<|ret1 hr z ⟨h7c, S0, z, ht, hj, hq, h7d⟩
 rintro r9m ex9n a9o w9p rfl ⟨rfl, hq7e⟩
 have hm7f := elR hm1q
 obtain rfl := som hm7f
 exact ⟨hq7e, z⟩
def Q32 (w0 : World) (B : Nat) (A0 : Option Addr) (N0 C0 : Nat) (S1_0 : List Nat) (r : Int × (List Desc)) (v : Value) (w' : World) : Prop := Chg (· ∈ S1_0) w0 w' ∧ un2 (fun r1 r2 => ∃ S1, (vI r1) = v ∧ inI r1 ∧ ownS w' S1 (sl A0 N0 C0) r2 ∧ S1.Nodup ∧ (∀ k ∈ S1, k ∈ S1_0 ∨ w0.z ≤ k)) r
theorem W_w43 {x1 : List Desc} {S1_0 : List Nat} {x2 : Int} {res : Int × (List Desc)} (hm : M_laws_markDescriptionS n x1 x2 = some res) (hBw : B ≤ w0.z) (p1_0 : ownS w0 S1_0 (sl A0 N0 C0) x1) (p1_0n : S1_0.Nodup) (p1_0g : ∀ k ∈ S1_0, B ≤ k) (p2_0 : inI x2) : CallsR prog 73 [sl A0 N0 C0, vI x2] w0 (Q32 w0 B A0 N0 C0 S1_0 res) := by
 unfold M_laws_markDescriptionS at hm
 refine goF func73 z z (lb z) fun fn hr => Ws<|Ra z<|Wn<|Wq<|Ws<|Ra z<|Wn ?_
 obtain ⟨u1p, huo, hmc⟩ := bdS hm
 refine WC_iter (σ := (List Desc) × Int × Int) (ρ := Int × (List Desc)) (fun s a w => un3 (fun x5 x4 x3 => ∃  (S0 : List Nat), Sat 20 [(0, sl A0 N0 C0), (1, vI x4), (5, vI x3)] a ∧ Chg (· ∈ S1_0) w0 w ∧ ownS w S0 (sl A0 N0 C0) x5 ∧ S0.Nodup ∧ (∀ k ∈ S0, k ∈ S1_0 ∨ w0.z ≤ k) ∧ inI x4 ∧ inI x3) s) (fun s a w => un3 (fun x5 x4 x3 => ∃  (S0 : List Nat), Sat 20 [(0, sl A0 N0 C0), (1, vI x4)] a ∧ Chg (· ∈ S1_0) w0 w ∧ ownS w S0 (sl A0 N0 C0) x5 ∧ S0.Nodup ∧ (∀ k ∈ S0, k ∈ S1_0 ∨ w0.z ≤ k) ∧ inI x4 ∧ inI x3) s) (fun r ex a w => ex = .ret ∧ RetPost prog fn (Q32 w0 B A0 N0 C0 S1_0 r) a w) huo ?_ ?_ ?_ ?_
 ·exact fun _ q => ⟨S1_0, (q.k<|s3 z z z), (cr S1_0 w0), p1_0, p1_0n, (io sr), p2_0, (ii z)⟩
 ·rintro ⟨x5, x4, x3⟩ a1q w2 o1r ⟨S0, hSp, s6, h1, h8, h7, h9, hd⟩ hmq
  have hme := un3S hmq
  refine Wu ?_ hSp
  refine Wq<|Ws<|Rm z<|Rm z<|R z (lnR d_32 z<|ownS.rep h1)<|R z (lss z z)<|Wn<|Wc z (fun hcb => ?_) (fun hcb => ?_)
  ·refine Wk<|Wq<|Wb<|Wg<|Rm z<|Rm z ?_
   obtain ⟨x1s, ef, hmr⟩ := bdS (ifT hme hcb)
   refine RX z (rd_atQ (α := Desc) d_32 z_95 z z h1 ef) ?_
   rintro _ ⟨g1t, ht, rfl⟩
   obtain ⟨cs1u, Sa, hu, hv, hw, hg, h1v, hx⟩ := own_lens ht h1 h8 ef
   obtain ⟨a1w, n1x, c1y, S1z, rfl, rfl, hy⟩ := Desc_openO hv
   refine R z (fd f_95_0 z)<|R z (l1 g_93 z fid<|hu.at (j := 0) z)<|Rm z ?_
   have hh := lt_ hBw s6.s
   obtain ⟨rs, ri, ez, hm10⟩ := bd2S hmr
   refine E z (fc call104 z<|W_w42 (B := B) ez hh hy hw (o1le (fun k hk => .inl<|hg k hk) (o1le h7 p1_0g hBw) hh) h9) ?_
   rintro _ wj ⟨sk, Sl, rfl, h11, h12, h13, h14⟩
   have h15 : Chg (· ∈ Sa) w2 wj := cM (cr Sa w2) sk (io sr)
   have h16 : ∀ k ∈ Sl, k ∈ Sa ∨ w2.z ≤ k := or1 h14 (io sr) (leor lr)
   obtain ⟨Sm, h17, h18, h19⟩ := hx _ _ _ h15 (Desc_mkO (x := (⟨ri⟩ : Desc)) (S1 := Sl) h12) h13 h16
   refine Ra z<|Wn<|Wg<|Rm z<|R z (add_ z z)<|Ra z<|Wl ?_
   have hn : ∀ k ∈ S0, k ∈ S1_0 ∨ w0.z ≤ k := or1 h7 (io sr) (leor lr)
   have h1a : ∀ k ∈ Sm, k ∈ S1_0 ∨ w0.z ≤ k := or1 h19 hn (leor s6.s)
   have h1b : Chg (· ∈ S1_0) w0 w2 := cM (cr S1_0 w0) s6 (io sr)
   have h1c : ∀ k ∈ Sa, k ∈ S1_0 ∨ w0.z ≤ k := or1 (fun k hk => .inl (hg k hk)) hn (leor s6.s)
   have h1d : Chg (· ∈ S1_0) w0 wj := cM h1b sk h1c
   exact fun _ q => ⟨((x5.set (x3).toNat (⟨ri⟩ : Desc)), rs, iadd x3 1), (som hm10).symm, ⟨Sm, (q.k<|s3 z z z), h1d, h17, h18, h1a, h11, (iA _ _)⟩⟩
  have h1e : ∀ k ∈ S0, k ∈ S1_0 ∨ w0.z ≤ k := or1 h7 (io sr) (leor lr)
  have h1f : Chg (· ∈ S1_0) w0 w2 := cM (cr S1_0 w0) s6 (io sr)
  exact We (fun a' ha' => QO_brk (som<|ifF hme hcb).symm ⟨S0, (Sat.weaken ha'<|s2 z z), h1f, h1, h8, h1e, h9, hd⟩)
 ·rintro ⟨x5, x4, x3⟩ a1g w1h rfl ⟨S0, hS20, s1i, h1, h8, h7, h9, hd⟩
  have hm1j := elL hmc
  have hm1k := un3S hm1j
  revert a1g
  refine Wo<|Ws<|Rm z<|Ra z<|Wn ?_
  obtain rfl := som hm1k
  have h1l : Chg (· ∈ S1_0) w0 w1h := cM (cr S1_0 w0) s1i (io sr)
  have h1m : ∀ k ∈ S0, k ∈ S1_0 ∨ w0.z ≤ k := or1 h7 (io sr) (leor lr)
  exact Wr<|ret1 hr z ⟨h1l, S0, z, h9, h1, h8, h1m⟩
 rintro r21 ex22 a23 w24 rfl ⟨rfl, hq1n⟩
 have hm1o := elR hmc
 obtain rfl := som hm1o
 exact ⟨hq1n, z⟩
theorem W_w44 {x1 : Registry} {S1_0 : List Nat} {x2 : Int} {res : Int × (List Desc)} (hm : M_laws_markRegistry n x1 x2 = some res) (hBw : B ≤ w0.z) (p1_0 : ownS w0 S1_0 (sl A0 N0 C0) x1.versions) (p1_0n : S1_0.Nodup) (p1_0g : ∀ k ∈ S1_0, B ≤ k) (p2_0 : inI x2) : CallsR prog 44 [(.agg #[sl A0 N0 C0]), vI x2] w0 (Q32 w0 B A0 N0 C0 S1_0 res) := by
 unfold M_laws_markRegistry at hm
 refine goF func44 z z (lb z) fun fn hr => Ws<|E z (fb z) ?_
 rintro _ w1 ⟨rfl, h2⟩
 have h0 := h2.below
 have h4 : Blk w1 w0.z [sl A0 N0 C0] := h2.blk
 refine Ra z<|Wn<|Ws<|R z (fd f_34_0 z)<|R z (l1 g_32 z fid<|h4.at z)<|Rm z ?_
 obtain ⟨rg, rh, e5, hm6⟩ := bd2S hm
 refine E z (fc call73 z<|W_w43 (B := B) e5 (lt_ hBw h0.s) (p1_0.e h0) p1_0n p1_0g p2_0) ?_
 rintro _ w7 ⟨s8, S3, rfl, h9, ha, hb, hc⟩
 refine Ra z<|Wn<|Ws<|Rm z<|Ra z<|Wn ?_
 obtain rfl := som hm6
 have hd : Chg (· ∈ S1_0) w0 w1 := cext (cr S1_0 w0) h0
 have he : Chg (· ∈ S1_0) w0 w7 := cM hd s8 (io sr)
 have hf : ∀ k ∈ S3, k ∈ S1_0 ∨ w0.z ≤ k := or1 hc (io sr) (leor h0.s)
 exact Wr<|ret1 hr z ⟨he, S3, z, h9, ha, hb, hf⟩
theorem W_w45 {x1 : Log} {S1_0 : List Nat} {x2 : Int} {res : Int × (List UInt8)} (hm : M_laws_markLog n x1 x2 = some res) (hBw : B ≤ w0.z) (p1_0 : ownS w0 S1_0 (sl A0 N0 C0) x1.bytes) (p1_0n : S1_0.Nodup) (p1_0g : ∀ k ∈ S1_0, B ≤ k) (p1_1 : inI x1.stored) (p2_0 : inI x2) : CallsR prog 45 [(.agg #[sl A0 N0 C0, vI x1.stored]), vI x2] w0 (Q28 w0 B A0 N0 C0 S1_0 res) := by
 unfold M_laws_markLog at hm
 refine goF func45 z z (lb z) fun fn hr => Ws<|E z (fb z) ?_
 rintro _ w1 ⟨rfl, h2⟩
 have h0 := h2.below
 have h4 : Blk w1 w0.z [sl A0 N0 C0, vI x1.stored] := h2.blk
 refine Ra z<|Wn<|Ws<|R z (fd f_35_0 z)<|R z (l1 g_25 z fid<|h4.at z)<|Rm z ?_
 obtain ⟨rg, rh, e5, hm6⟩ := bd2S hm
 refine E z (fc call27 z<|W_w0p (B := B) e5 (lt_ hBw h0.s) (p1_0.e h0) p1_0n p1_0g p2_0) ?_
 rintro _ w7 ⟨s8, S3, rfl, h9, ha, hb, hc⟩
 refine Ra z<|Wn<|Ws<|Rm z<|Ra z<|Wn ?_
 obtain rfl := som hm6
 have hd : Chg (· ∈ S1_0) w0 w1 := cext (cr S1_0 w0) h0
 have he : Chg (· ∈ S1_0) w0 w7 := cM hd s8 (io sr)
 have hf : ∀ k ∈ S3, k ∈ S1_0 ∨ w0.z ≤ k := or1 hc (io sr) (leor h0.s)
 exact Wr<|ret1 hr z ⟨he, S3, z, h9, ha, hb, hf⟩
def Q33 (w0 : World) (B : Nat) (A0 : Option Addr) (N0 C0 : Nat) (S1_0 : List Nat) (A1 : Option Addr) (N1 C1 : Nat) (S1_1 : List Nat) (r : Int × (List Desc) × (List UInt8)) (v : Value) (w' : World) : Prop := Chg (· ∈ (S1_0 ++ S1_1)) w0 w' ∧ un3 (fun r1 r2 r3 => ∃ S1 S2, (vI r1) = v ∧ inI r1 ∧ ownS w' S1 (sl A0 N0 C0) r2 ∧ S1.Nodup ∧ (∀ k ∈ S1, k ∈ S1_0 ∨ w0.z ≤ k) ∧ ownS w' S2 (sl A1 N1 C1) r3 ∧ S2.Nodup ∧ (∀ k ∈ S2, k ∈ S1_1 ∨ w0.z ≤ k)) r
theorem W_w1t {x1 : Archive} {S1_0 : List Nat} {S1_1 : List Nat} {x2 : Int} {res : Int × (List Desc) × (List UInt8)} (hm : M_laws_markArchive n x1 x2 = some res) (hBw : B ≤ w0.z) (p1_0 : ownS w0 S1_0 (sl A0 N0 C0) x1.registry.versions) (p1_0n : S1_0.Nodup) (p1_0g : ∀ k ∈ S1_0, B ≤ k) (p1_1 : ownS w0 S1_1 (sl A1 N1 C1) x1.log.bytes) (p1_1n : S1_1.Nodup) (p1_1g : ∀ k ∈ S1_1, B ≤ k) (p1_1d1 : ∀ k ∈ S1_1, k ∉ S1_0) (p1_2 : inI x1.log.stored) (p2_0 : inI x2) : CallsR prog 17 [(.agg #[sl A0 N0 C0, sl A1 N1 C1, vI x1.log.stored]), vI x2] w0 (Q33 w0 B A0 N0 C0 S1_0 A1 N1 C1 S1_1 res) := by
 unfold M_laws_markArchive at hm
 refine goF func17 z z (lb z) fun fn hr => Ws<|E z (fb z) ?_
 rintro _ w2 ⟨rfl, h3⟩
 have h0 := h3.below
 have h4 : Blk w2 w0.z [sl A0 N0 C0, sl A1 N1 C1, vI x1.log.stored] := h3.blk
 refine Ra z<|Wn<|Ws<|R z (fd f_37_0 z)<|R z (lN (vs := [sl A0 N0 C0]) g_34 z_34 z z fid<|h4.row 0 1 z)<|Rm z ?_
 obtain ⟨rm, rr, ea, hmb⟩ := bd2S hm
 refine E z (fc call44 z<|W_w44 (B := B) (x1 := (⟨x1.registry.versions⟩ : Registry)) ea (lt_ hBw h0.s) (p1_0.e h0) p1_0n p1_0g p2_0) ?_
 rintro _ wc ⟨s1, S5, rfl, hd, he, hf, h6⟩
 refine Ra z<|Wn<|Ws<|R z (fd f_37_1 z)<|R z (lN (vs := [sl A1 N1 C1, vI x1.log.stored]) g_35 z_35 z z fid<|(h4.c s1<|atp<|mnr<|ownS.lt p1_0).row 1 2 z)<|Rm z ?_
 have h7 := lt_ h0.s s1.s
 obtain ⟨rs, rv, eg, hmh⟩ := bd2S hmb
 refine E z (fc call45 z<|W_w45 (B := B) (x1 := (⟨x1.log.bytes, x1.log.stored⟩ : Log)) eg (lt_ hBw h7) ((p1_1.e h0).c s1 p1_1d1) p1_1n p1_1g p1_2 hd) ?_
 rintro _ wi ⟨s8, S9, rfl, hj, hk, hl, hn⟩
 refine Ra z<|Wn<|Ws<|Rm z<|Ra z<|Wn ?_
 obtain rfl := som hmh
 have ho : Chg (· ∈ (S1_0 ++ S1_1)) w0 w2 := cext (cr (S1_0 ++ S1_1) w0) h0
 have hp : Chg (· ∈ (S1_0 ++ S1_1)) w0 wc := cM ho s1 (io (sub_l sr))
 have hq : Chg (· ∈ (S1_0 ++ S1_1)) w0 wi := cM hp s8 (io (sub_r sr))
 have ht : ∀ k ∈ S5, k ∈ S1_0 ∨ w0.z ≤ k := or1 h6 (io sr) (leor h0.s)
 have hu : ∀ k ∈ S9, k ∈ S1_1 ∨ w0.z ≤ k := or1 hn (io sr) (leor h7)
 exact Wr<|ret1 hr z ⟨hq, S5, S9, z, hj, (he.c s8<|o1no h6 (ds p1_1d1) (ownS.lt p1_1) h0.s), hf, ht, hk, hl, hu⟩
theorem W_w1u {x1 : List UInt8} {x2 : Int} {res : Int} (hm : M_laws_heldByteS x1 x2 = some res) (hBw : B ≤ w0.z) (p1_0 : repS w0 B (sl A0 N0 C0) x1) (p2_0 : inI x2) : CallsR prog 93 [sl A0 N0 C0, vI x2] w0 (Q0 w0 B res) := by
 unfold M_laws_heldByteS at hm
 refine goF func93 z z (lb z) fun fn hr => Ws<|Ra z<|Wn<|Wq<|Ws<|Ra z<|Wn ?_
 obtain ⟨um, hua, hm4⟩ := bdS hm
 refine Wf (σ := Int) (ρ := Int) (fun (k5 : Nat) (x0 : Int) a w => Sat 22 [(0, sl A0 N0 C0), (1, vI x0), (5, (vI ((k5 : Nat) : Int)))] a ∧ Below w0.z w0 w ∧ inI x0) (fun (x0 : Int) a w => Sat 22 [(1, vI x0)] a ∧ Below w0.z w0 w ∧ inI x0) (fun r ex a w => ex = .ret ∧ RetPost prog fn (Q0 w0 B r) a w) hua ?_ ?_ ?_ ?_ ?_
 ·exact fun _ q => ⟨(q.k<|s3 z z z), (br w0), p2_0⟩
 ·rintro k5 x0 an wo op hk6 ⟨hSb, s2, h1⟩ hmc
  refine Wu ?_ hSb
  refine Wq<|Ws<|Rm z<|Rm z ?_
  have h7 := p1_0.e s2
  refine R z (lnR d_25 z h7)<|R z (lss z z)<|Wn<|Wc z (fun _ => ?_) (fun hc => (nolt hk6 hc).elim)
  refine Wk<|Wq<|Wb<|Wq<|Ws<|Rm z<|Rm z ?_
  obtain ⟨xq, ed, hm8⟩ := bdS hmc
  refine RX z (at_ (α := UInt8) d_25 z_5 z z z h7 ed) ?_
  rintro _ ⟨bs, ot, csr, rfl, he, hf, hu⟩
  obtain rfl := u8 hf
  refine R z (l1 g_5 z fid<|he.at0 z)<|Rm z<|R z (rd_convU d_3 d_5 z)<|R z (nq z z)<|Wn<|Wc z (fun hc3 => ?_) (fun hc3 => ?_)
  ·exact Ws<|Ra z<|Wn<|Wr<|rtO<|qL (som<|ifT hm8 hc3).symm<|ret1 hr z ⟨s2, z, (ii z)⟩
  exact Wk<|Wg<|Rm z<|R z (add_ z z)<|Ra z<|Wn<|Wg<|Rm z<|R z (inc_ hk6 (lt_ (repS.len p1_0) LEN_le) z z)<|Ra z<|Wl (fun _ q => ⟨iadd x0 1, (som<|ifF hm8 hc3).symm, ⟨(q.k<|s3 z z z), s2, (iA _ _)⟩⟩)
 ·rintro x0 av ww ⟨hSg, s9, h1⟩
  refine Wu ?_ hSg
  refine Wq<|Ws<|Rm z<|Rm z<|R z (lnR d_25 z<|p1_0.e s9)<|R z (lss z z)<|Wn<|Wc z (fun hc => (noltt hc).elim) (fun _ => ?_)
  exact We (fun a' ha' => ⟨rfl, ⟨(Sat.weaken ha'<|s1 z), s9, h1⟩⟩)
 ·rintro x0 ah wx rfl ⟨hSy, si, h1⟩
  have hmj := elL hm4
  revert ah
  refine Wo<|Ws<|Rm z<|Ra z<|Wn ?_
  obtain rfl := som hmj
  exact Wr<|ret1 hr z ⟨si, z, h1⟩
 rintro rz ex10 a11 w12 rfl ⟨rfl, hqk⟩
 have hml := elR hm4
 obtain rfl := som hml
 exact ⟨hqk, z⟩
theorem W_w46 {x1 : List Str} {x2 : Int} {res : Int} (hm : M_laws_heldStringS n x1 x2 = some res) (hBw : B ≤ w0.z) (p1_0 : repS w0 B (sl A0 N0 C0) x1) (p2_0 : inI x2) : CallsR prog 19 [sl A0 N0 C0, vI x2] w0 (Q0 w0 B res) := by
 unfold M_laws_heldStringS at hm
 refine goF func19 z z (lb z) fun fn hr => Ws<|Ra z<|Wn<|Wq<|Ws<|Ra z<|Wn ?_
 obtain ⟨uq, huc, hm5⟩ := bdS hm
 refine Wf (σ := Int) (ρ := Int) (fun (k6 : Nat) (x0 : Int) a w => Sat 22 [(0, sl A0 N0 C0), (1, vI x0), (5, (vI ((k6 : Nat) : Int)))] a ∧ Below w0.z w0 w ∧ inI x0) (fun (x0 : Int) a w => Sat 22 [(1, vI x0)] a ∧ Below w0.z w0 w ∧ inI x0) (fun r ex a w => ex = .ret ∧ RetPost prog fn (Q0 w0 B r) a w) huc ?_ ?_ ?_ ?_ ?_
 ·exact fun _ q => ⟨(q.k<|s3 z z z), (br w0), p2_0⟩
 ·rintro k6 x0 ar ws ot hk7 ⟨hSd, s2, h1⟩ hme
  refine Wu ?_ hSd
  refine Wq<|Ws<|Rm z<|Rm z ?_
  have h8 := p1_0.e s2
  refine R z (lnR d_41 z h8)<|R z (lss z z)<|Wn<|Wc z (fun _ => ?_) (fun hc => (nolt hk7 hc).elim)
  refine Wk<|Wq<|Wb<|Wq<|Wq (Wd (X := noX) 0 (.rd 0 (.rd 1 (.rd 2 (.rd 3 (.rd 4 (.ef 5 (.rd 6 .done))))))) mo (by kernel_rfl) fun wu s4 _ => dR z z (mv z)<|dR z z (mv z) ?_)
  obtain ⟨xv, eg, hmf⟩ := bdS hme
  refine dRX z z (at_ (α := Str) d_41 z_9 z z z (h8.e s4) eg) ?_
  rintro _ ⟨bw, ox, csy, rfl, hh, hi, hz⟩
  obtain ⟨rfl, h10⟩ := Str_open hi
  refine dR z z (l1 g_9 z fid<|hh.at0 z)<|dR z z (mv z) ?_
  obtain ⟨r11, ej, hm9⟩ := bdS hmf
  refine dE z z (fc call46 z<|W_w0d (B := B) ej (lt_ hBw<|lt_ s2.s s4.s) h1) (.inr fun _ _ h => chgB<|h.1) ?_
  rintro _ w12 ⟨sa, rfl, h13⟩
  refine dR z z (rd_neqT z z)<|pD<|Wo<|Wc z (fun hc3 => ?_) (fun hc3 => ?_)
  ·exact Ws<|Ra z<|Wn<|Wr<|rtO<|qL (som<|ifT hm9 hc3).symm<|ret1 hr z ⟨(bup (bup s2 s4) sa), z, (ii z)⟩
  exact Wk<|Wg<|Rm z<|R z (add_ z z)<|Ra z<|Wn<|Wg<|Rm z<|R z (inc_ hk7 (lt_ (repS.len p1_0) LEN_le) z z)<|Ra z<|Wl (fun _ q => ⟨iadd x0 1, (som<|ifF hm9 hc3).symm, ⟨(q.k<|s3 z z z), (bup (bup s2 s4) sa), (iA _ _)⟩⟩)
 ·rintro x0 a14 w15 ⟨hSk, sb, h1⟩
  refine Wu ?_ hSk
  refine Wq<|Ws<|Rm z<|Rm z<|R z (lnR d_41 z<|p1_0.e sb)<|R z (lss z z)<|Wn<|Wc z (fun hc => (noltt hc).elim) (fun _ => ?_)
  exact We (fun a' ha' => ⟨rfl, ⟨(Sat.weaken ha'<|s1 z), sb, h1⟩⟩)
 ·rintro x0 al w16 rfl ⟨hS17, sm, h1⟩
  have hmn := elL hm5
  revert al
  refine Wo<|Ws<|Rm z<|Ra z<|Wn ?_
  obtain rfl := som hmn
  exact Wr<|ret1 hr z ⟨sm, z, h1⟩
 rintro r18 ex19 a1a w1b rfl ⟨rfl, hqo⟩
 have hmp := elR hm5
 obtain rfl := som hmp
 exact ⟨hqo, z⟩
theorem W_w1v {x1 : List Int} {x2 : Int} {res : Int} (hm : M_laws_heldIntS x1 x2 = some res) (hBw : B ≤ w0.z) (p1_0 : repS w0 B (sl A0 N0 C0) x1) (p2_0 : inI x2) : CallsR prog 142 [sl A0 N0 C0, vI x2] w0 (Q0 w0 B res) := by
 unfold M_laws_heldIntS at hm
 refine goF func142 z z (lb z) fun fn hr => Ws<|Ra z<|Wn<|Wq<|Ws<|Ra z<|Wn ?_
 obtain ⟨um, hua, hm4⟩ := bdS hm
 refine Wf (σ := Int) (ρ := Int) (fun (k5 : Nat) (x0 : Int) a w => Sat 21 [(0, sl A0 N0 C0), (1, vI x0), (5, (vI ((k5 : Nat) : Int)))] a ∧ Below w0.z w0 w ∧ inI x0) (fun (x0 : Int) a w => Sat 21 [(1, vI x0)] a ∧ Below w0.z w0 w ∧ inI x0) (fun r ex a w => ex = .ret ∧ RetPost prog fn (Q0 w0 B r) a w) hua ?_ ?_ ?_ ?_ ?_
 ·exact fun _ q => ⟨(q.k<|s3 z z z), (br w0), p2_0⟩
 ·rintro k5 x0 an wo op hk6 ⟨hSb, s2, h1⟩ hmc
  refine Wu ?_ hSb
  refine Wq<|Ws<|Rm z<|Rm z ?_
  have h7 := p1_0.e s2
  refine R z (lnR d_142 z h7)<|R z (lss z z)<|Wn<|Wc z (fun _ => ?_) (fun hc => (nolt hk6 hc).elim)
  refine Wk<|Wq<|Wb<|Wq<|Ws<|Rm z<|Rm z ?_
  obtain ⟨xq, ed, hm8⟩ := bdS hmc
  refine RX z (at_ (α := Int) d_142 z_3 z z z h7 ed) ?_
  rintro _ ⟨bs, ot, csr, rfl, he, hf, hu⟩
  obtain ⟨rfl, hv⟩ := Int_open hf
  refine R z (l1 g_3 z fid<|he.at0 z)<|Rm z<|R z (nq z z)<|Wn<|Wc z (fun hc3 => ?_) (fun hc3 => ?_)
  ·exact Ws<|Ra z<|Wn<|Wr<|rtO<|qL (som<|ifT hm8 hc3).symm<|ret1 hr z ⟨s2, z, (ii z)⟩
  exact Wk<|Wg<|Rm z<|R z (add_ z z)<|Ra z<|Wn<|Wg<|Rm z<|R z (inc_ hk6 (lt_ (repS.len p1_0) LEN_le) z z)<|Ra z<|Wl (fun _ q => ⟨iadd x0 1, (som<|ifF hm8 hc3).symm, ⟨(q.k<|s3 z z z), s2, (iA _ _)⟩⟩)
 ·rintro x0 aw wx ⟨hSg, s9, h1⟩
  refine Wu ?_ hSg
  refine Wq<|Ws<|Rm z<|Rm z<|R z (lnR d_142 z<|p1_0.e s9)<|R z (lss z z)<|Wn<|Wc z (fun hc => (noltt hc).elim) (fun _ => ?_)
  exact We (fun a' ha' => ⟨rfl, ⟨(Sat.weaken ha'<|s1 z), s9, h1⟩⟩)
 ·rintro x0 ah wy rfl ⟨hSz, si, h1⟩
  have hmj := elL hm4
  revert ah
  refine Wo<|Ws<|Rm z<|Ra z<|Wn ?_
  obtain rfl := som hmj
  exact Wr<|ret1 hr z ⟨si, z, h1⟩
 rintro r10 ex11 a12 w13 rfl ⟨rfl, hqk⟩
 have hml := elR hm4
 obtain rfl := som hml
 exact ⟨hqk, z⟩
theorem W_w47 {x1 : List Rule} {x2 : Int} {res : Int} (hm : M_laws_heldRuleS n x1 x2 = some res) (hBw : B ≤ w0.z) (p1_0 : repS w0 B (sl A0 N0 C0) x1) (p2_0 : inI x2) : CallsR prog 121 [sl A0 N0 C0, vI x2] w0 (Q0 w0 B res) := by
 unfold M_laws_heldRuleS at hm
 refine goF func121 z z (lb z) fun fn hr => Ws<|Ra z<|Wn<|Wq<|Ws<|Ra z<|Wn ?_
 obtain ⟨u2i, hu12, hmh⟩ := bdS hm
 refine Wf (σ := Int) (ρ := Int) (fun (ki : Nat) (x3 : Int) a w => Sat 88 [(0, sl A0 N0 C0), (1, vI x3), (5, (vI ((ki : Nat) : Int)))] a ∧ Below w0.z w0 w ∧ inI x3) (fun (x3 : Int) a w => Sat 88 [(1, vI x3)] a ∧ Below w0.z w0 w ∧ inI x3) (fun r ex a w => ex = .ret ∧ RetPost prog fn (Q0 w0 B r) a w) hu12 ?_ ?_ ?_ ?_ ?_
 ·exact fun _ q => ⟨(q.k<|s3 z z z), (br w0), p2_0⟩
 ·rintro ki x3 a2j w2k o2l hkj ⟨hS13, s0, h1⟩ hm14
  refine Wu ?_ hS13
  refine Wq<|Ws<|Rm z<|Rm z ?_
  have hk := p1_0.e s0
  refine R z (lnR d_93 z hk)<|R z (lss z z)<|Wn<|Wc z (fun _ => ?_) (fun hc => (nolt hkj hc).elim)
  refine Wk<|Wq<|Wb<|Wq<|Wq (Wd (X := noX) 0 (.rd 0 (.rd 1 (.rd 2 (.rd 3 (.rd 4 (.rd 5 (.ef 6 (.rd 7 .done)))))))) mo (by kernel_rfl) fun w2m s2 _ => dR z z (mv z)<|dR z z (mv z) ?_)
  obtain ⟨x2n, e15, hm16⟩ := bdS hm14
  have hl := hk.e s2
  refine dRX z z (at_ (α := Rule) d_93 z_144 z z z hl e15) ?_
  rintro _ ⟨b2o, o2p, cs2q, rfl, h17, h18, h2r⟩
  obtain ⟨a2s, n2t, c2u, a2v, n2w, c2x, a2y, n2z, c30, a31, n32, c33, rfl, h34, h35, h36, h37, h38, h39, h3a⟩ := Rule_open h18
  refine dR z z (fd f_144_0 z)<|dR z z (l1 g_9 z fid<|h17.at (j := 0) z)<|dR z z (mv z) ?_
  have hn := lt_ s0.s s2.s
  obtain ⟨r3b, e19, hmm⟩ := bdS hm16
  refine dE z z (fc call46 z<|W_w0d (B := B) e19 (lt_ hBw hn) h1) (.inr fun _ _ h => chgB<|h.1) ?_
  rintro _ w3c ⟨s4, rfl, h3d⟩
  refine dR z z (rd_neqT z z)<|pD<|Wo<|Wc z (fun hc9 => ?_) (fun hc9 => ?_)
  ·exact Ws<|Ra z<|Wn<|Wr<|rtO<|qL (som<|ifT hmm hc9).symm<|ret1 hr z ⟨(bup (bup s0 s2) s4), z, (ii z)⟩
  refine Wk<|Ws<|Rm z<|R z (add_ z z)<|Ra z<|Wn<|Wq<|Ws<|Rm z<|Rm z ?_
  obtain ⟨x3e, e1a, hmo⟩ := bdS (ifF hmm hc9)
  have h7 := hl.e s4
  refine RX z (at_ (α := Rule) d_93 z_144 z z z h7 e1a) ?_
  rintro _ ⟨b3f, o3g, cs3h, rfl, h1b, h1c, h3i⟩
  obtain ⟨a3j, n3k, c3l, a3m, n3n, c3o, a3p, n3q, c3r, a3s, n3t, c3u, rfl, h3v, h3w, h3x, h3y, h3z, h40, h41⟩ := Rule_open h1c
  refine R z (fd f_144_1 z)<|R z (l1 g_3 z fid<|h1b.at (j := 1) z)<|Rm z<|R z (nq z z)<|Wn<|Wc z (fun hca => ?_) (fun hca => ?_)
  ·exact Ws<|Ra z<|Wn<|Wr<|rtO<|qL (som<|ifT hmo hca).symm<|ret1 hr z ⟨(bup (bup s0 s2) s4), z, (ii z)⟩
  refine Wk<|Ws<|Rm z<|R z (add_ z z)<|Ra z<|Wn<|Wq<|Ws<|Rm z<|Rm z ?_
  obtain ⟨x42, e1d, hmp⟩ := bdS (ifF hmo hca)
  refine RX z (at_ (α := Rule) d_93 z_144 z z z h7 e1d) ?_
  rintro _ ⟨b43, o44, cs45, rfl, h1e, h1f, h46⟩
  obtain ⟨a47, n48, c49, a4a, n4b, c4c, a4d, n4e, c4f, a4g, n4h, c4i, rfl, h4j, h4k, h4l, h4m, h4n, h4o, h4p⟩ := Rule_open h1f
  refine R z (fd f_144_2 z)<|R z (l1 g_3 z fid<|h1e.at (j := 2) z)<|Rm z<|R z (nq z z)<|Wn<|Wc z (fun hcb => ?_) (fun hcb => ?_)
  ·exact Ws<|Ra z<|Wn<|Wr<|rtO<|qL (som<|ifT hmp hcb).symm<|ret1 hr z ⟨(bup (bup s0 s2) s4), z, (ii z)⟩
  refine Wk<|Ws<|Rm z<|R z (add_ z z)<|Ra z<|Wn<|Wq<|Ws<|Rm z<|Rm z ?_
  obtain ⟨x4q, e1g, hmq⟩ := bdS (ifF hmp hcb)
  refine RX z (at_ (α := Rule) d_93 z_144 z z z h7 e1g) ?_
  rintro _ ⟨b4r, o4s, cs4t, rfl, h1h, h1i, h4u⟩
  obtain ⟨a4v, n4w, c4x, a4y, n4z, c50, a51, n52, c53, a54, n55, c56, rfl, h57, h58, h59, h5a, h5b, h5c, h5d⟩ := Rule_open h1i
  refine R z (fd f_144_3 z)<|R z (l1 g_4 z fid<|h1h.at (j := 3) z)<|Rm z<|R z (rd_rem z z (by decide))<|R z (eql z z)<|R z (rd_neqB d_4 z z)<|Wn<|Wc z (fun hcc => ?_) (fun hcc => ?_)
  ·exact Ws<|Ra z<|Wn<|Wr<|rtO<|qL (som<|ifT hmq hcc).symm<|ret1 hr z ⟨(bup (bup s0 s2) s4), z, (ii z)⟩
  refine Wk<|Ws<|Rm z<|R z (add_ z z)<|Ra z<|Wn<|Ws<|Rm z<|Rm z ?_
  obtain ⟨x5e, e1j, hm1k⟩ := bdS (ifF hmq hcc)
  refine RX z (at_ (α := Rule) d_93 z_144 z z z h7 e1j) ?_
  rintro _ ⟨b5f, o5g, cs5h, rfl, h1l, h1m, h5i⟩
  obtain ⟨a5j, n5k, c5l, a5m, n5n, c5o, a5p, n5q, c5r, a5s, n5t, c5u, rfl, h5v, h5w, h5x, h1n, h5y, h5z, h60⟩ := Rule_open h1m
  refine R z (fd f_144_4 z)<|R z (l1 g_25 z fid<|h1l.at (j := 4) z)<|Rm z ?_
  have ht := lt_ hn s4.s
  obtain ⟨r61, e1o, hmr⟩ := bdS hm1k
  refine E z (fc call93 z<|W_w1u (B := B) e1o (lt_ hBw ht) h1n<|iA _ _) ?_
  rintro _ w62 ⟨s5, rfl, h1p⟩
  refine Ra z<|Wn<|Wq<|Ws<|Rm z<|R z (lss z z)<|Wn<|Wc z (fun hcd => ?_) (fun hcd => ?_)
  ·exact Ws<|Ra z<|Wn<|Wr<|rtO<|qL (som<|ifT hmr hcd).symm<|ret1 hr z ⟨(bup (bup (bup s0 s2) s4) s5), z, (ii z)⟩
  refine Wk<|Ws<|Rm z<|Rm z ?_
  obtain ⟨x63, e1q, hm1r⟩ := bdS (ifF hmr hcd)
  have hu := h7.e s5
  refine RX z (at_ (α := Rule) d_93 z_144 z z z hu e1q) ?_
  rintro _ ⟨b64, o65, cs66, rfl, h1s, h1t, h67⟩
  obtain ⟨a68, n69, c6a, a6b, n6c, c6d, a6e, n6f, c6g, a6h, n6i, c6j, rfl, h6k, h6l, h6m, h6n, h1u, h6o, h6p⟩ := Rule_open h1t
  refine R z (fd f_144_5 z)<|R z (l1 g_41 z fid<|h1s.at (j := 5) z)<|Rm z ?_
  have hv := lt_ ht s5.s
  obtain ⟨r6q, e1v, hms⟩ := bdS hm1r
  refine E z (fc call19 z<|W_w46 (B := B) e1v (lt_ hBw hv) h1u h1p) ?_
  rintro _ w6r ⟨s6, rfl, h1w⟩
  refine Ra z<|Wn<|Wq<|Ws<|Rm z<|R z (lss z z)<|Wn<|Wc z (fun hce => ?_) (fun hce => ?_)
  ·exact Ws<|Ra z<|Wn<|Wr<|rtO<|qL (som<|ifT hms hce).symm<|ret1 hr z ⟨(bup (bup (bup (bup s0 s2) s4) s5) s6), z, (ii z)⟩
  refine Wk<|Ws<|Rm z<|Rm z ?_
  obtain ⟨x6s, e1x, hm1y⟩ := bdS (ifF hms hce)
  have hw := hu.e s6
  refine RX z (at_ (α := Rule) d_93 z_144 z z z hw e1x) ?_
  rintro _ ⟨b6t, o6u, cs6v, rfl, h1z, h20, h6w⟩
  obtain ⟨a6x, n6y, c6z, a70, n71, c72, a73, n74, c75, a76, n77, c78, rfl, h79, h7a, h7b, h7c, h7d, h21, h7e⟩ := Rule_open h20
  refine R z (fd f_144_6 z)<|R z (l1 g_142 z fid<|h1z.at (j := 6) z)<|Rm z ?_
  have hx := lt_ hv s6.s
  obtain ⟨r7f, e22, hmy⟩ := bdS hm1y
  refine E z (fc call142 z<|W_w1v (B := B) e22 (lt_ hBw hx) h21 h1w) ?_
  rintro _ w7g ⟨s8, rfl, h23⟩
  refine Ra z<|Wn<|Wq<|Ws<|Rm z<|R z (lss z z)<|Wn<|Wc z (fun hcf => ?_) (fun hcf => ?_)
  ·exact Ws<|Ra z<|Wn<|Wr<|rtO<|qL (som<|ifT hmy hcf).symm<|ret1 hr z ⟨(bup (bup (bup (bup (bup s0 s2) s4) s5) s6) s8), z, (ii z)⟩
  refine Wk<|Ws<|Rm z<|Rm z ?_
  obtain ⟨x7h, e24, hm25⟩ := bdS (ifF hmy hcf)
  refine RX z (at_ (α := Rule) d_93 z_144 z z z (hw.e s8) e24) ?_
  rintro _ ⟨b7i, o7j, cs7k, rfl, h26, h27, h7l⟩
  obtain ⟨a7m, n7n, c7o, a7p, n7q, c7r, a7s, n7t, c7u, a7v, n7w, c7x, rfl, h7y, h7z, h80, h81, h82, h83, h28⟩ := Rule_open h27
  refine R z (fd f_144_7 z)<|R z (l1 g_142 z fid<|h26.at (j := 7) z)<|Rm z ?_
  obtain ⟨r29, e2a, hmz⟩ := bdS hm25
  refine E z (fc call142 z<|W_w1v (B := B) e2a (lt_ hBw<|lt_ hx s8.s) h28 h23) ?_
  rintro _ w84 ⟨s10, rfl, h2b⟩
  refine Ra z<|Wn<|Ws<|Rm z<|R z (lss z z)<|Wn<|Wc z (fun hcg => ?_) (fun hcg => ?_)
  ·exact Ws<|Ra z<|Wn<|Wr<|rtO<|qL (som<|ifT hmz hcg).symm<|ret1 hr z ⟨(bup (bup (bup (bup (bup (bup s0 s2) s4) s5) s6) s8) s10), z, (ii z)⟩
  exact Wk<|Wg<|Rm z<|R z (inc_ hkj (lt_ (repS.len p1_0) LEN_le) z z)<|Ra z<|Wl (fun _ q => ⟨r29, (som<|ifF hmz hcg).symm, ⟨(q.k<|s3 z z z), (bup (bup (bup (bup (bup (bup s0 s2) s4) s5) s6) s8) s10), h2b⟩⟩)
 ·rintro x3 a85 w86 ⟨hS2c, s11, h1⟩
  refine Wu ?_ hS2c
  refine Wq<|Ws<|Rm z<|Rm z<|R z (lnR d_93 z<|p1_0.e s11)<|R z (lss z z)<|Wn<|Wc z (fun hc => (noltt hc).elim) (fun _ => ?_)
  exact We (fun a' ha' => ⟨rfl, ⟨(Sat.weaken ha'<|s1 z), s11, h1⟩⟩)
 ·rintro x3 a2d w87 rfl ⟨hS88, s2e, h1⟩
  have hm2f := elL hmh
  revert a2d
  refine Wo<|Ws<|Rm z<|Ra z<|Wn ?_
  obtain rfl := som hm2f
  exact Wr<|ret1 hr z ⟨s2e, z, h1⟩
 rintro r89 ex8a a8b w8c rfl ⟨rfl, hq2g⟩
 have hm2h := elR hmh
 obtain rfl := som hm2h
 exact ⟨hq2g, z⟩
theorem W_w48 {x1 : List Desc} {x2 : Int} {res : Int} (hm : M_laws_heldDescriptionS n x1 x2 = some res) (hBw : B ≤ w0.z) (p1_0 : repS w0 B (sl A0 N0 C0) x1) (p2_0 : inI x2) : CallsR prog 92 [sl A0 N0 C0, vI x2] w0 (Q0 w0 B res) := by
 unfold M_laws_heldDescriptionS at hm
 refine goF func92 z z (lb z) fun fn hr => Ws<|Ra z<|Wn<|Wq<|Ws<|Ra z<|Wn ?_
 obtain ⟨us, hub, hm4⟩ := bdS hm
 refine Wf (σ := Int) (ρ := Int) (fun (k5 : Nat) (x0 : Int) a w => Sat 22 [(0, sl A0 N0 C0), (1, vI x0), (5, (vI ((k5 : Nat) : Int)))] a ∧ Below w0.z w0 w ∧ inI x0) (fun (x0 : Int) a w => Sat 22 [(1, vI x0)] a ∧ Below w0.z w0 w ∧ inI x0) (fun r ex a w => ex = .ret ∧ RetPost prog fn (Q0 w0 B r) a w) hub ?_ ?_ ?_ ?_ ?_
 ·exact fun _ q => ⟨(q.k<|s3 z z z), (br w0), p2_0⟩
 ·rintro k5 x0 au wt ov hk6 ⟨hSc, s2, h1⟩ hmd
  refine Wu ?_ hSc
  refine Wq<|Ws<|Rm z<|Rm z ?_
  have h7 := p1_0.e s2
  refine R z (lnR d_32 z h7)<|R z (lss z z)<|Wn<|Wc z (fun _ => ?_) (fun hc => (nolt hk6 hc).elim)
  refine Wk<|Wq<|Wb<|Ws<|Rm z<|Rm z ?_
  obtain ⟨xw, ee, hmf⟩ := bdS hmd
  refine RX z (at_ (α := Desc) d_32 z_95 z z z h7 ee) ?_
  rintro _ ⟨bx, oy, csz, rfl, hg, hh, h10⟩
  obtain ⟨a11, n12, c13, rfl, hi⟩ := Desc_open hh
  refine R z (fd f_95_0 z)<|R z (l1 g_93 z fid<|hg.at (j := 0) z)<|Rm z ?_
  obtain ⟨rj, ek, hm8⟩ := bdS hmf
  refine E z (fc call121 z<|W_w47 (B := B) ek (lt_ hBw s2.s) hi h1) ?_
  rintro _ w14 ⟨s9, rfl, hl⟩
  refine Ra z<|Wn<|Ws<|Rm z<|R z (lss z z)<|Wn<|Wc z (fun hc3 => ?_) (fun hc3 => ?_)
  ·exact Ws<|Ra z<|Wn<|Wr<|rtO<|qL (som<|ifT hm8 hc3).symm<|ret1 hr z ⟨(bup s2 s9), z, (ii z)⟩
  exact Wk<|Wg<|Rm z<|R z (inc_ hk6 (lt_ (repS.len p1_0) LEN_le) z z)<|Ra z<|Wl (fun _ q => ⟨rj, (som<|ifF hm8 hc3).symm, ⟨(q.k<|s3 z z z), (bup s2 s9), hl⟩⟩)
 ·rintro x0 a15 w16 ⟨hSm, sa, h1⟩
  refine Wu ?_ hSm
  refine Wq<|Ws<|Rm z<|Rm z<|R z (lnR d_32 z<|p1_0.e sa)<|R z (lss z z)<|Wn<|Wc z (fun hc => (noltt hc).elim) (fun _ => ?_)
  exact We (fun a' ha' => ⟨rfl, ⟨(Sat.weaken ha'<|s1 z), sa, h1⟩⟩)
 ·rintro x0 an w17 rfl ⟨hS18, so, h1⟩
  have hmp := elL hm4
  revert an
  refine Wo<|Ws<|Rm z<|Ra z<|Wn ?_
  obtain rfl := som hmp
  exact Wr<|ret1 hr z ⟨so, z, h1⟩
 rintro r19 ex1a a1b w1c rfl ⟨rfl, hqq⟩
 have hmr := elR hm4
 obtain rfl := som hmr
 exact ⟨hqq, z⟩
theorem W_w49 {x1 : Registry} {x2 : Int} {res : Int} (hm : M_laws_heldRegistry n x1 x2 = some res) (hBw : B ≤ w0.z) (p1_0 : repS w0 B (sl A0 N0 C0) x1.versions) (p2_0 : inI x2) : CallsR prog 53 [(.agg #[sl A0 N0 C0]), vI x2] w0 (Q0 w0 B res) := by
 unfold M_laws_heldRegistry at hm
 refine goF func53 z z (lb z) fun fn hr => Ws<|E z (fb z) ?_
 rintro _ w5 ⟨rfl, h2⟩
 have h0 := h2.below
 have h6 : Blk w5 w0.z [sl A0 N0 C0] := h2.blk
 refine Ra z<|Wn<|Ws<|R z (fd f_34_0 z)<|R z (l1 g_32 z fid<|h6.at z)<|Rm z ?_
 obtain ⟨r9, e7, hm3⟩ := bdS hm
 refine E z (fc call92 z<|W_w48 (B := B) e7 (lt_ hBw h0.s) (p1_0.e h0) p2_0) ?_
 rintro _ wa ⟨s4, rfl, h8⟩
 refine Ra z<|Wn<|Wq<|Ws<|Rm z<|R z (lss z z)<|Wn<|Wc z (fun hc1 => ?_) (fun hc1 => ?_)
 ·refine Ws<|Ra z<|Wn ?_
  obtain rfl := som (ifT hm3 hc1)
  exact Wr<|ret1 hr z ⟨(bup h0 s4), z, (ii z)⟩
 refine Wk<|Ws<|Rm z<|Ra z<|Wn ?_
 obtain rfl := som (ifF hm3 hc1)
 exact Wr<|ret1 hr z ⟨(bup h0 s4), z, h8⟩
theorem W_w4a {x1 : Log} {x2 : Int} {res : Int} (hm : M_laws_heldLog x1 x2 = some res) (hBw : B ≤ w0.z) (p1_0 : repS w0 B (sl A0 N0 C0) x1.bytes) (p1_1 : inI x1.stored) (p2_0 : inI x2) : CallsR prog 54 [(.agg #[sl A0 N0 C0, vI x1.stored]), vI x2] w0 (Q0 w0 B res) := by
 unfold M_laws_heldLog at hm
 refine goF func54 z z (lb z) fun fn hr => Ws<|E z (fb z) ?_
 rintro _ w5 ⟨rfl, h2⟩
 have h0 := h2.below
 have h6 : Blk w5 w0.z [sl A0 N0 C0, vI x1.stored] := h2.blk
 refine Ra z<|Wn<|Ws<|R z (fd f_35_0 z)<|R z (l1 g_25 z fid<|h6.at z)<|Rm z ?_
 obtain ⟨r9, e7, hm3⟩ := bdS hm
 refine E z (fc call93 z<|W_w1u (B := B) e7 (lt_ hBw h0.s) (p1_0.e h0) p2_0) ?_
 rintro _ wa ⟨s4, rfl, h8⟩
 refine Ra z<|Wn<|Wq<|Ws<|Rm z<|R z (lss z z)<|Wn<|Wc z (fun hc1 => ?_) (fun hc1 => ?_)
 ·refine Ws<|Ra z<|Wn ?_
  obtain rfl := som (ifT hm3 hc1)
  exact Wr<|ret1 hr z ⟨(bup h0 s4), z, (ii z)⟩
 refine Wk<|Ws<|Rm z<|Ra z<|Wn ?_
 obtain rfl := som (ifF hm3 hc1)
 exact Wr<|ret1 hr z ⟨(bup h0 s4), z, h8⟩
theorem W_w1w {x1 : Archive} {x2 : Int} {res : Int} (hm : M_laws_heldArchive n x1 x2 = some res) (hBw : B ≤ w0.z) (p1_0 : repS w0 B (sl A0 N0 C0) x1.registry.versions) (p1_1 : repS w0 B (sl A1 N1 C1) x1.log.bytes) (p1_2 : inI x1.log.stored) (p2_0 : inI x2) : CallsR prog 22 [(.agg #[sl A0 N0 C0, sl A1 N1 C1, vI x1.log.stored]), vI x2] w0 (Q0 w0 B res) := by
 unfold M_laws_heldArchive at hm
 refine goF func22 z z (lb z) fun fn hr => Ws<|E z (fb z) ?_
 rintro _ w9 ⟨rfl, h4⟩
 have h0 := h4.below
 have h5 : Blk w9 w0.z [sl A0 N0 C0, sl A1 N1 C1, vI x1.log.stored] := h4.blk
 refine Ra z<|Wn<|Ws<|R z (fd f_37_0 z)<|R z (lN (vs := [sl A0 N0 C0]) g_34 z_34 z z fid<|h5.row 0 1 z)<|Rm z ?_
 obtain ⟨re, ea, hm6⟩ := bdS hm
 refine E z (fc call53 z<|W_w49 (B := B) (x1 := (⟨x1.registry.versions⟩ : Registry)) ea (lt_ hBw h0.s) (p1_0.e h0) p2_0) ?_
 rintro _ wf ⟨s1, rfl, hb⟩
 refine Ra z<|Wn<|Wq<|Ws<|Rm z<|R z (lss z z)<|Wn<|Wc z (fun hc2 => ?_) (fun hc2 => ?_)
 ·refine Ws<|Ra z<|Wn ?_
  obtain rfl := som (ifT hm6 hc2)
  exact Wr<|ret1 hr z ⟨(bup h0 s1), z, (ii z)⟩
 refine Wk<|Ws<|R z (fd f_37_1 z)<|R z (lN (vs := [sl A1 N1 C1, vI x1.log.stored]) g_35 z_35 z z fid<|(h5.e s1).row 1 2 z)<|Rm z ?_
 obtain ⟨rg, ec, hm7⟩ := bdS (ifF hm6 hc2)
 refine E z (fc call54 z<|W_w4a (B := B) (x1 := (⟨x1.log.bytes, x1.log.stored⟩ : Log)) ec (lt_ hBw<|lt_ h0.s s1.s) ((p1_1.e h0).e s1) p1_2 hb) ?_
 rintro _ wh ⟨s8, rfl, hd⟩
 refine Ra z<|Wn<|Wq<|Ws<|Rm z<|R z (lss z z)<|Wn<|Wc z (fun hc3 => ?_) (fun hc3 => ?_)
 ·refine Ws<|Ra z<|Wn ?_
  obtain rfl := som (ifT hm7 hc3)
  exact Wr<|ret1 hr z ⟨(bup (bup h0 s1) s8), z, (ii z)⟩
 refine Wk<|Ws<|Rm z<|Ra z<|Wn ?_
 obtain rfl := som (ifF hm7 hc3)
 exact Wr<|ret1 hr z ⟨(bup (bup h0 s1) s8), z, hd⟩
def Q_laws_FnExactStoreFile (w0 : World) (B : Nat) (r : Bool) (v : Value) (w' : World) : Prop := Bw w0 w' ∧ (fun r1 => (vB r1) = v) r
theorem W_laws_FnExactStoreFile {x1 : Archive} {x2 : Str} {x3 : Int} {x4 : List UInt8} {res : Bool} (hm : M_laws_FnExactStoreFile n x1 x2 x3 x4 = some res) (hBw : B ≤ w0.z) (hG : Gl w0 B) (p1_0 : repS w0 B (sl A0 N0 C0) x1.registry.versions) (p1_1 : repS w0 B (sl A1 N1 C1) x1.log.bytes) (p1_2 : inI x1.log.stored) (p2_0 : x2.b.length ≤ LEN) (p3_0 : inI x3) (p4_0 : repS w0 B (sl AF NF CF) x4) : CallsR prog 6 [(.agg #[sl A0 N0 C0, sl A1 N1 C1, vI x1.log.stored]), Str.v x2, vI x3, sl AF NF CF] w0 (Q_laws_FnExactStoreFile w0 B res) := by
 unfold M_laws_FnExactStoreFile at hm
 refine goF func6 z z (lb z) fun fn hr => Ws<|E z (fb z) ?_
 rintro _ w6d ⟨rfl, h3v⟩
 have hl := h3v.below
 have h16 : Blk w6d w0.z [sl A0 N0 C0, sl A1 N1 C1, vI x1.log.stored] := h3v.blk
 refine Ra z<|Wn<|Wq<|Ws<|Rm z<|R z (lnT d_9 z)<|R z (rd_gtr z z)<|Wn<|Wc z (fun hc2n => ?_) (fun hc2n => ?_)
 ·refine Ws<|Ra z<|Wn ?_
  obtain rfl := som (ifT hm hc2n)
  exact Wr<|ret1 hr z ⟨hl, z⟩
 have hm3w := ifF hm hc2n
 refine Wk<|Wq<|Ws<|Rm z ?_
 have h3x := p4_0.e hl
 refine R z (lnR d_25 z h3x)<|R z (rd_gtr z z)<|Wn<|Wc z (fun hc2o => ?_) (fun hc2o => ?_)
 ·refine Ws<|Ra z<|Wn ?_
  obtain rfl := som (ifT hm3w hc2o)
  exact Wr<|ret1 hr z ⟨hl, z⟩
 refine Wk<|Ws<|Ra z<|Wn<|Ws<|R z (lN (vs := [sl A0 N0 C0, sl A1 N1 C1, vI x1.log.stored]) g_29 z_29 z z fid<|h16.row 0 3 z)<|Rm z ?_
 have h3y := p1_0.e hl
 have h3z := p1_1.e hl
 obtain ⟨r9u, e6e, hm40⟩ := bdS (ifF hm3w hc2o)
 refine E z (fc call9 z<|W_w24 (B := B) e6e (lt_ hBw hl.s) h3y h3z p1_2<|ii z) ?_
 rintro _ w9v ⟨ss, rfl, h9w⟩
 refine Ra z<|Wn<|Wq<|Ws<|Rm z<|R z (lss z z)<|Wn<|Wc z (fun hc2p => ?_) (fun hc2p => ?_)
 ·refine Ws<|Ra z<|Wn ?_
  obtain rfl := som (ifT hm40 hc2p)
  exact Wr<|ret1 hr z ⟨(bup hl ss), z⟩
 refine Wk<|Ws ?_
 have h41 := h16.e ss
 refine R z (lN (vs := [sl A0 N0 C0, sl A1 N1 C1, vI x1.log.stored]) g_29 z_29 z z fid<|h41.row 0 3 z) ?_
 have h42 := h3y.e ss
 have h43 := h3z.e ss
 have h44 := lt_ hl.s ss.s
 obtain ⟨r9x, e6f, hm6g⟩ := bdS (ifF hm40 hc2p)
 refine E z (fc call11 z<|W_w08 (B := B) e6f (lt_ hBw h44) h42 h43 p1_2) ?_
 rintro _ w9y ⟨su, a9z, n100, c101, S102, a103, n104, c105, S106, rfl, h45, h46, h6h, h107, h108⟩
 refine Rm z<|Rm z<|Rm z ?_
 have h47 := (h3x.e ss).e su
 have h48 := lt_ h44 su.s
 obtain ⟨r109, e6i, hm6j⟩ := bdS hm6g
 refine E z (fc call24 z<|W_w07 (B := B) e6i (lt_ hBw h48) h47) ?_
 rintro _ w6k ⟨sp, a10a, n10b, c10c, S10d, rfl, h6l, h10e, h10f⟩
 obtain ⟨r21, r1q, e6m, hm6n⟩ := bd2S hm6j
 refine E z (fc call23 z<|W_w2z (B := w6k.z) e6m lr (repS.mono (or_ (h45.e sp)<|ownS.lt h45) sp.s) (repS.mono (or_ (h46.e sp)<|ownS.lt h46) sp.s) h6h p2_0 p3_0<|ownS.rep h6l) ?_
 rintro _ w2q ⟨sv, a22, n23, c24, S10g, a25, n26, c27, S10h, rfl, hj, hk, h2r, h10i, h10j⟩
 refine Rm z<|R z (ext_ z z)<|R z (ext_ z z)<|E z (fa zero_37) ?_
 rintro _ w6o ⟨rfl, h49⟩
 have hi := h49.below
 have hx : Blk w6o w2q.z [sl none 0 0, sl none 0 0, vI 0] := h49.blk
 refine E0 (fs (cur' := [sl a22 n23 c24, sl a25 n26 c27, vI r21.log.stored]) z_37 z z hx z (lb z) (oA z) z) ?_
 rintro _ w10k ⟨h2s, s6p⟩
 have hc := s6p.one
 refine Ra z<|Wn<|Ws ?_
 have h4a := lt_ (lt_ (lt_ ss.s su.s) sp.s) sv.s
 have h4b := ((((h41.e su).e sp).e sv).e hi).c hc<|djs<|mm1 h16.lt h4a
 refine R z (lN (vs := [sl A0 N0 C0, sl A1 N1 C1, vI x1.log.stored]) g_29 z_29 z z fid<|h4b.row 0 3 z) ?_
 have h12 := lt_ (lt_ h48 sp.s) sv.s
 have h28 := m1<|lt_ hBw h12
 have h4c := ((((h42.e su).e sp).e sv).e hi).c hc<|lg h28
 have h4d := ((((h43.e su).e sp).e sv).e hi).c hc<|lg h28
 have hy := lt_ (lt_ h12 hi.s) hc.s
 have h2t := lt_ hBw hy
 obtain ⟨r29, e6q, hm6r⟩ := bdS hm6n
 refine E z (fc call11 z<|W_w08 (B := B) e6q h2t h4c h4d p1_2) ?_
 rintro _ w4e ⟨se, a2a, n2b, c2c, S10l, a2d, n2e, c2f, S10m, rfl, h17, h18, h2u, h2v, hf⟩
 refine E z (fa zero_37) ?_
 rintro _ w6s ⟨rfl, h4f⟩
 have h8 := h4f.below
 have h4g : Blk w6s w4e.z [sl none 0 0, sl none 0 0, vI 0] := h4f.blk
 refine E0 (fs (cur' := [sl a2a n2b c2c, sl a2d n2e c2f, vI r29.log.stored]) z_37 z z h4g z (lb z) (oA z) z) ?_
 rintro _ w10n ⟨h6t, s6u⟩
 have h3 := s6u.one
 refine Wn<|Ws<|Rm z ?_
 have h13 := lt_ hy se.s
 have h2g := m1<|lt_ hBw h13
 have h4h := ((((((h47.e sp).e sv).e hi).c hc<|lg h28).e se).e h8).c h3<|lg h2g
 have h1a := lt_ (lt_ h13 h8.s) h3.s
 have h4i := lt_ hBw h1a
 obtain ⟨r10o, e6v, hm6w⟩ := bdS hm6r
 refine E z (fc call24 z<|W_w07 (B := B) e6v h4i h4h) ?_
 rintro _ w6x ⟨s5, a6y, n6z, c70, S10p, rfl, h1e, h71, hn⟩
 refine Ra z<|Wn<|Ws ?_
 have h4j := h6t.e s5
 refine R z (lN (vs := [sl a2a n2b c2c, sl a2d n2e c2f, vI r29.log.stored]) g_37 z_37 z z fid<|h4j.row 0 3 z)<|Rm z<|Rm z<|Rm z ?_
 have h4k := ((h17.e h8).c h3<|ds<|mnr<|ownS.lt h17).e s5
 have h4l := ((h18.e h8).c h3<|ds<|mnr<|ownS.lt h18).e s5
 have h2w := lt_ h8.s h3.s
 have h14 := lt_ h2w s5.s
 have h4m := ((((((((((hG.e hl).e ss).e su).e sp).e sv).e hi).c hc<|lg h28).e se).e h8).c h3<|lg h2g).e s5
 have hz := lt_ h1a s5.s
 have h2x := lt_ hBw hz
 obtain ⟨r1f, r2y, e72, hm73⟩ := bd2S hm6w
 refine E z (fc call25 z<|W_w1q (B := w6x.z) e72 lr (h4m.mono h2x) (repS.mono (or_ h4k<|ownS.lt h17) h14) (repS.mono (or_ h4l<|ownS.lt h18) h14) h2u p2_0 p3_0<|ownS.rep h1e) ?_
 rintro _ w1j ⟨s1, a1k, n1l, c1m, S10q, a1n, n1o, c1p, S10r, rfl, h1g, h1h, h1r, h2z, hb⟩
 refine Rm z<|R z (ext_ z z)<|R z (ext_ z z)<|E z (fa zero_37) ?_
 rintro _ w74 ⟨rfl, h4n⟩
 have h2 := h4n.below
 have h4o : Blk w74 w1j.z [sl none 0 0, sl none 0 0, vI 0] := h4n.blk
 refine E0 (fs (cur' := [sl a1k n1l c1m, sl a1n n1o c1p, vI r1f.log.stored]) z_37 z z h4o z (lb z) (oA z) z) ?_
 rintro _ w4p ⟨h30, s75⟩
 have h0 := s75.one
 refine Ra z<|Wn<|Wq<|Wq ?_
 obtain ⟨u76, hu77, hm4q⟩ := bdS hm73
 refine Wt (fun a w => ∃ (x31 : Bool), x31 = u76 ∧ Sat 130 [(1, Str.v x2), (2, vI x3), (3, sl AF NF CF), (4, pt w0.z), (10, pt w2q.z), (11, vB r1q), (12, pt w4e.z), (13, sl a6y n6z c70), (14, pt w1j.z), (15, vB r2y), (62, vB x31)] a ∧ Below w4p.z w4p w) ?_ ?_
 ·refine Wg<|R z (lN (vs := [sl a1k n1l c1m, sl a1n n1o c1p, vI r1f.log.stored]) g_37 z_37 z z fid<|h30.row 0 3 z) ?_
  have h4r := lt_ hc.s se.s
  have h78 := ((((((h2s.e se).e h8).c h3<|djs<|mm1 hx.lt h4r).e s5).e s1).e h2).c h0<|djs<|mm1 hx.lt<|lt_ (lt_ (lt_ (lt_ h4r h8.s) h3.s) s5.s) s1.s
  refine R z (lN (vs := [sl a22 n23 c24, sl a25 n26 c27, vI r21.log.stored]) g_37 z_37 z z fid<|h78.row 0 3 z) ?_
  have h32 := lt_ (lt_ hi.s hc.s) se.s
  have h2h := lt_ (lt_ (lt_ (lt_ h32 h8.s) h3.s) s5.s) s1.s
  have h79 := ((((((((hj.e hi).c hc<|ds<|mnr<|ownS.lt hj).e se).e h8).c h3<|ds<|mno (ownS.lt hj) h32).e s5).e s1).e h2).c h0<|ds<|mno (ownS.lt hj) h2h
  have h7a := ((((((((hk.e hi).c hc<|ds<|mnr<|ownS.lt hk).e se).e h8).c h3<|ds<|mno (ownS.lt hk) h32).e s5).e s1).e h2).c h0<|ds<|mno (ownS.lt hk) h2h
  obtain ⟨r7b, e7c, hm4s⟩ := bdS hu77
  refine E z (fc call13 z<|W_w0c (B := w1j.z) e7c (lt_ h2.s h0.s) (or_ ((h1g.e h2).c h0<|ds<|mnr<|ownS.lt h1g)<|ownS.lt h1g) (or_ ((h1h.e h2).c h0<|ds<|mnr<|ownS.lt h1h)<|ownS.lt h1h) h1r (repS.mono (or_ h79<|ownS.lt hj) h2h) (repS.mono (or_ h7a<|ownS.lt hk) h2h) h2r) ?_
  rintro _ w10s ⟨s4t, rfl⟩
  refine R z (not_ z)<|Rm z ?_
  rcases bs (!r7b) with hc1b | hc1b
  ·iterate 3 refine Nh z hc1b ?_
   exact R z (pT z hc1b z)<|Wl (fun _ q => ⟨true, som<|ifT hm4s hc1b, (q.k<|sc z<|sc z<|sc z<|sc z<|sc z<|sc z<|sc z<|sc z<|sc z<|sc z<|sc z sn), s4t⟩)
  exact Rh z hc1b (mv z)<|Rh z hc1b (mv z)<|Rh z hc1b (rd_neqB d_4 z z)<|R z (pF z hc1b z)<|Wl (fun _ q => ⟨r2y != r1q, som<|ifF hm4s hc1b, (q.k<|sc z<|sc z<|sc z<|sc z<|sc z<|sc z<|sc z<|sc z<|sc z<|sc z<|sc z sn), s4t⟩)
 rintro a7d w10t ⟨x31, rfl, hS10u, s4⟩
 revert a7d
 refine Wo<|Wc z (fun hc33 => ?_) (fun hc33 => ?_)
 ·refine Ws<|Ra z<|Wn ?_
  obtain rfl := som (ifT hm4q hc33)
  have h7e := bM (bup (bup (bup (bM (bup (bup (bM (bup (bup (bup (bup (bup hl ss) su) sp) sv) hi) hc<|m1 h12) se) h8) h3<|m1 h13) s5) s1) h2) h0<|m1<|lt_ hz s1.s
  exact Wr<|ret1 hr z ⟨(bup h7e s4), z⟩
 refine Wk<|Wq<|Wq (Wd (X := noX) 0 (.rd 0 (.rd 1 (.ef 2 (.ef 3 (.rd 4 .done))))) mo (by kernel_rfl) fun w10v s6 _ => ?_)
 have h4u := ((((h4j.e s1).e h2).c h0<|djs<|mm1 h4g.lt<|lt_ (lt_ h3.s s5.s) s1.s).e s4).e s6
 refine dR z z (lN (vs := [sl a2a n2b c2c, sl a2d n2e c2f, vI r29.log.stored]) g_37 z_37 z z fid<|h4u.row 0 3 z) ?_
 have h34 := lt_ (lt_ h4a hi.s) hc.s
 have h4v := lt_ h34 se.s
 have h4w := lt_ (lt_ h4v h8.s) h3.s
 have h35 := lt_ h4w s5.s
 have h7f := ((((((h4b.e se).e h8).c h3<|djs<|mm1 h16.lt h4v).e s5).e s1).e h2).c h0<|djs<|mm1 h16.lt<|lt_ h35 s1.s
 have h4x := (h7f.e s4).e s6
 refine dR z z (lN (vs := [sl A0 N0 C0, sl A1 N1 C1, vI x1.log.stored]) g_29 z_29 z z fid<|h4x.row 0 3 z) ?_
 have h15 := lt_ hz s1.s
 have h2i := m1<|lt_ hBw h15
 have h4y := ((((((((h4c.e se).e h8).c h3<|lg h2g).e s5).e s1).e h2).c h0<|lg h2i).e s4).e s6
 have h4z := ((((((((h4d.e se).e h8).c h3<|lg h2g).e s5).e s1).e h2).c h0<|lg h2i).e s4).e s6
 have h50 := lt_ (lt_ (lt_ (lt_ h15 h2.s) h0.s) s4.s) s6.s
 obtain ⟨r10w, e7g, hm7h⟩ := bdS (ifF hm4q hc33)
 refine dE z z (fc call11 z<|W_w08 (B := B) e7g (lt_ hBw h50) h4y h4z p1_2) (.inr fun _ _ h => chgB<|h.1) ?_
 rintro _ w7i ⟨s7, a10x, n10y, c10z, S110, a111, n112, c113, S114, rfl, h7j, h7k, h7l, h115, h116⟩
 have h36 := lt_ h14 s1.s
 have h37 := mno (ownS.lt h17) h36
 have h51 := (((((h4k.e s1).e h2).c h0<|ds h37).e s4).e s6).e s7
 have h38 := mno (ownS.lt h18) h36
 have h52 := (((((h4l.e s1).e h2).c h0<|ds h38).e s4).e s6).e s7
 have h53 := lt_ (lt_ (lt_ (lt_ (lt_ h36 h2.s) h0.s) s4.s) s6.s) s7.s
 obtain ⟨r117, e7m, hm54⟩ := bdS hm7h
 refine dE z z (fc call13 z<|W_w0c (B := w7i.z) e7m lr (repS.mono (or_ h51<|ownS.lt h17) h53) (repS.mono (or_ h52<|ownS.lt h18) h53) h2u (ownS.rep h7j) (ownS.rep h7k) h7l) (.inr fun _ _ h => chgB<|h.1) ?_
 rintro _ w118 ⟨s9, rfl⟩
 refine dR z z (not_ z)<|pD<|Wo<|Wc z (fun hc39 => ?_) (fun hc39 => ?_)
 ·refine Ws<|Ra z<|Wn ?_
  obtain rfl := som (ifT hm54 hc39)
  have h7n := bup (bM (bup (bup (bup (bM (bup (bup (bM (bup (bup (bup (bup (bup hl ss) su) sp) sv) hi) hc<|m1 h12) se) h8) h3<|m1 h13) s5) s1) h2) h0<|m1 h15) s4
  exact Wr<|ret1 hr z ⟨(bup (bup (bup h7n s6) s7) s9), z⟩
 refine Wk<|Wq<|Ws<|Rm z<|Rm z ?_
 have h55 := (((((((h4h.e s5).e s1).e h2).c h0<|lg h2i).e s4).e s6).e s7).e s9
 have h56 := lt_ (lt_ h50 s7.s) s9.s
 obtain ⟨r119, e7o, hm7p⟩ := bdS (ifF hm54 hc39)
 refine E z (fc call24 z<|W_w07 (B := B) e7o (lt_ hBw h56) h55) ?_
 rintro _ w7q ⟨sa, a11a, n11b, c11c, S11d, rfl, h7r, h11e, h11f⟩
 have h3a := mno (ownS.lt h1e) s1.s
 have h57 := (((((((h1e.e s1).e h2).c h0<|ds h3a).e s4).e s6).e s7).e s9).e sa
 obtain ⟨r11g, e7s, hm58⟩ := bdS hm7p
 refine E z (fc call26 z<|W_w0o (B := w7q.z) e7s lr (repS.mono (or_ h57<|ownS.lt h1e)<|lt_ (lt_ (lt_ (lt_ (lt_ (lt_ (lt_ s1.s h2.s) h0.s) s4.s) s6.s) s7.s) s9.s) sa.s)<|ownS.rep h7r) ?_
 rintro _ w11h ⟨sd, rfl⟩
 refine R z (not_ z)<|Wn<|Wc z (fun hc3b => ?_) (fun hc3b => ?_)
 ·refine Ws<|Ra z<|Wn ?_
  obtain rfl := som (ifT hm58 hc3b)
  have h7t := bup (bM (bup (bup (bup (bM (bup (bup (bM (bup (bup (bup (bup (bup hl ss) su) sp) sv) hi) hc<|m1 h12) se) h8) h3<|m1 h13) s5) s1) h2) h0<|m1 h15) s4
  exact Wr<|ret1 hr z ⟨(bup (bup (bup (bup (bup h7t s6) s7) s9) sa) sd), z⟩
 refine Wk<|Ws<|Ra z<|Wn<|Ws<|R z (lN (vs := [sl a2a n2b c2c, sl a2d n2e c2f, vI r29.log.stored]) g_37 z_37 z z fid<|((((h4u.e s7).e s9).e sa).e sd).row 0 3 z)<|Rm z ?_
 have h1s := o0le (al_ hf) h2t
 have h1t := o0le (ar_ hf) h2t
 have h59 := lt_ (lt_ h56 sa.s) sd.s
 obtain ⟨r11i, r11j, r11k, e7u, hm7v⟩ := bd3S (ifF hm58 hc3b)
 refine E z (fc call17 z<|W_w1t (B := B) e7u (lt_ hBw h59) (((h51.e s9).e sa).e sd) (nl_ h2v) h1s (((h52.e s9).e sa).e sd) (nr_ h2v) h1t (ds<|nj h2v) h2u<|ii z) ?_
 rintro _ w11l ⟨sg, S11m, S11n, rfl, h7w, h11o, h11p, h11q, h11r, h11s, h11t⟩
 refine Ra z<|Wn<|Ws<|Rm z<|Rm z ?_
 have h1u := o0le hn h4i
 have h5a := lt_ h59 sg.s
 obtain ⟨r7x, r11u, e7y, hm7z⟩ := bd2S hm7v
 refine E z (fc call27 z<|W_w0p (B := B) e7y (lt_ hBw h5a) ((h57.e sd).c sg<|nmA (o0no hn (ownS.lt h17) h2w)<|o0no hn (ownS.lt h18) h2w) h71 h1u h7w) ?_
 rintro _ w3c ⟨sh, S11v, rfl, h11w, h11x, h11y, h11z⟩
 refine Ra z<|Wn<|Wq<|Wq ?_
 obtain ⟨u80, hu5b, hm5c⟩ := bdS hm7z
 refine Wt (fun a w => ∃ (x3d : Bool), x3d = u80 ∧ Sat 130 [(1, Str.v x2), (2, vI x3), (3, sl AF NF CF), (4, pt w0.z), (10, pt w2q.z), (11, vB r1q), (14, pt w1j.z), (91, vB x3d)] a ∧ Below w3c.z w3c w) ?_ ?_
 ·refine Wg<|Rm z<|R z (lss z z)<|Rm z ?_
  rcases bs (decide (r7x < 0)) with hc19 | hc19
  ·iterate 4 refine Nh z hc19 ?_
   exact R z (pT z hc19 z)<|Rm z<|Nh z z<|Nh z z<|Nh z z<|R z (pT z z z)<|Wl (fun _ q => ⟨true, som<|ifT hu5b hc19, (q.k<|s8 z z z z z z z z), (br w3c)⟩)
  refine Rh z hc19 (lN (vs := [sl a1k n1l c1m, sl a1n n1o c1p, vI r1f.log.stored]) g_37 z_37 z z fid<|((((((((h30.e s4).e s6).e s7).e s9).e sa).e sd).c sg<|atp<|nmA h37 h38).c sh<|atp h3a).row 0 3 z) ?_
  have h5d := lt_ hc.s se.s
  have h5e := lt_ (lt_ h5d h8.s) h3.s
  have h81 := ((((((h2s.e se).e h8).c h3<|djs<|mm1 hx.lt h5d).e s5).e s1).e h2).c h0<|djs<|mm1 hx.lt<|lt_ (lt_ h5e s5.s) s1.s
  have h82 := ((((((h81.e s4).e s6).e s7).e s9).e sa).e sd).c sg<|atp<|nmA (ds<|o0n1 (al_ hf) hx.lt hc.s)<|ds<|o0n1 (ar_ hf) hx.lt hc.s
  refine Rh z hc19 (lN (vs := [sl a22 n23 c24, sl a25 n26 c27, vI r21.log.stored]) g_37 z_37 z z fid<|(h82.c sh<|djs<|o0n1 hn hx.lt h5e).row 0 3 z) ?_
  have h83 := ((((((((h1g.e h2).c h0<|ds<|mnr<|ownS.lt h1g).e s4).e s6).e s7).e s9).e sa).e sd).c sg<|nmA (o0no (al_ hb) (ownS.lt h17) h14)<|o0no (al_ hb) (ownS.lt h18) h14
  have h84 := ((((((((h1h.e h2).c h0<|ds<|mnr<|ownS.lt h1h).e s4).e s6).e s7).e s9).e sa).e sd).c sg<|nmA (o0no (ar_ hb) (ownS.lt h17) h14)<|o0no (ar_ hb) (ownS.lt h18) h14
  have h1v := lt_ hi.s hc.s
  have h3e := lt_ h1v se.s
  have h3f := lt_ (lt_ h3e h8.s) h3.s
  have h2j := lt_ (lt_ h3f s5.s) s1.s
  have h85 := ((((((((hj.e hi).c hc<|ds<|mnr<|ownS.lt hj).e se).e h8).c h3<|ds<|mno (ownS.lt hj) h3e).e s5).e s1).e h2).c h0<|ds<|mno (ownS.lt hj) h2j
  have h86 := (((((((h85.e s4).e s6).e s7).e s9).e sa).e sd).c sg<|nmA (ds<|o0no (al_ hf) (ownS.lt hj) h1v)<|ds<|o0no (ar_ hf) (ownS.lt hj) h1v).c sh<|ds<|o0no hn (ownS.lt hj) h3f
  have h87 := ((((((((hk.e hi).c hc<|ds<|mnr<|ownS.lt hk).e se).e h8).c h3<|ds<|mno (ownS.lt hk) h3e).e s5).e s1).e h2).c h0<|ds<|mno (ownS.lt hk) h2j
  have h88 := (((((((h87.e s4).e s6).e s7).e s9).e sa).e sd).c sg<|nmA (ds<|o0no (al_ hf) (ownS.lt hk) h1v)<|ds<|o0no (ar_ hf) (ownS.lt hk) h1v).c sh<|ds<|o0no hn (ownS.lt hk) h3f
  obtain ⟨r89, e8a, hm5f⟩ := bdS (ifF hu5b hc19)
  refine Eg z z hc19 z (fc call13 z<|W_w0c (B := w1j.z) e8a (lt_ (lt_ (lt_ (lt_ (lt_ (lt_ (lt_ (lt_ (lt_ h2.s h0.s) s4.s) s6.s) s7.s) s9.s) sa.s) sd.s) sg.s) sh.s) (or_ (h83.c sh<|o0no (al_ hb) (ownS.lt h1e) lr)<|ownS.lt h1g) (or_ (h84.c sh<|o0no (ar_ hb) (ownS.lt h1e) lr)<|ownS.lt h1h) h1r (repS.mono (or_ h86<|ownS.lt hj) h2j) (repS.mono (or_ h88<|ownS.lt hk) h2j) h2r) ?_
  rintro _ w120 ⟨s5g, rfl⟩
  refine Rh z hc19 (not_ z)<|R z (pF z hc19 z)<|Rm z ?_
  rcases bs (!r89) with hc1c | hc1c
  ·iterate 3 refine Nh z hc1c ?_
   exact R z (pT z hc1c z)<|Wl (fun _ q => ⟨true, som<|ifT hm5f hc1c, (q.k<|s8 z z z z z z z z), s5g⟩)
  exact Rh z hc1c (mv z)<|Rh z hc1c (mv z)<|Rh z hc1c (rd_neqB d_4 z z)<|R z (pF z hc1c z)<|Wl (fun _ q => ⟨r2y != r1q, som<|ifF hm5f hc1c, (q.k<|s8 z z z z z z z z), s5g⟩)
 rintro a8b w121 ⟨x3d, rfl, hS122, sm⟩
 revert a8b
 refine Wo<|Wc z (fun hc3g => ?_) (fun hc3g => ?_)
 ·refine Ws<|Ra z<|Wn ?_
  obtain rfl := som (ifT hm5c hc3g)
  have h8c := bup (bM (bup (bup (bup (bM (bup (bup (bM (bup (bup (bup (bup (bup hl ss) su) sp) sv) hi) hc<|m1 h12) se) h8) h3<|m1 h13) s5) s1) h2) h0<|m1 h15) s4
  exact Wr<|ret1 hr z ⟨(bup (bM (bM (bup (bup (bup (bup (bup h8c s6) s7) s9) sa) sd) sg<|aa_ (o0le (al_ hf) hy)<|o0le (ar_ hf) hy) sh<|o0le hn h1a) sm), z⟩
 refine Wk<|Ws<|Ra z<|Wn<|Ws ?_
 have h5h := ((((((((h30.e s4).e s6).e s7).e s9).e sa).e sd).c sg<|atp<|nmA h37 h38).c sh<|atp h3a).e sm
 refine R z (lN (vs := [sl a1k n1l c1m, sl a1n n1o c1p, vI r1f.log.stored]) g_37 z_37 z z fid<|h5h.row 0 3 z)<|Rm z ?_
 have h5i := mnr<|ownS.lt h1g
 have h8d := ((((((((h1g.e h2).c h0<|ds h5i).e s4).e s6).e s7).e s9).e sa).e sd).c sg<|nmA (o0no (al_ hb) (ownS.lt h17) h14)<|o0no (al_ hb) (ownS.lt h18) h14
 have h1w := o0le (al_ hb) h2x
 have h5j := mnr<|ownS.lt h1h
 have h8e := ((((((((h1h.e h2).c h0<|ds h5j).e s4).e s6).e s7).e s9).e sa).e sd).c sg<|nmA (o0no (ar_ hb) (ownS.lt h17) h14)<|o0no (ar_ hb) (ownS.lt h18) h14
 have h1x := o0le (ar_ hb) h2x
 have h5k := lt_ (lt_ h5a sh.s) sm.s
 obtain ⟨r8f, r5l, r5m, e8g, hm8h⟩ := bd3S (ifF hm5c hc3g)
 refine E z (fc call17 z<|W_w1t (B := B) e8g (lt_ hBw h5k) ((h8d.c sh<|o0no (al_ hb) (ownS.lt h1e) lr).e sm) (nl_ h2z) h1w ((h8e.c sh<|o0no (ar_ hb) (ownS.lt h1e) lr).e sm) (nr_ h2z) h1x (ds<|nj h2z) h1r<|ii z) ?_
 rintro _ w5n ⟨sr, S123, S124, rfl, h125, h2k, h126, h127, h2l, h128, h129⟩
 refine Ra z<|Wn<|Ws<|Ra z<|Wn<|Ws ?_
 have h5o := h5h.c sr<|atp<|nmA h5i h5j
 refine R z (lN (vs := [sl a1k n1l c1m, sl a1n n1o c1p, vI r1f.log.stored]) g_37 z_37 z z fid<|h5o.row 0 3 z)<|Rm z ?_
 obtain ⟨r12a, e8i, hm5p⟩ := bdS hm8h
 refine E z (fc call22 z<|W_w1w (B := w5n.z) (x1 := (⟨(⟨r5l⟩ : Registry), (⟨r5m, r1f.log.stored⟩ : Log)⟩ : Archive)) e8i lr (ownS.rep h2k) (ownS.rep h2l) h1r<|ii z) ?_
 rintro _ w12b ⟨so, rfl, h12c⟩
 refine Ra z<|Wn<|Wq<|Ws<|Rm z<|R z (lss z z)<|Wn<|Wc z (fun hc3h => ?_) (fun hc3h => ?_)
 ·refine Ws<|Ra z<|Wn ?_
  obtain rfl := som (ifT hm5p hc3h)
  have h8j := bup (bM (bup (bup (bup (bM (bup (bup (bM (bup (bup (bup (bup (bup hl ss) su) sp) sv) hi) hc<|m1 h12) se) h8) h3<|m1 h13) s5) s1) h2) h0<|m1 h15) s4
  have h8k := bM (bup (bM (bM (bup (bup (bup (bup (bup h8j s6) s7) s9) sa) sd) sg<|aa_ (o0le (al_ hf) hy)<|o0le (ar_ hf) hy) sh<|o0le hn h1a) sm) sr<|aa_ (o0le (al_ hb) hz)<|o0le (ar_ hb) hz
  exact Wr<|ret1 hr z ⟨(bup h8k so), z⟩
 have hm5q := ifF hm5p hc3h
 refine Wk<|Wq<|Ws<|Rm z<|Rm z<|R z (nq z z)<|Wn<|Wc z (fun hc3i => ?_) (fun hc3i => ?_)
 ·refine Ws<|Ra z<|Wn ?_
  obtain rfl := som (ifT hm5q hc3i)
  have h8l := bup (bM (bup (bup (bup (bM (bup (bup (bM (bup (bup (bup (bup (bup hl ss) su) sp) sv) hi) hc<|m1 h12) se) h8) h3<|m1 h13) s5) s1) h2) h0<|m1 h15) s4
  have h8m := bM (bup (bM (bM (bup (bup (bup (bup (bup h8l s6) s7) s9) sa) sd) sg<|aa_ (o0le (al_ hf) hy)<|o0le (ar_ hf) hy) sh<|o0le hn h1a) sm) sr<|aa_ (o0le (al_ hb) hz)<|o0le (ar_ hb) hz
  exact Wr<|ret1 hr z ⟨(bup h8m so), z⟩
 refine Wk<|Ws ?_
 have h8n := (((((h4x.e s7).e s9).e sa).e sd).c sg<|atp<|nmA (ds<|o0n1 (al_ hf) h16.lt h34)<|ds<|o0n1 (ar_ hf) h16.lt h34).c sh<|djs<|o0n1 hn h16.lt h4w
 refine R z (lN (vs := [sl A0 N0 C0, sl A1 N1 C1, vI x1.log.stored]) g_29 z_29 z z fid<|(((h8n.e sm).c sr<|atp<|nmA (ds<|o0n1 (al_ hb) h16.lt h35)<|ds<|o0n1 (ar_ hb) h16.lt h35).e so).row 0 3 z) ?_
 have h5r := lt_ (lt_ h5k sr.s) so.s
 obtain ⟨r12d, e8o, hm8p⟩ := bdS (ifF hm5q hc3i)
 refine E z (fc call11 z<|W_w08 (B := B) e8o (lt_ hBw h5r) (((((((((h4y.e s7).e s9).e sa).e sd).c sg<|nmA (lg h1s)<|lg h1t).c sh<|lg h1u).e sm).c sr<|nmA (lg h1w)<|lg h1x).e so) (((((((((h4z.e s7).e s9).e sa).e sd).c sg<|nmA (lg h1s)<|lg h1t).c sh<|lg h1u).e sm).c sr<|nmA (lg h1w)<|lg h1x).e so) p1_2) ?_
 rintro _ w12e ⟨sw, a12f, n12g, c12h, S12i, a12j, n12k, c12l, S12m, rfl, h5s, h5t, h8q, h12n, h12o⟩
 refine Rm z<|Rm z<|Rm z ?_
 have h5u := lt_ h5r sw.s
 obtain ⟨r12p, e8r, hm8s⟩ := bdS hm8p
 refine E z (fc call24 z<|W_w07 (B := B) e8r (lt_ hBw h5u)<|(((((((h55.e sa).e sd).c sg<|nmA (lg h1s)<|lg h1t).c sh<|lg h1u).e sm).c sr<|nmA (lg h1w)<|lg h1x).e so).e sw) ?_
 rintro _ w8t ⟨sq, a12q, n12r, c12s, S12t, rfl, h8u, h12u, h12v⟩
 have h8v := ((((((((((((h4m.e s1).e h2).c h0<|lg h2i).e s4).e s6).e s7).e s9).e sa).e sd).c sg<|nmA (lg h1s)<|lg h1t).c sh<|lg h1u).e sm).c sr<|nmA (lg h1w)<|lg h1x
 have h1y := lt_ h5u sq.s
 obtain ⟨r5v, r8w, e8x, hm8y⟩ := bd2S hm8s
 refine E z (fc call25 z<|W_w1q (B := w8t.z) e8x lr ((((h8v.e so).e sw).e sq).mono<|lt_ hBw h1y) (repS.mono (or_ (h5s.e sq)<|ownS.lt h5s) sq.s) (repS.mono (or_ (h5t.e sq)<|ownS.lt h5t) sq.s) h8q p2_0 p3_0<|ownS.rep h8u) ?_
 rintro _ w5w ⟨st, a5x, n5y, c5z, S12w, a60, n61, c62, S12x, rfl, h3j, h3k, h8z, h12y, h12z⟩
 refine Rm z<|R z (ext_ z z)<|R z (ext_ z z)<|E z (fa zero_37) ?_
 rintro _ w90 ⟨rfl, h63⟩
 have h10 := h63.below
 have h91 : Blk w90 w5w.z [sl none 0 0, sl none 0 0, vI 0] := h63.blk
 refine E0 (fs (cur' := [sl a5x n5y c5z, sl a60 n61 c62, vI r5v.log.stored]) z_37 z z h91 z (lb z) (oA z) z) ?_
 rintro _ w64 ⟨h92, s93⟩
 have h11 := s93.one
 refine Ra z<|Wn<|Wq<|Wq ?_
 obtain ⟨u94, hu95, hm65⟩ := bdS hm8y
 refine Wt (fun a w => ∃ (x3l : Bool), x3l = u94 ∧ Sat 130 [(14, pt w1j.z), (17, vI r8f), (121, vB x3l)] a ∧ Below w64.z w64 w) ?_ ?_
 ·refine Wg<|R z (lN (vs := [sl a5x n5y c5z, sl a60 n61 c62, vI r5v.log.stored]) g_37 z_37 z z fid<|h92.row 0 3 z) ?_
  have h66 := lt_ hc.s se.s
  have h67 := lt_ (lt_ h66 h8.s) h3.s
  have h3m := lt_ h67 s5.s
  have h68 := lt_ h3m s1.s
  have h96 := ((((((h2s.e se).e h8).c h3<|djs<|mm1 hx.lt h66).e s5).e s1).e h2).c h0<|djs<|mm1 hx.lt h68
  have h97 := ((((((h96.e s4).e s6).e s7).e s9).e sa).e sd).c sg<|atp<|nmA (ds<|o0n1 (al_ hf) hx.lt hc.s)<|ds<|o0n1 (ar_ hf) hx.lt hc.s
  have h98 := ((h97.c sh<|djs<|o0n1 hn hx.lt h67).e sm).c sr<|atp<|nmA (ds<|o0n1 (al_ hb) hx.lt h3m)<|ds<|o0n1 (ar_ hb) hx.lt h3m
  have h99 := lt_ (lt_ (lt_ (lt_ (lt_ (lt_ (lt_ (lt_ (lt_ (lt_ (lt_ (lt_ (lt_ h68 h2.s) h0.s) s4.s) s6.s) s7.s) s9.s) sa.s) sd.s) sg.s) sh.s) sm.s) sr.s) so.s
  refine R z (lN (vs := [sl a22 n23 c24, sl a25 n26 c27, vI r21.log.stored]) g_37 z_37 z z fid<|((((((h98.e so).e sw).e sq).e st).e h10).c h11<|djs<|mm1 hx.lt<|lt_ (lt_ (lt_ h99 sw.s) sq.s) st.s).row 0 3 z) ?_
  have h1z := lt_ hi.s hc.s
  have h3n := lt_ h1z se.s
  have h3o := lt_ (lt_ h3n h8.s) h3.s
  have h20 := lt_ h3o s5.s
  have h3p := lt_ h20 s1.s
  have h9a := ((((((((hj.e hi).c hc<|ds<|mnr<|ownS.lt hj).e se).e h8).c h3<|ds<|mno (ownS.lt hj) h3n).e s5).e s1).e h2).c h0<|ds<|mno (ownS.lt hj) h3p
  have h9b := (((((((h9a.e s4).e s6).e s7).e s9).e sa).e sd).c sg<|nmA (ds<|o0no (al_ hf) (ownS.lt hj) h1z)<|ds<|o0no (ar_ hf) (ownS.lt hj) h1z).c sh<|ds<|o0no hn (ownS.lt hj) h3o
  have h9c := ((((((h9b.e sm).c sr<|nmA (ds<|o0no (al_ hb) (ownS.lt hj) h20)<|ds<|o0no (ar_ hb) (ownS.lt hj) h20).e so).e sw).e sq).e st).e h10
  have h9d := lt_ (lt_ (lt_ (lt_ (lt_ (lt_ (lt_ (lt_ (lt_ (lt_ (lt_ (lt_ (lt_ h3p h2.s) h0.s) s4.s) s6.s) s7.s) s9.s) sa.s) sd.s) sg.s) sh.s) sm.s) sr.s) so.s
  have h2m := lt_ (lt_ (lt_ h9d sw.s) sq.s) st.s
  have h9e := ((((((((hk.e hi).c hc<|ds<|mnr<|ownS.lt hk).e se).e h8).c h3<|ds<|mno (ownS.lt hk) h3n).e s5).e s1).e h2).c h0<|ds<|mno (ownS.lt hk) h3p
  have h9f := (((((((h9e.e s4).e s6).e s7).e s9).e sa).e sd).c sg<|nmA (ds<|o0no (al_ hf) (ownS.lt hk) h1z)<|ds<|o0no (ar_ hf) (ownS.lt hk) h1z).c sh<|ds<|o0no hn (ownS.lt hk) h3o
  have h9g := ((((((h9f.e sm).c sr<|nmA (ds<|o0no (al_ hb) (ownS.lt hk) h20)<|ds<|o0no (ar_ hb) (ownS.lt hk) h20).e so).e sw).e sq).e st).e h10
  obtain ⟨r9h, e9i, hm69⟩ := bdS hu95
  refine E z (fc call13 z<|W_w0c (B := w5w.z) e9i (lt_ h10.s h11.s) (or_ ((h3j.e h10).c h11<|ds<|mnr<|ownS.lt h3j)<|ownS.lt h3j) (or_ ((h3k.e h10).c h11<|ds<|mnr<|ownS.lt h3k)<|ownS.lt h3k) h8z (repS.mono (or_ (h9c.c h11<|ds<|mno (ownS.lt hj) h2m)<|ownS.lt hj) h2m) (repS.mono (or_ (h9g.c h11<|ds<|mno (ownS.lt hk) h2m)<|ownS.lt hk) h2m) h2r) ?_
  rintro _ w130 ⟨s6a, rfl⟩
  refine R z (not_ z)<|Rm z ?_
  rcases bs (!r9h) with hc1d | hc1d
  ·iterate 3 refine Nh z hc1d ?_
   exact R z (pT z hc1d z)<|Wl (fun _ q => ⟨true, som<|ifT hm69 hc1d, (q.k<|s3 z z z), s6a⟩)
  exact Rh z hc1d (mv z)<|Rh z hc1d (mv z)<|Rh z hc1d (rd_neqB d_4 z z)<|R z (pF z hc1d z)<|Wl (fun _ q => ⟨r8w != r1q, som<|ifF hm69 hc1d, (q.k<|s3 z z z), s6a⟩)
 rintro a9j w131 ⟨x3l, rfl, hS132, s1i⟩
 revert a9j
 refine Wo<|Wc z (fun hc3q => ?_) (fun hc3q => ?_)
 ·refine Ws<|Ra z<|Wn ?_
  obtain rfl := som (ifT hm65 hc3q)
  have h9k := bup (bM (bup (bup (bup (bM (bup (bup (bM (bup (bup (bup (bup (bup hl ss) su) sp) sv) hi) hc<|m1 h12) se) h8) h3<|m1 h13) s5) s1) h2) h0<|m1 h15) s4
  have h9l := bM (bup (bM (bM (bup (bup (bup (bup (bup h9k s6) s7) s9) sa) sd) sg<|aa_ (o0le (al_ hf) hy)<|o0le (ar_ hf) hy) sh<|o0le hn h1a) sm) sr<|aa_ (o0le (al_ hb) hz)<|o0le (ar_ hb) hz
  exact Wr<|ret1 hr z ⟨(bup (bM (bup (bup (bup (bup (bup h9l so) sw) sq) st) h10) h11<|m1<|lt_ h1y st.s) s1i), z⟩
 refine Wk<|Ws<|Ra z<|Wn<|Ws ?_
 have h9m := lt_ (lt_ (lt_ (lt_ (lt_ (lt_ (lt_ (lt_ (lt_ (lt_ (lt_ (lt_ h0.s s4.s) s6.s) s7.s) s9.s) sa.s) sd.s) sg.s) sh.s) sm.s) sr.s) so.s) sw.s
 refine R z (lN (vs := [sl a1k n1l c1m, sl a1n n1o c1p, vI r1f.log.stored]) g_37 z_37 z z fid<|(((((((h5o.e so).e sw).e sq).e st).e h10).c h11<|djs<|mm1 h4o.lt<|lt_ (lt_ h9m sq.s) st.s).e s1i).row 0 3 z)<|Rm z ?_
 have h3r := lt_ (lt_ (lt_ so.s sw.s) sq.s) st.s
 obtain ⟨r133, e9n, hm6b⟩ := bdS (ifF hm65 hc3q)
 refine E z (fc call22 z<|W_w1w (B := w5n.z) (x1 := (⟨(⟨r5l⟩ : Registry), (⟨r5m, r1f.log.stored⟩ : Log)⟩ : Archive)) e9n (lt_ (lt_ (lt_ h3r h10.s) h11.s) s1i.s) (or_ (((((((h2k.e so).e sw).e sq).e st).e h10).c h11<|ds<|mno (ownS.lt h2k) h3r).e s1i)<|ownS.lt h2k) (or_ (((((((h2l.e so).e sw).e sq).e st).e h10).c h11<|ds<|mno (ownS.lt h2l) h3r).e s1i)<|ownS.lt h2l) h1r<|ii z) ?_
 rintro _ w134 ⟨s3s, rfl, h135⟩
 refine Ra z<|Wn<|Wq<|Ws<|Rm z<|R z (lss z z)<|Wn<|Wc z (fun hc3t => ?_) (fun hc3t => ?_)
 ·refine Ws<|Ra z<|Wn ?_
  obtain rfl := som (ifT hm6b hc3t)
  have h9o := bup (bM (bup (bup (bup (bM (bup (bup (bM (bup (bup (bup (bup (bup hl ss) su) sp) sv) hi) hc<|m1 h12) se) h8) h3<|m1 h13) s5) s1) h2) h0<|m1 h15) s4
  have h9p := bM (bup (bM (bM (bup (bup (bup (bup (bup h9o s6) s7) s9) sa) sd) sg<|aa_ (o0le (al_ hf) hy)<|o0le (ar_ hf) hy) sh<|o0le hn h1a) sm) sr<|aa_ (o0le (al_ hb) hz)<|o0le (ar_ hb) hz
  exact Wr<|ret1 hr z ⟨(bup (bup (bM (bup (bup (bup (bup (bup h9p so) sw) sq) st) h10) h11<|m1<|lt_ h1y st.s) s1i) s3s), z⟩
 have hm6c := ifF hm6b hc3t
 refine Wk<|Wq<|Ws<|Rm z<|Rm z<|R z (nq z z)<|Wn<|Wc z (fun hc3u => ?_) (fun hc3u => ?_)
 ·refine Ws<|Ra z<|Wn ?_
  obtain rfl := som (ifT hm6c hc3u)
  have h9q := bup (bM (bup (bup (bup (bM (bup (bup (bM (bup (bup (bup (bup (bup hl ss) su) sp) sv) hi) hc<|m1 h12) se) h8) h3<|m1 h13) s5) s1) h2) h0<|m1 h15) s4
  have h9r := bM (bup (bM (bM (bup (bup (bup (bup (bup h9q s6) s7) s9) sa) sd) sg<|aa_ (o0le (al_ hf) hy)<|o0le (ar_ hf) hy) sh<|o0le hn h1a) sm) sr<|aa_ (o0le (al_ hb) hz)<|o0le (ar_ hb) hz
  exact Wr<|ret1 hr z ⟨(bup (bup (bM (bup (bup (bup (bup (bup h9r so) sw) sq) st) h10) h11<|m1<|lt_ h1y st.s) s1i) s3s), z⟩
 refine Wk<|Ws<|Ra z<|Wn ?_
 obtain rfl := som (ifF hm6c hc3u)
 have h9s := bup (bM (bup (bup (bup (bM (bup (bup (bM (bup (bup (bup (bup (bup hl ss) su) sp) sv) hi) hc<|m1 h12) se) h8) h3<|m1 h13) s5) s1) h2) h0<|m1 h15) s4
 have h9t := bM (bup (bM (bM (bup (bup (bup (bup (bup h9s s6) s7) s9) sa) sd) sg<|aa_ (o0le (al_ hf) hy)<|o0le (ar_ hf) hy) sh<|o0le hn h1a) sm) sr<|aa_ (o0le (al_ hb) hz)<|o0le (ar_ hb) hz
 exact Wr<|ret1 hr z ⟨(bup (bup (bM (bup (bup (bup (bup (bup h9t so) sw) sq) st) h10) h11<|m1<|lt_ h1y st.s) s1i) s3s), z⟩
end Go.Vw

