import Derived.Test.YtfdcdeahjejlmaaGreatDoorVwZW1
set_option linter.unusedVariables false
namespace Go.Vw
open Go.RowKit Dat Go.Proofs
open Go.Proofs.Tryz
open Go.Vw renaming WC_seq → Wq, WC_region → Wg, WC.of_KC → Wo, WL_nil → Wl, WC_cond → Wc, WC_ret → Wr, WC_run → Wu, rd_pickT → pT, rd_pickF → pF, rd_field → fd, rd_load1 → l1, rd_loadN → lN, rd_move → mv, rd_assign → asg, rd_lenR → lnR, rd_lss → lss, rd_eql → eql, rd_extract → ext_, rd_buildP → bP, rd_add → add_, rd_inc → inc_, rd_not → not_, rd_at → at_, ef_call → fc, ef_store → fs, ef_box → fb, ef_alloc → fa, sub_refl → sr, crefl → cr, cchgM → cM, bchgM → bM, inI_sub → iS, inI_add → iA, brefl → br, oneAll → oA, bsplit → bs, ltge → lg, inor → io, rd_neq → nq, rd_lenT → lnT, rd_sub → sb_, all_right → ar_, all_left → al_, dj_symm → ds, mem1le → m1, nd_right → nr_, nd_left → nl_, all_app → aa_, all_nil → an_, WC_block → Wb, UInt8_open → u8, PR_done → pD, WC_exit → We, WC_cut → Wt, ef_buildSlice → fS, ownS_rep → or_, WC_forN → Wf, QO_retL → qL, WC_draw → Wd, ef_appendN → fN, nd_app → na_, nd_dj → nj, ef_lit0 → f0, rd_sliceX → rX, toNat_le → tl_, inI_cnt → ic
variable {A0 : Option Addr} {N0 C0 : Nat} {B : Nat} {w0 : World} {AB : Option Addr} {A7 : Option Addr} {AA : Option Addr} {A8 : Option Addr} {NB CB : Nat} {N7 C7 : Nat} {NA CA : Nat} {N8 C8 : Nat} {A1 : Option Addr} {N1 C1 : Nat} {n : Nat} {AE : Option Addr} {NE CE : Nat} {A6 : Option Addr} {N6 C6 : Nat} {AC : Option Addr} {NC CC : Nat} {A3 : Option Addr} {A4 : Option Addr} {A2 : Option Addr} {A5 : Option Addr} {N3 C3 : Nat} {N4 C4 : Nat} {N2 C2 : Nat} {N5 C5 : Nat} {A9 : Option Addr} {N9 C9 : Nat} {AF : Option Addr} {NF CF : Nat} {AI : Option Addr} {NI CI : Nat} {AD : Option Addr} {ND CD : Nat}
theorem T_w15 (ih : I_spec_l11Read n) : S_spec_l11Items (B_spec_l11Items n (F_spec_l11Read n)) := by
 obtain ⟨ih0, ih1, ih2, ih3, ih4⟩ := ih
 constructor
 intro B N0 C0 N3 C3 N4 C4 N2 C2 N5 C5 NG CG A0 A3 A4 A2 A5 AG x1 x2 x3 x4 x5 x6 res w0 hm hBw p1_0 p2_0 p2_1 p2_2 p2_4 p2_5 p2_6 p2_7 p3_0 p4_0 p5_0 p6_0
 unfold B_spec_l11Items at hm
 refine goF func170 z z (lb z) fun fn hr => Ws<|E z (fb z) ?_
 rintro _ w17 ⟨rfl, h23⟩
 have h6 := h23.below
 have h1h : Blk w17 w0.z [sl A0 N0 C0] := h23.blk
 refine E z (fb z) ?_
 rintro _ wu ⟨rfl, h24⟩
 have h5 := h24.below
 have h1i : Blk wu w17.z (vR x2 A3 N3 C3 A4 N4 C4 A2 N2 C2 A5 N5 C5) := h24.blk
 refine E z (fa zero_118) ?_
 rintro _ w7 ⟨rfl, h25⟩
 have h3 := h25.below
 have hv : Blk w7 wu.z [vI 0, sl none 0 0, sl none 0 0] := h25.blk
 refine Ra z<|Ra z<|Wn<|Ws<|R z (bP (parts := []) (cs := [vI 0, sl none 0 0, sl none 0 0]) build_118 z z)<|E z (fa zero_118) ?_
 rintro _ w46 ⟨rfl, h26⟩
 have h2 := h26.below
 have hw : Blk w46 w7.z [vI 0, sl none 0 0, sl none 0 0] := h26.blk
 refine E0 (fs (cur' := [vI 0, sl none 0 0, sl none 0 0]) z_118 z z hw z (lb z) (oA z) z) ?_
 rintro _ w9 ⟨h47, s48⟩
 have h0 := s48.one
 refine Wn<|Wq<|Ws<|Ra z<|Wn ?_
 obtain ⟨u6s, hu49, hm27⟩ := bdS hm
 refine Wf (σ := Int × (List Val)) (ρ := Val × Int × Int) (fun (k1j : Nat) s a w => un2 (fun xh xr => ∃ ab nc cd Sa, Sat 52 [(2, vI x3), (3, vI x4), (4, sl AG NG CG), (5, vI xh), (6, pt w0.z), (7, pt w17.z), (12, pt wu.z), (15, pt w7.z), (16, (vI ((k1j : Nat) : Int)))] a ∧ Chg (· ∈ [w7.z]) w9 w ∧ inI xh ∧ ownS w Sa (sl ab nc cd) xr ∧ Sa.Nodup ∧ (∀ k ∈ Sa, w9.z ≤ k) ∧ Blk w w7.z [vI 0, sl none 0 0, sl ab nc cd]) s) (fun s a w => un2 (fun xh xr => ∃ ab nc cd Sa, Sat 52 [(5, vI xh), (12, pt wu.z), (15, pt w7.z)] a ∧ Chg (· ∈ [w7.z]) w9 w ∧ inI xh ∧ ownS w Sa (sl ab nc cd) xr ∧ Sa.Nodup ∧ (∀ k ∈ Sa, w9.z ≤ k) ∧ Blk w w7.z [vI 0, sl none 0 0, sl ab nc cd]) s) (fun r ex a w => ex = .ret ∧ RetPost prog fn (Q18 w0 B r) a w) hu49 ?_ ?_ ?_ ?_ ?_
 ·exact fun _ q => ⟨none, 0, 0, [], (q.k<|s9 z z z z z z z z z), (cr [w7.z] w9), p6_0, onL, nd_nil, an_, h47⟩
 ·rintro k1j ⟨xh, xr⟩ a6t wk o6u hk18 ⟨ab, nc, cd, Sa, hS4a, s1, hl, hn, hx, hi, hy⟩ hm4b
  have hm4c := un2S hm4b
  refine Wu ?_ hS4a
  refine Wq<|Ws<|Rm z<|Rm z<|R z (lss z z)<|Wn<|Wc z (fun _ => ?_) (fun hc => (noltI hk18 hc).elim)
  refine Wk<|Wq<|Wb<|Wq ?_
  obtain ⟨u4d, hu28, hm4e⟩ := bdS hm4c
  refine Wt (fun a w => ∃ (xm : Int) (x19 : List UInt8) (x1a : List Val) (xz : Int) (x1b : Int), (xm, x19, x1a, xz, x1b) = u4d ∧ ∃ a10 n11 c12 So a13 n14 c15 Sp gs, Sat 52 [(2, vI x3), (3, vI x4), (4, sl AG NG CG), (6, pt w0.z), (7, pt w17.z), (12, pt wu.z), (15, pt w7.z), (16, (vI ((k1j : Nat) : Int))), (17, pt gs), (18, vI xz), (19, vI x1b)] a ∧ Below wk.z wk w ∧ inI xm ∧ ownS w So (sl a10 n11 c12) x19 ∧ So.Nodup ∧ (∀ k ∈ So, wk.z ≤ k) ∧ ownS w Sp (sl a13 n14 c15) x1a ∧ Sp.Nodup ∧ (∀ k ∈ Sp, wk.z ≤ k) ∧ (∀ k ∈ Sp, k ∉ So) ∧ inI xz ∧ inI x1b ∧ Blk w gs [vI xm, sl a10 n11 c12, sl a13 n14 c15] ∧ wk.z ≤ gs ∧ (∀ k ∈ So, k ∉ [gs]) ∧ (∀ k ∈ Sp, k ∉ [gs])) ?_ ?_
  ·refine Wd (X := fun k => k ∈ ([] : List Nat) ∨ wk.z ≤ k) 0 (.rd 0 (.rd 1 (.rd 2 (.rd 3 (.rd 5 (.rd 6 (.br 4 (.br 7 (.rd 8 (.rd 9 (.rd 10 (.rd 11 (.ef 12 (.ef 13 (.rd 14 (.rd 15 .done)))))))) 12 (.ef 7 (.rd 8 (.rd 9 (.rd 10 (.rd 11 (.ef 13 (.rd 14 (.rd 15 .done))))))))) 12 (.ef 4 (.ef 7 (.rd 8 (.rd 9 (.rd 10 (.rd 11 (.ef 13 (.rd 14 (.rd 15 .done)))))))))))))))) mo (by kernel_rfl) fun w29 s4 _ => ?_
   have h2a := lt_ h5.s h3.s
   have h2b := mm1 h1h.lt h2a
   refine dR z z (lN (vs := [sl A0 N0 C0]) g_95 z_95 z z (notNew nm0<|Nat.lt_of_lt_of_le h1h.lt<|lt_ (lt_ (lt_ h2a h2.s) h0.s) s1.s)<|((((((h1h.e h5).e h3).e h2).c h0<|djs h2b).c s1<|djs h2b).e s4).row 0 1 z) ?_
   have h2c := mm1 h1i.lt h3.s
   refine dR z z (lN (vs := (vR x2 A3 N3 C3 A4 N4 C4 A2 N2 C2 A5 N5 C5)) g_144 z_144 z z (notNew nm0<|Nat.lt_of_lt_of_le h1i.lt<|lt_ (lt_ (lt_ h3.s h2.s) h0.s) s1.s)<|(((((h1i.e h3).e h2).c h0<|djs h2c).c s1<|djs h2c).e s4).row 0 8 z) ?_
   iterate 4 refine dR z z (mv z) ?_
   refine PR_br ?_ ?_
   ·have h2d := lt_ (lt_ h6.s h5.s) h3.s
    have h8 := m1<|lt_ hBw h2d
    have h1k := lt_ (lt_ (lt_ (lt_ h2d h2.s) h0.s) s1.s) s4.s
    obtain ⟨r6v, e4f, hm2e⟩ := bdS hu28
    refine dE z z (fc call201 z<|W_w0h (B := B) e4f (lt_ hBw h1k) p2_0 p2_1 p2_2 (((((((p2_4.e h6).e h5).e h3).e h2).c h0<|lg h8).c s1<|lg h8).e s4) (((((((p2_5.e h6).e h5).e h3).e h2).c h0<|lg h8).c s1<|lg h8).e s4) (((((((p2_6.e h6).e h5).e h3).e h2).c h0<|lg h8).c s1<|lg h8).e s4) (((((((p2_7.e h6).e h5).e h3).e h2).c h0<|lg h8).c s1<|lg h8).e s4) p3_0<|ic (Nat.le_of_lt hk18)<|tl_ p4_0) (.inr fun _ _ h => chgB<|h.1) ?_
    rintro _ w2f ⟨sf, rfl, h2g⟩
    refine PR_br ?_ ?_
    ·obtain ⟨r1c, r4g, r4h, e4i, hm4j⟩ := bd3S hm2e
     refine dE z z (fc call147 z<|ih0.run (B := B) e4i (lt_ hBw<|lt_ h1k sf.s) ((((((((p1_0.e h6).e h5).e h3).e h2).c h0<|lg h8).c s1<|lg h8).e s4).e sf) h2g ((((((((p5_0.e h6).e h5).e h3).e h2).c h0<|lg h8).c s1<|lg h8).e s4).e sf) hl) (.inr fun _ _ h => chgB<|h.1) ?_
     rintro _ w2h ⟨s2i, a2j, n2k, c2l, S4k, a2m, n2n, c2o, S4l, rfl, h4m, h2p, h2q, h4n, h4o, h1l, h2r⟩
     refine dR z z (mv z) ?_
     iterate 3 refine dR z z (ext_ z z) ?_
     refine dE z z (fa zero_118) (.inr fun _ _ h => chgB<|h.2.below) ?_
     rintro _ w4p ⟨rfl, h2s⟩
     have h1m := h2s.below
     have h4q : Blk w4p w2h.z [vI 0, sl none 0 0, sl none 0 0] := h2s.blk
     have h1n := lt_ s4.s sf.s
     have h1o := m1<|lt_ h1n s2i.s
     refine dE0 z (fs (cur' := [vI r1c.number, sl a2j n2k c2l, sl a2m n2n c2o]) z_118 z z h4q z (lb z) (oA z) z) (.inr fun _ _ h => chgNew (atp h1o) h.2) ?_
     rintro _ w6w ⟨h4r, s4s⟩
     have h1p := s4s.one
     refine dR z z (asg z)<|dR z z (asg z)<|pD ?_
     have h2t := mnr<|ownS.lt h2p
     have h2u := mnr<|ownS.lt h2q
     exact fun _ q => ⟨r1c.number, r1c.bytes, r1c.items, r4g, r4h, som hm4j, a2j, n2k, c2l, S4k, a2m, n2n, c2o, S4l, w2h.z, (q.k<|sc z<|sc z<|sc z<|sc z<|sc z<|sc z<|sc z<|sc z<|sc z<|sc z<|sc z sn), (bM (bup (bup (bup s4 sf) s2i) h1m) h1p h1o), h4m, ((h2p.e h1m).c h1p<|ds h2t), (nl_ h1l), (o0le (al_ h2r) h1n), ((h2q.e h1m).c h1p<|ds h2u), (nr_ h1l), (o0le (ar_ h2r) h1n), (ds<|nj h1l), h4n, h4o, h4r, (atp h1o), (ds h2t), (ds h2u)⟩
    refine dE z z (fa zero_118) (.inr fun _ _ h => chgB<|h.2.below) ?_
    rintro _ w4t ⟨rfl, h2v⟩
    have h16 := h2v.below
    have h1q : Blk w4t w2f.z [vI 0, sl none 0 0, sl none 0 0] := h2v.blk
    obtain ⟨r1d, r4u, r4v, e4w, hm4x⟩ := bd3S hm2e
    refine dE z z (fc call147 z<|ih0.run (B := B) e4w (lt_ hBw<|lt_ (lt_ h1k sf.s) h16.s) (((((((((p1_0.e h6).e h5).e h3).e h2).c h0<|lg h8).c s1<|lg h8).e s4).e sf).e h16) h2g (((((((((p5_0.e h6).e h5).e h3).e h2).c h0<|lg h8).c s1<|lg h8).e s4).e sf).e h16) hl) (.inr fun _ _ h => chgB<|h.1) ?_
    rintro _ w6x ⟨s2w, a2x, n2y, c2z, S4y, a30, n31, c32, S4z, rfl, h50, h51, h52, h53, h54, h1r, h1e⟩
    refine dR z z (mv z) ?_
    iterate 3 refine dR z z (ext_ z z) ?_
    have h33 := lt_ s4.s sf.s
    have h1s := m1 h33
    refine dE0 z (fs (cur' := [vI r1d.number, sl a2x n2y c2z, sl a30 n31 c32]) z_118 z z (h1q.e s2w) z (lb z) (oA z) z) (.inr fun _ _ h => chgNew (atp h1s) h.2) ?_
    rintro _ w6y ⟨h55, s56⟩
    have h1t := s56.one
    refine dR z z (asg z)<|dR z z (asg z)<|pD ?_
    have h34 := o0n1 (al_ h1e) h1q.lt lr
    have h35 := lt_ h33 h16.s
    have h36 := o0n1 (ar_ h1e) h1q.lt lr
    exact fun _ q => ⟨r1d.number, r1d.bytes, r1d.items, r4u, r4v, som hm4x, a2x, n2y, c2z, S4y, a30, n31, c32, S4z, w2f.z, (q.k<|sc z<|sc z<|sc z<|sc z<|sc z<|sc z<|sc z<|sc z<|sc z<|sc z<|sc z sn), (bM (bup (bup (bup s4 sf) h16) s2w) h1t h1s), h50, (h51.c h1t h34), (nl_ h1r), (o0le (al_ h1e) h35), (h52.c h1t h36), (nr_ h1r), (o0le (ar_ h1e) h35), (ds<|nj h1r), h53, h54, h55, (atp h1s), h34, h36⟩
   refine dE z z (fa zero_118) (.inr fun _ _ h => chgB<|h.2.below) ?_
   rintro _ w57 ⟨rfl, h37⟩
   have hg := h37.below
   have h1u : Blk w57 w29.z [vI 0, sl none 0 0, sl none 0 0] := h37.blk
   have h38 := lt_ (lt_ h6.s h5.s) h3.s
   have he := m1<|lt_ hBw h38
   have h39 := lt_ (lt_ (lt_ (lt_ (lt_ h38 h2.s) h0.s) s1.s) s4.s) hg.s
   obtain ⟨r6z, e58, hm59⟩ := bdS hu28
   refine dE z z (fc call201 z<|W_w0h (B := B) e58 (lt_ hBw h39) p2_0 p2_1 p2_2 ((((((((p2_4.e h6).e h5).e h3).e h2).c h0<|lg he).c s1<|lg he).e s4).e hg) ((((((((p2_5.e h6).e h5).e h3).e h2).c h0<|lg he).c s1<|lg he).e s4).e hg) ((((((((p2_6.e h6).e h5).e h3).e h2).c h0<|lg he).c s1<|lg he).e s4).e hg) ((((((((p2_7.e h6).e h5).e h3).e h2).c h0<|lg he).c s1<|lg he).e s4).e hg) p3_0<|ic (Nat.le_of_lt hk18)<|tl_ p4_0) (.inr fun _ _ h => chgB<|h.1) ?_
   rintro _ w70 ⟨sj, rfl, h5a⟩
   obtain ⟨r1f, r5b, r5c, e5d, hm5e⟩ := bd3S hm59
   refine dE z z (fc call147 z<|ih0.run (B := B) e5d (lt_ hBw<|lt_ h39 sj.s) (((((((((p1_0.e h6).e h5).e h3).e h2).c h0<|lg he).c s1<|lg he).e s4).e hg).e sj) h5a (((((((((p5_0.e h6).e h5).e h3).e h2).c h0<|lg he).c s1<|lg he).e s4).e hg).e sj) hl) (.inr fun _ _ h => chgB<|h.1) ?_
   rintro _ w71 ⟨s3a, a3b, n3c, c3d, S5f, a3e, n3f, c3g, S5g, rfl, h5h, h5i, h5j, h5k, h5l, h1v, h1g⟩
   refine dR z z (mv z) ?_
   iterate 3 refine dR z z (ext_ z z) ?_
   have h1w := m1 s4.s
   refine dE0 z (fs (cur' := [vI r1f.number, sl a3b n3c c3d, sl a3e n3f c3g]) z_118 z z ((h1u.e sj).e s3a) z (lb z) (oA z) z) (.inr fun _ _ h => chgNew (atp h1w) h.2) ?_
   rintro _ w72 ⟨h5m, s5n⟩
   have h1x := s5n.one
   refine dR z z (asg z)<|dR z z (asg z)<|pD ?_
   have h3h := o0n1 (al_ h1g) h1u.lt sj.s
   have h3i := lt_ (lt_ s4.s hg.s) sj.s
   have h3j := o0n1 (ar_ h1g) h1u.lt sj.s
   exact fun _ q => ⟨r1f.number, r1f.bytes, r1f.items, r5b, r5c, som hm5e, a3b, n3c, c3d, S5f, a3e, n3f, c3g, S5g, w29.z, (q.k<|sc z<|sc z<|sc z<|sc z<|sc z<|sc z<|sc z<|sc z<|sc z<|sc z<|sc z sn), (bM (bup (bup (bup s4 hg) sj) s3a) h1x h1w), h5h, (h5i.c h1x h3h), (nl_ h1v), (o0le (al_ h1g) h3i), (h5j.c h1x h3j), (nr_ h1v), (o0le (ar_ h1g) h3i), (ds<|nj h1v), h5k, h5l, h5m, (atp h1w), h3h, h3j⟩
  rintro a5o w3k ⟨xm, x19, x1a, xz, x1b, rfl, a10, n11, c12, So, a13, n14, c15, Sp, gs, hS73, sq, h5p, h5q, h5r, h1y, h5s, h5t, h1z, h5u, h3l, h5v, h5w, h74, h75, h76⟩
  have hm3m := un5S hm4e
  revert a5o
  refine Wo<|Wq<|Ws<|Rm z<|R z (nq z z)<|Wn<|Wc z (fun hc20 => ?_) (fun hc20 => ?_)
  ·refine Ws<|R z (bP (parts := []) (cs := [vI 0, sl none 0 0, sl none 0 0]) build_118 z z)<|Rm z<|Rm z ?_
   have h3n := mmr hv.lt
   refine E0 (fs (cur' := [vI 0, sl none 0 0, sl none 0 0]) z_118 z z ((((hv.e h2).c h0<|djs h3n).c s1<|djs h3n).e sq) z (lb z) (oA z) z) ?_
   rintro _ w77 ⟨h5x, s5y⟩
   refine Ra z<|Ra z<|Wn ?_
   have h3o := lt_ h6.s h5.s
   have h3p := m1<|lt_ h3o h3.s
   exact Wr<|rtO<|qL (som<|ifT hm3m hc20).symm<|ret3 hr (resC g_118 z_118 z h5x z) z z ⟨(bM (bup (bM (bM (bup (bup (bup h6 h5) h3) h2) h0 h3p) s1 h3p) sq) s5y.one<|m1 h3o), none, 0, 0, [], none, 0, 0, [], z, (ii z), onL, onL, h3l, h5v, nd0, al0⟩
  refine Wk<|Ws<|R z (fd f_118_2 z) ?_
  have h3q := hy.e sq
  refine R z (l1 g_116 z fid<|h3q.at z)<|R z (lN (vs := [vI xm, sl a10 n11 c12, sl a13 n14 c15]) g_118 z_118 z z fid<|h5w.row 0 3 z)<|E z (fS [(.tmp 45)] el_116 z z z (szAll z) (lb z)<|lb z) ?_
  rintro _ w3r ⟨rfl, h3s⟩
  have ht := h3s.below
  have h5z : Blk w3r w3k.z [vI xm, sl a10 n11 c12, sl a13 n14 c15] := h3s.blk
  obtain ⟨x60, e61, hm62⟩ := bdS (ifF hm3m hc20)
  refine E z (ef_pushN (α := Val) el_116 e61 z z ((hn.e sq).e ht) hx h5z (Val_mkO (x := (⟨xm, x19, x1a⟩ : Val)) (S1 := So) (S2 := Sp) h5p (h5q.e ht)<|h5s.e ht) (aa_ (o0no h1y (ownS.lt hn) lr)<|o0no h1z (ownS.lt hn) lr)<|na_ h5r h5t<|ds h5u) ?_
  rintro _ w63 ⟨S21, a3t, n3u, c3v, rfl, s3w, h64, h65, h3x⟩
  refine R z (fd f_118_2 z) ?_
  have h3y := o0n1 hi hw.lt h0.s
  refine E0 (fs (cur' := [vI 0, sl none 0 0, sl a3t n3u c3v]) z_116 z z ((h3q.e ht).c s3w<|djs h3y) z (lb z) (oA z) z) ?_
  rintro _ w66 ⟨h67, s68⟩
  have h3z := s68.one
  refine Wn<|Wg<|Rm z<|Ra z<|Wn<|Wg<|Rm z<|R z (inc_ hk18 (tl_ p4_0) z z)<|Ra z<|Wl ?_
  have h22 := lt_ h0.s s1.s
  have h69 : ∀ k ∈ S21, k ∉ [w7.z] := or2 h3x h3y (aa_ (o0n1 h1y hw.lt h22) (o0n1 h1z hw.lt h22)) (ltnot (mem1 hw.lt) (lt_ (lt_ h22 sq.s) ht.s))
  have h6a : ∀ k ∈ S21, w9.z ≤ k := or2 h3x hi (aa_ (o0le h1y s1.s) (o0le h1z s1.s)) (lele (lt_ (lt_ s1.s sq.s) ht.s))
  have h6b : Chg (· ∈ [w7.z]) w9 wk := cM (cr [w7.z] w9) s1 (io sr)
  have h6c : Chg (· ∈ [w7.z]) w9 w3k := cext h6b sq
  have h6d : Chg (· ∈ [w7.z]) w9 w3r := cext h6c ht
  have h6e : ∀ k ∈ Sa, k ∈ [w7.z] ∨ w9.z ≤ k := or0 hi  (leor lr)
  have h6f : Chg (· ∈ [w7.z]) w9 w63 := cM h6d s3w h6e
  have h6g : Chg (· ∈ [w7.z]) w9 w66 := cM h6f h3z (io sr)
  exact fun _ q => ⟨(xz, x60), (som hm62).symm, ⟨a3t, n3u, c3v, S21, (q.k<|s9 z z z z z z z z z), h6g, h3l, (h64.c h3z h69), h65, h6a, h67⟩⟩
 ·rintro ⟨xh, xr⟩ a78 w6h ⟨ab, nc, cd, Sa, hS6i, s6j, hl, hn, hx, hi, hy⟩
  refine Wu ?_ hS6i
  refine Wq<|Ws<|Rm z<|Rm z<|R z (lss z z)<|Wn<|Wc z (fun hc => (nolttI hc).elim) (fun _ => ?_)
  have h6k : Chg (· ∈ [w7.z]) w9 w6h := cM (cr [w7.z] w9) s6j (io sr)
  exact We (fun a' ha' => ⟨rfl, ⟨ab, nc, cd, Sa, (Sat.weaken ha'<|s3 z z z), h6k, hl, hn, hx, hi, hy⟩⟩)
 ·rintro ⟨xh, xr⟩ a6l w79 rfl ⟨ab, nc, cd, Sa, hS7a, s40, hl, hn, hx, hi, hy⟩
  have hm6m := elL hm27
  have hm6n := un2S hm6m
  revert a6l
  refine Wo<|Ws<|R z (lN (vs := [vI 0, sl none 0 0, sl ab nc cd]) g_118 z_118 z z fid<|hy.row 0 3 z)<|Rm z ?_
  have h41 := mmr hv.lt
  refine E0 (fs (cur' := [vI 0, sl none 0 0, sl ab nc cd]) z_118 z z (((hv.e h2).c h0<|djs h41).c s40<|djs h41) z (lb z) (oA z) z) ?_
  rintro _ w7b ⟨h6o, s6p⟩
  have h42 := s6p.one
  refine Ra z<|Ra z<|Wn ?_
  obtain rfl := som hm6n
  have h43 := lt_ h6.s h5.s
  have h44 := lt_ h43 h3.s
  have h45 := m1 h44
  exact Wr<|ret3 hr (resC g_118 z_118 z h6o z) z z ⟨(bM (bM (bM (bup (bup (bup h6 h5) h3) h2) h0 h45) s40 h45) h42<|m1 h43), none, 0, 0, [], ab, nc, cd, Sa, z, (ii z), onL, (hn.c h42<|o0n1 hi hv.lt<|lt_ h2.s h0.s), hl, (ii z), (na_ nd_nil hx an_), (aa_ an_<|o0le hi<|lt_ (lt_ h44 h2.s) h0.s)⟩
 rintro r7c ex7d a7e w7f rfl ⟨rfl, hq6q⟩
 have hm6r := elR hm27
 obtain rfl := som hm6r
 exact ⟨hq6q, z⟩
theorem T_w16 (ih : I_spec_l11Read n) : S_spec_l11Choice (B_spec_l11Choice n (F_spec_l11Read n)) := by
 obtain ⟨ih0, ih1, ih2, ih3, ih4⟩ := ih
 constructor
 intro B N0 C0 N3 C3 N4 C4 N2 C2 N5 C5 N9 C9 A0 A3 A4 A2 A5 A9 x1 x2 x3 x4 res w0 hm hBw p1_0 p2_0 p2_1 p2_2 p2_4 p2_5 p2_6 p2_7 p3_0 p4_0
 unfold B_spec_l11Choice at hm
 refine goF func171 z z (lb z) fun fn hr => Ws<|E z (fb z) ?_
 rintro _ ws ⟨rfl, hw⟩
 have h5 := hw.below
 have h1o : Blk ws w0.z [sl A0 N0 C0] := hw.blk
 refine E z (fb z) ?_
 rintro _ wn ⟨rfl, hx⟩
 have h4 := hx.below
 have h1p : Blk wn ws.z (vR x2 A3 N3 C3 A4 N4 C4 A2 N2 C2 A5 N5 C5) := hx.blk
 refine E z (fa zero_118) ?_
 rintro _ w1q ⟨rfl, hy⟩
 have h3 := hy.below
 have h7 : Blk w1q wn.z [vI 0, sl none 0 0, sl none 0 0] := hy.blk
 refine Ra z<|Ra z<|Wn<|Wq (Wd (X := noX) 0 (.rd 0 (.rd 1 (.rd 2 (.rd 3 (.rd 4 (.rd 5 (.rd 6 (.ef 7 (.rd 8 (.rd 9 (.rd 10 (.rd 11 (.rd 12 (.rd 13 (.rd 14 .done))))))))))))))) mo (by kernel_rfl) fun w2q s0 _ => ?_)
 have hz := ((h1o.e h4).e h3).e s0
 refine dR z z (lN (vs := [sl A0 N0 C0]) g_95 z_95 z z fid<|hz.row 0 1 z)<|dR z z (fd f_144_7 z) ?_
 have h10 := (h1p.e h3).e s0
 refine dR z z (l1 g_142 z fid<|h10.at z) ?_
 obtain ⟨x2r, e1r, hm1s⟩ := bdS hm
 have h11 := (((p2_7.e h5).e h4).e h3).e s0
 refine dRX z z (at_ (α := Int) d_142 z_3 z z z h11 e1r) ?_
 rintro _ ⟨b2s, o2t, cs2u, rfl, h1t, h1u, h2v⟩
 obtain ⟨rfl, h1v⟩ := Int_open h1u
 refine dR z z (l1 g_3 z fid<|h1t.at0 z)<|dR z z (mv z)<|dR z z (mv z) ?_
 have h12 := (((p1_0.e h5).e h4).e h3).e s0
 have h13 := (((p3_0.e h5).e h4).e h3).e s0
 have hf := lt_ h5.s h4.s
 have h14 := lt_ (lt_ hf h3.s) s0.s
 obtain ⟨r15, r2w, r2x, e1w, hm16⟩ := bd3S hm1s
 refine dE z z (fc call166 z<|W_w0g (B := B) e1w (lt_ hBw h14) h12 h1v h13 p4_0) (.inr fun _ _ h => chgB<|h.1) ?_
 rintro _ w2y ⟨s1, rfl, ho, h1x⟩
 refine dR z z (mv z) ?_
 iterate 3 refine dR z z (ext_ z z) ?_
 iterate 3 refine dR z z (asg z) ?_
 refine pD<|Wo<|Wq<|Ws<|Rm z<|R z (not_ z)<|Wn<|Wc z (fun hcp => ?_) (fun hcp => ?_)
 ·refine Ws<|R z (bP (parts := []) (cs := [vI 0, sl none 0 0, sl none 0 0]) build_118 z z)<|Rm z<|E0 (fs (cur' := [vI 0, sl none 0 0, sl none 0 0]) z_118 z z ((h7.e s0).e s1) z (lb z) (oA z) z) ?_
  rintro _ w2z ⟨h1y, s1z⟩
  refine Ra z<|Ra z<|Wn ?_
  obtain rfl := som (ifT hm16 hcp)
  exact Wr<|ret3 hr (resC g_118 z_118 z h1y z) z z ⟨(bM (bup (bup (bup (bup h5 h4) h3) s0) s1) s1z.one<|m1 hf), none, 0, 0, [], none, 0, 0, [], z, (ii z), onL, onL, p4_0, (ii z), nd0, al0⟩
 refine Wk<|Wq<|Ws ?_
 have h17 := h10.e s1
 refine R z (lN (vs := (vR x2 A3 N3 C3 A4 N4 C4 A2 N2 C2 A5 N5 C5)) g_144 z_144 z z fid<|h17.row 0 8 z)<|Rm z ?_
 have h18 := ((((p2_4.e h5).e h4).e h3).e s0).e s1
 have h19 := ((((p2_5.e h5).e h4).e h3).e s0).e s1
 have h1a := ((((p2_6.e h5).e h4).e h3).e s0).e s1
 have h1b := h11.e s1
 have h1c := lt_ h14 s1.s
 obtain ⟨r30, e20, hm1d⟩ := bdS (ifF hm16 hcp)
 refine E z (fc call201 z<|W_w0h (B := B) e20 (lt_ hBw h1c) p2_0 p2_1 p2_2 h18 h19 h1a h1b ho<|ii z) ?_
 rintro _ w31 ⟨s2, rfl, h32⟩
 refine R z (lss z z)<|Wn<|Wc z (fun hcq => ?_) (fun hcq => ?_)
 ·refine Ws<|R z (bP (parts := []) (cs := [vI 0, sl none 0 0, sl none 0 0]) build_118 z z)<|Rm z<|E0 (fs (cur' := [vI 0, sl none 0 0, sl none 0 0]) z_118 z z (((h7.e s0).e s1).e s2) z (lb z) (oA z) z) ?_
  rintro _ w33 ⟨h21, s22⟩
  refine Ra z<|Ra z<|Wn ?_
  obtain rfl := som (ifT hm1d hcq)
  exact Wr<|ret3 hr (resC g_118 z_118 z h21 z) z z ⟨(bM (bup (bup (bup (bup (bup h5 h4) h3) s0) s1) s2) s22.one<|m1 hf), none, 0, 0, [], none, 0, 0, [], z, (ii z), onL, onL, p4_0, (ii z), nd0, al0⟩
 refine Wk<|Ws<|R z (lN (vs := [sl A0 N0 C0]) g_95 z_95 z z fid<|((hz.e s1).e s2).row 0 1 z)<|R z (lN (vs := (vR x2 A3 N3 C3 A4 N4 C4 A2 N2 C2 A5 N5 C5)) g_144 z_144 z z fid<|(h17.e s2).row 0 8 z)<|Rm z<|Rm z<|Rm z ?_
 have hg := lt_ h1c s2.s
 obtain ⟨r1e, r23, r24, e25, hm26⟩ := bd3S (ifF hm1d hcq)
 refine E z (fc call170 z<|ih1.run (B := B) e25 (lt_ hBw hg) ((h12.e s1).e s2) p2_0 p2_1 p2_2 (h18.e s2) (h19.e s2) (h1a.e s2) (h1b.e s2) ho (ii z) ((h13.e s1).e s2) h1x) ?_
 rintro _ w6 ⟨sh, a8, n9, ca, S27, ab, nc, cd, S28, rfl, h29, h1f, h1g, h2a, h2b, ht, hi⟩
 refine Rm z ?_
 iterate 3 refine R z (ext_ z z) ?_
 refine E z (fa zero_118) ?_
 rintro _ w2c ⟨rfl, h1h⟩
 have hj := h1h.below
 have h2d : Blk w2c w6.z [vI 0, sl none 0 0, sl none 0 0] := h1h.blk
 refine E0 (fs (cur' := [vI r1e.number, sl a8 n9 ca, sl ab nc cd]) z_118 z z h2d z (lb z) (oA z) z) ?_
 rintro _ wk ⟨h1i, s2e⟩
 have hl := s2e.one
 refine Ra z<|Ra z<|Wn<|Wq<|Ws<|Rm z<|R z (eql z z)<|Wn ?_
 obtain ⟨u2f, hu1j, hm2g⟩ := bdS hm26
 refine Wt (fun a w => ∃ (xe : Int), xe = u2f ∧ Sat 56 [(8, pt wn.z), (14, pt w6.z), (15, vI r23), (16, vI r24)] a ∧ Chg (· ∈ [w6.z]) wk w ∧ inI xe ∧ Blk w w6.z [vI xe, sl a8 n9 ca, sl ab nc cd]) ?_ ?_
 ·refine Wc z (fun hcr => ?_) (fun hcr => ?_)
  ·refine Wg<|Rm z<|R z (fd f_118_0 z)<|E0 (fs (cur' := [vI r15, sl a8 n9 ca, sl ab nc cd]) z_3 z z h1i z (lb z) (oA z) z) ?_
   rintro _ w2h ⟨h2i, s2j⟩
   refine Wl ?_
   have h2k : Chg (· ∈ [w6.z]) wk w2h := cM (cr [w6.z] wk) s2j.one (io sr)
   exact fun _ q => ⟨r15, som<|ifT hu1j hcr, (q.k<|s4 z z z z), h2k, ho, h2i⟩
  exact WC_skip (fun _ q => ⟨r1e.number, som<|ifF hu1j hcr, (q.k<|s4 z z z z), (cr [w6.z] wk), h29, h1i⟩)
 rintro a2l w34 ⟨xe, rfl, hS35, sm, h2m, h2n⟩
 revert a2l
 refine Wo<|Ws<|R z (lN (vs := [vI xe, sl a8 n9 ca, sl ab nc cd]) g_118 z_118 z z fid<|h2n.row 0 3 z)<|Rm z<|Rm z ?_
 have hu := lt_ (lt_ s0.s s1.s) s2.s
 have h1k := mm1 h7.lt<|lt_ hu sh.s
 refine E0 (fs (cur' := [vI xe, sl a8 n9 ca, sl ab nc cd]) z_118 z z (((((((h7.e s0).e s1).e s2).e sh).e hj).c hl<|djs h1k).c sm<|djs h1k) z (lb z) (oA z) z) ?_
 rintro _ w36 ⟨h2o, s2p⟩
 have hv := s2p.one
 refine Ra z<|Ra z<|Wn ?_
 obtain rfl := som hm2g
 have h1l := mnr<|ownS.lt h1f
 have h1m := mnr<|ownS.lt h1g
 have h1n := m1<|lt_ hg sh.s
 exact Wr<|ret3 hr (resC g_118 z_118 z h2o z) z z ⟨(bM (bM (bM (bup (bup (bup (bup (bup (bup (bup h5 h4) h3) s0) s1) s2) sh) hj) hl h1n) sm h1n) hv<|m1 hf), a8, n9, ca, S27, ab, nc, cd, S28, z, h2m, ((((h1f.e hj).c hl<|ds h1l).c sm<|ds h1l).c hv<|o0n1 (al_ hi) h7.lt hu), ((((h1g.e hj).c hl<|ds h1m).c sm<|ds h1m).c hv<|o0n1 (ar_ hi) h7.lt hu), h2a, h2b, (na_ (nl_ ht) (nr_ ht)<|nj ht), (aa_ (o0le (al_ hi) hg)<|o0le (ar_ hi) hg)⟩
theorem T_w17 (ih : I_spec_l11Read n) : S_spec_l11Option (B_spec_l11Option n (F_spec_l11Read n)) := by
 obtain ⟨ih0, ih1, ih2, ih3, ih4⟩ := ih
 constructor
 intro B N0 C0 N3 C3 N4 C4 N2 C2 N5 C5 N9 C9 A0 A3 A4 A2 A5 A9 x1 x2 x3 x4 res w0 hm hBw p1_0 p2_0 p2_1 p2_2 p2_4 p2_5 p2_6 p2_7 p3_0 p4_0
 unfold B_spec_l11Option at hm
 refine goF func172 z z (lb z) fun fn hr => Ws<|E z (fb z) ?_
 rintro _ wc ⟨rfl, hd⟩
 have h2 := hd.below
 have ht : Blk wc w0.z [sl A0 N0 C0] := hd.blk
 refine E z (fb z) ?_
 rintro _ we ⟨rfl, hf⟩
 have h0 := hf.below
 have hu : Blk we wc.z (vR x2 A3 N3 C3 A4 N4 C4 A2 N2 C2 A5 N5 C5) := hf.blk
 refine E z (fa zero_118) ?_
 rintro _ wr ⟨rfl, hg⟩
 have h3 := hg.below
 have h4 : Blk wr we.z [vI 0, sl none 0 0, sl none 0 0] := hg.blk
 refine Ra z<|Ra z<|Wn<|Wq<|Wb<|Ws<|Rm z<|Rm z ?_
 have h6 := ((p3_0.e h2).e h0).e h3
 refine R z (lnR d_25 z h6)<|R z (rd_geq z z)<|Ra z<|Wn<|Wc z (fun hc7 => ?_) (fun hc7 => ?_)
 ·refine Ws<|R z (bP (parts := []) (cs := [vI 0, sl none 0 0, sl none 0 0]) build_118 z z)<|Rm z<|E0 (fs (cur' := [vI 0, sl none 0 0, sl none 0 0]) z_118 z z h4 z (lb z) (oA z) z) ?_
  rintro _ w1h ⟨hv, ss⟩
  refine Ra z<|Ra z<|Wn ?_
  obtain rfl := som (ifT hm hc7)
  exact Wr<|rtO<|ret3 hr (resC g_118 z_118 z hv z) z z ⟨(bM (bup (bup h2 h0) h3) ss.one<|m1<|lt_ h2.s h0.s), none, 0, 0, [], none, 0, 0, [], z, (ii z), onL, onL, p4_0, (ii z), nd0, al0⟩
 refine Ws<|Rm z<|Rm z ?_
 obtain ⟨x1i, ew, hmh⟩ := bdS (ifF hm hc7)
 refine RX z (at_ (α := UInt8) d_25 z_5 z z z h6 ew) ?_
 rintro _ ⟨b1j, o1k, cs1l, rfl, hx, hy, h1m⟩
 obtain rfl := u8 hy
 refine R z (l1 g_5 z fid<|hx.at0 z)<|R z (rd_gtr z z)<|Ra z<|Wn<|Wc z (fun hc8 => ?_) (fun hc8 => ?_)
 ·refine Ws<|R z (bP (parts := []) (cs := [vI 0, sl none 0 0, sl none 0 0]) build_118 z z)<|Rm z<|E0 (fs (cur' := [vI 0, sl none 0 0, sl none 0 0]) z_118 z z h4 z (lb z) (oA z) z) ?_
  rintro _ w1n ⟨hz, s10⟩
  refine Ra z<|Ra z<|Wn ?_
  obtain rfl := som (ifT hmh hc8)
  exact Wr<|rtO<|ret3 hr (resC g_118 z_118 z hz z) z z ⟨(bM (bup (bup h2 h0) h3) s10.one<|m1<|lt_ h2.s h0.s), none, 0, 0, [], none, 0, 0, [], z, (ii z), onL, onL, p4_0, (ii z), nd0, al0⟩
 refine Wk<|Wq (Wd (X := noX) 16384 (.rd 0 (.rd 1 (.rd 2 (.rd 3 (.rd 4 (.rd 5 (.rd 6 (.rd 7 (.rd 8 (.rd 9 (.ef 10 (.rd 11 (.rd 12 (.rd 13 (.ef 14 (.rd 15 (.rd 16 .done))))))))))))))))) mo (by kernel_rfl) fun w1o s1 _ => dR z z (lN (vs := [sl A0 N0 C0]) g_95 z_95 z z fid<|(((ht.e h0).e h3).e s1).row 0 1 z)<|dR z z (lN (vs := (vR x2 A3 N3 C3 A4 N4 C4 A2 N2 C2 A5 N5 C5)) g_144 z_144 z z fid<|((hu.e h3).e s1).row 0 8 z)<|dR z z (mv z)<|dR z z (mv z) ?_)
 obtain ⟨x1p, e11, hm12⟩ := bdS (ifF hmh hc8)
 have hi := h6.e s1
 refine dRX z z (at_ (α := UInt8) d_25 z_5 z z z hi e11) ?_
 rintro _ ⟨b1q, o1r, cs1s, rfl, h13, h14, h1t⟩
 obtain rfl := u8 h14
 refine dR z z (l1 g_5 z fid<|h13.at0 z)<|dR z z (rd_convUI d_5 d_3 z)<|dR z z (mv z)<|dR z z (mv z)<|dR z z (add_ z z) ?_
 have hj := lt_ h2.s h0.s
 have h9 := lt_ (lt_ hj h3.s) s1.s
 obtain ⟨r15, r1u, r1v, e16, hm17⟩ := bd3S hm12
 refine dE z z (fc call170 z<|ih1.run (B := B) e16 (lt_ hBw h9) ((((p1_0.e h2).e h0).e h3).e s1) p2_0 p2_1 p2_2 ((((p2_4.e h2).e h0).e h3).e s1) ((((p2_5.e h2).e h0).e h3).e s1) ((((p2_6.e h2).e h0).e h3).e s1) ((((p2_7.e h2).e h0).e h3).e s1) (ii z) (inI_byte _) hi<|iA _ _) (.inr fun _ _ h => chgB<|h.1) ?_
 rintro _ w1w ⟨sk, al, nm, cn, S18, ao, np, cq, S19, rfl, h1a, h1b, h1c, h1d, h1e, ha, h5⟩
 iterate 3 refine dR z z (ext_ z z) ?_
 refine dE0 z (fs (cur' := [vI r15.number, sl al nm cn, sl ao np cq]) z_118 z z ((h4.e s1).e sk) z (lb z) (oA z) z) (.inl z) ?_
 rintro _ w1x ⟨h1f, s1g⟩
 have hb := s1g.one
 refine dR z z (asg z)<|dR z z (asg z)<|pD<|Wo ?_
 obtain rfl := som hm17
 exact Wr<|ret3 hr (resC g_118 z_118 z h1f z) z z ⟨(bM (bup (bup (bup (bup h2 h0) h3) s1) sk) hb<|m1 hj), al, nm, cn, S18, ao, np, cq, S19, z, h1a, (h1b.c hb<|o0n1 (al_ h5) h4.lt s1.s), (h1c.c hb<|o0n1 (ar_ h5) h4.lt s1.s), h1d, h1e, (na_ (nl_ ha) (nr_ ha)<|nj ha), (aa_ (o0le (al_ h5) h9)<|o0le (ar_ h5) h9)⟩
theorem T_w18 (ih : I_spec_l11Read n) : S_spec_l11Checked (B_spec_l11Checked n (F_spec_l11Read n)) := by
 obtain ⟨ih0, ih1, ih2, ih3, ih4⟩ := ih
 constructor
 intro B N0 C0 N3 C3 N4 C4 N2 C2 N5 C5 N9 C9 A0 A3 A4 A2 A5 A9 x1 x2 x3 x4 res w0 hm hBw p1_0 p2_0 p2_1 p2_2 p2_4 p2_5 p2_6 p2_7 p3_0 p4_0
 unfold B_spec_l11Checked at hm
 refine goF func173 z z (lb z) fun fn hr => Ws<|E z (fb z) ?_
 rintro _ ws ⟨rfl, hu⟩
 have h6 := hu.below
 have h19 : Blk ws w0.z [sl A0 N0 C0] := hu.blk
 refine E z (fb z) ?_
 rintro _ wv ⟨rfl, hw⟩
 have h4 := hw.below
 have h1a : Blk wv ws.z (vR x2 A3 N3 C3 A4 N4 C4 A2 N2 C2 A5 N5 C5) := hw.blk
 refine E z (fa zero_118) ?_
 rintro _ w1b ⟨rfl, hx⟩
 have h3 := hx.below
 have h5 : Blk w1b wv.z [vI 0, sl none 0 0, sl none 0 0] := hx.blk
 refine Ra z<|Ra z<|Wn<|Ws<|R z (lN (vs := [sl A0 N0 C0]) g_95 z_95 z z fid<|((h19.e h4).e h3).row 0 1 z)<|R z (lN (vs := (vR x2 A3 N3 C3 A4 N4 C4 A2 N2 C2 A5 N5 C5)) g_144 z_144 z z fid<|(h1a.e h3).row 0 8 z)<|Rm z<|Rm z ?_
 have hy := ((p3_0.e h6).e h4).e h3
 have hi := lt_ h6.s h4.s
 have h9 := lt_ hi h3.s
 obtain ⟨rj, r1y, r1z, e1c, hmz⟩ := bd3S hm
 refine E z (fc call170 z<|ih1.run (B := B) e1c (lt_ hBw h9) (((p1_0.e h6).e h4).e h3) p2_0 p2_1 p2_2 (((p2_4.e h6).e h4).e h3) (((p2_5.e h6).e h4).e h3) (((p2_6.e h6).e h4).e h3) (((p2_7.e h6).e h4).e h3) (ii z) (ii z) hy p4_0) ?_
 rintro _ w1d ⟨s0, aa, nb, cc, S10, ad, ne, cf, S11, rfl, h12, hl, hn, ho, h1e, hh, h8⟩
 refine Rm z ?_
 iterate 3 refine R z (ext_ z z) ?_
 refine E z (fa zero_118) ?_
 rintro _ w1f ⟨rfl, h13⟩
 have h1 := h13.below
 have h1g : Blk w1f w1d.z [vI 0, sl none 0 0, sl none 0 0] := h13.blk
 refine E0 (fs (cur' := [vI rj.number, sl aa nb cc, sl ad ne cf]) z_118 z z h1g z (lb z) (oA z) z) ?_
 rintro _ w20 ⟨h14, s1h⟩
 have h2 := s1h.one
 refine Ra z<|Ra z<|Wn<|Wq<|Wb<|Ws<|Rm z<|R z (nq z z)<|Ra z<|Wn<|Wc z (fun hcm => ?_) (fun hcm => ?_)
 ·refine Ws<|R z (lN (vs := [vI rj.number, sl aa nb cc, sl ad ne cf]) g_118 z_118 z z fid<|h14.row 0 3 z)<|Rm z<|Rm z<|E0 (fs (cur' := [vI rj.number, sl aa nb cc, sl ad ne cf]) z_118 z z (((h5.e s0).e h1).c h2<|djs<|mm1 h5.lt s0.s) z (lb z) (oA z) z) ?_
  rintro _ w21 ⟨h1i, s1j⟩
  have hp := s1j.one
  refine Ra z<|Ra z<|Wn ?_
  obtain rfl := som (ifT hmz hcm)
  exact Wr<|rtO<|ret3 hr (resC g_118 z_118 z h1i z) z z ⟨(bM (bM (bup (bup (bup (bup h6 h4) h3) s0) h1) h2<|m1<|lt_ h9 s0.s) hp<|m1 hi), aa, nb, cc, S10, ad, ne, cf, S11, z, h12, (((hl.e h1).c h2<|ds<|mnr<|ownS.lt hl).c hp<|o0n1 (al_ h8) h5.lt lr), (((hn.e h1).c h2<|ds<|mnr<|ownS.lt hn).c hp<|o0n1 (ar_ h8) h5.lt lr), ho, h1e, (na_ (nl_ hh) (nr_ hh)<|nj hh), (aa_ (o0le (al_ h8) h9)<|o0le (ar_ h8) h9)⟩
 have hm15 := ifF hmz hcm
 refine Ws<|Rm z<|Rm z ?_
 have hk := lt_ h9 s0.s
 have h16 := ((hy.e s0).e h1).c h2<|lg<|m1<|lt_ hBw hk
 refine R z (lnR d_25 z h16)<|R z (rd_geq z z)<|Ra z<|Wn<|Wc z (fun hcq => ?_) (fun hcq => ?_)
 ·refine Ws<|R z (bP (parts := []) (cs := [vI 0, sl none 0 0, sl none 0 0]) build_118 z z)<|Rm z<|E0 (fs (cur' := [vI 0, sl none 0 0, sl none 0 0]) z_118 z z (((h5.e s0).e h1).c h2<|djs<|mm1 h5.lt s0.s) z (lb z) (oA z) z) ?_
  rintro _ w22 ⟨h1k, s1l⟩
  refine Ra z<|Ra z<|Wn ?_
  obtain rfl := som (ifT hm15 hcq)
  exact Wr<|rtO<|ret3 hr (resC g_118 z_118 z h1k z) z z ⟨(bM (bM (bup (bup (bup (bup h6 h4) h3) s0) h1) h2<|m1 hk) s1l.one<|m1 hi), none, 0, 0, [], none, 0, 0, [], z, (ii z), onL, onL, ho, (ii z), nd0, al0⟩
 refine Wq (Wd (X := noX) 0 (.rd 0 (.rd 1 (.rd 2 (.rd 3 (.rd 4 (.rd 5 (.rd 6 (.rd 7 (.rd 8 (.ef 9 (.rd 10 (.rd 11 .done)))))))))))) mo (by kernel_rfl) fun w23 s7 _ => dR z z (mv z)<|dR z z (mv z) ?_)
 obtain ⟨x24, e1m, hm1n⟩ := bdS (ifF hm15 hcq)
 have h17 := h16.e s7
 refine dRX z z (at_ (α := UInt8) d_25 z_5 z z z h17 e1m) ?_
 rintro _ ⟨b25, o26, cs27, rfl, h1o, h1p, h28⟩
 obtain rfl := u8 h1p
 refine dR z z (l1 g_5 z fid<|h1o.at0 z)<|dR z z (rd_convUI d_5 d_3 z) ?_
 iterate 3 refine dR z z (mv z) ?_
 obtain ⟨x29, e1q, hm1r⟩ := bdS hm1n
 refine dRX z z (rX d_25 z_5 z z h17 z z e1q) ?_
 rintro _ ⟨a2a, n2b, c2c, rfl, h1s⟩
 obtain ⟨r2d, e1t, hm18⟩ := bdS hm1r
 refine dE z z (fc call79 z<|W_w0z (B := B) e1t (lt_ hBw<|lt_ (lt_ (lt_ hk h1.s) h2.s) s7.s) h1s) (.inr fun _ _ h => chgB<|h.1) ?_
 rintro _ w2e ⟨sg, rfl, h2f⟩
 refine dR z z (nq z z)<|dR z z (asg z)<|pD<|Wo<|Wc z (fun hcr => ?_) (fun hcr => ?_)
 ·refine Ws<|R z (bP (parts := []) (cs := [vI 0, sl none 0 0, sl none 0 0]) build_118 z z)<|Rm z<|E0 (fs (cur' := [vI 0, sl none 0 0, sl none 0 0]) z_118 z z (((((h5.e s0).e h1).c h2<|djs<|mm1 h5.lt s0.s).e s7).e sg) z (lb z) (oA z) z) ?_
  rintro _ w2g ⟨h1u, s1v⟩
  refine Ra z<|Ra z<|Wn ?_
  obtain rfl := som (ifT hm18 hcr)
  exact Wr<|rtO<|ret3 hr (resC g_118 z_118 z h1u z) z z ⟨(bM (bup (bup (bM (bup (bup (bup (bup h6 h4) h3) s0) h1) h2<|m1 hk) s7) sg) s1v.one<|m1 hi), none, 0, 0, [], none, 0, 0, [], z, (ii z), onL, onL, ho, (ii z), nd0, al0⟩
 refine Wk<|Ws<|R z (lN (vs := [vI rj.number, sl aa nb cc, sl ad ne cf]) g_118 z_118 z z fid<|((h14.e s7).e sg).row 0 3 z)<|Rm z<|R z (add_ z z)<|E0 (fs (cur' := [vI rj.number, sl aa nb cc, sl ad ne cf]) z_118 z z (((((h5.e s0).e h1).c h2<|djs<|mm1 h5.lt s0.s).e s7).e sg) z (lb z) (oA z) z) ?_
 rintro _ w2h ⟨h1w, s1x⟩
 have ht := s1x.one
 refine Ra z<|Ra z<|Wn ?_
 obtain rfl := som (ifF hm18 hcr)
 exact Wr<|ret3 hr (resC g_118 z_118 z h1w z) z z ⟨(bM (bup (bup (bM (bup (bup (bup (bup h6 h4) h3) s0) h1) h2<|m1 hk) s7) sg) ht<|m1 hi), aa, nb, cc, S10, ad, ne, cf, S11, z, h12, (((((hl.e h1).c h2<|ds<|mnr<|ownS.lt hl).e s7).e sg).c ht<|o0n1 (al_ h8) h5.lt lr), (((((hn.e h1).c h2<|ds<|mnr<|ownS.lt hn).e s7).e sg).c ht<|o0n1 (ar_ h8) h5.lt lr), (iA _ _), (ii z), (na_ (nl_ hh) (nr_ hh)<|nj hh), (aa_ (o0le (al_ h8) h9)<|o0le (ar_ h8) h9)⟩
theorem A_w02 : ∀ n, I_spec_l11Read n
  | 0 => ⟨⟨fun hm => by intros; exact nomatch (show none = some _ from hm)⟩, ⟨fun hm => by intros; exact nomatch (show none = some _ from hm)⟩, ⟨fun hm => by intros; exact nomatch (show none = some _ from hm)⟩, ⟨fun hm => by intros; exact nomatch (show none = some _ from hm)⟩, ⟨fun hm => by intros; exact nomatch (show none = some _ from hm)⟩⟩
  | n + 1 => ⟨T_w02 (A_w02 n), T_w15 (A_w02 n), T_w16 (A_w02 n), T_w17 (A_w02 n), T_w18 (A_w02 n)⟩
theorem W_w02 : S_spec_l11Read (F_spec_l11Read n).spec_l11Read := (A_w02 n).1
theorem W_w15 : S_spec_l11Items (F_spec_l11Read n).spec_l11Items := (A_w02 n).2.1
theorem W_w16 : S_spec_l11Choice (F_spec_l11Read n).spec_l11Choice := (A_w02 n).2.2.1
theorem W_w17 : S_spec_l11Option (F_spec_l11Read n).spec_l11Option := (A_w02 n).2.2.2.1
theorem W_w18 : S_spec_l11Checked (F_spec_l11Read n).spec_l11Checked := (A_w02 n).2.2.2.2

theorem W_w0i {x1 : Desc} {x2 : Int} {x3 : List UInt8} {x4 : Int} {res : Val × Int × Int} (hm : M_spec_ReadValue n x1 x2 x3 x4 = some res) (hBw : B ≤ w0.z) (p1_0 : repS w0 B (sl A0 N0 C0) x1.rules) (p2_0 : inI x2) (p3_0 : repS w0 B (sl A9 N9 C9) x3) (p4_0 : inI x4) : CallsR prog 128 [(.agg #[sl A0 N0 C0]), vI x2, sl A9 N9 C9, vI x4] w0 (Q18 w0 B res) := by
 unfold M_spec_ReadValue at hm
 refine goF func128 z z (lb z) fun fn hr => Ws<|E z (fb z) ?_
 rintro _ w8 ⟨rfl, hh⟩
 have h1 := hh.below
 have hi : Blk w8 w0.z [sl A0 N0 C0] := hh.blk
 refine E z (fa zero_118) ?_
 rintro _ w9 ⟨rfl, hj⟩
 have h2 := hj.below
 have h6 : Blk w9 w8.z [vI 0, sl none 0 0, sl none 0 0] := hj.blk
 refine Ra z<|Ra z<|Wn<|Wq<|Wq ?_
 obtain ⟨uv, huw, hmk⟩ := bdS hm
 refine Wt (fun a w => ∃ (xa : Bool), xa = uv ∧ Sat 36 [(1, vI x2), (2, sl A9 N9 C9), (3, vI x4), (4, pt w0.z), (8, pt w8.z), (26, vB xa)] a ∧ Below w9.z w9 w) ?_ ?_
 ·refine Wg<|R z (lN (vs := [sl A0 N0 C0]) g_95 z_95 z z fid<|(hi.e h2).row 0 1 z)<|Rm z ?_
  have hl := lt_ h1.s h2.s
  obtain ⟨rx, ey, hmm⟩ := bdS huw
  refine E z (fc call146 z<|W_w2u (B := B) ey (lt_ hBw hl) ((p1_0.e h1).e h2) p2_0) ?_
  rintro _ w1g ⟨s5, rfl⟩
  refine R z (not_ z)<|Rm z ?_
  rcases bs (!rx) with hc0 | hc0
  ·iterate 5 refine Nh z hc0 ?_
   exact R z (pT z hc0 z)<|Rm z<|Nh z z<|Nh z z<|Nh z z<|R z (pT z z z)<|Wl (fun _ q => ⟨true, som<|ifT hmm hc0, (q.k<|s6 z z z z z z), s5⟩)
  refine Rh z hc0 (mv z)<|Rh z hc0 (mv z) ?_
  have hb := ((p3_0.e h1).e h2).e s5
  refine Rh z hc0 (lnR d_25 z hb) ?_
  obtain ⟨rz, e10, hmn⟩ := bdS (ifF hmm hc0)
  refine Eg z z hc0 z (fc call97 z<|W_w00 (B := B) e10 (lt_ hBw<|lt_ hl s5.s) p4_0 (ii z)<|inI_len<|repS.len hb) ?_
  rintro _ w1h ⟨sc, rfl⟩
  refine Rh z hc0 (not_ z)<|R z (pF z hc0 z)<|Rm z ?_
  rcases bs (!rz) with hc4 | hc4
  ·iterate 3 refine Nh z hc4 ?_
   exact R z (pT z hc4 z)<|Wl (fun _ q => ⟨true, som<|ifT hmn hc4, (q.k<|s6 z z z z z z), (bup s5 sc)⟩)
  exact Rh z hc4 (mv z)<|Rh z hc4 (lnR d_25 z<|hb.e sc)<|Rh z hc4 (rd_gtr z z)<|R z (pF z hc4 z)<|Wl (fun _ q => ⟨decide (400 < (x3.length : Int)), som<|ifF hmn hc4, (q.k<|s6 z z z z z z), (bup s5 sc)⟩)
 rintro a11 w1i ⟨xa, rfl, hS1j, s3⟩
 revert a11
 refine Wo<|Wc z (fun hcd => ?_) (fun hcd => ?_)
 ·refine Ws<|R z (bP (parts := []) (cs := [vI 0, sl none 0 0, sl none 0 0]) build_118 z z)<|E0 (fs (cur' := [vI 0, sl none 0 0, sl none 0 0]) z_118 z z (h6.e s3) z (lb z) (oA z) z) ?_
  rintro _ w1k ⟨h12, s13⟩
  refine Ra z<|Ra z<|Wn ?_
  obtain rfl := som (ifT hmk hcd)
  exact Wr<|ret3 hr (resC g_118 z_118 z h12 z) z z ⟨(bM (bup (bup h1 h2) s3) s13.one<|m1 h1.s), none, 0, 0, [], none, 0, 0, [], z, (ii z), onL, onL, (ii z), (ii z), nd0, al0⟩
 refine Wk<|Ws<|R z (lN (vs := [sl A0 N0 C0]) g_95 z_95 z z fid<|((hi.e h2).e s3).row 0 1 z)<|Rm z<|Rm z<|Rm z ?_
 have he := lt_ (lt_ h1.s h2.s) s3.s
 obtain ⟨r14, r1l, r1m, e15, hm16⟩ := bd3S (ifF hmk hcd)
 refine E z (fc call147 z<|W_w02.run (B := B) e15 (lt_ hBw he) (((p1_0.e h1).e h2).e s3) p2_0 (((p3_0.e h1).e h2).e s3) p4_0) ?_
 rintro _ w1n ⟨so, ap, nq, cr, S17, au, ns, ct, S18, rfl, h19, h1a, h1b, h1c, h1d, hf, h7⟩
 iterate 3 refine R z (ext_ z z) ?_
 refine E0 (fs (cur' := [vI r14.number, sl ap nq cr, sl au ns ct]) z_118 z z ((h6.e s3).e so) z (lb z) (oA z) z) ?_
 rintro _ w1o ⟨h1e, s1f⟩
 have hg := s1f.one
 refine Ra z<|Ra z<|Wn ?_
 obtain rfl := som hm16
 exact Wr<|ret3 hr (resC g_118 z_118 z h1e z) z z ⟨(bM (bup (bup (bup h1 h2) s3) so) hg<|m1 h1.s), ap, nq, cr, S17, au, ns, ct, S18, z, h19, (h1a.c hg<|o0n1 (al_ h7) h6.lt s3.s), (h1b.c hg<|o0n1 (ar_ h7) h6.lt s3.s), h1c, h1d, (na_ (nl_ hf) (nr_ hf)<|nj hf), (aa_ (o0le (al_ h7) he)<|o0le (ar_ h7) he)⟩
theorem W_w2x {x1 : Desc} {x2 : List UInt8} {res : Val × Int × Int} (hm : M_spec_ReadFile n x1 x2 = some res) (hBw : B ≤ w0.z) (p1_0 : repS w0 B (sl A0 N0 C0) x1.rules) (p2_0 : repS w0 B (sl A6 N6 C6) x2) : CallsR prog 101 [(.agg #[sl A0 N0 C0]), sl A6 N6 C6] w0 (Q18 w0 B res) := by
 unfold M_spec_ReadFile at hm
 refine goF func101 z z (lb z) fun fn hr => Ws<|E z (fb z) ?_
 rintro _ wn ⟨rfl, h1g⟩
 have h2 := h1g.below
 have hv : Blk wn w0.z [sl A0 N0 C0] := h1g.blk
 refine E z (fa zero_118) ?_
 rintro _ w5 ⟨rfl, h1h⟩
 have h1 := h1h.below
 have ho : Blk w5 wn.z [vI 0, sl none 0 0, sl none 0 0] := h1h.blk
 refine Ra z<|Ra z<|Wn<|Wq ?_
 obtain ⟨u2x, hu1i, hm2y⟩ := bdS hm
 refine Wt (fun a w => ∃ (xb : Int) (xw : List UInt8) (xx : List Val) (xc : Int) (xd : Int), (xb, xw, xx, xc, xd) = u2x ∧ ∃ ae nf cg S7 ah ni cj S8 g9, Sat 32 [(1, sl A6 N6 C6), (4, pt wn.z), (7, pt g9), (8, vI xc), (9, vI xd)] a ∧ Below w5.z w5 w ∧ inI xb ∧ ownS w S7 (sl ae nf cg) xw ∧ S7.Nodup ∧ (∀ k ∈ S7, w5.z ≤ k) ∧ ownS w S8 (sl ah ni cj) xx ∧ S8.Nodup ∧ (∀ k ∈ S8, w5.z ≤ k) ∧ (∀ k ∈ S8, k ∉ S7) ∧ inI xc ∧ inI xd ∧ Blk w g9 [vI xb, sl ae nf cg, sl ah ni cj] ∧ w5.z ≤ g9 ∧ (∀ k ∈ S7, k ∉ [g9]) ∧ (∀ k ∈ S8, k ∉ [g9])) ?_ ?_
 ·refine Wd (X := fun k => k ∈ ([] : List Nat) ∨ w5.z ≤ k) 0 (.rd 0 (.rd 1 (.rd 3 (.br 2 (.br 4 (.rd 5 (.rd 6 (.rd 7 (.rd 8 (.ef 9 (.ef 10 (.rd 11 (.rd 12 .done)))))))) 9 (.ef 4 (.rd 5 (.rd 6 (.rd 7 (.rd 8 (.ef 10 (.rd 11 (.rd 12 .done))))))))) 9 (.ef 2 (.ef 4 (.rd 5 (.rd 6 (.rd 7 (.rd 8 (.ef 10 (.rd 11 (.rd 12 .done))))))))))))) mo (by kernel_rfl) fun w1j s0 _ => ?_
  have h1k := (hv.e h1).e s0
  refine dR z z (lN (vs := [sl A0 N0 C0]) g_95 z_95 z z (notNew nm0<|Nat.lt_of_lt_of_le hv.lt h1.s)<|h1k.row 0 1 z)<|dR z z (lN (vs := [sl A0 N0 C0]) g_95 z_95 z z (notNew nm0<|Nat.lt_of_lt_of_le hv.lt h1.s)<|h1k.row 0 1 z)<|dR z z (mv z)<|PR_br ?_ ?_
  ·have hy := ((p1_0.e h2).e h1).e s0
   have hz := lt_ (lt_ h2.s h1.s) s0.s
   obtain ⟨r4o, e2z, hm1l⟩ := bdS hu1i
   refine dE z z (fc call129 z<|W_w13 (B := B) e2z (lt_ hBw hz) hy) (.inr fun _ _ h => chgB<|h.1) ?_
   rintro _ w1m ⟨s3, rfl, h1n⟩
   refine PR_br ?_ ?_
   ·obtain ⟨rp, r30, r31, e32, hm33⟩ := bd3S hm1l
    refine dE z z (fc call128 z<|W_w0i (B := B) e32 (lt_ hBw<|lt_ hz s3.s) (hy.e s3) h1n ((((p2_0.e h2).e h1).e s0).e s3)<|ii z) (.inr fun _ _ h => chgB<|h.1) ?_
    rintro _ w1o ⟨s1p, a1q, n1r, c1s, S34, a1t, n1u, c1v, S35, rfl, h36, h1w, h1x, h37, h38, h10, h1y⟩
    refine dR z z (mv z) ?_
    iterate 3 refine dR z z (ext_ z z) ?_
    refine dE z z (fa zero_118) (.inr fun _ _ h => chgB<|h.2.below) ?_
    rintro _ w39 ⟨rfl, h1z⟩
    have h11 := h1z.below
    have h3a : Blk w39 w1o.z [vI 0, sl none 0 0, sl none 0 0] := h1z.blk
    have h12 := lt_ s0.s s3.s
    have h13 := m1<|lt_ h12 s1p.s
    refine dE0 z (fs (cur' := [vI rp.number, sl a1q n1r c1s, sl a1t n1u c1v]) z_118 z z h3a z (lb z) (oA z) z) (.inr fun _ _ h => chgNew (atp h13) h.2) ?_
    rintro _ w4p ⟨h3b, s3c⟩
    have h14 := s3c.one
    refine dR z z (asg z)<|dR z z (asg z)<|pD ?_
    have h20 := mnr<|ownS.lt h1w
    have h21 := mnr<|ownS.lt h1x
    exact fun _ q => ⟨rp.number, rp.bytes, rp.items, r30, r31, som hm33, a1q, n1r, c1s, S34, a1t, n1u, c1v, S35, w1o.z, (q.k<|s5 z z z z z), (bM (bup (bup (bup s0 s3) s1p) h11) h14 h13), h36, ((h1w.e h11).c h14<|ds h20), (nl_ h10), (o0le (al_ h1y) h12), ((h1x.e h11).c h14<|ds h21), (nr_ h10), (o0le (ar_ h1y) h12), (ds<|nj h10), h37, h38, h3b, (atp h13), (ds h20), (ds h21)⟩
   refine dE z z (fa zero_118) (.inr fun _ _ h => chgB<|h.2.below) ?_
   rintro _ w3d ⟨rfl, h22⟩
   have hk := h22.below
   have h15 : Blk w3d w1m.z [vI 0, sl none 0 0, sl none 0 0] := h22.blk
   obtain ⟨rq, r3e, r3f, e3g, hm3h⟩ := bd3S hm1l
   refine dE z z (fc call128 z<|W_w0i (B := B) e3g (lt_ hBw<|lt_ (lt_ hz s3.s) hk.s) ((hy.e s3).e hk) h1n (((((p2_0.e h2).e h1).e s0).e s3).e hk)<|ii z) (.inr fun _ _ h => chgB<|h.1) ?_
   rintro _ w4q ⟨s23, a24, n25, c26, S3i, a27, n28, c29, S3j, rfl, h3k, h3l, h3m, h3n, h3o, h16, ht⟩
   refine dR z z (mv z) ?_
   iterate 3 refine dR z z (ext_ z z) ?_
   have h2a := lt_ s0.s s3.s
   have h17 := m1 h2a
   refine dE0 z (fs (cur' := [vI rq.number, sl a24 n25 c26, sl a27 n28 c29]) z_118 z z (h15.e s23) z (lb z) (oA z) z) (.inr fun _ _ h => chgNew (atp h17) h.2) ?_
   rintro _ w4r ⟨h3p, s3q⟩
   have h18 := s3q.one
   refine dR z z (asg z)<|dR z z (asg z)<|pD ?_
   have h2b := o0n1 (al_ ht) h15.lt lr
   have h2c := lt_ h2a hk.s
   have h2d := o0n1 (ar_ ht) h15.lt lr
   exact fun _ q => ⟨rq.number, rq.bytes, rq.items, r3e, r3f, som hm3h, a24, n25, c26, S3i, a27, n28, c29, S3j, w1m.z, (q.k<|s5 z z z z z), (bM (bup (bup (bup s0 s3) hk) s23) h18 h17), h3k, (h3l.c h18 h2b), (nl_ h16), (o0le (al_ ht) h2c), (h3m.c h18 h2d), (nr_ h16), (o0le (ar_ ht) h2c), (ds<|nj h16), h3n, h3o, h3p, (atp h17), h2b, h2d⟩
  refine dE z z (fa zero_118) (.inr fun _ _ h => chgB<|h.2.below) ?_
  rintro _ w3r ⟨rfl, h2e⟩
  have hl := h2e.below
  have h19 : Blk w3r w1j.z [vI 0, sl none 0 0, sl none 0 0] := h2e.blk
  have h2f := (((p1_0.e h2).e h1).e s0).e hl
  have h2g := lt_ (lt_ (lt_ h2.s h1.s) s0.s) hl.s
  obtain ⟨r4s, e3s, hm3t⟩ := bdS hu1i
  refine dE z z (fc call129 z<|W_w13 (B := B) e3s (lt_ hBw h2g) h2f) (.inr fun _ _ h => chgB<|h.1) ?_
  rintro _ w4t ⟨s6, rfl, h3u⟩
  obtain ⟨rr, r3v, r3w, e3x, hm3y⟩ := bd3S hm3t
  refine dE z z (fc call128 z<|W_w0i (B := B) e3x (lt_ hBw<|lt_ h2g s6.s) (h2f.e s6) h3u (((((p2_0.e h2).e h1).e s0).e hl).e s6)<|ii z) (.inr fun _ _ h => chgB<|h.1) ?_
  rintro _ w4u ⟨s2h, a2i, n2j, c2k, S3z, a2l, n2m, c2n, S40, rfl, h41, h42, h43, h44, h45, h1a, hu⟩
  refine dR z z (mv z) ?_
  iterate 3 refine dR z z (ext_ z z) ?_
  have h1b := m1 s0.s
  refine dE0 z (fs (cur' := [vI rr.number, sl a2i n2j c2k, sl a2l n2m c2n]) z_118 z z ((h19.e s6).e s2h) z (lb z) (oA z) z) (.inr fun _ _ h => chgNew (atp h1b) h.2) ?_
  rintro _ w4v ⟨h46, s47⟩
  have h1c := s47.one
  refine dR z z (asg z)<|dR z z (asg z)<|pD ?_
  have h2o := o0n1 (al_ hu) h19.lt s6.s
  have h2p := lt_ (lt_ s0.s hl.s) s6.s
  have h2q := o0n1 (ar_ hu) h19.lt s6.s
  exact fun _ q => ⟨rr.number, rr.bytes, rr.items, r3v, r3w, som hm3y, a2i, n2j, c2k, S3z, a2l, n2m, c2n, S40, w1j.z, (q.k<|s5 z z z z z), (bM (bup (bup (bup s0 hl) s6) s2h) h1c h1b), h41, (h42.c h1c h2o), (nl_ h1a), (o0le (al_ hu) h2p), (h43.c h1c h2q), (nr_ h1a), (o0le (ar_ hu) h2p), (ds<|nj h1a), h44, h45, h46, (atp h1b), h2o, h2q⟩
 rintro a48 ws ⟨xb, xw, xx, xc, xd, rfl, ae, nf, cg, S7, ah, ni, cj, S8, g9, hS4w, sm, h49, h4a, h4b, h2r, h4c, h4d, h2s, h4e, h2t, h4f, h4g, h4x, h4y, h4z⟩
 have hm4h := un5S hm2y
 revert a48
 refine Wo<|Wq<|Wq ?_
 obtain ⟨u4i, hu2u, hm2v⟩ := bdS hm4h
 refine Wt (fun a w => ∃ (x1d : Bool), x1d = u4i ∧ Sat 32 [(4, pt wn.z), (7, pt g9), (8, vI xc), (9, vI xd), (26, vB x1d)] a ∧ Below ws.z ws w) ?_ ?_
 ·refine Wg<|Rm z<|R z (eql z z)<|Rm z ?_
  rcases bs (xd == 0) with hc4 | hc4
  ·exact Rh z hc4 (mv z)<|Rh z hc4 (mv z)<|Rh z hc4 (lnR d_25 z<|((p2_0.e h2).e h1).e sm)<|Rh z hc4 (lss z z)<|R z (pT z hc4 z)<|Wl (fun _ q => ⟨decide (xc < (x2.length : Int)), som<|ifT hu2u hc4, (q.k<|s5 z z z z z), (br ws)⟩)
  iterate 4 refine Nh z hc4 ?_
  exact R z (pF z hc4 z)<|Wl (fun _ q => ⟨false, som<|ifF hu2u hc4, (q.k<|s5 z z z z z), (br ws)⟩)
 rintro a4j w50 ⟨x1d, rfl, hS51, sa⟩
 revert a4j
 refine Wo<|Wc z (fun hc1e => ?_) (fun hc1e => ?_)
 ·refine Ws<|R z (bP (parts := []) (cs := [vI 0, sl none 0 0, sl none 0 0]) build_118 z z)<|Rm z<|E0 (fs (cur' := [vI 0, sl none 0 0, sl none 0 0]) z_118 z z ((ho.e sm).e sa) z (lb z) (oA z) z) ?_
  rintro _ w52 ⟨h4k, s4l⟩
  refine Ra z<|Ra z<|Wn ?_
  obtain rfl := som (ifT hm2v hc1e)
  exact Wr<|ret3 hr (resC g_118 z_118 z h4k z) z z ⟨(bM (bup (bup (bup h2 h1) sm) sa) s4l.one<|m1 h2.s), none, 0, 0, [], none, 0, 0, [], z, (ii z), onL, onL, h2t, (ii z), nd0, al0⟩
 refine Wk<|Ws<|R z (lN (vs := [vI xb, sl ae nf cg, sl ah ni cj]) g_118 z_118 z z fid<|(h4g.e sa).row 0 3 z)<|Rm z<|Rm z<|E0 (fs (cur' := [vI xb, sl ae nf cg, sl ah ni cj]) z_118 z z ((ho.e sm).e sa) z (lb z) (oA z) z) ?_
 rintro _ w53 ⟨h4m, s4n⟩
 have h1f := s4n.one
 refine Ra z<|Ra z<|Wn ?_
 obtain rfl := som (ifF hm2v hc1e)
 have h2w := lt_ h2.s h1.s
 exact Wr<|ret3 hr (resC g_118 z_118 z h4m z) z z ⟨(bM (bup (bup (bup h2 h1) sm) sa) h1f<|m1 h2.s), ae, nf, cg, S7, ah, ni, cj, S8, z, h49, ((h4a.e sa).c h1f<|o0n1 h2r ho.lt lr), ((h4c.e sa).c h1f<|o0n1 h2s ho.lt lr), h2t, h4f, (na_ h4b h4d<|ds h4e), (aa_ (o0le h2r h2w)<|o0le h2s h2w)⟩
theorem W_w2y {x1 : Desc} {x2 : List UInt8} {res : Bool} (hm : M_spec_IsFileOf n x1 x2 = some res) (hBw : B ≤ w0.z) (p1_0 : repS w0 B (sl A0 N0 C0) x1.rules) (p2_0 : repS w0 B (sl A6 N6 C6) x2) : CallsR prog 69 [(.agg #[sl A0 N0 C0]), sl A6 N6 C6] w0 (Q11 w0 B res) := by
 unfold M_spec_IsFileOf at hm
 refine goF func69 z z (lb z) fun fn hr => Ws<|E z (fb z) ?_
 rintro _ w4 ⟨rfl, h1⟩
 have h0 := h1.below
 have h5 : Blk w4 w0.z [sl A0 N0 C0] := h1.blk
 refine Ra z<|Wn<|Ws<|R z (lN (vs := [sl A0 N0 C0]) g_95 z_95 z z fid<|h5.row 0 1 z)<|Rm z ?_
 obtain ⟨r6, rj, rk, e7, hm8⟩ := bd3S hm
 refine E z (fc call101 z<|W_w2x (B := B) e7 (lt_ hBw h0.s) (p1_0.e h0)<|p2_0.e h0) ?_
 rintro _ w9 ⟨s2, aa, nb, cc, Sl, ad, ne, cf, Sm, rfl, hn, ho, hp, hq, ht, hu, hv⟩
 refine Rm z ?_
 iterate 3 refine R z (ext_ z z) ?_
 refine E z (fa zero_118) ?_
 rintro _ wg ⟨rfl, h3⟩
 have hh : Blk wg w9.z [vI 0, sl none 0 0, sl none 0 0] := h3.blk
 refine E0 (fs (cur' := [vI r6.number, sl aa nb cc, sl ad ne cf]) z_118 z z hh z (lb z) (oA z) z) ?_
 rintro _ wr ⟨hw, si⟩
 refine Ra z<|Ra z<|Wn<|Ws<|Rm z<|R z (eql z z)<|Ra z<|Wn ?_
 obtain rfl := som hm8
 exact Wr<|ret1 hr z ⟨(bM (bup (bup h0 s2) h3.below) si.one<|m1<|lt_ h0.s s2.s), z⟩
theorem W_w19 {x1 : Archive} {res : Bool} (hm : M_spec_IsValidArchive n x1 = some res) (hBw : B ≤ w0.z) (p1_0 : repS w0 B (sl A0 N0 C0) x1.registry.versions) (p1_1 : repS w0 B (sl A1 N1 C1) x1.log.bytes) (p1_2 : inI x1.log.stored) : CallsR prog 35 [(.agg #[sl A0 N0 C0, sl A1 N1 C1, vI x1.log.stored])] w0 (Q11 w0 B res) := by
 unfold M_spec_IsValidArchive at hm
 refine goF func35 z z (lb z) fun fn hr => Ws<|E z (fb z) ?_
 rintro _ we ⟨rfl, hl⟩
 have h3 := hl.below
 have hf : Blk we w0.z [sl A0 N0 C0, sl A1 N1 C1, vI x1.log.stored] := hl.blk
 refine Ra z<|Wn<|Wq<|Wq ?_
 obtain ⟨u18, hu19, hmm⟩ := bdS hm
 refine Wt (fun a w => ∃ (xg : Bool), xg = u18 ∧ Sat 74 [(1, pt w0.z), (23, vB xg)] a ∧ Below we.z we w) ?_ ?_
 ·refine Wg<|R z (fd f_37_0 z)<|R z (lN (vs := [sl A0 N0 C0]) g_34 z_34 z z fid<|hf.row 0 1 z) ?_
  obtain ⟨r1a, e1b, hmn⟩ := bdS hu19
  refine E z (fc call67 z<|W_w2r (B := B) (x1 := (⟨x1.registry.versions⟩ : Registry)) e1b (lt_ hBw h3.s)<|p1_0.e h3) ?_
  rintro _ w2r ⟨s8, rfl⟩
  refine R z (not_ z)<|Rm z ?_
  rcases bs (!r1a) with hc4 | hc4
  ·iterate 4 refine Nh z hc4 ?_
   exact R z (pT z hc4 z)<|Rm z<|Nh z z<|Nh z z<|Nh z z<|Nh z z<|Nh z z<|Nh z z<|R z (pT z z z)<|Wl (fun _ q => ⟨true, som<|ifT hmn hc4, (q.k<|s2 z z), s8⟩)
  refine Rh z hc4 (fd f_37_1 z) ?_
  have ho := hf.e s8
  refine Rh z hc4 (lN (vs := [sl A1 N1 C1, vI x1.log.stored]) g_35 z_35 z z fid<|ho.row 1 2 z) ?_
  have hp := (p1_1.e h3).e s8
  have hq := lt_ h3.s s8.s
  obtain ⟨r1c, e1d, hmr⟩ := bdS (ifF hmn hc4)
  refine Eg z z hc4 z (fc call65 z<|W_w11 (B := B) (x1 := (⟨x1.log.bytes, x1.log.stored⟩ : Log)) e1d (lt_ hBw hq) hp p1_2) ?_
  rintro _ w2s ⟨sb, rfl⟩
  refine Rh z hc4 (not_ z)<|R z (pF z hc4 z)<|Rm z ?_
  rcases bs (!r1c) with hc2 | hc2
  ·iterate 6 refine Nh z hc2 ?_
   exact R z (pT z hc2 z)<|Wl (fun _ q => ⟨true, som<|ifT hmr hc2, (q.k<|s2 z z), (bup s8 sb)⟩)
  refine Rh z hc2 (fd f_37_1 z)<|Rh z hc2 (fd f_35_0 z)<|Rh z hc2 (l1 g_25 z fid<|(ho.e sb).at z) ?_
  obtain ⟨r1e, e1f, hm1g⟩ := bdS (ifF hmr hc2)
  refine Eg z z hc2 z (fc call66 z<|W_w2t (B := B) e1f (lt_ hBw<|lt_ hq sb.s)<|hp.e sb) ?_
  rintro _ w2t ⟨s1h, a2u, n2v, c2w, rfl, h1i⟩
  exact Rh z hc2 (lnR d_59 z h1i)<|Rh z hc2 (rd_gtr z z)<|R z (pF z hc2 z)<|Wl (fun _ q => ⟨decide (20 < (r1e.length : Int)), som hm1g, (q.k<|s2 z z), (bup (bup s8 sb) s1h)⟩)
 rintro a1j w2x ⟨xg, rfl, hS2y, s6⟩
 revert a1j
 refine Wo<|Wc z (fun hch => ?_) (fun hch => ?_)
 ·refine Ws<|Ra z<|Wn ?_
  obtain rfl := som (ifT hmm hch)
  exact Wr<|ret1 hr z ⟨(bup h3 s6), z⟩
 refine Wk<|Ws<|R z (fd f_37_1 z)<|R z (fd f_35_0 z) ?_
 have ht := hf.e s6
 refine R z (l1 g_25 z fid<|ht.at z) ?_
 have hu := lt_ h3.s s6.s
 obtain ⟨r2z, r30, e1k, hm1l⟩ := bd2S (ifF hmm hch)
 refine E z (fc call68 z<|W_w09 (B := B) e1k (lt_ hBw hu)<|(p1_1.e h3).e s6) ?_
 rintro _ w9 ⟨sc, av, ns, cw, S31, rfl, h5, h32, h33, h34⟩
 refine Rm z<|R z (ext_ z z)<|R z (ext_ z z)<|Ra z<|Ra z<|Wn<|Wq<|Ws<|Ra z<|Wn ?_
 obtain ⟨u35, hu1m, hmx⟩ := bdS hm1l
 refine Wf (σ := Unit) (ρ := Bool) (fun (ki : Nat) (_ : Unit) a w => Sat 74 [(1, pt w0.z), (3, sl av ns cw), (5, (vI ((ki : Nat) : Int)))] a ∧ Below w9.z w9 w) (fun (_ : Unit) a w => Sat 74 [] a ∧ Below w9.z w9 w) (fun r ex a w => ex = .ret ∧ RetPost prog fn (Q11 w0 B r) a w) hu1m ?_ ?_ ?_ ?_ ?_
 ·exact fun _ q => ⟨(q.k<|s3 z z z), (br w9)⟩
 ·rintro ki _ a36 wy o37 hkz ⟨hS1n, sa⟩ hm1o
  refine Wu ?_ hS1n
  refine Wq<|Ws<|Rm z<|Rm z ?_
  have h10 := h5.e sa
  refine R z (lnR d_89 z<|or_ h10<|ownS.lt h5)<|R z (lss z z)<|Wn<|Wc z (fun _ => ?_) (fun hc => (nolt hkz hc).elim)
  refine Wk<|Wq<|Wb<|Wq ?_
  obtain ⟨u1p, hu1q, hm11⟩ := bdS hm1o
  refine Wt (fun a w => ∃ (xj : Bool), xj = u1p ∧ Sat 74 [(1, pt w0.z), (3, sl av ns cw), (5, (vI ((ki : Nat) : Int))), (73, vB xj)] a ∧ Below wy.z wy w) ?_ ?_
  ·refine Wd (X := noX) 0 (.rd 0 (.rd 1 (.rd 2 (.rd 3 (.rd 4 (.rd 5 (.rd 6 (.rd 7 (.rd 8 (.rd 9 (.rd 10 (.rd 11 (.rd 12 (.rd 13 (.rd 14 (.rd 15 (.rd 16 (.rd 17 (.rd 18 (.rd 19 (.rd 20 (.rd 21 (.rd 22 (.rd 23 (.rd 24 (.rd 25 (.rd 26 (.rd 27 (.rd 28 (.rd 29 (.rd 30 (.rd 31 (.rd 32 (.ef 33 (.rd 34 (.rd 35 (.rd 36 .done))))))))))))))))))))))))))))))))))))) mo (by kernel_rfl) fun w38 s7 _ => dR z z (mv z)<|dR z z (mv z) ?_
   obtain ⟨x1r, e1s, hm12⟩ := bdS hu1q
   have hd := h10.e s7
   refine dRX z z (at_ (α := Record) d_89 z_76 z z z (or_ hd<|ownS.lt h5) e1s) ?_
   rintro _ ⟨b39, o3a, cs3b, rfl, h1t, h1u, h3c⟩
   obtain ⟨a3d, n3e, c3f, rfl, h3g, h3h, h3i, h3j⟩ := Record_open h1u
   refine dR z z (fd f_76_0 z)<|dR z z (l1 g_3 z fid<|h1t.at (j := 0) z)<|dR z z (eql z z)<|dR z z (mv z) ?_
   rcases bs (x1r.kind == 1) with hc1 | hc1
   ·refine dRg z z z hc1 z (mv z)<|dRg z z z hc1 z (mv z) ?_
    obtain ⟨x1v, e1w, hm13⟩ := bdS (ifT hm12 hc1)
    refine dRXg z z z hc1 z (at_ (α := Record) d_89 z_76 z z z (or_ hd<|ownS.lt h5) e1w) ?_
    rintro _ ⟨b3k, o3l, cs3m, rfl, h1x, h1y, h3n⟩
    obtain ⟨a3o, n3p, c3q, rfl, h3r, h3s, h3t, h3u⟩ := Record_open h1y
    refine dRg z z z hc1 z (fd f_76_2 z)<|dRg z z z hc1 z (l1 g_3 z fid<|h1x.at (j := 2) z)<|dRg z z z hc1 z (fd f_37_0 z)<|dRg z z z hc1 z (fd f_34_0 z) ?_
    have h14 := ((ht.e sc).e sa).e s7
    refine dRg z z z hc1 z (l1 g_32 z fid<|h14.at z) ?_
    have h15 := ((((p1_0.e h3).e s6).e sc).e sa).e s7
    refine dRg z z z hc1 z (lnR d_32 z h15)<|dRg z z z hc1 z (rd_geq z z)<|dRg z z z hc1 z (mv z) ?_
    rcases bs (decide ((x1.registry.versions.length : Int) ≤ x1v.version)) with hc0 | hc0
    ·iterate 15 refine dRn z z z hc0 z ?_
     exact dEn z z z hc0 z<|dRn z z z hc0 z<|dRg z z z hc1 z (pT z hc0 z)<|dR z z (pT z hc1 z)<|pD (fun _ q => ⟨true, som<|ifT hm13 hc0, (q.k<|s4 z z z z), s7⟩)
    refine dRg z z z hc0 z (fd f_37_0 z)<|dRg z z z hc0 z (fd f_34_0 z)<|dRg z z z hc0 z (l1 g_32 z fid<|h14.at z)<|dRg z z z hc0 z (mv z)<|dRg z z z hc0 z (mv z) ?_
    obtain ⟨x3v, e1z, hm20⟩ := bdS (ifF hm13 hc0)
    refine dRXg z z z hc0 z (at_ (α := Record) d_89 z_76 z z z (or_ hd<|ownS.lt h5) e1z) ?_
    rintro _ ⟨b3w, o3x, cs3y, rfl, h21, h22, h3z⟩
    obtain ⟨a40, n41, c42, rfl, h43, h44, h45, h46⟩ := Record_open h22
    refine dRg z z z hc0 z (fd f_76_2 z)<|dRg z z z hc0 z (l1 g_3 z fid<|h21.at (j := 2) z) ?_
    obtain ⟨x47, e23, hm24⟩ := bdS hm20
    refine dRXg z z z hc0 z (at_ (α := Desc) d_32 z_95 z z z h15 e23) ?_
    rintro _ ⟨b48, o49, cs4a, rfl, h25, h26, h4b⟩
    obtain ⟨a27, n28, c29, rfl, h2a⟩ := Desc_open h26
    refine dRg z z z hc0 z (lN (vs := [sl a27 n28 c29]) g_95 z_95 z z fid h25)<|dRg z z z hc0 z (mv z)<|dRg z z z hc0 z (mv z) ?_
    obtain ⟨x4c, e2b, hm2c⟩ := bdS hm24
    refine dRXg z z z hc0 z (at_ (α := Record) d_89 z_76 z z z (or_ hd<|ownS.lt h5) e2b) ?_
    rintro _ ⟨b4d, o4e, cs4f, rfl, h2d, h2e, h4g⟩
    obtain ⟨a4h, n4i, c4j, rfl, h4k, h4l, h4m, h2f⟩ := Record_open h2e
    refine dRg z z z hc0 z (fd f_76_3 z)<|dRg z z z hc0 z (l1 g_25 z fid<|h2d.at (j := 3) z) ?_
    obtain ⟨r2g, e2h, hm2i⟩ := bdS hm2c
    refine dEg z z z hc0 z (fc call69 z<|W_w2y (B := w9.z) e2h (lt_ sa.s s7.s) (repS.mono h2a<|lt_ hBw<|lt_ hu sc.s) h2f) (.inr fun _ _ h => chgB<|h.1) ?_
    rintro _ w4n ⟨s2j, rfl⟩
    exact dRg z z z hc0 z (not_ z)<|dRg z z z hc1 z (pF z hc0 z)<|dR z z (pT z hc1 z)<|pD (fun _ q => ⟨!r2g, som hm2i, (q.k<|s4 z z z z), (bup s7 s2j)⟩)
   iterate 11 refine dRn z z z hc1 z ?_
   iterate 15 refine dRu z z z z ?_
   exact dEu z z z z<|dRu z z z z<|dRn z z z hc1 z<|dR z z (pF z hc1 z)<|pD (fun _ q => ⟨false, som<|ifF hm12 hc1, (q.k<|s4 z z z z), s7⟩)
  rintro a2k w4o ⟨xj, rfl, hS4p, s16⟩
  revert a2k
  refine Wo<|Wc z (fun hck => ?_) (fun hck => ?_)
  ·exact Ws<|Ra z<|Wn<|Wr<|rtO<|qL (som<|ifT hm11 hck).symm<|ret1 hr z ⟨(bup (bup (bup (bup h3 s6) sc) sa) s16), z⟩
  exact Wk<|Wg<|Rm z<|R z (inc_ hkz (lt_ (ownS.len h5) LEN_le) z z)<|Ra z<|Wl (fun _ q => ⟨(), (som<|ifF hm11 hck).symm, ⟨(q.k<|s3 z z z), (bup sa s16)⟩⟩)
 ·rintro _ a4q w4r ⟨hS2l, s17⟩
  refine Wu ?_ hS2l
  refine Wq<|Ws<|Rm z<|Rm z<|R z (lnR d_89 z<|or_ (h5.e s17)<|ownS.lt h5)<|R z (lss z z)<|Wn<|Wc z (fun hc => (noltt hc).elim) (fun _ => ?_)
  exact We (fun a' ha' => ⟨rfl, ⟨(Sat.weaken ha' sn), s17⟩⟩)
 ·rintro _ a2m w4s rfl ⟨hS4t, s2n⟩
  have hm2o := elL hmx
  revert a2m
  refine Wo<|Ws<|Ra z<|Wn ?_
  obtain rfl := som hm2o
  exact Wr<|ret1 hr z ⟨(bup (bup (bup h3 s6) sc) s2n), z⟩
 rintro r4u ex4v a4w w4x rfl ⟨rfl, hq2p⟩
 have hm2q := elR hmx
 obtain rfl := som hm2q
 exact ⟨hq2p, z⟩
def Q20 (w0 : World) (B : Nat) (r : Archive × Bool) (v : Value) (w' : World) : Prop := Bw w0 w' ∧ un2 (fun r1 r2 => ∃ a1 n1 c1 S1 a2 n2 c2 S2, v = .tuple #[(.agg #[.slice a1 n1 c1, sl a2 n2 c2, vI r1.log.stored]), vB r2] ∧ ownS w' S1 (sl a1 n1 c1) r1.registry.versions ∧ ownS w' S2 (sl a2 n2 c2) r1.log.bytes ∧ inI r1.log.stored ∧ (S1 ++ S2).Nodup ∧ (∀ k ∈ (S1 ++ S2), w0.z ≤ k)) r
theorem W_w2z {x1 : Archive} {x2 : Str} {x3 : Int} {x4 : List UInt8} {res : Archive × Bool} (hm : M_spec_StoreFile n x1 x2 x3 x4 = some res) (hBw : B ≤ w0.z) (p1_0 : repS w0 B (sl A0 N0 C0) x1.registry.versions) (p1_1 : repS w0 B (sl A1 N1 C1) x1.log.bytes) (p1_2 : inI x1.log.stored) (p2_0 : x2.b.length ≤ LEN) (p3_0 : inI x3) (p4_0 : repS w0 B (sl AF NF CF) x4) : CallsR prog 23 [(.agg #[sl A0 N0 C0, sl A1 N1 C1, vI x1.log.stored]), Str.v x2, vI x3, sl AF NF CF] w0 (Q20 w0 B res) := by
 unfold M_spec_StoreFile at hm
 refine goF func23 z z (lb z) fun fn hr => Ws<|E z (fb z) ?_
 rintro _ wr ⟨rfl, h18⟩
 have hb := h18.below
 have hq : Blk wr w0.z [sl A0 N0 C0, sl A1 N1 C1, vI x1.log.stored] := h18.blk
 refine E z (fa zero_37) ?_
 rintro _ w29 ⟨rfl, h19⟩
 have hc := h19.below
 have h8 : Blk w29 wr.z [sl none 0 0, sl none 0 0, vI 0] := h19.blk
 refine Ra z<|Wn<|Ws ?_
 have h1a := hq.e hc
 refine R z (lN (vs := [sl A0 N0 C0, sl A1 N1 C1, vI x1.log.stored]) g_37 z_37 z z fid<|h1a.row 0 3 z) ?_
 have hw := (p1_0.e hb).e hc
 have h1b := (p1_1.e hb).e hc
 have hx := lt_ hb.s hc.s
 obtain ⟨r1c, e2a, hm2b⟩ := bdS hm
 refine E z (fc call47 z<|W_w0u (B := B) e2a (lt_ hBw hx) hw h1b p1_2) ?_
 rintro _ w1d ⟨s6, ak, nl, cm, S2c, a2d, n2e, c2f, S3j, rfl, hd, h3k, h3l, h2g, h1e⟩
 refine E z (fa zero_37) ?_
 rintro _ w2h ⟨rfl, h1f⟩
 have h4 := h1f.below
 have ht : Blk w2h w1d.z [sl none 0 0, sl none 0 0, vI 0] := h1f.blk
 refine E0 (fs (cur' := [sl ak nl cm, sl a2d n2e c2f, vI r1c.log.stored]) z_37 z z ht z (lb z) (oA z) z) ?_
 rintro _ w3m ⟨h2i, s2j⟩
 have h1 := s2j.one
 refine Wn<|Ws<|R z (fd f_37_1 z) ?_
 have hy := lt_ hc.s s6.s
 have hz := mm1 hq.lt hy
 have h10 := ((h1a.e s6).e h4).c h1<|djs hz
 refine R z (lN (vs := [sl A1 N1 C1, vI x1.log.stored]) g_35 z_35 z z fid<|h10.row 1 2 z)<|Rm z<|Rm z<|Rm z<|R z (bP (parts := [(0, (.const (.int .i64 1))), (1, (.tmp 18)), (2, (.tmp 19)), (3, (.tmp 20))]) (cs := [vI 1, Str.v x2, vI x3, sl AF NF CF]) build_76 z z) ?_
 have hu := lt_ hx s6.s
 have he := m1<|lt_ hBw hu
 have h11 := ((h1b.e s6).e h4).c h1<|lg he
 have hn := lt_ (lt_ hu h4.s) h1.s
 obtain ⟨rf, r2k, e2l, hm2m⟩ := bd2S hm2b
 refine E z (fc call55 z<|W_w2l (B := B) (x1 := (⟨x1.log.bytes, x1.log.stored⟩ : Log)) (x2 := (⟨1, x2, x3, x4⟩ : Record)) e2l (lt_ hBw hn) h11 p1_2 (ii z) p2_0 p3_0<|((((p4_0.e hb).e hc).e s6).e h4).c h1<|lg he) ?_
 rintro _ w1g ⟨s0, ag, nh, ci, S2n, rfl, ho, h1h, h2o, hp⟩
 refine Rm z<|R z (ext_ z z)<|R z (ext_ z z)<|E z (fa zero_35) ?_
 rintro _ w2p ⟨rfl, h1i⟩
 have h2 := h1i.below
 have h2q : Blk w2p w1g.z [sl none 0 0, vI 0] := h1i.blk
 refine E0 (fs (cur' := [sl ag nh ci, vI rf.stored]) z_35 z z h2q z (lb z) (oA z) z) ?_
 rintro _ w3n ⟨h2r, s2s⟩
 have h3 := s2s.one
 refine Ra z<|Wn<|Ws<|R z (lN (vs := [sl ag nh ci, vI rf.stored]) g_35 z_35 z z fid<|h2r.row 0 2 z)<|R z (fd f_37_1 z)<|E0 (fs (cur' := [sl ak nl cm, sl ag nh ci, vI rf.stored]) z_35 z z (((h2i.e s0).e h2).c h3<|djs<|mm1 ht.lt<|lt_ h1.s s0.s) z (lb z) (oA z) z) ?_
 rintro _ w1j ⟨h1k, s2t⟩
 have h5 := s2t.one
 refine Wn<|Wq<|Wq ?_
 obtain ⟨u2u, hu2v, hm1l⟩ := bdS hm2m
 refine Wt (fun a w => ∃ (xs : Bool), xs = u2u ∧ Sat 42 [(4, pt w0.z), (8, pt wr.z), (10, pt w1d.z), (38, vB xs)] a ∧ Below w1j.z w1j w) ?_ ?_
 ·refine Wg<|R z (lN (vs := [sl A0 N0 C0, sl A1 N1 C1, vI x1.log.stored]) g_37 z_37 z z fid<|((((h10.e s0).e h2).c h3<|djs<|mm1 hq.lt<|lt_ (lt_ (lt_ hy h4.s) h1.s) s0.s).c h5<|djs hz).row 0 3 z) ?_
  have h1m := lt_ hn s0.s
  have h1n := m1<|lt_ hBw h1m
  obtain ⟨r2w, e2x, hm1o⟩ := bdS hu2v
  refine E z (fc call35 z<|W_w19 (B := B) e2x (lt_ hBw<|lt_ (lt_ (lt_ h1m h2.s) h3.s) h5.s) (((((((hw.e s6).e h4).c h1<|lg he).e s0).e h2).c h3<|lg h1n).c h5<|lg he) ((((h11.e s0).e h2).c h3<|lg h1n).c h5<|lg he) p1_2) ?_
  rintro _ w3o ⟨sj, rfl⟩
  refine R z (not_ z)<|Rm z ?_
  rcases bs (!r2w) with hc9 | hc9
  ·exact Nh z hc9<|Nh z hc9<|R z (pT z hc9 z)<|Rm z<|Nh z z<|Nh z z<|Nh z z<|R z (pT z z z)<|Wl (fun _ q => ⟨true, som<|ifT hm1o hc9, (q.k<|s4 z z z z), sj⟩)
  have hm1p := ifF hm1o hc9
  refine Rh z hc9 (mv z)<|Rh z hc9 (not_ z)<|R z (pF z hc9 z)<|Rm z ?_
  rcases bs (!r2k) with hca | hca
  ·iterate 3 refine Nh z hca ?_
   exact R z (pT z hca z)<|Wl (fun _ q => ⟨true, som<|ifT hm1p hca, (q.k<|s4 z z z z), sj⟩)
  refine Rh z hca (lN (vs := [sl ak nl cm, sl ag nh ci, vI rf.stored]) g_37 z_37 z z fid<|(h1k.e sj).row 0 3 z) ?_
  have h1q := mnr<|ownS.lt hd
  have h1r := lt_ (lt_ h4.s h1.s) s0.s
  obtain ⟨r2y, e2z, hm30⟩ := bdS (ifF hm1p hca)
  refine Eg z z hca z (fc call35 z<|W_w19 (B := w1g.z) (x1 := (⟨(⟨r1c.registry.versions⟩ : Registry), (⟨rf.bytes, rf.stored⟩ : Log)⟩ : Archive)) e2z (lt_ (lt_ (lt_ h2.s h3.s) h5.s) sj.s) (repS.mono (or_ (((((((hd.e h4).c h1<|ds h1q).e s0).e h2).c h3<|ds<|mno (ownS.lt hd) h1r).c h5<|ds h1q).e sj)<|ownS.lt hd) h1r) (or_ ((((ho.e h2).c h3<|ds<|mnr<|ownS.lt ho).c h5<|o0n1 hp ht.lt h1.s).e sj)<|ownS.lt ho) h1h) ?_
  rintro _ w3p ⟨s31, rfl⟩
  exact Rh z hca (not_ z)<|R z (pF z hca z)<|Wl (fun _ q => ⟨!r2y, som hm30, (q.k<|s4 z z z z), (bup sj s31)⟩)
 rintro a32 w3q ⟨xs, rfl, hS3r, s7⟩
 revert a32
 refine Wo<|Wc z (fun hc12 => ?_) (fun hc12 => ?_)
 ·refine Ws ?_
  have h33 := ((((h10.e s0).e h2).c h3<|djs<|mm1 hq.lt<|lt_ (lt_ (lt_ hy h4.s) h1.s) s0.s).c h5<|djs hz).e s7
  refine R z (lN (vs := [sl A0 N0 C0, sl A1 N1 C1, vI x1.log.stored]) g_37 z_37 z z fid<|h33.row 0 3 z) ?_
  have h13 := lt_ hn s0.s
  have h1s := m1<|lt_ hBw h13
  have h14 := lt_ (lt_ (lt_ (lt_ h13 h2.s) h3.s) h5.s) s7.s
  obtain ⟨r34, e35, hm36⟩ := bdS (ifT hm1l hc12)
  refine E z (fc call47 z<|W_w0u (B := B) e35 (lt_ hBw h14) ((((((((hw.e s6).e h4).c h1<|lg he).e s0).e h2).c h3<|lg h1s).c h5<|lg he).e s7) (((((h11.e s0).e h2).c h3<|lg h1s).c h5<|lg he).e s7) p1_2) ?_
  rintro _ w3s ⟨s1t, a1u, n1v, c1w, S37, a1x, n1y, c1z, S38, rfl, h39, h3a, h3b, h15, hv⟩
  have h20 := mm1 h8.lt s6.s
  have h21 := lt_ (lt_ (lt_ s6.s h4.s) h1.s) s0.s
  have h3c := ((((((h8.e s6).e h4).c h1<|djs h20).e s0).e h2).c h3<|djs<|mm1 h8.lt h21).c h5<|djs h20
  refine E0 (fs (cur' := [sl a1u n1v c1w, sl a1x n1y c1z, vI r34.log.stored]) z_37 z z ((h3c.e s7).e s1t) z (lb z) (oA z) z) ?_
  rintro _ w3t ⟨h3d, s3e⟩
  have h16 := s3e.one
  refine Ra z<|Wn ?_
  obtain rfl := som hm36
  have h22 := lt_ (lt_ (lt_ (lt_ h21 h2.s) h3.s) h5.s) s7.s
  have h23 := m1 hu
  exact Wr<|ret2 hr (resC g_37 z_37 z h3d z) z ⟨(bM (bup (bup (bM (bM (bup (bup (bM (bup (bup (bup hb hc) s6) h4) h1 h23) s0) h2) h3<|m1 h13) h5 h23) s7) s1t) h16<|m1 hb.s), a1u, n1v, c1w, S37, a1x, n1y, c1z, S38, z, (h39.c h16<|o0n1 (al_ hv) h8.lt h22), (h3a.c h16<|o0n1 (ar_ hv) h8.lt h22), h3b, (na_ (nl_ h15) (nr_ h15)<|nj h15), (aa_ (o0le (al_ hv) h14)<|o0le (ar_ hv) h14)⟩
 refine Wk<|Ws<|R z (lN (vs := [sl ak nl cm, sl ag nh ci, vI rf.stored]) g_37 z_37 z z fid<|(h1k.e s7).row 0 3 z) ?_
 have h24 := mm1 h8.lt s6.s
 have h25 := lt_ (lt_ s6.s h4.s) h1.s
 have h3f := ((((((h8.e s6).e h4).c h1<|djs h24).e s0).e h2).c h3<|djs<|mm1 h8.lt<|lt_ h25 s0.s).c h5<|djs h24
 refine E0 (fs (cur' := [sl ak nl cm, sl ag nh ci, vI rf.stored]) z_37 z z (h3f.e s7) z (lb z) (oA z) z) ?_
 rintro _ w3u ⟨h3g, s3h⟩
 have h17 := s3h.one
 refine Ra z<|Wn ?_
 obtain rfl := som (ifF hm1l hc12)
 have h26 := mnr<|ownS.lt hd
 have h27 := lt_ h4.s h1.s
 have h3i := (((((((hd.e h4).c h1<|ds h26).e s0).e h2).c h3<|ds<|mno (ownS.lt hd)<|lt_ h27 s0.s).c h5<|ds h26).e s7).c h17<|o0n1 (al_ h1e) h8.lt lr
 have h28 := m1 hu
 exact Wr<|ret2 hr (resC g_37 z_37 z h3g z) z ⟨(bM (bup (bM (bM (bup (bup (bM (bup (bup (bup hb hc) s6) h4) h1 h28) s0) h2) h3<|m1<|lt_ hn s0.s) h5 h28) s7) h17<|m1 hb.s), ak, nl, cm, S2c, ag, nh, ci, S2n, z, h3i, (((((ho.e h2).c h3<|ds<|mnr<|ownS.lt ho).c h5<|o0n1 hp ht.lt h1.s).e s7).c h17<|o0n1 hp h8.lt h25), h1h, (na_ (nl_ h2g) h2o<|ds<|o0no hp (ownS.lt hd) h27), (aa_ (o0le (al_ h1e) hx)<|o0le hp hn)⟩
theorem W_w30 {x1 : Rule} {res : Rule} (hm : M_impl_copyRule x1 = some res) (hBw : B ≤ w0.z) (p1_0 : x1.name.b.length ≤ LEN) (p1_1 : inI x1.kind) (p1_2 : inI x1.size) (p1_4 : repS w0 B (sl AB NB CB) x1.bytes) (p1_5 : repS w0 B (sl A7 N7 C7) x1.names) (p1_6 : repS w0 B (sl AA NA CA) x1.tags) (p1_7 : repS w0 B (sl A8 N8 C8) x1.kids) : CallsR prog 134 [(.agg #[Str.v x1.name, vI x1.kind, vI x1.size, vB x1.little, sl AB NB CB, sl A7 N7 C7, sl AA NA CA, sl A8 N8 C8])] w0 (Q4 w0 B res) := by
 unfold M_impl_copyRule at hm
 refine goF func134 z z (lb z) fun fn hr => Ws<|E z (fb z) ?_
 rintro _ wi ⟨rfl, h1d⟩
 have hd := h1d.below
 have h8 : Blk wi w0.z (vR x1 AB NB CB A7 N7 C7 AA NA CA A8 N8 C8) := h1d.blk
 refine E z (fa zero_144) ?_
 rintro _ w2o ⟨rfl, h1e⟩
 have ha := h1e.below
 have hb : Blk w2o wi.z [(Str.v (⟨[]⟩ : Str)), vI 0, vI 0, vB false, sl none 0 0, sl none 0 0, sl none 0 0, sl none 0 0] := h1e.blk
 refine Wn<|Ws<|E z (f0 (α := UInt8) el_25) ?_
 rintro _ w3p ⟨a3q, n3r, c3s, rfl, s4, h2p⟩
 refine R z (fd f_144_4 z) ?_
 have h1f := (h8.e ha).e s4
 refine R z (l1 g_25 z fid<|h1f.at z) ?_
 obtain ⟨x3t, e2q, hm2r⟩ := bdS hm
 refine E z (fN (α := UInt8) el_25 e2q z z h2p nd_one<|((p1_4.e hd).e ha).e s4) ?_
 rintro _ w3u ⟨S12, ae, nf, cg, rfl, sc, hh, h2s, h13⟩
 refine R z (fd f_144_4 z) ?_
 have h1g := mm1 h8.lt ha.s
 refine E0 (fs (cur' := (vR x1 ae nf cg A7 N7 C7 AA NA CA A8 N8 C8)) z_25 z z (h1f.c sc<|djs h1g) z (lb z) (oA z) z) ?_
 rintro _ w3v ⟨h2t, s2u⟩
 have h5 := s2u.one
 refine Wn<|Ws<|E z (f0 (α := Str) el_41) ?_
 rintro _ w3w ⟨a3x, n3y, c3z, rfl, s6, h2v⟩
 refine R z (fd f_144_5 z) ?_
 have h1h := h2t.e s6
 refine R z (l1 g_41 z fid<|h1h.at z) ?_
 obtain ⟨x40, e2w, hm2x⟩ := bdS hm2r
 have h14 := lt_ hd.s ha.s
 have h15 := m1<|lt_ hBw h14
 have hj := m1 hBw
 refine E z (fN (α := Str) el_41 e2w z z h2v nd_one<|(((((p1_5.e hd).e ha).e s4).c sc<|lg h15).c h5<|lg hj).e s6) ?_
 rintro _ w41 ⟨S16, ak, nl, cm, rfl, s9, hq, h2y, hw⟩
 refine R z (fd f_144_5 z) ?_
 have h1i := lt_ ha.s s4.s
 have h1j := lt_ (lt_ h1i sc.s) h5.s
 have h1k := mm1 h8.lt h1j
 refine E0 (fs (cur' := (vR x1 ae nf cg ak nl cm AA NA CA A8 N8 C8)) z_41 z z (h1h.c s9<|djs h1k) z (lb z) (oA z) z) ?_
 rintro _ w42 ⟨h2z, s30⟩
 have h2 := s30.one
 refine Wn<|Ws<|E z (f0 (α := Int) el_142) ?_
 rintro _ w43 ⟨a44, n45, c46, rfl, s3, h31⟩
 refine R z (fd f_144_6 z) ?_
 have h1l := h2z.e s3
 refine R z (l1 g_142 z fid<|h1l.at z) ?_
 obtain ⟨x47, e32, hm33⟩ := bdS hm2x
 have h1m := lt_ h14 s4.s
 have h17 := lt_ (lt_ h1m sc.s) h5.s
 have h1n := m1<|lt_ hBw h17
 refine E z (fN (α := Int) el_142 e32 z z h31 nd_one<|((((((((p1_6.e hd).e ha).e s4).c sc<|lg h15).c h5<|lg hj).e s6).c s9<|lg h1n).c h2<|lg hj).e s3) ?_
 rintro _ w48 ⟨S18, ar, ns, ct, rfl, s7, h19, h34, hu⟩
 refine R z (fd f_144_6 z) ?_
 have h1o := lt_ h1j s6.s
 have h1p := lt_ (lt_ h1o s9.s) h2.s
 have h1q := mm1 h8.lt h1p
 refine E0 (fs (cur' := (vR x1 ae nf cg ak nl cm ar ns ct A8 N8 C8)) z_142 z z (h1l.c s7<|djs h1q) z (lb z) (oA z) z) ?_
 rintro _ w49 ⟨h35, s36⟩
 have h0 := s36.one
 refine Wn<|Ws<|E z (f0 (α := Int) el_142) ?_
 rintro _ w4a ⟨a4b, n4c, c4d, rfl, s1, h37⟩
 refine R z (fd f_144_7 z) ?_
 have h1r := h35.e s1
 refine R z (l1 g_142 z fid<|h1r.at z) ?_
 obtain ⟨x4e, e38, hm39⟩ := bdS hm33
 have h1s := lt_ h17 s6.s
 have h1a := lt_ (lt_ h1s s9.s) h2.s
 have h3a := ((((((((((p1_7.e hd).e ha).e s4).c sc<|lg h15).c h5<|lg hj).e s6).c s9<|lg h1n).c h2<|lg hj).e s3).c s7<|lg<|m1<|lt_ hBw h1a).c h0<|lg hj
 refine E z (fN (α := Int) el_142 e38 z z h37 nd_one<|h3a.e s1) ?_
 rintro _ w4f ⟨S1b, ax, ny, cz, rfl, sn, h3b, h3c, ho⟩
 refine R z (fd f_144_7 z) ?_
 have h1t := lt_ h1p s3.s
 have h1u := lt_ (lt_ h1t s7.s) h0.s
 have h1v := mm1 h8.lt h1u
 refine E0 (fs (cur' := (vR x1 ae nf cg ak nl cm ar ns ct ax ny cz)) z_142 z z (h1r.c sn<|djs h1v) z (lb z) (oA z) z) ?_
 rintro _ w4g ⟨h3d, s3e⟩
 have hp := s3e.one
 refine Wn<|Ws<|R z (lN (vs := (vR x1 ae nf cg ak nl cm ar ns ct ax ny cz)) g_144 z_144 z z fid<|h3d.row 0 8 z) ?_
 have h1w := mmr hb.lt
 have h10 := mmr h8.lt
 have h1x := lt_ (lt_ s4.s sc.s) h5.s
 have h1y := mm1 hb.lt h1x
 have h3f := (((((hb.e s4).c sc<|djs h1w).c h5<|atp h10).e s6).c s9<|djs h1y).c h2<|atp h10
 have h1z := lt_ h1x s6.s
 have h20 := lt_ (lt_ h1z s9.s) h2.s
 have h21 := mm1 hb.lt h20
 have h22 := lt_ h20 s3.s
 have h23 := lt_ (lt_ h22 s7.s) h0.s
 have h24 := mm1 hb.lt h23
 have h3g := (((((h3f.e s3).c s7<|djs h21).c h0<|atp h10).e s1).c sn<|djs h24).c hp<|atp h10
 refine E0 (fs (cur' := (vR x1 ae nf cg ak nl cm ar ns ct ax ny cz)) z_144 z z h3g z (lb z) (oA z) z) ?_
 rintro _ w4h ⟨h3h, s3i⟩
 have hv := s3i.one
 refine Wn ?_
 obtain rfl := som hm39
 have h11 : ∀ k ∈ S12, k ∉ [w0.z] := or1 h13 h1g (ltnot (mem1 h8.lt) h1i)
 have h25 := mno (ownS.lt hh) h5.s
 have h26 := lt_ h5.s s6.s
 have h27 := lt_ (lt_ h26 s9.s) h2.s
 have h28 := mno (ownS.lt hh) h27
 have h29 := lt_ h27 s3.s
 have h2a := lt_ (lt_ h29 s7.s) h0.s
 have h2b := mno (ownS.lt hh) h2a
 have h3j : ∀ k ∈ S12, k ∉ [wi.z] := or1 h13 h1w (ltnot (mem1 hb.lt) s4.s)
 have h1c : ∀ k ∈ S16, k ∉ [w0.z] := or1 hw h1k (ltnot (mem1 h8.lt) h1o)
 have h2c := mno (ownS.lt hq) h2.s
 have h2d := lt_ h2.s s3.s
 have h2e := lt_ (lt_ h2d s7.s) h0.s
 have h2f := mno (ownS.lt hq) h2e
 have h3k : ∀ k ∈ S16, k ∉ [wi.z] := or1 hw h1y (ltnot (mem1 hb.lt) h1z)
 have h2g : ∀ k ∈ S18, k ∉ [w0.z] := or1 hu h1q (ltnot (mem1 h8.lt) h1t)
 have h2h := mno (ownS.lt h19) h0.s
 have h3l : ∀ k ∈ S18, k ∉ [wi.z] := or1 hu h21 (ltnot (mem1 hb.lt) h22)
 have h3m : ∀ k ∈ S1b, k ∉ [w0.z] := or1 ho h1v (ltnot (mem1 h8.lt) (lt_ h1u s1.s))
 have h3n : ∀ k ∈ S1b, k ∉ [wi.z] := or1 ho h24 (ltnot (mem1 hb.lt) (lt_ h23 s1.s))
 have h2i := m1 h14
 have h2j := m1 h17
 have h2k := m1 h1a
 have h2l := lt_ h1a s3.s
 have h2m := lt_ (lt_ h2l s7.s) h0.s
 have h2n := m1 h2m
 have h3o := bM (bM (bup (bM (bM (bup (bM (bM (bup (bM (bM (bup (bup hd ha) s4) sc h2i) h5<|mem1 lr) s6) s9 h2j) h2<|mem1 lr) s3) s7 h2k) h0<|mem1 lr) s1) sn h2n) hp<|mem1 lr
 exact Wr<|ret1 hr (resC g_144 z_144 z h3h z) ⟨(bM h3o hv<|m1 hd.s), ae, nf, cg, S12, ak, nl, cm, S16, ar, ns, ct, S18, ax, ny, cz, S1b, z, p1_0, p1_1, p1_2, (((((((((((hh.c h5 h11).e s6).c s9<|ds h25).c h2 h11).e s3).c s7<|ds h28).c h0 h11).e s1).c sn<|ds h2b).c hp h11).c hv h3j), ((((((((hq.c h2 h1c).e s3).c s7<|ds h2c).c h0 h1c).e s1).c sn<|ds h2f).c hp h1c).c hv h3k), (((((h19.c h0 h2g).e s1).c sn<|ds h2h).c hp h2g).c hv h3l), ((h3b.c hp h3m).c hv h3n), (na_ h2s (na_ h2y (na_ h34 h3c<|ds<|o1no ho h2h (ownS.lt h19)<|lt_ h0.s s1.s)<|nmA (ds<|o1no hu h2c (ownS.lt hq) h2d)<|ds<|o1no ho h2f (ownS.lt hq)<|lt_ h2e s1.s)<|nmA (ds<|o1no hw h25 (ownS.lt hh) h26)<|nmA (ds<|o1no hu h28 (ownS.lt hh) h29)<|ds<|o1no ho h2b (ownS.lt hh)<|lt_ h2a s1.s), (aa_ (o1le h13 h2i h1m)<|aa_ (o1le hw h2j h1s)<|aa_ (o1le hu h2k h2l)<|o1le ho h2n<|lt_ h2m s1.s)⟩
theorem W_w31 {x1 : Desc} {res : Desc} (hm : M_impl_CopyDescription x1 = some res) (hBw : B ≤ w0.z) (p1_0 : repS w0 B (sl A0 N0 C0) x1.rules) : CallsR prog 110 [(.agg #[sl A0 N0 C0])] w0 (Q6 w0 B res) := by
 unfold M_impl_CopyDescription at hm
 refine goF func110 z z (lb z) fun fn hr => Ws<|E z (fb z) ?_
 rintro _ wl ⟨rfl, h1h⟩
 have hu := h1h.below
 have h1i : Blk wl w0.z [sl A0 N0 C0] := h1h.blk
 refine E z (fa zero_95) ?_
 rintro _ w1 ⟨rfl, h1j⟩
 have hn := h1j.below
 have hv : Blk w1 wl.z [sl none 0 0] := h1j.blk
 refine Wn<|Ws<|R z (fd f_95_0 z) ?_
 have h1k := h1i.e hn
 refine R z (l1 g_93 z fid<|h1k.at z) ?_
 have h1l := (p1_0.e hu).e hn
 refine R z (lnR d_93 z h1l) ?_
 obtain ⟨u4u, e2i, hm2j⟩ := bdS hm
 refine E z (ef_makeC (α := Rule) el_93 e2i z z) ?_
 rintro _ w3 ⟨ar, ns, cz, rfl, sc, h10⟩
 refine R z (bP (parts := [(0, (.tmp 9))]) (cs := [sl ar ns cz]) build_95 z z)<|E z (fa zero_95) ?_
 rintro _ w2k ⟨rfl, h1m⟩
 have hg := h1m.below
 have hh : Blk w2k w3.z [sl none 0 0] := h1m.blk
 refine E0 (fs (cur' := [sl ar ns cz]) z_95 z z hh z (lb z) (oA z) z) ?_
 rintro _ w2 ⟨h2l, s2m⟩
 have hb := s2m.one
 refine Wn<|Wq<|Ws<|R z (fd f_95_0 z)<|R z (l1 g_93 z fid<|(((h1k.e sc).e hg).c hb<|djs<|mm1 h1i.lt<|lt_ hn.s sc.s).at z) ?_
 have h11 := lt_ hu.s hn.s
 have hw := lt_ h11 sc.s
 have h1n := m1<|lt_ hBw hw
 have h1o := ((h1l.e sc).e hg).c hb<|lg h1n
 refine R z (lnR d_93 z h1o)<|Rm z<|Wn ?_
 obtain ⟨u4v, hu2n, hm1p⟩ := bdS hm2j
 refine Wf (σ := (List Rule)) (ρ := Desc) (fun (k1q : Nat) (xj : List Rule) a w => ∃ a4 n5 c6 S0, Sat 27 [(2, pt wl.z), (3, pt w3.z), (12, sl A0 N0 C0), (13, vI (x1.rules.length : Int)), (14, (vI ((k1q : Nat) : Int)))] a ∧ Chg (· ∈ ([w1.z] ++ [w3.z])) w2 w ∧ ownS w S0 (sl a4 n5 c6) xj ∧ S0.Nodup ∧ (∀ k ∈ S0, k ∈ [w1.z] ∨ w2.z ≤ k) ∧ Blk w w3.z [sl a4 n5 c6]) (fun (xj : List Rule) a w => ∃ a4 n5 c6 S0, Sat 27 [(2, pt wl.z), (3, pt w3.z)] a ∧ Chg (· ∈ ([w1.z] ++ [w3.z])) w2 w ∧ ownS w S0 (sl a4 n5 c6) xj ∧ S0.Nodup ∧ (∀ k ∈ S0, k ∈ [w1.z] ∨ w2.z ≤ k) ∧ Blk w w3.z [sl a4 n5 c6]) (fun r ex a w => ex = .ret ∧ RetPost prog fn (Q6 w0 B r) a w) hu2n ?_ ?_ ?_ ?_ ?_
 ·exact fun _ q => ⟨ar, ns, cz, [w1.z], (q.k<|s5 z z z z z), (cr ([w1.z] ++ [w3.z]) w2), ((h10.e hg).c hb<|ds<|mnr<|ownS.lt h10), nd_one, (io sr), h2l⟩
 ·rintro k1q xj a4w w12 o4x hk1r ⟨a4, n5, c6, S0, hS2o, sk, hd, ho, hi, hp⟩ hm2p
  refine Wu ?_ hS2o
  refine Ws<|R z (lss z z)<|Wn<|Wq<|Wc z (fun _ => ?_) (fun hc => (nolt hk1r hc).elim)
  refine Wk<|Wq<|Wb<|Ws ?_
  obtain ⟨x13, e2q, hm2r⟩ := bdS hm2p
  refine RX z (at_ (α := Rule) d_93 z_144 z z z (h1o.c sk<|nmA (lg<|m1<|lt_ hBw h11)<|lg h1n) e2q) ?_
  rintro _ ⟨b4y, o4z, cs50, rfl, h2s, h2t, h51⟩
  obtain ⟨a14, n15, c16, a17, n18, c19, a1a, n1b, c1c, a1d, n1e, c1f, rfl, h2u, h2v, h2w, h2x, h2y, h2z, h30⟩ := Rule_open h2t
  refine R z (lN (vs := (vR x13 a14 n15 c16 a17 n18 c19 a1a n1b c1c a1d n1e c1f)) g_144 z_144 z z fid h2s)<|E z (fa zero_144) ?_
  rintro _ w1s ⟨rfl, h1t⟩
  have h9 := h1t.below
  have h31 : Blk w1s w12.z [(Str.v (⟨[]⟩ : Str)), vI 0, vI 0, vB false, sl none 0 0, sl none 0 0, sl none 0 0, sl none 0 0] := h1t.blk
  refine E0 (fs (cur' := (vR x13 a14 n15 c16 a17 n18 c19 a1a n1b c1c a1d n1e c1f)) z_144 z z h31 z (lb z) (oA z) z) ?_
  rintro _ w32 ⟨h33, s34⟩
  have ha := s34.one
  refine Wn (Wd (X := noX) 160 (.rd 0 (.rd 1 (.rd 2 (.ef 3 (.ef 4 (.ef 5 (.rd 6 (.ef 7 .done)))))))) mo (by kernel_rfl) fun w35 s7 _ => dR z z (fd f_95_0 z) ?_)
  have h1u := lt_ hb.s sk.s
  have h1v := ((hp.e h9).c ha<|djs<|mm1 hh.lt h1u).e s7
  refine dR z z (l1 g_93 z fid<|h1v.at z)<|dR z z (lN (vs := (vR x13 a14 n15 c16 a17 n18 c19 a1a n1b c1c a1d n1e c1f)) g_144 z_144 z z fid<|(h33.e s7).row 0 8 z) ?_
  have h1w := lt_ (lt_ (lt_ hw hg.s) hb.s) sk.s
  have hx := m1<|lt_ hBw h1w
  obtain ⟨r1x, e36, hm37⟩ := bdS hm2r
  refine dE z z (fc call134 z<|W_w30 (B := B) e36 (lt_ hBw<|lt_ (lt_ (lt_ h1w h9.s) ha.s) s7.s) h2u h2v h2w (((h2x.e h9).c ha<|lg hx).e s7) (((h2y.e h9).c ha<|lg hx).e s7) (((h2z.e h9).c ha<|lg hx).e s7)<|((h30.e h9).c ha<|lg hx).e s7) (.inr fun _ _ h => chgB<|h.1) ?_
  rintro _ w1y ⟨sm, a38, n39, c3a, S1z, a3b, n3c, c3d, S20, a3e, n3f, c3g, S21, a3h, n3i, c3j, S22, rfl, h3k, h3l, h3m, h3n, h3o, h3p, h3q, he, h8⟩
  refine dE z z (fS [(.tmp 21)] el_93 z z z (szAll z) (lb z)<|lb z) (.inr fun _ _ h => chgB<|h.2.below) ?_
  rintro _ w23 ⟨rfl, h24⟩
  have hf := h24.below
  have h3r : Blk w23 w1y.z (vR r1x a38 n39 c3a a3b n3c c3d a3e n3f c3g a3h n3i c3j) := h24.blk
  obtain ⟨x3s, e3t, hm3u⟩ := bdS hm37
  have hy := lt_ (lt_ h9.s ha.s) s7.s
  refine dE z z (ef_pushN (α := Rule) el_93 e3t z z (((((hd.e h9).c ha<|ds<|mnr<|ownS.lt hd).e s7).e sm).e hf) ho h3r (Rule_mkO (x := r1x) (S1 := S1z) (S2 := S20) (S3 := S21) (S4 := S22) h3k h3l h3m (h3n.e hf) (h3o.e hf) (h3p.e hf)<|h3q.e hf) (aa_ (o0no (al_ h8) (ownS.lt hd) hy)<|aa_ (o0no (al_<|ar_ h8) (ownS.lt hd) hy)<|aa_ (o0no (al_<|ar_<|ar_ h8) (ownS.lt hd) hy)<|o0no (ar_<|ar_<|ar_ h8) (ownS.lt hd) hy)<|na_ (nl_ he) (na_ (nl_<|nr_ he) (na_ (nl_<|nr_<|nr_ he) (nr_<|nr_<|nr_ he)<|nj<|nr_<|nr_ he)<|nmA (nmL<|nj<|nr_ he)<|nmR<|nj<|nr_ he)<|nmA (nmL<|nj he)<|nmA (nmL<|nmR<|nj he)<|nmR<|nmR<|nj he) (.inl z) ?_
  rintro _ w3v ⟨S1g, a25, n26, c27, rfl, s28, h3w, h3x, h29⟩
  refine dR z z (fd f_95_0 z) ?_
  have h2a : ∀ k ∈ S0, k ∉ [w3.z] := or1 hi (ds (mnr (ownS.lt h10))) (ltnot (mem1 hh.lt) hb.s)
  refine dE0 z (fs (cur' := [sl a25 n26 c27]) z_93 z z (((h1v.e sm).e hf).c s28<|djs h2a) z (lb z) (oA z) z) (.inl z) ?_
  rintro _ w3y ⟨h3z, s40⟩
  have h2b := s40.one
  refine pD<|Wo<|Wg<|R z (inc_ hk1r (lt_ (repS.len p1_0) LEN_le) z z)<|Rm z<|Wl ?_
  have hq := lt_ (lt_ (lt_ h1u h9.s) ha.s) s7.s
  have h41 : ∀ k ∈ S1g, k ∉ [w3.z] := or2 h29 h2a (aa_ (o0n1 (al_ h8) hh.lt hq) (aa_ (o0n1 (al_ (ar_ h8)) hh.lt hq) (aa_ (o0n1 (al_ (ar_ (ar_ h8))) hh.lt hq) (o0n1 (ar_ (ar_ (ar_ h8))) hh.lt hq)))) (ltnot (mem1 hh.lt) (lt_ (lt_ hq sm.s) hf.s))
  have ht := lt_ (lt_ (lt_ sk.s h9.s) ha.s) s7.s
  have h42 : ∀ k ∈ S0, k ∈ [w1.z] ∨ w2.z ≤ k := or1 hi (io sr) (leor lr)
  have h43 : ∀ k ∈ S1z, k ∈ [w1.z] ∨ w2.z ≤ k := or0 (al_ h8)  (leor ht)
  have h44 : ∀ k ∈ S20, k ∈ [w1.z] ∨ w2.z ≤ k := or0 (al_ (ar_ h8))  (leor ht)
  have h45 : ∀ k ∈ S21, k ∈ [w1.z] ∨ w2.z ≤ k := or0 (al_ (ar_ (ar_ h8)))  (leor ht)
  have h46 : ∀ k ∈ S22, k ∈ [w1.z] ∨ w2.z ≤ k := or0 (ar_ (ar_ (ar_ h8)))  (leor ht)
  have h47 : ∀ k ∈ S1g, k ∈ [w1.z] ∨ w2.z ≤ k := or2 h29 h42 (aa_ h43 (aa_ h44 (aa_ h45 h46))) (leor (lt_ (lt_ ht sm.s) hf.s))
  have h48 : Chg (· ∈ ([w1.z] ++ [w3.z])) w2 w12 := cM (cr ([w1.z] ++ [w3.z]) w2) sk (aa_ (io (sub_l sr)) (io (sub_r sr)))
  have h49 : Chg (· ∈ ([w1.z] ++ [w3.z])) w2 w1s := cext h48 h9
  have h4a : ∀ k ∈ [w12.z], k ∈ ([w1.z] ++ [w3.z]) ∨ w2.z ≤ k := mor sk.s
  have h4b : Chg (· ∈ ([w1.z] ++ [w3.z])) w2 w32 := cM h49 ha h4a
  have h4c : Chg (· ∈ ([w1.z] ++ [w3.z])) w2 w35 := cext h4b s7
  have h4d : Chg (· ∈ ([w1.z] ++ [w3.z])) w2 w1y := cext h4c sm
  have h4e : Chg (· ∈ ([w1.z] ++ [w3.z])) w2 w23 := cext h4d hf
  have h4f : ∀ k ∈ S0, k ∈ ([w1.z] ++ [w3.z]) ∨ w2.z ≤ k := or1 hi (io (sub_l sr)) (leor lr)
  have h4g : Chg (· ∈ ([w1.z] ++ [w3.z])) w2 w3v := cM h4e s28 h4f
  have h4h : Chg (· ∈ ([w1.z] ++ [w3.z])) w2 w3y := cM h4g h2b (io (sub_r sr))
  exact fun _ q => ⟨x3s, (som hm3u).symm, ⟨a25, n26, c27, S1g, (q.k<|s5 z z z z z), h4h, (h3w.c h2b h41), h3x, h47, h3z⟩⟩
 ·rintro xj a52 w4i ⟨a4, n5, c6, S0, hS4j, s4k, hd, ho, hi, hp⟩
  refine Wu ?_ hS4j
  refine Ws<|R z (lss z z)<|Wn<|Wq<|Wc z (fun hc => (noltt hc).elim) (fun _ => ?_)
  have h4l : ∀ k ∈ S0, k ∈ [w1.z] ∨ w2.z ≤ k := or1 hi (io sr) (leor lr)
  have h4m : Chg (· ∈ ([w1.z] ++ [w3.z])) w2 w4i := cM (cr ([w1.z] ++ [w3.z]) w2) s4k (aa_ (io (sub_l sr)) (io (sub_r sr)))
  exact We (fun a' ha' => ⟨rfl, ⟨a4, n5, c6, S0, (Sat.weaken ha'<|s2 z z), h4m, hd, ho, h4l, hp⟩⟩)
 ·rintro xj a4n w53 rfl ⟨a4, n5, c6, S0, hS54, s2c, hd, ho, hi, hp⟩
  have hm4o := elL hm1p
  revert a4n
  refine Wo<|Ws<|R z (lN (vs := [sl a4 n5 c6]) g_95 z_95 z z fid<|hp.row 0 1 z) ?_
  have h2d := mm1 hv.lt sc.s
  have h2e := mmr hv.lt
  refine E0 (fs (cur' := [sl a4 n5 c6]) z_95 z z ((((hv.e sc).e hg).c hb<|djs h2d).c s2c<|atp<|nmA (ds h2e)<|ds h2d) z (lb z) (oA z) z) ?_
  rintro _ w55 ⟨h4p, s4q⟩
  have h2f := s4q.one
  refine Wn ?_
  obtain rfl := som hm4o
  have h4r : ∀ k ∈ S0, k ∉ [wl.z] := or1 hi h2e (ltnot (mem1 hv.lt) (lt_ (lt_ sc.s hg.s) hb.s))
  have h2g := m1 hw
  have h2h := m1 h11
  exact Wr<|ret1 hr (resC g_95 z_95 z h4p z) ⟨(bM (bM (bM (bup (bup (bup hu hn) sc) hg) hb h2g) s2c<|aa_ h2h h2g) h2f<|m1 hu.s), a4, n5, c6, S0, z, (hd.c h2f h4r), ho, (o1le hi h2h<|lt_ (lt_ hw hg.s) hb.s)⟩
 rintro r56 ex57 a58 w59 rfl ⟨rfl, hq4s⟩
 have hm4t := elR hm1p
 obtain rfl := som hm4t
 exact ⟨hq4s, z⟩
theorem W_w32 {x1 : Registry} {res : Registry} (hm : M_impl_copyRegistry x1 = some res) (hBw : B ≤ w0.z) (p1_0 : repS w0 B (sl A0 N0 C0) x1.versions) : CallsR prog 80 [(.agg #[sl A0 N0 C0])] w0 (Q8 w0 B res) := by
 unfold M_impl_copyRegistry at hm
 refine goF func80 z z (lb z) fun fn hr => Ws<|E z (fb z) ?_
 rintro _ wi ⟨rfl, h12⟩
 have ho := h12.below
 have h13 : Blk wi w0.z [sl A0 N0 C0] := h12.blk
 refine E z (fa zero_34) ?_
 rintro _ w1 ⟨rfl, h14⟩
 have hj := h14.below
 have hp : Blk w1 wi.z [sl none 0 0] := h14.blk
 refine Wn<|Ws<|R z (fd f_34_0 z) ?_
 have h15 := h13.e hj
 refine R z (l1 g_32 z fid<|h15.at z) ?_
 have h16 := (p1_0.e ho).e hj
 refine R z (lnR d_32 z h16)<|R z (add_ z z) ?_
 obtain ⟨u3r, e21, hm22⟩ := bdS hm
 refine E z (ef_makeC (α := Desc) el_32 e21 z z) ?_
 rintro _ w2 ⟨ar, ns, ct, rfl, s9, hu⟩
 refine R z (bP (parts := [(0, (.tmp 10))]) (cs := [sl ar ns ct]) build_34 z z)<|E z (fa zero_34) ?_
 rintro _ w23 ⟨rfl, h17⟩
 have ha := h17.below
 have hk : Blk w23 w2.z [sl none 0 0] := h17.blk
 refine E0 (fs (cur' := [sl ar ns ct]) z_34 z z hk z (lb z) (oA z) z) ?_
 rintro _ w3 ⟨h24, s25⟩
 have h7 := s25.one
 refine Wn<|Wq<|Ws<|R z (fd f_34_0 z)<|R z (l1 g_32 z fid<|(((h15.e s9).e ha).c h7<|djs<|mm1 h13.lt<|lt_ hj.s s9.s).at z) ?_
 have hv := lt_ ho.s hj.s
 have hq := lt_ hv s9.s
 have h18 := m1<|lt_ hBw hq
 have h19 := ((h16.e s9).e ha).c h7<|lg h18
 refine R z (lnR d_32 z h19)<|Rm z<|Wn ?_
 obtain ⟨u3s, hu26, hm1a⟩ := bdS hm22
 refine Wf (σ := (List Desc)) (ρ := Registry) (fun (k1b : Nat) (xc : List Desc) a w => ∃ a4 n5 c6 S0, Sat 28 [(2, pt wi.z), (3, pt w2.z), (13, sl A0 N0 C0), (14, vI (x1.versions.length : Int)), (15, (vI ((k1b : Nat) : Int)))] a ∧ Chg (· ∈ ([w1.z] ++ [w2.z])) w3 w ∧ ownS w S0 (sl a4 n5 c6) xc ∧ S0.Nodup ∧ (∀ k ∈ S0, k ∈ [w1.z] ∨ w3.z ≤ k) ∧ Blk w w2.z [sl a4 n5 c6]) (fun (xc : List Desc) a w => ∃ a4 n5 c6 S0, Sat 28 [(2, pt wi.z), (3, pt w2.z)] a ∧ Chg (· ∈ ([w1.z] ++ [w2.z])) w3 w ∧ ownS w S0 (sl a4 n5 c6) xc ∧ S0.Nodup ∧ (∀ k ∈ S0, k ∈ [w1.z] ∨ w3.z ≤ k) ∧ Blk w w2.z [sl a4 n5 c6]) (fun r ex a w => ex = .ret ∧ RetPost prog fn (Q8 w0 B r) a w) hu26 ?_ ?_ ?_ ?_ ?_
 ·exact fun _ q => ⟨ar, ns, ct, [w1.z], (q.k<|s5 z z z z z), (cr ([w1.z] ++ [w2.z]) w3), ((hu.e ha).c h7<|ds<|mnr<|ownS.lt hu), nd_one, (io sr), h24⟩
 ·rintro k1b xc a3t ww o3u hk1c ⟨a4, n5, c6, S0, hS27, sg, hf, hl, hb, hn⟩ hm28
  refine Wu ?_ hS27
  refine Ws<|R z (lss z z)<|Wn<|Wq<|Wc z (fun _ => ?_) (fun hc => (nolt hk1c hc).elim)
  refine Wk<|Wq<|Wb<|Ws ?_
  obtain ⟨x3v, e29, hm2a⟩ := bdS hm28
  refine RX z (at_ (α := Desc) d_32 z_95 z z z (h19.c sg<|nmA (lg<|m1<|lt_ hBw hv)<|lg h18) e29) ?_
  rintro _ ⟨b3w, o3x, cs3y, rfl, h2b, h2c, h3z⟩
  obtain ⟨ax, ny, cz, rfl, h2d⟩ := Desc_open h2c
  refine R z (lN (vs := [sl ax ny cz]) g_95 z_95 z z fid h2b)<|E z (fa zero_95) ?_
  rintro _ w1d ⟨rfl, h1e⟩
  have hd := h1e.below
  have h2e : Blk w1d ww.z [sl none 0 0] := h1e.blk
  refine E0 (fs (cur' := [sl ax ny cz]) z_95 z z h2e z (lb z) (oA z) z) ?_
  rintro _ w2f ⟨h2g, s2h⟩
  have he := s2h.one
  refine Wn (Wd (X := noX) 160 (.rd 0 (.rd 1 (.rd 2 (.ef 3 (.ef 4 (.ef 5 (.rd 6 (.ef 7 .done)))))))) mo (by kernel_rfl) fun w2i s8 _ => dR z z (fd f_34_0 z) ?_)
  have h1f := lt_ h7.s sg.s
  have h1g := ((hn.e hd).c he<|djs<|mm1 hk.lt h1f).e s8
  refine dR z z (l1 g_32 z fid<|h1g.at z)<|dR z z (lN (vs := [sl ax ny cz]) g_95 z_95 z z fid<|(h2g.e s8).row 0 1 z) ?_
  have h1h := lt_ (lt_ (lt_ hq ha.s) h7.s) sg.s
  obtain ⟨r2j, e2k, hm2l⟩ := bdS hm2a
  refine dE z z (fc call110 z<|W_w31 (B := B) e2k (lt_ hBw<|lt_ (lt_ (lt_ h1h hd.s) he.s) s8.s)<|((h2d.e hd).c he<|lg<|m1<|lt_ hBw h1h).e s8) (.inr fun _ _ h => chgB<|h.1) ?_
  rintro _ w1i ⟨sm, a2m, n2n, c2o, S1j, rfl, h2p, h2q, h10⟩
  refine dE z z (fS [(.tmp 22)] el_32 z z z (szAll z) (lb z)<|lb z) (.inr fun _ _ h => chgB<|h.2.below) ?_
  rintro _ w1k ⟨rfl, h1l⟩
  have hh := h1l.below
  have h2r : Blk w1k w1i.z [sl a2m n2n c2o] := h1l.blk
  obtain ⟨x2s, e2t, hm2u⟩ := bdS hm2l
  refine dE z z (ef_pushN (α := Desc) el_32 e2t z z (((((hf.e hd).c he<|ds<|mnr<|ownS.lt hf).e s8).e sm).e hh) hl h2r (Desc_mkO (x := r2j) (S1 := S1j)<|h2p.e hh) (o0no h10 (ownS.lt hf)<|lt_ (lt_ hd.s he.s) s8.s) h2q) (.inl z) ?_
  rintro _ w2v ⟨S11, a1m, n1n, c1o, rfl, s1p, h2w, h2x, h1q⟩
  refine dR z z (fd f_34_0 z) ?_
  have h1r : ∀ k ∈ S0, k ∉ [w2.z] := or1 hb (ds (mnr (ownS.lt hu))) (ltnot (mem1 hk.lt) h7.s)
  refine dE0 z (fs (cur' := [sl a1m n1n c1o]) z_32 z z (((h1g.e sm).e hh).c s1p<|djs h1r) z (lb z) (oA z) z) (.inl z) ?_
  rintro _ w2y ⟨h2z, s30⟩
  have h1s := s30.one
  refine pD<|Wo<|Wg<|R z (inc_ hk1c (lt_ (repS.len p1_0) LEN_le) z z)<|Rm z<|Wl ?_
  have h1t := lt_ (lt_ (lt_ h1f hd.s) he.s) s8.s
  have h31 : ∀ k ∈ S11, k ∉ [w2.z] := or2 h1q h1r (o0n1 h10 hk.lt h1t) (ltnot (mem1 hk.lt) (lt_ (lt_ h1t sm.s) hh.s))
  have h1u := lt_ (lt_ (lt_ sg.s hd.s) he.s) s8.s
  have h32 : ∀ k ∈ S0, k ∈ [w1.z] ∨ w3.z ≤ k := or1 hb (io sr) (leor lr)
  have h33 : ∀ k ∈ S1j, k ∈ [w1.z] ∨ w3.z ≤ k := or0 h10  (leor h1u)
  have h34 : ∀ k ∈ S11, k ∈ [w1.z] ∨ w3.z ≤ k := or2 h1q h32 h33 (leor (lt_ (lt_ h1u sm.s) hh.s))
  have h35 : Chg (· ∈ ([w1.z] ++ [w2.z])) w3 ww := cM (cr ([w1.z] ++ [w2.z]) w3) sg (aa_ (io (sub_l sr)) (io (sub_r sr)))
  have h36 : Chg (· ∈ ([w1.z] ++ [w2.z])) w3 w1d := cext h35 hd
  have h37 : ∀ k ∈ [ww.z], k ∈ ([w1.z] ++ [w2.z]) ∨ w3.z ≤ k := mor sg.s
  have h38 : Chg (· ∈ ([w1.z] ++ [w2.z])) w3 w2f := cM h36 he h37
  have h39 : Chg (· ∈ ([w1.z] ++ [w2.z])) w3 w2i := cext h38 s8
  have h3a : Chg (· ∈ ([w1.z] ++ [w2.z])) w3 w1i := cext h39 sm
  have h3b : Chg (· ∈ ([w1.z] ++ [w2.z])) w3 w1k := cext h3a hh
  have h3c : ∀ k ∈ S0, k ∈ ([w1.z] ++ [w2.z]) ∨ w3.z ≤ k := or1 hb (io (sub_l sr)) (leor lr)
  have h3d : Chg (· ∈ ([w1.z] ++ [w2.z])) w3 w2v := cM h3b s1p h3c
  have h3e : Chg (· ∈ ([w1.z] ++ [w2.z])) w3 w2y := cM h3d h1s (io (sub_r sr))
  exact fun _ q => ⟨x2s, (som hm2u).symm, ⟨a1m, n1n, c1o, S11, (q.k<|s5 z z z z z), h3e, (h2w.c h1s h31), h2x, h34, h2z⟩⟩
 ·rintro xc a40 w3f ⟨a4, n5, c6, S0, hS3g, s3h, hf, hl, hb, hn⟩
  refine Wu ?_ hS3g
  refine Ws<|R z (lss z z)<|Wn<|Wq<|Wc z (fun hc => (noltt hc).elim) (fun _ => ?_)
  have h3i : ∀ k ∈ S0, k ∈ [w1.z] ∨ w3.z ≤ k := or1 hb (io sr) (leor lr)
  have h3j : Chg (· ∈ ([w1.z] ++ [w2.z])) w3 w3f := cM (cr ([w1.z] ++ [w2.z]) w3) s3h (aa_ (io (sub_l sr)) (io (sub_r sr)))
  exact We (fun a' ha' => ⟨rfl, ⟨a4, n5, c6, S0, (Sat.weaken ha'<|s2 z z), h3j, hf, hl, h3i, hn⟩⟩)
 ·rintro xc a3k w41 rfl ⟨a4, n5, c6, S0, hS42, s1v, hf, hl, hb, hn⟩
  have hm3l := elL hm1a
  revert a3k
  refine Wo<|Ws<|R z (lN (vs := [sl a4 n5 c6]) g_34 z_34 z z fid<|hn.row 0 1 z) ?_
  have h1w := mm1 hp.lt s9.s
  have h1x := mmr hp.lt
  refine E0 (fs (cur' := [sl a4 n5 c6]) z_34 z z ((((hp.e s9).e ha).c h7<|djs h1w).c s1v<|atp<|nmA (ds h1x)<|ds h1w) z (lb z) (oA z) z) ?_
  rintro _ w43 ⟨h3m, s3n⟩
  have h1y := s3n.one
  refine Wn ?_
  obtain rfl := som hm3l
  have h3o : ∀ k ∈ S0, k ∉ [wi.z] := or1 hb h1x (ltnot (mem1 hp.lt) (lt_ (lt_ s9.s ha.s) h7.s))
  have h1z := m1 hq
  have h20 := m1 hv
  exact Wr<|ret1 hr (resC g_34 z_34 z h3m z) ⟨(bM (bM (bM (bup (bup (bup ho hj) s9) ha) h7 h1z) s1v<|aa_ h20 h1z) h1y<|m1 ho.s), a4, n5, c6, S0, z, (hf.c h1y h3o), hl, (o1le hb h20<|lt_ (lt_ hq ha.s) h7.s)⟩
 rintro r44 ex45 a46 w47 rfl ⟨rfl, hq3p⟩
 have hm3q := elR hm1a
 obtain rfl := som hm3q
 exact ⟨hq3p, z⟩
theorem W_w1a {x1 : Log} {res : Log} (hm : M_impl_copyLog x1 = some res) (hBw : B ≤ w0.z) (p1_0 : repS w0 B (sl A0 N0 C0) x1.bytes) (p1_1 : inI x1.stored) : CallsR prog 81 [(.agg #[sl A0 N0 C0, vI x1.stored])] w0 (Q9 w0 B res) := by
 unfold M_impl_copyLog at hm
 refine goF func81 z z (lb z) fun fn hr => Ws<|E z (fb z) ?_
 rintro _ w4 ⟨rfl, hb⟩
 have h3 := hb.below
 have h5 : Blk w4 w0.z [sl A0 N0 C0, vI x1.stored] := hb.blk
 refine E z (fa zero_35) ?_
 rintro _ w6 ⟨rfl, hc⟩
 have h1 := hc.below
 have h7 : Blk w6 w4.z [sl none 0 0, vI 0] := hc.blk
 refine Wn<|Wq (Wd (X := fun k => k ∈ ([] : List Nat) ∨ w6.z ≤ k) 128 (.rd 1 (.rd 2 (.rd 4 (.rd 5 (.ef 0 (.ef 3 (.rd 6 (.ef 7 .done)))))))) mo (by kernel_rfl) fun wk s0 _ => dR z z (fd f_35_0 z) ?_)
 have hd := (h5.e h1).e s0
 refine dR z z (l1 g_25 z (notNew nm0<|Nat.lt_of_lt_of_le h5.lt h1.s)<|hd.at z)<|dR z z (fd f_35_1 z)<|dR z z (l1 g_3 z (notNew nm0<|Nat.lt_of_lt_of_le h5.lt h1.s)<|hd.at z)<|dE z z (f0 (α := UInt8) el_25) (.inr fun _ _ h => chgB (by obtain ⟨_, _, _, _, h, _⟩ := h; exact h)) ?_
 rintro _ ws ⟨aw, nx, cy, rfl, s2, hn⟩
 obtain ⟨xz, em, hmo⟩ := bdS hm
 have hp : ∀ k ∈ [wk.z], k ∈ ([] : List Nat) ∨ w6.z ≤ k := mor s0.s
 refine dE z z (fN (α := UInt8) el_25 em z z hn nd_one<|(((p1_0.e h3).e h1).e s0).e s2) (.inr fun _ _ h => by obtain ⟨_, _, _, _, _, h, _⟩ := h; exact h.mono fun k _ hk => hp k hk) ?_
 rintro _ w10 ⟨Se, a8, n9, ca, rfl, sf, hq, ht, hg⟩
 refine dR z z (bP (parts := [(0, (.tmp 6)), (1, (.tmp 8))]) (cs := [sl a8 n9 ca, vI x1.stored]) build_35 z z) ?_
 have hh := mm1 h7.lt s0.s
 refine dE0 z (fs (cur' := [sl a8 n9 ca, vI x1.stored]) z_35 z z (((h7.e s0).e s2).c sf<|djs hh) z (lb z) (oA z) z) (.inl z) ?_
 rintro _ w11 ⟨hu, sr⟩
 have hi := sr.one
 refine pD<|Wo ?_
 obtain rfl := som hmo
 have hv : ∀ k ∈ Se, k ∉ [w4.z] := or1 hg hh (ltnot (mem1 h7.lt) (lt_ s0.s s2.s))
 have hj := lt_ (lt_ h3.s h1.s) s0.s
 have hl := m1 hj
 exact Wr<|ret1 hr (resC g_35 z_35 z hu z) ⟨(bM (bM (bup (bup (bup h3 h1) s0) s2) sf hl) hi<|m1 h3.s), a8, n9, ca, Se, z, (hq.c hi hv), p1_1, ht, (o1le hg hl<|lt_ hj s2.s)⟩
theorem W_w33 {x1 : Archive} {b1 o1 : Nat} {res : Archive} (hm : M_impl_Archive_clone x1 = some res) (hBw : B ≤ w0.z) (p1_0 : repS w0 B (sl A0 N0 C0) x1.registry.versions) (p1_1 : repS w0 B (sl A1 N1 C1) x1.log.bytes) (p1_2 : inI x1.log.stored) (hC1 : CellsAt w0 b1 o1 [sl A0 N0 C0, sl A1 N1 C1, vI x1.log.stored]) (hC1b : b1 < B) : CallsR prog 49 [(.pointer (some ⟨b1, o1, none⟩))] w0 (Q10 w0 B res) := by
 unfold M_impl_Archive_clone at hm
 refine goF func49 z z (lb z) fun fn hr => Ws<|E z (fa zero_37) ?_
 rintro _ wk ⟨rfl, he⟩
 have h1 := he.below
 have h3 : Blk wk w0.z [sl none 0 0, sl none 0 0, vI 0] := he.blk
 refine Wn<|Wq (Wd (X := noX) 2048 (.rd 0 (.rd 1 (.rd 2 (.rd 3 (.rd 5 (.rd 6 (.rd 7 (.rd 8 (.ef 4 (.ef 9 (.rd 10 (.ef 11 .done)))))))))))) mo (by kernel_rfl) fun wx s0 _ => dR z z (mv z)<|dR z z (rd_nil z)<|dR z z (fd f_37_0 z) ?_)
 have hf := (hC1.e h1).e s0
 refine dR z z (lN (vs := [sl A0 N0 C0]) g_34 z_34 z z fid<|hf.sub (j := 0) (n := 1) z)<|dR z z (mv z)<|dR z z (rd_nil z)<|dR z z (fd f_37_1 z)<|dR z z (lN (vs := [sl A1 N1 C1, vI x1.log.stored]) g_35 z_35 z z fid<|hf.sub (j := 1) (n := 2) z) ?_
 have h4 := lt_ h1.s s0.s
 obtain ⟨ry, el, hmm⟩ := bdS hm
 refine dE z z (fc call80 z<|W_w32 (B := B) (x1 := (⟨x1.registry.versions⟩ : Registry)) el (lt_ hBw h4)<|(p1_0.e h1).e s0) (.inr fun _ _ h => chgB<|h.1) ?_
 rintro _ wz ⟨s2, a5, n6, c7, Sn, rfl, hg, ho, hh⟩
 have hi := lt_ h4 s2.s
 obtain ⟨rj, ep, hmq⟩ := bdS hmm
 refine dE z z (fc call81 z<|W_w1a (B := B) (x1 := (⟨x1.log.bytes, x1.log.stored⟩ : Log)) ep (lt_ hBw hi) (((p1_1.e h1).e s0).e s2) p1_2) (.inr fun _ _ h => chgB<|h.1) ?_
 rintro _ w10 ⟨s8, a9, na, cb, Sr, rfl, ht, hu, hv, hc⟩
 refine dR z z (bP (parts := [(0, (.tmp 7)), (1, (.tmp 12))]) (cs := [sl a5 n6 c7, sl a9 na cb, vI rj.stored]) build_37 z z)<|dE0 z (fs (cur' := [sl a5 n6 c7, sl a9 na cb, vI rj.stored]) z_37 z z (((h3.e s0).e s2).e s8) z (lb z) (oA z) z) (.inl z) ?_
 rintro _ w11 ⟨hw, ss⟩
 have hd := ss.one
 refine pD<|Wo ?_
 obtain rfl := som hmq
 exact Wr<|ret1 hr (resC g_37 z_37 z hw z) ⟨(bM (bup (bup (bup h1 s0) s2) s8) hd<|mem1 lr), a5, n6, c7, Sn, a9, na, cb, Sr, z, ((hg.e s8).c hd<|o0n1 hh h3.lt s0.s), (ht.c hd<|o0n1 hc h3.lt<|lt_ s0.s s2.s), hu, (na_ ho hv<|ds<|o0no hc (ownS.lt hg) lr), (aa_ (o0le hh h4)<|o0le hc hi)⟩
theorem W_w0j {x1 : Str} {res : Bool} (hm : M_impl_IsName n x1 = some res) (hBw : B ≤ w0.z) (p1_0 : x1.b.length ≤ LEN) : CallsR prog 116 [Str.v x1] w0 (Q11 w0 B res) := by
 unfold M_impl_IsName at hm
 refine goF func116 z z (lb z) fun fn hr => Ws<|Ra z<|Wn<|Wq<|Wq ?_
 obtain ⟨u12, huo, hmp⟩ := bdS hm
 refine Wt (fun a w => ∃ (xg : Bool), xg = u12 ∧ Sat 43 [(0, Str.v x1), (14, vB xg)] a ∧ Below w0.z w0 w) ?_ ?_
 ·refine Wg<|Rm z<|R z (lnT d_9 z)<|R z (lss z z)<|Rm z ?_
  rcases bs (decide ((x1.b.length : Int) < 1)) with hc4 | hc4
  ·iterate 3 refine Nh z hc4 ?_
   exact R z (pT z hc4 z)<|Wl (fun _ q => ⟨true, som<|ifT huo hc4, (q.k<|s2 z z), (br w0)⟩)
  exact Rh z hc4 (mv z)<|Rh z hc4 (lnT d_9 z)<|Rh z hc4 (rd_gtr z z)<|R z (pF z hc4 z)<|Wl (fun _ q => ⟨decide (12 < (x1.b.length : Int)), som<|ifF huo hc4, (q.k<|s2 z z), (br w0)⟩)
 rintro a13 w1 ⟨xg, rfl, hS1u, s9⟩
 revert a13
 refine Wo<|Wc z (fun hch => ?_) (fun hch => ?_)
 ·refine Ws<|Ra z<|Wn ?_
  obtain rfl := som (ifT hmp hch)
  exact Wr<|ret1 hr z ⟨s9, z⟩
 refine Wk<|Wq<|Ws<|Rm z<|E z (ef_range d_9 z) ?_
 rintro _ w3 ⟨rfl, sq, h14⟩
 refine Wn ?_
 obtain ⟨u1v, hu15, hmr⟩ := bdS (ifF hmp hch)
 refine WC_iter (σ := Nat) (ρ := Bool) (fun (x0 : Nat) a w => Sat 43 [(16, pt w1.z)] a ∧ Chg (· ∈ [w1.z]) w3 w ∧ IterAt w w1.z x1 x0) (fun (x0 : Nat) a w => Sat 43 [] a ∧ Chg (· ∈ [w1.z]) w3 w ∧ IterAt w w1.z x1 x0) (fun r ex a w => ex = .ret ∧ RetPost prog fn (Q11 w0 B r) a w) hu15 ?_ ?_ ?_ ?_
 ·exact fun _ q => ⟨(q.k<|s1 z), (cr [w1.z] w3), h14⟩
 ·rintro x0 a1w ws o1x ⟨hS16, si, he⟩ hmt
  refine Wu ?_ hS16
  refine Ws ?_
  rcases bs (decide (x0 < x1.b.length)) with hca | hca
  ·refine E z (ef_nextT z he<|of_decide_eq_true hca) ?_
   rintro _ wb ⟨rfl, h17, su⟩
   refine R z (ext_ z z)<|Wn<|Wq<|Wc z (fun _ => ?_) (fun hc => (bcon z hc).elim)
   refine Wk<|Wb<|Ws<|R z (ext_ z z)<|R z (ext_ z z)<|Ra z<|Ra z<|Wn<|Wq ?_
   obtain ⟨u18, huv, hm19⟩ := bdS (ifT hmt hca)
   refine Wt (fun a w => ∃ (xc : Bool), xc = u18 ∧ Sat 43 [(3, vI (x0 : Int)), (4, (.int .i32<|(dec x1 x0).1)), (5, vB xc), (16, pt w1.z)] a ∧ Below wb.z wb w) ?_ ?_
   ·refine Wg<|Rm z<|R z (rd_geq z z)<|Rm z ?_
    rcases bs (decide (97 ≤ ((dec x1 x0).1))) with hc5 | hc5
    ·exact Rh z hc5 (mv z)<|Rh z hc5 (rd_leq z z)<|R z (pT z hc5 z)<|Ra z<|Wl (fun _ q => ⟨decide (((dec x1 x0).1) ≤ 122), som<|ifT huv hc5, (q.k<|s4 z z z z), (br wb)⟩)
    exact Nh z hc5<|Nh z hc5<|R z (pF z hc5 z)<|Ra z<|Wl (fun _ q => ⟨false, som<|ifF huv hc5, (q.k<|s4 z z z z), (br wb)⟩)
   rintro a1a wd ⟨xc, rfl, hS1y, sj⟩
   revert a1a
   refine Wo<|Wq ?_
   obtain ⟨u1b, huw, hm1c⟩ := bdS hm19
   refine Wt (fun a w => ∃ (xf : Bool), xf = u1b ∧ Sat 43 [(3, vI (x0 : Int)), (5, vB xc), (6, vB xf), (16, pt w1.z)] a ∧ Below wd.z wd w) ?_ ?_
   ·refine Wg<|Rm z<|R z (rd_geq z z)<|Rm z ?_
    rcases bs (decide (48 ≤ ((dec x1 x0).1))) with hc6 | hc6
    ·exact Rh z hc6 (mv z)<|Rh z hc6 (rd_leq z z)<|R z (pT z hc6 z)<|Ra z<|Wl (fun _ q => ⟨decide (((dec x1 x0).1) ≤ 57), som<|ifT huw hc6, (q.k<|s4 z z z z), (br wd)⟩)
    exact Nh z hc6<|Nh z hc6<|R z (pF z hc6 z)<|Ra z<|Wl (fun _ q => ⟨false, som<|ifF huw hc6, (q.k<|s4 z z z z), (br wd)⟩)
   rintro a1d w8 ⟨xf, rfl, hS1z, sk⟩
   revert a1d
   refine Wo<|Wq ?_
   obtain ⟨u1e, hux, hmy⟩ := bdS hm1c
   refine Wt (fun a w => ∃ (xl : Bool), xl = u1e ∧ Sat 43 [(16, pt w1.z), (42, vB xl)] a ∧ Below w8.z w8 w) ?_ ?_
   ·refine Wg<|Rm z<|R z (not_ z)<|Rm z ?_
    rcases bs (!xc) with hc2 | hc2
    ·have hmz := ifT hux hc2
     refine Rh z hc2 (mv z)<|Rh z hc2 (not_ z)<|Rh z hc2 (mv z) ?_
     rcases bs (!xf) with hc7 | hc7
     ·exact Nh z hc7<|Nh z hc7<|Rh z hc2 (pT z hc7 z)<|R z (pT z hc2 z)<|Wl (fun _ q => ⟨true, som<|ifT hmz hc7, (q.k<|s2 z z), (br w8)⟩)
     exact Rh z hc7 (mv z)<|Rh z hc7 (eql z z)<|Rh z hc2 (pF z hc7 z)<|R z (pT z hc2 z)<|Wl (fun _ q => ⟨(x0 : Int) == 0, som<|ifF hmz hc7, (q.k<|s2 z z), (br w8)⟩)
    iterate 3 refine Nh z hc2 ?_
    exact Nv z<|Nv z<|Nh z hc2<|R z (pF z hc2 z)<|Wl (fun _ q => ⟨false, som<|ifF hux hc2, (q.k<|s2 z z), (br w8)⟩)
   rintro a1f w1g ⟨xl, rfl, hS20, sm⟩
   revert a1f
   refine Wo<|Wc z (fun hcn => ?_) (fun hcn => ?_)
   ·refine Ws<|Ra z<|Wn ?_
    have h10 := m1 s9.s
    exact Wr<|rtO<|qL (som<|ifT hmy hcn).symm<|ret1 hr z ⟨(bup (bup (bup (bM (bM (bup s9 sq) si h10) su h10) sj) sk) sm), z⟩
   refine WC_skip ?_
   have h1h : Chg (· ∈ [w1.z]) w3 ws := cM (cr [w1.z] w3) si (io sr)
   have h1i : Chg (· ∈ [w1.z]) w3 wb := cM h1h su (io sr)
   have h1j : Chg (· ∈ [w1.z]) w3 wd := cext h1i sj
   have h1k : Chg (· ∈ [w1.z]) w3 w8 := cext h1j sk
   have h1l : Chg (· ∈ [w1.z]) w3 w1g := cext h1k sm
   exact fun _ q => ⟨x0 + (dec x1 x0).2, (som<|ifF hmy hcn).symm, ⟨(q.k<|s1 z), h1l, (((h17.e sj).e sk).e sm)⟩⟩
  refine E z (ef_nextF z he<|of_decide_eq_false hca) ?_
  rintro _ w1m ⟨rfl, s11⟩
  refine R z (ext_ z z)<|Wn<|Wq<|Wc z (fun hc => (bcon hc z).elim) (fun _ => ?_)
  have h1n : Chg (· ∈ [w1.z]) w3 ws := cM (cr [w1.z] w3) si (io sr)
  have h1o : Chg (· ∈ [w1.z]) w3 w1m := cext h1n s11
  exact We (fun a' ha' => QO_brk (som<|ifF hmt hca).symm ⟨(Sat.weaken ha' sn), h1o, (he.e s11)⟩)
 ·rintro x0 a1p w21 rfl ⟨hS22, s1q, he⟩
  have hm1r := elL hmr
  revert a1p
  refine Wo<|Ws<|Ra z<|Wn ?_
  obtain rfl := som hm1r
  exact Wr<|ret1 hr z ⟨(bM (bup s9 sq) s1q<|m1 s9.s), z⟩
 rintro r23 ex24 a25 w26 rfl ⟨rfl, hq1s⟩
 have hm1t := elR hmr
 obtain rfl := som hm1t
 exact ⟨hq1s, z⟩
theorem W_w03 {x1 : Int} {x2 : Int} {x3 : Int} {res : Bool} (hm : M_impl_InRange x1 x2 x3 = some res) (hBw : B ≤ w0.z) (p1_0 : inI x1) (p2_0 : inI x2) (p3_0 : inI x3) : CallsR prog 117 [vI x1, vI x2, vI x3] w0 (Q11 w0 B res) := by
 unfold M_impl_InRange at hm
 refine goF func117 z z (lb z) fun fn hr => Ws<|Ra z<|Wn<|Wq ?_
 obtain ⟨u2, hu1, hm3⟩ := bdS hm
 refine Wt (fun a w => ∃ (x4 : Bool), x4 = u2 ∧ Sat 15 [(6, vB x4)] a ∧ Below w0.z w0 w) ?_ ?_
 ·refine Wg<|Rm z<|Rm z<|R z (rd_leq z z)<|Rm z ?_
  rcases bs (decide (x2 ≤ x1)) with hc0 | hc0
  ·exact Rh z hc0 (mv z)<|Rh z hc0 (mv z)<|Rh z hc0 (rd_leq z z)<|R z (pT z hc0 z)<|Ra z<|Wl (fun _ q => ⟨decide (x1 ≤ x3), som<|ifT hu1 hc0, (q.k<|s1 z), (br w0)⟩)
  iterate 3 refine Nh z hc0 ?_
  exact R z (pF z hc0 z)<|Ra z<|Wl (fun _ q => ⟨false, som<|ifF hu1 hc0, (q.k<|s1 z), (br w0)⟩)
 rintro a5 w7 ⟨x4, rfl, hS8, s6⟩
 revert a5
 refine Wo ?_
 obtain rfl := som hm3
 exact Wr<|ret1 hr z ⟨s6, z⟩
theorem W_w0k {x1 : Record} {res : Bool} (hm : M_impl_IsValidRecord n x1 = some res) (hBw : B ≤ w0.z) (p1_0 : inI x1.kind) (p1_1 : x1.name.b.length ≤ LEN) (p1_2 : inI x1.version) (p1_3 : repS w0 B (sl AE NE CE) x1.data) : CallsR prog 89 [(.agg #[vI x1.kind, Str.v x1.name, vI x1.version, sl AE NE CE])] w0 (Q11 w0 B res) := by
 unfold M_impl_IsValidRecord at hm
 refine goF func89 z z (lb z) fun fn hr => Ws<|E z (fb z) ?_
 rintro _ wb ⟨rfl, hg⟩
 have h5 := hg.below
 have hc : Blk wb w0.z [vI x1.kind, Str.v x1.name, vI x1.version, sl AE NE CE] := hg.blk
 refine Ra z<|Wn<|Wq<|Wq ?_
 obtain ⟨uo, hup, hmh⟩ := bdS hm
 refine Wt (fun a w => ∃ (xd : Bool), xd = uo ∧ Sat 38 [(1, pt w0.z), (18, vB xd)] a ∧ Below wb.z wb w) ?_ ?_
 ·refine Wg<|R z (fd f_76_1 z)<|R z (l1 g_9 z fid<|hc.at z) ?_
  obtain ⟨rq, er, hmi⟩ := bdS hup
  refine E z (fc call116 z<|W_w0j (B := B) er (lt_ hBw h5.s) p1_1) ?_
  rintro _ wz ⟨s6, rfl⟩
  refine R z (not_ z)<|Rm z ?_
  rcases bs (!rq) with hc1 | hc1
  ·iterate 4 refine Nh z hc1 ?_
   exact R z (pT z hc1 z)<|Rm z<|Nh z z<|Nh z z<|Nh z z<|Nh z z<|R z (pT z z z)<|Wl (fun _ q => ⟨true, som<|ifT hmi hc1, (q.k<|s2 z z), s6⟩)
  refine Rh z hc1 (fd f_76_2 z) ?_
  have hj := hc.e s6
  refine Rh z hc1 (l1 g_3 z fid<|hj.at z) ?_
  obtain ⟨rs, et, hmk⟩ := bdS (ifF hmi hc1)
  refine Eg z z hc1 z (fc call117 z<|W_w03 (B := B) et (lt_ hBw<|lt_ h5.s s6.s) p1_2 (ii z)<|ii z) ?_
  rintro _ w10 ⟨s8, rfl⟩
  refine Rh z hc1 (not_ z)<|R z (pF z hc1 z)<|Rm z ?_
  rcases bs (!rs) with hc2 | hc2
  ·iterate 4 refine Nh z hc2 ?_
   exact R z (pT z hc2 z)<|Wl (fun _ q => ⟨true, som<|ifT hmk hc2, (q.k<|s2 z z), (bup s6 s8)⟩)
  exact Rh z hc2 (fd f_76_3 z)<|Rh z hc2 (l1 g_25 z fid<|(hj.e s8).at z)<|Rh z hc2 (lnR d_25 z<|((p1_3.e h5).e s6).e s8)<|Rh z hc2 (rd_gtr z z)<|R z (pF z hc2 z)<|Wl (fun _ q => ⟨decide (400 < (x1.data.length : Int)), som<|ifF hmk hc2, (q.k<|s2 z z), (bup s6 s8)⟩)
 rintro au w7 ⟨xd, rfl, hS11, s9⟩
 revert au
 refine Wo<|Wc z (fun hce => ?_) (fun hce => ?_)
 ·refine Ws<|Ra z<|Wn ?_
  obtain rfl := som (ifT hmh hce)
  exact Wr<|ret1 hr z ⟨(bup h5 s9), z⟩
 refine Wk<|Wq ?_
 obtain ⟨uv, hul, hmw⟩ := bdS (ifF hmh hce)
 refine Wt (fun a w => ∃ (xf : Bool), xf = uv ∧ Sat 38 [(2, vB xf)] a ∧ Below w7.z w7 w) ?_ ?_
 ·refine Wg<|R z (fd f_76_0 z) ?_
  have ha := hc.e s9
  refine R z (l1 g_3 z fid<|ha.at z)<|R z (eql z z)<|Rm z ?_
  rcases bs (x1.kind == 1) with hc0 | hc0
  ·iterate 4 refine Nh z hc0 ?_
   exact Nv z<|Nv z<|Nv z<|Nh z hc0<|Nh z hc0<|Nv z<|Nv z<|Nv z<|Nv z<|Nh z hc0<|R z (pT z hc0 z)<|Ra z<|Wl (fun _ q => ⟨true, som<|ifT hul hc0, (q.k<|s1 z), (br w7)⟩)
  have hmm := ifF hul hc0
  refine Rh z hc0 (fd f_76_0 z)<|Rh z hc0 (l1 g_3 z fid<|ha.at z)<|Rh z hc0 (eql z z)<|Rh z hc0 (mv z) ?_
  rcases bs (x1.kind == 2) with hc4 | hc4
  ·have hmn := ifT hmm hc4
   refine Rh z hc4 (fd f_76_2 z)<|Rh z hc4 (l1 g_3 z fid<|ha.at z)<|Rh z hc4 (eql z z)<|Rh z hc0 (pT z hc4 z)<|Rh z hc0 (mv z) ?_
   rcases bs (x1.version == 0) with hc3 | hc3
   ·exact Rh z hc3 (fd f_76_3 z)<|Rh z hc3 (l1 g_25 z fid<|ha.at z)<|Rh z hc3 (lnR d_25 z<|(p1_3.e h5).e s9)<|Rh z hc3 (eql z z)<|Rh z hc0 (pT z hc3 z)<|R z (pF z hc0 z)<|Ra z<|Wl (fun _ q => ⟨(x1.data.length : Int) == 0, som<|ifT hmn hc3, (q.k<|s1 z), (br w7)⟩)
   iterate 4 refine Nh z hc3 ?_
   exact Rh z hc0 (pF z hc3 z)<|R z (pF z hc0 z)<|Ra z<|Wl (fun _ q => ⟨false, som<|ifF hmn hc3, (q.k<|s1 z), (br w7)⟩)
  iterate 3 refine Nh z hc4 ?_
  exact Rh z hc0 (pF z hc4 z)<|Rh z hc0 (mv z)<|Nh z z<|Nh z z<|Nh z z<|Nh z z<|Rh z hc0 (pF z z z)<|R z (pF z hc0 z)<|Ra z<|Wl (fun _ q => ⟨false, som<|ifF hmm hc4, (q.k<|s1 z), (br w7)⟩)
 rintro ax w12 ⟨xf, rfl, hS13, sy⟩
 revert ax
 refine Wo ?_
 obtain rfl := som hmw
 exact Wr<|ret1 hr z ⟨(bup (bup h5 s9) sy), z⟩
theorem W_w34 {x1 : List UInt8} {res : (List UInt8) × Bool} (hm : M_impl_UnpackBytes n x1 = some res) (hBw : B ≤ w0.z) (p1_0 : repS w0 B (sl A0 N0 C0) x1) : CallsR prog 136 [sl A0 N0 C0] w0 (Q12 w0 B res) := by
 unfold M_impl_UnpackBytes at hm
 refine goF func136 z z (lb z) fun fn hr => Ws<|Ra z<|Ra z<|Wn<|Ws<|E z (f0 (α := UInt8) el_25) ?_
 rintro _ w3 ⟨a1u, n1v, c1w, rfl, s7, h1x⟩
 refine Ra z<|Wn<|Wq<|Ws<|Ra z<|Wn ?_
 obtain ⟨u4p, hu1y, hm18⟩ := bdS hm
 refine WC_iter (σ := (List UInt8) × Int) (ρ := (List UInt8) × Bool) (fun s a w => un2 (fun xk x4 => ∃ a5 n8 c9 S0, Sat 73 [(0, sl A0 N0 C0), (4, sl a5 n8 c9), (5, vI x4)] a ∧ Chg (· ∈ [w0.z]) w3 w ∧ ownS w S0 (sl a5 n8 c9) xk ∧ S0.Nodup ∧ (∀ k ∈ S0, k ∈ [w0.z] ∨ w3.z ≤ k) ∧ inI x4) s) (fun s a w => un2 (fun xk x4 => ∃ a5 n8 c9 S0, Sat 73 [(4, sl a5 n8 c9)] a ∧ Chg (· ∈ [w0.z]) w3 w ∧ ownS w S0 (sl a5 n8 c9) xk ∧ S0.Nodup ∧ (∀ k ∈ S0, k ∈ [w0.z] ∨ w3.z ≤ k) ∧ inI x4) s) (fun r ex a w => ex = .ret ∧ RetPost prog fn (Q12 w0 B r) a w) hu1y ?_ ?_ ?_ ?_
 ·exact fun _ q => ⟨a1u, n1v, c1w, [w0.z], (q.k<|s3 z z z), (cr [w0.z] w3), h1x, nd_one, (io sr), (ii z)⟩
 ·rintro ⟨xk, x4⟩ a4q wg o4r ⟨a5, n8, c9, S0, hS1z, sa, hl, hn, hi, h19⟩ hm20
  have hm1a := un2S hm20
  refine Wu ?_ hS1z
  refine Wq<|Ws<|Rm z<|Rm z ?_
  have h1b := m1 hBw
  have ho := (p1_0.e s7).c sa<|lg h1b
  refine R z (lnR d_25 z ho)<|R z (lss z z)<|Wn<|Wc z (fun hcx => ?_) (fun hcx => ?_)
  ·refine Wk<|Wb<|Ws<|Rm z<|Rm z ?_
   obtain ⟨xm, e21, hm22⟩ := bdS (ifT hm1a hcx)
   refine RX z (at_ (α := UInt8) d_25 z_5 z z z ho e21) ?_
   rintro _ ⟨b4s, o4t, cs4u, rfl, h23, h24, h4v⟩
   obtain rfl := u8 h24
   refine R z (l1 g_5 z fid<|h23.at0 z)<|R z (rd_convUI d_5 d_3 z)<|Ra z<|Wn<|Ws<|Rm z<|R z (add_ z z)<|Ra z<|Wn<|Wq<|Wb<|Wq ?_
   obtain ⟨u25, hu1c, hm1d⟩ := bdS hm22
   refine Wt (fun a w => ∃ (xy : Bool), xy = u25 ∧ Sat 73 [(0, sl A0 N0 C0), (4, sl a5 n8 c9), (5, vI<|iadd x4 1), (6, vI<|byteI xm), (33, vB xy)] a ∧ Below wg.z wg w) ?_ ?_
   ·refine Wg<|Rm z<|R z (eql z z)<|Rm z ?_
    rcases bs ((byteI xm) == 0) with hcf | hcf
    ·exact Nh z hcf<|Nh z hcf<|R z (pT z hcf z)<|Rm z<|Nh z z<|Nh z z<|Nh z z<|Nh z z<|R z (pT z z z)<|Ra z<|Wl (fun _ q => ⟨true, som<|ifT hu1c hcf, (q.k<|s5 z z z z z), (br wg)⟩)
    have hm1e := ifF hu1c hcf
    refine Rh z hcf (mv z)<|Rh z hcf (eql z z)<|R z (pF z hcf z)<|Rm z ?_
    rcases bs ((byteI xm) == 128) with hcb | hcb
    ·iterate 4 refine Nh z hcb ?_
     exact R z (pT z hcb z)<|Ra z<|Wl (fun _ q => ⟨true, som<|ifT hm1e hcb, (q.k<|s5 z z z z z), (br wg)⟩)
    exact Rh z hcb (mv z)<|Rh z hcb (mv z)<|Rh z hcb (lnR d_25 z ho)<|Rh z hcb (eql z z)<|R z (pF z hcb z)<|Ra z<|Wl (fun _ q => ⟨(iadd x4 1) == (x1.length : Int), som<|ifF hm1e hcb, (q.k<|s5 z z z z z), (br wg)⟩)
   rintro a26 w1 ⟨xy, rfl, hS4w, s6⟩
   revert a26
   refine Wo<|Wc z (fun hcz => ?_) (fun hcz => ?_)
   ·refine Ws<|E z (f0 (α := UInt8) el_25) ?_
    rintro _ w4x ⟨a27, n28, c29, rfl, s2a, h2b⟩
    exact Ra z<|Ra z<|Wn<|Wr<|rtO<|rtO<|qL (som<|ifT hm1d hcz).symm<|ret2 hr z z ⟨(bup (bup (bM s7 sa<|mem1 lr) s6) s2a), a27, n28, c29, [w1.z], z, h2b, nd_one, (m1<|lt_ (lt_ s7.s sa.s) s6.s)⟩
   refine Ws<|Rm z<|R z (lss z z)<|Ra z<|Wn ?_
   obtain ⟨u2c, hu1f, hm10⟩ := bdS (ifF hm1d hcz)
   refine Wt (fun a w => ∃ (xr : List UInt8) (xp : Int), Sum.inl (xr, xp) = u2c ∧ ∃ av ns cw Sj, Sat 73 [(0, sl A0 N0 C0), (4, sl av ns cw), (5, vI xp)] a ∧ Chg (· ∈ S0) w1 w ∧ ownS w Sj (sl av ns cw) xr ∧ Sj.Nodup ∧ (∀ k ∈ Sj, k ∈ S0 ∨ w1.z ≤ k) ∧ inI xp) ?_ ?_
   ·refine Wc z (fun hc11 => ?_) (fun hc11 => ?_)
    ·have hm1g := ifT hu1f hc11
     refine Wq<|Ws<|Rm z<|Rm z ?_
     have h1h := ho.e s6
     refine R z (lnR d_25 z h1h)<|Rm z<|R z (sb_ z z)<|R z (rd_gtr z z)<|Wn<|Wc z (fun hc12 => ?_) (fun hc12 => ?_)
     ·refine Ws<|E z (f0 (α := UInt8) el_25) ?_
      rintro _ w4y ⟨a2d, n2e, c2f, rfl, s2g, h2h⟩
      refine Ra z<|Ra z<|Wn ?_
      obtain rfl := som (ifT hm1g hc12)
      have hm2i := elR hm10
      exact Wr<|rtO<|rtO<|qL (som hm2i).symm<|ret2 hr z z ⟨(bup (bup (bM s7 sa<|mem1 lr) s6) s2g), a2d, n2e, c2f, [w1.z], z, h2h, nd_one, (m1<|lt_ (lt_ s7.s sa.s) s6.s)⟩
     refine Wk<|Ws<|Rm z<|Rm z<|Rm z<|Rm z<|Rm z<|R z (add_ z z) ?_
     obtain ⟨x4z, e2j, hm2k⟩ := bdS (ifF hm1g hc12)
     refine RX z (rX d_25 z_5 z z h1h z z e2j) ?_
     rintro _ ⟨a50, n51, c52, rfl, h2l⟩
     obtain ⟨x2m, e2n, hm2o⟩ := bdS hm2k
     refine E z (fN (α := UInt8) el_25 e2n z z (hl.e s6) hn h2l) ?_
     rintro _ w2p ⟨S1i, a2q, n2r, c2s, rfl, s2t, h2u, h2v, h2w⟩
     refine Ra z<|Wn<|Wg<|Rm z<|Rm z<|R z (add_ z z)<|Ra z<|Wl ?_
     have h2x : ∀ k ∈ S1i, k ∈ S0 ∨ w1.z ≤ k := or1 h2w (io sr) (leor lr)
     have h2y : Chg (· ∈ S0) w1 w2p := cM (cr S0 w1) s2t (io sr)
     exact fun _ q => ⟨x2m, iadd (iadd x4 1)<|byteI xm, som hm2o, a2q, n2r, c2s, S1i, (q.k<|s3 z z z), h2y, h2u, h2v, h2x, (iA _ _)⟩
    refine Wq<|Ws<|Rm z<|R z (sb_ z z)<|Rm z<|Wn ?_
    obtain ⟨u53, hu2z, hm1j⟩ := bdS (ifF hu1f hc11)
    refine Wf (σ := (List UInt8)) (ρ := (List UInt8) × Bool) (fun (k1k : Nat) (xh : List UInt8) a w => ∃ ac nd ce S2, Sat 73 [(0, sl A0 N0 C0), (4, sl ac nd ce), (5, vI<|iadd x4 1), (20, (vI<|isub (byteI xm) 128)), (21, (vI ((k1k : Nat) : Int)))] a ∧ Chg (· ∈ S0) w1 w ∧ ownS w S2 (sl ac nd ce) xh ∧ S2.Nodup ∧ (∀ k ∈ S2, k ∈ S0 ∨ w1.z ≤ k)) (fun (xh : List UInt8) a w => ∃ ac nd ce S2, Sat 73 [(0, sl A0 N0 C0), (4, sl ac nd ce), (5, vI<|iadd x4 1)] a ∧ Chg (· ∈ S0) w1 w ∧ ownS w S2 (sl ac nd ce) xh ∧ S2.Nodup ∧ (∀ k ∈ S2, k ∈ S0 ∨ w1.z ≤ k)) (fun r ex a w => ex = .ret ∧ RetPost prog fn (Q12 w0 B r) a w) hu2z ?_ ?_ ?_ ?_ ?_
    ·exact fun _ q => ⟨a5, n8, c9, S0, (q.k<|s5 z z z z z), (cr S0 w1), (hl.e s6), hn, (io sr)⟩
    ·rintro k1k xh a54 w1l o55 hk1m ⟨ac, nd, ce, S2, hS30, s13, hq, ht, hu⟩ hm31
     refine Wu ?_ hS30
     refine Ws<|R z (lss z z)<|Wn<|Wq<|Wc z (fun _ => ?_) (fun hc => (noltI hk1m hc).elim)
     refine Wk<|Wq<|Wb<|Wg<|Rm z<|Rm z<|Rm z ?_
     obtain ⟨x32, e33, hm34⟩ := bdS hm31
     refine RX z (at_ (α := UInt8) d_25 z_5 z z z ((ho.e s6).c s13<|lg<|o1le hi h1b<|lt_ hBw s7.s) e33) ?_
     rintro _ ⟨b56, o57, cs58, rfl, h35, h36, h59⟩
     obtain rfl := u8 h36
     refine R z (l1 g_5 z fid<|h35.at0 z)<|E z (fS [(.tmp 27)] el_25 z z z (szAll z) (lb z)<|lb z) ?_
     rintro _ w1n ⟨rfl, h14⟩
     have h15 := h14.below
     have h37 : Blk w1n w1l.z [vU (byteI x32)] := h14.blk
     have h5a := ownS_new1 h14 UInt8_own
     obtain ⟨x38, e39, hm3a⟩ := bdS hm34
     refine E z (ef_pushN (α := UInt8) el_25 e39 z z (hq.e h15) ht h37 UInt8_own an_ nd_nil) ?_
     rintro _ w3b ⟨S1o, a3c, n3d, c3e, rfl, s3f, h3g, h3h, h3i⟩
     refine Ra z<|Wn<|Wg<|R z (inc_ hk1m (tl_<|iS _ _) z z)<|Rm z<|Wl ?_
     have h1p : ∀ k ∈ S2, k ∈ S0 ∨ w1.z ≤ k := or1 hu (io sr) (leor lr)
     have h3j : ∀ k ∈ S1o, k ∈ S0 ∨ w1.z ≤ k := or2 h3i h1p an_ (leor (lt_ s13.s h15.s))
     have h3k : Chg (· ∈ S0) w1 w1l := cM (cr S0 w1) s13 (io sr)
     have h3l : Chg (· ∈ S0) w1 w1n := cext h3k h15
     have h3m : Chg (· ∈ S0) w1 w3b := cM h3l s3f h1p
     exact fun _ q => ⟨x38, (som hm3a).symm, ⟨a3c, n3d, c3e, S1o, (q.k<|s5 z z z z z), h3m, h3g, h3h, h3j⟩⟩
    ·rintro xh a5b w3n ⟨ac, nd, ce, S2, hS3o, s3p, hq, ht, hu⟩
     refine Wu ?_ hS3o
     refine Ws<|R z (lss z z)<|Wn<|Wq<|Wc z (fun hc => (nolttI hc).elim) (fun _ => ?_)
     have h3q : ∀ k ∈ S2, k ∈ S0 ∨ w1.z ≤ k := or1 hu (io sr) (leor lr)
     have h3r : Chg (· ∈ S0) w1 w3n := cM (cr S0 w1) s3p (io sr)
     exact We (fun a' ha' => ⟨rfl, ⟨ac, nd, ce, S2, (Sat.weaken ha'<|s3 z z z), h3r, hq, ht, h3q⟩⟩)
    ·rintro xh a3s w3t rfl ⟨ac, nd, ce, S2, hS5c, s3u, hq, ht, hu⟩
     have hm3v := elL hm1j
     revert a3s
     refine Wo<|Wg<|Rm z<|R z (add_ z z)<|Ra z<|Wl ?_
     have h3w : ∀ k ∈ S2, k ∈ S0 ∨ w1.z ≤ k := or1 hu (io sr) (leor lr)
     have h3x : Chg (· ∈ S0) w1 w3t := cM (cr S0 w1) s3u (io sr)
     exact fun _ q => ⟨xh, iadd (iadd x4 1) 1, som hm3v, ac, nd, ce, S2, (q.k<|s3 z z z), h3x, hq, ht, h3w, (iA _ _)⟩
    rintro r5d ex5e a5f w5g rfl ⟨rfl, hq3y⟩
    have hm3z := elR hm1j
    obtain rfl := som hm3z
    have hm40 := elR hm10
    exact ⟨(inbR<|inbR<|QO_ret (som hm40).symm ⟨rfl, hq3y⟩), z⟩
   rintro a41 w1q ⟨xr, xp, rfl, av, ns, cw, Sj, hS5h, s16, h1r, h42, h43, h44⟩
   have hm45 := elL hm10
   have hm1s := un2S hm45
   revert a41
   refine Wo<|Ws<|Rm z<|R z (lnR d_25 z<|ownS.rep h1r)<|R z (rd_gtr z z)<|Wn<|Wc z (fun hc17 => ?_) (fun hc17 => ?_)
   ·refine Ws<|E z (f0 (α := UInt8) el_25) ?_
    rintro _ w5i ⟨a46, n47, c48, rfl, s49, h4a⟩
    refine Ra z<|Ra z<|Wn ?_
    have h4b : ∀ k ∈ S0, w0.z ≤ k := or1 hi (mem1 lr) (lele s7.s)
    exact Wr<|rtO<|qL (som<|ifT hm1s hc17).symm<|ret2 hr z z ⟨(bup (bM (bup (bM s7 sa<|mem1 lr) s6) s16 h4b) s49), a46, n47, c48, [w1q.z], z, h4a, nd_one, (m1<|lt_ (lt_ (lt_ s7.s sa.s) s6.s) s16.s)⟩
   refine WC_skip ?_
   have h1t : ∀ k ∈ S0, k ∈ [w0.z] ∨ w3.z ≤ k := or1 hi (io sr) (leor lr)
   have h4c : ∀ k ∈ Sj, k ∈ [w0.z] ∨ w3.z ≤ k := or1 h43 h1t (leor (lt_ sa.s s6.s))
   have h4d : Chg (· ∈ [w0.z]) w3 wg := cM (cr [w0.z] w3) sa (io sr)
   have h4e : Chg (· ∈ [w0.z]) w3 w1 := cext h4d s6
   have h4f : Chg (· ∈ [w0.z]) w3 w1q := cM h4e s16 h1t
   exact fun _ q => ⟨(xr, xp), (som<|ifF hm1s hc17).symm, ⟨av, ns, cw, Sj, (q.k<|s3 z z z), h4f, h1r, h42, h4c, h44⟩⟩
  have h4g : ∀ k ∈ S0, k ∈ [w0.z] ∨ w3.z ≤ k := or1 hi (io sr) (leor lr)
  have h4h : Chg (· ∈ [w0.z]) w3 wg := cM (cr [w0.z] w3) sa (io sr)
  exact We (fun a' ha' => QO_brk (som<|ifF hm1a hcx).symm ⟨a5, n8, c9, S0, (Sat.weaken ha'<|s1 z), h4h, hl, hn, h4g, h19⟩)
 ·rintro ⟨xk, x4⟩ a4i w5j rfl ⟨a5, n8, c9, S0, hS5k, s4j, hl, hn, hi, h19⟩
  have hm4k := elL hm18
  have hm4l := un2S hm4k
  revert a4i
  refine Wo<|Ws<|Rm z<|Ra z<|Ra z<|Wn ?_
  obtain rfl := som hm4l
  have h4m : ∀ k ∈ S0, w0.z ≤ k := or1 hi (mem1 lr) (lele s7.s)
  exact Wr<|ret2 hr z z ⟨(bM s7 s4j<|mem1 lr), a5, n8, c9, S0, z, hl, hn, h4m⟩
 rintro r5l ex5m a5n w5o rfl ⟨rfl, hq4n⟩
 have hm4o := elR hm18
 obtain rfl := som hm4o
 exact ⟨hq4n, z⟩
theorem W_w1b {x1 : List UInt8} {x2 : Int} {res : Bool} (hm : M_impl_startsRun x1 x2 = some res) (hBw : B ≤ w0.z) (p1_0 : repS w0 B (sl A0 N0 C0) x1) (p2_0 : inI x2) : CallsR prog 118 [sl A0 N0 C0, vI x2] w0 (Q11 w0 B res) := by
 unfold M_impl_startsRun at hm
 refine goF func118 z z (lb z) fun fn hr => Ws<|Ra z<|Wn<|Wq ?_
 obtain ⟨u7, hu5, hm8⟩ := bdS hm
 refine Wt (fun a w => ∃ (x4 : Bool), x4 = u7 ∧ Sat 34 [(4, vB x4)] a ∧ Below w0.z w0 w) ?_ ?_
 ·refine Wd (X := noX) 0 (.rd 0 (.rd 1 (.rd 2 (.rd 3 (.rd 4 (.rd 5 (.rd 6 (.rd 7 (.rd 8 (.rd 9 (.rd 10 (.rd 11 (.rd 12 (.rd 13 (.rd 14 (.rd 15 (.rd 16 (.rd 17 (.rd 18 (.rd 19 (.rd 20 (.rd 21 (.rd 22 (.rd 23 (.rd 24 (.rd 25 (.rd 26 (.rd 27 (.rd 28 (.rd 29 .done)))))))))))))))))))))))))))))) mo (by kernel_rfl) fun wu s3 _ => dR z z (mv z)<|dR z z (add_ z z)<|dR z z (mv z) ?_
  have h2 := p1_0.e s3
  refine dR z z (lnR d_25 z h2)<|dR z z (lss z z)<|dR z z (mv z) ?_
  rcases bs (decide ((iadd x2 2) < (x1.length : Int))) with hc0 | hc0
  ·refine dRg z z z hc0 z (mv z)<|dRg z z z hc0 z (mv z) ?_
   obtain ⟨x9, ea, hmb⟩ := bdS (ifT hu5 hc0)
   refine dRXg z z z hc0 z (at_ (α := UInt8) d_25 z_5 z z z h2 ea) ?_
   rintro _ ⟨bv, ow, csx, rfl, hc, hd, hy⟩
   obtain rfl := u8 hd
   refine dRg z z z hc0 z (l1 g_5 z fid<|hc.at0 z)<|dRg z z z hc0 z (mv z)<|dRg z z z hc0 z (mv z)<|dRg z z z hc0 z (add_ z z) ?_
   obtain ⟨xe, ef, hm6⟩ := bdS hmb
   refine dRXg z z z hc0 z (at_ (α := UInt8) d_25 z_5 z z z h2 ef) ?_
   rintro _ ⟨bz, o10, cs11, rfl, hg, hh, h12⟩
   obtain rfl := u8 hh
   refine dRg z z z hc0 z (l1 g_5 z fid<|hg.at0 z)<|dRg z z z hc0 z (eql z z)<|dR z z (pT z hc0 z)<|dR z z (mv z) ?_
   rcases bs ((byteI x9) == (byteI xe)) with hc1 | hc1
   ·refine dRg z z z hc1 z (mv z)<|dRg z z z hc1 z (mv z) ?_
    obtain ⟨xi, ej, hmk⟩ := bdS (ifT hm6 hc1)
    refine dRXg z z z hc1 z (at_ (α := UInt8) d_25 z_5 z z z h2 ej) ?_
    rintro _ ⟨b13, o14, cs15, rfl, hl, hn, h16⟩
    obtain rfl := u8 hn
    refine dRg z z z hc1 z (l1 g_5 z fid<|hl.at0 z)<|dRg z z z hc1 z (mv z)<|dRg z z z hc1 z (mv z)<|dRg z z z hc1 z (add_ z z) ?_
    obtain ⟨xm, eo, hmp⟩ := bdS hmk
    refine dRXg z z z hc1 z (at_ (α := UInt8) d_25 z_5 z z z h2 eo) ?_
    rintro _ ⟨b17, o18, cs19, rfl, hq, ht, h1a⟩
    obtain rfl := u8 ht
    exact dRg z z z hc1 z (l1 g_5 z fid<|hq.at0 z)<|dRg z z z hc1 z (eql z z)<|dR z z (pT z hc1 z)<|dR z z (asg z)<|pD (fun _ q => ⟨(byteI xi) == (byteI xm), som hmp, (q.k<|s1 z), s3⟩)
   iterate 10 refine dRn z z z hc1 z ?_
   exact dR z z (pF z hc1 z)<|dR z z (asg z)<|pD (fun _ q => ⟨false, som<|ifF hm6 hc1, (q.k<|s1 z), s3⟩)
  iterate 10 refine dRn z z z hc0 z ?_
  refine dR z z (pF z hc0 z)<|dR z z (mv z) ?_
  iterate 10 refine dRn z z z z z ?_
  exact dR z z (pF z z z)<|dR z z (asg z)<|pD (fun _ q => ⟨false, som<|ifF hu5 hc0, (q.k<|s1 z), s3⟩)
 rintro ar w1b ⟨x4, rfl, hS1c, ss⟩
 revert ar
 refine Wo ?_
 obtain rfl := som hm8
 exact Wr<|ret1 hr z ⟨ss, z⟩
theorem W_w35 {x1 : List UInt8} {x2 : Int} {res : Int} (hm : M_impl_RunAt n x1 x2 = some res) (hBw : B ≤ w0.z) (p1_0 : repS w0 B (sl A0 N0 C0) x1) (p2_0 : inI x2) : CallsR prog 120 [sl A0 N0 C0, vI x2] w0 (Q0 w0 B res) := by
 unfold M_impl_RunAt at hm
 refine goF func120 z z (lb z) fun fn hr => Ws<|Ra z<|Wn<|Wq<|Wq ?_
 obtain ⟨uk, hud, hme⟩ := bdS hm
 refine Wt (fun a w => ∃ (x4 : Bool), x4 = uk ∧ Sat 36 [(0, sl A0 N0 C0), (1, vI x2), (13, vB x4)] a ∧ Below w0.z w0 w) ?_ ?_
 ·refine Wg<|Rm z<|R z (lss z z)<|Rm z ?_
  rcases bs (decide (x2 < 0)) with hc1 | hc1
  ·iterate 4 refine Nh z hc1 ?_
   exact R z (pT z hc1 z)<|Wl (fun _ q => ⟨true, som<|ifT hud hc1, (q.k<|s3 z z z), (br w0)⟩)
  exact Rh z hc1 (mv z)<|Rh z hc1 (mv z)<|Rh z hc1 (lnR d_25 z p1_0)<|Rh z hc1 (rd_geq z z)<|R z (pF z hc1 z)<|Wl (fun _ q => ⟨decide ((x1.length : Int) ≤ x2), som<|ifF hud hc1, (q.k<|s3 z z z), (br w0)⟩)
 rintro al w2 ⟨x4, rfl, hS16, s5⟩
 revert al
 refine Wo<|Wc z (fun hc6 => ?_) (fun hc6 => ?_)
 ·refine Ws<|Ra z<|Wn ?_
  obtain rfl := som (ifT hme hc6)
  exact Wr<|ret1 hr z ⟨s5, z, (ii z)⟩
 refine Wk<|Ws<|Ra z<|Wn<|Wq ?_
 obtain ⟨u17, hum, hmf⟩ := bdS (ifF hme hc6)
 refine WC_iter (σ := Int) (ρ := Int) (fun (x3 : Int) a w => Sat 36 [(0, sl A0 N0 C0), (1, vI x2), (5, vI x3)] a ∧ Below w2.z w2 w ∧ inI x3) (fun (x3 : Int) a w => Sat 36 [(5, vI x3)] a ∧ Below w2.z w2 w ∧ inI x3) (fun r ex a w => ex = .ret ∧ RetPost prog fn (Q0 w0 B r) a w) hum ?_ ?_ ?_ ?_
 ·exact fun _ q => ⟨(q.k<|s3 z z z), (br w2), (ii z)⟩
 ·rintro x3 a18 wg o19 ⟨hSn, s7, h8⟩ hmo
  refine Wu ?_ hSn
  refine Wq<|Wq ?_
  obtain ⟨up, huh, hmi⟩ := bdS hmo
  refine Wt (fun a w => ∃ (x9 : Bool), x9 = up ∧ Sat 36 [(0, sl A0 N0 C0), (1, vI x2), (5, vI x3), (32, vB x9)] a ∧ Below wg.z wg w) ?_ ?_
  ·refine Wd (X := noX) 0 (.rd 0 (.rd 1 (.rd 2 (.rd 3 (.rd 4 (.rd 5 (.rd 6 (.rd 7 (.rd 8 (.rd 9 (.rd 10 (.rd 11 (.rd 12 (.rd 13 (.rd 14 (.rd 15 (.rd 16 (.rd 17 (.rd 18 .done))))))))))))))))))) mo (by kernel_rfl) fun w1a sa _ => dR z z (mv z)<|dR z z (mv z)<|dR z z (add_ z z)<|dR z z (mv z) ?_
   have hb := ((p1_0.e s5).e s7).e sa
   refine dR z z (lnR d_25 z hb)<|dR z z (lss z z)<|dR z z (mv z) ?_
   rcases bs (decide ((iadd x2 x3) < (x1.length : Int))) with hc0 | hc0
   ·iterate 3 refine dRg z z z hc0 z (mv z) ?_
    refine dRg z z z hc0 z (add_ z z) ?_
    obtain ⟨xq, er, hms⟩ := bdS (ifT huh hc0)
    refine dRXg z z z hc0 z (at_ (α := UInt8) d_25 z_5 z z z hb er) ?_
    rintro _ ⟨b1b, o1c, cs1d, rfl, ht, hu, h1e⟩
    obtain rfl := u8 hu
    refine dRg z z z hc0 z (l1 g_5 z fid<|ht.at0 z)<|dRg z z z hc0 z (mv z)<|dRg z z z hc0 z (mv z) ?_
    obtain ⟨xv, ew, hmx⟩ := bdS hms
    refine dRXg z z z hc0 z (at_ (α := UInt8) d_25 z_5 z z z hb ew) ?_
    rintro _ ⟨b1f, o1g, cs1h, rfl, hy, hz, h1i⟩
    obtain rfl := u8 hz
    exact dRg z z z hc0 z (l1 g_5 z fid<|hy.at0 z)<|dRg z z z hc0 z (eql z z)<|dR z z (pT z hc0 z)<|pD (fun _ q => ⟨(byteI xq) == (byteI xv), som hmx, (q.k<|s4 z z z z), sa⟩)
   iterate 11 refine dRn z z z hc0 z ?_
   exact dR z z (pF z hc0 z)<|pD (fun _ q => ⟨false, som<|ifF huh hc0, (q.k<|s4 z z z z), sa⟩)
  rintro a10 w1j ⟨x9, rfl, hS1k, sj⟩
  revert a10
  refine Wo<|Wc z (fun hcc => ?_) (fun hcc => ?_)
  ·exact Wk<|Wb<|Wg<|Rm z<|R z (add_ z z)<|Ra z<|Wl (fun _ q => ⟨iadd x3 1, (som<|ifT hmi hcc).symm, ⟨(q.k<|s3 z z z), (bup s7 sj), (iA _ _)⟩⟩)
  exact We (fun a' ha' => QO_brk (som<|ifF hmi hcc).symm ⟨(Sat.weaken ha'<|s1 z), (bup s7 sj), h8⟩)
 ·rintro x3 a11 w1l rfl ⟨hS1m, s12, h8⟩
  have hm13 := elL hmf
  revert a11
  refine Wo<|Ws<|Rm z<|Ra z<|Wn ?_
  obtain rfl := som hm13
  exact Wr<|ret1 hr z ⟨(bup s5 s12), z, h8⟩
 rintro r1n ex1o a1p w1q rfl ⟨rfl, hq14⟩
 have hm15 := elR hmf
 obtain rfl := som hm15
 exact ⟨hq14, z⟩
theorem W_w36 {x1 : Int} {x2 : Int} {res : Bool} (hm : M_impl_Min_1 x1 x2 = some res) (hBw : B ≤ w0.z) (p1_0 : inI x1) (p2_0 : inI x2) : CallsR prog 141 [vI x1, vI x2] w0 (Q11 w0 B res) := by
 unfold M_impl_Min_1 at hm
 refine goF func141 z z (lb z) fun fn hr => Ws<|Ra z<|Wn<|Ws<|Rm z<|Rm z<|R z (lss z z)<|Ra z<|Wn ?_
 obtain rfl := som hm
 exact Wr<|ret1 hr z ⟨(br w0), z⟩
theorem W_w37 {x2 : Int} {x3 : List Int} {res : Int} (hm : M_impl_pick_impl_Min_1 x2 x3 = some res) (hBw : B ≤ w0.z) (p2_0 : inI x2) (p3_0 : repS w0 B (sl A9 N9 C9) x3) : CallsR prog 140 [(.func (.func 141) #[] #[]), vI x2, sl A9 N9 C9] w0 (Q0 w0 B res) := by
 unfold M_impl_pick_impl_Min_1 at hm
 refine goF func140 z z (lb z) fun fn hr => Ws<|Ra z<|Wn<|Wq<|Ws<|Rm z<|R z (lnR d_142 z p3_0)<|Rm z<|Wn ?_
 obtain ⟨uy, hub, hm7⟩ := bdS hm
 refine Wf (σ := Int) (ρ := Int) (fun (k3 : Nat) (x0 : Int) a w => Sat 22 [(0, (.func (.func 141) #[] #[])), (1, vI x0), (9, sl A9 N9 C9), (10, vI (x3.length : Int)), (11, (vI ((k3 : Nat) : Int)))] a ∧ Below w0.z w0 w ∧ inI x0) (fun (x0 : Int) a w => Sat 22 [(1, vI x0)] a ∧ Below w0.z w0 w ∧ inI x0) (fun r ex a w => ex = .ret ∧ RetPost prog fn (Q0 w0 B r) a w) hub ?_ ?_ ?_ ?_ ?_
 ·exact fun _ q => ⟨(q.k<|s5 z z z z z), (br w0), p2_0⟩
 ·rintro k3 x0 az w10 o11 hk8 ⟨hSc, s6, h1⟩ hmd
  refine Wu ?_ hSc
  refine Ws<|R z (lss z z)<|Wn<|Wq<|Wc z (fun _ => ?_) (fun hc => (nolt hk8 hc).elim)
  refine Wk<|Wq<|Wb<|Ws ?_
  obtain ⟨xe, ef, hmg⟩ := bdS hmd
  refine RX z (at_ (α := Int) d_142 z_3 z z z (p3_0.e s6) ef) ?_
  rintro _ ⟨b12, o13, cs14, rfl, hh, hi, h15⟩
  obtain ⟨rfl, h9⟩ := Int_open hi
  refine R z (l1 g_3 z fid<|hh.at0 z)<|Ra z<|Wn<|Ws<|Rm z<|Rm z<|Rm z ?_
  obtain ⟨r16, ej, hmk⟩ := bdS hmg
  refine E z (ef_callV call141 z z<|W_w36 (B := B) ej (lt_ hBw s6.s) h9 h1) ?_
  rintro _ w2 ⟨sm, rfl⟩
  refine Wn ?_
  obtain ⟨ul, hua, hmn⟩ := bdS hmk
  refine Wt (fun a w => ∃ (x4 : Int), x4 = ul ∧ Sat 22 [(0, (.func (.func 141) #[] #[])), (1, vI x4), (9, sl A9 N9 C9), (10, vI (x3.length : Int)), (11, (vI ((k3 : Nat) : Int)))] a ∧ Below w2.z w2 w ∧ inI x4) ?_ ?_
  ·refine Wc z (fun hc5 => ?_) (fun hc5 => ?_)
   ·exact Wg<|Rm z<|Ra z<|Wl (fun _ q => ⟨xe, som<|ifT hua hc5, (q.k<|s5 z z z z z), (br w2), h9⟩)
   exact WC_skip (fun _ q => ⟨x0, som<|ifF hua hc5, (q.k<|s5 z z z z z), (br w2), h1⟩)
  rintro ao w17 ⟨x4, rfl, hS18, sp, hq⟩
  revert ao
  exact Wo<|Wg<|R z (inc_ hk8 (lt_ (repS.len p3_0) LEN_le) z z)<|Rm z<|Wl (fun _ q => ⟨x4, (som hmn).symm, ⟨(q.k<|s5 z z z z z), (bup (bup s6 sm) sp), hq⟩⟩)
 ·rintro x0 a19 w1a ⟨hSr, ss, h1⟩
  refine Wu ?_ hSr
  refine Ws<|R z (lss z z)<|Wn<|Wq<|Wc z (fun hc => (noltt hc).elim) (fun _ => ?_)
  exact We (fun a' ha' => ⟨rfl, ⟨(Sat.weaken ha'<|s1 z), ss, h1⟩⟩)
 ·rintro x0 au w1b rfl ⟨hS1c, st, h1⟩
  have hmv := elL hm7
  revert au
  refine Wo<|Ws<|Rm z<|Ra z<|Wn ?_
  obtain rfl := som hmv
  exact Wr<|ret1 hr z ⟨st, z, h1⟩
 rintro r1d ex1e a1f w1g rfl ⟨rfl, hqw⟩
 have hmx := elR hm7
 obtain rfl := som hmx
 exact ⟨hqw, z⟩
theorem W_w38 {x1 : Int} {x2 : Int} {res : Int} (hm : M_impl_Min x1 x2 = some res) (hBw : B ≤ w0.z) (p1_0 : inI x1) (p2_0 : inI x2) : CallsR prog 119 [vI x1, vI x2] w0 (Q0 w0 B res) := by
 unfold M_impl_Min at hm
 refine goF func119 z z (lb z) fun fn hr => Ws<|Ra z<|Wn<|Ws<|Rm z<|Rm z<|E z (fS [(.tmp 6)] el_142 z z z (szAll z) (lb z)<|lb z) ?_
 rintro _ w1 ⟨rfl, h0⟩
 have h6 : Blk w1 w0.z [vI x2] := h0.blk
 obtain ⟨r7, e2, hm3⟩ := bdS hm
 refine E z (fc call140 z<|W_w37 (B := w1.z) e2 lr p1_0<|ownS.rep<|ownS_new1 h0<|Int_own p2_0) ?_
 rintro _ w8 ⟨s4, rfl, h5⟩
 refine Ra z<|Wn ?_
 obtain rfl := som hm3
 exact Wr<|ret1 hr z ⟨(bup h0.below s4), z, h5⟩
theorem W_w39 {x1 : List UInt8} {res : (List UInt8)} (hm : M_impl_PackBytes n x1 = some res) (hBw : B ≤ w0.z) (p1_0 : repS w0 B (sl A0 N0 C0) x1) : CallsR prog 90 [sl A0 N0 C0] w0 (Q1 w0 B res) := by
 unfold M_impl_PackBytes at hm
 refine goF func90 z z (lb z) fun fn hr => Ws<|Ra z<|Wn<|Ws<|E z (f0 (α := UInt8) el_25) ?_
 rintro _ w2 ⟨a1u, n1v, c1w, rfl, sd, h1x⟩
 refine Ra z<|Wn<|Wq<|Ws<|Ra z<|Wn ?_
 obtain ⟨u4o, hu1y, hm19⟩ := bdS hm
 refine WC_iter (σ := (List UInt8) × Int) (ρ := (List UInt8)) (fun s a w => un2 (fun xe x4 => ∃ a5 n6 c7 S0, Sat 67 [(0, sl A0 N0 C0), (3, sl a5 n6 c7), (4, vI x4)] a ∧ Chg (· ∈ [w0.z]) w2 w ∧ ownS w S0 (sl a5 n6 c7) xe ∧ S0.Nodup ∧ (∀ k ∈ S0, k ∈ [w0.z] ∨ w2.z ≤ k) ∧ inI x4) s) (fun s a w => un2 (fun xe x4 => ∃ a5 n6 c7 S0, Sat 67 [(3, sl a5 n6 c7)] a ∧ Chg (· ∈ [w0.z]) w2 w ∧ ownS w S0 (sl a5 n6 c7) xe ∧ S0.Nodup ∧ (∀ k ∈ S0, k ∈ [w0.z] ∨ w2.z ≤ k) ∧ inI x4) s) (fun r ex a w => ex = .ret ∧ RetPost prog fn (Q1 w0 B r) a w) hu1y ?_ ?_ ?_ ?_
 ·exact fun _ q => ⟨a1u, n1v, c1w, [w0.z], (q.k<|s3 z z z), (cr [w0.z] w2), h1x, nd_one, (io sr), (ii z)⟩
 ·rintro ⟨xe, x4⟩ a4p w1 o4q ⟨a5, n6, c7, S0, hS1z, sf, hg, hh, hi, hl⟩ hm20
  have hm1a := un2S hm20
  refine Wu ?_ hS1z
  refine Wq<|Ws<|Rm z<|Rm z ?_
  have h1b := m1 hBw
  have hj := (p1_0.e sd).c sf<|lg h1b
  refine R z (lnR d_25 z hj)<|R z (lss z z)<|Wn<|Wc z (fun hcz => ?_) (fun hcz => ?_)
  ·refine Wk ?_
   obtain ⟨u21, hu22, hm1c⟩ := bdS (ifT hm1a hcz)
   refine Wt (fun a w => ∃ (xn : List UInt8) (xk : Int), Sum.inl (xn, xk) = u21 ∧ ∃ ao np cq Sc, Sat 67 [(0, sl A0 N0 C0), (3, sl ao np cq), (4, vI xk)] a ∧ Chg (· ∈ S0) w1 w ∧ ownS w Sc (sl ao np cq) xn ∧ Sc.Nodup ∧ (∀ k ∈ Sc, k ∈ S0 ∨ w1.z ≤ k) ∧ inI xk) ?_ ?_
   ·refine Wb<|Wq<|Ws<|Rm z<|Rm z ?_
    have h10 := lt_ sd.s sf.s
    obtain ⟨r4r, e23, hm1d⟩ := bdS hu22
    refine E z (fc call118 z<|W_w1b (B := B) e23 (lt_ hBw h10) hj hl) ?_
    rintro _ wb ⟨s8, rfl⟩
    refine Wn<|Wc z (fun hc11 => ?_) (fun hc11 => ?_)
    ·refine Ws<|Rm z<|Rm z ?_
     have h1e := hj.e s8
     have h1f := lt_ h10 s8.s
     obtain ⟨r4s, e24, hm25⟩ := bdS (ifT hm1d hc11)
     refine E z (fc call120 z<|W_w35 (B := B) e24 (lt_ hBw h1f) h1e hl) ?_
     rintro _ w26 ⟨sm, rfl, h27⟩
     obtain ⟨rr, e28, hm29⟩ := bdS hm25
     refine E z (fc call119 z<|W_w38 (B := B) e28 (lt_ hBw<|lt_ h1f sm.s) h27<|ii z) ?_
     rintro _ ws ⟨st, rfl, h4t⟩
     refine Ra z<|Wn<|Ws<|Rm z<|Rm z<|R z (add_ z z)<|R z (rd_convU d_3 d_5 z)<|Rm z<|Rm z ?_
     obtain ⟨x12, e2a, hm2b⟩ := bdS hm29
     refine RX z (at_ (α := UInt8) d_25 z_5 z z z ((h1e.e sm).e st) e2a) ?_
     rintro _ ⟨b4u, o4v, cs4w, rfl, h2c, h2d, h4x⟩
     obtain rfl := u8 h2d
     refine R z (l1 g_5 z fid<|h2c.at0 z)<|E z (fS [(.tmp 22), (.tmp 26)] el_25 z z z (szAll z) (lb z)<|lb z) ?_
     rintro _ w13 ⟨rfl, h1g⟩
     have h14 := h1g.below
     have h2e : Blk w13 ws.z [(vU (byteI (mkB (iadd 128 rr)))), vU (byteI x12)] := h1g.blk
     have h2f : ownS w13 [ws.z] (sl (some ⟨ws.z, 0, none⟩) 2 2) [mkB (iadd 128 rr), x12] := own_lit (l := [mkB (iadd 128 rr), x12]) h2e z
     obtain ⟨x2g, e2h, hm2i⟩ := bdS hm2b
     refine E z (fN (α := UInt8) el_25 e2h z z ((((hg.e s8).e sm).e st).e h14) hh<|ownS.rep h2f) ?_
     rintro _ w2j ⟨S1h, a2k, n2l, c2m, rfl, s2n, h2o, h2p, h2q⟩
     refine Ra z<|Wn<|Ws<|Rm z<|Rm z<|R z (add_ z z)<|Ra z<|Wn<|We<|exH ?_
     have h2r : ∀ k ∈ S1h, k ∈ S0 ∨ w1.z ≤ k := or1 h2q (io sr) (leor (lt_ (lt_ (lt_ s8.s sm.s) st.s) h14.s))
     have h2s : Chg (· ∈ S0) w1 wb := cext (cr S0 w1) s8
     have h2t : Chg (· ∈ S0) w1 w26 := cext h2s sm
     have h2u : Chg (· ∈ S0) w1 ws := cext h2t st
     have h2v : Chg (· ∈ S0) w1 w13 := cext h2u h14
     have h2w : Chg (· ∈ S0) w1 w2j := cM h2v s2n (io sr)
     exact fun _ q => ⟨x2g, iadd x4 rr, som hm2i, a2k, n2l, c2m, S1h, (q.k<|s3 z z z), h2w, h2o, h2p, h2r, (iA _ _)⟩
    refine Wk<|Ws<|Rm z<|R z (add_ z z)<|Ra z<|Wn<|Wq ?_
    obtain ⟨u4y, hu2x, hm1i⟩ := bdS (ifF hm1d hc11)
    refine WC_iter (σ := Int) (ρ := (List UInt8)) (fun (x3 : Int) a w => Sat 67 [(0, sl A0 N0 C0), (3, sl a5 n6 c7), (4, vI x4), (6, vI x3)] a ∧ Below wb.z wb w ∧ inI x3) (fun (x3 : Int) a w => Sat 67 [(0, sl A0 N0 C0), (3, sl a5 n6 c7), (4, vI x4), (6, vI x3)] a ∧ Below wb.z wb w ∧ inI x3) (fun r ex a w => ex = .ret ∧ RetPost prog fn (Q1 w0 B r) a w) hu2x ?_ ?_ ?_ ?_
    ·exact fun _ q => ⟨(q.k<|s4 z z z z), (br wb), (iA _ _)⟩
    ·rintro x3 a4z wu o50 ⟨hS2y, sv, hw⟩ hm2z
     refine Wu ?_ hS2y
     refine Wq<|Wq ?_
     obtain ⟨u30, hu1j, hm1k⟩ := bdS hm2z
     refine Wt (fun a w => ∃ (x15 : Bool), x15 = u30 ∧ Sat 67 [(0, sl A0 N0 C0), (3, sl a5 n6 c7), (4, vI x4), (6, vI x3), (49, vB x15)] a ∧ Below wu.z wu w) ?_ ?_
     ·refine Wg<|Rm z<|Rm z ?_
      have h1l := (hj.e s8).e sv
      refine R z (lnR d_25 z h1l)<|R z (lss z z)<|Rm z ?_
      rcases bs (decide (x3 < (x1.length : Int))) with hc9 | hc9
      ·have hm1m := ifT hu1j hc9
       refine Rh z hc9 (mv z)<|Rh z hc9 (mv z)<|Rh z hc9 (sb_ z z)<|Rh z hc9 (lss z z)<|R z (pT z hc9 z)<|Rm z ?_
       rcases bs (decide ((isub x3 x4) < 127)) with hca | hca
       ·refine Rh z hca (mv z)<|Rh z hca (mv z) ?_
        obtain ⟨r31, e32, hm33⟩ := bdS (ifT hm1m hca)
        refine Eg z z hca z (fc call118 z<|W_w1b (B := B) e32 (lt_ hBw<|lt_ (lt_ h10 s8.s) sv.s) h1l hw) ?_
        rintro _ w51 ⟨s34, rfl⟩
        exact Rh z hca (not_ z)<|R z (pT z hca z)<|Wl (fun _ q => ⟨!r31, som hm33, (q.k<|s5 z z z z z), s34⟩)
       iterate 4 refine Nh z hca ?_
       exact R z (pF z hca z)<|Wl (fun _ q => ⟨false, som<|ifF hm1m hca, (q.k<|s5 z z z z z), (br wu)⟩)
      iterate 4 refine Nh z hc9 ?_
      exact R z (pF z hc9 z)<|Rm z<|Nh z z<|Nh z z<|Nh z z<|Nh z z<|R z (pF z z z)<|Wl (fun _ q => ⟨false, som<|ifF hu1j hc9, (q.k<|s5 z z z z z), (br wu)⟩)
     rintro a35 w52 ⟨x15, rfl, hS53, s1n⟩
     revert a35
     refine Wo<|Wc z (fun hc16 => ?_) (fun hc16 => ?_)
     ·exact Wk<|Wb<|Wg<|Rm z<|R z (add_ z z)<|Ra z<|Wl (fun _ q => ⟨iadd x3 1, (som<|ifT hm1k hc16).symm, ⟨(q.k<|s4 z z z z), (bup sv s1n), (iA _ _)⟩⟩)
     exact We (fun a' ha' => QO_brk (som<|ifF hm1k hc16).symm ⟨(Sat.weaken ha'<|s4 z z z z), (bup sv s1n), hw⟩)
    ·rintro x3 a36 w1o rfl ⟨hS54, sx, hw⟩
     have hm37 := elL hm1i
     revert a36
     refine Wo<|Ws<|Rm z<|Rm z<|Rm z<|R z (sb_ z z)<|R z (rd_convU d_3 d_5 z)<|E z (fS [(.tmp 56)] el_25 z z z (szAll z) (lb z)<|lb z) ?_
     rintro _ w1p ⟨rfl, h17⟩
     have hy := h17.below
     have h38 : Blk w1p w1o.z [(vU (byteI (mkB (isub x3 x4))))] := h17.blk
     have h55 := ownS_new1 h17 UInt8_own
     obtain ⟨x56, e39, hm3a⟩ := bdS hm37
     refine E z (ef_pushN (α := UInt8) el_25 e39 z z (((hg.e s8).e sx).e hy) hh h38 UInt8_own an_ nd_nil) ?_
     rintro _ w3b ⟨S3c, a57, n58, c59, rfl, s18, h3d, h3e, h3f⟩
     refine Ra z<|Wn<|Ws<|Rm z<|Rm z<|Rm z<|Rm z ?_
     obtain ⟨x5a, e3g, hm3h⟩ := bdS hm3a
     refine RX z (rX d_25 z_5 z z ((((hj.e s8).e sx).e hy).c s18<|lg<|o1le hi h1b<|lt_ hBw sd.s) z z e3g) ?_
     rintro _ ⟨a5b, n5c, c5d, rfl, h3i⟩
     obtain ⟨x3j, e3k, hm3l⟩ := bdS hm3h
     refine E z (fN (α := UInt8) el_25 e3k z z h3d h3e h3i) ?_
     rintro _ w3m ⟨S1q, a3n, n3o, c3p, rfl, s3q, h3r, h3s, h3t⟩
     refine Ra z<|Wn<|Wg<|Rm z<|Ra z<|Wl ?_
     have h1r := lt_ (lt_ s8.s sx.s) hy.s
     have h1s : ∀ k ∈ S3c, k ∈ S0 ∨ w1.z ≤ k := or2 h3f (io sr) an_ (leor h1r)
     have h3u : ∀ k ∈ S1q, k ∈ S0 ∨ w1.z ≤ k := or1 h3t h1s (leor (lt_ h1r s18.s))
     have h3v : Chg (· ∈ S0) w1 wb := cext (cr S0 w1) s8
     have h3w : Chg (· ∈ S0) w1 w1o := cext h3v sx
     have h3x : Chg (· ∈ S0) w1 w1p := cext h3w hy
     have h3y : Chg (· ∈ S0) w1 w3b := cM h3x s18 (io sr)
     have h3z : Chg (· ∈ S0) w1 w3m := cM h3y s3q h1s
     exact fun _ q => ⟨x3j, x3, som hm3l, a3n, n3o, c3p, S1q, (q.k<|s3 z z z), h3z, h3r, h3s, h3u, hw⟩
    rintro r5e ex5f a5g w5h rfl ⟨rfl, hq40⟩
    have hm41 := elR hm1i
    obtain rfl := som hm41
    have hm42 := elR hm1c
    exact ⟨(inbR<|QO_ret (som hm42).symm ⟨rfl, hq40⟩), z⟩
   rintro a43 w44 ⟨xn, xk, rfl, ao, np, cq, Sc, hS5i, s45, h46, h47, h48, h49⟩
   have hm4a := elL hm1c
   have hm4b := un2S hm4a
   revert a43
   have h1t : ∀ k ∈ S0, k ∈ [w0.z] ∨ w2.z ≤ k := or1 hi (io sr) (leor lr)
   have h4c : ∀ k ∈ Sc, k ∈ [w0.z] ∨ w2.z ≤ k := or1 h48 h1t (leor sf.s)
   have h4d : Chg (· ∈ [w0.z]) w2 w1 := cM (cr [w0.z] w2) sf (io sr)
   have h4e : Chg (· ∈ [w0.z]) w2 w44 := cM h4d s45 h1t
   exact fun _ q => ⟨(xn, xk), (som hm4b).symm, ⟨ao, np, cq, Sc, (q.k<|s3 z z z), h4e, h46, h47, h4c, h49⟩⟩
  have h4f : ∀ k ∈ S0, k ∈ [w0.z] ∨ w2.z ≤ k := or1 hi (io sr) (leor lr)
  have h4g : Chg (· ∈ [w0.z]) w2 w1 := cM (cr [w0.z] w2) sf (io sr)
  exact We (fun a' ha' => QO_brk (som<|ifF hm1a hcz).symm ⟨a5, n6, c7, S0, (Sat.weaken ha'<|s1 z), h4g, hg, hh, h4f, hl⟩)
 ·rintro ⟨xe, x4⟩ a4h w5j rfl ⟨a5, n6, c7, S0, hS5k, s4i, hg, hh, hi, hl⟩
  have hm4j := elL hm19
  have hm4k := un2S hm4j
  revert a4h
  refine Wo<|Ws<|Rm z<|Ra z<|Wn ?_
  obtain rfl := som hm4k
  have h4l : ∀ k ∈ S0, w0.z ≤ k := or1 hi (mem1 lr) (lele sd.s)
  exact Wr<|ret1 hr z ⟨(bM sd s4i<|mem1 lr), a5, n6, c7, S0, z, hg, hh, h4l⟩
 rintro r5l ex5m a5n w5o rfl ⟨rfl, hq4m⟩
 have hm4n := elR hm19
 obtain rfl := som hm4n
 exact ⟨hq4m, z⟩
theorem W_w1c {x1 : List UInt8} {res : Int} (hm : M_impl_SumOfBytes x1 = some res) (hBw : B ≤ w0.z) (p1_0 : repS w0 B (sl A0 N0 C0) x1) : CallsR prog 91 [sl A0 N0 C0] w0 (Q0 w0 B res) := by
 unfold M_impl_SumOfBytes at hm
 refine goF func91 z z (lb z) fun fn hr => Ws<|Ra z<|Wn<|Ws<|Ra z<|Wn<|Wq<|Ws<|Rm z<|R z (lnR d_25 z p1_0)<|Rm z<|Wn ?_
 obtain ⟨ul, hu6, hm2⟩ := bdS hm
 refine Wf (σ := Int) (ρ := Int) (fun (k3 : Nat) (x0 : Int) a w => Sat 19 [(3, vI x0), (6, sl A0 N0 C0), (7, vI (x1.length : Int)), (8, (vI ((k3 : Nat) : Int)))] a ∧ Below w0.z w0 w ∧ inI x0) (fun (x0 : Int) a w => Sat 19 [(3, vI x0)] a ∧ Below w0.z w0 w ∧ inI x0) (fun r ex a w => ex = .ret ∧ RetPost prog fn (Q0 w0 B r) a w) hu6 ?_ ?_ ?_ ?_ ?_
 ·exact fun _ q => ⟨(q.k<|s4 z z z z), (br w0), (ii z)⟩
 ·rintro k3 x0 am wn oo hk4 ⟨hS7, s5, h1⟩ hm8
  refine Wu ?_ hS7
  refine Ws<|R z (lss z z)<|Wn<|Wq<|Wc z (fun _ => ?_) (fun hc => (nolt hk4 hc).elim)
  refine Wk<|Wq<|Wb<|Ws ?_
  obtain ⟨x9, ea, hmb⟩ := bdS hm8
  refine RX z (at_ (α := UInt8) d_25 z_5 z z z (p1_0.e s5) ea) ?_
  rintro _ ⟨bp, oq, csr, rfl, hd, he, ht⟩
  obtain rfl := u8 he
  exact R z (l1 g_5 z fid<|hd.at0 z)<|Ra z<|Wn<|Wg<|Rm z<|Rm z<|R z (rd_convUI d_5 d_3 z)<|R z (add_ z z)<|Ra z<|Wn<|Wg<|R z (inc_ hk4 (lt_ (repS.len p1_0) LEN_le) z z)<|Rm z<|Wl (fun _ q => ⟨iadd x0<|byteI x9, (som hmb).symm, ⟨(q.k<|s4 z z z z), s5, (iA _ _)⟩⟩)
 ·rintro x0 au ws ⟨hSc, sf, h1⟩
  refine Wu ?_ hSc
  refine Ws<|R z (lss z z)<|Wn<|Wq<|Wc z (fun hc => (noltt hc).elim) (fun _ => ?_)
  exact We (fun a' ha' => ⟨rfl, ⟨(Sat.weaken ha'<|s1 z), sf, h1⟩⟩)
 ·rintro x0 ag wv rfl ⟨hSw, sh, h1⟩
  have hmi := elL hm2
  revert ag
  refine Wo<|Ws<|Rm z<|R z (rd_rem z z (by decide))<|Ra z<|Wn ?_
  obtain rfl := som hmi
  exact Wr<|ret1 hr z ⟨sh, z, (inI_rem h1)⟩
 rintro rx exy az w10 rfl ⟨rfl, hqj⟩
 have hmk := elR hm2
 obtain rfl := som hmk
 exact ⟨hqj, z⟩
theorem W_w1d {x1 : Record} {res : (List UInt8)} (hm : M_impl_EncodeRecord n x1 = some res) (hBw : B ≤ w0.z) (p1_0 : inI x1.kind) (p1_1 : x1.name.b.length ≤ LEN) (p1_2 : inI x1.version) (p1_3 : repS w0 B (sl AE NE CE) x1.data) : CallsR prog 52 [(.agg #[vI x1.kind, Str.v x1.name, vI x1.version, sl AE NE CE])] w0 (Q1 w0 B res) := by
 unfold M_impl_EncodeRecord at hm
 refine goF func52 z z (lb z) fun fn hr => Ws<|E z (fb z) ?_
 rintro _ w15 ⟨rfl, hi⟩
 have h1 := hi.below
 have h8 : Blk w15 w0.z [vI x1.kind, Str.v x1.name, vI x1.version, sl AE NE CE] := hi.blk
 refine Ra z<|Wn<|Wq<|Ws<|R z (lN (vs := [vI x1.kind, Str.v x1.name, vI x1.version, sl AE NE CE]) g_76 z_76 z z fid<|h8.row 0 4 z) ?_
 have hj := p1_3.e h1
 obtain ⟨r2d, e16, hmk⟩ := bdS hm
 refine E z (fc call89 z<|W_w0k (B := B) e16 (lt_ hBw h1.s) p1_0 p1_1 p1_2 hj) ?_
 rintro _ w17 ⟨s0, rfl⟩
 refine R z (not_ z)<|Wn<|Wc z (fun hc9 => ?_) (fun hc9 => ?_)
 ·refine Ws<|E z (f0 (α := UInt8) el_25) ?_
  rintro _ w2e ⟨a18, n19, c1a, rfl, s1b, h1c⟩
  refine Ra z<|Wn ?_
  obtain rfl := som (ifT hmk hc9)
  exact Wr<|ret1 hr z ⟨(bup (bup h1 s0) s1b), a18, n19, c1a, [w17.z], z, h1c, nd_one, (m1<|lt_ h1.s s0.s)⟩
 refine Wk<|Ws<|R z (fd f_76_3 z) ?_
 have hl := h8.e s0
 refine R z (l1 g_25 z fid<|hl.at z) ?_
 have hn := lt_ h1.s s0.s
 obtain ⟨r2, e1d, hm1e⟩ := bdS (ifF hmk hc9)
 refine E z (fc call90 z<|W_w39 (B := B) e1d (lt_ hBw hn)<|hj.e s0) ?_
 rintro _ wa ⟨s5, a2f, n2g, c2h, S2i, rfl, h3, h2j, h2k⟩
 refine Ra z<|Wn<|Ws<|R z (fd f_76_0 z) ?_
 have hb := hl.e s5
 refine R z (l1 g_3 z fid<|hb.at z)<|R z (rd_convU d_3 d_5 z)<|R z (fd f_76_1 z)<|R z (l1 g_9 z fid<|hb.at z)<|R z (lnT d_9 z)<|R z (rd_convU d_3 d_5 z)<|E z (fS [(.tmp 14), (.tmp 18)] el_25 z z z (szAll z) (lb z)<|lb z) ?_
 rintro _ wm ⟨rfl, ho⟩
 have h4 := ho.below
 have h1f : Blk wm wa.z [(vU (byteI (mkB x1.kind))), (vU (byteI (mkB (x1.name.b.length : Int))))] := ho.blk
 have h1g : ownS wm [wa.z] (sl (some ⟨wa.z, 0, none⟩) 2 2) [mkB x1.kind, mkB (x1.name.b.length : Int)] := own_lit (l := [mkB x1.kind, mkB (x1.name.b.length : Int)]) h1f z
 refine Ra z<|Wn<|Ws<|Rm z<|R z (fd f_76_1 z) ?_
 have hp := hb.e h4
 refine R z (l1 g_9 z fid<|hp.at z) ?_
 obtain ⟨x2l, e1h, hm1i⟩ := bdS hm1e
 refine E z (ef_appendT el_25 d_9 e1h z z h1g nd_one) ?_
 rintro _ wc ⟨S2m, a2n, n2o, c2p, rfl, s6, h1j, h1k, hq⟩
 refine Ra z<|Wn<|Ws<|Rm z<|R z (fd f_76_2 z)<|R z (l1 g_3 z fid<|(hp.c s6<|djs<|mm1 h8.lt<|lt_ s0.s s5.s).at z)<|R z (rd_convU d_3 d_5 z)<|Rm z ?_
 have ht := mnr<|ownS.lt h3
 have hd := (h3.e h4).c s6<|ds ht
 refine R z (lnR d_25 z<|or_ hd<|ownS.lt h3)<|R z (rd_shr z z (by decide))<|R z (rd_convU d_3 d_5 z)<|Rm z<|R z (lnR d_25 z<|or_ hd<|ownS.lt h3)<|R z (rd_convU d_3 d_5 z)<|E z (fS [(.tmp 27), (.tmp 31), (.tmp 34)] el_25 z z z (szAll z) (lb z)<|lb z) ?_
 rintro _ wr ⟨rfl, hu⟩
 have h7 := hu.below
 have h1l : Blk wr wc.z [(vU (byteI (mkB x1.version))), (vU (byteI (mkB (shrK .i64 (r2.length : Int) 8)))), (vU (byteI (mkB (r2.length : Int))))] := hu.blk
 have h1m : ownS wr [wc.z] (sl (some ⟨wc.z, 0, none⟩) 3 3) [mkB x1.version, mkB (shrK .i64 (r2.length : Int) 8), mkB (r2.length : Int)] := own_lit (l := [mkB x1.version, mkB (shrK .i64 (r2.length : Int) 8), mkB (r2.length : Int)]) h1l z
 obtain ⟨x2q, e1n, hm1o⟩ := bdS hm1i
 refine E z (fN (α := UInt8) el_25 e1n z z (h1j.e h7) h1k<|ownS.rep h1m) ?_
 rintro _ w2r ⟨S2s, a2t, n2u, c2v, rfl, se, h1p, h1q, h1r⟩
 refine Ra z<|Wn<|Ws<|Rm z<|Rm z ?_
 obtain ⟨x2w, e1s, hm1t⟩ := bdS hm1o
 refine E z (fN (α := UInt8) el_25 e1s z z h1p h1q<|or_ ((hd.e h7).c se<|ds<|o1no hq ht (ownS.lt h3) h4.s)<|ownS.lt h3) ?_
 rintro _ w1u ⟨S2x, a2y, n2z, c30, rfl, ss, hv, h1v, h1w⟩
 refine Ra z<|Wn<|Ws<|Rm z<|Rm z ?_
 obtain ⟨r1x, e1y, hm1z⟩ := bdS hm1t
 refine E z (fc call91 z<|W_w1c (B := w1u.z) e1y lr<|ownS.rep hv) ?_
 rintro _ w20 ⟨sf, rfl, h31⟩
 refine R z (rd_convU d_3 d_5 z)<|E z (fS [(.tmp 43)] el_25 z z z (szAll z) (lb z)<|lb z) ?_
 rintro _ w21 ⟨rfl, hg⟩
 have hh := hg.below
 have h22 : Blk w21 w20.z [(vU (byteI (mkB r1x)))] := hg.blk
 have h32 := ownS_new1 hg UInt8_own
 obtain ⟨x33, e23, hm24⟩ := bdS hm1z
 refine E z (ef_pushN (α := UInt8) el_25 e23 z z ((hv.e sf).e hh) h1v h22 UInt8_own an_ nd_nil) ?_
 rintro _ w34 ⟨Sw, a25, n26, c27, rfl, s28, h29, h2a, h2b⟩
 refine Ra z<|Wn ?_
 obtain rfl := som hm24
 have hx := lt_ hn s5.s
 have hy := m1 hx
 have hz := lt_ hx h4.s
 have h10 := o1le hq hy hz
 have h11 := lt_ (lt_ hz s6.s) h7.s
 have h12 := o1le h1r h10 h11
 have h13 := lt_ h11 se.s
 have h14 := o1le h1w h12 h13
 have h2c : ∀ k ∈ Sw, w0.z ≤ k := or2 h2b h14 an_ (lele (lt_ (lt_ (lt_ h13 ss.s) sf.s) hh.s))
 exact Wr<|ret1 hr z ⟨(bM (bup (bup (bM (bM (bup (bM (bup (bup (bup h1 s0) s5) h4) s6 hy) h7) se h10) ss h12) sf) hh) s28 h14), a25, n26, c27, Sw, z, h29, h2a, h2c⟩
theorem W_w3a {x1 : List UInt8} {x2 : List UInt8} {res : Bool} (hm : M_bytes_Equal x1 x2 = some res) (hBw : B ≤ w0.z) (p1_0 : repS w0 B (sl A0 N0 C0) x1) (p2_0 : repS w0 B (sl A6 N6 C6) x2) : CallsR prog 152 [sl A0 N0 C0, sl A6 N6 C6] w0 (Q11 w0 B res) := by
 unfold M_bytes_Equal at hm
 refine goF func152 z z (lb z) fun fn hr => Ws<|Ra z<|Wn<|Ws<|Rm z<|R z (rd_convST d_25 d_9 d_5 z_5 z p1_0)<|Rm z<|R z (rd_convST d_25 d_9 d_5 z_5 z p2_0)<|R z (rd_eqlT z z)<|Ra z<|Wn ?_
 obtain rfl := som hm
 exact Wr<|ret1 hr z ⟨(br w0), z⟩
theorem W_w3b {x1 : List UInt8} {x2 : List UInt8} {res : Bool} (hm : M_impl_EqualBytes x1 x2 = some res) (hBw : B ≤ w0.z) (p1_0 : repS w0 B (sl A0 N0 C0) x1) (p2_0 : repS w0 B (sl A6 N6 C6) x2) : CallsR prog 137 [sl A0 N0 C0, sl A6 N6 C6] w0 (Q11 w0 B res) := by
 unfold M_impl_EqualBytes at hm
 refine goF func137 z z (lb z) fun fn hr => Ws<|Ra z<|Wn<|Ws<|Rm z<|Rm z ?_
 obtain ⟨r3, e0, hm1⟩ := bdS hm
 refine E z (fc call152 z<|W_w3a (B := B) e0 hBw p1_0 p2_0) ?_
 rintro _ w4 ⟨s2, rfl⟩
 refine Ra z<|Wn ?_
 obtain rfl := som hm1
 exact Wr<|ret1 hr z ⟨s2, z⟩
theorem W_w1e {x1 : List UInt8} {x2 : Int} {res : Record × Int × Bool} (hm : M_impl_DecodeRecord n x1 x2 = some res) (hBw : B ≤ w0.z) (p1_0 : repS w0 B (sl A0 N0 C0) x1) (p2_0 : inI x2) : CallsR prog 114 [sl A0 N0 C0, vI x2] w0 (Q13 w0 B res) := by
 unfold M_impl_DecodeRecord at hm
 refine goF func114 z z (lb z) fun fn hr => Ws<|E z (fa zero_76) ?_
 rintro _ wl ⟨rfl, h11⟩
 have hd := h11.below
 have h6 : Blk wl w0.z [vI 0, (Str.v (⟨[]⟩ : Str)), vI 0, sl none 0 0] := h11.blk
 refine Ra z<|Ra z<|Wn<|Wq<|Wq ?_
 obtain ⟨u1t, hu12, hm13⟩ := bdS hm
 refine Wt (fun a w => ∃ (xr : Bool), xr = u1t ∧ Sat 126 [(0, sl A0 N0 C0), (1, vI x2), (4, pt w0.z), (28, vB xr)] a ∧ Below wl.z wl w) ?_ ?_
 ·refine Wg<|Rm z<|R z (lss z z)<|Rm z ?_
  rcases bs (decide (x2 < 0)) with hc7 | hc7
  ·iterate 4 refine Nh z hc7 ?_
   exact R z (pT z hc7 z)<|Rm z<|Nh z z<|Nh z z<|Nh z z<|Nh z z<|Nh z z<|R z (pT z z z)<|Wl (fun _ q => ⟨true, som<|ifT hu12 hc7, (q.k<|s4 z z z z), (br wl)⟩)
  have hm14 := ifF hu12 hc7
  refine Rh z hc7 (mv z)<|Rh z hc7 (mv z) ?_
  have h15 := p1_0.e hd
  refine Rh z hc7 (lnR d_25 z h15)<|Rh z hc7 (rd_gtr z z)<|R z (pF z hc7 z)<|Rm z ?_
  rcases bs (decide ((x1.length : Int) < x2)) with hc3 | hc3
  ·iterate 5 refine Nh z hc3 ?_
   exact R z (pT z hc3 z)<|Wl (fun _ q => ⟨true, som<|ifT hm14 hc3, (q.k<|s4 z z z z), (br wl)⟩)
  exact Rh z hc3 (mv z)<|Rh z hc3 (lnR d_25 z h15)<|Rh z hc3 (mv z)<|Rh z hc3 (sb_ z z)<|Rh z hc3 (lss z z)<|R z (pF z hc3 z)<|Wl (fun _ q => ⟨decide ((isub (x1.length : Int) x2) < 2), som<|ifF hm14 hc3, (q.k<|s4 z z z z), (br wl)⟩)
 rintro a1u w3r ⟨xr, rfl, hS3s, s2⟩
 revert a1u
 refine Wo<|Wc z (fun hcs => ?_) (fun hcs => ?_)
 ·refine Ws<|R z (bP (parts := []) (cs := [vI 0, (Str.v (⟨[]⟩ : Str)), vI 0, sl none 0 0]) build_76 z z)<|Rm z<|E0 (fs (cur' := [vI 0, (Str.v (⟨[]⟩ : Str)), vI 0, sl none 0 0]) z_76 z z (h6.e s2) z (lb z) (oA z) z) ?_
  rintro _ w3t ⟨h1v, s1w⟩
  refine Ra z<|Ra z<|Wn ?_
  obtain rfl := som (ifT hm13 hcs)
  exact Wr<|ret3 hr (resC g_76 z_76 z h1v z) z z ⟨(bM (bup hd s2) s1w.one<|mem1 lr), none, 0, 0, [], z, (ii z), (lb z), (ii z), onL, p2_0, nd_nil, an_⟩
 refine Wk<|Ws<|Rm z<|Rm z ?_
 obtain ⟨x3u, e1x, hm1y⟩ := bdS (ifF hm13 hcs)
 refine RX z (rX d_25 z_5 z z ((p1_0.e hd).e s2) z z e1x) ?_
 rintro _ ⟨a3v, n3w, c3x, rfl, hv⟩
 refine Ra z<|Wn<|Ws<|Rm z ?_
 obtain ⟨x1z, e20, hm16⟩ := bdS hm1y
 refine RX z (at_ (α := UInt8) d_25 z_5 z z z hv e20) ?_
 rintro _ ⟨b3y, o3z, cs40, rfl, h21, h22, h41⟩
 obtain rfl := u8 h22
 refine R z (l1 g_5 z fid<|h21.at0 z)<|R z (rd_convUI d_5 d_3 z)<|Ra z<|Wn<|Wq<|Ws<|Rm z<|R z (lnR d_25 z hv)<|Rm z<|R z (add_ z z)<|R z (lss z z)<|Wn<|Wc z (fun hcw => ?_) (fun hcw => ?_)
 ·refine Ws<|R z (bP (parts := []) (cs := [vI 0, (Str.v (⟨[]⟩ : Str)), vI 0, sl none 0 0]) build_76 z z)<|Rm z<|E0 (fs (cur' := [vI 0, (Str.v (⟨[]⟩ : Str)), vI 0, sl none 0 0]) z_76 z z (h6.e s2) z (lb z) (oA z) z) ?_
  rintro _ w42 ⟨h23, s24⟩
  refine Ra z<|Ra z<|Wn ?_
  obtain rfl := som (ifT hm16 hcw)
  exact Wr<|ret3 hr (resC g_76 z_76 z h23 z) z z ⟨(bM (bup hd s2) s24.one<|mem1 lr), none, 0, 0, [], z, (ii z), (lb z), (ii z), onL, p2_0, nd_nil, an_⟩
 refine Wk<|Wq (Wd (X := noX) 0 (.rd 0 (.rd 1 (.rd 2 (.rd 3 (.rd 4 (.rd 5 (.rd 6 (.rd 7 (.rd 8 (.rd 9 (.rd 10 (.rd 11 (.rd 12 (.rd 13 (.rd 14 .done))))))))))))))) mo (by kernel_rfl) fun w43 s8 _ => dR z z (mv z)<|dR z z (mv z)<|dR z z (add_ z z) ?_)
 obtain ⟨x25, e26, hm27⟩ := bdS (ifF hm16 hcw)
 have hq := hv.e s8
 refine dRX z z (at_ (α := UInt8) d_25 z_5 z z z hq e26) ?_
 rintro _ ⟨b44, o45, cs46, rfl, h28, h29, h47⟩
 obtain rfl := u8 h29
 refine dR z z (l1 g_5 z fid<|h28.at0 z)<|dR z z (rd_convUI d_5 d_3 z)<|dR z z (rd_shl z z (by decide))<|dR z z (mv z)<|dR z z (mv z)<|dR z z (add_ z z) ?_
 obtain ⟨x2a, e2b, hm17⟩ := bdS hm27
 refine dRX z z (at_ (α := UInt8) d_25 z_5 z z z hq e2b) ?_
 rintro _ ⟨b48, o49, cs4a, rfl, h2c, h2d, h4b⟩
 obtain rfl := u8 h2d
 refine dR z z (l1 g_5 z fid<|h2c.at0 z)<|dR z z (rd_convUI d_5 d_3 z)<|dR z z (rd_or z z)<|dR z z (asg z)<|pD<|Wo<|Wq<|Ws<|Rm z<|R z (lnR d_25 z hq)<|Rm z<|R z (add_ z z)<|Rm z<|R z (add_ z z)<|R z (lss z z)<|Wn<|Wc z (fun hcx => ?_) (fun hcx => ?_)
 ·refine Ws<|R z (bP (parts := []) (cs := [vI 0, (Str.v (⟨[]⟩ : Str)), vI 0, sl none 0 0]) build_76 z z)<|Rm z<|E0 (fs (cur' := [vI 0, (Str.v (⟨[]⟩ : Str)), vI 0, sl none 0 0]) z_76 z z ((h6.e s2).e s8) z (lb z) (oA z) z) ?_
  rintro _ w4c ⟨h2e, s2f⟩
  refine Ra z<|Ra z<|Wn ?_
  obtain rfl := som (ifT hm17 hcx)
  exact Wr<|ret3 hr (resC g_76 z_76 z h2e z) z z ⟨(bM (bup (bup hd s2) s8) s2f.one<|mem1 lr), none, 0, 0, [], z, (ii z), (lb z), (ii z), onL, p2_0, nd_nil, an_⟩
 refine Wk<|Ws<|Rm z ?_
 obtain ⟨x4d, e2g, hm2h⟩ := bdS (ifF hm17 hcx)
 refine E z (ef_makeN (α := UInt8) el_25 (fun _ => UInt8_own0) e2g z z) ?_
 rintro _ w2i ⟨a4e, n4f, c4g, rfl, s9, h18⟩
 refine Ra z<|Wn<|Ws<|Rm z<|Rm z<|Rm z<|R z (add_ z z) ?_
 obtain ⟨x4h, e2j, hm2k⟩ := bdS hm2h
 have h19 := hq.e s9
 refine RX z (rX d_25 z_5 z z h19 z z e2j) ?_
 rintro _ ⟨a4i, n4j, c4k, rfl, h2l⟩
 refine E z (ef_copyB d_25 z_5 z z h18 h2l) ?_
 rintro _ w4l ⟨rfl, s5, h2m⟩
 refine Wn<|Ws<|Rm z ?_
 obtain ⟨r1a, r2n, e2o, hm2p⟩ := bd2S hm2k
 refine E z (fc call136 z<|W_w34 (B := w2i.z) e2o s5.s<|or_ h2m<|ownS.lt h18) ?_
 rintro _ w1b ⟨sa, ai, nj, ck, S2q, rfl, hn, h2r, h1c⟩
 refine Rm z<|R z (ext_ z z)<|R z (ext_ z z)<|Ra z<|Ra z<|Wn<|Wq (Wd (X := noX) 262144 (.rd 0 (.rd 1 (.rd 2 (.rd 3 (.rd 4 (.rd 5 (.rd 6 (.rd 7 (.rd 8 (.rd 9 (.rd 10 (.rd 11 (.rd 12 (.rd 13 (.rd 14 (.rd 15 (.rd 16 (.ef 17 (.ef 18 .done))))))))))))))))))) mo (by kernel_rfl) fun w1d s1 _ => dR z z (mv z) ?_)
 obtain ⟨xe, e2s, hm2t⟩ := bdS hm2p
 have ho := lt_ (lt_ hd.s s2.s) s8.s
 have ht := ((h19.c s5<|lg<|m1<|lt_ hBw ho).e sa).e s1
 refine dRX z z (at_ (α := UInt8) d_25 z_5 z z z ht e2s) ?_
 rintro _ ⟨b4m, o4n, cs4o, rfl, h2u, h2v, h4p⟩
 obtain rfl := u8 h2v
 refine dR z z (l1 g_5 z fid<|h2u.at0 z)<|dR z z (rd_convUI d_5 d_3 z)<|dR z z (mv z)<|dR z z (mv z)<|dR z z (add_ z z) ?_
 obtain ⟨xf, e2w, hm2x⟩ := bdS hm2t
 refine dRX z z (rX d_25 z_5 z z ht z z e2w) ?_
 rintro _ ⟨a4q, n4r, c4s, rfl, hu⟩
 refine dR z z (rd_convST d_25 d_9 d_5 z_5 z hu)<|dR z z (mv z)<|dR z z (mv z)<|dR z z (add_ z z) ?_
 obtain ⟨xg, e2y, hm2z⟩ := bdS hm2x
 refine dRX z z (at_ (α := UInt8) d_25 z_5 z z z ht e2y) ?_
 rintro _ ⟨b4t, o4u, cs4v, rfl, h30, h31, h4w⟩
 obtain rfl := u8 h31
 refine dR z z (l1 g_5 z fid<|h30.at0 z)<|dR z z (rd_convUI d_5 d_3 z)<|dR z z (mv z)<|dR z z (bP (parts := [(0, (.tmp 84)), (1, (.tmp 89)), (2, (.tmp 95)), (3, (.tmp 96))]) (cs := [vI (byteI xe), Str.v (⟨xf⟩ : Str), vI<|byteI xg, sl ai nj ck]) build_76 z z)<|dE z z (fa zero_76) (.inr fun _ _ h => chgB<|h.2.below) ?_
 rintro _ w32 ⟨rfl, h1e⟩
 have hb := h1e.below
 have h33 : Blk w32 w1d.z [vI 0, (Str.v (⟨[]⟩ : Str)), vI 0, sl none 0 0] := h1e.blk
 refine dE0 z (fs (cur' := [vI (byteI xe), Str.v (⟨xf⟩ : Str), vI<|byteI xg, sl ai nj ck]) z_76 z z h33 z (lb z) (oA z) z) (.inl z) ?_
 rintro _ w1f ⟨h1g, s34⟩
 have hc := s34.one
 refine pD<|Wo<|Wq<|Wq ?_
 obtain ⟨u35, hu1h, hm1i⟩ := bdS hm2z
 refine Wt (fun a w => ∃ (xy : Bool), xy = u35 ∧ Sat 126 [(1, vI x2), (4, pt w0.z), (8, vI<|byteI x1z), (9, (vI<|bitop .i64 (· ||| ·) (shlK .i64 (byteI x25) 8)<|byteI x2a)), (13, pt w1d.z), (116, vB xy)] a ∧ Below w1f.z w1f w) ?_ ?_
 ·refine Wd (X := noX) 0 (.rd 0 (.rd 1 (.rd 2 (.rd 3 (.ef 4 (.rd 5 (.rd 6 (.rd 7 (.rd 8 (.rd 10 (.rd 11 (.rd 12 (.rd 13 (.rd 14 (.rd 15 (.ef 9 (.ef 16 (.rd 17 (.rd 18 .done))))))))))))))))))) mo (by kernel_rfl) fun w4x sh _ => dR z z (mv z)<|dR z z (not_ z)<|dR z z (mv z) ?_
  rcases bs (!r2n) with hc4 | hc4
  ·refine dRn z z z hc4 z<|dEn z z z hc4 z<|dRn z z z hc4 z<|dR z z (pT z hc4 z)<|dR z z (mv z) ?_
   iterate 7 refine dRn z z z z z ?_
   exact dEn z z z z z<|dEn z z z z z<|dRn z z z z z<|dR z z (pT z z z)<|pD (fun _ q => ⟨true, som<|ifT hu1h hc4, (q.k<|s6 z z z z z z), sh⟩)
  have h1j := h1g.e sh
  refine dRg z z z hc4 z (lN (vs := [vI (byteI xe), Str.v (⟨xf⟩ : Str), vI<|byteI xg, sl ai nj ck]) g_76 z_76 z z fid<|h1j.row 0 4 z) ?_
  have h1k := (((hn.e s1).e hb).c hc<|ds<|mno (ownS.lt hn) s1.s).e sh
  have h1l := lt_ (lt_ (lt_ s1.s hb.s) hc.s) sh.s
  obtain ⟨r36, e37, hm1m⟩ := bdS (ifF hu1h hc4)
  refine dEg z z z hc4 z (fc call89 z<|W_w0k (B := w1b.z) (x1 := (⟨byteI xe, (⟨xf⟩ : Str), byteI xg, r1a⟩ : Record)) e37 h1l (inI_byte _) (repS.len hu) (inI_byte _)<|or_ h1k<|ownS.lt hn) (.inr fun _ _ h => chgB<|h.1) ?_
  rintro _ w4y ⟨sm, rfl⟩
  refine dRg z z z hc4 z (not_ z)<|dR z z (pF z hc4 z)<|dR z z (mv z) ?_
  rcases bs (!r36) with hc0 | hc0
  ·iterate 7 refine dRn z z z hc0 z ?_
   exact dEn z z z hc0 z<|dEn z z z hc0 z<|dRn z z z hc0 z<|dR z z (pT z hc0 z)<|pD (fun _ q => ⟨true, som<|ifT hm1m hc0, (q.k<|s6 z z z z z z), (bup sh sm)⟩)
  refine dRg z z z hc0 z (lN (vs := [vI (byteI xe), Str.v (⟨xf⟩ : Str), vI<|byteI xg, sl ai nj ck]) g_76 z_76 z z fid<|(h1j.e sm).row 0 4 z)<|dRg z z z hc0 z (mv z)<|dRg z z z hc0 z (mv z)<|dRg z z z hc0 z (add_ z z)<|dRg z z z hc0 z (mv z)<|dRg z z z hc0 z (add_ z z) ?_
  obtain ⟨x4z, e38, hm39⟩ := bdS (ifF hm1m hc0)
  have h1n := lt_ (lt_ (lt_ (lt_ ho s9.s) s5.s) sa.s) s1.s
  refine dRXg z z z hc0 z (rX d_25 z_5 z z ((((ht.e hb).c hc<|lg<|m1<|lt_ hBw h1n).e sh).e sm) z z e38) ?_
  rintro _ ⟨a50, n51, c52, rfl, h3a⟩
  obtain ⟨r53, e3b, hm3c⟩ := bdS hm39
  refine dEg z z z hc0 z (fc call52 z<|W_w1d (B := w1b.z) (x1 := (⟨byteI xe, (⟨xf⟩ : Str), byteI xg, r1a⟩ : Record)) e3b (lt_ h1l sm.s) (inI_byte _) (repS.len hu) (inI_byte _)<|or_ (h1k.e sm)<|ownS.lt hn) (.inr fun _ _ h => chgB<|h.1) ?_
  rintro _ w3d ⟨sz, a54, n55, c56, S57, rfl, h3e, h58, h59⟩
  obtain ⟨r3f, e3g, hm3h⟩ := bdS hm3c
  refine dEg z z z hc0 z (fc call137 z<|W_w3b (B := w3d.z) e3g lr (ownS.rep h3e)<|repS.mono (h3a.e sz)<|lt_ hBw<|lt_ (lt_ (lt_ (lt_ (lt_ h1n hb.s) hc.s) sh.s) sm.s) sz.s) (.inr fun _ _ h => chgB<|h.1) ?_
  rintro _ w5a ⟨s3i, rfl⟩
  exact dRg z z z hc0 z (not_ z)<|dR z z (pF z hc0 z)<|pD (fun _ q => ⟨!r3f, som hm3h, (q.k<|s6 z z z z z z), (bup (bup (bup sh sm) sz) s3i)⟩)
 rintro a3j w5b ⟨xy, rfl, hS5c, sp⟩
 revert a3j
 refine Wo<|Wc z (fun hc10 => ?_) (fun hc10 => ?_)
 ·refine Ws<|R z (bP (parts := []) (cs := [vI 0, (Str.v (⟨[]⟩ : Str)), vI 0, sl none 0 0]) build_76 z z)<|Rm z ?_
  have h1o := lt_ s2.s s8.s
  have h3k := (((((((h6.e s2).e s8).e s9).c s5<|djs<|mm1 h6.lt h1o).e sa).e s1).e hb).c hc<|djs<|mm1 h6.lt<|lt_ (lt_ (lt_ (lt_ h1o s9.s) s5.s) sa.s) s1.s
  refine E0 (fs (cur' := [vI 0, (Str.v (⟨[]⟩ : Str)), vI 0, sl none 0 0]) z_76 z z (h3k.e sp) z (lb z) (oA z) z) ?_
  rintro _ w5d ⟨h3l, s3m⟩
  refine Ra z<|Ra z<|Wn ?_
  obtain rfl := som (ifT hm1i hc10)
  have h3n := bM (bup (bM (bup (bup (bup (bM (bup (bup (bup hd s2) s8) s9) s5<|m1 ho) sa) s1) hb) hc<|m1<|lt_ (lt_ (lt_ (lt_ ho s9.s) s5.s) sa.s) s1.s) sp) s3m.one<|mem1 lr
  exact Wr<|ret3 hr (resC g_76 z_76 z h3l z) z z ⟨h3n, none, 0, 0, [], z, (ii z), (lb z), (ii z), onL, p2_0, nd_nil, an_⟩
 refine Wk<|Ws<|R z (lN (vs := [vI (byteI xe), Str.v (⟨xf⟩ : Str), vI<|byteI xg, sl ai nj ck]) g_76 z_76 z z fid<|(h1g.e sp).row 0 4 z)<|Rm z<|Rm z<|R z (add_ z z)<|R z (add_ z z)<|Rm z<|R z (add_ z z) ?_
 have h1p := lt_ s2.s s8.s
 have h1q := lt_ (lt_ h1p s9.s) s5.s
 have h3o := (((((((h6.e s2).e s8).e s9).c s5<|djs<|mm1 h6.lt h1p).e sa).e s1).e hb).c hc<|djs<|mm1 h6.lt<|lt_ (lt_ h1q sa.s) s1.s
 refine E0 (fs (cur' := [vI (byteI xe), Str.v (⟨xf⟩ : Str), vI<|byteI xg, sl ai nj ck]) z_76 z z (h3o.e sp) z (lb z) (oA z) z) ?_
 rintro _ w5e ⟨h3p, s3q⟩
 have h1r := s3q.one
 refine Ra z<|Ra z<|Wn ?_
 obtain rfl := som (ifF hm1i hc10)
 have h1s := lt_ (lt_ ho s9.s) s5.s
 exact Wr<|ret3 hr (resC g_76 z_76 z h3p z) z z ⟨(bM (bup (bM (bup (bup (bup (bM (bup (bup (bup hd s2) s8) s9) s5<|m1 ho) sa) s1) hb) hc<|m1<|lt_ (lt_ h1s sa.s) s1.s) sp) h1r<|mem1 lr), ai, nj, ck, S2q, z, (inI_byte _), (repS.len hu), (inI_byte _), (((((hn.e s1).e hb).c hc<|ds<|mno (ownS.lt hn) s1.s).e sp).c h1r<|o0n1 h1c h6.lt h1q), (iA _ _), h2r, (o0le h1c h1s)⟩
theorem W_w3c {x1 : Log} {res : Bool} (hm : M_impl_mustBeLog n x1 = some res) (hBw : B ≤ w0.z) (p1_0 : repS w0 B (sl A0 N0 C0) x1.bytes) (p1_1 : inI x1.stored) : Calls prog 113 [(.agg #[sl A0 N0 C0, vI x1.stored])].toArray w0 (PanEnd (.iface 129 (.agg #[])) (fun q w' => q = res ∧ Bw w0 w')) := by
 unfold M_impl_mustBeLog at hm
 obtain ⟨fn, hf, hb, hN, hr⟩ := fnE func113
 refine CallsP_of_WC hf (hb.trans z) (hN.trans z) (lb z)<|Ws<|E z (fb z) ?_
 rintro _ wz ⟨rfl, hn⟩
 have h1 := hn.below
 have h8 : Blk wz w0.z [sl A0 N0 C0, vI x1.stored] := hn.blk
 refine Wn<|Wq<|Ws<|R z (fd f_35_1 z)<|R z (l1 g_3 z fid<|h8.at z)<|R z (fd f_35_0 z)<|R z (l1 g_25 z fid<|h8.at z) ?_
 have hc := p1_0.e h1
 refine R z (lnR d_25 z hc) ?_
 obtain ⟨r1l, e10, hmm⟩ := bdS hm
 refine E z (fc call117 z<|W_w03 (B := B) e10 (lt_ hBw h1.s) p1_1 (ii z)<|inI_len<|repS.len hc) ?_
 rintro _ w7 ⟨s2, rfl⟩
 refine R z (not_ z)<|Wn<|Wc z (fun hcb => ?_) (fun hcb => ?_)
 ·refine Wg<|R z (bP (parts := []) (cs := []) build_129 z z)<|R z (rd_makeIface d_129 (fun _ h => by cases h) z) ?_
  obtain rfl := som (ifT hmm hcb)
  exact WL_panic z fun _ ha => ⟨false, .inr ⟨rfl, z, ha.defers, z, (bup h1 s2)⟩⟩
 refine Wk<|Ws<|R z (fd f_35_1 z) ?_
 have ho := h8.e s2
 refine R z (l1 g_3 z fid<|ho.at z)<|R z (eql z z)<|Ra z<|Wn<|Wq<|Ws<|Ra z<|Wn ?_
 obtain ⟨u1m, hu11, hmp⟩ := bdS (ifF hmm hcb)
 refine WC_iterP (σ := Bool × Int) (ρ := Bool) (fun s a w => un2 (fun x3 x5 => Sat 48 [(1, pt w0.z), (2, vB x3), (3, vI x5)] a ∧ Below w7.z w7 w ∧ inI x5) s) (fun s a w => un2 (fun x3 x5 => Sat 48 [(2, vB x3)] a ∧ Below w7.z w7 w ∧ inI x5) s) (fun r ex a w => r = false ∧ ex = .panic (chainOf (.iface 129 (.agg #[]))) ∧ a.defers = [] ∧ Below w0.z w0 w) hu11 ?_ ?_ ?_ ?_
 ·exact fun _ q => ⟨(q.k<|s3 z z z), (br w7), (ii z)⟩
 ·rintro ⟨x3, x5⟩ a1n w1o o1p ⟨hS12, s4, hd⟩ hm13
  have hmq := un2S hm13
  refine Wu ?_ hS12
  refine Wq<|Ws<|Rm z<|R z (fd f_35_0 z) ?_
  have he := ho.e s4
  refine R z (l1 g_25 z fid<|he.at z) ?_
  have ht := (hc.e s2).e s4
  refine R z (lnR d_25 z ht)<|R z (lss z z)<|Wn<|Wc z (fun hcf => ?_) (fun hcf => ?_)
  ·refine Wk<|Wb<|Ws<|R z (fd f_35_0 z)<|R z (l1 g_25 z fid<|he.at z)<|Rm z ?_
   have hu := lt_ (lt_ h1.s s2.s) s4.s
   obtain ⟨rg, rh, r1q, e14, hmr⟩ := bd3S (ifT hmq hcf)
   refine E z (fc call114 z<|W_w1e (B := B) e14 (lt_ hBw hu) ht hd) ?_
   rintro _ w15 ⟨s6, a16, n17, c18, S1r, rfl, h1s, h1t, h1u, h1v, h19, h1w, h1x⟩
   refine Rm z ?_
   iterate 3 refine R z (ext_ z z) ?_
   refine E z (fa zero_76) ?_
   rintro _ w1a ⟨rfl, hv⟩
   have hi := hv.below
   have h1b : Blk w1a w15.z [vI 0, (Str.v (⟨[]⟩ : Str)), vI 0, sl none 0 0] := hv.blk
   refine E0 (fs (cur' := [vI rg.kind, Str.v rg.name, vI rg.version, sl a16 n17 c18]) z_76 z z h1b z (lb z) (oA z) z) ?_
   rintro _ w9 ⟨h1y, s1c⟩
   have hj := s1c.one
   refine Ra z<|Ra z<|Wn<|Wq<|Ws<|Rm z<|R z (not_ z)<|Wn<|Wc z (fun hck => ?_) (fun hck => ?_)
   ·exact Wg<|R z (bP (parts := []) (cs := []) build_129 z z)<|R z (rd_makeIface d_129 (fun _ h => by cases h) z) (WL_panic z fun _ ha => .inr ⟨false, (som<|ifT hmr hck).symm, z, z, ha.defers, (bM (bup (bup (bup (bup h1 s2) s4) s6) hi) hj<|m1<|lt_ hu s6.s)⟩)
   refine Wk<|Ws<|Rm z<|Ra z<|Wn ?_
   obtain ⟨u1d, hus, hm1e⟩ := bdS (ifF hmr hck)
   refine Wt (fun a w => ∃ (xa : Bool), xa = u1d ∧ Sat 48 [(1, pt w0.z), (2, vB xa), (3, vI rh)] a ∧ Below w9.z w9 w) ?_ ?_
   ·refine Wg<|Rm z<|Rm z ?_
    rcases bs x3 with hc0 | hc0
    ·iterate 4 refine Nh z hc0 ?_
     exact R z (pT z hc0 z)<|Ra z<|Wl (fun _ q => ⟨true, som<|ifT hus hc0, (q.k<|s3 z z z), (br w9)⟩)
    exact Rh z hc0 (mv z)<|Rh z hc0 (fd f_35_1 z)<|Rh z hc0 (l1 g_3 z fid<|(((he.e s6).e hi).c hj<|djs<|mm1 h8.lt<|lt_ (lt_ s2.s s4.s) s6.s).at z)<|Rh z hc0 (eql z z)<|R z (pF z hc0 z)<|Ra z<|Wl (fun _ q => ⟨rh == x1.stored, som<|ifF hus hc0, (q.k<|s3 z z z), (br w9)⟩)
   rintro a1f w1z ⟨xa, rfl, hS20, s1g⟩
   revert a1f
   exact fun _ q => ⟨(xa, rh), (som hm1e).symm, ⟨(q.k<|s3 z z z), (bup (bM (bup (bup s4 s6) hi) hj<|m1<|lt_ s4.s s6.s) s1g), h19⟩⟩
  exact We (fun a' ha' => QO_brk (som<|ifF hmq hcf).symm ⟨(Sat.weaken ha'<|s1 z), s4, hd⟩)
 ·rintro ⟨x3, x5⟩ a1h w21 rfl ⟨hS22, sw, hd⟩
  have hm1i := elL hmp
  have hmx := un2S hm1i
  revert a1h
  refine Wo<|Ws<|Rm z<|R z (not_ z)<|Wn<|Wc z (fun hcl => ?_) (fun hcl => ?_)
  ·refine Wg<|R z (bP (parts := []) (cs := []) build_129 z z)<|R z (rd_makeIface d_129 (fun _ h => by cases h) z) ?_
   obtain rfl := som (ifT hmx hcl)
   exact WL_panic z fun _ ha => ⟨false, .inr ⟨rfl, z, ha.defers, z, (bup (bup h1 s2) sw)⟩⟩
  refine WC_skip ?_
  obtain rfl := som (ifF hmx hcl)
  exact ret0 hr ⟨rfl, (bup (bup h1 s2) sw)⟩
 rintro r23 exy a24 w25 rfl ⟨rfl, rfl, hq1j, exy⟩
 have hm1k := elR hmp
 obtain rfl := som hm1k
 exact ⟨⟨false, .inr ⟨rfl, z, hq1j, z, exy⟩⟩, _, z⟩
theorem log_as1 (w : World) : (Instr.typeAssert (.iface 129 (.agg #[])) 20 129 true).run Tryz.prog w = .ok (.tuple #[.agg #[], .bool true]) w := by kernel_rfl
theorem log_as0 (w : World) : (Instr.typeAssert .nilIface 20 129 true).run Tryz.prog w = .ok (.tuple #[.agg #[], .bool false]) w := by kernel_rfl
set_option maxRecDepth 4000 in
theorem catch_yes (p : Addr) (b : Bool) (older : List PanicEntry) (w : World) (hc : w.cell? p = some (vB b)) (hz : w.frozen? p = false) (hp : p.block < w.heap.size) :
    CallsD Tryz.prog 112 #[.pointer (some p)] (.panicking ({ v := .iface 129 (.agg #[]), recovered := false } :: older)) w fun e u' w' =>
      e = .returned (.tuple #[]) ∧ u' = .panicking ({ v := .iface 129 (.agg #[]), recovered := true } :: older) ∧ w' = (w.alloc (.cells #[] 129)).setCell p (vB false) := by
  refine callsD_of_wpS Tryz.func112 rfl fun c₀ cs hu => ?_
  apply wpS_seq
  apply wpS_region
  simp [wpOpsS, go_sem, recoverD, hu, Tryz.ntmps112, Exit.thenS, log_as1]
  apply wpS_seq
  apply wpS_region
  simp [wpOpsS, go_sem, Exit.thenS]
  refine wpS_cond (t := true) (by simp [Act.eval]) ?_
  simp only [if_true]
  apply wpS_region
  have hb := alloc_below w (.cells #[] 129)
  have hc1 : (w.alloc (.cells #[] 129)).cell? p = some (vB b) := (hb.cell (p := p) hp).trans hc
  have hz1 : (w.alloc (.cells #[] 129)).frozen? p = false := (hb.frozen (p := p) hp).trans hz
  simp [wpOpsS, go_sem, bodyPostS, results, Tryz.results112, hc1, hz1]
set_option maxRecDepth 4000 in
theorem catch_no (p : Addr) (w : World) :
    CallsD Tryz.prog 112 #[.pointer (some p)] .returning w fun e u' w' => e = .returned (.tuple #[]) ∧ u' = .returning ∧ w' = w.alloc (.cells #[] 129) := by
  refine callsD_of_wpS Tryz.func112 rfl fun c₀ cs hu => ?_
  apply wpS_seq
  apply wpS_region
  simp [wpOpsS, go_sem, recoverD, hu, Tryz.ntmps112, Exit.thenS, log_as0]
  apply wpS_seq
  apply wpS_region
  simp [wpOpsS, go_sem, Exit.thenS]
  refine wpS_cond (t := false) (by simp [Act.eval]) ?_
  simp only [Bool.false_eq_true, if_false]
  refine wpS_of_wp (wp_skip ?_)
  cases c₀
  simp_all [bodyPostS, results, Tryz.results112]
theorem log_world {w0 : World} {a b : Value} : (∀ w', Below ((w0.alloc (.cells #[a, b] 35)).alloc (.cells #[.bool false] 4)).heap.size ((w0.alloc (.cells #[a, b] 35)).alloc (.cells #[.bool false] 4)) w' →
    (w'.cell? ⟨w0.heap.size + 1, 0, none⟩ = some (vB false) ∧ w'.frozen? ⟨w0.heap.size + 1, 0, none⟩ = false ∧ Bw w0 w' ∧ w0.heap.size + 1 < w'.heap.size)) ∧ Below w0.heap.size w0 ((w0.alloc (.cells #[a, b] 35)).alloc (.cells #[.bool false] 4)) := by
  have hB1 : Below w0.heap.size w0 ((w0.alloc (.cells #[a, b] 35)).alloc (.cells #[.bool false] 4)) :=
    (alloc_below w0 _).trans ((alloc_below (w0.alloc (.cells #[a, b] 35)) (.cells #[.bool false] 4)).mono (by simp))
  refine ⟨fun w' hb => ?_, hB1⟩
  have hs0 : ((w0.alloc (.cells #[a, b] 35)).alloc (.cells #[.bool false] 4)).heap.size = w0.heap.size + 2 := by simp
  have hsz := hb.size
  refine ⟨(hb.cell (p := ⟨w0.heap.size + 1, 0, none⟩) (by rw [hs0]; simp only; omega)).trans (by simp [go_sem]), (hb.frozen (p := ⟨w0.heap.size + 1, 0, none⟩) (by rw [hs0]; simp only; omega)).trans (by simp [go_sem]), hB1.trans (hb.mono hB1.size), by omega⟩
theorem W_w1f {n : Nat} {B : Nat} {x1 : Log} {A0 : Option Addr} {N0 C0 : Nat} {res : Bool} {w0 : World} (hm : M_impl_IsValidLog n x1 = some res) (hBw : B ≤ w0.heap.size) (p1_0 : repS w0 B (sl A0 N0 C0) x1.bytes) (p1_1 : inI x1.stored) : CallsR Tryz.prog 83 [(.agg #[(sl A0 N0 C0), (vI x1.stored)])] w0 (fun v w' => Bw w0 w' ∧ vB res = v) := by
  constructor
  have hmf : ∀ (fn : Fn) (first cap : Array Value) (w : World), (Instr.makeFunc fn first cap).run Tryz.prog w = .ok (.func fn first cap) w := fun _ _ _ _ => rfl
  have L := log_world (w0 := w0) (a := sl A0 N0 C0) (b := vI x1.stored)
  have hmb := W_w3c (B := B) hm (Nat.le_trans hBw L.2.size) (p1_0.ext L.2) p1_1
  have H := Lib.hid L.1
  clear L hm p1_0 hBw
  go_enter_defers Tryz.func83, Tryz.ntmps83
  go_wp2_with (go_at_call 113; refine hmb.mono ?_; (rintro e w' (⟨v, rfl, rfl, hb⟩ | ⟨rfl, rfl, hb⟩) <;> (obtain ⟨hc, hz, hB, hsz⟩ := H.out _ hb; clear hmb hb H)))
  · refine leaves_cons (f := 112) (args := #[.pointer (some ⟨w0.heap.size + 1, 0, none⟩)]) (by simp) (by simp [go_sem]) ?_
    refine (catch_no _ _).mono ?_
    rintro e u' w'' ⟨rfl, rfl, rfl⟩
    have hB2 := hB.setCell (p := ⟨w0.heap.size + 1, 0, none⟩) (by simp) (vB true)
    have hB3 := hB2.trans ((alloc_below (w'.setCell ⟨w0.heap.size + 1, 0, none⟩ (vB true)) (.cells #[] 129)).mono hB2.size)
    have hc3 : ((w'.setCell ⟨w0.heap.size + 1, 0, none⟩ (vB true)).alloc (.cells #[] 129)).cell? ⟨w0.heap.size + 1, 0, none⟩ = some (vB true) :=
      ((alloc_below (w'.setCell ⟨w0.heap.size + 1, 0, none⟩ (vB true)) (.cells #[] 129)).cell (p := ⟨w0.heap.size + 1, 0, none⟩) (by simpa using hsz)).trans (World.cell?_setCell_same _ _ _ hc)
    simp [Leaves, settle, results, Tryz.results83, go_sem, hc3]
    exact hB3
  · refine leaves_cons (f := 112) (args := #[.pointer (some ⟨w0.heap.size + 1, 0, none⟩)]) (by simp) (by simp [go_sem]) ?_
    refine (catch_yes ⟨w0.heap.size + 1, 0, none⟩ false [] _ hc hz hsz).mono ?_
    rintro e u' w'' ⟨rfl, rfl, rfl⟩
    have hB2 := hB.trans ((alloc_below w' (.cells #[] 129)).mono hB.size)
    have hB3 := hB2.setCell (p := ⟨w0.heap.size + 1, 0, none⟩) (by simp) (vB false)
    have hc2 : (w'.alloc (.cells #[] 129)).cell? ⟨w0.heap.size + 1, 0, none⟩ = some (vB false) :=
      ((alloc_below w' (.cells #[] 129)).cell (p := ⟨w0.heap.size + 1, 0, none⟩) hsz).trans hc
    have hc3 : ((w'.alloc (.cells #[] 129)).setCell ⟨w0.heap.size + 1, 0, none⟩ (vB false)).cell? ⟨w0.heap.size + 1, 0, none⟩ = some (vB false) := World.cell?_setCell_same _ _ _ hc2
    simp [Leaves, settle, results, Tryz.results83, go_sem, hc3]
    exact hB3
theorem W_w3d {x1 : Log} {x2 : Record} {res : Log × Bool} (hm : M_impl_AppendRecord n x1 x2 = some res) (hBw : B ≤ w0.z) (p1_0 : repS w0 B (sl A0 N0 C0) x1.bytes) (p1_1 : inI x1.stored) (p2_0 : inI x2.kind) (p2_1 : x2.name.b.length ≤ LEN) (p2_2 : inI x2.version) (p2_3 : repS w0 B (sl AC NC CC) x2.data) : CallsR prog 56 [(.agg #[sl A0 N0 C0, vI x1.stored]), (.agg #[vI x2.kind, Str.v x2.name, vI x2.version, sl AC NC CC])] w0 (Q15 w0 B res) := by
 unfold M_impl_AppendRecord at hm
 refine goF func56 z z (lb z) fun fn hr => Ws<|E z (fb z) ?_
 rintro _ wo ⟨rfl, hz⟩
 have ha := hz.below
 have h10 : Blk wo w0.z [sl A0 N0 C0, vI x1.stored] := hz.blk
 refine E z (fb z) ?_
 rintro _ we ⟨rfl, h11⟩
 have h7 := h11.below
 have hf : Blk we wo.z [vI x2.kind, Str.v x2.name, vI x2.version, sl AC NC CC] := h11.blk
 refine E z (fa zero_35) ?_
 rintro _ w1o ⟨rfl, h12⟩
 have h4 := h12.below
 have h8 : Blk w1o we.z [sl none 0 0, vI 0] := h12.blk
 refine Ra z<|Wn<|Ws ?_
 have h13 := (h10.e h7).e h4
 refine R z (lN (vs := [sl A0 N0 C0, vI x1.stored]) g_35 z_35 z z fid<|h13.row 0 2 z) ?_
 have h14 := ((p1_0.e ha).e h7).e h4
 have hp := lt_ ha.s h7.s
 have hb := lt_ hp h4.s
 obtain ⟨rc, e1p, hm1q⟩ := bdS hm
 refine E z (fc call81 z<|W_w1a (B := B) e1p (lt_ hBw hb) h14 p1_1) ?_
 rintro _ wq ⟨s0, ag, nh, ci, S1r, rfl, hj, h15, h16, hk⟩
 refine E z (fa zero_35) ?_
 rintro _ w1s ⟨rfl, h17⟩
 have h2 := h17.below
 have h18 : Blk w1s wq.z [sl none 0 0, vI 0] := h17.blk
 refine E0 (fs (cur' := [sl ag nh ci, vI rc.stored]) z_35 z z h18 z (lb z) (oA z) z) ?_
 rintro _ w19 ⟨h1a, s1t⟩
 have h1 := s1t.one
 refine Wn<|Wq<|Wq ?_
 obtain ⟨u1u, hu1v, hm1b⟩ := bdS hm1q
 refine Wt (fun a w => ∃ (xr : Bool), xr = u1u ∧ Sat 25 [(3, pt wo.z), (4, pt we.z), (6, pt wq.z), (16, vB xr)] a ∧ Below w19.z w19 w) ?_ ?_
 ·refine Wg<|R z (lN (vs := [vI x2.kind, Str.v x2.name, vI x2.version, sl AC NC CC]) g_76 z_76 z z fid<|((((hf.e h4).e s0).e h2).c h1<|djs<|mm1 hf.lt<|lt_ h4.s s0.s).row 0 4 z) ?_
  have h1c := lt_ hb s0.s
  have h1d := m1<|lt_ hBw h1c
  have h1e := lt_ (lt_ h1c h2.s) h1.s
  obtain ⟨r1w, e1x, hm1f⟩ := bdS hu1v
  refine E z (fc call89 z<|W_w0k (B := B) e1x (lt_ hBw h1e) p2_0 p2_1 p2_2<|(((((p2_3.e ha).e h7).e h4).e s0).e h2).c h1<|lg h1d) ?_
  rintro _ w2j ⟨sd, rfl⟩
  refine R z (not_ z)<|Rm z ?_
  rcases bs (!r1w) with hc5 | hc5
  ·iterate 3 refine Nh z hc5 ?_
   exact R z (pT z hc5 z)<|Wl (fun _ q => ⟨true, som<|ifT hm1f hc5, (q.k<|s4 z z z z), sd⟩)
  refine Rh z hc5 (lN (vs := [sl A0 N0 C0, vI x1.stored]) g_35 z_35 z z fid<|((((h13.e s0).e h2).c h1<|djs<|mm1 h10.lt<|lt_ (lt_ h7.s h4.s) s0.s).e sd).row 0 2 z) ?_
  obtain ⟨r1y, e1z, hm20⟩ := bdS (ifF hm1f hc5)
  refine Eg z z hc5 z (fc call83 z<|W_w1f (B := B) e1z (lt_ hBw<|lt_ h1e sd.s) ((((h14.e s0).e h2).c h1<|lg h1d).e sd) p1_1) ?_
  rintro _ w2k ⟨s21, rfl⟩
  exact Rh z hc5 (not_ z)<|R z (pF z hc5 z)<|Wl (fun _ q => ⟨!r1y, som hm20, (q.k<|s4 z z z z), (bup sd s21)⟩)
 rintro a22 w2l ⟨xr, rfl, hS2m, s3⟩
 revert a22
 refine Wo<|Wc z (fun hcs => ?_) (fun hcs => ?_)
 ·refine Ws<|R z (lN (vs := [sl ag nh ci, vI rc.stored]) g_35 z_35 z z fid<|(h1a.e s3).row 0 2 z)<|E0 (fs (cur' := [sl ag nh ci, vI rc.stored]) z_35 z z ((((h8.e s0).e h2).c h1<|djs<|mm1 h8.lt s0.s).e s3) z (lb z) (oA z) z) ?_
  rintro _ w2n ⟨h23, s24⟩
  have h1g := s24.one
  refine Ra z<|Wn ?_
  obtain rfl := som (ifT hm1b hcs)
  exact Wr<|ret2 hr (resC g_35 z_35 z h23 z) z ⟨(bM (bup (bM (bup (bup (bup (bup ha h7) h4) s0) h2) h1<|m1<|lt_ hb s0.s) s3) h1g<|m1 hp), ag, nh, ci, S1r, z, ((((hj.e h2).c h1<|ds<|mnr<|ownS.lt hj).e s3).c h1g<|o0n1 hk h8.lt lr), h15, h16, (o0le hk hb)⟩
 refine Wk<|Wq (Wd (X := noX) 80 (.rd 0 (.rd 1 (.rd 2 (.ef 3 (.ef 4 (.rd 5 (.ef 6 .done))))))) mo (by kernel_rfl) fun w2o s6 _ => dR z z (fd f_35_0 z) ?_)
 have h1h := (h1a.e s3).e s6
 refine dR z z (l1 g_25 z fid<|h1h.at z)<|dR z z (lN (vs := [vI x2.kind, Str.v x2.name, vI x2.version, sl AC NC CC]) g_76 z_76 z z fid<|((((((hf.e h4).e s0).e h2).c h1<|djs<|mm1 hf.lt<|lt_ h4.s s0.s).e s3).e s6).row 0 4 z) ?_
 have ht := lt_ hb s0.s
 have h1i := lt_ (lt_ (lt_ (lt_ ht h2.s) h1.s) s3.s) s6.s
 obtain ⟨r2p, e25, hm26⟩ := bdS (ifF hm1b hcs)
 refine dE z z (fc call52 z<|W_w1d (B := B) e25 (lt_ hBw h1i) p2_0 p2_1 p2_2<|(((((((p2_3.e ha).e h7).e h4).e s0).e h2).c h1<|lg<|m1<|lt_ hBw ht).e s3).e s6) (.inr fun _ _ h => chgB<|h.1) ?_
 rintro _ w2q ⟨s9, a2r, n2s, c2t, S2u, rfl, h27, h2v, h2w⟩
 have hu := mnr<|ownS.lt hj
 obtain ⟨x2x, e28, hm29⟩ := bdS hm26
 refine dE z z (fN (α := UInt8) el_25 e28 z z (((((hj.e h2).c h1<|ds hu).e s3).e s6).e s9) h16<|ownS.rep h27) (.inl z) ?_
 rintro _ w2y ⟨Sv, al, nm, cn, rfl, sw, h2a, h2b, hx⟩
 refine dR z z (fd f_35_0 z)<|dE0 z (fs (cur' := [sl al nm cn, vI rc.stored]) z_25 z z ((h1h.e s9).c sw<|atp hu) z (lb z) (oA z) z) (.inl z) ?_
 rintro _ w2z ⟨h2c, s2d⟩
 have hy := s2d.one
 refine pD<|Wo<|Ws<|R z (lN (vs := [sl al nm cn, vI rc.stored]) g_35 z_35 z z fid<|h2c.row 0 2 z) ?_
 have h1j := mm1 h8.lt s0.s
 have h1k := o0n1 hk h8.lt lr
 have h2e := (((((((h8.e s0).e h2).c h1<|djs h1j).e s3).e s6).e s9).c sw<|djs h1k).c hy<|djs h1j
 refine E0 (fs (cur' := [sl al nm cn, vI rc.stored]) z_35 z z h2e z (lb z) (oA z) z) ?_
 rintro _ w30 ⟨h2f, s2g⟩
 have h1l := s2g.one
 refine Ra z<|Wn ?_
 obtain rfl := som hm29
 have h2h : ∀ k ∈ Sv, k ∉ [wq.z] := or1 hx (ds hu) (ltnot (mem1 h18.lt) (lt_ (lt_ (lt_ h1.s s3.s) s6.s) s9.s))
 have h2i : ∀ k ∈ Sv, k ∉ [we.z] := or1 hx h1k (ltnot (mem1 h8.lt) (lt_ (lt_ (lt_ (lt_ (lt_ s0.s h2.s) h1.s) s3.s) s6.s) s9.s))
 have h1m := m1 ht
 have h1n := o0le hk hb
 exact Wr<|ret2 hr (resC g_35 z_35 z h2f z) z ⟨(bM (bM (bM (bup (bup (bup (bM (bup (bup (bup (bup ha h7) h4) s0) h2) h1 h1m) s3) s6) s9) sw h1n) hy h1m) h1l<|m1 hp), al, nm, cn, Sv, z, ((h2a.c hy h2h).c h1l h2i), h15, h2b, (o1le hx h1n<|lt_ h1i s9.s)⟩
theorem W_w0l {x1 : Desc} {x2 : Int} {res : Bool} (hm : M_impl_hasRule x1 x2 = some res) (hBw : B ≤ w0.z) (p1_0 : repS w0 B (sl A0 N0 C0) x1.rules) (p2_0 : inI x2) : CallsR prog 150 [(.agg #[sl A0 N0 C0]), vI x2] w0 (Q11 w0 B res) := by
 unfold M_impl_hasRule at hm
 refine goF func150 z z (lb z) fun fn hr => Ws<|E z (fb z) ?_
 rintro _ w1 ⟨rfl, h2⟩
 have h4 := h2.below
 have h6 : Blk w1 w0.z [sl A0 N0 C0] := h2.blk
 refine Ra z<|Wn<|Wq ?_
 obtain ⟨u7, hu5, hm8⟩ := bdS hm
 refine Wt (fun a w => ∃ (x3 : Bool), x3 = u7 ∧ Sat 14 [(4, vB x3)] a ∧ Below w1.z w1 w) ?_ ?_
 ·refine Wg<|Rm z<|R z (rd_geq z z)<|Rm z ?_
  rcases bs (decide (0 ≤ x2)) with hc0 | hc0
  ·exact Rh z hc0 (mv z)<|Rh z hc0 (fd f_95_0 z)<|Rh z hc0 (l1 g_93 z fid<|h6.at z)<|Rh z hc0 (lnR d_93 z<|p1_0.e h4)<|Rh z hc0 (lss z z)<|R z (pT z hc0 z)<|Ra z<|Wl (fun _ q => ⟨decide (x2 < (x1.rules.length : Int)), som<|ifT hu5 hc0, (q.k<|s1 z), (br w1)⟩)
  iterate 5 refine Nh z hc0 ?_
  exact R z (pF z hc0 z)<|Ra z<|Wl (fun _ q => ⟨false, som<|ifF hu5 hc0, (q.k<|s1 z), (br w1)⟩)
 rintro a9 wb ⟨x3, rfl, hSc, sa⟩
 revert a9
 refine Wo ?_
 obtain rfl := som hm8
 exact Wr<|ret1 hr z ⟨(bup h4 sa), z⟩
theorem W_w05 {x1 : Rule} {x2 : Bool} {x3 : Bool} {x4 : Bool} {x5 : Bool} {x6 : Int} {res : Bool} (hm : M_impl_plainRule x1 x2 x3 x4 x5 x6 = some res) (hBw : B ≤ w0.z) (p1_0 : x1.name.b.length ≤ LEN) (p1_1 : inI x1.kind) (p1_2 : inI x1.size) (p1_4 : repS w0 B (sl AB NB CB) x1.bytes) (p1_5 : repS w0 B (sl A7 N7 C7) x1.names) (p1_6 : repS w0 B (sl AA NA CA) x1.tags) (p1_7 : repS w0 B (sl A8 N8 C8) x1.kids) (p6_0 : inI x6) : CallsR prog 177 [(.agg #[Str.v x1.name, vI x1.kind, vI x1.size, vB x1.little, sl AB NB CB, sl A7 N7 C7, sl AA NA CA, sl A8 N8 C8]), vB x2, vB x3, vB x4, vB x5, vI x6] w0 (Q11 w0 B res) := by
 unfold M_impl_plainRule at hm
 refine goF func177 z z (lb z) fun fn hr => Ws<|E z (fb z) ?_
 rintro _ w9 ⟨rfl, hd⟩
 have ha := hd.below
 have hb : Blk w9 w0.z (vR x1 AB NB CB A7 N7 C7 AA NA CA A8 N8 C8) := hd.blk
 refine Ra z<|Wn<|Wq ?_
 obtain ⟨ur, hus, hmt⟩ := bdS hm
 refine Wt (fun a w => ∃ (xc : Bool), xc = ur ∧ Sat 57 [(12, vB xc)] a ∧ Below w9.z w9 w) ?_ ?_
 ·refine Wg<|Rm z<|Rm z ?_
  obtain ⟨ue, huf, hmu⟩ := bdS hus
  refine WLcut 18 ue 4 ?_ ?_
  ·rcases bs x2 with hc8 | hc8
   ·iterate 3 refine Nh z hc8 ?_
    exact R z (pT z hc8 z)<|WLq 4 (ifT huf hc8) z z z
   exact Rh z hc8 (fd f_144_2 z)<|Rh z hc8 (l1 g_3 z fid<|hb.at z)<|Rh z hc8 (eql z z)<|R z (pF z hc8 z)<|WLq 4 (ifF huf hc8) z z z
  refine Rm z ?_
  obtain ⟨ug, huh, hmv⟩ := bdS hmu
  refine WLcut 27 ug 8 ?_ ?_
  ·rcases bs ue with hc0 | hc0
   ·have hmi := ifT huh hc0
    refine Rh z hc0 (mv z)<|Rh z hc0 (mv z) ?_
    rcases bs x3 with hc5 | hc5
    ·iterate 4 refine Nh z hc5 ?_
     exact Rh z hc0 (pT z hc5 z)<|R z (pT z hc0 z)<|WLq 8 (ifT hmi hc5) z z z
    exact Rh z hc5 (fd f_144_4 z)<|Rh z hc5 (l1 g_25 z fid<|hb.at z)<|Rh z hc5 (lnR d_25 z<|p1_4.e ha)<|Rh z hc5 (eql z z)<|Rh z hc0 (pF z hc5 z)<|R z (pT z hc0 z)<|WLq 8 (ifF hmi hc5) z z z
   exact Nh z hc0<|Nh z hc0<|Nv z<|Nv z<|Nv z<|Nv z<|Nh z hc0<|R z (pF z hc0 z)<|WLq 8 (ifF huh hc0) z z z
  refine Rm z ?_
  obtain ⟨uj, huk, hmw⟩ := bdS hmv
  refine WLcut 36 uj 8 ?_ ?_
  ·rcases bs ug with hc1 | hc1
   ·have hml := ifT huk hc1
    refine Rh z hc1 (mv z)<|Rh z hc1 (mv z) ?_
    rcases bs x4 with hc6 | hc6
    ·iterate 4 refine Nh z hc6 ?_
     exact Rh z hc1 (pT z hc6 z)<|R z (pT z hc1 z)<|WLq 8 (ifT hml hc6) z z z
    exact Rh z hc6 (fd f_144_5 z)<|Rh z hc6 (l1 g_41 z fid<|hb.at z)<|Rh z hc6 (lnR d_41 z<|p1_5.e ha)<|Rh z hc6 (eql z z)<|Rh z hc1 (pF z hc6 z)<|R z (pT z hc1 z)<|WLq 8 (ifF hml hc6) z z z
   exact Nh z hc1<|Nh z hc1<|Nv z<|Nv z<|Nv z<|Nv z<|Nh z hc1<|R z (pF z hc1 z)<|WLq 8 (ifF huk hc1) z z z
  refine Rm z ?_
  obtain ⟨um, hun, hmo⟩ := bdS hmw
  refine WLcut 45 um 8 ?_ ?_
  ·rcases bs uj with hc2 | hc2
   ·have hmp := ifT hun hc2
    refine Rh z hc2 (mv z)<|Rh z hc2 (mv z) ?_
    rcases bs x5 with hc7 | hc7
    ·iterate 4 refine Nh z hc7 ?_
     exact Rh z hc2 (pT z hc7 z)<|R z (pT z hc2 z)<|WLq 8 (ifT hmp hc7) z z z
    exact Rh z hc7 (fd f_144_6 z)<|Rh z hc7 (l1 g_142 z fid<|hb.at z)<|Rh z hc7 (lnR d_142 z<|p1_6.e ha)<|Rh z hc7 (eql z z)<|Rh z hc2 (pF z hc7 z)<|R z (pT z hc2 z)<|WLq 8 (ifF hmp hc7) z z z
   exact Nh z hc2<|Nh z hc2<|Nv z<|Nv z<|Nv z<|Nv z<|Nh z hc2<|R z (pF z hc2 z)<|WLq 8 (ifF hun hc2) z z z
  refine Rm z ?_
  rcases bs um with hc3 | hc3
  ·have hmq := ifT hmo hc3
   refine Rh z hc3 (mv z)<|Rh z hc3 (lss z z)<|Rh z hc3 (mv z) ?_
   rcases bs (decide (x6 < 0)) with hc4 | hc4
   ·iterate 5 refine Nh z hc4 ?_
    exact Rh z hc3 (pT z hc4 z)<|R z (pT z hc3 z)<|Ra z<|Wl (fun _ q => ⟨true, som<|ifT hmq hc4, (q.k<|s1 z), (br w9)⟩)
   exact Rh z hc4 (fd f_144_7 z)<|Rh z hc4 (l1 g_142 z fid<|hb.at z)<|Rh z hc4 (lnR d_142 z<|p1_7.e ha)<|Rh z hc4 (mv z)<|Rh z hc4 (eql z z)<|Rh z hc3 (pF z hc4 z)<|R z (pT z hc3 z)<|Ra z<|Wl (fun _ q => ⟨(x1.kids.length : Int) == x6, som<|ifF hmq hc4, (q.k<|s1 z), (br w9)⟩)
  iterate 3 refine Nh z hc3 ?_
  exact Nv z<|Nv z<|Nv z<|Nv z<|Nv z<|Nh z hc3<|R z (pF z hc3 z)<|Ra z<|Wl (fun _ q => ⟨false, som<|ifF hmo hc3, (q.k<|s1 z), (br w9)⟩)
 rintro ax wz ⟨xc, rfl, hS10, sy⟩
 revert ax
 refine Wo ?_
 obtain rfl := som hmt
 exact Wr<|ret1 hr z ⟨(bup ha sy), z⟩
theorem W_w0m {x1 : Desc} {x2 : Int} {res : Int} (hm : M_impl_IntegerLimit x1 x2 = some res) (hBw : B ≤ w0.z) (p1_0 : repS w0 B (sl A0 N0 C0) x1.rules) (p2_0 : inI x2) : CallsR prog 178 [(.agg #[sl A0 N0 C0]), vI x2] w0 (Q0 w0 B res) := by
 unfold M_impl_IntegerLimit at hm
 refine goF func178 z z (lb z) fun fn hr => Ws<|E z (fb z) ?_
 rintro _ w3 ⟨rfl, h9⟩
 have h2 := h9.below
 have h6 : Blk w3 w0.z [sl A0 N0 C0] := h9.blk
 refine Ra z<|Wn<|Wq<|Wq ?_
 obtain ⟨ug, huh, hma⟩ := bdS hm
 refine Wt (fun a w => ∃ (x7 : Bool), x7 = ug ∧ Sat 37 [(1, vI x2), (2, pt w0.z), (27, vB x7)] a ∧ Below w3.z w3 w) ?_ ?_
 ·refine Wg<|R z (lN (vs := [sl A0 N0 C0]) g_95 z_95 z z fid<|h6.row 0 1 z)<|Rm z ?_
  have hb := p1_0.e h2
  obtain ⟨ri, ej, hmc⟩ := bdS huh
  refine E z (fc call150 z<|W_w0l (B := B) ej (lt_ hBw h2.s) hb p2_0) ?_
  rintro _ w14 ⟨s4, rfl⟩
  refine R z (not_ z)<|Rm z ?_
  rcases bs (!ri) with hc1 | hc1
  ·iterate 7 refine Nh z hc1 ?_
   exact R z (pT z hc1 z)<|Rm z<|Nh z z<|Nh z z<|Nh z z<|Nh z z<|Nh z z<|Nh z z<|Nh z z<|Nh z z<|R z (pT z z z)<|Wl (fun _ q => ⟨true, som<|ifT hmc hc1, (q.k<|s3 z z z), s4⟩)
  refine Rh z hc1 (fd f_95_0 z) ?_
  have hd := h6.e s4
  refine Rh z hc1 (l1 g_93 z fid<|hd.at z)<|Rh z hc1 (mv z) ?_
  obtain ⟨xk, el, hme⟩ := bdS (ifF hmc hc1)
  have hf := hb.e s4
  refine RXg z z hc1 z (at_ (α := Rule) d_93 z_144 z z z hf el) ?_
  rintro _ ⟨b15, o16, cs17, rfl, hn, ho, h18⟩
  obtain ⟨a19, n1a, c1b, a1c, n1d, c1e, a1f, n1g, c1h, a1i, n1j, c1k, rfl, h1l, h1m, h1n, h1o, h1p, h1q, h1r⟩ := Rule_open ho
  refine Rh z hc1 (fd f_144_1 z)<|Rh z hc1 (l1 g_3 z fid<|hn.at (j := 1) z)<|Rh z hc1 (nq z z)<|R z (pF z hc1 z)<|Rm z ?_
  rcases bs (xk.kind != 1) with hc0 | hc0
  ·iterate 8 refine Nh z hc0 ?_
   exact R z (pT z hc0 z)<|Wl (fun _ q => ⟨true, som<|ifT hme hc0, (q.k<|s3 z z z), s4⟩)
  refine Rh z hc0 (fd f_95_0 z)<|Rh z hc0 (l1 g_93 z fid<|hd.at z)<|Rh z hc0 (mv z) ?_
  obtain ⟨x1s, em, hmp⟩ := bdS (ifF hme hc0)
  refine RXg z z hc0 z (at_ (α := Rule) d_93 z_144 z z z hf em) ?_
  rintro _ ⟨b1t, o1u, cs1v, rfl, hq, ht, h1w⟩
  obtain ⟨a1x, n1y, c1z, a20, n21, c22, a23, n24, c25, a26, n27, c28, rfl, h29, h2a, hu, h2b, h2c, h2d, h2e⟩ := Rule_open ht
  refine Rh z hc0 (fd f_144_2 z)<|Rh z hc0 (l1 g_3 z fid<|hq.at (j := 2) z) ?_
  obtain ⟨rr, es, hmv⟩ := bdS hmp
  refine Eg z z hc0 z (fc call117 z<|W_w03 (B := B) es (lt_ hBw<|lt_ h2.s s4.s) hu (ii z)<|ii z) ?_
  rintro _ w2f ⟨sw, rfl⟩
  exact Rh z hc0 (not_ z)<|R z (pF z hc0 z)<|Wl (fun _ q => ⟨!rr, som hmv, (q.k<|s3 z z z), (bup s4 sw)⟩)
 rintro ax w2g ⟨x7, rfl, hS2h, s5⟩
 revert ax
 refine Wo<|Wc z (fun hc8 => ?_) (fun hc8 => ?_)
 ·refine Ws<|Ra z<|Wn ?_
  obtain rfl := som (ifT hma hc8)
  exact Wr<|ret1 hr z ⟨(bup h2 s5), z, (ii z)⟩
 refine Wk<|Ws<|R z (fd f_95_0 z)<|R z (l1 g_93 z fid<|(h6.e s5).at z)<|Rm z ?_
 obtain ⟨x2i, ey, hmz⟩ := bdS (ifF hma hc8)
 refine RX z (at_ (α := Rule) d_93 z_144 z z z ((p1_0.e h2).e s5) ey) ?_
 rintro _ ⟨b2j, o2k, cs2l, rfl, h10, h11, h2m⟩
 obtain ⟨a2n, n2o, c2p, a2q, n2r, c2s, a2t, n2u, c2v, a2w, n2x, c2y, rfl, h2z, h30, h31, h32, h33, h34, h35⟩ := Rule_open h11
 refine R z (fd f_144_2 z)<|R z (l1 g_3 z fid<|h10.at (j := 2) z)<|R z (rd_mul z z) ?_
 obtain ⟨u36, e12, hm13⟩ := bdS hmz
 refine R z (rd_shl z z<|nnS e12)<|R z (sb_ z z)<|Ra z<|Wn ?_
 obtain rfl := som hm13
 exact Wr<|ret1 hr z ⟨(bup h2 s5), z, (iS _ _)⟩
theorem W_w3e {x1 : List Str} {x2 : Str} {res : Bool} (hm : M_impl_ContainsText x1 x2 = some res) (hBw : B ≤ w0.z) (p1_0 : repS w0 B (sl A0 N0 C0) x1) (p2_0 : x2.b.length ≤ LEN) : CallsR prog 202 [sl A0 N0 C0, Str.v x2] w0 (Q11 w0 B res) := by
 unfold M_impl_ContainsText at hm
 refine goF func202 z z (lb z) fun fn hr => Ws<|Ra z<|Wn<|Wq<|Ws<|Rm z<|R z (lnR d_41 z p1_0)<|Rm z<|Wn ?_
 obtain ⟨uj, hu6, hm2⟩ := bdS hm
 refine Wf (σ := Unit) (ρ := Bool) (fun (k3 : Nat) (_ : Unit) a w => Sat 17 [(1, Str.v x2), (7, sl A0 N0 C0), (8, vI (x1.length : Int)), (9, (vI ((k3 : Nat) : Int)))] a ∧ Below w0.z w0 w) (fun (_ : Unit) a w => Sat 17 [] a ∧ Below w0.z w0 w) (fun r ex a w => ex = .ret ∧ RetPost prog fn (Q11 w0 B r) a w) hu6 ?_ ?_ ?_ ?_ ?_
 ·exact fun _ q => ⟨(q.k<|s4 z z z z), (br w0)⟩
 ·rintro k3 _ ak wl om hk4 ⟨hS7, s0⟩ hm8
  refine Wu ?_ hS7
  refine Ws<|R z (lss z z)<|Wn<|Wq<|Wc z (fun _ => ?_) (fun hc => (nolt hk4 hc).elim)
  refine Wk<|Wq<|Wb<|Ws ?_
  obtain ⟨xn, e9, hm5⟩ := bdS hm8
  refine RX z (at_ (α := Str) d_41 z_9 z z z (p1_0.e s0) e9) ?_
  rintro _ ⟨bo, op, csq, rfl, ha, hb, ht⟩
  obtain ⟨rfl, hu⟩ := Str_open hb
  refine R z (l1 g_9 z fid<|ha.at0 z)<|Ra z<|Wn<|Ws<|Rm z<|Rm z<|R z (rd_eqlT z z)<|Wn<|Wc z (fun hc1 => ?_) (fun hc1 => ?_)
  ·exact Ws<|Ra z<|Wn<|Wr<|rtO<|qL (som<|ifT hm5 hc1).symm<|ret1 hr z ⟨s0, z⟩
  exact Wk<|Wg<|R z (inc_ hk4 (lt_ (repS.len p1_0) LEN_le) z z)<|Rm z<|Wl (fun _ q => ⟨(), (som<|ifF hm5 hc1).symm, ⟨(q.k<|s4 z z z z), s0⟩⟩)
 ·rintro _ ar ws ⟨hSc, sd⟩
  refine Wu ?_ hSc
  refine Ws<|R z (lss z z)<|Wn<|Wq<|Wc z (fun hc => (noltt hc).elim) (fun _ => ?_)
  exact We (fun a' ha' => ⟨rfl, ⟨(Sat.weaken ha' sn), sd⟩⟩)
 ·rintro _ ae wv rfl ⟨hSw, sf⟩
  have hmg := elL hm2
  revert ae
  refine Wo<|Ws<|Ra z<|Wn ?_
  obtain rfl := som hmg
  exact Wr<|ret1 hr z ⟨sf, z⟩
 rintro rx exy az w10 rfl ⟨rfl, hqh⟩
 have hmi := elR hm2
 obtain rfl := som hmi
 exact ⟨hqh, z⟩
theorem W_w3f {x1 : Rule} {res : Bool} (hm : M_impl_validSequence n x1 = some res) (hBw : B ≤ w0.z) (p1_0 : x1.name.b.length ≤ LEN) (p1_1 : inI x1.kind) (p1_2 : inI x1.size) (p1_4 : repS w0 B (sl AB NB CB) x1.bytes) (p1_5 : repS w0 B (sl A7 N7 C7) x1.names) (p1_6 : repS w0 B (sl AA NA CA) x1.tags) (p1_7 : repS w0 B (sl A8 N8 C8) x1.kids) : CallsR prog 179 [(.agg #[Str.v x1.name, vI x1.kind, vI x1.size, vB x1.little, sl AB NB CB, sl A7 N7 C7, sl AA NA CA, sl A8 N8 C8])] w0 (Q11 w0 B res) := by
 unfold M_impl_validSequence at hm
 refine goF func179 z z (lb z) fun fn hr => Ws<|E z (fb z) ?_
 rintro _ w5 ⟨rfl, hi⟩
 have h2 := hi.below
 have ha : Blk w5 w0.z (vR x1 AB NB CB A7 N7 C7 AA NA CA A8 N8 C8) := hi.blk
 refine Ra z<|Wn<|Wq<|Wq ?_
 obtain ⟨uz, hu10, hmj⟩ := bdS hm
 refine Wt (fun a w => ∃ (xb : Bool), xb = uz ∧ Sat 44 [(1, pt w0.z), (23, vB xb)] a ∧ Below w5.z w5 w) ?_ ?_
 ·refine Wg<|R z (lN (vs := (vR x1 AB NB CB A7 N7 C7 AA NA CA A8 N8 C8)) g_144 z_144 z z fid<|ha.row 0 8 z) ?_
  have hk := p1_5.e h2
  have hl := p1_7.e h2
  obtain ⟨r11, e12, hmm⟩ := bdS hu10
  refine E z (fc call177 z<|W_w05 (B := B) e12 (lt_ hBw h2.s) p1_0 p1_1 p1_2 (p1_4.e h2) hk (p1_6.e h2) hl<|ii z) ?_
  rintro _ w1y ⟨s6, rfl⟩
  refine R z (not_ z)<|Rm z ?_
  rcases bs (!r11) with hc0 | hc0
  ·iterate 7 refine Nh z hc0 ?_
   exact R z (pT z hc0 z)<|Rm z<|Nh z z<|Nh z z<|Nh z z<|Nh z z<|Nh z z<|R z (pT z z z)<|Wl (fun _ q => ⟨true, som<|ifT hmm hc0, (q.k<|s2 z z), s6⟩)
  have hmn := ifF hmm hc0
  refine Rh z hc0 (fd f_144_7 z) ?_
  have hd := ha.e s6
  refine Rh z hc0 (l1 g_142 z fid<|hd.at z) ?_
  have he := hl.e s6
  refine Rh z hc0 (lnR d_142 z he)<|Rh z hc0 (fd f_144_5 z)<|Rh z hc0 (l1 g_41 z fid<|hd.at z)<|Rh z hc0 (lnR d_41 z<|hk.e s6)<|Rh z hc0 (nq z z)<|R z (pF z hc0 z)<|Rm z ?_
  rcases bs ((x1.kids.length : Int) != (x1.names.length : Int)) with hc3 | hc3
  ·iterate 5 refine Nh z hc3 ?_
   exact R z (pT z hc3 z)<|Wl (fun _ q => ⟨true, som<|ifT hmn hc3, (q.k<|s2 z z), s6⟩)
  refine Rh z hc3 (fd f_144_7 z)<|Rh z hc3 (l1 g_142 z fid<|hd.at z)<|Rh z hc3 (lnR d_142 z he) ?_
  obtain ⟨r13, e14, hm15⟩ := bdS (ifF hmn hc3)
  refine Eg z z hc3 z (fc call117 z<|W_w03 (B := B) e14 (lt_ hBw<|lt_ h2.s s6.s) (inI_len<|repS.len he) (ii z)<|ii z) ?_
  rintro _ w1z ⟨s16, rfl⟩
  exact Rh z hc3 (not_ z)<|R z (pF z hc3 z)<|Wl (fun _ q => ⟨!r13, som hm15, (q.k<|s2 z z), (bup s6 s16)⟩)
 rintro a17 w4 ⟨xb, rfl, hS20, s7⟩
 revert a17
 refine Wo<|Wc z (fun hcc => ?_) (fun hcc => ?_)
 ·refine Ws<|Ra z<|Wn ?_
  obtain rfl := som (ifT hmj hcc)
  exact Wr<|ret1 hr z ⟨(bup h2 s7), z⟩
 refine Wk<|Wq<|Ws<|R z (fd f_144_5 z) ?_
 have ho := ha.e s7
 refine R z (l1 g_41 z fid<|ho.at z) ?_
 have hp := (p1_5.e h2).e s7
 refine R z (lnR d_41 z hp)<|Rm z<|Wn ?_
 obtain ⟨u21, hu18, hmq⟩ := bdS (ifF hmj hcc)
 refine Wf (σ := Unit) (ρ := Bool) (fun (kf : Nat) (_ : Unit) a w => Sat 44 [(1, pt w0.z), (25, sl A7 N7 C7), (26, vI (x1.names.length : Int)), (27, (vI ((kf : Nat) : Int)))] a ∧ Below w4.z w4 w) (fun (_ : Unit) a w => Sat 44 [] a ∧ Below w4.z w4 w) (fun r ex a w => ex = .ret ∧ RetPost prog fn (Q11 w0 B r) a w) hu18 ?_ ?_ ?_ ?_ ?_
 ·exact fun _ q => ⟨(q.k<|s4 z z z z), (br w4)⟩
 ·rintro kf _ a22 wr o23 hks ⟨hS19, s8⟩ hm1a
  refine Wu ?_ hS19
  refine Ws<|R z (lss z z)<|Wn<|Wq<|Wc z (fun _ => ?_) (fun hc => (nolt hks hc).elim)
  refine Wk<|Wq<|Wb<|Ws<|Rm z ?_
  obtain ⟨x24, e1b, hm1c⟩ := bdS hm1a
  have ht := hp.e s8
  refine RX z (at_ (α := Str) d_41 z_9 z z z ht e1b) ?_
  rintro _ ⟨b25, o26, cs27, rfl, h1d, h1e, h28⟩
  obtain ⟨rfl, hu⟩ := Str_open h1e
  refine R z (l1 g_9 z fid<|h1d.at0 z)<|Ra z<|Ra z<|Wn<|Wq ?_
  obtain ⟨u1f, hu1g, hmv⟩ := bdS hm1c
  refine Wt (fun a w => ∃ (xg : Bool), xg = u1f ∧ Sat 44 [(1, pt w0.z), (25, sl A7 N7 C7), (26, vI (x1.names.length : Int)), (27, (vI ((kf : Nat) : Int))), (42, vB xg)] a ∧ Below wr.z wr w) ?_ ?_
  ·refine Wg<|Rm z ?_
   have hw := lt_ (lt_ h2.s s7.s) s8.s
   obtain ⟨r1h, e1i, hmx⟩ := bdS hu1g
   refine E z (fc call116 z<|W_w0j (B := B) e1i (lt_ hBw hw) hu) ?_
   rintro _ w29 ⟨s9, rfl⟩
   refine R z (not_ z)<|Rm z ?_
   rcases bs (!r1h) with hc1 | hc1
   ·iterate 6 refine Nh z hc1 ?_
    exact R z (pT z hc1 z)<|Wl (fun _ q => ⟨true, som<|ifT hmx hc1, (q.k<|s5 z z z z z), s9⟩)
   refine Rh z hc1 (fd f_144_5 z)<|Rh z hc1 (l1 g_41 z fid<|((ho.e s8).e s9).at z)<|Rh z hc1 (mv z) ?_
   obtain ⟨x2a, e1j, hm1k⟩ := bdS (ifF hmx hc1)
   refine RXg z z hc1 z (rX d_41 z_9 z z (ht.e s9) z z e1j) ?_
   rintro _ ⟨a2b, n2c, c2d, rfl, h1l⟩
   refine Rh z hc1 (mv z) ?_
   obtain ⟨r1m, e1n, hm1o⟩ := bdS hm1k
   refine Eg z z hc1 z (fc call202 z<|W_w3e (B := B) e1n (lt_ hBw<|lt_ hw s9.s) h1l hu) ?_
   rintro _ w2e ⟨s1p, rfl⟩
   exact R z (pF z hc1 z)<|Wl (fun _ q => ⟨r1m, som hm1o, (q.k<|s5 z z z z z), (bup s9 s1p)⟩)
  rintro a1q w2f ⟨xg, rfl, hS2g, sy⟩
  revert a1q
  refine Wo<|Wc z (fun hch => ?_) (fun hch => ?_)
  ·exact Ws<|Ra z<|Wn<|Wr<|rtO<|qL (som<|ifT hmv hch).symm<|ret1 hr z ⟨(bup (bup (bup h2 s7) s8) sy), z⟩
  exact Wk<|Wg<|R z (inc_ hks (lt_ (repS.len p1_5) LEN_le) z z)<|Rm z<|Wl (fun _ q => ⟨(), (som<|ifF hmv hch).symm, ⟨(q.k<|s4 z z z z), (bup s8 sy)⟩⟩)
 ·rintro _ a2h w2i ⟨hS1r, s1s⟩
  refine Wu ?_ hS1r
  refine Ws<|R z (lss z z)<|Wn<|Wq<|Wc z (fun hc => (noltt hc).elim) (fun _ => ?_)
  exact We (fun a' ha' => ⟨rfl, ⟨(Sat.weaken ha' sn), s1s⟩⟩)
 ·rintro _ a1t w2j rfl ⟨hS2k, s1u⟩
  have hm1v := elL hmq
  revert a1t
  refine Wo<|Ws<|Ra z<|Wn ?_
  obtain rfl := som hm1v
  exact Wr<|ret1 hr z ⟨(bup (bup h2 s7) s1u), z⟩
 rintro r2l ex2m a2n w2o rfl ⟨rfl, hq1w⟩
 have hm1x := elR hmq
 obtain rfl := som hm1x
 exact ⟨hq1w, z⟩
theorem W_w3g {x1 : Desc} {x2 : Rule} {res : Bool} (hm : M_impl_validChoice x1 x2 = some res) (hBw : B ≤ w0.z) (p1_0 : repS w0 B (sl A0 N0 C0) x1.rules) (p2_0 : x2.name.b.length ≤ LEN) (p2_1 : inI x2.kind) (p2_2 : inI x2.size) (p2_4 : repS w0 B (sl A3 N3 C3) x2.bytes) (p2_5 : repS w0 B (sl A4 N4 C4) x2.names) (p2_6 : repS w0 B (sl A2 N2 C2) x2.tags) (p2_7 : repS w0 B (sl A5 N5 C5) x2.kids) : CallsR prog 180 [(.agg #[sl A0 N0 C0]), (.agg #[Str.v x2.name, vI x2.kind, vI x2.size, vB x2.little, sl A3 N3 C3, sl A4 N4 C4, sl A2 N2 C2, sl A5 N5 C5])] w0 (Q11 w0 B res) := by
 unfold M_impl_validChoice at hm
 refine goF func180 z z (lb z) fun fn hr => Ws<|E z (fb z) ?_
 rintro _ w5 ⟨rfl, hn⟩
 have h3 := hn.below
 have h14 : Blk w5 w0.z [sl A0 N0 C0] := hn.blk
 refine E z (fb z) ?_
 rintro _ wf ⟨rfl, ho⟩
 have h1 := ho.below
 have hd : Blk wf w5.z (vR x2 A3 N3 C3 A4 N4 C4 A2 N2 C2 A5 N5 C5) := ho.blk
 refine Ra z<|Wn<|Wq<|Wq ?_
 obtain ⟨u15, hu16, hmm⟩ := bdS hm
 refine Wt (fun a w => ∃ (xg : Bool), xg = u15 ∧ Sat 57 [(2, pt w0.z), (3, pt w5.z), (21, vB xg)] a ∧ Below wf.z wf w) ?_ ?_
 ·refine Wg<|R z (lN (vs := (vR x2 A3 N3 C3 A4 N4 C4 A2 N2 C2 A5 N5 C5)) g_144 z_144 z z fid<|hd.row 0 8 z)<|R z (fd f_144_6 z)<|R z (l1 g_142 z fid<|hd.at z) ?_
  have hh := (p2_6.e h3).e h1
  refine R z (lnR d_142 z hh)<|R z (add_ z z) ?_
  have hp := lt_ h3.s h1.s
  obtain ⟨r17, e18, hmq⟩ := bdS hu16
  refine E z (fc call177 z<|W_w05 (B := B) e18 (lt_ hBw hp) p2_0 p2_1 p2_2 ((p2_4.e h3).e h1) ((p2_5.e h3).e h1) hh ((p2_7.e h3).e h1)<|iA _ _) ?_
  rintro _ w2c ⟨s9, rfl⟩
  refine R z (not_ z)<|Rm z ?_
  rcases bs (!r17) with hc4 | hc4
  ·iterate 5 refine Nh z hc4 ?_
   exact R z (pT z hc4 z)<|Wl (fun _ q => ⟨true, som<|ifT hmq hc4, (q.k<|s3 z z z), s9⟩)
  refine Rh z hc4 (fd f_144_6 z)<|Rh z hc4 (l1 g_142 z fid<|(hd.e s9).at z) ?_
  have ht := hh.e s9
  refine Rh z hc4 (lnR d_142 z ht) ?_
  obtain ⟨r19, e1a, hm1b⟩ := bdS (ifF hmq hc4)
  refine Eg z z hc4 z (fc call117 z<|W_w03 (B := B) e1a (lt_ hBw<|lt_ hp s9.s) (inI_len<|repS.len ht) (ii z)<|ii z) ?_
  rintro _ w2d ⟨s1c, rfl⟩
  exact Rh z hc4 (not_ z)<|R z (pF z hc4 z)<|Wl (fun _ q => ⟨!r19, som hm1b, (q.k<|s3 z z z), (bup s9 s1c)⟩)
 rintro a1d w2e ⟨xg, rfl, hS2f, s7⟩
 revert a1d
 refine Wo<|Wc z (fun hci => ?_) (fun hci => ?_)
 ·refine Ws<|Ra z<|Wn ?_
  obtain rfl := som (ifT hmm hci)
  exact Wr<|ret1 hr z ⟨(bup (bup h3 h1) s7), z⟩
 refine Wk<|Wq (Wd (X := noX) 0 (.rd 0 (.rd 1 (.rd 2 (.rd 3 (.rd 4 (.ef 5 (.rd 6 .done))))))) mo (by kernel_rfl) fun w2g s8 _ => dR z z (lN (vs := [sl A0 N0 C0]) g_95 z_95 z z fid<|(((h14.e h1).e s7).e s8).row 0 1 z)<|dR z z (fd f_144_7 z) ?_)
 have hu := (hd.e s7).e s8
 refine dR z z (l1 g_142 z fid<|hu.at z) ?_
 obtain ⟨x2h, e1e, hm1f⟩ := bdS (ifF hmm hci)
 refine dRX z z (at_ (α := Int) d_142 z_3 z z z ((((p2_7.e h3).e h1).e s7).e s8) e1e) ?_
 rintro _ ⟨b2i, o2j, cs2k, rfl, h1g, h1h, h2l⟩
 obtain ⟨rfl, h1i⟩ := Int_open h1h
 refine dR z z (l1 g_3 z fid<|h1g.at0 z) ?_
 have hv := lt_ (lt_ (lt_ h3.s h1.s) s7.s) s8.s
 obtain ⟨rj, e1j, hm1k⟩ := bdS hm1f
 refine dE z z (fc call178 z<|W_w0m (B := B) e1j (lt_ hBw hv) ((((p1_0.e h3).e h1).e s7).e s8) h1i) (.inr fun _ _ h => chgB<|h.1) ?_
 rintro _ w6 ⟨sa, rfl, h1l⟩
 refine dR z z (asg z)<|pD<|Wo<|Wq<|Ws<|R z (fd f_144_6 z) ?_
 have hw := hu.e sa
 refine R z (l1 g_142 z fid<|hw.at z) ?_
 have hx := ((((p2_6.e h3).e h1).e s7).e s8).e sa
 refine R z (lnR d_142 z hx)<|Rm z<|Wn ?_
 obtain ⟨u2m, hu1m, hmr⟩ := bdS hm1k
 refine Wf (σ := Unit) (ρ := Bool) (fun (ke : Nat) (_ : Unit) a w => Sat 57 [(3, pt w5.z), (5, vI rj), (29, sl A2 N2 C2), (30, vI (x2.tags.length : Int)), (31, (vI ((ke : Nat) : Int)))] a ∧ Below w6.z w6 w) (fun (_ : Unit) a w => Sat 57 [(5, vI rj)] a ∧ Below w6.z w6 w) (fun r ex a w => ex = .ret ∧ RetPost prog fn (Q11 w0 B r) a w) hu1m ?_ ?_ ?_ ?_ ?_
 ·exact fun _ q => ⟨(q.k<|s5 z z z z z), (br w6)⟩
 ·rintro ke _ a2n ws o2o hky ⟨hS1n, sb⟩ hm1o
  refine Wu ?_ hS1n
  refine Ws<|R z (lss z z)<|Wn<|Wq<|Wc z (fun _ => ?_) (fun hc => (nolt hky hc).elim)
  refine Wk<|Wq<|Wb<|Ws<|Rm z ?_
  obtain ⟨x1p, e1q, hm1r⟩ := bdS hm1o
  have hz := hx.e sb
  refine RX z (at_ (α := Int) d_142 z_3 z z z hz e1q) ?_
  rintro _ ⟨b2p, o2q, cs2r, rfl, h1s, h1t, h2s⟩
  obtain ⟨rfl, h1u⟩ := Int_open h1t
  refine R z (l1 g_3 z fid<|h1s.at0 z)<|Ra z<|Ra z<|Wn<|Wq ?_
  obtain ⟨u1v, hu1w, hm10⟩ := bdS hm1r
  refine Wt (fun a w => ∃ (xk : Bool), xk = u1v ∧ Sat 57 [(3, pt w5.z), (5, vI rj), (29, sl A2 N2 C2), (30, vI (x2.tags.length : Int)), (31, (vI ((ke : Nat) : Int))), (53, vB xk)] a ∧ Below ws.z ws w) ?_ ?_
  ·refine Wg<|Rm z<|Rm z ?_
   obtain ⟨r1x, e1y, hm11⟩ := bdS hu1w
   refine E z (fc call117 z<|W_w03 (B := B) e1y (lt_ hBw<|lt_ (lt_ hv sa.s) sb.s) h1u (ii z) h1l) ?_
   rintro _ w2t ⟨sc, rfl⟩
   refine R z (not_ z)<|Rm z ?_
   rcases bs (!r1x) with hc2 | hc2
   ·iterate 3 refine Nh z hc2 ?_
    exact Nv z<|Nv z<|Nv z<|Nv z<|Nv z<|Nv z<|Nv z<|Nv z<|Nh z hc2<|R z (pT z hc2 z)<|Wl (fun _ q => ⟨true, som<|ifT hm11 hc2, (q.k<|s6 z z z z z z), sc⟩)
   have hm12 := ifF hm11 hc2
   refine Rh z hc2 (mv z)<|Rh z hc2 (rd_gtr z z)<|Rh z hc2 (mv z) ?_
   rcases bs (decide (0 < ((ke : Nat) : Int))) with hc0 | hc0
   ·refine Rh z hc0 (fd f_144_6 z)<|Rh z hc0 (l1 g_142 z fid<|((hw.e sb).e sc).at z)<|Rh z hc0 (mv z)<|Rh z hc0 (sb_ z z) ?_
    obtain ⟨x1z, e20, hm21⟩ := bdS (ifT hm12 hc0)
    refine RXg z z hc0 z (at_ (α := Int) d_142 z_3 z z z (hz.e sc) e20) ?_
    rintro _ ⟨b2u, o2v, cs2w, rfl, h22, h23, h2x⟩
    obtain ⟨rfl, h2y⟩ := Int_open h23
    exact Rh z hc0 (l1 g_3 z fid<|h22.at0 z)<|Rh z hc0 (mv z)<|Rh z hc0 (rd_geq z z)<|Rh z hc2 (pT z hc0 z)<|R z (pF z hc2 z)<|Wl (fun _ q => ⟨decide (x1p ≤ x1z), som hm21, (q.k<|s6 z z z z z z), sc⟩)
   iterate 8 refine Nh z hc0 ?_
   exact Rh z hc2 (pF z hc0 z)<|R z (pF z hc2 z)<|Wl (fun _ q => ⟨false, som<|ifF hm12 hc0, (q.k<|s6 z z z z z z), sc⟩)
  rintro a24 w2z ⟨xk, rfl, hS30, s13⟩
  revert a24
  refine Wo<|Wc z (fun hcl => ?_) (fun hcl => ?_)
  ·exact Ws<|Ra z<|Wn<|Wr<|rtO<|qL (som<|ifT hm10 hcl).symm<|ret1 hr z ⟨(bup (bup (bup (bup (bup (bup h3 h1) s7) s8) sa) sb) s13), z⟩
  exact Wk<|Wg<|R z (inc_ hky (lt_ (repS.len p2_6) LEN_le) z z)<|Rm z<|Wl (fun _ q => ⟨(), (som<|ifF hm10 hcl).symm, ⟨(q.k<|s5 z z z z z), (bup sb s13)⟩⟩)
 ·rintro _ a31 w32 ⟨hS25, s26⟩
  refine Wu ?_ hS25
  refine Ws<|R z (lss z z)<|Wn<|Wq<|Wc z (fun hc => (noltt hc).elim) (fun _ => ?_)
  exact We (fun a' ha' => ⟨rfl, ⟨(Sat.weaken ha'<|s1 z), s26⟩⟩)
 ·rintro _ a27 w33 rfl ⟨hS34, s28⟩
  have hm29 := elL hmr
  revert a27
  refine Wo<|Ws<|Rm z<|R z (rd_gtr z z)<|Ra z<|Wn ?_
  obtain rfl := som hm29
  exact Wr<|ret1 hr z ⟨(bup (bup (bup (bup (bup h3 h1) s7) s8) sa) s28), z⟩
 rintro r35 ex36 a37 w38 rfl ⟨rfl, hq2a⟩
 have hm2b := elR hmr
 obtain rfl := som hm2b
 exact ⟨hq2a, z⟩
theorem W_w3h {x1 : Desc} {x2 : Rule} {res : Bool} (hm : M_impl_validKind n x1 x2 = some res) (hBw : B ≤ w0.z) (p1_0 : repS w0 B (sl A0 N0 C0) x1.rules) (p2_0 : x2.name.b.length ≤ LEN) (p2_1 : inI x2.kind) (p2_2 : inI x2.size) (p2_4 : repS w0 B (sl A3 N3 C3) x2.bytes) (p2_5 : repS w0 B (sl A4 N4 C4) x2.names) (p2_6 : repS w0 B (sl A2 N2 C2) x2.tags) (p2_7 : repS w0 B (sl A5 N5 C5) x2.kids) : CallsR prog 151 [(.agg #[sl A0 N0 C0]), (.agg #[Str.v x2.name, vI x2.kind, vI x2.size, vB x2.little, sl A3 N3 C3, sl A4 N4 C4, sl A2 N2 C2, sl A5 N5 C5])] w0 (Q11 w0 B res) := by
 unfold M_impl_validKind at hm
 refine goF func151 z z (lb z) fun fn hr => Ws<|E z (fb z) ?_
 rintro _ wl ⟨rfl, h16⟩
 have h1 := h16.below
 have ho : Blk wl w0.z [sl A0 N0 C0] := h16.blk
 refine E z (fb z) ?_
 rintro _ w2 ⟨rfl, h17⟩
 have h0 := h17.below
 have h7 : Blk w2 wl.z (vR x2 A3 N3 C3 A4 N4 C4 A2 N2 C2 A5 N5 C5) := h17.blk
 refine Ra z<|Wn<|Wq<|Ws<|R z (fd f_144_1 z)<|R z (l1 g_3 z fid<|h7.at z)<|Wn<|Wb<|Ws<|R z (eql z z)<|Ra z<|Wn<|Wc z (fun hcp => ?_) (fun hcp => ?_)
 ·refine Wq ?_
  obtain ⟨u28, hu29, hm2a⟩ := bdS (ifT hm hcp)
  refine Wt (fun a w => ∃ (xq : Bool), xq = u28 ∧ Sat 102 [(4, vB xq)] a ∧ Below w2.z w2 w) ?_ ?_
  ·refine Wg<|R z (lN (vs := (vR x2 A3 N3 C3 A4 N4 C4 A2 N2 C2 A5 N5 C5)) g_144 z_144 z z fid<|h7.row 0 8 z) ?_
   have h18 := lt_ h1.s h0.s
   obtain ⟨r2b, e2c, hm19⟩ := bdS hu29
   refine E z (fc call177 z<|W_w05 (B := B) e2c (lt_ hBw h18) p2_0 p2_1 p2_2 ((p2_4.e h1).e h0) ((p2_5.e h1).e h0) ((p2_6.e h1).e h0) ((p2_7.e h1).e h0)<|ii z) ?_
   rintro _ w4m ⟨si, rfl⟩
   refine Rm z ?_
   rcases bs r2b with hcd | hcd
   ·refine Rh z hcd (fd f_144_2 z) ?_
    have h1a := h7.e si
    refine Rh z hcd (l1 g_3 z fid<|h1a.at z) ?_
    obtain ⟨r2d, e2e, hm1b⟩ := bdS (ifT hm19 hcd)
    refine Eg z z hcd z (fc call117 z<|W_w03 (B := B) e2e (lt_ hBw<|lt_ h18 si.s) p2_2 (ii z)<|ii z) ?_
    rintro _ w4n ⟨sm, rfl⟩
    refine R z (pT z hcd z)<|Rm z ?_
    rcases bs r2d with hc6 | hc6
    ·have hm1c := ifT hm1b hc6
     refine Rh z hc6 (fd f_144_3 z) ?_
     have h1d := h1a.e sm
     refine Rh z hc6 (l1 g_4 z fid<|h1d.at z)<|Rh z hc6 (not_ z)<|Rh z hc6 (mv z) ?_
     rcases bs (!x2.little) with hce | hce
     ·iterate 3 refine Nh z hce ?_
      exact Rh z hc6 (pT z hce z)<|R z (pT z hc6 z)<|Ra z<|Wl (fun _ q => ⟨true, som<|ifT hm1c hce, (q.k<|s1 z), (bup si sm)⟩)
     exact Rh z hce (fd f_144_2 z)<|Rh z hce (l1 g_3 z fid<|h1d.at z)<|Rh z hce (rd_gtr z z)<|Rh z hc6 (pF z hce z)<|R z (pT z hc6 z)<|Ra z<|Wl (fun _ q => ⟨decide (1 < x2.size), som<|ifF hm1c hce, (q.k<|s1 z), (bup si sm)⟩)
    iterate 4 refine Nh z hc6 ?_
    exact Nv z<|Nv z<|Nv z<|Nh z hc6<|R z (pF z hc6 z)<|Ra z<|Wl (fun _ q => ⟨false, som<|ifF hm1b hc6, (q.k<|s1 z), (bup si sm)⟩)
   iterate 3 refine Nh z hcd ?_
   exact R z (pF z hcd z)<|Rm z<|Nh z z<|Nh z z<|Nh z z<|Nh z z<|Nv z<|Nv z<|Nv z<|Nh z z<|R z (pF z z z)<|Ra z<|Wl (fun _ q => ⟨false, som<|ifF hm19 hcd, (q.k<|s1 z), si⟩)
  rintro a2f w4o ⟨xq, rfl, hS4p, s2g⟩
  revert a2f
  refine Wo ?_
  obtain rfl := som hm2a
  exact Wr<|rtO<|ret1 hr z ⟨(bup (bup h1 h0) s2g), z⟩
 have hm1e := ifF hm hcp
 refine Ws<|R z (eql z z)<|Ra z<|Wn<|Wc z (fun hcr => ?_) (fun hcr => ?_)
 ·refine Wq ?_
  obtain ⟨u2h, hu2i, hm2j⟩ := bdS (ifT hm1e hcr)
  refine Wt (fun a w => ∃ (xs : Bool), xs = u2h ∧ Sat 102 [(4, vB xs)] a ∧ Below w2.z w2 w) ?_ ?_
  ·refine Wg<|R z (lN (vs := (vR x2 A3 N3 C3 A4 N4 C4 A2 N2 C2 A5 N5 C5)) g_144 z_144 z z fid<|h7.row 0 8 z) ?_
   have h1f := (p2_4.e h1).e h0
   have h1g := lt_ h1.s h0.s
   obtain ⟨r2k, e2l, hm1h⟩ := bdS hu2i
   refine E z (fc call177 z<|W_w05 (B := B) e2l (lt_ hBw h1g) p2_0 p2_1 p2_2 h1f ((p2_5.e h1).e h0) ((p2_6.e h1).e h0) ((p2_7.e h1).e h0)<|ii z) ?_
   rintro _ w4q ⟨sj, rfl⟩
   refine Rm z ?_
   rcases bs r2k with hc9 | hc9
   ·refine Rh z hc9 (fd f_144_4 z)<|Rh z hc9 (l1 g_25 z fid<|(h7.e sj).at z) ?_
    have h1i := h1f.e sj
    refine Rh z hc9 (lnR d_25 z h1i) ?_
    obtain ⟨r2m, e2n, hm2o⟩ := bdS (ifT hm1h hc9)
    refine Eg z z hc9 z (fc call117 z<|W_w03 (B := B) e2n (lt_ hBw<|lt_ h1g sj.s) (inI_len<|repS.len h1i) (ii z)<|ii z) ?_
    rintro _ w4r ⟨s2p, rfl⟩
    exact R z (pT z hc9 z)<|Ra z<|Wl (fun _ q => ⟨r2m, som hm2o, (q.k<|s1 z), (bup sj s2p)⟩)
   iterate 4 refine Nh z hc9 ?_
   exact R z (pF z hc9 z)<|Ra z<|Wl (fun _ q => ⟨false, som<|ifF hm1h hc9, (q.k<|s1 z), sj⟩)
  rintro a2q w4s ⟨xs, rfl, hS4t, s2r⟩
  revert a2q
  refine Wo ?_
  obtain rfl := som hm2j
  exact Wr<|rtO<|ret1 hr z ⟨(bup (bup h1 h0) s2r), z⟩
 have hm1j := ifF hm1e hcr
 refine Ws<|R z (eql z z)<|Ra z<|Wn<|Wc z (fun hct => ?_) (fun hct => ?_)
 ·refine Wq ?_
  obtain ⟨u2s, hu2t, hm2u⟩ := bdS (ifT hm1j hct)
  refine Wt (fun a w => ∃ (xu : Bool), xu = u2s ∧ Sat 102 [(4, vB xu)] a ∧ Below w2.z w2 w) ?_ ?_
  ·refine Wg<|R z (lN (vs := (vR x2 A3 N3 C3 A4 N4 C4 A2 N2 C2 A5 N5 C5)) g_144 z_144 z z fid<|h7.row 0 8 z) ?_
   have h1k := lt_ h1.s h0.s
   obtain ⟨r2v, e2w, hm1l⟩ := bdS hu2t
   refine E z (fc call177 z<|W_w05 (B := B) e2w (lt_ hBw h1k) p2_0 p2_1 p2_2 ((p2_4.e h1).e h0) ((p2_5.e h1).e h0) ((p2_6.e h1).e h0) ((p2_7.e h1).e h0)<|ii z) ?_
   rintro _ w4u ⟨sn, rfl⟩
   refine Rm z ?_
   rcases bs r2v with hcf | hcf
   ·refine Rh z hcf (fd f_144_2 z)<|Rh z hcf (l1 g_3 z fid<|(h7.e sn).at z) ?_
    obtain ⟨r2x, e2y, hm2z⟩ := bdS (ifT hm1l hcf)
    refine Eg z z hcf z (fc call117 z<|W_w03 (B := B) e2y (lt_ hBw<|lt_ h1k sn.s) p2_2 (ii z)<|ii z) ?_
    rintro _ w4v ⟨s30, rfl⟩
    exact R z (pT z hcf z)<|Ra z<|Wl (fun _ q => ⟨r2x, som hm2z, (q.k<|s1 z), (bup sn s30)⟩)
   iterate 3 refine Nh z hcf ?_
   exact R z (pF z hcf z)<|Ra z<|Wl (fun _ q => ⟨false, som<|ifF hm1l hcf, (q.k<|s1 z), sn⟩)
  rintro a31 w4w ⟨xu, rfl, hS4x, s32⟩
  revert a31
  refine Wo ?_
  obtain rfl := som hm2u
  exact Wr<|rtO<|ret1 hr z ⟨(bup (bup h1 h0) s32), z⟩
 have hm1m := ifF hm1j hct
 refine Ws<|R z (eql z z)<|Ra z<|Wn<|Wc z (fun hcv => ?_) (fun hcv => ?_)
 ·refine Wq ?_
  obtain ⟨u33, hu34, hm35⟩ := bdS (ifT hm1m hcv)
  refine Wt (fun a w => ∃ (xw : Bool), xw = u33 ∧ Sat 102 [(4, vB xw)] a ∧ Below w2.z w2 w) ?_ ?_
  ·refine Wd (X := noX) 0 (.rd 0 (.ef 1 (.rd 2 (.rd 3 (.rd 4 (.rd 5 (.rd 6 (.rd 7 (.ef 8 (.rd 9 (.rd 10 (.rd 11 .done)))))))))))) mo (by kernel_rfl) fun w4y sa _ => ?_
   have h1n := h7.e sa
   refine dR z z (lN (vs := (vR x2 A3 N3 C3 A4 N4 C4 A2 N2 C2 A5 N5 C5)) g_144 z_144 z z fid<|h1n.row 0 8 z) ?_
   have h1o := ((p2_7.e h1).e h0).e sa
   have h1p := lt_ (lt_ h1.s h0.s) sa.s
   obtain ⟨r36, e37, hm1q⟩ := bdS hu34
   refine dE z z (fc call177 z<|W_w05 (B := B) e37 (lt_ hBw h1p) p2_0 p2_1 p2_2 (((p2_4.e h1).e h0).e sa) (((p2_5.e h1).e h0).e sa) (((p2_6.e h1).e h0).e sa) h1o<|ii z) (.inr fun _ _ h => chgB<|h.1) ?_
   rintro _ w4z ⟨sg, rfl⟩
   refine dR z z (mv z) ?_
   rcases bs r36 with hc3 | hc3
   ·refine dRg z z z hc3 z (lN (vs := [sl A0 N0 C0]) g_95 z_95 z z fid<|(((ho.e h0).e sa).e sg).row 0 1 z)<|dRg z z z hc3 z (fd f_144_7 z)<|dRg z z z hc3 z (l1 g_142 z fid<|(h1n.e sg).at z) ?_
    obtain ⟨x50, e38, hm39⟩ := bdS (ifT hm1q hc3)
    refine dRXg z z z hc3 z (at_ (α := Int) d_142 z_3 z z z (h1o.e sg) e38) ?_
    rintro _ ⟨b51, o52, cs53, rfl, h3a, h3b, h54⟩
    obtain ⟨rfl, h3c⟩ := Int_open h3b
    refine dRg z z z hc3 z (l1 g_3 z fid<|h3a.at0 z) ?_
    obtain ⟨r3d, e3e, hm3f⟩ := bdS hm39
    refine dEg z z z hc3 z (fc call178 z<|W_w0m (B := B) e3e (lt_ hBw<|lt_ h1p sg.s) ((((p1_0.e h1).e h0).e sa).e sg) h3c) (.inr fun _ _ h => chgB<|h.1) ?_
    rintro _ w55 ⟨s3g, rfl, h56⟩
    exact dRg z z z hc3 z (rd_gtr z z)<|dR z z (pT z hc3 z)<|dR z z (asg z)<|pD (fun _ q => ⟨decide (0 < r3d), som hm3f, (q.k<|s1 z), (bup (bup sa sg) s3g)⟩)
   iterate 5 refine dRn z z z hc3 z ?_
   exact dEn z z z hc3 z<|dRn z z z hc3 z<|dR z z (pF z hc3 z)<|dR z z (asg z)<|pD (fun _ q => ⟨false, som<|ifF hm1q hc3, (q.k<|s1 z), (bup sa sg)⟩)
  rintro a3h w57 ⟨xw, rfl, hS58, s3i⟩
  revert a3h
  refine Wo ?_
  obtain rfl := som hm35
  exact Wr<|rtO<|ret1 hr z ⟨(bup (bup h1 h0) s3i), z⟩
 have hm1r := ifF hm1m hcv
 refine Ws<|R z (eql z z)<|Ra z<|Wn<|Wc z (fun hcx => ?_) (fun hcx => ?_)
 ·refine Wq ?_
  obtain ⟨u3j, hu3k, hm3l⟩ := bdS (ifT hm1r hcx)
  refine Wt (fun a w => ∃ (xy : Bool), xy = u3j ∧ Sat 102 [(4, vB xy)] a ∧ Below w2.z w2 w) ?_ ?_
  ·refine Wd (X := noX) 0 (.rd 0 (.ef 1 (.rd 2 (.rd 3 (.rd 4 (.rd 5 (.rd 6 (.rd 7 (.ef 8 (.rd 9 (.rd 10 (.rd 11 .done)))))))))))) mo (by kernel_rfl) fun w59 sb _ => ?_
   have h1s := h7.e sb
   refine dR z z (lN (vs := (vR x2 A3 N3 C3 A4 N4 C4 A2 N2 C2 A5 N5 C5)) g_144 z_144 z z fid<|h1s.row 0 8 z) ?_
   have h1t := ((p2_7.e h1).e h0).e sb
   have h1u := lt_ (lt_ h1.s h0.s) sb.s
   obtain ⟨r3m, e3n, hm1v⟩ := bdS hu3k
   refine dE z z (fc call177 z<|W_w05 (B := B) e3n (lt_ hBw h1u) p2_0 p2_1 p2_2 (((p2_4.e h1).e h0).e sb) (((p2_5.e h1).e h0).e sb) (((p2_6.e h1).e h0).e sb) h1t<|ii z) (.inr fun _ _ h => chgB<|h.1) ?_
   rintro _ w5a ⟨sh, rfl⟩
   refine dR z z (mv z) ?_
   rcases bs r3m with hc4 | hc4
   ·refine dRg z z z hc4 z (lN (vs := [sl A0 N0 C0]) g_95 z_95 z z fid<|(((ho.e h0).e sb).e sh).row 0 1 z)<|dRg z z z hc4 z (fd f_144_7 z)<|dRg z z z hc4 z (l1 g_142 z fid<|(h1s.e sh).at z) ?_
    obtain ⟨x5b, e3o, hm3p⟩ := bdS (ifT hm1v hc4)
    refine dRXg z z z hc4 z (at_ (α := Int) d_142 z_3 z z z (h1t.e sh) e3o) ?_
    rintro _ ⟨b5c, o5d, cs5e, rfl, h3q, h3r, h5f⟩
    obtain ⟨rfl, h3s⟩ := Int_open h3r
    refine dRg z z z hc4 z (l1 g_3 z fid<|h3q.at0 z) ?_
    obtain ⟨r3t, e3u, hm3v⟩ := bdS hm3p
    refine dEg z z z hc4 z (fc call178 z<|W_w0m (B := B) e3u (lt_ hBw<|lt_ h1u sh.s) ((((p1_0.e h1).e h0).e sb).e sh) h3s) (.inr fun _ _ h => chgB<|h.1) ?_
    rintro _ w5g ⟨s3w, rfl, h5h⟩
    exact dRg z z z hc4 z (rd_gtr z z)<|dR z z (pT z hc4 z)<|dR z z (asg z)<|pD (fun _ q => ⟨decide (0 < r3t), som hm3v, (q.k<|s1 z), (bup (bup sb sh) s3w)⟩)
   iterate 5 refine dRn z z z hc4 z ?_
   exact dEn z z z hc4 z<|dRn z z z hc4 z<|dR z z (pF z hc4 z)<|dR z z (asg z)<|pD (fun _ q => ⟨false, som<|ifF hm1v hc4, (q.k<|s1 z), (bup sb sh)⟩)
  rintro a3x w5i ⟨xy, rfl, hS5j, s3y⟩
  revert a3x
  refine Wo ?_
  obtain rfl := som hm3l
  exact Wr<|rtO<|ret1 hr z ⟨(bup (bup h1 h0) s3y), z⟩
 have hm1w := ifF hm1r hcx
 refine Ws<|R z (eql z z)<|Ra z<|Wn<|Wc z (fun hcz => ?_) (fun hcz => ?_)
 ·refine Ws<|R z (lN (vs := (vR x2 A3 N3 C3 A4 N4 C4 A2 N2 C2 A5 N5 C5)) g_144 z_144 z z fid<|h7.row 0 8 z) ?_
  obtain ⟨r5k, e3z, hm40⟩ := bdS (ifT hm1w hcz)
  refine E z (fc call179 z<|W_w3f (B := B) e3z (lt_ hBw<|lt_ h1.s h0.s) p2_0 p2_1 p2_2 ((p2_4.e h1).e h0) ((p2_5.e h1).e h0) ((p2_6.e h1).e h0)<|(p2_7.e h1).e h0) ?_
  rintro _ w5l ⟨s41, rfl⟩
  refine Ra z<|Wn ?_
  obtain rfl := som hm40
  exact Wr<|rtO<|ret1 hr z ⟨(bup (bup h1 h0) s41), z⟩
 have hm1x := ifF hm1w hcz
 refine Ws<|R z (eql z z)<|Ra z<|Wn<|Wc z (fun hc10 => ?_) (fun hc10 => ?_)
 ·refine Ws<|R z (lN (vs := [sl A0 N0 C0]) g_95 z_95 z z fid<|(ho.e h0).row 0 1 z)<|R z (lN (vs := (vR x2 A3 N3 C3 A4 N4 C4 A2 N2 C2 A5 N5 C5)) g_144 z_144 z z fid<|h7.row 0 8 z) ?_
  obtain ⟨r5m, e42, hm43⟩ := bdS (ifT hm1x hc10)
  refine E z (fc call180 z<|W_w3g (B := B) e42 (lt_ hBw<|lt_ h1.s h0.s) ((p1_0.e h1).e h0) p2_0 p2_1 p2_2 ((p2_4.e h1).e h0) ((p2_5.e h1).e h0) ((p2_6.e h1).e h0)<|(p2_7.e h1).e h0) ?_
  rintro _ w5n ⟨s44, rfl⟩
  refine Ra z<|Wn ?_
  obtain rfl := som hm43
  exact Wr<|rtO<|ret1 hr z ⟨(bup (bup h1 h0) s44), z⟩
 refine Wq<|Ws<|R z (eql z z)<|Ra z<|Wn ?_
 obtain ⟨u45, hu1y, hm1z⟩ := bdS (ifF hm1x hc10)
 refine Wt (fun a w => ∃ (x11 : Bool), x11 = u45 ∧ Sat 102 [(3, pt wl.z), (6, vI x2.kind), (80, vB x11)] a ∧ Below w2.z w2 w) ?_ ?_
 ·refine Wc z (fun hc12 => ?_) (fun hc12 => ?_)
  ·exact WC_skip (fun _ q => ⟨x2.kind == 8, som<|ifT hu1y hc12, (q.k<|s3 z z z), (br w2)⟩)
  exact Wg<|R z (eql z z)<|Ra z<|Wl (fun _ q => ⟨x2.kind == 9, som<|ifF hu1y hc12, (q.k<|s3 z z z), (br w2)⟩)
 rintro a46 w20 ⟨x11, rfl, hS5o, s5⟩
 revert a46
 refine Wo<|Wc z (fun hc13 => ?_) (fun hc13 => ?_)
 ·refine Ws<|R z (lN (vs := (vR x2 A3 N3 C3 A4 N4 C4 A2 N2 C2 A5 N5 C5)) g_144 z_144 z z fid<|(h7.e s5).row 0 8 z) ?_
  obtain ⟨r5p, e47, hm48⟩ := bdS (ifT hm1z hc13)
  refine E z (fc call177 z<|W_w05 (B := B) e47 (lt_ hBw<|lt_ (lt_ h1.s h0.s) s5.s) p2_0 p2_1 p2_2 (((p2_4.e h1).e h0).e s5) (((p2_5.e h1).e h0).e s5) (((p2_6.e h1).e h0).e s5) (((p2_7.e h1).e h0).e s5)<|ii z) ?_
  rintro _ w5q ⟨s49, rfl⟩
  refine Ra z<|Wn ?_
  obtain rfl := som hm48
  exact Wr<|rtO<|ret1 hr z ⟨(bup (bup (bup h1 h0) s5) s49), z⟩
 have hm21 := ifF hm1z hc13
 refine Ws<|R z (eql z z)<|Ra z<|Wn<|Wc z (fun hc14 => ?_) (fun hc14 => ?_)
 ·refine Wq ?_
  obtain ⟨u4a, hu4b, hm4c⟩ := bdS (ifT hm21 hc14)
  refine Wt (fun a w => ∃ (x15 : Bool), x15 = u4a ∧ Sat 102 [(4, vB x15)] a ∧ Below w20.z w20 w) ?_ ?_
  ·refine Wg ?_
   have h22 := h7.e s5
   refine R z (lN (vs := (vR x2 A3 N3 C3 A4 N4 C4 A2 N2 C2 A5 N5 C5)) g_144 z_144 z z fid<|h22.row 0 8 z) ?_
   have h23 := ((p2_4.e h1).e h0).e s5
   obtain ⟨r4d, e4e, hm24⟩ := bdS hu4b
   refine E z (fc call177 z<|W_w05 (B := B) e4e (lt_ hBw<|lt_ (lt_ h1.s h0.s) s5.s) p2_0 p2_1 p2_2 h23 (((p2_5.e h1).e h0).e s5) (((p2_6.e h1).e h0).e s5) (((p2_7.e h1).e h0).e s5)<|ii z) ?_
   rintro _ w5r ⟨sk, rfl⟩
   refine Rm z ?_
   rcases bs r4d with hcc | hcc
   ·have hm25 := ifT hm24 hcc
    refine Rh z hcc (fd f_144_4 z) ?_
    have h26 := h22.e sk
    refine Rh z hcc (l1 g_25 z fid<|h26.at z) ?_
    have h27 := h23.e sk
    refine Rh z hcc (lnR d_25 z h27)<|Rh z hcc (eql z z)<|R z (pT z hcc z)<|Rm z ?_
    rcases bs ((x2.bytes.length : Int) == 1) with hc8 | hc8
    ·refine Rh z hc8 (fd f_144_4 z)<|Rh z hc8 (l1 g_25 z fid<|h26.at z) ?_
     obtain ⟨x4f, e4g, hm4h⟩ := bdS (ifT hm25 hc8)
     refine RXg z z hc8 z (at_ (α := UInt8) d_25 z_5 z z z h27 e4g) ?_
     rintro _ ⟨b5s, o5t, cs5u, rfl, h4i, h4j, h5v⟩
     obtain rfl := u8 h4j
     exact Rh z hc8 (l1 g_5 z fid<|h4i.at0 z)<|Rh z hc8 (nq z z)<|R z (pT z hc8 z)<|Ra z<|Wl (fun _ q => ⟨(byteI x4f) != (byteI (92 : UInt8)), som hm4h, (q.k<|s1 z), sk⟩)
    iterate 5 refine Nh z hc8 ?_
    exact R z (pF z hc8 z)<|Ra z<|Wl (fun _ q => ⟨false, som<|ifF hm25 hc8, (q.k<|s1 z), sk⟩)
   iterate 4 refine Nh z hcc ?_
   exact R z (pF z hcc z)<|Rm z<|Nh z z<|Nh z z<|Nh z z<|Nh z z<|Nh z z<|R z (pF z z z)<|Ra z<|Wl (fun _ q => ⟨false, som<|ifF hm24 hcc, (q.k<|s1 z), sk⟩)
  rintro a4k w5w ⟨x15, rfl, hS5x, s4l⟩
  revert a4k
  refine Wo ?_
  obtain rfl := som hm4c
  exact Wr<|rtO<|ret1 hr z ⟨(bup (bup (bup h1 h0) s5) s4l), z⟩
 refine Wk<|Ws<|Ra z<|Wn ?_
 obtain rfl := som (ifF hm21 hc14)
 exact Wr<|ret1 hr z ⟨(bup (bup h1 h0) s5), z⟩
theorem W_w3i {x1 : Desc} {x2 : Int} {res : Bool} (hm : M_impl_IsValidRule n x1 x2 = some res) (hBw : B ≤ w0.z) (p1_0 : repS w0 B (sl A0 N0 C0) x1.rules) (p2_0 : inI x2) : CallsR prog 135 [(.agg #[sl A0 N0 C0]), vI x2] w0 (Q11 w0 B res) := by
 unfold M_impl_IsValidRule at hm
 refine goF func135 z z (lb z) fun fn hr => Ws<|E z (fb z) ?_
 rintro _ w2e ⟨rfl, h19⟩
 have h4 := h19.below
 have hn : Blk w2e w0.z [sl A0 N0 C0] := h19.blk
 refine Ra z<|Wn<|Wq<|Ws<|R z (lN (vs := [sl A0 N0 C0]) g_95 z_95 z z fid<|hn.row 0 1 z)<|Rm z ?_
 have h1a := p1_0.e h4
 obtain ⟨r41, e2f, hm1b⟩ := bdS hm
 refine E z (fc call150 z<|W_w0l (B := B) e2f (lt_ hBw h4.s) h1a p2_0) ?_
 rintro _ wa ⟨s5, rfl⟩
 refine R z (not_ z)<|Wn<|Wc z (fun hco => ?_) (fun hco => ?_)
 ·refine Ws<|Ra z<|Wn ?_
  obtain rfl := som (ifT hm1b hco)
  exact Wr<|ret1 hr z ⟨(bup h4 s5), z⟩
 refine Wk<|Ws<|R z (fd f_95_0 z) ?_
 have h1c := hn.e s5
 refine R z (l1 g_93 z fid<|h1c.at z)<|Rm z ?_
 obtain ⟨xb, e2g, hm2h⟩ := bdS (ifF hm1b hco)
 have h1d := h1a.e s5
 refine RX z (at_ (α := Rule) d_93 z_144 z z z h1d e2g) ?_
 rintro _ ⟨b42, o43, cs44, rfl, h2i, h2j, h45⟩
 obtain ⟨ap, nr, cq, au, ns, ct, av, nw, cx, ae, nf, cg, rfl, h1e, h2k, h2l, h2m, h2n, h2o, h1f⟩ := Rule_open h2j
 refine R z (lN (vs := (vR xb ap nr cq au ns ct av nw cx ae nf cg)) g_144 z_144 z z fid h2i)<|E z (fa zero_144) ?_
 rintro _ w2p ⟨rfl, h1g⟩
 have h2 := h1g.below
 have h1h : Blk w2p wa.z [(Str.v (⟨[]⟩ : Str)), vI 0, vI 0, vB false, sl none 0 0, sl none 0 0, sl none 0 0, sl none 0 0] := h1g.blk
 refine E0 (fs (cur' := (vR xb ap nr cq au ns ct av nw cx ae nf cg)) z_144 z z h1h z (lb z) (oA z) z) ?_
 rintro _ w1i ⟨hk, s2q⟩
 have h1 := s2q.one
 refine Wn<|Wq<|Wq ?_
 obtain ⟨u2r, hu2s, hm1j⟩ := bdS hm2h
 refine Wt (fun a w => ∃ (xy : Bool), xy = u2r ∧ Sat 65 [(1, vI x2), (2, pt w0.z), (5, pt wa.z), (31, vB xy)] a ∧ Below w1i.z w1i w) ?_ ?_
 ·refine Wg<|R z (fd f_144_0 z)<|R z (l1 g_9 z fid<|hk.at z) ?_
  obtain ⟨r2t, e2u, hm1k⟩ := bdS hu2s
  refine E z (fc call116 z<|W_w0j (B := B) e2u (lt_ hBw<|lt_ (lt_ (lt_ h4.s s5.s) h2.s) h1.s) h1e) ?_
  rintro _ w46 ⟨sm, rfl⟩
  refine R z (not_ z)<|Rm z ?_
  rcases bs (!r2t) with hc3 | hc3
  ·iterate 3 refine Nh z hc3 ?_
   exact Nv z<|Nv z<|Nv z<|Nh z hc3<|R z (pT z hc3 z)<|Wl (fun _ q => ⟨true, som<|ifT hm1k hc3, (q.k<|s4 z z z z), sm⟩)
  have hm1l := ifF hm1k hc3
  refine Rh z hc3 (fd f_144_3 z) ?_
  have h1m := hk.e sm
  refine Rh z hc3 (l1 g_4 z fid<|h1m.at z)<|Rh z hc3 (mv z) ?_
  rcases bs xb.little with hc6 | hc6
  ·exact Rh z hc6 (fd f_144_1 z)<|Rh z hc6 (l1 g_3 z fid<|h1m.at z)<|Rh z hc6 (nq z z)<|Rh z hc3 (pT z hc6 z)<|R z (pF z hc3 z)<|Wl (fun _ q => ⟨xb.kind != 1, som<|ifT hm1l hc6, (q.k<|s4 z z z z), sm⟩)
  iterate 3 refine Nh z hc6 ?_
  exact Rh z hc3 (pF z hc6 z)<|R z (pF z hc3 z)<|Wl (fun _ q => ⟨false, som<|ifF hm1l hc6, (q.k<|s4 z z z z), sm⟩)
 rintro a2v wh ⟨xy, rfl, hS47, s0⟩
 revert a2v
 refine Wo<|Wc z (fun hcz => ?_) (fun hcz => ?_)
 ·refine Ws<|Ra z<|Wn ?_
  obtain rfl := som (ifT hm1j hcz)
  exact Wr<|ret1 hr z ⟨(bup (bM (bup (bup h4 s5) h2) h1<|m1<|lt_ h4.s s5.s) s0), z⟩
 refine Wk<|Wq<|Ws<|R z (fd f_95_0 z) ?_
 have h1n := ((h1c.e h2).c h1<|djs<|mm1 hn.lt s5.s).e s0
 refine R z (l1 g_93 z fid<|h1n.at z)<|Rm z ?_
 obtain ⟨x2w, e2x, hm2y⟩ := bdS (ifF hm1j hcz)
 have hd := lt_ h4.s s5.s
 have hi := m1<|lt_ hBw hd
 have h1o := ((h1d.e h2).c h1<|lg hi).e s0
 refine RX z (rX d_93 z_144 z z h1o z z e2x) ?_
 rintro _ ⟨a2z, n30, c31, rfl, h10⟩
 refine R z (lnR d_93 z h10)<|Rm z<|Wn ?_
 obtain ⟨u48, hu32, hm1p⟩ := bdS hm2y
 refine Wf (σ := Unit) (ρ := Bool) (fun (k1q : Nat) (_ : Unit) a w => Sat 65 [(1, vI x2), (2, pt w0.z), (5, pt wa.z), (35, sl a2z n30 c31), (36, vI (x2w.length : Int)), (37, (vI ((k1q : Nat) : Int)))] a ∧ Below wh.z wh w) (fun (_ : Unit) a w => Sat 65 [(1, vI x2), (2, pt w0.z), (5, pt wa.z)] a ∧ Below wh.z wh w) (fun r ex a w => ex = .ret ∧ RetPost prog fn (Q11 w0 B r) a w) hu32 ?_ ?_ ?_ ?_ ?_
 ·exact fun _ q => ⟨(q.k<|s6 z z z z z z), (br wh)⟩
 ·rintro k1q _ a49 w33 o4a hk1r ⟨hS34, sc⟩ hm35
  refine Wu ?_ hS34
  refine Ws<|R z (lss z z)<|Wn<|Wq<|Wc z (fun _ => ?_) (fun hc => (nolt hk1r hc).elim)
  refine Wk<|Wq<|Wb<|Ws ?_
  obtain ⟨x1s, e36, hm1t⟩ := bdS hm35
  refine RX z (at_ (α := Rule) d_93 z_144 z z z (h10.e sc) e36) ?_
  rintro _ ⟨b4b, o4c, cs4d, rfl, h37, h38, h4e⟩
  obtain ⟨a1u, n1v, c1w, a1x, n1y, c1z, a20, n21, c22, a23, n24, c25, rfl, h4f, h4g, h4h, h4i, h4j, h4k, h4l⟩ := Rule_open h38
  refine R z (lN (vs := (vR x1s a1u n1v c1w a1x n1y c1z a20 n21 c22 a23 n24 c25)) g_144 z_144 z z fid h37)<|E z (fa zero_144) ?_
  rintro _ w39 ⟨rfl, h26⟩
  have h11 := h26.below
  have h3a : Blk w39 w33.z [(Str.v (⟨[]⟩ : Str)), vI 0, vI 0, vB false, sl none 0 0, sl none 0 0, sl none 0 0, sl none 0 0] := h26.blk
  refine E0 (fs (cur' := (vR x1s a1u n1v c1w a1x n1y c1z a20 n21 c22 a23 n24 c25)) z_144 z z h3a z (lb z) (oA z) z) ?_
  rintro _ w4m ⟨h3b, s3c⟩
  have h12 := s3c.one
  refine Wn<|Ws<|R z (fd f_144_0 z)<|R z (l1 g_9 z fid<|h3b.at z)<|R z (fd f_144_0 z)<|R z (l1 g_9 z fid<|((((hk.e s0).e sc).e h11).c h12<|djs<|mm1 h1h.lt<|lt_ (lt_ h1.s s0.s) sc.s).at z)<|R z (rd_eqlT z z)<|Wn<|Wc z (fun hc13 => ?_) (fun hc13 => ?_)
  ·exact Ws<|Ra z<|Wn<|Wr<|rtO<|qL (som<|ifT hm1t hc13).symm<|ret1 hr z ⟨(bM (bup (bup (bup (bM (bup (bup h4 s5) h2) h1<|m1 hd) s0) sc) h11) h12<|m1<|lt_ (lt_ (lt_ (lt_ hd h2.s) h1.s) s0.s) sc.s), z⟩
  exact Wk<|Wg<|R z (inc_ hk1r (lt_ (repS.len h10) LEN_le) z z)<|Rm z<|Wl (fun _ q => ⟨(), (som<|ifF hm1t hc13).symm, ⟨(q.k<|s6 z z z z z z), (bM (bup sc h11) h12<|m1 sc.s)⟩⟩)
 ·rintro _ a4n w4o ⟨hS3d, s3e⟩
  refine Wu ?_ hS3d
  refine Ws<|R z (lss z z)<|Wn<|Wq<|Wc z (fun hc => (noltt hc).elim) (fun _ => ?_)
  exact We (fun a' ha' => ⟨rfl, ⟨(Sat.weaken ha'<|s3 z z z), s3e⟩⟩)
 ·rintro _ a3f wj rfl ⟨hS4p, s8⟩
  have hm3g := elL hm1p
  revert a3f
  refine Wo<|Wq<|Ws<|R z (fd f_144_7 z) ?_
  have h27 := (hk.e s0).e s8
  refine R z (l1 g_142 z fid<|h27.at z) ?_
  have h14 := (((h1f.e h2).c h1<|lg hi).e s0).e s8
  refine R z (lnR d_142 z h14)<|Rm z<|Wn ?_
  obtain ⟨u4q, hu3h, hm28⟩ := bdS hm3g
  refine Wf (σ := Unit) (ρ := Bool) (fun (k15 : Nat) (_ : Unit) a w => Sat 65 [(1, vI x2), (2, pt w0.z), (5, pt wa.z), (48, sl ae nf cg), (49, vI (xb.kids.length : Int)), (50, (vI ((k15 : Nat) : Int)))] a ∧ Below wj.z wj w) (fun (_ : Unit) a w => Sat 65 [(2, pt w0.z), (5, pt wa.z)] a ∧ Below wj.z wj w) (fun r ex a w => ex = .ret ∧ RetPost prog fn (Q11 w0 B r) a w) hu3h ?_ ?_ ?_ ?_ ?_
  ·exact fun _ q => ⟨(q.k<|s6 z z z z z z), (br wj)⟩
  ·rintro k15 _ a4r wl o4s hk29 ⟨hS3i, s16⟩ hm3j
   refine Wu ?_ hS3i
   refine Ws<|R z (lss z z)<|Wn<|Wq<|Wc z (fun _ => ?_) (fun hc => (nolt hk29 hc).elim)
   refine Wk<|Wq<|Wb<|Ws ?_
   obtain ⟨x2a, e3k, hm3l⟩ := bdS hm3j
   refine RX z (at_ (α := Int) d_142 z_3 z z z (h14.e s16) e3k) ?_
   rintro _ ⟨b4t, o4u, cs4v, rfl, h3m, h3n, h4w⟩
   obtain ⟨rfl, h4x⟩ := Int_open h3n
   refine R z (l1 g_3 z fid<|h3m.at0 z)<|Ra z<|Wn<|Wq ?_
   obtain ⟨u3o, hu2b, hm2c⟩ := bdS hm3l
   refine Wt (fun a w => ∃ (x17 : Bool), x17 = u3o ∧ Sat 65 [(1, vI x2), (2, pt w0.z), (5, pt wa.z), (48, sl ae nf cg), (49, vI (xb.kids.length : Int)), (50, (vI ((k15 : Nat) : Int))), (60, vB x17)] a ∧ Below wl.z wl w) ?_ ?_
   ·refine Wg<|Rm z<|R z (lss z z)<|Rm z ?_
    rcases bs (decide (x2a < 0)) with hc7 | hc7
    ·iterate 3 refine Nh z hc7 ?_
     exact R z (pT z hc7 z)<|Wl (fun _ q => ⟨true, som<|ifT hu2b hc7, (q.k<|s7 z z z z z z z), (br wl)⟩)
    exact Rh z hc7 (mv z)<|Rh z hc7 (mv z)<|Rh z hc7 (rd_geq z z)<|R z (pF z hc7 z)<|Wl (fun _ q => ⟨decide (x2 ≤ x2a), som<|ifF hu2b hc7, (q.k<|s7 z z z z z z z), (br wl)⟩)
   rintro a3p w4y ⟨x17, rfl, hS4z, s2d⟩
   revert a3p
   refine Wo<|Wc z (fun hc18 => ?_) (fun hc18 => ?_)
   ·exact Ws<|Ra z<|Wn<|Wr<|rtO<|qL (som<|ifT hm2c hc18).symm<|ret1 hr z ⟨(bup (bup (bup (bup (bM (bup (bup h4 s5) h2) h1<|m1 hd) s0) s8) s16) s2d), z⟩
   exact Wk<|Wg<|R z (inc_ hk29 (lt_ (repS.len h1f) LEN_le) z z)<|Rm z<|Wl (fun _ q => ⟨(), (som<|ifF hm2c hc18).symm, ⟨(q.k<|s6 z z z z z z), (bup s16 s2d)⟩⟩)
  ·rintro _ a50 w51 ⟨hS3q, s3r⟩
   refine Wu ?_ hS3q
   refine Ws<|R z (lss z z)<|Wn<|Wq<|Wc z (fun hc => (noltt hc).elim) (fun _ => ?_)
   exact We (fun a' ha' => ⟨rfl, ⟨(Sat.weaken ha'<|s2 z z), s3r⟩⟩)
  ·rintro _ a3s w52 rfl ⟨hS53, s9⟩
   have hm3t := elL hm28
   revert a3s
   refine Wo<|Ws<|R z (lN (vs := [sl A0 N0 C0]) g_95 z_95 z z fid<|((h1n.e s8).e s9).row 0 1 z)<|R z (lN (vs := (vR xb ap nr cq au ns ct av nw cx ae nf cg)) g_144 z_144 z z fid<|(h27.e s9).row 0 8 z) ?_
   obtain ⟨r54, e3u, hm3v⟩ := bdS hm3t
   refine E z (fc call151 z<|W_w3h (B := B) e3u (lt_ hBw<|lt_ (lt_ (lt_ (lt_ (lt_ hd h2.s) h1.s) s0.s) s8.s) s9.s) ((h1o.e s8).e s9) h1e h2k h2l (((((h2m.e h2).c h1<|lg hi).e s0).e s8).e s9) (((((h2n.e h2).c h1<|lg hi).e s0).e s8).e s9) (((((h2o.e h2).c h1<|lg hi).e s0).e s8).e s9)<|h14.e s9) ?_
   rintro _ w55 ⟨s3w, rfl⟩
   refine Ra z<|Wn ?_
   obtain rfl := som hm3v
   exact Wr<|ret1 hr z ⟨(bup (bup (bup (bup (bM (bup (bup h4 s5) h2) h1<|m1 hd) s0) s8) s9) s3w), z⟩
  rintro r56 ex57 a58 w59 rfl ⟨rfl, hq3x⟩
  have hm3y := elR hm28
  obtain rfl := som hm3y
  exact ⟨hq3x, z⟩
 rintro r5a ex5b a5c w5d rfl ⟨rfl, hq3z⟩
 have hm40 := elR hm1p
 obtain rfl := som hm40
 exact ⟨hq3z, z⟩
theorem W_w1g {x1 : Desc} {res : Bool} (hm : M_impl_IsValidDescription n x1 = some res) (hBw : B ≤ w0.z) (p1_0 : repS w0 B (sl A0 N0 C0) x1.rules) : CallsR prog 111 [(.agg #[sl A0 N0 C0])] w0 (Q11 w0 B res) := by
 unfold M_impl_IsValidDescription at hm
 refine goF func111 z z (lb z) fun fn hr => Ws<|E z (fb z) ?_
 rintro _ wh ⟨rfl, h8⟩
 have h0 := h8.below
 have h9 : Blk wh w0.z [sl A0 N0 C0] := h8.blk
 refine Ra z<|Wn<|Wq<|Ws<|R z (fd f_95_0 z)<|R z (l1 g_93 z fid<|h9.at z) ?_
 have h3 := p1_0.e h0
 refine R z (lnR d_93 z h3) ?_
 obtain ⟨ru, ei, hma⟩ := bdS hm
 refine E z (fc call117 z<|W_w03 (B := B) ei (lt_ hBw h0.s) (inI_len<|repS.len h3) (ii z)<|ii z) ?_
 rintro _ w2 ⟨s1, rfl⟩
 refine R z (not_ z)<|Wn<|Wc z (fun hc5 => ?_) (fun hc5 => ?_)
 ·refine Ws<|Ra z<|Wn ?_
  obtain rfl := som (ifT hma hc5)
  exact Wr<|ret1 hr z ⟨(bup h0 s1), z⟩
 refine Wk<|Wq<|Ws<|R z (fd f_95_0 z) ?_
 have hb := h9.e s1
 refine R z (l1 g_93 z fid<|hb.at z) ?_
 have hd := h3.e s1
 refine R z (lnR d_93 z hd)<|Rm z<|Wn ?_
 obtain ⟨uv, huj, hmc⟩ := bdS (ifF hma hc5)
 refine Wf (σ := Unit) (ρ := Bool) (fun (ke : Nat) (_ : Unit) a w => Sat 20 [(1, pt w0.z), (11, vI (x1.rules.length : Int)), (12, (vI ((ke : Nat) : Int)))] a ∧ Below w2.z w2 w) (fun (_ : Unit) a w => Sat 20 [] a ∧ Below w2.z w2 w) (fun r ex a w => ex = .ret ∧ RetPost prog fn (Q11 w0 B r) a w) huj ?_ ?_ ?_ ?_ ?_
 ·exact fun _ q => ⟨(q.k<|s3 z z z), (br w2)⟩
 ·rintro ke _ aw wx oy hk6 ⟨hSk, s4⟩ hml
  refine Wu ?_ hSk
  refine Ws<|R z (lss z z)<|Wn<|Wq<|Wc z (fun _ => ?_) (fun hc => (nolt hk6 hc).elim)
  refine Wk<|Wq<|Wb<|Ws<|Rm z<|Ra z<|Wn<|Ws<|R z (lN (vs := [sl A0 N0 C0]) g_95 z_95 z z fid<|(hb.e s4).row 0 1 z)<|Rm z ?_
  obtain ⟨rz, em, hmf⟩ := bdS hml
  refine E z (fc call135 z<|W_w3i (B := B) em (lt_ hBw<|lt_ (lt_ h0.s s1.s) s4.s) (hd.e s4)<|ic (Nat.le_of_lt hk6)<|lt_ (repS.len p1_0) LEN_le) ?_
  rintro _ w10 ⟨sg, rfl⟩
  refine R z (not_ z)<|Wn<|Wc z (fun hc7 => ?_) (fun hc7 => ?_)
  ·exact Ws<|Ra z<|Wn<|Wr<|rtO<|qL (som<|ifT hmf hc7).symm<|ret1 hr z ⟨(bup (bup (bup h0 s1) s4) sg), z⟩
  exact Wk<|Wg<|R z (inc_ hk6 (lt_ (repS.len p1_0) LEN_le) z z)<|Rm z<|Wl (fun _ q => ⟨(), (som<|ifF hmf hc7).symm, ⟨(q.k<|s3 z z z), (bup s4 sg)⟩⟩)
 ·rintro _ a11 w12 ⟨hSn, so⟩
  refine Wu ?_ hSn
  refine Ws<|R z (lss z z)<|Wn<|Wq<|Wc z (fun hc => (noltt hc).elim) (fun _ => ?_)
  exact We (fun a' ha' => ⟨rfl, ⟨(Sat.weaken ha' sn), so⟩⟩)
 ·rintro _ ap w13 rfl ⟨hS14, sq⟩
  have hmr := elL hmc
  revert ap
  refine Wo<|Ws<|Ra z<|Wn ?_
  obtain rfl := som hmr
  exact Wr<|ret1 hr z ⟨(bup (bup h0 s1) sq), z⟩
 rintro r15 ex16 a17 w18 rfl ⟨rfl, hqs⟩
 have hmt := elR hmc
 obtain rfl := som hmt
 exact ⟨hqs, z⟩
theorem W_w3j {x1 : Registry} {res : Bool} (hm : M_impl_IsValidRegistry n x1 = some res) (hBw : B ≤ w0.z) (p1_0 : repS w0 B (sl A0 N0 C0) x1.versions) : CallsR prog 82 [(.agg #[sl A0 N0 C0])] w0 (Q11 w0 B res) := by
 unfold M_impl_IsValidRegistry at hm
 refine goF func82 z z (lb z) fun fn hr => Ws<|E z (fb z) ?_
 rintro _ w1 ⟨rfl, hd⟩
 have h0 := hd.below
 have he : Blk w1 w0.z [sl A0 N0 C0] := hd.blk
 refine Ra z<|Wn<|Wq<|Ws<|R z (fd f_34_0 z)<|R z (l1 g_32 z fid<|he.at z) ?_
 have h5 := p1_0.e h0
 refine R z (lnR d_32 z h5)<|R z (rd_gtr z z)<|Wn<|Wc z (fun hc6 => ?_) (fun hc6 => ?_)
 ·refine Ws<|Ra z<|Wn ?_
  obtain rfl := som (ifT hm hc6)
  exact Wr<|ret1 hr z ⟨h0, z⟩
 refine Wk<|Wq<|Ws<|R z (fd f_34_0 z)<|R z (l1 g_32 z fid<|he.at z)<|R z (lnR d_32 z h5)<|Rm z<|Wn ?_
 obtain ⟨u15, huk, hmc⟩ := bdS (ifF hm hc6)
 refine Wf (σ := Unit) (ρ := Bool) (fun (kf : Nat) (_ : Unit) a w => Sat 20 [(10, sl A0 N0 C0), (11, vI (x1.versions.length : Int)), (12, (vI ((kf : Nat) : Int)))] a ∧ Below w1.z w1 w) (fun (_ : Unit) a w => Sat 20 [] a ∧ Below w1.z w1 w) (fun r ex a w => ex = .ret ∧ RetPost prog fn (Q11 w0 B r) a w) huk ?_ ?_ ?_ ?_ ?_
 ·exact fun _ q => ⟨(q.k<|s3 z z z), (br w1)⟩
 ·rintro kf _ a16 wl o17 hkg ⟨hSm, s2⟩ hmn
  refine Wu ?_ hSm
  refine Ws<|R z (lss z z)<|Wn<|Wq<|Wc z (fun _ => ?_) (fun hc => (nolt hkg hc).elim)
  refine Wk<|Wq<|Wb<|Ws ?_
  obtain ⟨x18, eo, hmp⟩ := bdS hmn
  refine RX z (at_ (α := Desc) d_32 z_95 z z z (h5.e s2) eo) ?_
  rintro _ ⟨b19, o1a, cs1b, rfl, hq, ht, h1c⟩
  obtain ⟨a7, n8, c9, rfl, hu⟩ := Desc_open ht
  refine R z (lN (vs := [sl a7 n8 c9]) g_95 z_95 z z fid hq)<|E z (fa zero_95) ?_
  rintro _ wr ⟨rfl, hh⟩
  have h3 := hh.below
  have hv : Blk wr wl.z [sl none 0 0] := hh.blk
  refine E0 (fs (cur' := [sl a7 n8 c9]) z_95 z z hv z (lb z) (oA z) z) ?_
  rintro _ w1d ⟨hw, ss⟩
  have h4 := ss.one
  refine Wn<|Ws<|R z (lN (vs := [sl a7 n8 c9]) g_95 z_95 z z fid<|hw.row 0 1 z) ?_
  have ha := lt_ h0.s s2.s
  obtain ⟨r1e, ey, hmi⟩ := bdS hmp
  refine E z (fc call111 z<|W_w1g (B := B) ey (lt_ hBw<|lt_ (lt_ ha h3.s) h4.s)<|(hu.e h3).c h4<|lg<|m1<|lt_ hBw ha) ?_
  rintro _ w1f ⟨sj, rfl⟩
  refine R z (not_ z)<|Wn<|Wc z (fun hcb => ?_) (fun hcb => ?_)
  ·exact Ws<|Ra z<|Wn<|Wr<|rtO<|qL (som<|ifT hmi hcb).symm<|ret1 hr z ⟨(bup (bM (bup (bup h0 s2) h3) h4<|m1 ha) sj), z⟩
  exact Wk<|Wg<|R z (inc_ hkg (lt_ (repS.len p1_0) LEN_le) z z)<|Rm z<|Wl (fun _ q => ⟨(), (som<|ifF hmi hcb).symm, ⟨(q.k<|s3 z z z), (bup (bM (bup s2 h3) h4<|m1 s2.s) sj)⟩⟩)
 ·rintro _ a1g w1h ⟨hSx, sz⟩
  refine Wu ?_ hSx
  refine Ws<|R z (lss z z)<|Wn<|Wq<|Wc z (fun hc => (noltt hc).elim) (fun _ => ?_)
  exact We (fun a' ha' => ⟨rfl, ⟨(Sat.weaken ha' sn), sz⟩⟩)
 ·rintro _ a10 w1i rfl ⟨hS1j, s11⟩
  have hm12 := elL hmc
  revert a10
  refine Wo<|Ws<|Ra z<|Wn ?_
  obtain rfl := som hm12
  exact Wr<|ret1 hr z ⟨(bup h0 s11), z⟩
 rintro r1k ex1l a1m w1n rfl ⟨rfl, hq13⟩
 have hm14 := elR hmc
 obtain rfl := som hm14
 exact ⟨hq13, z⟩
theorem W_w1h {x1 : List UInt8} {res : (List Record) × Int} (hm : M_impl_ReadRecords n x1 = some res) (hBw : B ≤ w0.z) (p1_0 : repS w0 B (sl A0 N0 C0) x1) : CallsR prog 84 [sl A0 N0 C0] w0 (Q14 w0 B res) := by
 unfold M_impl_ReadRecords at hm
 refine goF func84 z z (lb z) fun fn hr => Ws<|Ra z<|Ra z<|Wn<|Ws<|E z (f0 (α := Record) el_89) ?_
 rintro _ w1 ⟨a11, n12, c13, rfl, sc, h14⟩
 refine Ra z<|Wn<|Ws<|Ra z<|Wn ?_
 obtain ⟨u2c, hu15, hmo⟩ := bdS hm
 refine WC_iter (σ := (List Record) × Int) (ρ := (List Record) × Int) (fun s a w => un2 (fun xd x9 => ∃ a4 n5 c6 S0, Sat 26 [(0, sl A0 N0 C0), (2, sl none 0 0), (3, vI 0), (4, sl a4 n5 c6), (5, vI x9)] a ∧ Chg (· ∈ [w0.z]) w1 w ∧ ownS w S0 (sl a4 n5 c6) xd ∧ S0.Nodup ∧ (∀ k ∈ S0, k ∈ [w0.z] ∨ w1.z ≤ k) ∧ inI x9) s) (fun s a w => un2 (fun xd x9 => ∃ a4 n5 c6 S0, Sat 26 [(2, sl none 0 0), (3, vI 0)] a ∧ Chg (· ∈ [w0.z]) w1 w ∧ ownS w S0 (sl a4 n5 c6) xd ∧ S0.Nodup ∧ (∀ k ∈ S0, k ∈ [w0.z] ∨ w1.z ≤ k) ∧ inI x9) s) (fun r ex a w => ex = .ret ∧ RetPost prog fn (Q14 w0 B r) a w) hu15 ?_ ?_ ?_ ?_
 ·exact fun _ q => ⟨a11, n12, c13, [w0.z], (q.k<|s5 z z z z z), (cr [w0.z] w1), h14, nd_one, (io sr), (ii z)⟩
 ·rintro ⟨xd, x9⟩ a2d w16 o2e ⟨a4, n5, c6, S0, hS17, sa, hb, hg, hh, hi⟩ hm18
  have hm19 := un2S hm18
  refine Wu ?_ hS17
  refine Wb<|Ws<|Rm z<|Rm z ?_
  have hp := lt_ sc.s sa.s
  obtain ⟨r2, r1a, r2f, e1b, hmq⟩ := bd3S hm19
  refine E z (fc call114 z<|W_w1e (B := B) e1b (lt_ hBw hp) ((p1_0.e sc).c sa<|lg<|m1 hBw) hi) ?_
  rintro _ wj ⟨s3, ak, nl, cm, Sr, rfl, h1c, h1d, h1e, he, h1f, h1g, ht⟩
  refine Rm z ?_
  iterate 3 refine R z (ext_ z z) ?_
  refine E z (fa zero_76) ?_
  rintro _ ws ⟨rfl, hu⟩
  have h7 := hu.below
  have h1h : Blk ws wj.z [vI 0, (Str.v (⟨[]⟩ : Str)), vI 0, sl none 0 0] := hu.blk
  refine E0 (fs (cur' := [vI r2.kind, Str.v r2.name, vI r2.version, sl ak nl cm]) z_76 z z h1h z (lb z) (oA z) z) ?_
  rintro _ wv ⟨h1i, s1j⟩
  have h8 := s1j.one
  refine Ra z<|Ra z<|Wn<|Wq<|Ws<|Rm z<|R z (not_ z)<|Wn<|Wc z (fun hcn => ?_) (fun hcn => ?_)
  ·refine Ws<|Rm z<|Rm z<|Ra z<|Ra z<|Wn ?_
   have h1k : ∀ k ∈ S0, w0.z ≤ k := or1 hh (mem1 lr) (lele sc.s)
   exact Wr<|rtO<|qL (som<|ifT hmq hcn).symm<|ret2 hr z z ⟨(bM (bup (bup (bM sc sa<|mem1 lr) s3) h7) h8<|m1<|lt_ hp s3.s), a4, n5, c6, S0, z, (((hb.e s3).e h7).c h8<|ds<|mno (ownS.lt hb) s3.s), hi, hg, h1k⟩
  refine Wk<|Ws<|Rm z<|R z (lN (vs := [vI r2.kind, Str.v r2.name, vI r2.version, sl ak nl cm]) g_76 z_76 z z fid<|h1i.row 0 4 z)<|E z (fS [(.tmp 22)] el_89 z z z (szAll z) (lb z)<|lb z) ?_
  rintro _ ww ⟨rfl, hx⟩
  have hf := hx.below
  have h1l : Blk ww wv.z [vI r2.kind, Str.v r2.name, vI r2.version, sl ak nl cm] := hx.blk
  have h2g := (he.e h7).c h8<|ds<|mnr<|ownS.lt he
  obtain ⟨x1m, e1n, hm1o⟩ := bdS (ifF hmq hcn)
  refine E z (ef_pushN (α := Record) el_89 e1n z z ((((hb.e s3).e h7).c h8<|ds<|mno (ownS.lt hb) s3.s).e hf) hg h1l (Record_mkO (x := r2) (S1 := Sr) h1c h1d h1e<|((he.e h7).c h8<|ds<|mnr<|ownS.lt he).e hf) (o0no ht (ownS.lt hb) lr) h1g) ?_
  rintro _ w1p ⟨Sy, a1q, n1r, c1s, rfl, s1t, h1u, h1v, h1w⟩
  refine Ra z<|Wn<|Wg<|Rm z<|Ra z<|Wl ?_
  have hz := lt_ sa.s s3.s
  have h10 : ∀ k ∈ S0, k ∈ [w0.z] ∨ w1.z ≤ k := or1 hh (io sr) (leor lr)
  have h1x : ∀ k ∈ Sr, k ∈ [w0.z] ∨ w1.z ≤ k := or0 ht  (leor sa.s)
  have h1y : ∀ k ∈ Sy, k ∈ [w0.z] ∨ w1.z ≤ k := or2 h1w h10 h1x (leor (lt_ (lt_ (lt_ hz h7.s) h8.s) hf.s))
  have h1z : Chg (· ∈ [w0.z]) w1 w16 := cM (cr [w0.z] w1) sa (io sr)
  have h20 : Chg (· ∈ [w0.z]) w1 wj := cext h1z s3
  have h21 : Chg (· ∈ [w0.z]) w1 ws := cext h20 h7
  have h22 : ∀ k ∈ [wj.z], k ∈ [w0.z] ∨ w1.z ≤ k := mor hz
  have h23 : Chg (· ∈ [w0.z]) w1 wv := cM h21 h8 h22
  have h24 : Chg (· ∈ [w0.z]) w1 ww := cext h23 hf
  have h25 : Chg (· ∈ [w0.z]) w1 w1p := cM h24 s1t h10
  exact fun _ q => ⟨(x1m, r1a), (som hm1o).symm, ⟨a1q, n1r, c1s, Sy, (q.k<|s5 z z z z z), h25, h1u, h1v, h1y, h1f⟩⟩
 ·rintro ⟨xd, x9⟩ a26 w2h rfl ⟨a4, n5, c6, S0, hS2i, s27, hb, hg, hh, hi⟩
  have hm28 := elL hmo
  have hm29 := un2S hm28
  revert a26
  obtain rfl := som hm29
  exact ret2 hr z z ⟨(bM sc s27<|mem1 lr), none, 0, 0, [], z, onL, (ii z), nd_nil, an_⟩
 rintro r2j ex2k a2l w2m rfl ⟨rfl, hq2a⟩
 have hm2b := elR hmo
 obtain rfl := som hm2b
 exact ⟨hq2a, z⟩
theorem W_w3k {x1 : StoredFile} {x2 : Record} {b2 o2 : Nat} {res : Bool} (hm : M_impl_Archive_files_1 x1 x2 = some res) (hBw : B ≤ w0.z) (p1_0 : x1.name.b.length ≤ LEN) (p1_1 : inI x1.version) (p1_2 : repS w0 B (sl AI NI CI) x1.data) (p2_0 : inI x2.kind) (p2_1 : x2.name.b.length ≤ LEN) (p2_2 : inI x2.version) (p2_3 : repS w0 B (sl AC NC CC) x2.data) (hC2 : CellsAt w0 b2 o2 [vI x2.kind, Str.v x2.name, vI x2.version, sl AC NC CC]) (hC2b : b2 < B) : CallsR prog 88 [(.agg #[Str.v x1.name, vI x1.version, sl AI NI CI]), (.pointer (some ⟨b2, o2, none⟩))] w0 (Q11 w0 B res) := by
 unfold M_impl_Archive_files_1 at hm
 refine goF func88 z z (lb z) fun fn hr => Ws<|E z (fb z) ?_
 rintro _ w2 ⟨rfl, h0⟩
 have h1 := h0.below
 have h3 : Blk w2 w0.z [Str.v x1.name, vI x1.version, sl AI NI CI] := h0.blk
 refine Ra z<|Wn<|Ws<|R z (fd f_63_0 z)<|R z (l1 g_9 z fid<|h3.at z)<|R z (fd f_76_1 z)<|R z (l1 g_9 z fid<|(hC2.e h1).at (j := 1) z)<|R z (rd_eqlT z z)<|Ra z<|Wn ?_
 obtain rfl := som hm
 exact Wr<|ret1 hr z ⟨h1, z⟩
theorem W_w3l {x1 : List StoredFile} {x2c0 : Record} {pa2c0_3 : Option Addr} {pn2c0_3 pc2c0_3 : Nat} {b2c0 o2c0 : Nat} {res : Int} (hm : M_impl_indexFunc_g_impl_Archive_files_1 x1 x2c0 = some res) (hBw : B ≤ w0.z) (p1_0 : repS w0 B (sl A0 N0 C0) x1) (p2c0_0 : inI x2c0.kind) (p2c0_1 : x2c0.name.b.length ≤ LEN) (p2c0_2 : inI x2c0.version) (p2c0_3 : repS w0 B (sl pa2c0_3 pn2c0_3 pc2c0_3) x2c0.data) (hC2c0 : CellsAt w0 b2c0 o2c0 [vI x2c0.kind, Str.v x2c0.name, vI x2c0.version, sl pa2c0_3 pn2c0_3 pc2c0_3]) (hC2c0b : b2c0 < B) : CallsR prog 87 [sl A0 N0 C0, (.func (.func 88) #[] #[(.pointer (some ⟨b2c0, o2c0, none⟩))])] w0 (Q0 w0 B res) := by
 unfold M_impl_indexFunc_g_impl_Archive_files_1 at hm
 refine goF func87 z z (lb z) fun fn hr => Ws<|Ra z<|Wn<|Wq<|Ws<|Rm z<|R z (lnR d_59 z p1_0)<|Rm z<|Wn ?_
 obtain ⟨u12, huf, hma⟩ := bdS hm
 refine Wf (σ := Unit) (ρ := Int) (fun (kb : Nat) (_ : Unit) a w => Sat 19 [(1, (.func (.func 88) #[] #[(.pointer<|some ⟨b2c0, o2c0, none⟩)])), (7, sl A0 N0 C0), (8, vI (x1.length : Int)), (9, (vI ((kb : Nat) : Int)))] a ∧ Below w0.z w0 w) (fun (_ : Unit) a w => Sat 19 [] a ∧ Below w0.z w0 w) (fun r ex a w => ex = .ret ∧ RetPost prog fn (Q0 w0 B r) a w) huf ?_ ?_ ?_ ?_ ?_
 ·exact fun _ q => ⟨(q.k<|s4 z z z z), (br w0)⟩
 ·rintro kb _ a13 wg o14 hk4 ⟨hSh, s0⟩ hmi
  refine Wu ?_ hSh
  refine Ws<|R z (lss z z)<|Wn<|Wq<|Wc z (fun _ => ?_) (fun hc => (nolt hk4 hc).elim)
  refine Wk<|Wq<|Wb<|Ws<|Rm z ?_
  obtain ⟨x2, ej, hmk⟩ := bdS hmi
  refine RX z (at_ (α := StoredFile) d_59 z_63 z z z (p1_0.e s0) ej) ?_
  rintro _ ⟨b15, o16, cs17, rfl, hl, hn, h18⟩
  obtain ⟨a5, n6, c7, rfl, ho, hp, hq⟩ := StoredFile_open hn
  refine R z (lN (vs := [Str.v x2.name, vI x2.version, sl a5 n6 c7]) g_63 z_63 z z fid hl)<|E z (fa zero_63) ?_
  rintro _ wm ⟨rfl, hd⟩
  have h1 := hd.below
  have ht : Blk wm wg.z [(Str.v (⟨[]⟩ : Str)), vI 0, sl none 0 0] := hd.blk
  refine Ra z<|E0 (fs (cur' := [Str.v x2.name, vI x2.version, sl a5 n6 c7]) z_63 z z ht z (lb z) (oA z) z) ?_
  rintro _ w19 ⟨hu, sr⟩
  have h3 := sr.one
  refine Wn<|Ws<|Rm z<|R z (lN (vs := [Str.v x2.name, vI x2.version, sl a5 n6 c7]) g_63 z_63 z z fid<|hu.row 0 3 z) ?_
  have h8 := m1<|lt_ hBw s0.s
  obtain ⟨r1a, es, hmc⟩ := bdS hmk
  refine E z (ef_callV call88 z z<|W_w3k (B := B) es (lt_ hBw<|lt_ (lt_ s0.s h1.s) h3.s) ho hp ((hq.e h1).c h3<|lg h8) p2c0_0 p2c0_1 p2c0_2 (((p2c0_3.e s0).e h1).c h3<|lg h8) (((hC2c0.e s0).e h1).c h3<|(lg h8) _ hC2c0b) hC2c0b) ?_
  rintro _ w1b ⟨se, rfl⟩
  refine Wn<|Wc z (fun hc9 => ?_) (fun hc9 => ?_)
  ·exact Ws<|Rm z<|Ra z<|Wn<|Wr<|rtO<|qL (som<|ifT hmc hc9).symm<|ret1 hr z ⟨(bup (bM (bup s0 h1) h3<|m1 s0.s) se), z, (ic (Nat.le_of_lt hk4)<|lt_ (repS.len p1_0) LEN_le)⟩
  exact Wk<|Wg<|R z (inc_ hk4 (lt_ (repS.len p1_0) LEN_le) z z)<|Rm z<|Wl (fun _ q => ⟨(), (som<|ifF hmc hc9).symm, ⟨(q.k<|s4 z z z z), (bup (bM (bup s0 h1) h3<|m1 s0.s) se)⟩⟩)
 ·rintro _ a1c w1d ⟨hSv, sw⟩
  refine Wu ?_ hSv
  refine Ws<|R z (lss z z)<|Wn<|Wq<|Wc z (fun hc => (noltt hc).elim) (fun _ => ?_)
  exact We (fun a' ha' => ⟨rfl, ⟨(Sat.weaken ha' sn), sw⟩⟩)
 ·rintro _ ax w1e rfl ⟨hS1f, sy⟩
  have hmz := elL hma
  revert ax
  refine Wo<|Ws<|Ra z<|Wn ?_
  obtain rfl := som hmz
  exact Wr<|ret1 hr z ⟨sy, z, (ii z)⟩
 rintro r1g ex1h a1i w1j rfl ⟨rfl, hq10⟩
 have hm11 := elR hma
 obtain rfl := som hm11
 exact ⟨hq10, z⟩
theorem W_w3m {x1 : Archive} {b1 o1 : Nat} {res : (List StoredFile)} (hm : M_impl_Archive_files n x1 = some res) (hBw : B ≤ w0.z) (p1_0 : repS w0 B (sl A0 N0 C0) x1.registry.versions) (p1_1 : repS w0 B (sl A1 N1 C1) x1.log.bytes) (p1_2 : inI x1.log.stored) (hC1 : CellsAt w0 b1 o1 [sl A0 N0 C0, sl A1 N1 C1, vI x1.log.stored]) (hC1b : b1 < B) : CallsR prog 51 [(.pointer (some ⟨b1, o1, none⟩))] w0 (Q16 w0 B res) := by
 unfold M_impl_Archive_files at hm
 refine goF func51 z z (lb z) fun fn hr => Ws<|Ra z<|Wn<|Ws<|E z (ef_lit0R (α := StoredFile) el_59 B) ?_
 rintro _ w57 ⟨a2e, rfl, sp, h2f⟩
 refine Ra z<|Wn<|Ws<|Rm z<|R z (rd_nil z)<|R z (fd f_37_1 z)<|R z (fd f_35_0 z)<|R z (l1 g_25 z fid<|(hC1.e sp).at (j := 1) z) ?_
 obtain ⟨rq, r58, e2g, hm2h⟩ := bd2S hm
 refine E z (fc call84 z<|W_w1h (B := B) e2g (lt_ hBw sp.s)<|p1_1.e sp) ?_
 rintro _ w8 ⟨s1e, ar, ns, ct, S59, rfl, hy, h5a, h5b, h5c⟩
 refine Rm z<|R z (ext_ z z)<|R z (ext_ z z)<|Ra z<|Ra z<|Wn<|Wq<|Ws<|Rm z<|R z (lnR d_89 z<|ownS.rep hy)<|Rm z<|Wn ?_
 obtain ⟨u5d, hu2i, hm1o⟩ := bdS hm2h
 refine Wf (σ := (List StoredFile)) (ρ := (List StoredFile)) (fun (kl : Nat) (xg : List StoredFile) a w => ∃ a5 n6 c7 S0, Sat 69 [(3, sl a5 n6 c7), (20, sl ar ns ct), (21, vI (rq.length : Int)), (22, (vI ((kl : Nat) : Int)))] a ∧ Below w8.z w8 w ∧ shrS w S0 w8.z (sl a5 n6 c7) xg ∧ S0.Nodup ∧ (∀ k ∈ S0, w8.z ≤ k)) (fun (xg : List StoredFile) a w => ∃ a5 n6 c7 S0, Sat 69 [(3, sl a5 n6 c7)] a ∧ Below w8.z w8 w ∧ shrS w S0 w8.z (sl a5 n6 c7) xg ∧ S0.Nodup ∧ (∀ k ∈ S0, w8.z ≤ k)) (fun r ex a w => ex = .ret ∧ RetPost prog fn (Q16 w0 B r) a w) hu2i ?_ ?_ ?_ ?_ ?_
 ·exact fun _ q => ⟨a2e, 0, 0, ([] : List Nat), (q.k<|s4 z z z z), (br w8), (shrS.mono (h2f.e s1e)<|lt_ hBw<|lt_ sp.s s1e.s), nd_nil, an_⟩
 ·rintro kl xg a5e w1p o5f hk1q ⟨a5, n6, c7, S0, hS2j, su, h9, hh, hf⟩ hm2k
  refine Wu ?_ hS2j
  refine Ws<|R z (lss z z)<|Wn<|Wq<|Wc z (fun _ => ?_) (fun hc => (nolt hk1q hc).elim)
  refine Wk<|Wq<|Wb<|Ws ?_
  obtain ⟨x2, e2l, hm2m⟩ := bdS hm2k
  refine RX z (at_ (α := Record) d_89 z_76 z z z (or_ (hy.e su)<|ownS.lt hy) e2l) ?_
  rintro _ ⟨b5g, o5h, cs5i, rfl, h2n, h2o, h5j⟩
  obtain ⟨ai, nj, ck, rfl, h2p, h1f, h1g, h2q⟩ := Record_open h2o
  refine R z (lN (vs := [vI x2.kind, Str.v x2.name, vI x2.version, sl ai nj ck]) g_76 z_76 z z fid h2n)<|E z (fa zero_76) ?_
  rintro _ w1r ⟨rfl, h1s⟩
  have he := h1s.below
  have hz : Blk w1r w1p.z [vI 0, (Str.v (⟨[]⟩ : Str)), vI 0, sl none 0 0] := h1s.blk
  refine E0 (fs (cur' := [vI x2.kind, Str.v x2.name, vI x2.version, sl ai nj ck]) z_76 z z hz z (lb z) (oA z) z) ?_
  rintro _ w5k ⟨h1t, s2r⟩
  have h4 := s2r.one
  refine Wn<|Ws<|Rm z<|R z (rd_makeFunc z) ?_
  have h1h := m1 su.s
  have hv := (h9.e he).c h4 (ds<|mnr<|shrS.lt h9)<|lg h1h
  have h1i := (h2q.e he).c h4<|lg h1h
  have hn := lt_ su.s he.s
  obtain ⟨r1u, e2s, hm2t⟩ := bdS hm2m
  refine E z (fc call87 z<|W_w3l (B := w1r.z) e2s h4.s (repS.mono (shrS.rep hv (shrS.lt h9) su.s) he.s) h2p h1f h1g (repS.mono h1i hn) (h1t.row 0 4 z) hz.lt) ?_
  rintro _ w1v ⟨s3, rfl, h5l⟩
  refine Ra z<|Wn<|Ws<|R z (fd f_76_1 z) ?_
  have hw := h1t.e s3
  refine R z (l1 g_9 z fid<|hw.at z)<|R z (fd f_76_2 z)<|R z (l1 g_3 z fid<|hw.at z)<|R z (fd f_76_3 z)<|R z (l1 g_25 z fid<|hw.at z)<|R z (bP (parts := [(0, (.tmp 30)), (1, (.tmp 32)), (2, (.tmp 34))]) (cs := [Str.v x2.name, vI x2.version, sl ai nj ck]) build_63 z z)<|E z (fa zero_63) ?_
  rintro _ w2u ⟨rfl, h1w⟩
  have hb := h1w.below
  have h2v : Blk w2u w1v.z [(Str.v (⟨[]⟩ : Str)), vI 0, sl none 0 0] := h1w.blk
  refine E0 (fs (cur' := [Str.v x2.name, vI x2.version, sl ai nj ck]) z_63 z z h2v z (lb z) (oA z) z) ?_
  rintro _ w10 ⟨h1x, s2w⟩
  have hd := s2w.one
  refine Wn<|Wb<|Wq ?_
  obtain ⟨u2x, hu1y, hm2y⟩ := bdS hm2t
  refine Wt (fun a w => ∃ (x1j : Bool), x1j = u2x ∧ Sat 69 [(3, sl a5 n6 c7), (7, pt w1p.z), (8, vI r1u), (9, pt w1v.z), (20, sl ar ns ct), (21, vI (rq.length : Int)), (22, (vI ((kl : Nat) : Int))), (36, vB x1j)] a ∧ Below w10.z w10 w) ?_ ?_
  ·refine Wg<|R z (fd f_76_0 z)<|R z (l1 g_3 z fid<|((hw.e hb).c hd<|djs<|mm1 hz.lt<|lt_ h4.s s3.s).at z)<|R z (eql z z)<|Rm z ?_
   rcases bs (x2.kind == 1) with hcc | hcc
   ·exact Rh z hcc (mv z)<|Rh z hcc (rd_geq z z)<|R z (pT z hcc z)<|Ra z<|Wl (fun _ q => ⟨decide (0 ≤ r1u), som<|ifT hu1y hcc, (q.k<|s8 z z z z z z z z), (br w10)⟩)
   exact Nh z hcc<|Nh z hcc<|R z (pF z hcc z)<|Ra z<|Wl (fun _ q => ⟨false, som<|ifF hu1y hcc, (q.k<|s8 z z z z z z z z), (br w10)⟩)
  rintro a2z w1 ⟨x1j, rfl, hS5m, sa⟩
  revert a2z
  refine Wo ?_
  obtain ⟨u30, hu1z, hm31⟩ := bdS hm2y
  refine Wt (fun a w => ∃ (x11 : List StoredFile), x11 = u30 ∧ ∃ a12 n13 c14 Sx, Sat 69 [(3, sl a12 n13 c14), (20, sl ar ns ct), (21, vI (rq.length : Int)), (22, (vI ((kl : Nat) : Int)))] a ∧ Chg (· ∈ S0) w1 w ∧ shrS w Sx w8.z (sl a12 n13 c14) x11 ∧ Sx.Nodup ∧ (∀ k ∈ Sx, k ∈ S0 ∨ w1.z ≤ k)) ?_ ?_
  ·refine Wc z (fun hc1k => ?_) (fun hc1k => ?_)
   ·refine Wg<|Rm z<|Rm z<|R z (lN (vs := [Str.v x2.name, vI x2.version, sl ai nj ck]) g_63 z_63 z z fid<|(h1x.e sa).row 0 3 z) ?_
    obtain ⟨x32, e20, hm33⟩ := bdS (ifT hu1z hc1k)
    have h21 := m1<|lt_ (lt_ hn h4.s) s3.s
    have h22 := (((hv.e s3).e hb).c hd (ds<|mno (shrS.lt h9)<|lt_ (lt_ he.s h4.s) s3.s)<|lg h21).e sa
    refine RX z (rd_atUR (α := StoredFile) d_59 z_63 z z h22 e20) ?_
    rintro _ ⟨g5n, h34, rfl⟩
    refine E0 (ef_setR (α := StoredFile) z_63 z h34 z z z e20 h22 hh (StoredFile_mk (x := (⟨x2.name, x2.version, x2.data⟩ : StoredFile)) h1f h1g<|(((h1i.e s3).e hb).c hd<|lg h21).e sa) hf) ?_
    rintro _ w35 ⟨S23, s36, h37, h38, h39⟩
    refine Wl ?_
    have h3a : ∀ k ∈ S23, k ∈ S0 ∨ w1.z ≤ k := or1 h39 (io sr) (leor lr)
    have h3b : Chg (· ∈ S0) w1 w35 := cM (cr S0 w1) s36 (io sr)
    exact fun _ q => ⟨x32, som hm33, a5, n6, c7, S23, (q.k<|s4 z z z z), h3b, h37, h38, h3a⟩
   refine Ws<|R z (fd f_76_0 z)<|R z (l1 g_3 z fid<|(((hw.e hb).c hd<|djs<|mm1 hz.lt<|lt_ h4.s s3.s).e sa).at z)<|R z (eql z z)<|Ra z<|Wn ?_
   obtain ⟨u3c, hu24, hm3d⟩ := bdS (ifF hu1z hc1k)
   refine Wt (fun a w => ∃ (x15 : List StoredFile), x15 = u3c ∧ ∃ a16 n17 c18 Sm, Sat 69 [(3, sl a16 n17 c18), (20, sl ar ns ct), (21, vI (rq.length : Int)), (22, (vI ((kl : Nat) : Int)))] a ∧ Chg (· ∈ S0) w1 w ∧ shrS w Sm w8.z (sl a16 n17 c18) x15 ∧ Sm.Nodup ∧ (∀ k ∈ Sm, k ∈ S0 ∨ w1.z ≤ k)) ?_ ?_
   ·refine Wc z (fun hc1l => ?_) (fun hc1l => ?_)
    ·refine Wg<|Rm z<|R z (lN (vs := [Str.v x2.name, vI x2.version, sl ai nj ck]) g_63 z_63 z z fid<|(h1x.e sa).row 0 3 z)<|E z (fS [(.tmp 53)] el_59 z z z (szAll z) (lb z)<|lb z) ?_
     rintro _ w25 ⟨rfl, h26⟩
     have h19 := h26.below
     have h3e : Blk w25 w1.z [Str.v x2.name, vI x2.version, sl ai nj ck] := h26.blk
     have h27 := m1<|lt_ (lt_ hn h4.s) s3.s
     obtain ⟨x3f, e3g, hm3h⟩ := bdS (ifT hu24 hc1l)
     refine E z (ef_pushR (α := StoredFile) el_59 e3g z z (((((hv.e s3).e hb).c hd (ds<|mno (shrS.lt h9)<|lt_ (lt_ he.s h4.s) s3.s)<|lg h27).e sa).e h19) hh h3e (StoredFile_mk (x := (⟨x2.name, x2.version, x2.data⟩ : StoredFile)) h1f h1g<|((((h1i.e s3).e hb).c hd<|lg h27).e sa).e h19) hf) ?_
     rintro _ w3i ⟨S28, a3j, n3k, c3l, rfl, s3m, h3n, h3o, h3p⟩
     refine Ra z<|Wl ?_
     have h3q : ∀ k ∈ S28, k ∈ S0 ∨ w1.z ≤ k := or1 h3p (io sr) (leor h19.s)
     have h3r : Chg (· ∈ S0) w1 w25 := cext (cr S0 w1) h19
     have h3s : Chg (· ∈ S0) w1 w3i := cM h3r s3m (io sr)
     exact fun _ q => ⟨x3f, som hm3h, a3j, n3k, c3l, S28, (q.k<|s4 z z z z), h3s, h3n, h3o, h3q⟩
    refine Ws<|Rm z<|R z (rd_geq z z)<|Ra z<|Wn ?_
    obtain ⟨u3t, hu29, hm3u⟩ := bdS (ifF hu24 hc1l)
    refine Wt (fun a w => ∃ (x1a : List StoredFile), x1a = u3t ∧ ∃ a1b n1c c1d So, Sat 69 [(3, sl a1b n1c c1d), (20, sl ar ns ct), (21, vI (rq.length : Int)), (22, (vI ((kl : Nat) : Int)))] a ∧ Chg (· ∈ S0) w1 w ∧ shrS w So w8.z (sl a1b n1c c1d) x1a ∧ So.Nodup ∧ (∀ k ∈ So, k ∈ S0 ∨ w1.z ≤ k)) ?_ ?_
    ·refine Wc z (fun hc1m => ?_) (fun hc1m => ?_)
     ·refine Wd (X := noX) 128 (.rd 0 (.rd 1 (.rd 2 (.rd 3 (.rd 4 (.rd 5 (.rd 6 (.ef 7 (.rd 8 .done))))))))) mo (by kernel_rfl) fun w3v s1n _ => dR z z (mv z)<|dR z z (mv z) ?_
      obtain ⟨x5o, e3w, hm3x⟩ := bdS (ifT hu29 hc1m)
      have h2a := ((((hv.e s3).e hb).c hd (ds<|mno (shrS.lt h9)<|lt_ (lt_ he.s h4.s) s3.s)<|lg<|m1<|lt_ (lt_ hn h4.s) s3.s).e sa).e s1n
      refine dRX z z (rd_slicePreR d_59 z_63 z h2a z e3w) ?_
      rintro _ ⟨n5p, rfl, h3y⟩
      refine dR z z (mv z)<|dR z z (mv z)<|dR z z (add_ z z) ?_
      obtain ⟨x5q, e3z, hm40⟩ := bdS hm3x
      refine dRX z z (rd_sliceRow d_59 z_63 z z h2a z z e3z) ?_
      rintro _ ⟨a5r, n5s, c5t, rfl, h41⟩
      obtain ⟨x42, e43, hm44⟩ := bdS hm40
      refine dE z z (ef_appendR (α := StoredFile) el_59 e43 z z h3y hh h41 hf) (.inl z) ?_
      rintro _ w45 ⟨S2b, a46, n47, c48, rfl, s49, h4a, h4b, h4c⟩
      refine dR z z (asg z)<|pD ?_
      have h4d : ∀ k ∈ S2b, k ∈ S0 ∨ w1.z ≤ k := or1 h4c (io sr) (leor s1n.s)
      have h4e : Chg (· ∈ S0) w1 w3v := cext (cr S0 w1) s1n
      have h4f : Chg (· ∈ S0) w1 w45 := cM h4e s49 (io sr)
      exact fun _ q => ⟨x42, som hm44, a46, n47, c48, S2b, (q.k<|s4 z z z z), h4f, h4a, h4b, h4d⟩
     exact WC_skip (fun _ q => ⟨xg, som<|ifF hu29 hc1m, a5, n6, c7, S0, (q.k<|s4 z z z z), (cr S0 w1), ((((hv.e s3).e hb).c hd (ds<|mno (shrS.lt h9)<|lt_ (lt_ he.s h4.s) s3.s)<|lg<|m1<|lt_ (lt_ hn h4.s) s3.s).e sa), hh, (io sr)⟩)
    rintro a4g w4h ⟨x1a, rfl, a1b, n1c, c1d, So, hS5u, s4i, h4j, h4k, h4l⟩
    revert a4g
    have h4m : ∀ k ∈ So, k ∈ S0 ∨ w1.z ≤ k := or1 h4l (io sr) (leor lr)
    have h4n : Chg (· ∈ S0) w1 w4h := cM (cr S0 w1) s4i (io sr)
    exact fun _ q => ⟨x1a, som hm3u, a1b, n1c, c1d, So, (q.k<|s4 z z z z), h4n, h4j, h4k, h4m⟩
   rintro a4o w4p ⟨x15, rfl, a16, n17, c18, Sm, hS5v, s4q, h4r, h4s, h4t⟩
   revert a4o
   have h4u : ∀ k ∈ Sm, k ∈ S0 ∨ w1.z ≤ k := or1 h4t (io sr) (leor lr)
   have h4v : Chg (· ∈ S0) w1 w4p := cM (cr S0 w1) s4q (io sr)
   exact fun _ q => ⟨x15, som hm3d, a16, n17, c18, Sm, (q.k<|s4 z z z z), h4v, h4r, h4s, h4u⟩
  rintro a4w w5w ⟨x11, rfl, a12, n13, c14, Sx, hS5x, s4x, h4y, h4z, h50⟩
  revert a4w
  refine Wo<|Wg<|R z (inc_ hk1q (lt_ (ownS.len hy) LEN_le) z z)<|Rm z<|Wl ?_
  have h2c := lt_ (lt_ hn h4.s) s3.s
  exact fun _ q => ⟨x11, (som hm31).symm, ⟨a12, n13, c14, Sx, (q.k<|s4 z z z z), (bM (bup (bM (bup (bup (bM (bup su he) h4 h1h) s3) hb) hd<|m1 h2c) sa) s4x hf), h4y, h4z, (o1le h50 hf<|lt_ (lt_ (lt_ h2c hb.s) hd.s) sa.s)⟩⟩
 ·rintro xg a5y w5z ⟨a5, n6, c7, S0, hS51, s52, h9, hh, hf⟩
  refine Wu ?_ hS51
  refine Ws<|R z (lss z z)<|Wn<|Wq<|Wc z (fun hc => (noltt hc).elim) (fun _ => ?_)
  exact We (fun a' ha' => ⟨rfl, ⟨a5, n6, c7, S0, (Sat.weaken ha'<|s1 z), s52, h9, hh, hf⟩⟩)
 ·rintro xg a53 w60 rfl ⟨a5, n6, c7, S0, hS61, s2d, h9, hh, hf⟩
  have hm54 := elL hm1o
  revert a53
  refine Wo<|Ws<|Rm z<|Ra z<|Wn ?_
  obtain rfl := som hm54
  exact Wr<|ret1 hr z ⟨(bup (bup sp s1e) s2d), a5, n6, c7, z, (shrS.rep h9 (shrS.lt h9) s2d.s)⟩
 rintro r62 ex63 a64 w65 rfl ⟨rfl, hq55⟩
 have hm56 := elR hm1o
 obtain rfl := som hm56
 exact ⟨hq55, z⟩
theorem W_w3n {x1 : Registry} {x2 : Int} {res : Bool} (hm : M_impl_hasVersion x1 x2 = some res) (hBw : B ≤ w0.z) (p1_0 : repS w0 B (sl A0 N0 C0) x1.versions) (p2_0 : inI x2) : CallsR prog 85 [(.agg #[sl A0 N0 C0]), vI x2] w0 (Q11 w0 B res) := by
 unfold M_impl_hasVersion at hm
 refine goF func85 z z (lb z) fun fn hr => Ws<|E z (fb z) ?_
 rintro _ w1 ⟨rfl, h2⟩
 have h4 := h2.below
 have h6 : Blk w1 w0.z [sl A0 N0 C0] := h2.blk
 refine Ra z<|Wn<|Wq ?_
 obtain ⟨u7, hu5, hm8⟩ := bdS hm
 refine Wt (fun a w => ∃ (x3 : Bool), x3 = u7 ∧ Sat 14 [(4, vB x3)] a ∧ Below w1.z w1 w) ?_ ?_
 ·refine Wg<|Rm z<|R z (rd_geq z z)<|Rm z ?_
  rcases bs (decide (0 ≤ x2)) with hc0 | hc0
  ·exact Rh z hc0 (mv z)<|Rh z hc0 (fd f_34_0 z)<|Rh z hc0 (l1 g_32 z fid<|h6.at z)<|Rh z hc0 (lnR d_32 z<|p1_0.e h4)<|Rh z hc0 (lss z z)<|R z (pT z hc0 z)<|Ra z<|Wl (fun _ q => ⟨decide (x2 < (x1.versions.length : Int)), som<|ifT hu5 hc0, (q.k<|s1 z), (br w1)⟩)
  iterate 5 refine Nh z hc0 ?_
  exact R z (pF z hc0 z)<|Ra z<|Wl (fun _ q => ⟨false, som<|ifF hu5 hc0, (q.k<|s1 z), (br w1)⟩)
 rintro a9 wb ⟨x3, rfl, hSc, sa⟩
 revert a9
 refine Wo ?_
 obtain rfl := som hm8
 exact Wr<|ret1 hr z ⟨(bup h4 sa), z⟩
theorem W_w1i {x1 : Desc} {res : Int} (hm : M_impl_RootOf x1 = some res) (hBw : B ≤ w0.z) (p1_0 : repS w0 B (sl A0 N0 C0) x1.rules) : CallsR prog 139 [(.agg #[sl A0 N0 C0])] w0 (Q0 w0 B res) := by
 unfold M_impl_RootOf at hm
 refine goF func139 z z (lb z) fun fn hr => Ws<|E z (fb z) ?_
 rintro _ w2 ⟨rfl, h0⟩
 have h1 := h0.below
 have h3 : Blk w2 w0.z [sl A0 N0 C0] := h0.blk
 refine Ra z<|Wn<|Ws<|R z (fd f_95_0 z)<|R z (l1 g_93 z fid<|h3.at z)<|R z (lnR d_93 z<|p1_0.e h1)<|R z (sb_ z z)<|Ra z<|Wn ?_
 obtain rfl := som hm
 exact Wr<|ret1 hr z ⟨h1, z, (iS _ _)⟩
theorem W_w3o {x1 : Desc} {x2 : Int} {res : Bool} (hm : M_impl_known n x1 x2 = some res) (hBw : B ≤ w0.z) (p1_0 : repS w0 B (sl A0 N0 C0) x1.rules) (p2_0 : inI x2) : CallsR prog 153 [(.agg #[sl A0 N0 C0]), vI x2] w0 (Q11 w0 B res) := by
 unfold M_impl_known at hm
 refine goF func153 z z (lb z) fun fn hr => Ws<|E z (fb z) ?_
 rintro _ w3 ⟨rfl, h5⟩
 have h1 := h5.below
 have h6 : Blk w3 w0.z [sl A0 N0 C0] := h5.blk
 refine Ra z<|Wn<|Wq ?_
 obtain ⟨u9, hua, hmb⟩ := bdS hm
 refine Wt (fun a w => ∃ (x4 : Bool), x4 = u9 ∧ Sat 12 [(4, vB x4)] a ∧ Below w3.z w3 w) ?_ ?_
 ·refine Wg<|R z (lN (vs := [sl A0 N0 C0]) g_95 z_95 z z fid<|h6.row 0 1 z) ?_
  have h7 := p1_0.e h1
  obtain ⟨rc, ed, hm8⟩ := bdS hua
  refine E z (fc call111 z<|W_w1g (B := B) ed (lt_ hBw h1.s) h7) ?_
  rintro _ wk ⟨s2, rfl⟩
  refine Rm z ?_
  rcases bs rc with hc0 | hc0
  ·refine Rh z hc0 (lN (vs := [sl A0 N0 C0]) g_95 z_95 z z fid<|(h6.e s2).row 0 1 z)<|Rh z hc0 (mv z) ?_
   obtain ⟨re, ef, hmg⟩ := bdS (ifT hm8 hc0)
   refine Eg z z hc0 z (fc call150 z<|W_w0l (B := B) ef (lt_ hBw<|lt_ h1.s s2.s) (h7.e s2) p2_0) ?_
   rintro _ wl ⟨sh, rfl⟩
   exact R z (pT z hc0 z)<|Ra z<|Wl (fun _ q => ⟨re, som hmg, (q.k<|s1 z), (bup s2 sh)⟩)
  iterate 3 refine Nh z hc0 ?_
  exact R z (pF z hc0 z)<|Ra z<|Wl (fun _ q => ⟨false, som<|ifF hm8 hc0, (q.k<|s1 z), s2⟩)
 rintro ai wm ⟨x4, rfl, hSn, sj⟩
 revert ai
 refine Wo ?_
 obtain rfl := som hmb
 exact Wr<|ret1 hr z ⟨(bup h1 sj), z⟩
def Q21 (w0 : World) (B : Nat) (r : (Option (Int × Int))) (v : Value) (w' : World) : Prop := Bw w0 w' ∧ (fun r1 => ∃ (v1 : Value) (S1 : List Nat), v1 = v ∧ errR 162 w' S1 v1 r1 ∧ (∀ k ∈ S1, w0.z ≤ k)) r
theorem W_w06 {x1 : Int} {x2 : Int} {res : (Option (Int × Int))} (hm : M_impl_fail x1 x2 = some res) (hBw : B ≤ w0.z) (p1_0 : inI x1) (p2_0 : inI x2) : CallsR prog 190 [vI x1, vI x2] w0 (Q21 w0 B res) := by
 unfold M_impl_fail at hm
 refine goF func190 z z (lb z) fun fn hr => Ws<|Ra z<|Wn<|Ws<|Rm z<|Rm z<|R z (bP (parts := [(0, (.tmp 5)), (1, (.tmp 6))]) (cs := [vI x1, vI x2]) build_166 z z)<|E z (fb z) ?_
 rintro _ w1 ⟨rfl, h0⟩
 have h2 : Blk w1 w0.z [vI x1, vI x2] := h0.blk
 refine R z (rd_makeIface d_162 (fun _ h => by cases h) z)<|Ra z<|Wn ?_
 obtain rfl := som hm
 exact Wr<|ret1 hr z ⟨h0.below, (.iface 162<|pt w0.z), [w0.z], z, (errR_mkp h2 p1_0 p2_0 z), (mem1 lr)⟩
def Q22 (w0 : World) (B : Nat) (r : (List UInt8) × (Option (Int × Int))) (v : Value) (w' : World) : Prop := Bw w0 w' ∧ un2 (fun r1 r2 => ∃ (a1 : Option Addr) (n1 c1 : Nat) (v2 : Value) (S2 : List Nat), v = .tuple #[sl a1 n1 c1, v2] ∧ repS w' w'.z (sl a1 n1 c1) r1 ∧ errR 162 w' S2 v2 r2 ∧ (∀ k ∈ S2, w0.z ≤ k)) r
theorem W_w0a {x1 : FileReader} {b1 o1 : Nat} {x2 : Int} {x3 : Int} {res : (List UInt8) × (Option (Int × Int))} (hm : M_impl_fileReader_take x1 x2 x3 = some res) (hBw : B ≤ w0.z) (p1_0 : repS w0 B (sl A0 N0 C0) x1.d.rules) (p1_1 : repS w0 B (sl A1 N1 C1) x1.b) (hC1 : CellsAt w0 b1 o1 [sl A0 N0 C0, sl A1 N1 C1]) (hC1b : b1 < B) (p2_0 : inI x2) (p3_0 : inI x3) : CallsR prog 203 [(.pointer (some ⟨b1, o1, none⟩)), vI x2, vI x3] w0 (Q22 w0 B res) := by
 unfold M_impl_fileReader_take at hm
 refine goF func203 z z (lb z) fun fn hr => Ws<|Ra z<|Ra z<|Wn<|Wq<|Ws<|Rm z<|Rm z<|R z (rd_nil z)<|R z (fd f_157_1 z)<|R z (l1 g_25 z fid<|hC1.at (j := 1) z)<|R z (lnR d_25 z p1_1)<|Rm z<|R z (sb_ z z)<|R z (rd_gtr z z)<|Wn<|Wc z (fun hc0 => ?_) (fun hc0 => ?_)
 ·refine Ws<|Rm z ?_
  obtain ⟨re, e2, hm3⟩ := bdS (ifT hm hc0)
  refine E z (fc call190 z<|W_w06 (B := B) e2 hBw p2_0<|ii z) ?_
  rintro _ wf ⟨s1, v4, S5, rfl, h6, h7⟩
  refine Ra z<|Ra z<|Wn ?_
  obtain rfl := som hm3
  exact Wr<|ret2 hr z z ⟨s1, none, 0, 0, v4, S5, z, (repS.mono (or_ onL an_) s1.s), h6, h7⟩
 refine Wk<|Ws<|Rm z<|R z (rd_nil z)<|R z (fd f_157_1 z)<|R z (l1 g_25 z fid<|hC1.at (j := 1) z)<|Rm z<|Rm z<|Rm z<|R z (add_ z z) ?_
 obtain ⟨xg, e8, hm9⟩ := bdS (ifF hm hc0)
 refine RX z (rX d_25 z_5 z z p1_1 z z e8) ?_
 rintro _ ⟨aa, nb, cc, rfl, hd⟩
 refine Ra z<|Ra z<|Wn ?_
 obtain rfl := som hm9
 exact Wr<|ret2 hr z z ⟨(br w0), aa, nb, cc, .nilIface, ([] : List Nat), z, (repS.mono hd hBw), errR_nil, an_⟩
theorem W_w3p {x1 : List UInt8} {x2 : Bool} {res : Int} (hm : M_impl_ReadInteger x1 x2 = some res) (hBw : B ≤ w0.z) (p1_0 : repS w0 B (sl A0 N0 C0) x1) : CallsR prog 204 [sl A0 N0 C0, vB x2] w0 (Q0 w0 B res) := by
 unfold M_impl_ReadInteger at hm
 refine goF func204 z z (lb z) fun fn hr => Ws<|Ra z<|Wn<|Wq<|Ws<|Rm z<|R z (lnR d_25 z p1_0)<|R z (rd_gtr z z)<|Wn<|Wc z (fun hc4 => ?_) (fun hc4 => ?_)
 ·refine Ws<|Ra z<|Wn ?_
  obtain rfl := som (ifT hm hc4)
  exact Wr<|ret1 hr z ⟨(br w0), z, (ii z)⟩
 refine Wk<|Ws<|Ra z<|Wn<|Wq<|Ws<|Rm z<|R z (lnR d_25 z p1_0)<|Rm z<|Wn ?_
 obtain ⟨u11, huc, hm8⟩ := bdS (ifF hm hc4)
 refine Wf (σ := Int) (ρ := Int) (fun (k5 : Nat) (x0 : Int) a w => Sat 38 [(0, sl A0 N0 C0), (1, vB x2), (5, vI x0), (11, vI (x1.length : Int)), (12, (vI ((k5 : Nat) : Int)))] a ∧ Below w0.z w0 w ∧ inI x0) (fun (x0 : Int) a w => Sat 38 [(5, vI x0)] a ∧ Below w0.z w0 w ∧ inI x0) (fun r ex a w => ex = .ret ∧ RetPost prog fn (Q0 w0 B r) a w) huc ?_ ?_ ?_ ?_ ?_
 ·exact fun _ q => ⟨(q.k<|s5 z z z z z), (br w0), (ii z)⟩
 ·rintro k5 x0 a12 w1 o13 hk9 ⟨hSd, s6, h2⟩ hme
  refine Wu ?_ hSd
  refine Ws<|R z (lss z z)<|Wn<|Wq<|Wc z (fun _ => ?_) (fun hc => (nolt hk9 hc).elim)
  refine Wk<|Wq<|Wb<|Ws<|Rm z<|Ra z<|Wn<|Ws<|Rm z<|Wn ?_
  obtain ⟨uf, hua, hmg⟩ := bdS hme
  refine Wt (fun a w => ∃ (x3 : Int), x3 = uf ∧ Sat 38 [(0, sl A0 N0 C0), (1, vB x2), (5, vI x3), (11, vI (x1.length : Int)), (12, (vI ((k5 : Nat) : Int)))] a ∧ Below w1.z w1 w ∧ inI x3) ?_ ?_
  ·refine Wc z (fun hc7 => ?_) (fun hc7 => ?_)
   ·refine Wg<|Rm z<|R z (rd_shl z z (by decide))<|Rm z<|Rm z ?_
    have hb := p1_0.e s6
    refine R z (lnR d_25 z hb)<|R z (sb_ z z)<|Rm z<|R z (sb_ z z) ?_
    obtain ⟨xh, ei, hmj⟩ := bdS (ifT hua hc7)
    refine RX z (at_ (α := UInt8) d_25 z_5 z z z hb ei) ?_
    rintro _ ⟨b14, o15, cs16, rfl, hk, hl, h17⟩
    obtain rfl := u8 hl
    exact R z (l1 g_5 z fid<|hk.at0 z)<|R z (rd_convUI d_5 d_3 z)<|R z (rd_or z z)<|Ra z<|Wl (fun _ q => ⟨bitop .i64 (· ||| ·) (shlK .i64 x0 8)<|byteI xh, som hmj, (q.k<|s5 z z z z z), (br w1), (inI_bitop _ _ _)⟩)
   refine Wg<|Rm z<|R z (rd_shl z z (by decide))<|Rm z<|Rm z ?_
   obtain ⟨xm, en, hmo⟩ := bdS (ifF hua hc7)
   refine RX z (at_ (α := UInt8) d_25 z_5 z z z (p1_0.e s6) en) ?_
   rintro _ ⟨b18, o19, cs1a, rfl, hp, hq, h1b⟩
   obtain rfl := u8 hq
   exact R z (l1 g_5 z fid<|hp.at0 z)<|R z (rd_convUI d_5 d_3 z)<|R z (rd_or z z)<|Ra z<|Wl (fun _ q => ⟨bitop .i64 (· ||| ·) (shlK .i64 x0 8)<|byteI xm, som hmo, (q.k<|s5 z z z z z), (br w1), (inI_bitop _ _ _)⟩)
  rintro ar w1c ⟨x3, rfl, hS1d, ss, ht⟩
  revert ar
  exact Wo<|Wg<|R z (inc_ hk9 (lt_ (repS.len p1_0) LEN_le) z z)<|Rm z<|Wl (fun _ q => ⟨x3, (som hmg).symm, ⟨(q.k<|s5 z z z z z), (bup s6 ss), ht⟩⟩)
 ·rintro x0 a1e w1f ⟨hSu, sv, h2⟩
  refine Wu ?_ hSu
  refine Ws<|R z (lss z z)<|Wn<|Wq<|Wc z (fun hc => (noltt hc).elim) (fun _ => ?_)
  exact We (fun a' ha' => ⟨rfl, ⟨(Sat.weaken ha'<|s1 z), sv, h2⟩⟩)
 ·rintro x0 aw w1g rfl ⟨hS1h, sx, h2⟩
  have hmy := elL hm8
  revert aw
  refine Wo<|Ws<|Rm z<|Ra z<|Wn ?_
  obtain rfl := som hmy
  exact Wr<|ret1 hr z ⟨sx, z, h2⟩
 rintro r1i ex1j a1k w1l rfl ⟨rfl, hqz⟩
 have hm10 := elR hm8
 obtain rfl := som hm10
 exact ⟨hqz, z⟩
def Q23 (w0 : World) (B : Nat) (r : Int × Int × (Option (Int × Int))) (v : Value) (w' : World) : Prop := Bw w0 w' ∧ un3 (fun r1 r2 r3 => ∃ (v1 : Value) (S1 : List Nat), v = .tuple #[vI r1, vI r2, v1] ∧ inI r1 ∧ inI r2 ∧ errR 162 w' S1 v1 r3 ∧ (∀ k ∈ S1, w0.z ≤ k)) r
theorem W_w0b {x1 : FileReader} {b1 o1 : Nat} {x2 : Int} {x3 : Int} {res : Int × Int × (Option (Int × Int))} (hm : M_impl_fileReader_integer x1 x2 x3 = some res) (hBw : B ≤ w0.z) (p1_0 : repS w0 B (sl A0 N0 C0) x1.d.rules) (p1_1 : repS w0 B (sl A1 N1 C1) x1.b) (hC1 : CellsAt w0 b1 o1 [sl A0 N0 C0, sl A1 N1 C1]) (hC1b : b1 < B) (p2_0 : inI x2) (p3_0 : inI x3) : CallsR prog 181 [(.pointer (some ⟨b1, o1, none⟩)), vI x2, vI x3] w0 (Q23 w0 B res) := by
 unfold M_impl_fileReader_integer at hm
 refine goF func181 z z (lb z) fun fn hr => Ws<|Ra z<|Ra z<|Ra z<|Wn<|Ws<|Rm z<|R z (rd_nil z)<|R z (fd f_157_0 z)<|R z (fd f_95_0 z)<|R z (l1 g_93 z fid<|hC1.at (j := 0) z)<|Rm z ?_
 obtain ⟨x6, ep, hmq⟩ := bdS hm
 refine RX z (at_ (α := Rule) d_93 z_144 z z z p1_0 ep) ?_
 rintro _ ⟨b17, o18, cs19, rfl, ht, hu, h1a⟩
 obtain ⟨a7, n8, c9, aa, nb, cc, ad, ne, cf, ag, nh, ci, rfl, h1b, h1c, hv, h1d, h1e, h1f, h1g⟩ := Rule_open hu
 refine R z (lN (vs := (vR x6 a7 n8 c9 aa nb cc ad ne cf ag nh ci)) g_144 z_144 z z fid ht)<|E z (fa zero_144) ?_
 rintro _ wr ⟨rfl, hj⟩
 have h0 := hj.below
 have hw : Blk wr w0.z [(Str.v (⟨[]⟩ : Str)), vI 0, vI 0, vB false, sl none 0 0, sl none 0 0, sl none 0 0, sl none 0 0] := hj.blk
 refine E0 (fs (cur' := (vR x6 a7 n8 c9 aa nb cc ad ne cf ag nh ci)) z_144 z z hw z (lb z) (oA z) z) ?_
 rintro _ w1h ⟨hk, ss⟩
 have h1 := ss.one
 refine Wn<|Ws<|Rm z<|Rm z<|R z (fd f_144_2 z)<|R z (l1 g_3 z fid<|hk.at z) ?_
 have h3 := m1 hBw
 have hl := lt_ h0.s h1.s
 obtain ⟨r1i, r1j, ex, hmm⟩ := bd2S hmq
 refine E z (fc call203 z<|W_w0a (B := B) ex (lt_ hBw hl) ((p1_0.e h0).c h1<|lg h3) ((p1_1.e h0).c h1<|lg h3) ((hC1.e h0).c h1<|(lg h3) _ hC1b) hC1b p3_0 hv) ?_
 rintro _ wy ⟨s4, a1k, n1l, c1m, vz, S10, rfl, h11, hn, h12⟩
 refine Rm z<|R z (ext_ z z)<|R z (ext_ z z)<|Ra z<|Ra z<|Wn<|Wq<|Ws<|Rm z<|R z (rd_neqEr d_159 z z hn)<|Wn<|Wc z (fun hc5 => ?_) (fun hc5 => ?_)
 ·refine Ws<|Rm z<|Rm z<|Ra z<|Ra z<|Ra z<|Wn ?_
  obtain rfl := som (ifT hmm hc5)
  exact Wr<|ret3 hr z z z ⟨(bup (bM h0 h1<|mem1 lr) s4), vz, S10, z, (ii z), p3_0, hn, (o0le h12 hl)⟩
 refine Wk<|Wq (Wd (X := noX) 0 (.rd 0 (.rd 1 (.rd 2 (.rd 4 (.rd 5 (.rd 6 (.rd 7 (.ef 3 (.rd 8 (.rd 9 (.rd 10 .done))))))))))) mo (by kernel_rfl) fun w1n s2 _ => dR z z (mv z)<|dR z z (fd f_144_3 z) ?_)
 have ho := (hk.e s4).e s2
 refine dR z z (l1 g_4 z fid<|ho.at z)<|dR z z (mv z)<|dR z z (fd f_144_2 z)<|dR z z (l1 g_3 z fid<|ho.at z)<|dR z z (add_ z z) ?_
 obtain ⟨r1o, e13, hm14⟩ := bdS (ifF hmm hc5)
 refine dE z z (fc call204 z<|W_w3p (B := wy.z) e13 s2.s<|h11.e s2) (.inr fun _ _ h => chgB<|h.1) ?_
 rintro _ w1p ⟨s15, rfl, h16⟩
 iterate 3 refine dR z z (asg z) ?_
 refine pD<|Wo ?_
 obtain rfl := som hm14
 exact Wr<|ret3 hr z z z ⟨(bup (bup (bup (bM h0 h1<|mem1 lr) s4) s2) s15), .nilIface, ([] : List Nat), z, h16, (iA _ _), errR_nil, an_⟩
def Q24 (w0 : World) (B : Nat) (r : Int × (Option (Int × Int))) (v : Value) (w' : World) : Prop := Bw w0 w' ∧ un2 (fun r1 r2 => ∃ (v1 : Value) (S1 : List Nat), v = .tuple #[vI r1, v1] ∧ inI r1 ∧ errR 162 w' S1 v1 r2 ∧ (∀ k ∈ S1, w0.z ≤ k)) r
theorem W_w3q {x1 : FileReader} {b1 o1 : Nat} {x2 : Rule} {x3 : Int} {res : Int × (Option (Int × Int))} (hm : M_impl_fileReader_constant x1 x2 x3 = some res) (hBw : B ≤ w0.z) (p1_0 : repS w0 B (sl A0 N0 C0) x1.d.rules) (p1_1 : repS w0 B (sl A1 N1 C1) x1.b) (hC1 : CellsAt w0 b1 o1 [sl A0 N0 C0, sl A1 N1 C1]) (hC1b : b1 < B) (p2_0 : x2.name.b.length ≤ LEN) (p2_1 : inI x2.kind) (p2_2 : inI x2.size) (p2_4 : repS w0 B (sl A3 N3 C3) x2.bytes) (p2_5 : repS w0 B (sl A4 N4 C4) x2.names) (p2_6 : repS w0 B (sl A2 N2 C2) x2.tags) (p2_7 : repS w0 B (sl A5 N5 C5) x2.kids) (p3_0 : inI x3) : CallsR prog 182 [(.pointer (some ⟨b1, o1, none⟩)), (.agg #[Str.v x2.name, vI x2.kind, vI x2.size, vB x2.little, sl A3 N3 C3, sl A4 N4 C4, sl A2 N2 C2, sl A5 N5 C5]), vI x3] w0 (Q24 w0 B res) := by
 unfold M_impl_fileReader_constant at hm
 refine goF func182 z z (lb z) fun fn hr => Ws<|E z (fb z) ?_
 rintro _ w2 ⟨rfl, h6⟩
 have h0 := h6.below
 have h8 : Blk w2 w0.z (vR x2 A3 N3 C3 A4 N4 C4 A2 N2 C2 A5 N5 C5) := h6.blk
 refine Ra z<|Ra z<|Wn<|Wq<|Ws<|R z (fd f_144_4 z)<|R z (l1 g_25 z fid<|h8.at z) ?_
 have h3 := p2_4.e h0
 refine R z (lnR d_25 z h3)<|Rm z<|Wn ?_
 obtain ⟨u1b, hui, hm9⟩ := bdS hm
 refine Wf (σ := Unit) (ρ := Int × (Option<|Int × Int)) (fun (ka : Nat) (_ : Unit) a w => Sat 52 [(0, (.pointer<|some ⟨b1, o1, none⟩)), (2, vI x3), (4, pt w0.z), (11, sl A3 N3 C3), (12, vI (x2.bytes.length : Int)), (13, (vI ((ka : Nat) : Int)))] a ∧ Below w2.z w2 w) (fun (_ : Unit) a w => Sat 52 [(2, vI x3), (4, pt w0.z)] a ∧ Below w2.z w2 w) (fun r ex a w => ex = .ret ∧ RetPost prog fn (Q24 w0 B r) a w) hui ?_ ?_ ?_ ?_ ?_
 ·exact fun _ q => ⟨(q.k<|s6 z z z z z z), (br w2)⟩
 ·rintro ka _ a1c w1d o1e hkb ⟨hSj, s1⟩ hmk
  refine Wu ?_ hSj
  refine Ws<|R z (lss z z)<|Wn<|Wq<|Wc z (fun _ => ?_) (fun hc => (nolt hkb hc).elim)
  refine Wk<|Wq<|Wb<|Ws<|Rm z ?_
  obtain ⟨x1f, el, hmc⟩ := bdS hmk
  refine RX z (at_ (α := UInt8) d_25 z_5 z z z (h3.e s1) el) ?_
  rintro _ ⟨b1g, o1h, cs1i, rfl, hn, ho, h1j⟩
  obtain rfl := u8 ho
  refine R z (l1 g_5 z fid<|hn.at0 z)<|Ra z<|Ra z<|Wn<|Wq<|Ws<|Rm z<|Rm z<|R z (add_ z z)<|Rm z<|R z (rd_nil z)<|R z (fd f_157_1 z) ?_
  have hd := (hC1.e h0).e s1
  refine R z (l1 g_25 z fid<|hd.at (j := 1) z) ?_
  have he := (p1_1.e h0).e s1
  refine R z (lnR d_25 z he)<|R z (rd_geq z z)<|Wn<|Wc z (fun hc4 => ?_) (fun hc4 => ?_)
  ·refine Ws<|Rm z<|Rm z ?_
   have hf := lt_ h0.s s1.s
   obtain ⟨r1k, em, hmp⟩ := bdS (ifT hmc hc4)
   refine E z (fc call190 z<|W_w06 (B := B) em (lt_ hBw hf) p3_0<|ii z) ?_
   rintro _ w1l ⟨sq, vr, Ss, rfl, ht, hu⟩
   exact Ra z<|Ra z<|Wn<|Wr<|rtO<|qL (som hmp).symm<|ret2 hr z z ⟨(bup (bup h0 s1) sq), vr, Ss, z, p3_0, ht, (o0le hu hf)⟩
  refine Wk<|Ws<|Rm z<|R z (rd_nil z)<|R z (fd f_157_1 z)<|R z (l1 g_25 z fid<|hd.at (j := 1) z)<|Rm z<|Rm z<|R z (add_ z z) ?_
  obtain ⟨x1m, ev, hmg⟩ := bdS (ifF hmc hc4)
  refine RX z (at_ (α := UInt8) d_25 z_5 z z z he ev) ?_
  rintro _ ⟨b1n, o1o, cs1p, rfl, hw, hx, h1q⟩
  obtain rfl := u8 hx
  refine R z (l1 g_5 z fid<|hw.at0 z)<|Rm z<|R z (nq z z)<|Wn<|Wc z (fun hc5 => ?_) (fun hc5 => ?_)
  ·refine Ws<|Rm z<|Rm z<|Rm z<|R z (add_ z z) ?_
   have hh := lt_ h0.s s1.s
   obtain ⟨r1r, ey, hmz⟩ := bdS (ifT hmg hc5)
   refine E z (fc call190 z<|W_w06 (B := B) ey (lt_ hBw hh) (iA _ _)<|ii z) ?_
   rintro _ w1s ⟨s10, v11, S12, rfl, h13, h14⟩
   exact Ra z<|Ra z<|Wn<|Wr<|rtO<|qL (som hmz).symm<|ret2 hr z z ⟨(bup (bup h0 s1) s10), v11, S12, z, p3_0, h13, (o0le h14 hh)⟩
  exact Wk<|Wg<|R z (inc_ hkb (lt_ (repS.len p2_4) LEN_le) z z)<|Rm z<|Wl (fun _ q => ⟨(), (som<|ifF hmg hc5).symm, ⟨(q.k<|s6 z z z z z z), s1⟩⟩)
 ·rintro _ a1t w1u ⟨hS15, s16⟩
  refine Wu ?_ hS15
  refine Ws<|R z (lss z z)<|Wn<|Wq<|Wc z (fun hc => (noltt hc).elim) (fun _ => ?_)
  exact We (fun a' ha' => ⟨rfl, ⟨(Sat.weaken ha'<|s2 z z), s16⟩⟩)
 ·rintro _ a17 w1v rfl ⟨hS1w, s7⟩
  have hm18 := elL hm9
  revert a17
  refine Wo<|Ws<|Rm z<|R z (fd f_144_4 z)<|R z (l1 g_25 z fid<|(h8.e s7).at z)<|R z (lnR d_25 z<|h3.e s7)<|R z (add_ z z)<|Ra z<|Ra z<|Wn ?_
  obtain rfl := som hm18
  exact Wr<|ret2 hr z z ⟨(bup h0 s7), .nilIface, ([] : List Nat), z, (iA _ _), errR_nil, an_⟩
 rintro r1x ex1y a1z w20 rfl ⟨rfl, hq19⟩
 have hm1a := elR hm9
 obtain rfl := som hm1a
 exact ⟨hq19, z⟩
def Q25 (w0 : World) (B : Nat) (r : Val × Int × (Option (Int × Int))) (v : Value) (w' : World) : Prop := Bw w0 w' ∧ un3 (fun r1 r2 r3 => ∃ (a1 : Option Addr) (n1 c1 : Nat) (S1 : List Nat) (a2 : Option Addr) (n2 c2 : Nat) (S2 : List Nat) (v3 : Value) (S3 : List Nat), v = .tuple #[(.agg #[vI r1.number, sl a1 n1 c1, sl a2 n2 c2]), vI r2, v3] ∧ inI r1.number ∧ ownS w' S1 (sl a1 n1 c1) r1.bytes ∧ ownS w' S2 (sl a2 n2 c2) r1.items ∧ inI r2 ∧ errR 162 w' S3 v3 r3 ∧ (∀ k ∈ S3, w0.z ≤ k) ∧ (S1 ++ S2).Nodup ∧ (∀ k ∈ (S1 ++ S2), w0.z ≤ k)) r
theorem W_w1j {x1 : FileReader} {b1 o1 : Nat} {x2 : Int} {x3 : Int} {res : Val × Int × (Option (Int × Int))} (hm : M_impl_fileReader_content x1 x2 x3 = some res) (hBw : B ≤ w0.z) (p1_0 : repS w0 B (sl A0 N0 C0) x1.d.rules) (p1_1 : repS w0 B (sl A1 N1 C1) x1.b) (hC1 : CellsAt w0 b1 o1 [sl A0 N0 C0, sl A1 N1 C1]) (hC1b : b1 < B) (p2_0 : inI x2) (p3_0 : inI x3) : CallsR prog 183 [(.pointer (some ⟨b1, o1, none⟩)), vI x2, vI x3] w0 (Q25 w0 B res) := by
 unfold M_impl_fileReader_content at hm
 refine goF func183 z z (lb z) fun fn hr => Ws<|E z (fa zero_118) ?_
 rintro _ wk ⟨rfl, h8⟩
 have h0 := h8.below
 have h2 : Blk wk w0.z [vI 0, sl none 0 0, sl none 0 0] := h8.blk
 refine Ra z<|Ra z<|Wn<|Ws<|Rm z<|Rm z<|Rm z ?_
 obtain ⟨rz, r10, el, hm9⟩ := bd2S hm
 refine E z (fc call203 z<|W_w0a (B := B) el (lt_ hBw h0.s) (p1_0.e h0) (p1_1.e h0) (hC1.e h0) hC1b p2_0 p3_0) ?_
 rintro _ w11 ⟨s1, a12, n13, c14, vm, Sn, rfl, ho, ha, hb⟩
 refine Rm z<|R z (ext_ z z)<|R z (ext_ z z)<|Ra z<|Ra z<|Wn<|Wq<|Ws<|Rm z<|R z (rd_neqEr d_159 z z ha)<|Wn<|Wc z (fun hc4 => ?_) (fun hc4 => ?_)
 ·refine Ws<|R z (bP (parts := []) (cs := [vI 0, sl none 0 0, sl none 0 0]) build_118 z z)<|Rm z<|Rm z<|E0 (fs (cur' := [vI 0, sl none 0 0, sl none 0 0]) z_118 z z (h2.e s1) z (lb z) (oA z) z) ?_
  rintro _ w15 ⟨hp, sq⟩
  have hc := sq.one
  refine Ra z<|Ra z<|Wn ?_
  obtain rfl := som (ifT hm9 hc4)
  exact Wr<|ret3 hr (resC g_118 z_118 z hp z) z z ⟨(bM (bup h0 s1) hc<|mem1 lr), none, 0, 0, [], none, 0, 0, [], vm, Sn, z, (ii z), onL, onL, p2_0, (ha.c hc<|o0n1 hb h2.lt lr), (o0le hb h0.s), nd0, al0⟩
 refine Wk<|Ws<|E z (f0 (α := UInt8) el_25) ?_
 rintro _ w16 ⟨a17, n18, c19, rfl, s3, ht⟩
 refine Rm z ?_
 obtain ⟨x1a, er, hms⟩ := bdS (ifF hm9 hc4)
 refine E z (fN (α := UInt8) el_25 er z z ht nd_one<|ho.e s3) ?_
 rintro _ w1b ⟨Sd, a5, n6, c7, rfl, se, hu, hv, hf⟩
 refine R z (bP (parts := [(1, (.tmp 25))]) (cs := [vI 0, sl a5 n6 c7, sl none 0 0]) build_118 z z)<|Rm z<|Rm z<|R z (add_ z z) ?_
 have hg := mm1 h2.lt s1.s
 refine E0 (fs (cur' := [vI 0, sl a5 n6 c7, sl none 0 0]) z_118 z z (((h2.e s1).e s3).c se<|djs hg) z (lb z) (oA z) z) ?_
 rintro _ w1c ⟨hw, sx⟩
 have hh := sx.one
 refine Ra z<|Ra z<|Wn ?_
 obtain rfl := som hms
 have hy : ∀ k ∈ Sd, k ∉ [w0.z] := or1 hf hg (ltnot (mem1 h2.lt) (lt_ s1.s s3.s))
 have hi := lt_ h0.s s1.s
 have hj := m1 hi
 exact Wr<|ret3 hr (resC g_118 z_118 z hw z) z z ⟨(bM (bM (bup (bup h0 s1) s3) se hj) hh<|mem1 lr), a5, n6, c7, Sd, none, 0, 0, [], .nilIface, ([] : List Nat), z, (ii z), (hu.c hh hy), onL, (iA _ _), errR_nil, an_, (na_ hv nd_nil<|nmN _), (aa_ (o1le hf hj<|lt_ hi s3.s) an_)⟩
theorem W_w3r {x1 : List UInt8} {x2 : Int} {x3 : UInt8} {res : (List UInt8) × Int × Bool} (hm : M_impl_ReadTerminated n x1 x2 x3 = some res) (hBw : B ≤ w0.z) (p1_0 : repS w0 B (sl A0 N0 C0) x1) (p2_0 : inI x2) : CallsR prog 189 [sl A0 N0 C0, vI x2, vU (byteI x3)] w0 (Q19 w0 B res) := by
 unfold M_impl_ReadTerminated at hm
 refine goF func189 z z (lb z) fun fn hr => Ws<|Ra z<|Ra z<|Ra z<|Wn<|Ws<|E z (f0 (α := UInt8) el_25) ?_
 rintro _ wh ⟨aj, nk, cl, rfl, s8, hv⟩
 refine Ra z<|Wn<|Wq<|Wq ?_
 obtain ⟨u19, huw, hmx⟩ := bdS hm
 refine Wt (fun a w => ∃ (xm : Bool), xm = u19 ∧ Sat 58 [(0, sl A0 N0 C0), (1, vI x2), (2, vU<|byteI x3), (9, sl aj nk cl), (19, vB xm)] a ∧ Below wh.z wh w) ?_ ?_
 ·refine Wg<|Rm z<|R z (lss z z)<|Rm z ?_
  rcases bs (decide (x2 < 0)) with hc2 | hc2
  ·iterate 4 refine Nh z hc2 ?_
   exact R z (pT z hc2 z)<|Wl (fun _ q => ⟨true, som<|ifT huw hc2, (q.k<|s5 z z z z z), (br wh)⟩)
  exact Rh z hc2 (mv z)<|Rh z hc2 (mv z)<|Rh z hc2 (lnR d_25 z<|p1_0.e s8)<|Rh z hc2 (rd_gtr z z)<|R z (pF z hc2 z)<|Wl (fun _ q => ⟨decide ((x1.length : Int) < x2), som<|ifF huw hc2, (q.k<|s5 z z z z z), (br wh)⟩)
 rintro a1a w1 ⟨xm, rfl, hS2r, s6⟩
 revert a1a
 refine Wo<|Wc z (fun hcn => ?_) (fun hcn => ?_)
 ·refine Ws<|Rm z<|Rm z<|Ra z<|Ra z<|Ra z<|Wn ?_
  obtain rfl := som (ifT hmx hcn)
  exact Wr<|ret3 hr z z z ⟨(bup s8 s6), aj, nk, cl, [w0.z], z, (hv.e s6), p2_0, nd_one, (mem1 lr)⟩
 refine Wk<|Wq<|Ws<|Rm z<|Ra z<|Wn ?_
 obtain ⟨u2s, hu1b, hmy⟩ := bdS (ifF hmx hcn)
 refine WC_iter (σ := (List UInt8) × Int) (ρ := (List UInt8) × Int × Bool) (fun s a w => un2 (fun xb x7 => ∃ a3 n4 c5 S0, Sat 58 [(0, sl A0 N0 C0), (1, vI x2), (2, vU<|byteI x3), (9, sl a3 n4 c5), (10, vI x7)] a ∧ Chg (· ∈ [w0.z]) w1 w ∧ ownS w S0 (sl a3 n4 c5) xb ∧ S0.Nodup ∧ (∀ k ∈ S0, k ∈ [w0.z] ∨ w1.z ≤ k) ∧ inI x7) s) (fun s a w => un2 (fun xb x7 => ∃ a3 n4 c5 S0, Sat 58 [(1, vI x2)] a ∧ Chg (· ∈ [w0.z]) w1 w ∧ ownS w S0 (sl a3 n4 c5) xb ∧ S0.Nodup ∧ (∀ k ∈ S0, k ∈ [w0.z] ∨ w1.z ≤ k) ∧ inI x7) s) (fun r ex a w => ex = .ret ∧ RetPost prog fn (Q19 w0 B r) a w) hu1b ?_ ?_ ?_ ?_
 ·exact fun _ q => ⟨aj, nk, cl, [w0.z], (q.k<|s5 z z z z z), (cr [w0.z] w1), (hv.e s6), nd_one, (io sr), p2_0⟩
 ·rintro ⟨xb, x7⟩ a2t w9 o2u ⟨a3, n4, c5, S0, hS1c, sa, hc, hd, he, ho⟩ hm1d
  have hmz := un2S hm1d
  refine Wu ?_ hS1c
  refine Wq<|Ws<|Rm z<|Rm z ?_
  have hf := ((p1_0.e s8).e s6).c sa<|lg<|m1 hBw
  refine R z (lnR d_25 z hf)<|R z (lss z z)<|Wn<|Wc z (fun hcp => ?_) (fun hcp => ?_)
  ·refine Wk<|Wq<|Wb<|Wq<|Ws<|Rm z<|Rm z ?_
   obtain ⟨x2v, e1e, hm10⟩ := bdS (ifT hmz hcp)
   refine RX z (at_ (α := UInt8) d_25 z_5 z z z hf e1e) ?_
   rintro _ ⟨b2w, o2x, cs2y, rfl, h1f, h1g, h2z⟩
   obtain rfl := u8 h1g
   refine R z (l1 g_5 z fid<|h1f.at0 z)<|Rm z<|R z (eql z z)<|Wn<|Wc z (fun hcq => ?_) (fun hcq => ?_)
   ·refine Ws<|Rm z<|Rm z<|R z (add_ z z)<|Ra z<|Ra z<|Ra z<|Wn ?_
    have h1h : ∀ k ∈ S0, w0.z ≤ k := or1 he (mem1 lr) (lele (lt_ s8.s s6.s))
    exact Wr<|rtO<|qL (som<|ifT hm10 hcq).symm<|ret3 hr z z z ⟨(bM (bup s8 s6) sa<|mem1 lr), a3, n4, c5, S0, z, hc, (iA _ _), hd, h1h⟩
   refine Wk<|Wq<|Ws<|Rm z<|Rm z ?_
   obtain ⟨x30, e1i, hm1j⟩ := bdS (ifF hm10 hcq)
   refine RX z (at_ (α := UInt8) d_25 z_5 z z z hf e1i) ?_
   rintro _ ⟨b31, o32, cs33, rfl, h1k, h1l, h34⟩
   obtain rfl := u8 h1l
   refine R z (l1 g_5 z fid<|h1k.at0 z)<|R z (eql z z)<|Wn ?_
   obtain ⟨u1m, hu11, hm12⟩ := bdS hm1j
   refine Wt (fun a w => ∃ (xg : Int), Sum.inl xg = u1m ∧ Sat 58 [(0, sl A0 N0 C0), (1, vI x2), (2, vU<|byteI x3), (9, sl a3 n4 c5), (10, vI xg)] a ∧ Below w9.z w9 w ∧ inI xg) ?_ ?_
   ·refine Wc z (fun hcr => ?_) (fun hcr => ?_)
    ·have hm13 := ifT hu11 hcr
     refine Ws<|Rm z<|R z (add_ z z)<|Ra z<|Wn<|Ws<|Rm z<|Rm z<|R z (lnR d_25 z hf)<|R z (eql z z)<|Wn<|Wc z (fun hcs => ?_) (fun hcs => ?_)
     ·obtain rfl := som (ifT hm13 hcs)
      have hm1n := elR hm12
      have h1o : ∀ k ∈ S0, k ∈ [w0.z] ∨ w1.z ≤ k := or1 he (io sr) (leor lr)
      have h1p : Chg (· ∈ [w0.z]) w1 w9 := cM (cr [w0.z] w1) sa (io sr)
      exact We<|exO z (fun a' ha' => QO_brk (som hm1n).symm ⟨a3, n4, c5, S0, (Sat.weaken ha'<|s1 z), h1p, hc, hd, h1o, (iA _ _)⟩)
     exact WC_skip (fun _ q => ⟨iadd x7 1, som<|ifF hm13 hcs, (q.k<|s5 z z z z z), (br w9), (iA _ _)⟩)
    exact WC_skip (fun _ q => ⟨x7, som<|ifF hu11 hcr, (q.k<|s5 z z z z z), (br w9), ho⟩)
   rintro a1q w14 ⟨xg, rfl, hS35, si, h36⟩
   have hm1r := elL hm12
   revert a1q
   refine Wo<|Wg<|Rm z<|Rm z<|Rm z ?_
   obtain ⟨x1s, e1t, hm1u⟩ := bdS hm1r
   refine RX z (at_ (α := UInt8) d_25 z_5 z z z (hf.e si) e1t) ?_
   rintro _ ⟨b37, o38, cs39, rfl, h1v, h1w, h3a⟩
   obtain rfl := u8 h1w
   refine R z (l1 g_5 z fid<|h1v.at0 z)<|E z (fS [(.tmp 53)] el_25 z z z (szAll z) (lb z)<|lb z) ?_
   rintro _ w15 ⟨rfl, ht⟩
   have hu := ht.below
   have h1x : Blk w15 w14.z [vU (byteI x1s)] := ht.blk
   have h3b := ownS_new1 ht UInt8_own
   obtain ⟨x1y, e1z, hm20⟩ := bdS hm1u
   refine E z (ef_pushN (α := UInt8) el_25 e1z z z ((hc.e si).e hu) hd h1x UInt8_own an_ nd_nil) ?_
   rintro _ w21 ⟨S16, a22, n23, c24, rfl, s25, h26, h27, h28⟩
   refine Ra z<|Wn<|Wg<|Rm z<|R z (add_ z z)<|Ra z<|Wl ?_
   have h17 : ∀ k ∈ S0, k ∈ [w0.z] ∨ w1.z ≤ k := or1 he (io sr) (leor lr)
   have h29 : ∀ k ∈ S16, k ∈ [w0.z] ∨ w1.z ≤ k := or2 h28 h17 an_ (leor (lt_ (lt_ sa.s si.s) hu.s))
   have h2a : Chg (· ∈ [w0.z]) w1 w9 := cM (cr [w0.z] w1) sa (io sr)
   have h2b : Chg (· ∈ [w0.z]) w1 w14 := cext h2a si
   have h2c : Chg (· ∈ [w0.z]) w1 w15 := cext h2b hu
   have h2d : Chg (· ∈ [w0.z]) w1 w21 := cM h2c s25 h17
   exact fun _ q => ⟨(x1y, iadd xg 1), (som hm20).symm, ⟨a22, n23, c24, S16, (q.k<|s5 z z z z z), h2d, h26, h27, h29, (iA _ _)⟩⟩
  have h2e : ∀ k ∈ S0, k ∈ [w0.z] ∨ w1.z ≤ k := or1 he (io sr) (leor lr)
  have h2f : Chg (· ∈ [w0.z]) w1 w9 := cM (cr [w0.z] w1) sa (io sr)
  exact We (fun a' ha' => QO_brk (som<|ifF hmz hcp).symm ⟨a3, n4, c5, S0, (Sat.weaken ha'<|s1 z), h2f, hc, hd, h2e, ho⟩)
 ·rintro ⟨xb, x7⟩ a2g w2h rfl ⟨a3, n4, c5, S0, hS3c, s18, hc, hd, he, ho⟩
  have hm2i := elL hmy
  have hm2j := un2S hm2i
  revert a2g
  refine Wo<|Ws<|E z (f0 (α := UInt8) el_25) ?_
  rintro _ w3d ⟨a2k, n2l, c2m, rfl, s2n, h2o⟩
  refine Rm z<|Ra z<|Ra z<|Ra z<|Wn ?_
  obtain rfl := som hm2j
  exact Wr<|ret3 hr z z z ⟨(bup (bM (bup s8 s6) s18<|mem1 lr) s2n), a2k, n2l, c2m, [w2h.z], z, h2o, p2_0, nd_one, (m1<|lt_ (lt_ s8.s s6.s) s18.s)⟩
 rintro r3e ex3f a3g w3h rfl ⟨rfl, hq2p⟩
 have hm2q := elR hmy
 obtain rfl := som hm2q
 exact ⟨hq2p, z⟩
def Q26 (w0 : World) (B : Nat) (S2_1 : List Nat) (S2_2 : List Nat) (r : Val × Int × (Option (Int × Int))) (v : Value) (w' : World) : Prop := Chg (· ∈ (S2_1 ++ S2_2)) w0 w' ∧ un3 (fun r1 r2 r3 => ∃ (a1 : Option Addr) (n1 c1 : Nat) (S1 : List Nat) (a2 : Option Addr) (n2 c2 : Nat) (S2 : List Nat) (v3 : Value) (S3 : List Nat), v = .tuple #[(.agg #[vI r1.number, sl a1 n1 c1, sl a2 n2 c2]), vI r2, v3] ∧ inI r1.number ∧ ownS w' S1 (sl a1 n1 c1) r1.bytes ∧ ownS w' S2 (sl a2 n2 c2) r1.items ∧ inI r2 ∧ errR 162 w' S3 v3 r3 ∧ (∀ k ∈ S3, w0.z ≤ k) ∧ (S1 ++ S2).Nodup ∧ (∀ k ∈ (S1 ++ S2), k ∈ (S2_1 ++ S2_2) ∨ w0.z ≤ k)) r
structure S_impl_fileReader_value (f : FileReader → Int → Int → Option (Val × Int × (Option (Int × Int)))) : Prop where
  run : ∀ {B N0 C0 N1 C1 b1 o1 : Nat} {A0 A1 : Option Addr} {x1 : FileReader} {x2 : Int} {x3 : Int} {res : Val × Int × (Option (Int × Int))} {w0 : World} (hm : f x1 x2 x3 = some res) (hBw : B ≤ w0.z) (p1_0 : repS w0 B (sl A0 N0 C0) x1.d.rules) (p1_1 : repS w0 B (sl A1 N1 C1) x1.b) (hC1 : CellsAt w0 b1 o1 [sl A0 N0 C0, sl A1 N1 C1]) (hC1b : b1 < B) (p2_0 : inI x2) (p3_0 : inI x3), CallsR prog 154 [(.pointer (some ⟨b1, o1, none⟩)), vI x2, vI x3] w0 (Q25 w0 B res)
structure S_impl_fileReader_array (f : FileReader → Rule → Int → Option (Val × Int × (Option (Int × Int)))) : Prop where
  run : ∀ {B N0 C0 N1 C1 b1 o1 N3 C3 N4 C4 N2 C2 N5 C5 : Nat} {A0 A1 A3 A4 A2 A5 : Option Addr} {x1 : FileReader} {x2 : Rule} {x3 : Int} {res : Val × Int × (Option (Int × Int))} {w0 : World} (hm : f x1 x2 x3 = some res) (hBw : B ≤ w0.z) (p1_0 : repS w0 B (sl A0 N0 C0) x1.d.rules) (p1_1 : repS w0 B (sl A1 N1 C1) x1.b) (hC1 : CellsAt w0 b1 o1 [sl A0 N0 C0, sl A1 N1 C1]) (hC1b : b1 < B) (p2_0 : x2.name.b.length ≤ LEN) (p2_1 : inI x2.kind) (p2_2 : inI x2.size) (p2_4 : repS w0 B (sl A3 N3 C3) x2.bytes) (p2_5 : repS w0 B (sl A4 N4 C4) x2.names) (p2_6 : repS w0 B (sl A2 N2 C2) x2.tags) (p2_7 : repS w0 B (sl A5 N5 C5) x2.kids) (p3_0 : inI x3), CallsR prog 184 [(.pointer (some ⟨b1, o1, none⟩)), (.agg #[Str.v x2.name, vI x2.kind, vI x2.size, vB x2.little, sl A3 N3 C3, sl A4 N4 C4, sl A2 N2 C2, sl A5 N5 C5]), vI x3] w0 (Q25 w0 B res)
structure S_impl_fileReader_items (f : FileReader → Val → (List Int) → Int → Option (Val × Int × (Option (Int × Int)))) : Prop where
  run : ∀ {B N0 C0 N1 C1 b1 o1 ND CD NH CH N9 C9 : Nat} {A0 A1 AD AH A9 : Option Addr} {S2_1 S2_2 : List Nat} {x1 : FileReader} {x2 : Val} {x3 : List Int} {x4 : Int} {res : Val × Int × (Option (Int × Int))} {w0 : World} (hm : f x1 x2 x3 x4 = some res) (hBw : B ≤ w0.z) (p1_0 : repS w0 B (sl A0 N0 C0) x1.d.rules) (p1_1 : repS w0 B (sl A1 N1 C1) x1.b) (hC1 : CellsAt w0 b1 o1 [sl A0 N0 C0, sl A1 N1 C1]) (hC1b : b1 < B) (p2_0 : inI x2.number) (p2_1 : ownS w0 S2_1 (sl AD ND CD) x2.bytes) (p2_1n : S2_1.Nodup) (p2_1g : ∀ k ∈ S2_1, B ≤ k) (p2_2 : ownS w0 S2_2 (sl AH NH CH) x2.items) (p2_2n : S2_2.Nodup) (p2_2g : ∀ k ∈ S2_2, B ≤ k) (p2_2d1 : ∀ k ∈ S2_2, k ∉ S2_1) (p3_0 : repS w0 B (sl A9 N9 C9) x3) (p4_0 : inI x4), CallsR prog 185 [(.pointer (some ⟨b1, o1, none⟩)), (.agg #[vI x2.number, sl AD ND CD, sl AH NH CH]), sl A9 N9 C9, vI x4] w0 (Q26 w0 B S2_1 S2_2 res)
structure S_impl_fileReader_choice (f : FileReader → Rule → Int → Option (Val × Int × (Option (Int × Int)))) : Prop where
  run : ∀ {B N0 C0 N1 C1 b1 o1 N3 C3 N4 C4 N2 C2 N5 C5 : Nat} {A0 A1 A3 A4 A2 A5 : Option Addr} {x1 : FileReader} {x2 : Rule} {x3 : Int} {res : Val × Int × (Option (Int × Int))} {w0 : World} (hm : f x1 x2 x3 = some res) (hBw : B ≤ w0.z) (p1_0 : repS w0 B (sl A0 N0 C0) x1.d.rules) (p1_1 : repS w0 B (sl A1 N1 C1) x1.b) (hC1 : CellsAt w0 b1 o1 [sl A0 N0 C0, sl A1 N1 C1]) (hC1b : b1 < B) (p2_0 : x2.name.b.length ≤ LEN) (p2_1 : inI x2.kind) (p2_2 : inI x2.size) (p2_4 : repS w0 B (sl A3 N3 C3) x2.bytes) (p2_5 : repS w0 B (sl A4 N4 C4) x2.names) (p2_6 : repS w0 B (sl A2 N2 C2) x2.tags) (p2_7 : repS w0 B (sl A5 N5 C5) x2.kids) (p3_0 : inI x3), CallsR prog 186 [(.pointer (some ⟨b1, o1, none⟩)), (.agg #[Str.v x2.name, vI x2.kind, vI x2.size, vB x2.little, sl A3 N3 C3, sl A4 N4 C4, sl A2 N2 C2, sl A5 N5 C5]), vI x3] w0 (Q25 w0 B res)
structure S_impl_fileReader_option (f : FileReader → Rule → Int → Option (Val × Int × (Option (Int × Int)))) : Prop where
  run : ∀ {B N0 C0 N1 C1 b1 o1 N3 C3 N4 C4 N2 C2 N5 C5 : Nat} {A0 A1 A3 A4 A2 A5 : Option Addr} {x1 : FileReader} {x2 : Rule} {x3 : Int} {res : Val × Int × (Option (Int × Int))} {w0 : World} (hm : f x1 x2 x3 = some res) (hBw : B ≤ w0.z) (p1_0 : repS w0 B (sl A0 N0 C0) x1.d.rules) (p1_1 : repS w0 B (sl A1 N1 C1) x1.b) (hC1 : CellsAt w0 b1 o1 [sl A0 N0 C0, sl A1 N1 C1]) (hC1b : b1 < B) (p2_0 : x2.name.b.length ≤ LEN) (p2_1 : inI x2.kind) (p2_2 : inI x2.size) (p2_4 : repS w0 B (sl A3 N3 C3) x2.bytes) (p2_5 : repS w0 B (sl A4 N4 C4) x2.names) (p2_6 : repS w0 B (sl A2 N2 C2) x2.tags) (p2_7 : repS w0 B (sl A5 N5 C5) x2.kids) (p3_0 : inI x3), CallsR prog 187 [(.pointer (some ⟨b1, o1, none⟩)), (.agg #[Str.v x2.name, vI x2.kind, vI x2.size, vB x2.little, sl A3 N3 C3, sl A4 N4 C4, sl A2 N2 C2, sl A5 N5 C5]), vI x3] w0 (Q25 w0 B res)
structure S_impl_fileReader_checked (f : FileReader → Rule → Int → Option (Val × Int × (Option (Int × Int)))) : Prop where
  run : ∀ {B N0 C0 N1 C1 b1 o1 N3 C3 N4 C4 N2 C2 N5 C5 : Nat} {A0 A1 A3 A4 A2 A5 : Option Addr} {x1 : FileReader} {x2 : Rule} {x3 : Int} {res : Val × Int × (Option (Int × Int))} {w0 : World} (hm : f x1 x2 x3 = some res) (hBw : B ≤ w0.z) (p1_0 : repS w0 B (sl A0 N0 C0) x1.d.rules) (p1_1 : repS w0 B (sl A1 N1 C1) x1.b) (hC1 : CellsAt w0 b1 o1 [sl A0 N0 C0, sl A1 N1 C1]) (hC1b : b1 < B) (p2_0 : x2.name.b.length ≤ LEN) (p2_1 : inI x2.kind) (p2_2 : inI x2.size) (p2_4 : repS w0 B (sl A3 N3 C3) x2.bytes) (p2_5 : repS w0 B (sl A4 N4 C4) x2.names) (p2_6 : repS w0 B (sl A2 N2 C2) x2.tags) (p2_7 : repS w0 B (sl A5 N5 C5) x2.kids) (p3_0 : inI x3), CallsR prog 188 [(.pointer (some ⟨b1, o1, none⟩)), (.agg #[Str.v x2.name, vI x2.kind, vI x2.size, vB x2.little, sl A3 N3 C3, sl A4 N4 C4, sl A2 N2 C2, sl A5 N5 C5]), vI x3] w0 (Q25 w0 B res)
abbrev I_impl_fileReader_value (n : Nat) : Prop := S_impl_fileReader_value (F_impl_fileReader_value n).impl_fileReader_value ∧ S_impl_fileReader_array (F_impl_fileReader_value n).impl_fileReader_array ∧ S_impl_fileReader_items (F_impl_fileReader_value n).impl_fileReader_items ∧ S_impl_fileReader_choice (F_impl_fileReader_value n).impl_fileReader_choice ∧ S_impl_fileReader_option (F_impl_fileReader_value n).impl_fileReader_option ∧ S_impl_fileReader_checked (F_impl_fileReader_value n).impl_fileReader_checked
end Go.Vw

