
import Derived.Test.YtefljifhihogoaaGreatDoorVba
set_option linter.unusedVariables false
namespace Go.Vw
open Go.RowKit Dat Go.Proofs
set_option maxHeartbeats 4000000
set_option maxRecDepth 4000
open Go.Proofs.Tryz
open Go.Vw renaming a_a->Wq,a_B->Wg,WC.of_KC->Wo,a_d->Wl,c_b->Wc,c_F->Wr,f_9->Wu,g_Z->pT,h_0->pF,f_W->fd,b_J->l1,f_X->lN,b_8->mv,c_L->asg,f_3->lnR,e_y->lss,g_0->eql,f_Y->ext_,f_R->bP,f_Z->add_,f_1->inc_,d_f->not_,e_1->at_,d_X->fc,a_U->fs,d_x->fb,c_H->fa,c_u->sr,f_P->cr,f_Q->cM,c_d->bM,g_R->iS,g_Q->iA,f_0->br,b_1->oA,g_W->bs,f_J->lg,f_K->io,f_b->nq,h_8->lnT,h_9->sb_,g_Y->ar_,g_X->al_,b_N->ds,h_v->m1,f_N->nr_,f_M->nl_,e_0->aa_,all_nil->an_,c_S->Wb,f_I->u8,g_N->pD,e_X->We,g_T->Wt,e_Z->fS,e_o->or_,h_7->Wf,h_4->qL,g_M->Wd,f_S->fN,f_L->na_,f_O->nj,e_3->f0,f_4->rX,h_1->tl_,h_2->ic
variable {A0:Option Addr}{N0 C0:Nat}{B:Zone}{w0:World}{AB:Option Addr}{AA:Option Addr}{AC:Option Addr}{AD:Option Addr}{NB CB:Nat}{NA CA:Nat}{NC CC:Nat}{ND CD:Nat}{A1:Option Addr}{N1 C1:Nat}{n:Nat}{AG:Option Addr}{NG CG:Nat}{A2:Option Addr}{N2 C2:Nat}{AJ:Option Addr}{NJ CJ:Nat}{A4:Option Addr}{A5:Option Addr}{A3:Option Addr}{A6:Option Addr}{N4 C4:Nat}{N5 C5:Nat}{N3 C3:Nat}{N6 C6:Nat}{A7:Option Addr}{N7 C7:Nat}{A8:Option Addr}{A9:Option Addr}{N8 C8:Nat}{N9 C9:Nat}{AF:Option Addr}{NF CF:Nat}{AE:Option Addr}{NE CE:Nat}
def Q40 (w0:World)(B:Zone)(r:(List Str)×Bool)(v:Value)(w':World):Prop:=Bw w0 w'/\un2 (λr1 r2=>∃(G:Option Addr)(H I:Nat)(S1:List Nat),v = .tuple #[(sl G H I),(vB r2)]/\c_ w' S1 (sl G H I) r1/\S1.Nodup/\(∀k∈S1,w0.heap.size<=k)) r
theorem z_N {w:World}{gp b:Nat}{s:Str}{l0 parts:List Str}(hs:s.b.length<=LEN)(hm:g_s s (47:UInt8)=some l0)(hsl:slc l0 1 (l0.length:Int)=some parts)(hp:Blk w gp [Str.v s])(hb:b<w.heap.size)(hrow:∀g,c_A w b g->g<w.heap.size) :
    SeqStopsK (α:={x:Str // x∈parts/\x.b.length<=LEN}) Fence.wide 1 Tryz.prog 223 [pt gp].toArray (λx=>#[x.1.v]) (KpS b) (λxs=>xs.map (·.1)=parts) (λ_=>True) parts.length w:=by
  intro l J Jx W hW hJ hJx hY h0;have hpW:=hp.ext hW
  have hrowW:∀g,c_A W b g->g<W.heap.size:=λg ⟨n,c,h⟩=>by
    have h':w.cell? ⟨b,0,none⟩=some (sl (some ⟨g,0,none⟩) n c):=(World.cell?_of_block (w:=w) (w':=W) (a:=⟨b,0,none⟩)<|hW.block b hb).symm.trans h;exact QAC (hrow g ⟨n,c,h'⟩) hW.size
  have hbW:=QAC hb hW.size
  have hc:g_ Tryz.prog 223 [.func (.yield l) #[] #[],pt gp] W (λ_ W'=>(∃xs:List {x:Str // x∈parts/\x.b.length<=LEN},xs.map (·.1)=parts/\J xs W')∨(∃pre,True/\Jx pre W')):=by
    obtain ⟨fn,hf,hbd,hN,hr⟩:=fnE Tryz.func223;refine j_g hf (hbd.trans rfl) (hN.trans rfl) (QAA rfl) ?_;refine a_a<|a_B ?_;refine R rfl (b_J g_9 rfl (λh=>h)<|hpW.at rfl) ?_;refine E rfl (d_X Tryz.call224 rfl<|W_w2d (B:=W.heap.size) hm zr hs) ?_;rintro _ W1 ⟨s1,a1,n1,c1,S1,rfl,ho,nd,hge⟩;refine RX rfl (t_9 z_ z_9 rfl ho rfl rfl hsl) ?_;intro v7 hv7;obtain ⟨ao7,c7,rfl,_⟩:=id hv7;refine R rfl (f_3 z_ rfl<|hv7.repS (B:=W1.heap.size)<|λk hk=>ho.lt k hk) ?_;refine R rfl (b_8 rfl) ?_;refine a_d<|WC.of_KC ?_;have hJ1:J [] W1:=hJ [] W W1 none h0 (Below.grows s1) (λr h=>by cases h);have hb1:b∉S1:=λh=>absurd (hge b h)<|QBD.2 hbW
    have hr1:∀g,c_A W1 b g->g∉S1:=λg ⟨n,c,h⟩ hg=>by
      have h':W.cell? ⟨b,0,none⟩=some (sl (some ⟨g,0,none⟩) n c):=(World.cell?_of_block (w:=W) (w':=W1) (a:=⟨b,0,none⟩)<|s1.block b hbW).symm.trans h;exact absurd (hge g hg)<|QBD.2<|hrowW g ⟨n,c,h'⟩
    have hlenL:parts.length<=9223372036854775807:=QAG (by obtain ⟨_,_,_,_,h,_⟩:=hv7;exact h) u_;refine c_S λa ha=>?_
    refine Code.wp_mono (Q:=Exit.then noK<|λex a w=>(ex = .exit 0/\b_V Tryz.prog fn (λ_ W'=>(∃xs:List {x:Str // x∈parts/\x.b.length<=LEN},xs.map (·.1)=parts/\J xs W')∨(∃pre,True/\Jx pre W')) a w)∨(ex = .ret/\b_V Tryz.prog fn (λ_ W'=>(∃xs:List {x:Str // x∈parts/\x.b.length<=LEN},xs.map (·.1)=parts/\J xs W')∨(∃pre,True/\Jx pre W')) a w)) (λex a' w' q=>?_)<|wp_loop_ghost (λm a w=>∃(k:Nat)(pre:List {x:Str // x∈parts/\x.b.length<=LEN}),k+m=parts.length/\pre.map (·.1)=parts.take k/\Sat 18 [(9,vI (k:Int)),(8,vI (parts.length:Int)),(7,sl ao7 parts.length c7),(0,.func (.yield l) #[] #[])] a/\J pre w/\c_ w S1 (sl a1 n1 c1) l0/\(∀g,c_A w b g->g∉S1)/\e_i w (· ∈ S1) (sl ao7 parts.length c7) parts) parts.length ?_ ?_
    . cases ex with
      | normal=>exact (show False from q).elim
      | exit i =>
        rcases q with ⟨h,q⟩ | ⟨h,_⟩
        . cases h;exact q
        . cases h
      | ret =>
        rcases q with ⟨h,_⟩ | ⟨_,q⟩
        . cases h
        . exact q
      | _=>rcases q with ⟨h,_⟩ | ⟨h,_⟩ <;> cases h
    . exact ⟨0,[],by omega,by simp,ha.weaken<|sc rfl<|sc rfl<|sc rfl<|sc rfl sn,hJ1,ho,hr1,hv7⟩
    . rintro m a w ⟨k,pre,hkm,hpre,hsat,hJw,how,hrw,hvw⟩
      refine f_9 (N:=18) (e:=[(9,vI (k:Int)),(8,vI (parts.length:Int)),(7,sl ao7 parts.length c7),(0,.func (.yield l) #[] #[])]) ?_ hsat;refine a_a<|a_B<|R rfl (e_y rfl rfl)<|a_d<|WC.of_KC ?_;refine a_a<|c_b rfl (λhc=>?_)<|λhc=>?_
      . have hk:k<parts.length:=by simpa using hc
        obtain ⟨m,rfl⟩:∃m',m=m'+1:=⟨m - 1,by omega⟩;refine Z_<|WC.of_KC ?_;refine a_a<|c_S ?_;refine a_a<|a_B ?_;have hrep:=hvw.repS (B:=w.heap.size)<|λk hk=>how.lt k hk;have hidx:idx parts (k:Int)=some parts[k]:=by rw [n_j];simp [hk]
        refine RX rfl (e_1 (α:=Str) z_ z_9 rfl rfl rfl hrep hidx) ?_;rintro _ ⟨bb,oo,cs,rfl,hc1,hrr,hlt⟩;obtain ⟨rfl,hxl⟩:=a_e hrr;refine R rfl (b_J g_9 rfl (λh=>h)<|hc1.at0 rfl) ?_;refine R rfl (c_L rfl) ?_;refine a_d<|WC.of_KC ?_;refine a_a<|t_4 ?_;refine g_m rfl (b_8 rfl) ?_;refine g_m rfl (b_8 rfl) ?_
        have hpl:pre.length=k:=by
          have:=congrArg List.length hpre
          simp at this;omega
        refine t_5 (S:=λv w'=>(v=vB true/\J (pre++[⟨parts[k],QAU hk,hxl⟩]) w'/\KpS b w w')∨(v=vB false/\Jx (pre++[⟨parts[k],QAU hk,hxl⟩]) w')) rfl rfl rfl (hY pre ⟨parts[k],QAU hk,hxl⟩ w hJw (by omega)) (λe w' h=>?_) ?_
        . rcases h with ⟨rfl,h⟩ | ⟨rfl,h⟩
          . exact ⟨_,rfl,.inl ⟨rfl,h⟩⟩
          . exact ⟨_,rfl,.inr ⟨rfl,h⟩⟩
        rintro v w' (⟨rfl,hJ',hK⟩ | ⟨rfl,hX⟩)
        . refine g_m rfl (d_f rfl) ?_
          refine m_d<|WC.of_KC ?_;refine c_b rfl (λh=>by cases h)<|λ_=>?_;refine Z_<|WC.of_KC ?_;refine a_B<|R rfl (f_1 hk hlenL rfl rfl)<|R rfl (b_8 rfl) ?_;obtain ⟨ho',hr'⟩:=hK.own how hb1 hrw
          have hv':e_i w' (· ∈ S1) (sl ao7 parts.length c7) parts:=hvw.stay λg hg=>hK.chg.block g (how.lt g hg) λhm=>by
            rcases hm with rfl | hm | ⟨o,ho2,hcl⟩
            . exact hb1 hg
            . exact hrw g hm hg
            . obtain ⟨cur,hB⟩:=e_I how g hg
              rw [hB.isCells ho2] at hcl;cases hcl
          refine a_d λa' ha'=>⟨m,Nat.lt_succ_self _,k+1,pre++[⟨parts[k],QAU hk,hxl⟩],by omega,?_,ha'.weaken<|sc rfl<|sc rfl<|sc rfl<|sc rfl sn,hJ',ho',hr',hv'⟩
          rw [QBN,hpre,QAy,List.getElem?_eq_getElem hk];rfl
        . refine g_m rfl (d_f rfl) ?_
          refine m_d<|WC.of_KC ?_;refine c_b rfl (λ_=>?_) (λh=>by cases h);exact c_F<|rtO λa' ha'=>.inr ⟨rfl,ret0 hr (.inr ⟨_,trivial,hX⟩) a' ha'⟩
      . have hk:¬k<parts.length:=by simpa using hc
        have:k=parts.length:=by omega
        subst this;refine e_X λa' ha'=>.inl ⟨rfl,ret0 hr (.inl ⟨pre,?_,hJw⟩) a' ha'⟩
        rw [hpre,QAY]
  refine callsIn_wide.2<|hc.run.mono λe w' ⟨v,he,h⟩=>⟨⟨v,he⟩,h⟩
theorem t_L {w0 W W':World}{row:Option Nat}(h:Below w0.heap.size w0 W)(hg:W.grownBy W' row)(hr:∀r,row=some r->w0.heap.size<=r):Below w0.heap.size w0 W':=c_I h (m_e hg) λk hk e=>absurd (hr k e)<|QBD.2 hk
def z_O (w0:World)(s:Str)(v:Value)(w':World):Prop:=v = .func (.func 223) #[] #[pt w0.heap.size]/\Blk w' w0.heap.size [Str.v s]/\Bw w0 w'
theorem z_P {w0:World}{s:Str}:g_ Tryz.prog 200 [Str.v s] w0 (z_O w0 s):=by
  obtain ⟨_,hf,hb,hN,hr⟩:=fnE Tryz.func200;refine j_g hf (hb.trans rfl) (hN.trans rfl) (QAA rfl) ?_;refine a_a<|a_B ?_;refine E rfl (d_x rfl) ?_;rintro _ G ⟨rfl,h1⟩;refine R rfl (c_L rfl) ?_;refine a_d<|WC.of_KC ?_;refine a_a<|a_B ?_;refine R rfl (h_W rfl) ?_;refine R rfl (c_L rfl) ?_;refine a_d<|WC.of_KC ?_;exact c_F<|a_s hr rfl ⟨rfl,(h1.blk:Blk G w0.heap.size [Str.v s]),h1.below⟩
theorem W_w4v {n:Nat}{B:Zone}{x1:Str}{res:(List Str)×Bool}{w0:World}(hm:m_t n x1=some res)(hBw:B<=w0.heap.size)(p1_0:x1.b.length<=LEN):g_ Tryz.prog 169 [(Str.v x1),.func (.func 170) #[] #[]] w0 (Q40 w0 B res):=by
  unfold m_t at hm
  obtain ⟨fn,hf,hb,hN,hr⟩:=fnE Tryz.func169;refine t_7 hf (hb.trans rfl) (hN.trans rfl) (QAA rfl) ?_
  -- the cells
  refine a_a<|a_B ?_;refine E rfl (d_x rfl) ?_;rintro _ w1 ⟨rfl,h1⟩;have b3:Blk w1 w0.heap.size [.func (.func 170) #[] #[]]:=h1.blk;refine E rfl (c_H m_S) ?_;rintro _ w2 ⟨rfl,h2⟩;have b4:Blk w2 w1.heap.size [.slice none 0 0]:=h2.blk;refine E rfl (c_H t_B) ?_;rintro _ w3 ⟨rfl,h3⟩;have b5:Blk w3 w2.heap.size [vB false]:=h3.blk;refine a_d<|WC.of_KC ?_;refine a_a<|a_B ?_;refine E rfl (e_3 (α:=Str) a_q) ?_;rintro _ w4 ⟨a,m,c,rfl,s4,ho4⟩;refine E rfl (c_H m_S) ?_;rintro _ w5 ⟨rfl,h5⟩;have b6:Blk w5 w4.heap.size [.slice none 0 0]:=h5.blk;refine E0 (a_U (cur':=[.slice a m c]) d_v rfl rfl b6 rfl (QAA rfl) (b_1 rfl) rfl) ?_;rintro _ w6 ⟨c6,s6⟩;have t6:=s6.one;refine a_d<|WC.of_KC ?_
  -- what is known behind
  have g1:=h1.below;have g2:=h2.below;have g3:=h3.below;have g5:=h5.below;have z1:=h1.size;have z2:=h2.size;have z3:=h3.size;have z5:=h5.size;have z4:=s4.size;have z6:=s6.size
  have hz:w0.heap.size<w1.heap.size/\w1.heap.size<w2.heap.size/\w2.heap.size<w3.heap.size/\w3.heap.size<w4.heap.size/\w4.heap.size<w6.heap.size:=by
    have:=ho4.lt _ QAM
    omega
  have k3:Blk w6 w0.heap.size [.func (.func 170) #[] #[]]:=((((b3.ext g2).ext g3).ext s4).ext g5).chg s6 (by omega);have k4:Blk w6 w1.heap.size [.slice none 0 0]:=(((b4.ext g3).ext s4).ext g5).chg s6 (by omega);have k5:Blk w6 w2.heap.size [vB false]:=((b5.ext s4).ext g5).chg s6 (by omega);have kS:c_ w6 [w3.heap.size] (sl a m c) ([]:List Str):=(ho4.ext g5).chg s6 (λk hk=>by have:=QA_.1 hk;omega);have kB:Below w0.heap.size w0 w6:=c_d (bup (bup (bup (bup g1 g2) g3) s4) g5) t6 (λk hk=>by have:=QA_.1 hk;omega)
  clear b3 b4 b5 b6 ho4 h1 h2 h3 h5 s4 s6 t6 g1 g2 g3 g5 z1 z2 z3 z4 z5 z6
  -- the first look
  refine a_a<|a_a<|a_B ?_;refine R rfl (b_8 rfl) ?_;refine R rfl (a_Q rfl rfl) ?_;refine a_d<|WC.of_KC ?_;refine c_b rfl (λhc=>?_)<|λhc=>?_
  . obtain rfl:=som (ifT hm hc)
    refine a_a<|a_B ?_;refine R rfl (b_J a_A rfl (λh=>h)<|c6.at rfl) ?_;refine E0 (a_U (cur':=[.slice a m c]) d_v rfl rfl k4 rfl (QAA rfl) (b_1 rfl) rfl) ?_;rintro _ w7 ⟨c7,s7⟩;refine E0 (a_U (cur':=[vB true]) z_4 rfl rfl (k5.chg s7 (by omega)) rfl (QAA rfl) (b_1 rfl) rfl) ?_;rintro _ w8 ⟨c8,s8⟩;refine a_d<|WC.of_KC ?_;refine c_F λa' ha'=>retM<|b_r hr (c_w (n:=1) a_A rfl<|c7.chg s8 (by omega)) (c_w (n:=1) g_4 rfl c8) ⟨c_d (c_d kB s7.one (λk hk=>by have:=QA_.1 hk;omega)) s8.one (λk hk=>by have:=QA_.1 hk;omega),?_⟩ a' ha'
    exact ⟨a,m,c,_,rfl,(kS.chg s7 (λk hk=>by have:=QA_.1 hk;omega)).chg s8 (λk hk=>by have:=QA_.1 hk;omega),(by simp),λk hk=>by have:=QA_.1 hk;omega⟩
  replace hm:=ifF hm hc;refine Z_<|WC.of_KC ?_
  -- the first byte
  refine a_a<|a_a<|a_B ?_;refine R rfl (b_8 rfl) ?_;obtain ⟨x13,e13,hm⟩:=bdS hm;refine R rfl (c_y d_9 rfl rfl (a_k e13).1 (a_k e13).2.1) ?_;refine R rfl (f_b rfl rfl) ?_;refine a_d<|WC.of_KC ?_;refine c_b rfl (λhc=>?_)<|λhc=>?_
  . obtain rfl:=som (ifT hm hc)
    refine a_a<|a_B ?_;refine R rfl (b_J a_A rfl (λh=>h)<|c6.at rfl) ?_;refine E0 (a_U (cur':=[.slice a m c]) d_v rfl rfl k4 rfl (QAA rfl) (b_1 rfl) rfl) ?_;rintro _ w7 ⟨c7,s7⟩;refine E0 (a_U (cur':=[vB false]) z_4 rfl rfl (k5.chg s7 (by omega)) rfl (QAA rfl) (b_1 rfl) rfl) ?_;rintro _ w8 ⟨c8,s8⟩;refine a_d<|WC.of_KC ?_;refine c_F λa' ha'=>retM<|b_r hr (c_w (n:=1) a_A rfl<|c7.chg s8 (by omega)) (c_w (n:=1) g_4 rfl c8) ⟨c_d (c_d kB s7.one (λk hk=>by have:=QA_.1 hk;omega)) s8.one (λk hk=>by have:=QA_.1 hk;omega),?_⟩ a' ha'
    exact ⟨a,m,c,_,rfl,(kS.chg s7 (λk hk=>by have:=QA_.1 hk;omega)).chg s8 (λk hk=>by have:=QA_.1 hk;omega),(by simp),λk hk=>by have:=QA_.1 hk;omega⟩
  replace hm:=ifF hm hc;refine Z_<|WC.of_KC ?_;obtain ⟨l0,hsp,hm⟩:=bdS hm;obtain ⟨parts,hsl,hm⟩:=bdS hm;obtain ⟨oks,hok,hm⟩:=bdS hm
  split at hm
  case isFalse=>cases hm
  rename_i hlim
  obtain rfl:=som hm;obtain ⟨hacc,hall⟩:=o_D hok
  -- the loop
  refine a_a<|a_a<|a_B ?_;refine R rfl (b_8 rfl) ?_;refine E rfl (d_X Tryz.call200 rfl z_P) ?_;rintro _ w7 ⟨rfl,bp,s7⟩;refine a_d<|WC.of_KC ?_;replace k3:=k3.ext s7;replace k4:=k4.ext s7;replace k5:=k5.ext s7;replace c6:=c6.ext s7;replace kS:=kS.ext s7;replace kB:=bup kB<|s7.mono<|QAB _;have z7:=s7.size
  have hrow:∀g,c_A w7 w4.heap.size g->g<w7.heap.size:=λg hg=>by
    have h1:=o_C c6 hg;exact kS.lt _<|(j_I kS).2 g 0 none h1
  generalize w1.heap.size=q4 at *
  generalize w2.heap.size=q5 at *
  generalize w4.heap.size=q6 at *
  refine t_8 (α:={x:Str // x∈parts/\x.b.length<=LEN}) (f:=λx=>x.1) (gf:=223) (lb:=[pt w6.heap.size]) (b:=q6) (M:=parts.length) (S:=λxs=>xs.map (·.1)=parts) (Sp:=λ_=>True) rfl Tryz.call223 rfl rfl (by omega)
    (z_N p1_0 hsp hsl bp (by omega) hrow)
    (λpre W=>(∀x∈pre,(h_J n x.1).getD false=true)/\(∃(a:Option Addr)(m c:Nat)(S:List Nat),Blk W q6 [.slice a m c]/\c_ W S (sl a m c) (pre.map (·.1))/\S.Nodup/\(∀k∈S,q5<k/\k ≠ q6))/\Blk W w0.heap.size [.func (.func 170) #[] #[]]/\Blk W q4 [.slice none 0 0]/\Blk W q5 [vB false]/\Below w0.heap.size w0 W)
    (λpre W=>(∃x∈pre,(h_J n x.1).getD false=false)/\(∃(a:Option Addr)(m c:Nat)(S:List Nat),Blk W q4 [.slice a m c]/\c_ W S (sl a m c) ([]:List Str)/\S.Nodup/\(∀k∈S,w0.heap.size<=k))/\Blk W q5 [vB false]/\Below w0.heap.size w0 W)
    ?_ ?_ ?_ ?_ ?_ ?_
  . rintro pre W W' row ⟨h1,⟨a,m,c,S,h2,h3,h4,h5⟩,h6,h7,h8,h9⟩ hg hr
    have hr':=λr e=>(hr r e).2
    exact ⟨h1,⟨a,m,c,S,h2.grown hg hr',m_h h3 hg hr',h4,h5⟩,h6.grown hg hr',h7.grown hg hr',h8.grown hg hr',t_L h9 hg λr e=>QAG (by omega) (hr r e).1⟩
  . rintro pre W W' row ⟨h1,⟨a,m,c,S,h2,h3,h4,h5⟩,h8,h9⟩ hg hr
    have hr':=λr e=>(hr r e).2
    exact ⟨h1,⟨a,m,c,S,h2.grown hg hr',m_h h3 hg hr',h4,h5⟩,h8.grown hg hr',t_L h9 hg λr e=>QAG (by omega) (hr r e).1⟩
  . exact ⟨λx hx=>(by cases hx),⟨a,m,c,_,c6,kS,(by simp),λk hk=>by have:=QA_.1 hk;omega⟩,k3,k4,k5,kB⟩
  . rintro l pre ⟨x,hx,hxl⟩ W ⟨h1,⟨a,m,c,S,h2,h3,h4,h5⟩,h6,h7,h8,h9⟩ hlt
    refine t_3<|i_m<|i_m<|i_l rfl (λ_ _ h=>by cases h.1) ?_;refine R rfl (b_J g_199 rfl (λh=>h)<|h6.at rfl) ?_;refine R rfl (b_8 rfl) ?_;refine E rfl (d_y (caps:=[]) Tryz.call170 rfl rfl<|W_w4u (hacc x hx) zr hxl) ?_;rintro _ W1 ⟨s1,rfl⟩;refine R rfl (d_f rfl) ?_;refine a_d<|WCI.of_KC ?_;have y1:=s1.size;have hq6:=h2.lt;have hw0.heap.size:=h6.lt;have hq4:=h7.lt;have hq5:=h8.lt;refine t_0 rfl (λhc=>?_)<|λhc=>?_
    . refine i_m (i_l rfl (λ_ _ h=>by cases h.1) ?_)
      refine E rfl (e_3 (α:=Str) a_q) ?_;rintro _ W2 ⟨a2,m2,c2,rfl,s2,ho2⟩;refine E0 (a_U (cur':=[.slice a2 m2 c2]) d_v rfl rfl ((h7.ext s1).ext s2) rfl (QAA rfl) (b_1 rfl) rfl) ?_;rintro _ W3 ⟨c3,s3⟩;refine E0 (a_U (cur':=[vB false]) z_4 rfl rfl (((h8.ext s1).ext s2).chg s3 (by omega)) rfl (QAA rfl) (b_1 rfl) rfl) ?_;rintro _ W4 ⟨c4,s4⟩;refine a_d<|WCI.of_KC ?_;have hW:Below W.heap.size W W2:=bup s1 s2
      have hc4:Chg (λk=>k=q4∨k=q5) W W4:=by
        have e1:Chg (λk=>k=q4∨k=q5) W W2:=(Chg.refl _ W).ext hW;refine (e1.comp s3 λk _ hk=>.inl hk).comp s4 λk _ hk=>.inr hk
      refine t_2 λ_ q=>⟨rfl,m_g hc4 λk _ hk=>?_,⟨⟨x,hx,hxl⟩,by simp,by simpa using hc⟩,⟨a2,m2,c2,_,c3.chg s4 (by omega),(ho2.chg s3 λk hk=>by have:=QA_.1 hk;omega).chg s4 λk hk=>by have:=QA_.1 hk;omega,(by simp),λk hk=>by have:=QA_.1 hk;omega⟩,c4,?_⟩
      . rcases hk with rfl | rfl
        . exact ⟨_,h7⟩
        . exact ⟨_,h8⟩
      . exact c_I h9 hc4 λk hk hm=>by rcases hm with rfl | rfl <;> omega
    . refine t_1 (WCI.of_KC ?_)
      refine i_l rfl (λ_ _ h=>by cases h.1) ?_
      have hpsh:psh (pre.map (·.1)) x=some (pre.map (·.1)++[x]):=by
        unfold psh
        rw [QAd (by rw [QAs];omega)]
      refine R rfl (b_J a_A rfl (λh=>h)<|(h2.ext s1).at rfl) ?_;refine R rfl (b_8 rfl) ?_;refine E rfl (e_Z [(.tmp 25)] a_q rfl rfl rfl (a_i rfl) (QAA rfl)<|QAA rfl) ?_;rintro _ W2 ⟨rfl,hb⟩;have s2:=hb.below;have y2:=s2.size;refine E rfl (a_W (α:=Str) a_q hpsh rfl rfl ((h3.ext s1).ext s2) h4 hb.blk (b_c hxl) all_nil E_) ?_;rintro _ W3 ⟨S',a',n',c',rfl,s3,ho3,nd3,hs3⟩;have y3:=s3.size
      have n3:∀k,k<W.heap.size->k<=q5∨k=q6->k∉S':=λk hk hq hm=>by
        rcases hs3 k hm with h | h | h
        . have:=h5 k h;omega
        . cases h
        . omega
      refine E0 (a_U (cur':=[.slice a' n' c']) d_v rfl rfl (((h2.ext s1).ext s2).chg s3 (λhm=>(h5 _ hm).2 rfl)) rfl (QAA rfl) (b_1 rfl) rfl) ?_;rintro _ W4 ⟨c4,s4⟩;have hW:Below W.heap.size W W2:=bup s1 s2
      have hc4:Chg (λk=>k=q6∨k∈S) W W4:=by
        have e1:Chg (λk=>k=q6∨k∈S) W W2:=(Chg.refl _ W).ext hW;refine (e1.comp s3 λk _ hk=>.inr hk).comp s4 λk _ hk=>.inl hk
      have ho4:c_ W4 S' (sl a' n' c') (pre.map (·.1)++[x]):=ho3.chg s4 λk hk he=>n3 q6 hq6 (.inr rfl)<|he ▸ hk
      have hs4:∀k∈S',k∈S∨W.heap.size<=k:=λk hk=>by
        rcases hs3 k hk with h | h | h
        . exact .inl h
        . cases h
        . exact .inr (by omega)
      have k4:∀k,k<=q5->¬(k=q6∨k∈S):=λk hk hm=>by
        rcases hm with rfl | hm
        . omega
        . have:=h5 k hm;omega
      refine a_d λa'' ha''=>⟨m_g hc4 λk _ hk=>?_,KpS.of_chg h2 h3 c4 ho4 hs4 hc4,λy hy=>?_,⟨a',n',c',S',c4,by simpa using ho4,nd3,λk hk=>?_⟩,h6.chg hc4<|k4 _ (by omega),h7.chg hc4<|k4 _ (by omega),h8.chg hc4<|k4 _ (by omega),c_I h9 hc4 λk hk hm=>k4 k (by omega) hm⟩
      . rcases hk with rfl | hk
        . exact ⟨_,h2⟩
        . exact e_I h3 k hk
      . rcases QAj.1 hy with hy | hy
        . exact h1 y hy
        . obtain rfl:=QA_.1 hy
          simpa using hc
      . rcases hs4 k hk with h | h
        . exact h5 k h
        . omega
  . rintro D xs W hD hxs ⟨h1,⟨a,m,c,S,h2,h3,h4,h5⟩,h6,h7,h8,h9⟩ hdef a0 ha0
    have hw0.heap.size:=h6.lt;have hq4:=h7.lt;have hq5:=h8.lt;refine tailD ?_ ha0;refine R rfl (b_J a_A rfl (λh=>h)<|h2.at rfl) ?_;refine E0 (a_U (cur':=[.slice a m c]) d_v rfl rfl h7 rfl (QAA rfl) (b_1 rfl) rfl) ?_;rintro _ W1 ⟨c7,s7⟩;refine E0 (a_U (cur':=[vB true]) z_4 rfl rfl (h8.chg s7 (by omega)) rfl (QAA rfl) (b_1 rfl) rfl) ?_;rintro _ W2 ⟨c8,s8⟩;have hDlt:=(Array.getElem?_eq_some_iff.1 hdef).1;have hdef2:W2.heap[D]? = some (.deferred<|some []):=((s8.block D (QAC hDlt s7.size) (by omega)).trans (s7.block D hDlt (by omega))).trans hdef
    have hDS:∀k∈S,k ≠ D:=λk hk e=>by
      obtain ⟨cur,hB⟩:=e_I h3 k hk;have:=(e ▸ hB).isCells hdef
      cases this
    have hoks:oks.all id=true:=hall.2 λy hy=>by
      rw [← hxs] at hy
      obtain ⟨z,hz,rfl⟩:=List.mem_map.1 hy;exact h1 z hz
    rw [QAd hoks]
    refine a_d λa' ha'=>⟨ha'.defers,hdef2,?_⟩
    have hp:=m_f W2 D<|.deferred none;obtain ⟨_,v,e1,e2⟩:=b_r (R:=Q40 w0 B (parts,true)) hr (c_w (n:=1) a_A rfl<|(c7.chg s8 (by omega)).chg hp (by omega)) (c_w (n:=1) g_4 rfl<|c8.chg hp (by omega)) ⟨c_I (c_I (c_I h9 s7 λk hk e=>by omega) s8 λk hk e=>by omega) hp λk hk e=>by omega,a,m,c,S,rfl,((hxs ▸ h3).chg s7 λk hk e=>by have:=h5 k hk;omega).chg s8 (λk hk e=>by have:=h5 k hk;omega) |>.chg hp λk hk e=>hDS k hk e,h4,λk hk=>by have:=h5 k hk;omega⟩ a' ha';exact ⟨v,e1,e2⟩
  . rintro D pre W hD _ ⟨⟨⟨x,hx,hxl⟩,hxm,hxb⟩,⟨a,m,c,S,h2,h3,h4,h5⟩,h8,h9⟩ hdef a0 ha0
    have hq4:=h2.lt;have hq5:=h8.lt
    have hDS:∀k∈S,k ≠ D:=λk hk e=>by
      obtain ⟨cur,hB⟩:=e_I h3 k hk;have:=(e ▸ hB).isCells hdef
      cases this
    have hoks:¬oks.all id=true:=λh=>by
      have:=hall.1 h x hx
      rw [this] at hxb;cases hxb
    rw [QA7 hoks]
    have hp:=m_f W D<|.deferred none;obtain ⟨_,v,e1,e2⟩:=b_r (R:=Q40 w0 B ([],false)) hr (c_w (n:=1) a_A rfl<|h2.chg hp (by omega)) (c_w (n:=1) g_4 rfl<|h8.chg hp (by omega)) ⟨c_I h9 hp λk hk e=>by omega,a,m,c,S,rfl,h3.chg hp λk hk e=>hDS k hk e,h4,h5⟩ a0 ha0;exact retD ha0.defers hdef e1 e2
def Q41 (w0:World)(B:Zone)(r:(List Str)×Bool)(v:Value)(w':World):Prop:=Bw w0 w'/\un2 (λr1 r2=>∃G H I S1,v = .tuple #[sl G H I,vB r2]/\c_ w' S1 (sl G H I) r1/\S1.Nodup/\(∀k∈S1,w0.z<=k)) r
theorem W_w4w {x1:Str}{res:(List Str)×Bool}(hm:k_x n x1=some res)(H:B<=w0.z)(G:x1.b.length<=LEN):g_ prog 105 [Str.v x1] w0 (Q41 w0 B res):=by
 unfold k_x at hm;refine goG func105 z z z λfn hr=>Ws<|Ra z<|Rw z<|Wm z ?_;obtain ⟨_,_,J,I⟩:=V_ hm;refine E z (fc call169 z<|W_w4v (B:=B) J H G) ?_;rintro _ _ ⟨s2,L,O,V,W,rfl,Y,h8,h9⟩;exact Re z z z<|Re z z z<|Ra z<|Rw z<|Wr<|rS2 I hr z z ⟨s2,L,O,V,W,z,Y,h8,h9⟩
def Q42 (w0:World)(B:Zone)(r:(List Str)×Bool)(v:Value)(w':World):Prop:=Bw w0 w'/\un2 (λr1 r2=>∃(G:Option Addr)(H I:Nat)(S1:List Nat),v = .tuple #[(sl G H I),(vB r2)]/\c_ w' S1 (sl G H I) r1/\S1.Nodup/\(∀k∈S1,w0.heap.size<=k)) r
theorem z_Q {w:World}{gp b:Nat}{s:Str}{l0 parts:List Str}(hs:s.b.length<=LEN)(hm:g_s s (47:UInt8)=some l0)(hsl:slc l0 1 (l0.length:Int)=some parts)(hp:Blk w gp [Str.v s])(hb:b<w.heap.size)(hrow:∀g,c_A w b g->g<w.heap.size) :
    SeqStopsK (α:={x:Str // x∈parts/\x.b.length<=LEN}) Fence.wide 1 Tryz.prog 223 [pt gp].toArray (λx=>#[x.1.v]) (KpS b) (λxs=>xs.map (·.1)=parts) (λ_=>True) parts.length w:=by
  intro l J Jx W hW hJ hJx hY h0;have hpW:=hp.ext hW
  have hrowW:∀g,c_A W b g->g<W.heap.size:=λg ⟨n,c,h⟩=>by
    have h':w.cell? ⟨b,0,none⟩=some (sl (some ⟨g,0,none⟩) n c):=(World.cell?_of_block (w:=w) (w':=W) (a:=⟨b,0,none⟩)<|hW.block b hb).symm.trans h;exact QAC (hrow g ⟨n,c,h'⟩) hW.size
  have hbW:=QAC hb hW.size
  have hc:g_ Tryz.prog 223 [.func (.yield l) #[] #[],pt gp] W (λ_ W'=>(∃xs:List {x:Str // x∈parts/\x.b.length<=LEN},xs.map (·.1)=parts/\J xs W')∨(∃pre,True/\Jx pre W')):=by
    obtain ⟨fn,hf,hbd,hN,hr⟩:=fnE Tryz.func223;refine j_g hf (hbd.trans rfl) (hN.trans rfl) (QAA rfl) ?_;refine a_a<|a_B ?_;refine R rfl (b_J g_9 rfl (λh=>h)<|hpW.at rfl) ?_;refine E rfl (d_X Tryz.call224 rfl<|W_w2d (B:=W.heap.size) hm zr hs) ?_;rintro _ W1 ⟨s1,a1,n1,c1,S1,rfl,ho,nd,hge⟩;refine RX rfl (t_9 z_ z_9 rfl ho rfl rfl hsl) ?_;intro v7 hv7;obtain ⟨ao7,c7,rfl,_⟩:=id hv7;refine R rfl (f_3 z_ rfl<|hv7.repS (B:=W1.heap.size)<|λk hk=>ho.lt k hk) ?_;refine R rfl (b_8 rfl) ?_;refine a_d<|WC.of_KC ?_;have hJ1:J [] W1:=hJ [] W W1 none h0 (Below.grows s1) (λr h=>by cases h);have hb1:b∉S1:=λh=>absurd (hge b h)<|QBD.2 hbW
    have hr1:∀g,c_A W1 b g->g∉S1:=λg ⟨n,c,h⟩ hg=>by
      have h':W.cell? ⟨b,0,none⟩=some (sl (some ⟨g,0,none⟩) n c):=(World.cell?_of_block (w:=W) (w':=W1) (a:=⟨b,0,none⟩)<|s1.block b hbW).symm.trans h;exact absurd (hge g hg)<|QBD.2<|hrowW g ⟨n,c,h'⟩
    have hlenL:parts.length<=9223372036854775807:=QAG (by obtain ⟨_,_,_,_,h,_⟩:=hv7;exact h) u_;refine c_S λa ha=>?_
    refine Code.wp_mono (Q:=Exit.then noK<|λex a w=>(ex = .exit 0/\b_V Tryz.prog fn (λ_ W'=>(∃xs:List {x:Str // x∈parts/\x.b.length<=LEN},xs.map (·.1)=parts/\J xs W')∨(∃pre,True/\Jx pre W')) a w)∨(ex = .ret/\b_V Tryz.prog fn (λ_ W'=>(∃xs:List {x:Str // x∈parts/\x.b.length<=LEN},xs.map (·.1)=parts/\J xs W')∨(∃pre,True/\Jx pre W')) a w)) (λex a' w' q=>?_)<|wp_loop_ghost (λm a w=>∃(k:Nat)(pre:List {x:Str // x∈parts/\x.b.length<=LEN}),k+m=parts.length/\pre.map (·.1)=parts.take k/\Sat 18 [(9,vI (k:Int)),(8,vI (parts.length:Int)),(7,sl ao7 parts.length c7),(0,.func (.yield l) #[] #[])] a/\J pre w/\c_ w S1 (sl a1 n1 c1) l0/\(∀g,c_A w b g->g∉S1)/\e_i w (· ∈ S1) (sl ao7 parts.length c7) parts) parts.length ?_ ?_
    . cases ex with
      | normal=>exact (show False from q).elim
      | exit i =>
        rcases q with ⟨h,q⟩ | ⟨h,_⟩
        . cases h;exact q
        . cases h
      | ret =>
        rcases q with ⟨h,_⟩ | ⟨_,q⟩
        . cases h
        . exact q
      | _=>rcases q with ⟨h,_⟩ | ⟨h,_⟩ <;> cases h
    . exact ⟨0,[],by omega,by simp,ha.weaken<|sc rfl<|sc rfl<|sc rfl<|sc rfl sn,hJ1,ho,hr1,hv7⟩
    . rintro m a w ⟨k,pre,hkm,hpre,hsat,hJw,how,hrw,hvw⟩
      refine f_9 (N:=18) (e:=[(9,vI (k:Int)),(8,vI (parts.length:Int)),(7,sl ao7 parts.length c7),(0,.func (.yield l) #[] #[])]) ?_ hsat;refine a_a<|a_B<|R rfl (e_y rfl rfl)<|a_d<|WC.of_KC ?_;refine a_a<|c_b rfl (λhc=>?_)<|λhc=>?_
      . have hk:k<parts.length:=by simpa using hc
        obtain ⟨m,rfl⟩:∃m',m=m'+1:=⟨m - 1,by omega⟩;refine Z_<|WC.of_KC ?_;refine a_a<|c_S ?_;refine a_a<|a_B ?_;have hrep:=hvw.repS (B:=w.heap.size)<|λk hk=>how.lt k hk;have hidx:idx parts (k:Int)=some parts[k]:=by rw [n_j];simp [hk]
        refine RX rfl (e_1 (α:=Str) z_ z_9 rfl rfl rfl hrep hidx) ?_;rintro _ ⟨bb,oo,cs,rfl,hc1,hrr,hlt⟩;obtain ⟨rfl,hxl⟩:=a_e hrr;refine R rfl (b_J g_9 rfl (λh=>h)<|hc1.at0 rfl) ?_;refine R rfl (c_L rfl) ?_;refine a_d<|WC.of_KC ?_;refine a_a<|t_4 ?_;refine g_m rfl (b_8 rfl) ?_;refine g_m rfl (b_8 rfl) ?_
        have hpl:pre.length=k:=by
          have:=congrArg List.length hpre
          simp at this;omega
        refine t_5 (S:=λv w'=>(v=vB true/\J (pre++[⟨parts[k],QAU hk,hxl⟩]) w'/\KpS b w w')∨(v=vB false/\Jx (pre++[⟨parts[k],QAU hk,hxl⟩]) w')) rfl rfl rfl (hY pre ⟨parts[k],QAU hk,hxl⟩ w hJw (by omega)) (λe w' h=>?_) ?_
        . rcases h with ⟨rfl,h⟩ | ⟨rfl,h⟩
          . exact ⟨_,rfl,.inl ⟨rfl,h⟩⟩
          . exact ⟨_,rfl,.inr ⟨rfl,h⟩⟩
        rintro v w' (⟨rfl,hJ',hK⟩ | ⟨rfl,hX⟩)
        . refine g_m rfl (d_f rfl) ?_
          refine m_d<|WC.of_KC ?_;refine c_b rfl (λh=>by cases h)<|λ_=>?_;refine Z_<|WC.of_KC ?_;refine a_B<|R rfl (f_1 hk hlenL rfl rfl)<|R rfl (b_8 rfl) ?_;obtain ⟨ho',hr'⟩:=hK.own how hb1 hrw
          have hv':e_i w' (· ∈ S1) (sl ao7 parts.length c7) parts:=hvw.stay λg hg=>hK.chg.block g (how.lt g hg) λhm=>by
            rcases hm with rfl | hm | ⟨o,ho2,hcl⟩
            . exact hb1 hg
            . exact hrw g hm hg
            . obtain ⟨cur,hB⟩:=e_I how g hg
              rw [hB.isCells ho2] at hcl;cases hcl
          refine a_d λa' ha'=>⟨m,Nat.lt_succ_self _,k+1,pre++[⟨parts[k],QAU hk,hxl⟩],by omega,?_,ha'.weaken<|sc rfl<|sc rfl<|sc rfl<|sc rfl sn,hJ',ho',hr',hv'⟩
          rw [QBN,hpre,QAy,List.getElem?_eq_getElem hk];rfl
        . refine g_m rfl (d_f rfl) ?_
          refine m_d<|WC.of_KC ?_;refine c_b rfl (λ_=>?_) (λh=>by cases h);exact c_F<|rtO λa' ha'=>.inr ⟨rfl,ret0 hr (.inr ⟨_,trivial,hX⟩) a' ha'⟩
      . have hk:¬k<parts.length:=by simpa using hc
        have:k=parts.length:=by omega
        subst this;refine e_X λa' ha'=>.inl ⟨rfl,ret0 hr (.inl ⟨pre,?_,hJw⟩) a' ha'⟩
        rw [hpre,QAY]
  refine callsIn_wide.2<|hc.run.mono λe w' ⟨v,he,h⟩=>⟨⟨v,he⟩,h⟩
theorem t_M {w0 W W':World}{row:Option Nat}(h:Below w0.heap.size w0 W)(hg:W.grownBy W' row)(hr:∀r,row=some r->w0.heap.size<=r):Below w0.heap.size w0 W':=c_I h (m_e hg) λk hk e=>absurd (hr k e)<|QBD.2 hk
def z_R (w0:World)(s:Str)(v:Value)(w':World):Prop:=v = .func (.func 223) #[] #[pt w0.heap.size]/\Blk w' w0.heap.size [Str.v s]/\Bw w0 w'
theorem z_S {w0:World}{s:Str}:g_ Tryz.prog 200 [Str.v s] w0 (z_R w0 s):=by
  obtain ⟨_,hf,hb,hN,hr⟩:=fnE Tryz.func200;refine j_g hf (hb.trans rfl) (hN.trans rfl) (QAA rfl) ?_;refine a_a<|a_B ?_;refine E rfl (d_x rfl) ?_;rintro _ G ⟨rfl,h1⟩;refine R rfl (c_L rfl) ?_;refine a_d<|WC.of_KC ?_;refine a_a<|a_B ?_;refine R rfl (h_W rfl) ?_;refine R rfl (c_L rfl) ?_;refine a_d<|WC.of_KC ?_;exact c_F<|a_s hr rfl ⟨rfl,(h1.blk:Blk G w0.heap.size [Str.v s]),h1.below⟩
theorem W_w4x {n:Nat}{B:Zone}{x1:Str}{res:(List Str)×Bool}{w0:World}(hm:m_l n x1=some res)(hBw:B<=w0.heap.size)(p1_0:x1.b.length<=LEN):g_ Tryz.prog 169 [(Str.v x1),.func (.func 171) #[] #[]] w0 (Q42 w0 B res):=by
  unfold m_l at hm
  obtain ⟨fn,hf,hb,hN,hr⟩:=fnE Tryz.func169;refine t_7 hf (hb.trans rfl) (hN.trans rfl) (QAA rfl) ?_
  -- the cells
  refine a_a<|a_B ?_;refine E rfl (d_x rfl) ?_;rintro _ w1 ⟨rfl,h1⟩;have b3:Blk w1 w0.heap.size [.func (.func 171) #[] #[]]:=h1.blk;refine E rfl (c_H m_S) ?_;rintro _ w2 ⟨rfl,h2⟩;have b4:Blk w2 w1.heap.size [.slice none 0 0]:=h2.blk;refine E rfl (c_H t_B) ?_;rintro _ w3 ⟨rfl,h3⟩;have b5:Blk w3 w2.heap.size [vB false]:=h3.blk;refine a_d<|WC.of_KC ?_;refine a_a<|a_B ?_;refine E rfl (e_3 (α:=Str) a_q) ?_;rintro _ w4 ⟨a,m,c,rfl,s4,ho4⟩;refine E rfl (c_H m_S) ?_;rintro _ w5 ⟨rfl,h5⟩;have b6:Blk w5 w4.heap.size [.slice none 0 0]:=h5.blk;refine E0 (a_U (cur':=[.slice a m c]) d_v rfl rfl b6 rfl (QAA rfl) (b_1 rfl) rfl) ?_;rintro _ w6 ⟨c6,s6⟩;have t6:=s6.one;refine a_d<|WC.of_KC ?_
  -- what is known behind
  have g1:=h1.below;have g2:=h2.below;have g3:=h3.below;have g5:=h5.below;have z1:=h1.size;have z2:=h2.size;have z3:=h3.size;have z5:=h5.size;have z4:=s4.size;have z6:=s6.size
  have hz:w0.heap.size<w1.heap.size/\w1.heap.size<w2.heap.size/\w2.heap.size<w3.heap.size/\w3.heap.size<w4.heap.size/\w4.heap.size<w6.heap.size:=by
    have:=ho4.lt _ QAM
    omega
  have k3:Blk w6 w0.heap.size [.func (.func 171) #[] #[]]:=((((b3.ext g2).ext g3).ext s4).ext g5).chg s6 (by omega);have k4:Blk w6 w1.heap.size [.slice none 0 0]:=(((b4.ext g3).ext s4).ext g5).chg s6 (by omega);have k5:Blk w6 w2.heap.size [vB false]:=((b5.ext s4).ext g5).chg s6 (by omega);have kS:c_ w6 [w3.heap.size] (sl a m c) ([]:List Str):=(ho4.ext g5).chg s6 (λk hk=>by have:=QA_.1 hk;omega);have kB:Below w0.heap.size w0 w6:=c_d (bup (bup (bup (bup g1 g2) g3) s4) g5) t6 (λk hk=>by have:=QA_.1 hk;omega)
  clear b3 b4 b5 b6 ho4 h1 h2 h3 h5 s4 s6 t6 g1 g2 g3 g5 z1 z2 z3 z4 z5 z6
  -- the first look
  refine a_a<|a_a<|a_B ?_;refine R rfl (b_8 rfl) ?_;refine R rfl (a_Q rfl rfl) ?_;refine a_d<|WC.of_KC ?_;refine c_b rfl (λhc=>?_)<|λhc=>?_
  . obtain rfl:=som (ifT hm hc)
    refine a_a<|a_B ?_;refine R rfl (b_J a_A rfl (λh=>h)<|c6.at rfl) ?_;refine E0 (a_U (cur':=[.slice a m c]) d_v rfl rfl k4 rfl (QAA rfl) (b_1 rfl) rfl) ?_;rintro _ w7 ⟨c7,s7⟩;refine E0 (a_U (cur':=[vB true]) z_4 rfl rfl (k5.chg s7 (by omega)) rfl (QAA rfl) (b_1 rfl) rfl) ?_;rintro _ w8 ⟨c8,s8⟩;refine a_d<|WC.of_KC ?_;refine c_F λa' ha'=>retM<|b_r hr (c_w (n:=1) a_A rfl<|c7.chg s8 (by omega)) (c_w (n:=1) g_4 rfl c8) ⟨c_d (c_d kB s7.one (λk hk=>by have:=QA_.1 hk;omega)) s8.one (λk hk=>by have:=QA_.1 hk;omega),?_⟩ a' ha'
    exact ⟨a,m,c,_,rfl,(kS.chg s7 (λk hk=>by have:=QA_.1 hk;omega)).chg s8 (λk hk=>by have:=QA_.1 hk;omega),(by simp),λk hk=>by have:=QA_.1 hk;omega⟩
  replace hm:=ifF hm hc;refine Z_<|WC.of_KC ?_
  -- the first byte
  refine a_a<|a_a<|a_B ?_;refine R rfl (b_8 rfl) ?_;obtain ⟨x13,e13,hm⟩:=bdS hm;refine R rfl (c_y d_9 rfl rfl (a_k e13).1 (a_k e13).2.1) ?_;refine R rfl (f_b rfl rfl) ?_;refine a_d<|WC.of_KC ?_;refine c_b rfl (λhc=>?_)<|λhc=>?_
  . obtain rfl:=som (ifT hm hc)
    refine a_a<|a_B ?_;refine R rfl (b_J a_A rfl (λh=>h)<|c6.at rfl) ?_;refine E0 (a_U (cur':=[.slice a m c]) d_v rfl rfl k4 rfl (QAA rfl) (b_1 rfl) rfl) ?_;rintro _ w7 ⟨c7,s7⟩;refine E0 (a_U (cur':=[vB false]) z_4 rfl rfl (k5.chg s7 (by omega)) rfl (QAA rfl) (b_1 rfl) rfl) ?_;rintro _ w8 ⟨c8,s8⟩;refine a_d<|WC.of_KC ?_;refine c_F λa' ha'=>retM<|b_r hr (c_w (n:=1) a_A rfl<|c7.chg s8 (by omega)) (c_w (n:=1) g_4 rfl c8) ⟨c_d (c_d kB s7.one (λk hk=>by have:=QA_.1 hk;omega)) s8.one (λk hk=>by have:=QA_.1 hk;omega),?_⟩ a' ha'
    exact ⟨a,m,c,_,rfl,(kS.chg s7 (λk hk=>by have:=QA_.1 hk;omega)).chg s8 (λk hk=>by have:=QA_.1 hk;omega),(by simp),λk hk=>by have:=QA_.1 hk;omega⟩
  replace hm:=ifF hm hc;refine Z_<|WC.of_KC ?_;obtain ⟨l0,hsp,hm⟩:=bdS hm;obtain ⟨parts,hsl,hm⟩:=bdS hm;obtain ⟨oks,hok,hm⟩:=bdS hm
  split at hm
  case isFalse=>cases hm
  rename_i hlim
  obtain rfl:=som hm;obtain ⟨hacc,hall⟩:=o_D hok
  -- the loop
  refine a_a<|a_a<|a_B ?_;refine R rfl (b_8 rfl) ?_;refine E rfl (d_X Tryz.call200 rfl z_S) ?_;rintro _ w7 ⟨rfl,bp,s7⟩;refine a_d<|WC.of_KC ?_;replace k3:=k3.ext s7;replace k4:=k4.ext s7;replace k5:=k5.ext s7;replace c6:=c6.ext s7;replace kS:=kS.ext s7;replace kB:=bup kB<|s7.mono<|QAB _;have z7:=s7.size
  have hrow:∀g,c_A w7 w4.heap.size g->g<w7.heap.size:=λg hg=>by
    have h1:=o_C c6 hg;exact kS.lt _<|(j_I kS).2 g 0 none h1
  generalize w1.heap.size=q4 at *
  generalize w2.heap.size=q5 at *
  generalize w4.heap.size=q6 at *
  refine t_8 (α:={x:Str // x∈parts/\x.b.length<=LEN}) (f:=λx=>x.1) (gf:=223) (lb:=[pt w6.heap.size]) (b:=q6) (M:=parts.length) (S:=λxs=>xs.map (·.1)=parts) (Sp:=λ_=>True) rfl Tryz.call223 rfl rfl (by omega)
    (z_Q p1_0 hsp hsl bp (by omega) hrow)
    (λpre W=>(∀x∈pre,(g_t n x.1).getD false=true)/\(∃(a:Option Addr)(m c:Nat)(S:List Nat),Blk W q6 [.slice a m c]/\c_ W S (sl a m c) (pre.map (·.1))/\S.Nodup/\(∀k∈S,q5<k/\k ≠ q6))/\Blk W w0.heap.size [.func (.func 171) #[] #[]]/\Blk W q4 [.slice none 0 0]/\Blk W q5 [vB false]/\Below w0.heap.size w0 W)
    (λpre W=>(∃x∈pre,(g_t n x.1).getD false=false)/\(∃(a:Option Addr)(m c:Nat)(S:List Nat),Blk W q4 [.slice a m c]/\c_ W S (sl a m c) ([]:List Str)/\S.Nodup/\(∀k∈S,w0.heap.size<=k))/\Blk W q5 [vB false]/\Below w0.heap.size w0 W)
    ?_ ?_ ?_ ?_ ?_ ?_
  . rintro pre W W' row ⟨h1,⟨a,m,c,S,h2,h3,h4,h5⟩,h6,h7,h8,h9⟩ hg hr
    have hr':=λr e=>(hr r e).2
    exact ⟨h1,⟨a,m,c,S,h2.grown hg hr',m_h h3 hg hr',h4,h5⟩,h6.grown hg hr',h7.grown hg hr',h8.grown hg hr',t_M h9 hg λr e=>QAG (by omega) (hr r e).1⟩
  . rintro pre W W' row ⟨h1,⟨a,m,c,S,h2,h3,h4,h5⟩,h8,h9⟩ hg hr
    have hr':=λr e=>(hr r e).2
    exact ⟨h1,⟨a,m,c,S,h2.grown hg hr',m_h h3 hg hr',h4,h5⟩,h8.grown hg hr',t_M h9 hg λr e=>QAG (by omega) (hr r e).1⟩
  . exact ⟨λx hx=>(by cases hx),⟨a,m,c,_,c6,kS,(by simp),λk hk=>by have:=QA_.1 hk;omega⟩,k3,k4,k5,kB⟩
  . rintro l pre ⟨x,hx,hxl⟩ W ⟨h1,⟨a,m,c,S,h2,h3,h4,h5⟩,h6,h7,h8,h9⟩ hlt
    refine t_3<|i_m<|i_m<|i_l rfl (λ_ _ h=>by cases h.1) ?_;refine R rfl (b_J g_199 rfl (λh=>h)<|h6.at rfl) ?_;refine R rfl (b_8 rfl) ?_;refine E rfl (d_y (caps:=[]) Tryz.call171 rfl rfl<|W_w2f (hacc x hx) zr hxl) ?_;rintro _ W1 ⟨s1,rfl⟩;refine R rfl (d_f rfl) ?_;refine a_d<|WCI.of_KC ?_;have y1:=s1.size;have hq6:=h2.lt;have hw0.heap.size:=h6.lt;have hq4:=h7.lt;have hq5:=h8.lt;refine t_0 rfl (λhc=>?_)<|λhc=>?_
    . refine i_m (i_l rfl (λ_ _ h=>by cases h.1) ?_)
      refine E rfl (e_3 (α:=Str) a_q) ?_;rintro _ W2 ⟨a2,m2,c2,rfl,s2,ho2⟩;refine E0 (a_U (cur':=[.slice a2 m2 c2]) d_v rfl rfl ((h7.ext s1).ext s2) rfl (QAA rfl) (b_1 rfl) rfl) ?_;rintro _ W3 ⟨c3,s3⟩;refine E0 (a_U (cur':=[vB false]) z_4 rfl rfl (((h8.ext s1).ext s2).chg s3 (by omega)) rfl (QAA rfl) (b_1 rfl) rfl) ?_;rintro _ W4 ⟨c4,s4⟩;refine a_d<|WCI.of_KC ?_;have hW:Below W.heap.size W W2:=bup s1 s2
      have hc4:Chg (λk=>k=q4∨k=q5) W W4:=by
        have e1:Chg (λk=>k=q4∨k=q5) W W2:=(Chg.refl _ W).ext hW;refine (e1.comp s3 λk _ hk=>.inl hk).comp s4 λk _ hk=>.inr hk
      refine t_2 λ_ q=>⟨rfl,m_g hc4 λk _ hk=>?_,⟨⟨x,hx,hxl⟩,by simp,by simpa using hc⟩,⟨a2,m2,c2,_,c3.chg s4 (by omega),(ho2.chg s3 λk hk=>by have:=QA_.1 hk;omega).chg s4 λk hk=>by have:=QA_.1 hk;omega,(by simp),λk hk=>by have:=QA_.1 hk;omega⟩,c4,?_⟩
      . rcases hk with rfl | rfl
        . exact ⟨_,h7⟩
        . exact ⟨_,h8⟩
      . exact c_I h9 hc4 λk hk hm=>by rcases hm with rfl | rfl <;> omega
    . refine t_1 (WCI.of_KC ?_)
      refine i_l rfl (λ_ _ h=>by cases h.1) ?_
      have hpsh:psh (pre.map (·.1)) x=some (pre.map (·.1)++[x]):=by
        unfold psh
        rw [QAd (by rw [QAs];omega)]
      refine R rfl (b_J a_A rfl (λh=>h)<|(h2.ext s1).at rfl) ?_;refine R rfl (b_8 rfl) ?_;refine E rfl (e_Z [(.tmp 25)] a_q rfl rfl rfl (a_i rfl) (QAA rfl)<|QAA rfl) ?_;rintro _ W2 ⟨rfl,hb⟩;have s2:=hb.below;have y2:=s2.size;refine E rfl (a_W (α:=Str) a_q hpsh rfl rfl ((h3.ext s1).ext s2) h4 hb.blk (b_c hxl) all_nil E_) ?_;rintro _ W3 ⟨S',a',n',c',rfl,s3,ho3,nd3,hs3⟩;have y3:=s3.size
      have n3:∀k,k<W.heap.size->k<=q5∨k=q6->k∉S':=λk hk hq hm=>by
        rcases hs3 k hm with h | h | h
        . have:=h5 k h;omega
        . cases h
        . omega
      refine E0 (a_U (cur':=[.slice a' n' c']) d_v rfl rfl (((h2.ext s1).ext s2).chg s3 (λhm=>(h5 _ hm).2 rfl)) rfl (QAA rfl) (b_1 rfl) rfl) ?_;rintro _ W4 ⟨c4,s4⟩;have hW:Below W.heap.size W W2:=bup s1 s2
      have hc4:Chg (λk=>k=q6∨k∈S) W W4:=by
        have e1:Chg (λk=>k=q6∨k∈S) W W2:=(Chg.refl _ W).ext hW;refine (e1.comp s3 λk _ hk=>.inr hk).comp s4 λk _ hk=>.inl hk
      have ho4:c_ W4 S' (sl a' n' c') (pre.map (·.1)++[x]):=ho3.chg s4 λk hk he=>n3 q6 hq6 (.inr rfl)<|he ▸ hk
      have hs4:∀k∈S',k∈S∨W.heap.size<=k:=λk hk=>by
        rcases hs3 k hk with h | h | h
        . exact .inl h
        . cases h
        . exact .inr (by omega)
      have k4:∀k,k<=q5->¬(k=q6∨k∈S):=λk hk hm=>by
        rcases hm with rfl | hm
        . omega
        . have:=h5 k hm;omega
      refine a_d λa'' ha''=>⟨m_g hc4 λk _ hk=>?_,KpS.of_chg h2 h3 c4 ho4 hs4 hc4,λy hy=>?_,⟨a',n',c',S',c4,by simpa using ho4,nd3,λk hk=>?_⟩,h6.chg hc4<|k4 _ (by omega),h7.chg hc4<|k4 _ (by omega),h8.chg hc4<|k4 _ (by omega),c_I h9 hc4 λk hk hm=>k4 k (by omega) hm⟩
      . rcases hk with rfl | hk
        . exact ⟨_,h2⟩
        . exact e_I h3 k hk
      . rcases QAj.1 hy with hy | hy
        . exact h1 y hy
        . obtain rfl:=QA_.1 hy
          simpa using hc
      . rcases hs4 k hk with h | h
        . exact h5 k h
        . omega
  . rintro D xs W hD hxs ⟨h1,⟨a,m,c,S,h2,h3,h4,h5⟩,h6,h7,h8,h9⟩ hdef a0 ha0
    have hw0.heap.size:=h6.lt;have hq4:=h7.lt;have hq5:=h8.lt;refine tailD ?_ ha0;refine R rfl (b_J a_A rfl (λh=>h)<|h2.at rfl) ?_;refine E0 (a_U (cur':=[.slice a m c]) d_v rfl rfl h7 rfl (QAA rfl) (b_1 rfl) rfl) ?_;rintro _ W1 ⟨c7,s7⟩;refine E0 (a_U (cur':=[vB true]) z_4 rfl rfl (h8.chg s7 (by omega)) rfl (QAA rfl) (b_1 rfl) rfl) ?_;rintro _ W2 ⟨c8,s8⟩;have hDlt:=(Array.getElem?_eq_some_iff.1 hdef).1;have hdef2:W2.heap[D]? = some (.deferred<|some []):=((s8.block D (QAC hDlt s7.size) (by omega)).trans (s7.block D hDlt (by omega))).trans hdef
    have hDS:∀k∈S,k ≠ D:=λk hk e=>by
      obtain ⟨cur,hB⟩:=e_I h3 k hk;have:=(e ▸ hB).isCells hdef
      cases this
    have hoks:oks.all id=true:=hall.2 λy hy=>by
      rw [← hxs] at hy
      obtain ⟨z,hz,rfl⟩:=List.mem_map.1 hy;exact h1 z hz
    rw [QAd hoks]
    refine a_d λa' ha'=>⟨ha'.defers,hdef2,?_⟩
    have hp:=m_f W2 D<|.deferred none;obtain ⟨_,v,e1,e2⟩:=b_r (R:=Q42 w0 B (parts,true)) hr (c_w (n:=1) a_A rfl<|(c7.chg s8 (by omega)).chg hp (by omega)) (c_w (n:=1) g_4 rfl<|c8.chg hp (by omega)) ⟨c_I (c_I (c_I h9 s7 λk hk e=>by omega) s8 λk hk e=>by omega) hp λk hk e=>by omega,a,m,c,S,rfl,((hxs ▸ h3).chg s7 λk hk e=>by have:=h5 k hk;omega).chg s8 (λk hk e=>by have:=h5 k hk;omega) |>.chg hp λk hk e=>hDS k hk e,h4,λk hk=>by have:=h5 k hk;omega⟩ a' ha';exact ⟨v,e1,e2⟩
  . rintro D pre W hD _ ⟨⟨⟨x,hx,hxl⟩,hxm,hxb⟩,⟨a,m,c,S,h2,h3,h4,h5⟩,h8,h9⟩ hdef a0 ha0
    have hq4:=h2.lt;have hq5:=h8.lt
    have hDS:∀k∈S,k ≠ D:=λk hk e=>by
      obtain ⟨cur,hB⟩:=e_I h3 k hk;have:=(e ▸ hB).isCells hdef
      cases this
    have hoks:¬oks.all id=true:=λh=>by
      have:=hall.1 h x hx
      rw [this] at hxb;cases hxb
    rw [QA7 hoks]
    have hp:=m_f W D<|.deferred none;obtain ⟨_,v,e1,e2⟩:=b_r (R:=Q42 w0 B ([],false)) hr (c_w (n:=1) a_A rfl<|h2.chg hp (by omega)) (c_w (n:=1) g_4 rfl<|h8.chg hp (by omega)) ⟨c_I h9 hp λk hk e=>by omega,a,m,c,S,rfl,h3.chg hp λk hk e=>hDS k hk e,h4,h5⟩ a0 ha0;exact retD ha0.defers hdef e1 e2
theorem W_w4y {x1:Str}{res:(List Str)×Bool}(hm:i_A n x1=some res)(H:B<=w0.z)(G:x1.b.length<=LEN):g_ prog 106 [Str.v x1] w0 (Q41 w0 B res):=by
 unfold i_A at hm;refine goG func106 z z z λfn hr=>Ws<|Ra z<|Rw z<|Wm z ?_;obtain ⟨_,_,J,I⟩:=V_ hm;refine E z (fc call169 z<|W_w4x (B:=B) J H G) ?_;rintro _ _ ⟨s2,L,O,V,W,rfl,Y,h8,h9⟩;exact Re z z z<|Re z z z<|Ra z<|Rw z<|Wr<|rS2 I hr z z ⟨s2,L,O,V,W,z,Y,h8,h9⟩
theorem W_w4z {x1:List Str}{x2:Int}{x3:Str}{res:Bool}(hm:k_y x1 x2 x3=some res)(L:B<=w0.z)(H:rp w0 B A0 N0 C0 x1)(a0:inI x2)(J:x3.b.length<=LEN):g_ prog 202 [sl A0 N0 C0,vI x2,Str.v x3] w0 (Q11 w0 B res):=by
 unfold k_y at hm;refine goG func202 z z z λfn hr=>Ws<|Rw z<|Wq<|Wm z<|Rm z<|bdB hm λ_ W I=>xA (α:=Str) z m_R z_9 z z z H W λ_ _ _ h3 h4 _=>?_;obtain ⟨rfl,_⟩:=a_e h4;refine R z (l0 g_9 z<|h3.at0 z)<|R z (a_Q z z)<|Wx z (λG=>?_) (λG=>?_)
 .refine Wm z ?_;obtain ⟨_,_,Y,O⟩:=V_<|ifT I G;refine E z (fc call201 z<|W_w2e (B:=B) Y L J) ?_;rintro _ _ ⟨s7,rfl,_⟩;exact Rm z<|Re z z z<|Re z z z<|Ra z<|Rw z<|Wm z<|Rw z<|Wr<|rS1 O hr z ⟨s7,z⟩
 refine Wk<|Wm z<|Rm z<|bdB (ifF I G) λ_ e8 V=>xA (α:=Str) z m_R z_9 z z z H e8 λ_ _ _ ha hb _=>?_;obtain ⟨rfl,_⟩:=a_e hb;exact R z (l0 g_9 z<|ha.at0 z)<|Rm z<|R z (a_Q z z)<|Rw z<|Wr<|rS1 V hr z ⟨br w0,z⟩
theorem W_w50 {x1:List Str}{x2:List Str}{res:Bool}(hm:m_u x1 x2=some res)(ch:B<=w0.z)(Y:rp w0 B A0 N0 C0 x1)(ak:rp w0 B A2 N2 C2 x2):g_ prog 172 [sl A0 N0 C0,sl A2 N2 C2] w0 (Q11 w0 B res):=by
 unfold m_u at hm;refine goG func172 z z z λfn hr=>Ws<|Rw z<|Wm z<|R z (lnR z_ z ak)<|R z (add_ z z)<|bdB hm λ_ aV al=>E z (e_2 (α:=Bool) m_L (λ_=>b_U) aV z z) ?_;rintro _ _ ⟨aW,aX,aY,rfl,_,hz⟩;refine Rw z<|Wm z<|bdB al λ_ aa am=>RX z (b_q (α:=Bool) b_y z_4 z z hz aa) ?_;rintro _ ⟨_,aZ,rfl⟩;refine E0 (b_g (α:=Bool) z_4 z aZ z z z aa hz S_ b_U an_ E_) ?_;rintro _ wj ⟨Su,_,b0,b1,_⟩;refine Wn<|Wq<|Wm z<|R z (lnR m_R z kR)<|Rm z<|Wn<|bdB am λ_ an a0=>Wf (σ:=List Bool) (ρ:=Bool) (λ(k5:Nat)(xa:List Bool) a w=>∃H I J Sb,Sat 82 [(0,sl A0 N0 C0),(1,sl A2 N2 C2),(5,sl H I J),(16,vI (x1.length:Int)),(17,vI ((k5:Nat):Int))] a/\Below wj.z wj w/\c_ w Sb (sl H I J) xa/\Sb.Nodup/\(∀k∈Sb,k∈Su∨wj.z<=k)) (λ(xa:List Bool) a w=>∃H I J Sb,Sat 82 [(1,sl A2 N2 C2),(5,sl H I J)] a/\Below wj.z wj w/\c_ w Sb (sl H I J) xa/\Sb.Nodup/\(∀k∈Sb,k∈Su∨wj.z<=k)) (rQ prog fn<|Q11 w0 B) an ?_ ?_ ?_ ?_ ?_
 .exact λ_ q=>⟨aW,aX,aY,Su,kaA q,br wj,b0,b1,sQ⟩
 .rintro k5 xa _ wg _ hkv ⟨H,I,J,Sb,ap,_,hh,hw,ab⟩ aq;refine Wu ?_ ap;refine Ws<|Rl z z z<|Wn<|Wq<|Wc z (λ_=>?_) (λhc=>(J_ hkv hc).elim);refine Wk<|Wq<|Wb<|Wm z<|Rw z<|Wm z<|R z (lnR z_ z kR)<|R z (add_ z z)<|bdB aq λ_ b2 ar=>E z (e_2 (α:=Bool) m_L (λ_=>b_U) b2 z z) ?_;rintro _ wl ⟨O,V,W,rfl,_,b3⟩;refine Rw z<|Wq<|Wm z<|R z (lnR b_y z<|or_ kO<|c_.lt hh)<|Rm z<|Wn<|bdB ar λ_ au a2=>Wf (σ:=List Bool) (ρ:=Bool) (λ(kk:Nat)(xi:List Bool) a w=>∃(G:List Nat),Sat 82 [(0,sl A0 N0 C0),(1,sl A2 N2 C2),(5,sl H I J),(6,vI ((k5:Nat):Int)),(7,sl O V W),(16,vI (x1.length:Int)),(17,vI ((k5:Nat):Int)),(25,vI (xa.length:Int)),(26,vI ((kk:Nat):Int))] a/\Cg [wg.z] wl w/\c_ w G (sl O V W) xi/\G.Nodup/\(∀k∈G,k∈[wg.z]∨wl.z<=k)) (λ(xi:List Bool) a w=>∃(G:List Nat),Sat 82 [(0,sl A0 N0 C0),(1,sl A2 N2 C2),(7,sl O V W),(16,vI (x1.length:Int)),(17,vI ((k5:Nat):Int))] a/\Cg [wg.z] wl w/\c_ w G (sl O V W) xi/\G.Nodup/\(∀k∈G,k∈[wg.z]∨wl.z<=k)) (rQ prog fn<|Q11 w0 B) au ?_ ?_ ?_ ?_ ?_
  .exact λ_ q=>⟨[wg.z],kaA q,cr [wg.z] wl,b3,S_,sQ⟩
  .rintro kk xi _ wf _ a3 ⟨G,av,_,h4,he,ad⟩ aw;refine Wu ?_ av;refine Ws<|Rl z z z<|Wn<|Wq<|Wc z (λ_=>?_) (λhc=>(J_ a3 hc).elim);refine Wk<|Wq<|Wb<|Wm z<|Rw z<|Wb<|Wm z<|Rm z<|bdB aw λ_ b4 ax=>xA (α:=Str) z m_R z_9 z z z kR b4 λ_ _ _ b5 b6 _=>?_;obtain ⟨rfl,_⟩:=a_e b6;refine R z (l0 g_9 z<|b5.at0 z)<|R z (a_Q z z)<|Rw z<|bdB ax λb7 a4 ay=>Wt (λa w=>∃xq,xq=b7/\∃(Sm:List Nat),Sat 82 [(0,sl A0 N0 C0),(1,sl A2 N2 C2),(5,sl H I J),(6,vI ((k5:Nat):Int)),(7,sl O V W),(16,vI (x1.length:Int)),(17,vI ((k5:Nat):Int)),(25,vI (xa.length:Int)),(26,vI ((kk:Nat):Int))] a/\Cg G wf w/\c_ w Sm (sl O V W) xq/\Sm.Nodup/\(∀k∈Sm,k∈G∨wf.z<=k)) ?_ ?_
   .refine Wc z (λhcx=>?_)<|λhcx=>?_
    .refine bdB (ifT a4 hcx) λb8 az aA=>Wt (λa w=>∃xr,xr=b8/\∃(Sn:List Nat),Sat 82 [(0,sl A0 N0 C0),(1,sl A2 N2 C2),(5,sl H I J),(6,vI ((k5:Nat):Int)),(7,sl O V W),(16,vI (x1.length:Int)),(17,vI ((k5:Nat):Int)),(25,vI (xa.length:Int)),(26,vI ((kk:Nat):Int))] a/\Cg G wf w/\c_ w Sn (sl O V W) xr/\Sn.Nodup/\(∀k∈Sn,k∈G∨wf.z<=k)) ?_ ?_
     .refine Wg<|RM z z<|RM z z<|bdB az λb9 ba a5=>xA (α:=Bool) z b_y z_4 z z z (or_ (B:=bl wg.z) kO<|c_.lt hh) ba λ_ _ _ bb bc _=>?_;obtain rfl:=f_2 bc;refine R z (l0 g_4 z<|bb.at0 z)<|Rm z ?_;rcases bs b9 with L | L
      .iterate 3 refine Nh z L ?_
       refine Nv z<|Nv z<|Nv z<|Nv z<|Nv z<|Nh z L<|R z (pT z L z)<|bdB (ifT a5 L) λbe ae aB=>RX z (b_q (α:=Bool) b_y z_4 z z h4 ae) ?_;rintro _ ⟨_,bf,rfl⟩;refine E0 (b_g (α:=Bool) z_4 z bf z z z ae h4 he b_U an_ E_) ?_;rintro _ _ ⟨bg,_,bh,bi,_⟩;exact Wl<|λ_ q=>⟨be,som aB,bg,kaA q,kW,bh,bi,sQ⟩
      have a7:=ifF a5 L;refine Rh z L (mv z)<|Rh z L (T_ z z)<|Rh z L (mv z) ?_;rcases bs (decide<|0<((kk:Nat):Int)) with hcc | hcc
      .refine Rh z hcc (mv z)<|Rh z hcc (mv z)<|Rh z hcc (sb_ z z)<|bdB (ifT a7 hcc) λ_ bj aC=>RXg z z hcc z (at_ (α:=Bool) b_y z_4 z z z (c_.rep h4) bj) ?_;rintro _ ⟨_,_,_,rfl,bk,bm,_⟩;obtain rfl:=f_2 bm;refine Rh z hcc (l0 g_4 z<|bk.at0 z)<|Rh z L (pT z hcc z)<|R z (pF z L z)<|bdB aC λbn af aD=>RX z (b_q (α:=Bool) b_y z_4 z z h4 af) ?_;rintro _ ⟨_,bo,rfl⟩;refine E0 (b_g (α:=Bool) z_4 z bo z z z af h4 he b_U an_ E_) ?_;rintro _ _ ⟨bp,_,bq,bt,_⟩;exact Wl<|λ_ q=>⟨bn,som aD,bp,kaA q,kW,bq,bt,sQ⟩
      iterate 5 refine Nh z hcc ?_
      refine Rh z L (pF z hcc z)<|R z (pF z L z)<|bdB (ifF a7 hcc) λbu ah aE=>RX z (b_q (α:=Bool) b_y z_4 z z h4 ah) ?_;rintro _ ⟨_,bv,rfl⟩;refine E0 (b_g (α:=Bool) z_4 z bv z z z ah h4 he b_U an_ E_) ?_;rintro _ _ ⟨bw,_,bx,bz,_⟩;exact Wl<|λ_ q=>⟨bu,som aE,bw,kaA q,kW,bx,bz,sQ⟩
     rintro bA _ ⟨xr,rfl,Sn,_,_,bB,bC,_⟩;revert bA;exact λ_ q=>⟨xr,som aA,Sn,kaA q,kW,bB,bC,sQ⟩
    refine Wm z<|R z (T_ z z)<|Rw z<|bdB (ifF a4 hcx) λbD a8 aF=>Wt (λa w=>∃xs,xs=bD/\∃(So:List Nat),Sat 82 [(0,sl A0 N0 C0),(1,sl A2 N2 C2),(5,sl H I J),(6,vI ((k5:Nat):Int)),(7,sl O V W),(16,vI (x1.length:Int)),(17,vI ((k5:Nat):Int)),(25,vI (xa.length:Int)),(26,vI ((kk:Nat):Int))] a/\Cg G wf w/\c_ w So (sl O V W) xs/\So.Nodup/\(∀k∈So,k∈G∨wf.z<=k)) ?_ ?_
    .refine Wc z (λhcy=>?_)<|λhcy=>?_
     .refine bdB (ifT a8 hcy) λbE aG aH=>Wt (λa w=>∃xt,xt=bE/\∃(Sp:List Nat),Sat 82 [(0,sl A0 N0 C0),(1,sl A2 N2 C2),(5,sl H I J),(6,vI ((k5:Nat):Int)),(7,sl O V W),(16,vI (x1.length:Int)),(17,vI ((k5:Nat):Int)),(25,vI (xa.length:Int)),(26,vI ((kk:Nat):Int))] a/\Cg G wf w/\c_ w Sp (sl O V W) xt/\Sp.Nodup/\(∀k∈Sp,k∈G∨wf.z<=k)) ?_ ?_
      .refine Wg<|RM z z<|RM z z<|R z (sb_ z z)<|bdB aG λbF bG a9=>xA (α:=Bool) z b_y z_4 z z z (or_ (B:=bl wg.z) kO<|c_.lt hh) bG λ_ _ _ bH bI _=>?_;obtain rfl:=f_2 bI;refine R z (l0 g_4 z<|bH.at0 z)<|Rm z ?_;rcases bs bF with hcd | hcd
       .iterate 4 refine Rh z hcd (mv z) ?_
        refine Rh z hcd (sb_ z z)<|bdB (ifT a9 hcd) λ_ bJ aI=>RXg z z hcd z (at_ (α:=Str) z_ z_9 z z z kR bJ) ?_;rintro _ ⟨_,_,_,rfl,bK,bM,_⟩;obtain ⟨rfl,bN⟩:=a_e bM;refine Rh z hcd (l0 g_9 z<|bK.at0 z)<|bdB aI λ_ bO aJ=>Eg z z hcd z (fc call202 z<|W_w4z (B:=B) bO kM kR (ic (QAO hkv)<|lt_ (repS.len Y) u_) bN) ?_;rintro _ _ ⟨_,rfl⟩;refine R z (pT z hcd z)<|bdB aJ λbP ai aK=>RX z (b_q (α:=Bool) b_y z_4 z z kO ai) ?_;rintro _ ⟨_,bR,rfl⟩;refine E0 (b_g (α:=Bool) z_4 z bR z z z ai kO he b_U an_ E_) ?_;rintro _ _ ⟨bS,_,bT,bU,_⟩;exact Wl<|λ_ q=>⟨bP,som aK,bS,kaA q,kW,bT,bU,sQ⟩
       iterate 8 refine Nh z hcd ?_
       refine R z (pF z hcd z)<|bdB (ifF a9 hcd) λbV aj aL=>RX z (b_q (α:=Bool) b_y z_4 z z h4 aj) ?_;rintro _ ⟨_,bW,rfl⟩;refine E0 (b_g (α:=Bool) z_4 z bW z z z aj h4 he b_U an_ E_) ?_;rintro _ _ ⟨bX,_,bY,bZ,_⟩;exact Wl<|λ_ q=>⟨bV,som aL,bX,kaA q,kW,bY,bZ,sQ⟩
      rintro c0 _ ⟨xt,rfl,Sp,_,_,c1,c2,_⟩;revert c0;exact λ_ q=>⟨xt,som aH,Sp,kaA q,kW,c1,c2,sQ⟩
     exact Z_<|λ_ q=>⟨xi,som<|ifF a8 hcy,G,kaA q,cr G wf,h4,he,sQ⟩
    rintro c4 _ ⟨xs,rfl,So,_,_,c5,c6,_⟩;revert c4;exact λ_ q=>⟨xs,som aF,So,kaA q,kW,c5,c6,sQ⟩
   rintro c7 _ ⟨xq,rfl,Sm,_,_,c9,ca,_⟩;revert c7;exact Wo<|Wg<|R z (inc_ a3 (lt_ (c_.len hh) u_) z z)<|Rm z<|Wl (λ_ q=>⟨xq,(som ay).symm,⟨Sm,kaA q,kW,c9,ca,sQ⟩⟩)
  .rintro xi _ _ ⟨G,aM,_,h4,he,ad⟩;refine Wu ?_ aM;refine Ws<|Rl z z z<|Wn<|Wq<|Wc z (λhc=>(K_ hc).elim) (λ_=>?_);exact We<|λ_ q=>⟨rfl,⟨G,kaA q,kW,h4,he,sQ⟩⟩
  .rintro xi cb _ rfl ⟨G,_,_,h4,he,ad⟩;have aN:=elL a2;revert cb;exact Wo<|Wg<|Rm z<|Rw z<|Wg<|R z (inc_ hkv (lt_ (repS.len Y) u_) z z)<|Rm z<|Wl (λ_ q=>⟨xi,(som aN).symm,⟨O,V,W,G,kaA q,kW,h4,he,sQ⟩⟩)
  rintro _ _ _ _ rfl ⟨rfl,aO⟩;have aP:=elR a2;exact ⟨g_n<|h_3 (som aP).symm ⟨rfl,aO⟩,z⟩
 .rintro xa _ _ ⟨H,I,J,Sb,aQ,cc,hh,hw,ab⟩;refine Wu ?_ aQ;refine Ws<|Rl z z z<|Wn<|Wq<|Wc z (λhc=>(K_ hc).elim) (λ_=>?_);exact We<|λ_ q=>⟨rfl,⟨H,I,J,Sb,kaA q,cc,hh,hw,sQ⟩⟩
 .rintro xa cd _ rfl ⟨H,I,J,Sb,_,_,hh,hw,ab⟩;have aR:=elL a0;revert cd;refine Wo<|Wm z<|Rm z<|R z (lnR z_ z kR)<|bdB aR λ_ ce aS=>xA (α:=Bool) z b_y z_4 z z z (c_.rep hh) ce λ_ _ _ cf cg _=>?_;obtain rfl:=f_2 cg;exact R z (l0 g_4 z<|cf.at0 z)<|Rw z<|Wr<|rS1 aS hr z ⟨kW,z⟩
 exact lqA a0 λ_ _ h=>h.2
theorem W_w51 {x1:List Str}{x2:List Str}{res:Bool}(hm:k_z x1 x2=some res)(I:B<=w0.z)(G:rp w0 B A0 N0 C0 x1)(H:rp w0 B A2 N2 C2 x2):g_ prog 107 [sl A0 N0 C0,sl A2 N2 C2] w0 (Q11 w0 B res):=by
 unfold k_z at hm;exact goG func107 z z z λfn hr=>Ws<|Rw z<|Wm z<|Rm z<|bdB hm λ_ L J=>EcA z (fc call172 z<|W_w50 (B:=B) L I G H) λ_ s2=>Rw z<|Wr<|rS1 J hr z ⟨s2,z⟩
theorem W_w52 {x1:Str}{x2:Str}{res:Bool}(hm:k_A n x1 x2=some res)(W:B<=w0.z)(O:x1.b.length<=LEN)(V:x2.b.length<=LEN):g_ prog 71 [Str.v x1,Str.v x2] w0 (Q11 w0 B res):=by
 unfold k_A at hm;refine goG func71 z z z λfn hr=>Ws<|Rw z<|Wm z ?_;obtain ⟨_,r6,e7,Y⟩:=V_ hm;refine E z (fc call105 z<|W_w4w (B:=B) e7 W O) ?_;rintro _ _ ⟨_,_,_,_,_,rfl,h9,_,_⟩;refine Rm z<|Re z z z<|Re z z z<|Ra z<|Rw z<|Wm z ?_;obtain ⟨_,ra,eb,hmc⟩:=V_ Y;refine E z (fc call106 z<|W_w4y (B:=B) eb kM V) ?_;rintro _ I ⟨_,_,_,_,_,rfl,hd,_,_⟩;refine Rm z<|Re z z z<|Re z z z<|Ra z<|Rw z<|Wq<|bdB hmc λue J hmf=>Wt (λa w=>∃x3,x3=ue/\Sat 28 [(4,vB x3)] a/\Below I.z I w) ?_ ?_
 .refine Wg<|RM z z ?_;rcases bs r6 with H | H
  .have L:=ifT J H;refine Rh z H (mv z)<|R z (pT z H z)<|Rm z ?_;rcases bs ra with G | G
   .refine Rh z G (mv z)<|Rh z G (mv z)<|bdB (ifT L G) λrg eh hmi=>Eg z z G z (fc call107 z<|W_w51 (B:=I.z) eh zr (repS.mono (or_ kO<|c_.lt h9)<|O_ kM)<|c_.rep hd) ?_;rintro _ _ ⟨sj,rfl⟩;exact R z (pT z G z)<|Ra z<|Wl (λ_ q=>⟨rg,som hmi,kaA q,sj⟩)
   iterate 3 refine Nh z G ?_
   exact R z (pF z G z)<|Ra z<|Wl (λ_ q=>⟨false,som<|ifF L G,kaA q,br I⟩)
  exact Nh z H<|R z (pF z H z)<|Rm z<|Nh z z<|Nh z z<|Nh z z<|R z (pF z z z)<|Ra z<|Wl (λ_ q=>⟨false,som<|ifF J H,kaA q,br I⟩)
 rintro ak _ ⟨x3,rfl,_,_⟩;revert ak;exact Wo<|Wr<|rS1 hmf hr z ⟨kW,z⟩
theorem W_w53 {x1:j_}{x2:Str}{b2 o2:Nat}{res:Bool}(hm:m_v n x1 x2=some res)(Y:B<=w0.z)(G:x1.path.b.length<=LEN)(O:inI x1.rule)(V:inI x1.start)(W:inI x1.end_)(H:x2.b.length<=LEN)(hC2:r_ w0 b2 o2 [Str.v x2])(hC2b:B b2):g_ prog 70 [(.agg #[Str.v x1.path,vI x1.rule,vI x1.start,vI x1.end_]),(pq b2 o2)] w0 (Q11 w0 B res):=by
 unfold m_v at hm;exact goG func70 z z z λfn hr=>Ws<|EvX [Str.v x1.path,vI x1.rule,vI x1.start,vI x1.end_] z z z λw1 _ I=>Rw z<|Ws<|R z (l0 g_9 z kC0)<|Rf z l_4 z<|R z (l0 g_9 z<|I.at z)<|bdB hm λ_ L J=>EcA z (fc call71 z<|W_w52 (B:=B) L kM H G) λ_ _=>Rw z<|Wr<|rS1 J hr z ⟨kW,z⟩
theorem W_w54 {x1:List j_}{Y:Str}{I O:Nat}{res:(List j_)}(hm:m_w n x1 Y=some res)(aD:B<=w0.z)(a5:rp w0 B A0 N0 C0 x1)(p2c0_0:Y.b.length<=LEN)(aC:r_ w0 I O [Str.v Y])(W:B I):g_ prog 69 [sl A0 N0 C0,(.func (.func 70) #[] #[(pq I O)])] w0 (Q25 w0 B res):=by
 unfold m_w at hm;refine goG func69 z z z λfn hr=>Ws<|Rw z<|Ws<|E z (f0 (α:=j_) d_t) ?_;rintro _ J ⟨ar,ns,ct,rfl,_,hu⟩;refine Rw z<|Wq<|Wm z<|R z (lnR d_b z kR)<|Rm z<|Wn<|bdB hm λ_ huv hmm=>Wf (σ:=List j_) (ρ:=List j_) (λ(kf:Nat)(x5:List j_) a w=>∃a2 G H S1,Sat 24 [(1,.func (.func 70) #[] #[(.pointer<|some ⟨I,O,none⟩)]),(5,sl a2 G H),(9,sl A0 N0 C0),(10,vI (x1.length:Int)),(11,vI ((kf:Nat):Int))] a/\Cg [w0.z] J w/\c_ w S1 (sl a2 G H) x5/\S1.Nodup/\(∀k∈S1,k∈[w0.z]∨J.z<=k)) (λ(x5:List j_) a w=>∃a2 G H S1,Sat 24 [(5,sl a2 G H)] a/\Cg [w0.z] J w/\c_ w S1 (sl a2 G H) x5/\S1.Nodup/\(∀k∈S1,k∈[w0.z]∨J.z<=k)) (rQ prog fn<|Q25 w0 B) huv ?_ ?_ ?_ ?_ ?_
 .exact λ_ q=>⟨ar,ns,ct,[w0.z],kaA q,cr [w0.z] J,hu,S_,sQ⟩
 .rintro kf x5 _ _ _ hkn ⟨a2,G,H,S1,hSx,sy,V,h6,ho⟩ hmz;refine Wu ?_ hSx;refine Ws<|Rl z z z<|Wn<|Wq<|Wc z (λ_=>?_) (λhc=>(J_ hkn hc).elim);refine Wk<|Wq<|Wb<|Ws<|bdB hmz λx0 af a6=>xA (α:=j_) z d_b b_x z z z kR af λ_ _ _ ah ai _=>?_;obtain ⟨rfl,hg,hh,hi,hj⟩:=h_T ai;refine R z (lN (vs:=[Str.v x0.path,vI x0.rule,vI x0.start,vI x0.end_]) f_v b_x z z fid ah)<|EvZ [(Str.v (⟨[]⟩:Str)),vI 0,vI 0,vI 0] z l_5 z λaE a0 a1=>E0q [Str.v x0.path,vI x0.rule,vI x0.start,vI x0.end_] b_x z z a1 z λaF aG a3=>Wn<|Wm z<|R z (lC [Str.v x0.path,vI x0.rule,vI x0.start,vI x0.end_] f_v b_x z)<|bdB a6 λ_ aj a7=>E z (d_y call70 z z<|W_w53 (B:=B) aj kM hg hh hi hj p2c0_0 (((r_.chg kC sy<|sQB W).e a0).c a3<|sQB W) W) ?_;rintro _ wa ⟨_,rfl⟩;refine Wn<|bdB a7 λak huq a8=>Wt (λa w=>∃xb,xb=ak/\∃ac nd ce L,Sat 24 [(1,.func (.func 70) #[] #[(.pointer<|some ⟨I,O,none⟩)]),(5,sl ac nd ce),(9,sl A0 N0 C0),(10,vI (x1.length:Int)),(11,vI ((kf:Nat):Int))] a/\Cg S1 wa w/\c_ w L (sl ac nd ce) xb/\L.Nodup/\(∀k∈L,k∈S1∨wa.z<=k)) ?_ ?_
  .refine Wc z (λhck=>?_)<|λhck=>?_
   .refine Wg<|Rm z<|R z (lC [Str.v x0.path,vI x0.rule,vI x0.start,vI x0.end_] f_v b_x z)<|E z (fS [(.tmp 19)] d_t z z z (a_i z) (lb z)<|lb z) ?_;rintro _ al ⟨rfl,hl⟩;have:=hl.below;have a4:Blk al wa.z [Str.v x0.path,vI x0.rule,vI x0.start,vI x0.end_]:=hl.blk;have:=b_d hl<|f_H (x:=x0) hg hh hi hj;refine bdB (ifT huq hck) λam an a9=>E z (a_W (α:=j_) d_t an z z kO h6 a4 (f_H (x:=x0) hg hh hi hj) an_ E_) ?_;rintro _ _ ⟨ap,aq,au,av,rfl,_,aw,ax,_⟩;exact Ra z<|Wl (λ_ q=>⟨am,som a9,aq,au,av,ap,kaA q,kW,aw,ax,sQ⟩)
   exact Z_<|λ_ q=>⟨x5,som<|ifF huq hck,a2,G,H,S1,kaA q,cr S1 wa,kO,h6,sQ⟩
  rintro ay _ ⟨xb,rfl,ac,nd,ce,L,_,_,az,aA,_⟩;revert ay;exact Wo<|Wg<|R z (inc_ hkn (lt_ (repS.len a5) u_) z z)<|Rm z<|Wl (λ_ q=>⟨xb,(som a8).symm,⟨ac,nd,ce,L,kaA q,kW,az,aA,sQ⟩⟩)
 .rintro x5 _ _ ⟨a2,G,H,S1,aa,_,V,h6,ho⟩;refine Wu ?_ aa;refine Ws<|Rl z z z<|Wn<|Wq<|Wc z (λhc=>(K_ hc).elim) (λ_=>?_);exact We<|λ_ q=>⟨rfl,⟨a2,G,H,S1,kaA q,kW,V,h6,sQ⟩⟩
 .rintro x5 aB _ rfl ⟨a2,G,H,S1,_,_,V,h6,ho⟩;have ab:=elL hmm;revert aB;exact Wo<|Wm z<|Rw z<|Wr<|rS1 ab hr z ⟨kW,a2,G,H,S1,z,V,h6,sQ⟩
 exact lqA hmm λ_ _ h=>h.2
theorem W_w55 {x1:d_}{x2:Bt}{x3:Str}{res:(List j_)}(hm:k_B n x1 x2 x3=some res)(a1:B<=w0.z)(hG:Gl w0 B)(Y:rp w0 B A0 N0 C0 x1.rules)(a0:rp w0 B A2 N2 C2 x2)(J:x3.b.length<=LEN):g_ prog 43 [(.agg #[sl A0 N0 C0]),sl A2 N2 C2,Str.v x3] w0 (Q25 w0 B res):=by
 unfold k_B at hm;refine goG func43 z z z λfn hr=>Ws<|EvX [sl A0 N0 C0] z z z λw1 _ _=>EvX [Str.v x3] z z z λw6 _ L=>Rw z<|Ws<|R z (lC [sl A0 N0 C0] s_ n_ z)<|Rm z ?_;obtain ⟨_,_,O,H⟩:=V_ hm;refine E z (fc call68 z<|W_w4t (B:=B) O kM kG kR kR) ?_;rintro _ I ⟨_,_,_,_,_,rfl,V,_,_⟩;refine Rm z<|Re z z z<|Re z z z<|Ra z<|Rw z<|Wq<|Wm z<|R z (not_ z)<|Wx z (λG=>?_) (λG=>?_)
 .refine Ws<|E z (f0 (α:=j_) d_t) ?_;rintro _ _ ⟨W,na,cb,rfl,_,hc⟩;exact Rw z<|Wr<|rS1 (ifT H G) hr z ⟨kW,W,na,cb,[I.z],z,hc,S_,sQ⟩
 refine Wk<|Wm z<|R z (h_W z)<|bdB (ifF H G) λ_ ed hme=>E z (fc call69 z<|W_w54 (B:=I.z) ed zr (c_.rep V) J (kBr 0 1)<|zap' (O_ kM) L.lt) ?_;rintro _ _ ⟨_,af,ng,ch,Si,rfl,hj,hk,_⟩;exact Rw z<|Wr<|rS1 hme hr z ⟨kW,af,ng,ch,Si,z,hj,hk,sQ⟩
theorem W_w56 {x1:d_}{x2:Int}{x3:Val}{b3 o3:Nat}{res:Bool}(hm:l_g x1 x2 x3=some res)(cv:B<=w0.z)(cr:rp w0 B A0 N0 C0 x1.rules)(aA:inI x2)(aB:inI x3.number)(ct:rp w0 B A8 N8 C8 x3.bytes)(cu:rp w0 B A9 N9 C9 x3.items)(hC3:r_ w0 b3 o3 [vI x3.number,sl A8 N8 C8,sl A9 N9 C9])(hC3b:B b3):g_ prog 179 [(.agg #[sl A0 N0 C0]),vI x2,(pq b3 o3)] w0 (Q11 w0 B res):=by
 unfold l_g at hm;refine goG func179 z z z λfn hr=>Ws<|EvX [sl A0 N0 C0] z z z λG _ aC=>Rw z<|Ws<|Rf z a_l z<|R z (l0 a_p z<|aC.at z)<|Rm z<|bdB hm λx9 b0 aD=>xA (α:=f_) z Y_ l_ z z z kR b0 λW H _ aw b1 _=>?_;obtain ⟨_,_,_,_,_,_,_,_,_,_,_,_,rfl,_,_,b2,_,_,_,ax⟩:=a_T b1;refine Rw z<|Ws<|RA z z<|Rw z<|Wq<|Wm z<|R z (L_ z)<|Rf z a_r z<|R z (l0 g_3 z<|aw.at (j:=1) z)<|Wn<|Wb<|Ws<|Rq z z z<|Rw z<|bdB aD λb4 a9 aa=>?_;refine Wt (λa w=>∃(xb:Int)(xa:Int)(Y:Int),Sum.inl (xb,xa,Y)=b4/\Sat 136 [(2,.pointer<|some ⟨b3,o3,none⟩),(7,.pointer<|some ⟨W,H,none⟩),(8,vI xb),(9,vI xa),(10,vI Y)] a/\Below G.z G w/\inI xb/\inI xa/\inI Y) ?_ ?_
 .refine Wc z (λhcu=>?_)<|λhcu=>?_
  .refine Wg<|R z (lC [sl A0 N0 C0] s_ n_ z)<|Rm z<|bdB (ifT a9 hcu) λb5 b6 aE=>E z (fc call203 z<|h_O (B:=B) b6 kM kR aA) ?_;rintro _ _ ⟨b8,rfl,b9⟩;exact Ra z<|Wl (λ_ q=>⟨b5,0,0,som aE,kaA q,b8,b9,ii z,ii z⟩)
  refine Ws<|Rq z z z<|Rw z<|bdB (ifF a9 hcu) λba ab ad=>Wt (λa w=>∃(xc:Int)(xd:Int)(xe:Int),Sum.inl (xc,xd,xe)=ba/\Sat 136 [(2,.pointer<|some ⟨b3,o3,none⟩),(7,.pointer<|some ⟨W,H,none⟩),(8,vI xc),(9,vI xd),(10,vI xe)] a/\Below G.z G w/\inI xc/\inI xd/\inI xe) ?_ ?_
  .refine Wc z (λhcv=>?_)<|λhcv=>?_
   .have ae:=ifT ab hcv;refine Wq<|Wq (Wd (X:=noX) 0 (pl_ 10 []) mo (by kernel_rfl) λcw bb _=>dM z z z<|dR z z (L_ z)<|dR z z (fd d_a z)<|dR z z (l0 B_ z<|kCa (o:=o3) (j:=1))<|dR z z (lnR h_ z kR)<|dM z z z<|dR z z (L_ z)<|dR z z (fd a_V z)<|dR z z (l0 g_3 z<|kCa (o:=H) (j:=2))<|dR z z (nq z z)<|pD<|Wo<|Wc z (λhcw=>?_) (λhcw=>?_))
    .refine Ws<|Rw z ?_;obtain rfl:=som<|ifT ae hcw;have aF:=elR ad;obtain rfl:=som aF;have aG:=elR aa;exact Wr<|rtO<|rS1 aG hr z ⟨kW,z⟩
    exact Wk<|Wg<|Rm z<|R z (L_ z)<|Rf z a_V z<|R z (l0 g_3 z<|kCa (o:=H) (j:=2))<|Ra z<|Wl (λ_ q=>⟨0,x9.size,0,som<|ifF ae hcw,kaA q,bb,ii z,b2,ii z⟩)
   refine Ws<|Rq z z z<|Rw z<|bdB (ifF ab hcv) λbc af aH=>Wt (λa w=>∃xf xg xh,(xf,xg,xh)=bc/\Sat 136 [(2,.pointer<|some ⟨b3,o3,none⟩),(7,.pointer<|some ⟨W,H,none⟩),(8,vI xf),(9,vI xg),(10,vI xh)] a/\Below G.z G w/\inI xf/\inI xg/\inI xh) ?_ ?_
   .refine Wc z (λhcx=>?_)<|λhcx=>?_
    .refine Wd (X:=noX) 0 (pl_ 10 [7,8]) mo (by kernel_rfl) λcx cy _=>dR z z (lC [sl A0 N0 C0] s_ n_ z)<|dM z z z<|dR z z (L_ z)<|dR z z (fd Q_ z)<|dR z z (l0 A_ z<|kCa (o:=H) (j:=7))<|bdB (ifT af hcx) λ_ be aI=>dxA (α:=Int) z z v_ z_3 z z z kR be λ_ _ _ bf bg _=>?_;obtain ⟨rfl,bh⟩:=a_z bg;refine dR z z (l0 g_3 z<|bf.at0 z)<|bdB aI λ_ bi aJ=>dE z z (fc call203 z<|h_O (B:=B) bi kM kR bh) iB ?_;rintro _ _ ⟨_,rfl,bj⟩;refine bdB aJ λbk bm aK=>dE z z (fc call204 z<|p_7 (B:=B) bm kM (ii z) bj) iB ?_;rintro _ _ ⟨_,rfl,bn⟩;exact dQ z z z<|pD (λ_ q=>⟨0,bk,0,som aK,kaA q,kW,ii z,bn,ii z⟩)
    refine Ws<|Rq z z z<|Rw z<|bdB (ifF af hcx) λbo ah aL=>Wt (λa w=>∃xi xj xk,(xi,xj,xk)=bo/\Sat 136 [(2,.pointer<|some ⟨b3,o3,none⟩),(7,.pointer<|some ⟨W,H,none⟩),(8,vI xi),(9,vI xj),(10,vI xk)] a/\Below G.z G w/\inI xi/\inI xj/\inI xk) ?_ ?_
    .refine Wc z (λhcy=>?_)<|λhcy=>?_
     .exact Wg<|Ra z<|Wl (λ_ q=>⟨0,400,0,som<|ifT ah hcy,kaA q,br G,ii z,ii z,ii z⟩)
     refine Ws<|Rq z z z<|Rw z<|bdB (ifF ah hcy) λbp ai aM=>Wt (λa w=>∃xl xm,(xl,xm)=bp/\Sat 136 [(2,.pointer<|some ⟨b3,o3,none⟩),(7,.pointer<|some ⟨W,H,none⟩),(8,vI xl),(9,vI 0),(10,vI xm)] a/\Below G.z G w/\inI xl/\inI xm) ?_ ?_
     .refine Wc z (λhcz=>?_)<|λhcz=>?_
      .refine Wd (X:=noX) 0 (pl_ 10 [7,8]) mo (by kernel_rfl) λcz cA _=>dR z z (lC [sl A0 N0 C0] s_ n_ z)<|dM z z z<|dR z z (L_ z)<|dR z z (fd Q_ z)<|dR z z (l0 A_ z<|kCa (o:=H) (j:=7))<|bdB (ifT ai hcz) λ_ bq aN=>dxA (α:=Int) z z v_ z_3 z z z kR bq λ_ _ _ bt bu _=>?_;obtain ⟨rfl,bv⟩:=a_z bu;refine dR z z (l0 g_3 z<|bt.at0 z)<|bdB aN λ_ bw aO=>dE z z (fc call203 z<|h_O (B:=B) bw kM kR bv) iB ?_;rintro _ _ ⟨_,rfl,bx⟩;refine bdB aO λbz bA aP=>dE z z (fc call204 z<|p_7 (B:=B) bA kM (ii z) bx) iB ?_;rintro _ _ ⟨_,rfl,bB⟩;exact dQ z z z<|pD (λ_ q=>⟨0,bz,som aP,kaA q,kW,ii z,bB⟩)
      refine Ws<|Rq z z z<|Rw z<|bdB (ifF ai hcz) λbC aj aQ=>Wt (λa w=>∃xn xo,(xn,xo)=bC/\Sat 136 [(2,.pointer<|some ⟨b3,o3,none⟩),(7,.pointer<|some ⟨W,H,none⟩),(8,vI xn),(9,vI 0),(10,vI xo)] a/\Below G.z G w/\inI xn/\inI xo) ?_ ?_
      .refine Wc z (λa0=>?_)<|λa0=>?_
       .exact Wg<|Rm z<|R z (L_ z)<|Rf z Q_ z<|R z (l0 A_ z<|aw.at (j:=7) z)<|R z (lnR v_ z ax)<|Ra z<|Wl (λ_ q=>⟨0,(x9.kids.length:Int),som<|ifT aj a0,kaA q,br G,ii z,c_3<|repS.len ax⟩)
       refine Ws<|Rq z z z<|Rw z<|bdB (ifF aj a0) λbD ak aR=>Wt (λa w=>∃xp xq,(xp,xq)=bD/\Sat 136 [(2,.pointer<|some ⟨b3,o3,none⟩),(7,.pointer<|some ⟨W,H,none⟩),(8,vI xp),(9,vI 0),(10,vI xq)] a/\Below G.z G w/\inI xp/\inI xq) ?_ ?_
       .refine Wc z (λa1=>?_)<|λa1=>?_
        .refine Wd (X:=noX) 0 (pl_ 10 [7]) mo (by kernel_rfl) λcB cC _=>dR z z (lC [sl A0 N0 C0] s_ n_ z)<|dM z z z<|dR z z (L_ z)<|dR z z (fd Q_ z)<|dR z z (l0 A_ z<|kCa (o:=H) (j:=7))<|bdB (ifT ak a1) λ_ bE aS=>dxA (α:=Int) z z v_ z_3 z z z kR bE λ_ _ _ bF bG _=>?_;obtain ⟨rfl,bH⟩:=a_z bG;refine dR z z (l0 g_3 z<|bF.at0 z)<|bdB aS λbI bJ aT=>dE z z (fc call203 z<|h_O (B:=B) bJ kM kR bH) iB ?_;rintro _ _ ⟨_,rfl,bK⟩;exact dQ z z z<|dQ z z z<|pD (λ_ q=>⟨bI,1,som aT,kaA q,kW,bK,ii z⟩)
        refine Wq<|Ws<|Rq z z z<|Rw z<|bdB (ifF ak a1) λbM al aU=>Wt (λa w=>∃a5,a5=bM/\Sat 136 [(2,.pointer<|some ⟨b3,o3,none⟩),(7,.pointer<|some ⟨W,H,none⟩),(8,vI 0),(9,vI 0),(10,vI 0),(81,vB a5)] a/\Below G.z G w) ?_ ?_
        .refine Wc z (λa2=>?_)<|λa2=>?_
         .exact Z_<|λ_ q=>⟨x9.kind==8,som<|ifT al a2,kaA q,br G⟩
         exact Wg<|Rq z z z<|Ra z<|Wl (λ_ q=>⟨x9.kind==9,som<|ifF al a2,kaA q,br G⟩)
        rintro bN wt ⟨a5,rfl,_,_⟩;revert bN;refine Wo<|bdB aU λbO am aV=>Wt (λa w=>∃xr,xr=bO/\Sat 136 [(2,.pointer<|some ⟨b3,o3,none⟩),(7,.pointer<|some ⟨W,H,none⟩),(8,vI 0),(9,vI 0),(10,vI xr)] a/\Below wt.z wt w/\inI xr) ?_ ?_
        .refine Wc z (λa3=>?_)<|λa3=>?_
         .exact Wg<|Ra z<|Wl (λ_ q=>⟨1,som<|ifT am a3,kaA q,br wt,ii z⟩)
         exact Z_<|λ_ q=>⟨0,som<|ifF am a3,kaA q,br wt,ii z⟩
        rintro bP _ ⟨xr,rfl,_,_,bR⟩;revert bP;exact λ_ q=>⟨0,xr,som aV,kaA q,kW,ii z,bR⟩
       rintro bS _ ⟨xp,xq,rfl,_,bT,bU,bV⟩;revert bS;exact λ_ q=>⟨xp,xq,som<|a_0 aR,kaA q,bT,bU,bV⟩
      rintro bW _ ⟨xn,xo,rfl,_,bX,bY,bZ⟩;revert bW;exact λ_ q=>⟨xn,xo,som<|a_0 aQ,kaA q,bX,bY,bZ⟩
     rintro c0 _ ⟨xl,xm,rfl,_,c1,c2,c3⟩;revert c0;exact λ_ q=>⟨xl,0,xm,som<|a_0 aM,kaA q,c1,c2,ii z,c3⟩
    rintro c4 _ ⟨xi,xj,xk,rfl,_,c5,c6,c7,c8⟩;revert c4;exact λ_ q=>⟨xi,xj,xk,som<|c_4 aL,kaA q,c5,c6,c7,c8⟩
   rintro c9 _ ⟨xf,xg,xh,rfl,_,ca,cb,cc,cd⟩;revert c9;exact λ_ q=>⟨xf,xg,xh,som<|c_4 aH,kaA q,ca,cb,cc,cd⟩
  rintro ce _ ⟨xc,xd,xe,rfl,_,cf,cg,ch,ci⟩;have aW:=elL ad;revert ce;exact λ_ q=>⟨xc,xd,xe,som<|c_4 aW,kaA q,cf,cg,ch,ci⟩
 rintro cj ws ⟨xb,xa,Y,rfl,_,_,ck,_,_⟩;have aX:=elL aa;revert cj;refine Wo<|Wq<|Wq<|bdB (c_4 aX) λcl an ap=>Wt (λa w=>∃a6,a6=cl/\Sat 136 [(2,.pointer<|some ⟨b3,o3,none⟩),(8,vI xb),(9,vI xa),(10,vI Y),(111,vB a6)] a/\Below ws.z ws w) ?_ ?_
 .refine Wg<|Rm z<|R z (L_ z)<|Rf z a_r z<|R z (l0 g_3 z<|kCa (o:=H) (j:=1))<|Rq z z z<|Rm z ?_;rcases bs (x9.kind==6) with O | O
  .iterate 5 refine Nh z O ?_
   exact R z (pT z O z)<|Rm z<|Nh z z<|Nh z z<|Nh z z<|Nh z z<|Nh z z<|R z (pT z z z)<|Rm z<|Rh z z (mv z)<|Rh z z (L_ z)<|Rh z z (fd a_O z)<|Rh z z (l0 a_S z<|kCa (o:=o3) (j:=2))<|Rh z z (lnR b_0 z kR)<|Rh z z (mv z)<|Rh z z (nq z z)<|R z (pT z z z)<|Wl (λ_ q=>⟨(x3.items.length:Int) != Y,som<|ifT an O,kaA q,br ws⟩)
  refine Rh z O (mv z)<|Rh z O (L_ z)<|Rh z O (fd a_r z)<|Rh z O (l0 g_3 z<|kCa (o:=H) (j:=1))<|Rh z O (eql z z)<|R z (pF z O z)<|Rm z<|bdB (ifF an O) λay aq ar=>e_q 102 ay 6 ?_ ?_
  .rcases bs (x9.kind==7) with V | V
   .iterate 5 refine Nh z V ?_
    exact R z (pT z V z)<|WLq 6 (ifT aq V) z z z
   exact Rh z V (mv z)<|Rh z V (L_ z)<|Rh z V (fd a_r z)<|Rh z V (l0 g_3 z<|kCa (o:=H) (j:=1))<|Rh z V (eql z z)<|R z (pF z V z)<|WLq 6 (ifF aq V) z z z
  refine Rm z ?_;rcases bs ay with I | I
  .exact Rh z I (mv z)<|Rh z I (L_ z)<|Rh z I (fd a_O z)<|Rh z I (l0 a_S z<|kCa (o:=o3) (j:=2))<|Rh z I (lnR b_0 z kR)<|Rh z I (mv z)<|Rh z I (nq z z)<|R z (pT z I z)<|Wl (λ_ q=>⟨(x3.items.length:Int) != Y,som<|ifT ar I,kaA q,br ws⟩)
  iterate 7 refine Nh z I ?_
  exact R z (pF z I z)<|Wl (λ_ q=>⟨false,som<|ifF ar I,kaA q,br ws⟩)
 rintro cm az ⟨a6,rfl,_,_⟩;revert cm;refine Wo<|Wc z (λa4=>?_) (λa4=>?_)
 .exact Ws<|Rw z<|Wr<|rS1 (ifT ap a4) hr z ⟨kW,z⟩
 refine Wk<|Wq<|bdB (ifF ap a4) λcn aY aZ=>Wt (λa w=>∃a7,a7=cn/\Sat 136 [(6,vB a7)] a/\Below az.z az w) ?_ ?_
 .refine Wg<|Rm z<|R z (L_ z)<|Rf z c_0 z<|R z (l0 g_3 z<|kCa (o:=o3) (j:=0))<|Rm z<|bdB aY λco cp au=>EcA z (fc call161 z<|e_n (B:=B) cp kM aB (ii z) ck) λ_ a8=>Rm z ?_;rcases bs co with J | J
  .have av:=ifT au J;refine Rh z J (mv z)<|Rh z J (L_ z)<|Rh z J (fd d_a z)<|Rh z J (l0 B_ z<|kCa (o:=o3) (j:=1))<|Rh z J (lnR h_ z kR)<|Rh z J (mv z)<|Rh z J (c_5 z z)<|R z (pT z J z)<|Rm z ?_;rcases bs (decide<|(x3.bytes.length:Int)<=xa) with L | L
   .exact Rh z L (mv z)<|Rh z L (L_ z)<|Rh z L (fd a_O z)<|Rh z L (l0 a_S z<|kCa (o:=o3) (j:=2))<|Rh z L (lnR b_0 z kR)<|Rh z L (mv z)<|Rh z L (c_5 z z)<|R z (pT z L z)<|Ra z<|Wl (λ_ q=>⟨decide<|(x3.items.length:Int)<=Y,som<|ifT av L,kaA q,a8⟩)
   iterate 7 refine Nh z L ?_
   exact R z (pF z L z)<|Ra z<|Wl (λ_ q=>⟨false,som<|ifF av L,kaA q,a8⟩)
  iterate 7 refine Nh z J ?_
  exact R z (pF z J z)<|Rm z<|Nh z z<|Nh z z<|Nh z z<|Nh z z<|Nh z z<|Nh z z<|Nh z z<|R z (pF z z z)<|Ra z<|Wl (λ_ q=>⟨false,som<|ifF au J,kaA q,a8⟩)
 rintro cq _ ⟨a7,rfl,_,_⟩;revert cq;exact Wo<|Wr<|rS1 aZ hr z ⟨kW,z⟩
structure p_o (f:d_->Int->Val->Option Bool):Prop where
  run:∀{A0 A8 A9:Option Addr}{N0 C0 N8 C8 N9 C9 b3 o3:Nat}{B:Zone}{x1:d_}{x2:Int}{x3:Val}{res:Bool}{w0:World}(hm:f x1 x2 x3=some res)(hBw:B<=w0.z)(p1_0:rp w0 B A0 N0 C0 x1.rules)(p2_0:inI x2)(p3_0:inI x3.number)(p3_1:rp w0 B A8 N8 C8 x3.bytes)(p3_2:rp w0 B A9 N9 C9 x3.items)(hC3:r_ w0 b3 o3 [vI x3.number,sl A8 N8 C8,sl A9 N9 C9])(hC3b:B b3),g_ prog 123 [(.agg #[sl A0 N0 C0]),vI x2,(pq b3 o3)] w0<|Q11 w0 B res
abbrev t_N (n:Nat):Prop:=p_o (h_R n).impl_validValue
theorem T_w0f (a5:t_N n):p_o (l_h n<|h_R n):=by
 constructor;intro A0 A8 A9 N0 C0 N8 C8 N9 C9 b3 o3 B x1 x2 x3 res w0 hm ab a8 O V a9 W hC3 hC3b;unfold l_h at hm;refine goG func123 z z z λfn hr=>Ws<|EvX [sl A0 N0 C0] z z z λwd _ aa=>Rw z<|Wq<|Ws<|R z (lC [sl A0 N0 C0] s_ n_ z)<|RM z z<|bdB hm λ_ ee Y=>EcA z (fc call179 z<|W_w56 (B:=B) ee kM kR O V kR kR kC hC3b) λH _=>R z (not_ z)<|Wx z (λI=>?_) (λI=>?_)
 .exact Ws<|Rw z<|Wr<|rS1 (ifT Y I) hr z ⟨kW,z⟩
 refine Wk<|Wq<|Wm z<|R z (L_ z)<|Rf z a_O z<|R z (l0 a_S z<|kCa (o:=o3) (j:=2))<|R z (lnR b_0 z kR)<|Rm z<|Wn<|bdB (ifF Y I) λ_ huf a0=>Wf (σ:=Unit) (ρ:=Bool) (λ(k3:Nat)(_:Unit) a w=>Sat 42 [(1,vI x2),(2,.pointer<|some ⟨b3,o3,none⟩),(3,pt w0.z),(18,vI (x3.items.length:Int)),(19,vI ((k3:Nat):Int))] a/\Below H.z H w) (λ(_:Unit) a w=>Sat 42 [] a/\Below H.z H w) (rQ prog fn<|Q11 w0 B) huf ?_ ?_ ?_ ?_ ?_
 .exact λ_ q=>⟨kaA q,br H⟩
 .rintro k3 _ _ _ _ J ⟨hSg,_⟩ hmh;refine Wu ?_ hSg;refine Ws<|Rl z z z<|Wn<|Wq<|Wc z (λ_=>?_) (λhc=>(J_ J hc).elim);refine Wk<|Wq<|Wb<|Wm z<|Rw z<|Ws<|R z (lC [sl A0 N0 C0] s_ n_ z)<|RM z z<|Rm z<|bdB hmh λri ej hmk=>E z (fc call125 z<|p_m (B:=B) ej kM kR O V kR kR kC hC3b<|ic (QAO J)<|lt_ (repS.len W) u_) ?_;rintro _ wa ⟨_,rfl,hl⟩;refine Rw z<|Wq<|bdB hmk λum hub hmc=>Wt (λa w=>∃x5,x5=um/\Sat 42 [(1,vI x2),(2,.pointer<|some ⟨b3,o3,none⟩),(3,pt w0.z),(18,vI (x3.items.length:Int)),(19,vI ((k3:Nat):Int)),(40,vB x5)] a/\Below wa.z wa w) ?_ ?_
  .refine Wd (X:=noX) 0 (pl_ 14 [11]) mo (by kernel_rfl) λad so _=>dM z z z<|dR z z (lss z z)<|dM z z z ?_;rcases bs (decide<|ri<0) with G | G
   .iterate 8 refine dRn z z z G z ?_
    exact dEn z z z G z<|dRn z z z G z<|dR z z (pT z G z)<|pD (λ_ q=>⟨true,som<|ifT hub G,kaA q,so⟩)
   refine dRg z z z G z (lC [sl A0 N0 C0] s_ n_ z)<|dRg z z z G z (mv z)<|dRg z z z G z (mv z)<|dRg z z z G z (L_ z)<|dRg z z z G z (fd a_O z)<|dRg z z z G z (l0 a_S z<|kCa (o:=o3) (j:=2))<|dRg z z z G z (mv z)<|bdB (ifF hub G) λ_ en hmp=>a_G z z z G z (at_ (α:=Val) b_0 i_ z z z kR en) ?_;rintro _ ⟨_,_,_,rfl,hq,ht,hu⟩;obtain ⟨_,_,_,_,_,_,rfl,hv,hw,hx⟩:=l_b ht;refine bdB hmp λrr es hmy=>dEg z z z G z (fc call123 z<|a5.run (B:=B) es kM kR hl hv hw hx hq hu) iB ?_;rintro _ _ ⟨_,rfl⟩;exact dRg z z z G z (not_ z)<|dR z z (pF z G z)<|pD (λ_ q=>⟨!rr,som hmy,kaA q,kW⟩)
  rintro az _ ⟨x5,rfl,_,_⟩;revert az;refine Wo<|Wc z (λL=>?_) (λL=>?_)
  .exact Ws<|Rw z<|Wr<|rtO<|qL (som<|ifT hmc L).symm<|a_s hr z ⟨kW,z⟩
  exact Wk<|Wg<|R z (inc_ J (lt_ (repS.len W) u_) z z)<|Rm z<|Wl (λ_ q=>⟨(),(som<|ifF hmc L).symm,⟨kaA q,kW⟩⟩)
 .rintro _ _ _ ⟨a1,a6⟩;refine Wu ?_ a1;refine Ws<|Rl z z z<|Wn<|Wq<|Wc z (λhc=>(K_ hc).elim) (λ_=>?_);exact We<|λ_ q=>⟨rfl,⟨q.k sn,a6⟩⟩
 .rintro _ a7 _ rfl ⟨_,_⟩;have a2:=elL a0;revert a7;exact Wo<|Ws<|Rw z<|Wr<|rS1 a2 hr z ⟨kW,z⟩
 exact lqA a0 λ_ _ h=>h.2
theorem A_w0f:∀n,t_N n
  | 0=>⟨λhm=>by intros;exact nomatch (show none=some _ from hm)⟩
  | n+1=>T_w0f<|A_w0f n
theorem W_w0f:p_o (h_R n).impl_validValue:=A_w0f n
theorem W_w57 {x1:d_}{x2:Int}{x3:Val}{res:Bool}(hm:l_i n x1 x2 x3=some res)(a3:B<=w0.z)(a0:rp w0 B A0 N0 C0 x1.rules)(I:inI x2)(L:inI x3.number)(a1:rp w0 B A8 N8 C8 x3.bytes)(a2:rp w0 B A9 N9 C9 x3.items):g_ prog 75 [(.agg #[sl A0 N0 C0]),vI x2,(.agg #[vI x3.number,sl A8 N8 C8,sl A9 N9 C9])] w0 (Q11 w0 B res):=by
 unfold l_i at hm;refine goG func75 z z z λfn hr=>Ws<|EvX [sl A0 N0 C0] z z z λw2 _ _=>EvX [vI x3.number,sl A8 N8 C8,sl A9 N9 C9] z z z λH _ O=>Rw z<|Wq<|bdB hm λY V W=>Wt (λa w=>∃x4,x4=Y/\Sat 15 [(6,vB x4)] a/\Below H.z H w) ?_ ?_
 .refine Wg<|R z (lC [sl A0 N0 C0] s_ n_ z)<|Rm z<|bdB V λra eb J=>EcA z (fc call72 z<|n_1 (B:=B) eb kM kR I) λ_ sc=>Rm z ?_;rcases bs ra with G | G
  .refine Rh z G (lC [sl A0 N0 C0] s_ n_ z)<|Rh z G (mv z)<|bdB (ifT J G) λrd ee hmf=>Eg z z G z (fc call123 z<|W_w0f.run (B:=H.z) ee (O_ kM) (repS.mono kR kM) I L (repS.mono kR kM) (repS.mono kR kM) (kBr 0 3) O.lt) ?_;rintro _ _ ⟨_,rfl⟩;exact R z (pT z G z)<|Ra z<|Wl (λ_ q=>⟨rd,som hmf,kaA q,kW⟩)
  iterate 3 refine Nh z G ?_
  exact R z (pF z G z)<|Ra z<|Wl (λ_ q=>⟨false,som<|ifF J G,kaA q,sc⟩)
 rintro ag _ ⟨x4,rfl,_,_⟩;revert ag;exact Wo<|Wr<|rS1 W hr z ⟨kW,z⟩
def Q43 (w0:World)(B:Zone)(r:e_4)(v:Value)(w':World):Prop:=Bw w0 w'/\(λr1=>∃G H I,(shV (sl G H I) r1.1)=v/\repS w' w'.z (sl G H I) r1.2) r
theorem W_w58 {x1:f_}{res:e_4}(hm:d_c x1=some res)(a9:B<=w0.z)(a2:x1.name.b.length<=LEN)(a3:inI x1.kind)(a4:inI x1.size)(a5:rp w0 B AB NB CB x1.bytes)(a6:rp w0 B AA NA CA x1.names)(a7:rp w0 B AC NC CC x1.tags)(a8:rp w0 B AD ND CD x1.kids):g_ prog 126 [(.agg #[Str.v x1.name,vI x1.kind,vI x1.size,vB x1.little,sl AB NB CB,sl AA NA CA,sl AC NC CC,sl AD ND CD])] w0 (Q43 w0 B res):=by
 unfold d_c at hm;refine goG func126 z z z λfn hr=>Ws<|EvX (vR x1 AB NB CB AA NA CA AC NC CC AD ND CD) z z z λwe G Y=>Rw z<|Wq<|Ws<|Rf z a_r z<|R z (l0 g_3 z<|Y.at z)<|Wn<|Wb<|Ws<|Rq z z z<|Rw z<|Wc z (λH=>?_) (λH=>?_)
 .exact Ws<|R z (bQ [] [] z_e z z)<|R z (d_g d_184 (λ_ h=>by cases h) z)<|Rw z<|Wr<|rtO<|rS1 (ifT hm H) hr z ⟨G,none,0,0,z,repS.mono (or_ onL an_)<|O_ kM⟩
 have a0:=ifF hm H;refine Ws<|Rq z z z<|Rw z<|Wc z (λI=>?_) (λI=>?_)
 .exact Ws<|R z (bQ [] [] z_f z z)<|R z (d_g d_185 (λ_ h=>by cases h) z)<|Rw z<|Wr<|rtO<|rS1 (ifT a0 I) hr z ⟨G,none,0,0,z,repS.mono (or_ onL an_)<|O_ kM⟩
 have a1:=ifF a0 I;refine Ws<|Rq z z z<|Rw z<|Wc z (λJ=>?_) (λJ=>?_)
 .exact Ws<|R z (bQ [] [] z_g z z)<|R z (d_g d_186 (λ_ h=>by cases h) z)<|Rw z<|Wr<|rtO<|rS1 (ifT a1 J) hr z ⟨G,none,0,0,z,repS.mono (or_ onL an_)<|O_ kM⟩
 have hma:=ifF a1 J;refine Ws<|Rq z z z<|Rw z<|Wc z (λL=>?_) (λL=>?_)
 .exact Ws<|Rf z c_r z<|R z (l0 a_A z<|Y.at z)<|R z (bQ [(0,.tmp 20)] [sl AA NA CA] z_h z z)<|R z (d_g d_189 (λ_ h=>by cases h) z)<|Rw z<|Wr<|rtO<|rS1 (ifT hma L) hr z ⟨G,AA,NA,CA,z,repS.mono kR kM⟩
 have hmb:=ifF hma L;refine Ws<|Rq z z z<|Rw z<|Wc z (λO=>?_) (λO=>?_)
 .exact Ws<|R z (bQ [] [] z_i z z)<|R z (d_g d_190 (λ_ h=>by cases h) z)<|Rw z<|Wr<|rtO<|rS1 (ifT hmb O) hr z ⟨G,none,0,0,z,repS.mono (or_ onL an_)<|O_ kM⟩
 have hmc:=ifF hmb O;refine Ws<|Rq z z z<|Rw z<|Wc z (λV=>?_) (λV=>?_)
 .exact Ws<|R z (bQ [] [] z_j z z)<|R z (d_g d_192 (λ_ h=>by cases h) z)<|Rw z<|Wr<|rtO<|rS1 (ifT hmc V) hr z ⟨G,none,0,0,z,repS.mono (or_ onL an_)<|O_ kM⟩
 have hmd:=ifF hmc V;refine Ws<|Rq z z z<|Rw z<|Wc z (λW=>?_) (λW=>?_)
 .exact Ws<|R z (bQ [] [] z_k z z)<|R z (d_g d_193 (λ_ h=>by cases h) z)<|Rw z<|Wr<|rtO<|rS1 (ifT hmd W) hr z ⟨G,none,0,0,z,repS.mono (or_ onL an_)<|O_ kM⟩
 exact Wk<|Ws<|R z (bQ [] [] z_l z z)<|R z (d_g d_243 (λ_ h=>by cases h) z)<|Rw z<|Wr<|rS1 (ifF hmd W) hr z ⟨G,none,0,0,z,repS.mono (or_ onL an_)<|O_ kM⟩
theorem W_w2g {x1:List Str}{x2:Str}{res:Str}(hm:j_1 x1 x2=some res)(I:B<=w0.z)(G:rp w0 B A0 N0 C0 x1)(H:x2.b.length<=LEN):g_ prog 128 [sl A0 N0 C0,Str.v x2] w0 (Q19 w0 B res):=by
 unfold j_1 at hm;refine goG func128 z z z λfn hr=>Ws<|Rw z<|Wm z<|Rm z<|bdB hm λ_ L J=>E z (fc call181 z<|y_C (B:=B) L I G H) ?_;rintro _ _ ⟨s2,rfl,h3⟩;exact Rw z<|Wr<|rS1 J hr z ⟨s2,z,h3⟩
theorem W_w59 {x1:Int}{x2:Str}{x3:Str}{x4:Str}{res:Str}(hm:n_c x1 x2 x3 x4=some res)(I:B<=w0.z)(hG:Gl w0 B)(H:inI x1)(a0:x2.b.length<=LEN)(a1:x3.b.length<=LEN)(a2:x4.b.length<=LEN):g_ prog 129 [vI x1,Str.v x2,Str.v x3,Str.v x4] w0 (Q19 w0 B res):=by
 unfold n_c at hm;refine goG func129 z z z λfn hr=>Ws<|Rw z<|Wm z<|bdB hm λ_ W J=>E z (fc call127 z<|p_l (B:=B) W I hG H) ?_;rintro _ _ ⟨s3,rfl,_⟩;exact Rm z<|bdB J λ_ Y L=>R z (a_u z z Y)<|Rm z<|bdB L λ_ e6 O=>R z (a_u z z e6)<|Rm z<|bdB O λ_ G V=>R z (a_u z z G)<|Rw z<|Wr<|rS1 V hr z ⟨s3,z,b_p G⟩
theorem W_w5a {x1:Bt}{res:Str}(hm:l_j x1=some res)(ah:B<=w0.z)(Y:rp w0 B A0 N0 C0 x1):g_ prog 130 [sl A0 N0 C0] w0 (Q19 w0 B res):=by
 unfold l_j at hm;refine goG func130 z z z λfn hr=>Ws<|Rw z<|Wm z<|R z (lnR h_ z Y)<|R z (h_a z z)<|bdB hm λ_ ej hmk=>E z (u_I (α:=UInt8) M_ ej z z) ?_;rintro _ L ⟨al,nm,cn,rfl,_,ho⟩;refine Rw z<|Wq<|Wm z<|R z (lnR h_ z kR)<|Rm z<|Wn<|bdB hmk λ_ hup hmb=>Wf (σ:=Bt) (ρ:=Str) (λ(kc:Nat)(x4:Bt) a w=>∃H I J G,Sat 28 [(3,sl H I J),(10,sl A0 N0 C0),(11,vI (x1.length:Int)),(12,vI ((kc:Nat):Int))] a/\Cg [w0.z] L w/\c_ w G (sl H I J) x4/\G.Nodup/\(∀k∈G,k∈[w0.z]∨L.z<=k)) (λ(x4:Bt) a w=>∃H I J G,Sat 28 [(3,sl H I J)] a/\Cg [w0.z] L w/\c_ w G (sl H I J) x4/\G.Nodup/\(∀k∈G,k∈[w0.z]∨L.z<=k)) (rQ prog fn<|Q19 w0 B) hup ?_ ?_ ?_ ?_ ?_
 .exact λ_ q=>⟨al,nm,cn,[w0.z],kaA q,cr [w0.z] L,ho,S_,sQ⟩
 .rintro kc x4 _ _ _ hkd ⟨H,I,J,G,hSq,_,h6,O,he⟩ hmr;refine Wu ?_ hSq;refine Ws<|Rl z z z<|Wn<|Wq<|Wc z (λ_=>?_) (λhc=>(J_ hkd hc).elim);refine Wk<|Wq<|Wb<|Ws<|bdB hmr λ_ es hmt=>xA (α:=UInt8) z h_ z_5 z z z kR es λ_ _ _ hu hv _=>?_;obtain rfl:=u8 hv;refine R z (l0 g_5 z<|hu.at0 z)<|Ra z<|Wn (Wd (X:=noX) 256 (pl_ 10 [7,8]) mo (by kernel_rfl) λV ai _=>dM z z z<|dM z z z<|dR z z (u_U z z ⟨by decide,by decide⟩) ?_);refine bdB hmt λW eg hmw=>dR z z (c_y d_9 z z (a_k eg).1 (a_k eg).2.1)<|dM z z z<|dR z z (u_V (b:=(15:UInt8)) z z)<|bdB hmw λxa eh hmx=>dR z z (c_y d_9 z z (a_k eh).1 (a_k eh).2.1)<|dE z z (fS [(.tmp 19),(.tmp 22)] M_ z z z (a_i z) (lb z)<|lb z) (.inr λ_ _ h=>h_Z<|h.2.below) ?_;rintro _ wf ⟨rfl,hi⟩;have:=hi.below;have a0:Blk wf V.z [vU (b_ W),vU<|b_ xa]:=hi.blk;have a2:c_ wf [V.z] (sl (some ⟨V.z,0,none⟩) 2 2) [W,xa]:=h_S (l:=[W,xa]) a0 z;refine bdB hmx λxy ez a3=>dE z z (fN (α:=UInt8) M_ ez z z kO O<|c_.rep a2) (.inl z) ?_;rintro _ _ ⟨a8,a9,aa,ab,rfl,_,ad,ae,_⟩;exact dQ z z z<|pD<|Wo<|Wg<|R z (inc_ hkd (lt_ (repS.len Y) u_) z z)<|Rm z<|Wl (λ_ q=>⟨xy,(som a3).symm,⟨a9,aa,ab,a8,kaA q,kW,ad,ae,sQ⟩⟩)
 .rintro x4 _ _ ⟨H,I,J,G,a4,_,h6,O,he⟩;refine Wu ?_ a4;refine Ws<|Rl z z z<|Wn<|Wq<|Wc z (λhc=>(K_ hc).elim) (λ_=>?_);exact We<|λ_ q=>⟨rfl,⟨H,I,J,G,kaA q,kW,h6,O,sQ⟩⟩
 .rintro x4 af _ rfl ⟨H,I,J,G,_,_,h6,O,he⟩;have a5:=elL hmb;revert af;exact Wo<|Wm z<|R z (h_5 h_ d_9 d_5 z_5 z<|c_.rep h6)<|Rw z<|Wr<|rS1 a5 hr z ⟨kW,z,repS.len<|c_.rep h6⟩
 exact lqA hmb λ_ _ h=>h.2
structure p_p (f:d_->Int->Val->Option Str):Prop where
  run:∀{A0 A8 A9:Option Addr}{N0 C0 N8 C8 N9 C9 b3 o3:Nat}{B:Zone}{x1:d_}{x2:Int}{x3:Val}{res:Str}{w0:World}(hm:f x1 x2 x3=some res)(hBw:B<=w0.z)(hG:Gl w0 B)(p1_0:rp w0 B A0 N0 C0 x1.rules)(p2_0:inI x2)(p3_0:inI x3.number)(p3_1:rp w0 B A8 N8 C8 x3.bytes)(p3_2:rp w0 B A9 N9 C9 x3.items)(hC3:r_ w0 b3 o3 [vI x3.number,sl A8 N8 C8,sl A9 N9 C9])(hC3b:B b3),g_ prog 76 [(.agg #[sl A0 N0 C0]),vI x2,(pq b3 o3)] w0<|Q19 w0 B res
structure p_q (f:Int->d_->Int->Val->Option Str):Prop where
  run:∀{A2 AM AN:Option Addr}{N2 C2 b2 o2 b3 o3 NM CM NN CN b4_0 o4_0 b4 o4:Nat}{B:Zone}{x1:Int}{x2:d_}{x3:Int}{x4:Val}{res:Str}{w0:World}(hm:f x1 x2 x3 x4=some res)(hBw:B<=w0.z)(hG:Gl w0 B)(p1_0:inI x1)(p2_0:rp w0 B A2 N2 C2 x2.rules)(hC2:r_ w0 b2 o2 [sl A2 N2 C2])(hC2b:B b2)(p3_0:inI x3)(hC3:r_ w0 b3 o3 [vI x3])(hC3b:B b3)(p4_0_0:inI x4.number)(p4_0_1:rp w0 B AM NM CM x4.bytes)(p4_0_2:rp w0 B AN NN CN x4.items)(p4_0:r_ w0 b4_0 o4_0 [vI x4.number,sl AM NM CM,sl AN NN CN])(p4_0b:B b4_0)(hC4:r_ w0 b4 o4 [(pq b4_0 o4_0)])(hC4b:B b4),g_ prog 124 [vI x1,pq b2 o2,pq b3 o3,(pq b4 o4)] w0<|Q19 w0 B res
abbrev p_r (n:Nat):Prop:=p_p (b_e n).impl_valueText/\p_q (b_e n).impl_valueText_1
theorem T_w0a (ih:p_r n):p_p (b_m n<|b_e n):=by
 obtain ⟨_,a4⟩:=ih;constructor;intro A0 A8 A9 N0 C0 N8 C8 N9 C9 b3 o3 B x1 x2 x3 res w0 hm d2 hG d0 Y W d1 a6 hC3 hC3b;unfold b_m at hm;refine goG func76 z z z λfn hr=>Ws<|EvX [sl A0 N0 C0] z z z λwo _ a0=>EvX [vI x2] z z z λwp _ a1=>EvX [(pq b3 o3)] z z z λwa _ a3=>Rw z<|Ws<|R z (h_W z)<|Rw z<|Wq<|Ws<|Rf z a_l z<|R z (l0 a_p z kBa)<|R z (l0 g_3 z kBa)<|bdB hm λbz bA aS=>?_;refine xA (α:=f_) z Y_ l_ z z z kR bA λ_ _ _ bB bC _=>?_;obtain ⟨bD,bE,bF,bG,bH,bI,bJ,bK,bM,bN,bO,bP,rfl,bR,bS,bT,bU,bV,bW,bX⟩:=a_T bC;refine R z (lN (vs:=vR bz bD bE bF bG bH bI bJ bK bM bN bO bP) G_ l_ z z fid bB)<|bdB aS λV bY a7=>E z (fc call126 z<|W_w58 (B:=B) bY kM bR bS bT bU bV bW bX) ?_;rintro _ _ ⟨_,aj,ak,al,rfl,am⟩;refine Wn<|Wb<|Ws ?_;rcases bs (V.1==1) with hcf | hcf
 .refine R z (ta_184 z hcf)<|Re z z z<|Re z z z<|Wx z (λ_=>?_) (λhc=>(c_e z hc).elim);refine Ws<|EvZ [] z z_v z λd3 _ aQ=>E0q [] z_184 z z aQ z λd4 _ aR=>Wn<|Ws<|R z (l0 h_N z kBa)<|R z (L_ z)<|Rf z c_0 z<|R z (l0 g_3 z<|(r_.chg kC aR<|sQB hC3b).at (j:=0) z)<|bdB (ifT a7 hcf) λ_ bZ aT=>E z (fc call127 z<|p_l (B:=B) bZ kM kG W) ?_;rintro _ _ ⟨_,rfl,c0⟩;exact Rw z<|Wr<|rtO<|rS1 aT hr z ⟨kW,z,c0⟩
 have a8:=ifF a7 hcf;refine R z (z_0 z hcf)<|Re z z z<|Re z z z<|Wx z (λhc=>(c_e hc z).elim) (λ_=>?_);refine Ws ?_;rcases bs (V.1==2) with hcg | hcg
 .refine R z (ta_185 z hcg)<|Re z z z<|Re z z z<|Wx z (λ_=>?_) (λhc=>(c_e z hc).elim);exact Ws<|EvZ [] z z_w z λd5 _ aD=>E0q [] z_185 z z aD z λd6 _ _=>Wn<|Ws<|Rw z<|Wr<|rtO<|rS1 (ifT a8 hcg) hr z ⟨kW,z,lb z⟩
 have a9:=ifF a8 hcg;refine R z (z_1 z hcg)<|Re z z z<|Re z z z<|Wx z (λhc=>(c_e hc z).elim) (λ_=>?_);refine Ws ?_;rcases bs (V.1==5) with hch | hch
 .refine R z (ta_186 z hch)<|Re z z z<|Re z z z<|Wx z (λ_=>?_) (λhc=>(c_e z hc).elim);refine Ws<|EvZ [] z z_x z λd7 _ aE=>E0q [] z_186 z z aE z λwb _ aF=>Wn<|Ws<|E z (f0 (α:=Str) a_q) ?_;rintro _ wi ⟨c1,c2,c3,rfl,c5,c6⟩;refine Rw z<|Wq<|Ws<|R z (l0 h_N z kBa)<|R z (L_ z)<|Rf z a_O z<|have an:=(r_.chg kC aF<|sQB hC3b).e c5;R z (l0 a_S z<|an.at (j:=2) z)<|R z (lnR b_0 z kR)<|Rm z<|Wn<|bdB (ifT a9 hch) λ_ aU aa=>Wf (σ:=List Str) (ρ:=Str) (λ(ap:Nat)(xc:List Str) a w=>∃a2 H I G,Sat 122 [(7,.func (.func 124) #[] #[pt w0.z,pt wo.z,pt wp.z]),(11,sl a2 H I),(46,vI (x3.items.length:Int)),(47,vI ((ap:Nat):Int))] a/\Cg [wb.z] wi w/\c_ w G (sl a2 H I) xc/\G.Nodup/\(∀k∈G,k∈[wb.z]∨wi.z<=k)) (λ(xc:List Str) a w=>∃a2 H I G,Sat 122 [(11,sl a2 H I)] a/\Cg [wb.z] wi w/\c_ w G (sl a2 H I) xc/\G.Nodup/\(∀k∈G,k∈[wb.z]∨wi.z<=k)) (rQ prog fn<|Q19 w0 B) aU ?_ ?_ ?_ ?_ ?_
  .exact λ_ q=>⟨c1,c2,c3,[wb.z],kaA q,cr [wb.z] wi,c6,S_,sQ⟩
  .rintro ap xc _ _ _ hkr ⟨a2,H,I,G,aV,c8,hq,ht,aq⟩ aW;refine Wu ?_ aV;refine Ws<|Rl z z z<|Wn<|Wq<|Wc z (λ_=>?_) (λhc=>(J_ hkr hc).elim);refine Wk<|Wq<|Wb<|Wm z<|Rw z<|Wg<|RM z z<|Rm z<|bdB aW λc9 ca aX=>E z (d_y call124 z z<|a4.run (B:=wa.z) ca (O_ kM) (GlW.mono kG kM) (ic (QAO hkr)<|lt_ (repS.len a6) u_) (repS.mono kR kM) (kBr 0 1) (zap' (O_ kM) a0.lt) Y (kBr 0 1) (zap' (O_ kM) a1.lt) W (repS.mono kR kM) (repS.mono kR kM) (an.c c8<|sQB hC3b) (zap' kM hC3b) (kBr 0 1) a3.lt) ?_;rintro _ cb ⟨_,rfl,ar⟩;refine E z (fS [(.tmp 53)] a_q z z z (a_i z) (lb z)<|lb z) ?_;rintro _ cc ⟨rfl,hw⟩;have:=hw.below;have aG:Blk cc cb.z [Str.v c9]:=hw.blk;have:=b_d hw<|b_c ar;refine bdB aX λcd ce aY=>E z (a_W (α:=Str) a_q ce z z kO ht aG (b_c ar) an_ E_) ?_;rintro _ _ ⟨cf,cg,ch,ci,rfl,_,cj,ck,_⟩;exact Rw z<|Wg<|R z (inc_ hkr (lt_ (repS.len a6) u_) z z)<|Rm z<|Wl (λ_ q=>⟨cd,(som aY).symm,⟨cg,ch,ci,cf,kaA q,kW,cj,ck,sQ⟩⟩)
  .rintro xc _ _ ⟨a2,H,I,G,aZ,_,hq,ht,aq⟩;refine Wu ?_ aZ;refine Ws<|Rl z z z<|Wn<|Wq<|Wc z (λhc=>(K_ hc).elim) (λ_=>?_);exact We<|λ_ q=>⟨rfl,⟨a2,H,I,G,kaA q,kW,hq,ht,sQ⟩⟩
  .rintro xc cl cm rfl ⟨a2,H,I,G,_,_,hq,ht,aq⟩;have b0:=elL aa;revert cl;refine Wo<|Wm z<|bdB b0 λ_ cn b1=>E z (fc call128 z<|W_w2g (B:=cm.z) cn zr (c_.rep hq)<|lb z) ?_;rintro _ _ ⟨_,rfl,_⟩;exact bdB b1 λ_ co b2=>R z (a_u z z co)<|bdB b2 λ_ au b4=>R z (a_u z z au)<|Rw z<|Wr<|rtO<|rS1 b4 hr z ⟨kW,z,b_p au⟩
  exact lqA aa λ_ _ h=>h.2
 have ab:=ifF a9 hch;refine R z (z_2 z hch)<|Re z z z<|Re z z z<|Wx z (λhc=>(c_e hc z).elim) (λ_=>?_);refine Ws ?_;rcases bs (V.1==6) with hcj | hcj
 .refine R z (ta_189 z hcj)<|Re z z z<|Re z z z<|Wx z (λ_=>?_) (λhc=>(c_e z hc).elim);refine Ws<|EvZ [sN] z z_y z λd8 _ aH=>E0q [sl aj ak al] z_189 z z aH z λwd _ aI=>Wn<|Ws<|E z (f0 (α:=Str) a_q) ?_;rintro _ wk ⟨cp,cq,ct,rfl,cu,cv⟩;refine Rw z<|Wq<|Ws<|Rf z z_q z<|R z (l0 a_A z kBa)<|R z (lnR z_ z kR)<|Rm z<|Wn<|bdB (ifT ab hcj) λ_ b7 ad=>Wf (σ:=List Str) (ρ:=Str) (λ(av:Nat)(xe:List Str) a w=>∃J L O S1,Sat 122 [(7,.func (.func 124) #[] #[pt w0.z,pt wo.z,pt wp.z]),(14,sl J L O),(66,sl aj ak al),(67,vI (V.2.length:Int)),(68,vI ((av:Nat):Int))] a/\Cg [wd.z] wk w/\c_ w S1 (sl J L O) xe/\S1.Nodup/\(∀k∈S1,k∈[wd.z]∨wk.z<=k)) (λ(xe:List Str) a w=>∃J L O S1,Sat 122 [(14,sl J L O)] a/\Cg [wd.z] wk w/\c_ w S1 (sl J L O) xe/\S1.Nodup/\(∀k∈S1,k∈[wd.z]∨wk.z<=k)) (rQ prog fn<|Q19 w0 B) b7 ?_ ?_ ?_ ?_ ?_
  .exact λ_ q=>⟨cp,cq,ct,[wd.z],kaA q,cr [wd.z] wk,cv,S_,sQ⟩
  .rintro av xe _ _ _ hks ⟨J,L,O,S1,b8,cw,hu,hv,aw⟩ b9;refine Wu ?_ b8;refine Ws<|Rl z z z<|Wn<|Wq<|Wc z (λ_=>?_) (λhc=>(J_ hks hc).elim);refine Wk<|Wq<|Wb<|Wm z<|bdB b9 λ_ cx ba=>xA (α:=Str) z z_ z_9 z z z kR cx λ_ _ _ cy cz _=>?_;obtain ⟨rfl,_⟩:=a_e cz;refine R z (l0 g_9 z<|cy.at0 z)<|Ra z<|Rw z<|Wg<|RM z z<|bdB ba λ_ cA bb=>R z (a_u z z cA)<|RM z z<|bdB bb λ_ cB bc=>E z (d_y call124 z z<|a4.run (B:=wa.z) cB (O_ kM) (GlW.mono kG kM) (ic (QAO hks)<|lt_ (repS.len am) u_) (repS.mono kR kM) (kBr 0 1) (zap' (O_ kM) a0.lt) Y (kBr 0 1) (zap' (O_ kM) a1.lt) W (repS.mono kR kM) (repS.mono kR kM) (((r_.chg kC aI<|sQB hC3b).e cu).c cw<|sQB hC3b) (zap' kM hC3b) (kBr 0 1) a3.lt) ?_;rintro _ cC ⟨_,rfl,_⟩;refine bdB bc λcD ey be=>R z (a_u z z ey)<|E z (fS [(.tmp 79)] a_q z z z (a_i z) (lb z)<|lb z) ?_;rintro _ cE ⟨rfl,hx⟩;have:=hx.below;have aJ:Blk cE cC.z [Str.v cD]:=hx.blk;have:=b_d hx<|b_c<|b_p ey;refine bdB be λcF cG bf=>E z (a_W (α:=Str) a_q cG z z kO hv aJ (b_c<|b_p ey) an_ E_) ?_;rintro _ _ ⟨cH,cI,cJ,cK,rfl,_,cL,cM,_⟩;exact Rw z<|Wg<|R z (inc_ hks (lt_ (repS.len am) u_) z z)<|Rm z<|Wl (λ_ q=>⟨cF,(som bf).symm,⟨cI,cJ,cK,cH,kaA q,kW,cL,cM,sQ⟩⟩)
  .rintro xe _ _ ⟨J,L,O,S1,bg,_,hu,hv,aw⟩;refine Wu ?_ bg;refine Ws<|Rl z z z<|Wn<|Wq<|Wc z (λhc=>(K_ hc).elim) (λ_=>?_);exact We<|λ_ q=>⟨rfl,⟨J,L,O,S1,kaA q,kW,hu,hv,sQ⟩⟩
  .rintro xe cN cO rfl ⟨J,L,O,S1,_,_,hu,hv,aw⟩;have bh:=elL ad;revert cN;refine Wo<|Wm z<|bdB bh λ_ cP bi=>E z (fc call128 z<|W_w2g (B:=cO.z) cP zr (c_.rep hu)<|lb z) ?_;rintro _ _ ⟨_,rfl,_⟩;exact bdB bi λ_ cQ bj=>R z (a_u z z cQ)<|bdB bj λ_ ax bk=>R z (a_u z z ax)<|Rw z<|Wr<|rtO<|rS1 bk hr z ⟨kW,z,b_p ax⟩
  exact lqA ad λ_ _ h=>h.2
 have ae:=ifF ab hcj;refine R z (z_6 z hcj)<|Re z z z<|Re z z z<|Wx z (λhc=>(c_e hc z).elim) (λ_=>?_);refine Ws ?_;rcases bs (V.1==7) with hcl | hcl
 .refine R z (ta_190 z hcl)<|Re z z z<|Re z z z<|Wx z (λ_=>?_) (λhc=>(c_e z hc).elim);refine Ws<|EvZ [] z z_z z λd9 _ aK=>E0q [] z_190 z z aK z λda _ aL=>Wn<|Wq (Wd (X:=noX) 0 (pl_ 8 [5,6]) mo (by kernel_rfl) λdb cR _=>dR z z (l0 h_N z kBa)<|dR z z (L_ z)<|dR z z (fd c_0 z) ?_);have ay:=(r_.chg kC aL<|sQB hC3b).e cR;refine dR z z (l0 g_3 z<|ay.at (j:=0) z)<|dM z z z<|bdB (ifT ae hcl) λ_ cS bo=>dE z z (d_y call124 z z<|a4.run (B:=wa.z) cS (O_ kM) (GlW.mono kG kM) (ii z) (repS.mono kR kM) (kBr 0 1) (zap' (O_ kM) a0.lt) Y (kBr 0 1) (zap' (O_ kM) a1.lt) W (repS.mono kR kM) (repS.mono kR kM) ay (zap' kM hC3b) (kBr 0 1) a3.lt) iB ?_;rintro _ _ ⟨_,rfl,cT⟩;refine bdB bo λ_ cU bp=>dE z z (fc call129 z<|W_w59 (B:=B) cU kM kG W (lb z) cT<|lb z) iB ?_;rintro _ _ ⟨_,rfl,cV⟩;exact dQ z z z<|pD<|Wo<|Wr<|rtO<|rS1 bp hr z ⟨kW,z,cV⟩
 have af:=ifF ae hcl;refine R z (z_7 z hcl)<|Re z z z<|Re z z z<|Wx z (λhc=>(c_e hc z).elim) (λ_=>?_);refine Ws ?_;rcases bs (V.1==8) with hcm | hcm
 .have ah:=ifT af hcm;refine R z (ta_192 z hcm)<|Re z z z<|Re z z z<|Wx z (λ_=>?_) (λhc=>(c_e z hc).elim);refine Ws<|EvZ [] z z_A z λdc _ aM=>E0q [] z_192 z z aM z λdd _ aN=>Wn<|Wq<|Ws<|R z (l0 h_N z kBa)<|R z (L_ z)<|Rf z a_O z<|have az:=r_.chg kC aN<|sQB hC3b;R z (l0 a_S z<|az.at (j:=2) z)<|R z (lnR b_0 z kR)<|Rq z z z<|Wx z (λhcz=>?_) (λhcz=>?_)
  .exact Ws<|Rw z<|Wr<|rtO<|rS1 (ifT ah hcz) hr z ⟨kW,z,lb z⟩
  refine Wk<|Wm z<|bdB (ifF ah hcz) λ_ cW bq=>E z (d_y call124 z z<|a4.run (B:=wa.z) cW (O_ kM) (GlW.mono kG kM) (ii z) (repS.mono kR kM) (kBr 0 1) (zap' (O_ kM) a0.lt) Y (kBr 0 1) (zap' (O_ kM) a1.lt) W (repS.mono kR kM) (repS.mono kR kM) az (zap' kM hC3b) (kBr 0 1) a3.lt) ?_;rintro _ _ ⟨_,rfl,_⟩;exact bdB bq λ_ aA br=>R z (a_u z z aA)<|Rw z<|Wr<|rtO<|rS1 br hr z ⟨kW,z,b_p aA⟩
 have ai:=ifF af hcm;refine R z (z_8 z hcm)<|Re z z z<|Re z z z<|Wx z (λhc=>(c_e hc z).elim) (λ_=>?_);refine Ws ?_;rcases bs (V.1==9) with hcn | hcn
 .refine R z (ta_193 z hcn)<|Re z z z<|Re z z z<|Wx z (λ_=>?_) (λhc=>(c_e z hc).elim);refine Ws<|EvZ [] z z_B z λde _ aO=>E0q [] z_193 z z aO z λdf _ aP=>Wn<|Wm z<|bdB (ifT ai hcn) λ_ cX bt=>E z (d_y call124 z z<|a4.run (B:=wa.z) cX (O_ kM) (GlW.mono kG kM) (ii z) (repS.mono kR kM) (kBr 0 1) (zap' (O_ kM) a0.lt) Y (kBr 0 1) (zap' (O_ kM) a1.lt) W (repS.mono kR kM) (repS.mono kR kM) (r_.chg kC aP<|sQB hC3b) (zap' kM hC3b) (kBr 0 1) a3.lt) ?_;rintro _ _ ⟨_,rfl,_⟩;exact bdB bt λ_ cY bu=>R z (a_u z z cY)<|bdB bu λ_ aB bv=>R z (a_u z z aB)<|Rw z<|Wr<|rtO<|rS1 bv hr z ⟨kW,z,b_p aB⟩
 refine R z (z_a z hcn)<|Re z z z<|Re z z z<|Wx z (λhc=>(c_e hc z).elim) (λ_=>?_);refine Wk<|Ws<|R z (l0 h_N z kBa)<|R z (L_ z)<|Rf z d_a z<|R z (l0 B_ z<|kCa (o:=o3) (j:=1))<|bdB (ifF ai hcn) λ_ cZ bw=>E z (fc call130 z<|W_w5a (B:=B) cZ kM kR) ?_;rintro _ _ ⟨_,rfl,_⟩;exact bdB bw λ_ aC bx=>R z (a_u z z aC)<|Rw z<|Wr<|rS1 bx hr z ⟨kW,z,b_p aC⟩
theorem T_w2h (ih:p_r n):p_q (l_k n<|b_e n):=by
 obtain ⟨I,_⟩:=ih;constructor;intro A2 AM AN N2 C2 b2 o2 b3 o3 NM CM NN CN b4_0 o4_0 b4 o4 B x1 x2 x3 x4 res w0 hm a2 hG G a0 hC2 hC2b H hC3 hC3b p4_0_0 p4_0_1 p4_0_2 a1 p4_0b hC4 hC4b;unfold l_k at hm;refine goG func124 z z z λfn hr=>Ws<|Rw z<|Wq (Wd (X:=noX) 0 (.rd 0<|.rd 1<|.rd 2<|.rd 3<|.rd 4<|.rd 6<|.rd 7<|.rd 8<|.rd 9<|.rd 10<|.rd 11<|.ef 5<|.ef 12<|.rd 13 .done) mo (by kernel_rfl) λwb sc _=>dR z z (lN (vs:=[sl A2 N2 C2]) s_ n_ z z fid kC)<|dR z z (lN (vs:=[sl A2 N2 C2]) s_ n_ z z fid kC)<|dR z z (l0 g_3 z kC0)<|dR z z (l0 h_N z kC0)<|dM z z z<|dR z z (l0 h_N z kC0)<|dR z z (L_ z)<|dR z z (fd a_O z)<|dR z z (l0 a_S z<|kCa (o:=o4_0) (j:=2))<|dM z z z ?_);refine bdB hm λ_ V J=>dxA (α:=Val) z z b_0 i_ z z z kR V λ_ _ _ _ h2 h3=>?_;obtain ⟨_,_,_,_,_,_,rfl,h4,_,_⟩:=l_b h2;refine bdB J λ_ W L=>dE z z (fc call125 z<|p_m (B:=B) W kM kR H p4_0_0 kR kR kC p4_0b G) iB ?_;rintro _ _ ⟨_,rfl,Y⟩;refine bdB L λ_ e8 O=>dE z z (fc call76 z<|I.run (B:=B) e8 kM kG kR Y h4 kR kR kC h3) iB ?_;rintro _ _ ⟨_,rfl,ha⟩;exact dQ z z z<|pD<|Wo<|Wr<|rS1 O hr z ⟨kW,z,ha⟩
theorem n_6:∀n,p_r n
  | 0=>⟨⟨λhm=>by intros;exact nomatch (show none=some _ from hm)⟩,⟨λhm=>by intros;exact nomatch (show none=some _ from hm)⟩⟩
  | n+1=>⟨T_w0a<|n_6 n,T_w2h<|n_6 n⟩
theorem W_w0a:p_p (b_e n).impl_valueText:=(n_6 n).1
theorem W_w2h:p_q (b_e n).impl_valueText_1:=(n_6 n).2
theorem W_w5b {x1:d_}{x2:Int}{x3:Val}{res:Str}(hm:g_K n x1 x2 x3=some res)(a3:B<=w0.z)(hG:Gl w0 B)(a0:rp w0 B A0 N0 C0 x1.rules)(H:inI x2)(I:inI x3.number)(a1:rp w0 B A8 N8 C8 x3.bytes)(a2:rp w0 B A9 N9 C9 x3.items):g_ prog 45 [(.agg #[sl A0 N0 C0]),vI x2,(.agg #[vI x3.number,sl A8 N8 C8,sl A9 N9 C9])] w0 (Q19 w0 B res):=by
 unfold g_K at hm;refine goG func45 z z z λfn hr=>Ws<|EvX [sl A0 N0 C0] z z z λw1 _ _=>EvX [vI x3.number,sl A8 N8 C8,sl A9 N9 C9] z z z λV _ L=>Rw z<|Wq<|Ws<|R z (lC [sl A0 N0 C0] s_ n_ z)<|Rm z<|R z (lC [vI x3.number,sl A8 N8 C8,sl A9 N9 C9] x_ i_ z)<|bdB hm λ_ W J=>EcA z (fc call75 z<|W_w57 (B:=B) W kM kR H I (kR (l:=x3.bytes))<|kR (l:=x3.items)) λ_ _=>R z (not_ z)<|Wx z (λG=>?_) (λG=>?_)
 .exact Ws<|Rw z<|Wr<|rS1 (ifT J G) hr z ⟨kW,z,lb z⟩
 refine Wk<|Ws<|R z (lC [sl A0 N0 C0] s_ n_ z)<|Rm z<|bdB (ifF J G) λ_ Y O=>E z (fc call76 z<|W_w0a.run (B:=V.z) Y (O_ kM) (GlW.mono kG kM) (repS.mono kR kM) H I (repS.mono kR kM) (repS.mono kR kM) (kBr 0 3) L.lt) ?_;rintro _ _ ⟨_,rfl,h9⟩;exact Rw z<|Wr<|rS1 O hr z ⟨kW,z,h9⟩
theorem W_w5c {x1:d_}{x2:Bt}{x3:Str}{x4:Str}{res:(List Str)}(hm:j_H n x1 x2 x3 x4=some res)(b0:B<=w0.z)(hG:Gl w0 B)(aX:rp w0 B A0 N0 C0 x1.rules)(aY:rp w0 B A2 N2 C2 x2)(a8:x3.b.length<=LEN)(aZ:x4.b.length<=LEN):g_ prog 23 [(.agg #[sl A0 N0 C0]),sl A2 N2 C2,Str.v x3,Str.v x4] w0 (Q2 w0 B res):=by
 unfold j_H at hm;refine goG func23 z z z λfn hr=>Ws<|EvX [sl A0 N0 C0] z z z λL _ _=>Rw z<|Ws<|E z (f0 (α:=Str) a_q) ?_;rintro _ _ ⟨ar,au,av,rfl,_,_⟩;refine Rw z<|Wq<|Ws<|R z (lC [sl A0 N0 C0] s_ n_ z)<|RM z z<|bdB hm λrm aw a9=>E z (fc call43 z<|W_w55 (B:=B) aw kM kG kR kR a8) ?_;rintro _ O ⟨_,an,no,cp,_,rfl,hh,_,_⟩;refine R z (lnR d_b z<|c_.rep hh)<|Rm z<|Wn<|bdB a9 λ_ aa hmq=>Wf (σ:=List Str) (ρ:=List Str) (λ(ki:Nat)(x6:List Str) a w=>∃H I J G,Sat 50 [(1,sl A2 N2 C2),(3,Str.v x4),(4,pt w0.z),(9,sl H I J),(19,sl an no cp),(20,vI (rm.length:Int)),(21,vI ((ki:Nat):Int))] a/\Cg [L.z] O w/\c_ w G (sl H I J) x6/\G.Nodup/\(∀k∈G,k∈[L.z]∨O.z<=k)) (λ(x6:List Str) a w=>∃H I J G,Sat 50 [(9,sl H I J)] a/\Cg [L.z] O w/\c_ w G (sl H I J) x6/\G.Nodup/\(∀k∈G,k∈[L.z]∨O.z<=k)) (rQ prog fn<|Q2 w0 B) aa ?_ ?_ ?_ ?_ ?_
 .exact λ_ q=>⟨ar,au,av,[L.z],kaA q,cr [L.z] O,kO,S_,sQ⟩
 .rintro ki x6 _ _ _ hkr ⟨H,I,J,G,ab,_,ha,V,ht⟩ ad;refine Wu ?_ ab;refine Ws<|Rl z z z<|Wn<|Wq<|Wc z (λ_=>?_) (λhc=>(J_ hkr hc).elim);refine Wk<|Wq<|Wb<|Ws<|bdB ad λx5 ax af=>xA (α:=j_) z d_b b_x z z z (or_ (B:=bl O.z) kO<|c_.lt hh) ax λ_ _ _ az aA _=>?_;obtain ⟨rfl,hu,hv,aB,_⟩:=h_T aA;refine R z (lN (vs:=[Str.v x5.path,vI x5.rule,vI x5.start,vI x5.end_]) f_v b_x z z fid az)<|EvZ [(Str.v (⟨[]⟩:Str)),vI 0,vI 0,vI 0] z l_5 z λb1 _ a5=>E0q [Str.v x5.path,vI x5.rule,vI x5.start,vI x5.end_] b_x z z a5 z λb2 hx _=>Wn<|Ws<|R z (lC [sl A0 N0 C0] s_ n_ z)<|Rf z m_P z<|R z (l0 g_3 z<|hx.at z)<|Rm z<|Rf z t_x z<|R z (l0 g_3 z<|hx.at z) ?_;obtain ⟨rb,_,_,aC,ah⟩:=N_ af;refine E z (fc call44 z<|n_4 (B:=B) aC kM kG kR hv kR aB) ?_;rintro _ ws ⟨_,ay,nz,a0,_,a2,a3,a4,_,rfl,aD,aE,aF,_,_,aG,aH⟩;obtain ⟨_,_,_,_,_⟩:=a_5 aG aH;refine Rm z ?_;iterate 3 refine Re z z z ?_
  refine EvZ [vI 0,sN,sN] z a_h z λb3 _ a6=>E0q [vI rb.number,sl ay nz a0,sl a2 a3 a4] i_ z z a6 z λb4 b5 _=>Ra z<|Rw z<|Ws<|R z (lC [sl A0 N0 C0] s_ n_ z)<|Rf z m_P z<|R z (l0 g_3 z kBa)<|R z (lC [vI rb.number,sl ay nz a0,sl a2 a3 a4] x_ i_ z)<|bdB ah λ_ aI ai=>E z (fc call45 z<|W_w5b (B:=ws.z) aI (O_ kM) (GlW.mono kG kM) (repS.mono kR kM) hv aD (or_ (kO (l:=rb.bytes))<|c_.lt aE)<|or_ (kO (l:=rb.items))<|c_.lt aF) ?_;rintro _ wc ⟨_,rfl,_⟩;refine Rm z<|R z (a_Q z z)<|Wn<|bdB ai λaJ Y aj=>Wt (λa w=>∃xd,xd=aJ/\∃ae nf cg W,Sat 50 [(1,sl A2 N2 C2),(3,Str.v x4),(4,pt w0.z),(9,sl ae nf cg),(19,sl an no cp),(20,vI (rm.length:Int)),(21,vI ((ki:Nat):Int))] a/\Cg G wc w/\c_ w W (sl ae nf cg) xd/\W.Nodup/\(∀k∈W,k∈G∨wc.z<=k)) ?_ ?_
  .refine Wc z (λhcj=>?_)<|λhcj=>?_
   .refine Wg<|Rm z<|Rf z l_4 z<|R z (l0 g_9 z kBa)<|E z (fS [(.tmp 45)] a_q z z z (a_i z) (lb z)<|lb z) ?_;rintro _ aK ⟨rfl,hk⟩;have:=hk.below;have a7:Blk aK wc.z [Str.v x5.path]:=hk.blk;have:=b_d hk<|b_c hu;refine bdB (ifT Y hcj) λaL aM ak=>E z (a_W (α:=Str) a_q aM z z kO V a7 (b_c hu) an_ E_) ?_;rintro _ _ ⟨aN,aO,aP,aQ,rfl,_,aR,aS,_⟩;exact Ra z<|Wl (λ_ q=>⟨aL,som ak,aO,aP,aQ,aN,kaA q,kW,aR,aS,sQ⟩)
   exact Z_<|λ_ q=>⟨x6,som<|ifF Y hcj,H,I,J,G,kaA q,cr G wc,kO,V,sQ⟩
  rintro aT _ ⟨xd,rfl,ae,nf,cg,W,_,_,aU,aV,_⟩;revert aT;exact Wo<|Wg<|R z (inc_ hkr (lt_ (c_.len hh) u_) z z)<|Rm z<|Wl (λ_ q=>⟨xd,(som aj).symm,⟨ae,nf,cg,W,kaA q,kW,aU,aV,sQ⟩⟩)
 .rintro x6 _ _ ⟨H,I,J,G,al,_,ha,V,ht⟩;refine Wu ?_ al;refine Ws<|Rl z z z<|Wn<|Wq<|Wc z (λhc=>(K_ hc).elim) (λ_=>?_);exact We<|λ_ q=>⟨rfl,⟨H,I,J,G,kaA q,kW,ha,V,sQ⟩⟩
 .rintro x6 aW _ rfl ⟨H,I,J,G,_,_,ha,V,ht⟩;have am:=elL hmq;revert aW;exact Wo<|Wm z<|Rw z<|Wr<|rS1 am hr z ⟨kW,H,I,J,G,z,ha,V,sQ⟩
 exact lqA hmq λ_ _ h=>h.2
theorem W_w5d {x1:o_}{x2:H_}{b2 o2:Nat}{x3:Str}{b3 o3:Nat}{x4:Str}{b4 o4:Nat}{res:Bool}(hm:n_8 n x1 x2 x3 x4=some res)(a5:B<=w0.z)(hG:Gl w0 B)(Y:x1.name.b.length<=LEN)(a0:inI x1.version)(a1:rp w0 B AF NF CF x1.data)(a2:rp w0 B A2 N2 C2 x2.registry.versions)(a3:rp w0 B AE NE CE x2.log.bytes)(a4:inI x2.log.stored)(hC2:r_ w0 b2 o2 [sl A2 N2 C2,sl AE NE CE,vI x2.log.stored])(hC2b:B b2)(G:x3.b.length<=LEN)(hC3:r_ w0 b3 o3 [Str.v x3])(hC3b:B b3)(H:x4.b.length<=LEN)(hC4:r_ w0 b4 o4 [Str.v x4])(hC4b:B b4):g_ prog 22 [(.agg #[Str.v x1.name,vI x1.version,sl AF NF CF]),pq b2 o2,pq b3 o3,(pq b4 o4)] w0 (Q11 w0 B res):=by
 unfold n_8 at hm;refine goG func22 z z z λfn hr=>Ws<|EvX [Str.v x1.name,vI x1.version,sl AF NF CF] z z z λw1 _ _=>Rw z<|Wq (Wd (X:=noX) 0 (pl_ 15 [11]) mo (by kernel_rfl) λwd se _=>dR z z (fd d_R z)<|dR z z (fd c_D z)<|dR z z (l0 c_Q z<|kCa (o:=o2) (j:=0))<|dR z z (fd t_v z)<|dR z z (l0 g_3 z kBa) ?_);refine bdB hm λ_ J I=>dxA (α:=d_) z z b_M n_ z z z kR J λ_ _ _ h4 h5 _=>?_;obtain ⟨L,O,V,rfl,W⟩:=e_s h5;refine dR z z (lN (vs:=[sl L O V]) s_ n_ z z fid h4)<|dR z z (fd t_w z)<|dR z z (l0 B_ z kBa)<|dR z z (l0 g_9 z kC0)<|dR z z (l0 g_9 z kC0)<|bdB I λ_ ea hmb=>dE z z (fc call23 z<|W_w5c (B:=B) ea kM kG W kR G H) iB ?_;rintro _ _ ⟨_,_,_,_,_,rfl,hc,_,_⟩;exact dR z z (lnR z_ z<|c_.rep hc)<|dR z z (T_ z z)<|dQ z z z<|pD<|Wo<|Wr<|rS1 hmb hr z ⟨kW,z⟩
theorem W_w5e {x1:o_}{res:Str}(hm:m_H x1=some res)(O:B<=w0.z)(G:x1.name.b.length<=LEN)(J:inI x1.version)(L:rp w0 B AF NF CF x1.data):g_ prog 24 [(.agg #[Str.v x1.name,vI x1.version,sl AF NF CF])] w0 (Q19 w0 B res):=by
 unfold m_H at hm;exact goG func24 z z z λfn hr=>Ws<|EvX [Str.v x1.name,vI x1.version,sl AF NF CF] z z z λV H I=>Rw z<|Ws<|Rf z m_O z<|R z (l0 g_9 z<|I.at z)<|Rw z<|Wr<|rS1 hm hr z ⟨H,z,G⟩
theorem W_w5f {x1:List o_}{L:H_}{pa2c0_0:Option Addr}{pn2c0_0 pc2c0_0:Nat}{pa2c0_1:Option Addr}{pn2c0_1 pc2c0_1:Nat}{O a0:Nat}{a9:Str}{V a2:Nat}{ab:Str}{W a3:Nat}{res:(List Str)}(hm:n_9 n x1 L a9 ab=some res)(aV:B<=w0.z)(hG:Gl w0 B)(ah:rp w0 B A0 N0 C0 x1)(p2c0_0:rp w0 B pa2c0_0 pn2c0_0 pc2c0_0 L.registry.versions)(p2c0_1:rp w0 B pa2c0_1 pn2c0_1 pc2c0_1 L.log.bytes)(p2c0_2:inI L.log.stored)(aS:r_ w0 O a0 [sl pa2c0_0 pn2c0_0 pc2c0_0,sl pa2c0_1 pn2c0_1 pc2c0_1,vI L.log.stored])(a4:B O)(p2c1_0:a9.b.length<=LEN)(aT:r_ w0 V a2 [Str.v a9])(a5:B V)(p2c2_0:ab.b.length<=LEN)(aU:r_ w0 W a3 [Str.v ab])(a6:B W):g_ prog 20 [sl A0 N0 C0,.func (.func 22) #[] #[(pq O a0),pq V a2,(pq W a3)],(.func (.func 24) #[] #[])] w0 (Q2 w0 B res):=by
 unfold n_9 at hm;refine goG func20 z z z λfn hr=>Ws<|Rw z<|Ws<|E z (f0 (α:=Str) a_q) ?_;rintro _ Y ⟨av,ns,cw,rfl,_,hx⟩;refine Rw z<|Wq<|Wm z<|R z (lnR c_s z kR)<|Rm z<|Wn<|bdB hm λ_ huy hmm=>Wf (σ:=List Str) (ρ:=List Str) (λ(kh:Nat)(x5:List Str) a w=>∃H I J G,Sat 28 [(1,.func (.func 22) #[] #[(.pointer<|some ⟨O,a0,none⟩),.pointer<|some ⟨V,a2,none⟩,(.pointer<|some ⟨W,a3,none⟩)]),(2,.func (.func 24) #[] #[]),(7,sl H I J),(11,sl A0 N0 C0),(12,vI (x1.length:Int)),(13,vI ((kh:Nat):Int))] a/\Cg [w0.z] Y w/\c_ w G (sl H I J) x5/\G.Nodup/\(∀k∈G,k∈[w0.z]∨Y.z<=k)) (λ(x5:List Str) a w=>∃H I J G,Sat 28 [(7,sl H I J)] a/\Cg [w0.z] Y w/\c_ w G (sl H I J) x5/\G.Nodup/\(∀k∈G,k∈[w0.z]∨Y.z<=k)) (rQ prog fn<|Q2 w0 B) huy ?_ ?_ ?_ ?_ ?_
 .exact λ_ q=>⟨av,ns,cw,[w0.z],kaA q,cr [w0.z] Y,hx,S_,sQ⟩
 .rintro kh x5 _ _ _ hkn ⟨H,I,J,G,ai,si,h9,h6,ho⟩ aj;refine Wu ?_ ai;refine Ws<|Rl z z z<|Wn<|Wq<|Wc z (λ_=>?_) (λhc=>(J_ hkn hc).elim);refine Wk<|Wq<|Wb<|Ws<|bdB aj λx4 ax ak=>xA (α:=o_) z c_s b_b z z z kR ax λ_ _ _ ay az _=>?_;obtain ⟨aa,nb,cc,rfl,hp,hq,_⟩:=g_O az;refine R z (lN (vs:=[Str.v x4.name,vI x4.version,sl aa nb cc]) e_N b_b z z fid ay)<|EvZ [(Str.v (⟨[]⟩:Str)),vI 0,sN] z i_W z λaW a7 ad=>E0q [Str.v x4.name,vI x4.version,sl aa nb cc] b_b z z ad z λaX aY a8=>Wn<|Wm z<|R z (lC [Str.v x4.name,vI x4.version,sl aa nb cc] e_N b_b z)<|bdB ak λ_ aA al=>E z (d_y call22 z z<|W_w5d (B:=B) aA kM kG hp hq kR kR kR p2c0_2 (((r_.chg kC si<|sQB a4).e a7).c a8<|sQB a4) a4 p2c1_0 (((r_.chg kC si<|sQB a5).e a7).c a8<|sQB a5) a5 p2c2_0 (((r_.chg kC si<|sQB a6).e a7).c a8<|sQB a6) a6) ?_;rintro _ wj ⟨_,rfl⟩;refine Wn<|bdB al λaB hur am=>Wt (λa w=>∃xd,xd=aB/\∃ae nf cg S8,Sat 28 [(1,.func (.func 22) #[] #[(.pointer<|some ⟨O,a0,none⟩),.pointer<|some ⟨V,a2,none⟩,(.pointer<|some ⟨W,a3,none⟩)]),(2,.func (.func 24) #[] #[]),(7,sl ae nf cg),(11,sl A0 N0 C0),(12,vI (x1.length:Int)),(13,vI ((kh:Nat):Int))] a/\Cg G wj w/\c_ w S8 (sl ae nf cg) xd/\S8.Nodup/\(∀k∈S8,k∈G∨wj.z<=k)) ?_ ?_
  .refine Wc z (λhck=>?_)<|λhck=>?_
   .refine Wg<|RM z z<|R z (lC [Str.v x4.name,vI x4.version,sl aa nb cc] e_N b_b z)<|bdB (ifT hur hck) λaC aD an=>E z (d_y call24 z z<|W_w5e (B:=B) aD kM hp hq kR) ?_;rintro _ aE ⟨_,rfl,hu⟩;refine E z (fS [(.tmp 23)] a_q z z z (a_i z) (lb z)<|lb z) ?_;rintro _ aF ⟨rfl,hl⟩;have:=hl.below;have af:Blk aF aE.z [Str.v aC]:=hl.blk;have:=b_d hl<|b_c hu;refine bdB an λaG aH ap=>E z (a_W (α:=Str) a_q aH z z kO h6 af (b_c hu) an_ E_) ?_;rintro _ _ ⟨aI,aJ,aK,aL,rfl,_,aM,aN,_⟩;exact Ra z<|Wl (λ_ q=>⟨aG,som ap,aJ,aK,aL,aI,kaA q,kW,aM,aN,sQ⟩)
   exact Z_<|λ_ q=>⟨x5,som<|ifF hur hck,H,I,J,G,kaA q,cr G wj,kO,h6,sQ⟩
  rintro aO _ ⟨xd,rfl,ae,nf,cg,S8,_,_,aP,aQ,_⟩;revert aO;exact Wo<|Wg<|R z (inc_ hkn (lt_ (repS.len ah) u_) z z)<|Rm z<|Wl (λ_ q=>⟨xd,(som am).symm,⟨ae,nf,cg,S8,kaA q,kW,aP,aQ,sQ⟩⟩)
 .rintro x5 _ _ ⟨H,I,J,G,aq,_,h9,h6,ho⟩;refine Wu ?_ aq;refine Ws<|Rl z z z<|Wn<|Wq<|Wc z (λhc=>(K_ hc).elim) (λ_=>?_);exact We<|λ_ q=>⟨rfl,⟨H,I,J,G,kaA q,kW,h9,h6,sQ⟩⟩
 .rintro x5 aR _ rfl ⟨H,I,J,G,_,_,h9,h6,ho⟩;have ar:=elL hmm;revert aR;exact Wo<|Wm z<|Rw z<|Wr<|rS1 ar hr z ⟨kW,H,I,J,G,z,h9,h6,sQ⟩
 exact lqA hmm λ_ _ h=>h.2
theorem W_w2i {x1:H_}{x2:Str}{x3:Str}{res:(List Str)}(hm:i_Z n x1 x2 x3=some res)(a2:B<=w0.z)(hG:Gl w0 B)(a0:rp w0 B A0 N0 C0 x1.registry.versions)(a1:rp w0 B A1 N1 C1 x1.log.bytes)(G:inI x1.log.stored)(H:x2.b.length<=LEN)(I:x3.b.length<=LEN):g_ prog 7 [(.agg #[sl A0 N0 C0,sl A1 N1 C1,vI x1.log.stored]),Str.v x2,Str.v x3] w0 (Q2 w0 B res):=by
 unfold i_Z at hm;refine goG func7 z z z λfn hr=>Ws<|EvX [sl A0 N0 C0,sl A1 N1 C1,vI x1.log.stored] z z z λw1 _ J=>EvX [Str.v x2] z z z λw2 _ L=>EvX [Str.v x3] z z z λw5 _ O=>Rw z<|Ws<|R z (lC [sl A0 N0 C0,sl A1 N1 C1,vI x1.log.stored] e_M d_U z)<|bdB hm λ_ W V=>E z (fc call21 z<|W_w4p (B:=B) W kM kG kR kR G) ?_;rintro _ Y ⟨_,_,_,_,rfl,h9⟩;refine R z (h_W z)<|bdB V λ_ ea hmb=>E z (fc call20 z<|W_w5f (B:=Y.z) ea zr (GlW.mono kG kM) (repS.mono h9<|f_U kM lr) (repS.mono kR kM) (repS.mono kR kM) G (kBr 0 3) (zap' (O_ kM) J.lt) H (kBr 0 1) (zap' (O_ kM) L.lt) I (kBr 0 1)<|zap' (O_ kM) O.lt) ?_;rintro _ _ ⟨_,ac,nd,ce,Sf,rfl,hg,hh,_⟩;exact Rw z<|Wr<|rS1 hmb hr z ⟨kW,ac,nd,ce,Sf,z,hg,hh,sQ⟩
theorem n_7 {x1:List Str}{x2:List Str}{res:Bool}(hm:g_z x1 x2=some res)(a1:B<=w0.z)(I:rp w0 B A0 N0 C0 x1)(V:rp w0 B A2 N2 C2 x2):g_ prog 8 [sl A0 N0 C0,sl A2 N2 C2] w0 (Q11 w0 B res):=by
 unfold g_z at hm;refine goG func8 z z z λfn hr=>Ws<|Rw z<|Wq<|Wm z<|R z (lnR z_ z I)<|Rm z<|R z (lnR z_ z V)<|R z (nq z z)<|Wx z (λG=>?_) (λG=>?_)
 .exact Ws<|Rw z<|Wr<|rS1 (ifT hm G) hr z ⟨br w0,z⟩
 refine Wk<|Wq<|Ws<|Rw z<|bdB (ifF hm G) λ_ W J=>Wf (σ:=Unit) (ρ:=Bool) (λ(k3:Nat)(_:Unit) a w=>Sat 26 [(0,sl A0 N0 C0),(1,sl A2 N2 C2),(5,vI ((k3:Nat):Int))] a/\Below w0.z w0 w) (λ(_:Unit) a w=>Sat 26 [] a/\Below w0.z w0 w) (rQ prog fn<|Q11 w0 B) W ?_ ?_ ?_ ?_ ?_
 .exact λ_ q=>⟨kaA q,br w0⟩
 .rintro k3 _ _ _ _ L ⟨Y,_⟩ a0;refine Wu ?_ Y;refine Wq<|Wm z<|Rm z<|R z (lnR z_ z kR)<|Rl z z z<|Wx z (λ_=>?_) (λhc=>(J_ L hc).elim);refine Wk<|Wq<|Wb<|Wq (Wd (X:=noX) 0 (pl_ 9 []) mo (by kernel_rfl) λws st _=>dM z z z<|dM z z z ?_);refine bdB a0 λ_ e9 hma=>dxA (α:=Str) z z z_ z_9 z z z kR e9 λ_ _ _ hb hd _=>?_;obtain ⟨rfl,_⟩:=a_e hd;refine dR z z (l0 g_9 z<|hb.at0 z)<|dM z z z<|dM z z z<|bdB hma λ_ ec O=>dxA (α:=Str) z z z_ z_9 z z z kR ec λ_ _ _ he hf _=>?_;obtain ⟨rfl,_⟩:=a_e hf;refine dR z z (l0 g_9 z<|he.at0 z)<|dR z z (e_z z z)<|pD<|Wo<|Wc z (λH=>?_) (λH=>?_)
  .exact Ws<|Rw z<|Wr<|rtO<|qL (som<|ifT O H).symm<|a_s hr z ⟨kW,z⟩
  exact Wk<|Wg<|Rm z<|R z (inc_ L (lt_ (repS.len I) u_) z z)<|Ra z<|Wl (λ_ q=>⟨(),(som<|ifF O H).symm,⟨kaA q,kW⟩⟩)
 .rintro _ _ _ ⟨hSg,sh⟩;refine Wu ?_ hSg;refine Wq<|Wm z<|Rm z<|R z (lnR z_ z kR)<|Rl z z z<|Wx z (λhc=>(K_ hc).elim) (λ_=>?_);exact We<|λ_ q=>⟨rfl,⟨q.k sn,sh⟩⟩
 .rintro _ ai _ rfl ⟨_,sj⟩;have hmk:=elL J;revert ai;exact Wo<|Ws<|Rw z<|Wr<|rS1 hmk hr z ⟨sj,z⟩
 exact lqA J λ_ _ h=>h.2
theorem W_w2j {x1:Bt}{x2:Bt}{res:Bool}(hm:i_G x1 x2=some res)(a1:B<=w0.z)(I:rp w0 B A0 N0 C0 x1)(V:rp w0 B A2 N2 C2 x2):g_ prog 47 [sl A0 N0 C0,sl A2 N2 C2] w0 (Q11 w0 B res):=by
 unfold i_G at hm;refine goG func47 z z z λfn hr=>Ws<|Rw z<|Wq<|Wm z<|R z (lnR h_ z I)<|Rm z<|R z (lnR h_ z V)<|R z (nq z z)<|Wx z (λG=>?_) (λG=>?_)
 .exact Ws<|Rw z<|Wr<|rS1 (ifT hm G) hr z ⟨br w0,z⟩
 refine Wk<|Wq<|Ws<|Rw z<|bdB (ifF hm G) λ_ W J=>Wf (σ:=Unit) (ρ:=Bool) (λ(k3:Nat)(_:Unit) a w=>Sat 26 [(0,sl A0 N0 C0),(1,sl A2 N2 C2),(5,vI ((k3:Nat):Int))] a/\Below w0.z w0 w) (λ(_:Unit) a w=>Sat 26 [] a/\Below w0.z w0 w) (rQ prog fn<|Q11 w0 B) W ?_ ?_ ?_ ?_ ?_
 .exact λ_ q=>⟨kaA q,br w0⟩
 .rintro k3 _ _ _ _ L ⟨Y,_⟩ a0;refine Wu ?_ Y;refine Wq<|Wm z<|Rm z<|R z (lnR h_ z kR)<|Rl z z z<|Wx z (λ_=>?_) (λhc=>(J_ L hc).elim);refine Wk<|Wq<|Wb<|Wq (Wd (X:=noX) 0 (pl_ 9 []) mo (by kernel_rfl) λws st _=>dM z z z<|dM z z z ?_);refine bdB a0 λ_ e9 hma=>dxA (α:=UInt8) z z h_ z_5 z z z kR e9 λ_ _ _ hb hd _=>?_;obtain rfl:=u8 hd;refine dR z z (l0 g_5 z<|hb.at0 z)<|dM z z z<|dM z z z<|bdB hma λ_ ec O=>dxA (α:=UInt8) z z h_ z_5 z z z kR ec λ_ _ _ he hf _=>?_;obtain rfl:=u8 hf;refine dR z z (l0 g_5 z<|he.at0 z)<|dR z z (nq z z)<|pD<|Wo<|Wc z (λH=>?_) (λH=>?_)
  .exact Ws<|Rw z<|Wr<|rtO<|qL (som<|ifT O H).symm<|a_s hr z ⟨kW,z⟩
  exact Wk<|Wg<|Rm z<|R z (inc_ L (lt_ (repS.len I) u_) z z)<|Ra z<|Wl (λ_ q=>⟨(),(som<|ifF O H).symm,⟨kaA q,kW⟩⟩)
 .rintro _ _ _ ⟨hSg,sh⟩;refine Wu ?_ hSg;refine Wq<|Wm z<|Rm z<|R z (lnR h_ z kR)<|Rl z z z<|Wx z (λhc=>(K_ hc).elim) (λ_=>?_);exact We<|λ_ q=>⟨rfl,⟨q.k sn,sh⟩⟩
 .rintro _ ai _ rfl ⟨_,sj⟩;have hmk:=elL J;revert ai;exact Wo<|Ws<|Rw z<|Wr<|rS1 hmk hr z ⟨sj,z⟩
 exact lqA J λ_ _ h=>h.2
theorem W_w2k {x1:List Int}{x2:List Int}{res:Bool}(hm:i_H x1 x2=some res)(a1:B<=w0.z)(I:rp w0 B A0 N0 C0 x1)(V:rp w0 B A2 N2 C2 x2):g_ prog 209 [sl A0 N0 C0,sl A2 N2 C2] w0 (Q11 w0 B res):=by
 unfold i_H at hm;refine goG func209 z z z λfn hr=>Ws<|Rw z<|Wq<|Wm z<|R z (lnR v_ z I)<|Rm z<|R z (lnR v_ z V)<|R z (nq z z)<|Wx z (λG=>?_) (λG=>?_)
 .exact Ws<|Rw z<|Wr<|rS1 (ifT hm G) hr z ⟨br w0,z⟩
 refine Wk<|Wq<|Ws<|Rw z<|bdB (ifF hm G) λ_ W J=>Wf (σ:=Unit) (ρ:=Bool) (λ(k3:Nat)(_:Unit) a w=>Sat 26 [(0,sl A0 N0 C0),(1,sl A2 N2 C2),(5,vI ((k3:Nat):Int))] a/\Below w0.z w0 w) (λ(_:Unit) a w=>Sat 26 [] a/\Below w0.z w0 w) (rQ prog fn<|Q11 w0 B) W ?_ ?_ ?_ ?_ ?_
 .exact λ_ q=>⟨kaA q,br w0⟩
 .rintro k3 _ _ _ _ L ⟨Y,_⟩ a0;refine Wu ?_ Y;refine Wq<|Wm z<|Rm z<|R z (lnR v_ z kR)<|Rl z z z<|Wx z (λ_=>?_) (λhc=>(J_ L hc).elim);refine Wk<|Wq<|Wb<|Wq (Wd (X:=noX) 0 (pl_ 9 []) mo (by kernel_rfl) λws st _=>dM z z z<|dM z z z ?_);refine bdB a0 λ_ e9 hma=>dxA (α:=Int) z z v_ z_3 z z z kR e9 λ_ _ _ hb hd _=>?_;obtain ⟨rfl,_⟩:=a_z hd;refine dR z z (l0 g_3 z<|hb.at0 z)<|dM z z z<|dM z z z<|bdB hma λ_ ec O=>dxA (α:=Int) z z v_ z_3 z z z kR ec λ_ _ _ he hf _=>?_;obtain ⟨rfl,_⟩:=a_z hf;refine dR z z (l0 g_3 z<|he.at0 z)<|dR z z (nq z z)<|pD<|Wo<|Wc z (λH=>?_) (λH=>?_)
  .exact Ws<|Rw z<|Wr<|rtO<|qL (som<|ifT O H).symm<|a_s hr z ⟨kW,z⟩
  exact Wk<|Wg<|Rm z<|R z (inc_ L (lt_ (repS.len I) u_) z z)<|Ra z<|Wl (λ_ q=>⟨(),(som<|ifF O H).symm,⟨kaA q,kW⟩⟩)
 .rintro _ _ _ ⟨hSg,sh⟩;refine Wu ?_ hSg;refine Wq<|Wm z<|Rm z<|R z (lnR v_ z kR)<|Rl z z z<|Wx z (λhc=>(K_ hc).elim) (λ_=>?_);exact We<|λ_ q=>⟨rfl,⟨q.k sn,sh⟩⟩
 .rintro _ ai _ rfl ⟨_,sj⟩;have hmk:=elL J;revert ai;exact Wo<|Ws<|Rw z<|Wr<|rS1 hmk hr z ⟨sj,z⟩
 exact lqA J λ_ _ h=>h.2
theorem W_w5g {x1:f_}{x2:f_}{res:Bool}(hm:k_l x1 x2=some res)(af:B<=w0.z)(a0:x1.name.b.length<=LEN)(a1:inI x1.kind)(a2:inI x1.size)(a3:rp w0 B AB NB CB x1.bytes)(a4:rp w0 B AA NA CA x1.names)(a5:rp w0 B AC NC CC x1.tags)(a6:rp w0 B AD ND CD x1.kids)(a7:x2.name.b.length<=LEN)(a8:inI x2.kind)(a9:inI x2.size)(aa:rp w0 B A4 N4 C4 x2.bytes)(ab:rp w0 B A5 N5 C5 x2.names)(ad:rp w0 B A3 N3 C3 x2.tags)(ae:rp w0 B A6 N6 C6 x2.kids):g_ prog 182 [(.agg #[Str.v x1.name,vI x1.kind,vI x1.size,vB x1.little,sl AB NB CB,sl AA NA CA,sl AC NC CC,sl AD ND CD]),(.agg #[Str.v x2.name,vI x2.kind,vI x2.size,vB x2.little,sl A4 N4 C4,sl A5 N5 C5,sl A3 N3 C3,sl A6 N6 C6])] w0 (Q11 w0 B res):=by
 unfold k_l at hm;refine goG func182 z z z λfn hr=>Ws<|EvX (vR x1 AB NB CB AA NA CA AC NC CC AD ND CD) z z z λw8 _ _=>EvX (vR x2 A4 N4 C4 A5 N5 C5 A3 N3 C3 A6 N6 C6) z z z λwi _ G=>Rw z<|Wq<|Ws<|Rf z e_P z<|R z (l0 g_9 z kBa)<|Rf z e_P z<|R z (l0 g_9 z<|G.at z)<|R z (e_z z z)<|Wx z (λH=>?_) (λH=>?_)
 .exact Ws<|Rw z<|Wr<|rS1 (ifT hm H) hr z ⟨kW,z⟩
 have hmb:=ifF hm H;refine Wk<|Wq<|Ws<|Rf z a_r z<|R z (l0 g_3 z kBa)<|Rf z a_r z<|R z (l0 g_3 z<|G.at z)<|R z (nq z z)<|Wx z (λI=>?_) (λI=>?_)
 .exact Ws<|Rw z<|Wr<|rS1 (ifT hmb I) hr z ⟨kW,z⟩
 have hmc:=ifF hmb I;refine Wk<|Wq<|Ws<|Rf z a_V z<|R z (l0 g_3 z kBa)<|Rf z a_V z<|R z (l0 g_3 z<|G.at z)<|R z (nq z z)<|Wx z (λJ=>?_) (λJ=>?_)
 .exact Ws<|Rw z<|Wr<|rS1 (ifT hmc J) hr z ⟨kW,z⟩
 have hmd:=ifF hmc J;refine Wk<|Wq<|Ws<|Rf z e_k z<|R z (l0 g_4 z kBa)<|Rf z e_k z<|R z (l0 g_4 z<|G.at z)<|R z (v_i d_4 z z)<|Wx z (λL=>?_) (λL=>?_)
 .exact Ws<|Rw z<|Wr<|rS1 (ifT hmd L) hr z ⟨kW,z⟩
 refine Wk<|Wq<|Ws<|Rf z b_F z<|R z (l0 B_ z kBa)<|Rf z b_F z<|R z (l0 B_ z<|G.at z)<|bdB (ifF hmd L) λ_ ej hme=>EcA z (fc call47 z<|W_w2j (B:=B) ej kM kR kR) λ_ _=>R z (not_ z)<|Wx z (λO=>?_) (λO=>?_)
 .exact Ws<|Rw z<|Wr<|rS1 (ifT hme O) hr z ⟨kW,z⟩
 refine Wk<|Wq<|Ws<|Rf z c_r z<|R z (l0 a_A z kBa)<|Rf z c_r z<|R z (l0 a_A z kBa)<|bdB (ifF hme O) λ_ ek hmf=>EcA z (fc call8 z<|n_7 (B:=B) ek kM kR kR) λ_ _=>R z (not_ z)<|Wx z (λV=>?_) (λV=>?_)
 .exact Ws<|Rw z<|Wr<|rS1 (ifT hmf V) hr z ⟨kW,z⟩
 refine Wk<|Wq<|Ws<|Rf z b_G z<|R z (l0 A_ z kBa)<|Rf z b_G z<|R z (l0 A_ z kBa)<|bdB (ifF hmf V) λ_ el hmg=>EcA z (fc call209 z<|W_w2k (B:=B) el kM kR kR) λ_ _=>R z (not_ z)<|Wx z (λW=>?_) (λW=>?_)
 .exact Ws<|Rw z<|Wr<|rS1 (ifT hmg W) hr z ⟨kW,z⟩
 refine Wk<|Wq<|Ws<|Rf z Q_ z<|R z (l0 A_ z kBa)<|Rf z Q_ z<|R z (l0 A_ z kBa)<|bdB (ifF hmg W) λ_ em hmh=>EcA z (fc call209 z<|W_w2k (B:=B) em kM kR kR) λ_ _=>R z (not_ z)<|Wx z (λY=>?_) (λY=>?_)
 .exact Ws<|Rw z<|Wr<|rS1 (ifT hmh Y) hr z ⟨kW,z⟩
 exact Wk<|Ws<|Rw z<|Wr<|rS1 (ifF hmh Y) hr z ⟨kW,z⟩
end Go.Vw
