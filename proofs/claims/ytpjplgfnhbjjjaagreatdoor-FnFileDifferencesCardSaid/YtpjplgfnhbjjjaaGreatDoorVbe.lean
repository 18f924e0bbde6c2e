
import Derived.Test.YtpjplgfnhbjjjaaGreatDoorVbd
set_option linter.unusedVariables false
namespace Go.Vw
open Go.RowKit Dat Go.Proofs
set_option maxHeartbeats 4000000
set_option maxRecDepth 4000
open Go.Proofs.Tryz
open Go.Vw renaming S_->Wq,a_b->Wg,WC.of_KC->Wo,a_5->Wl,b_F->Wc,b_E->Wr,e_r->Wu,f_c->pT,f_d->pF,f_o->fd,c_c->l1,b_a->lN,a_c->mv,a_u->asg,f_e->lnR,d_A->lss,g_p->eql,c_R->ext_,g_e->bP,g_o->add_,f_8->inc_,c_S->not_,d_Z->at_,b_q->fc,b_0->fs,c_o->fb,c_H->fa,c_P->sr,g_b->cr,g_c->cM,d_8->bM,h_8->iS,h_7->iA,f_7->br,b_h->oA,g_0->bs,g_1->lg,g_6->io,g_q->nq,h_n->lnT,h_o->sb_,h_d->ar_,h_c->al_,b_y->ds,h_R->m1,g_8->nr_,g_7->nl_,d_x->aa_,c_8->an_,d_r->Wb,f_Y->u8,d_V->pD,f_1->We,f_W->Wt,f_U->fS,e_Z->or_,g_j->Wf,g_f->qL,e_i->Wd,h_f->fN,f_b->na_,g_a->nj,f_f->f0,h_e->rX,h_g->tl_,h_h->ic
variable {A0:Option Addr}{N0 C0:Nat}{B:Zone}{w0:World}{n:Nat}{AA:Option Addr}{NA CA:Nat}{AF:Option Addr}{AC:Option Addr}{AG:Option Addr}{AH:Option Addr}{NF CF:Nat}{NC CC:Nat}{NG CG:Nat}{NH CH:Nat}{A8:Option Addr}{A4:Option Addr}{N8 C8:Nat}{N4 C4:Nat}{A5:Option Addr}{A6:Option Addr}{A3:Option Addr}{A7:Option Addr}{N5 C5:Nat}{N6 C6:Nat}{N3 C3:Nat}{N7 C7:Nat}{A1:Option Addr}{A2:Option Addr}{N1 C1:Nat}{N2 C2:Nat}{AD:Option Addr}{AE:Option Addr}{ND CD:Nat}{NE CE:Nat}{AB:Option Addr}{NB CB:Nat}{A9:Option Addr}{N9 C9:Nat}{AP:Option Addr}{NP CP:Nat}
def Q32 (w0:World)(B:Zone)(r:(List Str)×Bool)(v:Value)(w':World):Prop:=Bw w0 w'/\un2 (λr1 r2=>∃(G:Option Addr)(H I:Nat)(S1:List Nat),v = .tuple #[(sl G H I),(vB r2)]/\a_ w' S1 (sl G H I) r1/\S1.Nodup/\(∀k∈S1,w0.heap.size<=k)) r
theorem u_m {w:World}{gp b:Nat}{s:Str}{l0 parts:List Str}(hs:s.b.length<=LEN)(hm:h_X s (47:UInt8)=some l0)(hsl:slc l0 1 (l0.length:Int)=some parts)(hp:Blk w gp [Str.v s])(hb:b<w.heap.size)(hrow:∀g,d_P w b g->g<w.heap.size) :
    SeqStopsK (α:={x:Str // x∈parts/\x.b.length<=LEN}) Fence.wide 1 Tryz.prog 147 [pt gp].toArray (λx=>#[x.1.v]) (KpS b) (λxs=>xs.map (·.1)=parts) (λ_=>True) parts.length w:=by
  intro l J Jx W hW hJ hJx hY h0;have hpW:=hp.ext hW
  have hrowW:∀g,d_P W b g->g<W.heap.size:=λg ⟨n,c,h⟩=>by
    have h':w.cell? ⟨b,0,none⟩=some (sl (some ⟨g,0,none⟩) n c):=(World.cell?_of_block (w:=w) (w':=W) (a:=⟨b,0,none⟩)<|hW.block b hb).symm.trans h;exact Nat.lt_of_lt_of_le (hrow g ⟨n,c,h'⟩) hW.size
  have hbW:=Nat.lt_of_lt_of_le hb hW.size
  have hc:g_ Tryz.prog 147 [.func (.yield l) #[] #[],pt gp] W (λ_ W'=>(∃xs:List {x:Str // x∈parts/\x.b.length<=LEN},xs.map (·.1)=parts/\J xs W')∨(∃pre,True/\Jx pre W')):=by
    obtain ⟨fn,hf,hbd,hN,hr⟩:=fnE Tryz.func147;refine g_i hf (hbd.trans rfl) (hN.trans rfl) (Nat.le_of_ble_eq_true rfl) ?_;refine S_<|a_b ?_;refine R rfl (c_c g_9 rfl (λh=>h)<|hpW.at rfl) ?_;refine E rfl (b_q Tryz.call148 rfl<|W_w3a (B:=W.heap.size) hm zr hs) ?_;rintro _ W1 ⟨s1,a1,n1,c1,S1,rfl,ho,nd,hge⟩;refine RX rfl (u_F a_2 z_9 rfl ho rfl rfl hsl) ?_;intro v7 hv7;obtain ⟨ao7,c7,rfl,_⟩:=id hv7;refine R rfl (f_e a_2 rfl<|hv7.repS (B:=W1.heap.size)<|λk hk=>ho.lt k hk) ?_;refine R rfl (a_c rfl) ?_;refine a_5<|WC.of_KC ?_;have hJ1:J [] W1:=hJ [] W W1 none h0 (Below.grows s1) (λr h=>by cases h);have hb1:b∉S1:=λh=>absurd (hge b h)<|Nat.not_le.2 hbW
    have hr1:∀g,d_P W1 b g->g∉S1:=λg ⟨n,c,h⟩ hg=>by
      have h':W.cell? ⟨b,0,none⟩=some (sl (some ⟨g,0,none⟩) n c):=(World.cell?_of_block (w:=W) (w':=W1) (a:=⟨b,0,none⟩)<|s1.block b hbW).symm.trans h;exact absurd (hge g hg)<|Nat.not_le.2<|hrowW g ⟨n,c,h'⟩
    have hlenL:parts.length<=9223372036854775807:=Nat.le_trans (by obtain ⟨_,_,_,_,h,_⟩:=hv7;exact h) y_;refine d_r λa ha=>?_
    refine Code.wp_mono (Q:=Exit.then noK<|λex a w=>(ex = .exit 0/\b_G Tryz.prog fn (λ_ W'=>(∃xs:List {x:Str // x∈parts/\x.b.length<=LEN},xs.map (·.1)=parts/\J xs W')∨(∃pre,True/\Jx pre W')) a w)∨(ex = .ret/\b_G Tryz.prog fn (λ_ W'=>(∃xs:List {x:Str // x∈parts/\x.b.length<=LEN},xs.map (·.1)=parts/\J xs W')∨(∃pre,True/\Jx pre W')) a w)) (λex a' w' q=>?_)<|wp_loop_ghost (λm a w=>∃(k:Nat)(pre:List {x:Str // x∈parts/\x.b.length<=LEN}),k+m=parts.length/\pre.map (·.1)=parts.take k/\Sat 18 [(9,vI (k:Int)),(8,vI (parts.length:Int)),(7,sl ao7 parts.length c7),(0,.func (.yield l) #[] #[])] a/\J pre w/\a_ w S1 (sl a1 n1 c1) l0/\(∀g,d_P w b g->g∉S1)/\e_X w (· ∈ S1) (sl ao7 parts.length c7) parts) parts.length ?_ ?_
    . cases ex with
      | normal=>exact (show False from q).elim
      | exit i =>
        rcases q with ⟨h,q⟩ | ⟨h,_⟩
        . cases h;exact q
        . cases h
      | ret =>
        rcases q with ⟨h,_⟩ | ⟨_,q⟩
        . cases h
        . exact q
      | _=>rcases q with ⟨h,_⟩ | ⟨h,_⟩ <;> cases h
    . exact ⟨0,[],by omega,by simp,ha.weaken<|sc rfl<|sc rfl<|sc rfl<|sc rfl sn,hJ1,ho,hr1,hv7⟩
    . rintro m a w ⟨k,pre,hkm,hpre,hsat,hJw,how,hrw,hvw⟩
      refine e_r (N:=18) (e:=[(9,vI (k:Int)),(8,vI (parts.length:Int)),(7,sl ao7 parts.length c7),(0,.func (.yield l) #[] #[])]) ?_ hsat;refine S_<|a_b<|R rfl (d_A rfl rfl)<|a_5<|WC.of_KC ?_;refine S_<|b_F rfl (λhc=>?_)<|λhc=>?_
      . have hk:k<parts.length:=by simpa using hc
        obtain ⟨m,rfl⟩:∃m',m=m'+1:=⟨m - 1,by omega⟩;refine a_7<|WC.of_KC ?_;refine S_<|d_r ?_;refine S_<|a_b ?_;have hrep:=hvw.repS (B:=w.heap.size)<|λk hk=>how.lt k hk;have hidx:idx parts (k:Int)=some parts[k]:=by rw [n_k];simp [hk]
        refine RX rfl (d_Z (α:=Str) a_2 z_9 rfl rfl rfl hrep hidx) ?_;rintro _ ⟨bb,oo,cs,rfl,hc1,hrr,hlt⟩;obtain ⟨rfl,hxl⟩:=b_l hrr;refine R rfl (c_c g_9 rfl (λh=>h)<|hc1.at0 rfl) ?_;refine R rfl (a_u rfl) ?_;refine a_5<|WC.of_KC ?_;refine S_<|u_y ?_;refine k_K rfl (a_c rfl) ?_;refine k_K rfl (a_c rfl) ?_
        have hpl:pre.length=k:=by
          have:=congrArg List.length hpre
          simp at this;omega
        refine u_z (S:=λv w'=>(v=vB true/\J (pre++[⟨parts[k],List.getElem_mem hk,hxl⟩]) w'/\KpS b w w')∨(v=vB false/\Jx (pre++[⟨parts[k],List.getElem_mem hk,hxl⟩]) w')) rfl rfl rfl (hY pre ⟨parts[k],List.getElem_mem hk,hxl⟩ w hJw (by omega)) (λe w' h=>?_) ?_
        . rcases h with ⟨rfl,h⟩ | ⟨rfl,h⟩
          . exact ⟨_,rfl,.inl ⟨rfl,h⟩⟩
          . exact ⟨_,rfl,.inr ⟨rfl,h⟩⟩
        rintro v w' (⟨rfl,hJ',hK⟩ | ⟨rfl,hX⟩)
        . refine k_K rfl (c_S rfl) ?_
          refine p_B<|WC.of_KC ?_;refine b_F rfl (λh=>by cases h)<|λ_=>?_;refine a_7<|WC.of_KC ?_;refine a_b<|R rfl (f_8 hk hlenL rfl rfl)<|R rfl (a_c rfl) ?_;obtain ⟨ho',hr'⟩:=hK.own how hb1 hrw
          have hv':e_X w' (· ∈ S1) (sl ao7 parts.length c7) parts:=hvw.stay λg hg=>hK.chg.block g (how.lt g hg) λhm=>by
            rcases hm with rfl | hm | ⟨o,ho2,hcl⟩
            . exact hb1 hg
            . exact hrw g hm hg
            . obtain ⟨cur,hB⟩:=h_P how g hg
              rw [hB.isCells ho2] at hcl;cases hcl
          refine a_5 λa' ha'=>⟨m,Nat.lt_succ_self _,k+1,pre++[⟨parts[k],List.getElem_mem hk,hxl⟩],by omega,?_,ha'.weaken<|sc rfl<|sc rfl<|sc rfl<|sc rfl sn,hJ',ho',hr',hv'⟩
          rw [List.map_append,hpre,List.take_add_one,List.getElem?_eq_getElem hk];rfl
        . refine k_K rfl (c_S rfl) ?_
          refine p_B<|WC.of_KC ?_;refine b_F rfl (λ_=>?_) (λh=>by cases h);exact b_E<|rtO λa' ha'=>.inr ⟨rfl,ret0 hr (.inr ⟨_,trivial,hX⟩) a' ha'⟩
      . have hk:¬k<parts.length:=by simpa using hc
        have:k=parts.length:=by omega
        subst this;refine f_1 λa' ha'=>.inl ⟨rfl,ret0 hr (.inl ⟨pre,?_,hJw⟩) a' ha'⟩
        rw [hpre,List.take_length]
  refine callsIn_wide.2<|hc.run.mono λe w' ⟨v,he,h⟩=>⟨⟨v,he⟩,h⟩
theorem p_u {w0 W W':World}{row:Option Nat}(h:Below w0.heap.size w0 W)(hg:W.grownBy W' row)(hr:∀r,row=some r->w0.heap.size<=r):Below w0.heap.size w0 W':=b_Z h (m_N hg) λk hk e=>absurd (hr k e)<|Nat.not_le.2 hk
def u_n (w0:World)(s:Str)(v:Value)(w':World):Prop:=v = .func (.func 147) #[] #[pt w0.heap.size]/\Blk w' w0.heap.size [Str.v s]/\Bw w0 w'
theorem u_o {w0:World}{s:Str}:g_ Tryz.prog 129 [Str.v s] w0 (u_n w0 s):=by
  obtain ⟨_,hf,hb,hN,hr⟩:=fnE Tryz.func129;refine g_i hf (hb.trans rfl) (hN.trans rfl) (Nat.le_of_ble_eq_true rfl) ?_;refine S_<|a_b ?_;refine E rfl (c_o rfl) ?_;rintro _ G ⟨rfl,h1⟩;refine R rfl (a_u rfl) ?_;refine a_5<|WC.of_KC ?_;refine S_<|a_b ?_;refine R rfl (j_L rfl) ?_;refine R rfl (a_u rfl) ?_;refine a_5<|WC.of_KC ?_;exact b_E<|a_R hr rfl ⟨rfl,(h1.blk:Blk G w0.heap.size [Str.v s]),h1.below⟩
theorem W_w3c {n:Nat}{B:Zone}{x1:Str}{res:(List Str)×Bool}{w0:World}(hm:k_M n x1=some res)(hBw:B<=w0.heap.size)(p1_0:x1.b.length<=LEN):g_ Tryz.prog 95 [(Str.v x1),.func (.func 96) #[] #[]] w0 (Q32 w0 B res):=by
  unfold k_M at hm
  obtain ⟨fn,hf,hb,hN,hr⟩:=fnE Tryz.func95;refine u_C hf (hb.trans rfl) (hN.trans rfl) (Nat.le_of_ble_eq_true rfl) ?_
  -- the cells
  refine S_<|a_b ?_;refine E rfl (c_o rfl) ?_;rintro _ w1 ⟨rfl,h1⟩;have b3:Blk w1 w0.heap.size [.func (.func 96) #[] #[]]:=h1.blk;refine E rfl (c_H p_i) ?_;rintro _ w2 ⟨rfl,h2⟩;have b4:Blk w2 w1.heap.size [.slice none 0 0]:=h2.blk;refine E rfl (c_H zero_4) ?_;rintro _ w3 ⟨rfl,h3⟩;have b5:Blk w3 w2.heap.size [vB false]:=h3.blk;refine a_5<|WC.of_KC ?_;refine S_<|a_b ?_;refine E rfl (f_f (α:=Str) a_E) ?_;rintro _ w4 ⟨a,m,c,rfl,s4,ho4⟩;refine E rfl (c_H p_i) ?_;rintro _ w5 ⟨rfl,h5⟩;have b6:Blk w5 w4.heap.size [.slice none 0 0]:=h5.blk;refine E0 (b_0 (cur':=[.slice a m c]) g_F rfl rfl b6 rfl (Nat.le_of_ble_eq_true rfl) (b_h rfl) rfl) ?_;rintro _ w6 ⟨c6,s6⟩;have t6:=s6.one;refine a_5<|WC.of_KC ?_
  -- what is known behind
  have g1:=h1.below;have g2:=h2.below;have g3:=h3.below;have g5:=h5.below;have z1:=h1.size;have z2:=h2.size;have z3:=h3.size;have z5:=h5.size;have z4:=s4.size;have z6:=s6.size
  have hz:w0.heap.size<w1.heap.size/\w1.heap.size<w2.heap.size/\w2.heap.size<w3.heap.size/\w3.heap.size<w4.heap.size/\w4.heap.size<w6.heap.size:=by
    have:=ho4.lt _ List.mem_cons_self
    omega
  have k3:Blk w6 w0.heap.size [.func (.func 96) #[] #[]]:=((((b3.ext g2).ext g3).ext s4).ext g5).chg s6 (by omega);have k4:Blk w6 w1.heap.size [.slice none 0 0]:=(((b4.ext g3).ext s4).ext g5).chg s6 (by omega);have k5:Blk w6 w2.heap.size [vB false]:=((b5.ext s4).ext g5).chg s6 (by omega);have kS:a_ w6 [w3.heap.size] (sl a m c) ([]:List Str):=(ho4.ext g5).chg s6 (λk hk=>by have:=List.mem_singleton.1 hk;omega);have kB:Below w0.heap.size w0 w6:=d_8 (bup (bup (bup (bup g1 g2) g3) s4) g5) t6 (λk hk=>by have:=List.mem_singleton.1 hk;omega)
  clear b3 b4 b5 b6 ho4 h1 h2 h3 h5 s4 s6 t6 g1 g2 g3 g5 z1 z2 z3 z4 z5 z6
  -- the first look
  refine S_<|S_<|a_b ?_;refine R rfl (a_c rfl) ?_;refine R rfl (b_J rfl rfl) ?_;refine a_5<|WC.of_KC ?_;refine b_F rfl (λhc=>?_)<|λhc=>?_
  . obtain rfl:=som (ifT hm hc)
    refine S_<|a_b ?_;refine R rfl (c_c b_n rfl (λh=>h)<|c6.at rfl) ?_;refine E0 (b_0 (cur':=[.slice a m c]) g_F rfl rfl k4 rfl (Nat.le_of_ble_eq_true rfl) (b_h rfl) rfl) ?_;rintro _ w7 ⟨c7,s7⟩;refine E0 (b_0 (cur':=[vB true]) z_4 rfl rfl (k5.chg s7 (by omega)) rfl (Nat.le_of_ble_eq_true rfl) (b_h rfl) rfl) ?_;rintro _ w8 ⟨c8,s8⟩;refine a_5<|WC.of_KC ?_;refine b_E λa' ha'=>retM<|b_A hr (f_g (n:=1) b_n rfl<|c7.chg s8 (by omega)) (f_g (n:=1) g_4 rfl c8) ⟨d_8 (d_8 kB s7.one (λk hk=>by have:=List.mem_singleton.1 hk;omega)) s8.one (λk hk=>by have:=List.mem_singleton.1 hk;omega),?_⟩ a' ha'
    exact ⟨a,m,c,_,rfl,(kS.chg s7 (λk hk=>by have:=List.mem_singleton.1 hk;omega)).chg s8 (λk hk=>by have:=List.mem_singleton.1 hk;omega),(by simp),λk hk=>by have:=List.mem_singleton.1 hk;omega⟩
  replace hm:=ifF hm hc;refine a_7<|WC.of_KC ?_
  -- the first byte
  refine S_<|S_<|a_b ?_;refine R rfl (a_c rfl) ?_;obtain ⟨x13,e13,hm⟩:=bdS hm;refine R rfl (c_t d_9 rfl rfl (a_o e13).1 (a_o e13).2.1) ?_;refine R rfl (g_q rfl rfl) ?_;refine a_5<|WC.of_KC ?_;refine b_F rfl (λhc=>?_)<|λhc=>?_
  . obtain rfl:=som (ifT hm hc)
    refine S_<|a_b ?_;refine R rfl (c_c b_n rfl (λh=>h)<|c6.at rfl) ?_;refine E0 (b_0 (cur':=[.slice a m c]) g_F rfl rfl k4 rfl (Nat.le_of_ble_eq_true rfl) (b_h rfl) rfl) ?_;rintro _ w7 ⟨c7,s7⟩;refine E0 (b_0 (cur':=[vB false]) z_4 rfl rfl (k5.chg s7 (by omega)) rfl (Nat.le_of_ble_eq_true rfl) (b_h rfl) rfl) ?_;rintro _ w8 ⟨c8,s8⟩;refine a_5<|WC.of_KC ?_;refine b_E λa' ha'=>retM<|b_A hr (f_g (n:=1) b_n rfl<|c7.chg s8 (by omega)) (f_g (n:=1) g_4 rfl c8) ⟨d_8 (d_8 kB s7.one (λk hk=>by have:=List.mem_singleton.1 hk;omega)) s8.one (λk hk=>by have:=List.mem_singleton.1 hk;omega),?_⟩ a' ha'
    exact ⟨a,m,c,_,rfl,(kS.chg s7 (λk hk=>by have:=List.mem_singleton.1 hk;omega)).chg s8 (λk hk=>by have:=List.mem_singleton.1 hk;omega),(by simp),λk hk=>by have:=List.mem_singleton.1 hk;omega⟩
  replace hm:=ifF hm hc;refine a_7<|WC.of_KC ?_;obtain ⟨l0,hsp,hm⟩:=bdS hm;obtain ⟨parts,hsl,hm⟩:=bdS hm;obtain ⟨oks,hok,hm⟩:=bdS hm
  split at hm
  case isFalse=>cases hm
  rename_i hlim
  obtain rfl:=som hm;obtain ⟨hacc,hall⟩:=p_H hok
  -- the loop
  refine S_<|S_<|a_b ?_;refine R rfl (a_c rfl) ?_;refine E rfl (b_q Tryz.call129 rfl u_o) ?_;rintro _ w7 ⟨rfl,bp,s7⟩;refine a_5<|WC.of_KC ?_;replace k3:=k3.ext s7;replace k4:=k4.ext s7;replace k5:=k5.ext s7;replace c6:=c6.ext s7;replace kS:=kS.ext s7;replace kB:=bup kB<|s7.mono<|Nat.le_refl _;have z7:=s7.size
  have hrow:∀g,d_P w7 w4.heap.size g->g<w7.heap.size:=λg hg=>by
    have h1:=p_E c6 hg;exact kS.lt _<|(k_L kS).2 g 0 none h1
  generalize w1.heap.size=q4 at *
  generalize w2.heap.size=q5 at *
  generalize w4.heap.size=q6 at *
  refine u_D (α:={x:Str // x∈parts/\x.b.length<=LEN}) (f:=λx=>x.1) (gf:=147) (lb:=[pt w6.heap.size]) (b:=q6) (M:=parts.length) (S:=λxs=>xs.map (·.1)=parts) (Sp:=λ_=>True) rfl Tryz.call147 rfl rfl (by omega)
    (u_m p1_0 hsp hsl bp (by omega) hrow)
    (λpre W=>(∀x∈pre,(g_P n x.1).getD false=true)/\(∃(a:Option Addr)(m c:Nat)(S:List Nat),Blk W q6 [.slice a m c]/\a_ W S (sl a m c) (pre.map (·.1))/\S.Nodup/\(∀k∈S,q5<k/\k ≠ q6))/\Blk W w0.heap.size [.func (.func 96) #[] #[]]/\Blk W q4 [.slice none 0 0]/\Blk W q5 [vB false]/\Below w0.heap.size w0 W)
    (λpre W=>(∃x∈pre,(g_P n x.1).getD false=false)/\(∃(a:Option Addr)(m c:Nat)(S:List Nat),Blk W q4 [.slice a m c]/\a_ W S (sl a m c) ([]:List Str)/\S.Nodup/\(∀k∈S,w0.heap.size<=k))/\Blk W q5 [vB false]/\Below w0.heap.size w0 W)
    ?_ ?_ ?_ ?_ ?_ ?_
  . rintro pre W W' row ⟨h1,⟨a,m,c,S,h2,h3,h4,h5⟩,h6,h7,h8,h9⟩ hg hr
    have hr':=λr e=>(hr r e).2
    exact ⟨h1,⟨a,m,c,S,h2.grown hg hr',p_G h3 hg hr',h4,h5⟩,h6.grown hg hr',h7.grown hg hr',h8.grown hg hr',p_u h9 hg λr e=>Nat.le_trans (by omega) (hr r e).1⟩
  . rintro pre W W' row ⟨h1,⟨a,m,c,S,h2,h3,h4,h5⟩,h8,h9⟩ hg hr
    have hr':=λr e=>(hr r e).2
    exact ⟨h1,⟨a,m,c,S,h2.grown hg hr',p_G h3 hg hr',h4,h5⟩,h8.grown hg hr',p_u h9 hg λr e=>Nat.le_trans (by omega) (hr r e).1⟩
  . exact ⟨λx hx=>(by cases hx),⟨a,m,c,_,c6,kS,(by simp),λk hk=>by have:=List.mem_singleton.1 hk;omega⟩,k3,k4,k5,kB⟩
  . rintro l pre ⟨x,hx,hxl⟩ W ⟨h1,⟨a,m,c,S,h2,h3,h4,h5⟩,h6,h7,h8,h9⟩ hlt
    refine u_x<|m_M<|m_M<|m_L rfl (λ_ _ h=>by cases h.1) ?_;refine R rfl (c_c g_137 rfl (λh=>h)<|h6.at rfl) ?_;refine R rfl (a_c rfl) ?_;refine E rfl (e_m (caps:=[]) Tryz.call96 rfl rfl<|W_w3b (hacc x hx) zr hxl) ?_;rintro _ W1 ⟨s1,rfl⟩;refine R rfl (c_S rfl) ?_;refine a_5<|WCI.of_KC ?_;have y1:=s1.size;have hq6:=h2.lt;have hw0.heap.size:=h6.lt;have hq4:=h7.lt;have hq5:=h8.lt;refine u_u rfl (λhc=>?_)<|λhc=>?_
    . refine m_M (m_L rfl (λ_ _ h=>by cases h.1) ?_)
      refine E rfl (f_f (α:=Str) a_E) ?_;rintro _ W2 ⟨a2,m2,c2,rfl,s2,ho2⟩;refine E0 (b_0 (cur':=[.slice a2 m2 c2]) g_F rfl rfl ((h7.ext s1).ext s2) rfl (Nat.le_of_ble_eq_true rfl) (b_h rfl) rfl) ?_;rintro _ W3 ⟨c3,s3⟩;refine E0 (b_0 (cur':=[vB false]) z_4 rfl rfl (((h8.ext s1).ext s2).chg s3 (by omega)) rfl (Nat.le_of_ble_eq_true rfl) (b_h rfl) rfl) ?_;rintro _ W4 ⟨c4,s4⟩;refine a_5<|WCI.of_KC ?_;have hW:Below W.heap.size W W2:=bup s1 s2
      have hc4:Chg (λk=>k=q4∨k=q5) W W4:=by
        have e1:Chg (λk=>k=q4∨k=q5) W W2:=(Chg.refl _ W).ext hW;refine (e1.comp s3 λk _ hk=>.inl hk).comp s4 λk _ hk=>.inr hk
      refine u_w λ_ q=>⟨rfl,p_F hc4 λk _ hk=>?_,⟨⟨x,hx,hxl⟩,by simp,by simpa using hc⟩,⟨a2,m2,c2,_,c3.chg s4 (by omega),(ho2.chg s3 λk hk=>by have:=List.mem_singleton.1 hk;omega).chg s4 λk hk=>by have:=List.mem_singleton.1 hk;omega,(by simp),λk hk=>by have:=List.mem_singleton.1 hk;omega⟩,c4,?_⟩
      . rcases hk with rfl | rfl
        . exact ⟨_,h7⟩
        . exact ⟨_,h8⟩
      . exact b_Z h9 hc4 λk hk hm=>by rcases hm with rfl | rfl <;> omega
    . refine u_v (WCI.of_KC ?_)
      refine m_L rfl (λ_ _ h=>by cases h.1) ?_
      have hpsh:psh (pre.map (·.1)) x=some (pre.map (·.1)++[x]):=by
        unfold psh
        rw [if_pos (by rw [List.length_map];omega)]
      refine R rfl (c_c b_n rfl (λh=>h)<|(h2.ext s1).at rfl) ?_;refine R rfl (a_c rfl) ?_;refine E rfl (f_U [(.tmp 25)] a_E rfl rfl rfl (T_ rfl) (Nat.le_of_ble_eq_true rfl)<|Nat.le_of_ble_eq_true rfl) ?_;rintro _ W2 ⟨rfl,hb⟩;have s2:=hb.below;have y2:=s2.size;refine E rfl (a_q (α:=Str) a_E hpsh rfl rfl ((h3.ext s1).ext s2) h4 hb.blk (b_U hxl) c_8 x_) ?_;rintro _ W3 ⟨S',a',n',c',rfl,s3,ho3,nd3,hs3⟩;have y3:=s3.size
      have n3:∀k,k<W.heap.size->k<=q5∨k=q6->k∉S':=λk hk hq hm=>by
        rcases hs3 k hm with h | h | h
        . have:=h5 k h;omega
        . cases h
        . omega
      refine E0 (b_0 (cur':=[.slice a' n' c']) g_F rfl rfl (((h2.ext s1).ext s2).chg s3 (λhm=>(h5 _ hm).2 rfl)) rfl (Nat.le_of_ble_eq_true rfl) (b_h rfl) rfl) ?_;rintro _ W4 ⟨c4,s4⟩;have hW:Below W.heap.size W W2:=bup s1 s2
      have hc4:Chg (λk=>k=q6∨k∈S) W W4:=by
        have e1:Chg (λk=>k=q6∨k∈S) W W2:=(Chg.refl _ W).ext hW;refine (e1.comp s3 λk _ hk=>.inr hk).comp s4 λk _ hk=>.inl hk
      have ho4:a_ W4 S' (sl a' n' c') (pre.map (·.1)++[x]):=ho3.chg s4 λk hk he=>n3 q6 hq6 (.inr rfl)<|he ▸ hk
      have hs4:∀k∈S',k∈S∨W.heap.size<=k:=λk hk=>by
        rcases hs3 k hk with h | h | h
        . exact .inl h
        . cases h
        . exact .inr (by omega)
      have k4:∀k,k<=q5->¬(k=q6∨k∈S):=λk hk hm=>by
        rcases hm with rfl | hm
        . omega
        . have:=h5 k hm;omega
      refine a_5 λa'' ha''=>⟨p_F hc4 λk _ hk=>?_,KpS.of_chg h2 h3 c4 ho4 hs4 hc4,λy hy=>?_,⟨a',n',c',S',c4,by simpa using ho4,nd3,λk hk=>?_⟩,h6.chg hc4<|k4 _ (by omega),h7.chg hc4<|k4 _ (by omega),h8.chg hc4<|k4 _ (by omega),b_Z h9 hc4 λk hk hm=>k4 k (by omega) hm⟩
      . rcases hk with rfl | hk
        . exact ⟨_,h2⟩
        . exact h_P h3 k hk
      . rcases List.mem_append.1 hy with hy | hy
        . exact h1 y hy
        . obtain rfl:=List.mem_singleton.1 hy
          simpa using hc
      . rcases hs4 k hk with h | h
        . exact h5 k h
        . omega
  . rintro D xs W hD hxs ⟨h1,⟨a,m,c,S,h2,h3,h4,h5⟩,h6,h7,h8,h9⟩ hdef a0 ha0
    have hw0.heap.size:=h6.lt;have hq4:=h7.lt;have hq5:=h8.lt;refine tailD ?_ ha0;refine R rfl (c_c b_n rfl (λh=>h)<|h2.at rfl) ?_;refine E0 (b_0 (cur':=[.slice a m c]) g_F rfl rfl h7 rfl (Nat.le_of_ble_eq_true rfl) (b_h rfl) rfl) ?_;rintro _ W1 ⟨c7,s7⟩;refine E0 (b_0 (cur':=[vB true]) z_4 rfl rfl (h8.chg s7 (by omega)) rfl (Nat.le_of_ble_eq_true rfl) (b_h rfl) rfl) ?_;rintro _ W2 ⟨c8,s8⟩;have hDlt:=(Array.getElem?_eq_some_iff.1 hdef).1;have hdef2:W2.heap[D]? = some (.deferred<|some []):=((s8.block D (Nat.lt_of_lt_of_le hDlt s7.size) (by omega)).trans (s7.block D hDlt (by omega))).trans hdef
    have hDS:∀k∈S,k ≠ D:=λk hk e=>by
      obtain ⟨cur,hB⟩:=h_P h3 k hk;have:=(e ▸ hB).isCells hdef
      cases this
    have hoks:oks.all id=true:=hall.2 λy hy=>by
      rw [← hxs] at hy
      obtain ⟨z,hz,rfl⟩:=List.mem_map.1 hy;exact h1 z hz
    rw [if_pos hoks]
    refine a_5 λa' ha'=>⟨ha'.defers,hdef2,?_⟩
    have hp:=p_C W2 D<|.deferred none;obtain ⟨_,v,e1,e2⟩:=b_A (R:=Q32 w0 B (parts,true)) hr (f_g (n:=1) b_n rfl<|(c7.chg s8 (by omega)).chg hp (by omega)) (f_g (n:=1) g_4 rfl<|c8.chg hp (by omega)) ⟨b_Z (b_Z (b_Z h9 s7 λk hk e=>by omega) s8 λk hk e=>by omega) hp λk hk e=>by omega,a,m,c,S,rfl,((hxs ▸ h3).chg s7 λk hk e=>by have:=h5 k hk;omega).chg s8 (λk hk e=>by have:=h5 k hk;omega) |>.chg hp λk hk e=>hDS k hk e,h4,λk hk=>by have:=h5 k hk;omega⟩ a' ha';exact ⟨v,e1,e2⟩
  . rintro D pre W hD _ ⟨⟨⟨x,hx,hxl⟩,hxm,hxb⟩,⟨a,m,c,S,h2,h3,h4,h5⟩,h8,h9⟩ hdef a0 ha0
    have hq4:=h2.lt;have hq5:=h8.lt
    have hDS:∀k∈S,k ≠ D:=λk hk e=>by
      obtain ⟨cur,hB⟩:=h_P h3 k hk;have:=(e ▸ hB).isCells hdef
      cases this
    have hoks:¬oks.all id=true:=λh=>by
      have:=hall.1 h x hx
      rw [this] at hxb;cases hxb
    rw [if_neg hoks]
    have hp:=p_C W D<|.deferred none;obtain ⟨_,v,e1,e2⟩:=b_A (R:=Q32 w0 B ([],false)) hr (f_g (n:=1) b_n rfl<|h2.chg hp (by omega)) (f_g (n:=1) g_4 rfl<|h8.chg hp (by omega)) ⟨b_Z h9 hp λk hk e=>by omega,a,m,c,S,rfl,h3.chg hp λk hk e=>hDS k hk e,h4,h5⟩ a0 ha0;exact retD ha0.defers hdef e1 e2
def Q33 (w0:World)(B:Zone)(r:(List Str)×Bool)(v:Value)(w':World):Prop:=Bw w0 w'/\un2 (λr1 r2=>∃G H I S1,v = .tuple #[sl G H I,vB r2]/\a_ w' S1 (sl G H I) r1/\S1.Nodup/\(∀k∈S1,w0.z<=k)) r
theorem W_w22 {x1:Str}{res:(List Str)×Bool}(hm:h_Y n x1=some res)(H:B<=w0.z)(G:x1.b.length<=LEN):g_ prog 59 [Str.v x1] w0 (Q33 w0 B res):=by
 unfold h_Y at hm;refine goG func59 z z z λfn hr=>Ws<|Ra z<|Rw z<|Wm z ?_;obtain ⟨_,_,J,I⟩:=b_k hm;refine E z (fc call95 z<|W_w3c (B:=B) J H G) ?_;rintro _ _ ⟨s2,L,O,V,W,rfl,Y,h8,h9⟩;exact Re z z z<|Re z z z<|Ra z<|Rw z<|Wr<|rS2 I hr z z ⟨s2,L,O,V,W,z,Y,h8,h9⟩
theorem W_w3d {x1:Str}{x2:Str}{b2 o2:Nat}{res:Bool}(hm:h_l x1 x2=some res)(I:B<=w0.z)(G:x1.b.length<=LEN)(H:x2.b.length<=LEN)(hC2:u_ w0 b2 o2 [Str.v x2])(hC2b:B b2):g_ prog 133 [Str.v x1,(pq b2 o2)] w0 (Q0 w0 B res):=by
 unfold h_l at hm;exact goG func133 z z z λfn hr=>Ws<|Rw z<|Wm z<|R z (l0 g_9 z<|hC2.at0 z)<|R z (b_J z z)<|Rw z<|Wr<|rS1 hm hr z ⟨br w0,z⟩
theorem W_w3e {x1:List Str}{H:Str}{G I:Nat}{res:Int}(hm:e_u x1 H=some res)(a5:B<=w0.z)(J:rp w0 B A0 N0 C0 x1)(p2c0_0:H.b.length<=LEN)(a4:u_ w0 G I [Str.v H])(Y:B G):g_ prog 132 [sl A0 N0 C0,(.func (.func 133) #[] #[(pq G I)])] w0 (Q9 w0 B res):=by
 unfold e_u at hm;refine goG func132 z z z λfn hr=>Ws<|Rw z<|Wq<|Wm z<|R z (lnR a_2 z J)<|Rm z<|Wn<|bdB hm λ_ a0 V=>Wf (σ:=Unit) (ρ:=Int) (λ(k3:Nat)(_:Unit) a w=>Sat 19 [(1,.func (.func 133) #[] #[(.pointer<|some ⟨G,I,none⟩)]),(7,sl A0 N0 C0),(8,vI (x1.length:Int)),(9,vI ((k3:Nat):Int))] a/\Below w0.z w0 w) (λ(_:Unit) a w=>Sat 19 [] a/\Below w0.z w0 w) (rQ prog fn<|Q9 w0 B) a0 ?_ ?_ ?_ ?_ ?_
 .exact λ_ q=>⟨kaA q,br w0⟩
 .rintro k3 _ _ _ _ L ⟨a1,_⟩ a2;refine Wu ?_ a1;refine Ws<|Rl z z z<|Wn<|Wq<|Wc z (λ_=>?_) (λhc=>(Z_ L hc).elim);refine Wk<|Wq<|Wb<|Wm z<|bdB a2 λ_ e8 a3=>xA (α:=Str) z a_2 z_9 z z z kR e8 λ_ _ _ ha hb _=>?_;obtain ⟨rfl,hd⟩:=b_l hb;refine R z (l0 g_9 z<|ha.at0 z)<|Ra z<|Rw z<|Wm z<|Rm z<|bdB a3 λ_ ec W=>E z (e_m call133 z z<|W_w3d (B:=B) ec kM hd p2c0_0 kC Y) ?_;rintro _ _ ⟨_,rfl⟩;refine Wx z (λO=>?_) (λO=>?_)
  .exact Wm z<|Rw z<|Wr<|rtO<|qL (som<|ifT W O).symm<|a_R hr z ⟨kW,z,ic (Nat.le_of_lt L)<|lt_ (repS.len J) y_⟩
  exact Wk<|Wg<|R z (inc_ L (lt_ (repS.len J) y_) z z)<|Rm z<|Wl (λ_ q=>⟨(),(som<|ifF W O).symm,⟨kaA q,kW⟩⟩)
 .rintro _ _ _ ⟨hSe,sf⟩;refine Wu ?_ hSe;refine Ws<|Rl z z z<|Wn<|Wq<|Wc z (λhc=>(a_0 hc).elim) (λ_=>?_);exact We<|λ_ q=>⟨rfl,⟨q.k sn,sf⟩⟩
 .rintro _ ag _ rfl ⟨_,sh⟩;have hmi:=elL V;revert ag;exact Wo<|Ws<|Rw z<|Wr<|rS1 hmi hr z ⟨sh,z,ii z⟩
 exact lqA V λ_ _ h=>h.2
theorem W_w23 {x1:c_}{x2:Int}{x3:Val}{x4:Str}{res:Int}(hm:d_c n x1 x2 x3 x4=some res)(aO:B<=w0.z)(hG:Gl w0 B)(aK:rp w0 B A0 N0 C0 x1.rules)(V:inI x2)(aL:inI x3.number)(aM:rp w0 B A8 N8 C8 x3.bytes)(aN:rp w0 B A4 N4 C4 x3.items)(W:x4.b.length<=LEN):g_ prog 97 [(.agg #[sl A0 N0 C0]),vI x2,.agg #[vI x3.number,sl A8 N8 C8,sl A4 N4 C4],Str.v x4] w0 (Q9 w0 B res):=by
 unfold d_c at hm;refine goG func97 z z z λfn hr=>Ws<|EvX [sl A0 N0 C0] z z z λw4 _ _=>EvX [vI x3.number,sl A8 N8 C8,sl A4 N4 C4] z z z λw7 _ _=>EvX [Str.v x4] z z z λwg _ a8=>Rw z<|Wq<|Ws<|R z (lC [sl A0 N0 C0] h_ f_ z)<|Rm z<|bdB hm λ_ ah hmi=>EcA z (fc call75 z<|k_G (B:=B) ah kM kR V) λ_ _=>R z (not_ z)<|Wx z (λL=>?_) (λL=>?_)
 .exact Ws<|Rw z<|Wr<|rS1 (ifT hmi L) hr z ⟨kW,z,ii z⟩
 refine Wk<|Ws<|Rw z<|Wq<|Ws<|Rf z Q_ z<|R z (l0 U_ z kBa)<|Rm z<|bdB (ifF hmi L) λxj ai a9=>xA (α:=d_) z Y_ o_ z z z kR ai λ_ _ _ aj al _=>?_;obtain ⟨ak,nl,cm,an,no,cp,aq,nr,cs,au,nt,cv,rfl,_,_,_,_,_,_,_⟩:=a_G al;refine R z (lN (vs:=vR xj ak nl cm an no cp aq nr cs au nt cv) I_ o_ z z fid aj)<|EvZ [(Str.v (⟨[]⟩:Str)),vI 0,vI 0,vB false,sN,sN,sN,sN] z c_l z λaP _ aa=>E0q (vR xj ak nl cm an no cp aq nr cs au nt cv) o_ z z aa z λJ hx _=>Wn<|Ws<|Rf z a_F z<|R z (l0 g_3 z<|hx.at z)<|Wn<|Wb<|Ws<|Rq z z z<|Rw z<|bdB a9 λam huy hmz=>Wt (λa w=>∃(x5:Int),Sum.inl x5=am/\Sat 62 [(1,vI x2),(4,pt w0.z),(6,pt w4.z),(7,pt w7.z),(9,vI x5)] a/\Below J.z J w/\inI x5) ?_ ?_
 .refine Wc z (λO=>?_)<|λO=>?_
  .refine Ws<|R z (l0 g_9 z kBa) ?_;obtain ⟨ap,_,ar,Y⟩:=b_k<|ifT huy O;refine E z (fc call131 z<|W_w21 (B:=B) ar kM W) ?_;rintro _ _ ⟨av,rfl,aw⟩;refine Rm z<|Re z z z<|Re z z z<|Ra z<|Rw z<|Wq<|Wm z<|R z (not_ z)<|Wx z (λhca=>?_) (λhca=>?_)
   .refine Ws<|Rw z ?_;obtain rfl:=som<|ifT Y hca;have ab:=elR hmz;exact Wr<|rtO<|rS1 ab hr z ⟨kW,z,ii z⟩
   exact Wk<|Wg<|Rm z<|Ra z<|Wl (λ_ q=>⟨ap,som<|ifF Y hca,kaA q,av,aw⟩)
  refine Ws<|Rq z z z<|Rw z<|bdB (ifF huy O) λax a0 ad=>Wt (λa w=>∃(x6:Int),x6=ax/\Sat 62 [(1,vI x2),(4,pt w0.z),(6,pt w4.z),(7,pt w7.z),(9,vI x6)] a/\Below J.z J w/\inI x6) ?_ ?_
  .refine Wc z (λhcb=>?_)<|λhcb=>?_
   .refine Wg<|Rf z c_z z<|R z (l0 b_n z<|hx.at z)<|R z (j_L z)<|bdB (ifT a0 hcb) λay az ae=>E z (fc call132 z<|W_w3e (B:=wg.z) az (V_ kM) (repS.mono kR kM) W (kBr 0 1) a8.lt) ?_;rintro _ _ ⟨aA,rfl,aB⟩;exact Ra z<|Wl (λ_ q=>⟨ay,som ae,kaA q,aA,aB⟩)
   exact a_7<|λ_ q=>⟨0,som<|ifF a0 hcb,kaA q,br J,ii z⟩
  rintro aC _ ⟨x6,rfl,_,aD,aE⟩;revert aC;exact λ_ q=>⟨x6,som ad,kaA q,aD,aE⟩
 rintro aF a5 ⟨x5,rfl,_,_,a6⟩;have af:=elL hmz;revert aF;refine Wo<|Wq<|Wq<|bdB af λaG a1 a2=>Wt (λa w=>∃(xc:Bool),xc=aG/\Sat 62 [(9,vI x5),(60,vB xc)] a/\Below a5.z a5 w) ?_ ?_
 .refine Wd (X:=noX) 0 (.rd 0<|.rd 1<|.rd 2<|.rd 3<|.rd 4<|.rd 5<|.rd 6<|.rd 7<|.rd 8<|.rd 9<|.rd 10<|.rd 11<|.rd 12<|.rd 14<|.ef 13<|.rd 15<|.rd 16<|.rd 17<|.rd 18<|.rd 19<|.rd 20 .done) mo (by kernel_rfl) λaQ a7 _=>dM z z z<|dR z z (lss z z)<|dM z z z ?_;rcases bs (decide<|x5<0) with H | H
  .iterate 5 refine dRn z z z H z ?_
   refine dR z z (pT z H z)<|dM z z z ?_;iterate 4 refine dRn z z z z z ?_
   exact dEn z z z z z<|dRn z z z z z<|dR z z (pT z z z)<|dM z z z<|dRn z z z z z<|dRn z z z z z<|dR z z (pT z z z)<|pD (λ_ q=>⟨true,som<|ifT a1 H,kaA q,a7⟩)
  have a3:=ifF a1 H;refine dRg z z z H z (mv z)<|dRg z z z H z (fd w_ z)<|dRg z z z H z (l0 B_ z kBa)<|dRg z z z H z (lnR H_ z kR)<|dRg z z z H z (c_2 z z)<|dR z z (pF z H z)<|dM z z z ?_;rcases bs (decide<|(x3.items.length:Int)<=x5) with G | G
  .iterate 4 refine dRn z z z G z ?_
   exact dEn z z z G z<|dRn z z z G z<|dR z z (pT z G z)<|dM z z z<|dRn z z z z z<|dRn z z z z z<|dR z z (pT z z z)<|pD (λ_ q=>⟨true,som<|ifT a3 G,kaA q,a7⟩)
  refine dRg z z z G z (lC [sl A0 N0 C0] h_ f_ z)<|dRg z z z G z (mv z)<|dRg z z z G z (mv z)<|dRg z z z G z (l0 g_9 z kBa)<|bdB (ifF a3 G) λaH aI a4=>dEg z z z G z (fc call82 z<|W_w20 (B:=B) aI kM kG kR V a6) iB ?_;rintro _ _ ⟨_,rfl,_⟩;refine dRg z z z G z (k_0 z z)<|dR z z (pF z G z)<|dM z z z ?_;rcases bs (aH.b != x4.b) with I | I
  .exact dRn z z z I z<|dRn z z z I z<|dR z z (pT z I z)<|pD (λ_ q=>⟨true,som<|ifT a4 I,kaA q,kW⟩)
  exact dRg z z z I z (l0 g_9 z kBa)<|dRg z z z I z (b_J z z)<|dR z z (pF z I z)<|pD (λ_ q=>⟨x4.b==(⟨[]⟩:Str).b,som<|ifF a4 I,kaA q,kW⟩)
 rintro aJ _ ⟨xc,rfl,_,_⟩;revert aJ;refine Wo<|Wc z (λhcd=>?_) (λhcd=>?_)
 .exact Ws<|Rw z<|Wr<|rS1 (ifT a2 hcd) hr z ⟨kW,z,ii z⟩
 exact Wk<|Wm z<|Rw z<|Wr<|rS1 (ifF a2 hcd) hr z ⟨kW,z,a6⟩
def Q34 (w0:World)(B:Zone)(r:(Option Val)×Int)(v:Value)(w':World):Prop:=Bw w0 w'/\un2 (λr1 r2=>∃(v1:Value),v = .tuple #[v1,vI r2]/\g_A w' B v1 r1/\inI r2) r
theorem W_w3f {x1:c_}{x2:Val}{b2 o2:Nat}{x3:List Str}{res:(Option Val)×Int}(hm:i_p n x1 x2 x3=some res)(au:B<=w0.z)(hG:Gl w0 B)(an:rp w0 B A0 N0 C0 x1.rules)(O:inI x2.number)(ap:rp w0 B A1 N1 C1 x2.bytes)(aq:rp w0 B A2 N2 C2 x2.items)(hC2:u_ w0 b2 o2 [vI x2.number,sl A1 N1 C1,sl A2 N2 C2])(hC2b:B b2)(V:rp w0 B A9 N9 C9 x3):g_ prog 60 [(.agg #[sl A0 N0 C0]),pq b2 o2,sl A9 N9 C9] w0 (Q34 w0 B res):=by
 unfold i_p at hm;refine goG func60 z z z λfn hr=>Ws<|EvX [sl A0 N0 C0] z z z λwq _ ar=>Ra z<|Rw z<|Ws<|R z (lC [sl A0 N0 C0] h_ f_ z)<|bdB hm λ_ er hms=>E z (fc call45 z<|g_J (B:=B) er kM kR) ?_;rintro _ H ⟨_,rfl,ht⟩;refine Rw z<|Wq<|Wm z<|R z (lnR a_2 z kR)<|Rm z<|Wn ?_;obtain ⟨_,huu,hml⟩:=bdS hms;refine Wf (σ:=Val×Int) (ρ:=(Option Val)×Int) (λ(km:Nat) s a w=>un2 (λx4 x5=>∃b1 G,Sat 43 [(1,.pointer<|some ⟨b1,G,none⟩),(3,pt w0.z),(8,vI x5),(14,sl A9 N9 C9),(15,vI (x3.length:Int)),(16,vI ((km:Nat):Int))] a/\Below H.z H w/\d_N w B b1 G x4/\inI x5) s) (λs a w=>un2 (λx4 x5=>∃b1 G,Sat 43 [(1,.pointer<|some ⟨b1,G,none⟩),(8,vI x5)] a/\Below H.z H w/\d_N w B b1 G x4/\inI x5) s) (rQ prog fn<|Q34 w0 B) huu ?_ ?_ ?_ ?_ ?_
 .exact λ_ q=>⟨b2,o2,kaA q,br H,d_N.mk kC (i_3 O kR kR) hC2b,ht⟩
 .rintro km ⟨x4,x5⟩ _ _ _ hkn ⟨b1,G,hSv,_,I,h2⟩ hmw;obtain ⟨cso,ha,J,L⟩:=I;obtain ⟨ac,ne,cf,ag,nh,ci,rfl,h3,hb,hd⟩:=b_j J;refine Wu ?_ hSv;refine Ws<|Rl z z z<|Wn<|Wq<|Wc z (λ_=>?_) (λhc=>(Z_ hkn hc).elim);refine Wk<|Wq<|Wb<|Ws<|bdB (a_Q hmw) λ_ ey hmz=>xA (α:=Str) z a_2 z_9 z z z kR ey λ_ _ _ a4 a5 _=>?_;obtain ⟨rfl,a6⟩:=b_l a5;refine R z (l0 g_9 z<|a4.at0 z)<|Rw z<|Wq (Wd (X:=noX) 0 (pl_ 8 [6]) mo (by kernel_rfl) λav aw _=>dR z z (lC [sl A0 N0 C0] h_ f_ z)<|dM z z z<|dM z z z<|dR z z (C_ z)<|dR z z (lN (vs:=[vI x4.number,sl ac ne cf,sl ag nh ci]) e_ b_ z z fid kC)<|dM z z z ?_);refine bdB hmz λ_ a7 hmp=>dE z z (fc call97 z<|W_w23 (B:=B) a7 kM kG kR h2 h3 (kR (l:=x4.bytes)) (kR (l:=x4.items)) a6) iB ?_;rintro _ _ ⟨_,rfl,a8⟩;refine dQ z z z<|pD<|Wo<|Wq<|Wm z<|Rl z z z<|Wx z (λhcj=>?_) (λhcj=>?_)
  .exact Ws<|Ra z<|Rw z<|Wr<|rtO<|qL (som<|ifT hmp hcj).symm<|b_A hr z z ⟨kW,.pointer none,z,g_A.nil,ii z⟩
  refine Wk<|Wd (X:=noX) 0 (.rd 0<|.rd 1<|.rd 2<|.rd 3<|.rd 5<|.rd 6<|.rd 7<|.rd 8<|.rd 9<|.rd 10<|.ef 4<|.rd 11<|.rd 12 .done) mo (by kernel_rfl) λax ay _=>dR z z (lC [sl A0 N0 C0] h_ f_ z) ?_;iterate 4 refine dM z z z ?_
  refine dR z z (C_ z)<|dR z z (fd w_ z)<|dR z z (l0 B_ z<|kCa (o:=G) (j:=2))<|dM z z z<|bdB (ifF hmp hcj) λa9 aa W=>dxA (α:=Val) z z H_ b_ z z z kR aa λab ad _ _ ae af=>?_;obtain ⟨_,_,_,_,_,_,rfl,ah,_,_⟩:=b_j ae;refine bdB W λai aj Y=>dE z z (fc call81 z<|i_Z (B:=B) aj kM kR h2 h3 kR kR kC L a8) iB ?_;rintro _ _ ⟨_,rfl,ak⟩;exact dQ z z z<|dQ z z z<|pD<|Wo<|Wg<|R z (inc_ hkn (lt_ (repS.len V) y_) z z)<|Rm z<|Wl (λ_ q=>⟨(a9,ai),(som Y).symm,⟨ab,ad,kaA q,kW,d_N.mk kC (i_3 ah kR kR) af,ak⟩⟩)
 .rintro ⟨x4,x5⟩ _ _ ⟨b1,G,a0,al,I,h2⟩;obtain ⟨cso,ha,J,L⟩:=I;obtain ⟨ac,ne,cf,ag,nh,ci,rfl,h3,hb,hd⟩:=b_j J;refine Wu ?_ a0;refine Ws<|Rl z z z<|Wn<|Wq<|Wc z (λhc=>(a_0 hc).elim) (λ_=>?_);exact We<|λ_ q=>⟨rfl,⟨b1,G,kaA q,al,d_N.mk ha (i_3 h3 hb hd) L,h2⟩⟩
 .rintro ⟨x4,x5⟩ am _ rfl ⟨b1,G,_,_,I,h2⟩;obtain ⟨cso,ha,J,L⟩:=I;obtain ⟨ac,ne,cf,ag,nh,ci,rfl,h3,hb,hd⟩:=b_j J;have a1:=elL hml;revert am;refine Wo<|Wm z<|Rm z<|Ra z<|Rw z ?_;exact Wr<|rS2 (a_Q a1) hr z z ⟨kW,.pointer<|some ⟨b1,G,none⟩,z,g_A.mk<|d_N.mk ha (i_3 h3 hb hd) L,h2⟩
 exact lqA hml λ_ _ h=>h.2
theorem W_w24 {x1:c_}{x2:Val}{x3:Str}{res:Val×Int×Bool}(hm:e_v n x1 x2 x3=some res)(aC:B<=w0.z)(hG:Gl w0 B)(az:rp w0 B A0 N0 C0 x1.rules)(L:inI x2.number)(aA:rp w0 B A1 N1 C1 x2.bytes)(aB:rp w0 B A2 N2 C2 x2.items)(W:x3.b.length<=LEN):g_ prog 33 [(.agg #[sl A0 N0 C0]),.agg #[vI x2.number,sl A1 N1 C1,sl A2 N2 C2],Str.v x3] w0 (Q15 w0 B res):=by
 unfold e_v at hm;refine goG func33 z z z λfn hr=>Ws<|EvX [sl A0 N0 C0] z z z λw2 _ _=>EvX [vI x2.number,sl A1 N1 C1,sl A2 N2 C2] z z z λw3 _ Y=>EvZ [vI 0,sN,sN] z v_ z λwk _ _=>Ra z<|Rw z<|Wm z ?_;obtain ⟨_,rl,em,hmn⟩:=b_k hm;refine E z (fc call59 z<|W_w22 (B:=B) em kM W) ?_;rintro _ H ⟨_,ao,np,cq,_,rfl,ht,_,_⟩;refine Rm z<|Re z z z<|Re z z z<|Ra z<|Rw z<|Wq<|Wq<|bdB hmn λur hua hmb=>Wt (λa w=>∃(x4:Bool),x4=ur/\Sat 43 [(3,pt w0.z),(4,pt w2.z),(6,pt w3.z),(9,sl ao np cq),(27,vB x4)] a/\Below H.z H w) ?_ ?_
 .refine Wd (X:=noX) 0 (.rd 0<|.rd 1<|.rd 2<|.rd 3<|.rd 4<|.rd 6<|.ef 5<|.ef 7<|.rd 8<|.rd 9 .done) mo (by kernel_rfl) λaD ss _=>dM z z z<|dR z z (not_ z)<|dM z z z ?_;rcases bs (!rl) with G | G
  .iterate 3 refine dRn z z z G z ?_
   exact dEn z z z G z<|dEn z z z G z<|dRn z z z G z<|dR z z (pT z G z)<|pD (λ_ q=>⟨true,som<|ifT hua G,kaA q,ss⟩)
  refine dRg z z z G z (lC [sl A0 N0 C0] h_ f_ z)<|dRg z z z G z (lC [sl A0 N0 C0] h_ f_ z)<|dRg z z z G z (lC [vI x2.number,sl A1 N1 C1,sl A2 N2 C2] e_ b_ z)<|bdB (ifF hua G) λ_ eu hmv=>dEg z z z G z (fc call45 z<|g_J (B:=B) eu kM kR) iB ?_;rintro _ _ ⟨_,rfl,hw⟩;refine bdB hmv λrx ey hmz=>dEg z z z G z (fc call46 z<|h_N (B:=B) ey kM kR hw L (kR (l:=x2.bytes))<|kR (l:=x2.items)) iB ?_;rintro _ _ ⟨_,rfl⟩;exact dRg z z z G z (not_ z)<|dR z z (pF z G z)<|pD (λ_ q=>⟨!rx,som hmz,kaA q,kW⟩)
 rintro a3 _ ⟨x4,rfl,_,_⟩;revert a3;refine Wo<|Wc z (λI=>?_) (λI=>?_)
 .exact Ws<|R z (bQ [] [vI 0,sN,sN] K_ z z)<|E0q [vI 0,sN,sN] b_ z z kB z λaE a4 _=>Ra z<|Rw z<|Wr<|rS3 (ifT hmb I) hr (s_ e_ b_ z a4 z) z z ⟨kW,none,0,0,[],none,0,0,[],z,ii z,onL,onL,ii z,nd0,sQ⟩
 refine Wk<|Ws<|R z (lC [sl A0 N0 C0] h_ f_ z)<|Rm z ?_;obtain ⟨a5,_,a6,hmc⟩:=b_k<|ifF hmb I;refine E z (fc call60 z<|W_w3f (B:=H.z) a6 (V_ kM) (GlW.mono kG kM) (repS.mono kR kM) L (repS.mono kR kM) (repS.mono kR kM) (kBr 0 3) (zap' (V_ kM) Y.lt)<|or_ kO<|a_.lt ht) ?_;rintro _ _ ⟨_,_,rfl,hd,a7⟩;refine Rm z<|Re z z z<|Re z z z<|Ra z<|Rw z<|Wq<|Wm z ?_;rcases a5 with _ | a8
 .obtain a0:=opN hmc;obtain rfl:=hd;refine R z (k_x d_83 z)<|Wx z (λ_=>?_) (λhc=>(b_u z hc).elim);exact Ws<|R z (bQ [] [vI 0,sN,sN] K_ z z)<|E0q [vI 0,sN,sN] b_ z z kB z λaF a9 _=>Ra z<|Rw z<|Wr<|rS3 a0 hr (s_ e_ b_ z a9 z) z z ⟨kW,none,0,0,[],none,0,0,[],z,ii z,onL,onL,ii z,nd0,sQ⟩
 obtain a1:=opJ hmc;obtain ⟨_,_,rfl,_,aa,ab,_⟩:=hd;obtain ⟨ad,af,ai,aj,ak,al,rfl,am,an,ap⟩:=b_j ab;refine R z (k_x d_83 z)<|Wx z (λhc=>(b_u hc z).elim) (λ_=>?_);refine Wk<|Wm z<|R z (C_ z)<|R z (lN (vs:=[vI a8.number,sl ad af ai,sl aj ak al]) e_ b_ z z fid aa)<|bdB a1 λJ aq a2=>E z (fc call27 z<|e_W.run (B:=H.z) aq (V_ kM) am an ap) ?_;rintro _ _ ⟨_,ae,nf,cg,ar,ah,ni,cj,au,rfl,av,_,_,aw,ax⟩;obtain ⟨O,V,_,_,_⟩:=z_ aw ax;exact Rm z<|E0q [vI J.number,sl ae nf cg,sl ah ni cj] b_ z z kB z λaG ay _=>Ra z<|Rw z<|Wr<|rS3 a2 hr (s_ e_ b_ z ay z) z z ⟨kW,ae,nf,cg,ar,ah,ni,cj,au,z,av,kO (l:=J.bytes),kO (l:=J.items),a7,na_ O V sQ,sQ⟩
theorem W_w3g {x1:Str}{res:Str}(hm:j_K x1=some res)(I:B<=w0.z)(H:x1.b.length<=LEN):g_ prog 48 [Str.v x1] w0 (Q4 w0 B res):=by
 unfold j_K at hm;refine goG func48 z z z λfn hr=>Ws<|Rw z<|Wq<|Wm z<|R z (b_J z z)<|Wx z (λG=>?_) (λG=>?_)
 .exact Ws<|Rw z<|Wr<|rS1 (ifT hm G) hr z ⟨br w0,z,lb z⟩
 exact Wk<|Wm z<|Rw z<|Wr<|rS1 (ifF hm G) hr z ⟨br w0,z,H⟩
def Q35 (w0:World)(B:Zone)(r:d_y)(v:Value)(w':World):Prop:=Bw w0 w'/\(λr1=>∃G H I,(shV (sl G H I) r1.1)=v/\repS w' w'.z (sl G H I) r1.2) r
theorem W_w3h {x1:d_}{res:d_y}(hm:c_N x1=some res)(a9:B<=w0.z)(a2:x1.name.b.length<=LEN)(a3:inI x1.kind)(a4:inI x1.size)(a5:rp w0 B AF NF CF x1.bytes)(a6:rp w0 B AC NC CC x1.names)(a7:rp w0 B AG NG CG x1.tags)(a8:rp w0 B AH NH CH x1.kids):g_ prog 122 [(.agg #[Str.v x1.name,vI x1.kind,vI x1.size,vB x1.little,sl AF NF CF,sl AC NC CC,sl AG NG CG,sl AH NH CH])] w0 (Q35 w0 B res):=by
 unfold c_N at hm;refine goG func122 z z z λfn hr=>Ws<|EvX (vR x1 AF NF CF AC NC CC AG NG CG AH NH CH) z z z λwe G Y=>Rw z<|Wq<|Ws<|Rf z a_F z<|R z (l0 g_3 z<|Y.at z)<|Wn<|Wb<|Ws<|Rq z z z<|Rw z<|Wc z (λH=>?_) (λH=>?_)
 .exact Ws<|R z (bQ [] [] t_T z z)<|R z (e_2 d_167 (λ_ h=>by cases h) z)<|Rw z<|Wr<|rtO<|rS1 (ifT hm H) hr z ⟨G,none,0,0,z,repS.mono (or_ onL an_)<|V_ kM⟩
 have a0:=ifF hm H;refine Ws<|Rq z z z<|Rw z<|Wc z (λI=>?_) (λI=>?_)
 .exact Ws<|R z (bQ [] [] t_U z z)<|R z (e_2 d_168 (λ_ h=>by cases h) z)<|Rw z<|Wr<|rtO<|rS1 (ifT a0 I) hr z ⟨G,none,0,0,z,repS.mono (or_ onL an_)<|V_ kM⟩
 have a1:=ifF a0 I;refine Ws<|Rq z z z<|Rw z<|Wc z (λJ=>?_) (λJ=>?_)
 .exact Ws<|R z (bQ [] [] t_V z z)<|R z (e_2 d_169 (λ_ h=>by cases h) z)<|Rw z<|Wr<|rtO<|rS1 (ifT a1 J) hr z ⟨G,none,0,0,z,repS.mono (or_ onL an_)<|V_ kM⟩
 have hma:=ifF a1 J;refine Ws<|Rq z z z<|Rw z<|Wc z (λL=>?_) (λL=>?_)
 .exact Ws<|Rf z c_z z<|R z (l0 b_n z<|Y.at z)<|R z (bQ [(0,.tmp 20)] [sl AC NC CC] t_W z z)<|R z (e_2 d_172 (λ_ h=>by cases h) z)<|Rw z<|Wr<|rtO<|rS1 (ifT hma L) hr z ⟨G,AC,NC,CC,z,repS.mono kR kM⟩
 have hmb:=ifF hma L;refine Ws<|Rq z z z<|Rw z<|Wc z (λO=>?_) (λO=>?_)
 .exact Ws<|R z (bQ [] [] t_X z z)<|R z (e_2 d_173 (λ_ h=>by cases h) z)<|Rw z<|Wr<|rtO<|rS1 (ifT hmb O) hr z ⟨G,none,0,0,z,repS.mono (or_ onL an_)<|V_ kM⟩
 have hmc:=ifF hmb O;refine Ws<|Rq z z z<|Rw z<|Wc z (λV=>?_) (λV=>?_)
 .exact Ws<|R z (bQ [] [] t_Y z z)<|R z (e_2 d_175 (λ_ h=>by cases h) z)<|Rw z<|Wr<|rtO<|rS1 (ifT hmc V) hr z ⟨G,none,0,0,z,repS.mono (or_ onL an_)<|V_ kM⟩
 have hmd:=ifF hmc V;refine Ws<|Rq z z z<|Rw z<|Wc z (λW=>?_) (λW=>?_)
 .exact Ws<|R z (bQ [] [] t_Z z z)<|R z (e_2 d_176 (λ_ h=>by cases h) z)<|Rw z<|Wr<|rtO<|rS1 (ifT hmd W) hr z ⟨G,none,0,0,z,repS.mono (or_ onL an_)<|V_ kM⟩
 exact Wk<|Ws<|R z (bQ [] [] u_0 z z)<|R z (e_2 d_202 (λ_ h=>by cases h) z)<|Rw z<|Wr<|rS1 (ifF hmd W) hr z ⟨G,none,0,0,z,repS.mono (or_ onL an_)<|V_ kM⟩
theorem W_w25 {x1:List Str}{x2:Str}{res:Str}(hm:i_4 x1 x2=some res)(I:B<=w0.z)(G:rp w0 B A0 N0 C0 x1)(H:x2.b.length<=LEN):g_ prog 123 [sl A0 N0 C0,Str.v x2] w0 (Q4 w0 B res):=by
 unfold i_4 at hm;refine goG func123 z z z λfn hr=>Ws<|Rw z<|Wm z<|Rm z<|bdB hm λ_ L J=>E z (fc call146 z<|t_m (B:=B) L I G H) ?_;rintro _ _ ⟨s2,rfl,h3⟩;exact Rw z<|Wr<|rS1 J hr z ⟨s2,z,h3⟩
theorem W_w3i {x1:Int}{x2:Str}{x3:Str}{x4:Str}{res:Str}(hm:k_R x1 x2 x3 x4=some res)(I:B<=w0.z)(hG:Gl w0 B)(H:inI x1)(a0:x2.b.length<=LEN)(a1:x3.b.length<=LEN)(a2:x4.b.length<=LEN):g_ prog 124 [vI x1,Str.v x2,Str.v x3,Str.v x4] w0 (Q4 w0 B res):=by
 unfold k_R at hm;refine goG func124 z z z λfn hr=>Ws<|Rw z<|Wm z<|bdB hm λ_ W J=>E z (fc call120 z<|m_w (B:=B) W I hG H) ?_;rintro _ _ ⟨s3,rfl,_⟩;exact Rm z<|bdB J λ_ Y L=>R z (b_2 z z Y)<|Rm z<|bdB L λ_ e6 O=>R z (b_2 z z e6)<|Rm z<|bdB O λ_ G V=>R z (b_2 z z G)<|Rw z<|Wr<|rS1 V hr z ⟨s3,z,b_V G⟩
theorem W_w3j {x1:Bt}{res:Str}(hm:j_A x1=some res)(ah:B<=w0.z)(Y:rp w0 B A0 N0 C0 x1):g_ prog 125 [sl A0 N0 C0] w0 (Q4 w0 B res):=by
 unfold j_A at hm;refine goG func125 z z z λfn hr=>Ws<|Rw z<|Wm z<|R z (lnR q_ z Y)<|R z (d_d z z)<|bdB hm λ_ ej hmk=>E z (e_0 (α:=UInt8) G_ ej z z) ?_;rintro _ L ⟨al,nm,cn,rfl,_,ho⟩;refine Rw z<|Wq<|Wm z<|R z (lnR q_ z kR)<|Rm z<|Wn<|bdB hmk λ_ hup hmb=>Wf (σ:=Bt) (ρ:=Str) (λ(kc:Nat)(x4:Bt) a w=>∃H I J G,Sat 28 [(3,sl H I J),(10,sl A0 N0 C0),(11,vI (x1.length:Int)),(12,vI ((kc:Nat):Int))] a/\Cg [w0.z] L w/\a_ w G (sl H I J) x4/\G.Nodup/\(∀k∈G,k∈[w0.z]∨L.z<=k)) (λ(x4:Bt) a w=>∃H I J G,Sat 28 [(3,sl H I J)] a/\Cg [w0.z] L w/\a_ w G (sl H I J) x4/\G.Nodup/\(∀k∈G,k∈[w0.z]∨L.z<=k)) (rQ prog fn<|Q4 w0 B) hup ?_ ?_ ?_ ?_ ?_
 .exact λ_ q=>⟨al,nm,cn,[w0.z],kaA q,cr [w0.z] L,ho,M_,sQ⟩
 .rintro kc x4 _ _ _ hkd ⟨H,I,J,G,hSq,_,h6,O,he⟩ hmr;refine Wu ?_ hSq;refine Ws<|Rl z z z<|Wn<|Wq<|Wc z (λ_=>?_) (λhc=>(Z_ hkd hc).elim);refine Wk<|Wq<|Wb<|Ws<|bdB hmr λ_ es hmt=>xA (α:=UInt8) z q_ z_5 z z z kR es λ_ _ _ hu hv _=>?_;obtain rfl:=u8 hv;refine R z (l0 g_5 z<|hu.at0 z)<|Ra z<|Wn (Wd (X:=noX) 256 (pl_ 10 [7,8]) mo (by kernel_rfl) λV ai _=>dM z z z<|dM z z z<|dR z z (q_H z z ⟨by decide,by decide⟩) ?_);refine bdB hmt λW eg hmw=>dR z z (c_t d_9 z z (a_o eg).1 (a_o eg).2.1)<|dM z z z<|dR z z (q_I (b:=(15:UInt8)) z z)<|bdB hmw λxa eh hmx=>dR z z (c_t d_9 z z (a_o eh).1 (a_o eh).2.1)<|dE z z (fS [(.tmp 19),(.tmp 22)] G_ z z z (T_ z) (lb z)<|lb z) (.inr λ_ _ h=>a_l<|h.2.below) ?_;rintro _ wf ⟨rfl,hi⟩;have:=hi.below;have a0:Blk wf V.z [vU (byteI W),vU<|byteI xa]:=hi.blk;have a2:a_ wf [V.z] (sl (some ⟨V.z,0,none⟩) 2 2) [W,xa]:=p_O (l:=[W,xa]) a0 z;refine bdB hmx λxy ez a3=>dE z z (fN (α:=UInt8) G_ ez z z kO O<|a_.rep a2) (.inl z) ?_;rintro _ _ ⟨a8,a9,aa,ab,rfl,_,ad,ae,_⟩;exact dQ z z z<|pD<|Wo<|Wg<|R z (inc_ hkd (lt_ (repS.len Y) y_) z z)<|Rm z<|Wl (λ_ q=>⟨xy,(som a3).symm,⟨a9,aa,ab,a8,kaA q,kW,ad,ae,sQ⟩⟩)
 .rintro x4 _ _ ⟨H,I,J,G,a4,_,h6,O,he⟩;refine Wu ?_ a4;refine Ws<|Rl z z z<|Wn<|Wq<|Wc z (λhc=>(a_0 hc).elim) (λ_=>?_);exact We<|λ_ q=>⟨rfl,⟨H,I,J,G,kaA q,kW,h6,O,sQ⟩⟩
 .rintro x4 af _ rfl ⟨H,I,J,G,_,_,h6,O,he⟩;have a5:=elL hmb;revert af;exact Wo<|Wm z<|R z (j_R q_ d_9 d_5 z_5 z<|a_.rep h6)<|Rw z<|Wr<|rS1 a5 hr z ⟨kW,z,repS.len<|a_.rep h6⟩
 exact lqA hmb λ_ _ h=>h.2
structure m_y (f:c_->Int->Val->Option Str):Prop where
  run:∀{A0 A8 A4:Option Addr}{N0 C0 N8 C8 N4 C4 b3 o3:Nat}{B:Zone}{x1:c_}{x2:Int}{x3:Val}{res:Str}{w0:World}(hm:f x1 x2 x3=some res)(hBw:B<=w0.z)(hG:Gl w0 B)(p1_0:rp w0 B A0 N0 C0 x1.rules)(p2_0:inI x2)(p3_0:inI x3.number)(p3_1:rp w0 B A8 N8 C8 x3.bytes)(p3_2:rp w0 B A4 N4 C4 x3.items)(hC3:u_ w0 b3 o3 [vI x3.number,sl A8 N8 C8,sl A4 N4 C4])(hC3b:B b3),g_ prog 83 [(.agg #[sl A0 N0 C0]),vI x2,(pq b3 o3)] w0<|Q4 w0 B res
structure m_z (f:Int->c_->Int->Val->Option Str):Prop where
  run:∀{AA AN AO:Option Addr}{NA CA b2 o2 b3 o3 NN CN NO CO b4_0 o4_0 b4 o4:Nat}{B:Zone}{x1:Int}{x2:c_}{x3:Int}{x4:Val}{res:Str}{w0:World}(hm:f x1 x2 x3 x4=some res)(hBw:B<=w0.z)(hG:Gl w0 B)(p1_0:inI x1)(p2_0:rp w0 B AA NA CA x2.rules)(hC2:u_ w0 b2 o2 [sl AA NA CA])(hC2b:B b2)(p3_0:inI x3)(hC3:u_ w0 b3 o3 [vI x3])(hC3b:B b3)(p4_0_0:inI x4.number)(p4_0_1:rp w0 B AN NN CN x4.bytes)(p4_0_2:rp w0 B AO NO CO x4.items)(p4_0:u_ w0 b4_0 o4_0 [vI x4.number,sl AN NN CN,sl AO NO CO])(p4_0b:B b4_0)(hC4:u_ w0 b4 o4 [(pq b4_0 o4_0)])(hC4b:B b4),g_ prog 121 [vI x1,pq b2 o2,pq b3 o3,(pq b4 o4)] w0<|Q4 w0 B res
abbrev m_A (n:Nat):Prop:=m_y (b_8 n).impl_valueText/\m_z (b_8 n).impl_valueText_1
theorem T_w0c (ih:m_A n):m_y (b_g n<|b_8 n):=by
 obtain ⟨_,a4⟩:=ih;constructor;intro A0 A8 A4 N0 C0 N8 C8 N4 C4 b3 o3 B x1 x2 x3 res w0 hm d3 hG d1 Y W d2 a6 hC3 hC3b;unfold b_g at hm;refine goG func83 z z z λfn hr=>Ws<|EvX [sl A0 N0 C0] z z z λwo _ a0=>EvX [vI x2] z z z λwp _ a1=>EvX [(pq b3 o3)] z z z λwa _ a3=>Rw z<|Ws<|R z (j_L z)<|Rw z<|Wq<|Ws<|Rf z Q_ z<|R z (l0 U_ z kBa)<|R z (l0 g_3 z kBa)<|bdB hm λbB bC aS=>?_;refine xA (α:=d_) z Y_ o_ z z z kR bC λ_ _ _ bD bE _=>?_;obtain ⟨bF,bG,bH,bI,bJ,bK,bL,bM,bN,bO,bP,bR,rfl,bS,bT,bU,bV,bW,bX,bY⟩:=a_G bE;refine R z (lN (vs:=vR bB bF bG bH bI bJ bK bL bM bN bO bP bR) I_ o_ z z fid bD)<|bdB aS λV bZ a7=>E z (fc call122 z<|W_w3h (B:=B) bZ kM bS bT bU bV bW bX bY) ?_;rintro _ _ ⟨_,aj,ak,al,rfl,am⟩;refine Wn<|Wb<|Ws ?_;rcases bs (V.1==1) with hcf | hcf
 .refine R z (ta_167 z hcf)<|Re z z z<|Re z z z<|Wx z (λ_=>?_) (λhc=>(b_u z hc).elim);refine Ws<|EvZ [] z u_9 z λd4 _ aQ=>E0q [] z_167 z z aQ z λd5 _ aR=>Wn<|Ws<|R z (l0 g_E z kBa)<|R z (C_ z)<|Rf z a_x z<|R z (l0 g_3 z<|(u_.chg kC aR<|sQB hC3b).at (j:=0) z)<|bdB (ifT a7 hcf) λ_ c0 aT=>E z (fc call120 z<|m_w (B:=B) c0 kM kG W) ?_;rintro _ _ ⟨_,rfl,c1⟩;exact Rw z<|Wr<|rtO<|rS1 aT hr z ⟨kW,z,c1⟩
 have a8:=ifF a7 hcf;refine R z (t_K z hcf)<|Re z z z<|Re z z z<|Wx z (λhc=>(b_u hc z).elim) (λ_=>?_);refine Ws ?_;rcases bs (V.1==2) with hcg | hcg
 .refine R z (ta_168 z hcg)<|Re z z z<|Re z z z<|Wx z (λ_=>?_) (λhc=>(b_u z hc).elim);exact Ws<|EvZ [] z u_a z λd6 _ aD=>E0q [] z_168 z z aD z λd7 _ _=>Wn<|Ws<|Rw z<|Wr<|rtO<|rS1 (ifT a8 hcg) hr z ⟨kW,z,lb z⟩
 have a9:=ifF a8 hcg;refine R z (t_L z hcg)<|Re z z z<|Re z z z<|Wx z (λhc=>(b_u hc z).elim) (λ_=>?_);refine Ws ?_;rcases bs (V.1==5) with hch | hch
 .refine R z (ta_169 z hch)<|Re z z z<|Re z z z<|Wx z (λ_=>?_) (λhc=>(b_u z hc).elim);refine Ws<|EvZ [] z u_b z λd8 _ aE=>E0q [] z_169 z z aE z λwb _ aF=>Wn<|Ws<|E z (f0 (α:=Str) a_E) ?_;rintro _ wi ⟨c2,c3,c5,rfl,c6,c8⟩;refine Rw z<|Wq<|Ws<|R z (l0 g_E z kBa)<|R z (C_ z)<|Rf z w_ z<|have an:=(u_.chg kC aF<|sQB hC3b).e c6;R z (l0 B_ z<|an.at (j:=2) z)<|R z (lnR H_ z kR)<|Rm z<|Wn<|bdB (ifT a9 hch) λ_ aU aa=>Wf (σ:=List Str) (ρ:=Str) (λ(ap:Nat)(xc:List Str) a w=>∃a2 H I G,Sat 122 [(7,.func (.func 121) #[] #[pt w0.z,pt wo.z,pt wp.z]),(11,sl a2 H I),(46,vI (x3.items.length:Int)),(47,vI ((ap:Nat):Int))] a/\Cg [wb.z] wi w/\a_ w G (sl a2 H I) xc/\G.Nodup/\(∀k∈G,k∈[wb.z]∨wi.z<=k)) (λ(xc:List Str) a w=>∃a2 H I G,Sat 122 [(11,sl a2 H I)] a/\Cg [wb.z] wi w/\a_ w G (sl a2 H I) xc/\G.Nodup/\(∀k∈G,k∈[wb.z]∨wi.z<=k)) (rQ prog fn<|Q4 w0 B) aU ?_ ?_ ?_ ?_ ?_
  .exact λ_ q=>⟨c2,c3,c5,[wb.z],kaA q,cr [wb.z] wi,c8,M_,sQ⟩
  .rintro ap xc _ _ _ hkr ⟨a2,H,I,G,aV,c9,hq,ht,aq⟩ aW;refine Wu ?_ aV;refine Ws<|Rl z z z<|Wn<|Wq<|Wc z (λ_=>?_) (λhc=>(Z_ hkr hc).elim);refine Wk<|Wq<|Wb<|Wm z<|Rw z<|Wg<|RM z z<|Rm z<|bdB aW λca cb aX=>E z (e_m call121 z z<|a4.run (B:=wa.z) cb (V_ kM) (GlW.mono kG kM) (ic (Nat.le_of_lt hkr)<|lt_ (repS.len a6) y_) (repS.mono kR kM) (kBr 0 1) (zap' (V_ kM) a0.lt) Y (kBr 0 1) (zap' (V_ kM) a1.lt) W (repS.mono kR kM) (repS.mono kR kM) (an.c c9<|sQB hC3b) (zap' kM hC3b) (kBr 0 1) a3.lt) ?_;rintro _ cc ⟨_,rfl,ar⟩;refine EvA z (fS [(.tmp 53)] a_E z z z (T_ z) (lb z)<|lb z) λcd hw=>have:=hw.below;have aG:Blk cd cc.z [Str.v ca]:=hw.blk;have:=a_B hw<|b_U ar;bdB aX λce cf aY=>E z (a_q (α:=Str) a_E cf z z kO ht aG (b_U ar) an_ x_) ?_;rintro _ _ ⟨cg,ch,ci,cj,rfl,_,ck,cl,_⟩;exact Rw z<|Wg<|R z (inc_ hkr (lt_ (repS.len a6) y_) z z)<|Rm z<|Wl (λ_ q=>⟨ce,(som aY).symm,⟨ch,ci,cj,cg,kaA q,kW,ck,cl,sQ⟩⟩)
  .rintro xc _ _ ⟨a2,H,I,G,aZ,_,hq,ht,aq⟩;refine Wu ?_ aZ;refine Ws<|Rl z z z<|Wn<|Wq<|Wc z (λhc=>(a_0 hc).elim) (λ_=>?_);exact We<|λ_ q=>⟨rfl,⟨a2,H,I,G,kaA q,kW,hq,ht,sQ⟩⟩
  .rintro xc cm cn rfl ⟨a2,H,I,G,_,_,hq,ht,aq⟩;have b0:=elL aa;revert cm;refine Wo<|Wm z<|bdB b0 λ_ co b4=>E z (fc call123 z<|W_w25 (B:=cn.z) co zr (a_.rep hq)<|lb z) ?_;rintro _ _ ⟨_,rfl,_⟩;exact bdB b4 λ_ cp b5=>R z (b_2 z z cp)<|bdB b5 λ_ au b6=>R z (b_2 z z au)<|Rw z<|Wr<|rtO<|rS1 b6 hr z ⟨kW,z,b_V au⟩
  exact lqA aa λ_ _ h=>h.2
 have ab:=ifF a9 hch;refine R z (t_M z hch)<|Re z z z<|Re z z z<|Wx z (λhc=>(b_u hc z).elim) (λ_=>?_);refine Ws ?_;rcases bs (V.1==6) with hcj | hcj
 .refine R z (ta_172 z hcj)<|Re z z z<|Re z z z<|Wx z (λ_=>?_) (λhc=>(b_u z hc).elim);refine Ws<|EvZ [sN] z u_c z λd9 _ aH=>E0q [sl aj ak al] z_172 z z aH z λwd _ aI=>Wn<|Ws<|E z (f0 (α:=Str) a_E) ?_;rintro _ wk ⟨cq,ct,cu,rfl,cv,cw⟩;refine Rw z<|Wq<|Ws<|Rf z u_7 z<|R z (l0 b_n z kBa)<|R z (lnR a_2 z kR)<|Rm z<|Wn<|bdB (ifT ab hcj) λ_ b9 ad=>Wf (σ:=List Str) (ρ:=Str) (λ(av:Nat)(xe:List Str) a w=>∃J L O S1,Sat 122 [(7,.func (.func 121) #[] #[pt w0.z,pt wo.z,pt wp.z]),(14,sl J L O),(66,sl aj ak al),(67,vI (V.2.length:Int)),(68,vI ((av:Nat):Int))] a/\Cg [wd.z] wk w/\a_ w S1 (sl J L O) xe/\S1.Nodup/\(∀k∈S1,k∈[wd.z]∨wk.z<=k)) (λ(xe:List Str) a w=>∃J L O S1,Sat 122 [(14,sl J L O)] a/\Cg [wd.z] wk w/\a_ w S1 (sl J L O) xe/\S1.Nodup/\(∀k∈S1,k∈[wd.z]∨wk.z<=k)) (rQ prog fn<|Q4 w0 B) b9 ?_ ?_ ?_ ?_ ?_
  .exact λ_ q=>⟨cq,ct,cu,[wd.z],kaA q,cr [wd.z] wk,cw,M_,sQ⟩
  .rintro av xe _ _ _ hks ⟨J,L,O,S1,ba,cx,hu,hv,aw⟩ bb;refine Wu ?_ ba;refine Ws<|Rl z z z<|Wn<|Wq<|Wc z (λ_=>?_) (λhc=>(Z_ hks hc).elim);refine Wk<|Wq<|Wb<|Wm z<|bdB bb λ_ cy bc=>xA (α:=Str) z a_2 z_9 z z z kR cy λ_ _ _ cz cA _=>?_;obtain ⟨rfl,_⟩:=b_l cA;refine R z (l0 g_9 z<|cz.at0 z)<|Ra z<|Rw z<|Wg<|RM z z<|bdB bc λ_ cB be=>R z (b_2 z z cB)<|RM z z<|bdB be λ_ cC bf=>E z (e_m call121 z z<|a4.run (B:=wa.z) cC (V_ kM) (GlW.mono kG kM) (ic (Nat.le_of_lt hks)<|lt_ (repS.len am) y_) (repS.mono kR kM) (kBr 0 1) (zap' (V_ kM) a0.lt) Y (kBr 0 1) (zap' (V_ kM) a1.lt) W (repS.mono kR kM) (repS.mono kR kM) (((u_.chg kC aI<|sQB hC3b).e cv).c cx<|sQB hC3b) (zap' kM hC3b) (kBr 0 1) a3.lt) ?_;rintro _ cD ⟨_,rfl,_⟩;refine bdB bf λcE ey bg=>R z (b_2 z z ey)<|EvA z (fS [(.tmp 79)] a_E z z z (T_ z) (lb z)<|lb z) λcF hx=>have:=hx.below;have aJ:Blk cF cD.z [Str.v cE]:=hx.blk;have:=a_B hx<|b_U<|b_V ey;bdB bg λcG cH bh=>E z (a_q (α:=Str) a_E cH z z kO hv aJ (b_U<|b_V ey) an_ x_) ?_;rintro _ _ ⟨cI,cJ,cK,cL,rfl,_,cM,cN,_⟩;exact Rw z<|Wg<|R z (inc_ hks (lt_ (repS.len am) y_) z z)<|Rm z<|Wl (λ_ q=>⟨cG,(som bh).symm,⟨cJ,cK,cL,cI,kaA q,kW,cM,cN,sQ⟩⟩)
  .rintro xe _ _ ⟨J,L,O,S1,bi,_,hu,hv,aw⟩;refine Wu ?_ bi;refine Ws<|Rl z z z<|Wn<|Wq<|Wc z (λhc=>(a_0 hc).elim) (λ_=>?_);exact We<|λ_ q=>⟨rfl,⟨J,L,O,S1,kaA q,kW,hu,hv,sQ⟩⟩
  .rintro xe cO cP rfl ⟨J,L,O,S1,_,_,hu,hv,aw⟩;have bj:=elL ad;revert cO;refine Wo<|Wm z<|bdB bj λ_ cQ bk=>E z (fc call123 z<|W_w25 (B:=cP.z) cQ zr (a_.rep hu)<|lb z) ?_;rintro _ _ ⟨_,rfl,_⟩;exact bdB bk λ_ cR bm=>R z (b_2 z z cR)<|bdB bm λ_ ax bn=>R z (b_2 z z ax)<|Rw z<|Wr<|rtO<|rS1 bn hr z ⟨kW,z,b_V ax⟩
  exact lqA ad λ_ _ h=>h.2
 have ae:=ifF ab hcj;refine R z (t_N z hcj)<|Re z z z<|Re z z z<|Wx z (λhc=>(b_u hc z).elim) (λ_=>?_);refine Ws ?_;rcases bs (V.1==7) with hcl | hcl
 .refine R z (ta_173 z hcl)<|Re z z z<|Re z z z<|Wx z (λ_=>?_) (λhc=>(b_u z hc).elim);refine Ws<|EvZ [] z u_d z λda _ aK=>E0q [] z_173 z z aK z λdb _ aL=>Wn<|Wq (Wd (X:=noX) 0 (pl_ 8 [5,6]) mo (by kernel_rfl) λdc cS _=>dR z z (l0 g_E z kBa)<|dR z z (C_ z)<|dR z z (fd a_x z) ?_);have ay:=(u_.chg kC aL<|sQB hC3b).e cS;refine dR z z (l0 g_3 z<|ay.at (j:=0) z)<|dM z z z<|bdB (ifT ae hcl) λ_ cT bq=>dE z z (e_m call121 z z<|a4.run (B:=wa.z) cT (V_ kM) (GlW.mono kG kM) (ii z) (repS.mono kR kM) (kBr 0 1) (zap' (V_ kM) a0.lt) Y (kBr 0 1) (zap' (V_ kM) a1.lt) W (repS.mono kR kM) (repS.mono kR kM) ay (zap' kM hC3b) (kBr 0 1) a3.lt) iB ?_;rintro _ _ ⟨_,rfl,cU⟩;refine bdB bq λ_ cV br=>dE z z (fc call124 z<|W_w3i (B:=B) cV kM kG W (lb z) cU<|lb z) iB ?_;rintro _ _ ⟨_,rfl,cW⟩;exact dQ z z z<|pD<|Wo<|Wr<|rtO<|rS1 br hr z ⟨kW,z,cW⟩
 have af:=ifF ae hcl;refine R z (t_O z hcl)<|Re z z z<|Re z z z<|Wx z (λhc=>(b_u hc z).elim) (λ_=>?_);refine Ws ?_;rcases bs (V.1==8) with hcm | hcm
 .have ah:=ifT af hcm;refine R z (ta_175 z hcm)<|Re z z z<|Re z z z<|Wx z (λ_=>?_) (λhc=>(b_u z hc).elim);refine Ws<|EvZ [] z u_e z λdd _ aM=>E0q [] z_175 z z aM z λde _ aN=>Wn<|Wq<|Ws<|R z (l0 g_E z kBa)<|R z (C_ z)<|Rf z w_ z<|have az:=u_.chg kC aN<|sQB hC3b;R z (l0 B_ z<|az.at (j:=2) z)<|R z (lnR H_ z kR)<|Rq z z z<|Wx z (λhcz=>?_) (λhcz=>?_)
  .exact Ws<|Rw z<|Wr<|rtO<|rS1 (ifT ah hcz) hr z ⟨kW,z,lb z⟩
  refine Wk<|Wm z<|bdB (ifF ah hcz) λ_ cX bt=>E z (e_m call121 z z<|a4.run (B:=wa.z) cX (V_ kM) (GlW.mono kG kM) (ii z) (repS.mono kR kM) (kBr 0 1) (zap' (V_ kM) a0.lt) Y (kBr 0 1) (zap' (V_ kM) a1.lt) W (repS.mono kR kM) (repS.mono kR kM) az (zap' kM hC3b) (kBr 0 1) a3.lt) ?_;rintro _ _ ⟨_,rfl,_⟩;exact bdB bt λ_ aA bu=>R z (b_2 z z aA)<|Rw z<|Wr<|rtO<|rS1 bu hr z ⟨kW,z,b_V aA⟩
 have ai:=ifF af hcm;refine R z (t_P z hcm)<|Re z z z<|Re z z z<|Wx z (λhc=>(b_u hc z).elim) (λ_=>?_);refine Ws ?_;rcases bs (V.1==9) with hcn | hcn
 .refine R z (ta_176 z hcn)<|Re z z z<|Re z z z<|Wx z (λ_=>?_) (λhc=>(b_u z hc).elim);refine Ws<|EvZ [] z u_f z λdf _ aO=>E0q [] z_176 z z aO z λdg _ aP=>Wn<|Wm z<|bdB (ifT ai hcn) λ_ cY bv=>E z (e_m call121 z z<|a4.run (B:=wa.z) cY (V_ kM) (GlW.mono kG kM) (ii z) (repS.mono kR kM) (kBr 0 1) (zap' (V_ kM) a0.lt) Y (kBr 0 1) (zap' (V_ kM) a1.lt) W (repS.mono kR kM) (repS.mono kR kM) (u_.chg kC aP<|sQB hC3b) (zap' kM hC3b) (kBr 0 1) a3.lt) ?_;rintro _ _ ⟨_,rfl,_⟩;exact bdB bv λ_ cZ bw=>R z (b_2 z z cZ)<|bdB bw λ_ aB bx=>R z (b_2 z z aB)<|Rw z<|Wr<|rtO<|rS1 bx hr z ⟨kW,z,b_V aB⟩
 refine R z (t_Q z hcn)<|Re z z z<|Re z z z<|Wx z (λhc=>(b_u hc z).elim) (λ_=>?_);refine Wk<|Ws<|R z (l0 g_E z kBa)<|R z (C_ z)<|Rf z a_r z<|R z (l0 P_ z<|kCa (o:=o3) (j:=1))<|bdB (ifF ai hcn) λ_ d0 bz=>E z (fc call125 z<|W_w3j (B:=B) d0 kM kR) ?_;rintro _ _ ⟨_,rfl,_⟩;exact bdB bz λ_ aC bA=>R z (b_2 z z aC)<|Rw z<|Wr<|rS1 bA hr z ⟨kW,z,b_V aC⟩
theorem T_w26 (ih:m_A n):m_z (j_B n<|b_8 n):=by
 obtain ⟨I,_⟩:=ih;constructor;intro AA AN AO NA CA b2 o2 b3 o3 NN CN NO CO b4_0 o4_0 b4 o4 B x1 x2 x3 x4 res w0 hm a2 hG G a0 hC2 hC2b H hC3 hC3b p4_0_0 p4_0_1 p4_0_2 a1 p4_0b hC4 hC4b;unfold j_B at hm;refine goG func121 z z z λfn hr=>Ws<|Rw z<|Wq (Wd (X:=noX) 0 (.rd 0<|.rd 1<|.rd 2<|.rd 3<|.rd 4<|.rd 6<|.rd 7<|.rd 8<|.rd 9<|.rd 10<|.rd 11<|.ef 5<|.ef 12<|.rd 13 .done) mo (by kernel_rfl) λwb sc _=>dR z z (lN (vs:=[sl AA NA CA]) h_ f_ z z fid kC)<|dR z z (lN (vs:=[sl AA NA CA]) h_ f_ z z fid kC)<|dR z z (l0 g_3 z kC0)<|dR z z (l0 g_E z kC0)<|dM z z z<|dR z z (l0 g_E z kC0)<|dR z z (C_ z)<|dR z z (fd w_ z)<|dR z z (l0 B_ z<|kCa (o:=o4_0) (j:=2))<|dM z z z ?_);refine bdB hm λ_ V J=>dxA (α:=Val) z z H_ b_ z z z kR V λ_ _ _ _ h2 h3=>?_;obtain ⟨_,_,_,_,_,_,rfl,h4,_,_⟩:=b_j h2;refine bdB J λ_ W L=>dE z z (fc call81 z<|i_Z (B:=B) W kM kR H p4_0_0 kR kR kC p4_0b G) iB ?_;rintro _ _ ⟨_,rfl,Y⟩;refine bdB L λ_ e8 O=>dE z z (fc call83 z<|I.run (B:=B) e8 kM kG kR Y h4 kR kR kC h3) iB ?_;rintro _ _ ⟨_,rfl,ha⟩;exact dQ z z z<|pD<|Wo<|Wr<|rS1 O hr z ⟨kW,z,ha⟩
theorem k_J:∀n,m_A n
  | 0=>⟨⟨λhm=>by intros;exact nomatch (show none=some _ from hm)⟩,⟨λhm=>by intros;exact nomatch (show none=some _ from hm)⟩⟩
  | n+1=>⟨T_w0c<|k_J n,T_w26<|k_J n⟩
theorem W_w0c:m_y (b_8 n).impl_valueText:=(k_J n).1
theorem W_w26:m_z (b_8 n).impl_valueText_1:=(k_J n).2
theorem W_w3k {x1:c_}{x2:Int}{x3:Val}{res:Str}(hm:j_C n x1 x2 x3=some res)(a3:B<=w0.z)(hG:Gl w0 B)(a0:rp w0 B A0 N0 C0 x1.rules)(H:inI x2)(I:inI x3.number)(a1:rp w0 B A8 N8 C8 x3.bytes)(a2:rp w0 B A4 N4 C4 x3.items):g_ prog 49 [(.agg #[sl A0 N0 C0]),vI x2,(.agg #[vI x3.number,sl A8 N8 C8,sl A4 N4 C4])] w0 (Q4 w0 B res):=by
 unfold j_C at hm;refine goG func49 z z z λfn hr=>Ws<|EvX [sl A0 N0 C0] z z z λw1 _ _=>EvX [vI x3.number,sl A8 N8 C8,sl A4 N4 C4] z z z λV _ L=>Rw z<|Wq<|Ws<|R z (lC [sl A0 N0 C0] h_ f_ z)<|Rm z<|R z (lC [vI x3.number,sl A8 N8 C8,sl A4 N4 C4] e_ b_ z)<|bdB hm λ_ W J=>EcA z (fc call46 z<|h_N (B:=B) W kM kR H I (kR (l:=x3.bytes))<|kR (l:=x3.items)) λ_ _=>R z (not_ z)<|Wx z (λG=>?_) (λG=>?_)
 .exact Ws<|Rw z<|Wr<|rS1 (ifT J G) hr z ⟨kW,z,lb z⟩
 refine Wk<|Ws<|R z (lC [sl A0 N0 C0] h_ f_ z)<|Rm z<|bdB (ifF J G) λ_ Y O=>E z (fc call83 z<|W_w0c.run (B:=V.z) Y (V_ kM) (GlW.mono kG kM) (repS.mono kR kM) H I (repS.mono kR kM) (repS.mono kR kM) (kBr 0 3) L.lt) ?_;rintro _ _ ⟨_,rfl,h9⟩;exact Rw z<|Wr<|rS1 O hr z ⟨kW,z,h9⟩
theorem W_w3l {x1:c_}{x2:Val}{x3:j_}{res:Str}(hm:h_k n x1 x2 x3=some res)(a4:B<=w0.z)(hG:Gl w0 B)(Y:rp w0 B A0 N0 C0 x1.rules)(L:inI x2.number)(a0:rp w0 B A1 N1 C1 x2.bytes)(a1:rp w0 B A2 N2 C2 x2.items)(H:x3.path.b.length<=LEN)(O:inI x3.part.number)(a2:rp w0 B A4 N4 C4 x3.part.bytes)(a3:rp w0 B AP NP CP x3.part.items):g_ prog 23 [(.agg #[sl A0 N0 C0]),.agg #[vI x2.number,sl A1 N1 C1,sl A2 N2 C2],(.agg #[Str.v x3.path,vI x3.part.number,sl A4 N4 C4,sl AP NP CP])] w0 (Q4 w0 B res):=by
 unfold h_k at hm;refine goG func23 z z z λfn hr=>Ws<|EvX [sl A0 N0 C0] z z z λw1 _ _=>EvX [vI x2.number,sl A1 N1 C1,sl A2 N2 C2] z z z λw3 _ _=>EvX [Str.v x3.path,vI x3.part.number,sl A4 N4 C4,sl AP NP CP] z z z λw9 _ V=>Rw z<|Ws<|R z (lC [sl A0 N0 C0] h_ f_ z)<|R z (lC [vI x2.number,sl A1 N1 C1,sl A2 N2 C2] e_ b_ z)<|Rf z f_B z<|R z (l0 g_9 z<|V.at z) ?_;obtain ⟨ra,_,_,eb,I⟩:=m_ hm;refine E z (fc call33 z<|W_w24 (B:=B) eb kM kG kR L (kR (l:=x2.bytes)) (kR (l:=x2.items)) H) ?_;rintro _ _ ⟨_,ad,ne,cf,_,ag,nh,ci,_,rfl,_,_,_,hj,hk,hl⟩;obtain ⟨_,_,_,_,_⟩:=z_ hk hl;refine Rm z ?_;iterate 3 refine Re z z z ?_
 refine EvZ [vI 0,sN,sN] z v_ z λwm _ W=>E0q [vI ra.number,sl ad ne cf,sl ag nh ci] b_ z z W z λa5 _ _=>Ra z<|Rw z<|Wq<|Wm z<|R z (not_ z)<|Wx z (λG=>?_) (λG=>?_)
 .exact Ws<|Rw z<|Wr<|rS1 (ifT I G) hr z ⟨kW,z,lb z⟩
 refine Wk<|Wq (Wd (X:=noX) 0 (.rd 0<|.rd 1<|.rd 4<|.rd 5<|.rd 6<|.rd 7<|.ef 2<|.rd 3<|.ef 8<|.rd 9<|.rd 10 .done) mo (by kernel_rfl) λa6 a7 _=>dR z z (fd f_B z)<|dR z z (l0 g_9 z kBa)<|dR z z (lC [sl A0 N0 C0] h_ f_ z)<|dM z z z<|dR z z (fd i_Q z)<|dR z z (lN (vs:=[vI x3.part.number,sl A4 N4 C4,sl AP NP CP]) e_ b_ z z fid<|kBr 1 3) ?_);refine bdB (ifF I G) λ_ eo hmp=>dE z z (fc call48 z<|W_w3g (B:=B) eo kM H) iB ?_;rintro _ _ ⟨_,rfl,_⟩;refine bdB hmp λ_ eq hmr=>dR z z (b_2 z z eq)<|bdB hmr λ_ es hmt=>dE z z (fc call49 z<|W_w3k (B:=B) (x3:=(⟨x3.part.number,x3.part.bytes,x3.part.items⟩:Val)) es kM kG kR hj O (kR (l:=x3.part.bytes))<|kR (l:=x3.part.items)) iB ?_;rintro _ _ ⟨_,rfl,_⟩;exact bdB hmt λ_ J hmu=>dR z z (b_2 z z J)<|dQ z z z<|pD<|Wo<|Wr<|rS1 hmu hr z ⟨kW,z,b_V J⟩
theorem W_w3m {x1:c_}{x2:Bt}{x3:Bt}{res:(List Str)}(hm:i_n n x1 x2 x3=some res)(bq:B<=w0.z)(hG:Gl w0 B)(bn:rp w0 B A0 N0 C0 x1.rules)(bo:rp w0 B AA NA CA x2)(bp:rp w0 B A9 N9 C9 x3):g_ prog 6 [(.agg #[sl A0 N0 C0]),sl AA NA CA,sl A9 N9 C9] w0 (Q11 w0 B res):=by
 unfold i_n at hm;refine goG func6 z z z λfn hr=>Ws<|EvX [sl A0 N0 C0] z z z λO _ _=>Rw z<|Ws<|E z (f0 (α:=Str) a_E) ?_;rintro _ W ⟨ai,nj,ck,rfl,_,_⟩;refine Rw z<|Ws<|R z (lC [sl A0 N0 C0] h_ f_ z)<|Rm z ?_;obtain ⟨V,_,aI,aJ,aq⟩:=m_ hm;refine E z (fc call21 z<|W_w1x (B:=B) aJ kM kG kR kR) ?_;rintro _ wb ⟨_,al,nm,cn,_,ao,np,cq,_,rfl,a5,a6,a7,_,_,aK,aL⟩;obtain ⟨_,_,_,_,_⟩:=z_ aK aL;refine Rm z ?_;iterate 3 refine Re z z z ?_
 refine EvZ [vI 0,sN,sN] z v_ z λbt _ ar=>E0q [vI V.number,sl al nm cn,sl ao np cq] b_ z z ar z λwc _ _=>Ra z<|Rw z<|Ws<|R z (lC [sl A0 N0 C0] h_ f_ z)<|Rm z ?_;obtain ⟨re,_,aM,aN,av⟩:=m_ aq;refine E z (fc call21 z<|W_w1x (B:=B) aN kM kG kR kR) ?_;rintro _ wf ⟨_,a8,a9,aa,_,ab,ad,ae,_,rfl,aO,aP,aQ,_,_,aR,aS⟩;obtain ⟨_,_,_,_,_⟩:=z_ aR aS;refine Rm z ?_;iterate 3 refine Re z z z ?_
 refine EvZ [vI 0,sN,sN] z v_ z λbu _ am=>E0q [vI re.number,sl a8 a9 aa,sl ab ad ae] b_ z z am z λwg _ _=>Ra z<|Rw z<|Wq<|Wq<|bdB av λaT a0 a2=>Wt (λa w=>∃(xr:Bool),xr=aT/\Sat 56 [(3,pt w0.z),(7,sl ai nj ck),(8,pt wb.z),(11,pt wf.z),(36,vB xr)] a/\Below wg.z wg w) ?_ ?_
 .refine Wg<|Rm z<|R z (nq z z)<|Rm z ?_;rcases bs (aI != 0) with L | L
  .exact Nh z L<|Nh z L<|R z (pT z L z)<|Wl (λ_ q=>⟨true,som<|ifT a0 L,kaA q,br wg⟩)
  exact Rh z L (mv z)<|Rh z L (nq z z)<|R z (pF z L z)<|Wl (λ_ q=>⟨aM != 0,som<|ifF a0 L,kaA q,br wg⟩)
 rintro aU aV ⟨xr,rfl,_,_⟩;revert aU;refine Wo<|Wc z (λhcs=>?_) (λhcs=>?_)
 .exact Wm z<|Rw z<|Wr<|rS1 (ifT a2 hcs) hr z ⟨kW,ai,nj,ck,[O.z],z,kO,M_,sQ⟩
 refine Wk<|Wq<|Ws<|R z (lC [sl A0 N0 C0] h_ f_ z)<|R z (lC [vI V.number,sl al nm cn,sl ao np cq] e_ b_ z)<|R z (lC [vI re.number,sl a8 a9 aa,sl ab ad ae] e_ b_ z)<|bdB (ifF a2 hcs) λaW aX ax=>E z (fc call22 z<|W_w39 (B:=zn (zn B W.z wb.z) wc.z wf.z) aX (a_1 (a_1 kM kM) kM) (GlW.mono kG<|zt r_<|r_) (repS.mono kR<|zt r_<|r_) a5 (repS.mono (or_ (kO (l:=V.bytes))<|zin (B:=B) (i:=W.z) sQ<|a_.lt a6)<|zns (zt r_<|r_)<|znD<|znI lr lr) (repS.mono (or_ (kO (l:=V.items))<|zin (B:=B) (i:=W.z) sQ<|a_.lt a7)<|zns (zt r_<|r_)<|znD<|znI lr lr) aO (repS.mono (or_ (kO (l:=re.bytes))<|zin (B:=B) (i:=wc.z) sQ<|a_.lt aP)<|zns (zt r_<|r_)<|znI lr lr)<|repS.mono (or_ (kO (l:=re.items))<|zin (B:=B) (i:=wc.z) sQ<|a_.lt aQ)<|zns (zt r_<|r_)<|znI lr lr) ?_;rintro _ Y ⟨_,aY,aZ,b0,rfl,af⟩;refine R z (lnR b_R z af)<|Rm z<|Wn<|bdB ax λ_ ay a3=>Wf (σ:=List Str) (ρ:=List Str) (λ(ah:Nat)(x9:List Str) a w=>∃H I J G,Sat 56 [(3,pt w0.z),(7,sl H I J),(8,pt wb.z),(41,sl aY aZ b0),(42,vI (aW.length:Int)),(43,vI ((ah:Nat):Int))] a/\Cg [O.z] Y w/\a_ w G (sl H I J) x9/\G.Nodup/\(∀k∈G,k∈[O.z]∨Y.z<=k)) (λ(x9:List Str) a w=>∃H I J G,Sat 56 [(7,sl H I J)] a/\Cg [O.z] Y w/\a_ w G (sl H I J) x9/\G.Nodup/\(∀k∈G,k∈[O.z]∨Y.z<=k)) (rQ prog fn<|Q11 w0 B) ay ?_ ?_ ?_ ?_ ?_
 .exact λ_ q=>⟨ai,nj,ck,[O.z],kaA q,cr [O.z] Y,kO,M_,sQ⟩
 .rintro ah x9 _ _ _ a4 ⟨H,I,J,G,az,_,hh,hd,aj⟩ aA;refine Wu ?_ az;refine Ws<|Rl z z z<|Wn<|Wq<|Wc z (λ_=>?_) (λhc=>(Z_ a4 hc).elim);refine Wk<|Wq<|Wb<|Ws<|bdB aA λxa b3 aB=>xA (α:=j_) z b_R c_k z z z kR b3 λ_ _ _ b4 b5 _=>?_;obtain ⟨au,nt,cv,aw,nx,cy,rfl,b6,b7,_,_⟩:=f_5 b5;refine R z (lN (vs:=[Str.v xa.path,vI xa.part.number,sl au nt cv,sl aw nx cy]) g_55 c_k z z fid b4)<|EvZ [(Str.v (⟨[]⟩:Str)),vI 0,sN,sN] z m_3 z λbv _ an=>E0q [Str.v xa.path,vI xa.part.number,sl au nt cv,sl aw nx cy] c_k z z an z λbw bx _=>Wn<|Wg<|Rm z<|R z (lC [sl A0 N0 C0] h_ f_ z)<|R z (lC [vI V.number,sl al nm cn,sl ao np cq] e_ b_ z)<|R z (lC [Str.v xa.path,vI xa.part.number,sl au nt cv,sl aw nx cy] g_55 c_k z)<|bdB aB λb8 b9 aC=>E z (fc call23 z<|W_w3l (B:=zn (zn (zn B W.z wb.z) wc.z wf.z) aV.z Y.z) b9 (a_1 (a_1 (a_1 kM kM) kM) kM) (GlW.mono kG<|zt r_<|zt r_<|r_) (repS.mono kR<|zt r_<|zt r_<|r_) a5 (repS.mono (or_ (kO (l:=V.bytes))<|zin (B:=B) (i:=W.z) sQ<|a_.lt a6)<|zns (zt r_<|zt r_<|r_)<|znD<|znD<|znI lr lr) (repS.mono (or_ (kO (l:=V.items))<|zin (B:=B) (i:=W.z) sQ<|a_.lt a7)<|zns (zt r_<|zt r_<|r_)<|znD<|znD<|znI lr lr) b6 b7 kR kR) ?_;rintro _ ba ⟨_,rfl,ak⟩;refine EvA z (fS [(.tmp 51)] a_E z z z (T_ z) (lb z)<|lb z) λbb hz=>have:=hz.below;have ap:Blk bb ba.z [Str.v b8]:=hz.blk;have:=a_B hz<|b_U ak;bdB aC λbc be aD=>E z (a_q (α:=Str) a_E be z z kO hd ap (b_U ak) an_ x_) ?_;rintro _ _ ⟨bf,bg,bh,bi,rfl,_,bj,bk,_⟩;exact Rw z<|Wg<|R z (inc_ a4 (lt_ (repS.len af) y_) z z)<|Rm z<|Wl (λ_ q=>⟨bc,(som aD).symm,⟨bg,bh,bi,bf,kaA q,kW,bj,bk,sQ⟩⟩)
 .rintro x9 _ _ ⟨H,I,J,G,aE,_,hh,hd,aj⟩;refine Wu ?_ aE;refine Ws<|Rl z z z<|Wn<|Wq<|Wc z (λhc=>(a_0 hc).elim) (λ_=>?_);exact We<|λ_ q=>⟨rfl,⟨H,I,J,G,kaA q,kW,hh,hd,sQ⟩⟩
 .rintro x9 bm _ rfl ⟨H,I,J,G,_,_,hh,hd,aj⟩;have aF:=elL a3;revert bm;exact Wo<|Wm z<|Rw z<|Wr<|rS1 aF hr z ⟨kW,H,I,J,G,z,hh,hd,sQ⟩
 exact lqA a3 λ_ _ h=>h.2
theorem W_w3n {x1:Bt}{x2:Bool}{res:Int}(hm:j_9 x1 x2=some res)(W:B<=w0.z)(H:rp w0 B A0 N0 C0 x1):g_ prog 126 [sl A0 N0 C0,vB x2] w0 (Q9 w0 B res):=by
 unfold j_9 at hm;refine goG func126 z z z λfn hr=>Ws<|Rw z<|Ws<|Rw z<|Wq<|Wm z<|R z (lnR q_ z H)<|R z (a_n z z)<|Wx z (λI=>?_) (λI=>?_)
 .exact Ws<|Rw z<|Wr<|rS1 (ifT hm I) hr z ⟨br w0,z,ii z⟩
 refine Wk<|Wq<|Ws<|Rw z<|bdB (ifF hm I) λ_ hua O=>Wf (σ:=Int) (ρ:=Int) (λ(k1:Nat)(x0:Int) a w=>Sat 33 [(0,sl A0 N0 C0),(1,vB x2),(5,vI x0),(6,vI ((k1:Nat):Int))] a/\Below w0.z w0 w/\inI x0) (λ(x0:Int) a w=>Sat 33 [(5,vI x0)] a/\Below w0.z w0 w/\inI x0) (rQ prog fn<|Q9 w0 B) hua ?_ ?_ ?_ ?_ ?_
 .exact λ_ q=>⟨kaA q,br w0,ii z⟩
 .rintro k1 x0 _ G _ J ⟨hSb,_,h3⟩ hmc;refine Wu ?_ hSb;refine Wq<|Wm z<|Rm z<|R z (lnR q_ z kR)<|Rl z z z<|Wx z (λ_=>?_) (λhc=>(Z_ J hc).elim);refine Wk<|Wq<|Wb<|Wm z<|Rw z<|Wq<|Wm z<|Wn<|bdB hmc λud V hme=>Wt (λa w=>∃(x4:Int),x4=ud/\Sat 33 [(0,sl A0 N0 C0),(1,vB x2),(5,vI x0),(6,vI ((k1:Nat):Int)),(7,vI x4)] a/\Below G.z G w/\inI x4) ?_ ?_
  .refine Wc z (λL=>?_)<|λL=>?_
   .exact Wg<|Rm z<|R z (lnR q_ z kR)<|R z (sb_ z z)<|Rm z<|R z (sb_ z z)<|Ra z<|Wl (λ_ q=>⟨l_ (l_ (x1.length:Int) 1) ((k1:Nat):Int),som<|ifT V L,kaA q,br G,iS _ _⟩)
   exact a_7<|λ_ q=>⟨((k1:Nat):Int),som<|ifF V L,kaA q,br G,ic (Nat.le_of_lt J)<|lt_ (repS.len H) y_⟩
  rintro af _ ⟨x4,rfl,_,_,_⟩;revert af;refine Wo<|Wg<|Rm z<|R z (d_d z z)<|RM z z<|bdB hme λxg eh hmi=>xA (α:=UInt8) z q_ z_5 z z z kR eh λ_ _ _ hj hk _=>?_;obtain rfl:=u8 hk;exact R z (l0 g_5 z<|hj.at0 z)<|R z (c_I d_5 d_3 z)<|R z (add_ z z)<|Rw z<|Wg<|Rm z<|R z (inc_ J (lt_ (repS.len H) y_) z z)<|Ra z<|Wl (λ_ q=>⟨i_ (W_ x0 256)<|byteI xg,(som hmi).symm,⟨kaA q,kW,iA _ _⟩⟩)
 .rintro x0 _ _ ⟨hSl,sm,h3⟩;refine Wu ?_ hSl;refine Wq<|Wm z<|Rm z<|R z (lnR q_ z kR)<|Rl z z z<|Wx z (λhc=>(a_0 hc).elim) (λ_=>?_);exact We<|λ_ q=>⟨rfl,⟨kaA q,sm,h3⟩⟩
 .rintro x0 an _ rfl ⟨_,so,h3⟩;have hmp:=elL O;revert an;exact Wo<|Wm z<|Rw z<|Wr<|rS1 hmp hr z ⟨so,z,h3⟩
 exact lqA O λ_ _ h=>h.2
def Q36 (w0:World)(B:Zone)(r:Int×Int×Bool)(v:Value)(w':World):Prop:=Bw w0 w'/\un3 (λr1 r2 r3=>v = .tuple #[vI r1,vI r2,vB r3]/\inI r1/\inI r2) r
theorem m_B {x1:c_}{x2:Int}{x3:Bt}{x4:Int}{res:Int×Int×Bool}(hm:f_E x1 x2 x3 x4=some res)(a5:B<=w0.z)(a1:rp w0 B A0 N0 C0 x1.rules)(a2:inI x2)(a3:rp w0 B A9 N9 C9 x3)(W:inI x4):g_ prog 84 [(.agg #[sl A0 N0 C0]),vI x2,sl A9 N9 C9,vI x4] w0 (Q36 w0 B res):=by
 unfold f_E at hm;refine goG func84 z z z λfn hr=>Ws<|EvX [sl A0 N0 C0] z z z λw1 _ Y=>RA z z<|Rw z<|Ws<|Rf z Q_ z<|R z (l0 U_ z<|Y.at z)<|Rm z<|bdB hm λx5 ei H=>xA (α:=d_) z Y_ o_ z z z kR ei λ_ _ _ hj hk _=>?_;obtain ⟨I,J,L,O,V,ca,ab,nc,cd,ae,nf,cg,rfl,_,_,_,_,_,_,_⟩:=a_G hk;refine R z (lN (vs:=vR x5 I J L O V ca ab nc cd ae nf cg) I_ o_ z z fid hj)<|EvZ [(Str.v (⟨[]⟩:Str)),vI 0,vI 0,vB false,sN,sN,sN,sN] z c_l z λwl _ a0=>E0q (vR x5 I J L O V ca ab nc cd ae nf cg) o_ z z a0 z λa6 hn _=>Wn<|Wq<|Wm z<|R z (lnR q_ z kR)<|Rm z<|R z (sb_ z z)<|Rf z a_P z<|R z (l0 g_3 z<|hn.at z)<|Rl z z z<|Wx z (λG=>?_) (λG=>?_)
 .exact Wm z<|RA z z<|Rw z<|Wr<|rS3 (ifT H G) hr z z z ⟨kW,z,ii z,W⟩
 refine Wk<|Wq (Wd (X:=noX) 0 (.rd 0<|.rd 1<|.rd 2<|.rd 3<|.rd 4<|.rd 5<|.rd 6<|.rd 7<|.rd 8<|.rd 10<|.rd 11<|.rd 12<|.rd 13<|.ef 9<|.rd 14<|.rd 15<|.rd 16 .done) mo (by kernel_rfl) λa7 a9 _=>?_);iterate 3 refine dM z z z ?_
 refine dR z z (fd a_P z)<|dR z z (l0 g_3 z kBa)<|dR z z (add_ z z)<|bdB (ifF H G) λ_ eo hmp=>dRX z z (rX q_ z_5 z z kR z z eo) ?_;rintro _ ⟨_,_,_,rfl,hq⟩;refine dR z z (fd e_Q z)<|dR z z (l0 g_4 z kBa)<|dM z z z<|dR z z (fd a_P z)<|dR z z (l0 g_3 z kBa)<|dR z z (add_ z z)<|bdB hmp λ_ er hms=>dE z z (fc call126 z<|W_w3n (B:=B) er kM hq) iB ?_;rintro _ _ ⟨_,rfl,ht⟩;iterate 3 refine dQ z z z ?_
 exact pD<|Wo<|Wr<|rS3 hms hr z z z ⟨kW,z,ht,iA _ _⟩
theorem W_w3o {x1:d_}{x2:Bt}{x3:Int}{res:Val×Int×Int}(hm:j_a x1 x2 x3=some res)(a7:B<=w0.z)(a0:x1.name.b.length<=LEN)(a1:inI x1.kind)(a2:inI x1.size)(W:rp w0 B AF NF CF x1.bytes)(a3:rp w0 B AC NC CC x1.names)(a4:rp w0 B AG NG CG x1.tags)(a5:rp w0 B AH NH CH x1.kids)(a6:rp w0 B AA NA CA x2)(Y:inI x3):g_ prog 85 [(.agg #[Str.v x1.name,vI x1.kind,vI x1.size,vB x1.little,sl AF NF CF,sl AC NC CC,sl AG NG CG,sl AH NH CH]),sl AA NA CA,vI x3] w0 (Q29 w0 B res):=by
 unfold j_a at hm;refine goG func85 z z z λfn hr=>Ws<|EvX (vR x1 AF NF CF AC NC CC AG NG CG AH NH CH) z z z λJ _ _=>EvZ [vI 0,sN,sN] z v_ z λG _ _=>Ra z<|Rw z<|Wq<|Ws<|Rw z<|bdB hm λ_ hub L=>Wf (σ:=Unit) (ρ:=Val×Int×Int) (λ(k7:Nat)(_:Unit) a w=>Sat 47 [(1,sl AA NA CA),(2,vI x3),(3,pt w0.z),(6,pt J.z),(9,vI ((k7:Nat):Int))] a/\Below G.z G w) (λ(_:Unit) a w=>Sat 47 [(2,vI x3),(3,pt w0.z),(6,pt J.z)] a/\Below G.z G w) (rQ prog fn<|Q29 w0 B) hub ?_ ?_ ?_ ?_ ?_
 .exact λ_ q=>⟨kaA q,br G⟩
 .rintro k7 _ _ _ _ O ⟨hSc,_⟩ V;refine Wu ?_ hSc;refine Wq<|Wm z<|Rf z b_s z<|R z (l0 P_ z kBa)<|R z (lnR q_ z kR)<|Rl z z z<|Wx z (λ_=>?_) (λhc=>(Z_ O hc).elim);refine Wk<|Wq<|Wb<|Wq<|Wm z<|Rm z<|R z (add_ z z)<|Rm z<|R z (lnR q_ z kR)<|R z (c_2 z z)<|Wx z (λH=>?_) (λH=>?_)
  .exact Ws<|R z (bQ [] [vI 0,sN,sN] K_ z z)<|Rm z<|E0q [vI 0,sN,sN] b_ z z kB z λa8 hd _=>Ra z<|Rw z<|Wr<|rtO<|qL (som<|ifT V H).symm<|e_q hr (s_ e_ b_ z hd z) z z ⟨kW,none,0,0,[],none,0,0,[],z,ii z,onL,onL,Y,ii z,nd0,sQ⟩
  refine Wk<|Wq (Wd (X:=noX) 0 (pl_ 12 []) mo (by kernel_rfl) λa9 aa _=>?_);iterate 3 refine dM z z z ?_
  refine dR z z (add_ z z)<|bdB (ifF V H) λ_ eg hmf=>dxA (α:=UInt8) z z q_ z_5 z z z kR eg λ_ _ _ hh hi _=>?_;obtain rfl:=u8 hi;refine dR z z (l0 g_5 z<|hh.at0 z)<|dR z z (fd b_s z)<|dR z z (l0 P_ z kBa)<|dM z z z<|bdB hmf λ_ ej hma=>dxA (α:=UInt8) z z q_ z_5 z z z kR ej λ_ _ _ hk hl _=>?_;obtain rfl:=u8 hl;refine dR z z (l0 g_5 z<|hk.at0 z)<|dR z z (nq z z)<|pD<|Wo<|Wc z (λI=>?_) (λI=>?_)
  .exact Ws<|R z (bQ [] [vI 0,sN,sN] K_ z z)<|RM z z<|R z (add_ z z)<|E0q [vI 0,sN,sN] b_ z z kB z λab hn _=>Ra z<|Rw z<|Wr<|rtO<|qL (som<|ifT hma I).symm<|e_q hr (s_ e_ b_ z hn z) z z ⟨kW,none,0,0,[],none,0,0,[],z,ii z,onL,onL,iA _ _,ii z,nd0,sQ⟩
  exact Wk<|Wg<|Rm z<|R z (inc_ O (lt_ (repS.len W) y_) z z)<|Ra z<|Wl (λ_ q=>⟨(),(som<|ifF hma I).symm,⟨kaA q,kW⟩⟩)
 .rintro _ _ _ ⟨hSo,sp⟩;refine Wu ?_ hSo;refine Wq<|Wm z<|Rf z b_s z<|R z (l0 P_ z kBa)<|R z (lnR q_ z kR)<|Rl z z z<|Wx z (λhc=>(a_0 hc).elim) (λ_=>?_);exact We<|λ_ q=>⟨rfl,⟨kaA q,sp⟩⟩
 .rintro _ aq _ rfl ⟨_,_⟩;have hmr:=elL L;revert aq;refine Wo<|Wq (Wd (X:=(· ∈ [J.z])) 0 (pl_ 9 [6]) mo (by kernel_rfl) λad ae _=>dR z z (bQ [] [vI 0,sN,sN] K_ z z)<|dM z z z<|dR z z (fd b_s z)<|dR z z (l1 P_ z sQ kBa)<|dR z z (lnR q_ z kR)<|dR z z (add_ z z)<|dE0 z (fs0 (cur':=[vI 0,sN,sN]) b_ z z kB z z z z) (.inr λ_ _ h=>e_n (List.mem_singleton.2 z) h.2) ?_);rintro _ _ ⟨ht,ss⟩;have:=ss.one;exact dQ z z z<|dQ z z z<|pD<|Wo<|Wr<|rS3 hmr hr (s_ e_ b_ z ht z) z z ⟨kW,none,0,0,[],none,0,0,[],z,ii z,onL,onL,iA _ _,ii z,nd0,sQ⟩
 exact lqA L λ_ _ h=>h.2
theorem W_w27 {x1:Bt}{x2:Int}{x3:Int}{res:Val×Int×Int}(hm:h_T x1 x2 x3=some res)(a2:B<=w0.z)(Y:rp w0 B A0 N0 C0 x1)(L:inI x2)(a0:inI x3):g_ prog 86 [sl A0 N0 C0,vI x2,vI x3] w0 (Q29 w0 B res):=by
 unfold h_T at hm;refine goG func86 z z z λfn hr=>Ws<|EvZ [vI 0,sN,sN] z v_ z λw5 _ O=>Ra z<|Rw z<|Wq<|Wm z<|R z (lnR q_ z kR)<|Rm z<|R z (sb_ z z)<|Rm z<|Rl z z z<|Wx z (λG=>?_) (λG=>?_)
 .exact Ws<|R z (bQ [] [vI 0,sN,sN] K_ z z)<|Rm z<|E0q [vI 0,sN,sN] b_ z z O z λwj h6 _=>Ra z<|Rw z<|Wr<|rS3 (ifT hm G) hr (s_ e_ b_ z h6 z) z z ⟨kW,none,0,0,[],none,0,0,[],z,ii z,onL,onL,L,ii z,nd0,sQ⟩
 refine Wk<|Ws<|E z (f0 (α:=UInt8) G_) ?_;rintro _ _ ⟨_,_,_,rfl,_,V⟩;refine RM z z<|RM z z<|R z (add_ z z)<|bdB (ifF hm G) λ_ W hma=>RX z (rX q_ z_5 z z kR z z W) ?_;rintro _ ⟨_,_,_,rfl,hb⟩;refine bdB hma λxc ed hme=>E z (fN (α:=UInt8) G_ ed z z V M_ hb) ?_;rintro _ _ ⟨Sf,H,I,J,rfl,_,_,hg,_⟩;exact R z (bQ [(1,.tmp 24)] [vI 0,sl H I J,sN] K_ z z)<|RM z z<|R z (add_ z z)<|E0q [vI 0,sl H I J,sN] b_ z z kB z λwx hh _=>Ra z<|Rw z<|Wr<|rS3 hme hr (s_ e_ b_ z hh z) z z ⟨kW,H,I,J,Sf,none,0,0,[],z,ii z,kO (l:=xc),onL,iA _ _,ii z,na_ hg x_ sQ,sQ⟩
theorem W_w3p {x1:Bt}{x2:Int}{x3:UInt8}{res:Bt×Int×Bool}(hm:j_b n x1 x2 x3=some res)(aP:B<=w0.z)(aO:rp w0 B A0 N0 C0 x1)(a0:inI x2):g_ prog 87 [sl A0 N0 C0,vI x2,vU<|byteI x3] w0 (Q27 w0 B res):=by
 unfold j_b at hm;refine goG func87 z z z λfn hr=>Ws<|RA z z<|Rw z<|Ws<|E z (f0 (α:=UInt8) G_) ?_;rintro _ O ⟨ar,ns,ct,rfl,_,hu⟩;refine Rw z<|Wq<|Wm z<|Rw z ?_;obtain ⟨_,huv,hmi⟩:=bdS hm;refine c_q (σ:=Bt×Int) (ρ:=Bt×Int×Bool) (λs a w=>un2 (λV x4=>∃H I J G,Sat 54 [(0,sl A0 N0 C0),(1,vI x2),(2,vU<|byteI x3),(9,sl H I J),(10,vI x4)] a/\Cg [w0.z] O w/\a_ w G (sl H I J) V/\G.Nodup/\(∀k∈G,k∈[w0.z]∨O.z<=k)/\inI x4) s) (λs a w=>un2 (λV x4=>∃H I J G,Sat 54 [(1,vI x2)] a/\Cg [w0.z] O w/\a_ w G (sl H I J) V/\G.Nodup/\(∀k∈G,k∈[w0.z]∨O.z<=k)/\inI x4) s) (rQ prog fn<|Q27 w0 B) huv ?_ ?_ ?_ ?_
 .exact λ_ q=>⟨ar,ns,ct,[w0.z],kaA q,cr [w0.z] O,hu,M_,sQ,a0⟩
 .rintro ⟨V,x4⟩ _ wj _ ⟨H,I,J,G,hSw,_,hx,W,hy,hb⟩ hmz;refine Wu ?_ hSw;refine Wq<|Wq<|bdB (a_Q hmz) λad a3 hmk=>Wt (λa w=>∃(xc:Bool),xc=ad/\Sat 54 [(0,sl A0 N0 C0),(1,vI x2),(2,vU<|byteI x3),(9,sl H I J),(10,vI x4),(22,vB xc)] a/\Below wj.z wj w) ?_ ?_
  .refine Wg<|RM z z<|R z (lnR q_ z kR)<|bdB a3 λae af hml=>EcA z (fc call50 z<|b_D (B:=B) af kM a0 (ii z)<|a_T<|repS.len kR) λ_ sm=>Rm z ?_;rcases bs ae with L | L
   .exact Rh z L (mv z)<|Rh z L (mv z)<|Rh z L (lnR q_ z kR)<|Rh z L (lss z z)<|R z (pT z L z)<|Wl (λ_ q=>⟨decide<|x4<(x1.length:Int),som<|ifT hml L,kaA q,sm⟩)
   iterate 4 refine Nh z L ?_
   exact R z (pF z L z)<|Wl (λ_ q=>⟨false,som<|ifF hml L,kaA q,sm⟩)
  rintro ah wa ⟨xc,rfl,_,_⟩;revert ah;refine Wo<|Wc z (λhcd=>?_) (λhcd=>?_)
  .refine Wk<|Wq<|Wb<|Wq<|Wm z<|Rm z<|bdB (ifT hmk hcd) λ_ ai hmn=>xA (α:=UInt8) z q_ z_5 z z z kR ai λ_ _ _ aj ak _=>?_;obtain rfl:=u8 ak;refine R z (l0 g_5 z<|aj.at0 z)<|Rm z<|Rq z z z<|Wx z (λhce=>?_) (λhce=>?_)
   .exact Wm z<|Rm z<|R z (add_ z z)<|RA z z<|Rw z<|Wr<|rtO<|qL (som<|ifT hmn hce).symm<|e_q hr z z z ⟨kW,H,I,J,G,z,kO,iA _ _,W,sQ⟩
   refine Wk<|Wq<|Wm z<|Rm z<|bdB (ifF hmn hce) λ_ al a4=>xA (α:=UInt8) z q_ z_5 z z z kR al λ_ _ _ am an _=>?_;obtain rfl:=u8 an;refine R z (l0 g_5 z<|am.at0 z)<|Rq z z z<|Wn<|bdB a4 λap huo hmp=>Wt (λa w=>∃(Y:Int),Sum.inl Y=ap/\Sat 54 [(0,sl A0 N0 C0),(1,vI x2),(2,vU<|byteI x3),(9,sl H I J),(10,vI Y)] a/\Below wa.z wa w/\inI Y) ?_ ?_
   .refine Wc z (λhcf=>?_)<|λhcf=>?_
    .have hmq:=ifT huo hcf;refine Wm z<|R z (add_ z z)<|Rw z<|Wm z<|Rm z<|R z (lnR q_ z kR)<|Rq z z z<|Wx z (λhcg=>?_) (λhcg=>?_)
     .obtain rfl:=som<|ifT hmq hcg;have a5:=elR hmp;exact We<|exO z (λ_ q=>c_0 (som a5).symm ⟨H,I,J,G,kaA q,kW,kO,W,sQ,iA _ _⟩)
     exact a_7<|λ_ q=>⟨i_ x4 1,som<|ifF hmq hcg,kaA q,br wa,iA _ _⟩
    exact a_7<|λ_ q=>⟨x4,som<|ifF huo hcf,kaA q,br wa,hb⟩
   rintro aq au ⟨Y,rfl,_,_,_⟩;have a6:=elL hmp;revert aq;refine Wo<|Wg<|RM z z<|Rm z<|bdB a6 λav aw a7=>xA (α:=UInt8) z q_ z_5 z z z kR aw λ_ _ _ ax ay _=>?_;obtain rfl:=u8 ay;refine R z (l0 g_5 z<|ax.at0 z)<|EvA z (fS [(.tmp 49)] G_ z z z (T_ z) (lb z)<|lb z) λaz hh=>have:=hh.below;have a2:Blk az au.z [vU (byteI av)]:=hh.blk;have:=a_B hh b_t;bdB a7 λaA aB a8=>E z (a_q (α:=UInt8) G_ aB z z kO W a2 b_t an_ x_) ?_;rintro _ _ ⟨aC,aD,aE,aF,rfl,_,aG,aH,_⟩;exact Rw z<|Wg<|Rm z<|R z (add_ z z)<|Ra z<|Wl (λ_ q=>⟨(aA,i_ Y 1),(som a8).symm,⟨aD,aE,aF,aC,kaA q,kW,aG,aH,sQ,iA _ _⟩⟩)
  exact We<|λ_ q=>c_0 (som<|ifF hmk hcd).symm ⟨H,I,J,G,kaA q,kW,kO,W,sQ,hb⟩
 .rintro ⟨V,x4⟩ aI aJ rfl ⟨H,I,J,G,_,_,hx,W,hy,hb⟩;have a9:=elL hmi;revert aI;refine Wo<|Ws<|E z (f0 (α:=UInt8) G_) ?_;rintro _ _ ⟨aK,aL,aM,rfl,_,aN⟩;exact Rm z<|RA z z<|Rw z<|Wr<|rS3 (a_Q a9) hr z z z ⟨kW,aK,aL,aM,[aJ.z],z,aN,a0,M_,sQ⟩
 exact lqA hmi λ_ _ h=>h.2
structure m_C (f:c_->Int->Bt->Int->Option (Val×Int×Int)):Prop where
  run:∀{A0 A9:Option Addr}{N0 C0 N9 C9:Nat}{B:Zone}{x1:c_}{x2:Int}{x3:Bt}{x4:Int}{res:Val×Int×Int}{w0:World}(hm:f x1 x2 x3 x4=some res)(hBw:B<=w0.z)(p1_0:rp w0 B A0 N0 C0 x1.rules)(p2_0:inI x2)(p3_0:rp w0 B A9 N9 C9 x3)(p4_0:inI x4),g_ prog 51 [(.agg #[sl A0 N0 C0]),vI x2,sl A9 N9 C9,vI x4] w0<|Q29 w0 B res
structure m_D (f:c_->d_->Int->Int->Bt->Int->Option (Val×Int×Int)):Prop where
  run:∀{A0 A5 A6 A3 A7 AJ:Option Addr}{N0 C0 N5 C5 N6 C6 N3 C3 N7 C7 NJ CJ:Nat}{B:Zone}{x1:c_}{x2:d_}{x3:Int}{x4:Int}{x5:Bt}{x6:Int}{res:Val×Int×Int}{w0:World}(hm:f x1 x2 x3 x4 x5 x6=some res)(hBw:B<=w0.z)(p1_0:rp w0 B A0 N0 C0 x1.rules)(p2_0:x2.name.b.length<=LEN)(p2_1:inI x2.kind)(p2_2:inI x2.size)(p2_4:rp w0 B A5 N5 C5 x2.bytes)(p2_5:rp w0 B A6 N6 C6 x2.names)(p2_6:rp w0 B A3 N3 C3 x2.tags)(p2_7:rp w0 B A7 N7 C7 x2.kids)(p3_0:inI x3)(p4_0:inI x4)(p5_0:rp w0 B AJ NJ CJ x5)(p6_0:inI x6),g_ prog 88 [(.agg #[sl A0 N0 C0]),.agg #[Str.v x2.name,vI x2.kind,vI x2.size,vB x2.little,sl A5 N5 C5,sl A6 N6 C6,sl A3 N3 C3,sl A7 N7 C7],vI x3,vI x4,sl AJ NJ CJ,vI x6] w0<|Q29 w0 B res
structure m_E (f:c_->d_->Bt->Int->Option (Val×Int×Int)):Prop where
  run:∀{A0 A5 A6 A3 A7 A9:Option Addr}{N0 C0 N5 C5 N6 C6 N3 C3 N7 C7 N9 C9:Nat}{B:Zone}{x1:c_}{x2:d_}{x3:Bt}{x4:Int}{res:Val×Int×Int}{w0:World}(hm:f x1 x2 x3 x4=some res)(hBw:B<=w0.z)(p1_0:rp w0 B A0 N0 C0 x1.rules)(p2_0:x2.name.b.length<=LEN)(p2_1:inI x2.kind)(p2_2:inI x2.size)(p2_4:rp w0 B A5 N5 C5 x2.bytes)(p2_5:rp w0 B A6 N6 C6 x2.names)(p2_6:rp w0 B A3 N3 C3 x2.tags)(p2_7:rp w0 B A7 N7 C7 x2.kids)(p3_0:rp w0 B A9 N9 C9 x3)(p4_0:inI x4),g_ prog 89 [(.agg #[sl A0 N0 C0]),.agg #[Str.v x2.name,vI x2.kind,vI x2.size,vB x2.little,sl A5 N5 C5,sl A6 N6 C6,sl A3 N3 C3,sl A7 N7 C7],sl A9 N9 C9,vI x4] w0<|Q29 w0 B res
structure m_F (f:c_->d_->Bt->Int->Option (Val×Int×Int)):Prop where
  run:∀{A0 A5 A6 A3 A7 A9:Option Addr}{N0 C0 N5 C5 N6 C6 N3 C3 N7 C7 N9 C9:Nat}{B:Zone}{x1:c_}{x2:d_}{x3:Bt}{x4:Int}{res:Val×Int×Int}{w0:World}(hm:f x1 x2 x3 x4=some res)(hBw:B<=w0.z)(p1_0:rp w0 B A0 N0 C0 x1.rules)(p2_0:x2.name.b.length<=LEN)(p2_1:inI x2.kind)(p2_2:inI x2.size)(p2_4:rp w0 B A5 N5 C5 x2.bytes)(p2_5:rp w0 B A6 N6 C6 x2.names)(p2_6:rp w0 B A3 N3 C3 x2.tags)(p2_7:rp w0 B A7 N7 C7 x2.kids)(p3_0:rp w0 B A9 N9 C9 x3)(p4_0:inI x4),g_ prog 90 [(.agg #[sl A0 N0 C0]),.agg #[Str.v x2.name,vI x2.kind,vI x2.size,vB x2.little,sl A5 N5 C5,sl A6 N6 C6,sl A3 N3 C3,sl A7 N7 C7],sl A9 N9 C9,vI x4] w0<|Q29 w0 B res
structure m_G (f:c_->d_->Bt->Int->Option (Val×Int×Int)):Prop where
  run:∀{A0 A5 A6 A3 A7 A9:Option Addr}{N0 C0 N5 C5 N6 C6 N3 C3 N7 C7 N9 C9:Nat}{B:Zone}{x1:c_}{x2:d_}{x3:Bt}{x4:Int}{res:Val×Int×Int}{w0:World}(hm:f x1 x2 x3 x4=some res)(hBw:B<=w0.z)(p1_0:rp w0 B A0 N0 C0 x1.rules)(p2_0:x2.name.b.length<=LEN)(p2_1:inI x2.kind)(p2_2:inI x2.size)(p2_4:rp w0 B A5 N5 C5 x2.bytes)(p2_5:rp w0 B A6 N6 C6 x2.names)(p2_6:rp w0 B A3 N3 C3 x2.tags)(p2_7:rp w0 B A7 N7 C7 x2.kids)(p3_0:rp w0 B A9 N9 C9 x3)(p4_0:inI x4),g_ prog 91 [(.agg #[sl A0 N0 C0]),.agg #[Str.v x2.name,vI x2.kind,vI x2.size,vB x2.little,sl A5 N5 C5,sl A6 N6 C6,sl A3 N3 C3,sl A7 N7 C7],sl A9 N9 C9,vI x4] w0<|Q29 w0 B res
abbrev h_O (n:Nat):Prop:=m_C (a_s n).spec_l11Read/\m_D (a_s n).spec_l11Items/\m_E (a_s n).spec_l11Choice/\m_F (a_s n).spec_l11Option/\m_G (a_s n).spec_l11Checked
theorem T_w05 (ih:h_O n):m_C (j_c n<|a_s n):=by
 obtain ⟨_,ap,bO,bP,bR⟩:=ih;constructor;intro A0 A9 N0 C0 N9 C9 B x1 x2 x3 x4 res w0 hm dB dy bC dz G;unfold j_c at hm;refine goG func51 z z z λfn hr=>Ws<|EvX [sl A0 N0 C0] z z z λdC _ _=>EvZ [vI 0,sN,sN] z v_ z λdD _ _=>Ra z<|Rw z<|Ws<|Rf z Q_ z<|R z (l0 U_ z kBa)<|Rm z<|bdB hm λx5 bS a7=>xA (α:=d_) z Y_ o_ z z z kR bS λ_ _ _ bT bU _=>?_;obtain ⟨I,J,L,O,V,W,Y,n9,ca,ab,nc,cd,rfl,hf,hg,he,_,_,_,_⟩:=a_G bU;refine R z (lN (vs:=vR x5 I J L O V W Y n9 ca ab nc cd) I_ o_ z z fid bT)<|EvZ [(Str.v (⟨[]⟩:Str)),vI 0,vI 0,vB false,sN,sN,sN,sN] z c_l z λdF _ bD=>E0q (vR x5 I J L O V W Y n9 ca ab nc cd) o_ z z bD z λdG H _=>Wn<|Wq<|Ws<|Rf z a_F z<|R z (l0 g_3 z<|H.at z)<|Wn<|Wb<|Ws<|Rq z z z<|Rw z<|Wc z (λhch=>?_) (λhch=>?_)
 .refine Ws<|R z (lC [sl A0 N0 C0] h_ f_ z)<|RM z z<|Rm z ?_;obtain ⟨aq,_,_,bV,a9⟩:=m_<|ifT a7 hch;refine E z (fc call84 z<|m_B (B:=B) bV kM kR bC kR G) ?_;rintro _ _ ⟨_,rfl,bW,bX⟩;refine Rm z ?_;iterate 3 refine Re z z z ?_
  refine RA z z<|Rw z<|Wq<|Wm z<|R z (not_ z)<|Wx z (λhci=>?_) (λhci=>?_)
  .exact Ws<|R z (bQ [] [vI 0,sN,sN] K_ z z)<|Rm z<|E0q [vI 0,sN,sN] b_ z z kB z λdH bY _=>Ra z<|Rw z<|Wr<|rtO<|rS3 (ifT a9 hci) hr (s_ e_ b_ z bY z) z z ⟨kW,none,0,0,[],none,0,0,[],z,ii z,onL,onL,G,ii z,nd0,sQ⟩
  exact Wk<|Wm z<|R z (bQ [(0,.tmp 43)] [vI aq,sN,sN] K_ z z)<|Rm z<|E0q [vI aq,sN,sN] b_ z z kB z λdI bZ _=>Ra z<|Rw z<|Wr<|rtO<|rS3 (ifF a9 hci) hr (s_ e_ b_ z bZ z) z z ⟨kW,none,0,0,[],none,0,0,[],z,bW,onL,onL,bX,ii z,nd0,sQ⟩
 have aa:=ifF a7 hch;refine Ws<|Rq z z z<|Rw z<|Wc z (λhcj=>?_) (λhcj=>?_)
 .refine Ws<|R z (lN (vs:=vR x5 I J L O V W Y n9 ca ab nc cd) I_ o_ z z fid<|H.row 0 8 z)<|RM z z ?_;obtain ⟨rk,_,_,c0,bE⟩:=m_<|ifT aa hcj;refine E z (fc call85 z<|W_w3o (B:=B) c0 kM hf hg he kR kR kR kR kR G) ?_;rintro _ _ ⟨_,ar,au,av,c1,aw,ax,ay,c2,rfl,c4,_,_,c5,c6,c8,c9⟩;obtain ⟨bk,bm,_,_,_⟩:=z_ c8 c9;iterate 3 refine Re z z z ?_
  exact E0q [vI rk.number,sl ar au av,sl aw ax ay] b_ z z kB z λdJ cb _=>Ra z<|Rw z<|Wr<|rtO<|rS3 bE hr (s_ e_ b_ z cb z) z z ⟨kW,ar,au,av,c1,aw,ax,ay,c2,z,c4,kO (l:=rk.bytes),kO (l:=rk.items),c5,c6,na_ bk bm sQ,sQ⟩
 have ad:=ifF aa hcj;refine Ws<|Rq z z z<|Rw z<|Wc z (λhcl=>?_) (λhcl=>?_)
 .refine Wm z<|Rm z<|Rf z a_P z<|R z (l0 g_3 z<|H.at z) ?_;obtain ⟨rm,_,_,cc,bF⟩:=m_<|ifT ad hcl;refine E z (fc call86 z<|W_w27 (B:=B) cc kM kR G he) ?_;rintro _ _ ⟨_,az,aA,aB,ce,aC,aD,aE,cf,rfl,cg,_,_,ch,ci,cj,ck⟩;obtain ⟨bn,bo,_,_,_⟩:=z_ cj ck;iterate 3 refine Re z z z ?_
  exact E0q [vI rm.number,sl az aA aB,sl aC aD aE] b_ z z kB z λdK cl _=>Ra z<|Rw z<|Wr<|rtO<|rS3 bF hr (s_ e_ b_ z cl z) z z ⟨kW,az,aA,aB,ce,aC,aD,aE,cf,z,cg,kO (l:=rm.bytes),kO (l:=rm.items),ch,ci,na_ bn bo sQ,sQ⟩
 have ae:=ifF ad hcl;refine Ws<|Rq z z z<|Rw z<|Wc z (λhcn=>?_) (λhcn=>?_)
 .refine Wm z<|Rm z<|Rf z b_s z<|R z (l0 P_ z<|H.at z)<|bdB (ifT ae hcn) λ_ cm bG=>xA (α:=UInt8) z q_ z_5 z z z kR cm λ_ _ _ cn co _=>?_;obtain rfl:=u8 co;refine R z (l0 g_5 z<|cn.at0 z) ?_;obtain ⟨cp,_,_,cr,af⟩:=m_ bG;refine E z (fc call87 z<|W_w3p (B:=B) cr kM kR G) ?_;rintro _ _ ⟨_,ao,np,cq,ct,rfl,_,cu,cv,_⟩;refine Rm z ?_;iterate 3 refine Re z z z ?_
  refine RA z z<|Rw z<|Wq<|Wm z<|R z (not_ z)<|Wx z (λhcr=>?_) (λhcr=>?_)
  .exact Ws<|R z (bQ [] [vI 0,sN,sN] K_ z z)<|Rm z<|E0q [vI 0,sN,sN] b_ z z kB z λdL cw _=>Ra z<|Rw z<|Wr<|rtO<|rS3 (ifT af hcr) hr (s_ e_ b_ z cw z) z z ⟨kW,none,0,0,[],none,0,0,[],z,ii z,onL,onL,G,ii z,nd0,sQ⟩
  exact Wk<|Wm z<|R z (bQ [(1,.tmp 82)] [vI 0,sl ao np cq,sN] K_ z z)<|Rm z<|E0q [vI 0,sl ao np cq,sN] b_ z z kB z λdN cx _=>Ra z<|Rw z<|Wr<|rtO<|rS3 (ifF af hcr) hr (s_ e_ b_ z cx z) z z ⟨kW,ao,np,cq,ct,none,0,0,[],z,ii z,kO (l:=cp),onL,cu,ii z,na_ cv x_ sQ,sQ⟩
 have ah:=ifF ae hcn;refine Ws<|Rq z z z<|Rw z<|Wc z (λhcs=>?_) (λhcs=>?_)
 .refine Ws<|R z (lC [sl A0 N0 C0] h_ f_ z)<|R z (lN (vs:=vR x5 I J L O V W Y n9 ca ab nc cd) I_ o_ z z fid<|H.row 0 8 z)<|Rf z R_ z<|R z (l0 E_ z<|H.at z)<|R z (lnR A_ z kR)<|RM z z ?_;obtain ⟨rt,_,_,cy,bH⟩:=m_<|ifT ah hcs;refine E z (fc call88 z<|ap.run (B:=B) cy kM kR hf hg he kR kR kR kR (ii z) (a_T<|repS.len kR) kR G) ?_;rintro _ _ ⟨_,aF,aG,aH,cz,aI,aJ,aK,cA,rfl,cB,_,_,cC,cD,cE,cF⟩;obtain ⟨bp,bq,_,_,_⟩:=z_ cE cF;iterate 3 refine Re z z z ?_
  exact E0q [vI rt.number,sl aF aG aH,sl aI aJ aK] b_ z z kB z λdO cG _=>Ra z<|Rw z<|Wr<|rtO<|rS3 bH hr (s_ e_ b_ z cG z) z z ⟨kW,aF,aG,aH,cz,aI,aJ,aK,cA,z,cB,kO (l:=rt.bytes),kO (l:=rt.items),cC,cD,na_ bp bq sQ,sQ⟩
 have ai:=ifF ah hcs;refine Ws<|Rq z z z<|Rw z<|Wc z (λhcu=>?_) (λhcu=>?_)
 .refine Ws<|R z (lC [sl A0 N0 C0] h_ f_ z)<|R z (lN (vs:=vR x5 I J L O V W Y n9 ca ab nc cd) I_ o_ z z fid<|H.row 0 8 z)<|RM z z ?_;obtain ⟨rv,_,_,cH,bI⟩:=m_<|ifT ai hcu;refine E z (fc call89 z<|bO.run (B:=B) cH kM kR hf hg he kR kR kR kR kR G) ?_;rintro _ _ ⟨_,aL,aM,aN,cI,aO,aP,aQ,cJ,rfl,cK,_,_,cL,cM,cN,cO⟩;obtain ⟨br,bs,_,_,_⟩:=z_ cN cO;iterate 3 refine Re z z z ?_
  exact E0q [vI rv.number,sl aL aM aN,sl aO aP aQ] b_ z z kB z λdP cP _=>Ra z<|Rw z<|Wr<|rtO<|rS3 bI hr (s_ e_ b_ z cP z) z z ⟨kW,aL,aM,aN,cI,aO,aP,aQ,cJ,z,cK,kO (l:=rv.bytes),kO (l:=rv.items),cL,cM,na_ br bs sQ,sQ⟩
 have aj:=ifF ai hcu;refine Ws<|Rq z z z<|Rw z<|Wc z (λhcw=>?_) (λhcw=>?_)
 .refine Ws<|R z (lC [sl A0 N0 C0] h_ f_ z)<|R z (lN (vs:=vR x5 I J L O V W Y n9 ca ab nc cd) I_ o_ z z fid<|H.row 0 8 z)<|RM z z ?_;obtain ⟨rx,_,_,cQ,bJ⟩:=m_<|ifT aj hcw;refine E z (fc call90 z<|bP.run (B:=B) cQ kM kR hf hg he kR kR kR kR kR G) ?_;rintro _ _ ⟨_,aR,aS,aT,cR,aU,aV,aW,cS,rfl,cT,_,_,cU,cV,cW,cX⟩;obtain ⟨bt,bu,_,_,_⟩:=z_ cW cX;iterate 3 refine Re z z z ?_
  exact E0q [vI rx.number,sl aR aS aT,sl aU aV aW] b_ z z kB z λdT cY _=>Ra z<|Rw z<|Wr<|rtO<|rS3 bJ hr (s_ e_ b_ z cY z) z z ⟨kW,aR,aS,aT,cR,aU,aV,aW,cS,z,cT,kO (l:=rx.bytes),kO (l:=rx.items),cU,cV,na_ bt bu sQ,sQ⟩
 have ak:=ifF aj hcw;refine Ws<|Rq z z z<|Rw z<|Wc z (λhcy=>?_) (λhcy=>?_)
 .refine Ws<|R z (lC [sl A0 N0 C0] h_ f_ z)<|R z (lN (vs:=vR x5 I J L O V W Y n9 ca ab nc cd) I_ o_ z z fid<|H.row 0 8 z)<|RM z z ?_;obtain ⟨rz,_,_,cZ,bK⟩:=m_<|ifT ak hcy;refine E z (fc call91 z<|bR.run (B:=B) cZ kM kR hf hg he kR kR kR kR kR G) ?_;rintro _ _ ⟨_,aX,aY,aZ,d0,b0,b3,b4,d1,rfl,d2,_,_,d3,d4,d5,d6⟩;obtain ⟨bv,bw,_,_,_⟩:=z_ d5 d6;iterate 3 refine Re z z z ?_
  exact E0q [vI rz.number,sl aX aY aZ,sl b0 b3 b4] b_ z z kB z λdU d7 _=>Ra z<|Rw z<|Wr<|rtO<|rS3 bK hr (s_ e_ b_ z d7 z) z z ⟨kW,aX,aY,aZ,d0,b0,b3,b4,d1,z,d2,kO (l:=rz.bytes),kO (l:=rz.items),d3,d4,na_ bv bw sQ,sQ⟩
 refine Wk<|Wq (Wd (X:=noX) 0 (pl_ 15 [7]) mo (by kernel_rfl) λdV dW _=>dR z z (lC [sl A0 N0 C0] h_ f_ z)<|dR z z (fd R_ z)<|dR z z (l0 E_ z kBa) ?_);refine bdB (ifF ak hcy) λ_ d8 bL=>dxA (α:=Int) z z A_ z_3 z z z kR d8 λ_ _ _ d9 da _=>?_;obtain ⟨rfl,db⟩:=a_U da;refine dR z z (l0 g_3 z<|d9.at0 z)<|dM z z z<|dM z z z ?_;obtain ⟨_,_,_,dc,al⟩:=m_ bL;refine dE z z (fc call84 z<|m_B (B:=B) dc kM kR db kR G) iB ?_;rintro _ _ ⟨_,rfl,b5,b6⟩;refine dM z z z ?_;iterate 3 refine dR z z (ext_ z z) ?_
 iterate 3 refine dQ z z z ?_
 refine pD<|Wo<|Wq<|Wb<|Wm z<|R z (not_ z)<|Rw z<|Wc z (λa0=>?_) (λa0=>?_)
 .exact Ws<|R z (bQ [] [vI 0,sN,sN] K_ z z)<|Rm z<|E0q [vI 0,sN,sN] b_ z z kB z λdX dd _=>Ra z<|Rw z<|Wr<|rtO<|rS3 (ifT al a0) hr (s_ e_ b_ z dd z) z z ⟨kW,none,0,0,[],none,0,0,[],z,ii z,onL,onL,G,ii z,nd0,sQ⟩
 have am:=ifF al a0;refine Ws<|Rf z a_F z<|R z (l0 g_3 z kBa)<|Rq z z z<|Rw z<|Wc z (λa2=>?_) (λa2=>?_)
 .refine Wm z<|RM z z ?_;obtain ⟨a5,_,_,de,bM⟩:=m_<|ifT am a2;refine E z (fc call86 z<|W_w27 (B:=B) de kM kR b6 b5) ?_;rintro _ _ ⟨_,b7,b8,b9,df,ba,bb,bc,dg,rfl,dh,_,_,di,dj,dk,dl⟩;obtain ⟨bx,bz,_,_,_⟩:=z_ dk dl;iterate 3 refine Re z z z ?_
  exact E0q [vI a5.number,sl b7 b8 b9,sl ba bb bc] b_ z z kB z λdY dm _=>Ra z<|Rw z<|Wr<|rtO<|rS3 bM hr (s_ e_ b_ z dm z) z z ⟨kW,b7,b8,b9,df,ba,bb,bc,dg,z,dh,kO (l:=a5.bytes),kO (l:=a5.items),di,dj,na_ bx bz sQ,sQ⟩
 have an:=ifF am a2;refine Wm z<|R z (a_n z z)<|Rw z<|Wc z (λa3=>?_) (λa3=>?_)
 .exact Ws<|R z (bQ [] [vI 0,sN,sN] K_ z z)<|Rm z<|E0q [vI 0,sN,sN] b_ z z kB z λdZ dn _=>Ra z<|Rw z<|Wr<|rtO<|rS3 (ifT an a3) hr (s_ e_ b_ z dn z) z z ⟨kW,none,0,0,[],none,0,0,[],z,ii z,onL,onL,G,ii z,nd0,sQ⟩
 refine Wk<|Ws<|R z (lC [sl A0 N0 C0] h_ f_ z)<|R z (lN (vs:=vR x5 I J L O V W Y n9 ca ab nc cd) I_ o_ z z fid<|kBr 0 8)<|RM z z<|Rm z ?_;obtain ⟨a6,_,_,dp,bN⟩:=m_<|ifF an a3;refine E z (fc call88 z<|ap.run (B:=B) dp kM kR hf hg he kR kR kR kR (ii z) b5 kR b6) ?_;rintro _ _ ⟨_,be,bf,bg,dq,bh,bi,bj,dr,rfl,ds,_,_,dt,du,dv,dw⟩;obtain ⟨bA,bB,_,_,_⟩:=z_ dv dw;iterate 3 refine Re z z z ?_
 exact E0q [vI a6.number,sl be bf bg,sl bh bi bj] b_ z z kB z λe0 dx _=>Ra z<|Rw z<|Wr<|rS3 bN hr (s_ e_ b_ z dx z) z z ⟨kW,be,bf,bg,dq,bh,bi,bj,dr,z,ds,kO (l:=a6.bytes),kO (l:=a6.items),dt,du,na_ bA bB sQ,sQ⟩
theorem T_w28 (ih:h_O n):m_D (j_d n<|a_s n):=by
 obtain ⟨a1,_,_,_,_⟩:=ih;constructor;intro A0 A5 A6 A3 A7 AJ N0 C0 N5 C5 N6 C6 N3 C3 N7 C7 NJ CJ B x1 x2 x3 x4 x5 x6 res w0 hm cc c6 a2 a3 a4 c7 c8 c9 ca a5 Y cb aN;unfold j_d at hm;refine goG func88 z z z λfn hr=>Ws<|EvX [sl A0 N0 C0] z z z λwn _ aO=>EvX (vR x2 A5 N5 C5 A6 N6 C6 A3 N3 C3 A7 N7 C7) z z z λwd _ aP=>EvZ [vI 0,sN,sN] z v_ z λJ _ _=>Ra z<|Rw z<|Ws<|R z (bQ [] [vI 0,sN,sN] K_ z z)<|EvZ [vI 0,sN,sN] z v_ z λcd _ aQ=>E0q [vI 0,sN,sN] b_ z z aQ z λwe b6 _=>Wn<|Wq<|Ws<|Rw z ?_;obtain ⟨_,aR,a6⟩:=bdS hm;refine Wf (σ:=Int×(List Val)) (ρ:=Val×Int×Int) (λ(kw:Nat) s a w=>un2 (λL O=>∃G H I S3,Sat 52 [(2,vI x3),(3,vI x4),(4,sl AJ NJ CJ),(5,vI L),(6,pt w0.z),(7,pt wn.z),(12,pt wd.z),(15,pt J.z),(16,vI ((kw:Nat):Int))] a/\Cg [J.z] we w/\inI L/\a_ w S3 (sl G H I) O/\S3.Nodup/\(∀k∈S3,we.z<=k)/\Blk w J.z [vI 0,sN,sl G H I]) s) (λs a w=>un2 (λL O=>∃G H I S3,Sat 52 [(5,vI L),(12,pt wd.z),(15,pt J.z)] a/\Cg [J.z] we w/\inI L/\a_ w S3 (sl G H I) O/\S3.Nodup/\(∀k∈S3,we.z<=k)/\Blk w J.z [vI 0,sN,sl G H I]) s) (rQ prog fn<|Q29 w0 B) aR ?_ ?_ ?_ ?_ ?_
 .exact λ_ q=>⟨none,0,0,[],kaA q,cr [J.z] we,aN,onL,x_,an_,b6⟩
 .rintro kw ⟨L,O⟩ _ wb _ hko ⟨G,H,I,S3,aS,_,h5,hx,hf,hy,hp⟩ aT;refine Wu ?_ aS;refine Wq<|Wm z<|Rm z<|Rl z z z<|Wx z (λ_=>?_) (λhc=>(j_O hko hc).elim);refine Wk<|Wq<|Wb<|Wq<|bdB (a_Q aT) λb7 a7 aU=>Wt (λa w=>∃(V:Int)(xq:Bt)(xr:List Val)(xg:Int)(xs:Int),(V,xq,xr,xg,xs)=b7/\∃ah ni cj W ak nl cm Sa gc,Sat 52 [(2,vI x3),(3,vI x4),(4,sl AJ NJ CJ),(6,pt w0.z),(7,pt wn.z),(12,pt wd.z),(15,pt J.z),(16,vI ((kw:Nat):Int)),(17,pt gc),(18,vI xg),(19,vI xs)] a/\Below wb.z wb w/\inI V/\a_ w W (sl ah ni cj) xq/\W.Nodup/\(∀k∈W,wb.z<=k)/\a_ w Sa (sl ak nl cm) xr/\Sa.Nodup/\(∀k∈Sa,wb.z<=k)/\(∀k∈Sa,k∉W)/\inI xg/\inI xs/\Blk w gc [vI V,sl ah ni cj,sl ak nl cm]/\wb.z<=gc/\(∀k∈W,k∉[gc])/\(∀k∈Sa,k∉[gc])) ?_ ?_
  .refine Wd (X:=λk=>k∈([]:List Nat)∨wb.z<=k) 0 (.rd 0<|.rd 1<|.rd 2<|.rd 3<|.rd 5<|.rd 6<|.br 4 (.br 7 (.rd 8<|.rd 9<|.rd 10<|.rd 11<|.ef 12<|.ef 13<|.rd 14<|.rd 15 .done) 12<|.ef 7<|.rd 8<|.rd 9<|.rd 10<|.rd 11<|.ef 13<|.rd 14<|.rd 15 .done) 12<|.ef 4<|.ef 7<|.rd 8<|.rd 9<|.rd 10<|.rd 11<|.ef 13<|.rd 14<|.rd 15 .done) mo (by kernel_rfl) λb8 ce _=>dR z z (lN (vs:=[sl A0 N0 C0]) h_ f_ z z (a_e nm0<|Nat.lt_of_lt_of_le aO.lt kM)<|kBr 0 1)<|dR z z (lN (vs:=vR x2 A5 N5 C5 A6 N6 C6 A3 N3 C3 A7 N7 C7) I_ o_ z z (a_e nm0<|Nat.lt_of_lt_of_le aP.lt kM)<|kBr 0 8) ?_;iterate 4 refine dM z z z ?_
   refine b_T ?_ ?_
   .refine bdB a7 λ_ b9 a8=>dE z z (fc call41 z<|e_d (B:=B) b9 kM a2 a3 a4 kR kR kR kR a5<|ic (Nat.le_of_lt hko)<|tl_ Y) iB ?_;rintro _ ba ⟨_,rfl,aa⟩;refine b_T ?_ ?_
    .obtain ⟨rt,bb,bc,be,aV⟩:=m_ a8;refine dE z z (fc call51 z<|a1.run (B:=B) be kM kR aa kR h5) iB ?_;rintro _ bf ⟨_,ab,ad,ae,bg,af,ai,aj,bh,rfl,bi,_,_,bj,bk,bm,bn⟩;obtain ⟨aF,aG,_,_,_⟩:=z_ bm bn;refine dM z z z ?_;iterate 3 refine dR z z (ext_ z z) ?_
     exact dNb [vI 0,sN,sN] z z v_ z λcf _ aH=>dS [vI rt.number,sl ab ad ae,sl af ai aj] z b_ z z aH z sQ λcg bo _=>dQ z z z<|dQ z z z<|pD (λ_ q=>⟨rt.number,rt.bytes,rt.items,bb,bc,som aV,ab,ad,ae,bg,af,ai,aj,bh,bf.z,q.k<|sc z<|sc z<|sc z<|sc z<|sc z<|sc z<|sc z<|sc z<|sc z<|sc z<|sc z sn,kW,bi,kO,aF,sQ,kO,aG,sQ,sQ,bj,bk,bo,sQ,sQ,sQ⟩)
    refine dNb [vI 0,sN,sN] z z v_ z λch _ _=>?_;obtain ⟨ru,bp,bq,bs,aW⟩:=m_ a8;refine dE z z (fc call51 z<|a1.run (B:=B) bs kM kR aa kR h5) iB ?_;rintro _ _ ⟨_,al,am,an,bt,ap,aq,ar,bu,rfl,bv,_,_,bw,bx,bz,bA⟩;obtain ⟨aI,aJ,_,_,_⟩:=z_ bz bA;refine dM z z z ?_;iterate 3 refine dR z z (ext_ z z) ?_
    exact dS [vI ru.number,sl al am an,sl ap aq ar] z b_ z z kB z sQ λci bB _=>dQ z z z<|dQ z z z<|pD (λ_ q=>⟨ru.number,ru.bytes,ru.items,bp,bq,som aW,al,am,an,bt,ap,aq,ar,bu,ba.z,q.k<|sc z<|sc z<|sc z<|sc z<|sc z<|sc z<|sc z<|sc z<|sc z<|sc z<|sc z sn,kW,bv,kO,aI,sQ,kO,aJ,sQ,sQ,bw,bx,bB,sQ,sQ,sQ⟩)
   refine dNb [vI 0,sN,sN] z z v_ z λck _ _=>bdB a7 λ_ bC aX=>dE z z (fc call41 z<|e_d (B:=B) bC kM a2 a3 a4 kR kR kR kR a5<|ic (Nat.le_of_lt hko)<|tl_ Y) iB ?_;rintro _ _ ⟨_,rfl,bD⟩;obtain ⟨rv,bE,bF,bG,aY⟩:=m_ aX;refine dE z z (fc call51 z<|a1.run (B:=B) bG kM kR bD kR h5) iB ?_;rintro _ _ ⟨_,au,av,aw,bH,ax,ay,az,bI,rfl,bJ,_,_,bK,bL,bM,bN⟩;obtain ⟨aK,aL,_,_,_⟩:=z_ bM bN;refine dM z z z ?_;iterate 3 refine dR z z (ext_ z z) ?_
   exact dS [vI rv.number,sl au av aw,sl ax ay az] z b_ z z kB z sQ λcl bO _=>dQ z z z<|dQ z z z<|pD (λ_ q=>⟨rv.number,rv.bytes,rv.items,bE,bF,som aY,au,av,aw,bH,ax,ay,az,bI,b8.z,q.k<|sc z<|sc z<|sc z<|sc z<|sc z<|sc z<|sc z<|sc z<|sc z<|sc z<|sc z sn,kW,bJ,kO,aK,sQ,kO,aL,sQ,sQ,bK,bL,bO,sQ,sQ,sQ⟩)
  rintro bP bR ⟨V,xq,xr,xg,xs,rfl,ah,ni,cj,W,ak,nl,cm,Sa,gc,_,_,bS,_,bT,_,_,bU,_,_,aA,bV,bW,_,_,_⟩;have a9:=c_7 aU;revert bP;refine Wo<|Wq<|Wm z<|R z (nq z z)<|Wx z (λhcz=>?_) (λhcz=>?_)
  .exact Ws<|R z (bQ [] [vI 0,sN,sN] K_ z z)<|RM z z<|E0q [vI 0,sN,sN] b_ z z kB z λcn bX _=>Ra z<|Rw z<|Wr<|rtO<|qL (som<|ifT a9 hcz).symm<|e_q hr (s_ e_ b_ z bX z) z z ⟨kW,none,0,0,[],none,0,0,[],z,ii z,onL,onL,aA,bV,nd0,sQ⟩
  refine Wk<|Ws<|Rf z w_ z<|R z (l0 B_ z kBa)<|R z (lN (vs:=[vI V,sl ah ni cj,sl ak nl cm]) e_ b_ z z fid<|bW.row 0 3 z)<|EvA z (fS [(.tmp 45)] b_7 z z z (T_ z) (lb z)<|lb z) λbY aB=>have:=aB.below;have aM:Blk bY bR.z [vI V,sl ah ni cj,sl ak nl cm]:=aB.blk;bdB (ifF a9 hcz) λbZ c0 aZ=>E z (a_q (α:=Val) b_7 c0 z z kO hf aM (c_C (x:=(⟨V,xq,xr⟩:Val)) (S1:=W) (S2:=Sa) bS kO kO) sQ<|na_ bT bU sQ) ?_;rintro _ _ ⟨c1,aC,aD,aE,rfl,_,_,c3,_⟩;exact Rf z w_ z<|E0q [vI 0,sN,sl aC aD aE] d_O z z kB z λco h40 _=>Wn<|Wg<|Rm z<|Rw z<|Wg<|Rm z<|R z (inc_ hko (tl_ Y) z z)<|Ra z<|Wl (λ_ q=>⟨(xg,bZ),(som aZ).symm,⟨aC,aD,aE,c1,kaA q,kW,aA,kO,c3,sQ,h40⟩⟩)
 .rintro ⟨L,O⟩ _ _ ⟨G,H,I,S3,b0,_,h5,hx,hf,hy,hp⟩;refine Wu ?_ b0;refine Wq<|Wm z<|Rm z<|Rl z z z<|Wx z (λhc=>(j_P hc).elim) (λ_=>?_);exact We<|λ_ q=>⟨rfl,⟨G,H,I,S3,kaA q,kW,h5,hx,hf,hy,hp⟩⟩
 .rintro ⟨L,O⟩ c4 _ rfl ⟨G,H,I,S3,_,_,h5,hx,hf,hy,hp⟩;have b3:=elL a6;revert c4;refine Wo<|Ws<|R z (lC [vI 0,sN,sl G H I] e_ b_ z)<|Rm z<|E0q [vI 0,sN,sl G H I] b_ z z kB z λcp c5 _=>?_;exact Ra z<|Rw z<|Wr<|rS3 (a_Q b3) hr (s_ e_ b_ z c5 z) z z ⟨kW,none,0,0,[],G,H,I,S3,z,ii z,onL,kO (l:=O),h5,ii z,na_ x_ hf an_,sQ⟩
 exact lqA a6 λ_ _ h=>h.2
theorem T_w29 (ih:h_O n):m_E (j_e n<|a_s n):=by
 obtain ⟨_,aa,_,_,_⟩:=ih;constructor;intro A0 A5 A6 A3 A7 A9 N0 C0 N5 C5 N6 C6 N3 C3 N7 C7 N9 C9 B x1 x2 x3 x4 res w0 hm aC aw a1 a2 a4 ax ay az aA aB Y;unfold j_e at hm;refine goG func89 z z z λfn hr=>Ws<|EvX [sl A0 N0 C0] z z z λwe _ _=>EvX (vR x2 A5 N5 C5 A6 N6 C6 A3 N3 C3 A7 N7 C7) z z z λw9 _ _=>EvZ [vI 0,sN,sN] z v_ z λwp _ _=>Ra z<|Rw z<|Wq (Wd (X:=noX) 0 (pl_ 15 [7]) mo (by kernel_rfl) λaD aE _=>dR z z (lC [sl A0 N0 C0] h_ f_ z)<|dR z z (fd R_ z)<|dR z z (l0 E_ z kBa) ?_);refine bdB hm λ_ eq hmr=>dxA (α:=Int) z z A_ z_3 z z z kR eq λ_ _ _ ht hu _=>?_;obtain ⟨rfl,hv⟩:=a_U hu;refine dR z z (l0 g_3 z<|ht.at0 z)<|dM z z z<|dM z z z ?_;obtain ⟨ri,_,_,es,hmj⟩:=m_ hmr;refine dE z z (fc call84 z<|m_B (B:=B) es kM kR hv kR Y) iB ?_;rintro _ _ ⟨_,rfl,ha,hw⟩;refine dM z z z ?_;iterate 3 refine dR z z (ext_ z z) ?_
 iterate 3 refine dQ z z z ?_
 refine pD<|Wo<|Wq<|Wm z<|R z (not_ z)<|Wx z (λhcb=>?_) (λhcb=>?_)
 .exact Ws<|R z (bQ [] [vI 0,sN,sN] K_ z z)<|Rm z<|E0q [vI 0,sN,sN] b_ z z kB z λaF hx _=>Ra z<|Rw z<|Wr<|rS3 (ifT hmj hcb) hr (s_ e_ b_ z hx z) z z ⟨kW,none,0,0,[],none,0,0,[],z,ii z,onL,onL,Y,ii z,nd0,sQ⟩
 refine Wk<|Wq<|Ws<|R z (lN (vs:=vR x2 A5 N5 C5 A6 N6 C6 A3 N3 C3 A7 N7 C7) I_ o_ z z fid<|kBr 0 8)<|Rm z<|bdB (ifF hmj hcb) λ_ ez hmk=>E z (fc call41 z<|e_d (B:=B) ez kM a1 a2 a4 kR kR kR kR ha<|ii z) ?_;rintro _ _ ⟨_,rfl,_⟩;refine Rl z z z<|Wx z (λhcc=>?_) (λhcc=>?_)
 .exact Ws<|R z (bQ [] [vI 0,sN,sN] K_ z z)<|Rm z<|E0q [vI 0,sN,sN] b_ z z kB z λaG ab _=>Ra z<|Rw z<|Wr<|rS3 (ifT hmk hcc) hr (s_ e_ b_ z ab z) z z ⟨kW,none,0,0,[],none,0,0,[],z,ii z,onL,onL,Y,ii z,nd0,sQ⟩
 refine Wk<|Ws<|R z (lC [sl A0 N0 C0] h_ f_ z)<|R z (lN (vs:=vR x2 A5 N5 C5 A6 N6 C6 A3 N3 C3 A7 N7 C7) I_ o_ z z fid<|kBr 0 8)<|RM z z<|Rm z ?_;obtain ⟨V,ad,ae,af,a8⟩:=m_<|ifF hmk hcc;refine E z (fc call88 z<|aa.run (B:=B) af kM kR a1 a2 a4 kR kR kR kR ha (ii z) kR hw) ?_;rintro _ W ⟨_,G,H,I,ah,J,L,O,ai,rfl,aj,_,_,ak,al,am,an⟩;obtain ⟨a5,a6,_,_,_⟩:=z_ am an;refine Rm z ?_;iterate 3 refine Re z z z ?_
 refine EvZ [vI 0,sN,sN] z v_ z λaH _ a7=>E0q [vI V.number,sl G H I,sl J L O] b_ z z a7 z λwm hn _=>Ra z<|Rw z<|Wq<|Wm z<|Rq z z z<|Wn<|bdB a8 λap huo a9=>Wt (λa w=>∃(x6:Int),x6=ap/\Sat 56 [(8,pt w9.z),(14,pt W.z),(15,vI ad),(16,vI ae)] a/\Cg [W.z] wm w/\inI x6/\Blk w W.z [vI x6,sl G H I,sl J L O]) ?_ ?_
 .refine Wc z (λhcd=>?_)<|λhcd=>?_
  .exact Wg<|Rm z<|Rf z a_x z<|E0q [vI ri,sl G H I,sl J L O] z_3 z z hn z λaI aq _=>Wl<|λ_ q=>⟨ri,som<|ifT huo hcd,kaA q,kW,ha,aq⟩
  exact a_7<|λ_ q=>⟨V.number,som<|ifF huo hcd,kaA q,cr [W.z] wm,aj,hn⟩
 rintro ar _ ⟨x6,rfl,_,_,au,_⟩;revert ar;exact Wo<|Ws<|R z (lC [vI x6,sl G H I,sl J L O] e_ b_ z)<|RM z z<|E0q [vI x6,sl G H I,sl J L O] b_ z z kB z λaJ av _=>Ra z<|Rw z<|Wr<|rS3 a9 hr (s_ e_ b_ z av z) z z ⟨kW,G,H,I,ah,J,L,O,ai,z,au,kO (l:=V.bytes),kO (l:=V.items),ak,al,na_ a5 a6 sQ,sQ⟩
theorem T_w2a (ih:h_O n):m_F (j_f n<|a_s n):=by
 obtain ⟨_,a2,_,_,_⟩:=ih;constructor;intro A0 A5 A6 A3 A7 A9 N0 C0 N5 C5 N6 C6 N3 C3 N7 C7 N9 C9 B x1 x2 x3 x4 res w0 hm ad a5 Y a0 a1 a6 a7 a8 aa ab I;unfold j_f at hm;refine goG func90 z z z λfn hr=>Ws<|EvX [sl A0 N0 C0] z z z λw3 _ _=>EvX (vR x2 A5 N5 C5 A6 N6 C6 A3 N3 C3 A7 N7 C7) z z z λw5 _ _=>EvZ [vI 0,sN,sN] z v_ z λwf _ J=>Ra z<|Rw z<|Wq<|Wb<|Wm z<|Rm z<|R z (lnR q_ z kR)<|R z (c_2 z z)<|Rw z<|Wc z (λG=>?_) (λG=>?_)
 .exact Ws<|R z (bQ [] [vI 0,sN,sN] K_ z z)<|Rm z<|E0q [vI 0,sN,sN] b_ z z J z λae hg _=>Ra z<|Rw z<|Wr<|rtO<|rS3 (ifT hm G) hr (s_ e_ b_ z hg z) z z ⟨kW,none,0,0,[],none,0,0,[],z,ii z,onL,onL,I,ii z,nd0,sQ⟩
 refine Wm z<|Rm z<|bdB (ifF hm G) λ_ ei L=>xA (α:=UInt8) z q_ z_5 z z z kR ei λ_ _ _ hj hk _=>?_;obtain rfl:=u8 hk;refine R z (l0 g_5 z<|hj.at0 z)<|R z (a_n z z)<|Rw z<|Wc z (λH=>?_) (λH=>?_)
 .exact Ws<|R z (bQ [] [vI 0,sN,sN] K_ z z)<|Rm z<|E0q [vI 0,sN,sN] b_ z z J z λaf hl _=>Ra z<|Rw z<|Wr<|rtO<|rS3 (ifT L H) hr (s_ e_ b_ z hl z) z z ⟨kW,none,0,0,[],none,0,0,[],z,ii z,onL,onL,I,ii z,nd0,sQ⟩
 refine Wk<|Wq (Wd (X:=noX) 16384 (pl_ 17 [10,14]) mo (by kernel_rfl) λah ai _=>dR z z (lC [sl A0 N0 C0] h_ f_ z)<|dR z z (lN (vs:=vR x2 A5 N5 C5 A6 N6 C6 A3 N3 C3 A7 N7 C7) I_ o_ z z fid<|kBr 0 8)<|dM z z z<|dM z z z ?_);refine bdB (ifF L H) λ_ en hmo=>dxA (α:=UInt8) z z q_ z_5 z z z kR en λ_ _ _ hp hq _=>?_;obtain rfl:=u8 hq;refine dR z z (l0 g_5 z<|hp.at0 z)<|dR z z (c_I d_5 d_3 z)<|dM z z z<|dM z z z<|dR z z (add_ z z) ?_;obtain ⟨r2,_,_,er,hms⟩:=m_ hmo;refine dE z z (fc call88 z<|a2.run (B:=B) er kM kR Y a0 a1 kR kR kR kR (ii z) (l_1 _) kR<|iA _ _) iB ?_;rintro _ _ ⟨_,O,na,cb,St,ac,nd,ce,Su,rfl,hv,_,_,hw,hx,hy,hz⟩;obtain ⟨V,W,_,_,_⟩:=z_ hy hz;iterate 3 refine dR z z (ext_ z z) ?_
 refine dE0 z (fs0 (cur':=[vI r2.number,sl O na cb,sl ac nd ce]) b_ z z kB z z z z) (.inl z) ?_;rintro _ _ ⟨a3,a4⟩;have:=a4.one;exact dQ z z z<|dQ z z z<|pD<|Wo<|Wr<|rS3 hms hr (s_ e_ b_ z a3 z) z z ⟨kW,O,na,cb,St,ac,nd,ce,Su,z,hv,kO (l:=r2.bytes),kO (l:=r2.items),hw,hx,na_ V W sQ,sQ⟩
theorem T_w2b (ih:h_O n):m_G (j_g n<|a_s n):=by
 obtain ⟨_,ab,_,_,_⟩:=ih;constructor;intro A0 A5 A6 A3 A7 A9 N0 C0 N5 C5 N6 C6 N3 C3 N7 C7 N9 C9 B x1 x2 x3 x4 res w0 hm av am a3 a5 a6 an ap aq ar au a7;unfold j_g at hm;refine goG func91 z z z λfn hr=>Ws<|EvX [sl A0 N0 C0] z z z λwb _ _=>EvX (vR x2 A5 N5 C5 A6 N6 C6 A3 N3 C3 A7 N7 C7) z z z λwd _ _=>EvZ [vI 0,sN,sN] z v_ z λwn _ _=>Ra z<|Rw z<|Ws<|R z (lC [sl A0 N0 C0] h_ f_ z)<|R z (lN (vs:=vR x2 A5 N5 C5 A6 N6 C6 A3 N3 C3 A7 N7 C7) I_ o_ z z fid<|kBr 0 8)<|RM z z ?_;obtain ⟨G,_,_,eo,hmg⟩:=m_ hm;refine E z (fc call88 z<|ab.run (B:=B) eo kM kR a3 a5 a6 kR kR kR kR (ii z) (ii z) kR a7) ?_;rintro _ _ ⟨_,H,I,J,Sh,L,O,V,Si,rfl,hj,_,_,h7,hq,ht,hu⟩;obtain ⟨a0,a2,_,_,_⟩:=z_ ht hu;refine Rm z ?_;iterate 3 refine Re z z z ?_
 refine EvZ [vI 0,sN,sN] z v_ z λwr _ a8=>E0q [vI G.number,sl H I J,sl L O V] b_ z z a8 z λaw hv _=>Ra z<|Rw z<|Wq<|Wb<|Wm z<|R z (nq z z)<|Rw z<|Wc z (λW=>?_) (λW=>?_)
 .exact Ws<|R z (lC [vI G.number,sl H I J,sl L O V] e_ b_ z)<|RM z z<|E0q [vI G.number,sl H I J,sl L O V] b_ z z kB z λax hw _=>Ra z<|Rw z<|Wr<|rtO<|rS3 (ifT hmg W) hr (s_ e_ b_ z hw z) z z ⟨kW,H,I,J,Sh,L,O,V,Si,z,hj,kO (l:=G.bytes),kO (l:=G.items),h7,hq,na_ a0 a2 sQ,sQ⟩
 have hml:=ifF hmg W;refine Wm z<|Rm z<|R z (lnR q_ z kR)<|R z (c_2 z z)<|Rw z<|Wc z (λY=>?_) (λY=>?_)
 .exact Ws<|R z (bQ [] [vI 0,sN,sN] K_ z z)<|Rm z<|E0q [vI 0,sN,sN] b_ z z kB z λay hy _=>Ra z<|Rw z<|Wr<|rtO<|rS3 (ifT hml Y) hr (s_ e_ b_ z hy z) z z ⟨kW,none,0,0,[],none,0,0,[],z,ii z,onL,onL,h7,ii z,nd0,sQ⟩
 refine Wq (Wd (X:=noX) 0 (pl_ 12 [9]) mo (by kernel_rfl) λaz aA _=>dM z z z<|dM z z z ?_);refine bdB (ifF hml Y) λ_ ad a9=>dxA (α:=UInt8) z z q_ z_5 z z z kR ad λ_ _ _ ae af _=>?_;obtain rfl:=u8 af;refine dR z z (l0 g_5 z<|ae.at0 z)<|dR z z (c_I d_5 d_3 z) ?_;iterate 3 refine dM z z z ?_
 refine bdB a9 λ_ ah aa=>dRX z z (rX q_ z_5 z z kR z z ah) ?_;rintro _ ⟨_,_,_,rfl,ai⟩;refine bdB aa λ_ aj hmm=>dE z z (fc call43 z<|W_w1q (B:=B) aj kM ai) iB ?_;rintro _ _ ⟨_,rfl,_⟩;refine dR z z (nq z z)<|dQ z z z<|pD<|Wo<|Wc z (λhca=>?_) (λhca=>?_)
 .exact Ws<|R z (bQ [] [vI 0,sN,sN] K_ z z)<|Rm z<|E0q [vI 0,sN,sN] b_ z z kB z λaB ak _=>Ra z<|Rw z<|Wr<|rtO<|rS3 (ifT hmm hca) hr (s_ e_ b_ z ak z) z z ⟨kW,none,0,0,[],none,0,0,[],z,ii z,onL,onL,h7,ii z,nd0,sQ⟩
 exact Wk<|Ws<|R z (lC [vI G.number,sl H I J,sl L O V] e_ b_ z)<|Rm z<|R z (add_ z z)<|E0q [vI G.number,sl H I J,sl L O V] b_ z z kB z λaC al _=>Ra z<|Rw z<|Wr<|rS3 (ifF hmm hca) hr (s_ e_ b_ z al z) z z ⟨kW,H,I,J,Sh,L,O,V,Si,z,hj,kO (l:=G.bytes),kO (l:=G.items),iA _ _,ii z,na_ a0 a2 sQ,sQ⟩
theorem e_e:∀n,h_O n
  | 0=>⟨⟨λhm=>by intros;exact nomatch (show none=some _ from hm)⟩,⟨λhm=>by intros;exact nomatch (show none=some _ from hm)⟩,⟨λhm=>by intros;exact nomatch (show none=some _ from hm)⟩,⟨λhm=>by intros;exact nomatch (show none=some _ from hm)⟩,⟨λhm=>by intros;exact nomatch (show none=some _ from hm)⟩⟩
  | n+1=>⟨T_w05<|e_e n,T_w28<|e_e n,T_w29<|e_e n,T_w2a<|e_e n,T_w2b<|e_e n⟩
theorem W_w05:m_C (a_s n).spec_l11Read:=(e_e n).1
theorem W_w28:m_D (a_s n).spec_l11Items:=(e_e n).2.1
theorem W_w29:m_E (a_s n).spec_l11Choice:=(e_e n).2.2.1
theorem W_w2a:m_F (a_s n).spec_l11Option:=(e_e n).2.2.2.1
theorem W_w2b:m_G (a_s n).spec_l11Checked:=(e_e n).2.2.2.2
theorem m_H {x1:c_}{x2:Int}{x3:Bt}{x4:Int}{res:Val×Int×Int}(hm:j_i n x1 x2 x3 x4=some res)(a5:B<=w0.z)(a3:rp w0 B A0 N0 C0 x1.rules)(L:inI x2)(a4:rp w0 B A9 N9 C9 x3)(O:inI x4):g_ prog 24 [(.agg #[sl A0 N0 C0]),vI x2,sl A9 N9 C9,vI x4] w0 (Q29 w0 B res):=by
 unfold j_i at hm;refine goG func24 z z z λfn hr=>Ws<|EvX [sl A0 N0 C0] z z z λw2 _ _=>EvZ [vI 0,sN,sN] z v_ z λW _ _=>Ra z<|Rw z<|Wq<|Wq<|bdB hm λui huj V=>Wt (λa w=>∃(x5:Bool),x5=ui/\Sat 36 [(1,vI x2),(2,sl A9 N9 C9),(3,vI x4),(4,pt w0.z),(8,pt w2.z),(26,vB x5)] a/\Below W.z W w) ?_ ?_
 .refine Wg<|R z (lC [sl A0 N0 C0] h_ f_ z)<|Rm z<|bdB huj λrk el hma=>EcA z (fc call39 z<|m_d (B:=B) el kM kR L) λ_ sm=>R z (not_ z)<|Rm z ?_;rcases bs (!rk) with G | G
  .iterate 5 refine Nh z G ?_
   exact R z (pT z G z)<|Rm z<|Nh z z<|Nh z z<|Nh z z<|R z (pT z z z)<|Wl (λ_ q=>⟨true,som<|ifT hma G,kaA q,sm⟩)
  refine Rh z G (mv z)<|Rh z G (mv z)<|Rh z G (lnR q_ z kR)<|bdB (ifF hma G) λrn eo hmb=>Eg z z G z (fc call50 z<|b_D (B:=B) eo kM O (ii z)<|a_T<|repS.len kR) ?_;rintro _ _ ⟨_,rfl⟩;refine Rh z G (not_ z)<|R z (pF z G z)<|Rm z ?_;rcases bs (!rn) with H | H
  .iterate 3 refine Nh z H ?_
   exact R z (pT z H z)<|Wl (λ_ q=>⟨true,som<|ifT hmb H,kaA q,kW⟩)
  exact Rh z H (mv z)<|Rh z H (lnR q_ z kR)<|Rh z H (a_n z z)<|R z (pF z H z)<|Wl (λ_ q=>⟨decide<|400<(x3.length:Int),som<|ifF hmb H,kaA q,kW⟩)
 rintro ap _ ⟨x5,rfl,_,_⟩;revert ap;refine Wo<|Wc z (λI=>?_) (λI=>?_)
 .exact Ws<|R z (bQ [] [vI 0,sN,sN] K_ z z)<|E0q [vI 0,sN,sN] b_ z z kB z λa6 hq _=>Ra z<|Rw z<|Wr<|rS3 (ifT V I) hr (s_ e_ b_ z hq z) z z ⟨kW,none,0,0,[],none,0,0,[],z,ii z,onL,onL,ii z,ii z,nd0,sQ⟩
 refine Wk<|Ws<|R z (lC [sl A0 N0 C0] h_ f_ z)<|RM z z<|Rm z ?_;obtain ⟨J,_,_,es,hmt⟩:=m_<|ifF V I;refine E z (fc call51 z<|W_w05.run (B:=B) es kM kR L kR O) ?_;rintro _ _ ⟨_,ac,nd,ce,Su,af,ng,ch,Sv,rfl,hw,_,_,hx,hy,hz,a1⟩;obtain ⟨Y,a0,_,_,_⟩:=z_ hz a1;iterate 3 refine Re z z z ?_
 exact E0q [vI J.number,sl ac nd ce,sl af ng ch] b_ z z kB z λa7 a2 _=>Ra z<|Rw z<|Wr<|rS3 hmt hr (s_ e_ b_ z a2 z) z z ⟨kW,ac,nd,ce,Su,af,ng,ch,Sv,z,hw,kO (l:=J.bytes),kO (l:=J.items),hx,hy,na_ Y a0 sQ,sQ⟩
end Go.Vw
