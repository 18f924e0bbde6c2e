
import Derived.Test.YtbihpjgldkojoaaGreatDoorVwMW2
set_option linter.unusedVariables false
namespace Go.Vw
open Go.RowKit Dat Go.Proofs
open Go.Proofs.Tryz
open Go.Vw renaming b_c->Wq,b_t->Wg,WC.of_KC->Wo,b_5->Wl,c_N->Wc,d_F->Wr,g_h->Wu,h_U->pT,h_V->pF,g_t->fd,c_r->l1,i_t->lN,b_U->mv,d_s->asg,g_2->lnR,f_q->lss,g_w->eql,g_u->ext_,h_X->bP,g_v->add_,f_Y->inc_,e_u->not_,g_6->at_,e_W->fc,b_w->fs,e_V->fb,e_l->fa,h_O->sr,h_S->cr,h_T->cM,d_e->bM,h_H->iS,h_G->iA,h_J->br,b_R->oA,h_K->bs,ltge->lg,inor->io,g_x->nq,i_v->lnT,i_w->sb_,h_M->ar_,h_L->al_,h_N->ds,j_1->m1,h_Q->nr_,h_P->nl_,g_0->aa_,d_d->an_,d_G->Wb,f_Z->u8,h_y->pD,f_O->We,h_I->Wt,f_W->fS,e_R->or_,i_c->Wf,i_2->qL,h_x->Wd,h_Y->fN,g_1->na_,h_R->nj,f_1->f0,h_W->rX,h_Z->tl_,i_0->ic
variable {A0:Option Addr}{N0 C0:Nat}{B:Zone}{w0:World}{n:Nat}{A6:Option Addr}{N6 C6:Nat}{A9:Option Addr}{A8:Option Addr}{AA:Option Addr}{AB:Option Addr}{N9 C9:Nat}{N8 C8:Nat}{NA CA:Nat}{NB CB:Nat}{AD:Option Addr}{ND CD:Nat}{A3:Option Addr}{A4:Option Addr}{A2:Option Addr}{A5:Option Addr}{N3 C3:Nat}{N4 C4:Nat}{N2 C2:Nat}{N5 C5:Nat}{A1:Option Addr}{N1 C1:Nat}{A7:Option Addr}{N7 C7:Nat}
theorem W_w1m {x1:a_z}{b1 o1:Nat}{x2:Int}{x3:Int}{res:Val×Int×(Option<|Int×Int)}(hm:f_K x1 x2 x3=some res)(a2:B<=w0.z)(Y:repS w0 B (sl A0 N0 C0) x1.d.rules)(a0:repS w0 B (sl A1 N1 C1) x1.b)(hC1:a_1 w0 b1 o1 [sl A0 N0 C0,sl A1 N1 C1])(hC1b:B b1)(O:inI x2)(a1:inI x3):q_ prog 109 [(.pointer<|some ⟨b1,o1,none⟩),vI x2,vI x3] w0 (Q35 w0 B res):=by
 unfold f_K at hm
 refine goG func109 z z z λfn hr=>Ws<|E z (fa a_q) ?_
 rintro _ wk ⟨rfl,W⟩;have G:=W.below;have h2:Blk wk w0.z [vI 0,sN,sN]:=W.blk;refine Ra z<|Rw z<|Wm z<|RM z z ?_
 obtain ⟨_,_,el,V⟩:=a_9 hm;refine E z (fc call125 z<|i_o el (zt' a2 G.s) (Y.e G) (a0.e G) (hC1.e G) hC1b O a1) ?_;rintro _ _ ⟨s1,_,_,_,vm,Sn,rfl,ho,ha,hb⟩;refine Rm z<|Re z z z<|Re z z z<|Ra z<|Rw z<|Wq<|Wm z<|R z (d_g d_m z z ha)<|Wx z (λH=>?_) (λH=>?_)
 .refine Ws<|R z (bP (parts:=[]) (cs:=[vI 0,sN,sN]) a_7 z z)<|RM z z<|E0 (fs0 (cur':=[vI 0,sN,sN]) n_ z z (h2.e s1) z z z z) ?_
  rintro _ _ ⟨hp,sq⟩;have hc:=sq.one;refine Ra z<|Rw z ?_
  obtain rfl:=som<|ifT V H;exact Wr<|L_ hr (v_ I_ n_ z hp z) z z ⟨bM (bup G s1) hc<|a_ lr,none,0,0,[],none,0,0,[],vm,Sn,z,ii z,onL,onL,O,ha.c hc<|l_ hb h2.lt lr,p_ hb G.s,nd0,al0⟩
 refine Wk<|Ws<|E z (f0 (α:=UInt8) H_) ?_
 rintro _ _ ⟨_,_,_,rfl,s3,ht⟩;refine Rm z ?_;obtain ⟨_,er,hms⟩:=bdS<|ifF V H;refine E z (fN (α:=UInt8) H_ er z z ht a_p<|ho.e s3) ?_;rintro _ _ ⟨Sd,I,J,L,rfl,se,hu,hv,hf⟩;refine R z (bP (parts:=[(1,.tmp 25)]) (cs:=[vI 0,sl I J L,sN]) a_7 z z)<|RM z z<|R z (add_ z z) ?_
 have hg:=mm1 h2.lt s1.s;refine E0 (fs0 (cur':=[vI 0,sl I J L,sN]) n_ z z (((h2.e s1).e s3).c se<|djs hg) z z z z) ?_;rintro _ _ ⟨hw,sx⟩;have hh:=sx.one;refine Ra z<|Rw z ?_
 obtain rfl:=som hms;have hi:=lt_ G.s s1.s;have hj:=m1 hi;exact Wr<|L_ hr (v_ I_ n_ z hw z) z z ⟨bM (bM (bup (bup G s1) s3) se hj) hh<|a_ lr,I,J,L,Sd,none,0,0,[],.nilIface,([]:List Nat),z,ii z,hu.c hh (or1 hf hg (k_ (a_ h2.lt)<|lt_ s1.s s3.s):∀k∈Sd,k∉[w0.z]),onL,iA _ _,d_N,an_,na_ hv z_<|nmN _,aa_ (a_0 hf hj<|lt_ hi s3.s) an_⟩
def Q36 (w0:World)(B:Zone)(S2_1:List Nat)(S2_2:List Nat)(r:Val×Int×(Option<|Int×Int))(v:Value)(w':World):Prop:=Chg (· ∈ (S2_1++S2_2)) w0 w'/\un3 (λG H V=>∃(a1:Option Addr)(I J:Nat)(S1:List Nat)(a2:Option Addr)(L O:Nat)(S2:List Nat)(v3:Value)(S3:List Nat),v = .tuple #[(.agg #[vI G.number,sl a1 I J,sl a2 L O]),vI H,v3]/\inI G.number/\b_ w' S1 (sl a1 I J) G.bytes/\b_ w' S2 (sl a2 L O) G.items/\inI H/\a_U 125 w' S3 v3 V/\(∀k∈S3,w0.z<=k)/\(S1++S2).Nodup/\(∀k∈(S1++S2),k∈(S2_1++S2_2)∨w0.z<=k)) r
structure j_P (f:a_z->Int->Int->Option (Val×Int×(Option<|Int×Int))):Prop where
  run:∀{A0 A1:Option Addr}{N0 C0 N1 C1 b1 o1:Nat}{B:Zone}{x1:a_z}{x2:Int}{x3:Int}{res:Val×Int×(Option<|Int×Int)}{w0:World}(hm:f x1 x2 x3=some res)(hBw:B<=w0.z)(p1_0:repS w0 B (sl A0 N0 C0) x1.d.rules)(p1_1:repS w0 B (sl A1 N1 C1) x1.b)(hC1:a_1 w0 b1 o1 [sl A0 N0 C0,sl A1 N1 C1])(hC1b:B b1)(p2_0:inI x2)(p3_0:inI x3),q_ prog 81 [(.pointer<|some ⟨b1,o1,none⟩),vI x2,vI x3] w0<|Q35 w0 B res
structure j_Q (f:a_z->d_->Int->Option (Val×Int×(Option<|Int×Int))):Prop where
  run:∀{A0 A1 A3 A4 A2 A5:Option Addr}{N0 C0 N1 C1 b1 o1 N3 C3 N4 C4 N2 C2 N5 C5:Nat}{B:Zone}{x1:a_z}{x2:d_}{x3:Int}{res:Val×Int×(Option<|Int×Int)}{w0:World}(hm:f x1 x2 x3=some res)(hBw:B<=w0.z)(p1_0:repS w0 B (sl A0 N0 C0) x1.d.rules)(p1_1:repS w0 B (sl A1 N1 C1) x1.b)(hC1:a_1 w0 b1 o1 [sl A0 N0 C0,sl A1 N1 C1])(hC1b:B b1)(p2_0:x2.name.b.length<=LEN)(p2_1:inI x2.kind)(p2_2:inI x2.size)(p2_4:repS w0 B (sl A3 N3 C3) x2.bytes)(p2_5:repS w0 B (sl A4 N4 C4) x2.names)(p2_6:repS w0 B (sl A2 N2 C2) x2.tags)(p2_7:repS w0 B (sl A5 N5 C5) x2.kids)(p3_0:inI x3),q_ prog 110 [(.pointer<|some ⟨b1,o1,none⟩),.agg #[Str.v x2.name,vI x2.kind,vI x2.size,vB x2.little,sl A3 N3 C3,sl A4 N4 C4,sl A2 N2 C2,sl A5 N5 C5],vI x3] w0<|Q35 w0 B res
structure j_R (f:a_z->Val->(List Int)->Int->Option (Val×Int×(Option<|Int×Int))):Prop where
  run:∀{A0 A1 AC AF A7:Option Addr}{N0 C0 N1 C1 b1 o1 NC CC NF CF N7 C7:Nat}{S2_1 S2_2:List Nat}{B:Zone}{x1:a_z}{x2:Val}{x3:List Int}{x4:Int}{res:Val×Int×(Option<|Int×Int)}{w0:World}(hm:f x1 x2 x3 x4=some res)(hBw:B<=w0.z)(p1_0:repS w0 B (sl A0 N0 C0) x1.d.rules)(p1_1:repS w0 B (sl A1 N1 C1) x1.b)(hC1:a_1 w0 b1 o1 [sl A0 N0 C0,sl A1 N1 C1])(hC1b:B b1)(p2_0:inI x2.number)(p2_1:b_ w0 S2_1 (sl AC NC CC) x2.bytes)(p2_1n:S2_1.Nodup)(p2_1g:∀k∈S2_1,¬B k)(p2_2:b_ w0 S2_2 (sl AF NF CF) x2.items)(p2_2n:S2_2.Nodup)(p2_2g:∀k∈S2_2,¬B k)(p2_2d1:∀k∈S2_2,k∉S2_1)(p3_0:repS w0 B (sl A7 N7 C7) x3)(p4_0:inI x4),q_ prog 111 [(.pointer<|some ⟨b1,o1,none⟩),.agg #[vI x2.number,sl AC NC CC,sl AF NF CF],sl A7 N7 C7,vI x4] w0<|Q36 w0 B S2_1 S2_2 res
structure j_S (f:a_z->d_->Int->Option (Val×Int×(Option<|Int×Int))):Prop where
  run:∀{A0 A1 A3 A4 A2 A5:Option Addr}{N0 C0 N1 C1 b1 o1 N3 C3 N4 C4 N2 C2 N5 C5:Nat}{B:Zone}{x1:a_z}{x2:d_}{x3:Int}{res:Val×Int×(Option<|Int×Int)}{w0:World}(hm:f x1 x2 x3=some res)(hBw:B<=w0.z)(p1_0:repS w0 B (sl A0 N0 C0) x1.d.rules)(p1_1:repS w0 B (sl A1 N1 C1) x1.b)(hC1:a_1 w0 b1 o1 [sl A0 N0 C0,sl A1 N1 C1])(hC1b:B b1)(p2_0:x2.name.b.length<=LEN)(p2_1:inI x2.kind)(p2_2:inI x2.size)(p2_4:repS w0 B (sl A3 N3 C3) x2.bytes)(p2_5:repS w0 B (sl A4 N4 C4) x2.names)(p2_6:repS w0 B (sl A2 N2 C2) x2.tags)(p2_7:repS w0 B (sl A5 N5 C5) x2.kids)(p3_0:inI x3),q_ prog 112 [(.pointer<|some ⟨b1,o1,none⟩),.agg #[Str.v x2.name,vI x2.kind,vI x2.size,vB x2.little,sl A3 N3 C3,sl A4 N4 C4,sl A2 N2 C2,sl A5 N5 C5],vI x3] w0<|Q35 w0 B res
structure j_T (f:a_z->d_->Int->Option (Val×Int×(Option<|Int×Int))):Prop where
  run:∀{A0 A1 A3 A4 A2 A5:Option Addr}{N0 C0 N1 C1 b1 o1 N3 C3 N4 C4 N2 C2 N5 C5:Nat}{B:Zone}{x1:a_z}{x2:d_}{x3:Int}{res:Val×Int×(Option<|Int×Int)}{w0:World}(hm:f x1 x2 x3=some res)(hBw:B<=w0.z)(p1_0:repS w0 B (sl A0 N0 C0) x1.d.rules)(p1_1:repS w0 B (sl A1 N1 C1) x1.b)(hC1:a_1 w0 b1 o1 [sl A0 N0 C0,sl A1 N1 C1])(hC1b:B b1)(p2_0:x2.name.b.length<=LEN)(p2_1:inI x2.kind)(p2_2:inI x2.size)(p2_4:repS w0 B (sl A3 N3 C3) x2.bytes)(p2_5:repS w0 B (sl A4 N4 C4) x2.names)(p2_6:repS w0 B (sl A2 N2 C2) x2.tags)(p2_7:repS w0 B (sl A5 N5 C5) x2.kids)(p3_0:inI x3),q_ prog 113 [(.pointer<|some ⟨b1,o1,none⟩),.agg #[Str.v x2.name,vI x2.kind,vI x2.size,vB x2.little,sl A3 N3 C3,sl A4 N4 C4,sl A2 N2 C2,sl A5 N5 C5],vI x3] w0<|Q35 w0 B res
structure j_U (f:a_z->d_->Int->Option (Val×Int×(Option<|Int×Int))):Prop where
  run:∀{A0 A1 A3 A4 A2 A5:Option Addr}{N0 C0 N1 C1 b1 o1 N3 C3 N4 C4 N2 C2 N5 C5:Nat}{B:Zone}{x1:a_z}{x2:d_}{x3:Int}{res:Val×Int×(Option<|Int×Int)}{w0:World}(hm:f x1 x2 x3=some res)(hBw:B<=w0.z)(p1_0:repS w0 B (sl A0 N0 C0) x1.d.rules)(p1_1:repS w0 B (sl A1 N1 C1) x1.b)(hC1:a_1 w0 b1 o1 [sl A0 N0 C0,sl A1 N1 C1])(hC1b:B b1)(p2_0:x2.name.b.length<=LEN)(p2_1:inI x2.kind)(p2_2:inI x2.size)(p2_4:repS w0 B (sl A3 N3 C3) x2.bytes)(p2_5:repS w0 B (sl A4 N4 C4) x2.names)(p2_6:repS w0 B (sl A2 N2 C2) x2.tags)(p2_7:repS w0 B (sl A5 N5 C5) x2.kids)(p3_0:inI x3),q_ prog 114 [(.pointer<|some ⟨b1,o1,none⟩),.agg #[Str.v x2.name,vI x2.kind,vI x2.size,vB x2.little,sl A3 N3 C3,sl A4 N4 C4,sl A2 N2 C2,sl A5 N5 C5],vI x3] w0<|Q35 w0 B res
abbrev e_s (n:Nat):Prop:=j_P (a_g n).impl_fileReader_value/\j_Q (a_g n).impl_fileReader_array/\j_R (a_g n).impl_fileReader_items/\j_S (a_g n).impl_fileReader_choice/\j_T (a_g n).impl_fileReader_option/\j_U (a_g n).impl_fileReader_checked
theorem T_w02 (ih:e_s n):j_P (h_o n<|a_g n):=by
 obtain ⟨_,d5,d6,d7,d8,d9⟩:=ih
 constructor
 intro A0 A1 N0 C0 N1 C1 b1 o1 B x1 x2 x3 res w0 hm H L O hC1 hC1b cS I;unfold h_o at hm
 refine goG func81 z z z λfn hr=>Ws<|E z (fa a_q) ?_
 rintro _ J ⟨rfl,bh⟩;have h2:=bh.below;have h3:Blk J w0.z [vI 0,sN,sN]:=bh.blk;refine Ra z<|Rw z<|Wm z<|R z (O_ z)<|Rf z l_c z<|Rf z T_ z ?_
 have h5:=hC1.e h2;refine R z (l0 V_ z<|h5.at (j:=0) z)<|Rm z ?_
 obtain ⟨W,da,b5⟩:=bdS hm;refine RX z (at_ (α:=d_) N_ t_ z z z (L.e h2) da) ?_;rintro _ ⟨_,_,_,rfl,db,dc,_⟩;obtain ⟨aa,nb,cc,ad,ne,cf,ah,ng,ci,aj,nk,cl,rfl,hq,ht,ho,hp,hu,hv,hn⟩:=a_T dc;refine R z (lN (vs:=vR W aa nb cc ad ne cf ah ng ci aj nk cl) R_ t_ z z fid db)<|E z (fa b_M) ?_
 rintro _ dd ⟨rfl,bi⟩;have G:=bi.below;refine E0 (fs0 (cur':=vR W aa nb cc ad ne cf ah ng ci aj nk cl) t_ z z (bi.blk:Blk dd J.z [(Str.v (⟨[]⟩:Str)),vI 0,vI 0,vB false,sN,sN,sN,sN]) z z z z) ?_;rintro _ _ ⟨V,de⟩;have h1:=de.one;refine Wn<|Wq<|Ws<|Rf z a_V z<|R z (l0 g_3 z<|V.at z)<|Wn<|Wb<|Ws<|Rq z z z<|Rw z<|Wc z (λhcr=>?_) (λhcr=>?_)
 .refine Wm z<|RM z z ?_
  have bj:∀k∈[J.z],¬B k:=or0 (a_ lr)<|m_<|zt' H h2.s;have bk:=((h2.ag B).e G).c h1<|c_ bj
  have bm:=lt_ (lt_ h2.s G.s) h1.s;obtain ⟨bn,_,_,df,cT⟩:=r_<|ifT b5 hcr;refine E z (fc call107 z<|i_p df (zt' H bm) (L.g bk) (O.g bk) ((h5.e G).c h1<|(c_ bj) _ hC1b) hC1b cS I) ?_;rintro _ _ ⟨bo,dg,dh,rfl,di,dj,dk,bp⟩;refine Rm z ?_
  iterate 3 refine Re z z z ?_
  refine RA z z<|Rw z<|Wm z<|R z (bP (parts:=[(0,.tmp 41)]) (cs:=[vI bn,sN,sN]) a_7 z z)<|RM z z<|E0 (fs0 (cur':=[vI bn,sN,sN]) n_ z z (((h3.e G).c h1<|djs<|mmr h3.lt).e bo) z z z z) ?_
  rintro _ _ ⟨dl,dm⟩;have bq:=dm.one;refine Ra z<|Rw z ?_
  obtain rfl:=som cT;exact Wr<|rtO<|L_ hr (v_ I_ n_ z dl z) z z ⟨bM (bup (bM (bup h2 G) h1<|m1 h2.s) bo) bq<|a_ lr,none,0,0,[],none,0,0,[],dg,dh,z,di,onL,onL,dj,dk.c bq<|l_ bp h3.lt<|lt_ G.s h1.s,p_ bp bm,nd0,al0⟩
 have b6:=ifF b5 hcr;refine Ws<|Rq z z z<|Rw z<|Wc z (λhcs=>?_) (λhcs=>?_)
 .refine Wm z<|R z (lN (vs:=vR W aa nb cc ad ne cf ah ng ci aj nk cl) R_ t_ z z fid<|V.row 0 8 z)<|Rm z ?_
  have aC:∀k∈[J.z],¬B k:=or0 (a_ lr)<|m_<|zt' H h2.s;have br:=((h2.ag B).e G).c h1<|c_ aC
  have hw:=(G.ag B).c h1<|c_ aC
  have bs:=lt_ (lt_ h2.s G.s) h1.s;obtain ⟨_,_,dn,cU⟩:=a_9<|ifT b6 hcs;refine E z (fc call108 z<|W_w2x dn (zt' H bs) (L.g br) (O.g br) ((h5.e G).c h1<|(c_ aC) _ hC1b) hC1b hq ht ho (hp.g hw) (hu.g hw) (hv.g hw) (hn.g hw) I) ?_;rintro _ _ ⟨bt,dp,dq,rfl,dr,ds,bu⟩;refine Rm z<|Re z z z<|Re z z z<|Ra z<|Rw z<|Ws<|R z (bP (parts:=[]) (cs:=[vI 0,sN,sN]) a_7 z z)<|RM z z<|E0 (fs0 (cur':=[vI 0,sN,sN]) n_ z z (((h3.e G).c h1<|djs<|mmr h3.lt).e bt) z z z z) ?_
  rintro _ _ ⟨dt,du⟩;have bv:=du.one;refine Ra z<|Rw z ?_
  obtain rfl:=som cU;exact Wr<|rtO<|L_ hr (v_ I_ n_ z dt z) z z ⟨bM (bup (bM (bup h2 G) h1<|m1 h2.s) bt) bv<|a_ lr,none,0,0,[],none,0,0,[],dp,dq,z,ii z,onL,onL,dr,ds.c bv<|l_ bu h3.lt<|lt_ G.s h1.s,p_ bu bs,nd0,al0⟩
 have b7:=ifF b6 hcs;refine Ws<|Rq z z z<|Rw z<|Wc z (λar=>?_) (λar=>?_)
 .refine Wm z<|Rm z<|Rf z a_W z<|R z (l0 g_3 z<|V.at z) ?_
  have bw:∀k∈[J.z],¬B k:=or0 (a_ lr)<|m_<|zt' H h2.s;have bx:=((h2.ag B).e G).c h1<|c_ bw
  have hx:=lt_ (lt_ h2.s G.s) h1.s;obtain ⟨dv,_,_,dw,cV⟩:=r_<|ifT b7 ar;refine E z (fc call109 z<|W_w1m dw (zt' H hx) (L.g bx) (O.g bx) ((h5.e G).c h1<|(c_ bw) _ hC1b) hC1b I ho) ?_;rintro _ _ ⟨bz,bA,bB,bC,dx,bD,bE,bF,dy,dz,dA,rfl,dB,dC,dD,dF,dG,bG,aD,hy⟩
  iterate 3 refine Re z z z ?_
  refine E0 (fs0 (cur':=[vI dv.number,sl bA bB bC,sl bD bE bF]) n_ z z (((h3.e G).c h1<|djs<|mmr h3.lt).e bz) z z z z) ?_;rintro _ _ ⟨dH,dI⟩;have hz:=dI.one;refine Ra z<|Rw z ?_
  obtain rfl:=som cV;have aE:=lt_ G.s h1.s;exact Wr<|rtO<|L_ hr (v_ I_ n_ z dH z) z z ⟨bM (bup (bM (bup h2 G) h1<|m1 h2.s) bz) hz<|a_ lr,bA,bB,bC,dx,bD,bE,bF,dy,dz,dA,z,dB,dC.c hz<|l_ (al_ hy) h3.lt aE,dD.c hz<|l_ (ar_ hy) h3.lt aE,dF,dG.c hz<|l_ bG h3.lt aE,p_ bG hx,na_ (nl_ aD) (nr_ aD)<|nj aD,aa_ (p_ (al_ hy) hx)<|p_ (ar_ hy) hx⟩
 have b8:=ifF b7 ar;refine Ws<|Rq z z z<|Rw z<|Wc z (λau=>?_) (λau=>?_)
 .refine Wm z<|Rf z M_ z<|R z (l0 C_ z<|V.at z) ?_
  obtain ⟨_,dJ,cW⟩:=bdS<|ifT b8 au;have aF:∀k∈[J.z],¬B k:=or0 (a_ lr)<|m_<|zt' H h2.s;refine RX z (at_ (α:=Int) A_ z_3 z z z (hn.g<|(G.ag B).c h1<|c_ aF) dJ) ?_;rintro _ ⟨_,_,_,rfl,dK,dL,_⟩;obtain ⟨rfl,dN⟩:=W_ dL;refine R z (l0 g_3 z<|dK.at0 z)<|Rm z ?_
  have bH:=(h5.e G).c h1<|(c_ aF) _ hC1b
  have aG:=((h2.ag B).e G).c h1<|c_ aF
  have aH:=lt_ (lt_ h2.s G.s) h1.s;obtain ⟨_,_,_,dO,b9⟩:=r_ cW;refine E z (fc call107 z<|i_p dO (zt' H aH) (L.g aG) (O.g aG) bH hC1b dN I) ?_;rintro _ _ ⟨s8,dP,dS,rfl,dT,dU,bI,bJ⟩;refine Rm z ?_
  iterate 3 refine Re z z z ?_
  refine RA z z<|Rw z<|Wq<|Wm z<|R z (d_g d_m z z bI)<|Wx z (λav=>?_) (λav=>?_)
  .refine Ws<|R z (bP (parts:=[]) (cs:=[vI 0,sN,sN]) a_7 z z)<|RM z z<|E0 (fs0 (cur':=[vI 0,sN,sN]) n_ z z (((h3.e G).c h1<|djs<|mmr h3.lt).e s8) z z z z) ?_
   rintro _ _ ⟨dV,dW⟩;have bK:=dW.one;refine Ra z<|Rw z ?_
   obtain rfl:=som<|ifT b9 av;exact Wr<|rtO<|L_ hr (v_ I_ n_ z dV z) z z ⟨bM (bup (bM (bup h2 G) h1<|m1 h2.s) s8) bK<|a_ lr,none,0,0,[],none,0,0,[],dP,dS,z,ii z,onL,onL,I,bI.c bK<|l_ bJ h3.lt<|lt_ G.s h1.s,p_ bJ aH,nd0,al0⟩
  refine Wk<|Wm z<|RM z z ?_
  have bL:=aG.e s8;have Y:=lt_ aH s8.s;obtain ⟨dX,_,_,dY,cX⟩:=r_<|ifF b9 av;refine E z (fc call109 z<|W_w1m dY (zt' H Y) (L.g bL) (O.g bL) (bH.e s8) hC1b dU dT) ?_;rintro _ _ ⟨bN,bO,bQ,bR,dZ,bS,bT,bU,e0,e1,e2,rfl,e3,e4,e5,e6,e7,bV,aI,a0⟩
  iterate 3 refine Re z z z ?_
  refine E0 (fs0 (cur':=[vI dX.number,sl bO bQ bR,sl bS bT bU]) n_ z z ((((h3.e G).c h1<|djs<|mmr h3.lt).e s8).e bN) z z z z) ?_;rintro _ _ ⟨e8,e9⟩;have a1:=e9.one;refine Ra z<|Rw z ?_
  obtain rfl:=som cX;have aJ:=lt_ (lt_ G.s h1.s) s8.s;exact Wr<|rtO<|L_ hr (v_ I_ n_ z e8 z) z z ⟨bM (bup (bup (bM (bup h2 G) h1<|m1 h2.s) s8) bN) a1<|a_ lr,bO,bQ,bR,dZ,bS,bT,bU,e0,e1,e2,z,e3,e4.c a1<|l_ (al_ a0) h3.lt aJ,e5.c a1<|l_ (ar_ a0) h3.lt aJ,e6,e7.c a1<|l_ bV h3.lt aJ,p_ bV Y,na_ (nl_ aI) (nr_ aI)<|nj aI,aa_ (p_ (al_ a0) Y)<|p_ (ar_ a0) Y⟩
 have ba:=ifF b8 au;refine Ws<|Rq z z z<|Rw z<|Wc z (λaw=>?_) (λaw=>?_)
 .refine Wm z<|R z (lN (vs:=vR W aa nb cc ad ne cf ah ng ci aj nk cl) R_ t_ z z fid<|V.row 0 8 z)<|Rm z ?_
  have aK:∀k∈[J.z],¬B k:=or0 (a_ lr)<|m_<|zt' H h2.s;have bW:=((h2.ag B).e G).c h1<|c_ aK
  have a2:=(G.ag B).c h1<|c_ aK
  have a3:=lt_ (lt_ h2.s G.s) h1.s;obtain ⟨ea,_,_,eb,cY⟩:=r_<|ifT ba aw;refine E z (fc call110 z<|d5.run eb (zt' H a3) (L.g bW) (O.g bW) ((h5.e G).c h1<|(c_ aK) _ hC1b) hC1b hq ht ho (hp.g a2) (hu.g a2) (hv.g a2) (hn.g a2) I) ?_;rintro _ _ ⟨bX,bY,bZ,c0,ec,c1,c2,c3,ed,ee,ef,rfl,eg,eh,ei,ej,ek,c4,aL,a4⟩
  iterate 3 refine Re z z z ?_
  refine E0 (fs0 (cur':=[vI ea.number,sl bY bZ c0,sl c1 c2 c3]) n_ z z (((h3.e G).c h1<|djs<|mmr h3.lt).e bX) z z z z) ?_;rintro _ _ ⟨em,en⟩;have a5:=en.one;refine Ra z<|Rw z ?_
  obtain rfl:=som cY;have aM:=lt_ G.s h1.s;exact Wr<|rtO<|L_ hr (v_ I_ n_ z em z) z z ⟨bM (bup (bM (bup h2 G) h1<|m1 h2.s) bX) a5<|a_ lr,bY,bZ,c0,ec,c1,c2,c3,ed,ee,ef,z,eg,eh.c a5<|l_ (al_ a4) h3.lt aM,ei.c a5<|l_ (ar_ a4) h3.lt aM,ej,ek.c a5<|l_ c4 h3.lt aM,p_ c4 a3,na_ (nl_ aL) (nr_ aL)<|nj aL,aa_ (p_ (al_ a4) a3)<|p_ (ar_ a4) a3⟩
 have bb:=ifF ba aw;refine Ws<|Rq z z z<|Rw z<|Wc z (λax=>?_) (λax=>?_)
 .refine Wm z<|R z (bP (parts:=[]) (cs:=[vI 0,sN,sN]) a_7 z z)<|Rf z M_ z<|R z (l0 C_ z<|V.at z)<|Rm z ?_
  have aN:∀k∈[J.z],¬B k:=or0 (a_ lr)<|m_<|zt' H h2.s;have c5:=((h2.ag B).e G).c h1<|c_ aN
  have a6:=lt_ (lt_ h2.s G.s) h1.s;obtain ⟨eo,_,_,ep,cZ⟩:=r_<|ifT bb ax;refine E z (fc call111 z<|d6.run (B:=B) (x2:=(⟨0,([]:Bt),([]:List Val)⟩:Val)) ep (zt' H a6) (L.g c5) (O.g c5) ((h5.e G).c h1<|(c_ aN) _ hC1b) hC1b (ii z) onL z_ an_ onL z_ an_ an_ (hn.g<|(G.ag B).c h1<|c_ aN) I) ?_;rintro _ _ ⟨c6,c7,c8,c9,ca,cb,cd,ce,cg,er,es,rfl,eu,ew,ex,ey,ez,ch,aO,a7⟩
  iterate 3 refine Re z z z ?_
  refine E0 (fs0 (cur':=[vI eo.number,sl c7 c8 c9,sl cb cd ce]) n_ z z (((h3.e G).c h1<|djs<|mmr h3.lt).c c6<|atp<|nmA (nmN _)<|nmN _) z z z z) ?_;rintro _ _ ⟨eA,eB⟩;have a8:=eB.one;refine Ra z<|Rw z ?_
  obtain rfl:=som cZ;have aP:=lt_ G.s h1.s;exact Wr<|rtO<|L_ hr (v_ I_ n_ z eA z) z z ⟨bM (bM (bM (bup h2 G) h1<|m1 h2.s) c6 al0) a8<|a_ lr,c7,c8,c9,ca,cb,cd,ce,cg,er,es,z,eu,ew.c a8 (or1 (al_ a7) al0 (k_ (a_ h3.lt) aP):∀k∈ca,k∉[w0.z]),ex.c a8 (or1 (ar_ a7) al0 (k_ (a_ h3.lt) aP):∀k∈cg,k∉[w0.z]),ey,ez.c a8<|l_ ch h3.lt aP,p_ ch a6,na_ (nl_ aO) (nr_ aO)<|nj aO,aa_ (a_0 (al_ a7) al0 a6)<|a_0 (ar_ a7) al0 a6⟩
 have bc:=ifF bb ax;refine Ws<|Rq z z z<|Rw z<|Wc z (λay=>?_) (λay=>?_)
 .refine Wm z<|R z (lN (vs:=vR W aa nb cc ad ne cf ah ng ci aj nk cl) R_ t_ z z fid<|V.row 0 8 z)<|Rm z ?_
  have aQ:∀k∈[J.z],¬B k:=or0 (a_ lr)<|m_<|zt' H h2.s;have cj:=((h2.ag B).e G).c h1<|c_ aQ
  have a9:=(G.ag B).c h1<|c_ aQ
  have ab:=lt_ (lt_ h2.s G.s) h1.s;obtain ⟨eC,_,_,eD,d0⟩:=r_<|ifT bc ay;refine E z (fc call112 z<|d7.run eD (zt' H ab) (L.g cj) (O.g cj) ((h5.e G).c h1<|(c_ aQ) _ hC1b) hC1b hq ht ho (hp.g a9) (hu.g a9) (hv.g a9) (hn.g a9) I) ?_;rintro _ _ ⟨ck,cm,cn,co,eE,cp,cq,cr,eF,eG,eH,rfl,eI,eJ,eK,eL,eM,ct,aR,ae⟩
  iterate 3 refine Re z z z ?_
  refine E0 (fs0 (cur':=[vI eC.number,sl cm cn co,sl cp cq cr]) n_ z z (((h3.e G).c h1<|djs<|mmr h3.lt).e ck) z z z z) ?_;rintro _ _ ⟨eN,eO⟩;have af:=eO.one;refine Ra z<|Rw z ?_
  obtain rfl:=som d0;have aS:=lt_ G.s h1.s;exact Wr<|rtO<|L_ hr (v_ I_ n_ z eN z) z z ⟨bM (bup (bM (bup h2 G) h1<|m1 h2.s) ck) af<|a_ lr,cm,cn,co,eE,cp,cq,cr,eF,eG,eH,z,eI,eJ.c af<|l_ (al_ ae) h3.lt aS,eK.c af<|l_ (ar_ ae) h3.lt aS,eL,eM.c af<|l_ ct h3.lt aS,p_ ct ab,na_ (nl_ aR) (nr_ aR)<|nj aR,aa_ (p_ (al_ ae) ab)<|p_ (ar_ ae) ab⟩
 have be:=ifF bc ay;refine Ws<|Rq z z z<|Rw z<|Wc z (λaz=>?_) (λaz=>?_)
 .refine Wm z<|R z (lN (vs:=vR W aa nb cc ad ne cf ah ng ci aj nk cl) R_ t_ z z fid<|V.row 0 8 z)<|Rm z ?_
  have aT:∀k∈[J.z],¬B k:=or0 (a_ lr)<|m_<|zt' H h2.s;have cu:=((h2.ag B).e G).c h1<|c_ aT
  have ai:=(G.ag B).c h1<|c_ aT
  have ak:=lt_ (lt_ h2.s G.s) h1.s;obtain ⟨eP,_,_,eQ,d1⟩:=r_<|ifT be az;refine E z (fc call113 z<|d8.run eQ (zt' H ak) (L.g cu) (O.g cu) ((h5.e G).c h1<|(c_ aT) _ hC1b) hC1b hq ht ho (hp.g ai) (hu.g ai) (hv.g ai) (hn.g ai) I) ?_;rintro _ _ ⟨cv,cw,cx,cy,eR,cz,cA,cB,eS,eT,eU,rfl,eV,eW,eX,eY,eZ,cC,aU,al⟩
  iterate 3 refine Re z z z ?_
  refine E0 (fs0 (cur':=[vI eP.number,sl cw cx cy,sl cz cA cB]) n_ z z (((h3.e G).c h1<|djs<|mmr h3.lt).e cv) z z z z) ?_;rintro _ _ ⟨f0,f1⟩;have am:=f1.one;refine Ra z<|Rw z ?_
  obtain rfl:=som d1;have aV:=lt_ G.s h1.s;exact Wr<|rtO<|L_ hr (v_ I_ n_ z f0 z) z z ⟨bM (bup (bM (bup h2 G) h1<|m1 h2.s) cv) am<|a_ lr,cw,cx,cy,eR,cz,cA,cB,eS,eT,eU,z,eV,eW.c am<|l_ (al_ al) h3.lt aV,eX.c am<|l_ (ar_ al) h3.lt aV,eY,eZ.c am<|l_ cC h3.lt aV,p_ cC ak,na_ (nl_ aU) (nr_ aU)<|nj aU,aa_ (p_ (al_ al) ak)<|p_ (ar_ al) ak⟩
 have bf:=ifF be az;refine Ws<|Rq z z z<|Rw z<|Wc z (λaA=>?_) (λaA=>?_)
 .refine Wm z<|R z (lN (vs:=vR W aa nb cc ad ne cf ah ng ci aj nk cl) R_ t_ z z fid<|V.row 0 8 z)<|Rm z ?_
  have aW:∀k∈[J.z],¬B k:=or0 (a_ lr)<|m_<|zt' H h2.s;have cD:=((h2.ag B).e G).c h1<|c_ aW
  have an:=(G.ag B).c h1<|c_ aW
  have ao:=lt_ (lt_ h2.s G.s) h1.s;obtain ⟨f2,_,_,f3,d2⟩:=r_<|ifT bf aA;refine E z (fc call114 z<|d9.run f3 (zt' H ao) (L.g cD) (O.g cD) ((h5.e G).c h1<|(c_ aW) _ hC1b) hC1b hq ht ho (hp.g an) (hu.g an) (hv.g an) (hn.g an) I) ?_;rintro _ _ ⟨cE,cF,cG,cH,f4,cI,cJ,cK,f5,f6,f7,rfl,f8,f9,fb,fe,ff,cL,aX,ap⟩
  iterate 3 refine Re z z z ?_
  refine E0 (fs0 (cur':=[vI f2.number,sl cF cG cH,sl cI cJ cK]) n_ z z (((h3.e G).c h1<|djs<|mmr h3.lt).e cE) z z z z) ?_;rintro _ _ ⟨fg,fh⟩;have aq:=fh.one;refine Ra z<|Rw z ?_
  obtain rfl:=som d2;have aY:=lt_ G.s h1.s;exact Wr<|rtO<|L_ hr (v_ I_ n_ z fg z) z z ⟨bM (bup (bM (bup h2 G) h1<|m1 h2.s) cE) aq<|a_ lr,cF,cG,cH,f4,cI,cJ,cK,f5,f6,f7,z,f8,f9.c aq<|l_ (al_ ap) h3.lt aY,fb.c aq<|l_ (ar_ ap) h3.lt aY,fe,ff.c aq<|l_ cL h3.lt aY,p_ cL ao,na_ (nl_ aX) (nr_ aX)<|nj aX,aa_ (p_ (al_ ap) ao)<|p_ (ar_ ap) ao⟩
 refine Wk<|Wq (Wd (X:=noX) 0 (pl_ 17 [9]) mo (by kernel_rfl) λfz s6 _=>dM z z z<|dR z z (O_ z)<|dR z z (fd f_a z) ?_)
 have aZ:∀k∈[J.z],¬B k:=or0 (a_ lr)<|m_<|zt' H h2.s;refine dR z z (l0 U_ z<|(((h5.e G).c h1<|(c_ aZ) _ hC1b).e s6).at (j:=1) z)<|dM z z z<|dR z z (fd a_N z)<|dR z z (l0 U_ z<|(V.e s6).at z) ?_
 obtain ⟨_,fi,d3⟩:=bdS<|ifF bf aA;refine dRX z z (at_ (α:=UInt8) s_ z_5 z z z (hp.g<|((G.ag B).c h1<|c_ aZ).e s6) fi) ?_;rintro _ ⟨_,_,_,rfl,fj,fk,_⟩;obtain rfl:=u8 fk;refine dR z z (l0 g_5 z<|fj.at0 z) ?_;have b0:=lt_ (lt_ (lt_ h2.s G.s) h1.s) s6.s;obtain ⟨_,_,_,fl,bg⟩:=r_ d3;refine dE z z (fc call101 z<|W_w1d fl (zt' H b0) (O.g<|(((h2.ag B).e G).c h1<|c_ aZ).e s6) I) (.inr λ_ _ h=>x_<|h.1) ?_;rintro _ _ ⟨sm,b2,b3,b4,fm,rfl,fo,fp,fq,cM⟩;refine dM z z z ?_
 iterate 3 refine dR z z (ext_ z z) ?_
 iterate 3 refine dQ z z z ?_
 refine pD<|Wo<|Wq<|Wm z<|R z (not_ z)<|Wx z (λaB=>?_) (λaB=>?_)
 .refine Ws<|R z (bP (parts:=[]) (cs:=[vI 0,sN,sN]) a_7 z z)<|RM z z ?_
  have cN:=lt_ b0 sm.s;obtain ⟨_,fr,d4⟩:=bdS<|ifT bg aB;refine E z (fc call115 z<|d_T fr (zt' H cN) I<|ii z) ?_;rintro _ _ ⟨cO,fs,ft,rfl,fu,cP⟩;refine E0 (fs0 (cur':=[vI 0,sN,sN]) n_ z z (((((h3.e G).c h1<|djs<|mmr h3.lt).e s6).e sm).e cO) z z z z) ?_;rintro _ _ ⟨fv,fw⟩;have cQ:=fw.one;refine Ra z<|Rw z ?_
  obtain rfl:=som d4;exact Wr<|L_ hr (v_ I_ n_ z fv z) z z ⟨bM (bup (bup (bup (bM (bup h2 G) h1<|m1 h2.s) s6) sm) cO) cQ<|a_ lr,none,0,0,[],none,0,0,[],fs,ft,z,ii z,onL,onL,I,fu.c cQ<|l_ cP h3.lt<|lt_ (lt_ (lt_ G.s h1.s) s6.s) sm.s,p_ cP cN,nd0,al0⟩
 refine Wk<|Wm z<|R z (bP (parts:=[(1,.tmp 159)]) (cs:=[vI 0,sl b2 b3 b4,sN]) a_7 z z)<|Rm z<|E0 (fs0 (cur':=[vI 0,sl b2 b3 b4,sN]) n_ z z ((((h3.e G).c h1<|djs<|mmr h3.lt).e s6).e sm) z z z z) ?_
 rintro _ _ ⟨fx,fy⟩;have cR:=fy.one;refine Ra z<|Rw z ?_
 obtain rfl:=som<|ifF bg aB;exact Wr<|L_ hr (v_ I_ n_ z fx z) z z ⟨bM (bup (bup (bM (bup h2 G) h1<|m1 h2.s) s6) sm) cR<|a_ lr,b2,b3,b4,fm,none,0,0,[],.nilIface,([]:List Nat),z,ii z,fo.c cR<|l_ cM h3.lt<|lt_ (lt_ G.s h1.s) s6.s,onL,fp,d_N,an_,na_ fq z_<|nmN _,aa_ (p_ cM b0) an_⟩
theorem T_w1n (ih:e_s n):j_Q (h_p n<|a_g n):=by
 obtain ⟨_,_,aJ,_,_,_⟩:=ih
 constructor
 intro A0 A1 A3 A4 A2 A5 N0 C0 N1 C1 b1 o1 N3 C3 N4 C4 N2 C2 N5 C5 B x1 x2 x3 res w0 hm O W Y hC1 hC1b bx bz bA bB bC bD a0 V;unfold h_p at hm
 refine goG func110 z z z λfn hr=>Ws<|E z (fb z) ?_
 rintro _ J ⟨rfl,hw⟩;have h4:=hw.below;have hx:Blk J w0.z (vR x2 A3 N3 C3 A4 N4 C4 A2 N2 C2 A5 N5 C5):=hw.blk;refine E z (fa a_q) ?_;rintro _ aK ⟨rfl,hy⟩;have h6:=hy.below;have h5:Blk aK J.z [vI 0,sN,sN]:=hy.blk;refine Ra z<|Rw z<|Wm z<|Rf z M_ z ?_
 have hz:=hx.e h6;refine R z (l0 C_ z<|hz.at z) ?_;obtain ⟨_,aL,aw⟩:=bdS hm;have hd:=(h4.ag B).e h6;refine RX z (at_ (α:=Int) A_ z_3 z z z (a0.g hd) aL) ?_;rintro _ ⟨_,_,_,rfl,aM,aN,_⟩;obtain ⟨rfl,aO⟩:=W_ aN;refine R z (l0 g_3 z<|aM.at0 z)<|Rm z ?_
 have a4:=(hC1.e h4).e h6;have he:=lt_ h4.s h6.s;obtain ⟨_,rr,_,aP,hms⟩:=r_ aw;refine E z (fc call107 z<|i_p aP (zt' O he) (W.g hd) (Y.g hd) a4 hC1b aO V) ?_;rintro _ H ⟨G,aQ,aR,rfl,_,aS,a5,a6⟩;refine Rm z ?_
 iterate 3 refine Re z z z ?_
 refine RA z z<|Rw z<|Wq<|Wm z<|R z (d_g d_m z z a5)<|Wx z (λhcm=>?_) (λhcm=>?_)
 .refine Ws<|R z (bP (parts:=[]) (cs:=[vI 0,sN,sN]) a_7 z z)<|RM z z<|E0 (fs0 (cur':=[vI 0,sN,sN]) n_ z z (h5.e G) z z z z) ?_
  rintro _ _ ⟨aT,aU⟩;have a7:=aU.one;refine Ra z<|Rw z ?_
  obtain rfl:=som<|ifT hms hcm;exact Wr<|L_ hr (v_ I_ n_ z aT z) z z ⟨bM (bup (bup h4 h6) G) a7<|m1 h4.s,none,0,0,[],none,0,0,[],aQ,aR,z,ii z,onL,onL,V,a5.c a7<|l_ a6 h5.lt lr,p_ a6 he,nd0,al0⟩
 have a1:=ifF hms hcm;refine Wk<|Wq<|Wm z<|R z (a_b z z)<|Wx z (λhco=>?_) (λhco=>?_)
 .refine Ws<|R z (bP (parts:=[]) (cs:=[vI 0,sN,sN]) a_7 z z)<|RM z z ?_
  have a8:=lt_ he G.s;obtain ⟨_,aV,ax⟩:=bdS<|ifT a1 hco;refine E z (fc call115 z<|d_T aV (zt' O a8) V<|ii z) ?_;rintro _ _ ⟨a9,aW,aX,rfl,aY,aa⟩;refine E0 (fs0 (cur':=[vI 0,sN,sN]) n_ z z ((h5.e G).e a9) z z z z) ?_;rintro _ _ ⟨aZ,b0⟩;have ab:=b0.one;refine Ra z<|Rw z ?_
  obtain rfl:=som ax;exact Wr<|L_ hr (v_ I_ n_ z aZ z) z z ⟨bM (bup (bup (bup h4 h6) G) a9) ab<|m1 h4.s,none,0,0,[],none,0,0,[],aW,aX,z,ii z,onL,onL,V,aY.c ab<|l_ aa h5.lt G.s,p_ aa a8,nd0,al0⟩
 refine Wk<|Wm z ?_
 obtain ⟨b2,b3,ay⟩:=bdS<|ifF a1 hco;refine E z (j_h (α:=Int) a_v (λ_=>a_K<|ii z) b3 z z) ?_;rintro _ I ⟨ac,nf,cg,rfl,s8,hp⟩;refine Rw z<|Wq<|Wm z<|R z (lnR A_ z<|b_.rep hp)<|Rm z<|Wn ?_
 obtain ⟨_,az,a2⟩:=bdS ay;refine Wf (σ:=List Int) (ρ:=Val×Int×(Option<|Int×Int)) (λ(ad:Nat)(L:List Int) a w=>∃(S3:List Nat),Sat 59 [(0,.pointer<|some ⟨b1,o1,none⟩),(4,pt w0.z),(6,pt J.z),(10,vI rr),(12,sl ac nf cg),(39,vI (b2.length:Int)),(40,vI ((ad:Nat):Int))] a/\Cg [H.z] I w/\b_ w S3 (sl ac nf cg) L/\S3.Nodup/\(∀k∈S3,k∈[H.z]∨I.z<=k)) (λ(L:List Int) a w=>∃(S3:List Nat),Sat 59 [(0,.pointer<|some ⟨b1,o1,none⟩),(6,pt J.z),(10,vI rr),(12,sl ac nf cg)] a/\Cg [H.z] I w/\b_ w S3 (sl ac nf cg) L/\S3.Nodup/\(∀k∈S3,k∈[H.z]∨I.z<=k)) (rQ prog fn<|Q35 w0 B) az ?_ ?_ ?_ ?_ ?_
 .exact λ_ q=>⟨[H.z],q.k<|s7 z z z z z z z,cr [H.z] I,hp,a_p,io sr⟩
 .rintro ad L _ b4 _ a3 ⟨S3,aA,sh,ha,hi,hj⟩ aB;refine Wu ?_ aA;refine Ws<|Rl z z z<|Wn<|Wq<|Wc z (λ_=>?_) (λhc=>(a_n a3 hc).elim)
  refine Wk<|Wq<|Wb<|Wm z<|Rw z<|Wg<|RM z z<|Rf z M_ z<|R z (l0 C_ z<|(((hz.e G).e s8).c sh<|djs<|mm1 hx.lt<|lt_ h6.s G.s).at z) ?_
  obtain ⟨_,b5,aC⟩:=bdS aB;refine RX z (at_ (α:=Int) A_ z_3 z z z (a0.g<|((hd.e G).e s8).c sh<|c_ (or0 (a_ lr) (m_<|zt' O<|lt_ he G.s):∀k∈[H.z],¬B k)) b5) ?_;rintro _ ⟨_,_,_,rfl,b6,b7,_⟩;obtain ⟨rfl,b8⟩:=W_ b7;refine R z (l0 g_3 z<|b6.at0 z) ?_;obtain ⟨b9,ae,aD⟩:=bdS aC;refine RX z (e_o (α:=Int) A_ z_3 z z ha ae) ?_;rintro _ ⟨_,ba,rfl⟩;refine E0 (e_p (α:=Int) z_3 z ba z z z ae ha hi (a_K b8) an_ z_) ?_;rintro _ bb ⟨af,bc,be,bf,bg⟩;refine Wn<|Wg<|R z (inc_ a3 (lt_ (b_.len hp) X_) z z)<|Rm z<|Wl ?_
  have ah:∀k∈S3,k∈[H.z]∨I.z<=k:=or1 hj (io sr)<|o_ lr;exact λ_ q=>⟨b9,(som aD).symm,⟨af,q.k<|s7 z z z z z z z,(cM (cM (cr [H.z] I) sh (io sr):Cg [H.z] I b4) bc ah:Cg [H.z] I bb),be,bf,(or2 bg ah an_ (o_ sh.s):∀k∈af,k∈[H.z]∨I.z<=k)⟩⟩
 .rintro L _ bh ⟨S3,aE,bi,ha,hi,hj⟩;refine Wu ?_ aE;refine Ws<|Rl z z z<|Wn<|Wq<|Wc z (λhc=>(a_o hc).elim) (λ_=>?_)
  exact We<|λ_ q=>⟨rfl,⟨S3,q.k<|s4 z z z z,(cM (cr [H.z] I) bi (io sr):Cg [H.z] I bh),ha,hi,(or1 hj (io sr) (o_ lr):∀k∈S3,k∈[H.z]∨I.z<=k)⟩⟩
 .rintro L bj bk rfl ⟨S3,_,sb,ha,hi,hj⟩;have aF:=elL a2;revert bj;refine Wo<|Wm z<|R z (bP (parts:=[]) (cs:=[vI 0,sN,sN]) a_7 z z)<|RM z z ?_
  have hq:=lt_ he G.s;have ai:∀k∈[H.z],¬B k:=or0 (a_ lr)<|m_<|zt' O hq;have aj:=((hd.e G).e s8).c sb<|c_ ai
  have hk:=lt_ (lt_ hq s8.s) sb.s;have ht:=zt' O hk;obtain ⟨bm,_,_,bn,aG⟩:=r_ aF;refine E z (fc call111 z<|aJ.run (B:=bk.z) (x2:=(⟨0,([]:Bt),([]:List Val)⟩:Val)) bn zr (repS.mono (W.g aj) ht) (repS.mono (Y.g aj) ht) (((a4.e G).e s8).c sb<|(c_ ai) _ hC1b) (zap' ht hC1b) (ii z) onL z_ (nbl an_) onL z_ (nbl an_) an_ (b_.rep ha) aS) ?_;rintro _ _ ⟨ak,al,am,an,ao,ap,aq,ar,au,bo,bp,rfl,bq,br,bs,bt,bu,av,hu,hl⟩
  iterate 3 refine Re z z z ?_
  refine E0 (fs0 (cur':=[vI bm.number,sl al am an,sl ap aq ar]) n_ z z ((((h5.e G).e s8).c sb<|djs<|mm1 h5.lt G.s).c ak<|atp<|nmA (nmN _)<|nmN _) z z z z) ?_;rintro _ _ ⟨bv,bw⟩;have hn:=bw.one;refine Ra z<|Rw z ?_
  obtain rfl:=som aG;have hv:=lt_ (lt_ G.s s8.s) sb.s;exact Wr<|L_ hr (v_ I_ n_ z bv z) z z ⟨bM (bM (bM (bup (bup (bup h4 h6) G) s8) sb<|m1 hq) ak al0) hn<|m1 h4.s,al,am,an,ao,ap,aq,ar,au,bo,bp,z,bq,br.c hn (or1 (al_ hl) al0 (k_ (a_ h5.lt) hv):∀k∈ao,k∉[J.z]),bs.c hn (or1 (ar_ hl) al0 (k_ (a_ h5.lt) hv):∀k∈au,k∉[J.z]),bt,bu.c hn<|l_ av h5.lt hv,p_ av hk,na_ (nl_ hu) (nr_ hu)<|nj hu,aa_ (a_0 (al_ hl) al0 hk)<|a_0 (ar_ hl) al0 hk⟩
 rintro _ _ _ _ rfl ⟨rfl,aH⟩;have aI:=elR a2;obtain rfl:=som aI;exact ⟨aH,z⟩
theorem T_w1o (ih:e_s n):j_R (h_q n<|a_g n):=by
 obtain ⟨aY,_,_,_,_,_⟩:=ih
 constructor
 intro A0 A1 AC AF A7 N0 C0 N1 C1 b1 o1 NC CC NF CF N7 C7 S2_1 S2_2 B x1 x2 x3 x4 res w0 hm ae aL aM hC1 hC1b aN Y p2_1n p2_1g a0 p2_2n p2_2g p2_2d1 a1 aO;unfold h_q at hm
 refine goG func111 z z z λfn hr=>Ws<|E z (fb z) ?_
 rintro _ wb ⟨rfl,af⟩;have h2:=af.below;have he:Blk wb w0.z [vI x2.number,sl AC NC CC,sl AF NF CF]:=af.blk;refine E z (fa a_q) ?_;rintro _ G ⟨rfl,ah⟩;have W:=ah.below;have hk:Blk G wb.z [vI 0,sN,sN]:=ah.blk;refine Ra z<|Rw z<|Wq<|Wm z ?_
 have ai:=(h2.ag B).e W;refine R z (lnR A_ z<|a1.g ai)<|Rm z<|Wn ?_
 obtain ⟨_,aP,aa⟩:=bdS hm;refine Wf (σ:=Int×(List Val)) (ρ:=Val×Int×(Option<|Int×Int)) (λ(aj:Nat) s a w=>un2 (λxc xh=>∃I J L H,Sat 45 [(0,.pointer<|some ⟨b1,o1,none⟩),(3,vI xc),(5,pt w0.z),(8,pt wb.z),(16,sl A7 N7 C7),(17,vI (x3.length:Int)),(18,vI ((aj:Nat):Int))] a/\Chg (· ∈ (S2_2++[w0.z])) G w/\inI xc/\b_ w H (sl I J L) xh/\H.Nodup/\(∀k∈H,k∈S2_2∨G.z<=k)/\Blk w w0.z [vI x2.number,sl AC NC CC,sl I J L]) s) (λs a w=>un2 (λxc xh=>∃I J L H,Sat 45 [(3,vI xc),(5,pt w0.z),(8,pt wb.z)] a/\Chg (· ∈ (S2_2++[w0.z])) G w/\inI xc/\b_ w H (sl I J L) xh/\H.Nodup/\(∀k∈H,k∈S2_2∨G.z<=k)/\Blk w w0.z [vI x2.number,sl AC NC CC,sl I J L]) s) (rQ prog fn<|Q36 w0 B S2_1 S2_2) aP ?_ ?_ ?_ ?_ ?_
 .exact λ_ q=>⟨AF,NF,CF,S2_2,q.k<|s7 z z z z z z z,cr (S2_2++[w0.z]) G,aO,(a0.e h2).e W,p2_2n,io sr,he.e W⟩
 .rintro aj ⟨xc,xh⟩ _ ak _ ab ⟨I,J,L,H,aQ,s6,hi,hf,hl,hd,hn⟩ aR;refine Wu ?_ aQ;refine Ws<|Rl z z z<|Wn<|Wq<|Wc z (λ_=>?_) (λhc=>(a_n ab hc).elim)
  refine Wk<|Wq<|Wb<|Ws ?_
  obtain ⟨_,aZ,aS⟩:=bdS<|a_A aR;have al:∀k∈[w0.z],¬B k:=or0 (a_ lr)<|m_ ae;have ht:=ai.c s6<|nmA (c_ p2_2g)<|c_ al
  refine RX z (at_ (α:=Int) A_ z_3 z z z (a1.g ht) aZ) ?_;rintro _ ⟨_,_,_,rfl,b0,b2,_⟩;obtain ⟨rfl,b3⟩:=W_ b2;refine R z (l0 g_3 z<|b0.at0 z)<|Rw z<|Wm z<|RM z z ?_
  have hu:=lt_ (lt_ h2.s W.s) s6.s;obtain ⟨ro,b4,_,b5,ad⟩:=r_ aS;refine E z (fc call81 z<|aY.run b5 (zt' ae hu) (aL.g ht) (aM.g ht) (((hC1.e h2).e W).c s6<|(nmA (c_ p2_2g)<|c_ al) _ hC1b) hC1b b3 hi) ?_;rintro _ wm ⟨sa,ar,ns,cv,am,aw,nx,cy,an,b6,b7,rfl,b8,hp,hq,b9,ao,ap,hz,hj⟩;refine Rm z ?_
  iterate 3 refine Re z z z ?_
  refine E z (fa a_q) ?_;rintro _ a4 ⟨rfl,aq⟩;have O:=aq.below;refine E0 (fs0 (cur':=[vI ro.number,sl ar ns cv,sl aw nx cy]) n_ z z (aq.blk:Blk a4 wm.z [vI 0,sN,sN]) z z z z) ?_;rintro _ a5 ⟨ba,bb⟩;have V:=bb.one;refine Ra z<|Rw z<|Wq<|Wm z ?_
  have au:=(ao.e O).c V<|ds<|mnr<|a_U.lt ao
  refine R z (d_g d_m z z au)<|Wx z (λa2=>?_) (λa2=>?_)
  .refine Ws<|R z (bP (parts:=[]) (cs:=[vI 0,sN,sN]) a_7 z z)<|RM z z ?_
   refine E0 (fs0 (cur':=[vI 0,sN,sN]) n_ z z ((((hk.c s6<|atp<|nmA (mno (b_.lt a0) h2.s)<|mmr he.lt).e sa).e O).c V<|djs<|mm1 hk.lt<|lt_ s6.s sa.s) z z z z) ?_;rintro _ bc ⟨be,bf⟩;have av:=bf.one;refine Ra z<|Rw z ?_
   exact Wr<|rtO<|qL (som<|ifT ad a2).symm<|L_ hr (v_ I_ n_ z be z) z z ⟨(cM (cM (e_ (e_ (cM (e_ (e_ (cr (S2_1++S2_2) w0) h2:Chg (· ∈ (S2_1++S2_2)) w0 wb) W:Chg (· ∈ (S2_1++S2_2)) w0 G) s6 (aa_ (io<|f_ sr) (mor lr:∀k∈[w0.z],k∈(S2_1++S2_2)∨w0.z<=k)):Chg (· ∈ (S2_1++S2_2)) w0 ak) sa:Chg (· ∈ (S2_1++S2_2)) w0 wm) O:Chg (· ∈ (S2_1++S2_2)) w0 a4) V (mor (lt_ hu sa.s):∀k∈[wm.z],k∈(S2_1++S2_2)∨w0.z<=k):Chg (· ∈ (S2_1++S2_2)) w0 a5) av (mor h2.s:∀k∈[wb.z],k∈(S2_1++S2_2)∨w0.z<=k):Chg (· ∈ (S2_1++S2_2)) w0 bc),none,0,0,[],none,0,0,[],b6,b7,z,ii z,onL,onL,hi,au.c av<|l_ ap hk.lt s6.s,p_ ap hu,nd0,al0⟩
  refine Wk<|Ws<|Rf z b_L z ?_
  have a6:=lt_ W.s s6.s;have ax:=lt_ a6 sa.s;have ay:=((hn.e sa).e O).c V<|djs<|mm1 he.lt ax
  refine R z (l0 d_i z<|ay.at z)<|R z (lN (vs:=[vI ro.number,sl ar ns cv,sl aw nx cy]) I_ n_ z z fid<|ba.row 0 3 z)<|E z (fS [(.tmp 37)] c_A z z z (S_ z) (lb z)<|lb z) ?_
  rintro _ az ⟨rfl,aA⟩;have hg:=aA.below;have bw:=(hp.e O).c V<|ds<|mnr<|b_.lt hp
  have bx:=(hq.e O).c V<|ds<|mnr<|b_.lt hq
  obtain ⟨bg,bh,aT⟩:=bdS<|ifF ad a2;refine E z (a_i (α:=Val) c_A bh z z ((((hf.e sa).e O).c V<|ds<|mno (b_.lt hf) sa.s).e hg) hl (aA.blk:Blk az a5.z [vI ro.number,sl ar ns cv,sl aw nx cy]) (e_S (x:=ro) (S1:=am) (S2:=an) b8 (((hp.e O).c V<|ds<|mnr<|b_.lt hp).e hg)<|((hq.e O).c V<|ds<|mnr<|b_.lt hq).e hg) (aa_ (b_F (al_ hj) (b_.lt hf) lr)<|b_F (ar_ hj) (b_.lt hf) lr)<|na_ (nl_ hz) (nr_ hz)<|nj hz) ?_;rintro _ bi ⟨a7,aB,aC,aD,rfl,aE,bj,bk,aF⟩;refine Rf z b_L z ?_;have aG:∀k∈H,k∉[w0.z]:=or1 hd (ds<|mnr<|b_.lt a0)<|k_ (a_ he.lt) W.s;refine E0 (fs0 (cur':=[vI x2.number,sl AC NC CC,sl aB aC aD]) e_r z z ((ay.e hg).c aE<|djs aG) z z z z) ?_;rintro _ bm ⟨bn,bo⟩;have aH:=bo.one;refine Wn<|Wg<|Rm z<|Rw z<|Wg<|R z (inc_ ab (lt_ (repS.len a1) X_) z z)<|Rm z<|Wl ?_
  have aI:=lt_ s6.s sa.s;exact λ_ q=>⟨(b4,bg),(som aT).symm,⟨aB,aC,aD,a7,q.k<|s7 z z z z z z z,(cM (cM (e_ (cM (e_ (e_ (cM (cr (S2_2++[w0.z]) G) s6 (aa_ (io<|h_ sr)<|io<|f_ sr):Chg (· ∈ (S2_2++[w0.z])) G ak) sa:Chg (· ∈ (S2_2++[w0.z])) G wm) O:Chg (· ∈ (S2_2++[w0.z])) G a4) V (mor aI:∀k∈[wm.z],k∈(S2_2++[w0.z])∨G.z<=k):Chg (· ∈ (S2_2++[w0.z])) G a5) hg:Chg (· ∈ (S2_2++[w0.z])) G az) aE (or1 hd (io<|h_ sr) (o_ lr):∀k∈H,k∈(S2_2++[w0.z])∨G.z<=k):Chg (· ∈ (S2_2++[w0.z])) G bi) aH (io<|f_ sr):Chg (· ∈ (S2_2++[w0.z])) G bm),b9,bj.c aH (or2 aF aG (aa_ (l_ (al_ hj) he.lt a6)<|l_ (ar_ hj) he.lt a6) (k_ (a_ he.lt)<|lt_ (lt_ (lt_ ax O.s) V.s) hg.s):∀k∈a7,k∉[w0.z]),bk,(or2 aF (or1 hd (io sr) (o_ lr):∀k∈H,k∈S2_2∨G.z<=k) (aa_ (or0 (al_ hj) (o_ s6.s):∀k∈am,k∈S2_2∨G.z<=k) (or0 (ar_ hj) (o_ s6.s):∀k∈an,k∈S2_2∨G.z<=k)) (o_<|lt_ (lt_ (lt_ aI O.s) V.s) hg.s):∀k∈a7,k∈S2_2∨G.z<=k),bn⟩⟩
 .rintro ⟨xc,xh⟩ _ bp ⟨I,J,L,H,aU,bq,hi,hf,hl,hd,hn⟩;refine Wu ?_ aU;refine Ws<|Rl z z z<|Wn<|Wq<|Wc z (λhc=>(a_o hc).elim) (λ_=>?_)
  exact We<|λ_ q=>⟨rfl,⟨I,J,L,H,q.k<|s3 z z z,(cM (cr (S2_2++[w0.z]) G) bq (aa_ (io<|h_ sr)<|io<|f_ sr):Chg (· ∈ (S2_2++[w0.z])) G bp),hi,hf,hl,(or1 hd (io sr) (o_ lr):∀k∈H,k∈S2_2∨G.z<=k),hn⟩⟩
 .rintro ⟨xc,xh⟩ br bs rfl ⟨I,J,L,H,_,a8,hi,hf,hl,hd,hn⟩;have aV:=elL aa;revert br;refine Wo<|Ws<|R z (lN (vs:=[vI x2.number,sl AC NC CC,sl I J L]) I_ n_ z z fid<|hn.row 0 3 z)<|Rm z ?_
  have aJ:=mno (b_.lt a0) h2.s;refine E0 (fs0 (cur':=[vI x2.number,sl AC NC CC,sl I J L]) n_ z z (hk.c a8<|atp<|nmA aJ<|mmr he.lt) z z z z) ?_;rintro _ bt ⟨bu,bv⟩;have a9:=bv.one;refine Ra z<|Rw z ?_
  obtain rfl:=som<|a_A aV;have aK:=lt_ h2.s W.s;exact Wr<|L_ hr (v_ I_ n_ z bu z) z z ⟨(cM (cM (e_ (e_ (cr (S2_1++S2_2) w0) h2:Chg (· ∈ (S2_1++S2_2)) w0 wb) W:Chg (· ∈ (S2_1++S2_2)) w0 G) a8 (aa_ (io<|f_ sr) (mor lr:∀k∈[w0.z],k∈(S2_1++S2_2)∨w0.z<=k)):Chg (· ∈ (S2_1++S2_2)) w0 bs) a9 (mor h2.s:∀k∈[wb.z],k∈(S2_1++S2_2)∨w0.z<=k):Chg (· ∈ (S2_1++S2_2)) w0 bt),AC,NC,CC,S2_1,I,J,L,H,.nilIface,([]:List Nat),z,aN,(((Y.e h2).e W).c a8<|nmA (ds p2_2d1)<|ds<|mnr<|b_.lt Y).c a9<|ds<|mno (b_.lt Y) h2.s,hf.c a9 (or1 hd (ds aJ) (k_ (a_ hk.lt) lr):∀k∈H,k∉[wb.z]),hi,d_N,an_,na_ p2_1n hl<|ds<|o1no hd p2_2d1 (b_.lt Y) aK,aa_ (io<|h_ sr) (or1 hd (io<|f_ sr) (o_ aK):∀k∈H,k∈(S2_1++S2_2)∨w0.z<=k)⟩
 rintro _ _ _ _ rfl ⟨rfl,aW⟩;have aX:=elR aa;obtain rfl:=som aX;exact ⟨aW,z⟩
theorem T_w1p (ih:e_s n):j_S (h_r n<|a_g n):=by
 obtain ⟨_,_,ar,_,_,_⟩:=ih
 constructor
 intro A0 A1 A3 A4 A2 A5 N0 C0 N1 C1 b1 o1 N3 C3 N4 C4 N2 C2 N5 C5 B x1 x2 x3 res w0 hm Y a0 a1 hC1 hC1b b7 b8 b9 ba bb J a2 L;unfold h_r at hm
 refine goG func112 z z z λfn hr=>Ws<|E z (fb z) ?_
 rintro _ H ⟨rfl,hk⟩;have h1:=hk.below;refine E z (fa a_q) ?_;rintro _ au ⟨rfl,hl⟩;have h4:=hl.below;have h2:Blk au H.z [vI 0,sN,sN]:=hl.blk;refine Ra z<|Rw z<|Wm z<|Rf z M_ z ?_
 have hn:=(hk.blk:Blk H w0.z (vR x2 A3 N3 C3 A4 N4 C4 A2 N2 C2 A5 N5 C5)).e h4;refine R z (l0 C_ z<|hn.at z) ?_;obtain ⟨_,av,af⟩:=bdS hm;have O:=(h1.ag B).e h4;refine RX z (at_ (α:=Int) A_ z_3 z z z (a2.g O) av) ?_;rintro _ ⟨_,_,_,rfl,aw,ax,_⟩;obtain ⟨rfl,az⟩:=W_ ax;refine R z (l0 g_3 z<|aw.at0 z)<|Rm z ?_
 have ho:=(hC1.e h1).e h4;have V:=lt_ h1.s h4.s;obtain ⟨re,aA,_,aB,hmm⟩:=r_ af;refine E z (fc call107 z<|i_p aB (zt' Y V) (a0.g O) (a1.g O) ho hC1b az L) ?_;rintro _ I ⟨G,aC,aD,rfl,aE,aF,hp,hq⟩;refine Rm z ?_
 iterate 3 refine Re z z z ?_
 refine RA z z<|Rw z<|Wq<|Wm z<|R z (d_g d_m z z hp)<|Wx z (λhcf=>?_) (λhcf=>?_)
 .refine Ws<|R z (bP (parts:=[]) (cs:=[vI 0,sN,sN]) a_7 z z)<|RM z z<|E0 (fs0 (cur':=[vI 0,sN,sN]) n_ z z (h2.e G) z z z z) ?_
  rintro _ _ ⟨aG,aH⟩;have ht:=aH.one;refine Ra z<|Rw z ?_
  obtain rfl:=som<|ifT hmm hcf;exact Wr<|L_ hr (v_ I_ n_ z aG z) z z ⟨bM (bup (bup h1 h4) G) ht<|m1 h1.s,none,0,0,[],none,0,0,[],aC,aD,z,ii z,onL,onL,L,hp.c ht<|l_ hq h2.lt lr,p_ hq V,nd0,al0⟩
 refine Wk<|Wq<|Ws<|Rf z a_O z ?_
 have hu:=hn.e G;refine R z (l0 C_ z<|hu.at z) ?_;have hv:=O.e G;refine R z (lnR A_ z<|J.g hv)<|Rm z<|Wn ?_
 obtain ⟨_,ah,hmr⟩:=bdS<|ifF hmm hcf;refine Wf (σ:=Unit) (ρ:=Val×Int×(Option<|Int×Int)) (λ(ks:Nat)(_:Unit) a w=>Sat 61 [(0,.pointer<|some ⟨b1,o1,none⟩),(2,vI x3),(4,pt w0.z),(6,pt H.z),(9,vI re),(10,vI aA),(31,sl A2 N2 C2),(32,vI (x2.tags.length:Int)),(33,vI ((ks:Nat):Int))] a/\Below I.z I w) (λ(_:Unit) a w=>Sat 61 [(2,vI x3),(6,pt H.z)] a/\Below I.z I w) (rQ prog fn<|Q35 w0 B) ah ?_ ?_ ?_ ?_ ?_
 .exact λ_ q=>⟨q.k<|s9 z z z z z z z z z,br I⟩
 .rintro ks _ _ _ _ hkg ⟨ai,s3⟩ aj;refine Wu ?_ ai;refine Ws<|Rl z z z<|Wn<|Wq<|Wc z (λ_=>?_) (λhc=>(a_n hkg hc).elim)
  refine Wk<|Wq<|Wb<|Wm z ?_
  obtain ⟨_,aI,hmw⟩:=bdS aj;have W:=hv.e s3;refine RX z (at_ (α:=Int) A_ z_3 z z z (J.g W) aI) ?_;rintro _ ⟨_,_,_,rfl,aJ,aK,_⟩;obtain ⟨rfl,_⟩:=W_ aK;refine R z (l0 g_3 z<|aJ.at0 z)<|Ra z<|Rw z<|Wm z<|Rm z<|Rq z z z<|Wx z (λhch=>?_) (λhch=>?_)
  .refine Wm z<|Rm z<|R z (bP (parts:=[(0,.tmp 42)]) (cs:=[vI re,sN,sN]) a_7 z z)<|Rf z M_ z<|R z (l0 C_ z<|(hu.e s3).at z)<|Rm z<|R z (inc_ hkg (lt_ (repS.len J) X_) z z)<|Rm z<|R z (add_ z z) ?_
   obtain ⟨_,aL,ak⟩:=bdS<|ifT hmw hch;refine RX z (rX A_ z_3 z z (a2.g W) z z aL) ?_;rintro _ ⟨_,_,_,rfl,aM⟩;refine Rm z ?_;have ha:=lt_ (lt_ V G.s) s3.s;obtain ⟨aN,_,_,aO,al⟩:=r_ ak;refine E z (fc call111 z<|ar.run (B:=B) (x2:=(⟨re,([]:Bt),([]:List Val)⟩:Val)) aO (zt' Y ha) (a0.g W) (a1.g W) ((ho.e G).e s3) hC1b aE onL z_ an_ onL z_ an_ an_ aM aF) ?_;rintro _ _ ⟨sx,ay,nz,a3,a4,a5,a6,a7,a8,aP,aQ,rfl,aR,aS,aT,aU,aV,a9,hi,hb⟩
   iterate 3 refine Re z z z ?_
   refine E0 (fs0 (cur':=[vI aN.number,sl ay nz a3,sl a5 a6 a7]) n_ z z (((h2.e G).e s3).c sx<|atp<|nmA (nmN _)<|nmN _) z z z z) ?_;rintro _ _ ⟨aW,aX⟩;have hd:=aX.one;refine Ra z<|Rw z ?_
   have hj:=lt_ G.s s3.s;exact Wr<|rtO<|qL (som al).symm<|L_ hr (v_ I_ n_ z aW z) z z ⟨bM (bM (bup (bup (bup h1 h4) G) s3) sx al0) hd<|m1 h1.s,ay,nz,a3,a4,a5,a6,a7,a8,aP,aQ,z,aR,aS.c hd (or1 (al_ hb) al0 (k_ (a_ h2.lt) hj):∀k∈a4,k∉[H.z]),aT.c hd (or1 (ar_ hb) al0 (k_ (a_ h2.lt) hj):∀k∈a8,k∉[H.z]),aU,aV.c hd<|l_ a9 h2.lt hj,p_ a9 ha,na_ (nl_ hi) (nr_ hi)<|nj hi,aa_ (a_0 (al_ hb) al0 ha)<|a_0 (ar_ hb) al0 ha⟩
  exact Wk<|Wg<|R z (inc_ hkg (lt_ (repS.len J) X_) z z)<|Rm z<|Wl (λ_ q=>⟨(),(som<|ifF hmw hch).symm,⟨q.k<|s9 z z z z z z z z z,s3⟩⟩)
 .rintro _ _ _ ⟨am,aY⟩;refine Wu ?_ am;refine Ws<|Rl z z z<|Wn<|Wq<|Wc z (λhc=>(a_o hc).elim) (λ_=>?_)
  exact We<|λ_ q=>⟨rfl,⟨q.k<|s2 z z,aY⟩⟩
 .rintro _ aZ _ rfl ⟨_,sc⟩;have an:=elL hmr;revert aZ;refine Wo<|Ws<|R z (bP (parts:=[]) (cs:=[vI 0,sN,sN]) a_7 z z)<|RM z z ?_
  have aa:=lt_ (lt_ V G.s) sc.s;obtain ⟨_,b0,ao⟩:=bdS an;refine E z (fc call115 z<|d_T b0 (zt' Y aa) L<|ii z) ?_;rintro _ _ ⟨ab,b2,b3,rfl,b4,ad⟩;refine E0 (fs0 (cur':=[vI 0,sN,sN]) n_ z z (((h2.e G).e sc).e ab) z z z z) ?_;rintro _ _ ⟨b5,b6⟩;have ae:=b6.one;refine Ra z<|Rw z ?_
  obtain rfl:=som ao;exact Wr<|L_ hr (v_ I_ n_ z b5 z) z z ⟨bM (bup (bup (bup (bup h1 h4) G) sc) ab) ae<|m1 h1.s,none,0,0,[],none,0,0,[],b2,b3,z,ii z,onL,onL,L,b4.c ae<|l_ ad h2.lt<|lt_ G.s sc.s,p_ ad aa,nd0,al0⟩
 rintro _ _ _ _ rfl ⟨rfl,ap⟩;have aq:=elR hmr;obtain rfl:=som aq;exact ⟨ap,z⟩
theorem T_w1q (ih:e_s n):j_T (h_s n<|a_g n):=by
 obtain ⟨_,_,a6,_,_,_⟩:=ih
 constructor
 intro A0 A1 A3 A4 A2 A5 N0 C0 N1 C1 b1 o1 N3 C3 N4 C4 N2 C2 N5 C5 B x1 x2 x3 res w0 hm O W Y hC1 hC1b aI aJ aK aL aM aN a3 H;unfold h_s at hm
 refine goG func113 z z z λfn hr=>Ws<|E z (fb z) ?_
 rintro _ I ⟨rfl,hf⟩;have h1:=hf.below;refine E z (fa a_q) ?_;rintro _ a7 ⟨rfl,hg⟩;have h3:=hg.below;have h2:Blk a7 I.z [vI 0,sN,sN]:=hg.blk;refine Ra z<|Rw z<|Wm z<|Rm z ?_
 have hh:=(hC1.e h1).e h3;have V:=(h1.ag B).e h3;have h5:=lt_ h1.s h3.s;obtain ⟨_,_,a8,hmi⟩:=a_9 hm;refine E z (fc call125 z<|i_o a8 (zt' O h5) (W.g V) (Y.g V) hh hC1b H<|ii z) ?_;rintro _ _ ⟨G,_,_,_,a9,aa,rfl,hj,hk,hl⟩;refine Rm z<|Re z z z<|Re z z z<|Ra z<|Rw z<|Wq<|Wb<|Wm z<|R z (d_g d_m z z hk)<|Rw z<|Wc z (λhca=>?_) (λhca=>?_)
 .refine Ws<|R z (bP (parts:=[]) (cs:=[vI 0,sN,sN]) a_7 z z)<|RM z z<|E0 (fs0 (cur':=[vI 0,sN,sN]) n_ z z (h2.e G) z z z z) ?_
  rintro _ _ ⟨ab,ad⟩;have hn:=ad.one;refine Ra z<|Rw z ?_
  obtain rfl:=som<|ifT hmi hca;exact Wr<|rtO<|L_ hr (v_ I_ n_ z ab z) z z ⟨bM (bup (bup h1 h3) G) hn<|m1 h1.s,none,0,0,[],none,0,0,[],a9,aa,z,ii z,onL,onL,H,hk.c hn<|l_ hl h2.lt lr,p_ hl h5,nd0,al0⟩
 refine Wm z ?_
 obtain ⟨_,ae,hmm⟩:=bdS<|ifF hmi hca;refine RX z (at_ (α:=UInt8) s_ z_5 z z z hj ae) ?_;rintro _ ⟨_,_,_,rfl,af,ah,_⟩;obtain rfl:=u8 ah;refine R z (l0 g_5 z<|af.at0 z)<|R z (a_b z z)<|Rw z<|Wc z (λhcb=>?_) (λhcb=>?_)
 .refine Ws<|R z (bP (parts:=[]) (cs:=[vI 0,sN,sN]) a_7 z z)<|RM z z ?_
  have ho:=lt_ h5 G.s;obtain ⟨_,ai,a4⟩:=bdS<|ifT hmm hcb;refine E z (fc call115 z<|d_T ai (zt' O ho) H<|ii z) ?_;rintro _ _ ⟨sp,aj,ak,rfl,al,hq⟩;refine E0 (fs0 (cur':=[vI 0,sN,sN]) n_ z z ((h2.e G).e sp) z z z z) ?_;rintro _ _ ⟨am,an⟩;have ht:=an.one;refine Ra z<|Rw z ?_
  obtain rfl:=som a4;exact Wr<|rtO<|L_ hr (v_ I_ n_ z am z) z z ⟨bM (bup (bup (bup h1 h3) G) sp) ht<|m1 h1.s,none,0,0,[],none,0,0,[],aj,ak,z,ii z,onL,onL,H,al.c ht<|l_ hq h2.lt G.s,p_ hq ho,nd0,al0⟩
 refine Wm z ?_
 obtain ⟨_,ao,hmr⟩:=bdS<|ifF hmm hcb;refine RX z (at_ (α:=UInt8) s_ z_5 z z z hj ao) ?_;rintro _ ⟨_,_,_,rfl,ap,aq,_⟩;obtain rfl:=u8 aq;refine R z (l0 g_5 z<|ap.at0 z)<|Rq z z z<|Rw z<|Wc z (λhcc=>?_) (λhcc=>?_)
 .refine Ws<|R z (bP (parts:=[]) (cs:=[vI 0,sN,sN]) a_7 z z)<|Rm z<|R z (add_ z z)<|E0 (fs0 (cur':=[vI 0,sN,sN]) n_ z z (h2.e G) z z z z) ?_
  rintro _ _ ⟨ar,av⟩;refine Ra z<|Rw z ?_
  obtain rfl:=som<|ifT hmr hcc;exact Wr<|rtO<|L_ hr (v_ I_ n_ z ar z) z z ⟨bM (bup (bup h1 h3) G) av.one<|m1 h1.s,none,0,0,[],none,0,0,[],.nilIface,([]:List Nat),z,ii z,onL,onL,iA _ _,d_N,an_,nd0,al0⟩
 refine Wk<|Wm z<|R z (bP (parts:=[]) (cs:=[vI 0,sN,sN]) a_7 z z)<|Rf z M_ z<|R z (l0 C_ z<|(((hf.blk:Blk I w0.z (vR x2 A3 N3 C3 A4 N4 C4 A2 N2 C2 A5 N5 C5)).e h3).e G).at z)<|Rm z<|R z (add_ z z) ?_
 have hd:=V.e G;have h6:=lt_ h5 G.s;obtain ⟨aw,_,_,ax,a5⟩:=r_<|ifF hmr hcc;refine E z (fc call111 z<|a6.run (B:=B) (x2:=(⟨0,([]:Bt),([]:List Val)⟩:Val)) ax (zt' O h6) (W.g hd) (Y.g hd) (hh.e G) hC1b (ii z) onL z_ an_ onL z_ an_ an_ (a3.g hd)<|iA _ _) ?_;rintro _ _ ⟨ss,au,nv,cw,Sx,ay,nz,a0,a1,az,aA,rfl,aB,aC,aD,aE,aF,a2,he,J⟩
 iterate 3 refine Re z z z ?_
 refine E0 (fs0 (cur':=[vI aw.number,sl au nv cw,sl ay nz a0]) n_ z z ((h2.e G).c ss<|atp<|nmA (nmN _)<|nmN _) z z z z) ?_;rintro _ _ ⟨aG,aH⟩;have L:=aH.one;refine Ra z<|Rw z ?_
 obtain rfl:=som a5;exact Wr<|L_ hr (v_ I_ n_ z aG z) z z ⟨bM (bM (bup (bup h1 h3) G) ss al0) L<|m1 h1.s,au,nv,cw,Sx,ay,nz,a0,a1,az,aA,z,aB,aC.c L (or1 (al_ J) al0 (k_ (a_ h2.lt) G.s):∀k∈Sx,k∉[I.z]),aD.c L (or1 (ar_ J) al0 (k_ (a_ h2.lt) G.s):∀k∈a1,k∉[I.z]),aE,aF.c L<|l_ a2 h2.lt G.s,p_ a2 h6,na_ (nl_ he) (nr_ he)<|nj he,aa_ (a_0 (al_ J) al0 h6)<|a_0 (ar_ J) al0 h6⟩
theorem T_w1r (ih:e_s n):j_U (h_t n<|a_g n):=by
 obtain ⟨_,_,ap,_,_,_⟩:=ih
 constructor
 intro A0 A1 A3 A4 A2 A5 N0 C0 N1 C1 b1 o1 N3 C3 N4 C4 N2 C2 N5 C5 B x1 x2 x3 res w0 hm J V O hC1 hC1b aW aX aY aZ b0 b2 al L;unfold h_t at hm
 refine goG func114 z z z λfn hr=>Ws<|E z (fb z) ?_
 rintro _ wb ⟨rfl,hu⟩;have h6:=hu.below;refine E z (fa a_q) ?_;rintro _ aq ⟨rfl,hv⟩;have H:=hv.below;have h3:Blk aq wb.z [vI 0,sN,sN]:=hv.blk;refine Ra z<|Rw z<|Wm z<|R z (bP (parts:=[]) (cs:=[vI 0,sN,sN]) a_7 z z)<|Rf z M_ z<|R z (l0 C_ z<|((hu.blk:Blk wb w0.z (vR x2 A3 N3 C3 A4 N4 C4 A2 N2 C2 A5 N5 C5)).e H).at z)<|Rm z ?_
 have hw:=(hC1.e h6).e H;have hc:=(h6.ag B).e H;have I:=lt_ h6.s H.s;obtain ⟨rk,_,_,ar,hmr⟩:=r_ hm;refine E z (fc call111 z<|ap.run (B:=B) (x2:=(⟨0,([]:Bt),([]:List Val)⟩:Val)) ar (zt' J I) (V.g hc) (O.g hc) hw hC1b (ii z) onL z_ an_ onL z_ an_ an_ (al.g hc) L) ?_;rintro _ ws ⟨G,ad,ne,cf,Sx,ah,ng,ci,Sy,au,av,rfl,aw,hz,a0,a1,a2,a3,hl,hj⟩;refine Rm z ?_
 iterate 3 refine Re z z z ?_
 refine E z (fa a_q) ?_;rintro _ ax ⟨rfl,a4⟩;have h1:=a4.below;refine E0 (fs0 (cur':=[vI rk.number,sl ad ne cf,sl ah ng ci]) n_ z z (a4.blk:Blk ax ws.z [vI 0,sN,sN]) z z z z) ?_;rintro _ _ ⟨ay,az⟩;have h2:=az.one;refine Ra z<|Rw z<|Wq<|Wm z ?_
 have a5:=(a2.e h1).c h2<|ds<|mnr<|a_U.lt a2
 refine R z (d_g d_m z z a5)<|Wx z (λhcm=>?_) (λhcm=>?_)
 .refine Ws<|R z (bP (parts:=[]) (cs:=[vI 0,sN,sN]) a_7 z z)<|RM z z<|E0 (fs0 (cur':=[vI 0,sN,sN]) n_ z z (((h3.c G<|atp<|nmA (nmN _)<|nmN _).e h1).c h2<|djs<|mm1 h3.lt G.s) z z z z) ?_
  rintro _ _ ⟨aA,aB⟩;have a6:=aB.one;refine Ra z<|Rw z ?_
  obtain rfl:=som<|ifT hmr hcm;exact Wr<|L_ hr (v_ I_ n_ z aA z) z z ⟨bM (bM (bup (bM (bup h6 H) G al0) h1) h2<|m1<|lt_ I G.s) a6<|m1 h6.s,none,0,0,[],none,0,0,[],au,av,z,ii z,onL,onL,L,a5.c a6<|l_ a3 h3.lt lr,p_ a3 I,nd0,al0⟩
 refine Wk<|Wm z<|Rm z ?_
 have ha:=lt_ I G.s;have a7:∀k∈[ws.z],¬B k:=or0 (a_ lr)<|m_<|zt' J ha;have a8:=((hw.c G<|(nmA (c_ an_)<|c_ an_) _ hC1b).e h1).c h2<|(c_ a7) _ hC1b
 have hn:=((hc.c G<|nmA (c_ an_)<|c_ an_).e h1).c h2<|c_ a7
 have ho:=lt_ (lt_ ha h1.s) h2.s;obtain ⟨_,_,aC,W⟩:=a_9<|ifF hmr hcm;refine E z (fc call125 z<|i_o aC (zt' J ho) (V.g hn) (O.g hn) a8 hC1b a1<|ii z) ?_;rintro _ _ ⟨s4,_,_,_,aD,aE,rfl,aF,a9,aa⟩;refine Rm z<|Re z z z<|Re z z z<|Ra z<|Rw z<|Wq<|Wm z<|R z (d_g d_m z z a9)<|Wx z (λhcp=>?_) (λhcp=>?_)
 .refine Ws<|R z (bP (parts:=[]) (cs:=[vI 0,sN,sN]) a_7 z z)<|RM z z<|E0 (fs0 (cur':=[vI 0,sN,sN]) n_ z z ((((h3.c G<|atp<|nmA (nmN _)<|nmN _).e h1).c h2<|djs<|mm1 h3.lt G.s).e s4) z z z z) ?_
  rintro _ _ ⟨aG,aH⟩;have ab:=aH.one;refine Ra z<|Rw z ?_
  obtain rfl:=som<|ifT W hcp;exact Wr<|L_ hr (v_ I_ n_ z aG z) z z ⟨bM (bup (bM (bup (bM (bup h6 H) G al0) h1) h2<|m1 ha) s4) ab<|m1 h6.s,none,0,0,[],none,0,0,[],aD,aE,z,ii z,onL,onL,L,a9.c ab<|l_ aa h3.lt<|lt_ (lt_ G.s h1.s) h2.s,p_ aa ho,nd0,al0⟩
 refine Wk<|Wq<|Wq (Wd (X:=noX) 0 (pl_ 13 [11]) mo (by kernel_rfl) λb3 s5 _=>dM z z z ?_)
 obtain ⟨_,aI,am⟩:=bdS<|ifF W hcp;refine dRX z z (at_ (α:=UInt8) s_ z_5 z z z (aF.e s5) aI) ?_;rintro _ ⟨_,_,_,rfl,aJ,aK,_⟩;obtain rfl:=u8 aK;refine dR z z (l0 g_5 z<|aJ.at0 z)<|dR z z (c_7 d_5 d_3 z)<|dM z z z<|dR z z (O_ z)<|dR z z (fd f_a z)<|dR z z (l0 U_ z<|((a8.e s4).e s5).at (j:=1) z)<|dM z z z<|dM z z z ?_
 obtain ⟨_,aL,an⟩:=bdS am;refine dRX z z (rX s_ z_5 z z (O.g<|(hn.e s4).e s5) z z aL) ?_;rintro _ ⟨_,_,_,rfl,aM⟩;have ae:=lt_ (lt_ ho s4.s) s5.s;obtain ⟨_,aN,Y⟩:=bdS an;refine dE z z (fc call21 z<|j_F aN (zt' J ae) aM) (.inr λ_ _ h=>x_<|h.1) ?_;rintro _ _ ⟨s7,rfl,_⟩;refine dR z z (nq z z)<|pD<|Wo<|Wc z (λhcq=>?_) (λhcq=>?_)
 .refine Ws<|R z (bP (parts:=[]) (cs:=[vI 0,sN,sN]) a_7 z z)<|RM z z ?_
  have af:=lt_ ae s7.s;obtain ⟨_,aO,ao⟩:=bdS<|ifT Y hcq;refine E z (fc call115 z<|d_T aO (zt' J af) a1<|ii z) ?_;rintro _ _ ⟨ai,aP,aQ,rfl,aR,aj⟩;refine E0 (fs0 (cur':=[vI 0,sN,sN]) n_ z z (((((((h3.c G<|atp<|nmA (nmN _)<|nmN _).e h1).c h2<|djs<|mm1 h3.lt G.s).e s4).e s5).e s7).e ai) z z z z) ?_;rintro _ _ ⟨aS,aT⟩;have ak:=aT.one;refine Ra z<|Rw z ?_
  obtain rfl:=som ao;exact Wr<|L_ hr (v_ I_ n_ z aS z) z z ⟨bM (bup (bup (bup (bup (bM (bup (bM (bup h6 H) G al0) h1) h2<|m1 ha) s4) s5) s7) ai) ak<|m1 h6.s,none,0,0,[],none,0,0,[],aP,aQ,z,ii z,onL,onL,L,aR.c ak<|l_ aj h3.lt<|lt_ (lt_ (lt_ (lt_ (lt_ G.s h1.s) h2.s) s4.s) s5.s) s7.s,p_ aj af,nd0,al0⟩
 refine Wk<|Ws<|R z (lN (vs:=[vI rk.number,sl ad ne cf,sl ah ng ci]) I_ n_ z z fid<|(((ay.e s4).e s5).e s7).row 0 3 z)<|Rm z<|R z (add_ z z)<|E0 (fs0 (cur':=[vI rk.number,sl ad ne cf,sl ah ng ci]) n_ z z ((((((h3.c G<|atp<|nmA (nmN _)<|nmN _).e h1).c h2<|djs<|mm1 h3.lt G.s).e s4).e s5).e s7) z z z z) ?_
 rintro _ _ ⟨aU,aV⟩;have ht:=aV.one;refine Ra z<|Rw z ?_
 obtain rfl:=som<|ifF Y hcq;exact Wr<|L_ hr (v_ I_ n_ z aU z) z z ⟨bM (bup (bup (bup (bM (bup (bM (bup h6 H) G al0) h1) h2<|m1 ha) s4) s5) s7) ht<|m1 h6.s,ad,ne,cf,Sx,ah,ng,ci,Sy,.nilIface,([]:List Nat),z,aw,(((((hz.e h1).c h2<|ds<|mnr<|b_.lt hz).e s4).e s5).e s7).c ht (or1 (al_ hj) al0 (k_ (a_ h3.lt) lr):∀k∈Sx,k∉[wb.z]),(((((a0.e h1).c h2<|ds<|mnr<|b_.lt a0).e s4).e s5).e s7).c ht (or1 (ar_ hj) al0 (k_ (a_ h3.lt) lr):∀k∈Sy,k∉[wb.z]),iA _ _,d_N,an_,na_ (nl_ hl) (nr_ hl)<|nj hl,aa_ (a_0 (al_ hj) al0 I)<|a_0 (ar_ hj) al0 I⟩
theorem c_o:∀n,e_s n
  | 0=>⟨⟨λhm=>by intros;exact nomatch (show none=some _ from hm)⟩,⟨λhm=>by intros;exact nomatch (show none=some _ from hm)⟩,⟨λhm=>by intros;exact nomatch (show none=some _ from hm)⟩,⟨λhm=>by intros;exact nomatch (show none=some _ from hm)⟩,⟨λhm=>by intros;exact nomatch (show none=some _ from hm)⟩,⟨λhm=>by intros;exact nomatch (show none=some _ from hm)⟩⟩
  | n+1=>⟨T_w02<|c_o n,T_w1n<|c_o n,T_w1o<|c_o n,T_w1p<|c_o n,T_w1q<|c_o n,T_w1r<|c_o n⟩
theorem W_w02:j_P (a_g n).impl_fileReader_value:=(c_o n).1
theorem W_w1n:j_Q (a_g n).impl_fileReader_array:=(c_o n).2.1
theorem W_w1o:j_R (a_g n).impl_fileReader_items:=(c_o n).2.2.1
theorem W_w1p:j_S (a_g n).impl_fileReader_choice:=(c_o n).2.2.2.1
theorem W_w1q:j_T (a_g n).impl_fileReader_option:=(c_o n).2.2.2.2.1
theorem W_w1r:j_U (a_g n).impl_fileReader_checked:=(c_o n).2.2.2.2.2
def Q37 (w0:World)(B:Zone)(r:Val×Int×Int)(v:Value)(w':World):Prop:=Bw w0 w'/\un3 (λG H I=>∃a1 J L S1 a2 O V S2,v = .tuple #[(.agg #[vI G.number,sl a1 J L,sl a2 O V]),vI H,vI I]/\inI G.number/\b_ w' S1 (sl a1 J L) G.bytes/\b_ w' S2 (sl a2 O V) G.items/\inI H/\inI I/\(S1++S2).Nodup/\(∀k∈(S1++S2),w0.z<=k)) r
theorem j_V {x1:g_}{x2:Int}{x3:Bt}{x4:Int}{res:Val×Int×Int}(hm:h_u n x1 x2 x3 x4=some res)(O:B<=w0.z)(hG:Gl w0 B)(V:repS w0 B (sl A0 N0 C0) x1.rules)(W:inI x2)(Y:repS w0 B (sl A7 N7 C7) x3)(aB:inI x4):q_ prog 66 [(.agg #[sl A0 N0 C0]),vI x2,sl A7 N7 C7,vI x4] w0 (Q37 w0 B res):=by
 unfold h_u at hm
 refine goG func66 z z z λfn hr=>Ws<|E z (fb z) ?_
 rintro _ wc ⟨rfl,a5⟩;have h1:=a5.below;have a6:Blk wc w0.z [sl A0 N0 C0]:=a5.blk;refine E z (fa a_q) ?_;rintro _ wp ⟨rfl,a7⟩;have h4:=a7.below;have h5:Blk wp wc.z [vI 0,sN,sN]:=a7.blk;refine Ra z<|Rw z<|Wq<|Wq ?_
 obtain ⟨aE,aC,a0⟩:=bdS hm;refine Wt (λa w=>∃(xq:Bool),xq=aE/\Sat 62 [(1,vI x2),(2,sl A7 N7 C7),(3,vI x4),(4,pt w0.z),(8,pt wc.z),(34,vB xq)] a/\Below wp.z wp w) ?_ ?_
 .refine Wg<|R z (lN (vs:=[sl A0 N0 C0]) B_ w_ z z fid<|(a6.e h4).row 0 1 z)<|Rm z ?_
  have a8:=(h1.ag B).e h4;obtain ⟨aF,aG,a1⟩:=bdS aC;refine E z (fc call70 z<|j_E aG (zt' O<|lt_ h1.s h4.s) (V.g a8) W) ?_;rintro _ _ ⟨sd,rfl⟩;refine R z (not_ z)<|Rm z ?_
  rcases bs (!aF) with J | J
  .exact Nh z J<|Nh z J<|R z (pT z J z)<|Rm z<|Nh z z<|Nh z z<|Nh z z<|Nh z z<|R z (pT z z z)<|Rm z<|Nh z z<|Nh z z<|Nh z z<|R z (pT z z z)<|Wl (λ_ q=>⟨true,som<|ifT a1 J,q.k<|s6 z z z z z z,sd⟩)
  have a2:=ifF a1 J;refine Rh z J (mv z)<|Rh z J (lss z z)<|R z (pF z J z)<|Rm z ?_
  rcases bs (decide<|x4<0) with H | H
  .iterate 4 refine Nh z H ?_
   exact R z (pT z H z)<|Rm z<|Nh z z<|Nh z z<|Nh z z<|R z (pT z z z)<|Wl (λ_ q=>⟨true,som<|ifT a2 H,q.k<|s6 z z z z z z,sd⟩)
  have a3:=ifF a2 H;refine Rh z H (mv z)<|Rh z H (mv z) ?_
  have a9:=Y.g<|a8.e sd
  refine Rh z H (lnR s_ z a9)<|Rh z H (a_b z z)<|R z (pF z H z)<|Rm z ?_
  rcases bs (decide<|(x3.length:Int)<x4) with L | L
  .iterate 3 refine Nh z L ?_
   exact R z (pT z L z)<|Wl (λ_ q=>⟨true,som<|ifT a3 L,q.k<|s6 z z z z z z,sd⟩)
  exact Rh z L (mv z)<|Rh z L (lnR s_ z a9)<|Rh z L (a_b z z)<|R z (pF z L z)<|Wl (λ_ q=>⟨decide<|400<(x3.length:Int),som<|ifF a3 L,q.k<|s6 z z z z z z,sd⟩)
 rintro aH aI ⟨xq,rfl,_,G⟩;revert aH;refine Wo<|Wc z (λhcr=>?_) (λhcr=>?_)
 .refine Ws<|R z (bP (parts:=[]) (cs:=[vI 0,sN,sN]) a_7 z z)<|E0 (fs0 (cur':=[vI 0,sN,sN]) n_ z z (h5.e G) z z z z) ?_
  rintro _ _ ⟨aJ,aK⟩;refine Ra z<|Rw z ?_
  obtain rfl:=som<|ifT a0 hcr;exact Wr<|L_ hr (v_ I_ n_ z aJ z) z z ⟨bM (bup (bup h1 h4) G) aK.one<|m1 h1.s,none,0,0,[],none,0,0,[],z,ii z,onL,onL,ii z,ii z,nd0,al0⟩
 refine Wk<|Ws<|R z (lN (vs:=[sl A0 N0 C0]) B_ w_ z z fid<|((a6.e h4).e G).row 0 1 z)<|Rm z<|R z (bP (parts:=[(0,.tmp 36),(1,.tmp 37)]) (cs:=[sl A0 N0 C0,sl A7 N7 C7]) o_E z z)<|E z (fb z) ?_
 rintro _ aa ⟨rfl,ab⟩;have ha:=ab.below;have ad:Blk aa aI.z [sl A0 N0 C0,sl A7 N7 C7]:=ab.blk;refine Rw z<|Wm z<|RM z z ?_
 have ae:=(((h1.ag B).e h4).e G).e ha;have he:=lt_ (lt_ (lt_ h1.s h4.s) G.s) ha.s;have af:=zt' O he;obtain ⟨rs,_,aL,aM,a4⟩:=r_<|ifF a0 hcr;refine E z (fc call81 z<|W_w02.run (B:=aa.z) aM zr (repS.mono (V.g ae) af) (repS.mono (Y.g ae) af) (ad.row 0 2 z) ad.lt W aB) ?_;rintro _ ai ⟨sb,ah,ng,ci,aN,aj,nk,cl,aO,_,_,rfl,aP,ak,al,aQ,ht,aR,hu,hn⟩;refine Rm z ?_
 iterate 3 refine Re z z z ?_
 refine E z (fa a_q) ?_;rintro _ aS ⟨rfl,am⟩;have h2:=am.below;refine E0 (fs0 (cur':=[vI rs.number,sl ah ng ci,sl aj nk cl]) n_ z z (am.blk:Blk aS ai.z [vI 0,sN,sN]) z z z z) ?_;rintro _ an ⟨aT,aU⟩;have h3:=aU.one;refine Ra z<|Rw z<|Ws<|E z (fa o_N) ?_
 rintro _ aV ⟨rfl,ao⟩;have I:=ao.below;have ap:Blk aV an.z [(.pointer none)]:=ao.blk;refine Wn<|Wq<|Wm z<|R z (l_t d_127 (λ_ h=>by cases h) z) ?_
 have aq:=((ht.e h2).c h3<|ds<|mnr<|a_U.lt ht).e I
 rcases bs (aL.isSome) with hcm | hcm
 .obtain ⟨_,_,aW,aD⟩:=a_9<|ifT a4 hcm;have hv:=lt_ he sb.s;refine E z (fc call82 z<|o_C ((((((((hG.e h1).e h4).e G).e ha).e sb).e h2).c h3<|c_ (or0 (a_ lr) (m_<|zt' O hv):∀k∈[ai.z],¬B k)).e I) aq aW ap) ?_;rintro _ _ ⟨ar,rfl,aX,aY,aZ,au,b0,b1⟩;have hw:=aX.one;refine Wx z (λ_=>?_) (λhc=>(bcon z hc).elim)
  refine Wq<|Wd (X:=(· ∈ [wc.z])) 0 (pl_ 12 [9]) mo (by kernel_rfl) λb6 so _=>dR z z (bP (parts:=[]) (cs:=[vI 0,sN,sN]) a_7 z z) ?_;have av:=aY.e so;have aw:=lt_ G.s ha.s;have ax:=lt_ aw sb.s;have ay:=lt_ (lt_ ax h2.s) h3.s;have hx:=mm1 h5.lt ay;refine dR z z (l1 g_125 z (atp hx)<|av.at z)<|dR z z (O_ z)<|dR z z (fd o_L z) ?_
  have az:=(aZ.c hw<|atp (or1 (a_<|.inl au) (ds<|mno (a_U.lt ht)<|lt_ h2.s h3.s) (k_ (a_ ap.lt) lr):∀k∈[ar],k∉[an.z])).e so;have aA:∀k∈[ar],k∉[wc.z]:=or1 (a_<|.inl au) (l_ aR h5.lt aw)<|k_ (a_ h5.lt)<|lt_ ay I.s;refine dR z z (l1 g_3 z (atp aA)<|az.at z)<|dR z z (l1 g_125 z (atp hx)<|av.at z)<|dR z z (O_ z)<|dR z z (fd o_M z)<|dR z z (l1 g_3 z (atp aA)<|az.at z)<|dE0 z (fs0 (cur':=[vI 0,sN,sN]) n_ z z ((((((((h5.e G).e ha).e sb).e h2).c h3<|djs<|mm1 h5.lt ax).e I).c hw<|djs hx).e so) z z z z) (.inr λ_ _ h=>i_4 (List.mem_singleton.2 z) h.2) ?_
  rintro _ _ ⟨b2,b3⟩;refine dQ z z z<|dQ z z z<|pD<|Wo ?_
  obtain rfl:=som aD;exact Wr<|L_ hr (v_ I_ n_ z b2 z) z z ⟨bM (bup (bM (bup (bM (bup (bup (bup (bup (bup h1 h4) G) ha) sb) h2) h3<|m1 hv) I) hw<|m1<|lt_ (lt_ hv h2.s) h3.s) so) b3.one<|m1 h1.s,none,0,0,[],none,0,0,[],z,ii z,onL,onL,b0,b1,nd0,al0⟩
 refine E z (fc call82 z<|o_B aq hcm) ?_;rintro _ _ ⟨rfl,sf⟩;refine Wx z (λhc=>(bcon hc z).elim) (λ_=>?_)
 refine Wk<|Ws<|R z (lN (vs:=[vI rs.number,sl ah ng ci,sl aj nk cl]) I_ n_ z z fid<|((aT.e I).e sf).row 0 3 z)<|Rm z ?_
 have hy:=lt_ G.s ha.s;refine E0 (fs0 (cur':=[vI rs.number,sl ah ng ci,sl aj nk cl]) n_ z z (((((((h5.e G).e ha).e sb).e h2).c h3<|djs<|mm1 h5.lt<|lt_ hy sb.s).e I).e sf) z z z z) ?_;rintro _ _ ⟨b4,b5⟩;have hz:=b5.one;refine Ra z<|Rw z ?_
 obtain rfl:=som<|ifF a4 hcm;exact Wr<|L_ hr (v_ I_ n_ z b4 z) z z ⟨bM (bup (bup (bM (bup (bup (bup (bup (bup h1 h4) G) ha) sb) h2) h3<|m1<|lt_ he sb.s) I) sf) hz<|m1 h1.s,ah,ng,ci,aN,aj,nk,cl,aO,z,aP,((((ak.e h2).c h3<|ds<|mnr<|b_.lt ak).e I).e sf).c hz<|l_ (al_ hn) h5.lt hy,((((al.e h2).c h3<|ds<|mnr<|b_.lt al).e I).e sf).c hz<|l_ (ar_ hn) h5.lt hy,aQ,ii z,na_ (nl_ hu) (nr_ hu)<|nj hu,aa_ (p_ (al_ hn) he)<|p_ (ar_ hn) he⟩
theorem W_w2y {x1:g_}{x2:Bt}{res:Val×Int×Int}(hm:h_v n x1 x2=some res)(W:B<=w0.z)(hG:Gl w0 B)(V:repS w0 B (sl A0 N0 C0) x1.rules)(Y:repS w0 B (sl A6 N6 C6) x2):q_ prog 46 [(.agg #[sl A0 N0 C0]),sl A6 N6 C6] w0 (Q37 w0 B res):=by
 unfold h_v at hm
 refine goG func46 z z z λfn hr=>Ws<|E z (fb z) ?_
 rintro _ wn ⟨rfl,ao⟩;have h2:=ao.below;have hv:Blk wn w0.z [sl A0 N0 C0]:=ao.blk;refine E z (fa a_q) ?_;rintro _ I ⟨rfl,ap⟩;have h1:=ap.below;have ho:Blk I wn.z [vI 0,sN,sN]:=ap.blk;refine Ra z<|Rw z<|Wq ?_
 obtain ⟨bn,ak,bh⟩:=bdS hm;refine Wt (λa w=>∃(xb:Int)(xw:Bt)(xx:List Val)(xc:Int)(xd:Int),(xb,xw,xx,xc,xd)=bn/\∃ae nf cg J ah ni cj L O,Sat 32 [(1,sl A6 N6 C6),(4,pt wn.z),(7,pt O),(8,vI xc),(9,vI xd)] a/\Below I.z I w/\inI xb/\b_ w J (sl ae nf cg) xw/\J.Nodup/\(∀k∈J,I.z<=k)/\b_ w L (sl ah ni cj) xx/\L.Nodup/\(∀k∈L,I.z<=k)/\(∀k∈L,k∉J)/\inI xc/\inI xd/\Blk w O [vI xb,sl ae nf cg,sl ah ni cj]/\I.z<=O/\(∀k∈J,k∉[O])/\(∀k∈L,k∉[O])) ?_ ?_
 .refine Wd (X:=λk=>k∈([]:List Nat)∨I.z<=k) 0 (.rd 0<|.rd 1<|.rd 3<|.br 2 (.br 4 (.rd 5<|.rd 6<|.rd 7<|.rd 8<|.ef 9<|.ef 10<|.rd 11<|.rd 12 .done) 9<|.ef 4<|.rd 5<|.rd 6<|.rd 7<|.rd 8<|.ef 10<|.rd 11<|.rd 12 .done) 9<|.ef 2<|.ef 4<|.rd 5<|.rd 6<|.rd 7<|.rd 8<|.ef 10<|.rd 11<|.rd 12 .done) mo (by kernel_rfl) λaq G _=>?_
  have ar:=(hv.e h1).e G;refine dR z z (lN (vs:=[sl A0 N0 C0]) B_ w_ z z (a_3 nm0<|Nat.lt_of_lt_of_le hv.lt h1.s)<|ar.row 0 1 z)<|dR z z (lN (vs:=[sl A0 N0 C0]) B_ w_ z z (a_3 nm0<|Nat.lt_of_lt_of_le hv.lt h1.s)<|ar.row 0 1 z)<|dM z z z<|b_u ?_ ?_
  .have hy:=((h2.ag B).e h1).e G;have hz:=lt_ (lt_ h2.s h1.s) G.s;obtain ⟨_,bo,al⟩:=bdS ak;refine dE z z (fc call42 z<|f_f bo (zt' W hz)<|V.g hy) (.inr λ_ _ h=>x_<|h.1) ?_;rintro _ au ⟨s3,rfl,av⟩;refine b_u ?_ ?_
   .have aw:=hy.e s3;obtain ⟨rp,bp,bq,bt,bi⟩:=r_ al;refine dE z z (fc call66 z<|j_V bt (zt' W<|lt_ hz s3.s) ((((hG.e h2).e h1).e G).e s3) (V.g aw) av (Y.g aw)<|ii z) (.inr λ_ _ h=>x_<|h.1) ?_;rintro _ ax ⟨ay,az,aA,aB,bu,aC,aD,aE,bv,rfl,bw,aF,aG,bx,bz,a1,aH⟩;refine dM z z z ?_
    iterate 3 refine dR z z (ext_ z z) ?_
    refine dE z z (fa a_q) (.inr λ_ _ h=>x_<|h.2.below) ?_;rintro _ bA ⟨rfl,aI⟩;have a2:=aI.below;have a3:=lt_ G.s s3.s;have a4:=m1<|lt_ a3 ay.s
    refine dE0 z (fs0 (cur':=[vI rp.number,sl az aA aB,sl aC aD aE]) n_ z z (aI.blk:Blk bA ax.z [vI 0,sN,sN]) z z z z) (.inr λ_ _ h=>d_f (atp a4) h.2) ?_;rintro _ _ ⟨bB,bC⟩;have a5:=bC.one;refine dQ z z z<|dQ z z z<|pD ?_
    have aJ:=mnr<|b_.lt aF
    have aK:=mnr<|b_.lt aG
    exact λ_ q=>⟨rp.number,rp.bytes,rp.items,bp,bq,som bi,az,aA,aB,bu,aC,aD,aE,bv,ax.z,q.k<|s5 z z z z z,bM (bup (bup (bup G s3) ay) a2) a5 a4,bw,(aF.e a2).c a5<|ds aJ,nl_ a1,p_ (al_ aH) a3,(aG.e a2).c a5<|ds aK,nr_ a1,p_ (ar_ aH) a3,ds<|nj a1,bx,bz,bB,atp a4,ds aJ,ds aK⟩
   refine dE z z (fa a_q) (.inr λ_ _ h=>x_<|h.2.below) ?_;rintro _ bD ⟨rfl,aL⟩;have hk:=aL.below;have a6:Blk bD au.z [vI 0,sN,sN]:=aL.blk;have aM:=(hy.e s3).e hk;obtain ⟨rq,bE,bF,bG,bj⟩:=r_ al;refine dE z z (fc call66 z<|j_V bG (zt' W<|lt_ (lt_ hz s3.s) hk.s) (((((hG.e h2).e h1).e G).e s3).e hk) (V.g aM) av (Y.g aM)<|ii z) (.inr λ_ _ h=>x_<|h.1) ?_;rintro _ _ ⟨aN,aO,aP,aQ,bH,aR,aS,aT,bI,rfl,bJ,bK,bL,bN,bO,a7,ht⟩;refine dM z z z ?_
   iterate 3 refine dR z z (ext_ z z) ?_
   have aU:=lt_ G.s s3.s;have a8:=m1 aU;refine dE0 z (fs0 (cur':=[vI rq.number,sl aO aP aQ,sl aR aS aT]) n_ z z (a6.e aN) z z z z) (.inr λ_ _ h=>d_f (atp a8) h.2) ?_;rintro _ _ ⟨bQ,bR⟩;have a9:=bR.one;refine dQ z z z<|dQ z z z<|pD ?_
   have aV:=l_ (al_ ht) a6.lt lr;have aW:=lt_ aU hk.s;have aX:=l_ (ar_ ht) a6.lt lr;exact λ_ q=>⟨rq.number,rq.bytes,rq.items,bE,bF,som bj,aO,aP,aQ,bH,aR,aS,aT,bI,au.z,q.k<|s5 z z z z z,bM (bup (bup (bup G s3) hk) aN) a9 a8,bJ,bK.c a9 aV,nl_ a7,p_ (al_ ht) aW,bL.c a9 aX,nr_ a7,p_ (ar_ ht) aW,ds<|nj a7,bN,bO,bQ,atp a8,aV,aX⟩
  refine dE z z (fa a_q) (.inr λ_ _ h=>x_<|h.2.below) ?_;rintro _ bS ⟨rfl,aY⟩;have hl:=aY.below;have aa:Blk bS aq.z [vI 0,sN,sN]:=aY.blk;have aZ:=(((h2.ag B).e h1).e G).e hl;have b0:=lt_ (lt_ (lt_ h2.s h1.s) G.s) hl.s;obtain ⟨_,bT,bk⟩:=bdS ak;refine dE z z (fc call42 z<|f_f bT (zt' W b0)<|V.g aZ) (.inr λ_ _ h=>x_<|h.1) ?_;rintro _ _ ⟨s6,rfl,bU⟩;have b1:=aZ.e s6;obtain ⟨rr,bV,bW,bX,bm⟩:=r_ bk;refine dE z z (fc call66 z<|j_V bX (zt' W<|lt_ b0 s6.s) (((((hG.e h2).e h1).e G).e hl).e s6) (V.g b1) bU (Y.g b1)<|ii z) (.inr λ_ _ h=>x_<|h.1) ?_;rintro _ _ ⟨b2,b3,b4,b5,bY,b6,b7,b8,bZ,rfl,c0,c1,c2,c3,c4,ab,hu⟩;refine dM z z z ?_
  iterate 3 refine dR z z (ext_ z z) ?_
  have ad:=m1 G.s;refine dE0 z (fs0 (cur':=[vI rr.number,sl b3 b4 b5,sl b6 b7 b8]) n_ z z ((aa.e s6).e b2) z z z z) (.inr λ_ _ h=>d_f (atp ad) h.2) ?_;rintro _ _ ⟨c5,c6⟩;have af:=c6.one;refine dQ z z z<|dQ z z z<|pD ?_
  have b9:=l_ (al_ hu) aa.lt s6.s;have ba:=lt_ (lt_ G.s hl.s) s6.s;have bb:=l_ (ar_ hu) aa.lt s6.s;exact λ_ q=>⟨rr.number,rr.bytes,rr.items,bV,bW,som bm,b3,b4,b5,bY,b6,b7,b8,bZ,aq.z,q.k<|s5 z z z z z,bM (bup (bup (bup G hl) s6) b2) af ad,c0,c1.c af b9,nl_ ab,p_ (al_ hu) ba,c2.c af bb,nr_ ab,p_ (ar_ hu) ba,ds<|nj ab,c3,c4,c5,atp ad,b9,bb⟩
 rintro c7 ws ⟨xb,xw,xx,xc,xd,rfl,ae,nf,cg,J,ah,ni,cj,L,O,_,sm,c8,c9,ca,bc,cb,cc,be,cd,bf,ce,cf,_,_,_⟩;revert c7;refine Wo<|Wq<|Wq ?_
 obtain ⟨ch,am,an⟩:=bdS<|c_z bh;refine Wt (λa w=>∃(ai:Bool),ai=ch/\Sat 32 [(4,pt wn.z),(7,pt O),(8,vI xc),(9,vI xd),(26,vB ai)] a/\Below ws.z ws w) ?_ ?_
 .refine Wg<|Rm z<|Rq z z z<|Rm z ?_
  rcases bs (xd==0) with H | H
  .exact Rh z H (mv z)<|Rh z H (mv z)<|Rh z H (lnR s_ z<|Y.g<|((h2.ag B).e h1).e sm)<|Rh z H (lss z z)<|R z (pT z H z)<|Wl (λ_ q=>⟨decide<|xc<(x2.length:Int),som<|ifT am H,q.k<|s5 z z z z z,br ws⟩)
  iterate 4 refine Nh z H ?_
  exact R z (pF z H z)<|Wl (λ_ q=>⟨false,som<|ifF am H,q.k<|s5 z z z z z,br ws⟩)
 rintro ci _ ⟨ai,rfl,_,sa⟩;revert ci;refine Wo<|Wc z (λa0=>?_) (λa0=>?_)
 .refine Ws<|R z (bP (parts:=[]) (cs:=[vI 0,sN,sN]) a_7 z z)<|Rm z<|E0 (fs0 (cur':=[vI 0,sN,sN]) n_ z z ((ho.e sm).e sa) z z z z) ?_
  rintro _ _ ⟨ck,cl⟩;refine Ra z<|Rw z ?_
  obtain rfl:=som<|ifT an a0;exact Wr<|L_ hr (v_ I_ n_ z ck z) z z ⟨bM (bup (bup (bup h2 h1) sm) sa) cl.one<|m1 h2.s,none,0,0,[],none,0,0,[],z,ii z,onL,onL,bf,ii z,nd0,al0⟩
 refine Wk<|Ws<|R z (lN (vs:=[vI xb,sl ae nf cg,sl ah ni cj]) I_ n_ z z fid<|(cf.e sa).row 0 3 z)<|RM z z<|E0 (fs0 (cur':=[vI xb,sl ae nf cg,sl ah ni cj]) n_ z z ((ho.e sm).e sa) z z z z) ?_
 rintro _ _ ⟨cm,cn⟩;have aj:=cn.one;refine Ra z<|Rw z ?_
 obtain rfl:=som<|ifF an a0;have bg:=lt_ h2.s h1.s;exact Wr<|L_ hr (v_ I_ n_ z cm z) z z ⟨bM (bup (bup (bup h2 h1) sm) sa) aj<|m1 h2.s,ae,nf,cg,J,ah,ni,cj,L,z,c8,(c9.e sa).c aj<|l_ bc ho.lt lr,(cb.e sa).c aj<|l_ be ho.lt lr,bf,ce,na_ ca cc<|ds cd,aa_ (p_ bc bg)<|p_ be bg⟩
theorem W_w2z {x1:g_}{x2:Bt}{res:Bool}(hm:f_L n x1 x2=some res)(J:B<=w0.z)(hG:Gl w0 B)(H:repS w0 B (sl A0 N0 C0) x1.rules)(I:repS w0 B (sl A6 N6 C6) x2):q_ prog 22 [(.agg #[sl A0 N0 C0]),sl A6 N6 C6] w0 (Q0 w0 B res):=by
 unfold f_L at hm
 refine goG func22 z z z λfn hr=>Ws<|E z (fb z) ?_
 rintro _ O ⟨rfl,h1⟩;have G:=h1.below;refine Rw z<|Ws<|R z (lN (vs:=[sl A0 N0 C0]) B_ w_ z z fid<|(h1.blk:Blk O w0.z [sl A0 N0 C0]).row 0 1 z)<|Rm z ?_
 obtain ⟨V,_,_,W,L⟩:=r_ hm;refine E z (fc call46 z<|W_w2y W (zt' J G.s) (hG.e G) (H.e G)<|I.e G) ?_;rintro _ Y ⟨s2,aa,nb,cc,_,ad,ne,cf,_,rfl,_,_,_,_,_,_,_⟩;refine Rm z ?_
 iterate 3 refine Re z z z ?_
 refine E z (fa a_q) ?_;rintro _ wg ⟨rfl,h3⟩;refine E0 (fs0 (cur':=[vI V.number,sl aa nb cc,sl ad ne cf]) n_ z z (h3.blk:Blk wg Y.z [vI 0,sN,sN]) z z z z) ?_;rintro _ _ ⟨_,si⟩;refine Ra z<|Rw z<|Wm z<|Rq z z z<|Rw z ?_
 obtain rfl:=som L;exact Wr<|i_ hr z ⟨bM (bup (bup G s2) h3.below) si.one<|m1<|lt_ G.s s2.s,z⟩
theorem W_w30 {x1:g_}{x2:Bt}{res:Bt×Bool}(hm:f_n n x1 x2=some res)(I:B<=w0.z)(hG:Gl w0 B)(J:repS w0 B (sl A0 N0 C0) x1.rules)(a2:repS w0 B (sl A6 N6 C6) x2):q_ prog 6 [(.agg #[sl A0 N0 C0]),sl A6 N6 C6] w0 (Q14 w0 B res):=by
 unfold f_n at hm
 refine goG func6 z z z λfn hr=>Ws<|E z (fb z) ?_
 rintro _ wu ⟨rfl,a8⟩;have h4:=a8.below;have hb:Blk wu w0.z [sl A0 N0 C0]:=a8.blk;refine Ra z<|Rw z<|Ws<|E z (f0 (α:=UInt8) H_) ?_
 rintro _ _ ⟨_,_,_,rfl,s7,aU⟩;refine Rm z ?_;obtain ⟨_,aV,aG⟩:=bdS hm;have hv:=(h4.ag B).e s7;refine E z (fN (α:=UInt8) H_ aV z z aU a_p<|a2.g hv) ?_;rintro _ H ⟨G,ad,ne,cf,rfl,s8,aW,aX,hg⟩;refine Rw z<|Wq<|Wm z<|Wn ?_
 obtain ⟨_,aH,a3⟩:=bdS aG;refine Wf (σ:=Bt) (ρ:=Bt×Bool) (λ(kw:Nat)(xh:Bt) a w=>∃(S2:List Nat),Sat 51 [(1,sl A6 N6 C6),(2,pt w0.z),(6,sl ad ne cf),(14,vI ((kw:Nat):Int))] a/\Cg G H w/\b_ w S2 (sl ad ne cf) xh/\S2.Nodup/\(∀k∈S2,k∈G∨H.z<=k)) (λ(xh:Bt) a w=>∃(S2:List Nat),Sat 51 [(1,sl A6 N6 C6),(2,pt w0.z),(6,sl ad ne cf)] a/\Cg G H w/\b_ w S2 (sl ad ne cf) xh/\S2.Nodup/\(∀k∈S2,k∈G∨H.z<=k)) (rQ prog fn<|Q14 w0 B) aH ?_ ?_ ?_ ?_ ?_
 .exact λ_ q=>⟨G,q.k<|s4 z z z z,cr G H,aW,aX,io sr⟩
 .rintro kw xh _ wl _ a4 ⟨S2,aI,s9,h3,hi,hj⟩ aJ;refine Wu ?_ aI;refine Ws<|Rl z z z<|Wn<|Wq<|Wc z (λ_=>?_) (λhc=>(f_2 a4 hc).elim)
  refine Wk<|Wq<|Wb<|Ws ?_
  have a9:=mmr hb.lt;have aa:=((hb.e s7).c s8<|djs a9).c s9<|djs (or1 hg a9 (k_ (a_ hb.lt) s7.s):∀k∈G,k∉[w0.z])
  refine R z (lN (vs:=[sl A0 N0 C0]) B_ w_ z z fid<|aa.row 0 1 z)<|Rm z ?_
  have hx:∀k∈[wu.z],¬B k:=or0 (a_ lr)<|m_<|zt' I h4.s;have ab:=lt_ h4.s s7.s;have ae:∀k∈G,¬B k:=or1 hg hx<|m_<|zt' I ab;have af:=(hv.c s8<|c_ hx).c s9<|c_ ae
  have ah:=lt_ (lt_ ab s8.s) s9.s;have hy:=zt' I ah;obtain ⟨rr,aY,a5⟩:=bdS aJ;refine E z (fc call19 z<|W_w2l (B:=wl.z) aY zr (((((hG.e h4).e s7).c s8<|c_ hx).c s9<|c_ ae).mono hy) (repS.mono (J.g af) hy)<|b_.rep h3) ?_;rintro _ wc ⟨s5,rfl,_,_,aZ,_⟩;refine E z (fa j_q) ?_;rintro _ wz ⟨rfl,ai⟩;have h6:=ai.below;refine E0 (fs0 (cur':=[vI rr.code,vI rr.position,Str.v rr.path,vI rr.rule]) z_49 z z (ai.blk:Blk wz wc.z [vI 0,vI 0,Str.v (⟨[]⟩:Str),vI 0]) z z z z) ?_;rintro _ aj ⟨W,b0⟩;have ha:=b0.one;refine Wn<|Wq<|Ws<|Rf z f_49_0 z<|R z (l0 g_3 z<|W.at z)<|R z (nq z z)<|Wx z (λL=>?_) (λL=>?_)
  .have b1:∀k∈S2,k∈G∨H.z<=k:=or1 hj (io sr)<|o_ lr;exact We<|exO z (λ_ q=>b_n (som<|ifT a5 L).symm ⟨S2,q.k<|s3 z z z,(cM (e_ (e_ (cM (cr G H) s9 (io sr):Cg G H wl) s5:Cg G H wc) h6:Cg G H wz) ha (mor (lt_ s9.s s5.s):∀k∈[wc.z],k∈G∨H.z<=k):Cg G H aj),((h3.e s5).e h6).c ha<|ds<|mno (b_.lt h3) s5.s,hi,b1⟩)
  refine Wk<|Ws<|Rw z<|Wq<|Ws<|R z (lN (vs:=[sl A0 N0 C0]) B_ w_ z z fid<|(((aa.e s5).e h6).c ha<|djs<|mm1 hb.lt<|lt_ (lt_ (lt_ s7.s s8.s) s9.s) s5.s).row 0 1 z)<|Rm z<|Rf z l_e z<|R z (l0 g_9 z<|W.at z) ?_
  have ak:=((h3.e s5).e h6).c ha<|ds<|mno (b_.lt h3) s5.s
  have al:=lt_ (lt_ s5.s h6.s) ha.s;obtain ⟨b2,_,b3,aK⟩:=a_9<|ifF a5 L;refine E z (fc call20 z<|W_w2w (B:=wl.z) b3 (b_a al) (repS.mono (J.g<|((af.e s5).e h6).c ha<|c_ (or0 (a_ lr) (m_<|zt' I<|lt_ ah s5.s):∀k∈[wc.z],¬B k)) hy) (or_ ak<|b_.lt h3) aZ) ?_;rintro _ wm ⟨sn,rfl,b4⟩;refine Rm z<|Re z z z<|Re z z z<|Ra z<|Rw z<|Wm z<|Wn ?_
  obtain ⟨b5,a6,aL⟩:=bdS aK;refine Wt (λa w=>∃(xs:Int),xs=b5/\Sat 51 [(1,sl A6 N6 C6),(2,pt w0.z),(6,sl ad ne cf),(7,pt wc.z),(8,vI xs),(14,vI ((kw:Nat):Int))] a/\Below wm.z wm w/\inI xs) ?_ ?_
  .refine Wc z (λO=>?_)<|λO=>?_
   .exact Wg<|Rm z<|Ra z<|Wl (λ_ q=>⟨b2,som<|ifT a6 O,q.k<|s6 z z z z z z,br wm,b4⟩)
   exact a_c<|λ_ q=>⟨0,som<|ifF a6 O,q.k<|s6 z z z z z z,br wm,ii z⟩
  rintro b6 b7 ⟨xs,rfl,_,so,_⟩;revert b6;refine Wo (Wd (X:=noX) 2048 (pl_ 12 [8,11]) mo (by kernel_rfl) λb8 sp _=>dM z z z<|dR z z (fd l_d z) ?_);have am:=((W.e sn).e so).e sp;refine dR z z (l0 g_3 z<|am.at z)<|dM z z z<|dM z z z<|dR z z (fd l_d z)<|dR z z (l0 g_3 z<|am.at z) ?_
  obtain ⟨_,b9,aM⟩:=bdS aL;have an:=((ak.e sn).e so).e sp;refine dRX z z (rX s_ z_5 z z (or_ an<|b_.lt h3) z z b9) ?_;rintro _ ⟨_,_,_,rfl,ba⟩;obtain ⟨_,bb,aN⟩:=bdS aM;refine dE z z (fc call21 z<|j_F (B:=wl.z) bb (b_a<|lt_ (lt_ (lt_ al sn.s) so.s) sp.s) ba) (.inr λ_ _ h=>x_<|h.1) ?_;rintro _ bc ⟨Y,rfl,_⟩;refine dR z z (b_G d_3 d_5 z) ?_;obtain ⟨be,ao,aO⟩:=bdS aN;have ap:=an.e Y;refine dRX z z (e_o (α:=UInt8) s_ z_5 z z ap ao) ?_;rintro _ ⟨_,bf,rfl⟩;refine dE0 z (e_p (α:=UInt8) z_5 z bf z z z ao ap hi a_t an_ z_) (.inl z) ?_;rintro _ bg ⟨aq,bh,bi,bj,bk⟩;refine pD<|Wo<|Wg<|R z (inc_ a4 (tl_<|ii z) z z)<|Rm z<|Wl ?_
  have ar:=lt_ s9.s s5.s;have au:∀k∈S2,k∈G∨H.z<=k:=or1 hj (io sr)<|o_ lr;exact λ_ q=>⟨be,(som aO).symm,⟨aq,q.k<|s4 z z z z,(cM (e_ (e_ (e_ (e_ (cM (e_ (e_ (cM (cr G H) s9 (io sr):Cg G H wl) s5:Cg G H wc) h6:Cg G H wz) ha (mor ar:∀k∈[wc.z],k∈G∨H.z<=k):Cg G H aj) sn:Cg G H wm) so:Cg G H b7) sp:Cg G H b8) Y:Cg G H bc) bh au:Cg G H bg),bi,bj,(or2 bk au an_ (o_<|lt_ (lt_ (lt_ (lt_ (lt_ (lt_ ar h6.s) ha.s) sn.s) so.s) sp.s) Y.s):∀k∈aq,k∈G∨H.z<=k)⟩⟩
 .rintro xh _ bm ⟨S2,aP,bn,h3,hi,hj⟩;refine Wu ?_ aP;refine Ws<|Rl z z z<|Wn<|Wq<|Wc z (λhc=>(f_3 hc).elim) (λ_=>?_)
  exact We<|λ_ q=>⟨rfl,⟨S2,q.k<|s3 z z z,(cM (cr G H) bn (io sr):Cg G H bm),h3,hi,(or1 hj (io sr) (o_ lr):∀k∈S2,k∈G∨H.z<=k)⟩⟩
 .rintro xh bo bp rfl ⟨S2,_,sk,h3,hi,hj⟩;have aQ:=elL a3;revert bo;refine Wo<|Wq<|Ws ?_
  have av:=mmr hb.lt;refine R z (lN (vs:=[sl A0 N0 C0]) B_ w_ z z fid<|(((hb.e s7).c s8<|djs av).c sk<|djs (or1 hg av (k_ (a_ hb.lt) s7.s):∀k∈G,k∉[w0.z])).row 0 1 z)<|Rm z ?_
  have a0:∀k∈[wu.z],¬B k:=or0 (a_ lr)<|m_<|zt' I h4.s;have ht:=lt_ h4.s s7.s;have aw:∀k∈G,¬B k:=or1 hg a0<|m_<|zt' I ht;have ax:=(hv.c s8<|c_ a0).c sk<|c_ aw
  have ay:=lt_ ht s8.s;have az:=lt_ ay sk.s;have aA:=zt' I az;obtain ⟨_,bq,a7⟩:=bdS aQ;refine E z (fc call22 z<|W_w2z (B:=bp.z) bq zr (((((hG.e h4).e s7).c s8<|c_ a0).c sk<|c_ aw).mono aA) (repS.mono (J.g ax) aA)<|b_.rep h3) ?_;rintro _ _ ⟨sq,rfl⟩;refine Wx z (λV=>?_) (λV=>?_)
  .refine Wm z<|Ra z<|Rw z ?_
   obtain rfl:=som<|ifT a7 V;have aB:=m1 h4.s;have aC:=a_0 hg aB ht;exact Wr<|a_e hr z z ⟨bup (bM (bM (bup h4 s7) s8 aB) sk aC) sq,ad,ne,cf,S2,z,h3.e sq,hi,a_0 hj aC ay⟩
  refine Wk<|Ws<|E z (f0 (α:=UInt8) H_) ?_
  rintro _ _ ⟨_,_,_,rfl,a1,bs⟩;refine Rm z ?_;obtain ⟨_,bt,aR⟩:=bdS<|ifF a7 V;refine E z (fN (α:=UInt8) H_ bt z z bs a_p<|a2.g<|(ax.e sq).e a1) ?_;rintro _ _ ⟨bu,bv,bw,bx,rfl,bz,bA,bB,bC⟩;refine Ra z<|Rw z ?_
  obtain rfl:=som aR;have aD:=m1 h4.s;have aE:=lt_ az sq.s;have aF:=m1 aE;exact Wr<|a_e hr z z ⟨bM (bup (bup (bM (bM (bup h4 s7) s8 aD) sk<|a_0 hg aD ht) sq) a1) bz aF,bv,bw,bx,bu,z,bA,bB,a_0 bC aF<|lt_ aE a1.s⟩
 rintro _ _ _ _ rfl ⟨rfl,aS⟩;have aT:=elR a3;obtain rfl:=som aT;exact ⟨aS,z⟩
theorem W_w1s {x1:g_}{res:Int}(hm:g_W x1=some res)(J:B<=w0.z)(H:repS w0 B (sl A0 N0 C0) x1.rules):q_ prog 48 [(.agg #[sl A0 N0 C0])] w0 (Q9 w0 B res):=by
 unfold g_W at hm
 refine goG func48 z z z λfn hr=>Ws<|E z (fb z) ?_
 rintro _ I ⟨rfl,G⟩;have h1:=G.below;refine Rw z<|Ws<|Rf z T_ z<|R z (l0 V_ z<|(G.blk:Blk I w0.z [sl A0 N0 C0]).at z)<|R z (lnR N_ z<|H.e h1)<|R z (sb_ z z)<|Rw z ?_
 obtain rfl:=som hm;exact Wr<|i_ hr z ⟨h1,z,iS _ _⟩
theorem W_w1t {x1:Str}{res:Bool}(hm:f_z x1=some res)(a9:B<=w0.z)(Y:x1.b.length<=LEN):q_ prog 129 [Str.v x1] w0 (Q0 w0 B res):=by
 unfold f_z at hm
 refine goG func129 z z z λfn hr=>Ws<|Rw z<|Wq<|Ws<|Rw z ?_
 obtain ⟨_,hus,hmc⟩:=bdS hm;refine Wf (σ:=Unit) (ρ:=Bool) (λ(k4:Nat)(_:Unit) a w=>Sat 45 [(0,Str.v x1),(3,vI ((k4:Nat):Int))] a/\Below w0.z w0 w) (λ(_:Unit) a w=>Sat 45 [(0,Str.v x1)] a/\Below w0.z w0 w) (rQ prog fn<|Q0 w0 B) hus ?_ ?_ ?_ ?_ ?_
 .exact λ_ q=>⟨q.k<|s2 z z,br w0⟩
 .rintro k4 _ _ O _ hkd ⟨hSt,se⟩ hmu;refine Wu ?_ hSt;refine Wq<|Wm z<|Rm z<|R z (lnT d_9 z)<|Rl z z z<|Wx z (λ_=>?_) (λhc=>(a_n hkd hc).elim)
  refine Wk<|Wq<|Wb<|Wq ?_
  obtain ⟨uv,huw,hmx⟩:=bdS hmu;refine Wt (λa w=>∃(x5:Bool),x5=uv/\Sat 45 [(0,Str.v x1),(3,vI ((k4:Nat):Int)),(4,vB x5)] a/\Below O.z O w) ?_ ?_
  .refine Wg<|RM z z ?_
   obtain ⟨xy,ef,hmg⟩:=bdS huw;refine R z (c_X d_9 z z (a_M ef).1 (a_M ef).2.1)<|R z (b_z z z)<|Rm z ?_
   rcases bs (decide<|(byteI (97:UInt8))<=(byteI xy)) with H | H
   .refine Rh z H (mv z)<|Rh z H (mv z) ?_
    obtain ⟨xz,eh,a0⟩:=bdS<|ifT hmg H;exact Rh z H (c_X d_9 z z (a_M eh).1 (a_M eh).2.1)<|Rh z H (c_F z z)<|R z (pT z H z)<|Ra z<|Wl (λ_ q=>⟨decide<|(byteI xz)<=(byteI (122:UInt8)),som a0,q.k<|s3 z z z,br O⟩)
   iterate 4 refine Nh z H ?_
   exact R z (pF z H z)<|Ra z<|Wl (λ_ q=>⟨false,som<|ifF hmg H,q.k<|s3 z z z,br O⟩)
  rintro aa V ⟨x5,rfl,_,si⟩;revert aa;refine Wo<|Wq ?_
  obtain ⟨ab,a1,a2⟩:=bdS hmx;refine Wt (λa w=>∃(W:Bool),W=ab/\Sat 45 [(0,Str.v x1),(3,vI ((k4:Nat):Int)),(4,vB x5),(5,vB W)] a/\Below V.z V w) ?_ ?_
  .refine Wg<|RM z z ?_
   obtain ⟨ad,ej,hmk⟩:=bdS a1;refine R z (c_X d_9 z z (a_M ej).1 (a_M ej).2.1)<|R z (b_z z z)<|Rm z ?_
   rcases bs (decide<|(byteI (48:UInt8))<=(byteI ad)) with I | I
   .refine Rh z I (mv z)<|Rh z I (mv z) ?_
    obtain ⟨ae,el,a3⟩:=bdS<|ifT hmk I;exact Rh z I (c_X d_9 z z (a_M el).1 (a_M el).2.1)<|Rh z I (c_F z z)<|R z (pT z I z)<|Ra z<|Wl (λ_ q=>⟨decide<|(byteI ae)<=(byteI (57:UInt8)),som a3,q.k<|s4 z z z z,br V⟩)
   iterate 4 refine Nh z I ?_
   exact R z (pF z I z)<|Ra z<|Wl (λ_ q=>⟨false,som<|ifF hmk I,q.k<|s4 z z z z,br V⟩)
  rintro af L ⟨W,rfl,_,sm⟩;revert af;refine Wo<|Wq ?_
  obtain ⟨ah,hun,hmo⟩:=bdS a2;refine Wt (λa w=>∃(xa:Bool),xa=ah/\Sat 45 [(0,Str.v x1),(3,vI ((k4:Nat):Int)),(41,vB xa)] a/\Below L.z L w) ?_ ?_
  .refine Wg<|Rm z<|R z (not_ z)<|Rm z ?_
   rcases bs (!x5) with G | G
   .have hmp:=ifT hun G;refine Rh z G (mv z)<|Rh z G (not_ z)<|Rh z G (mv z) ?_
    rcases bs (!W) with J | J
    .exact Nh z J<|Nh z J<|Rh z G (pT z J z)<|R z (pT z G z)<|Wl (λ_ q=>⟨true,som<|ifT hmp J,q.k<|s3 z z z,br L⟩)
    exact Rh z J (mv z)<|Rh z J (eql z z)<|Rh z G (pF z J z)<|R z (pT z G z)<|Wl (λ_ q=>⟨((k4:Nat):Int)==0,som<|ifF hmp J,q.k<|s3 z z z,br L⟩)
   iterate 3 refine Nh z G ?_
   exact Nv z<|Nv z<|Nh z G<|R z (pF z G z)<|Wl (λ_ q=>⟨false,som<|ifF hun G,q.k<|s3 z z z,br L⟩)
  rintro ai _ ⟨xa,rfl,_,sq⟩;revert ai;refine Wo<|Wc z (λhcb=>?_) (λhcb=>?_)
  .exact Ws<|Rw z<|Wr<|rtO<|qL (som<|ifT hmo hcb).symm<|i_ hr z ⟨bup (bup (bup se si) sm) sq,z⟩
  exact Wk<|Wg<|Rm z<|R z (inc_ hkd (lt_ Y X_) z z)<|Ra z<|Wl (λ_ q=>⟨(),(som<|ifF hmo hcb).symm,⟨q.k<|s2 z z,bup (bup (bup se si) sm) sq⟩⟩)
 .rintro _ _ _ ⟨a4,aj⟩;refine Wu ?_ a4;refine Wq<|Wm z<|Rm z<|R z (lnT d_9 z)<|Rl z z z<|Wx z (λhc=>(a_o hc).elim) (λ_=>?_)
  exact We<|λ_ q=>⟨rfl,⟨q.k<|s1 z,aj⟩⟩
 .rintro _ ak _ rfl ⟨_,sr⟩;have a5:=elL hmc;revert ak;refine Wo<|Wm z<|R z (lnT d_9 z) ?_
  obtain ⟨_,al,a6⟩:=bdS a5;refine E z (fc call54 z<|b_j al (zt' a9 sr.s) (b_2 Y) (ii z)<|ii z) ?_;rintro _ _ ⟨am,rfl⟩;refine Rw z ?_
  obtain rfl:=som a6;exact Wr<|i_ hr z ⟨bup sr am,z⟩
 rintro _ _ _ _ rfl ⟨rfl,a7⟩;have a8:=elR hmc;obtain rfl:=som a8;exact ⟨a7,z⟩
theorem d_o {x1:d_}{x2:Bool}{x3:Bool}{x4:Bool}{x5:Bool}{x6:Int}{res:Bool}(hm:c_g x1 x2 x3 x4 x5 x6=some res)(af:B<=w0.z)(aa:x1.name.b.length<=LEN)(ab:inI x1.kind)(ad:inI x1.size)(a1:repS w0 B (sl A9 N9 C9) x1.bytes)(a2:repS w0 B (sl A8 N8 C8) x1.names)(a3:repS w0 B (sl AA NA CA) x1.tags)(a4:repS w0 B (sl AB NB CB) x1.kids)(ae:inI x6):q_ prog 133 [(.agg #[Str.v x1.name,vI x1.kind,vI x1.size,vB x1.little,sl A9 N9 C9,sl A8 N8 C8,sl AA NA CA,sl AB NB CB]),vB x2,vB x3,vB x4,vB x5,vI x6] w0 (Q0 w0 B res):=by
 unfold c_g at hm
 refine goG func133 z z z λfn hr=>Ws<|E z (fb z) ?_
 rintro _ wc ⟨rfl,hf⟩;have hd:=hf.below;have hb:Blk wc w0.z (vR x1 A9 N9 C9 A8 N8 C8 AA NA CA AB NB CB):=hf.blk;refine Rw z<|Wq ?_
 obtain ⟨uw,hux,hmy⟩:=bdS hm;refine Wt (λa w=>∃(xe:Bool),xe=uw/\Sat 67 [(12,vB xe)] a/\Below wc.z wc w) ?_ ?_
 .refine Wg<|RM z z ?_
  obtain ⟨ug,huh,hmz⟩:=bdS hux;refine d_8 18 ug 4 ?_ ?_
  .rcases bs x2 with a0 | a0
   .iterate 3 refine Nh z a0 ?_
    exact R z (pT z a0 z)<|WLq 4 (ifT huh a0) z z z
   exact Rh z a0 (fd a_W z)<|Rh z a0 (l0 g_3 z<|hb.at z)<|Rh z a0 (eql z z)<|R z (pF z a0 z)<|WLq 4 (ifF huh a0) z z z
  refine Rm z ?_;obtain ⟨ui,huj,a5⟩:=bdS hmz;refine d_8 27 ui 8 ?_ ?_
  .rcases bs ug with H | H
   .have hmk:=ifT huj H;refine Rh z H (mv z)<|Rh z H (mv z) ?_
    rcases bs x3 with V | V
    .iterate 4 refine Nh z V ?_
     exact Rh z H (pT z V z)<|R z (pT z H z)<|WLq 8 (ifT hmk V) z z z
    exact Rh z V (fd a_N z)<|Rh z V (l0 U_ z<|hb.at z)<|Rh z V (lnR s_ z<|a1.e hd)<|Rh z V (eql z z)<|Rh z H (pF z V z)<|R z (pT z H z)<|WLq 8 (ifF hmk V) z z z
   exact Nh z H<|Nh z H<|Nv z<|Nv z<|Nv z<|Nv z<|Nh z H<|R z (pF z H z)<|WLq 8 (ifF huj H) z z z
  refine Rm z ?_;obtain ⟨ul,hum,a6⟩:=bdS a5;refine d_8 36 ul 8 ?_ ?_
  .rcases bs ui with I | I
   .have hmn:=ifT hum I;refine Rh z I (mv z)<|Rh z I (mv z) ?_
    rcases bs x4 with W | W
    .iterate 4 refine Nh z W ?_
     exact Rh z I (pT z W z)<|R z (pT z I z)<|WLq 8 (ifT hmn W) z z z
    exact Rh z W (fd b_x z)<|Rh z W (l0 b_8 z<|hb.at z)<|Rh z W (lnR a_X z<|a2.e hd)<|Rh z W (eql z z)<|Rh z I (pF z W z)<|R z (pT z I z)<|WLq 8 (ifF hmn W) z z z
   exact Nh z I<|Nh z I<|Nv z<|Nv z<|Nv z<|Nv z<|Nh z I<|R z (pF z I z)<|WLq 8 (ifF hum I) z z z
  refine Rm z ?_;obtain ⟨uo,hup,a7⟩:=bdS a6;refine d_8 45 uo 8 ?_ ?_
  .rcases bs ul with J | J
   .have hmq:=ifT hup J;refine Rh z J (mv z)<|Rh z J (mv z) ?_
    rcases bs x5 with Y | Y
    .iterate 4 refine Nh z Y ?_
     exact Rh z J (pT z Y z)<|R z (pT z J z)<|WLq 8 (ifT hmq Y) z z z
    exact Rh z Y (fd a_O z)<|Rh z Y (l0 C_ z<|hb.at z)<|Rh z Y (lnR A_ z<|a3.e hd)<|Rh z Y (eql z z)<|Rh z J (pF z Y z)<|R z (pT z J z)<|WLq 8 (ifF hmq Y) z z z
   exact Nh z J<|Nh z J<|Nv z<|Nv z<|Nv z<|Nv z<|Nh z J<|R z (pF z J z)<|WLq 8 (ifF hup J) z z z
  refine Rm z ?_;obtain ⟨ur,hus,hmt⟩:=bdS a7;refine d_8 56 ur 10 ?_ ?_
  .rcases bs uo with L | L
   .have hmu:=ifT hus L;refine Rh z L (mv z)<|Rh z L (lss z z)<|Rh z L (mv z) ?_
    rcases bs (decide<|x6<0) with O | O
    .iterate 5 refine Nh z O ?_
     exact Rh z L (pT z O z)<|R z (pT z L z)<|WLq 10 (ifT hmu O) z z z
    exact Rh z O (fd M_ z)<|Rh z O (l0 C_ z<|hb.at z)<|Rh z O (lnR A_ z<|a4.e hd)<|Rh z O (mv z)<|Rh z O (eql z z)<|Rh z L (pF z O z)<|R z (pT z L z)<|WLq 10 (ifF hmu O) z z z
   iterate 3 refine Nh z L ?_
   exact Nv z<|Nv z<|Nv z<|Nv z<|Nv z<|Nh z L<|R z (pF z L z)<|WLq 10 (ifF hus L) z z z
  refine Rm z ?_
  rcases bs ur with G | G
  .have hmv:=ifT hmt G;refine Rh z G (fd c_2 z)<|Rh z G (l0 g_4 z<|hb.at z)<|Rh z G (not_ z)<|Rh z G (mv z) ?_
   rcases bs (!x1.little) with hca | hca
   .iterate 3 refine Nh z hca ?_
    exact Rh z G (pT z hca z)<|R z (pT z G z)<|Ra z<|Wl (λ_ q=>⟨true,som<|ifT hmv hca,q.k<|s1 z,br wc⟩)
   exact Rh z hca (fd a_V z)<|Rh z hca (l0 g_3 z<|hb.at z)<|Rh z hca (eql z z)<|Rh z G (pF z hca z)<|R z (pT z G z)<|Ra z<|Wl (λ_ q=>⟨x1.kind==1,som<|ifF hmv hca,q.k<|s1 z,br wc⟩)
  iterate 4 refine Nh z G ?_
  exact Nv z<|Nv z<|Nv z<|Nh z G<|R z (pF z G z)<|Ra z<|Wl (λ_ q=>⟨false,som<|ifF hmt G,q.k<|s1 z,br wc⟩)
 rintro a8 _ ⟨xe,rfl,_,a9⟩;revert a8;refine Wo ?_;obtain rfl:=som hmy;exact Wr<|i_ hr z ⟨bup hd a9,z⟩
theorem j_W {x1:g_}{x2:Int}{res:Int}(hm:e_H x1 x2=some res)(J:B<=w0.z)(I:repS w0 B (sl A0 N0 C0) x1.rules)(Y:inI x2):q_ prog 134 [(.agg #[sl A0 N0 C0]),vI x2] w0 (Q9 w0 B res):=by
 unfold e_H at hm
 refine goG func134 z z z λfn hr=>Ws<|E z (fb z) ?_
 rintro _ O ⟨rfl,W⟩;have h2:=W.below;have h6:Blk O w0.z [sl A0 N0 C0]:=W.blk;refine Rw z<|Wq<|Wq ?_
 obtain ⟨uf,hug,hma⟩:=bdS hm;refine Wt (λa w=>∃(V:Bool),V=uf/\Sat 39 [(1,vI x2),(2,pt w0.z),(30,vB V)] a/\Below O.z O w) ?_ ?_
 .refine Wg<|Rm z<|Rf z T_ z<|R z (l0 V_ z<|h6.at z)<|R z (lnR N_ z<|I.e h2)<|R z (sb_ z z) ?_
  obtain ⟨rh,ei,hmb⟩:=bdS hug;refine E z (fc call54 z<|b_j ei (zt' J h2.s) Y (ii z)<|iS _ _) ?_;rintro _ _ ⟨s4,rfl⟩;refine R z (not_ z)<|Rm z ?_
  rcases bs (!rh) with H | H
  .iterate 7 refine Nh z H ?_
   exact R z (pT z H z)<|Rm z<|Nh z z<|Nh z z<|Nh z z<|Nh z z<|Nh z z<|Nh z z<|Nh z z<|Nh z z<|R z (pT z z z)<|Wl (λ_ q=>⟨true,som<|ifT hmb H,q.k<|s3 z z z,s4⟩)
  refine Rh z H (fd T_ z) ?_;have hc:=h6.e s4;refine Rh z H (l0 V_ z<|hc.at z)<|Rh z H (mv z) ?_
  obtain ⟨xj,ek,hmd⟩:=bdS<|ifF hmb H;have he:=I.g<|(h2.ag B).e s4
  refine RXg z z H z (at_ (α:=d_) N_ t_ z z z he ek) ?_;rintro _ ⟨_,_,_,rfl,hl,hn,_⟩;obtain ⟨_,_,_,_,_,_,_,_,_,_,_,_,rfl,_,_,_,_,_,_,_⟩:=a_T hn;refine Rh z H (fd a_V z)<|Rh z H (l0 g_3 z<|hl.at (j:=1) z)<|Rh z H (nq z z)<|R z (pF z H z)<|Rm z ?_
  rcases bs (xj.kind != 1) with G | G
  .iterate 8 refine Nh z G ?_
   exact R z (pT z G z)<|Wl (λ_ q=>⟨true,som<|ifT hmd G,q.k<|s3 z z z,s4⟩)
  refine Rh z G (fd T_ z)<|Rh z G (l0 V_ z<|hc.at z)<|Rh z G (mv z) ?_
  obtain ⟨_,em,hmo⟩:=bdS<|ifF hmd G;refine RXg z z G z (at_ (α:=d_) N_ t_ z z z he em) ?_;rintro _ ⟨_,_,_,rfl,hp,hq,_⟩;obtain ⟨_,_,_,_,_,_,_,_,_,_,_,_,rfl,_,_,ht,_,_,_,_⟩:=a_T hq;refine Rh z G (fd a_W z)<|Rh z G (l0 g_3 z<|hp.at (j:=2) z) ?_
  obtain ⟨rr,es,hmu⟩:=bdS hmo;refine Eg z z G z (fc call54 z<|b_j es (zt' J<|lt_ h2.s s4.s) ht (ii z)<|ii z) ?_;rintro _ _ ⟨sv,rfl⟩;exact Rh z G (not_ z)<|R z (pF z G z)<|Wl (λ_ q=>⟨!rr,som hmu,q.k<|s3 z z z,bup s4 sv⟩)
 rintro aw _ ⟨V,rfl,_,s5⟩;revert aw;refine Wo<|Wc z (λL=>?_) (λL=>?_)
 .refine Ws<|Rw z ?_
  obtain rfl:=som<|ifT hma L;exact Wr<|i_ hr z ⟨bup h2 s5,z,ii z⟩
 refine Wk<|Ws<|Rf z T_ z<|R z (l0 V_ z<|(h6.e s5).at z)<|Rm z ?_
 obtain ⟨_,ex,hmy⟩:=bdS<|ifF hma L;refine RX z (at_ (α:=d_) N_ t_ z z z (I.g<|(h2.ag B).e s5) ex) ?_;rintro _ ⟨_,_,_,rfl,hz,a1,_⟩;obtain ⟨_,_,_,_,_,_,_,_,_,_,_,_,rfl,_,_,a2,_,_,_,_⟩:=a_T a1;refine Rf z a_W z<|R z (l0 g_3 z<|hz.at (j:=2) z) ?_
 obtain ⟨_,a3,a0⟩:=bdS hmy;refine E z (fc call39 z<|j_v a3 (zt' J<|lt_ h2.s s5.s) a2) ?_;rintro _ _ ⟨a4,rfl,_⟩;refine R z (sb_ z z)<|Rw z ?_
 obtain rfl:=som a0;exact Wr<|i_ hr z ⟨bup (bup h2 s5) a4,z,iS _ _⟩
theorem W_w31 {x1:List Str}{x2:Str}{res:Bool}(hm:g_Q x1 x2=some res)(a0:B<=w0.z)(G:repS w0 B (sl A0 N0 C0) x1)(Y:x2.b.length<=LEN):q_ prog 142 [sl A0 N0 C0,Str.v x2] w0 (Q0 w0 B res):=by
 unfold g_Q at hm
 refine goG func142 z z z λfn hr=>Ws<|Rw z<|Wq<|Ws<|Rw z ?_
 obtain ⟨_,V,J⟩:=bdS hm;refine Wf (σ:=Unit) (ρ:=Bool) (λ(k3:Nat)(_:Unit) a w=>Sat 18 [(0,sl A0 N0 C0),(1,Str.v x2),(5,vI ((k3:Nat):Int))] a/\Below w0.z w0 w) (λ(_:Unit) a w=>Sat 18 [] a/\Below w0.z w0 w) (rQ prog fn<|Q0 w0 B) V ?_ ?_ ?_ ?_ ?_
 .exact λ_ q=>⟨q.k<|s3 z z z,br w0⟩
 .rintro k3 _ _ _ _ L ⟨W,I⟩ hma;refine Wu ?_ W;refine Wq<|Wm z<|Rm z ?_
  have h5:=G.e I;refine R z (lnR a_X z h5)<|Rl z z z<|Wx z (λ_=>?_) (λhc=>(a_n L hc).elim)
  refine Wk<|Wq<|Wb<|Wm z<|Rm z ?_
  obtain ⟨_,eb,O⟩:=bdS hma;refine RX z (at_ (α:=Str) a_X z_9 z z z h5 eb) ?_;rintro _ ⟨_,_,_,rfl,hd,he,_⟩;obtain ⟨rfl,_⟩:=c_y he;refine R z (l0 g_9 z<|hd.at0 z)<|Rm z<|R z (c_a z z)<|Wx z (λH=>?_) (λH=>?_)
  .exact Ws<|Rw z<|Wr<|rtO<|qL (som<|ifT O H).symm<|i_ hr z ⟨I,z⟩
  exact Wk<|Wg<|Rm z<|R z (inc_ L (lt_ (repS.len G) X_) z z)<|Ra z<|Wl (λ_ q=>⟨(),(som<|ifF O H).symm,⟨q.k<|s3 z z z,I⟩⟩)
 .rintro _ _ _ ⟨hSc,s7⟩;refine Wu ?_ hSc;refine Wq<|Wm z<|Rm z<|R z (lnR a_X z<|G.e s7)<|Rl z z z<|Wx z (λhc=>(a_o hc).elim) (λ_=>?_)
  exact We<|λ_ q=>⟨rfl,⟨q.k sn,s7⟩⟩
 .rintro _ af _ rfl ⟨_,sg⟩;have hmh:=elL J;revert af;refine Wo<|Ws<|Rw z ?_
  obtain rfl:=som hmh;exact Wr<|i_ hr z ⟨sg,z⟩
 rintro _ _ _ _ rfl ⟨rfl,hqi⟩;have hmj:=elR J;obtain rfl:=som hmj;exact ⟨hqi,z⟩
theorem W_w32 {x1:List Str}{res:Bool}(hm:g_R x1=some res)(I:B<=w0.z)(H:repS w0 B (sl A0 N0 C0) x1):q_ prog 135 [sl A0 N0 C0] w0 (Q0 w0 B res):=by
 unfold g_R at hm
 refine goG func135 z z z λfn hr=>Ws<|Rw z<|Wq<|Ws<|Rw z ?_
 obtain ⟨_,huj,L⟩:=bdS hm;refine Wf (σ:=Unit) (ρ:=Bool) (λ(k1:Nat)(_:Unit) a w=>Sat 29 [(0,sl A0 N0 C0),(3,vI ((k1:Nat):Int))] a/\Below w0.z w0 w) (λ(_:Unit) a w=>Sat 29 [(0,sl A0 N0 C0)] a/\Below w0.z w0 w) (rQ prog fn<|Q0 w0 B) huj ?_ ?_ ?_ ?_ ?_
 .exact λ_ q=>⟨q.k<|s2 z z,br w0⟩
 .rintro k1 _ _ O _ hka ⟨hSk,s4⟩ hml;refine Wu ?_ hSk;refine Wq<|Wm z<|Rm z<|R z (lnR a_X z<|H.e s4)<|Rl z z z<|Wx z (λ_=>?_) (λhc=>(a_n hka hc).elim)
  refine Wk<|Wq<|Wb<|Wq ?_
  obtain ⟨um,hun,hmb⟩:=bdS hml;refine Wt (λa w=>∃(x2:Bool),x2=um/\Sat 29 [(0,sl A0 N0 C0),(3,vI ((k1:Nat):Int)),(25,vB x2)] a/\Below O.z O w) ?_ ?_
  .refine Wd (X:=noX) 0 (pl_ 16 [4,14]) mo (by kernel_rfl) λae s5 _=>dM z z z<|dM z z z ?_
   obtain ⟨_,eo,hmp⟩:=bdS hun;have hd:=(s4.ag B).e s5;refine dRX z z (at_ (α:=Str) a_X z_9 z z z (H.g hd) eo) ?_;rintro _ ⟨_,_,_,rfl,hq,ht,_⟩;obtain ⟨rfl,hu⟩:=c_y ht;refine dR z z (l0 g_9 z<|hq.at0 z) ?_;have he:=lt_ s4.s s5.s;obtain ⟨rr,es,hmc⟩:=bdS hmp;refine dE z z (fc call129 z<|W_w1t es (zt' I he) hu) (.inr λ_ _ h=>x_<|h.1) ?_;rintro _ _ ⟨s6,rfl⟩;refine dR z z (not_ z)<|dM z z z ?_
   rcases bs (!rr) with G | G
   .iterate 7 refine dRn z z z G z ?_
    exact dEn z z z G z<|dR z z (pT z G z)<|pD (λ_ q=>⟨true,som<|ifT hmc G,q.k<|s3 z z z,bup s5 s6⟩)
   refine dRg z z z G z (mv z)<|dRg z z z G z (mv z) ?_
   obtain ⟨_,ev,hmw⟩:=bdS<|ifF hmc G;have hf:=H.g<|hd.e s6
   refine c_l z z z G z (rX a_X z_9 z z hf z z ev) ?_;rintro _ ⟨_,_,_,rfl,hx⟩;refine dRg z z z G z (mv z)<|dRg z z z G z (mv z) ?_
   obtain ⟨_,ey,hmz⟩:=bdS hmw;refine c_l z z z G z (at_ (α:=Str) a_X z_9 z z z hf ey) ?_;rintro _ ⟨_,_,_,rfl,a3,a4,_⟩;obtain ⟨rfl,a5⟩:=c_y a4;refine dRg z z z G z (l0 g_9 z<|a3.at0 z) ?_;obtain ⟨a6,a7,V⟩:=bdS hmz;refine dEg z z z G z (fc call142 z<|W_w31 a7 (zt' I<|lt_ he s6.s) hx a5) (.inr λ_ _ h=>x_<|h.1) ?_;rintro _ _ ⟨a8,rfl⟩;exact dR z z (pF z G z)<|pD (λ_ q=>⟨a6,som V,q.k<|s3 z z z,bup (bup s5 s6) a8⟩)
  rintro a9 _ ⟨x2,rfl,_,sg⟩;revert a9;refine Wo<|Wc z (λJ=>?_) (λJ=>?_)
  .exact Ws<|Rw z<|Wr<|rtO<|qL (som<|ifT hmb J).symm<|i_ hr z ⟨bup s4 sg,z⟩
  exact Wk<|Wg<|Rm z<|R z (inc_ hka (lt_ (repS.len H) X_) z z)<|Ra z<|Wl (λ_ q=>⟨(),(som<|ifF hmb J).symm,⟨q.k<|s2 z z,bup s4 sg⟩⟩)
 .rintro _ _ _ ⟨W,sh⟩;refine Wu ?_ W;refine Wq<|Wm z<|Rm z<|R z (lnR a_X z<|H.e sh)<|Rl z z z<|Wx z (λhc=>(a_o hc).elim) (λ_=>?_)
  exact We<|λ_ q=>⟨rfl,⟨q.k<|s1 z,sh⟩⟩
 .rintro _ aa _ rfl ⟨_,s7⟩;have Y:=elL L;revert aa;refine Wo<|Wm z ?_
  have hi:=H.e s7;refine R z (lnR a_X z hi) ?_;obtain ⟨_,ab,a0⟩:=bdS Y;refine E z (fc call54 z<|b_j ab (zt' I s7.s) (b_2<|repS.len hi) (ii z)<|ii z) ?_;rintro _ _ ⟨ad,rfl⟩;refine Rw z ?_
  obtain rfl:=som a0;exact Wr<|i_ hr z ⟨bup s7 ad,z⟩
 rintro _ _ _ _ rfl ⟨rfl,a1⟩;have a2:=elR L;obtain rfl:=som a2;exact ⟨a1,z⟩
theorem W_w33 {x1:g_}{x2:d_}{res:Bool}(hm:g_S x1 x2=some res)(O:B<=w0.z)(a2:repS w0 B (sl A0 N0 C0) x1.rules)(aO:x2.name.b.length<=LEN)(aP:inI x2.kind)(aQ:inI x2.size)(aR:repS w0 B (sl A3 N3 C3) x2.bytes)(aS:repS w0 B (sl A4 N4 C4) x2.names)(J:repS w0 B (sl A2 N2 C2) x2.tags)(V:repS w0 B (sl A5 N5 C5) x2.kids):q_ prog 136 [(.agg #[sl A0 N0 C0]),(.agg #[Str.v x2.name,vI x2.kind,vI x2.size,vB x2.little,sl A3 N3 C3,sl A4 N4 C4,sl A2 N2 C2,sl A5 N5 C5])] w0 (Q0 w0 B res):=by
 unfold g_S at hm
 refine goG func136 z z z λfn hr=>Ws<|E z (fb z) ?_
 rintro _ L ⟨rfl,hn⟩;have h4:=hn.below;refine E z (fb z) ?_;rintro _ wd ⟨rfl,ho⟩;have h3:=ho.below;have ha:Blk wd L.z (vR x2 A3 N3 C3 A4 N4 C4 A2 N2 C2 A5 N5 C5):=ho.blk;refine Rw z<|Wq<|Wq ?_
 obtain ⟨aj,hup,hmq⟩:=bdS hm;refine Wt (λa w=>∃(xg:Bool),xg=aj/\Sat 59 [(2,pt w0.z),(3,pt L.z),(20,vB xg)] a/\Below wd.z wd w) ?_ ?_
 .refine Wg<|Rf z M_ z<|R z (l0 C_ z<|ha.at z) ?_
  have ht:=(h4.ag B).e h3;refine R z (lnR A_ z<|V.g ht)<|Rf z a_O z<|R z (l0 C_ z<|ha.at z) ?_
  have hh:=J.g ht;refine R z (lnR A_ z hh)<|R z (add_ z z)<|R z (nq z z)<|Rm z ?_
  rcases bs ((x2.kids.length:Int) != (j_ (x2.tags.length:Int) 1)) with I | I
  .iterate 5 refine Nh z I ?_
   exact R z (pT z I z)<|Wl (λ_ q=>⟨true,som<|ifT hup I,q.k<|s3 z z z,br wd⟩)
  refine Rh z I (fd a_O z)<|Rh z I (l0 C_ z<|ha.at z)<|Rh z I (lnR A_ z hh) ?_
  obtain ⟨ak,al,a3⟩:=bdS<|ifF hup I;refine Eg z z I z (fc call54 z<|b_j al (zt' O<|lt_ h4.s h3.s) (b_2<|repS.len hh) (ii z)<|ii z) ?_;rintro _ _ ⟨am,rfl⟩;exact Rh z I (not_ z)<|R z (pF z I z)<|Wl (λ_ q=>⟨!ak,som a3,q.k<|s3 z z z,am⟩)
 rintro an wb ⟨xg,rfl,_,s5⟩;revert an;refine Wo<|Wc z (λhci=>?_) (λhci=>?_)
 .refine Ws<|Rw z ?_
  obtain rfl:=som<|ifT hmq hci;exact Wr<|i_ hr z ⟨bup (bup h4 h3) s5,z⟩
 refine Wk<|Wq<|Ws<|Rw z ?_
 obtain ⟨_,a4,hmr⟩:=bdS<|ifF hmq hci;refine Wf (σ:=Unit) (ρ:=Bool) (λ(ke:Nat)(_:Unit) a w=>Sat 59 [(2,pt w0.z),(3,pt L.z),(5,vI ((ke:Nat):Int))] a/\Below wb.z wb w) (λ(_:Unit) a w=>Sat 59 [] a/\Below wb.z wb w) (rQ prog fn<|Q0 w0 B) a4 ?_ ?_ ?_ ?_ ?_
 .exact λ_ q=>⟨q.k<|s3 z z z,br wb⟩
 .rintro ke _ _ ws _ hku ⟨a5,s7⟩ a6;refine Wu ?_ a5;refine Wq<|Wm z<|Rf z a_O z ?_
  have hv:=(ha.e s5).e s7;refine R z (l0 C_ z<|hv.at z) ?_;have hw:=(((h4.ag B).e h3).e s5).e s7;refine R z (lnR A_ z<|J.g hw)<|Rl z z z<|Wx z (λ_=>?_) (λhc=>(a_n hku hc).elim)
  refine Wk<|Wq<|Wb<|Wq ?_
  obtain ⟨ao,a7,hmx⟩:=bdS a6;refine Wt (λa w=>∃(xj:Bool),xj=ao/\Sat 59 [(2,pt w0.z),(3,pt L.z),(5,vI ((ke:Nat):Int)),(58,vB xj)] a/\Below ws.z ws w) ?_ ?_
  .refine Wd (X:=noX) 0 (pl_ 31 [10,11]) mo (by kernel_rfl) λaT s6 _=>dR z z (fd a_O z) ?_
   have hk:=hv.e s6;refine dR z z (l0 C_ z<|hk.at z)<|dM z z z ?_
   obtain ⟨_,ap,a8⟩:=bdS a7;have hf:=hw.e s6;refine dRX z z (at_ (α:=Int) A_ z_3 z z z (J.g hf) ap) ?_;rintro _ ⟨_,_,_,rfl,aq,ar,_⟩;obtain ⟨rfl,au⟩:=W_ ar;refine dR z z (l0 g_3 z<|aq.at0 z)<|dR z z (lN (vs:=[sl A0 N0 C0]) B_ w_ z z fid<|(((((hn.blk:Blk L w0.z [sl A0 N0 C0]).e h3).e s5).e s7).e s6).row 0 1 z)<|dR z z (fd M_ z)<|dR z z (l0 C_ z<|hk.at z) ?_
   obtain ⟨_,av,a9⟩:=bdS a8;refine dRX z z (at_ (α:=Int) A_ z_3 z z z (V.g hf) av) ?_;rintro _ ⟨_,_,_,rfl,aw,ax,_⟩;obtain ⟨rfl,ay⟩:=W_ ax;refine dR z z (l0 g_3 z<|aw.at0 z) ?_;have hy:=lt_ (lt_ (lt_ (lt_ h4.s h3.s) s5.s) s7.s) s6.s;obtain ⟨_,az,aa⟩:=bdS a9;refine dE z z (fc call134 z<|j_W az (zt' O hy) (a2.g hf) ay) (.inr λ_ _ h=>x_<|h.1) ?_;rintro _ _ ⟨s8,rfl,aA⟩;obtain ⟨aB,aC,hmz⟩:=bdS aa;refine dE z z (fc call54 z<|b_j aC (zt' O<|lt_ hy s8.s) au (ii z) aA) (.inr λ_ _ h=>x_<|h.1) ?_;rintro _ _ ⟨sc,rfl⟩;refine dR z z (not_ z)<|dM z z z ?_
   rcases bs (!aB) with H | H
   .iterate 3 refine dRn z z z H z ?_
    iterate 12 refine dRu z z z z ?_
    exact dRn z z z H z<|dR z z (pT z H z)<|pD (λ_ q=>⟨true,som<|ifT hmz H,q.k<|s4 z z z z,bup (bup s6 s8) sc⟩)
   have W:=ifF hmz H;refine dRg z z z H z (mv z)<|dRg z z z H z (a_b z z)<|dRg z z z H z (mv z) ?_
   rcases bs (decide<|0<((ke:Nat):Int)) with G | G
   .refine dRg z z z G z (fd a_O z) ?_;have Y:=(hk.e s8).e sc;refine dRg z z z G z (l0 C_ z<|Y.at z)<|dRg z z z G z (mv z)<|dRg z z z G z (sb_ z z) ?_
    obtain ⟨aD,aE,ab⟩:=bdS<|ifT W G;have a0:=J.g<|(hf.e s8).e sc
    refine c_l z z z G z (at_ (α:=Int) A_ z_3 z z z a0 aE) ?_;rintro _ ⟨_,_,_,rfl,aF,aG,_⟩;obtain ⟨rfl,_⟩:=W_ aG;refine dRg z z z G z (l0 g_3 z<|aF.at0 z)<|dRg z z z G z (fd a_O z)<|dRg z z z G z (l0 C_ z<|Y.at z)<|dRg z z z G z (mv z) ?_
    obtain ⟨aH,aI,ad⟩:=bdS ab;refine c_l z z z G z (at_ (α:=Int) A_ z_3 z z z a0 aI) ?_;rintro _ ⟨_,_,_,rfl,aJ,aK,_⟩;obtain ⟨rfl,_⟩:=W_ aK;exact dRg z z z G z (l0 g_3 z<|aJ.at0 z)<|dRg z z z G z (b_z z z)<|dRg z z z H z (pT z G z)<|dR z z (pF z H z)<|pD (λ_ q=>⟨decide<|aH<=aD,som ad,q.k<|s4 z z z z,bup (bup s6 s8) sc⟩)
   iterate 12 refine dRn z z z G z ?_
   exact dRg z z z H z (pF z G z)<|dR z z (pF z H z)<|pD (λ_ q=>⟨false,som<|ifF W G,q.k<|s4 z z z z,bup (bup s6 s8) sc⟩)
  rintro aL _ ⟨xj,rfl,_,a1⟩;revert aL;refine Wo<|Wc z (λhcl=>?_) (λhcl=>?_)
  .exact Ws<|Rw z<|Wr<|rtO<|qL (som<|ifT hmx hcl).symm<|i_ hr z ⟨bup (bup (bup (bup h4 h3) s5) s7) a1,z⟩
  exact Wk<|Wg<|Rm z<|R z (inc_ hku (lt_ (repS.len J) X_) z z)<|Ra z<|Wl (λ_ q=>⟨(),(som<|ifF hmx hcl).symm,⟨q.k<|s3 z z z,bup s7 a1⟩⟩)
 .rintro _ _ _ ⟨ae,sm⟩;refine Wu ?_ ae;refine Wq<|Wm z<|Rf z a_O z<|R z (l0 C_ z<|((ha.e s5).e sm).at z)<|R z (lnR A_ z<|J.g<|(((h4.ag B).e h3).e s5).e sm)<|Rl z z z<|Wx z (λhc=>(a_o hc).elim) (λ_=>?_)
  exact We<|λ_ q=>⟨rfl,⟨q.k sn,sm⟩⟩
 .rintro _ aM _ rfl ⟨_,aN⟩;have af:=elL hmr;revert aM;refine Wo<|Ws<|Rw z ?_
  obtain rfl:=som af;exact Wr<|i_ hr z ⟨bup (bup (bup h4 h3) s5) aN,z⟩
 rintro _ _ _ _ rfl ⟨rfl,ah⟩;have ai:=elR hmr;obtain rfl:=som ai;exact ⟨ah,z⟩
theorem W_w34 {x1:g_}{x2:d_}{res:Bool}(hm:g_T x1 x2=some res)(I:B<=w0.z)(a8:repS w0 B (sl A0 N0 C0) x1.rules)(a2:x2.name.b.length<=LEN)(a3:inI x2.kind)(V:inI x2.size)(W:repS w0 B (sl A3 N3 C3) x2.bytes)(a0:repS w0 B (sl A4 N4 C4) x2.names)(a4:repS w0 B (sl A2 N2 C2) x2.tags)(Y:repS w0 B (sl A5 N5 C5) x2.kids):q_ prog 130 [(.agg #[sl A0 N0 C0]),(.agg #[Str.v x2.name,vI x2.kind,vI x2.size,vB x2.little,sl A3 N3 C3,sl A4 N4 C4,sl A2 N2 C2,sl A5 N5 C5])] w0 (Q0 w0 B res):=by
 unfold g_T at hm
 refine goG func130 z z z λfn hr=>Ws<|E z (fb z) ?_
 rintro _ al ⟨rfl,aT⟩;have h1:=aT.below;have am:Blk al w0.z [sl A0 N0 C0]:=aT.blk;refine E z (fb z) ?_;rintro _ H ⟨rfl,aU⟩;have G:=aU.below;have h3:Blk H al.z (vR x2 A3 N3 C3 A4 N4 C4 A2 N2 C2 A5 N5 C5):=aU.blk;refine Rw z<|Wq<|Ws<|Rf z a_V z<|R z (l0 g_3 z<|h3.at z)<|Wn<|Wb<|Ws<|Rq z z z<|Rw z<|Wc z (λa9=>?_) (λa9=>?_)
 .refine Wq ?_;obtain ⟨bI,be,bf⟩:=bdS<|ifT hm a9;refine Wt (λa w=>∃(an:Bool),an=bI/\Sat 114 [(4,vB an)] a/\Below H.z H w) ?_ ?_
  .refine Wg<|R z (lN (vs:=vR x2 A3 N3 C3 A4 N4 C4 A2 N2 C2 A5 N5 C5) R_ t_ z z fid<|h3.row 0 8 z) ?_
   have hw:=(h1.ag B).e G;have aV:=lt_ h1.s G.s;obtain ⟨bJ,bK,az⟩:=bdS be;refine E z (fc call133 z<|d_o bK (zt' I aV) a2 a3 V (W.g hw) (a0.g hw) (a4.g hw) (Y.g hw)<|ii z) ?_;rintro _ _ ⟨sg,rfl⟩;refine Rm z ?_
   rcases bs bJ with hca | hca
   .refine Rh z hca (fd a_W z) ?_;have aW:=h3.e sg;refine Rh z hca (l0 g_3 z<|aW.at z) ?_;obtain ⟨bL,bM,aA⟩:=bdS<|ifT az hca;refine Eg z z hca z (fc call54 z<|b_j bM (zt' I<|lt_ aV sg.s) V (ii z)<|ii z) ?_;rintro _ _ ⟨sx,rfl⟩;refine R z (pT z hca z)<|Rm z ?_
    rcases bs bL with O | O
    .have aB:=ifT aA O;refine Rh z O (fd c_2 z) ?_;have aX:=aW.e sx;refine Rh z O (l0 g_4 z<|aX.at z)<|Rh z O (not_ z)<|Rh z O (mv z) ?_
     rcases bs (!x2.little) with hcb | hcb
     .iterate 3 refine Nh z hcb ?_
      exact Rh z O (pT z hcb z)<|R z (pT z O z)<|Ra z<|Wl (λ_ q=>⟨true,som<|ifT aB hcb,q.k<|s1 z,bup sg sx⟩)
     exact Rh z hcb (fd a_W z)<|Rh z hcb (l0 g_3 z<|aX.at z)<|Rh z hcb (a_b z z)<|Rh z O (pF z hcb z)<|R z (pT z O z)<|Ra z<|Wl (λ_ q=>⟨decide<|1<x2.size,som<|ifF aB hcb,q.k<|s1 z,bup sg sx⟩)
    iterate 4 refine Nh z O ?_
    exact Nv z<|Nv z<|Nv z<|Nh z O<|R z (pF z O z)<|Ra z<|Wl (λ_ q=>⟨false,som<|ifF aA O,q.k<|s1 z,bup sg sx⟩)
   iterate 3 refine Nh z hca ?_
   exact R z (pF z hca z)<|Rm z<|Nh z z<|Nh z z<|Nh z z<|Nh z z<|Nv z<|Nv z<|Nv z<|Nh z z<|R z (pF z z z)<|Ra z<|Wl (λ_ q=>⟨false,som<|ifF az hca,q.k<|s1 z,sg⟩)
  rintro bN _ ⟨an,rfl,_,bO⟩;revert bN;refine Wo ?_;obtain rfl:=som bf;exact Wr<|rtO<|i_ hr z ⟨bup (bup h1 G) bO,z⟩
 have aC:=ifF hm a9;refine Ws<|Rq z z z<|Rw z<|Wc z (λaa=>?_) (λaa=>?_)
 .refine Wq ?_;obtain ⟨bP,bg,bh⟩:=bdS<|ifT aC aa;refine Wt (λa w=>∃(ao:Bool),ao=bP/\Sat 114 [(4,vB ao)] a/\Below H.z H w) ?_ ?_
  .refine Wg<|R z (lN (vs:=vR x2 A3 N3 C3 A4 N4 C4 A2 N2 C2 A5 N5 C5) R_ t_ z z fid<|h3.row 0 8 z) ?_
   have hl:=(h1.ag B).e G;have aY:=lt_ h1.s G.s;obtain ⟨bQ,bR,aD⟩:=bdS bg;refine E z (fc call133 z<|d_o bR (zt' I aY) a2 a3 V (W.g hl) (a0.g hl) (a4.g hl) (Y.g hl)<|ii z) ?_;rintro _ _ ⟨sn,rfl⟩;refine Rm z ?_
   rcases bs bQ with a5 | a5
   .refine Rh z a5 (fd a_N z)<|Rh z a5 (l0 U_ z<|(h3.e sn).at z) ?_
    have aZ:=W.g<|hl.e sn
    refine Rh z a5 (lnR s_ z aZ) ?_;obtain ⟨bS,bT,bi⟩:=bdS<|ifT aD a5;refine Eg z z a5 z (fc call54 z<|b_j bT (zt' I<|lt_ aY sn.s) (b_2<|repS.len aZ) (ii z)<|ii z) ?_;rintro _ _ ⟨bU,rfl⟩;exact R z (pT z a5 z)<|Ra z<|Wl (λ_ q=>⟨bS,som bi,q.k<|s1 z,bup sn bU⟩)
   iterate 4 refine Nh z a5 ?_
   exact R z (pF z a5 z)<|Ra z<|Wl (λ_ q=>⟨false,som<|ifF aD a5,q.k<|s1 z,sn⟩)
  rintro bV _ ⟨ao,rfl,_,bW⟩;revert bV;refine Wo ?_;obtain rfl:=som bh;exact Wr<|rtO<|i_ hr z ⟨bup (bup h1 G) bW,z⟩
 have aE:=ifF aC aa;refine Ws<|Rq z z z<|Rw z<|Wc z (λab=>?_) (λab=>?_)
 .refine Wq ?_;obtain ⟨bX,bj,bk⟩:=bdS<|ifT aE ab;refine Wt (λa w=>∃(ap:Bool),ap=bX/\Sat 114 [(4,vB ap)] a/\Below H.z H w) ?_ ?_
  .refine Wg<|R z (lN (vs:=vR x2 A3 N3 C3 A4 N4 C4 A2 N2 C2 A5 N5 C5) R_ t_ z z fid<|h3.row 0 8 z) ?_
   have hy:=(h1.ag B).e G;have b0:=lt_ h1.s G.s;obtain ⟨bY,bZ,aF⟩:=bdS bj;refine E z (fc call133 z<|d_o bZ (zt' I b0) a2 a3 V (W.g hy) (a0.g hy) (a4.g hy) (Y.g hy)<|ii z) ?_;rintro _ _ ⟨sz,rfl⟩;refine Rm z ?_
   rcases bs bY with hcc | hcc
   .refine Rh z hcc (fd a_W z)<|Rh z hcc (l0 g_3 z<|(h3.e sz).at z) ?_
    obtain ⟨c0,c1,bm⟩:=bdS<|ifT aF hcc;refine Eg z z hcc z (fc call54 z<|b_j c1 (zt' I<|lt_ b0 sz.s) V (ii z)<|ii z) ?_;rintro _ _ ⟨c2,rfl⟩;exact R z (pT z hcc z)<|Ra z<|Wl (λ_ q=>⟨c0,som bm,q.k<|s1 z,bup sz c2⟩)
   iterate 3 refine Nh z hcc ?_
   exact R z (pF z hcc z)<|Ra z<|Wl (λ_ q=>⟨false,som<|ifF aF hcc,q.k<|s1 z,sz⟩)
  rintro c3 _ ⟨ap,rfl,_,c4⟩;revert c3;refine Wo ?_;obtain rfl:=som bk;exact Wr<|rtO<|i_ hr z ⟨bup (bup h1 G) c4,z⟩
 have aG:=ifF aE ab;refine Ws<|Rq z z z<|Rw z<|Wc z (λad=>?_) (λad=>?_)
 .refine Wq ?_;obtain ⟨c5,bn,bo⟩:=bdS<|ifT aG ad;refine Wt (λa w=>∃(aq:Bool),aq=c5/\Sat 114 [(4,vB aq)] a/\Below H.z H w) ?_ ?_
  .refine Wd (X:=noX) 0 (pl_ 12 [1,8]) mo (by kernel_rfl) λcX sh _=>?_
   have b1:=h3.e sh;refine dR z z (lN (vs:=vR x2 A3 N3 C3 A4 N4 C4 A2 N2 C2 A5 N5 C5) R_ t_ z z fid<|b1.row 0 8 z) ?_;have ho:=((h1.ag B).e G).e sh;have b2:=lt_ (lt_ h1.s G.s) sh.s;obtain ⟨c6,c7,aH⟩:=bdS bn;refine dE z z (fc call133 z<|d_o c7 (zt' I b2) a2 a3 V (W.g ho) (a0.g ho) (a4.g ho) (Y.g ho)<|ii z) (.inr λ_ _ h=>x_<|h.1) ?_;rintro _ _ ⟨si,rfl⟩;refine dM z z z ?_
   rcases bs c6 with J | J
   .refine dRg z z z J z (lN (vs:=[sl A0 N0 C0]) B_ w_ z z fid<|(((am.e G).e sh).e si).row 0 1 z)<|dRg z z z J z (fd M_ z)<|dRg z z z J z (l0 C_ z<|(b1.e si).at z) ?_
    obtain ⟨_,c8,bp⟩:=bdS<|ifT aH J;have b3:=ho.e si;refine c_l z z z J z (at_ (α:=Int) A_ z_3 z z z (Y.g b3) c8) ?_;rintro _ ⟨_,_,_,rfl,c9,ca,_⟩;obtain ⟨rfl,cb⟩:=W_ ca;refine dRg z z z J z (l0 g_3 z<|c9.at0 z) ?_;obtain ⟨cc,cd,bq⟩:=bdS bp;refine dEg z z z J z (fc call134 z<|j_W cd (zt' I<|lt_ b2 si.s) (a8.g b3) cb) (.inr λ_ _ h=>x_<|h.1) ?_;rintro _ _ ⟨ce,rfl,_⟩;exact dRg z z z J z (a_b z z)<|dR z z (pT z J z)<|dQ z z z<|pD (λ_ q=>⟨decide<|0<cc,som bq,q.k<|s1 z,bup (bup sh si) ce⟩)
   iterate 5 refine dRn z z z J z ?_
   exact dEn z z z J z<|dRn z z z J z<|dR z z (pF z J z)<|dQ z z z<|pD (λ_ q=>⟨false,som<|ifF aH J,q.k<|s1 z,bup sh si⟩)
  rintro cf _ ⟨aq,rfl,_,cg⟩;revert cf;refine Wo ?_;obtain rfl:=som bo;exact Wr<|rtO<|i_ hr z ⟨bup (bup h1 G) cg,z⟩
 have aI:=ifF aG ad;refine Ws<|Rq z z z<|Rw z<|Wc z (λae=>?_) (λae=>?_)
 .refine Wq ?_;obtain ⟨ch,bt,bu⟩:=bdS<|ifT aI ae;refine Wt (λa w=>∃(ar:Bool),ar=ch/\Sat 114 [(4,vB ar)] a/\Below H.z H w) ?_ ?_
  .refine Wd (X:=noX) 0 (pl_ 12 [1,8]) mo (by kernel_rfl) λcY sj _=>?_
   have b4:=h3.e sj;refine dR z z (lN (vs:=vR x2 A3 N3 C3 A4 N4 C4 A2 N2 C2 A5 N5 C5) R_ t_ z z fid<|b4.row 0 8 z) ?_;have hp:=((h1.ag B).e G).e sj;have b5:=lt_ (lt_ h1.s G.s) sj.s;obtain ⟨ci,cj,aJ⟩:=bdS bt;refine dE z z (fc call133 z<|d_o cj (zt' I b5) a2 a3 V (W.g hp) (a0.g hp) (a4.g hp) (Y.g hp)<|ii z) (.inr λ_ _ h=>x_<|h.1) ?_;rintro _ _ ⟨sk,rfl⟩;refine dM z z z ?_
   rcases bs ci with L | L
   .refine dRg z z z L z (lN (vs:=[sl A0 N0 C0]) B_ w_ z z fid<|(((am.e G).e sj).e sk).row 0 1 z)<|dRg z z z L z (fd M_ z)<|dRg z z z L z (l0 C_ z<|(b4.e sk).at z) ?_
    obtain ⟨_,ck,bv⟩:=bdS<|ifT aJ L;have b6:=hp.e sk;refine c_l z z z L z (at_ (α:=Int) A_ z_3 z z z (Y.g b6) ck) ?_;rintro _ ⟨_,_,_,rfl,cl,cm,_⟩;obtain ⟨rfl,cn⟩:=W_ cm;refine dRg z z z L z (l0 g_3 z<|cl.at0 z) ?_;obtain ⟨co,cp,bw⟩:=bdS bv;refine dEg z z z L z (fc call134 z<|j_W cp (zt' I<|lt_ b5 sk.s) (a8.g b6) cn) (.inr λ_ _ h=>x_<|h.1) ?_;rintro _ _ ⟨cq,rfl,_⟩;exact dRg z z z L z (a_b z z)<|dR z z (pT z L z)<|dQ z z z<|pD (λ_ q=>⟨decide<|0<co,som bw,q.k<|s1 z,bup (bup sj sk) cq⟩)
   iterate 5 refine dRn z z z L z ?_
   exact dEn z z z L z<|dRn z z z L z<|dR z z (pF z L z)<|dQ z z z<|pD (λ_ q=>⟨false,som<|ifF aJ L,q.k<|s1 z,bup sj sk⟩)
  rintro cr _ ⟨ar,rfl,_,ct⟩;revert cr;refine Wo ?_;obtain rfl:=som bu;exact Wr<|rtO<|i_ hr z ⟨bup (bup h1 G) ct,z⟩
 have aK:=ifF aI ae;refine Ws<|Rq z z z<|Rw z<|Wc z (λaf=>?_) (λaf=>?_)
 .refine Wq ?_;obtain ⟨cu,bx,bz⟩:=bdS<|ifT aK af;refine Wt (λa w=>∃(au:Bool),au=cu/\Sat 114 [(4,vB au)] a/\Below H.z H w) ?_ ?_
  .refine Wg<|R z (lN (vs:=vR x2 A3 N3 C3 A4 N4 C4 A2 N2 C2 A5 N5 C5) R_ t_ z z fid<|h3.row 0 8 z)<|Rf z b_x z<|R z (l0 b_8 z<|h3.at z) ?_
   have hq:=(h1.ag B).e G;have av:=a0.g hq;refine R z (lnR a_X z av) ?_;have b7:=lt_ h1.s G.s;obtain ⟨cv,cw,aL⟩:=bdS bx;refine E z (fc call133 z<|d_o cw (zt' I b7) a2 a3 V (W.g hq) av (a4.g hq) (Y.g hq)<|b_2<|repS.len av) ?_;rintro _ _ ⟨sr,rfl⟩;refine Rm z ?_
   rcases bs cv with hcd | hcd
   .refine Rh z hcd (fd b_x z)<|Rh z hcd (l0 b_8 z<|(h3.e sr).at z) ?_
    obtain ⟨cx,cy,bA⟩:=bdS<|ifT aL hcd;refine Eg z z hcd z (fc call135 z<|W_w32 cy (zt' I<|lt_ b7 sr.s)<|a0.g<|hq.e sr) ?_;rintro _ _ ⟨cz,rfl⟩;exact R z (pT z hcd z)<|Ra z<|Wl (λ_ q=>⟨cx,som bA,q.k<|s1 z,bup sr cz⟩)
   iterate 3 refine Nh z hcd ?_
   exact R z (pF z hcd z)<|Ra z<|Wl (λ_ q=>⟨false,som<|ifF aL hcd,q.k<|s1 z,sr⟩)
  rintro cA _ ⟨au,rfl,_,cB⟩;revert cA;refine Wo ?_;obtain rfl:=som bz;exact Wr<|rtO<|i_ hr z ⟨bup (bup h1 G) cB,z⟩
 have aM:=ifF aK af;refine Ws<|Rq z z z<|Rw z<|Wc z (λah=>?_) (λah=>?_)
 .refine Wq ?_;obtain ⟨cC,bB,bC⟩:=bdS<|ifT aM ah;refine Wt (λa w=>∃(aw:Bool),aw=cC/\Sat 114 [(4,vB aw)] a/\Below H.z H w) ?_ ?_
  .refine Wg<|R z (lN (vs:=vR x2 A3 N3 C3 A4 N4 C4 A2 N2 C2 A5 N5 C5) R_ t_ z z fid<|h3.row 0 8 z) ?_
   have ht:=(h1.ag B).e G;have b8:=lt_ h1.s G.s;obtain ⟨cD,cE,aN⟩:=bdS bB;refine E z (fc call133 z<|d_o cE (zt' I b8) a2 a3 V (W.g ht) (a0.g ht) (a4.g ht) (Y.g ht)<|ii z) ?_;rintro _ _ ⟨sm,rfl⟩;refine Rm z ?_
   rcases bs cD with hce | hce
   .refine Rh z hce (lN (vs:=[sl A0 N0 C0]) B_ w_ z z fid<|((am.e G).e sm).row 0 1 z)<|Rh z hce (lN (vs:=vR x2 A3 N3 C3 A4 N4 C4 A2 N2 C2 A5 N5 C5) R_ t_ z z fid<|(h3.e sm).row 0 8 z) ?_
    have hu:=ht.e sm;obtain ⟨cF,cG,bD⟩:=bdS<|ifT aN hce;refine Eg z z hce z (fc call136 z<|W_w33 cG (zt' I<|lt_ b8 sm.s) (a8.g hu) a2 a3 V (W.g hu) (a0.g hu) (a4.g hu)<|Y.g hu) ?_;rintro _ _ ⟨cH,rfl⟩;exact R z (pT z hce z)<|Ra z<|Wl (λ_ q=>⟨cF,som bD,q.k<|s1 z,bup sm cH⟩)
   iterate 3 refine Nh z hce ?_
   exact R z (pF z hce z)<|Ra z<|Wl (λ_ q=>⟨false,som<|ifF aN hce,q.k<|s1 z,sm⟩)
  rintro cI _ ⟨aw,rfl,_,cJ⟩;revert cI;refine Wo ?_;obtain rfl:=som bC;exact Wr<|rtO<|i_ hr z ⟨bup (bup h1 G) cJ,z⟩
 refine Wq<|Ws<|Rq z z z<|Rw z ?_
 obtain ⟨cK,aO,aP⟩:=bdS<|ifF aM ah;refine Wt (λa w=>∃(ax:Bool),ax=cK/\Sat 114 [(3,pt al.z),(6,vI x2.kind),(92,vB ax)] a/\Below H.z H w) ?_ ?_
 .refine Wc z (λai=>?_)<|λai=>?_
  .exact a_c<|λ_ q=>⟨x2.kind==8,som<|ifT aO ai,q.k<|s3 z z z,br H⟩
  exact Wg<|Rq z z z<|Ra z<|Wl (λ_ q=>⟨x2.kind==9,som<|ifF aO ai,q.k<|s3 z z z,br H⟩)
 rintro cL b9 ⟨ax,rfl,_,sf⟩;revert cL;refine Wo<|Wc z (λaj=>?_) (λaj=>?_)
 .refine Ws<|R z (lN (vs:=vR x2 A3 N3 C3 A4 N4 C4 A2 N2 C2 A5 N5 C5) R_ t_ z z fid<|(h3.e sf).row 0 8 z) ?_
  have a7:=((h1.ag B).e G).e sf;obtain ⟨_,cM,bE⟩:=bdS<|ifT aP aj;refine E z (fc call133 z<|d_o cM (zt' I<|lt_ (lt_ h1.s G.s) sf.s) a2 a3 V (W.g a7) (a0.g a7) (a4.g a7) (Y.g a7)<|ii z) ?_;rintro _ _ ⟨cN,rfl⟩;refine Rw z ?_
  obtain rfl:=som bE;exact Wr<|rtO<|i_ hr z ⟨bup (bup (bup h1 G) sf) cN,z⟩
 have aQ:=ifF aP aj;refine Ws<|Rq z z z<|Rw z<|Wc z (λak=>?_) (λak=>?_)
 .refine Wq ?_;obtain ⟨cO,bF,bG⟩:=bdS<|ifT aQ ak;refine Wt (λa w=>∃(ay:Bool),ay=cO/\Sat 114 [(4,vB ay)] a/\Below b9.z b9 w) ?_ ?_
  .refine Wg ?_;have ba:=h3.e sf;refine R z (lN (vs:=vR x2 A3 N3 C3 A4 N4 C4 A2 N2 C2 A5 N5 C5) R_ t_ z z fid<|ba.row 0 8 z) ?_;have hv:=((h1.ag B).e G).e sf;obtain ⟨cP,cQ,aR⟩:=bdS bF;refine E z (fc call133 z<|d_o cQ (zt' I<|lt_ (lt_ h1.s G.s) sf.s) a2 a3 V (W.g hv) (a0.g hv) (a4.g hv) (Y.g hv)<|ii z) ?_;rintro _ _ ⟨ss,rfl⟩;refine Rm z ?_
   rcases bs cP with a6 | a6
   .have aS:=ifT aR a6;refine Rh z a6 (fd a_N z) ?_;have bb:=ba.e ss;refine Rh z a6 (l0 U_ z<|bb.at z) ?_;have bc:=W.g<|hv.e ss
    refine Rh z a6 (lnR s_ z bc)<|Rh z a6 (eql z z)<|R z (pT z a6 z)<|Rm z ?_
    rcases bs ((x2.bytes.length:Int)==1) with a1 | a1
    .refine Rh z a1 (fd a_N z)<|Rh z a1 (l0 U_ z<|bb.at z) ?_
     obtain ⟨cR,cS,bH⟩:=bdS<|ifT aS a1;refine RXg z z a1 z (at_ (α:=UInt8) s_ z_5 z z z bc cS) ?_;rintro _ ⟨_,_,_,rfl,cT,cU,_⟩;obtain rfl:=u8 cU;exact Rh z a1 (l0 g_5 z<|cT.at0 z)<|Rh z a1 (nq z z)<|R z (pT z a1 z)<|Ra z<|Wl (λ_ q=>⟨(byteI cR) != (byteI (92:UInt8)),som bH,q.k<|s1 z,ss⟩)
    iterate 5 refine Nh z a1 ?_
    exact R z (pF z a1 z)<|Ra z<|Wl (λ_ q=>⟨false,som<|ifF aS a1,q.k<|s1 z,ss⟩)
   iterate 4 refine Nh z a6 ?_
   exact R z (pF z a6 z)<|Rm z<|Nh z z<|Nh z z<|Nh z z<|Nh z z<|Nh z z<|R z (pF z z z)<|Ra z<|Wl (λ_ q=>⟨false,som<|ifF aR a6,q.k<|s1 z,ss⟩)
  rintro cV _ ⟨ay,rfl,_,cW⟩;revert cV;refine Wo ?_;obtain rfl:=som bG;exact Wr<|rtO<|i_ hr z ⟨bup (bup (bup h1 G) sf) cW,z⟩
 refine Wk<|Ws<|Rw z ?_
 obtain rfl:=som<|ifF aQ ak;exact Wr<|i_ hr z ⟨bup (bup h1 G) sf,z⟩
theorem W_w35 {x1:g_}{x2:Int}{res:Bool}(hm:g_U x1 x2=some res)(J:B<=w0.z)(O:repS w0 B (sl A0 N0 C0) x1.rules)(a0:inI x2):q_ prog 120 [(.agg #[sl A0 N0 C0]),vI x2] w0 (Q0 w0 B res):=by
 unfold g_U at hm
 refine goG func120 z z z λfn hr=>Ws<|E z (fb z) ?_
 rintro _ aO ⟨rfl,a9⟩;have h1:=a9.below;have he:Blk aO w0.z [sl A0 N0 C0]:=a9.blk;refine Rw z<|Wq<|Wm z<|Rf z T_ z<|R z (l0 V_ z<|he.at z)<|R z (lnR N_ z<|O.e h1)<|R z (sb_ z z) ?_
 obtain ⟨_,aP,a1⟩:=bdS hm;refine E z (fc call54 z<|b_j aP (zt' J h1.s) a0 (ii z)<|iS _ _) ?_;rintro _ I ⟨G,rfl⟩;refine R z (not_ z)<|Wx z (λhci=>?_) (λhci=>?_)
 .refine Ws<|Rw z ?_
  obtain rfl:=som<|ifT a1 hci;exact Wr<|i_ hr z ⟨bup h1 G,z⟩
 refine Wk<|Ws<|Rf z T_ z ?_
 have hj:=he.e G;refine R z (l0 V_ z<|hj.at z)<|Rm z ?_
 obtain ⟨xk,aQ,ar⟩:=bdS<|ifF a1 hci;have hl:=(h1.ag B).e G;refine RX z (at_ (α:=d_) N_ t_ z z z (O.g hl) aQ) ?_;rintro _ ⟨_,_,_,rfl,aR,aS,_⟩;obtain ⟨am,nn,co,ap,nq,cr,au,ns,ct,av,nw,cx,rfl,aa,aT,aU,aV,aW,aX,hf⟩:=a_T aS;refine R z (lN (vs:=vR xk am nn co ap nq cr au ns ct av nw cx) R_ t_ z z fid aR)<|E z (fa b_M) ?_
 rintro _ aY ⟨rfl,ab⟩;have h2:=ab.below;refine E0 (fs0 (cur':=vR xk am nn co ap nq cr au ns ct av nw cx) t_ z z (ab.blk:Blk aY I.z [(Str.v (⟨[]⟩:Str)),vI 0,vI 0,vB false,sN,sN,sN,sN]) z z z z) ?_;rintro _ L ⟨hg,aZ⟩;have h3:=aZ.one;refine Wn<|Wq<|Ws<|Rw z ?_
 obtain ⟨_,aw,a2⟩:=bdS ar;refine Wf (σ:=Unit) (ρ:=Bool) (λ(ad:Nat)(_:Unit) a w=>Sat 58 [(1,vI x2),(2,pt w0.z),(5,pt I.z),(6,vI ((ad:Nat):Int))] a/\Below L.z L w) (λ(_:Unit) a w=>Sat 58 [(1,vI x2),(2,pt w0.z),(5,pt I.z)] a/\Below L.z L w) (rQ prog fn<|Q0 w0 B) aw ?_ ?_ ?_ ?_ ?_
 .exact λ_ q=>⟨q.k<|s4 z z z z,br L⟩
 .rintro ad _ _ _ _ a3 ⟨ax,sa⟩ ay;refine Wu ?_ ax;refine Wq<|Wm z<|Rm z<|Rl z z z<|Wx z (λ_=>?_) (λhc=>(f_2 a3 hc).elim)
  refine Wk<|Wq<|Wb<|Wq (Wd (X:=noX) 0 (pl_ 9 []) mo (by kernel_rfl) λbk sb _=>dR z z (fd T_ z)<|dR z z (l0 V_ z<|((((hj.e h2).c h3<|djs<|mm1 he.lt G.s).e sa).e sb).at z)<|dM z z z ?_)
  obtain ⟨_,b0,a4⟩:=bdS ay;have ae:=lt_ h1.s G.s;refine dRX z z (at_ (α:=d_) N_ t_ z z z (O.g<|(((hl.e h2).c h3<|c_ (or0 (a_ lr) (m_<|zt' J ae):∀k∈[I.z],¬B k)).e sa).e sb) b0) ?_;rintro _ ⟨_,_,_,rfl,b1,b2,_⟩;obtain ⟨_,_,_,_,_,_,_,_,_,_,_,_,rfl,_,_,_,_,_,_,_⟩:=a_T b2;refine dR z z (fd d_Q z)<|dR z z (l0 g_9 z<|b1.at (j:=0) z)<|dR z z (fd d_Q z)<|dR z z (l0 g_9 z<|((hg.e sa).e sb).at z)<|dR z z (c_a z z)<|pD<|Wo<|Wc z (λhcy=>?_) (λhcy=>?_)
  .exact Ws<|Rw z<|Wr<|rtO<|qL (som<|ifT a4 hcy).symm<|i_ hr z ⟨bup (bup (bM (bup (bup h1 G) h2) h3<|m1 ae) sa) sb,z⟩
  exact Wk<|Wg<|Rm z<|R z (inc_ a3 (tl_ a0) z z)<|Ra z<|Wl (λ_ q=>⟨(),(som<|ifF a4 hcy).symm,⟨q.k<|s4 z z z z,bup sa sb⟩⟩)
 .rintro _ _ _ ⟨az,b3⟩;refine Wu ?_ az;refine Wq<|Wm z<|Rm z<|Rl z z z<|Wx z (λhc=>(f_3 hc).elim) (λ_=>?_)
  exact We<|λ_ q=>⟨rfl,⟨q.k<|s3 z z z,b3⟩⟩
 .rintro _ b4 wc rfl ⟨_,s5⟩;have aA:=elL a2;revert b4;refine Wo<|Wq<|Ws<|Rw z ?_
  obtain ⟨_,aB,a5⟩:=bdS aA;refine Wf (σ:=Unit) (ρ:=Bool) (λ(af:Nat)(_:Unit) a w=>Sat 58 [(1,vI x2),(2,pt w0.z),(5,pt I.z),(7,vI ((af:Nat):Int))] a/\Below wc.z wc w) (λ(_:Unit) a w=>Sat 58 [(2,pt w0.z),(5,pt I.z)] a/\Below wc.z wc w) (rQ prog fn<|Q0 w0 B) aB ?_ ?_ ?_ ?_ ?_
  .exact λ_ q=>⟨q.k<|s4 z z z z,br wc⟩
  .rintro af _ _ _ _ a6 ⟨aC,sd⟩ aD;refine Wu ?_ aC;refine Wq<|Wm z<|Rf z M_ z ?_
   have ah:=(hg.e s5).e sd;refine R z (l0 C_ z<|ah.at z) ?_;have hz:=lt_ h1.s G.s;have ai:=hf.g<|(((h2.ag B).c h3<|c_ (or0 (a_ lr) (m_<|zt' J hz):∀k∈[I.z],¬B k)).e s5).e sd
   refine R z (lnR A_ z ai)<|Rl z z z<|Wx z (λ_=>?_) (λhc=>(a_n a6 hc).elim)
   refine Wk<|Wq<|Wb<|Ws<|Rf z M_ z<|R z (l0 C_ z<|ah.at z)<|Rm z ?_
   obtain ⟨_,b5,aE⟩:=bdS aD;refine RX z (at_ (α:=Int) A_ z_3 z z z ai b5) ?_;rintro _ ⟨_,_,_,rfl,b6,b7,_⟩;obtain ⟨rfl,b8⟩:=W_ b7;refine R z (l0 g_3 z<|b6.at0 z)<|Rm z<|R z (sb_ z z) ?_
   obtain ⟨_,b9,a7⟩:=bdS aE;refine E z (fc call54 z<|b_j b9 (zt' J<|lt_ (lt_ (lt_ (lt_ hz h2.s) h3.s) s5.s) sd.s) b8 (ii z)<|iS _ _) ?_;rintro _ _ ⟨aj,rfl⟩;refine R z (not_ z)<|Wx z (λV=>?_) (λV=>?_)
   .exact Ws<|Rw z<|Wr<|rtO<|qL (som<|ifT a7 V).symm<|i_ hr z ⟨bup (bup (bup (bM (bup (bup h1 G) h2) h3<|m1 hz) s5) sd) aj,z⟩
   exact Wk<|Wg<|Rm z<|R z (inc_ a6 (lt_ (repS.len hf) X_) z z)<|Ra z<|Wl (λ_ q=>⟨(),(som<|ifF a7 V).symm,⟨q.k<|s4 z z z z,bup sd aj⟩⟩)
  .rintro _ _ _ ⟨aF,W⟩;refine Wu ?_ aF;refine Wq<|Wm z<|Rf z M_ z<|R z (l0 C_ z<|((hg.e s5).e W).at z) ?_
   refine R z (lnR A_ z<|hf.g<|(((h2.ag B).c h3<|c_ (or0 (a_ lr) (m_<|zt' J<|lt_ h1.s G.s):∀k∈[I.z],¬B k)).e s5).e W)<|Rl z z z<|Wx z (λhc=>(a_o hc).elim) (λ_=>?_)
   exact We<|λ_ q=>⟨rfl,⟨q.k<|s2 z z,W⟩⟩
  .rintro _ ba ak rfl ⟨_,s8⟩;have aG:=elL a5;revert ba;refine Wo<|Wq ?_
   obtain ⟨bb,aH,aI⟩:=bdS aG;refine Wt (λa w=>∃(Y:Bool),Y=bb/\Sat 58 [(4,vB Y)] a/\Below ak.z ak w) ?_ ?_
   .refine Wg<|Rf z d_Q z ?_
    have al:=(hg.e s5).e s8;refine R z (l0 g_9 z<|al.at z) ?_;have an:=lt_ h1.s G.s;have ao:=lt_ (lt_ (lt_ (lt_ an h2.s) h3.s) s5.s) s8.s;obtain ⟨bc,be,a8⟩:=bdS aH;refine E z (fc call129 z<|W_w1t be (zt' J ao) aa) ?_;rintro _ _ ⟨s7,rfl⟩;refine Rm z ?_
    rcases bs bc with H | H
    .refine Rh z H (lN (vs:=[sl A0 N0 C0]) B_ w_ z z fid<|(((((hj.e h2).c h3<|djs<|mm1 he.lt G.s).e s5).e s8).e s7).row 0 1 z)<|Rh z H (lN (vs:=vR xk am nn co ap nq cr au ns ct av nw cx) R_ t_ z z fid<|(al.e s7).row 0 8 z) ?_
     have aq:∀k∈[I.z],¬B k:=or0 (a_ lr)<|m_<|zt' J an;have hh:=((((h2.ag B).c h3<|c_ aq).e s5).e s8).e s7;obtain ⟨bf,bg,aJ⟩:=bdS<|ifT a8 H;refine Eg z z H z (fc call130 z<|W_w34 bg (zt' J<|lt_ ao s7.s) (O.g<|((((hl.e h2).c h3<|c_ aq).e s5).e s8).e s7) aa aT aU (aV.g hh) (aW.g hh) (aX.g hh)<|hf.g hh) ?_;rintro _ _ ⟨bh,rfl⟩;exact R z (pT z H z)<|Ra z<|Wl (λ_ q=>⟨bf,som aJ,q.k<|s1 z,bup s7 bh⟩)
    iterate 3 refine Nh z H ?_
    exact R z (pF z H z)<|Ra z<|Wl (λ_ q=>⟨false,som<|ifF a8 H,q.k<|s1 z,s7⟩)
   rintro bi _ ⟨Y,rfl,_,bj⟩;revert bi;refine Wo ?_;obtain rfl:=som aI;exact Wr<|i_ hr z ⟨bup (bup (bup (bM (bup (bup h1 G) h2) h3<|m1<|lt_ h1.s G.s) s5) s8) bj,z⟩
  rintro _ _ _ _ rfl ⟨rfl,aK⟩;have aL:=elR a5;obtain rfl:=som aL;exact ⟨aK,z⟩
 rintro _ _ _ _ rfl ⟨rfl,aM⟩;have aN:=elR a2;obtain rfl:=som aN;exact ⟨aM,z⟩
theorem W_w36 {x1:g_}{res:Bool}(hm:g_V x1=some res)(O:B<=w0.z)(I:repS w0 B (sl A0 N0 C0) x1.rules):q_ prog 83 [(.agg #[sl A0 N0 C0])] w0 (Q0 w0 B res):=by
 unfold g_V at hm
 refine goG func83 z z z λfn hr=>Ws<|E z (fb z) ?_
 rintro _ H ⟨rfl,W⟩;have G:=W.below;have h2:Blk H w0.z [sl A0 N0 C0]:=W.blk;refine Rw z<|Wq<|Ws<|Rw z ?_
 obtain ⟨_,hug,V⟩:=bdS hm;refine Wf (σ:=Unit) (ρ:=Bool) (λ(ka:Nat)(_:Unit) a w=>Sat 19 [(1,pt w0.z),(3,vI ((ka:Nat):Int))] a/\Below H.z H w) (λ(_:Unit) a w=>Sat 19 [(1,pt w0.z)] a/\Below H.z H w) (rQ prog fn<|Q0 w0 B) hug ?_ ?_ ?_ ?_ ?_
 .exact λ_ q=>⟨q.k<|s2 z z,br H⟩
 .rintro ka _ _ _ _ J ⟨hSh,s3⟩ hmi;refine Wu ?_ hSh;refine Wq<|Wm z<|Rf z T_ z ?_
  have hb:=h2.e s3;refine R z (l0 V_ z<|hb.at z) ?_;have hd:=I.g<|(G.ag B).e s3
  refine R z (lnR N_ z hd)<|Rl z z z<|Wx z (λ_=>?_) (λhc=>(a_n J hc).elim)
  refine Wk<|Wq<|Wb<|Ws<|R z (lN (vs:=[sl A0 N0 C0]) B_ w_ z z fid<|hb.row 0 1 z)<|Rm z ?_
  obtain ⟨_,ej,hmc⟩:=bdS hmi;refine E z (fc call120 z<|W_w35 ej (zt' O<|lt_ G.s s3.s) hd<|ic (Nat.le_of_lt J)<|lt_ (repS.len I) X_) ?_;rintro _ _ ⟨se,rfl⟩;refine R z (not_ z)<|Wx z (λL=>?_) (λL=>?_)
  .exact Ws<|Rw z<|Wr<|rtO<|qL (som<|ifT hmc L).symm<|i_ hr z ⟨bup (bup G s3) se,z⟩
  exact Wk<|Wg<|Rm z<|R z (inc_ J (lt_ (repS.len I) X_) z z)<|Ra z<|Wl (λ_ q=>⟨(),(som<|ifF hmc L).symm,⟨q.k<|s2 z z,bup s3 se⟩⟩)
 .rintro _ _ _ ⟨hSk,s7⟩;refine Wu ?_ hSk;refine Wq<|Wm z<|Rf z T_ z<|R z (l0 V_ z<|(h2.e s7).at z)<|R z (lnR N_ z<|I.g<|(G.ag B).e s7)<|Rl z z z<|Wx z (λhc=>(a_o hc).elim) (λ_=>?_)
  exact We<|λ_ q=>⟨rfl,⟨q.k<|s1 z,s7⟩⟩
 .rintro _ al _ rfl ⟨_,s4⟩;have hmm:=elL V;revert al;refine Wo<|Ws<|Rf z T_ z<|R z (l0 V_ z<|(h2.e s4).at z) ?_
  have hf:=I.g<|(G.ag B).e s4
  refine R z (lnR N_ z hf) ?_;obtain ⟨_,en,hmo⟩:=bdS hmm;refine E z (fc call54 z<|b_j en (zt' O<|lt_ G.s s4.s) (b_2<|repS.len hf) (ii z)<|ii z) ?_;rintro _ _ ⟨sp,rfl⟩;refine Rw z ?_
  obtain rfl:=som hmo;exact Wr<|i_ hr z ⟨bup (bup G s4) sp,z⟩
 rintro _ _ _ _ rfl ⟨rfl,hqq⟩;have hmr:=elR V;obtain rfl:=som hmr;exact ⟨hqq,z⟩
theorem W_w37 {x1:g_}{x2:Int}{res:Bool}(hm:h_5 x1 x2=some res)(J:B<=w0.z)(I:repS w0 B (sl A0 N0 C0) x1.rules)(O:inI x2):q_ prog 67 [(.agg #[sl A0 N0 C0]),vI x2] w0 (Q0 w0 B res):=by
 unfold h_5 at hm
 refine goG func67 z z z λfn hr=>Ws<|E z (fb z) ?_
 rintro _ H ⟨rfl,h5⟩;have h1:=h5.below;have h6:Blk H w0.z [sl A0 N0 C0]:=h5.blk;refine Rw z<|Wq ?_
 obtain ⟨u8,V,hma⟩:=bdS hm;refine Wt (λa w=>∃(x4:Bool),x4=u8/\Sat 15 [(4,vB x4)] a/\Below H.z H w) ?_ ?_
 .refine Wg<|Rm z<|Rf z T_ z<|R z (l0 V_ z<|h6.at z)<|R z (lnR N_ z<|I.e h1)<|R z (sb_ z z) ?_
  obtain ⟨rb,ec,L⟩:=bdS V;refine E z (fc call54 z<|b_j ec (zt' J h1.s) O (ii z)<|iS _ _) ?_;rintro _ _ ⟨s2,rfl⟩;refine Rm z ?_
  rcases bs rb with G | G
  .refine Rh z G (lN (vs:=[sl A0 N0 C0]) B_ w_ z z fid<|(h6.e s2).row 0 1 z) ?_;obtain ⟨rd,ee,hmf⟩:=bdS<|ifT L G;refine Eg z z G z (fc call83 z<|W_w36 ee (zt' J<|lt_ h1.s s2.s)<|I.g<|(h1.ag B).e s2) ?_;rintro _ _ ⟨sg,rfl⟩;exact R z (pT z G z)<|Ra z<|Wl (λ_ q=>⟨rd,som hmf,q.k<|s1 z,bup s2 sg⟩)
  exact Nh z G<|Nh z G<|R z (pF z G z)<|Ra z<|Wl (λ_ q=>⟨false,som<|ifF L G,q.k<|s1 z,s2⟩)
 rintro ah _ ⟨x4,rfl,_,si⟩;revert ah;refine Wo ?_;obtain rfl:=som hma;exact Wr<|i_ hr z ⟨bup h1 si,z⟩
theorem W_w38 {x1:Bt}{x2:Bool}{res:Int}(hm:g_X x1 x2=some res)(V:B<=w0.z)(G:repS w0 B (sl A0 N0 C0) x1):q_ prog 121 [sl A0 N0 C0,vB x2] w0 (Q9 w0 B res):=by
 unfold g_X at hm
 refine goG func121 z z z λfn hr=>Ws<|Rw z<|Ws<|Rw z<|Wq<|Wm z<|R z (lnR s_ z G)<|R z (a_b z z)<|Wx z (λI=>?_) (λI=>?_)
 .refine Ws<|Rw z ?_
  obtain rfl:=som<|ifT hm I;exact Wr<|i_ hr z ⟨br w0,z,ii z⟩
 refine Wk<|Wq<|Ws<|Rw z ?_
 obtain ⟨_,hue,O⟩:=bdS<|ifF hm I;refine Wf (σ:=Int) (ρ:=Int) (λ(k1:Nat)(x0:Int) a w=>Sat 33 [(0,sl A0 N0 C0),(1,vB x2),(5,vI x0),(6,vI ((k1:Nat):Int))] a/\Below w0.z w0 w/\inI x0) (λ(x0:Int) a w=>Sat 33 [(5,vI x0)] a/\Below w0.z w0 w/\inI x0) (rQ prog fn<|Q9 w0 B) hue ?_ ?_ ?_ ?_ ?_
 .exact λ_ q=>⟨q.k<|s4 z z z z,br w0,ii z⟩
 .rintro k1 x0 _ H _ J ⟨hSf,s7,h3⟩ hmg;refine Wu ?_ hSf;refine Wq<|Wm z<|Rm z ?_
  have ha:=G.e s7;refine R z (lnR s_ z ha)<|Rl z z z<|Wx z (λ_=>?_) (λhc=>(a_n J hc).elim)
  refine Wk<|Wq<|Wb<|Wm z<|Rw z<|Wq<|Wm z<|Wn ?_
  obtain ⟨uh,hub,hmi⟩:=bdS hmg;refine Wt (λa w=>∃(x4:Int),x4=uh/\Sat 33 [(0,sl A0 N0 C0),(1,vB x2),(5,vI x0),(6,vI ((k1:Nat):Int)),(7,vI x4)] a/\Below H.z H w/\inI x4) ?_ ?_
  .refine Wc z (λL=>?_)<|λL=>?_
   .exact Wg<|Rm z<|R z (lnR s_ z ha)<|R z (sb_ z z)<|Rm z<|R z (sb_ z z)<|Ra z<|Wl (λ_ q=>⟨J_ (J_ (x1.length:Int) 1) ((k1:Nat):Int),som<|ifT hub L,q.k<|s5 z z z z z,br H,iS _ _⟩)
   exact a_c<|λ_ q=>⟨((k1:Nat):Int),som<|ifF hub L,q.k<|s5 z z z z z,br H,ic (Nat.le_of_lt J)<|lt_ (repS.len G) X_⟩
  rintro aj _ ⟨x4,rfl,_,sc,_⟩;revert aj;refine Wo<|Wg<|Rm z<|R z (c_E z z)<|RM z z ?_
  obtain ⟨xk,el,hmm⟩:=bdS hmi;refine RX z (at_ (α:=UInt8) s_ z_5 z z z (G.g<|(s7.ag B).e sc) el) ?_;rintro _ ⟨_,_,_,rfl,hn,ho,_⟩;obtain rfl:=u8 ho;exact R z (l0 g_5 z<|hn.at0 z)<|R z (c_7 d_5 d_3 z)<|R z (add_ z z)<|Rw z<|Wg<|Rm z<|R z (inc_ J (lt_ (repS.len G) X_) z z)<|Ra z<|Wl (λ_ q=>⟨j_ (a_f x0 256)<|byteI xk,(som hmm).symm,⟨q.k<|s4 z z z z,bup s7 sc,iA _ _⟩⟩)
 .rintro x0 _ _ ⟨hSp,sd,h3⟩;refine Wu ?_ hSp;refine Wq<|Wm z<|Rm z<|R z (lnR s_ z<|G.e sd)<|Rl z z z<|Wx z (λhc=>(a_o hc).elim) (λ_=>?_)
  exact We<|λ_ q=>⟨rfl,⟨q.k<|s1 z,sd,h3⟩⟩
 .rintro x0 aq _ rfl ⟨_,sr,h3⟩;have hms:=elL O;revert aq;refine Wo<|Wm z<|Rw z ?_
  obtain rfl:=som hms;exact Wr<|i_ hr z ⟨sr,z,h3⟩
 rintro _ _ _ _ rfl ⟨rfl,hqt⟩;have hmu:=elR O;obtain rfl:=som hmu;exact ⟨hqt,z⟩
def Q38 (w0:World)(B:Zone)(r:Int×Int×Bool)(v:Value)(w':World):Prop:=Bw w0 w'/\un3 (λG H I=>v = .tuple #[vI G,vI H,vB I]/\inI G/\inI H) r
theorem j_X {x1:g_}{x2:Int}{x3:Bt}{x4:Int}{res:Int×Int×Bool}(hm:e_I x1 x2 x3 x4=some res)(L:B<=w0.z)(Y:repS w0 B (sl A0 N0 C0) x1.rules)(a5:inI x2)(J:repS w0 B (sl A7 N7 C7) x3)(a0:inI x4):q_ prog 84 [(.agg #[sl A0 N0 C0]),vI x2,sl A7 N7 C7,vI x4] w0 (Q38 w0 B res):=by
 unfold e_I at hm
 refine goG func84 z z z λfn hr=>Ws<|E z (fb z) ?_
 rintro _ I ⟨rfl,V⟩;have G:=V.below;refine RA z z<|Rw z<|Ws<|Rf z T_ z<|R z (l0 V_ z<|(V.blk:Blk I w0.z [sl A0 N0 C0]).at z)<|Rm z ?_
 obtain ⟨W,em,O⟩:=bdS hm;refine RX z (at_ (α:=d_) N_ t_ z z z (Y.e G) em) ?_;rintro _ ⟨_,_,_,rfl,ht,hu,_⟩;obtain ⟨aa,nb,cc,ad,ne,cf,ah,ng,ci,aj,nk,cl,rfl,_,_,_,_,_,_,_⟩:=a_T hu;refine R z (lN (vs:=vR W aa nb cc ad ne cf ah ng ci aj nk cl) R_ t_ z z fid ht)<|E z (fa b_M) ?_
 rintro _ wr ⟨rfl,hn⟩;have h1:=hn.below;refine E0 (fs0 (cur':=vR W aa nb cc ad ne cf ah ng ci aj nk cl) t_ z z (hn.blk:Blk wr I.z [(Str.v (⟨[]⟩:Str)),vI 0,vI 0,vB false,sN,sN,sN,sN]) z z z z) ?_;rintro _ _ ⟨ho,ss⟩;have h2:=ss.one;refine Wn<|Wq<|Wm z ?_
 have hp:=((G.ag B).e h1).c h2<|c_ (or0 (a_ lr) (m_<|zt' L G.s):∀k∈[I.z],¬B k)
 refine R z (lnR s_ z<|J.g hp)<|Rm z<|R z (sb_ z z)<|Rf z a_W z<|R z (l0 g_3 z<|ho.at z)<|Rl z z z<|Wx z (λH=>?_) (λH=>?_)
 .refine Wm z<|RA z z<|Rw z ?_
  obtain rfl:=som<|ifT O H;exact Wr<|L_ hr z z z ⟨bM (bup G h1) h2<|m1 G.s,z,ii z,a0⟩
 refine Wk<|Wq (Wd (X:=noX) 0 (.rd 0<|.rd 1<|.rd 2<|.rd 3<|.rd 4<|.rd 5<|.rd 6<|.rd 7<|.rd 8<|.rd 10<|.rd 11<|.rd 12<|.rd 13<|.ef 9<|.rd 14<|.rd 15<|.rd 16 .done) mo (by kernel_rfl) λa6 s3 _=>?_)
 iterate 3 refine dM z z z ?_
 refine dR z z (fd a_W z) ?_;have h6:=ho.e s3;refine dR z z (l0 g_3 z<|h6.at z)<|dR z z (add_ z z) ?_
 obtain ⟨_,ex,hmy⟩:=bdS<|ifF O H;refine dRX z z (rX s_ z_5 z z (J.g<|hp.e s3) z z ex) ?_;rintro _ ⟨_,_,_,rfl,hz⟩;refine dR z z (fd c_2 z)<|dR z z (l0 g_4 z<|h6.at z)<|dM z z z<|dR z z (fd a_W z)<|dR z z (l0 g_3 z<|h6.at z)<|dR z z (add_ z z) ?_
 obtain ⟨_,a2,a1⟩:=bdS hmy;refine dE z z (fc call121 z<|W_w38 a2 (zt' L<|lt_ (lt_ (lt_ G.s h1.s) h2.s) s3.s) hz) (.inr λ_ _ h=>x_<|h.1) ?_;rintro _ _ ⟨a3,rfl,a4⟩
 iterate 3 refine dQ z z z ?_
 refine pD<|Wo ?_
 obtain rfl:=som a1;exact Wr<|L_ hr z z z ⟨bup (bup (bM (bup G h1) h2<|m1 G.s) s3) a3,z,a4,iA _ _⟩
theorem W_w39 {x1:d_}{x2:Bt}{x3:Int}{res:Val×Int×Int}(hm:g_Y x1 x2 x3=some res)(ab:B<=w0.z)(a5:x1.name.b.length<=LEN)(a6:inI x1.kind)(a7:inI x1.size)(I:repS w0 B (sl A9 N9 C9) x1.bytes)(a8:repS w0 B (sl A8 N8 C8) x1.names)(a9:repS w0 B (sl AA NA CA) x1.tags)(aa:repS w0 B (sl AB NB CB) x1.kids)(O:repS w0 B (sl A6 N6 C6) x2)(V:inI x3):q_ prog 85 [(.agg #[Str.v x1.name,vI x1.kind,vI x1.size,vB x1.little,sl A9 N9 C9,sl A8 N8 C8,sl AA NA CA,sl AB NB CB]),sl A6 N6 C6,vI x3] w0 (Q37 w0 B res):=by
 unfold g_Y at hm
 refine goG func85 z z z λfn hr=>Ws<|E z (fb z) ?_
 rintro _ J ⟨rfl,he⟩;have G:=he.below;have h5:Blk J w0.z (vR x1 A9 N9 C9 A8 N8 C8 AA NA CA AB NB CB):=he.blk;refine E z (fa a_q) ?_;rintro _ H ⟨rfl,hf⟩;have h1:=hf.below;have L:Blk H J.z [vI 0,sN,sN]:=hf.blk;refine Ra z<|Rw z<|Wq<|Ws<|Rw z ?_
 obtain ⟨_,hun,hmg⟩:=bdS hm;refine Wf (σ:=Unit) (ρ:=Val×Int×Int) (λ(kh:Nat)(_:Unit) a w=>Sat 47 [(1,sl A6 N6 C6),(2,vI x3),(3,pt w0.z),(6,pt J.z),(9,vI ((kh:Nat):Int))] a/\Below H.z H w) (λ(_:Unit) a w=>Sat 47 [(2,vI x3),(3,pt w0.z),(6,pt J.z)] a/\Below H.z H w) (rQ prog fn<|Q37 w0 B) hun ?_ ?_ ?_ ?_ ?_
 .exact λ_ q=>⟨q.k<|s5 z z z z z,br H⟩
 .rintro kh _ _ _ _ hki ⟨hSo,s2⟩ hmj;refine Wu ?_ hSo;refine Wq<|Wm z<|Rf z a_N z ?_
  have hk:=(h5.e h1).e s2;refine R z (l0 U_ z<|hk.at z) ?_;have ha:=((G.ag B).e h1).e s2;refine R z (lnR s_ z<|I.g ha)<|Rl z z z<|Wx z (λ_=>?_) (λhc=>(a_n hki hc).elim)
  refine Wk<|Wq<|Wb<|Wq<|Wm z<|Rm z<|R z (add_ z z)<|Rm z<|R z (lnR s_ z<|O.g ha)<|R z (b_z z z)<|Wx z (λhcb=>?_) (λhcb=>?_)
  .refine Ws<|R z (bP (parts:=[]) (cs:=[vI 0,sN,sN]) a_7 z z)<|Rm z<|E0 (fs0 (cur':=[vI 0,sN,sN]) n_ z z (L.e s2) z z z z) ?_
   rintro _ _ ⟨hp,sq⟩;exact Ra z<|Rw z<|Wr<|rtO<|qL (som<|ifT hmj hcb).symm<|L_ hr (v_ I_ n_ z hp z) z z ⟨bM (bup (bup G h1) s2) sq.one<|m1 G.s,none,0,0,[],none,0,0,[],z,ii z,onL,onL,V,ii z,nd0,al0⟩
  refine Wk<|Wq (Wd (X:=noX) 0 (pl_ 12 []) mo (by kernel_rfl) λad s6 _=>?_)
  iterate 3 refine dM z z z ?_
  refine dR z z (add_ z z) ?_;obtain ⟨_,er,hms⟩:=bdS<|ifF hmj hcb;have hl:=ha.e s6;refine dRX z z (at_ (α:=UInt8) s_ z_5 z z z (O.g hl) er) ?_;rintro _ ⟨_,_,_,rfl,ht,hu,_⟩;obtain rfl:=u8 hu;refine dR z z (l0 g_5 z<|ht.at0 z)<|dR z z (fd a_N z)<|dR z z (l0 U_ z<|(hk.e s6).at z)<|dM z z z ?_
  obtain ⟨_,ev,hmm⟩:=bdS hms;refine dRX z z (at_ (α:=UInt8) s_ z_5 z z z (I.g hl) ev) ?_;rintro _ ⟨_,_,_,rfl,hw,hx,_⟩;obtain rfl:=u8 hx;refine dR z z (l0 g_5 z<|hw.at0 z)<|dR z z (nq z z)<|pD<|Wo<|Wc z (λhcc=>?_) (λhcc=>?_)
  .refine Ws<|R z (bP (parts:=[]) (cs:=[vI 0,sN,sN]) a_7 z z)<|RM z z<|R z (add_ z z)<|E0 (fs0 (cur':=[vI 0,sN,sN]) n_ z z ((L.e s2).e s6) z z z z) ?_
   rintro _ _ ⟨hy,sz⟩;exact Ra z<|Rw z<|Wr<|rtO<|qL (som<|ifT hmm hcc).symm<|L_ hr (v_ I_ n_ z hy z) z z ⟨bM (bup (bup (bup G h1) s2) s6) sz.one<|m1 G.s,none,0,0,[],none,0,0,[],z,ii z,onL,onL,iA _ _,ii z,nd0,al0⟩
  exact Wk<|Wg<|Rm z<|R z (inc_ hki (lt_ (repS.len I) X_) z z)<|Ra z<|Wl (λ_ q=>⟨(),(som<|ifF hmm hcc).symm,⟨q.k<|s5 z z z z z,bup s2 s6⟩⟩)
 .rintro _ _ _ ⟨W,sd⟩;refine Wu ?_ W;refine Wq<|Wm z<|Rf z a_N z<|R z (l0 U_ z<|((h5.e h1).e sd).at z)<|R z (lnR s_ z<|I.g<|((G.ag B).e h1).e sd)<|Rl z z z<|Wx z (λhc=>(a_o hc).elim) (λ_=>?_)
  exact We<|λ_ q=>⟨rfl,⟨q.k<|s3 z z z,sd⟩⟩
 .rintro _ a2 _ rfl ⟨_,s7⟩;have Y:=elL hmg;revert a2;refine Wo<|Wq (Wd (X:=(· ∈ [J.z])) 0 (pl_ 9 [6]) mo (by kernel_rfl) λae s8 _=>dR z z (bP (parts:=[]) (cs:=[vI 0,sN,sN]) a_7 z z)<|dM z z z<|dR z z (fd a_N z)<|dR z z (l1 U_ z (djs<|mmr h5.lt)<|(((h5.e h1).e s7).e s8).at z)<|dR z z (lnR s_ z<|I.g<|(((G.ag B).e h1).e s7).e s8)<|dR z z (add_ z z)<|dE0 z (fs0 (cur':=[vI 0,sN,sN]) n_ z z ((L.e s7).e s8) z z z z) (.inr λ_ _ h=>i_4 (List.mem_singleton.2 z) h.2) ?_)
  rintro _ _ ⟨a3,a4⟩;refine dQ z z z<|dQ z z z<|pD<|Wo ?_
  obtain rfl:=som Y;exact Wr<|L_ hr (v_ I_ n_ z a3 z) z z ⟨bM (bup (bup (bup G h1) s7) s8) a4.one<|m1 G.s,none,0,0,[],none,0,0,[],z,ii z,onL,onL,iA _ _,ii z,nd0,al0⟩
 rintro _ _ _ _ rfl ⟨rfl,a0⟩;have a1:=elR hmg;obtain rfl:=som a1;exact ⟨a0,z⟩
theorem W_w1u {x1:Bt}{x2:Int}{x3:Int}{res:Val×Int×Int}(hm:f_A x1 x2 x3=some res)(a1:B<=w0.z)(O:repS w0 B (sl A0 N0 C0) x1)(Y:inI x2)(a0:inI x3):q_ prog 86 [sl A0 N0 C0,vI x2,vI x3] w0 (Q37 w0 B res):=by
 unfold f_A at hm
 refine goG func86 z z z λfn hr=>Ws<|E z (fa a_q) ?_
 rintro _ we ⟨rfl,V⟩;have G:=V.below;have h2:Blk we w0.z [vI 0,sN,sN]:=V.blk;refine Ra z<|Rw z<|Wq<|Wm z<|R z (lnR s_ z<|O.e G)<|Rm z<|R z (sb_ z z)<|Rm z<|Rl z z z<|Wx z (λH=>?_) (λH=>?_)
 .refine Ws<|R z (bP (parts:=[]) (cs:=[vI 0,sN,sN]) a_7 z z)<|Rm z<|E0 (fs0 (cur':=[vI 0,sN,sN]) n_ z z h2 z z z z) ?_
  rintro _ _ ⟨hf,sg⟩;refine Ra z<|Rw z ?_
  obtain rfl:=som<|ifT hm H;exact Wr<|L_ hr (v_ I_ n_ z hf z) z z ⟨bM G sg.one<|a_ lr,none,0,0,[],none,0,0,[],z,ii z,onL,onL,Y,ii z,nd0,al0⟩
 refine Wk<|Ws<|E z (f0 (α:=UInt8) H_) ?_
 rintro _ _ ⟨_,_,_,rfl,s1,hh⟩;refine RM z z<|RM z z<|R z (add_ z z) ?_
 obtain ⟨_,ei,hmj⟩:=bdS<|ifF hm H;refine RX z (rX s_ z_5 z z (O.g<|(G.ag B).e s1) z z ei) ?_;rintro _ ⟨_,_,_,rfl,hk⟩;obtain ⟨_,el,hmm⟩:=bdS hmj;refine E z (fN (α:=UInt8) H_ el z z hh a_p hk) ?_;rintro _ _ ⟨W,I,J,L,rfl,s9,hn,ho,ha⟩;refine R z (bP (parts:=[(1,.tmp 24)]) (cs:=[vI 0,sl I J L,sN]) a_7 z z)<|RM z z<|R z (add_ z z) ?_
 have hb:=mmr h2.lt;refine E0 (fs0 (cur':=[vI 0,sl I J L,sN]) n_ z z ((h2.e s1).c s9<|djs hb) z z z z) ?_;rintro _ _ ⟨hp,sq⟩;have hc:=sq.one;refine Ra z<|Rw z ?_
 obtain rfl:=som hmm;have hd:=m1 G.s;exact Wr<|L_ hr (v_ I_ n_ z hp z) z z ⟨bM (bM (bup G s1) s9 hd) hc<|a_ lr,I,J,L,W,none,0,0,[],z,ii z,hn.c hc (or1 ha hb (k_ (a_ h2.lt) s1.s):∀k∈W,k∉[w0.z]),onL,iA _ _,ii z,na_ ho z_<|nmN _,aa_ (a_0 ha hd<|lt_ G.s s1.s) an_⟩
theorem W_w3a {x1:Bt}{x2:Int}{x3:UInt8}{res:Bt×Int×Bool}(hm:g_Z n x1 x2 x3=some res)(W:B<=w0.z)(O:repS w0 B (sl A0 N0 C0) x1)(V:inI x2):q_ prog 87 [sl A0 N0 C0,vI x2,vU<|byteI x3] w0 (Q18 w0 B res):=by
 unfold g_Z at hm
 refine goG func87 z z z λfn hr=>Ws<|RA z z<|Rw z<|Ws<|E z (f0 (α:=UInt8) H_) ?_
 rintro _ G ⟨al,am,an,rfl,s9,ao⟩;refine Rw z<|Wq<|Wm z<|Rw z ?_
 obtain ⟨_,a7,hmr⟩:=bdS hm;refine c_0 (σ:=Bt×Int) (ρ:=Bt×Int×Bool) (λs a w=>un2 (λxb x5=>∃a2 I J H,Sat 54 [(0,sl A0 N0 C0),(1,vI x2),(2,vU<|byteI x3),(9,sl a2 I J),(10,vI x5)] a/\Cg [w0.z] G w/\b_ w H (sl a2 I J) xb/\H.Nodup/\(∀k∈H,k∈[w0.z]∨G.z<=k)/\inI x5) s) (λs a w=>un2 (λxb x5=>∃a2 I J H,Sat 54 [(1,vI x2)] a/\Cg [w0.z] G w/\b_ w H (sl a2 I J) xb/\H.Nodup/\(∀k∈H,k∈[w0.z]∨G.z<=k)/\inI x5) s) (rQ prog fn<|Q18 w0 B) a7 ?_ ?_ ?_ ?_
 .exact λ_ q=>⟨al,am,an,[w0.z],q.k<|s5 z z z z z,cr [w0.z] G,ao,a_p,io sr,V⟩
 .rintro ⟨xb,x5⟩ _ wc _ ⟨a2,I,J,H,a8,s8,hd,he,hf,hi⟩ a9;refine Wu ?_ a8;refine Wq<|Wq ?_
  obtain ⟨ap,aa,hms⟩:=bdS<|a_A a9;refine Wt (λa w=>∃(xj:Bool),xj=ap/\Sat 54 [(0,sl A0 N0 C0),(1,vI x2),(2,vU<|byteI x3),(9,sl a2 I J),(10,vI x5),(22,vB xj)] a/\Below wc.z wc w) ?_ ?_
  .refine Wg<|RM z z ?_
   have hu:=(s9.ag B).c s8<|c_ (or0 (a_ lr) (m_ W):∀k∈[w0.z],¬B k)
   have hv:=O.g hu;refine R z (lnR s_ z hv) ?_;obtain ⟨aq,ar,hmw⟩:=bdS aa;refine E z (fc call54 z<|b_j ar (zt' W<|lt_ s9.s s8.s) V (ii z)<|b_2<|repS.len hv) ?_;rintro _ _ ⟨sk,rfl⟩;refine Rm z ?_
   rcases bs aq with L | L
   .exact Rh z L (mv z)<|Rh z L (mv z)<|Rh z L (lnR s_ z<|O.g<|hu.e sk)<|Rh z L (lss z z)<|R z (pT z L z)<|Wl (λ_ q=>⟨decide<|x5<(x1.length:Int),som<|ifT hmw L,q.k<|s6 z z z z z z,sk⟩)
   iterate 4 refine Nh z L ?_
   exact R z (pF z L z)<|Wl (λ_ q=>⟨false,som<|ifF hmw L,q.k<|s6 z z z z z z,sk⟩)
  rintro au wa ⟨xj,rfl,_,s7⟩;revert au;refine Wo<|Wc z (λhcl=>?_) (λhcl=>?_)
  .refine Wk<|Wq<|Wb<|Wq<|Wm z<|Rm z ?_
   obtain ⟨_,av,hmx⟩:=bdS<|ifT hms hcl;have hy:=((s9.ag B).c s8<|c_ (or0 (a_ lr) (m_ W):∀k∈[w0.z],¬B k)).e s7;have hn:=O.g hy;refine RX z (at_ (α:=UInt8) s_ z_5 z z z hn av) ?_;rintro _ ⟨_,_,_,rfl,aw,ax,_⟩;obtain rfl:=u8 ax;refine R z (l0 g_5 z<|aw.at0 z)<|Rm z<|Rq z z z<|Wx z (λhcm=>?_) (λhcm=>?_)
   .refine Wm z<|Rm z<|R z (add_ z z)<|RA z z<|Rw z ?_
    exact Wr<|rtO<|qL (som<|ifT hmx hcm).symm<|L_ hr z z z ⟨bup (bM s9 s8<|a_ lr) s7,a2,I,J,H,z,hd.e s7,iA _ _,he,(or1 hf (a_ lr) (b_6 s9.s):∀k∈H,w0.z<=k)⟩
   refine Wk<|Wq<|Wm z<|Rm z ?_
   obtain ⟨_,ay,ab⟩:=bdS<|ifF hmx hcm;refine RX z (at_ (α:=UInt8) s_ z_5 z z z hn ay) ?_;rintro _ ⟨_,_,_,rfl,az,aA,_⟩;obtain rfl:=u8 aA;refine R z (l0 g_5 z<|az.at0 z)<|Rq z z z<|Wn ?_
   obtain ⟨aB,huz,Y⟩:=bdS ab;refine Wt (λa w=>∃(xg:Int),Sum.inl xg=aB/\Sat 54 [(0,sl A0 N0 C0),(1,vI x2),(2,vU<|byteI x3),(9,sl a2 I J),(10,vI xg)] a/\Below wa.z wa w/\inI xg) ?_ ?_
   .refine Wc z (λhco=>?_)<|λhco=>?_
    .have a0:=ifT huz hco;refine Wm z<|R z (add_ z z)<|Rw z<|Wm z<|Rm z<|R z (lnR s_ z hn)<|Rq z z z<|Wx z (λhcp=>?_) (λhcp=>?_)
     .obtain rfl:=som<|ifT a0 hcp;have ad:=elR Y;exact We<|exO z (λ_ q=>b_n (som ad).symm ⟨a2,I,J,H,q.k<|s1 z,(e_ (cM (cr [w0.z] G) s8 (io sr):Cg [w0.z] G wc) s7:Cg [w0.z] G wa),hd.e s7,he,(or1 hf (io sr) (o_ lr):∀k∈H,k∈[w0.z]∨G.z<=k),iA _ _⟩)
     exact a_c<|λ_ q=>⟨j_ x5 1,som<|ifF a0 hcp,q.k<|s5 z z z z z,br wa,iA _ _⟩
    exact a_c<|λ_ q=>⟨x5,som<|ifF huz hco,q.k<|s5 z z z z z,br wa,hi⟩
   rintro aC a1 ⟨xg,rfl,_,sh,_⟩;have ae:=elL Y;revert aC;refine Wo<|Wg<|RM z z<|Rm z ?_
   obtain ⟨aD,aE,af⟩:=bdS ae;refine RX z (at_ (α:=UInt8) s_ z_5 z z z (O.g<|hy.e sh) aE) ?_;rintro _ ⟨_,_,_,rfl,aF,aG,_⟩;obtain rfl:=u8 aG;refine R z (l0 g_5 z<|aF.at0 z)<|E z (fS [(.tmp 49)] H_ z z z (S_ z) (lb z)<|lb z) ?_
   rintro _ a3 ⟨rfl,hq⟩;have ht:=hq.below;have aY:=a_d hq a_t;obtain ⟨aH,aI,ah⟩:=bdS af;refine E z (a_i (α:=UInt8) H_ aI z z (((hd.e s7).e sh).e ht) he (hq.blk:Blk a3 a1.z [vU (byteI aD)]) a_t an_ z_) ?_;rintro _ aJ ⟨a4,aK,aL,aM,rfl,aN,aO,aP,aQ⟩;refine Rw z<|Wg<|Rm z<|R z (add_ z z)<|Ra z<|Wl ?_
   have a5:∀k∈H,k∈[w0.z]∨G.z<=k:=or1 hf (io sr)<|o_ lr;exact λ_ q=>⟨(aH,j_ xg 1),(som ah).symm,⟨aK,aL,aM,a4,q.k<|s5 z z z z z,(cM (e_ (e_ (e_ (cM (cr [w0.z] G) s8 (io sr):Cg [w0.z] G wc) s7:Cg [w0.z] G wa) sh:Cg [w0.z] G a1) ht:Cg [w0.z] G a3) aN a5:Cg [w0.z] G aJ),aO,aP,(or2 aQ a5 an_ (o_<|lt_ (lt_ (lt_ s8.s s7.s) sh.s) ht.s):∀k∈a4,k∈[w0.z]∨G.z<=k),iA _ _⟩⟩
  exact We<|λ_ q=>b_n (som<|ifF hms hcl).symm ⟨a2,I,J,H,q.k<|s1 z,(e_ (cM (cr [w0.z] G) s8 (io sr):Cg [w0.z] G wc) s7:Cg [w0.z] G wa),hd.e s7,he,(or1 hf (io sr) (o_ lr):∀k∈H,k∈[w0.z]∨G.z<=k),hi⟩
 .rintro ⟨xb,x5⟩ aR aS rfl ⟨a2,I,J,H,_,a6,hd,he,hf,hi⟩;have ai:=elL hmr;revert aR;refine Wo<|Ws<|E z (f0 (α:=UInt8) H_) ?_
  rintro _ _ ⟨aT,aU,aV,rfl,aW,aX⟩;refine Rm z<|RA z z<|Rw z ?_
  obtain rfl:=som<|a_A ai;exact Wr<|L_ hr z z z ⟨bup (bM s9 a6<|a_ lr) aW,aT,aU,aV,[aS.z],z,aX,V,a_p,m1<|lt_ s9.s a6.s⟩
 rintro _ _ _ _ rfl ⟨rfl,aj⟩;have ak:=elR hmr;obtain rfl:=som ak;exact ⟨aj,z⟩
structure j_Y (f:g_->Int->Bt->Int->Option (Val×Int×Int)):Prop where
  run:∀{A0 A7:Option Addr}{N0 C0 N7 C7:Nat}{B:Zone}{x1:g_}{x2:Int}{x3:Bt}{x4:Int}{res:Val×Int×Int}{w0:World}(hm:f x1 x2 x3 x4=some res)(hBw:B<=w0.z)(p1_0:repS w0 B (sl A0 N0 C0) x1.rules)(p2_0:inI x2)(p3_0:repS w0 B (sl A7 N7 C7) x3)(p4_0:inI x4),q_ prog 68 [(.agg #[sl A0 N0 C0]),vI x2,sl A7 N7 C7,vI x4] w0<|Q37 w0 B res
structure j_Z (f:g_->d_->Int->Int->Bt->Int->Option (Val×Int×Int)):Prop where
  run:∀{A0 A3 A4 A2 A5 AE:Option Addr}{N0 C0 N3 C3 N4 C4 N2 C2 N5 C5 NE CE:Nat}{B:Zone}{x1:g_}{x2:d_}{x3:Int}{x4:Int}{x5:Bt}{x6:Int}{res:Val×Int×Int}{w0:World}(hm:f x1 x2 x3 x4 x5 x6=some res)(hBw:B<=w0.z)(p1_0:repS w0 B (sl A0 N0 C0) x1.rules)(p2_0:x2.name.b.length<=LEN)(p2_1:inI x2.kind)(p2_2:inI x2.size)(p2_4:repS w0 B (sl A3 N3 C3) x2.bytes)(p2_5:repS w0 B (sl A4 N4 C4) x2.names)(p2_6:repS w0 B (sl A2 N2 C2) x2.tags)(p2_7:repS w0 B (sl A5 N5 C5) x2.kids)(p3_0:inI x3)(p4_0:inI x4)(p5_0:repS w0 B (sl AE NE CE) x5)(p6_0:inI x6),q_ prog 88 [(.agg #[sl A0 N0 C0]),.agg #[Str.v x2.name,vI x2.kind,vI x2.size,vB x2.little,sl A3 N3 C3,sl A4 N4 C4,sl A2 N2 C2,sl A5 N5 C5],vI x3,vI x4,sl AE NE CE,vI x6] w0<|Q37 w0 B res
structure k_0 (f:g_->d_->Bt->Int->Option (Val×Int×Int)):Prop where
  run:∀{A0 A3 A4 A2 A5 A7:Option Addr}{N0 C0 N3 C3 N4 C4 N2 C2 N5 C5 N7 C7:Nat}{B:Zone}{x1:g_}{x2:d_}{x3:Bt}{x4:Int}{res:Val×Int×Int}{w0:World}(hm:f x1 x2 x3 x4=some res)(hBw:B<=w0.z)(p1_0:repS w0 B (sl A0 N0 C0) x1.rules)(p2_0:x2.name.b.length<=LEN)(p2_1:inI x2.kind)(p2_2:inI x2.size)(p2_4:repS w0 B (sl A3 N3 C3) x2.bytes)(p2_5:repS w0 B (sl A4 N4 C4) x2.names)(p2_6:repS w0 B (sl A2 N2 C2) x2.tags)(p2_7:repS w0 B (sl A5 N5 C5) x2.kids)(p3_0:repS w0 B (sl A7 N7 C7) x3)(p4_0:inI x4),q_ prog 89 [(.agg #[sl A0 N0 C0]),.agg #[Str.v x2.name,vI x2.kind,vI x2.size,vB x2.little,sl A3 N3 C3,sl A4 N4 C4,sl A2 N2 C2,sl A5 N5 C5],sl A7 N7 C7,vI x4] w0<|Q37 w0 B res
structure k_1 (f:g_->d_->Bt->Int->Option (Val×Int×Int)):Prop where
  run:∀{A0 A3 A4 A2 A5 A7:Option Addr}{N0 C0 N3 C3 N4 C4 N2 C2 N5 C5 N7 C7:Nat}{B:Zone}{x1:g_}{x2:d_}{x3:Bt}{x4:Int}{res:Val×Int×Int}{w0:World}(hm:f x1 x2 x3 x4=some res)(hBw:B<=w0.z)(p1_0:repS w0 B (sl A0 N0 C0) x1.rules)(p2_0:x2.name.b.length<=LEN)(p2_1:inI x2.kind)(p2_2:inI x2.size)(p2_4:repS w0 B (sl A3 N3 C3) x2.bytes)(p2_5:repS w0 B (sl A4 N4 C4) x2.names)(p2_6:repS w0 B (sl A2 N2 C2) x2.tags)(p2_7:repS w0 B (sl A5 N5 C5) x2.kids)(p3_0:repS w0 B (sl A7 N7 C7) x3)(p4_0:inI x4),q_ prog 90 [(.agg #[sl A0 N0 C0]),.agg #[Str.v x2.name,vI x2.kind,vI x2.size,vB x2.little,sl A3 N3 C3,sl A4 N4 C4,sl A2 N2 C2,sl A5 N5 C5],sl A7 N7 C7,vI x4] w0<|Q37 w0 B res
structure k_2 (f:g_->d_->Bt->Int->Option (Val×Int×Int)):Prop where
  run:∀{A0 A3 A4 A2 A5 A7:Option Addr}{N0 C0 N3 C3 N4 C4 N2 C2 N5 C5 N7 C7:Nat}{B:Zone}{x1:g_}{x2:d_}{x3:Bt}{x4:Int}{res:Val×Int×Int}{w0:World}(hm:f x1 x2 x3 x4=some res)(hBw:B<=w0.z)(p1_0:repS w0 B (sl A0 N0 C0) x1.rules)(p2_0:x2.name.b.length<=LEN)(p2_1:inI x2.kind)(p2_2:inI x2.size)(p2_4:repS w0 B (sl A3 N3 C3) x2.bytes)(p2_5:repS w0 B (sl A4 N4 C4) x2.names)(p2_6:repS w0 B (sl A2 N2 C2) x2.tags)(p2_7:repS w0 B (sl A5 N5 C5) x2.kids)(p3_0:repS w0 B (sl A7 N7 C7) x3)(p4_0:inI x4),q_ prog 91 [(.agg #[sl A0 N0 C0]),.agg #[Str.v x2.name,vI x2.kind,vI x2.size,vB x2.little,sl A3 N3 C3,sl A4 N4 C4,sl A2 N2 C2,sl A5 N5 C5],sl A7 N7 C7,vI x4] w0<|Q37 w0 B res
abbrev f_h (n:Nat):Prop:=j_Y (a_x n).spec_l11Read/\j_Z (a_x n).spec_l11Items/\k_0 (a_x n).spec_l11Choice/\k_1 (a_x n).spec_l11Option/\k_2 (a_x n).spec_l11Checked
theorem T_w04 (ih:f_h n):j_Y (h_0 n<|a_x n):=by
 obtain ⟨_,bo,db,dc,dd⟩:=ih
 constructor
 intro A0 A7 N0 C0 N7 C7 B x1 x2 x3 x4 res w0 hm H W d0 J I;unfold h_0 at hm
 refine goG func68 z z z λfn hr=>Ws<|E z (fb z) ?_
 rintro _ bp ⟨rfl,bq⟩;have h3:=bq.below;have hn:Blk bp w0.z [sl A0 N0 C0]:=bq.blk;refine E z (fa a_q) ?_;rintro _ L ⟨rfl,br⟩;have h4:=br.below;have h2:Blk L bp.z [vI 0,sN,sN]:=br.blk;refine Ra z<|Rw z<|Ws<|Rf z T_ z ?_
 have ho:=hn.e h4;refine R z (l0 V_ z<|ho.at z)<|Rm z ?_
 obtain ⟨xa,de,b9⟩:=bdS hm;have O:=(h3.ag B).e h4;refine RX z (at_ (α:=d_) N_ t_ z z z (W.g O) de) ?_;rintro _ ⟨_,_,_,rfl,df,dg,_⟩;obtain ⟨ab,nc,cd,ae,nf,cg,ah,ni,cj,ak,nl,cm,rfl,hu,hv,hp,hq,hw,hx,ht⟩:=a_T dg;refine R z (lN (vs:=vR xa ab nc cd ae nf cg ah ni cj ak nl cm) R_ t_ z z fid df)<|E z (fa b_M) ?_
 rintro _ dh ⟨rfl,bs⟩;have G:=bs.below;refine E0 (fs0 (cur':=vR xa ab nc cd ae nf cg ah ni cj ak nl cm) t_ z z (bs.blk:Blk dh L.z [(Str.v (⟨[]⟩:Str)),vI 0,vI 0,vB false,sN,sN,sN,sN]) z z z z) ?_;rintro _ _ ⟨V,di⟩;have h1:=di.one;refine Wn<|Wq<|Ws<|Rf z a_V z<|R z (l0 g_3 z<|V.at z)<|Wn<|Wb<|Ws<|Rq z z z<|Rw z<|Wc z (λal=>?_) (λal=>?_)
 .refine Ws<|R z (lN (vs:=[sl A0 N0 C0]) B_ w_ z z fid<|((ho.e G).c h1<|djs<|mm1 hn.lt h4.s).row 0 1 z)<|RM z z<|Rm z ?_
  have hz:=lt_ h3.s h4.s;have bt:=(O.e G).c h1<|c_ (or0 (a_ lr) (m_<|zt' H hz):∀k∈[L.z],¬B k)
  obtain ⟨bu,_,_,dj,ba⟩:=r_<|ifT b9 al;refine E z (fc call84 z<|j_X dj (zt' H<|lt_ (lt_ hz G.s) h1.s) (W.g bt) d0 (J.g bt) I) ?_;rintro _ _ ⟨sr,rfl,dk,dl⟩;refine Rm z ?_
  iterate 3 refine Re z z z ?_
  refine RA z z<|Rw z<|Wq<|Wm z<|R z (not_ z)<|Wx z (λam=>?_) (λam=>?_)
  .refine Ws<|R z (bP (parts:=[]) (cs:=[vI 0,sN,sN]) a_7 z z)<|Rm z<|E0 (fs0 (cur':=[vI 0,sN,sN]) n_ z z (((h2.e G).c h1<|djs<|mmr h2.lt).e sr) z z z z) ?_
   rintro _ _ ⟨dm,dn⟩;refine Ra z<|Rw z ?_
   obtain rfl:=som<|ifT ba am;exact Wr<|rtO<|L_ hr (v_ I_ n_ z dm z) z z ⟨bM (bup (bM (bup (bup h3 h4) G) h1<|m1 hz) sr) dn.one<|m1 h3.s,none,0,0,[],none,0,0,[],z,ii z,onL,onL,I,ii z,nd0,al0⟩
  refine Wk<|Wm z<|R z (bP (parts:=[(0,.tmp 43)]) (cs:=[vI bu,sN,sN]) a_7 z z)<|Rm z<|E0 (fs0 (cur':=[vI bu,sN,sN]) n_ z z (((h2.e G).c h1<|djs<|mmr h2.lt).e sr) z z z z) ?_
  rintro _ _ ⟨dp,dq⟩;refine Ra z<|Rw z ?_
  obtain rfl:=som<|ifF ba am;exact Wr<|rtO<|L_ hr (v_ I_ n_ z dp z) z z ⟨bM (bup (bM (bup (bup h3 h4) G) h1<|m1 hz) sr) dq.one<|m1 h3.s,none,0,0,[],none,0,0,[],z,dk,onL,onL,dl,ii z,nd0,al0⟩
 have bb:=ifF b9 al;refine Ws<|Rq z z z<|Rw z<|Wc z (λan=>?_) (λan=>?_)
 .refine Ws<|R z (lN (vs:=vR xa ab nc cd ae nf cg ah ni cj ak nl cm) R_ t_ z z fid<|V.row 0 8 z)<|RM z z ?_
  have aA:=lt_ h3.s h4.s;have bv:∀k∈[L.z],¬B k:=or0 (a_ lr)<|m_<|zt' H aA;have Y:=(G.ag B).c h1<|c_ bv
  have aB:=lt_ (lt_ aA G.s) h1.s;obtain ⟨dr,_,_,ds,d1⟩:=r_<|ifT bb an;refine E z (fc call85 z<|W_w39 ds (zt' H aB) hu hv hp (hq.g Y) (hw.g Y) (hx.g Y) (ht.g Y) (J.g<|(O.e G).c h1<|c_ bv) I) ?_;rintro _ _ ⟨bw,bx,bz,bA,dt,bB,bC,bD,du,rfl,dv,dw,dx,dy,dz,aC,a0⟩
  iterate 3 refine Re z z z ?_
  refine E0 (fs0 (cur':=[vI dr.number,sl bx bz bA,sl bB bC bD]) n_ z z (((h2.e G).c h1<|djs<|mmr h2.lt).e bw) z z z z) ?_;rintro _ _ ⟨dA,dB⟩;have aD:=dB.one;refine Ra z<|Rw z ?_
  obtain rfl:=som d1;have bE:=lt_ G.s h1.s;exact Wr<|rtO<|L_ hr (v_ I_ n_ z dA z) z z ⟨bM (bup (bM (bup (bup h3 h4) G) h1<|m1 aA) bw) aD<|m1 h3.s,bx,bz,bA,dt,bB,bC,bD,du,z,dv,dw.c aD<|l_ (al_ a0) h2.lt bE,dx.c aD<|l_ (ar_ a0) h2.lt bE,dy,dz,na_ (nl_ aC) (nr_ aC)<|nj aC,aa_ (p_ (al_ a0) aB)<|p_ (ar_ a0) aB⟩
 have bc:=ifF bb an;refine Ws<|Rq z z z<|Rw z<|Wc z (λao=>?_) (λao=>?_)
 .refine Wm z<|Rm z<|Rf z a_W z<|R z (l0 g_3 z<|V.at z) ?_
  have aE:=lt_ h3.s h4.s;have aF:=lt_ (lt_ aE G.s) h1.s;obtain ⟨dC,_,_,dD,d2⟩:=r_<|ifT bc ao;refine E z (fc call86 z<|W_w1u dD (zt' H aF) (J.g<|(O.e G).c h1<|c_ (or0 (a_ lr) (m_<|zt' H aE):∀k∈[L.z],¬B k)) I hp) ?_;rintro _ _ ⟨bF,bG,bH,bI,dF,bJ,bK,bL,dG,rfl,dH,dI,dJ,dK,dL,aG,a1⟩
  iterate 3 refine Re z z z ?_
  refine E0 (fs0 (cur':=[vI dC.number,sl bG bH bI,sl bJ bK bL]) n_ z z (((h2.e G).c h1<|djs<|mmr h2.lt).e bF) z z z z) ?_;rintro _ _ ⟨dN,dO⟩;have aH:=dO.one;refine Ra z<|Rw z ?_
  obtain rfl:=som d2;have bN:=lt_ G.s h1.s;exact Wr<|rtO<|L_ hr (v_ I_ n_ z dN z) z z ⟨bM (bup (bM (bup (bup h3 h4) G) h1<|m1 aE) bF) aH<|m1 h3.s,bG,bH,bI,dF,bJ,bK,bL,dG,z,dH,dI.c aH<|l_ (al_ a1) h2.lt bN,dJ.c aH<|l_ (ar_ a1) h2.lt bN,dK,dL,na_ (nl_ aG) (nr_ aG)<|nj aG,aa_ (p_ (al_ a1) aF)<|p_ (ar_ a1) aF⟩
 have be:=ifF bc ao;refine Ws<|Rq z z z<|Rw z<|Wc z (λap=>?_) (λap=>?_)
 .refine Wm z<|Rm z<|Rf z a_N z<|R z (l0 U_ z<|V.at z) ?_
  obtain ⟨_,dP,d3⟩:=bdS<|ifT be ap;have a2:=lt_ h3.s h4.s;have bO:∀k∈[L.z],¬B k:=or0 (a_ lr)<|m_<|zt' H a2;refine RX z (at_ (α:=UInt8) s_ z_5 z z z (hq.g<|(G.ag B).c h1<|c_ bO) dP) ?_;rintro _ ⟨_,_,_,rfl,dS,dT,_⟩;obtain rfl:=u8 dT;refine R z (l0 g_5 z<|dS.at0 z) ?_;have bQ:=lt_ (lt_ a2 G.s) h1.s;obtain ⟨_,_,_,dU,bf⟩:=r_ d3;refine E z (fc call87 z<|W_w3a dU (zt' H bQ) (J.g<|(O.e G).c h1<|c_ bO) I) ?_;rintro _ _ ⟨ss,aI,aJ,aK,dV,rfl,dW,dX,dY,bR⟩;refine Rm z ?_
  iterate 3 refine Re z z z ?_
  refine RA z z<|Rw z<|Wq<|Wm z<|R z (not_ z)<|Wx z (λaq=>?_) (λaq=>?_)
  .refine Ws<|R z (bP (parts:=[]) (cs:=[vI 0,sN,sN]) a_7 z z)<|Rm z<|E0 (fs0 (cur':=[vI 0,sN,sN]) n_ z z (((h2.e G).c h1<|djs<|mmr h2.lt).e ss) z z z z) ?_
   rintro _ _ ⟨dZ,e0⟩;refine Ra z<|Rw z ?_
   obtain rfl:=som<|ifT bf aq;exact Wr<|rtO<|L_ hr (v_ I_ n_ z dZ z) z z ⟨bM (bup (bM (bup (bup h3 h4) G) h1<|m1 a2) ss) e0.one<|m1 h3.s,none,0,0,[],none,0,0,[],z,ii z,onL,onL,I,ii z,nd0,al0⟩
  refine Wk<|Wm z<|R z (bP (parts:=[(1,.tmp 82)]) (cs:=[vI 0,sl aI aJ aK,sN]) a_7 z z)<|Rm z<|E0 (fs0 (cur':=[vI 0,sl aI aJ aK,sN]) n_ z z (((h2.e G).c h1<|djs<|mmr h2.lt).e ss) z z z z) ?_
  rintro _ _ ⟨e1,e2⟩;have bS:=e2.one;refine Ra z<|Rw z ?_
  obtain rfl:=som<|ifF bf aq;exact Wr<|rtO<|L_ hr (v_ I_ n_ z e1 z) z z ⟨bM (bup (bM (bup (bup h3 h4) G) h1<|m1 a2) ss) bS<|m1 h3.s,aI,aJ,aK,dV,none,0,0,[],z,ii z,dW.c bS<|l_ bR h2.lt<|lt_ G.s h1.s,onL,dX,ii z,na_ dY z_<|nmN _,aa_ (p_ bR bQ) an_⟩
 have bg:=ifF be ap;refine Ws<|Rq z z z<|Rw z<|Wc z (λar=>?_) (λar=>?_)
 .refine Ws<|R z (lN (vs:=[sl A0 N0 C0]) B_ w_ z z fid<|((ho.e G).c h1<|djs<|mm1 hn.lt h4.s).row 0 1 z)<|R z (lN (vs:=vR xa ab nc cd ae nf cg ah ni cj ak nl cm) R_ t_ z z fid<|V.row 0 8 z)<|Rf z M_ z<|R z (l0 C_ z<|V.at z) ?_
  have aL:=lt_ h3.s h4.s;have bT:∀k∈[L.z],¬B k:=or0 (a_ lr)<|m_<|zt' H aL;have a3:=(G.ag B).c h1<|c_ bT
  have aM:=ht.g a3;refine R z (lnR A_ z aM)<|RM z z ?_
  have bU:=(O.e G).c h1<|c_ bT
  have aN:=lt_ (lt_ aL G.s) h1.s;obtain ⟨e3,_,_,e4,d4⟩:=r_<|ifT bg ar;refine E z (fc call88 z<|bo.run e4 (zt' H aN) (W.g bU) hu hv hp (hq.g a3) (hw.g a3) (hx.g a3) aM (ii z) (b_2<|repS.len aM) (J.g bU) I) ?_;rintro _ _ ⟨bV,bW,bX,bY,e5,bZ,c0,c1,e6,rfl,e7,e8,e9,ea,eb,aO,a4⟩
  iterate 3 refine Re z z z ?_
  refine E0 (fs0 (cur':=[vI e3.number,sl bW bX bY,sl bZ c0 c1]) n_ z z (((h2.e G).c h1<|djs<|mmr h2.lt).e bV) z z z z) ?_;rintro _ _ ⟨ec,ed⟩;have aP:=ed.one;refine Ra z<|Rw z ?_
  obtain rfl:=som d4;have c2:=lt_ G.s h1.s;exact Wr<|rtO<|L_ hr (v_ I_ n_ z ec z) z z ⟨bM (bup (bM (bup (bup h3 h4) G) h1<|m1 aL) bV) aP<|m1 h3.s,bW,bX,bY,e5,bZ,c0,c1,e6,z,e7,e8.c aP<|l_ (al_ a4) h2.lt c2,e9.c aP<|l_ (ar_ a4) h2.lt c2,ea,eb,na_ (nl_ aO) (nr_ aO)<|nj aO,aa_ (p_ (al_ a4) aN)<|p_ (ar_ a4) aN⟩
 have bh:=ifF bg ar;refine Ws<|Rq z z z<|Rw z<|Wc z (λau=>?_) (λau=>?_)
 .refine Ws<|R z (lN (vs:=[sl A0 N0 C0]) B_ w_ z z fid<|((ho.e G).c h1<|djs<|mm1 hn.lt h4.s).row 0 1 z)<|R z (lN (vs:=vR xa ab nc cd ae nf cg ah ni cj ak nl cm) R_ t_ z z fid<|V.row 0 8 z)<|RM z z ?_
  have aQ:=lt_ h3.s h4.s;have c3:∀k∈[L.z],¬B k:=or0 (a_ lr)<|m_<|zt' H aQ;have c4:=(O.e G).c h1<|c_ c3
  have a5:=(G.ag B).c h1<|c_ c3
  have aR:=lt_ (lt_ aQ G.s) h1.s;obtain ⟨ee,_,_,ef,d5⟩:=r_<|ifT bh au;refine E z (fc call89 z<|db.run ef (zt' H aR) (W.g c4) hu hv hp (hq.g a5) (hw.g a5) (hx.g a5) (ht.g a5) (J.g c4) I) ?_;rintro _ _ ⟨c5,c6,c7,c8,eg,c9,ca,cb,eh,rfl,ei,ej,ek,em,en,aS,a6⟩
  iterate 3 refine Re z z z ?_
  refine E0 (fs0 (cur':=[vI ee.number,sl c6 c7 c8,sl c9 ca cb]) n_ z z (((h2.e G).c h1<|djs<|mmr h2.lt).e c5) z z z z) ?_;rintro _ _ ⟨eo,ep⟩;have aT:=ep.one;refine Ra z<|Rw z ?_
  obtain rfl:=som d5;have cc:=lt_ G.s h1.s;exact Wr<|rtO<|L_ hr (v_ I_ n_ z eo z) z z ⟨bM (bup (bM (bup (bup h3 h4) G) h1<|m1 aQ) c5) aT<|m1 h3.s,c6,c7,c8,eg,c9,ca,cb,eh,z,ei,ej.c aT<|l_ (al_ a6) h2.lt cc,ek.c aT<|l_ (ar_ a6) h2.lt cc,em,en,na_ (nl_ aS) (nr_ aS)<|nj aS,aa_ (p_ (al_ a6) aR)<|p_ (ar_ a6) aR⟩
 have bi:=ifF bh au;refine Ws<|Rq z z z<|Rw z<|Wc z (λav=>?_) (λav=>?_)
 .refine Ws<|R z (lN (vs:=[sl A0 N0 C0]) B_ w_ z z fid<|((ho.e G).c h1<|djs<|mm1 hn.lt h4.s).row 0 1 z)<|R z (lN (vs:=vR xa ab nc cd ae nf cg ah ni cj ak nl cm) R_ t_ z z fid<|V.row 0 8 z)<|RM z z ?_
  have aU:=lt_ h3.s h4.s;have ce:∀k∈[L.z],¬B k:=or0 (a_ lr)<|m_<|zt' H aU;have cf:=(O.e G).c h1<|c_ ce
  have a7:=(G.ag B).c h1<|c_ ce
  have aV:=lt_ (lt_ aU G.s) h1.s;obtain ⟨er,_,_,es,d6⟩:=r_<|ifT bi av;refine E z (fc call90 z<|dc.run es (zt' H aV) (W.g cf) hu hv hp (hq.g a7) (hw.g a7) (hx.g a7) (ht.g a7) (J.g cf) I) ?_;rintro _ _ ⟨ch,ci,ck,cl,eu,cn,co,cp,ew,rfl,ex,ey,ez,eA,eB,aW,a8⟩
  iterate 3 refine Re z z z ?_
  refine E0 (fs0 (cur':=[vI er.number,sl ci ck cl,sl cn co cp]) n_ z z (((h2.e G).c h1<|djs<|mmr h2.lt).e ch) z z z z) ?_;rintro _ _ ⟨eC,eD⟩;have aX:=eD.one;refine Ra z<|Rw z ?_
  obtain rfl:=som d6;have cq:=lt_ G.s h1.s;exact Wr<|rtO<|L_ hr (v_ I_ n_ z eC z) z z ⟨bM (bup (bM (bup (bup h3 h4) G) h1<|m1 aU) ch) aX<|m1 h3.s,ci,ck,cl,eu,cn,co,cp,ew,z,ex,ey.c aX<|l_ (al_ a8) h2.lt cq,ez.c aX<|l_ (ar_ a8) h2.lt cq,eA,eB,na_ (nl_ aW) (nr_ aW)<|nj aW,aa_ (p_ (al_ a8) aV)<|p_ (ar_ a8) aV⟩
 have bj:=ifF bi av;refine Ws<|Rq z z z<|Rw z<|Wc z (λaw=>?_) (λaw=>?_)
 .refine Ws<|R z (lN (vs:=[sl A0 N0 C0]) B_ w_ z z fid<|((ho.e G).c h1<|djs<|mm1 hn.lt h4.s).row 0 1 z)<|R z (lN (vs:=vR xa ab nc cd ae nf cg ah ni cj ak nl cm) R_ t_ z z fid<|V.row 0 8 z)<|RM z z ?_
  have aY:=lt_ h3.s h4.s;have cr:∀k∈[L.z],¬B k:=or0 (a_ lr)<|m_<|zt' H aY;have ct:=(O.e G).c h1<|c_ cr
  have a9:=(G.ag B).c h1<|c_ cr
  have aZ:=lt_ (lt_ aY G.s) h1.s;obtain ⟨eE,_,_,eF,d7⟩:=r_<|ifT bj aw;refine E z (fc call91 z<|dd.run eF (zt' H aZ) (W.g ct) hu hv hp (hq.g a9) (hw.g a9) (hx.g a9) (ht.g a9) (J.g ct) I) ?_;rintro _ _ ⟨cu,cv,cw,cx,eG,cy,cz,cA,eH,rfl,eI,eJ,eK,eL,eM,b0,aa⟩
  iterate 3 refine Re z z z ?_
  refine E0 (fs0 (cur':=[vI eE.number,sl cv cw cx,sl cy cz cA]) n_ z z (((h2.e G).c h1<|djs<|mmr h2.lt).e cu) z z z z) ?_;rintro _ _ ⟨eN,eO⟩;have b1:=eO.one;refine Ra z<|Rw z ?_
  obtain rfl:=som d7;have cB:=lt_ G.s h1.s;exact Wr<|rtO<|L_ hr (v_ I_ n_ z eN z) z z ⟨bM (bup (bM (bup (bup h3 h4) G) h1<|m1 aY) cu) b1<|m1 h3.s,cv,cw,cx,eG,cy,cz,cA,eH,z,eI,eJ.c b1<|l_ (al_ aa) h2.lt cB,eK.c b1<|l_ (ar_ aa) h2.lt cB,eL,eM,na_ (nl_ b0) (nr_ b0)<|nj b0,aa_ (p_ (al_ aa) aZ)<|p_ (ar_ aa) aZ⟩
 refine Wk<|Wq (Wd (X:=noX) 0 (pl_ 15 [7]) mo (by kernel_rfl) λfp s6 _=>?_)
 have cC:=((ho.e G).c h1<|djs<|mm1 hn.lt h4.s).e s6;refine dR z z (lN (vs:=[sl A0 N0 C0]) B_ w_ z z fid<|cC.row 0 1 z)<|dR z z (fd M_ z) ?_
 have cD:=V.e s6;refine dR z z (l0 C_ z<|cD.at z) ?_;obtain ⟨_,eP,d8⟩:=bdS<|ifF bj aw;have hy:=lt_ h3.s h4.s;have cE:∀k∈[L.z],¬B k:=or0 (a_ lr)<|m_<|zt' H hy;have cF:=((G.ag B).c h1<|c_ cE).e s6;refine dRX z z (at_ (α:=Int) A_ z_3 z z z (ht.g cF) eP) ?_;rintro _ ⟨_,_,_,rfl,eQ,eR,_⟩;obtain ⟨rfl,eS⟩:=W_ eR;refine dR z z (l0 g_3 z<|eQ.at0 z)<|dM z z z<|dM z z z ?_
 have ad:=((O.e G).c h1<|c_ cE).e s6;have b2:=lt_ (lt_ (lt_ hy G.s) h1.s) s6.s;obtain ⟨_,_,_,eT,bk⟩:=r_ d8;refine dE z z (fc call84 z<|j_X eT (zt' H b2) (W.g ad) eS (J.g ad) I) (.inr λ_ _ h=>x_<|h.1) ?_;rintro _ _ ⟨s5,rfl,cG,cH⟩;refine dM z z z ?_
 iterate 3 refine dR z z (ext_ z z) ?_
 iterate 3 refine dQ z z z ?_
 refine pD<|Wo<|Wq<|Wb<|Wm z<|R z (not_ z)<|Rw z<|Wc z (λax=>?_) (λax=>?_)
 .refine Ws<|R z (bP (parts:=[]) (cs:=[vI 0,sN,sN]) a_7 z z)<|Rm z<|E0 (fs0 (cur':=[vI 0,sN,sN]) n_ z z ((((h2.e G).c h1<|djs<|mmr h2.lt).e s6).e s5) z z z z) ?_
  rintro _ _ ⟨eU,eV⟩;refine Ra z<|Rw z ?_
  obtain rfl:=som<|ifT bk ax;exact Wr<|rtO<|L_ hr (v_ I_ n_ z eU z) z z ⟨bM (bup (bup (bM (bup (bup h3 h4) G) h1<|m1 hy) s6) s5) eV.one<|m1 h3.s,none,0,0,[],none,0,0,[],z,ii z,onL,onL,I,ii z,nd0,al0⟩
 have bm:=ifF bk ax;refine Ws<|Rf z a_V z ?_
 have cI:=cD.e s5;refine R z (l0 g_3 z<|cI.at z)<|Rq z z z<|Rw z<|Wc z (λay=>?_) (λay=>?_)
 .refine Wm z<|RM z z ?_
  have b3:=lt_ b2 s5.s;obtain ⟨eW,_,_,eX,d9⟩:=r_<|ifT bm ay;refine E z (fc call86 z<|W_w1u eX (zt' H b3) (J.g<|ad.e s5) cH cG) ?_;rintro _ _ ⟨cJ,cK,cL,cM,eY,cN,cO,cP,eZ,rfl,f0,f1,f2,f3,f4,b4,af⟩
  iterate 3 refine Re z z z ?_
  refine E0 (fs0 (cur':=[vI eW.number,sl cK cL cM,sl cN cO cP]) n_ z z (((((h2.e G).c h1<|djs<|mmr h2.lt).e s6).e s5).e cJ) z z z z) ?_;rintro _ _ ⟨f5,f6⟩;have b5:=f6.one;refine Ra z<|Rw z ?_
  obtain rfl:=som d9;have cQ:=lt_ (lt_ (lt_ G.s h1.s) s6.s) s5.s;exact Wr<|rtO<|L_ hr (v_ I_ n_ z f5 z) z z ⟨bM (bup (bup (bup (bM (bup (bup h3 h4) G) h1<|m1 hy) s6) s5) cJ) b5<|m1 h3.s,cK,cL,cM,eY,cN,cO,cP,eZ,z,f0,f1.c b5<|l_ (al_ af) h2.lt cQ,f2.c b5<|l_ (ar_ af) h2.lt cQ,f3,f4,na_ (nl_ b4) (nr_ b4)<|nj b4,aa_ (p_ (al_ af) b3)<|p_ (ar_ af) b3⟩
 have bn:=ifF bm ay;refine Wm z<|R z (a_b z z)<|Rw z<|Wc z (λaz=>?_) (λaz=>?_)
 .refine Ws<|R z (bP (parts:=[]) (cs:=[vI 0,sN,sN]) a_7 z z)<|Rm z<|E0 (fs0 (cur':=[vI 0,sN,sN]) n_ z z ((((h2.e G).c h1<|djs<|mmr h2.lt).e s6).e s5) z z z z) ?_
  rintro _ _ ⟨f7,f8⟩;refine Ra z<|Rw z ?_
  obtain rfl:=som<|ifT bn az;exact Wr<|rtO<|L_ hr (v_ I_ n_ z f7 z) z z ⟨bM (bup (bup (bM (bup (bup h3 h4) G) h1<|m1 hy) s6) s5) f8.one<|m1 h3.s,none,0,0,[],none,0,0,[],z,ii z,onL,onL,I,ii z,nd0,al0⟩
 refine Wk<|Ws<|R z (lN (vs:=[sl A0 N0 C0]) B_ w_ z z fid<|(cC.e s5).row 0 1 z)<|R z (lN (vs:=vR xa ab nc cd ae nf cg ah ni cj ak nl cm) R_ t_ z z fid<|cI.row 0 8 z)<|RM z z<|Rm z ?_
 have cR:=ad.e s5;have ai:=cF.e s5;have b6:=lt_ b2 s5.s;obtain ⟨f9,_,_,fe,da⟩:=r_<|ifF bn az;refine E z (fc call88 z<|bo.run fe (zt' H b6) (W.g cR) hu hv hp (hq.g ai) (hw.g ai) (hx.g ai) (ht.g ai) (ii z) cG (J.g cR) cH) ?_;rintro _ _ ⟨cS,cT,cU,cV,ff,cW,cX,cY,fg,rfl,fh,fi,fj,fk,fl,b7,aj⟩
 iterate 3 refine Re z z z ?_
 refine E0 (fs0 (cur':=[vI f9.number,sl cT cU cV,sl cW cX cY]) n_ z z (((((h2.e G).c h1<|djs<|mmr h2.lt).e s6).e s5).e cS) z z z z) ?_;rintro _ _ ⟨fm,fo⟩;have b8:=fo.one;refine Ra z<|Rw z ?_
 obtain rfl:=som da;have cZ:=lt_ (lt_ (lt_ G.s h1.s) s6.s) s5.s;exact Wr<|L_ hr (v_ I_ n_ z fm z) z z ⟨bM (bup (bup (bup (bM (bup (bup h3 h4) G) h1<|m1 hy) s6) s5) cS) b8<|m1 h3.s,cT,cU,cV,ff,cW,cX,cY,fg,z,fh,fi.c b8<|l_ (al_ aj) h2.lt cZ,fj.c b8<|l_ (ar_ aj) h2.lt cZ,fk,fl,na_ (nl_ b7) (nr_ b7)<|nj b7,aa_ (p_ (al_ aj) b6)<|p_ (ar_ aj) b6⟩
theorem T_w1v (ih:f_h n):j_Z (h_1 n<|a_x n):=by
 obtain ⟨am,_,_,_,_⟩:=ih
 constructor
 intro A0 A3 A4 A2 A5 AE N0 C0 N3 C3 N4 C4 N2 C2 N5 C5 NE CE B x1 x2 x3 x4 x5 x6 res w0 hm V ai aL aM aN aO aP aQ aR aS aj ak ci;unfold h_1 at hm
 refine goG func88 z z z λfn hr=>Ws<|E z (fb z) ?_
 rintro _ a4 ⟨rfl,aX⟩;have hd:=aX.below;have an:Blk a4 w0.z [sl A0 N0 C0]:=aX.blk;refine E z (fb z) ?_;rintro _ wr ⟨rfl,aY⟩;have hb:=aY.below;have ao:Blk wr a4.z (vR x2 A3 N3 C3 A4 N4 C4 A2 N2 C2 A5 N5 C5):=aY.blk;refine E z (fa a_q) ?_;rintro _ G ⟨rfl,aZ⟩;have h5:=aZ.below;have hu:Blk G wr.z [vI 0,sN,sN]:=aZ.blk;refine Ra z<|Rw z<|Ws<|R z (bP (parts:=[]) (cs:=[vI 0,sN,sN]) a_7 z z)<|E z (fa a_q) ?_
 rintro _ cy ⟨rfl,b0⟩;have h3:=b0.below;have hv:Blk cy G.z [vI 0,sN,sN]:=b0.blk;refine E0 (fs0 (cur':=[vI 0,sN,sN]) n_ z z hv z z z z) ?_;rintro _ I ⟨cz,cA⟩;have H:=cA.one;refine Wn<|Wq<|Ws<|Rw z ?_
 obtain ⟨_,cj,aT⟩:=bdS hm;refine Wf (σ:=Int×(List Val)) (ρ:=Val×Int×Int) (λ(ap:Nat) s a w=>un2 (λxc xp=>∃L O ca J,Sat 52 [(2,vI x3),(3,vI x4),(4,sl AE NE CE),(5,vI xc),(6,pt w0.z),(7,pt a4.z),(12,pt wr.z),(15,pt G.z),(16,vI ((ap:Nat):Int))] a/\Cg [G.z] I w/\inI xc/\b_ w J (sl L O ca) xp/\J.Nodup/\(∀k∈J,I.z<=k)/\Blk w G.z [vI 0,sN,sl L O ca]) s) (λs a w=>un2 (λxc xp=>∃L O ca J,Sat 52 [(5,vI xc),(12,pt wr.z),(15,pt G.z)] a/\Cg [G.z] I w/\inI xc/\b_ w J (sl L O ca) xp/\J.Nodup/\(∀k∈J,I.z<=k)/\Blk w G.z [vI 0,sN,sl L O ca]) s) (rQ prog fn<|Q37 w0 B) cj ?_ ?_ ?_ ?_ ?_
 .exact λ_ q=>⟨none,0,0,[],q.k<|s9 z z z z z z z z z,cr [G.z] I,ci,onL,z_,an_,cz⟩
 .rintro ap ⟨xc,xp⟩ _ wg _ a3 ⟨L,O,ca,J,ck,s4,hh,hi,hw,he,hx⟩ cl;refine Wu ?_ ck;refine Wq<|Wm z<|Rm z<|Rl z z z<|Wx z (λ_=>?_) (λhc=>(f_2 a3 hc).elim)
  refine Wk<|Wq<|Wb<|Wq ?_
  obtain ⟨cB,aU,cm⟩:=bdS<|a_A cl;refine Wt (λa w=>∃(xj:Int)(a5:Bt)(a6:List Val)(xs:Int)(a7:Int),(xj,a5,a6,xs,a7)=cB/\∃ay nz W Sk Y a0 a1 Sl gq,Sat 52 [(2,vI x3),(3,vI x4),(4,sl AE NE CE),(6,pt w0.z),(7,pt a4.z),(12,pt wr.z),(15,pt G.z),(16,vI ((ap:Nat):Int)),(17,pt gq),(18,vI xs),(19,vI a7)] a/\Below wg.z wg w/\inI xj/\b_ w Sk (sl ay nz W) a5/\Sk.Nodup/\(∀k∈Sk,wg.z<=k)/\b_ w Sl (sl Y a0 a1) a6/\Sl.Nodup/\(∀k∈Sl,wg.z<=k)/\(∀k∈Sl,k∉Sk)/\inI xs/\inI a7/\Blk w gq [vI xj,sl ay nz W,sl Y a0 a1]/\wg.z<=gq/\(∀k∈Sk,k∉[gq])/\(∀k∈Sl,k∉[gq])) ?_ ?_
  .refine Wd (X:=λk=>k∈([]:List Nat)∨wg.z<=k) 0 (.rd 0<|.rd 1<|.rd 2<|.rd 3<|.rd 5<|.rd 6<|.br 4 (.br 7 (.rd 8<|.rd 9<|.rd 10<|.rd 11<|.ef 12<|.ef 13<|.rd 14<|.rd 15 .done) 12<|.ef 7<|.rd 8<|.rd 9<|.rd 10<|.rd 11<|.ef 13<|.rd 14<|.rd 15 .done) 12<|.ef 4<|.ef 7<|.rd 8<|.rd 9<|.rd 10<|.rd 11<|.ef 13<|.rd 14<|.rd 15 .done) mo (by kernel_rfl) λb1 s7 _=>?_
   have b2:=lt_ hb.s h5.s;have b3:=mm1 an.lt b2;refine dR z z (lN (vs:=[sl A0 N0 C0]) B_ w_ z z (a_3 nm0<|Nat.lt_of_lt_of_le an.lt<|lt_ (lt_ (lt_ b2 h3.s) H.s) s4.s)<|((((((an.e hb).e h5).e h3).c H<|djs b3).c s4<|djs b3).e s7).row 0 1 z) ?_;have b4:=mm1 ao.lt h5.s;refine dR z z (lN (vs:=vR x2 A3 N3 C3 A4 N4 C4 A2 N2 C2 A5 N5 C5) R_ t_ z z (a_3 nm0<|Nat.lt_of_lt_of_le ao.lt<|lt_ (lt_ (lt_ h5.s h3.s) H.s) s4.s)<|(((((ao.e h5).e h3).c H<|djs b4).c s4<|djs b4).e s7).row 0 8 z) ?_
   iterate 4 refine dM z z z ?_
   refine b_u ?_ ?_
   .have b5:=lt_ (lt_ hd.s hb.s) h5.s;have b6:∀k∈[G.z],¬B k:=or0 (a_ lr)<|m_<|zt' V b5;have ht:=((((((hd.ag B).e hb).e h5).e h3).c H<|c_ b6).c s4<|c_ b6).e s7;have aq:=lt_ (lt_ (lt_ (lt_ b5 h3.s) H.s) s4.s) s7.s;obtain ⟨_,cC,aV⟩:=bdS aU;refine dE z z (fc call35 z<|i_j cC (zt' V aq) aL aM aN (aO.g ht) (aP.g ht) (aQ.g ht) (aR.g ht) aS<|ic (Nat.le_of_lt a3)<|tl_ aj) (.inr λ_ _ h=>x_<|h.1) ?_;rintro _ b7 ⟨sf,rfl,b8⟩;refine b_u ?_ ?_
    .have b9:=ht.e sf;obtain ⟨a9,cD,cE,cF,cn⟩:=r_ aV;refine dE z z (fc call68 z<|am.run cF (zt' V<|lt_ aq sf.s) (ai.g b9) b8 (ak.g b9) hh) (.inr λ_ _ h=>x_<|h.1) ?_;rintro _ ba ⟨bb,bc,be,bf,cG,bg,bh,bi,cH,rfl,cI,bj,bk,cJ,cK,ar,bm⟩;refine dM z z z ?_
     iterate 3 refine dR z z (ext_ z z) ?_
     refine dE z z (fa a_q) (.inr λ_ _ h=>x_<|h.2.below) ?_;rintro _ cL ⟨rfl,bn⟩;have au:=bn.below;have av:=lt_ s7.s sf.s;have aw:=m1<|lt_ av bb.s
     refine dE0 z (fs0 (cur':=[vI a9.number,sl bc be bf,sl bg bh bi]) n_ z z (bn.blk:Blk cL ba.z [vI 0,sN,sN]) z z z z) (.inr λ_ _ h=>d_f (atp aw) h.2) ?_;rintro _ _ ⟨cN,cO⟩;have ax:=cO.one;refine dQ z z z<|dQ z z z<|pD ?_
     have bo:=mnr<|b_.lt bj
     have bp:=mnr<|b_.lt bk
     exact λ_ q=>⟨a9.number,a9.bytes,a9.items,cD,cE,som cn,bc,be,bf,cG,bg,bh,bi,cH,ba.z,q.k<|sc z<|sc z<|sc z<|sc z<|sc z<|sc z<|sc z<|sc z<|sc z<|sc z<|sc z sn,bM (bup (bup (bup s7 sf) bb) au) ax aw,cI,(bj.e au).c ax<|ds bo,nl_ ar,p_ (al_ bm) av,(bk.e au).c ax<|ds bp,nr_ ar,p_ (ar_ bm) av,ds<|nj ar,cJ,cK,cN,atp aw,ds bo,ds bp⟩
    refine dE z z (fa a_q) (.inr λ_ _ h=>x_<|h.2.below) ?_;rintro _ cP ⟨rfl,bq⟩;have aa:=bq.below;have az:Blk cP b7.z [vI 0,sN,sN]:=bq.blk;have bs:=(ht.e sf).e aa;obtain ⟨ab,cQ,cR,cS,co⟩:=r_ aV;refine dE z z (fc call68 z<|am.run cS (zt' V<|lt_ (lt_ aq sf.s) aa.s) (ai.g bs) b8 (ak.g bs) hh) (.inr λ_ _ h=>x_<|h.1) ?_;rintro _ _ ⟨bt,bu,bv,bw,cT,bx,bz,bA,cU,rfl,cV,cW,cX,cY,cZ,aA,ad⟩;refine dM z z z ?_
    iterate 3 refine dR z z (ext_ z z) ?_
    have bB:=lt_ s7.s sf.s;have aB:=m1 bB;refine dE0 z (fs0 (cur':=[vI ab.number,sl bu bv bw,sl bx bz bA]) n_ z z (az.e bt) z z z z) (.inr λ_ _ h=>d_f (atp aB) h.2) ?_;rintro _ _ ⟨d0,d1⟩;have aC:=d1.one;refine dQ z z z<|dQ z z z<|pD ?_
    have bC:=l_ (al_ ad) az.lt lr;have bD:=lt_ bB aa.s;have bE:=l_ (ar_ ad) az.lt lr;exact λ_ q=>⟨ab.number,ab.bytes,ab.items,cQ,cR,som co,bu,bv,bw,cT,bx,bz,bA,cU,b7.z,q.k<|sc z<|sc z<|sc z<|sc z<|sc z<|sc z<|sc z<|sc z<|sc z<|sc z<|sc z sn,bM (bup (bup (bup s7 sf) aa) bt) aC aB,cV,cW.c aC bC,nl_ aA,p_ (al_ ad) bD,cX.c aC bE,nr_ aA,p_ (ar_ ad) bD,ds<|nj aA,cY,cZ,d0,atp aB,bC,bE⟩
   refine dE z z (fa a_q) (.inr λ_ _ h=>x_<|h.2.below) ?_;rintro _ d2 ⟨rfl,bF⟩;have ae:=bF.below;have aD:Blk d2 b1.z [vI 0,sN,sN]:=bF.blk;have bG:=lt_ (lt_ hd.s hb.s) h5.s;have bH:∀k∈[G.z],¬B k:=or0 (a_ lr)<|m_<|zt' V bG;have a2:=(((((((hd.ag B).e hb).e h5).e h3).c H<|c_ bH).c s4<|c_ bH).e s7).e ae;have bI:=lt_ (lt_ (lt_ (lt_ (lt_ bG h3.s) H.s) s4.s) s7.s) ae.s;obtain ⟨_,d3,cp⟩:=bdS aU;refine dE z z (fc call35 z<|i_j d3 (zt' V bI) aL aM aN (aO.g a2) (aP.g a2) (aQ.g a2) (aR.g a2) aS<|ic (Nat.le_of_lt a3)<|tl_ aj) (.inr λ_ _ h=>x_<|h.1) ?_;rintro _ _ ⟨sm,rfl,d4⟩;have bJ:=a2.e sm;obtain ⟨af,d5,d6,d7,cq⟩:=r_ cp;refine dE z z (fc call68 z<|am.run d7 (zt' V<|lt_ bI sm.s) (ai.g bJ) d4 (ak.g bJ) hh) (.inr λ_ _ h=>x_<|h.1) ?_;rintro _ _ ⟨bK,bL,bN,bO,d8,bQ,bR,bS,d9,rfl,da,db,dc,dd,de,aE,ah⟩;refine dM z z z ?_
   iterate 3 refine dR z z (ext_ z z) ?_
   have aF:=m1 s7.s;refine dE0 z (fs0 (cur':=[vI af.number,sl bL bN bO,sl bQ bR bS]) n_ z z ((aD.e sm).e bK) z z z z) (.inr λ_ _ h=>d_f (atp aF) h.2) ?_;rintro _ _ ⟨df,dg⟩;have aG:=dg.one;refine dQ z z z<|dQ z z z<|pD ?_
   have bT:=l_ (al_ ah) aD.lt sm.s;have bU:=lt_ (lt_ s7.s ae.s) sm.s;have bV:=l_ (ar_ ah) aD.lt sm.s;exact λ_ q=>⟨af.number,af.bytes,af.items,d5,d6,som cq,bL,bN,bO,d8,bQ,bR,bS,d9,b1.z,q.k<|sc z<|sc z<|sc z<|sc z<|sc z<|sc z<|sc z<|sc z<|sc z<|sc z<|sc z sn,bM (bup (bup (bup s7 ae) sm) bK) aG aF,da,db.c aG bT,nl_ aE,p_ (al_ ah) bU,dc.c aG bV,nr_ aE,p_ (ar_ ah) bU,ds<|nj aE,dd,de,df,atp aF,bT,bV⟩
  rintro dh bW ⟨xj,a5,a6,xs,a7,rfl,ay,nz,W,Sk,Y,a0,a1,Sl,gq,_,so,di,dj,dk,aH,dl,dm,aI,dn,bX,dp,dq,_,_,_⟩;have aW:=c_z cm;revert dh;refine Wo<|Wq<|Wm z<|R z (nq z z)<|Wx z (λal=>?_) (λal=>?_)
  .refine Ws<|R z (bP (parts:=[]) (cs:=[vI 0,sN,sN]) a_7 z z)<|RM z z ?_
   have bY:=mmr hu.lt;refine E0 (fs0 (cur':=[vI 0,sN,sN]) n_ z z ((((hu.e h3).c H<|djs bY).c s4<|djs bY).e so) z z z z) ?_;rintro _ _ ⟨dr,dt⟩;refine Ra z<|Rw z ?_
   have bZ:=lt_ hd.s hb.s;have c0:=m1<|lt_ bZ h5.s
   exact Wr<|rtO<|qL (som<|ifT aW al).symm<|L_ hr (v_ I_ n_ z dr z) z z ⟨bM (bup (bM (bM (bup (bup (bup hd hb) h5) h3) H c0) s4 c0) so) dt.one<|m1 bZ,none,0,0,[],none,0,0,[],z,ii z,onL,onL,bX,dp,nd0,al0⟩
  refine Wk<|Ws<|Rf z b_L z ?_
  have c1:=hx.e so;refine R z (l0 d_i z<|c1.at z)<|R z (lN (vs:=[vI xj,sl ay nz W,sl Y a0 a1]) I_ n_ z z fid<|dq.row 0 3 z)<|E z (fS [(.tmp 45)] c_A z z z (S_ z) (lb z)<|lb z) ?_
  rintro _ c2 ⟨rfl,c3⟩;have hn:=c3.below;obtain ⟨du,dv,ct⟩:=bdS<|ifF aW al;refine E z (a_i (α:=Val) c_A dv z z ((hi.e so).e hn) hw (c3.blk:Blk c2 bW.z [vI xj,sl ay nz W,sl Y a0 a1]) (e_S (x:=(⟨xj,a5,a6⟩:Val)) (S1:=Sk) (S2:=Sl) di (dj.e hn)<|dl.e hn) (aa_ (b_F aH (b_.lt hi) lr)<|b_F aI (b_.lt hi) lr)<|na_ dk dm<|ds dn) ?_;rintro _ dw ⟨aJ,c4,c5,c6,rfl,c7,dx,dy,c8⟩;refine Rf z b_L z ?_;have c9:=l_ he hv.lt H.s;refine E0 (fs0 (cur':=[vI 0,sN,sl c4 c5 c6]) e_r z z ((c1.e hn).c c7<|djs c9) z z z z) ?_;rintro _ dz ⟨dA,dB⟩;have cb:=dB.one;refine Wn<|Wg<|Rm z<|Rw z<|Wg<|Rm z<|R z (inc_ a3 (tl_ aj) z z)<|Ra z<|Wl ?_
  have aK:=lt_ H.s s4.s;exact λ_ q=>⟨(xs,du),(som ct).symm,⟨c4,c5,c6,aJ,q.k<|s9 z z z z z z z z z,(cM (cM (e_ (e_ (cM (cr [G.z] I) s4 (io sr):Cg [G.z] I wg) so:Cg [G.z] I bW) hn:Cg [G.z] I c2) c7 (or0 he (o_ lr):∀k∈J,k∈[G.z]∨I.z<=k):Cg [G.z] I dw) cb (io sr):Cg [G.z] I dz),bX,dx.c cb (or2 c8 c9 (aa_ (l_ aH hv.lt aK)<|l_ aI hv.lt aK) (k_ (a_ hv.lt)<|lt_ (lt_ aK so.s) hn.s):∀k∈aJ,k∉[G.z]),dy,(or2 c8 he (aa_ (p_ aH s4.s)<|p_ aI s4.s) (b_6<|lt_ (lt_ s4.s so.s) hn.s):∀k∈aJ,I.z<=k),dA⟩⟩
 .rintro ⟨xc,xp⟩ _ dC ⟨L,O,ca,J,cu,dD,hh,hi,hw,he,hx⟩;refine Wu ?_ cu;refine Wq<|Wm z<|Rm z<|Rl z z z<|Wx z (λhc=>(f_3 hc).elim) (λ_=>?_)
  exact We<|λ_ q=>⟨rfl,⟨L,O,ca,J,q.k<|s3 z z z,(cM (cr [G.z] I) dD (io sr):Cg [G.z] I dC),hh,hi,hw,he,hx⟩⟩
 .rintro ⟨xc,xp⟩ dF _ rfl ⟨L,O,ca,J,_,cc,hh,hi,hw,he,hx⟩;have cv:=elL aT;revert dF;refine Wo<|Ws<|R z (lN (vs:=[vI 0,sN,sl L O ca]) I_ n_ z z fid<|hx.row 0 3 z)<|Rm z ?_
  have cd:=mmr hu.lt;refine E0 (fs0 (cur':=[vI 0,sN,sl L O ca]) n_ z z (((hu.e h3).c H<|djs cd).c cc<|djs cd) z z z z) ?_;rintro _ _ ⟨dG,dH⟩;have ce:=dH.one;refine Ra z<|Rw z ?_
  obtain rfl:=som<|a_A cv;have cf:=lt_ hd.s hb.s;have cg:=lt_ cf h5.s;have ch:=m1 cg;exact Wr<|L_ hr (v_ I_ n_ z dG z) z z ⟨bM (bM (bM (bup (bup (bup hd hb) h5) h3) H ch) cc ch) ce<|m1 cf,none,0,0,[],L,O,ca,J,z,ii z,onL,hi.c ce<|l_ he hu.lt<|lt_ h3.s H.s,hh,ii z,na_ z_ hw an_,aa_ an_<|p_ he<|lt_ (lt_ cg h3.s) H.s⟩
 rintro _ _ _ _ rfl ⟨rfl,cw⟩;have cx:=elR aT;obtain rfl:=som cx;exact ⟨cw,z⟩
theorem T_w1w (ih:f_h n):k_0 (h_2 n<|a_x n):=by
 obtain ⟨_,aA,_,_,_⟩:=ih
 constructor
 intro A0 A3 A4 A2 A5 A7 N0 C0 N3 C3 N4 C4 N2 C2 N5 C5 N7 C7 B x1 x2 x3 x4 res w0 hm W Y a0 a1 a2 a3 a4 a5 O a6 V;unfold h_2 at hm
 refine goG func89 z z z λfn hr=>Ws<|E z (fb z) ?_
 rintro _ wy ⟨rfl,hz⟩;have hf:=hz.below;refine E z (fb z) ?_;rintro _ wq ⟨rfl,ad⟩;have h5:=ad.below;refine E z (fa a_q) ?_;rintro _ aB ⟨rfl,ae⟩;have h3:=ae.below;have h6:Blk aB wq.z [vI 0,sN,sN]:=ae.blk;refine Ra z<|Rw z<|Wq (Wd (X:=noX) 0 (pl_ 15 [7]) mo (by kernel_rfl) λb6 G _=>?_)
 have af:=(((hz.blk:Blk wy w0.z [sl A0 N0 C0]).e h5).e h3).e G;refine dR z z (lN (vs:=[sl A0 N0 C0]) B_ w_ z z fid<|af.row 0 1 z)<|dR z z (fd M_ z) ?_
 have ah:=((ad.blk:Blk wq wy.z (vR x2 A3 N3 C3 A4 N4 C4 A2 N2 C2 A5 N5 C5)).e h3).e G;refine dR z z (l0 C_ z<|ah.at z) ?_;obtain ⟨_,aC,ax⟩:=bdS hm;have hh:=(((hf.ag B).e h5).e h3).e G;refine dRX z z (at_ (α:=Int) A_ z_3 z z z (O.g hh) aC) ?_;rintro _ ⟨_,_,_,rfl,aD,aE,_⟩;obtain ⟨rfl,aF⟩:=W_ aE;refine dR z z (l0 g_3 z<|aD.at0 z)<|dM z z z<|dM z z z ?_
 have hi:=lt_ hf.s h5.s;have ai:=lt_ (lt_ hi h3.s) G.s;obtain ⟨aj,_,_,aG,a7⟩:=r_ ax;refine dE z z (fc call84 z<|j_X aG (zt' W ai) (Y.g hh) aF (a6.g hh) V) (.inr λ_ _ h=>x_<|h.1) ?_;rintro _ _ ⟨s1,rfl,ht,aH⟩;refine dM z z z ?_
 iterate 3 refine dR z z (ext_ z z) ?_
 iterate 3 refine dQ z z z ?_
 refine pD<|Wo<|Wq<|Wm z<|R z (not_ z)<|Wx z (λhcr=>?_) (λhcr=>?_)
 .refine Ws<|R z (bP (parts:=[]) (cs:=[vI 0,sN,sN]) a_7 z z)<|Rm z<|E0 (fs0 (cur':=[vI 0,sN,sN]) n_ z z ((h6.e G).e s1) z z z z) ?_
  rintro _ _ ⟨aI,aJ⟩;refine Ra z<|Rw z ?_
  obtain rfl:=som<|ifT a7 hcr;exact Wr<|L_ hr (v_ I_ n_ z aI z) z z ⟨bM (bup (bup (bup (bup hf h5) h3) G) s1) aJ.one<|m1 hi,none,0,0,[],none,0,0,[],z,ii z,onL,onL,V,ii z,nd0,al0⟩
 refine Wk<|Wq<|Ws ?_
 have ak:=ah.e s1;refine R z (lN (vs:=vR x2 A3 N3 C3 A4 N4 C4 A2 N2 C2 A5 N5 C5) R_ t_ z z fid<|ak.row 0 8 z)<|Rm z ?_
 have hg:=hh.e s1;have al:=lt_ ai s1.s;obtain ⟨_,aK,a9⟩:=bdS<|ifF a7 hcr;refine E z (fc call35 z<|i_j aK (zt' W al) a0 a1 a2 (a3.g hg) (a4.g hg) (a5.g hg) (O.g hg) ht<|ii z) ?_;rintro _ _ ⟨s2,rfl,_⟩;refine Rl z z z<|Wx z (λhcs=>?_) (λhcs=>?_)
 .refine Ws<|R z (bP (parts:=[]) (cs:=[vI 0,sN,sN]) a_7 z z)<|Rm z<|E0 (fs0 (cur':=[vI 0,sN,sN]) n_ z z (((h6.e G).e s1).e s2) z z z z) ?_
  rintro _ _ ⟨aL,aM⟩;refine Ra z<|Rw z ?_
  obtain rfl:=som<|ifT a9 hcs;exact Wr<|L_ hr (v_ I_ n_ z aL z) z z ⟨bM (bup (bup (bup (bup (bup hf h5) h3) G) s1) s2) aM.one<|m1 hi,none,0,0,[],none,0,0,[],z,ii z,onL,onL,V,ii z,nd0,al0⟩
 refine Wk<|Ws<|R z (lN (vs:=[sl A0 N0 C0]) B_ w_ z z fid<|((af.e s1).e s2).row 0 1 z)<|R z (lN (vs:=vR x2 A3 N3 C3 A4 N4 C4 A2 N2 C2 A5 N5 C5) R_ t_ z z fid<|(ak.e s2).row 0 8 z)<|RM z z<|Rm z ?_
 have I:=hg.e s2;have hj:=lt_ al s2.s;obtain ⟨am,aN,aO,aP,ay⟩:=r_<|ifF a9 hcs;refine E z (fc call88 z<|aA.run aP (zt' W hj) (Y.g I) a0 a1 a2 (a3.g I) (a4.g I) (a5.g I) (O.g I) ht (ii z) (a6.g I) aH) ?_;rintro _ H ⟨sk,J,L,ca,aQ,ab,nc,cd,aR,rfl,aS,an,ao,aT,aU,hu,hl⟩;refine Rm z ?_
 iterate 3 refine Re z z z ?_
 refine E z (fa a_q) ?_;rintro _ aV ⟨rfl,ap⟩;have hn:=ap.below;refine E0 (fs0 (cur':=[vI am.number,sl J L ca,sl ab nc cd]) n_ z z (ap.blk:Blk aV H.z [vI 0,sN,sN]) z z z z) ?_;rintro _ wm ⟨aq,aW⟩;have ho:=aW.one;refine Ra z<|Rw z<|Wq<|Wm z<|Rq z z z<|Wn ?_
 obtain ⟨aX,aa,az⟩:=bdS ay;refine Wt (λa w=>∃(xe:Int),xe=aX/\Sat 56 [(8,pt wq.z),(14,pt H.z),(15,vI aN),(16,vI aO)] a/\Cg [H.z] wm w/\inI xe/\Blk w H.z [vI xe,sl J L ca,sl ab nc cd]) ?_ ?_
 .refine Wc z (λhcv=>?_)<|λhcv=>?_
  .refine Wg<|Rm z<|Rf z f_b z<|E0 (fs0 (cur':=[vI aj,sl J L ca,sl ab nc cd]) z_3 z z aq z z z z) ?_
   rintro _ aY ⟨aZ,b0⟩;refine Wl ?_;exact λ_ q=>⟨aj,som<|ifT aa hcv,q.k<|s4 z z z z,(cM (cr [H.z] wm) b0.one (io sr):Cg [H.z] wm aY),ht,aZ⟩
  exact a_c<|λ_ q=>⟨am.number,som<|ifF aa hcv,q.k<|s4 z z z z,cr [H.z] wm,aS,aq⟩
 rintro b1 _ ⟨xe,rfl,_,sp,b2,b3⟩;revert b1;refine Wo<|Ws<|R z (lN (vs:=[vI xe,sl J L ca,sl ab nc cd]) I_ n_ z z fid<|b3.row 0 3 z)<|RM z z ?_
 have hw:=lt_ (lt_ G.s s1.s) s2.s;have ar:=mm1 h6.lt<|lt_ hw sk.s
 refine E0 (fs0 (cur':=[vI xe,sl J L ca,sl ab nc cd]) n_ z z (((((((h6.e G).e s1).e s2).e sk).e hn).c ho<|djs ar).c sp<|djs ar) z z z z) ?_;rintro _ _ ⟨b4,b5⟩;have hx:=b5.one;refine Ra z<|Rw z ?_
 obtain rfl:=som az;have au:=mnr<|b_.lt an
 have av:=mnr<|b_.lt ao
 have aw:=m1<|lt_ hj sk.s
 exact Wr<|L_ hr (v_ I_ n_ z b4 z) z z ⟨bM (bM (bM (bup (bup (bup (bup (bup (bup (bup hf h5) h3) G) s1) s2) sk) hn) ho aw) sp aw) hx<|m1 hi,J,L,ca,aQ,ab,nc,cd,aR,z,b2,(((an.e hn).c ho<|ds au).c sp<|ds au).c hx<|l_ (al_ hl) h6.lt hw,(((ao.e hn).c ho<|ds av).c sp<|ds av).c hx<|l_ (ar_ hl) h6.lt hw,aT,aU,na_ (nl_ hu) (nr_ hu)<|nj hu,aa_ (p_ (al_ hl) hj)<|p_ (ar_ hl) hj⟩
theorem T_w1x (ih:f_h n):k_1 (h_3 n<|a_x n):=by
 obtain ⟨_,a7,_,_,_⟩:=ih
 constructor
 intro A0 A3 A4 A2 A5 A7 N0 C0 N3 C3 N4 C4 N2 C2 N5 C5 N7 C7 B x1 x2 x3 x4 res w0 hm a8 V W Y a0 a1 a2 a3 a4 L O;unfold h_3 at hm
 refine goG func90 z z z λfn hr=>Ws<|E z (fb z) ?_
 rintro _ wc ⟨rfl,hd⟩;have h2:=hd.below;refine E z (fb z) ?_;rintro _ we ⟨rfl,hf⟩;have G:=hf.below;refine E z (fa a_q) ?_;rintro _ ws ⟨rfl,hg⟩;have h3:=hg.below;have h5:Blk ws we.z [vI 0,sN,sN]:=hg.blk;refine Ra z<|Rw z<|Wq<|Wb<|Wm z<|Rm z ?_
 have hh:=((h2.ag B).e G).e h3;have hi:=L.g hh;refine R z (lnR s_ z hi)<|R z (b_z z z)<|Rw z<|Wc z (λH=>?_) (λH=>?_)
 .refine Ws<|R z (bP (parts:=[]) (cs:=[vI 0,sN,sN]) a_7 z z)<|Rm z<|E0 (fs0 (cur':=[vI 0,sN,sN]) n_ z z h5 z z z z) ?_
  rintro _ _ ⟨hw,sx⟩;refine Ra z<|Rw z ?_
  obtain rfl:=som<|ifT hm H;exact Wr<|rtO<|L_ hr (v_ I_ n_ z hw z) z z ⟨bM (bup (bup h2 G) h3) sx.one<|m1<|lt_ h2.s G.s,none,0,0,[],none,0,0,[],z,ii z,onL,onL,O,ii z,nd0,al0⟩
 refine Wm z<|Rm z ?_
 obtain ⟨_,ey,hmj⟩:=bdS<|ifF hm H;refine RX z (at_ (α:=UInt8) s_ z_5 z z z hi ey) ?_;rintro _ ⟨_,_,_,rfl,hz,a9,_⟩;obtain rfl:=u8 a9;refine R z (l0 g_5 z<|hz.at0 z)<|R z (a_b z z)<|Rw z<|Wc z (λI=>?_) (λI=>?_)
 .refine Ws<|R z (bP (parts:=[]) (cs:=[vI 0,sN,sN]) a_7 z z)<|Rm z<|E0 (fs0 (cur':=[vI 0,sN,sN]) n_ z z h5 z z z z) ?_
  rintro _ _ ⟨aa,ab⟩;refine Ra z<|Rw z ?_
  obtain rfl:=som<|ifT hmj I;exact Wr<|rtO<|L_ hr (v_ I_ n_ z aa z) z z ⟨bM (bup (bup h2 G) h3) ab.one<|m1<|lt_ h2.s G.s,none,0,0,[],none,0,0,[],z,ii z,onL,onL,O,ii z,nd0,al0⟩
 refine Wk<|Wq (Wd (X:=noX) 16384 (pl_ 17 [10,14]) mo (by kernel_rfl) λaw s1 _=>dR z z (lN (vs:=[sl A0 N0 C0]) B_ w_ z z fid<|((((hd.blk:Blk wc w0.z [sl A0 N0 C0]).e G).e h3).e s1).row 0 1 z)<|dR z z (lN (vs:=vR x2 A3 N3 C3 A4 N4 C4 A2 N2 C2 A5 N5 C5) R_ t_ z z fid<|(((hf.blk:Blk we wc.z (vR x2 A3 N3 C3 A4 N4 C4 A2 N2 C2 A5 N5 C5)).e h3).e s1).row 0 8 z)<|dM z z z<|dM z z z ?_)
 obtain ⟨_,ad,a5⟩:=bdS<|ifF hmj I;have h4:=hh.e s1;have hk:=L.g h4;refine dRX z z (at_ (α:=UInt8) s_ z_5 z z z hk ad) ?_;rintro _ ⟨_,_,_,rfl,ae,af,_⟩;obtain rfl:=u8 af;refine dR z z (l0 g_5 z<|ae.at0 z)<|dR z z (c_7 d_5 d_3 z)<|dM z z z<|dM z z z<|dR z z (add_ z z) ?_
 have hl:=lt_ h2.s G.s;have J:=lt_ (lt_ hl h3.s) s1.s;obtain ⟨ah,_,_,ai,a6⟩:=r_ a5;refine dE z z (fc call88 z<|a7.run ai (zt' a8 J) (V.g h4) W Y a0 (a1.g h4) (a2.g h4) (a3.g h4) (a4.g h4) (ii z) (k_Z _) hk<|iA _ _) (.inr λ_ _ h=>x_<|h.1) ?_;rintro _ _ ⟨sm,an,no,cp,aj,aq,nr,ct,ak,rfl,al,am,ao,ap,ar,ha,h6⟩
 iterate 3 refine dR z z (ext_ z z) ?_
 refine dE0 z (fs0 (cur':=[vI ah.number,sl an no cp,sl aq nr ct]) n_ z z ((h5.e s1).e sm) z z z z) (.inl z) ?_;rintro _ _ ⟨au,av⟩;have hb:=av.one;refine dQ z z z<|dQ z z z<|pD<|Wo ?_
 obtain rfl:=som a6;exact Wr<|L_ hr (v_ I_ n_ z au z) z z ⟨bM (bup (bup (bup (bup h2 G) h3) s1) sm) hb<|m1 hl,an,no,cp,aj,aq,nr,ct,ak,z,al,am.c hb<|l_ (al_ h6) h5.lt s1.s,ao.c hb<|l_ (ar_ h6) h5.lt s1.s,ap,ar,na_ (nl_ ha) (nr_ ha)<|nj ha,aa_ (p_ (al_ h6) J)<|p_ (ar_ h6) J⟩
theorem T_w1y (ih:f_h n):k_2 (h_4 n<|a_x n):=by
 obtain ⟨_,am,_,_,_⟩:=ih
 constructor
 intro A0 A3 A4 A2 A5 A7 N0 C0 N3 C3 N4 C4 N2 C2 N5 C5 N7 C7 B x1 x2 x3 x4 res w0 hm O a7 a8 a9 ab ae af ah ai L aj;unfold h_4 at hm
 refine goG func91 z z z λfn hr=>Ws<|E z (fb z) ?_
 rintro _ wu ⟨rfl,hv⟩;have hh:=hv.below;refine E z (fb z) ?_;rintro _ ww ⟨rfl,hx⟩;have H:=hx.below;refine E z (fa a_q) ?_;rintro _ an ⟨rfl,hy⟩;have h5:=hy.below;have h3:Blk an ww.z [vI 0,sN,sN]:=hy.blk;refine Ra z<|Rw z<|Ws<|R z (lN (vs:=[sl A0 N0 C0]) B_ w_ z z fid<|(((hv.blk:Blk wu w0.z [sl A0 N0 C0]).e H).e h5).row 0 1 z)<|R z (lN (vs:=vR x2 A3 N3 C3 A4 N4 C4 A2 N2 C2 A5 N5 C5) R_ t_ z z fid<|((hx.blk:Blk ww wu.z (vR x2 A3 N3 C3 A4 N4 C4 A2 N2 C2 A5 N5 C5)).e h5).row 0 8 z)<|RM z z ?_
 have I:=((hh.ag B).e H).e h5;have hj:=lt_ hh.s H.s;have J:=lt_ hj h5.s;obtain ⟨rk,_,_,ao,hmz⟩:=r_ hm;refine E z (fc call88 z<|am.run ao (zt' O J) (a7.g I) a8 a9 ab (ae.g I) (af.g I) (ah.g I) (ai.g I) (ii z) (ii z) (L.g I) aj) ?_;rintro _ Y ⟨G,aa,nb,cc,a0,ad,ne,cf,a1,rfl,a2,hn,ho,hp,ap,hi,h6⟩;refine Rm z ?_
 iterate 3 refine Re z z z ?_
 refine E z (fa a_q) ?_;rintro _ aq ⟨rfl,a3⟩;have h1:=a3.below;refine E0 (fs0 (cur':=[vI rk.number,sl aa nb cc,sl ad ne cf]) n_ z z (a3.blk:Blk aq Y.z [vI 0,sN,sN]) z z z z) ?_;rintro _ _ ⟨a4,ar⟩;have h2:=ar.one;refine Ra z<|Rw z<|Wq<|Wb<|Wm z<|R z (nq z z)<|Rw z<|Wc z (λhcm=>?_) (λhcm=>?_)
 .refine Ws<|R z (lN (vs:=[vI rk.number,sl aa nb cc,sl ad ne cf]) I_ n_ z z fid<|a4.row 0 3 z)<|RM z z<|E0 (fs0 (cur':=[vI rk.number,sl aa nb cc,sl ad ne cf]) n_ z z (((h3.e G).e h1).c h2<|djs<|mm1 h3.lt G.s) z z z z) ?_
  rintro _ _ ⟨au,av⟩;have hq:=av.one;refine Ra z<|Rw z ?_
  obtain rfl:=som<|ifT hmz hcm;exact Wr<|rtO<|L_ hr (v_ I_ n_ z au z) z z ⟨bM (bM (bup (bup (bup (bup hh H) h5) G) h1) h2<|m1<|lt_ J G.s) hq<|m1 hj,aa,nb,cc,a0,ad,ne,cf,a1,z,a2,((hn.e h1).c h2<|ds<|mnr<|b_.lt hn).c hq<|l_ (al_ h6) h3.lt lr,((ho.e h1).c h2<|ds<|mnr<|b_.lt ho).c hq<|l_ (ar_ h6) h3.lt lr,hp,ap,na_ (nl_ hi) (nr_ hi)<|nj hi,aa_ (p_ (al_ h6) J)<|p_ (ar_ h6) J⟩
 have V:=ifF hmz hcm;refine Wm z<|Rm z ?_
 have hl:=lt_ J G.s;have a5:=((I.e G).e h1).c h2<|c_ (or0 (a_ lr) (m_<|zt' O hl):∀k∈[Y.z],¬B k)
 refine R z (lnR s_ z<|L.g a5)<|R z (b_z z z)<|Rw z<|Wc z (λhcr=>?_) (λhcr=>?_)
 .refine Ws<|R z (bP (parts:=[]) (cs:=[vI 0,sN,sN]) a_7 z z)<|Rm z<|E0 (fs0 (cur':=[vI 0,sN,sN]) n_ z z (((h3.e G).e h1).c h2<|djs<|mm1 h3.lt G.s) z z z z) ?_
  rintro _ _ ⟨aw,ax⟩;refine Ra z<|Rw z ?_
  obtain rfl:=som<|ifT V hcr;exact Wr<|rtO<|L_ hr (v_ I_ n_ z aw z) z z ⟨bM (bM (bup (bup (bup (bup hh H) h5) G) h1) h2<|m1 hl) ax.one<|m1 hj,none,0,0,[],none,0,0,[],z,ii z,onL,onL,hp,ii z,nd0,al0⟩
 refine Wq (Wd (X:=noX) 0 (pl_ 12 [9]) mo (by kernel_rfl) λaI s4 _=>dM z z z<|dM z z z ?_);obtain ⟨_,ay,ak⟩:=bdS<|ifF V hcr;have a6:=L.g<|a5.e s4
 refine dRX z z (at_ (α:=UInt8) s_ z_5 z z z a6 ay) ?_;rintro _ ⟨_,_,_,rfl,az,aA,_⟩;obtain rfl:=u8 aA;refine dR z z (l0 g_5 z<|az.at0 z)<|dR z z (c_7 d_5 d_3 z) ?_
 iterate 3 refine dM z z z ?_
 obtain ⟨_,aB,al⟩:=bdS ak;refine dRX z z (rX s_ z_5 z z a6 z z aB) ?_;rintro _ ⟨_,_,_,rfl,aC⟩;obtain ⟨_,aD,W⟩:=bdS al;refine dE z z (fc call37 z<|W_w1b aD (zt' O<|lt_ (lt_ (lt_ hl h1.s) h2.s) s4.s) aC) (.inr λ_ _ h=>x_<|h.1) ?_;rintro _ _ ⟨sg,rfl,_⟩;refine dR z z (nq z z)<|dQ z z z<|pD<|Wo<|Wc z (λhcs=>?_) (λhcs=>?_)
 .refine Ws<|R z (bP (parts:=[]) (cs:=[vI 0,sN,sN]) a_7 z z)<|Rm z<|E0 (fs0 (cur':=[vI 0,sN,sN]) n_ z z (((((h3.e G).e h1).c h2<|djs<|mm1 h3.lt G.s).e s4).e sg) z z z z) ?_
  rintro _ _ ⟨aE,aF⟩;refine Ra z<|Rw z ?_
  obtain rfl:=som<|ifT W hcs;exact Wr<|rtO<|L_ hr (v_ I_ n_ z aE z) z z ⟨bM (bup (bup (bM (bup (bup (bup (bup hh H) h5) G) h1) h2<|m1 hl) s4) sg) aF.one<|m1 hj,none,0,0,[],none,0,0,[],z,ii z,onL,onL,hp,ii z,nd0,al0⟩
 refine Wk<|Ws<|R z (lN (vs:=[vI rk.number,sl aa nb cc,sl ad ne cf]) I_ n_ z z fid<|((a4.e s4).e sg).row 0 3 z)<|Rm z<|R z (add_ z z)<|E0 (fs0 (cur':=[vI rk.number,sl aa nb cc,sl ad ne cf]) n_ z z (((((h3.e G).e h1).c h2<|djs<|mm1 h3.lt G.s).e s4).e sg) z z z z) ?_
 rintro _ _ ⟨aG,aH⟩;have ht:=aH.one;refine Ra z<|Rw z ?_
 obtain rfl:=som<|ifF W hcs;exact Wr<|L_ hr (v_ I_ n_ z aG z) z z ⟨bM (bup (bup (bM (bup (bup (bup (bup hh H) h5) G) h1) h2<|m1 hl) s4) sg) ht<|m1 hj,aa,nb,cc,a0,ad,ne,cf,a1,z,a2,((((hn.e h1).c h2<|ds<|mnr<|b_.lt hn).e s4).e sg).c ht<|l_ (al_ h6) h3.lt lr,((((ho.e h1).c h2<|ds<|mnr<|b_.lt ho).e s4).e sg).c ht<|l_ (ar_ h6) h3.lt lr,iA _ _,ii z,na_ (nl_ hi) (nr_ hi)<|nj hi,aa_ (p_ (al_ h6) J)<|p_ (ar_ h6) J⟩
theorem c_W:∀n,f_h n
  | 0=>⟨⟨λhm=>by intros;exact nomatch (show none=some _ from hm)⟩,⟨λhm=>by intros;exact nomatch (show none=some _ from hm)⟩,⟨λhm=>by intros;exact nomatch (show none=some _ from hm)⟩,⟨λhm=>by intros;exact nomatch (show none=some _ from hm)⟩,⟨λhm=>by intros;exact nomatch (show none=some _ from hm)⟩⟩
  | n+1=>⟨T_w04<|c_W n,T_w1v<|c_W n,T_w1w<|c_W n,T_w1x<|c_W n,T_w1y<|c_W n⟩
theorem W_w04:j_Y (a_x n).spec_l11Read:=(c_W n).1
theorem W_w1v:j_Z (a_x n).spec_l11Items:=(c_W n).2.1
theorem W_w1w:k_0 (a_x n).spec_l11Choice:=(c_W n).2.2.1
theorem W_w1x:k_1 (a_x n).spec_l11Option:=(c_W n).2.2.2.1
theorem W_w1y:k_2 (a_x n).spec_l11Checked:=(c_W n).2.2.2.2
theorem k_3 {x1:g_}{x2:Int}{x3:Bt}{x4:Int}{res:Val×Int×Int}(hm:h_6 n x1 x2 x3 x4=some res)(L:B<=w0.z)(W:repS w0 B (sl A0 N0 C0) x1.rules)(Y:inI x2)(J:repS w0 B (sl A7 N7 C7) x3)(a0:inI x4):q_ prog 47 [(.agg #[sl A0 N0 C0]),vI x2,sl A7 N7 C7,vI x4] w0 (Q37 w0 B res):=by
 unfold h_6 at hm
 refine goG func47 z z z λfn hr=>Ws<|E z (fb z) ?_
 rintro _ O ⟨rfl,hg⟩;have h3:=hg.below;have hh:Blk O w0.z [sl A0 N0 C0]:=hg.blk;refine E z (fa a_q) ?_;rintro _ V ⟨rfl,hi⟩;have h4:=hi.below;have h6:Blk V O.z [vI 0,sN,sN]:=hi.blk;refine Ra z<|Rw z<|Wq<|Wq ?_
 obtain ⟨uy,huz,hmj⟩:=bdS hm;refine Wt (λa w=>∃(xa:Bool),xa=uy/\Sat 36 [(1,vI x2),(2,sl A7 N7 C7),(3,vI x4),(4,pt w0.z),(8,pt O.z),(26,vB xa)] a/\Below V.z V w) ?_ ?_
 .refine Wg<|R z (lN (vs:=[sl A0 N0 C0]) B_ w_ z z fid<|(hh.e h4).row 0 1 z)<|Rm z ?_
  have hk:=(h3.ag B).e h4;have hl:=lt_ h3.s h4.s;obtain ⟨a2,a3,hmm⟩:=bdS huz;refine E z (fc call67 z<|W_w37 a3 (zt' L hl) (W.g hk) Y) ?_;rintro _ _ ⟨s5,rfl⟩;refine R z (not_ z)<|Rm z ?_
  rcases bs (!a2) with G | G
  .iterate 5 refine Nh z G ?_
   exact R z (pT z G z)<|Rm z<|Nh z z<|Nh z z<|Nh z z<|R z (pT z z z)<|Wl (λ_ q=>⟨true,som<|ifT hmm G,q.k<|s6 z z z z z z,s5⟩)
  refine Rh z G (mv z)<|Rh z G (mv z) ?_
  have hn:=hk.e s5;have ho:=J.g hn;refine Rh z G (lnR s_ z ho) ?_;obtain ⟨a4,a5,hmp⟩:=bdS<|ifF hmm G;refine Eg z z G z (fc call54 z<|b_j a5 (zt' L<|lt_ hl s5.s) a0 (ii z)<|b_2<|repS.len ho) ?_;rintro _ _ ⟨sb,rfl⟩;refine Rh z G (not_ z)<|R z (pF z G z)<|Rm z ?_
  rcases bs (!a4) with H | H
  .iterate 3 refine Nh z H ?_
   exact R z (pT z H z)<|Wl (λ_ q=>⟨true,som<|ifT hmp H,q.k<|s6 z z z z z z,bup s5 sb⟩)
  exact Rh z H (mv z)<|Rh z H (lnR s_ z<|J.g<|hn.e sb)<|Rh z H (a_b z z)<|R z (pF z H z)<|Wl (λ_ q=>⟨decide<|400<(x3.length:Int),som<|ifF hmp H,q.k<|s6 z z z z z z,bup s5 sb⟩)
 rintro a6 _ ⟨xa,rfl,_,s2⟩;revert a6;refine Wo<|Wc z (λhcc=>?_) (λhcc=>?_)
 .refine Ws<|R z (bP (parts:=[]) (cs:=[vI 0,sN,sN]) a_7 z z)<|E0 (fs0 (cur':=[vI 0,sN,sN]) n_ z z (h6.e s2) z z z z) ?_
  rintro _ _ ⟨a7,a8⟩;refine Ra z<|Rw z ?_
  obtain rfl:=som<|ifT hmj hcc;exact Wr<|L_ hr (v_ I_ n_ z a7 z) z z ⟨bM (bup (bup h3 h4) s2) a8.one<|m1 h3.s,none,0,0,[],none,0,0,[],z,ii z,onL,onL,ii z,ii z,nd0,al0⟩
 refine Wk<|Ws<|R z (lN (vs:=[sl A0 N0 C0]) B_ w_ z z fid<|((hh.e h4).e s2).row 0 1 z)<|RM z z<|Rm z ?_
 have hq:=((h3.ag B).e h4).e s2;have hd:=lt_ (lt_ h3.s h4.s) s2.s;obtain ⟨a9,_,_,aa,a1⟩:=r_<|ifF hmj hcc;refine E z (fc call68 z<|W_w04.run aa (zt' L hd) (W.g hq) Y (J.g hq) a0) ?_;rintro _ _ ⟨sr,au,ns,ct,ab,av,nw,cx,ad,rfl,ae,af,ah,ai,aj,he,I⟩
 iterate 3 refine Re z z z ?_
 refine E0 (fs0 (cur':=[vI a9.number,sl au ns ct,sl av nw cx]) n_ z z ((h6.e s2).e sr) z z z z) ?_;rintro _ _ ⟨ak,al⟩;have hf:=al.one;refine Ra z<|Rw z ?_
 obtain rfl:=som a1;exact Wr<|L_ hr (v_ I_ n_ z ak z) z z ⟨bM (bup (bup (bup h3 h4) s2) sr) hf<|m1 h3.s,au,ns,ct,ab,av,nw,cx,ad,z,ae,af.c hf<|l_ (al_ I) h6.lt s2.s,ah.c hf<|l_ (ar_ I) h6.lt s2.s,ai,aj,na_ (nl_ he) (nr_ he)<|nj he,aa_ (p_ (al_ I) hd)<|p_ (ar_ I) hd⟩
theorem W_w1z {x1:g_}{x2:Bt}{res:Val×Int×Int}(hm:f_D n x1 x2=some res)(W:B<=w0.z)(V:repS w0 B (sl A0 N0 C0) x1.rules)(Y:repS w0 B (sl A6 N6 C6) x2):q_ prog 25 [(.agg #[sl A0 N0 C0]),sl A6 N6 C6] w0 (Q37 w0 B res):=by
 unfold f_D at hm
 refine goG func25 z z z λfn hr=>Ws<|E z (fb z) ?_
 rintro _ wl ⟨rfl,ao⟩;have h2:=ao.below;have hv:Blk wl w0.z [sl A0 N0 C0]:=ao.blk;refine E z (fa a_q) ?_;rintro _ I ⟨rfl,ap⟩;have h1:=ap.below;have hn:Blk I wl.z [vI 0,sN,sN]:=ap.blk;refine Ra z<|Rw z<|Wq ?_
 obtain ⟨bn,ak,bh⟩:=bdS hm;refine Wt (λa w=>∃(xb:Int)(xw:Bt)(xx:List Val)(xc:Int)(xd:Int),(xb,xw,xx,xc,xd)=bn/\∃ae nf cg J ah ni cj L O,Sat 32 [(1,sl A6 N6 C6),(4,pt wl.z),(7,pt O),(8,vI xc),(9,vI xd)] a/\Below I.z I w/\inI xb/\b_ w J (sl ae nf cg) xw/\J.Nodup/\(∀k∈J,I.z<=k)/\b_ w L (sl ah ni cj) xx/\L.Nodup/\(∀k∈L,I.z<=k)/\(∀k∈L,k∉J)/\inI xc/\inI xd/\Blk w O [vI xb,sl ae nf cg,sl ah ni cj]/\I.z<=O/\(∀k∈J,k∉[O])/\(∀k∈L,k∉[O])) ?_ ?_
 .refine Wd (X:=λk=>k∈([]:List Nat)∨I.z<=k) 0 (.rd 0<|.rd 1<|.rd 3<|.br 2 (.br 4 (.rd 5<|.rd 6<|.rd 7<|.rd 8<|.ef 9<|.ef 10<|.rd 11<|.rd 12 .done) 9<|.ef 4<|.rd 5<|.rd 6<|.rd 7<|.rd 8<|.ef 10<|.rd 11<|.rd 12 .done) 9<|.ef 2<|.ef 4<|.rd 5<|.rd 6<|.rd 7<|.rd 8<|.ef 10<|.rd 11<|.rd 12 .done) mo (by kernel_rfl) λaq G _=>?_
  have ar:=(hv.e h1).e G;refine dR z z (lN (vs:=[sl A0 N0 C0]) B_ w_ z z (a_3 nm0<|Nat.lt_of_lt_of_le hv.lt h1.s)<|ar.row 0 1 z)<|dR z z (lN (vs:=[sl A0 N0 C0]) B_ w_ z z (a_3 nm0<|Nat.lt_of_lt_of_le hv.lt h1.s)<|ar.row 0 1 z)<|dM z z z<|b_u ?_ ?_
  .have hy:=((h2.ag B).e h1).e G;have hz:=lt_ (lt_ h2.s h1.s) G.s;obtain ⟨_,bo,al⟩:=bdS ak;refine dE z z (fc call48 z<|W_w1s bo (zt' W hz)<|V.g hy) (.inr λ_ _ h=>x_<|h.1) ?_;rintro _ au ⟨s4,rfl,av⟩;refine b_u ?_ ?_
   .have aw:=hy.e s4;obtain ⟨rm,bp,bq,bt,bi⟩:=r_ al;refine dE z z (fc call47 z<|k_3 bt (zt' W<|lt_ hz s4.s) (V.g aw) av (Y.g aw)<|ii z) (.inr λ_ _ h=>x_<|h.1) ?_;rintro _ ax ⟨ay,az,aA,aB,bu,aC,aD,aE,bv,rfl,bw,aF,aG,bx,bz,a1,aH⟩;refine dM z z z ?_
    iterate 3 refine dR z z (ext_ z z) ?_
    refine dE z z (fa a_q) (.inr λ_ _ h=>x_<|h.2.below) ?_;rintro _ bA ⟨rfl,aI⟩;have a2:=aI.below;have a3:=lt_ G.s s4.s;have a4:=m1<|lt_ a3 ay.s
    refine dE0 z (fs0 (cur':=[vI rm.number,sl az aA aB,sl aC aD aE]) n_ z z (aI.blk:Blk bA ax.z [vI 0,sN,sN]) z z z z) (.inr λ_ _ h=>d_f (atp a4) h.2) ?_;rintro _ _ ⟨bB,bC⟩;have a5:=bC.one;refine dQ z z z<|dQ z z z<|pD ?_
    have aJ:=mnr<|b_.lt aF
    have aK:=mnr<|b_.lt aG
    exact λ_ q=>⟨rm.number,rm.bytes,rm.items,bp,bq,som bi,az,aA,aB,bu,aC,aD,aE,bv,ax.z,q.k<|s5 z z z z z,bM (bup (bup (bup G s4) ay) a2) a5 a4,bw,(aF.e a2).c a5<|ds aJ,nl_ a1,p_ (al_ aH) a3,(aG.e a2).c a5<|ds aK,nr_ a1,p_ (ar_ aH) a3,ds<|nj a1,bx,bz,bB,atp a4,ds aJ,ds aK⟩
   refine dE z z (fa a_q) (.inr λ_ _ h=>x_<|h.2.below) ?_;rintro _ bD ⟨rfl,aL⟩;have ho:=aL.below;have a6:Blk bD au.z [vI 0,sN,sN]:=aL.blk;have aM:=(hy.e s4).e ho;obtain ⟨rp,bE,bF,bG,bj⟩:=r_ al;refine dE z z (fc call47 z<|k_3 bG (zt' W<|lt_ (lt_ hz s4.s) ho.s) (V.g aM) av (Y.g aM)<|ii z) (.inr λ_ _ h=>x_<|h.1) ?_;rintro _ _ ⟨aN,aO,aP,aQ,bH,aR,aS,aT,bI,rfl,bJ,bK,bL,bN,bO,a7,hq⟩;refine dM z z z ?_
   iterate 3 refine dR z z (ext_ z z) ?_
   have aU:=lt_ G.s s4.s;have a8:=m1 aU;refine dE0 z (fs0 (cur':=[vI rp.number,sl aO aP aQ,sl aR aS aT]) n_ z z (a6.e aN) z z z z) (.inr λ_ _ h=>d_f (atp a8) h.2) ?_;rintro _ _ ⟨bQ,bR⟩;have a9:=bR.one;refine dQ z z z<|dQ z z z<|pD ?_
   have aV:=l_ (al_ hq) a6.lt lr;have aW:=lt_ aU ho.s;have aX:=l_ (ar_ hq) a6.lt lr;exact λ_ q=>⟨rp.number,rp.bytes,rp.items,bE,bF,som bj,aO,aP,aQ,bH,aR,aS,aT,bI,au.z,q.k<|s5 z z z z z,bM (bup (bup (bup G s4) ho) aN) a9 a8,bJ,bK.c a9 aV,nl_ a7,p_ (al_ hq) aW,bL.c a9 aX,nr_ a7,p_ (ar_ hq) aW,ds<|nj a7,bN,bO,bQ,atp a8,aV,aX⟩
  refine dE z z (fa a_q) (.inr λ_ _ h=>x_<|h.2.below) ?_;rintro _ bS ⟨rfl,aY⟩;have ht:=aY.below;have aa:Blk bS aq.z [vI 0,sN,sN]:=aY.blk;have aZ:=(((h2.ag B).e h1).e G).e ht;have b0:=lt_ (lt_ (lt_ h2.s h1.s) G.s) ht.s;obtain ⟨_,bT,bk⟩:=bdS ak;refine dE z z (fc call48 z<|W_w1s bT (zt' W b0)<|V.g aZ) (.inr λ_ _ h=>x_<|h.1) ?_;rintro _ _ ⟨s9,rfl,bU⟩;have b1:=aZ.e s9;obtain ⟨rr,bV,bW,bX,bm⟩:=r_ bk;refine dE z z (fc call47 z<|k_3 bX (zt' W<|lt_ b0 s9.s) (V.g b1) bU (Y.g b1)<|ii z) (.inr λ_ _ h=>x_<|h.1) ?_;rintro _ _ ⟨b2,b3,b4,b5,bY,b6,b7,b8,bZ,rfl,c0,c1,c2,c3,c4,ab,hu⟩;refine dM z z z ?_
  iterate 3 refine dR z z (ext_ z z) ?_
  have ad:=m1 G.s;refine dE0 z (fs0 (cur':=[vI rr.number,sl b3 b4 b5,sl b6 b7 b8]) n_ z z ((aa.e s9).e b2) z z z z) (.inr λ_ _ h=>d_f (atp ad) h.2) ?_;rintro _ _ ⟨c5,c6⟩;have af:=c6.one;refine dQ z z z<|dQ z z z<|pD ?_
  have b9:=l_ (al_ hu) aa.lt s9.s;have ba:=lt_ (lt_ G.s ht.s) s9.s;have bb:=l_ (ar_ hu) aa.lt s9.s;exact λ_ q=>⟨rr.number,rr.bytes,rr.items,bV,bW,som bm,b3,b4,b5,bY,b6,b7,b8,bZ,aq.z,q.k<|s5 z z z z z,bM (bup (bup (bup G ht) s9) b2) af ad,c0,c1.c af b9,nl_ ab,p_ (al_ hu) ba,c2.c af bb,nr_ ab,p_ (ar_ hu) ba,ds<|nj ab,c3,c4,c5,atp ad,b9,bb⟩
 rintro c7 ws ⟨xb,xw,xx,xc,xd,rfl,ae,nf,cg,J,ah,ni,cj,L,O,_,sk,c8,c9,ca,bc,cb,cc,be,cd,bf,ce,cf,_,_,_⟩;revert c7;refine Wo<|Wq<|Wq ?_
 obtain ⟨ch,am,an⟩:=bdS<|c_z bh;refine Wt (λa w=>∃(ai:Bool),ai=ch/\Sat 32 [(4,pt wl.z),(7,pt O),(8,vI xc),(9,vI xd),(26,vB ai)] a/\Below ws.z ws w) ?_ ?_
 .refine Wg<|Rm z<|Rq z z z<|Rm z ?_
  rcases bs (xd==0) with H | H
  .exact Rh z H (mv z)<|Rh z H (mv z)<|Rh z H (lnR s_ z<|Y.g<|((h2.ag B).e h1).e sk)<|Rh z H (lss z z)<|R z (pT z H z)<|Wl (λ_ q=>⟨decide<|xc<(x2.length:Int),som<|ifT am H,q.k<|s5 z z z z z,br ws⟩)
  iterate 4 refine Nh z H ?_
  exact R z (pF z H z)<|Wl (λ_ q=>⟨false,som<|ifF am H,q.k<|s5 z z z z z,br ws⟩)
 rintro ci _ ⟨ai,rfl,_,sa⟩;revert ci;refine Wo<|Wc z (λa0=>?_) (λa0=>?_)
 .refine Ws<|R z (bP (parts:=[]) (cs:=[vI 0,sN,sN]) a_7 z z)<|Rm z<|E0 (fs0 (cur':=[vI 0,sN,sN]) n_ z z ((hn.e sk).e sa) z z z z) ?_
  rintro _ _ ⟨ck,cl⟩;refine Ra z<|Rw z ?_
  obtain rfl:=som<|ifT an a0;exact Wr<|L_ hr (v_ I_ n_ z ck z) z z ⟨bM (bup (bup (bup h2 h1) sk) sa) cl.one<|m1 h2.s,none,0,0,[],none,0,0,[],z,ii z,onL,onL,bf,ii z,nd0,al0⟩
 refine Wk<|Ws<|R z (lN (vs:=[vI xb,sl ae nf cg,sl ah ni cj]) I_ n_ z z fid<|(cf.e sa).row 0 3 z)<|RM z z<|E0 (fs0 (cur':=[vI xb,sl ae nf cg,sl ah ni cj]) n_ z z ((hn.e sk).e sa) z z z z) ?_
 rintro _ _ ⟨cm,cn⟩;have aj:=cn.one;refine Ra z<|Rw z ?_
 obtain rfl:=som<|ifF an a0;have bg:=lt_ h2.s h1.s;exact Wr<|L_ hr (v_ I_ n_ z cm z) z z ⟨bM (bup (bup (bup h2 h1) sk) sa) aj<|m1 h2.s,ae,nf,cg,J,ah,ni,cj,L,z,c8,(c9.e sa).c aj<|l_ bc hn.lt lr,(cb.e sa).c aj<|l_ be hn.lt lr,bf,ce,na_ ca cc<|ds cd,aa_ (p_ bc bg)<|p_ be bg⟩
theorem W_w20 {x1:g_}{x2:Bt}{res:Int×Int}(hm:d_q n x1 x2=some res)(J:B<=w0.z)(H:repS w0 B (sl A0 N0 C0) x1.rules)(I:repS w0 B (sl A6 N6 C6) x2):q_ prog 23 [(.agg #[sl A0 N0 C0]),sl A6 N6 C6] w0 (Q20 w0 B res):=by
 unfold d_q at hm
 refine goG func23 z z z λfn hr=>Ws<|E z (fb z) ?_
 rintro _ O ⟨rfl,h1⟩;have G:=h1.below;refine Ra z<|Rw z<|Ws<|R z (lN (vs:=[sl A0 N0 C0]) B_ w_ z z fid<|(h1.blk:Blk O w0.z [sl A0 N0 C0]).row 0 1 z)<|Rm z ?_
 obtain ⟨V,_,_,W,L⟩:=r_ hm;refine E z (fc call25 z<|W_w1z W (zt' J G.s) (H.e G)<|I.e G) ?_;rintro _ Y ⟨s2,aa,nb,cc,_,ad,ne,cf,_,rfl,_,_,_,hg,hh,_,_⟩;refine Rm z ?_
 iterate 3 refine Re z z z ?_
 refine E z (fa a_q) ?_;rintro _ wi ⟨rfl,h3⟩;refine E0 (fs0 (cur':=[vI V.number,sl aa nb cc,sl ad ne cf]) n_ z z (h3.blk:Blk wi Y.z [vI 0,sN,sN]) z z z z) ?_;rintro _ _ ⟨_,sk⟩;refine Ra z<|Rw z<|Wm z<|Rm z<|Ra z<|Rw z ?_
 obtain rfl:=som L;exact Wr<|a_e hr z z ⟨bM (bup (bup G s2) h3.below) sk.one<|m1<|lt_ G.s s2.s,z,hg,hh⟩
def Q39 (w0:World)(B:Zone)(r:UInt8)(v:Value)(w':World):Prop:=Bw w0 w'/\(λG=>(vU<|byteI G)=v) r
theorem W_w3b {x1:g_}{x2:Bt}{x3:Int}{res:UInt8}(hm:f_i n x1 x2 x3=some res)(J:B<=w0.z)(V:repS w0 B (sl A0 N0 C0) x1.rules)(O:repS w0 B (sl A6 N6 C6) x2)(ao:inI x3):q_ prog 24 [(.agg #[sl A0 N0 C0]),sl A6 N6 C6,vI x3] w0 (Q39 w0 B res):=by
 unfold f_i at hm
 refine goG func24 z z z λfn hr=>Ws<|E z (fb z) ?_
 rintro _ H ⟨rfl,hf⟩;have h4:=hf.below;have L:Blk H w0.z [sl A0 N0 C0]:=hf.blk;refine Rw z<|Wq<|Ws<|Rw z ?_
 obtain ⟨_,huw,hmg⟩:=bdS hm;refine Wf (σ:=Unit) (ρ:=UInt8) (λ(ka:Nat)(_:Unit) a w=>Sat 42 [(1,sl A6 N6 C6),(2,vI x3),(3,pt w0.z),(7,vI ((ka:Nat):Int))] a/\Below H.z H w) (λ(_:Unit) a w=>Sat 42 [(1,sl A6 N6 C6),(2,vI x3)] a/\Below H.z H w) (rQ prog fn<|Q39 w0 B) huw ?_ ?_ ?_ ?_ ?_
 .exact λ_ q=>⟨q.k<|s4 z z z z,br H⟩
 .rintro ka _ _ wx _ hkh ⟨hSy,s1⟩ hmz;refine Wu ?_ hSy;refine Wq<|Wm z<|Rl z z z<|Wx z (λ_=>?_) (λhc=>(f_2 hkh hc).elim)
  refine Wk<|Wq<|Wb<|Ws<|E z (f0 (α:=UInt8) H_) ?_
  rintro _ _ ⟨_,_,_,rfl,s3,a6⟩;refine Rm z ?_;obtain ⟨_,a7,W⟩:=bdS hmz;have hi:=((h4.ag B).e s1).e s3;refine E z (fN (α:=UInt8) H_ a7 z z a6 a_p<|O.g hi) ?_;rintro _ _ ⟨Sj,_,_,_,rfl,s6,hk,a8,h5⟩;refine Rw z<|Wm z<|RM z z<|R z (b_G d_3 d_5 z) ?_
  obtain ⟨_,el,Y⟩:=bdS W;refine RX z (e_o (α:=UInt8) s_ z_5 z z hk el) ?_;rintro _ ⟨_,a9,rfl⟩;refine E0 (e_p (α:=UInt8) z_5 z a9 z z z el hk a8 a_t an_ z_) ?_;rintro _ aa ⟨_,s7,ab,_,_⟩;refine Wn<|Ws ?_
  have hn:=mm1 L.lt s1.s;have ho:=lt_ s1.s s3.s;refine R z (lN (vs:=[sl A0 N0 C0]) B_ w_ z z fid<|((((L.e s1).e s3).c s6<|djs hn).c s7<|djs (or1 h5 hn (k_ (a_ L.lt) ho):∀k∈Sj,k∉[w0.z])).row 0 1 z)<|Rm z ?_
  have hb:=lt_ h4.s s1.s;have hp:∀k∈[wx.z],¬B k:=or0 (a_ lr)<|m_<|zt' J hb;have hd:=lt_ hb s3.s;obtain ⟨ad,ae,af,a0⟩:=a_9 Y;refine E z (fc call23 z<|W_w20 (B:=aa.z) af zr (repS.mono (V.g<|(hi.c s6<|c_ hp).c s7<|c_ (or1 h5 hp (m_<|zt' J hd):∀k∈Sj,¬B k))<|zt' J<|lt_ (lt_ hd s6.s) s7.s)<|b_.rep ab) ?_;rintro _ I ⟨sm,rfl,_,_⟩;refine Rm z<|Re z z z<|Re z z z<|Ra z<|Rw z<|Wq ?_
  obtain ⟨ah,huq,hmr⟩:=bdS a0;refine Wt (λa w=>∃(xc:Bool),xc=ah/\Sat 42 [(1,sl A6 N6 C6),(2,vI x3),(3,pt w0.z),(7,vI ((ka:Nat):Int)),(35,vB xc)] a/\Below I.z I w) ?_ ?_
  .refine Wg<|RM z z<|R z (nq z z)<|Rm z ?_
   rcases bs (ad != x3) with G | G
   .exact Nh z G<|Nh z G<|R z (pT z G z)<|Wl (λ_ q=>⟨true,som<|ifT huq G,q.k<|s5 z z z z z,br I⟩)
   exact Rh z G (mv z)<|Rh z G (nq z z)<|R z (pF z G z)<|Wl (λ_ q=>⟨ae != 5,som<|ifF huq G,q.k<|s5 z z z z z,br I⟩)
  rintro ai _ ⟨xc,rfl,_,ss⟩;revert ai;refine Wo<|Wc z (λhce=>?_) (λhce=>?_)
  .refine Wm z<|R z (b_G d_3 d_5 z)<|Rw z ?_
   have ht:=m1 hb;exact Wr<|rtO<|qL (som<|ifT hmr hce).symm<|i_ hr z ⟨bup (bup (bM (bM (bup (bup h4 s1) s3) s6 ht) s7<|a_0 h5 ht hd) sm) ss,z⟩
  refine Wk<|Wg<|Rm z<|R z (inc_ hkh (tl_<|ii z) z z)<|Ra z<|Wl ?_
  have hu:=m1 s1.s;exact λ_ q=>⟨(),(som<|ifF hmr hce).symm,⟨q.k<|s4 z z z z,bup (bup (bM (bM (bup s1 s3) s6 hu) s7<|a_0 h5 hu ho) sm) ss⟩⟩
 .rintro _ _ _ ⟨a1,aj⟩;refine Wu ?_ a1;refine Wq<|Wm z<|Rl z z z<|Wx z (λhc=>(f_3 hc).elim) (λ_=>?_)
  exact We<|λ_ q=>⟨rfl,⟨q.k<|s2 z z,aj⟩⟩
 .rintro _ ak _ rfl ⟨_,sv⟩;have a2:=elL hmg;revert ak;refine Wo<|Wm z<|Rm z ?_
  obtain ⟨_,al,a3⟩:=bdS a2;refine RX z (at_ (α:=UInt8) s_ z_5 z z z (O.g<|(h4.ag B).e sv) al) ?_;rintro _ ⟨_,_,_,rfl,am,an,_⟩;obtain rfl:=u8 an;refine R z (l0 g_5 z<|am.at0 z)<|Rw z ?_
  obtain rfl:=som a3;exact Wr<|i_ hr z ⟨bup h4 sv,z⟩
 rintro _ _ _ _ rfl ⟨rfl,a4⟩;have a5:=elR hmg;obtain rfl:=som a5;exact ⟨a4,z⟩
theorem k_4 {x1:g_}{x2:Bt}{res:Bool}(hm:c_L n x1 x2=some res)(J:B<=w0.z)(H:repS w0 B (sl A0 N0 C0) x1.rules)(I:repS w0 B (sl A6 N6 C6) x2):q_ prog 9 [(.agg #[sl A0 N0 C0]),sl A6 N6 C6] w0 (Q0 w0 B res):=by
 unfold c_L at hm
 refine goG func9 z z z λfn hr=>Ws<|E z (fb z) ?_
 rintro _ O ⟨rfl,h1⟩;have G:=h1.below;refine Rw z<|Ws<|R z (lN (vs:=[sl A0 N0 C0]) B_ w_ z z fid<|(h1.blk:Blk O w0.z [sl A0 N0 C0]).row 0 1 z)<|Rm z ?_
 obtain ⟨V,_,_,W,L⟩:=r_ hm;refine E z (fc call25 z<|W_w1z W (zt' J G.s) (H.e G)<|I.e G) ?_;rintro _ Y ⟨s2,aa,nb,cc,_,ad,ne,cf,_,rfl,_,_,_,_,_,_,_⟩;refine Rm z ?_
 iterate 3 refine Re z z z ?_
 refine E z (fa a_q) ?_;rintro _ wg ⟨rfl,h3⟩;refine E0 (fs0 (cur':=[vI V.number,sl aa nb cc,sl ad ne cf]) n_ z z (h3.blk:Blk wg Y.z [vI 0,sN,sN]) z z z z) ?_;rintro _ _ ⟨_,si⟩;refine Ra z<|Rw z<|Wm z<|Rq z z z<|Rw z ?_
 obtain rfl:=som L;exact Wr<|i_ hr z ⟨bM (bup (bup G s2) h3.below) si.one<|m1<|lt_ G.s s2.s,z⟩
theorem W_w3c {x1:g_}{x2:Bt}{res:Bt×Bool}(hm:f_j n x1 x2=some res)(I:B<=w0.z)(O:repS w0 B (sl A0 N0 C0) x1.rules)(V:repS w0 B (sl A6 N6 C6) x2):q_ prog 7 [(.agg #[sl A0 N0 C0]),sl A6 N6 C6] w0 (Q14 w0 B res):=by
 unfold f_j at hm
 refine goG func7 z z z λfn hr=>Ws<|E z (fb z) ?_
 rintro _ wl ⟨rfl,ht⟩;have h3:=ht.below;have J:Blk wl w0.z [sl A0 N0 C0]:=ht.blk;refine Ra z<|Rw z<|Ws<|E z (f0 (α:=UInt8) H_) ?_
 rintro _ _ ⟨_,_,_,rfl,s5,aw⟩;refine Rm z ?_;obtain ⟨_,ax,aj⟩:=bdS hm;have hn:=(h3.ag B).e s5;refine E z (fN (α:=UInt8) H_ ax z z aw a_p<|V.g hn) ?_;rintro _ H ⟨G,ac,nf,cg,rfl,s6,ay,az,L⟩;refine Rw z<|Wq<|Ws<|Rw z ?_
 obtain ⟨_,ak,hmr⟩:=bdS aj;refine Wf (σ:=Bt) (ρ:=Bt×Bool) (λ(ks:Nat)(xa:Bt) a w=>∃(S2:List Nat),Sat 40 [(1,sl A6 N6 C6),(2,pt w0.z),(6,sl ac nf cg),(7,vI ((ks:Nat):Int))] a/\Cg G H w/\b_ w S2 (sl ac nf cg) xa/\S2.Nodup/\(∀k∈S2,k∈G∨H.z<=k)) (λ(xa:Bt) a w=>∃(S2:List Nat),Sat 40 [(1,sl A6 N6 C6),(2,pt w0.z),(6,sl ac nf cg)] a/\Cg G H w/\b_ w S2 (sl ac nf cg) xa/\S2.Nodup/\(∀k∈S2,k∈G∨H.z<=k)) (rQ prog fn<|Q14 w0 B) ak ?_ ?_ ?_ ?_ ?_
 .exact λ_ q=>⟨G,q.k<|s4 z z z z,cr G H,ay,az,io sr⟩
 .rintro ks xa _ wj _ hku ⟨S2,al,sb,h4,hd,he⟩ am;refine Wu ?_ al;refine Wq<|Wm z<|Rl z z z<|Wx z (λ_=>?_) (λhc=>(f_2 hku hc).elim)
  refine Wk<|Wq<|Wb<|Ws ?_
  have hv:=mmr J.lt;have hw:=((J.e s5).c s6<|djs hv).c sb<|djs (or1 L hv (k_ (a_ J.lt) s5.s):∀k∈G,k∉[w0.z])
  refine R z (lN (vs:=[sl A0 N0 C0]) B_ w_ z z fid<|hw.row 0 1 z)<|Rm z ?_
  have hx:∀k∈[wl.z],¬B k:=or0 (a_ lr)<|m_<|zt' I h3.s;have hy:=lt_ h3.s s5.s;have hz:=(hn.c s6<|c_ hx).c sb<|c_ (or1 L hx (m_<|zt' I hy):∀k∈G,¬B k)
  have a0:=zt' I<|lt_ (lt_ hy s6.s) sb.s
  obtain ⟨_,_,aA,W⟩:=a_9 am;refine E z (fc call23 z<|W_w20 (B:=wj.z) aA zr (repS.mono (O.g hz) a0)<|b_.rep h4) ?_;rintro _ a1 ⟨s7,rfl,aB,_⟩;refine Rm z<|Re z z z<|Re z z z<|Ra z<|Rw z<|Wq<|Wm z<|R z (nq z z)<|Wx z (λhcm=>?_) (λhcm=>?_)
  .have aC:∀k∈S2,k∈G∨H.z<=k:=or1 he (io sr)<|o_ lr;exact We<|exO z (λ_ q=>b_n (som<|ifT W hcm).symm ⟨S2,q.k<|s3 z z z,(e_ (cM (cr G H) sb (io sr):Cg G H wj) s7:Cg G H a1),h4.e s7,hd,aC⟩)
  refine Wk<|Wg<|RM z z<|R z (lN (vs:=[sl A0 N0 C0]) B_ w_ z z fid<|(hw.e s7).row 0 1 z)<|RM z z ?_
  have a2:=h4.e s7;obtain ⟨_,aD,an⟩:=bdS<|ifF W hcm;refine E z (fc call24 z<|W_w3b (B:=wj.z) aD (b_a s7.s) (repS.mono (O.g<|hz.e s7) a0) (or_ a2<|b_.lt h4) aB) ?_;rintro _ aE ⟨so,rfl⟩;obtain ⟨aF,a3,ao⟩:=bdS an;have a4:=a2.e so;refine RX z (e_o (α:=UInt8) s_ z_5 z z a4 a3) ?_;rintro _ ⟨_,aG,rfl⟩;refine E0 (e_p (α:=UInt8) z_5 z aG z z z a3 a4 hd a_t an_ z_) ?_;rintro _ aH ⟨a5,aI,aJ,aK,aL⟩;refine Wn<|Wg<|Rm z<|R z (inc_ hku (tl_<|ii z) z z)<|Ra z<|Wl ?_
  have a6:∀k∈S2,k∈G∨H.z<=k:=or1 he (io sr)<|o_ lr;exact λ_ q=>⟨aF,(som ao).symm,⟨a5,q.k<|s4 z z z z,(cM (e_ (e_ (cM (cr G H) sb (io sr):Cg G H wj) s7:Cg G H a1) so:Cg G H aE) aI a6:Cg G H aH),aJ,aK,(or2 aL a6 an_ (o_<|lt_ (lt_ sb.s s7.s) so.s):∀k∈a5,k∈G∨H.z<=k)⟩⟩
 .rintro xa _ aM ⟨S2,ap,aN,h4,hd,he⟩;refine Wu ?_ ap;refine Wq<|Wm z<|Rl z z z<|Wx z (λhc=>(f_3 hc).elim) (λ_=>?_)
  exact We<|λ_ q=>⟨rfl,⟨S2,q.k<|s3 z z z,(cM (cr G H) aN (io sr):Cg G H aM),h4,hd,(or1 he (io sr) (o_ lr):∀k∈S2,k∈G∨H.z<=k)⟩⟩
 .rintro xa aO aP rfl ⟨S2,_,sh,h4,hd,he⟩;have aq:=elL hmr;revert aO;refine Wo<|Wq<|Ws ?_
  have a7:=mmr J.lt;refine R z (lN (vs:=[sl A0 N0 C0]) B_ w_ z z fid<|(((J.e s5).c s6<|djs a7).c sh<|djs (or1 L a7 (k_ (a_ J.lt) s5.s):∀k∈G,k∉[w0.z])).row 0 1 z)<|Rm z ?_
  have a8:∀k∈[wl.z],¬B k:=or0 (a_ lr)<|m_<|zt' I h3.s;have hk:=lt_ h3.s s5.s;have a9:=(hn.c s6<|c_ a8).c sh<|c_ (or1 L a8 (m_<|zt' I hk):∀k∈G,¬B k)
  have aa:=lt_ hk s6.s;have ab:=lt_ aa sh.s;obtain ⟨_,aQ,Y⟩:=bdS aq;refine E z (fc call9 z<|k_4 (B:=aP.z) aQ zr (repS.mono (O.g a9)<|zt' I ab)<|b_.rep h4) ?_;rintro _ _ ⟨si,rfl⟩;refine R z (not_ z)<|Wx z (λhcp=>?_) (λhcp=>?_)
  .refine Ws<|E z (f0 (α:=UInt8) H_) ?_
   rintro _ _ ⟨_,_,_,rfl,sq,aR⟩;refine Rm z ?_;obtain ⟨_,aS,ar⟩:=bdS<|ifT Y hcp;refine E z (fN (α:=UInt8) H_ aS z z aR a_p<|V.g<|(a9.e si).e sq) ?_;rintro _ _ ⟨aT,aU,aV,aW,rfl,aX,aY,aZ,b0⟩;refine Ra z<|Rw z ?_
   obtain rfl:=som ar;have ad:=m1 h3.s;have ae:=lt_ ab si.s;have af:=m1 ae;exact Wr<|a_e hr z z ⟨bM (bup (bup (bM (bM (bup h3 s5) s6 ad) sh<|a_0 L ad hk) si) sq) aX af,aU,aV,aW,aT,z,aY,aZ,a_0 b0 af<|lt_ ae sq.s⟩
  refine Wk<|Wm z<|Ra z<|Rw z ?_
  obtain rfl:=som<|ifF Y hcp;have ah:=m1 h3.s;have ai:=a_0 L ah hk;exact Wr<|a_e hr z z ⟨bup (bM (bM (bup h3 s5) s6 ah) sh ai) si,ac,nf,cg,S2,z,h4.e si,hd,a_0 he ai aa⟩
 rintro _ _ _ _ rfl ⟨rfl,au⟩;have av:=elR hmr;obtain rfl:=som av;exact ⟨au,z⟩
theorem W_w21 {x1:Bt}{x2:Bt}{res:Bool}(hm:e_k x1 x2=some res)(a0:B<=w0.z)(G:repS w0 B (sl A0 N0 C0) x1)(L:repS w0 B (sl A6 N6 C6) x2):q_ prog 8 [sl A0 N0 C0,sl A6 N6 C6] w0 (Q0 w0 B res):=by
 unfold e_k at hm
 refine goG func8 z z z λfn hr=>Ws<|Rw z<|Wq<|Wm z<|R z (lnR s_ z G)<|Rm z<|R z (lnR s_ z L)<|R z (nq z z)<|Wx z (λI=>?_) (λI=>?_)
 .refine Ws<|Rw z ?_
  obtain rfl:=som<|ifT hm I;exact Wr<|i_ hr z ⟨br w0,z⟩
 refine Wk<|Wq<|Ws<|Rw z ?_
 obtain ⟨_,hua,O⟩:=bdS<|ifF hm I;refine Wf (σ:=Unit) (ρ:=Bool) (λ(k5:Nat)(_:Unit) a w=>Sat 26 [(0,sl A0 N0 C0),(1,sl A6 N6 C6),(5,vI ((k5:Nat):Int))] a/\Below w0.z w0 w) (λ(_:Unit) a w=>Sat 26 [] a/\Below w0.z w0 w) (rQ prog fn<|Q0 w0 B) hua ?_ ?_ ?_ ?_ ?_
 .exact λ_ q=>⟨q.k<|s3 z z z,br w0⟩
 .rintro k5 _ _ _ _ V ⟨hSb,H⟩ hmc;refine Wu ?_ hSb;refine Wq<|Wm z<|Rm z<|R z (lnR s_ z<|G.e H)<|Rl z z z<|Wx z (λ_=>?_) (λhc=>(a_n V hc).elim)
  refine Wk<|Wq<|Wb<|Wq (Wd (X:=noX) 0 (pl_ 9 []) mo (by kernel_rfl) λwu s2 _=>dM z z z<|dM z z z ?_)
  obtain ⟨_,ed,hme⟩:=bdS hmc;have Y:=(H.ag B).e s2;refine dRX z z (at_ (α:=UInt8) s_ z_5 z z z (G.g Y) ed) ?_;rintro _ ⟨_,_,_,rfl,hf,hg,_⟩;obtain rfl:=u8 hg;refine dR z z (l0 g_5 z<|hf.at0 z)<|dM z z z<|dM z z z ?_
  obtain ⟨_,eh,W⟩:=bdS hme;refine dRX z z (at_ (α:=UInt8) s_ z_5 z z z (L.g Y) eh) ?_;rintro _ ⟨_,_,_,rfl,hi,hj,_⟩;obtain rfl:=u8 hj;refine dR z z (l0 g_5 z<|hi.at0 z)<|dR z z (nq z z)<|pD<|Wo<|Wc z (λJ=>?_) (λJ=>?_)
  .exact Ws<|Rw z<|Wr<|rtO<|qL (som<|ifT W J).symm<|i_ hr z ⟨bup H s2,z⟩
  exact Wk<|Wg<|Rm z<|R z (inc_ V (lt_ (repS.len G) X_) z z)<|Ra z<|Wl (λ_ q=>⟨(),(som<|ifF W J).symm,⟨q.k<|s3 z z z,bup H s2⟩⟩)
 .rintro _ _ _ ⟨hSk,s9⟩;refine Wu ?_ hSk;refine Wq<|Wm z<|Rm z<|R z (lnR s_ z<|G.e s9)<|Rl z z z<|Wx z (λhc=>(a_o hc).elim) (λ_=>?_)
  exact We<|λ_ q=>⟨rfl,⟨q.k sn,s9⟩⟩
 .rintro _ al _ rfl ⟨_,sm⟩;have hmn:=elL O;revert al;refine Wo<|Ws<|Rw z ?_
  obtain rfl:=som hmn;exact Wr<|i_ hr z ⟨sm,z⟩
 rintro _ _ _ _ rfl ⟨rfl,hqo⟩;have hmp:=elR O;obtain rfl:=som hmp;exact ⟨hqo,z⟩
theorem W_w3d {x1:u_}{g1:Nat}{x2:Bt}{res:Bt×Int×Int}(hm:f_U x1 x2=some res)(hB1:Blk w0 g1 [sl A0 N0 C0,vI x1.i,vI x1.h])(I:B<=w0.z)(hBg:¬B g1)(W:repS w0 B (sl A0 N0 C0) x1.b)(aO:inI x1.i)(aP:inI x1.h)(aQ:repS w0 B (sl A6 N6 C6) x2):q_ prog 69 [pt g1,sl A6 N6 C6] w0 (Q6 w0 g1 B A0 N0 C0 x1 res):=by
 unfold f_U at hm
 refine goG func69 z z z λfn hr=>Ws<|Rw z<|Ws<|E z (f0 (α:=UInt8) H_) ?_
 rintro _ b4 ⟨_,_,_,rfl,s2,b5⟩;refine Rm z ?_;obtain ⟨ar,b6,aR⟩:=bdS hm;refine E z (fN (α:=UInt8) H_ b6 z z b5 a_p<|aQ.e s2) ?_;rintro _ b7 ⟨G,aa,ns,cb,rfl,st,h4,hc,h5⟩;refine Rw z<|Wq<|Wm z ?_
 have hu:=(s2.ag B).c st<|c_ (or0 (a_ lr) (m_ I):∀k∈[w0.z],¬B k)
 have hd:=mmr<|Blk.lt hB1
 have he:=lt_ s2.s st.s;obtain ⟨_,au,av,b8,aS⟩:=r_ aR;refine E z (fc call14 z<|a_B (B:=B) b8 ((hB1.e s2).c st<|djs hd) (zt' I he) hBg (W.g hu) aO aP<|ii z) ?_;rintro _ H ⟨s3,rfl,_,hf,hg,hh⟩;refine Wn<|Wb<|Ws<|Rq z z z<|Rw z ?_
 obtain ⟨b9,an,aT⟩:=bdS aS;refine Wt (λa w=>∃(ah:Bt)(xv:Int)(xw:Int),(ah,xv,xw)=b9/\∃ax ny cz Si,Sat 44 [(5,sl ax ny cz)] a/\Chg (· ∈ ([g1]++G)) H w/\b_ w Si (sl ax ny cz) ah/\Si.Nodup/\(∀k∈Si,k∈G∨H.z<=k)/\inI xv/\inI xw/\Blk w g1 [sl A0 N0 C0,vI xv,vI xw]) ?_ ?_
 .refine Wc z (λab=>?_)<|λab=>?_
  .refine Wm z ?_
   have ai:∀k∈G,w0.z<=k:=or1 h5 (a_ lr)<|b_6 s2.s;have Y:∀k∈G,k∉[g1]:=or1 h5 hd<|k_ (a_<|Blk.lt hB1) s2.s;have hj:=h4.c s3 Y;refine R z (lnR s_ z<|or_ hj<|zin (B:=B) ai<|b_.lt h4)<|R z (a_b z z)<|Wn ?_
   obtain ⟨ba,ao,aU⟩:=bdS<|ifT an ab;refine Wt (λa w=>∃(a0:Bt)(xk:Int)(xl:Int),(a0,xk,xl)=ba/\∃(J:List Nat),Sat 44 [(5,sl aa ns cb)] a/\Chg (· ∈ ([g1]++G)) H w/\b_ w J (sl aa ns cb) a0/\J.Nodup/\(∀k∈J,k∈G∨H.z<=k)/\inI xk/\inI xl/\Blk w g1 [sl A0 N0 C0,vI xk,vI xl]) ?_ ?_
   .refine Wc z (λad=>?_)<|λad=>?_
    .refine Wg<|RM z z<|Rm z<|R z (lnR s_ z<|or_ hj<|zin (B:=B) ai<|b_.lt h4) ?_
     have aw:=hu.c s3<|c_<|a_ hBg
     have ay:=lt_ he s3.s;obtain ⟨_,_,_,bb,aV⟩:=r_<|ifT ao ad;refine E z (fc call14 z<|a_B (B:=B) bb hh (zt' I ay) hBg (W.g aw) hf hg<|b_2<|repS.len<|or_ hj<|zin (B:=B) ai<|b_.lt h4) ?_;rintro _ bc ⟨sm,rfl,_,be,bf,bg⟩;refine Rm z ?_;obtain ⟨_,bh,bi,bj,aW⟩:=r_ aV;refine E z (fc call14 z<|a_B (B:=B) bj bg (zt' I<|lt_ ay sm.s) hBg (W.g<|aw.c sm<|c_<|a_ hBg) be bf<|ii z) ?_;rintro _ bk ⟨aj,rfl,_,bm,bn,bo⟩;refine R z (b_G d_3 d_5 z) ?_;obtain ⟨bp,az,aX⟩:=bdS aW;have aA:=(hj.c sm Y).c aj Y;refine RX z (e_o (α:=UInt8) s_ z_5 z z aA az) ?_;rintro _ ⟨_,bq,rfl⟩;refine E0 (e_p (α:=UInt8) z_5 z bq z z z az aA hc a_t an_ z_) ?_;rintro _ br ⟨aB,aC,bs,bt,bu⟩;refine Wl ?_;exact λ_ q=>⟨bp,bh,bi,som aX,aB,q.k<|s1 z,(cM (cM (cM (cr ([g1]++G) H) sm (io<|h_ sr):Chg (· ∈ ([g1]++G)) H bc) aj (io<|h_ sr):Chg (· ∈ ([g1]++G)) H bk) aC (io<|f_ sr):Chg (· ∈ ([g1]++G)) H br),bs,bt,(or2 bu (io sr) an_ (o_<|lt_ sm.s aj.s):∀k∈aB,k∈G∨H.z<=k),bm,bn,bo.c aC<|djs Y⟩
    exact a_c<|λ_ q=>⟨ar,au,av,som<|ifF ao ad,G,q.k<|s1 z,cr ([g1]++G) H,hj,hc,io sr,hf,hg,hh⟩
   rintro bv bw ⟨a0,xk,xl,rfl,J,_,bx,bz,bA,bB,bC,bD,bE⟩;revert bv;exact λ_ q=>⟨a0,xk,xl,som<|a_u aU,aa,ns,cb,J,q.k<|s1 z,(cM (cr ([g1]++G) H) bx (aa_ (io<|h_ sr)<|io<|f_ sr):Chg (· ∈ ([g1]++G)) H bw),bz,bA,(or1 bB (io sr) (o_ lr):∀k∈J,k∈G∨H.z<=k),bC,bD,bE⟩
  refine Ws<|Rq z z z<|Rw z ?_
  obtain ⟨bF,ap,aY⟩:=bdS<|ifF an ab;refine Wt (λa w=>∃(a1:Bt)(xn:Int)(xo:Int),(a1,xn,xo)=bF/\∃a2 a3 a4 L,Sat 44 [(5,sl a2 a3 a4)] a/\Chg (· ∈ ([g1]++G)) H w/\b_ w L (sl a2 a3 a4) a1/\L.Nodup/\(∀k∈L,k∈G∨H.z<=k)/\inI xn/\inI xo/\Blk w g1 [sl A0 N0 C0,vI xn,vI xo]) ?_ ?_
  .refine Wc z (λae=>?_)<|λae=>?_
   .refine Wg<|RM z z<|Rm z ?_
    have aD:∀k∈G,k∉[g1]:=or1 h5 hd<|k_ (a_<|Blk.lt hB1) s2.s;have aE:=h4.c s3 aD;refine R z (lnR s_ z<|or_ aE<|zin (B:=B) (or1 h5 (a_ lr) (b_6 s2.s):∀k∈G,w0.z<=k)<|b_.lt h4)<|R z (add_ z z) ?_
    obtain ⟨_,bG,bH,bI,aZ⟩:=r_<|ifT ap ae;refine E z (fc call14 z<|a_B (B:=B) bI hh (zt' I<|lt_ he s3.s) hBg (W.g<|hu.c s3<|c_<|a_ hBg) hf hg<|iA _ _) ?_;rintro _ bJ ⟨aF,rfl,_,bK,bL,bM⟩;obtain ⟨bN,bO,b0⟩:=bdS aZ;refine RX z (r_g s_ z_5 z (aE.c aF aD) z bO) ?_;rintro _ ⟨bP,rfl,bQ⟩;refine Ra z<|Wl ?_
    exact λ_ q=>⟨bN,bG,bH,som b0,aa,bP,cb,G,q.k<|s1 z,(cM (cr ([g1]++G) H) aF (io<|h_ sr):Chg (· ∈ ([g1]++G)) H bJ),bQ,hc,io sr,bK,bL,bM⟩
   refine Ws<|Rq z z z<|Rw z ?_
   obtain ⟨bR,aq,b1⟩:=bdS<|ifF ap ae;refine Wt (λa w=>∃(a5:Bt)(xp:Int)(xq:Int),(a5,xp,xq)=bR/\∃a6 a7 a8 O,Sat 44 [(5,sl a6 a7 a8)] a/\Chg (· ∈ ([g1]++G)) H w/\b_ w O (sl a6 a7 a8) a5/\O.Nodup/\(∀k∈O,k∈G∨H.z<=k)/\inI xp/\inI xq/\Blk w g1 [sl A0 N0 C0,vI xp,vI xq]) ?_ ?_
   .refine Wc z (λaf=>?_)<|λaf=>?_
    .refine Wg<|RM z z<|E z (fS [(.const<|.int .i64 0),.const<|.int .i64 1,.const<|.int .i64 128,(.const<|.int .i64 255)] a_v z z z (S_ z) (lb z)<|lb z) ?_
     rintro _ wr ⟨rfl,aG⟩;have V:=aG.below;have aH:b_ wr [H.z] (sl (some ⟨H.z,0,none⟩) 4 4) ([0,1,128,255]:List Int):=d_h (l:=[0,1,128,255]) (aG.blk:Blk wr H.z [vI 0,vI 1,vI 128,vI 255]) (ac0 (ii z)<|ac0 (ii z)<|ac0 (ii z)<|ac0 (ii z) an0) z;have aI:=lt_ he s3.s;obtain ⟨bS,bT,bU,bV,b2⟩:=r_<|ifT aq af;refine E z (fc call34 z<|c_D (B:=zn B H.z wr.z) bV (hh.e V) (a_P (zt' I<|lt_ aI V.s) lr) (atp ((b_7 (a_ hBg) (a_<|Blk.lt hB1) aI):∀k∈[g1],¬(zn B H.z wr.z) k)) (repS.mono (W.g<|(hu.c s3<|c_<|a_ hBg).e V) a_r) hf hg<|or_ aH<|zin (B:=B) (a_ lr)<|b_.lt aH) ?_;rintro _ aJ ⟨ak,rfl,_,bW,bX,bY⟩;refine R z (b_G d_3 d_5 z)<|E z (fS [(.tmp 40)] H_ z z z (S_ z) (lb z)<|lb z) ?_
     rintro _ aK ⟨rfl,al⟩;have a9:=al.below;have cD:=a_d al a_t;have am:∀k∈G,k∉[g1]:=or1 h5 hd<|k_ (a_<|Blk.lt hB1) s2.s;obtain ⟨bZ,c0,b3⟩:=bdS b2;refine E z (a_i (α:=UInt8) H_ c0 z z ((((h4.c s3 am).e V).c ak am).e a9) hc (al.blk:Blk aK aJ.z [(vU<|byteI<|mkB bS)]) a_t an_ z_) ?_;rintro _ c1 ⟨aL,c2,c3,c4,rfl,aM,c5,c6,c7⟩;refine Ra z<|Wl ?_
     exact λ_ q=>⟨bZ,bT,bU,som b3,c2,c3,c4,aL,q.k<|s1 z,(cM (e_ (cM (e_ (cr ([g1]++G) H) V:Chg (· ∈ ([g1]++G)) H wr) ak (io<|h_ sr):Chg (· ∈ ([g1]++G)) H aJ) a9:Chg (· ∈ ([g1]++G)) H aK) aM (io<|f_ sr):Chg (· ∈ ([g1]++G)) H c1),c5,c6,(or2 c7 (io sr) an_ (o_<|lt_ (lt_ V.s ak.s) a9.s):∀k∈aL,k∈G∨H.z<=k),bW,bX,(bY.e a9).c aM<|djs am⟩
    refine a_c ?_;exact λ_ q=>⟨ar,au,av,som<|ifF aq af,aa,ns,cb,G,q.k<|s1 z,cr ([g1]++G) H,h4.c s3 (or1 h5 hd (k_ (a_<|Blk.lt hB1) s2.s):∀k∈G,k∉[g1]),hc,io sr,hf,hg,hh⟩
   rintro c8 c9 ⟨a5,xp,xq,rfl,a6,a7,a8,O,_,ca,cc,cd,ce,cf,cg,ch⟩;revert c8;exact λ_ q=>⟨a5,xp,xq,som<|a_u b1,a6,a7,a8,O,q.k<|s1 z,(cM (cr ([g1]++G) H) ca (aa_ (io<|h_ sr)<|io<|f_ sr):Chg (· ∈ ([g1]++G)) H c9),cc,cd,(or1 ce (io sr) (o_ lr):∀k∈O,k∈G∨H.z<=k),cf,cg,ch⟩
  rintro ci cj ⟨a1,xn,xo,rfl,a2,a3,a4,L,_,ck,cl,cm,cn,co,cp,cq⟩;revert ci;exact λ_ q=>⟨a1,xn,xo,som<|a_u aY,a2,a3,a4,L,q.k<|s1 z,(cM (cr ([g1]++G) H) ck (aa_ (io<|h_ sr)<|io<|f_ sr):Chg (· ∈ ([g1]++G)) H cj),cl,cm,(or1 cn (io sr) (o_ lr):∀k∈L,k∈G∨H.z<=k),co,cp,cq⟩
 rintro ct cu ⟨ah,xv,xw,rfl,ax,ny,cz,Si,_,cv,cw,cx,cy,cA,cB,cC⟩;revert ct;refine Wo<|Wm z<|Rw z ?_
 obtain rfl:=som<|a_u aT;have aN:∀k∈[w0.z],k∈[g1]∨w0.z<=k:=mor lr;exact Wr<|i_ hr z ⟨(cM (cM (cM (e_ (cr [g1] w0) s2:Cg [g1] w0 b4) st aN:Cg [g1] w0 b7) s3 (io sr):Cg [g1] w0 H) cv (aa_ (io sr) (or1 h5 aN (o_ s2.s):∀k∈G,k∈[g1]∨w0.z<=k)):Cg [g1] w0 cu),ax,ny,cz,Si,z,cw,cA,cB,cC,cx,a_0 cy (or1 h5 (a_ lr) (b_6 s2.s):∀k∈G,w0.z<=k)<|lt_ he s3.s⟩
def Q40 (w0:World)(g1:Nat)(B:Zone)(A0:Option Addr)(N0 C0:Nat)(x1:u_)(r:g_×Bt×Int×Int)(v:Value)(w':World):Prop:=Cg [g1] w0 w'/\un4 (λV W G H=>∃a1 I J S1 a2 L O S2,v = .tuple #[(.agg #[.slice a1 I J]),sl a2 L O]/\b_ w' S1 (sl a1 I J) V.rules/\b_ w' S2 (sl a2 L O) W/\inI G/\inI H/\Blk w' g1 [sl A0 N0 C0,vI G,vI H]/\(S1++S2).Nodup/\(∀k∈(S1++S2),w0.z<=k)) r
theorem W_w3e {x1:u_}{g1:Nat}{res:g_×Bt×Int×Int}(hm:g_e n x1=some res)(hB1:Blk w0 g1 [sl A0 N0 C0,vI x1.i,vI x1.h])(L:B<=w0.z)(hBg:¬B g1)(O:repS w0 B (sl A0 N0 C0) x1.b)(bx:inI x1.i)(bz:inI x1.h):q_ prog 49 [pt g1] w0 (Q40 w0 g1 B A0 N0 C0 x1 res):=by
 unfold g_e at hm
 refine goG func49 z z z λfn hr=>Ws<|E z (fa c_8) ?_
 rintro _ ww ⟨rfl,aS⟩;have hc:=aS.below;have ho:Blk ww w0.z [sN]:=aS.blk;refine Rw z<|Wm z ?_
 obtain ⟨_,_,_,bQ,bA⟩:=r_ hm;refine E z (fc call13 z<|j_u (B:=B) bQ (hB1.e hc) (zt' L hc.s) hBg (O.e hc) bx bz) ?_;rintro _ I ⟨sm,ap,nq,cs,bR,rfl,hd,bS,bT,bU,bV,hi⟩;refine E z (fa c_8) ?_;rintro _ aT ⟨rfl,aU⟩;have hf:=aU.below;have hj:Blk aT I.z [sN]:=aU.blk;refine E0 (fs0 (cur':=[sl ap nq cs]) w_ z z hj z z z z) ?_;rintro _ aV ⟨bW,bX⟩;have h4:=bX.one;refine Wn<|Wq (Wd (X:=λk=>k∈[g1]∨aV.z<=k) 0 (pl_ 14 [11,12]) mo (by kernel_rfl) λaW sa _=>?_)
 have hx:=bW.e sa;have a1:=lt_ hc.s sm.s;have hb:=mm1 (Blk.lt hB1) a1;refine dR z z (lN (vs:=[sl ap nq cs]) B_ w_ z z (a_3 (atp hb)<|Nat.lt_of_lt_of_le hj.lt h4.s)<|hx.row 0 1 z)<|dR z z (fd T_ z)<|dR z z (l1 V_ z (a_3 (atp hb)<|Nat.lt_of_lt_of_le hj.lt h4.s)<|hx.at z) ?_
 have a2:=((hd.e hf).c h4<|ds<|mnr<|b_.lt hd).e sa;refine dR z z (lnR N_ z<|or_ a2<|zin (B:=B) hi<|b_.lt hd)<|dR z z (sb_ z z)<|dM z z z<|dR z z (lN (vs:=[sl ap nq cs]) B_ w_ z z (a_3 (atp hb)<|Nat.lt_of_lt_of_le hj.lt h4.s)<|hx.row 0 1 z)<|dR z z (fd T_ z)<|dR z z (l1 V_ z (a_3 (atp hb)<|Nat.lt_of_lt_of_le hj.lt h4.s)<|hx.at z)<|dR z z (lnR N_ z<|or_ a2<|zin (B:=B) hi<|b_.lt hd)<|dR z z (sb_ z z) ?_
 have a3:=((((hc.ag B).c sm<|c_<|a_ hBg).e hf).c h4<|c_ (or0 (a_ lr) (m_<|zt' L a1):∀k∈[I.z],¬B k)).e sa;have aX:=lt_ (lt_ (lt_ a1 hf.s) h4.s) sa.s;have aY:=lt_ (lt_ hf.s h4.s) sa.s;obtain ⟨_,bY,bZ,c0,bB⟩:=r_ bA;refine dE z z (fc call17 z<|W_w0b.run (B:=zn B ww.z I.z) c0 (((bU.e hf).c h4<|djs hb).e sa) (a_P (zt' L aX) aY) (atp ((b_7 (a_ hBg) (a_<|Blk.lt hB1) hc.s):∀k∈[g1],¬(zn B ww.z I.z) k)) (repS.mono (O.g a3) a_r) bS bT (or_ a2<|zin (B:=B) hi<|b_.lt hd) (iS _ _)<|ii z) (.inr λ_ _ h=>h.1.mono λk _ hk=>(io sr) k hk) ?_;rintro _ a4 ⟨s9,_,_,_,_,_,_,_,_,rfl,c1,aZ,b0,b1,b2,b3,_,b4⟩;have hy:=l_ hi (Blk.lt hB1) hc.s;have b5:=a2.c s9 hy;have h5:=lt_ aX s9.s;have aC:=lt_ aY s9.s;obtain ⟨b6,c2,bC⟩:=bdS bB;refine dE z z (fc call16 z<|W_w0c.run (B:=zn (zn B ww.z I.z) aW.z a4.z) c2 (a_P (a_P (zt' L h5) aC) lr) (repS.mono (or_ b5<|zin (B:=B) hi<|b_.lt hd)<|zns (zt a_r<|a_r)<|znD<|znI lr lr) (iS _ _) c1 (repS.mono (or_ aZ<|zin (B:=B) (al_ b4)<|b_.lt aZ)<|zns (zt a_r<|a_r)<|znI lr lr)<|repS.mono (or_ b0<|zin (B:=B) (ar_ b4)<|b_.lt b0)<|zns (zt a_r<|a_r)<|znI lr lr) (.inr λ_ _ h=>x_<|h.1) ?_;rintro _ wk ⟨s2,b7,b8,b9,a5,rfl,hz,c3,J⟩;refine dQ z z z<|pD<|Wo<|Wq<|Wq ?_
 obtain ⟨c4,aN,bD⟩:=bdS bC;refine Wt (λa w=>∃(aD:Bool)(V:Int)(W:Int),(aD,V,W)=c4/\Sat 52 [(0,pt g1),(2,pt w0.z),(4,pt I.z),(5,sl b7 b8 b9),(27,vB aD)] a/\Cg [g1] wk w/\inI V/\inI W/\Blk w g1 [sl A0 N0 C0,vI V,vI W]) ?_ ?_
 .refine Wg<|Rm z<|R z (lnR s_ z<|or_ hz<|zin (B:=B) J<|b_.lt hz)<|R z (a_b z z)<|Rm z ?_
  rcases bs (decide<|0<(b6.length:Int)) with hce | hce
  .refine Rh z hce (mv z) ?_;obtain ⟨c5,c6,c7,c8,bE⟩:=r_<|ifT aN hce;refine Eg z z hce z (fc call31 z<|g_n (B:=B) c8 (b3.e s2) (zt' L<|lt_ h5 s2.s) hBg (O.g<|(a3.c s9<|c_<|a_ hBg).e s2) b1 b2<|ii z) ?_;rintro _ c9 ⟨ca,rfl,cb,cc,cd⟩;refine R z (pT z hce z)<|Wl ?_
   exact λ_ q=>⟨c5,c6,c7,som bE,q.k<|s5 z z z z z,(cM (cr [g1] wk) ca (io sr):Cg [g1] wk c9),cb,cc,cd⟩
  exact Nh z hce<|Nh z hce<|R z (pF z hce z)<|Wl (λ_ q=>⟨false,bY,bZ,som<|ifF aN hce,q.k<|s5 z z z z z,cr [g1] wk,b1,b2,b3.e s2⟩)
 rintro ce wl ⟨aD,V,W,rfl,_,s6,ba,bb,bc⟩;revert ce;refine Wo ?_;obtain ⟨cf,aO,bF⟩:=bdS<|a_u bD;refine Wt (λa w=>∃(a6:Bt)(a7:Int)(a8:Int),(a6,a7,a8)=cf/\∃a9 aa ab G,Sat 52 [(0,pt g1),(2,pt w0.z),(4,pt I.z),(5,sl a9 aa ab)] a/\Cg [g1] wl w/\b_ w G (sl a9 aa ab) a6/\G.Nodup/\(∀k∈G,k∈a5∨wl.z<=k)/\inI a7/\inI a8/\Blk w g1 [sl A0 N0 C0,vI a7,vI a8]) ?_ ?_
 .refine Wc z (λay=>?_)<|λay=>?_
  .refine Wg<|RM z z ?_
   obtain ⟨cg,ch,ci,cj,bG⟩:=r_<|ifT aO ay;refine E z (fc call69 z<|W_w3d (B:=zn B a4.z wk.z) cj bc (a_P (zt' L<|lt_ (lt_ h5 s2.s) s6.s) s6.s) (atp ((b_7 (a_ hBg) (a_<|Blk.lt hB1) h5):∀k∈[g1],¬(zn B a4.z wk.z) k)) (repS.mono (O.g<|((a3.c s9<|c_<|a_ hBg).e s2).c s6<|c_<|a_ hBg) a_r) ba bb<|or_ (hz.c s6<|l_ J (Blk.lt hB1) h5)<|zin (B:=B) J<|b_.lt hz) ?_;rintro _ ck ⟨cl,cm,cn,co,be,rfl,cp,cq,ct,cu,cv,cw⟩;refine Ra z<|Wl ?_
   exact λ_ q=>⟨cg,ch,ci,som bG,cm,cn,co,be,q.k<|s4 z z z z,(cM (cr [g1] wl) cl (io sr):Cg [g1] wl ck),cp,cv,(or0 cw (o_ lr):∀k∈be,k∈a5∨wl.z<=k),cq,ct,cu⟩
  exact a_c<|λ_ q=>⟨b6,V,W,som<|ifF aO ay,b7,b8,b9,a5,q.k<|s4 z z z z,cr [g1] wl,hz.c s6<|l_ J (Blk.lt hB1) h5,c3,io sr,ba,bb,bc⟩
 rintro cx cy ⟨a6,a7,a8,rfl,a9,aa,ab,G,_,sg,bf,bg,hh,cz,cA,cB⟩;revert cx;refine Wo<|Wq<|Wm z ?_
 have aE:=(((a3.c s9<|c_<|a_ hBg).e s2).c s6<|c_<|a_ hBg).c sg<|c_<|a_ hBg
 have ht:=lt_ (lt_ h5 s2.s) s6.s;have ad:=lt_ ht sg.s;obtain ⟨_,cC,cD,cE,bH⟩:=r_<|a_u bF;refine E z (fc call14 z<|a_B (B:=B) cE cB (zt' L ad) hBg (O.g aE) cz cA<|ii z) ?_;rintro _ H ⟨s7,rfl,_,aF,aG,aH⟩;refine Wn<|Wb<|Ws<|Rq z z z<|Rw z ?_
 obtain ⟨cF,aP,bI⟩:=bdS bH;refine Wt (λa w=>∃(aI:Bt)(ae:Int)(af:Int),(aI,ae,af)=cF/\∃ah ai aj Sr,Sat 52 [(2,pt w0.z),(4,pt I.z),(5,sl ah ai aj)] a/\Chg (· ∈ ([g1]++G)) H w/\b_ w Sr (sl ah ai aj) aI/\Sr.Nodup/\(∀k∈Sr,k∈G∨H.z<=k)/\inI ae/\inI af/\Blk w g1 [sl A0 N0 C0,vI ae,vI af]) ?_ ?_
 .refine Wc z (λaz=>?_)<|λaz=>?_
  .refine Wg<|Rm z ?_
   obtain ⟨_,cG,cH,cI,bJ⟩:=r_<|ifT aP az;refine E z (fc call14 z<|a_B (B:=B) cI aH (zt' L<|lt_ ad s7.s) hBg (O.g<|aE.c s7<|c_<|a_ hBg) aF aG<|ii z) ?_;rintro _ aJ ⟨bh,rfl,_,cJ,cK,cL⟩;refine R z (add_ z z) ?_;obtain ⟨cN,cO,bK⟩:=bdS bJ;refine E z (j_h (α:=UInt8) H_ (λ_=>n_O) cO z z) ?_;rintro _ cP ⟨cQ,cR,cS,rfl,bi,cT⟩;refine Ra z<|Wl ?_
   exact λ_ q=>⟨cN,cG,cH,som bK,cQ,cR,cS,[aJ.z],q.k<|s3 z z z,(e_ (cM (cr ([g1]++G) H) bh (io<|h_ sr):Chg (· ∈ ([g1]++G)) H aJ) bi:Chg (· ∈ ([g1]++G)) H cP),cT,a_p,(mor bh.s:∀k∈[aJ.z],k∈G∨H.z<=k),cJ,cK,cL.e bi⟩
  refine Ws<|Rq z z z<|Rw z ?_
  obtain ⟨cU,aQ,bL⟩:=bdS<|ifF aP az;refine Wt (λa w=>∃(ak:Bt)(Y:Int)(a0:Int),(ak,Y,a0)=cU/\∃al am an Su,Sat 52 [(2,pt w0.z),(4,pt I.z),(5,sl al am an)] a/\Chg (· ∈ ([g1]++G)) H w/\b_ w Su (sl al am an) ak/\Su.Nodup/\(∀k∈Su,k∈G∨H.z<=k)/\inI Y/\inI a0/\Blk w g1 [sl A0 N0 C0,vI Y,vI a0]) ?_ ?_
  .refine Wc z (λaA=>?_)<|λaA=>?_
   .refine Wg<|RM z z ?_
    have bj:=aE.c s7<|c_<|a_ hBg
    have bk:=lt_ ad s7.s;obtain ⟨_,_,_,cV,bM⟩:=r_<|ifT aQ aA;refine E z (fc call14 z<|a_B (B:=B) cV aH (zt' L bk) hBg (O.g bj) aF aG<|ii z) ?_;rintro _ cW ⟨ao,rfl,cX,cY,cZ,d0⟩;obtain ⟨d1,d2,d3,d4,bN⟩:=r_ bM;refine E z (fc call32 z<|i_i (B:=B) d4 d0 (zt' L<|lt_ bk ao.s) hBg (O.g<|bj.c ao<|c_<|a_ hBg) cY cZ cX) ?_;rintro _ d5 ⟨d6,d7,d8,d9,bm,rfl,da,db,dc,dd,de,df⟩;refine Ra z<|Wl ?_
    exact λ_ q=>⟨d1,d2,d3,som bN,d7,d8,d9,bm,q.k<|s3 z z z,(cM (cM (cr ([g1]++G) H) ao (io<|h_ sr):Chg (· ∈ ([g1]++G)) H cW) d6 (io<|h_ sr):Chg (· ∈ ([g1]++G)) H d5),da,de,(or0 df (o_ ao.s):∀k∈bm,k∈G∨H.z<=k),db,dc,dd⟩
   refine Ws<|Rq z z z<|Rw z ?_
   obtain ⟨dg,aR,bO⟩:=bdS<|ifF aQ aA;refine Wt (λa w=>∃(aq:Bt),aq=dg/\∃ar au av Sv,Sat 52 [(2,pt w0.z),(4,pt I.z),(5,sl ar au av)] a/\Cg G H w/\b_ w Sv (sl ar au av) aq/\Sv.Nodup/\(∀k∈Sv,k∈G∨H.z<=k)) ?_ ?_
   .refine Wc z (λaB=>?_)<|λaB=>?_
    .refine Wg<|Rm z<|E z (fS [(.const<|.int .u8 92)] H_ z z z (S_ z) (lb z)<|lb z) ?_
     rintro _ bn ⟨rfl,aK⟩;have aL:=aK.below;have dV:=a_d aK<|h_F (x:=(92:UInt8)) z
     obtain ⟨dh,di,bP⟩:=bdS<|ifT aR aB;refine E z (a_i (α:=UInt8) H_ di z z ((bf.c s7 (or1 hh (l_ J (Blk.lt hB1) h5) (k_ (a_<|Blk.lt hB1) ht):∀k∈G,k∉[g1])).e aL) bg (aK.blk:Blk bn H.z [(vU<|byteI (92:UInt8))]) (h_F (x:=(92:UInt8)) z) an_ z_) ?_;rintro _ dj ⟨bo,dk,dl,dm,rfl,dn,dp,dq,dr⟩;refine Ra z<|Wl ?_
     exact λ_ q=>⟨dh,som bP,dk,dl,dm,bo,q.k<|s3 z z z,(cM (e_ (cr G H) aL:Cg G H bn) dn (io sr):Cg G H dj),dp,dq,(or2 dr (io sr) an_ (o_ aL.s):∀k∈bo,k∈G∨H.z<=k)⟩
    refine a_c ?_;exact λ_ q=>⟨a6,som<|ifF aR aB,a9,aa,ab,G,q.k<|s3 z z z,cr G H,bf.c s7 (or1 hh (l_ J (Blk.lt hB1) h5) (k_ (a_<|Blk.lt hB1) ht):∀k∈G,k∉[g1]),bg,io sr⟩
   rintro dt du ⟨aq,rfl,ar,au,av,Sv,_,bp,dv,dw,dx⟩;revert dt;exact λ_ q=>⟨aq,cC,cD,som bO,ar,au,av,Sv,q.k<|s3 z z z,(cM (cr ([g1]++G) H) bp (io<|f_ sr):Chg (· ∈ ([g1]++G)) H du),dv,dw,(or1 dx (io sr) (o_ lr):∀k∈Sv,k∈G∨H.z<=k),aF,aG,aH.c bp<|djs (or1 hh (l_ J (Blk.lt hB1) h5) (k_ (a_<|Blk.lt hB1) ht):∀k∈G,k∉[g1])⟩
  rintro dy dz ⟨ak,Y,a0,rfl,al,am,an,Su,_,dA,dB,dC,dD,dF,dG,dH⟩;revert dy;exact λ_ q=>⟨ak,Y,a0,som<|a_u bL,al,am,an,Su,q.k<|s3 z z z,(cM (cr ([g1]++G) H) dA (aa_ (io<|h_ sr)<|io<|f_ sr):Chg (· ∈ ([g1]++G)) H dz),dB,dC,(or1 dD (io sr) (o_ lr):∀k∈Su,k∈G∨H.z<=k),dF,dG,dH⟩
 rintro dI dJ ⟨aI,ae,af,rfl,ah,ai,aj,Sr,_,aw,dK,dL,aM,dN,dO,dP⟩;revert dI;refine Wo<|Ws ?_
 have bq:=lt_ (lt_ h4.s sa.s) s9.s;refine R z (lN (vs:=[sl ap nq cs]) B_ w_ z z fid<|((((((hx.c s9<|atp hb).e s2).c s6<|atp hb).c sg<|atp hb).c s7<|atp hb).c aw<|atp<|nmA hb<|ds (or1 hh (l_ J hj.lt bq) (k_ (a_ hj.lt)<|lt_ (lt_ bq s2.s) s6.s):∀k∈G,k∉[I.z])).row 0 1 z)<|Rm z ?_
 have hn:=mmr<|Blk.lt hB1
 have br:=lt_ (lt_ (lt_ (lt_ sm.s hf.s) h4.s) sa.s) s9.s;have bt:=lt_ (lt_ br s2.s) s6.s;have bu:∀k∈G,k∉[w0.z]:=or1 hh (l_ J ho.lt br)<|k_ (a_ ho.lt) bt;refine E0 (fs0 (cur':=[sl ap nq cs]) w_ z z ((((((((((ho.c sm<|atp hn).e hf).c h4<|djs<|mm1 ho.lt sm.s).e sa).c s9<|atp hn).e s2).c s6<|atp hn).c sg<|atp hn).c s7<|atp hn).c aw<|atp<|nmA hn<|ds bu) z z z z) ?_;rintro _ dS ⟨dT,dU⟩;have ax:=dU.one;refine Rw z ?_
 obtain rfl:=som<|a_u bI;have bv:=lt_ (lt_ aC s2.s) s6.s;have bw:=o1no hh (b_F J (b_.lt hd) aC) (b_.lt hd) bv;exact Wr<|a_e hr (v_ B_ w_ z dT z) z ⟨(cM (cM (cM (cM (cM (e_ (cM (e_ (cM (e_ (cM (e_ (cr [g1] w0) hc:Cg [g1] w0 ww) sm (io sr):Cg [g1] w0 I) hf:Cg [g1] w0 aT) h4 (mor a1:∀k∈[I.z],k∈[g1]∨w0.z<=k):Cg [g1] w0 aV) sa:Cg [g1] w0 aW) s9 (io sr):Cg [g1] w0 a4) s2:Cg [g1] w0 wk) s6 (io sr):Cg [g1] w0 wl) sg (io sr):Cg [g1] w0 cy) s7 (io sr):Cg [g1] w0 H) aw (aa_ (io sr) (or1 hh (or0 J (o_ h5):∀k∈a5,k∈[g1]∨w0.z<=k) (o_ ht):∀k∈G,k∈[g1]∨w0.z<=k)):Cg [g1] w0 dJ) ax (mor lr:∀k∈[w0.z],k∈[g1]∨w0.z<=k):Cg [g1] w0 dS),ap,nq,cs,bR,ah,ai,aj,Sr,z,(((((b5.e s2).c s6 hy).c sg hy).c s7 hy).c aw<|nmA hy<|ds bw).c ax<|l_ hi ho.lt lr,dK.c ax (or1 aM bu (k_ (a_ ho.lt)<|lt_ (lt_ bt sg.s) s7.s):∀k∈Sr,k∉[w0.z]),dN,dO,dP.c ax<|djs hn,na_ bV dL<|ds<|o1no aM bw (b_.lt hd)<|lt_ (lt_ bv sg.s) s7.s,aa_ (p_ hi hc.s)<|a_0 aM (a_0 hh (p_ J h5) ht)<|lt_ ad s7.s⟩
end Go.Vw
