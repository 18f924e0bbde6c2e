
import Derived.Test.YtbhbfaljeoeciaaGreatDoorVb3
namespace Go.Vw
open Go.RowKit Dat
section
variable {d:c_}{s:Str}
def i_F (d:c_)(s:Str)(n m:Nat):Prop:=∀(i:Nat)(v:Val)(t rest:List UInt8)(p:Nat),VP d.rules m i v->Txt d.rules m i v t->s.b.drop p=t++rest->c_g rest->(a_K n).impl_textReader_value ⟨⟨d.rules⟩,s,(p:Int)⟩ (i:Int)=some (v,true,((p+t.length:Nat):Int))
theorem j_Z {x:UInt8}{u:List UInt8}(hx:x=93∨x=125∨x=62∨x=41):c_g (x::u):=fun c w h=>by
 have:=(List.cons.inj h).1
 rw [← this]
 rcases hx with rfl | rfl | rfl | rfl <;> simp
theorem m_f (hs:s.b.length<=1000000000){n m:Nat}(hR:i_F d s n m){i:Nat}{r:g_}(hi:idx d.rules (i:Int)=some r)(h5:r.kind=5)(a5:r.kids.length=2){v:Val}{ts:List Str}(hT:g_y d m r v ts)(a6:v.items.length<=40){u:List UInt8}:∀(l:List Str)(j p f:Nat),(a_6 r ts).drop j=l->j<ts.length->s.b.drop p=a_q l++93::u->l.length<f ->
  U_ (σ:=Int×(List Val)) (ρ:=Val×Bool×Int) (un2 fun a4 H=>bd (idx d.rules (i:Int)) fun V=>bd (idx V.kids 1) fun W=>bd3 ((a_K n).impl_textReader_value (⟨(⟨d.rules⟩:c_),s,a4⟩:Z_) W) fun Y a0 J=>bd (α:=Bool) (if (!a0)=true then some true else some (decide<|40<=(H.length:Int))) (fun a1=>if a1=true then some (.ret ((⟨0,([]:List UInt8),H⟩:Val),false,J)) else bd (psh H Y) fun G=>bd2 (a_H (⟨(⟨d.rules⟩:c_),s,J⟩:Z_) (⟨[93]⟩:Str)) fun a2 L=>if a2=true then some (.ret ((⟨0,([]:List UInt8),G⟩:Val),true,L)) else bd2 (a_H (⟨(⟨d.rules⟩:c_),s,L⟩:Z_) (⟨[44]⟩:Str)) fun a3 O=>if (!a3)=true then some (.ret ((⟨0,([]:List UInt8),G⟩:Val),false,O)) else some (.next (O,G)))) f ((p:Int),v.items.take j)=some (.inr ((⟨0,([]:List UInt8),v.items⟩:Val),true,((p+(a_q l).length+1:Nat):Int)))
 | [],j,p,f,hl,hj,hd,hf=>by
  have:=congrArg List.length hl
  rw [List.length_drop,b_c,List.length_nil] at this
  omega
 | y::l,j,p,f,hl,hj,hd,hf=>by
  have hLIM:=a_p;obtain ⟨f,rfl⟩:∃g,f=g+1:=⟨f - 1,by rw [lC_] at hf;omega⟩;have hjv:j<v.items.length:=by have:=hT.len;omega
  have hy:y=ts[j]/\(a_6 r ts).drop (j+1)=l:=by
   rw [dC_ (by rw [b_c];exact hj),e_o] at hl
   have:=List.cons.inj hl;refine ⟨?_,this.2⟩
   rw [← this.1]
   unfold b_J
   rw [iN_ (by omega),W_ hj]
  obtain ⟨k,I,e2,e3⟩:=hT.it j hj hjv;have hlen:=i_D hd;have hjl:(v.items.take j).length=j:=by rw [List.length_take];omega
  have hkid:r.kids[1]=(k:Int):=by
   unfold N_ at I
   rw [h5] at I
   rw [← I]
   simp [gG_ (show 1<r.kids.length by omega)]
  rw [g_w,hy.1] at hd hlen ⊢
  rw [List.append_assoc] at hd
  have hst:c_g (d_L l++93::u):=by
   cases l with
   | nil=>exact j_Z<|.inl rfl
   | cons y' l' =>
    rw [j_V]
    intro c w h;exact .inl (List.cons.inj h).1.symm
  have hrd:=hR k v.items[j] ts[j].b _ p e2 e3 hd hst;have h1:=a_D hd
  rw [List.length_append] at hlen ⊢
  unfold U_
  simp only [un2]
  rw [hi,bd_some,k_j (show 1<r.kids.length by omega),bd_some,hkid,hrd,bd3_some]
  simp only [nT_,bF_,fF_,bd_some]
  rw [hjl,dF_ (show ¬(40:Int)<=(j:Int) by omega),iN_ (by simp),a_X (by omega),bd_some,← d_r hjv]
  cases l with
  | nil =>
   have hje:j+1=ts.length:=by
    have:=congrArg List.length hy.2
    rw [List.length_drop,b_c,List.length_nil] at this
    omega
   have hn:d_L []=[]:=rfl
   rw [hn] at h1 ⊢
   rw [b_U (t:=[93]) h1 (by omega) hs,bd2_some,iP_ rfl,List.take_of_length_le (by have:=hT.len;omega)]
   simp only [List.length_nil,lC_]
   rfl
  | cons y' l' =>
   rw [j_V] at h1 hlen ⊢
   have hj':j+1<ts.length:=by
    refine Nat.lt_of_not_le fun hc=>?_
    have:=hy.2
    rw [List.drop_of_length_le (by rw [b_c];exact hc)] at this;cases this
   have h1':s.b.drop (p+ts[j].b.length)=[44]++(a_q (y'::l')++93::u):=by rw [h1,g_w];rfl
   have h2:=a_D h1'
   simp only [lC_,List.length_nil] at h2 hf
   have:=m_f hs hR hi h5 a5 hT a6 (y'::l') (j+1) (p+ts[j].b.length+(0+1)) f hy.2 hj' h2 (by simp only [lC_];omega)
   rw [j_U (c:=44) (x:=93) h1 (by decide) hs,bd2_some,iN_ (by simp),b_U h1' (by simp only [lC_,List.length_append] at hlen;omega) hs,bd2_some]
   simp only [nT_,bF_,fF_,lC_,List.length_nil]
   simp only [hi,bd_some] at this
   rw [this,g_w]
   simp only [List.length_append]
   congr 5
   omega
theorem parts_impl' (hs:s.b.length<=1000000000){n m:Nat}(hR:i_F d s n m){r:g_}(h6:r.kind=6)(h8:r.kids.length=r.names.length)(hnm:∀x∈r.names,b_4 x=true){v:Val}{ts:List Str}(hT:g_y d m r v ts)(ad:v.items.length<=40)(hv:v.items.length=r.kids.length){u:List UInt8}:∀(l:List Str)(j p:Nat),(a_6 r ts).drop j=l->j<=ts.length->s.b.drop p=b_u j l++125::u ->
  z_ (σ:=Int×(List Val)) (ρ:=Val×Bool×Int) (fun a0=>un2 fun a4 a1=>bd (idx r.names ((a0:Nat):Int)) fun a5=>bd (α:=Bool×Int) (if (decide<|0<((a0:Nat):Int))=true then bd2 (a_H (⟨(⟨d.rules⟩:c_),s,a4⟩:Z_) (⟨[44]⟩:Str)) fun O G=>if (!O)=true then some (true,G) else bd (cat a5 (⟨[58]⟩:Str)) fun V=>bd2 (a_H (⟨(⟨d.rules⟩:c_),s,G⟩:Z_) V) fun W Y=>some (!W,Y) else bd (cat a5 (⟨[58]⟩:Str)) fun H=>bd2 (a_H (⟨(⟨d.rules⟩:c_),s,a4⟩:Z_) H) fun I J=>some (!I,J)) (un2 fun a7 a2=>if a7=true then some (.ret ((⟨0,([]:List UInt8),a1⟩:Val),false,a2)) else bd (idx r.kids ((a0:Nat):Int)) fun a8=>bd3 ((a_K n).impl_textReader_value (⟨(⟨d.rules⟩:c_),s,a2⟩:Z_) a8) fun a9 aa a3=>if (!aa)=true then some (.ret ((⟨0,([]:List UInt8),a1⟩:Val),false,a3)) else bd (psh a1 a9) fun ab=>some<|.next (a3,ab))) l.length j ((p:Int),v.items.take j)=some (.inl (((p+(b_u j l).length:Nat):Int),v.items))
 | [],j,p,hl,hj,hd=>by
  have:ts.length<=j:=by
   have:=congrArg List.length hl
   rw [List.length_drop,b_c,List.length_nil] at this
   omega
  rw [i_E,List.take_of_length_le (by have:=hT.len;omega)]
  rfl
 | y::l,j,p,hl,hj,hd=>by
  have hLIM:=a_p
  have hjt:j<ts.length:=by
   refine Nat.lt_of_not_le fun hc=>?_
   rw [List.drop_of_length_le (by rw [b_c];exact hc)] at hl;cases hl
  have hjv:j<v.items.length:=by have:=hT.len;omega
  have hjn:j<r.names.length:=by omega
  have hjk:j<r.kids.length:=by omega
  have hnl:=k_g<|hnm _<|gE_ hjn
  have hy:y=⟨r.names[j].b++[58]++ts[j].b⟩/\(a_6 r ts).drop (j+1)=l:=by
   rw [dC_ (by rw [b_c];exact hjt),e_o] at hl
   have:=List.cons.inj hl;refine ⟨?_,this.2⟩
   rw [← this.1]
   unfold b_J
   rw [iP_ h6,W_ hjt,W_ hjn]
  obtain ⟨k,L,e2,e3⟩:=hT.it j hjt hjv;have hlen:=i_D hd;have hjl:(v.items.take j).length=j:=by rw [List.length_take];omega
  have hkid:r.kids[j]=(k:Int):=by
   unfold N_ at L
   rw [h6] at L
   simp only [Int.reduceBEq,bF_,fF_,fT_] at L
   rw [iP_ hjk,W_ hjk] at L
   exact L
  obtain ⟨q,hq⟩:∃q,q=p+(if j=0 then ([]:List UInt8) else [44]).length:=⟨_,rfl⟩
  rw [f_9,hy.1] at hd hlen ⊢
  have hdq:s.b.drop q=(r.names[j].b++[58])++(ts[j].b++(b_u (j+1) l++125::u)):=by
   rw [List.append_assoc,List.append_assoc] at hd
   rw [hq,a_D hd]
   simp
  have hdr:=a_D hdq
  simp only [List.length_append,lC_,List.length_nil] at hlen hdr
  have hlq:q<=s.b.length:=by rw [hq];omega
  have hrd:=hR k v.items[j] ts[j].b _ _ e2 e3 hdr (m_b<|.inr<|.inl rfl);have hrest:=a_D hdr;have:=parts_impl' hs hR h6 h8 hnm hT ad hv l (j+1) _ hy.2 (by omega) hrest
  have hname:bd (cat r.names[j] (⟨[58]⟩:Str)) (fun H=>bd2 (a_H (⟨(⟨d.rules⟩:c_),s,(q:Int)⟩:Z_) H) fun I J=>some (!I,J))=some (false,((q+(r.names[j].b.length+(0+1)):Nat):Int)):=by
   rw [a_g (by simp only [lC_,List.length_nil];omega),bd_some,b_U hdq hlq hs,bd2_some]
   simp only [List.length_append,lC_,List.length_nil]
   rfl
  have hsep:(if (decide<|0<((j:Nat):Int))=true then bd2 (a_H (⟨(⟨d.rules⟩:c_),s,(p:Int)⟩:Z_) (⟨[44]⟩:Str)) fun O G=>if (!O)=true then some (true,G) else bd (cat r.names[j] (⟨[58]⟩:Str)) fun V=>bd2 (a_H (⟨(⟨d.rules⟩:c_),s,G⟩:Z_) V) fun W Y=>some (!W,Y) else bd (cat r.names[j] (⟨[58]⟩:Str)) fun H=>bd2 (a_H (⟨(⟨d.rules⟩:c_),s,(p:Int)⟩:Z_) H) fun I J=>some (!I,J))=(some (false,((q+(r.names[j].b.length+(0+1)):Nat):Int)):Option (Bool×Int)):=by
   by_cases a6:j=0
   ·subst a6
    rw [dF_ (by omega),iN_ (by simp),show p=q by rw [hq];rfl,hname]
   ·rw [iN_ a6] at hd hq
    rw [List.append_assoc,List.append_assoc] at hd
    rw [dT_ (by omega),iP_ rfl,b_U hd (by omega) hs,bd2_some]
    simp only [nT_,bF_,fF_]
    rw [← hq,hname]
  rw [lC_]
  unfold z_
  simp only [un2]
  rw [ix_ hjn,bd_some,hsep,bd_some]
  simp only [un2,bF_,fF_]
  rw [ix_ hjk,bd_some,hkid,hrd,bd3_some]
  simp only [nT_,bF_,fF_]
  rw [a_X (by omega),bd_some,← d_r hjv]
  simp only
  rw [this]
  simp only [List.length_append,lC_,List.length_nil]
  congr 4
  omega
theorem k_0 (hs:s.b.length<=1000000000){n m:Nat}(hR:i_F d s n m){k:Nat}{x v:Val}{t op cl rest:List UInt8}{p:Nat}(hV:VP d.rules m k x)(hT:Txt d.rules m k x t)(hd:s.b.drop p=op++(t++(cl++rest)))(hst:c_g (cl++rest))(hp:p<=s.b.length) :
  (a_K<|n+1).impl_textReader_inner ⟨⟨d.rules⟩,s,(p:Int)⟩ v ⟨op⟩ (k:Int) ⟨cl⟩=some (.mk v.number v.bytes [x],true,((p+op.length+t.length+cl.length:Nat):Int)):=by
 have h1:=a_D hd;have h2:=a_D h1;have hl:=g_v hd hp
 simp only [List.length_append] at hl
 show f_O n (a_K n) ⟨⟨d.rules⟩,s,(p:Int)⟩ v ⟨op⟩ (k:Int) ⟨cl⟩=_
 unfold f_O
 rw [dF_ (show ¬(k:Int)<0 by omega),iN_ (by simp),b_U hd hp hs,bd2_some,bd_some]
 simp only [un2,nT_,bF_,fF_]
 rw [hR k x t _ _ hV hT h1 hst,bd3_some,iP_ rfl,b_U h2 (by omega) hs,bd2_some,bd_some]
theorem m_g (hv:a_7 d=true)(hd:SmD d)(hs:s.b.length<=1000000000):∀m n,2 * m+1020<=n->i_F d s n m
 | 0,n,hn=>fun i v t rest p hV=>hV.elim
 | m+1,n,hn=>fun i v t rest p hV hT hdr hr=>by
  obtain ⟨n,rfl⟩:∃k,n=k+2:=⟨n - 2,by omega⟩;obtain ⟨c0,u0,a0,_⟩:=g_x hV hT;obtain ⟨hi,ts,hO,hP,ht⟩:=partT hV hT;have hlen:p+t.length+rest.length=s.b.length:=g_u hdr (by rw [a0];simp);have hrr:=b_w hv hi;have hkk:=c_i hrr.kind;have hkind:=hrr.kind;have a5:=m_4 hv hi hO;have hR:=m_g hv hd hs m n (by omega);have htl:0<t.length:=by rw [a0];simp
  obtain ⟨q1,q2,q5,q6,q7,q8,q9,qx⟩:=m_d (r:=d.rules[i]) (v:=v) (J:=a_q<|a_6 d.rules[i] ts);have hsz:=hO;have hidx:=ix_ hi;have hpl:p<=s.b.length:=by omega
  show f_L (n+1) (a_K<|n+1) ⟨⟨d.rules⟩,s,(p:Int)⟩ (i:Int)=_
  unfold f_L b_M
  simp only
  rw [hidx,bd_some]
  rw [ht] at hdr hlen ⊢
  generalize d.rules[i]=r at *
  have hone:∀k:Int,N_ r v.number 0=k->v.items.length=1->r.kind ≠ 6->∃(k':Nat)(y:Str)(x:Val),k=(k':Int)/\ts=[y]/\v.items=[x]/\a_q (a_6 r ts)=y.b/\VP d.rules m k' x/\Txt d.rules m k' x y.b:=by
   intro k a6 h1 h6;have hl:=hP.len;obtain ⟨k',I,L,e3⟩:=hP.it 0 (by omega) (by omega);have hj:=g_J h6 (show ts.length=1 by omega);obtain ⟨y,rfl⟩:=m_e (l:=ts) (by omega);obtain ⟨x,hx⟩:=List.length_eq_one_iff.1 h1;refine ⟨k',y,x,by omega,rfl,hx,hj,?_⟩
   simp only [hx,List.getElem_cons_zero] at L e3
   exact ⟨L,e3⟩
  rcases hsz with ⟨h,O,a2,I,L⟩ | ⟨h,H,I,L⟩ | ⟨h,H,O,L⟩ | ⟨h,H,O,a2,L⟩ | ⟨h,H,O,L⟩ | ⟨h,H,I,O,a2⟩ | ⟨h,H,I,O⟩ | ⟨h,O,a2,I,a3,a4⟩ | ⟨h,H,I,O⟩ | ⟨h,H,I,O⟩
  ·rw [q1 h] at hdr hlen ⊢
   obtain ⟨_,s1,s4⟩:=c_u hkind h;have hpow:=f_e s1 s4;obtain ⟨q,hq⟩:∃q:Nat,v.number=q:=⟨v.number.toNat,by omega⟩
   rw [hq] at hdr ⊢
   have hlq:=g_A 9 q (by omega)
   rw [← f_b] at hlq
   simp only [h,Int.reduceBEq,Nat.reduceBEq,fT_,bd_some]
   unfold e_P
   simp only
   rw [m_7 hdr (by omega) hr hs (by omega),bd2_some,bd3_some,← b_5 hq I L,dT_ (by omega)]
  ·rw [q2 h] at hdr hlen ⊢
   simp only [h,Int.reduceBEq,Nat.reduceBEq,bF_,fF_,fT_,bd_some]
   rw [b_U hdr hpl hs,bd2_some,← b_5 H I L]
  ·rw [qx (by omega)] at hdr hlen ⊢
   have hfx:=d_u hkind h;have G:=hdr
   rw [List.append_assoc] at G
   have h1:=a_D G
   rw [List.length_append,lC_,List.length_nil] at hlen
   rw [lC_,List.length_nil] at h1
   simp only [h,Int.reduceBEq,Nat.reduceBEq,bF_,fF_,bd_some]
   rw [b_U G hpl hs,bd2_some]
   simp only [nT_,bF_,fF_,lC_,List.length_nil]
   rw [j_S h1 (by omega) (by omega) hr hs (by omega),bd2_some,← b_5 H rfl L,List.length_append,lC_,List.length_nil]
   rw [Nat.add_assoc]
  ·rw [qx (by omega)] at hdr hlen ⊢
   have G:=hdr
   rw [List.append_assoc] at G
   have h1:=a_D G
   rw [List.length_append,lC_,List.length_nil] at hlen
   rw [lC_,List.length_nil] at h1
   simp only [h,Int.reduceBEq,Nat.reduceBEq,bF_,fF_,bd_some]
   rw [b_U G hpl hs,bd2_some]
   simp only [nT_,bF_,fF_,lC_,List.length_nil]
   rw [j_S h1 (by omega) (by omega) hr hs (by omega),bd2_some,← b_5 H rfl L,List.length_append,lC_,List.length_nil]
   rw [Nat.add_assoc]
  ·rw [qx (by omega)] at hdr hlen ⊢
   have G:=hdr
   rw [List.append_assoc] at G
   have h1:=a_D G
   rw [List.length_append,lC_,List.length_nil] at hlen
   rw [lC_,List.length_nil] at h1
   simp only [h,Int.reduceBEq,Nat.reduceBEq,bF_,fF_,bd_some]
   rw [b_U G hpl hs,bd2_some]
   simp only [nT_,bF_,fF_,lC_,List.length_nil]
   rw [j_S h1 (by omega) (by omega) hr hs (by omega),bd2_some,← b_5 H rfl L,List.length_append,lC_,List.length_nil]
   rw [Nat.add_assoc]
  ·rw [q5 h] at hdr hlen ⊢
   have G:=hdr
   rw [List.append_assoc,List.append_assoc] at G
   have h1:=a_D G
   simp only [List.length_append,lC_,List.length_nil] at hlen h1 ⊢
   have hlt:=hP.len;have hpx:=b_c r ts
   simp only [h,Int.reduceBEq,Nat.reduceBEq,bF_,fF_,fT_,bd_some]
   have key:(a_K<|n+1).impl_textReader_list ⟨⟨d.rules⟩,s,(p:Int)⟩ (i:Int)=some (v,true,((p+(0+1+((a_q<|a_6 r ts).length+(0+1))):Nat):Int)):=by
    show f_M n (a_K n) ⟨⟨d.rules⟩,s,(p:Int)⟩ (i:Int)=_
    unfold f_M
    rw [b_U G hpl hs,bd2_some]
    simp only [nT_,bF_,fF_,lC_,List.length_nil]
    by_cases he:ts.length=0
    ·have hnil:a_6 r ts=[]:=List.length_eq_zero_iff.1 (by omega)
     rw [hnil] at h1 hlen ⊢
     have hj:a_q []=[]:=rfl
     rw [hj] at h1 hlen ⊢
     rw [b_U (t:=[93]) (rest:=rest) h1 (by omega) hs,bd2_some,iP_ rfl,← b_5 H I (List.length_eq_zero_iff.1 (by omega))]
     rfl
    ·obtain ⟨y,l,hyl⟩:∃y l,a_6 r ts=y::l:=by
      cases hx:a_6 r ts with
      | nil=>rw [hx] at hpx;simp at hpx;omega
      | cons y l=>exact ⟨y,l,rfl⟩
     obtain ⟨k,b1,b2,b3⟩:=hP.it 0 (by omega) (by omega);obtain ⟨c,w,ec,hc⟩:=g_x b2 b3
     have hy:y.b=c::w:=by
      have G:=e_o r ts (j:=0) (by omega)
      simp only [hyl,List.getElem_cons_zero] at G
      rw [G]
      unfold b_J
      rw [iN_ (by omega),W_ (by omega),ec]
     have h1':=h1
     rw [hyl,g_w,hy] at h1'
     have hl:=m_f (u:=rest) hs hR hidx h (c_v hkind h).2 hP a5 (a_6 r ts) 0 (p+(0+1)) n rfl (by omega) h1 (by omega)
     rw [List.take_zero] at hl
     rw [j_U (c:=c) (x:=93) h1' hc.2.1 hs,bd2_some,iN_ (by simp),hl,bd_some,el_inr,← b_5 H I rfl]
     congr 4
     omega
   rw [key,bd3_some]
  ·rw [q6 h] at hdr hlen ⊢
   have G:=hdr
   rw [List.append_assoc,List.append_assoc] at G
   have h1:=a_D G
   simp only [List.length_append,lC_,List.length_nil] at hlen h1 ⊢
   have hlt:=hP.len;have hpx:=b_c r ts;obtain ⟨s1,_,_,s4⟩:=d_P hkind h
   simp only [h,Int.reduceBEq,Nat.reduceBEq,bF_,fF_,fT_,bd_some]
   have key:(a_K<|n+1).impl_textReader_parts ⟨⟨d.rules⟩,s,(p:Int)⟩ r=some (v,true,((p+(0+1+((a_q<|a_6 r ts).length+(0+1))):Nat):Int)):=by
    show f_N n (a_K n) ⟨⟨d.rules⟩,s,(p:Int)⟩ r=_
    unfold f_N
    rw [b_U G hpl hs,bd2_some]
    simp only [nT_,bF_,fF_,lC_,List.length_nil]
    have hl:=parts_impl' (u:=rest) hs hR h s1 s4 hP a5 O (a_6 r ts) 0 (p+(0+1)) rfl (by omega) h1
    rw [List.take_zero,show (a_6 r ts).length=r.names.length by omega] at hl
    rw [hl,bd_some,el_inl]
    simp only [un2]
    have h2:=a_D h1
    rw [show b_u 0 (a_6 r ts)=a_q (a_6 r ts) from rfl,b_U (t:=[125]) (rest:=rest) h2 (by omega) hs,bd2_some,← b_5 H I rfl]
    simp only [lC_,List.length_nil]
    congr 4
    omega
   rw [key,bd3_some]
  ·rw [q7 h] at hdr hlen ⊢
   have hl:=c_M hkind h;obtain ⟨hint,hlim⟩:=e_n hl.1;have hpow:=f_e hint.2.1 hint.2.2;obtain ⟨q,hq⟩:∃q:Nat,v.number=q:=⟨v.number.toNat,by omega⟩;have hlq:=g_A 9 q (by omega)
   rw [← f_b] at hlq
   obtain ⟨k',y,x,V,f2,f3,W,Y,f6⟩:=hone _ rfl a3 (by omega)
   rw [W] at hdr hlen ⊢
   have G:=hdr
   rw [List.append_assoc] at G
   have h1:=a_D G
   rw [List.append_assoc,List.append_assoc] at h1
   rw [hq] at G h1 hlen V ⊢
   simp only [List.length_append,lC_,List.length_nil] at hlen ⊢
   have hst:c_g ([60]++(y.b++[62])++rest):=fun c w hc=>by
    have:=(List.cons.inj hc).1
    simp [← this]
   simp only [h,Int.reduceBEq,Nat.reduceBEq,bF_,fF_,fT_,bd_some]
   unfold e_P
   simp only
   rw [m_7 G (by omega) hst hs (by omega),bd2_some,bd3_some,dT_ (by omega)]
   simp only [nT_,bF_,fF_]
   rw [show c_Q (⟨d.rules⟩:c_) (i:Int) (.mk (q:Int) [] []) 0=some (N_ r (q:Int) 0) from g_F (show idx (⟨d.rules⟩:c_).rules (i:Int)=some r from hidx) hkk _ 0,bd_some]
   rw [V,k_0 hs hR Y f6 h1 (j_Z<|.inr<|.inr<|.inl rfl) (by omega),bd3_some]
   simp only [Val.number,Val.bytes,lC_,List.length_nil]
   rw [← b_5 hq I f3]
   congr 4
   omega
  ·rw [q8 h] at hdr hlen ⊢
   simp only [h,Int.reduceBEq,Nat.reduceBEq,bF_,fF_,fT_,bd_some]
   by_cases G:v.items.length=0
   ·rw [iP_ G] at hdr hlen ⊢
    rw [b_U hdr hpl hs,bd2_some,iP_ rfl,← b_5 H I (List.length_eq_zero_iff.1 G)]
   ·rw [iN_ G] at hdr hlen ⊢
    have hkid:N_ r v.number 0=r.kids.getD 0 0:=by unfold N_;simp [h]
    have a6:=c_7 hkind<|.inl h;obtain ⟨k',y,x,V,f2,f3,W,Y,f6⟩:=hone _ hkid (by omega) (by omega)
    rw [W] at hdr hlen ⊢
    have hh:=hdr
    rw [List.append_assoc] at hh
    rw [gD_,gG_ (show 0<r.kids.length by omega),Option.getD_some] at V
    simp only [List.length_append,lC_,List.length_nil] at hlen ⊢
    rw [j_U (c:=63) (x:=45) hh (by decide) hs,bd2_some,iN_ (by simp),a_W (show 0<r.kids.length by omega),bd_some,V,k_0 (cl:=[]) hs hR Y f6 hh hr hpl,bd3_some]
    simp only [Val.number,Val.bytes,lC_,List.length_nil]
    rw [← b_5 H I f3]
    congr 4
    omega
  ·rw [q9 h] at hdr hlen ⊢
   simp only [h,Int.reduceBEq,Nat.reduceBEq,bF_,fF_,fT_,bd_some]
   have hkid:N_ r v.number 0=r.kids.getD 0 0:=by unfold N_;simp [h]
   have a6:=c_7 hkind<|.inr h;obtain ⟨k',y,x,V,f2,f3,W,Y,f6⟩:=hone _ hkid (by omega) (by omega)
   rw [W] at hdr hlen ⊢
   have hh:=hdr
   rw [List.append_assoc,List.append_assoc] at hh
   rw [gD_,gG_ (show 0<r.kids.length by omega),Option.getD_some] at V
   simp only [List.length_append,lC_,List.length_nil] at hlen ⊢
   rw [a_W (show 0<r.kids.length by omega),bd_some,V,k_0 hs hR Y f6 hh (j_Z<|.inr<|.inr<|.inr rfl) hpl,bd3_some]
   simp only [Val.number,Val.bytes,lC_,List.length_nil]
   rw [← b_5 H I f3]
   congr 4
   omega
end
end Go.Vw
