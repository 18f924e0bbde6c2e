
import Derived.Test.YthlifogbkgdggaaGreatDoorVwP6
namespace Go.Vw
open Go.RowKit Dat
theorem i_j (rd:Int->Nat->RR)(k:Int)(p:Nat):(X_ rd [k] p).2=((rd k p).2.1,(rd k p).2.2):=by
 unfold X_
 by_cases h:(rd k p).2.2=0
 ·rw [iP_ h];simp [X_,h]
 ·rw [iN_ h]
section
variable {d:d_}{b:List UInt8}
theorem k_f {rec_:T_->Int->Int->Option (D_×Int)}{ks:List Int}(rd:Int->Nat->RR)(L:Nat)
  (ih:∀k∈ks,∀(ap:Int)(p:Nat),p<=L->∃ap',rec_ ⟨⟨d.rules⟩,b,ap⟩ k p=some (⟨((rd k p).2.1:Int),(rd k p).2.2⟩,ap')) (hle:∀k∈ks,∀p,p<=L->(rd k p).2.1<=L) :
  ∀m k (ap:Int) (p:Nat),k+m=ks.length->p<=L->∃ap',y_ (σ:=Int×Int×Int) (ρ:=D_×Int) (fun O=>un3 fun V W a1=>bd (idx ks ((O:Nat):Int)) fun Y=>bd2 (rec_ (⟨(⟨d.rules⟩:d_),b,V⟩:T_) Y W) fun G I=>if (G.code != 0)=true then some (.brk (I,G.at_,G.code)) else some (.next (I,G.at_,G.code))) m k (ap,(p:Int),0)=some (.inl (ap',((X_ rd (ks.drop k) p).2.1:Int),(X_ rd (ks.drop k) p).2.2))
 | 0,k,ap,p,hk,_=>by
  rw [List.drop_of_length_le (by omega)]
  exact ⟨ap,rfl⟩
 | m+1,k,ap,p,hk,hp=>by
  have hlt:k<ks.length:=by omega
  have hmem:=gE_ hlt
  rw [dC_ hlt]
  unfold y_ X_;obtain ⟨J,h1⟩:=ih ks[k] hmem ap p hp
  simp only [un3]
  rw [ix_ hlt,bd_some,h1]
  simp only [bd2_some]
  by_cases H:(rd ks[k] p).2.2=0
  ·rw [show ((rd ks[k] p).2.2 != 0)=false by simpa using H,iP_ H]
   obtain ⟨a0,h2⟩:=k_f rd L ih hle m (k+1) J (rd ks[k] p).2.1 (by omega) (hle _ hmem p hp);refine ⟨a0,?_⟩
   simp only [bF_,fF_]
   rw [H,h2]
   by_cases h3:(X_ rd (ks.drop<|k+1) (rd ks[k] p).2.1).2.2=0
   ·rw [iP_ h3,h3]
   ·rw [iN_ h3]
  ·rw [show ((rd ks[k] p).2.2 != 0)=true by simpa using H,iN_ H]
   exact ⟨J,rfl⟩
theorem k_g {rec_:T_->Int->Int->Option (D_×Int)}{ks:List Int}{kid:Int}(hkid:idx ks 1=some kid)(rd:Int->Nat->RR)(L:Nat)
  (ih:∀(ap:Int)(p:Nat),p<=L->∃ap',rec_ ⟨⟨d.rules⟩,b,ap⟩ kid p=some (⟨((rd kid p).2.1:Int),(rd kid p).2.2⟩,ap')) (hle:∀p,p<=L->(rd kid p).2.1<=L) :
  ∀(c:Nat)(ap:Int)(p:Nat),p<=L->c<=40->∀n,c+2<=n->∃x ap',a_6 (σ:=Int×Int×Int×Int) (ρ:=D_×Int) (un4 fun H I J O=>bd (α:=Bool) (if (decide<|0<H)=true then some (O==0) else some false) (fun Y=>if Y=true then bd (idx ks 1) fun a0=>bd2 (rec_ (⟨(⟨d.rules⟩:d_),b,I⟩:T_) a0 J) fun V a1=>some (.next (G_ H 1,a1,V.at_,V.code)) else some (.brk (H,I,J,O)))) n ((c:Int),ap,(p:Int),0)=some (.inl (x,ap',((X_ rd (List.replicate c kid) p).2.1:Int),(X_ rd (List.replicate c kid) p).2.2))
 | 0,ap,p,hp,hc,n,hn=>by
  obtain ⟨m,rfl⟩:∃m,n=m+1:=⟨n - 1,by omega⟩;exact ⟨0,ap,rfl⟩
 | c+1,ap,p,hp,hc,n,hn=>by
  obtain ⟨m,rfl⟩:∃m,n=m+2:=⟨n - 2,by omega⟩;obtain ⟨W,h1⟩:=ih ap p hp
  rw [List.replicate_succ]
  unfold a_6 X_
  simp only [un4]
  rw [dT_ (show (0:Int)<((c+1:Nat):Int) by omega),hkid]
  simp only [fT_,bd_some,bQ_]
  rw [h1]
  simp only [bd2_some]
  rw [a_y (x:=((c+1:Nat):Int)) (by omega) (by omega),show ((c+1:Nat):Int) - 1=(c:Int) by omega]
  by_cases G:(rd kid p).2.2=0
  ·rw [iP_ G]
   obtain ⟨x,a2,h2⟩:=k_g hkid rd L ih hle c W (rd kid p).2.1 (hle p hp) (by omega) (m+1) (by omega);refine ⟨x,a2,?_⟩
   simp only [hkid,bd_some] at h2
   rw [G]
   rw [h2]
   by_cases h3:(X_ rd (List.replicate c kid) (rd kid p).2.1).2.2=0
   ·rw [iP_ h3,h3]
   ·rw [iN_ h3]
  ·rw [iN_ G]
   refine ⟨(c:Int),W,?_⟩;unfold a_6
   simp only [un4]
   rw [show ((rd kid p).2.2==0)=false by simpa using G]
   cases decide (0<(c:Int)) <;> rfl
theorem n_0 (hv:a_9 d=true)(hd:SmD d)(hb:b.length<=400):∀(i:Nat),i<d.rules.length->∀n,3 * i+410<=n->∀at_,at_<=b.length->∀ap,∃ap',k_G n ⟨d,b,ap⟩ i at_=some (⟨((rdW d.rules b i at_).2.1:Int),(rdW d.rules b i at_).2.2⟩,ap'):=by
 have hMX:=MXv;intro i
 induction i using Nat.strongRecOn with
 | _ i ih =>
  intro hi n hn at_ ha ap;have hlen:=(c_4 hv).2;obtain ⟨m,rfl⟩:∃m,n=m+3:=⟨n - 3,by omega⟩
  rw [g_U hv hi ha]
  have hr:=c_m hv hi;have hal:=d_1 hr.kind;have hsm:=hd.each d.rules[i] (gE_ hi);have hidx:idx d.rules (i:Int)=some d.rules[i]:=ix_ hi;generalize hrr:d.rules[i]=r at *
  have hkk:=d_C hr.kind
  show ∃ap',f_S (m+2) (a_h<|m+2) ⟨d,b,ap⟩ i at_=_
  unfold f_S rdB
  simp only
  rw [hidx,bd_some]
  have hle:∀k∈r.kids,∀p,p<=b.length->p<=(rdW d.rules b k.toNat p).2.1/\(rdW d.rules b k.toNat p).2.1<=b.length:=fun k hk p hp=>by
   have:=hr.kids k hk;exact d_2 hv k.toNat (by omega) p hp
  have hrec:∀q,m<=q->∀k∈r.kids,∀(ap:Int)(p:Nat),p<=b.length->∃ap',(a_h q).impl_checker_value ⟨⟨d.rules⟩,b,ap⟩ k p=some (⟨((rdW d.rules b k.toNat p).2.1:Int),(rdW d.rules b k.toNat p).2.2⟩,ap'):=fun q hq k hk ap p hp=>by
   have:=hr.kids k hk;have h:=ih k.toNat (by omega) (by omega) q (by omega) p hp ap
   rw [show ((k.toNat:Nat):Int)=k by omega] at h
   exact h
  by_cases h1:r.kind=1
  ·rw [h1];simp only [bQ_,fT_]
   rw [g_P hidx (i_d hr.kind h1) (by omega) ha]
   cases a_a b r at_ <;> exact ⟨_,rfl⟩
  rw [show (r.kind==1)=false by simpa using h1]
  by_cases h2:r.kind=2
  ·rw [h2];simp only [bQ_,fT_,bF_,fF_]
   rw [m_B (by omega) ha hsm.bytes]
   exact ⟨_,rfl⟩
  rw [show (r.kind==2)=false by simpa using h2]
  by_cases h3:r.kind=3
  ·rw [h3];simp only [bQ_,fT_,bF_,fF_]
   have:=i_e hr.kind h3
   rw [f_d (by omega) ha (by omega) (by omega)]
   unfold c_3
   split <;> exact ⟨_,rfl⟩
  rw [show (r.kind==3)=false by simpa using h3]
  by_cases h4:r.kind=4
  ·rw [h4];simp only [bQ_,fT_,bF_,fF_]
   have hs:=g_R hr.kind h4;have hq:=b_m hs.1
   rw [b_9 (by omega),bd_some,g_P hq.1 hq.2 (by omega) ha]
   cases hi:a_a b (F_ d.rules<|C_ r) at_ with
   | none=>exact ⟨_,rfl⟩
   | some num =>
    have hrg:=b_b hq.2 hi
    simp only [bd3_some,bN_,bF_,fF_]
    rw [f_d (by omega) (by omega) (by omega) (by omega)]
    unfold c_3
    split <;> exact ⟨_,rfl⟩
  rw [show (r.kind==4)=false by simpa using h4]
  by_cases O:r.kind=10
  ·rw [O];simp only [bQ_,fT_,bF_,fF_,show ((10:Int)==5)=false from rfl,show ((10:Int)==6)=false from rfl,show ((10:Int)==7)=false from rfl,show ((10:Int)==8)=false from rfl,show ((10:Int)==9)=false from rfl]
   have V:=i_f hr.kind O
   rw [b_o (by omega),bd_some,a_m (show 0<r.bytes.length by omega),m_x _ _ _ _ (by omega) ha (by omega)]
   cases c_Z b at_ r.bytes[0] with
   | none=>exact ⟨_,rfl⟩
   | some x=>exact ⟨_,rfl⟩
  rw [show (r.kind==10)=false by simpa using O]
  by_cases h5:r.kind=5
  ·rw [h5];simp only [bQ_,fT_,bF_,fF_]
   have hs:=c_n hr.kind h5;have hq:=b_m hs.1;have hmem:r.kids.getD 1 0∈r.kids:=b_F (by omega)
   rw [show (a_h<|m+2).impl_checker_array=f_T (m+1) (a_h<|m+1) from rfl]
   unfold f_T
   simp only
   rw [b_9 (by omega),bd_some,g_P hq.1 hq.2 (by omega) ha]
   have hhd:O_ d.rules b r at_=(match a_a b (F_ d.rules<|C_ r) at_ with | none=>.inl 1 | some n=>if 40<n then .inl 6 else .inr (0,List.replicate n.toNat<|r.kids.getD 1 0,at_+(F_ d.rules<|C_ r).size.toNat)):=by unfold O_;rw [h5];rfl
   rw [hhd]
   cases hi:a_a b (F_ d.rules<|C_ r) at_ with
   | none=>exact ⟨_,rfl⟩
   | some num =>
    have hrg:=b_b hq.2 hi
    simp only [bd3_some,bQ_,fT_,bd_some]
    by_cases J:40<num
    ·rw [dT_ J,iP_ J];exact ⟨_,rfl⟩
    ·rw [dF_ J,iN_ J]
     simp only [bF_,fF_]
     obtain ⟨x,ap',h⟩:=k_g (d:=d) (b:=b) (rec_:=(a_h<|m+1).impl_checker_value) (ks:=r.kids) (kid:=r.kids.getD 1 0) (by rw [h_2 (by omega),a_m (by omega)]) (fun k p=>rdW d.rules b k.toNat p) b.length (fun ap p hp=>hrec (m+1) (by omega) _ hmem ap p hp) (fun p hp=>(hle _ hmem p hp).2) num.toNat (h_ (h_ ap 1) 1) (at_+(F_ d.rules<|C_ r).size.toNat) (by omega) (by omega) (m+1) (by omega)
     rw [show ((num.toNat:Nat):Int)=num by omega] at h
     rw [h]
     unfold b_E;generalize X_ (fun k p=>rdW d.rules b k.toNat p) (List.replicate num.toNat<|r.kids.getD 1 0) (at_+(F_ d.rules<|C_ r).size.toNat)=y
     rw [h5]
     refine ⟨ap',?_⟩
     by_cases G:y.2.2=0
     ·rw [iP_ G,G];rfl
     ·rw [iN_ G];rfl
  rw [show (r.kind==5)=false by simpa using h5]
  by_cases h6:r.kind=6
  ·rw [h6];simp only [bQ_,fT_,bF_,fF_]
   have hs:=f_e hr.kind h6;obtain ⟨ap',h⟩:=k_f (d:=d) (b:=b) (rec_:=(a_h<|m+2).impl_checker_value) (ks:=r.kids) (fun k p=>rdW d.rules b k.toNat p) b.length (fun k hk ap p hp=>hrec (m+2) (by omega) k hk ap p hp) (fun k hk p hp=>(hle k hk p hp).2) r.kids.length 0 (h_ ap 1) at_ (by omega) ha
   rw [h]
   rw [show O_ d.rules b r at_ = .inr (0,r.kids,at_) by unfold O_;rw [h6];rfl]
   simp only
   unfold b_E
   rw [List.drop_zero]
   generalize X_ (fun k p=>rdW d.rules b k.toNat p) r.kids at_=y
   rw [h6]
   refine ⟨ap',?_⟩
   by_cases G:y.2.2=0
   ·rw [iP_ G,G];rfl
   ·rw [iN_ G];rfl
  rw [show (r.kind==6)=false by simpa using h6]
  by_cases I:r.kind=7
  ·rw [I];simp only [bQ_,fT_,bF_,fF_]
   have hs:=c_o hr.kind I;have hq:=b_m hs.1
   rw [show (a_h<|m+2).impl_checker_choice=f_U (m+1) (a_h<|m+1) from rfl]
   unfold f_U
   simp only
   rw [b_9 (by omega),bd_some,g_P hq.1 hq.2 (by omega) ha]
   have hhd:O_ d.rules b r at_=(match a_a b (F_ d.rules<|C_ r) at_ with | none=>.inl 1 | some n=>match a_w r.tags n with | none=>.inl 3 | some k=>.inr (n,[r.kids.getD (k+1) 0],at_+(F_ d.rules<|C_ r).size.toNat)):=by unfold O_;rw [I];rfl
   rw [hhd]
   cases hi:a_a b (F_ d.rules<|C_ r) at_ with
   | none=>exact ⟨_,rfl⟩
   | some num =>
    have hrg:=b_b hq.2 hi
    simp only [bd3_some,bN_,bF_,fF_]
    cases ht:a_w r.tags num with
    | none =>
     have htn:=m_S ht
     rw [c_7 (fun _=>()) (n:=r.tags.length) (fun j hj=>by
      have:=htn j hj
      rw [a_m hj] at this
      rw [ix_ hj,bd_some,show (r.tags[j]==num)=false by simpa using this];rfl)]
     exact ⟨_,rfl⟩
    | some k =>
     obtain ⟨htl,hte,htb⟩:=m_R ht;have hmem:r.kids.getD (k+1) 0∈r.kids:=b_F (by omega);obtain ⟨ap',h⟩:=hrec (m+1) (by omega) _ hmem (h_ (h_ ap 1) 1) (at_+(F_ d.rules<|C_ r).size.toNat) (by omega)
     rw [h_4 (fun _=>()) (n:=r.tags.length) (j0:=k) (r:=(⟨((rdW d.rules b (r.kids.getD (k+1) 0).toNat (at_+(F_ d.rules (C_ r)).size.toNat)).2.1:Int),(rdW d.rules b (r.kids.getD (k+1) 0).toNat (at_+(F_ d.rules (C_ r)).size.toNat)).2.2⟩,ap')) htl (fun j hj=>by
      have:=htb j hj
      rw [a_m (show j<r.tags.length by omega)] at this
      rw [ix_ (show j<r.tags.length by omega),bd_some,show (r.tags[j]==num)=false by simpa using this];rfl) (by
      rw [a_m htl] at hte
      rw [ix_ htl,bd_some,show (r.tags[k]==num)=true by simpa using hte,iP_ rfl,ix_ (show k+1<r.kids.length by omega),bd_some,← a_m (x:=0) (show k+1<r.kids.length by omega),h]
      rfl)]
     simp only [bd_some,el_inr]
     unfold b_E;have ho:=i_j (fun k p=>rdW d.rules b k.toNat p) (r.kids.getD (k+1) 0)<|at_+(F_ d.rules<|C_ r).size.toNat;generalize X_ (fun k p=>rdW d.rules b k.toNat p) [r.kids.getD (k+1) 0] (at_+(F_ d.rules<|C_ r).size.toNat)=y at ho
     rw [I,ho]
     refine ⟨ap',?_⟩
     by_cases G:(rdW d.rules b (r.kids.getD (k+1) 0).toNat (at_+(F_ d.rules<|C_ r).size.toNat)).2.2=0
     ·rw [iP_ G,G];rfl
     ·rw [iN_ G];rfl
  rw [show (r.kind==7)=false by simpa using I]
  by_cases H:r.kind=8
  ·rw [H];simp only [bQ_,fT_,bF_,fF_]
   have hs:=c_5 hr.kind<|.inl H;have hmem:r.kids.getD 0 0∈r.kids:=b_F (by omega)
   rw [show (a_h<|m+2).impl_checker_option=f_V (m+1) (a_h<|m+1) from rfl]
   unfold f_V
   simp only
   have hhd:O_ d.rules b r at_=(match b[at_]? with | none=>.inl 1 | some c=>if 1<byteI c then .inl 4 else .inr (0,List.replicate c.toNat<|r.kids.getD 0 0,at_+1)):=by unfold O_;rw [H];rfl
   rw [hhd,f_d (by omega) ha (by omega) (by omega)]
   by_cases hlt:at_<b.length
   ·rw [iN_ (show ¬(b.length:Int) - at_<1 by omega),gG_ hlt]
    simp only [bd_some,bN_,bF_,fF_]
    rw [ix_ hlt]
    simp only [bd_some]
    by_cases hz:byteI b[at_]=0
    ·rw [show (byteI b[at_]==byteI (0:UInt8))=true by rw [beq_iff_eq];exact hz,iN_ (show ¬1<byteI b[at_] by rw [hz];omega)]
     rw [show b[at_].toNat=0 by unfold byteI at hz;omega]
     unfold b_E
     rw [H]
     exact ⟨_,rfl⟩
    ·rw [show (byteI b[at_]==byteI (0:UInt8))=false by rw [beq_eq_false_iff_ne];exact hz]
     simp only [bF_,fF_]
     by_cases hc:1<byteI b[at_]
     ·rw [iP_ hc,dT_ (show byteI (1:UInt8)<byteI b[at_] from hc)];exact ⟨_,rfl⟩
     ·rw [iN_ hc,dF_ (show ¬byteI (1:UInt8)<byteI b[at_] from hc)]
      simp only [bF_,fF_]
      rw [show b[at_].toNat=1 by unfold byteI at hz hc;omega]
      obtain ⟨ap',h⟩:=hrec (m+1) (by omega) _ hmem (h_ ap 1) (at_+1) (by omega)
      rw [b_o (by omega),bd_some,← a_m (x:=0) (show 0<r.kids.length by omega)]
      rw [show (1:Int).toNat=1 from rfl,h]
      unfold b_E;have ho:=i_j (fun k p=>rdW d.rules b k.toNat p) (r.kids.getD 0 0)<|at_+1
      rw [show List.replicate 1 (r.kids.getD 0 0)=[r.kids.getD 0 0] from rfl]
      generalize X_ (fun k p=>rdW d.rules b k.toNat p) [r.kids.getD 0 0] (at_+1)=y at ho
      rw [H,ho]
      refine ⟨ap',?_⟩
      by_cases G:(rdW d.rules b (r.kids.getD 0 0).toNat (at_+1)).2.2=0
      ·rw [iP_ G,G];rfl
      ·rw [iN_ G];rfl
   ·rw [iP_ (show (b.length:Int) - at_<1 by omega),gN_ (by omega)];exact ⟨_,rfl⟩
  rw [show (r.kind==8)=false by simpa using H]
  have L:r.kind=9:=by omega
  rw [L];simp only [bQ_,fT_,bF_,fF_]
  have hs:=c_5 hr.kind<|.inr L;have hmem:r.kids.getD 0 0∈r.kids:=b_F (by omega)
  rw [show (a_h<|m+2).impl_checker_checked=f_W (m+1) (a_h<|m+1) from rfl]
  unfold f_W
  simp only
  rw [show O_ d.rules b r at_ = .inr (0,[r.kids.getD 0 0],at_) by unfold O_;rw [L];rfl]
  obtain ⟨ap',h⟩:=hrec (m+1) (by omega) _ hmem (h_ ap 1) at_ ha
  rw [b_o (by omega),bd_some,← a_m (x:=0) (show 0<r.kids.length by omega),h]
  simp only
  have hx:=hle _ hmem at_ ha;have ho:=i_j (fun k p=>rdW d.rules b k.toNat p) (r.kids.getD 0 0) at_;unfold b_E;generalize X_ (fun k p=>rdW d.rules b k.toNat p) [r.kids.getD 0 0] at_=y at ho
  rw [L,ho]
  generalize rdW d.rules b (r.kids.getD 0 0).toNat at_=x at hx
  simp only [bd2_some]
  by_cases G:x.2.2=0
  ·rw [iP_ G,show (x.2.2 != 0)=false by simpa using G]
   simp only [bF_,fF_,bQ_,fT_]
   rw [f_d (by omega) hx.2 (by omega) (by omega)]
   by_cases hlt:x.2.1<b.length
   ·rw [iN_ (show ¬(b.length:Int) - x.2.1<1 by omega),gG_ hlt]
    simp only [bd_some,bQ_,fT_]
    rw [ix_ hlt,bd_some,e_d hx.1 (by omega),bd_some,m_w _ (by rw [e_e (by omega)];omega),bd_some]
    by_cases hsum:byteI b[x.2.1]=c_1 (b_l b at_ x.2.1)
    ·rw [show (byteI b[x.2.1] != c_1 (b_l b at_ x.2.1))=false by simpa using hsum,iP_ hsum];exact ⟨_,rfl⟩
    ·rw [show (byteI b[x.2.1] != c_1 (b_l b at_ x.2.1))=true by simpa using hsum,iN_ hsum];exact ⟨_,rfl⟩
   ·rw [iP_ (show (b.length:Int) - x.2.1<1 by omega),gN_ (by omega)];exact ⟨_,rfl⟩
  ·rw [iN_ G,show (x.2.2 != 0)=true by simpa using G]
   exact ⟨_,rfl⟩
end
end Go.Vw
