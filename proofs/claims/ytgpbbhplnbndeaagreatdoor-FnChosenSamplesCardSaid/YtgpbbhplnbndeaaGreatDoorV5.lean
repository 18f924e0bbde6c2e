import Derived.Test.YtgpbbhplnbndeaaGreatDoorV4
namespace Go.Vw
open Go.RowKit Dat
theorem k_X (rd:Int->Nat->RR)(k:Int)(p:Nat):(J_ rd [k] p).2=((rd k p).2.1,(rd k p).2.2):=by
 unfold J_
 by_cases h:(rd k p).2.2=0
 .rw [iP_ h];simp [J_,h]
 .rw [iN_ h]
section
variable {d:b_}{b:Bt}
theorem n_4 {rec_:Y_->Int->Int->Option (M_×Int)}{ks:List Int}(rd:Int->Nat->RR)(L:Nat)
  (ih:∀k∈ks,∀(ap:Int)(p:Nat),p<=L->∃ap',rec_ ⟨⟨d.rules⟩,b,ap⟩ k p=some (⟨((rd k p).2.1:Int),(rd k p).2.2⟩,ap')) (hle:∀k∈ks,∀p,p<=L->(rd k p).2.1<=L) :
  ∀m k (ap:Int) (p:Nat),k+m=ks.length->p<=L->∃ap',n_ (σ:=Int×Int×Int) (ρ:=M_×Int) (λO=>un3 λV W _=>bd (idx ks ((O:Nat):Int)) λY=>bd2 (rec_ (⟨(⟨d.rules⟩:b_),b,V⟩:Y_) Y W) λG I=>if (G.code != 0) then some (.brk (I,G.at_,G.code)) else some (.next (I,G.at_,G.code))) m k (ap,(p:Int),0)=some (.inl (ap',((J_ rd (ks.drop k) p).2.1:Int),(J_ rd (ks.drop k) p).2.2))
 | 0,k,ap,p,hk,_=>by
  rw [List.drop_of_length_le (by omega)]
  exact ⟨ap,rfl⟩
 | m+1,k,ap,p,hk,hp=>by
  have hlt:k<ks.length:=by omega
  have hmem:=gE_ hlt
  rw [dC_ hlt]
  unfold n_ J_;obtain ⟨J,h1⟩:=ih ks[k] hmem ap p hp
  simp only [un3]
  rw [ix_ hlt,bd_some,h1]
  simp only [bd2_some]
  by_cases H:(rd ks[k] p).2.2=0
  .rw [show ((rd ks[k] p).2.2 != 0)=false by simpa using H,iP_ H]
   obtain ⟨a0,h2⟩:=n_4 rd L ih hle m (k+1) J (rd ks[k] p).2.1 (by omega) (hle _ hmem p hp);refine ⟨a0,?_⟩
   simp only [bF_,fF_]
   rw [H,h2]
   by_cases h3:(J_ rd (ks.drop<|k+1) (rd ks[k] p).2.1).2.2=0
   .rw [iP_ h3,h3]
   .rw [iN_ h3]
  .rw [show ((rd ks[k] p).2.2 != 0)=true by simpa using H,iN_ H]
   exact ⟨J,rfl⟩
theorem n_5 {rec_:Y_->Int->Int->Option (M_×Int)}{ks:List Int}{kid:Int}(hkid:idx ks 1=some kid)(rd:Int->Nat->RR)(L:Nat)
  (ih:∀(ap:Int)(p:Nat),p<=L->∃ap',rec_ ⟨⟨d.rules⟩,b,ap⟩ kid p=some (⟨((rd kid p).2.1:Int),(rd kid p).2.2⟩,ap')) (hle:∀p,p<=L->(rd kid p).2.1<=L) :
  ∀(c:Nat)(ap:Int)(p:Nat),p<=L->c<=40->∀n,c+2<=n->∃x ap',G_ (σ:=Int×Int×Int×Int) (ρ:=M_×Int) (un4 λH I J O=>bd (α:=Bool) (if (decide<|0<H) then some (O==0) else some false) (λY=>if Y then bd (idx ks 1) λa0=>bd2 (rec_ (⟨(⟨d.rules⟩:b_),b,I⟩:Y_) a0 J) λV a1=>some (.next (k_ H 1,a1,V.at_,V.code)) else some (.brk (H,I,J,O)))) n ((c:Int),ap,(p:Int),0)=some (.inl (x,ap',((J_ rd (List.replicate c kid) p).2.1:Int),(J_ rd (List.replicate c kid) p).2.2))
 | 0,ap,p,hp,hc,n,hn=>by
  obtain ⟨m,rfl⟩:∃m,n=m+1:=⟨n - 1,by omega⟩;exact ⟨0,ap,rfl⟩
 | c+1,ap,p,hp,hc,n,hn=>by
  obtain ⟨m,rfl⟩:∃m,n=m+2:=⟨n - 2,by omega⟩;obtain ⟨W,h1⟩:=ih ap p hp
  rw [List.replicate_succ]
  unfold G_ J_
  simp only [un4]
  rw [dT_ (show (0:Int)<((c+1:Nat):Int) by omega),hkid]
  simp only [fT_,bd_some,bQ_]
  rw [h1]
  simp only [bd2_some]
  rw [a_V (x:=((c+1:Nat):Int)) (by omega) (by omega),show ((c+1:Nat):Int) - 1=(c:Int) by omega]
  by_cases G:(rd kid p).2.2=0
  .rw [iP_ G]
   obtain ⟨x,a2,h2⟩:=n_5 hkid rd L ih hle c W (rd kid p).2.1 (hle p hp) (by omega) (m+1) (by omega);refine ⟨x,a2,?_⟩
   simp only [hkid,bd_some] at h2
   rw [G]
   rw [h2]
   by_cases h3:(J_ rd (List.replicate c kid) (rd kid p).2.1).2.2=0
   .rw [iP_ h3,h3]
   .rw [iN_ h3]
  .rw [iN_ G]
   refine ⟨(c:Int),W,?_⟩;unfold G_
   simp only [un4]
   rw [show ((rd kid p).2.2==0)=false by simpa using G]
   cases decide (0<(c:Int)) <;> rfl
theorem q_Z (hv:I_ d=true)(hd:SmD d)(hb:b.length<=400):∀(i:Nat),i<d.rules.length->∀n,3 * i+410<=n->∀at_,at_<=b.length->∀ap,∃ap',n_j n ⟨d,b,ap⟩ i at_=some (⟨((rdW d.rules b i at_).2.1:Int),(rdW d.rules b i at_).2.2⟩,ap'):=by
 have hMX:=MXv;intro i
 induction i using Nat.strongRecOn with
 | _ i ih =>
  intro hi n hn at_ ha ap;have hlen:=(b_5 hv).2;obtain ⟨m,rfl⟩:∃m,n=m+3:=⟨n - 3,by omega⟩
  rw [g_A hv hi ha]
  have hr:=a_R hv hi;have hal:=c_A hr.kind;have hsm:=hd.each d.rules[i] (gE_ hi);have hidx:idx d.rules (i:Int)=some d.rules[i]:=ix_ hi;generalize hrr:d.rules[i]=r at *
  have hkk:=c_g hr.kind
  show ∃ap',i_0 (m+2) (a_v<|m+2) ⟨d,b,ap⟩ i at_=_
  unfold i_0 rdB
  simp only
  rw [hidx,bd_some]
  have hle:∀k∈r.kids,∀p,p<=b.length->p<=(rdW d.rules b k.toNat p).2.1/\(rdW d.rules b k.toNat p).2.1<=b.length:=λk hk p hp=>by
   have:=hr.kids k hk;exact c_O hv k.toNat (by omega) p hp
  have hrec:∀q,m<=q->∀k∈r.kids,∀(ap:Int)(p:Nat),p<=b.length->∃ap',(a_v q).impl_checker_value ⟨⟨d.rules⟩,b,ap⟩ k p=some (⟨((rdW d.rules b k.toNat p).2.1:Int),(rdW d.rules b k.toNat p).2.2⟩,ap'):=λq hq k hk ap p hp=>by
   have:=hr.kids k hk;have h:=ih k.toNat (by omega) (by omega) q (by omega) p hp ap
   rw [show ((k.toNat:Nat):Int)=k by omega] at h
   exact h
  by_cases h1:r.kind=1
  .rw [h1];simp only [bQ_,fT_]
   rw [j_k hidx (c_N hr.kind h1) (by omega) ha]
   cases a_5 b r at_ <;> exact ⟨_,rfl⟩
  rw [show (r.kind==1)=false by simpa using h1]
  by_cases h2:r.kind=2
  .rw [h2];simp only [bQ_,fT_,bF_,fF_]
   rw [q_C (by omega) ha hsm.bytes]
   exact ⟨_,rfl⟩
  rw [show (r.kind==2)=false by simpa using h2]
  by_cases h3:r.kind=3
  .rw [h3];simp only [bQ_,fT_,bF_,fF_]
   have:=d_C hr.kind h3
   rw [h_q (by omega) ha (by omega) (by omega)]
   unfold a_H
   split <;> exact ⟨_,rfl⟩
  rw [show (r.kind==3)=false by simpa using h3]
  by_cases h4:r.kind=4
  .rw [h4];simp only [bQ_,fT_,bF_,fF_]
   have hs:=c_z hr.kind h4;have hq:=b_I hs.1
   rw [b_G (by omega),bd_some,j_k hq.1 hq.2 (by omega) ha]
   cases hi:a_5 b (w_ d.rules<|f_ r) at_ with
   | none=>exact ⟨_,rfl⟩
   | some num =>
    have hrg:=c_f hq.2 hi
    simp only [bd3_some,bN_,bF_,fF_]
    rw [h_q (by omega) (by omega) (by omega) (by omega)]
    unfold a_H
    split <;> exact ⟨_,rfl⟩
  rw [show (r.kind==4)=false by simpa using h4]
  by_cases O:r.kind=10
  .rw [O];simp only [bQ_,fT_,bF_,fF_,show ((10:Int)==5)=false from rfl,show ((10:Int)==6)=false from rfl,show ((10:Int)==7)=false from rfl,show ((10:Int)==8)=false from rfl,show ((10:Int)==9)=false from rfl]
   have V:=j_n hr.kind O
   rw [b_2 (by omega),bd_some,B_ (show 0<r.bytes.length by omega),m_v _ _ _ _ (by omega) ha (by omega)]
   cases c_M b at_ r.bytes[0] with
   | none=>exact ⟨_,rfl⟩
   | some x=>exact ⟨_,rfl⟩
  rw [show (r.kind==10)=false by simpa using O]
  by_cases h5:r.kind=5
  .rw [h5];simp only [bQ_,fT_,bF_,fF_]
   have hs:=b_x hr.kind h5;have hq:=b_I hs.1;have hmem:r.kids.getD 1 0∈r.kids:=b_V (by omega)
   rw [show (a_v<|m+2).impl_checker_array=i_1 (m+1) (a_v<|m+1) from rfl]
   unfold i_1
   simp only
   rw [b_G (by omega),bd_some,j_k hq.1 hq.2 (by omega) ha]
   have hhd:a_8 d.rules b r at_=(match a_5 b (w_ d.rules<|f_ r) at_ with | none=>.inl 1 | some n=>if 40<n then .inl 6 else .inr (0,List.replicate n.toNat<|r.kids.getD 1 0,at_+(w_ d.rules<|f_ r).size.toNat)):=by unfold a_8;rw [h5];rfl
   rw [hhd]
   cases hi:a_5 b (w_ d.rules<|f_ r) at_ with
   | none=>exact ⟨_,rfl⟩
   | some num =>
    have hrg:=c_f hq.2 hi
    simp only [bd3_some,bQ_,fT_,bd_some]
    by_cases J:40<num
    .rw [dT_ J,iP_ J];exact ⟨_,rfl⟩
    .rw [dF_ J,iN_ J]
     simp only [bF_,fF_]
     obtain ⟨x,ap',h⟩:=n_5 (d:=d) (b:=b) (rec_:=(a_v<|m+1).impl_checker_value) (ks:=r.kids) (kid:=r.kids.getD 1 0) (by rw [j_w (by omega),B_ (by omega)]) (λk p=>rdW d.rules b k.toNat p) b.length (λap p hp=>hrec (m+1) (by omega) _ hmem ap p hp) (λp hp=>(hle _ hmem p hp).2) num.toNat (d_ (d_ ap 1) 1) (at_+(w_ d.rules<|f_ r).size.toNat) (by omega) (by omega) (m+1) (by omega)
     rw [show ((num.toNat:Nat):Int)=num by omega] at h
     rw [h]
     unfold a_T;generalize J_ (λk p=>rdW d.rules b k.toNat p) (List.replicate num.toNat<|r.kids.getD 1 0) (at_+(w_ d.rules<|f_ r).size.toNat)=y
     rw [h5]
     refine ⟨ap',?_⟩
     by_cases G:y.2.2=0
     .rw [iP_ G,G];rfl
     .rw [iN_ G];rfl
  rw [show (r.kind==5)=false by simpa using h5]
  by_cases h6:r.kind=6
  .rw [h6];simp only [bQ_,fT_,bF_,fF_]
   have hs:=g_y hr.kind h6;obtain ⟨ap',h⟩:=n_4 (d:=d) (b:=b) (rec_:=(a_v<|m+2).impl_checker_value) (ks:=r.kids) (λk p=>rdW d.rules b k.toNat p) b.length (λk hk ap p hp=>hrec (m+2) (by omega) k hk ap p hp) (λk hk p hp=>(hle k hk p hp).2) r.kids.length 0 (d_ ap 1) at_ (by omega) ha
   rw [h]
   rw [show a_8 d.rules b r at_ = .inr (0,r.kids,at_) by unfold a_8;rw [h6];rfl]
   simp only
   unfold a_T
   rw [List.drop_zero]
   generalize J_ (λk p=>rdW d.rules b k.toNat p) r.kids at_=y
   rw [h6]
   refine ⟨ap',?_⟩
   by_cases G:y.2.2=0
   .rw [iP_ G,G];rfl
   .rw [iN_ G];rfl
  rw [show (r.kind==6)=false by simpa using h6]
  by_cases I:r.kind=7
  .rw [I];simp only [bQ_,fT_,bF_,fF_]
   have hs:=b_U hr.kind I;have hq:=b_I hs.1
   rw [show (a_v<|m+2).impl_checker_choice=i_2 (m+1) (a_v<|m+1) from rfl]
   unfold i_2
   simp only
   rw [b_G (by omega),bd_some,j_k hq.1 hq.2 (by omega) ha]
   have hhd:a_8 d.rules b r at_=(match a_5 b (w_ d.rules<|f_ r) at_ with | none=>.inl 1 | some n=>match a_y r.tags n with | none=>.inl 3 | some k=>.inr (n,[r.kids.getD (k+1) 0],at_+(w_ d.rules<|f_ r).size.toNat)):=by unfold a_8;rw [I];rfl
   rw [hhd]
   cases hi:a_5 b (w_ d.rules<|f_ r) at_ with
   | none=>exact ⟨_,rfl⟩
   | some num =>
    have hrg:=c_f hq.2 hi
    simp only [bd3_some,bN_,bF_,fF_]
    cases ht:a_y r.tags num with
    | none =>
     have htn:=m_M ht
     rw [c_P (λ_=>()) (n:=r.tags.length) (λj hj=>by
      have:=htn j hj
      rw [B_ hj] at this
      rw [ix_ hj,bd_some,show (r.tags[j]==num)=false by simpa using this];rfl)]
     exact ⟨_,rfl⟩
    | some k =>
     obtain ⟨htl,hte,htb⟩:=m_L ht;have hmem:r.kids.getD (k+1) 0∈r.kids:=b_V (by omega);obtain ⟨ap',h⟩:=hrec (m+1) (by omega) _ hmem (d_ (d_ ap 1) 1) (at_+(w_ d.rules<|f_ r).size.toNat) (by omega)
     rw [l_3 (λ_=>()) (n:=r.tags.length) (j0:=k) (r:=(⟨((rdW d.rules b (r.kids.getD (k+1) 0).toNat (at_+(w_ d.rules (f_ r)).size.toNat)).2.1:Int),(rdW d.rules b (r.kids.getD (k+1) 0).toNat (at_+(w_ d.rules (f_ r)).size.toNat)).2.2⟩,ap')) htl (λj hj=>by
      have:=htb j hj
      rw [B_ (show j<r.tags.length by omega)] at this
      rw [ix_ (show j<r.tags.length by omega),bd_some,show (r.tags[j]==num)=false by simpa using this];rfl) (by
      rw [B_ htl] at hte
      rw [ix_ htl,bd_some,show (r.tags[k]==num)=true by simpa using hte,iP_ rfl,ix_ (show k+1<r.kids.length by omega),bd_some,← B_ (x:=0) (show k+1<r.kids.length by omega),h]
      rfl)]
     simp only [bd_some,el_inr]
     unfold a_T;have ho:=k_X (λk p=>rdW d.rules b k.toNat p) (r.kids.getD (k+1) 0)<|at_+(w_ d.rules<|f_ r).size.toNat;generalize J_ (λk p=>rdW d.rules b k.toNat p) [r.kids.getD (k+1) 0] (at_+(w_ d.rules<|f_ r).size.toNat)=y at ho
     rw [I,ho]
     refine ⟨ap',?_⟩
     by_cases G:(rdW d.rules b (r.kids.getD (k+1) 0).toNat (at_+(w_ d.rules<|f_ r).size.toNat)).2.2=0
     .rw [iP_ G,G];rfl
     .rw [iN_ G];rfl
  rw [show (r.kind==7)=false by simpa using I]
  by_cases H:r.kind=8
  .rw [H];simp only [bQ_,fT_,bF_,fF_]
   have hs:=b_d hr.kind<|.inl H;have hmem:r.kids.getD 0 0∈r.kids:=b_V (by omega)
   rw [show (a_v<|m+2).impl_checker_option=i_3 (m+1) (a_v<|m+1) from rfl]
   unfold i_3
   simp only
   have hhd:a_8 d.rules b r at_=(match b[at_]? with | none=>.inl 1 | some c=>if 1<byteI c then .inl 4 else .inr (0,List.replicate c.toNat<|r.kids.getD 0 0,at_+1)):=by unfold a_8;rw [H];rfl
   rw [hhd,h_q (by omega) ha (by omega) (by omega)]
   by_cases hlt:at_<b.length
   .rw [iN_ (show ¬(b.length:Int) - at_<1 by omega),gG_ hlt]
    simp only [bd_some,bN_,bF_,fF_]
    rw [ix_ hlt]
    simp only [bd_some]
    by_cases hz:byteI b[at_]=0
    .rw [show (byteI b[at_]==byteI (0:UInt8))=true by rw [beq_iff_eq];exact hz,iN_ (show ¬1<byteI b[at_] by rw [hz];omega)]
     rw [show b[at_].toNat=0 by unfold byteI at hz;omega]
     unfold a_T
     rw [H]
     exact ⟨_,rfl⟩
    .rw [show (byteI b[at_]==byteI (0:UInt8))=false by rw [beq_eq_false_iff_ne];exact hz]
     simp only [bF_,fF_]
     by_cases hc:1<byteI b[at_]
     .rw [iP_ hc,dT_ (show byteI (1:UInt8)<byteI b[at_] from hc)];exact ⟨_,rfl⟩
     .rw [iN_ hc,dF_ (show ¬byteI (1:UInt8)<byteI b[at_] from hc)]
      simp only [bF_,fF_]
      rw [show b[at_].toNat=1 by unfold byteI at hz hc;omega]
      obtain ⟨ap',h⟩:=hrec (m+1) (by omega) _ hmem (d_ ap 1) (at_+1) (by omega)
      rw [b_2 (by omega),bd_some,← B_ (x:=0) (show 0<r.kids.length by omega)]
      rw [show (1:Int).toNat=1 from rfl,h]
      unfold a_T;have ho:=k_X (λk p=>rdW d.rules b k.toNat p) (r.kids.getD 0 0)<|at_+1
      rw [show List.replicate 1 (r.kids.getD 0 0)=[r.kids.getD 0 0] from rfl]
      generalize J_ (λk p=>rdW d.rules b k.toNat p) [r.kids.getD 0 0] (at_+1)=y at ho
      rw [H,ho]
      refine ⟨ap',?_⟩
      by_cases G:(rdW d.rules b (r.kids.getD 0 0).toNat (at_+1)).2.2=0
      .rw [iP_ G,G];rfl
      .rw [iN_ G];rfl
   .rw [iP_ (show (b.length:Int) - at_<1 by omega),gN_ (by omega)];exact ⟨_,rfl⟩
  rw [show (r.kind==8)=false by simpa using H]
  have L:r.kind=9:=by omega
  rw [L];simp only [bQ_,fT_,bF_,fF_]
  have hs:=b_d hr.kind<|.inr L;have hmem:r.kids.getD 0 0∈r.kids:=b_V (by omega)
  rw [show (a_v<|m+2).impl_checker_checked=i_4 (m+1) (a_v<|m+1) from rfl]
  unfold i_4
  simp only
  rw [show a_8 d.rules b r at_ = .inr (0,[r.kids.getD 0 0],at_) by unfold a_8;rw [L];rfl]
  obtain ⟨ap',h⟩:=hrec (m+1) (by omega) _ hmem (d_ ap 1) at_ ha
  rw [b_2 (by omega),bd_some,← B_ (x:=0) (show 0<r.kids.length by omega),h]
  simp only
  have hx:=hle _ hmem at_ ha;have ho:=k_X (λk p=>rdW d.rules b k.toNat p) (r.kids.getD 0 0) at_;unfold a_T;generalize J_ (λk p=>rdW d.rules b k.toNat p) [r.kids.getD 0 0] at_=y at ho
  rw [L,ho]
  generalize rdW d.rules b (r.kids.getD 0 0).toNat at_=x at hx
  simp only [bd2_some]
  by_cases G:x.2.2=0
  .rw [iP_ G,show (x.2.2 != 0)=false by simpa using G]
   simp only [bF_,fF_,bQ_,fT_]
   rw [h_q (by omega) hx.2 (by omega) (by omega)]
   by_cases hlt:x.2.1<b.length
   .rw [iN_ (show ¬(b.length:Int) - x.2.1<1 by omega),gG_ hlt]
    simp only [bd_some,bQ_,fT_]
    rw [ix_ hlt,bd_some,f_j hx.1 (by omega),bd_some,k_R _ (by rw [e_e (by omega)];omega),bd_some]
    by_cases hsum:byteI b[x.2.1]=b_i (b_c b at_ x.2.1)
    .rw [show (byteI b[x.2.1] != b_i (b_c b at_ x.2.1))=false by simpa using hsum,iP_ hsum];exact ⟨_,rfl⟩
    .rw [show (byteI b[x.2.1] != b_i (b_c b at_ x.2.1))=true by simpa using hsum,iN_ hsum];exact ⟨_,rfl⟩
   .rw [iP_ (show (b.length:Int) - x.2.1<1 by omega),gN_ (by omega)];exact ⟨_,rfl⟩
  .rw [iN_ G,show (x.2.2 != 0)=true by simpa using G]
   exact ⟨_,rfl⟩
end
end Go.Vw
namespace Go.Vw
open Go.RowKit Dat
section
variable {d:b_}{b:Bt}
theorem r_2 {r:c_}{num:Int}{p:Nat}{x:List Val×Nat×Int}(h:(a_T b r num p x).2.2 ≠ 0):(a_T b r num p x).1=zV:=by
 unfold a_T at *
 split
 .rename_i H
  rw [iP_ H] at h
  split
  .rename_i G
   rw [iP_ G] at h
   cases hb:b[x.2.1]? with
   | none=>rfl
   | some c =>
    rw [hb] at h
    simp only at h ⊢
    split
    .rename_i hs;rw [iP_ hs] at h;exact absurd rfl h
    .rfl
  .rename_i G;rw [iN_ G] at h;exact absurd rfl h
 .rfl
theorem rdB_zV {rs:List c_}{r:c_}{p:Nat}{rd:Int->Nat->RR}(h:(rdB rs b r p rd).2.2 ≠ 0):(rdB rs b r p rd).1=zV:=by
 have hby:∀p n,(a_H b p n).2.2 ≠ 0->(a_H b p n).1=zV:=λp n h=>by
  unfold a_H at *
  split
  .rfl
  .rename_i G;rw [iN_ G] at h;exact absurd rfl h
 unfold rdB at *
 split
 .rename_i h1;rw [iP_ h1] at h
  cases hd:a_5 b r p with
  | none=>rfl
  | some n=>rw [hd] at h;exact absurd rfl h
 rename_i h1;rw [iN_ h1] at h
 split
 .rfl
 rename_i h2;rw [iN_ h2] at h
 split
 .rename_i h3;rw [iP_ h3] at h;exact hby _ _ h
 rename_i h3;rw [iN_ h3] at h
 split
 .rename_i h4;rw [iP_ h4] at h
  cases hd:a_5 b (w_ rs<|f_ r) p with
  | none=>rfl
  | some n=>rw [hd] at h;exact hby _ _ h
 rename_i h4;rw [iN_ h4] at h
 split
 .rename_i h5;rw [iP_ h5] at h
  cases hd:c_M b p (r.bytes.getD 0 0) with
  | none=>rfl
  | some n=>rw [hd] at h;exact absurd rfl h
 rename_i h5;rw [iN_ h5] at h
 cases hh:a_8 rs b r p with
 | inl c=>rfl
 | inr x=>rw [hh] at h;exact r_2 h
theorem rdW_zV {i at_:Nat}(h:(rdW d.rules b i at_).2.2 ≠ 0):(rdW d.rules b i at_).1=zV:=by
 rw [rdW] at *;exact rdB_zV h
def d_F (rd:Int->Nat->RR)(L:Nat):List Int->Nat->List Val->Nat->Prop
 | [],p,vs,e=>vs=[]/\e=p
 | k::ks,p,vs,e=>p<=L/\(rd k p).2.2=0/\∃ws,vs=(rd k p).1::ws/\d_F rd L ks (rd k p).2.1 ws e
theorem n_6 {rd:Int->Nat->RR}{L:Nat}:∀(ks:List Int)(p:Nat),p<=L->(∀k∈ks,∀p,p<=L->(rd k p).2.1<=L)->(J_ rd ks p).2.2=0->d_F rd L ks p (J_ rd ks p).1 (J_ rd ks p).2.1
 | [],p,_,_,_=>⟨rfl,rfl⟩
 | k::ks,p,hp,hle,h=>by
  unfold J_ at *
  by_cases G:(rd k p).2.2=0
  .rw [iP_ G] at *
   by_cases h1:(J_ rd ks (rd k p).2.1).2.2=0
   .rw [iP_ h1] at *
    exact ⟨hp,G,_,rfl,n_6 ks _ (hle k mS_ p hp) (λk hk=>hle k<|mT_ _ hk) h1⟩
   .rw [iN_ h1] at h;exact absurd h h1
  .rw [iN_ G] at h;exact absurd h G
theorem j_r {rd:Int->Nat->RR}{L:Nat}:∀{ks:List Int}{p:Nat}{vs:List Val}{e:Nat},d_F rd L ks p vs e->vs.length=ks.length
 | [],_,_,_,h=>by rw [h.1];rfl
 | _::_,_,_,_,h=>by obtain ⟨_,_,ws,rfl,h⟩:=h;simp [j_r h]
def a_n (rs:List c_)(r:c_)(at_:Nat):Nat:=if r.kind==5 || r.kind==7 then at_+(w_ rs<|f_ r).size.toNat else if r.kind==8 then at_+1 else at_
theorem r_3 {rs:List c_}{r:c_}{at_:Nat}(_:O_ rs r=true)(hk:5<=r.kind/\r.kind<=9){num:Int}{ks:List Int}{st:Nat}(hh:a_8 rs b r at_ = .inr (num,ks,st)) :
  (∀j (hj:j<ks.length),v_ r num j=ks[j])/\st=a_n rs r at_/\(r.kind=9->num=0):=by
 unfold a_8 at hh
 by_cases h5:r.kind=5
 .rw [h5] at hh
  simp only [bQ_,fT_] at hh
  cases hi:a_5 b (w_ rs<|f_ r) at_ with
  | none=>rw [hi] at hh;cases hh
  | some n =>
   rw [hi] at hh
   simp only at hh
   split at hh
   .cases hh
   .cases hh
    refine ⟨λj hj=>by unfold v_;rw [h5];simp,by unfold a_n;rw [h5];rfl,by omega⟩
 rw [show (r.kind==5)=false by simpa using h5] at hh
 by_cases h6:r.kind=6
 .rw [h6] at hh
  simp only [bF_,fF_,bQ_,fT_] at hh
  cases hh
  exact ⟨λj hj=>by unfold v_;rw [h6];simp [hj],by unfold a_n;rw [h6];rfl,by omega⟩
 rw [show (r.kind==6)=false by simpa using h6] at hh
 by_cases G:r.kind=7
 .rw [G] at hh
  simp only [bF_,fF_,bQ_,fT_] at hh
  cases hi:a_5 b (w_ rs<|f_ r) at_ with
  | none=>rw [hi] at hh;cases hh
  | some n =>
   rw [hi] at hh
   simp only at hh
   cases ht:a_y r.tags n with
   | none=>rw [ht] at hh;cases hh
   | some k =>
    rw [ht] at hh
    cases hh
    refine ⟨λj hj=>?_,by unfold a_n;rw [G];rfl,by omega⟩;have:j=0:=by simpa using hj
    subst this;unfold v_;rw [G];simp [ht]
 rw [show (r.kind==7)=false by simpa using G] at hh
 by_cases H:r.kind=8
 .rw [H] at hh
  simp only [bF_,fF_,bQ_,fT_] at hh
  cases hi:b[at_]? with
  | none=>rw [hi] at hh;cases hh
  | some c =>
   rw [hi] at hh
   simp only at hh
   split at hh
   .cases hh
   .cases hh
    exact ⟨λj hj=>by unfold v_;rw [H];simp,by unfold a_n;rw [H];rfl,by omega⟩
 rw [show (r.kind==8)=false by simpa using H] at hh
 simp only [bF_,fF_] at hh
 cases hh
 have I:r.kind=9:=by omega
 refine ⟨λj hj=>?_,by unfold a_n;rw [I];rfl,λ_=>rfl⟩;have:j=0:=by simpa using hj
 subst this;unfold v_;rw [I];simp
structure RdOk (d:b_)(b:Bt)(r:c_)(at_:Nat)(x:RR)(ks:List Int)(e:Nat):Prop where
 item:∀j (hj:j<ks.length),v_ r x.1.number j=ks[j]
 kids:∀k∈ks,k∈r.kids
 small:ks.length<=40
 ch:d_F (λk p=>rdW d.rules b k.toNat p) b.length ks (a_n d.rules r at_) x.1.items e
 st:at_<=a_n d.rules r at_/\a_n d.rules r at_<=b.length
 se:a_n d.rules r at_<=e
 le:e<=x.2.1
 go:at_<x.2.1∨(e=x.2.1/\a_n d.rules r at_=at_/\ks ≠ [])
theorem g_B (hv:I_ d=true){i:Nat}(hi:i<d.rules.length){at_:Nat}(ha:at_<=b.length)(hok:(rdW d.rules b i at_).2.2=0) :
  ∃ks e,RdOk d b d.rules[i] at_ (rdW d.rules b i at_) ks e:=by
 have hbase:=c_O (b:=b) hv i hi at_ ha
 rw [g_A hv hi ha] at *
 have hr:=a_R hv hi;have hal:=c_A hr.kind;generalize hrr:d.rules[i]=r at *
 have leaf:∀(x:RR),a_n d.rules r at_=at_->at_<x.2.1->x.1.items=[]->∃ks e,RdOk d b r at_ x ks e:=λx h1 h2 h3 =>
  ⟨[],at_,λj hj=>by simp at hj,λk hk=>by simp at hk,by simp,by rw [h3,h1];exact ⟨rfl,rfl⟩,by rw [h1];exact ⟨Nat.le_refl _,ha⟩,by rw [h1];exact Nat.le_refl _,Nat.le_of_lt h2,.inl h2⟩
 have hby:∀p n,(a_H b p n).2.2=0->(a_H b p n).1.items=[]/\(a_H b p n).2.1=p+n.toNat:=λp n h=>by
  unfold a_H at *
  split at h
  .cases h
  .rename_i G;rw [iN_ G];exact ⟨rfl,rfl⟩
 unfold rdB at *
 by_cases h1:r.kind=1
 .rw [h1] at hok ⊢;simp only [bQ_,fT_] at hok ⊢
  have hst:a_n d.rules r at_=at_:=by unfold a_n;rw [h1];rfl
  cases hd:a_5 b r at_ with
  | none=>rw [hd] at hok;cases hok
  | some n=>have:=(c_N hr.kind h1).2.1;exact leaf _ hst (by simp only;omega) rfl
 rw [show (r.kind==1)=false by simpa using h1] at *
 by_cases h2:r.kind=2
 .rw [h2] at hok ⊢
  have hst:a_n d.rules r at_=at_:=by unfold a_n;rw [h2];rfl
  have:=m_A hr.kind h2
  exact leaf _ hst (by
   have h:=q_E (show (b_1 b r.bytes at_).2=0 from hok)
   show at_<(b_1 b r.bytes at_).1
   omega) rfl
 rw [show (r.kind==2)=false by simpa using h2] at *
 by_cases h3:r.kind=3
 .rw [h3] at hok ⊢
  have hst:a_n d.rules r at_=at_:=by unfold a_n;rw [h3];rfl
  have:=d_C hr.kind h3;have h:=hby at_ r.size hok
  exact leaf _ hst (by
   show at_<(a_H b at_ r.size).2.1
   omega) h.1
 rw [show (r.kind==3)=false by simpa using h3] at *
 by_cases h4:r.kind=4
 .rw [h4] at hok ⊢;simp only [bF_,fF_,bQ_,fT_] at hok ⊢
  have hst:a_n d.rules r at_=at_:=by unfold a_n;rw [h4];rfl
  cases hd:a_5 b (w_ d.rules<|f_ r) at_ with
  | none=>rw [hd] at hok;cases hok
  | some n =>
   rw [hd] at hok
   have:=(b_I (c_z hr.kind h4).1).2.2.1;have h:=hby _ n hok;exact leaf _ hst (by simp only;omega) h.1
 rw [show (r.kind==4)=false by simpa using h4] at *
 by_cases H:r.kind=10
 .rw [H] at hok ⊢;simp only [bF_,fF_,bQ_,fT_] at hok ⊢
  have hst:a_n d.rules r at_=at_:=by unfold a_n;rw [H];rfl
  cases hd:c_M b at_ (r.bytes.getD 0 0) with
  | none=>rw [hd] at hok;cases hok
  | some x=>have:=j_g _ _ _ _ _ hd;exact leaf _ hst (by simp only;omega) rfl
 rw [show (r.kind==10)=false by simpa using H] at *
 simp only [bF_,fF_] at hok ⊢
 cases hh:a_8 d.rules b r at_ with
 | inl c=>rw [hh] at hok;exact absurd hok (by
   intro hc
   simp only at hc
   subst hc;unfold a_8 at hh
   split at hh
   .cases hi:a_5 b (w_ d.rules<|f_ r) at_ with
    | none=>rw [hi] at hh;cases hh
    | some n=>rw [hi] at hh;simp only at hh;split at hh <;> cases hh
   split at hh
   .cases hh
   split at hh
   .cases hi:a_5 b (w_ d.rules<|f_ r) at_ with
    | none=>rw [hi] at hh;cases hh
    | some n =>
     rw [hi] at hh;simp only at hh
     cases ht:a_y r.tags n with
     | none=>rw [ht] at hh;cases hh
     | some k=>rw [ht] at hh;cases hh
   split at hh
   .cases hi:b[at_]? with
    | none=>rw [hi] at hh;cases hh
    | some c=>rw [hi] at hh;simp only at hh;split at hh <;> cases hh
   .cases hh)
 | inr y =>
  obtain ⟨num,ks,st⟩:=y
  rw [hh] at hok
  simp only at hok ⊢
  have hk:=k_S hr.kind (by omega) ha hh;obtain ⟨hitem,hst,J⟩:=r_3 hr.kind (by omega) hh
  have hlek:∀k∈ks,∀p,p<=b.length->p<=(rdW d.rules b k.toNat p).2.1/\(rdW d.rules b k.toNat p).2.1<=b.length:=λk hk' p hp=>by
   have:=hr.kids k<|hk.1 k hk';exact c_O hv k.toNat (by omega) p hp
  have hile:=h_r (rd:=λk p=>rdW d.rules b k.toNat p) (L:=b.length) ks st hk.2.2.1 hlek;have hch:=n_6 (rd:=λk p=>rdW d.rules b k.toNat p) (L:=b.length) ks st hk.2.2.1<|λk hk' p hp=>(hlek k hk' p hp).2;generalize J_ (λk p=>rdW d.rules b k.toNat p) ks st=x at *
  have G:x.2.2=0:=by
   unfold a_T at hok
   split at hok
   .assumption
   .rename_i hx;exact absurd hok hx
  have hch:=hch G
  have hnk:r.kind=6∨r.kind=9->ks ≠ []:=by
   intro O hnil;unfold a_8 at hh
   rcases O with h | h
   .rw [h] at hh
    have:=g_y hr.kind h
    cases hh
    rw [hnil] at this;simp at this
   .rw [h] at hh;cases hh;cases hnil
  subst hst;refine ⟨ks,x.2.1,?_⟩;unfold a_T at hok ⊢
  rw [iP_ G] at hok ⊢
  by_cases I:r.kind=9
  .rw [show (r.kind==9)=true by simpa using I] at hok ⊢
   simp only [fT_] at hok ⊢
   cases hb:b[x.2.1]? with
   | none=>rw [hb] at hok;cases hok
   | some c =>
    rw [hb] at hok
    simp only at hok ⊢
    by_cases hs:byteI c=b_i (b_c b at_ x.2.1)
    .rw [iP_ hs]
     have:=J I;subst this;exact ⟨hitem,hk.1,hk.2.2.2.1,hch,⟨hk.2.1,hk.2.2.1⟩,hile.1,by simp only;omega,.inl (by simp only;omega)⟩
    .rw [iN_ hs] at hok;cases hok
  .rw [show (r.kind==9)=false by simpa using I]
   simp only [bF_,fF_]
   refine ⟨hitem,hk.1,hk.2.2.2.1,hch,⟨hk.2.1,hk.2.2.1⟩,hile.1,Nat.le_refl _,?_⟩
   by_cases hst:a_n d.rules r at_=at_
   .exact .inr ⟨rfl,hst,hnk<|hk.2.2.2.2 hst⟩
   .left;simp only;omega
theorem rdW_lt (hv:I_ d=true):∀(i:Nat),i<d.rules.length->∀at_,at_<=b.length->(rdW d.rules b i at_).2.2=0->at_<(rdW d.rules b i at_).2.1:=by
 intro i
 induction i using Nat.strongRecOn with
 | _ i ih =>
  intro hi at_ ha hok;obtain ⟨ks,e,h⟩:=g_B hv hi ha hok
  rcases h.go with hgo | ⟨he,hst,hne⟩
  .exact hgo
  .have hch:=h.ch
   cases ks with
   | nil=>exact absurd rfl hne
   | cons k ks =>
    obtain ⟨hp,G,ws,hws,hrest⟩:=hch;have hkid:=(a_R hv hi).kids k (h.kids k mS_);have hlt:=ih k.toNat (by omega) (by omega) _ hp G
    have hmono:∀(ks:List Int)(p:Nat)(vs:List Val)(e:Nat),p<=b.length->(∀k∈ks,0<=k/\k<(i:Int))->d_F (λk p=>rdW d.rules b k.toNat p) b.length ks p vs e->p<=e:=by
     intro ks
     induction ks with
     | nil=>intro p vs e _ _ h;rw [h.2];exact Nat.le_refl _
     | cons k ks ihk =>
      intro p vs e hp hkk h;obtain ⟨_,_,ws,_,h⟩:=h;have hk:=hkk k mS_;have hl:=c_O (b:=b) hv k.toNat (by omega) p hp;have:=ihk _ ws e hl.2 (λk hk=>hkk k<|mT_ _ hk) h
      omega
    have:=hmono ks _ ws e (c_O hv k.toNat (by omega) _ hp).2 (λk' hk'=>(a_R hv hi).kids k' (h.kids k'<|mT_ _ hk')) hrest
    omega
def okV (d:b_)(b:Bt)(rule at_:Int):Bool:=(I_ d && a_G d rule) && ((decide (0<=at_) && decide (at_<=(b.length:Int))) && decide ((b.length:Int)<=400))
def b_6 (d:b_)(rule:Int)(b:Bt)(at_:Int):Val×Int×Int:=if okV d b rule at_ then b_y (rdW d.rules b rule.toNat at_.toNat) else (zV,0,8)
theorem j_s {rule at_:Int}(h:okV d b rule at_=true):I_ d=true/\b.length<=400/\∃i p:Nat,rule=i/\at_=p/\i<d.rules.length/\p<=b.length:=by
 unfold okV a_G at h
 simp only [aE_,dE_] at h
 exact ⟨h.1.1,by omega,rule.toNat,at_.toNat,by omega,by omega,by omega,by omega⟩
theorem r_4 (hd:SmD d){n:Nat}(hn:500<=n)(rule at_:Int):h_R n d rule b at_=some (b_6 d rule b at_):=by
 unfold h_R b_6
 rw [j_4 d hd,b_r]
 by_cases h:okV d b rule at_=true
 .rw [iP_ h]
  obtain ⟨hv,hb,i,p,rfl,rfl,hi,hp⟩:=j_s h;have hlen:=(b_5 hv).2;have H:(I_ d && a_G d (i:Int))=true:=by unfold a_G;rw [hv,dT_ (by omega),dT_ (by omega)];rfl
  rw [H,dT_ (show (0:Int)<=(p:Int) by omega),dT_ (show (p:Int)<=(b.length:Int) by omega),dF_ (show ¬(400:Int)<(b.length:Int) by omega)]
  simp only [bd_some,nT_,bF_,fF_,Bool.and_self]
  rw [m_D hv hd hb i hi n (by omega) p hp]
  rfl
 .rw [iN_ h]
  unfold okV at h
  have G:decide ((400:Int)<(b.length:Int)) = !decide ((b.length:Int)<=400):=by
   by_cases hb:(b.length:Int)<=400
   .rw [dT_ hb,dF_ (by omega)];rfl
   .rw [dF_ hb,dT_ (by omega)];rfl
  rw [G]
  generalize (I_ d && a_G d rule)=a at *
  generalize (decide (0<=at_) && decide (at_<=(b.length:Int)))=c at *
  generalize decide ((b.length:Int)<=400)=e at *
  cases a <;> cases c <;> cases e <;> first | rfl | exact absurd rfl h
theorem r_5 (hd:SmD d){n:Nat}(hn:500<=n)(rule at_:Int):i_d n d rule b at_=some (b_6 d rule b at_):=by
 unfold i_d b_6
 rw [e_9 n (by omega) d hd]
 by_cases h:okV d b rule at_=true
 .rw [iP_ h]
  obtain ⟨hv,hb,i,p,rfl,rfl,hi,hp⟩:=j_s h;have hlen:=(b_5 hv).2;have H:(I_ d && a_G d (i:Int))=true:=by unfold a_G;rw [hv,dT_ (by omega),dT_ (by omega)];rfl
  rw [H,dF_ (show ¬(p:Int)<0 by omega),dF_ (show ¬(b.length:Int)<(p:Int) by omega),dF_ (show ¬(400:Int)<(b.length:Int) by omega)]
  simp only [bd_some,nT_,bF_,fF_]
  obtain ⟨nx,hrd⟩:=q_Q hv hd hb i hi n (by omega) p hp
  rw [hrd]
  show _=some (b_y<|rdW d.rules b i p)
  have hz:=rdW_zV (d:=d) (b:=b) (i:=i) (at_:=p);generalize rdW d.rules b i p=x at *
  unfold c_B b_y
  by_cases G:x.2.2=0
  .rw [iP_ G,G];rfl
  .rw [iN_ G,hz G];rfl
 .rw [iN_ h]
  unfold okV at h
  have I:decide ((400:Int)<(b.length:Int)) = !decide ((b.length:Int)<=400):=by
   by_cases hb:(b.length:Int)<=400
   .rw [dT_ hb,dF_ (by omega)];rfl
   .rw [dF_ hb,dT_ (by omega)];rfl
  have J:decide (at_<0) = !decide (0<=at_):=by
   by_cases hb:0<=at_
   .rw [dT_ hb,dF_ (by omega)];rfl
   .rw [dF_ hb,dT_ (by omega)];rfl
  have H:decide ((b.length:Int)<at_) = !decide (at_<=(b.length:Int)):=by
   by_cases hb:at_<=(b.length:Int)
   .rw [dT_ hb,dF_ (by omega)];rfl
   .rw [dF_ hb,dT_ (by omega)];rfl
  rw [I,J,H]
  generalize (I_ d && a_G d rule)=a at *
  generalize decide (0<=at_)=c at *
  generalize decide (at_<=(b.length:Int))=c' at *
  generalize decide ((b.length:Int)<=400)=e at *
  cases a <;> cases c <;> cases c' <;> cases e <;> first | rfl | exact absurd rfl h
theorem r_6 (hd:SmD d){n:Nat}(hn:500<=n)(rule at_:Int):i_5 n d rule b at_=some ((b_6 d rule b at_).2.1,(b_6 d rule b at_).2.2):=by
 unfold i_5 b_6
 rw [e_9 n (by omega) d hd]
 by_cases h:okV d b rule at_=true
 .rw [iP_ h]
  obtain ⟨hv,hb,i,p,rfl,rfl,hi,hp⟩:=j_s h;have hlen:=(b_5 hv).2;have G:(I_ d && a_G d (i:Int))=true:=by unfold a_G;rw [hv,dT_ (by omega),dT_ (by omega)];rfl
  rw [G,dF_ (show ¬(p:Int)<0 by omega),dF_ (show ¬(b.length:Int)<(p:Int) by omega),dF_ (show ¬(400:Int)<(b.length:Int) by omega)]
  simp only [bd_some,nT_,bF_,fF_]
  obtain ⟨ap',hrd⟩:=q_Z hv hd hb i hi n (by omega) p hp 0
  rw [show (⟨(⟨d.rules⟩:b_),b,0⟩:Y_)=⟨d,b,0⟩ from rfl,hrd]
  rfl
 .rw [iN_ h]
  unfold okV at h
  have H:decide ((400:Int)<(b.length:Int)) = !decide ((b.length:Int)<=400):=by
   by_cases hb:(b.length:Int)<=400
   .rw [dT_ hb,dF_ (by omega)];rfl
   .rw [dF_ hb,dT_ (by omega)];rfl
  have I:decide (at_<0) = !decide (0<=at_):=by
   by_cases hb:0<=at_
   .rw [dT_ hb,dF_ (by omega)];rfl
   .rw [dF_ hb,dT_ (by omega)];rfl
  have G:decide ((b.length:Int)<at_) = !decide (at_<=(b.length:Int)):=by
   by_cases hb:at_<=(b.length:Int)
   .rw [dT_ hb,dF_ (by omega)];rfl
   .rw [dF_ hb,dT_ (by omega)];rfl
  rw [H,I,G]
  generalize (I_ d && a_G d rule)=a at *
  generalize decide (0<=at_)=c at *
  generalize decide (at_<=(b.length:Int))=c' at *
  generalize decide ((b.length:Int)<=400)=e at *
  cases a <;> cases c <;> cases c' <;> cases e <;> first | rfl | exact absurd rfl h
def a_z (d:b_):Int:=(d.rules.length:Int) - 1
theorem j_t (hd:SmD d):d_I d=some (a_z d):=by
 have:=hd.rules;have:=MXv;unfold d_I a_z;rw [a_V (by omega) (by omega)]
theorem h_t (hd:SmD d):d_j d=some (a_z d):=by
 have:=hd.rules;have:=MXv;unfold d_j a_z;rw [a_V (by omega) (by omega)]
def c_C (d:b_)(b:Bt):Val×Int×Int:=if (b_6 d (a_z d) b 0).2.2=0/\(b_6 d (a_z d) b 0).2.1<(b.length:Int) then (zV,(b_6 d (a_z d) b 0).2.1,7) else b_6 d (a_z d) b 0
theorem n_7 (v:Val)(e c:Int)(len:Int):bd (α:=Bool) (if (c==0) then some (decide<|e<len) else some false) (λH=>if H then some ((⟨0,([]:Bt),([]:List Val)⟩:Val),e,7) else some ((⟨v.number,v.bytes,v.items⟩:Val),e,c))=some (if c=0/\e<len then (zV,e,7) else (v,e,c)):=by
 rw [m_C]
 by_cases G:c=0
 .subst G
  by_cases h1:e<len
  .rw [dT_ h1,iP_ (show (0:Int)=0/\e<len from ⟨rfl,h1⟩)];rfl
  .rw [dF_ h1,iN_ (show ¬((0:Int)=0/\e<len) from λh=>h1 h.2)];rfl
 .rw [show (c==0)=false by simpa using G,iN_ (show ¬(c=0/\e<len) from λh=>G h.1)];rfl
theorem r_7 (hd:SmD d){n:Nat}(hn:500<=n):i_e n d b=some (c_C d b):=by
 unfold i_e c_C
 rw [j_t hd,bd_some,r_5 hd hn]
 generalize b_6 d (a_z d) b 0=x;exact n_7 x.1 x.2.1 x.2.2 _
theorem r_8 (hd:SmD d){n:Nat}(hn:500<=n):h_S n d b=some (c_C d b):=by
 unfold h_S c_C
 rw [h_t hd,bd_some,r_4 hd hn]
 generalize b_6 d (a_z d) b 0=x;exact n_7 x.1 x.2.1 x.2.2 _
end
end Go.Vw
namespace Go.Vw
open Go.RowKit Dat
theorem r_9 (x:Nat):mkB (d_ 48 ((x % 10:Nat):Int))=UInt8.ofNat (48+x % 10):=by
 have:x % 10=0∨x % 10=1∨x % 10=2∨x % 10=3∨x % 10=4∨x % 10=5∨x % 10=6∨x % 10=7∨x % 10=8∨x % 10=9:=by omega
 rcases this with h | h | h | h | h | h | h | h | h | h <;> rw [h] <;> decide
theorem n_8:∀(k x:Nat),x<10 ^ k->0<x->x<=4611686018427387904->∀(s:Str)(n:Nat),k+1<=n->s.b.length+k<=1000 ->
  G_ (σ:=Str×Int) (ρ:=Str) (un2 λH G=>if (G != 0) then bd (α:=Int) (if (decide<|(R_ G 10)<0) then some (g_l<|R_ G 10) else some (R_ G 10)) (λJ=>bd (cat (⟨[mkB (d_ 48 J)]⟩:Str) H) λL=>some<|.next (L,b_9 G 10)) else some (.brk (H,G))) n (s,(x:Int))=some (.inl (⟨Lib.decDigits x++s.b⟩,0))
 | 0,x,h,O,_,_,_,_,_=>by simp at h;omega
 | k+1,x,h,O,hb,s,n,hn,hs=>by
  obtain ⟨m,rfl⟩:∃m,n=m+1:=⟨n - 1,by omega⟩;unfold G_
  simp only [un2]
  rw [show ((x:Int) != 0)=true by simp;omega,a_W (by omega),j_v (by omega) (by omega) (by omega),dF_ (show ¬(x:Int) % 10<0 by omega)]
  simp only [fT_,bF_,fF_,bd_some]
  rw [show (x:Int) % 10=((x % 10:Nat):Int) by omega,r_9,d_H (by rw [a_9];simp;omega),bd_some,show (x:Int) / 10=((x / 10:Nat):Int) by omega]
  simp only
  by_cases I:x<10
  .rw [show x / 10=0 by omega,show x % 10=x by omega]
   obtain ⟨m',rfl⟩:∃m',m=m'+1:=⟨m - 1,by omega⟩
   rw [Lib.decDigits,dif_pos I]
   rfl
  .rw [n_8 k (x / 10) (by rw [Nat.pow_succ] at h;omega) (by omega) (by omega) _ m (by omega) (by simp;omega)]
   rw [Lib.decDigits.eq_1 x,dif_neg I]
   simp
theorem h_u {n:Nat}(hn:30<=n)(i:Nat)(hi:i<=1000000000):c_Q n i=some ⟨Lib.itoa i⟩:=by
 unfold c_Q Lib.itoa
 rw [iN_ (show ¬(i:Int)<0 by omega)]
 by_cases G:i=0
 .subst G
  rw [show ((((0:Nat):Int)).toNat)=0 from rfl,Lib.decDigits,dif_pos (by omega)]
  rfl
 .rw [show ((i:Int)==0)=false by simp;omega]
  simp only [bF_,fF_]
  rw [n_8 20 i (by omega) (by omega) (by omega) ⟨[]⟩ n (by omega) (by simp),dF_ (show ¬(i:Int)<0 by omega)]
  simp
theorem h_v (i:Nat)(hi:i<=1000000000):(Lib.itoa i).length<=21:=Lib.itoa_length_le i (by omega) (by omega)
def d_f (r:c_)(i:Nat):Str :=
 if r.kind==5 then ⟨Lib.itoa i⟩
 else if r.kind==6 && decide (i<r.names.length) then r.names.getD i ⟨[]⟩
 else if r.kind==7 && i==0 then ⟨[42]⟩
 else if r.kind==8 && i==0 then ⟨[63]⟩
 else if r.kind==9 && i==0 then ⟨[43]⟩
 else ⟨[]⟩
theorem r_a {n:Nat}(hn:30<=n)(r:c_)(i:Nat)(hi:i<=1000000000):g_G n r i=some (d_f r i):=by
 unfold g_G d_f
 rw [h_u hn i hi]
 rw [k_E]
 cases (r.kind==5)
 .cases (r.kind==6)
  .cases (r.kind==7) <;> cases (r.kind==8) <;> cases (r.kind==9) <;> cases (i==0) <;> rfl
  .by_cases h:i<r.names.length
   .rw [dT_ h,dT_ (show (i:Int)<(r.names.length:Int) by omega),ix_ h,B_ h];rfl
   .rw [dF_ h,dF_ (show ¬(i:Int)<(r.names.length:Int) by omega)]
    cases (r.kind==7) <;> cases (r.kind==8) <;> cases (r.kind==9) <;> cases (i==0) <;> rfl
 .rfl
theorem r_b {d:b_}(hv:I_ d=true)(hd:SmD d){n:Nat}(hn:30<=n){k:Nat}(hk:k<d.rules.length)(i:Nat):f_s n d k i=some (d_f d.rules[k] i):=by
 unfold f_s d_f j_B j_P
 rw [e_9 n (by omega) d hd,hv,ix_ hk]
 have H:a_G d (k:Int)=true:=by unfold a_G;rw [dT_ (by omega),dT_ (by omega)];rfl
 rw [H,dF_ (show ¬(i:Int)<0 by omega)]
 simp only [Bool.and_self,nT_,bd_some,bF_,fF_]
 generalize d.rules[k]=r
 by_cases h5:r.kind=5
 .rw [h5];rfl
 rw [show (r.kind==5)=false by simpa using h5]
 by_cases h6:r.kind=6
 .rw [h6]
  by_cases h:i<r.names.length
  .rw [dT_ h,dT_ (show (i:Int)<(r.names.length:Int) by omega),ix_ h,B_ h];rfl
  .rw [dF_ h,dF_ (show ¬(i:Int)<(r.names.length:Int) by omega)]
   cases decide (0<(i:Int)) <;> rfl
 rw [show (r.kind==6)=false by simpa using h6]
 by_cases G:i=0
 .subst G
  cases (r.kind==7) <;> cases (r.kind==8) <;> cases (r.kind==9) <;> rfl
 .rw [dT_ (show 0<(i:Int) by omega),show (i==0)=false by simpa using G]
  cases (r.kind==7) <;> cases (r.kind==8) <;> cases (r.kind==9) <;> rfl
theorem r_c {s:Str}(h:b_b s=true):s.b.length<=12:=by
 unfold b_b at h
 simp only [aE_,dE_] at h
 exact h.2.2
theorem k_Y {rs:List c_}{r:c_}(h:O_ rs r=true)(i:Nat)(hi:i<=1000000000):(d_f r i).b.length<=21:=by
 unfold d_f
 split
 .exact h_v i hi
 split
 .rename_i h6
  simp only [aE_,beq_iff_eq,dE_] at h6
  rw [B_ h6.2]
  have:=r_c<|(g_y h h6.1).2.2.2 _ (gE_ h6.2)
  omega
 split
 .simp
 split
 .simp
 split <;> simp
def c_D (r:c_)(path:Str)(i:Nat):Str:=⟨path.b++[47]++(d_f r i).b⟩
def ixL (f:Int->Nat->Str->List z_)(e:Int->Nat->Nat)(r:c_)(path:Str):List Int->Nat->Nat->List z_
 | [],_,_=>[]
 | k::ks,i,pos=>f k pos (c_D r path i)++ixL f e r path ks (i+1) (e k pos)
def ixW (rs:List c_)(b:Bt)(rule:Nat)(at_:Nat)(path:Str):List z_ :=
 (⟨path,(rule:Int),(at_:Int),((rdW rs b rule at_).2.1:Int)⟩:z_)::ixL (λk p q=>if _h:k.toNat<rule then ixW rs b k.toNat p q else []) (λk p=>(rdW rs b k.toNat p).2.1) (rs.getD rule default) path ((List.range (rdW rs b rule at_).1.items.length).map (v_ (rs.getD rule default) (rdW rs b rule at_).1.number)) 0 (a_n rs (rs.getD rule default) at_)
termination_by rule
theorem n_9 {f f':Int->Nat->Str->List z_}{e:Int->Nat->Nat}{r:c_}{path:Str}:∀(ks:List Int)(i pos:Nat),(∀k∈ks,∀p q,f k p q=f' k p q)->ixL f e r path ks i pos=ixL f' e r path ks i pos
 | [],_,_,_=>rfl
 | k::ks,i,pos,h=>by
  unfold ixL
  rw [h k mS_,n_9 ks _ _<|λk hk=>h k<|mT_ _ hk]
section
variable {d:b_}{b:Bt}
theorem j_u (hv:I_ d=true){i:Nat}(hi:i<d.rules.length){at_:Nat}{ks:List Int}{e:Nat}(h:RdOk d b d.rules[i] at_ (rdW d.rules b i at_) ks e)(path:Str) :
  ixW d.rules b i at_ path=(⟨path,(i:Int),(at_:Int),((rdW d.rules b i at_).2.1:Int)⟩:z_)::ixL (λk p q=>ixW d.rules b k.toNat p q) (λk p=>(rdW d.rules b k.toNat p).2.1) d.rules[i] path ks 0 (a_n d.rules d.rules[i] at_):=by
 rw [ixW]
 have G:d.rules.getD i default=d.rules[i]:=by simp [hi]
 rw [G]
 have hl:=j_r h.ch
 have H:(List.range (rdW d.rules b i at_).1.items.length).map (v_ d.rules[i] (rdW d.rules b i at_).1.number)=ks:=by
  apply List.ext_getElem
  .simp [hl]
  .intro j h1 h2
   rw [List.getElem_map,List.getElem_range]
   exact h.item j h2
 rw [H]
 congr 1
 refine n_9 ks _ _<|λk hk p q=>?_;have:=(a_R hv hi).kids k (h.kids k hk)
 rw [dif_pos (by omega)]
theorem n_a (i:Nat)(f:Int->Nat->Str->List z_)(r:c_)(path:Str):∀(ks:List Int)(j pos:Nat)(vs:List Val)(e:Nat),(∀k∈ks,∀p,p<=b.length->p<=(rdW d.rules b k.toNat p).2.1/\(rdW d.rules b k.toNat p).2.1<=b.length)->(∀k∈ks,∀p q,p<=b.length->(rdW d.rules b k.toNat p).2.2=0->(f k p q).length<=i * ((rdW d.rules b k.toNat p).2.1 - p)) ->
  d_F (λk p=>rdW d.rules b k.toNat p) b.length ks pos vs e->(ixL f (λk p=>(rdW d.rules b k.toNat p).2.1) r path ks j pos).length<=i * (e - pos)/\pos<=e
 | [],_,_,_,_,_,_,h=>by rw [h.2];simp [ixL]
 | k::ks,j,pos,vs,e,hle,hf,h=>by
  obtain ⟨hp,G,ws,_,hrest⟩:=h;have h1:=hle k mS_ pos hp;have h2:=hf k mS_ pos (c_D r path j) hp G;have h3:=n_a i f r path ks (j+1) _ ws e (λk hk=>hle k<|mT_ _ hk) (λk hk=>hf k<|mT_ _ hk) hrest
  simp only at h3 G
  unfold ixL
  rw [List.length_append]
  refine ⟨?_,by omega⟩
  have h4:i * ((rdW d.rules b k.toNat pos).2.1 - pos)+i * (e - (rdW d.rules b k.toNat pos).2.1)=i * (e - pos):=by
   rw [← Nat.mul_add];congr 1;omega
  omega
theorem r_d (hv:I_ d=true):∀(i:Nat),i<d.rules.length->∀at_ path,at_<=b.length->(rdW d.rules b i at_).2.2=0->(ixW d.rules b i at_ path).length<=(i+1) * ((rdW d.rules b i at_).2.1 - at_):=by
 intro i
 induction i using Nat.strongRecOn with
 | _ i ih =>
  intro hi at_ path ha hok;obtain ⟨ks,e,h⟩:=g_B hv hi ha hok;have hlt:=rdW_lt hv i hi at_ ha hok
  rw [j_u hv hi h path]
  have hkk:∀k∈ks,0<=k/\k<(i:Int):=λk hk=>(a_R hv hi).kids k (h.kids k hk)
  have hL:=n_a (d:=d) (b:=b) i (λk p q=>ixW d.rules b k.toNat p q) d.rules[i] path ks 0 _ _ e (λk hk p hp=>by have:=hkk k hk;exact c_O hv k.toNat (by omega) p hp) (λk hk p q hp G=>by
   have H:=hkk k hk;have h1:=ih k.toNat (by omega) (by omega) p q hp G
   exact Nat.le_trans h1 (Nat.mul_le_mul_right _ (by omega))) h.ch
  rw [lC_]
  have hst:=h.st;have hse:=h.se;have hle:=h.le;have h5:i * (e - a_n d.rules d.rules[i] at_)<=i * ((rdW d.rules b i at_).2.1 - at_):=Nat.mul_le_mul_left _ (by omega)
  rw [Nat.succ_mul]
  omega
theorem k_Z (hv:I_ d=true)(hb:b.length<=400){i:Nat}(hi:i<d.rules.length){at_:Nat}(path:Str)(ha:at_<=b.length)(hok:(rdW d.rules b i at_).2.2=0):(ixW d.rules b i at_ path).length<=10000:=by
 have h1:=r_d hv i hi at_ path ha hok;have h2:=(b_5 hv).2;have h3:=(c_O (b:=b) hv i hi at_ ha).2;have h4:(i+1) * ((rdW d.rules b i at_).2.1 - at_)<=24 * 400:=Nat.mul_le_mul (by omega) (by omega)
 omega
theorem n_b {r:c_}{path:Str}{j:Nat}(hk:O_ d.rules r=true)(hj:j<=1000000000):(c_D r path j).b.length<=path.b.length+22:=by
 have:=k_Y hk j hj;unfold c_D
 simp only [List.length_append,lC_,List.length_nil]
 omega
theorem n_c (hv:I_ d=true)(hb:b.length<=400){i:Nat}(hi:i<d.rules.length){at_:Nat}(ha:at_<=b.length)(hok:(rdW d.rules b i at_).2.2=0) :
  (bd (α:=Bool) (if (d.rules[i].kind==5) then some (d.rules[i].kind==5) else some (d.rules[i].kind==7)) (λO=>bd (α:=Int) (if O then bd (idx d.rules[i].kids 0) λG=>bd3 (c_E d G b at_) λ_ H _=>some H else bd (α:=Int) (if (d.rules[i].kind==8) then some (d_ (at_:Int) 1) else some (at_:Int)) (λY=>some Y)) some)=some ((a_n d.rules d.rules[i] at_:Nat):Int)):=by
 have hMX:=MXv;have hr:=a_R hv hi;obtain ⟨ks,e,h⟩:=g_B hv hi ha hok;have hst:=h.st
 rw [g_A hv hi ha] at hok
 generalize d.rules[i]=r at *
 unfold a_n at *
 have main:r.kind=5∨r.kind=7->bd (idx r.kids 0) (λG=>bd3 (c_E d G b at_) λV H W=>some H)=some (((at_+(w_ d.rules<|f_ r).size.toNat:Nat)):Int):=by
  intro J
  have hlim:0<lim d.rules (f_ r)/\0<r.kids.length:=by
   rcases J with h | h
   .have:=b_x hr.kind h;exact ⟨this.1,by omega⟩
   .have:=b_U hr.kind h;exact ⟨this.1,by omega⟩
  have hq:=b_I hlim.1
  rw [b_G hlim.2,bd_some,j_h hq.1 hq.2 (by omega) ha]
  cases hi:a_5 b (w_ d.rules<|f_ r) at_ with
  | some n=>rfl
  | none =>
   exfalso
   unfold rdB a_8 at hok
   rcases J with h | h <;> rw [h,hi] at hok <;> cases hok
 by_cases h5:r.kind=5
 .have:=main<|.inl h5
  rw [h5]
  simp only [bQ_,fT_,bd_some,Bool.true_or]
  rw [this];rfl
 by_cases I:r.kind=7
 .have:=main<|.inr I
  rw [I]
  simp only [show ((7:Int)==5)=false from rfl,bF_,fF_,bQ_,fT_,bd_some,Bool.false_or]
  rw [this];rfl
 rw [show (r.kind==5)=false by simpa using h5,show (r.kind==7)=false by simpa using I]
 by_cases L:r.kind=8
 .rw [L]
  simp only [bF_,fF_,bd_some,bQ_,fT_,Bool.or_self]
  rw [ia_ (by omega) (by omega)];rfl
 .rw [show (r.kind==8)=false by simpa using L]
  rfl
theorem r_e (hv:I_ d=true)(hb:b.length<=400){i:Nat}(hi:i<d.rules.length){at_:Nat}(ha:at_<=b.length) :
  (bd (α:=Bool) (if (d.rules[i].kind==5) then some (d.rules[i].kind==5) else some (d.rules[i].kind==7)) (λL=>bd (α:=Int) (if L then bd (idx d.rules[i].kids 0) λG=>bd (idx d.rules G) λH=>some (d_ (at_:Int) H.size) else bd (α:=Int) (if (d.rules[i].kind==8) then some (d_ (at_:Int) 1) else some (at_:Int)) (λO=>some O)) some))=some ((a_n d.rules d.rules[i] at_:Nat):Int):=by
 have hr:=a_R hv hi;generalize d.rules[i]=r at *
 unfold a_n
 have main:r.kind=5∨r.kind=7->bd (idx r.kids 0) (λG=>bd (idx d.rules G) λH=>some<|d_ (at_:Int) H.size)=some (((at_+(w_ d.rules<|f_ r).size.toNat:Nat)):Int):=by
  intro V
  have hlim:0<lim d.rules (f_ r)/\0<r.kids.length:=by
   rcases V with h | h
   .have:=b_x hr.kind h;exact ⟨this.1,by omega⟩
   .have:=b_U hr.kind h;exact ⟨this.1,by omega⟩
  have hq:=b_I hlim.1;obtain ⟨_,h1,h4⟩:=hq.2
  rw [b_G hlim.2,bd_some,hq.1,bd_some,ia_ (by omega) (by omega)]
  congr 1
  omega
 by_cases h5:r.kind=5
 .have:=main<|.inl h5
  rw [h5]
  simp only [bQ_,fT_,bd_some,Bool.true_or]
  rw [this];rfl
 by_cases I:r.kind=7
 .have:=main<|.inr I
  rw [I]
  simp only [show ((7:Int)==5)=false from rfl,bF_,fF_,bQ_,fT_,bd_some,Bool.false_or]
  rw [this];rfl
 rw [show (r.kind==5)=false by simpa using h5,show (r.kind==7)=false by simpa using I]
 by_cases J:r.kind=8
 .rw [J]
  simp only [bF_,fF_,bd_some,bQ_,fT_,Bool.or_self]
  rw [ia_ (by omega) (by omega)];rfl
 .rw [show (r.kind==8)=false by simpa using J]
  rfl
end
end Go.Vw
namespace Go.Vw
open Go.RowKit Dat
section
variable {d:b_}{b:Bt}
theorem m_6 {n:Nat}(hv:I_ d=true){i:Nat}(hi:i<d.rules.length)(hb:b.length<=400)(hn:30<=n){ks:List Int}{num:Int}(hitem:∀j (hj:j<ks.length),v_ d.rules[i] num j=ks[j])(hkk:∀k∈ks,0<=k/\k<(i:Int))(a2:ks.length<=40){path:Str}(hpath:path.b.length+32<=1000000)
  (ih:∀k,k<i->∀p q,p<=b.length->(rdW d.rules b k p).2.2=0->q.b.length<=path.b.length+22->j_A n d k b p q=some (ixW d.rules b k p q,((rdW d.rules b k p).2.1:Int)))
  (body:Nat->(List z_)×Int->Option (Out ((List z_)×Int)<|(List z_)×Int)) (hbd:body=(λH=>un2 λO V=>bd (cat path (⟨[47]⟩:Str)) λW=>bd (a_E d.rules[i] num ((H:Nat):Int)) λY=>bd (g_G n d.rules[i] ((H:Nat):Int)) λa0=>bd (cat W a0) λa1=>bd2 ((e_o n).spec_l19Build d Y b V a1) λI J=>bd (app O I) λL=>some<|.next (L,J))) :
  ∀m k (pos:Nat) (vs:List Val) (e:Nat) (out:List z_),k+m=ks.length->out.length<=1+k * 10000->d_F (λk p=>rdW d.rules b k.toNat p) b.length (ks.drop k) pos vs e ->
  n_ body m k (out,(pos:Int))=some (.inl (out++ixL (λk p q=>ixW d.rules b k.toNat p q) (λk p=>(rdW d.rules b k.toNat p).2.1) d.rules[i] path (ks.drop k) k pos,(e:Int)))
 | 0,k,pos,vs,e,out,hk,_,hch=>by
  rw [List.drop_of_length_le (by omega)] at *
  rw [hch.2]
  simp [n_,ixL]
 | m+1,k,pos,vs,e,out,hk,ho,hch=>by
  have hLIM:=a_9;have hr:=a_R hv hi;have hlt:k<ks.length:=by omega
  rw [dC_ hlt] at *
  obtain ⟨hp,G,ws,_,hrest⟩:=hch
  simp only at G hrest
  have hkr:=hkk _<|gE_ hlt;have hst:=k_Y hr.kind k (by omega);have hsm:=k_Z hv hb (show ks[k].toNat<d.rules.length by omega) (c_D d.rules[i] path k) hp G
  have hone:body k (out,(pos:Int))=some (.next (out++ixW d.rules b ks[k].toNat pos (c_D d.rules[i] path k),((rdW d.rules b ks[k].toNat pos).2.1:Int))):=by
   rw [hbd]
   simp only [un2]
   rw [d_H (by simp only [lC_,List.length_nil];omega),bd_some,d_B<|c_g hr.kind,bd_some,hitem k hlt,r_a hn _ k (by omega),bd_some,d_H (by simp only [List.length_append,lC_,List.length_nil];omega),bd_some]
   have hrec:=ih ks[k].toNat (by omega) pos (c_D d.rules[i] path k) hp G (n_b hr.kind (by omega))
   rw [show ((ks[k].toNat:Nat):Int)=ks[k] by omega] at hrec
   rw [show (e_o n).spec_l19Build d ks[k] b (pos:Int) ⟨path.b++[47]++(d_f d.rules[i] k).b⟩=j_A n d ks[k] b (pos:Int) (c_D d.rules[i] path k) from rfl,hrec]
   simp only [bd2_some]
   rw [c_h (by omega),bd_some]
  unfold n_ ixL
  rw [hone]
  simp only
  rw [m_6 hv hi hb hn hitem hkk a2 hpath ih body hbd m (k+1) _ ws e _ (by omega) (by rw [List.length_append];omega) hrest]
  simp
theorem p_O (hv:I_ d=true)(hd:SmD d)(hb:b.length<=400):∀(i:Nat)(_:i<d.rules.length),∀n,4 * i+600<=n->∀(at_:Nat)(path:Str),at_<=b.length->(rdW d.rules b i at_).2.2=0->path.b.length+22 * i+32<=1000000 ->
  j_A n d i b at_ path=some (ixW d.rules b i at_ path,((rdW d.rules b i at_).2.1:Int)):=by
 intro i
 induction i using Nat.strongRecOn with
 | _ i ih =>
  intro hi n hn at_ path ha hok hpath;have hlen:=(b_5 hv).2;obtain ⟨m,rfl⟩:∃m,n=m+1:=⟨n - 1,by omega⟩;obtain ⟨ks,e,h⟩:=g_B hv hi ha hok;have hkk:∀k∈ks,0<=k/\k<(i:Int):=λk hk=>(a_R hv hi).kids k (h.kids k hk)
  show i_f m (e_o m) d i b at_ path=_
  unfold i_f
  rw [ix_ hi,bd_some,m_D hv hd hb i hi m (by omega) at_ ha]
  unfold b_y
  simp only [bd3_some]
  have hs:=n_c hv hb hi ha hok
  rw [j_u hv hi h path]
  have hcl:=j_r h.ch
  rw [hcl]
  -- the start's text is that of start_eq
  have tail:∀(f:Int->Option (List z_×Int)),bd (α:=Bool) (if (d.rules[i].kind==5) then some (d.rules[i].kind==5) else some (d.rules[i].kind==7)) (λJ=>bd (α:=Int) (if J then bd (idx d.rules[i].kids 0) λG=>bd3 (c_E d G b at_) λL H O=>some H else bd (α:=Int) (if (d.rules[i].kind==8) then some (d_ (at_:Int) 1) else some (at_:Int)) (λI=>some I)) f)=f ((a_n d.rules d.rules[i] at_:Nat):Int):=by
   intro f;generalize (if (d.rules[i].kind==5) then some (d.rules[i].kind==5) else some (d.rules[i].kind==7))=o at *
   cases o with
   | none=>cases hs
   | some x =>
    simp only [bd_some] at hs ⊢
    revert hs;generalize (if x then bd (idx d.rules[i].kids 0) λG=>bd3 (c_E d G b at_) λL H O=>some H else bd (α:=Int) (if (d.rules[i].kind==8) then some (d_ (at_:Int) 1) else some (at_:Int)) (λI=>some I))=V;intro hs
    cases V with
    | none=>cases hs
    | some y=>simp only [bd_some] at hs ⊢;rw [Option.some.inj hs]
  rw [tail]
  have hloop:=m_6 (n:=m) hv hi hb (by omega) h.item hkk h.small (path:=path) (by omega) (λk hk p q hp W hq=>ih k hk (by omega) m (by omega) p q hp W (by omega)) _ rfl ks.length 0 (a_n d.rules d.rules[i] at_) (rdW d.rules b i at_).1.items e [(⟨path,(i:Int),(at_:Int),((rdW d.rules b i at_).2.1:Int)⟩:z_)] (by omega) (by simp) (by rw [List.drop_zero];exact h.ch)
  rw [hloop]
  rfl
theorem m_7 {n:Nat}(hv:I_ d=true)(hd:SmD d){i:Nat}(hi:i<d.rules.length)(hb:b.length<=400)(hn:30<=n){ks:List Int}{v:Val}(hitem:∀j (hj:j<ks.length),v_ d.rules[i] v.number j=ks[j])(hkk:∀k∈ks,0<=k/\k<(i:Int))(a3:ks.length<=40){path:Str}(hpath:path.b.length+32<=1000000)(B:Nat)
  (ih:∀k,k<i->∀p q (L:List z_),p<=b.length->(rdW d.rules b k p).2.2=0->q.b.length<=path.b.length+22->L.length<=B+400001->i_i n ⟨⟨d.rules⟩,b,L⟩ q k (rdW d.rules b k p).1 p=some (((rdW d.rules b k p).2.1:Int),L++ixW d.rules b k p q))
  (body:Nat->Int×(List z_)->Option (Out (Int×(List z_))<|Int×(List z_))) (hbd:body=(λG=>un2 λI J=>bd (cat path (⟨[47]⟩:Str)) λO=>bd (idx v.items ((G:Nat):Int)) λV=>bd (f_s n (⟨d.rules⟩:b_) i ((G:Nat):Int)) λW=>bd (cat O W) λY=>bd (c_T (⟨d.rules⟩:b_) i v ((G:Nat):Int)) λa0=>bd2 ((e_p n).impl_indexer_part (⟨(⟨d.rules⟩:b_),b,J⟩:c_Z) Y a0 V I) λa1 a2=>some<|.next (a1,a2))) :
  ∀m k (pos:Nat) (vs:List Val) (e:Nat) (out:List z_),k+m=ks.length->out.length<=B+1+k * 10000->v.items.drop k=vs->d_F (λk p=>rdW d.rules b k.toNat p) b.length (ks.drop k) pos vs e ->
  n_ body m k ((pos:Int),out)=some (.inl ((e:Int),out++ixL (λk p q=>ixW d.rules b k.toNat p q) (λk p=>(rdW d.rules b k.toNat p).2.1) d.rules[i] path (ks.drop k) k pos))
 | 0,k,pos,vs,e,out,hk,_,_,hch=>by
  rw [List.drop_of_length_le (by omega)] at hch ⊢
  rw [hch.2]
  simp [n_,ixL]
 | m+1,k,pos,vs,e,out,hk,ho,hvs,hch=>by
  have hLIM:=a_9;have hr:=a_R hv hi;have hlt:k<ks.length:=by omega
  rw [dC_ hlt] at hch ⊢
  obtain ⟨hp,H,ws,hws,hrest⟩:=hch
  simp only at H hrest hws
  have hkr:=hkk _<|gE_ hlt;have hst:=k_Y hr.kind k (by omega)
  rw [hws] at hvs
  have hlv:k<v.items.length:=by
   rcases Nat.lt_or_ge k v.items.length with h | h
   .exact h
   .rw [List.drop_of_length_le h] at hvs;cases hvs
  rw [dC_ hlv] at hvs
  obtain ⟨a4,a5⟩:=List.cons.inj hvs;have hsm:=k_Z hv hb (show ks[k].toNat<d.rules.length by omega) (c_D d.rules[i] path k) hp H
  have hone:body k ((pos:Int),out)=some (.next (((rdW d.rules b ks[k].toNat pos).2.1:Int),out++ixW d.rules b ks[k].toNat pos (c_D d.rules[i] path k))):=by
   rw [hbd]
   simp only [un2]
   have e3:c_T (⟨d.rules⟩:b_) i v (k:Int)=some (v_ d.rules[i] v.number k):=j_l (d:=⟨d.rules⟩) (ix_ hi) (c_g hr.kind) v k;have e4:f_s n (⟨d.rules⟩:b_) i (k:Int)=some (d_f d.rules[i] k):=r_b (d:=d) hv hd hn hi k
   rw [d_H (by simp only [lC_,List.length_nil];omega),bd_some,ix_ hlv,bd_some,e4,bd_some,d_H (by simp only [List.length_append,lC_,List.length_nil];omega),bd_some,e3,bd_some,hitem k hlt]
   have hrec:=ih ks[k].toNat (by omega) pos (c_D d.rules[i] path k) out hp H (n_b hr.kind (by omega)) (by omega)
   rw [show ((ks[k].toNat:Nat):Int)=ks[k] by omega] at hrec
   rw [a4,show (e_p n).impl_indexer_part (⟨⟨d.rules⟩,b,out⟩:c_Z) ⟨path.b++[47]++(d_f d.rules[i] k).b⟩ ks[k] (rdW d.rules b ks[k].toNat pos).1 (pos:Int)=i_i n ⟨⟨d.rules⟩,b,out⟩ (c_D d.rules[i] path k) ks[k] (rdW d.rules b ks[k].toNat pos).1 (pos:Int) from rfl,hrec]
   rfl
  unfold n_ ixL
  rw [hone]
  simp only
  rw [m_7 hv hd hi hb hn hitem hkk a3 hpath B ih body hbd m (k+1) _ ws e _ (by omega) (by rw [List.length_append];omega) a5 hrest]
  simp
theorem p_P (hv:I_ d=true)(hd:SmD d)(hb:b.length<=400):∀(i:Nat)(_:i<d.rules.length),∀n,4 * i+600<=n->∀(at_:Nat)(path:Str)(L:List z_),at_<=b.length->(rdW d.rules b i at_).2.2=0->path.b.length+22 * i+32<=1000000->L.length+i * 400001<=40000000 ->
  i_i n ⟨⟨d.rules⟩,b,L⟩ path i (rdW d.rules b i at_).1 at_=some (((rdW d.rules b i at_).2.1:Int),L++ixW d.rules b i at_ path):=by
 intro i
 induction i using Nat.strongRecOn with
 | _ i ih =>
  intro hi n hn at_ path L ha hok hpath hL;have hLIM:=a_9;have hlen:=(b_5 hv).2;obtain ⟨m,rfl⟩:∃m,n=m+1:=⟨n - 1,by omega⟩;obtain ⟨ks,e,h⟩:=g_B hv hi ha hok;have hkk:∀k∈ks,0<=k/\k<(i:Int):=λk hk=>(a_R hv hi).kids k (h.kids k hk)
  show i_h m (e_p m) ⟨⟨d.rules⟩,b,L⟩ path i (rdW d.rules b i at_).1 at_=_
  unfold i_h
  simp only
  rw [a_d (by omega),bd_some,show (⟨d.rules⟩:b_)=d from rfl,r_6 hd (by omega)]
  have J:okV d b (i:Int) (at_:Int)=true:=by
   unfold okV a_G
   rw [hv,dT_ (show (0:Int)<=(i:Int) by omega),dT_ (show (i:Int)<(d.rules.length:Int) by omega),dT_ (show (0:Int)<=(at_:Int) by omega),dT_ (show (at_:Int)<=(b.length:Int) by omega),dT_ (show (b.length:Int)<=400 by omega)]
   rfl
  have hrv:b_6 d i b at_=b_y (rdW d.rules b i at_):=by unfold b_6;rw [iP_ J];rfl
  rw [hrv]
  simp only [bd2_some]
  rw [ix_ hi,bd_some]
  have hs:=r_e hv hb hi ha
  rw [j_u hv hi h path]
  have hcl:=j_r h.ch
  rw [hcl]
  have tail:∀(f:Int->Option (Int×List z_)),bd (α:=Bool) (if (d.rules[i].kind==5) then some (d.rules[i].kind==5) else some (d.rules[i].kind==7)) (λO=>bd (α:=Int) (if O then bd (idx d.rules[i].kids 0) λG=>bd (idx d.rules G) λH=>some (d_ (at_:Int) H.size) else bd (α:=Int) (if (d.rules[i].kind==8) then some (d_ (at_:Int) 1) else some (at_:Int)) (λI=>some I)) f)=f ((a_n d.rules d.rules[i] at_:Nat):Int):=by
   intro f;generalize (if (d.rules[i].kind==5) then some (d.rules[i].kind==5) else some (d.rules[i].kind==7))=o at *
   cases o with
   | none=>cases hs
   | some x =>
    simp only [bd_some] at hs ⊢
    revert hs;generalize (if x then bd (idx d.rules[i].kids 0) λG=>bd (idx d.rules G) λH=>some (d_ (at_:Int) H.size) else bd (α:=Int) (if (d.rules[i].kind==8) then some (d_ (at_:Int) 1) else some (at_:Int)) (λI=>some I))=V;intro hs
    cases V with
    | none=>cases hs
    | some y=>simp only [bd_some] at hs ⊢;rw [Option.some.inj hs]
  rw [tail]
  have hloop:=m_7 (n:=m) hv hd hi hb (by omega) h.item hkk h.small (path:=path) (by omega) L.length (λk hk p q L' hp W hq hL'=>ih k hk (by omega) m (by omega) p q L' hp W (by omega) (by
   have:(k+1) * 400001<=i * 400001:=Nat.mul_le_mul_right _ hk
   rw [Nat.succ_mul] at this
   omega)) _ rfl ks.length 0 (a_n d.rules d.rules[i] at_) (rdW d.rules b i at_).1.items e (L++[(⟨path,(i:Int),(at_:Int),0⟩:z_)]) (by omega) (by simp) (by rw [List.drop_zero]) (by rw [List.drop_zero];exact h.ch)
  rw [show (⟨d.rules⟩:b_)=d from rfl] at hloop
  rw [hloop]
  simp only [bd_some,el_inl,un2,List.drop_zero]
  generalize ixL (λk p q=>ixW d.rules b k.toNat p q) (λk p=>(rdW d.rules b k.toNat p).2.1) d.rules[i] path ks 0 (a_n d.rules d.rules[i] at_)=X
  rw [ix_ (k:=L.length) (by simp),bd_some]
  have Y:(L++[(⟨path,(i:Int),(at_:Int),0⟩:z_)]++X)[L.length]'(by simp)=(⟨path,(i:Int),(at_:Int),0⟩:z_):=by simp
  rw [Y,f_l (by simp),bd_some]
  unfold b_y
  simp
def okF (d:b_)(b:Bt):Bool:=(c_C d b).2.2==0
def c_6 (d:b_)(b:Bt):List z_:=if okF d b then ixW d.rules b (d.rules.length - 1) 0 ⟨[]⟩ else []
theorem h_o (h:okF d b=true):I_ d=true/\b.length<=400/\d.rules.length - 1<d.rules.length/\a_z d=((d.rules.length - 1:Nat):Int)/\(rdW d.rules b (d.rules.length - 1) 0).2.2=0/\(c_C d b).1=(rdW d.rules b (d.rules.length - 1) 0).1/\c_C d b=b_y (rdW d.rules b (d.rules.length - 1) 0):=by
 unfold okF c_C at h
 have h1:¬((b_6 d (a_z d) b 0).2.2=0/\(b_6 d (a_z d) b 0).2.1<(b.length:Int)):=by
  intro hc;rw [iP_ hc] at h;simp at h
 rw [iN_ h1] at h
 have h2:(b_6 d (a_z d) b 0).2.2=0:=by simpa using h
 have h3:okV d b (a_z d) 0=true:=by
  rcases Bool.eq_false_or_eq_true (okV d b (a_z d) 0) with h | h
  .exact h
  .unfold b_6 at h2;rw [h] at h2;simp at h2
 obtain ⟨hv,hb,i,p,hi,hp,hil,_⟩:=j_s h3;have hl:=b_5 hv;have hroot:a_z d=((d.rules.length - 1:Nat):Int):=by unfold a_z;omega
 have e:b_6 d (a_z d) b 0=b_y (rdW d.rules b (d.rules.length - 1) 0):=by
  unfold b_6;rw [iP_ h3,hroot];rfl
 have G:c_C d b=b_y (rdW d.rules b (d.rules.length - 1) 0):=by unfold c_C;rw [iN_ h1,e]
 refine ⟨hv,hb,by omega,hroot,?_,?_,G⟩
 .rw [e] at h2;exact h2
 .rw [G];rfl
theorem p_Q (hd:SmD d){n:Nat}(hn:500<=n):h_T n d b=some (okF d b):=by
 unfold h_T okF
 rw [r_8 hd hn];rfl
theorem p_R (hd:SmD d){n:Nat}(hn:1000<=n):i_g n d b=some (c_6 d b,okF d b):=by
 unfold i_g c_6
 rw [p_Q hd (by omega)]
 cases h:okF d b
 .rfl
 .obtain ⟨hv,hb,hlt,hroot,hok,_⟩:=h_o h;have hl:=b_5 hv
  rw [h_t hd,hroot]
  have:=p_O hv hd hb (d.rules.length - 1) hlt n (by omega) 0 ⟨[]⟩ (by omega) hok (by simp;omega)
  rw [show (((0:Nat)):Int)=0 from rfl] at this
  simp only [bd_some,nT_,bF_,fF_]
  rw [this];rfl
theorem p_S (hd:SmD d){n:Nat}(hn:1000<=n):i_j n d b=some (c_6 d b,okF d b):=by
 unfold i_j c_6
 rw [r_7 hd (by omega)]
 cases h:okF d b
 .have h2:(c_C d b).2.2 ≠ 0:=by unfold okF at h;simpa using h
  generalize c_C d b=x at h2
  show (if (x.2.2 != 0) then _ else _)=_
  rw [show (x.2.2 != 0)=true by simpa using h2];rfl
 .obtain ⟨hv,hb,hlt,hroot,hok,G,hrf⟩:=h_o h;have hl:=b_5 hv
  rw [hrf]
  show (if ((rdW d.rules b (d.rules.length - 1) 0).2.2 != 0) then _ else _)=_
  rw [hok]
  simp only [bN_,bF_,fF_]
  rw [j_t hd,hroot,bd_some]
  have:=p_P hv hd hb (d.rules.length - 1) hlt n (by omega) 0 ⟨[]⟩ [] (by omega) hok (by simp;omega) (by simp;omega)
  rw [show (((0:Nat)):Int)=0 from rfl] at this
  show bd2 (i_i n ⟨⟨d.rules⟩,b,[]⟩ ⟨[]⟩ ((d.rules.length - 1:Nat):Int) (rdW d.rules b (d.rules.length - 1) 0).1 0) _=_
  rw [this];rfl
end
end Go.Vw
