import Derived.Test.YtgpgenigfncgeaaGreatDoorV4
namespace Go.Vw
open Go.RowKit Dat
theorem n_6 (rd:Int->Nat->RR)(k:Int)(p:Nat):(S_ rd [k] p).2=((rd k p).2.1,(rd k p).2.2):=by
 unfold S_
 by_cases h:(rd k p).2.2=0
 .rw [iP_ h];simp [S_,h]
 .rw [iN_ h]
section
variable {d:f_}{b:Bt}
theorem q_i {rec_:a_5->Int->Int->Option (T_×Int)}{ks:List Int}(rd:Int->Nat->RR)(L:Nat)
  (ih:∀k∈ks,∀(ap:Int)(p:Nat),p<=L->∃ap',rec_ ⟨⟨d.rules⟩,b,ap⟩ k p=some (⟨((rd k p).2.1:Int),(rd k p).2.2⟩,ap')) (hle:∀k∈ks,∀p,p<=L->(rd k p).2.1<=L) :
  ∀m k (ap:Int) (p:Nat),k+m=ks.length->p<=L->∃ap',u_ (σ:=Int×Int×Int) (ρ:=T_×Int) (λJ=>un3 λO V a0=>bd (idx ks ((J:Nat):Int)) λW=>bd2 (rec_ (⟨(⟨d.rules⟩:f_),b,O⟩:a_5) W V) λh H=>if (h.code != 0) then some (.brk (H,h.at_,h.code)) else some (.next (H,h.at_,h.code))) m k (ap,(p:Int),0)=some (.inl (ap',((S_ rd (ks.drop k) p).2.1:Int),(S_ rd (ks.drop k) p).2.2))
 | 0,k,ap,p,hk,_=>by
  rw [List.drop_of_length_le (by omega)]
  exact ⟨ap,rfl⟩
 | m+1,k,ap,p,hk,hp=>by
  have hlt:k<ks.length:=by omega
  have hmem:=gE_ hlt
  rw [dC_ hlt]
  unfold u_ S_;obtain ⟨I,h1⟩:=ih ks[k] hmem ap p hp
  simp only [un3]
  rw [ix_ hlt,bd_some,h1]
  simp only [bd2_some]
  by_cases G:(rd ks[k] p).2.2=0
  .rw [show ((rd ks[k] p).2.2 != 0)=false by simpa using G,iP_ G]
   obtain ⟨Y,h2⟩:=q_i rd L ih hle m (k+1) I (rd ks[k] p).2.1 (by omega) (hle _ hmem p hp);refine ⟨Y,?_⟩
   simp only [bF_,fF_]
   rw [G,h2]
   by_cases h3:(S_ rd (ks.drop<|k+1) (rd ks[k] p).2.1).2.2=0
   .rw [iP_ h3,h3]
   .rw [iN_ h3]
  .rw [show ((rd ks[k] p).2.2 != 0)=true by simpa using G,iN_ G]
   exact ⟨I,rfl⟩
theorem q_j {rec_:a_5->Int->Int->Option (T_×Int)}{ks:List Int}{kid:Int}(hkid:idx ks 1=some kid)(rd:Int->Nat->RR)(L:Nat)
  (ih:∀(ap:Int)(p:Nat),p<=L->∃ap',rec_ ⟨⟨d.rules⟩,b,ap⟩ kid p=some (⟨((rd kid p).2.1:Int),(rd kid p).2.2⟩,ap')) (hle:∀p,p<=L->(rd kid p).2.1<=L) :
  ∀(c:Nat)(ap:Int)(p:Nat),p<=L->c<=40->∀n,c+2<=n->∃x ap',I_ (σ:=Int×Int×Int×Int) (ρ:=T_×Int) (un4 λG H I J=>bd (α:=Bool) (if (decide<|0<G) then some (J==0) else some false) (λW=>if W then bd (idx ks 1) λY=>bd2 (rec_ (⟨(⟨d.rules⟩:f_),b,H⟩:a_5) Y I) λO a0=>some (.next (w_ G 1,a0,O.at_,O.code)) else some (.brk (G,H,I,J)))) n ((c:Int),ap,(p:Int),0)=some (.inl (x,ap',((S_ rd (List.replicate c kid) p).2.1:Int),(S_ rd (List.replicate c kid) p).2.2))
 | 0,ap,p,hp,hc,n,hn=>by
  obtain ⟨m,rfl⟩:∃m,n=m+1:=⟨n - 1,by omega⟩;exact ⟨0,ap,rfl⟩
 | c+1,ap,p,hp,hc,n,hn=>by
  obtain ⟨m,rfl⟩:∃m,n=m+2:=⟨n - 2,by omega⟩;obtain ⟨V,h1⟩:=ih ap p hp
  rw [List.replicate_succ]
  unfold I_ S_
  simp only [un4]
  rw [dT_ (show (0:Int)<((c+1:Nat):Int) by omega),hkid]
  simp only [fT_,bd_some,bQ_]
  rw [h1]
  simp only [bd2_some]
  rw [a_y (x:=((c+1:Nat):Int)) (by omega) (by omega),show ((c+1:Nat):Int) - 1=(c:Int) by omega]
  by_cases h:(rd kid p).2.2=0
  .rw [iP_ h]
   obtain ⟨x,a1,h2⟩:=q_j hkid rd L ih hle c V (rd kid p).2.1 (hle p hp) (by omega) (m+1) (by omega);refine ⟨x,a1,?_⟩
   simp only [hkid,bd_some] at h2
   rw [h]
   rw [h2]
   by_cases h3:(S_ rd (List.replicate c kid) (rd kid p).2.1).2.2=0
   .rw [iP_ h3,h3]
   .rw [iN_ h3]
  .rw [iN_ h]
   refine ⟨(c:Int),V,?_⟩;unfold I_
   simp only [un4]
   rw [show ((rd kid p).2.2==0)=false by simpa using h]
   cases decide (0<(c:Int)) <;> rfl
theorem v_s (hv:a_9 d=true)(hd:SmD d)(hb:b.length<=400):∀(i:Nat),i<d.rules.length->∀n,3 * i+410<=n->∀at_,at_<=b.length->∀ap,∃ap',q_O n ⟨d,b,ap⟩ i at_=some (⟨((rdW d.rules b i at_).2.1:Int),(rdW d.rules b i at_).2.2⟩,ap'):=by
 have hMX:=MXv;intro i
 induction i using Nat.strongRecOn with
 | _ i ih =>
  intro hi n hn at_ ha ap;have hlen:=(c_J hv).2;obtain ⟨m,rfl⟩:∃m,n=m+3:=⟨n - 3,by omega⟩
  rw [g_C hv hi ha]
  have hr:=c_2 hv hi;have hal:=g_B hr.kind;have hsm:=hd.each d.rules[i] (gE_ hi);have hidx:idx d.rules (i:Int)=some d.rules[i]:=ix_ hi;generalize hrr:d.rules[i]=r at *
  have hkk:=h_Z hr.kind
  show ∃ap',i_z (m+2) (a_E<|m+2) ⟨d,b,ap⟩ i at_=_
  unfold i_z rdB
  simp only
  rw [hidx,bd_some]
  have hle:∀k∈r.kids,∀p,p<=b.length->p<=(rdW d.rules b k.toNat p).2.1/\(rdW d.rules b k.toNat p).2.1<=b.length:=λk hk p hp=>by
   have:=hr.kids k hk;exact d_A hv k.toNat (by omega) p hp
  have hrec:∀q,m<=q->∀k∈r.kids,∀(ap:Int)(p:Nat),p<=b.length->∃ap',(a_E q).impl_checker_value ⟨⟨d.rules⟩,b,ap⟩ k p=some (⟨((rdW d.rules b k.toNat p).2.1:Int),(rdW d.rules b k.toNat p).2.2⟩,ap'):=λq hq k hk ap p hp=>by
   have:=hr.kids k hk;have h:=ih k.toNat (by omega) (by omega) q (by omega) p hp ap
   rw [show ((k.toNat:Nat):Int)=k by omega] at h
   exact h
  by_cases h1:r.kind=1
  .rw [h1];simp only [bQ_,fT_]
   rw [k_N hidx (h_W hr.kind h1) (by omega) ha]
   cases a_f b r at_ <;> exact ⟨_,rfl⟩
  rw [show (r.kind==1)=false by simpa using h1]
  by_cases h2:r.kind=2
  .rw [h2];simp only [bQ_,fT_,bF_,fF_]
   rw [u_6 (by omega) ha hsm.bytes]
   exact ⟨_,rfl⟩
  rw [show (r.kind==2)=false by simpa using h2]
  by_cases h3:r.kind=3
  .rw [h3];simp only [bQ_,fT_,bF_,fF_]
   have:=h_X hr.kind h3
   rw [h_T (by omega) ha (by omega) (by omega)]
   unfold a_Z
   split <;> exact ⟨_,rfl⟩
  rw [show (r.kind==3)=false by simpa using h3]
  by_cases h4:r.kind=4
  .rw [h4];simp only [bQ_,fT_,bF_,fF_]
   have hs:=h_Y hr.kind h4;have hq:=c_A hs.1
   rw [c_8 (by omega),bd_some,k_N hq.1 hq.2 (by omega) ha]
   cases hi:a_f b (N_ d.rules<|A_ r) at_ with
   | none=>exact ⟨_,rfl⟩
   | some num =>
    have hrg:=c_H hq.2 hi
    simp only [bd3_some,bN_,bF_,fF_]
    rw [h_T (by omega) (by omega) (by omega) (by omega)]
    unfold a_Z
    split <;> exact ⟨_,rfl⟩
  rw [show (r.kind==4)=false by simpa using h4]
  by_cases O:r.kind=10
  .rw [O];simp only [bQ_,fT_,bF_,fF_,show ((10:Int)==5)=false from rfl,show ((10:Int)==6)=false from rfl,show ((10:Int)==7)=false from rfl,show ((10:Int)==8)=false from rfl,show ((10:Int)==9)=false from rfl]
   have V:=n_1 hr.kind O
   rw [b_W (by omega),bd_some,a_H (show 0<r.bytes.length by omega),o_Z _ _ _ _ (by omega) ha (by omega)]
   cases d_w b at_ r.bytes[0] with
   | none=>exact ⟨_,rfl⟩
   | some x=>exact ⟨_,rfl⟩
  rw [show (r.kind==10)=false by simpa using O]
  by_cases h5:r.kind=5
  .rw [h5];simp only [bQ_,fT_,bF_,fF_]
   have hs:=f_1 hr.kind h5;have hq:=c_A hs.1;have hmem:r.kids.getD 1 0∈r.kids:=c_n (by omega)
   rw [show (a_E<|m+2).impl_checker_array=i_A (m+1) (a_E<|m+1) from rfl]
   unfold i_A
   simp only
   rw [c_8 (by omega),bd_some,k_N hq.1 hq.2 (by omega) ha]
   have hhd:a_h d.rules b r at_=(match a_f b (N_ d.rules<|A_ r) at_ with | none=>.inl 1 | some n=>if 40<n then .inl 6 else .inr (0,List.replicate n.toNat<|r.kids.getD 1 0,at_+(N_ d.rules<|A_ r).size.toNat)):=by unfold a_h;rw [h5];rfl
   rw [hhd]
   cases hi:a_f b (N_ d.rules<|A_ r) at_ with
   | none=>exact ⟨_,rfl⟩
   | some num =>
    have hrg:=c_H hq.2 hi
    simp only [bd3_some,bQ_,fT_,bd_some]
    by_cases J:40<num
    .rw [dT_ J,iP_ J];exact ⟨_,rfl⟩
    .rw [dF_ J,iN_ J]
     simp only [bF_,fF_]
     obtain ⟨x,ap',h⟩:=q_j (d:=d) (b:=b) (rec_:=(a_E<|m+1).impl_checker_value) (ks:=r.kids) (kid:=r.kids.getD 1 0) (by rw [n_d (by omega),a_H (by omega)]) (λk p=>rdW d.rules b k.toNat p) b.length (λap p hp=>hrec (m+1) (by omega) _ hmem ap p hp) (λp hp=>(hle _ hmem p hp).2) num.toNat (b_ (b_ ap 1) 1) (at_+(N_ d.rules<|A_ r).size.toNat) (by omega) (by omega) (m+1) (by omega)
     rw [show ((num.toNat:Nat):Int)=num by omega] at h
     rw [h]
     unfold b_i;generalize S_ (λk p=>rdW d.rules b k.toNat p) (List.replicate num.toNat<|r.kids.getD 1 0) (at_+(N_ d.rules<|A_ r).size.toNat)=y
     rw [h5]
     refine ⟨ap',?_⟩
     by_cases G:y.2.2=0
     .rw [iP_ G,G];rfl
     .rw [iN_ G];rfl
  rw [show (r.kind==5)=false by simpa using h5]
  by_cases h6:r.kind=6
  .rw [h6];simp only [bQ_,fT_,bF_,fF_]
   have hs:=g_A hr.kind h6;obtain ⟨ap',h⟩:=q_i (d:=d) (b:=b) (rec_:=(a_E<|m+2).impl_checker_value) (ks:=r.kids) (λk p=>rdW d.rules b k.toNat p) b.length (λk hk ap p hp=>hrec (m+2) (by omega) k hk ap p hp) (λk hk p hp=>(hle k hk p hp).2) r.kids.length 0 (b_ ap 1) at_ (by omega) ha
   rw [h]
   rw [show a_h d.rules b r at_ = .inr (0,r.kids,at_) by unfold a_h;rw [h6];rfl]
   simp only
   unfold b_i
   rw [List.drop_zero]
   generalize S_ (λk p=>rdW d.rules b k.toNat p) r.kids at_=y
   rw [h6]
   refine ⟨ap',?_⟩
   by_cases G:y.2.2=0
   .rw [iP_ G,G];rfl
   .rw [iN_ G];rfl
  rw [show (r.kind==6)=false by simpa using h6]
  by_cases I:r.kind=7
  .rw [I];simp only [bQ_,fT_,bF_,fF_]
   have hs:=f_D hr.kind I;have hq:=c_A hs.1
   rw [show (a_E<|m+2).impl_checker_choice=i_B (m+1) (a_E<|m+1) from rfl]
   unfold i_B
   simp only
   rw [c_8 (by omega),bd_some,k_N hq.1 hq.2 (by omega) ha]
   have hhd:a_h d.rules b r at_=(match a_f b (N_ d.rules<|A_ r) at_ with | none=>.inl 1 | some n=>match b_F r.tags n with | none=>.inl 3 | some k=>.inr (n,[r.kids.getD (k+1) 0],at_+(N_ d.rules<|A_ r).size.toNat)):=by unfold a_h;rw [I];rfl
   rw [hhd]
   cases hi:a_f b (N_ d.rules<|A_ r) at_ with
   | none=>exact ⟨_,rfl⟩
   | some num =>
    have hrg:=c_H hq.2 hi
    simp only [bd3_some,bN_,bF_,fF_]
    cases ht:b_F r.tags num with
    | none =>
     have htn:=q_f ht
     rw [b_M (λ_=>()) (n:=r.tags.length) (λj hj=>by
      have:=htn j hj
      rw [a_H hj] at this
      rw [ix_ hj,bd_some,show (r.tags[j]==num)=false by simpa using this];rfl)]
     exact ⟨_,rfl⟩
    | some k =>
     obtain ⟨htl,hte,htb⟩:=q_e ht;have hmem:r.kids.getD (k+1) 0∈r.kids:=c_n (by omega);obtain ⟨ap',h⟩:=hrec (m+1) (by omega) _ hmem (b_ (b_ ap 1) 1) (at_+(N_ d.rules<|A_ r).size.toNat) (by omega)
     rw [n_e (λ_=>()) (n:=r.tags.length) (j0:=k) (r:=(⟨((rdW d.rules b (r.kids.getD (k+1) 0).toNat (at_+(N_ d.rules (A_ r)).size.toNat)).2.1:Int),(rdW d.rules b (r.kids.getD (k+1) 0).toNat (at_+(N_ d.rules (A_ r)).size.toNat)).2.2⟩,ap')) htl (λj hj=>by
      have:=htb j hj
      rw [a_H (show j<r.tags.length by omega)] at this
      rw [ix_ (show j<r.tags.length by omega),bd_some,show (r.tags[j]==num)=false by simpa using this];rfl) (by
      rw [a_H htl] at hte
      rw [ix_ htl,bd_some,show (r.tags[k]==num)=true by simpa using hte,iP_ rfl,ix_ (show k+1<r.kids.length by omega),bd_some,← a_H (x:=0) (show k+1<r.kids.length by omega),h]
      rfl)]
     simp only [bd_some,el_inr]
     unfold b_i;have ho:=n_6 (λk p=>rdW d.rules b k.toNat p) (r.kids.getD (k+1) 0)<|at_+(N_ d.rules<|A_ r).size.toNat;generalize S_ (λk p=>rdW d.rules b k.toNat p) [r.kids.getD (k+1) 0] (at_+(N_ d.rules<|A_ r).size.toNat)=y at ho
     rw [I,ho]
     refine ⟨ap',?_⟩
     by_cases G:(rdW d.rules b (r.kids.getD (k+1) 0).toNat (at_+(N_ d.rules<|A_ r).size.toNat)).2.2=0
     .rw [iP_ G,G];rfl
     .rw [iN_ G];rfl
  rw [show (r.kind==7)=false by simpa using I]
  by_cases H:r.kind=8
  .rw [H];simp only [bQ_,fT_,bF_,fF_]
   have hs:=e_6 hr.kind<|.inl H;have hmem:r.kids.getD 0 0∈r.kids:=c_n (by omega)
   rw [show (a_E<|m+2).impl_checker_option=i_C (m+1) (a_E<|m+1) from rfl]
   unfold i_C
   simp only
   have hhd:a_h d.rules b r at_=(match b[at_]? with | none=>.inl 1 | some c=>if 1<byteI c then .inl 4 else .inr (0,List.replicate c.toNat<|r.kids.getD 0 0,at_+1)):=by unfold a_h;rw [H];rfl
   rw [hhd,h_T (by omega) ha (by omega) (by omega)]
   by_cases hlt:at_<b.length
   .rw [iN_ (show ¬(b.length:Int) - at_<1 by omega),gG_ hlt]
    simp only [bd_some,bN_,bF_,fF_]
    rw [ix_ hlt]
    simp only [bd_some]
    by_cases hz:byteI b[at_]=0
    .rw [show (byteI b[at_]==byteI (0:UInt8))=true by rw [beq_iff_eq];exact hz,iN_ (show ¬1<byteI b[at_] by rw [hz];omega)]
     rw [show b[at_].toNat=0 by unfold byteI at hz;omega]
     unfold b_i
     rw [H]
     exact ⟨_,rfl⟩
    .rw [show (byteI b[at_]==byteI (0:UInt8))=false by rw [beq_eq_false_iff_ne];exact hz]
     simp only [bF_,fF_]
     by_cases hc:1<byteI b[at_]
     .rw [iP_ hc,dT_ (show byteI (1:UInt8)<byteI b[at_] from hc)];exact ⟨_,rfl⟩
     .rw [iN_ hc,dF_ (show ¬byteI (1:UInt8)<byteI b[at_] from hc)]
      simp only [bF_,fF_]
      rw [show b[at_].toNat=1 by unfold byteI at hz hc;omega]
      obtain ⟨ap',h⟩:=hrec (m+1) (by omega) _ hmem (b_ ap 1) (at_+1) (by omega)
      rw [b_W (by omega),bd_some,← a_H (x:=0) (show 0<r.kids.length by omega)]
      rw [show (1:Int).toNat=1 from rfl,h]
      unfold b_i;have ho:=n_6 (λk p=>rdW d.rules b k.toNat p) (r.kids.getD 0 0)<|at_+1
      rw [show List.replicate 1 (r.kids.getD 0 0)=[r.kids.getD 0 0] from rfl]
      generalize S_ (λk p=>rdW d.rules b k.toNat p) [r.kids.getD 0 0] (at_+1)=y at ho
      rw [H,ho]
      refine ⟨ap',?_⟩
      by_cases G:(rdW d.rules b (r.kids.getD 0 0).toNat (at_+1)).2.2=0
      .rw [iP_ G,G];rfl
      .rw [iN_ G];rfl
   .rw [iP_ (show (b.length:Int) - at_<1 by omega),gN_ (by omega)];exact ⟨_,rfl⟩
  rw [show (r.kind==8)=false by simpa using H]
  have L:r.kind=9:=by omega
  rw [L];simp only [bQ_,fT_,bF_,fF_]
  have hs:=e_6 hr.kind<|.inr L;have hmem:r.kids.getD 0 0∈r.kids:=c_n (by omega)
  rw [show (a_E<|m+2).impl_checker_checked=i_D (m+1) (a_E<|m+1) from rfl]
  unfold i_D
  simp only
  rw [show a_h d.rules b r at_ = .inr (0,[r.kids.getD 0 0],at_) by unfold a_h;rw [L];rfl]
  obtain ⟨ap',h⟩:=hrec (m+1) (by omega) _ hmem (b_ ap 1) at_ ha
  rw [b_W (by omega),bd_some,← a_H (x:=0) (show 0<r.kids.length by omega),h]
  simp only
  have hx:=hle _ hmem at_ ha;have ho:=n_6 (λk p=>rdW d.rules b k.toNat p) (r.kids.getD 0 0) at_;unfold b_i;generalize S_ (λk p=>rdW d.rules b k.toNat p) [r.kids.getD 0 0] at_=y at ho
  rw [L,ho]
  generalize rdW d.rules b (r.kids.getD 0 0).toNat at_=x at hx
  simp only [bd2_some]
  by_cases G:x.2.2=0
  .rw [iP_ G,show (x.2.2 != 0)=false by simpa using G]
   simp only [bF_,fF_,bQ_,fT_]
   rw [h_T (by omega) hx.2 (by omega) (by omega)]
   by_cases hlt:x.2.1<b.length
   .rw [iN_ (show ¬(b.length:Int) - x.2.1<1 by omega),gG_ hlt]
    simp only [bd_some,bQ_,fT_]
    rw [ix_ hlt,bd_some,d_x hx.1 (by omega),bd_some,m_D _ (by rw [e_T (by omega)];omega),bd_some]
    by_cases hsum:byteI b[x.2.1]=c_9 (a_m b at_ x.2.1)
    .rw [show (byteI b[x.2.1] != c_9 (a_m b at_ x.2.1))=false by simpa using hsum,iP_ hsum];exact ⟨_,rfl⟩
    .rw [show (byteI b[x.2.1] != c_9 (a_m b at_ x.2.1))=true by simpa using hsum,iN_ hsum];exact ⟨_,rfl⟩
   .rw [iP_ (show (b.length:Int) - x.2.1<1 by omega),gN_ (by omega)];exact ⟨_,rfl⟩
  .rw [iN_ G,show (x.2.2 != 0)=true by simpa using G]
   exact ⟨_,rfl⟩
end
end Go.Vw
namespace Go.Vw
open Go.RowKit Dat
section
variable {d:f_}{b:Bt}
theorem v_t {r:d_}{num:Int}{p:Nat}{x:List Val×Nat×Int}(h:(b_i b r num p x).2.2 ≠ 0):(b_i b r num p x).1=zV:=by
 unfold b_i at *
 split
 .rename_i H
  rw [iP_ H] at h
  split
  .rename_i G
   rw [iP_ G] at h
   cases hb:b[x.2.1]? with
   | none=>rfl
   | some c =>
    rw [hb] at h
    simp only at h ⊢
    split
    .rename_i hs;rw [iP_ hs] at h;exact absurd rfl h
    .rfl
  .rename_i G;rw [iN_ G] at h;exact absurd rfl h
 .rfl
theorem rdB_zV {rs:List d_}{r:d_}{p:Nat}{rd:Int->Nat->RR}(h:(rdB rs b r p rd).2.2 ≠ 0):(rdB rs b r p rd).1=zV:=by
 have hby:∀p n,(a_Z b p n).2.2 ≠ 0->(a_Z b p n).1=zV:=λp n h=>by
  unfold a_Z at *
  split
  .rfl
  .rename_i G;rw [iN_ G] at h;exact absurd rfl h
 unfold rdB at *
 split
 .rename_i h1;rw [iP_ h1] at h
  cases hd:a_f b r p with
  | none=>rfl
  | some n=>rw [hd] at h;exact absurd rfl h
 rename_i h1;rw [iN_ h1] at h
 split
 .rfl
 rename_i h2;rw [iN_ h2] at h
 split
 .rename_i h3;rw [iP_ h3] at h;exact hby _ _ h
 rename_i h3;rw [iN_ h3] at h
 split
 .rename_i h4;rw [iP_ h4] at h
  cases hd:a_f b (N_ rs<|A_ r) p with
  | none=>rfl
  | some n=>rw [hd] at h;exact hby _ _ h
 rename_i h4;rw [iN_ h4] at h
 split
 .rename_i h5;rw [iP_ h5] at h
  cases hd:d_w b p (r.bytes.getD 0 0) with
  | none=>rfl
  | some n=>rw [hd] at h;exact absurd rfl h
 rename_i h5;rw [iN_ h5] at h
 cases hh:a_h rs b r p with
 | inl c=>rfl
 | inr x=>rw [hh] at h;exact v_t h
theorem rdW_zV {i at_:Nat}(h:(rdW d.rules b i at_).2.2 ≠ 0):(rdW d.rules b i at_).1=zV:=by
 rw [rdW] at *;exact rdB_zV h
def e_x (rd:Int->Nat->RR)(L:Nat):List Int->Nat->List Val->Nat->Prop
 | [],p,vs,e=>vs=[]/\e=p
 | k::ks,p,vs,e=>p<=L/\(rd k p).2.2=0/\∃ws,vs=(rd k p).1::ws/\e_x rd L ks (rd k p).2.1 ws e
theorem q_k {rd:Int->Nat->RR}{L:Nat}:∀(ks:List Int)(p:Nat),p<=L->(∀k∈ks,∀p,p<=L->(rd k p).2.1<=L)->(S_ rd ks p).2.2=0->e_x rd L ks p (S_ rd ks p).1 (S_ rd ks p).2.1
 | [],p,_,_,_=>⟨rfl,rfl⟩
 | k::ks,p,hp,hle,h=>by
  unfold S_ at *
  by_cases G:(rd k p).2.2=0
  .rw [iP_ G] at *
   by_cases h1:(S_ rd ks (rd k p).2.1).2.2=0
   .rw [iP_ h1] at *
    exact ⟨hp,G,_,rfl,q_k ks _ (hle k mS_ p hp) (λk hk=>hle k<|mT_ _ hk) h1⟩
   .rw [iN_ h1] at h;exact absurd h h1
  .rw [iN_ G] at h;exact absurd h G
theorem l_0 {rd:Int->Nat->RR}{L:Nat}:∀{ks:List Int}{p:Nat}{vs:List Val}{e:Nat},e_x rd L ks p vs e->vs.length=ks.length
 | [],_,_,_,h=>by rw [h.1];rfl
 | _::_,_,_,_,h=>by obtain ⟨_,_,ws,rfl,h⟩:=h;simp [l_0 h]
def a_x (rs:List d_)(r:d_)(at_:Nat):Nat:=if r.kind==5 || r.kind==7 then at_+(N_ rs<|A_ r).size.toNat else if r.kind==8 then at_+1 else at_
theorem v_u {rs:List d_}{r:d_}{at_:Nat}(h:a_C rs r=true)(hk:5<=r.kind/\r.kind<=9){num:Int}{ks:List Int}{st:Nat}(hh:a_h rs b r at_ = .inr (num,ks,st)) :
  (∀j (hj:j<ks.length),b_h r num j=ks[j])/\st=a_x rs r at_/\(r.kind=9->num=0):=by
 unfold a_h at hh
 by_cases h5:r.kind=5
 .rw [h5] at hh
  simp only [bQ_,fT_] at hh
  cases hi:a_f b (N_ rs<|A_ r) at_ with
  | none=>rw [hi] at hh;cases hh
  | some n =>
   rw [hi] at hh
   simp only at hh
   split at hh
   .cases hh
   .cases hh
    refine ⟨λj hj=>by unfold b_h;rw [h5];simp,by unfold a_x;rw [h5];rfl,by omega⟩
 rw [show (r.kind==5)=false by simpa using h5] at hh
 by_cases h6:r.kind=6
 .rw [h6] at hh
  simp only [bF_,fF_,bQ_,fT_] at hh
  cases hh
  exact ⟨λj hj=>by unfold b_h;rw [h6];simp [hj],by unfold a_x;rw [h6];rfl,by omega⟩
 rw [show (r.kind==6)=false by simpa using h6] at hh
 by_cases G:r.kind=7
 .rw [G] at hh
  simp only [bF_,fF_,bQ_,fT_] at hh
  cases hi:a_f b (N_ rs<|A_ r) at_ with
  | none=>rw [hi] at hh;cases hh
  | some n =>
   rw [hi] at hh
   simp only at hh
   cases ht:b_F r.tags n with
   | none=>rw [ht] at hh;cases hh
   | some k =>
    rw [ht] at hh
    cases hh
    refine ⟨λj hj=>?_,by unfold a_x;rw [G];rfl,by omega⟩;have:j=0:=by simpa using hj
    subst this;unfold b_h;rw [G];simp [ht]
 rw [show (r.kind==7)=false by simpa using G] at hh
 by_cases H:r.kind=8
 .rw [H] at hh
  simp only [bF_,fF_,bQ_,fT_] at hh
  cases hi:b[at_]? with
  | none=>rw [hi] at hh;cases hh
  | some c =>
   rw [hi] at hh
   simp only at hh
   split at hh
   .cases hh
   .cases hh
    exact ⟨λj hj=>by unfold b_h;rw [H];simp,by unfold a_x;rw [H];rfl,by omega⟩
 rw [show (r.kind==8)=false by simpa using H] at hh
 simp only [bF_,fF_] at hh
 cases hh
 have I:r.kind=9:=by omega
 refine ⟨λj hj=>?_,by unfold a_x;rw [I];rfl,λ_=>rfl⟩;have:j=0:=by simpa using hj
 subst this;unfold b_h;rw [I];simp
structure RdOk (d:f_)(b:Bt)(r:d_)(at_:Nat)(x:RR)(ks:List Int)(e:Nat):Prop where
 item:∀j (hj:j<ks.length),b_h r x.1.number j=ks[j]
 kids:∀k∈ks,k∈r.kids
 small:ks.length<=40
 ch:e_x (λk p=>rdW d.rules b k.toNat p) b.length ks (a_x d.rules r at_) x.1.items e
 st:at_<=a_x d.rules r at_/\a_x d.rules r at_<=b.length
 se:a_x d.rules r at_<=e
 le:e<=x.2.1
 go:at_<x.2.1∨(e=x.2.1/\a_x d.rules r at_=at_/\ks ≠ [])
theorem g_D (hv:a_9 d=true){i:Nat}(hi:i<d.rules.length){at_:Nat}(ha:at_<=b.length)(hok:(rdW d.rules b i at_).2.2=0) :
  ∃ks e,RdOk d b d.rules[i] at_ (rdW d.rules b i at_) ks e:=by
 have hbase:=d_A (b:=b) hv i hi at_ ha
 rw [g_C hv hi ha] at *
 have hr:=c_2 hv hi;have hal:=g_B hr.kind;generalize hrr:d.rules[i]=r at *
 have leaf:∀(x:RR),a_x d.rules r at_=at_->at_<x.2.1->x.1.items=[]->∃ks e,RdOk d b r at_ x ks e:=λx h1 h2 h3 =>
  ⟨[],at_,λj hj=>by simp at hj,λk hk=>by simp at hk,by simp,by rw [h3,h1];exact ⟨rfl,rfl⟩,by rw [h1];exact ⟨Nat.le_refl _,ha⟩,by rw [h1];exact Nat.le_refl _,Nat.le_of_lt h2,.inl h2⟩
 have hby:∀p n,(a_Z b p n).2.2=0->(a_Z b p n).1.items=[]/\(a_Z b p n).2.1=p+n.toNat:=λp n h=>by
  unfold a_Z at *
  split at h
  .cases h
  .rename_i G;rw [iN_ G];exact ⟨rfl,rfl⟩
 unfold rdB at *
 by_cases h1:r.kind=1
 .rw [h1] at hok ⊢;simp only [bQ_,fT_] at hok ⊢
  have hst:a_x d.rules r at_=at_:=by unfold a_x;rw [h1];rfl
  cases hd:a_f b r at_ with
  | none=>rw [hd] at hok;cases hok
  | some n=>have:=(h_W hr.kind h1).2.1;exact leaf _ hst (by simp only;omega) rfl
 rw [show (r.kind==1)=false by simpa using h1] at *
 by_cases h2:r.kind=2
 .rw [h2] at hok ⊢
  have hst:a_x d.rules r at_=at_:=by unfold a_x;rw [h2];rfl
  have:=u_Y hr.kind h2
  exact leaf _ hst (by
   have h:=u_8 (show (b_v b r.bytes at_).2=0 from hok)
   show at_<(b_v b r.bytes at_).1
   omega) rfl
 rw [show (r.kind==2)=false by simpa using h2] at *
 by_cases h3:r.kind=3
 .rw [h3] at hok ⊢
  have hst:a_x d.rules r at_=at_:=by unfold a_x;rw [h3];rfl
  have:=h_X hr.kind h3;have h:=hby at_ r.size hok
  exact leaf _ hst (by
   show at_<(a_Z b at_ r.size).2.1
   omega) h.1
 rw [show (r.kind==3)=false by simpa using h3] at *
 by_cases h4:r.kind=4
 .rw [h4] at hok ⊢;simp only [bF_,fF_,bQ_,fT_] at hok ⊢
  have hst:a_x d.rules r at_=at_:=by unfold a_x;rw [h4];rfl
  cases hd:a_f b (N_ d.rules<|A_ r) at_ with
  | none=>rw [hd] at hok;cases hok
  | some n =>
   rw [hd] at hok
   have:=(c_A (h_Y hr.kind h4).1).2.2.1;have h:=hby _ n hok;exact leaf _ hst (by simp only;omega) h.1
 rw [show (r.kind==4)=false by simpa using h4] at *
 by_cases H:r.kind=10
 .rw [H] at hok ⊢;simp only [bF_,fF_,bQ_,fT_] at hok ⊢
  have hst:a_x d.rules r at_=at_:=by unfold a_x;rw [H];rfl
  cases hd:d_w b at_ (r.bytes.getD 0 0) with
  | none=>rw [hd] at hok;cases hok
  | some x=>have:=k_H _ _ _ _ _ hd;exact leaf _ hst (by simp only;omega) rfl
 rw [show (r.kind==10)=false by simpa using H] at *
 simp only [bF_,fF_] at hok ⊢
 cases hh:a_h d.rules b r at_ with
 | inl c=>rw [hh] at hok;exact absurd hok (by
   intro hc
   simp only at hc
   subst hc;unfold a_h at hh
   split at hh
   .cases hi:a_f b (N_ d.rules<|A_ r) at_ with
    | none=>rw [hi] at hh;cases hh
    | some n=>rw [hi] at hh;simp only at hh;split at hh <;> cases hh
   split at hh
   .cases hh
   split at hh
   .cases hi:a_f b (N_ d.rules<|A_ r) at_ with
    | none=>rw [hi] at hh;cases hh
    | some n =>
     rw [hi] at hh;simp only at hh
     cases ht:b_F r.tags n with
     | none=>rw [ht] at hh;cases hh
     | some k=>rw [ht] at hh;cases hh
   split at hh
   .cases hi:b[at_]? with
    | none=>rw [hi] at hh;cases hh
    | some c=>rw [hi] at hh;simp only at hh;split at hh <;> cases hh
   .cases hh)
 | inr y =>
  obtain ⟨num,ks,st⟩:=y
  rw [hh] at hok
  simp only at hok ⊢
  have hk:=n_3 hr.kind (by omega) ha hh;obtain ⟨hitem,hst,J⟩:=v_u hr.kind (by omega) hh
  have hlek:∀k∈ks,∀p,p<=b.length->p<=(rdW d.rules b k.toNat p).2.1/\(rdW d.rules b k.toNat p).2.1<=b.length:=λk hk' p hp=>by
   have:=hr.kids k<|hk.1 k hk';exact d_A hv k.toNat (by omega) p hp
  have hile:=i_0 (rd:=λk p=>rdW d.rules b k.toNat p) (L:=b.length) ks st hk.2.2.1 hlek;have hch:=q_k (rd:=λk p=>rdW d.rules b k.toNat p) (L:=b.length) ks st hk.2.2.1<|λk hk' p hp=>(hlek k hk' p hp).2;generalize S_ (λk p=>rdW d.rules b k.toNat p) ks st=x at *
  have G:x.2.2=0:=by
   unfold b_i at hok
   split at hok
   .assumption
   .rename_i hx;exact absurd hok hx
  have hch:=hch G
  have hnk:r.kind=6∨r.kind=9->ks ≠ []:=by
   intro O hnil;unfold a_h at hh
   rcases O with h | h
   .rw [h] at hh
    have:=g_A hr.kind h
    cases hh
    rw [hnil] at this;simp at this
   .rw [h] at hh;cases hh;cases hnil
  subst hst;refine ⟨ks,x.2.1,?_⟩;unfold b_i at hok ⊢
  rw [iP_ G] at hok ⊢
  by_cases I:r.kind=9
  .rw [show (r.kind==9)=true by simpa using I] at hok ⊢
   simp only [fT_] at hok ⊢
   cases hb:b[x.2.1]? with
   | none=>rw [hb] at hok;cases hok
   | some c =>
    rw [hb] at hok
    simp only at hok ⊢
    by_cases hs:byteI c=c_9 (a_m b at_ x.2.1)
    .rw [iP_ hs]
     have:=J I;subst this;exact ⟨hitem,hk.1,hk.2.2.2.1,hch,⟨hk.2.1,hk.2.2.1⟩,hile.1,by simp only;omega,.inl (by simp only;omega)⟩
    .rw [iN_ hs] at hok;cases hok
  .rw [show (r.kind==9)=false by simpa using I]
   simp only [bF_,fF_]
   refine ⟨hitem,hk.1,hk.2.2.2.1,hch,⟨hk.2.1,hk.2.2.1⟩,hile.1,Nat.le_refl _,?_⟩
   by_cases hst:a_x d.rules r at_=at_
   .exact .inr ⟨rfl,hst,hnk<|hk.2.2.2.2 hst⟩
   .left;simp only;omega
theorem rdW_lt (hv:a_9 d=true):∀(i:Nat),i<d.rules.length->∀at_,at_<=b.length->(rdW d.rules b i at_).2.2=0->at_<(rdW d.rules b i at_).2.1:=by
 intro i
 induction i using Nat.strongRecOn with
 | _ i ih =>
  intro hi at_ ha hok;obtain ⟨ks,e,h⟩:=g_D hv hi ha hok
  rcases h.go with hgo | ⟨he,hst,hne⟩
  .exact hgo
  .have hch:=h.ch
   cases ks with
   | nil=>exact absurd rfl hne
   | cons k ks =>
    obtain ⟨hp,G,ws,hws,hrest⟩:=hch;have hkid:=(c_2 hv hi).kids k (h.kids k mS_);have hlt:=ih k.toNat (by omega) (by omega) _ hp G
    have hmono:∀(ks:List Int)(p:Nat)(vs:List Val)(e:Nat),p<=b.length->(∀k∈ks,0<=k/\k<(i:Int))->e_x (λk p=>rdW d.rules b k.toNat p) b.length ks p vs e->p<=e:=by
     intro ks
     induction ks with
     | nil=>intro p vs e _ _ h;rw [h.2];exact Nat.le_refl _
     | cons k ks ihk =>
      intro p vs e hp hkk h;obtain ⟨_,_,ws,_,h⟩:=h;have hk:=hkk k mS_;have hl:=d_A (b:=b) hv k.toNat (by omega) p hp;have:=ihk _ ws e hl.2 (λk hk=>hkk k<|mT_ _ hk) h
      omega
    have:=hmono ks _ ws e (d_A hv k.toNat (by omega) _ hp).2 (λk' hk'=>(c_2 hv hi).kids k' (h.kids k'<|mT_ _ hk')) hrest
    omega
def okV (d:f_)(b:Bt)(rule at_:Int):Bool:=(a_9 d && b_S d rule) && ((decide (0<=at_) && decide (at_<=(b.length:Int))) && decide ((b.length:Int)<=400))
def b_B (d:f_)(rule:Int)(b:Bt)(at_:Int):Val×Int×Int:=if okV d b rule at_ then c_3 (rdW d.rules b rule.toNat at_.toNat) else (zV,0,8)
theorem l_1 {rule at_:Int}(h:okV d b rule at_=true):a_9 d=true/\b.length<=400/\∃i p:Nat,rule=i/\at_=p/\i<d.rules.length/\p<=b.length:=by
 unfold okV b_S at h
 simp only [aE_,dE_] at h
 exact ⟨h.1.1,by omega,rule.toNat,at_.toNat,by omega,by omega,by omega,by omega⟩
theorem v_v (hd:SmD d){n:Nat}(hn:500<=n)(rule at_:Int):i_r n d rule b at_=some (b_B d rule b at_):=by
 unfold i_r b_B
 rw [t_p d hd,b_u]
 by_cases h:okV d b rule at_=true
 .rw [iP_ h]
  obtain ⟨hv,hb,i,p,rfl,rfl,hi,hp⟩:=l_1 h;have hlen:=(c_J hv).2;have H:(a_9 d && b_S d (i:Int))=true:=by unfold b_S;rw [hv,dT_ (by omega),dT_ (by omega)];rfl
  rw [H,dT_ (show (0:Int)<=(p:Int) by omega),dT_ (show (p:Int)<=(b.length:Int) by omega),dF_ (show ¬(400:Int)<(b.length:Int) by omega)]
  simp only [bd_some,nT_,bF_,fF_,Bool.and_self]
  rw [q_d hv hd hb i hi n (by omega) p hp]
  rfl
 .rw [iN_ h]
  unfold okV at h
  have G:decide ((400:Int)<(b.length:Int)) = !decide ((b.length:Int)<=400):=by
   by_cases hb:(b.length:Int)<=400
   .rw [dT_ hb,dF_ (by omega)];rfl
   .rw [dF_ hb,dT_ (by omega)];rfl
  rw [G]
  generalize (a_9 d && b_S d rule)=a at *
  generalize (decide (0<=at_) && decide (at_<=(b.length:Int)))=c at *
  generalize decide ((b.length:Int)<=400)=e at *
  cases a <;> cases c <;> cases e <;> first | rfl | exact absurd rfl h
theorem v_w (hd:SmD d){n:Nat}(hn:500<=n)(rule at_:Int):i_M n d rule b at_=some (b_B d rule b at_):=by
 unfold i_M b_B
 rw [m_v n (by omega) d hd]
 by_cases h:okV d b rule at_=true
 .rw [iP_ h]
  obtain ⟨hv,hb,i,p,rfl,rfl,hi,hp⟩:=l_1 h;have hlen:=(c_J hv).2;have H:(a_9 d && b_S d (i:Int))=true:=by unfold b_S;rw [hv,dT_ (by omega),dT_ (by omega)];rfl
  rw [H,dF_ (show ¬(p:Int)<0 by omega),dF_ (show ¬(b.length:Int)<(p:Int) by omega),dF_ (show ¬(400:Int)<(b.length:Int) by omega)]
  simp only [bd_some,nT_,bF_,fF_]
  obtain ⟨nx,hrd⟩:=v_r hv hd hb i hi n (by omega) p hp
  rw [hrd]
  show _=some (c_3<|rdW d.rules b i p)
  have hz:=rdW_zV (d:=d) (b:=b) (i:=i) (at_:=p);generalize rdW d.rules b i p=x at *
  unfold d_c c_3
  by_cases G:x.2.2=0
  .rw [iP_ G,G];rfl
  .rw [iN_ G,hz G];rfl
 .rw [iN_ h]
  unfold okV at h
  have I:decide ((400:Int)<(b.length:Int)) = !decide ((b.length:Int)<=400):=by
   by_cases hb:(b.length:Int)<=400
   .rw [dT_ hb,dF_ (by omega)];rfl
   .rw [dF_ hb,dT_ (by omega)];rfl
  have J:decide (at_<0) = !decide (0<=at_):=by
   by_cases hb:0<=at_
   .rw [dT_ hb,dF_ (by omega)];rfl
   .rw [dF_ hb,dT_ (by omega)];rfl
  have H:decide ((b.length:Int)<at_) = !decide (at_<=(b.length:Int)):=by
   by_cases hb:at_<=(b.length:Int)
   .rw [dT_ hb,dF_ (by omega)];rfl
   .rw [dF_ hb,dT_ (by omega)];rfl
  rw [I,J,H]
  generalize (a_9 d && b_S d rule)=a at *
  generalize decide (0<=at_)=c at *
  generalize decide (at_<=(b.length:Int))=c' at *
  generalize decide ((b.length:Int)<=400)=e at *
  cases a <;> cases c <;> cases c' <;> cases e <;> first | rfl | exact absurd rfl h
theorem v_x (hd:SmD d){n:Nat}(hn:500<=n)(rule at_:Int):i_E n d rule b at_=some ((b_B d rule b at_).2.1,(b_B d rule b at_).2.2):=by
 unfold i_E b_B
 rw [m_v n (by omega) d hd]
 by_cases h:okV d b rule at_=true
 .rw [iP_ h]
  obtain ⟨hv,hb,i,p,rfl,rfl,hi,hp⟩:=l_1 h;have hlen:=(c_J hv).2;have G:(a_9 d && b_S d (i:Int))=true:=by unfold b_S;rw [hv,dT_ (by omega),dT_ (by omega)];rfl
  rw [G,dF_ (show ¬(p:Int)<0 by omega),dF_ (show ¬(b.length:Int)<(p:Int) by omega),dF_ (show ¬(400:Int)<(b.length:Int) by omega)]
  simp only [bd_some,nT_,bF_,fF_]
  obtain ⟨ap',hrd⟩:=v_s hv hd hb i hi n (by omega) p hp 0
  rw [show (⟨(⟨d.rules⟩:f_),b,0⟩:a_5)=⟨d,b,0⟩ from rfl,hrd]
  rfl
 .rw [iN_ h]
  unfold okV at h
  have H:decide ((400:Int)<(b.length:Int)) = !decide ((b.length:Int)<=400):=by
   by_cases hb:(b.length:Int)<=400
   .rw [dT_ hb,dF_ (by omega)];rfl
   .rw [dF_ hb,dT_ (by omega)];rfl
  have I:decide (at_<0) = !decide (0<=at_):=by
   by_cases hb:0<=at_
   .rw [dT_ hb,dF_ (by omega)];rfl
   .rw [dF_ hb,dT_ (by omega)];rfl
  have G:decide ((b.length:Int)<at_) = !decide (at_<=(b.length:Int)):=by
   by_cases hb:at_<=(b.length:Int)
   .rw [dT_ hb,dF_ (by omega)];rfl
   .rw [dF_ hb,dT_ (by omega)];rfl
  rw [H,I,G]
  generalize (a_9 d && b_S d rule)=a at *
  generalize decide (0<=at_)=c at *
  generalize decide (at_<=(b.length:Int))=c' at *
  generalize decide ((b.length:Int)<=400)=e at *
  cases a <;> cases c <;> cases c' <;> cases e <;> first | rfl | exact absurd rfl h
def b_L (d:f_):Int:=(d.rules.length:Int) - 1
theorem q_l (hd:SmD d):g_Z d=some (b_L d):=by
 have:=hd.rules;have:=MXv;unfold g_Z b_L;rw [a_y (by omega) (by omega)]
theorem q_m (hd:SmD d):g_P d=some (b_L d):=by
 have:=hd.rules;have:=MXv;unfold g_P b_L;rw [a_y (by omega) (by omega)]
def d_d (d:f_)(b:Bt):Val×Int×Int:=if (b_B d (b_L d) b 0).2.2=0/\(b_B d (b_L d) b 0).2.1<(b.length:Int) then (zV,(b_B d (b_L d) b 0).2.1,7) else b_B d (b_L d) b 0
theorem q_n (v:Val)(e c:Int)(len:Int):bd (α:=Bool) (if (c==0) then some (decide<|e<len) else some false) (λH=>if H then some ((⟨0,([]:Bt),([]:List Val)⟩:Val),e,7) else some ((⟨v.number,v.bytes,v.items⟩:Val),e,c))=some (if c=0/\e<len then (zV,e,7) else (v,e,c)):=by
 rw [q_c]
 by_cases G:c=0
 .subst G
  by_cases h1:e<len
  .rw [dT_ h1,iP_ (show (0:Int)=0/\e<len from ⟨rfl,h1⟩)];rfl
  .rw [dF_ h1,iN_ (show ¬((0:Int)=0/\e<len) from λh=>h1 h.2)];rfl
 .rw [show (c==0)=false by simpa using G,iN_ (show ¬(c=0/\e<len) from λh=>G h.1)];rfl
theorem q_o (hd:SmD d){n:Nat}(hn:500<=n):h_4 n d b=some (d_d d b):=by
 unfold h_4 d_d
 rw [q_l hd,bd_some,v_w hd hn]
 generalize b_B d (b_L d) b 0=x;exact q_n x.1 x.2.1 x.2.2 _
theorem v_y (hd:SmD d){n:Nat}(hn:500<=n):i_s n d b=some (d_d d b):=by
 unfold i_s d_d
 rw [q_m hd,bd_some,v_v hd hn]
 generalize b_B d (b_L d) b 0=x;exact q_n x.1 x.2.1 x.2.2 _
end
end Go.Vw
namespace Go.Vw
open Go.RowKit Dat
theorem v_z (x:Nat):mkB (b_ 48 ((x % 10:Nat):Int))=UInt8.ofNat (48+x % 10):=by
 have:x % 10=0∨x % 10=1∨x % 10=2∨x % 10=3∨x % 10=4∨x % 10=5∨x % 10=6∨x % 10=7∨x % 10=8∨x % 10=9:=by omega
 rcases this with h | h | h | h | h | h | h | h | h | h <;> rw [h] <;> decide
theorem n_7:∀(k x:Nat),x<10 ^ k->0<x->x<=4611686018427387904->∀(s:Str)(n:Nat),k+1<=n->s.b.length+k<=1000 ->
  I_ (σ:=Str×Int) (ρ:=Str) (un2 λH G=>if (G != 0) then bd (α:=Int) (if (decide<|(b_f G 10)<0) then some (g_m<|b_f G 10) else some (b_f G 10)) (λJ=>bd (cat (⟨[mkB (b_ 48 J)]⟩:Str) H) λL=>some<|.next (L,d_p G 10)) else some (.brk (H,G))) n (s,(x:Int))=some (.inl (⟨Lib.decDigits x++s.b⟩,0))
 | 0,x,h,O,_,_,_,_,_=>by simp at h;omega
 | k+1,x,h,O,hb,s,n,hn,hs=>by
  obtain ⟨m,rfl⟩:∃m,n=m+1:=⟨n - 1,by omega⟩;unfold I_
  simp only [un2]
  rw [show ((x:Int) != 0)=true by simp;omega,l_4 (by omega),q_t (by omega) (by omega) (by omega),dF_ (show ¬(x:Int) % 10<0 by omega)]
  simp only [fT_,bF_,fF_,bd_some]
  rw [show (x:Int) % 10=((x % 10:Nat):Int) by omega,v_z,f_G (by rw [a_o];simp;omega),bd_some,show (x:Int) / 10=((x / 10:Nat):Int) by omega]
  simp only
  by_cases I:x<10
  .rw [show x / 10=0 by omega,show x % 10=x by omega]
   obtain ⟨m',rfl⟩:∃m',m=m'+1:=⟨m - 1,by omega⟩
   rw [Lib.decDigits,dif_pos I]
   rfl
  .rw [n_7 k (x / 10) (by rw [Nat.pow_succ] at h;omega) (by omega) (by omega) _ m (by omega) (by simp;omega)]
   rw [Lib.decDigits.eq_1 x,dif_neg I]
   simp
theorem v_A {n:Nat}(hn:30<=n)(i:Nat)(hi:i<=1000000000):d_C n i=some ⟨Lib.itoa i⟩:=by
 unfold d_C Lib.itoa
 rw [iN_ (show ¬(i:Int)<0 by omega)]
 by_cases h:i=0
 .subst h
  rw [show ((((0:Nat):Int)).toNat)=0 from rfl,Lib.decDigits,dif_pos (by omega)]
  rfl
 .rw [show ((i:Int)==0)=false by simp;omega]
  simp only [bF_,fF_]
  rw [n_7 20 i (by omega) (by omega) (by omega) ⟨[]⟩ n (by omega) (by simp),dF_ (show ¬(i:Int)<0 by omega)]
  simp
theorem v_B (i:Nat)(hi:i<=1000000000):(Lib.itoa i).length<=21:=Lib.itoa_length_le i (by omega) (by omega)
def e_7 (r:d_)(i:Nat):Str :=
 if r.kind==5 then ⟨Lib.itoa i⟩
 else if r.kind==6 && decide (i<r.names.length) then r.names.getD i ⟨[]⟩
 else if r.kind==7 && i==0 then ⟨[42]⟩
 else if r.kind==8 && i==0 then ⟨[63]⟩
 else if r.kind==9 && i==0 then ⟨[43]⟩
 else ⟨[]⟩
theorem v_C {n:Nat}(hn:30<=n)(r:d_)(i:Nat)(hi:i<=1000000000):g_R n r i=some (e_7 r i):=by
 unfold g_R e_7
 rw [v_A hn i hi]
 rw [m_s]
 cases (r.kind==5)
 .cases (r.kind==6)
  .cases (r.kind==7) <;> cases (r.kind==8) <;> cases (r.kind==9) <;> cases (i==0) <;> rfl
  .by_cases h:i<r.names.length
   .rw [dT_ h,dT_ (show (i:Int)<(r.names.length:Int) by omega),ix_ h,a_H h];rfl
   .rw [dF_ h,dF_ (show ¬(i:Int)<(r.names.length:Int) by omega)]
    cases (r.kind==7) <;> cases (r.kind==8) <;> cases (r.kind==9) <;> cases (i==0) <;> rfl
 .rfl
theorem v_D {d:f_}(hv:a_9 d=true)(hd:SmD d){n:Nat}(hn:30<=n){k:Nat}(hk:k<d.rules.length)(i:Nat):f_R n d k i=some (e_7 d.rules[k] i):=by
 unfold f_R e_7 l_j m_n
 rw [m_v n (by omega) d hd,hv,ix_ hk]
 have H:b_S d (k:Int)=true:=by unfold b_S;rw [dT_ (by omega),dT_ (by omega)];rfl
 rw [H,dF_ (show ¬(i:Int)<0 by omega)]
 simp only [Bool.and_self,nT_,bd_some,bF_,fF_]
 generalize d.rules[k]=r
 by_cases h5:r.kind=5
 .rw [h5];rfl
 rw [show (r.kind==5)=false by simpa using h5]
 by_cases h6:r.kind=6
 .rw [h6]
  by_cases h:i<r.names.length
  .rw [dT_ h,dT_ (show (i:Int)<(r.names.length:Int) by omega),ix_ h,a_H h];rfl
  .rw [dF_ h,dF_ (show ¬(i:Int)<(r.names.length:Int) by omega)]
   cases decide (0<(i:Int)) <;> rfl
 rw [show (r.kind==6)=false by simpa using h6]
 by_cases G:i=0
 .subst G
  cases (r.kind==7) <;> cases (r.kind==8) <;> cases (r.kind==9) <;> rfl
 .rw [dT_ (show 0<(i:Int) by omega),show (i==0)=false by simpa using G]
  cases (r.kind==7) <;> cases (r.kind==8) <;> cases (r.kind==9) <;> rfl
theorem v_E {s:Str}(h:b_8 s=true):s.b.length<=12:=by
 unfold b_8 at h
 simp only [aE_,dE_] at h
 exact h.2.2
theorem n_8 {rs:List d_}{r:d_}(h:a_C rs r=true)(i:Nat)(hi:i<=1000000000):(e_7 r i).b.length<=21:=by
 unfold e_7
 split
 .exact v_B i hi
 split
 .rename_i h6
  simp only [aE_,beq_iff_eq,dE_] at h6
  rw [a_H h6.2]
  have:=v_E<|(g_A h h6.1).2.2.2 _ (gE_ h6.2)
  omega
 split
 .simp
 split
 .simp
 split <;> simp
def c_K (r:d_)(path:Str)(i:Nat):Str:=⟨path.b++[47]++(e_7 r i).b⟩
def ixL (f:Int->Nat->Str->List l_)(e:Int->Nat->Nat)(r:d_)(path:Str):List Int->Nat->Nat->List l_
 | [],_,_=>[]
 | k::ks,i,pos=>f k pos (c_K r path i)++ixL f e r path ks (i+1) (e k pos)
def ixW (rs:List d_)(b:Bt)(rule:Nat)(at_:Nat)(path:Str):List l_ :=
 (⟨path,(rule:Int),(at_:Int),((rdW rs b rule at_).2.1:Int)⟩:l_)::ixL (λk p q=>if _h:k.toNat<rule then ixW rs b k.toNat p q else []) (λk p=>(rdW rs b k.toNat p).2.1) (rs.getD rule default) path ((List.range (rdW rs b rule at_).1.items.length).map (b_h (rs.getD rule default) (rdW rs b rule at_).1.number)) 0 (a_x rs (rs.getD rule default) at_)
termination_by rule
theorem q_p {f f':Int->Nat->Str->List l_}{e:Int->Nat->Nat}{r:d_}{path:Str}:∀(ks:List Int)(i pos:Nat),(∀k∈ks,∀p q,f k p q=f' k p q)->ixL f e r path ks i pos=ixL f' e r path ks i pos
 | [],_,_,_=>rfl
 | k::ks,i,pos,h=>by
  unfold ixL
  rw [h k mS_,q_p ks _ _<|λk hk=>h k<|mT_ _ hk]
section
variable {d:f_}{b:Bt}
theorem l_2 (hv:a_9 d=true){i:Nat}(hi:i<d.rules.length){at_:Nat}{ks:List Int}{e:Nat}(h:RdOk d b d.rules[i] at_ (rdW d.rules b i at_) ks e)(path:Str) :
  ixW d.rules b i at_ path=(⟨path,(i:Int),(at_:Int),((rdW d.rules b i at_).2.1:Int)⟩:l_)::ixL (λk p q=>ixW d.rules b k.toNat p q) (λk p=>(rdW d.rules b k.toNat p).2.1) d.rules[i] path ks 0 (a_x d.rules d.rules[i] at_):=by
 rw [ixW]
 have G:d.rules.getD i default=d.rules[i]:=by simp [hi]
 rw [G]
 have hl:=l_0 h.ch
 have H:(List.range (rdW d.rules b i at_).1.items.length).map (b_h d.rules[i] (rdW d.rules b i at_).1.number)=ks:=by
  apply List.ext_getElem
  .simp [hl]
  .intro j h1 h2
   rw [List.getElem_map,List.getElem_range]
   exact h.item j h2
 rw [H]
 congr 1
 refine q_p ks _ _<|λk hk p q=>?_;have:=(c_2 hv hi).kids k (h.kids k hk)
 rw [dif_pos (by omega)]
theorem q_q (i:Nat)(f:Int->Nat->Str->List l_)(r:d_)(path:Str):∀(ks:List Int)(j pos:Nat)(vs:List Val)(e:Nat),(∀k∈ks,∀p,p<=b.length->p<=(rdW d.rules b k.toNat p).2.1/\(rdW d.rules b k.toNat p).2.1<=b.length)->(∀k∈ks,∀p q,p<=b.length->(rdW d.rules b k.toNat p).2.2=0->(f k p q).length<=i * ((rdW d.rules b k.toNat p).2.1 - p)) ->
  e_x (λk p=>rdW d.rules b k.toNat p) b.length ks pos vs e->(ixL f (λk p=>(rdW d.rules b k.toNat p).2.1) r path ks j pos).length<=i * (e - pos)/\pos<=e
 | [],_,_,_,_,_,_,h=>by rw [h.2];simp [ixL]
 | k::ks,j,pos,vs,e,hle,hf,h=>by
  obtain ⟨hp,G,ws,_,hrest⟩:=h;have h1:=hle k mS_ pos hp;have h2:=hf k mS_ pos (c_K r path j) hp G;have h3:=q_q i f r path ks (j+1) _ ws e (λk hk=>hle k<|mT_ _ hk) (λk hk=>hf k<|mT_ _ hk) hrest
  simp only at h3 G
  unfold ixL
  rw [List.length_append]
  refine ⟨?_,by omega⟩
  have h4:i * ((rdW d.rules b k.toNat pos).2.1 - pos)+i * (e - (rdW d.rules b k.toNat pos).2.1)=i * (e - pos):=by
   rw [← Nat.mul_add];congr 1;omega
  omega
theorem v_F (hv:a_9 d=true):∀(i:Nat),i<d.rules.length->∀at_ path,at_<=b.length->(rdW d.rules b i at_).2.2=0->(ixW d.rules b i at_ path).length<=(i+1) * ((rdW d.rules b i at_).2.1 - at_):=by
 intro i
 induction i using Nat.strongRecOn with
 | _ i ih =>
  intro hi at_ path ha hok;obtain ⟨ks,e,h⟩:=g_D hv hi ha hok;have hlt:=rdW_lt hv i hi at_ ha hok
  rw [l_2 hv hi h path]
  have hkk:∀k∈ks,0<=k/\k<(i:Int):=λk hk=>(c_2 hv hi).kids k (h.kids k hk)
  have hL:=q_q (d:=d) (b:=b) i (λk p q=>ixW d.rules b k.toNat p q) d.rules[i] path ks 0 _ _ e (λk hk p hp=>by have:=hkk k hk;exact d_A hv k.toNat (by omega) p hp) (λk hk p q hp G=>by
   have H:=hkk k hk;have h1:=ih k.toNat (by omega) (by omega) p q hp G
   exact Nat.le_trans h1 (Nat.mul_le_mul_right _ (by omega))) h.ch
  rw [lC_]
  have hst:=h.st;have hse:=h.se;have hle:=h.le;have h5:i * (e - a_x d.rules d.rules[i] at_)<=i * ((rdW d.rules b i at_).2.1 - at_):=Nat.mul_le_mul_left _ (by omega)
  rw [Nat.succ_mul]
  omega
theorem n_9 (hv:a_9 d=true)(hb:b.length<=400){i:Nat}(hi:i<d.rules.length){at_:Nat}(path:Str)(ha:at_<=b.length)(hok:(rdW d.rules b i at_).2.2=0):(ixW d.rules b i at_ path).length<=10000:=by
 have h1:=v_F hv i hi at_ path ha hok;have h2:=(c_J hv).2;have h3:=(d_A (b:=b) hv i hi at_ ha).2;have h4:(i+1) * ((rdW d.rules b i at_).2.1 - at_)<=24 * 400:=Nat.mul_le_mul (by omega) (by omega)
 omega
theorem n_a {r:d_}{path:Str}{j:Nat}(hk:a_C d.rules r=true)(hj:j<=1000000000):(c_K r path j).b.length<=path.b.length+22:=by
 have:=n_8 hk j hj;unfold c_K
 simp only [List.length_append,lC_,List.length_nil]
 omega
theorem q_r (hv:a_9 d=true)(hb:b.length<=400){i:Nat}(hi:i<d.rules.length){at_:Nat}(ha:at_<=b.length)(hok:(rdW d.rules b i at_).2.2=0) :
  (bd (α:=Bool) (if (d.rules[i].kind==5) then some (d.rules[i].kind==5) else some (d.rules[i].kind==7)) (λO=>bd (α:=Int) (if O then bd (idx d.rules[i].kids 0) λG=>bd3 (d_f d G b at_) λV H W=>some H else bd (α:=Int) (if (d.rules[i].kind==8) then some (b_ (at_:Int) 1) else some (at_:Int)) (λY=>some Y)) some)=some ((a_x d.rules d.rules[i] at_:Nat):Int)):=by
 have hMX:=MXv;have hr:=c_2 hv hi;obtain ⟨ks,e,h⟩:=g_D hv hi ha hok;have hst:=h.st
 rw [g_C hv hi ha] at hok
 generalize d.rules[i]=r at *
 unfold a_x at *
 have main:r.kind=5∨r.kind=7->bd (idx r.kids 0) (λG=>bd3 (d_f d G b at_) λV H W=>some H)=some (((at_+(N_ d.rules<|A_ r).size.toNat:Nat)):Int):=by
  intro J
  have hlim:0<lim d.rules (A_ r)/\0<r.kids.length:=by
   rcases J with h | h
   .have:=f_1 hr.kind h;exact ⟨this.1,by omega⟩
   .have:=f_D hr.kind h;exact ⟨this.1,by omega⟩
  have hq:=c_A hlim.1
  rw [c_8 hlim.2,bd_some,k_K hq.1 hq.2 (by omega) ha]
  cases hi:a_f b (N_ d.rules<|A_ r) at_ with
  | some n=>rfl
  | none =>
   exfalso
   unfold rdB a_h at hok
   rcases J with h | h <;> rw [h,hi] at hok <;> cases hok
 by_cases h5:r.kind=5
 .have:=main<|.inl h5
  rw [h5]
  simp only [bQ_,fT_,bd_some,Bool.true_or]
  rw [this];rfl
 by_cases I:r.kind=7
 .have:=main<|.inr I
  rw [I]
  simp only [show ((7:Int)==5)=false from rfl,bF_,fF_,bQ_,fT_,bd_some,Bool.false_or]
  rw [this];rfl
 rw [show (r.kind==5)=false by simpa using h5,show (r.kind==7)=false by simpa using I]
 by_cases L:r.kind=8
 .rw [L]
  simp only [bF_,fF_,bd_some,bQ_,fT_,Bool.or_self]
  rw [ia_ (by omega) (by omega)];rfl
 .rw [show (r.kind==8)=false by simpa using L]
  rfl
theorem v_G (hv:a_9 d=true)(hb:b.length<=400){i:Nat}(hi:i<d.rules.length){at_:Nat}(ha:at_<=b.length) :
  (bd (α:=Bool) (if (d.rules[i].kind==5) then some (d.rules[i].kind==5) else some (d.rules[i].kind==7)) (λL=>bd (α:=Int) (if L then bd (idx d.rules[i].kids 0) λG=>bd (idx d.rules G) λH=>some (b_ (at_:Int) H.size) else bd (α:=Int) (if (d.rules[i].kind==8) then some (b_ (at_:Int) 1) else some (at_:Int)) (λO=>some O)) some))=some ((a_x d.rules d.rules[i] at_:Nat):Int):=by
 have hr:=c_2 hv hi;generalize d.rules[i]=r at *
 unfold a_x
 have main:r.kind=5∨r.kind=7->bd (idx r.kids 0) (λG=>bd (idx d.rules G) λH=>some<|b_ (at_:Int) H.size)=some (((at_+(N_ d.rules<|A_ r).size.toNat:Nat)):Int):=by
  intro V
  have hlim:0<lim d.rules (A_ r)/\0<r.kids.length:=by
   rcases V with h | h
   .have:=f_1 hr.kind h;exact ⟨this.1,by omega⟩
   .have:=f_D hr.kind h;exact ⟨this.1,by omega⟩
  have hq:=c_A hlim.1;obtain ⟨_,h1,h4⟩:=hq.2
  rw [c_8 hlim.2,bd_some,hq.1,bd_some,ia_ (by omega) (by omega)]
  congr 1
  omega
 by_cases h5:r.kind=5
 .have:=main<|.inl h5
  rw [h5]
  simp only [bQ_,fT_,bd_some,Bool.true_or]
  rw [this];rfl
 by_cases I:r.kind=7
 .have:=main<|.inr I
  rw [I]
  simp only [show ((7:Int)==5)=false from rfl,bF_,fF_,bQ_,fT_,bd_some,Bool.false_or]
  rw [this];rfl
 rw [show (r.kind==5)=false by simpa using h5,show (r.kind==7)=false by simpa using I]
 by_cases J:r.kind=8
 .rw [J]
  simp only [bF_,fF_,bd_some,bQ_,fT_,Bool.or_self]
  rw [ia_ (by omega) (by omega)];rfl
 .rw [show (r.kind==8)=false by simpa using J]
  rfl
end
end Go.Vw
namespace Go.Vw
open Go.RowKit Dat
section
variable {d:f_}{b:Bt}
theorem o_v {n:Nat}(hv:a_9 d=true){i:Nat}(hi:i<d.rules.length)(hb:b.length<=400)(hn:30<=n){ks:List Int}{num:Int}(hitem:∀j (hj:j<ks.length),b_h d.rules[i] num j=ks[j])(hkk:∀k∈ks,0<=k/\k<(i:Int))(a1:ks.length<=40){path:Str}(hpath:path.b.length+32<=1000000)
  (ih:∀k,k<i->∀p q,p<=b.length->(rdW d.rules b k p).2.2=0->q.b.length<=path.b.length+22->l_i n d k b p q=some (ixW d.rules b k p q,((rdW d.rules b k p).2.1:Int)))
  (body:Nat->(List l_)×Int->Option (Out ((List l_)×Int)<|(List l_)×Int)) (hbd:body=(λG=>un2 λL O=>bd (cat path (⟨[47]⟩:Str)) λV=>bd (d_D d.rules[i] num ((G:Nat):Int)) λW=>bd (g_R n d.rules[i] ((G:Nat):Int)) λY=>bd (cat V Y) λa0=>bd2 ((f_e n).spec_l19Build d W b O a0) λH I=>bd (app L H) λJ=>some<|.next (J,I))) :
  ∀m k (pos:Nat) (vs:List Val) (e:Nat) (out:List l_),k+m=ks.length->out.length<=1+k * 10000->e_x (λk p=>rdW d.rules b k.toNat p) b.length (ks.drop k) pos vs e ->
  u_ body m k (out,(pos:Int))=some (.inl (out++ixL (λk p q=>ixW d.rules b k.toNat p q) (λk p=>(rdW d.rules b k.toNat p).2.1) d.rules[i] path (ks.drop k) k pos,(e:Int)))
 | 0,k,pos,vs,e,out,hk,_,hch=>by
  rw [List.drop_of_length_le (by omega)] at *
  rw [hch.2]
  simp [u_,ixL]
 | m+1,k,pos,vs,e,out,hk,ho,hch=>by
  have hLIM:=a_o;have hr:=c_2 hv hi;have hlt:k<ks.length:=by omega
  rw [dC_ hlt] at *
  obtain ⟨hp,h,ws,_,hrest⟩:=hch
  simp only at h hrest
  have hkr:=hkk _<|gE_ hlt;have hst:=n_8 hr.kind k (by omega);have hsm:=n_9 hv hb (show ks[k].toNat<d.rules.length by omega) (c_K d.rules[i] path k) hp h
  have hone:body k (out,(pos:Int))=some (.next (out++ixW d.rules b ks[k].toNat pos (c_K d.rules[i] path k),((rdW d.rules b ks[k].toNat pos).2.1:Int))):=by
   rw [hbd]
   simp only [un2]
   rw [f_G (by simp only [lC_,List.length_nil];omega),bd_some,k_P<|h_Z hr.kind,bd_some,hitem k hlt,v_C hn _ k (by omega),bd_some,f_G (by simp only [List.length_append,lC_,List.length_nil];omega),bd_some]
   have hrec:=ih ks[k].toNat (by omega) pos (c_K d.rules[i] path k) hp h (n_a hr.kind (by omega))
   rw [show ((ks[k].toNat:Nat):Int)=ks[k] by omega] at hrec
   rw [show (f_e n).spec_l19Build d ks[k] b (pos:Int) ⟨path.b++[47]++(e_7 d.rules[i] k).b⟩=l_i n d ks[k] b (pos:Int) (c_K d.rules[i] path k) from rfl,hrec]
   simp only [bd2_some]
   rw [c_4 (by omega),bd_some]
  unfold u_ ixL
  rw [hone]
  simp only
  rw [o_v hv hi hb hn hitem hkk a1 hpath ih body hbd m (k+1) _ ws e _ (by omega) (by rw [List.length_append];omega) hrest]
  simp
theorem t_q (hv:a_9 d=true)(hd:SmD d)(hb:b.length<=400):∀(i:Nat)(hi:i<d.rules.length),∀n,4 * i+600<=n->∀(at_:Nat)(path:Str),at_<=b.length->(rdW d.rules b i at_).2.2=0->path.b.length+22 * i+32<=1000000 ->
  l_i n d i b at_ path=some (ixW d.rules b i at_ path,((rdW d.rules b i at_).2.1:Int)):=by
 intro i
 induction i using Nat.strongRecOn with
 | _ i ih =>
  intro hi n hn at_ path ha hok hpath;have hlen:=(c_J hv).2;obtain ⟨m,rfl⟩:∃m,n=m+1:=⟨n - 1,by omega⟩;obtain ⟨ks,e,h⟩:=g_D hv hi ha hok;have hkk:∀k∈ks,0<=k/\k<(i:Int):=λk hk=>(c_2 hv hi).kids k (h.kids k hk)
  show i_T m (f_e m) d i b at_ path=_
  unfold i_T
  rw [ix_ hi,bd_some,q_d hv hd hb i hi m (by omega) at_ ha]
  unfold c_3
  simp only [bd3_some]
  have hs:=q_r hv hb hi ha hok
  rw [l_2 hv hi h path]
  have hcl:=l_0 h.ch
  rw [hcl]
  -- the start's text is that of start_eq
  have tail:∀(f:Int->Option (List l_×Int)),bd (α:=Bool) (if (d.rules[i].kind==5) then some (d.rules[i].kind==5) else some (d.rules[i].kind==7)) (λJ=>bd (α:=Int) (if J then bd (idx d.rules[i].kids 0) λG=>bd3 (d_f d G b at_) λL H O=>some H else bd (α:=Int) (if (d.rules[i].kind==8) then some (b_ (at_:Int) 1) else some (at_:Int)) (λI=>some I)) f)=f ((a_x d.rules d.rules[i] at_:Nat):Int):=by
   intro f;generalize (if (d.rules[i].kind==5) then some (d.rules[i].kind==5) else some (d.rules[i].kind==7))=o at *
   cases o with
   | none=>cases hs
   | some x =>
    simp only [bd_some] at hs ⊢
    revert hs;generalize (if x then bd (idx d.rules[i].kids 0) λG=>bd3 (d_f d G b at_) λL H O=>some H else bd (α:=Int) (if (d.rules[i].kind==8) then some (b_ (at_:Int) 1) else some (at_:Int)) (λI=>some I))=V;intro hs
    cases V with
    | none=>cases hs
    | some y=>simp only [bd_some] at hs ⊢;rw [Option.some.inj hs]
  rw [tail]
  have hloop:=o_v (n:=m) hv hi hb (by omega) h.item hkk h.small (path:=path) (by omega) (λk hk p q hp W hq=>ih k hk (by omega) m (by omega) p q hp W (by omega)) _ rfl ks.length 0 (a_x d.rules d.rules[i] at_) (rdW d.rules b i at_).1.items e [(⟨path,(i:Int),(at_:Int),((rdW d.rules b i at_).2.1:Int)⟩:l_)] (by omega) (by simp) (by rw [List.drop_zero];exact h.ch)
  rw [hloop]
  rfl
theorem o_w {n:Nat}(hv:a_9 d=true)(hd:SmD d){i:Nat}(hi:i<d.rules.length)(hb:b.length<=400)(hn:30<=n){ks:List Int}{v:Val}(hitem:∀j (hj:j<ks.length),b_h d.rules[i] v.number j=ks[j])(hkk:∀k∈ks,0<=k/\k<(i:Int))(a3:ks.length<=40){path:Str}(hpath:path.b.length+32<=1000000)(B:Nat)
  (ih:∀k,k<i->∀p q (L:List l_),p<=b.length->(rdW d.rules b k p).2.2=0->q.b.length<=path.b.length+22->L.length<=B+400001->i_W n ⟨⟨d.rules⟩,b,L⟩ q k (rdW d.rules b k p).1 p=some (((rdW d.rules b k p).2.1:Int),L++ixW d.rules b k p q))
  (body:Nat->Int×(List l_)->Option (Out (Int×(List l_))<|Int×(List l_))) (hbd:body=(λG=>un2 λI J=>bd (cat path (⟨[47]⟩:Str)) λO=>bd (idx v.items ((G:Nat):Int)) λV=>bd (f_R n (⟨d.rules⟩:f_) i ((G:Nat):Int)) λW=>bd (cat O W) λY=>bd (f_S (⟨d.rules⟩:f_) i v ((G:Nat):Int)) λa0=>bd2 ((f_f n).impl_indexer_part (⟨(⟨d.rules⟩:f_),b,J⟩:d_I) Y a0 V I) λa1 a2=>some<|.next (a1,a2))) :
  ∀m k (pos:Nat) (vs:List Val) (e:Nat) (out:List l_),k+m=ks.length->out.length<=B+1+k * 10000->v.items.drop k=vs->e_x (λk p=>rdW d.rules b k.toNat p) b.length (ks.drop k) pos vs e ->
  u_ body m k ((pos:Int),out)=some (.inl ((e:Int),out++ixL (λk p q=>ixW d.rules b k.toNat p q) (λk p=>(rdW d.rules b k.toNat p).2.1) d.rules[i] path (ks.drop k) k pos))
 | 0,k,pos,vs,e,out,hk,_,_,hch=>by
  rw [List.drop_of_length_le (by omega)] at hch ⊢
  rw [hch.2]
  simp [u_,ixL]
 | m+1,k,pos,vs,e,out,hk,ho,hvs,hch=>by
  have hLIM:=a_o;have hr:=c_2 hv hi;have hlt:k<ks.length:=by omega
  rw [dC_ hlt] at hch ⊢
  obtain ⟨hp,H,ws,hws,hrest⟩:=hch
  simp only at H hrest hws
  have hkr:=hkk _<|gE_ hlt;have hst:=n_8 hr.kind k (by omega)
  rw [hws] at hvs
  have hlv:k<v.items.length:=by
   rcases Nat.lt_or_ge k v.items.length with h | h
   .exact h
   .rw [List.drop_of_length_le h] at hvs;cases hvs
  rw [dC_ hlv] at hvs
  obtain ⟨a4,a5⟩:=List.cons.inj hvs;have hsm:=n_9 hv hb (show ks[k].toNat<d.rules.length by omega) (c_K d.rules[i] path k) hp H
  have hone:body k ((pos:Int),out)=some (.next (((rdW d.rules b ks[k].toNat pos).2.1:Int),out++ixW d.rules b ks[k].toNat pos (c_K d.rules[i] path k))):=by
   rw [hbd]
   simp only [un2]
   have e3:f_S (⟨d.rules⟩:f_) i v (k:Int)=some (b_h d.rules[i] v.number k):=u_a (d:=⟨d.rules⟩) (ix_ hi) (h_Z hr.kind) v k;have e4:f_R n (⟨d.rules⟩:f_) i (k:Int)=some (e_7 d.rules[i] k):=v_D (d:=d) hv hd hn hi k
   rw [f_G (by simp only [lC_,List.length_nil];omega),bd_some,ix_ hlv,bd_some,e4,bd_some,f_G (by simp only [List.length_append,lC_,List.length_nil];omega),bd_some,e3,bd_some,hitem k hlt]
   have hrec:=ih ks[k].toNat (by omega) pos (c_K d.rules[i] path k) out hp H (n_a hr.kind (by omega)) (by omega)
   rw [show ((ks[k].toNat:Nat):Int)=ks[k] by omega] at hrec
   rw [a4,show (f_f n).impl_indexer_part (⟨⟨d.rules⟩,b,out⟩:d_I) ⟨path.b++[47]++(e_7 d.rules[i] k).b⟩ ks[k] (rdW d.rules b ks[k].toNat pos).1 (pos:Int)=i_W n ⟨⟨d.rules⟩,b,out⟩ (c_K d.rules[i] path k) ks[k] (rdW d.rules b ks[k].toNat pos).1 (pos:Int) from rfl,hrec]
   rfl
  unfold u_ ixL
  rw [hone]
  simp only
  rw [o_w hv hd hi hb hn hitem hkk a3 hpath B ih body hbd m (k+1) _ ws e _ (by omega) (by rw [List.length_append];omega) a5 hrest]
  simp
theorem t_r (hv:a_9 d=true)(hd:SmD d)(hb:b.length<=400):∀(i:Nat)(hi:i<d.rules.length),∀n,4 * i+600<=n->∀(at_:Nat)(path:Str)(L:List l_),at_<=b.length->(rdW d.rules b i at_).2.2=0->path.b.length+22 * i+32<=1000000->L.length+i * 400001<=40000000 ->
  i_W n ⟨⟨d.rules⟩,b,L⟩ path i (rdW d.rules b i at_).1 at_=some (((rdW d.rules b i at_).2.1:Int),L++ixW d.rules b i at_ path):=by
 intro i
 induction i using Nat.strongRecOn with
 | _ i ih =>
  intro hi n hn at_ path L ha hok hpath hL;have hLIM:=a_o;have hlen:=(c_J hv).2;obtain ⟨m,rfl⟩:∃m,n=m+1:=⟨n - 1,by omega⟩;obtain ⟨ks,e,h⟩:=g_D hv hi ha hok;have hkk:∀k∈ks,0<=k/\k<(i:Int):=λk hk=>(c_2 hv hi).kids k (h.kids k hk)
  show i_V m (f_f m) ⟨⟨d.rules⟩,b,L⟩ path i (rdW d.rules b i at_).1 at_=_
  unfold i_V
  simp only
  rw [b_o (by omega),bd_some,show (⟨d.rules⟩:f_)=d from rfl,v_x hd (by omega)]
  have J:okV d b (i:Int) (at_:Int)=true:=by
   unfold okV b_S
   rw [hv,dT_ (show (0:Int)<=(i:Int) by omega),dT_ (show (i:Int)<(d.rules.length:Int) by omega),dT_ (show (0:Int)<=(at_:Int) by omega),dT_ (show (at_:Int)<=(b.length:Int) by omega),dT_ (show (b.length:Int)<=400 by omega)]
   rfl
  have hrv:b_B d i b at_=c_3 (rdW d.rules b i at_):=by unfold b_B;rw [iP_ J];rfl
  rw [hrv]
  simp only [bd2_some]
  rw [ix_ hi,bd_some]
  have hs:=v_G hv hb hi ha
  rw [l_2 hv hi h path]
  have hcl:=l_0 h.ch
  rw [hcl]
  have tail:∀(f:Int->Option (Int×List l_)),bd (α:=Bool) (if (d.rules[i].kind==5) then some (d.rules[i].kind==5) else some (d.rules[i].kind==7)) (λO=>bd (α:=Int) (if O then bd (idx d.rules[i].kids 0) λG=>bd (idx d.rules G) λH=>some (b_ (at_:Int) H.size) else bd (α:=Int) (if (d.rules[i].kind==8) then some (b_ (at_:Int) 1) else some (at_:Int)) (λI=>some I)) f)=f ((a_x d.rules d.rules[i] at_:Nat):Int):=by
   intro f;generalize (if (d.rules[i].kind==5) then some (d.rules[i].kind==5) else some (d.rules[i].kind==7))=o at *
   cases o with
   | none=>cases hs
   | some x =>
    simp only [bd_some] at hs ⊢
    revert hs;generalize (if x then bd (idx d.rules[i].kids 0) λG=>bd (idx d.rules G) λH=>some (b_ (at_:Int) H.size) else bd (α:=Int) (if (d.rules[i].kind==8) then some (b_ (at_:Int) 1) else some (at_:Int)) (λI=>some I))=V;intro hs
    cases V with
    | none=>cases hs
    | some y=>simp only [bd_some] at hs ⊢;rw [Option.some.inj hs]
  rw [tail]
  have hloop:=o_w (n:=m) hv hd hi hb (by omega) h.item hkk h.small (path:=path) (by omega) L.length (λk hk p q L' hp W hq hL'=>ih k hk (by omega) m (by omega) p q L' hp W (by omega) (by
   have:(k+1) * 400001<=i * 400001:=Nat.mul_le_mul_right _ hk
   rw [Nat.succ_mul] at this
   omega)) _ rfl ks.length 0 (a_x d.rules d.rules[i] at_) (rdW d.rules b i at_).1.items e (L++[(⟨path,(i:Int),(at_:Int),0⟩:l_)]) (by omega) (by simp) (by rw [List.drop_zero]) (by rw [List.drop_zero];exact h.ch)
  rw [show (⟨d.rules⟩:f_)=d from rfl] at hloop
  rw [hloop]
  simp only [bd_some,el_inl,un2,List.drop_zero]
  generalize ixL (λk p q=>ixW d.rules b k.toNat p q) (λk p=>(rdW d.rules b k.toNat p).2.1) d.rules[i] path ks 0 (a_x d.rules d.rules[i] at_)=X
  rw [ix_ (k:=L.length) (by simp),bd_some]
  have Y:(L++[(⟨path,(i:Int),(at_:Int),0⟩:l_)]++X)[L.length]'(by simp)=(⟨path,(i:Int),(at_:Int),0⟩:l_):=by simp
  rw [Y,c_a (by simp),bd_some]
  unfold c_3
  simp
def okF (d:f_)(b:Bt):Bool:=(d_d d b).2.2==0
def b_z (d:f_)(b:Bt):List l_:=if okF d b then ixW d.rules b (d.rules.length - 1) 0 ⟨[]⟩ else []
theorem k_C (h:okF d b=true):a_9 d=true/\b.length<=400/\d.rules.length - 1<d.rules.length/\b_L d=((d.rules.length - 1:Nat):Int)/\(rdW d.rules b (d.rules.length - 1) 0).2.2=0/\(d_d d b).1=(rdW d.rules b (d.rules.length - 1) 0).1/\d_d d b=c_3 (rdW d.rules b (d.rules.length - 1) 0):=by
 unfold okF d_d at h
 have h1:¬((b_B d (b_L d) b 0).2.2=0/\(b_B d (b_L d) b 0).2.1<(b.length:Int)):=by
  intro hc;rw [iP_ hc] at h;simp at h
 rw [iN_ h1] at h
 have h2:(b_B d (b_L d) b 0).2.2=0:=by simpa using h
 have h3:okV d b (b_L d) 0=true:=by
  rcases Bool.eq_false_or_eq_true (okV d b (b_L d) 0) with h | h
  .exact h
  .unfold b_B at h2;rw [h] at h2;simp at h2
 obtain ⟨hv,hb,i,p,hi,hp,hil,_⟩:=l_1 h3;have hl:=c_J hv;have hroot:b_L d=((d.rules.length - 1:Nat):Int):=by unfold b_L;omega
 have e:b_B d (b_L d) b 0=c_3 (rdW d.rules b (d.rules.length - 1) 0):=by
  unfold b_B;rw [iP_ h3,hroot];rfl
 have G:d_d d b=c_3 (rdW d.rules b (d.rules.length - 1) 0):=by unfold d_d;rw [iN_ h1,e]
 refine ⟨hv,hb,by omega,hroot,?_,?_,G⟩
 .rw [e] at h2;exact h2
 .rw [G];rfl
theorem o_x (hd:SmD d){n:Nat}(hn:500<=n):g_V n d b=some (okF d b):=by
 unfold g_V okF
 rw [v_y hd hn];rfl
theorem t_s (hd:SmD d){n:Nat}(hn:1000<=n):i_U n d b=some (b_z d b,okF d b):=by
 unfold i_U b_z
 rw [o_x hd (by omega)]
 cases h:okF d b
 .rfl
 .obtain ⟨hv,hb,hlt,hroot,hok,_⟩:=k_C h;have hl:=c_J hv
  rw [q_m hd,hroot]
  have:=t_q hv hd hb (d.rules.length - 1) hlt n (by omega) 0 ⟨[]⟩ (by omega) hok (by simp;omega)
  rw [show (((0:Nat)):Int)=0 from rfl] at this
  simp only [bd_some,nT_,bF_,fF_]
  rw [this];rfl
theorem t_t (hd:SmD d){n:Nat}(hn:1000<=n):i_X n d b=some (b_z d b,okF d b):=by
 unfold i_X b_z
 rw [q_o hd (by omega)]
 cases h:okF d b
 .have h2:(d_d d b).2.2 ≠ 0:=by unfold okF at h;simpa using h
  generalize d_d d b=x at h2
  show (if (x.2.2 != 0) then _ else _)=_
  rw [show (x.2.2 != 0)=true by simpa using h2];rfl
 .obtain ⟨hv,hb,hlt,hroot,hok,G,hrf⟩:=k_C h;have hl:=c_J hv
  rw [hrf]
  show (if ((rdW d.rules b (d.rules.length - 1) 0).2.2 != 0) then _ else _)=_
  rw [hok]
  simp only [bN_,bF_,fF_]
  rw [q_l hd,hroot,bd_some]
  have:=t_r hv hd hb (d.rules.length - 1) hlt n (by omega) 0 ⟨[]⟩ [] (by omega) hok (by simp;omega) (by simp;omega)
  rw [show (((0:Nat)):Int)=0 from rfl] at this
  show bd2 (i_W n ⟨⟨d.rules⟩,b,[]⟩ ⟨[]⟩ ((d.rules.length - 1:Nat):Int) (rdW d.rules b (d.rules.length - 1) 0).1 0) _=_
  rw [this];rfl
end
end Go.Vw
