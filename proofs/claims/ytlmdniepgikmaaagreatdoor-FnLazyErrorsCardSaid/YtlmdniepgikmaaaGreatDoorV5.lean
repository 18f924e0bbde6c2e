import Derived.Test.YtlmdniepgikmaaaGreatDoorV4
namespace Go.Vw
open Go.RowKit Dat
theorem l_a (rd:Int->Nat->RR)(k:Int)(p:Nat):(W_ rd [k] p).2=((rd k p).2.1,(rd k p).2.2):=by
 unfold W_
 by_cases h:(rd k p).2.2=0
 .rw [iP_ h];simp [W_,h]
 .rw [iN_ h]
section
variable {d:f_}{b:Bt}
theorem n_y {rec_:a_9->Int->Int->Option (a_1×Int)}{ks:List Int}(rd:Int->Nat->RR)(L:Nat)
  (ih:∀k∈ks,∀(ap:Int)(p:Nat),p<=L->∃ap',rec_ ⟨⟨d.rules⟩,b,ap⟩ k p=some (⟨((rd k p).2.1:Int),(rd k p).2.2⟩,ap')) (hle:∀k∈ks,∀p,p<=L->(rd k p).2.1<=L) :
  ∀m k (ap:Int) (p:Nat),k+m=ks.length->p<=L->∃ap',F_ (σ:=Int×Int×Int) (ρ:=a_1×Int) (λO=>un3 λV W a1=>bd (idx ks ((O:Nat):Int)) λY=>bd2 (rec_ (⟨(⟨d.rules⟩:f_),b,V⟩:a_9) Y W) λG I=>if (G.code != 0) then some (.brk (I,G.at_,G.code)) else some (.next (I,G.at_,G.code))) m k (ap,(p:Int),0)=some (.inl (ap',((W_ rd (ks.drop k) p).2.1:Int),(W_ rd (ks.drop k) p).2.2))
 | 0,k,ap,p,hk,_=>by
  rw [List.drop_of_length_le (by omega)]
  exact ⟨ap,rfl⟩
 | m+1,k,ap,p,hk,hp=>by
  have hlt:k<ks.length:=by omega
  have hmem:=gE_ hlt
  rw [dC_ hlt]
  unfold F_ W_;obtain ⟨J,h1⟩:=ih ks[k] hmem ap p hp
  simp only [un3]
  rw [ix_ hlt,bd_some,h1]
  simp only [bd2_some]
  by_cases H:(rd ks[k] p).2.2=0
  .rw [show ((rd ks[k] p).2.2 != 0)=false by simpa using H,iP_ H]
   obtain ⟨a0,h2⟩:=n_y rd L ih hle m (k+1) J (rd ks[k] p).2.1 (by omega) (hle _ hmem p hp);refine ⟨a0,?_⟩
   simp only [bF_,fF_]
   rw [H,h2]
   by_cases h3:(W_ rd (ks.drop<|k+1) (rd ks[k] p).2.1).2.2=0
   .rw [iP_ h3,h3]
   .rw [iN_ h3]
  .rw [show ((rd ks[k] p).2.2 != 0)=true by simpa using H,iN_ H]
   exact ⟨J,rfl⟩
theorem n_z {rec_:a_9->Int->Int->Option (a_1×Int)}{ks:List Int}{kid:Int}(hkid:idx ks 1=some kid)(rd:Int->Nat->RR)(L:Nat)
  (ih:∀(ap:Int)(p:Nat),p<=L->∃ap',rec_ ⟨⟨d.rules⟩,b,ap⟩ kid p=some (⟨((rd kid p).2.1:Int),(rd kid p).2.2⟩,ap')) (hle:∀p,p<=L->(rd kid p).2.1<=L) :
  ∀(c:Nat)(ap:Int)(p:Nat),p<=L->c<=40->∀n,c+2<=n->∃x ap',a_7 (σ:=Int×Int×Int×Int) (ρ:=a_1×Int) (un4 λH I J O=>bd (α:=Bool) (if (decide<|0<H) then some (O==0) else some false) (λY=>if Y then bd (idx ks 1) λa0=>bd2 (rec_ (⟨(⟨d.rules⟩:f_),b,I⟩:a_9) a0 J) λV a1=>some (.next (N_ H 1,a1,V.at_,V.code)) else some (.brk (H,I,J,O)))) n ((c:Int),ap,(p:Int),0)=some (.inl (x,ap',((W_ rd (List.replicate c kid) p).2.1:Int),(W_ rd (List.replicate c kid) p).2.2))
 | 0,ap,p,hp,hc,n,hn=>by
  obtain ⟨m,rfl⟩:∃m,n=m+1:=⟨n - 1,by omega⟩;exact ⟨0,ap,rfl⟩
 | c+1,ap,p,hp,hc,n,hn=>by
  obtain ⟨m,rfl⟩:∃m,n=m+2:=⟨n - 2,by omega⟩;obtain ⟨W,h1⟩:=ih ap p hp
  rw [List.replicate_succ]
  unfold a_7 W_
  simp only [un4]
  rw [dT_ (show (0:Int)<((c+1:Nat):Int) by omega),hkid]
  simp only [fT_,bd_some,bQ_]
  rw [h1]
  simp only [bd2_some]
  rw [a_Y (x:=((c+1:Nat):Int)) (by omega) (by omega),show ((c+1:Nat):Int) - 1=(c:Int) by omega]
  by_cases G:(rd kid p).2.2=0
  .rw [iP_ G]
   obtain ⟨x,a2,h2⟩:=n_z hkid rd L ih hle c W (rd kid p).2.1 (hle p hp) (by omega) (m+1) (by omega);refine ⟨x,a2,?_⟩
   simp only [hkid,bd_some] at h2
   rw [G]
   rw [h2]
   by_cases h3:(W_ rd (List.replicate c kid) (rd kid p).2.1).2.2=0
   .rw [iP_ h3,h3]
   .rw [iN_ h3]
  .rw [iN_ G]
   refine ⟨(c:Int),W,?_⟩;unfold a_7
   simp only [un4]
   rw [show ((rd kid p).2.2==0)=false by simpa using G]
   cases decide (0<(c:Int)) <;> rfl
theorem s_8 (hv:U_ d=true)(hd:SmD d)(hb:b.length<=400):∀(i:Nat),i<d.rules.length->∀n,3 * i+410<=n->∀at_,at_<=b.length->∀ap,∃ap',o_3 n ⟨d,b,ap⟩ i at_=some (⟨((rdW d.rules b i at_).2.1:Int),(rdW d.rules b i at_).2.2⟩,ap'):=by
 have hMX:=MXv;intro i
 induction i using Nat.strongRecOn with
 | _ i ih =>
  intro hi n hn at_ ha ap;have hlen:=(b_F hv).2;obtain ⟨m,rfl⟩:∃m,n=m+3:=⟨n - 3,by omega⟩
  rw [c_S hv hi ha]
  have hr:=b_9 hv hi;have hal:=e_l hr.kind;have hsm:=hd.each d.rules[i] (gE_ hi);have hidx:idx d.rules (i:Int)=some d.rules[i]:=ix_ hi;generalize hrr:d.rules[i]=r at *
  have hkk:=e_m hr.kind
  show ∃ap',h_t (m+2) (a_K<|m+2) ⟨d,b,ap⟩ i at_=_
  unfold h_t rdB
  simp only
  rw [hidx,bd_some]
  have hle:∀k∈r.kids,∀p,p<=b.length->p<=(rdW d.rules b k.toNat p).2.1/\(rdW d.rules b k.toNat p).2.1<=b.length:=λk hk p hp=>by
   have:=hr.kids k hk;exact b_o hv k.toNat (by omega) p hp
  have hrec:∀q,m<=q->∀k∈r.kids,∀(ap:Int)(p:Nat),p<=b.length->∃ap',(a_K q).impl_checker_value ⟨⟨d.rules⟩,b,ap⟩ k p=some (⟨((rdW d.rules b k.toNat p).2.1:Int),(rdW d.rules b k.toNat p).2.2⟩,ap'):=λq hq k hk ap p hp=>by
   have:=hr.kids k hk;have h:=ih k.toNat (by omega) (by omega) q (by omega) p hp ap
   rw [show ((k.toNat:Nat):Int)=k by omega] at h
   exact h
  by_cases h1:r.kind=1
  .rw [h1];simp only [bQ_,fT_]
   rw [j_e hidx (f_E hr.kind h1) (by omega) ha]
   cases Y_ b r at_ <;> exact ⟨_,rfl⟩
  rw [show (r.kind==1)=false by simpa using h1]
  by_cases h2:r.kind=2
  .rw [h2];simp only [bQ_,fT_,bF_,fF_]
   rw [r_J (by omega) ha hsm.bytes]
   exact ⟨_,rfl⟩
  rw [show (r.kind==2)=false by simpa using h2]
  by_cases h3:r.kind=3
  .rw [h3];simp only [bQ_,fT_,bF_,fF_]
   have:=f_F hr.kind h3
   rw [g_Q (by omega) ha (by omega) (by omega)]
   unfold a_y
   split <;> exact ⟨_,rfl⟩
  rw [show (r.kind==3)=false by simpa using h3]
  by_cases h4:r.kind=4
  .rw [h4];simp only [bQ_,fT_,bF_,fF_]
   have hs:=f_G hr.kind h4;have hq:=b_q hs.1
   rw [b_D (by omega),bd_some,j_e hq.1 hq.2 (by omega) ha]
   cases hi:Y_ b (K_ d.rules<|C_ r) at_ with
   | none=>exact ⟨_,rfl⟩
   | some num =>
    have hrg:=b_Q hq.2 hi
    simp only [bd3_some,bN_,bF_,fF_]
    rw [g_Q (by omega) (by omega) (by omega) (by omega)]
    unfold a_y
    split <;> exact ⟨_,rfl⟩
  rw [show (r.kind==4)=false by simpa using h4]
  by_cases O:r.kind=10
  .rw [O];simp only [bQ_,fT_,bF_,fF_,show ((10:Int)==5)=false from rfl,show ((10:Int)==6)=false from rfl,show ((10:Int)==7)=false from rfl,show ((10:Int)==8)=false from rfl,show ((10:Int)==9)=false from rfl]
   have V:=l_4 hr.kind O
   rw [a_Z (by omega),bd_some,a_r (show 0<r.bytes.length by omega),m_Z _ _ _ _ (by omega) ha (by omega)]
   cases c_l b at_ r.bytes[0] with
   | none=>exact ⟨_,rfl⟩
   | some x=>exact ⟨_,rfl⟩
  rw [show (r.kind==10)=false by simpa using O]
  by_cases h5:r.kind=5
  .rw [h5];simp only [bQ_,fT_,bF_,fF_]
   have hs:=c_R hr.kind h5;have hq:=b_q hs.1;have hmem:r.kids.getD 1 0∈r.kids:=b_G (by omega)
   rw [show (a_K<|m+2).impl_checker_array=h_u (m+1) (a_K<|m+1) from rfl]
   unfold h_u
   simp only
   rw [b_D (by omega),bd_some,j_e hq.1 hq.2 (by omega) ha]
   have hhd:Q_ d.rules b r at_=(match Y_ b (K_ d.rules<|C_ r) at_ with | none=>.inl 1 | some n=>if 40<n then .inl 6 else .inr (0,List.replicate n.toNat<|r.kids.getD 1 0,at_+(K_ d.rules<|C_ r).size.toNat)):=by unfold Q_;rw [h5];rfl
   rw [hhd]
   cases hi:Y_ b (K_ d.rules<|C_ r) at_ with
   | none=>exact ⟨_,rfl⟩
   | some num =>
    have hrg:=b_Q hq.2 hi
    simp only [bd3_some,bQ_,fT_,bd_some]
    by_cases J:40<num
    .rw [dT_ J,iP_ J];exact ⟨_,rfl⟩
    .rw [dF_ J,iN_ J]
     simp only [bF_,fF_]
     obtain ⟨x,ap',h⟩:=n_z (d:=d) (b:=b) (rec_:=(a_K<|m+1).impl_checker_value) (ks:=r.kids) (kid:=r.kids.getD 1 0) (by rw [f_K (by omega),a_r (by omega)]) (λk p=>rdW d.rules b k.toNat p) b.length (λap p hp=>hrec (m+1) (by omega) _ hmem ap p hp) (λp hp=>(hle _ hmem p hp).2) num.toNat (i_ (i_ ap 1) 1) (at_+(K_ d.rules<|C_ r).size.toNat) (by omega) (by omega) (m+1) (by omega)
     rw [show ((num.toNat:Nat):Int)=num by omega] at h
     rw [h]
     unfold a_J;generalize W_ (λk p=>rdW d.rules b k.toNat p) (List.replicate num.toNat<|r.kids.getD 1 0) (at_+(K_ d.rules<|C_ r).size.toNat)=y
     rw [h5]
     refine ⟨ap',?_⟩
     by_cases G:y.2.2=0
     .rw [iP_ G,G];rfl
     .rw [iN_ G];rfl
  rw [show (r.kind==5)=false by simpa using h5]
  by_cases h6:r.kind=6
  .rw [h6];simp only [bQ_,fT_,bF_,fF_]
   have hs:=d_E hr.kind h6;obtain ⟨ap',h⟩:=n_y (d:=d) (b:=b) (rec_:=(a_K<|m+2).impl_checker_value) (ks:=r.kids) (λk p=>rdW d.rules b k.toNat p) b.length (λk hk ap p hp=>hrec (m+2) (by omega) k hk ap p hp) (λk hk p hp=>(hle k hk p hp).2) r.kids.length 0 (i_ ap 1) at_ (by omega) ha
   rw [h]
   rw [show Q_ d.rules b r at_ = .inr (0,r.kids,at_) by unfold Q_;rw [h6];rfl]
   simp only
   unfold a_J
   rw [List.drop_zero]
   generalize W_ (λk p=>rdW d.rules b k.toNat p) r.kids at_=y
   rw [h6]
   refine ⟨ap',?_⟩
   by_cases G:y.2.2=0
   .rw [iP_ G,G];rfl
   .rw [iN_ G];rfl
  rw [show (r.kind==6)=false by simpa using h6]
  by_cases I:r.kind=7
  .rw [I];simp only [bQ_,fT_,bF_,fF_]
   have hs:=d_l hr.kind I;have hq:=b_q hs.1
   rw [show (a_K<|m+2).impl_checker_choice=h_v (m+1) (a_K<|m+1) from rfl]
   unfold h_v
   simp only
   rw [b_D (by omega),bd_some,j_e hq.1 hq.2 (by omega) ha]
   have hhd:Q_ d.rules b r at_=(match Y_ b (K_ d.rules<|C_ r) at_ with | none=>.inl 1 | some n=>match a_U r.tags n with | none=>.inl 3 | some k=>.inr (n,[r.kids.getD (k+1) 0],at_+(K_ d.rules<|C_ r).size.toNat)):=by unfold Q_;rw [I];rfl
   rw [hhd]
   cases hi:Y_ b (K_ d.rules<|C_ r) at_ with
   | none=>exact ⟨_,rfl⟩
   | some num =>
    have hrg:=b_Q hq.2 hi
    simp only [bd3_some,bN_,bF_,fF_]
    cases ht:a_U r.tags num with
    | none =>
     have htn:=n_v ht
     rw [e_t (λ_=>()) (n:=r.tags.length) (λj hj=>by
      have:=htn j hj
      rw [a_r hj] at this
      rw [ix_ hj,bd_some,show (r.tags[j]==num)=false by simpa using this];rfl)]
     exact ⟨_,rfl⟩
    | some k =>
     obtain ⟨htl,hte,htb⟩:=n_u ht;have hmem:r.kids.getD (k+1) 0∈r.kids:=b_G (by omega);obtain ⟨ap',h⟩:=hrec (m+1) (by omega) _ hmem (i_ (i_ ap 1) 1) (at_+(K_ d.rules<|C_ r).size.toNat) (by omega)
     rw [j_n (λ_=>()) (n:=r.tags.length) (j0:=k) (r:=(⟨((rdW d.rules b (r.kids.getD (k+1) 0).toNat (at_+(K_ d.rules (C_ r)).size.toNat)).2.1:Int),(rdW d.rules b (r.kids.getD (k+1) 0).toNat (at_+(K_ d.rules (C_ r)).size.toNat)).2.2⟩,ap')) htl (λj hj=>by
      have:=htb j hj
      rw [a_r (show j<r.tags.length by omega)] at this
      rw [ix_ (show j<r.tags.length by omega),bd_some,show (r.tags[j]==num)=false by simpa using this];rfl) (by
      rw [a_r htl] at hte
      rw [ix_ htl,bd_some,show (r.tags[k]==num)=true by simpa using hte,iP_ rfl,ix_ (show k+1<r.kids.length by omega),bd_some,← a_r (x:=0) (show k+1<r.kids.length by omega),h]
      rfl)]
     simp only [bd_some,el_inr]
     unfold a_J;have ho:=l_a (λk p=>rdW d.rules b k.toNat p) (r.kids.getD (k+1) 0)<|at_+(K_ d.rules<|C_ r).size.toNat;generalize W_ (λk p=>rdW d.rules b k.toNat p) [r.kids.getD (k+1) 0] (at_+(K_ d.rules<|C_ r).size.toNat)=y at ho
     rw [I,ho]
     refine ⟨ap',?_⟩
     by_cases G:(rdW d.rules b (r.kids.getD (k+1) 0).toNat (at_+(K_ d.rules<|C_ r).size.toNat)).2.2=0
     .rw [iP_ G,G];rfl
     .rw [iN_ G];rfl
  rw [show (r.kind==7)=false by simpa using I]
  by_cases H:r.kind=8
  .rw [H];simp only [bQ_,fT_,bF_,fF_]
   have hs:=c_E hr.kind<|.inl H;have hmem:r.kids.getD 0 0∈r.kids:=b_G (by omega)
   rw [show (a_K<|m+2).impl_checker_option=h_w (m+1) (a_K<|m+1) from rfl]
   unfold h_w
   simp only
   have hhd:Q_ d.rules b r at_=(match b[at_]? with | none=>.inl 1 | some c=>if 1<byteI c then .inl 4 else .inr (0,List.replicate c.toNat<|r.kids.getD 0 0,at_+1)):=by unfold Q_;rw [H];rfl
   rw [hhd,g_Q (by omega) ha (by omega) (by omega)]
   by_cases hlt:at_<b.length
   .rw [iN_ (show ¬(b.length:Int) - at_<1 by omega),gG_ hlt]
    simp only [bd_some,bN_,bF_,fF_]
    rw [ix_ hlt]
    simp only [bd_some]
    by_cases hz:byteI b[at_]=0
    .rw [show (byteI b[at_]==byteI (0:UInt8))=true by rw [beq_iff_eq];exact hz,iN_ (show ¬1<byteI b[at_] by rw [hz];omega)]
     rw [show b[at_].toNat=0 by unfold byteI at hz;omega]
     unfold a_J
     rw [H]
     exact ⟨_,rfl⟩
    .rw [show (byteI b[at_]==byteI (0:UInt8))=false by rw [beq_eq_false_iff_ne];exact hz]
     simp only [bF_,fF_]
     by_cases hc:1<byteI b[at_]
     .rw [iP_ hc,dT_ (show byteI (1:UInt8)<byteI b[at_] from hc)];exact ⟨_,rfl⟩
     .rw [iN_ hc,dF_ (show ¬byteI (1:UInt8)<byteI b[at_] from hc)]
      simp only [bF_,fF_]
      rw [show b[at_].toNat=1 by unfold byteI at hz hc;omega]
      obtain ⟨ap',h⟩:=hrec (m+1) (by omega) _ hmem (i_ ap 1) (at_+1) (by omega)
      rw [a_Z (by omega),bd_some,← a_r (x:=0) (show 0<r.kids.length by omega)]
      rw [show (1:Int).toNat=1 from rfl,h]
      unfold a_J;have ho:=l_a (λk p=>rdW d.rules b k.toNat p) (r.kids.getD 0 0)<|at_+1
      rw [show List.replicate 1 (r.kids.getD 0 0)=[r.kids.getD 0 0] from rfl]
      generalize W_ (λk p=>rdW d.rules b k.toNat p) [r.kids.getD 0 0] (at_+1)=y at ho
      rw [H,ho]
      refine ⟨ap',?_⟩
      by_cases G:(rdW d.rules b (r.kids.getD 0 0).toNat (at_+1)).2.2=0
      .rw [iP_ G,G];rfl
      .rw [iN_ G];rfl
   .rw [iP_ (show (b.length:Int) - at_<1 by omega),gN_ (by omega)];exact ⟨_,rfl⟩
  rw [show (r.kind==8)=false by simpa using H]
  have L:r.kind=9:=by omega
  rw [L];simp only [bQ_,fT_,bF_,fF_]
  have hs:=c_E hr.kind<|.inr L;have hmem:r.kids.getD 0 0∈r.kids:=b_G (by omega)
  rw [show (a_K<|m+2).impl_checker_checked=h_x (m+1) (a_K<|m+1) from rfl]
  unfold h_x
  simp only
  rw [show Q_ d.rules b r at_ = .inr (0,[r.kids.getD 0 0],at_) by unfold Q_;rw [L];rfl]
  obtain ⟨ap',h⟩:=hrec (m+1) (by omega) _ hmem (i_ ap 1) at_ ha
  rw [a_Z (by omega),bd_some,← a_r (x:=0) (show 0<r.kids.length by omega),h]
  simp only
  have hx:=hle _ hmem at_ ha;have ho:=l_a (λk p=>rdW d.rules b k.toNat p) (r.kids.getD 0 0) at_;unfold a_J;generalize W_ (λk p=>rdW d.rules b k.toNat p) [r.kids.getD 0 0] at_=y at ho
  rw [L,ho]
  generalize rdW d.rules b (r.kids.getD 0 0).toNat at_=x at hx
  simp only [bd2_some]
  by_cases G:x.2.2=0
  .rw [iP_ G,show (x.2.2 != 0)=false by simpa using G]
   simp only [bF_,fF_,bQ_,fT_]
   rw [g_Q (by omega) hx.2 (by omega) (by omega)]
   by_cases hlt:x.2.1<b.length
   .rw [iN_ (show ¬(b.length:Int) - x.2.1<1 by omega),gG_ hlt]
    simp only [bd_some,bQ_,fT_]
    rw [ix_ hlt,bd_some,c_t hx.1 (by omega),bd_some,m_W _ (by rw [d_D (by omega)];omega),bd_some]
    by_cases hsum:byteI b[x.2.1]=b_Z (piece b at_ x.2.1)
    .rw [show (byteI b[x.2.1] != b_Z (piece b at_ x.2.1))=false by simpa using hsum,iP_ hsum];exact ⟨_,rfl⟩
    .rw [show (byteI b[x.2.1] != b_Z (piece b at_ x.2.1))=true by simpa using hsum,iN_ hsum];exact ⟨_,rfl⟩
   .rw [iP_ (show (b.length:Int) - x.2.1<1 by omega),gN_ (by omega)];exact ⟨_,rfl⟩
  .rw [iN_ G,show (x.2.2 != 0)=true by simpa using G]
   exact ⟨_,rfl⟩
end
end Go.Vw
namespace Go.Vw
open Go.RowKit Dat
section
variable {d:f_}{b:Bt}
theorem s_9 {r:d_}{num:Int}{p:Nat}{x:List Val×Nat×Int}(h:(a_J b r num p x).2.2 ≠ 0):(a_J b r num p x).1=zV:=by
 unfold a_J at *
 split
 .rename_i H
  rw [iP_ H] at h
  split
  .rename_i G
   rw [iP_ G] at h
   cases hb:b[x.2.1]? with
   | none=>rfl
   | some c =>
    rw [hb] at h
    simp only at h ⊢
    split
    .rename_i hs;rw [iP_ hs] at h;exact absurd rfl h
    .rfl
  .rename_i G;rw [iN_ G] at h;exact absurd rfl h
 .rfl
theorem rdB_zV {rs:List d_}{r:d_}{p:Nat}{rd:Int->Nat->RR}(h:(rdB rs b r p rd).2.2 ≠ 0):(rdB rs b r p rd).1=zV:=by
 have hby:∀p n,(a_y b p n).2.2 ≠ 0->(a_y b p n).1=zV:=λp n h=>by
  unfold a_y at *
  split
  .rfl
  .rename_i G;rw [iN_ G] at h;exact absurd rfl h
 unfold rdB at *
 split
 .rename_i h1;rw [iP_ h1] at h
  cases hd:Y_ b r p with
  | none=>rfl
  | some n=>rw [hd] at h;exact absurd rfl h
 rename_i h1;rw [iN_ h1] at h
 split
 .rfl
 rename_i h2;rw [iN_ h2] at h
 split
 .rename_i h3;rw [iP_ h3] at h;exact hby _ _ h
 rename_i h3;rw [iN_ h3] at h
 split
 .rename_i h4;rw [iP_ h4] at h
  cases hd:Y_ b (K_ rs<|C_ r) p with
  | none=>rfl
  | some n=>rw [hd] at h;exact hby _ _ h
 rename_i h4;rw [iN_ h4] at h
 split
 .rename_i h5;rw [iP_ h5] at h
  cases hd:c_l b p (r.bytes.getD 0 0) with
  | none=>rfl
  | some n=>rw [hd] at h;exact absurd rfl h
 rename_i h5;rw [iN_ h5] at h
 cases hh:Q_ rs b r p with
 | inl c=>rfl
 | inr x=>rw [hh] at h;exact s_9 h
theorem n_A {i at_:Nat}(h:(rdW d.rules b i at_).2.2 ≠ 0):(rdW d.rules b i at_).1=zV:=by
 rw [rdW] at *;exact rdB_zV h
def d_G (rd:Int->Nat->RR)(L:Nat):List Int->Nat->List Val->Nat->Prop
 | [],p,vs,e=>vs=[]/\e=p
 | k::ks,p,vs,e=>p<=L/\(rd k p).2.2=0/\∃ws,vs=(rd k p).1::ws/\d_G rd L ks (rd k p).2.1 ws e
theorem l_b {rd:Int->Nat->RR}{L:Nat}:∀(ks:List Int)(p:Nat),p<=L->(∀k∈ks,∀p,p<=L->(rd k p).2.1<=L)->(W_ rd ks p).2.2=0->d_G rd L ks p (W_ rd ks p).1 (W_ rd ks p).2.1
 | [],p,_,_,_=>⟨rfl,rfl⟩
 | k::ks,p,hp,hle,h=>by
  unfold W_ at *
  by_cases G:(rd k p).2.2=0
  .rw [iP_ G] at *
   by_cases h1:(W_ rd ks (rd k p).2.1).2.2=0
   .rw [iP_ h1] at *
    exact ⟨hp,G,_,rfl,l_b ks _ (hle k mS_ p hp) (λk hk=>hle k<|mT_ _ hk) h1⟩
   .rw [iN_ h1] at h;exact absurd h h1
  .rw [iN_ G] at h;exact absurd h G
theorem g_T {rd:Int->Nat->RR}{L:Nat}:∀{ks:List Int}{p:Nat}{vs:List Val}{e:Nat},d_G rd L ks p vs e->vs.length=ks.length
 | [],_,_,_,h=>by rw [h.1];rfl
 | _::_,_,_,_,h=>by obtain ⟨_,_,ws,rfl,h⟩:=h;simp [g_T h]
def a_s (rs:List d_)(r:d_)(at_:Nat):Nat:=if r.kind==5 || r.kind==7 then at_+(K_ rs<|C_ r).size.toNat else if r.kind==8 then at_+1 else at_
theorem j_k {rs:List d_}{r:d_}{at_:Nat}(h:a_q rs r=true)(hk:5<=r.kind/\r.kind<=9){num:Int}{ks:List Int}{st:Nat}(hh:Q_ rs b r at_ = .inr (num,ks,st)) :
  (∀j (hj:j<ks.length),a_8 r num j=ks[j])/\st=a_s rs r at_/\(r.kind=9->num=0):=by
 unfold Q_ at hh
 by_cases h5:r.kind=5
 .rw [h5] at hh
  simp only [bQ_,fT_] at hh
  cases hi:Y_ b (K_ rs<|C_ r) at_ with
  | none=>rw [hi] at hh;cases hh
  | some n =>
   rw [hi] at hh
   simp only at hh
   split at hh
   .cases hh
   .cases hh
    refine ⟨λj hj=>by unfold a_8;rw [h5];simp,by unfold a_s;rw [h5];rfl,by omega⟩
 rw [show (r.kind==5)=false by simpa using h5] at hh
 by_cases h6:r.kind=6
 .rw [h6] at hh
  simp only [bF_,fF_,bQ_,fT_] at hh
  cases hh
  exact ⟨λj hj=>by unfold a_8;rw [h6];simp [hj],by unfold a_s;rw [h6];rfl,by omega⟩
 rw [show (r.kind==6)=false by simpa using h6] at hh
 by_cases G:r.kind=7
 .rw [G] at hh
  simp only [bF_,fF_,bQ_,fT_] at hh
  cases hi:Y_ b (K_ rs<|C_ r) at_ with
  | none=>rw [hi] at hh;cases hh
  | some n =>
   rw [hi] at hh
   simp only at hh
   cases ht:a_U r.tags n with
   | none=>rw [ht] at hh;cases hh
   | some k =>
    rw [ht] at hh
    cases hh
    refine ⟨λj hj=>?_,by unfold a_s;rw [G];rfl,by omega⟩;have:j=0:=by simpa using hj
    subst this;unfold a_8;rw [G];simp [ht]
 rw [show (r.kind==7)=false by simpa using G] at hh
 by_cases H:r.kind=8
 .rw [H] at hh
  simp only [bF_,fF_,bQ_,fT_] at hh
  cases hi:b[at_]? with
  | none=>rw [hi] at hh;cases hh
  | some c =>
   rw [hi] at hh
   simp only at hh
   split at hh
   .cases hh
   .cases hh
    exact ⟨λj hj=>by unfold a_8;rw [H];simp,by unfold a_s;rw [H];rfl,by omega⟩
 rw [show (r.kind==8)=false by simpa using H] at hh
 simp only [bF_,fF_] at hh
 cases hh
 have I:r.kind=9:=by omega
 refine ⟨λj hj=>?_,by unfold a_s;rw [I];rfl,λ_=>rfl⟩;have:j=0:=by simpa using hj
 subst this;unfold a_8;rw [I];simp
structure RdOk (d:f_)(b:Bt)(r:d_)(at_:Nat)(x:RR)(ks:List Int)(e:Nat):Prop where
 item:∀j (hj:j<ks.length),a_8 r x.1.number j=ks[j]
 kids:∀k∈ks,k∈r.kids
 small:ks.length<=40
 ch:d_G (λk p=>rdW d.rules b k.toNat p) b.length ks (a_s d.rules r at_) x.1.items e
 st:at_<=a_s d.rules r at_/\a_s d.rules r at_<=b.length
 se:a_s d.rules r at_<=e
 le:e<=x.2.1
 go:at_<x.2.1∨(e=x.2.1/\a_s d.rules r at_=at_/\ks ≠ [])
theorem f_3 (hv:U_ d=true){i:Nat}(hi:i<d.rules.length){at_:Nat}(ha:at_<=b.length)(hok:(rdW d.rules b i at_).2.2=0) :
  ∃ks e,RdOk d b d.rules[i] at_ (rdW d.rules b i at_) ks e:=by
 have hbase:=b_o (b:=b) hv i hi at_ ha
 rw [c_S hv hi ha] at *
 have hr:=b_9 hv hi;have hal:=e_l hr.kind;generalize hrr:d.rules[i]=r at *
 have leaf:∀(x:RR),a_s d.rules r at_=at_->at_<x.2.1->x.1.items=[]->∃ks e,RdOk d b r at_ x ks e:=λx h1 h2 h3 =>
  ⟨[],at_,λj hj=>by simp at hj,λk hk=>by simp at hk,by simp,by rw [h3,h1];exact ⟨rfl,rfl⟩,by rw [h1];exact ⟨Nat.le_refl _,ha⟩,by rw [h1];exact Nat.le_refl _,Nat.le_of_lt h2,.inl h2⟩
 have hby:∀p n,(a_y b p n).2.2=0->(a_y b p n).1.items=[]/\(a_y b p n).2.1=p+n.toNat:=λp n h=>by
  unfold a_y at *
  split at h
  .cases h
  .rename_i G;rw [iN_ G];exact ⟨rfl,rfl⟩
 unfold rdB at *
 by_cases h1:r.kind=1
 .rw [h1] at hok ⊢;simp only [bQ_,fT_] at hok ⊢
  have hst:a_s d.rules r at_=at_:=by unfold a_s;rw [h1];rfl
  cases hd:Y_ b r at_ with
  | none=>rw [hd] at hok;cases hok
  | some n=>have:=(f_E hr.kind h1).2.1;exact leaf _ hst (by simp only;omega) rfl
 rw [show (r.kind==1)=false by simpa using h1] at *
 by_cases h2:r.kind=2
 .rw [h2] at hok ⊢
  have hst:a_s d.rules r at_=at_:=by unfold a_s;rw [h2];rfl
  have:=r_M hr.kind h2
  exact leaf _ hst (by
   have h:=n_i (show (b_5 b r.bytes at_).2=0 from hok)
   show at_<(b_5 b r.bytes at_).1
   omega) rfl
 rw [show (r.kind==2)=false by simpa using h2] at *
 by_cases h3:r.kind=3
 .rw [h3] at hok ⊢
  have hst:a_s d.rules r at_=at_:=by unfold a_s;rw [h3];rfl
  have:=f_F hr.kind h3;have h:=hby at_ r.size hok
  exact leaf _ hst (by
   show at_<(a_y b at_ r.size).2.1
   omega) h.1
 rw [show (r.kind==3)=false by simpa using h3] at *
 by_cases h4:r.kind=4
 .rw [h4] at hok ⊢;simp only [bF_,fF_,bQ_,fT_] at hok ⊢
  have hst:a_s d.rules r at_=at_:=by unfold a_s;rw [h4];rfl
  cases hd:Y_ b (K_ d.rules<|C_ r) at_ with
  | none=>rw [hd] at hok;cases hok
  | some n =>
   rw [hd] at hok
   have:=(b_q (f_G hr.kind h4).1).2.2.1;have h:=hby _ n hok;exact leaf _ hst (by simp only;omega) h.1
 rw [show (r.kind==4)=false by simpa using h4] at *
 by_cases H:r.kind=10
 .rw [H] at hok ⊢;simp only [bF_,fF_,bQ_,fT_] at hok ⊢
  have hst:a_s d.rules r at_=at_:=by unfold a_s;rw [H];rfl
  cases hd:c_l b at_ (r.bytes.getD 0 0) with
  | none=>rw [hd] at hok;cases hok
  | some x=>have:=f_C _ _ _ _ _ hd;exact leaf _ hst (by simp only;omega) rfl
 rw [show (r.kind==10)=false by simpa using H] at *
 simp only [bF_,fF_] at hok ⊢
 cases hh:Q_ d.rules b r at_ with
 | inl c=>rw [hh] at hok;exact absurd hok (by
   intro hc
   simp only at hc
   subst hc;unfold Q_ at hh
   split at hh
   .cases hi:Y_ b (K_ d.rules<|C_ r) at_ with
    | none=>rw [hi] at hh;cases hh
    | some n=>rw [hi] at hh;simp only at hh;split at hh <;> cases hh
   split at hh
   .cases hh
   split at hh
   .cases hi:Y_ b (K_ d.rules<|C_ r) at_ with
    | none=>rw [hi] at hh;cases hh
    | some n =>
     rw [hi] at hh;simp only at hh
     cases ht:a_U r.tags n with
     | none=>rw [ht] at hh;cases hh
     | some k=>rw [ht] at hh;cases hh
   split at hh
   .cases hi:b[at_]? with
    | none=>rw [hi] at hh;cases hh
    | some c=>rw [hi] at hh;simp only at hh;split at hh <;> cases hh
   .cases hh)
 | inr y =>
  obtain ⟨num,ks,st⟩:=y
  rw [hh] at hok
  simp only at hok ⊢
  have hk:=e_n hr.kind (by omega) ha hh;obtain ⟨hitem,hst,J⟩:=j_k hr.kind (by omega) hh
  have hlek:∀k∈ks,∀p,p<=b.length->p<=(rdW d.rules b k.toNat p).2.1/\(rdW d.rules b k.toNat p).2.1<=b.length:=λk hk' p hp=>by
   have:=hr.kids k<|hk.1 k hk';exact b_o hv k.toNat (by omega) p hp
  have hile:=f_1 (rd:=λk p=>rdW d.rules b k.toNat p) (L:=b.length) ks st hk.2.2.1 hlek;have hch:=l_b (rd:=λk p=>rdW d.rules b k.toNat p) (L:=b.length) ks st hk.2.2.1<|λk hk' p hp=>(hlek k hk' p hp).2;generalize W_ (λk p=>rdW d.rules b k.toNat p) ks st=x at *
  have G:x.2.2=0:=by
   unfold a_J at hok
   split at hok
   .assumption
   .rename_i hx;exact absurd hok hx
  have hch:=hch G
  have hnk:r.kind=6∨r.kind=9->ks ≠ []:=by
   intro O hnil;unfold Q_ at hh
   rcases O with h | h
   .rw [h] at hh
    have:=d_E hr.kind h
    cases hh
    rw [hnil] at this;simp at this
   .rw [h] at hh;cases hh;cases hnil
  subst hst;refine ⟨ks,x.2.1,?_⟩;unfold a_J at hok ⊢
  rw [iP_ G] at hok ⊢
  by_cases I:r.kind=9
  .rw [show (r.kind==9)=true by simpa using I] at hok ⊢
   simp only [fT_] at hok ⊢
   cases hb:b[x.2.1]? with
   | none=>rw [hb] at hok;cases hok
   | some c =>
    rw [hb] at hok
    simp only at hok ⊢
    by_cases hs:byteI c=b_Z (piece b at_ x.2.1)
    .rw [iP_ hs]
     have:=J I;subst this;exact ⟨hitem,hk.1,hk.2.2.2.1,hch,⟨hk.2.1,hk.2.2.1⟩,hile.1,by simp only;omega,.inl (by simp only;omega)⟩
    .rw [iN_ hs] at hok;cases hok
  .rw [show (r.kind==9)=false by simpa using I]
   simp only [bF_,fF_]
   refine ⟨hitem,hk.1,hk.2.2.2.1,hch,⟨hk.2.1,hk.2.2.1⟩,hile.1,Nat.le_refl _,?_⟩
   by_cases hst:a_s d.rules r at_=at_
   .exact .inr ⟨rfl,hst,hnk<|hk.2.2.2.2 hst⟩
   .left;simp only;omega
theorem n_B (hv:U_ d=true):∀(i:Nat),i<d.rules.length->∀at_,at_<=b.length->(rdW d.rules b i at_).2.2=0->at_<(rdW d.rules b i at_).2.1:=by
 intro i
 induction i using Nat.strongRecOn with
 | _ i ih =>
  intro hi at_ ha hok;obtain ⟨ks,e,h⟩:=f_3 hv hi ha hok
  rcases h.go with hgo | ⟨he,hst,hne⟩
  .exact hgo
  .have hch:=h.ch
   cases ks with
   | nil=>exact absurd rfl hne
   | cons k ks =>
    obtain ⟨hp,G,ws,hws,hrest⟩:=hch;have hkid:=(b_9 hv hi).kids k (h.kids k mS_);have hlt:=ih k.toNat (by omega) (by omega) _ hp G
    have hmono:∀(ks:List Int)(p:Nat)(vs:List Val)(e:Nat),p<=b.length->(∀k∈ks,0<=k/\k<(i:Int))->d_G (λk p=>rdW d.rules b k.toNat p) b.length ks p vs e->p<=e:=by
     intro ks
     induction ks with
     | nil=>intro p vs e _ _ h;rw [h.2];exact Nat.le_refl _
     | cons k ks ihk =>
      intro p vs e hp hkk h;obtain ⟨_,_,ws,_,h⟩:=h;have hk:=hkk k mS_;have hl:=b_o (b:=b) hv k.toNat (by omega) p hp;have:=ihk _ ws e hl.2 (λk hk=>hkk k<|mT_ _ hk) h
      omega
    have:=hmono ks _ ws e (b_o hv k.toNat (by omega) _ hp).2 (λk' hk'=>(b_9 hv hi).kids k' (h.kids k'<|mT_ _ hk')) hrest
    omega
def okV (d:f_)(b:Bt)(rule at_:Int):Bool:=(U_ d && b_E d rule) && ((decide (0<=at_) && decide (at_<=(b.length:Int))) && decide ((b.length:Int)<=400))
def b_y (d:f_)(rule:Int)(b:Bt)(at_:Int):Val×Int×Int:=if okV d b rule at_ then b_w (rdW d.rules b rule.toNat at_.toNat) else (zV,0,8)
theorem j_l {rule at_:Int}(h:okV d b rule at_=true):U_ d=true/\b.length<=400/\∃i p:Nat,rule=i/\at_=p/\i<d.rules.length/\p<=b.length:=by
 unfold okV b_E at h
 simp only [aE_,dE_] at h
 exact ⟨h.1.1,by omega,rule.toNat,at_.toNat,by omega,by omega,by omega,by omega⟩
theorem s_a (hd:SmD d){n:Nat}(hn:500<=n)(rule at_:Int):h_j n d rule b at_=some (b_y d rule b at_):=by
 unfold h_j b_y
 rw [j_1 d hd,b_P]
 by_cases h:okV d b rule at_=true
 .rw [iP_ h]
  obtain ⟨hv,hb,i,p,rfl,rfl,hi,hp⟩:=j_l h;have hlen:=(b_F hv).2;have H:(U_ d && b_E d (i:Int))=true:=by unfold b_E;rw [hv,dT_ (by omega),dT_ (by omega)];rfl
  rw [H,dT_ (show (0:Int)<=(p:Int) by omega),dT_ (show (p:Int)<=(b.length:Int) by omega),dF_ (show ¬(400:Int)<(b.length:Int) by omega)]
  simp only [bd_some,nT_,bF_,fF_,Bool.and_self]
  rw [f_H hv hd hb i hi n (by omega) p hp]
  rfl
 .rw [iN_ h]
  unfold okV at h
  have G:decide ((400:Int)<(b.length:Int)) = !decide ((b.length:Int)<=400):=by
   by_cases hb:(b.length:Int)<=400
   .rw [dT_ hb,dF_ (by omega)];rfl
   .rw [dF_ hb,dT_ (by omega)];rfl
  rw [G]
  generalize (U_ d && b_E d rule)=a at *
  generalize (decide (0<=at_) && decide (at_<=(b.length:Int)))=c at *
  generalize decide ((b.length:Int)<=400)=e at *
  cases a <;> cases c <;> cases e <;> first | rfl | exact absurd rfl h
theorem s_b (hd:SmD d){n:Nat}(hn:500<=n)(rule at_:Int):h_K n d rule b at_=some (b_y d rule b at_):=by
 unfold h_K b_y
 rw [m_z n (by omega) d hd]
 by_cases h:okV d b rule at_=true
 .rw [iP_ h]
  obtain ⟨hv,hb,i,p,rfl,rfl,hi,hp⟩:=j_l h;have hlen:=(b_F hv).2;have H:(U_ d && b_E d (i:Int))=true:=by unfold b_E;rw [hv,dT_ (by omega),dT_ (by omega)];rfl
  rw [H,dF_ (show ¬(p:Int)<0 by omega),dF_ (show ¬(b.length:Int)<(p:Int) by omega),dF_ (show ¬(400:Int)<(b.length:Int) by omega)]
  simp only [bd_some,nT_,bF_,fF_]
  obtain ⟨nx,hrd⟩:=s_6 hv hd hb i hi n (by omega) p hp
  rw [hrd]
  show _=some (b_w<|rdW d.rules b i p)
  have hz:=n_A (d:=d) (b:=b) (i:=i) (at_:=p);generalize rdW d.rules b i p=x at *
  unfold c_F b_w
  by_cases G:x.2.2=0
  .rw [iP_ G,G];rfl
  .rw [iN_ G,hz G];rfl
 .rw [iN_ h]
  unfold okV at h
  have I:decide ((400:Int)<(b.length:Int)) = !decide ((b.length:Int)<=400):=by
   by_cases hb:(b.length:Int)<=400
   .rw [dT_ hb,dF_ (by omega)];rfl
   .rw [dF_ hb,dT_ (by omega)];rfl
  have J:decide (at_<0) = !decide (0<=at_):=by
   by_cases hb:0<=at_
   .rw [dT_ hb,dF_ (by omega)];rfl
   .rw [dF_ hb,dT_ (by omega)];rfl
  have H:decide ((b.length:Int)<at_) = !decide (at_<=(b.length:Int)):=by
   by_cases hb:at_<=(b.length:Int)
   .rw [dT_ hb,dF_ (by omega)];rfl
   .rw [dF_ hb,dT_ (by omega)];rfl
  rw [I,J,H]
  generalize (U_ d && b_E d rule)=a at *
  generalize decide (0<=at_)=c at *
  generalize decide (at_<=(b.length:Int))=c' at *
  generalize decide ((b.length:Int)<=400)=e at *
  cases a <;> cases c <;> cases c' <;> cases e <;> first | rfl | exact absurd rfl h
theorem s_c (hd:SmD d){n:Nat}(hn:500<=n)(rule at_:Int):h_y n d rule b at_=some ((b_y d rule b at_).2.1,(b_y d rule b at_).2.2):=by
 unfold h_y b_y
 rw [m_z n (by omega) d hd]
 by_cases h:okV d b rule at_=true
 .rw [iP_ h]
  obtain ⟨hv,hb,i,p,rfl,rfl,hi,hp⟩:=j_l h;have hlen:=(b_F hv).2;have G:(U_ d && b_E d (i:Int))=true:=by unfold b_E;rw [hv,dT_ (by omega),dT_ (by omega)];rfl
  rw [G,dF_ (show ¬(p:Int)<0 by omega),dF_ (show ¬(b.length:Int)<(p:Int) by omega),dF_ (show ¬(400:Int)<(b.length:Int) by omega)]
  simp only [bd_some,nT_,bF_,fF_]
  obtain ⟨ap',hrd⟩:=s_8 hv hd hb i hi n (by omega) p hp 0
  rw [show (⟨(⟨d.rules⟩:f_),b,0⟩:a_9)=⟨d,b,0⟩ from rfl,hrd]
  rfl
 .rw [iN_ h]
  unfold okV at h
  have H:decide ((400:Int)<(b.length:Int)) = !decide ((b.length:Int)<=400):=by
   by_cases hb:(b.length:Int)<=400
   .rw [dT_ hb,dF_ (by omega)];rfl
   .rw [dF_ hb,dT_ (by omega)];rfl
  have I:decide (at_<0) = !decide (0<=at_):=by
   by_cases hb:0<=at_
   .rw [dT_ hb,dF_ (by omega)];rfl
   .rw [dF_ hb,dT_ (by omega)];rfl
  have G:decide ((b.length:Int)<at_) = !decide (at_<=(b.length:Int)):=by
   by_cases hb:at_<=(b.length:Int)
   .rw [dT_ hb,dF_ (by omega)];rfl
   .rw [dF_ hb,dT_ (by omega)];rfl
  rw [H,I,G]
  generalize (U_ d && b_E d rule)=a at *
  generalize decide (0<=at_)=c at *
  generalize decide (at_<=(b.length:Int))=c' at *
  generalize decide ((b.length:Int)<=400)=e at *
  cases a <;> cases c <;> cases c' <;> cases e <;> first | rfl | exact absurd rfl h
def b_h (d:f_):Int:=(d.rules.length:Int) - 1
theorem s_d (hd:SmD d):h_r d=some (b_h d):=by
 have:=hd.rules;have:=MXv;unfold h_r b_h;rw [a_Y (by omega) (by omega)]
theorem g_U (hd:SmD d):d_L d=some (b_h d):=by
 have:=hd.rules;have:=MXv;unfold d_L b_h;rw [a_Y (by omega) (by omega)]
def e_r (d:f_)(b:Bt):Val×Int×Int:=if (b_y d (b_h d) b 0).2.2=0/\(b_y d (b_h d) b 0).2.1<(b.length:Int) then (zV,(b_y d (b_h d) b 0).2.1,7) else b_y d (b_h d) b 0
theorem s_e (v:Val)(e c:Int)(len:Int):bd (α:=Bool) (if (c==0) then some (decide<|e<len) else some false) (λH=>if H then some ((⟨0,([]:Bt),([]:List Val)⟩:Val),e,7) else some ((⟨v.number,v.bytes,v.items⟩:Val),e,c))=some (if c=0/\e<len then (zV,e,7) else (v,e,c)):=by
 rw [n_m]
 by_cases G:c=0
 .subst G
  by_cases h1:e<len
  .rw [dT_ h1,iP_ (show (0:Int)=0/\e<len from ⟨rfl,h1⟩)];rfl
  .rw [dF_ h1,iN_ (show ¬((0:Int)=0/\e<len) from λh=>h1 h.2)];rfl
 .rw [show (c==0)=false by simpa using G,iN_ (show ¬(c=0/\e<len) from λh=>G h.1)];rfl
theorem s_f (hd:SmD d){n:Nat}(hn:500<=n):h_k n d b=some (e_r d b):=by
 unfold h_k e_r
 rw [g_U hd,bd_some,s_a hd hn]
 generalize b_y d (b_h d) b 0=x;exact s_e x.1 x.2.1 x.2.2 _
end
end Go.Vw
namespace Go.Vw
open Go.RowKit Dat
theorem s_m (x:Nat):mkB (i_ 48 ((x % 10:Nat):Int))=UInt8.ofNat (48+x % 10):=by
 have:x % 10=0∨x % 10=1∨x % 10=2∨x % 10=3∨x % 10=4∨x % 10=5∨x % 10=6∨x % 10=7∨x % 10=8∨x % 10=9:=by omega
 rcases this with h | h | h | h | h | h | h | h | h | h <;> rw [h] <;> decide
theorem l_c:∀(k x:Nat),x<10 ^ k->0<x->x<=4611686018427387904->∀(s:Str)(n:Nat),k+1<=n->s.b.length+k<=1000 ->
  a_7 (σ:=Str×Int) (ρ:=Str) (un2 λH G=>if (G != 0) then bd (α:=Int) (if (decide<|(b_f G 10)<0) then some (f_x<|b_f G 10) else some (b_f G 10)) (λJ=>bd (cat (⟨[mkB (i_ 48 J)]⟩:Str) H) λL=>some<|.next (L,c_f G 10)) else some (.brk (H,G))) n (s,(x:Int))=some (.inl (⟨Lib.decDigits x++s.b⟩,0))
 | 0,x,h,O,_,_,_,_,_=>by simp at h;omega
 | k+1,x,h,O,hb,s,n,hn,hs=>by
  obtain ⟨m,rfl⟩:∃m,n=m+1:=⟨n - 1,by omega⟩;unfold a_7
  simp only [un2]
  rw [show ((x:Int) != 0)=true by simp;omega,g_X (by omega),n_J (by omega) (by omega) (by omega),dF_ (show ¬(x:Int) % 10<0 by omega)]
  simp only [fT_,bF_,fF_,bd_some]
  rw [show (x:Int) % 10=((x % 10:Nat):Int) by omega,s_m,e_s (by rw [a_O];simp;omega),bd_some,show (x:Int) / 10=((x / 10:Nat):Int) by omega]
  simp only
  by_cases I:x<10
  .rw [show x / 10=0 by omega,show x % 10=x by omega]
   obtain ⟨m',rfl⟩:∃m',m=m'+1:=⟨m - 1,by omega⟩
   rw [Lib.decDigits,dif_pos I]
   rfl
  .rw [l_c k (x / 10) (by rw [Nat.pow_succ] at h;omega) (by omega) (by omega) _ m (by omega) (by simp;omega)]
   rw [Lib.decDigits.eq_1 x,dif_neg I]
   simp
theorem l_d {n:Nat}(hn:30<=n)(i:Nat)(hi:i<=1000000000):c_a n i=some ⟨Lib.itoa i⟩:=by
 unfold c_a Lib.itoa
 rw [iN_ (show ¬(i:Int)<0 by omega)]
 by_cases G:i=0
 .subst G
  rw [show ((((0:Nat):Int)).toNat)=0 from rfl,Lib.decDigits,dif_pos (by omega)]
  rfl
 .rw [show ((i:Int)==0)=false by simp;omega]
  simp only [bF_,fF_]
  rw [l_c 20 i (by omega) (by omega) (by omega) ⟨[]⟩ n (by omega) (by simp),dF_ (show ¬(i:Int)<0 by omega)]
  simp
theorem g_V (i:Nat)(hi:i<=1000000000):(Lib.itoa i).length<=21:=Lib.itoa_length_le i (by omega) (by omega)
def a_c (r:d_)(i:Nat):Str :=
 if r.kind==5 then ⟨Lib.itoa i⟩
 else if r.kind==6 && decide (i<r.names.length) then r.names.getD i ⟨[]⟩
 else if r.kind==7 && i==0 then ⟨[42]⟩
 else if r.kind==8 && i==0 then ⟨[63]⟩
 else if r.kind==9 && i==0 then ⟨[43]⟩
 else ⟨[]⟩
theorem g_W {n:Nat}(hn:30<=n)(r:d_)(i:Nat)(hi:i<=1000000000):d_p n r i=some (a_c r i):=by
 unfold d_p a_c
 rw [l_d hn i hi]
 rw [k_D]
 cases (r.kind==5)
 .cases (r.kind==6)
  .cases (r.kind==7) <;> cases (r.kind==8) <;> cases (r.kind==9) <;> cases (i==0) <;> rfl
  .by_cases h:i<r.names.length
   .rw [dT_ h,dT_ (show (i:Int)<(r.names.length:Int) by omega),ix_ h,a_r h];rfl
   .rw [dF_ h,dF_ (show ¬(i:Int)<(r.names.length:Int) by omega)]
    cases (r.kind==7) <;> cases (r.kind==8) <;> cases (r.kind==9) <;> cases (i==0) <;> rfl
 .rfl
theorem n_C {s:Str}(h:b_g s=true):s.b.length<=12:=by
 unfold b_g at h
 simp only [aE_,dE_] at h
 exact h.2.2
theorem n_D {rs:List d_}{r:d_}(h:a_q rs r=true)(i:Nat)(hi:i<=1000000000):(a_c r i).b.length<=21:=by
 unfold a_c
 split
 .exact g_V i hi
 split
 .rename_i h6
  simp only [aE_,beq_iff_eq,dE_] at h6
  rw [a_r h6.2]
  have:=n_C<|(d_E h h6.1).2.2.2 _ (gE_ h6.2)
  omega
 split
 .simp
 split
 .simp
 split <;> simp
def d_m (r:d_)(path:Str)(i:Nat):Str:=⟨path.b++[47]++(a_c r i).b⟩
def ixL (f:Int->Nat->Str->List D_)(e:Int->Nat->Nat)(r:d_)(path:Str):List Int->Nat->Nat->List D_
 | [],_,_=>[]
 | k::ks,i,pos=>f k pos (d_m r path i)++ixL f e r path ks (i+1) (e k pos)
def ixW (rs:List d_)(b:Bt)(rule:Nat)(at_:Nat)(path:Str):List D_ :=
 (⟨path,(rule:Int),(at_:Int),((rdW rs b rule at_).2.1:Int)⟩:D_)::ixL (λk p q=>if _h:k.toNat<rule then ixW rs b k.toNat p q else []) (λk p=>(rdW rs b k.toNat p).2.1) (rs.getD rule default) path ((List.range (rdW rs b rule at_).1.items.length).map (a_8 (rs.getD rule default) (rdW rs b rule at_).1.number)) 0 (a_s rs (rs.getD rule default) at_)
termination_by rule
theorem n_E {f f':Int->Nat->Str->List D_}{e:Int->Nat->Nat}{r:d_}{path:Str}:∀(ks:List Int)(i pos:Nat),(∀k∈ks,∀p q,f k p q=f' k p q)->ixL f e r path ks i pos=ixL f' e r path ks i pos
 | [],_,_,_=>rfl
 | k::ks,i,pos,h=>by
  unfold ixL
  rw [h k mS_,n_E ks _ _<|λk hk=>h k<|mT_ _ hk]
section
variable {d:f_}{b:Bt}
theorem j_m (hv:U_ d=true){i:Nat}(hi:i<d.rules.length){at_:Nat}{ks:List Int}{e:Nat}(h:RdOk d b d.rules[i] at_ (rdW d.rules b i at_) ks e)(path:Str) :
  ixW d.rules b i at_ path=(⟨path,(i:Int),(at_:Int),((rdW d.rules b i at_).2.1:Int)⟩:D_)::ixL (λk p q=>ixW d.rules b k.toNat p q) (λk p=>(rdW d.rules b k.toNat p).2.1) d.rules[i] path ks 0 (a_s d.rules d.rules[i] at_):=by
 rw [ixW]
 have G:d.rules.getD i default=d.rules[i]:=by simp [hi]
 rw [G]
 have hl:=g_T h.ch
 have H:(List.range (rdW d.rules b i at_).1.items.length).map (a_8 d.rules[i] (rdW d.rules b i at_).1.number)=ks:=by
  apply List.ext_getElem
  .simp [hl]
  .intro j h1 h2
   rw [List.getElem_map,List.getElem_range]
   exact h.item j h2
 rw [H]
 congr 1
 refine n_E ks _ _<|λk hk p q=>?_;have:=(b_9 hv hi).kids k (h.kids k hk)
 rw [dif_pos (by omega)]
theorem n_F (i:Nat)(f:Int->Nat->Str->List D_)(r:d_)(path:Str):∀(ks:List Int)(j pos:Nat)(vs:List Val)(e:Nat),(∀k∈ks,∀p,p<=b.length->p<=(rdW d.rules b k.toNat p).2.1/\(rdW d.rules b k.toNat p).2.1<=b.length)->(∀k∈ks,∀p q,p<=b.length->(rdW d.rules b k.toNat p).2.2=0->(f k p q).length<=i * ((rdW d.rules b k.toNat p).2.1 - p)) ->
  d_G (λk p=>rdW d.rules b k.toNat p) b.length ks pos vs e->(ixL f (λk p=>(rdW d.rules b k.toNat p).2.1) r path ks j pos).length<=i * (e - pos)/\pos<=e
 | [],_,_,_,_,_,_,h=>by rw [h.2];simp [ixL]
 | k::ks,j,pos,vs,e,hle,hf,h=>by
  obtain ⟨hp,G,ws,_,hrest⟩:=h;have h1:=hle k mS_ pos hp;have h2:=hf k mS_ pos (d_m r path j) hp G;have h3:=n_F i f r path ks (j+1) _ ws e (λk hk=>hle k<|mT_ _ hk) (λk hk=>hf k<|mT_ _ hk) hrest
  simp only at h3 G
  unfold ixL
  rw [List.length_append]
  refine ⟨?_,by omega⟩
  have h4:i * ((rdW d.rules b k.toNat pos).2.1 - pos)+i * (e - (rdW d.rules b k.toNat pos).2.1)=i * (e - pos):=by
   rw [← Nat.mul_add];congr 1;omega
  omega
theorem s_n (hv:U_ d=true):∀(i:Nat),i<d.rules.length->∀at_ path,at_<=b.length->(rdW d.rules b i at_).2.2=0->(ixW d.rules b i at_ path).length<=(i+1) * ((rdW d.rules b i at_).2.1 - at_):=by
 intro i
 induction i using Nat.strongRecOn with
 | _ i ih =>
  intro hi at_ path ha hok;obtain ⟨ks,e,h⟩:=f_3 hv hi ha hok;have hlt:=n_B hv i hi at_ ha hok
  rw [j_m hv hi h path]
  have hkk:∀k∈ks,0<=k/\k<(i:Int):=λk hk=>(b_9 hv hi).kids k (h.kids k hk)
  have hL:=n_F (d:=d) (b:=b) i (λk p q=>ixW d.rules b k.toNat p q) d.rules[i] path ks 0 _ _ e (λk hk p hp=>by have:=hkk k hk;exact b_o hv k.toNat (by omega) p hp) (λk hk p q hp G=>by
   have H:=hkk k hk;have h1:=ih k.toNat (by omega) (by omega) p q hp G
   exact Nat.le_trans h1 (Nat.mul_le_mul_right _ (by omega))) h.ch
  rw [lC_]
  have hst:=h.st;have hse:=h.se;have hle:=h.le;have h5:i * (e - a_s d.rules d.rules[i] at_)<=i * ((rdW d.rules b i at_).2.1 - at_):=Nat.mul_le_mul_left _ (by omega)
  rw [Nat.succ_mul]
  omega
theorem n_G (hv:U_ d=true)(hb:b.length<=400){i:Nat}(hi:i<d.rules.length){at_:Nat}(path:Str)(ha:at_<=b.length)(hok:(rdW d.rules b i at_).2.2=0):(ixW d.rules b i at_ path).length<=10000:=by
 have h1:=s_n hv i hi at_ path ha hok;have h2:=(b_F hv).2;have h3:=(b_o (b:=b) hv i hi at_ ha).2;have h4:(i+1) * ((rdW d.rules b i at_).2.1 - at_)<=24 * 400:=Nat.mul_le_mul (by omega) (by omega)
 omega
theorem n_H {r:d_}{path:Str}{j:Nat}(hk:a_q d.rules r=true)(hj:j<=1000000000):(d_m r path j).b.length<=path.b.length+22:=by
 have:=n_D hk j hj;unfold d_m
 simp only [List.length_append,lC_,List.length_nil]
 omega
theorem n_I (hv:U_ d=true)(hb:b.length<=400){i:Nat}(hi:i<d.rules.length){at_:Nat}(ha:at_<=b.length)(hok:(rdW d.rules b i at_).2.2=0) :
  (bd (α:=Bool) (if (d.rules[i].kind==5) then some (d.rules[i].kind==5) else some (d.rules[i].kind==7)) (λO=>bd (α:=Int) (if O then bd (idx d.rules[i].kids 0) λG=>bd3 (c_w d G b at_) λV H W=>some H else bd (α:=Int) (if (d.rules[i].kind==8) then some (i_ (at_:Int) 1) else some (at_:Int)) (λY=>some Y)) some)=some ((a_s d.rules d.rules[i] at_:Nat):Int)):=by
 have hMX:=MXv;have hr:=b_9 hv hi;obtain ⟨ks,e,h⟩:=f_3 hv hi ha hok;have hst:=h.st
 rw [c_S hv hi ha] at hok
 generalize d.rules[i]=r at *
 unfold a_s at *
 have main:r.kind=5∨r.kind=7->bd (idx r.kids 0) (λG=>bd3 (c_w d G b at_) λV H W=>some H)=some (((at_+(K_ d.rules<|C_ r).size.toNat:Nat)):Int):=by
  intro J
  have hlim:0<lim d.rules (C_ r)/\0<r.kids.length:=by
   rcases J with h | h
   .have:=c_R hr.kind h;exact ⟨this.1,by omega⟩
   .have:=d_l hr.kind h;exact ⟨this.1,by omega⟩
  have hq:=b_q hlim.1
  rw [b_D hlim.2,bd_some,f_D hq.1 hq.2 (by omega) ha]
  cases hi:Y_ b (K_ d.rules<|C_ r) at_ with
  | some n=>rfl
  | none =>
   exfalso
   unfold rdB Q_ at hok
   rcases J with h | h <;> rw [h,hi] at hok <;> cases hok
 by_cases h5:r.kind=5
 .have:=main<|.inl h5
  rw [h5]
  simp only [bQ_,fT_,bd_some,Bool.true_or]
  rw [this];rfl
 by_cases I:r.kind=7
 .have:=main<|.inr I
  rw [I]
  simp only [show ((7:Int)==5)=false from rfl,bF_,fF_,bQ_,fT_,bd_some,Bool.false_or]
  rw [this];rfl
 rw [show (r.kind==5)=false by simpa using h5,show (r.kind==7)=false by simpa using I]
 by_cases L:r.kind=8
 .rw [L]
  simp only [bF_,fF_,bd_some,bQ_,fT_,Bool.or_self]
  rw [ia_ (by omega) (by omega)];rfl
 .rw [show (r.kind==8)=false by simpa using L]
  rfl
end
end Go.Vw
namespace Go.Vw
open Go.RowKit Dat
section
variable {d:f_}{b:Bt}
theorem m_A {n:Nat}(hv:U_ d=true){i:Nat}(hi:i<d.rules.length)(hb:b.length<=400)(hn:30<=n){ks:List Int}{num:Int}(hitem:∀j (hj:j<ks.length),a_8 d.rules[i] num j=ks[j])(hkk:∀k∈ks,0<=k/\k<(i:Int))(a2:ks.length<=40){path:Str}(hpath:path.b.length+32<=1000000)
  (ih:∀k,k<i->∀p q,p<=b.length->(rdW d.rules b k p).2.2=0->q.b.length<=path.b.length+22->j_z n d k b p q=some (ixW d.rules b k p q,((rdW d.rules b k p).2.1:Int)))
  (body:Nat->(List D_)×Int->Option (Out ((List D_)×Int)<|(List D_)×Int)) (hbd:body=(λH=>un2 λO V=>bd (cat path (⟨[47]⟩:Str)) λW=>bd (b_m d.rules[i] num ((H:Nat):Int)) λY=>bd (d_p n d.rules[i] ((H:Nat):Int)) λa0=>bd (cat W a0) λa1=>bd2 ((e_E n).spec_l19Build d Y b V a1) λI J=>bd (app O I) λL=>some<|.next (L,J))) :
  ∀m k (pos:Nat) (vs:List Val) (e:Nat) (out:List D_),k+m=ks.length->out.length<=1+k * 10000->d_G (λk p=>rdW d.rules b k.toNat p) b.length (ks.drop k) pos vs e ->
  F_ body m k (out,(pos:Int))=some (.inl (out++ixL (λk p q=>ixW d.rules b k.toNat p q) (λk p=>(rdW d.rules b k.toNat p).2.1) d.rules[i] path (ks.drop k) k pos,(e:Int)))
 | 0,k,pos,vs,e,out,hk,_,hch=>by
  rw [List.drop_of_length_le (by omega)] at *
  rw [hch.2]
  simp [F_,ixL]
 | m+1,k,pos,vs,e,out,hk,ho,hch=>by
  have hLIM:=a_O;have hr:=b_9 hv hi;have hlt:k<ks.length:=by omega
  rw [dC_ hlt] at *
  obtain ⟨hp,G,ws,_,hrest⟩:=hch
  simp only at G hrest
  have hkr:=hkk _<|gE_ hlt;have hst:=n_D hr.kind k (by omega);have hsm:=n_G hv hb (show ks[k].toNat<d.rules.length by omega) (d_m d.rules[i] path k) hp G
  have hone:body k (out,(pos:Int))=some (.next (out++ixW d.rules b ks[k].toNat pos (d_m d.rules[i] path k),((rdW d.rules b ks[k].toNat pos).2.1:Int))):=by
   rw [hbd]
   simp only [un2]
   rw [e_s (by simp only [lC_,List.length_nil];omega),bd_some,c_Q<|e_m hr.kind,bd_some,hitem k hlt,g_W hn _ k (by omega),bd_some,e_s (by simp only [List.length_append,lC_,List.length_nil];omega),bd_some]
   have hrec:=ih ks[k].toNat (by omega) pos (d_m d.rules[i] path k) hp G (n_H hr.kind (by omega))
   rw [show ((ks[k].toNat:Nat):Int)=ks[k] by omega] at hrec
   rw [show (e_E n).spec_l19Build d ks[k] b (pos:Int) ⟨path.b++[47]++(a_c d.rules[i] k).b⟩=j_z n d ks[k] b (pos:Int) (d_m d.rules[i] path k) from rfl,hrec]
   simp only [bd2_some]
   rw [c_u (by omega),bd_some]
  unfold F_ ixL
  rw [hone]
  simp only
  rw [m_A hv hi hb hn hitem hkk a2 hpath ih body hbd m (k+1) _ ws e _ (by omega) (by rw [List.length_append];omega) hrest]
  simp
theorem q_X (hv:U_ d=true)(hd:SmD d)(hb:b.length<=400):∀(i:Nat)(hi:i<d.rules.length),∀n,4 * i+600<=n->∀(at_:Nat)(path:Str),at_<=b.length->(rdW d.rules b i at_).2.2=0->path.b.length+22 * i+32<=1000000 ->
  j_z n d i b at_ path=some (ixW d.rules b i at_ path,((rdW d.rules b i at_).2.1:Int)):=by
 intro i
 induction i using Nat.strongRecOn with
 | _ i ih =>
  intro hi n hn at_ path ha hok hpath;have hlen:=(b_F hv).2;obtain ⟨m,rfl⟩:∃m,n=m+1:=⟨n - 1,by omega⟩;obtain ⟨ks,e,h⟩:=f_3 hv hi ha hok;have hkk:∀k∈ks,0<=k/\k<(i:Int):=λk hk=>(b_9 hv hi).kids k (h.kids k hk)
  show h_L m (e_E m) d i b at_ path=_
  unfold h_L
  rw [ix_ hi,bd_some,f_H hv hd hb i hi m (by omega) at_ ha]
  unfold b_w
  simp only [bd3_some]
  have hs:=n_I hv hb hi ha hok
  rw [j_m hv hi h path]
  have hcl:=g_T h.ch
  rw [hcl]
  -- the start's text is that of start_eq
  have tail:∀(f:Int->Option (List D_×Int)),bd (α:=Bool) (if (d.rules[i].kind==5) then some (d.rules[i].kind==5) else some (d.rules[i].kind==7)) (λJ=>bd (α:=Int) (if J then bd (idx d.rules[i].kids 0) λG=>bd3 (c_w d G b at_) λL H O=>some H else bd (α:=Int) (if (d.rules[i].kind==8) then some (i_ (at_:Int) 1) else some (at_:Int)) (λI=>some I)) f)=f ((a_s d.rules d.rules[i] at_:Nat):Int):=by
   intro f;generalize (if (d.rules[i].kind==5) then some (d.rules[i].kind==5) else some (d.rules[i].kind==7))=o at *
   cases o with
   | none=>cases hs
   | some x =>
    simp only [bd_some] at hs ⊢
    revert hs;generalize (if x then bd (idx d.rules[i].kids 0) λG=>bd3 (c_w d G b at_) λL H O=>some H else bd (α:=Int) (if (d.rules[i].kind==8) then some (i_ (at_:Int) 1) else some (at_:Int)) (λI=>some I))=o2;intro hs
    cases o2 with
    | none=>cases hs
    | some y=>simp only [bd_some] at hs ⊢;rw [Option.some.inj hs]
  rw [tail]
  have hloop:=m_A (n:=m) hv hi hb (by omega) h.item hkk h.small (path:=path) (by omega) (λk hk p q hp V hq=>ih k hk (by omega) m (by omega) p q hp V (by omega)) _ rfl ks.length 0 (a_s d.rules d.rules[i] at_) (rdW d.rules b i at_).1.items e [(⟨path,(i:Int),(at_:Int),((rdW d.rules b i at_).2.1:Int)⟩:D_)] (by omega) (by simp) (by rw [List.drop_zero];exact h.ch)
  rw [hloop]
  rfl
def okF (d:f_)(b:Bt):Bool:=(e_r d b).2.2==0
def b_8 (d:f_)(b:Bt):List D_:=if okF d b then ixW d.rules b (d.rules.length - 1) 0 ⟨[]⟩ else []
theorem j_2 (h:okF d b=true):U_ d=true/\b.length<=400/\d.rules.length - 1<d.rules.length/\b_h d=((d.rules.length - 1:Nat):Int)/\(rdW d.rules b (d.rules.length - 1) 0).2.2=0/\(e_r d b).1=(rdW d.rules b (d.rules.length - 1) 0).1/\e_r d b=b_w (rdW d.rules b (d.rules.length - 1) 0):=by
 unfold okF e_r at h
 have h1:¬((b_y d (b_h d) b 0).2.2=0/\(b_y d (b_h d) b 0).2.1<(b.length:Int)):=by
  intro hc;rw [iP_ hc] at h;simp at h
 rw [iN_ h1] at h
 have h2:(b_y d (b_h d) b 0).2.2=0:=by simpa using h
 have h3:okV d b (b_h d) 0=true:=by
  rcases Bool.eq_false_or_eq_true (okV d b (b_h d) 0) with h | h
  .exact h
  .unfold b_y at h2;rw [h] at h2;simp at h2
 obtain ⟨hv,hb,i,p,hi,hp,hil,_⟩:=j_l h3;have hl:=b_F hv;have hroot:b_h d=((d.rules.length - 1:Nat):Int):=by unfold b_h;omega
 have e:b_y d (b_h d) b 0=b_w (rdW d.rules b (d.rules.length - 1) 0):=by
  unfold b_y;rw [iP_ h3,hroot];rfl
 have G:e_r d b=b_w (rdW d.rules b (d.rules.length - 1) 0):=by unfold e_r;rw [iN_ h1,e]
 refine ⟨hv,hb,by omega,hroot,?_,?_,G⟩
 .rw [e] at h2;exact h2
 .rw [G];rfl
theorem q_Y (hd:SmD d){n:Nat}(hn:500<=n):h_l n d b=some (okF d b):=by
 unfold h_l okF
 rw [s_f hd hn];rfl
theorem m_B (hd:SmD d){n:Nat}(hn:1000<=n):h_M n d b=some (b_8 d b,okF d b):=by
 unfold h_M b_8
 rw [q_Y hd (by omega)]
 cases h:okF d b
 .rfl
 .obtain ⟨hv,hb,hlt,hroot,hok,_⟩:=j_2 h;have hl:=b_F hv
  rw [g_U hd,hroot]
  have:=q_X hv hd hb (d.rules.length - 1) hlt n (by omega) 0 ⟨[]⟩ (by omega) hok (by simp;omega)
  rw [show (((0:Nat)):Int)=0 from rfl] at this
  simp only [bd_some,nT_,bF_,fF_]
  rw [this];rfl
end
end Go.Vw
