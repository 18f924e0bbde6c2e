import Derived.Test.YtefljifhihogoaaGreatDoorV4
namespace Go.Vw
set_option linter.unusedVariables false
open Go.RowKit Dat
theorem o_q (rd:Int->Nat->RR)(k:Int)(p:Nat):(P_ rd [k] p).2=((rd k p).2.1,(rd k p).2.2):=by
 grind [P_,P_]
section
variable {d:d_}{b:Bt}
theorem s_A {rec_:a_3->Int->Int->Option (R_×Int)}{ks:List Int}(rd:Int->Nat->RR)(L:Nat)
  (ih:∀k∈ks,∀(ap:Int)(p:Nat),p<=L->∃ap',rec_ ⟨⟨d.rules⟩,b,ap⟩ k p=some (⟨((rd k p).2.1:Int),(rd k p).2.2⟩,ap')) (hle:∀k∈ks,∀p,p<=L->(rd k p).2.1<=L) :
  ∀m k (ap:Int) (p:Nat),k+m=ks.length->p<=L->∃ap',k_ (σ:=Int×Int×Int) (ρ:=R_×Int) (λI=>un3 λJ O a0=>bd (idx ks ((I:Nat):Int)) λV=>bd2 (rec_ (⟨(⟨d.rules⟩:d_),b,J⟩:a_3) V O) λG H=>if (G.code != 0) then some (.brk (H,G.at_,G.code)) else some (.next (H,G.at_,G.code))) m k (ap,(p:Int),0)=some (.inl (ap',((P_ rd (ks.drop k) p).2.1:Int),(P_ rd (ks.drop k) p).2.2))
 | 0,k,ap,p,hk,_=>by
  rw [QAl (by omega)]
  exact ⟨ap,rfl⟩
 | m+1,k,ap,p,hk,hp=>by
  have hlt:k<ks.length:=by omega
  have hmem:=gE_ hlt
  rw [dC_ hlt]
  unfold k_ P_;obtain ⟨W,h1⟩:=ih ks[k] hmem ap p hp
  simp only [un3]
  rw [ix_ hlt,a_,h1]
  simp only [a_b]
  by_cases Y:(rd ks[k] p).2.2=0
  .rw [show ((rd ks[k] p).2.2 != 0)=false by grind,iP_ Y]
   obtain ⟨a1,h2⟩:=s_A rd L ih hle m (k+1) W (rd ks[k] p).2.1 (by omega) (hle _ hmem p hp)
   grind
  simp_all
theorem s_B {rec_:a_3->Int->Int->Option (R_×Int)}{ks:List Int}{kid:Int}(hkid:idx ks 1=some kid)(rd:Int->Nat->RR)(L:Nat)
  (ih:∀(ap:Int)(p:Nat),p<=L->∃ap',rec_ ⟨⟨d.rules⟩,b,ap⟩ kid p=some (⟨((rd kid p).2.1:Int),(rd kid p).2.2⟩,ap')) (hle:∀p,p<=L->(rd kid p).2.1<=L) :
  ∀(c:Nat)(ap:Int)(p:Nat),p<=L->c<=40->∀n,c+2<=n->∃x ap',F_ (σ:=Int×Int×Int×Int) (ρ:=R_×Int) (un4 λG H I J=>bd (α:=Bool) (if (decide<|0<G) then some (J==0) else some false) (λY=>if Y then bd (idx ks 1) λa0=>bd2 (rec_ (⟨(⟨d.rules⟩:d_),b,H⟩:a_3) a0 I) λO a1=>some (.next (w_ G 1,a1,O.at_,O.code)) else some (.brk (G,H,I,J)))) n ((c:Int),ap,(p:Int),0)=some (.inl (x,ap',((P_ rd (List.replicate c kid) p).2.1:Int),(P_ rd (List.replicate c kid) p).2.2))
 | 0,ap,p,hp,hc,n,hn=>by
  obtain ⟨m,rfl⟩:∃m,n=m+1:=⟨n - 1,by omega⟩;exact ⟨0,ap,rfl⟩
 | c+1,ap,p,hp,hc,n,hn=>by
  obtain ⟨m,rfl⟩:∃m,n=m+2:=⟨n - 2,by omega⟩;obtain ⟨V,h1⟩:=ih ap p hp
  rw [QAk]
  unfold F_ P_
  simp only [un4]
  rw [dT_ (show (0:Int)<((c+1:Nat):Int) by omega),hkid]
  simp only [fT_,a_,bQ_]
  rw [h1]
  simp only [a_b]
  rw [a_L (x:=((c+1:Nat):Int)) (by omega) (by omega),show ((c+1:Nat):Int) - 1=(c:Int) by omega]
  by_cases W:(rd kid p).2.2=0
  .rw [iP_ W]
   obtain ⟨x,a2,h2⟩:=s_B hkid rd L ih hle c V (rd kid p).2.1 (hle p hp) (by omega) (m+1) (by omega);refine ⟨x,a2,?_⟩
   simp only [hkid,a_] at h2
   grind
  .rw [iN_ W]
   refine ⟨(c:Int),V,?_⟩;unfold F_
   simp only [un4]
   rw [show ((rd kid p).2.2==0)=false by grind]
   simp
theorem y_4 (hv:D_ d=true)(hd:SmD d)(hb:b.length<=400):∀(i:Nat),i<d.rules.length->∀n,3 * i+410<=n->∀at_,at_<=b.length->∀ap,∃ap',t_e n ⟨d,b,ap⟩ i at_=some (⟨((rdW d.rules b i at_).2.1:Int),(rdW d.rules b i at_).2.2⟩,ap'):=by
 have hMX:=MXv;intro i
 induction i using Nat.strongRecOn with
 | _ i ih =>
  intro hi n hn at_ ha ap;have hlen:=(b_i hv).2;obtain ⟨m,rfl⟩:∃m,n=m+3:=⟨n - 3,by omega⟩
  rw [e_G hv hi ha]
  have hr:=a_P hv hi;have hal:=g_h hr.kind;have hsm:=hd.each d.rules[i] (gE_ hi);have hidx:idx d.rules (i:Int)=some d.rules[i]:=ix_ hi;generalize hrr:d.rules[i]=r at *
  have hkk:=d_7 hr.kind
  show ∃ap',k_8 (m+2) (a_N<|m+2) ⟨d,b,ap⟩ i at_=_
  unfold k_8 rdB
  simp only
  rw [hidx,a_]
  have hle:∀k∈r.kids,∀p,p<=b.length->p<=(rdW d.rules b k.toNat p).2.1/\(rdW d.rules b k.toNat p).2.1<=b.length:=λk hk p hp=>by
   have:=hr.kids k hk
   grind [c_9]
  have hrec:∀q,m<=q->∀k∈r.kids,∀(ap:Int)(p:Nat),p<=b.length->∃ap',(a_N q).impl_checker_value ⟨⟨d.rules⟩,b,ap⟩ k p=some (⟨((rdW d.rules b k.toNat p).2.1:Int),(rdW d.rules b k.toNat p).2.2⟩,ap'):=λq hq k hk ap p hp=>by
   have:=hr.kids k hk;have h:=ih k.toNat (by omega) (by omega) q (by omega) p hp ap
   rw [show ((k.toNat:Nat):Int)=k by omega] at h
   exact h
  by_cases h1:r.kind=1
  .rw [h1];simp only [bQ_,fT_]
   rw [l_Q hidx (g_f hr.kind h1) (by omega) ha]
   cases U_ b r at_ <;> exact ⟨_,rfl⟩
  rw [show (r.kind==1)=false by grind]
  by_cases h2:r.kind=2
  .rw [h2];simp only [bQ_,fT_,bF_,fF_]
   rw [w_z (by omega) ha hsm.bytes]
   simp
  rw [show (r.kind==2)=false by grind]
  by_cases h3:r.kind=3
  .rw [h3];simp only [bQ_,fT_,bF_,fF_]
   have:=h_p hr.kind h3
   rw [j_u (by omega) ha (by omega) (by omega)]
   unfold a_H
   split <;> exact ⟨_,rfl⟩
  rw [show (r.kind==3)=false by grind]
  by_cases h4:r.kind=4
  .rw [h4];simp only [bQ_,fT_,bF_,fF_]
   have hs:=g_g hr.kind h4;have hq:=c_8 hs.1
   rw [b_W (by omega),a_,l_Q hq.1 hq.2 (by omega) ha]
   cases hi:U_ b (y_ d.rules<|p_ r) at_ with
   | none=>simp
   | some num =>
    have hrg:=c_p hq.2 hi
    simp only [a_E,bN_,bF_,fF_]
    rw [j_u (by omega) (by omega) (by omega) (by omega)]
    unfold a_H
    split <;> exact ⟨_,rfl⟩
  rw [show (r.kind==4)=false by grind]
  by_cases L:r.kind=10
  .rw [L];simp only [bQ_,fT_,bF_,fF_,show ((10:Int)==5)=false from rfl,show ((10:Int)==6)=false from rfl,show ((10:Int)==7)=false from rfl,show ((10:Int)==8)=false from rfl,show ((10:Int)==9)=false from rfl]
   have V:=o_i hr.kind L
   rw [b_j (by omega),a_,a_x (show 0<r.bytes.length by omega),q_O _ _ _ _ (by omega) ha (by omega)]
   cases d_D b at_ r.bytes[0] with
   | none=>exact ⟨_,rfl⟩
   | some x=>exact ⟨_,rfl⟩
  rw [show (r.kind==10)=false by grind]
  by_cases h5:r.kind=5
  .rw [h5];simp only [bQ_,fT_,bF_,fF_]
   have hs:=d_6 hr.kind h5;have hq:=c_8 hs.1;have hmem:r.kids.getD 1 0∈r.kids:=e_e (by omega)
   rw [show (a_N<|m+2).impl_checker_array=k_9 (m+1) (a_N<|m+1) from rfl]
   unfold k_9
   simp only
   rw [b_W (by omega),a_,l_Q hq.1 hq.2 (by omega) ha]
   have hhd:I_ d.rules b r at_=(match U_ b (y_ d.rules<|p_ r) at_ with | none=>.inl 1 | some n=>if 40<n then .inl 6 else .inr (0,List.replicate n.toNat<|r.kids.getD 1 0,at_+(y_ d.rules<|p_ r).size.toNat)):=by grind [I_]
   rw [hhd]
   cases hi:U_ b (y_ d.rules<|p_ r) at_ with
   | none=>exact ⟨_,rfl⟩
   | some num =>
    have hrg:=c_p hq.2 hi
    simp only [a_E,bQ_,fT_,a_]
    by_cases O:40<num
    .simp_all
    .rw [dF_ O,iN_ O]
     simp only [bF_,fF_]
     obtain ⟨x,ap',h⟩:=s_B (d:=d) (b:=b) (rec_:=(a_N<|m+1).impl_checker_value) (ks:=r.kids) (kid:=r.kids.getD 1 0) (by grind [m_b,a_x]) (λk p=>rdW d.rules b k.toNat p) b.length (λap p hp=>hrec (m+1) (by omega) _ hmem ap p hp) (λp hp=>(hle _ hmem p hp).2) num.toNat (e_ (e_ ap 1) 1) (at_+(y_ d.rules<|p_ r).size.toNat) (by omega) (by omega) (m+1) (by omega)
     rw [show ((num.toNat:Nat):Int)=num by omega] at h
     rw [h]
     unfold a_R;generalize P_ (λk p=>rdW d.rules b k.toNat p) (List.replicate num.toNat<|r.kids.getD 1 0) (at_+(y_ d.rules<|p_ r).size.toNat)=y
     rw [h5]
     refine ⟨ap',?_⟩
     by_cases G:y.2.2=0
     .simp_all
     simp_all
  rw [show (r.kind==5)=false by grind]
  by_cases h6:r.kind=6
  .rw [h6];simp only [bQ_,fT_,bF_,fF_]
   have hs:=e_F hr.kind h6;obtain ⟨ap',h⟩:=s_A (d:=d) (b:=b) (rec_:=(a_N<|m+2).impl_checker_value) (ks:=r.kids) (λk p=>rdW d.rules b k.toNat p) b.length (λk hk ap p hp=>hrec (m+2) (by omega) k hk ap p hp) (λk hk p hp=>(hle k hk p hp).2) r.kids.length 0 (e_ ap 1) at_ (by omega) ha
   rw [h]
   rw [show I_ d.rules b r at_ = .inr (0,r.kids,at_) by grind [I_]]
   simp only
   unfold a_R
   rw [QAP]
   generalize P_ (λk p=>rdW d.rules b k.toNat p) r.kids at_=y
   rw [h6]
   refine ⟨ap',?_⟩
   by_cases G:y.2.2=0
   .simp_all
   simp_all
  rw [show (r.kind==6)=false by grind]
  by_cases I:r.kind=7
  .rw [I];simp only [bQ_,fT_,bF_,fF_]
   have hs:=d_m hr.kind I;have hq:=c_8 hs.1
   rw [show (a_N<|m+2).impl_checker_choice=k_a (m+1) (a_N<|m+1) from rfl]
   unfold k_a
   simp only
   rw [b_W (by omega),a_,l_Q hq.1 hq.2 (by omega) ha]
   have hhd:I_ d.rules b r at_=(match U_ b (y_ d.rules<|p_ r) at_ with | none=>.inl 1 | some n=>match b_9 r.tags n with | none=>.inl 3 | some k=>.inr (n,[r.kids.getD (k+1) 0],at_+(y_ d.rules<|p_ r).size.toNat)):=by grind [I_]
   rw [hhd]
   cases hi:U_ b (y_ d.rules<|p_ r) at_ with
   | none=>simp
   | some num =>
    have hrg:=c_p hq.2 hi
    simp only [a_E,bN_,bF_,fF_]
    cases ht:b_9 r.tags num with
    | none =>
     have htn:=s_j ht
     rw [b_Z (λ_=>()) (n:=r.tags.length) (λj hj=>by
      grind [b_E,a_,a_x])]
     simp
    | some k =>
     obtain ⟨htl,hte,htb⟩:=s_i ht;have hmem:r.kids.getD (k+1) 0∈r.kids:=e_e (by omega);obtain ⟨ap',h⟩:=hrec (m+1) (by omega) _ hmem (e_ (e_ ap 1) 1) (at_+(y_ d.rules<|p_ r).size.toNat) (by omega)
     rw [m_c (λ_=>()) (n:=r.tags.length) (j0:=k) (r:=(⟨((rdW d.rules b (r.kids.getD (k+1) 0).toNat (at_+(y_ d.rules (p_ r)).size.toNat)).2.1:Int),(rdW d.rules b (r.kids.getD (k+1) 0).toNat (at_+(y_ d.rules (p_ r)).size.toNat)).2.2⟩,ap')) htl (λj hj=>by
      grind [b_E,a_,a_x]) (by
      rw [a_x htl] at hte
      rw [ix_ htl,a_,show (r.tags[k]==num)=true by simpa using hte,iP_ rfl,ix_ (show k+1<r.kids.length by omega),a_,← a_x (x:=0) (show k+1<r.kids.length by omega),h]
      rfl)]
     simp only [a_,d_Y]
     unfold a_R;have ho:=o_q (λk p=>rdW d.rules b k.toNat p) (r.kids.getD (k+1) 0)<|at_+(y_ d.rules<|p_ r).size.toNat;generalize P_ (λk p=>rdW d.rules b k.toNat p) [r.kids.getD (k+1) 0] (at_+(y_ d.rules<|p_ r).size.toNat)=y at ho
     rw [I,ho]
     refine ⟨ap',?_⟩
     by_cases G:(rdW d.rules b (r.kids.getD (k+1) 0).toNat (at_+(y_ d.rules<|p_ r).size.toNat)).2.2=0
     .rw [iP_ G,G];rfl
     .rw [iN_ G];rfl
  rw [show (r.kind==7)=false by simpa using I]
  by_cases H:r.kind=8
  .rw [H];simp only [bQ_,fT_,bF_,fF_]
   have hs:=d_L hr.kind<|.inl H;have hmem:r.kids.getD 0 0∈r.kids:=e_e (by omega)
   rw [show (a_N<|m+2).impl_checker_option=k_b (m+1) (a_N<|m+1) from rfl]
   unfold k_b
   simp only
   have hhd:I_ d.rules b r at_=(match b[at_]? with | none=>.inl 1 | some c=>if 1<b_ c then .inl 4 else .inr (0,List.replicate c.toNat<|r.kids.getD 0 0,at_+1)):=by unfold I_;rw [H];rfl
   rw [hhd,j_u (by omega) ha (by omega) (by omega)]
   by_cases hlt:at_<b.length
   .rw [iN_ (show ¬(b.length:Int) - at_<1 by omega),gG_ hlt]
    simp only [a_,bN_,bF_,fF_]
    rw [ix_ hlt]
    simp only [a_]
    by_cases hz:b_ b[at_]=0
    .rw [show (b_ b[at_]==b_ (0:UInt8))=true by rw [QAv];exact hz,iN_ (show ¬1<b_ b[at_] by rw [hz];omega)]
     rw [show b[at_].toNat=0 by unfold b_ at hz;omega]
     unfold a_R
     rw [H]
     exact ⟨_,rfl⟩
    .rw [show (b_ b[at_]==b_ (0:UInt8))=false by rw [QA9];exact hz]
     simp only [bF_,fF_]
     by_cases hc:1<b_ b[at_]
     .rw [iP_ hc,dT_ (show b_ (1:UInt8)<b_ b[at_] from hc)];exact ⟨_,rfl⟩
     .rw [iN_ hc,dF_ (show ¬b_ (1:UInt8)<b_ b[at_] from hc)]
      simp only [bF_,fF_]
      rw [show b[at_].toNat=1 by unfold b_ at hz hc;omega]
      obtain ⟨ap',h⟩:=hrec (m+1) (by omega) _ hmem (e_ ap 1) (at_+1) (by omega)
      rw [b_j (by omega),a_,← a_x (x:=0) (show 0<r.kids.length by omega)]
      rw [show (1:Int).toNat=1 from rfl,h]
      unfold a_R;have ho:=o_q (λk p=>rdW d.rules b k.toNat p) (r.kids.getD 0 0)<|at_+1
      rw [show List.replicate 1 (r.kids.getD 0 0)=[r.kids.getD 0 0] from rfl]
      generalize P_ (λk p=>rdW d.rules b k.toNat p) [r.kids.getD 0 0] (at_+1)=y at ho
      rw [H,ho]
      refine ⟨ap',?_⟩
      by_cases G:(rdW d.rules b (r.kids.getD 0 0).toNat (at_+1)).2.2=0
      .rw [iP_ G,G];rfl
      .rw [iN_ G];rfl
   .rw [iP_ (show (b.length:Int) - at_<1 by omega),gN_ (by omega)];exact ⟨_,rfl⟩
  rw [show (r.kind==8)=false by simpa using H]
  have J:r.kind=9:=by omega
  rw [J];simp only [bQ_,fT_,bF_,fF_]
  have hs:=d_L hr.kind<|.inr J;have hmem:r.kids.getD 0 0∈r.kids:=e_e (by omega)
  rw [show (a_N<|m+2).impl_checker_checked=k_c (m+1) (a_N<|m+1) from rfl]
  unfold k_c
  simp only
  rw [show I_ d.rules b r at_ = .inr (0,[r.kids.getD 0 0],at_) by unfold I_;rw [J];rfl]
  obtain ⟨ap',h⟩:=hrec (m+1) (by omega) _ hmem (e_ ap 1) at_ ha
  rw [b_j (by omega),a_,← a_x (x:=0) (show 0<r.kids.length by omega),h]
  simp only
  have hx:=hle _ hmem at_ ha;have ho:=o_q (λk p=>rdW d.rules b k.toNat p) (r.kids.getD 0 0) at_;unfold a_R;generalize P_ (λk p=>rdW d.rules b k.toNat p) [r.kids.getD 0 0] at_=y at ho
  rw [J,ho]
  generalize rdW d.rules b (r.kids.getD 0 0).toNat at_=x at hx
  simp only [a_b]
  by_cases G:x.2.2=0
  .rw [iP_ G,show (x.2.2 != 0)=false by simpa using G]
   simp only [bF_,fF_,bQ_,fT_]
   rw [j_u (by omega) hx.2 (by omega) (by omega)]
   by_cases hlt:x.2.1<b.length
   .rw [iN_ (show ¬(b.length:Int) - x.2.1<1 by omega),gG_ hlt]
    simp only [a_,bQ_,fT_]
    rw [ix_ hlt,a_,d_G hx.1 (by omega),a_,n_M _ (by rw [d_H (by omega)];omega),a_]
    by_cases hsum:b_ b[x.2.1]=c_Y (a_v b at_ x.2.1)
    .rw [show (b_ b[x.2.1] != c_Y (a_v b at_ x.2.1))=false by simpa using hsum,iP_ hsum];exact ⟨_,rfl⟩
    .rw [show (b_ b[x.2.1] != c_Y (a_v b at_ x.2.1))=true by simpa using hsum,iN_ hsum];exact ⟨_,rfl⟩
   .rw [iP_ (show (b.length:Int) - x.2.1<1 by omega),gN_ (by omega)];exact ⟨_,rfl⟩
  .rw [iN_ G,show (x.2.2 != 0)=true by simpa using G]
   exact ⟨_,rfl⟩
end
end Go.Vw
namespace Go.Vw
open Go.RowKit Dat
section
variable {d:d_}{b:Bt}
theorem y_7 {r:f_}{num:Int}{p:Nat}{x:List Val×Nat×Int}(h:(a_R b r num p x).2.2 ≠ 0):(a_R b r num p x).1=zV:=by
 unfold a_R at *
 grind
theorem rdB_zV {rs:List f_}{r:f_}{p:Nat}{rd:Int->Nat->RR}(h:(rdB rs b r p rd).2.2 ≠ 0):(rdB rs b r p rd).1=zV:=by
 have hby:∀p n,(a_H b p n).2.2 ≠ 0->(a_H b p n).1=zV:=λp n h=>by
  unfold a_H at *
  grind
 unfold rdB at *
 split
 .grind
 rename_i h1;rw [iN_ h1] at h
 split
 .rfl
 rename_i h2;rw [iN_ h2] at h
 split
 .grind
 rename_i h3;rw [iN_ h3] at h
 split
 .grind
 rename_i h4;rw [iN_ h4] at h
 split
 .grind
 rename_i h5;rw [iN_ h5] at h
 grind [I_,y_7]
theorem s_H {i at_:Nat}(h:(rdW d.rules b i at_).2.2 ≠ 0):(rdW d.rules b i at_).1=zV:=by
 grind [rdW,rdB_zV]
def e_g (rd:Int->Nat->RR)(L:Nat):List Int->Nat->List Val->Nat->Prop
 | [],p,vs,e=>vs=[]/\e=p
 | k::ks,p,vs,e=>p<=L/\(rd k p).2.2=0/\∃ws,vs=(rd k p).1::ws/\e_g rd L ks (rd k p).2.1 ws e
theorem o_r {rd:Int->Nat->RR}{L:Nat}:∀(ks:List Int)(p:Nat),p<=L->(∀k∈ks,∀p,p<=L->(rd k p).2.1<=L)->(P_ rd ks p).2.2=0->e_g rd L ks p (P_ rd ks p).1 (P_ rd ks p).2.1
 | [],p,_,_,_=>⟨rfl,rfl⟩
 | k::ks,p,hp,hle,h=>by
  unfold P_ at *
  by_cases G:(rd k p).2.2=0
  .rw [iP_ G] at *
   by_cases h1:(P_ rd ks (rd k p).2.1).2.2=0
   .rw [iP_ h1] at *
    exact ⟨hp,G,_,rfl,o_r ks _ (hle k mS_ p hp) (λk hk=>hle k<|mT_ _ hk) h1⟩
   grind
  grind
theorem i_i {rd:Int->Nat->RR}{L:Nat}:∀{ks:List Int}{p:Nat}{vs:List Val}{e:Nat},e_g rd L ks p vs e->vs.length=ks.length
 | [],_,_,_,h=>by rw [h.1];rfl
 | _::_,_,_,_,h=>by obtain ⟨_,_,ws,rfl,h⟩:=h;simp [i_i h]
def a_f (rs:List f_)(r:f_)(at_:Nat):Nat:=if r.kind==5 || r.kind==7 then at_+(y_ rs<|p_ r).size.toNat else if r.kind==8 then at_+1 else at_
theorem m_5 {rs:List f_}{r:f_}{at_:Nat}(_:a_m rs r=true)(hk:5<=r.kind/\r.kind<=9){num:Int}{ks:List Int}{st:Nat}(hh:I_ rs b r at_ = .inr (num,ks,st)) :
  (∀j (hj:j<ks.length),a_n r num j=ks[j])/\st=a_f rs r at_/\(r.kind=9->num=0):=by
 unfold I_ at hh
 by_cases h5:r.kind=5
 .grind [U_,y_,p_,a_n,a_f]
 rw [show (r.kind==5)=false by grind] at hh
 by_cases h6:r.kind=6
 .grind [a_n,a_f]
 rw [show (r.kind==6)=false by grind] at hh
 by_cases G:r.kind=7
 .grind [U_,y_,p_,b_9,a_f,a_n]
 rw [show (r.kind==7)=false by grind] at hh
 by_cases H:r.kind=8
 .grind [a_n,a_f]
 rw [show (r.kind==8)=false by grind] at hh
 simp only [bF_,fF_] at hh
 cases hh
 have I:r.kind=9:=by omega
 refine ⟨λj hj=>?_,by grind [a_f],λ_=>rfl⟩
 grind [a_n]
structure RdOk (d:d_)(b:Bt)(r:f_)(at_:Nat)(x:RR)(ks:List Int)(e:Nat):Prop where
 item:∀j (hj:j<ks.length),a_n r x.1.number j=ks[j]
 kids:∀k∈ks,k∈r.kids
 small:ks.length<=40
 ch:e_g (λk p=>rdW d.rules b k.toNat p) b.length ks (a_f d.rules r at_) x.1.items e
 st:at_<=a_f d.rules r at_/\a_f d.rules r at_<=b.length
 se:a_f d.rules r at_<=e
 le:e<=x.2.1
 go:at_<x.2.1∨(e=x.2.1/\a_f d.rules r at_=at_/\ks ≠ [])
theorem f_i (hv:D_ d=true){i:Nat}(hi:i<d.rules.length){at_:Nat}(ha:at_<=b.length)(hok:(rdW d.rules b i at_).2.2=0) :
  ∃ks e,RdOk d b d.rules[i] at_ (rdW d.rules b i at_) ks e:=by
 have hbase:=c_9 (b:=b) hv i hi at_ ha
 rw [e_G hv hi ha] at *
 have hr:=a_P hv hi;have hal:=g_h hr.kind;generalize hrr:d.rules[i]=r at *
 have leaf:∀(x:RR),a_f d.rules r at_=at_->at_<x.2.1->x.1.items=[]->∃ks e,RdOk d b r at_ x ks e:=λx h1 h2 h3 =>
  ⟨[],at_,λj hj=>by grind,λk hk=>by grind,by simp,by rw [h3,h1];exact ⟨rfl,rfl⟩,by omega,by omega,QAO h2,.inl h2⟩
 have hby:∀p n,(a_H b p n).2.2=0->(a_H b p n).1.items=[]/\(a_H b p n).2.1=p+n.toNat:=λp n h=>by
  unfold a_H at *
  split at h
  .cases h
  .rename_i G;rw [iN_ G];exact ⟨rfl,rfl⟩
 unfold rdB at *
 by_cases h1:r.kind=1
 .rw [h1] at hok ⊢;simp only [bQ_,fT_] at hok ⊢
  have hst:a_f d.rules r at_=at_:=by grind [a_f]
  cases hd:U_ b r at_ with
  | none=>grind
  | some n=>have:=(g_f hr.kind h1).2.1;exact leaf _ hst (by grind) rfl
 rw [show (r.kind==1)=false by grind] at *
 by_cases h2:r.kind=2
 .rw [h2] at hok ⊢
  have hst:a_f d.rules r at_=at_:=by grind [a_f]
  have:=x_r hr.kind h2
  exact leaf _ hst (by
   grind [c_6,c_6]) rfl
 rw [show (r.kind==2)=false by grind] at *
 by_cases h3:r.kind=3
 .rw [h3] at hok ⊢
  have hst:a_f d.rules r at_=at_:=by grind [a_f]
  have:=h_p hr.kind h3
  grind
 rw [show (r.kind==3)=false by grind] at *
 by_cases h4:r.kind=4
 .rw [h4] at hok ⊢;simp only [bF_,fF_,bQ_,fT_] at hok ⊢
  have hst:a_f d.rules r at_=at_:=by grind [a_f]
  cases hd:U_ b (y_ d.rules<|p_ r) at_ with
  | none=>grind
  | some n =>
   rw [hd] at hok
   have:=(c_8 (g_g hr.kind h4).1).2.2.1
   grind
 rw [show (r.kind==4)=false by grind] at *
 by_cases H:r.kind=10
 .rw [H] at hok ⊢;simp only [bF_,fF_,bQ_,fT_] at hok ⊢
  have hst:a_f d.rules r at_=at_:=by grind [a_f]
  cases hd:d_D b at_ (r.bytes.getD 0 0) with
  | none=>grind
  | some x=>have:=l_H _ _ _ _ _ hd;exact leaf _ hst (by grind) rfl
 rw [show (r.kind==10)=false by grind] at *
 simp only [bF_,fF_] at hok ⊢
 cases hh:I_ d.rules b r at_ with
 | inl c=>grind [absurd,I_,U_,y_,p_,b_9]
 | inr y =>
  obtain ⟨num,ks,st⟩:=y
  rw [hh] at hok
  simp only at hok ⊢
  have hk:=i_f hr.kind (by omega) ha hh;obtain ⟨hitem,hst,I⟩:=m_5 hr.kind (by omega) hh
  have hlek:∀k∈ks,∀p,p<=b.length->p<=(rdW d.rules b k.toNat p).2.1/\(rdW d.rules b k.toNat p).2.1<=b.length:=λk hk' p hp=>by
   have:=hr.kids k<|hk.1 k hk'
   grind [c_9]
  have hile:=j_y (rd:=λk p=>rdW d.rules b k.toNat p) (L:=b.length) ks st hk.2.2.1 hlek;have hch:=o_r (rd:=λk p=>rdW d.rules b k.toNat p) (L:=b.length) ks st hk.2.2.1<|λk hk' p hp=>(hlek k hk' p hp).2;generalize P_ (λk p=>rdW d.rules b k.toNat p) ks st=x at *
  have G:x.2.2=0:=by
   grind [absurd,a_R]
  have hch:=hch G
  have hnk:r.kind=6∨r.kind=9->ks ≠ []:=by
   intro J hnil;unfold I_ at hh
   rcases J with h | h
   .rw [h] at hh
    have:=e_F hr.kind h
    grind
   grind
  subst hst;refine ⟨ks,x.2.1,?_⟩;unfold a_R at hok ⊢
  rw [iP_ G] at hok ⊢
  by_cases O:r.kind=9
  .rw [show (r.kind==9)=true by grind] at hok ⊢
   simp only [fT_] at hok ⊢
   cases hb:b[x.2.1]? with
   | none=>grind
   | some c =>
    rw [hb] at hok
    simp only at hok ⊢
    by_cases hs:b_ c=c_Y (a_v b at_ x.2.1)
    .rw [iP_ hs]
     have:=I O;subst this;exact ⟨hitem,hk.1,hk.2.2.2.1,hch,⟨hk.2.1,hk.2.2.1⟩,hile.1,by simp,.inl (by grind)⟩
    grind
  .rw [show (r.kind==9)=false by grind]
   simp only [bF_,fF_]
   refine ⟨hitem,hk.1,hk.2.2.2.1,hch,⟨hk.2.1,hk.2.2.1⟩,hile.1,QAB _,?_⟩
   grind
theorem s_I (hv:D_ d=true):∀(i:Nat),i<d.rules.length->∀at_,at_<=b.length->(rdW d.rules b i at_).2.2=0->at_<(rdW d.rules b i at_).2.1:=by
 intro i
 induction i using Nat.strongRecOn with
 | _ i ih =>
  intro hi at_ ha hok;obtain ⟨ks,e,h⟩:=f_i hv hi ha hok
  rcases h.go with hgo | ⟨he,hst,hne⟩
  .omega
  .have hch:=h.ch
   cases ks with
   | nil=>grind
   | cons k ks =>
    obtain ⟨hp,G,ws,hws,hrest⟩:=hch;have hkid:=(a_P hv hi).kids k (h.kids k mS_);have hlt:=ih k.toNat (by omega) (by omega) _ hp G
    have hmono:∀(ks:List Int)(p:Nat)(vs:List Val)(e:Nat),p<=b.length->(∀k∈ks,0<=k/\k<(i:Int))->e_g (λk p=>rdW d.rules b k.toNat p) b.length ks p vs e->p<=e:=by
     intro ks
     induction ks with
     | nil=>intro p vs e _ _ h;rw [h.2];simp
     | cons k ks ihk =>
      intro p vs e hp hkk h;obtain ⟨_,_,ws,_,h⟩:=h;have hk:=hkk k mS_;have hl:=c_9 (b:=b) hv k.toNat (by omega) p hp
      grind
    have:=hmono ks _ ws e (c_9 hv k.toNat (by omega) _ hp).2 (λk' hk'=>(a_P hv hi).kids k' (h.kids k'<|mT_ _ hk')) hrest
    omega
def okV (d:d_)(b:Bt)(rule at_:Int):Bool:=(D_ d && b_A d rule) && ((decide (0<=at_) && decide (at_<=(b.length:Int))) && decide ((b.length:Int)<=400))
def b_C (d:d_)(rule:Int)(b:Bt)(at_:Int):Val×Int×Int:=if okV d b rule at_ then b_B (rdW d.rules b rule.toNat at_.toNat) else (zV,0,8)
theorem m_6 {rule at_:Int}(h:okV d b rule at_=true):D_ d=true/\b.length<=400/\∃i p:Nat,rule=i/\at_=p/\i<d.rules.length/\p<=b.length:=by
 unfold okV b_A at h
 simp only [aE_,dE_] at h
 exact ⟨h.1.1,by omega,rule.toNat,at_.toNat,by omega,by omega,by omega,by omega⟩
theorem y_8 (hd:SmD d){n:Nat}(hn:500<=n)(rule at_:Int):k_1 n d rule b at_=some (b_C d rule b at_):=by
 unfold k_1 b_C
 rw [q_c d hd,b_z]
 by_cases h:okV d b rule at_=true
 .rw [iP_ h]
  obtain ⟨hv,hb,i,p,rfl,rfl,hi,hp⟩:=m_6 h;have hlen:=(b_i hv).2;have H:(D_ d && b_A d (i:Int))=true:=by grind [b_A]
  rw [H,dT_ (show (0:Int)<=(p:Int) by omega),dT_ (show (p:Int)<=(b.length:Int) by omega),dF_ (show ¬(400:Int)<(b.length:Int) by omega)]
  simp only [a_,nT_,bF_,fF_,QAQ]
  rw [h_q hv hd hb i hi n (by omega) p hp]
  rfl
 .rw [iN_ h]
  unfold okV at h
  have G:decide ((400:Int)<(b.length:Int)) = !decide ((b.length:Int)<=400):=by
   grind
  rw [G]
  generalize (D_ d && b_A d rule)=a at *
  generalize (decide (0<=at_) && decide (at_<=(b.length:Int)))=c at *
  generalize decide ((b.length:Int)<=400)=e at *
  simp_all
theorem o_s (hd:SmD d){n:Nat}(hn:500<=n)(rule at_:Int):f_p n d rule b at_=some (b_C d rule b at_):=by
 unfold f_p b_C
 rw [l_A n (by omega) d hd]
 by_cases h:okV d b rule at_=true
 .rw [iP_ h]
  obtain ⟨hv,hb,i,p,rfl,rfl,hi,hp⟩:=m_6 h;have hlen:=(b_i hv).2;have G:(D_ d && b_A d (i:Int))=true:=by grind [b_A]
  rw [G,dF_ (show ¬(p:Int)<0 by omega),dF_ (show ¬(b.length:Int)<(p:Int) by omega),dF_ (show ¬(400:Int)<(b.length:Int) by omega)]
  simp only [a_,nT_,bF_,fF_]
  obtain ⟨nx,hrd⟩:=x_R hv hd hb i hi n (by omega) p hp
  rw [hrd]
  show _=some (b_B<|rdW d.rules b i p)
  have hz:=s_H (d:=d) (b:=b) (i:=i) (at_:=p);generalize rdW d.rules b i p=x at *
  unfold d_M b_B
  by_cases J:x.2.2=0
  .simp_all
  simp_all
 .rw [iN_ h]
  unfold okV at h
  have H:decide ((400:Int)<(b.length:Int)) = !decide ((b.length:Int)<=400):=by
   grind
  have I:decide (at_<0) = !decide (0<=at_):=by
   grind
  have G:decide ((b.length:Int)<at_) = !decide (at_<=(b.length:Int)):=by
   grind
  rw [H,I,G]
  generalize (D_ d && b_A d rule)=a at *
  generalize decide (0<=at_)=c at *
  generalize decide (at_<=(b.length:Int))=c' at *
  generalize decide ((b.length:Int)<=400)=e at *
  simp_all
theorem s_J (hd:SmD d){n:Nat}(hn:500<=n)(rule at_:Int):i_D n d rule b at_=some ((b_C d rule b at_).2.1,(b_C d rule b at_).2.2):=by
 unfold i_D b_C
 rw [l_A n (by omega) d hd]
 by_cases h:okV d b rule at_=true
 .rw [iP_ h]
  obtain ⟨hv,hb,i,p,rfl,rfl,hi,hp⟩:=m_6 h;have hlen:=(b_i hv).2;have G:(D_ d && b_A d (i:Int))=true:=by grind [b_A]
  rw [G,dF_ (show ¬(p:Int)<0 by omega),dF_ (show ¬(b.length:Int)<(p:Int) by omega),dF_ (show ¬(400:Int)<(b.length:Int) by omega)]
  simp only [a_,nT_,bF_,fF_]
  obtain ⟨ap',hrd⟩:=y_4 hv hd hb i hi n (by omega) p hp 0
  rw [show (⟨(⟨d.rules⟩:d_),b,0⟩:a_3)=⟨d,b,0⟩ from rfl,hrd]
  rfl
 .rw [iN_ h]
  unfold okV at h
  have H:decide ((400:Int)<(b.length:Int)) = !decide ((b.length:Int)<=400):=by
   grind
  have I:decide (at_<0) = !decide (0<=at_):=by
   grind
  have G:decide ((b.length:Int)<at_) = !decide (at_<=(b.length:Int)):=by
   grind
  rw [H,I,G]
  generalize (D_ d && b_A d rule)=a at *
  generalize decide (0<=at_)=c at *
  generalize decide (at_<=(b.length:Int))=c' at *
  generalize decide ((b.length:Int)<=400)=e at *
  simp_all
def b_D (d:d_):Int:=(d.rules.length:Int) - 1
theorem o_t (hd:SmD d):h_C d=some (b_D d):=by
 have:=hd.rules;grind [h_C,b_D,a_L,MXv]
theorem m_7 (hd:SmD d):h_x d=some (b_D d):=by
 have:=hd.rules;grind [h_x,b_D,a_L,MXv]
def e_h (d:d_)(b:Bt):Val×Int×Int:=if (b_C d (b_D d) b 0).2.2=0/\(b_C d (b_D d) b 0).2.1<(b.length:Int) then (zV,(b_C d (b_D d) b 0).2.1,7) else b_C d (b_D d) b 0
theorem s_K (v:Val)(e c:Int)(len:Int):bd (α:=Bool) (if (c==0) then some (decide<|e<len) else some false) (λG=>if G then some ((⟨0,([]:Bt),([]:List Val)⟩:Val),e,7) else some ((⟨v.number,v.bytes,v.items⟩:Val),e,c))=some (if c=0/\e<len then (zV,e,7) else (v,e,c)):=by
 rw [s_g]
 by_cases H:c=0
 .subst H
  by_cases h1:e<len
  .simp_all
  simp_all [dF_,iN_]
 simp_all
theorem s_L (hd:SmD d){n:Nat}(hn:500<=n):i_F n d b=some (e_h d b):=by
 unfold i_F e_h
 rw [o_t hd,a_,o_s hd hn]
 generalize b_C d (b_D d) b 0=x;exact s_K x.1 x.2.1 x.2.2 _
theorem y_9 (hd:SmD d){n:Nat}(hn:500<=n):k_2 n d b=some (e_h d b):=by
 unfold k_2 e_h
 rw [m_7 hd,a_,y_8 hd hn]
 generalize b_C d (b_D d) b 0=x;exact s_K x.1 x.2.1 x.2.2 _
end
end Go.Vw
namespace Go.Vw
open Go.RowKit Dat
theorem y_b (x:Nat):mkB (e_ 48 ((x % 10:Nat):Int))=UInt8.ofNat (48+x % 10):=by
 have:x % 10=0∨x % 10=1∨x % 10=2∨x % 10=3∨x % 10=4∨x % 10=5∨x % 10=6∨x % 10=7∨x % 10=8∨x % 10=9:=by omega
 rcases this with h | h | h | h | h | h | h | h | h | h <;> rw [h] <;> decide
theorem o_u:∀(k x:Nat),x<10 ^ k->0<x->x<=4611686018427387904->∀(s:Str)(n:Nat),k+1<=n->s.b.length+k<=1000 ->
  F_ (σ:=Str×Int) (ρ:=Str) (un2 λH G=>if (G != 0) then bd (α:=Int) (if (decide<|(b_7 G 10)<0) then some (i_1<|b_7 G 10) else some (b_7 G 10)) (λJ=>bd (cat (⟨[mkB (e_ 48 J)]⟩:Str) H) λL=>some<|.next (L,c_V G 10)) else some (.brk (H,G))) n (s,(x:Int))=some (.inl (⟨Lib.decDigits x++s.b⟩,0))
 | 0,x,h,O,_,_,_,_,_=>by omega
 | k+1,x,h,O,hb,s,n,hn,hs=>by
  obtain ⟨m,rfl⟩:∃m,n=m+1:=⟨n - 1,by omega⟩;unfold F_
  simp only [un2]
  rw [show ((x:Int) != 0)=true by grind,m_a (by omega),o_A (by omega) (by omega) (by omega),dF_ (show ¬(x:Int) % 10<0 by omega)]
  simp only [fT_,bF_,fF_,a_]
  rw [show (x:Int) % 10=((x % 10:Nat):Int) by omega,y_b,a_y (by grind [a_7]),a_,show (x:Int) / 10=((x / 10:Nat):Int) by omega]
  simp only
  by_cases I:x<10
  .rw [show x / 10=0 by omega,show x % 10=x by omega]
   obtain ⟨m',rfl⟩:∃m',m=m'+1:=⟨m - 1,by omega⟩
   rw [Lib.decDigits,dif_pos I]
   rfl
  .rw [o_u k (x / 10) (by omega) (by omega) (by omega) _ m (by omega) (by grind)]
   rw [Lib.decDigits.eq_1 x,dif_neg I]
   simp
theorem y_c {n:Nat}(hn:30<=n)(i:Nat)(hi:i<=1000000000):d_p n i=some ⟨Lib.itoa i⟩:=by
 unfold d_p Lib.itoa
 rw [iN_ (show ¬(i:Int)<0 by omega)]
 by_cases G:i=0
 .subst G
  rw [show ((((0:Nat):Int)).toNat)=0 from rfl,Lib.decDigits,dif_pos (by omega)]
  rfl
 .rw [show ((i:Int)==0)=false by grind]
  simp only [bF_,fF_]
  rw [o_u 20 i (by omega) (by omega) (by omega) ⟨[]⟩ n (by omega) (by simp),dF_ (show ¬(i:Int)<0 by omega)]
  simp
theorem s_N (i:Nat)(hi:i<=1000000000):(Lib.itoa i).length<=21:=Lib.itoa_length_le i (by omega) (by omega)
def a_c (r:f_)(i:Nat):Str :=
 if r.kind==5 then ⟨Lib.itoa i⟩
 else if r.kind==6 && decide (i<r.names.length) then r.names.getD i ⟨[]⟩
 else if r.kind==7 && i==0 then ⟨[42]⟩
 else if r.kind==8 && i==0 then ⟨[63]⟩
 else if r.kind==9 && i==0 then ⟨[43]⟩
 else ⟨[]⟩
theorem m_8 {n:Nat}(hn:30<=n)(r:f_)(i:Nat)(hi:i<=1000000000):g_q n r i=some (a_c r i):=by
 unfold g_q a_c
 rw [y_c hn i hi]
 rw [n_t]
 cases (r.kind==5)
 .cases (r.kind==6)
  .cases (r.kind==7) <;> cases (r.kind==8) <;> cases (r.kind==9) <;> cases (i==0) <;> rfl
  .by_cases h:i<r.names.length
   .simp_all [dT_,ix_]
   .rw [dF_ h,dF_ (show ¬(i:Int)<(r.names.length:Int) by omega)]
    cases (r.kind==7) <;> cases (r.kind==8) <;> cases (r.kind==9) <;> cases (i==0) <;> rfl
 .rfl
theorem y_d {d:d_}(hv:D_ d=true)(hd:SmD d){n:Nat}(hn:30<=n){k:Nat}(hk:k<d.rules.length)(i:Nat):h_I n d k i=some (a_c d.rules[k] i):=by
 unfold h_I a_c h_H l_p
 rw [l_A n (by omega) d hd,hv,ix_ hk]
 have G:b_A d (k:Int)=true:=by grind [b_A]
 rw [G,dF_ (show ¬(i:Int)<0 by omega)]
 simp only [QAQ,nT_,a_,bF_,fF_]
 generalize d.rules[k]=r
 by_cases h5:r.kind=5
 .grind
 rw [show (r.kind==5)=false by grind]
 by_cases h6:r.kind=6
 .rw [h6]
  by_cases h:i<r.names.length
  .simp_all [dT_,ix_]
  .rw [dF_ h,dF_ (show ¬(i:Int)<(r.names.length:Int) by omega)]
   simp
 rw [show (r.kind==6)=false by grind]
 by_cases H:i=0
 .subst H
  cases (r.kind==7) <;> cases (r.kind==8) <;> cases (r.kind==9) <;> rfl
 simp_all
theorem o_v {s:Str}(h:b_3 s=true):s.b.length<=12:=by
 grind [b_3]
theorem o_w {rs:List f_}{r:f_}(h:a_m rs r=true)(i:Nat)(hi:i<=1000000000):(a_c r i).b.length<=21:=by
 unfold a_c
 split
 .grind [s_N]
 split
 .rename_i h6
  simp only [aE_,QAv,dE_] at h6
  rw [a_x h6.2]
  have:=o_v<|(e_F h h6.1).2.2.2 _ (gE_ h6.2)
  omega
 grind
def d_8 (r:f_)(path:Str)(i:Nat):Str:=⟨path.b++[47]++(a_c r i).b⟩
def ixL (f:Int->Nat->Str->List j_)(e:Int->Nat->Nat)(r:f_)(path:Str):List Int->Nat->Nat->List j_
 | [],_,_=>[]
 | k::ks,i,pos=>f k pos (d_8 r path i)++ixL f e r path ks (i+1) (e k pos)
def ixW (rs:List f_)(b:Bt)(rule:Nat)(at_:Nat)(path:Str):List j_ :=
 (⟨path,(rule:Int),(at_:Int),((rdW rs b rule at_).2.1:Int)⟩:j_)::ixL (λk p q=>if _h:k.toNat<rule then ixW rs b k.toNat p q else []) (λk p=>(rdW rs b k.toNat p).2.1) (rs.getD rule default) path ((List.range (rdW rs b rule at_).1.items.length).map (a_n (rs.getD rule default) (rdW rs b rule at_).1.number)) 0 (a_f rs (rs.getD rule default) at_)
termination_by rule
theorem s_O {f f':Int->Nat->Str->List j_}{e:Int->Nat->Nat}{r:f_}{path:Str}:∀(ks:List Int)(i pos:Nat),(∀k∈ks,∀p q,f k p q=f' k p q)->ixL f e r path ks i pos=ixL f' e r path ks i pos
 | [],_,_,_=>rfl
 | k::ks,i,pos,h=>by
  unfold ixL
  rw [h k mS_,s_O ks _ _<|λk hk=>h k<|mT_ _ hk]
section
variable {d:d_}{b:Bt}
theorem j_C (hv:D_ d=true){i:Nat}(hi:i<d.rules.length){at_:Nat}{ks:List Int}{e:Nat}(h:RdOk d b d.rules[i] at_ (rdW d.rules b i at_) ks e)(path:Str) :
  ixW d.rules b i at_ path=(⟨path,(i:Int),(at_:Int),((rdW d.rules b i at_).2.1:Int)⟩:j_)::ixL (λk p q=>ixW d.rules b k.toNat p q) (λk p=>(rdW d.rules b k.toNat p).2.1) d.rules[i] path ks 0 (a_f d.rules d.rules[i] at_):=by
 rw [ixW]
 have G:d.rules.getD i default=d.rules[i]:=by grind
 rw [G]
 have hl:=i_i h.ch
 have H:(List.range (rdW d.rules b i at_).1.items.length).map (a_n d.rules[i] (rdW d.rules b i at_).1.number)=ks:=by
  apply List.ext_getElem
  .grind
  .intro j h1 h2
   rw [List.getElem_map,List.getElem_range]
   exact h.item j h2
 rw [H]
 congr 1
 refine s_O ks _ _<|λk hk p q=>?_;have:=(a_P hv hi).kids k (h.kids k hk)
 grind
theorem s_P (i:Nat)(f:Int->Nat->Str->List j_)(r:f_)(path:Str):∀(ks:List Int)(j pos:Nat)(vs:List Val)(e:Nat),(∀k∈ks,∀p,p<=b.length->p<=(rdW d.rules b k.toNat p).2.1/\(rdW d.rules b k.toNat p).2.1<=b.length)->(∀k∈ks,∀p q,p<=b.length->(rdW d.rules b k.toNat p).2.2=0->(f k p q).length<=i * ((rdW d.rules b k.toNat p).2.1 - p)) ->
  e_g (λk p=>rdW d.rules b k.toNat p) b.length ks pos vs e->(ixL f (λk p=>(rdW d.rules b k.toNat p).2.1) r path ks j pos).length<=i * (e - pos)/\pos<=e
 | [],_,_,_,_,_,_,h=>by rw [h.2];simp [ixL]
 | k::ks,j,pos,vs,e,hle,hf,h=>by
  obtain ⟨hp,G,ws,_,hrest⟩:=h;have h1:=hle k mS_ pos hp;have h2:=hf k mS_ pos (d_8 r path j) hp G;have h3:=s_P i f r path ks (j+1) _ ws e (λk hk=>hle k<|mT_ _ hk) (λk hk=>hf k<|mT_ _ hk) hrest
  simp only at h3 G
  unfold ixL
  rw [QAN]
  refine ⟨?_,by omega⟩
  have h4:i * ((rdW d.rules b k.toNat pos).2.1 - pos)+i * (e - (rdW d.rules b k.toNat pos).2.1)=i * (e - pos):=by
   rw [← Nat.mul_add];congr 1;omega
  omega
theorem y_e (hv:D_ d=true):∀(i:Nat),i<d.rules.length->∀at_ path,at_<=b.length->(rdW d.rules b i at_).2.2=0->(ixW d.rules b i at_ path).length<=(i+1) * ((rdW d.rules b i at_).2.1 - at_):=by
 intro i
 induction i using Nat.strongRecOn with
 | _ i ih =>
  intro hi at_ path ha hok;obtain ⟨ks,e,h⟩:=f_i hv hi ha hok;have hlt:=s_I hv i hi at_ ha hok
  rw [j_C hv hi h path]
  have hkk:∀k∈ks,0<=k/\k<(i:Int):=λk hk=>(a_P hv hi).kids k (h.kids k hk)
  have hL:=s_P (d:=d) (b:=b) i (λk p q=>ixW d.rules b k.toNat p q) d.rules[i] path ks 0 _ _ e (λk hk p hp=>by grind [c_9]) (λk hk p q hp G=>by
   have H:=hkk k hk;have h1:=ih k.toNat (by omega) (by omega) p q hp G
   exact QAG h1 (QAL _ (by omega))) h.ch
  rw [lC_]
  have hst:=h.st;have hse:=h.se;have hle:=h.le;have h5:i * (e - a_f d.rules d.rules[i] at_)<=i * ((rdW d.rules b i at_).2.1 - at_):=Nat.mul_le_mul_left _ (by omega)
  grind
theorem o_x (hv:D_ d=true)(hb:b.length<=400){i:Nat}(hi:i<d.rules.length){at_:Nat}(path:Str)(ha:at_<=b.length)(hok:(rdW d.rules b i at_).2.2=0):(ixW d.rules b i at_ path).length<=10000:=by
 have h1:=y_e hv i hi at_ path ha hok;have h2:=(b_i hv).2;have h3:=(c_9 (b:=b) hv i hi at_ ha).2;have h4:(i+1) * ((rdW d.rules b i at_).2.1 - at_)<=24 * 400:=Nat.mul_le_mul (by omega) (by omega)
 omega
theorem o_y {r:f_}{path:Str}{j:Nat}(hk:a_m d.rules r=true)(hj:j<=1000000000):(d_8 r path j).b.length<=path.b.length+22:=by
 grind [d_8,List.length_append,List.length_cons,List.length_nil,o_w]
theorem s_Q (hv:D_ d=true)(hb:b.length<=400){i:Nat}(hi:i<d.rules.length){at_:Nat}(ha:at_<=b.length)(hok:(rdW d.rules b i at_).2.2=0) :
  (bd (α:=Bool) (if (d.rules[i].kind==5) then some (d.rules[i].kind==5) else some (d.rules[i].kind==7)) (λI=>bd (α:=Int) (if I then bd (idx d.rules[i].kids 0) λG=>bd3 (d_r d G b at_) λ_ H _=>some H else bd (α:=Int) (if (d.rules[i].kind==8) then some (e_ (at_:Int) 1) else some (at_:Int)) (λO=>some O)) some)=some ((a_f d.rules d.rules[i] at_:Nat):Int)):=by
 have hMX:=MXv;have hr:=a_P hv hi;obtain ⟨ks,e,h⟩:=f_i hv hi ha hok;have hst:=h.st
 rw [e_G hv hi ha] at hok
 generalize d.rules[i]=r at *
 unfold a_f at *
 have main:r.kind=5∨r.kind=7->bd (idx r.kids 0) (λG=>bd3 (d_r d G b at_) λJ H L=>some H)=some (((at_+(y_ d.rules<|p_ r).size.toNat:Nat)):Int):=by
  intro V
  have hlim:0<lim d.rules (p_ r)/\0<r.kids.length:=by
   rcases V with h | h
   .have:=d_6 hr.kind h;omega
   .have:=d_m hr.kind h;omega
  have hq:=c_8 hlim.1
  rw [b_W hlim.2,a_,i_9 hq.1 hq.2 (by omega) ha]
  cases hi:U_ b (y_ d.rules<|p_ r) at_ with
  | some n=>rfl
  | none =>
   grind [rdB,I_]
 by_cases h5:r.kind=5
 .simp_all
 by_cases Y:r.kind=7
 .simp_all
 rw [show (r.kind==5)=false by grind,show (r.kind==7)=false by grind]
 by_cases W:r.kind=8
 .rw [W]
  simp only [bF_,fF_,a_,bQ_,fT_,Bool.or_self]
  grind [d_o]
 simp_all
theorem y_f (hv:D_ d=true)(hb:b.length<=400){i:Nat}(hi:i<d.rules.length){at_:Nat}(ha:at_<=b.length) :
  (bd (α:=Bool) (if (d.rules[i].kind==5) then some (d.rules[i].kind==5) else some (d.rules[i].kind==7)) (λI=>bd (α:=Int) (if I then bd (idx d.rules[i].kids 0) λG=>bd (idx d.rules G) λH=>some (e_ (at_:Int) H.size) else bd (α:=Int) (if (d.rules[i].kind==8) then some (e_ (at_:Int) 1) else some (at_:Int)) (λJ=>some J)) some))=some ((a_f d.rules d.rules[i] at_:Nat):Int):=by
 have hr:=a_P hv hi;generalize d.rules[i]=r at *
 unfold a_f
 have main:r.kind=5∨r.kind=7->bd (idx r.kids 0) (λG=>bd (idx d.rules G) λH=>some<|e_ (at_:Int) H.size)=some (((at_+(y_ d.rules<|p_ r).size.toNat:Nat)):Int):=by
  intro L
  have hlim:0<lim d.rules (p_ r)/\0<r.kids.length:=by
   rcases L with h | h
   .have:=d_6 hr.kind h;omega
   .have:=d_m hr.kind h;omega
  have hq:=c_8 hlim.1;obtain ⟨_,h1,h4⟩:=hq.2
  grind [b_W,a_,d_o]
 by_cases h5:r.kind=5
 .simp_all
 by_cases V:r.kind=7
 .simp_all
 rw [show (r.kind==5)=false by grind,show (r.kind==7)=false by grind]
 by_cases O:r.kind=8
 .rw [O]
  simp only [bF_,fF_,a_,bQ_,fT_,Bool.or_self]
  grind [d_o]
 simp_all
end
end Go.Vw
namespace Go.Vw
open Go.RowKit Dat
section
variable {d:d_}{b:Bt}
theorem q_d {n:Nat}(hv:D_ d=true){i:Nat}(hi:i<d.rules.length)(hb:b.length<=400)(hn:30<=n){ks:List Int}{num:Int}(hitem:∀j (hj:j<ks.length),a_n d.rules[i] num j=ks[j])(hkk:∀k∈ks,0<=k/\k<(i:Int))(a2:ks.length<=40){path:Str}(hpath:path.b.length+32<=1000000)
  (ih:∀k,k<i->∀p q,p<=b.length->(rdW d.rules b k p).2.2=0->q.b.length<=path.b.length+22->m_r n d k b p q=some (ixW d.rules b k p q,((rdW d.rules b k p).2.1:Int)))
  (body:Nat->(List j_)×Int->Option (Out ((List j_)×Int)<|(List j_)×Int)) (hbd:body=(λH=>un2 λO V=>bd (cat path (⟨[47]⟩:Str)) λW=>bd (b_S d.rules[i] num ((H:Nat):Int)) λY=>bd (g_q n d.rules[i] ((H:Nat):Int)) λa0=>bd (cat W a0) λa1=>bd2 ((g_A n).spec_l19Build d Y b V a1) λI J=>bd (app O I) λL=>some<|.next (L,J))) :
  ∀m k (pos:Nat) (vs:List Val) (e:Nat) (out:List j_),k+m=ks.length->out.length<=1+k * 10000->e_g (λk p=>rdW d.rules b k.toNat p) b.length (ks.drop k) pos vs e ->
  k_ body m k (out,(pos:Int))=some (.inl (out++ixL (λk p q=>ixW d.rules b k.toNat p q) (λk p=>(rdW d.rules b k.toNat p).2.1) d.rules[i] path (ks.drop k) k pos,(e:Int)))
 | 0,k,pos,vs,e,out,hk,_,hch=>by
  rw [QAl (by omega)] at *
  rw [hch.2]
  simp [k_,ixL]
 | m+1,k,pos,vs,e,out,hk,ho,hch=>by
  have hLIM:=a_7;have hr:=a_P hv hi;have hlt:k<ks.length:=by omega
  rw [dC_ hlt] at *
  obtain ⟨hp,G,ws,_,hrest⟩:=hch
  simp only at G hrest
  have hkr:=hkk _<|gE_ hlt;have hst:=o_w hr.kind k (by omega);have hsm:=o_x hv hb (show ks[k].toNat<d.rules.length by omega) (d_8 d.rules[i] path k) hp G
  have hone:body k (out,(pos:Int))=some (.next (out++ixW d.rules b ks[k].toNat pos (d_8 d.rules[i] path k),((rdW d.rules b ks[k].toNat pos).2.1:Int))):=by
   rw [hbd]
   simp only [un2]
   rw [a_y (by grind),a_,d_I<|d_7 hr.kind,a_,hitem k hlt,m_8 hn _ k (by omega),a_,a_y (by grind),a_]
   have hrec:=ih ks[k].toNat (by omega) pos (d_8 d.rules[i] path k) hp G (o_y hr.kind (by omega))
   rw [show ((ks[k].toNat:Nat):Int)=ks[k] by omega] at hrec
   rw [show (g_A n).spec_l19Build d ks[k] b (pos:Int) ⟨path.b++[47]++(a_c d.rules[i] k).b⟩=m_r n d ks[k] b (pos:Int) (d_8 d.rules[i] path k) from rfl,hrec]
   grind [c_l,a_,a_b]
  unfold k_ ixL
  rw [hone]
  simp only
  rw [q_d hv hi hb hn hitem hkk a2 hpath ih body hbd m (k+1) _ ws e _ (by omega) (by rw [QAN];omega) hrest]
  simp
theorem v_C (hv:D_ d=true)(hd:SmD d)(hb:b.length<=400):∀(i:Nat)(_:i<d.rules.length),∀n,4 * i+600<=n->∀(at_:Nat)(path:Str),at_<=b.length->(rdW d.rules b i at_).2.2=0->path.b.length+22 * i+32<=1000000 ->
  m_r n d i b at_ path=some (ixW d.rules b i at_ path,((rdW d.rules b i at_).2.1:Int)):=by
 intro i
 induction i using Nat.strongRecOn with
 | _ i ih =>
  intro hi n hn at_ path ha hok hpath;have hlen:=(b_i hv).2;obtain ⟨m,rfl⟩:∃m,n=m+1:=⟨n - 1,by omega⟩;obtain ⟨ks,e,h⟩:=f_i hv hi ha hok;have hkk:∀k∈ks,0<=k/\k<(i:Int):=λk hk=>(a_P hv hi).kids k (h.kids k hk)
  show k_p m (g_A m) d i b at_ path=_
  unfold k_p
  rw [ix_ hi,a_,h_q hv hd hb i hi m (by omega) at_ ha]
  unfold b_B
  simp only [a_E]
  have hs:=s_Q hv hb hi ha hok
  rw [j_C hv hi h path]
  have hcl:=i_i h.ch
  rw [hcl]
  -- the start's text is that of start_eq
  have tail:∀(f:Int->Option (List j_×Int)),bd (α:=Bool) (if (d.rules[i].kind==5) then some (d.rules[i].kind==5) else some (d.rules[i].kind==7)) (λJ=>bd (α:=Int) (if J then bd (idx d.rules[i].kids 0) λG=>bd3 (d_r d G b at_) λL H O=>some H else bd (α:=Int) (if (d.rules[i].kind==8) then some (e_ (at_:Int) 1) else some (at_:Int)) (λI=>some I)) f)=f ((a_f d.rules d.rules[i] at_:Nat):Int):=by
   intro f;generalize (if (d.rules[i].kind==5) then some (d.rules[i].kind==5) else some (d.rules[i].kind==7))=o at *
   cases o with
   | none=>simp_all
   | some x =>
    simp only [a_] at hs ⊢
    revert hs;generalize (if x then bd (idx d.rules[i].kids 0) λG=>bd3 (d_r d G b at_) λL H O=>some H else bd (α:=Int) (if (d.rules[i].kind==8) then some (e_ (at_:Int) 1) else some (at_:Int)) (λI=>some I))=o2;intro hs
    cases o2 with
    | none=>simp_all
    | some y=>simp_all
  rw [tail]
  have hloop:=q_d (n:=m) hv hi hb (by omega) h.item hkk h.small (path:=path) (by omega) (λk hk p q hp V hq=>ih k hk (by omega) m (by omega) p q hp V (by omega)) _ rfl ks.length 0 (a_f d.rules d.rules[i] at_) (rdW d.rules b i at_).1.items e [(⟨path,(i:Int),(at_:Int),((rdW d.rules b i at_).2.1:Int)⟩:j_)] (by omega) (by simp) (by rw [QAP];exact h.ch)
  simp_all
theorem q_e {n:Nat}(hv:D_ d=true)(hd:SmD d){i:Nat}(hi:i<d.rules.length)(hb:b.length<=400)(hn:30<=n){ks:List Int}{v:Val}(hitem:∀j (hj:j<ks.length),a_n d.rules[i] v.number j=ks[j])(hkk:∀k∈ks,0<=k/\k<(i:Int))(a3:ks.length<=40){path:Str}(hpath:path.b.length+32<=1000000)(B:Nat)
  (ih:∀k,k<i->∀p q (L:List j_),p<=b.length->(rdW d.rules b k p).2.2=0->q.b.length<=path.b.length+22->L.length<=B+400001->m_s n ⟨⟨d.rules⟩,b,L⟩ q k (rdW d.rules b k p).1 p=some (((rdW d.rules b k p).2.1:Int),L++ixW d.rules b k p q))
  (body:Nat->Int×(List j_)->Option (Out (Int×(List j_))<|Int×(List j_))) (hbd:body=(λG=>un2 λI J=>bd (cat path (⟨[47]⟩:Str)) λO=>bd (idx v.items ((G:Nat):Int)) λV=>bd (h_I n (⟨d.rules⟩:d_) i ((G:Nat):Int)) λW=>bd (cat O W) λY=>bd (f_r (⟨d.rules⟩:d_) i v ((G:Nat):Int)) λa0=>bd2 ((g_B n).impl_indexer_part (⟨(⟨d.rules⟩:d_),b,J⟩:e_t) Y a0 V I) λa1 a2=>some<|.next (a1,a2))) :
  ∀m k (pos:Nat) (vs:List Val) (e:Nat) (out:List j_),k+m=ks.length->out.length<=B+1+k * 10000->v.items.drop k=vs->e_g (λk p=>rdW d.rules b k.toNat p) b.length (ks.drop k) pos vs e ->
  k_ body m k ((pos:Int),out)=some (.inl ((e:Int),out++ixL (λk p q=>ixW d.rules b k.toNat p q) (λk p=>(rdW d.rules b k.toNat p).2.1) d.rules[i] path (ks.drop k) k pos))
 | 0,k,pos,vs,e,out,hk,_,_,hch=>by
  rw [QAl (by omega)] at hch ⊢
  rw [hch.2]
  simp [k_,ixL]
 | m+1,k,pos,vs,e,out,hk,ho,hvs,hch=>by
  have hLIM:=a_7;have hr:=a_P hv hi;have hlt:k<ks.length:=by omega
  rw [dC_ hlt] at hch ⊢
  obtain ⟨hp,H,ws,hws,hrest⟩:=hch
  simp only at H hrest hws
  have hkr:=hkk _<|gE_ hlt;have hst:=o_w hr.kind k (by omega)
  rw [hws] at hvs
  have hlv:k<v.items.length:=by
   grind [List.drop_of_length_le,Nat.lt_or_ge]
  rw [dC_ hlv] at hvs
  obtain ⟨a4,a5⟩:=List.cons.inj hvs;have hsm:=o_x hv hb (show ks[k].toNat<d.rules.length by omega) (d_8 d.rules[i] path k) hp H
  have hone:body k ((pos:Int),out)=some (.next (((rdW d.rules b ks[k].toNat pos).2.1:Int),out++ixW d.rules b ks[k].toNat pos (d_8 d.rules[i] path k))):=by
   rw [hbd]
   simp only [un2]
   have e3:f_r (⟨d.rules⟩:d_) i v (k:Int)=some (a_n d.rules[i] v.number k):=n_Z (d:=⟨d.rules⟩) (ix_ hi) (d_7 hr.kind) v k;have e4:h_I n (⟨d.rules⟩:d_) i (k:Int)=some (a_c d.rules[i] k):=y_d (d:=d) hv hd hn hi k
   rw [a_y (by grind),a_,ix_ hlv,a_,e4,a_,a_y (by grind),a_,e3,a_,hitem k hlt]
   have hrec:=ih ks[k].toNat (by omega) pos (d_8 d.rules[i] path k) out hp H (o_y hr.kind (by omega)) (by omega)
   rw [show ((ks[k].toNat:Nat):Int)=ks[k] by omega] at hrec
   rw [a4,show (g_B n).impl_indexer_part (⟨⟨d.rules⟩,b,out⟩:e_t) ⟨path.b++[47]++(a_c d.rules[i] k).b⟩ ks[k] (rdW d.rules b ks[k].toNat pos).1 (pos:Int)=m_s n ⟨⟨d.rules⟩,b,out⟩ (d_8 d.rules[i] path k) ks[k] (rdW d.rules b ks[k].toNat pos).1 (pos:Int) from rfl,hrec]
   rfl
  unfold k_ ixL
  rw [hone]
  simp only
  rw [q_e hv hd hi hb hn hitem hkk a3 hpath B ih body hbd m (k+1) _ ws e _ (by omega) (by grind) a5 hrest]
  simp
theorem v_D (hv:D_ d=true)(hd:SmD d)(hb:b.length<=400):∀(i:Nat)(_:i<d.rules.length),∀n,4 * i+600<=n->∀(at_:Nat)(path:Str)(L:List j_),at_<=b.length->(rdW d.rules b i at_).2.2=0->path.b.length+22 * i+32<=1000000->L.length+i * 400001<=40000000 ->
  m_s n ⟨⟨d.rules⟩,b,L⟩ path i (rdW d.rules b i at_).1 at_=some (((rdW d.rules b i at_).2.1:Int),L++ixW d.rules b i at_ path):=by
 intro i
 induction i using Nat.strongRecOn with
 | _ i ih =>
  intro hi n hn at_ path L ha hok hpath hL;have hLIM:=a_7;have hlen:=(b_i hv).2;obtain ⟨m,rfl⟩:∃m,n=m+1:=⟨n - 1,by omega⟩;obtain ⟨ks,e,h⟩:=f_i hv hi ha hok;have hkk:∀k∈ks,0<=k/\k<(i:Int):=λk hk=>(a_P hv hi).kids k (h.kids k hk)
  show k_r m (g_B m) ⟨⟨d.rules⟩,b,L⟩ path i (rdW d.rules b i at_).1 at_=_
  unfold k_r
  simp only
  rw [a_Z (by omega),a_,show (⟨d.rules⟩:d_)=d from rfl,s_J hd (by omega)]
  have V:okV d b (i:Int) (at_:Int)=true:=by
   grind [okV,b_A]
  have hrv:b_C d i b at_=b_B (rdW d.rules b i at_):=by grind [b_C]
  rw [hrv]
  simp only [a_b]
  rw [ix_ hi,a_]
  have hs:=y_f hv hb hi ha
  rw [j_C hv hi h path]
  have hcl:=i_i h.ch
  rw [hcl]
  have tail:∀(f:Int->Option (Int×List j_)),bd (α:=Bool) (if (d.rules[i].kind==5) then some (d.rules[i].kind==5) else some (d.rules[i].kind==7)) (λG=>bd (α:=Int) (if G then bd (idx d.rules[i].kids 0) λH=>bd (idx d.rules H) λI=>some (e_ (at_:Int) I.size) else bd (α:=Int) (if (d.rules[i].kind==8) then some (e_ (at_:Int) 1) else some (at_:Int)) (λJ=>some J)) f)=f ((a_f d.rules d.rules[i] at_:Nat):Int):=by
   grind [bd,idx,e_]
  rw [tail]
  have hloop:=q_e (n:=m) hv hd hi hb (by omega) h.item hkk h.small (path:=path) (by omega) L.length (λk hk p q L' hp O hq hL'=>ih k hk (by omega) m (by omega) p q L' hp O (by omega) (by
   omega)) _ rfl ks.length 0 (a_f d.rules d.rules[i] at_) (rdW d.rules b i at_).1.items e (L++[(⟨path,(i:Int),(at_:Int),0⟩:j_)]) (by omega) (by simp) (by rfl) (by rw [QAP];exact h.ch)
  rw [show (⟨d.rules⟩:d_)=d from rfl] at hloop
  rw [hloop]
  simp only [a_,W_,un2,QAP]
  generalize ixL (λk p q=>ixW d.rules b k.toNat p q) (λk p=>(rdW d.rules b k.toNat p).2.1) d.rules[i] path ks 0 (a_f d.rules d.rules[i] at_)=X
  grind [b_B,c_P,a_,b_E,a_]
def okF (d:d_)(b:Bt):Bool:=(e_h d b).2.2==0
def b_4 (d:d_)(b:Bt):List j_:=if okF d b then ixW d.rules b (d.rules.length - 1) 0 ⟨[]⟩ else []
theorem j_n (h:okF d b=true):D_ d=true/\b.length<=400/\d.rules.length - 1<d.rules.length/\b_D d=((d.rules.length - 1:Nat):Int)/\(rdW d.rules b (d.rules.length - 1) 0).2.2=0/\(e_h d b).1=(rdW d.rules b (d.rules.length - 1) 0).1/\e_h d b=b_B (rdW d.rules b (d.rules.length - 1) 0):=by
 unfold okF e_h at h
 have h1:¬((b_C d (b_D d) b 0).2.2=0/\(b_C d (b_D d) b 0).2.1<(b.length:Int)):=by
  grind
 rw [iN_ h1] at h
 have h2:(b_C d (b_D d) b 0).2.2=0:=by grind
 have h3:okV d b (b_D d) 0=true:=by
  grind [b_C,okV,b_D]
 obtain ⟨hv,hb,i,p,hi,hp,hil,_⟩:=m_6 h3;have hl:=b_i hv;have hroot:b_D d=((d.rules.length - 1:Nat):Int):=by grind [b_D]
 have e:b_C d (b_D d) b 0=b_B (rdW d.rules b (d.rules.length - 1) 0):=by
  grind [b_C]
 grind [e_h,b_B,rdW]
theorem q_f (hd:SmD d){n:Nat}(hn:500<=n):i_z n d b=some (okF d b):=by
 unfold i_z okF
 rw [y_9 hd hn];rfl
theorem v_E (hd:SmD d){n:Nat}(hn:1000<=n):k_q n d b=some (b_4 d b,okF d b):=by
 unfold k_q b_4
 rw [q_f hd (by omega)]
 cases h:okF d b
 .rfl
 .obtain ⟨hv,hb,hlt,hroot,hok,_⟩:=j_n h;have hl:=b_i hv
  rw [m_7 hd,hroot]
  have:=v_C hv hd hb (d.rules.length - 1) hlt n (by omega) 0 ⟨[]⟩ (by omega) hok (by grind)
  simp_all
theorem v_F (hd:SmD d){n:Nat}(hn:1000<=n):k_s n d b=some (b_4 d b,okF d b):=by
 unfold k_s b_4
 rw [s_L hd (by omega)]
 cases h:okF d b
 .have h2:(e_h d b).2.2 ≠ 0:=by grind [okF]
  generalize e_h d b=x at h2
  show (if (x.2.2 != 0) then _ else _)=_
  grind
 .obtain ⟨hv,hb,hlt,hroot,hok,G,hrf⟩:=j_n h;have hl:=b_i hv
  rw [hrf]
  show (if ((rdW d.rules b (d.rules.length - 1) 0).2.2 != 0) then _ else _)=_
  rw [hok]
  simp only [bN_,bF_,fF_]
  rw [o_t hd,hroot,a_]
  have:=v_D hv hd hb (d.rules.length - 1) hlt n (by omega) 0 ⟨[]⟩ [] (by omega) hok (by grind) (by grind)
  simp_all
end
end Go.Vw
