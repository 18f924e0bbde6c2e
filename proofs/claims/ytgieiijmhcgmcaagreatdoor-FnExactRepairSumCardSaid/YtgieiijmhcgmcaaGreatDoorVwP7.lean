
import Derived.Test.YtgieiijmhcgmcaaGreatDoorVwP6
namespace Go.Vw
open Go.RowKit Dat
theorem j_j (rd:Int->Nat->RR)(k:Int)(p:Nat):(v_ rd [k] p).2=((rd k p).2.1,(rd k p).2.2):=by
 unfold v_
 by_cases h:(rd k p).2.2=0
 ·rw [iP_ h];simp [v_,h]
 ·rw [iN_ h]
section
variable {d:g_}{b:List UInt8}
theorem l_e {rec_:S_->Int->Int->Option (B_×Int)}{ks:List Int}(rd:Int->Nat->RR)(L:Nat)
  (ih:∀k∈ks,∀(ap:Int)(p:Nat),p<=L->∃ap',rec_ ⟨⟨d.rules⟩,b,ap⟩ k p=some (⟨((rd k p).2.1:Int),(rd k p).2.2⟩,ap')) (hle:∀k∈ks,∀p,p<=L->(rd k p).2.1<=L) :
  ∀m k (ap:Int) (p:Nat),k+m=ks.length->p<=L->∃ap',u_ (σ:=Int×Int×Int) (ρ:=B_×Int) (fun J=>un3 fun O V a0=>bd (idx ks ((J:Nat):Int)) fun W=>bd2 (rec_ (⟨(⟨d.rules⟩:g_),b,O⟩:S_) W V) fun h H=>if (h.code != 0)=true then some (.brk (H,h.at_,h.code)) else some (.next (H,h.at_,h.code))) m k (ap,(p:Int),0)=some (.inl (ap',((v_ rd (ks.drop k) p).2.1:Int),(v_ rd (ks.drop k) p).2.2))
 | 0,k,ap,p,hk,_=>by
  rw [List.drop_of_length_le (by omega)]
  exact ⟨ap,rfl⟩
 | m+1,k,ap,p,hk,hp=>by
  have hlt:k<ks.length:=by omega
  have hmem:=gE_ hlt
  rw [dC_ hlt]
  unfold u_ v_;obtain ⟨I,h1⟩:=ih ks[k] hmem ap p hp
  simp only [un3]
  rw [ix_ hlt,bd_some,h1]
  simp only [bd2_some]
  by_cases G:(rd ks[k] p).2.2=0
  ·rw [show ((rd ks[k] p).2.2 != 0)=false by simpa using G,iP_ G]
   obtain ⟨Y,h2⟩:=l_e rd L ih hle m (k+1) I (rd ks[k] p).2.1 (by omega) (hle _ hmem p hp);refine ⟨Y,?_⟩
   simp only [bF_,fF_]
   rw [G,h2]
   by_cases h3:(v_ rd (ks.drop<|k+1) (rd ks[k] p).2.1).2.2=0
   ·rw [iP_ h3,h3]
   ·rw [iN_ h3]
  ·rw [show ((rd ks[k] p).2.2 != 0)=true by simpa using G,iN_ G]
   exact ⟨I,rfl⟩
theorem l_f {rec_:S_->Int->Int->Option (B_×Int)}{ks:List Int}{kid:Int}(hkid:idx ks 1=some kid)(rd:Int->Nat->RR)(L:Nat)
  (ih:∀(ap:Int)(p:Nat),p<=L->∃ap',rec_ ⟨⟨d.rules⟩,b,ap⟩ kid p=some (⟨((rd kid p).2.1:Int),(rd kid p).2.2⟩,ap')) (hle:∀p,p<=L->(rd kid p).2.1<=L) :
  ∀(c:Nat)(ap:Int)(p:Nat),p<=L->c<=40->∀n,c+2<=n->∃x ap',a_5 (σ:=Int×Int×Int×Int) (ρ:=B_×Int) (un4 fun G H I J=>bd (α:=Bool) (if (decide<|0<G)=true then some (J==0) else some false) (fun W=>if W=true then bd (idx ks 1) fun Y=>bd2 (rec_ (⟨(⟨d.rules⟩:g_),b,H⟩:S_) Y I) fun O a0=>some (.next (K_ G 1,a0,O.at_,O.code)) else some (.brk (G,H,I,J)))) n ((c:Int),ap,(p:Int),0)=some (.inl (x,ap',((v_ rd (List.replicate c kid) p).2.1:Int),(v_ rd (List.replicate c kid) p).2.2))
 | 0,ap,p,hp,hc,n,hn=>by
  obtain ⟨m,rfl⟩:∃m,n=m+1:=⟨n - 1,by omega⟩;exact ⟨0,ap,rfl⟩
 | c+1,ap,p,hp,hc,n,hn=>by
  obtain ⟨m,rfl⟩:∃m,n=m+2:=⟨n - 2,by omega⟩;obtain ⟨V,h1⟩:=ih ap p hp
  rw [List.replicate_succ]
  unfold a_5 v_
  simp only [un4]
  rw [dT_ (show (0:Int)<((c+1:Nat):Int) by omega),hkid]
  simp only [fT_,bd_some,bQ_]
  rw [h1]
  simp only [bd2_some]
  rw [a_W (x:=((c+1:Nat):Int)) (by omega) (by omega),show ((c+1:Nat):Int) - 1=(c:Int) by omega]
  by_cases h:(rd kid p).2.2=0
  ·rw [iP_ h]
   obtain ⟨x,a1,h2⟩:=l_f hkid rd L ih hle c V (rd kid p).2.1 (hle p hp) (by omega) (m+1) (by omega);refine ⟨x,a1,?_⟩
   simp only [hkid,bd_some] at h2
   rw [h]
   rw [h2]
   by_cases h3:(v_ rd (List.replicate c kid) (rd kid p).2.1).2.2=0
   ·rw [iP_ h3,h3]
   ·rw [iN_ h3]
  ·rw [iN_ h]
   refine ⟨(c:Int),V,?_⟩;unfold a_5
   simp only [un4]
   rw [show ((rd kid p).2.2==0)=false by simpa using h]
   cases decide (0<(c:Int)) <;> rfl
theorem p_i (hv:P_ d=true)(hd:SmD d)(hb:b.length<=400):∀(i:Nat),i<d.rules.length->∀n,3 * i+410<=n->∀at_,at_<=b.length->∀ap,∃ap',l_N n ⟨d,b,ap⟩ i at_=some (⟨((rdW d.rules b i at_).2.1:Int),(rdW d.rules b i at_).2.2⟩,ap'):=by
 have hMX:=MXv;intro i
 induction i using Nat.strongRecOn with
 | _ i ih =>
  intro hi n hn at_ ha ap;have hlen:=(b_X hv).2;obtain ⟨m,rfl⟩:∃m,n=m+3:=⟨n - 3,by omega⟩
  rw [c_L hv hi ha]
  have hr:=b_q hv hi;have hal:=d_j hr.kind;have hsm:=hd.each d.rules[i] (gE_ hi);have hidx:idx d.rules (i:Int)=some d.rules[i]:=ix_ hi;generalize hrr:d.rules[i]=r at *
  have hkk:=j_h hr.kind
  show ∃ap',f_S (m+2) (a_h<|m+2) ⟨d,b,ap⟩ i at_=_
  unfold f_S rdB
  simp only
  rw [hidx,bd_some]
  have hle:∀k∈r.kids,∀p,p<=b.length->p<=(rdW d.rules b k.toNat p).2.1/\(rdW d.rules b k.toNat p).2.1<=b.length:=fun k hk p hp=>by
   have:=hr.kids k hk;exact b_b hv k.toNat (by omega) p hp
  have hrec:∀q,m<=q->∀k∈r.kids,∀(ap:Int)(p:Nat),p<=b.length->∃ap',(a_h q).impl_checker_value ⟨⟨d.rules⟩,b,ap⟩ k p=some (⟨((rdW d.rules b k.toNat p).2.1:Int),(rdW d.rules b k.toNat p).2.2⟩,ap'):=fun q hq k hk ap p hp=>by
   have:=hr.kids k hk;have h:=ih k.toNat (by omega) (by omega) q (by omega) p hp ap
   rw [show ((k.toNat:Nat):Int)=k by omega] at h
   exact h
  by_cases h1:r.kind=1
  ·rw [h1];simp only [bQ_,fT_]
   rw [h_h hidx (f_h hr.kind h1) (by omega) ha]
   cases J_ b r at_ <;> exact ⟨_,rfl⟩
  rw [show (r.kind==1)=false by simpa using h1]
  by_cases h2:r.kind=2
  ·rw [h2];simp only [bQ_,fT_,bF_,fF_]
   rw [p_9 (by omega) ha hsm.bytes]
   exact ⟨_,rfl⟩
  rw [show (r.kind==2)=false by simpa using h2]
  by_cases h3:r.kind=3
  ·rw [h3];simp only [bQ_,fT_,bF_,fF_]
   have:=f_i hr.kind h3
   rw [f_g (by omega) ha (by omega) (by omega)]
   unfold a_k
   split <;> exact ⟨_,rfl⟩
  rw [show (r.kind==3)=false by simpa using h3]
  by_cases h4:r.kind=4
  ·rw [h4];simp only [bQ_,fT_,bF_,fF_]
   have hs:=f_j hr.kind h4;have hq:=a_P hs.1
   rw [a_U (by omega),bd_some,h_h hq.1 hq.2 (by omega) ha]
   cases hi:J_ b (t_ d.rules<|s_ r) at_ with
   | none=>exact ⟨_,rfl⟩
   | some num =>
    have hrg:=a_S hq.2 hi
    simp only [bd3_some,bN_,bF_,fF_]
    rw [f_g (by omega) (by omega) (by omega) (by omega)]
    unfold a_k
    split <;> exact ⟨_,rfl⟩
  rw [show (r.kind==4)=false by simpa using h4]
  by_cases O:r.kind=10
  ·rw [O];simp only [bQ_,fT_,bF_,fF_,show ((10:Int)==5)=false from rfl,show ((10:Int)==6)=false from rfl,show ((10:Int)==7)=false from rfl,show ((10:Int)==8)=false from rfl,show ((10:Int)==9)=false from rfl]
   have V:=j_g hr.kind O
   rw [b_k (by omega),bd_some,a_2 (show 0<r.bytes.length by omega),k_S _ _ _ _ (by omega) ha (by omega)]
   cases b_V b at_ r.bytes[0] with
   | none=>exact ⟨_,rfl⟩
   | some x=>exact ⟨_,rfl⟩
  rw [show (r.kind==10)=false by simpa using O]
  by_cases h5:r.kind=5
  ·rw [h5];simp only [bQ_,fT_,bF_,fF_]
   have hs:=c_q hr.kind h5;have hq:=a_P hs.1;have hmem:r.kids.getD 1 0∈r.kids:=b_1 (by omega)
   rw [show (a_h<|m+2).impl_checker_array=f_T (m+1) (a_h<|m+1) from rfl]
   unfold f_T
   simp only
   rw [a_U (by omega),bd_some,h_h hq.1 hq.2 (by omega) ha]
   have hhd:E_ d.rules b r at_=(match J_ b (t_ d.rules<|s_ r) at_ with | none=>.inl 1 | some n=>if 40<n then .inl 6 else .inr (0,List.replicate n.toNat<|r.kids.getD 1 0,at_+(t_ d.rules<|s_ r).size.toNat)):=by unfold E_;rw [h5];rfl
   rw [hhd]
   cases hi:J_ b (t_ d.rules<|s_ r) at_ with
   | none=>exact ⟨_,rfl⟩
   | some num =>
    have hrg:=a_S hq.2 hi
    simp only [bd3_some,bQ_,fT_,bd_some]
    by_cases J:40<num
    ·rw [dT_ J,iP_ J];exact ⟨_,rfl⟩
    ·rw [dF_ J,iN_ J]
     simp only [bF_,fF_]
     obtain ⟨x,ap',h⟩:=l_f (d:=d) (b:=b) (rec_:=(a_h<|m+1).impl_checker_value) (ks:=r.kids) (kid:=r.kids.getD 1 0) (by rw [f_m (by omega),a_2 (by omega)]) (fun k p=>rdW d.rules b k.toNat p) b.length (fun ap p hp=>hrec (m+1) (by omega) _ hmem ap p hp) (fun p hp=>(hle _ hmem p hp).2) num.toNat (h_ (h_ ap 1) 1) (at_+(t_ d.rules<|s_ r).size.toNat) (by omega) (by omega) (m+1) (by omega)
     rw [show ((num.toNat:Nat):Int)=num by omega] at h
     rw [h]
     unfold a_4;generalize v_ (fun k p=>rdW d.rules b k.toNat p) (List.replicate num.toNat<|r.kids.getD 1 0) (at_+(t_ d.rules<|s_ r).size.toNat)=y
     rw [h5]
     refine ⟨ap',?_⟩
     by_cases G:y.2.2=0
     ·rw [iP_ G,G];rfl
     ·rw [iN_ G];rfl
  rw [show (r.kind==5)=false by simpa using h5]
  by_cases h6:r.kind=6
  ·rw [h6];simp only [bQ_,fT_,bF_,fF_]
   have hs:=d_O hr.kind h6;obtain ⟨ap',h⟩:=l_e (d:=d) (b:=b) (rec_:=(a_h<|m+2).impl_checker_value) (ks:=r.kids) (fun k p=>rdW d.rules b k.toNat p) b.length (fun k hk ap p hp=>hrec (m+2) (by omega) k hk ap p hp) (fun k hk p hp=>(hle k hk p hp).2) r.kids.length 0 (h_ ap 1) at_ (by omega) ha
   rw [h]
   rw [show E_ d.rules b r at_ = .inr (0,r.kids,at_) by unfold E_;rw [h6];rfl]
   simp only
   unfold a_4
   rw [List.drop_zero]
   generalize v_ (fun k p=>rdW d.rules b k.toNat p) r.kids at_=y
   rw [h6]
   refine ⟨ap',?_⟩
   by_cases G:y.2.2=0
   ·rw [iP_ G,G];rfl
   ·rw [iN_ G];rfl
  rw [show (r.kind==6)=false by simpa using h6]
  by_cases I:r.kind=7
  ·rw [I];simp only [bQ_,fT_,bF_,fF_]
   have hs:=c_K hr.kind I;have hq:=a_P hs.1
   rw [show (a_h<|m+2).impl_checker_choice=f_U (m+1) (a_h<|m+1) from rfl]
   unfold f_U
   simp only
   rw [a_U (by omega),bd_some,h_h hq.1 hq.2 (by omega) ha]
   have hhd:E_ d.rules b r at_=(match J_ b (t_ d.rules<|s_ r) at_ with | none=>.inl 1 | some n=>match a_p r.tags n with | none=>.inl 3 | some k=>.inr (n,[r.kids.getD (k+1) 0],at_+(t_ d.rules<|s_ r).size.toNat)):=by unfold E_;rw [I];rfl
   rw [hhd]
   cases hi:J_ b (t_ d.rules<|s_ r) at_ with
   | none=>exact ⟨_,rfl⟩
   | some num =>
    have hrg:=a_S hq.2 hi
    simp only [bd3_some,bN_,bF_,fF_]
    cases ht:a_p r.tags num with
    | none =>
     have htn:=l_a ht
     rw [b_A (fun _=>()) (n:=r.tags.length) (fun j hj=>by
      have:=htn j hj
      rw [a_2 hj] at this
      rw [ix_ hj,bd_some,show (r.tags[j]==num)=false by simpa using this];rfl)]
     exact ⟨_,rfl⟩
    | some k =>
     obtain ⟨htl,hte,htb⟩:=l_9 ht;have hmem:r.kids.getD (k+1) 0∈r.kids:=b_1 (by omega);obtain ⟨ap',h⟩:=hrec (m+1) (by omega) _ hmem (h_ (h_ ap 1) 1) (at_+(t_ d.rules<|s_ r).size.toNat) (by omega)
     rw [f_n (fun _=>()) (n:=r.tags.length) (j0:=k) (r:=(⟨((rdW d.rules b (r.kids.getD (k+1) 0).toNat (at_+(t_ d.rules (s_ r)).size.toNat)).2.1:Int),(rdW d.rules b (r.kids.getD (k+1) 0).toNat (at_+(t_ d.rules (s_ r)).size.toNat)).2.2⟩,ap')) htl (fun j hj=>by
      have:=htb j hj
      rw [a_2 (show j<r.tags.length by omega)] at this
      rw [ix_ (show j<r.tags.length by omega),bd_some,show (r.tags[j]==num)=false by simpa using this];rfl) (by
      rw [a_2 htl] at hte
      rw [ix_ htl,bd_some,show (r.tags[k]==num)=true by simpa using hte,iP_ rfl,ix_ (show k+1<r.kids.length by omega),bd_some,← a_2 (x:=0) (show k+1<r.kids.length by omega),h]
      rfl)]
     simp only [bd_some,el_inr]
     unfold a_4;have ho:=j_j (fun k p=>rdW d.rules b k.toNat p) (r.kids.getD (k+1) 0)<|at_+(t_ d.rules<|s_ r).size.toNat;generalize v_ (fun k p=>rdW d.rules b k.toNat p) [r.kids.getD (k+1) 0] (at_+(t_ d.rules<|s_ r).size.toNat)=y at ho
     rw [I,ho]
     refine ⟨ap',?_⟩
     by_cases G:(rdW d.rules b (r.kids.getD (k+1) 0).toNat (at_+(t_ d.rules<|s_ r).size.toNat)).2.2=0
     ·rw [iP_ G,G];rfl
     ·rw [iN_ G];rfl
  rw [show (r.kind==7)=false by simpa using I]
  by_cases H:r.kind=8
  ·rw [H];simp only [bQ_,fT_,bF_,fF_]
   have hs:=b_i hr.kind<|.inl H;have hmem:r.kids.getD 0 0∈r.kids:=b_1 (by omega)
   rw [show (a_h<|m+2).impl_checker_option=f_V (m+1) (a_h<|m+1) from rfl]
   unfold f_V
   simp only
   have hhd:E_ d.rules b r at_=(match b[at_]? with | none=>.inl 1 | some c=>if 1<byteI c then .inl 4 else .inr (0,List.replicate c.toNat<|r.kids.getD 0 0,at_+1)):=by unfold E_;rw [H];rfl
   rw [hhd,f_g (by omega) ha (by omega) (by omega)]
   by_cases hlt:at_<b.length
   ·rw [iN_ (show ¬(b.length:Int) - at_<1 by omega),gG_ hlt]
    simp only [bd_some,bN_,bF_,fF_]
    rw [ix_ hlt]
    simp only [bd_some]
    by_cases hz:byteI b[at_]=0
    ·rw [show (byteI b[at_]==byteI (0:UInt8))=true by rw [beq_iff_eq];exact hz,iN_ (show ¬1<byteI b[at_] by rw [hz];omega)]
     rw [show b[at_].toNat=0 by unfold byteI at hz;omega]
     unfold a_4
     rw [H]
     exact ⟨_,rfl⟩
    ·rw [show (byteI b[at_]==byteI (0:UInt8))=false by rw [beq_eq_false_iff_ne];exact hz]
     simp only [bF_,fF_]
     by_cases hc:1<byteI b[at_]
     ·rw [iP_ hc,dT_ (show byteI (1:UInt8)<byteI b[at_] from hc)];exact ⟨_,rfl⟩
     ·rw [iN_ hc,dF_ (show ¬byteI (1:UInt8)<byteI b[at_] from hc)]
      simp only [bF_,fF_]
      rw [show b[at_].toNat=1 by unfold byteI at hz hc;omega]
      obtain ⟨ap',h⟩:=hrec (m+1) (by omega) _ hmem (h_ ap 1) (at_+1) (by omega)
      rw [b_k (by omega),bd_some,← a_2 (x:=0) (show 0<r.kids.length by omega)]
      rw [show (1:Int).toNat=1 from rfl,h]
      unfold a_4;have ho:=j_j (fun k p=>rdW d.rules b k.toNat p) (r.kids.getD 0 0)<|at_+1
      rw [show List.replicate 1 (r.kids.getD 0 0)=[r.kids.getD 0 0] from rfl]
      generalize v_ (fun k p=>rdW d.rules b k.toNat p) [r.kids.getD 0 0] (at_+1)=y at ho
      rw [H,ho]
      refine ⟨ap',?_⟩
      by_cases G:(rdW d.rules b (r.kids.getD 0 0).toNat (at_+1)).2.2=0
      ·rw [iP_ G,G];rfl
      ·rw [iN_ G];rfl
   ·rw [iP_ (show (b.length:Int) - at_<1 by omega),gN_ (by omega)];exact ⟨_,rfl⟩
  rw [show (r.kind==8)=false by simpa using H]
  have L:r.kind=9:=by omega
  rw [L];simp only [bQ_,fT_,bF_,fF_]
  have hs:=b_i hr.kind<|.inr L;have hmem:r.kids.getD 0 0∈r.kids:=b_1 (by omega)
  rw [show (a_h<|m+2).impl_checker_checked=f_W (m+1) (a_h<|m+1) from rfl]
  unfold f_W
  simp only
  rw [show E_ d.rules b r at_ = .inr (0,[r.kids.getD 0 0],at_) by unfold E_;rw [L];rfl]
  obtain ⟨ap',h⟩:=hrec (m+1) (by omega) _ hmem (h_ ap 1) at_ ha
  rw [b_k (by omega),bd_some,← a_2 (x:=0) (show 0<r.kids.length by omega),h]
  simp only
  have hx:=hle _ hmem at_ ha;have ho:=j_j (fun k p=>rdW d.rules b k.toNat p) (r.kids.getD 0 0) at_;unfold a_4;generalize v_ (fun k p=>rdW d.rules b k.toNat p) [r.kids.getD 0 0] at_=y at ho
  rw [L,ho]
  generalize rdW d.rules b (r.kids.getD 0 0).toNat at_=x at hx
  simp only [bd2_some]
  by_cases G:x.2.2=0
  ·rw [iP_ G,show (x.2.2 != 0)=false by simpa using G]
   simp only [bF_,fF_,bQ_,fT_]
   rw [f_g (by omega) hx.2 (by omega) (by omega)]
   by_cases hlt:x.2.1<b.length
   ·rw [iN_ (show ¬(b.length:Int) - x.2.1<1 by omega),gG_ hlt]
    simp only [bd_some,bQ_,fT_]
    rw [ix_ hlt,bd_some,b_W hx.1 (by omega),bd_some,j_9 _ (by rw [c_7 (by omega)];omega),bd_some]
    by_cases hsum:byteI b[x.2.1]=a_j (piece b at_ x.2.1)
    ·rw [show (byteI b[x.2.1] != a_j (piece b at_ x.2.1))=false by simpa using hsum,iP_ hsum];exact ⟨_,rfl⟩
    ·rw [show (byteI b[x.2.1] != a_j (piece b at_ x.2.1))=true by simpa using hsum,iN_ hsum];exact ⟨_,rfl⟩
   ·rw [iP_ (show (b.length:Int) - x.2.1<1 by omega),gN_ (by omega)];exact ⟨_,rfl⟩
  ·rw [iN_ G,show (x.2.2 != 0)=true by simpa using G]
   exact ⟨_,rfl⟩
end
end Go.Vw
