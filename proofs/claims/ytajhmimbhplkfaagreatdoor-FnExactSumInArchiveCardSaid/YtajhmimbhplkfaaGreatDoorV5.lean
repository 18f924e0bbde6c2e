import Derived.Test.YtajhmimbhplkfaaGreatDoorV4
namespace Go.Vw
open Go.RowKit Dat
theorem m_2 (rd:Int->Nat->RR)(k:Int)(p:Nat):(T_ rd [k] p).2=((rd k p).2.1,(rd k p).2.2):=by
 unfold T_
 by_cases h:(rd k p).2.2=0
 ·rw [iP_ h];simp [T_,h]
 ·rw [iN_ h]
section
variable {d:e_}{b:List UInt8}
theorem p_j {rec_:a_3->Int->Int->Option (U_×Int)}{ks:List Int}(rd:Int->Nat->RR)(L:Nat)
  (ih:∀k∈ks,∀(ap:Int)(p:Nat),p<=L->∃ap',rec_ ⟨⟨d.rules⟩,b,ap⟩ k p=some (⟨((rd k p).2.1:Int),(rd k p).2.2⟩,ap')) (hle:∀k∈ks,∀p,p<=L->(rd k p).2.1<=L) :
  ∀m k (ap:Int) (p:Nat),k+m=ks.length->p<=L->∃ap',t_ (σ:=Int×Int×Int) (ρ:=U_×Int) (fun J=>un3 fun O V a0=>bd (idx ks ((J:Nat):Int)) fun W=>bd2 (rec_ (⟨(⟨d.rules⟩:e_),b,O⟩:a_3) W V) fun h H=>if (h.code != 0)=true then some (.brk (H,h.at_,h.code)) else some (.next (H,h.at_,h.code))) m k (ap,(p:Int),0)=some (.inl (ap',((T_ rd (ks.drop k) p).2.1:Int),(T_ rd (ks.drop k) p).2.2))
 | 0,k,ap,p,hk,_=>by
  rw [List.drop_of_length_le (by omega)]
  exact ⟨ap,rfl⟩
 | m+1,k,ap,p,hk,hp=>by
  have hlt:k<ks.length:=by omega
  have hmem:=gE_ hlt
  rw [dC_ hlt]
  unfold t_ T_;obtain ⟨I,h1⟩:=ih ks[k] hmem ap p hp
  simp only [un3]
  rw [ix_ hlt,bd_some,h1]
  simp only [bd2_some]
  by_cases G:(rd ks[k] p).2.2=0
  ·rw [show ((rd ks[k] p).2.2 != 0)=false by simpa using G,iP_ G]
   obtain ⟨Y,h2⟩:=p_j rd L ih hle m (k+1) I (rd ks[k] p).2.1 (by omega) (hle _ hmem p hp);refine ⟨Y,?_⟩
   simp only [bF_,fF_]
   rw [G,h2]
   by_cases h3:(T_ rd (ks.drop<|k+1) (rd ks[k] p).2.1).2.2=0
   ·rw [iP_ h3,h3]
   ·rw [iN_ h3]
  ·rw [show ((rd ks[k] p).2.2 != 0)=true by simpa using G,iN_ G]
   exact ⟨I,rfl⟩
theorem p_k {rec_:a_3->Int->Int->Option (U_×Int)}{ks:List Int}{kid:Int}(hkid:idx ks 1=some kid)(rd:Int->Nat->RR)(L:Nat)
  (ih:∀(ap:Int)(p:Nat),p<=L->∃ap',rec_ ⟨⟨d.rules⟩,b,ap⟩ kid p=some (⟨((rd kid p).2.1:Int),(rd kid p).2.2⟩,ap')) (hle:∀p,p<=L->(rd kid p).2.1<=L) :
  ∀(c:Nat)(ap:Int)(p:Nat),p<=L->c<=40->∀n,c+2<=n->∃x ap',O_ (σ:=Int×Int×Int×Int) (ρ:=U_×Int) (un4 fun G H I J=>bd (α:=Bool) (if (decide<|0<G)=true then some (J==0) else some false) (fun W=>if W=true then bd (idx ks 1) fun Y=>bd2 (rec_ (⟨(⟨d.rules⟩:e_),b,H⟩:a_3) Y I) fun O a0=>some (.next (x_ G 1,a0,O.at_,O.code)) else some (.brk (G,H,I,J)))) n ((c:Int),ap,(p:Int),0)=some (.inl (x,ap',((T_ rd (List.replicate c kid) p).2.1:Int),(T_ rd (List.replicate c kid) p).2.2))
 | 0,ap,p,hp,hc,n,hn=>by
  obtain ⟨m,rfl⟩:∃m,n=m+1:=⟨n - 1,by omega⟩;exact ⟨0,ap,rfl⟩
 | c+1,ap,p,hp,hc,n,hn=>by
  obtain ⟨m,rfl⟩:∃m,n=m+2:=⟨n - 2,by omega⟩;obtain ⟨V,h1⟩:=ih ap p hp
  rw [List.replicate_succ]
  unfold O_ T_
  simp only [un4]
  rw [dT_ (show (0:Int)<((c+1:Nat):Int) by omega),hkid]
  simp only [fT_,bd_some,bQ_]
  rw [h1]
  simp only [bd2_some]
  rw [a_x (x:=((c+1:Nat):Int)) (by omega) (by omega),show ((c+1:Nat):Int) - 1=(c:Int) by omega]
  by_cases h:(rd kid p).2.2=0
  ·rw [iP_ h]
   obtain ⟨x,a1,h2⟩:=p_k hkid rd L ih hle c V (rd kid p).2.1 (hle p hp) (by omega) (m+1) (by omega);refine ⟨x,a1,?_⟩
   simp only [hkid,bd_some] at h2
   rw [h]
   rw [h2]
   by_cases h3:(T_ rd (List.replicate c kid) (rd kid p).2.1).2.2=0
   ·rw [iP_ h3,h3]
   ·rw [iN_ h3]
  ·rw [iN_ h]
   refine ⟨(c:Int),V,?_⟩;unfold O_
   simp only [un4]
   rw [show ((rd kid p).2.2==0)=false by simpa using h]
   cases decide (0<(c:Int)) <;> rfl
theorem t_S (hv:a_4 d=true)(hd:SmD d)(hb:b.length<=400):∀(i:Nat),i<d.rules.length->∀n,3 * i+410<=n->∀at_,at_<=b.length->∀ap,∃ap',q_l n ⟨d,b,ap⟩ i at_=some (⟨((rdW d.rules b i at_).2.1:Int),(rdW d.rules b i at_).2.2⟩,ap'):=by
 have hMX:=MXv;intro i
 induction i using Nat.strongRecOn with
 | _ i ih =>
  intro hi n hn at_ ha ap;have hlen:=(c_D hv).2;obtain ⟨m,rfl⟩:∃m,n=m+3:=⟨n - 3,by omega⟩
  rw [f_u hv hi ha]
  have hr:=b_R hv hi;have hal:=g_j hr.kind;have hsm:=hd.each d.rules[i] (gE_ hi);have hidx:idx d.rules (i:Int)=some d.rules[i]:=ix_ hi;generalize hrr:d.rules[i]=r at *
  have hkk:=h_z hr.kind
  show ∃ap',i_d (m+2) (a_D<|m+2) ⟨d,b,ap⟩ i at_=_
  unfold i_d rdB
  simp only
  rw [hidx,bd_some]
  have hle:∀k∈r.kids,∀p,p<=b.length->p<=(rdW d.rules b k.toNat p).2.1/\(rdW d.rules b k.toNat p).2.1<=b.length:=fun k hk p hp=>by
   have:=hr.kids k hk;exact d_1 hv k.toNat (by omega) p hp
  have hrec:∀q,m<=q->∀k∈r.kids,∀(ap:Int)(p:Nat),p<=b.length->∃ap',(a_D q).impl_checker_value ⟨⟨d.rules⟩,b,ap⟩ k p=some (⟨((rdW d.rules b k.toNat p).2.1:Int),(rdW d.rules b k.toNat p).2.2⟩,ap'):=fun q hq k hk ap p hp=>by
   have:=hr.kids k hk;have h:=ih k.toNat (by omega) (by omega) q (by omega) p hp ap
   rw [show ((k.toNat:Nat):Int)=k by omega] at h
   exact h
  by_cases h1:r.kind=1
  ·rw [h1];simp only [bQ_,fT_]
   rw [k_3 hidx (g_h hr.kind h1) (by omega) ha]
   cases a_d b r at_ <;> exact ⟨_,rfl⟩
  rw [show (r.kind==1)=false by simpa using h1]
  by_cases h2:r.kind=2
  ·rw [h2];simp only [bQ_,fT_,bF_,fF_]
   rw [s_C (by omega) ha hsm.bytes]
   exact ⟨_,rfl⟩
  rw [show (r.kind==2)=false by simpa using h2]
  by_cases h3:r.kind=3
  ·rw [h3];simp only [bQ_,fT_,bF_,fF_]
   have:=h_x hr.kind h3
   rw [h_u (by omega) ha (by omega) (by omega)]
   unfold a_V
   split <;> exact ⟨_,rfl⟩
  rw [show (r.kind==3)=false by simpa using h3]
  by_cases h4:r.kind=4
  ·rw [h4];simp only [bQ_,fT_,bF_,fF_]
   have hs:=h_y hr.kind h4;have hq:=c_u hs.1
   rw [c_4 (by omega),bd_some,k_3 hq.1 hq.2 (by omega) ha]
   cases hi:a_d b (K_ d.rules<|B_ r) at_ with
   | none=>exact ⟨_,rfl⟩
   | some num =>
    have hrg:=c_B hq.2 hi
    simp only [bd3_some,bN_,bF_,fF_]
    rw [h_u (by omega) (by omega) (by omega) (by omega)]
    unfold a_V
    split <;> exact ⟨_,rfl⟩
  rw [show (r.kind==4)=false by simpa using h4]
  by_cases O:r.kind=10
  ·rw [O];simp only [bQ_,fT_,bF_,fF_,show ((10:Int)==5)=false from rfl,show ((10:Int)==6)=false from rfl,show ((10:Int)==7)=false from rfl,show ((10:Int)==8)=false from rfl,show ((10:Int)==9)=false from rfl]
   have V:=l_X hr.kind O
   rw [b_S (by omega),bd_some,a_F (show 0<r.bytes.length by omega),n_X _ _ _ _ (by omega) ha (by omega)]
   cases d_r b at_ r.bytes[0] with
   | none=>exact ⟨_,rfl⟩
   | some x=>exact ⟨_,rfl⟩
  rw [show (r.kind==10)=false by simpa using O]
  by_cases h5:r.kind=5
  ·rw [h5];simp only [bQ_,fT_,bF_,fF_]
   have hs:=e_O hr.kind h5;have hq:=c_u hs.1;have hmem:r.kids.getD 1 0∈r.kids:=c_h (by omega)
   rw [show (a_D<|m+2).impl_checker_array=i_e (m+1) (a_D<|m+1) from rfl]
   unfold i_e
   simp only
   rw [c_4 (by omega),bd_some,k_3 hq.1 hq.2 (by omega) ha]
   have hhd:a_h d.rules b r at_=(match a_d b (K_ d.rules<|B_ r) at_ with | none=>.inl 1 | some n=>if 40<n then .inl 6 else .inr (0,List.replicate n.toNat<|r.kids.getD 1 0,at_+(K_ d.rules<|B_ r).size.toNat)):=by unfold a_h;rw [h5];rfl
   rw [hhd]
   cases hi:a_d b (K_ d.rules<|B_ r) at_ with
   | none=>exact ⟨_,rfl⟩
   | some num =>
    have hrg:=c_B hq.2 hi
    simp only [bd3_some,bQ_,fT_,bd_some]
    by_cases J:40<num
    ·rw [dT_ J,iP_ J];exact ⟨_,rfl⟩
    ·rw [dF_ J,iN_ J]
     simp only [bF_,fF_]
     obtain ⟨x,ap',h⟩:=p_k (d:=d) (b:=b) (rec_:=(a_D<|m+1).impl_checker_value) (ks:=r.kids) (kid:=r.kids.getD 1 0) (by rw [m_a (by omega),a_F (by omega)]) (fun k p=>rdW d.rules b k.toNat p) b.length (fun ap p hp=>hrec (m+1) (by omega) _ hmem ap p hp) (fun p hp=>(hle _ hmem p hp).2) num.toNat (b_ (b_ ap 1) 1) (at_+(K_ d.rules<|B_ r).size.toNat) (by omega) (by omega) (m+1) (by omega)
     rw [show ((num.toNat:Nat):Int)=num by omega] at h
     rw [h]
     unfold b_9;generalize T_ (fun k p=>rdW d.rules b k.toNat p) (List.replicate num.toNat<|r.kids.getD 1 0) (at_+(K_ d.rules<|B_ r).size.toNat)=y
     rw [h5]
     refine ⟨ap',?_⟩
     by_cases G:y.2.2=0
     ·rw [iP_ G,G];rfl
     ·rw [iN_ G];rfl
  rw [show (r.kind==5)=false by simpa using h5]
  by_cases h6:r.kind=6
  ·rw [h6];simp only [bQ_,fT_,bF_,fF_]
   have hs:=g_i hr.kind h6;obtain ⟨ap',h⟩:=p_j (d:=d) (b:=b) (rec_:=(a_D<|m+2).impl_checker_value) (ks:=r.kids) (fun k p=>rdW d.rules b k.toNat p) b.length (fun k hk ap p hp=>hrec (m+2) (by omega) k hk ap p hp) (fun k hk p hp=>(hle k hk p hp).2) r.kids.length 0 (b_ ap 1) at_ (by omega) ha
   rw [h]
   rw [show a_h d.rules b r at_ = .inr (0,r.kids,at_) by unfold a_h;rw [h6];rfl]
   simp only
   unfold b_9
   rw [List.drop_zero]
   generalize T_ (fun k p=>rdW d.rules b k.toNat p) r.kids at_=y
   rw [h6]
   refine ⟨ap',?_⟩
   by_cases G:y.2.2=0
   ·rw [iP_ G,G];rfl
   ·rw [iN_ G];rfl
  rw [show (r.kind==6)=false by simpa using h6]
  by_cases I:r.kind=7
  ·rw [I];simp only [bQ_,fT_,bF_,fF_]
   have hs:=f_t hr.kind I;have hq:=c_u hs.1
   rw [show (a_D<|m+2).impl_checker_choice=i_f (m+1) (a_D<|m+1) from rfl]
   unfold i_f
   simp only
   rw [c_4 (by omega),bd_some,k_3 hq.1 hq.2 (by omega) ha]
   have hhd:a_h d.rules b r at_=(match a_d b (K_ d.rules<|B_ r) at_ with | none=>.inl 1 | some n=>match b_A r.tags n with | none=>.inl 3 | some k=>.inr (n,[r.kids.getD (k+1) 0],at_+(K_ d.rules<|B_ r).size.toNat)):=by unfold a_h;rw [I];rfl
   rw [hhd]
   cases hi:a_d b (K_ d.rules<|B_ r) at_ with
   | none=>exact ⟨_,rfl⟩
   | some num =>
    have hrg:=c_B hq.2 hi
    simp only [bd3_some,bN_,bF_,fF_]
    cases ht:b_A r.tags num with
    | none =>
     have htn:=p_g ht
     rw [b_T (fun _=>()) (n:=r.tags.length) (fun j hj=>by
      have:=htn j hj
      rw [a_F hj] at this
      rw [ix_ hj,bd_some,show (r.tags[j]==num)=false by simpa using this];rfl)]
     exact ⟨_,rfl⟩
    | some k =>
     obtain ⟨htl,hte,htb⟩:=p_f ht;have hmem:r.kids.getD (k+1) 0∈r.kids:=c_h (by omega);obtain ⟨ap',h⟩:=hrec (m+1) (by omega) _ hmem (b_ (b_ ap 1) 1) (at_+(K_ d.rules<|B_ r).size.toNat) (by omega)
     rw [m_b (fun _=>()) (n:=r.tags.length) (j0:=k) (r:=(⟨((rdW d.rules b (r.kids.getD (k+1) 0).toNat (at_+(K_ d.rules (B_ r)).size.toNat)).2.1:Int),(rdW d.rules b (r.kids.getD (k+1) 0).toNat (at_+(K_ d.rules (B_ r)).size.toNat)).2.2⟩,ap')) htl (fun j hj=>by
      have:=htb j hj
      rw [a_F (show j<r.tags.length by omega)] at this
      rw [ix_ (show j<r.tags.length by omega),bd_some,show (r.tags[j]==num)=false by simpa using this];rfl) (by
      rw [a_F htl] at hte
      rw [ix_ htl,bd_some,show (r.tags[k]==num)=true by simpa using hte,iP_ rfl,ix_ (show k+1<r.kids.length by omega),bd_some,← a_F (x:=0) (show k+1<r.kids.length by omega),h]
      rfl)]
     simp only [bd_some,el_inr]
     unfold b_9;have ho:=m_2 (fun k p=>rdW d.rules b k.toNat p) (r.kids.getD (k+1) 0)<|at_+(K_ d.rules<|B_ r).size.toNat;generalize T_ (fun k p=>rdW d.rules b k.toNat p) [r.kids.getD (k+1) 0] (at_+(K_ d.rules<|B_ r).size.toNat)=y at ho
     rw [I,ho]
     refine ⟨ap',?_⟩
     by_cases G:(rdW d.rules b (r.kids.getD (k+1) 0).toNat (at_+(K_ d.rules<|B_ r).size.toNat)).2.2=0
     ·rw [iP_ G,G];rfl
     ·rw [iN_ G];rfl
  rw [show (r.kind==7)=false by simpa using I]
  by_cases H:r.kind=8
  ·rw [H];simp only [bQ_,fT_,bF_,fF_]
   have hs:=d_N hr.kind<|.inl H;have hmem:r.kids.getD 0 0∈r.kids:=c_h (by omega)
   rw [show (a_D<|m+2).impl_checker_option=i_g (m+1) (a_D<|m+1) from rfl]
   unfold i_g
   simp only
   have hhd:a_h d.rules b r at_=(match b[at_]? with | none=>.inl 1 | some c=>if 1<byteI c then .inl 4 else .inr (0,List.replicate c.toNat<|r.kids.getD 0 0,at_+1)):=by unfold a_h;rw [H];rfl
   rw [hhd,h_u (by omega) ha (by omega) (by omega)]
   by_cases hlt:at_<b.length
   ·rw [iN_ (show ¬(b.length:Int) - at_<1 by omega),gG_ hlt]
    simp only [bd_some,bN_,bF_,fF_]
    rw [ix_ hlt]
    simp only [bd_some]
    by_cases hz:byteI b[at_]=0
    ·rw [show (byteI b[at_]==byteI (0:UInt8))=true by rw [beq_iff_eq];exact hz,iN_ (show ¬1<byteI b[at_] by rw [hz];omega)]
     rw [show b[at_].toNat=0 by unfold byteI at hz;omega]
     unfold b_9
     rw [H]
     exact ⟨_,rfl⟩
    ·rw [show (byteI b[at_]==byteI (0:UInt8))=false by rw [beq_eq_false_iff_ne];exact hz]
     simp only [bF_,fF_]
     by_cases hc:1<byteI b[at_]
     ·rw [iP_ hc,dT_ (show byteI (1:UInt8)<byteI b[at_] from hc)];exact ⟨_,rfl⟩
     ·rw [iN_ hc,dF_ (show ¬byteI (1:UInt8)<byteI b[at_] from hc)]
      simp only [bF_,fF_]
      rw [show b[at_].toNat=1 by unfold byteI at hz hc;omega]
      obtain ⟨ap',h⟩:=hrec (m+1) (by omega) _ hmem (b_ ap 1) (at_+1) (by omega)
      rw [b_S (by omega),bd_some,← a_F (x:=0) (show 0<r.kids.length by omega)]
      rw [show (1:Int).toNat=1 from rfl,h]
      unfold b_9;have ho:=m_2 (fun k p=>rdW d.rules b k.toNat p) (r.kids.getD 0 0)<|at_+1
      rw [show List.replicate 1 (r.kids.getD 0 0)=[r.kids.getD 0 0] from rfl]
      generalize T_ (fun k p=>rdW d.rules b k.toNat p) [r.kids.getD 0 0] (at_+1)=y at ho
      rw [H,ho]
      refine ⟨ap',?_⟩
      by_cases G:(rdW d.rules b (r.kids.getD 0 0).toNat (at_+1)).2.2=0
      ·rw [iP_ G,G];rfl
      ·rw [iN_ G];rfl
   ·rw [iP_ (show (b.length:Int) - at_<1 by omega),gN_ (by omega)];exact ⟨_,rfl⟩
  rw [show (r.kind==8)=false by simpa using H]
  have L:r.kind=9:=by omega
  rw [L];simp only [bQ_,fT_,bF_,fF_]
  have hs:=d_N hr.kind<|.inr L;have hmem:r.kids.getD 0 0∈r.kids:=c_h (by omega)
  rw [show (a_D<|m+2).impl_checker_checked=i_h (m+1) (a_D<|m+1) from rfl]
  unfold i_h
  simp only
  rw [show a_h d.rules b r at_ = .inr (0,[r.kids.getD 0 0],at_) by unfold a_h;rw [L];rfl]
  obtain ⟨ap',h⟩:=hrec (m+1) (by omega) _ hmem (b_ ap 1) at_ ha
  rw [b_S (by omega),bd_some,← a_F (x:=0) (show 0<r.kids.length by omega),h]
  simp only
  have hx:=hle _ hmem at_ ha;have ho:=m_2 (fun k p=>rdW d.rules b k.toNat p) (r.kids.getD 0 0) at_;unfold b_9;generalize T_ (fun k p=>rdW d.rules b k.toNat p) [r.kids.getD 0 0] at_=y at ho
  rw [L,ho]
  generalize rdW d.rules b (r.kids.getD 0 0).toNat at_=x at hx
  simp only [bd2_some]
  by_cases G:x.2.2=0
  ·rw [iP_ G,show (x.2.2 != 0)=false by simpa using G]
   simp only [bF_,fF_,bQ_,fT_]
   rw [h_u (by omega) hx.2 (by omega) (by omega)]
   by_cases hlt:x.2.1<b.length
   ·rw [iN_ (show ¬(b.length:Int) - x.2.1<1 by omega),gG_ hlt]
    simp only [bd_some,bQ_,fT_]
    rw [ix_ hlt,bd_some,c_Y hx.1 (by omega),bd_some,l_B _ (by rw [e_d (by omega)];omega),bd_some]
    by_cases hsum:byteI b[x.2.1]=c_5 (a_a b at_ x.2.1)
    ·rw [show (byteI b[x.2.1] != c_5 (a_a b at_ x.2.1))=false by simpa using hsum,iP_ hsum];exact ⟨_,rfl⟩
    ·rw [show (byteI b[x.2.1] != c_5 (a_a b at_ x.2.1))=true by simpa using hsum,iN_ hsum];exact ⟨_,rfl⟩
   ·rw [iP_ (show (b.length:Int) - x.2.1<1 by omega),gN_ (by omega)];exact ⟨_,rfl⟩
  ·rw [iN_ G,show (x.2.2 != 0)=true by simpa using G]
   exact ⟨_,rfl⟩
end
end Go.Vw
namespace Go.Vw
open Go.RowKit Dat
section
variable {d:e_}{b:List UInt8}
theorem t_T {r:g_}{num:Int}{p:Nat}{x:List Val×Nat×Int}(h:(b_9 b r num p x).2.2 ≠ 0):(b_9 b r num p x).1=zV:=by
 unfold b_9 at *
 split
 ·rename_i H
  rw [iP_ H] at h
  split
  ·rename_i G
   rw [iP_ G] at h
   cases hb:b[x.2.1]? with
   | none=>rfl
   | some c =>
    rw [hb] at h
    simp only at h ⊢
    split
    ·rename_i hs;rw [iP_ hs] at h;exact absurd rfl h
    ·rfl
  ·rename_i G;rw [iN_ G] at h;exact absurd rfl h
 ·rfl
theorem rdB_zV {rs:List g_}{r:g_}{p:Nat}{rd:Int->Nat->RR}(h:(rdB rs b r p rd).2.2 ≠ 0):(rdB rs b r p rd).1=zV:=by
 have hby:∀p n,(a_V b p n).2.2 ≠ 0->(a_V b p n).1=zV:=fun p n h=>by
  unfold a_V at *
  split
  ·rfl
  ·rename_i G;rw [iN_ G] at h;exact absurd rfl h
 unfold rdB at *
 split
 ·rename_i h1;rw [iP_ h1] at h
  cases hd:a_d b r p with
  | none=>rfl
  | some n=>rw [hd] at h;exact absurd rfl h
 rename_i h1;rw [iN_ h1] at h
 split
 ·rfl
 rename_i h2;rw [iN_ h2] at h
 split
 ·rename_i h3;rw [iP_ h3] at h;exact hby _ _ h
 rename_i h3;rw [iN_ h3] at h
 split
 ·rename_i h4;rw [iP_ h4] at h
  cases hd:a_d b (K_ rs<|B_ r) p with
  | none=>rfl
  | some n=>rw [hd] at h;exact hby _ _ h
 rename_i h4;rw [iN_ h4] at h
 split
 ·rename_i h5;rw [iP_ h5] at h
  cases hd:d_r b p (r.bytes.getD 0 0) with
  | none=>rfl
  | some n=>rw [hd] at h;exact absurd rfl h
 rename_i h5;rw [iN_ h5] at h
 cases hh:a_h rs b r p with
 | inl c=>rfl
 | inr x=>rw [hh] at h;exact t_T h
theorem rdW_zV {i at_:Nat}(h:(rdW d.rules b i at_).2.2 ≠ 0):(rdW d.rules b i at_).1=zV:=by
 rw [rdW] at *;exact rdB_zV h
def e_g (rd:Int->Nat->RR)(L:Nat):List Int->Nat->List Val->Nat->Prop
 | [],p,vs,e=>vs=[]/\e=p
 | k::ks,p,vs,e=>p<=L/\(rd k p).2.2=0/\∃ws,vs=(rd k p).1::ws/\e_g rd L ks (rd k p).2.1 ws e
theorem p_l {rd:Int->Nat->RR}{L:Nat}:∀(ks:List Int)(p:Nat),p<=L->(∀k∈ks,∀p,p<=L->(rd k p).2.1<=L)->(T_ rd ks p).2.2=0->e_g rd L ks p (T_ rd ks p).1 (T_ rd ks p).2.1
 | [],p,_,_,_=>⟨rfl,rfl⟩
 | k::ks,p,hp,hle,h=>by
  unfold T_ at *
  by_cases G:(rd k p).2.2=0
  ·rw [iP_ G] at *
   by_cases h1:(T_ rd ks (rd k p).2.1).2.2=0
   ·rw [iP_ h1] at *
    exact ⟨hp,G,_,rfl,p_l ks _ (hle k mS_ p hp) (fun k hk=>hle k<|mT_ _ hk) h1⟩
   ·rw [iN_ h1] at h;exact absurd h h1
  ·rw [iN_ G] at h;exact absurd h G
theorem k_h {rd:Int->Nat->RR}{L:Nat}:∀{ks:List Int}{p:Nat}{vs:List Val}{e:Nat},e_g rd L ks p vs e->vs.length=ks.length
 | [],_,_,_,h=>by rw [h.1];rfl
 | _::_,_,_,_,h=>by obtain ⟨_,_,ws,rfl,h⟩:=h;simp [k_h h]
def a_w (rs:List g_)(r:g_)(at_:Nat):Nat:=if r.kind==5 || r.kind==7 then at_+(K_ rs<|B_ r).size.toNat else if r.kind==8 then at_+1 else at_
theorem t_U {rs:List g_}{r:g_}{at_:Nat}(h:a_B rs r=true)(hk:5<=r.kind/\r.kind<=9){num:Int}{ks:List Int}{st:Nat}(hh:a_h rs b r at_ = .inr (num,ks,st)) :
  (∀j (hj:j<ks.length),b_8 r num j=ks[j])/\st=a_w rs r at_/\(r.kind=9->num=0):=by
 unfold a_h at hh
 by_cases h5:r.kind=5
 ·rw [h5] at hh
  simp only [bQ_,fT_] at hh
  cases hi:a_d b (K_ rs<|B_ r) at_ with
  | none=>rw [hi] at hh;cases hh
  | some n =>
   rw [hi] at hh
   simp only at hh
   split at hh
   ·cases hh
   ·cases hh
    refine ⟨fun j hj=>by unfold b_8;rw [h5];simp,by unfold a_w;rw [h5];rfl,by omega⟩
 rw [show (r.kind==5)=false by simpa using h5] at hh
 by_cases h6:r.kind=6
 ·rw [h6] at hh
  simp only [bF_,fF_,bQ_,fT_] at hh
  cases hh
  exact ⟨fun j hj=>by unfold b_8;rw [h6];simp [hj],by unfold a_w;rw [h6];rfl,by omega⟩
 rw [show (r.kind==6)=false by simpa using h6] at hh
 by_cases G:r.kind=7
 ·rw [G] at hh
  simp only [bF_,fF_,bQ_,fT_] at hh
  cases hi:a_d b (K_ rs<|B_ r) at_ with
  | none=>rw [hi] at hh;cases hh
  | some n =>
   rw [hi] at hh
   simp only at hh
   cases ht:b_A r.tags n with
   | none=>rw [ht] at hh;cases hh
   | some k =>
    rw [ht] at hh
    cases hh
    refine ⟨fun j hj=>?_,by unfold a_w;rw [G];rfl,by omega⟩;have:j=0:=by simpa using hj
    subst this;unfold b_8;rw [G];simp [ht]
 rw [show (r.kind==7)=false by simpa using G] at hh
 by_cases H:r.kind=8
 ·rw [H] at hh
  simp only [bF_,fF_,bQ_,fT_] at hh
  cases hi:b[at_]? with
  | none=>rw [hi] at hh;cases hh
  | some c =>
   rw [hi] at hh
   simp only at hh
   split at hh
   ·cases hh
   ·cases hh
    exact ⟨fun j hj=>by unfold b_8;rw [H];simp,by unfold a_w;rw [H];rfl,by omega⟩
 rw [show (r.kind==8)=false by simpa using H] at hh
 simp only [bF_,fF_] at hh
 cases hh
 have I:r.kind=9:=by omega
 refine ⟨fun j hj=>?_,by unfold a_w;rw [I];rfl,fun _=>rfl⟩;have:j=0:=by simpa using hj
 subst this;unfold b_8;rw [I];simp
structure RdOk (d:e_)(b:List UInt8)(r:g_)(at_:Nat)(x:RR)(ks:List Int)(e:Nat):Prop where
 item:∀j (hj:j<ks.length),b_8 r x.1.number j=ks[j]
 kids:∀k∈ks,k∈r.kids
 small:ks.length<=40
 ch:e_g (fun k p=>rdW d.rules b k.toNat p) b.length ks (a_w d.rules r at_) x.1.items e
 st:at_<=a_w d.rules r at_/\a_w d.rules r at_<=b.length
 se:a_w d.rules r at_<=e
 le:e<=x.2.1
 go:at_<x.2.1∨(e=x.2.1/\a_w d.rules r at_=at_/\ks ≠ [])
theorem g_k (hv:a_4 d=true){i:Nat}(hi:i<d.rules.length){at_:Nat}(ha:at_<=b.length)(hok:(rdW d.rules b i at_).2.2=0) :
  ∃ks e,RdOk d b d.rules[i] at_ (rdW d.rules b i at_) ks e:=by
 have hbase:=d_1 (b:=b) hv i hi at_ ha
 rw [f_u hv hi ha] at *
 have hr:=b_R hv hi;have hal:=g_j hr.kind;generalize hrr:d.rules[i]=r at *
 have leaf:∀(x:RR),a_w d.rules r at_=at_->at_<x.2.1->x.1.items=[]->∃ks e,RdOk d b r at_ x ks e:=fun x h1 h2 h3 =>
  ⟨[],at_,fun j hj=>by simp at hj,fun k hk=>by simp at hk,by simp,by rw [h3,h1];exact ⟨rfl,rfl⟩,by rw [h1];exact ⟨Nat.le_refl _,ha⟩,by rw [h1];exact Nat.le_refl _,Nat.le_of_lt h2,.inl h2⟩
 have hby:∀p n,(a_V b p n).2.2=0->(a_V b p n).1.items=[]/\(a_V b p n).2.1=p+n.toNat:=fun p n h=>by
  unfold a_V at *
  split at h
  ·cases h
  ·rename_i G;rw [iN_ G];exact ⟨rfl,rfl⟩
 unfold rdB at *
 by_cases h1:r.kind=1
 ·rw [h1] at hok ⊢;simp only [bQ_,fT_] at hok ⊢
  have hst:a_w d.rules r at_=at_:=by unfold a_w;rw [h1];rfl
  cases hd:a_d b r at_ with
  | none=>rw [hd] at hok;cases hok
  | some n=>have:=(g_h hr.kind h1).2.1;exact leaf _ hst (by simp only;omega) rfl
 rw [show (r.kind==1)=false by simpa using h1] at *
 by_cases h2:r.kind=2
 ·rw [h2] at hok ⊢
  have hst:a_w d.rules r at_=at_:=by unfold a_w;rw [h2];rfl
  have:=t_s hr.kind h2
  exact leaf _ hst (by
   have h:=s_E (show (b_n b r.bytes at_).2=0 from hok)
   show at_<(b_n b r.bytes at_).1
   omega) rfl
 rw [show (r.kind==2)=false by simpa using h2] at *
 by_cases h3:r.kind=3
 ·rw [h3] at hok ⊢
  have hst:a_w d.rules r at_=at_:=by unfold a_w;rw [h3];rfl
  have:=h_x hr.kind h3;have h:=hby at_ r.size hok
  exact leaf _ hst (by
   show at_<(a_V b at_ r.size).2.1
   omega) h.1
 rw [show (r.kind==3)=false by simpa using h3] at *
 by_cases h4:r.kind=4
 ·rw [h4] at hok ⊢;simp only [bF_,fF_,bQ_,fT_] at hok ⊢
  have hst:a_w d.rules r at_=at_:=by unfold a_w;rw [h4];rfl
  cases hd:a_d b (K_ d.rules<|B_ r) at_ with
  | none=>rw [hd] at hok;cases hok
  | some n =>
   rw [hd] at hok
   have:=(c_u (h_y hr.kind h4).1).2.2.1;have h:=hby _ n hok;exact leaf _ hst (by simp only;omega) h.1
 rw [show (r.kind==4)=false by simpa using h4] at *
 by_cases H:r.kind=10
 ·rw [H] at hok ⊢;simp only [bF_,fF_,bQ_,fT_] at hok ⊢
  have hst:a_w d.rules r at_=at_:=by unfold a_w;rw [H];rfl
  cases hd:d_r b at_ (r.bytes.getD 0 0) with
  | none=>rw [hd] at hok;cases hok
  | some x=>have:=j_W _ _ _ _ _ hd;exact leaf _ hst (by simp only;omega) rfl
 rw [show (r.kind==10)=false by simpa using H] at *
 simp only [bF_,fF_] at hok ⊢
 cases hh:a_h d.rules b r at_ with
 | inl c=>rw [hh] at hok;exact absurd hok (by
   intro hc
   simp only at hc
   subst hc;unfold a_h at hh
   split at hh
   ·cases hi:a_d b (K_ d.rules<|B_ r) at_ with
    | none=>rw [hi] at hh;cases hh
    | some n=>rw [hi] at hh;simp only at hh;split at hh <;> cases hh
   split at hh
   ·cases hh
   split at hh
   ·cases hi:a_d b (K_ d.rules<|B_ r) at_ with
    | none=>rw [hi] at hh;cases hh
    | some n =>
     rw [hi] at hh;simp only at hh
     cases ht:b_A r.tags n with
     | none=>rw [ht] at hh;cases hh
     | some k=>rw [ht] at hh;cases hh
   split at hh
   ·cases hi:b[at_]? with
    | none=>rw [hi] at hh;cases hh
    | some c=>rw [hi] at hh;simp only at hh;split at hh <;> cases hh
   ·cases hh)
 | inr y =>
  obtain ⟨num,ks,st⟩:=y
  rw [hh] at hok
  simp only at hok ⊢
  have hk:=l_Z hr.kind (by omega) ha hh;obtain ⟨hitem,hst,J⟩:=t_U hr.kind (by omega) hh
  have hlek:∀k∈ks,∀p,p<=b.length->p<=(rdW d.rules b k.toNat p).2.1/\(rdW d.rules b k.toNat p).2.1<=b.length:=fun k hk' p hp=>by
   have:=hr.kids k<|hk.1 k hk';exact d_1 hv k.toNat (by omega) p hp
  have hile:=h_A (rd:=fun k p=>rdW d.rules b k.toNat p) (L:=b.length) ks st hk.2.2.1 hlek;have hch:=p_l (rd:=fun k p=>rdW d.rules b k.toNat p) (L:=b.length) ks st hk.2.2.1<|fun k hk' p hp=>(hlek k hk' p hp).2;generalize T_ (fun k p=>rdW d.rules b k.toNat p) ks st=x at *
  have G:x.2.2=0:=by
   unfold b_9 at hok
   split at hok
   ·assumption
   ·rename_i hx;exact absurd hok hx
  have hch:=hch G
  have hnk:r.kind=6∨r.kind=9->ks ≠ []:=by
   intro O hnil;unfold a_h at hh
   rcases O with h | h
   ·rw [h] at hh
    have:=g_i hr.kind h
    cases hh
    rw [hnil] at this;simp at this
   ·rw [h] at hh;cases hh;cases hnil
  subst hst;refine ⟨ks,x.2.1,?_⟩;unfold b_9 at hok ⊢
  rw [iP_ G] at hok ⊢
  by_cases I:r.kind=9
  ·rw [show (r.kind==9)=true by simpa using I] at hok ⊢
   simp only [fT_] at hok ⊢
   cases hb:b[x.2.1]? with
   | none=>rw [hb] at hok;cases hok
   | some c =>
    rw [hb] at hok
    simp only at hok ⊢
    by_cases hs:byteI c=c_5 (a_a b at_ x.2.1)
    ·rw [iP_ hs]
     have:=J I;subst this;exact ⟨hitem,hk.1,hk.2.2.2.1,hch,⟨hk.2.1,hk.2.2.1⟩,hile.1,by simp only;omega,.inl (by simp only;omega)⟩
    ·rw [iN_ hs] at hok;cases hok
  ·rw [show (r.kind==9)=false by simpa using I]
   simp only [bF_,fF_]
   refine ⟨hitem,hk.1,hk.2.2.2.1,hch,⟨hk.2.1,hk.2.2.1⟩,hile.1,Nat.le_refl _,?_⟩
   by_cases hst:a_w d.rules r at_=at_
   ·exact .inr ⟨rfl,hst,hnk<|hk.2.2.2.2 hst⟩
   ·left;simp only;omega
theorem rdW_lt (hv:a_4 d=true):∀(i:Nat),i<d.rules.length->∀at_,at_<=b.length->(rdW d.rules b i at_).2.2=0->at_<(rdW d.rules b i at_).2.1:=by
 intro i
 induction i using Nat.strongRecOn with
 | _ i ih =>
  intro hi at_ ha hok;obtain ⟨ks,e,h⟩:=g_k hv hi ha hok
  rcases h.go with hgo | ⟨he,hst,hne⟩
  ·exact hgo
  ·have hch:=h.ch
   cases ks with
   | nil=>exact absurd rfl hne
   | cons k ks =>
    obtain ⟨hp,G,ws,hws,hrest⟩:=hch;have hkid:=(b_R hv hi).kids k (h.kids k mS_);have hlt:=ih k.toNat (by omega) (by omega) _ hp G
    have hmono:∀(ks:List Int)(p:Nat)(vs:List Val)(e:Nat),p<=b.length->(∀k∈ks,0<=k/\k<(i:Int))->e_g (fun k p=>rdW d.rules b k.toNat p) b.length ks p vs e->p<=e:=by
     intro ks
     induction ks with
     | nil=>intro p vs e _ _ h;rw [h.2];exact Nat.le_refl _
     | cons k ks ihk =>
      intro p vs e hp hkk h;obtain ⟨_,_,ws,_,h⟩:=h;have hk:=hkk k mS_;have hl:=d_1 (b:=b) hv k.toNat (by omega) p hp;have:=ihk _ ws e hl.2 (fun k hk=>hkk k<|mT_ _ hk) h
      omega
    have:=hmono ks _ ws e (d_1 hv k.toNat (by omega) _ hp).2 (fun k' hk'=>(b_R hv hi).kids k' (h.kids k'<|mT_ _ hk')) hrest
    omega
def okV (d:e_)(b:List UInt8)(rule at_:Int):Bool:=(a_4 d && b_N d rule) && ((decide (0<=at_) && decide (at_<=(b.length:Int))) && decide ((b.length:Int)<=400))
def b_w (d:e_)(rule:Int)(b:List UInt8)(at_:Int):Val×Int×Int:=if okV d b rule at_=true then b_Z (rdW d.rules b rule.toNat at_.toNat) else (zV,0,8)
theorem k_i {rule at_:Int}(h:okV d b rule at_=true):a_4 d=true/\b.length<=400/\∃i p:Nat,rule=i/\at_=p/\i<d.rules.length/\p<=b.length:=by
 unfold okV b_N at h
 simp only [aE_,dE_] at h
 exact ⟨h.1.1,by omega,rule.toNat,at_.toNat,by omega,by omega,by omega,by omega⟩
theorem t_V (hd:SmD d){n:Nat}(hn:500<=n)(rule at_:Int):i_5 n d rule b at_=some (b_w d rule b at_):=by
 unfold i_5 b_w
 rw [s_1 d hd,b_m]
 by_cases h:okV d b rule at_=true
 ·rw [iP_ h]
  obtain ⟨hv,hb,i,p,rfl,rfl,hi,hp⟩:=k_i h;have hlen:=(c_D hv).2;have H:(a_4 d && b_N d (i:Int))=true:=by unfold b_N;rw [hv,dT_ (by omega),dT_ (by omega)];rfl
  rw [H,dT_ (show (0:Int)<=(p:Int) by omega),dT_ (show (p:Int)<=(b.length:Int) by omega),dF_ (show ¬(400:Int)<(b.length:Int) by omega)]
  simp only [bd_some,nT_,bF_,fF_,Bool.and_self]
  rw [p_e hv hd hb i hi n (by omega) p hp]
  rfl
 ·rw [iN_ h]
  unfold okV at h
  have G:decide ((400:Int)<(b.length:Int)) = !decide ((b.length:Int)<=400):=by
   by_cases hb:(b.length:Int)<=400
   ·rw [dT_ hb,dF_ (by omega)];rfl
   ·rw [dF_ hb,dT_ (by omega)];rfl
  rw [G]
  generalize (a_4 d && b_N d rule)=a at *
  generalize (decide (0<=at_) && decide (at_<=(b.length:Int)))=c at *
  generalize decide ((b.length:Int)<=400)=e at *
  cases a <;> cases c <;> cases e <;> first | rfl | exact absurd rfl h
theorem t_W (hd:SmD d){n:Nat}(hn:500<=n)(rule at_:Int):i_q n d rule b at_=some (b_w d rule b at_):=by
 unfold i_q b_w
 rw [l_t n (by omega) d hd]
 by_cases h:okV d b rule at_=true
 ·rw [iP_ h]
  obtain ⟨hv,hb,i,p,rfl,rfl,hi,hp⟩:=k_i h;have hlen:=(c_D hv).2;have H:(a_4 d && b_N d (i:Int))=true:=by unfold b_N;rw [hv,dT_ (by omega),dT_ (by omega)];rfl
  rw [H,dF_ (show ¬(p:Int)<0 by omega),dF_ (show ¬(b.length:Int)<(p:Int) by omega),dF_ (show ¬(400:Int)<(b.length:Int) by omega)]
  simp only [bd_some,nT_,bF_,fF_]
  obtain ⟨nx,hrd⟩:=t_R hv hd hb i hi n (by omega) p hp
  rw [hrd]
  show _=some (b_Z<|rdW d.rules b i p)
  have hz:=rdW_zV (d:=d) (b:=b) (i:=i) (at_:=p);generalize rdW d.rules b i p=x at *
  unfold d_2 b_Z
  by_cases G:x.2.2=0
  ·rw [iP_ G,G];rfl
  ·rw [iN_ G,hz G];rfl
 ·rw [iN_ h]
  unfold okV at h
  have I:decide ((400:Int)<(b.length:Int)) = !decide ((b.length:Int)<=400):=by
   by_cases hb:(b.length:Int)<=400
   ·rw [dT_ hb,dF_ (by omega)];rfl
   ·rw [dF_ hb,dT_ (by omega)];rfl
  have J:decide (at_<0) = !decide (0<=at_):=by
   by_cases hb:0<=at_
   ·rw [dT_ hb,dF_ (by omega)];rfl
   ·rw [dF_ hb,dT_ (by omega)];rfl
  have H:decide ((b.length:Int)<at_) = !decide (at_<=(b.length:Int)):=by
   by_cases hb:at_<=(b.length:Int)
   ·rw [dT_ hb,dF_ (by omega)];rfl
   ·rw [dF_ hb,dT_ (by omega)];rfl
  rw [I,J,H]
  generalize (a_4 d && b_N d rule)=a at *
  generalize decide (0<=at_)=c at *
  generalize decide (at_<=(b.length:Int))=c' at *
  generalize decide ((b.length:Int)<=400)=e at *
  cases a <;> cases c <;> cases c' <;> cases e <;> first | rfl | exact absurd rfl h
theorem t_X (hd:SmD d){n:Nat}(hn:500<=n)(rule at_:Int):i_i n d rule b at_=some ((b_w d rule b at_).2.1,(b_w d rule b at_).2.2):=by
 unfold i_i b_w
 rw [l_t n (by omega) d hd]
 by_cases h:okV d b rule at_=true
 ·rw [iP_ h]
  obtain ⟨hv,hb,i,p,rfl,rfl,hi,hp⟩:=k_i h;have hlen:=(c_D hv).2;have G:(a_4 d && b_N d (i:Int))=true:=by unfold b_N;rw [hv,dT_ (by omega),dT_ (by omega)];rfl
  rw [G,dF_ (show ¬(p:Int)<0 by omega),dF_ (show ¬(b.length:Int)<(p:Int) by omega),dF_ (show ¬(400:Int)<(b.length:Int) by omega)]
  simp only [bd_some,nT_,bF_,fF_]
  obtain ⟨ap',hrd⟩:=t_S hv hd hb i hi n (by omega) p hp 0
  rw [show (⟨(⟨d.rules⟩:e_),b,0⟩:a_3)=⟨d,b,0⟩ from rfl,hrd]
  rfl
 ·rw [iN_ h]
  unfold okV at h
  have H:decide ((400:Int)<(b.length:Int)) = !decide ((b.length:Int)<=400):=by
   by_cases hb:(b.length:Int)<=400
   ·rw [dT_ hb,dF_ (by omega)];rfl
   ·rw [dF_ hb,dT_ (by omega)];rfl
  have I:decide (at_<0) = !decide (0<=at_):=by
   by_cases hb:0<=at_
   ·rw [dT_ hb,dF_ (by omega)];rfl
   ·rw [dF_ hb,dT_ (by omega)];rfl
  have G:decide ((b.length:Int)<at_) = !decide (at_<=(b.length:Int)):=by
   by_cases hb:at_<=(b.length:Int)
   ·rw [dT_ hb,dF_ (by omega)];rfl
   ·rw [dF_ hb,dT_ (by omega)];rfl
  rw [H,I,G]
  generalize (a_4 d && b_N d rule)=a at *
  generalize decide (0<=at_)=c at *
  generalize decide (at_<=(b.length:Int))=c' at *
  generalize decide ((b.length:Int)<=400)=e at *
  cases a <;> cases c <;> cases c' <;> cases e <;> first | rfl | exact absurd rfl h
def b_J (d:e_):Int:=(d.rules.length:Int) - 1
theorem p_m (hd:SmD d):g_M d=some (b_J d):=by
 have:=hd.rules;have:=MXv;unfold g_M b_J;rw [a_x (by omega) (by omega)]
theorem p_n (hd:SmD d):g_D d=some (b_J d):=by
 have:=hd.rules;have:=MXv;unfold g_D b_J;rw [a_x (by omega) (by omega)]
def d_6 (d:e_)(b:List UInt8):Val×Int×Int:=if (b_w d (b_J d) b 0).2.2=0/\(b_w d (b_J d) b 0).2.1<(b.length:Int) then (zV,(b_w d (b_J d) b 0).2.1,7) else b_w d (b_J d) b 0
theorem p_o (v:Val)(e c:Int)(len:Int):bd (α:=Bool) (if (c==0)=true then some (decide<|e<len) else some false) (fun H=>if H=true then some ((⟨0,([]:List UInt8),([]:List Val)⟩:Val),e,7) else some ((⟨v.number,v.bytes,v.items⟩:Val),e,c))=some (if c=0/\e<len then (zV,e,7) else (v,e,c)):=by
 rw [p_d]
 by_cases G:c=0
 ·subst G
  by_cases h1:e<len
  ·rw [dT_ h1,iP_ (show (0:Int)=0/\e<len from ⟨rfl,h1⟩)];rfl
  ·rw [dF_ h1,iN_ (show ¬((0:Int)=0/\e<len) from fun h=>h1 h.2)];rfl
 ·rw [show (c==0)=false by simpa using G,iN_ (show ¬(c=0/\e<len) from fun h=>G h.1)];rfl
theorem p_p (hd:SmD d){n:Nat}(hn:500<=n):g_Q n d b=some (d_6 d b):=by
 unfold g_Q d_6
 rw [p_m hd,bd_some,t_W hd hn]
 generalize b_w d (b_J d) b 0=x;exact p_o x.1 x.2.1 x.2.2 _
theorem t_Y (hd:SmD d){n:Nat}(hn:500<=n):i_6 n d b=some (d_6 d b):=by
 unfold i_6 d_6
 rw [p_n hd,bd_some,t_V hd hn]
 generalize b_w d (b_J d) b 0=x;exact p_o x.1 x.2.1 x.2.2 _
end
end Go.Vw
namespace Go.Vw
open Go.RowKit Dat
theorem t_Z (x:Nat):mkB (b_ 48 ((x % 10:Nat):Int))=UInt8.ofNat (48+x % 10):=by
 have:x % 10=0∨x % 10=1∨x % 10=2∨x % 10=3∨x % 10=4∨x % 10=5∨x % 10=6∨x % 10=7∨x % 10=8∨x % 10=9:=by omega
 rcases this with h | h | h | h | h | h | h | h | h | h <;> rw [h] <;> decide
theorem m_3:∀(k x:Nat),x<10 ^ k->0<x->x<=4611686018427387904->∀(s:Str)(n:Nat),k+1<=n->s.b.length+k<=1000 ->
  O_ (σ:=Str×Int) (ρ:=Str) (un2 fun H G=>if (G != 0)=true then bd (α:=Int) (if (decide<|(b_L G 10)<0)=true then some (g_7<|b_L G 10) else some (b_L G 10)) (fun J=>bd (cat (⟨[mkB (b_ 48 J)]⟩:Str) H) fun L=>some<|.next (L,e_C G 10)) else some (.brk (H,G))) n (s,(x:Int))=some (.inl (⟨Lib.decDigits x++s.b⟩,0))
 | 0,x,h,O,_,_,_,_,_=>by simp at h;omega
 | k+1,x,h,O,hb,s,n,hn,hs=>by
  obtain ⟨m,rfl⟩:∃m,n=m+1:=⟨n - 1,by omega⟩;unfold O_
  simp only [un2]
  rw [show ((x:Int) != 0)=true by simp;omega,m_8 (by omega),u_b (by omega) (by omega) (by omega),dF_ (show ¬(x:Int) % 10<0 by omega)]
  simp only [fT_,bF_,fF_,bd_some]
  rw [show (x:Int) % 10=((x % 10:Nat):Int) by omega,t_Z,h_C (by rw [a_u];simp;omega),bd_some,show (x:Int) / 10=((x / 10:Nat):Int) by omega]
  simp only
  by_cases I:x<10
  ·rw [show x / 10=0 by omega,show x % 10=x by omega]
   obtain ⟨m',rfl⟩:∃m',m=m'+1:=⟨m - 1,by omega⟩
   rw [Lib.decDigits,dif_pos I]
   rfl
  ·rw [m_3 k (x / 10) (by rw [Nat.pow_succ] at h;omega) (by omega) (by omega) _ m (by omega) (by simp;omega)]
   rw [Lib.decDigits.eq_1 x,dif_neg I]
   simp
theorem u_0 {n:Nat}(hn:30<=n)(i:Nat)(hi:i<=1000000000):d_y n i=some ⟨Lib.itoa i⟩:=by
 unfold d_y Lib.itoa
 rw [iN_ (show ¬(i:Int)<0 by omega)]
 by_cases h:i=0
 ·subst h
  rw [show ((((0:Nat):Int)).toNat)=0 from rfl,Lib.decDigits,dif_pos (by omega)]
  rfl
 ·rw [show ((i:Int)==0)=false by simp;omega]
  simp only [bF_,fF_]
  rw [m_3 20 i (by omega) (by omega) (by omega) ⟨[]⟩ n (by omega) (by simp),dF_ (show ¬(i:Int)<0 by omega)]
  simp
theorem u_1 (i:Nat)(hi:i<=1000000000):(Lib.itoa i).length<=21:=Lib.itoa_length_le i (by omega) (by omega)
def d_O (r:g_)(i:Nat):Str :=
 if r.kind==5 then ⟨Lib.itoa i⟩
 else if r.kind==6 && decide (i<r.names.length) then r.names.getD i ⟨[]⟩
 else if r.kind==7 && i==0 then ⟨[42]⟩
 else if r.kind==8 && i==0 then ⟨[63]⟩
 else if r.kind==9 && i==0 then ⟨[43]⟩
 else ⟨[]⟩
theorem u_2 {n:Nat}(hn:30<=n)(r:g_)(i:Nat)(hi:i<=1000000000):g_E n r i=some (d_O r i):=by
 unfold g_E d_O
 rw [u_0 hn i hi]
 rw [l_q]
 cases (r.kind==5)
 ·cases (r.kind==6)
  ·cases (r.kind==7) <;> cases (r.kind==8) <;> cases (r.kind==9) <;> cases (i==0) <;> rfl
  ·by_cases h:i<r.names.length
   ·rw [dT_ h,dT_ (show (i:Int)<(r.names.length:Int) by omega),ix_ h,a_F h];rfl
   ·rw [dF_ h,dF_ (show ¬(i:Int)<(r.names.length:Int) by omega)]
    cases (r.kind==7) <;> cases (r.kind==8) <;> cases (r.kind==9) <;> cases (i==0) <;> rfl
 ·rfl
theorem u_3 {d:e_}(hv:a_4 d=true)(hd:SmD d){n:Nat}(hn:30<=n){k:Nat}(hk:k<d.rules.length)(i:Nat):f_K n d k i=some (d_O d.rules[k] i):=by
 unfold f_K d_O k_S l_j
 rw [l_t n (by omega) d hd,hv,ix_ hk]
 have H:b_N d (k:Int)=true:=by unfold b_N;rw [dT_ (by omega),dT_ (by omega)];rfl
 rw [H,dF_ (show ¬(i:Int)<0 by omega)]
 simp only [Bool.and_self,nT_,bd_some,bF_,fF_]
 generalize d.rules[k]=r
 by_cases h5:r.kind=5
 ·rw [h5];rfl
 rw [show (r.kind==5)=false by simpa using h5]
 by_cases h6:r.kind=6
 ·rw [h6]
  by_cases h:i<r.names.length
  ·rw [dT_ h,dT_ (show (i:Int)<(r.names.length:Int) by omega),ix_ h,a_F h];rfl
  ·rw [dF_ h,dF_ (show ¬(i:Int)<(r.names.length:Int) by omega)]
   cases decide (0<(i:Int)) <;> rfl
 rw [show (r.kind==6)=false by simpa using h6]
 by_cases G:i=0
 ·subst G
  cases (r.kind==7) <;> cases (r.kind==8) <;> cases (r.kind==9) <;> rfl
 ·rw [dT_ (show 0<(i:Int) by omega),show (i==0)=false by simpa using G]
  cases (r.kind==7) <;> cases (r.kind==8) <;> cases (r.kind==9) <;> rfl
theorem u_4 {s:Str}(h:a_Z s=true):s.b.length<=12:=by
 unfold a_Z at h
 simp only [aE_,dE_] at h
 exact h.2.2
theorem m_4 {rs:List g_}{r:g_}(h:a_B rs r=true)(i:Nat)(hi:i<=1000000000):(d_O r i).b.length<=21:=by
 unfold d_O
 split
 ·exact u_1 i hi
 split
 ·rename_i h6
  simp only [aE_,beq_iff_eq,dE_] at h6
  rw [a_F h6.2]
  have:=u_4<|(g_i h h6.1).2.2.2 _ (gE_ h6.2)
  omega
 split
 ·simp
 split
 ·simp
 split <;> simp
def c_F (r:g_)(path:Str)(i:Nat):Str:=⟨path.b++[47]++(d_O r i).b⟩
def ixL (f:Int->Nat->Str->List m_)(e:Int->Nat->Nat)(r:g_)(path:Str):List Int->Nat->Nat->List m_
 | [],_,_=>[]
 | k::ks,i,pos=>f k pos (c_F r path i)++ixL f e r path ks (i+1) (e k pos)
def ixW (rs:List g_)(b:List UInt8)(rule:Nat)(at_:Nat)(path:Str):List m_ :=
 (⟨path,(rule:Int),(at_:Int),((rdW rs b rule at_).2.1:Int)⟩:m_)::ixL (fun k p q=>if _h:k.toNat<rule then ixW rs b k.toNat p q else []) (fun k p=>(rdW rs b k.toNat p).2.1) (rs.getD rule default) path ((List.range (rdW rs b rule at_).1.items.length).map (b_8 (rs.getD rule default) (rdW rs b rule at_).1.number)) 0 (a_w rs (rs.getD rule default) at_)
termination_by rule
theorem p_q {f f':Int->Nat->Str->List m_}{e:Int->Nat->Nat}{r:g_}{path:Str}:∀(ks:List Int)(i pos:Nat),(∀k∈ks,∀p q,f k p q=f' k p q)->ixL f e r path ks i pos=ixL f' e r path ks i pos
 | [],_,_,_=>rfl
 | k::ks,i,pos,h=>by
  unfold ixL
  rw [h k mS_,p_q ks _ _<|fun k hk=>h k<|mT_ _ hk]
section
variable {d:e_}{b:List UInt8}
theorem k_j (hv:a_4 d=true){i:Nat}(hi:i<d.rules.length){at_:Nat}{ks:List Int}{e:Nat}(h:RdOk d b d.rules[i] at_ (rdW d.rules b i at_) ks e)(path:Str) :
  ixW d.rules b i at_ path=(⟨path,(i:Int),(at_:Int),((rdW d.rules b i at_).2.1:Int)⟩:m_)::ixL (fun k p q=>ixW d.rules b k.toNat p q) (fun k p=>(rdW d.rules b k.toNat p).2.1) d.rules[i] path ks 0 (a_w d.rules d.rules[i] at_):=by
 rw [ixW]
 have G:d.rules.getD i default=d.rules[i]:=by simp [hi]
 rw [G]
 have hl:=k_h h.ch
 have H:(List.range (rdW d.rules b i at_).1.items.length).map (b_8 d.rules[i] (rdW d.rules b i at_).1.number)=ks:=by
  apply List.ext_getElem
  ·simp [hl]
  ·intro j h1 h2
   rw [List.getElem_map,List.getElem_range]
   exact h.item j h2
 rw [H]
 congr 1
 refine p_q ks _ _<|fun k hk p q=>?_;have:=(b_R hv hi).kids k (h.kids k hk)
 rw [dif_pos (by omega)]
theorem p_r (i:Nat)(f:Int->Nat->Str->List m_)(r:g_)(path:Str):∀(ks:List Int)(j pos:Nat)(vs:List Val)(e:Nat),(∀k∈ks,∀p,p<=b.length->p<=(rdW d.rules b k.toNat p).2.1/\(rdW d.rules b k.toNat p).2.1<=b.length)->(∀k∈ks,∀p q,p<=b.length->(rdW d.rules b k.toNat p).2.2=0->(f k p q).length<=i * ((rdW d.rules b k.toNat p).2.1 - p)) ->
  e_g (fun k p=>rdW d.rules b k.toNat p) b.length ks pos vs e->(ixL f (fun k p=>(rdW d.rules b k.toNat p).2.1) r path ks j pos).length<=i * (e - pos)/\pos<=e
 | [],_,_,_,_,_,_,h=>by rw [h.2];simp [ixL]
 | k::ks,j,pos,vs,e,hle,hf,h=>by
  obtain ⟨hp,G,ws,_,hrest⟩:=h;have h1:=hle k mS_ pos hp;have h2:=hf k mS_ pos (c_F r path j) hp G;have h3:=p_r i f r path ks (j+1) _ ws e (fun k hk=>hle k<|mT_ _ hk) (fun k hk=>hf k<|mT_ _ hk) hrest
  simp only at h3 G
  unfold ixL
  rw [List.length_append]
  refine ⟨?_,by omega⟩
  have h4:i * ((rdW d.rules b k.toNat pos).2.1 - pos)+i * (e - (rdW d.rules b k.toNat pos).2.1)=i * (e - pos):=by
   rw [← Nat.mul_add];congr 1;omega
  omega
theorem u_5 (hv:a_4 d=true):∀(i:Nat),i<d.rules.length->∀at_ path,at_<=b.length->(rdW d.rules b i at_).2.2=0->(ixW d.rules b i at_ path).length<=(i+1) * ((rdW d.rules b i at_).2.1 - at_):=by
 intro i
 induction i using Nat.strongRecOn with
 | _ i ih =>
  intro hi at_ path ha hok;obtain ⟨ks,e,h⟩:=g_k hv hi ha hok;have hlt:=rdW_lt hv i hi at_ ha hok
  rw [k_j hv hi h path]
  have hkk:∀k∈ks,0<=k/\k<(i:Int):=fun k hk=>(b_R hv hi).kids k (h.kids k hk)
  have hL:=p_r (d:=d) (b:=b) i (fun k p q=>ixW d.rules b k.toNat p q) d.rules[i] path ks 0 _ _ e (fun k hk p hp=>by have:=hkk k hk;exact d_1 hv k.toNat (by omega) p hp) (fun k hk p q hp G=>by
   have H:=hkk k hk;have h1:=ih k.toNat (by omega) (by omega) p q hp G
   exact Nat.le_trans h1 (Nat.mul_le_mul_right _ (by omega))) h.ch
  rw [lC_]
  have hst:=h.st;have hse:=h.se;have hle:=h.le;have h5:i * (e - a_w d.rules d.rules[i] at_)<=i * ((rdW d.rules b i at_).2.1 - at_):=Nat.mul_le_mul_left _ (by omega)
  rw [Nat.succ_mul]
  omega
theorem m_5 (hv:a_4 d=true)(hb:b.length<=400){i:Nat}(hi:i<d.rules.length){at_:Nat}(path:Str)(ha:at_<=b.length)(hok:(rdW d.rules b i at_).2.2=0):(ixW d.rules b i at_ path).length<=10000:=by
 have h1:=u_5 hv i hi at_ path ha hok;have h2:=(c_D hv).2;have h3:=(d_1 (b:=b) hv i hi at_ ha).2;have h4:(i+1) * ((rdW d.rules b i at_).2.1 - at_)<=24 * 400:=Nat.mul_le_mul (by omega) (by omega)
 omega
theorem m_6 {r:g_}{path:Str}{j:Nat}(hk:a_B d.rules r=true)(hj:j<=1000000000):(c_F r path j).b.length<=path.b.length+22:=by
 have:=m_4 hk j hj;unfold c_F
 simp only [List.length_append,lC_,List.length_nil]
 omega
theorem p_s (hv:a_4 d=true)(hb:b.length<=400){i:Nat}(hi:i<d.rules.length){at_:Nat}(ha:at_<=b.length)(hok:(rdW d.rules b i at_).2.2=0) :
  (bd (α:=Bool) (if (d.rules[i].kind==5)=true then some (d.rules[i].kind==5) else some (d.rules[i].kind==7)) (fun O=>bd (α:=Int) (if O=true then bd (idx d.rules[i].kids 0) fun G=>bd3 (d_f d G b at_) fun V H W=>some H else bd (α:=Int) (if (d.rules[i].kind==8)=true then some (b_ (at_:Int) 1) else some (at_:Int)) (fun Y=>some Y)) some)=some ((a_w d.rules d.rules[i] at_:Nat):Int)):=by
 have hMX:=MXv;have hr:=b_R hv hi;obtain ⟨ks,e,h⟩:=g_k hv hi ha hok;have hst:=h.st
 rw [f_u hv hi ha] at hok
 generalize d.rules[i]=r at *
 unfold a_w at *
 have main:r.kind=5∨r.kind=7->bd (idx r.kids 0) (fun G=>bd3 (d_f d G b at_) fun V H W=>some H)=some (((at_+(K_ d.rules<|B_ r).size.toNat:Nat)):Int):=by
  intro J
  have hlim:0<lim d.rules (B_ r)/\0<r.kids.length:=by
   rcases J with h | h
   ·have:=e_O hr.kind h;exact ⟨this.1,by omega⟩
   ·have:=f_t hr.kind h;exact ⟨this.1,by omega⟩
  have hq:=c_u hlim.1
  rw [c_4 hlim.2,bd_some,k_0 hq.1 hq.2 (by omega) ha]
  cases hi:a_d b (K_ d.rules<|B_ r) at_ with
  | some n=>rfl
  | none =>
   exfalso
   unfold rdB a_h at hok
   rcases J with h | h <;> rw [h,hi] at hok <;> cases hok
 by_cases h5:r.kind=5
 ·have:=main<|.inl h5
  rw [h5]
  simp only [bQ_,fT_,bd_some,Bool.true_or]
  rw [this];rfl
 by_cases I:r.kind=7
 ·have:=main<|.inr I
  rw [I]
  simp only [show ((7:Int)==5)=false from rfl,bF_,fF_,bQ_,fT_,bd_some,Bool.false_or]
  rw [this];rfl
 rw [show (r.kind==5)=false by simpa using h5,show (r.kind==7)=false by simpa using I]
 by_cases L:r.kind=8
 ·rw [L]
  simp only [bF_,fF_,bd_some,bQ_,fT_,Bool.or_self]
  rw [ia_ (by omega) (by omega)];rfl
 ·rw [show (r.kind==8)=false by simpa using L]
  rfl
theorem u_6 (hv:a_4 d=true)(hb:b.length<=400){i:Nat}(hi:i<d.rules.length){at_:Nat}(ha:at_<=b.length) :
  (bd (α:=Bool) (if (d.rules[i].kind==5)=true then some (d.rules[i].kind==5) else some (d.rules[i].kind==7)) (fun L=>bd (α:=Int) (if L=true then bd (idx d.rules[i].kids 0) fun G=>bd (idx d.rules G) fun H=>some (b_ (at_:Int) H.size) else bd (α:=Int) (if (d.rules[i].kind==8)=true then some (b_ (at_:Int) 1) else some (at_:Int)) (fun O=>some O)) some))=some ((a_w d.rules d.rules[i] at_:Nat):Int):=by
 have hr:=b_R hv hi;generalize d.rules[i]=r at *
 unfold a_w
 have main:r.kind=5∨r.kind=7->bd (idx r.kids 0) (fun G=>bd (idx d.rules G) fun H=>some<|b_ (at_:Int) H.size)=some (((at_+(K_ d.rules<|B_ r).size.toNat:Nat)):Int):=by
  intro V
  have hlim:0<lim d.rules (B_ r)/\0<r.kids.length:=by
   rcases V with h | h
   ·have:=e_O hr.kind h;exact ⟨this.1,by omega⟩
   ·have:=f_t hr.kind h;exact ⟨this.1,by omega⟩
  have hq:=c_u hlim.1;obtain ⟨_,h1,h4⟩:=hq.2
  rw [c_4 hlim.2,bd_some,hq.1,bd_some,ia_ (by omega) (by omega)]
  congr 1
  omega
 by_cases h5:r.kind=5
 ·have:=main<|.inl h5
  rw [h5]
  simp only [bQ_,fT_,bd_some,Bool.true_or]
  rw [this];rfl
 by_cases I:r.kind=7
 ·have:=main<|.inr I
  rw [I]
  simp only [show ((7:Int)==5)=false from rfl,bF_,fF_,bQ_,fT_,bd_some,Bool.false_or]
  rw [this];rfl
 rw [show (r.kind==5)=false by simpa using h5,show (r.kind==7)=false by simpa using I]
 by_cases J:r.kind=8
 ·rw [J]
  simp only [bF_,fF_,bd_some,bQ_,fT_,Bool.or_self]
  rw [ia_ (by omega) (by omega)];rfl
 ·rw [show (r.kind==8)=false by simpa using J]
  rfl
end
end Go.Vw
namespace Go.Vw
open Go.RowKit Dat
section
variable {d:e_}{b:List UInt8}
theorem n_A {n:Nat}(hv:a_4 d=true){i:Nat}(hi:i<d.rules.length)(hb:b.length<=400)(hn:30<=n){ks:List Int}{num:Int}(hitem:∀j (hj:j<ks.length),b_8 d.rules[i] num j=ks[j])(hkk:∀k∈ks,0<=k/\k<(i:Int))(a1:ks.length<=40){path:Str}(hpath:path.b.length+32<=1000000)
  (ih:∀k,k<i->∀p q,p<=b.length->(rdW d.rules b k p).2.2=0->q.b.length<=path.b.length+22->k_R n d k b p q=some (ixW d.rules b k p q,((rdW d.rules b k p).2.1:Int)))
  (body:Nat->(List m_)×Int->Option (Out ((List m_)×Int)<|(List m_)×Int)) (hbd:body=(fun G=>un2 fun L O=>bd (cat path (⟨[47]⟩:Str)) fun V=>bd (d_z d.rules[i] num ((G:Nat):Int)) fun W=>bd (g_E n d.rules[i] ((G:Nat):Int)) fun Y=>bd (cat V Y) fun a0=>bd2 ((f_6 n).spec_l19Build d W b O a0) fun H I=>bd (app L H) fun J=>some<|.next (J,I))) :
  ∀m k (pos:Nat) (vs:List Val) (e:Nat) (out:List m_),k+m=ks.length->out.length<=1+k * 10000->e_g (fun k p=>rdW d.rules b k.toNat p) b.length (ks.drop k) pos vs e ->
  t_ body m k (out,(pos:Int))=some (.inl (out++ixL (fun k p q=>ixW d.rules b k.toNat p q) (fun k p=>(rdW d.rules b k.toNat p).2.1) d.rules[i] path (ks.drop k) k pos,(e:Int)))
 | 0,k,pos,vs,e,out,hk,_,hch=>by
  rw [List.drop_of_length_le (by omega)] at *
  rw [hch.2]
  simp [t_,ixL]
 | m+1,k,pos,vs,e,out,hk,ho,hch=>by
  have hLIM:=a_u;have hr:=b_R hv hi;have hlt:k<ks.length:=by omega
  rw [dC_ hlt] at *
  obtain ⟨hp,h,ws,_,hrest⟩:=hch
  simp only at h hrest
  have hkr:=hkk _<|gE_ hlt;have hst:=m_4 hr.kind k (by omega);have hsm:=m_5 hv hb (show ks[k].toNat<d.rules.length by omega) (c_F d.rules[i] path k) hp h
  have hone:body k (out,(pos:Int))=some (.next (out++ixW d.rules b ks[k].toNat pos (c_F d.rules[i] path k),((rdW d.rules b ks[k].toNat pos).2.1:Int))):=by
   rw [hbd]
   simp only [un2]
   rw [h_C (by simp only [lC_,List.length_nil];omega),bd_some,k_5<|h_z hr.kind,bd_some,hitem k hlt,u_2 hn _ k (by omega),bd_some,h_C (by simp only [List.length_append,lC_,List.length_nil];omega),bd_some]
   have hrec:=ih ks[k].toNat (by omega) pos (c_F d.rules[i] path k) hp h (m_6 hr.kind (by omega))
   rw [show ((ks[k].toNat:Nat):Int)=ks[k] by omega] at hrec
   rw [show (f_6 n).spec_l19Build d ks[k] b (pos:Int) ⟨path.b++[47]++(d_O d.rules[i] k).b⟩=k_R n d ks[k] b (pos:Int) (c_F d.rules[i] path k) from rfl,hrec]
   simp only [bd2_some]
   rw [c_0 (by omega),bd_some]
  unfold t_ ixL
  rw [hone]
  simp only
  rw [n_A hv hi hb hn hitem hkk a1 hpath ih body hbd m (k+1) _ ws e _ (by omega) (by rw [List.length_append];omega) hrest]
  simp
theorem s_2 (hv:a_4 d=true)(hd:SmD d)(hb:b.length<=400):∀(i:Nat)(hi:i<d.rules.length),∀n,4 * i+600<=n->∀(at_:Nat)(path:Str),at_<=b.length->(rdW d.rules b i at_).2.2=0->path.b.length+22 * i+32<=1000000 ->
  k_R n d i b at_ path=some (ixW d.rules b i at_ path,((rdW d.rules b i at_).2.1:Int)):=by
 intro i
 induction i using Nat.strongRecOn with
 | _ i ih =>
  intro hi n hn at_ path ha hok hpath;have hlen:=(c_D hv).2;obtain ⟨m,rfl⟩:∃m,n=m+1:=⟨n - 1,by omega⟩;obtain ⟨ks,e,h⟩:=g_k hv hi ha hok;have hkk:∀k∈ks,0<=k/\k<(i:Int):=fun k hk=>(b_R hv hi).kids k (h.kids k hk)
  show i_v m (f_6 m) d i b at_ path=_
  unfold i_v
  rw [ix_ hi,bd_some,p_e hv hd hb i hi m (by omega) at_ ha]
  unfold b_Z
  simp only [bd3_some]
  have hs:=p_s hv hb hi ha hok
  rw [k_j hv hi h path]
  have hcl:=k_h h.ch
  rw [hcl]
  -- the start's text is that of start_eq
  have tail:∀(f:Int->Option (List m_×Int)),bd (α:=Bool) (if (d.rules[i].kind==5)=true then some (d.rules[i].kind==5) else some (d.rules[i].kind==7)) (fun J=>bd (α:=Int) (if J=true then bd (idx d.rules[i].kids 0) fun G=>bd3 (d_f d G b at_) fun L H O=>some H else bd (α:=Int) (if (d.rules[i].kind==8)=true then some (b_ (at_:Int) 1) else some (at_:Int)) (fun I=>some I)) f)=f ((a_w d.rules d.rules[i] at_:Nat):Int):=by
   intro f;generalize (if (d.rules[i].kind==5)=true then some (d.rules[i].kind==5) else some (d.rules[i].kind==7))=o at *
   cases o with
   | none=>cases hs
   | some x =>
    simp only [bd_some] at hs ⊢
    revert hs;generalize (if x=true then bd (idx d.rules[i].kids 0) fun G=>bd3 (d_f d G b at_) fun L H O=>some H else bd (α:=Int) (if (d.rules[i].kind==8)=true then some (b_ (at_:Int) 1) else some (at_:Int)) (fun I=>some I))=V;intro hs
    cases V with
    | none=>cases hs
    | some y=>simp only [bd_some] at hs ⊢;rw [Option.some.inj hs]
  rw [tail]
  have hloop:=n_A (n:=m) hv hi hb (by omega) h.item hkk h.small (path:=path) (by omega) (fun k hk p q hp W hq=>ih k hk (by omega) m (by omega) p q hp W (by omega)) _ rfl ks.length 0 (a_w d.rules d.rules[i] at_) (rdW d.rules b i at_).1.items e [(⟨path,(i:Int),(at_:Int),((rdW d.rules b i at_).2.1:Int)⟩:m_)] (by omega) (by simp) (by rw [List.drop_zero];exact h.ch)
  rw [hloop]
  rfl
theorem n_B {n:Nat}(hv:a_4 d=true)(hd:SmD d){i:Nat}(hi:i<d.rules.length)(hb:b.length<=400)(hn:30<=n){ks:List Int}{v:Val}(hitem:∀j (hj:j<ks.length),b_8 d.rules[i] v.number j=ks[j])(hkk:∀k∈ks,0<=k/\k<(i:Int))(a3:ks.length<=40){path:Str}(hpath:path.b.length+32<=1000000)(B:Nat)
  (ih:∀k,k<i->∀p q (L:List m_),p<=b.length->(rdW d.rules b k p).2.2=0->q.b.length<=path.b.length+22->L.length<=B+400001->i_y n ⟨⟨d.rules⟩,b,L⟩ q k (rdW d.rules b k p).1 p=some (((rdW d.rules b k p).2.1:Int),L++ixW d.rules b k p q))
  (body:Nat->Int×(List m_)->Option (Out (Int×(List m_))<|Int×(List m_))) (hbd:body=(fun G=>un2 fun I J=>bd (cat path (⟨[47]⟩:Str)) fun O=>bd (idx v.items ((G:Nat):Int)) fun V=>bd (f_K n (⟨d.rules⟩:e_) i ((G:Nat):Int)) fun W=>bd (cat O W) fun Y=>bd (f_L (⟨d.rules⟩:e_) i v ((G:Nat):Int)) fun a0=>bd2 ((f_7 n).impl_indexer_part (⟨(⟨d.rules⟩:e_),b,J⟩:d_C) Y a0 V I) fun a1 a2=>some<|.next (a1,a2))) :
  ∀m k (pos:Nat) (vs:List Val) (e:Nat) (out:List m_),k+m=ks.length->out.length<=B+1+k * 10000->v.items.drop k=vs->e_g (fun k p=>rdW d.rules b k.toNat p) b.length (ks.drop k) pos vs e ->
  t_ body m k ((pos:Int),out)=some (.inl ((e:Int),out++ixL (fun k p q=>ixW d.rules b k.toNat p q) (fun k p=>(rdW d.rules b k.toNat p).2.1) d.rules[i] path (ks.drop k) k pos))
 | 0,k,pos,vs,e,out,hk,_,_,hch=>by
  rw [List.drop_of_length_le (by omega)] at hch ⊢
  rw [hch.2]
  simp [t_,ixL]
 | m+1,k,pos,vs,e,out,hk,ho,hvs,hch=>by
  have hLIM:=a_u;have hr:=b_R hv hi;have hlt:k<ks.length:=by omega
  rw [dC_ hlt] at hch ⊢
  obtain ⟨hp,H,ws,hws,hrest⟩:=hch
  simp only at H hrest hws
  have hkr:=hkk _<|gE_ hlt;have hst:=m_4 hr.kind k (by omega)
  rw [hws] at hvs
  have hlv:k<v.items.length:=by
   rcases Nat.lt_or_ge k v.items.length with h | h
   ·exact h
   ·rw [List.drop_of_length_le h] at hvs;cases hvs
  rw [dC_ hlv] at hvs
  obtain ⟨a4,a5⟩:=List.cons.inj hvs;have hsm:=m_5 hv hb (show ks[k].toNat<d.rules.length by omega) (c_F d.rules[i] path k) hp H
  have hone:body k ((pos:Int),out)=some (.next (((rdW d.rules b ks[k].toNat pos).2.1:Int),out++ixW d.rules b ks[k].toNat pos (c_F d.rules[i] path k))):=by
   rw [hbd]
   simp only [un2]
   have e3:f_L (⟨d.rules⟩:e_) i v (k:Int)=some (b_8 d.rules[i] v.number k):=s_G (d:=⟨d.rules⟩) (ix_ hi) (h_z hr.kind) v k;have e4:f_K n (⟨d.rules⟩:e_) i (k:Int)=some (d_O d.rules[i] k):=u_3 (d:=d) hv hd hn hi k
   rw [h_C (by simp only [lC_,List.length_nil];omega),bd_some,ix_ hlv,bd_some,e4,bd_some,h_C (by simp only [List.length_append,lC_,List.length_nil];omega),bd_some,e3,bd_some,hitem k hlt]
   have hrec:=ih ks[k].toNat (by omega) pos (c_F d.rules[i] path k) out hp H (m_6 hr.kind (by omega)) (by omega)
   rw [show ((ks[k].toNat:Nat):Int)=ks[k] by omega] at hrec
   rw [a4,show (f_7 n).impl_indexer_part (⟨⟨d.rules⟩,b,out⟩:d_C) ⟨path.b++[47]++(d_O d.rules[i] k).b⟩ ks[k] (rdW d.rules b ks[k].toNat pos).1 (pos:Int)=i_y n ⟨⟨d.rules⟩,b,out⟩ (c_F d.rules[i] path k) ks[k] (rdW d.rules b ks[k].toNat pos).1 (pos:Int) from rfl,hrec]
   rfl
  unfold t_ ixL
  rw [hone]
  simp only
  rw [n_B hv hd hi hb hn hitem hkk a3 hpath B ih body hbd m (k+1) _ ws e _ (by omega) (by rw [List.length_append];omega) a5 hrest]
  simp
theorem s_3 (hv:a_4 d=true)(hd:SmD d)(hb:b.length<=400):∀(i:Nat)(hi:i<d.rules.length),∀n,4 * i+600<=n->∀(at_:Nat)(path:Str)(L:List m_),at_<=b.length->(rdW d.rules b i at_).2.2=0->path.b.length+22 * i+32<=1000000->L.length+i * 400001<=40000000 ->
  i_y n ⟨⟨d.rules⟩,b,L⟩ path i (rdW d.rules b i at_).1 at_=some (((rdW d.rules b i at_).2.1:Int),L++ixW d.rules b i at_ path):=by
 intro i
 induction i using Nat.strongRecOn with
 | _ i ih =>
  intro hi n hn at_ path L ha hok hpath hL;have hLIM:=a_u;have hlen:=(c_D hv).2;obtain ⟨m,rfl⟩:∃m,n=m+1:=⟨n - 1,by omega⟩;obtain ⟨ks,e,h⟩:=g_k hv hi ha hok;have hkk:∀k∈ks,0<=k/\k<(i:Int):=fun k hk=>(b_R hv hi).kids k (h.kids k hk)
  show i_x m (f_7 m) ⟨⟨d.rules⟩,b,L⟩ path i (rdW d.rules b i at_).1 at_=_
  unfold i_x
  simp only
  rw [b_h (by omega),bd_some,show (⟨d.rules⟩:e_)=d from rfl,t_X hd (by omega)]
  have J:okV d b (i:Int) (at_:Int)=true:=by
   unfold okV b_N
   rw [hv,dT_ (show (0:Int)<=(i:Int) by omega),dT_ (show (i:Int)<(d.rules.length:Int) by omega),dT_ (show (0:Int)<=(at_:Int) by omega),dT_ (show (at_:Int)<=(b.length:Int) by omega),dT_ (show (b.length:Int)<=400 by omega)]
   rfl
  have hrv:b_w d i b at_=b_Z (rdW d.rules b i at_):=by unfold b_w;rw [iP_ J];rfl
  rw [hrv]
  simp only [bd2_some]
  rw [ix_ hi,bd_some]
  have hs:=u_6 hv hb hi ha
  rw [k_j hv hi h path]
  have hcl:=k_h h.ch
  rw [hcl]
  have tail:∀(f:Int->Option (Int×List m_)),bd (α:=Bool) (if (d.rules[i].kind==5)=true then some (d.rules[i].kind==5) else some (d.rules[i].kind==7)) (fun O=>bd (α:=Int) (if O=true then bd (idx d.rules[i].kids 0) fun G=>bd (idx d.rules G) fun H=>some (b_ (at_:Int) H.size) else bd (α:=Int) (if (d.rules[i].kind==8)=true then some (b_ (at_:Int) 1) else some (at_:Int)) (fun I=>some I)) f)=f ((a_w d.rules d.rules[i] at_:Nat):Int):=by
   intro f;generalize (if (d.rules[i].kind==5)=true then some (d.rules[i].kind==5) else some (d.rules[i].kind==7))=o at *
   cases o with
   | none=>cases hs
   | some x =>
    simp only [bd_some] at hs ⊢
    revert hs;generalize (if x=true then bd (idx d.rules[i].kids 0) fun G=>bd (idx d.rules G) fun H=>some (b_ (at_:Int) H.size) else bd (α:=Int) (if (d.rules[i].kind==8)=true then some (b_ (at_:Int) 1) else some (at_:Int)) (fun I=>some I))=V;intro hs
    cases V with
    | none=>cases hs
    | some y=>simp only [bd_some] at hs ⊢;rw [Option.some.inj hs]
  rw [tail]
  have hloop:=n_B (n:=m) hv hd hi hb (by omega) h.item hkk h.small (path:=path) (by omega) L.length (fun k hk p q L' hp W hq hL'=>ih k hk (by omega) m (by omega) p q L' hp W (by omega) (by
   have:(k+1) * 400001<=i * 400001:=Nat.mul_le_mul_right _ hk
   rw [Nat.succ_mul] at this
   omega)) _ rfl ks.length 0 (a_w d.rules d.rules[i] at_) (rdW d.rules b i at_).1.items e (L++[(⟨path,(i:Int),(at_:Int),0⟩:m_)]) (by omega) (by simp) (by rw [List.drop_zero]) (by rw [List.drop_zero];exact h.ch)
  rw [show (⟨d.rules⟩:e_)=d from rfl] at hloop
  rw [hloop]
  simp only [bd_some,el_inl,un2,List.drop_zero]
  generalize ixL (fun k p q=>ixW d.rules b k.toNat p q) (fun k p=>(rdW d.rules b k.toNat p).2.1) d.rules[i] path ks 0 (a_w d.rules d.rules[i] at_)=X
  rw [ix_ (k:=L.length) (by simp),bd_some]
  have Y:(L++[(⟨path,(i:Int),(at_:Int),0⟩:m_)]++X)[L.length]'(by simp)=(⟨path,(i:Int),(at_:Int),0⟩:m_):=by simp
  rw [Y,d_P (by simp),bd_some]
  unfold b_Z
  simp
def okF (d:e_)(b:List UInt8):Bool:=(d_6 d b).2.2==0
def b_0 (d:e_)(b:List UInt8):List m_:=if okF d b=true then ixW d.rules b (d.rules.length - 1) 0 ⟨[]⟩ else []
theorem j_Q (h:okF d b=true):a_4 d=true/\b.length<=400/\d.rules.length - 1<d.rules.length/\b_J d=((d.rules.length - 1:Nat):Int)/\(rdW d.rules b (d.rules.length - 1) 0).2.2=0/\(d_6 d b).1=(rdW d.rules b (d.rules.length - 1) 0).1/\d_6 d b=b_Z (rdW d.rules b (d.rules.length - 1) 0):=by
 unfold okF d_6 at h
 have h1:¬((b_w d (b_J d) b 0).2.2=0/\(b_w d (b_J d) b 0).2.1<(b.length:Int)):=by
  intro hc;rw [iP_ hc] at h;simp at h
 rw [iN_ h1] at h
 have h2:(b_w d (b_J d) b 0).2.2=0:=by simpa using h
 have h3:okV d b (b_J d) 0=true:=by
  rcases Bool.eq_false_or_eq_true (okV d b (b_J d) 0) with h | h
  ·exact h
  ·unfold b_w at h2;rw [h] at h2;simp at h2
 obtain ⟨hv,hb,i,p,hi,hp,hil,_⟩:=k_i h3;have hl:=c_D hv;have hroot:b_J d=((d.rules.length - 1:Nat):Int):=by unfold b_J;omega
 have e:b_w d (b_J d) b 0=b_Z (rdW d.rules b (d.rules.length - 1) 0):=by
  unfold b_w;rw [iP_ h3,hroot];rfl
 have G:d_6 d b=b_Z (rdW d.rules b (d.rules.length - 1) 0):=by unfold d_6;rw [iN_ h1,e]
 refine ⟨hv,hb,by omega,hroot,?_,?_,G⟩
 ·rw [e] at h2;exact h2
 ·rw [G];rfl
theorem n_C (hd:SmD d){n:Nat}(hn:500<=n):g_I n d b=some (okF d b):=by
 unfold g_I okF
 rw [t_Y hd hn];rfl
theorem s_4 (hd:SmD d){n:Nat}(hn:1000<=n):i_w n d b=some (b_0 d b,okF d b):=by
 unfold i_w b_0
 rw [n_C hd (by omega)]
 cases h:okF d b
 ·rfl
 ·obtain ⟨hv,hb,hlt,hroot,hok,_⟩:=j_Q h;have hl:=c_D hv
  rw [p_n hd,hroot]
  have:=s_2 hv hd hb (d.rules.length - 1) hlt n (by omega) 0 ⟨[]⟩ (by omega) hok (by simp;omega)
  rw [show (((0:Nat)):Int)=0 from rfl] at this
  simp only [bd_some,nT_,bF_,fF_]
  rw [this];rfl
theorem s_5 (hd:SmD d){n:Nat}(hn:1000<=n):i_z n d b=some (b_0 d b,okF d b):=by
 unfold i_z b_0
 rw [p_p hd (by omega)]
 cases h:okF d b
 ·have h2:(d_6 d b).2.2 ≠ 0:=by unfold okF at h;simpa using h
  generalize d_6 d b=x at h2
  show (if (x.2.2 != 0)=true then _ else _)=_
  rw [show (x.2.2 != 0)=true by simpa using h2];rfl
 ·obtain ⟨hv,hb,hlt,hroot,hok,G,hrf⟩:=j_Q h;have hl:=c_D hv
  rw [hrf]
  show (if ((rdW d.rules b (d.rules.length - 1) 0).2.2 != 0)=true then _ else _)=_
  rw [hok]
  simp only [bN_,bF_,fF_]
  rw [p_m hd,hroot,bd_some]
  have:=s_3 hv hd hb (d.rules.length - 1) hlt n (by omega) 0 ⟨[]⟩ [] (by omega) hok (by simp;omega) (by simp;omega)
  rw [show (((0:Nat)):Int)=0 from rfl] at this
  show bd2 (i_y n ⟨⟨d.rules⟩,b,[]⟩ ⟨[]⟩ ((d.rules.length - 1:Nat):Int) (rdW d.rules b (d.rules.length - 1) 0).1 0) _=_
  rw [this];rfl
end
end Go.Vw
