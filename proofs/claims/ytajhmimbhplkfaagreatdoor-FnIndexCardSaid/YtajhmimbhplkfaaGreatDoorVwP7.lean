
import Derived.Test.YtajhmimbhplkfaaGreatDoorVwP6
set_option linter.unusedVariables false
namespace Go.Vw
open Go.RowKit Dat
theorem j_m (rd:Int→Nat→RR) (k:Int) (p:Nat):(R_ rd [k] p).2=((rd k p).2.1,(rd k p).2.2):=by
 unfold R_
 by_cases h:(rd k p).2.2=0
 ·rw [iP_ h];simp [R_,h]
 ·rw [iN_ h]
section
variable {d:d_} {b:List UInt8}
theorem l_c {rec_:Z_→Int→Int→Option (T_×Int)} {ks:List Int} (rd:Int→Nat→RR) (L:Nat)
  (ih : ∀ k∈ks,∀ (ap:Int) (p:Nat),p≤L → ∃ ap',rec_ ⟨⟨d.rules⟩,b,ap⟩ k p=some (⟨((rd k p).2.1:Int),(rd k p).2.2⟩,ap')) (hle : ∀ k∈ks,∀ p,p≤L→(rd k p).2.1≤L) :
  ∀ m k (ap:Int) (p:Nat),k+m=ks.length→p≤L → ∃ ap',C_ (σ:=Int×Int×Int) (ρ:=T_×Int) (fun k3794=>un3 fun x3783 x3786 x3788=>bd (idx ks ((k3794:Nat):Int)) fun x3855=>bd2 (rec_ (⟨(⟨d.rules⟩:d_),b,x3783⟩:Z_) x3855 x3786) fun r3879 r3882=>if (r3879.code != 0)=true then some (.brk (r3882,r3879.at_,r3879.code)) else some (.next (r3882,r3879.at_,r3879.code))) m k (ap,(p:Int),0)=some (.inl (ap',((R_ rd (ks.drop k) p).2.1:Int),(R_ rd (ks.drop k) p).2.2))
 | 0,k,ap,p,hk,_=>by
  rw [List.drop_of_length_le (by omega)]
  exact ⟨ap,rfl⟩
 | m+1,k,ap,p,hk,hp=>by
  have hlt:k<ks.length:=by omega
  have hmem:=gE_ hlt
  rw [dC_ hlt]
  unfold C_ R_;obtain ⟨ap1,h1⟩:=ih ks[k] hmem ap p hp
  simp only [un3]
  rw [ix_ hlt,bd_some,h1]
  simp only [bd2_some]
  by_cases h0:(rd ks[k] p).2.2=0
  ·rw [show ((rd ks[k] p).2.2 != 0)=false by simpa using h0,iP_ h0]
   obtain ⟨ap2,h2⟩:=l_c rd L ih hle m (k+1) ap1 (rd ks[k] p).2.1 (by omega) (hle _ hmem p hp);refine ⟨ap2,?_⟩
   simp only [bF_,fF_]
   rw [h0,h2]
   by_cases h3:(R_ rd (ks.drop<|k+1) (rd ks[k] p).2.1).2.2=0
   ·rw [iP_ h3,h3]
   ·rw [iN_ h3]
  ·rw [show ((rd ks[k] p).2.2 != 0)=true by simpa using h0,iN_ h0]
   exact ⟨ap1,rfl⟩
theorem l_d {rec_:Z_→Int→Int→Option (T_×Int)} {ks:List Int} {kid:Int} (hkid:idx ks 1=some kid) (rd:Int→Nat→RR) (L:Nat)
  (ih : ∀ (ap:Int) (p:Nat),p≤L → ∃ ap',rec_ ⟨⟨d.rules⟩,b,ap⟩ kid p=some (⟨((rd kid p).2.1:Int),(rd kid p).2.2⟩,ap')) (hle : ∀ p,p≤L→(rd kid p).2.1≤L) :
  ∀ (c:Nat) (ap:Int) (p:Nat),p≤L→c≤40 → ∀ n,c+2≤n → ∃ x ap',a_7 (σ:=Int×Int×Int×Int) (ρ:=T_×Int) (un4 fun x307 x309 x312 x314=>bd (α:=Bool) (if (decide<|0<x307)=true then some (x314==0) else some false) (fun x339=>if x339=true then bd (idx ks 1) fun x439=>bd2 (rec_ (⟨(⟨d.rules⟩:d_),b,x309⟩:Z_) x439 x312) fun r478 r481=>some (.next (I_ x307 1,r481,r478.at_,r478.code)) else some (.brk (x307,x309,x312,x314)))) n ((c:Int),ap,(p:Int),0)=some (.inl (x,ap',((R_ rd (List.replicate c kid) p).2.1:Int),(R_ rd (List.replicate c kid) p).2.2))
 | 0,ap,p,hp,hc,n,hn=>by
  obtain ⟨m,rfl⟩ : ∃ m,n=m+1:=⟨n - 1,by omega⟩;exact ⟨0,ap,rfl⟩
 | c+1,ap,p,hp,hc,n,hn=>by
  obtain ⟨m,rfl⟩ : ∃ m,n=m+2:=⟨n - 2,by omega⟩;obtain ⟨ap1,h1⟩:=ih ap p hp
  rw [List.replicate_succ]
  unfold a_7 R_
  simp only [un4]
  rw [dT_ (show (0:Int)<((c+1:Nat):Int) by omega),hkid]
  simp only [fT_,bd_some,bQ_]
  rw [h1]
  simp only [bd2_some]
  rw [a_F (x:=((c+1:Nat):Int)) (by omega) (by omega),show ((c+1:Nat):Int) - 1=(c:Int) by omega]
  by_cases h0:(rd kid p).2.2=0
  ·rw [iP_ h0]
   obtain ⟨x,ap2,h2⟩:=l_d hkid rd L ih hle c ap1 (rd kid p).2.1 (hle p hp) (by omega) (m+1) (by omega);refine ⟨x,ap2,?_⟩
   simp only [hkid,bd_some] at h2
   rw [h0]
   rw [h2]
   by_cases h3:(R_ rd (List.replicate c kid) (rd kid p).2.1).2.2=0
   ·rw [iP_ h3,h3]
   ·rw [iN_ h3]
  ·rw [iN_ h0]
   refine ⟨(c:Int),ap1,?_⟩;unfold a_7
   simp only [un4]
   rw [show ((rd kid p).2.2==0)=false by simpa using h0]
   cases decide (0<(c:Int)) <;> rfl
theorem p_8 (hv:a_1 d=true) (hd:SmD d) (hb:b.length≤400) : ∀ (i:Nat),i<d.rules.length → ∀ n,3 * i+410≤n → ∀ at_,at_≤b.length → ∀ ap,∃ ap',l_A n ⟨d,b,ap⟩ i at_=some (⟨((rdW d.rules b i at_).2.1:Int),(rdW d.rules b i at_).2.2⟩,ap'):=by
 have hMX:=MXv;intro i
 induction i using Nat.strongRecOn with
 | _ i ih =>
  intro hi n hn at_ ha ap;have hlen:=(b_E hv).2;obtain ⟨m,rfl⟩ : ∃ m,n=m+3:=⟨n - 3,by omega⟩
  rw [d_T hv hi ha]
  have hr:=a_P hv hi;have hal:=d_R hr.kind;have hsm:=hd.each d.rules[i] (gE_ hi);have hidx:idx d.rules (i:Int)=some d.rules[i]:=ix_ hi;generalize hrr:d.rules[i]=r at *
  have hkk:=d_S hr.kind
  show ∃ ap',f_Z (m+2) (a_p<|m+2) ⟨d,b,ap⟩ i at_=_
  unfold f_Z rdB
  simp only
  rw [hidx,bd_some]
  have hle : ∀ k∈r.kids,∀ p,p≤b.length→p≤(rdW d.rules b k.toNat p).2.1∧(rdW d.rules b k.toNat p).2.1≤b.length:=fun k hk p hp=>by
   have:=hr.kids k hk;exact b_H hv k.toNat (by omega) p hp
  have hrec : ∀ q,m≤q → ∀ k∈r.kids,∀ (ap:Int) (p:Nat),p≤b.length → ∃ ap',(a_p q).impl_checker_value ⟨⟨d.rules⟩,b,ap⟩ k p=some (⟨((rdW d.rules b k.toNat p).2.1:Int),(rdW d.rules b k.toNat p).2.2⟩,ap'):=fun q hq k hk ap p hp=>by
   have:=hr.kids k hk;have h:=ih k.toNat (by omega) (by omega) q (by omega) p hp ap
   rw [show ((k.toNat:Nat):Int)=k by omega] at h
   exact h
  by_cases h1:r.kind=1
  ·rw [h1];simp only [bQ_,fT_]
   rw [h_7 hidx (f_m hr.kind h1) (by omega) ha]
   cases a_6 b r at_ <;> exact ⟨_,rfl⟩
  rw [show (r.kind==1)=false by simpa using h1]
  by_cases h2:r.kind=2
  ·rw [h2];simp only [bQ_,fT_,bF_,fF_]
   rw [o_x (by omega) ha hsm.bytes]
   exact ⟨_,rfl⟩
  rw [show (r.kind==2)=false by simpa using h2]
  by_cases h3:r.kind=3
  ·rw [h3];simp only [bQ_,fT_,bF_,fF_]
   have:=f_n hr.kind h3
   rw [f_k (by omega) ha (by omega) (by omega)]
   unfold a_B
   split <;> exact ⟨_,rfl⟩
  rw [show (r.kind==3)=false by simpa using h3]
  by_cases h4:r.kind=4
  ·rw [h4];simp only [bQ_,fT_,bF_,fF_]
   have hs:=f_o hr.kind h4;have hq:=b_F hs.1
   rw [b_s (by omega),bd_some,h_7 hq.1 hq.2 (by omega) ha]
   cases hi:a_6 b (L_ d.rules<|B_ r) at_ with
   | none=>exact ⟨_,rfl⟩
   | some num =>
    have hrg:=b_O hq.2 hi
    simp only [bd3_some,bN_,bF_,fF_]
    rw [f_k (by omega) (by omega) (by omega) (by omega)]
    unfold a_B
    split <;> exact ⟨_,rfl⟩
  rw [show (r.kind==4)=false by simpa using h4]
  by_cases h10:r.kind=10
  ·rw [h10];simp only [bQ_,fT_,bF_,fF_,show ((10:Int)==5)=false from rfl,show ((10:Int)==6)=false from rfl,show ((10:Int)==7)=false from rfl,show ((10:Int)==8)=false from rfl,show ((10:Int)==9)=false from rfl]
   have hb1:=j_d hr.kind h10
   rw [b_1 (by omega),bd_some,a_j (show 0<r.bytes.length by omega),k_M _ _ _ _ (by omega) ha (by omega)]
   cases c_e b at_ r.bytes[0] with
   | none=>exact ⟨_,rfl⟩
   | some x=>exact ⟨_,rfl⟩
  rw [show (r.kind==10)=false by simpa using h10]
  by_cases h5:r.kind=5
  ·rw [h5];simp only [bQ_,fT_,bF_,fF_]
   have hs:=c_T hr.kind h5;have hq:=b_F hs.1;have hmem:r.kids.getD 1 0∈r.kids:=b_G (by omega)
   rw [show (a_p<|m+2).impl_checker_array=g_0 (m+1) (a_p<|m+1) from rfl]
   unfold g_0
   simp only
   rw [b_s (by omega),bd_some,h_7 hq.1 hq.2 (by omega) ha]
   have hhd:W_ d.rules b r at_=(match a_6 b (L_ d.rules<|B_ r) at_ with | none=>.inl 1 | some n=>if 40<n then .inl 6 else .inr (0,List.replicate n.toNat<|r.kids.getD 1 0,at_+(L_ d.rules<|B_ r).size.toNat)):=by unfold W_;rw [h5];rfl
   rw [hhd]
   cases hi:a_6 b (L_ d.rules<|B_ r) at_ with
   | none=>exact ⟨_,rfl⟩
   | some num =>
    have hrg:=b_O hq.2 hi
    simp only [bd3_some,bQ_,fT_,bd_some]
    by_cases h40:40<num
    ·rw [dT_ h40,iP_ h40];exact ⟨_,rfl⟩
    ·rw [dF_ h40,iN_ h40]
     simp only [bF_,fF_]
     obtain ⟨x,ap',h⟩:=l_d (d:=d) (b:=b) (rec_:=(a_p<|m+1).impl_checker_value) (ks:=r.kids) (kid:=r.kids.getD 1 0) (by rw [f_r (by omega),a_j (by omega)]) (fun k p=>rdW d.rules b k.toNat p) b.length (fun ap p hp=>hrec (m+1) (by omega) _ hmem ap p hp) (fun p hp=>(hle _ hmem p hp).2) num.toNat (i_ (i_ ap 1) 1) (at_+(L_ d.rules<|B_ r).size.toNat) (by omega) (by omega) (m+1) (by omega)
     rw [show ((num.toNat:Nat):Int)=num by omega] at h
     rw [h]
     unfold a_E;generalize R_ (fun k p=>rdW d.rules b k.toNat p) (List.replicate num.toNat<|r.kids.getD 1 0) (at_+(L_ d.rules<|B_ r).size.toNat)=y
     rw [h5]
     refine ⟨ap',?_⟩
     by_cases h0:y.2.2=0
     ·rw [iP_ h0,h0];rfl
     ·rw [iN_ h0];rfl
  rw [show (r.kind==5)=false by simpa using h5]
  by_cases h6:r.kind=6
  ·rw [h6];simp only [bQ_,fT_,bF_,fF_]
   have hs:=d_Q hr.kind h6;obtain ⟨ap',h⟩:=l_c (d:=d) (b:=b) (rec_:=(a_p<|m+2).impl_checker_value) (ks:=r.kids) (fun k p=>rdW d.rules b k.toNat p) b.length (fun k hk ap p hp=>hrec (m+2) (by omega) k hk ap p hp) (fun k hk p hp=>(hle k hk p hp).2) r.kids.length 0 (i_ ap 1) at_ (by omega) ha
   rw [h]
   rw [show W_ d.rules b r at_ = .inr (0,r.kids,at_) by unfold W_;rw [h6];rfl]
   simp only
   unfold a_E
   rw [List.drop_zero]
   generalize R_ (fun k p=>rdW d.rules b k.toNat p) r.kids at_=y
   rw [h6]
   refine ⟨ap',?_⟩
   by_cases h0:y.2.2=0
   ·rw [iP_ h0,h0];rfl
   ·rw [iN_ h0];rfl
  rw [show (r.kind==6)=false by simpa using h6]
  by_cases h7:r.kind=7
  ·rw [h7];simp only [bQ_,fT_,bF_,fF_]
   have hs:=d_i hr.kind h7;have hq:=b_F hs.1
   rw [show (a_p<|m+2).impl_checker_choice=g_1 (m+1) (a_p<|m+1) from rfl]
   unfold g_1
   simp only
   rw [b_s (by omega),bd_some,h_7 hq.1 hq.2 (by omega) ha]
   have hhd:W_ d.rules b r at_=(match a_6 b (L_ d.rules<|B_ r) at_ with | none=>.inl 1 | some n=>match a_V r.tags n with | none=>.inl 3 | some k=>.inr (n,[r.kids.getD (k+1) 0],at_+(L_ d.rules<|B_ r).size.toNat)):=by unfold W_;rw [h7];rfl
   rw [hhd]
   cases hi:a_6 b (L_ d.rules<|B_ r) at_ with
   | none=>exact ⟨_,rfl⟩
   | some num =>
    have hrg:=b_O hq.2 hi
    simp only [bd3_some,bN_,bF_,fF_]
    cases ht:a_V r.tags num with
    | none =>
     have htn:=l_9 ht
     rw [c_x (fun _=>()) (n:=r.tags.length) (fun j hj=>by
      have:=htn j hj
      rw [a_j hj] at this
      rw [ix_ hj,bd_some,show (r.tags[j]==num)=false by simpa using this];rfl)]
     exact ⟨_,rfl⟩
    | some k =>
     obtain ⟨htl,hte,htb⟩:=l_8 ht;have hmem:r.kids.getD (k+1) 0∈r.kids:=b_G (by omega);obtain ⟨ap',h⟩:=hrec (m+1) (by omega) _ hmem (i_ (i_ ap 1) 1) (at_+(L_ d.rules<|B_ r).size.toNat) (by omega)
     rw [h_f (fun _=>()) (n:=r.tags.length) (j0:=k) (r:=(⟨((rdW d.rules b (r.kids.getD (k+1) 0).toNat (at_+(L_ d.rules (B_ r)).size.toNat)).2.1:Int),(rdW d.rules b (r.kids.getD (k+1) 0).toNat (at_+(L_ d.rules (B_ r)).size.toNat)).2.2⟩,ap')) htl (fun j hj=>by
      have:=htb j hj
      rw [a_j (show j<r.tags.length by omega)] at this
      rw [ix_ (show j<r.tags.length by omega),bd_some,show (r.tags[j]==num)=false by simpa using this];rfl) (by
      rw [a_j htl] at hte
      rw [ix_ htl,bd_some,show (r.tags[k]==num)=true by simpa using hte,iP_ rfl,ix_ (show k+1<r.kids.length by omega),bd_some,← a_j (x:=0) (show k+1<r.kids.length by omega),h]
      rfl)]
     simp only [bd_some,el_inr]
     unfold a_E;have ho:=j_m (fun k p=>rdW d.rules b k.toNat p) (r.kids.getD (k+1) 0)<|at_+(L_ d.rules<|B_ r).size.toNat;generalize R_ (fun k p=>rdW d.rules b k.toNat p) [r.kids.getD (k+1) 0] (at_+(L_ d.rules<|B_ r).size.toNat)=y at ho
     rw [h7,ho]
     refine ⟨ap',?_⟩
     by_cases h0:(rdW d.rules b (r.kids.getD (k+1) 0).toNat (at_+(L_ d.rules<|B_ r).size.toNat)).2.2=0
     ·rw [iP_ h0,h0];rfl
     ·rw [iN_ h0];rfl
  rw [show (r.kind==7)=false by simpa using h7]
  by_cases h8:r.kind=8
  ·rw [h8];simp only [bQ_,fT_,bF_,fF_]
   have hs:=c_v hr.kind<|.inl h8;have hmem:r.kids.getD 0 0∈r.kids:=b_G (by omega)
   rw [show (a_p<|m+2).impl_checker_option=g_2 (m+1) (a_p<|m+1) from rfl]
   unfold g_2
   simp only
   have hhd:W_ d.rules b r at_=(match b[at_]? with | none=>.inl 1 | some c=>if 1<byteI c then .inl 4 else .inr (0,List.replicate c.toNat<|r.kids.getD 0 0,at_+1)):=by unfold W_;rw [h8];rfl
   rw [hhd,f_k (by omega) ha (by omega) (by omega)]
   by_cases hlt:at_<b.length
   ·rw [iN_ (show ¬ (b.length:Int) - at_<1 by omega),gG_ hlt]
    simp only [bd_some,bN_,bF_,fF_]
    rw [ix_ hlt]
    simp only [bd_some]
    by_cases hz:byteI b[at_]=0
    ·rw [show (byteI b[at_]==byteI (0:UInt8))=true by rw [beq_iff_eq];exact hz,iN_ (show ¬ 1<byteI b[at_] by rw [hz];omega)]
     rw [show b[at_].toNat=0 by unfold byteI at hz;omega]
     unfold a_E
     rw [h8]
     exact ⟨_,rfl⟩
    ·rw [show (byteI b[at_]==byteI (0:UInt8))=false by rw [beq_eq_false_iff_ne];exact hz]
     simp only [bF_,fF_]
     by_cases hc:1<byteI b[at_]
     ·rw [iP_ hc,dT_ (show byteI (1:UInt8)<byteI b[at_] from hc)];exact ⟨_,rfl⟩
     ·rw [iN_ hc,dF_ (show ¬ byteI (1:UInt8)<byteI b[at_] from hc)]
      simp only [bF_,fF_]
      rw [show b[at_].toNat=1 by unfold byteI at hz hc;omega]
      obtain ⟨ap',h⟩:=hrec (m+1) (by omega) _ hmem (i_ ap 1) (at_+1) (by omega)
      rw [b_1 (by omega),bd_some,← a_j (x:=0) (show 0<r.kids.length by omega)]
      rw [show (1:Int).toNat=1 from rfl,h]
      unfold a_E;have ho:=j_m (fun k p=>rdW d.rules b k.toNat p) (r.kids.getD 0 0)<|at_+1
      rw [show List.replicate 1 (r.kids.getD 0 0)=[r.kids.getD 0 0] from rfl]
      generalize R_ (fun k p=>rdW d.rules b k.toNat p) [r.kids.getD 0 0] (at_+1)=y at ho
      rw [h8,ho]
      refine ⟨ap',?_⟩
      by_cases h0:(rdW d.rules b (r.kids.getD 0 0).toNat (at_+1)).2.2=0
      ·rw [iP_ h0,h0];rfl
      ·rw [iN_ h0];rfl
   ·rw [iP_ (show (b.length:Int) - at_<1 by omega),gN_ (by omega)];exact ⟨_,rfl⟩
  rw [show (r.kind==8)=false by simpa using h8]
  have h9:r.kind=9:=by omega
  rw [h9];simp only [bQ_,fT_,bF_,fF_]
  have hs:=c_v hr.kind<|.inr h9;have hmem:r.kids.getD 0 0∈r.kids:=b_G (by omega)
  rw [show (a_p<|m+2).impl_checker_checked=g_6 (m+1) (a_p<|m+1) from rfl]
  unfold g_6
  simp only
  rw [show W_ d.rules b r at_ = .inr (0,[r.kids.getD 0 0],at_) by unfold W_;rw [h9];rfl]
  obtain ⟨ap',h⟩:=hrec (m+1) (by omega) _ hmem (i_ ap 1) at_ ha
  rw [b_1 (by omega),bd_some,← a_j (x:=0) (show 0<r.kids.length by omega),h]
  simp only
  have hx:=hle _ hmem at_ ha;have ho:=j_m (fun k p=>rdW d.rules b k.toNat p) (r.kids.getD 0 0) at_;unfold a_E;generalize R_ (fun k p=>rdW d.rules b k.toNat p) [r.kids.getD 0 0] at_=y at ho
  rw [h9,ho]
  generalize rdW d.rules b (r.kids.getD 0 0).toNat at_=x at hx
  simp only [bd2_some]
  by_cases h0:x.2.2=0
  ·rw [iP_ h0,show (x.2.2 != 0)=false by simpa using h0]
   simp only [bF_,fF_,bQ_,fT_]
   rw [f_k (by omega) hx.2 (by omega) (by omega)]
   by_cases hlt:x.2.1<b.length
   ·rw [iN_ (show ¬ (b.length:Int) - x.2.1<1 by omega),gG_ hlt]
    simp only [bd_some,bQ_,fT_]
    rw [ix_ hlt,bd_some,d_P hx.1 (by omega),bd_some,k_J _ (by rw [d_h (by omega)];omega),bd_some]
    by_cases hsum:byteI b[x.2.1]=b_z (b_6 b at_ x.2.1)
    ·rw [show (byteI b[x.2.1] != b_z (b_6 b at_ x.2.1))=false by simpa using hsum,iP_ hsum];exact ⟨_,rfl⟩
    ·rw [show (byteI b[x.2.1] != b_z (b_6 b at_ x.2.1))=true by simpa using hsum,iN_ hsum];exact ⟨_,rfl⟩
   ·rw [iP_ (show (b.length:Int) - x.2.1<1 by omega),gN_ (by omega)];exact ⟨_,rfl⟩
  ·rw [iN_ h0,show (x.2.2 != 0)=true by simpa using h0]
   exact ⟨_,rfl⟩
end
end Go.Vw
