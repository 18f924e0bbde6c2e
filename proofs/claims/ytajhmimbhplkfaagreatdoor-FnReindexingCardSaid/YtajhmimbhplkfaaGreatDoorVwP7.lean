
import Derived.Test.YtajhmimbhplkfaaGreatDoorVwP6
set_option linter.unusedVariables false
namespace Go.Vw
open Go.RowKit Dat
theorem j_e (rd:Int→Nat→RR) (k:Int) (p:Nat):(S_ rd [k] p).2=((rd k p).2.1,(rd k p).2.2):=by
 unfold S_
 by_cases h:(rd k p).2.2=0
 ·rw [iP_ h];simp [S_,h]
 ·rw [iN_ h]
section
variable {d:d_} {b:List UInt8}
theorem l_2 {rec_:Z_→Int→Int→Option (T_×Int)} {ks:List Int} (rd:Int→Nat→RR) (L:Nat)
  (ih : ∀ k∈ks,∀ (ap:Int) (p:Nat),p≤L → ∃ ap',rec_ ⟨⟨d.rules⟩,b,ap⟩ k p=some (⟨((rd k p).2.1:Int),(rd k p).2.2⟩,ap')) (hle : ∀ k∈ks,∀ p,p≤L→(rd k p).2.1≤L) :
  ∀ m k (ap:Int) (p:Nat),k+m=ks.length→p≤L → ∃ ap',C_ (σ:=Int×Int×Int) (ρ:=T_×Int) (fun k3794=>un3 fun x3783 x3786 x3788=>bd (idx ks ((k3794:Nat):Int)) fun x3855=>bd2 (rec_ (⟨(⟨d.rules⟩:d_),b,x3783⟩:Z_) x3855 x3786) fun r3879 r3882=>if (r3879.code != 0)=true then some (.brk (r3882,r3879.at_,r3879.code)) else some (.next (r3882,r3879.at_,r3879.code))) m k (ap,(p:Int),0)=some (.inl (ap',((S_ rd (ks.drop k) p).2.1:Int),(S_ rd (ks.drop k) p).2.2))
 | 0,k,ap,p,hk,_=>by
  rw [List.drop_of_length_le (by omega)]
  exact ⟨ap,rfl⟩
 | m+1,k,ap,p,hk,hp=>by
  have hlt:k<ks.length:=by omega
  have hmem:=gE_ hlt
  rw [dC_ hlt]
  unfold C_ S_;obtain ⟨ap1,h1⟩:=ih ks[k] hmem ap p hp
  simp only [un3]
  rw [ix_ hlt,bd_some,h1]
  simp only [bd2_some]
  by_cases h0:(rd ks[k] p).2.2=0
  ·rw [show ((rd ks[k] p).2.2 != 0)=false by simpa using h0,iP_ h0]
   obtain ⟨ap2,h2⟩:=l_2 rd L ih hle m (k+1) ap1 (rd ks[k] p).2.1 (by omega) (hle _ hmem p hp);refine ⟨ap2,?_⟩
   simp only [bF_,fF_]
   rw [h0,h2]
   by_cases h3:(S_ rd (ks.drop<|k+1) (rd ks[k] p).2.1).2.2=0
   ·rw [iP_ h3,h3]
   ·rw [iN_ h3]
  ·rw [show ((rd ks[k] p).2.2 != 0)=true by simpa using h0,iN_ h0]
   exact ⟨ap1,rfl⟩
theorem l_3 {rec_:Z_→Int→Int→Option (T_×Int)} {ks:List Int} {kid:Int} (hkid:idx ks 1=some kid) (rd:Int→Nat→RR) (L:Nat)
  (ih : ∀ (ap:Int) (p:Nat),p≤L → ∃ ap',rec_ ⟨⟨d.rules⟩,b,ap⟩ kid p=some (⟨((rd kid p).2.1:Int),(rd kid p).2.2⟩,ap')) (hle : ∀ p,p≤L→(rd kid p).2.1≤L) :
  ∀ (c:Nat) (ap:Int) (p:Nat),p≤L→c≤40 → ∀ n,c+2≤n → ∃ x ap',a_f (σ:=Int×Int×Int×Int) (ρ:=T_×Int) (un4 fun x307 x309 x312 x314=>bd (α:=Bool) (if (decide<|0<x307)=true then some (x314==0) else some false) (fun x339=>if x339=true then bd (idx ks 1) fun x439=>bd2 (rec_ (⟨(⟨d.rules⟩:d_),b,x309⟩:Z_) x439 x312) fun r478 r481=>some (.next (I_ x307 1,r481,r478.at_,r478.code)) else some (.brk (x307,x309,x312,x314)))) n ((c:Int),ap,(p:Int),0)=some (.inl (x,ap',((S_ rd (List.replicate c kid) p).2.1:Int),(S_ rd (List.replicate c kid) p).2.2))
 | 0,ap,p,hp,hc,n,hn=>by
  obtain ⟨m,rfl⟩ : ∃ m,n=m+1:=⟨n - 1,by omega⟩;exact ⟨0,ap,rfl⟩
 | c+1,ap,p,hp,hc,n,hn=>by
  obtain ⟨m,rfl⟩ : ∃ m,n=m+2:=⟨n - 2,by omega⟩;obtain ⟨ap1,h1⟩:=ih ap p hp
  rw [List.replicate_succ]
  unfold a_f S_
  simp only [un4]
  rw [dT_ (show (0:Int)<((c+1:Nat):Int) by omega),hkid]
  simp only [fT_,bd_some,bQ_]
  rw [h1]
  simp only [bd2_some]
  rw [a_C (x:=((c+1:Nat):Int)) (by omega) (by omega),show ((c+1:Nat):Int) - 1=(c:Int) by omega]
  by_cases h0:(rd kid p).2.2=0
  ·rw [iP_ h0]
   obtain ⟨x,ap2,h2⟩:=l_3 hkid rd L ih hle c ap1 (rd kid p).2.1 (hle p hp) (by omega) (m+1) (by omega);refine ⟨x,ap2,?_⟩
   simp only [hkid,bd_some] at h2
   rw [h0]
   rw [h2]
   by_cases h3:(S_ rd (List.replicate c kid) (rd kid p).2.1).2.2=0
   ·rw [iP_ h3,h3]
   ·rw [iN_ h3]
  ·rw [iN_ h0]
   refine ⟨(c:Int),ap1,?_⟩;unfold a_f
   simp only [un4]
   rw [show ((rd kid p).2.2==0)=false by simpa using h0]
   cases decide (0<(c:Int)) <;> rfl
theorem o_w (hv:a_6 d=true) (hd:SmD d) (hb:b.length≤400) : ∀ (i:Nat),i<d.rules.length → ∀ n,3 * i+410≤n → ∀ at_,at_≤b.length → ∀ ap,∃ ap',l_i n ⟨d,b,ap⟩ i at_=some (⟨((rdW d.rules b i at_).2.1:Int),(rdW d.rules b i at_).2.2⟩,ap'):=by
 have hMX:=MXv;intro i
 induction i using Nat.strongRecOn with
 | _ i ih =>
  intro hi n hn at_ ha ap;have hlen:=(c_5 hv).2;obtain ⟨m,rfl⟩ : ∃ m,n=m+3:=⟨n - 3,by omega⟩
  rw [e_i hv hi ha]
  have hr:=b_m hv hi;have hal:=e_h hr.kind;have hsm:=hd.each d.rules[i] (gE_ hi);have hidx:idx d.rules (i:Int)=some d.rules[i]:=ix_ hi;generalize hrr:d.rules[i]=r at *
  have hkk:=f_b hr.kind
  show ∃ ap',f_S (m+2) (a_r<|m+2) ⟨d,b,ap⟩ i at_=_
  unfold f_S rdB
  simp only
  rw [hidx,bd_some]
  have hle : ∀ k∈r.kids,∀ p,p≤b.length→p≤(rdW d.rules b k.toNat p).2.1∧(rdW d.rules b k.toNat p).2.1≤b.length:=fun k hk p hp=>by
   have:=hr.kids k hk;exact c_6 hv k.toNat (by omega) p hp
  have hrec : ∀ q,m≤q → ∀ k∈r.kids,∀ (ap:Int) (p:Nat),p≤b.length → ∃ ap',(a_r q).impl_checker_value ⟨⟨d.rules⟩,b,ap⟩ k p=some (⟨((rdW d.rules b k.toNat p).2.1:Int),(rdW d.rules b k.toNat p).2.2⟩,ap'):=fun q hq k hk ap p hp=>by
   have:=hr.kids k hk;have h:=ih k.toNat (by omega) (by omega) q (by omega) p hp ap
   rw [show ((k.toNat:Nat):Int)=k by omega] at h
   exact h
  by_cases h1:r.kind=1
  ·rw [h1];simp only [bQ_,fT_]
   rw [h_4 hidx (f_8 hr.kind h1) (by omega) ha]
   cases a_7 b r at_ <;> exact ⟨_,rfl⟩
  rw [show (r.kind==1)=false by simpa using h1]
  by_cases h2:r.kind=2
  ·rw [h2];simp only [bQ_,fT_,bF_,fF_]
   rw [n_Z (by omega) ha hsm.bytes]
   exact ⟨_,rfl⟩
  rw [show (r.kind==2)=false by simpa using h2]
  by_cases h3:r.kind=3
  ·rw [h3];simp only [bQ_,fT_,bF_,fF_]
   have:=f_9 hr.kind h3
   rw [f_6 (by omega) ha (by omega) (by omega)]
   unfold a_G
   split <;> exact ⟨_,rfl⟩
  rw [show (r.kind==3)=false by simpa using h3]
  by_cases h4:r.kind=4
  ·rw [h4];simp only [bQ_,fT_,bF_,fF_]
   have hs:=f_a hr.kind h4;have hq:=b_H hs.1
   rw [b_s (by omega),bd_some,h_4 hq.1 hq.2 (by omega) ha]
   cases hi:a_7 b (N_ d.rules<|E_ r) at_ with
   | none=>exact ⟨_,rfl⟩
   | some num =>
    have hrg:=b_R hq.2 hi
    simp only [bd3_some,bN_,bF_,fF_]
    rw [f_6 (by omega) (by omega) (by omega) (by omega)]
    unfold a_G
    split <;> exact ⟨_,rfl⟩
  rw [show (r.kind==4)=false by simpa using h4]
  by_cases h10:r.kind=10
  ·rw [h10];simp only [bQ_,fT_,bF_,fF_,show ((10:Int)==5)=false from rfl,show ((10:Int)==6)=false from rfl,show ((10:Int)==7)=false from rfl,show ((10:Int)==8)=false from rfl,show ((10:Int)==9)=false from rfl]
   have hb1:=j_4 hr.kind h10
   rw [b_6 (by omega),bd_some,a_v (show 0<r.bytes.length by omega),k_E _ _ _ _ (by omega) ha (by omega)]
   cases c_g b at_ r.bytes[0] with
   | none=>exact ⟨_,rfl⟩
   | some x=>exact ⟨_,rfl⟩
  rw [show (r.kind==10)=false by simpa using h10]
  by_cases h5:r.kind=5
  ·rw [h5];simp only [bQ_,fT_,bF_,fF_]
   have hs:=d_b hr.kind h5;have hq:=b_H hs.1;have hmem:r.kids.getD 1 0∈r.kids:=b_A (by omega)
   rw [show (a_r<|m+2).impl_checker_array=f_T (m+1) (a_r<|m+1) from rfl]
   unfold f_T
   simp only
   rw [b_s (by omega),bd_some,h_4 hq.1 hq.2 (by omega) ha]
   have hhd:a_a d.rules b r at_=(match a_7 b (N_ d.rules<|E_ r) at_ with | none=>.inl 1 | some n=>if 40<n then .inl 6 else .inr (0,List.replicate n.toNat<|r.kids.getD 1 0,at_+(N_ d.rules<|E_ r).size.toNat)):=by unfold a_a;rw [h5];rfl
   rw [hhd]
   cases hi:a_7 b (N_ d.rules<|E_ r) at_ with
   | none=>exact ⟨_,rfl⟩
   | some num =>
    have hrg:=b_R hq.2 hi
    simp only [bd3_some,bQ_,fT_,bd_some]
    by_cases h40:40<num
    ·rw [dT_ h40,iP_ h40];exact ⟨_,rfl⟩
    ·rw [dF_ h40,iN_ h40]
     simp only [bF_,fF_]
     obtain ⟨x,ap',h⟩:=l_3 (d:=d) (b:=b) (rec_:=(a_r<|m+1).impl_checker_value) (ks:=r.kids) (kid:=r.kids.getD 1 0) (by rw [f_g (by omega),a_v (by omega)]) (fun k p=>rdW d.rules b k.toNat p) b.length (fun ap p hp=>hrec (m+1) (by omega) _ hmem ap p hp) (fun p hp=>(hle _ hmem p hp).2) num.toNat (j_ (j_ ap 1) 1) (at_+(N_ d.rules<|E_ r).size.toNat) (by omega) (by omega) (m+1) (by omega)
     rw [show ((num.toNat:Nat):Int)=num by omega] at h
     rw [h]
     unfold a_O;generalize S_ (fun k p=>rdW d.rules b k.toNat p) (List.replicate num.toNat<|r.kids.getD 1 0) (at_+(N_ d.rules<|E_ r).size.toNat)=y
     rw [h5]
     refine ⟨ap',?_⟩
     by_cases h0:y.2.2=0
     ·rw [iP_ h0,h0];rfl
     ·rw [iN_ h0];rfl
  rw [show (r.kind==5)=false by simpa using h5]
  by_cases h6:r.kind=6
  ·rw [h6];simp only [bQ_,fT_,bF_,fF_]
   have hs:=e_g hr.kind h6;obtain ⟨ap',h⟩:=l_2 (d:=d) (b:=b) (rec_:=(a_r<|m+2).impl_checker_value) (ks:=r.kids) (fun k p=>rdW d.rules b k.toNat p) b.length (fun k hk ap p hp=>hrec (m+2) (by omega) k hk ap p hp) (fun k hk p hp=>(hle k hk p hp).2) r.kids.length 0 (j_ ap 1) at_ (by omega) ha
   rw [h]
   rw [show a_a d.rules b r at_ = .inr (0,r.kids,at_) by unfold a_a;rw [h6];rfl]
   simp only
   unfold a_O
   rw [List.drop_zero]
   generalize S_ (fun k p=>rdW d.rules b k.toNat p) r.kids at_=y
   rw [h6]
   refine ⟨ap',?_⟩
   by_cases h0:y.2.2=0
   ·rw [iP_ h0,h0];rfl
   ·rw [iN_ h0];rfl
  rw [show (r.kind==6)=false by simpa using h6]
  by_cases h7:r.kind=7
  ·rw [h7];simp only [bQ_,fT_,bF_,fF_]
   have hs:=d_H hr.kind h7;have hq:=b_H hs.1
   rw [show (a_r<|m+2).impl_checker_choice=f_U (m+1) (a_r<|m+1) from rfl]
   unfold f_U
   simp only
   rw [b_s (by omega),bd_some,h_4 hq.1 hq.2 (by omega) ha]
   have hhd:a_a d.rules b r at_=(match a_7 b (N_ d.rules<|E_ r) at_ with | none=>.inl 1 | some n=>match a_Y r.tags n with | none=>.inl 3 | some k=>.inr (n,[r.kids.getD (k+1) 0],at_+(N_ d.rules<|E_ r).size.toNat)):=by unfold a_a;rw [h7];rfl
   rw [hhd]
   cases hi:a_7 b (N_ d.rules<|E_ r) at_ with
   | none=>exact ⟨_,rfl⟩
   | some num =>
    have hrg:=b_R hq.2 hi
    simp only [bd3_some,bN_,bF_,fF_]
    cases ht:a_Y r.tags num with
    | none =>
     have htn:=k_Z ht
     rw [c_i (fun _=>()) (n:=r.tags.length) (fun j hj=>by
      have:=htn j hj
      rw [a_v hj] at this
      rw [ix_ hj,bd_some,show (r.tags[j]==num)=false by simpa using this];rfl)]
     exact ⟨_,rfl⟩
    | some k =>
     obtain ⟨htl,hte,htb⟩:=k_Y ht;have hmem:r.kids.getD (k+1) 0∈r.kids:=b_A (by omega);obtain ⟨ap',h⟩:=hrec (m+1) (by omega) _ hmem (j_ (j_ ap 1) 1) (at_+(N_ d.rules<|E_ r).size.toNat) (by omega)
     rw [j_m (fun _=>()) (n:=r.tags.length) (j0:=k) (r:=(⟨((rdW d.rules b (r.kids.getD (k+1) 0).toNat (at_+(N_ d.rules (E_ r)).size.toNat)).2.1:Int),(rdW d.rules b (r.kids.getD (k+1) 0).toNat (at_+(N_ d.rules (E_ r)).size.toNat)).2.2⟩,ap')) htl (fun j hj=>by
      have:=htb j hj
      rw [a_v (show j<r.tags.length by omega)] at this
      rw [ix_ (show j<r.tags.length by omega),bd_some,show (r.tags[j]==num)=false by simpa using this];rfl) (by
      rw [a_v htl] at hte
      rw [ix_ htl,bd_some,show (r.tags[k]==num)=true by simpa using hte,iP_ rfl,ix_ (show k+1<r.kids.length by omega),bd_some,← a_v (x:=0) (show k+1<r.kids.length by omega),h]
      rfl)]
     simp only [bd_some,el_inr]
     unfold a_O;have ho:=j_e (fun k p=>rdW d.rules b k.toNat p) (r.kids.getD (k+1) 0)<|at_+(N_ d.rules<|E_ r).size.toNat;generalize S_ (fun k p=>rdW d.rules b k.toNat p) [r.kids.getD (k+1) 0] (at_+(N_ d.rules<|E_ r).size.toNat)=y at ho
     rw [h7,ho]
     refine ⟨ap',?_⟩
     by_cases h0:(rdW d.rules b (r.kids.getD (k+1) 0).toNat (at_+(N_ d.rules<|E_ r).size.toNat)).2.2=0
     ·rw [iP_ h0,h0];rfl
     ·rw [iN_ h0];rfl
  rw [show (r.kind==7)=false by simpa using h7]
  by_cases h8:r.kind=8
  ·rw [h8];simp only [bQ_,fT_,bF_,fF_]
   have hs:=c_x hr.kind<|.inl h8;have hmem:r.kids.getD 0 0∈r.kids:=b_A (by omega)
   rw [show (a_r<|m+2).impl_checker_option=f_V (m+1) (a_r<|m+1) from rfl]
   unfold f_V
   simp only
   have hhd:a_a d.rules b r at_=(match b[at_]? with | none=>.inl 1 | some c=>if 1<byteI c then .inl 4 else .inr (0,List.replicate c.toNat<|r.kids.getD 0 0,at_+1)):=by unfold a_a;rw [h8];rfl
   rw [hhd,f_6 (by omega) ha (by omega) (by omega)]
   by_cases hlt:at_<b.length
   ·rw [iN_ (show ¬ (b.length:Int) - at_<1 by omega),gG_ hlt]
    simp only [bd_some,bN_,bF_,fF_]
    rw [ix_ hlt]
    simp only [bd_some]
    by_cases hz:byteI b[at_]=0
    ·rw [show (byteI b[at_]==byteI (0:UInt8))=true by rw [beq_iff_eq];exact hz,iN_ (show ¬ 1<byteI b[at_] by rw [hz];omega)]
     rw [show b[at_].toNat=0 by unfold byteI at hz;omega]
     unfold a_O
     rw [h8]
     exact ⟨_,rfl⟩
    ·rw [show (byteI b[at_]==byteI (0:UInt8))=false by rw [beq_eq_false_iff_ne];exact hz]
     simp only [bF_,fF_]
     by_cases hc:1<byteI b[at_]
     ·rw [iP_ hc,dT_ (show byteI (1:UInt8)<byteI b[at_] from hc)];exact ⟨_,rfl⟩
     ·rw [iN_ hc,dF_ (show ¬ byteI (1:UInt8)<byteI b[at_] from hc)]
      simp only [bF_,fF_]
      rw [show b[at_].toNat=1 by unfold byteI at hz hc;omega]
      obtain ⟨ap',h⟩:=hrec (m+1) (by omega) _ hmem (j_ ap 1) (at_+1) (by omega)
      rw [b_6 (by omega),bd_some,← a_v (x:=0) (show 0<r.kids.length by omega)]
      rw [show (1:Int).toNat=1 from rfl,h]
      unfold a_O;have ho:=j_e (fun k p=>rdW d.rules b k.toNat p) (r.kids.getD 0 0)<|at_+1
      rw [show List.replicate 1 (r.kids.getD 0 0)=[r.kids.getD 0 0] from rfl]
      generalize S_ (fun k p=>rdW d.rules b k.toNat p) [r.kids.getD 0 0] (at_+1)=y at ho
      rw [h8,ho]
      refine ⟨ap',?_⟩
      by_cases h0:(rdW d.rules b (r.kids.getD 0 0).toNat (at_+1)).2.2=0
      ·rw [iP_ h0,h0];rfl
      ·rw [iN_ h0];rfl
   ·rw [iP_ (show (b.length:Int) - at_<1 by omega),gN_ (by omega)];exact ⟨_,rfl⟩
  rw [show (r.kind==8)=false by simpa using h8]
  have h9:r.kind=9:=by omega
  rw [h9];simp only [bQ_,fT_,bF_,fF_]
  have hs:=c_x hr.kind<|.inr h9;have hmem:r.kids.getD 0 0∈r.kids:=b_A (by omega)
  rw [show (a_r<|m+2).impl_checker_checked=f_W (m+1) (a_r<|m+1) from rfl]
  unfold f_W
  simp only
  rw [show a_a d.rules b r at_ = .inr (0,[r.kids.getD 0 0],at_) by unfold a_a;rw [h9];rfl]
  obtain ⟨ap',h⟩:=hrec (m+1) (by omega) _ hmem (j_ ap 1) at_ ha
  rw [b_6 (by omega),bd_some,← a_v (x:=0) (show 0<r.kids.length by omega),h]
  simp only
  have hx:=hle _ hmem at_ ha;have ho:=j_e (fun k p=>rdW d.rules b k.toNat p) (r.kids.getD 0 0) at_;unfold a_O;generalize S_ (fun k p=>rdW d.rules b k.toNat p) [r.kids.getD 0 0] at_=y at ho
  rw [h9,ho]
  generalize rdW d.rules b (r.kids.getD 0 0).toNat at_=x at hx
  simp only [bd2_some]
  by_cases h0:x.2.2=0
  ·rw [iP_ h0,show (x.2.2 != 0)=false by simpa using h0]
   simp only [bF_,fF_,bQ_,fT_]
   rw [f_6 (by omega) hx.2 (by omega) (by omega)]
   by_cases hlt:x.2.1<b.length
   ·rw [iN_ (show ¬ (b.length:Int) - x.2.1<1 by omega),gG_ hlt]
    simp only [bd_some,bQ_,fT_]
    rw [ix_ hlt,bd_some,d_F hx.1 (by omega),bd_some,k_B _ (by rw [d_a (by omega)];omega),bd_some]
    by_cases hsum:byteI b[x.2.1]=b_z (b_8 b at_ x.2.1)
    ·rw [show (byteI b[x.2.1] != b_z (b_8 b at_ x.2.1))=false by simpa using hsum,iP_ hsum];exact ⟨_,rfl⟩
    ·rw [show (byteI b[x.2.1] != b_z (b_8 b at_ x.2.1))=true by simpa using hsum,iN_ hsum];exact ⟨_,rfl⟩
   ·rw [iP_ (show (b.length:Int) - x.2.1<1 by omega),gN_ (by omega)];exact ⟨_,rfl⟩
  ·rw [iN_ h0,show (x.2.2 != 0)=true by simpa using h0]
   exact ⟨_,rfl⟩
end
end Go.Vw
