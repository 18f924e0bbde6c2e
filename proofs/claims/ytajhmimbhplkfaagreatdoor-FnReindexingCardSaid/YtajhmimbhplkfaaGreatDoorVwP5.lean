
import Derived.Test.YtajhmimbhplkfaaGreatDoorVwP4
set_option linter.unusedVariables false
namespace Go.Vw
open Go.RowKit Dat
theorem j_7 {ρ:Type} (rd:Int→Nat→RR) (ks:List Int) (L:Nat) (er:Nat→Nat→Int→ρ) (body:Nat→Int×List Val→Option (Out (Int×List Val) ρ))
  (hbody : ∀ k (hk:k<ks.length) (p:Nat) vs,p≤L→vs.length≤k→body k ((p:Int),vs)=some (if (rd ks[k] p).2.2=0 then .next (((rd ks[k] p).2.1:Int),vs++[(rd ks[k] p).1]) else .ret (er p (rd ks[k] p).2.1 (rd ks[k] p).2.2)))
  (hle : ∀ k∈ks,∀ p,p≤L→(rd k p).2.1≤L) : ∀ m k (p:Nat) vs,k+m=ks.length→p≤L→vs.length≤k →
  ∃ pe,C_ body m k ((p:Int),vs)=some (if (S_ rd (ks.drop k) p).2.2=0 then .inl (((S_ rd (ks.drop k) p).2.1:Int),vs++(S_ rd (ks.drop k) p).1) else .inr (er pe (S_ rd (ks.drop k) p).2.1 (S_ rd (ks.drop k) p).2.2))
 | 0,k,p,vs,hk,_,_=>by
  rw [List.drop_of_length_le (by omega)]
  exact ⟨0,by simp [C_,S_]⟩
 | m+1,k,p,vs,hk,hp,hv=>by
  have hlt:k<ks.length:=by omega
  rw [dC_ hlt]
  unfold C_ S_
  rw [hbody k hlt p vs hp hv]
  by_cases h0:(rd ks[k] p).2.2=0
  ·rw [iP_ h0,iP_ h0]
   obtain ⟨pe,h⟩:=j_7 rd ks L er body hbody hle m (k+1) (rd ks[k] p).2.1 (vs++[(rd ks[k] p).1]) (by omega) (hle _ (gE_ hlt) p hp) (by simp;omega)
   simp only
   rw [h]
   refine ⟨pe,?_⟩
   by_cases h1:(S_ rd (ks.drop<|k+1) (rd ks[k] p).2.1).2.2=0
   ·rw [iP_ h1,iP_ h1,iP_ rfl];simp
   ·rw [iN_ h1,iN_ h1,iN_ h1]
  ·rw [iN_ h0,iN_ h0]
   simp only
   exact ⟨p,by rw [iN_ h0]⟩
section
variable {d:d_} {b:List UInt8}
def b_o (x:RR):Val×Int×Int:=(x.1,(x.2.1:Int),x.2.2)
def d_c (x:List Val×Nat×Int):Val×Int×Int:=if x.2.2=0 then (⟨0,[],x.1⟩,(x.2.1:Int),0) else (zV,(x.2.1:Int),x.2.2)
theorem k_J (v:Val):(⟨v.number,v.bytes,v.items⟩:Val)=v:=by cases v;rfl
theorem o_5 {n:Nat} {r:g_} {num:Int} {ks:List Int} {i:Nat} (hk:f_7 r) (hks : ∀ k (hk:k<ks.length),Y_ r num k=ks[k])
  (hkk : ∀ k∈ks,0≤k∧k<(i:Int)) (h40:ks.length≤40) (ih : ∀ k,k<i → ∀ p,p≤b.length→f_H n d k b p=some (b_o<|rdW d.rules b k p))
  (hle : ∀ k,k<i → ∀ p,p≤b.length→(rdW d.rules b k p).2.1≤b.length) {p:Nat} (hp:p≤b.length) :
  d_N (n+1) d r num (ks.length:Int) b p=some (d_c<|S_ (fun k p=>rdW d.rules b k.toNat p) ks p):=by
 show f_D n (a_i n) d r num (ks.length:Int) b p=_
 unfold f_D
 rw [show ((ks.length:Int)).toNat=ks.length from rfl]
 obtain ⟨pe,h⟩:=j_7 (fun k p=>rdW d.rules b k.toNat p) ks b.length (fun _ e c=>(zV,(e:Int),c)) (fun k770=>un2 fun x756 x758=>bd (α:=Int×(List UInt8)×(List Val)×Int×Int) (bd (b_u r num ((k770:Nat):Int)) fun r1494=>bd3 ((a_i n).spec_l11Read d r1494 b x756) fun r1518 r1519 r1520=>some (r1518.number,r1518.bytes,r1518.items,r1519,r1520)) (un5 fun x1404 x1406 x1414 x1425 x1427=>if (x1427 != 0)=true then some (.ret ((⟨0,([]:List UInt8),([]:List Val)⟩:Val),x1425,x1427)) else bd (psh x758 (⟨x1404,x1406,x1414⟩:Val)) fun x1809=>some<|.next (x1425,x1809)))
  (fun k hlt p vs hp hv=>by
   have hkr:=hkk _<|gE_ hlt
   simp only [un2]
   rw [d_G hk,bd_some,hks k hlt]
   have hrd:=ih ks[k].toNat (by omega) p hp
   rw [show ((ks[k].toNat:Nat):Int)=ks[k] by omega] at hrd
   rw [show (a_i n).spec_l11Read d ks[k] b p=f_H n d ks[k] b p from rfl,hrd]
   unfold b_o
   simp only [bd3_some,bd_some]
   generalize rdW d.rules b ks[k].toNat p=x
   show (if (x.2.2 != 0)=true then some (Out.ret (zV,(x.2.1:Int),x.2.2)) else bd (psh vs (⟨x.1.number,x.1.bytes,x.1.items⟩:Val)) fun y=>some<|.next ((x.2.1:Int),y))=_
   by_cases h0:x.2.2=0
   ·rw [iP_ h0,h0]
    simp only [bN_,bF_,fF_]
    rw [a_P (by rw [a_B];omega),k_J];rfl
   ·rw [iN_ h0,show (x.2.2 != 0)=true by simpa using h0];rfl)
  (fun k hk p hp=>by have:=hkk k hk;exact hle k.toNat (by omega) p hp) ks.length 0 p [] (by omega) hp (Nat.zero_le _)
 rw [h]
 rw [List.drop_zero]
 unfold d_c;generalize S_ (fun k p=>rdW d.rules b k.toNat p) ks p=x
 by_cases h0:x.2.2=0
 ·rw [iP_ h0,iP_ h0];rfl
 ·rw [iN_ h0,iN_ h0];rfl
theorem k_K (hv:a_6 d=true) (hd:SmD d) (hb:b.length≤400) : ∀ (i:Nat),i<d.rules.length → ∀ n,3 * i+410≤n → ∀ at_,at_≤b.length→f_H n d i b at_=some (b_o<|rdW d.rules b i at_):=by
 have hMX:=MXv;intro i
 induction i using Nat.strongRecOn with
 | _ i ih =>
  intro hi n hn at_ ha;have hlen:=(c_5 hv).2;obtain ⟨m,rfl⟩ : ∃ m,n=m+3:=⟨n - 3,by omega⟩
  rw [e_i hv hi ha]
  have hr:=b_m hv hi;have hal:=e_h hr.kind;have hsm:=hd.each d.rules[i] (gE_ hi);have hidx:idx d.rules (i:Int)=some d.rules[i]:=ix_ hi;generalize hrr:d.rules[i]=r at *
  have hkk:=f_b hr.kind
  show f_C (m+2) (a_i<|m+2) d i b at_=_
  unfold f_C rdB
  rw [hidx,bd_some]
  have hle : ∀ k,k<i → ∀ p,p≤b.length→(rdW d.rules b k p).2.1≤b.length:=fun k hk p hp=>(c_6 hv k (by omega) p hp).2
  have hit : ∀ q,m≤q → ∀ (num:Int) (ks:List Int),(∀ k (hk:k<ks.length),Y_ r num k=ks[k])→(∀ k∈ks,k∈r.kids)→ks.length≤40 → ∀ p,p≤b.length →
    d_N (q+1) d r num (ks.length:Int) b p=some (d_c<|S_ (fun k p=>rdW d.rules b k.toNat p) ks p):=fun q hq num ks h1 h2 h3 p hp =>
   o_5 hkk h1 (fun k hk=>hr.kids k<|h2 k hk) h3 (fun k hk p hp=>ih k hk (by omega) q (by omega) p hp) hle hp
  by_cases h1:r.kind=1
  ·rw [h1];simp only [bQ_,fT_]
   rw [h_1 hidx (f_8 hr.kind h1) (by omega) ha]
   cases a_7 b r at_ <;> rfl
  rw [show (r.kind==1)=false by simpa using h1]
  by_cases h2:r.kind=2
  ·rw [h2];simp only [bQ_,fT_,bF_,fF_]
   rw [n_X (by omega) ha hsm.bytes];rfl
  rw [show (r.kind==2)=false by simpa using h2]
  by_cases h3:r.kind=3
  ·rw [h3];simp only [bQ_,fT_,bF_,fF_]
   have:=f_9 hr.kind h3
   rw [k_G (by omega) ha (by omega) (by omega)];rfl
  rw [show (r.kind==3)=false by simpa using h3]
  by_cases h10:r.kind=10
  ·rw [h10];simp only [bQ_,fT_,bF_,fF_,show ((10:Int)==4)=false from rfl]
   have hb1:=j_4 hr.kind h10
   rw [b_6 (by omega),bd_some,a_v (show 0<r.bytes.length by omega),n_T _ _ _ _ (by omega) ha (by omega)]
   cases c_g b at_ r.bytes[0] <;> rfl
  rw [show (r.kind==10)=false by simpa using h10]
  by_cases h6:r.kind=6
  ·rw [h6];simp only [bQ_,fT_,bF_,fF_,show ((6:Int)==4)=false from rfl]
   have hs:=e_g hr.kind h6
   rw [show (a_i<|m+2).spec_l11Items d r 0 (r.kids.length:Int) b at_=d_N ((m+1)+1) d r 0 (r.kids.length:Int) b at_ from rfl]
   rw [hit (m+1) (by omega) 0 r.kids (fun k hk=>by unfold Y_;rw [h6];simp [hk]) (fun k hk=>hk) (by omega) at_ ha]
   rw [show a_a d.rules b r at_ = .inr (0,r.kids,at_) by unfold a_a;rw [h6];rfl]
   simp only
   unfold d_c b_o a_O;generalize S_ (fun k p=>rdW d.rules b k.toNat p) r.kids at_=x
   rw [h6]
   by_cases h0:x.2.2=0
   ·rw [iP_ h0,iP_ h0];rfl
   ·rw [iN_ h0,iN_ h0];rfl
  rw [show (r.kind==6)=false by simpa using h6]
  by_cases h7:r.kind=7
  ·rw [h7];simp only [bQ_,fT_,bF_,fF_,show ((7:Int)==4)=false from rfl]
   have hs:=d_H hr.kind h7;have hq:=b_H hs.1
   rw [show (a_i<|m+2).spec_l11Choice d r b at_=f_E (m+1) (a_i<|m+1) d r b at_ from rfl]
   unfold f_E
   rw [b_s (by omega),bd_some,h_1 hq.1 hq.2 (by omega) ha]
   have hhd:a_a d.rules b r at_=(match a_7 b (N_ d.rules<|E_ r) at_ with | none=>.inl 1 | some n=>match a_Y r.tags n with | none=>.inl 3 | some k=>.inr (n,[r.kids.getD (k+1) 0],at_+(N_ d.rules<|E_ r).size.toNat)):=by unfold a_a;rw [h7];rfl
   rw [hhd]
   cases hi:a_7 b (N_ d.rules<|E_ r) at_ with
   | none=>rfl
   | some num =>
    have hrg:=b_R hq.2 hi
    simp only [bd3_some,nT_,bF_,fF_]
    rw [show b_u r num 0=some (Y_ r num 0) from d_G hkk num 0,bd_some]
    have hitem:Y_ r num 0=(match a_Y r.tags num with | some k=>r.kids.getD (k+1) 0 | none=>-1):=by unfold Y_;rw [h7];rfl
    rw [hitem]
    cases ht:a_Y r.tags num with
    | none=>rfl
    | some k =>
     have htl:=j_5 ht;have hmem:r.kids.getD (k+1) 0∈r.kids:=b_A (by omega);have hk0:=hr.kids _ hmem
     simp only
     rw [dF_ (show ¬ r.kids.getD (k+1) 0<0 by omega)]
     simp only [bF_,fF_]
     rw [show (a_i<|m+1).spec_l11Items d r num 1 b ((at_+(N_ d.rules<|E_ r).size.toNat:Nat):Int)=d_N (m+1) d r num (([r.kids.getD (k+1) 0].length:Nat):Int) b ((at_+(N_ d.rules<|E_ r).size.toNat:Nat):Int) from rfl]
     rw [hit m (by omega) num [r.kids.getD (k+1) 0] (fun j hj=>by
      have:j=0:=by simpa using hj
      subst this
      rw [hitem,ht];rfl) (fun k' hk'=>by rw [List.mem_singleton.1 hk'];exact hmem) (by simp) _ (by omega)]
     unfold d_c b_o a_O;generalize S_ (fun k p=>rdW d.rules b k.toNat p) [r.kids.getD (k+1) 0] (at_+(N_ d.rules<|E_ r).size.toNat)=x
     rw [h7]
     by_cases h0:x.2.2=0
     ·rw [iP_ h0,iP_ h0];rfl
     ·rw [iN_ h0,iN_ h0]
      simp only [bd3_some]
      rw [show (x.2.2==0)=false by simpa using h0]
      rfl
  rw [show (r.kind==7)=false by simpa using h7]
  by_cases h8:r.kind=8
  ·rw [h8];simp only [bQ_,fT_,bF_,fF_,show ((8:Int)==4)=false from rfl]
   have hs:=c_x hr.kind<|.inl h8
   rw [show (a_i<|m+2).spec_l11Option d r b at_=f_F (m+1) (a_i<|m+1) d r b at_ from rfl]
   unfold f_F;have hhd:a_a d.rules b r at_=(match b[at_]? with | none=>.inl 1 | some c=>if 1<byteI c then .inl 4 else .inr (0,List.replicate c.toNat<|r.kids.getD 0 0,at_+1)):=by unfold a_a;rw [h8];rfl
   rw [hhd]
   by_cases hlt:at_<b.length
   ·rw [dF_ (show ¬ (b.length:Int)≤(at_:Int) by omega),ix_ hlt,gG_ hlt]
    simp only [bF_,fF_,bd_some]
    by_cases hc:1<byteI b[at_]
    ·rw [iP_ hc,dT_ (show byteI (1:UInt8)<byteI b[at_] from hc)];rfl
    ·rw [iN_ hc,dF_ (show ¬ byteI (1:UInt8)<byteI b[at_] from hc)]
     simp only [bF_,fF_]
     rw [ia_ (x:=(at_:Int)) (by omega) (by omega)]
     rw [show (a_i<|m+1).spec_l11Items d r 0 (byteI b[at_]) b ((at_:Int)+1)=d_N (m+1) d r 0 (((List.replicate b[at_].toNat (r.kids.getD 0 0)).length:Nat):Int) b ((at_+1:Nat):Int) by rw [List.length_replicate];rfl]
     rw [hit m (by omega) 0 _ (fun j hj=>by unfold Y_;rw [h8];simp) (fun k' hk'=>by rw [List.eq_of_mem_replicate hk'];exact b_A (by omega)) (by unfold byteI at hc;simp;omega) _ (by omega)]
     unfold d_c b_o a_O;generalize S_ (fun k p=>rdW d.rules b k.toNat p) (List.replicate b[at_].toNat (r.kids.getD 0 0)) (at_+1)=x
     rw [h8]
     by_cases h0:x.2.2=0
     ·rw [iP_ h0,iP_ h0];rfl
     ·rw [iN_ h0,iN_ h0];rfl
   ·rw [dT_ (show (b.length:Int)≤(at_:Int) by omega),gN_ (by omega)];rfl
  rw [show (r.kind==8)=false by simpa using h8]
  by_cases h9:r.kind=9
  ·rw [h9];simp only [bQ_,fT_,bF_,fF_,show ((9:Int)==4)=false from rfl]
   have hs:=c_x hr.kind<|.inr h9
   rw [show (a_i<|m+2).spec_l11Checked d r b at_=f_G (m+1) (a_i<|m+1) d r b at_ from rfl]
   unfold f_G
   rw [show a_a d.rules b r at_ = .inr (0,[r.kids.getD 0 0],at_) by unfold a_a;rw [h9];rfl]
   rw [show (a_i<|m+1).spec_l11Items d r 0 1 b (at_:Int)=d_N (m+1) d r 0 (([r.kids.getD 0 0].length:Nat):Int) b (at_:Int) from rfl]
   rw [hit m (by omega) 0 [r.kids.getD 0 0] (fun j hj=>by
    have:j=0:=by simpa using hj
    subst this
    unfold Y_;rw [h9];rfl) (fun k' hk'=>by rw [List.mem_singleton.1 hk'];exact b_A (by omega)) (by simp) _ ha]
   simp only
   have hx:=f_c (rd:=fun k p=>rdW d.rules b k.toNat p) (L:=b.length) [r.kids.getD 0 0] at_ ha (fun k hk p hp=>by
    have hmem:k∈r.kids:=by rw [List.mem_singleton.1 hk];exact b_A (by omega)
    have:=hr.kids k hmem
    exact c_6 hv k.toNat (by omega) p hp)
   unfold d_c b_o a_O;generalize S_ (fun k p=>rdW d.rules b k.toNat p) [r.kids.getD 0 0] at_=x at hx
   rw [h9]
   by_cases h0:x.2.2=0
   ·rw [iP_ h0,iP_ h0]
    simp only [bd3_some,bN_,bF_,fF_,bQ_,fT_]
    by_cases hlt:x.2.1<b.length
    ·rw [dF_ (show ¬ (b.length:Int)≤(x.2.1:Int) by omega),ix_ hlt,gG_ hlt]
     simp only [bF_,fF_,bd_some]
     rw [d_F hx.1 (by omega),bd_some,k_C,bd_some,ia_ (x:=(x.2.1:Int)) (by omega) (by omega)]
     by_cases hsum:byteI b[x.2.1]=b_z (b_8 b at_ x.2.1)
     ·rw [iP_ hsum,show (byteI b[x.2.1] != b_z (b_8 b at_ x.2.1))=false by simpa using hsum];rfl
     ·rw [iN_ hsum,show (byteI b[x.2.1] != b_z (b_8 b at_ x.2.1))=true by simpa using hsum];rfl
    ·rw [dT_ (show (b.length:Int)≤(x.2.1:Int) by omega),gN_ (by omega)];rfl
   ·rw [iN_ h0,iN_ h0]
    simp only [bd3_some]
    rw [show (x.2.2 != 0)=true by simpa using h0];rfl
  rw [show (r.kind==9)=false by simpa using h9]
  simp only [bF_,fF_]
  have h45:r.kind=4∨r.kind=5:=by omega
  have hlim:0<lim d.rules (E_ r)∧0<r.kids.length:=by
   rcases h45 with h | h
   ·have:=f_a hr.kind h;exact ⟨this.1,by omega⟩
   ·have:=d_b hr.kind h;exact ⟨this.1,by omega⟩
  have hq:=b_H hlim.1
  rw [b_s hlim.2,bd_some,h_1 hq.1 hq.2 (by omega) ha]
  rcases h45 with h4 | h5
  ·rw [h4];simp only [bQ_,fT_]
   cases hi:a_7 b (N_ d.rules<|E_ r) at_ with
   | none=>rfl
   | some num =>
    have hrg:=b_R hq.2 hi
    simp only [bd3_some,nT_,bF_,fF_]
    rw [k_G (by omega) (by omega) (by omega) (by omega)];rfl
  ·rw [h5];simp only [show ((5:Int)==4)=false from rfl,bF_,fF_]
   have hs:=d_b hr.kind h5;have hhd:a_a d.rules b r at_=(match a_7 b (N_ d.rules<|E_ r) at_ with | none=>.inl 1 | some n=>if 40<n then .inl 6 else .inr (0,List.replicate n.toNat<|r.kids.getD 1 0,at_+(N_ d.rules<|E_ r).size.toNat)):=by unfold a_a;rw [h5];rfl
   rw [hhd]
   cases hi:a_7 b (N_ d.rules<|E_ r) at_ with
   | none=>rfl
   | some num =>
    have hrg:=b_R hq.2 hi
    simp only [bd3_some,nT_,bF_,fF_]
    by_cases h40:40<num
    ·rw [dT_ h40,iP_ h40];rfl
    ·rw [dF_ h40,iN_ h40]
     simp only [bF_,fF_]
     rw [show (a_i<|m+2).spec_l11Items d r 0 num b ((at_+(N_ d.rules<|E_ r).size.toNat:Nat):Int)=d_N ((m+1)+1) d r 0 (((List.replicate num.toNat<|r.kids.getD 1 0).length:Nat):Int) b ((at_+(N_ d.rules<|E_ r).size.toNat:Nat):Int) by rw [List.length_replicate,show ((num.toNat:Nat):Int)=num by omega];rfl]
     rw [hit (m+1) (by omega) 0 _ (fun j hj=>by unfold Y_;rw [h5];simp) (fun k' hk'=>by rw [List.eq_of_mem_replicate hk'];exact b_A (by omega)) (by simp;omega) _ (by omega)]
     unfold d_c b_o a_O;generalize S_ (fun k p=>rdW d.rules b k.toNat p) (List.replicate num.toNat<|r.kids.getD 1 0) (at_+(N_ d.rules<|E_ r).size.toNat)=x
     rw [h5]
     by_cases h0:x.2.2=0
     ·rw [iP_ h0,iP_ h0];rfl
     ·rw [iN_ h0,iN_ h0];rfl
end
end Go.Vw
