
import Derived.Test.YtnncfaaebnkcbaaGreatDoorVwP4
namespace Go.Vw
open Go.RowKit Dat
theorem k_2 {ρ:Type}(rd:Int->Nat->RR)(ks:List Int)(L:Nat)(er:Nat->Nat->Int->ρ)(body:Nat->Int×List Val->Option (Out (Int×List Val) ρ))
  (hbody:∀k (hk:k<ks.length) (p:Nat) vs,p<=L->vs.length<=k->body k ((p:Int),vs)=some (if (rd ks[k] p).2.2=0 then .next (((rd ks[k] p).2.1:Int),vs++[(rd ks[k] p).1]) else .ret (er p (rd ks[k] p).2.1 (rd ks[k] p).2.2)))
  (hle:∀k∈ks,∀p,p<=L->(rd k p).2.1<=L):∀m k (p:Nat) vs,k+m=ks.length->p<=L->vs.length<=k ->
  ∃pe,w_ body m k ((p:Int),vs)=some (if (a_a rd (ks.drop k) p).2.2=0 then .inl (((a_a rd (ks.drop k) p).2.1:Int),vs++(a_a rd (ks.drop k) p).1) else .inr (er pe (a_a rd (ks.drop k) p).2.1 (a_a rd (ks.drop k) p).2.2))
 | 0,k,p,vs,hk,_,_=>by
  rw [List.drop_of_length_le (by omega)]
  exact ⟨0,by simp [w_,a_a]⟩
 | m+1,k,p,vs,hk,hp,hv=>by
  have hlt:k<ks.length:=by omega
  rw [dC_ hlt]
  unfold w_ a_a
  rw [hbody k hlt p vs hp hv]
  by_cases G:(rd ks[k] p).2.2=0
  ·rw [iP_ G,iP_ G]
   obtain ⟨pe,h⟩:=k_2 rd ks L er body hbody hle m (k+1) (rd ks[k] p).2.1 (vs++[(rd ks[k] p).1]) (by omega) (hle _ (gE_ hlt) p hp) (by simp;omega)
   simp only
   rw [h]
   refine ⟨pe,?_⟩
   by_cases h1:(a_a rd (ks.drop<|k+1) (rd ks[k] p).2.1).2.2=0
   ·rw [iP_ h1,iP_ h1,iP_ rfl];simp
   ·rw [iN_ h1,iN_ h1,iN_ h1]
  ·rw [iN_ G,iN_ G]
   simp only
   exact ⟨p,by rw [iN_ G]⟩
section
variable {d:f_}{b:List UInt8}
def c_7 (x:RR):Val×Int×Int:=(x.1,(x.2.1:Int),x.2.2)
def e_8 (x:List Val×Nat×Int):Val×Int×Int:=if x.2.2=0 then (⟨0,[],x.1⟩,(x.2.1:Int),0) else (zV,(x.2.1:Int),x.2.2)
theorem e_W (v:Val):(⟨v.number,v.bytes,v.items⟩:Val)=v:=by cases v;rfl
theorem q_p {n:Nat}{r:b_}{num:Int}{ks:List Int}{i:Nat}(hk:e_R r)(hks:∀k (hk:k<ks.length),a_f r num k=ks[k])
  (hkk:∀k∈ks,0<=k/\k<(i:Int)) (a5:ks.length<=40) (ih:∀k,k<i->∀p,p<=b.length->i_V n d k b p=some (c_7<|rdW d.rules b k p))
  (hle:∀k,k<i->∀p,p<=b.length->(rdW d.rules b k p).2.1<=b.length) {p:Nat} (hp:p<=b.length) :
  f_7 (n+1) d r num (ks.length:Int) b p=some (e_8<|a_a (fun k p=>rdW d.rules b k.toNat p) ks p):=by
 show h_a n (a_l n) d r num (ks.length:Int) b p=_
 unfold h_a
 rw [show ((ks.length:Int)).toNat=ks.length from rfl]
 obtain ⟨pe,h⟩:=k_2 (fun k p=>rdW d.rules b k.toNat p) ks b.length (fun _ e c=>(zV,(e:Int),c)) (fun a2=>un2 fun a3 a4=>bd (α:=Int×(List UInt8)×(List Val)×Int×Int) (bd (b_d r num ((a2:Nat):Int)) fun L=>bd3 ((a_l n).spec_l11Read d L b a3) fun H O V=>some (H.number,H.bytes,H.items,O,V)) (un5 fun W Y a0 I J=>if (J != 0)=true then some (.ret ((⟨0,([]:List UInt8),([]:List Val)⟩:Val),I,J)) else bd (psh a4 (⟨W,Y,a0⟩:Val)) fun a1=>some<|.next (I,a1)))
  (fun k hlt p vs hp hv=>by
   have hkr:=hkk _<|gE_ hlt
   simp only [un2]
   rw [e_7 hk,bd_some,hks k hlt]
   have hrd:=ih ks[k].toNat (by omega) p hp
   rw [show ((ks[k].toNat:Nat):Int)=ks[k] by omega] at hrd
   rw [show (a_l n).spec_l11Read d ks[k] b p=i_V n d ks[k] b p from rfl,hrd]
   unfold c_7
   simp only [bd3_some,bd_some]
   generalize rdW d.rules b ks[k].toNat p=x
   show (if (x.2.2 != 0)=true then some (Out.ret (zV,(x.2.1:Int),x.2.2)) else bd (psh vs (⟨x.1.number,x.1.bytes,x.1.items⟩:Val)) fun y=>some<|.next ((x.2.1:Int),y))=_
   by_cases G:x.2.2=0
   ·rw [iP_ G,G]
    simp only [bN_,bF_,fF_]
    rw [a_Z (by rw [a_k];omega),e_W];rfl
   ·rw [iN_ G,show (x.2.2 != 0)=true by simpa using G];rfl)
  (fun k hk p hp=>by have:=hkk k hk;exact hle k.toNat (by omega) p hp) ks.length 0 p [] (by omega) hp (Nat.zero_le _)
 rw [h]
 rw [List.drop_zero]
 unfold e_8;generalize a_a (fun k p=>rdW d.rules b k.toNat p) ks p=x
 by_cases G:x.2.2=0
 ·rw [iP_ G,iP_ G];rfl
 ·rw [iN_ G,iN_ G];rfl
theorem q_q (hv:a_5 d=true)(hd:SmD d)(hb:b.length<=400):∀(i:Nat),i<d.rules.length->∀n,3 * i+410<=n->∀at_,at_<=b.length->i_V n d i b at_=some (c_7<|rdW d.rules b i at_):=by
 have hMX:=MXv;intro i
 induction i using Nat.strongRecOn with
 | _ i ih =>
  intro hi n hn at_ ha;have hlen:=(c_N hv).2;obtain ⟨m,rfl⟩:∃m,n=m+3:=⟨n - 3,by omega⟩
  rw [g_I hv hi ha]
  have hr:=b_X hv hi;have hal:=e_V hr.kind;have hsm:=hd.each d.rules[i] (gE_ hi);have hidx:idx d.rules (i:Int)=some d.rules[i]:=ix_ hi;generalize hrr:d.rules[i]=r at *
  have hkk:=c_O hr.kind
  show h_9 (m+2) (a_l<|m+2) d i b at_=_
  unfold h_9 rdB
  rw [hidx,bd_some]
  have hle:∀k,k<i->∀p,p<=b.length->(rdW d.rules b k p).2.1<=b.length:=fun k hk p hp=>(d_e hv k (by omega) p hp).2
  have hit:∀q,m<=q->∀(num:Int)(ks:List Int),(∀k (hk:k<ks.length),a_f r num k=ks[k])->(∀k∈ks,k∈r.kids)->ks.length<=40->∀p,p<=b.length ->
    f_7 (q+1) d r num (ks.length:Int) b p=some (e_8<|a_a (fun k p=>rdW d.rules b k.toNat p) ks p):=fun q hq num ks h1 h2 h3 p hp =>
   q_p hkk h1 (fun k hk=>hr.kids k<|h2 k hk) h3 (fun k hk p hp=>ih k hk (by omega) q (by omega) p hp) hle hp
  by_cases h1:r.kind=1
  ·rw [h1];simp only [bQ_,fT_]
   rw [j_Y hidx (e_S hr.kind h1) (by omega) ha]
   cases a_r b r at_ <;> rfl
  rw [show (r.kind==1)=false by simpa using h1]
  by_cases h2:r.kind=2
  ·rw [h2];simp only [bQ_,fT_,bF_,fF_]
   rw [q_i (by omega) ha hsm.bytes];rfl
  rw [show (r.kind==2)=false by simpa using h2]
  by_cases h3:r.kind=3
  ·rw [h3];simp only [bQ_,fT_,bF_,fF_]
   have:=g_F hr.kind h3
   rw [m_z (by omega) ha (by omega) (by omega)];rfl
  rw [show (r.kind==3)=false by simpa using h3]
  by_cases V:r.kind=10
  ·rw [V];simp only [bQ_,fT_,bF_,fF_,show ((10:Int)==4)=false from rfl]
   have Y:=j_Z hr.kind V
   rw [b_8 (by omega),bd_some,a_7 (show 0<r.bytes.length by omega),q_7 _ _ _ _ (by omega) ha (by omega)]
   cases c_M b at_ r.bytes[0] <;> rfl
  rw [show (r.kind==10)=false by simpa using V]
  by_cases h6:r.kind=6
  ·rw [h6];simp only [bQ_,fT_,bF_,fF_,show ((6:Int)==4)=false from rfl]
   have hs:=g_G hr.kind h6
   rw [show (a_l<|m+2).spec_l11Items d r 0 (r.kids.length:Int) b at_=f_7 ((m+1)+1) d r 0 (r.kids.length:Int) b at_ from rfl]
   rw [hit (m+1) (by omega) 0 r.kids (fun k hk=>by unfold a_f;rw [h6];simp [hk]) (fun k hk=>hk) (by omega) at_ ha]
   rw [show a_D d.rules b r at_ = .inr (0,r.kids,at_) by unfold a_D;rw [h6];rfl]
   simp only
   unfold e_8 c_7 b_n;generalize a_a (fun k p=>rdW d.rules b k.toNat p) r.kids at_=x
   rw [h6]
   by_cases G:x.2.2=0
   ·rw [iP_ G,iP_ G];rfl
   ·rw [iN_ G,iN_ G];rfl
  rw [show (r.kind==6)=false by simpa using h6]
  by_cases H:r.kind=7
  ·rw [H];simp only [bQ_,fT_,bF_,fF_,show ((7:Int)==4)=false from rfl]
   have hs:=e_U hr.kind H;have hq:=d_c hs.1
   rw [show (a_l<|m+2).spec_l11Choice d r b at_=h_b (m+1) (a_l<|m+1) d r b at_ from rfl]
   unfold h_b
   rw [c_F (by omega),bd_some,j_Y hq.1 hq.2 (by omega) ha]
   have hhd:a_D d.rules b r at_=(match a_r b (K_ d.rules<|s_ r) at_ with | none=>.inl 1 | some n=>match b_1 r.tags n with | none=>.inl 3 | some k=>.inr (n,[r.kids.getD (k+1) 0],at_+(K_ d.rules<|s_ r).size.toNat)):=by unfold a_D;rw [H];rfl
   rw [hhd]
   cases hi:a_r b (K_ d.rules<|s_ r) at_ with
   | none=>rfl
   | some num =>
    have hrg:=d_b hq.2 hi
    simp only [bd3_some,nT_,bF_,fF_]
    rw [show b_d r num 0=some (a_f r num 0) from e_7 hkk num 0,bd_some]
    have hitem:a_f r num 0=(match b_1 r.tags num with | some k=>r.kids.getD (k+1) 0 | none=>-1):=by unfold a_f;rw [H];rfl
    rw [hitem]
    cases ht:b_1 r.tags num with
    | none=>rfl
    | some k =>
     have htl:=k_0 ht;have hmem:r.kids.getD (k+1) 0∈r.kids:=c_P (by omega);have a0:=hr.kids _ hmem
     simp only
     rw [dF_ (show ¬r.kids.getD (k+1) 0<0 by omega)]
     simp only [bF_,fF_]
     rw [show (a_l<|m+1).spec_l11Items d r num 1 b ((at_+(K_ d.rules<|s_ r).size.toNat:Nat):Int)=f_7 (m+1) d r num (([r.kids.getD (k+1) 0].length:Nat):Int) b ((at_+(K_ d.rules<|s_ r).size.toNat:Nat):Int) from rfl]
     rw [hit m (by omega) num [r.kids.getD (k+1) 0] (fun j hj=>by
      have:j=0:=by simpa using hj
      subst this
      rw [hitem,ht];rfl) (fun k' hk'=>by rw [List.mem_singleton.1 hk'];exact hmem) (by simp) _ (by omega)]
     unfold e_8 c_7 b_n;generalize a_a (fun k p=>rdW d.rules b k.toNat p) [r.kids.getD (k+1) 0] (at_+(K_ d.rules<|s_ r).size.toNat)=x
     rw [H]
     by_cases G:x.2.2=0
     ·rw [iP_ G,iP_ G];rfl
     ·rw [iN_ G,iN_ G]
      simp only [bd3_some]
      rw [show (x.2.2==0)=false by simpa using G]
      rfl
  rw [show (r.kind==7)=false by simpa using H]
  by_cases I:r.kind=8
  ·rw [I];simp only [bQ_,fT_,bF_,fF_,show ((8:Int)==4)=false from rfl]
   have hs:=d_d hr.kind<|.inl I
   rw [show (a_l<|m+2).spec_l11Option d r b at_=h_c (m+1) (a_l<|m+1) d r b at_ from rfl]
   unfold h_c;have hhd:a_D d.rules b r at_=(match b[at_]? with | none=>.inl 1 | some c=>if 1<byteI c then .inl 4 else .inr (0,List.replicate c.toNat<|r.kids.getD 0 0,at_+1)):=by unfold a_D;rw [I];rfl
   rw [hhd]
   by_cases hlt:at_<b.length
   ·rw [dF_ (show ¬(b.length:Int)<=(at_:Int) by omega),ix_ hlt,gG_ hlt]
    simp only [bF_,fF_,bd_some]
    by_cases hc:1<byteI b[at_]
    ·rw [iP_ hc,dT_ (show byteI (1:UInt8)<byteI b[at_] from hc)];rfl
    ·rw [iN_ hc,dF_ (show ¬byteI (1:UInt8)<byteI b[at_] from hc)]
     simp only [bF_,fF_]
     rw [ia_ (x:=(at_:Int)) (by omega) (by omega)]
     rw [show (a_l<|m+1).spec_l11Items d r 0 (byteI b[at_]) b ((at_:Int)+1)=f_7 (m+1) d r 0 (((List.replicate b[at_].toNat (r.kids.getD 0 0)).length:Nat):Int) b ((at_+1:Nat):Int) by rw [List.length_replicate];rfl]
     rw [hit m (by omega) 0 _ (fun j hj=>by unfold a_f;rw [I];simp) (fun k' hk'=>by rw [List.eq_of_mem_replicate hk'];exact c_P (by omega)) (by unfold byteI at hc;simp;omega) _ (by omega)]
     unfold e_8 c_7 b_n;generalize a_a (fun k p=>rdW d.rules b k.toNat p) (List.replicate b[at_].toNat (r.kids.getD 0 0)) (at_+1)=x
     rw [I]
     by_cases G:x.2.2=0
     ·rw [iP_ G,iP_ G];rfl
     ·rw [iN_ G,iN_ G];rfl
   ·rw [dT_ (show (b.length:Int)<=(at_:Int) by omega),gN_ (by omega)];rfl
  rw [show (r.kind==8)=false by simpa using I]
  by_cases J:r.kind=9
  ·rw [J];simp only [bQ_,fT_,bF_,fF_,show ((9:Int)==4)=false from rfl]
   have hs:=d_d hr.kind<|.inr J
   rw [show (a_l<|m+2).spec_l11Checked d r b at_=h_d (m+1) (a_l<|m+1) d r b at_ from rfl]
   unfold h_d
   rw [show a_D d.rules b r at_ = .inr (0,[r.kids.getD 0 0],at_) by unfold a_D;rw [J];rfl]
   rw [show (a_l<|m+1).spec_l11Items d r 0 1 b (at_:Int)=f_7 (m+1) d r 0 (([r.kids.getD 0 0].length:Nat):Int) b (at_:Int) from rfl]
   rw [hit m (by omega) 0 [r.kids.getD 0 0] (fun j hj=>by
    have:j=0:=by simpa using hj
    subst this
    unfold a_f;rw [J];rfl) (fun k' hk'=>by rw [List.mem_singleton.1 hk'];exact c_P (by omega)) (by simp) _ ha]
   simp only
   have hx:=g_H (rd:=fun k p=>rdW d.rules b k.toNat p) (L:=b.length) [r.kids.getD 0 0] at_ ha (fun k hk p hp=>by
    have hmem:k∈r.kids:=by rw [List.mem_singleton.1 hk];exact c_P (by omega)
    have:=hr.kids k hmem
    exact d_e hv k.toNat (by omega) p hp)
   unfold e_8 c_7 b_n;generalize a_a (fun k p=>rdW d.rules b k.toNat p) [r.kids.getD 0 0] at_=x at hx
   rw [J]
   by_cases G:x.2.2=0
   ·rw [iP_ G,iP_ G]
    simp only [bd3_some,bN_,bF_,fF_,bQ_,fT_]
    by_cases hlt:x.2.1<b.length
    ·rw [dF_ (show ¬(b.length:Int)<=(x.2.1:Int) by omega),ix_ hlt,gG_ hlt]
     simp only [bF_,fF_,bd_some]
     rw [d_v hx.1 (by omega),bd_some,m_p,bd_some,ia_ (x:=(x.2.1:Int)) (by omega) (by omega)]
     by_cases hsum:byteI b[x.2.1]=c_6 (a_i b at_ x.2.1)
     ·rw [iP_ hsum,show (byteI b[x.2.1] != c_6 (a_i b at_ x.2.1))=false by simpa using hsum];rfl
     ·rw [iN_ hsum,show (byteI b[x.2.1] != c_6 (a_i b at_ x.2.1))=true by simpa using hsum];rfl
    ·rw [dT_ (show (b.length:Int)<=(x.2.1:Int) by omega),gN_ (by omega)];rfl
   ·rw [iN_ G,iN_ G]
    simp only [bd3_some]
    rw [show (x.2.2 != 0)=true by simpa using G];rfl
  rw [show (r.kind==9)=false by simpa using J]
  simp only [bF_,fF_]
  have W:r.kind=4∨r.kind=5:=by omega
  have hlim:0<lim d.rules (s_ r)/\0<r.kids.length:=by
   rcases W with h | h
   ·have:=e_T hr.kind h;exact ⟨this.1,by omega⟩
   ·have:=d_w hr.kind h;exact ⟨this.1,by omega⟩
  have hq:=d_c hlim.1
  rw [c_F hlim.2,bd_some,j_Y hq.1 hq.2 (by omega) ha]
  rcases W with h4 | h5
  ·rw [h4];simp only [bQ_,fT_]
   cases hi:a_r b (K_ d.rules<|s_ r) at_ with
   | none=>rfl
   | some num =>
    have hrg:=d_b hq.2 hi
    simp only [bd3_some,nT_,bF_,fF_]
    rw [m_z (by omega) (by omega) (by omega) (by omega)];rfl
  ·rw [h5];simp only [show ((5:Int)==4)=false from rfl,bF_,fF_]
   have hs:=d_w hr.kind h5;have hhd:a_D d.rules b r at_=(match a_r b (K_ d.rules<|s_ r) at_ with | none=>.inl 1 | some n=>if 40<n then .inl 6 else .inr (0,List.replicate n.toNat<|r.kids.getD 1 0,at_+(K_ d.rules<|s_ r).size.toNat)):=by unfold a_D;rw [h5];rfl
   rw [hhd]
   cases hi:a_r b (K_ d.rules<|s_ r) at_ with
   | none=>rfl
   | some num =>
    have hrg:=d_b hq.2 hi
    simp only [bd3_some,nT_,bF_,fF_]
    by_cases O:40<num
    ·rw [dT_ O,iP_ O];rfl
    ·rw [dF_ O,iN_ O]
     simp only [bF_,fF_]
     rw [show (a_l<|m+2).spec_l11Items d r 0 num b ((at_+(K_ d.rules<|s_ r).size.toNat:Nat):Int)=f_7 ((m+1)+1) d r 0 (((List.replicate num.toNat<|r.kids.getD 1 0).length:Nat):Int) b ((at_+(K_ d.rules<|s_ r).size.toNat:Nat):Int) by rw [List.length_replicate,show ((num.toNat:Nat):Int)=num by omega];rfl]
     rw [hit (m+1) (by omega) 0 _ (fun j hj=>by unfold a_f;rw [h5];simp) (fun k' hk'=>by rw [List.eq_of_mem_replicate hk'];exact c_P (by omega)) (by simp;omega) _ (by omega)]
     unfold e_8 c_7 b_n;generalize a_a (fun k p=>rdW d.rules b k.toNat p) (List.replicate num.toNat<|r.kids.getD 1 0) (at_+(K_ d.rules<|s_ r).size.toNat)=x
     rw [h5]
     by_cases G:x.2.2=0
     ·rw [iP_ G,iP_ G];rfl
     ·rw [iN_ G,iN_ G];rfl
end
end Go.Vw
