
import Derived.Test.YtdcjkhfonojjiaaGreatDoorVwP6
namespace Go.Vw
open Go.RowKit Dat
section
variable {d:d_}{b:List UInt8}
theorem q_n {r:e_}{num:Int}{p:Nat}{x:List Val×Nat×Int}(h:(a_L b r num p x).2.2 ≠ 0):(a_L b r num p x).1=zV:=by
 unfold a_L at *
 split
 ·rename_i H
  rw [iP_ H] at h
  split
  ·rename_i G
   rw [iP_ G] at h
   cases hb:b[x.2.1]? with
   | none=>rfl
   | some c =>
    rw [hb] at h
    simp only at h ⊢
    split
    ·rename_i hs;rw [iP_ hs] at h;exact absurd rfl h
    ·rfl
  ·rename_i G;rw [iN_ G] at h;exact absurd rfl h
 ·rfl
theorem rdB_zV {rs:List e_}{r:e_}{p:Nat}{rd:Int->Nat->RR}(h:(rdB rs b r p rd).2.2 ≠ 0):(rdB rs b r p rd).1=zV:=by
 have hby:∀p n,(a_r b p n).2.2 ≠ 0->(a_r b p n).1=zV:=fun p n h=>by
  unfold a_r at *
  split
  ·rfl
  ·rename_i G;rw [iN_ G] at h;exact absurd rfl h
 unfold rdB at *
 split
 ·rename_i h1;rw [iP_ h1] at h
  cases hd:a_7 b r p with
  | none=>rfl
  | some n=>rw [hd] at h;exact absurd rfl h
 rename_i h1;rw [iN_ h1] at h
 split
 ·rfl
 rename_i h2;rw [iN_ h2] at h
 split
 ·rename_i h3;rw [iP_ h3] at h;exact hby _ _ h
 rename_i h3;rw [iN_ h3] at h
 split
 ·rename_i h4;rw [iP_ h4] at h
  cases hd:a_7 b (N_ rs<|u_ r) p with
  | none=>rfl
  | some n=>rw [hd] at h;exact hby _ _ h
 rename_i h4;rw [iN_ h4] at h
 split
 ·rename_i h5;rw [iP_ h5] at h
  cases hd:c_f b p (r.bytes.getD 0 0) with
  | none=>rfl
  | some n=>rw [hd] at h;exact absurd rfl h
 rename_i h5;rw [iN_ h5] at h
 cases hh:X_ rs b r p with
 | inl c=>rfl
 | inr x=>rw [hh] at h;exact q_n h
theorem m_u {i at_:Nat}(h:(rdW d.rules b i at_).2.2 ≠ 0):(rdW d.rules b i at_).1=zV:=by
 rw [rdW] at *;exact rdB_zV h
def c_M (rd:Int->Nat->RR)(L:Nat):List Int->Nat->List Val->Nat->Prop
 | [],p,vs,e=>vs=[]/\e=p
 | k::ks,p,vs,e=>p<=L/\(rd k p).2.2=0/\∃ws,vs=(rd k p).1::ws/\c_M rd L ks (rd k p).2.1 ws e
theorem j_O {rd:Int->Nat->RR}{L:Nat}:∀(ks:List Int)(p:Nat),p<=L->(∀k∈ks,∀p,p<=L->(rd k p).2.1<=L)->(V_ rd ks p).2.2=0->c_M rd L ks p (V_ rd ks p).1 (V_ rd ks p).2.1
 | [],p,_,_,_=>⟨rfl,rfl⟩
 | k::ks,p,hp,hle,h=>by
  unfold V_ at *
  by_cases G:(rd k p).2.2=0
  ·rw [iP_ G] at *
   by_cases h1:(V_ rd ks (rd k p).2.1).2.2=0
   ·rw [iP_ h1] at *
    exact ⟨hp,G,_,rfl,j_O ks _ (hle k mS_ p hp) (fun k hk=>hle k<|mT_ _ hk) h1⟩
   ·rw [iN_ h1] at h;exact absurd h h1
  ·rw [iN_ G] at h;exact absurd h G
theorem f_h {rd:Int->Nat->RR}{L:Nat}:∀{ks:List Int}{p:Nat}{vs:List Val}{e:Nat},c_M rd L ks p vs e->vs.length=ks.length
 | [],_,_,_,h=>by rw [h.1];rfl
 | _::_,_,_,_,h=>by obtain ⟨_,_,ws,rfl,h⟩:=h;simp [f_h h]
def a_3 (rs:List e_)(r:e_)(at_:Nat):Nat:=if r.kind==5 || r.kind==7 then at_+(N_ rs<|u_ r).size.toNat else if r.kind==8 then at_+1 else at_
theorem j_P {rs:List e_}{r:e_}{at_:Nat}(h:a_a rs r=true)(hk:5<=r.kind/\r.kind<=9){num:Int}{ks:List Int}{st:Nat}(hh:X_ rs b r at_ = .inr (num,ks,st)) :
  (∀j (hj:j<ks.length),a_i r num j=ks[j])/\st=a_3 rs r at_/\(r.kind=9->num=0):=by
 unfold X_ at hh
 by_cases h5:r.kind=5
 ·rw [h5] at hh
  simp only [bQ_,fT_] at hh
  cases hi:a_7 b (N_ rs<|u_ r) at_ with
  | none=>rw [hi] at hh;cases hh
  | some n =>
   rw [hi] at hh
   simp only at hh
   split at hh
   ·cases hh
   ·cases hh
    refine ⟨fun j hj=>by unfold a_i;rw [h5];simp,by unfold a_3;rw [h5];rfl,by omega⟩
 rw [show (r.kind==5)=false by simpa using h5] at hh
 by_cases h6:r.kind=6
 ·rw [h6] at hh
  simp only [bF_,fF_,bQ_,fT_] at hh
  cases hh
  exact ⟨fun j hj=>by unfold a_i;rw [h6];simp [hj],by unfold a_3;rw [h6];rfl,by omega⟩
 rw [show (r.kind==6)=false by simpa using h6] at hh
 by_cases G:r.kind=7
 ·rw [G] at hh
  simp only [bF_,fF_,bQ_,fT_] at hh
  cases hi:a_7 b (N_ rs<|u_ r) at_ with
  | none=>rw [hi] at hh;cases hh
  | some n =>
   rw [hi] at hh
   simp only at hh
   cases ht:b_7 r.tags n with
   | none=>rw [ht] at hh;cases hh
   | some k =>
    rw [ht] at hh
    cases hh
    refine ⟨fun j hj=>?_,by unfold a_3;rw [G];rfl,by omega⟩;have:j=0:=by simpa using hj
    subst this;unfold a_i;rw [G];simp [ht]
 rw [show (r.kind==7)=false by simpa using G] at hh
 by_cases H:r.kind=8
 ·rw [H] at hh
  simp only [bF_,fF_,bQ_,fT_] at hh
  cases hi:b[at_]? with
  | none=>rw [hi] at hh;cases hh
  | some c =>
   rw [hi] at hh
   simp only at hh
   split at hh
   ·cases hh
   ·cases hh
    exact ⟨fun j hj=>by unfold a_i;rw [H];simp,by unfold a_3;rw [H];rfl,by omega⟩
 rw [show (r.kind==8)=false by simpa using H] at hh
 simp only [bF_,fF_] at hh
 cases hh
 have I:r.kind=9:=by omega
 refine ⟨fun j hj=>?_,by unfold a_3;rw [I];rfl,fun _=>rfl⟩;have:j=0:=by simpa using hj
 subst this;unfold a_i;rw [I];simp
structure f_i (d:d_)(b:List UInt8)(r:e_)(at_:Nat)(x:RR)(ks:List Int)(e:Nat):Prop where
 item:∀j (hj:j<ks.length),a_i r x.1.number j=ks[j]
 kids:∀k∈ks,k∈r.kids
 small:ks.length<=40
 ch:c_M (fun k p=>rdW d.rules b k.toNat p) b.length ks (a_3 d.rules r at_) x.1.items e
 st:at_<=a_3 d.rules r at_/\a_3 d.rules r at_<=b.length
 se:a_3 d.rules r at_<=e
 le:e<=x.2.1
 go:at_<x.2.1∨(e=x.2.1/\a_3 d.rules r at_=at_/\ks ≠ [])
theorem i_h (hv:a_0 d=true){i:Nat}(hi:i<d.rules.length){at_:Nat}(ha:at_<=b.length)(hok:(rdW d.rules b i at_).2.2=0) :
  ∃ks e,f_i d b d.rules[i] at_ (rdW d.rules b i at_) ks e:=by
 have hbase:=b_W (b:=b) hv i hi at_ ha
 rw [e_q hv hi ha] at *
 have hr:=b_8 hv hi;have hal:=e_p hr.kind;generalize hrr:d.rules[i]=r at *
 have leaf:∀(x:RR),a_3 d.rules r at_=at_->at_<x.2.1->x.1.items=[]->∃ks e,f_i d b r at_ x ks e:=fun x h1 h2 h3 =>
  ⟨[],at_,fun j hj=>by simp at hj,fun k hk=>by simp at hk,by simp,by rw [h3,h1];exact ⟨rfl,rfl⟩,by rw [h1];exact ⟨Nat.le_refl _,ha⟩,by rw [h1];exact Nat.le_refl _,Nat.le_of_lt h2,.inl h2⟩
 have hby:∀p n,(a_r b p n).2.2=0->(a_r b p n).1.items=[]/\(a_r b p n).2.1=p+n.toNat:=fun p n h=>by
  unfold a_r at *
  split at h
  ·cases h
  ·rename_i G;rw [iN_ G];exact ⟨rfl,rfl⟩
 unfold rdB at *
 by_cases h1:r.kind=1
 ·rw [h1] at hok ⊢;simp only [bQ_,fT_] at hok ⊢
  have hst:a_3 d.rules r at_=at_:=by unfold a_3;rw [h1];rfl
  cases hd:a_7 b r at_ with
  | none=>rw [hd] at hok;cases hok
  | some n=>have:=(d_L hr.kind h1).2.1;exact leaf _ hst (by simp only;omega) rfl
 rw [show (r.kind==1)=false by simpa using h1] at *
 by_cases h2:r.kind=2
 ·rw [h2] at hok ⊢
  have hst:a_3 d.rules r at_=at_:=by unfold a_3;rw [h2];rfl
  have:=q_2 hr.kind h2
  exact leaf _ hst (by
   have h:=q_0 (show (b_e b r.bytes at_).2=0 from hok)
   show at_<(b_e b r.bytes at_).1
   omega) rfl
 rw [show (r.kind==2)=false by simpa using h2] at *
 by_cases h3:r.kind=3
 ·rw [h3] at hok ⊢
  have hst:a_3 d.rules r at_=at_:=by unfold a_3;rw [h3];rfl
  have:=f_f hr.kind h3;have h:=hby at_ r.size hok
  exact leaf _ hst (by
   show at_<(a_r b at_ r.size).2.1
   omega) h.1
 rw [show (r.kind==3)=false by simpa using h3] at *
 by_cases h4:r.kind=4
 ·rw [h4] at hok ⊢;simp only [bF_,fF_,bQ_,fT_] at hok ⊢
  have hst:a_3 d.rules r at_=at_:=by unfold a_3;rw [h4];rfl
  cases hd:a_7 b (N_ d.rules<|u_ r) at_ with
  | none=>rw [hd] at hok;cases hok
  | some n =>
   rw [hd] at hok
   have:=(c_L (e_n hr.kind h4).1).2.2.1;have h:=hby _ n hok;exact leaf _ hst (by simp only;omega) h.1
 rw [show (r.kind==4)=false by simpa using h4] at *
 by_cases H:r.kind=10
 ·rw [H] at hok ⊢;simp only [bF_,fF_,bQ_,fT_] at hok ⊢
  have hst:a_3 d.rules r at_=at_:=by unfold a_3;rw [H];rfl
  cases hd:c_f b at_ (r.bytes.getD 0 0) with
  | none=>rw [hd] at hok;cases hok
  | some x=>have:=i_4 _ _ _ _ _ hd;exact leaf _ hst (by simp only;omega) rfl
 rw [show (r.kind==10)=false by simpa using H] at *
 simp only [bF_,fF_] at hok ⊢
 cases hh:X_ d.rules b r at_ with
 | inl c=>rw [hh] at hok;exact absurd hok (by
   intro hc
   simp only at hc
   subst hc;unfold X_ at hh
   split at hh
   ·cases hi:a_7 b (N_ d.rules<|u_ r) at_ with
    | none=>rw [hi] at hh;cases hh
    | some n=>rw [hi] at hh;simp only at hh;split at hh <;> cases hh
   split at hh
   ·cases hh
   split at hh
   ·cases hi:a_7 b (N_ d.rules<|u_ r) at_ with
    | none=>rw [hi] at hh;cases hh
    | some n =>
     rw [hi] at hh;simp only at hh
     cases ht:b_7 r.tags n with
     | none=>rw [ht] at hh;cases hh
     | some k=>rw [ht] at hh;cases hh
   split at hh
   ·cases hi:b[at_]? with
    | none=>rw [hi] at hh;cases hh
    | some c=>rw [hi] at hh;simp only at hh;split at hh <;> cases hh
   ·cases hh)
 | inr y =>
  obtain ⟨num,ks,st⟩:=y
  rw [hh] at hok
  simp only at hok ⊢
  have hk:=i_b hr.kind (by omega) ha hh;obtain ⟨hitem,hst,J⟩:=j_P hr.kind (by omega) hh
  have hlek:∀k∈ks,∀p,p<=b.length->p<=(rdW d.rules b k.toNat p).2.1/\(rdW d.rules b k.toNat p).2.1<=b.length:=fun k hk' p hp=>by
   have:=hr.kids k<|hk.1 k hk';exact b_W hv k.toNat (by omega) p hp
  have hile:=g_c (rd:=fun k p=>rdW d.rules b k.toNat p) (L:=b.length) ks st hk.2.2.1 hlek;have hch:=j_O (rd:=fun k p=>rdW d.rules b k.toNat p) (L:=b.length) ks st hk.2.2.1<|fun k hk' p hp=>(hlek k hk' p hp).2;generalize V_ (fun k p=>rdW d.rules b k.toNat p) ks st=x at *
  have G:x.2.2=0:=by
   unfold a_L at hok
   split at hok
   ·assumption
   ·rename_i hx;exact absurd hok hx
  have hch:=hch G
  have hnk:r.kind=6∨r.kind=9->ks ≠ []:=by
   intro O hnil;unfold X_ at hh
   rcases O with h | h
   ·rw [h] at hh
    have:=e_o hr.kind h
    cases hh
    rw [hnil] at this;simp at this
   ·rw [h] at hh;cases hh;cases hnil
  subst hst;refine ⟨ks,x.2.1,?_⟩;unfold a_L at hok ⊢
  rw [iP_ G] at hok ⊢
  by_cases I:r.kind=9
  ·rw [show (r.kind==9)=true by simpa using I] at hok ⊢
   simp only [fT_] at hok ⊢
   cases hb:b[x.2.1]? with
   | none=>rw [hb] at hok;cases hok
   | some c =>
    rw [hb] at hok
    simp only at hok ⊢
    by_cases hs:byteI c=c_6 (a_2 b at_ x.2.1)
    ·rw [iP_ hs]
     have:=J I;subst this;exact ⟨hitem,hk.1,hk.2.2.2.1,hch,⟨hk.2.1,hk.2.2.1⟩,hile.1,by simp only;omega,.inl (by simp only;omega)⟩
    ·rw [iN_ hs] at hok;cases hok
  ·rw [show (r.kind==9)=false by simpa using I]
   simp only [bF_,fF_]
   refine ⟨hitem,hk.1,hk.2.2.2.1,hch,⟨hk.2.1,hk.2.2.1⟩,hile.1,Nat.le_refl _,?_⟩
   by_cases hst:a_3 d.rules r at_=at_
   ·exact .inr ⟨rfl,hst,hnk<|hk.2.2.2.2 hst⟩
   ·left;simp only;omega
theorem m_v (hv:a_0 d=true):∀(i:Nat),i<d.rules.length->∀at_,at_<=b.length->(rdW d.rules b i at_).2.2=0->at_<(rdW d.rules b i at_).2.1:=by
 intro i
 induction i using Nat.strongRecOn with
 | _ i ih =>
  intro hi at_ ha hok;obtain ⟨ks,e,h⟩:=i_h hv hi ha hok
  rcases h.go with hgo | ⟨he,hst,hne⟩
  ·exact hgo
  ·have hch:=h.ch
   cases ks with
   | nil=>exact absurd rfl hne
   | cons k ks =>
    obtain ⟨hp,G,ws,hws,hrest⟩:=hch;have hkid:=(b_8 hv hi).kids k (h.kids k mS_);have hlt:=ih k.toNat (by omega) (by omega) _ hp G
    have hmono:∀(ks:List Int)(p:Nat)(vs:List Val)(e:Nat),p<=b.length->(∀k∈ks,0<=k/\k<(i:Int))->c_M (fun k p=>rdW d.rules b k.toNat p) b.length ks p vs e->p<=e:=by
     intro ks
     induction ks with
     | nil=>intro p vs e _ _ h;rw [h.2];exact Nat.le_refl _
     | cons k ks ihk =>
      intro p vs e hp hkk h;obtain ⟨_,_,ws,_,h⟩:=h;have hk:=hkk k mS_;have hl:=b_W (b:=b) hv k.toNat (by omega) p hp;have:=ihk _ ws e hl.2 (fun k hk=>hkk k<|mT_ _ hk) h
      omega
    have:=hmono ks _ ws e (b_W hv k.toNat (by omega) _ hp).2 (fun k' hk'=>(b_8 hv hi).kids k' (h.kids k'<|mT_ _ hk')) hrest
    omega
def okV (d:d_)(b:List UInt8)(rule at_:Int):Bool:=(a_0 d && a_Z d rule) && ((decide (0<=at_) && decide (at_<=(b.length:Int))) && decide ((b.length:Int)<=400))
def b_B (d:d_)(rule:Int)(b:List UInt8)(at_:Int):Val×Int×Int:=if okV d b rule at_=true then b_M (rdW d.rules b rule.toNat at_.toNat) else (zV,0,8)
theorem j_Q {rule at_:Int}(h:okV d b rule at_=true):a_0 d=true/\b.length<=400/\∃i p:Nat,rule=i/\at_=p/\i<d.rules.length/\p<=b.length:=by
 unfold okV a_Z at h
 simp only [aE_,dE_] at h
 exact ⟨h.1.1,by omega,rule.toNat,at_.toNat,by omega,by omega,by omega,by omega⟩
theorem q_o (hd:SmD d){n:Nat}(hn:500<=n)(rule at_:Int):g_M n d rule b at_=some (b_B d rule b at_):=by
 unfold g_M b_B
 rw [j_v d hd,b_x]
 by_cases h:okV d b rule at_=true
 ·rw [iP_ h]
  obtain ⟨hv,hb,i,p,rfl,rfl,hi,hp⟩:=j_Q h;have hlen:=(b_V hv).2;have H:(a_0 d && a_Z d (i:Int))=true:=by unfold a_Z;rw [hv,dT_ (by omega),dT_ (by omega)];rfl
  rw [H,dT_ (show (0:Int)<=(p:Int) by omega),dT_ (show (p:Int)<=(b.length:Int) by omega),dF_ (show ¬(400:Int)<(b.length:Int) by omega)]
  simp only [bd_some,nT_,bF_,fF_,Bool.and_self]
  rw [m_f hv hd hb i hi n (by omega) p hp]
  rfl
 ·rw [iN_ h]
  unfold okV at h
  have G:decide ((400:Int)<(b.length:Int)) = !decide ((b.length:Int)<=400):=by
   by_cases hb:(b.length:Int)<=400
   ·rw [dT_ hb,dF_ (by omega)];rfl
   ·rw [dF_ hb,dT_ (by omega)];rfl
  rw [G]
  generalize (a_0 d && a_Z d rule)=a at *
  generalize (decide (0<=at_) && decide (at_<=(b.length:Int)))=c at *
  generalize decide ((b.length:Int)<=400)=e at *
  cases a <;> cases c <;> cases e <;> first | rfl | exact absurd rfl h
theorem q_p (hd:SmD d){n:Nat}(hn:500<=n)(rule at_:Int):h_3 n d rule b at_=some (b_B d rule b at_):=by
 unfold h_3 b_B
 rw [h_W n (by omega) d hd]
 by_cases h:okV d b rule at_=true
 ·rw [iP_ h]
  obtain ⟨hv,hb,i,p,rfl,rfl,hi,hp⟩:=j_Q h;have hlen:=(b_V hv).2;have H:(a_0 d && a_Z d (i:Int))=true:=by unfold a_Z;rw [hv,dT_ (by omega),dT_ (by omega)];rfl
  rw [H,dF_ (show ¬(p:Int)<0 by omega),dF_ (show ¬(b.length:Int)<(p:Int) by omega),dF_ (show ¬(400:Int)<(b.length:Int) by omega)]
  simp only [bd_some,nT_,bF_,fF_]
  obtain ⟨nx,hrd⟩:=q_b hv hd hb i hi n (by omega) p hp
  rw [hrd]
  show _=some (b_M<|rdW d.rules b i p)
  have hz:=m_u (d:=d) (b:=b) (i:=i) (at_:=p);generalize rdW d.rules b i p=x at *
  unfold c_i b_M
  by_cases G:x.2.2=0
  ·rw [iP_ G,G];rfl
  ·rw [iN_ G,hz G];rfl
 ·rw [iN_ h]
  unfold okV at h
  have I:decide ((400:Int)<(b.length:Int)) = !decide ((b.length:Int)<=400):=by
   by_cases hb:(b.length:Int)<=400
   ·rw [dT_ hb,dF_ (by omega)];rfl
   ·rw [dF_ hb,dT_ (by omega)];rfl
  have J:decide (at_<0) = !decide (0<=at_):=by
   by_cases hb:0<=at_
   ·rw [dT_ hb,dF_ (by omega)];rfl
   ·rw [dF_ hb,dT_ (by omega)];rfl
  have H:decide ((b.length:Int)<at_) = !decide (at_<=(b.length:Int)):=by
   by_cases hb:at_<=(b.length:Int)
   ·rw [dT_ hb,dF_ (by omega)];rfl
   ·rw [dF_ hb,dT_ (by omega)];rfl
  rw [I,J,H]
  generalize (a_0 d && a_Z d rule)=a at *
  generalize decide (0<=at_)=c at *
  generalize decide (at_<=(b.length:Int))=c' at *
  generalize decide ((b.length:Int)<=400)=e at *
  cases a <;> cases c <;> cases c' <;> cases e <;> first | rfl | exact absurd rfl h
def b_f (d:d_):Int:=(d.rules.length:Int) - 1
theorem j_R (hd:SmD d):e_0 d=some (b_f d):=by
 have:=hd.rules;have:=MXv;unfold e_0 b_f;rw [b_q (by omega) (by omega)]
theorem j_S (hd:SmD d):e_C d=some (b_f d):=by
 have:=hd.rules;have:=MXv;unfold e_C b_f;rw [b_q (by omega) (by omega)]
def a_u (d:d_)(b:List UInt8):Val×Int×Int:=if (b_B d (b_f d) b 0).2.2=0/\(b_B d (b_f d) b 0).2.1<(b.length:Int) then (zV,(b_B d (b_f d) b 0).2.1,7) else b_B d (b_f d) b 0
theorem m_w (v:Val)(e c:Int)(len:Int):bd (α:=Bool) (if (c==0)=true then some (decide<|e<len) else some false) (fun H=>if H=true then some ((⟨0,([]:List UInt8),([]:List Val)⟩:Val),e,7) else some ((⟨v.number,v.bytes,v.items⟩:Val),e,c))=some (if c=0/\e<len then (zV,e,7) else (v,e,c)):=by
 rw [d_e]
 by_cases G:c=0
 ·subst G
  by_cases h1:e<len
  ·rw [dT_ h1,iP_ (show (0:Int)=0/\e<len from ⟨rfl,h1⟩)];rfl
  ·rw [dF_ h1,iN_ (show ¬((0:Int)=0/\e<len) from fun h=>h1 h.2)];rfl
 ·rw [show (c==0)=false by simpa using G,iN_ (show ¬(c=0/\e<len) from fun h=>G h.1)];rfl
theorem j_T (hd:SmD d){n:Nat}(hn:500<=n):e_K n d b=some (a_u d b):=by
 unfold e_K a_u
 rw [j_R hd,bd_some,q_p hd hn]
 generalize b_B d (b_f d) b 0=x;exact m_w x.1 x.2.1 x.2.2 _
theorem j_U (hd:SmD d){n:Nat}(hn:500<=n):e_F n d b=some (a_u d b):=by
 unfold e_F a_u
 rw [j_S hd,bd_some,q_o hd hn]
 generalize b_B d (b_f d) b 0=x;exact m_w x.1 x.2.1 x.2.2 _
end
end Go.Vw
