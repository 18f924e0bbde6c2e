
import Derived.Test.YtajhmimbhplkfaaGreatDoorVwP7
set_option linter.unusedVariables false
namespace Go.Vw
open Go.RowKit Dat
section
variable {d:d_} {b:List UInt8}
theorem o_x {r:g_} {num:Int} {p:Nat} {x:List Val×Nat×Int} (h:(a_O b r num p x).2.2 ≠ 0):(a_O b r num p x).1=zV:=by
 unfold a_O at *
 split
 ·rename_i h0
  rw [iP_ h0] at h
  split
  ·rename_i h9
   rw [iP_ h9] at h
   cases hb:b[x.2.1]? with
   | none=>rfl
   | some c =>
    rw [hb] at h
    simp only at h ⊢
    split
    ·rename_i hs;rw [iP_ hs] at h;exact absurd rfl h
    ·rfl
  ·rename_i h9;rw [iN_ h9] at h;exact absurd rfl h
 ·rfl
theorem rdB_zV {rs:List g_} {r:g_} {p:Nat} {rd:Int→Nat→RR} (h:(rdB rs b r p rd).2.2 ≠ 0):(rdB rs b r p rd).1=zV:=by
 have hby : ∀ p n,(a_G b p n).2.2 ≠ 0→(a_G b p n).1=zV:=fun p n h=>by
  unfold a_G at *
  split
  ·rfl
  ·rename_i h0;rw [iN_ h0] at h;exact absurd rfl h
 unfold rdB at *
 split
 ·rename_i h1;rw [iP_ h1] at h
  cases hd:a_7 b r p with
  | none=>rfl
  | some n=>rw [hd] at h;exact absurd rfl h
 rename_i h1;rw [iN_ h1] at h
 split
 ·rfl
 rename_i h2;rw [iN_ h2] at h
 split
 ·rename_i h3;rw [iP_ h3] at h;exact hby _ _ h
 rename_i h3;rw [iN_ h3] at h
 split
 ·rename_i h4;rw [iP_ h4] at h
  cases hd:a_7 b (N_ rs<|E_ r) p with
  | none=>rfl
  | some n=>rw [hd] at h;exact hby _ _ h
 rename_i h4;rw [iN_ h4] at h
 split
 ·rename_i h5;rw [iP_ h5] at h
  cases hd:c_g b p (r.bytes.getD 0 0) with
  | none=>rfl
  | some n=>rw [hd] at h;exact absurd rfl h
 rename_i h5;rw [iN_ h5] at h
 cases hh:a_a rs b r p with
 | inl c=>rfl
 | inr x=>rw [hh] at h;exact o_x h
theorem rdW_zV {i at_:Nat} (h:(rdW d.rules b i at_).2.2 ≠ 0):(rdW d.rules b i at_).1=zV:=by
 rw [rdW] at *;exact rdB_zV h
def c_N (rd:Int→Nat→RR) (L:Nat):List Int→Nat→List Val→Nat→Prop
 | [],p,vs,e=>vs=[]∧e=p
 | k::ks,p,vs,e=>p≤L∧(rd k p).2.2=0 ∧ ∃ ws,vs=(rd k p).1::ws∧c_N rd L ks (rd k p).2.1 ws e
theorem l_4 {rd:Int→Nat→RR} {L:Nat} : ∀ (ks:List Int) (p:Nat),p≤L→(∀ k∈ks,∀ p,p≤L→(rd k p).2.1≤L)→(S_ rd ks p).2.2=0→c_N rd L ks p (S_ rd ks p).1 (S_ rd ks p).2.1
 | [],p,_,_,_=>⟨rfl,rfl⟩
 | k::ks,p,hp,hle,h=>by
  unfold S_ at *
  by_cases h0:(rd k p).2.2=0
  ·rw [iP_ h0] at *
   by_cases h1:(S_ rd ks (rd k p).2.1).2.2=0
   ·rw [iP_ h1] at *
    exact ⟨hp,h0,_,rfl,l_4 ks _ (hle k mS_ p hp) (fun k hk=>hle k<|mT_ _ hk) h1⟩
   ·rw [iN_ h1] at h;exact absurd h h1
  ·rw [iN_ h0] at h;exact absurd h h0
theorem h_8 {rd:Int→Nat→RR} {L:Nat} : ∀ {ks:List Int} {p:Nat} {vs:List Val} {e:Nat},c_N rd L ks p vs e→vs.length=ks.length
 | [],_,_,_,h=>by rw [h.1];rfl
 | _::_,_,_,_,h=>by obtain ⟨_,_,ws,rfl,h⟩:=h;simp [h_8 h]
def a_l (rs:List g_) (r:g_) (at_:Nat):Nat:=if r.kind==5 || r.kind==7 then at_+(N_ rs<|E_ r).size.toNat else if r.kind==8 then at_+1 else at_
theorem o_y {rs:List g_} {r:g_} {at_:Nat} (h:a_q rs r=true) (hk:5≤r.kind∧r.kind≤9) {num:Int} {ks:List Int} {st:Nat} (hh:a_a rs b r at_ = .inr (num,ks,st)) :
  (∀ j (hj:j<ks.length),Y_ r num j=ks[j])∧st=a_l rs r at_∧(r.kind=9→num=0):=by
 unfold a_a at hh
 by_cases h5:r.kind=5
 ·rw [h5] at hh
  simp only [bQ_,fT_] at hh
  cases hi:a_7 b (N_ rs<|E_ r) at_ with
  | none=>rw [hi] at hh;cases hh
  | some n =>
   rw [hi] at hh
   simp only at hh
   split at hh
   ·cases hh
   ·cases hh
    refine ⟨fun j hj=>by unfold Y_;rw [h5];simp,by unfold a_l;rw [h5];rfl,by omega⟩
 rw [show (r.kind==5)=false by simpa using h5] at hh
 by_cases h6:r.kind=6
 ·rw [h6] at hh
  simp only [bF_,fF_,bQ_,fT_] at hh
  cases hh
  exact ⟨fun j hj=>by unfold Y_;rw [h6];simp [hj],by unfold a_l;rw [h6];rfl,by omega⟩
 rw [show (r.kind==6)=false by simpa using h6] at hh
 by_cases h7:r.kind=7
 ·rw [h7] at hh
  simp only [bF_,fF_,bQ_,fT_] at hh
  cases hi:a_7 b (N_ rs<|E_ r) at_ with
  | none=>rw [hi] at hh;cases hh
  | some n =>
   rw [hi] at hh
   simp only at hh
   cases ht:a_Y r.tags n with
   | none=>rw [ht] at hh;cases hh
   | some k =>
    rw [ht] at hh
    cases hh
    refine ⟨fun j hj=>?_,by unfold a_l;rw [h7];rfl,by omega⟩;have:j=0:=by simpa using hj
    subst this;unfold Y_;rw [h7];simp [ht]
 rw [show (r.kind==7)=false by simpa using h7] at hh
 by_cases h8:r.kind=8
 ·rw [h8] at hh
  simp only [bF_,fF_,bQ_,fT_] at hh
  cases hi:b[at_]? with
  | none=>rw [hi] at hh;cases hh
  | some c =>
   rw [hi] at hh
   simp only at hh
   split at hh
   ·cases hh
   ·cases hh
    exact ⟨fun j hj=>by unfold Y_;rw [h8];simp,by unfold a_l;rw [h8];rfl,by omega⟩
 rw [show (r.kind==8)=false by simpa using h8] at hh
 simp only [bF_,fF_] at hh
 cases hh
 have h9:r.kind=9:=by omega
 refine ⟨fun j hj=>?_,by unfold a_l;rw [h9];rfl,fun _=>rfl⟩;have:j=0:=by simpa using hj
 subst this;unfold Y_;rw [h9];simp
structure RdOk (d:d_) (b:List UInt8) (r:g_) (at_:Nat) (x:RR) (ks:List Int) (e:Nat):Prop where
 item : ∀ j (hj:j<ks.length),Y_ r x.1.number j=ks[j]
 kids : ∀ k∈ks,k∈r.kids
 small:ks.length≤40
 ch:c_N (fun k p=>rdW d.rules b k.toNat p) b.length ks (a_l d.rules r at_) x.1.items e
 st:at_≤a_l d.rules r at_∧a_l d.rules r at_≤b.length
 se:a_l d.rules r at_≤e
 le:e≤x.2.1
 go:at_<x.2.1∨(e=x.2.1∧a_l d.rules r at_=at_∧ks ≠ [])
theorem d_J (hv:a_6 d=true) {i:Nat} (hi:i<d.rules.length) {at_:Nat} (ha:at_≤b.length) (hok:(rdW d.rules b i at_).2.2=0) :
  ∃ ks e,RdOk d b d.rules[i] at_ (rdW d.rules b i at_) ks e:=by
 have hbase:=c_6 (b:=b) hv i hi at_ ha
 rw [e_i hv hi ha] at *
 have hr:=b_m hv hi;have hal:=e_h hr.kind;generalize hrr:d.rules[i]=r at *
 have leaf : ∀ (x:RR),a_l d.rules r at_=at_→at_<x.2.1→x.1.items=[] → ∃ ks e,RdOk d b r at_ x ks e:=fun x h1 h2 h3 =>
  ⟨[],at_,fun j hj=>by simp at hj,fun k hk=>by simp at hk,by simp,by rw [h3,h1];exact ⟨rfl,rfl⟩,by rw [h1];exact ⟨Nat.le_refl _,ha⟩,by rw [h1];exact Nat.le_refl _,Nat.le_of_lt h2,.inl h2⟩
 have hby : ∀ p n,(a_G b p n).2.2=0→(a_G b p n).1.items=[]∧(a_G b p n).2.1=p+n.toNat:=fun p n h=>by
  unfold a_G at *
  split at h
  ·cases h
  ·rename_i h0;rw [iN_ h0];exact ⟨rfl,rfl⟩
 unfold rdB at *
 by_cases h1:r.kind=1
 ·rw [h1] at hok ⊢;simp only [bQ_,fT_] at hok ⊢
  have hst:a_l d.rules r at_=at_:=by unfold a_l;rw [h1];rfl
  cases hd:a_7 b r at_ with
  | none=>rw [hd] at hok;cases hok
  | some n=>have:=(f_8 hr.kind h1).2.1;exact leaf _ hst (by simp only;omega) rfl
 rw [show (r.kind==1)=false by simpa using h1] at *
 by_cases h2:r.kind=2
 ·rw [h2] at hok ⊢
  have hst:a_l d.rules r at_=at_:=by unfold a_l;rw [h2];rfl
  have:=o_4 hr.kind h2
  exact leaf _ hst (by
   have h:=o_1 (show (a_X b r.bytes at_).2=0 from hok)
   show at_<(a_X b r.bytes at_).1
   omega) rfl
 rw [show (r.kind==2)=false by simpa using h2] at *
 by_cases h3:r.kind=3
 ·rw [h3] at hok ⊢
  have hst:a_l d.rules r at_=at_:=by unfold a_l;rw [h3];rfl
  have:=f_9 hr.kind h3;have h:=hby at_ r.size hok
  exact leaf _ hst (by
   show at_<(a_G b at_ r.size).2.1
   omega) h.1
 rw [show (r.kind==3)=false by simpa using h3] at *
 by_cases h4:r.kind=4
 ·rw [h4] at hok ⊢;simp only [bF_,fF_,bQ_,fT_] at hok ⊢
  have hst:a_l d.rules r at_=at_:=by unfold a_l;rw [h4];rfl
  cases hd:a_7 b (N_ d.rules<|E_ r) at_ with
  | none=>rw [hd] at hok;cases hok
  | some n =>
   rw [hd] at hok
   have:=(b_H (f_a hr.kind h4).1).2.2.1;have h:=hby _ n hok;exact leaf _ hst (by simp only;omega) h.1
 rw [show (r.kind==4)=false by simpa using h4] at *
 by_cases h10:r.kind=10
 ·rw [h10] at hok ⊢;simp only [bF_,fF_,bQ_,fT_] at hok ⊢
  have hst:a_l d.rules r at_=at_:=by unfold a_l;rw [h10];rfl
  cases hd:c_g b at_ (r.bytes.getD 0 0) with
  | none=>rw [hd] at hok;cases hok
  | some x=>have:=h_0 _ _ _ _ _ hd;exact leaf _ hst (by simp only;omega) rfl
 rw [show (r.kind==10)=false by simpa using h10] at *
 simp only [bF_,fF_] at hok ⊢
 cases hh:a_a d.rules b r at_ with
 | inl c=>rw [hh] at hok;exact absurd hok (by
   intro hc
   simp only at hc
   subst hc;unfold a_a at hh
   split at hh
   ·cases hi:a_7 b (N_ d.rules<|E_ r) at_ with
    | none=>rw [hi] at hh;cases hh
    | some n=>rw [hi] at hh;simp only at hh;split at hh <;> cases hh
   split at hh
   ·cases hh
   split at hh
   ·cases hi:a_7 b (N_ d.rules<|E_ r) at_ with
    | none=>rw [hi] at hh;cases hh
    | some n =>
     rw [hi] at hh;simp only at hh
     cases ht:a_Y r.tags n with
     | none=>rw [ht] at hh;cases hh
     | some k=>rw [ht] at hh;cases hh
   split at hh
   ·cases hi:b[at_]? with
    | none=>rw [hi] at hh;cases hh
    | some c=>rw [hi] at hh;simp only at hh;split at hh <;> cases hh
   ·cases hh)
 | inr y =>
  obtain ⟨num,ks,st⟩:=y
  rw [hh] at hok
  simp only at hok ⊢
  have hk:=j_6 hr.kind (by omega) ha hh;obtain ⟨hitem,hst,hn9⟩:=o_y hr.kind (by omega) hh
  have hlek : ∀ k∈ks,∀ p,p≤b.length→p≤(rdW d.rules b k.toNat p).2.1∧(rdW d.rules b k.toNat p).2.1≤b.length:=fun k hk' p hp=>by
   have:=hr.kids k<|hk.1 k hk';exact c_6 hv k.toNat (by omega) p hp
  have hile:=f_c (rd:=fun k p=>rdW d.rules b k.toNat p) (L:=b.length) ks st hk.2.2.1 hlek;have hch:=l_4 (rd:=fun k p=>rdW d.rules b k.toNat p) (L:=b.length) ks st hk.2.2.1<|fun k hk' p hp=>(hlek k hk' p hp).2;generalize S_ (fun k p=>rdW d.rules b k.toNat p) ks st=x at *
  have h0:x.2.2=0:=by
   unfold a_O at hok
   split at hok
   ·assumption
   ·rename_i hx;exact absurd hok hx
  have hch:=hch h0
  have hnk:r.kind=6∨r.kind=9→ks ≠ []:=by
   intro h69 hnil;unfold a_a at hh
   rcases h69 with h | h
   ·rw [h] at hh
    have:=e_g hr.kind h
    cases hh
    rw [hnil] at this;simp at this
   ·rw [h] at hh;cases hh;cases hnil
  subst hst;refine ⟨ks,x.2.1,?_⟩;unfold a_O at hok ⊢
  rw [iP_ h0] at hok ⊢
  by_cases h9:r.kind=9
  ·rw [show (r.kind==9)=true by simpa using h9] at hok ⊢
   simp only [fT_] at hok ⊢
   cases hb:b[x.2.1]? with
   | none=>rw [hb] at hok;cases hok
   | some c =>
    rw [hb] at hok
    simp only at hok ⊢
    by_cases hs:byteI c=b_z (b_8 b at_ x.2.1)
    ·rw [iP_ hs]
     have:=hn9 h9;subst this;exact ⟨hitem,hk.1,hk.2.2.2.1,hch,⟨hk.2.1,hk.2.2.1⟩,hile.1,by simp only;omega,.inl (by simp only;omega)⟩
    ·rw [iN_ hs] at hok;cases hok
  ·rw [show (r.kind==9)=false by simpa using h9]
   simp only [bF_,fF_]
   refine ⟨hitem,hk.1,hk.2.2.2.1,hch,⟨hk.2.1,hk.2.2.1⟩,hile.1,Nat.le_refl _,?_⟩
   by_cases hst:a_l d.rules r at_=at_
   ·exact .inr ⟨rfl,hst,hnk<|hk.2.2.2.2 hst⟩
   ·left;simp only;omega
theorem rdW_lt (hv:a_6 d=true) : ∀ (i:Nat),i<d.rules.length → ∀ at_,at_≤b.length→(rdW d.rules b i at_).2.2=0→at_<(rdW d.rules b i at_).2.1:=by
 intro i
 induction i using Nat.strongRecOn with
 | _ i ih =>
  intro hi at_ ha hok;obtain ⟨ks,e,h⟩:=d_J hv hi ha hok
  rcases h.go with hgo | ⟨he,hst,hne⟩
  ·exact hgo
  ·have hch:=h.ch
   cases ks with
   | nil=>exact absurd rfl hne
   | cons k ks =>
    obtain ⟨hp,h0,ws,hws,hrest⟩:=hch;have hkid:=(b_m hv hi).kids k (h.kids k mS_);have hlt:=ih k.toNat (by omega) (by omega) _ hp h0
    have hmono : ∀ (ks:List Int) (p:Nat) (vs:List Val) (e:Nat),p≤b.length→(∀ k∈ks,0≤k∧k<(i:Int))→c_N (fun k p=>rdW d.rules b k.toNat p) b.length ks p vs e→p≤e:=by
     intro ks
     induction ks with
     | nil=>intro p vs e _ _ h;rw [h.2];exact Nat.le_refl _
     | cons k ks ihk =>
      intro p vs e hp hkk h;obtain ⟨_,_,ws,_,h⟩:=h;have hk:=hkk k mS_;have hl:=c_6 (b:=b) hv k.toNat (by omega) p hp;have:=ihk _ ws e hl.2 (fun k hk=>hkk k<|mT_ _ hk) h
      omega
    have:=hmono ks _ ws e (c_6 hv k.toNat (by omega) _ hp).2 (fun k' hk'=>(b_m hv hi).kids k' (h.kids k'<|mT_ _ hk')) hrest
    omega
def okV (d:d_) (b:List UInt8) (rule at_:Int):Bool:=(a_6 d && b_3 d rule) && ((decide (0≤at_) && decide (at_≤(b.length:Int))) && decide ((b.length:Int)≤400))
def b_4 (d:d_) (rule:Int) (b:List UInt8) (at_:Int):Val×Int×Int:=if okV d b rule at_=true then b_o (rdW d.rules b rule.toNat at_.toNat) else (zV,0,8)
theorem h_9 {rule at_:Int} (h:okV d b rule at_=true):a_6 d=true∧b.length≤400 ∧ ∃ i p:Nat,rule=i∧at_=p∧i<d.rules.length∧p≤b.length:=by
 unfold okV b_3 at h
 simp only [aE_,dE_] at h
 exact ⟨h.1.1,by omega,rule.toNat,at_.toNat,by omega,by omega,by omega,by omega⟩
theorem o_z (hd:SmD d) {n:Nat} (hn:500≤n) (rule at_:Int):f_J n d rule b at_=some (b_4 d rule b at_):=by
 unfold f_J b_4
 rw [g_V d hd,b_n]
 by_cases h:okV d b rule at_=true
 ·rw [iP_ h]
  obtain ⟨hv,hb,i,p,rfl,rfl,hi,hp⟩:=h_9 h;have hlen:=(c_5 hv).2;have e1:(a_6 d && b_3 d (i:Int))=true:=by unfold b_3;rw [hv,dT_ (by omega),dT_ (by omega)];rfl
  rw [e1,dT_ (show (0:Int)≤(p:Int) by omega),dT_ (show (p:Int)≤(b.length:Int) by omega),dF_ (show ¬ (400:Int)<(b.length:Int) by omega)]
  simp only [bd_some,nT_,bF_,fF_,Bool.and_self]
  rw [k_K hv hd hb i hi n (by omega) p hp]
  rfl
 ·rw [iN_ h]
  unfold okV at h
  have e400:decide ((400:Int)<(b.length:Int)) = !decide ((b.length:Int)≤400):=by
   by_cases hb:(b.length:Int)≤400
   ·rw [dT_ hb,dF_ (by omega)];rfl
   ·rw [dF_ hb,dT_ (by omega)];rfl
  rw [e400]
  generalize (a_6 d && b_3 d rule)=a at *
  generalize (decide (0≤at_) && decide (at_≤(b.length:Int)))=c at *
  generalize decide ((b.length:Int)≤400)=e at *
  cases a <;> cases c <;> cases e <;> first | rfl | exact absurd rfl h
theorem o_A (hd:SmD d) {n:Nat} (hn:500≤n) (rule at_:Int):g_a n d rule b at_=some (b_4 d rule b at_):=by
 unfold g_a b_4
 rw [i_X n (by omega) d hd]
 by_cases h:okV d b rule at_=true
 ·rw [iP_ h]
  obtain ⟨hv,hb,i,p,rfl,rfl,hi,hp⟩:=h_9 h;have hlen:=(c_5 hv).2;have e1:(a_6 d && b_3 d (i:Int))=true:=by unfold b_3;rw [hv,dT_ (by omega),dT_ (by omega)];rfl
  rw [e1,dF_ (show ¬ (p:Int)<0 by omega),dF_ (show ¬ (b.length:Int)<(p:Int) by omega),dF_ (show ¬ (400:Int)<(b.length:Int) by omega)]
  simp only [bd_some,nT_,bF_,fF_]
  obtain ⟨nx,hrd⟩:=o_v hv hd hb i hi n (by omega) p hp
  rw [hrd]
  show _=some (b_o<|rdW d.rules b i p)
  have hz:=rdW_zV (d:=d) (b:=b) (i:=i) (at_:=p);generalize rdW d.rules b i p=x at *
  unfold c_7 b_o
  by_cases h0:x.2.2=0
  ·rw [iP_ h0,h0];rfl
  ·rw [iN_ h0,hz h0];rfl
 ·rw [iN_ h]
  unfold okV at h
  have e400:decide ((400:Int)<(b.length:Int)) = !decide ((b.length:Int)≤400):=by
   by_cases hb:(b.length:Int)≤400
   ·rw [dT_ hb,dF_ (by omega)];rfl
   ·rw [dF_ hb,dT_ (by omega)];rfl
  have e0:decide (at_<0) = !decide (0≤at_):=by
   by_cases hb:0≤at_
   ·rw [dT_ hb,dF_ (by omega)];rfl
   ·rw [dF_ hb,dT_ (by omega)];rfl
  have e1:decide ((b.length:Int)<at_) = !decide (at_≤(b.length:Int)):=by
   by_cases hb:at_≤(b.length:Int)
   ·rw [dT_ hb,dF_ (by omega)];rfl
   ·rw [dF_ hb,dT_ (by omega)];rfl
  rw [e400,e0,e1]
  generalize (a_6 d && b_3 d rule)=a at *
  generalize decide (0≤at_)=c at *
  generalize decide (at_≤(b.length:Int))=c' at *
  generalize decide ((b.length:Int)≤400)=e at *
  cases a <;> cases c <;> cases c' <;> cases e <;> first | rfl | exact absurd rfl h
theorem o_B (hd:SmD d) {n:Nat} (hn:500≤n) (rule at_:Int):f_X n d rule b at_=some ((b_4 d rule b at_).2.1,(b_4 d rule b at_).2.2):=by
 unfold f_X b_4
 rw [i_X n (by omega) d hd]
 by_cases h:okV d b rule at_=true
 ·rw [iP_ h]
  obtain ⟨hv,hb,i,p,rfl,rfl,hi,hp⟩:=h_9 h;have hlen:=(c_5 hv).2;have e1:(a_6 d && b_3 d (i:Int))=true:=by unfold b_3;rw [hv,dT_ (by omega),dT_ (by omega)];rfl
  rw [e1,dF_ (show ¬ (p:Int)<0 by omega),dF_ (show ¬ (b.length:Int)<(p:Int) by omega),dF_ (show ¬ (400:Int)<(b.length:Int) by omega)]
  simp only [bd_some,nT_,bF_,fF_]
  obtain ⟨ap',hrd⟩:=o_w hv hd hb i hi n (by omega) p hp 0
  rw [show (⟨(⟨d.rules⟩:d_),b,0⟩:Z_)=⟨d,b,0⟩ from rfl,hrd]
  rfl
 ·rw [iN_ h]
  unfold okV at h
  have e400:decide ((400:Int)<(b.length:Int)) = !decide ((b.length:Int)≤400):=by
   by_cases hb:(b.length:Int)≤400
   ·rw [dT_ hb,dF_ (by omega)];rfl
   ·rw [dF_ hb,dT_ (by omega)];rfl
  have e0:decide (at_<0) = !decide (0≤at_):=by
   by_cases hb:0≤at_
   ·rw [dT_ hb,dF_ (by omega)];rfl
   ·rw [dF_ hb,dT_ (by omega)];rfl
  have e1:decide ((b.length:Int)<at_) = !decide (at_≤(b.length:Int)):=by
   by_cases hb:at_≤(b.length:Int)
   ·rw [dT_ hb,dF_ (by omega)];rfl
   ·rw [dF_ hb,dT_ (by omega)];rfl
  rw [e400,e0,e1]
  generalize (a_6 d && b_3 d rule)=a at *
  generalize decide (0≤at_)=c at *
  generalize decide (at_≤(b.length:Int))=c' at *
  generalize decide ((b.length:Int)≤400)=e at *
  cases a <;> cases c <;> cases c' <;> cases e <;> first | rfl | exact absurd rfl h
def b_5 (d:d_):Int:=(d.rules.length:Int) - 1
theorem l_5 (hd:SmD d):e_v d=some (b_5 d):=by
 have:=hd.rules;have:=MXv;unfold e_v b_5;rw [a_C (by omega) (by omega)]
theorem j_f (hd:SmD d):d_h d=some (b_5 d):=by
 have:=hd.rules;have:=MXv;unfold d_h b_5;rw [a_C (by omega) (by omega)]
def c_8 (d:d_) (b:List UInt8):Val×Int×Int:=if (b_4 d (b_5 d) b 0).2.2=0∧(b_4 d (b_5 d) b 0).2.1<(b.length:Int) then (zV,(b_4 d (b_5 d) b 0).2.1,7) else b_4 d (b_5 d) b 0
theorem l_6 (v:Val) (e c:Int) (len:Int):bd (α:=Bool) (if (c==0)=true then some (decide<|e<len) else some false) (fun x442=>if x442=true then some ((⟨0,([]:List UInt8),([]:List Val)⟩:Val),e,7) else some ((⟨v.number,v.bytes,v.items⟩:Val),e,c))=some (if c=0∧e<len then (zV,e,7) else (v,e,c)):=by
 rw [k_J]
 by_cases h0:c=0
 ·subst h0
  by_cases h1:e<len
  ·rw [dT_ h1,iP_ (show (0:Int)=0∧e<len from ⟨rfl,h1⟩)];rfl
  ·rw [dF_ h1,iN_ (show ¬ ((0:Int)=0∧e<len) from fun h=>h1 h.2)];rfl
 ·rw [show (c==0)=false by simpa using h0,iN_ (show ¬ (c=0∧e<len) from fun h=>h0 h.1)];rfl
theorem o_C (hd:SmD d) {n:Nat} (hn:500≤n):g_b n d b=some (c_8 d b):=by
 unfold g_b c_8
 rw [l_5 hd,bd_some,o_A hd hn]
 generalize b_4 d (b_5 d) b 0=x;exact l_6 x.1 x.2.1 x.2.2 _
theorem o_D (hd:SmD d) {n:Nat} (hn:500≤n):f_K n d b=some (c_8 d b):=by
 unfold f_K c_8
 rw [j_f hd,bd_some,o_z hd hn]
 generalize b_4 d (b_5 d) b 0=x;exact l_6 x.1 x.2.1 x.2.2 _
end
end Go.Vw
