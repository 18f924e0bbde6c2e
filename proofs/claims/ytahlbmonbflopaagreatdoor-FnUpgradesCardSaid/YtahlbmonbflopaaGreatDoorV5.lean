import Derived.Test.YtahlbmonbflopaaGreatDoorV4
namespace Go.Vw
open Go.RowKit Dat
section
variable {d:c_}{b:Bt}
theorem r_j {r:b_}{num:Int}{p:Nat}{x:List Val×Nat×Int}(h:(a_W b r num p x).2.2 ≠ 0):(a_W b r num p x).1=zV:=by
 unfold a_W at *
 split
 .rename_i H
  rw [iP_ H] at h
  split
  .rename_i G
   rw [iP_ G] at h
   cases hb:b[x.2.1]? with
   | none=>rfl
   | some c =>
    rw [hb] at h
    simp only at h ⊢
    split
    .rename_i hs;rw [iP_ hs] at h;exact absurd rfl h
    .rfl
  .rename_i G;rw [iN_ G] at h;exact absurd rfl h
 .rfl
theorem rdB_zV {rs:List b_}{r:b_}{p:Nat}{rd:Int->Nat->RR}(h:(rdB rs b r p rd).2.2 ≠ 0):(rdB rs b r p rd).1=zV:=by
 have hby:∀p n,(a_R b p n).2.2 ≠ 0->(a_R b p n).1=zV:=λp n h=>by
  unfold a_R at *
  split
  .rfl
  .rename_i G;rw [iN_ G] at h;exact absurd rfl h
 unfold rdB at *
 split
 .rename_i h1;rw [iP_ h1] at h
  cases hd:a_k b r p with
  | none=>rfl
  | some n=>rw [hd] at h;exact absurd rfl h
 rename_i h1;rw [iN_ h1] at h
 split
 .rfl
 rename_i h2;rw [iN_ h2] at h
 split
 .rename_i h3;rw [iP_ h3] at h;exact hby _ _ h
 rename_i h3;rw [iN_ h3] at h
 split
 .rename_i h4;rw [iP_ h4] at h
  cases hd:a_k b (O_ rs<|o_ r) p with
  | none=>rfl
  | some n=>rw [hd] at h;exact hby _ _ h
 rename_i h4;rw [iN_ h4] at h
 split
 .rename_i h5;rw [iP_ h5] at h
  cases hd:c_w b p (r.bytes.getD 0 0) with
  | none=>rfl
  | some n=>rw [hd] at h;exact absurd rfl h
 rename_i h5;rw [iN_ h5] at h
 cases hh:a_r rs b r p with
 | inl c=>rfl
 | inr x=>rw [hh] at h;exact r_j h
theorem rdW_zV {i at_:Nat}(h:(rdW d.rules b i at_).2.2 ≠ 0):(rdW d.rules b i at_).1=zV:=by
 rw [rdW] at *;exact rdB_zV h
def h_i (rd:Int->Nat->RR)(L:Nat):List Int->Nat->List Val->Nat->Prop
 | [],p,vs,e=>vs=[]/\e=p
 | k::ks,p,vs,e=>p<=L/\(rd k p).2.2=0/\∃ws,vs=(rd k p).1::ws/\h_i rd L ks (rd k p).2.1 ws e
theorem n_v {rd:Int->Nat->RR}{L:Nat}:∀(ks:List Int)(p:Nat),p<=L->(∀k∈ks,∀p,p<=L->(rd k p).2.1<=L)->(a_c rd ks p).2.2=0->h_i rd L ks p (a_c rd ks p).1 (a_c rd ks p).2.1
 | [],p,_,_,_=>⟨rfl,rfl⟩
 | k::ks,p,hp,hle,h=>by
  unfold a_c at *
  by_cases G:(rd k p).2.2=0
  .rw [iP_ G] at *
   by_cases h1:(a_c rd ks (rd k p).2.1).2.2=0
   .rw [iP_ h1] at *
    exact ⟨hp,G,_,rfl,n_v ks _ (hle k mS_ p hp) (λk hk=>hle k<|mT_ _ hk) h1⟩
   .rw [iN_ h1] at h;exact absurd h h1
  .rw [iN_ G] at h;exact absurd h G
def b_o (rs:List b_)(r:b_)(at_:Nat):Nat:=if r.kind==5 || r.kind==7 then at_+(O_ rs<|o_ r).size.toNat else if r.kind==8 then at_+1 else at_
theorem r_k {rs:List b_}{r:b_}{at_:Nat}(_:a_2 rs r=true)(hk:5<=r.kind/\r.kind<=9){num:Int}{ks:List Int}{st:Nat}(hh:a_r rs b r at_ = .inr (num,ks,st)) :
  (∀j (hj:j<ks.length),P_ r num j=ks[j])/\st=b_o rs r at_/\(r.kind=9->num=0):=by
 unfold a_r at hh
 by_cases h5:r.kind=5
 .rw [h5] at hh
  simp only [bQ_,fT_] at hh
  cases hi:a_k b (O_ rs<|o_ r) at_ with
  | none=>rw [hi] at hh;cases hh
  | some n =>
   rw [hi] at hh
   simp only at hh
   split at hh
   .cases hh
   .cases hh
    refine ⟨λj hj=>by unfold P_;rw [h5];simp,by unfold b_o;rw [h5];rfl,by omega⟩
 rw [show (r.kind==5)=false by simpa using h5] at hh
 by_cases h6:r.kind=6
 .rw [h6] at hh
  simp only [bF_,fF_,bQ_,fT_] at hh
  cases hh
  exact ⟨λj hj=>by unfold P_;rw [h6];simp [hj],by unfold b_o;rw [h6];rfl,by omega⟩
 rw [show (r.kind==6)=false by simpa using h6] at hh
 by_cases G:r.kind=7
 .rw [G] at hh
  simp only [bF_,fF_,bQ_,fT_] at hh
  cases hi:a_k b (O_ rs<|o_ r) at_ with
  | none=>rw [hi] at hh;cases hh
  | some n =>
   rw [hi] at hh
   simp only at hh
   cases ht:a_H r.tags n with
   | none=>rw [ht] at hh;cases hh
   | some k =>
    rw [ht] at hh
    cases hh
    refine ⟨λj hj=>?_,by unfold b_o;rw [G];rfl,by omega⟩;have:j=0:=by simpa using hj
    subst this;unfold P_;rw [G];simp [ht]
 rw [show (r.kind==7)=false by simpa using G] at hh
 by_cases H:r.kind=8
 .rw [H] at hh
  simp only [bF_,fF_,bQ_,fT_] at hh
  cases hi:b[at_]? with
  | none=>rw [hi] at hh;cases hh
  | some c =>
   rw [hi] at hh
   simp only at hh
   split at hh
   .cases hh
   .cases hh
    exact ⟨λj hj=>by unfold P_;rw [H];simp,by unfold b_o;rw [H];rfl,by omega⟩
 rw [show (r.kind==8)=false by simpa using H] at hh
 simp only [bF_,fF_] at hh
 cases hh
 have I:r.kind=9:=by omega
 refine ⟨λj hj=>?_,by unfold b_o;rw [I];rfl,λ_=>rfl⟩;have:j=0:=by simpa using hj
 subst this;unfold P_;rw [I];simp
structure RdOk (d:c_)(b:Bt)(r:b_)(at_:Nat)(x:RR)(ks:List Int)(e:Nat):Prop where
 item:∀j (hj:j<ks.length),P_ r x.1.number j=ks[j]
 kids:∀k∈ks,k∈r.kids
 small:ks.length<=40
 ch:h_i (λk p=>rdW d.rules b k.toNat p) b.length ks (b_o d.rules r at_) x.1.items e
 st:at_<=b_o d.rules r at_/\b_o d.rules r at_<=b.length
 se:b_o d.rules r at_<=e
 le:e<=x.2.1
 go:at_<x.2.1∨(e=x.2.1/\b_o d.rules r at_=at_/\ks ≠ [])
theorem k_Z (hv:R_ d=true){i:Nat}(hi:i<d.rules.length){at_:Nat}(ha:at_<=b.length)(hok:(rdW d.rules b i at_).2.2=0) :
  ∃ks e,RdOk d b d.rules[i] at_ (rdW d.rules b i at_) ks e:=by
 have hbase:=d_7 (b:=b) hv i hi at_ ha
 rw [h_d hv hi ha] at *
 have hr:=a_S hv hi;have hal:=d_Z hr.kind;generalize hrr:d.rules[i]=r at *
 have leaf:∀(x:RR),b_o d.rules r at_=at_->at_<x.2.1->x.1.items=[]->∃ks e,RdOk d b r at_ x ks e:=λx h1 h2 h3 =>
  ⟨[],at_,λj hj=>by simp at hj,λk hk=>by simp at hk,by simp,by rw [h3,h1];exact ⟨rfl,rfl⟩,by rw [h1];exact ⟨Nat.le_refl _,ha⟩,by rw [h1];exact Nat.le_refl _,Nat.le_of_lt h2,.inl h2⟩
 have hby:∀p n,(a_R b p n).2.2=0->(a_R b p n).1.items=[]/\(a_R b p n).2.1=p+n.toNat:=λp n h=>by
  unfold a_R at *
  split at h
  .cases h
  .rename_i G;rw [iN_ G];exact ⟨rfl,rfl⟩
 unfold rdB at *
 by_cases h1:r.kind=1
 .rw [h1] at hok ⊢;simp only [bQ_,fT_] at hok ⊢
  have hst:b_o d.rules r at_=at_:=by unfold b_o;rw [h1];rfl
  cases hd:a_k b r at_ with
  | none=>rw [hd] at hok;cases hok
  | some n=>have:=(c_J hr.kind h1).2.1;exact leaf _ hst (by simp only;omega) rfl
 rw [show (r.kind==1)=false by simpa using h1] at *
 by_cases h2:r.kind=2
 .rw [h2] at hok ⊢
  have hst:b_o d.rules r at_=at_:=by unfold b_o;rw [h2];rfl
  have:=n_4 hr.kind h2
  exact leaf _ hst (by
   have h:=q_D (show (b_v b r.bytes at_).2=0 from hok)
   show at_<(b_v b r.bytes at_).1
   omega) rfl
 rw [show (r.kind==2)=false by simpa using h2] at *
 by_cases h3:r.kind=3
 .rw [h3] at hok ⊢
  have hst:b_o d.rules r at_=at_:=by unfold b_o;rw [h3];rfl
  have:=d_s hr.kind h3;have h:=hby at_ r.size hok
  exact leaf _ hst (by
   show at_<(a_R b at_ r.size).2.1
   omega) h.1
 rw [show (r.kind==3)=false by simpa using h3] at *
 by_cases h4:r.kind=4
 .rw [h4] at hok ⊢;simp only [bF_,fF_,bQ_,fT_] at hok ⊢
  have hst:b_o d.rules r at_=at_:=by unfold b_o;rw [h4];rfl
  cases hd:a_k b (O_ d.rules<|o_ r) at_ with
  | none=>rw [hd] at hok;cases hok
  | some n =>
   rw [hd] at hok
   have:=(d_r (d_6 hr.kind h4).1).2.2.1;have h:=hby _ n hok;exact leaf _ hst (by simp only;omega) h.1
 rw [show (r.kind==4)=false by simpa using h4] at *
 by_cases H:r.kind=10
 .rw [H] at hok ⊢;simp only [bF_,fF_,bQ_,fT_] at hok ⊢
  have hst:b_o d.rules r at_=at_:=by unfold b_o;rw [H];rfl
  cases hd:c_w b at_ (r.bytes.getD 0 0) with
  | none=>rw [hd] at hok;cases hok
  | some x=>have:=j_E _ _ _ _ _ hd;exact leaf _ hst (by simp only;omega) rfl
 rw [show (r.kind==10)=false by simpa using H] at *
 simp only [bF_,fF_] at hok ⊢
 cases hh:a_r d.rules b r at_ with
 | inl c=>rw [hh] at hok;exact absurd hok (by
   intro hc
   simp only at hc
   subst hc;unfold a_r at hh
   split at hh
   .cases hi:a_k b (O_ d.rules<|o_ r) at_ with
    | none=>rw [hi] at hh;cases hh
    | some n=>rw [hi] at hh;simp only at hh;split at hh <;> cases hh
   split at hh
   .cases hh
   split at hh
   .cases hi:a_k b (O_ d.rules<|o_ r) at_ with
    | none=>rw [hi] at hh;cases hh
    | some n =>
     rw [hi] at hh;simp only at hh
     cases ht:a_H r.tags n with
     | none=>rw [ht] at hh;cases hh
     | some k=>rw [ht] at hh;cases hh
   split at hh
   .cases hi:b[at_]? with
    | none=>rw [hi] at hh;cases hh
    | some c=>rw [hi] at hh;simp only at hh;split at hh <;> cases hh
   .cases hh)
 | inr y =>
  obtain ⟨num,ks,st⟩:=y
  rw [hh] at hok
  simp only at hok ⊢
  have hk:=k_T hr.kind (by omega) ha hh;obtain ⟨hitem,hst,J⟩:=r_k hr.kind (by omega) hh
  have hlek:∀k∈ks,∀p,p<=b.length->p<=(rdW d.rules b k.toNat p).2.1/\(rdW d.rules b k.toNat p).2.1<=b.length:=λk hk' p hp=>by
   have:=hr.kids k<|hk.1 k hk';exact d_7 hv k.toNat (by omega) p hp
  have hile:=i_j (rd:=λk p=>rdW d.rules b k.toNat p) (L:=b.length) ks st hk.2.2.1 hlek;have hch:=n_v (rd:=λk p=>rdW d.rules b k.toNat p) (L:=b.length) ks st hk.2.2.1<|λk hk' p hp=>(hlek k hk' p hp).2;generalize a_c (λk p=>rdW d.rules b k.toNat p) ks st=x at *
  have G:x.2.2=0:=by
   unfold a_W at hok
   split at hok
   .assumption
   .rename_i hx;exact absurd hok hx
  have hch:=hch G
  have hnk:r.kind=6∨r.kind=9->ks ≠ []:=by
   intro O hnil;unfold a_r at hh
   rcases O with h | h
   .rw [h] at hh
    have:=d_t hr.kind h
    cases hh
    rw [hnil] at this;simp at this
   .rw [h] at hh;cases hh;cases hnil
  subst hst;refine ⟨ks,x.2.1,?_⟩;unfold a_W at hok ⊢
  rw [iP_ G] at hok ⊢
  by_cases I:r.kind=9
  .rw [show (r.kind==9)=true by simpa using I] at hok ⊢
   simp only [fT_] at hok ⊢
   cases hb:b[x.2.1]? with
   | none=>rw [hb] at hok;cases hok
   | some c =>
    rw [hb] at hok
    simp only at hok ⊢
    by_cases hs:byteI c=b_E (b_5 b at_ x.2.1)
    .rw [iP_ hs]
     have:=J I;subst this;exact ⟨hitem,hk.1,hk.2.2.2.1,hch,⟨hk.2.1,hk.2.2.1⟩,hile.1,by simp only;omega,.inl (by simp only;omega)⟩
    .rw [iN_ hs] at hok;cases hok
  .rw [show (r.kind==9)=false by simpa using I]
   simp only [bF_,fF_]
   refine ⟨hitem,hk.1,hk.2.2.2.1,hch,⟨hk.2.1,hk.2.2.1⟩,hile.1,Nat.le_refl _,?_⟩
   by_cases hst:b_o d.rules r at_=at_
   .exact .inr ⟨rfl,hst,hnk<|hk.2.2.2.2 hst⟩
   .left;simp only;omega
theorem n_w (hv:R_ d=true):∀(i:Nat),i<d.rules.length->∀at_,at_<=b.length->(rdW d.rules b i at_).2.2=0->at_<(rdW d.rules b i at_).2.1:=by
 intro i
 induction i using Nat.strongRecOn with
 | _ i ih =>
  intro hi at_ ha hok;obtain ⟨ks,e,h⟩:=k_Z hv hi ha hok
  rcases h.go with hgo | ⟨he,hst,hne⟩
  .exact hgo
  .have hch:=h.ch
   cases ks with
   | nil=>exact absurd rfl hne
   | cons k ks =>
    obtain ⟨hp,G,ws,hws,hrest⟩:=hch;have hkid:=(a_S hv hi).kids k (h.kids k mS_);have hlt:=ih k.toNat (by omega) (by omega) _ hp G
    have hmono:∀(ks:List Int)(p:Nat)(vs:List Val)(e:Nat),p<=b.length->(∀k∈ks,0<=k/\k<(i:Int))->h_i (λk p=>rdW d.rules b k.toNat p) b.length ks p vs e->p<=e:=by
     intro ks
     induction ks with
     | nil=>intro p vs e _ _ h;rw [h.2];exact Nat.le_refl _
     | cons k ks ihk =>
      intro p vs e hp hkk h;obtain ⟨_,_,ws,_,h⟩:=h;have hk:=hkk k mS_;have hl:=d_7 (b:=b) hv k.toNat (by omega) p hp;have:=ihk _ ws e hl.2 (λk hk=>hkk k<|mT_ _ hk) h
      omega
    have:=hmono ks _ ws e (d_7 hv k.toNat (by omega) _ hp).2 (λk' hk'=>(a_S hv hi).kids k' (h.kids k'<|mT_ _ hk')) hrest
    omega
def okV (d:c_)(b:Bt)(rule at_:Int):Bool:=(R_ d && b_j d rule) && ((decide (0<=at_) && decide (at_<=(b.length:Int))) && decide ((b.length:Int)<=400))
def b_O (d:c_)(rule:Int)(b:Bt)(at_:Int):Val×Int×Int:=if okV d b rule at_ then c_8 (rdW d.rules b rule.toNat at_.toNat) else (zV,0,8)
theorem l_0 {rule at_:Int}(h:okV d b rule at_=true):R_ d=true/\b.length<=400/\∃i p:Nat,rule=i/\at_=p/\i<d.rules.length/\p<=b.length:=by
 unfold okV b_j at h
 simp only [aE_,dE_] at h
 exact ⟨h.1.1,by omega,rule.toNat,at_.toNat,by omega,by omega,by omega,by omega⟩
theorem r_l (hd:SmD d){n:Nat}(hn:500<=n)(rule at_:Int):i_H n d rule b at_=some (b_O d rule b at_):=by
 unfold i_H b_O
 rw [h_4 d hd,b_u]
 by_cases h:okV d b rule at_=true
 .rw [iP_ h]
  obtain ⟨hv,hb,i,p,rfl,rfl,hi,hp⟩:=l_0 h;have hlen:=(b_X hv).2;have H:(R_ d && b_j d (i:Int))=true:=by unfold b_j;rw [hv,dT_ (by omega),dT_ (by omega)];rfl
  rw [H,dT_ (show (0:Int)<=(p:Int) by omega),dT_ (show (p:Int)<=(b.length:Int) by omega),dF_ (show ¬(400:Int)<(b.length:Int) by omega)]
  simp only [bd_some,nT_,bF_,fF_,Bool.and_self]
  rw [q_P hv hd hb i hi n (by omega) p hp]
  rfl
 .rw [iN_ h]
  unfold okV at h
  have G:decide ((400:Int)<(b.length:Int)) = !decide ((b.length:Int)<=400):=by
   by_cases hb:(b.length:Int)<=400
   .rw [dT_ hb,dF_ (by omega)];rfl
   .rw [dF_ hb,dT_ (by omega)];rfl
  rw [G]
  generalize (R_ d && b_j d rule)=a at *
  generalize (decide (0<=at_) && decide (at_<=(b.length:Int)))=c at *
  generalize decide ((b.length:Int)<=400)=e at *
  cases a <;> cases c <;> cases e <;> first | rfl | exact absurd rfl h
theorem r_m (hd:SmD d){n:Nat}(hn:500<=n)(rule at_:Int):i_V n d rule b at_=some (b_O d rule b at_):=by
 unfold i_V b_O
 rw [i_e n (by omega) d hd]
 by_cases h:okV d b rule at_=true
 .rw [iP_ h]
  obtain ⟨hv,hb,i,p,rfl,rfl,hi,hp⟩:=l_0 h;have hlen:=(b_X hv).2;have H:(R_ d && b_j d (i:Int))=true:=by unfold b_j;rw [hv,dT_ (by omega),dT_ (by omega)];rfl
  rw [H,dF_ (show ¬(p:Int)<0 by omega),dF_ (show ¬(b.length:Int)<(p:Int) by omega),dF_ (show ¬(400:Int)<(b.length:Int) by omega)]
  simp only [bd_some,nT_,bF_,fF_]
  obtain ⟨nx,hrd⟩:=r_4 hv hd hb i hi n (by omega) p hp
  rw [hrd]
  show _=some (c_8<|rdW d.rules b i p)
  have hz:=rdW_zV (d:=d) (b:=b) (i:=i) (at_:=p);generalize rdW d.rules b i p=x at *
  unfold c_L c_8
  by_cases G:x.2.2=0
  .rw [iP_ G,G];rfl
  .rw [iN_ G,hz G];rfl
 .rw [iN_ h]
  unfold okV at h
  have I:decide ((400:Int)<(b.length:Int)) = !decide ((b.length:Int)<=400):=by
   by_cases hb:(b.length:Int)<=400
   .rw [dT_ hb,dF_ (by omega)];rfl
   .rw [dF_ hb,dT_ (by omega)];rfl
  have J:decide (at_<0) = !decide (0<=at_):=by
   by_cases hb:0<=at_
   .rw [dT_ hb,dF_ (by omega)];rfl
   .rw [dF_ hb,dT_ (by omega)];rfl
  have H:decide ((b.length:Int)<at_) = !decide (at_<=(b.length:Int)):=by
   by_cases hb:at_<=(b.length:Int)
   .rw [dT_ hb,dF_ (by omega)];rfl
   .rw [dF_ hb,dT_ (by omega)];rfl
  rw [I,J,H]
  generalize (R_ d && b_j d rule)=a at *
  generalize decide (0<=at_)=c at *
  generalize decide (at_<=(b.length:Int))=c' at *
  generalize decide ((b.length:Int)<=400)=e at *
  cases a <;> cases c <;> cases c' <;> cases e <;> first | rfl | exact absurd rfl h
def a_X (d:c_):Int:=(d.rules.length:Int) - 1
theorem j_R (hd:SmD d):f_a d=some (a_X d):=by
 have:=hd.rules;have:=MXv;unfold f_a a_X;rw [a_C (by omega) (by omega)]
theorem j_S (hd:SmD d):f_7 d=some (a_X d):=by
 have:=hd.rules;have:=MXv;unfold f_7 a_X;rw [a_C (by omega) (by omega)]
def c_x (d:c_)(b:Bt):Val×Int×Int:=if (b_O d (a_X d) b 0).2.2=0/\(b_O d (a_X d) b 0).2.1<(b.length:Int) then (zV,(b_O d (a_X d) b 0).2.1,7) else b_O d (a_X d) b 0
theorem n_x (v:Val)(e c:Int)(len:Int):bd (α:=Bool) (if (c==0) then some (decide<|e<len) else some false) (λH=>if H then some ((⟨0,([]:Bt),([]:List Val)⟩:Val),e,7) else some ((⟨v.number,v.bytes,v.items⟩:Val),e,c))=some (if c=0/\e<len then (zV,e,7) else (v,e,c)):=by
 rw [n_6]
 by_cases G:c=0
 .subst G
  by_cases h1:e<len
  .rw [dT_ h1,iP_ (show (0:Int)=0/\e<len from ⟨rfl,h1⟩)];rfl
  .rw [dF_ h1,iN_ (show ¬((0:Int)=0/\e<len) from λh=>h1 h.2)];rfl
 .rw [show (c==0)=false by simpa using G,iN_ (show ¬(c=0/\e<len) from λh=>G h.1)];rfl
theorem n_y (hd:SmD d){n:Nat}(hn:500<=n):h_u n d b=some (c_x d b):=by
 unfold h_u c_x
 rw [j_R hd,bd_some,r_m hd hn]
 generalize b_O d (a_X d) b 0=x;exact n_x x.1 x.2.1 x.2.2 _
theorem n_z (hd:SmD d){n:Nat}(hn:500<=n):h_q n d b=some (c_x d b):=by
 unfold h_q c_x
 rw [j_S hd,bd_some,r_l hd hn]
 generalize b_O d (a_X d) b 0=x;exact n_x x.1 x.2.1 x.2.2 _
end
end Go.Vw
namespace Go.Vw
open Go.RowKit Dat
theorem r_n (x:Nat):mkB (h_ 48 ((x % 10:Nat):Int))=UInt8.ofNat (48+x % 10):=by
 have:x % 10=0∨x % 10=1∨x % 10=2∨x % 10=3∨x % 10=4∨x % 10=5∨x % 10=6∨x % 10=7∨x % 10=8∨x % 10=9:=by omega
 rcases this with h | h | h | h | h | h | h | h | h | h <;> rw [h] <;> decide
theorem n_A:∀(k x:Nat),x<10 ^ k->0<x->x<=4611686018427387904->∀(s:Str)(n:Nat),k+1<=n->s.b.length+k<=1000 ->
  M_ (σ:=Str×Int) (ρ:=Str) (un2 λH G=>if (G != 0) then bd (α:=Int) (if (decide<|(b_q G 10)<0) then some (g_Y<|b_q G 10) else some (b_q G 10)) (λJ=>bd (cat (⟨[mkB (h_ 48 J)]⟩:Str) H) λL=>some<|.next (L,c_l G 10)) else some (.brk (H,G))) n (s,(x:Int))=some (.inl (⟨Lib.decDigits x++s.b⟩,0))
 | 0,x,h,O,_,_,_,_,_=>by simp at h;omega
 | k+1,x,h,O,hb,s,n,hn,hs=>by
  obtain ⟨m,rfl⟩:∃m,n=m+1:=⟨n - 1,by omega⟩;unfold M_
  simp only [un2]
  rw [show ((x:Int) != 0)=true by simp;omega,j_V (by omega),n_C (by omega) (by omega) (by omega),dF_ (show ¬(x:Int) % 10<0 by omega)]
  simp only [fT_,bF_,fF_,bd_some]
  rw [show (x:Int) % 10=((x % 10:Nat):Int) by omega,r_n,i_p (by rw [a_7];simp;omega),bd_some,show (x:Int) / 10=((x / 10:Nat):Int) by omega]
  simp only
  by_cases I:x<10
  .rw [show x / 10=0 by omega,show x % 10=x by omega]
   obtain ⟨m',rfl⟩:∃m',m=m'+1:=⟨m - 1,by omega⟩
   rw [Lib.decDigits,dif_pos I]
   rfl
  .rw [n_A k (x / 10) (by rw [Nat.pow_succ] at h;omega) (by omega) (by omega) _ m (by omega) (by simp;omega)]
   rw [Lib.decDigits.eq_1 x,dif_neg I]
   simp
theorem j_T {n:Nat}(hn:30<=n)(i:Nat)(hi:i<=1000000000):d_B n i=some ⟨Lib.itoa i⟩:=by
 unfold d_B Lib.itoa
 rw [iN_ (show ¬(i:Int)<0 by omega)]
 by_cases G:i=0
 .subst G
  rw [show ((((0:Nat):Int)).toNat)=0 from rfl,Lib.decDigits,dif_pos (by omega)]
  rfl
 .rw [show ((i:Int)==0)=false by simp;omega]
  simp only [bF_,fF_]
  rw [n_A 20 i (by omega) (by omega) (by omega) ⟨[]⟩ n (by omega) (by simp),dF_ (show ¬(i:Int)<0 by omega)]
  simp
theorem j_U (i:Nat)(hi:i<=1000000000):(Lib.itoa i).length<=21:=Lib.itoa_length_le i (by omega) (by omega)
section
variable {d:c_}{b:Bt}
end
end Go.Vw
namespace Go.Vw
open Go.RowKit Dat
section
variable {d:c_}{b:Bt}
def okF (d:c_)(b:Bt):Bool:=(c_x d b).2.2==0
theorem m_w (h:okF d b=true):R_ d=true/\b.length<=400/\d.rules.length - 1<d.rules.length/\a_X d=((d.rules.length - 1:Nat):Int)/\(rdW d.rules b (d.rules.length - 1) 0).2.2=0/\(c_x d b).1=(rdW d.rules b (d.rules.length - 1) 0).1/\c_x d b=c_8 (rdW d.rules b (d.rules.length - 1) 0):=by
 unfold okF c_x at h
 have h1:¬((b_O d (a_X d) b 0).2.2=0/\(b_O d (a_X d) b 0).2.1<(b.length:Int)):=by
  intro hc;rw [iP_ hc] at h;simp at h
 rw [iN_ h1] at h
 have h2:(b_O d (a_X d) b 0).2.2=0:=by simpa using h
 have h3:okV d b (a_X d) 0=true:=by
  rcases Bool.eq_false_or_eq_true (okV d b (a_X d) 0) with h | h
  .exact h
  .unfold b_O at h2;rw [h] at h2;simp at h2
 obtain ⟨hv,hb,i,p,hi,hp,hil,_⟩:=l_0 h3;have hl:=b_X hv;have hroot:a_X d=((d.rules.length - 1:Nat):Int):=by unfold a_X;omega
 have e:b_O d (a_X d) b 0=c_8 (rdW d.rules b (d.rules.length - 1) 0):=by
  unfold b_O;rw [iP_ h3,hroot];rfl
 have G:c_x d b=c_8 (rdW d.rules b (d.rules.length - 1) 0):=by unfold c_x;rw [iN_ h1,e]
 refine ⟨hv,hb,by omega,hroot,?_,?_,G⟩
 .rw [e] at h2;exact h2
 .rw [G];rfl
theorem j_s (hd:SmD d){n:Nat}(hn:500<=n):d_C n d b=some (okF d b):=by
 unfold d_C okF
 rw [n_z hd hn];rfl
end
end Go.Vw
