
import Derived.Test.YtbihpjgldkojoaaGreatDoorVwP7
namespace Go.Vw
open Go.RowKit Dat
section
variable {d:g_}{b:Bt}
theorem q_E {r:d_}{num:Int}{p:Nat}{x:List Val×Nat×Int}(h:(a_k b r num p x).2.2 ≠ 0):(a_k b r num p x).1=zV:=by
 unfold a_k at *
 split
 .rename_i H
  rw [iP_ H] at h
  split
  .rename_i G
   rw [iP_ G] at h
   cases hb:b[x.2.1]? with
   | none=>rfl
   | some c =>
    rw [hb] at h
    simp only at h ⊢
    split
    .rename_i hs;rw [iP_ hs] at h;exact absurd rfl h
    .rfl
  .rename_i G;rw [iN_ G] at h;exact absurd rfl h
 .rfl
theorem rdB_zV {rs:List d_}{r:d_}{p:Nat}{rd:Int->Nat->RR}(h:(rdB rs b r p rd).2.2 ≠ 0):(rdB rs b r p rd).1=zV:=by
 have hby:∀p n,(a_C b p n).2.2 ≠ 0->(a_C b p n).1=zV:=λp n h=>by
  unfold a_C at *
  split
  .rfl
  .rename_i G;rw [iN_ G] at h;exact absurd rfl h
 unfold rdB at *
 split
 .rename_i h1;rw [iP_ h1] at h
  cases hd:Y_ b r p with
  | none=>rfl
  | some n=>rw [hd] at h;exact absurd rfl h
 rename_i h1;rw [iN_ h1] at h
 split
 .rfl
 rename_i h2;rw [iN_ h2] at h
 split
 .rename_i h3;rw [iP_ h3] at h;exact hby _ _ h
 rename_i h3;rw [iN_ h3] at h
 split
 .rename_i h4;rw [iP_ h4] at h
  cases hd:Y_ b (E_ rs<|D_ r) p with
  | none=>rfl
  | some n=>rw [hd] at h;exact hby _ _ h
 rename_i h4;rw [iN_ h4] at h
 split
 .rename_i h5;rw [iP_ h5] at h
  cases hd:c_u b p (r.bytes.getD 0 0) with
  | none=>rfl
  | some n=>rw [hd] at h;exact absurd rfl h
 rename_i h5;rw [iN_ h5] at h
 cases hh:Q_ rs b r p with
 | inl c=>rfl
 | inr x=>rw [hh] at h;exact q_E h
theorem rdW_zV {i at_:Nat}(h:(rdW d.rules b i at_).2.2 ≠ 0):(rdW d.rules b i at_).1=zV:=by
 rw [rdW] at *;exact rdB_zV h
def e_5 (rs:List d_)(r:d_)(at_:Nat):Nat:=if r.kind==5 || r.kind==7 then at_+(E_ rs<|D_ r).size.toNat else if r.kind==8 then at_+1 else at_
theorem q_F {rs:List d_}{r:d_}{at_:Nat}(h:a_y rs r=true)(hk:5<=r.kind/\r.kind<=9){num:Int}{ks:List Int}{st:Nat}(hh:Q_ rs b r at_ = .inr (num,ks,st)) :
  (∀j (hj:j<ks.length),a_E r num j=ks[j])/\st=e_5 rs r at_/\(r.kind=9->num=0):=by
 unfold Q_ at hh
 by_cases h5:r.kind=5
 .rw [h5] at hh
  simp only [bQ_,fT_] at hh
  cases hi:Y_ b (E_ rs<|D_ r) at_ with
  | none=>rw [hi] at hh;cases hh
  | some n =>
   rw [hi] at hh
   simp only at hh
   split at hh
   .cases hh
   .cases hh
    refine ⟨λj hj=>by unfold a_E;rw [h5];simp,by unfold e_5;rw [h5];rfl,by omega⟩
 rw [show (r.kind==5)=false by simpa using h5] at hh
 by_cases h6:r.kind=6
 .rw [h6] at hh
  simp only [bF_,fF_,bQ_,fT_] at hh
  cases hh
  exact ⟨λj hj=>by unfold a_E;rw [h6];simp [hj],by unfold e_5;rw [h6];rfl,by omega⟩
 rw [show (r.kind==6)=false by simpa using h6] at hh
 by_cases G:r.kind=7
 .rw [G] at hh
  simp only [bF_,fF_,bQ_,fT_] at hh
  cases hi:Y_ b (E_ rs<|D_ r) at_ with
  | none=>rw [hi] at hh;cases hh
  | some n =>
   rw [hi] at hh
   simp only at hh
   cases ht:a_L r.tags n with
   | none=>rw [ht] at hh;cases hh
   | some k =>
    rw [ht] at hh
    cases hh
    refine ⟨λj hj=>?_,by unfold e_5;rw [G];rfl,by omega⟩;have:j=0:=by simpa using hj
    subst this;unfold a_E;rw [G];simp [ht]
 rw [show (r.kind==7)=false by simpa using G] at hh
 by_cases H:r.kind=8
 .rw [H] at hh
  simp only [bF_,fF_,bQ_,fT_] at hh
  cases hi:b[at_]? with
  | none=>rw [hi] at hh;cases hh
  | some c =>
   rw [hi] at hh
   simp only at hh
   split at hh
   .cases hh
   .cases hh
    exact ⟨λj hj=>by unfold a_E;rw [H];simp,by unfold e_5;rw [H];rfl,by omega⟩
 rw [show (r.kind==8)=false by simpa using H] at hh
 simp only [bF_,fF_] at hh
 cases hh
 have I:r.kind=9:=by omega
 refine ⟨λj hj=>?_,by unfold e_5;rw [I];rfl,λ_=>rfl⟩;have:j=0:=by simpa using hj
 subst this;unfold a_E;rw [I];simp
def okV (d:g_)(b:Bt)(rule at_:Int):Bool:=(a_2 d && b_A d rule) && ((decide (0<=at_) && decide (at_<=(b.length:Int))) && decide ((b.length:Int)<=400))
def a_Q (d:g_)(rule:Int)(b:Bt)(at_:Int):Val×Int×Int:=if okV d b rule at_ then b_E (rdW d.rules b rule.toNat at_.toNat) else (zV,0,8)
theorem e_6 {rule at_:Int}(h:okV d b rule at_=true):a_2 d=true/\b.length<=400/\∃i p:Nat,rule=i/\at_=p/\i<d.rules.length/\p<=b.length:=by
 unfold okV b_A at h
 simp only [aE_,dE_] at h
 exact ⟨h.1.1,by omega,rule.toNat,at_.toNat,by omega,by omega,by omega,by omega⟩
theorem q_G (hd:SmD d){n:Nat}(hn:500<=n)(rule at_:Int):h_6 n d rule b at_=some (a_Q d rule b at_):=by
 unfold h_6 a_Q
 rw [p_t d hd,b_q]
 by_cases h:okV d b rule at_=true
 .rw [iP_ h]
  obtain ⟨hv,hb,i,p,rfl,rfl,hi,hp⟩:=e_6 h;have hlen:=(c_e hv).2;have H:(a_2 d && b_A d (i:Int))=true:=by unfold b_A;rw [hv,dT_ (by omega),dT_ (by omega)];rfl
  rw [H,dT_ (show (0:Int)<=(p:Int) by omega),dT_ (show (p:Int)<=(b.length:Int) by omega),dF_ (show ¬(400:Int)<(b.length:Int) by omega)]
  simp only [bd_some,nT_,bF_,fF_,Bool.and_self]
  rw [q_6 hv hd hb i hi n (by omega) p hp]
  rfl
 .rw [iN_ h]
  unfold okV at h
  have G:decide ((400:Int)<(b.length:Int)) = !decide ((b.length:Int)<=400):=by
   by_cases hb:(b.length:Int)<=400
   .rw [dT_ hb,dF_ (by omega)];rfl
   .rw [dF_ hb,dT_ (by omega)];rfl
  rw [G]
  generalize (a_2 d && b_A d rule)=a at *
  generalize (decide (0<=at_) && decide (at_<=(b.length:Int)))=c at *
  generalize decide ((b.length:Int)<=400)=e at *
  cases a <;> cases c <;> cases e <;> first | rfl | exact absurd rfl h
theorem q_H (hd:SmD d){n:Nat}(hn:500<=n)(rule at_:Int):h_u n d rule b at_=some (a_Q d rule b at_):=by
 unfold h_u a_Q
 rw [k_c n (by omega) d hd]
 by_cases h:okV d b rule at_=true
 .rw [iP_ h]
  obtain ⟨hv,hb,i,p,rfl,rfl,hi,hp⟩:=e_6 h;have hlen:=(c_e hv).2;have H:(a_2 d && b_A d (i:Int))=true:=by unfold b_A;rw [hv,dT_ (by omega),dT_ (by omega)];rfl
  rw [H,dF_ (show ¬(p:Int)<0 by omega),dF_ (show ¬(b.length:Int)<(p:Int) by omega),dF_ (show ¬(400:Int)<(b.length:Int) by omega)]
  simp only [bd_some,nT_,bF_,fF_]
  obtain ⟨nx,hrd⟩:=q_j hv hd hb i hi n (by omega) p hp
  rw [hrd]
  show _=some (b_E<|rdW d.rules b i p)
  have hz:=rdW_zV (d:=d) (b:=b) (i:=i) (at_:=p);generalize rdW d.rules b i p=x at *
  unfold c_v b_E
  by_cases G:x.2.2=0
  .rw [iP_ G,G];rfl
  .rw [iN_ G,hz G];rfl
 .rw [iN_ h]
  unfold okV at h
  have I:decide ((400:Int)<(b.length:Int)) = !decide ((b.length:Int)<=400):=by
   by_cases hb:(b.length:Int)<=400
   .rw [dT_ hb,dF_ (by omega)];rfl
   .rw [dF_ hb,dT_ (by omega)];rfl
  have J:decide (at_<0) = !decide (0<=at_):=by
   by_cases hb:0<=at_
   .rw [dT_ hb,dF_ (by omega)];rfl
   .rw [dF_ hb,dT_ (by omega)];rfl
  have H:decide ((b.length:Int)<at_) = !decide (at_<=(b.length:Int)):=by
   by_cases hb:at_<=(b.length:Int)
   .rw [dT_ hb,dF_ (by omega)];rfl
   .rw [dF_ hb,dT_ (by omega)];rfl
  rw [I,J,H]
  generalize (a_2 d && b_A d rule)=a at *
  generalize decide (0<=at_)=c at *
  generalize decide (at_<=(b.length:Int))=c' at *
  generalize decide ((b.length:Int)<=400)=e at *
  cases a <;> cases c <;> cases c' <;> cases e <;> first | rfl | exact absurd rfl h
theorem k_B (hd:SmD d){n:Nat}(hn:500<=n)(rule at_:Int):c_M n d rule b at_=some ((a_Q d rule b at_).2.1,(a_Q d rule b at_).2.2):=by
 unfold c_M a_Q
 rw [k_c n (by omega) d hd]
 by_cases h:okV d b rule at_=true
 .rw [iP_ h]
  obtain ⟨hv,hb,i,p,rfl,rfl,hi,hp⟩:=e_6 h;have hlen:=(c_e hv).2;have G:(a_2 d && b_A d (i:Int))=true:=by unfold b_A;rw [hv,dT_ (by omega),dT_ (by omega)];rfl
  rw [G,dF_ (show ¬(p:Int)<0 by omega),dF_ (show ¬(b.length:Int)<(p:Int) by omega),dF_ (show ¬(400:Int)<(b.length:Int) by omega)]
  simp only [bd_some,nT_,bF_,fF_]
  obtain ⟨ap',hrd⟩:=q_l hv hd hb i hi n (by omega) p hp 0
  rw [show (⟨(⟨d.rules⟩:g_),b,0⟩:a_6)=⟨d,b,0⟩ from rfl,hrd]
  rfl
 .rw [iN_ h]
  unfold okV at h
  have H:decide ((400:Int)<(b.length:Int)) = !decide ((b.length:Int)<=400):=by
   by_cases hb:(b.length:Int)<=400
   .rw [dT_ hb,dF_ (by omega)];rfl
   .rw [dF_ hb,dT_ (by omega)];rfl
  have I:decide (at_<0) = !decide (0<=at_):=by
   by_cases hb:0<=at_
   .rw [dT_ hb,dF_ (by omega)];rfl
   .rw [dF_ hb,dT_ (by omega)];rfl
  have G:decide ((b.length:Int)<at_) = !decide (at_<=(b.length:Int)):=by
   by_cases hb:at_<=(b.length:Int)
   .rw [dT_ hb,dF_ (by omega)];rfl
   .rw [dF_ hb,dT_ (by omega)];rfl
  rw [H,I,G]
  generalize (a_2 d && b_A d rule)=a at *
  generalize decide (0<=at_)=c at *
  generalize decide (at_<=(b.length:Int))=c' at *
  generalize decide ((b.length:Int)<=400)=e at *
  cases a <;> cases c <;> cases c' <;> cases e <;> first | rfl | exact absurd rfl h
def b_4 (d:g_):Int:=(d.rules.length:Int) - 1
theorem i_X (hd:SmD d):d_B d=some (b_4 d):=by
 have:=hd.rules;have:=MXv;unfold d_B b_4;rw [a_Y (by omega) (by omega)]
theorem q_I (hd:SmD d):g_W d=some (b_4 d):=by
 have:=hd.rules;have:=MXv;unfold g_W b_4;rw [a_Y (by omega) (by omega)]
def a_l (d:g_)(b:Bt):Val×Int×Int:=if (a_Q d (b_4 d) b 0).2.2=0/\(a_Q d (b_4 d) b 0).2.1<(b.length:Int) then (zV,(a_Q d (b_4 d) b 0).2.1,7) else a_Q d (b_4 d) b 0
theorem m_C (v:Val)(e c:Int)(len:Int):bd (α:=Bool) (if (c==0) then some (decide<|e<len) else some false) (λH=>if H then some ((⟨0,([]:Bt),([]:List Val)⟩:Val),e,7) else some ((⟨v.number,v.bytes,v.items⟩:Val),e,c))=some (if c=0/\e<len then (zV,e,7) else (v,e,c)):=by
 rw [m_c]
 by_cases G:c=0
 .subst G
  by_cases h1:e<len
  .rw [dT_ h1,iP_ (show (0:Int)=0/\e<len from ⟨rfl,h1⟩)];rfl
  .rw [dF_ h1,iN_ (show ¬((0:Int)=0/\e<len) from λh=>h1 h.2)];rfl
 .rw [show (c==0)=false by simpa using G,iN_ (show ¬(c=0/\e<len) from λh=>G h.1)];rfl
theorem q_J (hd:SmD d){n:Nat}(hn:500<=n):h_v n d b=some (a_l d b):=by
 unfold h_v a_l
 rw [i_X hd,bd_some,q_H hd hn]
 generalize a_Q d (b_4 d) b 0=x;exact m_C x.1 x.2.1 x.2.2 _
theorem m_D (hd:SmD d){n:Nat}(hn:500<=n):f_D n d b=some (a_l d b):=by
 unfold f_D a_l
 rw [q_I hd,bd_some,q_G hd hn]
 generalize a_Q d (b_4 d) b 0=x;exact m_C x.1 x.2.1 x.2.2 _
end
end Go.Vw
