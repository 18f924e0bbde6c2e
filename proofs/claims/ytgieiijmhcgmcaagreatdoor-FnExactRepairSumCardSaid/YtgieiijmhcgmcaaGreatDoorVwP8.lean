
import Derived.Test.YtgieiijmhcgmcaaGreatDoorVwP7
namespace Go.Vw
open Go.RowKit Dat
section
variable {d:g_}{b:List UInt8}
theorem p_B {r:a_}{num:Int}{p:Nat}{x:List Val×Nat×Int}(h:(a_4 b r num p x).2.2 ≠ 0):(a_4 b r num p x).1=zV:=by
 unfold a_4 at *
 split
 ·rename_i H
  rw [iP_ H] at h
  split
  ·rename_i G
   rw [iP_ G] at h
   cases hb:b[x.2.1]? with
   | none=>rfl
   | some c =>
    rw [hb] at h
    simp only at h ⊢
    split
    ·rename_i hs;rw [iP_ hs] at h;exact absurd rfl h
    ·rfl
  ·rename_i G;rw [iN_ G] at h;exact absurd rfl h
 ·rfl
theorem rdB_zV {rs:List a_}{r:a_}{p:Nat}{rd:Int->Nat->RR}(h:(rdB rs b r p rd).2.2 ≠ 0):(rdB rs b r p rd).1=zV:=by
 have hby:∀p n,(a_k b p n).2.2 ≠ 0->(a_k b p n).1=zV:=fun p n h=>by
  unfold a_k at *
  split
  ·rfl
  ·rename_i G;rw [iN_ G] at h;exact absurd rfl h
 unfold rdB at *
 split
 ·rename_i h1;rw [iP_ h1] at h
  cases hd:J_ b r p with
  | none=>rfl
  | some n=>rw [hd] at h;exact absurd rfl h
 rename_i h1;rw [iN_ h1] at h
 split
 ·rfl
 rename_i h2;rw [iN_ h2] at h
 split
 ·rename_i h3;rw [iP_ h3] at h;exact hby _ _ h
 rename_i h3;rw [iN_ h3] at h
 split
 ·rename_i h4;rw [iP_ h4] at h
  cases hd:J_ b (t_ rs<|s_ r) p with
  | none=>rfl
  | some n=>rw [hd] at h;exact hby _ _ h
 rename_i h4;rw [iN_ h4] at h
 split
 ·rename_i h5;rw [iP_ h5] at h
  cases hd:b_V b p (r.bytes.getD 0 0) with
  | none=>rfl
  | some n=>rw [hd] at h;exact absurd rfl h
 rename_i h5;rw [iN_ h5] at h
 cases hh:E_ rs b r p with
 | inl c=>rfl
 | inr x=>rw [hh] at h;exact p_B h
theorem rdW_zV {i at_:Nat}(h:(rdW d.rules b i at_).2.2 ≠ 0):(rdW d.rules b i at_).1=zV:=by
 rw [rdW] at *;exact rdB_zV h
def d_m (rs:List a_)(r:a_)(at_:Nat):Nat:=if r.kind==5 || r.kind==7 then at_+(t_ rs<|s_ r).size.toNat else if r.kind==8 then at_+1 else at_
theorem p_C {rs:List a_}{r:a_}{at_:Nat}(h:a_d rs r=true)(hk:5<=r.kind/\r.kind<=9){num:Int}{ks:List Int}{st:Nat}(hh:E_ rs b r at_ = .inr (num,ks,st)) :
  (∀j (hj:j<ks.length),b_a r num j=ks[j])/\st=d_m rs r at_/\(r.kind=9->num=0):=by
 unfold E_ at hh
 by_cases h5:r.kind=5
 ·rw [h5] at hh
  simp only [bQ_,fT_] at hh
  cases hi:J_ b (t_ rs<|s_ r) at_ with
  | none=>rw [hi] at hh;cases hh
  | some n =>
   rw [hi] at hh
   simp only at hh
   split at hh
   ·cases hh
   ·cases hh
    refine ⟨fun j hj=>by unfold b_a;rw [h5];simp,by unfold d_m;rw [h5];rfl,by omega⟩
 rw [show (r.kind==5)=false by simpa using h5] at hh
 by_cases h6:r.kind=6
 ·rw [h6] at hh
  simp only [bF_,fF_,bQ_,fT_] at hh
  cases hh
  exact ⟨fun j hj=>by unfold b_a;rw [h6];simp [hj],by unfold d_m;rw [h6];rfl,by omega⟩
 rw [show (r.kind==6)=false by simpa using h6] at hh
 by_cases G:r.kind=7
 ·rw [G] at hh
  simp only [bF_,fF_,bQ_,fT_] at hh
  cases hi:J_ b (t_ rs<|s_ r) at_ with
  | none=>rw [hi] at hh;cases hh
  | some n =>
   rw [hi] at hh
   simp only at hh
   cases ht:a_p r.tags n with
   | none=>rw [ht] at hh;cases hh
   | some k =>
    rw [ht] at hh
    cases hh
    refine ⟨fun j hj=>?_,by unfold d_m;rw [G];rfl,by omega⟩;have:j=0:=by simpa using hj
    subst this;unfold b_a;rw [G];simp [ht]
 rw [show (r.kind==7)=false by simpa using G] at hh
 by_cases H:r.kind=8
 ·rw [H] at hh
  simp only [bF_,fF_,bQ_,fT_] at hh
  cases hi:b[at_]? with
  | none=>rw [hi] at hh;cases hh
  | some c =>
   rw [hi] at hh
   simp only at hh
   split at hh
   ·cases hh
   ·cases hh
    exact ⟨fun j hj=>by unfold b_a;rw [H];simp,by unfold d_m;rw [H];rfl,by omega⟩
 rw [show (r.kind==8)=false by simpa using H] at hh
 simp only [bF_,fF_] at hh
 cases hh
 have I:r.kind=9:=by omega
 refine ⟨fun j hj=>?_,by unfold d_m;rw [I];rfl,fun _=>rfl⟩;have:j=0:=by simpa using hj
 subst this;unfold b_a;rw [I];simp
def okV (d:g_)(b:List UInt8)(rule at_:Int):Bool:=(P_ d && b_5 d rule) && ((decide (0<=at_) && decide (at_<=(b.length:Int))) && decide ((b.length:Int)<=400))
def a_A (d:g_)(rule:Int)(b:List UInt8)(at_:Int):Val×Int×Int:=if okV d b rule at_=true then b_j (rdW d.rules b rule.toNat at_.toNat) else (zV,0,8)
theorem e_o {rule at_:Int}(h:okV d b rule at_=true):P_ d=true/\b.length<=400/\∃i p:Nat,rule=i/\at_=p/\i<d.rules.length/\p<=b.length:=by
 unfold okV b_5 at h
 simp only [aE_,dE_] at h
 exact ⟨h.1.1,by omega,rule.toNat,at_.toNat,by omega,by omega,by omega,by omega⟩
theorem p_D (hd:SmD d){n:Nat}(hn:500<=n)(rule at_:Int):f_K n d rule b at_=some (a_A d rule b at_):=by
 unfold f_K a_A
 rw [o_k d hd,b_F]
 by_cases h:okV d b rule at_=true
 ·rw [iP_ h]
  obtain ⟨hv,hb,i,p,rfl,rfl,hi,hp⟩:=e_o h;have hlen:=(b_X hv).2;have H:(P_ d && b_5 d (i:Int))=true:=by unfold b_5;rw [hv,dT_ (by omega),dT_ (by omega)];rfl
  rw [H,dT_ (show (0:Int)<=(p:Int) by omega),dT_ (show (p:Int)<=(b.length:Int) by omega),dF_ (show ¬(400:Int)<(b.length:Int) by omega)]
  simp only [bd_some,nT_,bF_,fF_,Bool.and_self]
  rw [p_e hv hd hb i hi n (by omega) p hp]
  rfl
 ·rw [iN_ h]
  unfold okV at h
  have G:decide ((400:Int)<(b.length:Int)) = !decide ((b.length:Int)<=400):=by
   by_cases hb:(b.length:Int)<=400
   ·rw [dT_ hb,dF_ (by omega)];rfl
   ·rw [dF_ hb,dT_ (by omega)];rfl
  rw [G]
  generalize (P_ d && b_5 d rule)=a at *
  generalize (decide (0<=at_) && decide (at_<=(b.length:Int)))=c at *
  generalize decide ((b.length:Int)<=400)=e at *
  cases a <;> cases c <;> cases e <;> first | rfl | exact absurd rfl h
theorem p_E (hd:SmD d){n:Nat}(hn:500<=n)(rule at_:Int):g_c n d rule b at_=some (a_A d rule b at_):=by
 unfold g_c a_A
 rw [j_1 n (by omega) d hd]
 by_cases h:okV d b rule at_=true
 ·rw [iP_ h]
  obtain ⟨hv,hb,i,p,rfl,rfl,hi,hp⟩:=e_o h;have hlen:=(b_X hv).2;have H:(P_ d && b_5 d (i:Int))=true:=by unfold b_5;rw [hv,dT_ (by omega),dT_ (by omega)];rfl
  rw [H,dF_ (show ¬(p:Int)<0 by omega),dF_ (show ¬(b.length:Int)<(p:Int) by omega),dF_ (show ¬(400:Int)<(b.length:Int) by omega)]
  simp only [bd_some,nT_,bF_,fF_]
  obtain ⟨nx,hrd⟩:=p_h hv hd hb i hi n (by omega) p hp
  rw [hrd]
  show _=some (b_j<|rdW d.rules b i p)
  have hz:=rdW_zV (d:=d) (b:=b) (i:=i) (at_:=p);generalize rdW d.rules b i p=x at *
  unfold b_Y b_j
  by_cases G:x.2.2=0
  ·rw [iP_ G,G];rfl
  ·rw [iN_ G,hz G];rfl
 ·rw [iN_ h]
  unfold okV at h
  have I:decide ((400:Int)<(b.length:Int)) = !decide ((b.length:Int)<=400):=by
   by_cases hb:(b.length:Int)<=400
   ·rw [dT_ hb,dF_ (by omega)];rfl
   ·rw [dF_ hb,dT_ (by omega)];rfl
  have J:decide (at_<0) = !decide (0<=at_):=by
   by_cases hb:0<=at_
   ·rw [dT_ hb,dF_ (by omega)];rfl
   ·rw [dF_ hb,dT_ (by omega)];rfl
  have H:decide ((b.length:Int)<at_) = !decide (at_<=(b.length:Int)):=by
   by_cases hb:at_<=(b.length:Int)
   ·rw [dT_ hb,dF_ (by omega)];rfl
   ·rw [dF_ hb,dT_ (by omega)];rfl
  rw [I,J,H]
  generalize (P_ d && b_5 d rule)=a at *
  generalize decide (0<=at_)=c at *
  generalize decide (at_<=(b.length:Int))=c' at *
  generalize decide ((b.length:Int)<=400)=e at *
  cases a <;> cases c <;> cases c' <;> cases e <;> first | rfl | exact absurd rfl h
theorem j_o (hd:SmD d){n:Nat}(hn:500<=n)(rule at_:Int):c_9 n d rule b at_=some ((a_A d rule b at_).2.1,(a_A d rule b at_).2.2):=by
 unfold c_9 a_A
 rw [j_1 n (by omega) d hd]
 by_cases h:okV d b rule at_=true
 ·rw [iP_ h]
  obtain ⟨hv,hb,i,p,rfl,rfl,hi,hp⟩:=e_o h;have hlen:=(b_X hv).2;have G:(P_ d && b_5 d (i:Int))=true:=by unfold b_5;rw [hv,dT_ (by omega),dT_ (by omega)];rfl
  rw [G,dF_ (show ¬(p:Int)<0 by omega),dF_ (show ¬(b.length:Int)<(p:Int) by omega),dF_ (show ¬(400:Int)<(b.length:Int) by omega)]
  simp only [bd_some,nT_,bF_,fF_]
  obtain ⟨ap',hrd⟩:=p_i hv hd hb i hi n (by omega) p hp 0
  rw [show (⟨(⟨d.rules⟩:g_),b,0⟩:S_)=⟨d,b,0⟩ from rfl,hrd]
  rfl
 ·rw [iN_ h]
  unfold okV at h
  have H:decide ((400:Int)<(b.length:Int)) = !decide ((b.length:Int)<=400):=by
   by_cases hb:(b.length:Int)<=400
   ·rw [dT_ hb,dF_ (by omega)];rfl
   ·rw [dF_ hb,dT_ (by omega)];rfl
  have I:decide (at_<0) = !decide (0<=at_):=by
   by_cases hb:0<=at_
   ·rw [dT_ hb,dF_ (by omega)];rfl
   ·rw [dF_ hb,dT_ (by omega)];rfl
  have G:decide ((b.length:Int)<at_) = !decide (at_<=(b.length:Int)):=by
   by_cases hb:at_<=(b.length:Int)
   ·rw [dT_ hb,dF_ (by omega)];rfl
   ·rw [dF_ hb,dT_ (by omega)];rfl
  rw [H,I,G]
  generalize (P_ d && b_5 d rule)=a at *
  generalize decide (0<=at_)=c at *
  generalize decide (at_<=(b.length:Int))=c' at *
  generalize decide ((b.length:Int)<=400)=e at *
  cases a <;> cases c <;> cases c' <;> cases e <;> first | rfl | exact absurd rfl h
def a_K (d:g_):Int:=(d.rules.length:Int) - 1
theorem h_j (hd:SmD d):c_P d=some (a_K d):=by
 have:=hd.rules;have:=MXv;unfold c_P a_K;rw [a_W (by omega) (by omega)]
theorem p_F (hd:SmD d):f_z d=some (a_K d):=by
 have:=hd.rules;have:=MXv;unfold f_z a_K;rw [a_W (by omega) (by omega)]
def a_l (d:g_)(b:List UInt8):Val×Int×Int:=if (a_A d (a_K d) b 0).2.2=0/\(a_A d (a_K d) b 0).2.1<(b.length:Int) then (zV,(a_A d (a_K d) b 0).2.1,7) else a_A d (a_K d) b 0
theorem l_s (v:Val)(e c:Int)(len:Int):bd (α:=Bool) (if (c==0)=true then some (decide<|e<len) else some false) (fun H=>if H=true then some ((⟨0,([]:List UInt8),([]:List Val)⟩:Val),e,7) else some ((⟨v.number,v.bytes,v.items⟩:Val),e,c))=some (if c=0/\e<len then (zV,e,7) else (v,e,c)):=by
 rw [l_8]
 by_cases G:c=0
 ·subst G
  by_cases h1:e<len
  ·rw [dT_ h1,iP_ (show (0:Int)=0/\e<len from ⟨rfl,h1⟩)];rfl
  ·rw [dF_ h1,iN_ (show ¬((0:Int)=0/\e<len) from fun h=>h1 h.2)];rfl
 ·rw [show (c==0)=false by simpa using G,iN_ (show ¬(c=0/\e<len) from fun h=>G h.1)];rfl
theorem p_G (hd:SmD d){n:Nat}(hn:500<=n):g_d n d b=some (a_l d b):=by
 unfold g_d a_l
 rw [h_j hd,bd_some,p_E hd hn]
 generalize a_A d (a_K d) b 0=x;exact l_s x.1 x.2.1 x.2.2 _
theorem l_t (hd:SmD d){n:Nat}(hn:500<=n):e_z n d b=some (a_l d b):=by
 unfold e_z a_l
 rw [p_F hd,bd_some,p_D hd hn]
 generalize a_A d (a_K d) b 0=x;exact l_s x.1 x.2.1 x.2.2 _
end
end Go.Vw
