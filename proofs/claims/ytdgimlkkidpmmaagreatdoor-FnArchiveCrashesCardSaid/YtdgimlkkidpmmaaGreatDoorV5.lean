import Derived.Test.YtdgimlkkidpmmaaGreatDoorV4
namespace Go.Vw
open Go.RowKit Dat
section
variable {d:c_}{b:Bt}
theorem u_i {r:b_}{num:Int}{p:Nat}{x:List Val×Nat×Int}(h:(c_c b r num p x).2.2 ≠ 0):(c_c b r num p x).1=zV:=by
 unfold c_c at *
 split
 .rename_i H
  rw [iP_ H] at h
  split
  .rename_i G
   rw [iP_ G] at h
   cases hb:b[x.2.1]? with
   | none=>rfl
   | some c =>
    rw [hb] at h
    simp only at h ⊢
    split
    .rename_i hs;rw [iP_ hs] at h;exact absurd rfl h
    .rfl
  .rename_i G;rw [iN_ G] at h;exact absurd rfl h
 .rfl
theorem rdB_zV {rs:List b_}{r:b_}{p:Nat}{rd:Int->Nat->RR}(h:(rdB rs b r p rd).2.2 ≠ 0):(rdB rs b r p rd).1=zV:=by
 have hby:∀p n,(b_E b p n).2.2 ≠ 0->(b_E b p n).1=zV:=λp n h=>by
  unfold b_E at *
  split
  .rfl
  .rename_i G;rw [iN_ G] at h;exact absurd rfl h
 unfold rdB at *
 split
 .rename_i h1;rw [iP_ h1] at h
  cases hd:a_Z b r p with
  | none=>rfl
  | some n=>rw [hd] at h;exact absurd rfl h
 rename_i h1;rw [iN_ h1] at h
 split
 .rfl
 rename_i h2;rw [iN_ h2] at h
 split
 .rename_i h3;rw [iP_ h3] at h;exact hby _ _ h
 rename_i h3;rw [iN_ h3] at h
 split
 .rename_i h4;rw [iP_ h4] at h
  cases hd:a_Z b (X_ rs<|k_ r) p with
  | none=>rfl
  | some n=>rw [hd] at h;exact hby _ _ h
 rename_i h4;rw [iN_ h4] at h
 split
 .rename_i h5;rw [iP_ h5] at h
  cases hd:e_j b p (r.bytes.getD 0 0) with
  | none=>rfl
  | some n=>rw [hd] at h;exact absurd rfl h
 rename_i h5;rw [iN_ h5] at h
 cases hh:b_7 rs b r p with
 | inl c=>rfl
 | inr x=>rw [hh] at h;exact u_i h
theorem rdW_zV {i at_:Nat}(h:(rdW d.rules b i at_).2.2 ≠ 0):(rdW d.rules b i at_).1=zV:=by
 rw [rdW] at *;exact rdB_zV h
def chain (rd:Int->Nat->RR)(L:Nat):List Int->Nat->List Val->Nat->Prop
 | [],p,vs,e=>vs=[]/\e=p
 | k::ks,p,vs,e=>p<=L/\(rd k p).2.2=0/\∃ws,vs=(rd k p).1::ws/\chain rd L ks (rd k p).2.1 ws e
def okV (d:c_)(b:Bt)(rule at_:Int):Bool:=(a_b d && b_Z d rule) && ((decide (0<=at_) && decide (at_<=(b.length:Int))) && decide ((b.length:Int)<=400))
def d_S (d:c_)(rule:Int)(b:Bt)(at_:Int):Val×Int×Int:=if okV d b rule at_ then d_y (rdW d.rules b rule.toNat at_.toNat) else (zV,0,8)
theorem p_Q {rule at_:Int}(h:okV d b rule at_=true):a_b d=true/\b.length<=400/\∃i p:Nat,rule=i/\at_=p/\i<d.rules.length/\p<=b.length:=by
 unfold okV b_Z at h
 simp only [aE_,dE_] at h
 exact ⟨h.1.1,by omega,rule.toNat,at_.toNat,by omega,by omega,by omega,by omega⟩
theorem u_j (hd:SmD d){n:Nat}(hn:500<=n)(rule at_:Int):j_c n d rule b at_=some (d_S d rule b at_):=by
 unfold j_c d_S
 rw [k_i d hd,b_5]
 by_cases h:okV d b rule at_=true
 .rw [iP_ h]
  obtain ⟨hv,hb,i,p,rfl,rfl,hi,hp⟩:=p_Q h;have hlen:=(f_1 hv).2;have H:(a_b d && b_Z d (i:Int))=true:=by unfold b_Z;rw [hv,dT_ (by omega),dT_ (by omega)];rfl
  rw [H,dT_ (show (0:Int)<=(p:Int) by omega),dT_ (show (p:Int)<=(b.length:Int) by omega),dF_ (show ¬(400:Int)<(b.length:Int) by omega)]
  simp only [bd_some,nT_,bF_,fF_,Bool.and_self]
  rw [t_U hv hd hb i hi n (by omega) p hp]
  rfl
 .rw [iN_ h]
  unfold okV at h
  have G:decide ((400:Int)<(b.length:Int)) = !decide ((b.length:Int)<=400):=by
   by_cases hb:(b.length:Int)<=400
   .rw [dT_ hb,dF_ (by omega)];rfl
   .rw [dF_ hb,dT_ (by omega)];rfl
  rw [G]
  generalize (a_b d && b_Z d rule)=a at *
  generalize (decide (0<=at_) && decide (at_<=(b.length:Int)))=c at *
  generalize decide ((b.length:Int)<=400)=e at *
  cases a <;> cases c <;> cases e <;> first | rfl | exact absurd rfl h
theorem u_k (hd:SmD d){n:Nat}(hn:500<=n)(rule at_:Int):j_s n d rule b at_=some (d_S d rule b at_):=by
 unfold j_s d_S
 rw [m_e n (by omega) d hd]
 by_cases h:okV d b rule at_=true
 .rw [iP_ h]
  obtain ⟨hv,hb,i,p,rfl,rfl,hi,hp⟩:=p_Q h;have hlen:=(f_1 hv).2;have H:(a_b d && b_Z d (i:Int))=true:=by unfold b_Z;rw [hv,dT_ (by omega),dT_ (by omega)];rfl
  rw [H,dF_ (show ¬(p:Int)<0 by omega),dF_ (show ¬(b.length:Int)<(p:Int) by omega),dF_ (show ¬(400:Int)<(b.length:Int) by omega)]
  simp only [bd_some,nT_,bF_,fF_]
  obtain ⟨nx,hrd⟩:=u_8 hv hd hb i hi n (by omega) p hp
  rw [hrd]
  show _=some (d_y<|rdW d.rules b i p)
  have hz:=rdW_zV (d:=d) (b:=b) (i:=i) (at_:=p);generalize rdW d.rules b i p=x at *
  unfold d_f d_y
  by_cases G:x.2.2=0
  .rw [iP_ G,G];rfl
  .rw [iN_ G,hz G];rfl
 .rw [iN_ h]
  unfold okV at h
  have I:decide ((400:Int)<(b.length:Int)) = !decide ((b.length:Int)<=400):=by
   by_cases hb:(b.length:Int)<=400
   .rw [dT_ hb,dF_ (by omega)];rfl
   .rw [dF_ hb,dT_ (by omega)];rfl
  have J:decide (at_<0) = !decide (0<=at_):=by
   by_cases hb:0<=at_
   .rw [dT_ hb,dF_ (by omega)];rfl
   .rw [dF_ hb,dT_ (by omega)];rfl
  have H:decide ((b.length:Int)<at_) = !decide (at_<=(b.length:Int)):=by
   by_cases hb:at_<=(b.length:Int)
   .rw [dT_ hb,dF_ (by omega)];rfl
   .rw [dF_ hb,dT_ (by omega)];rfl
  rw [I,J,H]
  generalize (a_b d && b_Z d rule)=a at *
  generalize decide (0<=at_)=c at *
  generalize decide (at_<=(b.length:Int))=c' at *
  generalize decide ((b.length:Int)<=400)=e at *
  cases a <;> cases c <;> cases c' <;> cases e <;> first | rfl | exact absurd rfl h
def c_2 (d:c_):Int:=(d.rules.length:Int) - 1
theorem p_R (hd:SmD d):h_L d=some (c_2 d):=by
 have:=hd.rules;have:=MXv;unfold h_L c_2;rw [a_f (by omega) (by omega)]
theorem n_7 (hd:SmD d):g_o d=some (c_2 d):=by
 have:=hd.rules;have:=MXv;unfold g_o c_2;rw [a_f (by omega) (by omega)]
def i_V (d:c_)(b:Bt):Val×Int×Int:=if (d_S d (c_2 d) b 0).2.2=0/\(d_S d (c_2 d) b 0).2.1<(b.length:Int) then (zV,(d_S d (c_2 d) b 0).2.1,7) else d_S d (c_2 d) b 0
theorem p_S (v:Val)(e c:Int)(len:Int):bd (α:=Bool) (if (c==0) then some (decide<|e<len) else some false) (λH=>if H then some ((⟨0,([]:Bt),([]:List Val)⟩:Val),e,7) else some ((⟨v.number,v.bytes,v.items⟩:Val),e,c))=some (if c=0/\e<len then (zV,e,7) else (v,e,c)):=by
 rw [p_t]
 by_cases G:c=0
 .subst G
  by_cases h1:e<len
  .rw [dT_ h1,iP_ (show (0:Int)=0/\e<len from ⟨rfl,h1⟩)];rfl
  .rw [dF_ h1,iN_ (show ¬((0:Int)=0/\e<len) from λh=>h1 h.2)];rfl
 .rw [show (c==0)=false by simpa using G,iN_ (show ¬(c=0/\e<len) from λh=>G h.1)];rfl
theorem u_l (hd:SmD d){n:Nat}(hn:500<=n):j_t n d b=some (i_V d b):=by
 unfold j_t i_V
 rw [p_R hd,bd_some,u_k hd hn]
 generalize d_S d (c_2 d) b 0=x;exact p_S x.1 x.2.1 x.2.2 _
theorem u_m (hd:SmD d){n:Nat}(hn:500<=n):j_d n d b=some (i_V d b):=by
 unfold j_d i_V
 rw [n_7 hd,bd_some,u_j hd hn]
 generalize d_S d (c_2 d) b 0=x;exact p_S x.1 x.2.1 x.2.2 _
end
end Go.Vw
namespace Go.Vw
open Go.RowKit Dat
theorem u_n (x:Nat):mkB (d_ 48 ((x % 10:Nat):Int))=UInt8.ofNat (48+x % 10):=by
 have:x % 10=0∨x % 10=1∨x % 10=2∨x % 10=3∨x % 10=4∨x % 10=5∨x % 10=6∨x % 10=7∨x % 10=8∨x % 10=9:=by omega
 rcases this with h | h | h | h | h | h | h | h | h | h <;> rw [h] <;> decide
theorem p_U:∀(k x:Nat),x<10 ^ k->0<x->x<=4611686018427387904->∀(s:Str)(n:Nat),k+1<=n->s.b.length+k<=1000 ->
  C_ (σ:=Str×Int) (ρ:=Str) (un2 λH G=>if (G != 0) then bd (α:=Int) (if (decide<|(a_d G 10)<0) then some (h_g<|a_d G 10) else some (a_d G 10)) (λJ=>bd (cat (⟨[mkB (d_ 48 J)]⟩:Str) H) λL=>some<|.next (L,b_O G 10)) else some (.brk (H,G))) n (s,(x:Int))=some (.inl (⟨Lib.decDigits x++s.b⟩,0))
 | 0,x,h,O,_,_,_,_,_=>by simp at h;omega
 | k+1,x,h,O,hb,s,n,hn,hs=>by
  obtain ⟨m,rfl⟩:∃m,n=m+1:=⟨n - 1,by omega⟩;unfold C_
  simp only [un2]
  rw [show ((x:Int) != 0)=true by simp;omega,c_E (by omega),n_9 (by omega) (by omega) (by omega),dF_ (show ¬(x:Int) % 10<0 by omega)]
  simp only [fT_,bF_,fF_,bd_some]
  rw [show (x:Int) % 10=((x % 10:Nat):Int) by omega,u_n,i_W (by rw [W_];simp;omega),bd_some,show (x:Int) / 10=((x / 10:Nat):Int) by omega]
  simp only
  by_cases I:x<10
  .rw [show x / 10=0 by omega,show x % 10=x by omega]
   obtain ⟨m',rfl⟩:∃m',m=m'+1:=⟨m - 1,by omega⟩
   rw [Lib.decDigits,dif_pos I]
   rfl
  .rw [p_U k (x / 10) (by rw [Nat.pow_succ] at h;omega) (by omega) (by omega) _ m (by omega) (by simp;omega)]
   rw [Lib.decDigits.eq_1 x,dif_neg I]
   simp
theorem k_P {n:Nat}(hn:30<=n)(i:Nat)(hi:i<=1000000000):d_X n i=some ⟨Lib.itoa i⟩:=by
 unfold d_X Lib.itoa
 rw [iN_ (show ¬(i:Int)<0 by omega)]
 by_cases G:i=0
 .subst G
  rw [show ((((0:Nat):Int)).toNat)=0 from rfl,Lib.decDigits,dif_pos (by omega)]
  rfl
 .rw [show ((i:Int)==0)=false by simp;omega]
  simp only [bF_,fF_]
  rw [p_U 20 i (by omega) (by omega) (by omega) ⟨[]⟩ n (by omega) (by simp),dF_ (show ¬(i:Int)<0 by omega)]
  simp
theorem k_Q (i:Nat)(hi:i<=1000000000):(Lib.itoa i).length<=21:=Lib.itoa_length_le i (by omega) (by omega)
section
variable {d:c_}{b:Bt}
end
end Go.Vw
namespace Go.Vw
open Go.RowKit Dat
section
variable {d:c_}{b:Bt}
def okF (d:c_)(b:Bt):Bool:=(i_V d b).2.2==0
theorem s_m (hd:SmD d){n:Nat}(hn:500<=n):j_e n d b=some (okF d b):=by
 unfold j_e okF
 rw [u_m hd hn];rfl
end
end Go.Vw
