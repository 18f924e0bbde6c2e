
import Derived.Test.YtajhmimbhplkfaaGreatDoorVwP22
set_option linter.unusedVariables false
namespace Go.Vw
open Go.RowKit Dat
variable {d:f_} {b:List UInt8}
def f_7 (b:List UInt8) (at_ rm:Int) (ins:List UInt8):List UInt8×Bool :=
 if 0≤at_∧0≤rm∧at_+rm≤b.length then (b.take at_.toNat++ins++b.drop (at_+rm).toNat,true) else (b,false)
theorem l_P {l:List UInt8} {a c:Int} (h1:0≤a) (h2:a≤c) (h3:c≤l.length):slc l a c=some ((l.take c.toNat).drop a.toNat):=by
 unfold slc;rw [iP_ ⟨h1,h2,h3⟩]
theorem g_h {l m:List UInt8} (h:l.length+m.length≤LIM):app l m=some (l++m):=by
 unfold app;rw [iP_ h]
theorem l_Q {at_ rm:Int} {ins:List UInt8} (hb:b.length≤MX) (hi:ins.length≤MX) (h:0≤at_∧0≤rm∧at_+rm≤b.length) :
  g_ at_ rm=at_+rm∧slc b 0 at_=some (b.take at_.toNat)∧slc b (at_+rm) (b.length:Int)=some (b.drop (at_+rm).toNat)∧app ([]:List UInt8) (b.take at_.toNat)=some (b.take at_.toNat)∧app (b.take at_.toNat) ins=some (b.take at_.toNat++ins)∧app (b.take at_.toNat++ins) (b.drop (at_+rm).toNat)=some (b.take at_.toNat++ins++b.drop (at_+rm).toNat):=by
 have:=MXv;have:=a_x;refine ⟨ia_ (by omega) (by omega),?_,?_,?_,?_,?_⟩
 ·rw [l_P (by omega) (by omega) (by omega)];simp
 ·rw [l_P (by omega) (by omega) (by omega)];simp
 ·rw [g_h (by simp;omega)];simp
 ·rw [g_h (by simp;omega)]
 ·rw [g_h (by simp;omega)]
theorem l_R {at_ rm:Int} {ins:List UInt8} (hb:b.length≤MX) (hi:ins.length≤MX):f_l b at_ rm ins=some (f_7 b at_ rm ins):=by
 have:=MXv;have:=a_x;unfold f_l f_7;have hbad:app ([]:List UInt8) b=some b:=by rw [g_h (by simp;omega)];simp
 by_cases h1:at_<0
 ·rw [dT_ h1,iN_ (show ¬ (0≤at_∧0≤rm∧at_+rm≤b.length) by omega),hbad];rfl
 by_cases h2:rm<0
 ·rw [dF_ h1,dT_ h2,iN_ (show ¬ (0≤at_∧0≤rm∧at_+rm≤b.length) by omega),hbad];rfl
 by_cases h3:(b.length:Int)<rm
 ·rw [dF_ h1,dF_ h2,dT_ h3,iN_ (show ¬ (0≤at_∧0≤rm∧at_+rm≤b.length) by omega),hbad];rfl
 rw [dF_ h1,dF_ h2,dF_ h3,a_r (by omega) (by omega)]
 by_cases h4:(b.length:Int) - rm<at_
 ·rw [dT_ h4,iN_ (show ¬ (0≤at_∧0≤rm∧at_+rm≤b.length) by omega),hbad];rfl
 ·have h:=show 0≤at_∧0≤rm∧at_+rm≤b.length by omega
  obtain ⟨e1,e2,e3,e4,e5,e6⟩:=l_Q hb hi h
  rw [dF_ h4,iP_ h,e1,e2,e3]
  simp only [bF_,fF_,bd_some,e4,e5,e6]
theorem p_o {at_ rm:Int} {ins:List UInt8} (hb:b.length≤MX) (hi:ins.length≤MX):h_0 b at_ rm ins=some (f_7 b at_ rm ins):=by
 have:=MXv;have:=a_x;unfold h_0 f_7;have hbad:app ([]:List UInt8) b=some b:=by rw [g_h (by simp;omega)];simp
 by_cases h1:at_<0
 ·rw [dT_ h1,iN_ (show ¬ (0≤at_∧0≤rm∧at_+rm≤b.length) by omega),hbad];rfl
 by_cases h2:rm<0
 ·rw [dF_ h1,dT_ h2,iN_ (show ¬ (0≤at_∧0≤rm∧at_+rm≤b.length) by omega),hbad];rfl
 by_cases h3:(b.length:Int)<at_
 ·rw [dF_ h1,dF_ h2,dT_ h3,iN_ (show ¬ (0≤at_∧0≤rm∧at_+rm≤b.length) by omega),hbad];rfl
 rw [dF_ h1,dF_ h2,dF_ h3,a_r (by omega) (by omega)]
 by_cases h4:(b.length:Int) - at_<rm
 ·rw [dT_ h4,iN_ (show ¬ (0≤at_∧0≤rm∧at_+rm≤b.length) by omega),hbad];rfl
 ·have h:=show 0≤at_∧0≤rm∧at_+rm≤b.length by omega
  obtain ⟨e1,e2,e3,e4,e5,e6⟩:=l_Q hb hi h
  rw [dF_ h4,iP_ h,e1,e2,e3]
  simp only [bF_,fF_,bd_some,e4,e5,e6]
theorem g_i {α:Type} {l:List α} (h:l.length≤MX):app ([]:List α) l=some l:=by
 have:=MXv;have:=a_x
 rw [c_g (by simp;omega)];simp
theorem piece_len' (b:List UInt8) (p n:Nat):(piece b p<|p+n).length≤n:=by unfold piece;simp;omega
theorem p_p (p:Nat) (n:Int):(a_q b p n).1.bytes.length+p≤(a_q b p n).2.1:=by
 unfold a_q
 split
 ·show 0+p≤p;omega
 ·have:=piece_len' b p n.toNat
  show (piece b p<|p+n.toNat).length+p≤p+n.toNat
  omega
structure c_7 (b b':List UInt8) (e:Nat):Prop where
 l1:e≤b.length
 l2:e≤b'.length
 eq:b.take e=b'.take e
section
variable {b':List UInt8} {e:Nat}
theorem c_7.get (h:c_7 b b' e) {p:Nat} (hp:p<e):b'[p]? = b[p]? := by
 have:=congrArg (fun l=>l[p]?) h.eq
 simp only [List.getElem?_take,hp,fT_] at this
 exact this.symm
theorem c_7.piece (h:c_7 b b' e) {p q:Nat} (hq:q≤e):piece b' p q=piece b p q:=by
 unfold Vw.piece;have h1:b'.take q=(b'.take e).take q:=by rw [List.take_take,Nat.min_eq_left hq]
 have h2:b.take q=(b.take e).take q:=by rw [List.take_take,Nat.min_eq_left hq]
 rw [h1,h2,h.eq]
theorem i_p (h:c_7 b b' e) {r:e_} (hr:d_U r) {p:Nat} {n:Int} (hn:U_ b r p=some n) (hp:p+r.size.toNat≤e):U_ b' r p=some n:=by
 have h1:=h.l1;have h2:=h.l2;obtain ⟨_,hs,_⟩:=hr;unfold U_ at *
 rw [iN_ (by omega)] at hn ⊢
 rw [h.piece hp];exact hn
theorem l_S {p q:Nat→Bool} : ∀ {l:List Nat},(∀ k∈l,p k=q k)→l.find? p=l.find? q
 | [],_=>rfl
 | a::l,h=>by
  rw [List.find?_cons,List.find?_cons,h a mS_,l_S<|fun k hk=>h k<|mT_ _ hk]
theorem p_q (h:c_7 b b' e) {bs:List UInt8} {p:Nat} (hc:(a_R b bs p).2=0) (hp:(a_R b bs p).1≤e):a_R b' bs p=a_R b bs p:=by
 have hok:=m_0 hc
 have hf:(List.range bs.length).find? (a_Q b' bs p)=(List.range bs.length).find? (a_Q b bs p):=l_S fun k hk=>by
  unfold a_Q;rw [h.get (by have:=List.mem_range.1 hk;omega)]
 unfold a_R at *
 rw [hf]
 cases hs:(List.range bs.length).find? (a_Q b bs p) with
 | none=>rfl
 | some k =>
  rw [hs] at hc
  simp only at hc
  split at hc <;> cases hc
theorem l_T (h:c_7 b b' e) {p:Nat} {n:Int} (h0:0≤n) (hc:(a_q b p n).2.2=0) (hp:(a_q b p n).2.1≤e):a_q b' p n=a_q b p n:=by
 have h1:=h.l1;have h2:=h.l2;unfold a_q at *
 split at hc
 ·cases hc
 ·rename_i hn
  rw [iN_ hn] at hp ⊢
  simp only at hp
  rw [iN_ (by omega),h.piece hp]
theorem k_3 (h:c_7 b b' e) {t:UInt8} : ∀ (f acc p) (c:List UInt8) (q f':Nat),c_w b t f acc p=some (c,q)→q≤e→q≤p+f'→c_w b' t f' acc p=some (c,q)
 | 0,_,_,_,_,_,hs,_,_=>by cases hs
 | f+1,acc,p,c,q,f',hs,hq,hf=>by
  have hle:=f_6 _ _ _ _ _ hs;obtain ⟨f',rfl⟩ : ∃ g,f'=g+1:=⟨f' - 1,by omega⟩;unfold c_w at *
  rw [h.get (show p<e by omega)]
  cases hb:b[p]? with
  | none=>rw [hb] at hs;cases hs
  | some x =>
   rw [hb] at hs
   simp only at hs ⊢
   by_cases h1:x=t
   ·rw [iP_ h1] at hs ⊢;exact hs
   ·rw [iN_ h1] at hs ⊢
    by_cases h2:x=92
    ·rw [iP_ h2] at hs ⊢
     cases hb2:b[p+1]? with
     | none=>rw [hb2] at hs;cases hs
     | some y =>
      rw [hb2] at hs
      simp only at hs
      have hle2:=f_6 _ _ _ _ _ hs
      rw [h.get (show p+1<e by omega),hb2]
      exact k_3 h f _ _ c q f' hs hq (by omega)
    ·rw [iN_ h2] at hs ⊢
     exact k_3 h f _ _ c q f' hs hq (by omega)
theorem l_U (h:c_7 b b' e) {rs:List e_} {r:e_} (hk:a_n rs r=true) {p:Nat} {x:Int×List Int×Nat} (hh:M_ rs b r p = .inr x) (hx:x.2.2≤e):M_ rs b' r p = .inr x:=by
 unfold M_ at *
 by_cases h5:r.kind=5
 ·have hl:=b_h (c_L hk h5).1
  rw [h5] at hh ⊢
  simp only [bQ_,fT_] at hh ⊢
  cases hi:U_ b (F_ rs<|t_ r) p with
  | none=>rw [hi] at hh;cases hh
  | some n =>
   rw [hi] at hh
   simp only at hh
   have hst:p+(F_ rs<|t_ r).size.toNat≤e:=by
    split at hh
    ·cases hh
    ·cases hh;exact hx
   rw [i_p h hl.2 hi hst];exact hh
 rw [show (r.kind==5)=false by simpa using h5] at hh ⊢
 simp only [bF_,fF_] at hh ⊢
 by_cases h6:r.kind=6
 ·rw [h6] at hh ⊢;exact hh
 rw [show (r.kind==6)=false by simpa using h6] at hh ⊢
 simp only [bF_,fF_] at hh ⊢
 by_cases h7:r.kind=7
 ·have hl:=b_h (d_2 hk h7).1
  rw [h7] at hh ⊢
  simp only [bQ_,fT_] at hh ⊢
  cases hi:U_ b (F_ rs<|t_ r) p with
  | none=>rw [hi] at hh;cases hh
  | some n =>
   rw [hi] at hh
   simp only at hh
   have hst:p+(F_ rs<|t_ r).size.toNat≤e:=by
    cases ht:a_G r.tags n with
    | none=>rw [ht] at hh;cases hh
    | some j=>rw [ht] at hh;cases hh;exact hx
   rw [i_p h hl.2 hi hst];exact hh
 rw [show (r.kind==7)=false by simpa using h7] at hh ⊢
 simp only [bF_,fF_] at hh ⊢
 by_cases h8:r.kind=8
 ·rw [h8] at hh ⊢
  simp only [bQ_,fT_] at hh ⊢
  cases hc:b[p]? with
  | none=>rw [hc] at hh;cases hh
  | some c =>
   rw [hc] at hh
   simp only at hh
   have hst:p+1≤e:=by
    split at hh
    ·cases hh
    ·cases hh;exact hx
   rw [h.get (show p<e by omega),hc];exact hh
 rw [show (r.kind==8)=false by simpa using h8] at hh ⊢
 exact hh
theorem l_V {rd rd':Int→Nat→RR} {L:Nat} : ∀ (ks:List Int) (p:Nat),p≤L→(∀ k∈ks,∀ p,p≤L→p≤(rd k p).2.1∧(rd k p).2.1≤L)→(O_ rd ks p).2.2=0→(∀ k∈ks,∀ p,p≤L→(rd k p).2.2=0→(rd k p).2.1≤e→rd' k p=rd k p)→(O_ rd ks p).2.1≤e→O_ rd' ks p=O_ rd ks p
 | [],_,_,_,_,_,_=>rfl
 | k::ks,p,hp,hle,h0,hr,he=>by
  have hk:=hle k mS_ p hp;have hrest:=e_w ks (rd k p).2.1 hk.2 (fun k hk=>hle k<|mT_ _ hk);unfold O_ at h0 he ⊢
  by_cases h1:(rd k p).2.2=0
  ·rw [iP_ h1] at h0 he ⊢
   by_cases h2:(O_ rd ks (rd k p).2.1).2.2=0
   ·rw [iP_ h2] at h0 he ⊢
    simp only at he
    have e1:=hr k mS_ p hp h1 (by omega)
    rw [e1,iP_ h1,l_V ks _ hk.2 (fun k hk=>hle k<|mT_ _ hk) h2 (fun k hk=>hr k<|mT_ _ hk) he,iP_ h2]
   ·rw [iN_ h2] at h0;exact absurd h0 h2
  ·rw [iN_ h1] at h0;exact absurd h0 h1
theorem p_r {r:e_} {num:Int} {p:Nat} {x:List Val×Nat×Int} (h0:(a_O b r num p x).2.2=0):x.2.2=0∧x.2.1≤(a_O b r num p x).2.1:=by
 unfold a_O at *
 by_cases hx:x.2.2=0
 ·refine ⟨hx,?_⟩
  rw [iP_ hx] at h0 ⊢
  split
  ·split
   ·exact Nat.le_refl _
   ·split
    ·exact Nat.le_succ _
    ·exact Nat.le_refl _
  ·exact Nat.le_refl _
 ·rw [iN_ hx] at h0;exact absurd h0 hx
theorem p_s (hv:S_ d=true) (h:c_7 b b' e) : ∀ (i:Nat),i<d.rules.length → ∀ p,p≤b.length→(rdW d.rules b i p).2.2=0→(rdW d.rules b i p).2.1≤e→rdW d.rules b' i p=rdW d.rules b i p:=by
 intro i
 induction i using Nat.strongRecOn with
 | _ i ih =>
  intro hi p hp h0 he;have hle:=a_X hv i hi p hp;have hl2:=h.l2;have hr:=b_a hv hi;have hal:=e_t hr.kind
  rw [d_r hv hi hp] at h0 he hle ⊢
  rw [d_r hv hi (show p≤b'.length by omega)]
  generalize d.rules[i]=r at *
  unfold rdB at *
  by_cases h1:r.kind=1
  ·have hin:=f_9 hr.kind h1
   rw [h1] at h0 he ⊢
   simp only [bQ_,fT_] at h0 he ⊢
   cases hq:U_ b r p with
   | none=>rw [hq] at h0;cases h0
   | some n=>rw [hq] at he;rw [i_p h hin hq he]
  rw [show (r.kind==1)=false by simpa using h1] at h0 he hle ⊢
  simp only [bF_,fF_] at h0 he hle ⊢
  by_cases h2:r.kind=2
  ·rw [h2] at h0 he ⊢
   simp only [bQ_,fT_] at h0 he ⊢
   rw [p_q h h0 he]
  rw [show (r.kind==2)=false by simpa using h2] at h0 he hle ⊢
  simp only [bF_,fF_] at h0 he hle ⊢
  by_cases h3:r.kind=3
  ·have hs:=f_a hr.kind h3
   rw [h3] at h0 he ⊢
   simp only [bQ_,fT_] at h0 he ⊢
   exact l_T h (by omega) h0 he
  rw [show (r.kind==3)=false by simpa using h3] at h0 he hle ⊢
  simp only [bF_,fF_] at h0 he hle ⊢
  by_cases h4:r.kind=4
  ·have hl:=b_h (f_b hr.kind h4).1
   rw [h4] at h0 he ⊢
   simp only [bQ_,fT_] at h0 he ⊢
   cases hq:U_ b (F_ d.rules<|t_ r) p with
   | none=>rw [hq] at h0;cases h0
   | some n =>
    rw [hq] at h0 he
    simp only at h0 he
    have hb:=p_p (b:=b) (p+(F_ d.rules<|t_ r).size.toNat) n
    rw [i_p h hl.2 hq (by omega)]
    exact l_T h (b_z hl.2 hq).1 h0 he
  rw [show (r.kind==4)=false by simpa using h4] at h0 he hle ⊢
  simp only [bF_,fF_] at h0 he hle ⊢
  by_cases h10:r.kind=10
  ·rw [h10] at h0 he ⊢
   simp only [bQ_,fT_] at h0 he ⊢
   cases hq:c_d b p (r.bytes.getD 0 0) with
   | none=>rw [hq] at h0;cases h0
   | some x =>
    obtain ⟨c,q⟩:=x
    rw [hq] at he
    simp only at he
    have:c_d b' p (r.bytes.getD 0 0)=some (c,q):=k_3 h _ _ _ c q _ hq he (by omega)
    rw [this]
  rw [show (r.kind==10)=false by simpa using h10] at h0 he hle ⊢
  simp only [bF_,fF_] at h0 he hle ⊢
  cases hh:M_ d.rules b r p with
  | inl c =>
   exfalso
   rw [hh] at h0
   simp only at h0
   subst h0;unfold M_ at hh
   split at hh
   ·split at hh
    ·cases hh
    ·split at hh <;> cases hh
   split at hh
   ·cases hh
   split at hh
   ·split at hh
    ·cases hh
    ·split at hh <;> cases hh
   split at hh
   ·split at hh
    ·cases hh
    ·split at hh <;> cases hh
   ·cases hh
  | inr y =>
   obtain ⟨num,ks,st⟩:=y
   rw [hh] at h0 he
   simp only at h0 he
   have hkk:5≤r.kind∧r.kind≤9:=by omega
   have hks:=e_v hr.kind hkk hp hh;have hpos : ∀ k∈ks,0≤k∧k<(i:Int):=fun k hk=>hr.kids k<|hks.1 k hk
   have hmono : ∀ k∈ks,∀ p,p≤b.length→p≤(rdW d.rules b k.toNat p).2.1∧(rdW d.rules b k.toNat p).2.1≤b.length:=fun k hk p hp=>a_X hv k.toNat (by have:=hpos k hk;omega) p hp
   have hil:=e_w (rd:=fun k p=>rdW d.rules b k.toNat p) ks st hks.2.2.1 hmono;have hf:=p_r h0;have hst:st≤e:=by omega
   rw [l_U h hr.kind hh hst]
   simp only
   have hit:=l_V (e:=e) (rd:=fun k p=>rdW d.rules b k.toNat p) (rd':=fun k p=>rdW d.rules b' k.toNat p) ks st hks.2.2.1 hmono hf.1 (fun k hk p hp h1 h2=>ih k.toNat (by have:=hpos k hk;omega) (by have:=hpos k hk;omega) p hp h1 h2) (by omega)
   rw [hit]
   generalize O_ (fun k p=>rdW d.rules b k.toNat p) ks st=x at *
   unfold a_O at *
   rw [iP_ hf.1] at h0 he ⊢
   rw [iP_ hf.1]
   by_cases h9:r.kind=9
   ·rw [h9] at h0 he ⊢
    simp only [bQ_,fT_] at h0 he ⊢
    have hx:x.2.1<e:=by
     cases hc:b[x.2.1]? with
     | none=>rw [hc] at h0;cases h0
     | some c =>
      rw [hc] at h0 he
      simp only at h0 he
      split at h0
      ·rename_i hs;rw [iP_ hs] at he;exact he
      ·cases h0
    rw [h.get hx,h.piece<|Nat.le_of_lt hx]
   ·rw [show (r.kind==9)=false by simpa using h9]
    rfl
end
end Go.Vw
