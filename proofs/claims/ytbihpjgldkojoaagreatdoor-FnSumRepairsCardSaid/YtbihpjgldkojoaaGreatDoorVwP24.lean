
import Derived.Test.YtbihpjgldkojoaaGreatDoorVwP22
namespace Go.Vw
open Go.RowKit Dat
variable {d:g_}{b:Bt}
def i_K (b:Bt)(at_ rm:Int)(ins:Bt):Bt×Bool :=
 if 0<=at_/\0<=rm/\at_+rm<=b.length then (b.take at_.toNat++ins++b.drop (at_+rm).toNat,true) else (b,false)
theorem m_5 {l:Bt}{a c:Int}(h1:0<=a)(h2:a<=c)(h3:c<=l.length):slc l a c=some ((l.take c.toNat).drop a.toNat):=by
 unfold slc;rw [iP_ ⟨h1,h2,h3⟩]
theorem i_L {l m:Bt}(h:l.length+m.length<=LIM):app l m=some (l++m):=by
 unfold app;rw [iP_ h]
theorem p_S (b:Bt)(at_ rm:Int)(ins:Bt):(i_K b at_ rm ins).1.length<=b.length+ins.length:=by
 unfold i_K
 split
 .simp;omega
 .simp
theorem p_T {at_ rm:Int}{ins:Bt}(hb:b.length<=MX)(hi:ins.length<=MX)(h:0<=at_/\0<=rm/\at_+rm<=b.length) :
  j_ at_ rm=at_+rm/\slc b 0 at_=some (b.take at_.toNat)/\slc b (at_+rm) (b.length:Int)=some (b.drop (at_+rm).toNat)/\app ([]:Bt) (b.take at_.toNat)=some (b.take at_.toNat)/\app (b.take at_.toNat) ins=some (b.take at_.toNat++ins)/\app (b.take at_.toNat++ins) (b.drop (at_+rm).toNat)=some (b.take at_.toNat++ins++b.drop (at_+rm).toNat):=by
 have:=MXv;have:=a_w;refine ⟨ia_ (by omega) (by omega),?_,?_,?_,?_,?_⟩
 .rw [m_5 (by omega) (by omega) (by omega)];simp
 .rw [m_5 (by omega) (by omega) (by omega)];simp
 .rw [i_L (by simp;omega)];simp
 .rw [i_L (by simp;omega)]
 .rw [i_L (by simp;omega)]
theorem p_U {at_ rm:Int}{ins:Bt}(hb:b.length<=MX)(hi:ins.length<=MX):c_h b at_ rm ins=some (i_K b at_ rm ins):=by
 have:=MXv;have:=a_w;unfold c_h i_K;have hbad:app ([]:Bt) b=some b:=by rw [i_L (by simp;omega)];simp
 by_cases h1:at_<0
 .rw [dT_ h1,iN_ (show ¬(0<=at_/\0<=rm/\at_+rm<=b.length) by omega),hbad];rfl
 by_cases h2:rm<0
 .rw [dF_ h1,dT_ h2,iN_ (show ¬(0<=at_/\0<=rm/\at_+rm<=b.length) by omega),hbad];rfl
 by_cases h3:(b.length:Int)<rm
 .rw [dF_ h1,dF_ h2,dT_ h3,iN_ (show ¬(0<=at_/\0<=rm/\at_+rm<=b.length) by omega),hbad];rfl
 rw [dF_ h1,dF_ h2,dF_ h3,a_Y (by omega) (by omega)]
 by_cases h4:(b.length:Int) - rm<at_
 .rw [dT_ h4,iN_ (show ¬(0<=at_/\0<=rm/\at_+rm<=b.length) by omega),hbad];rfl
 .have h:=show 0<=at_/\0<=rm/\at_+rm<=b.length by omega
  obtain ⟨G,H,I,J,L,O⟩:=p_T hb hi h
  rw [dF_ h4,iP_ h,G,H,I]
  simp only [bF_,fF_,bd_some,J,L,O]
theorem piece_len' (b:Bt)(p n:Nat):(piece b p<|p+n).length<=n:=by unfold piece;simp;omega
theorem p_V (p:Nat)(n:Int):(a_C b p n).1.bytes.length+p<=(a_C b p n).2.1:=by
 unfold a_C
 split
 .show 0+p<=p;omega
 .have:=piece_len' b p n.toNat
  show (piece b p<|p+n.toNat).length+p<=p+n.toNat
  omega
structure b_C (b b':Bt)(e:Nat):Prop where
 l1:e<=b.length
 l2:e<=b'.length
 eq:b.take e=b'.take e
section
variable {b':Bt}{e:Nat}
theorem b_C.get (h:b_C b b' e){p:Nat}(hp:p<e):b'[p]? = b[p]? := by
 have:=congrArg (λl=>l[p]?) h.eq
 simp only [List.getElem?_take,hp,fT_] at this
 exact this.symm
theorem b_C.piece (h:b_C b b' e){p q:Nat}(hq:q<=e):piece b' p q=piece b p q:=by
 unfold Vw.piece;have h1:b'.take q=(b'.take e).take q:=by rw [List.take_take,Nat.min_eq_left hq]
 have h2:b.take q=(b.take e).take q:=by rw [List.take_take,Nat.min_eq_left hq]
 rw [h1,h2,h.eq]
theorem i_M (h:b_C b b' e){r:d_}(hr:e_0 r){p:Nat}{n:Int}(hn:Y_ b r p=some n)(hp:p+r.size.toNat<=e):Y_ b' r p=some n:=by
 have h1:=h.l1;have h2:=h.l2;obtain ⟨_,hs,_⟩:=hr;unfold Y_ at *
 rw [iN_ (by omega)] at hn ⊢
 rw [h.piece hp];exact hn
theorem m_6 {p q:Nat->Bool}:∀{l:List Nat},(∀k∈l,p k=q k)->l.find? p=l.find? q
 | [],_=>rfl
 | a::l,h=>by
  rw [List.find?_cons,List.find?_cons,h a mS_,m_6<|λk hk=>h k<|mT_ _ hk]
theorem p_W (h:b_C b b' e){bs:Bt}{p:Nat}(hc:(b_0 b bs p).2=0)(hp:(b_0 b bs p).1<=e):b_0 b' bs p=b_0 b bs p:=by
 have hok:=q_3 hc
 have hf:(List.range bs.length).find? (b_3 b' bs p)=(List.range bs.length).find? (b_3 b bs p):=m_6 λk hk=>by
  unfold b_3;rw [h.get (by have:=List.mem_range.1 hk;omega)]
 unfold b_0 at *
 rw [hf]
 cases hs:(List.range bs.length).find? (b_3 b bs p) with
 | none=>rfl
 | some k =>
  rw [hs] at hc
  simp only at hc
  split at hc <;> cases hc
theorem m_7 (h:b_C b b' e){p:Nat}{n:Int}(G:0<=n)(hc:(a_C b p n).2.2=0)(hp:(a_C b p n).2.1<=e):a_C b' p n=a_C b p n:=by
 have h1:=h.l1;have h2:=h.l2;unfold a_C at *
 split at hc
 .cases hc
 .rename_i hn
  rw [iN_ hn] at hp ⊢
  simp only at hp
  rw [iN_ (by omega),h.piece hp]
theorem k_k (h:b_C b b' e){t:UInt8}:∀(f acc p)(c:Bt)(q f':Nat),c_t b t f acc p=some (c,q)->q<=e->q<=p+f'->c_t b' t f' acc p=some (c,q)
 | 0,_,_,_,_,_,hs,_,_=>by cases hs
 | f+1,acc,p,c,q,f',hs,hq,hf=>by
  have hle:=g_C _ _ _ _ _ hs;obtain ⟨f',rfl⟩:∃g,f'=g+1:=⟨f' - 1,by omega⟩;unfold c_t at *
  rw [h.get (show p<e by omega)]
  cases hb:b[p]? with
  | none=>rw [hb] at hs;cases hs
  | some x =>
   rw [hb] at hs
   simp only at hs ⊢
   by_cases h1:x=t
   .rw [iP_ h1] at hs ⊢;exact hs
   .rw [iN_ h1] at hs ⊢
    by_cases h2:x=92
    .rw [iP_ h2] at hs ⊢
     cases G:b[p+1]? with
     | none=>rw [G] at hs;cases hs
     | some y =>
      rw [G] at hs
      simp only at hs
      have H:=g_C _ _ _ _ _ hs
      rw [h.get (show p+1<e by omega),G]
      exact k_k h f _ _ c q f' hs hq (by omega)
    .rw [iN_ h2] at hs ⊢
     exact k_k h f _ _ c q f' hs hq (by omega)
theorem m_8 (h:b_C b b' e){rs:List d_}{r:d_}(hk:a_y rs r=true){p:Nat}{x:Int×List Int×Nat}(hh:Q_ rs b r p = .inr x)(hx:x.2.2<=e):Q_ rs b' r p = .inr x:=by
 unfold Q_ at *
 by_cases h5:r.kind=5
 .have hl:=b_i (d_2 hk h5).1
  rw [h5] at hh ⊢
  simp only [bQ_,fT_] at hh ⊢
  cases hi:Y_ b (E_ rs<|D_ r) p with
  | none=>rw [hi] at hh;cases hh
  | some n =>
   rw [hi] at hh
   simp only at hh
   have hst:p+(E_ rs<|D_ r).size.toNat<=e:=by
    split at hh
    .cases hh
    .cases hh;exact hx
   rw [i_M h hl.2 hi hst];exact hh
 rw [show (r.kind==5)=false by simpa using h5] at hh ⊢
 simp only [bF_,fF_] at hh ⊢
 by_cases h6:r.kind=6
 .rw [h6] at hh ⊢;exact hh
 rw [show (r.kind==6)=false by simpa using h6] at hh ⊢
 simp only [bF_,fF_] at hh ⊢
 by_cases G:r.kind=7
 .have hl:=b_i (d_u hk G).1
  rw [G] at hh ⊢
  simp only [bQ_,fT_] at hh ⊢
  cases hi:Y_ b (E_ rs<|D_ r) p with
  | none=>rw [hi] at hh;cases hh
  | some n =>
   rw [hi] at hh
   simp only at hh
   have hst:p+(E_ rs<|D_ r).size.toNat<=e:=by
    cases ht:a_L r.tags n with
    | none=>rw [ht] at hh;cases hh
    | some j=>rw [ht] at hh;cases hh;exact hx
   rw [i_M h hl.2 hi hst];exact hh
 rw [show (r.kind==7)=false by simpa using G] at hh ⊢
 simp only [bF_,fF_] at hh ⊢
 by_cases H:r.kind=8
 .rw [H] at hh ⊢
  simp only [bQ_,fT_] at hh ⊢
  cases hc:b[p]? with
  | none=>rw [hc] at hh;cases hh
  | some c =>
   rw [hc] at hh
   simp only at hh
   have hst:p+1<=e:=by
    split at hh
    .cases hh
    .cases hh;exact hx
   rw [h.get (show p<e by omega),hc];exact hh
 rw [show (r.kind==8)=false by simpa using H] at hh ⊢
 exact hh
theorem k_l {rd rd':Int->Nat->RR}{L:Nat}:∀(ks:List Int)(p:Nat),p<=L->(∀k∈ks,∀p,p<=L->p<=(rd k p).2.1/\(rd k p).2.1<=L)->(F_ rd ks p).2.2=0->(∀k∈ks,∀p,p<=L->(rd k p).2.2=0->(rd k p).2.1<=e->rd' k p=rd k p)->(F_ rd ks p).2.1<=e->F_ rd' ks p=F_ rd ks p
 | [],_,_,_,_,_,_=>rfl
 | k::ks,p,hp,hle,G,hr,he=>by
  have hk:=hle k mS_ p hp;have hrest:=e_2 ks (rd k p).2.1 hk.2 (λk hk=>hle k<|mT_ _ hk);unfold F_ at G he ⊢
  by_cases h1:(rd k p).2.2=0
  .rw [iP_ h1] at G he ⊢
   by_cases h2:(F_ rd ks (rd k p).2.1).2.2=0
   .rw [iP_ h2] at G he ⊢
    simp only at he
    have H:=hr k mS_ p hp h1 (by omega)
    rw [H,iP_ h1,k_l ks _ hk.2 (λk hk=>hle k<|mT_ _ hk) h2 (λk hk=>hr k<|mT_ _ hk) he,iP_ h2]
   .rw [iN_ h2] at G;exact absurd G h2
  .rw [iN_ h1] at G;exact absurd G h1
theorem p_X {r:d_}{num:Int}{p:Nat}{x:List Val×Nat×Int}(G:(a_k b r num p x).2.2=0):x.2.2=0/\x.2.1<=(a_k b r num p x).2.1:=by
 unfold a_k at *
 by_cases hx:x.2.2=0
 .refine ⟨hx,?_⟩
  rw [iP_ hx] at G ⊢
  split
  .split
   .exact Nat.le_refl _
   .split
    .exact Nat.le_succ _
    .exact Nat.le_refl _
  .exact Nat.le_refl _
 .rw [iN_ hx] at G;exact absurd G hx
theorem k_m (hv:a_2 d=true)(h:b_C b b' e):∀(i:Nat),i<d.rules.length->∀p,p<=b.length->(rdW d.rules b i p).2.2=0->(rdW d.rules b i p).2.1<=e->rdW d.rules b' i p=rdW d.rules b i p:=by
 intro i
 induction i using Nat.strongRecOn with
 | _ i ih =>
  intro hi p hp G he;have hle:=b_D hv i hi p hp;have J:=h.l2;have hr:=b_V hv hi;have hal:=e_1 hr.kind
  rw [d_v hv hi hp] at G he hle ⊢
  rw [d_v hv hi (show p<=b'.length by omega)]
  generalize d.rules[i]=r at *
  unfold rdB at *
  by_cases h1:r.kind=1
  .have hin:=g_F hr.kind h1
   rw [h1] at G he ⊢
   simp only [bQ_,fT_] at G he ⊢
   cases hq:Y_ b r p with
   | none=>rw [hq] at G;cases G
   | some n=>rw [hq] at he;rw [i_M h hin hq he]
  rw [show (r.kind==1)=false by simpa using h1] at G he hle ⊢
  simp only [bF_,fF_] at G he hle ⊢
  by_cases h2:r.kind=2
  .rw [h2] at G he ⊢
   simp only [bQ_,fT_] at G he ⊢
   rw [p_W h G he]
  rw [show (r.kind==2)=false by simpa using h2] at G he hle ⊢
  simp only [bF_,fF_] at G he hle ⊢
  by_cases h3:r.kind=3
  .have hs:=g_G hr.kind h3
   rw [h3] at G he ⊢
   simp only [bQ_,fT_] at G he ⊢
   exact m_7 h (by omega) G he
  rw [show (r.kind==3)=false by simpa using h3] at G he hle ⊢
  simp only [bF_,fF_] at G he hle ⊢
  by_cases h4:r.kind=4
  .have hl:=b_i (g_H hr.kind h4).1
   rw [h4] at G he ⊢
   simp only [bQ_,fT_] at G he ⊢
   cases hq:Y_ b (E_ d.rules<|D_ r) p with
   | none=>rw [hq] at G;cases G
   | some n =>
    rw [hq] at G he
    simp only at G he
    have hb:=p_V (b:=b) (p+(E_ d.rules<|D_ r).size.toNat) n
    rw [i_M h hl.2 hq (by omega)]
    exact m_7 h (b_k hl.2 hq).1 G he
  rw [show (r.kind==4)=false by simpa using h4] at G he hle ⊢
  simp only [bF_,fF_] at G he hle ⊢
  by_cases H:r.kind=10
  .rw [H] at G he ⊢
   simp only [bQ_,fT_] at G he ⊢
   cases hq:c_u b p (r.bytes.getD 0 0) with
   | none=>rw [hq] at G;cases G
   | some x =>
    obtain ⟨c,q⟩:=x
    rw [hq] at he
    simp only at he
    have:c_u b' p (r.bytes.getD 0 0)=some (c,q):=k_k h _ _ _ c q _ hq he (by omega)
    rw [this]
  rw [show (r.kind==10)=false by simpa using H] at G he hle ⊢
  simp only [bF_,fF_] at G he hle ⊢
  cases hh:Q_ d.rules b r p with
  | inl c =>
   exfalso
   rw [hh] at G
   simp only at G
   subst G;unfold Q_ at hh
   split at hh
   .split at hh
    .cases hh
    .split at hh <;> cases hh
   split at hh
   .cases hh
   split at hh
   .split at hh
    .cases hh
    .split at hh <;> cases hh
   split at hh
   .split at hh
    .cases hh
    .split at hh <;> cases hh
   .cases hh
  | inr y =>
   obtain ⟨num,ks,st⟩:=y
   rw [hh] at G he
   simp only at G he
   have hkk:5<=r.kind/\r.kind<=9:=by omega
   have hks:=e_A hr.kind hkk hp hh;have hpos:∀k∈ks,0<=k/\k<(i:Int):=λk hk=>hr.kids k<|hks.1 k hk
   have hmono:∀k∈ks,∀p,p<=b.length->p<=(rdW d.rules b k.toNat p).2.1/\(rdW d.rules b k.toNat p).2.1<=b.length:=λk hk p hp=>b_D hv k.toNat (by have:=hpos k hk;omega) p hp
   have hil:=e_2 (rd:=λk p=>rdW d.rules b k.toNat p) ks st hks.2.2.1 hmono;have hf:=p_X G;have hst:st<=e:=by omega
   rw [m_8 h hr.kind hh hst]
   simp only
   have hit:=k_l (e:=e) (rd:=λk p=>rdW d.rules b k.toNat p) (rd':=λk p=>rdW d.rules b' k.toNat p) ks st hks.2.2.1 hmono hf.1 (λk hk p hp h1 h2=>ih k.toNat (by have:=hpos k hk;omega) (by have:=hpos k hk;omega) p hp h1 h2) (by omega)
   rw [hit]
   generalize F_ (λk p=>rdW d.rules b k.toNat p) ks st=x at *
   unfold a_k at *
   rw [iP_ hf.1] at G he ⊢
   rw [iP_ hf.1]
   by_cases I:r.kind=9
   .rw [I] at G he ⊢
    simp only [bQ_,fT_] at G he ⊢
    have hx:x.2.1<e:=by
     cases hc:b[x.2.1]? with
     | none=>rw [hc] at G;cases G
     | some c =>
      rw [hc] at G he
      simp only at G he
      split at G
      .rename_i hs;rw [iP_ hs] at he;exact he
      .cases G
    rw [h.get hx,h.piece<|Nat.le_of_lt hx]
   .rw [show (r.kind==9)=false by simpa using I]
    rfl
end
end Go.Vw
