
import Derived.Test.YtlmdniepgikmaaaGreatDoorVd
namespace Go.Vw
open Go.RowKit Dat
variable {d:f_}{b:Bt}
theorem piece_len' (b:Bt)(p n:Nat):(piece b p<|p+n).length<=n:=by unfold piece;simp;omega
theorem l_1 (p:Nat)(n:Int):(a_y b p n).1.bytes.length+p<=(a_y b p n).2.1:=by
 unfold a_y
 split
 .show 0+p<=p;omega
 .have:=piece_len' b p n.toNat
  show (piece b p<|p+n.toNat).length+p<=p+n.toNat
  omega
structure c_8 (b b':Bt)(e:Nat):Prop where
 l1:e<=b.length
 l2:e<=b'.length
 eq:b.take e=b'.take e
section
variable {b':Bt}{e:Nat}
theorem c_8.get (h:c_8 b b' e){p:Nat}(hp:p<e):b'[p]? = b[p]? := by
 have:=congrArg (λl=>l[p]?) h.eq
 simp only [List.getElem?_take,hp,fT_] at this
 exact this.symm
theorem c_8.piece (h:c_8 b b' e){p q:Nat}(hq:q<=e):piece b' p q=piece b p q:=by
 unfold Vw.piece;have h1:b'.take q=(b'.take e).take q:=by rw [List.take_take,Nat.min_eq_left hq]
 have h2:b.take q=(b.take e).take q:=by rw [List.take_take,Nat.min_eq_left hq]
 rw [h1,h2,h.eq]
theorem j_b (h:c_8 b b' e){r:d_}(hr:e_k r){p:Nat}{n:Int}(hn:Y_ b r p=some n)(hp:p+r.size.toNat<=e):Y_ b' r p=some n:=by
 have h1:=h.l1;have h2:=h.l2;obtain ⟨_,hs,_⟩:=hr;unfold Y_ at *
 rw [iN_ (by omega)] at hn ⊢
 rw [h.piece hp];exact hn
theorem n_9 {p q:Nat->Bool}:∀{l:List Nat},(∀k∈l,p k=q k)->l.find? p=l.find? q
 | [],_=>rfl
 | a::l,h=>by
  rw [List.find?_cons,List.find?_cons,h a mS_,n_9<|λk hk=>h k<|mT_ _ hk]
theorem r_C (h:c_8 b b' e){bs:Bt}{p:Nat}(hc:(b_5 b bs p).2=0)(hp:(b_5 b bs p).1<=e):b_5 b' bs p=b_5 b bs p:=by
 have hok:=n_i hc
 have hf:(List.range bs.length).find? (b_4 b' bs p)=(List.range bs.length).find? (b_4 b bs p):=n_9 λk hk=>by
  unfold b_4;rw [h.get (by have:=List.mem_range.1 hk;omega)]
 unfold b_5 at *
 rw [hf]
 cases hs:(List.range bs.length).find? (b_4 b bs p) with
 | none=>rfl
 | some k =>
  rw [hs] at hc
  simp only at hc
  split at hc <;> cases hc
theorem n_a (h:c_8 b b' e){p:Nat}{n:Int}(G:0<=n)(hc:(a_y b p n).2.2=0)(hp:(a_y b p n).2.1<=e):a_y b' p n=a_y b p n:=by
 have h1:=h.l1;have h2:=h.l2;unfold a_y at *
 split at hc
 .cases hc
 .rename_i hn
  rw [iN_ hn] at hp ⊢
  simp only at hp
  rw [iN_ (by omega),h.piece hp]
theorem l_2 (h:c_8 b b' e){t:UInt8}:∀(f acc p)(c:Bt)(q f':Nat),c_k b t f acc p=some (c,q)->q<=e->q<=p+f'->c_k b' t f' acc p=some (c,q)
 | 0,_,_,_,_,_,hs,_,_=>by cases hs
 | f+1,acc,p,c,q,f',hs,hq,hf=>by
  have hle:=f_C _ _ _ _ _ hs;obtain ⟨f',rfl⟩:∃g,f'=g+1:=⟨f' - 1,by omega⟩;unfold c_k at *
  rw [h.get (show p<e by omega)]
  cases hb:b[p]? with
  | none=>rw [hb] at hs;cases hs
  | some x =>
   rw [hb] at hs
   simp only at hs ⊢
   by_cases h1:x=t
   .rw [iP_ h1] at hs ⊢;exact hs
   .rw [iN_ h1] at hs ⊢
    by_cases h2:x=92
    .rw [iP_ h2] at hs ⊢
     cases G:b[p+1]? with
     | none=>rw [G] at hs;cases hs
     | some y =>
      rw [G] at hs
      simp only at hs
      have H:=f_C _ _ _ _ _ hs
      rw [h.get (show p+1<e by omega),G]
      exact l_2 h f _ _ c q f' hs hq (by omega)
    .rw [iN_ h2] at hs ⊢
     exact l_2 h f _ _ c q f' hs hq (by omega)
theorem n_b (h:c_8 b b' e){rs:List d_}{r:d_}(hk:a_q rs r=true){p:Nat}{x:Int×List Int×Nat}(hh:Q_ rs b r p = .inr x)(hx:x.2.2<=e):Q_ rs b' r p = .inr x:=by
 unfold Q_ at *
 by_cases h5:r.kind=5
 .have hl:=b_q (c_R hk h5).1
  rw [h5] at hh ⊢
  simp only [bQ_,fT_] at hh ⊢
  cases hi:Y_ b (K_ rs<|C_ r) p with
  | none=>rw [hi] at hh;cases hh
  | some n =>
   rw [hi] at hh
   simp only at hh
   have hst:p+(K_ rs<|C_ r).size.toNat<=e:=by
    split at hh
    .cases hh
    .cases hh;exact hx
   rw [j_b h hl.2 hi hst];exact hh
 rw [show (r.kind==5)=false by simpa using h5] at hh ⊢
 simp only [bF_,fF_] at hh ⊢
 by_cases h6:r.kind=6
 .rw [h6] at hh ⊢;exact hh
 rw [show (r.kind==6)=false by simpa using h6] at hh ⊢
 simp only [bF_,fF_] at hh ⊢
 by_cases G:r.kind=7
 .have hl:=b_q (d_l hk G).1
  rw [G] at hh ⊢
  simp only [bQ_,fT_] at hh ⊢
  cases hi:Y_ b (K_ rs<|C_ r) p with
  | none=>rw [hi] at hh;cases hh
  | some n =>
   rw [hi] at hh
   simp only at hh
   have hst:p+(K_ rs<|C_ r).size.toNat<=e:=by
    cases ht:a_U r.tags n with
    | none=>rw [ht] at hh;cases hh
    | some j=>rw [ht] at hh;cases hh;exact hx
   rw [j_b h hl.2 hi hst];exact hh
 rw [show (r.kind==7)=false by simpa using G] at hh ⊢
 simp only [bF_,fF_] at hh ⊢
 by_cases H:r.kind=8
 .rw [H] at hh ⊢
  simp only [bQ_,fT_] at hh ⊢
  cases hc:b[p]? with
  | none=>rw [hc] at hh;cases hh
  | some c =>
   rw [hc] at hh
   simp only at hh
   have hst:p+1<=e:=by
    split at hh
    .cases hh
    .cases hh;exact hx
   rw [h.get (show p<e by omega),hc];exact hh
 rw [show (r.kind==8)=false by simpa using H] at hh ⊢
 exact hh
theorem n_c {rd rd':Int->Nat->RR}{L:Nat}:∀(ks:List Int)(p:Nat),p<=L->(∀k∈ks,∀p,p<=L->p<=(rd k p).2.1/\(rd k p).2.1<=L)->(W_ rd ks p).2.2=0->(∀k∈ks,∀p,p<=L->(rd k p).2.2=0->(rd k p).2.1<=e->rd' k p=rd k p)->(W_ rd ks p).2.1<=e->W_ rd' ks p=W_ rd ks p
 | [],_,_,_,_,_,_=>rfl
 | k::ks,p,hp,hle,G,hr,he=>by
  have hk:=hle k mS_ p hp;have hrest:=f_1 ks (rd k p).2.1 hk.2 (λk hk=>hle k<|mT_ _ hk);unfold W_ at G he ⊢
  by_cases h1:(rd k p).2.2=0
  .rw [iP_ h1] at G he ⊢
   by_cases h2:(W_ rd ks (rd k p).2.1).2.2=0
   .rw [iP_ h2] at G he ⊢
    simp only at he
    have H:=hr k mS_ p hp h1 (by omega)
    rw [H,iP_ h1,n_c ks _ hk.2 (λk hk=>hle k<|mT_ _ hk) h2 (λk hk=>hr k<|mT_ _ hk) he,iP_ h2]
   .rw [iN_ h2] at G;exact absurd G h2
  .rw [iN_ h1] at G;exact absurd G h1
theorem r_D {r:d_}{num:Int}{p:Nat}{x:List Val×Nat×Int}(G:(a_J b r num p x).2.2=0):x.2.2=0/\x.2.1<=(a_J b r num p x).2.1:=by
 unfold a_J at *
 by_cases hx:x.2.2=0
 .refine ⟨hx,?_⟩
  rw [iP_ hx] at G ⊢
  split
  .split
   .exact Nat.le_refl _
   .split
    .exact Nat.le_succ _
    .exact Nat.le_refl _
  .exact Nat.le_refl _
 .rw [iN_ hx] at G;exact absurd G hx
theorem n_d (hv:U_ d=true)(h:c_8 b b' e):∀(i:Nat),i<d.rules.length->∀p,p<=b.length->(rdW d.rules b i p).2.2=0->(rdW d.rules b i p).2.1<=e->rdW d.rules b' i p=rdW d.rules b i p:=by
 intro i
 induction i using Nat.strongRecOn with
 | _ i ih =>
  intro hi p hp G he;have hle:=b_o hv i hi p hp;have J:=h.l2;have hr:=b_9 hv hi;have hal:=e_l hr.kind
  rw [c_S hv hi hp] at G he hle ⊢
  rw [c_S hv hi (show p<=b'.length by omega)]
  generalize d.rules[i]=r at *
  unfold rdB at *
  by_cases h1:r.kind=1
  .have hin:=f_E hr.kind h1
   rw [h1] at G he ⊢
   simp only [bQ_,fT_] at G he ⊢
   cases hq:Y_ b r p with
   | none=>rw [hq] at G;cases G
   | some n=>rw [hq] at he;rw [j_b h hin hq he]
  rw [show (r.kind==1)=false by simpa using h1] at G he hle ⊢
  simp only [bF_,fF_] at G he hle ⊢
  by_cases h2:r.kind=2
  .rw [h2] at G he ⊢
   simp only [bQ_,fT_] at G he ⊢
   rw [r_C h G he]
  rw [show (r.kind==2)=false by simpa using h2] at G he hle ⊢
  simp only [bF_,fF_] at G he hle ⊢
  by_cases h3:r.kind=3
  .have hs:=f_F hr.kind h3
   rw [h3] at G he ⊢
   simp only [bQ_,fT_] at G he ⊢
   exact n_a h (by omega) G he
  rw [show (r.kind==3)=false by simpa using h3] at G he hle ⊢
  simp only [bF_,fF_] at G he hle ⊢
  by_cases h4:r.kind=4
  .have hl:=b_q (f_G hr.kind h4).1
   rw [h4] at G he ⊢
   simp only [bQ_,fT_] at G he ⊢
   cases hq:Y_ b (K_ d.rules<|C_ r) p with
   | none=>rw [hq] at G;cases G
   | some n =>
    rw [hq] at G he
    simp only at G he
    have hb:=l_1 (b:=b) (p+(K_ d.rules<|C_ r).size.toNat) n
    rw [j_b h hl.2 hq (by omega)]
    exact n_a h (b_Q hl.2 hq).1 G he
  rw [show (r.kind==4)=false by simpa using h4] at G he hle ⊢
  simp only [bF_,fF_] at G he hle ⊢
  by_cases H:r.kind=10
  .rw [H] at G he ⊢
   simp only [bQ_,fT_] at G he ⊢
   cases hq:c_l b p (r.bytes.getD 0 0) with
   | none=>rw [hq] at G;cases G
   | some x =>
    obtain ⟨c,q⟩:=x
    rw [hq] at he
    simp only at he
    have:c_l b' p (r.bytes.getD 0 0)=some (c,q):=l_2 h _ _ _ c q _ hq he (by omega)
    rw [this]
  rw [show (r.kind==10)=false by simpa using H] at G he hle ⊢
  simp only [bF_,fF_] at G he hle ⊢
  cases hh:Q_ d.rules b r p with
  | inl c =>
   exfalso
   rw [hh] at G
   simp only at G
   subst G;unfold Q_ at hh
   split at hh
   .split at hh
    .cases hh
    .split at hh <;> cases hh
   split at hh
   .cases hh
   split at hh
   .split at hh
    .cases hh
    .split at hh <;> cases hh
   split at hh
   .split at hh
    .cases hh
    .split at hh <;> cases hh
   .cases hh
  | inr y =>
   obtain ⟨num,ks,st⟩:=y
   rw [hh] at G he
   simp only at G he
   have hkk:5<=r.kind/\r.kind<=9:=by omega
   have hks:=e_n hr.kind hkk hp hh;have hpos:∀k∈ks,0<=k/\k<(i:Int):=λk hk=>hr.kids k<|hks.1 k hk
   have hmono:∀k∈ks,∀p,p<=b.length->p<=(rdW d.rules b k.toNat p).2.1/\(rdW d.rules b k.toNat p).2.1<=b.length:=λk hk p hp=>b_o hv k.toNat (by have:=hpos k hk;omega) p hp
   have hil:=f_1 (rd:=λk p=>rdW d.rules b k.toNat p) ks st hks.2.2.1 hmono;have hf:=r_D G;have hst:st<=e:=by omega
   rw [n_b h hr.kind hh hst]
   simp only
   have hit:=n_c (e:=e) (rd:=λk p=>rdW d.rules b k.toNat p) (rd':=λk p=>rdW d.rules b' k.toNat p) ks st hks.2.2.1 hmono hf.1 (λk hk p hp h1 h2=>ih k.toNat (by have:=hpos k hk;omega) (by have:=hpos k hk;omega) p hp h1 h2) (by omega)
   rw [hit]
   generalize W_ (λk p=>rdW d.rules b k.toNat p) ks st=x at *
   unfold a_J at *
   rw [iP_ hf.1] at G he ⊢
   rw [iP_ hf.1]
   by_cases I:r.kind=9
   .rw [I] at G he ⊢
    simp only [bQ_,fT_] at G he ⊢
    have hx:x.2.1<e:=by
     cases hc:b[x.2.1]? with
     | none=>rw [hc] at G;cases G
     | some c =>
      rw [hc] at G he
      simp only at G he
      split at G
      .rename_i hs;rw [iP_ hs] at he;exact he
      .cases G
    rw [h.get hx,h.piece<|Nat.le_of_lt hx]
   .rw [show (r.kind==9)=false by simpa using I]
    rfl
end
end Go.Vw
