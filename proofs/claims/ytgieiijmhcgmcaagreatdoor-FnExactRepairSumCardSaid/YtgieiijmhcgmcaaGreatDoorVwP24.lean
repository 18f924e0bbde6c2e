
import Derived.Test.YtgieiijmhcgmcaaGreatDoorVwP22
namespace Go.Vw
open Go.RowKit Dat
variable {d:g_}{b:List UInt8}
theorem piece_len' (b:List UInt8)(p n:Nat):(piece b p<|p+n).length<=n:=by unfold piece;simp;omega
theorem p_3 (p:Nat)(n:Int):(a_k b p n).1.bytes.length+p<=(a_k b p n).2.1:=by
 unfold a_k
 split
 ·show 0+p<=p;omega
 ·have:=piece_len' b p n.toNat
  show (piece b p<|p+n.toNat).length+p<=p+n.toNat
  omega
structure b_9 (b b':List UInt8)(e:Nat):Prop where
 l1:e<=b.length
 l2:e<=b'.length
 eq:b.take e=b'.take e
section
variable {b':List UInt8}{e:Nat}
theorem b_9.get (h:b_9 b b' e){p:Nat}(hp:p<e):b'[p]? = b[p]? := by
 have:=congrArg (fun l=>l[p]?) h.eq
 simp only [List.getElem?_take,hp,fT_] at this
 exact this.symm
theorem b_9.piece (h:b_9 b b' e){p q:Nat}(hq:q<=e):piece b' p q=piece b p q:=by
 unfold Vw.piece;have h1:b'.take q=(b'.take e).take q:=by rw [List.take_take,Nat.min_eq_left hq]
 have h2:b.take q=(b.take e).take q:=by rw [List.take_take,Nat.min_eq_left hq]
 rw [h1,h2,h.eq]
theorem h_e (h:b_9 b b' e){r:a_}(hr:d_i r){p:Nat}{n:Int}(hn:J_ b r p=some n)(hp:p+r.size.toNat<=e):J_ b' r p=some n:=by
 have h1:=h.l1;have h2:=h.l2;obtain ⟨_,hs,_⟩:=hr;unfold J_ at *
 rw [iN_ (by omega)] at hn ⊢
 rw [h.piece hp];exact hn
theorem l_0 {p q:Nat->Bool}:∀{l:List Nat},(∀k∈l,p k=q k)->l.find? p=l.find? q
 | [],_=>rfl
 | a::l,h=>by
  rw [List.find?_cons,List.find?_cons,h a mS_,l_0<|fun k hk=>h k<|mT_ _ hk]
theorem p_4 (h:b_9 b b' e){bs:List UInt8}{p:Nat}(hc:(a_w b bs p).2=0)(hp:(a_w b bs p).1<=e):a_w b' bs p=a_w b bs p:=by
 have hok:=p_b hc
 have hf:(List.range bs.length).find? (a_v b' bs p)=(List.range bs.length).find? (a_v b bs p):=l_0 fun k hk=>by
  unfold a_v;rw [h.get (by have:=List.mem_range.1 hk;omega)]
 unfold a_w at *
 rw [hf]
 cases hs:(List.range bs.length).find? (a_v b bs p) with
 | none=>rfl
 | some k =>
  rw [hs] at hc
  simp only at hc
  split at hc <;> cases hc
theorem l_1 (h:b_9 b b' e){p:Nat}{n:Int}(G:0<=n)(hc:(a_k b p n).2.2=0)(hp:(a_k b p n).2.1<=e):a_k b' p n=a_k b p n:=by
 have h1:=h.l1;have h2:=h.l2;unfold a_k at *
 split at hc
 ·cases hc
 ·rename_i hn
  rw [iN_ hn] at hp ⊢
  simp only at hp
  rw [iN_ (by omega),h.piece hp]
theorem j_c (h:b_9 b b' e){t:UInt8}:∀(f acc p)(c:List UInt8)(q f':Nat),b_U b t f acc p=some (c,q)->q<=e->q<=p+f'->b_U b' t f' acc p=some (c,q)
 | 0,_,_,_,_,_,hs,_,_=>by cases hs
 | f+1,acc,p,c,q,f',hs,hq,hf=>by
  have hle:=f_d _ _ _ _ _ hs;obtain ⟨f',rfl⟩:∃g,f'=g+1:=⟨f' - 1,by omega⟩;unfold b_U at *
  rw [h.get (show p<e by omega)]
  cases hb:b[p]? with
  | none=>rw [hb] at hs;cases hs
  | some x =>
   rw [hb] at hs
   simp only at hs ⊢
   by_cases h1:x=t
   ·rw [iP_ h1] at hs ⊢;exact hs
   ·rw [iN_ h1] at hs ⊢
    by_cases h2:x=92
    ·rw [iP_ h2] at hs ⊢
     cases G:b[p+1]? with
     | none=>rw [G] at hs;cases hs
     | some y =>
      rw [G] at hs
      simp only at hs
      have H:=f_d _ _ _ _ _ hs
      rw [h.get (show p+1<e by omega),G]
      exact j_c h f _ _ c q f' hs hq (by omega)
    ·rw [iN_ h2] at hs ⊢
     exact j_c h f _ _ c q f' hs hq (by omega)
theorem l_2 (h:b_9 b b' e){rs:List a_}{r:a_}(hk:a_d rs r=true){p:Nat}{x:Int×List Int×Nat}(hh:E_ rs b r p = .inr x)(hx:x.2.2<=e):E_ rs b' r p = .inr x:=by
 unfold E_ at *
 by_cases h5:r.kind=5
 ·have hl:=a_P (c_q hk h5).1
  rw [h5] at hh ⊢
  simp only [bQ_,fT_] at hh ⊢
  cases hi:J_ b (t_ rs<|s_ r) p with
  | none=>rw [hi] at hh;cases hh
  | some n =>
   rw [hi] at hh
   simp only at hh
   have hst:p+(t_ rs<|s_ r).size.toNat<=e:=by
    split at hh
    ·cases hh
    ·cases hh;exact hx
   rw [h_e h hl.2 hi hst];exact hh
 rw [show (r.kind==5)=false by simpa using h5] at hh ⊢
 simp only [bF_,fF_] at hh ⊢
 by_cases h6:r.kind=6
 ·rw [h6] at hh ⊢;exact hh
 rw [show (r.kind==6)=false by simpa using h6] at hh ⊢
 simp only [bF_,fF_] at hh ⊢
 by_cases G:r.kind=7
 ·have hl:=a_P (c_K hk G).1
  rw [G] at hh ⊢
  simp only [bQ_,fT_] at hh ⊢
  cases hi:J_ b (t_ rs<|s_ r) p with
  | none=>rw [hi] at hh;cases hh
  | some n =>
   rw [hi] at hh
   simp only at hh
   have hst:p+(t_ rs<|s_ r).size.toNat<=e:=by
    cases ht:a_p r.tags n with
    | none=>rw [ht] at hh;cases hh
    | some j=>rw [ht] at hh;cases hh;exact hx
   rw [h_e h hl.2 hi hst];exact hh
 rw [show (r.kind==7)=false by simpa using G] at hh ⊢
 simp only [bF_,fF_] at hh ⊢
 by_cases H:r.kind=8
 ·rw [H] at hh ⊢
  simp only [bQ_,fT_] at hh ⊢
  cases hc:b[p]? with
  | none=>rw [hc] at hh;cases hh
  | some c =>
   rw [hc] at hh
   simp only at hh
   have hst:p+1<=e:=by
    split at hh
    ·cases hh
    ·cases hh;exact hx
   rw [h.get (show p<e by omega),hc];exact hh
 rw [show (r.kind==8)=false by simpa using H] at hh ⊢
 exact hh
theorem j_d {rd rd':Int->Nat->RR}{L:Nat}:∀(ks:List Int)(p:Nat),p<=L->(∀k∈ks,∀p,p<=L->p<=(rd k p).2.1/\(rd k p).2.1<=L)->(v_ rd ks p).2.2=0->(∀k∈ks,∀p,p<=L->(rd k p).2.2=0->(rd k p).2.1<=e->rd' k p=rd k p)->(v_ rd ks p).2.1<=e->v_ rd' ks p=v_ rd ks p
 | [],_,_,_,_,_,_=>rfl
 | k::ks,p,hp,hle,h,hr,he=>by
  have hk:=hle k mS_ p hp;have hrest:=d_k ks (rd k p).2.1 hk.2 (fun k hk=>hle k<|mT_ _ hk);unfold v_ at h he ⊢
  by_cases h1:(rd k p).2.2=0
  ·rw [iP_ h1] at h he ⊢
   by_cases h2:(v_ rd ks (rd k p).2.1).2.2=0
   ·rw [iP_ h2] at h he ⊢
    simp only at he
    have G:=hr k mS_ p hp h1 (by omega)
    rw [G,iP_ h1,j_d ks _ hk.2 (fun k hk=>hle k<|mT_ _ hk) h2 (fun k hk=>hr k<|mT_ _ hk) he,iP_ h2]
   ·rw [iN_ h2] at h;exact absurd h h2
  ·rw [iN_ h1] at h;exact absurd h h1
theorem p_5 {r:a_}{num:Int}{p:Nat}{x:List Val×Nat×Int}(h:(a_4 b r num p x).2.2=0):x.2.2=0/\x.2.1<=(a_4 b r num p x).2.1:=by
 unfold a_4 at *
 by_cases hx:x.2.2=0
 ·refine ⟨hx,?_⟩
  rw [iP_ hx] at h ⊢
  split
  ·split
   ·exact Nat.le_refl _
   ·split
    ·exact Nat.le_succ _
    ·exact Nat.le_refl _
  ·exact Nat.le_refl _
 ·rw [iN_ hx] at h;exact absurd h hx
theorem l_3 (hv:P_ d=true)(h:b_9 b b' e):∀(i:Nat),i<d.rules.length->∀p,p<=b.length->(rdW d.rules b i p).2.2=0->(rdW d.rules b i p).2.1<=e->rdW d.rules b' i p=rdW d.rules b i p:=by
 intro i
 induction i using Nat.strongRecOn with
 | _ i ih =>
  intro hi p hp G he;have hle:=b_b hv i hi p hp;have J:=h.l2;have hr:=b_q hv hi;have hal:=d_j hr.kind
  rw [c_L hv hi hp] at G he hle ⊢
  rw [c_L hv hi (show p<=b'.length by omega)]
  generalize d.rules[i]=r at *
  unfold rdB at *
  by_cases h1:r.kind=1
  ·have hin:=f_h hr.kind h1
   rw [h1] at G he ⊢
   simp only [bQ_,fT_] at G he ⊢
   cases hq:J_ b r p with
   | none=>rw [hq] at G;cases G
   | some n=>rw [hq] at he;rw [h_e h hin hq he]
  rw [show (r.kind==1)=false by simpa using h1] at G he hle ⊢
  simp only [bF_,fF_] at G he hle ⊢
  by_cases h2:r.kind=2
  ·rw [h2] at G he ⊢
   simp only [bQ_,fT_] at G he ⊢
   rw [p_4 h G he]
  rw [show (r.kind==2)=false by simpa using h2] at G he hle ⊢
  simp only [bF_,fF_] at G he hle ⊢
  by_cases h3:r.kind=3
  ·have hs:=f_i hr.kind h3
   rw [h3] at G he ⊢
   simp only [bQ_,fT_] at G he ⊢
   exact l_1 h (by omega) G he
  rw [show (r.kind==3)=false by simpa using h3] at G he hle ⊢
  simp only [bF_,fF_] at G he hle ⊢
  by_cases h4:r.kind=4
  ·have hl:=a_P (f_j hr.kind h4).1
   rw [h4] at G he ⊢
   simp only [bQ_,fT_] at G he ⊢
   cases hq:J_ b (t_ d.rules<|s_ r) p with
   | none=>rw [hq] at G;cases G
   | some n =>
    rw [hq] at G he
    simp only at G he
    have hb:=p_3 (b:=b) (p+(t_ d.rules<|s_ r).size.toNat) n
    rw [h_e h hl.2 hq (by omega)]
    exact l_1 h (a_S hl.2 hq).1 G he
  rw [show (r.kind==4)=false by simpa using h4] at G he hle ⊢
  simp only [bF_,fF_] at G he hle ⊢
  by_cases H:r.kind=10
  ·rw [H] at G he ⊢
   simp only [bQ_,fT_] at G he ⊢
   cases hq:b_V b p (r.bytes.getD 0 0) with
   | none=>rw [hq] at G;cases G
   | some x =>
    obtain ⟨c,q⟩:=x
    rw [hq] at he
    simp only at he
    have:b_V b' p (r.bytes.getD 0 0)=some (c,q):=j_c h _ _ _ c q _ hq he (by omega)
    rw [this]
  rw [show (r.kind==10)=false by simpa using H] at G he hle ⊢
  simp only [bF_,fF_] at G he hle ⊢
  cases hh:E_ d.rules b r p with
  | inl c =>
   exfalso
   rw [hh] at G
   simp only at G
   subst G;unfold E_ at hh
   split at hh
   ·split at hh
    ·cases hh
    ·split at hh <;> cases hh
   split at hh
   ·cases hh
   split at hh
   ·split at hh
    ·cases hh
    ·split at hh <;> cases hh
   split at hh
   ·split at hh
    ·cases hh
    ·split at hh <;> cases hh
   ·cases hh
  | inr y =>
   obtain ⟨num,ks,st⟩:=y
   rw [hh] at G he
   simp only at G he
   have hkk:5<=r.kind/\r.kind<=9:=by omega
   have hks:=d_P hr.kind hkk hp hh;have hpos:∀k∈ks,0<=k/\k<(i:Int):=fun k hk=>hr.kids k<|hks.1 k hk
   have hmono:∀k∈ks,∀p,p<=b.length->p<=(rdW d.rules b k.toNat p).2.1/\(rdW d.rules b k.toNat p).2.1<=b.length:=fun k hk p hp=>b_b hv k.toNat (by have:=hpos k hk;omega) p hp
   have hil:=d_k (rd:=fun k p=>rdW d.rules b k.toNat p) ks st hks.2.2.1 hmono;have hf:=p_5 G;have hst:st<=e:=by omega
   rw [l_2 h hr.kind hh hst]
   simp only
   have hit:=j_d (e:=e) (rd:=fun k p=>rdW d.rules b k.toNat p) (rd':=fun k p=>rdW d.rules b' k.toNat p) ks st hks.2.2.1 hmono hf.1 (fun k hk p hp h1 h2=>ih k.toNat (by have:=hpos k hk;omega) (by have:=hpos k hk;omega) p hp h1 h2) (by omega)
   rw [hit]
   generalize v_ (fun k p=>rdW d.rules b k.toNat p) ks st=x at *
   unfold a_4 at *
   rw [iP_ hf.1] at G he ⊢
   rw [iP_ hf.1]
   by_cases I:r.kind=9
   ·rw [I] at G he ⊢
    simp only [bQ_,fT_] at G he ⊢
    have hx:x.2.1<e:=by
     cases hc:b[x.2.1]? with
     | none=>rw [hc] at G;cases G
     | some c =>
      rw [hc] at G he
      simp only at G he
      split at G
      ·rename_i hs;rw [iP_ hs] at he;exact he
      ·cases G
    rw [h.get hx,h.piece<|Nat.le_of_lt hx]
   ·rw [show (r.kind==9)=false by simpa using I]
    rfl
end
end Go.Vw
