
import Derived.Test.YtlagjoejlchiiaaGreatDoorVwP15
namespace Go.Vw
open Go.RowKit Dat
theorem f_s {c:UInt8}(h:a_v c=true):48<=c.toNat/\c.toNat<=57:=by
 rw [d_q] at h
 simp only [aE_,dE_] at h
 omega
theorem o_z (l:List UInt8):∀a:Int,(∀c∈l,a_v c=true)->1<=a->1<=l.foldl b_Y a:=by
 induction l with
 | nil=>intro a _ h;exact h
 | cons c l ih =>
  intro a h ha;have:=f_s<|h c mS_;have hb:byteI c=(c.toNat:Int):=rfl;exact ih _ (fun c hc=>h c<|mT_ _ hc) (by unfold b_Y;omega)
theorem o_A (l:List UInt8)(c:UInt8):Q_ (l++[c])=10 * Q_ l+(byteI c - 48):=by
 unfold Q_;rw [List.foldl_append];rfl
theorem l_2:∀(m:Nat)(l:List UInt8),l.length=m+1->(∀c∈l,a_v c=true)->(m=0∨l.head? ≠ some 48)->Lib.decDigits (Q_ l).toNat=l
 | 0,l,hl,hd,_=>by
  match l,hl with
  | [c],_ =>
   have h:=f_s<|hd c mS_
   have hv:Q_ [c]=(c.toNat:Int) - 48:=by
    have hb:byteI c=(c.toNat:Int):=rfl
    simp [Q_,b_Y,hb]
   rw [hv,Lib.decDigits,dif_pos (by omega)]
   congr 1
   have:48+((c.toNat:Int) - 48).toNat=c.toNat:=by omega
   rw [this];simp
 | m+1,l,hl,hd,hh=>by
  have hh':l.head? ≠ some 48:=hh.resolve_left (by omega)
  rcases List.eq_nil_or_concat l with rfl | ⟨l',c,rfl⟩
  ·simp at hl
  rw [List.concat_eq_append] at *
  have hl':l'.length=m+1:=by simpa using hl
  have hd':∀x∈l',a_v x=true:=fun x hx=>hd x<|List.mem_append_left _ hx
  have hc:=f_s<|hd c (by simp)
  obtain ⟨a,r,rfl⟩:∃a r,l'=a::r:=by
   cases l' with
   | nil=>simp at hl'
   | cons a r=>exact ⟨a,r,rfl⟩
  have ha:a ≠ 48:=fun h=>hh' (by simp [h])
  have hab:=f_s<|hd' a mS_;have han:a.toNat ≠ 48:=fun h=>ha<|UInt8.toNat_inj.1 (by rw [h];rfl)
  have ih:=l_2 m (a::r) hl' hd'<|.inr (by simpa using ha)
  have h1:1<=Q_ (a::r):=by
   have hb:byteI a=(a.toNat:Int):=rfl;exact o_z r (b_Y 0 a) (fun x hx=>hd' x<|mT_ _ hx) (by unfold b_Y;omega)
  have hb:byteI c=(c.toNat:Int):=rfl
  rw [o_A,hb,Lib.decDigits,dif_neg (by omega)]
  have G:(10 * Q_ (a::r)+((c.toNat:Int) - 48)).toNat / 10=(Q_ (a::r)).toNat:=by omega
  have H:48+(10 * Q_ (a::r)+((c.toNat:Int) - 48)).toNat % 10=c.toNat:=by omega
  rw [G,H,ih];simp
theorem o_B (x:Nat):(Lib.decDigits x).head? = some 48->x=0:=by
 induction x using Nat.strongRecOn with
 | _ x ih =>
  rw [Lib.decDigits]
  split
  ·rename_i hx
   intro h
   simp only [List.head?_cons,oI_] at h
   have:=congrArg UInt8.toNat h
   rw [UInt8.toNat_ofNat'] at this
   simp at this;omega
  ·rename_i hx
   intro h
   have hl:=(j_2 (x / 10) (x / 10) (by
    have:=Nat.lt_two_pow_self (n:=x / 10+1);have h2:2 ^ (x / 10+1)<=10 ^ (x / 10+1):=Nat.pow_le_pow_left (by decide) _
    omega)).1
   have:(Lib.decDigits<|x / 10).head? = some 48:=by
    cases hd:Lib.decDigits (x / 10) with
    | nil=>rw [hd] at hl;simp at hl
    | cons a r=>rw [hd] at h;simpa using h
   have:=ih (x / 10) (by omega) this
   omega
theorem l_3 (s:Str):e_Q s=some (b_Z s):=by
 unfold e_Q
 by_cases G:s.b=[]
 ·rw [c_X (fun h=>by have:=h.1.1;rw [G] at this;simp at this),G];rfl
 have hpos:0<s.b.length:=by cases h:s.b with | nil=>exact absurd h G | cons=>simp
 rw [show (s.b==(⟨[]⟩:Str).b)=false by simpa using G]
 simp only [bF_,fF_]
 by_cases a1:13<s.b.length
 ·rw [dT_ (show (13:Int)<(s.b.length:Int) by omega),c_X (fun h=>by have:=h.1.2;omega)];rfl
 rw [dF_ (show ¬(13:Int)<(s.b.length:Int) by omega),a_R hpos]
 simp only [bF_,fF_,bd_some,d_Y]
 have hhd:s.b.head? = some s.b[0]:=by rw [List.head?_eq_getElem?,gG_ hpos]
 by_cases hz:s.b[0]=48/\1<s.b.length
 ·rw [dT_ hz.1,dT_ (show (1:Int)<(s.b.length:Int) by omega),c_X]
  ·rfl
  ·rintro ⟨_,hd,_,he⟩;have hv:=(e_y _ hd).1;obtain ⟨v,hv'⟩:∃v:Nat,Q_ s.b=v:=⟨(Q_ s.b).toNat,by omega⟩
   rw [hv',d_r] at he
   have h1:=o_B v (by rw [he,hhd,hz.1]);subst h1;have h2:=congrArg List.length he
   rw [Lib.decDigits] at h2
   simp at h2;omega
 have e:(if decide (s.b[0]=48)=true then some (decide<|(1:Int)<(s.b.length:Int)) else some false)=some false:=by
  by_cases h:s.b[0]=48
  ·rw [dT_ h,dF_ (fun h'=>hz ⟨h,by omega⟩)];rfl
  ·rw [dF_ h];rfl
 rw [e,bd_some]
 simp only [bF_,fF_]
 have hp:∀k,k<=s.b.length->(∀c∈s.b.take k,a_v c=true)->0<=Q_ (s.b.take k)/\Q_ (s.b.take k)<10 ^ 13:=fun k hk hd=>by
  have:=e_y _ hd;refine ⟨this.1,Int.lt_of_lt_of_le this.2 ?_⟩
  exact_mod_cast Nat.pow_le_pow_right (by decide) (by simp;omega)
 rcases e_x (σ:=Int) (ρ:=Int×Bool) (I:=fun k x=>x=Q_ (s.b.take k)/\∀c∈s.b.take k,a_v c=true) (R:=fun r=>r=(0,false)/\¬∀c∈s.b,a_v c=true)
  (body:=fun H=>(fun J=>bd (α:=Bool) (bd (idx s.b ((H:Nat):Int)) fun L=>if (decide<|(byteI L)<(byteI (48:UInt8)))=true then some true else bd (idx s.b ((H:Nat):Int)) fun O=>some<|decide<|(byteI (57:UInt8))<(byteI O)) (fun V=>if V=true then some (.ret (0,false)) else bd (idx s.b ((H:Nat):Int)) fun W=>some<|.next<|j_ (b_1 10 J)<|byteI<|mkB<|byteI W - byteI (48:UInt8)))) (n:=s.b.length)
  (fun k x hk ⟨hx,hd⟩=>by
   subst hx
   simp only [ix_ hk,bd_some]
   have hb:byteI s.b[k]=(s.b[k].toNat:Int):=rfl;have Y:byteI (48:UInt8)=48:=rfl;have a0:byteI (57:UInt8)=57:=rfl
   have ed:(if decide (byteI s.b[k]<byteI (48:UInt8))=true then some true else some (decide<|byteI (57:UInt8)<byteI s.b[k]))=some (!a_v s.b[k]):=by
    rw [d_q,hb,Y,a0]
    by_cases h1:(s.b[k].toNat:Int)<48
    ·rw [dT_ h1,dF_ (show ¬(48:Int)<=s.b[k].toNat by omega)];rfl
    ·rw [dF_ h1,dT_ (show (48:Int)<=s.b[k].toNat by omega)]
     simp only [bF_,fF_,Bool.true_and]
     congr 1
     by_cases h2:(57:Int)<s.b[k].toNat
     ·rw [dT_ h2,dF_ (by omega)];rfl
     ·rw [dF_ h2,dT_ (by omega)];rfl
   rw [ed,bd_some]
   by_cases hc:a_v s.b[k]=true
   ·left
    rw [hc]
    simp only [nT_,bF_,fF_]
    have h1:=hp k (by omega) hd;have h2:=f_s hc
    rw [l_0 hc,e_D (by omega) (by omega),ia_ (by omega) (by omega)]
    refine ⟨_,rfl,?_,?_⟩
    ·unfold Q_;rw [d_s _ _ hk];rfl
    ·intro c hcm
     rw [f_p hk] at hcm
     simp only [List.mem_append,List.mem_singleton] at hcm
     rcases hcm with hcm | rfl
     ·exact hd c hcm
     ·exact hc
   ·right
    rw [show a_v s.b[k]=false by simpa using hc]
    exact ⟨_,rfl,rfl,fun h=>hc (h _ (gE_ hk))⟩) s.b.length 0 0 (by omega) ⟨rfl,by simp⟩ with ⟨x,h1,h2,h3⟩ | ⟨r,h1,rfl,h3⟩
 ·rw [h1,bd_some,el_inl]
  rw [List.take_length] at h2 h3
  subst h2;have hv:=(e_y _ h3).1;obtain ⟨v,hv'⟩:∃v:Nat,Q_ s.b=v:=⟨(Q_ s.b).toNat,by omega⟩
  have hit:Lib.itoa (Q_ s.b)=s.b:=by
   have:=l_2 (s.b.length - 1) s.b (by omega) h3 (by
    by_cases h:s.b.length=1
    ·left;omega
    ·right;rw [hhd];intro h';exact hz ⟨by simpa using h',by omega⟩)
   rw [hv'] at this ⊢
   rw [d_r];simpa using this
  by_cases hm:Q_ s.b<=1000000000000
  ·rw [dF_ (show ¬1000000000000<Q_ s.b by omega),j_3 ⟨⟨hpos,by omega⟩,h3,hm,hit⟩];rfl
  ·rw [dT_ (show 1000000000000<Q_ s.b by omega),c_X<|fun h=>hm h.2.2.1];rfl
 ·rw [h1,bd_some,el_inr,c_X<|fun h=>h3 h.2.1]
theorem o_C {n:Nat}(hn:30<=n)(s:Str):e_9 n s=some (c_r s):=by
 unfold e_9 c_r
 rw [i_X n (by omega),l_3]
 simp only [bd_some,bd2]
 cases a_X s <;> simp only [bF_,fF_,fT_,bd_some,Bool.true_or,Bool.false_or]
 cases (s.b==[42]) <;> simp only [bF_,fF_,fT_,bd_some,Bool.true_or,Bool.false_or]
 cases (s.b==[63]) <;> simp only [bF_,fF_,fT_,bd_some,Bool.true_or,Bool.false_or]
 cases (s.b==[43]) <;> simp only [bF_,fF_,fT_,Bool.true_or,Bool.false_or]
theorem o_D {s:Str}{sep:UInt8}(hs:s.b.length<=MX):e_P s sep=some (a_r sep s.b []):=by
 have hMX:=MXv;unfold e_P
 rcases e_x (σ:=(List Str)×Int) (ρ:=List Str) (I:=fun k x=>∃st:Nat,x.2=st/\st<=k/\x.1.length<=k/\x.1++a_r sep (s.b.drop k) (X_ s.b st k)=a_r sep s.b []) (R:=fun _=>False)
  (body:=fun G=>un2 fun H J=>bd (idx s.b ((G:Nat):Int)) fun L=>bd (α:=(List Str)×Int) (if ((byteI L)==(byteI sep))=true then bd (a_Z s J ((G:Nat):Int)) fun O=>bd (psh H O) fun V=>some (V,((G+1:Nat):Int)) else some (H,J))<|un2 fun W Y=>some<|.next (W,Y)) (n:=s.b.length)
  (fun k x hk ⟨st,h1,h2,h3,h4⟩=>by
   obtain ⟨acc,z⟩:=x
   simp only at h1 h3 h4
   subst h1
   left
   simp only [un2,ix_ hk,bd_some,d_Y]
   rw [dC_ hk,a_r] at h4
   by_cases hc:s.b[k]=sep
   ·rw [dT_ hc]
    rw [iP_ hc] at h4
    simp only [fT_]
    rw [show a_Z s (st:Int) (k:Int)=some ⟨X_ s.b st k⟩ by unfold a_Z;rw [c_c h2 (by omega)];rfl,bd_some,c_N (by rw [b_7];omega),bd_some,bd_some]
    refine ⟨_,rfl,k+1,rfl,Nat.le_refl _,by simp;omega,?_⟩;have:X_ s.b (k+1) (k+1)=[]:=by unfold X_;simp
    rw [this,← h4];simp
   ·rw [dF_ hc]
    rw [iN_ hc] at h4
    simp only [bF_,fF_,bd_some]
    refine ⟨_,rfl,st,rfl,by omega,by omega,?_⟩
    have:X_ s.b st (k+1)=X_ s.b st k++[s.b[k]]:=by
     unfold X_
     rw [f_p hk,List.drop_append_of_le_length (by simp;omega)]
    rw [this,← h4]) s.b.length 0 ([],0) (by omega) ⟨0,rfl,Nat.le_refl _,by simp,by simp [X_]⟩ with ⟨x,h1,st,h2,h3,h4,h5⟩ | ⟨r,_,h⟩
 ·obtain ⟨acc,z⟩:=x
  simp only at h2 h4 h5
  subst h2
  rw [h1,bd_some,el_inl]
  simp only [un2]
  rw [show a_Z s (st:Int) (s.b.length:Int)=some ⟨X_ s.b st s.b.length⟩ by unfold a_Z;rw [c_c h3 (by omega)];rfl,bd_some,c_N (by rw [b_7];omega),bd_some]
  rw [List.drop_length,a_r] at h5
  rw [h5]
 ·exact h.elim
theorem l_4 (sep:UInt8):∀(l cur:List UInt8),∃t r,a_r sep l cur=⟨cur++t⟩::r
 | [],cur=>⟨[],[],by simp [a_r]⟩
 | c::l,cur=>by
  unfold a_r
  split
  ·exact ⟨[],a_r sep l [],by simp⟩
  ·obtain ⟨t,r,h⟩:=l_4 sep l<|cur++[c];exact ⟨c::t,r,by rw [h];simp⟩
theorem l_5 {α β:Type}{f:α->Option β}{g:α->β}(h:∀x,f x=some (g x)):∀l,e_H f l=some (l.map g)
 | []=>rfl
 | x::l=>by unfold e_H;rw [h,bd_some,l_5 h l];rfl
theorem o_E {n:Nat}(hn:30<=n){s:Str}(hs:s.b.length<=MX):g_8 n s=some (c_L s):=by
 have hMX:=MXv;unfold g_8 h_M c_L
 by_cases G:s.b=[]
 ·rw [G];rfl
 rw [show (s.b==(⟨[]⟩:Str).b)=false by simpa using G,iN_ G]
 obtain ⟨c,r,hcr⟩:∃c r,s.b=c::r:=by cases h:s.b with | nil=>exact absurd h G | cons c r=>exact ⟨c,r,rfl⟩
 have hl:=f_q 47 s.b []
 rw [o_D hs,a_R (by rw [hcr];simp)]
 simp only [bF_,fF_,bd_some]
 have I:s.b[0]'(by rw [hcr];simp)=c:=by simp [hcr]
 rw [I,show (byteI c != byteI (47:UInt8)) = !decide (c=47) by unfold bne;rw [d_Y]]
 by_cases hc:c=47
 ·have e:a_r 47 s.b []=⟨[]⟩::a_r 47 r []:=by rw [hcr,a_r,iP_ hc]
  rw [e] at hl ⊢
  have J:=(f_q 47 r []).1
  clear e
  generalize a_r 47 r []=l at *
  rw [dT_ hc]
  simp only [nT_,bF_,fF_]
  rw [show slc ((⟨[]⟩:Str)::l) 1 (((⟨[]⟩:Str)::l).length:Int)=some l by rw [f_B (by omega) (by simp;omega) (by omega)];simp]
  rw [bd_some,l_5<|o_C hn,bd_some,iP_ (by rw [b_7];have:=hl.2;rw [lC_] at this;omega)]
  have H:(l.map c_r).all id=l.all c_r:=by rw [List.all_map];rfl
  rw [H]
  simp only [List.head?_cons,List.tail_cons,true_and,lC_]
  rw [dT_ (show 1<l.length+1 by omega)]
  split <;> rfl
 ·have e:a_r 47 s.b []=a_r 47 r [c]:=by rw [hcr,a_r,iN_ hc];rfl
  obtain ⟨t,q,H⟩:=l_4 47 r [c]
  rw [dF_ hc,e,H]
  simp only [Bool.not_false,fT_,bd2_some]
  rw [iN_ (fun h=>by have:=h.1;simp at this)]
end Go.Vw
