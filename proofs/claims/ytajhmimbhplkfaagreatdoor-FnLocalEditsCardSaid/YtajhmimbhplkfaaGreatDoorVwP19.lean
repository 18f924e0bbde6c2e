
import Derived.Test.YtajhmimbhplkfaaGreatDoorVwP15
set_option linter.unusedVariables false
namespace Go.Vw
open Go.RowKit Dat
theorem g_f {c:UInt8} (h:a_M c=true):48≤c.toNat∧c.toNat≤57:=by
 rw [d_R] at h
 simp only [aE_,dE_] at h
 omega
theorem p_7 (l:List UInt8) : ∀ a:Int,(∀ c∈l,a_M c=true)→1≤a→1≤l.foldl c_b a:=by
 induction l with
 | nil=>intro a _ h;exact h
 | cons c l ih =>
  intro a h ha;have:=g_f<|h c mS_;have hb:byteI c=(c.toNat:Int):=rfl;exact ih _ (fun c hc=>h c<|mT_ _ hc) (by unfold c_b;omega)
theorem p_8 (l:List UInt8) (c:UInt8):a_0 (l++[c])=10 * a_0 l+(byteI c - 48):=by
 unfold a_0;rw [List.foldl_append];rfl
theorem l_x : ∀ (m:Nat) (l:List UInt8),l.length=m+1→(∀ c∈l,a_M c=true)→(m=0∨l.head? ≠ some 48)→Lib.decDigits (a_0 l).toNat=l
 | 0,l,hl,hd,_=>by
  match l,hl with
  | [c],_ =>
   have h:=g_f<|hd c mS_
   have hv:a_0 [c]=(c.toNat:Int) - 48:=by
    have hb:byteI c=(c.toNat:Int):=rfl
    simp [a_0,c_b,hb]
   rw [hv,Lib.decDigits,dif_pos (by omega)]
   congr 1
   have:48+((c.toNat:Int) - 48).toNat=c.toNat:=by omega
   rw [this];simp
 | m+1,l,hl,hd,hh=>by
  have hh':l.head? ≠ some 48:=hh.resolve_left (by omega)
  rcases List.eq_nil_or_concat l with rfl | ⟨l',c,rfl⟩
  ·simp at hl
  rw [List.concat_eq_append] at *
  have hl':l'.length=m+1:=by simpa using hl
  have hd' : ∀ x∈l',a_M x=true:=fun x hx=>hd x<|List.mem_append_left _ hx
  have hc:=g_f<|hd c (by simp)
  obtain ⟨a,r,rfl⟩ : ∃ a r,l'=a::r:=by
   cases l' with
   | nil=>simp at hl'
   | cons a r=>exact ⟨a,r,rfl⟩
  have ha:a ≠ 48:=fun h=>hh' (by simp [h])
  have hab:=g_f<|hd' a mS_;have han:a.toNat ≠ 48:=fun h=>ha<|UInt8.toNat_inj.1 (by rw [h];rfl)
  have ih:=l_x m (a::r) hl' hd'<|.inr (by simpa using ha)
  have h1:1≤a_0 (a::r):=by
   have hb:byteI a=(a.toNat:Int):=rfl;exact p_7 r (c_b 0 a) (fun x hx=>hd' x<|mT_ _ hx) (by unfold c_b;omega)
  have hb:byteI c=(c.toNat:Int):=rfl
  rw [p_8,hb,Lib.decDigits,dif_neg (by omega)]
  have e1:(10 * a_0 (a::r)+((c.toNat:Int) - 48)).toNat / 10=(a_0 (a::r)).toNat:=by omega
  have e2:48+(10 * a_0 (a::r)+((c.toNat:Int) - 48)).toNat % 10=c.toNat:=by omega
  rw [e1,e2,ih];simp
theorem p_9 (x:Nat):(Lib.decDigits x).head? = some 48→x=0:=by
 induction x using Nat.strongRecOn with
 | _ x ih =>
  rw [Lib.decDigits]
  split
  ·rename_i hx
   intro h
   simp only [List.head?_cons,oI_] at h
   have:=congrArg UInt8.toNat h
   rw [UInt8.toNat_ofNat'] at this
   simp at this;omega
  ·rename_i hx
   intro h
   have hl:=(l_s (x / 10) (x / 10) (by
    have:=Nat.lt_two_pow_self (n:=x / 10+1);have h2:2 ^ (x / 10+1)≤10 ^ (x / 10+1):=Nat.pow_le_pow_left (by decide) _
    omega)).1
   have:(Lib.decDigits<|x / 10).head? = some 48:=by
    cases hd:Lib.decDigits (x / 10) with
    | nil=>rw [hd] at hl;simp at hl
    | cons a r=>rw [hd] at h;simpa using h
   have:=ih (x / 10) (by omega) this
   omega
theorem l_y (s:Str):f_n s=some (c_c s):=by
 unfold f_n
 by_cases h0:s.b=[]
 ·rw [d_q (fun h=>by have:=h.1.1;rw [h0] at this;simp at this),h0];rfl
 have hpos:0<s.b.length:=by cases h:s.b with | nil=>exact absurd h h0 | cons=>simp
 rw [show (s.b==(⟨[]⟩:Str).b)=false by simpa using h0]
 simp only [bF_,fF_]
 by_cases h13:13<s.b.length
 ·rw [dT_ (show (13:Int)<(s.b.length:Int) by omega),d_q (fun h=>by have:=h.1.2;omega)];rfl
 rw [dF_ (show ¬ (13:Int)<(s.b.length:Int) by omega),b_6 hpos]
 simp only [bF_,fF_,bd_some,e_s]
 have hhd:s.b.head? = some s.b[0]:=by rw [List.head?_eq_getElem?,gG_ hpos]
 by_cases hz:s.b[0]=48∧1<s.b.length
 ·rw [dT_ hz.1,dT_ (show (1:Int)<(s.b.length:Int) by omega),d_q]
  ·rfl
  ·rintro ⟨_,hd,_,he⟩;have hv:=(f_5 _ hd).1;obtain ⟨v,hv'⟩ : ∃ v:Nat,a_0 s.b=v:=⟨(a_0 s.b).toNat,by omega⟩
   rw [hv',e_q] at he
   have h1:=p_9 v (by rw [he,hhd,hz.1]);subst h1;have h2:=congrArg List.length he
   rw [Lib.decDigits] at h2
   simp at h2;omega
 have e:(if decide (s.b[0]=48)=true then some (decide<|(1:Int)<(s.b.length:Int)) else some false)=some false:=by
  by_cases h:s.b[0]=48
  ·rw [dT_ h,dF_ (fun h'=>hz ⟨h,by omega⟩)];rfl
  ·rw [dF_ h];rfl
 rw [e,bd_some]
 simp only [bF_,fF_]
 have hp : ∀ k,k≤s.b.length→(∀ c∈s.b.take k,a_M c=true)→0≤a_0 (s.b.take k)∧a_0 (s.b.take k)<10 ^ 13:=fun k hk hd=>by
  have:=f_5 _ hd;refine ⟨this.1,Int.lt_of_lt_of_le this.2 ?_⟩
  exact_mod_cast Nat.pow_le_pow_right (by decide) (by simp;omega)
 rcases d_p (σ:=Int) (ρ:=Int×Bool) (I:=fun k x=>x=a_0 (s.b.take k) ∧ ∀ c∈s.b.take k,a_M c=true) (R:=fun r=>r=(0,false) ∧ ¬ ∀ c∈s.b,a_M c=true)
  (body:=fun k113=>(fun x108=>bd (α:=Bool) (bd (idx s.b ((k113:Nat):Int)) fun x154=>if (decide<|(byteI x154)<(byteI (48:UInt8)))=true then some true else bd (idx s.b ((k113:Nat):Int)) fun x160=>some<|decide<|(byteI (57:UInt8))<(byteI x160)) (fun x150=>if x150=true then some (.ret (0,false)) else bd (idx s.b ((k113:Nat):Int)) fun x178=>some<|.next<|g_ (a_9 10 x108)<|byteI<|mkB<|byteI x178 - byteI (48:UInt8)))) (n:=s.b.length)
  (fun k x hk ⟨hx,hd⟩=>by
   subst hx
   simp only [ix_ hk,bd_some]
   have hb:byteI s.b[k]=(s.b[k].toNat:Int):=rfl;have h48:byteI (48:UInt8)=48:=rfl;have h57:byteI (57:UInt8)=57:=rfl
   have ed:(if decide (byteI s.b[k]<byteI (48:UInt8))=true then some true else some (decide<|byteI (57:UInt8)<byteI s.b[k]))=some (!a_M s.b[k]):=by
    rw [d_R,hb,h48,h57]
    by_cases h1:(s.b[k].toNat:Int)<48
    ·rw [dT_ h1,dF_ (show ¬ (48:Int)≤s.b[k].toNat by omega)];rfl
    ·rw [dF_ h1,dT_ (show (48:Int)≤s.b[k].toNat by omega)]
     simp only [bF_,fF_,Bool.true_and]
     congr 1
     by_cases h2:(57:Int)<s.b[k].toNat
     ·rw [dT_ h2,dF_ (by omega)];rfl
     ·rw [dF_ h2,dT_ (by omega)];rfl
   rw [ed,bd_some]
   by_cases hc:a_M s.b[k]=true
   ·left
    rw [hc]
    simp only [nT_,bF_,fF_]
    have h1:=hp k (by omega) hd;have h2:=g_f hc
    rw [l_u hc,d_u (by omega) (by omega),ia_ (by omega) (by omega)]
    refine ⟨_,rfl,?_,?_⟩
    ·unfold a_0;rw [d_T _ _ hk];rfl
    ·intro c hcm
     rw [i_h hk] at hcm
     simp only [List.mem_append,List.mem_singleton] at hcm
     rcases hcm with hcm | rfl
     ·exact hd c hcm
     ·exact hc
   ·right
    rw [show a_M s.b[k]=false by simpa using hc]
    exact ⟨_,rfl,rfl,fun h=>hc (h _ (gE_ hk))⟩) s.b.length 0 0 (by omega) ⟨rfl,by simp⟩ with ⟨x,h1,h2,h3⟩ | ⟨r,h1,rfl,h3⟩
 ·rw [h1,bd_some,el_inl]
  rw [List.take_length] at h2 h3
  subst h2;have hv:=(f_5 _ h3).1;obtain ⟨v,hv'⟩ : ∃ v:Nat,a_0 s.b=v:=⟨(a_0 s.b).toNat,by omega⟩
  have hit:Lib.itoa (a_0 s.b)=s.b:=by
   have:=l_x (s.b.length - 1) s.b (by omega) h3 (by
    by_cases h:s.b.length=1
    ·left;omega
    ·right;rw [hhd];intro h';exact hz ⟨by simpa using h',by omega⟩)
   rw [hv'] at this ⊢
   rw [e_q];simpa using this
  by_cases hm:a_0 s.b≤1000000000000
  ·rw [dF_ (show ¬ 1000000000000<a_0 s.b by omega),j_S ⟨⟨hpos,by omega⟩,h3,hm,hit⟩];rfl
  ·rw [dT_ (show 1000000000000<a_0 s.b by omega),d_q<|fun h=>hm h.2.2.1];rfl
 ·rw [h1,bd_some,el_inr,d_q<|fun h=>h3 h.2.1]
theorem p_a {n:Nat} (hn:30≤n) (s:Str):e_D n s=some (c_I s):=by
 unfold e_D c_I
 rw [j_O n (by omega),l_y]
 simp only [bd_some,bd2]
 cases b_f s <;> simp only [bF_,fF_,fT_,bd_some,Bool.true_or,Bool.false_or]
 cases (s.b==[42]) <;> simp only [bF_,fF_,fT_,bd_some,Bool.true_or,Bool.false_or]
 cases (s.b==[63]) <;> simp only [bF_,fF_,fT_,bd_some,Bool.true_or,Bool.false_or]
 cases (s.b==[43]) <;> simp only [bF_,fF_,fT_,Bool.true_or,Bool.false_or]
theorem p_b {s:Str} {sep:UInt8} (hs:s.b.length≤MX):f_m s sep=some (a_D sep s.b []):=by
 have hMX:=MXv;unfold f_m
 rcases d_p (σ:=(List Str)×Int) (ρ:=List Str) (I:=fun k x=>∃ st:Nat,x.2=st∧st≤k∧x.1.length≤k∧x.1++a_D sep (s.b.drop k) (piece s.b st k)=a_D sep s.b []) (R:=fun _=>False)
  (body:=fun k125=>un2 fun x112 x120=>bd (idx s.b ((k125:Nat):Int)) fun x171=>bd (α:=(List Str)×Int) (if ((byteI x171)==(byteI sep))=true then bd (b_B s x120 ((k125:Nat):Int)) fun x213=>bd (psh x112 x213) fun x231=>some (x231,((k125+1:Nat):Int)) else some (x112,x120))<|un2 fun x198 x206=>some<|.next (x198,x206)) (n:=s.b.length)
  (fun k x hk ⟨st,h1,h2,h3,h4⟩=>by
   obtain ⟨acc,z⟩:=x
   simp only at h1 h3 h4
   subst h1
   left
   simp only [un2,ix_ hk,bd_some,e_s]
   rw [dC_ hk,a_D] at h4
   by_cases hc:s.b[k]=sep
   ·rw [dT_ hc]
    rw [iP_ hc] at h4
    simp only [fT_]
    rw [show b_B s (st:Int) (k:Int)=some ⟨piece s.b st k⟩ by unfold b_B;rw [c_e h2 (by omega)];rfl,bd_some,a_Y (by rw [a_x];omega),bd_some,bd_some]
    refine ⟨_,rfl,k+1,rfl,Nat.le_refl _,by simp;omega,?_⟩;have:piece s.b (k+1) (k+1)=[]:=by unfold piece;simp
    rw [this,← h4];simp
   ·rw [dF_ hc]
    rw [iN_ hc] at h4
    simp only [bF_,fF_,bd_some]
    refine ⟨_,rfl,st,rfl,by omega,by omega,?_⟩
    have:piece s.b st (k+1)=piece s.b st k++[s.b[k]]:=by
     unfold piece
     rw [i_h hk,List.drop_append_of_le_length (by simp;omega)]
    rw [this,← h4]) s.b.length 0 ([],0) (by omega) ⟨0,rfl,Nat.le_refl _,by simp,by simp [piece]⟩ with ⟨x,h1,st,h2,h3,h4,h5⟩ | ⟨r,_,h⟩
 ·obtain ⟨acc,z⟩:=x
  simp only at h2 h4 h5
  subst h2
  rw [h1,bd_some,el_inl]
  simp only [un2]
  rw [show b_B s (st:Int) (s.b.length:Int)=some ⟨piece s.b st s.b.length⟩ by unfold b_B;rw [c_e h3 (by omega)];rfl,bd_some,a_Y (by rw [a_x];omega),bd_some]
  rw [List.drop_length,a_D] at h5
  rw [h5]
 ·exact h.elim
theorem l_z (sep:UInt8) : ∀ (l cur:List UInt8),∃ t r,a_D sep l cur=⟨cur++t⟩::r
 | [],cur=>⟨[],[],by simp [a_D]⟩
 | c::l,cur=>by
  unfold a_D
  split
  ·exact ⟨[],a_D sep l [],by simp⟩
  ·obtain ⟨t,r,h⟩:=l_z sep l<|cur++[c];exact ⟨c::t,r,by rw [h];simp⟩
theorem l_A {α β:Type} {f:α→Option β} {g:α→β} (h : ∀ x,f x=some (g x)) : ∀ l,f_g f l=some (l.map g)
 | []=>rfl
 | x::l=>by unfold f_g;rw [h,bd_some,l_A h l];rfl
theorem p_c {n:Nat} (hn:30≤n) {s:Str} (hs:s.b.length≤MX):g_K n s=some (c_J s):=by
 have hMX:=MXv;unfold g_K i_I c_J
 by_cases h0:s.b=[]
 ·rw [h0];rfl
 rw [show (s.b==(⟨[]⟩:Str).b)=false by simpa using h0,iN_ h0]
 obtain ⟨c,r,hcr⟩ : ∃ c r,s.b=c::r:=by cases h:s.b with | nil=>exact absurd h h0 | cons c r=>exact ⟨c,r,rfl⟩
 have hl:=g_e 47 s.b []
 rw [p_b hs,b_6 (by rw [hcr];simp)]
 simp only [bF_,fF_,bd_some]
 have hc0:s.b[0]'(by rw [hcr];simp)=c:=by simp [hcr]
 rw [hc0,show (byteI c != byteI (47:UInt8)) = !decide (c=47) by unfold bne;rw [e_s]]
 by_cases hc:c=47
 ·have e:a_D 47 s.b []=⟨[]⟩::a_D 47 r []:=by rw [hcr,a_D,iP_ hc]
  rw [e] at hl ⊢
  have hl2:=(g_e 47 r []).1
  clear e
  generalize a_D 47 r []=l at *
  rw [dT_ hc]
  simp only [nT_,bF_,fF_]
  rw [show slc ((⟨[]⟩:Str)::l) 1 (((⟨[]⟩:Str)::l).length:Int)=some l by rw [g_p (by omega) (by simp;omega) (by omega)];simp]
  rw [bd_some,l_A<|p_a hn,bd_some,iP_ (by rw [a_x];have:=hl.2;rw [lC_] at this;omega)]
  have e2:(l.map c_I).all id=l.all c_I:=by rw [List.all_map];rfl
  rw [e2]
  simp only [List.head?_cons,List.tail_cons,true_and,lC_]
  rw [dT_ (show 1<l.length+1 by omega)]
  split <;> rfl
 ·have e:a_D 47 s.b []=a_D 47 r [c]:=by rw [hcr,a_D,iN_ hc];rfl
  obtain ⟨t,q,e2⟩:=l_z 47 r [c]
  rw [dF_ hc,e,e2]
  simp only [Bool.not_false,fT_,bd2_some]
  rw [iN_ (fun h=>by have:=h.1;simp at this)]
end Go.Vw
