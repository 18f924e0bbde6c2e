
import Derived.Test.YtdcjkhfonojjiaaGreatDoorVwP15
namespace Go.Vw
open Go.RowKit Dat
theorem g_8 {c:UInt8}(h:a_w c=true):48<=c.toNat/\c.toNat<=57:=by
 rw [d_J] at h
 simp only [aE_,dE_] at h
 omega
theorem p_J (l:List UInt8):∀a:Int,(∀c∈l,a_w c=true)->1<=a->1<=l.foldl c_4 a:=by
 induction l with
 | nil=>intro a _ h;exact h
 | cons c l ih =>
  intro a h ha;have:=g_8<|h c mS_;have hb:byteI c=(c.toNat:Int):=rfl;exact ih _ (fun c hc=>h c<|mT_ _ hc) (by unfold c_4;omega)
theorem p_K (l:List UInt8)(c:UInt8):P_ (l++[c])=10 * P_ l+(byteI c - 48):=by
 unfold P_;rw [List.foldl_append];rfl
theorem l_Z:∀(m:Nat)(l:List UInt8),l.length=m+1->(∀c∈l,a_w c=true)->(m=0∨l.head? ≠ some 48)->Lib.decDigits (P_ l).toNat=l
 | 0,l,hl,hd,_=>by
  match l,hl with
  | [c],_ =>
   have h:=g_8<|hd c mS_
   have hv:P_ [c]=(c.toNat:Int) - 48:=by
    have hb:byteI c=(c.toNat:Int):=rfl
    simp [P_,c_4,hb]
   rw [hv,Lib.decDigits,dif_pos (by omega)]
   congr 1
   have:48+((c.toNat:Int) - 48).toNat=c.toNat:=by omega
   rw [this];simp
 | m+1,l,hl,hd,hh=>by
  have hh':l.head? ≠ some 48:=hh.resolve_left (by omega)
  rcases List.eq_nil_or_concat l with rfl | ⟨l',c,rfl⟩
  ·simp at hl
  rw [List.concat_eq_append] at *
  have hl':l'.length=m+1:=by simpa using hl
  have hd':∀x∈l',a_w x=true:=fun x hx=>hd x<|List.mem_append_left _ hx
  have hc:=g_8<|hd c (by simp)
  obtain ⟨a,r,rfl⟩:∃a r,l'=a::r:=by
   cases l' with
   | nil=>simp at hl'
   | cons a r=>exact ⟨a,r,rfl⟩
  have ha:a ≠ 48:=fun h=>hh' (by simp [h])
  have hab:=g_8<|hd' a mS_;have han:a.toNat ≠ 48:=fun h=>ha<|UInt8.toNat_inj.1 (by rw [h];rfl)
  have ih:=l_Z m (a::r) hl' hd'<|.inr (by simpa using ha)
  have h1:1<=P_ (a::r):=by
   have hb:byteI a=(a.toNat:Int):=rfl;exact p_J r (c_4 0 a) (fun x hx=>hd' x<|mT_ _ hx) (by unfold c_4;omega)
  have hb:byteI c=(c.toNat:Int):=rfl
  rw [p_K,hb,Lib.decDigits,dif_neg (by omega)]
  have G:(10 * P_ (a::r)+((c.toNat:Int) - 48)).toNat / 10=(P_ (a::r)).toNat:=by omega
  have H:48+(10 * P_ (a::r)+((c.toNat:Int) - 48)).toNat % 10=c.toNat:=by omega
  rw [G,H,ih];simp
theorem p_L (x:Nat):(Lib.decDigits x).head? = some 48->x=0:=by
 induction x using Nat.strongRecOn with
 | _ x ih =>
  rw [Lib.decDigits]
  split
  ·rename_i hx
   intro h
   simp only [List.head?_cons,oI_] at h
   have:=congrArg UInt8.toNat h
   rw [UInt8.toNat_ofNat'] at this
   simp at this;omega
  ·rename_i hx
   intro h
   have hl:=(j_y (x / 10) (x / 10) (by
    have:=Nat.lt_two_pow_self (n:=x / 10+1);have h2:2 ^ (x / 10+1)<=10 ^ (x / 10+1):=Nat.pow_le_pow_left (by decide) _
    omega)).1
   have:(Lib.decDigits<|x / 10).head? = some 48:=by
    cases hd:Lib.decDigits (x / 10) with
    | nil=>rw [hd] at hl;simp at hl
    | cons a r=>rw [hd] at h;simpa using h
   have:=ih (x / 10) (by omega) this
   omega
theorem m_0 (s:Str):e_G s=some (c_u s):=by
 unfold e_G
 by_cases G:s.b=[]
 ·rw [d_8 (fun h=>by have:=h.1.1;rw [G] at this;simp at this),G];rfl
 have hpos:0<s.b.length:=by cases h:s.b with | nil=>exact absurd h G | cons=>simp
 rw [show (s.b==(⟨[]⟩:Str).b)=false by simpa using G]
 simp only [bF_,fF_]
 by_cases a1:13<s.b.length
 ·rw [dT_ (show (13:Int)<(s.b.length:Int) by omega),d_8 (fun h=>by have:=h.1.2;omega)];rfl
 rw [dF_ (show ¬(13:Int)<(s.b.length:Int) by omega),b_r hpos]
 simp only [bF_,fF_,bd_some,beqB]
 have hhd:s.b.head? = some s.b[0]:=by rw [List.head?_eq_getElem?,gG_ hpos]
 by_cases hz:s.b[0]=48/\1<s.b.length
 ·rw [dT_ hz.1,dT_ (show (1:Int)<(s.b.length:Int) by omega),d_8]
  ·rfl
  ·rintro ⟨_,hd,_,he⟩;have hv:=(g_6 _ hd).1;obtain ⟨v,hv'⟩:∃v:Nat,P_ s.b=v:=⟨(P_ s.b).toNat,by omega⟩
   rw [hv',d_7] at he
   have h1:=p_L v (by rw [he,hhd,hz.1]);subst h1;have h2:=congrArg List.length he
   rw [Lib.decDigits] at h2
   simp at h2;omega
 have e:(if decide (s.b[0]=48)=true then some (decide<|(1:Int)<(s.b.length:Int)) else some false)=some false:=by
  by_cases h:s.b[0]=48
  ·rw [dT_ h,dF_ (fun h'=>hz ⟨h,by omega⟩)];rfl
  ·rw [dF_ h];rfl
 rw [e,bd_some]
 simp only [bF_,fF_]
 have hp:∀k,k<=s.b.length->(∀c∈s.b.take k,a_w c=true)->0<=P_ (s.b.take k)/\P_ (s.b.take k)<10 ^ 13:=fun k hk hd=>by
  have:=g_6 _ hd;refine ⟨this.1,Int.lt_of_lt_of_le this.2 ?_⟩
  exact_mod_cast Nat.pow_le_pow_right (by decide) (by simp;omega)
 rcases f_8 (σ:=Int) (ρ:=Int×Bool) (I:=fun k x=>x=P_ (s.b.take k)/\∀c∈s.b.take k,a_w c=true) (R:=fun r=>r=(0,false)/\¬∀c∈s.b,a_w c=true)
  (body:=fun H=>(fun J=>bd (α:=Bool) (bd (idx s.b ((H:Nat):Int)) fun L=>if (decide<|(byteI L)<(byteI (48:UInt8)))=true then some true else bd (idx s.b ((H:Nat):Int)) fun O=>some<|decide<|(byteI (57:UInt8))<(byteI O)) (fun V=>if V=true then some (.ret (0,false)) else bd (idx s.b ((H:Nat):Int)) fun W=>some<|.next<|s_ (b_5 10 J)<|byteI<|mkB<|byteI W - byteI (48:UInt8)))) (n:=s.b.length)
  (fun k x hk ⟨hx,hd⟩=>by
   subst hx
   simp only [ix_ hk,bd_some]
   have hb:byteI s.b[k]=(s.b[k].toNat:Int):=rfl;have Y:byteI (48:UInt8)=48:=rfl;have a0:byteI (57:UInt8)=57:=rfl
   have ed:(if decide (byteI s.b[k]<byteI (48:UInt8))=true then some true else some (decide<|byteI (57:UInt8)<byteI s.b[k]))=some (!a_w s.b[k]):=by
    rw [d_J,hb,Y,a0]
    by_cases h1:(s.b[k].toNat:Int)<48
    ·rw [dT_ h1,dF_ (show ¬(48:Int)<=s.b[k].toNat by omega)];rfl
    ·rw [dF_ h1,dT_ (show (48:Int)<=s.b[k].toNat by omega)]
     simp only [bF_,fF_,Bool.true_and]
     congr 1
     by_cases h2:(57:Int)<s.b[k].toNat
     ·rw [dT_ h2,dF_ (by omega)];rfl
     ·rw [dF_ h2,dT_ (by omega)];rfl
   rw [ed,bd_some]
   by_cases hc:a_w s.b[k]=true
   ·left
    rw [hc]
    simp only [nT_,bF_,fF_]
    have h1:=hp k (by omega) hd;have h2:=g_8 hc
    rw [l_T hc,f_o (by omega) (by omega),ia_ (by omega) (by omega)]
    refine ⟨_,rfl,?_,?_⟩
    ·unfold P_;rw [d_K _ _ hk];rfl
    ·intro c hcm
     rw [e_k hk] at hcm
     simp only [List.mem_append,List.mem_singleton] at hcm
     rcases hcm with hcm | rfl
     ·exact hd c hcm
     ·exact hc
   ·right
    rw [show a_w s.b[k]=false by simpa using hc]
    exact ⟨_,rfl,rfl,fun h=>hc (h _ (gE_ hk))⟩) s.b.length 0 0 (by omega) ⟨rfl,by simp⟩ with ⟨x,h1,h2,h3⟩ | ⟨r,h1,rfl,h3⟩
 ·rw [h1,bd_some,el_inl]
  rw [List.take_length] at h2 h3
  subst h2;have hv:=(g_6 _ h3).1;obtain ⟨v,hv'⟩:∃v:Nat,P_ s.b=v:=⟨(P_ s.b).toNat,by omega⟩
  have hit:Lib.itoa (P_ s.b)=s.b:=by
   have:=l_Z (s.b.length - 1) s.b (by omega) h3 (by
    by_cases h:s.b.length=1
    ·left;omega
    ·right;rw [hhd];intro h';exact hz ⟨by simpa using h',by omega⟩)
   rw [hv'] at this ⊢
   rw [d_7];simpa using this
  by_cases hm:P_ s.b<=1000000000000
  ·rw [dF_ (show ¬1000000000000<P_ s.b by omega),j_z ⟨⟨hpos,by omega⟩,h3,hm,hit⟩];rfl
  ·rw [dT_ (show 1000000000000<P_ s.b by omega),d_8<|fun h=>hm h.2.2.1];rfl
 ·rw [h1,bd_some,el_inr,d_8<|fun h=>h3 h.2.1]
theorem p_M {n:Nat}(hn:30<=n)(s:Str):e_H n s=some (b_L s):=by
 unfold e_H b_L
 rw [j_s n (by omega),m_0]
 simp only [bd_some,bd2]
 cases a_K s <;> simp only [bF_,fF_,fT_,bd_some,Bool.true_or,Bool.false_or]
 cases (s.b==[42]) <;> simp only [bF_,fF_,fT_,bd_some,Bool.true_or,Bool.false_or]
 cases (s.b==[63]) <;> simp only [bF_,fF_,fT_,bd_some,Bool.true_or,Bool.false_or]
 cases (s.b==[43]) <;> simp only [bF_,fF_,fT_,Bool.true_or,Bool.false_or]
theorem p_N {s:Str}{sep:UInt8}(hs:s.b.length<=MX):f_x s sep=some (a_h sep s.b []):=by
 have hMX:=MXv;unfold f_x
 rcases f_8 (σ:=(List Str)×Int) (ρ:=List Str) (I:=fun k x=>∃st:Nat,x.2=st/\st<=k/\x.1.length<=k/\x.1++a_h sep (s.b.drop k) (a_2 s.b st k)=a_h sep s.b []) (R:=fun _=>False)
  (body:=fun G=>un2 fun H J=>bd (idx s.b ((G:Nat):Int)) fun L=>bd (α:=(List Str)×Int) (if ((byteI L)==(byteI sep))=true then bd (b_3 s J ((G:Nat):Int)) fun O=>bd (psh H O) fun V=>some (V,((G+1:Nat):Int)) else some (H,J))<|un2 fun W Y=>some<|.next (W,Y)) (n:=s.b.length)
  (fun k x hk ⟨st,h1,h2,h3,h4⟩=>by
   obtain ⟨acc,z⟩:=x
   simp only at h1 h3 h4
   subst h1
   left
   simp only [un2,ix_ hk,bd_some,beqB]
   rw [dC_ hk,a_h] at h4
   by_cases hc:s.b[k]=sep
   ·rw [dT_ hc]
    rw [iP_ hc] at h4
    simp only [fT_]
    rw [show b_3 s (st:Int) (k:Int)=some ⟨a_2 s.b st k⟩ by unfold b_3;rw [d_b h2 (by omega)];rfl,bd_some,b_s (by rw [a_D];omega),bd_some,bd_some]
    refine ⟨_,rfl,k+1,rfl,Nat.le_refl _,by simp;omega,?_⟩;have:a_2 s.b (k+1) (k+1)=[]:=by unfold a_2;simp
    rw [this,← h4];simp
   ·rw [dF_ hc]
    rw [iN_ hc] at h4
    simp only [bF_,fF_,bd_some]
    refine ⟨_,rfl,st,rfl,by omega,by omega,?_⟩
    have:a_2 s.b st (k+1)=a_2 s.b st k++[s.b[k]]:=by
     unfold a_2
     rw [e_k hk,List.drop_append_of_le_length (by simp;omega)]
    rw [this,← h4]) s.b.length 0 ([],0) (by omega) ⟨0,rfl,Nat.le_refl _,by simp,by simp [a_2]⟩ with ⟨x,h1,st,h2,h3,h4,h5⟩ | ⟨r,_,h⟩
 ·obtain ⟨acc,z⟩:=x
  simp only at h2 h4 h5
  subst h2
  rw [h1,bd_some,el_inl]
  simp only [un2]
  rw [show b_3 s (st:Int) (s.b.length:Int)=some ⟨a_2 s.b st s.b.length⟩ by unfold b_3;rw [d_b h3 (by omega)];rfl,bd_some,b_s (by rw [a_D];omega),bd_some]
  rw [List.drop_length,a_h] at h5
  rw [h5]
 ·exact h.elim
theorem m_1 (sep:UInt8):∀(l cur:List UInt8),∃t r,a_h sep l cur=⟨cur++t⟩::r
 | [],cur=>⟨[],[],by simp [a_h]⟩
 | c::l,cur=>by
  unfold a_h
  split
  ·exact ⟨[],a_h sep l [],by simp⟩
  ·obtain ⟨t,r,h⟩:=m_1 sep l<|cur++[c];exact ⟨c::t,r,by rw [h];simp⟩
theorem m_2 {α β:Type}{f:α->Option β}{g:α->β}(h:∀x,f x=some (g x)):∀l,f_r f l=some (l.map g)
 | []=>rfl
 | x::l=>by unfold f_r;rw [h,bd_some,m_2 h l];rfl
theorem p_O {n:Nat}(hn:30<=n){s:Str}(hs:s.b.length<=MX):g_N n s=some (f_a s):=by
 have hMX:=MXv;unfold g_N i_C f_a
 by_cases G:s.b=[]
 ·rw [G];rfl
 rw [show (s.b==(⟨[]⟩:Str).b)=false by simpa using G,iN_ G]
 obtain ⟨c,r,hcr⟩:∃c r,s.b=c::r:=by cases h:s.b with | nil=>exact absurd h G | cons c r=>exact ⟨c,r,rfl⟩
 have hl:=g_7 47 s.b []
 rw [p_N hs,b_r (by rw [hcr];simp)]
 simp only [bF_,fF_,bd_some]
 have I:s.b[0]'(by rw [hcr];simp)=c:=by simp [hcr]
 rw [I,show (byteI c != byteI (47:UInt8)) = !decide (c=47) by unfold bne;rw [beqB]]
 by_cases hc:c=47
 ·have e:a_h 47 s.b []=⟨[]⟩::a_h 47 r []:=by rw [hcr,a_h,iP_ hc]
  rw [e] at hl ⊢
  have J:=(g_7 47 r []).1
  clear e
  generalize a_h 47 r []=l at *
  rw [dT_ hc]
  simp only [nT_,bF_,fF_]
  rw [show slc ((⟨[]⟩:Str)::l) 1 (((⟨[]⟩:Str)::l).length:Int)=some l by rw [g_j (by omega) (by simp;omega) (by omega)];simp]
  rw [bd_some,m_2<|p_M hn,bd_some,iP_ (by rw [a_D];have:=hl.2;rw [lC_] at this;omega)]
  have H:(l.map b_L).all id=l.all b_L:=by rw [List.all_map];rfl
  rw [H]
  simp only [List.head?_cons,List.tail_cons,true_and,lC_]
  rw [dT_ (show 1<l.length+1 by omega)]
  split <;> rfl
 ·have e:a_h 47 s.b []=a_h 47 r [c]:=by rw [hcr,a_h,iN_ hc];rfl
  obtain ⟨t,q,H⟩:=m_1 47 r [c]
  rw [dF_ hc,e,H]
  simp only [Bool.not_false,fT_,bd2_some]
  rw [iN_ (fun h=>by have:=h.1;simp at this)]
end Go.Vw
