
import Derived.Test.YtnncfaaebnkcbaaGreatDoorVwP15
namespace Go.Vw
open Go.RowKit Dat
theorem g_D {c:UInt8}(h:a_J c=true):48<=c.toNat/\c.toNat<=57:=by
 rw [e_1] at h
 simp only [aE_,dE_] at h
 omega
theorem p_W (l:List UInt8):∀a:Int,(∀c∈l,a_J c=true)->1<=a->1<=l.foldl c_e a:=by
 induction l with
 | nil=>intro a _ h;exact h
 | cons c l ih =>
  intro a h ha;have:=g_D<|h c mS_;have hb:byteI c=(c.toNat:Int):=rfl;exact ih _ (fun c hc=>h c<|mT_ _ hc) (by unfold c_e;omega)
theorem p_X (l:List UInt8)(c:UInt8):S_ (l++[c])=10 * S_ l+(byteI c - 48):=by
 unfold S_;rw [List.foldl_append];rfl
theorem m_j:∀(m:Nat)(l:List UInt8),l.length=m+1->(∀c∈l,a_J c=true)->(m=0∨l.head? ≠ some 48)->Lib.decDigits (S_ l).toNat=l
 | 0,l,hl,hd,_=>by
  match l,hl with
  | [c],_ =>
   have h:=g_D<|hd c mS_
   have hv:S_ [c]=(c.toNat:Int) - 48:=by
    have hb:byteI c=(c.toNat:Int):=rfl
    simp [S_,c_e,hb]
   rw [hv,Lib.decDigits,dif_pos (by omega)]
   congr 1
   have:48+((c.toNat:Int) - 48).toNat=c.toNat:=by omega
   rw [this];simp
 | m+1,l,hl,hd,hh=>by
  have hh':l.head? ≠ some 48:=hh.resolve_left (by omega)
  rcases List.eq_nil_or_concat l with rfl | ⟨l',c,rfl⟩
  ·simp at hl
  rw [List.concat_eq_append] at *
  have hl':l'.length=m+1:=by simpa using hl
  have hd':∀x∈l',a_J x=true:=fun x hx=>hd x<|List.mem_append_left _ hx
  have hc:=g_D<|hd c (by simp)
  obtain ⟨a,r,rfl⟩:∃a r,l'=a::r:=by
   cases l' with
   | nil=>simp at hl'
   | cons a r=>exact ⟨a,r,rfl⟩
  have ha:a ≠ 48:=fun h=>hh' (by simp [h])
  have hab:=g_D<|hd' a mS_;have han:a.toNat ≠ 48:=fun h=>ha<|UInt8.toNat_inj.1 (by rw [h];rfl)
  have ih:=m_j m (a::r) hl' hd'<|.inr (by simpa using ha)
  have h1:1<=S_ (a::r):=by
   have hb:byteI a=(a.toNat:Int):=rfl;exact p_W r (c_e 0 a) (fun x hx=>hd' x<|mT_ _ hx) (by unfold c_e;omega)
  have hb:byteI c=(c.toNat:Int):=rfl
  rw [p_X,hb,Lib.decDigits,dif_neg (by omega)]
  have G:(10 * S_ (a::r)+((c.toNat:Int) - 48)).toNat / 10=(S_ (a::r)).toNat:=by omega
  have H:48+(10 * S_ (a::r)+((c.toNat:Int) - 48)).toNat % 10=c.toNat:=by omega
  rw [G,H,ih];simp
theorem p_Y (x:Nat):(Lib.decDigits x).head? = some 48->x=0:=by
 induction x using Nat.strongRecOn with
 | _ x ih =>
  rw [Lib.decDigits]
  split
  ·rename_i hx
   intro h
   simp only [List.head?_cons,oI_] at h
   have:=congrArg UInt8.toNat h
   rw [UInt8.toNat_ofNat'] at this
   simp at this;omega
  ·rename_i hx
   intro h
   have hl:=(m_g (x / 10) (x / 10) (by
    have:=Nat.lt_two_pow_self (n:=x / 10+1);have h2:2 ^ (x / 10+1)<=10 ^ (x / 10+1):=Nat.pow_le_pow_left (by decide) _
    omega)).1
   have:(Lib.decDigits<|x / 10).head? = some 48:=by
    cases hd:Lib.decDigits (x / 10) with
    | nil=>rw [hd] at hl;simp at hl
    | cons a r=>rw [hd] at h;simpa using h
   have:=ih (x / 10) (by omega) this
   omega
theorem j_R (s:Str):e_j s=some (c_J s):=by
 unfold e_j
 by_cases G:s.b=[]
 ·rw [d_t (fun h=>by have:=h.1.1;rw [G] at this;simp at this),G];rfl
 have hpos:0<s.b.length:=by cases h:s.b with | nil=>exact absurd h G | cons=>simp
 rw [show (s.b==(⟨[]⟩:Str).b)=false by simpa using G]
 simp only [bF_,fF_]
 by_cases a1:13<s.b.length
 ·rw [dT_ (show (13:Int)<(s.b.length:Int) by omega),d_t (fun h=>by have:=h.1.2;omega)];rfl
 rw [dF_ (show ¬(13:Int)<(s.b.length:Int) by omega),b_8 hpos]
 simp only [bF_,fF_,bd_some,beqB]
 have hhd:s.b.head? = some s.b[0]:=by rw [List.head?_eq_getElem?,gG_ hpos]
 by_cases hz:s.b[0]=48/\1<s.b.length
 ·rw [dT_ hz.1,dT_ (show (1:Int)<(s.b.length:Int) by omega),d_t]
  ·rfl
  ·rintro ⟨_,hd,_,he⟩;have hv:=(g_C _ hd).1;obtain ⟨v,hv'⟩:∃v:Nat,S_ s.b=v:=⟨(S_ s.b).toNat,by omega⟩
   rw [hv',g_B] at he
   have h1:=p_Y v (by rw [he,hhd,hz.1]);subst h1;have h2:=congrArg List.length he
   rw [Lib.decDigits] at h2
   simp at h2;omega
 have e:(if decide (s.b[0]=48)=true then some (decide<|(1:Int)<(s.b.length:Int)) else some false)=some false:=by
  by_cases h:s.b[0]=48
  ·rw [dT_ h,dF_ (fun h'=>hz ⟨h,by omega⟩)];rfl
  ·rw [dF_ h];rfl
 rw [e,bd_some]
 simp only [bF_,fF_]
 have hp:∀k,k<=s.b.length->(∀c∈s.b.take k,a_J c=true)->0<=S_ (s.b.take k)/\S_ (s.b.take k)<10 ^ 13:=fun k hk hd=>by
  have:=g_C _ hd;refine ⟨this.1,Int.lt_of_lt_of_le this.2 ?_⟩
  exact_mod_cast Nat.pow_le_pow_right (by decide) (by simp;omega)
 rcases c_I (σ:=Int) (ρ:=Int×Bool) (I:=fun k x=>x=S_ (s.b.take k)/\∀c∈s.b.take k,a_J c=true) (R:=fun r=>r=(0,false)/\¬∀c∈s.b,a_J c=true)
  (body:=fun H=>(fun J=>bd (α:=Bool) (bd (idx s.b ((H:Nat):Int)) fun L=>if (decide<|(byteI L)<(byteI (48:UInt8)))=true then some true else bd (idx s.b ((H:Nat):Int)) fun O=>some<|decide<|(byteI (57:UInt8))<(byteI O)) (fun V=>if V=true then some (.ret (0,false)) else bd (idx s.b ((H:Nat):Int)) fun W=>some<|.next<|i_ (a_m 10 J)<|byteI<|mkB<|byteI W - byteI (48:UInt8)))) (n:=s.b.length)
  (fun k x hk ⟨hx,hd⟩=>by
   subst hx
   simp only [ix_ hk,bd_some]
   have hb:byteI s.b[k]=(s.b[k].toNat:Int):=rfl;have Y:byteI (48:UInt8)=48:=rfl;have a0:byteI (57:UInt8)=57:=rfl
   have ed:(if decide (byteI s.b[k]<byteI (48:UInt8))=true then some true else some (decide<|byteI (57:UInt8)<byteI s.b[k]))=some (!a_J s.b[k]):=by
    rw [e_1,hb,Y,a0]
    by_cases h1:(s.b[k].toNat:Int)<48
    ·rw [dT_ h1,dF_ (show ¬(48:Int)<=s.b[k].toNat by omega)];rfl
    ·rw [dF_ h1,dT_ (show (48:Int)<=s.b[k].toNat by omega)]
     simp only [bF_,fF_,Bool.true_and]
     congr 1
     by_cases h2:(57:Int)<s.b[k].toNat
     ·rw [dT_ h2,dF_ (by omega)];rfl
     ·rw [dF_ h2,dT_ (by omega)];rfl
   rw [ed,bd_some]
   by_cases hc:a_J s.b[k]=true
   ·left
    rw [hc]
    simp only [nT_,bF_,fF_]
    have h1:=hp k (by omega) hd;have h2:=g_D hc
    rw [m_i hc,g_K (by omega) (by omega),ia_ (by omega) (by omega)]
    refine ⟨_,rfl,?_,?_⟩
    ·unfold S_;rw [e_4 _ _ hk];rfl
    ·intro c hcm
     rw [c_o hk] at hcm
     simp only [List.mem_append,List.mem_singleton] at hcm
     rcases hcm with hcm | rfl
     ·exact hd c hcm
     ·exact hc
   ·right
    rw [show a_J s.b[k]=false by simpa using hc]
    exact ⟨_,rfl,rfl,fun h=>hc (h _ (gE_ hk))⟩) s.b.length 0 0 (by omega) ⟨rfl,by simp⟩ with ⟨x,h1,h2,h3⟩ | ⟨r,h1,rfl,h3⟩
 ·rw [h1,bd_some,el_inl]
  rw [List.take_length] at h2 h3
  subst h2;have hv:=(g_C _ h3).1;obtain ⟨v,hv'⟩:∃v:Nat,S_ s.b=v:=⟨(S_ s.b).toNat,by omega⟩
  have hit:Lib.itoa (S_ s.b)=s.b:=by
   have:=m_j (s.b.length - 1) s.b (by omega) h3 (by
    by_cases h:s.b.length=1
    ·left;omega
    ·right;rw [hhd];intro h';exact hz ⟨by simpa using h',by omega⟩)
   rw [hv'] at this ⊢
   rw [g_B];simpa using this
  by_cases hm:S_ s.b<=1000000000000
  ·rw [dF_ (show ¬1000000000000<S_ s.b by omega),j_P ⟨⟨hpos,by omega⟩,h3,hm,hit⟩];rfl
  ·rw [dT_ (show 1000000000000<S_ s.b by omega),d_t<|fun h=>hm h.2.2.1];rfl
 ·rw [h1,bd_some,el_inr,d_t<|fun h=>h3 h.2.1]
theorem p_Z {n:Nat}(hn:30<=n)(s:Str):f_8 n s=some (c_K s):=by
 unfold f_8 c_K
 rw [j_D n (by omega),j_R]
 simp only [bd_some,bd2]
 cases b_l s <;> simp only [bF_,fF_,fT_,bd_some,Bool.true_or,Bool.false_or]
 cases (s.b==[42]) <;> simp only [bF_,fF_,fT_,bd_some,Bool.true_or,Bool.false_or]
 cases (s.b==[63]) <;> simp only [bF_,fF_,fT_,bd_some,Bool.true_or,Bool.false_or]
 cases (s.b==[43]) <;> simp only [bF_,fF_,fT_,Bool.true_or,Bool.false_or]
theorem q_0 {s:Str}{sep:UInt8}(hs:s.b.length<=MX):f_R s sep=some (a_G sep s.b []):=by
 have hMX:=MXv;unfold f_R
 rcases c_I (σ:=(List Str)×Int) (ρ:=List Str) (I:=fun k x=>∃st:Nat,x.2=st/\st<=k/\x.1.length<=k/\x.1++a_G sep (s.b.drop k) (a_i s.b st k)=a_G sep s.b []) (R:=fun _=>False)
  (body:=fun G=>un2 fun H J=>bd (idx s.b ((G:Nat):Int)) fun L=>bd (α:=(List Str)×Int) (if ((byteI L)==(byteI sep))=true then bd (b_u s J ((G:Nat):Int)) fun O=>bd (psh H O) fun V=>some (V,((G+1:Nat):Int)) else some (H,J))<|un2 fun W Y=>some<|.next (W,Y)) (n:=s.b.length)
  (fun k x hk ⟨st,h1,h2,h3,h4⟩=>by
   obtain ⟨acc,z⟩:=x
   simp only at h1 h3 h4
   subst h1
   left
   simp only [un2,ix_ hk,bd_some,beqB]
   rw [dC_ hk,a_G] at h4
   by_cases hc:s.b[k]=sep
   ·rw [dT_ hc]
    rw [iP_ hc] at h4
    simp only [fT_]
    rw [show b_u s (st:Int) (k:Int)=some ⟨a_i s.b st k⟩ by unfold b_u;rw [d_v h2 (by omega)];rfl,bd_some,a_Z (by rw [a_k];omega),bd_some,bd_some]
    refine ⟨_,rfl,k+1,rfl,Nat.le_refl _,by simp;omega,?_⟩;have:a_i s.b (k+1) (k+1)=[]:=by unfold a_i;simp
    rw [this,← h4];simp
   ·rw [dF_ hc]
    rw [iN_ hc] at h4
    simp only [bF_,fF_,bd_some]
    refine ⟨_,rfl,st,rfl,by omega,by omega,?_⟩
    have:a_i s.b st (k+1)=a_i s.b st k++[s.b[k]]:=by
     unfold a_i
     rw [c_o hk,List.drop_append_of_le_length (by simp;omega)]
    rw [this,← h4]) s.b.length 0 ([],0) (by omega) ⟨0,rfl,Nat.le_refl _,by simp,by simp [a_i]⟩ with ⟨x,h1,st,h2,h3,h4,h5⟩ | ⟨r,_,h⟩
 ·obtain ⟨acc,z⟩:=x
  simp only at h2 h4 h5
  subst h2
  rw [h1,bd_some,el_inl]
  simp only [un2]
  rw [show b_u s (st:Int) (s.b.length:Int)=some ⟨a_i s.b st s.b.length⟩ by unfold b_u;rw [d_v h3 (by omega)];rfl,bd_some,a_Z (by rw [a_k];omega),bd_some]
  rw [List.drop_length,a_G] at h5
  rw [h5]
 ·exact h.elim
theorem m_k (sep:UInt8):∀(l cur:List UInt8),∃t r,a_G sep l cur=⟨cur++t⟩::r
 | [],cur=>⟨[],[],by simp [a_G]⟩
 | c::l,cur=>by
  unfold a_G
  split
  ·exact ⟨[],a_G sep l [],by simp⟩
  ·obtain ⟨t,r,h⟩:=m_k sep l<|cur++[c];exact ⟨c::t,r,by rw [h];simp⟩
theorem m_l {α β:Type}{f:α->Option β}{g:α->β}(h:∀x,f x=some (g x)):∀l,f_J f l=some (l.map g)
 | []=>rfl
 | x::l=>by unfold f_J;rw [h,bd_some,m_l h l];rfl
theorem q_1 {n:Nat}(hn:30<=n){s:Str}(hs:s.b.length<=MX):h_g n s=some (e_P s):=by
 have hMX:=MXv;unfold h_g i_W e_P
 by_cases G:s.b=[]
 ·rw [G];rfl
 rw [show (s.b==(⟨[]⟩:Str).b)=false by simpa using G,iN_ G]
 obtain ⟨c,r,hcr⟩:∃c r,s.b=c::r:=by cases h:s.b with | nil=>exact absurd h G | cons c r=>exact ⟨c,r,rfl⟩
 have hl:=f_z 47 s.b []
 rw [q_0 hs,b_8 (by rw [hcr];simp)]
 simp only [bF_,fF_,bd_some]
 have I:s.b[0]'(by rw [hcr];simp)=c:=by simp [hcr]
 rw [I,show (byteI c != byteI (47:UInt8)) = !decide (c=47) by unfold bne;rw [beqB]]
 by_cases hc:c=47
 ·have e:a_G 47 s.b []=⟨[]⟩::a_G 47 r []:=by rw [hcr,a_G,iP_ hc]
  rw [e] at hl ⊢
  have J:=(f_z 47 r []).1
  clear e
  generalize a_G 47 r []=l at *
  rw [dT_ hc]
  simp only [nT_,bF_,fF_]
  rw [show slc ((⟨[]⟩:Str)::l) 1 (((⟨[]⟩:Str)::l).length:Int)=some l by rw [e_X (by omega) (by simp;omega) (by omega)];simp]
  rw [bd_some,m_l<|p_Z hn,bd_some,iP_ (by rw [a_k];have:=hl.2;rw [lC_] at this;omega)]
  have H:(l.map c_K).all id=l.all c_K:=by rw [List.all_map];rfl
  rw [H]
  simp only [List.head?_cons,List.tail_cons,true_and,lC_]
  rw [dT_ (show 1<l.length+1 by omega)]
  split <;> rfl
 ·have e:a_G 47 s.b []=a_G 47 r [c]:=by rw [hcr,a_G,iN_ hc];rfl
  obtain ⟨t,q,H⟩:=m_k 47 r [c]
  rw [dF_ hc,e,H]
  simp only [Bool.not_false,fT_,bd2_some]
  rw [iN_ (fun h=>by have:=h.1;simp at this)]
end Go.Vw
