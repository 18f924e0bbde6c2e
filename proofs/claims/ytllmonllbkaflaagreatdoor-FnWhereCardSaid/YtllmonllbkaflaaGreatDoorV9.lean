
import Derived.Test.YtllmonllbkaflaaGreatDoorV7
namespace Go.Vw
open Go.RowKit Dat
theorem i_e {c:UInt8}(h:a_Q c=true):48<=c.toNat/\c.toNat<=57:=by
 rw [f_3] at h
 simp only [aE_,dE_] at h
 omega
theorem t_7 (l:Bt):∀a:Int,(∀c∈l,a_Q c=true)->1<=a->1<=l.foldl c_M a:=by
 induction l with
 | nil=>intro a _ h;exact h
 | cons c l ih =>
  intro a h ha;have:=i_e<|h c mS_;have hb:byteI c=(c.toNat:Int):=rfl;exact ih _ (λc hc=>h c<|mT_ _ hc) (by unfold c_M;omega)
theorem t_8 (l:Bt)(c:UInt8):T_ (l++[c])=10 * T_ l+(byteI c - 48):=by
 unfold T_;rw [List.foldl_append];rfl
theorem o_d:∀(m:Nat)(l:Bt),l.length=m+1->(∀c∈l,a_Q c=true)->(m=0∨l.head? ≠ some 48)->Lib.decDigits (T_ l).toNat=l
 | 0,l,hl,hd,_=>by
  match l,hl with
  | [c],_ =>
   have h:=i_e<|hd c mS_
   have hv:T_ [c]=(c.toNat:Int) - 48:=by
    have hb:byteI c=(c.toNat:Int):=rfl
    simp [T_,c_M,hb]
   rw [hv,Lib.decDigits,dif_pos (by omega)]
   congr 1
   have:48+((c.toNat:Int) - 48).toNat=c.toNat:=by omega
   rw [this];simp
 | m+1,l,hl,hd,hh=>by
  have hh':l.head? ≠ some 48:=hh.resolve_left (by omega)
  rcases List.eq_nil_or_concat l with rfl | ⟨l',c,rfl⟩
  .simp at hl
  rw [List.concat_eq_append] at *
  have hl':l'.length=m+1:=by simpa using hl
  have hd':∀x∈l',a_Q x=true:=λx hx=>hd x<|List.mem_append_left _ hx
  have hc:=i_e<|hd c (by simp)
  obtain ⟨a,r,rfl⟩:∃a r,l'=a::r:=by
   cases l' with
   | nil=>simp at hl'
   | cons a r=>exact ⟨a,r,rfl⟩
  have ha:a ≠ 48:=λh=>hh' (by simp [h])
  have hab:=i_e<|hd' a mS_;have han:a.toNat ≠ 48:=λh=>ha<|UInt8.toNat_inj.1 (by rw [h];rfl)
  have ih:=o_d m (a::r) hl' hd'<|.inr (by simpa using ha)
  have h1:1<=T_ (a::r):=by
   have hb:byteI a=(a.toNat:Int):=rfl;exact t_7 r (c_M 0 a) (λx hx=>hd' x<|mT_ _ hx) (by unfold c_M;omega)
  have hb:byteI c=(c.toNat:Int):=rfl
  rw [t_8,hb,Lib.decDigits,dif_neg (by omega)]
  have G:(10 * T_ (a::r)+((c.toNat:Int) - 48)).toNat / 10=(T_ (a::r)).toNat:=by omega
  have H:48+(10 * T_ (a::r)+((c.toNat:Int) - 48)).toNat % 10=c.toNat:=by omega
  rw [G,H,ih];simp
theorem t_9 (x:Nat):(Lib.decDigits x).head? = some 48->x=0:=by
 induction x using Nat.strongRecOn with
 | _ x ih =>
  rw [Lib.decDigits]
  split
  .rename_i hx
   intro h
   simp only [List.head?_cons,oI_] at h
   have:=congrArg UInt8.toNat h
   rw [UInt8.toNat_ofNat'] at this
   simp at this;omega
  .rename_i hx
   intro h
   have hl:=(m_3 (x / 10) (x / 10) (by
    have:=Nat.lt_two_pow_self (n:=x / 10+1);have h2:2 ^ (x / 10+1)<=10 ^ (x / 10+1):=Nat.pow_le_pow_left (by decide) _
    omega)).1
   have:(Lib.decDigits<|x / 10).head? = some 48:=by
    cases hd:Lib.decDigits (x / 10) with
    | nil=>rw [hd] at hl;simp at hl
    | cons a r=>rw [hd] at h;simpa using h
   have:=ih (x / 10) (by omega) this
   omega
theorem m_8 (s:Str):g_l s=some (c_n s):=by
 unfold g_l
 by_cases G:s.b=[]
 .rw [e_p (λh=>by have:=h.1.1;rw [G] at this;simp at this),G];rfl
 have hpos:0<s.b.length:=by cases h:s.b with | nil=>exact absurd h G | cons=>simp
 rw [show (s.b==(⟨[]⟩:Str).b)=false by simpa using G]
 simp only [bF_,fF_]
 by_cases a1:13<s.b.length
 .rw [dT_ (show (13:Int)<(s.b.length:Int) by omega),e_p (λh=>by have:=h.1.2;omega)];rfl
 rw [dF_ (show ¬(13:Int)<(s.b.length:Int) by omega),a_M hpos]
 simp only [bF_,fF_,bd_some,f_5]
 have hhd:s.b.head? = some s.b[0]:=by rw [List.head?_eq_getElem?,gG_ hpos]
 by_cases hz:s.b[0]=48/\1<s.b.length
 .rw [dT_ hz.1,dT_ (show (1:Int)<(s.b.length:Int) by omega),e_p]
  .rfl
  .rintro ⟨_,hd,_,he⟩;have hv:=(h_a _ hd).1;obtain ⟨v,hv'⟩:∃v:Nat,T_ s.b=v:=⟨(T_ s.b).toNat,by omega⟩
   rw [hv',e_o] at he
   have h1:=t_9 v (by rw [he,hhd,hz.1]);subst h1;have h2:=congrArg List.length he
   rw [Lib.decDigits] at h2
   simp at h2;omega
 have e:(if decide (s.b[0]=48) then some (decide<|(1:Int)<(s.b.length:Int)) else some false)=some false:=by
  by_cases h:s.b[0]=48
  .rw [dT_ h,dF_ (λh'=>hz ⟨h,by omega⟩)];rfl
  .rw [dF_ h];rfl
 rw [e,bd_some]
 simp only [bF_,fF_]
 have hp:∀k,k<=s.b.length->(∀c∈s.b.take k,a_Q c=true)->0<=T_ (s.b.take k)/\T_ (s.b.take k)<10 ^ 13:=λk hk hd=>by
  have:=h_a _ hd;refine ⟨this.1,Int.lt_of_lt_of_le this.2 ?_⟩
  exact_mod_cast Nat.pow_le_pow_right (by decide) (by simp;omega)
 rcases d_r (σ:=Int) (ρ:=Int×Bool) (I:=λk x=>x=T_ (s.b.take k)/\∀c∈s.b.take k,a_Q c=true) (R:=λr=>r=(0,false)/\¬∀c∈s.b,a_Q c=true)
  (body:=λH=>(λJ=>bd (α:=Bool) (bd (idx s.b ((H:Nat):Int)) λL=>if (decide<|(byteI L)<(byteI (48:UInt8))) then some true else bd (idx s.b ((H:Nat):Int)) λO=>some<|decide<|(byteI (57:UInt8))<(byteI O)) (λV=>if V then some (.ret (0,false)) else bd (idx s.b ((H:Nat):Int)) λW=>some<|.next<|d_ (a_7 10 J)<|byteI<|mkB<|byteI W - byteI (48:UInt8)))) (n:=s.b.length)
  (λk x hk ⟨hx,hd⟩=>by
   subst hx
   simp only [ix_ hk,bd_some]
   have hb:byteI s.b[k]=(s.b[k].toNat:Int):=rfl;have Y:byteI (48:UInt8)=48:=rfl;have a0:byteI (57:UInt8)=57:=rfl
   have ed:(if decide (byteI s.b[k]<byteI (48:UInt8)) then some true else some (decide<|byteI (57:UInt8)<byteI s.b[k]))=some (!a_Q s.b[k]):=by
    rw [f_3,hb,Y,a0]
    by_cases h1:(s.b[k].toNat:Int)<48
    .rw [dT_ h1,dF_ (show ¬(48:Int)<=s.b[k].toNat by omega)];rfl
    .rw [dF_ h1,dT_ (show (48:Int)<=s.b[k].toNat by omega)]
     simp only [bF_,fF_,Bool.true_and]
     congr 1
     by_cases h2:(57:Int)<s.b[k].toNat
     .rw [dT_ h2,dF_ (by omega)];rfl
     .rw [dF_ h2,dT_ (by omega)];rfl
   rw [ed,bd_some]
   by_cases hc:a_Q s.b[k]=true
   .left
    rw [hc]
    simp only [nT_,bF_,fF_]
    have h1:=hp k (by omega) hd;have h2:=i_e hc
    rw [o_3 hc,d_x (by omega) (by omega),ia_ (by omega) (by omega)]
    refine ⟨_,rfl,?_,?_⟩
    .unfold T_;rw [f_4 _ _ hk];rfl
    .intro c hcm
     rw [g_6 hk] at hcm
     simp only [List.mem_append,List.mem_singleton] at hcm
     rcases hcm with hcm | rfl
     .exact hd c hcm
     .exact hc
   .right
    rw [show a_Q s.b[k]=false by simpa using hc]
    exact ⟨_,rfl,rfl,λh=>hc (h _ (gE_ hk))⟩) s.b.length 0 0 (by omega) ⟨rfl,by simp⟩ with ⟨x,h1,h2,h3⟩ | ⟨r,h1,rfl,h3⟩
 .rw [h1,bd_some,el_inl]
  rw [List.take_length] at h2 h3
  subst h2;have hv:=(h_a _ h3).1;obtain ⟨v,hv'⟩:∃v:Nat,T_ s.b=v:=⟨(T_ s.b).toNat,by omega⟩
  have hit:Lib.itoa (T_ s.b)=s.b:=by
   have:=o_d (s.b.length - 1) s.b (by omega) h3 (by
    by_cases h:s.b.length=1
    .left;omega
    .right;rw [hhd];intro h';exact hz ⟨by simpa using h',by omega⟩)
   rw [hv'] at this ⊢
   rw [e_o];simpa using this
  by_cases hm:T_ s.b<=1000000000000
  .rw [dF_ (show ¬1000000000000<T_ s.b by omega),m_4 ⟨⟨hpos,by omega⟩,h3,hm,hit⟩];rfl
  .rw [dT_ (show 1000000000000<T_ s.b by omega),e_p<|λh=>hm h.2.2.1];rfl
 .rw [h1,bd_some,el_inr,e_p<|λh=>h3 h.2.1]
theorem o_e {n:Nat}(hn:30<=n)(s:Str):f_j n s=some (c_5 s):=by
 unfold f_j c_5
 rw [l_Y n (by omega),m_8]
 simp only [bd_some,bd2]
 cases b_k s <;> simp only [bF_,fF_,fT_,bd_some,Bool.true_or,Bool.false_or]
 cases (s.b==[42]) <;> simp only [bF_,fF_,fT_,bd_some,Bool.true_or,Bool.false_or]
 cases (s.b==[63]) <;> simp only [bF_,fF_,fT_,bd_some,Bool.true_or,Bool.false_or]
 cases (s.b==[43]) <;> simp only [bF_,fF_,fT_,Bool.true_or,Bool.false_or]
theorem o_f {s:Str}{sep:UInt8}(hs:s.b.length<=MX):f_h s sep=some (W_ sep s.b []):=by
 have hMX:=MXv;unfold f_h
 rcases d_r (σ:=(List Str)×Int) (ρ:=List Str) (I:=λk x=>∃st:Nat,x.2=st/\st<=k/\x.1.length<=k/\x.1++W_ sep (s.b.drop k) (a_8 s.b st k)=W_ sep s.b []) (R:=λ_=>False)
  (body:=λG=>un2 λH J=>bd (idx s.b ((G:Nat):Int)) λL=>bd (α:=(List Str)×Int) (if ((byteI L)==(byteI sep)) then bd (b_z s J ((G:Nat):Int)) λO=>bd (psh H O) λV=>some (V,((G+1:Nat):Int)) else some (H,J))<|un2 λW Y=>some<|.next (W,Y)) (n:=s.b.length)
  (λk x hk ⟨st,h1,h2,h3,h4⟩=>by
   obtain ⟨acc,z⟩:=x
   simp only at h1 h3 h4
   subst h1
   left
   simp only [un2,ix_ hk,bd_some,f_5]
   rw [dC_ hk,W_] at h4
   by_cases hc:s.b[k]=sep
   .rw [dT_ hc]
    rw [iP_ hc] at h4
    simp only [fT_]
    rw [show b_z s (st:Int) (k:Int)=some ⟨a_8 s.b st k⟩ by unfold b_z;rw [d_a h2 (by omega)];rfl,bd_some,a_s (by rw [a_m];omega),bd_some,bd_some]
    refine ⟨_,rfl,k+1,rfl,Nat.le_refl _,by simp;omega,?_⟩;have:a_8 s.b (k+1) (k+1)=[]:=by unfold a_8;simp
    rw [this,← h4];simp
   .rw [dF_ hc]
    rw [iN_ hc] at h4
    simp only [bF_,fF_,bd_some]
    refine ⟨_,rfl,st,rfl,by omega,by omega,?_⟩
    have:a_8 s.b st (k+1)=a_8 s.b st k++[s.b[k]]:=by
     unfold a_8
     rw [g_6 hk,List.drop_append_of_le_length (by simp;omega)]
    rw [this,← h4]) s.b.length 0 ([],0) (by omega) ⟨0,rfl,Nat.le_refl _,by simp,by simp [a_8]⟩ with ⟨x,h1,st,h2,h3,h4,h5⟩ | ⟨r,_,h⟩
 .obtain ⟨acc,z⟩:=x
  simp only at h2 h4 h5
  subst h2
  rw [h1,bd_some,el_inl]
  simp only [un2]
  rw [show b_z s (st:Int) (s.b.length:Int)=some ⟨a_8 s.b st s.b.length⟩ by unfold b_z;rw [d_a h3 (by omega)];rfl,bd_some,a_s (by rw [a_m];omega),bd_some]
  rw [List.drop_length,W_] at h5
  rw [h5]
 .exact h.elim
theorem m_9 (sep:UInt8):∀(l cur:Bt),∃t r,W_ sep l cur=⟨cur++t⟩::r
 | [],cur=>⟨[],[],by simp [W_]⟩
 | c::l,cur=>by
  unfold W_
  split
  .exact ⟨[],W_ sep l [],by simp⟩
  .obtain ⟨t,r,h⟩:=m_9 sep l<|cur++[c];exact ⟨c::t,r,by rw [h];simp⟩
theorem m_a {α β:Type}{f:α->Option β}{g:α->β}(h:∀x,f x=some (g x)):∀l,g_g f l=some (l.map g)
 | []=>rfl
 | x::l=>by unfold g_g;rw [h,bd_some,m_a h l];rfl
theorem o_g {n:Nat}(hn:30<=n){s:Str}(hs:s.b.length<=MX):h_v n s=some (b_t s):=by
 have hMX:=MXv;unfold h_v k_K b_t
 by_cases G:s.b=[]
 .rw [G];rfl
 rw [show (s.b==(⟨[]⟩:Str).b)=false by simpa using G,iN_ G]
 obtain ⟨c,r,hcr⟩:∃c r,s.b=c::r:=by cases h:s.b with | nil=>exact absurd h G | cons c r=>exact ⟨c,r,rfl⟩
 have hl:=d_Y 47 s.b []
 rw [o_f hs,a_M (by rw [hcr];simp)]
 simp only [bF_,fF_,bd_some]
 have I:s.b[0]'(by rw [hcr];simp)=c:=by simp [hcr]
 rw [I,show (byteI c != byteI (47:UInt8)) = !decide (c=47) by unfold bne;rw [f_5]]
 by_cases hc:c=47
 .have e:W_ 47 s.b []=⟨[]⟩::W_ 47 r []:=by rw [hcr,W_,iP_ hc]
  rw [e] at hl ⊢
  have J:=(d_Y 47 r []).1
  clear e
  generalize W_ 47 r []=l at *
  rw [dT_ hc]
  simp only [nT_,bF_,fF_]
  rw [show slc ((⟨[]⟩:Str)::l) 1 (((⟨[]⟩:Str)::l).length:Int)=some l by rw [e_z (by omega) (by simp;omega) (by omega)];simp]
  rw [bd_some,m_a<|o_e hn,bd_some,iP_ (by rw [a_m];have:=hl.2;rw [lC_] at this;omega)]
  have H:(l.map c_5).all id=l.all c_5:=by rw [List.all_map];rfl
  rw [H]
  simp only [List.head?_cons,List.tail_cons,true_and,lC_]
  rw [dT_ (show 1<l.length+1 by omega)]
  split <;> rfl
 .have e:W_ 47 s.b []=W_ 47 r [c]:=by rw [hcr,W_,iN_ hc];rfl
  obtain ⟨t,q,H⟩:=m_9 47 r [c]
  rw [dF_ hc,e,H]
  simp only [Bool.not_false,fT_,bd2_some]
  rw [iN_ (λh=>by have:=h.1;simp at this)]
end Go.Vw
