import Derived.Test.YtefljifhihogoaaGreatDoorVj
namespace Go.Vw
set_option linter.unusedVariables false
open Go.RowKit Dat
theorem j_q {c:UInt8}(h:b_2 c=true):48<=c.toNat/\c.toNat<=57:=by
 rw [h_e] at h
 grind
theorem w_5 (l:Bt):∀a:Int,(∀c∈l,b_2 c=true)->1<=a->1<=l.foldl d_i a:=by
 induction l with
 | nil=>simp
 | cons c l ih =>
  intro a h ha;have:=j_q<|h c mS_;have hb:b_ c=(c.toNat:Int):=rfl;exact ih _ (λc hc=>h c<|mT_ _ hc) (by unfold d_i;omega)
theorem w_6 (l:Bt)(c:UInt8):a_1 (l++[c])=10 * a_1 l+(b_ c - 48):=by
 unfold a_1;rw [List.foldl_append];rfl
theorem q_F:∀(m:Nat)(l:Bt),l.length=m+1->(∀c∈l,b_2 c=true)->(m=0∨l.head? ≠ some 48)->Lib.decDigits (a_1 l).toNat=l
 | 0,l,hl,hd,_=>by
  match l,hl with
  | [c],_ =>
   have h:=j_q<|hd c mS_
   have hv:a_1 [c]=(c.toNat:Int) - 48:=by
    have hb:b_ c=(c.toNat:Int):=rfl
    simp [a_1,d_i]
   rw [hv,Lib.decDigits,dif_pos (by omega)]
   congr 1
   have:48+((c.toNat:Int) - 48).toNat=c.toNat:=by omega
   simp_all
 | m+1,l,hl,hd,hh=>by
  have hh':l.head? ≠ some 48:=hh.resolve_left (by omega)
  rcases List.eq_nil_or_concat l with rfl | ⟨l',c,rfl⟩
  .grind
  rw [List.concat_eq_append] at *
  have hl':l'.length=m+1:=by grind
  have hd':∀x∈l',b_2 x=true:=λx hx=>hd x<|QAW _ hx
  have hc:=j_q<|hd c (by simp)
  obtain ⟨a,r,rfl⟩:∃a r,l'=a::r:=by
   cases l' with
   | nil=>grind
   | cons a r=>simp
  have ha:a ≠ 48:=λh=>hh' (by grind)
  have hab:=j_q<|hd' a mS_;have han:a.toNat ≠ 48:=λh=>ha<|UInt8.toNat_inj.1 (by grind)
  have ih:=q_F m (a::r) hl' hd'<|.inr (by grind)
  have h1:1<=a_1 (a::r):=by
   have hb:b_ a=(a.toNat:Int):=rfl;exact w_5 r (d_i 0 a) (λx hx=>hd' x<|mT_ _ hx) (by grind [d_i])
  have hb:b_ c=(c.toNat:Int):=rfl
  rw [w_6,hb,Lib.decDigits,dif_neg (by omega)]
  have G:(10 * a_1 (a::r)+((c.toNat:Int) - 48)).toNat / 10=(a_1 (a::r)).toNat:=by omega
  have H:48+(10 * a_1 (a::r)+((c.toNat:Int) - 48)).toNat % 10=c.toNat:=by omega
  simp_all
theorem w_7 (x:Nat):(Lib.decDigits x).head? = some 48->x=0:=by
 induction x using Nat.strongRecOn with
 | _ x ih =>
  rw [Lib.decDigits]
  split
  .rename_i hx
   intro h
   simp only [List.head?_cons,oI_] at h
   have:=congrArg UInt8.toNat h
   grind [UInt8.toNat_ofNat']
  grind [Lib.decDigits]
theorem n_G (s:Str):h_z s=some (c_M s):=by
 unfold h_z
 by_cases h0:s.b=[]
 .simp_all [f_d]
 have hpos:0<s.b.length:=by grind
 rw [show (s.b==(⟨[]⟩:Str).b)=false by grind]
 simp only [bF_,fF_]
 by_cases a0:13<s.b.length
 .rw [dT_ (show (13:Int)<(s.b.length:Int) by omega),f_d (λh=>by omega)];rfl
 rw [dF_ (show ¬(13:Int)<(s.b.length:Int) by omega),b_j hpos]
 simp only [bF_,fF_,a_,h_k]
 have hhd:s.b.head? = some s.b[0]:=by grind [List.head?_eq_getElem?,List.getElem?_eq_getElem]
 by_cases hz:s.b[0]=48/\1<s.b.length
 .rw [dT_ hz.1,dT_ (show (1:Int)<(s.b.length:Int) by omega),f_d]
  .rfl
  .rintro ⟨_,hd,_,he⟩;have hv:=(i_4 _ hd).1;obtain ⟨v,hv'⟩:∃v:Nat,a_1 s.b=v:=⟨(a_1 s.b).toNat,by omega⟩
   rw [hv',h_i] at he
   have h1:=w_7 v (by grind)
   grind [Lib.decDigits,List.length]
 have e:(if decide (s.b[0]=48) then some (decide<|(1:Int)<(s.b.length:Int)) else some false)=some false:=by
  grind
 rw [e,a_]
 simp only [bF_,fF_]
 have hp:∀k,k<=s.b.length->(∀c∈s.b.take k,b_2 c=true)->0<=a_1 (s.b.take k)/\a_1 (s.b.take k)<10 ^ 13:=λk hk hd=>by
  have:=i_4 _ hd;refine ⟨this.1,Int.lt_of_lt_of_le this.2 ?_⟩
  exact_mod_cast Nat.pow_le_pow_right (by decide) (by grind)
 rcases h_f (σ:=Int) (ρ:=Int×Bool) (I:=λk x=>x=a_1 (s.b.take k)/\∀c∈s.b.take k,b_2 c=true) (R:=λr=>r=(0,false)/\¬∀c∈s.b,b_2 c=true)
  (body:=λG=>(λH=>bd (α:=Bool) (bd (idx s.b ((G:Nat):Int)) λJ=>if (decide<|(b_ J)<(b_ (48:UInt8))) then some true else bd (idx s.b ((G:Nat):Int)) λL=>some<|decide<|(b_ (57:UInt8))<(b_ L)) (λO=>if O then some (.ret (0,false)) else bd (idx s.b ((G:Nat):Int)) λV=>some<|.next<|e_ (b_t 10 H)<|b_<|mkB<|b_ V - b_ (48:UInt8)))) (n:=s.b.length)
  (λk x hk ⟨hx,hd⟩=>by
   subst hx
   simp only [ix_ hk,a_]
   have hb:b_ s.b[k]=(s.b[k].toNat:Int):=rfl;have W:b_ (48:UInt8)=48:=rfl;have Y:b_ (57:UInt8)=57:=rfl
   have ed:(if decide (b_ s.b[k]<b_ (48:UInt8)) then some true else some (decide<|b_ (57:UInt8)<b_ s.b[k]))=some (!b_2 s.b[k]):=by
    rw [h_e,hb,W,Y]
    by_cases h1:(s.b[k].toNat:Int)<48
    .grind
    .rw [dF_ h1,dT_ (show (48:Int)<=s.b[k].toNat by omega)]
     simp only [bF_,fF_,QAE]
     grind [decide_eq_false,decide_eq_true,decide_eq_true,decide_eq_false]
   rw [ed,a_]
   by_cases hc:b_2 s.b[k]=true
   .left
    rw [hc]
    simp only [nT_,bF_,fF_]
    have h1:=hp k (by omega) hd;have h2:=j_q hc
    rw [q_v hc,i_j (by omega) (by omega),ia_ (by omega) (by omega)]
    refine ⟨_,rfl,?_,?_⟩
    .unfold a_1;rw [g_1 _ _ hk];rfl
    .intro c hcm
     rw [h_j hk] at hcm
     grind
   grind) s.b.length 0 0 (by omega) ⟨rfl,by simp⟩ with ⟨x,h1,h2,h3⟩ | ⟨r,h1,rfl,h3⟩
 .rw [h1,a_,W_]
  rw [QAY] at h2 h3
  subst h2;have hv:=(i_4 _ h3).1;obtain ⟨v,hv'⟩:∃v:Nat,a_1 s.b=v:=⟨(a_1 s.b).toNat,by omega⟩
  have hit:Lib.itoa (a_1 s.b)=s.b:=by
   have:=q_F (s.b.length - 1) s.b (by omega) h3 (by
    grind)
   grind [h_i]
  grind [a_1,a_1,a_1,decide_eq_true,f_d,decide_eq_false,n_B]
 grind [a_,d_Y,f_d]
theorem q_G {n:Nat}(hn:30<=n)(s:Str):g_t n s=some (c_n s):=by
 unfold g_t c_n
 rw [l_w n (by omega),n_G]
 simp only [a_,bd2]
 cases b_3 s <;> simp only [bF_,fF_,fT_,a_,QBO,QAg]
 cases (s.b==[42]) <;> simp only [bF_,fF_,fT_,a_,QBO,QAg]
 cases (s.b==[63]) <;> simp only [bF_,fF_,fT_,a_,QBO,QAg]
 grind
theorem q_H {s:Str}{sep:UInt8}(hs:s.b.length<=MX):g_s s sep=some (a_6 sep s.b []):=by
 have hMX:=MXv;unfold g_s
 rcases h_f (σ:=(List Str)×Int) (ρ:=List Str) (I:=λk x=>∃st:Nat,x.2=st/\st<=k/\x.1.length<=k/\x.1++a_6 sep (s.b.drop k) (a_v s.b st k)=a_6 sep s.b []) (R:=λ_=>False)
  (body:=λG=>un2 λH J=>bd (idx s.b ((G:Nat):Int)) λL=>bd (α:=(List Str)×Int) (if ((b_ L)==(b_ sep)) then bd (c_2 s J ((G:Nat):Int)) λO=>bd (psh H O) λV=>some (V,((G+1:Nat):Int)) else some (H,J))<|un2 λW Y=>some<|.next (W,Y)) (n:=s.b.length)
  (λk x hk ⟨st,h1,h2,h3,h4⟩=>by
   obtain ⟨acc,z⟩:=x
   simp only at h1 h3 h4
   subst h1
   left
   simp only [un2,ix_ hk,a_,h_k]
   rw [dC_ hk,a_6] at h4
   by_cases hc:s.b[k]=sep
   .rw [dT_ hc]
    rw [iP_ hc] at h4
    simp only [fT_]
    rw [show c_2 s (st:Int) (k:Int)=some ⟨a_v s.b st k⟩ by grind [c_2,d_G],a_,a_Z (by grind [a_7]),a_,a_]
    refine ⟨_,rfl,k+1,rfl,QAB _,by grind,?_⟩
    grind [a_v]
   .rw [dF_ hc]
    rw [iN_ hc] at h4
    simp only [bF_,fF_,a_]
    refine ⟨_,rfl,st,rfl,by omega,by omega,?_⟩
    grind [a_v,h_j]) s.b.length 0 ([],0) (by omega) ⟨0,rfl,QAB _,by simp,by rfl⟩ with ⟨x,h1,st,h2,h3,h4,h5⟩ | ⟨r,_,h⟩
 .obtain ⟨acc,z⟩:=x
  simp only at h2 h4 h5
  subst h2
  rw [h1,a_,W_]
  simp only [un2]
  grind [a_6,c_2,a_v,List.drop_length,d_G,a_,a_Z,a_7]
 grind
theorem n_H (sep:UInt8):∀(l cur:Bt),∃t r,a_6 sep l cur=⟨cur++t⟩::r
 | [],cur=>⟨[],[],by simp [a_6]⟩
 | c::l,cur=>by
  unfold a_6
  split
  .simp
  .obtain ⟨t,r,h⟩:=n_H sep l<|cur++[c]
   grind
theorem n_I {α β:Type}{f:α->Option β}{g:α->β}(h:∀x,f x=some (g x)):∀l,h_u f l=some (l.map g)
 | []=>rfl
 | x::l=>by unfold h_u;rw [h,a_,n_I h l];rfl
theorem q_I {n:Nat}(hn:30<=n){s:Str}(hs:s.b.length<=MX):i_A n s=some (c_h s):=by
 have hMX:=MXv;unfold i_A m_l c_h
 by_cases I:s.b=[]
 .simp_all
 rw [show (s.b==(⟨[]⟩:Str).b)=false by grind,iN_ I]
 obtain ⟨c,r,hcr⟩:∃c r,s.b=c::r:=by cases h:s.b with | nil=>grind | cons c r=>simp
 have hl:=e_C 47 s.b []
 rw [q_H hs,b_j (by grind)]
 simp only [bF_,fF_,a_]
 have H:s.b[0]'(by grind)=c:=by grind
 rw [H,show (b_ c != b_ (47:UInt8)) = !decide (c=47) by simp_all [bne,h_k]]
 by_cases hc:c=47
 .have e:a_6 47 s.b []=⟨[]⟩::a_6 47 r []:=by grind [a_6]
  rw [e] at hl ⊢
  have J:=(e_C 47 r []).1
  clear e
  generalize a_6 47 r []=l at *
  rw [dT_ hc]
  simp only [nT_,bF_,fF_]
  rw [show slc ((⟨[]⟩:Str)::l) 1 (((⟨[]⟩:Str)::l).length:Int)=some l by rw [d_O (by omega) (by omega) (by omega)];simp]
  rw [a_,n_I<|q_G hn,a_,iP_ (by grind [List.length_cons,a_7])]
  have G:(l.map c_n).all id=l.all c_n:=by simp
  rw [G]
  simp only [List.head?_cons,List.tail_cons,true_and,lC_]
  rw [dT_ (show 1<l.length+1 by omega)]
  rfl
 .have e:a_6 47 s.b []=a_6 47 r [c]:=by grind [a_6]
  obtain ⟨t,q,G⟩:=n_H 47 r [c]
  simp_all
end Go.Vw
namespace Go.Vw
open Go.RowKit Dat
variable {d:d_}{b:Bt}
theorem q_q:(b_4 d b).length<=10000:=by
 unfold b_4
 cases h:okF d b
 .simp
 .obtain ⟨hv,hb,hlt,hroot,hok,G,hrf⟩:=j_n h
  simp_all [o_x]
theorem h_h {σ ρ:Type}{body:Nat->σ->Option (Out σ ρ)}(f:Nat->σ){n:Nat}{s:σ}(G:s=f 0)(h:∀j,j<n->body j (f j)=some (.next<|f<|j+1)):k_ body n 0 s=some (.inl<|f n):=by
 simp_all [b_Z]
end Go.Vw
