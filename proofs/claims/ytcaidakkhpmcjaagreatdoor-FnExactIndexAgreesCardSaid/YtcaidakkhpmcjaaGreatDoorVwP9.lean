
import Derived.Test.YtcaidakkhpmcjaaGreatDoorVwP8
namespace Go.Vw
open Go.RowKit Dat
theorem r_M (x:Nat):mkB (j_ 48 ((x % 10:Nat):Int))=UInt8.ofNat (48+x % 10):=by
 have:x % 10=0∨x % 10=1∨x % 10=2∨x % 10=3∨x % 10=4∨x % 10=5∨x % 10=6∨x % 10=7∨x % 10=8∨x % 10=9:=by omega
 rcases this with h | h | h | h | h | h | h | h | h | h <;> rw [h] <;> decide
theorem l_1:∀(k x:Nat),x<10 ^ k->0<x->x<=4611686018427387904->∀(s:Str)(n:Nat),k+1<=n->s.b.length+k<=1000 ->
  a_j (σ:=Str×Int) (ρ:=Str) (un2 fun H G=>if (G != 0)=true then bd (α:=Int) (if (decide<|(b_r G 10)<0)=true then some (f_e<|b_r G 10) else some (b_r G 10)) (fun J=>bd (cat (⟨[mkB (j_ 48 J)]⟩:Str) H) fun L=>some<|.next (L,d_S G 10)) else some (.brk (H,G))) n (s,(x:Int))=some (.inl (⟨Lib.decDigits x++s.b⟩,0))
 | 0,x,h,O,_,_,_,_,_=>by simp at h;omega
 | k+1,x,h,O,hb,s,n,hn,hs=>by
  obtain ⟨m,rfl⟩:∃m,n=m+1:=⟨n - 1,by omega⟩;unfold a_j
  simp only [un2]
  rw [show ((x:Int) != 0)=true by simp;omega,l_4 (by omega),r_S (by omega) (by omega) (by omega),dF_ (show ¬(x:Int) % 10<0 by omega)]
  simp only [fT_,bF_,fF_,bd_some]
  rw [show (x:Int) % 10=((x % 10:Nat):Int) by omega,r_M,g_M (by rw [b_b];simp;omega),bd_some,show (x:Int) / 10=((x / 10:Nat):Int) by omega]
  simp only
  by_cases I:x<10
  ·rw [show x / 10=0 by omega,show x % 10=x by omega]
   obtain ⟨m',rfl⟩:∃m',m=m'+1:=⟨m - 1,by omega⟩
   rw [Lib.decDigits,dif_pos I]
   rfl
  ·rw [l_1 k (x / 10) (by rw [Nat.pow_succ] at h;omega) (by omega) (by omega) _ m (by omega) (by simp;omega)]
   rw [Lib.decDigits.eq_1 x,dif_neg I]
   simp
theorem r_N {n:Nat}(hn:30<=n)(i:Nat)(hi:i<=1000000000):c_I n i=some ⟨Lib.itoa i⟩:=by
 unfold c_I Lib.itoa
 rw [iN_ (show ¬(i:Int)<0 by omega)]
 by_cases G:i=0
 ·subst G
  rw [show ((((0:Nat):Int)).toNat)=0 from rfl,Lib.decDigits,dif_pos (by omega)]
  rfl
 ·rw [show ((i:Int)==0)=false by simp;omega]
  simp only [bF_,fF_]
  rw [l_1 20 i (by omega) (by omega) (by omega) ⟨[]⟩ n (by omega) (by simp),dF_ (show ¬(i:Int)<0 by omega)]
  simp
theorem n_t (i:Nat)(hi:i<=1000000000):(Lib.itoa i).length<=21:=Lib.itoa_length_le i (by omega) (by omega)
def K_ (r:e_)(i:Nat):Str :=
 if r.kind==5 then ⟨Lib.itoa i⟩
 else if r.kind==6 && decide (i<r.names.length) then r.names.getD i ⟨[]⟩
 else if r.kind==7 && i==0 then ⟨[42]⟩
 else if r.kind==8 && i==0 then ⟨[63]⟩
 else if r.kind==9 && i==0 then ⟨[43]⟩
 else ⟨[]⟩
theorem f_s {n:Nat}(hn:30<=n)(r:e_)(i:Nat)(hi:i<=1000000000):d_y n r i=some (K_ r i):=by
 unfold d_y K_
 rw [r_N hn i hi]
 rw [k_p]
 cases (r.kind==5)
 ·cases (r.kind==6)
  ·cases (r.kind==7) <;> cases (r.kind==8) <;> cases (r.kind==9) <;> cases (i==0) <;> rfl
  ·by_cases h:i<r.names.length
   ·rw [dT_ h,dT_ (show (i:Int)<(r.names.length:Int) by omega),ix_ h,a_7 h];rfl
   ·rw [dF_ h,dF_ (show ¬(i:Int)<(r.names.length:Int) by omega)]
    cases (r.kind==7) <;> cases (r.kind==8) <;> cases (r.kind==9) <;> cases (i==0) <;> rfl
 ·rfl
theorem n_u {d:b_}(hv:F_ d=true)(hd:SmD d){n:Nat}(hn:30<=n){k:Nat}(hk:k<d.rules.length)(i:Nat):e_h n d k i=some (K_ d.rules[k] i):=by
 unfold e_h K_ j_f k_a
 rw [g_w n (by omega) d hd,hv,ix_ hk]
 have H:a_J d (k:Int)=true:=by unfold a_J;rw [dT_ (by omega),dT_ (by omega)];rfl
 rw [H,dF_ (show ¬(i:Int)<0 by omega)]
 simp only [Bool.and_self,nT_,bd_some,bF_,fF_]
 generalize d.rules[k]=r
 by_cases h5:r.kind=5
 ·rw [h5];rfl
 rw [show (r.kind==5)=false by simpa using h5]
 by_cases h6:r.kind=6
 ·rw [h6]
  by_cases h:i<r.names.length
  ·rw [dT_ h,dT_ (show (i:Int)<(r.names.length:Int) by omega),ix_ h,a_7 h];rfl
  ·rw [dF_ h,dF_ (show ¬(i:Int)<(r.names.length:Int) by omega)]
   cases decide (0<(i:Int)) <;> rfl
 rw [show (r.kind==6)=false by simpa using h6]
 by_cases G:i=0
 ·subst G
  cases (r.kind==7) <;> cases (r.kind==8) <;> cases (r.kind==9) <;> rfl
 ·rw [dT_ (show 0<(i:Int) by omega),show (i==0)=false by simpa using G]
  cases (r.kind==7) <;> cases (r.kind==8) <;> cases (r.kind==9) <;> rfl
theorem n_v {s:Str}(h:a_M s=true):s.b.length<=12:=by
 unfold a_M at h
 simp only [aE_,dE_] at h
 exact h.2.2
theorem l_2 {rs:List e_}{r:e_}(h:a_h rs r=true)(i:Nat)(hi:i<=1000000000):(K_ r i).b.length<=21:=by
 unfold K_
 split
 ·exact n_t i hi
 split
 ·rename_i h6
  simp only [aE_,beq_iff_eq,dE_] at h6
  rw [a_7 h6.2]
  have:=n_v<|(d_u h h6.1).2.2.2 _ (gE_ h6.2)
  omega
 split
 ·simp
 split
 ·simp
 split <;> simp
def b_J (r:e_)(path:Str)(i:Nat):Str:=⟨path.b++[47]++(K_ r i).b⟩
def ixL (f:Int->Nat->Str->List k_)(e:Int->Nat->Nat)(r:e_)(path:Str):List Int->Nat->Nat->List k_
 | [],_,_=>[]
 | k::ks,i,pos=>f k pos (b_J r path i)++ixL f e r path ks (i+1) (e k pos)
def ixW (rs:List e_)(b:List UInt8)(rule:Nat)(at_:Nat)(path:Str):List k_ :=
 (⟨path,(rule:Int),(at_:Int),((rdW rs b rule at_).2.1:Int)⟩:k_)::ixL (fun k p q=>if _h:k.toNat<rule then ixW rs b k.toNat p q else []) (fun k p=>(rdW rs b k.toNat p).2.1) (rs.getD rule default) path ((List.range (rdW rs b rule at_).1.items.length).map (a_q (rs.getD rule default) (rdW rs b rule at_).1.number)) 0 (a_6 rs (rs.getD rule default) at_)
termination_by rule
theorem n_w {f f':Int->Nat->Str->List k_}{e:Int->Nat->Nat}{r:e_}{path:Str}:∀(ks:List Int)(i pos:Nat),(∀k∈ks,∀p q,f k p q=f' k p q)->ixL f e r path ks i pos=ixL f' e r path ks i pos
 | [],_,_,_=>rfl
 | k::ks,i,pos,h=>by
  unfold ixL
  rw [h k mS_,n_w ks _ _<|fun k hk=>h k<|mT_ _ hk]
section
variable {d:b_}{b:List UInt8}
theorem e_C (hv:F_ d=true){i:Nat}(hi:i<d.rules.length){at_:Nat}{ks:List Int}{e:Nat}(h:e_B d b d.rules[i] at_ (rdW d.rules b i at_) ks e)(path:Str) :
  ixW d.rules b i at_ path=(⟨path,(i:Int),(at_:Int),((rdW d.rules b i at_).2.1:Int)⟩:k_)::ixL (fun k p q=>ixW d.rules b k.toNat p q) (fun k p=>(rdW d.rules b k.toNat p).2.1) d.rules[i] path ks 0 (a_6 d.rules d.rules[i] at_):=by
 rw [ixW]
 have G:d.rules.getD i default=d.rules[i]:=by simp [hi]
 rw [G]
 have hl:=e_2 h.ch
 have H:(List.range (rdW d.rules b i at_).1.items.length).map (a_q d.rules[i] (rdW d.rules b i at_).1.number)=ks:=by
  apply List.ext_getElem
  ·simp [hl]
  ·intro j h1 h2
   rw [List.getElem_map,List.getElem_range]
   exact h.item j h2
 rw [H]
 congr 1
 refine n_w ks _ _<|fun k hk p q=>?_;have:=(a_r hv hi).kids k (h.kids k hk)
 rw [dif_pos (by omega)]
theorem n_x (i:Nat)(f:Int->Nat->Str->List k_)(r:e_)(path:Str):∀(ks:List Int)(j pos:Nat)(vs:List Val)(e:Nat),(∀k∈ks,∀p,p<=b.length->p<=(rdW d.rules b k.toNat p).2.1/\(rdW d.rules b k.toNat p).2.1<=b.length)->(∀k∈ks,∀p q,p<=b.length->(rdW d.rules b k.toNat p).2.2=0->(f k p q).length<=i * ((rdW d.rules b k.toNat p).2.1 - p)) ->
  c_p (fun k p=>rdW d.rules b k.toNat p) b.length ks pos vs e->(ixL f (fun k p=>(rdW d.rules b k.toNat p).2.1) r path ks j pos).length<=i * (e - pos)/\pos<=e
 | [],_,_,_,_,_,_,h=>by rw [h.2];simp [ixL]
 | k::ks,j,pos,vs,e,hle,hf,h=>by
  obtain ⟨hp,G,ws,_,hrest⟩:=h;have h1:=hle k mS_ pos hp;have h2:=hf k mS_ pos (b_J r path j) hp G;have h3:=n_x i f r path ks (j+1) _ ws e (fun k hk=>hle k<|mT_ _ hk) (fun k hk=>hf k<|mT_ _ hk) hrest
  simp only at h3 G
  unfold ixL
  rw [List.length_append]
  refine ⟨?_,by omega⟩
  have h4:i * ((rdW d.rules b k.toNat pos).2.1 - pos)+i * (e - (rdW d.rules b k.toNat pos).2.1)=i * (e - pos):=by
   rw [← Nat.mul_add];congr 1;omega
  omega
theorem r_O (hv:F_ d=true):∀(i:Nat),i<d.rules.length->∀at_ path,at_<=b.length->(rdW d.rules b i at_).2.2=0->(ixW d.rules b i at_ path).length<=(i+1) * ((rdW d.rules b i at_).2.1 - at_):=by
 intro i
 induction i using Nat.strongRecOn with
 | _ i ih =>
  intro hi at_ path ha hok;obtain ⟨ks,e,h⟩:=c_D hv hi ha hok;have hlt:=n_i hv i hi at_ ha hok
  rw [e_C hv hi h path]
  have hkk:∀k∈ks,0<=k/\k<(i:Int):=fun k hk=>(a_r hv hi).kids k (h.kids k hk)
  have hL:=n_x (d:=d) (b:=b) i (fun k p q=>ixW d.rules b k.toNat p q) d.rules[i] path ks 0 _ _ e (fun k hk p hp=>by have:=hkk k hk;exact b_d hv k.toNat (by omega) p hp) (fun k hk p q hp G=>by
   have H:=hkk k hk;have h1:=ih k.toNat (by omega) (by omega) p q hp G
   exact Nat.le_trans h1 (Nat.mul_le_mul_right _ (by omega))) h.ch
  rw [lC_]
  have hst:=h.st;have hse:=h.se;have hle:=h.le;have h5:i * (e - a_6 d.rules d.rules[i] at_)<=i * ((rdW d.rules b i at_).2.1 - at_):=Nat.mul_le_mul_left _ (by omega)
  rw [Nat.succ_mul]
  omega
theorem n_y (hv:F_ d=true)(hb:b.length<=400){i:Nat}(hi:i<d.rules.length){at_:Nat}(path:Str)(ha:at_<=b.length)(hok:(rdW d.rules b i at_).2.2=0):(ixW d.rules b i at_ path).length<=10000:=by
 have h1:=r_O hv i hi at_ path ha hok;have h2:=(a_O hv).2;have h3:=(b_d (b:=b) hv i hi at_ ha).2;have h4:(i+1) * ((rdW d.rules b i at_).2.1 - at_)<=24 * 400:=Nat.mul_le_mul (by omega) (by omega)
 omega
theorem l_3 {r:e_}{path:Str}{j:Nat}(hk:a_h d.rules r=true)(hj:j<=1000000000):(b_J r path j).b.length<=path.b.length+22:=by
 have:=l_2 hk j hj;unfold b_J
 simp only [List.length_append,lC_,List.length_nil]
 omega
theorem n_z (hv:F_ d=true)(hb:b.length<=400){i:Nat}(hi:i<d.rules.length){at_:Nat}(ha:at_<=b.length)(hok:(rdW d.rules b i at_).2.2=0) :
  (bd (α:=Bool) (if (d.rules[i].kind==5)=true then some (d.rules[i].kind==5) else some (d.rules[i].kind==7)) (fun O=>bd (α:=Int) (if O=true then bd (idx d.rules[i].kids 0) fun G=>bd3 (c_a d G b at_) fun V H W=>some H else bd (α:=Int) (if (d.rules[i].kind==8)=true then some (j_ (at_:Int) 1) else some (at_:Int)) (fun Y=>some Y)) some)=some ((a_6 d.rules d.rules[i] at_:Nat):Int)):=by
 have hMX:=MXv;have hr:=a_r hv hi;obtain ⟨ks,e,h⟩:=c_D hv hi ha hok;have hst:=h.st
 rw [d_7 hv hi ha] at hok
 generalize d.rules[i]=r at *
 unfold a_6 at *
 have main:r.kind=5∨r.kind=7->bd (idx r.kids 0) (fun G=>bd3 (c_a d G b at_) fun V H W=>some H)=some (((at_+(C_ d.rules<|s_ r).size.toNat:Nat)):Int):=by
  intro J
  have hlim:0<lim d.rules (s_ r)/\0<r.kids.length:=by
   rcases J with h | h
   ·have:=c_0 hr.kind h;exact ⟨this.1,by omega⟩
   ·have:=c_m hr.kind h;exact ⟨this.1,by omega⟩
  have hq:=b_i hlim.1
  rw [b_9 hlim.2,bd_some,f_o hq.1 hq.2 (by omega) ha]
  cases hi:U_ b (C_ d.rules<|s_ r) at_ with
  | some n=>rfl
  | none =>
   exfalso
   unfold rdB H_ at hok
   rcases J with h | h <;> rw [h,hi] at hok <;> cases hok
 by_cases h5:r.kind=5
 ·have:=main<|.inl h5
  rw [h5]
  simp only [bQ_,fT_,bd_some,Bool.true_or]
  rw [this];rfl
 by_cases I:r.kind=7
 ·have:=main<|.inr I
  rw [I]
  simp only [show ((7:Int)==5)=false from rfl,bF_,fF_,bQ_,fT_,bd_some,Bool.false_or]
  rw [this];rfl
 rw [show (r.kind==5)=false by simpa using h5,show (r.kind==7)=false by simpa using I]
 by_cases L:r.kind=8
 ·rw [L]
  simp only [bF_,fF_,bd_some,bQ_,fT_,Bool.or_self]
  rw [ia_ (by omega) (by omega)];rfl
 ·rw [show (r.kind==8)=false by simpa using L]
  rfl
theorem r_P (hv:F_ d=true)(hb:b.length<=400){i:Nat}(hi:i<d.rules.length){at_:Nat}(ha:at_<=b.length) :
  (bd (α:=Bool) (if (d.rules[i].kind==5)=true then some (d.rules[i].kind==5) else some (d.rules[i].kind==7)) (fun L=>bd (α:=Int) (if L=true then bd (idx d.rules[i].kids 0) fun G=>bd (idx d.rules G) fun H=>some (j_ (at_:Int) H.size) else bd (α:=Int) (if (d.rules[i].kind==8)=true then some (j_ (at_:Int) 1) else some (at_:Int)) (fun O=>some O)) some))=some ((a_6 d.rules d.rules[i] at_:Nat):Int):=by
 have hr:=a_r hv hi;generalize d.rules[i]=r at *
 unfold a_6
 have main:r.kind=5∨r.kind=7->bd (idx r.kids 0) (fun G=>bd (idx d.rules G) fun H=>some<|j_ (at_:Int) H.size)=some (((at_+(C_ d.rules<|s_ r).size.toNat:Nat)):Int):=by
  intro V
  have hlim:0<lim d.rules (s_ r)/\0<r.kids.length:=by
   rcases V with h | h
   ·have:=c_0 hr.kind h;exact ⟨this.1,by omega⟩
   ·have:=c_m hr.kind h;exact ⟨this.1,by omega⟩
  have hq:=b_i hlim.1;obtain ⟨_,h1,h4⟩:=hq.2
  rw [b_9 hlim.2,bd_some,hq.1,bd_some,ia_ (by omega) (by omega)]
  congr 1
  omega
 by_cases h5:r.kind=5
 ·have:=main<|.inl h5
  rw [h5]
  simp only [bQ_,fT_,bd_some,Bool.true_or]
  rw [this];rfl
 by_cases I:r.kind=7
 ·have:=main<|.inr I
  rw [I]
  simp only [show ((7:Int)==5)=false from rfl,bF_,fF_,bQ_,fT_,bd_some,Bool.false_or]
  rw [this];rfl
 rw [show (r.kind==5)=false by simpa using h5,show (r.kind==7)=false by simpa using I]
 by_cases J:r.kind=8
 ·rw [J]
  simp only [bF_,fF_,bd_some,bQ_,fT_,Bool.or_self]
  rw [ia_ (by omega) (by omega)];rfl
 ·rw [show (r.kind==8)=false by simpa using J]
  rfl
end
end Go.Vw
