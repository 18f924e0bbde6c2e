
import Derived.Test.YtelphaiofendpaaGreatDoorVwP8
namespace Go.Vw
open Go.RowKit Dat
theorem s_N (x:Nat):mkB (i_ 48 ((x % 10:Nat):Int))=UInt8.ofNat (48+x % 10):=by
 have:x % 10=0∨x % 10=1∨x % 10=2∨x % 10=3∨x % 10=4∨x % 10=5∨x % 10=6∨x % 10=7∨x % 10=8∨x % 10=9:=by omega
 rcases this with h | h | h | h | h | h | h | h | h | h <;> rw [h] <;> decide
theorem l_F:∀(k x:Nat),x<10 ^ k->0<x->x<=4611686018427387904->∀(s:Str)(n:Nat),k+1<=n->s.b.length+k<=1000 ->
  a_5 (σ:=Str×Int) (ρ:=Str) (un2 λH G=>if (G != 0) then bd (α:=Int) (if (decide<|(b_2 G 10)<0) then some (f_D<|b_2 G 10) else some (b_2 G 10)) (λJ=>bd (cat (⟨[mkB (i_ 48 J)]⟩:Str) H) λL=>some<|.next (L,b_Z G 10)) else some (.brk (H,G))) n (s,(x:Int))=some (.inl (⟨Lib.decDigits x++s.b⟩,0))
 | 0,x,h,O,_,_,_,_,_=>by simp at h;omega
 | k+1,x,h,O,hb,s,n,hn,hs=>by
  obtain ⟨m,rfl⟩:∃m,n=m+1:=⟨n - 1,by omega⟩;unfold a_5
  simp only [un2]
  rw [show ((x:Int) != 0)=true by simp;omega,j_G (by omega),l_I (by omega) (by omega) (by omega),dF_ (show ¬(x:Int) % 10<0 by omega)]
  simp only [fT_,bF_,fF_,bd_some]
  rw [show (x:Int) % 10=((x % 10:Nat):Int) by omega,s_N,a_q (by rw [a_H];simp;omega),bd_some,show (x:Int) / 10=((x / 10:Nat):Int) by omega]
  simp only
  by_cases I:x<10
  .rw [show x / 10=0 by omega,show x % 10=x by omega]
   obtain ⟨m',rfl⟩:∃m',m=m'+1:=⟨m - 1,by omega⟩
   rw [Lib.decDigits,dif_pos I]
   rfl
  .rw [l_F k (x / 10) (by rw [Nat.pow_succ] at h;omega) (by omega) (by omega) _ m (by omega) (by simp;omega)]
   rw [Lib.decDigits.eq_1 x,dif_neg I]
   simp
theorem l_G {n:Nat}(hn:30<=n)(i:Nat)(hi:i<=1000000000):c_2 n i=some ⟨Lib.itoa i⟩:=by
 unfold c_2 Lib.itoa
 rw [iN_ (show ¬(i:Int)<0 by omega)]
 by_cases G:i=0
 .subst G
  rw [show ((((0:Nat):Int)).toNat)=0 from rfl,Lib.decDigits,dif_pos (by omega)]
  rfl
 .rw [show ((i:Int)==0)=false by simp;omega]
  simp only [bF_,fF_]
  rw [l_F 20 i (by omega) (by omega) (by omega) ⟨[]⟩ n (by omega) (by simp),dF_ (show ¬(i:Int)<0 by omega)]
  simp
theorem j_F (i:Nat)(hi:i<=1000000000):(Lib.itoa i).length<=21:=Lib.itoa_length_le i (by omega) (by omega)
def a_c (r:g_)(i:Nat):Str :=
 if r.kind==5 then ⟨Lib.itoa i⟩
 else if r.kind==6 && decide (i<r.names.length) then r.names.getD i ⟨[]⟩
 else if r.kind==7 && i==0 then ⟨[42]⟩
 else if r.kind==8 && i==0 then ⟨[63]⟩
 else if r.kind==9 && i==0 then ⟨[43]⟩
 else ⟨[]⟩
theorem f_W {n:Nat}(hn:30<=n)(r:g_)(i:Nat)(hi:i<=1000000000):e_4 n r i=some (a_c r i):=by
 unfold e_4 a_c
 rw [l_G hn i hi]
 rw [l_2]
 cases (r.kind==5)
 .cases (r.kind==6)
  .cases (r.kind==7) <;> cases (r.kind==8) <;> cases (r.kind==9) <;> cases (i==0) <;> rfl
  .by_cases h:i<r.names.length
   .rw [dT_ h,dT_ (show (i:Int)<(r.names.length:Int) by omega),ix_ h,a_b h];rfl
   .rw [dF_ h,dF_ (show ¬(i:Int)<(r.names.length:Int) by omega)]
    cases (r.kind==7) <;> cases (r.kind==8) <;> cases (r.kind==9) <;> cases (i==0) <;> rfl
 .rfl
theorem l_H {s:Str}(h:b_7 s=true):s.b.length<=12:=by
 unfold b_7 at h
 simp only [aE_,dE_] at h
 exact h.2.2
theorem o_e {rs:List g_}{r:g_}(h:a_o rs r=true)(i:Nat)(hi:i<=1000000000):(a_c r i).b.length<=21:=by
 unfold a_c
 split
 .exact j_F i hi
 split
 .rename_i h6
  simp only [aE_,beq_iff_eq,dE_] at h6
  rw [a_b h6.2]
  have:=l_H<|(d_u h h6.1).2.2.2 _ (gE_ h6.2)
  omega
 split
 .simp
 split
 .simp
 split <;> simp
def d_6 (r:g_)(path:Str)(i:Nat):Str:=⟨path.b++[47]++(a_c r i).b⟩
def ixL (f:Int->Nat->Str->List y_)(e:Int->Nat->Nat)(r:g_)(path:Str):List Int->Nat->Nat->List y_
 | [],_,_=>[]
 | k::ks,i,pos=>f k pos (d_6 r path i)++ixL f e r path ks (i+1) (e k pos)
def ixW (rs:List g_)(b:Bt)(rule:Nat)(at_:Nat)(path:Str):List y_ :=
 (⟨path,(rule:Int),(at_:Int),((rdW rs b rule at_).2.1:Int)⟩:y_)::ixL (λk p q=>if _h:k.toNat<rule then ixW rs b k.toNat p q else []) (λk p=>(rdW rs b k.toNat p).2.1) (rs.getD rule default) path ((List.range (rdW rs b rule at_).1.items.length).map (X_ (rs.getD rule default) (rdW rs b rule at_).1.number)) 0 (a_p rs (rs.getD rule default) at_)
termination_by rule
theorem o_f {f f':Int->Nat->Str->List y_}{e:Int->Nat->Nat}{r:g_}{path:Str}:∀(ks:List Int)(i pos:Nat),(∀k∈ks,∀p q,f k p q=f' k p q)->ixL f e r path ks i pos=ixL f' e r path ks i pos
 | [],_,_,_=>rfl
 | k::ks,i,pos,h=>by
  unfold ixL
  rw [h k mS_,o_f ks _ _<|λk hk=>h k<|mT_ _ hk]
section
variable {d:d_}{b:Bt}
theorem h_l (hv:N_ d=true){i:Nat}(hi:i<d.rules.length){at_:Nat}{ks:List Int}{e:Nat}(h:f_U d b d.rules[i] at_ (rdW d.rules b i at_) ks e)(path:Str) :
  ixW d.rules b i at_ path=(⟨path,(i:Int),(at_:Int),((rdW d.rules b i at_).2.1:Int)⟩:y_)::ixL (λk p q=>ixW d.rules b k.toNat p q) (λk p=>(rdW d.rules b k.toNat p).2.1) d.rules[i] path ks 0 (a_p d.rules d.rules[i] at_):=by
 rw [ixW]
 have G:d.rules.getD i default=d.rules[i]:=by simp [hi]
 rw [G]
 have hl:=f_T h.ch
 have H:(List.range (rdW d.rules b i at_).1.items.length).map (X_ d.rules[i] (rdW d.rules b i at_).1.number)=ks:=by
  apply List.ext_getElem
  .simp [hl]
  .intro j h1 h2
   rw [List.getElem_map,List.getElem_range]
   exact h.item j h2
 rw [H]
 congr 1
 refine o_f ks _ _<|λk hk p q=>?_;have:=(a_M hv hi).kids k (h.kids k hk)
 rw [dif_pos (by omega)]
theorem o_g (i:Nat)(f:Int->Nat->Str->List y_)(r:g_)(path:Str):∀(ks:List Int)(j pos:Nat)(vs:List Val)(e:Nat),(∀k∈ks,∀p,p<=b.length->p<=(rdW d.rules b k.toNat p).2.1/\(rdW d.rules b k.toNat p).2.1<=b.length)->(∀k∈ks,∀p q,p<=b.length->(rdW d.rules b k.toNat p).2.2=0->(f k p q).length<=i * ((rdW d.rules b k.toNat p).2.1 - p)) ->
  d_4 (λk p=>rdW d.rules b k.toNat p) b.length ks pos vs e->(ixL f (λk p=>(rdW d.rules b k.toNat p).2.1) r path ks j pos).length<=i * (e - pos)/\pos<=e
 | [],_,_,_,_,_,_,h=>by rw [h.2];simp [ixL]
 | k::ks,j,pos,vs,e,hle,hf,h=>by
  obtain ⟨hp,G,ws,_,hrest⟩:=h;have h1:=hle k mS_ pos hp;have h2:=hf k mS_ pos (d_6 r path j) hp G;have h3:=o_g i f r path ks (j+1) _ ws e (λk hk=>hle k<|mT_ _ hk) (λk hk=>hf k<|mT_ _ hk) hrest
  simp only at h3 G
  unfold ixL
  rw [List.length_append]
  refine ⟨?_,by omega⟩
  have h4:i * ((rdW d.rules b k.toNat pos).2.1 - pos)+i * (e - (rdW d.rules b k.toNat pos).2.1)=i * (e - pos):=by
   rw [← Nat.mul_add];congr 1;omega
  omega
theorem s_O (hv:N_ d=true):∀(i:Nat),i<d.rules.length->∀at_ path,at_<=b.length->(rdW d.rules b i at_).2.2=0->(ixW d.rules b i at_ path).length<=(i+1) * ((rdW d.rules b i at_).2.1 - at_):=by
 intro i
 induction i using Nat.strongRecOn with
 | _ i ih =>
  intro hi at_ path ha hok;obtain ⟨ks,e,h⟩:=e_0 hv hi ha hok;have hlt:=o_9 hv i hi at_ ha hok
  rw [h_l hv hi h path]
  have hkk:∀k∈ks,0<=k/\k<(i:Int):=λk hk=>(a_M hv hi).kids k (h.kids k hk)
  have hL:=o_g (d:=d) (b:=b) i (λk p q=>ixW d.rules b k.toNat p q) d.rules[i] path ks 0 _ _ e (λk hk p hp=>by have:=hkk k hk;exact b_v hv k.toNat (by omega) p hp) (λk hk p q hp G=>by
   have H:=hkk k hk;have h1:=ih k.toNat (by omega) (by omega) p q hp G
   exact Nat.le_trans h1 (Nat.mul_le_mul_right _ (by omega))) h.ch
  rw [lC_]
  have hst:=h.st;have hse:=h.se;have hle:=h.le;have h5:i * (e - a_p d.rules d.rules[i] at_)<=i * ((rdW d.rules b i at_).2.1 - at_):=Nat.mul_le_mul_left _ (by omega)
  rw [Nat.succ_mul]
  omega
theorem s_P (hv:N_ d=true)(hb:b.length<=400){i:Nat}(hi:i<d.rules.length){at_:Nat}(path:Str)(ha:at_<=b.length)(hok:(rdW d.rules b i at_).2.2=0):(ixW d.rules b i at_ path).length<=10000:=by
 have h1:=s_O hv i hi at_ path ha hok;have h2:=(b_e hv).2;have h3:=(b_v (b:=b) hv i hi at_ ha).2;have h4:(i+1) * ((rdW d.rules b i at_).2.1 - at_)<=24 * 400:=Nat.mul_le_mul (by omega) (by omega)
 omega
theorem o_h {r:g_}{path:Str}{j:Nat}(hk:a_o d.rules r=true)(hj:j<=1000000000):(d_6 r path j).b.length<=path.b.length+22:=by
 have:=o_e hk j hj;unfold d_6
 simp only [List.length_append,lC_,List.length_nil]
 omega
theorem o_i (hv:N_ d=true)(hb:b.length<=400){i:Nat}(hi:i<d.rules.length){at_:Nat}(ha:at_<=b.length)(hok:(rdW d.rules b i at_).2.2=0) :
  (bd (α:=Bool) (if (d.rules[i].kind==5) then some (d.rules[i].kind==5) else some (d.rules[i].kind==7)) (λO=>bd (α:=Int) (if O then bd (idx d.rules[i].kids 0) λG=>bd3 (c_C d G b at_) λV H W=>some H else bd (α:=Int) (if (d.rules[i].kind==8) then some (i_ (at_:Int) 1) else some (at_:Int)) (λY=>some Y)) some)=some ((a_p d.rules d.rules[i] at_:Nat):Int)):=by
 have hMX:=MXv;have hr:=a_M hv hi;obtain ⟨ks,e,h⟩:=e_0 hv hi ha hok;have hst:=h.st
 rw [d_v hv hi ha] at hok
 generalize d.rules[i]=r at *
 unfold a_p at *
 have main:r.kind=5∨r.kind=7->bd (idx r.kids 0) (λG=>bd3 (c_C d G b at_) λV H W=>some H)=some (((at_+(E_ d.rules<|u_ r).size.toNat:Nat)):Int):=by
  intro J
  have hlim:0<lim d.rules (u_ r)/\0<r.kids.length:=by
   rcases J with h | h
   .have:=c_y hr.kind h;exact ⟨this.1,by omega⟩
   .have:=c_Q hr.kind h;exact ⟨this.1,by omega⟩
  have hq:=b_U hlim.1
  rw [b_F hlim.2,bd_some,f_N hq.1 hq.2 (by omega) ha]
  cases hi:W_ b (E_ d.rules<|u_ r) at_ with
  | some n=>rfl
  | none =>
   exfalso
   unfold rdB P_ at hok
   rcases J with h | h <;> rw [h,hi] at hok <;> cases hok
 by_cases h5:r.kind=5
 .have:=main<|.inl h5
  rw [h5]
  simp only [bQ_,fT_,bd_some,Bool.true_or]
  rw [this];rfl
 by_cases I:r.kind=7
 .have:=main<|.inr I
  rw [I]
  simp only [show ((7:Int)==5)=false from rfl,bF_,fF_,bQ_,fT_,bd_some,Bool.false_or]
  rw [this];rfl
 rw [show (r.kind==5)=false by simpa using h5,show (r.kind==7)=false by simpa using I]
 by_cases L:r.kind=8
 .rw [L]
  simp only [bF_,fF_,bd_some,bQ_,fT_,Bool.or_self]
  rw [ia_ (by omega) (by omega)];rfl
 .rw [show (r.kind==8)=false by simpa using L]
  rfl
end
end Go.Vw
