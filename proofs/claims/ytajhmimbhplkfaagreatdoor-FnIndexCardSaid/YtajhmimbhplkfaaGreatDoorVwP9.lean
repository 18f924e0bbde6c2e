
import Derived.Test.YtajhmimbhplkfaaGreatDoorVwP8
set_option linter.unusedVariables false
namespace Go.Vw
open Go.RowKit Dat
theorem p_e (x:Nat):mkB (i_ 48 ((x % 10:Nat):Int))=UInt8.ofNat (48+x % 10):=by
 have:x % 10=0∨x % 10=1∨x % 10=2∨x % 10=3∨x % 10=4∨x % 10=5∨x % 10=6∨x % 10=7∨x % 10=8∨x % 10=9:=by omega
 rcases this with h | h | h | h | h | h | h | h | h | h <;> rw [h] <;> decide
theorem l_i : ∀ (k x:Nat),x<10 ^ k→0<x→x≤4611686018427387904 → ∀ (s:Str) (n:Nat),k+1≤n→s.b.length+k≤1000 →
  a_7 (σ:=Str×Int) (ρ:=Str) (un2 fun x64 x66=>if (x66 != 0)=true then bd (α:=Int) (if (decide<|(a_X x66 10)<0)=true then some (e_k<|a_X x66 10) else some (a_X x66 10)) (fun x102=>bd (cat (⟨[mkB (i_ 48 x102)]⟩:Str) x64) fun x119=>some<|.next (x119,b_M x66 10)) else some (.brk (x64,x66))) n (s,(x:Int))=some (.inl (⟨Lib.decDigits x++s.b⟩,0))
 | 0,x,h,h0,_,_,_,_,_=>by simp at h;omega
 | k+1,x,h,h0,hb,s,n,hn,hs=>by
  obtain ⟨m,rfl⟩ : ∃ m,n=m+1:=⟨n - 1,by omega⟩;unfold a_7
  simp only [un2]
  rw [show ((x:Int) != 0)=true by simp;omega,h_e (by omega),l_o (by omega) (by omega) (by omega),dF_ (show ¬ (x:Int) % 10<0 by omega)]
  simp only [fT_,bF_,fF_,bd_some]
  rw [show (x:Int) % 10=((x % 10:Nat):Int) by omega,p_e,d_n (by rw [a_D];simp;omega),bd_some,show (x:Int) / 10=((x / 10:Nat):Int) by omega]
  simp only
  by_cases h10:x<10
  ·rw [show x / 10=0 by omega,show x % 10=x by omega]
   obtain ⟨m',rfl⟩ : ∃ m',m=m'+1:=⟨m - 1,by omega⟩
   rw [Lib.decDigits,dif_pos h10]
   rfl
  ·rw [l_i k (x / 10) (by rw [Nat.pow_succ] at h;omega) (by omega) (by omega) _ m (by omega) (by simp;omega)]
   rw [Lib.decDigits.eq_1 x,dif_neg h10]
   simp
theorem j_q {n:Nat} (hn:30≤n) (i:Nat) (hi:i≤1000000000):c_V n i=some ⟨Lib.itoa i⟩:=by
 unfold c_V Lib.itoa
 rw [iN_ (show ¬ (i:Int)<0 by omega)]
 by_cases h0:i=0
 ·subst h0
  rw [show ((((0:Nat):Int)).toNat)=0 from rfl,Lib.decDigits,dif_pos (by omega)]
  rfl
 ·rw [show ((i:Int)==0)=false by simp;omega]
  simp only [bF_,fF_]
  rw [l_i 20 i (by omega) (by omega) (by omega) ⟨[]⟩ n (by omega) (by simp),dF_ (show ¬ (i:Int)<0 by omega)]
  simp
theorem h_c (i:Nat) (hi:i≤1000000000):(Lib.itoa i).length≤21:=Lib.itoa_length_le i (by omega) (by omega)
def a_m (r:e_) (i:Nat):Str :=
 if r.kind==5 then ⟨Lib.itoa i⟩
 else if r.kind==6 && decide (i<r.names.length) then r.names.getD i ⟨[]⟩
 else if r.kind==7 && i==0 then ⟨[42]⟩
 else if r.kind==8 && i==0 then ⟨[63]⟩
 else if r.kind==9 && i==0 then ⟨[43]⟩
 else ⟨[]⟩
theorem j_r {n:Nat} (hn:30≤n) (r:e_) (i:Nat) (hi:i≤1000000000):d_Z n r i=some (a_m r i):=by
 unfold d_Z a_m
 rw [j_q hn i hi]
 rw [j_5]
 cases (r.kind==5)
 ·cases (r.kind==6)
  ·cases (r.kind==7) <;> cases (r.kind==8) <;> cases (r.kind==9) <;> cases (i==0) <;> rfl
  ·by_cases h:i<r.names.length
   ·rw [dT_ h,dT_ (show (i:Int)<(r.names.length:Int) by omega),ix_ h,a_j h];rfl
   ·rw [dF_ h,dF_ (show ¬ (i:Int)<(r.names.length:Int) by omega)]
    cases (r.kind==7) <;> cases (r.kind==8) <;> cases (r.kind==9) <;> cases (i==0) <;> rfl
 ·rfl
theorem p_f {d:d_} (hv:a_1 d=true) (hd:SmD d) {n:Nat} (hn:30≤n) {k:Nat} (hk:k<d.rules.length) (i:Nat):e_7 n d k i=some (a_m d.rules[k] i):=by
 unfold e_7 a_m h_u i_f
 rw [j_8 n (by omega) d hd,hv,ix_ hk]
 have e1:b_5 d (k:Int)=true:=by unfold b_5;rw [dT_ (by omega),dT_ (by omega)];rfl
 rw [e1,dF_ (show ¬ (i:Int)<0 by omega)]
 simp only [Bool.and_self,nT_,bd_some,bF_,fF_]
 generalize d.rules[k]=r
 by_cases h5:r.kind=5
 ·rw [h5];rfl
 rw [show (r.kind==5)=false by simpa using h5]
 by_cases h6:r.kind=6
 ·rw [h6]
  by_cases h:i<r.names.length
  ·rw [dT_ h,dT_ (show (i:Int)<(r.names.length:Int) by omega),ix_ h,a_j h];rfl
  ·rw [dF_ h,dF_ (show ¬ (i:Int)<(r.names.length:Int) by omega)]
   cases decide (0<(i:Int)) <;> rfl
 rw [show (r.kind==6)=false by simpa using h6]
 by_cases h0:i=0
 ·subst h0
  cases (r.kind==7) <;> cases (r.kind==8) <;> cases (r.kind==9) <;> rfl
 ·rw [dT_ (show 0<(i:Int) by omega),show (i==0)=false by simpa using h0]
  cases (r.kind==7) <;> cases (r.kind==8) <;> cases (r.kind==9) <;> rfl
theorem l_j {s:Str} (h:a_Z s=true):s.b.length≤12:=by
 unfold a_Z at h
 simp only [aE_,dE_] at h
 exact h.2.2
theorem j_s {rs:List e_} {r:e_} (h:a_h rs r=true) (i:Nat) (hi:i≤1000000000):(a_m r i).b.length≤21:=by
 unfold a_m
 split
 ·exact h_c i hi
 split
 ·rename_i h6
  simp only [aE_,beq_iff_eq,dE_] at h6
  rw [a_j h6.2]
  have:=l_j<|(d_Q h h6.1).2.2.2 _ (gE_ h6.2)
  omega
 split
 ·simp
 split
 ·simp
 split <;> simp
def b_9 (r:e_) (path:Str) (i:Nat):Str:=⟨path.b++[47]++(a_m r i).b⟩
def ixL (f:Int→Nat→Str→List k_) (e:Int→Nat→Nat) (r:e_) (path:Str):List Int→Nat→Nat→List k_
 | [],_,_=>[]
 | k::ks,i,pos=>f k pos (b_9 r path i)++ixL f e r path ks (i+1) (e k pos)
def ixW (rs:List e_) (b:List UInt8) (rule:Nat) (at_:Nat) (path:Str):List k_ :=
 (⟨path,(rule:Int),(at_:Int),((rdW rs b rule at_).2.1:Int)⟩:k_)::ixL (fun k p q=>if _h:k.toNat<rule then ixW rs b k.toNat p q else []) (fun k p=>(rdW rs b k.toNat p).2.1) (rs.getD rule default) path ((List.range (rdW rs b rule at_).1.items.length).map (Y_ (rs.getD rule default) (rdW rs b rule at_).1.number)) 0 (a_4 rs (rs.getD rule default) at_)
termination_by rule
theorem l_k {f f':Int→Nat→Str→List k_} {e:Int→Nat→Nat} {r:e_} {path:Str} : ∀ (ks:List Int) (i pos:Nat),(∀ k∈ks,∀ p q,f k p q=f' k p q)→ixL f e r path ks i pos=ixL f' e r path ks i pos
 | [],_,_,_=>rfl
 | k::ks,i,pos,h=>by
  unfold ixL
  rw [h k mS_,l_k ks _ _<|fun k hk=>h k<|mT_ _ hk]
section
variable {d:d_} {b:List UInt8}
theorem d_l (hv:a_1 d=true) {i:Nat} (hi:i<d.rules.length) {at_:Nat} {ks:List Int} {e:Nat} (h:RdOk d b d.rules[i] at_ (rdW d.rules b i at_) ks e) (path:Str) :
  ixW d.rules b i at_ path=(⟨path,(i:Int),(at_:Int),((rdW d.rules b i at_).2.1:Int)⟩:k_)::ixL (fun k p q=>ixW d.rules b k.toNat p q) (fun k p=>(rdW d.rules b k.toNat p).2.1) d.rules[i] path ks 0 (a_4 d.rules d.rules[i] at_):=by
 rw [ixW]
 have e1:d.rules.getD i default=d.rules[i]:=by simp [hi]
 rw [e1]
 have hl:=d_W h.ch
 have e2:(List.range (rdW d.rules b i at_).1.items.length).map (Y_ d.rules[i] (rdW d.rules b i at_).1.number)=ks:=by
  apply List.ext_getElem
  ·simp [hl]
  ·intro j h1 h2
   rw [List.getElem_map,List.getElem_range]
   exact h.item j h2
 rw [e2]
 congr 1
 refine l_k ks _ _<|fun k hk p q=>?_;have:=(a_P hv hi).kids k (h.kids k hk)
 rw [dif_pos (by omega)]
theorem l_l (i:Nat) (f:Int→Nat→Str→List k_) (r:e_) (path:Str) : ∀ (ks:List Int) (j pos:Nat) (vs:List Val) (e:Nat),(∀ k∈ks,∀ p,p≤b.length→p≤(rdW d.rules b k.toNat p).2.1∧(rdW d.rules b k.toNat p).2.1≤b.length)→(∀ k∈ks,∀ p q,p≤b.length→(rdW d.rules b k.toNat p).2.2=0→(f k p q).length≤i * ((rdW d.rules b k.toNat p).2.1 - p)) →
  c_f (fun k p=>rdW d.rules b k.toNat p) b.length ks pos vs e→(ixL f (fun k p=>(rdW d.rules b k.toNat p).2.1) r path ks j pos).length≤i * (e - pos)∧pos≤e
 | [],_,_,_,_,_,_,h=>by rw [h.2];simp [ixL]
 | k::ks,j,pos,vs,e,hle,hf,h=>by
  obtain ⟨hp,h0,ws,_,hrest⟩:=h;have h1:=hle k mS_ pos hp;have h2:=hf k mS_ pos (b_9 r path j) hp h0;have h3:=l_l i f r path ks (j+1) _ ws e (fun k hk=>hle k<|mT_ _ hk) (fun k hk=>hf k<|mT_ _ hk) hrest
  simp only at h3 h0
  unfold ixL
  rw [List.length_append]
  refine ⟨?_,by omega⟩
  have h4:i * ((rdW d.rules b k.toNat pos).2.1 - pos)+i * (e - (rdW d.rules b k.toNat pos).2.1)=i * (e - pos):=by
   rw [← Nat.mul_add];congr 1;omega
  omega
theorem p_g (hv:a_1 d=true) : ∀ (i:Nat),i<d.rules.length → ∀ at_ path,at_≤b.length→(rdW d.rules b i at_).2.2=0→(ixW d.rules b i at_ path).length≤(i+1) * ((rdW d.rules b i at_).2.1 - at_):=by
 intro i
 induction i using Nat.strongRecOn with
 | _ i ih =>
  intro hi at_ path ha hok;obtain ⟨ks,e,h⟩:=c_w hv hi ha hok;have hlt:=l_e hv i hi at_ ha hok
  rw [d_l hv hi h path]
  have hkk : ∀ k∈ks,0≤k∧k<(i:Int):=fun k hk=>(a_P hv hi).kids k (h.kids k hk)
  have hL:=l_l (d:=d) (b:=b) i (fun k p q=>ixW d.rules b k.toNat p q) d.rules[i] path ks 0 _ _ e (fun k hk p hp=>by have:=hkk k hk;exact b_H hv k.toNat (by omega) p hp) (fun k hk p q hp h0=>by
   have hk2:=hkk k hk;have h1:=ih k.toNat (by omega) (by omega) p q hp h0
   exact Nat.le_trans h1 (Nat.mul_le_mul_right _ (by omega))) h.ch
  rw [lC_]
  have hst:=h.st;have hse:=h.se;have hle:=h.le;have h5:i * (e - a_4 d.rules d.rules[i] at_)≤i * ((rdW d.rules b i at_).2.1 - at_):=Nat.mul_le_mul_left _ (by omega)
  rw [Nat.succ_mul]
  omega
theorem h_d (hv:a_1 d=true) (hb:b.length≤400) {i:Nat} (hi:i<d.rules.length) {at_:Nat} (path:Str) (ha:at_≤b.length) (hok:(rdW d.rules b i at_).2.2=0):(ixW d.rules b i at_ path).length≤10000:=by
 have h1:=p_g hv i hi at_ path ha hok;have h2:=(b_E hv).2;have h3:=(b_H (b:=b) hv i hi at_ ha).2;have h4:(i+1) * ((rdW d.rules b i at_).2.1 - at_)≤24 * 400:=Nat.mul_le_mul (by omega) (by omega)
 omega
theorem l_m {r:e_} {path:Str} {j:Nat} (hk:a_h d.rules r=true) (hj:j≤1000000000):(b_9 r path j).b.length≤path.b.length+22:=by
 have:=j_s hk j hj;unfold b_9
 simp only [List.length_append,lC_,List.length_nil]
 omega
theorem l_n (hv:a_1 d=true) (hb:b.length≤400) {i:Nat} (hi:i<d.rules.length) {at_:Nat} (ha:at_≤b.length) (hok:(rdW d.rules b i at_).2.2=0) :
  (bd (α:=Bool) (if (d.rules[i].kind==5)=true then some (d.rules[i].kind==5) else some (d.rules[i].kind==7)) (fun x194=>bd (α:=Int) (if x194=true then bd (idx d.rules[i].kids 0) fun x294=>bd3 (b_W d x294 b at_) fun r333 r334 r335=>some r334 else bd (α:=Int) (if (d.rules[i].kind==8)=true then some (i_ (at_:Int) 1) else some (at_:Int)) (fun x347=>some x347)) some)=some ((a_4 d.rules d.rules[i] at_:Nat):Int)):=by
 have hMX:=MXv;have hr:=a_P hv hi;obtain ⟨ks,e,h⟩:=c_w hv hi ha hok;have hst:=h.st
 rw [d_T hv hi ha] at hok
 generalize d.rules[i]=r at *
 unfold a_4 at *
 have main:r.kind=5∨r.kind=7→bd (idx r.kids 0) (fun x294=>bd3 (b_W d x294 b at_) fun r333 r334 r335=>some r334)=some (((at_+(L_ d.rules<|B_ r).size.toNat:Nat)):Int):=by
  intro h57
  have hlim:0<lim d.rules (B_ r)∧0<r.kids.length:=by
   rcases h57 with h | h
   ·have:=c_T hr.kind h;exact ⟨this.1,by omega⟩
   ·have:=d_i hr.kind h;exact ⟨this.1,by omega⟩
  have hq:=b_F hlim.1
  rw [b_s hlim.2,bd_some,f_j hq.1 hq.2 (by omega) ha]
  cases hi:a_6 b (L_ d.rules<|B_ r) at_ with
  | some n=>rfl
  | none =>
   exfalso
   unfold rdB W_ at hok
   rcases h57 with h | h <;> rw [h,hi] at hok <;> cases hok
 by_cases h5:r.kind=5
 ·have:=main<|.inl h5
  rw [h5]
  simp only [bQ_,fT_,bd_some,Bool.true_or]
  rw [this];rfl
 by_cases h7:r.kind=7
 ·have:=main<|.inr h7
  rw [h7]
  simp only [show ((7:Int)==5)=false from rfl,bF_,fF_,bQ_,fT_,bd_some,Bool.false_or]
  rw [this];rfl
 rw [show (r.kind==5)=false by simpa using h5,show (r.kind==7)=false by simpa using h7]
 by_cases h8:r.kind=8
 ·rw [h8]
  simp only [bF_,fF_,bd_some,bQ_,fT_,Bool.or_self]
  rw [ia_ (by omega) (by omega)];rfl
 ·rw [show (r.kind==8)=false by simpa using h8]
  rfl
theorem p_h (hv:a_1 d=true) (hb:b.length≤400) {i:Nat} (hi:i<d.rules.length) {at_:Nat} (ha:at_≤b.length) :
  (bd (α:=Bool) (if (d.rules[i].kind==5)=true then some (d.rules[i].kind==5) else some (d.rules[i].kind==7)) (fun x181=>bd (α:=Int) (if x181=true then bd (idx d.rules[i].kids 0) fun x275=>bd (idx d.rules x275) fun x291=>some (i_ (at_:Int) x291.size) else bd (α:=Int) (if (d.rules[i].kind==8)=true then some (i_ (at_:Int) 1) else some (at_:Int)) (fun x327=>some x327)) some))=some ((a_4 d.rules d.rules[i] at_:Nat):Int):=by
 have hr:=a_P hv hi;generalize d.rules[i]=r at *
 unfold a_4
 have main:r.kind=5∨r.kind=7→bd (idx r.kids 0) (fun x275=>bd (idx d.rules x275) fun x291=>some<|i_ (at_:Int) x291.size)=some (((at_+(L_ d.rules<|B_ r).size.toNat:Nat)):Int):=by
  intro h57
  have hlim:0<lim d.rules (B_ r)∧0<r.kids.length:=by
   rcases h57 with h | h
   ·have:=c_T hr.kind h;exact ⟨this.1,by omega⟩
   ·have:=d_i hr.kind h;exact ⟨this.1,by omega⟩
  have hq:=b_F hlim.1;obtain ⟨_,h1,h4⟩:=hq.2
  rw [b_s hlim.2,bd_some,hq.1,bd_some,ia_ (by omega) (by omega)]
  congr 1
  omega
 by_cases h5:r.kind=5
 ·have:=main<|.inl h5
  rw [h5]
  simp only [bQ_,fT_,bd_some,Bool.true_or]
  rw [this];rfl
 by_cases h7:r.kind=7
 ·have:=main<|.inr h7
  rw [h7]
  simp only [show ((7:Int)==5)=false from rfl,bF_,fF_,bQ_,fT_,bd_some,Bool.false_or]
  rw [this];rfl
 rw [show (r.kind==5)=false by simpa using h5,show (r.kind==7)=false by simpa using h7]
 by_cases h8:r.kind=8
 ·rw [h8]
  simp only [bF_,fF_,bd_some,bQ_,fT_,Bool.or_self]
  rw [ia_ (by omega) (by omega)];rfl
 ·rw [show (r.kind==8)=false by simpa using h8]
  rfl
end
end Go.Vw
