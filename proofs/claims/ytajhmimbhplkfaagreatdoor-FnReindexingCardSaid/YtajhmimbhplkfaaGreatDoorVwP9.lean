
import Derived.Test.YtajhmimbhplkfaaGreatDoorVwP8
set_option linter.unusedVariables false
namespace Go.Vw
open Go.RowKit Dat
theorem o_E (x:Nat):mkB (j_ 48 ((x % 10:Nat):Int))=UInt8.ofNat (48+x % 10):=by
 have:x % 10=0∨x % 10=1∨x % 10=2∨x % 10=3∨x % 10=4∨x % 10=5∨x % 10=6∨x % 10=7∨x % 10=8∨x % 10=9:=by omega
 rcases this with h | h | h | h | h | h | h | h | h | h <;> rw [h] <;> decide
theorem l_7 : ∀ (k x:Nat),x<10 ^ k→0<x→x≤4611686018427387904 → ∀ (s:Str) (n:Nat),k+1≤n→s.b.length+k≤1000 →
  a_f (σ:=Str×Int) (ρ:=Str) (un2 fun x64 x66=>if (x66 != 0)=true then bd (α:=Int) (if (decide<|(a_W x66 10)<0)=true then some (e_b<|a_W x66 10) else some (a_W x66 10)) (fun x102=>bd (cat (⟨[mkB (j_ 48 x102)]⟩:Str) x64) fun x119=>some<|.next (x119,b_F x66 10)) else some (.brk (x64,x66))) n (s,(x:Int))=some (.inl (⟨Lib.decDigits x++s.b⟩,0))
 | 0,x,h,h0,_,_,_,_,_=>by simp at h;omega
 | k+1,x,h,h0,hb,s,n,hn,hs=>by
  obtain ⟨m,rfl⟩ : ∃ m,n=m+1:=⟨n - 1,by omega⟩;unfold a_f
  simp only [un2]
  rw [show ((x:Int) != 0)=true by simp;omega,h_a (by omega),l_c (by omega) (by omega) (by omega),dF_ (show ¬ (x:Int) % 10<0 by omega)]
  simp only [fT_,bF_,fF_,bd_some]
  rw [show (x:Int) % 10=((x % 10:Nat):Int) by omega,o_E,d_L (by rw [a_B];simp;omega),bd_some,show (x:Int) / 10=((x / 10:Nat):Int) by omega]
  simp only
  by_cases h10:x<10
  ·rw [show x / 10=0 by omega,show x % 10=x by omega]
   obtain ⟨m',rfl⟩ : ∃ m',m=m'+1:=⟨m - 1,by omega⟩
   rw [Lib.decDigits,dif_pos h10]
   rfl
  ·rw [l_7 k (x / 10) (by rw [Nat.pow_succ] at h;omega) (by omega) (by omega) _ m (by omega) (by simp;omega)]
   rw [Lib.decDigits.eq_1 x,dif_neg h10]
   simp
theorem j_g {n:Nat} (hn:30≤n) (i:Nat) (hi:i≤1000000000):c_O n i=some ⟨Lib.itoa i⟩:=by
 unfold c_O Lib.itoa
 rw [iN_ (show ¬ (i:Int)<0 by omega)]
 by_cases h0:i=0
 ·subst h0
  rw [show ((((0:Nat):Int)).toNat)=0 from rfl,Lib.decDigits,dif_pos (by omega)]
  rfl
 ·rw [show ((i:Int)==0)=false by simp;omega]
  simp only [bF_,fF_]
  rw [l_7 20 i (by omega) (by omega) (by omega) ⟨[]⟩ n (by omega) (by simp),dF_ (show ¬ (i:Int)<0 by omega)]
  simp
theorem j_h (i:Nat) (hi:i≤1000000000):(Lib.itoa i).length≤21:=Lib.itoa_length_le i (by omega) (by omega)
def c_y (r:g_) (i:Nat):Str :=
 if r.kind==5 then ⟨Lib.itoa i⟩
 else if r.kind==6 && decide (i<r.names.length) then r.names.getD i ⟨[]⟩
 else if r.kind==7 && i==0 then ⟨[42]⟩
 else if r.kind==8 && i==0 then ⟨[63]⟩
 else if r.kind==9 && i==0 then ⟨[43]⟩
 else ⟨[]⟩
theorem o_F {n:Nat} (hn:30≤n) (r:g_) (i:Nat) (hi:i≤1000000000):e_q n r i=some (c_y r i):=by
 unfold e_q c_y
 rw [j_g hn i hi]
 rw [i_U]
 cases (r.kind==5)
 ·cases (r.kind==6)
  ·cases (r.kind==7) <;> cases (r.kind==8) <;> cases (r.kind==9) <;> cases (i==0) <;> rfl
  ·by_cases h:i<r.names.length
   ·rw [dT_ h,dT_ (show (i:Int)<(r.names.length:Int) by omega),ix_ h,a_v h];rfl
   ·rw [dF_ h,dF_ (show ¬ (i:Int)<(r.names.length:Int) by omega)]
    cases (r.kind==7) <;> cases (r.kind==8) <;> cases (r.kind==9) <;> cases (i==0) <;> rfl
 ·rfl
theorem o_G {d:d_} (hv:a_6 d=true) (hd:SmD d) {n:Nat} (hn:30≤n) {k:Nat} (hk:k<d.rules.length) (i:Nat):d_U n d k i=some (c_y d.rules[k] i):=by
 unfold d_U c_y h_m i_6
 rw [i_X n (by omega) d hd,hv,ix_ hk]
 have e1:b_3 d (k:Int)=true:=by unfold b_3;rw [dT_ (by omega),dT_ (by omega)];rfl
 rw [e1,dF_ (show ¬ (i:Int)<0 by omega)]
 simp only [Bool.and_self,nT_,bd_some,bF_,fF_]
 generalize d.rules[k]=r
 by_cases h5:r.kind=5
 ·rw [h5];rfl
 rw [show (r.kind==5)=false by simpa using h5]
 by_cases h6:r.kind=6
 ·rw [h6]
  by_cases h:i<r.names.length
  ·rw [dT_ h,dT_ (show (i:Int)<(r.names.length:Int) by omega),ix_ h,a_v h];rfl
  ·rw [dF_ h,dF_ (show ¬ (i:Int)<(r.names.length:Int) by omega)]
   cases decide (0<(i:Int)) <;> rfl
 rw [show (r.kind==6)=false by simpa using h6]
 by_cases h0:i=0
 ·subst h0
  cases (r.kind==7) <;> cases (r.kind==8) <;> cases (r.kind==9) <;> rfl
 ·rw [dT_ (show 0<(i:Int) by omega),show (i==0)=false by simpa using h0]
  cases (r.kind==7) <;> cases (r.kind==8) <;> cases (r.kind==9) <;> rfl
theorem o_H {s:Str} (h:b_l s=true):s.b.length≤12:=by
 unfold b_l at h
 simp only [aE_,dE_] at h
 exact h.2.2
theorem j_i {rs:List g_} {r:g_} (h:a_q rs r=true) (i:Nat) (hi:i≤1000000000):(c_y r i).b.length≤21:=by
 unfold c_y
 split
 ·exact j_h i hi
 split
 ·rename_i h6
  simp only [aE_,beq_iff_eq,dE_] at h6
  rw [a_v h6.2]
  have:=o_H<|(e_g h h6.1).2.2.2 _ (gE_ h6.2)
  omega
 split
 ·simp
 split
 ·simp
 split <;> simp
def b_S (r:g_) (path:Str) (i:Nat):Str:=⟨path.b++[47]++(c_y r i).b⟩
def ixL (f:Int→Nat→Str→List e_) (e:Int→Nat→Nat) (r:g_) (path:Str):List Int→Nat→Nat→List e_
 | [],_,_=>[]
 | k::ks,i,pos=>f k pos (b_S r path i)++ixL f e r path ks (i+1) (e k pos)
def ixW (rs:List g_) (b:List UInt8) (rule:Nat) (at_:Nat) (path:Str):List e_ :=
 (⟨path,(rule:Int),(at_:Int),((rdW rs b rule at_).2.1:Int)⟩:e_)::ixL (fun k p q=>if _h:k.toNat<rule then ixW rs b k.toNat p q else []) (fun k p=>(rdW rs b k.toNat p).2.1) (rs.getD rule default) path ((List.range (rdW rs b rule at_).1.items.length).map (Y_ (rs.getD rule default) (rdW rs b rule at_).1.number)) 0 (a_l rs (rs.getD rule default) at_)
termination_by rule
theorem l_8 {f f':Int→Nat→Str→List e_} {e:Int→Nat→Nat} {r:g_} {path:Str} : ∀ (ks:List Int) (i pos:Nat),(∀ k∈ks,∀ p q,f k p q=f' k p q)→ixL f e r path ks i pos=ixL f' e r path ks i pos
 | [],_,_,_=>rfl
 | k::ks,i,pos,h=>by
  unfold ixL
  rw [h k mS_,l_8 ks _ _<|fun k hk=>h k<|mT_ _ hk]
section
variable {d:d_} {b:List UInt8}
theorem f_f (hv:a_6 d=true) {i:Nat} (hi:i<d.rules.length) {at_:Nat} {ks:List Int} {e:Nat} (h:RdOk d b d.rules[i] at_ (rdW d.rules b i at_) ks e) (path:Str) :
  ixW d.rules b i at_ path=(⟨path,(i:Int),(at_:Int),((rdW d.rules b i at_).2.1:Int)⟩:e_)::ixL (fun k p q=>ixW d.rules b k.toNat p q) (fun k p=>(rdW d.rules b k.toNat p).2.1) d.rules[i] path ks 0 (a_l d.rules d.rules[i] at_):=by
 rw [ixW]
 have e1:d.rules.getD i default=d.rules[i]:=by simp [hi]
 rw [e1]
 have hl:=h_8 h.ch
 have e2:(List.range (rdW d.rules b i at_).1.items.length).map (Y_ d.rules[i] (rdW d.rules b i at_).1.number)=ks:=by
  apply List.ext_getElem
  ·simp [hl]
  ·intro j h1 h2
   rw [List.getElem_map,List.getElem_range]
   exact h.item j h2
 rw [e2]
 congr 1
 refine l_8 ks _ _<|fun k hk p q=>?_;have:=(b_m hv hi).kids k (h.kids k hk)
 rw [dif_pos (by omega)]
theorem l_9 (i:Nat) (f:Int→Nat→Str→List e_) (r:g_) (path:Str) : ∀ (ks:List Int) (j pos:Nat) (vs:List Val) (e:Nat),(∀ k∈ks,∀ p,p≤b.length→p≤(rdW d.rules b k.toNat p).2.1∧(rdW d.rules b k.toNat p).2.1≤b.length)→(∀ k∈ks,∀ p q,p≤b.length→(rdW d.rules b k.toNat p).2.2=0→(f k p q).length≤i * ((rdW d.rules b k.toNat p).2.1 - p)) →
  c_N (fun k p=>rdW d.rules b k.toNat p) b.length ks pos vs e→(ixL f (fun k p=>(rdW d.rules b k.toNat p).2.1) r path ks j pos).length≤i * (e - pos)∧pos≤e
 | [],_,_,_,_,_,_,h=>by rw [h.2];simp [ixL]
 | k::ks,j,pos,vs,e,hle,hf,h=>by
  obtain ⟨hp,h0,ws,_,hrest⟩:=h;have h1:=hle k mS_ pos hp;have h2:=hf k mS_ pos (b_S r path j) hp h0;have h3:=l_9 i f r path ks (j+1) _ ws e (fun k hk=>hle k<|mT_ _ hk) (fun k hk=>hf k<|mT_ _ hk) hrest
  simp only at h3 h0
  unfold ixL
  rw [List.length_append]
  refine ⟨?_,by omega⟩
  have h4:i * ((rdW d.rules b k.toNat pos).2.1 - pos)+i * (e - (rdW d.rules b k.toNat pos).2.1)=i * (e - pos):=by
   rw [← Nat.mul_add];congr 1;omega
  omega
theorem o_I (hv:a_6 d=true) : ∀ (i:Nat),i<d.rules.length → ∀ at_ path,at_≤b.length→(rdW d.rules b i at_).2.2=0→(ixW d.rules b i at_ path).length≤(i+1) * ((rdW d.rules b i at_).2.1 - at_):=by
 intro i
 induction i using Nat.strongRecOn with
 | _ i ih =>
  intro hi at_ path ha hok;obtain ⟨ks,e,h⟩:=d_J hv hi ha hok;have hlt:=rdW_lt hv i hi at_ ha hok
  rw [f_f hv hi h path]
  have hkk : ∀ k∈ks,0≤k∧k<(i:Int):=fun k hk=>(b_m hv hi).kids k (h.kids k hk)
  have hL:=l_9 (d:=d) (b:=b) i (fun k p q=>ixW d.rules b k.toNat p q) d.rules[i] path ks 0 _ _ e (fun k hk p hp=>by have:=hkk k hk;exact c_6 hv k.toNat (by omega) p hp) (fun k hk p q hp h0=>by
   have hk2:=hkk k hk;have h1:=ih k.toNat (by omega) (by omega) p q hp h0
   exact Nat.le_trans h1 (Nat.mul_le_mul_right _ (by omega))) h.ch
  rw [lC_]
  have hst:=h.st;have hse:=h.se;have hle:=h.le;have h5:i * (e - a_l d.rules d.rules[i] at_)≤i * ((rdW d.rules b i at_).2.1 - at_):=Nat.mul_le_mul_left _ (by omega)
  rw [Nat.succ_mul]
  omega
theorem j_j (hv:a_6 d=true) (hb:b.length≤400) {i:Nat} (hi:i<d.rules.length) {at_:Nat} (path:Str) (ha:at_≤b.length) (hok:(rdW d.rules b i at_).2.2=0):(ixW d.rules b i at_ path).length≤10000:=by
 have h1:=o_I hv i hi at_ path ha hok;have h2:=(c_5 hv).2;have h3:=(c_6 (b:=b) hv i hi at_ ha).2;have h4:(i+1) * ((rdW d.rules b i at_).2.1 - at_)≤24 * 400:=Nat.mul_le_mul (by omega) (by omega)
 omega
theorem l_a {r:g_} {path:Str} {j:Nat} (hk:a_q d.rules r=true) (hj:j≤1000000000):(b_S r path j).b.length≤path.b.length+22:=by
 have:=j_i hk j hj;unfold b_S
 simp only [List.length_append,lC_,List.length_nil]
 omega
theorem l_b (hv:a_6 d=true) (hb:b.length≤400) {i:Nat} (hi:i<d.rules.length) {at_:Nat} (ha:at_≤b.length) (hok:(rdW d.rules b i at_).2.2=0) :
  (bd (α:=Bool) (if (d.rules[i].kind==5)=true then some (d.rules[i].kind==5) else some (d.rules[i].kind==7)) (fun x194=>bd (α:=Int) (if x194=true then bd (idx d.rules[i].kids 0) fun x294=>bd3 (c_9 d x294 b at_) fun r333 r334 r335=>some r334 else bd (α:=Int) (if (d.rules[i].kind==8)=true then some (j_ (at_:Int) 1) else some (at_:Int)) (fun x347=>some x347)) some)=some ((a_l d.rules d.rules[i] at_:Nat):Int)):=by
 have hMX:=MXv;have hr:=b_m hv hi;obtain ⟨ks,e,h⟩:=d_J hv hi ha hok;have hst:=h.st
 rw [e_i hv hi ha] at hok
 generalize d.rules[i]=r at *
 unfold a_l at *
 have main:r.kind=5∨r.kind=7→bd (idx r.kids 0) (fun x294=>bd3 (c_9 d x294 b at_) fun r333 r334 r335=>some r334)=some (((at_+(N_ d.rules<|E_ r).size.toNat:Nat)):Int):=by
  intro h57
  have hlim:0<lim d.rules (E_ r)∧0<r.kids.length:=by
   rcases h57 with h | h
   ·have:=d_b hr.kind h;exact ⟨this.1,by omega⟩
   ·have:=d_H hr.kind h;exact ⟨this.1,by omega⟩
  have hq:=b_H hlim.1
  rw [b_s hlim.2,bd_some,h_1 hq.1 hq.2 (by omega) ha]
  cases hi:a_7 b (N_ d.rules<|E_ r) at_ with
  | some n=>rfl
  | none =>
   exfalso
   unfold rdB a_a at hok
   rcases h57 with h | h <;> rw [h,hi] at hok <;> cases hok
 by_cases h5:r.kind=5
 ·have:=main<|.inl h5
  rw [h5]
  simp only [bQ_,fT_,bd_some,Bool.true_or]
  rw [this];rfl
 by_cases h7:r.kind=7
 ·have:=main<|.inr h7
  rw [h7]
  simp only [show ((7:Int)==5)=false from rfl,bF_,fF_,bQ_,fT_,bd_some,Bool.false_or]
  rw [this];rfl
 rw [show (r.kind==5)=false by simpa using h5,show (r.kind==7)=false by simpa using h7]
 by_cases h8:r.kind=8
 ·rw [h8]
  simp only [bF_,fF_,bd_some,bQ_,fT_,Bool.or_self]
  rw [ia_ (by omega) (by omega)];rfl
 ·rw [show (r.kind==8)=false by simpa using h8]
  rfl
theorem o_J (hv:a_6 d=true) (hb:b.length≤400) {i:Nat} (hi:i<d.rules.length) {at_:Nat} (ha:at_≤b.length) :
  (bd (α:=Bool) (if (d.rules[i].kind==5)=true then some (d.rules[i].kind==5) else some (d.rules[i].kind==7)) (fun x181=>bd (α:=Int) (if x181=true then bd (idx d.rules[i].kids 0) fun x275=>bd (idx d.rules x275) fun x291=>some (j_ (at_:Int) x291.size) else bd (α:=Int) (if (d.rules[i].kind==8)=true then some (j_ (at_:Int) 1) else some (at_:Int)) (fun x327=>some x327)) some))=some ((a_l d.rules d.rules[i] at_:Nat):Int):=by
 have hr:=b_m hv hi;generalize d.rules[i]=r at *
 unfold a_l
 have main:r.kind=5∨r.kind=7→bd (idx r.kids 0) (fun x275=>bd (idx d.rules x275) fun x291=>some<|j_ (at_:Int) x291.size)=some (((at_+(N_ d.rules<|E_ r).size.toNat:Nat)):Int):=by
  intro h57
  have hlim:0<lim d.rules (E_ r)∧0<r.kids.length:=by
   rcases h57 with h | h
   ·have:=d_b hr.kind h;exact ⟨this.1,by omega⟩
   ·have:=d_H hr.kind h;exact ⟨this.1,by omega⟩
  have hq:=b_H hlim.1;obtain ⟨_,h1,h4⟩:=hq.2
  rw [b_s hlim.2,bd_some,hq.1,bd_some,ia_ (by omega) (by omega)]
  congr 1
  omega
 by_cases h5:r.kind=5
 ·have:=main<|.inl h5
  rw [h5]
  simp only [bQ_,fT_,bd_some,Bool.true_or]
  rw [this];rfl
 by_cases h7:r.kind=7
 ·have:=main<|.inr h7
  rw [h7]
  simp only [show ((7:Int)==5)=false from rfl,bF_,fF_,bQ_,fT_,bd_some,Bool.false_or]
  rw [this];rfl
 rw [show (r.kind==5)=false by simpa using h5,show (r.kind==7)=false by simpa using h7]
 by_cases h8:r.kind=8
 ·rw [h8]
  simp only [bF_,fF_,bd_some,bQ_,fT_,Bool.or_self]
  rw [ia_ (by omega) (by omega)];rfl
 ·rw [show (r.kind==8)=false by simpa using h8]
  rfl
end
end Go.Vw
