
import Derived.Test.YtnncfaaebnkcbaaGreatDoorVwP8
namespace Go.Vw
open Go.RowKit Dat
theorem q_I (x:Nat):mkB (i_ 48 ((x % 10:Nat):Int))=UInt8.ofNat (48+x % 10):=by
 have:x % 10=0∨x % 10=1∨x % 10=2∨x % 10=3∨x % 10=4∨x % 10=5∨x % 10=6∨x % 10=7∨x % 10=8∨x % 10=9:=by omega
 rcases this with h | h | h | h | h | h | h | h | h | h <;> rw [h] <;> decide
theorem k_7:∀(k x:Nat),x<10 ^ k->0<x->x<=4611686018427387904->∀(s:Str)(n:Nat),k+1<=n->s.b.length+k<=1000 ->
  H_ (σ:=Str×Int) (ρ:=Str) (un2 fun H G=>if (G != 0)=true then bd (α:=Int) (if (decide<|(a_R G 10)<0)=true then some (f_s<|a_R G 10) else some (a_R G 10)) (fun J=>bd (cat (⟨[mkB (i_ 48 J)]⟩:Str) H) fun L=>some<|.next (L,c_B G 10)) else some (.brk (H,G))) n (s,(x:Int))=some (.inl (⟨Lib.decDigits x++s.b⟩,0))
 | 0,x,h,O,_,_,_,_,_=>by simp at h;omega
 | k+1,x,h,O,hb,s,n,hn,hs=>by
  obtain ⟨m,rfl⟩:∃m,n=m+1:=⟨n - 1,by omega⟩;unfold H_
  simp only [un2]
  rw [show ((x:Int) != 0)=true by simp;omega,i_y (by omega),m_Q (by omega) (by omega) (by omega),dF_ (show ¬(x:Int) % 10<0 by omega)]
  simp only [fT_,bF_,fF_,bd_some]
  rw [show (x:Int) % 10=((x % 10:Nat):Int) by omega,q_I,k_9 (by rw [a_k];simp;omega),bd_some,show (x:Int) / 10=((x / 10:Nat):Int) by omega]
  simp only
  by_cases I:x<10
  ·rw [show x / 10=0 by omega,show x % 10=x by omega]
   obtain ⟨m',rfl⟩:∃m',m=m'+1:=⟨m - 1,by omega⟩
   rw [Lib.decDigits,dif_pos I]
   rfl
  ·rw [k_7 k (x / 10) (by rw [Nat.pow_succ] at h;omega) (by omega) (by omega) _ m (by omega) (by simp;omega)]
   rw [Lib.decDigits.eq_1 x,dif_neg I]
   simp
theorem q_J {n:Nat}(hn:30<=n)(i:Nat)(hi:i<=1000000000):c_R n i=some ⟨Lib.itoa i⟩:=by
 unfold c_R Lib.itoa
 rw [iN_ (show ¬(i:Int)<0 by omega)]
 by_cases G:i=0
 ·subst G
  rw [show ((((0:Nat):Int)).toNat)=0 from rfl,Lib.decDigits,dif_pos (by omega)]
  rfl
 ·rw [show ((i:Int)==0)=false by simp;omega]
  simp only [bF_,fF_]
  rw [k_7 20 i (by omega) (by omega) (by omega) ⟨[]⟩ n (by omega) (by simp),dF_ (show ¬(i:Int)<0 by omega)]
  simp
def a_s (r:b_)(i:Nat):Str :=
 if r.kind==5 then ⟨Lib.itoa i⟩
 else if r.kind==6 && decide (i<r.names.length) then r.names.getD i ⟨[]⟩
 else if r.kind==7 && i==0 then ⟨[42]⟩
 else if r.kind==8 && i==0 then ⟨[63]⟩
 else if r.kind==9 && i==0 then ⟨[43]⟩
 else ⟨[]⟩
theorem q_K {n:Nat}(hn:30<=n)(r:b_)(i:Nat)(hi:i<=1000000000):e_h n r i=some (a_s r i):=by
 unfold e_h a_s
 rw [q_J hn i hi]
 rw [j_B]
 cases (r.kind==5)
 ·cases (r.kind==6)
  ·cases (r.kind==7) <;> cases (r.kind==8) <;> cases (r.kind==9) <;> cases (i==0) <;> rfl
  ·by_cases h:i<r.names.length
   ·rw [dT_ h,dT_ (show (i:Int)<(r.names.length:Int) by omega),ix_ h,a_7 h];rfl
   ·rw [dF_ h,dF_ (show ¬(i:Int)<(r.names.length:Int) by omega)]
    cases (r.kind==7) <;> cases (r.kind==8) <;> cases (r.kind==9) <;> cases (i==0) <;> rfl
 ·rfl
theorem m_M {d:f_}(hv:a_5 d=true)(hd:SmD d){n:Nat}(hn:30<=n){k:Nat}(hk:k<d.rules.length)(i:Nat):h_G n d k i=some (a_s d.rules[k] i):=by
 unfold h_G a_s i_Z j_r
 rw [f_w n (by omega) d hd,hv,ix_ hk]
 have H:a_Y d (k:Int)=true:=by unfold a_Y;rw [dT_ (by omega),dT_ (by omega)];rfl
 rw [H,dF_ (show ¬(i:Int)<0 by omega)]
 simp only [Bool.and_self,nT_,bd_some,bF_,fF_]
 generalize d.rules[k]=r
 by_cases h5:r.kind=5
 ·rw [h5];rfl
 rw [show (r.kind==5)=false by simpa using h5]
 by_cases h6:r.kind=6
 ·rw [h6]
  by_cases h:i<r.names.length
  ·rw [dT_ h,dT_ (show (i:Int)<(r.names.length:Int) by omega),ix_ h,a_7 h];rfl
  ·rw [dF_ h,dF_ (show ¬(i:Int)<(r.names.length:Int) by omega)]
   cases decide (0<(i:Int)) <;> rfl
 rw [show (r.kind==6)=false by simpa using h6]
 by_cases G:i=0
 ·subst G
  cases (r.kind==7) <;> cases (r.kind==8) <;> cases (r.kind==9) <;> rfl
 ·rw [dT_ (show 0<(i:Int) by omega),show (i==0)=false by simpa using G]
  cases (r.kind==7) <;> cases (r.kind==8) <;> cases (r.kind==9) <;> rfl
section
variable {d:f_}{b:List UInt8}
end
end Go.Vw
