
import Derived.Test.YtgieiijmhcgmcaaGreatDoorVwP8
namespace Go.Vw
open Go.RowKit Dat
theorem l_u (i:Nat)(hi:i<=1000000000):(Lib.itoa i).length<=21:=Lib.itoa_length_le i (by omega) (by omega)
def R_ (r:a_)(i:Nat):Str :=
 if r.kind==5 then ⟨Lib.itoa i⟩
 else if r.kind==6 && decide (i<r.names.length) then r.names.getD i ⟨[]⟩
 else if r.kind==7 && i==0 then ⟨[42]⟩
 else if r.kind==8 && i==0 then ⟨[63]⟩
 else if r.kind==9 && i==0 then ⟨[43]⟩
 else ⟨[]⟩
theorem l_v {d:g_}(hv:P_ d=true)(hd:SmD d){n:Nat}(hn:30<=n){k:Nat}(hk:k<d.rules.length)(i:Nat):d_w n d k i=some (R_ d.rules[k] i):=by
 unfold d_w R_ h_z i_9
 rw [j_1 n (by omega) d hd,hv,ix_ hk]
 have H:b_5 d (k:Int)=true:=by unfold b_5;rw [dT_ (by omega),dT_ (by omega)];rfl
 rw [H,dF_ (show ¬(i:Int)<0 by omega)]
 simp only [Bool.and_self,nT_,bd_some,bF_,fF_]
 generalize d.rules[k]=r
 by_cases h5:r.kind=5
 ·rw [h5];rfl
 rw [show (r.kind==5)=false by simpa using h5]
 by_cases h6:r.kind=6
 ·rw [h6]
  by_cases h:i<r.names.length
  ·rw [dT_ h,dT_ (show (i:Int)<(r.names.length:Int) by omega),ix_ h,a_2 h];rfl
  ·rw [dF_ h,dF_ (show ¬(i:Int)<(r.names.length:Int) by omega)]
   cases decide (0<(i:Int)) <;> rfl
 rw [show (r.kind==6)=false by simpa using h6]
 by_cases G:i=0
 ·subst G
  cases (r.kind==7) <;> cases (r.kind==8) <;> cases (r.kind==9) <;> rfl
 ·rw [dT_ (show 0<(i:Int) by omega),show (i==0)=false by simpa using G]
  cases (r.kind==7) <;> cases (r.kind==8) <;> cases (r.kind==9) <;> rfl
theorem l_w {s:Str}(h:a_J s=true):s.b.length<=12:=by
 unfold a_J at h
 simp only [aE_,dE_] at h
 exact h.2.2
theorem l_x {rs:List a_}{r:a_}(h:a_d rs r=true)(i:Nat)(hi:i<=1000000000):(R_ r i).b.length<=21:=by
 unfold R_
 split
 ·exact l_u i hi
 split
 ·rename_i h6
  simp only [aE_,beq_iff_eq,dE_] at h6
  rw [a_2 h6.2]
  have:=l_w<|(d_O h h6.1).2.2.2 _ (gE_ h6.2)
  omega
 split
 ·simp
 split
 ·simp
 split <;> simp
section
variable {d:g_}{b:List UInt8}
end
end Go.Vw
