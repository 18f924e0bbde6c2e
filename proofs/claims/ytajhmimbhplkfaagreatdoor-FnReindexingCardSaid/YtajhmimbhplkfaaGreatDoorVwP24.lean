
import Derived.Test.YtajhmimbhplkfaaGreatDoorVwP17
set_option linter.unusedVariables false
namespace Go.Vw
open Go.RowKit Dat
variable {d:d_} {b:List UInt8}
def c_4 (b:List UInt8) (at_ rm:Int) (ins:List UInt8):List UInt8×Bool :=
 if 0≤at_∧0≤rm∧at_+rm≤b.length then (b.take at_.toNat++ins++b.drop (at_+rm).toNat,true) else (b,false)
theorem j_3 {l:List UInt8} {a c:Int} (h1:0≤a) (h2:a≤c) (h3:c≤l.length):slc l a c=some ((l.take c.toNat).drop a.toNat):=by
 unfold slc;rw [iP_ ⟨h1,h2,h3⟩]
theorem f_5 {l m:List UInt8} (h:l.length+m.length≤LIM):app l m=some (l++m):=by
 unfold app;rw [iP_ h]
theorem n_U (b:List UInt8) (at_ rm:Int) (ins:List UInt8):(c_4 b at_ rm ins).1.length≤b.length+ins.length:=by
 unfold c_4
 split
 ·simp;omega
 ·simp
theorem k_F {at_ rm:Int} {ins:List UInt8} (hb:b.length≤MX) (hi:ins.length≤MX) (h:0≤at_∧0≤rm∧at_+rm≤b.length) :
  j_ at_ rm=at_+rm∧slc b 0 at_=some (b.take at_.toNat)∧slc b (at_+rm) (b.length:Int)=some (b.drop (at_+rm).toNat)∧app ([]:List UInt8) (b.take at_.toNat)=some (b.take at_.toNat)∧app (b.take at_.toNat) ins=some (b.take at_.toNat++ins)∧app (b.take at_.toNat++ins) (b.drop (at_+rm).toNat)=some (b.take at_.toNat++ins++b.drop (at_+rm).toNat):=by
 have:=MXv;have:=a_B;refine ⟨ia_ (by omega) (by omega),?_,?_,?_,?_,?_⟩
 ·rw [j_3 (by omega) (by omega) (by omega)];simp
 ·rw [j_3 (by omega) (by omega) (by omega)];simp
 ·rw [f_5 (by simp;omega)];simp
 ·rw [f_5 (by simp;omega)]
 ·rw [f_5 (by simp;omega)]
theorem n_V {at_ rm:Int} {ins:List UInt8} (hb:b.length≤MX) (hi:ins.length≤MX):f_I b at_ rm ins=some (c_4 b at_ rm ins):=by
 have:=MXv;have:=a_B;unfold f_I c_4;have hbad:app ([]:List UInt8) b=some b:=by rw [f_5 (by simp;omega)];simp
 by_cases h1:at_<0
 ·rw [dT_ h1,iN_ (show ¬ (0≤at_∧0≤rm∧at_+rm≤b.length) by omega),hbad];rfl
 by_cases h2:rm<0
 ·rw [dF_ h1,dT_ h2,iN_ (show ¬ (0≤at_∧0≤rm∧at_+rm≤b.length) by omega),hbad];rfl
 by_cases h3:(b.length:Int)<rm
 ·rw [dF_ h1,dF_ h2,dT_ h3,iN_ (show ¬ (0≤at_∧0≤rm∧at_+rm≤b.length) by omega),hbad];rfl
 rw [dF_ h1,dF_ h2,dF_ h3,a_C (by omega) (by omega)]
 by_cases h4:(b.length:Int) - rm<at_
 ·rw [dT_ h4,iN_ (show ¬ (0≤at_∧0≤rm∧at_+rm≤b.length) by omega),hbad];rfl
 ·have h:=show 0≤at_∧0≤rm∧at_+rm≤b.length by omega
  obtain ⟨e1,e2,e3,e4,e5,e6⟩:=k_F hb hi h
  rw [dF_ h4,iP_ h,e1,e2,e3]
  simp only [bF_,fF_,bd_some,e4,e5,e6]
theorem n_W {at_ rm:Int} {ins:List UInt8} (hb:b.length≤MX) (hi:ins.length≤MX):f_Y b at_ rm ins=some (c_4 b at_ rm ins):=by
 have:=MXv;have:=a_B;unfold f_Y c_4;have hbad:app ([]:List UInt8) b=some b:=by rw [f_5 (by simp;omega)];simp
 by_cases h1:at_<0
 ·rw [dT_ h1,iN_ (show ¬ (0≤at_∧0≤rm∧at_+rm≤b.length) by omega),hbad];rfl
 by_cases h2:rm<0
 ·rw [dF_ h1,dT_ h2,iN_ (show ¬ (0≤at_∧0≤rm∧at_+rm≤b.length) by omega),hbad];rfl
 by_cases h3:(b.length:Int)<at_
 ·rw [dF_ h1,dF_ h2,dT_ h3,iN_ (show ¬ (0≤at_∧0≤rm∧at_+rm≤b.length) by omega),hbad];rfl
 rw [dF_ h1,dF_ h2,dF_ h3,a_C (by omega) (by omega)]
 by_cases h4:(b.length:Int) - at_<rm
 ·rw [dT_ h4,iN_ (show ¬ (0≤at_∧0≤rm∧at_+rm≤b.length) by omega),hbad];rfl
 ·have h:=show 0≤at_∧0≤rm∧at_+rm≤b.length by omega
  obtain ⟨e1,e2,e3,e4,e5,e6⟩:=k_F hb hi h
  rw [dF_ h4,iP_ h,e1,e2,e3]
  simp only [bF_,fF_,bd_some,e4,e5,e6]
section
variable {b':List UInt8} {e:Nat}
end
end Go.Vw
