
import Derived.Test.YthlifogbkgdggaaGreatDoorVwP16
namespace Go.Vw
open Go.RowKit Dat
section
variable {d:d_}{b:List UInt8}
theorem m_s (hv:a_9 d=true)(hb:b.length<=400){i p:Nat}(hi:i<d.rules.length)(hp:p<=b.length):a_Y d i b p=b_v (rdW d.rules b i p):=by
 unfold a_Y
 rw [iP_]
 ·simp
 ·unfold okV b_a
  rw [hv,dT_ (show (0:Int)<=(i:Int) by omega),dT_ (show (i:Int)<(d.rules.length:Int) by omega),dT_ (show (0:Int)<=(p:Int) by omega),dT_ (show (p:Int)<=(b.length:Int) by omega),dT_ (show (b.length:Int)<=400 by omega)]
  rfl
end
section
variable {d:d_}{b:List UInt8}
end
end Go.Vw
