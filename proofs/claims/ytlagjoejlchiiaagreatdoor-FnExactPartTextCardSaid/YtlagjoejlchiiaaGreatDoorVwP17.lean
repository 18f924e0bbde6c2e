
import Derived.Test.YtlagjoejlchiiaaGreatDoorVwP16
namespace Go.Vw
open Go.RowKit Dat
section
variable {d:d_}{b:List UInt8}
theorem l_1 (hv:N_ d=true)(hb:b.length<=400){i p:Nat}(hi:i<d.rules.length)(hp:p<=b.length):e_3 d i b p=b_S (rdW d.rules b i p):=by
 unfold e_3
 rw [iP_]
 ·simp
 ·unfold okV b_n
  rw [hv,dT_ (show (0:Int)<=(i:Int) by omega),dT_ (show (i:Int)<(d.rules.length:Int) by omega),dT_ (show (0:Int)<=(p:Int) by omega),dT_ (show (p:Int)<=(b.length:Int) by omega),dT_ (show (b.length:Int)<=400 by omega)]
  rfl
end
theorem o_y {x:Nat}(h:x<4294967296):(Lib.itoa x).length<=20:=by
 have:=j_2 12 x (by omega)
 rw [d_r];omega
section
variable {d:d_}{b:List UInt8}
end
end Go.Vw
