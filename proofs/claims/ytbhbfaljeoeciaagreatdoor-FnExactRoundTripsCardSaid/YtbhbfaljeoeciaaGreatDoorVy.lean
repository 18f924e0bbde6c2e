
import Derived.Test.YtbhbfaljeoeciaaGreatDoorVx
namespace Go.Vw
open Go.RowKit Dat
section
variable {d:c_}{b1 b2:List UInt8}
theorem q_x (hv:a_7 d=true){b:List UInt8}(hb:b.length<=400){i:Nat}(hi:i<d.rules.length){p:Nat}(hp:p<=b.length)(hok:(rdW d.rules b i p).2.2=0):vsz i (rdW d.rules b i p).1<=20000:=by
 have hsz:=m_x (b:=b) hv i hi p hp;have hle:=c_N (b:=b) hv i hi p hp;have hlen:=(c_h hv).2;exact Nat.le_trans (hsz.2 hok) (Nat.le_trans (Nat.mul_le_mul (show 2 * i+1<=49 by omega) (show (rdW d.rules b i p).2.1 - p<=400 by omega)) (by decide))
end
end Go.Vw
