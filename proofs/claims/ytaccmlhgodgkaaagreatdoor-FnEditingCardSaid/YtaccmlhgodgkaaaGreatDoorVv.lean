
import Derived.Test.YtaccmlhgodgkaaaGreatDoorVn
namespace Go.Vw
open Go.RowKit Dat
section
variable {d:e_}{b1 b2:Bt}
theorem r_C (hv:X_ d=true){b:Bt}(hb:b.length<=400){i:Nat}(hi:i<d.rules.length){p:Nat}(hp:p<=b.length)(hok:(rdW d.rules b i p).2.2=0):vsz i (rdW d.rules b i p).1<=20000:=by
 have hsz:=n_2 (b:=b) hv i hi p hp;have hle:=c_y (b:=b) hv i hi p hp;have hlen:=(b_W hv).2;exact Nat.le_trans (hsz.2 hok) (Nat.le_trans (Nat.mul_le_mul (show 2 * i+1<=49 by omega) (show (rdW d.rules b i p).2.1 - p<=400 by omega)) (by decide))
end
end Go.Vw
