
import Derived.Test.YtbhbfaljeoeciaaGreatDoorV8
namespace Go.Vw
open Go.RowKit Dat
variable {d:c_}{b:List UInt8}
theorem piece_len' (b:List UInt8)(p n:Nat):(a_U b p<|p+n).length<=n:=by unfold a_U;simp;omega
theorem m_z (p:Nat)(n:Int):(a_E b p n).1.bytes.length+p<=(a_E b p n).2.1:=by
 unfold a_E
 split
 ·show 0+p<=p;omega
 ·have:=piece_len' b p n.toNat
  show (a_U b p<|p+n.toNat).length+p<=p+n.toNat
  omega
section
variable {b':List UInt8}{e:Nat}
end
end Go.Vw
