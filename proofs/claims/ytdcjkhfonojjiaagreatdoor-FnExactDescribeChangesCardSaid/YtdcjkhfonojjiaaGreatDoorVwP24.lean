
import Derived.Test.YtdcjkhfonojjiaaGreatDoorVwP17
import Derived.Test.YtdcjkhfonojjiaaGreatDoorVwP19
namespace Go.Vw
open Go.RowKit Dat
variable {d:d_}{b:List UInt8}
theorem piece_len' (b:List UInt8)(p n:Nat):(a_2 b p<|p+n).length<=n:=by unfold a_2;simp;omega
theorem m_a (p:Nat)(n:Int):(a_r b p n).1.bytes.length+p<=(a_r b p n).2.1:=by
 unfold a_r
 split
 ·show 0+p<=p;omega
 ·have:=piece_len' b p n.toNat
  show (a_2 b p<|p+n.toNat).length+p<=p+n.toNat
  omega
section
variable {b':List UInt8}{e:Nat}
end
end Go.Vw
