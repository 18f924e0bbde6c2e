
import Derived.Test.YtfjlanohfpolnaaGreatDoorVwP17
import Derived.Test.YtfjlanohfpolnaaGreatDoorVwP19
namespace Go.Vw
open Go.RowKit Dat
variable {d:e_}{b:List UInt8}
theorem piece_len' (b:List UInt8)(p n:Nat):(a_5 b p<|p+n).length<=n:=by unfold a_5;simp;omega
theorem m_S (p:Nat)(n:Int):(a_u b p n).1.bytes.length+p<=(a_u b p n).2.1:=by
 unfold a_u
 split
 ·show 0+p<=p;omega
 ·have:=piece_len' b p n.toNat
  show (a_5 b p<|p+n.toNat).length+p<=p+n.toNat
  omega
section
variable {b':List UInt8}{e:Nat}
end
end Go.Vw
