
import Derived.Test.YtlagjoejlchiiaaGreatDoorVwP22
namespace Go.Vw
open Go.RowKit Dat
variable {d:d_}{b:List UInt8}
theorem piece_len' (b:List UInt8)(p n:Nat):(X_ b p<|p+n).length<=n:=by unfold X_;simp;omega
theorem l_q (p:Nat)(n:Int):(a_k b p n).1.bytes.length+p<=(a_k b p n).2.1:=by
 unfold a_k
 split
 ·show 0+p<=p;omega
 ·have:=piece_len' b p n.toNat
  show (X_ b p<|p+n.toNat).length+p<=p+n.toNat
  omega
section
variable {b':List UInt8}{e:Nat}
end
end Go.Vw
