
import Derived.Test.YtllmonllbkaflaaGreatDoorVc
namespace Go.Vw
open Go.RowKit Dat
variable {d:c_}{b:Bt}
theorem piece_len' (b:Bt)(p n:Nat):(a_8 b p<|p+n).length<=n:=by unfold a_8;simp;omega
theorem o_C (p:Nat)(n:Int):(a_D b p n).1.bytes.length+p<=(a_D b p n).2.1:=by
 unfold a_D
 split
 .show 0+p<=p;omega
 .have:=piece_len' b p n.toNat
  show (a_8 b p<|p+n.toNat).length+p<=p+n.toNat
  omega
section
variable {b':Bt}{e:Nat}
end
end Go.Vw
