
import Derived.Test.YteocmnebeeammaaGreatDoorVwP22
namespace Go.Vw
open Go.RowKit Dat
variable {d:d_}{b:Bt}
theorem piece_len' (b:Bt)(p n:Nat):(a_6 b p<|p+n).length<=n:=by unfold a_6;simp;omega
theorem n_M (p:Nat)(n:Int):(a_v b p n).1.bytes.length+p<=(a_v b p n).2.1:=by
 unfold a_v
 split
 .show 0+p<=p;omega
 .have:=piece_len' b p n.toNat
  show (a_6 b p<|p+n.toNat).length+p<=p+n.toNat
  omega
section
variable {b':Bt}{e:Nat}
end
end Go.Vw
