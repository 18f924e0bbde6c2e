
import Derived.Test.YtelphaiofendpaaGreatDoorVwP22
namespace Go.Vw
open Go.RowKit Dat
variable {d:d_}{b:Bt}
theorem piece_len' (b:Bt)(p n:Nat):(a_h b p<|p+n).length<=n:=by unfold a_h;simp;omega
theorem n_B (p:Nat)(n:Int):(a_C b p n).1.bytes.length+p<=(a_C b p n).2.1:=by
 unfold a_C
 split
 .show 0+p<=p;omega
 .have:=piece_len' b p n.toNat
  show (a_h b p<|p+n.toNat).length+p<=p+n.toNat
  omega
section
variable {b':Bt}{e:Nat}
end
end Go.Vw
