
import Derived.Test.YtaccmlhgodgkaaaGreatDoorVb
namespace Go.Vw
open Go.RowKit Dat
variable {d:e_}{b:Bt}
theorem r_1 {α:Type}{l:List α}(h:l.length<=MX):app ([]:List α) l=some l:=by
 have:=MXv;have:=a_p
 rw [b_F (by simp;omega)];simp
theorem piece_len' (b:Bt)(p n:Nat):(a_q b p<|p+n).length<=n:=by unfold a_q;simp;omega
theorem n_3 (p:Nat)(n:Int):(a_P b p n).1.bytes.length+p<=(a_P b p n).2.1:=by
 unfold a_P
 split
 .show 0+p<=p;omega
 .have:=piece_len' b p n.toNat
  show (a_q b p<|p+n.toNat).length+p<=p+n.toNat
  omega
section
variable {b':Bt}{e:Nat}
end
end Go.Vw
