
import Derived.Test.YtnncfaaebnkcbaaGreatDoorVwP19
namespace Go.Vw
open Go.RowKit Dat
variable {d:f_}{b:List UInt8}
theorem q_g {α:Type}{l:List α}(h:l.length<=MX):app ([]:List α) l=some l:=by
 have:=MXv;have:=a_k
 rw [b_C (by simp;omega)];simp
theorem piece_len' (b:List UInt8)(p n:Nat):(a_i b p<|p+n).length<=n:=by unfold a_i;simp;omega
theorem m_y (p:Nat)(n:Int):(a_K b p n).1.bytes.length+p<=(a_K b p n).2.1:=by
 unfold a_K
 split
 ·show 0+p<=p;omega
 ·have:=piece_len' b p n.toNat
  show (a_i b p<|p+n.toNat).length+p<=p+n.toNat
  omega
section
variable {b':List UInt8}{e:Nat}
end
end Go.Vw
