
import Derived.Test.YtnncfaaebnkcbaaGreatDoorVwP19
namespace Go.Vw
open Go.RowKit Dat
section
variable {pat steps:List Str}
theorem q_h (s:Str):(e_P s).1.length<=s.b.length+1:=by
 have h:=(f_z 47 s.b []).2;unfold e_P
 split
 ·simp
 ·split
  ·simp only [List.length_tail];omega
  ·simp
end
end Go.Vw
