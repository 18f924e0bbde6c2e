
import Derived.Test.YtpjplgfnhbjjjaaGreatDoorV8
import Derived.Test.YtpjplgfnhbjjjaaGreatDoorV9
namespace Go.Vw
open Go.RowKit Dat
section
variable {pat steps:List Str}
theorem s_d (s:Str):(e_6 s).1.length<=s.b.length+1:=by
 have h:=(h_w 47 s.b []).2;unfold e_6
 split
 .simp
 .split
  .simp only [List.length_tail];omega
  .simp
end
end Go.Vw
