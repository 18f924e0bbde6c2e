
import Derived.Test.YtaccmlhgodgkaaaGreatDoorV8
import Derived.Test.YtaccmlhgodgkaaaGreatDoorV9
namespace Go.Vw
open Go.RowKit Dat
section
variable {pat steps:List Str}
theorem r_2 (s:Str):(c_p s).1.length<=s.b.length+1:=by
 have h:=(g_k 47 s.b []).2;unfold c_p
 split
 .simp
 .split
  .simp only [List.length_tail];omega
  .simp
end
end Go.Vw
