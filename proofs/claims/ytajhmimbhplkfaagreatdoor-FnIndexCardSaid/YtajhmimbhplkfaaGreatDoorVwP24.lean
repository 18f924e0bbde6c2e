
import Derived.Test.YtajhmimbhplkfaaGreatDoorVwP17
set_option linter.unusedVariables false
namespace Go.Vw
open Go.RowKit Dat
variable {d:d_} {b:List UInt8}
theorem o_u {l:List UInt8} {a c:Int} (h1:0≤a) (h2:a≤c) (h3:c≤l.length):slc l a c=some ((l.take c.toNat).drop a.toNat):=by
 unfold slc;rw [iP_ ⟨h1,h2,h3⟩]
section
variable {b':List UInt8} {e:Nat}
end
end Go.Vw
