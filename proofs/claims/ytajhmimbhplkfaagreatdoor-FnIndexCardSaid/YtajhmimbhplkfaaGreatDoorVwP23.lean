
import Derived.Test.YtajhmimbhplkfaaGreatDoorVwP24
set_option linter.unusedVariables false
namespace Go.Vw
open Go.RowKit Dat
section
variable {d:d_} {b:List UInt8}
end
theorem k_N {σ ρ:Type} {body:Nat→σ→Option (Out σ ρ)} (f:Nat→σ) {n:Nat} {s:σ} (h0:s=f 0) (h : ∀ j,j<n→body j (f j)=some (.next<|f<|j+1)):C_ body n 0 s=some (.inl<|f n):=by
 subst h0;exact c_x f h
end Go.Vw
