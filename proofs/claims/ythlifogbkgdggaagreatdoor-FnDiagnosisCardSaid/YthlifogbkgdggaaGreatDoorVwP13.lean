
import Derived.Test.YthlifogbkgdggaaGreatDoorVwP11
namespace Go.Vw
open Go.RowKit Dat
variable {d:d_}{b:List UInt8}
theorem j_R {σ ρ:Type}{body:Nat->σ->Option (Out σ ρ)}(f:Nat->σ){n:Nat}{s:σ}(G:s=f 0)(h:∀j,j<n->body j (f j)=some (.next<|f<|j+1)):y_ body n 0 s=some (.inl<|f n):=by
 subst G;exact c_7 f h
end Go.Vw
