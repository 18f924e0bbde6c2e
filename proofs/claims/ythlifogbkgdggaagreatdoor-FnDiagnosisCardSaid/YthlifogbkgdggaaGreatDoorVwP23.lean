
import Derived.Test.YthlifogbkgdggaaGreatDoorVwP21
namespace Go.Vw
open Go.RowKit Dat
section
variable {d:d_}{b:List UInt8}
end
theorem i_c {σ ρ:Type}{body:Nat->σ->Option (Out σ ρ)}(f:Nat->σ){n:Nat}{s:σ}(G:s=f 0)(h:∀j,j<n->body j (f j)=some (.next<|f<|j+1)):y_ body n 0 s=some (.inl<|f n):=by
 subst G;exact c_7 f h
end Go.Vw
