import Derived.Test.YtlbigkipbbhhmaaGreatDoorVwGen6
import Derived.ScopeJumps
namespace Go.Vw
open Go.RowKit Dat
section
variable {P : Program} {N : Nat} {e : Env} {w : World} {K : Act → World → Prop} {Q : Exit → Act → World → Prop} {l : Nat} {rest c : Code}
end
end Go.Vw
