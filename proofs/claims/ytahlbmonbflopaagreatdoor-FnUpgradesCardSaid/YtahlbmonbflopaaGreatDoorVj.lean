
import Derived.Test.YtahlbmonbflopaaGreatDoorVd
namespace Go.Vw
open Go.RowKit Dat
theorem h_j {β:Type}[Inhabited β]{P:Nat->β->Prop}(n:Nat)(h:∀m,m<n->∃x,P m x):∃f:Nat->β,∀m,m<n->P m (f m):=by
 refine ⟨λm=>if h':m<n then Classical.choose (h m h') else default,λm hm=>?_⟩
 simp only [dif_pos hm]
 exact Classical.choose_spec<|h m hm
end Go.Vw
