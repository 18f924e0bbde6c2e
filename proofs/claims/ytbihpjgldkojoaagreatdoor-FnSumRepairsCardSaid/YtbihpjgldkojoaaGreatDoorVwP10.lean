
import Derived.Test.YtbihpjgldkojoaaGreatDoorVwP9
namespace Go.Vw
open Go.RowKit Dat
section
variable {d:g_}{b:Bt}
def okF (d:g_)(b:Bt):Bool:=(a_l d b).2.2==0
theorem k_d (hd:SmD d){n:Nat}(hn:500<=n):c_L n d b=some (okF d b):=by
 unfold c_L okF
 rw [m_D hd hn];rfl
end
end Go.Vw
