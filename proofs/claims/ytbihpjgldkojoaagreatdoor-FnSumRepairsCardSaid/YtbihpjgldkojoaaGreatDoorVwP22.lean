
import Derived.Test.YtbihpjgldkojoaaGreatDoorVwP21
namespace Go.Vw
open Go.RowKit Dat
section
variable {d:g_}{b:Bt}
def locL (d:g_)(b:Bt):List Str->Nat->Nat->Option (Nat×Nat)
 | [],i,p=>some (i,p)
 | s::ss,i,p=>match b_m d.rules b (d.rules.getD i default) p s with
  | none=>none
  | some x=>locL d b ss x.1 x.2
theorem m_4 {i:Nat}(hi:i<d.rules.length):d.rules.getD i default=d.rules[i]:=by simp [hi]
end
end Go.Vw
