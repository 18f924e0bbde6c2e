
import Derived.Test.YtgieiijmhcgmcaaGreatDoorVwP21
namespace Go.Vw
open Go.RowKit Dat
section
variable {d:g_}{b:List UInt8}
def locL (d:g_)(b:List UInt8):List Str->Nat->Nat->Option (Nat×Nat)
 | [],i,p=>some (i,p)
 | s::ss,i,p=>match a_V d.rules b (d.rules.getD i default) p s with
  | none=>none
  | some x=>locL d b ss x.1 x.2
theorem k_Z {i:Nat}(hi:i<d.rules.length):d.rules.getD i default=d.rules[i]:=by simp [hi]
end
end Go.Vw
