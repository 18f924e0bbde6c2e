import Derived.Test.YtdgimlkkidpmmaaGreatDoorVu
namespace Go.Vw
open Go.RowKit Dat
section
variable {α:Type}(f:α->Int->α×Int)
theorem t_K {l:List α}{j:Nat}(hj:j<l.length):l.take (j+1)=l.take j++[l[j]]:=by
 rw [List.take_add_one,gG_ hj];rfl
end
def mR (r:b_):Nat:=4+r.bytes.length+r.names.length+r.tags.length+r.kids.length
def mD (d:c_):Nat:=(d.rules.map mR).sum
end Go.Vw
namespace Go.Vw
open Go.RowKit Dat
def mA (a:n_):Nat:=(a.registry.versions.map mD).sum+a.log.bytes.length
end Go.Vw
