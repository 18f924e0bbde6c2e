
import Derived.Test.YtlmdniepgikmaaaGreatDoorVh
namespace Go.Vw
open Go.RowKit Dat
section
variable {d:f_}{b:Bt}
theorem n_h {e:D_}(he:e∈b_8 d b):e.path.b.length<=MX:=by
 have hMX:=MXv;obtain ⟨_,_,i,p,L⟩:=r_G he;have:=L.path
 omega
end
end Go.Vw
