
import Derived.Test.YtelphaiofendpaaGreatDoorVwP26
namespace Go.Vw
open Go.RowKit Dat
section
variable {d:d_}{b:Bt}
theorem l_o {e:y_}(he:e∈a_K d b):e.path.b.length<=MX:=by
 have hMX:=MXv;obtain ⟨_,_,i,p,L⟩:=r_V he;have:=L.path
 omega
end
end Go.Vw
