
import Derived.Test.YtcaidakkhpmcjaaGreatDoorVwP26
namespace Go.Vw
open Go.RowKit Dat
section
variable {d:b_}{b:List UInt8}
theorem k_T {e:k_}(he:e∈a_N d b):e.path.b.length<=MX:=by
 have hMX:=MXv;obtain ⟨_,_,i,p,L⟩:=r_5 he;have:=L.path
 omega
end
end Go.Vw
