
import Derived.Test.YtjdphpimefbinaaGreatDoorVh
namespace Go.Vw
open Go.RowKit Dat
section
variable {d:c_}{b:Bt}
theorem m_b {e:k_}(he:e∈a_D d b):e.path.b.length<=MX:=by
 have hMX:=MXv;obtain ⟨_,_,i,p,L⟩:=t_n he;have:=L.path
 omega
end
end Go.Vw
