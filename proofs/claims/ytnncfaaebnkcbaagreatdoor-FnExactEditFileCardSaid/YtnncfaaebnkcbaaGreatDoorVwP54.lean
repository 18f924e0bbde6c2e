
import Derived.Test.YtnncfaaebnkcbaaGreatDoorVwP23
import Derived.Test.YtnncfaaebnkcbaaGreatDoorVwP53
namespace Go.Vw
open Go.RowKit Dat
theorem DrD.sm {d:f_}(h:DrD d):SmD d:=by
 have hMX:=MXv;refine ⟨by have:=h.few;omega,fun r hr=>?_⟩;obtain ⟨i,hi,rfl⟩:=List.getElem_of_mem hr;have g:=h.each i hi;have h1:=g.name;have h2:=g.bytes;have h3:=g.names.1;have h4:=g.tags;have h5:=g.kidn;exact ⟨by omega,by omega,by omega,by omega,by omega,fun s hs=>by have:=g.names.2 s hs;omega⟩
section
variable {c:List UInt8}{i h:Int}
end
end Go.Vw
