
import Derived.Test.YthlifogbkgdggaaGreatDoorVwP62
namespace Go.Vw
open Go.RowKit Dat
theorem DrE.sm {d:d_}(h:DrE d)(G:d.rules.length<=8):SmD d:=by
 have hMX:=MXv;refine ⟨by omega,fun r hr=>?_⟩;obtain ⟨i,hi,rfl⟩:=List.getElem_of_mem hr;have g:=h.each i hi;have h1:=g.name;have h2:=g.bytes;have h3:=g.names.1;have h4:=g.tags;have h5:=g.kidn;exact ⟨by omega,by omega,by omega,by omega,by omega,fun s hs=>by have:=g.names.2 s hs;omega⟩
end Go.Vw
