
import Derived.Test.YtgpbbhplnbndeaaGreatDoorV9
import Derived.Test.YtgpbbhplnbndeaaGreatDoorVe
namespace Go.Vw
open Go.RowKit Dat
theorem DrD.sm {d:b_}(h:DrD d):SmD d:=by
 have hMX:=MXv;refine ⟨by have:=h.few;omega,λr hr=>?_⟩;obtain ⟨i,hi,rfl⟩:=List.getElem_of_mem hr;have g:=h.each i hi;have h1:=g.name;have h2:=g.bytes;have h3:=g.names.1;have h4:=g.tags;have h5:=g.kidn;exact ⟨by omega,by omega,by omega,by omega,by omega,λs hs=>by have:=g.names.2 s hs;omega⟩
section
variable {c:Bt}{i h:Int}
end
theorem q_L {ρ:Type}{body:Nat->Unit->Option (Out Unit ρ)}{n:Nat}(h:∀j,j<n->body j ()=some (.next ())):n_ body n 0 ()=some (.inl ()):=by
 have:=c_P (body:=body) (λ_=>()) (n:=n) h;exact this
end Go.Vw
