
import Derived.Test.YtjdphpimefbinaaGreatDoorVf
import Derived.Test.YtjdphpimefbinaaGreatDoorVm
namespace Go.Vw
open Go.RowKit Dat
theorem DrD.sm {d:c_}(h:DrD d):SmD d:=by
 have hMX:=MXv;refine ⟨by have:=h.few;omega,λr hr=>?_⟩;obtain ⟨i,hi,rfl⟩:=List.getElem_of_mem hr;have g:=h.each i hi;have h1:=g.name;have h2:=g.bytes;have h3:=g.names.1;have h4:=g.tags;have h5:=g.kidn;exact ⟨by omega,by omega,by omega,by omega,by omega,λs hs=>by have:=g.names.2 s hs;omega⟩
section
variable {c:Bt}{i h:Int}
end
theorem o_y {ρ:Type}{body:Nat->Unit->Option (Out Unit ρ)}{n:Nat}(h:∀j,j<n->body j ()=some (.next ())):v_ body n 0 ()=some (.inl ()):=by
 have:=b_A (body:=body) (λ_=>()) (n:=n) h;exact this
end Go.Vw
