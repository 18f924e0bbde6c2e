
import Derived.Test.YtbhbfaljeoeciaaGreatDoorVc
import Derived.Test.YtbhbfaljeoeciaaGreatDoorVg
namespace Go.Vw
open Go.RowKit Dat
theorem DrD.sm {d:c_}(h:DrD d):SmD d:=by
 have hMX:=MXv;refine ⟨by have:=h.few;omega,fun r hr=>?_⟩;obtain ⟨i,hi,rfl⟩:=List.getElem_of_mem hr;have g:=h.each i hi;have h1:=g.name;have h2:=g.bytes;have h3:=g.names.1;have h4:=g.tags;have h5:=g.kidn;exact ⟨by omega,by omega,by omega,by omega,by omega,fun s hs=>by have:=g.names.2 s hs;omega⟩
section
variable {c:List UInt8}{i h:Int}
end
theorem q_8 {ρ:Type}{body:Nat->Unit->Option (Out Unit ρ)}{n:Nat}(h:∀j,j<n->body j ()=some (.next ())):z_ body n 0 ()=some (.inl ()):=by
 have:=c_9 (body:=body) (fun _=>()) (n:=n) h;exact this
end Go.Vw
