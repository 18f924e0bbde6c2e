
import Derived.Test.YtahlbmonbflopaaGreatDoorVb
namespace Go.Vw
open Go.RowKit Dat
theorem DrD.sm {d:c_}(h:DrD d):SmD d:=by
 have hMX:=MXv;refine ⟨by have:=h.few;omega,λr hr=>?_⟩;obtain ⟨i,hi,rfl⟩:=List.getElem_of_mem hr;have g:=h.each i hi;have h1:=g.name;have h2:=g.bytes;have h3:=g.names.1;have h4:=g.tags;have h5:=g.kidn;exact ⟨by omega,by omega,by omega,by omega,by omega,λs hs=>by have:=g.names.2 s hs;omega⟩
section
variable {c:Bt}{i h:Int}
end
theorem j_M {ρ:Type}{body:Nat->Unit->Option (Out Unit ρ)}{n:Nat}(h:∀j,j<n->body j ()=some (.next ())):y_ body n 0 ()=some (.inl ()):=by
 have:=d_w (body:=body) (λ_=>()) (n:=n) h;exact this
theorem q_X (b:Bt):h_S b b=some true:=by
 unfold h_S
 rw [show ((b.length:Int) != (b.length:Int))=false by simp,iN_ (by simp)]
 rw [j_M (body:=λG=>(λ(_:Unit)=>bd (idx b ((G:Nat):Int)) λH=>bd (idx b ((G:Nat):Int)) λI=>if ((byteI H) != (byteI I)) then some (.ret false) else some (.next ()))) (n:=b.length) (λk hk=>by
  rw [ix_ hk,bd_some,bd_some,show (byteI b[k] != byteI b[k])=false by simp,iN_ (by simp)])]
 rfl
end Go.Vw
