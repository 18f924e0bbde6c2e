
import Derived.Test.YtajhmimbhplkfaaGreatDoorVwP24
import Derived.Test.YtajhmimbhplkfaaGreatDoorVwP53
set_option linter.unusedVariables false
namespace Go.Vw
open Go.RowKit Dat
theorem DrD.sm {d:d_} (h:DrD d):SmD d:=by
 have hMX:=MXv;refine ⟨by have:=h.few;omega,fun r hr=>?_⟩;obtain ⟨i,hi,rfl⟩:=List.getElem_of_mem hr;have g:=h.each i hi;have h1:=g.name;have h2:=g.bytes;have h3:=g.names.1;have h4:=g.tags;have h5:=g.kidn;exact ⟨by omega,by omega,by omega,by omega,by omega,fun s hs=>by have:=g.names.2 s hs;omega⟩
section
variable {c:List UInt8} {i h:Int}
end
theorem h_7 {ρ:Type} {body:Nat→Unit→Option (Out Unit ρ)} {n:Nat} (h : ∀ j,j<n→body j ()=some (.next ())):C_ body n 0 ()=some (.inl ()):=by
 have:=c_i (body:=body) (fun _=>()) (n:=n) h;exact this
theorem j_c (b:List UInt8):d_Y b b=some true:=by
 unfold d_Y
 rw [show ((b.length:Int) != (b.length:Int))=false by simp,iN_ (by simp)]
 rw [h_7 (body:=fun k62=>(fun (_:Unit)=>bd (idx b ((k62:Nat):Int)) fun x103=>bd (idx b ((k62:Nat):Int)) fun x115=>if ((byteI x103) != (byteI x115))=true then some (.ret false) else some (.next ()))) (n:=b.length) (fun k hk=>by
  rw [ix_ hk,bd_some,bd_some,show (byteI b[k] != byteI b[k])=false by simp,iN_ (by simp)])]
 rfl
theorem o_c {d:d_} {b:List UInt8} (hv:a_6 d=true) : ∀ (i:Nat),i<d.rules.length → ∀ (at_:Nat) (path:Str) (e:e_),at_≤b.length→(rdW d.rules b i at_).2.2=0→e∈ixW d.rules b i at_ path→0≤e.end_∧e.end_≤(b.length:Int):=by
 intro i
 induction i using Nat.strongRecOn with
 | _ i ih =>
  intro hi at_ path x ha hok hx;obtain ⟨ks,e,h⟩:=d_J hv hi ha hok
  rw [f_f hv hi h path] at hx
  rcases List.mem_cons.1 hx with rfl | hx
  ·have:=c_6 (b:=b) hv i hi at_ ha
   simp only;omega
  ·obtain ⟨m,hm,hx⟩:=j_1 _ _ _ hx;have hr:=b_m hv hi;have hkr:=hr.kids _<|h.kids _<|gE_ hm;have hP:=j_0 h.ch m hm;exact ih ks[m].toNat (by omega) (by omega) _ _ x hP.1 hP.2 hx
end Go.Vw
