
import Derived.Test.YtajhmimbhplkfaaGreatDoorVwP23
import Derived.Test.YtajhmimbhplkfaaGreatDoorVwP53
set_option linter.unusedVariables false
namespace Go.Vw
open Go.RowKit Dat
theorem DrD.sm {d:d_} (h:DrD d):SmD d:=by
 have hMX:=MXv;refine ⟨by have:=h.few;omega,fun r hr=>?_⟩;obtain ⟨i,hi,rfl⟩:=List.getElem_of_mem hr;have g:=h.each i hi;have h1:=g.name;have h2:=g.bytes;have h3:=g.names.1;have h4:=g.tags;have h5:=g.kidn;exact ⟨by omega,by omega,by omega,by omega,by omega,fun s hs=>by have:=g.names.2 s hs;omega⟩
section
variable {c:List UInt8} {i h:Int}
end
theorem k_Z {ρ:Type} {body:Nat→Unit→Option (Out Unit ρ)} {n:Nat} (h : ∀ j,j<n→body j ()=some (.next ())):C_ body n 0 ()=some (.inl ()):=by
 have:=c_x (body:=body) (fun _=>()) (n:=n) h;exact this
theorem o_K {d:d_} {b:List UInt8} (hv:a_1 d=true) : ∀ (i:Nat),i<d.rules.length → ∀ (at_:Nat) (path:Str) (e:k_),at_≤b.length→(rdW d.rules b i at_).2.2=0→e∈ixW d.rules b i at_ path→0≤e.end_∧e.end_≤(b.length:Int):=by
 intro i
 induction i using Nat.strongRecOn with
 | _ i ih =>
  intro hi at_ path x ha hok hx;obtain ⟨ks,e,h⟩:=c_w hv hi ha hok
  rw [d_l hv hi h path] at hx
  rcases List.mem_cons.1 hx with rfl | hx
  ·have:=b_H (b:=b) hv i hi at_ ha
   simp only;omega
  ·obtain ⟨m,hm,hx⟩:=h_0 _ _ _ hx;have hr:=a_P hv hi;have hkr:=hr.kids _<|h.kids _<|gE_ hm;have hP:=e_p h.ch m hm;exact ih ks[m].toNat (by omega) (by omega) _ _ x hP.1 hP.2 hx
theorem o_L {d:d_} {b:List UInt8} (h:okF d b=true):(rdW d.rules b (d.rules.length - 1) 0).2.1=b.length:=by
 obtain ⟨hv,hb,hi,hroot,h0,_,e⟩:=e_n h;have hle:=b_H (b:=b) hv _ hi 0<|Nat.zero_le _;unfold okF at h
 unfold b_A at h
 by_cases hc:(a_H d (a_I d) b 0).2.2=0∧(a_H d (a_I d) b 0).2.1<(b.length:Int)
 ·rw [iP_ hc] at h;simp at h
 ·have e2:b_A d b=a_H d (a_I d) b 0:=by unfold b_A;rw [iN_ hc]
  rw [e] at e2
  have h3:(a_H d (a_I d) b 0).2.1=((rdW d.rules b (d.rules.length - 1) 0).2.1:Int):=by rw [← e2];rfl
  have h4:(a_H d (a_I d) b 0).2.2=0:=by rw [← e2];exact h0
  have h5 : ¬ (a_H d (a_I d) b 0).2.1<(b.length:Int):=fun hlt=>hc ⟨h4,hlt⟩
  omega
end Go.Vw
