import Derived.Test.YtgpgenigfncgeaaGreatDoorV8
namespace Go.Vw
open Go.RowKit Dat
section
variable {d:f_}{b:Bt}
def f_y (en:Int->Nat->Nat)(ks:List Int)(p:Nat):Nat->Nat
 | 0=>p
 | m+1=>en (ks.getD m 0)<|f_y en ks p m
theorem m_y (en:Int->Nat->Nat)(k:Int)(ks:List Int)(p:Nat):∀m,f_y en (k::ks) p (m+1)=f_y en ks (en k p) m
 | 0=>rfl
 | m+1=>by
  rw [f_y,m_y en k ks p m];rfl
theorem o_O {rd:Int->Nat->RR}{L:Nat}:∀{ks:List Int}{p:Nat}{vs:List Val}{e:Nat},e_x rd L ks p vs e->∀m (hm:m<ks.length),f_y (λk p=>(rd k p).2.1) ks p m<=L/\(rd ks[m] (f_y (λk p=>(rd k p).2.1) ks p m)).2.2=0
 | k::ks,p,vs,e,h,0,_=>by
  obtain ⟨h1,h2,_⟩:=h;exact ⟨h1,h2⟩
 | k::ks,p,vs,e,h,m+1,hm=>by
  obtain ⟨_,_,ws,_,h3⟩:=h;have:=o_O h3 m (by simpa using hm)
  rw [m_y]
  exact this
end
end Go.Vw
namespace Go.Vw
open Go.RowKit Dat
section
variable {d:f_}{b:Bt}
theorem o_P {f:Int->Nat->Str->List l_}{en:Int->Nat->Nat}{r:d_}{path:Str}{x:l_}:∀(ks:List Int)(j pos:Nat),x∈ixL f en r path ks j pos->∃m,∃hm:m<ks.length,x∈f ks[m] (f_y en ks pos m) (c_K r path<|j+m)
 | [],_,_,h=>by simp [ixL] at h
 | k::ks,j,pos,h=>by
  unfold ixL at h
  rcases List.mem_append.1 h with h | h
  .exact ⟨0,by simp,h⟩
  .obtain ⟨m,hm,h⟩:=o_P ks (j+1) (en k pos) h;refine ⟨m+1,by simpa using hm,?_⟩
   rw [m_y]
   rw [show j+(m+1)=j+1+m by omega]
   exact h
end
section
variable {d:f_}{b:Bt}
end
end Go.Vw
