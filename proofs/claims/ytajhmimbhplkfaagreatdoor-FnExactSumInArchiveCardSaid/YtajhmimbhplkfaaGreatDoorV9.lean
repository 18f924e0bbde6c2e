import Derived.Test.YtajhmimbhplkfaaGreatDoorV8
namespace Go.Vw
open Go.RowKit Dat
section
variable {d:e_}{b:List UInt8}
def f_o (en:Int->Nat->Nat)(ks:List Int)(p:Nat):Nat->Nat
 | 0=>p
 | m+1=>en (ks.getD m 0)<|f_o en ks p m
theorem l_u (en:Int->Nat->Nat)(k:Int)(ks:List Int)(p:Nat):∀m,f_o en (k::ks) p (m+1)=f_o en ks (en k p) m
 | 0=>rfl
 | m+1=>by
  rw [f_o,l_u en k ks p m];rfl
theorem n_O {rd:Int->Nat->RR}{L:Nat}:∀{ks:List Int}{p:Nat}{vs:List Val}{e:Nat},e_g rd L ks p vs e->∀m (hm:m<ks.length),f_o (fun k p=>(rd k p).2.1) ks p m<=L/\(rd ks[m] (f_o (fun k p=>(rd k p).2.1) ks p m)).2.2=0
 | k::ks,p,vs,e,h,0,_=>by
  obtain ⟨h1,h2,_⟩:=h;exact ⟨h1,h2⟩
 | k::ks,p,vs,e,h,m+1,hm=>by
  obtain ⟨_,_,ws,_,h3⟩:=h;have:=n_O h3 m (by simpa using hm)
  rw [l_u]
  exact this
end
end Go.Vw
namespace Go.Vw
open Go.RowKit Dat
section
variable {d:e_}{b:List UInt8}
theorem n_P {f:Int->Nat->Str->List m_}{en:Int->Nat->Nat}{r:g_}{path:Str}{x:m_}:∀(ks:List Int)(j pos:Nat),x∈ixL f en r path ks j pos->∃m,∃hm:m<ks.length,x∈f ks[m] (f_o en ks pos m) (c_F r path<|j+m)
 | [],_,_,h=>by simp [ixL] at h
 | k::ks,j,pos,h=>by
  unfold ixL at h
  rcases List.mem_append.1 h with h | h
  ·exact ⟨0,by simp,h⟩
  ·obtain ⟨m,hm,h⟩:=n_P ks (j+1) (en k pos) h;refine ⟨m+1,by simpa using hm,?_⟩
   rw [l_u]
   rw [show j+(m+1)=j+1+m by omega]
   exact h
end
section
variable {d:e_}{b:List UInt8}
end
end Go.Vw
