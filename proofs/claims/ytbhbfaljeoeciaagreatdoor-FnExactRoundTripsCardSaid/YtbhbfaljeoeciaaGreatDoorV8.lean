import Derived.Test.YtbhbfaljeoeciaaGreatDoorV7
namespace Go.Vw
open Go.RowKit Dat
theorem g_B {b:List UInt8}{r:g_}{num:Int}{at_:Nat}{x:List Val×Nat×Int}(G:(a_Q b r num at_ x).2.2=0)(H:r.kind=9->num=0):(a_Q b r num at_ x).1.items=x.1/\(a_Q b r num at_ x).1.number=num/\x.2.2=0:=by
 unfold a_Q at *
 by_cases hx:x.2.2=0
 ·rw [iP_ hx] at *
  by_cases hk:r.kind=9
  ·rw [show (r.kind==9)=true by simpa using hk] at *
   simp only [fT_] at *
   cases hb:b[x.2.1]? with
   | none=>rw [hb] at G;cases G
   | some c =>
    rw [hb] at G
    simp only at G ⊢
    by_cases hs:byteI c=b_V (a_U b at_ x.2.1)
    ·rw [iP_ hs];exact ⟨rfl,(H hk).symm,hx⟩
    ·rw [iN_ hs] at G;cases G
  ·rw [show (r.kind==9)=false by simpa using hk];exact ⟨rfl,rfl,hx⟩
 ·rw [iN_ hx] at G;exact absurd G hx
section
variable {d:c_}{b:List UInt8}
end
end Go.Vw
namespace Go.Vw
open Go.RowKit Dat
section
variable {d:c_}{b:List UInt8}
end
theorem p_Q {x:Nat}(h:x<4294967296):(Lib.itoa x).length<=20:=by
 have:=g_A 12 x (by omega)
 rw [f_b];omega
section
variable {d:c_}{b:List UInt8}
end
end Go.Vw
