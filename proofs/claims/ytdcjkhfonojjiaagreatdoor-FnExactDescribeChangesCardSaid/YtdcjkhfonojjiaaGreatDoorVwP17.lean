
import Derived.Test.YtdcjkhfonojjiaaGreatDoorVwP16
namespace Go.Vw
open Go.RowKit Dat
def b_z (ss:List Str):List UInt8:=ss.flatMap (fun s=>47::s.b)
section
variable {d:d_}{b:List UInt8}
theorem j_E:∀(ss:List Str),(∀s∈ss,c_5 s)->(b_z ss).length<=22 * ss.length
 | [],_=>by simp [b_z]
 | s::ss,h=>by
  have:=j_E ss<|fun s hs=>h s<|mT_ _ hs;have:=(h s mS_).len
  simp [b_z] at *;omega
theorem l_X:∀(ss:List Str)(cur:List UInt8),(∀s∈ss,c_5 s)->a_h 47 (b_z ss) cur=⟨cur⟩::ss
 | [],cur,_=>by simp [b_z,a_h]
 | s::ss,cur,h=>by
  have e:b_z (s::ss)=47::(s.b++b_z ss):=by simp [b_z]
  rw [e,a_h,iP_ rfl,l_V _ _ _ _ (h s mS_).char,l_X ss _<|fun s hs=>h s<|mT_ _ hs]
  simp
theorem l_Y (ss:List Str)(h:∀s∈ss,c_5 s):f_a ⟨b_z ss⟩=(ss,true):=by
 unfold f_a
 by_cases hn:ss=[]
 ·subst hn;rfl
 ·obtain ⟨s,t,rfl⟩:=List.exists_cons_of_ne_nil hn
  rw [iN_ (by simp [b_z]),l_X _ _ h,iP_ ⟨rfl,by
   rw [List.tail_cons,List.all_eq_true];exact fun s hs=>(h s hs).step⟩]
  simp
end
theorem p_I {x:Nat}(h:x<4294967296):(Lib.itoa x).length<=20:=by
 have:=j_y 12 x (by omega)
 rw [d_7];omega
section
variable {d:d_}{b:List UInt8}
end
end Go.Vw
