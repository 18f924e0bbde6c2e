
import Derived.Test.YtfjlanohfpolnaaGreatDoorVwP16
namespace Go.Vw
open Go.RowKit Dat
def b_E (ss:List Str):List UInt8:=ss.flatMap (fun s=>47::s.b)
section
variable {d:e_}{b:List UInt8}
theorem k_B:∀(ss:List Str),(∀s∈ss,c_9 s)->(b_E ss).length<=22 * ss.length
 | [],_=>by simp [b_E]
 | s::ss,h=>by
  have:=k_B ss<|fun s hs=>h s<|mT_ _ hs;have:=(h s mS_).len
  simp [b_E] at *;omega
theorem m_F:∀(ss:List Str)(cur:List UInt8),(∀s∈ss,c_9 s)->a_m 47 (b_E ss) cur=⟨cur⟩::ss
 | [],cur,_=>by simp [b_E,a_m]
 | s::ss,cur,h=>by
  have e:b_E (s::ss)=47::(s.b++b_E ss):=by simp [b_E]
  rw [e,a_m,iP_ rfl,m_D _ _ _ _ (h s mS_).char,m_F ss _<|fun s hs=>h s<|mT_ _ hs]
  simp
theorem m_G (ss:List Str)(h:∀s∈ss,c_9 s):f_o ⟨b_E ss⟩=(ss,true):=by
 unfold f_o
 by_cases hn:ss=[]
 ·subst hn;rfl
 ·obtain ⟨s,t,rfl⟩:=List.exists_cons_of_ne_nil hn
  rw [iN_ (by simp [b_E]),m_F _ _ h,iP_ ⟨rfl,by
   rw [List.tail_cons,List.all_eq_true];exact fun s hs=>(h s hs).step⟩]
  simp
end
theorem r_f {x:Nat}(h:x<4294967296):(Lib.itoa x).length<=20:=by
 have:=k_v 12 x (by omega)
 rw [d_n];omega
section
variable {d:e_}{b:List UInt8}
end
end Go.Vw
