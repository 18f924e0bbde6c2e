
import Derived.Test.YtgieiijmhcgmcaaGreatDoorVwP16
namespace Go.Vw
open Go.RowKit Dat
def b_g (ss:List Str):List UInt8:=ss.flatMap (fun s=>47::s.b)
section
variable {d:g_}{b:List UInt8}
theorem k_J:∀(ss:List Str),(∀s∈ss,c_p s)->(b_g ss).length<=22 * ss.length
 | [],_=>by simp [b_g]
 | s::ss,h=>by
  have:=k_J ss<|fun s hs=>h s<|mT_ _ hs;have:=(h s mS_).len
  simp [b_g] at *;omega
theorem k_K:∀(ss:List Str)(cur:List UInt8),(∀s∈ss,c_p s)->a_i 47 (b_g ss) cur=⟨cur⟩::ss
 | [],cur,_=>by simp [b_g,a_i]
 | s::ss,cur,h=>by
  have e:b_g (s::ss)=47::(s.b++b_g ss):=by simp [b_g]
  rw [e,a_i,iP_ rfl,k_H _ _ _ _ (h s mS_).char,k_K ss _<|fun s hs=>h s<|mT_ _ hs]
  simp
theorem o_J (ss:List Str)(h:∀s∈ss,c_p s):h_7 ⟨b_g ss⟩=(ss,true):=by
 unfold h_7
 by_cases hn:ss=[]
 ·subst hn;rfl
 ·obtain ⟨s,t,rfl⟩:=List.exists_cons_of_ne_nil hn
  rw [iN_ (by simp [b_g]),k_K _ _ h,iP_ ⟨rfl,by
   rw [List.tail_cons,List.all_eq_true];exact fun s hs=>(h s hs).step⟩]
  simp
theorem j_7 (hv:P_ d=true)(hb:b.length<=400){i p:Nat}(hi:i<d.rules.length)(hp:p<=b.length):a_A d i b p=b_j (rdW d.rules b i p):=by
 unfold a_A
 rw [iP_]
 ·simp
 ·unfold okV b_5
  rw [hv,dT_ (show (0:Int)<=(i:Int) by omega),dT_ (show (i:Int)<(d.rules.length:Int) by omega),dT_ (show (0:Int)<=(p:Int) by omega),dT_ (show (p:Int)<=(b.length:Int) by omega),dT_ (show (b.length:Int)<=400 by omega)]
  rfl
end
section
variable {d:g_}{b:List UInt8}
end
end Go.Vw
