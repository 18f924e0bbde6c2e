
import Derived.Test.YtbihpjgldkojoaaGreatDoorVwP16
namespace Go.Vw
open Go.RowKit Dat
def b_N (ss:List Str):Bt:=ss.flatMap (λs=>47::s.b)
section
variable {d:g_}{b:Bt}
theorem l_N:∀(ss:List Str),(∀s∈ss,d_1 s)->(b_N ss).length<=22 * ss.length
 | [],_=>by simp [b_N]
 | s::ss,h=>by
  have:=l_N ss<|λs hs=>h s<|mT_ _ hs;have:=(h s mS_).len
  simp [b_N] at *;omega
theorem l_O:∀(ss:List Str)(cur:Bt),(∀s∈ss,d_1 s)->a_I 47 (b_N ss) cur=⟨cur⟩::ss
 | [],cur,_=>by simp [b_N,a_I]
 | s::ss,cur,h=>by
  have e:b_N (s::ss)=47::(s.b++b_N ss):=by simp [b_N]
  rw [e,a_I,iP_ rfl,l_L _ _ _ _ (h s mS_).char,l_O ss _<|λs hs=>h s<|mT_ _ hs]
  simp
theorem p_B (ss:List Str)(h:∀s∈ss,d_1 s):i_D ⟨b_N ss⟩=(ss,true):=by
 unfold i_D
 by_cases hn:ss=[]
 .subst hn;rfl
 .obtain ⟨s,t,rfl⟩:=List.exists_cons_of_ne_nil hn
  rw [iN_ (by simp [b_N]),l_O _ _ h,iP_ ⟨rfl,by
   rw [List.tail_cons,List.all_eq_true];exact λs hs=>(h s hs).step⟩]
  simp
theorem k_f (hv:a_2 d=true)(hb:b.length<=400){i p:Nat}(hi:i<d.rules.length)(hp:p<=b.length):a_Q d i b p=b_E (rdW d.rules b i p):=by
 unfold a_Q
 rw [iP_]
 .simp
 .unfold okV b_A
  rw [hv,dT_ (show (0:Int)<=(i:Int) by omega),dT_ (show (i:Int)<(d.rules.length:Int) by omega),dT_ (show (0:Int)<=(p:Int) by omega),dT_ (show (p:Int)<=(b.length:Int) by omega),dT_ (show (b.length:Int)<=400 by omega)]
  rfl
end
section
variable {d:g_}{b:Bt}
end
end Go.Vw
