
import Derived.Test.YtdgimlkkidpmmaaGreatDoorVw
namespace Go.Vw
open Go.RowKit Dat
def i_R (l:List w_)(nm:Str):Int:=match l.findIdx? (λf=>f.name.b==nm.b) with | some k=>(k:Int) | none=>-1
theorem t_R (l:List w_)(nm:Str):j_L l nm=some (i_R l nm):=by
 unfold j_L i_R
 rw [h_B (λk=>if hk:k<l.length then l[k].name.b==nm.b else false) (λk=>(k:Int)) (λk hk _=>by
  rw [ix_ hk,bd_some,dif_pos hk]
  cases (l[k].name.b==nm.b) <;> rfl)]
 rw [p_i l (λf=>f.name.b==nm.b) _ (λk hk=>by rw [dif_pos hk])]
 cases l.findIdx? (λf=>f.name.b==nm.b) <;> rfl
def delP (a:n_)(nm:Str):n_×Bool:=if (b_6 a && (!decide (i_R (b_T a.log.bytes) nm<0) && a_I ⟨2,nm,0,[]⟩)) then (d_x a ⟨2,nm,0,[]⟩,true) else (a,false)
theorem t_S {a:n_}(h:SmA a)(nm:Str){n:Nat}(hn:1060100<=n):i_2 n a nm=some (delP a nm):=by
 unfold i_2 delP
 rw [m_Z h,bd_some,k_D h hn]
 cases ha:b_6 a with
 | false=>rfl
 | true =>
  simp only [bd_some,nT_,bF_,fF_,Bool.true_and]
  rw [k_E h hn,bd_some,iP_<|p_m ha,t_R,bd_some]
  cases decide (i_R (b_T a.log.bytes) nm<0) with
  | true=>rfl
  | false =>
   simp only [bd_some,Bool.not_false,bF_,fF_,Bool.true_and]
   refine (congrArg (λz=>bd2 z _)<|p_s (l:=⟨a.log.bytes,a.log.stored⟩) h.bytes _ hn).trans ?_;unfold appP
   rw [show a_q ⟨a.log.bytes,a.log.stored⟩=true from p_m ha,Bool.and_true]
   cases a_I ⟨2,nm,0,[]⟩ <;> rfl
end Go.Vw
