
import Derived.Test.YtgpgenigfncgeaaGreatDoorVo
namespace Go.Vw
open Go.RowKit Dat
def n_4 (l:List r_)(nm:Str):Int:=match l.findIdx? (λf=>f.name.b==nm.b) with | some k=>(k:Int) | none=>-1
theorem v_a (l:List r_)(nm:Str):j_z l nm=some (n_4 l nm):=by
 unfold j_z n_4
 rw [f_3 (λk=>if hk:k<l.length then l[k].name.b==nm.b else false) (λk=>(k:Int)) (λk hk _=>by
  rw [ix_ hk,bd_some,dif_pos hk]
  cases (l[k].name.b==nm.b) <;> rfl)]
 rw [m_V l (λf=>f.name.b==nm.b) _ (λk hk=>by rw [dif_pos hk])]
 cases l.findIdx? (λf=>f.name.b==nm.b) <;> rfl
end Go.Vw
