
import Derived.Test.YtgpgenigfncgeaaGreatDoorVo
namespace Go.Vw
open Go.RowKit Dat
theorem v_b {a:J_}(h:c_m a=true):(c_k a.log.bytes).length<=20:=by
 unfold c_m at h
 simp only [aE_,dE_] at h
 exact h.2.2.1
section
variable {l:List r_}{g:r_->List Str}
end
def okS (f:r_):Prop:=f.name.b.length<=12/\0<=f.version/\f.version<=7/\f.data.length<=400
theorem q_8:∀(rs:List p_)(l:List r_),(∀f∈l,okS f)->(∀r∈rs,b_n r=true)->∀f∈rs.foldl b_V l,okS f
 | [],_,h,_=>h
 | r::rs,l,h,hr=>by
  refine q_8 rs (b_V l r) ?_<|λx hx=>hr x<|mT_ _ hx;have hv:=e_W<|hr r mS_;have G:okS (c_I r):=⟨hv.1,hv.2.1,hv.2.2.1,hv.2.2.2.1⟩;intro f hf;unfold b_V at hf
  split at hf
  .split at hf
   .rcases List.mem_or_eq_of_mem_set hf with hf | rfl
    .exact h f hf
    .exact G
   .exact h f<|List.mem_of_mem_eraseIdx hf
  .split at hf
   .rcases List.mem_append.1 hf with hf | hf
    .exact h f hf
    .rw [List.mem_singleton] at hf;subst hf;exact G
   .exact h f hf
theorem v_c (s:Bt):∀f∈c_k s,okS f :=
 q_8 _ _ (λf hf=>by cases hf) (f_A _ s<|Nat.le_refl _).2.2
theorem v_d (a:J_):∀f∈b_A a,okS f:=by
 unfold b_A
 split
 .exact v_c _
 .intro f hf;cases hf
end Go.Vw
