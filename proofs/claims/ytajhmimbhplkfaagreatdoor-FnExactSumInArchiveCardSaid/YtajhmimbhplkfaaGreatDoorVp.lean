
import Derived.Test.YtajhmimbhplkfaaGreatDoorVo
namespace Go.Vw
open Go.RowKit Dat
theorem p_6 {a:L_}(h:c_g a=true):(c_e a.log.bytes).length<=20:=by
 unfold c_g at h
 simp only [aE_,dE_] at h
 exact h.2.2.1
section
variable {l:List q_}{g:q_->List Str}
end
theorem t_C (a:L_):(b_2 a).length<=20:=by
 unfold b_2
 split
 ·rename_i h;exact p_6 h
 ·simp
def okS (f:q_):Prop:=f.name.b.length<=12/\0<=f.version/\f.version<=7/\f.data.length<=400
theorem p_7:∀(rs:List o_)(l:List q_),(∀f∈l,okS f)->(∀r∈rs,b_g r=true)->∀f∈rs.foldl b_Q l,okS f
 | [],_,h,_=>h
 | r::rs,l,h,hr=>by
  refine p_7 rs (b_Q l r) ?_<|fun x hx=>hr x<|mT_ _ hx;have hv:=e_J<|hr r mS_;have G:okS (c_C r):=⟨hv.1,hv.2.1,hv.2.2.1,hv.2.2.2.1⟩;intro f hf;unfold b_Q at hf
  split at hf
  ·split at hf
   ·rcases List.mem_or_eq_of_mem_set hf with hf | rfl
    ·exact h f hf
    ·exact G
   ·exact h f<|List.mem_of_mem_eraseIdx hf
  ·split at hf
   ·rcases List.mem_append.1 hf with hf | hf
    ·exact h f hf
    ·rw [List.mem_singleton] at hf;subst hf;exact G
   ·exact h f hf
theorem t_D (s:List UInt8):∀f∈c_e s,okS f :=
 p_7 _ _ (fun f hf=>by cases hf) (f_q _ s<|Nat.le_refl _).2.2
theorem t_E (a:L_):∀f∈b_2 a,okS f:=by
 unfold b_2
 split
 ·exact t_D _
 ·intro f hf;cases hf
end Go.Vw
