
import Derived.Test.YtelphaiofendpaaGreatDoorVwP69
import Derived.Test.YtelphaiofendpaaGreatDoorVwP85
namespace Go.Vw
open Go.RowKit Dat
section
variable {d:d_}{b:Bt}
theorem s_z {n:Nat}(hn:1048600<=n)(hd:SmD d){e:y_}(he:e∈a_K d b):∃(t:Str)(v:Val)(x:Int),o_D n d b e.path=some t/\i_i n d b e.path=some t/\f_i n d e.rule b e.start=some (v,x,0)/\g_u n d e.rule v=some t:=by
 obtain ⟨i,p,heq,hi,hp,hok,hf⟩:=o_d hd he;obtain ⟨hv,hb,_,_,_⟩:=j_s hf;have hps:=l_o he;obtain ⟨t,I,G⟩:=o_5 hv hd hb hi hp hok (n:=n) (by omega);have H:e.rule=(i:Int):=congrArg y_.rule heq;have J:e.start=(p:Int):=congrArg y_.start heq;refine ⟨t,(rdW d.rules b i p).1,((rdW d.rules b i p).2.1:Int),?_,?_,?_,?_⟩
 .unfold o_D
  rw [j_t hd hn hps,r_S hd hn hps]
  unfold d_U d_t
  rw [hf,bd2_some,iN_ (by simp),bd2_some]
  simp only
  rw [I,bd_some]
 .unfold i_i
  rw [l_l hd hn hps]
  unfold d_t
  rw [hf,bd3_some,iN_ (by simp)]
  simp only
  rw [G,bd_some]
 .rw [H,J,l_E hd (by omega),j_l hv hb hi hp]
  unfold b_m
  rw [hok]
 .rw [H];exact G
end
end Go.Vw
