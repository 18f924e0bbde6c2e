
import Derived.Test.YtllmonllbkaflaaGreatDoorVo
import Derived.Test.YtllmonllbkaflaaGreatDoorVt
namespace Go.Vw
open Go.RowKit Dat
section
variable {d:c_}{b:Bt}
theorem p_o {n:Nat}(hn:1048600<=n)(hd:SmD d){e:g_}(he:e∈a_X d b):∃(t:Str)(v:Val)(x:Int),d_D n d b e.path=some t/\k_X n d b e.path=some t/\e_E n d e.rule b e.start=some (v,x,0)/\f_s n d e.rule v=some t:=by
 obtain ⟨i,p,heq,hi,hp,hok,hf⟩:=p_w hd he;obtain ⟨hv,hb,_,_,_⟩:=i_g hf;have hps:=f_6 he;obtain ⟨t,I,G⟩:=p_l hv hd hb hi hp hok (n:=n) (by omega);have H:e.rule=(i:Int):=congrArg g_.rule heq;have J:e.start=(p:Int):=congrArg g_.start heq;refine ⟨t,(rdW d.rules b i p).1,((rdW d.rules b i p).2.1:Int),?_,?_,?_,?_⟩
 .unfold d_D
  rw [g_7 hd hn hps,k_m hd hn hps]
  unfold d_Z e_r
  rw [hf,bd2_some,iN_ (by simp),bd2_some]
  simp only
  rw [I,bd_some]
 .unfold k_X
  rw [o_x hd hn hps]
  unfold e_r
  rw [hf,bd3_some,iN_ (by simp)]
  simp only
  rw [G,bd_some]
 .rw [H,J,m_A hd (by omega),m_7 hv hb hi hp]
  unfold b_p
  rw [hok]
 .rw [H];exact G
end
end Go.Vw
