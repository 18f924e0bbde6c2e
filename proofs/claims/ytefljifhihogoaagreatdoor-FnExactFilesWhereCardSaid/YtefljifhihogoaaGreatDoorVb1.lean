import Derived.Test.YtefljifhihogoaaGreatDoorVz
import Derived.Test.YtefljifhihogoaaGreatDoorVb0
namespace Go.Vw
set_option linter.unusedVariables false
open Go.RowKit Dat
section
variable {d:d_}{b:Bt}
theorem s_C {n:Nat}(hn:1048600<=n)(hd:SmD d){e:j_}(he:e∈b_4 d b):∃(t:Str)(v:Val)(x:Int),g_J n d b e.path=some t/\t_S n d b e.path=some t/\f_p n d e.rule b e.start=some (v,x,0)/\g_K n d e.rule v=some t:=by
 obtain ⟨i,p,heq,hi,hp,hok,hf⟩:=s_M hd he;obtain ⟨hv,hb,_,_,_⟩:=l_K hf;have hps:=g_6 he;obtain ⟨t,G,H⟩:=y_3 hv hd hb hi hp hok (n:=n) (by omega);have I:e.rule=(i:Int):=congrArg j_.rule heq;have J:e.start=(p:Int):=congrArg j_.start heq;refine ⟨t,(rdW d.rules b i p).1,((rdW d.rules b i p).2.1:Int),?_,?_,?_,?_⟩
 .unfold g_J
  rw [i_6 hd hn hps,n_S hd hn hps]
  unfold f_e g_2
  rw [hf,a_b,iN_ (by simp),a_b]
  grind [a_]
 .unfold t_S
  rw [w_i hd hn hps]
  unfold g_2
  rw [hf,a_E,iN_ (by simp)]
  grind [a_]
 .grind [b_B,o_s,n_F]
 grind
end
end Go.Vw
namespace Go.Vw
open Go.RowKit Dat
section
variable {d:d_}{b:Bt}
def j_B (d:d_)(b:Bt)(e:j_):Str:=(g_J 1048600 d b e.path).getD ⟨[]⟩
def isT (d:d_)(b:Bt)(t:Str)(e:j_):Bool:=(j_B d b e).b==t.b
def whP (d:d_)(b:Bt)(pat t:Str):List Str:=((b_w d b pat).filter (isT d b t)).map (·.path)
theorem s_D {n:Nat}(hn:1048600<=n)(hd:SmD d){e:j_}(he:e∈b_4 d b):g_J n d b e.path=some (j_B d b e)/\∃(v:Val)(x:Int),f_p n d e.rule b e.start=some (v,x,0)/\g_K n d e.rule v=some (j_B d b e):=by
 obtain ⟨t,v,x,h1,h2,h3,h4⟩:=s_C (n:=n) hn hd he
 have:j_B d b e=t:=by
  obtain ⟨t',v',x',g1,_⟩:=s_C (n:=1048600) (QAB _) hd he;unfold j_B
  rw [g1,Option.getD_some]
  have G:=h1;have H:=g1;unfold g_J at G H
  rw [i_6 hd hn (g_6 he),n_S hd hn<|g_6 he] at G
  rw [i_6 hd (QAB _) (g_6 he),n_S hd (QAB _)<|g_6 he] at H
  obtain ⟨i,p,heq,hi,hp,hok,hf⟩:=s_M hd he;obtain ⟨hv,hb,_,_,_⟩:=l_K hf;unfold f_e g_2 at G H
  rw [hf,a_b,iN_ (by simp),a_b] at G H
  simp only at G H
  have hvl:=(b_i hv).2;obtain ⟨J,_,I,_⟩:=s_z hv hd hb i hi p hp hok;unfold j_0 at G H
  rw [s_p hv hd hb hi hp hok (by omega),a_,iN_ (by simp),I _ (by omega),a_,a_] at G H
  grind
 grind
theorem s_E {pat:Str}{k:Nat}(h:k<(b_w d b pat).length):(b_w d b pat)[k]∈b_4 d b:=(List.mem_filter.1<|gE_ h).1
theorem s_F {pat t:Str}{k:Nat}(h:k<(b_w d b pat).length):(((b_w d b pat).take (k+1)).filter (isT d b t)).map (·.path)=if isT d b t (b_w d b pat)[k] then (((b_w d b pat).take k).filter (isT d b t)).map (·.path)++[(b_w d b pat)[k].path] else (((b_w d b pat).take k).filter (isT d b t)).map (·.path):=by
 grind [n_Y]
theorem s_G (pat t:Str)(k:Nat):((((b_w d b pat).take k).filter (isT d b t)).map (·.path)).length<=10000:=by
 grind [isT,b_w,List.length_map,List.length_take,List.length_filter_le,w_w]
theorem y_5 {n:Nat}(hn:1048600<=n)(hd:SmD d){pat:Str}(hp:pat.b.length<=MX)(t:Str):i_k n d b pat t=some (whP d b pat t):=by
 have hLIM:=a_7;unfold i_k whP
 rw [w_u hn hd hp,a_]
 refine (congrArg (λz=>bd z _)<|h_h (λk=>(((b_w d b pat).take k).filter (isT d b t)).map (·.path)) (n:=(b_w d b pat).length) rfl<|λk hk=>?_).trans ?_
 .have hm:=s_E hk
  rw [s_F hk]
  have hl:=s_G (d:=d) (b:=b) pat t k
  simp only [ix_ hk,a_,(s_D hn hd hm).1]
  grind [isT,b_w,isT,a_,a_Z,a_]
 simp
theorem y_6 {n:Nat}(hn:1048600<=n)(hd:SmD d){pat:Str}(hp:pat.b.length<=MX)(t:Str):j_H n d b pat t=some (whP d b pat t):=by
 have hLIM:=a_7;unfold j_H whP
 rw [w_v hn hd hp,a_]
 refine (congrArg (λz=>bd z _)<|h_h (λk=>(((b_w d b pat).take k).filter (isT d b t)).map (·.path)) (n:=(b_w d b pat).length) rfl<|λk hk=>?_).trans ?_
 .have hm:=s_E hk
  rw [s_F hk]
  have hl:=s_G (d:=d) (b:=b) pat t k;obtain ⟨_,v,x,h3,h4⟩:=s_D hn hd hm
  simp only [ix_ hk,a_,h3,a_E,h4]
  grind [isT,b_w,isT,a_,a_Z,a_]
 simp
end
end Go.Vw
