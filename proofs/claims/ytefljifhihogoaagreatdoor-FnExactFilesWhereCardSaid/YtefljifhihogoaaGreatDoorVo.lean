
import Derived.Test.YtefljifhihogoaaGreatDoorVn
namespace Go.Vw
set_option linter.unusedVariables false
open Go.RowKit Dat
section
variable {d:d_}{b:Bt}
def b_w (d:d_)(b:Bt)(pattern:Str):List j_:=(b_4 d b).filter (λe=>e_E pattern e.path)
theorem n_Y {α:Type}{f:α->Bool}{l:List α}{k:Nat}(hk:k<l.length):(l.take<|k+1).filter f=if f l[k] then (l.take k).filter f++[l[k]] else (l.take k).filter f:=by
 grind [h_j]
theorem g_6 {e:j_}(he:e∈b_4 d b):e.path.b.length<=MX:=by
 have hMX:=MXv;obtain ⟨_,_,i,p,L⟩:=w_k he;have:=L.path
 omega
theorem r_f {l:List j_}(h:l.length<=10000)(x:j_):psh l x=some (l++[x]):=a_Z (by grind [a_7])
theorem r_g (f:j_->Bool)(k:Nat):(((b_4 d b).take k).filter f).length<=10000:=by
 grind [b_4,List.length_take,List.length_filter_le,q_q]
theorem w_u {n:Nat}(hn:1048600<=n)(hd:SmD d){pattern:Str}(hp:pattern.b.length<=MX):k_w n d b pattern=some (b_w d b pattern):=by
 unfold k_w b_w
 rw [v_E hd (by omega)]
 simp only [a_b]
 refine (congrArg (λz=>bd z _)<|h_h (λk=>((b_4 d b).take k).filter (λe=>e_E pattern e.path)) (n:=(b_4 d b).length) rfl<|λk hk=>?_).trans ?_
 .simp only [ix_ hk,a_,w_s hn hp<|g_6<|gE_ hk]
  rw [n_Y hk]
  cases e_E pattern (b_4 d b)[k].path with
  | true=>simp_all [r_f,r_g]
  | false=>rfl
 simp
theorem w_v {n:Nat}(hn:1048600<=n)(hd:SmD d){pattern:Str}(hp:pattern.b.length<=MX):k_B n d b pattern=some (b_w d b pattern):=by
 unfold k_B
 rw [v_F hd (by omega)]
 simp only [a_b]
 cases hok:okF d b with
 | false =>
  grind [b_w,b_4]
 | true =>
  simp only [nT_,bF_,fF_]
  unfold m_w m_v b_w;refine (congrArg (λz=>bd (bd z _) _)<|h_h (λk=>((b_4 d b).take k).filter (λe=>e_E pattern e.path)) (n:=(b_4 d b).length) rfl<|λk hk=>?_).trans ?_
  .simp only [ix_ hk,a_,w_t hn hp<|g_6<|gE_ hk]
   rw [n_Y hk]
   cases e_E pattern (b_4 d b)[k].path with
   | true=>simp_all [r_f,r_g]
   | false=>rfl
  simp
theorem w_w (pattern:Str):(b_w d b pattern).length<=10000:=by
 grind [b_w,e_E,b_4,List.length_filter_le,q_q]
end
end Go.Vw
