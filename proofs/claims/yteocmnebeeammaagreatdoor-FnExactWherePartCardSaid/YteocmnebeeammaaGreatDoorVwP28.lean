
import Derived.Test.YteocmnebeeammaaGreatDoorVwP27
namespace Go.Vw
open Go.RowKit Dat
section
variable {d:d_}{b:Bt}
def a_U (d:d_)(b:Bt)(pattern:Str):List k_:=(a_Q d b).filter (λe=>d_B pattern e.path)
theorem l_9 {α:Type}{f:α->Bool}{l:List α}{k:Nat}(hk:k<l.length):(l.take<|k+1).filter f=if f l[k] then (l.take k).filter f++[l[k]] else (l.take k).filter f:=by
 rw [f_7 hk,List.filter_append]
 cases h:f l[k] <;> simp [h]
theorem e_w {e:k_}(he:e∈a_Q d b):e.path.b.length<=MX:=by
 have hMX:=MXv;obtain ⟨_,_,i,p,L⟩:=r_W he;have:=L.path
 omega
theorem o_0 {l:List k_}(h:l.length<=10000)(x:k_):psh l x=some (l++[x]):=c_s (by rw [a_L];omega)
theorem o_1 (f:k_->Bool)(k:Nat):(((a_Q d b).take k).filter f).length<=10000:=by
 have h1:=n_c (d:=d) (b:=b);have h2:=List.length_filter_le f<|(a_Q d b).take k
 rw [List.length_take] at h2
 omega
theorem s_6 {n:Nat}(hn:1048600<=n)(hd:SmD d){pattern:Str}(hp:pattern.b.length<=MX):i_4 n d b pattern=some (a_U d b pattern):=by
 unfold i_4 a_U
 rw [r_9 hd (by omega)]
 simp only [bd2_some]
 refine (congrArg (λz=>bd z _)<|f_6 (λk=>((a_Q d b).take k).filter (λe=>d_B pattern e.path)) (n:=(a_Q d b).length) rfl<|λk hk=>?_).trans ?_
 .simp only [ix_ hk,bd_some,s_4 hn hp<|e_w<|gE_ hk]
  rw [l_9 hk]
  cases d_B pattern (a_Q d b)[k].path with
  | true=>simp only [fT_];rw [o_0 (o_1 _ k)];rfl
  | false=>rfl
 .rw [bd_some,el_inl,List.take_length]
theorem s_7 {n:Nat}(hn:1048600<=n)(hd:SmD d){pattern:Str}(hp:pattern.b.length<=MX):i_9 n d b pattern=some (a_U d b pattern):=by
 unfold i_9
 rw [r_a hd (by omega)]
 simp only [bd2_some]
 cases hok:okF d b with
 | false =>
  have:a_U d b pattern=[]:=by unfold a_U a_Q;rw [hok];rfl
  rw [this];rfl
 | true =>
  simp only [nT_,bF_,fF_]
  unfold j_Z j_Y a_U;refine (congrArg (λz=>bd (bd z _) _)<|f_6 (λk=>((a_Q d b).take k).filter (λe=>d_B pattern e.path)) (n:=(a_Q d b).length) rfl<|λk hk=>?_).trans ?_
  .simp only [ix_ hk,bd_some,s_5 hn hp<|e_w<|gE_ hk]
   rw [l_9 hk]
   cases d_B pattern (a_Q d b)[k].path with
   | true=>simp only [fT_];rw [o_0 (o_1 _ k)];rfl
   | false=>rfl
  .rw [bd_some,el_inl,List.take_length];rfl
theorem s_8 (pattern:Str):(a_U d b pattern).length<=10000:=by
 have h1:=n_c (d:=d) (b:=b);have h2:=List.length_filter_le (λe:k_=>d_B pattern e.path)<|a_Q d b;unfold a_U;omega
end
end Go.Vw
