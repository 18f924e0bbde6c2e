
import Derived.Test.YtllmonllbkaflaaGreatDoorVr
namespace Go.Vw
open Go.RowKit Dat
section
variable {d:c_}{b:Bt}
def a_K (d:c_)(b:Bt)(pattern:Str):List g_:=(a_X d b).filter (λe=>e_1 pattern e.path)
theorem k_r {α:Type}{f:α->Bool}{l:List α}{k:Nat}(hk:k<l.length):(l.take<|k+1).filter f=if f l[k] then (l.take k).filter f++[l[k]] else (l.take k).filter f:=by
 rw [g_6 hk,List.filter_append]
 cases h:f l[k] <;> simp [h]
theorem f_6 {e:g_}(he:e∈a_X d b):e.path.b.length<=MX:=by
 have hMX:=MXv;obtain ⟨_,_,i,p,L⟩:=t_m he;have:=L.path
 omega
theorem o_P {l:List g_}(h:l.length<=10000)(x:g_):psh l x=some (l++[x]):=a_s (by rw [a_m];omega)
theorem o_Q (f:g_->Bool)(k:Nat):(((a_X d b).take k).filter f).length<=10000:=by
 have h1:=o_0 (d:=d) (b:=b);have h2:=List.length_filter_le f<|(a_X d b).take k
 rw [List.length_take] at h2
 omega
theorem t_w {n:Nat}(hn:1048600<=n)(hd:SmD d){pattern:Str}(hp:pattern.b.length<=MX):j_f n d b pattern=some (a_K d b pattern):=by
 unfold j_f a_K
 rw [s_Q hd (by omega)]
 simp only [bd2_some]
 refine (congrArg (λz=>bd z _)<|g_2 (λk=>((a_X d b).take k).filter (λe=>e_1 pattern e.path)) (n:=(a_X d b).length) rfl<|λk hk=>?_).trans ?_
 .simp only [ix_ hk,bd_some,t_u hn hp<|f_6<|gE_ hk]
  rw [k_r hk]
  cases e_1 pattern (a_X d b)[k].path with
  | true=>simp only [fT_];rw [o_P (o_Q _ k)];rfl
  | false=>rfl
 .rw [bd_some,el_inl,List.take_length]
theorem t_x {n:Nat}(hn:1048600<=n)(hd:SmD d){pattern:Str}(hp:pattern.b.length<=MX):j_k n d b pattern=some (a_K d b pattern):=by
 unfold j_k
 rw [s_R hd (by omega)]
 simp only [bd2_some]
 cases hok:okF d b with
 | false =>
  have:a_K d b pattern=[]:=by unfold a_K a_X;rw [hok];rfl
  rw [this];rfl
 | true =>
  simp only [nT_,bF_,fF_]
  unfold k_S k_R a_K;refine (congrArg (λz=>bd (bd z _) _)<|g_2 (λk=>((a_X d b).take k).filter (λe=>e_1 pattern e.path)) (n:=(a_X d b).length) rfl<|λk hk=>?_).trans ?_
  .simp only [ix_ hk,bd_some,t_v hn hp<|f_6<|gE_ hk]
   rw [k_r hk]
   cases e_1 pattern (a_X d b)[k].path with
   | true=>simp only [fT_];rw [o_P (o_Q _ k)];rfl
   | false=>rfl
  .rw [bd_some,el_inl,List.take_length];rfl
theorem t_y (pattern:Str):(a_K d b pattern).length<=10000:=by
 have h1:=o_0 (d:=d) (b:=b);have h2:=List.length_filter_le (λe:g_=>e_1 pattern e.path)<|a_X d b;unfold a_K;omega
end
end Go.Vw
