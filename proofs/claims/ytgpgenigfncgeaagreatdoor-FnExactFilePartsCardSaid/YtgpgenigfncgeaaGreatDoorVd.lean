
import Derived.Test.YtgpgenigfncgeaaGreatDoorVc
namespace Go.Vw
open Go.RowKit Dat
section
variable {d:f_}{b:Bt}
def e_5 (d:f_)(b:Bt)(pattern:Str):List l_:=(b_z d b).filter (λe=>e_4 pattern e.path)
theorem p_d {α:Type}{f:α->Bool}{l:List α}{k:Nat}(hk:k<l.length):(l.take<|k+1).filter f=if f l[k] then (l.take k).filter f++[l[k]] else (l.take k).filter f:=by
 rw [g_s hk,List.filter_append]
 cases h:f l[k] <;> simp [h]
theorem p_e {e:l_}(he:e∈b_z d b):e.path.b.length<=MX:=by
 have hMX:=MXv;obtain ⟨_,_,i,p,L⟩:=t_R he;have:=L.path
 omega
theorem p_f {l:List l_}(h:l.length<=10000)(x:l_):psh l x=some (l++[x]):=b_o (by rw [a_o];omega)
theorem p_g (f:l_->Bool)(k:Nat):(((b_z d b).take k).filter f).length<=10000:=by
 have h1:=o_G (d:=d) (b:=b);have h2:=List.length_filter_le f<|(b_z d b).take k
 rw [List.length_take] at h2
 omega
theorem u_1 {n:Nat}(hn:1048600<=n)(hd:SmD d){pattern:Str}(hp:pattern.b.length<=MX):j_1 n d b pattern=some (e_5 d b pattern):=by
 unfold j_1 e_5
 rw [t_s hd (by omega)]
 simp only [bd2_some]
 refine (congrArg (λz=>bd z _)<|g_r (λk=>((b_z d b).take k).filter (λe=>e_4 pattern e.path)) (n:=(b_z d b).length) rfl<|λk hk=>?_).trans ?_
 .simp only [ix_ hk,bd_some,t_Z hn hp<|p_e<|gE_ hk]
  rw [p_d hk]
  cases e_4 pattern (b_z d b)[k].path with
  | true=>simp only [fT_];rw [p_f (p_g _ k)];rfl
  | false=>rfl
 .rw [bd_some,el_inl,List.take_length]
theorem u_2 {n:Nat}(hn:1048600<=n)(hd:SmD d){pattern:Str}(hp:pattern.b.length<=MX):j_6 n d b pattern=some (e_5 d b pattern):=by
 unfold j_6
 rw [t_t hd (by omega)]
 simp only [bd2_some]
 cases hok:okF d b with
 | false =>
  have:e_5 d b pattern=[]:=by unfold e_5 b_z;rw [hok];rfl
  rw [this];rfl
 | true =>
  simp only [nT_,bF_,fF_]
  unfold l_n l_m e_5;refine (congrArg (λz=>bd (bd z _) _)<|g_r (λk=>((b_z d b).take k).filter (λe=>e_4 pattern e.path)) (n:=(b_z d b).length) rfl<|λk hk=>?_).trans ?_
  .simp only [ix_ hk,bd_some,u_0 hn hp<|p_e<|gE_ hk]
   rw [p_d hk]
   cases e_4 pattern (b_z d b)[k].path with
   | true=>simp only [fT_];rw [p_f (p_g _ k)];rfl
   | false=>rfl
  .rw [bd_some,el_inl,List.take_length];rfl
theorem u_3 (pattern:Str):(e_5 d b pattern).length<=10000:=by
 have h1:=o_G (d:=d) (b:=b);have h2:=List.length_filter_le (λe:l_=>e_4 pattern e.path)<|b_z d b;unfold e_5;omega
end
end Go.Vw
