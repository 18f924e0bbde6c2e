
import Derived.Test.YtllmonllbkaflaaGreatDoorVu
namespace Go.Vw
open Go.RowKit Dat
section
variable {d:c_}{b:Bt}
def f_c (d:c_)(b:Bt)(e:g_):Str:=(d_D 1048600 d b e.path).getD ⟨[]⟩
def isT (d:c_)(b:Bt)(t:Str)(e:g_):Bool:=(f_c d b e).b==t.b
def whP (d:c_)(b:Bt)(pat t:Str):List Str:=((a_K d b pat).filter (isT d b t)).map (·.path)
theorem p_p {n:Nat}(hn:1048600<=n)(hd:SmD d){e:g_}(he:e∈a_X d b):d_D n d b e.path=some (f_c d b e)/\∃(v:Val)(x:Int),e_E n d e.rule b e.start=some (v,x,0)/\f_s n d e.rule v=some (f_c d b e):=by
 obtain ⟨t,v,x,h1,h2,h3,h4⟩:=p_o (n:=n) hn hd he
 have:f_c d b e=t:=by
  obtain ⟨t',v',x',g1,_⟩:=p_o (n:=1048600) (Nat.le_refl _) hd he;unfold f_c
  rw [g1,Option.getD_some]
  have G:=h1;have H:=g1;unfold d_D at G H
  rw [g_7 hd hn (f_6 he),k_m hd hn<|f_6 he] at G
  rw [g_7 hd (Nat.le_refl _) (f_6 he),k_m hd (Nat.le_refl _)<|f_6 he] at H
  obtain ⟨i,p,heq,hi,hp,hok,hf⟩:=p_w hd he;obtain ⟨hv,hb,_,_,_⟩:=i_g hf;unfold d_Z e_r at G H
  rw [hf,bd2_some,iN_ (by simp),bd2_some] at G H
  simp only at G H
  have hvl:=(b_f hv).2;obtain ⟨J,_,I,_⟩:=p_k hv hd hb i hi p hp hok;unfold h_E at G H
  rw [p_a hv hd hb hi hp hok (by omega),bd_some,iN_ (by simp),I _ (by omega),bd_some,bd_some] at G H
  rw [← Option.some.inj G,← Option.some.inj H]
 rw [this]
 exact ⟨h1,v,x,h3,h4⟩
theorem p_q {pat:Str}{k:Nat}(h:k<(a_K d b pat).length):(a_K d b pat)[k]∈a_X d b:=(List.mem_filter.1<|gE_ h).1
theorem u_f {pat t:Str}{k:Nat}(h:k<(a_K d b pat).length):(((a_K d b pat).take (k+1)).filter (isT d b t)).map (·.path)=if isT d b t (a_K d b pat)[k] then (((a_K d b pat).take k).filter (isT d b t)).map (·.path)++[(a_K d b pat)[k].path] else (((a_K d b pat).take k).filter (isT d b t)).map (·.path):=by
 rw [k_r h]
 split <;> simp
theorem p_r (pat t:Str)(k:Nat):((((a_K d b pat).take k).filter (isT d b t)).map (·.path)).length<=10000:=by
 have h1:=t_y (d:=d) (b:=b) pat;have h2:=List.length_filter_le (isT d b t)<|(a_K d b pat).take k
 rw [List.length_take] at h2
 rw [List.length_map];omega
theorem u_g {n:Nat}(hn:1048600<=n)(hd:SmD d){pat:Str}(hp:pat.b.length<=MX)(t:Str):i_w n d b pat t=some (whP d b pat t):=by
 have hLIM:=a_m;unfold i_w whP
 rw [t_x hn hd hp,bd_some]
 refine (congrArg (λz=>bd z _)<|g_2 (λk=>(((a_K d b pat).take k).filter (isT d b t)).map (·.path)) (n:=(a_K d b pat).length) rfl<|λk hk=>?_).trans ?_
 .have hm:=p_q hk
  rw [u_f hk]
  have hl:=p_r (d:=d) (b:=b) pat t k;obtain ⟨_,v,x,h3,h4⟩:=p_p hn hd hm
  simp only [ix_ hk,bd_some,h3,bd3_some,h4]
  generalize (((a_K d b pat).take k).filter (isT d b t)).map (·.path)=u at *
  unfold isT
  split
  .rw [a_s (by omega),bd_some,bd_some]
  .rw [bd_some]
 .rw [bd_some,el_inl,List.take_length]
end
end Go.Vw
