
import Derived.Test.YteocmnebeeammaaGreatDoorVwP70
import Derived.Test.YteocmnebeeammaaGreatDoorVwP18
namespace Go.Vw
open Go.RowKit Dat
section
variable {d:d_}{b:Bt}
def h_5 (d:d_)(b:Bt)(e:k_):Str:=(e_X 1048600 d b e.path).getD ⟨[]⟩
def isT (d:d_)(b:Bt)(t:Str)(e:k_):Bool:=(h_5 d b e).b==t.b
def whP (d:d_)(b:Bt)(pat t:Str):List Str:=((a_U d b pat).filter (isT d b t)).map (·.path)
theorem o_t {n:Nat}(hn:1048600<=n)(hd:SmD d){e:k_}(he:e∈a_Q d b):e_X n d b e.path=some (h_5 d b e)/\∃(v:Val)(x:Int),e_a n d e.rule b e.start=some (v,x,0)/\e_Y n d e.rule v=some (h_5 d b e):=by
 obtain ⟨t,v,x,h1,h2,h3,h4⟩:=o_s (n:=n) hn hd he
 have:h_5 d b e=t:=by
  obtain ⟨t',v',x',g1,_⟩:=o_s (n:=1048600) (Nat.le_refl _) hd he;unfold h_5
  rw [g1,Option.getD_some]
  have G:=h1;have H:=g1;unfold e_X at G H
  rw [f_T hd hn (e_w he),l_4 hd hn<|e_w he] at G
  rw [f_T hd (Nat.le_refl _) (e_w he),l_4 hd (Nat.le_refl _)<|e_w he] at H
  obtain ⟨i,p,heq,hi,hp,hok,hf⟩:=o_r hd he;obtain ⟨hv,hb,_,_,_⟩:=j_n hf;unfold d_Y e_v at G H
  rw [hf,bd2_some,iN_ (by simp),bd2_some] at G H
  simp only at G H
  have hvl:=(a_Y hv).2;obtain ⟨J,_,I,_⟩:=o_o hv hd hb i hi p hp hok;unfold g_B at G H
  rw [o_e hv hd hb hi hp hok (by omega),bd_some,iN_ (by simp),I _ (by omega),bd_some,bd_some] at G H
  rw [← Option.some.inj G,← Option.some.inj H]
 rw [this]
 exact ⟨h1,v,x,h3,h4⟩
theorem o_u {pat:Str}{k:Nat}(h:k<(a_U d b pat).length):(a_U d b pat)[k]∈a_Q d b:=(List.mem_filter.1<|gE_ h).1
theorem o_v {pat t:Str}{k:Nat}(h:k<(a_U d b pat).length):(((a_U d b pat).take (k+1)).filter (isT d b t)).map (·.path)=if isT d b t (a_U d b pat)[k] then (((a_U d b pat).take k).filter (isT d b t)).map (·.path)++[(a_U d b pat)[k].path] else (((a_U d b pat).take k).filter (isT d b t)).map (·.path):=by
 rw [l_9 h]
 split <;> simp
theorem l_k (pat t:Str)(k:Nat):((((a_U d b pat).take k).filter (isT d b t)).map (·.path)).length<=10000:=by
 have h1:=s_8 (d:=d) (b:=b) pat;have h2:=List.length_filter_le (isT d b t)<|(a_U d b pat).take k
 rw [List.length_take] at h2
 rw [List.length_map];omega
theorem s_B {n:Nat}(hn:1048600<=n)(hd:SmD d){pat:Str}(hp:pat.b.length<=MX)(t:Str):h_a n d b pat t=some (whP d b pat t):=by
 have hLIM:=a_L;unfold h_a whP
 rw [s_6 hn hd hp,bd_some]
 refine (congrArg (λz=>bd z _)<|f_6 (λk=>(((a_U d b pat).take k).filter (isT d b t)).map (·.path)) (n:=(a_U d b pat).length) rfl<|λk hk=>?_).trans ?_
 .have hm:=o_u hk
  rw [o_v hk]
  have hl:=l_k (d:=d) (b:=b) pat t k
  simp only [ix_ hk,bd_some,(o_t hn hd hm).1]
  generalize (((a_U d b pat).take k).filter (isT d b t)).map (·.path)=u at *
  unfold isT
  split
  .rw [c_s (by omega),bd_some,bd_some]
  .rw [bd_some]
 .rw [bd_some,el_inl,List.take_length]
theorem s_C {n:Nat}(hn:1048600<=n)(hd:SmD d){pat:Str}(hp:pat.b.length<=MX)(t:Str):g_7 n d b pat t=some (whP d b pat t):=by
 have hLIM:=a_L;unfold g_7 whP
 rw [s_7 hn hd hp,bd_some]
 refine (congrArg (λz=>bd z _)<|f_6 (λk=>(((a_U d b pat).take k).filter (isT d b t)).map (·.path)) (n:=(a_U d b pat).length) rfl<|λk hk=>?_).trans ?_
 .have hm:=o_u hk
  rw [o_v hk]
  have hl:=l_k (d:=d) (b:=b) pat t k;obtain ⟨_,v,x,h3,h4⟩:=o_t hn hd hm
  simp only [ix_ hk,bd_some,h3,bd3_some,h4]
  generalize (((a_U d b pat).take k).filter (isT d b t)).map (·.path)=u at *
  unfold isT
  split
  .rw [c_s (by omega),bd_some,bd_some]
  .rw [bd_some]
 .rw [bd_some,el_inl,List.take_length]
theorem s_D {n:Nat}(hn:4000000<=n){pat t:Str}(hd:LnD d)(hb:b.length<=LEN)(hp:pat.b.length<=LEN)(ht:t.b.length<=LEN):h_b n d b pat t=some true:=by
 have hMX:=MXv;have hLEN:=LENv;unfold h_b
 by_cases h1:(1048576:Int)<(b.length:Int)
 .rw [dT_ h1];rfl
 rw [dF_ h1]
 simp only [bF_,fF_]
 by_cases h3:(1048576:Int)<(pat.b.length:Int)
 .rw [dT_ h3];rfl
 rw [dF_ h3]
 simp only [bF_,fF_]
 by_cases h4:(1048576:Int)<(t.b.length:Int)
 .rw [dT_ h4];rfl
 rw [dF_ h4]
 obtain ⟨r,hr,G⟩:=r_e hd
 simp only [bF_,fF_]
 rw [hr,bd_some]
 by_cases h2:r<0
 .rw [dT_ h2];rfl
 rw [dF_ h2]
 have hs:=(G.resolve_left h2).2;have hbm:b.length<=MX:=by omega
 have hpm:pat.b.length<=MX:=by omega
 have hcl:(whP d b pat t).length<=10000:=by
  have:=l_k (d:=d) (b:=b) pat t (a_U d b pat).length
  rw [List.take_length] at this;exact this
 simp only [bF_,fF_,r_i hs,n_4 hbm,bd_some,s_B (show 1048600<=n by omega) hs hpm t,s_C (show 1048600<=n by omega) hs hpm t]
 generalize whP d b pat t=u at hcl
 simp only [bF_,fF_,bd_some,n_7,r_k,n_6,nT_]
 obtain ⟨k',l',hm,H,I⟩:=r_o (n:=n) hs (by omega)
 rw [hm]
 simp only [bd2_some]
 rw [n_9 (by omega) (by omega) (by omega)]
 simp only [bd2_some]
 rw [dF_ (by omega)]
 simp only [bF_,fF_,bd_some]
 rw [n_b (by omega) (by omega) (by omega) (by omega)]
 simp only [bd2_some]
 rw [r_E (by omega) (by omega) (by omega)]
 simp only [bd_some]
 rw [dF_ (show ¬1+((u.length:Nat):Int)<0 by omega)]
 simp only [bF_,fF_,bN_]
end
end Go.Vw
