
import Derived.Test.YtdcjkhfonojjiaaGreatDoorVwP95
namespace Go.Vw
open Go.RowKit Dat
theorem m_G (s:List UInt8):∀(l:List Str)(k:Nat)(hk:k<l.length),k ≠ 0->Lib.join ((l.take<|k+1).map (·.b)) s=Lib.join ((l.take k).map (·.b)) s++s++l[k].b
 | x::r,k+1,hk,_=>by
  have h:(r.map (·.b))[k]? = some (r[k]'(by simpa using hk)).b:=by
   rw [List.getElem?_map,gG_ (by simpa using hk)];rfl
  rw [List.take_succ_cons,List.take_succ_cons,List.map_cons,List.map_cons,Lib.join_cons,Lib.join_cons,List.map_take,List.map_take,Lib.joinTail_take_succ s _ k _ h]
  simp [List.append_assoc]
theorem j_Z (s:List UInt8)(l:List Str)(hl:∀t∈l,t.b.length<=1000000)(hs:s.length<=10):∀k,k<=l.length->(Lib.join ((l.take k).map (·.b)) s).length<=1000010 * k
 | 0,_=>by simp [Lib.join_nil]
 | k+1,hk=>by
  have hx:=hl l[k] (gE_ (by omega))
  by_cases G:k=0
  ·subst G
   have:l.take 1=[l[0]]:=by
    cases l with
    | nil=>simp at hk
    | cons x r=>rfl
   rw [this]
   show (Lib.join [l[0].b] s).length<=_
   rw [Lib.join_one];omega
  ·have:=j_Z s l hl hs k (by omega)
   rw [m_G s l k (by omega) G]
   simp only [List.length_append];omega
theorem q_G {l:List Str}{s:Str}(hl:∀t∈l,t.b.length<=1000000)(hs:s.b.length<=10)(I:l.length<=400):h_9 l s=some (d_D l s):=by
 have hLIM:=a_D;unfold h_9;refine (congrArg (fun z=>bd z _)<|c_7 (fun k=>(⟨Lib.join ((l.take k).map (·.b)) s.b⟩:Str)) (n:=l.length) rfl<|fun k hk=>?_).trans ?_
 ·have hx:=hl l[k] (gE_ hk);have hj:=j_Z s.b l hl hs k (by omega)
  by_cases G:k=0
  ·subst G
   have H:l.take 1=[l[0]]:=by
    cases l with
    | nil=>simp at hk
    | cons x r=>rfl
   rw [dF_ (by omega),iN_ (by simp),bd_some,ix_ hk,bd_some,W_ (by simp only [List.take_zero,List.map_nil,Lib.join_nil,List.length_nil];omega),bd_some]
   simp only [List.take_zero,List.map_nil,Lib.join_nil,List.nil_append,Nat.zero_add]
   rw [H]
   show _=some (Out.next (⟨Lib.join [l[0].b] s.b⟩:Str))
   rw [Lib.join_one]
  ·rw [dT_ (show (0:Int)<((k:Nat):Int) by omega),iP_ rfl,W_ (by simp only;omega),bd_some,bd_some,ix_ hk,bd_some,W_ (by simp only [List.length_append];omega),bd_some,m_G s.b l k hk G]
 ·rw [bd_some,el_inl,List.take_length]
  rfl
theorem q_H {l:List Str}{s:Str}(hl:∀t∈l,t.b.length<=1000000)(hs:s.b.length<=10)(G:l.length<=400):d_r l s=some (d_D l s):=by
 have hLEN:=f_9;have hj:=j_Z s.b l hl hs l.length<|Nat.le_refl _
 rw [List.take_length] at hj
 unfold d_r f_Q
 rw [iP_ (show (d_D l s).b.length<=LEN by show (Lib.join _ _).length<=_;omega),bd_some]
section
variable {d:d_}{b1 b2:List UInt8}
theorem q_I (hd:SmD d){n:Nat}(hn:1048600<=n):∃t:Str,h_b n d b1 b2=some t/\h_a n d b1 b2=some t:=by
 obtain ⟨u,hu,hut,H,I⟩:=q_F (b1:=b1) (b2:=b2) hd hn
 have G:∀b,f_A n d b=some (okF d b):=fun b=>by
  unfold f_A okF
  rw [j_T hd (by omega)];rfl
 unfold h_b h_a
 rw [G,G,l_N hd (by omega),l_N hd (by omega),bd_some,bd_some,H,I,bd_some,bd_some]
 cases okF d b1
 ·simp only [Bool.not_false,fT_,bd_some]
  exact ⟨_,rfl,rfl⟩
 ·simp only [nT_,bF_,fF_,bd_some]
  cases okF d b2
  ·simp only [Bool.not_false,fT_]
   exact ⟨_,rfl,rfl⟩
  ·simp only [nT_,bF_,fF_]
   rw [q_G hut (by simp) hu,q_H hut (by simp) hu]
   cases ((u.length:Int)==0)
   ·exact ⟨_,rfl,rfl⟩
   ·exact ⟨_,rfl,rfl⟩
theorem q_J {n:Nat}(hn:4000000<=n)(hd:LnD d)(L:b1.length<=LEN)(O:b2.length<=LEN):h_c n d b1 b2=some true:=by
 have hMX:=MXv;have hLEN:=f_9;unfold h_c
 by_cases h1:(1048576:Int)<(b1.length:Int)
 ·rw [dT_ h1];rfl
 rw [dF_ h1]
 simp only [bF_,fF_]
 by_cases h3:(1048576:Int)<(b2.length:Int)
 ·rw [dT_ h3];rfl
 rw [dF_ h3]
 obtain ⟨r,hr,H⟩:=p_n hd
 simp only [bF_,fF_]
 rw [hr,bd_some]
 by_cases h2:r<0
 ·rw [dT_ h2];rfl
 rw [dF_ h2]
 have hs:=(H.resolve_left h2).2;have hbm:b1.length<=MX:=by omega
 have G:b2.length<=MX:=by omega
 obtain ⟨t,I,J⟩:=q_I (b1:=b1) (b2:=b2) hs (n:=n) (by omega)
 simp only [bF_,fF_,p_r hs,j_w hbm,j_w G,bd_some,I,J,p_u,l_R,nT_,bN_]
end
end Go.Vw
