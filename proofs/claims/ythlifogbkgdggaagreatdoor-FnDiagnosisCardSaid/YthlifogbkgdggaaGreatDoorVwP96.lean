
import Derived.Test.YthlifogbkgdggaaGreatDoorVwP67
namespace Go.Vw
open Go.RowKit Dat
theorem k_n (s:List UInt8):∀(l:List Str)(k:Nat)(hk:k<l.length),k ≠ 0->Lib.join ((l.take<|k+1).map (·.b)) s=Lib.join ((l.take k).map (·.b)) s++s++l[k].b
 | x::r,k+1,hk,_=>by
  have h:(r.map (·.b))[k]? = some (r[k]'(by simpa using hk)).b:=by
   rw [List.getElem?_map,gG_ (by simpa using hk)];rfl
  rw [List.take_succ_cons,List.take_succ_cons,List.map_cons,List.map_cons,Lib.join_cons,Lib.join_cons,List.map_take,List.map_take,Lib.joinTail_take_succ s _ k _ h]
  simp [List.append_assoc]
theorem i_n (s:List UInt8)(l:List Str)(hl:∀t∈l,t.b.length<=1000000)(hs:s.length<=10):∀k,k<=l.length->(Lib.join ((l.take k).map (·.b)) s).length<=1000010 * k
 | 0,_=>by simp [Lib.join_nil]
 | k+1,hk=>by
  have hx:=hl l[k] (gE_ (by omega))
  by_cases G:k=0
  ·subst G
   have:l.take 1=[l[0]]:=by
    cases l with
    | nil=>simp at hk
    | cons x r=>rfl
   rw [this]
   show (Lib.join [l[0].b] s).length<=_
   rw [Lib.join_one];omega
  ·have:=i_n s l hl hs k (by omega)
   rw [k_n s l k (by omega) G]
   simp only [List.length_append];omega
theorem n_k {l:List Str}{s:Str}(hl:∀t∈l,t.b.length<=1000000)(hs:s.b.length<=10)(I:l.length<=400):f_Y l s=some (d_s l s):=by
 have hLIM:=a_v;unfold f_Y;refine (congrArg (fun z=>bd z _)<|i_c (fun k=>(⟨Lib.join ((l.take k).map (·.b)) s.b⟩:Str)) (n:=l.length) rfl<|fun k hk=>?_).trans ?_
 ·have hx:=hl l[k] (gE_ hk);have hj:=i_n s.b l hl hs k (by omega)
  by_cases G:k=0
  ·subst G
   have H:l.take 1=[l[0]]:=by
    cases l with
    | nil=>simp at hk
    | cons x r=>rfl
   rw [dF_ (by omega),iN_ (by simp),bd_some,ix_ hk,bd_some,a_C (by simp only [List.take_zero,List.map_nil,Lib.join_nil,List.length_nil];omega),bd_some]
   simp only [List.take_zero,List.map_nil,Lib.join_nil,List.nil_append,Nat.zero_add]
   rw [H]
   show _=some (Out.next (⟨Lib.join [l[0].b] s.b⟩:Str))
   rw [Lib.join_one]
  ·rw [dT_ (show (0:Int)<((k:Nat):Int) by omega),iP_ rfl,a_C (by simp only;omega),bd_some,bd_some,ix_ hk,bd_some,a_C (by simp only [List.length_append];omega),bd_some,k_n s.b l k hk G]
 ·rw [bd_some,el_inl,List.take_length]
  rfl
theorem n_l {l:List Str}{s:Str}(hl:∀t∈l,t.b.length<=1000000)(hs:s.b.length<=10)(G:l.length<=400):g_0 l s=some (d_s l s):=by
 have hLEN:=LENv;have hj:=i_n s.b l hl hs l.length<|Nat.le_refl _
 rw [List.take_length] at hj
 unfold g_0 g_x
 rw [iP_ (show (d_s l s).b.length<=LEN by show (Lib.join _ _).length<=_;omega),bd_some]
section
variable {d:d_}{b1 b2:List UInt8}
end
end Go.Vw
