
import Derived.Test.YtnncfaaebnkcbaaGreatDoorVwP66
namespace Go.Vw
open Go.RowKit Dat
theorem i_x:∀(m:Nat)(v:Val),dep m v->vsz m v<=1100000->∀n,m+1<=n->e_v n v=some v:=by
 have hLIM:=a_k;intro m
 induction m with
 | zero =>
  intro v h hz n hn;obtain ⟨n,rfl⟩:∃k,n=k+1:=⟨n - 1,by omega⟩;have G:v.items=[]:=h;have hz':v.bytes.length<=1100000:=hz
  show e_u n (d_M n) v=_
  unfold e_u
  rw [b_C (by simp;omega),bd_some,bd_some,G]
  obtain ⟨a,b,c⟩:=v;subst G
  rfl
 | succ m ih =>
  intro v h hz n hn;obtain ⟨n,rfl⟩:∃k,n=k+1:=⟨n - 1,by omega⟩;have hz':v.bytes.length+lsz m v.items<=1100000:=hz;have hl:=g_E m v.items
  show e_u n (d_M n) v=_
  unfold e_u
  rw [b_C (by simp;omega),bd_some,bd_some]
  simp only [un3]
  refine (congrArg (fun z=>bd z _)<|e_6 (fun k=>v.items.take k) (n:=v.items.length) rfl<|fun k hk=>?_).trans ?_
  ·have hm:=gE_ hk;have hs:=e_5 (m:=m) hm;have:=ih v.items[k] (h _ hm) (by omega) n (by omega)
   rw [ix_ hk,bd_some,show (d_M n).spec_CopyValue v.items[k]=some v.items[k] from this,bd_some,a_Z (by rw [List.length_take];omega),bd_some,c_o hk]
  ·rw [bd_some,el_inl,List.take_length,List.nil_append,e_W]
section
variable {d:f_}{b:List UInt8}
end
end Go.Vw
