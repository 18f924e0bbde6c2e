
import Derived.Test.YthlifogbkgdggaaGreatDoorVwP66
namespace Go.Vw
open Go.RowKit Dat
def hexd:List UInt8:=[48,49,50,51,52,53,54,55,56,57,97,98,99,100,101,102]
def hexC (c:UInt8):List UInt8:=[hexd.getD (c.toNat / 16) 0,hexd.getD (c.toNat % 16) 0]
def c_E (l:List UInt8):List UInt8:=(l.map hexC).flatten
theorem k_a (l:List UInt8):(c_E l).length=2 * l.length:=by
 unfold c_E
 induction l with
 | nil=>rfl
 | cons c l ih=>rw [List.map_cons,List.flatten_cons,List.length_append,ih];simp [hexC];omega
theorem k_b {l:List UInt8}{k:Nat}(h:k<l.length):c_E (l.take<|k+1)=c_E (l.take k)++hexC l[k]:=by
 unfold c_E
 rw [List.take_add_one,gG_ h,Option.toList_some,List.map_append,List.flatten_append]
 simp
theorem k_c {a:Nat}(h:a<16):slcT (⟨[48,49,50,51,52,53,54,55,56,57,97,98,99,100,101,102]⟩:Str) (a:Int) ((a:Int)+1)=some ⟨[hexd.getD a 0]⟩:=by
 have:a=0∨a=1∨a=2∨a=3∨a=4∨a=5∨a=6∨a=7∨a=8∨a=9∨a=10∨a=11∨a=12∨a=13∨a=14∨a=15:=by omega
 rcases this with rfl | rfl | rfl | rfl | rfl | rfl | rfl | rfl | rfl | rfl | rfl | rfl | rfl | rfl | rfl | rfl <;> rfl
theorem k_d {a:Nat}(h:a<16):idx ([48,49,50,51,52,53,54,55,56,57,97,98,99,100,101,102]:List UInt8) (a:Int)=some (hexd.getD a 0):=by
 have:a=0∨a=1∨a=2∨a=3∨a=4∨a=5∨a=6∨a=7∨a=8∨a=9∨a=10∨a=11∨a=12∨a=13∨a=14∨a=15:=by omega
 rcases this with rfl | rfl | rfl | rfl | rfl | rfl | rfl | rfl | rfl | rfl | rfl | rfl | rfl | rfl | rfl | rfl <;> rfl
theorem m_Y {x:List UInt8}(hx:x.length<=1000):f_Z x=some ⟨c_E x⟩:=by
 have hLIM:=a_v;unfold f_Z;refine (congrArg (fun z=>bd z _)<|i_c (fun k=>(⟨c_E<|x.take k⟩:Str)) (n:=x.length) rfl<|fun k hk=>?_).trans ?_
 ·have hc:=x[k].toNat_lt;have h1:b_7 (byteI x[k]) 16=((x[k].toNat / 16:Nat):Int):=by rw [i_p (by unfold byteI;omega) (by unfold byteI;omega) (by omega)];unfold byteI;omega
  have h2:a_u (byteI x[k]) 16=((x[k].toNat % 16:Nat):Int):=by unfold a_u byteI;rw [Int.tmod_eq_emod_of_nonneg (by omega)];omega
  have hl:=k_a<|x.take k
  rw [List.length_take] at hl
  rw [ix_ hk,bd_some,bd_some,h1,h2,ia_ (by omega) (by omega),ia_ (by omega) (by omega),k_c (by omega),bd_some,a_C (by simp only [lC_,List.length_nil];omega),bd_some,k_c (by omega),bd_some,a_C (by simp only [List.length_append,lC_,List.length_nil];omega),bd_some,k_b hk]
  simp [hexC]
 ·rw [bd_some,el_inl,List.take_length]
theorem m_Z {x:List UInt8}(hx:x.length<=1000):g_1 x=some ⟨c_E x⟩:=by
 have hLIM:=a_v;unfold g_1
 rw [d_8 (by omega) (by omega),show (2:Int) * (x.length:Int)=((2 * x.length:Nat):Int) by omega,mk0_of (by omega),bd_some]
 refine (congrArg (fun z=>bd z _)<|i_c (fun k=>c_E<|x.take k) (n:=x.length) rfl<|fun k hk=>?_).trans ?_
 ·have hc:=x[k].toNat_lt
  have h1:byteI (shU x[k] 4)=((x[k].toNat / 16:Nat):Int):=by
   unfold shU byteI
   rw [UInt8.toNat_ofNat',Nat.mod_eq_of_lt (by omega)]
  have h2:byteI (x[k] &&& (15:UInt8))=((x[k].toNat % 16:Nat):Int):=by
   unfold byteI
   rw [UInt8.toNat_and]
   congr 1
   exact Nat.and_two_pow_sub_one_eq_mod x[k].toNat 4
  have hl:=k_a<|x.take k
  rw [List.length_take] at hl
  rw [ix_ hk,bd_some,h1,h2]
  simp only
  rw [k_d (by omega),bd_some,k_d (by omega),bd_some,c_p (by simp only [lC_,List.length_nil];omega),bd_some,k_b hk]
  rfl
 ·rw [bd_some,el_inl,List.take_length]
theorem k_e {P:Nat->Str->Prop}:∀(n:Nat),(∀j,j<n->∃t,P j t)->∃ts:List Str,ts.length=n/\∀j (h:j<ts.length),P j ts[j]
 | 0,_=>⟨[],rfl,fun j h=>by simp at h⟩
 | n+1,h=>by
  obtain ⟨ts,h1,h2⟩:=k_e n<|fun j hj=>h j (by omega);obtain ⟨t,ht⟩:=h n (by omega);refine ⟨ts++[t],by simp [h1],fun j hj=>?_⟩
  simp only [List.length_append,lC_,List.length_nil] at hj
  by_cases hlt:j<ts.length
  ·rw [List.getElem_append_left hlt];exact h2 j hlt
  ·have hje:j=ts.length:=by omega
   subst hje
   rw [List.getElem_concat_length rfl,h1];exact ht
end Go.Vw
