
import Derived.Test.YtfjlanohfpolnaaGreatDoorVwP66
namespace Go.Vw
open Go.RowKit Dat
def hexd:List UInt8:=[48,49,50,51,52,53,54,55,56,57,97,98,99,100,101,102]
def hexC (c:UInt8):List UInt8:=[hexd.getD (c.toNat / 16) 0,hexd.getD (c.toNat % 16) 0]
def c_r (l:List UInt8):List UInt8:=(l.map hexC).flatten
theorem c_C (l:List UInt8):(c_r l).length=2 * l.length:=by
 unfold c_r
 induction l with
 | nil=>rfl
 | cons c l ih=>rw [List.map_cons,List.flatten_cons,List.length_append,ih];simp [hexC];omega
theorem n_4 {l:List UInt8}{k:Nat}(h:k<l.length):c_r (l.take<|k+1)=c_r (l.take k)++hexC l[k]:=by
 unfold c_r
 rw [List.take_add_one,gG_ h,Option.toList_some,List.map_append,List.flatten_append]
 simp
theorem n_5 {a:Nat}(h:a<16):b_9 (⟨[48,49,50,51,52,53,54,55,56,57,97,98,99,100,101,102]⟩:Str) (a:Int) ((a:Int)+1)=some ⟨[hexd.getD a 0]⟩:=by
 have:a=0∨a=1∨a=2∨a=3∨a=4∨a=5∨a=6∨a=7∨a=8∨a=9∨a=10∨a=11∨a=12∨a=13∨a=14∨a=15:=by omega
 rcases this with rfl | rfl | rfl | rfl | rfl | rfl | rfl | rfl | rfl | rfl | rfl | rfl | rfl | rfl | rfl | rfl <;> rfl
theorem n_6 {a:Nat}(h:a<16):idx ([48,49,50,51,52,53,54,55,56,57,97,98,99,100,101,102]:List UInt8) (a:Int)=some (hexd.getD a 0):=by
 have:a=0∨a=1∨a=2∨a=3∨a=4∨a=5∨a=6∨a=7∨a=8∨a=9∨a=10∨a=11∨a=12∨a=13∨a=14∨a=15:=by omega
 rcases this with rfl | rfl | rfl | rfl | rfl | rfl | rfl | rfl | rfl | rfl | rfl | rfl | rfl | rfl | rfl | rfl <;> rfl
theorem k_G {x:List UInt8}(hx:x.length<=1000):h_n x=some ⟨c_r x⟩:=by
 have hLIM:=a_G;unfold h_n;refine (congrArg (fun z=>bd z _)<|c_n (fun k=>(⟨c_r<|x.take k⟩:Str)) (n:=x.length) rfl<|fun k hk=>?_).trans ?_
 ·have hc:=x[k].toNat_lt;have h1:b_Z (byteI x[k]) 16=((x[k].toNat / 16:Nat):Int):=by rw [k_U (by unfold byteI;omega) (by unfold byteI;omega) (by omega)];unfold byteI;omega
  have h2:a_B (byteI x[k]) 16=((x[k].toNat % 16:Nat):Int):=by unfold a_B byteI;rw [Int.tmod_eq_emod_of_nonneg (by omega)];omega
  have hl:=c_C<|x.take k
  rw [List.length_take] at hl
  rw [ix_ hk,bd_some,bd_some,h1,h2,ia_ (by omega) (by omega),ia_ (by omega) (by omega),n_5 (by omega),bd_some,a_2 (by simp only [lC_,List.length_nil];omega),bd_some,n_5 (by omega),bd_some,a_2 (by simp only [List.length_append,lC_,List.length_nil];omega),bd_some,n_4 hk]
  simp [hexC]
 ·rw [bd_some,el_inl,List.take_length]
theorem k_H {x:List UInt8}(hx:x.length<=1000):h_s x=some ⟨c_r x⟩:=by
 have hLIM:=a_G;unfold h_s
 rw [f_z (by omega) (by omega),show (2:Int) * (x.length:Int)=((2 * x.length:Nat):Int) by omega,f_A (by omega),bd_some]
 refine (congrArg (fun z=>bd z _)<|c_n (fun k=>c_r<|x.take k) (n:=x.length) rfl<|fun k hk=>?_).trans ?_
 ·have hc:=x[k].toNat_lt
  have h1:byteI (shU x[k] 4)=((x[k].toNat / 16:Nat):Int):=by
   unfold shU byteI
   rw [UInt8.toNat_ofNat',Nat.mod_eq_of_lt (by omega)]
  have h2:byteI (x[k] &&& (15:UInt8))=((x[k].toNat % 16:Nat):Int):=by
   unfold byteI
   rw [UInt8.toNat_and]
   congr 1
   exact Nat.and_two_pow_sub_one_eq_mod x[k].toNat 4
  have hl:=c_C<|x.take k
  rw [List.length_take] at hl
  rw [ix_ hk,bd_some,h1,h2]
  simp only
  rw [n_6 (by omega),bd_some,n_6 (by omega),bd_some,e_6 (by simp only [lC_,List.length_nil];omega),bd_some,n_4 hk]
  rfl
 ·rw [bd_some,el_inl,List.take_length]
theorem r_P (l:List (List UInt8))(x:List UInt8):Lib.join (l++[x]) [44]=if l=[] then x else Lib.join l [44]++[44]++x:=by
 cases l with
 | nil=>rw [List.nil_append,Lib.join_one,iP_ rfl]
 | cons a r =>
  rw [iN_ (by simp),List.cons_append,Lib.join_cons,Lib.join_cons]
  unfold Lib.joinTail
  simp
theorem r_Q:∀(l:List (List UInt8)),(Lib.join l [44]).length<=(l.map<|fun x=>x.length+1).sum
 | []=>by rw [Lib.join_nil];simp
 | x::r=>by
  rw [Lib.join_length]
  have:Lib.lens (x::r)+r.length+1=((x::r).map (fun x=>x.length+1)).sum:=by
   unfold Lib.lens
   have key:∀l:List (List UInt8),(l.map (·.length)).sum+l.length=(l.map<|fun x=>x.length+1).sum:=by
    intro l
    induction l with
    | nil=>rfl
    | cons a l ih=>simp only [List.map_cons,List.sum_cons,lC_];omega
   have:=key (x::r)
   simp only [lC_] at this
   omega
  simp only [lC_,List.length_nil]
  omega
theorem r_R (m:Nat):∀(l:List Str)(xs:List Val),l.length=xs.length->(∀j (h:j<l.length) (h':j<xs.length),l[j].b.length<=40 * vsz m xs[j]+35)->(Lib.join (l.map (·.b)) [44]).length<=40 * lsz m xs:=by
 intro l xs hl h;refine Nat.le_trans (r_Q _) ?_
 induction l generalizing xs with
 | nil=>simp
 | cons a l ih =>
  cases xs with
  | nil=>simp at hl
  | cons v xs =>
   have G:=h 0 (by simp) (by simp);have h1:=ih xs (by simpa using hl) (fun j hj hj'=>by have:=h (j+1) (by simpa using hj) (by simpa using hj');simpa using this)
   rw [e_E]
   simp only [List.map_cons,List.sum_cons,List.getElem_cons_zero] at G ⊢
   omega
theorem k_I {P:Nat->Str->Prop}:∀(n:Nat),(∀j,j<n->∃t,P j t)->∃ts:List Str,ts.length=n/\∀j (h:j<ts.length),P j ts[j]
 | 0,_=>⟨[],rfl,fun j h=>by simp at h⟩
 | n+1,h=>by
  obtain ⟨ts,h1,h2⟩:=k_I n<|fun j hj=>h j (by omega);obtain ⟨t,ht⟩:=h n (by omega);refine ⟨ts++[t],by simp [h1],fun j hj=>?_⟩
  simp only [List.length_append,lC_,List.length_nil] at hj
  by_cases hlt:j<ts.length
  ·rw [List.getElem_append_left hlt];exact h2 j hlt
  ·have hje:j=ts.length:=by omega
   subst hje
   rw [List.getElem_concat_length rfl,h1];exact ht
end Go.Vw
