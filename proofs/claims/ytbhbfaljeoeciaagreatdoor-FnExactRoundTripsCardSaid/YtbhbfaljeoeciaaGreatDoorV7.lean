
import Derived.Test.YtbhbfaljeoeciaaGreatDoorV6
namespace Go.Vw
open Go.RowKit Dat
def b_A (a:Int)(c:UInt8):Int:=10 * a+(byteI c - 48)
def b_B (l:List UInt8):Int:=l.foldl b_A 0
theorem i_H {x:Nat}(h:x<256):byteI (UInt8.ofNat x)=x:=by
 unfold byteI;simp [UInt8.toNat_ofNat'];omega
theorem g_z (x:Nat):∀c∈Lib.decDigits x,48<=byteI c/\byteI c<=57:=by
 induction x using Nat.strongRecOn with
 | _ x ih =>
  intro c hc
  rw [Lib.decDigits] at hc
  split at hc
  ·simp only [List.mem_singleton] at hc
   subst hc
   rw [i_H (by omega)];omega
  ·simp only [List.mem_append,List.mem_singleton] at hc
   rcases hc with hc | rfl
   ·exact ih (x / 10) (by omega) c hc
   ·rw [i_H (by omega)];omega
theorem k_1 (x:Nat):b_B (Lib.decDigits x)=x:=by
 induction x using Nat.strongRecOn with
 | _ x ih =>
  rw [Lib.decDigits]
  split
  ·simp only [b_B,List.foldl_cons,List.foldl_nil,b_A]
   rw [i_H (by omega)];omega
  ·unfold b_B at *
   rw [List.foldl_append,ih (x / 10) (by omega)]
   simp only [List.foldl_cons,List.foldl_nil,b_A]
   rw [i_H (by omega)];omega
theorem g_A (k:Nat):∀x,x<10 ^ (k+1)->1<=(Lib.decDigits x).length/\(Lib.decDigits x).length<=k+1:=by
 induction k with
 | zero=>intro x h;rw [Lib.decDigits,dif_pos (by omega)];simp
 | succ k ih =>
  intro x h
  rw [Lib.decDigits]
  split
  ·simp
  ·have:=ih (x / 10) (by rw [Nat.pow_succ] at h;omega)
   simp;omega
theorem f_b (x:Nat):Lib.itoa x=Lib.decDigits x:=by unfold Lib.itoa;rw [iN_ (by omega)];simp
theorem m_n {n:Nat}(hn:30<=n)(i:Nat)(hi:i<=1000000000000):f_l n i=some ⟨Lib.itoa i⟩:=by
 unfold f_l Lib.itoa
 rw [iN_ (show ¬(i:Int)<0 by omega)]
 by_cases G:i=0
 ·subst G
  rw [show ((((0:Nat):Int)).toNat)=0 from rfl,Lib.decDigits,dif_pos (by omega)]
  rfl
 ·rw [show ((i:Int)==0)=false by simp;omega]
  simp only [bF_,fF_]
  rw [m_U 20 i (by omega) (by omega) (by omega) ⟨[]⟩ n (by omega) (by simp),dF_ (show ¬(i:Int)<0 by omega)]
  simp
theorem p_P (l:List UInt8)(h:∀c∈l,c_D c=true):0<=b_B l/\b_B l<10 ^ l.length:=by
 have key:∀(l:List UInt8)(a:Int),(∀c∈l,c_D c=true)->0<=a->0<=l.foldl b_A a/\l.foldl b_A a<(a+1) * 10 ^ l.length:=by
  intro l
  induction l with
  | nil=>intro a _ G;simp;omega
  | cons c l ih =>
   intro a h G;have hc:=h c mS_
   rw [f_4] at hc
   simp only [aE_,dE_] at hc
   have hb:byteI c=(c.toNat:Int):=rfl;have:=ih (b_A a c) (fun c hc=>h c<|mT_ _ hc) (by unfold b_A;omega);refine ⟨this.1,Int.lt_of_lt_of_le this.2 ?_⟩
   rw [lC_,Int.pow_succ,← Int.mul_assoc,Int.mul_assoc,Int.mul_comm ((10:Int) ^ l.length) 10,← Int.mul_assoc]
   refine Int.mul_le_mul_of_nonneg_right ?_<|Int.le_of_lt<|Int.pow_pos (by decide);unfold b_A;omega
 have:=key l 0 h<|Int.le_refl 0
 simpa [b_B] using this
theorem d_r {α:Type}{l:List α}{k:Nat}(h:k<l.length):l.take (k+1)=l.take k++[l[k]]:=by rw [List.take_add_one,gG_ h];rfl
theorem m_o {c:UInt8}(h:c_D c=true):byteI (mkB<|byteI c - byteI (48:UInt8))=byteI c - 48:=by
 rw [f_4] at h
 simp only [aE_,dE_] at h
 have hb:byteI c=(c.toNat:Int):=rfl;have G:byteI (48:UInt8)=48:=rfl
 rw [g_1,G]
 unfold IntKind.wrap
 simp [IntKind.bits,IntKind.signed]
 omega
theorem i_I {c:UInt8}(h:48<=byteI c/\byteI c<=57):c_D c=true:=by
 rw [f_4]
 simp only [aE_,dE_];exact h
end Go.Vw
