
import Derived.Test.YtgieiijmhcgmcaaGreatDoorVwP11
namespace Go.Vw
open Go.RowKit Dat
def b_H (a:Int)(c:UInt8):Int:=10 * a+(byteI c - 48)
def a_6 (l:List UInt8):Int:=l.foldl b_H 0
theorem f_a {x:Nat}(h:x<256):byteI (UInt8.ofNat x)=x:=by
 unfold byteI;simp [UInt8.toNat_ofNat'];omega
theorem k_B (x:Nat):∀c∈Lib.decDigits x,48<=byteI c/\byteI c<=57:=by
 induction x using Nat.strongRecOn with
 | _ x ih =>
  intro c hc
  rw [Lib.decDigits] at hc
  split at hc
  ·simp only [List.mem_singleton] at hc
   subst hc
   rw [f_a (by omega)];omega
  ·simp only [List.mem_append,List.mem_singleton] at hc
   rcases hc with hc | rfl
   ·exact ih (x / 10) (by omega) c hc
   ·rw [f_a (by omega)];omega
theorem j_6 (x:Nat):a_6 (Lib.decDigits x)=x:=by
 induction x using Nat.strongRecOn with
 | _ x ih =>
  rw [Lib.decDigits]
  split
  ·simp only [a_6,List.foldl_cons,List.foldl_nil,b_H]
   rw [f_a (by omega)];omega
  ·unfold a_6 at *
   rw [List.foldl_append,ih (x / 10) (by omega)]
   simp only [List.foldl_cons,List.foldl_nil,b_H]
   rw [f_a (by omega)];omega
theorem k_C (k:Nat):∀x,x<10 ^ (k+1)->1<=(Lib.decDigits x).length/\(Lib.decDigits x).length<=k+1:=by
 induction k with
 | zero=>intro x h;rw [Lib.decDigits,dif_pos (by omega)];simp
 | succ k ih =>
  intro x h
  rw [Lib.decDigits]
  split
  ·simp
  ·have:=ih (x / 10) (by rw [Nat.pow_succ] at h;omega)
   simp;omega
theorem d_e (x:Nat):Lib.itoa x=Lib.decDigits x:=by unfold Lib.itoa;rw [iN_ (by omega)];simp
theorem k_D {x y:Nat}(h:Lib.itoa x=Lib.itoa y):x=y:=by
 have:=congrArg a_6 h
 rw [d_e,d_e,j_6,j_6] at this
 omega
theorem h_5 (l:List UInt8)(h:∀c∈l,a_F c=true):0<=a_6 l/\a_6 l<10 ^ l.length:=by
 have key:∀(l:List UInt8)(a:Int),(∀c∈l,a_F c=true)->0<=a->0<=l.foldl b_H a/\l.foldl b_H a<(a+1) * 10 ^ l.length:=by
  intro l
  induction l with
  | nil=>intro a _ G;simp;omega
  | cons c l ih =>
   intro a h G;have hc:=h c mS_
   rw [d_K] at hc
   simp only [aE_,dE_] at hc
   have hb:byteI c=(c.toNat:Int):=rfl;have:=ih (b_H a c) (fun c hc=>h c<|mT_ _ hc) (by unfold b_H;omega);refine ⟨this.1,Int.lt_of_lt_of_le this.2 ?_⟩
   rw [lC_,Int.pow_succ,← Int.mul_assoc,Int.mul_assoc,Int.mul_comm ((10:Int) ^ l.length) 10,← Int.mul_assoc]
   refine Int.mul_le_mul_of_nonneg_right ?_<|Int.le_of_lt<|Int.pow_pos (by decide);unfold b_H;omega
 have:=key l 0 h<|Int.le_refl 0
 simpa [a_6] using this
theorem k_E {α:Type}{l:List α}{k:Nat}(h:k<l.length):l.take (k+1)=l.take k++[l[k]]:=by rw [List.take_add_one,gG_ h];rfl
def d_f (s:Str):Int×Bool:=if (1<=s.b.length/\s.b.length<=13)/\(∀c∈s.b,a_F c=true)/\a_6 s.b<=1000000000000/\Lib.itoa (a_6 s.b)=s.b then (a_6 s.b,true) else (0,false)
theorem k_F {s:Str}(h:(1<=s.b.length/\s.b.length<=13)/\(∀c∈s.b,a_F c=true)/\a_6 s.b<=1000000000000/\Lib.itoa (a_6 s.b)=s.b):d_f s=(a_6 s.b,true):=iP_ h
theorem f_b {s:Str}(h:¬((1<=s.b.length/\s.b.length<=13)/\(∀c∈s.b,a_F c=true)/\a_6 s.b<=1000000000000/\Lib.itoa (a_6 s.b)=s.b)):d_f s=(0,false):=iN_ h
theorem o_C {c:UInt8}(h:a_F c=true):byteI (mkB<|byteI c - byteI (48:UInt8))=byteI c - 48:=by
 rw [d_K] at h
 simp only [aE_,dE_] at h
 have hb:byteI c=(c.toNat:Int):=rfl;have G:byteI (48:UInt8)=48:=rfl
 rw [h_O,G]
 unfold IntKind.wrap
 simp [IntKind.bits,IntKind.signed]
 omega
theorem o_D {c:UInt8}(h:48<=byteI c/\byteI c<=57):a_F c=true:=by
 rw [d_K]
 simp only [aE_,dE_];exact h
theorem k_G (i:Nat)(hi:i<=1000000000000):d_f ⟨Lib.itoa i⟩=((i:Int),true):=by
 have hv:a_6 (Lib.itoa i)=i:=by rw [d_e,j_6]
 have:=k_C 12 i (by omega)
 rw [k_F (s:=⟨Lib.itoa i⟩) ⟨by simp only [d_e];omega,fun c hc=>o_D<|k_B i c (by simpa only [d_e] using hc),by simp only [hv];omega,by simp only [hv]⟩]
 simp only [hv]
def d_g (s:Str):Bool:=(a_J s || (s.b==[42] || (s.b==[63] || s.b==[43]))) || (d_f s).2
def a_i (sep:UInt8):List UInt8->List UInt8->List Str
 | [],cur=>[⟨cur⟩]
 | c::r,cur=>if c=sep then ⟨cur⟩::a_i sep r [] else a_i sep r (cur++[c])
theorem h_6 (sep:UInt8):∀(l cur:List UInt8),1<=(a_i sep l cur).length/\(a_i sep l cur).length<=l.length+1
 | [],_=>by simp [a_i]
 | c::r,cur=>by
  unfold a_i
  split
  ·have:=h_6 sep r [];simp;omega
  ·have:=h_6 sep r<|cur++[c];simp;omega
theorem k_H (sep:UInt8):∀(s t cur:List UInt8),(∀c∈s,c ≠ sep)->a_i sep (s++t) cur=a_i sep t (cur++s)
 | [],t,cur,_=>by simp
 | c::s,t,cur,h=>by
  rw [List.cons_append,a_i,iN_<|h c mS_,k_H sep s t _<|fun c hc=>h c<|mT_ _ hc]
  simp
def h_7 (s:Str):List Str×Bool:=if s.b=[] then ([],true) else if (a_i 47 s.b []).head? = some ⟨[]⟩/\(a_i 47 s.b []).tail.all d_g=true then ((a_i 47 s.b []).tail,decide<|1<(a_i 47 s.b []).length) else ([],false)
end Go.Vw
