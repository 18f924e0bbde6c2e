
import Derived.Test.YtajhmimbhplkfaaGreatDoorVwP11
set_option linter.unusedVariables false
namespace Go.Vw
open Go.RowKit Dat
def valF (a:Int) (c:UInt8):Int:=10 * a+(byteI c - 48)
def c_d (l:List UInt8):Int:=l.foldl valF 0
theorem g_Y {x:Nat} (h:x<256):byteI (UInt8.ofNat x)=x:=by
 unfold byteI;simp [UInt8.toNat_ofNat'];omega
theorem k_B (x:Nat) : ∀ c∈Lib.decDigits x,48≤byteI c∧byteI c≤57:=by
 induction x using Nat.strongRecOn with
 | _ x ih =>
  intro c hc
  rw [Lib.decDigits] at hc
  split at hc
  ·simp only [List.mem_singleton] at hc
   subst hc
   rw [g_Y (by omega)];omega
  ·simp only [List.mem_append,List.mem_singleton] at hc
   rcases hc with hc | rfl
   ·exact ih (x / 10) (by omega) c hc
   ·rw [g_Y (by omega)];omega
theorem j_9 (x:Nat):c_d (Lib.decDigits x)=x:=by
 induction x using Nat.strongRecOn with
 | _ x ih =>
  rw [Lib.decDigits]
  split
  ·simp only [c_d,List.foldl_cons,List.foldl_nil,valF]
   rw [g_Y (by omega)];omega
  ·unfold c_d at *
   rw [List.foldl_append,ih (x / 10) (by omega)]
   simp only [List.foldl_cons,List.foldl_nil,valF]
   rw [g_Y (by omega)];omega
theorem o_a (k:Nat) : ∀ x,x<10 ^ (k+1)→1≤(Lib.decDigits x).length∧(Lib.decDigits x).length≤k+1:=by
 induction k with
 | zero=>intro x h;rw [Lib.decDigits,dif_pos (by omega)];simp
 | succ k ih =>
  intro x h
  rw [Lib.decDigits]
  split
  ·simp
  ·have:=ih (x / 10) (by rw [Nat.pow_succ] at h;omega)
   simp;omega
theorem e_o (x:Nat):Lib.itoa x=Lib.decDigits x:=by unfold Lib.itoa;rw [iN_ (by omega)];simp
theorem o_b {x y:Nat} (h:Lib.itoa x=Lib.itoa y):x=y:=by
 have:=congrArg c_d h
 rw [e_o,e_o,j_9,j_9] at this
 omega
def j_a (s:Str):Int×Bool:=if (1≤s.b.length∧s.b.length≤13)∧(∀ c∈s.b,c_s c=true)∧c_d s.b≤1000000000000∧Lib.itoa (c_d s.b)=s.b then (c_d s.b,true) else (0,false)
theorem o_c {s:Str} (h:(1≤s.b.length∧s.b.length≤13)∧(∀ c∈s.b,c_s c=true)∧c_d s.b≤1000000000000∧Lib.itoa (c_d s.b)=s.b):j_a s=(c_d s.b,true):=iP_ h
theorem o_d {c:UInt8} (h:48≤byteI c∧byteI c≤57):c_s c=true:=by
 rw [j_4]
 simp only [aE_,dE_];exact h
theorem o_e (i:Nat) (hi:i≤1000000000000):j_a ⟨Lib.itoa i⟩=((i:Int),true):=by
 have hv:c_d (Lib.itoa i)=i:=by rw [e_o,j_9]
 have:=o_a 12 i (by omega)
 rw [o_c (s:=⟨Lib.itoa i⟩) ⟨by simp only [e_o];omega,fun c hc=>o_d<|k_B i c (by simpa only [e_o] using hc),by simp only [hv];omega,by simp only [hv]⟩]
 simp only [hv]
def j_b (s:Str):Bool:=(a_Z s || (s.b==[42] || (s.b==[63] || s.b==[43]))) || (j_a s).2
end Go.Vw
