
import Derived.Test.YtbihpjgldkojoaaGreatDoorVwP11
namespace Go.Vw
open Go.RowKit Dat
def c_c (a:Int)(c:UInt8):Int:=10 * a+(byteI c - 48)
def a_s (l:Bt):Int:=l.foldl c_c 0
theorem g_z {x:Nat}(h:x<256):byteI (UInt8.ofNat x)=x:=by
 unfold byteI;simp [UInt8.toNat_ofNat'];omega
theorem l_F (x:Nat):∀c∈Lib.decDigits x,48<=byteI c/\byteI c<=57:=by
 induction x using Nat.strongRecOn with
 | _ x ih =>
  intro c hc
  rw [Lib.decDigits] at hc
  split at hc
  .simp only [List.mem_singleton] at hc
   subst hc
   rw [g_z (by omega)];omega
  .simp only [List.mem_append,List.mem_singleton] at hc
   rcases hc with hc | rfl
   .exact ih (x / 10) (by omega) c hc
   .rw [g_z (by omega)];omega
theorem k_e (x:Nat):a_s (Lib.decDigits x)=x:=by
 induction x using Nat.strongRecOn with
 | _ x ih =>
  rw [Lib.decDigits]
  split
  .simp only [a_s,List.foldl_cons,List.foldl_nil,c_c]
   rw [g_z (by omega)];omega
  .unfold a_s at *
   rw [List.foldl_append,ih (x / 10) (by omega)]
   simp only [List.foldl_cons,List.foldl_nil,c_c]
   rw [g_z (by omega)];omega
theorem l_G (k:Nat):∀x,x<10 ^ (k+1)->1<=(Lib.decDigits x).length/\(Lib.decDigits x).length<=k+1:=by
 induction k with
 | zero=>intro x h;rw [Lib.decDigits,dif_pos (by omega)];simp
 | succ k ih =>
  intro x h
  rw [Lib.decDigits]
  split
  .simp
  .have:=ih (x / 10) (by rw [Nat.pow_succ] at h;omega)
   simp;omega
theorem d_W (x:Nat):Lib.itoa x=Lib.decDigits x:=by unfold Lib.itoa;rw [iN_ (by omega)];simp
theorem l_H {x y:Nat}(h:Lib.itoa x=Lib.itoa y):x=y:=by
 have:=congrArg a_s h
 rw [d_W,d_W,k_e,k_e] at this
 omega
theorem i_B (l:Bt)(h:∀c∈l,b_b c=true):0<=a_s l/\a_s l<10 ^ l.length:=by
 have key:∀(l:Bt)(a:Int),(∀c∈l,b_b c=true)->0<=a->0<=l.foldl c_c a/\l.foldl c_c a<(a+1) * 10 ^ l.length:=by
  intro l
  induction l with
  | nil=>intro a _ G;simp;omega
  | cons c l ih =>
   intro a h G;have hc:=h c mS_
   rw [e_w] at hc
   simp only [aE_,dE_] at hc
   have hb:byteI c=(c.toNat:Int):=rfl;have:=ih (c_c a c) (λc hc=>h c<|mT_ _ hc) (by unfold c_c;omega);refine ⟨this.1,Int.lt_of_lt_of_le this.2 ?_⟩
   rw [lC_,Int.pow_succ,← Int.mul_assoc,Int.mul_assoc,Int.mul_comm ((10:Int) ^ l.length) 10,← Int.mul_assoc]
   refine Int.mul_le_mul_of_nonneg_right ?_<|Int.le_of_lt<|Int.pow_pos (by decide);unfold c_c;omega
 have:=key l 0 h<|Int.le_refl 0
 simpa [a_s] using this
theorem l_I {α:Type}{l:List α}{k:Nat}(h:k<l.length):l.take (k+1)=l.take k++[l[k]]:=by rw [List.take_add_one,gG_ h];rfl
def d_X (s:Str):Int×Bool:=if (1<=s.b.length/\s.b.length<=13)/\(∀c∈s.b,b_b c=true)/\a_s s.b<=1000000000000/\Lib.itoa (a_s s.b)=s.b then (a_s s.b,true) else (0,false)
theorem l_J {s:Str}(h:(1<=s.b.length/\s.b.length<=13)/\(∀c∈s.b,b_b c=true)/\a_s s.b<=1000000000000/\Lib.itoa (a_s s.b)=s.b):d_X s=(a_s s.b,true):=iP_ h
theorem g_A {s:Str}(h:¬((1<=s.b.length/\s.b.length<=13)/\(∀c∈s.b,b_b c=true)/\a_s s.b<=1000000000000/\Lib.itoa (a_s s.b)=s.b)):d_X s=(0,false):=iN_ h
theorem p_u {c:UInt8}(h:b_b c=true):byteI (mkB<|byteI c - byteI (48:UInt8))=byteI c - 48:=by
 rw [e_w] at h
 simp only [aE_,dE_] at h
 have hb:byteI c=(c.toNat:Int):=rfl;have G:byteI (48:UInt8)=48:=rfl
 rw [j_e,G]
 unfold IntKind.wrap
 simp [IntKind.bits,IntKind.signed]
 omega
theorem p_v {c:UInt8}(h:48<=byteI c/\byteI c<=57):b_b c=true:=by
 rw [e_w]
 simp only [aE_,dE_];exact h
theorem l_K (i:Nat)(hi:i<=1000000000000):d_X ⟨Lib.itoa i⟩=((i:Int),true):=by
 have hv:a_s (Lib.itoa i)=i:=by rw [d_W,k_e]
 have:=l_G 12 i (by omega)
 rw [l_J (s:=⟨Lib.itoa i⟩) ⟨by simp only [d_W];omega,λc hc=>p_v<|l_F i c (by simpa only [d_W] using hc),by simp only [hv];omega,by simp only [hv]⟩]
 simp only [hv]
def d_Y (s:Str):Bool:=(b_e s || (s.b==[42] || (s.b==[63] || s.b==[43]))) || (d_X s).2
def a_I (sep:UInt8):Bt->Bt->List Str
 | [],cur=>[⟨cur⟩]
 | c::r,cur=>if c=sep then ⟨cur⟩::a_I sep r [] else a_I sep r (cur++[c])
theorem i_C (sep:UInt8):∀(l cur:Bt),1<=(a_I sep l cur).length/\(a_I sep l cur).length<=l.length+1
 | [],_=>by simp [a_I]
 | c::r,cur=>by
  unfold a_I
  split
  .have:=i_C sep r [];simp;omega
  .have:=i_C sep r<|cur++[c];simp;omega
theorem l_L (sep:UInt8):∀(s t cur:Bt),(∀c∈s,c ≠ sep)->a_I sep (s++t) cur=a_I sep t (cur++s)
 | [],t,cur,_=>by simp
 | c::s,t,cur,h=>by
  rw [List.cons_append,a_I,iN_<|h c mS_,l_L sep s t _<|λc hc=>h c<|mT_ _ hc]
  simp
def i_D (s:Str):List Str×Bool:=if s.b=[] then ([],true) else if (a_I 47 s.b []).head? = some ⟨[]⟩/\(a_I 47 s.b []).tail.all d_Y then ((a_I 47 s.b []).tail,decide<|1<(a_I 47 s.b []).length) else ([],false)
end Go.Vw
