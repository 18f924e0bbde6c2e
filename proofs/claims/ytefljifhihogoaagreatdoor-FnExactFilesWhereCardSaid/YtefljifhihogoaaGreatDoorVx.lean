
import Derived.Test.YtefljifhihogoaaGreatDoorVw
namespace Go.Vw
set_option linter.unusedVariables false
open Go.RowKit Dat
def hexd:Bt:=[48,49,50,51,52,53,54,55,56,57,97,98,99,100,101,102]
def hexC (c:UInt8):Bt:=[hexd.getD (c.toNat / 16) 0,hexd.getD (c.toNat % 16) 0]
def d_N (l:Bt):Bt:=(l.map hexC).flatten
theorem e_f (l:Bt):(d_N l).length=2 * l.length:=by
 unfold d_N
 induction l with
 | nil=>rfl
 | cons c l ih=>grind [hexC]
theorem s_q {l:Bt}{k:Nat}(h:k<l.length):d_N (l.take<|k+1)=d_N (l.take k)++hexC l[k]:=by
 grind [d_N,List.take_add_one,List.getElem?_eq_getElem,Option.toList_some,List.flatten_append]
theorem s_r {a:Nat}(h:a<16):c_2 (⟨[48,49,50,51,52,53,54,55,56,57,97,98,99,100,101,102]⟩:Str) (a:Int) ((a:Int)+1)=some ⟨[hexd.getD a 0]⟩:=by
 have:a=0∨a=1∨a=2∨a=3∨a=4∨a=5∨a=6∨a=7∨a=8∨a=9∨a=10∨a=11∨a=12∨a=13∨a=14∨a=15:=by omega
 rcases this with rfl | rfl | rfl | rfl | rfl | rfl | rfl | rfl | rfl | rfl | rfl | rfl | rfl | rfl | rfl | rfl <;> rfl
theorem s_s {a:Nat}(h:a<16):idx ([48,49,50,51,52,53,54,55,56,57,97,98,99,100,101,102]:Bt) (a:Int)=some (hexd.getD a 0):=by
 have:a=0∨a=1∨a=2∨a=3∨a=4∨a=5∨a=6∨a=7∨a=8∨a=9∨a=10∨a=11∨a=12∨a=13∨a=14∨a=15:=by omega
 rcases this with rfl | rfl | rfl | rfl | rfl | rfl | rfl | rfl | rfl | rfl | rfl | rfl | rfl | rfl | rfl | rfl <;> rfl
theorem o_m {x:Bt}(hx:x.length<=1000):l_e x=some ⟨d_N x⟩:=by
 have hLIM:=a_7;unfold l_e;refine (congrArg (λz=>bd z _)<|j_s (λk=>(⟨d_N<|x.take k⟩:Str)) (n:=x.length) rfl<|λk hk=>?_).trans ?_
 .have hc:=x[k].toNat_lt;have h1:c_V (b_ x[k]) 16=((x[k].toNat / 16:Nat):Int):=by rw [o_A (by simp) (by grind) (by omega)];rfl
  have h2:b_7 (b_ x[k]) 16=((x[k].toNat % 16:Nat):Int):=by rfl
  have hl:=e_f<|x.take k
  rw [QAT] at hl
  rw [ix_ hk,a_,a_,h1,h2,ia_ (by omega) (by omega),ia_ (by omega) (by omega),s_r (by omega),a_,a_y (by grind),a_,s_r (by omega),a_,a_y (by grind),a_,s_q hk]
  simp [hexC]
 simp
theorem o_n {x:Bt}(hx:x.length<=1000):l_j x=some ⟨d_N x⟩:=by
 have hLIM:=a_7;unfold l_j
 rw [i_j (by omega) (by omega),show (2:Int) * (x.length:Int)=((2 * x.length:Nat):Int) by omega,g_k (by omega),a_]
 refine (congrArg (λz=>bd z _)<|j_s (λk=>d_N<|x.take k) (n:=x.length) rfl<|λk hk=>?_).trans ?_
 .have hc:=x[k].toNat_lt
  have h1:b_ (shU x[k] 4)=((x[k].toNat / 16:Nat):Int):=by
   simp_all [shU,b_]
  have h2:b_ (x[k] &&& (15:UInt8))=((x[k].toNat % 16:Nat):Int):=by
   unfold b_
   rw [UInt8.toNat_and]
   congr 1
   exact Nat.and_two_pow_sub_one_eq_mod x[k].toNat 4
  have hl:=e_f<|x.take k
  rw [QAT] at hl
  rw [ix_ hk,a_,h1,h2]
  simp only
  rw [s_s (by omega),a_,s_s (by omega),a_,c_l (by grind),a_,s_q hk]
  rfl
 simp
theorem x_Y (l:List Bt)(x:Bt):Lib.join (l++[x]) [44]=if l=[] then x else Lib.join l [44]++[44]++x:=by
 cases l with
 | nil=>rw [QAr,Lib.join_one,iP_ rfl]
 | cons a r =>
  simp_all [Lib.joinTail,Lib.join_cons]
theorem x_Z:∀(l:List Bt),(Lib.join l [44]).length<=(l.map<|λx=>x.length+1).sum
 | []=>by grind [Lib.join_nil]
 | x::r=>by
  rw [Lib.join_length]
  have:Lib.lens (x::r)+r.length+1=((x::r).map (λx=>x.length+1)).sum:=by
   unfold Lib.lens
   have key:∀l:List Bt,(l.map (·.length)).sum+l.length=(l.map<|λx=>x.length+1).sum:=by
    intro l
    induction l with
    | nil=>rfl
    | cons a l ih=>grind
   grind
  grind
theorem y_0 (m:Nat):∀(l:List Str)(xs:List Val),l.length=xs.length->(∀j (h:j<l.length) (h':j<xs.length),l[j].b.length<=40 * vsz m xs[j]+35)->(Lib.join (l.map (·.b)) [44]).length<=40 * lsz m xs:=by
 intro l xs hl h;refine QAG (x_Z _) ?_
 induction l generalizing xs with
 | nil=>simp
 | cons a l ih =>
  cases xs with
  | nil=>grind
  | cons v xs =>
   have G:=h 0 (by simp) (by simp);have h1:=ih xs (by grind) (λj hj hj'=>by have:=h (j+1) (by grind) (by grind);grind)
   grind [i_7]
theorem s_t {P:Nat->Str->Prop}:∀(n:Nat),(∀j,j<n->∃t,P j t)->∃ts:List Str,ts.length=n/\∀j (h:j<ts.length),P j ts[j]
 | 0,_=>⟨[],rfl,λj h=>by grind⟩
 | n+1,h=>by
  obtain ⟨ts,h1,h2⟩:=s_t n<|λj hj=>h j (by omega);obtain ⟨t,ht⟩:=h n (by omega);refine ⟨ts++[t],by grind,λj hj=>?_⟩
  grind
end Go.Vw
