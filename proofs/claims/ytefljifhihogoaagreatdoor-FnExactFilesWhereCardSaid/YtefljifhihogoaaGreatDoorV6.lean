
import Derived.Test.YtefljifhihogoaaGreatDoorV5
namespace Go.Vw
set_option linter.unusedVariables false
open Go.RowKit Dat
def a_j:Bt->Nat
 | []=>0
 | x::t=>(t.takeWhile (· == x)).length+1
theorem r_j:∀s:Bt,a_j s<=s.length
 | []=>QAB _
 | x::t=>by
  grind [a_j,List.length_cons,List.takeWhile_prefix]
theorem r_k {s:Bt}(h:0<s.length):1<=a_j s:=by
 cases s with
 | nil=>grind
 | cons x t=>simp [a_j]
theorem r_l {x:UInt8}:∀(t:Bt)(i:Nat),i<(t.takeWhile (· == x)).length->t[i]? = some x
 | [],i,h=>by simp_all
 | y::t,i,h=>by
  by_cases hy:y=x
  .subst hy
   simp only [List.takeWhile_cons,bQ_,fT_,lC_] at h
   cases i with
   | zero=>rfl
   | succ i=>simpa using r_l t i (by omega)
  simp_all
theorem r_m {x:UInt8}:∀(t:Bt)(y:UInt8),t[(t.takeWhile (· == x)).length]? = some y->y ≠ x
 | [],y,h=>by grind
 | z::t,y,h=>by
  by_cases hz:z=x
  .subst hz
   simp only [List.takeWhile_cons,bQ_,fT_,lC_,List.getElem?_cons_succ] at h
   exact r_m t y h
  simp_all
theorem o_0 {s:Bt}{x:UInt8}(hx:s[0]? = some x){i:Nat}(hi:i<a_j s):s[i]? = some x:=by
 cases s with
 | nil=>grind
 | cons y t =>
  grind [a_j,r_l,List.getElem?_cons_zero,Option.some.injEq]
theorem o_1 {s:Bt}{x y:UInt8}(hx:s[0]? = some x)(hy:s[a_j s]? = some y):y ≠ x:=by
 cases s with
 | nil=>grind
 | cons z t =>
  simp only [List.getElem?_cons_zero,oI_] at hx;subst hx
  simp only [a_j,List.getElem?_cons_succ] at hy
  exact r_m t y hy
theorem w_C {s:Bt}:3<=a_j s ↔ ∃x,s[0]? = some x/\s[1]? = some x/\s[2]? = some x:=by
 constructor
 .intro h
  cases s with
  | nil=>grind [a_j]
  | cons x t=>exact ⟨x,rfl,o_0 (s:=x::t) rfl (by omega),o_0 (s:=x::t) rfl (by omega)⟩
 .rintro ⟨x,G,h1,h2⟩;refine Nat.le_of_not_lt λhlt=>?_
  have hp:=r_k (s:=s) (by grind);have:a_j s=1∨a_j s=2:=by omega
  rcases this with h | h
  .exact o_1 G (h ▸ h1) rfl
  .exact o_1 G (h ▸ h2) rfl
def a_I:Nat->Bt->Nat
 | 0,_=>0
 | _+1,[]=>0
 | m+1,x::t=>if 3<=a_j (x::t) then 0 else a_I m t+1
theorem i_b:∀(m:Nat)(s:Bt),a_I m s<=m/\a_I m s<=s.length
 | 0,s=>by simp [a_I]
 | m+1,[]=>by simp [a_I]
 | m+1,x::t=>by
  have:=i_b m t
  grind [a_I]
theorem r_n:∀(m:Nat)(s:Bt)(i:Nat),i<a_I m s->a_j (s.drop i)<3
 | 0,s,i,h=>by grind [a_I]
 | m+1,[],i,h=>by grind [a_I]
 | m+1,x::t,i,h=>by
  simp only [a_I] at h
  split at h
  .omega
  .rename_i hr
   cases i with
   | zero=>grind
   | succ i=>simpa using r_n m t i (by omega)
theorem r_o:∀(m:Nat)(s:Bt),a_I m s<m->a_I m s<s.length->3<=a_j (s.drop<|a_I m s)
 | 0,s,h,_=>by omega
 | m+1,[],_,h=>by grind
 | m+1,x::t,h,h2=>by
  simp only [a_I] at h h2 ⊢
  split at h
  .grind
  .rename_i hr
   rw [iN_ hr] at h2 ⊢
   simpa using r_o m t (by omega) (by grind)
theorem l_R {m:Nat}{s:Bt}(hm:0<m)(h:0<s.length)(hr:¬3<=a_j s):1<=a_I m s:=by
 cases s with
 | nil=>grind
 | cons x t =>
  cases m with
  | zero=>omega
  | succ m=>grind [a_I]
def g_7:Nat->Bt->Bt
 | 0,_=>[]
 | n+1,s =>
  match s with
  | []=>[]
  | x::t=>if 3<=a_j (x::t) then mkB (128+(min (a_j (x::t)) 127:Nat))::x::g_7 n ((x::t).drop (min (a_j (x::t)) 127))
   else mkB (a_I 127 (x::t):Nat)::((x::t).take (a_I 127 (x::t))++g_7 n ((x::t).drop (a_I 127 (x::t))))
def d_0 (s:Bt):Bt:=g_7 s.length s
def c_i (s:Bt):Bt×Nat :=
 if 3<=a_j s then ([mkB (128+(min (a_j s) 127:Nat)),s.getD 0 0],min (a_j s) 127) else (mkB (a_I 127 s:Nat)::s.take (a_I 127 s),a_I 127 s)
theorem o_2 {n:Nat}{s:Bt}(h:0<s.length):g_7 (n+1) s=(c_i s).1++g_7 n (s.drop (c_i s).2):=by
 cases s with
 | nil=>grind
 | cons x t =>
  grind [g_7,c_i]
theorem l_S {s:Bt}(h:0<s.length):1<=(c_i s).2/\(c_i s).2<=s.length:=by
 grind [c_i,l_R,i_b,r_j]
theorem r_p {s:Bt}(h:0<s.length):(c_i s).1.length<=2 * (c_i s).2:=by
 grind [c_i,l_R,List.length_cons,List.length_take,List.length_cons,List.length_nil,i_b]
theorem r_q:∀(n m:Nat)(s:Bt),s.length<=n->s.length<=m->g_7 n s=g_7 m s
 | 0,m,s,h,_=>by
  have:s=[]:=QAK (by omega);subst this;cases m <;> rfl
 | n+1,0,s,_,h=>by
  have:s=[]:=QAK (by omega);subst this;rfl
 | n+1,m+1,s,h1,h2=>by
  by_cases h:0<s.length
  .have hp:=l_S h
   rw [o_2 h,o_2 h,r_q n m _ (by grind) (by grind)]
  .have:s=[]:=QAK (by omega);subst this;rfl
theorem o_3:d_0 []=[]:=rfl
theorem r_r {s:Bt}(h:0<s.length):d_0 s=(c_i s).1++d_0 (s.drop (c_i s).2):=by
 have hp:=l_S h;unfold d_0;obtain ⟨n,hn⟩:∃n,s.length=n+1:=⟨s.length - 1,by omega⟩
 rw [hn,o_2 h,r_q n _ _ (by grind)<|QAB _]
theorem r_s:∀(n:Nat)(s:Bt),s.length<=n->(d_0 s).length<=2 * s.length
 | 0,s,h=>by
  grind [o_3,List.eq_nil_of_length_eq_zero]
 | n+1,s,h=>by
  by_cases G:0<s.length
  .have hp:=l_S G;have hl:=r_p G;have:=r_s n (s.drop (c_i s).2) (by grind)
   grind [List.length_drop,r_r,List.length_append]
  grind [List.eq_nil_of_length_eq_zero,o_3]
def d_J:Nat->Bt->Bt->Option Bt
 | 0,_,_=>none
 | n+1,s,out =>
  match s with
  | []=>some out
  | c::t =>
   if c=0∨c=128∨t=[] then none
   else if c.toNat<128 then
    if t.length<c.toNat then none else if 1000<(out++t.take c.toNat).length then none else d_J n (t.drop c.toNat) (out++t.take c.toNat)
   else if 1000<(out++List.replicate (c.toNat - 128) (t.getD 0 0)).length then none else d_J n (t.drop 1) (out++List.replicate (c.toNat - 128) (t.getD 0 0))
def e_c (s:Bt):Option Bt:=d_J (s.length+1) s []
theorem w_D:e_c []=some []:=rfl
def d_1 (s:Bt):Option Nat :=
 match s[1]? with
 | none=>none
 | some c=>match s[c.toNat+3]?,s[c.toNat+4]? with
  | some h,some l=>if c.toNat+6+(256 * h.toNat+l.toNat)<=s.length then some (c.toNat+6+(256 * h.toNat+l.toNat)) else none
  | _,_=>none
theorem o_4 {s:Bt}{k:Nat}(h:d_1 s=some k):∃c hi lo,s[1]? = some c/\s[c.toNat+3]? = some hi/\s[c.toNat+4]? = some lo/\k=c.toNat+6+(256 * hi.toNat+lo.toNat)/\k<=s.length:=by
 unfold d_1 at h
 grind
theorem r_t {s:Bt}{c hi lo:UInt8}(h1:s[1]? = some c)(h2:s[c.toNat+3]? = some hi)(h3:s[c.toNat+4]? = some lo)(h:c.toNat+6+(256 * hi.toNat+lo.toNat)<=s.length):d_1 s=some (c.toNat+6+(256 * hi.toNat+lo.toNat)):=by
 grind [d_1]
theorem w_E {s:Bt}{k m:Nat}(h:d_1 s=some k)(hk:k<=m):d_1 (s.take m)=some k:=by
 obtain ⟨c,hi,lo,h1,h2,h3,rfl,h4⟩:=o_4 h;refine r_t ?_ ?_ ?_ ?_
 .grind
 .grind
 .grind
 grind
theorem w_F {s:Bt}{k m:Nat}(h:d_1 (s.take m)=some k):d_1 s=some k/\k<=m:=by
 obtain ⟨c,hi,lo,h1,h2,h3,rfl,h4⟩:=o_4 h
 grind [get,get,r_t,List.length_take]
end Go.Vw
