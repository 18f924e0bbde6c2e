
import Derived.Test.YtgpgenigfncgeaaGreatDoorV5
namespace Go.Vw
open Go.RowKit Dat
def a_b:Bt->Nat
 | []=>0
 | x::t=>(t.takeWhile (· == x)).length+1
theorem p_j:∀s:Bt,a_b s<=s.length
 | []=>Nat.le_refl _
 | x::t=>by
  have:=(List.takeWhile_prefix (p:=(· == x)) (l:=t)).length_le
  simp only [a_b,lC_];omega
theorem p_k {s:Bt}(h:0<s.length):1<=a_b s:=by
 cases s with
 | nil=>simp at h
 | cons x t=>simp [a_b]
theorem p_l {x:UInt8}:∀(t:Bt)(i:Nat),i<(t.takeWhile (· == x)).length->t[i]? = some x
 | [],i,h=>by simp at h
 | y::t,i,h=>by
  by_cases hy:y=x
  .subst hy
   simp only [List.takeWhile_cons,bQ_,fT_,lC_] at h
   cases i with
   | zero=>rfl
   | succ i=>simpa using p_l t i (by omega)
  .simp [hy] at h
theorem p_m {x:UInt8}:∀(t:Bt)(y:UInt8),t[(t.takeWhile (· == x)).length]? = some y->y ≠ x
 | [],y,h=>by simp at h
 | z::t,y,h=>by
  by_cases hz:z=x
  .subst hz
   simp only [List.takeWhile_cons,bQ_,fT_,lC_,List.getElem?_cons_succ] at h
   exact p_m t y h
  .simp only [List.takeWhile_cons,show (z==x)=false by simpa using hz,bF_,fF_,List.length_nil,List.getElem?_cons_zero,oI_] at h
   subst h;exact hz
theorem m_G {s:Bt}{x:UInt8}(hx:s[0]? = some x){i:Nat}(hi:i<a_b s):s[i]? = some x:=by
 cases s with
 | nil=>simp at hx
 | cons y t =>
  simp only [List.getElem?_cons_zero,oI_] at hx;subst hx
  cases i with
  | zero=>rfl
  | succ i=>simp only [a_b] at hi;simpa using p_l t i (by omega)
theorem m_H {s:Bt}{x y:UInt8}(hx:s[0]? = some x)(hy:s[a_b s]? = some y):y ≠ x:=by
 cases s with
 | nil=>simp at hx
 | cons z t =>
  simp only [List.getElem?_cons_zero,oI_] at hx;subst hx
  simp only [a_b,List.getElem?_cons_succ] at hy
  exact p_m t y hy
theorem u_b {s:Bt}:3<=a_b s ↔ ∃x,s[0]? = some x/\s[1]? = some x/\s[2]? = some x:=by
 constructor
 .intro h
  cases s with
  | nil=>simp [a_b] at h
  | cons x t=>exact ⟨x,rfl,m_G (s:=x::t) rfl (by omega),m_G (s:=x::t) rfl (by omega)⟩
 .rintro ⟨x,G,h1,h2⟩;refine Nat.le_of_not_lt λhlt=>?_
  have hp:=p_k (s:=s) (by cases s with | nil=>simp at G | cons a t=>simp);have:a_b s=1∨a_b s=2:=by omega
  rcases this with h | h
  .exact m_H G (h ▸ h1) rfl
  .exact m_H G (h ▸ h2) rfl
def a_p:Nat->Bt->Nat
 | 0,_=>0
 | _+1,[]=>0
 | m+1,x::t=>if 3<=a_b (x::t) then 0 else a_p m t+1
theorem g_w:∀(m:Nat)(s:Bt),a_p m s<=m/\a_p m s<=s.length
 | 0,s=>by simp [a_p]
 | m+1,[]=>by simp [a_p]
 | m+1,x::t=>by
  have:=g_w m t
  simp only [a_p,lC_];split <;> omega
theorem p_n:∀(m:Nat)(s:Bt)(i:Nat),i<a_p m s->a_b (s.drop i)<3
 | 0,s,i,h=>by simp [a_p] at h
 | m+1,[],i,h=>by simp [a_p] at h
 | m+1,x::t,i,h=>by
  simp only [a_p] at h
  split at h
  .simp at h
  .rename_i hr
   cases i with
   | zero=>simp only [List.drop_zero];omega
   | succ i=>simpa using p_n m t i (by omega)
theorem p_o:∀(m:Nat)(s:Bt),a_p m s<m->a_p m s<s.length->3<=a_b (s.drop<|a_p m s)
 | 0,s,h,_=>by omega
 | m+1,[],_,h=>by simp [a_p] at h
 | m+1,x::t,h,h2=>by
  simp only [a_p] at h h2 ⊢
  split at h
  .rename_i hr;rw [iP_ hr];simpa using hr
  .rename_i hr
   rw [iN_ hr] at h2 ⊢
   simpa using p_o m t (by omega) (by simp at h2;omega)
theorem k_Q {m:Nat}{s:Bt}(hm:0<m)(h:0<s.length)(hr:¬3<=a_b s):1<=a_p m s:=by
 cases s with
 | nil=>simp at h
 | cons x t =>
  cases m with
  | zero=>omega
  | succ m=>simp only [a_p,iN_ hr];omega
def e_U:Nat->Bt->Bt
 | 0,_=>[]
 | n+1,s =>
  match s with
  | []=>[]
  | x::t=>if 3<=a_b (x::t) then mkB (128+(min (a_b (x::t)) 127:Nat))::x::e_U n ((x::t).drop (min (a_b (x::t)) 127))
   else mkB (a_p 127 (x::t):Nat)::((x::t).take (a_p 127 (x::t))++e_U n ((x::t).drop (a_p 127 (x::t))))
def c_x (s:Bt):Bt:=e_U s.length s
def b_U (s:Bt):Bt×Nat :=
 if 3<=a_b s then ([mkB (128+(min (a_b s) 127:Nat)),s.getD 0 0],min (a_b s) 127) else (mkB (a_p 127 s:Nat)::s.take (a_p 127 s),a_p 127 s)
theorem m_I {n:Nat}{s:Bt}(h:0<s.length):e_U (n+1) s=(b_U s).1++e_U n (s.drop (b_U s).2):=by
 cases s with
 | nil=>simp at h
 | cons x t =>
  simp only [e_U,b_U]
  split <;> simp
theorem k_R {s:Bt}(h:0<s.length):1<=(b_U s).2/\(b_U s).2<=s.length:=by
 unfold b_U;have h1:=p_j s;have h2:=g_w 127 s
 split
 .simp only;omega
 .rename_i hr
  have:=k_Q (m:=127) (by omega) h hr
  simp only;omega
theorem p_p {s:Bt}(h:0<s.length):(b_U s).1.length<=2 * (b_U s).2:=by
 unfold b_U;have h2:=g_w 127 s
 split
 .simp only [lC_,List.length_nil];omega
 .rename_i hr
  have:=k_Q (m:=127) (by omega) h hr
  simp only [lC_,List.length_take];omega
theorem p_q:∀(n m:Nat)(s:Bt),s.length<=n->s.length<=m->e_U n s=e_U m s
 | 0,m,s,h,_=>by
  have:s=[]:=List.eq_nil_of_length_eq_zero (by omega);subst this;cases m <;> rfl
 | n+1,0,s,_,h=>by
  have:s=[]:=List.eq_nil_of_length_eq_zero (by omega);subst this;rfl
 | n+1,m+1,s,h1,h2=>by
  by_cases h:0<s.length
  .have hp:=k_R h
   rw [m_I h,m_I h,p_q n m _ (by rw [List.length_drop];omega) (by rw [List.length_drop];omega)]
  .have:s=[]:=List.eq_nil_of_length_eq_zero (by omega);subst this;rfl
theorem m_J:c_x []=[]:=rfl
theorem p_r {s:Bt}(h:0<s.length):c_x s=(b_U s).1++c_x (s.drop (b_U s).2):=by
 have hp:=k_R h;unfold c_x;obtain ⟨n,hn⟩:∃n,s.length=n+1:=⟨s.length - 1,by omega⟩
 rw [hn,m_I h,p_q n _ _ (by rw [List.length_drop];omega)<|Nat.le_refl _]
theorem p_s:∀(n:Nat)(s:Bt),s.length<=n->(c_x s).length<=2 * s.length
 | 0,s,h=>by
  have:s=[]:=List.eq_nil_of_length_eq_zero (by omega);subst this;simp [m_J]
 | n+1,s,h=>by
  by_cases G:0<s.length
  .have hp:=k_R G;have hl:=p_p G;have:=p_s n (s.drop (b_U s).2) (by rw [List.length_drop];omega)
   rw [p_r G,List.length_append]
   rw [List.length_drop] at this
   omega
  .have:s=[]:=List.eq_nil_of_length_eq_zero (by omega);subst this;simp [m_J]
def d_a:Nat->Bt->Bt->Option Bt
 | 0,_,_=>none
 | n+1,s,out =>
  match s with
  | []=>some out
  | c::t =>
   if c=0∨c=128∨t=[] then none
   else if c.toNat<128 then
    if t.length<c.toNat then none else if 1000<(out++t.take c.toNat).length then none else d_a n (t.drop c.toNat) (out++t.take c.toNat)
   else if 1000<(out++List.replicate (c.toNat - 128) (t.getD 0 0)).length then none else d_a n (t.drop 1) (out++List.replicate (c.toNat - 128) (t.getD 0 0))
def d_y (s:Bt):Option Bt:=d_a (s.length+1) s []
theorem u_c:d_y []=some []:=rfl
def c_y (s:Bt):Option Nat :=
 match s[1]? with
 | none=>none
 | some c=>match s[c.toNat+3]?,s[c.toNat+4]? with
  | some h,some l=>if c.toNat+6+(256 * h.toNat+l.toNat)<=s.length then some (c.toNat+6+(256 * h.toNat+l.toNat)) else none
  | _,_=>none
theorem m_K {s:Bt}{k:Nat}(h:c_y s=some k):∃c hi lo,s[1]? = some c/\s[c.toNat+3]? = some hi/\s[c.toNat+4]? = some lo/\k=c.toNat+6+(256 * hi.toNat+lo.toNat)/\k<=s.length:=by
 unfold c_y at h
 split at h
 .cases h
 .rename_i c hc
  split at h
  .rename_i hi lo h1 h2
   split at h
   .rename_i hk;cases h;exact ⟨c,hi,lo,hc,h1,h2,rfl,hk⟩
   .cases h
  .cases h
theorem p_t {s:Bt}{c hi lo:UInt8}(h1:s[1]? = some c)(h2:s[c.toNat+3]? = some hi)(h3:s[c.toNat+4]? = some lo)(h:c.toNat+6+(256 * hi.toNat+lo.toNat)<=s.length):c_y s=some (c.toNat+6+(256 * hi.toNat+lo.toNat)):=by
 unfold c_y;rw [h1];simp only;rw [h2,h3];simp only;rw [iP_ h]
theorem u_d {s:Bt}{k m:Nat}(h:c_y s=some k)(hk:k<=m):c_y (s.take m)=some k:=by
 obtain ⟨c,hi,lo,h1,h2,h3,rfl,h4⟩:=m_K h;refine p_t ?_ ?_ ?_ ?_
 .rw [List.getElem?_take,iP_ (by omega)];exact h1
 .rw [List.getElem?_take,iP_ (by omega)];exact h2
 .rw [List.getElem?_take,iP_ (by omega)];exact h3
 .rw [List.length_take];omega
theorem u_e {s:Bt}{k m:Nat}(h:c_y (s.take m)=some k):c_y s=some k/\k<=m:=by
 obtain ⟨c,hi,lo,h1,h2,h3,rfl,h4⟩:=m_K h
 have get:∀{i:Nat}{x:UInt8},(s.take m)[i]? = some x->s[i]? = some x:=by
  intro i x hx
  rw [List.getElem?_take] at hx
  split at hx
  .exact hx
  .cases hx
 rw [List.length_take] at h4
 exact ⟨p_t (get h1) (get h2) (get h3) (by omega),by omega⟩
end Go.Vw
