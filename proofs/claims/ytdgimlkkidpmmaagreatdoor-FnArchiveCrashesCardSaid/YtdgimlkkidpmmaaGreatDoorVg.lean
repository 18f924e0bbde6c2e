
import Derived.Test.YtdgimlkkidpmmaaGreatDoorV5
namespace Go.Vw
open Go.RowKit Dat
def a_a:Bt->Nat
 | []=>0
 | x::t=>(t.takeWhile (· == x)).length+1
theorem o_J:∀s:Bt,a_a s<=s.length
 | []=>Nat.le_refl _
 | x::t=>by
  have:=(List.takeWhile_prefix (p:=(· == x)) (l:=t)).length_le
  simp only [a_a,lC_];omega
theorem o_K {s:Bt}(h:0<s.length):1<=a_a s:=by
 cases s with
 | nil=>simp at h
 | cons x t=>simp [a_a]
theorem o_L {x:UInt8}:∀(t:Bt)(i:Nat),i<(t.takeWhile (· == x)).length->t[i]? = some x
 | [],i,h=>by simp at h
 | y::t,i,h=>by
  by_cases hy:y=x
  .subst hy
   simp only [List.takeWhile_cons,bQ_,fT_,lC_] at h
   cases i with
   | zero=>rfl
   | succ i=>simpa using o_L t i (by omega)
  .simp [hy] at h
theorem o_M {x:UInt8}:∀(t:Bt)(y:UInt8),t[(t.takeWhile (· == x)).length]? = some y->y ≠ x
 | [],y,h=>by simp at h
 | z::t,y,h=>by
  by_cases hz:z=x
  .subst hz
   simp only [List.takeWhile_cons,bQ_,fT_,lC_,List.getElem?_cons_succ] at h
   exact o_M t y h
  .simp only [List.takeWhile_cons,show (z==x)=false by simpa using hz,bF_,fF_,List.length_nil,List.getElem?_cons_zero,oI_] at h
   subst h;exact hz
theorem m_w {s:Bt}{x:UInt8}(hx:s[0]? = some x){i:Nat}(hi:i<a_a s):s[i]? = some x:=by
 cases s with
 | nil=>simp at hx
 | cons y t =>
  simp only [List.getElem?_cons_zero,oI_] at hx;subst hx
  cases i with
  | zero=>rfl
  | succ i=>simp only [a_a] at hi;simpa using o_L t i (by omega)
theorem m_x {s:Bt}{x y:UInt8}(hx:s[0]? = some x)(hy:s[a_a s]? = some y):y ≠ x:=by
 cases s with
 | nil=>simp at hx
 | cons z t =>
  simp only [List.getElem?_cons_zero,oI_] at hx;subst hx
  simp only [a_a,List.getElem?_cons_succ] at hy
  exact o_M t y hy
theorem t_c {s:Bt}:3<=a_a s ↔ ∃x,s[0]? = some x/\s[1]? = some x/\s[2]? = some x:=by
 constructor
 .intro h
  cases s with
  | nil=>simp [a_a] at h
  | cons x t=>exact ⟨x,rfl,m_w (s:=x::t) rfl (by omega),m_w (s:=x::t) rfl (by omega)⟩
 .rintro ⟨x,G,h1,h2⟩;refine Nat.le_of_not_lt λhlt=>?_
  have hp:=o_K (s:=s) (by cases s with | nil=>simp at G | cons a t=>simp);have:a_a s=1∨a_a s=2:=by omega
  rcases this with h | h
  .exact m_x G (h ▸ h1) rfl
  .exact m_x G (h ▸ h2) rfl
def a_p:Nat->Bt->Nat
 | 0,_=>0
 | _+1,[]=>0
 | m+1,x::t=>if 3<=a_a (x::t) then 0 else a_p m t+1
theorem h_v:∀(m:Nat)(s:Bt),a_p m s<=m/\a_p m s<=s.length
 | 0,s=>by simp [a_p]
 | m+1,[]=>by simp [a_p]
 | m+1,x::t=>by
  have:=h_v m t
  simp only [a_p,lC_];split <;> omega
theorem o_N:∀(m:Nat)(s:Bt)(i:Nat),i<a_p m s->a_a (s.drop i)<3
 | 0,s,i,h=>by simp [a_p] at h
 | m+1,[],i,h=>by simp [a_p] at h
 | m+1,x::t,i,h=>by
  simp only [a_p] at h
  split at h
  .simp at h
  .rename_i hr
   cases i with
   | zero=>simp only [List.drop_zero];omega
   | succ i=>simpa using o_N m t i (by omega)
theorem o_O:∀(m:Nat)(s:Bt),a_p m s<m->a_p m s<s.length->3<=a_a (s.drop<|a_p m s)
 | 0,s,h,_=>by omega
 | m+1,[],_,h=>by simp [a_p] at h
 | m+1,x::t,h,h2=>by
  simp only [a_p] at h h2 ⊢
  split at h
  .rename_i hr;rw [iP_ hr];simpa using hr
  .rename_i hr
   rw [iN_ hr] at h2 ⊢
   simpa using o_O m t (by omega) (by simp at h2;omega)
theorem k_t {m:Nat}{s:Bt}(hm:0<m)(h:0<s.length)(hr:¬3<=a_a s):1<=a_p m s:=by
 cases s with
 | nil=>simp at h
 | cons x t =>
  cases m with
  | zero=>omega
  | succ m=>simp only [a_p,iN_ hr];omega
def e_W:Nat->Bt->Bt
 | 0,_=>[]
 | n+1,s =>
  match s with
  | []=>[]
  | x::t=>if 3<=a_a (x::t) then mkB (128+(min (a_a (x::t)) 127:Nat))::x::e_W n ((x::t).drop (min (a_a (x::t)) 127))
   else mkB (a_p 127 (x::t):Nat)::((x::t).take (a_p 127 (x::t))++e_W n ((x::t).drop (a_p 127 (x::t))))
def b_m (s:Bt):Bt:=e_W s.length s
def b_S (s:Bt):Bt×Nat :=
 if 3<=a_a s then ([mkB (128+(min (a_a s) 127:Nat)),s.getD 0 0],min (a_a s) 127) else (mkB (a_p 127 s:Nat)::s.take (a_p 127 s),a_p 127 s)
theorem m_y {n:Nat}{s:Bt}(h:0<s.length):e_W (n+1) s=(b_S s).1++e_W n (s.drop (b_S s).2):=by
 cases s with
 | nil=>simp at h
 | cons x t =>
  simp only [e_W,b_S]
  split <;> simp
theorem k_u {s:Bt}(h:0<s.length):1<=(b_S s).2/\(b_S s).2<=s.length:=by
 unfold b_S;have h1:=o_J s;have h2:=h_v 127 s
 split
 .simp only;omega
 .rename_i hr
  have:=k_t (m:=127) (by omega) h hr
  simp only;omega
theorem o_P {s:Bt}(h:0<s.length):(b_S s).1.length<=2 * (b_S s).2:=by
 unfold b_S;have h2:=h_v 127 s
 split
 .simp only [lC_,List.length_nil];omega
 .rename_i hr
  have:=k_t (m:=127) (by omega) h hr
  simp only [lC_,List.length_take];omega
theorem o_Q:∀(n m:Nat)(s:Bt),s.length<=n->s.length<=m->e_W n s=e_W m s
 | 0,m,s,h,_=>by
  have:s=[]:=List.eq_nil_of_length_eq_zero (by omega);subst this;cases m <;> rfl
 | n+1,0,s,_,h=>by
  have:s=[]:=List.eq_nil_of_length_eq_zero (by omega);subst this;rfl
 | n+1,m+1,s,h1,h2=>by
  by_cases h:0<s.length
  .have hp:=k_u h
   rw [m_y h,m_y h,o_Q n m _ (by rw [List.length_drop];omega) (by rw [List.length_drop];omega)]
  .have:s=[]:=List.eq_nil_of_length_eq_zero (by omega);subst this;rfl
theorem m_z:b_m []=[]:=rfl
theorem o_R {s:Bt}(h:0<s.length):b_m s=(b_S s).1++b_m (s.drop (b_S s).2):=by
 have hp:=k_u h;unfold b_m;obtain ⟨n,hn⟩:∃n,s.length=n+1:=⟨s.length - 1,by omega⟩
 rw [hn,m_y h,o_Q n _ _ (by rw [List.length_drop];omega)<|Nat.le_refl _]
theorem o_S:∀(n:Nat)(s:Bt),s.length<=n->(b_m s).length<=2 * s.length
 | 0,s,h=>by
  have:s=[]:=List.eq_nil_of_length_eq_zero (by omega);subst this;simp [m_z]
 | n+1,s,h=>by
  by_cases G:0<s.length
  .have hp:=k_u G;have hl:=o_P G;have:=o_S n (s.drop (b_S s).2) (by rw [List.length_drop];omega)
   rw [o_R G,List.length_append]
   rw [List.length_drop] at this
   omega
  .have:s=[]:=List.eq_nil_of_length_eq_zero (by omega);subst this;simp [m_z]
def d_b:Nat->Bt->Bt->Option Bt
 | 0,_,_=>none
 | n+1,s,out =>
  match s with
  | []=>some out
  | c::t =>
   if c=0∨c=128∨t=[] then none
   else if c.toNat<128 then
    if t.length<c.toNat then none else if 1000<(out++t.take c.toNat).length then none else d_b n (t.drop c.toNat) (out++t.take c.toNat)
   else if 1000<(out++List.replicate (c.toNat - 128) (t.getD 0 0)).length then none else d_b n (t.drop 1) (out++List.replicate (c.toNat - 128) (t.getD 0 0))
def d_s (s:Bt):Option Bt:=d_b (s.length+1) s []
theorem t_d:d_s []=some []:=rfl
def c_q (s:Bt):Option Nat :=
 match s[1]? with
 | none=>none
 | some c=>match s[c.toNat+3]?,s[c.toNat+4]? with
  | some h,some l=>if c.toNat+6+(256 * h.toNat+l.toNat)<=s.length then some (c.toNat+6+(256 * h.toNat+l.toNat)) else none
  | _,_=>none
theorem m_A {s:Bt}{k:Nat}(h:c_q s=some k):∃c hi lo,s[1]? = some c/\s[c.toNat+3]? = some hi/\s[c.toNat+4]? = some lo/\k=c.toNat+6+(256 * hi.toNat+lo.toNat)/\k<=s.length:=by
 unfold c_q at h
 split at h
 .cases h
 .rename_i c hc
  split at h
  .rename_i hi lo h1 h2
   split at h
   .rename_i hk;cases h;exact ⟨c,hi,lo,hc,h1,h2,rfl,hk⟩
   .cases h
  .cases h
theorem m_B {s:Bt}{c hi lo:UInt8}(h1:s[1]? = some c)(h2:s[c.toNat+3]? = some hi)(h3:s[c.toNat+4]? = some lo)(h:c.toNat+6+(256 * hi.toNat+lo.toNat)<=s.length):c_q s=some (c.toNat+6+(256 * hi.toNat+lo.toNat)):=by
 unfold c_q;rw [h1];simp only;rw [h2,h3];simp only;rw [iP_ h]
theorem t_e {s:Bt}{k m:Nat}(h:c_q s=some k)(hk:k<=m):c_q (s.take m)=some k:=by
 obtain ⟨c,hi,lo,h1,h2,h3,rfl,h4⟩:=m_A h;refine m_B ?_ ?_ ?_ ?_
 .rw [List.getElem?_take,iP_ (by omega)];exact h1
 .rw [List.getElem?_take,iP_ (by omega)];exact h2
 .rw [List.getElem?_take,iP_ (by omega)];exact h3
 .rw [List.length_take];omega
theorem t_f {s:Bt}{k m:Nat}(h:c_q (s.take m)=some k):c_q s=some k/\k<=m:=by
 obtain ⟨c,hi,lo,h1,h2,h3,rfl,h4⟩:=m_A h
 have get:∀{i:Nat}{x:UInt8},(s.take m)[i]? = some x->s[i]? = some x:=by
  intro i x hx
  rw [List.getElem?_take] at hx
  split at hx
  .exact hx
  .cases hx
 rw [List.length_take] at h4
 exact ⟨m_B (get h1) (get h2) (get h3) (by omega),by omega⟩
end Go.Vw
