
import Derived.Test.YtefljifhihogoaaGreatDoorVf
namespace Go.Vw
set_option linter.unusedVariables false
open Go.RowKit Dat
section
variable {α:Type}(f:α->Int->α×Int)
def mkK:List α->Int->Int
 | [],k=>k
 | x::t,k=>mkK t (f x k).2
def mkL:List α->Int->List α
 | [],_=>[]
 | x::t,k=>(f x k).1::mkL t (f x k).2
theorem s_1 (x:α):∀(l:List α)(k:Int),mkK f (l++[x]) k=(f x<|mkK f l k).2
 | [],_=>rfl
 | _::t,_=>s_1 x t _
theorem s_2 (x:α):∀(l:List α)(k:Int),mkL f (l++[x]) k=mkL f l k++[(f x<|mkK f l k).1]
 | [],_=>rfl
 | y::t,k=>congrArg ((f y k).1 :: ·)<|s_2 x t _
theorem o_g:∀(l:List α)(k:Int),(mkL f l k).length=l.length
 | [],_=>rfl
 | _::t,_=>congrArg (· + 1)<|o_g t _
theorem m_0 {l:List α}{j:Nat}(hj:j<l.length):l.take (j+1)=l.take j++[l[j]]:=by
 simp
theorem i_e (m:α->Nat)(h:∀x k,(f x k).2=k+m x):∀(l:List α)(k:Int),mkK f l k=k+((l.map m).sum:Nat)
 | [],k=>by simp [mkK]
 | x::t,k=>by
  rw [mkK,i_e m h t,h]
  grind
theorem s_3 (m:α->Nat){l:List α}{j:Nat}(hj:j<l.length):((l.take j).map m).sum+m l[j]<=(l.map m).sum:=by
 grind [List.drop_eq_getElem_cons,List.take_append_drop]
theorem s_4 {ρ:Type}{l:List α}{k:Int}{n:Nat}(hn:l.length<n)(P:α->Int->Prop)(hP:∀j (hj:j<l.length),P l[j] (mkK f (l.take j) k)){step:List α×Int×Int->Option (Out (List α×Int×Int) ρ)}
  (hs:∀(c:List α)(j:Nat)(x:Int)(hj:j<c.length),c.length=l.length->P c[j] x->step (c,x,(j:Int))=some (.next (c.set j (f c[j] x).1,(f c[j] x).2,((j+1:Nat):Int)))) (he:∀(c:List α)(j:Nat)(x:Int),¬j<c.length->step (c,x,(j:Int))=some (.brk (c,x,(j:Int)))) :
  F_ step n (l,k,0)=some (.inl (mkL f l k,mkK f l k,(l.length:Int))):=by
 have h:=g_l (step:=step) (m:=n) (λj=>(mkL f (l.take j) k++l.drop j,mkK f (l.take j) k,(j:Int))) (j0:=l.length) (s:=(mkL f l k,mkK f l k,(l.length:Int))) hn (λj hj=>by
  have hlt:(mkL f (l.take j) k).length=j:=by grind [o_g,List.length_take]
  have hlen:(mkL f (l.take j) k++l.drop j).length=l.length:=by grind
  have hg:(mkL f (l.take j) k++l.drop j)[j]'(by omega)=l[j]:=by
   grind
  rw [hs _ j _ (by omega) hlen (by grind),hg,m_0 hj,s_1,s_2,QBJ _ _ (by omega),hlt,QBC,dC_ hj,List.set_cons_zero,QAh]
  rfl) (by
  grind [List.length_append,o_g])
 grind [mkL,mkK]
end
theorem s_5 {n:Nat}(G:30<=n){k:Int}(H:0<=k)(hk:k<=1152921504606846976):f_q n k=some (e_B n k):=by
 grind [e_B,q_m]
theorem x_o {n m:Nat}{k:Int}(H:0<=k)(hk:k+m<=1152921504606846976)(G:30<=n):i_L n ((List.range m).map (λ(i:Nat)=>e_B n<|k+i)) k=some (k+m):=by
 unfold i_L
 rw [j_x (λj=>k+(j:Int)) (n:=((List.range m).map (λ(i:Nat)=>e_B n (k+(i:Int)))).length) (by simp) (λj hj=>by
  rw [ix_ hj]
  simp at hj
  simp only [a_,List.getElem_map,List.getElem_range]
  rw [s_5 G (by omega) (by omega),a_]
  rw [ia_ (x:=k+(j:Int)) (by omega) (by omega)]
  grind)]
 simp
def mR (r:f_):Nat:=4+r.bytes.length+r.names.length+r.tags.length+r.kids.length
def fR (n:Nat)(r:f_)(k:Int):f_×Int :=
 (⟨e_B n k,k+1,k+1+1,(b_7 (k+1+1+1) 3)==0,(List.range r.bytes.length).map (λ(i:Nat)=>mkB (k+1+1+1+1+i)),(List.range r.names.length).map (λ(i:Nat)=>e_B n (k+1+1+1+1+r.bytes.length+i)),(List.range r.tags.length).map (λ(i:Nat)=>k+1+1+1+1+r.bytes.length+r.names.length+i),(List.range r.kids.length).map (λ(i:Nat)=>k+1+1+1+1+r.bytes.length+r.names.length+r.tags.length+i)⟩,
  k+1+1+1+1+r.bytes.length+r.names.length+r.tags.length+r.kids.length)
theorem s_6 (n:Nat)(r:f_)(k:Int):(fR n r k).2=k+mR r:=by
 grind [fR,mR]
def mD (d:d_):Nat:=(d.rules.map mR).sum
def fD (n:Nat)(d:d_)(k:Int):d_×Int:=(⟨mkL (fR n) d.rules k⟩,mkK (fR n) d.rules k)
theorem o_h (n:Nat)(d:d_)(k:Int):(fD n d k).2=k+mD d:=i_e _ mR (s_6 n) _ _
theorem x_p {n:Nat}{l:List f_}(hl:l.length<=MX)(hs:∀r∈l,SmR r)(hn:MX+30<=n){k:Int}(I:0<=k)(hk:k+((l.map mR).sum:Nat)<=1152921504606846976):k_n n l k=some (mkK (fR n) l k,mkL (fR n) l k):=by
 have hMX:=MXv;unfold k_n
 rw [s_4 (fR n) (l:=l) (k:=k) (n:=n) (by omega) (λr x=>SmR r/\0<=x/\x+mR r<=1152921504606846976) (λj hj=>by
  have h1:=s_3 mR hj
  grind [mR,List.getElem_mem,i_e,s_6]) (λa j x hja hal hp=>by
   obtain ⟨hr,G,H⟩:=hp;have hb:=hr.bytes;have hnm:=hr.names;have ht:=hr.tags;have hkd:=hr.kids;unfold mR at H
   simp only [un3]
   rw [dT_ (show (j:Int)<(a.length:Int) by omega),iP_ rfl]
   rw [s_5 (n:=n) (by omega) G (by omega:x<=1152921504606846976),a_,ix_ hja,a_,c_P hja,a_]
   generalize a[j]=r at *
   rw [h_g hja,a_,n_z hja,a_,h_g hja,a_,n_z hja,a_,h_g hja,a_,n_z hja,a_,h_g hja,a_]
   simp only [tN_,List.set_set]
   rw [ia_ (x:=x) (by omega) (by omega),ia_ (x:=x+1) (by omega) (by omega),ia_ (x:=x+1+1) (by omega) (by omega),ia_ (x:=x+1+1+1) (by omega) (by omega)]
   rw [q_n (by omega) (by omega) (by omega)]
   simp only [a_b]
   rw [h_g hja,a_]
   simp only
   rw [q_p (by omega) (by omega) (by omega) (by omega)]
   simp only [a_b]
   rw [h_g hja,a_]
   simp only
   rw [q_o (by omega) (by omega) (by omega)]
   simp only [a_b]
   rw [h_g hja,a_]
   simp only
   rw [q_o (by omega) (by omega) (by omega)]
   simp only [a_b]
   rw [ia_ (x:=(j:Int)) (by omega) (by omega)]
   rfl) (λa j x hj=>by
   grind)]
 rfl
theorem x_q {n:Nat}{l:List d_}(hl:l.length<=MX)(hs:∀d∈l,SmD d)(hn:MX+30<=n){k:Int}(I:0<=k)(hk:k+((l.map mD).sum:Nat)<=1152921504606846976):l_0 n l k=some (mkK (fD n) l k,mkL (fD n) l k):=by
 have hMX:=MXv;unfold l_0
 rw [s_4 (fD n) (l:=l) (k:=k) (n:=n) (by omega) (λd x=>SmD d/\0<=x/\x+mD d<=1152921504606846976) (λj hj=>by
  have h1:=s_3 mD hj
  grind [mD,List.getElem_mem,i_e,o_h]) (λa j x hja hal hp=>by
   obtain ⟨hr,G,H⟩:=hp
   simp only [un3]
   rw [dT_ (show (j:Int)<(a.length:Int) by omega),iP_ rfl,ix_ hja,a_,x_p hr.rules hr.each hn G H]
   simp only [a_b]
   rw [ia_ (x:=(j:Int)) (by omega) (by omega)]
   rfl) (λa j x hj=>by
   grind)]
 rfl
end Go.Vw
