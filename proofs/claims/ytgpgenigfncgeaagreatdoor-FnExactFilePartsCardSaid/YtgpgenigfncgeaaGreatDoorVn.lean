
import Derived.Test.YtgpgenigfncgeaaGreatDoorVm
namespace Go.Vw
open Go.RowKit Dat
section
variable {α:Type}(f:α->Int->α×Int)
def mkK:List α->Int->Int
 | [],k=>k
 | x::t,k=>mkK t (f x k).2
def mkL:List α->Int->List α
 | [],_=>[]
 | x::t,k=>(f x k).1::mkL t (f x k).2
theorem q_0 (x:α):∀(l:List α)(k:Int),mkK f (l++[x]) k=(f x<|mkK f l k).2
 | [],_=>rfl
 | _::t,_=>q_0 x t _
theorem q_1 (x:α):∀(l:List α)(k:Int),mkL f (l++[x]) k=mkL f l k++[(f x<|mkK f l k).1]
 | [],_=>rfl
 | y::t,k=>congrArg ((f y k).1 :: ·)<|q_1 x t _
theorem m_Y:∀(l:List α)(k:Int),(mkL f l k).length=l.length
 | [],_=>rfl
 | _::t,_=>congrArg (· + 1)<|m_Y t _
theorem m_Z {l:List α}{j:Nat}(hj:j<l.length):l.take (j+1)=l.take j++[l[j]]:=by
 rw [List.take_add_one,gG_ hj];rfl
theorem g_z (m:α->Nat)(h:∀x k,(f x k).2=k+m x):∀(l:List α)(k:Int),mkK f l k=k+((l.map m).sum:Nat)
 | [],k=>by simp [mkK]
 | x::t,k=>by
  rw [mkK,g_z m h t,h]
  simp only [List.map_cons,List.sum_cons]
  omega
theorem q_2 (m:α->Nat){l:List α}{j:Nat}(hj:j<l.length):((l.take j).map m).sum+m l[j]<=(l.map m).sum:=by
 have h:l.map m=(l.take j).map m++m l[j]::(l.drop<|j+1).map m:=by
  rw [← List.map_cons,← List.map_append,← dC_ hj,List.take_append_drop]
 rw [h,List.sum_append,List.sum_cons];omega
theorem q_3 {ρ:Type}{l:List α}{k:Int}{n:Nat}(hn:l.length<n)(P:α->Int->Prop)(hP:∀j (hj:j<l.length),P l[j] (mkK f (l.take j) k)){step:List α×Int×Int->Option (Out (List α×Int×Int) ρ)}
  (hs:∀(c:List α)(j:Nat)(x:Int)(hj:j<c.length),c.length=l.length->P c[j] x->step (c,x,(j:Int))=some (.next (c.set j (f c[j] x).1,(f c[j] x).2,((j+1:Nat):Int)))) (he:∀(c:List α)(j:Nat)(x:Int),¬j<c.length->step (c,x,(j:Int))=some (.brk (c,x,(j:Int)))) :
  I_ step n (l,k,0)=some (.inl (mkL f l k,mkK f l k,(l.length:Int))):=by
 have h:=f_4 (step:=step) (m:=n) (λj=>(mkL f (l.take j) k++l.drop j,mkK f (l.take j) k,(j:Int))) (j0:=l.length) (s:=(mkL f l k,mkK f l k,(l.length:Int))) hn (λj hj=>by
  have hlt:(mkL f (l.take j) k).length=j:=by rw [m_Y,List.length_take];omega
  have hlen:(mkL f (l.take j) k++l.drop j).length=l.length:=by rw [List.length_append,hlt,List.length_drop];omega
  have hg:(mkL f (l.take j) k++l.drop j)[j]'(by omega)=l[j]:=by
   rw [List.getElem_append_right (by omega)];simp [hlt]
  rw [hs _ j _ (by omega) hlen (by rw [hg];exact hP j hj),hg,m_Z hj,q_0,q_1,List.set_append_right _ _ (by omega),hlt,Nat.sub_self,dC_ hj,List.set_cons_zero,List.append_assoc]
  rfl) (by
  rw [he _ _ _ (by rw [List.length_append,m_Y];simp)]
  simp)
 simpa [mkL,mkK] using h
end
theorem u_V {n:Nat}(h:30<=n){k:Int}(G:0<=k)(hk:k<=1152921504606846976):d_E n k=some (d_t n k):=by
 obtain ⟨t,ht,_⟩:=m_w h G hk;unfold d_t;rw [ht];rfl
def mR (r:d_):Nat:=4+r.bytes.length+r.names.length+r.tags.length+r.kids.length
def fR (n:Nat)(r:d_)(k:Int):d_×Int :=
 (⟨d_t n k,k+1,k+1+1,(b_f (k+1+1+1) 3)==0,(List.range r.bytes.length).map (λ(i:Nat)=>mkB (k+1+1+1+1+i)),(List.range r.names.length).map (λ(i:Nat)=>d_t n (k+1+1+1+1+r.bytes.length+i)),(List.range r.tags.length).map (λ(i:Nat)=>k+1+1+1+1+r.bytes.length+r.names.length+i),(List.range r.kids.length).map (λ(i:Nat)=>k+1+1+1+1+r.bytes.length+r.names.length+r.tags.length+i)⟩,
  k+1+1+1+1+r.bytes.length+r.names.length+r.tags.length+r.kids.length)
theorem q_4 (n:Nat)(r:d_)(k:Int):(fR n r k).2=k+mR r:=by
 unfold fR mR;simp only;omega
def mD (d:f_):Nat:=(d.rules.map mR).sum
def fD (n:Nat)(d:f_)(k:Int):f_×Int:=(⟨mkL (fR n) d.rules k⟩,mkK (fR n) d.rules k)
theorem n_0 (n:Nat)(d:f_)(k:Int):(fD n d k).2=k+mD d:=g_z _ mR (q_4 n) _ _
theorem u_W {n:Nat}{l:List d_}(hl:l.length<=MX)(hs:∀r∈l,SmR r)(hn:MX+30<=n){k:Int}(H:0<=k)(hk:k+((l.map mR).sum:Nat)<=1152921504606846976):i_S n l k=some (mkK (fR n) l k,mkL (fR n) l k):=by
 have hMX:=MXv;unfold i_S
 rw [q_3 (fR n) (l:=l) (k:=k) (n:=n) (by omega) (λr x=>SmR r/\0<=x/\x+mR r<=1152921504606846976) (λj hj=>by
  have h1:=q_2 mR hj
  rw [g_z _ mR (q_4 n)]
  exact ⟨hs _ (gE_ hj),by omega,by omega⟩) (λa j x hja hal hp=>by
   obtain ⟨hr,h,G⟩:=hp;have hb:=hr.bytes;have hnm:=hr.names;have ht:=hr.tags;have hkd:=hr.kids;unfold mR at G
   simp only [un3]
   rw [dT_ (show (j:Int)<(a.length:Int) by omega),iP_ rfl]
   rw [u_V (n:=n) (by omega) h (by omega:x<=1152921504606846976),bd_some,ix_ hja,bd_some,c_a hja,bd_some]
   generalize a[j]=r at *
   rw [d_Z hja,bd_some,g_p hja,bd_some,d_Z hja,bd_some,g_p hja,bd_some,d_Z hja,bd_some,g_p hja,bd_some,d_Z hja,bd_some]
   simp only [tN_,List.set_set]
   rw [ia_ (x:=x) (by omega) (by omega),ia_ (x:=x+1) (by omega) (by omega),ia_ (x:=x+1+1) (by omega) (by omega),ia_ (x:=x+1+1+1) (by omega) (by omega)]
   rw [o_E (by omega) (by omega) (by omega)]
   simp only [bd2_some]
   rw [d_Z hja,bd_some]
   simp only
   rw [t_B (by omega) (by omega) (by omega) (by omega)]
   simp only [bd2_some]
   rw [d_Z hja,bd_some]
   simp only
   rw [o_F (by omega) (by omega) (by omega)]
   simp only [bd2_some]
   rw [d_Z hja,bd_some]
   simp only
   rw [o_F (by omega) (by omega) (by omega)]
   simp only [bd2_some]
   rw [ia_ (x:=(j:Int)) (by omega) (by omega)]
   rfl) (λa j x hj=>by
   simp only [un3]
   rw [dF_ (show ¬(j:Int)<(a.length:Int) by omega)];rfl)]
 rfl
theorem u_X {n:Nat}{l:List f_}(hl:l.length<=MX)(hs:∀d∈l,SmD d)(hn:MX+30<=n){k:Int}(H:0<=k)(hk:k+((l.map mD).sum:Nat)<=1152921504606846976):j_A n l k=some (mkK (fD n) l k,mkL (fD n) l k):=by
 have hMX:=MXv;unfold j_A
 rw [q_3 (fD n) (l:=l) (k:=k) (n:=n) (by omega) (λd x=>SmD d/\0<=x/\x+mD d<=1152921504606846976) (λj hj=>by
  have h1:=q_2 mD hj
  rw [g_z _ mD (n_0 n)]
  exact ⟨hs _ (gE_ hj),by omega,by omega⟩) (λa j x hja hal hp=>by
   obtain ⟨hr,h,G⟩:=hp
   simp only [un3]
   rw [dT_ (show (j:Int)<(a.length:Int) by omega),iP_ rfl,ix_ hja,bd_some,u_W hr.rules hr.each hn h G]
   simp only [bd2_some]
   rw [ia_ (x:=(j:Int)) (by omega) (by omega)]
   rfl) (λa j x hj=>by
   simp only [un3]
   rw [dF_ (show ¬(j:Int)<(a.length:Int) by omega)];rfl)]
 rfl
end Go.Vw
