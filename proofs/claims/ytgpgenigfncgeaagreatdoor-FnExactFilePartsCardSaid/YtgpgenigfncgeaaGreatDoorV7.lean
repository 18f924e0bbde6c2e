
import Derived.Test.YtgpgenigfncgeaaGreatDoorV6
namespace Go.Vw
open Go.RowKit Dat
variable {d:f_}{b:Bt}
theorem o_G:(b_z d b).length<=10000:=by
 unfold b_z
 cases h:okF d b
 .simp
 .obtain ⟨hv,hb,hlt,hroot,hok,G,hrf⟩:=k_C h
  simp only [iP_]
  exact n_9 hv hb hlt ⟨[]⟩ (Nat.zero_le _) hok
theorem t_C (x:l_):j_7 x x=some true:=by
 unfold j_7
 simp only [bN_,bF_,fF_]
theorem t_D (l:List l_):f_U l l=some true:=by
 unfold f_U
 rw [b_M (λ_=>()) (n:=l.length) (λj hj=>by rw [ix_ hj];simp only [bd_some,t_C,nT_,bF_,fF_])]
 simp
theorem t_E {α ρ:Type}{l:List α}(f:Int->α){k:Int}(G:0<=k)(hk:k+4 * l.length<=1152921504606846976){n:Nat}(hn:l.length<n){step:List α×Int×Int->Option (Out (List α×Int×Int) ρ)}
  (hs:∀(c:List α)(j:Nat)(x:Int),c.length=l.length->0<=x->x<1152921504606846973->j<c.length->step (c,x,(j:Int))=some (.next (c.set j<|f x,x+4,((j+1:Nat):Int)))) (he:∀(c:List α)(j:Nat)(x:Int),¬j<c.length->step (c,x,(j:Int))=some (.brk (c,x,(j:Int)))) :
  I_ step n (l,k,0)=some (.inl ((List.range l.length).map (λ(i:Nat)=>f<|k+4 * i),k+4 * l.length,(l.length:Int))):=by
 have h:=f_4 (step:=step) (m:=n) (λj=>((List.range j).map (λ(i:Nat)=>f (k+4 * i))++l.drop j,k+4 * j,(j:Int))) (j0:=l.length) (s:=((List.range l.length).map (λ(i:Nat)=>f (k+4 * i)),k+4 * l.length,(l.length:Int))) hn (λj hj=>by
  rw [hs _ j _ (by simp;omega) (by omega) (by omega) (by simp;omega),o_D (λ(i:Nat)=>f<|k+4 * i) hj]
  congr 4
  omega) (by
  rw [he _ _ _ (by simp)]
  simp)
 simpa using h
def g_q (n:Nat)(x:Int):l_:=⟨d_t n x,x+1,x+2,x+3⟩
theorem o_H {n:Nat}(h:30<=n){k:Int}(G:0<=k)(hk:k<=1152921504606846976):d_E n k=some (d_t n k):=by
 obtain ⟨t,ht,hl⟩:=m_w h G hk;unfold d_t;rw [ht];rfl
theorem t_F {n:Nat}{l:List l_}{k:Int}(H:0<=k)(hk:k+4 * l.length<=1152921504606846976)(hn:l.length<n)(h:30<=n):j_8 n l k=some (k+4 * l.length,(List.range l.length).map (λ(i:Nat)=>g_q n<|k+4 * i)):=by
 unfold j_8
 rw [t_E (g_q n) H hk hn (λc j x hcl G hx hj=>by
  simp only [un3]
  rw [dT_ (show (j:Int)<(c.length:Int) by omega),iP_ rfl,o_H h G (by omega),bd_some,ix_ hj,bd_some,c_a hj,bd_some]
  rw [d_Z hj,bd_some,g_p hj,bd_some,d_Z hj,bd_some,g_p hj,bd_some,d_Z hj,bd_some,g_p hj,bd_some]
  rw [ia_ (x:=x) (by omega) (by omega),ia_ (x:=x+1) (by omega) (by omega),ia_ (x:=x+1+1) (by omega) (by omega),ia_ (x:=x+1+1+1) (by omega) (by omega),ia_ (x:=(j:Int)) (by omega) (by omega)]
  unfold g_q
  rw [show x+1+1=x+2 by omega,show x+2+1=x+3 by omega,show x+3+1=x+4 by omega]
  rfl) (λc j x hj=>by
  simp only [un3]
  rw [dF_ (show ¬(j:Int)<(c.length:Int) by omega)];rfl)]
 rfl
theorem g_r {σ ρ:Type}{body:Nat->σ->Option (Out σ ρ)}(f:Nat->σ){n:Nat}{s:σ}(G:s=f 0)(h:∀j,j<n->body j (f j)=some (.next<|f<|j+1)):u_ body n 0 s=some (.inl<|f n):=by
 subst G;exact b_M f h
theorem t_G {n m:Nat}{k:Int}(G:0<=k)(hk:k+4 * m<=1152921504606846976)(h:30<=n):h_9 n ((List.range m).map (λ(i:Nat)=>g_q n<|k+4 * i)) k=some (k+4 * m):=by
 unfold h_9
 rw [g_r (λj=>k+4 * (j:Int)) (n:=((List.range m).map (λ(i:Nat)=>g_q n (k+4 * (i:Int)))).length) (by simp) (λj hj=>by
  rw [ix_ hj]
  simp at hj
  simp only [bd_some,List.getElem_map,List.getElem_range,g_q]
  rw [o_H h (by omega) (by omega)]
  rw [ia_ (x:=k+4 * (j:Int)) (by omega) (by omega),ia_ (x:=k+4 * (j:Int)+1) (by omega) (by omega),ia_ (x:=k+4 * (j:Int)+1+1) (by omega) (by omega),ia_ (x:=k+4 * (j:Int)+1+1+1) (by omega) (by omega)]
  rw [show k+4 * (j:Int)+1+1=k+4 * (j:Int)+2 by omega,show k+4 * (j:Int)+2+1=k+4 * (j:Int)+3 by omega]
  simp only [bd_some,bN_,bF_,fF_]
  congr 2
  omega)]
 simp
end Go.Vw
