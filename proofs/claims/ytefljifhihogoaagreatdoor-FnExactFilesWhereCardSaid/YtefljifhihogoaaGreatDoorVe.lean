
import Derived.Test.YtefljifhihogoaaGreatDoorV5
namespace Go.Vw
set_option linter.unusedVariables false
open Go.RowKit Dat
theorem h_f {σ ρ:Type}{body:Nat->σ->Option (Out σ ρ)}(I:Nat->σ->Prop)(R:ρ->Prop){n:Nat}(h:∀k s,k<n->I k s->(∃s',body k s=some (.next s')/\I (k+1) s')∨(∃r,body k s=some (.ret r)/\R r)) :
  ∀m k s,k+m=n->I k s->(∃s',k_ body m k s=some (.inl s')/\I n s')∨(∃r,k_ body m k s=some (.inr r)/\R r)
 | 0,k,s,hk,hi=>.inl ⟨s,rfl,by grind⟩
 | m+1,k,s,hk,hi=>by
  unfold k_
  rcases h k s (by omega) hi with ⟨s',h1,h2⟩ | ⟨r,h1,h2⟩
  .rw [h1];exact h_f I R h m (k+1) s' (by omega) h2
  grind
structure LnR (r:f_):Prop where
 name:r.name.b.length<=LEN
 bytes:r.bytes.length<=LEN
 names:r.names.length<=LEN
 tags:r.tags.length<=LEN
 kids:r.kids.length<=LEN
 each:∀s∈r.names,s.b.length<=LEN
structure LnD (d:d_):Prop where
 rules:d.rules.length<=LEN
 each:∀r∈d.rules,LnR r
theorem LENv:LEN=140737488355328:=rfl
def a_Y (l:Int):Prop:=0<=l/\l<=1048576
theorem q_g {α:Type}(a:List α){left:Int}(hl:a_Y left)(ha:a.length<=LEN):(if (decide<|(w_ left (a.length:Int))<0) then some (-1) else some (w_ left (a.length:Int)))=some (if left<a.length then -1 else left - a.length):=by
 have:=LENv;unfold a_Y at hl
 rw [a_L (by omega) (by omega)]
 grind
theorem v_G {α:Type}{l:List α}{z:α}{j:Nat}(hj:j<l.length):(l.take j++List.replicate (l.length - j) z).set j l[j]=l.take (j+1)++List.replicate (l.length - (j+1)) z:=by
 rw [QBJ _ _ (by grind)]
 rw [show j - (l.take j).length=0 by grind,show l.length - j=(l.length - (j+1))+1 by omega,QAk,List.set_cons_zero,QAy,gG_ hj,QBB,QAh]
 rfl
theorem j_o {α ρ:Type}{l:List α}{z:α}(body:Nat->List α->Option (Out (List α) ρ))(hb:∀k (hk:k<l.length) (c:List α),c.length=l.length->body k c=some (.next<|c.set k l[k])) :
  k_ body l.length 0 (List.replicate l.length z)=some (.inl l):=by
 have h:=b_Z (n:=l.length) (body:=body) (λk=>l.take k++List.replicate (l.length - k) z) (λj hj=>by
  grind [v_G])
 grind
theorem q_h {l:Bt}(hl:l.length<=MX):i_p l=some l:=by
 have:=MXv;have:=a_7;unfold i_p
 rw [g_k (by omega),a_,j_o _ (λk hk c hc=>by grind [b_E,a_,c_P])];rfl
theorem q_i {l:List Int}(hl:l.length<=MX):i_q l=some l:=by
 have:=MXv;have:=a_7;unfold i_q
 rw [g_k (by omega),a_,j_o _ (λk hk c hc=>by grind [b_E,a_,c_P])];rfl
theorem v_H {l:List Str}(hl:l.length<=MX):j_M l=some l:=by
 have:=MXv;have:=a_7;unfold j_M
 rw [g_k (by omega),a_,j_o _ (λk hk c hc=>by grind [b_E,a_,c_P])];rfl
theorem v_I {r:f_}(hr:SmR r):j_N r=some r:=by
 unfold j_N
 rw [q_h hr.bytes,a_,v_H hr.names,a_,q_i hr.tags,a_,q_i hr.kids,a_]
theorem v_J {d:d_}(hd:SmD d):j_O d=some d:=by
 have:=MXv;have:=a_7;have:=hd.rules;unfold j_O m_k
 rw [g_k (by omega),a_,j_o _ (λk hk c hc=>by rw [ix_ hk,a_,v_I<|hd.each _<|gE_ hk,a_,c_P (by omega),a_])];rfl
theorem eq_int (l:List Int):i_H l l=some true:=by
 unfold i_H
 rw [b_Z (λ_=>()) (n:=l.length) (λj hj=>by simp_all [a_,ix_])]
 simp
theorem q_j (l:Bt):i_G l l=some true:=by
 unfold i_G
 rw [b_Z (λ_=>()) (n:=l.length) (λj hj=>by simp_all [a_,ix_])]
 simp
theorem q_k (l:List Str):g_z l l=some true:=by
 unfold g_z
 rw [b_Z (λ_=>()) (n:=l.length) (λj hj=>by simp_all [a_,ix_])]
 simp
theorem v_K (r:f_):k_l r r=some true:=by
 unfold k_l
 simp_all [eq_int,q_j,q_k,a_]
theorem v_L (d:d_):k_m d d=some true:=by
 unfold k_m m_q
 rw [b_Z (λ_=>()) (n:=d.rules.length) (λj hj=>by simp_all [a_,v_K,ix_])]
 simp
theorem q_l:∀(k x:Nat),x<10 ^ k->x<=4611686018427387904->∀(s:Str)(n:Nat),k+1<=n->s.b.length+k<=1000 ->
  ∃t,F_ (σ:=Int×Str) (ρ:=Str) (un2 λG H=>if (decide<|0<G) then bd (cat (⟨[mkB (e_ 48<|b_7 G 10)]⟩:Str) H) λI=>some (.next (c_V G 10,I)) else some (.brk (G,H))) n ((x:Int),s)=some (.inl t)/\t.2.b.length<=s.b.length+k
 | 0,x,h,_,s,n,hn,_=>by
  obtain ⟨m,rfl⟩:∃m,n=m+1:=⟨n - 1,by omega⟩;have:x=0:=by omega
  subst this;exact ⟨(0,s),rfl,by simp⟩
 | k+1,x,h,hb,s,n,hn,hs=>by
  obtain ⟨m,rfl⟩:∃m,n=m+1:=⟨n - 1,by omega⟩;unfold F_
  simp only [un2]
  by_cases J:0<x
  .rw [dT_ (show (0:Int)<(x:Int) by omega),m_a (by omega),o_A (by omega) (by omega) (by omega)]
   simp only [fT_]
   rw [a_y (by grind [List.length_cons,List.length_nil,a_7]),a_,show (x:Int) / 10=((x / 10:Nat):Int) by omega]
   simp only
   obtain ⟨t,h1,h2⟩:=q_l k (x / 10) (by omega) (by omega) ⟨[mkB (e_ 48<|(x:Int) % 10)]++s.b⟩ m (by omega) (by grind)
   grind
  simp_all
theorem q_m {n:Nat}(hn:30<=n){k:Int}(G:0<=k)(hk:k<=1152921504606846976):∃t,f_q n k=some t/\t.b.length<=30:=by
 unfold f_q
 by_cases h:k<=0
 .simp_all
 .rw [dF_ h]
  simp only [bF_,fF_]
  obtain ⟨t,h1,h2⟩:=q_l 20 k.toNat (by omega) (by omega) ⟨[]⟩ n (by omega) (by simp)
  rw [show ((k.toNat:Nat):Int)=k by omega] at h1
  rw [h1]
  simp only [QAD] at h2
  simp only [a_,W_,un2]
  rw [a_y (by grind [List.length_cons,List.length_nil,a_7])]
  exact ⟨_,rfl,by grind⟩
theorem v_M {α:Type}{l:List α}(f:Nat->α){j:Nat}(hj:j<l.length):((List.range j).map f++l.drop j).set j (f j)=(List.range<|j+1).map f++l.drop (j+1):=by
 grind [List.range,List.set_append_right,List.drop_eq_getElem_cons,List.range_succ,List.append_assoc]
theorem n_y {α ρ:Type}{l:List α}(f:Int->α){k:Int}(G:0<=k)(hk:k+l.length<=1152921504606846976){n:Nat}(hn:l.length<n){step:List α×Int×Int->Option (Out (List α×Int×Int) ρ)}
  (hs:∀(c:List α)(j:Nat)(x:Int),c.length=l.length->0<=x->x<1152921504606846976->j<c.length->step (c,x,(j:Int))=some (.next (c.set j<|f x,x+1,((j+1:Nat):Int)))) (he:∀(c:List α)(j:Nat)(x:Int),¬j<c.length->step (c,x,(j:Int))=some (.brk (c,x,(j:Int)))) :
  F_ step n (l,k,0)=some (.inl ((List.range l.length).map (λ(i:Nat)=>f<|k+i),k+l.length,(l.length:Int))):=by
 have h:=g_l (step:=step) (m:=n) (λj=>((List.range j).map (λ(i:Nat)=>f (k+i))++l.drop j,k+j,(j:Int))) (j0:=l.length) (s:=((List.range l.length).map (λ(i:Nat)=>f (k+i)),k+l.length,(l.length:Int))) hn (λj hj=>by
  rw [hs _ j _ (by grind) (by omega) (by omega) (by grind),v_M (λ(i:Nat)=>f<|k+i) hj]
  grind) (by
  grind)
 grind
theorem q_n {n:Nat}{l:Bt}{k:Int}(G:0<=k)(hk:k+l.length<=1152921504606846976)(hn:l.length<n):i_I n l k=some (k+l.length,(List.range l.length).map (λ(i:Nat)=>mkB<|k+i)):=by
 unfold i_I
 rw [n_y mkB G hk hn (λc j x hcl H hx hj=>by
  simp only [un3]
  rw [dT_ (show (j:Int)<(c.length:Int) by omega),iP_ rfl,c_P hj,a_,ia_ (by omega) (by omega),ia_ (x:=(j:Int)) (by omega) (by omega)];rfl) (λc j x hj=>by
  grind)]
 rfl
theorem q_o {n:Nat}{l:List Int}{k:Int}(G:0<=k)(hk:k+l.length<=1152921504606846976)(hn:l.length<n):i_K n l k=some (k+l.length,(List.range l.length).map (λ(i:Nat)=>k+i)):=by
 unfold i_K
 rw [n_y (λx=>x) G hk hn (λc j x hcl H hx hj=>by
  simp only [un3]
  rw [dT_ (show (j:Int)<(c.length:Int) by omega),iP_ rfl,c_P hj,a_,ia_ (by omega) (by omega),ia_ (x:=(j:Int)) (by omega) (by omega)];rfl) (λc j x hj=>by
  grind)]
 rfl
def e_B (n:Nat)(k:Int):Str:=(f_q n k).getD default
theorem q_p {n:Nat}{l:List Str}{k:Int}(I:0<=k)(hk:k+l.length<=1152921504606846976)(hn:l.length<n)(G:30<=n):i_J n l k=some (k+l.length,(List.range l.length).map (λ(i:Nat)=>e_B n<|k+i)):=by
 unfold i_J
 rw [n_y (e_B n) I hk hn (λc j x hcl H hx hj=>by
  simp only [un3]
  obtain ⟨t,ht,_⟩:=q_m G H (by omega:x<=1152921504606846976)
  rw [dT_ (show (j:Int)<(c.length:Int) by omega),iP_ rfl,ht,a_,c_P hj,a_,ia_ (by omega) (by omega),ia_ (x:=(j:Int)) (by omega) (by omega),show e_B n x=t by grind [e_B]];rfl) (λc j x hj=>by
  grind)]
 rfl
theorem h_g {α:Type}{l:List α}{j:Nat}{x:α}(h:j<l.length):idx (l.set j x) (j:Int)=some x:=by
 grind [b_E]
theorem n_z {α:Type}{l:List α}{j:Nat}{x y:α}(h:j<l.length):upd (l.set j x) (j:Int) y=some (l.set j y):=by
 simp_all [c_P]
end Go.Vw
