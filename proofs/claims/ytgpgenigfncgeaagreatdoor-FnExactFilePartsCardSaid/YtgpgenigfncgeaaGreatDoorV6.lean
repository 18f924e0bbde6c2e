
import Derived.Test.YtgpgenigfncgeaaGreatDoorV5
namespace Go.Vw
open Go.RowKit Dat
theorem f_x {σ ρ:Type}{body:Nat->σ->Option (Out σ ρ)}(I:Nat->σ->Prop)(R:ρ->Prop){n:Nat}(h:∀k s,k<n->I k s->(∃s',body k s=some (.next s')/\I (k+1) s')∨(∃r,body k s=some (.ret r)/\R r)) :
  ∀m k s,k+m=n->I k s->(∃s',u_ body m k s=some (.inl s')/\I n s')∨(∃r,u_ body m k s=some (.inr r)/\R r)
 | 0,k,s,hk,hi=>.inl ⟨s,rfl,by rw [← hk];exact hi⟩
 | m+1,k,s,hk,hi=>by
  unfold u_
  rcases h k s (by omega) hi with ⟨s',h1,h2⟩ | ⟨r,h1,h2⟩
  .rw [h1];exact f_x I R h m (k+1) s' (by omega) h2
  .rw [h1];exact .inr ⟨r,rfl,h2⟩
structure LnR (r:d_):Prop where
 name:r.name.b.length<=LEN
 bytes:r.bytes.length<=LEN
 names:r.names.length<=LEN
 tags:r.tags.length<=LEN
 kids:r.kids.length<=LEN
 each:∀s∈r.names,s.b.length<=LEN
structure LnD (d:f_):Prop where
 rules:d.rules.length<=LEN
 each:∀r∈d.rules,LnR r
theorem LENv:LEN=140737488355328:=rfl
def a_S (l:Int):Prop:=0<=l/\l<=1048576
theorem o_y {α:Type}(a:List α){left:Int}(hl:a_S left)(ha:a.length<=LEN):(if (decide<|(w_ left (a.length:Int))<0) then some (-1) else some (w_ left (a.length:Int)))=some (if left<a.length then -1 else left - a.length):=by
 have:=LENv;unfold a_S at hl
 rw [a_y (by omega) (by omega)]
 by_cases h:left<a.length
 .rw [dT_ (by omega),iP_ h];rfl
 .rw [dF_ (by omega),iN_ h];rfl
theorem t_u {α:Type}{l:List α}{z:α}{j:Nat}(hj:j<l.length):(l.take j++List.replicate (l.length - j) z).set j l[j]=l.take (j+1)++List.replicate (l.length - (j+1)) z:=by
 rw [List.set_append_right _ _ (by simp;omega)]
 rw [show j - (l.take j).length=0 by simp;omega,show l.length - j=(l.length - (j+1))+1 by omega,List.replicate_succ,List.set_cons_zero,List.take_add_one,gG_ hj,Option.toList_some,List.append_assoc]
 rfl
theorem h_P {α ρ:Type}{l:List α}{z:α}(body:Nat->List α->Option (Out (List α) ρ))(hb:∀k (hk:k<l.length) (c:List α),c.length=l.length->body k c=some (.next<|c.set k l[k])) :
  u_ body l.length 0 (List.replicate l.length z)=some (.inl l):=by
 have h:=b_M (n:=l.length) (body:=body) (λk=>l.take k++List.replicate (l.length - k) z) (λj hj=>by
  rw [hb j hj _ (by simp;omega),t_u hj])
 simpa using h
theorem o_z {l:Bt}(hl:l.length<=MX):g_K l=some l:=by
 have:=MXv;have:=a_o;unfold g_K
 rw [f_H (by omega),bd_some,h_P _ (λk hk c hc=>by rw [ix_ hk,bd_some,c_a (by omega),bd_some])];rfl
theorem o_A {l:List Int}(hl:l.length<=MX):g_L l=some l:=by
 have:=MXv;have:=a_o;unfold g_L
 rw [f_H (by omega),bd_some,h_P _ (λk hk c hc=>by rw [ix_ hk,bd_some,c_a (by omega),bd_some])];rfl
theorem t_v {l:List Str}(hl:l.length<=MX):i_9 l=some l:=by
 have:=MXv;have:=a_o;unfold i_9
 rw [f_H (by omega),bd_some,h_P _ (λk hk c hc=>by rw [ix_ hk,bd_some,c_a (by omega),bd_some])];rfl
theorem t_w {r:d_}(hr:SmR r):i_a r=some r:=by
 unfold i_a
 rw [o_z hr.bytes,bd_some,t_v hr.names,bd_some,o_A hr.tags,bd_some,o_A hr.kids,bd_some]
theorem t_x {d:f_}(hd:SmD d):i_b d=some d:=by
 have:=MXv;have:=a_o;have:=hd.rules;unfold i_b l_d
 rw [f_H (by omega),bd_some,h_P _ (λk hk c hc=>by rw [ix_ hk,bd_some,t_w<|hd.each _<|gE_ hk,bd_some,c_a (by omega),bd_some])];rfl
theorem eq_int (l:List Int):h_6 l l=some true:=by
 unfold h_6
 rw [b_M (λ_=>()) (n:=l.length) (λj hj=>by rw [ix_ hj];simp only [bd_some,bN_,bF_,fF_])]
 simp
theorem o_B (l:Bt):h_5 l l=some true:=by
 unfold h_5
 rw [b_M (λ_=>()) (n:=l.length) (λj hj=>by rw [ix_ hj];simp only [bd_some,bN_,bF_,fF_])]
 simp
theorem t_y (l:List Str):i_O l l=some true:=by
 unfold i_O
 rw [b_M (λ_=>()) (n:=l.length) (λj hj=>by rw [ix_ hj];simp only [bd_some,bN_,bF_,fF_])]
 simp
theorem t_z (r:d_):i_P r r=some true:=by
 unfold i_P
 simp only [eq_int,o_B,t_y,bd_some,bN_,bF_,fF_,nT_]
theorem t_A (d:f_):i_Q d d=some true:=by
 unfold i_Q l_h
 rw [b_M (λ_=>()) (n:=d.rules.length) (λj hj=>by rw [ix_ hj];simp only [bd_some,t_z,nT_,bF_,fF_])]
 simp
theorem o_C:∀(k x:Nat),x<10 ^ k->x<=4611686018427387904->∀(s:Str)(n:Nat),k+1<=n->s.b.length+k<=1000 ->
  ∃t,I_ (σ:=Int×Str) (ρ:=Str) (un2 λG H=>if (decide<|0<G) then bd (cat (⟨[mkB (b_ 48<|b_f G 10)]⟩:Str) H) λI=>some (.next (d_p G 10,I)) else some (.brk (G,H))) n ((x:Int),s)=some (.inl t)/\t.2.b.length<=s.b.length+k
 | 0,x,h,_,s,n,hn,_=>by
  obtain ⟨m,rfl⟩:∃m,n=m+1:=⟨n - 1,by omega⟩;have:x=0:=by simp at h;omega
  subst this;exact ⟨(0,s),rfl,by simp⟩
 | k+1,x,h,hb,s,n,hn,hs=>by
  obtain ⟨m,rfl⟩:∃m,n=m+1:=⟨n - 1,by omega⟩;unfold I_
  simp only [un2]
  by_cases J:0<x
  .rw [dT_ (show (0:Int)<(x:Int) by omega),l_4 (by omega),q_t (by omega) (by omega) (by omega)]
   simp only [fT_]
   rw [f_G (by rw [a_o];simp only [lC_,List.length_nil];omega),bd_some,show (x:Int) / 10=((x / 10:Nat):Int) by omega]
   simp only
   obtain ⟨t,h1,h2⟩:=o_C k (x / 10) (by rw [Nat.pow_succ] at h;omega) (by omega) ⟨[mkB (b_ 48<|(x:Int) % 10)]++s.b⟩ m (by omega) (by simp;omega);refine ⟨t,h1,?_⟩
   simp only [List.length_append,lC_,List.length_nil] at h2
   omega
  .rw [dF_ (show ¬(0:Int)<(x:Int) by omega)]
   exact ⟨_,rfl,by simp only;omega⟩
theorem m_w {n:Nat}(hn:30<=n){k:Int}(G:0<=k)(hk:k<=1152921504606846976):∃t,d_E n k=some t/\t.b.length<=30:=by
 unfold d_E
 by_cases h:k<=0
 .rw [dT_ h];exact ⟨_,rfl,by simp⟩
 .rw [dF_ h]
  simp only [bF_,fF_]
  obtain ⟨t,h1,h2⟩:=o_C 20 k.toNat (by omega) (by omega) ⟨[]⟩ n (by omega) (by simp)
  rw [show ((k.toNat:Nat):Int)=k by omega] at h1
  rw [h1]
  simp only [List.length_nil] at h2
  simp only [bd_some,el_inl,un2]
  rw [f_G (by rw [a_o];simp only [lC_,List.length_nil];omega)]
  exact ⟨_,rfl,by simp only [List.length_append,lC_,List.length_nil];omega⟩
theorem o_D {α:Type}{l:List α}(f:Nat->α){j:Nat}(hj:j<l.length):((List.range j).map f++l.drop j).set j (f j)=(List.range<|j+1).map f++l.drop (j+1):=by
 rw [List.set_append_right _ _ (by simp),show j - ((List.range j).map f).length=0 by simp,dC_ hj,List.set_cons_zero,List.range_succ,List.map_append,List.append_assoc]
 rfl
theorem m_x {α ρ:Type}{l:List α}(f:Int->α){k:Int}(G:0<=k)(hk:k+l.length<=1152921504606846976){n:Nat}(hn:l.length<n){step:List α×Int×Int->Option (Out (List α×Int×Int) ρ)}
  (hs:∀(c:List α)(j:Nat)(x:Int),c.length=l.length->0<=x->x<1152921504606846976->j<c.length->step (c,x,(j:Int))=some (.next (c.set j<|f x,x+1,((j+1:Nat):Int)))) (he:∀(c:List α)(j:Nat)(x:Int),¬j<c.length->step (c,x,(j:Int))=some (.brk (c,x,(j:Int)))) :
  I_ step n (l,k,0)=some (.inl ((List.range l.length).map (λ(i:Nat)=>f<|k+i),k+l.length,(l.length:Int))):=by
 have h:=f_4 (step:=step) (m:=n) (λj=>((List.range j).map (λ(i:Nat)=>f (k+i))++l.drop j,k+j,(j:Int))) (j0:=l.length) (s:=((List.range l.length).map (λ(i:Nat)=>f (k+i)),k+l.length,(l.length:Int))) hn (λj hj=>by
  rw [hs _ j _ (by simp;omega) (by omega) (by omega) (by simp;omega),o_D (λ(i:Nat)=>f<|k+i) hj]
  congr 4
  omega) (by
  rw [he _ _ _ (by simp)]
  simp)
 simpa using h
theorem o_E {n:Nat}{l:Bt}{k:Int}(h:0<=k)(hk:k+l.length<=1152921504606846976)(hn:l.length<n):h_7 n l k=some (k+l.length,(List.range l.length).map (λ(i:Nat)=>mkB<|k+i)):=by
 unfold h_7
 rw [m_x mkB h hk hn (λc j x hcl G hx hj=>by
  simp only [un3]
  rw [dT_ (show (j:Int)<(c.length:Int) by omega),iP_ rfl,c_a hj,bd_some,ia_ (by omega) (by omega),ia_ (x:=(j:Int)) (by omega) (by omega)];rfl) (λc j x hj=>by
  simp only [un3]
  rw [dF_ (show ¬(j:Int)<(c.length:Int) by omega)];rfl)]
 rfl
theorem o_F {n:Nat}{l:List Int}{k:Int}(h:0<=k)(hk:k+l.length<=1152921504606846976)(hn:l.length<n):h_8 n l k=some (k+l.length,(List.range l.length).map (λ(i:Nat)=>k+i)):=by
 unfold h_8
 rw [m_x (λx=>x) h hk hn (λc j x hcl G hx hj=>by
  simp only [un3]
  rw [dT_ (show (j:Int)<(c.length:Int) by omega),iP_ rfl,c_a hj,bd_some,ia_ (by omega) (by omega),ia_ (x:=(j:Int)) (by omega) (by omega)];rfl) (λc j x hj=>by
  simp only [un3]
  rw [dF_ (show ¬(j:Int)<(c.length:Int) by omega)];rfl)]
 rfl
def d_t (n:Nat)(k:Int):Str:=(d_E n k).getD default
theorem t_B {n:Nat}{l:List Str}{k:Int}(H:0<=k)(hk:k+l.length<=1152921504606846976)(hn:l.length<n)(h:30<=n):i_R n l k=some (k+l.length,(List.range l.length).map (λ(i:Nat)=>d_t n<|k+i)):=by
 unfold i_R
 rw [m_x (d_t n) H hk hn (λc j x hcl G hx hj=>by
  simp only [un3]
  obtain ⟨t,ht,_⟩:=m_w h G (by omega:x<=1152921504606846976)
  rw [dT_ (show (j:Int)<(c.length:Int) by omega),iP_ rfl,ht,bd_some,c_a hj,bd_some,ia_ (by omega) (by omega),ia_ (x:=(j:Int)) (by omega) (by omega),show d_t n x=t by unfold d_t;rw [ht];rfl];rfl) (λc j x hj=>by
  simp only [un3]
  rw [dF_ (show ¬(j:Int)<(c.length:Int) by omega)];rfl)]
 rfl
theorem d_Z {α:Type}{l:List α}{j:Nat}{x:α}(h:j<l.length):idx (l.set j x) (j:Int)=some x:=by
 rw [ix_ (by simpa using h)];simp
theorem g_p {α:Type}{l:List α}{j:Nat}{x y:α}(h:j<l.length):upd (l.set j x) (j:Int) y=some (l.set j y):=by
 rw [c_a (by simpa using h)];simp
end Go.Vw
