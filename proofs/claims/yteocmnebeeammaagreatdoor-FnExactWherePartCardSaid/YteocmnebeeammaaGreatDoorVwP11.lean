
import Derived.Test.YteocmnebeeammaaGreatDoorVwP10
namespace Go.Vw
open Go.RowKit Dat
theorem f_Q {σ ρ:Type}{body:Nat->σ->Option (Out σ ρ)}(I:Nat->σ->Prop)(R:ρ->Prop){n:Nat}(h:∀k s,k<n->I k s->(∃s',body k s=some (.next s')/\I (k+1) s')∨(∃r,body k s=some (.ret r)/\R r)) :
  ∀m k s,k+m=n->I k s->(∃s',r_ body m k s=some (.inl s')/\I n s')∨(∃r,r_ body m k s=some (.inr r)/\R r)
 | 0,k,s,hk,hi=>.inl ⟨s,rfl,by rw [← hk];exact hi⟩
 | m+1,k,s,hk,hi=>by
  unfold r_
  rcases h k s (by omega) hi with ⟨s',h1,h2⟩ | ⟨r,h1,h2⟩
  .rw [h1];exact f_Q I R h m (k+1) s' (by omega) h2
  .rw [h1];exact .inr ⟨r,rfl,h2⟩
theorem n_1 {σ ρ:Type}{step:σ->Option (Out σ ρ)}(I:σ->Prop)(μ:σ->Nat)(B:σ->Prop)(h:∀s,I s->(∃s',step s=some (.next s')/\I s'/\μ s'<μ s)∨(∃s',step s=some (.brk s')/\B s')) :
  ∀n s,I s->μ s<n->∃s',a_1 step n s=some (.inl s')/\B s'
 | 0,s,_,hm=>by omega
 | n+1,s,hi,hm=>by
  unfold a_1
  rcases h s hi with ⟨s',h1,h2,h3⟩ | ⟨s',h1,h2⟩
  .rw [h1];exact n_1 I μ B h n s' h2 (by omega)
  .rw [h1];exact ⟨s',rfl,h2⟩
structure LnR (r:b_):Prop where
 name:r.name.b.length<=LEN
 bytes:r.bytes.length<=LEN
 names:r.names.length<=LEN
 tags:r.tags.length<=LEN
 kids:r.kids.length<=LEN
 each:∀s∈r.names,s.b.length<=LEN
structure LnD (d:d_):Prop where
 rules:d.rules.length<=LEN
 each:∀r∈d.rules,LnR r
theorem LENv:LEN=140737488355328:=rfl
def b_h (l:Int):Prop:=0<=l/\l<=1048576
theorem n_2 {α:Type}(a:List α){left:Int}(hl:b_h left)(ha:a.length<=LEN):(if (decide<|(K_ left (a.length:Int))<0) then some (-1) else some (K_ left (a.length:Int)))=some (if left<a.length then -1 else left - a.length):=by
 have:=LENv;unfold b_h at hl
 rw [b_n (by omega) (by omega)]
 by_cases h:left<a.length
 .rw [dT_ (by omega),iP_ h];rfl
 .rw [dF_ (by omega),iN_ h];rfl
theorem r_b {a:Bt}{left:Int}(hl:b_h left)(ha:a.length<=LEN):∃r,j_N a left=some r/\(r<0∨(b_h r/\a.length<=MX)):=by
 have:=MXv;refine ⟨_,n_2 a hl ha,?_⟩;unfold b_h at *
 split <;> omega
theorem n_3 {a:List Int}{left:Int}(hl:b_h left)(ha:a.length<=LEN):∃r,h_e a left=some r/\(r<0∨(b_h r/\a.length<=MX)):=by
 have:=MXv;refine ⟨_,n_2 a hl ha,?_⟩;unfold b_h at *
 split <;> omega
theorem r_c {a:List Str}{left:Int}(hl:b_h left)(ha:a.length<=LEN)(he:∀s∈a,s.b.length<=LEN):∃r,h_d a left=some r/\(r<0∨(b_h r/\a.length<=MX/\∀s∈a,s.b.length<=MX)):=by
 have hMX:=MXv;have hLEN:=LENv;unfold h_d;unfold b_h at *
 rw [b_n (by omega) (by omega)]
 by_cases h:left<a.length
 .rw [dT_ (by omega)];exact ⟨_,rfl,.inl (by omega)⟩
 .rw [dF_ (by omega)]
  simp only [bF_,fF_]
  rcases f_Q (σ:=Int) (ρ:=Int) (body:=(λJ=>(λG=>bd (idx a ((J:Nat):Int)) λH=>if (decide<|(K_ G (H.b.length:Int))<0) then some (.ret (-1)) else some (.next<|K_ G (H.b.length:Int)))))
   (λk s=>(0<=s/\s<=1048576)/\∀j (hj:j<a.length),j<k->a[j].b.length<=MX) (λr=>r<0) (n:=a.length) (λk s hk hi=>by
    have hx:=he _<|gE_ hk
    rw [ix_ hk,bd_some,b_n (by omega) (by omega)]
    by_cases I:s - (a[k].b.length:Int)<0
    .rw [dT_ I];exact .inr ⟨_,rfl,by omega⟩
    .rw [dF_ I]
     refine .inl ⟨_,rfl,by omega,λj hj hjk=>?_⟩
     by_cases hjk':j<k
     .exact hi.2 j hj hjk'
     .have:j=k:=by omega
      subst this
      omega) a.length 0 (left - a.length) (by omega) ⟨by omega,λj _ h=>by omega⟩ with ⟨s,h1,h2⟩ | ⟨r,h1,h2⟩
  .rw [h1]
   exact ⟨s,rfl,.inr ⟨h2.1,by omega,λt ht=>by
    obtain ⟨j,hj,rfl⟩:=List.getElem_of_mem ht
    exact h2.2 j hj hj⟩⟩
  .rw [h1];exact ⟨r,rfl,.inl h2⟩
theorem r_d {a:b_}{left:Int}(hl:b_h left)(ha:LnR a):∃r,g_b a left=some r/\(r<0∨(b_h r/\SmR a)):=by
 have hMX:=MXv;have hLEN:=LENv;have hn:=ha.name;unfold g_b
 rw [b_n (by unfold b_h at hl;omega) (by unfold b_h at hl;omega)]
 by_cases h:left - (a.name.b.length:Int)<0
 .rw [dT_ h];exact ⟨_,rfl,.inl (by omega)⟩
 rw [dF_ h]
 have J:b_h (left - (a.name.b.length:Int)):=by unfold b_h at *;omega
 obtain ⟨L,O,g1⟩:=r_b (a:=a.bytes) J ha.bytes
 simp only [bF_,fF_]
 rw [O,bd_some]
 by_cases k1:L<0
 .rw [dT_ k1];exact ⟨_,rfl,.inl (by omega)⟩
 rw [dF_ k1]
 have g1:=g1.resolve_left k1;obtain ⟨V,W,G⟩:=r_c (a:=a.names) g1.1 ha.names ha.each
 simp only [bF_,fF_]
 rw [W,bd_some]
 by_cases k2:V<0
 .rw [dT_ k2];exact ⟨_,rfl,.inl (by omega)⟩
 rw [dF_ k2]
 have G:=G.resolve_left k2;obtain ⟨Y,e3,H⟩:=n_3 (a:=a.tags) G.1 ha.tags
 simp only [bF_,fF_]
 rw [e3,bd_some]
 by_cases k3:Y<0
 .rw [dT_ k3];exact ⟨_,rfl,.inl (by omega)⟩
 rw [dF_ k3]
 have H:=H.resolve_left k3;obtain ⟨r4,e4,I⟩:=n_3 (a:=a.kids) H.1 ha.kids
 simp only [bF_,fF_]
 rw [e4,bd_some]
 by_cases k4:r4<0
 .rw [dT_ k4];exact ⟨_,rfl,.inl (by omega)⟩
 rw [dF_ k4]
 have I:=I.resolve_left k4;exact ⟨_,rfl,.inr ⟨I.1,⟨by unfold b_h at hl;omega,g1.2,G.2.1,H.2,I.2,G.2.2⟩⟩⟩
theorem r_e {d:d_}(hd:LnD d):∃r,h_f d 1048576=some r/\(r<0∨(b_h r/\SmD d)):=by
 have hMX:=MXv;have hLEN:=LENv;have hr:=hd.rules;unfold h_f j_O
 rw [b_n (by omega) (by omega)]
 by_cases h:(1048576:Int) - (d.rules.length:Int)<0
 .rw [dT_ h];exact ⟨_,rfl,.inl (by omega)⟩
 rw [dF_ h]
 simp only [bF_,fF_]
 rcases f_Q (σ:=Int) (ρ:=Int) (body:=(λI=>(λJ=>bd (idx d.rules ((I:Nat):Int)) λL=>bd (g_b L J) λH=>if (decide<|H<0) then some (.ret (-1)) else some (.next H))))
   (λk s=>b_h s/\∀j (hj:j<d.rules.length),j<k->SmR d.rules[j]) (λr=>r<0) (n:=d.rules.length) (λk s hk hi=>by
    obtain ⟨r,e,g⟩:=r_d hi.1<|hd.each _<|gE_ hk
    rw [ix_ hk,bd_some,e,bd_some]
    by_cases G:r<0
    .rw [dT_ G];exact .inr ⟨_,rfl,by omega⟩
    .rw [dF_ G]
     have g:=g.resolve_left G;refine .inl ⟨_,rfl,g.1,λj hj hjk=>?_⟩
     by_cases hjk':j<k
     .exact hi.2 j hj hjk'
     .have:j=k:=by omega
      subst this
      exact g.2) d.rules.length 0 (1048576 - d.rules.length) (by omega) ⟨by unfold b_h;omega,λj _ h=>by omega⟩ with ⟨s,h1,h2⟩ | ⟨r,h1,h2⟩
 .rw [h1]
  have:¬s<0:=by have:=h2.1;unfold b_h at this;omega
  simp only [bd_some,el_inl]
  rw [dF_ this]
  exact ⟨s,rfl,.inr ⟨h2.1,by omega,λt ht=>by
   obtain ⟨j,hj,rfl⟩:=List.getElem_of_mem ht
   exact h2.2 j hj hj⟩⟩
 .rw [h1]
  simp only [bd_some,el_inr]
  rw [dT_ h2]
  exact ⟨_,rfl,.inl (by omega)⟩
theorem r_f {α:Type}{l:List α}{z:α}{j:Nat}(hj:j<l.length):(l.take j++List.replicate (l.length - j) z).set j l[j]=l.take (j+1)++List.replicate (l.length - (j+1)) z:=by
 rw [List.set_append_right _ _ (by simp;omega)]
 rw [show j - (l.take j).length=0 by simp;omega,show l.length - j=(l.length - (j+1))+1 by omega,List.replicate_succ,List.set_cons_zero,List.take_add_one,gG_ hj,Option.toList_some,List.append_assoc]
 rfl
theorem j_b {α ρ:Type}{l:List α}{z:α}(body:Nat->List α->Option (Out (List α) ρ))(hb:∀k (hk:k<l.length) (c:List α),c.length=l.length->body k c=some (.next<|c.set k l[k])) :
  r_ body l.length 0 (List.replicate l.length z)=some (.inl l):=by
 have h:=b_P (n:=l.length) (body:=body) (λk=>l.take k++List.replicate (l.length - k) z) (λj hj=>by
  rw [hb j hj _ (by simp;omega),r_f hj])
 simpa using h
theorem n_4 {l:Bt}(hl:l.length<=MX):e_5 l=some l:=by
 have:=MXv;have:=a_L;unfold e_5
 rw [g_1 (by omega),bd_some,j_b _ (λk hk c hc=>by rw [ix_ hk,bd_some,c_D (by omega),bd_some])];rfl
theorem n_5 {l:List Int}(hl:l.length<=MX):g_c l=some l:=by
 have:=MXv;have:=a_L;unfold g_c
 rw [g_1 (by omega),bd_some,j_b _ (λk hk c hc=>by rw [ix_ hk,bd_some,c_D (by omega),bd_some])];rfl
theorem r_g {l:List Str}(hl:l.length<=MX):h_g l=some l:=by
 have:=MXv;have:=a_L;unfold h_g
 rw [g_1 (by omega),bd_some,j_b _ (λk hk c hc=>by rw [ix_ hk,bd_some,c_D (by omega),bd_some])];rfl
theorem r_h {r:b_}(hr:SmR r):h_h r=some r:=by
 unfold h_h
 rw [n_4 hr.bytes,bd_some,r_g hr.names,bd_some,n_5 hr.tags,bd_some,n_5 hr.kids,bd_some]
theorem r_i {d:d_}(hd:SmD d):e_D d=some d:=by
 have:=MXv;have:=a_L;have:=hd.rules;unfold e_D j_P
 rw [g_1 (by omega),bd_some,j_b _ (λk hk c hc=>by rw [ix_ hk,bd_some,r_h<|hd.each _<|gE_ hk,bd_some,c_D (by omega),bd_some])];rfl
theorem eq_int (l:List Int):g_s l l=some true:=by
 unfold g_s
 rw [b_P (λ_=>()) (n:=l.length) (λj hj=>by rw [ix_ hj];simp only [bd_some,bN_,bF_,fF_])]
 simp
theorem n_6 (l:Bt):g_r l l=some true:=by
 unfold g_r
 rw [b_P (λ_=>()) (n:=l.length) (λj hj=>by rw [ix_ hj];simp only [bd_some,bN_,bF_,fF_])]
 simp
theorem n_7 (l:List Str):e_Q l l=some true:=by
 unfold e_Q
 rw [b_P (λ_=>()) (n:=l.length) (λj hj=>by rw [ix_ hj];simp only [bd_some,bN_,bF_,fF_])]
 simp
theorem r_j (r:b_):h_R r r=some true:=by
 unfold h_R
 simp only [eq_int,n_6,n_7,bd_some,bN_,bF_,fF_,nT_]
theorem r_k (d:d_):h_S d d=some true:=by
 unfold h_S j_U
 rw [b_P (λ_=>()) (n:=d.rules.length) (λj hj=>by rw [ix_ hj];simp only [bd_some,r_j,nT_,bF_,fF_])]
 simp
theorem n_8:∀(k x:Nat),x<10 ^ k->x<=4611686018427387904->∀(s:Str)(n:Nat),k+1<=n->s.b.length+k<=1000 ->
  ∃t,a_1 (σ:=Int×Str) (ρ:=Str) (un2 λG H=>if (decide<|0<G) then bd (cat (⟨[mkB (g_ 48<|a_J G 10)]⟩:Str) H) λI=>some (.next (c_l G 10,I)) else some (.brk (G,H))) n ((x:Int),s)=some (.inl t)/\t.2.b.length<=s.b.length+k
 | 0,x,h,_,s,n,hn,_=>by
  obtain ⟨m,rfl⟩:∃m,n=m+1:=⟨n - 1,by omega⟩;have:x=0:=by simp at h;omega
  subst this;exact ⟨(0,s),rfl,by simp⟩
 | k+1,x,h,hb,s,n,hn,hs=>by
  obtain ⟨m,rfl⟩:∃m,n=m+1:=⟨n - 1,by omega⟩;unfold a_1
  simp only [un2]
  by_cases J:0<x
  .rw [dT_ (show (0:Int)<(x:Int) by omega),j_B (by omega),l_t (by omega) (by omega) (by omega)]
   simp only [fT_]
   rw [a_e (by rw [a_L];simp only [lC_,List.length_nil];omega),bd_some,show (x:Int) / 10=((x / 10:Nat):Int) by omega]
   simp only
   obtain ⟨t,h1,h2⟩:=n_8 k (x / 10) (by rw [Nat.pow_succ] at h;omega) (by omega) ⟨[mkB (g_ 48<|(x:Int) % 10)]++s.b⟩ m (by omega) (by simp;omega);refine ⟨t,h1,?_⟩
   simp only [List.length_append,lC_,List.length_nil] at h2
   omega
  .rw [dF_ (show ¬(0:Int)<(x:Int) by omega)]
   exact ⟨_,rfl,by simp only;omega⟩
theorem j_c {n:Nat}(hn:30<=n){k:Int}(G:0<=k)(hk:k<=1152921504606846976):∃t,d_i n k=some t/\t.b.length<=30:=by
 unfold d_i
 by_cases h:k<=0
 .rw [dT_ h];exact ⟨_,rfl,by simp⟩
 .rw [dF_ h]
  simp only [bF_,fF_]
  obtain ⟨t,h1,h2⟩:=n_8 20 k.toNat (by omega) (by omega) ⟨[]⟩ n (by omega) (by simp)
  rw [show ((k.toNat:Nat):Int)=k by omega] at h1
  rw [h1]
  simp only [List.length_nil] at h2
  simp only [bd_some,el_inl,un2]
  rw [a_e (by rw [a_L];simp only [lC_,List.length_nil];omega)]
  exact ⟨_,rfl,by simp only [List.length_append,lC_,List.length_nil];omega⟩
theorem r_l {α:Type}{l:List α}(f:Nat->α){j:Nat}(hj:j<l.length):((List.range j).map f++l.drop j).set j (f j)=(List.range<|j+1).map f++l.drop (j+1):=by
 rw [List.set_append_right _ _ (by simp),show j - ((List.range j).map f).length=0 by simp,dC_ hj,List.set_cons_zero,List.range_succ,List.map_append,List.append_assoc]
 rfl
theorem k_M {α ρ:Type}{l:List α}(f:Int->α){k:Int}(G:0<=k)(hk:k+l.length<=1152921504606846976){n:Nat}(hn:l.length<n){step:List α×Int×Int->Option (Out (List α×Int×Int) ρ)}
  (hs:∀(c:List α)(j:Nat)(x:Int),c.length=l.length->0<=x->x<1152921504606846976->j<c.length->step (c,x,(j:Int))=some (.next (c.set j<|f x,x+1,((j+1:Nat):Int)))) (he:∀(c:List α)(j:Nat)(x:Int),¬j<c.length->step (c,x,(j:Int))=some (.brk (c,x,(j:Int)))) :
  a_1 step n (l,k,0)=some (.inl ((List.range l.length).map (λ(i:Nat)=>f<|k+i),k+l.length,(l.length:Int))):=by
 have h:=j_G (step:=step) (m:=n) (λj=>((List.range j).map (λ(i:Nat)=>f (k+i))++l.drop j,k+j,(j:Int))) (j0:=l.length) (s:=((List.range l.length).map (λ(i:Nat)=>f (k+i)),k+l.length,(l.length:Int))) hn (λj hj=>by
  rw [hs _ j _ (by simp;omega) (by omega) (by omega) (by simp;omega),r_l (λ(i:Nat)=>f<|k+i) hj]
  congr 4
  omega) (by
  rw [he _ _ _ (by simp)]
  simp)
 simpa using h
theorem n_9 {n:Nat}{l:Bt}{k:Int}(G:0<=k)(hk:k+l.length<=1152921504606846976)(hn:l.length<n):e_R n l k=some (k+l.length,(List.range l.length).map (λ(i:Nat)=>mkB<|k+i)):=by
 unfold e_R
 rw [k_M mkB G hk hn (λc j x hcl H hx hj=>by
  simp only [un3]
  rw [dT_ (show (j:Int)<(c.length:Int) by omega),iP_ rfl,c_D hj,bd_some,ia_ (by omega) (by omega),ia_ (x:=(j:Int)) (by omega) (by omega)];rfl) (λc j x hj=>by
  simp only [un3]
  rw [dF_ (show ¬(j:Int)<(c.length:Int) by omega)];rfl)]
 rfl
theorem n_a {n:Nat}{l:List Int}{k:Int}(G:0<=k)(hk:k+l.length<=1152921504606846976)(hn:l.length<n):d_H n l k=some (k+l.length,(List.range l.length).map (λ(i:Nat)=>k+i)):=by
 unfold d_H
 rw [k_M (λx=>x) G hk hn (λc j x hcl H hx hj=>by
  simp only [un3]
  rw [dT_ (show (j:Int)<(c.length:Int) by omega),iP_ rfl,c_D hj,bd_some,ia_ (by omega) (by omega),ia_ (x:=(j:Int)) (by omega) (by omega)];rfl) (λc j x hj=>by
  simp only [un3]
  rw [dF_ (show ¬(j:Int)<(c.length:Int) by omega)];rfl)]
 rfl
def d_y (n:Nat)(k:Int):Str:=(d_i n k).getD default
theorem n_b {n:Nat}{l:List Str}{k:Int}(I:0<=k)(hk:k+l.length<=1152921504606846976)(hn:l.length<n)(G:30<=n):e_S n l k=some (k+l.length,(List.range l.length).map (λ(i:Nat)=>d_y n<|k+i)):=by
 unfold e_S
 rw [k_M (d_y n) I hk hn (λc j x hcl H hx hj=>by
  simp only [un3]
  obtain ⟨t,ht,_⟩:=j_c G H (by omega:x<=1152921504606846976)
  rw [dT_ (show (j:Int)<(c.length:Int) by omega),iP_ rfl,ht,bd_some,c_D hj,bd_some,ia_ (by omega) (by omega),ia_ (x:=(j:Int)) (by omega) (by omega),show d_y n x=t by unfold d_y;rw [ht];rfl];rfl) (λc j x hj=>by
  simp only [un3]
  rw [dF_ (show ¬(j:Int)<(c.length:Int) by omega)];rfl)]
 rfl
theorem r_m {n:Nat}(G:30<=n){k:Int}(H:0<=k)(hk:k<=1152921504606846976):(d_y n k).b.length<=MX:=by
 have:=MXv;obtain ⟨t,ht,hl⟩:=j_c G H hk;unfold d_y;rw [ht];simp only [Option.getD_some];omega
theorem f_5 {α:Type}{l:List α}{j:Nat}{x:α}(h:j<l.length):idx (l.set j x) (j:Int)=some x:=by
 rw [ix_ (by simpa using h)];simp
theorem k_N {α:Type}{l:List α}{j:Nat}{x y:α}(h:j<l.length):upd (l.set j x) (j:Int) y=some (l.set j y):=by
 rw [c_D (by simpa using h)];simp
theorem r_n {n:Nat}{l:List b_}(hl:l.length<=MX)(hs:∀r∈l,SmR r)(hn:MX+30<=n){k:Int}(h0:0<=k)(hk:k<=1):∃k' l',h_T n l k=some (k',l')/\0<=k'/\k'<=281474976710656:=by
 have hMX:=MXv;unfold h_T
 have hstep:∀s:(List b_)×Int×Int,(∃j:Nat,s.2.2=(j:Int)/\s.1.length=l.length/\j<=l.length/\(∀r∈s.1,SmR r)/\0<=s.2.1/\s.2.1<=1+(j:Int) * 8388608) ->
   (∃s',((un3 λa2 a0 H=>if (decide<|H<(a2.length:Int)) then bd (d_i n a0) λa9=>bd (idx a2 H) λO=>bd (upd a2 H (⟨a9,O.kind,O.size,O.little,O.bytes,O.names,O.tags,O.kids⟩:b_)) λa5=>bd (idx a5 H) λV=>bd (upd a5 H (⟨V.name,g_ a0 1,V.size,V.little,V.bytes,V.names,V.tags,V.kids⟩:b_)) λa6=>bd (idx a6 H) λW=>bd (upd a6 H (⟨W.name,W.kind,g_ (g_ a0 1) 1,W.little,W.bytes,W.names,W.tags,W.kids⟩:b_)) λa7=>bd (idx a7 H) λY=>bd (upd a7 H (⟨Y.name,Y.kind,Y.size,(a_J (g_ (g_ (g_ a0 1) 1) 1) 3)==0,Y.bytes,Y.names,Y.tags,Y.kids⟩:b_)) λa1=>bd (idx a1 H) λG=>bd2 (e_R n G.bytes<|g_ (g_ (g_ (g_ a0 1) 1) 1) 1) λaa a3=>bd (idx (a1.set (H).toNat (⟨G.name,G.kind,G.size,G.little,a3,G.names,G.tags,G.kids⟩:b_)) H) λI=>bd2 (e_S n I.names aa) λab a4=>bd (idx ((a1.set (H).toNat (⟨G.name,G.kind,G.size,G.little,a3,G.names,G.tags,G.kids⟩:b_)).set (H).toNat (⟨I.name,I.kind,I.size,I.little,I.bytes,a4,I.tags,I.kids⟩:b_)) H) λJ=>bd2 (d_H n J.tags ab) λad a8=>bd (idx (((a1.set (H).toNat (⟨G.name,G.kind,G.size,G.little,a3,G.names,G.tags,G.kids⟩:b_)).set (H).toNat (⟨I.name,I.kind,I.size,I.little,I.bytes,a4,I.tags,I.kids⟩:b_)).set (H).toNat (⟨J.name,J.kind,J.size,J.little,J.bytes,J.names,a8,J.kids⟩:b_)) H) λL=>bd2 (d_H n L.kids ad) λae af=>some (.next ((((a1.set (H).toNat (⟨G.name,G.kind,G.size,G.little,a3,G.names,G.tags,G.kids⟩:b_)).set (H).toNat (⟨I.name,I.kind,I.size,I.little,I.bytes,a4,I.tags,I.kids⟩:b_)).set (H).toNat (⟨J.name,J.kind,J.size,J.little,J.bytes,J.names,a8,J.kids⟩:b_)).set (H).toNat (⟨L.name,L.kind,L.size,L.little,L.bytes,L.names,L.tags,af⟩:b_),ae,g_ H 1)) else some (.brk (a2,a0,H))):(List b_)×Int×Int->Option (Out ((List b_)×Int×Int)<|Int×(List b_))) s=some (.next s')/\(∃j:Nat,s'.2.2=(j:Int)/\s'.1.length=l.length/\j<=l.length/\(∀r∈s'.1,SmR r)/\0<=s'.2.1/\s'.2.1<=1+(j:Int) * 8388608)/\l.length - s'.2.2.toNat<l.length - s.2.2.toNat)∨(∃s',((un3 λa2 a0 H=>if (decide<|H<(a2.length:Int)) then bd (d_i n a0) λa9=>bd (idx a2 H) λO=>bd (upd a2 H (⟨a9,O.kind,O.size,O.little,O.bytes,O.names,O.tags,O.kids⟩:b_)) λa5=>bd (idx a5 H) λV=>bd (upd a5 H (⟨V.name,g_ a0 1,V.size,V.little,V.bytes,V.names,V.tags,V.kids⟩:b_)) λa6=>bd (idx a6 H) λW=>bd (upd a6 H (⟨W.name,W.kind,g_ (g_ a0 1) 1,W.little,W.bytes,W.names,W.tags,W.kids⟩:b_)) λa7=>bd (idx a7 H) λY=>bd (upd a7 H (⟨Y.name,Y.kind,Y.size,(a_J (g_ (g_ (g_ a0 1) 1) 1) 3)==0,Y.bytes,Y.names,Y.tags,Y.kids⟩:b_)) λa1=>bd (idx a1 H) λG=>bd2 (e_R n G.bytes<|g_ (g_ (g_ (g_ a0 1) 1) 1) 1) λaa a3=>bd (idx (a1.set (H).toNat (⟨G.name,G.kind,G.size,G.little,a3,G.names,G.tags,G.kids⟩:b_)) H) λI=>bd2 (e_S n I.names aa) λab a4=>bd (idx ((a1.set (H).toNat (⟨G.name,G.kind,G.size,G.little,a3,G.names,G.tags,G.kids⟩:b_)).set (H).toNat (⟨I.name,I.kind,I.size,I.little,I.bytes,a4,I.tags,I.kids⟩:b_)) H) λJ=>bd2 (d_H n J.tags ab) λad a8=>bd (idx (((a1.set (H).toNat (⟨G.name,G.kind,G.size,G.little,a3,G.names,G.tags,G.kids⟩:b_)).set (H).toNat (⟨I.name,I.kind,I.size,I.little,I.bytes,a4,I.tags,I.kids⟩:b_)).set (H).toNat (⟨J.name,J.kind,J.size,J.little,J.bytes,J.names,a8,J.kids⟩:b_)) H) λL=>bd2 (d_H n L.kids ad) λae af=>some (.next ((((a1.set (H).toNat (⟨G.name,G.kind,G.size,G.little,a3,G.names,G.tags,G.kids⟩:b_)).set (H).toNat (⟨I.name,I.kind,I.size,I.little,I.bytes,a4,I.tags,I.kids⟩:b_)).set (H).toNat (⟨J.name,J.kind,J.size,J.little,J.bytes,J.names,a8,J.kids⟩:b_)).set (H).toNat (⟨L.name,L.kind,L.size,L.little,L.bytes,L.names,L.tags,af⟩:b_),ae,g_ H 1)) else some (.brk (a2,a0,H))):(List b_)×Int×Int->Option (Out ((List b_)×Int×Int)<|Int×(List b_))) s=some (.brk s')/\(0<=s'.2.1/\s'.2.1<=281474976710656)):=by
  intro s hi;obtain ⟨a,x,i⟩:=s;obtain ⟨j,rfl,hal,hj,hsm,ah,ai⟩:=hi
  simp only at hal hsm ah ai
  simp only [un3]
  by_cases hlt:j<l.length
  .left
   have hja:j<a.length:=by omega
   have hr:=hsm _<|gE_ hja;have hb:=hr.bytes;have hnm:=hr.names;have ht:=hr.tags;have hkd:=hr.kids;have hjm:(j:Int) * 8388608<=1048576 * 8388608:=by omega
   rw [dT_ (show (j:Int)<(a.length:Int) by omega),iP_ rfl]
   obtain ⟨t,htx,htl⟩:=j_c (n:=n) (by omega) ah (by omega:x<=1152921504606846976)
   rw [htx,bd_some,ix_ hja,bd_some,c_D hja,bd_some]
   generalize a[j]=r at *
   rw [f_5 hja,bd_some,k_N hja,bd_some,f_5 hja,bd_some,k_N hja,bd_some,f_5 hja,bd_some,k_N hja,bd_some,f_5 hja,bd_some]
   simp only [tN_,List.set_set]
   rw [ia_ (x:=x) (by omega) (by omega),ia_ (x:=x+1) (by omega) (by omega),ia_ (x:=x+1+1) (by omega) (by omega),ia_ (x:=x+1+1+1) (by omega) (by omega)]
   rw [n_9 (by omega) (by omega) (by omega)]
   simp only [bd2_some]
   rw [f_5 hja,bd_some]
   simp only
   rw [n_b (by omega) (by omega) (by omega) (by omega)]
   simp only [bd2_some]
   rw [f_5 hja,bd_some]
   simp only
   rw [n_a (by omega) (by omega) (by omega)]
   simp only [bd2_some]
   rw [f_5 hja,bd_some]
   simp only
   rw [n_a (by omega) (by omega) (by omega)]
   simp only [bd2_some]
   rw [ia_ (x:=(j:Int)) (by omega) (by omega)]
   refine ⟨_,rfl,⟨j+1,by simp only;omega,by simpa using hal,by omega,?_,by simp only;omega,by simp only;omega⟩,by simp only;omega⟩;intro q hq
   rcases List.mem_or_eq_of_mem_set hq with h | rfl
   .exact hsm q h
   .refine ⟨by simp only;omega,by simpa using hb,by simpa using hnm,by simpa using ht,by simpa using hkd,?_⟩;intro u hu
    simp only [List.mem_map,List.mem_range] at hu
    obtain ⟨i,hi,rfl⟩:=hu;exact r_m (by omega) (by omega) (by omega)
  .right
   rw [dF_ (show ¬(j:Int)<(a.length:Int) by omega)]
   exact ⟨_,rfl,ah,by simp only;omega⟩
 obtain ⟨s,h1,h2⟩:=n_1 (σ:=(List b_)×Int×Int) (ρ:=Int×(List b_)) _ (λs:(List b_)×Int×Int=>l.length - s.2.2.toNat) _ hstep n (l,k,0) ⟨0,rfl,rfl,Nat.zero_le _,hs,h0,by simpa using hk⟩ (by simp;omega)
 rw [h1];exact ⟨_,_,rfl,h2⟩
theorem r_o {n:Nat}{d:d_}(hd:SmD d)(hn:MX+30<=n):∃k' l',h_U n d 1=some (k',l')/\0<=k'/\k'<=281474976710656:=by
 obtain ⟨k',l',h,hk⟩:=r_n hd.rules hd.each hn (k:=1) (by omega) (by omega);unfold h_U
 rw [h]
 exact ⟨k',l',rfl,hk⟩
end Go.Vw
