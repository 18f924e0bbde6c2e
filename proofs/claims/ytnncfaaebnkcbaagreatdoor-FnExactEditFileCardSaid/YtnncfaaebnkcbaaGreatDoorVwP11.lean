
import Derived.Test.YtnncfaaebnkcbaaGreatDoorVwP10
namespace Go.Vw
open Go.RowKit Dat
theorem c_I {σ ρ:Type}{body:Nat->σ->Option (Out σ ρ)}(I:Nat->σ->Prop)(R:ρ->Prop){n:Nat}(h:∀k s,k<n->I k s->(∃s',body k s=some (.next s')/\I (k+1) s')∨(∃r,body k s=some (.ret r)/\R r)) :
  ∀m k s,k+m=n->I k s->(∃s',w_ body m k s=some (.inl s')/\I n s')∨(∃r,w_ body m k s=some (.inr r)/\R r)
 | 0,k,s,hk,hi=>.inl ⟨s,rfl,by rw [← hk];exact hi⟩
 | m+1,k,s,hk,hi=>by
  unfold w_
  rcases h k s (by omega) hi with ⟨s',h1,h2⟩ | ⟨r,h1,h2⟩
  ·rw [h1];exact c_I I R h m (k+1) s' (by omega) h2
  ·rw [h1];exact .inr ⟨r,rfl,h2⟩
theorem m_b {σ ρ:Type}{step:σ->Option (Out σ ρ)}(I:σ->Prop)(μ:σ->Nat)(B:σ->Prop)(h:∀s,I s->(∃s',step s=some (.next s')/\I s'/\μ s'<μ s)∨(∃s',step s=some (.brk s')/\B s')) :
  ∀n s,I s->μ s<n->∃s',H_ step n s=some (.inl s')/\B s'
 | 0,s,_,hm=>by omega
 | n+1,s,hi,hm=>by
  unfold H_
  rcases h s hi with ⟨s',h1,h2,h3⟩ | ⟨s',h1,h2⟩
  ·rw [h1];exact m_b I μ B h n s' h2 (by omega)
  ·rw [h1];exact ⟨s',rfl,h2⟩
structure LnR (r:b_):Prop where
 name:r.name.b.length<=LEN
 bytes:r.bytes.length<=LEN
 names:r.names.length<=LEN
 tags:r.tags.length<=LEN
 kids:r.kids.length<=LEN
 each:∀s∈r.names,s.b.length<=LEN
structure LnD (d:f_):Prop where
 rules:d.rules.length<=LEN
 each:∀r∈d.rules,LnR r
theorem f_x:LEN=140737488355328:=rfl
def a_q (l:Int):Prop:=0<=l/\l<=1048576
theorem j_K {α:Type}(a:List α){left:Int}(hl:a_q left)(ha:a.length<=LEN):(if (decide<|(q_ left (a.length:Int))<0)=true then some (-1) else some (q_ left (a.length:Int)))=some (if left<a.length then -1 else left - a.length):=by
 have:=f_x;unfold a_q at hl
 rw [b_s (by omega) (by omega)]
 by_cases h:left<a.length
 ·rw [dT_ (by omega),iP_ h];rfl
 ·rw [dF_ (by omega),iN_ h];rfl
theorem p_y {a:List UInt8}{left:Int}(hl:a_q left)(ha:a.length<=LEN):∃r,f_K a left=some r/\(r<0∨(a_q r/\a.length<=MX)):=by
 have:=MXv;refine ⟨_,j_K a hl ha,?_⟩;unfold a_q at *
 split <;> omega
theorem m_c {a:List Int}{left:Int}(hl:a_q left)(ha:a.length<=LEN):∃r,g_U a left=some r/\(r<0∨(a_q r/\a.length<=MX)):=by
 have:=MXv;refine ⟨_,j_K a hl ha,?_⟩;unfold a_q at *
 split <;> omega
theorem p_z {a:List Str}{left:Int}(hl:a_q left)(ha:a.length<=LEN)(he:∀s∈a,s.b.length<=LEN):∃r,g_T a left=some r/\(r<0∨(a_q r/\a.length<=MX/\∀s∈a,s.b.length<=MX)):=by
 have hMX:=MXv;have hLEN:=f_x;unfold g_T;unfold a_q at *
 rw [b_s (by omega) (by omega)]
 by_cases h:left<a.length
 ·rw [dT_ (by omega)];exact ⟨_,rfl,.inl (by omega)⟩
 ·rw [dF_ (by omega)]
  simp only [bF_,fF_]
  rcases c_I (σ:=Int) (ρ:=Int) (body:=(fun J=>(fun G=>bd (idx a ((J:Nat):Int)) fun H=>if (decide<|(q_ G (H.b.length:Int))<0)=true then some (.ret (-1)) else some (.next<|q_ G (H.b.length:Int)))))
   (fun k s=>(0<=s/\s<=1048576)/\∀j (hj:j<a.length),j<k->a[j].b.length<=MX) (fun r=>r<0) (n:=a.length) (fun k s hk hi=>by
    have hx:=he _<|gE_ hk
    rw [ix_ hk,bd_some,b_s (by omega) (by omega)]
    by_cases I:s - (a[k].b.length:Int)<0
    ·rw [dT_ I];exact .inr ⟨_,rfl,by omega⟩
    ·rw [dF_ I]
     refine .inl ⟨_,rfl,by omega,fun j hj hjk=>?_⟩
     by_cases hjk':j<k
     ·exact hi.2 j hj hjk'
     ·have:j=k:=by omega
      subst this
      omega) a.length 0 (left - a.length) (by omega) ⟨by omega,fun j _ h=>by omega⟩ with ⟨s,h1,h2⟩ | ⟨r,h1,h2⟩
  ·rw [h1]
   exact ⟨s,rfl,.inr ⟨h2.1,by omega,fun t ht=>by
    obtain ⟨j,hj,rfl⟩:=List.getElem_of_mem ht
    exact h2.2 j hj hj⟩⟩
  ·rw [h1];exact ⟨r,rfl,.inl h2⟩
theorem p_A {a:b_}{left:Int}(hl:a_q left)(ha:LnR a):∃r,f_L a left=some r/\(r<0∨(a_q r/\SmR a)):=by
 have hMX:=MXv;have hLEN:=f_x;have hn:=ha.name;unfold f_L
 rw [b_s (by unfold a_q at hl;omega) (by unfold a_q at hl;omega)]
 by_cases h:left - (a.name.b.length:Int)<0
 ·rw [dT_ h];exact ⟨_,rfl,.inl (by omega)⟩
 rw [dF_ h]
 have J:a_q (left - (a.name.b.length:Int)):=by unfold a_q at *;omega
 obtain ⟨L,O,g1⟩:=p_y (a:=a.bytes) J ha.bytes
 simp only [bF_,fF_]
 rw [O,bd_some]
 by_cases k1:L<0
 ·rw [dT_ k1];exact ⟨_,rfl,.inl (by omega)⟩
 rw [dF_ k1]
 have g1:=g1.resolve_left k1;obtain ⟨V,W,G⟩:=p_z (a:=a.names) g1.1 ha.names ha.each
 simp only [bF_,fF_]
 rw [W,bd_some]
 by_cases k2:V<0
 ·rw [dT_ k2];exact ⟨_,rfl,.inl (by omega)⟩
 rw [dF_ k2]
 have G:=G.resolve_left k2;obtain ⟨Y,e3,H⟩:=m_c (a:=a.tags) G.1 ha.tags
 simp only [bF_,fF_]
 rw [e3,bd_some]
 by_cases k3:Y<0
 ·rw [dT_ k3];exact ⟨_,rfl,.inl (by omega)⟩
 rw [dF_ k3]
 have H:=H.resolve_left k3;obtain ⟨r4,e4,I⟩:=m_c (a:=a.kids) H.1 ha.kids
 simp only [bF_,fF_]
 rw [e4,bd_some]
 by_cases k4:r4<0
 ·rw [dT_ k4];exact ⟨_,rfl,.inl (by omega)⟩
 rw [dF_ k4]
 have I:=I.resolve_left k4;exact ⟨_,rfl,.inr ⟨I.1,⟨by unfold a_q at hl;omega,g1.2,G.2.1,H.2,I.2,G.2.2⟩⟩⟩
theorem p_B {d:f_}(hd:LnD d):∃r,g_V d 1048576=some r/\(r<0∨(a_q r/\SmD d)):=by
 have hMX:=MXv;have hLEN:=f_x;have hr:=hd.rules;unfold g_V i_T
 rw [b_s (by omega) (by omega)]
 by_cases h:(1048576:Int) - (d.rules.length:Int)<0
 ·rw [dT_ h];exact ⟨_,rfl,.inl (by omega)⟩
 rw [dF_ h]
 simp only [bF_,fF_]
 rcases c_I (σ:=Int) (ρ:=Int) (body:=(fun I=>(fun J=>bd (idx d.rules ((I:Nat):Int)) fun L=>bd (f_L L J) fun H=>if (decide<|H<0)=true then some (.ret (-1)) else some (.next H))))
   (fun k s=>a_q s/\∀j (hj:j<d.rules.length),j<k->SmR d.rules[j]) (fun r=>r<0) (n:=d.rules.length) (fun k s hk hi=>by
    obtain ⟨r,e,g⟩:=p_A hi.1<|hd.each _<|gE_ hk
    rw [ix_ hk,bd_some,e,bd_some]
    by_cases G:r<0
    ·rw [dT_ G];exact .inr ⟨_,rfl,by omega⟩
    ·rw [dF_ G]
     have g:=g.resolve_left G;refine .inl ⟨_,rfl,g.1,fun j hj hjk=>?_⟩
     by_cases hjk':j<k
     ·exact hi.2 j hj hjk'
     ·have:j=k:=by omega
      subst this
      exact g.2) d.rules.length 0 (1048576 - d.rules.length) (by omega) ⟨by unfold a_q;omega,fun j _ h=>by omega⟩ with ⟨s,h1,h2⟩ | ⟨r,h1,h2⟩
 ·rw [h1]
  have:¬s<0:=by have:=h2.1;unfold a_q at this;omega
  simp only [bd_some,el_inl]
  rw [dF_ this]
  exact ⟨s,rfl,.inr ⟨h2.1,by omega,fun t ht=>by
   obtain ⟨j,hj,rfl⟩:=List.getElem_of_mem ht
   exact h2.2 j hj hj⟩⟩
 ·rw [h1]
  simp only [bd_some,el_inr]
  rw [dT_ h2]
  exact ⟨_,rfl,.inl (by omega)⟩
theorem p_C {α:Type}{l:List α}{z:α}{j:Nat}(hj:j<l.length):(l.take j++List.replicate (l.length - j) z).set j l[j]=l.take (j+1)++List.replicate (l.length - (j+1)) z:=by
 rw [List.set_append_right _ _ (by simp;omega)]
 rw [show j - (l.take j).length=0 by simp;omega,show l.length - j=(l.length - (j+1))+1 by omega,List.replicate_succ,List.set_cons_zero,List.take_add_one,gG_ hj,Option.toList_some,List.append_assoc]
 rfl
theorem i_l {α ρ:Type}{l:List α}{z:α}(body:Nat->List α->Option (Out (List α) ρ))(hb:∀k (hk:k<l.length) (c:List α),c.length=l.length->body k c=some (.next<|c.set k l[k])) :
  w_ body l.length 0 (List.replicate l.length z)=some (.inl l):=by
 have h:=c_g (n:=l.length) (body:=body) (fun k=>l.take k++List.replicate (l.length - k) z) (fun j hj=>by
  rw [hb j hj _ (by simp;omega),p_C hj])
 simpa using h
theorem i_m {l:List UInt8}(hl:l.length<=MX):d_j l=some l:=by
 have:=MXv;have:=a_k;unfold d_j
 rw [e_Y (by omega),bd_some,i_l _ (fun k hk c hc=>by rw [ix_ hk,bd_some,c_f (by omega),bd_some])];rfl
theorem m_d {l:List Int}(hl:l.length<=MX):f_M l=some l:=by
 have:=MXv;have:=a_k;unfold f_M
 rw [e_Y (by omega),bd_some,i_l _ (fun k hk c hc=>by rw [ix_ hk,bd_some,c_f (by omega),bd_some])];rfl
theorem p_D {l:List Str}(hl:l.length<=MX):g_W l=some l:=by
 have:=MXv;have:=a_k;unfold g_W
 rw [e_Y (by omega),bd_some,i_l _ (fun k hk c hc=>by rw [ix_ hk,bd_some,c_f (by omega),bd_some])];rfl
theorem p_E {r:b_}(hr:SmR r):g_X r=some r:=by
 unfold g_X
 rw [i_m hr.bytes,bd_some,p_D hr.names,bd_some,m_d hr.tags,bd_some,m_d hr.kids,bd_some]
theorem p_F {d:f_}(hd:SmD d):e_f d=some d:=by
 have:=MXv;have:=a_k;have:=hd.rules;unfold e_f i_U
 rw [e_Y (by omega),bd_some,i_l _ (fun k hk c hc=>by rw [ix_ hk,bd_some,p_E<|hd.each _<|gE_ hk,bd_some,c_f (by omega),bd_some])];rfl
theorem eq_int (l:List Int):f_U l l=some true:=by
 unfold f_U
 rw [c_g (fun _=>()) (n:=l.length) (fun j hj=>by rw [ix_ hj];simp only [bd_some,bN_,bF_,fF_])]
 simp
theorem j_L (l:List UInt8):d_k l l=some true:=by
 unfold d_k
 rw [c_g (fun _=>()) (n:=l.length) (fun j hj=>by rw [ix_ hj];simp only [bd_some,bN_,bF_,fF_])]
 simp
theorem p_G (l:List Str):h_x l l=some true:=by
 unfold h_x
 rw [c_g (fun _=>()) (n:=l.length) (fun j hj=>by rw [ix_ hj];simp only [bd_some,bN_,bF_,fF_])]
 simp
theorem p_H (r:b_):h_y r r=some true:=by
 unfold h_y
 simp only [eq_int,j_L,p_G,bd_some,bN_,bF_,fF_,nT_]
theorem p_I (d:f_):h_z d d=some true:=by
 unfold h_z i_Y
 rw [c_g (fun _=>()) (n:=d.rules.length) (fun j hj=>by rw [ix_ hj];simp only [bd_some,p_H,nT_,bF_,fF_])]
 simp
theorem m_e:∀(k x:Nat),x<10 ^ k->x<=4611686018427387904->∀(s:Str)(n:Nat),k+1<=n->s.b.length+k<=1000 ->
  ∃t,H_ (σ:=Int×Str) (ρ:=Str) (un2 fun G H=>if (decide<|0<G)=true then bd (cat (⟨[mkB (i_ 48<|a_R G 10)]⟩:Str) H) fun I=>some (.next (c_B G 10,I)) else some (.brk (G,H))) n ((x:Int),s)=some (.inl t)/\t.2.b.length<=s.b.length+k
 | 0,x,h,_,s,n,hn,_=>by
  obtain ⟨m,rfl⟩:∃m,n=m+1:=⟨n - 1,by omega⟩;have:x=0:=by simp at h;omega
  subst this;exact ⟨(0,s),rfl,by simp⟩
 | k+1,x,h,hb,s,n,hn,hs=>by
  obtain ⟨m,rfl⟩:∃m,n=m+1:=⟨n - 1,by omega⟩;unfold H_
  simp only [un2]
  by_cases J:0<x
  ·rw [dT_ (show (0:Int)<(x:Int) by omega),i_y (by omega),m_Q (by omega) (by omega) (by omega)]
   simp only [fT_]
   rw [k_9 (by rw [a_k];simp only [lC_,List.length_nil];omega),bd_some,show (x:Int) / 10=((x / 10:Nat):Int) by omega]
   simp only
   obtain ⟨t,h1,h2⟩:=m_e k (x / 10) (by rw [Nat.pow_succ] at h;omega) (by omega) ⟨[mkB (i_ 48<|(x:Int) % 10)]++s.b⟩ m (by omega) (by simp;omega);refine ⟨t,h1,?_⟩
   simp only [List.length_append,lC_,List.length_nil] at h2
   omega
  ·rw [dF_ (show ¬(0:Int)<(x:Int) by omega)]
   exact ⟨_,rfl,by simp only;omega⟩
theorem j_M {n:Nat}(hn:30<=n){k:Int}(G:0<=k)(hk:k<=1152921504606846976):∃t,d_G n k=some t/\t.b.length<=30:=by
 unfold d_G
 by_cases h:k<=0
 ·rw [dT_ h];exact ⟨_,rfl,by simp⟩
 ·rw [dF_ h]
  simp only [bF_,fF_]
  obtain ⟨t,h1,h2⟩:=m_e 20 k.toNat (by omega) (by omega) ⟨[]⟩ n (by omega) (by simp)
  rw [show ((k.toNat:Nat):Int)=k by omega] at h1
  rw [h1]
  simp only [List.length_nil] at h2
  simp only [bd_some,el_inl,un2]
  rw [k_9 (by rw [a_k];simp only [lC_,List.length_nil];omega)]
  exact ⟨_,rfl,by simp only [List.length_append,lC_,List.length_nil];omega⟩
theorem p_J {α:Type}{l:List α}(f:Nat->α){j:Nat}(hj:j<l.length):((List.range j).map f++l.drop j).set j (f j)=(List.range<|j+1).map f++l.drop (j+1):=by
 rw [List.set_append_right _ _ (by simp),show j - ((List.range j).map f).length=0 by simp,dC_ hj,List.set_cons_zero,List.range_succ,List.map_append,List.append_assoc]
 rfl
theorem j_N {α ρ:Type}{l:List α}(f:Int->α){k:Int}(G:0<=k)(hk:k+l.length<=1152921504606846976){n:Nat}(hn:l.length<n){step:List α×Int×Int->Option (Out (List α×Int×Int) ρ)}
  (hs:∀(c:List α)(j:Nat)(x:Int),c.length=l.length->0<=x->x<1152921504606846976->j<c.length->step (c,x,(j:Int))=some (.next (c.set j<|f x,x+1,((j+1:Nat):Int)))) (he:∀(c:List α)(j:Nat)(x:Int),¬j<c.length->step (c,x,(j:Int))=some (.brk (c,x,(j:Int)))) :
  H_ step n (l,k,0)=some (.inl ((List.range l.length).map (fun (i:Nat)=>f<|k+i),k+l.length,(l.length:Int))):=by
 have h:=i_B (step:=step) (m:=n) (fun j=>((List.range j).map (fun (i:Nat)=>f (k+i))++l.drop j,k+j,(j:Int))) (j0:=l.length) (s:=((List.range l.length).map (fun (i:Nat)=>f (k+i)),k+l.length,(l.length:Int))) hn (fun j hj=>by
  rw [hs _ j _ (by simp;omega) (by omega) (by omega) (by simp;omega),p_J (fun (i:Nat)=>f<|k+i) hj]
  congr 4
  omega) (by
  rw [he _ _ _ (by simp)]
  simp)
 simpa using h
theorem g_A {n:Nat}{l:List UInt8}{k:Int}(G:0<=k)(hk:k+l.length<=1152921504606846976)(hn:l.length<n):c_u n l k=some (k+l.length,(List.range l.length).map (fun (i:Nat)=>mkB<|k+i)):=by
 unfold c_u
 rw [j_N mkB G hk hn (fun c j x hcl H hx hj=>by
  simp only [un3]
  rw [dT_ (show (j:Int)<(c.length:Int) by omega),iP_ rfl,c_f hj,bd_some,ia_ (by omega) (by omega),ia_ (x:=(j:Int)) (by omega) (by omega)];rfl) (fun c j x hj=>by
  simp only [un3]
  rw [dF_ (show ¬(j:Int)<(c.length:Int) by omega)];rfl)]
 rfl
theorem m_f {n:Nat}{l:List Int}{k:Int}(G:0<=k)(hk:k+l.length<=1152921504606846976)(hn:l.length<n):d_l n l k=some (k+l.length,(List.range l.length).map (fun (i:Nat)=>k+i)):=by
 unfold d_l
 rw [j_N (fun x=>x) G hk hn (fun c j x hcl H hx hj=>by
  simp only [un3]
  rw [dT_ (show (j:Int)<(c.length:Int) by omega),iP_ rfl,c_f hj,bd_some,ia_ (by omega) (by omega),ia_ (x:=(j:Int)) (by omega) (by omega)];rfl) (fun c j x hj=>by
  simp only [un3]
  rw [dF_ (show ¬(j:Int)<(c.length:Int) by omega)];rfl)]
 rfl
def f_y (n:Nat)(k:Int):Str:=(d_G n k).getD default
theorem p_K {n:Nat}{l:List Str}{k:Int}(I:0<=k)(hk:k+l.length<=1152921504606846976)(hn:l.length<n)(G:30<=n):f_c n l k=some (k+l.length,(List.range l.length).map (fun (i:Nat)=>f_y n<|k+i)):=by
 unfold f_c
 rw [j_N (f_y n) I hk hn (fun c j x hcl H hx hj=>by
  simp only [un3]
  obtain ⟨t,ht,_⟩:=j_M G H (by omega:x<=1152921504606846976)
  rw [dT_ (show (j:Int)<(c.length:Int) by omega),iP_ rfl,ht,bd_some,c_f hj,bd_some,ia_ (by omega) (by omega),ia_ (x:=(j:Int)) (by omega) (by omega),show f_y n x=t by unfold f_y;rw [ht];rfl];rfl) (fun c j x hj=>by
  simp only [un3]
  rw [dF_ (show ¬(j:Int)<(c.length:Int) by omega)];rfl)]
 rfl
theorem p_L {n:Nat}(G:30<=n){k:Int}(H:0<=k)(hk:k<=1152921504606846976):(f_y n k).b.length<=MX:=by
 have:=MXv;obtain ⟨t,ht,hl⟩:=j_M G H hk;unfold f_y;rw [ht];simp only [Option.getD_some];omega
theorem e_O {α:Type}{l:List α}{j:Nat}{x:α}(h:j<l.length):idx (l.set j x) (j:Int)=some x:=by
 rw [ix_ (by simpa using h)];simp
theorem j_O {α:Type}{l:List α}{j:Nat}{x y:α}(h:j<l.length):upd (l.set j x) (j:Int) y=some (l.set j y):=by
 rw [c_f (by simpa using h)];simp
theorem p_M {n:Nat}{l:List b_}(hl:l.length<=MX)(hs:∀r∈l,SmR r)(hn:MX+30<=n){k:Int}(h0:0<=k)(hk:k<=1):∃k' l',h_A n l k=some (k',l')/\0<=k'/\k'<=281474976710656:=by
 have hMX:=MXv;unfold h_A
 have hstep:∀s:(List b_)×Int×Int,(∃j:Nat,s.2.2=(j:Int)/\s.1.length=l.length/\j<=l.length/\(∀r∈s.1,SmR r)/\0<=s.2.1/\s.2.1<=1+(j:Int) * 8388608) ->
   (∃s',((un3 fun a2 a0 H=>if (decide<|H<(a2.length:Int))=true then bd (d_G n a0) fun a9=>bd (idx a2 H) fun O=>bd (upd a2 H (⟨a9,O.kind,O.size,O.little,O.bytes,O.names,O.tags,O.kids⟩:b_)) fun a5=>bd (idx a5 H) fun V=>bd (upd a5 H (⟨V.name,i_ a0 1,V.size,V.little,V.bytes,V.names,V.tags,V.kids⟩:b_)) fun a6=>bd (idx a6 H) fun W=>bd (upd a6 H (⟨W.name,W.kind,i_ (i_ a0 1) 1,W.little,W.bytes,W.names,W.tags,W.kids⟩:b_)) fun a7=>bd (idx a7 H) fun Y=>bd (upd a7 H (⟨Y.name,Y.kind,Y.size,(a_R (i_ (i_ (i_ a0 1) 1) 1) 3)==0,Y.bytes,Y.names,Y.tags,Y.kids⟩:b_)) fun a1=>bd (idx a1 H) fun G=>bd2 (c_u n G.bytes<|i_ (i_ (i_ (i_ a0 1) 1) 1) 1) fun aa a3=>bd (idx (a1.set (H).toNat (⟨G.name,G.kind,G.size,G.little,a3,G.names,G.tags,G.kids⟩:b_)) H) fun I=>bd2 (f_c n I.names aa) fun ab a4=>bd (idx ((a1.set (H).toNat (⟨G.name,G.kind,G.size,G.little,a3,G.names,G.tags,G.kids⟩:b_)).set (H).toNat (⟨I.name,I.kind,I.size,I.little,I.bytes,a4,I.tags,I.kids⟩:b_)) H) fun J=>bd2 (d_l n J.tags ab) fun ad a8=>bd (idx (((a1.set (H).toNat (⟨G.name,G.kind,G.size,G.little,a3,G.names,G.tags,G.kids⟩:b_)).set (H).toNat (⟨I.name,I.kind,I.size,I.little,I.bytes,a4,I.tags,I.kids⟩:b_)).set (H).toNat (⟨J.name,J.kind,J.size,J.little,J.bytes,J.names,a8,J.kids⟩:b_)) H) fun L=>bd2 (d_l n L.kids ad) fun ae af=>some (.next ((((a1.set (H).toNat (⟨G.name,G.kind,G.size,G.little,a3,G.names,G.tags,G.kids⟩:b_)).set (H).toNat (⟨I.name,I.kind,I.size,I.little,I.bytes,a4,I.tags,I.kids⟩:b_)).set (H).toNat (⟨J.name,J.kind,J.size,J.little,J.bytes,J.names,a8,J.kids⟩:b_)).set (H).toNat (⟨L.name,L.kind,L.size,L.little,L.bytes,L.names,L.tags,af⟩:b_),ae,i_ H 1)) else some (.brk (a2,a0,H))):(List b_)×Int×Int->Option (Out ((List b_)×Int×Int)<|Int×(List b_))) s=some (.next s')/\(∃j:Nat,s'.2.2=(j:Int)/\s'.1.length=l.length/\j<=l.length/\(∀r∈s'.1,SmR r)/\0<=s'.2.1/\s'.2.1<=1+(j:Int) * 8388608)/\l.length - s'.2.2.toNat<l.length - s.2.2.toNat)∨(∃s',((un3 fun a2 a0 H=>if (decide<|H<(a2.length:Int))=true then bd (d_G n a0) fun a9=>bd (idx a2 H) fun O=>bd (upd a2 H (⟨a9,O.kind,O.size,O.little,O.bytes,O.names,O.tags,O.kids⟩:b_)) fun a5=>bd (idx a5 H) fun V=>bd (upd a5 H (⟨V.name,i_ a0 1,V.size,V.little,V.bytes,V.names,V.tags,V.kids⟩:b_)) fun a6=>bd (idx a6 H) fun W=>bd (upd a6 H (⟨W.name,W.kind,i_ (i_ a0 1) 1,W.little,W.bytes,W.names,W.tags,W.kids⟩:b_)) fun a7=>bd (idx a7 H) fun Y=>bd (upd a7 H (⟨Y.name,Y.kind,Y.size,(a_R (i_ (i_ (i_ a0 1) 1) 1) 3)==0,Y.bytes,Y.names,Y.tags,Y.kids⟩:b_)) fun a1=>bd (idx a1 H) fun G=>bd2 (c_u n G.bytes<|i_ (i_ (i_ (i_ a0 1) 1) 1) 1) fun aa a3=>bd (idx (a1.set (H).toNat (⟨G.name,G.kind,G.size,G.little,a3,G.names,G.tags,G.kids⟩:b_)) H) fun I=>bd2 (f_c n I.names aa) fun ab a4=>bd (idx ((a1.set (H).toNat (⟨G.name,G.kind,G.size,G.little,a3,G.names,G.tags,G.kids⟩:b_)).set (H).toNat (⟨I.name,I.kind,I.size,I.little,I.bytes,a4,I.tags,I.kids⟩:b_)) H) fun J=>bd2 (d_l n J.tags ab) fun ad a8=>bd (idx (((a1.set (H).toNat (⟨G.name,G.kind,G.size,G.little,a3,G.names,G.tags,G.kids⟩:b_)).set (H).toNat (⟨I.name,I.kind,I.size,I.little,I.bytes,a4,I.tags,I.kids⟩:b_)).set (H).toNat (⟨J.name,J.kind,J.size,J.little,J.bytes,J.names,a8,J.kids⟩:b_)) H) fun L=>bd2 (d_l n L.kids ad) fun ae af=>some (.next ((((a1.set (H).toNat (⟨G.name,G.kind,G.size,G.little,a3,G.names,G.tags,G.kids⟩:b_)).set (H).toNat (⟨I.name,I.kind,I.size,I.little,I.bytes,a4,I.tags,I.kids⟩:b_)).set (H).toNat (⟨J.name,J.kind,J.size,J.little,J.bytes,J.names,a8,J.kids⟩:b_)).set (H).toNat (⟨L.name,L.kind,L.size,L.little,L.bytes,L.names,L.tags,af⟩:b_),ae,i_ H 1)) else some (.brk (a2,a0,H))):(List b_)×Int×Int->Option (Out ((List b_)×Int×Int)<|Int×(List b_))) s=some (.brk s')/\(0<=s'.2.1/\s'.2.1<=281474976710656)):=by
  intro s hi;obtain ⟨a,x,i⟩:=s;obtain ⟨j,rfl,hal,hj,hsm,ah,ai⟩:=hi
  simp only at hal hsm ah ai
  simp only [un3]
  by_cases hlt:j<l.length
  ·left
   have hja:j<a.length:=by omega
   have hr:=hsm _<|gE_ hja;have hb:=hr.bytes;have hnm:=hr.names;have ht:=hr.tags;have hkd:=hr.kids;have hjm:(j:Int) * 8388608<=1048576 * 8388608:=by omega
   rw [dT_ (show (j:Int)<(a.length:Int) by omega),iP_ rfl]
   obtain ⟨t,htx,htl⟩:=j_M (n:=n) (by omega) ah (by omega:x<=1152921504606846976)
   rw [htx,bd_some,ix_ hja,bd_some,c_f hja,bd_some]
   generalize a[j]=r at *
   rw [e_O hja,bd_some,j_O hja,bd_some,e_O hja,bd_some,j_O hja,bd_some,e_O hja,bd_some,j_O hja,bd_some,e_O hja,bd_some]
   simp only [tN_,List.set_set]
   rw [ia_ (x:=x) (by omega) (by omega),ia_ (x:=x+1) (by omega) (by omega),ia_ (x:=x+1+1) (by omega) (by omega),ia_ (x:=x+1+1+1) (by omega) (by omega)]
   rw [g_A (by omega) (by omega) (by omega)]
   simp only [bd2_some]
   rw [e_O hja,bd_some]
   simp only
   rw [p_K (by omega) (by omega) (by omega) (by omega)]
   simp only [bd2_some]
   rw [e_O hja,bd_some]
   simp only
   rw [m_f (by omega) (by omega) (by omega)]
   simp only [bd2_some]
   rw [e_O hja,bd_some]
   simp only
   rw [m_f (by omega) (by omega) (by omega)]
   simp only [bd2_some]
   rw [ia_ (x:=(j:Int)) (by omega) (by omega)]
   refine ⟨_,rfl,⟨j+1,by simp only;omega,by simpa using hal,by omega,?_,by simp only;omega,by simp only;omega⟩,by simp only;omega⟩;intro q hq
   rcases List.mem_or_eq_of_mem_set hq with h | rfl
   ·exact hsm q h
   ·refine ⟨by simp only;omega,by simpa using hb,by simpa using hnm,by simpa using ht,by simpa using hkd,?_⟩;intro u hu
    simp only [List.mem_map,List.mem_range] at hu
    obtain ⟨i,hi,rfl⟩:=hu;exact p_L (by omega) (by omega) (by omega)
  ·right
   rw [dF_ (show ¬(j:Int)<(a.length:Int) by omega)]
   exact ⟨_,rfl,ah,by simp only;omega⟩
 obtain ⟨s,h1,h2⟩:=m_b (σ:=(List b_)×Int×Int) (ρ:=Int×(List b_)) _ (fun s:(List b_)×Int×Int=>l.length - s.2.2.toNat) _ hstep n (l,k,0) ⟨0,rfl,rfl,Nat.zero_le _,hs,h0,by simpa using hk⟩ (by simp;omega)
 rw [h1];exact ⟨_,_,rfl,h2⟩
theorem p_N {n:Nat}{d:f_}(hd:SmD d)(hn:MX+30<=n):∃k' l',h_B n d 1=some (k',l')/\0<=k'/\k'<=281474976710656:=by
 obtain ⟨k',l',h,hk⟩:=p_M hd.rules hd.each hn (k:=1) (by omega) (by omega);unfold h_B
 rw [h]
 exact ⟨k',l',rfl,hk⟩
end Go.Vw
