
import Derived.Test.YtdcjkhfonojjiaaGreatDoorVwP10
namespace Go.Vw
open Go.RowKit Dat
theorem f_8 {σ ρ:Type}{body:Nat->σ->Option (Out σ ρ)}(I:Nat->σ->Prop)(R:ρ->Prop){n:Nat}(h:∀k s,k<n->I k s->(∃s',body k s=some (.next s')/\I (k+1) s')∨(∃r,body k s=some (.ret r)/\R r)) :
  ∀m k s,k+m=n->I k s->(∃s',r_ body m k s=some (.inl s')/\I n s')∨(∃r,r_ body m k s=some (.inr r)/\R r)
 | 0,k,s,hk,hi=>.inl ⟨s,rfl,by rw [← hk];exact hi⟩
 | m+1,k,s,hk,hi=>by
  unfold r_
  rcases h k s (by omega) hi with ⟨s',h1,h2⟩ | ⟨r,h1,h2⟩
  ·rw [h1];exact f_8 I R h m (k+1) s' (by omega) h2
  ·rw [h1];exact .inr ⟨r,rfl,h2⟩
structure LnR (r:e_):Prop where
 name:r.name.b.length<=LEN
 bytes:r.bytes.length<=LEN
 names:r.names.length<=LEN
 tags:r.tags.length<=LEN
 kids:r.kids.length<=LEN
 each:∀s∈r.names,s.b.length<=LEN
structure LnD (d:d_):Prop where
 rules:d.rules.length<=LEN
 each:∀r∈d.rules,LnR r
theorem f_9:LEN=140737488355328:=rfl
def a_W (l:Int):Prop:=0<=l/\l<=1048576
theorem l_O {α:Type}(a:List α){left:Int}(hl:a_W left)(ha:a.length<=LEN):(if (decide<|(Q_ left (a.length:Int))<0)=true then some (-1) else some (Q_ left (a.length:Int)))=some (if left<a.length then -1 else left - a.length):=by
 have:=f_9;unfold a_W at hl
 rw [b_q (by omega) (by omega)]
 by_cases h:left<a.length
 ·rw [dT_ (by omega),iP_ h];rfl
 ·rw [dF_ (by omega),iN_ h];rfl
theorem p_k {a:List UInt8}{left:Int}(hl:a_W left)(ha:a.length<=LEN):∃r,i_z a left=some r/\(r<0∨(a_W r/\a.length<=MX)):=by
 have:=MXv;refine ⟨_,l_O a hl ha,?_⟩;unfold a_W at *
 split <;> omega
theorem l_P {a:List Int}{left:Int}(hl:a_W left)(ha:a.length<=LEN):∃r,g_p a left=some r/\(r<0∨(a_W r/\a.length<=MX)):=by
 have:=MXv;refine ⟨_,l_O a hl ha,?_⟩;unfold a_W at *
 split <;> omega
theorem p_l {a:List Str}{left:Int}(hl:a_W left)(ha:a.length<=LEN)(he:∀s∈a,s.b.length<=LEN):∃r,g_o a left=some r/\(r<0∨(a_W r/\a.length<=MX/\∀s∈a,s.b.length<=MX)):=by
 have hMX:=MXv;have hLEN:=f_9;unfold g_o;unfold a_W at *
 rw [b_q (by omega) (by omega)]
 by_cases h:left<a.length
 ·rw [dT_ (by omega)];exact ⟨_,rfl,.inl (by omega)⟩
 ·rw [dF_ (by omega)]
  simp only [bF_,fF_]
  rcases f_8 (σ:=Int) (ρ:=Int) (body:=(fun J=>(fun G=>bd (idx a ((J:Nat):Int)) fun H=>if (decide<|(Q_ G (H.b.length:Int))<0)=true then some (.ret (-1)) else some (.next<|Q_ G (H.b.length:Int)))))
   (fun k s=>(0<=s/\s<=1048576)/\∀j (hj:j<a.length),j<k->a[j].b.length<=MX) (fun r=>r<0) (n:=a.length) (fun k s hk hi=>by
    have hx:=he _<|gE_ hk
    rw [ix_ hk,bd_some,b_q (by omega) (by omega)]
    by_cases I:s - (a[k].b.length:Int)<0
    ·rw [dT_ I];exact .inr ⟨_,rfl,by omega⟩
    ·rw [dF_ I]
     refine .inl ⟨_,rfl,by omega,fun j hj hjk=>?_⟩
     by_cases hjk':j<k
     ·exact hi.2 j hj hjk'
     ·have:j=k:=by omega
      subst this
      omega) a.length 0 (left - a.length) (by omega) ⟨by omega,fun j _ h=>by omega⟩ with ⟨s,h1,h2⟩ | ⟨r,h1,h2⟩
  ·rw [h1]
   exact ⟨s,rfl,.inr ⟨h2.1,by omega,fun t ht=>by
    obtain ⟨j,hj,rfl⟩:=List.getElem_of_mem ht
    exact h2.2 j hj hj⟩⟩
  ·rw [h1];exact ⟨r,rfl,.inl h2⟩
theorem p_m {a:e_}{left:Int}(hl:a_W left)(ha:LnR a):∃r,f_s a left=some r/\(r<0∨(a_W r/\SmR a)):=by
 have hMX:=MXv;have hLEN:=f_9;have hn:=ha.name;unfold f_s
 rw [b_q (by unfold a_W at hl;omega) (by unfold a_W at hl;omega)]
 by_cases h:left - (a.name.b.length:Int)<0
 ·rw [dT_ h];exact ⟨_,rfl,.inl (by omega)⟩
 rw [dF_ h]
 have J:a_W (left - (a.name.b.length:Int)):=by unfold a_W at *;omega
 obtain ⟨L,O,g1⟩:=p_k (a:=a.bytes) J ha.bytes
 simp only [bF_,fF_]
 rw [O,bd_some]
 by_cases k1:L<0
 ·rw [dT_ k1];exact ⟨_,rfl,.inl (by omega)⟩
 rw [dF_ k1]
 have g1:=g1.resolve_left k1;obtain ⟨V,W,G⟩:=p_l (a:=a.names) g1.1 ha.names ha.each
 simp only [bF_,fF_]
 rw [W,bd_some]
 by_cases k2:V<0
 ·rw [dT_ k2];exact ⟨_,rfl,.inl (by omega)⟩
 rw [dF_ k2]
 have G:=G.resolve_left k2;obtain ⟨Y,e3,H⟩:=l_P (a:=a.tags) G.1 ha.tags
 simp only [bF_,fF_]
 rw [e3,bd_some]
 by_cases k3:Y<0
 ·rw [dT_ k3];exact ⟨_,rfl,.inl (by omega)⟩
 rw [dF_ k3]
 have H:=H.resolve_left k3;obtain ⟨r4,e4,I⟩:=l_P (a:=a.kids) H.1 ha.kids
 simp only [bF_,fF_]
 rw [e4,bd_some]
 by_cases k4:r4<0
 ·rw [dT_ k4];exact ⟨_,rfl,.inl (by omega)⟩
 rw [dF_ k4]
 have I:=I.resolve_left k4;exact ⟨_,rfl,.inr ⟨I.1,⟨by unfold a_W at hl;omega,g1.2,G.2.1,H.2,I.2,G.2.2⟩⟩⟩
theorem p_n {d:d_}(hd:LnD d):∃r,g_q d 1048576=some r/\(r<0∨(a_W r/\SmD d)):=by
 have hMX:=MXv;have hLEN:=f_9;have hr:=hd.rules;unfold g_q i_A
 rw [b_q (by omega) (by omega)]
 by_cases h:(1048576:Int) - (d.rules.length:Int)<0
 ·rw [dT_ h];exact ⟨_,rfl,.inl (by omega)⟩
 rw [dF_ h]
 simp only [bF_,fF_]
 rcases f_8 (σ:=Int) (ρ:=Int) (body:=(fun I=>(fun J=>bd (idx d.rules ((I:Nat):Int)) fun L=>bd (f_s L J) fun H=>if (decide<|H<0)=true then some (.ret (-1)) else some (.next H))))
   (fun k s=>a_W s/\∀j (hj:j<d.rules.length),j<k->SmR d.rules[j]) (fun r=>r<0) (n:=d.rules.length) (fun k s hk hi=>by
    obtain ⟨r,e,g⟩:=p_m hi.1<|hd.each _<|gE_ hk
    rw [ix_ hk,bd_some,e,bd_some]
    by_cases G:r<0
    ·rw [dT_ G];exact .inr ⟨_,rfl,by omega⟩
    ·rw [dF_ G]
     have g:=g.resolve_left G;refine .inl ⟨_,rfl,g.1,fun j hj hjk=>?_⟩
     by_cases hjk':j<k
     ·exact hi.2 j hj hjk'
     ·have:j=k:=by omega
      subst this
      exact g.2) d.rules.length 0 (1048576 - d.rules.length) (by omega) ⟨by unfold a_W;omega,fun j _ h=>by omega⟩ with ⟨s,h1,h2⟩ | ⟨r,h1,h2⟩
 ·rw [h1]
  have:¬s<0:=by have:=h2.1;unfold a_W at this;omega
  simp only [bd_some,el_inl]
  rw [dF_ this]
  exact ⟨s,rfl,.inr ⟨h2.1,by omega,fun t ht=>by
   obtain ⟨j,hj,rfl⟩:=List.getElem_of_mem ht
   exact h2.2 j hj hj⟩⟩
 ·rw [h1]
  simp only [bd_some,el_inr]
  rw [dT_ h2]
  exact ⟨_,rfl,.inl (by omega)⟩
theorem p_o {α:Type}{l:List α}{z:α}{j:Nat}(hj:j<l.length):(l.take j++List.replicate (l.length - j) z).set j l[j]=l.take (j+1)++List.replicate (l.length - (j+1)) z:=by
 rw [List.set_append_right _ _ (by simp;omega)]
 rw [show j - (l.take j).length=0 by simp;omega,show l.length - j=(l.length - (j+1))+1 by omega,List.replicate_succ,List.set_cons_zero,List.take_add_one,gG_ hj,Option.toList_some,List.append_assoc]
 rfl
theorem h_X {α ρ:Type}{l:List α}{z:α}(body:Nat->List α->Option (Out (List α) ρ))(hb:∀k (hk:k<l.length) (c:List α),c.length=l.length->body k c=some (.next<|c.set k l[k])) :
  r_ body l.length 0 (List.replicate l.length z)=some (.inl l):=by
 have h:=b_Y (n:=l.length) (body:=body) (fun k=>l.take k++List.replicate (l.length - k) z) (fun j hj=>by
  rw [hb j hj _ (by simp;omega),p_o hj])
 simpa using h
theorem j_w {l:List UInt8}(hl:l.length<=MX):c_A l=some l:=by
 have:=MXv;have:=a_D;unfold c_A
 rw [f_p (by omega),bd_some,h_X _ (fun k hk c hc=>by rw [ix_ hk,bd_some,g_k (by omega),bd_some])];rfl
theorem l_Q {l:List Int}(hl:l.length<=MX):f_t l=some l:=by
 have:=MXv;have:=a_D;unfold f_t
 rw [f_p (by omega),bd_some,h_X _ (fun k hk c hc=>by rw [ix_ hk,bd_some,g_k (by omega),bd_some])];rfl
theorem p_p {l:List Str}(hl:l.length<=MX):g_r l=some l:=by
 have:=MXv;have:=a_D;unfold g_r
 rw [f_p (by omega),bd_some,h_X _ (fun k hk c hc=>by rw [ix_ hk,bd_some,g_k (by omega),bd_some])];rfl
theorem p_q {r:e_}(hr:SmR r):g_s r=some r:=by
 unfold g_s
 rw [j_w hr.bytes,bd_some,p_p hr.names,bd_some,l_Q hr.tags,bd_some,l_Q hr.kids,bd_some]
theorem p_r {d:d_}(hd:SmD d):e_z d=some d:=by
 have:=MXv;have:=a_D;have:=hd.rules;unfold e_z i_B
 rw [f_p (by omega),bd_some,h_X _ (fun k hk c hc=>by rw [ix_ hk,bd_some,p_q<|hd.each _<|gE_ hk,bd_some,g_k (by omega),bd_some])];rfl
theorem eq_int (l:List Int):f_B l l=some true:=by
 unfold f_B
 rw [b_Y (fun _=>()) (n:=l.length) (fun j hj=>by rw [ix_ hj];simp only [bd_some,bN_,bF_,fF_])]
 simp
theorem l_R (l:List UInt8):e_L l l=some true:=by
 unfold e_L
 rw [b_Y (fun _=>()) (n:=l.length) (fun j hj=>by rw [ix_ hj];simp only [bd_some,bN_,bF_,fF_])]
 simp
theorem p_s (l:List Str):h_5 l l=some true:=by
 unfold h_5
 rw [b_Y (fun _=>()) (n:=l.length) (fun j hj=>by rw [ix_ hj];simp only [bd_some,bN_,bF_,fF_])]
 simp
theorem p_t (r:e_):h_6 r r=some true:=by
 unfold h_6
 simp only [eq_int,l_R,p_s,bd_some,bN_,bF_,fF_,nT_]
theorem p_u (d:d_):h_7 d d=some true:=by
 unfold h_7 i_E
 rw [b_Y (fun _=>()) (n:=d.rules.length) (fun j hj=>by rw [ix_ hj];simp only [bd_some,p_t,nT_,bF_,fF_])]
 simp
end Go.Vw
