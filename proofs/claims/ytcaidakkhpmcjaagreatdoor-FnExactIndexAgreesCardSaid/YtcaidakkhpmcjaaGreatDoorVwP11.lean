
import Derived.Test.YtcaidakkhpmcjaaGreatDoorVwP10
namespace Go.Vw
open Go.RowKit Dat
theorem f_j {σ ρ:Type}{body:Nat->σ->Option (Out σ ρ)}(I:Nat->σ->Prop)(R:ρ->Prop){n:Nat}(h:∀k s,k<n->I k s->(∃s',body k s=some (.next s')/\I (k+1) s')∨(∃r,body k s=some (.ret r)/\R r)) :
  ∀m k s,k+m=n->I k s->(∃s',v_ body m k s=some (.inl s')/\I n s')∨(∃r,v_ body m k s=some (.inr r)/\R r)
 | 0,k,s,hk,hi=>.inl ⟨s,rfl,by rw [← hk];exact hi⟩
 | m+1,k,s,hk,hi=>by
  unfold v_
  rcases h k s (by omega) hi with ⟨s',h1,h2⟩ | ⟨r,h1,h2⟩
  ·rw [h1];exact f_j I R h m (k+1) s' (by omega) h2
  ·rw [h1];exact .inr ⟨r,rfl,h2⟩
structure LnR (r:e_):Prop where
 name:r.name.b.length<=LEN
 bytes:r.bytes.length<=LEN
 names:r.names.length<=LEN
 tags:r.tags.length<=LEN
 kids:r.kids.length<=LEN
 each:∀s∈r.names,s.b.length<=LEN
structure LnD (d:b_):Prop where
 rules:d.rules.length<=LEN
 each:∀r∈d.rules,LnR r
theorem LENv:LEN=140737488355328:=rfl
def b_3 (l:Int):Prop:=0<=l/\l<=1048576
theorem m_m {α:Type}(a:List α){left:Int}(hl:b_3 left)(ha:a.length<=LEN):(if (decide<|(S_ left (a.length:Int))<0)=true then some (-1) else some (S_ left (a.length:Int)))=some (if left<a.length then -1 else left - a.length):=by
 have:=LENv;unfold b_3 at hl
 rw [b_e (by omega) (by omega)]
 by_cases h:left<a.length
 ·rw [dT_ (by omega),iP_ h];rfl
 ·rw [dF_ (by omega),iN_ h];rfl
theorem q_o {a:List UInt8}{left:Int}(hl:b_3 left)(ha:a.length<=LEN):∃r,j_7 a left=some r/\(r<0∨(b_3 r/\a.length<=MX)):=by
 have:=MXv;refine ⟨_,m_m a hl ha,?_⟩;unfold b_3 at *
 split <;> omega
theorem m_n {a:List Int}{left:Int}(hl:b_3 left)(ha:a.length<=LEN):∃r,g_T a left=some r/\(r<0∨(b_3 r/\a.length<=MX)):=by
 have:=MXv;refine ⟨_,m_m a hl ha,?_⟩;unfold b_3 at *
 split <;> omega
theorem q_p {a:List Str}{left:Int}(hl:b_3 left)(ha:a.length<=LEN)(he:∀s∈a,s.b.length<=LEN):∃r,g_S a left=some r/\(r<0∨(b_3 r/\a.length<=MX/\∀s∈a,s.b.length<=MX)):=by
 have hMX:=MXv;have hLEN:=LENv;unfold g_S;unfold b_3 at *
 rw [b_e (by omega) (by omega)]
 by_cases h:left<a.length
 ·rw [dT_ (by omega)];exact ⟨_,rfl,.inl (by omega)⟩
 ·rw [dF_ (by omega)]
  simp only [bF_,fF_]
  rcases f_j (σ:=Int) (ρ:=Int) (body:=(fun J=>(fun G=>bd (idx a ((J:Nat):Int)) fun H=>if (decide<|(S_ G (H.b.length:Int))<0)=true then some (.ret (-1)) else some (.next<|S_ G (H.b.length:Int)))))
   (fun k s=>(0<=s/\s<=1048576)/\∀j (hj:j<a.length),j<k->a[j].b.length<=MX) (fun r=>r<0) (n:=a.length) (fun k s hk hi=>by
    have hx:=he _<|gE_ hk
    rw [ix_ hk,bd_some,b_e (by omega) (by omega)]
    by_cases I:s - (a[k].b.length:Int)<0
    ·rw [dT_ I];exact .inr ⟨_,rfl,by omega⟩
    ·rw [dF_ I]
     refine .inl ⟨_,rfl,by omega,fun j hj hjk=>?_⟩
     by_cases hjk':j<k
     ·exact hi.2 j hj hjk'
     ·have:j=k:=by omega
      subst this
      omega) a.length 0 (left - a.length) (by omega) ⟨by omega,fun j _ h=>by omega⟩ with ⟨s,h1,h2⟩ | ⟨r,h1,h2⟩
  ·rw [h1]
   exact ⟨s,rfl,.inr ⟨h2.1,by omega,fun t ht=>by
    obtain ⟨j,hj,rfl⟩:=List.getElem_of_mem ht
    exact h2.2 j hj hj⟩⟩
  ·rw [h1];exact ⟨r,rfl,.inl h2⟩
theorem q_q {a:e_}{left:Int}(hl:b_3 left)(ha:LnR a):∃r,f_x a left=some r/\(r<0∨(b_3 r/\SmR a)):=by
 have hMX:=MXv;have hLEN:=LENv;have hn:=ha.name;unfold f_x
 rw [b_e (by unfold b_3 at hl;omega) (by unfold b_3 at hl;omega)]
 by_cases h:left - (a.name.b.length:Int)<0
 ·rw [dT_ h];exact ⟨_,rfl,.inl (by omega)⟩
 rw [dF_ h]
 have J:b_3 (left - (a.name.b.length:Int)):=by unfold b_3 at *;omega
 obtain ⟨L,O,g1⟩:=q_o (a:=a.bytes) J ha.bytes
 simp only [bF_,fF_]
 rw [O,bd_some]
 by_cases k1:L<0
 ·rw [dT_ k1];exact ⟨_,rfl,.inl (by omega)⟩
 rw [dF_ k1]
 have g1:=g1.resolve_left k1;obtain ⟨V,W,G⟩:=q_p (a:=a.names) g1.1 ha.names ha.each
 simp only [bF_,fF_]
 rw [W,bd_some]
 by_cases k2:V<0
 ·rw [dT_ k2];exact ⟨_,rfl,.inl (by omega)⟩
 rw [dF_ k2]
 have G:=G.resolve_left k2;obtain ⟨Y,e3,H⟩:=m_n (a:=a.tags) G.1 ha.tags
 simp only [bF_,fF_]
 rw [e3,bd_some]
 by_cases k3:Y<0
 ·rw [dT_ k3];exact ⟨_,rfl,.inl (by omega)⟩
 rw [dF_ k3]
 have H:=H.resolve_left k3;obtain ⟨r4,e4,I⟩:=m_n (a:=a.kids) H.1 ha.kids
 simp only [bF_,fF_]
 rw [e4,bd_some]
 by_cases k4:r4<0
 ·rw [dT_ k4];exact ⟨_,rfl,.inl (by omega)⟩
 rw [dF_ k4]
 have I:=I.resolve_left k4;exact ⟨_,rfl,.inr ⟨I.1,⟨by unfold b_3 at hl;omega,g1.2,G.2.1,H.2,I.2,G.2.2⟩⟩⟩
theorem q_r {d:b_}(hd:LnD d):∃r,g_U d 1048576=some r/\(r<0∨(b_3 r/\SmD d)):=by
 have hMX:=MXv;have hLEN:=LENv;have hr:=hd.rules;unfold g_U j_8
 rw [b_e (by omega) (by omega)]
 by_cases h:(1048576:Int) - (d.rules.length:Int)<0
 ·rw [dT_ h];exact ⟨_,rfl,.inl (by omega)⟩
 rw [dF_ h]
 simp only [bF_,fF_]
 rcases f_j (σ:=Int) (ρ:=Int) (body:=(fun I=>(fun J=>bd (idx d.rules ((I:Nat):Int)) fun L=>bd (f_x L J) fun H=>if (decide<|H<0)=true then some (.ret (-1)) else some (.next H))))
   (fun k s=>b_3 s/\∀j (hj:j<d.rules.length),j<k->SmR d.rules[j]) (fun r=>r<0) (n:=d.rules.length) (fun k s hk hi=>by
    obtain ⟨r,e,g⟩:=q_q hi.1<|hd.each _<|gE_ hk
    rw [ix_ hk,bd_some,e,bd_some]
    by_cases G:r<0
    ·rw [dT_ G];exact .inr ⟨_,rfl,by omega⟩
    ·rw [dF_ G]
     have g:=g.resolve_left G;refine .inl ⟨_,rfl,g.1,fun j hj hjk=>?_⟩
     by_cases hjk':j<k
     ·exact hi.2 j hj hjk'
     ·have:j=k:=by omega
      subst this
      exact g.2) d.rules.length 0 (1048576 - d.rules.length) (by omega) ⟨by unfold b_3;omega,fun j _ h=>by omega⟩ with ⟨s,h1,h2⟩ | ⟨r,h1,h2⟩
 ·rw [h1]
  have:¬s<0:=by have:=h2.1;unfold b_3 at this;omega
  simp only [bd_some,el_inl]
  rw [dF_ this]
  exact ⟨s,rfl,.inr ⟨h2.1,by omega,fun t ht=>by
   obtain ⟨j,hj,rfl⟩:=List.getElem_of_mem ht
   exact h2.2 j hj hj⟩⟩
 ·rw [h1]
  simp only [bd_some,el_inr]
  rw [dT_ h2]
  exact ⟨_,rfl,.inl (by omega)⟩
theorem q_s {α:Type}{l:List α}{z:α}{j:Nat}(hj:j<l.length):(l.take j++List.replicate (l.length - j) z).set j l[j]=l.take (j+1)++List.replicate (l.length - (j+1)) z:=by
 rw [List.set_append_right _ _ (by simp;omega)]
 rw [show j - (l.take j).length=0 by simp;omega,show l.length - j=(l.length - (j+1))+1 by omega,List.replicate_succ,List.set_cons_zero,List.take_add_one,gG_ hj,Option.toList_some,List.append_assoc]
 rfl
theorem i_K {α ρ:Type}{l:List α}{z:α}(body:Nat->List α->Option (Out (List α) ρ))(hb:∀k (hk:k<l.length) (c:List α),c.length=l.length->body k c=some (.next<|c.set k l[k])) :
  v_ body l.length 0 (List.replicate l.length z)=some (.inl l):=by
 have h:=b_S (n:=l.length) (body:=body) (fun k=>l.take k++List.replicate (l.length - k) z) (fun j hj=>by
  rw [hb j hj _ (by simp;omega),q_s hj])
 simpa using h
theorem m_o {l:List UInt8}(hl:l.length<=MX):e_4 l=some l:=by
 have:=MXv;have:=b_b;unfold e_4
 rw [g_N (by omega),bd_some,i_K _ (fun k hk c hc=>by rw [ix_ hk,bd_some,f_t (by omega),bd_some])];rfl
theorem m_p {l:List Int}(hl:l.length<=MX):f_y l=some l:=by
 have:=MXv;have:=b_b;unfold f_y
 rw [g_N (by omega),bd_some,i_K _ (fun k hk c hc=>by rw [ix_ hk,bd_some,f_t (by omega),bd_some])];rfl
theorem q_t {l:List Str}(hl:l.length<=MX):g_V l=some l:=by
 have:=MXv;have:=b_b;unfold g_V
 rw [g_N (by omega),bd_some,i_K _ (fun k hk c hc=>by rw [ix_ hk,bd_some,f_t (by omega),bd_some])];rfl
theorem q_u {r:e_}(hr:SmR r):g_W r=some r:=by
 unfold g_W
 rw [m_o hr.bytes,bd_some,q_t hr.names,bd_some,m_p hr.tags,bd_some,m_p hr.kids,bd_some]
theorem q_v {d:b_}(hd:SmD d):e_G d=some d:=by
 have:=MXv;have:=b_b;have:=hd.rules;unfold e_G j_9
 rw [g_N (by omega),bd_some,i_K _ (fun k hk c hc=>by rw [ix_ hk,bd_some,q_u<|hd.each _<|gE_ hk,bd_some,f_t (by omega),bd_some])];rfl
theorem eq_int (l:List Int):f_S l l=some true:=by
 unfold f_S
 rw [b_S (fun _=>()) (n:=l.length) (fun j hj=>by rw [ix_ hj];simp only [bd_some,bN_,bF_,fF_])]
 simp
theorem m_q (l:List UInt8):f_R l l=some true:=by
 unfold f_R
 rw [b_S (fun _=>()) (n:=l.length) (fun j hj=>by rw [ix_ hj];simp only [bd_some,bN_,bF_,fF_])]
 simp
theorem q_w (l:List Str):h_B l l=some true:=by
 unfold h_B
 rw [b_S (fun _=>()) (n:=l.length) (fun j hj=>by rw [ix_ hj];simp only [bd_some,bN_,bF_,fF_])]
 simp
theorem q_x (r:e_):h_C r r=some true:=by
 unfold h_C
 simp only [eq_int,m_q,q_w,bd_some,bN_,bF_,fF_,nT_]
theorem q_y (d:b_):h_D d d=some true:=by
 unfold h_D j_d
 rw [b_S (fun _=>()) (n:=d.rules.length) (fun j hj=>by rw [ix_ hj];simp only [bd_some,q_x,nT_,bF_,fF_])]
 simp
end Go.Vw
