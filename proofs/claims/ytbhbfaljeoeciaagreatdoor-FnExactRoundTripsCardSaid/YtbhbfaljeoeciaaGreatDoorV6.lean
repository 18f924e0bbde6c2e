
import Derived.Test.YtbhbfaljeoeciaaGreatDoorV5
namespace Go.Vw
open Go.RowKit Dat
theorem f_a {σ ρ:Type}{body:Nat->σ->Option (Out σ ρ)}(I:Nat->σ->Prop)(R:ρ->Prop){n:Nat}(h:∀k s,k<n->I k s->(∃s',body k s=some (.next s')/\I (k+1) s')∨(∃r,body k s=some (.ret r)/\R r)) :
  ∀m k s,k+m=n->I k s->(∃s',z_ body m k s=some (.inl s')/\I n s')∨(∃r,z_ body m k s=some (.inr r)/\R r)
 | 0,k,s,hk,hi=>.inl ⟨s,rfl,by rw [← hk];exact hi⟩
 | m+1,k,s,hk,hi=>by
  unfold z_
  rcases h k s (by omega) hi with ⟨s',h1,h2⟩ | ⟨r,h1,h2⟩
  ·rw [h1];exact f_a I R h m (k+1) s' (by omega) h2
  ·rw [h1];exact .inr ⟨r,rfl,h2⟩
structure LnR (r:g_):Prop where
 name:r.name.b.length<=LEN
 bytes:r.bytes.length<=LEN
 names:r.names.length<=LEN
 tags:r.tags.length<=LEN
 kids:r.kids.length<=LEN
 each:∀s∈r.names,s.b.length<=LEN
structure LnD (d:c_):Prop where
 rules:d.rules.length<=LEN
 each:∀r∈d.rules,LnR r
theorem LENv:LEN=140737488355328:=rfl
def b_b (l:Int):Prop:=0<=l/\l<=1048576
theorem m_h {α:Type}(a:List α){left:Int}(hl:b_b left)(ha:a.length<=LEN):(if (decide<|(r_ left (a.length:Int))<0)=true then some (-1) else some (r_ left (a.length:Int)))=some (if left<a.length then -1 else left - a.length):=by
 have:=LENv;unfold b_b at hl
 rw [b_7 (by omega) (by omega)]
 by_cases h:left<a.length
 ·rw [dT_ (by omega),iP_ h];rfl
 ·rw [dF_ (by omega),iN_ h];rfl
theorem p_B {a:List UInt8}{left:Int}(hl:b_b left)(ha:a.length<=LEN):∃r,j_2 a left=some r/\(r<0∨(b_b r/\a.length<=MX)):=by
 have:=MXv;refine ⟨_,m_h a hl ha,?_⟩;unfold b_b at *
 split <;> omega
theorem m_i {a:List Int}{left:Int}(hl:b_b left)(ha:a.length<=LEN):∃r,g_P a left=some r/\(r<0∨(b_b r/\a.length<=MX)):=by
 have:=MXv;refine ⟨_,m_h a hl ha,?_⟩;unfold b_b at *
 split <;> omega
theorem p_C {a:List Str}{left:Int}(hl:b_b left)(ha:a.length<=LEN)(he:∀s∈a,s.b.length<=LEN):∃r,g_O a left=some r/\(r<0∨(b_b r/\a.length<=MX/\∀s∈a,s.b.length<=MX)):=by
 have hMX:=MXv;have hLEN:=LENv;unfold g_O;unfold b_b at *
 rw [b_7 (by omega) (by omega)]
 by_cases h:left<a.length
 ·rw [dT_ (by omega)];exact ⟨_,rfl,.inl (by omega)⟩
 ·rw [dF_ (by omega)]
  simp only [bF_,fF_]
  rcases f_a (σ:=Int) (ρ:=Int) (body:=(fun J=>(fun G=>bd (idx a ((J:Nat):Int)) fun H=>if (decide<|(r_ G (H.b.length:Int))<0)=true then some (.ret (-1)) else some (.next<|r_ G (H.b.length:Int)))))
   (fun k s=>(0<=s/\s<=1048576)/\∀j (hj:j<a.length),j<k->a[j].b.length<=MX) (fun r=>r<0) (n:=a.length) (fun k s hk hi=>by
    have hx:=he _<|gE_ hk
    rw [ix_ hk,bd_some,b_7 (by omega) (by omega)]
    by_cases I:s - (a[k].b.length:Int)<0
    ·rw [dT_ I];exact .inr ⟨_,rfl,by omega⟩
    ·rw [dF_ I]
     refine .inl ⟨_,rfl,by omega,fun j hj hjk=>?_⟩
     by_cases hjk':j<k
     ·exact hi.2 j hj hjk'
     ·have:j=k:=by omega
      subst this
      omega) a.length 0 (left - a.length) (by omega) ⟨by omega,fun j _ h=>by omega⟩ with ⟨s,h1,h2⟩ | ⟨r,h1,h2⟩
  ·rw [h1]
   exact ⟨s,rfl,.inr ⟨h2.1,by omega,fun t ht=>by
    obtain ⟨j,hj,rfl⟩:=List.getElem_of_mem ht
    exact h2.2 j hj hj⟩⟩
  ·rw [h1];exact ⟨r,rfl,.inl h2⟩
theorem p_D {a:g_}{left:Int}(hl:b_b left)(ha:LnR a):∃r,f_i a left=some r/\(r<0∨(b_b r/\SmR a)):=by
 have hMX:=MXv;have hLEN:=LENv;have hn:=ha.name;unfold f_i
 rw [b_7 (by unfold b_b at hl;omega) (by unfold b_b at hl;omega)]
 by_cases h:left - (a.name.b.length:Int)<0
 ·rw [dT_ h];exact ⟨_,rfl,.inl (by omega)⟩
 rw [dF_ h]
 have J:b_b (left - (a.name.b.length:Int)):=by unfold b_b at *;omega
 obtain ⟨L,O,g1⟩:=p_B (a:=a.bytes) J ha.bytes
 simp only [bF_,fF_]
 rw [O,bd_some]
 by_cases k1:L<0
 ·rw [dT_ k1];exact ⟨_,rfl,.inl (by omega)⟩
 rw [dF_ k1]
 have g1:=g1.resolve_left k1;obtain ⟨V,W,G⟩:=p_C (a:=a.names) g1.1 ha.names ha.each
 simp only [bF_,fF_]
 rw [W,bd_some]
 by_cases k2:V<0
 ·rw [dT_ k2];exact ⟨_,rfl,.inl (by omega)⟩
 rw [dF_ k2]
 have G:=G.resolve_left k2;obtain ⟨Y,e3,H⟩:=m_i (a:=a.tags) G.1 ha.tags
 simp only [bF_,fF_]
 rw [e3,bd_some]
 by_cases k3:Y<0
 ·rw [dT_ k3];exact ⟨_,rfl,.inl (by omega)⟩
 rw [dF_ k3]
 have H:=H.resolve_left k3;obtain ⟨r4,e4,I⟩:=m_i (a:=a.kids) H.1 ha.kids
 simp only [bF_,fF_]
 rw [e4,bd_some]
 by_cases k4:r4<0
 ·rw [dT_ k4];exact ⟨_,rfl,.inl (by omega)⟩
 rw [dF_ k4]
 have I:=I.resolve_left k4;exact ⟨_,rfl,.inr ⟨I.1,⟨by unfold b_b at hl;omega,g1.2,G.2.1,H.2,I.2,G.2.2⟩⟩⟩
theorem p_E {d:c_}(hd:LnD d):∃r,g_Q d 1048576=some r/\(r<0∨(b_b r/\SmD d)):=by
 have hMX:=MXv;have hLEN:=LENv;have hr:=hd.rules;unfold g_Q j_3
 rw [b_7 (by omega) (by omega)]
 by_cases h:(1048576:Int) - (d.rules.length:Int)<0
 ·rw [dT_ h];exact ⟨_,rfl,.inl (by omega)⟩
 rw [dF_ h]
 simp only [bF_,fF_]
 rcases f_a (σ:=Int) (ρ:=Int) (body:=(fun I=>(fun J=>bd (idx d.rules ((I:Nat):Int)) fun L=>bd (f_i L J) fun H=>if (decide<|H<0)=true then some (.ret (-1)) else some (.next H))))
   (fun k s=>b_b s/\∀j (hj:j<d.rules.length),j<k->SmR d.rules[j]) (fun r=>r<0) (n:=d.rules.length) (fun k s hk hi=>by
    obtain ⟨r,e,g⟩:=p_D hi.1<|hd.each _<|gE_ hk
    rw [ix_ hk,bd_some,e,bd_some]
    by_cases G:r<0
    ·rw [dT_ G];exact .inr ⟨_,rfl,by omega⟩
    ·rw [dF_ G]
     have g:=g.resolve_left G;refine .inl ⟨_,rfl,g.1,fun j hj hjk=>?_⟩
     by_cases hjk':j<k
     ·exact hi.2 j hj hjk'
     ·have:j=k:=by omega
      subst this
      exact g.2) d.rules.length 0 (1048576 - d.rules.length) (by omega) ⟨by unfold b_b;omega,fun j _ h=>by omega⟩ with ⟨s,h1,h2⟩ | ⟨r,h1,h2⟩
 ·rw [h1]
  have:¬s<0:=by have:=h2.1;unfold b_b at this;omega
  simp only [bd_some,el_inl]
  rw [dF_ this]
  exact ⟨s,rfl,.inr ⟨h2.1,by omega,fun t ht=>by
   obtain ⟨j,hj,rfl⟩:=List.getElem_of_mem ht
   exact h2.2 j hj hj⟩⟩
 ·rw [h1]
  simp only [bd_some,el_inr]
  rw [dT_ h2]
  exact ⟨_,rfl,.inl (by omega)⟩
theorem p_F {α:Type}{l:List α}{z:α}{j:Nat}(hj:j<l.length):(l.take j++List.replicate (l.length - j) z).set j l[j]=l.take (j+1)++List.replicate (l.length - (j+1)) z:=by
 rw [List.set_append_right _ _ (by simp;omega)]
 rw [show j - (l.take j).length=0 by simp;omega,show l.length - j=(l.length - (j+1))+1 by omega,List.replicate_succ,List.set_cons_zero,List.take_add_one,gG_ hj,Option.toList_some,List.append_assoc]
 rfl
theorem i_G {α ρ:Type}{l:List α}{z:α}(body:Nat->List α->Option (Out (List α) ρ))(hb:∀k (hk:k<l.length) (c:List α),c.length=l.length->body k c=some (.next<|c.set k l[k])) :
  z_ body l.length 0 (List.replicate l.length z)=some (.inl l):=by
 have h:=c_9 (n:=l.length) (body:=body) (fun k=>l.take k++List.replicate (l.length - k) z) (fun j hj=>by
  rw [hb j hj _ (by simp;omega),p_F hj])
 simpa using h
theorem m_j {l:List UInt8}(hl:l.length<=MX):d_S l=some l:=by
 have:=MXv;have:=a_p;unfold d_S
 rw [f_g (by omega),bd_some,i_G _ (fun k hk c hc=>by rw [ix_ hk,bd_some,g_L (by omega),bd_some])];rfl
theorem m_k {l:List Int}(hl:l.length<=MX):f_j l=some l:=by
 have:=MXv;have:=a_p;unfold f_j
 rw [f_g (by omega),bd_some,i_G _ (fun k hk c hc=>by rw [ix_ hk,bd_some,g_L (by omega),bd_some])];rfl
theorem p_G {l:List Str}(hl:l.length<=MX):g_R l=some l:=by
 have:=MXv;have:=a_p;unfold g_R
 rw [f_g (by omega),bd_some,i_G _ (fun k hk c hc=>by rw [ix_ hk,bd_some,g_L (by omega),bd_some])];rfl
theorem p_H {r:g_}(hr:SmR r):g_S r=some r:=by
 unfold g_S
 rw [m_j hr.bytes,bd_some,p_G hr.names,bd_some,m_k hr.tags,bd_some,m_k hr.kids,bd_some]
theorem p_I {d:c_}(hd:SmD d):e_t d=some d:=by
 have:=MXv;have:=a_p;have:=hd.rules;unfold e_t j_4
 rw [f_g (by omega),bd_some,i_G _ (fun k hk c hc=>by rw [ix_ hk,bd_some,p_H<|hd.each _<|gE_ hk,bd_some,g_L (by omega),bd_some])];rfl
theorem eq_int (l:List Int):f_t l l=some true:=by
 unfold f_t
 rw [c_9 (fun _=>()) (n:=l.length) (fun j hj=>by rw [ix_ hj];simp only [bd_some,bN_,bF_,fF_])]
 simp
theorem m_l (l:List UInt8):f_s l l=some true:=by
 unfold f_s
 rw [c_9 (fun _=>()) (n:=l.length) (fun j hj=>by rw [ix_ hj];simp only [bd_some,bN_,bF_,fF_])]
 simp
theorem p_J (l:List Str):h_n l l=some true:=by
 unfold h_n
 rw [c_9 (fun _=>()) (n:=l.length) (fun j hj=>by rw [ix_ hj];simp only [bd_some,bN_,bF_,fF_])]
 simp
theorem p_K (r:g_):h_o r r=some true:=by
 unfold h_o
 simp only [eq_int,m_l,p_J,bd_some,bN_,bF_,fF_,nT_]
theorem p_L (d:c_):h_p d d=some true:=by
 unfold h_p j_7
 rw [c_9 (fun _=>()) (n:=d.rules.length) (fun j hj=>by rw [ix_ hj];simp only [bd_some,p_K,nT_,bF_,fF_])]
 simp
end Go.Vw
