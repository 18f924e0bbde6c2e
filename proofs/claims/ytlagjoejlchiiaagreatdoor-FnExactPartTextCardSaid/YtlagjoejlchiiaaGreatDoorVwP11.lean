
import Derived.Test.YtlagjoejlchiiaaGreatDoorVwP9
namespace Go.Vw
open Go.RowKit Dat
theorem e_x {σ ρ:Type}{body:Nat->σ->Option (Out σ ρ)}(I:Nat->σ->Prop)(R:ρ->Prop){n:Nat}(h:∀k s,k<n->I k s->(∃s',body k s=some (.next s')/\I (k+1) s')∨(∃r,body k s=some (.ret r)/\R r)) :
  ∀m k s,k+m=n->I k s->(∃s',r_ body m k s=some (.inl s')/\I n s')∨(∃r,r_ body m k s=some (.inr r)/\R r)
 | 0,k,s,hk,hi=>.inl ⟨s,rfl,by rw [← hk];exact hi⟩
 | m+1,k,s,hk,hi=>by
  unfold r_
  rcases h k s (by omega) hi with ⟨s',h1,h2⟩ | ⟨r,h1,h2⟩
  ·rw [h1];exact e_x I R h m (k+1) s' (by omega) h2
  ·rw [h1];exact .inr ⟨r,rfl,h2⟩
structure LnR (r:b_):Prop where
 name:r.name.b.length<=LEN
 bytes:r.bytes.length<=LEN
 names:r.names.length<=LEN
 tags:r.tags.length<=LEN
 kids:r.kids.length<=LEN
 each:∀s∈r.names,s.b.length<=LEN
structure LnD (d:d_):Prop where
 rules:d.rules.length<=LEN
 each:∀r∈d.rules,LnR r
theorem LENv:LEN=140737488355328:=rfl
def a_P (l:Int):Prop:=0<=l/\l<=1048576
theorem k_V {α:Type}(a:List α){left:Int}(hl:a_P left)(ha:a.length<=LEN):(if (decide<|(K_ left (a.length:Int))<0)=true then some (-1) else some (K_ left (a.length:Int)))=some (if left<a.length then -1 else left - a.length):=by
 have:=LENv;unfold a_P at hl
 rw [b_4 (by omega) (by omega)]
 by_cases h:left<a.length
 ·rw [dT_ (by omega),iP_ h];rfl
 ·rw [dF_ (by omega),iN_ h];rfl
theorem o_d {a:List UInt8}{left:Int}(hl:a_P left)(ha:a.length<=LEN):∃r,h_J a left=some r/\(r<0∨(a_P r/\a.length<=MX)):=by
 have:=MXv;refine ⟨_,k_V a hl ha,?_⟩;unfold a_P at *
 split <;> omega
theorem k_W {a:List Int}{left:Int}(hl:a_P left)(ha:a.length<=LEN):∃r,f_I a left=some r/\(r<0∨(a_P r/\a.length<=MX)):=by
 have:=MXv;refine ⟨_,k_V a hl ha,?_⟩;unfold a_P at *
 split <;> omega
theorem o_e {a:List Str}{left:Int}(hl:a_P left)(ha:a.length<=LEN)(he:∀s∈a,s.b.length<=LEN):∃r,f_H a left=some r/\(r<0∨(a_P r/\a.length<=MX/\∀s∈a,s.b.length<=MX)):=by
 have hMX:=MXv;have hLEN:=LENv;unfold f_H;unfold a_P at *
 rw [b_4 (by omega) (by omega)]
 by_cases h:left<a.length
 ·rw [dT_ (by omega)];exact ⟨_,rfl,.inl (by omega)⟩
 ·rw [dF_ (by omega)]
  simp only [bF_,fF_]
  rcases e_x (σ:=Int) (ρ:=Int) (body:=(fun J=>(fun G=>bd (idx a ((J:Nat):Int)) fun H=>if (decide<|(K_ G (H.b.length:Int))<0)=true then some (.ret (-1)) else some (.next<|K_ G (H.b.length:Int)))))
   (fun k s=>(0<=s/\s<=1048576)/\∀j (hj:j<a.length),j<k->a[j].b.length<=MX) (fun r=>r<0) (n:=a.length) (fun k s hk hi=>by
    have hx:=he _<|gE_ hk
    rw [ix_ hk,bd_some,b_4 (by omega) (by omega)]
    by_cases I:s - (a[k].b.length:Int)<0
    ·rw [dT_ I];exact .inr ⟨_,rfl,by omega⟩
    ·rw [dF_ I]
     refine .inl ⟨_,rfl,by omega,fun j hj hjk=>?_⟩
     by_cases hjk':j<k
     ·exact hi.2 j hj hjk'
     ·have:j=k:=by omega
      subst this
      omega) a.length 0 (left - a.length) (by omega) ⟨by omega,fun j _ h=>by omega⟩ with ⟨s,h1,h2⟩ | ⟨r,h1,h2⟩
  ·rw [h1]
   exact ⟨s,rfl,.inr ⟨h2.1,by omega,fun t ht=>by
    obtain ⟨j,hj,rfl⟩:=List.getElem_of_mem ht
    exact h2.2 j hj hj⟩⟩
  ·rw [h1];exact ⟨r,rfl,.inl h2⟩
theorem o_f {a:b_}{left:Int}(hl:a_P left)(ha:LnR a):∃r,e_I a left=some r/\(r<0∨(a_P r/\SmR a)):=by
 have hMX:=MXv;have hLEN:=LENv;have hn:=ha.name;unfold e_I
 rw [b_4 (by unfold a_P at hl;omega) (by unfold a_P at hl;omega)]
 by_cases h:left - (a.name.b.length:Int)<0
 ·rw [dT_ h];exact ⟨_,rfl,.inl (by omega)⟩
 rw [dF_ h]
 have J:a_P (left - (a.name.b.length:Int)):=by unfold a_P at *;omega
 obtain ⟨L,O,g1⟩:=o_d (a:=a.bytes) J ha.bytes
 simp only [bF_,fF_]
 rw [O,bd_some]
 by_cases k1:L<0
 ·rw [dT_ k1];exact ⟨_,rfl,.inl (by omega)⟩
 rw [dF_ k1]
 have g1:=g1.resolve_left k1;obtain ⟨V,W,G⟩:=o_e (a:=a.names) g1.1 ha.names ha.each
 simp only [bF_,fF_]
 rw [W,bd_some]
 by_cases k2:V<0
 ·rw [dT_ k2];exact ⟨_,rfl,.inl (by omega)⟩
 rw [dF_ k2]
 have G:=G.resolve_left k2;obtain ⟨Y,e3,H⟩:=k_W (a:=a.tags) G.1 ha.tags
 simp only [bF_,fF_]
 rw [e3,bd_some]
 by_cases k3:Y<0
 ·rw [dT_ k3];exact ⟨_,rfl,.inl (by omega)⟩
 rw [dF_ k3]
 have H:=H.resolve_left k3;obtain ⟨r4,e4,I⟩:=k_W (a:=a.kids) H.1 ha.kids
 simp only [bF_,fF_]
 rw [e4,bd_some]
 by_cases k4:r4<0
 ·rw [dT_ k4];exact ⟨_,rfl,.inl (by omega)⟩
 rw [dF_ k4]
 have I:=I.resolve_left k4;exact ⟨_,rfl,.inr ⟨I.1,⟨by unfold a_P at hl;omega,g1.2,G.2.1,H.2,I.2,G.2.2⟩⟩⟩
theorem o_g {d:d_}(hd:LnD d):∃r,f_J d 1048576=some r/\(r<0∨(a_P r/\SmD d)):=by
 have hMX:=MXv;have hLEN:=LENv;have hr:=hd.rules;unfold f_J h_K
 rw [b_4 (by omega) (by omega)]
 by_cases h:(1048576:Int) - (d.rules.length:Int)<0
 ·rw [dT_ h];exact ⟨_,rfl,.inl (by omega)⟩
 rw [dF_ h]
 simp only [bF_,fF_]
 rcases e_x (σ:=Int) (ρ:=Int) (body:=(fun I=>(fun J=>bd (idx d.rules ((I:Nat):Int)) fun L=>bd (e_I L J) fun H=>if (decide<|H<0)=true then some (.ret (-1)) else some (.next H))))
   (fun k s=>a_P s/\∀j (hj:j<d.rules.length),j<k->SmR d.rules[j]) (fun r=>r<0) (n:=d.rules.length) (fun k s hk hi=>by
    obtain ⟨r,e,g⟩:=o_f hi.1<|hd.each _<|gE_ hk
    rw [ix_ hk,bd_some,e,bd_some]
    by_cases G:r<0
    ·rw [dT_ G];exact .inr ⟨_,rfl,by omega⟩
    ·rw [dF_ G]
     have g:=g.resolve_left G;refine .inl ⟨_,rfl,g.1,fun j hj hjk=>?_⟩
     by_cases hjk':j<k
     ·exact hi.2 j hj hjk'
     ·have:j=k:=by omega
      subst this
      exact g.2) d.rules.length 0 (1048576 - d.rules.length) (by omega) ⟨by unfold a_P;omega,fun j _ h=>by omega⟩ with ⟨s,h1,h2⟩ | ⟨r,h1,h2⟩
 ·rw [h1]
  have:¬s<0:=by have:=h2.1;unfold a_P at this;omega
  simp only [bd_some,el_inl]
  rw [dF_ this]
  exact ⟨s,rfl,.inr ⟨h2.1,by omega,fun t ht=>by
   obtain ⟨j,hj,rfl⟩:=List.getElem_of_mem ht
   exact h2.2 j hj hj⟩⟩
 ·rw [h1]
  simp only [bd_some,el_inr]
  rw [dT_ h2]
  exact ⟨_,rfl,.inl (by omega)⟩
theorem o_h {α:Type}{l:List α}{z:α}{j:Nat}(hj:j<l.length):(l.take j++List.replicate (l.length - j) z).set j l[j]=l.take (j+1)++List.replicate (l.length - (j+1)) z:=by
 rw [List.set_append_right _ _ (by simp;omega)]
 rw [show j - (l.take j).length=0 by simp;omega,show l.length - j=(l.length - (j+1))+1 by omega,List.replicate_succ,List.set_cons_zero,List.take_add_one,gG_ hj,Option.toList_some,List.append_assoc]
 rfl
theorem h_p {α ρ:Type}{l:List α}{z:α}(body:Nat->List α->Option (Out (List α) ρ))(hb:∀k (hk:k<l.length) (c:List α),c.length=l.length->body k c=some (.next<|c.set k l[k])) :
  r_ body l.length 0 (List.replicate l.length z)=some (.inl l):=by
 have h:=b_G (n:=l.length) (body:=body) (fun k=>l.take k++List.replicate (l.length - k) z) (fun j hj=>by
  rw [hb j hj _ (by simp;omega),o_h hj])
 simpa using h
theorem k_X {l:List UInt8}(hl:l.length<=MX):d_z l=some l:=by
 have:=MXv;have:=b_7;unfold d_z
 rw [f_D (by omega),bd_some,h_p _ (fun k hk c hc=>by rw [ix_ hk,bd_some,f_C (by omega),bd_some])];rfl
theorem k_Y {l:List Int}(hl:l.length<=MX):e_J l=some l:=by
 have:=MXv;have:=b_7;unfold e_J
 rw [f_D (by omega),bd_some,h_p _ (fun k hk c hc=>by rw [ix_ hk,bd_some,f_C (by omega),bd_some])];rfl
theorem o_i {l:List Str}(hl:l.length<=MX):f_K l=some l:=by
 have:=MXv;have:=b_7;unfold f_K
 rw [f_D (by omega),bd_some,h_p _ (fun k hk c hc=>by rw [ix_ hk,bd_some,f_C (by omega),bd_some])];rfl
theorem o_j {r:b_}(hr:SmR r):f_L r=some r:=by
 unfold f_L
 rw [k_X hr.bytes,bd_some,o_i hr.names,bd_some,k_Y hr.tags,bd_some,k_Y hr.kids,bd_some]
theorem o_k {d:d_}(hd:SmD d):e_5 d=some d:=by
 have:=MXv;have:=b_7;have:=hd.rules;unfold e_5 h_L
 rw [f_D (by omega),bd_some,h_p _ (fun k hk c hc=>by rw [ix_ hk,bd_some,o_j<|hd.each _<|gE_ hk,bd_some,f_C (by omega),bd_some])];rfl
theorem eq_int (l:List Int):e_Z l l=some true:=by
 unfold e_Z
 rw [b_G (fun _=>()) (n:=l.length) (fun j hj=>by rw [ix_ hj];simp only [bd_some,bN_,bF_,fF_])]
 simp
theorem k_Z (l:List UInt8):e_Y l l=some true:=by
 unfold e_Y
 rw [b_G (fun _=>()) (n:=l.length) (fun j hj=>by rw [ix_ hj];simp only [bd_some,bN_,bF_,fF_])]
 simp
theorem o_l (l:List Str):g_z l l=some true:=by
 unfold g_z
 rw [b_G (fun _=>()) (n:=l.length) (fun j hj=>by rw [ix_ hj];simp only [bd_some,bN_,bF_,fF_])]
 simp
theorem o_m (r:b_):g_A r r=some true:=by
 unfold g_A
 simp only [eq_int,k_Z,o_l,bd_some,bN_,bF_,fF_,nT_]
theorem o_n (d:d_):g_B d d=some true:=by
 unfold g_B h_P
 rw [b_G (fun _=>()) (n:=d.rules.length) (fun j hj=>by rw [ix_ hj];simp only [bd_some,o_m,nT_,bF_,fF_])]
 simp
end Go.Vw
