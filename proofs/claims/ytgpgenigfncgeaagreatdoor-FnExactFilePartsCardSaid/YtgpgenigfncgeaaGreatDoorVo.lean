
import Derived.Test.YtgpgenigfncgeaaGreatDoorVn
namespace Go.Vw
open Go.RowKit Dat
structure LnA (a:J_):Prop where
 len:a.registry.versions.length<=LEN
 each:∀d∈a.registry.versions,LnD d
 bytes:a.log.bytes.length<=LEN
theorem q_6 {a:Bt}{left:Int}(hl:a_S left)(ha:a.length<=LEN):∃r,i_6 a left=some r/\(r<0∨(a_S r/\a.length<=MX/\r+a.length<=left)):=by
 have:=MXv;refine ⟨_,o_y a hl ha,?_⟩;unfold a_S at *
 split <;> omega
theorem q_7 {a:List Int}{left:Int}(hl:a_S left)(ha:a.length<=LEN):∃r,i_8 a left=some r/\(r<0∨(a_S r/\a.length<=MX/\r+a.length<=left)):=by
 have:=MXv;refine ⟨_,o_y a hl ha,?_⟩;unfold a_S at *
 split <;> omega
theorem u_Z {a:List Str}{left:Int}(hl:a_S left)(ha:a.length<=LEN)(he:∀s∈a,s.b.length<=LEN):∃r,i_7 a left=some r/\(r<0∨(a_S r/\a.length<=MX/\(∀s∈a,s.b.length<=MX)/\r+a.length<=left)):=by
 have hMX:=MXv;have hLEN:=LENv;unfold i_7;unfold a_S at *
 rw [a_y (by omega) (by omega)]
 by_cases h:left<a.length
 .rw [dT_ (by omega)];exact ⟨_,rfl,.inl (by omega)⟩
 .rw [dF_ (by omega)]
  simp only [bF_,fF_]
  rcases f_x (σ:=Int) (ρ:=Int) (body:=(λJ=>(λG=>bd (idx a ((J:Nat):Int)) λH=>if (decide<|(w_ G (H.b.length:Int))<0) then some (.ret (-1)) else some (.next<|w_ G (H.b.length:Int)))))
   (λk s=>(0<=s/\s<=left - a.length)/\∀j (hj:j<a.length),j<k->a[j].b.length<=MX) (λr=>r<0) (n:=a.length) (λk s hk hi=>by
    have hx:=he _<|gE_ hk
    rw [ix_ hk,bd_some,a_y (by omega) (by omega)]
    by_cases I:s - (a[k].b.length:Int)<0
    .rw [dT_ I];exact .inr ⟨_,rfl,by omega⟩
    .rw [dF_ I]
     refine .inl ⟨_,rfl,by omega,λj hj hjk=>?_⟩
     by_cases hjk':j<k
     .exact hi.2 j hj hjk'
     .have:j=k:=by omega
      subst this
      omega) a.length 0 (left - a.length) (by omega) ⟨by omega,λj _ h=>by omega⟩ with ⟨s,h1,h2⟩ | ⟨r,h1,h2⟩
  .rw [h1]
   exact ⟨s,rfl,.inr ⟨by omega,by omega,λt ht=>by
    obtain ⟨j,hj,rfl⟩:=List.getElem_of_mem ht
    exact h2.2 j hj hj,by omega⟩⟩
  .rw [h1];exact ⟨r,rfl,.inl h2⟩
theorem v_0 {a:d_}{left:Int}(hl:a_S left)(ha:LnR a):∃r,g_I a left=some r/\(r<0∨(a_S r/\SmR a/\r+mR a<=left+4)):=by
 have hMX:=MXv;have hLEN:=LENv;have hn:=ha.name;unfold g_I
 rw [a_y (by unfold a_S at hl;omega) (by unfold a_S at hl;omega)]
 by_cases h:left - (a.name.b.length:Int)<0
 .rw [dT_ h];exact ⟨_,rfl,.inl (by omega)⟩
 rw [dF_ h]
 have J:a_S (left - (a.name.b.length:Int)):=by unfold a_S at *;omega
 obtain ⟨L,O,g1⟩:=q_6 (a:=a.bytes) J ha.bytes
 simp only [bF_,fF_]
 rw [O,bd_some]
 by_cases k1:L<0
 .rw [dT_ k1];exact ⟨_,rfl,.inl (by omega)⟩
 rw [dF_ k1]
 have g1:=g1.resolve_left k1;obtain ⟨V,W,G⟩:=u_Z (a:=a.names) g1.1 ha.names ha.each
 simp only [bF_,fF_]
 rw [W,bd_some]
 by_cases k2:V<0
 .rw [dT_ k2];exact ⟨_,rfl,.inl (by omega)⟩
 rw [dF_ k2]
 have G:=G.resolve_left k2;obtain ⟨Y,e3,H⟩:=q_7 (a:=a.tags) G.1 ha.tags
 simp only [bF_,fF_]
 rw [e3,bd_some]
 by_cases k3:Y<0
 .rw [dT_ k3];exact ⟨_,rfl,.inl (by omega)⟩
 rw [dF_ k3]
 have H:=H.resolve_left k3;obtain ⟨r4,e4,I⟩:=q_7 (a:=a.kids) H.1 ha.kids
 simp only [bF_,fF_]
 rw [e4,bd_some]
 by_cases k4:r4<0
 .rw [dT_ k4];exact ⟨_,rfl,.inl (by omega)⟩
 rw [dF_ k4]
 have I:=I.resolve_left k4
 exact ⟨_,rfl,.inr ⟨I.1,⟨by unfold a_S at hl;omega,g1.2.1,G.2.1,H.2.1,I.2.1,G.2.2.1⟩,by
  have:=g1.2.2;have:=G.2.2.2;have:=H.2.2;have:=I.2.2
  unfold mR;omega⟩⟩
theorem v_1 {d:f_}{left:Int}(hl:a_S left)(hd:LnD d):∃r,g_J d left=some r/\(r<0∨(a_S r/\SmD d/\4 * r+mD d<=4 * left)):=by
 have hMX:=MXv;have hLEN:=LENv;have hr:=hd.rules;have hl':=hl;unfold a_S at hl'
 unfold g_J l_c
 rw [a_y (by omega) (by omega)]
 by_cases h:left - (d.rules.length:Int)<0
 .rw [dT_ h];exact ⟨_,rfl,.inl (by omega)⟩
 rw [dF_ h]
 simp only [bF_,fF_]
 rcases f_x (σ:=Int) (ρ:=Int) (body:=(λI=>(λJ=>bd (idx d.rules ((I:Nat):Int)) λL=>bd (g_I L J) λH=>if (decide<|H<0) then some (.ret (-1)) else some (.next H))))
   (λk s=>(a_S s/\s+(((d.rules.take k).map mR).sum:Nat)<=left - d.rules.length+4 * (k:Int)/\s<=left - d.rules.length)/\∀j (hj:j<d.rules.length),j<k->SmR d.rules[j]) (λr=>r<0) (n:=d.rules.length) (λk s hk hi=>by
    obtain ⟨r,e,g⟩:=v_0 hi.1.1<|hd.each _<|gE_ hk
    rw [ix_ hk,bd_some,e,bd_some]
    by_cases G:r<0
    .rw [dT_ G];exact .inr ⟨_,rfl,by omega⟩
    .rw [dF_ G]
     have g:=g.resolve_left G;have O:=g.2.2;have h4:4<=mR d.rules[k]:=by unfold mR;omega
     refine .inl ⟨_,rfl,⟨g.1,?_,by omega⟩,λj hj hjk=>?_⟩
     .rw [m_Z hk,List.map_append,List.sum_append]
      simp only [List.map_cons,List.map_nil,List.sum_cons,List.sum_nil]
      omega
     by_cases hjk':j<k
     .exact hi.2 j hj hjk'
     .have:j=k:=by omega
      subst this
      exact g.2.1) d.rules.length 0 (left - d.rules.length) (by omega) ⟨⟨by unfold a_S;omega,by simp,by omega⟩,λj _ h=>by omega⟩ with ⟨s,h1,h2⟩ | ⟨r,h1,h2⟩
 .rw [h1]
  simp only [bd_some,el_inl]
  obtain ⟨⟨h3,h4,h5⟩,h6⟩:=h2
  rw [List.take_length] at h4
  rw [dF_ (by have:=h3.1;omega)]
  exact ⟨s,rfl,.inr ⟨h3,⟨by omega,λr hr=>by
   obtain ⟨j,hj,rfl⟩:=List.getElem_of_mem hr
   exact h6 j hj hj⟩,by unfold mD;omega⟩⟩
 .rw [h1]
  simp only [bd_some,el_inr]
  rw [dT_ h2]
  exact ⟨_,rfl,.inl (by omega)⟩
theorem v_2 {l:List f_}{left:Int}(hl:a_S left)(hn:l.length<=LEN)(hd:∀d∈l,LnD d):∃r,j_9 l left=some r/\(r<0∨(a_S r/\l.length<=MX/\(∀d∈l,SmD d)/\4 * r+((l.map mD).sum:Nat)<=4 * left)):=by
 have hMX:=MXv;have hLEN:=LENv;have hl':=hl;unfold a_S at hl'
 unfold j_9
 rw [a_y (by omega) (by omega)]
 by_cases h:left - (l.length:Int)<0
 .rw [dT_ h];exact ⟨_,rfl,.inl (by omega)⟩
 rw [dF_ h]
 simp only [bF_,fF_]
 rcases f_x (σ:=Int) (ρ:=Int) (body:=(λJ=>(λL=>bd (idx l ((J:Nat):Int)) λI=>bd (g_J I L) λH=>if (decide<|H<0) then some (.ret (-1)) else some (.next H))))
   (λk s=>(a_S s/\4 * s+(((l.take k).map mD).sum:Nat)<=4 * (left - l.length))/\∀j (hj:j<l.length),j<k->SmD l[j]) (λr=>r<0) (n:=l.length) (λk s hk hi=>by
    obtain ⟨r,e,g⟩:=v_1 hi.1.1<|hd _<|gE_ hk
    rw [ix_ hk,bd_some,e,bd_some]
    by_cases G:r<0
    .rw [dT_ G];exact .inr ⟨_,rfl,by omega⟩
    .rw [dF_ G]
     have g:=g.resolve_left G;have O:=g.2.2;refine .inl ⟨_,rfl,⟨g.1,?_⟩,λj hj hjk=>?_⟩
     .rw [m_Z hk,List.map_append,List.sum_append]
      simp only [List.map_cons,List.map_nil,List.sum_cons,List.sum_nil]
      omega
     by_cases hjk':j<k
     .exact hi.2 j hj hjk'
     .have:j=k:=by omega
      subst this
      exact g.2.1) l.length 0 (left - l.length) (by omega) ⟨⟨by unfold a_S;omega,by simp⟩,λj _ h=>by omega⟩ with ⟨s,h1,h2⟩ | ⟨r,h1,h2⟩
 .rw [h1]
  obtain ⟨⟨h3,h4⟩,h6⟩:=h2
  rw [List.take_length] at h4
  exact ⟨s,rfl,.inr ⟨h3,by omega,λr hr=>by
   obtain ⟨j,hj,rfl⟩:=List.getElem_of_mem hr
   exact h6 j hj hj,by omega⟩⟩
 .rw [h1];exact ⟨r,rfl,.inl h2⟩
def mA (a:J_):Nat:=(a.registry.versions.map mD).sum+a.log.bytes.length
theorem v_3 {a:J_}(ha:LnA a):∃r,j_a a 1048576=some r/\(r<0∨(a_S r/\SmA a/\a.log.bytes.length<=MX/\mA a<=4194304)):=by
 have hMX:=MXv;have hML:=MLv;obtain ⟨G,H,g1⟩:=v_2 (l:=a.registry.versions) (left:=1048576) ⟨by omega,by omega⟩ ha.len ha.each;unfold j_a l_o l_p
 simp only
 rw [H,bd_some]
 by_cases h1:G<0
 .rw [dT_ h1];exact ⟨_,rfl,.inl (by omega)⟩
 have g1:=g1.resolve_left h1;obtain ⟨I,J,h⟩:=q_6 (a:=a.log.bytes) g1.1 ha.bytes
 rw [dF_ h1]
 simp only [bF_,fF_,bd_some]
 rw [dF_ h1]
 simp only [bF_,fF_,J,bd_some]
 by_cases h2:I<0
 .rw [dT_ h2];exact ⟨_,rfl,.inl (by omega)⟩
 have h:=h.resolve_left h2
 rw [dF_ h2]
 simp only [bF_,fF_,bd_some]
 rw [dF_ h2]
 exact ⟨_,rfl,.inr ⟨h.1,⟨g1.2.1,g1.2.2.1,by omega⟩,h.2.1,by
  have:=g1.2.2.2;have:=h.2.2
  unfold mA;omega⟩⟩
theorem v_4 {l:List f_}(hl:l.length<=MX)(hd:∀d∈l,SmD d):j_b l=some l:=by
 have:=MXv;have:=a_o;unfold j_b
 rw [f_H (by omega),bd_some,h_P _ (λk hk c hc=>by rw [ix_ hk,bd_some,t_x<|hd _<|gE_ hk,bd_some,c_a (by omega),bd_some])];rfl
theorem v_5 {a:J_}(ha:SmA a)(hb:a.log.bytes.length<=MX):f_g a=some a:=by
 unfold f_g l_q l_r
 simp only [v_4 ha.len ha.each,o_z hb,bd_some]
theorem v_6 (l:List f_):j_x l l=some true:=by
 unfold j_x
 rw [b_M (λ_=>()) (n:=l.length) (λj hj=>by rw [ix_ hj];simp only [bd_some,t_A,nT_,bF_,fF_])]
 simp
theorem v_7 (a:J_):j_y a a=some true:=by
 unfold j_y l_x l_y
 simp only [v_6,o_B,bd_some,bN_,nT_,bF_,fF_]
def i_1 (n:Nat)(a:J_)(k:Int):J_×Int :=
 (⟨⟨mkL (fD n) a.registry.versions k⟩,⟨(List.range a.log.bytes.length).map (λ(i:Nat)=>mkB<|mkK (fD n) a.registry.versions k+i),a.log.stored⟩⟩,mkK (fD n) a.registry.versions k+a.log.bytes.length)
theorem v_8 (n:Nat)(a:J_)(k:Int):(i_1 n a k).2=k+mA a:=by
 unfold i_1 mA
 rw [g_z _ mD (n_0 n)];simp only;omega
theorem v_9 {a:J_}(ha:SmA a){n:Nat}(hn:1100000<=n){k:Int}(h:0<=k)(hk:k+mA a<=1152921504606846976):j_B n a k=some ((i_1 n a k).2,(i_1 n a k).1.registry.versions,(i_1 n a k).1.log.bytes):=by
 have hMX:=MXv;have hML:=MLv;have hb:=ha.bytes;unfold mA at hk
 unfold j_B l_A l_z
 simp only
 rw [u_X ha.len ha.each (by omega) h (by omega)]
 simp only [bd2_some]
 have hx:=g_z _ mD (n_0 n) a.registry.versions k
 rw [o_E (by omega) (by omega) (by omega)]
 rfl
end Go.Vw
