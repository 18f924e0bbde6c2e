
import Derived.Test.YtajhmimbhplkfaaGreatDoorVn
namespace Go.Vw
open Go.RowKit Dat
structure LnA (a:L_):Prop where
 len:a.registry.versions.length<=LEN
 each:∀d∈a.registry.versions,LnD d
 bytes:a.log.bytes.length<=LEN
theorem p_4 {a:List UInt8}{left:Int}(hl:a_P left)(ha:a.length<=LEN):∃r,h_K a left=some r/\(r<0∨(a_P r/\a.length<=MX/\r+a.length<=left)):=by
 have:=MXv;refine ⟨_,n_D a hl ha,?_⟩;unfold a_P at *
 split <;> omega
theorem p_5 {a:List Int}{left:Int}(hl:a_P left)(ha:a.length<=LEN):∃r,h_M a left=some r/\(r<0∨(a_P r/\a.length<=MX/\r+a.length<=left)):=by
 have:=MXv;refine ⟨_,n_D a hl ha,?_⟩;unfold a_P at *
 split <;> omega
theorem t_t {a:List Str}{left:Int}(hl:a_P left)(ha:a.length<=LEN)(he:∀s∈a,s.b.length<=LEN):∃r,h_L a left=some r/\(r<0∨(a_P r/\a.length<=MX/\(∀s∈a,s.b.length<=MX)/\r+a.length<=left)):=by
 have hMX:=MXv;have hLEN:=LENv;unfold h_L;unfold a_P at *
 rw [a_x (by omega) (by omega)]
 by_cases h:left<a.length
 ·rw [dT_ (by omega)];exact ⟨_,rfl,.inl (by omega)⟩
 ·rw [dF_ (by omega)]
  simp only [bF_,fF_]
  rcases f_m (σ:=Int) (ρ:=Int) (body:=(fun J=>(fun G=>bd (idx a ((J:Nat):Int)) fun H=>if (decide<|(x_ G (H.b.length:Int))<0)=true then some (.ret (-1)) else some (.next<|x_ G (H.b.length:Int)))))
   (fun k s=>(0<=s/\s<=left - a.length)/\∀j (hj:j<a.length),j<k->a[j].b.length<=MX) (fun r=>r<0) (n:=a.length) (fun k s hk hi=>by
    have hx:=he _<|gE_ hk
    rw [ix_ hk,bd_some,a_x (by omega) (by omega)]
    by_cases I:s - (a[k].b.length:Int)<0
    ·rw [dT_ I];exact .inr ⟨_,rfl,by omega⟩
    ·rw [dF_ I]
     refine .inl ⟨_,rfl,by omega,fun j hj hjk=>?_⟩
     by_cases hjk':j<k
     ·exact hi.2 j hj hjk'
     ·have:j=k:=by omega
      subst this
      omega) a.length 0 (left - a.length) (by omega) ⟨by omega,fun j _ h=>by omega⟩ with ⟨s,h1,h2⟩ | ⟨r,h1,h2⟩
  ·rw [h1]
   exact ⟨s,rfl,.inr ⟨by omega,by omega,fun t ht=>by
    obtain ⟨j,hj,rfl⟩:=List.getElem_of_mem ht
    exact h2.2 j hj hj,by omega⟩⟩
  ·rw [h1];exact ⟨r,rfl,.inl h2⟩
theorem t_u {a:g_}{left:Int}(hl:a_P left)(ha:LnR a):∃r,g_w a left=some r/\(r<0∨(a_P r/\SmR a/\r+mR a<=left+4)):=by
 have hMX:=MXv;have hLEN:=LENv;have hn:=ha.name;unfold g_w
 rw [a_x (by unfold a_P at hl;omega) (by unfold a_P at hl;omega)]
 by_cases h:left - (a.name.b.length:Int)<0
 ·rw [dT_ h];exact ⟨_,rfl,.inl (by omega)⟩
 rw [dF_ h]
 have J:a_P (left - (a.name.b.length:Int)):=by unfold a_P at *;omega
 obtain ⟨L,O,g1⟩:=p_4 (a:=a.bytes) J ha.bytes
 simp only [bF_,fF_]
 rw [O,bd_some]
 by_cases k1:L<0
 ·rw [dT_ k1];exact ⟨_,rfl,.inl (by omega)⟩
 rw [dF_ k1]
 have g1:=g1.resolve_left k1;obtain ⟨V,W,G⟩:=t_t (a:=a.names) g1.1 ha.names ha.each
 simp only [bF_,fF_]
 rw [W,bd_some]
 by_cases k2:V<0
 ·rw [dT_ k2];exact ⟨_,rfl,.inl (by omega)⟩
 rw [dF_ k2]
 have G:=G.resolve_left k2;obtain ⟨Y,e3,H⟩:=p_5 (a:=a.tags) G.1 ha.tags
 simp only [bF_,fF_]
 rw [e3,bd_some]
 by_cases k3:Y<0
 ·rw [dT_ k3];exact ⟨_,rfl,.inl (by omega)⟩
 rw [dF_ k3]
 have H:=H.resolve_left k3;obtain ⟨r4,e4,I⟩:=p_5 (a:=a.kids) H.1 ha.kids
 simp only [bF_,fF_]
 rw [e4,bd_some]
 by_cases k4:r4<0
 ·rw [dT_ k4];exact ⟨_,rfl,.inl (by omega)⟩
 rw [dF_ k4]
 have I:=I.resolve_left k4
 exact ⟨_,rfl,.inr ⟨I.1,⟨by unfold a_P at hl;omega,g1.2.1,G.2.1,H.2.1,I.2.1,G.2.2.1⟩,by
  have:=g1.2.2;have:=G.2.2.2;have:=H.2.2;have:=I.2.2
  unfold mR;omega⟩⟩
theorem t_v {d:e_}{left:Int}(hl:a_P left)(hd:LnD d):∃r,g_x d left=some r/\(r<0∨(a_P r/\SmD d/\4 * r+mD d<=4 * left)):=by
 have hMX:=MXv;have hLEN:=LENv;have hr:=hd.rules;have hl':=hl;unfold a_P at hl'
 unfold g_x k_L
 rw [a_x (by omega) (by omega)]
 by_cases h:left - (d.rules.length:Int)<0
 ·rw [dT_ h];exact ⟨_,rfl,.inl (by omega)⟩
 rw [dF_ h]
 simp only [bF_,fF_]
 rcases f_m (σ:=Int) (ρ:=Int) (body:=(fun I=>(fun J=>bd (idx d.rules ((I:Nat):Int)) fun L=>bd (g_w L J) fun H=>if (decide<|H<0)=true then some (.ret (-1)) else some (.next H))))
   (fun k s=>(a_P s/\s+(((d.rules.take k).map mR).sum:Nat)<=left - d.rules.length+4 * (k:Int)/\s<=left - d.rules.length)/\∀j (hj:j<d.rules.length),j<k->SmR d.rules[j]) (fun r=>r<0) (n:=d.rules.length) (fun k s hk hi=>by
    obtain ⟨r,e,g⟩:=t_u hi.1.1<|hd.each _<|gE_ hk
    rw [ix_ hk,bd_some,e,bd_some]
    by_cases G:r<0
    ·rw [dT_ G];exact .inr ⟨_,rfl,by omega⟩
    ·rw [dF_ G]
     have g:=g.resolve_left G;have O:=g.2.2;have h4:4<=mR d.rules[k]:=by unfold mR;omega
     refine .inl ⟨_,rfl,⟨g.1,?_,by omega⟩,fun j hj hjk=>?_⟩
     ·rw [l_W hk,List.map_append,List.sum_append]
      simp only [List.map_cons,List.map_nil,List.sum_cons,List.sum_nil]
      omega
     by_cases hjk':j<k
     ·exact hi.2 j hj hjk'
     ·have:j=k:=by omega
      subst this
      exact g.2.1) d.rules.length 0 (left - d.rules.length) (by omega) ⟨⟨by unfold a_P;omega,by simp,by omega⟩,fun j _ h=>by omega⟩ with ⟨s,h1,h2⟩ | ⟨r,h1,h2⟩
 ·rw [h1]
  simp only [bd_some,el_inl]
  obtain ⟨⟨h3,h4,h5⟩,h6⟩:=h2
  rw [List.take_length] at h4
  rw [dF_ (by have:=h3.1;omega)]
  exact ⟨s,rfl,.inr ⟨h3,⟨by omega,fun r hr=>by
   obtain ⟨j,hj,rfl⟩:=List.getElem_of_mem hr
   exact h6 j hj hj⟩,by unfold mD;omega⟩⟩
 ·rw [h1]
  simp only [bd_some,el_inr]
  rw [dT_ h2]
  exact ⟨_,rfl,.inl (by omega)⟩
theorem t_w {l:List e_}{left:Int}(hl:a_P left)(hn:l.length<=LEN)(hd:∀d∈l,LnD d):∃r,i_L l left=some r/\(r<0∨(a_P r/\l.length<=MX/\(∀d∈l,SmD d)/\4 * r+((l.map mD).sum:Nat)<=4 * left)):=by
 have hMX:=MXv;have hLEN:=LENv;have hl':=hl;unfold a_P at hl'
 unfold i_L
 rw [a_x (by omega) (by omega)]
 by_cases h:left - (l.length:Int)<0
 ·rw [dT_ h];exact ⟨_,rfl,.inl (by omega)⟩
 rw [dF_ h]
 simp only [bF_,fF_]
 rcases f_m (σ:=Int) (ρ:=Int) (body:=(fun J=>(fun L=>bd (idx l ((J:Nat):Int)) fun I=>bd (g_x I L) fun H=>if (decide<|H<0)=true then some (.ret (-1)) else some (.next H))))
   (fun k s=>(a_P s/\4 * s+(((l.take k).map mD).sum:Nat)<=4 * (left - l.length))/\∀j (hj:j<l.length),j<k->SmD l[j]) (fun r=>r<0) (n:=l.length) (fun k s hk hi=>by
    obtain ⟨r,e,g⟩:=t_v hi.1.1<|hd _<|gE_ hk
    rw [ix_ hk,bd_some,e,bd_some]
    by_cases G:r<0
    ·rw [dT_ G];exact .inr ⟨_,rfl,by omega⟩
    ·rw [dF_ G]
     have g:=g.resolve_left G;have O:=g.2.2;refine .inl ⟨_,rfl,⟨g.1,?_⟩,fun j hj hjk=>?_⟩
     ·rw [l_W hk,List.map_append,List.sum_append]
      simp only [List.map_cons,List.map_nil,List.sum_cons,List.sum_nil]
      omega
     by_cases hjk':j<k
     ·exact hi.2 j hj hjk'
     ·have:j=k:=by omega
      subst this
      exact g.2.1) l.length 0 (left - l.length) (by omega) ⟨⟨by unfold a_P;omega,by simp⟩,fun j _ h=>by omega⟩ with ⟨s,h1,h2⟩ | ⟨r,h1,h2⟩
 ·rw [h1]
  obtain ⟨⟨h3,h4⟩,h6⟩:=h2
  rw [List.take_length] at h4
  exact ⟨s,rfl,.inr ⟨h3,by omega,fun r hr=>by
   obtain ⟨j,hj,rfl⟩:=List.getElem_of_mem hr
   exact h6 j hj hj,by omega⟩⟩
 ·rw [h1];exact ⟨r,rfl,.inl h2⟩
def mA (a:L_):Nat:=(a.registry.versions.map mD).sum+a.log.bytes.length
theorem t_x {a:L_}(ha:LnA a):∃r,i_M a 1048576=some r/\(r<0∨(a_P r/\SmA a/\a.log.bytes.length<=MX/\mA a<=4194304)):=by
 have hMX:=MXv;have hML:=MLv;obtain ⟨G,H,g1⟩:=t_w (l:=a.registry.versions) (left:=1048576) ⟨by omega,by omega⟩ ha.len ha.each;unfold i_M k_X k_Y
 simp only
 rw [H,bd_some]
 by_cases h1:G<0
 ·rw [dT_ h1];exact ⟨_,rfl,.inl (by omega)⟩
 have g1:=g1.resolve_left h1;obtain ⟨I,J,h⟩:=p_4 (a:=a.log.bytes) g1.1 ha.bytes
 rw [dF_ h1]
 simp only [bF_,fF_,bd_some]
 rw [dF_ h1]
 simp only [bF_,fF_,J,bd_some]
 by_cases h2:I<0
 ·rw [dT_ h2];exact ⟨_,rfl,.inl (by omega)⟩
 have h:=h.resolve_left h2
 rw [dF_ h2]
 simp only [bF_,fF_,bd_some]
 rw [dF_ h2]
 exact ⟨_,rfl,.inr ⟨h.1,⟨g1.2.1,g1.2.2.1,by omega⟩,h.2.1,by
  have:=g1.2.2.2;have:=h.2.2
  unfold mA;omega⟩⟩
theorem t_y {l:List e_}(hl:l.length<=MX)(hd:∀d∈l,SmD d):i_N l=some l:=by
 have:=MXv;have:=a_u;unfold i_N
 rw [f_w (by omega),bd_some,h_q _ (fun k hk c hc=>by rw [ix_ hk,bd_some,s_9<|hd _<|gE_ hk,bd_some,d_P (by omega),bd_some])];rfl
theorem t_z {a:L_}(ha:SmA a)(hb:a.log.bytes.length<=MX):f_N a=some a:=by
 unfold f_N k_Z l_0
 simp only [t_y ha.len ha.each,n_E hb,bd_some]
theorem t_A (l:List e_):j_9 l l=some true:=by
 unfold j_9
 rw [b_T (fun _=>()) (n:=l.length) (fun j hj=>by rw [ix_ hj];simp only [bd_some,s_c,nT_,bF_,fF_])]
 simp
theorem t_B (a:L_):j_a a a=some true:=by
 unfold j_a l_6 l_7
 simp only [t_A,n_G,bd_some,bN_,nT_,bF_,fF_]
end Go.Vw
