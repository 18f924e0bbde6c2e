
import Derived.Test.YtajhmimbhplkfaaGreatDoorVp
import Derived.Test.YtajhmimbhplkfaaGreatDoorVd
namespace Go.Vw
open Go.RowKit Dat
theorem p_8 {P:q_->Prop}:∀(rs:List o_)(l:List q_),(∀f∈l,P f)->(∀r∈rs,r.kind=1->P (c_C r))->∀f∈rs.foldl b_Q l,P f
 | [],_,h,_=>h
 | r::rs,l,h,hr=>by
  refine p_8 rs (b_Q l r) ?_<|fun x hx=>hr x<|mT_ _ hx;have G:=hr r mS_;intro f hf;unfold b_Q at hf
  split at hf
  ·split at hf
   ·rename_i hk
    rcases List.mem_or_eq_of_mem_set hf with hf | rfl
    ·exact h f hf
    ·exact G hk
   ·exact h f<|List.mem_of_mem_eraseIdx hf
  ·split at hf
   ·rename_i hk
    rcases List.mem_append.1 hf with hf | hf
    ·exact h f hf
    ·rw [List.mem_singleton] at hf;subst hf;exact G hk
   ·exact h f hf
theorem t_F {a:L_}(h:c_g a=true):∀f∈c_e a.log.bytes,f.version.toNat<a.registry.versions.length:=by
 unfold c_g at h
 simp only [aE_,Bool.not_eq_true',List.any_eq_false] at h
 refine p_8 _ _ (fun f hf=>by cases hf)<|fun r hr hk=>?_;have h1:=h.2.2.2 r hr;unfold e_N at h1
 rw [hk] at h1
 simp only [bQ_,Bool.true_and] at h1
 show r.version.toNat<a.registry.versions.length
 rcases Nat.lt_or_ge r.version.toNat a.registry.versions.length with hlt | hge
 ·exact hlt
 ·rw [gN_ hge] at h1;exact absurd rfl h1
theorem t_G {a:L_}:∀f∈b_2 a,f.version.toNat<a.registry.versions.length:=by
 unfold b_2
 split
 ·rename_i h;exact t_F h
 ·intro f hf;cases hf
def e_P (a:L_)(f:q_):e_:=a.registry.versions.getD f.version.toNat ⟨[]⟩
theorem p_9 {a:L_}(h:SmA a){f:q_}(hf:f∈b_2 a):idx a.registry.versions f.version=some (e_P a f)/\SmD (e_P a f):=by
 have h1:=t_G f hf;have h2:=(t_E a f hf).2.1;unfold e_P
 rw [f_v h2 h1]
 have e:a.registry.versions.getD f.version.toNat ⟨[]⟩=a.registry.versions[f.version.toNat]:=by
  rw [gD_,gG_ h1];rfl
 rw [e]
 exact ⟨rfl,h.each _<|gE_ h1⟩
theorem t_H {a:L_}(h:SmA a):∃l:List q_,(if c_t a.log=true then c_e a.log.bytes else [])=l/\(c_g a=true->l.length<=20/\l=b_2 a)/\l.length<=ML:=by
 have hfl:=t_r h.bytes;refine ⟨_,rfl,fun h=>?_,?_⟩
 ·rw [iP_ (p_2 h)];exact ⟨p_6 h,by unfold b_2;rw [iP_ h]⟩
 ·split
  ·exact hfl
  ·simp
theorem t_I {a:L_}(h:c_g a=false):b_2 a=[]:=by unfold b_2;rw [h];rfl
def c_E (a:L_)(p:Str)(x:Int)(f:q_):Int:=x+e_c (e_P a f) f.data p
def k_g (a:L_)(p:Str):Int:=(b_2 a).foldl (c_E a p) 0
theorem m_0 (d:e_)(b:List UInt8)(p:Str):0<=e_c d b p/\e_c d b p<=42949672960000:=by
 have h:=o_h (d:=d) (b:=b) (l:=b_1 d b p)<|fun e he=>j_Z he;have h1:=o_g (d:=d) (b:=b) p;unfold e_c
 omega
theorem p_a (a:L_)(p:Str):∀(l:List q_)(x:Int),0<=x->0<=l.foldl (c_E a p) x/\l.foldl (c_E a p) x<=x+42949672960000 * l.length
 | [],x,h=>by simpa using h
 | f::l,x,h=>by
  have h1:=m_0 (e_P a f) f.data p;have h2:=p_a a p l (c_E a p x f) (by unfold c_E;omega)
  rw [List.foldl_cons,lC_]
  unfold c_E at h2 ⊢
  omega
theorem p_b (a:L_)(p:Str){l:List q_}(hl:l.length<=20)(k:Nat):0<=(l.take k).foldl (c_E a p) 0/\(l.take k).foldl (c_E a p) 0<=858993459200000:=by
 have h:=p_a a p (l.take k) 0<|Int.le_refl 0
 rw [List.length_take] at h
 omega
theorem p_c (a:L_)(p:Str){l:List q_}{k:Nat}(hk:k<l.length):(l.take<|k+1).foldl (c_E a p) 0=(l.take k).foldl (c_E a p) 0+e_c (e_P a l[k]) l[k].data p:=by
 rw [l_W hk,List.foldl_append];rfl
theorem t_J {a:L_}(h:SmA a){p:Str}(hp:p.b.length<=MX){n:Nat}(hn:1060100<=n):h_E n a p=some (k_g a p):=by
 unfold h_E k_g
 rw [t_p h hn,bd_some]
 have hl:=t_C a
 refine (congrArg (fun z=>bd z _) (e_F (fun k=>((b_2 a).take k).foldl (c_E a p) 0) (n:=(b_2 a).length) rfl (fun k hk=>by
  obtain ⟨h1,h2⟩:=p_9 h<|gE_ hk;have h3:=p_b a p hl k;have h4:=m_0 (e_P a (b_2 a)[k]) (b_2 a)[k].data p
  rw [ix_ hk,bd_some,h1,bd_some,s_z (by omega) h2 hp,bd_some,p_c a p hk,ia_ (by omega) (by omega)]))).trans ?_
 rw [bd_some,el_inl,List.take_length]
theorem t_K {a:L_}(h:SmA a){p:Str}(hp:p.b.length<=MX){n:Nat}(hn:1060100<=n):h_D n a p=some (k_g a p):=by
 have hML:=MLv;unfold h_D
 rw [t_q h hn,bd_some,t_o h hn]
 obtain ⟨l,hle,H,I⟩:=t_H h
 rw [hle]
 cases ha:c_g a with
 | false =>
  obtain ⟨m,rfl⟩:∃m,n=m+1:=⟨n - 1,by omega⟩;unfold k_g O_
  rw [t_I ha]
  simp only [un2,bd_some]
  by_cases G:(0:Int)<(l.length:Int)
  ·rw [dT_ G];rfl
  ·rw [dF_ G];rfl
 | true =>
  obtain ⟨hl,rfl⟩:=H ha
  refine (congrArg (fun z=>bd z _) (g_n (fun k=>(((b_2 a).take k).foldl (c_E a p) 0,(k:Int))) (s:=((b_2 a).foldl (c_E a p) 0,((b_2 a).length:Int))) (m:=n) (j0:=(b_2 a).length) (by omega) (fun k hk=>by
   obtain ⟨h1,h2⟩:=p_9 h<|gE_ hk;have h3:=p_b a p hl k;have h4:=m_0 (e_P a (b_2 a)[k]) (b_2 a)[k].data p
   simp only [un2]
   rw [dT_ (show (k:Int)<((b_2 a).length:Int) by omega),iP_ rfl,bd_some,bd_some,iP_ rfl,ix_ hk,bd_some,h1,bd_some,bd_some,s_y (by omega) h2 hp,bd_some,p_c a p hk,ia_ (by omega) (by omega),ia_ (by omega) (by omega)]
   rfl) (by
   simp only [un2]
   rw [dF_ (by omega),List.take_length];rfl))).trans ?_
  rfl
theorem t_L {n:Nat}(hn:4000000<=n){a:L_}{pattern:Str}(ha:LnA a)(hp:pattern.b.length<=LEN):h_F n a pattern=some true:=by
 have hMX:=MXv;unfold h_F
 by_cases h3:(1048576:Int)<(pattern.b.length:Int)
 ·rw [dT_ h3];rfl
 rw [dF_ h3]
 obtain ⟨r,hr,h⟩:=t_x ha
 simp only [bF_,fF_]
 rw [hr,bd_some]
 by_cases h2:r<0
 ·rw [dT_ h2];rfl
 rw [dF_ h2]
 obtain ⟨_,hs,hb,hm⟩:=h.resolve_left h2;have hpm:pattern.b.length<=MX:=by omega
 simp only [bF_,fF_,t_z hs hb,bd_some,t_K hs hpm (show 1060100<=n by omega),t_J hs hpm (show 1060100<=n by omega),t_B,nT_,bN_]
end Go.Vw
