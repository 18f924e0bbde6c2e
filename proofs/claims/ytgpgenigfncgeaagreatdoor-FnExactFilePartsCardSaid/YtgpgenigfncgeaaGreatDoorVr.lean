
import Derived.Test.YtgpgenigfncgeaaGreatDoorVq
import Derived.Test.YtgpgenigfncgeaaGreatDoorVp
import Derived.Test.YtgpgenigfncgeaaGreatDoorVd
namespace Go.Vw
open Go.RowKit Dat
theorem q_9 {P:r_->Prop}:∀(rs:List p_)(l:List r_),(∀f∈l,P f)->(∀r∈rs,r.kind=1->P (c_I r))->∀f∈rs.foldl b_V l,P f
 | [],_,h,_=>h
 | r::rs,l,h,hr=>by
  refine q_9 rs (b_V l r) ?_<|λx hx=>hr x<|mT_ _ hx;have G:=hr r mS_;intro f hf;unfold b_V at hf
  split at hf
  .split at hf
   .rename_i hk
    rcases List.mem_or_eq_of_mem_set hf with hf | rfl
    .exact h f hf
    .exact G hk
   .exact h f<|List.mem_of_mem_eraseIdx hf
  .split at hf
   .rename_i hk
    rcases List.mem_append.1 hf with hf | hf
    .exact h f hf
    .rw [List.mem_singleton] at hf;subst hf;exact G hk
   .exact h f hf
theorem v_e {a:J_}(h:c_m a=true):∀f∈c_k a.log.bytes,f.version.toNat<a.registry.versions.length:=by
 unfold c_m at h
 simp only [aE_,Bool.not_eq_true',List.any_eq_false] at h
 refine q_9 _ _ (λf hf=>by cases hf)<|λr hr hk=>?_;have h1:=h.2.2.2 r hr;unfold f_0 at h1
 rw [hk] at h1
 simp only [bQ_,Bool.true_and] at h1
 show r.version.toNat<a.registry.versions.length
 rcases Nat.lt_or_ge r.version.toNat a.registry.versions.length with hlt | hge
 .exact hlt
 .rw [gN_ hge] at h1;exact absurd rfl h1
theorem v_f {a:J_}:∀f∈b_A a,f.version.toNat<a.registry.versions.length:=by
 unfold b_A
 split
 .rename_i h;exact v_e h
 .intro f hf;cases hf
def verD (a:J_)(f:r_):f_:=a.registry.versions.getD f.version.toNat ⟨[]⟩
theorem q_a {a:J_}(h:SmA a){f:r_}(hf:f∈b_A a):idx a.registry.versions f.version=some (verD a f)/\SmD (verD a f):=by
 have h1:=v_f f hf;have h2:=(v_d a f hf).2.1;unfold verD
 rw [f_F h2 h1]
 have e:a.registry.versions.getD f.version.toNat ⟨[]⟩=a.registry.versions[f.version.toNat]:=by
  rw [gD_,gG_ h1];rfl
 rw [e]
 exact ⟨rfl,h.each _<|gE_ h1⟩
theorem v_g {a:J_}(h:SmA a):∃l:List r_,(if c_z a.log then c_k a.log.bytes else [])=l/\(c_m a=true->l.length<=20/\l=b_A a)/\l.length<=ML:=by
 have hfl:=u_U h.bytes;refine ⟨_,rfl,λh=>?_,?_⟩
 .rw [iP_ (p_Z h)];exact ⟨v_b h,by unfold b_A;rw [iP_ h]⟩
 .split
  .exact hfl
  .simp
theorem v_h {a:J_}(h:c_m a=false):b_A a=[]:=by unfold b_A;rw [h];rfl
def f_E (a:J_)(nm p:Str):List l_:=match (b_A a).find? (λf=>f.name.b==nm.b) with
 | some f=>e_5 (verD a f) f.data p
 | none=>[]
theorem q_b {α:Type}(l:List α)(q:α->Bool):match l.findIdx? q with | some k=>∃hk:k<l.length,l.find? q=some l[k] | none=>l.find? q=none:=by
 cases h:l.findIdx? q with
 | none=>rw [List.findIdx?_eq_none_iff] at h;exact List.find?_eq_none.2 (λx hx=>by simp [h x hx])
 | some k =>
  obtain ⟨hk,h1,h2⟩:=List.findIdx?_eq_some_iff_getElem.1 h;exact ⟨hk,List.find?_eq_some_iff_getElem.2 ⟨h1,k,hk,rfl,λj hj=>by simpa using h2 j hj⟩⟩
theorem v_i (a:J_)(nm p:Str):(f_E a nm p).length<=10000:=by
 unfold f_E
 split
 .exact u_3 _
 .simp
theorem v_j {a:J_}(h:SmA a)(nm:Str){p:Str}(hp:p.b.length<=MX){n:Nat}(hn:1060100<=n):g_F n a nm p=some (f_E a nm p):=by
 unfold g_F f_E
 rw [u_S h hn,bd_some]
 rw [f_3 (λk=>if hk:k<(b_A a).length then (b_A a)[k].name.b==nm.b else false) (λk=>match (b_A a)[k]? with | some f=>e_5 (verD a f) f.data p | none=>[]) (λk hk _=>by
  obtain ⟨h1,h2⟩:=q_a h<|gE_ hk
  rw [ix_ hk,bd_some,dif_pos hk,h1,bd_some,u_2 (by omega) h2 hp,bd_some,gG_ hk]
  cases ((b_A a)[k].name.b==nm.b) <;> rfl)]
 rw [m_V (b_A a) (λf=>f.name.b==nm.b) _ (λk hk=>by rw [dif_pos hk])]
 have:=q_b (b_A a)<|λf=>f.name.b==nm.b
 cases hf:(b_A a).findIdx? (λf=>f.name.b==nm.b) with
 | none=>rw [hf] at this;simp only at this;rw [this];rfl
 | some k=>rw [hf] at this;obtain ⟨hk,e⟩:=this;rw [e];simp only [bd_some,el_inr,gG_ hk]
theorem v_k {a:J_}(h:SmA a)(nm:Str){p:Str}(hp:p.b.length<=MX){n:Nat}(hn:1060100<=n):i_3 n a nm p=some (f_E a nm p):=by
 unfold i_3 f_E
 rw [u_T h hn,bd_some,u_R h hn]
 obtain ⟨l,hle,G,H⟩:=v_g h
 rw [hle,v_a,bd_some,bd_some]
 cases ha:c_m a with
 | false=>rw [v_h ha];rfl
 | true =>
  obtain ⟨hl,rfl⟩:=G ha;have:=q_b (b_A a)<|λf=>f.name.b==nm.b;unfold n_4
  cases hf:(b_A a).findIdx? (λf=>f.name.b==nm.b) with
  | none=>rw [hf] at this;simp only at this;rw [this];rfl
  | some k =>
   rw [hf] at this;obtain ⟨hk,e⟩:=this;rw [e]
   obtain ⟨h1,h2⟩:=q_a h<|gE_ hk
   simp only [nT_,bF_,fF_,bd_some]
   rw [dF_ (by omega)]
   simp only [bF_,fF_]
   rw [ix_ hk,bd_some,h1,bd_some,bd_some,u_1 (by omega) h2 hp,bd_some]
theorem v_l {n:Nat}(hn:4000000<=n){a:J_}{name pattern:Str}(ha:LnA a)(hq:name.b.length<=LEN)(hp:pattern.b.length<=LEN):i_4 n a name pattern=some true:=by
 have hMX:=MXv;unfold i_4
 by_cases h1:(1048576:Int)<(name.b.length:Int)
 .rw [dT_ h1];rfl
 rw [dF_ h1]
 simp only [bF_,fF_]
 by_cases h3:(1048576:Int)<(pattern.b.length:Int)
 .rw [dT_ h3];rfl
 rw [dF_ h3]
 obtain ⟨r,hr,h⟩:=v_3 ha
 simp only [bF_,fF_]
 rw [hr,bd_some]
 by_cases h2:r<0
 .rw [dT_ h2];rfl
 rw [dF_ h2]
 obtain ⟨_,hs,hb,hm⟩:=h.resolve_left h2;have hpm:pattern.b.length<=MX:=by omega
 simp only [bF_,fF_,v_5 hs hb,bd_some,v_k hs name hpm (show 1060100<=n by omega),v_j hs name hpm (show 1060100<=n by omega),v_7,t_D,nT_]
 have hu:=v_i a name pattern;generalize f_E a name pattern=u at *
 have hx:=v_8 n a 1
 rw [v_9 hs (by omega) (by omega) (by omega)]
 simp only [bd3_some]
 rw [dF_ (by omega)]
 simp only [bF_,fF_,bd_some]
 rw [t_F (by omega) (by omega) (by omega) (by omega)]
 simp only [bd2_some]
 rw [t_G (by omega) (by omega) (by omega)]
 simp only [bd_some]
 rw [dF_ (show ¬1+4 * (u.length:Int)<0 by omega)]
 simp only [bF_,fF_,bN_]
end Go.Vw
