
import Derived.Test.YtdgimlkkidpmmaaGreatDoorVt
import Derived.Test.YtdgimlkkidpmmaaGreatDoorV6
namespace Go.Vw
open Go.RowKit Dat
theorem t_H {d:c_}{b:Bt}(hd:SmD d){n:Nat}(hn:500<=n):j_u n d b=some (okF d b):=by
 unfold j_u okF
 rw [u_l hd hn];rfl
structure SmA (a:n_):Prop where
 len:a.registry.versions.length<=MX
 each:∀d∈a.registry.versions,SmD d
 bytes:a.log.bytes.length<=ML
def d_d (r:D_):Bool:=decide (r.versions.length<=8) && !(r.versions.any λd=>!a_b d)
theorem t_I {r:D_}(h:∀d∈r.versions,SmD d){n:Nat}(hn:14<=n):j_z n r=some (d_d r):=by
 unfold j_z d_d
 by_cases hl:r.versions.length<=8
 .rw [dF_ (by omega),iN_ (by simp),dT_ hl,Bool.true_and]
  rw [d_U (λd=>!a_b d) false (λk hk=>by
   rw [ix_ hk,bd_some,o_p n hn _<|h _<|gE_ hk,bd_some]
   cases a_b r.versions[k] <;> rfl),bd_some]
  cases r.versions.any λd=>!a_b d <;> rfl
 .rw [dT_ (by omega),iP_ rfl,dF_ hl];rfl
theorem t_J {r:D_}(h:∀d∈r.versions,SmD d):j_y r=some (d_d r):=by
 unfold j_y d_d
 rw [d_U (λd=>!a_b d) false (λk hk=>by
   rw [ix_ hk,bd_some,m_d _<|h _<|gE_ hk,bd_some]
   cases a_b r.versions[k] <;> rfl),bd_some]
 cases r.versions.any λd=>!a_b d
 .simp only [bF_,fF_,el_inl,Bool.not_false,Bool.and_true]
  congr 1;rw [decide_eq_decide];omega
 .simp
def c_C (a:n_)(r:m_):Bool:=r.kind==1 && match a.registry.versions[r.version.toNat]? with
 | some d=>!okF d r.data
 | none=>true
def b_6 (a:n_):Bool:=d_d a.registry && (a_q a.log && (decide ((b_T a.log.bytes).length<=20) && !((G_ a.log.bytes).1.any (c_C a))))
theorem p_l {a:n_}(h:SmA a){n:Nat}(hn:1060100<=n):g_A n a=some (b_6 a):=by
 have hb:=h.bytes;unfold g_A b_6
 rw [t_I (r:=⟨a.registry.versions⟩) h.each (by omega),bd_some,m_S (l:=⟨a.log.bytes,a.log.stored⟩) hb hn,t_F hb hn,m_Q hb hn]
 cases d_d a.registry with
 | false=>rfl
 | true =>
  simp only [nT_,bF_,fF_,bd_some,Bool.true_and]
  cases a_q a.log with
  | false=>rfl
  | true =>
   simp only [nT_,bF_,fF_,bd_some,Bool.true_and]
   by_cases hl:(b_T a.log.bytes).length<=20
   .rw [dF_ (by omega),iN_ (by simp),bd2_some,dT_ hl,Bool.true_and]
    have hle:=i_M _ _<|Nat.le_refl a.log.bytes.length;generalize (G_ a.log.bytes).1=rs at hle
    rw [d_U (c_C a) false (λk hk=>by
     have hv:=e_X<|hle.2.2 _<|gE_ hk
     rw [ix_ hk,bd_some]
     unfold c_C l_1;generalize rs[k]=r at hv
     cases G:r.kind==1 with
     | false=>rfl
     | true =>
      simp only [fT_,Bool.true_and]
      rw [dT_ (show 0<=r.version by omega),iP_ rfl,bd_some,bd_some]
      by_cases hlt:r.version.toNat<a.registry.versions.length
      .rw [dT_ (show r.version<(a.registry.versions.length:Int) by omega),iN_ (by simp),d_T (by omega) hlt,bd_some,t_H (h.each _<|gE_ hlt) (by omega),bd_some,bd_some,gG_ hlt]
       exact d_o _ _
      .rw [dF_ (show ¬r.version<(a.registry.versions.length:Int) by omega),gN_ (by omega)];rfl),bd_some]
    cases rs.any (c_C a) <;> rfl
   .rw [dT_ (by omega),iP_ rfl,dF_ hl];rfl
theorem k_D {a:n_}(h:SmA a){n:Nat}(hn:1060100<=n):g_w n a=some (b_6 a):=by
 have hb:=h.bytes;unfold g_w b_6
 rw [t_J (r:=⟨a.registry.versions⟩) h.each,bd_some,k_C (l:=⟨a.log.bytes,a.log.stored⟩) hb hn,p_k hb hn,k_B hb hn]
 cases d_d a.registry with
 | false=>rfl
 | true =>
  simp only [nT_,bF_,fF_,bd_some,Bool.true_and]
  cases a_q a.log with
  | false=>rfl
  | true =>
   simp only [nT_,bF_,fF_,bd_some,Bool.true_and]
   by_cases hl:(b_T a.log.bytes).length<=20
   .rw [dF_ (by omega),iN_ (by simp),bd2_some,dT_ hl,Bool.true_and]
    have hle:=i_M _ _<|Nat.le_refl a.log.bytes.length;generalize (G_ a.log.bytes).1=rs at hle
    rw [d_U (c_C a) false (λk hk=>by
     have hv:=e_X<|hle.2.2 _<|gE_ hk
     rw [ix_ hk]
     simp only [bd_some]
     unfold c_C;generalize rs[k]=r at hv
     cases G:r.kind==1 with
     | false=>rfl
     | true =>
      simp only [fT_,Bool.true_and]
      by_cases hlt:r.version.toNat<a.registry.versions.length
      .rw [dF_ (show ¬(a.registry.versions.length:Int)<=r.version by omega),iN_ (by simp),d_T (by omega) hlt,bd_some,s_m (h.each _<|gE_ hlt) (by omega),bd_some,bd_some,gG_ hlt]
       exact d_o _ _
      .rw [dT_ (show (a.registry.versions.length:Int)<=r.version by omega),gN_ (by omega)];rfl),bd_some]
    cases rs.any (c_C a) <;> rfl
   .rw [dT_ (by omega),iP_ rfl,dF_ hl];rfl
theorem p_m {a:n_}(h:b_6 a=true):a_q a.log=true:=by
 unfold b_6 at h
 simp only [aE_] at h
 exact h.2.1
theorem k_E {a:n_}(h:SmA a){n:Nat}(hn:1060100<=n):h_U n a=some (if a_q a.log then b_T a.log.bytes else []):=by
 unfold h_U
 rw [k_C (l:=⟨a.log.bytes,a.log.stored⟩) h.bytes hn,bd_some,show a_q ⟨a.log.bytes,a.log.stored⟩=a_q a.log from rfl]
 cases a_q a.log with
 | false=>rfl
 | true=>rw [iN_ (by simp),p_k h.bytes hn];rfl
end Go.Vw
