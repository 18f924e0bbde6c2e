
import Derived.Test.YtgpgenigfncgeaaGreatDoorVl
import Derived.Test.YtgpgenigfncgeaaGreatDoorV6
namespace Go.Vw
open Go.RowKit Dat
theorem u_N {d:f_}{b:Bt}(hd:SmD d){n:Nat}(hn:500<=n):i_N n d b=some (okF d b):=by
 unfold i_N okF
 rw [q_o hd hn];rfl
structure SmA (a:J_):Prop where
 len:a.registry.versions.length<=MX
 each:∀d∈a.registry.versions,SmD d
 bytes:a.log.bytes.length<=ML
def f_C (r:a_c):Bool:=decide (r.versions.length<=8) && !(r.versions.any λd=>!a_9 d)
theorem u_O {r:a_c}(h:∀d∈r.versions,SmD d){n:Nat}(hn:14<=n):j_m n r=some (f_C r):=by
 unfold j_m f_C
 by_cases hl:r.versions.length<=8
 .rw [dF_ (by omega),iN_ (by simp),dT_ hl,Bool.true_and]
  rw [e_8 (λd=>!a_9 d) false (λk hk=>by
   rw [ix_ hk,bd_some,o_t n hn _<|h _<|gE_ hk,bd_some]
   cases a_9 r.versions[k] <;> rfl),bd_some]
  cases r.versions.any λd=>!a_9 d <;> rfl
 .rw [dT_ (by omega),iP_ rfl,dF_ hl];rfl
theorem u_P {r:a_c}(h:∀d∈r.versions,SmD d):j_k r=some (f_C r):=by
 unfold j_k f_C
 rw [e_8 (λd=>!a_9 d) false (λk hk=>by
   rw [ix_ hk,bd_some,o_u _<|h _<|gE_ hk,bd_some]
   cases a_9 r.versions[k] <;> rfl),bd_some]
 cases r.versions.any λd=>!a_9 d
 .simp only [bF_,fF_,el_inl,Bool.not_false,Bool.and_true]
  congr 1;rw [decide_eq_decide];omega
 .simp
def f_0 (a:J_)(r:p_):Bool:=r.kind==1 && match a.registry.versions[r.version.toNat]? with
 | some d=>!okF d r.data
 | none=>true
def c_m (a:J_):Bool:=f_C a.registry && (c_z a.log && (decide ((c_k a.log.bytes).length<=20) && !((a_w a.log.bytes).1.any (f_0 a))))
theorem u_Q {a:J_}(h:SmA a){n:Nat}(hn:1060100<=n):j_v n a=some (c_m a):=by
 have hb:=h.bytes;unfold j_v c_m
 rw [u_O (r:=⟨a.registry.versions⟩) h.each (by omega),bd_some,p_W (l:=⟨a.log.bytes,a.log.stored⟩) hb hn,p_X hb hn,p_S hb hn]
 cases f_C a.registry with
 | false=>rfl
 | true =>
  simp only [nT_,bF_,fF_,bd_some,Bool.true_and]
  cases c_z a.log with
  | false=>rfl
  | true =>
   simp only [nT_,bF_,fF_,bd_some,Bool.true_and]
   by_cases hl:(c_k a.log.bytes).length<=20
   .rw [dF_ (by omega),iN_ (by simp),bd2_some,dT_ hl,Bool.true_and]
    have hle:=f_A _ _<|Nat.le_refl a.log.bytes.length;generalize (a_w a.log.bytes).1=rs at hle
    rw [e_8 (f_0 a) false (λk hk=>by
     have hv:=e_W<|hle.2.2 _<|gE_ hk
     rw [ix_ hk,bd_some]
     unfold f_0 l_v;generalize rs[k]=r at hv
     cases G:r.kind==1 with
     | false=>rfl
     | true =>
      simp only [fT_,Bool.true_and]
      rw [dT_ (show 0<=r.version by omega),iP_ rfl,bd_some,bd_some]
      by_cases hlt:r.version.toNat<a.registry.versions.length
      .rw [dT_ (show r.version<(a.registry.versions.length:Int) by omega),iN_ (by simp),f_F (by omega) hlt,bd_some,u_N (h.each _<|gE_ hlt) (by omega),bd_some,bd_some,gG_ hlt]
       exact d_1 _ _
      .rw [dF_ (show ¬r.version<(a.registry.versions.length:Int) by omega),gN_ (by omega)];rfl),bd_some]
    cases rs.any (f_0 a) <;> rfl
   .rw [dT_ (by omega),iP_ rfl,dF_ hl];rfl
theorem u_R {a:J_}(h:SmA a){n:Nat}(hn:1060100<=n):j_l n a=some (c_m a):=by
 have hb:=h.bytes;unfold j_l c_m
 rw [u_P (r:=⟨a.registry.versions⟩) h.each,bd_some,p_U (l:=⟨a.log.bytes,a.log.stored⟩) hb hn,p_Y hb hn,k_Y hb hn]
 cases f_C a.registry with
 | false=>rfl
 | true =>
  simp only [nT_,bF_,fF_,bd_some,Bool.true_and]
  cases c_z a.log with
  | false=>rfl
  | true =>
   simp only [nT_,bF_,fF_,bd_some,Bool.true_and]
   by_cases hl:(c_k a.log.bytes).length<=20
   .rw [dF_ (by omega),iN_ (by simp),bd2_some,dT_ hl,Bool.true_and]
    have hle:=f_A _ _<|Nat.le_refl a.log.bytes.length;generalize (a_w a.log.bytes).1=rs at hle
    rw [e_8 (f_0 a) false (λk hk=>by
     have hv:=e_W<|hle.2.2 _<|gE_ hk
     rw [ix_ hk]
     simp only [bd_some]
     unfold f_0;generalize rs[k]=r at hv
     cases G:r.kind==1 with
     | false=>rfl
     | true =>
      simp only [fT_,Bool.true_and]
      by_cases hlt:r.version.toNat<a.registry.versions.length
      .rw [dF_ (show ¬(a.registry.versions.length:Int)<=r.version by omega),iN_ (by simp),f_F (by omega) hlt,bd_some,o_x (h.each _<|gE_ hlt) (by omega),bd_some,bd_some,gG_ hlt]
       exact d_1 _ _
      .rw [dT_ (show (a.registry.versions.length:Int)<=r.version by omega),gN_ (by omega)];rfl),bd_some]
    cases rs.any (f_0 a) <;> rfl
   .rw [dT_ (by omega),iP_ rfl,dF_ hl];rfl
def b_A (a:J_):List r_:=if c_m a then c_k a.log.bytes else []
theorem p_Z {a:J_}(h:c_m a=true):c_z a.log=true:=by
 unfold c_m at h
 simp only [aE_] at h
 exact h.2.1
theorem u_S {a:J_}(h:SmA a){n:Nat}(hn:1060100<=n):j_w n a=some (b_A a):=by
 unfold j_w l_w b_A
 rw [u_Q h hn,bd_some]
 cases ha:c_m a with
 | false=>rfl
 | true =>
  rw [iN_ (by simp),p_W (l:=⟨a.log.bytes,a.log.stored⟩) h.bytes hn,bd_some,show c_z ⟨a.log.bytes,a.log.stored⟩=true from p_Z ha,iN_ (by simp),p_X h.bytes hn];rfl
theorem u_T {a:J_}(h:SmA a){n:Nat}(hn:1060100<=n):j_j n a=some (if c_z a.log then c_k a.log.bytes else []):=by
 unfold j_j
 rw [p_U (l:=⟨a.log.bytes,a.log.stored⟩) h.bytes hn,bd_some,show c_z ⟨a.log.bytes,a.log.stored⟩=c_z a.log from rfl]
 cases c_z a.log with
 | false=>rfl
 | true=>rw [iN_ (by simp),p_Y h.bytes hn];rfl
theorem u_U {b:Bt}(hb:b.length<=ML):(c_k b).length<=ML:=by
 have h1:=k_Z (a_w b).1 (a_w b).1.length (Nat.le_refl _);have h2:=f_A _ _<|Nat.le_refl b.length
 rw [m_X] at h1
 unfold c_k;omega
end Go.Vw
