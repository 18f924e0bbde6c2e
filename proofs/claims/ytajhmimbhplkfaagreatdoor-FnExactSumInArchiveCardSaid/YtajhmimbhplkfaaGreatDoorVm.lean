
import Derived.Test.YtajhmimbhplkfaaGreatDoorVl
import Derived.Test.YtajhmimbhplkfaaGreatDoorV6
namespace Go.Vw
open Go.RowKit Dat
theorem t_k {d:e_}{b:List UInt8}(hd:SmD d){n:Nat}(hn:500<=n):i_r n d b=some (okF d b):=by
 unfold i_r okF
 rw [p_p hd hn];rfl
structure SmA (a:L_):Prop where
 len:a.registry.versions.length<=MX
 each:∀d∈a.registry.versions,SmD d
 bytes:a.log.bytes.length<=ML
def f_s (r:a_j):Bool:=decide (r.versions.length<=8) && !(r.versions.any fun d=>!a_4 d)
theorem t_l {r:a_j}(h:∀d∈r.versions,SmD d){n:Nat}(hn:14<=n):i_Y n r=some (f_s r):=by
 unfold i_Y f_s
 by_cases hl:r.versions.length<=8
 ·rw [dF_ (by omega),iN_ (by simp),dT_ hl,Bool.true_and]
  rw [d_Q (fun d=>!a_4 d) false (fun k hk=>by
   rw [ix_ hk,bd_some,n_y n hn _<|h _<|gE_ hk,bd_some]
   cases a_4 r.versions[k] <;> rfl),bd_some]
  cases r.versions.any fun d=>!a_4 d <;> rfl
 ·rw [dT_ (by omega),iP_ rfl,dF_ hl];rfl
theorem t_m {r:a_j}(h:∀d∈r.versions,SmD d):i_W r=some (f_s r):=by
 unfold i_W f_s
 rw [d_Q (fun d=>!a_4 d) false (fun k hk=>by
   rw [ix_ hk,bd_some,n_z _<|h _<|gE_ hk,bd_some]
   cases a_4 r.versions[k] <;> rfl),bd_some]
 cases r.versions.any fun d=>!a_4 d
 ·simp only [bF_,fF_,el_inl,Bool.not_false,Bool.and_true]
  congr 1;rw [decide_eq_decide];omega
 ·simp
def e_N (a:L_)(r:o_):Bool:=r.kind==1 && match a.registry.versions[r.version.toNat]? with
 | some d=>!okF d r.data
 | none=>true
def c_g (a:L_):Bool:=f_s a.registry && (c_t a.log && (decide ((c_e a.log.bytes).length<=20) && !((a_v a.log.bytes).1.any (e_N a))))
theorem t_n {a:L_}(h:SmA a){n:Nat}(hn:1060100<=n):j_7 n a=some (c_g a):=by
 have hb:=h.bytes;unfold j_7 c_g
 rw [t_l (r:=⟨a.registry.versions⟩) h.each (by omega),bd_some,o_Z (l:=⟨a.log.bytes,a.log.stored⟩) hb hn,p_0 hb hn,o_V hb hn]
 cases f_s a.registry with
 | false=>rfl
 | true =>
  simp only [nT_,bF_,fF_,bd_some,Bool.true_and]
  cases c_t a.log with
  | false=>rfl
  | true =>
   simp only [nT_,bF_,fF_,bd_some,Bool.true_and]
   by_cases hl:(c_e a.log.bytes).length<=20
   ·rw [dF_ (by omega),iN_ (by simp),bd2_some,dT_ hl,Bool.true_and]
    have hle:=f_q _ _<|Nat.le_refl a.log.bytes.length;generalize (a_v a.log.bytes).1=rs at hle
    rw [d_Q (e_N a) false (fun k hk=>by
     have hv:=e_J<|hle.2.2 _<|gE_ hk
     rw [ix_ hk,bd_some]
     unfold e_N l_4;generalize rs[k]=r at hv
     cases G:r.kind==1 with
     | false=>rfl
     | true =>
      simp only [fT_,Bool.true_and]
      rw [dT_ (show 0<=r.version by omega),iP_ rfl,bd_some,bd_some]
      by_cases hlt:r.version.toNat<a.registry.versions.length
      ·rw [dT_ (show r.version<(a.registry.versions.length:Int) by omega),iN_ (by simp),f_v (by omega) hlt,bd_some,t_k (h.each _<|gE_ hlt) (by omega),bd_some,bd_some,gG_ hlt]
       exact c_T _ _
      ·rw [dF_ (show ¬r.version<(a.registry.versions.length:Int) by omega),gN_ (by omega)];rfl),bd_some]
    cases rs.any (e_N a) <;> rfl
   ·rw [dT_ (by omega),iP_ rfl,dF_ hl];rfl
theorem t_o {a:L_}(h:SmA a){n:Nat}(hn:1060100<=n):i_X n a=some (c_g a):=by
 have hb:=h.bytes;unfold i_X c_g
 rw [t_m (r:=⟨a.registry.versions⟩) h.each,bd_some,o_X (l:=⟨a.log.bytes,a.log.stored⟩) hb hn,p_1 hb hn,k_e hb hn]
 cases f_s a.registry with
 | false=>rfl
 | true =>
  simp only [nT_,bF_,fF_,bd_some,Bool.true_and]
  cases c_t a.log with
  | false=>rfl
  | true =>
   simp only [nT_,bF_,fF_,bd_some,Bool.true_and]
   by_cases hl:(c_e a.log.bytes).length<=20
   ·rw [dF_ (by omega),iN_ (by simp),bd2_some,dT_ hl,Bool.true_and]
    have hle:=f_q _ _<|Nat.le_refl a.log.bytes.length;generalize (a_v a.log.bytes).1=rs at hle
    rw [d_Q (e_N a) false (fun k hk=>by
     have hv:=e_J<|hle.2.2 _<|gE_ hk
     rw [ix_ hk]
     simp only [bd_some]
     unfold e_N;generalize rs[k]=r at hv
     cases G:r.kind==1 with
     | false=>rfl
     | true =>
      simp only [fT_,Bool.true_and]
      by_cases hlt:r.version.toNat<a.registry.versions.length
      ·rw [dF_ (show ¬(a.registry.versions.length:Int)<=r.version by omega),iN_ (by simp),f_v (by omega) hlt,bd_some,n_C (h.each _<|gE_ hlt) (by omega),bd_some,bd_some,gG_ hlt]
       exact c_T _ _
      ·rw [dT_ (show (a.registry.versions.length:Int)<=r.version by omega),gN_ (by omega)];rfl),bd_some]
    cases rs.any (e_N a) <;> rfl
   ·rw [dT_ (by omega),iP_ rfl,dF_ hl];rfl
def b_2 (a:L_):List q_:=if c_g a=true then c_e a.log.bytes else []
theorem p_2 {a:L_}(h:c_g a=true):c_t a.log=true:=by
 unfold c_g at h
 simp only [aE_] at h
 exact h.2.1
theorem t_p {a:L_}(h:SmA a){n:Nat}(hn:1060100<=n):j_8 n a=some (b_2 a):=by
 unfold j_8 l_5 b_2
 rw [t_n h hn,bd_some]
 cases ha:c_g a with
 | false=>rfl
 | true =>
  rw [iN_ (by simp),o_Z (l:=⟨a.log.bytes,a.log.stored⟩) h.bytes hn,bd_some,show c_t ⟨a.log.bytes,a.log.stored⟩=true from p_2 ha,iN_ (by simp),p_0 h.bytes hn];rfl
theorem t_q {a:L_}(h:SmA a){n:Nat}(hn:1060100<=n):i_V n a=some (if c_t a.log=true then c_e a.log.bytes else []):=by
 unfold i_V
 rw [o_X (l:=⟨a.log.bytes,a.log.stored⟩) h.bytes hn,bd_some,show c_t ⟨a.log.bytes,a.log.stored⟩=c_t a.log from rfl]
 cases c_t a.log with
 | false=>rfl
 | true=>rw [iN_ (by simp),p_1 h.bytes hn];rfl
theorem t_r {b:List UInt8}(hb:b.length<=ML):(c_e b).length<=ML:=by
 have h1:=k_f (a_v b).1 (a_v b).1.length (Nat.le_refl _);have h2:=f_q _ _<|Nat.le_refl b.length
 rw [l_V] at h1
 unfold c_e;omega
end Go.Vw
