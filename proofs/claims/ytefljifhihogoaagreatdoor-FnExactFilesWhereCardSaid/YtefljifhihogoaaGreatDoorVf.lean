
import Derived.Test.YtefljifhihogoaaGreatDoorVd
import Derived.Test.YtefljifhihogoaaGreatDoorVe
namespace Go.Vw
set_option linter.unusedVariables false
open Go.RowKit Dat
theorem x_g {d:d_}{b:Bt}(hd:SmD d){n:Nat}(hn:500<=n):k_k n d b=some (okF d b):=by
 unfold k_k okF
 rw [s_L hd hn];rfl
structure SmA (a:H_):Prop where
 len:a.registry.versions.length<=MX
 each:∀d∈a.registry.versions,SmD d
 bytes:a.log.bytes.length<=ML
def h_o (r:a_9):Bool:=decide (r.versions.length<=8) && !(r.versions.any λd=>!D_ d)
theorem x_h {r:a_9}(h:∀d∈r.versions,SmD d){n:Nat}(hn:14<=n):k_O n r=some (h_o r):=by
 unfold k_O h_o
 by_cases hl:r.versions.length<=8
 .rw [dF_ (by omega),iN_ (by simp),dT_ hl,QAE]
  rw [e_H (λd=>!D_ d) false (λk hk=>by
   grind [D_,b_E,a_,n_x,List.getElem_mem]),a_]
  cases r.versions.any λd=>!D_ d <;> rfl
 grind
theorem x_i {r:a_9}(h:∀d∈r.versions,SmD d):k_M r=some (h_o r):=by
 unfold k_M h_o
 rw [e_H (λd=>!D_ d) false (λk hk=>by
   grind [D_,b_E,a_,l_z,List.getElem_mem]),a_]
 cases r.versions.any λd=>!D_ d
 .simp only [bF_,fF_,W_,QBE,Bool.and_true]
  congr 1;grind
 .simp
def g_e (a:H_)(r:q_):Bool:=r.kind==1 && match a.registry.versions[r.version.toNat]? with
 | some d=>!okF d r.data
 | none=>true
def c_q (a:H_):Bool:=h_o a.registry && (d_2 a.log && (decide ((c_O a.log.bytes).length<=20) && !((a_J a.log.bytes).1.any (g_e a))))
theorem x_j {a:H_}(h:SmA a){n:Nat}(hn:1060100<=n):k_W n a=some (c_q a):=by
 have hb:=h.bytes;unfold k_W c_q
 rw [x_h (r:=⟨a.registry.versions⟩) h.each (by omega),a_,r_X (l:=⟨a.log.bytes,a.log.stored⟩) hb hn,r_Y hb hn,r_T hb hn]
 cases h_o a.registry with
 | false=>rfl
 | true =>
  simp only [nT_,bF_,fF_,a_,QAE]
  cases d_2 a.log with
  | false=>rfl
  | true =>
   simp only [nT_,bF_,fF_,a_,QAE]
   by_cases hl:(c_O a.log.bytes).length<=20
   .rw [dF_ (by omega),iN_ (by simp),a_b,dT_ hl,QAE]
    have hle:=h_n _ _<|QAB a.log.bytes.length;generalize (a_J a.log.bytes).1=rs at hle
    rw [e_H (g_e a) false (λk hk=>by
     have hv:=g_8<|hle.2.2 _<|gE_ hk
     rw [ix_ hk,a_]
     unfold g_e m_D;generalize rs[k]=r at hv
     cases G:r.kind==1 with
     | false=>rfl
     | true =>
      simp only [fT_,QAE]
      rw [dT_ (show 0<=r.version by omega),iP_ rfl,a_,a_]
      by_cases hlt:r.version.toNat<a.registry.versions.length
      .rw [dT_ (show r.version<(a.registry.versions.length:Int) by omega),iN_ (by simp),h_r (by omega) hlt,a_,x_g (h.each _<|gE_ hlt) (by omega),a_,a_,gG_ hlt]
       grind
      simp_all),a_]
    cases rs.any (g_e a) <;> rfl
   grind
theorem x_k {a:H_}(h:SmA a){n:Nat}(hn:1060100<=n):k_N n a=some (c_q a):=by
 have hb:=h.bytes;unfold k_N c_q
 rw [x_i (r:=⟨a.registry.versions⟩) h.each,a_,r_V (l:=⟨a.log.bytes,a.log.stored⟩) hb hn,r_Z hb hn,l_Y hb hn]
 cases h_o a.registry with
 | false=>rfl
 | true =>
  simp only [nT_,bF_,fF_,a_,QAE]
  cases d_2 a.log with
  | false=>rfl
  | true =>
   simp only [nT_,bF_,fF_,a_,QAE]
   by_cases hl:(c_O a.log.bytes).length<=20
   .rw [dF_ (by omega),iN_ (by simp),a_b,dT_ hl,QAE]
    have hle:=h_n _ _<|QAB a.log.bytes.length;generalize (a_J a.log.bytes).1=rs at hle
    rw [e_H (g_e a) false (λk hk=>by
     have hv:=g_8<|hle.2.2 _<|gE_ hk
     rw [ix_ hk]
     simp only [a_]
     unfold g_e;generalize rs[k]=r at hv
     cases G:r.kind==1 with
     | false=>rfl
     | true =>
      simp only [fT_,QAE]
      by_cases hlt:r.version.toNat<a.registry.versions.length
      .rw [dF_ (show ¬(a.registry.versions.length:Int)<=r.version by omega),iN_ (by simp),h_r (by omega) hlt,a_,q_f (h.each _<|gE_ hlt) (by omega),a_,a_,gG_ hlt]
       grind
      simp_all),a_]
    cases rs.any (g_e a) <;> rfl
   grind
def c_7 (a:H_):List o_:=if c_q a then c_O a.log.bytes else []
theorem s_0 {a:H_}(h:c_q a=true):d_2 a.log=true:=by
 grind [c_q]
theorem x_l {a:H_}(h:SmA a){n:Nat}(hn:1060100<=n):k_X n a=some (c_7 a):=by
 unfold k_X m_E c_7
 rw [x_j h hn,a_]
 cases ha:c_q a with
 | false=>rfl
 | true =>
  rw [iN_ (by simp),r_X (l:=⟨a.log.bytes,a.log.stored⟩) h.bytes hn,a_,show d_2 ⟨a.log.bytes,a.log.stored⟩=true from s_0 ha,iN_ (by simp),r_Y h.bytes hn];rfl
theorem x_m {a:H_}(h:SmA a){n:Nat}(hn:1060100<=n):k_L n a=some (if d_2 a.log then c_O a.log.bytes else []):=by
 unfold k_L
 rw [r_V (l:=⟨a.log.bytes,a.log.stored⟩) h.bytes hn,a_,show d_2 ⟨a.log.bytes,a.log.stored⟩=d_2 a.log from rfl]
 cases d_2 a.log with
 | false=>rfl
 | true=>rw [iN_ (by simp),r_Z h.bytes hn];rfl
theorem x_n {b:Bt}(hb:b.length<=ML):(c_O b).length<=ML:=by
 have h1:=l_Z (a_J b).1 (a_J b).1.length (QAB _);have h2:=h_n _ _<|QAB b.length
 grind [c_O,o_f]
end Go.Vw
