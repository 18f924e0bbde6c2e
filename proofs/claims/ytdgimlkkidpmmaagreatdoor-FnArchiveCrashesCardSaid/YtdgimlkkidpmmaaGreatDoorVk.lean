
import Derived.Test.YtdgimlkkidpmmaaGreatDoorVj
namespace Go.Vw
open Go.RowKit Dat
theorem i_N {p:Int}:a_9 .i64 p 0=p:=by
 unfold a_9;rw [show (min (0:Int).toNat IntKind.i64.bits)=0 from rfl];simp
theorem t_s {p:Int}(G:0<=p)(h1:p<65536){n:Nat}(hn:3<=n):d_h n p 2=some [mkB (a_9 .i64 p 8),mkB p]:=by
 unfold d_h;have hp:c_F 2=some 65536:=by unfold c_F;rfl
 rw [b_5,hp]
 simp only [show (decide ((1:Int)<=2) && decide ((2:Int)<=4))=true from rfl,bd_some,nT_,bF_,fF_,b_5]
 rw [a_f (by omega) (by omega),dT_ G,dT_ (show p<=65536 - 1 by omega)]
 simp only [Bool.and_self,nT_,bF_,fF_]
 obtain ⟨m,rfl⟩:∃m,n=m+3:=⟨n - 3,by omega⟩;have H:h_ 2 1=1:=by rw [a_f (by omega) (by omega)];rfl
 have I:h_ 1 1=0:=by rw [a_f (by omega) (by omega)];rfl
 have J:h_ 0 1 = -1:=by rw [a_f (by omega) (by omega)];rfl
 have m1:U_ 8 1=8:=by rw [c_D (by omega) (by omega)];rfl
 have L:U_ 8 0=0:=by rw [c_D (by omega) (by omega)];rfl
 have hLIM:=W_
 rw [H]
 unfold C_
 simp only [un2,show decide ((0:Int)<=1)=true from rfl,fT_,m1,show nn 8=some () from rfl,bd_some]
 rw [O_ (by simp [hLIM]),bd_some,I]
 unfold C_
 simp only [un2,show decide ((0:Int)<=0)=true from rfl,fT_,L,show nn 0=some () from rfl,bd_some]
 rw [O_ (by simp;omega),bd_some,J]
 unfold C_
 simp only [un2,show decide ((0:Int) <= -1)=false from rfl,bF_,fF_]
 rw [bd_some,el_inl,i_N];rfl
theorem p_9 {n:Nat}(hn:14<=n)(r:m_):h_V n r=some (a_I r):=by
 unfold h_V a_I
 rw [m_b n hn,b_J]
 simp only [bd_some]
 cases b_r r.name with
 | false=>rfl
 | true =>
  simp only [nT_,bF_,fF_,Bool.true_and]
  cases (decide (0<=r.version) && decide (r.version<=7)) with
  | false=>rfl
  | true =>
   simp only [nT_,bF_,fF_,Bool.true_and,bd_some]
   by_cases hd:r.data.length<=400
   .rw [dF_ (show ¬(400:Int)<(r.data.length:Int) by omega),dT_ hd]
    simp only [bF_,fF_,Bool.true_and]
    cases h1:r.kind==1 with
    | true=>rfl
    | false =>
     cases h2:r.kind==2 with
     | false=>rfl
     | true =>
      cases h3:r.version==0 with
      | false=>rfl
      | true =>
       simp only [bF_,fF_,fT_,bd_some,Bool.false_or,Bool.true_and]
       congr 1
       rw [Bool.eq_iff_iff,beq_iff_eq,beq_iff_eq];omega
   .rw [dT_ (show (400:Int)<(r.data.length:Int) by omega),dF_ hd];rfl
theorem p_a (r:m_):h_P r=some (a_I r):=by
 unfold h_P a_I
 rw [b_5,m_a,b_5]
 simp only [bd_some]
 cases hk:(decide (1<=r.kind) && decide (r.kind<=2)) with
 | false =>
  simp only [bF_,fF_,bd_some]
  congr 1
  symm
  have h1:(r.kind==1)=false:=by rw [beq_eq_false_iff_ne];rintro h;rw [h] at hk;simp at hk
  have h2:(r.kind==2)=false:=by rw [beq_eq_false_iff_ne];rintro h;rw [h] at hk;simp at hk
  rw [h1,h2];simp
 | true =>
  simp only [fT_]
  cases b_r r.name with
  | false=>rfl
  | true =>
   simp only [fT_,Bool.true_and]
   cases (decide (0<=r.version) && decide (r.version<=7)) with
   | false=>rfl
   | true =>
    simp only [fT_,Bool.true_and]
    by_cases hd:r.data.length<=400
    .rw [dT_ (show (r.data.length:Int)<=400 by omega),dT_ hd]
     simp only [fT_,Bool.true_and]
     cases h1:r.kind==1 with
     | true=>rfl
     | false =>
      have h2:(r.kind==2)=true:=by
       simp only [aE_,dE_] at hk
       have:r.kind ≠ 1:=by simpa using h1
       rw [beq_iff_eq];omega
      rw [h2]
      cases h3:r.version==0 with
      | false=>rfl
      | true =>
       simp only [bF_,fF_,fT_,bd_some,Bool.false_or,Bool.true_and]
       congr 1
       rw [Bool.eq_iff_iff,beq_iff_eq,beq_iff_eq];omega
    .rw [dF_ (show ¬(r.data.length:Int)<=400 by omega),dF_ hd];rfl
theorem m_K {r:m_}(h:a_I r=true):(d_t r).length<=1000:=by
 obtain ⟨h1,_,_,_,_,_,h2⟩:=e_X h
 simp only [d_t,List.length_append,lC_,List.length_nil];omega
theorem t_t {n:Nat}(hn:500<=n)(r:m_):j_E n r=some (a_3 r):=by
 have hML:=MLv;have hMX:=MXv;have hLIM:=W_;unfold j_E a_3
 rw [p_9 (by omega),bd_some]
 cases hv:a_I r with
 | false=>rfl
 | true =>
  obtain ⟨h1,_,_,h4,_,_,G⟩:=e_X hv;have hb:=m_K hv
  simp only [nT_,bF_,fF_,fT_]
  have hb':=hb;unfold d_t at hb hb' ⊢
  simp only [List.length_append,lC_,List.length_nil] at hb
  rw [t_l (by omega) (by omega),bd_some,a_A (by simp only [lC_,List.length_nil];omega),bd_some,a_A (by simp only [List.length_append,lC_,List.length_nil];omega),bd_some,a_A (by simp only [List.length_append,lC_,List.length_nil];omega),bd_some,m_r _ (by omega),bd_some,O_ (by omega),bd_some]
theorem m_L {n:Nat}(hn:500<=n)(r:m_):h_Q n r=some (a_3 r):=by
 have hML:=MLv;have hMX:=MXv;have hLIM:=W_;unfold h_Q a_3
 rw [p_a,bd_some]
 cases hv:a_I r with
 | false=>rfl
 | true =>
  obtain ⟨h1,_,_,h4,_,_,G⟩:=e_X hv;have hb:=m_K hv
  simp only [nT_,bF_,fF_,fT_]
  have hb':=hb;unfold d_t at hb hb' ⊢
  simp only [List.length_append,lC_,List.length_nil] at hb
  rw [t_m (by omega) (by omega),bd_some,a_A (by simp only [lC_,List.length_nil];omega),bd_some,O_ (by simp only [List.length_append,lC_,List.length_nil];omega),bd_some,t_s (by omega) (by omega) (by omega),bd_some,a_A (by simp only [List.length_append,lC_,List.length_nil];omega),bd_some,a_A (by simp only [List.length_append,lC_,List.length_nil];omega),bd_some,k_o,bd_some]
  simp only [List.append_assoc,List.cons_append,List.nil_append] at hb' ⊢
  rw [O_ (by omega),bd_some]
  simp only [List.append_assoc,List.cons_append]
end Go.Vw
