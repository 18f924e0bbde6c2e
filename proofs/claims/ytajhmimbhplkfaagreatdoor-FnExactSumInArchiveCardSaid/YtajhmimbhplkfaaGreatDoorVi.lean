
import Derived.Test.YtajhmimbhplkfaaGreatDoorVh
namespace Go.Vw
open Go.RowKit Dat
theorem t_1 {p:Int}:c_R .i64 p 0=p:=by
 unfold c_R;rw [show (min (0:Int).toNat IntKind.i64.bits)=0 from rfl];simp
theorem t_2 {p:Int}(h:0<=p)(h1:p<65536){n:Nat}(hn:3<=n):i_S n p 2=some [mkB (c_R .i64 p 8),mkB p]:=by
 unfold i_S;have hp:f_A 2=some 65536:=by unfold f_A;rfl
 rw [b_m,hp]
 simp only [show (decide ((1:Int)<=2) && decide ((2:Int)<=4))=true from rfl,bd_some,nT_,bF_,fF_,b_m]
 rw [a_x (by omega) (by omega),dT_ h,dT_ (show p<=65536 - 1 by omega)]
 simp only [Bool.and_self,nT_,bF_,fF_]
 obtain ⟨m,rfl⟩:∃m,n=m+3:=⟨n - 3,by omega⟩;have G:x_ 2 1=1:=by rw [a_x (by omega) (by omega)];rfl
 have H:x_ 1 1=0:=by rw [a_x (by omega) (by omega)];rfl
 have I:x_ 0 1 = -1:=by rw [a_x (by omega) (by omega)];rfl
 have m1:b_6 8 1=8:=by rw [h_B (by omega) (by omega)];rfl
 have J:b_6 8 0=0:=by rw [h_B (by omega) (by omega)];rfl
 have hLIM:=a_u
 rw [G]
 unfold O_
 simp only [un2,show decide ((0:Int)<=1)=true from rfl,fT_,m1,show nn 8=some () from rfl,bd_some]
 rw [b_h (by simp [hLIM]),bd_some,H]
 unfold O_
 simp only [un2,show decide ((0:Int)<=0)=true from rfl,fT_,J,show nn 0=some () from rfl,bd_some]
 rw [b_h (by simp;omega),bd_some,I]
 unfold O_
 simp only [un2,show decide ((0:Int) <= -1)=false from rfl,bF_,fF_]
 rw [bd_some,el_inl,t_1];rfl
theorem o_N {n:Nat}(hn:14<=n)(r:o_):g_X n r=some (b_g r):=by
 unfold g_X b_g
 rw [j_N n hn,e_E]
 simp only [bd_some]
 cases a_Z r.name with
 | false=>rfl
 | true =>
  simp only [nT_,bF_,fF_,Bool.true_and]
  cases (decide (0<=r.version) && decide (r.version<=7)) with
  | false=>rfl
  | true =>
   simp only [nT_,bF_,fF_,Bool.true_and,bd_some]
   by_cases hd:r.data.length<=400
   ·rw [dF_ (show ¬(400:Int)<(r.data.length:Int) by omega),dT_ hd]
    simp only [bF_,fF_,Bool.true_and]
    cases h1:r.kind==1 with
    | true=>rfl
    | false =>
     cases h2:r.kind==2 with
     | false=>rfl
     | true =>
      cases h3:r.version==0 with
      | false=>rfl
      | true =>
       simp only [bF_,fF_,fT_,bd_some,Bool.false_or,Bool.true_and]
       congr 1
       rw [Bool.eq_iff_iff,beq_iff_eq,beq_iff_eq];omega
   ·rw [dT_ (show (400:Int)<(r.data.length:Int) by omega),dF_ hd];rfl
theorem t_3 (r:o_):i_P r=some (b_g r):=by
 unfold i_P b_g
 rw [b_m,j_M,b_m]
 simp only [bd_some]
 cases hk:(decide (1<=r.kind) && decide (r.kind<=2)) with
 | false =>
  simp only [bF_,fF_,bd_some]
  congr 1
  symm
  have h1:(r.kind==1)=false:=by rw [beq_eq_false_iff_ne];rintro h;rw [h] at hk;simp at hk
  have h2:(r.kind==2)=false:=by rw [beq_eq_false_iff_ne];rintro h;rw [h] at hk;simp at hk
  rw [h1,h2];simp
 | true =>
  simp only [fT_]
  cases a_Z r.name with
  | false=>rfl
  | true =>
   simp only [fT_,Bool.true_and]
   cases (decide (0<=r.version) && decide (r.version<=7)) with
   | false=>rfl
   | true =>
    simp only [fT_,Bool.true_and]
    by_cases hd:r.data.length<=400
    ·rw [dT_ (show (r.data.length:Int)<=400 by omega),dT_ hd]
     simp only [fT_,Bool.true_and]
     cases h1:r.kind==1 with
     | true=>rfl
     | false =>
      have h2:(r.kind==2)=true:=by
       simp only [aE_,dE_] at hk
       have:r.kind ≠ 1:=by simpa using h1
       rw [beq_iff_eq];omega
      rw [h2]
      cases h3:r.version==0 with
      | false=>rfl
      | true =>
       simp only [bF_,fF_,fT_,bd_some,Bool.false_or,Bool.true_and]
       congr 1
       rw [Bool.eq_iff_iff,beq_iff_eq,beq_iff_eq];omega
    ·rw [dF_ (show ¬(r.data.length:Int)<=400 by omega),dF_ hd];rfl
theorem o_O {r:o_}(h:b_g r=true):(e_I r).length<=1000:=by
 obtain ⟨h1,_,_,_,_,_,h2⟩:=e_J h
 simp only [e_I,List.length_append,lC_,List.length_nil];omega
theorem t_4 {n:Nat}(hn:500<=n)(r:o_):j_4 n r=some (a_W r):=by
 have hML:=MLv;have hMX:=MXv;have hLIM:=a_u;unfold j_4 a_W
 rw [o_N (by omega),bd_some]
 cases hv:b_g r with
 | false=>rfl
 | true =>
  obtain ⟨h1,_,_,h4,_,_,h⟩:=e_J hv;have hb:=o_O hv
  simp only [nT_,bF_,fF_,fT_]
  have hb':=hb;unfold e_I at hb hb' ⊢
  simp only [List.length_append,lC_,List.length_nil] at hb
  rw [s_U (by omega) (by omega),bd_some,c_0 (by simp only [lC_,List.length_nil];omega),bd_some,c_0 (by simp only [List.length_append,lC_,List.length_nil];omega),bd_some,c_0 (by simp only [List.length_append,lC_,List.length_nil];omega),bd_some,l_B _ (by omega),bd_some,b_h (by omega),bd_some]
theorem o_P {n:Nat}(hn:500<=n)(r:o_):i_T n r=some (a_W r):=by
 have hML:=MLv;have hMX:=MXv;have hLIM:=a_u;unfold i_T a_W
 rw [t_3,bd_some]
 cases hv:b_g r with
 | false=>rfl
 | true =>
  obtain ⟨h1,_,_,h4,_,_,h⟩:=e_J hv;have hb:=o_O hv
  simp only [nT_,bF_,fF_,fT_]
  have hb':=hb;unfold e_I at hb hb' ⊢
  simp only [List.length_append,lC_,List.length_nil] at hb
  rw [s_V (by omega) (by omega),bd_some,c_0 (by simp only [lC_,List.length_nil];omega),bd_some,b_h (by simp only [List.length_append,lC_,List.length_nil];omega),bd_some,t_2 (by omega) (by omega) (by omega),bd_some,c_0 (by simp only [List.length_append,lC_,List.length_nil];omega),bd_some,c_0 (by simp only [List.length_append,lC_,List.length_nil];omega),bd_some,n_V,bd_some]
  simp only [List.append_assoc,List.cons_append,List.nil_append] at hb' ⊢
  rw [b_h (by omega),bd_some]
  simp only [List.append_assoc,List.cons_append]
end Go.Vw
