
import Derived.Test.YtgpgenigfncgeaaGreatDoorVh
namespace Go.Vw
open Go.RowKit Dat
theorem u_v {p:Int}:c_Y .i64 p 0=p:=by
 unfold c_Y;rw [show (min (0:Int).toNat IntKind.i64.bits)=0 from rfl];simp
theorem u_w {p:Int}(h:0<=p)(h1:p<65536){n:Nat}(hn:3<=n):j_g n p 2=some [mkB (c_Y .i64 p 8),mkB p]:=by
 unfold j_g;have hp:f_J 2=some 65536:=by unfold f_J;rfl
 rw [b_u,hp]
 simp only [show (decide ((1:Int)<=2) && decide ((2:Int)<=4))=true from rfl,bd_some,nT_,bF_,fF_,b_u]
 rw [a_y (by omega) (by omega),dT_ h,dT_ (show p<=65536 - 1 by omega)]
 simp only [Bool.and_self,nT_,bF_,fF_]
 obtain ⟨m,rfl⟩:∃m,n=m+3:=⟨n - 3,by omega⟩;have G:w_ 2 1=1:=by rw [a_y (by omega) (by omega)];rfl
 have H:w_ 1 1=0:=by rw [a_y (by omega) (by omega)];rfl
 have I:w_ 0 1 = -1:=by rw [a_y (by omega) (by omega)];rfl
 have m1:b_e 8 1=8:=by rw [i_2 (by omega) (by omega)];rfl
 have J:b_e 8 0=0:=by rw [i_2 (by omega) (by omega)];rfl
 have hLIM:=a_o
 rw [G]
 unfold I_
 simp only [un2,show decide ((0:Int)<=1)=true from rfl,fT_,m1,show nn 8=some () from rfl,bd_some]
 rw [b_o (by simp [hLIM]),bd_some,H]
 unfold I_
 simp only [un2,show decide ((0:Int)<=0)=true from rfl,fT_,J,show nn 0=some () from rfl,bd_some]
 rw [b_o (by simp;omega),bd_some,I]
 unfold I_
 simp only [un2,show decide ((0:Int) <= -1)=false from rfl,bF_,fF_]
 rw [bd_some,el_inl,u_v];rfl
theorem p_K {n:Nat}(hn:14<=n)(r:p_):h_e n r=some (b_n r):=by
 unfold h_e b_n
 rw [k_z n hn,e_R]
 simp only [bd_some]
 cases b_8 r.name with
 | false=>rfl
 | true =>
  simp only [nT_,bF_,fF_,Bool.true_and]
  cases (decide (0<=r.version) && decide (r.version<=7)) with
  | false=>rfl
  | true =>
   simp only [nT_,bF_,fF_,Bool.true_and,bd_some]
   by_cases hd:r.data.length<=400
   .rw [dF_ (show ¬(400:Int)<(r.data.length:Int) by omega),dT_ hd]
    simp only [bF_,fF_,Bool.true_and]
    cases h1:r.kind==1 with
    | true=>rfl
    | false =>
     cases h2:r.kind==2 with
     | false=>rfl
     | true =>
      cases h3:r.version==0 with
      | false=>rfl
      | true =>
       simp only [bF_,fF_,fT_,bd_some,Bool.false_or,Bool.true_and]
       congr 1
       rw [Bool.eq_iff_iff,beq_iff_eq,beq_iff_eq];omega
   .rw [dT_ (show (400:Int)<(r.data.length:Int) by omega),dF_ hd];rfl
theorem u_x (r:p_):j_d r=some (b_n r):=by
 unfold j_d b_n
 rw [b_u,k_y,b_u]
 simp only [bd_some]
 cases hk:(decide (1<=r.kind) && decide (r.kind<=2)) with
 | false =>
  simp only [bF_,fF_,bd_some]
  congr 1
  symm
  have h1:(r.kind==1)=false:=by rw [beq_eq_false_iff_ne];rintro h;rw [h] at hk;simp at hk
  have h2:(r.kind==2)=false:=by rw [beq_eq_false_iff_ne];rintro h;rw [h] at hk;simp at hk
  rw [h1,h2];simp
 | true =>
  simp only [fT_]
  cases b_8 r.name with
  | false=>rfl
  | true =>
   simp only [fT_,Bool.true_and]
   cases (decide (0<=r.version) && decide (r.version<=7)) with
   | false=>rfl
   | true =>
    simp only [fT_,Bool.true_and]
    by_cases hd:r.data.length<=400
    .rw [dT_ (show (r.data.length:Int)<=400 by omega),dT_ hd]
     simp only [fT_,Bool.true_and]
     cases h1:r.kind==1 with
     | true=>rfl
     | false =>
      have h2:(r.kind==2)=true:=by
       simp only [aE_,dE_] at hk
       have:r.kind ≠ 1:=by simpa using h1
       rw [beq_iff_eq];omega
      rw [h2]
      cases h3:r.version==0 with
      | false=>rfl
      | true =>
       simp only [bF_,fF_,fT_,bd_some,Bool.false_or,Bool.true_and]
       congr 1
       rw [Bool.eq_iff_iff,beq_iff_eq,beq_iff_eq];omega
    .rw [dF_ (show ¬(r.data.length:Int)<=400 by omega),dF_ hd];rfl
theorem p_L {r:p_}(h:b_n r=true):(e_V r).length<=1000:=by
 obtain ⟨h1,_,_,_,_,_,h2⟩:=e_W h
 simp only [e_V,List.length_append,lC_,List.length_nil];omega
theorem u_y {n:Nat}(hn:500<=n)(r:p_):j_s n r=some (b_0 r):=by
 have hML:=MLv;have hMX:=MXv;have hLIM:=a_o;unfold j_s b_0
 rw [p_K (by omega),bd_some]
 cases hv:b_n r with
 | false=>rfl
 | true =>
  obtain ⟨h1,_,_,h4,_,_,h⟩:=e_W hv;have hb:=p_L hv
  simp only [nT_,bF_,fF_,fT_]
  have hb':=hb;unfold e_V at hb hb' ⊢
  simp only [List.length_append,lC_,List.length_nil] at hb
  rw [u_o (by omega) (by omega),bd_some,c_4 (by simp only [lC_,List.length_nil];omega),bd_some,c_4 (by simp only [List.length_append,lC_,List.length_nil];omega),bd_some,c_4 (by simp only [List.length_append,lC_,List.length_nil];omega),bd_some,m_D _ (by omega),bd_some,b_o (by omega),bd_some]
theorem p_M {n:Nat}(hn:500<=n)(r:p_):j_h n r=some (b_0 r):=by
 have hML:=MLv;have hMX:=MXv;have hLIM:=a_o;unfold j_h b_0
 rw [u_x,bd_some]
 cases hv:b_n r with
 | false=>rfl
 | true =>
  obtain ⟨h1,_,_,h4,_,_,h⟩:=e_W hv;have hb:=p_L hv
  simp only [nT_,bF_,fF_,fT_]
  have hb':=hb;unfold e_V at hb hb' ⊢
  simp only [List.length_append,lC_,List.length_nil] at hb
  rw [u_p (by omega) (by omega),bd_some,c_4 (by simp only [lC_,List.length_nil];omega),bd_some,b_o (by simp only [List.length_append,lC_,List.length_nil];omega),bd_some,u_w (by omega) (by omega) (by omega),bd_some,c_4 (by simp only [List.length_append,lC_,List.length_nil];omega),bd_some,c_4 (by simp only [List.length_append,lC_,List.length_nil];omega),bd_some,o_X,bd_some]
  simp only [List.append_assoc,List.cons_append,List.nil_append] at hb' ⊢
  rw [b_o (by omega),bd_some]
  simp only [List.append_assoc,List.cons_append]
end Go.Vw
