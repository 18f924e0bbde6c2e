
import Derived.Test.YtefljifhihogoaaGreatDoorV9
namespace Go.Vw
set_option linter.unusedVariables false
open Go.RowKit Dat
theorem w_X {p:Int}:c_W .i64 p 0=p:=by
 unfold c_W;simp
theorem w_Y {p:Int}(G:0<=p)(h1:p<65536){n:Nat}(hn:3<=n):k_I n p 2=some [mkB (c_W .i64 p 8),mkB p]:=by
 unfold k_I;have hp:e_K 2=some 65536:=by rfl
 rw [b_z,hp]
 simp only [show (decide ((1:Int)<=2) && decide ((2:Int)<=4))=true from rfl,a_,nT_,bF_,fF_,b_z]
 rw [a_L (by omega) (by omega),dT_ G,dT_ (show p<=65536 - 1 by omega)]
 simp only [QAQ,nT_,bF_,fF_]
 obtain ⟨m,rfl⟩:∃m,n=m+3:=⟨n - 3,by omega⟩;have H:w_ 2 1=1:=by rfl
 have I:w_ 1 1=0:=by rfl
 have J:w_ 0 1 = -1:=by rfl
 have m1:b_t 8 1=8:=by rfl
 have L:b_t 8 0=0:=by rfl
 have hLIM:=a_7
 rw [H]
 unfold F_
 simp only [un2,show decide ((0:Int)<=1)=true from rfl,fT_,m1,show nn 8=some () from rfl,a_]
 rw [a_Z (by grind),a_,I]
 unfold F_
 simp only [un2,show decide ((0:Int)<=0)=true from rfl,fT_,L,show nn 0=some () from rfl,a_]
 rw [a_Z (by grind),a_,J]
 unfold F_
 simp only [un2,show decide ((0:Int) <= -1)=false from rfl,bF_,fF_]
 grind [a_,W_,w_X]
theorem r_L {n:Nat}(hn:14<=n)(r:q_):i_Q n r=some (b_K r):=by
 unfold i_Q b_K
 rw [l_w n hn,c_g]
 simp only [a_]
 cases b_3 r.name with
 | false=>rfl
 | true =>
  simp only [nT_,bF_,fF_,QAE]
  cases (decide (0<=r.version) && decide (r.version<=7)) with
  | false=>rfl
  | true =>
   simp only [nT_,bF_,fF_,QAE,a_]
   by_cases hd:r.data.length<=400
   .rw [dF_ (show ¬(400:Int)<(r.data.length:Int) by omega),dT_ hd]
    simp only [bF_,fF_,QAE]
    cases h1:r.kind==1 with
    | true=>rfl
    | false =>
     cases h2:r.kind==2 with
     | false=>rfl
     | true =>
      cases h3:r.version==0 with
      | false=>rfl
      | true =>
       simp only [bF_,fF_,fT_,a_,QAg,QAE]
       congr 1
       grind
   grind
theorem w_Z (r:q_):k_G r=some (b_K r):=by
 unfold k_G b_K
 rw [b_z,l_v,b_z]
 simp only [a_]
 cases hk:(decide (1<=r.kind) && decide (r.kind<=2)) with
 | false =>
  simp only [bF_,fF_,a_]
  congr 1
  grind
 | true =>
  simp only [fT_]
  cases b_3 r.name with
  | false=>rfl
  | true =>
   simp only [fT_,QAE]
   cases (decide (0<=r.version) && decide (r.version<=7)) with
   | false=>rfl
   | true =>
    simp only [fT_,QAE]
    by_cases hd:r.data.length<=400
    .rw [dT_ (show (r.data.length:Int)<=400 by omega),dT_ hd]
     simp only [fT_,QAE]
     cases h1:r.kind==1 with
     | true=>rfl
     | false =>
      have h2:(r.kind==2)=true:=by
       grind
      rw [h2]
      cases h3:r.version==0 with
      | false=>rfl
      | true =>
       simp only [bF_,fF_,fT_,a_,QAg,QAE]
       congr 1
       grind
    .rw [dF_ (show ¬(r.data.length:Int)<=400 by omega),dF_ hd];rfl
theorem r_M {r:q_}(h:b_K r=true):(h_m r).length<=1000:=by
 grind [h_m,List.length_append,List.length_cons,List.length_nil,g_8]
theorem x_0 {n:Nat}(hn:500<=n)(r:q_):k_T n r=some (b_a r):=by
 have hML:=MLv;have hMX:=MXv;have hLIM:=a_7;unfold k_T b_a
 rw [r_L (by omega),a_]
 cases hv:b_K r with
 | false=>rfl
 | true =>
  obtain ⟨h1,_,_,h4,_,_,G⟩:=g_8 hv;have hb:=r_M hv
  simp only [nT_,bF_,fF_,fT_]
  have hb':=hb;unfold h_m at hb hb' ⊢
  simp only [QAN,lC_,QAD] at hb
  rw [w_Q (by omega) (by omega),a_,c_l (by grind),a_,c_l (by grind),a_,c_l (by grind),a_,n_M _ (by omega),a_,a_Z (by omega),a_]
theorem r_N {n:Nat}(hn:500<=n)(r:q_):k_J n r=some (b_a r):=by
 have hML:=MLv;have hMX:=MXv;have hLIM:=a_7;unfold k_J b_a
 rw [w_Z,a_]
 cases hv:b_K r with
 | false=>rfl
 | true =>
  obtain ⟨h1,_,_,h4,_,_,G⟩:=g_8 hv;have hb:=r_M hv
  simp only [nT_,bF_,fF_,fT_]
  have hb':=hb;unfold h_m at hb hb' ⊢
  simp only [QAN,lC_,QAD] at hb
  rw [w_R (by omega) (by omega),a_,c_l (by grind),a_,a_Z (by grind),a_,w_Y (by omega) (by omega) (by omega),a_,c_l (by grind),a_,c_l (by grind),a_,q_M,a_]
  grind [List.append_assoc,a_Z,a_,List.append_assoc]
end Go.Vw
