
import Derived.Test.YtjdphpimefbinaaGreatDoorVw
namespace Go.Vw
open Go.RowKit Dat
section
variable {d:c_}{b:Bt}
theorem t_Q (hd:SmD d){n:Nat}(hn:500<=n):h_h n d b=some ((b_4 d b).2.1,(b_4 d b).2.2):=by
 unfold h_h
 rw [o_X hd hn]
 rcases b_4 d b with ⟨v,p,c⟩
 rfl
theorem t_R:(a_O d (a_I d) b 0).2.2=0->(a_O d (a_I d) b 0).2.1<=(b.length:Int):=λh=>by
 unfold a_O at *
 split at h
 .rename_i ho
  rw [iP_ ho]
  obtain ⟨hv,hb,i,p,h1,h2,hi,hp⟩:=f_o ho;unfold a_Y;have:=(a_X (b:=b) hv i hi p hp).2
  rw [h1,h2]
  simp only [tN_];omega
 .cases h
theorem t_S (hd:SmD d){n:Nat}(hn:500<=n):h_i n d b=some ((b_4 d b).2.1,(b_4 d b).2.2):=by
 unfold h_i
 rw [h_C hd,bd_some,k_r hd hn,bd2_some]
 unfold b_4;have he:=t_R (d:=d) (b:=b);generalize a_O d (a_I d) b 0=x at *
 obtain ⟨v,p,c⟩:=x
 simp only at he ⊢
 by_cases G:c=0
 .subst G;have:=he rfl
  by_cases h1:p<(b.length:Int)
  .have hne:¬((⟨p,0⟩:K_)=⟨(b.length:Int),0⟩):=λh=>by
    injection h with h2;omega
   rw [dF_ hne,iP_ (show (0:Int)=0/\p<(b.length:Int) from ⟨rfl,h1⟩)];rfl
  .have:p=(b.length:Int):=by omega
   rw [this,dT_ rfl,iN_ (show ¬((0:Int)=0/\(b.length:Int)<(b.length:Int)) by omega)];rfl
 .have hne:¬((⟨p,c⟩:K_)=⟨(b.length:Int),0⟩):=λh=>by
   injection h with h2 h3;exact G h3
  rw [dF_ hne,iN_ (show ¬(c=0/\p<(b.length:Int)) from λh=>G h.1)]
  rw [show (!false)=true from rfl,iP_ rfl,bd_some,show (c==0)=false by simpa using G];rfl
theorem t_T (hv:G_ d=true):a_I d=((d.rules.length - 1:Nat):Int):=by
 have:=a_T hv;unfold a_I;omega
end
end Go.Vw
