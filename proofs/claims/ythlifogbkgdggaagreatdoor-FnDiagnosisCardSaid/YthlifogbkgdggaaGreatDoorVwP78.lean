
import Derived.Test.YthlifogbkgdggaaGreatDoorVwP77
namespace Go.Vw
open Go.RowKit Dat
section
variable {d:d_}{b:List UInt8}
theorem k_j (hd:SmD d){n:Nat}(hn:500<=n):e_4 n d b=some ((a_L d b).2.1,(a_L d b).2.2):=by
 unfold e_4
 rw [n_7 hd hn]
 rcases a_L d b with ⟨v,p,c⟩
 rfl
theorem n_3:(a_Y d (a_Z d) b 0).2.2=0->(a_Y d (a_Z d) b 0).2.1<=(b.length:Int):=fun h=>by
 unfold a_Y at *
 split at h
 ·rename_i ho
  rw [iP_ ho]
  obtain ⟨hv,hb,i,p,h1,h2,hi,hp⟩:=f_h ho;unfold b_v;have:=(d_2 (b:=b) hv i hi p hp).2
  rw [h1,h2]
  simp only [tN_];omega
 ·cases h
theorem i_k (hd:SmD d){n:Nat}(hn:500<=n):d_v n d b=some ((a_L d b).2.1,(a_L d b).2.2):=by
 unfold d_v
 rw [i_l hd,bd_some,k_l hd hn,bd2_some]
 unfold a_L;have he:=n_3 (d:=d) (b:=b);generalize a_Y d (a_Z d) b 0=x at *
 obtain ⟨v,p,c⟩:=x
 simp only at he ⊢
 by_cases G:c=0
 ·subst G;have:=he rfl
  by_cases h1:p<(b.length:Int)
  ·have hne:¬((⟨p,0⟩:D_)=⟨(b.length:Int),0⟩):=fun h=>by
    injection h with h2;omega
   rw [dF_ hne,iP_ (show (0:Int)=0/\p<(b.length:Int) from ⟨rfl,h1⟩)];rfl
  ·have:p=(b.length:Int):=by omega
   rw [this,dT_ rfl,iN_ (show ¬((0:Int)=0/\(b.length:Int)<(b.length:Int)) by omega)];rfl
 ·have hne:¬((⟨p,c⟩:D_)=⟨(b.length:Int),0⟩):=fun h=>by
   injection h with h2 h3;exact G h3
  rw [dF_ hne,iN_ (show ¬(c=0/\p<(b.length:Int)) from fun h=>G h.1)]
  rw [show (!false)=true from rfl,iP_ rfl,bd_some,show (c==0)=false by simpa using G];rfl
theorem n_4 (hv:a_9 d=true):a_Z d=((d.rules.length - 1:Nat):Int):=by
 have:=c_4 hv;unfold a_Z;omega
end
end Go.Vw
