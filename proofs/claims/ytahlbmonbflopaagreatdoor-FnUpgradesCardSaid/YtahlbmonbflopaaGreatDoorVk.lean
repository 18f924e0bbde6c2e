
import Derived.Test.YtahlbmonbflopaaGreatDoorVi
import Derived.Test.YtahlbmonbflopaaGreatDoorVj
namespace Go.Vw
open Go.RowKit Dat
section
variable {d:c_}{b:Bt}
theorem p_Q (hd:SmD d){i:Int}{v:Val}{n:Nat}(hn:1000<=n):∃t,d_y n d i v=some t/\d_I n d i v=some t/\(t=true->R_ d=true/\∃k:Nat,i=(k:Int)/\k<d.rules.length/\VP d.rules (k+1) k v):=by
 by_cases hv:R_ d=true
 .obtain ⟨t,a,b,c,_⟩:=n_B hv hd (i:=i) (v:=v) hn;exact ⟨t,a,b,λh=>⟨hv,c h⟩⟩
 .have hv':R_ d=false:=by simpa using hv
  unfold d_y d_I
  rw [h_4 d hd,i_e n (by omega) d hd,hv',bd_some,bd_some]
  exact ⟨false,rfl,rfl,nofun⟩
theorem p_R (hd:SmD d){v:Val}{n:Nat}(hn:1000<=n)(hz:∀m,m<=25->vsz m v<=250000000):∃w:Bt×Bool,i_s n d v=some w/\i_5 n d v=some w/\w.1.length<=400/\(w.2=true->R_ d=true/\∃k:Nat,a_X d=(k:Int)/\VP d.rules (k+1) k v/\Prt d.rules (k+1) k v w.1):=by
 have hMX:=MXv;unfold i_s i_5 j_X j_i
 rw [j_S hd,j_R hd,bd_some,bd_some]
 obtain ⟨t,H,I,J⟩:=p_Q hd (i:=a_X d) (v:=v) (n:=n) (by omega)
 rw [H,I,bd_some,bd_some]
 cases t
 .exact ⟨([],false),rfl,rfl,Nat.zero_le _,nofun⟩
 obtain ⟨hv,k,hk,hkl,hV⟩:=J rfl;have V:=(b_X hv).2;obtain ⟨e,W,ep,L,O⟩:=p_O hv hd (k+1) k v hV (by have:=hz (k+1) (by omega);omega);obtain ⟨o',o1,Y,o3,o4⟩:=O n (by omega) []<|Nat.zero_le _
 rw [hk,L n (by omega),o1]
 simp only [bd_some,nT_,bF_,fF_]
 unfold g_0
 simp only [bd_some]
 rcases o4 with G | ⟨h1,h2⟩
 .rw [List.nil_append] at G
  rw [G]
  by_cases h:(400:Int)<(e.length:Int)
  .rw [dT_ h]
   exact ⟨([],false),rfl,rfl,Nat.zero_le _,nofun⟩
  .rw [dF_ h]
   exact ⟨(e,true),rfl,rfl,by show e.length<=400;omega,λ_=>⟨hv,k,rfl,hV,ep⟩⟩
 .rw [List.nil_append] at h2
  rw [dT_ (show (400:Int)<(e.length:Int) by omega),dT_ (show (400:Int)<(o'.length:Int) by omega)]
  exact ⟨([],false),rfl,rfl,Nat.zero_le _,nofun⟩
end
end Go.Vw
