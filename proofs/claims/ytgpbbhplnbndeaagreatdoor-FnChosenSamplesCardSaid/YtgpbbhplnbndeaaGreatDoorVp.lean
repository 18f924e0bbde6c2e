
import Derived.Test.YtgpbbhplnbndeaaGreatDoorVj
import Derived.Test.YtgpbbhplnbndeaaGreatDoorVo
namespace Go.Vw
open Go.RowKit Dat
section
variable {d:b_}{b:Bt}
theorem q_1 (hd:SmD d){i:Int}{v:Val}{n:Nat}(hn:1000<=n):∃t,f_m n d i v=some t/\f_v n d i v=some t/\(t=true->I_ d=true/\∃k:Nat,i=(k:Int)/\k<d.rules.length/\VP d.rules (k+1) k v):=by
 by_cases hv:I_ d=true
 .obtain ⟨t,a,b,c,_⟩:=r_o hv hd (i:=i) (v:=v) hn;exact ⟨t,a,b,λh=>⟨hv,c h⟩⟩
 .have hv':I_ d=false:=by simpa using hv
  unfold f_m f_v
  rw [j_4 d hd,e_9 n (by omega) d hd,hv',bd_some,bd_some]
  exact ⟨false,rfl,rfl,nofun⟩
theorem q_2 (hd:SmD d){v:Val}{n:Nat}(hn:1000<=n)(hz:∀m,m<=25->vsz m v<=1120000):∃w:Bt×Bool,h_B n d v=some w/\h_f n d v=some w/\w.1.length<=400/\(w.2=true->I_ d=true/\∃k:Nat,a_z d=(k:Int)/\VP d.rules (k+1) k v/\Prt d.rules (k+1) k v w.1):=by
 have hMX:=MXv;unfold h_B h_f j_y i_I
 rw [h_t hd,j_t hd,bd_some,bd_some]
 obtain ⟨t,H,I,J⟩:=q_1 hd (i:=a_z d) (v:=v) (n:=n) (by omega)
 rw [H,I,bd_some,bd_some]
 cases t
 .exact ⟨([],false),rfl,rfl,Nat.zero_le _,nofun⟩
 obtain ⟨hv,k,hk,hkl,hV⟩:=J rfl;have V:=(b_5 hv).2;obtain ⟨e,W,ep,L,O⟩:=q_0 hv hd (k+1) k v hV (by have:=hz (k+1) (by omega);omega);obtain ⟨o',o1,Y,o3,o4⟩:=O n (by omega) []<|Nat.zero_le _
 rw [hk,L n (by omega),o1]
 simp only [bd_some,nT_,bF_,fF_]
 unfold e_X
 simp only [bd_some]
 rcases o4 with G | ⟨h1,h2⟩
 .rw [List.nil_append] at G
  rw [G]
  by_cases h:(400:Int)<(e.length:Int)
  .rw [dT_ h]
   exact ⟨([],false),rfl,rfl,Nat.zero_le _,nofun⟩
  .rw [dF_ h]
   exact ⟨(e,true),rfl,rfl,by show e.length<=400;omega,λ_=>⟨hv,k,rfl,hV,ep⟩⟩
 .rw [List.nil_append] at h2
  rw [dT_ (show (400:Int)<(e.length:Int) by omega),dT_ (show (400:Int)<(o'.length:Int) by omega)]
  exact ⟨([],false),rfl,rfl,Nat.zero_le _,nofun⟩
end
end Go.Vw
