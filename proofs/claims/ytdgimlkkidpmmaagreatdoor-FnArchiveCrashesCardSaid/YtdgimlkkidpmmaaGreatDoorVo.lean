
import Derived.Test.YtdgimlkkidpmmaaGreatDoorVf
import Derived.Test.YtdgimlkkidpmmaaGreatDoorVn
namespace Go.Vw
open Go.RowKit Dat
section
variable {d:c_}{b:Bt}
theorem s_v (hd:SmD d){i:Int}{v:Val}{n:Nat}(hn:1000<=n):∃t,g_k n d i v=some t/\j_N n d i v=some t/\(t=true->a_b d=true/\∃k:Nat,i=(k:Int)/\k<d.rules.length/\VP d.rules (k+1) k v):=by
 by_cases hv:a_b d=true
 .obtain ⟨t,a,b,c,_⟩:=u_t hv hd (i:=i) (v:=v) hn;exact ⟨t,a,b,λh=>⟨hv,c h⟩⟩
 .have hv':a_b d=false:=by simpa using hv
  unfold g_k j_N
  rw [k_i d hd,m_e n (by omega) d hd,hv',bd_some,bd_some]
  exact ⟨false,rfl,rfl,nofun⟩
theorem s_w (hd:SmD d){v:Val}{n:Nat}(hn:1000<=n)(hz:∀m,m<=25->vsz m v<=1120000):∃w:Bt×Bool,h_C n d v=some w/\o_2 n d v=some w/\w.1.length<=400/\(w.2=true->a_b d=true/\∃k:Nat,c_2 d=(k:Int)/\VP d.rules (k+1) k v/\Prt d.rules (k+1) k v w.1):=by
 have hMX:=MXv;unfold h_C o_2 k_T o_1
 rw [n_7 hd,p_R hd,bd_some,bd_some]
 obtain ⟨t,H,I,J⟩:=s_v hd (i:=c_2 d) (v:=v) (n:=n) (by omega)
 rw [H,I,bd_some,bd_some]
 cases t
 .exact ⟨([],false),rfl,rfl,Nat.zero_le _,nofun⟩
 obtain ⟨hv,k,hk,hkl,hV⟩:=J rfl;have W:=(f_1 hv).2;obtain ⟨e,Y,ep,L,O⟩:=s_u hv hd (k+1) k v hV (by have:=hz (k+1) (by omega);omega);obtain ⟨o',o1,o2,o3,V⟩:=O n (by omega) []<|Nat.zero_le _
 rw [hk,L n (by omega),o1]
 simp only [bd_some,nT_,bF_,fF_]
 unfold i_y
 simp only [bd_some]
 rcases V with G | ⟨h1,h2⟩
 .rw [List.nil_append] at G
  rw [G]
  by_cases h:(400:Int)<(e.length:Int)
  .rw [dT_ h]
   exact ⟨([],false),rfl,rfl,Nat.zero_le _,nofun⟩
  .rw [dF_ h]
   exact ⟨(e,true),rfl,rfl,by show e.length<=400;omega,λ_=>⟨hv,k,rfl,hV,ep⟩⟩
 .rw [List.nil_append] at h2
  rw [dT_ (show (400:Int)<(e.length:Int) by omega),dT_ (show (400:Int)<(o'.length:Int) by omega)]
  exact ⟨([],false),rfl,rfl,Nat.zero_le _,nofun⟩
end
end Go.Vw
