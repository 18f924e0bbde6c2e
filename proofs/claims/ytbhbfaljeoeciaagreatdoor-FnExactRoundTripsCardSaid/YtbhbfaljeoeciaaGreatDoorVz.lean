
import Derived.Test.YtbhbfaljeoeciaaGreatDoorVo
import Derived.Test.YtbhbfaljeoeciaaGreatDoorVt
import Derived.Test.YtbhbfaljeoeciaaGreatDoorVy
namespace Go.Vw
open Go.RowKit Dat
section
variable {d:c_}{b:List UInt8}
theorem p_p (hd:SmD d){i:Int}{v:Val}{n:Nat}(hn:1000<=n):∃t,d_b n d i v=some t/\e_3 n d i v=some t/\(t=true->a_7 d=true/\∃k:Nat,i=(k:Int)/\k<d.rules.length/\VP d.rules (k+1) k v):=by
 by_cases hv:a_7 d=true
 ·obtain ⟨t,a,b,c,_⟩:=k_h hv hd (i:=i) (v:=v) hn;exact ⟨t,a,b,fun h=>⟨hv,c h⟩⟩
 ·have hv':a_7 d=false:=by simpa using hv
  unfold d_b e_3
  rw [g_t d hd,i_z n (by omega) d hd,hv',bd_some,bd_some]
  exact ⟨false,rfl,rfl,nofun⟩
theorem p_q (hd:SmD d){v:Val}{n:Nat}(hn:1000<=n)(hz:∀m,m<=25->vsz m v<=1120000):∃w:List UInt8×Bool,g_M n d v=some w/\g_g n d v=some w/\w.1.length<=400:=by
 have hMX:=MXv;unfold g_M g_g j_0 i_l
 rw [k_f hd,k_e hd,bd_some,bd_some]
 obtain ⟨t,H,I,J⟩:=p_p hd (i:=a_R d) (v:=v) (n:=n) (by omega)
 rw [H,I,bd_some,bd_some]
 cases t
 ·exact ⟨([],false),rfl,rfl,Nat.zero_le _⟩
 obtain ⟨hv,k,hk,hkl,hV⟩:=J rfl;have V:=(c_h hv).2;obtain ⟨e,W,L,O⟩:=p_o hv hd (k+1) k v hV (by have:=hz (k+1) (by omega);omega);obtain ⟨o',o1,o2,o3,o4⟩:=O n (by omega) []<|Nat.zero_le _
 rw [hk,L n (by omega),o1]
 simp only [bd_some,nT_,bF_,fF_]
 unfold e_g
 simp only [bd_some]
 rcases o4 with G | ⟨h1,h2⟩
 ·rw [List.nil_append] at G
  rw [G]
  by_cases h:(400:Int)<(e.length:Int)
  ·rw [dT_ h]
   exact ⟨([],false),rfl,rfl,Nat.zero_le _⟩
  ·rw [dF_ h]
   exact ⟨(e,true),rfl,rfl,by show e.length<=400;omega⟩
 ·rw [List.nil_append] at h2
  rw [dT_ (show (400:Int)<(e.length:Int) by omega),dT_ (show (400:Int)<(o'.length:Int) by omega)]
  exact ⟨([],false),rfl,rfl,Nat.zero_le _⟩
theorem dep_zV:dep 25 zV:=fun x hx=>by cases hx
theorem p_r (h:¬(a_A d b).2.2=0):(a_A d b).1=zV:=by
 unfold a_A at h ⊢
 split
 ·rfl
 ·rename_i hc
  rw [iN_ hc] at h
  unfold b_C at h ⊢
  split
  ·rename_i ho
   rw [iP_ ho] at h
   exact k_b h
  ·rfl
theorem j_P:dep 25 (a_A d b).1/\vsz 25 (a_A d b).1<=20000:=by
 by_cases h:(a_A d b).2.2=0
 ·obtain ⟨hv,hb,hl,_,G,e,_⟩:=m_0 (show okF d b=true by unfold okF;rw [h];rfl);have H:=(c_h hv).2;have h1:=(m_x (b:=b) hv (d.rules.length - 1) hl 0<|Nat.zero_le _).1;have h2:=q_x hv hb hl (Nat.zero_le _) G
  rw [e]
  have h3:=i_O _ 25 _ h1 (by omega);exact ⟨h3.1,by rw [h3.2];exact h2⟩
 ·rw [p_r h]
  exact ⟨dep_zV,by decide⟩
end
end Go.Vw
