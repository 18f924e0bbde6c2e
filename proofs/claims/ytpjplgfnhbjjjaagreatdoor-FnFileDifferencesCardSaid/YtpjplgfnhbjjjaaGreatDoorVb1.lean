
import Derived.Test.YtpjplgfnhbjjjaaGreatDoorVo
import Derived.Test.YtpjplgfnhbjjjaaGreatDoorVt
import Derived.Test.YtpjplgfnhbjjjaaGreatDoorVz
import Derived.Test.YtpjplgfnhbjjjaaGreatDoorVb0
namespace Go.Vw
open Go.RowKit Dat
section
variable {d:c_}{b:Bt}
theorem f_s (hd:SmD d){i:Int}{v:Val}{n:Nat}(hn:1000<=n):∃t,b_P n d i v=some t/\c_E n d i v=some t/\(t=true->O_ d=true/\∃k:Nat,i=(k:Int)/\k<d.rules.length/\VP d.rules (k+1) k v):=by
 by_cases hv:O_ d=true
 .obtain ⟨t,a,b,c,_⟩:=t_9 hv hd (i:=i) (v:=v) hn;exact ⟨t,a,b,λh=>⟨hv,c h⟩⟩
 .have hv':O_ d=false:=by simpa using hv
  unfold b_P c_E
  rw [h_s d hd,g_s n (by omega) d hd,hv',bd_some,bd_some]
  exact ⟨false,rfl,rfl,nofun⟩
theorem l_l:∀(ss:List Str)(m i:Nat)(v:Val)(k:Val->Val){x:Nat×Val×(Val->Val)},O_ d=true->VP d.rules m i v->goK d.rules ss i v k=some x->∃m',VP d.rules m' x.1 x.2.1/\vsz m' x.2.1<=vsz m v
 | [],m,i,v,k,x,hv,h,hg=>by
  obtain rfl:=Option.some.inj hg;exact ⟨m,h,Nat.le_refl _⟩
 | s::ss,0,i,v,k,x,hv,h,hg=>h.elim
 | s::ss,m+1,i,v,k,x,hv,h,hg=>by
  unfold goK at hg
  by_cases hf:a_Z (d.rules.getD i default) v.items.length s<0
  .rw [iP_ hf] at hg;cases hg
  .rw [iN_ hf] at hg
   obtain ⟨t,k',ht,G,H,I,J⟩:=g_t hv h hf
   rw [G,tN_,H,tN_,I] at hg
   obtain ⟨m',a,c⟩:=l_l ss m k' v.items[t] _ hv J hg;refine ⟨m',a,?_⟩;have hsz:=d_H (m:=m)<|gE_ ht;have:vsz (m+1) v=v.bytes.length+lsz m v.items:=rfl
   omega
theorem dep_zV:dep 25 zV:=λx hx=>by cases hx
theorem r_D (h:¬(a_6 d b).2.2=0):(a_6 d b).1=zV:=by
 unfold a_6 at h ⊢
 split
 .rfl
 .rename_i hc
  rw [iN_ hc] at h
  unfold c_3 at h ⊢
  split
  .rename_i ho
   rw [iP_ ho] at h
   exact l_L h
  .rfl
theorem o_6:dep 25 (a_6 d b).1/\vsz 25 (a_6 d b).1<=20000:=by
 by_cases h:(a_6 d b).2.2=0
 .obtain ⟨hv,hb,hl,_,G,e,_⟩:=f_r (show okF d b=true by unfold okF;rw [h];rfl);have H:=(b_B hv).2;have h1:=(g_v (b:=b) hv (d.rules.length - 1) hl 0<|Nat.zero_le _).1;have h2:=k_v hv hb hl (Nat.zero_le _) G
  rw [e]
  have h3:=f_v _ 25 _ h1 (by omega);exact ⟨h3.1,by rw [h3.2];exact h2⟩
 .rw [r_D h]
  exact ⟨dep_zV,by decide⟩
end
end Go.Vw
