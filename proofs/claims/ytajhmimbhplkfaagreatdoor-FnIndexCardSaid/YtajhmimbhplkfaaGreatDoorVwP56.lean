
import Derived.Test.YtajhmimbhplkfaaGreatDoorVwP55
set_option linter.unusedVariables false
namespace Go.Vw
open Go.RowKit Dat
theorem app_nil' {α:Type} {l:List α} (h:l.length≤MX):app ([]:List α) l=some l:=by
 have:=MXv;have:=a_D
 rw [c_g (by simp;omega)];simp
theorem o_R (l:List k_):l_y l l=some true∧f_x l l=some true:=by
 constructor
 ·unfold l_y
  rw [show ((l.length:Int) != (l.length:Int))=false by simp,iN_ (by simp)]
  rw [k_Z (fun k hk=>by rw [ix_ hk,bd_some,bd_some,dT_ rfl];rfl)]
  rfl
 ·unfold f_x h_l
  rw [show ((l.length:Int) != (l.length:Int))=false by simp,iN_ (by simp)]
  rw [k_Z (fun k hk=>by rw [ix_ hk,bd_some,bd_some,dT_ rfl];rfl)]
  rfl
theorem o_S {d:d_} {b:List UInt8} (hv:a_1 d=true) : ∀ (i:Nat),i<d.rules.length → ∀ (at_:Nat) (path:Str) (e:k_),at_≤b.length→(rdW d.rules b i at_).2.2=0→e∈ixW d.rules b i at_ path→0≤e.start∧e.start≤(b.length:Int):=by
 intro i
 induction i using Nat.strongRecOn with
 | _ i ih =>
  intro hi at_ path x ha hok hx;obtain ⟨ks,e,h⟩:=c_w hv hi ha hok
  rw [d_l hv hi h path] at hx
  rcases List.mem_cons.1 hx with rfl | hx
  ·simp only;omega
  ·obtain ⟨m,hm,hx⟩:=h_0 _ _ _ hx;have hr:=a_P hv hi;have hkr:=hr.kids _<|h.kids _<|gE_ hm;have hP:=e_p h.ch m hm;exact ih ks[m].toNat (by omega) (by omega) _ _ x hP.1 hP.2 hx
theorem o_T {d:d_} {b:List UInt8} : ∀ e∈b_t d b,0≤e.start∧e.start≤(b.length:Int)∧0≤e.end_∧e.end_≤(b.length:Int):=by
 intro e h;unfold b_t at h
 split at h
 ·rename_i hok
  obtain ⟨hv,hb,hi,hroot,h0,_,e'⟩:=e_n hok;have h1:=o_S hv _ hi 0 _ e (Nat.zero_le _) h0 h;have h2:=o_K hv _ hi 0 _ e (Nat.zero_le _) h0 h;exact ⟨h1.1,h1.2,h2.1,h2.2⟩
 ·cases h
section
variable {d:d_} {b:List UInt8}
end
end Go.Vw
