
import Derived.Test.YtpjplgfnhbjjjaaGreatDoorVc
import Derived.Test.YtpjplgfnhbjjjaaGreatDoorVi
namespace Go.Vw
open Go.RowKit Dat
theorem k_p (x y:Int):i_2 x y=some (min x y):=by
 unfold i_2 k_O
 have:n_ (σ:=Int) (ρ:=Int) (λL=>(λH=>bd (idx [y] ((L:Nat):Int)) λG=>bd (j_z G H) λI=>bd (α:=Int) (if I then some G else some H)<|λJ=>some<|.next J)) [y].length 0 x=some (.inl<|min x y):=by
  unfold j_z
  simp only [lC_,List.length_nil,n_,ix_ (show 0<[y].length by simp),List.getElem_cons_zero,bd_some]
  by_cases h:y<x
  .rw [dT_ h,iP_ rfl,bd_some,Int.min_eq_right (by omega)]
  .rw [dF_ h,iN_ (by simp),bd_some,Int.min_eq_left (by omega)]
 rw [this,bd_some,el_inl,bd_some]
theorem k_q (x y:Int):d_T x y=some (min x y):=by
 unfold d_T
 by_cases h:y<x
 .rw [dT_ h,iP_ rfl,Int.min_eq_right (by omega)]
 .rw [dF_ h,iN_ (by simp),Int.min_eq_left (by omega)]
theorem l_F {s:Int}(h1:1<=s)(h4:s<=4):∃x,d_Q s=some x/\l_ x 1=256 ^ s.toNat - 1:=by
 have:=h_q h1 h4
 rw [e_a (by omega) (by omega)] at this
 exact ⟨_,s_s h1 h4,this.1⟩
section
variable {d:c_}{r:d_}{v:Val}
theorem s_D (hd:d.rules.length<=MX)(hk:a_i d.rules r=true)(h:Own d.rules r v):g_C d r v=some true:=by
 have hkk:=b_d hk;unfold g_C;unfold Own at h
 rcases h with ⟨h,H,a2,I,J⟩ | ⟨h,G,I,J⟩ | ⟨h,G,H,J⟩ | ⟨h,G,H,a2,J⟩ | ⟨h,G,H,J⟩ | ⟨h,G,I,H,a2⟩ | ⟨h,G,I,H⟩ | ⟨h,H,a2,I,L,O⟩ | ⟨h,G,I,H⟩ | ⟨h,G,I,H⟩
 .obtain ⟨_,h1,h4⟩:=d_J hk h;obtain ⟨x,V,W⟩:=l_F h1 h4
  simp only [h,I,J,Int.reduceBEq,fT_,bd_some,V,b_L,W,dT_ H,dT_ a2,Bool.and_self]
  try rfl
 .simp only [h,G,I,J,Int.reduceBEq,bF_,fF_,fT_]
  try rfl
 .simp only [h,G,J,Int.reduceBEq,bF_,fF_,fT_,show ((v.bytes.length:Int)==r.size)=true by simpa using H]
  try rfl
 .have hl:=(e_7 hk h).2;have hx:idx r.kids 0=some (k_ r):=by rw [a_S (by omega)];unfold k_;rw [N_ (by omega)]
  simp only [h,G,J,Int.reduceBEq,bF_,fF_,fT_,bd_some,hx,h_r _ _ hd,k_q,dT_ (show (v.bytes.length:Int)<=min 400 (lim d.rules<|k_ r) by omega)]
  try rfl
 .simp only [h,G,J,Int.reduceBEq,bF_,fF_,fT_,dT_ H]
  try rfl
 .have hl:=(c_X hk h).2;have hx:idx r.kids 0=some (k_ r):=by rw [a_S (by omega)];unfold k_;rw [N_ (by omega)]
  simp only [h,G,I,Int.reduceBEq,bF_,fF_,fT_,bd_some,hx,h_r _ _ hd,k_q,dT_ (show (v.items.length:Int)<=min 40 (lim d.rules<|k_ r) by omega)]
  try rfl
 .simp only [h,G,I,Int.reduceBEq,bF_,fF_,fT_,show ((v.items.length:Int)==(r.kids.length:Int))=true by simp [H]]
  try rfl
 .have hi:a_D r v.number 0=some (J_ r v.number 0):=b_O hkk v.number 0
  simp only [h,I,Int.reduceBEq,bF_,fF_,fT_,bd_some,show ((v.items.length:Int)==1)=true by simp [L],hi,dT_ O]
  try rfl
 .simp only [h,G,I,Int.reduceBEq,bF_,fF_,fT_,dT_ (show (v.items.length:Int)<=1 by omega)]
  try rfl
 .simp only [h,G,I,Int.reduceBEq,bF_,fF_,fT_,show ((v.items.length:Int)==1)=true by simp [H]]
  try rfl
theorem s_E (hd:SmD d){i:Nat}(hi:i<d.rules.length)(hr:d.rules[i]=r)(hk:a_i d.rules r=true)(h:Own d.rules r v):g_Y d (i:Int) v=some true:=by
 have hkk:=b_d hk;unfold g_Y
 rw [ix_ hi,hr,bd_some]
 unfold Own at h
 rcases h with ⟨h,H,a2,I,J⟩ | ⟨h,G,I,J⟩ | ⟨h,G,H,J⟩ | ⟨h,G,H,a2,J⟩ | ⟨h,G,H,J⟩ | ⟨h,G,I,H,a2⟩ | ⟨h,G,I,H⟩ | ⟨h,H,a2,I,L,O⟩ | ⟨h,G,I,H⟩ | ⟨h,G,I,H⟩
 .obtain ⟨_,h1,h4⟩:=d_J hk h;have hl:lim d.rules (i:Int)=256 ^ r.size.toNat - 1:=by unfold lim;rw [ix_ hi,hr];simp only;rw [iP_ ⟨h,h1,h4⟩]
  simp only [h,I,J,Int.reduceBEq,bF_,fF_,fT_,bd_some,el_inl,un3,a_Y,Bool.and_self,e_3,hl,dT_ H,dT_ a2,List.length_nil]
  try rfl
 .simp only [h,G,I,J,Int.reduceBEq,bF_,fF_,fT_,bd_some,el_inl,un2,un3,a_Y,Bool.and_self,dT_<|Int.le_refl 0,List.length_nil]
  try rfl
 .simp only [h,G,J,Int.reduceBEq,bF_,fF_,fT_,bd_some,el_inl,un3,a_Y,Bool.and_self,dT_<|Int.le_refl 0,show ((v.bytes.length:Int) != r.size)=false by simp [H],List.length_nil,dT_ (show (v.bytes.length:Int)<=r.size by omega)]
  try rfl
 .have hl:=(e_7 hk h).2;have hx:idx r.kids 0=some (k_ r):=by rw [a_S (by omega)];unfold k_;rw [N_ (by omega)]
  simp only [h,G,J,Int.reduceBEq,bF_,fF_,fT_,bd_some,el_inl,un3,a_Y,Bool.and_self,dT_<|Int.le_refl 0,hx,e_3,k_p,List.length_nil,dT_ (show (v.bytes.length:Int)<=min 400 (lim d.rules<|k_ r) by omega)]
  try rfl
 .simp only [h,G,J,Int.reduceBEq,bF_,fF_,fT_,bd_some,el_inl,un3,a_Y,Bool.and_self,dT_<|Int.le_refl 0,List.length_nil,dT_ H]
  try rfl
 .have hl:=(c_X hk h).2;have hx:idx r.kids 0=some (k_ r):=by rw [a_S (by omega)];unfold k_;rw [N_ (by omega)]
  simp only [h,G,I,Int.reduceBEq,bF_,fF_,fT_,bd_some,el_inl,un2,un3,a_Y,Bool.and_self,dT_<|Int.le_refl 0,hx,e_3,k_p,List.length_nil,dT_ (show (v.items.length:Int)<=min 40 (lim d.rules<|k_ r) by omega)]
  try rfl
 .simp only [h,G,I,Int.reduceBEq,bF_,fF_,fT_,bd_some,el_inl,un2,un3,a_Y,Bool.and_self,dT_<|Int.le_refl 0,show ((v.items.length:Int) != (r.kids.length:Int))=false by simp [H],List.length_nil,dT_ (show (v.items.length:Int)<=(r.kids.length:Int) by omega)]
  try rfl
 .have hl:=(d_K hk h).2.1;have hx:idx r.kids 0=some (k_ r):=by rw [a_S (by omega)];unfold k_;rw [N_ (by omega)]
  simp only [h,I,Int.reduceBEq,bF_,fF_,fT_,bd_some,el_inl,un2,un3,a_Y,Bool.and_self,hx,e_3,List.length_nil,show ((v.items.length:Int) != 1)=false by simp [L],dT_ H,dT_ a2,dT_ (show (v.items.length:Int)<=1 by omega)]
  try rfl
 .simp only [h,G,I,Int.reduceBEq,bF_,fF_,fT_,bd_some,el_inl,un2,un3,a_Y,Bool.and_self,dT_<|Int.le_refl 0,List.length_nil,dT_ (show (v.items.length:Int)<=1 by omega)]
  try rfl
 .simp only [h,G,I,Int.reduceBEq,bF_,fF_,fT_,bd_some,el_inl,un2,un3,a_Y,Bool.and_self,dT_<|Int.le_refl 0,List.length_nil,show ((v.items.length:Int) != 1)=false by simp [H],dT_ (show (v.items.length:Int)<=1 by omega)]
  try rfl
end
section
variable {d:c_}{b:Bt}
theorem s_F (hv:O_ d=true)(hd:SmD d)(hb:b.length<=400):∀(i:Nat),i<d.rules.length->∀p,p<=b.length->(rdW d.rules b i p).2.2=0->∀n,i+2<=n->m_2 n d (i:Int) (rdW d.rules b i p).1=some true:=by
 intro i
 induction i using Nat.strongRecOn with
 | ind i ih =>
  intro hi p hp hok n hn;obtain ⟨m,rfl⟩:∃m,n=m+1:=⟨n - 1,by omega⟩;have hr:=a_O hv hi;have hown:=l_E hv hb hi hp hok;have hit:=k_o hv hi hp hok
  show g_D m (e_c m) d (i:Int) (rdW d.rules b i p).1=some true
  unfold g_D
  rw [ix_ hi,bd_some,s_D hd.rules hr.kind hown,bd_some,iN_ (by simp)]
  generalize (rdW d.rules b i p).1=v at hown hit
  rw [o_L λj hj=>by
   obtain ⟨k,q,h1,h2,h3,h4,h5⟩:=hit j hj
   rw [ix_ hj,bd_some,b_O<|b_d hr.kind,bd_some,h1,h5]
   have:=ih k h2 (by omega) q h3 h4 m (by omega)
   rw [show (e_c m).spec_l9Valid d (k:Int) (rdW d.rules b k q).1=some true from this,bd_some,iN_ (by simp)]]
  rfl
theorem s_G (hv:O_ d=true)(hd:SmD d)(hb:b.length<=400):∀(i:Nat),i<d.rules.length->∀p,p<=b.length->(rdW d.rules b i p).2.2=0->∀n,i+2<=n->m_V n d (i:Int) (rdW d.rules b i p).1=some true:=by
 intro i
 induction i using Nat.strongRecOn with
 | ind i ih =>
  intro hi p hp hok n hn;obtain ⟨m,rfl⟩:∃m,n=m+1:=⟨n - 1,by omega⟩;have hr:=a_O hv hi;have hown:=l_E hv hb hi hp hok;have hit:=k_o hv hi hp hok
  show g_Z m (e_h m) d (i:Int) (rdW d.rules b i p).1=some true
  unfold g_Z
  rw [s_E hd hi rfl hr.kind hown,bd_some,iN_ (by simp)]
  generalize (rdW d.rules b i p).1=v at hown hit
  rw [o_L λj hj=>by
   obtain ⟨k,q,h1,h2,h3,h4,h5⟩:=hit j hj
   rw [e_G (ix_ hi) (b_d hr.kind),bd_some,h1,dF_ (show ¬(k:Int)<0 by omega),iN_ (by simp),ix_ hj,bd_some,h5]
   have:=ih k h2 (by omega) q h3 h4 m (by omega)
   rw [show (e_h m).impl_validValue d (k:Int) (rdW d.rules b k q).1=some true from this,bd_some,bd_some]
   rfl]
  rfl
theorem h_A (hv:O_ d=true)(hd:SmD d)(hb:b.length<=400){i:Nat}(hi:i<d.rules.length){p:Nat}(hp:p<=b.length)(hok:(rdW d.rules b i p).2.2=0){n:Nat}(hn:1000<=n):b_P n d (i:Int) (rdW d.rules b i p).1=some true:=by
 have hl:=(b_B hv).2;unfold b_P
 rw [h_s d hd,hv,bd_some]
 have:a_V d (i:Int)=true:=by unfold a_V;simp;omega
 rw [this,iP_ (by rfl),s_F hv hd hb i hi p hp hok n (by omega),bd_some,bd_some]
theorem k_r (hv:O_ d=true)(hd:SmD d)(hb:b.length<=400){i:Nat}(hi:i<d.rules.length){p:Nat}(hp:p<=b.length)(hok:(rdW d.rules b i p).2.2=0){n:Nat}(hn:1000<=n):c_E n d (i:Int) (rdW d.rules b i p).1=some true:=by
 have hl:=(b_B hv).2;unfold c_E
 rw [g_s n (by omega) d hd,hv,bd_some]
 have:a_V d (i:Int)=true:=by unfold a_V;simp;omega
 rw [this,iP_ (by rfl),s_G hv hd hb i hi p hp hok n (by omega),bd_some,bd_some]
end
end Go.Vw
