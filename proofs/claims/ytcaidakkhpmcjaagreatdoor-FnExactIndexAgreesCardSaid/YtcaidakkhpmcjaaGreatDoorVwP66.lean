
import Derived.Test.YtcaidakkhpmcjaaGreatDoorVwP65
import Derived.Test.YtcaidakkhpmcjaaGreatDoorVwP54
namespace Go.Vw
open Go.RowKit Dat
theorem n_d (x y:Int):f_U x y=some (min x y):=by
 unfold f_U j_g
 have:v_ (σ:=Int) (ρ:=Int) (fun L=>(fun H=>bd (idx [y] ((L:Nat):Int)) fun G=>bd (h_N G H) fun I=>bd (α:=Int) (if I=true then some G else some H)<|fun J=>some<|.next J)) [y].length 0 x=some (.inl<|min x y):=by
  unfold h_N
  simp only [lC_,List.length_nil,v_,ix_ (show 0<[y].length by simp),List.getElem_cons_zero,bd_some]
  by_cases h:y<x
  ·rw [dT_ h,iP_ rfl,bd_some,Int.min_eq_right (by omega)]
  ·rw [dF_ h,iN_ (by simp),bd_some,Int.min_eq_left (by omega)]
 rw [this,bd_some,el_inl,bd_some]
theorem n_e (x y:Int):f_T x y=some (min x y):=by
 unfold f_T
 by_cases h:y<x
 ·rw [dT_ h,iP_ rfl,Int.min_eq_right (by omega)]
 ·rw [dF_ h,iN_ (by simp),Int.min_eq_left (by omega)]
theorem r_k {s:Int}(h1:1<=s)(h4:s<=4):∃x,e_5 s=some x/\S_ x 1=256 ^ s.toNat - 1:=by
 have:=g_v h1 h4
 rw [g_K (by omega) (by omega)] at this
 exact ⟨_,r_e h1 h4,this.1⟩
section
variable {d:b_}{r:e_}{v:Val}
theorem r_l (hd:d.rules.length<=MX)(hk:a_h d.rules r=true)(h:Own d.rules r v):g_P d r v=some true:=by
 have hkk:=b_R hk;unfold g_P;unfold Own at h
 rcases h with ⟨h,H,a2,I,J⟩ | ⟨h,G,I,J⟩ | ⟨h,G,H,J⟩ | ⟨h,G,H,a2,J⟩ | ⟨h,G,H,J⟩ | ⟨h,G,I,H,a2⟩ | ⟨h,G,I,H⟩ | ⟨h,H,a2,I,L,O⟩ | ⟨h,G,I,H⟩ | ⟨h,G,I,H⟩
 ·obtain ⟨_,h1,h4⟩:=d_Y hk h;obtain ⟨x,V,W⟩:=r_k h1 h4
  simp only [h,I,J,Int.reduceBEq,fT_,bd_some,V,b_F,W,dT_ H,dT_ a2,Bool.and_self]
  try rfl
 ·simp only [h,G,I,J,Int.reduceBEq,bF_,fF_,fT_]
  try rfl
 ·simp only [h,G,J,Int.reduceBEq,bF_,fF_,fT_,show ((v.bytes.length:Int)==r.size)=true by simpa using H]
  try rfl
 ·have hl:=(d_Z hk h).2;have hx:idx r.kids 0=some (s_ r):=by rw [b_7 (by omega)];unfold s_;rw [a_7 (by omega)]
  simp only [h,G,J,Int.reduceBEq,bF_,fF_,fT_,bd_some,hx,i_I _ _ hd,n_e,dT_ (show (v.bytes.length:Int)<=min 400 (lim d.rules<|s_ r) by omega)]
  try rfl
 ·simp only [h,G,J,Int.reduceBEq,bF_,fF_,fT_,dT_ H]
  try rfl
 ·have hl:=(c_0 hk h).2;have hx:idx r.kids 0=some (s_ r):=by rw [b_7 (by omega)];unfold s_;rw [a_7 (by omega)]
  simp only [h,G,I,Int.reduceBEq,bF_,fF_,fT_,bd_some,hx,i_I _ _ hd,n_e,dT_ (show (v.items.length:Int)<=min 40 (lim d.rules<|s_ r) by omega)]
  try rfl
 ·simp only [h,G,I,Int.reduceBEq,bF_,fF_,fT_,show ((v.items.length:Int)==(r.kids.length:Int))=true by simp [H]]
  try rfl
 ·have hi:a_Z r v.number 0=some (a_q r v.number 0):=c_C hkk v.number 0
  simp only [h,I,Int.reduceBEq,bF_,fF_,fT_,bd_some,show ((v.items.length:Int)==1)=true by simp [L],hi,dT_ O]
  try rfl
 ·simp only [h,G,I,Int.reduceBEq,bF_,fF_,fT_,dT_ (show (v.items.length:Int)<=1 by omega)]
  try rfl
 ·simp only [h,G,I,Int.reduceBEq,bF_,fF_,fT_,show ((v.items.length:Int)==1)=true by simp [H]]
  try rfl
theorem r_m (hd:SmD d){i:Nat}(hi:i<d.rules.length)(hr:d.rules[i]=r)(hk:a_h d.rules r=true)(h:Own d.rules r v):h_O d (i:Int) v=some true:=by
 have hkk:=b_R hk;unfold h_O
 rw [ix_ hi,hr,bd_some]
 unfold Own at h
 rcases h with ⟨h,H,a2,I,J⟩ | ⟨h,G,I,J⟩ | ⟨h,G,H,J⟩ | ⟨h,G,H,a2,J⟩ | ⟨h,G,H,J⟩ | ⟨h,G,I,H,a2⟩ | ⟨h,G,I,H⟩ | ⟨h,H,a2,I,L,O⟩ | ⟨h,G,I,H⟩ | ⟨h,G,I,H⟩
 ·obtain ⟨_,h1,h4⟩:=d_Y hk h;have hl:lim d.rules (i:Int)=256 ^ r.size.toNat - 1:=by unfold lim;rw [ix_ hi,hr];simp only;rw [iP_ ⟨h,h1,h4⟩]
  simp only [h,I,J,Int.reduceBEq,bF_,fF_,fT_,bd_some,el_inl,un3,b_G,Bool.and_self,f_h,hl,dT_ H,dT_ a2,List.length_nil]
  try rfl
 ·simp only [h,G,I,J,Int.reduceBEq,bF_,fF_,fT_,bd_some,el_inl,un2,un3,b_G,Bool.and_self,dT_<|Int.le_refl 0,List.length_nil]
  try rfl
 ·simp only [h,G,J,Int.reduceBEq,bF_,fF_,fT_,bd_some,el_inl,un3,b_G,Bool.and_self,dT_<|Int.le_refl 0,show ((v.bytes.length:Int) != r.size)=false by simp [H],List.length_nil,dT_ (show (v.bytes.length:Int)<=r.size by omega)]
  try rfl
 ·have hl:=(d_Z hk h).2;have hx:idx r.kids 0=some (s_ r):=by rw [b_7 (by omega)];unfold s_;rw [a_7 (by omega)]
  simp only [h,G,J,Int.reduceBEq,bF_,fF_,fT_,bd_some,el_inl,un3,b_G,Bool.and_self,dT_<|Int.le_refl 0,hx,f_h,n_d,List.length_nil,dT_ (show (v.bytes.length:Int)<=min 400 (lim d.rules<|s_ r) by omega)]
  try rfl
 ·simp only [h,G,J,Int.reduceBEq,bF_,fF_,fT_,bd_some,el_inl,un3,b_G,Bool.and_self,dT_<|Int.le_refl 0,List.length_nil,dT_ H]
  try rfl
 ·have hl:=(c_0 hk h).2;have hx:idx r.kids 0=some (s_ r):=by rw [b_7 (by omega)];unfold s_;rw [a_7 (by omega)]
  simp only [h,G,I,Int.reduceBEq,bF_,fF_,fT_,bd_some,el_inl,un2,un3,b_G,Bool.and_self,dT_<|Int.le_refl 0,hx,f_h,n_d,List.length_nil,dT_ (show (v.items.length:Int)<=min 40 (lim d.rules<|s_ r) by omega)]
  try rfl
 ·simp only [h,G,I,Int.reduceBEq,bF_,fF_,fT_,bd_some,el_inl,un2,un3,b_G,Bool.and_self,dT_<|Int.le_refl 0,show ((v.items.length:Int) != (r.kids.length:Int))=false by simp [H],List.length_nil,dT_ (show (v.items.length:Int)<=(r.kids.length:Int) by omega)]
  try rfl
 ·have hl:=(c_m hk h).2.1;have hx:idx r.kids 0=some (s_ r):=by rw [b_7 (by omega)];unfold s_;rw [a_7 (by omega)]
  simp only [h,I,Int.reduceBEq,bF_,fF_,fT_,bd_some,el_inl,un2,un3,b_G,Bool.and_self,hx,f_h,List.length_nil,show ((v.items.length:Int) != 1)=false by simp [L],dT_ H,dT_ a2,dT_ (show (v.items.length:Int)<=1 by omega)]
  try rfl
 ·simp only [h,G,I,Int.reduceBEq,bF_,fF_,fT_,bd_some,el_inl,un2,un3,b_G,Bool.and_self,dT_<|Int.le_refl 0,List.length_nil,dT_ (show (v.items.length:Int)<=1 by omega)]
  try rfl
 ·simp only [h,G,I,Int.reduceBEq,bF_,fF_,fT_,bd_some,el_inl,un2,un3,b_G,Bool.and_self,dT_<|Int.le_refl 0,List.length_nil,show ((v.items.length:Int) != 1)=false by simp [H],dT_ (show (v.items.length:Int)<=1 by omega)]
  try rfl
end
section
variable {d:b_}{b:List UInt8}
theorem r_n (hv:F_ d=true)(hd:SmD d)(hb:b.length<=400):∀(i:Nat),i<d.rules.length->∀p,p<=b.length->(rdW d.rules b i p).2.2=0->∀n,i+2<=n->n_F n d (i:Int) (rdW d.rules b i p).1=some true:=by
 intro i
 induction i using Nat.strongRecOn with
 | ind i ih =>
  intro hi p hp hok n hn;obtain ⟨m,rfl⟩:∃m,n=m+1:=⟨n - 1,by omega⟩;have hr:=a_r hv hi;have hown:=n_a hv hb hi hp hok;have hit:=n_c hv hi hp hok
  show g_Q m (e_F m) d (i:Int) (rdW d.rules b i p).1=some true
  unfold g_Q
  rw [ix_ hi,bd_some,r_l hd.rules hr.kind hown,bd_some,iN_ (by simp)]
  generalize (rdW d.rules b i p).1=v at hown hit
  rw [n_5 fun j hj=>by
   obtain ⟨k,q,h1,h2,h3,h4,h5⟩:=hit j hj
   rw [ix_ hj,bd_some,c_C<|b_R hr.kind,bd_some,h1,h5]
   have:=ih k h2 (by omega) q h3 h4 m (by omega)
   rw [show (e_F m).spec_l9Valid d (k:Int) (rdW d.rules b k q).1=some true from this,bd_some,iN_ (by simp)]]
  rfl
theorem r_o (hv:F_ d=true)(hd:SmD d)(hb:b.length<=400):∀(i:Nat),i<d.rules.length->∀p,p<=b.length->(rdW d.rules b i p).2.2=0->∀n,i+2<=n->n_V n d (i:Int) (rdW d.rules b i p).1=some true:=by
 intro i
 induction i using Nat.strongRecOn with
 | ind i ih =>
  intro hi p hp hok n hn;obtain ⟨m,rfl⟩:∃m,n=m+1:=⟨n - 1,by omega⟩;have hr:=a_r hv hi;have hown:=n_a hv hb hi hp hok;have hit:=n_c hv hi hp hok
  show h_P m (e_R m) d (i:Int) (rdW d.rules b i p).1=some true
  unfold h_P
  rw [r_m hd hi rfl hr.kind hown,bd_some,iN_ (by simp)]
  generalize (rdW d.rules b i p).1=v at hown hit
  rw [n_5 fun j hj=>by
   obtain ⟨k,q,h1,h2,h3,h4,h5⟩:=hit j hj
   rw [k_U (ix_ hi) (b_R hr.kind),bd_some,h1,dF_ (show ¬(k:Int)<0 by omega),iN_ (by simp),ix_ hj,bd_some,h5]
   have:=ih k h2 (by omega) q h3 h4 m (by omega)
   rw [show (e_R m).impl_validValue d (k:Int) (rdW d.rules b k q).1=some true from this,bd_some,bd_some]
   rfl]
  rfl
theorem r_p (hv:F_ d=true)(hd:SmD d)(hb:b.length<=400){i:Nat}(hi:i<d.rules.length){p:Nat}(hp:p<=b.length)(hok:(rdW d.rules b i p).2.2=0){n:Nat}(hn:1000<=n):g_R n d (i:Int) (rdW d.rules b i p).1=some true:=by
 have hl:=(a_O hv).2;unfold g_R
 rw [k_v d hd,hv,bd_some]
 have:a_J d (i:Int)=true:=by unfold a_J;simp;omega
 rw [this,iP_ (by rfl),r_n hv hd hb i hi p hp hok n (by omega),bd_some,bd_some]
theorem r_q (hv:F_ d=true)(hd:SmD d)(hb:b.length<=400){i:Nat}(hi:i<d.rules.length){p:Nat}(hp:p<=b.length)(hok:(rdW d.rules b i p).2.2=0){n:Nat}(hn:1000<=n):h_Q n d (i:Int) (rdW d.rules b i p).1=some true:=by
 have hl:=(a_O hv).2;unfold h_Q
 rw [g_w n (by omega) d hd,hv,bd_some]
 have:a_J d (i:Int)=true:=by unfold a_J;simp;omega
 rw [this,iP_ (by rfl),r_o hv hd hb i hi p hp hok n (by omega),bd_some,bd_some]
end
end Go.Vw
