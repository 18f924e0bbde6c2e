
import Derived.Test.YtdcjkhfonojjiaaGreatDoorVwP65
import Derived.Test.YtdcjkhfonojjiaaGreatDoorVwP54
namespace Go.Vw
open Go.RowKit Dat
theorem m_k (x y:Int):f_E x y=some (min x y):=by
 unfold f_E i_F
 have:r_ (σ:=Int) (ρ:=Int) (fun L=>(fun H=>bd (idx [y] ((L:Nat):Int)) fun G=>bd (h_8 G H) fun I=>bd (α:=Int) (if I=true then some G else some H)<|fun J=>some<|.next J)) [y].length 0 x=some (.inl<|min x y):=by
  unfold h_8
  simp only [lC_,List.length_nil,r_,ix_ (show 0<[y].length by simp),List.getElem_cons_zero,bd_some]
  by_cases h:y<x
  ·rw [dT_ h,iP_ rfl,bd_some,Int.min_eq_right (by omega)]
  ·rw [dF_ h,iN_ (by simp),bd_some,Int.min_eq_left (by omega)]
 rw [this,bd_some,el_inl,bd_some]
theorem m_l (x y:Int):f_C x y=some (min x y):=by
 unfold f_C
 by_cases h:y<x
 ·rw [dT_ h,iP_ rfl,Int.min_eq_right (by omega)]
 ·rw [dF_ h,iN_ (by simp),Int.min_eq_left (by omega)]
theorem q_c {s:Int}(h1:1<=s)(h4:s<=4):∃x,d_V s=some x/\Q_ x 1=256 ^ s.toNat - 1:=by
 have:=g_1 h1 h4
 rw [f_o (by omega) (by omega)] at this
 exact ⟨_,q_4 h1 h4,this.1⟩
section
variable {d:d_}{r:e_}{v:Val}
theorem q_d (hd:d.rules.length<=MX)(hk:a_a d.rules r=true)(h:Own d.rules r v):g_m d r v=some true:=by
 have hkk:=c_8 hk;unfold g_m;unfold Own at h
 rcases h with ⟨h,H,a2,I,J⟩ | ⟨h,G,I,J⟩ | ⟨h,G,H,J⟩ | ⟨h,G,H,a2,J⟩ | ⟨h,G,H,J⟩ | ⟨h,G,I,H,a2⟩ | ⟨h,G,I,H⟩ | ⟨h,H,a2,I,L,O⟩ | ⟨h,G,I,H⟩ | ⟨h,G,I,H⟩
 ·obtain ⟨_,h1,h4⟩:=d_L hk h;obtain ⟨x,V,W⟩:=q_c h1 h4
  simp only [h,I,J,Int.reduceBEq,fT_,bd_some,V,b_x,W,dT_ H,dT_ a2,Bool.and_self]
  try rfl
 ·simp only [h,G,I,J,Int.reduceBEq,bF_,fF_,fT_]
  try rfl
 ·simp only [h,G,J,Int.reduceBEq,bF_,fF_,fT_,show ((v.bytes.length:Int)==r.size)=true by simpa using H]
  try rfl
 ·have hl:=(e_n hk h).2;have hx:idx r.kids 0=some (u_ r):=by rw [b_r (by omega)];unfold u_;rw [a_g (by omega)]
  simp only [h,G,J,Int.reduceBEq,bF_,fF_,fT_,bd_some,hx,h_U _ _ hd,m_l,dT_ (show (v.bytes.length:Int)<=min 400 (lim d.rules<|u_ r) by omega)]
  try rfl
 ·simp only [h,G,J,Int.reduceBEq,bF_,fF_,fT_,dT_ H]
  try rfl
 ·have hl:=(d_d hk h).2;have hx:idx r.kids 0=some (u_ r):=by rw [b_r (by omega)];unfold u_;rw [a_g (by omega)]
  simp only [h,G,I,Int.reduceBEq,bF_,fF_,fT_,bd_some,hx,h_U _ _ hd,m_l,dT_ (show (v.items.length:Int)<=min 40 (lim d.rules<|u_ r) by omega)]
  try rfl
 ·simp only [h,G,I,Int.reduceBEq,bF_,fF_,fT_,show ((v.items.length:Int)==(r.kids.length:Int))=true by simp [H]]
  try rfl
 ·have hi:a_X r v.number 0=some (a_i r v.number 0):=c_w hkk v.number 0
  simp only [h,I,Int.reduceBEq,bF_,fF_,fT_,bd_some,show ((v.items.length:Int)==1)=true by simp [L],hi,dT_ O]
  try rfl
 ·simp only [h,G,I,Int.reduceBEq,bF_,fF_,fT_,dT_ (show (v.items.length:Int)<=1 by omega)]
  try rfl
 ·simp only [h,G,I,Int.reduceBEq,bF_,fF_,fT_,show ((v.items.length:Int)==1)=true by simp [H]]
  try rfl
theorem q_e (hd:SmD d){i:Nat}(hi:i<d.rules.length)(hr:d.rules[i]=r)(hk:a_a d.rules r=true)(h:Own d.rules r v):h_i d (i:Int) v=some true:=by
 have hkk:=c_8 hk;unfold h_i
 rw [ix_ hi,hr,bd_some]
 unfold Own at h
 rcases h with ⟨h,H,a2,I,J⟩ | ⟨h,G,I,J⟩ | ⟨h,G,H,J⟩ | ⟨h,G,H,a2,J⟩ | ⟨h,G,H,J⟩ | ⟨h,G,I,H,a2⟩ | ⟨h,G,I,H⟩ | ⟨h,H,a2,I,L,O⟩ | ⟨h,G,I,H⟩ | ⟨h,G,I,H⟩
 ·obtain ⟨_,h1,h4⟩:=d_L hk h;have hl:lim d.rules (i:Int)=256 ^ r.size.toNat - 1:=by unfold lim;rw [ix_ hi,hr];simp only;rw [iP_ ⟨h,h1,h4⟩]
  simp only [h,I,J,Int.reduceBEq,bF_,fF_,fT_,bd_some,el_inl,un3,b_y,Bool.and_self,f_7,hl,dT_ H,dT_ a2,List.length_nil]
  try rfl
 ·simp only [h,G,I,J,Int.reduceBEq,bF_,fF_,fT_,bd_some,el_inl,un2,un3,b_y,Bool.and_self,dT_<|Int.le_refl 0,List.length_nil]
  try rfl
 ·simp only [h,G,J,Int.reduceBEq,bF_,fF_,fT_,bd_some,el_inl,un3,b_y,Bool.and_self,dT_<|Int.le_refl 0,show ((v.bytes.length:Int) != r.size)=false by simp [H],List.length_nil,dT_ (show (v.bytes.length:Int)<=r.size by omega)]
  try rfl
 ·have hl:=(e_n hk h).2;have hx:idx r.kids 0=some (u_ r):=by rw [b_r (by omega)];unfold u_;rw [a_g (by omega)]
  simp only [h,G,J,Int.reduceBEq,bF_,fF_,fT_,bd_some,el_inl,un3,b_y,Bool.and_self,dT_<|Int.le_refl 0,hx,f_7,m_k,List.length_nil,dT_ (show (v.bytes.length:Int)<=min 400 (lim d.rules<|u_ r) by omega)]
  try rfl
 ·simp only [h,G,J,Int.reduceBEq,bF_,fF_,fT_,bd_some,el_inl,un3,b_y,Bool.and_self,dT_<|Int.le_refl 0,List.length_nil,dT_ H]
  try rfl
 ·have hl:=(d_d hk h).2;have hx:idx r.kids 0=some (u_ r):=by rw [b_r (by omega)];unfold u_;rw [a_g (by omega)]
  simp only [h,G,I,Int.reduceBEq,bF_,fF_,fT_,bd_some,el_inl,un2,un3,b_y,Bool.and_self,dT_<|Int.le_refl 0,hx,f_7,m_k,List.length_nil,dT_ (show (v.items.length:Int)<=min 40 (lim d.rules<|u_ r) by omega)]
  try rfl
 ·simp only [h,G,I,Int.reduceBEq,bF_,fF_,fT_,bd_some,el_inl,un2,un3,b_y,Bool.and_self,dT_<|Int.le_refl 0,show ((v.items.length:Int) != (r.kids.length:Int))=false by simp [H],List.length_nil,dT_ (show (v.items.length:Int)<=(r.kids.length:Int) by omega)]
  try rfl
 ·have hl:=(d_M hk h).2.1;have hx:idx r.kids 0=some (u_ r):=by rw [b_r (by omega)];unfold u_;rw [a_g (by omega)]
  simp only [h,I,Int.reduceBEq,bF_,fF_,fT_,bd_some,el_inl,un2,un3,b_y,Bool.and_self,hx,f_7,List.length_nil,show ((v.items.length:Int) != 1)=false by simp [L],dT_ H,dT_ a2,dT_ (show (v.items.length:Int)<=1 by omega)]
  try rfl
 ·simp only [h,G,I,Int.reduceBEq,bF_,fF_,fT_,bd_some,el_inl,un2,un3,b_y,Bool.and_self,dT_<|Int.le_refl 0,List.length_nil,dT_ (show (v.items.length:Int)<=1 by omega)]
  try rfl
 ·simp only [h,G,I,Int.reduceBEq,bF_,fF_,fT_,bd_some,el_inl,un2,un3,b_y,Bool.and_self,dT_<|Int.le_refl 0,List.length_nil,show ((v.items.length:Int) != 1)=false by simp [H],dT_ (show (v.items.length:Int)<=1 by omega)]
  try rfl
end
section
variable {d:d_}{b:List UInt8}
theorem q_f (hv:a_0 d=true)(hd:SmD d)(hb:b.length<=400):∀(i:Nat),i<d.rules.length->∀p,p<=b.length->(rdW d.rules b i p).2.2=0->∀n,i+2<=n->n_d n d (i:Int) (rdW d.rules b i p).1=some true:=by
 intro i
 induction i using Nat.strongRecOn with
 | ind i ih =>
  intro hi p hp hok n hn;obtain ⟨m,rfl⟩:∃m,n=m+1:=⟨n - 1,by omega⟩;have hr:=b_8 hv hi;have hown:=j_I hv hb hi hp hok;have hit:=i_e hv hi hp hok
  show g_n m (e_y m) d (i:Int) (rdW d.rules b i p).1=some true
  unfold g_n
  rw [ix_ hi,bd_some,q_d hd.rules hr.kind hown,bd_some,iN_ (by simp)]
  generalize (rdW d.rules b i p).1=v at hown hit
  rw [m_g fun j hj=>by
   obtain ⟨k,q,h1,h2,h3,h4,h5⟩:=hit j hj
   rw [ix_ hj,bd_some,c_w<|c_8 hr.kind,bd_some,h1,h5]
   have:=ih k h2 (by omega) q h3 h4 m (by omega)
   rw [show (e_y m).spec_l9Valid d (k:Int) (rdW d.rules b k q).1=some true from this,bd_some,iN_ (by simp)]]
  rfl
theorem q_g (hv:a_0 d=true)(hd:SmD d)(hb:b.length<=400):∀(i:Nat),i<d.rules.length->∀p,p<=b.length->(rdW d.rules b i p).2.2=0->∀n,i+2<=n->n_s n d (i:Int) (rdW d.rules b i p).1=some true:=by
 intro i
 induction i using Nat.strongRecOn with
 | ind i ih =>
  intro hi p hp hok n hn;obtain ⟨m,rfl⟩:∃m,n=m+1:=⟨n - 1,by omega⟩;have hr:=b_8 hv hi;have hown:=j_I hv hb hi hp hok;have hit:=i_e hv hi hp hok
  show h_j m (e_P m) d (i:Int) (rdW d.rules b i p).1=some true
  unfold h_j
  rw [q_e hd hi rfl hr.kind hown,bd_some,iN_ (by simp)]
  generalize (rdW d.rules b i p).1=v at hown hit
  rw [m_g fun j hj=>by
   obtain ⟨k,q,h1,h2,h3,h4,h5⟩:=hit j hj
   rw [i_9 (ix_ hi) (c_8 hr.kind),bd_some,h1,dF_ (show ¬(k:Int)<0 by omega),iN_ (by simp),ix_ hj,bd_some,h5]
   have:=ih k h2 (by omega) q h3 h4 m (by omega)
   rw [show (e_P m).impl_validValue d (k:Int) (rdW d.rules b k q).1=some true from this,bd_some,bd_some]
   rfl]
  rfl
theorem i_f (hv:a_0 d=true)(hd:SmD d)(hb:b.length<=400){i:Nat}(hi:i<d.rules.length){p:Nat}(hp:p<=b.length)(hok:(rdW d.rules b i p).2.2=0){n:Nat}(hn:1000<=n):d_U n d (i:Int) (rdW d.rules b i p).1=some true:=by
 have hl:=(b_V hv).2;unfold d_U
 rw [j_v d hd,hv,bd_some]
 have:a_Z d (i:Int)=true:=by unfold a_Z;simp;omega
 rw [this,iP_ (by rfl),q_f hv hd hb i hi p hp hok n (by omega),bd_some,bd_some]
theorem i_g (hv:a_0 d=true)(hd:SmD d)(hb:b.length<=400){i:Nat}(hi:i<d.rules.length){p:Nat}(hp:p<=b.length)(hok:(rdW d.rules b i p).2.2=0){n:Nat}(hn:1000<=n):e_4 n d (i:Int) (rdW d.rules b i p).1=some true:=by
 have hl:=(b_V hv).2;unfold e_4
 rw [h_W n (by omega) d hd,hv,bd_some]
 have:a_Z d (i:Int)=true:=by unfold a_Z;simp;omega
 rw [this,iP_ (by rfl),q_g hv hd hb i hi p hp hok n (by omega),bd_some,bd_some]
end
end Go.Vw
