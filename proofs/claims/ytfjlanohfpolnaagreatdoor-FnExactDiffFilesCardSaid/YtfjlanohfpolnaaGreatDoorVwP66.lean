
import Derived.Test.YtfjlanohfpolnaaGreatDoorVwP65
import Derived.Test.YtfjlanohfpolnaaGreatDoorVwP54
namespace Go.Vw
open Go.RowKit Dat
theorem n_2 (x y:Int):f_Q x y=some (min x y):=by
 unfold f_Q i_S
 have:u_ (σ:=Int) (ρ:=Int) (fun L=>(fun H=>bd (idx [y] ((L:Nat):Int)) fun G=>bd (h_k G H) fun I=>bd (α:=Int) (if I=true then some G else some H)<|fun J=>some<|.next J)) [y].length 0 x=some (.inl<|min x y):=by
  unfold h_k
  simp only [lC_,List.length_nil,u_,ix_ (show 0<[y].length by simp),List.getElem_cons_zero,bd_some]
  by_cases h:y<x
  ·rw [dT_ h,iP_ rfl,bd_some,Int.min_eq_right (by omega)]
  ·rw [dF_ h,iN_ (by simp),bd_some,Int.min_eq_left (by omega)]
 rw [this,bd_some,el_inl,bd_some]
theorem n_3 (x y:Int):f_O x y=some (min x y):=by
 unfold f_O
 by_cases h:y<x
 ·rw [dT_ h,iP_ rfl,Int.min_eq_right (by omega)]
 ·rw [dF_ h,iN_ (by simp),Int.min_eq_left (by omega)]
theorem r_K {s:Int}(h1:1<=s)(h4:s<=4):∃x,e_9 s=some x/\R_ x 1=256 ^ s.toNat - 1:=by
 have:=g_k h1 h4
 rw [f_z (by omega) (by omega)] at this
 exact ⟨_,r_C h1 h4,this.1⟩
section
variable {d:e_}{r:b_}{v:Val}
theorem r_L (hd:d.rules.length<=MX)(hk:a_g d.rules r=true)(h:Own d.rules r v):g_x d r v=some true:=by
 have hkk:=c_b hk;unfold g_x;unfold Own at h
 rcases h with ⟨h,H,a2,I,J⟩ | ⟨h,G,I,J⟩ | ⟨h,G,H,J⟩ | ⟨h,G,H,a2,J⟩ | ⟨h,G,H,J⟩ | ⟨h,G,I,H,a2⟩ | ⟨h,G,I,H⟩ | ⟨h,H,a2,I,L,O⟩ | ⟨h,G,I,H⟩ | ⟨h,G,I,H⟩
 ·obtain ⟨_,h1,h4⟩:=e_2 hk h;obtain ⟨x,V,W⟩:=r_K h1 h4
  simp only [h,I,J,Int.reduceBEq,fT_,bd_some,V,b_C,W,dT_ H,dT_ a2,Bool.and_self]
  try rfl
 ·simp only [h,G,I,J,Int.reduceBEq,bF_,fF_,fT_]
  try rfl
 ·simp only [h,G,J,Int.reduceBEq,bF_,fF_,fT_,show ((v.bytes.length:Int)==r.size)=true by simpa using H]
  try rfl
 ·have hl:=(e_G hk h).2;have hx:idx r.kids 0=some (v_ r):=by rw [b_u (by omega)];unfold v_;rw [a_l (by omega)]
  simp only [h,G,J,Int.reduceBEq,bF_,fF_,fT_,bd_some,hx,i_h _ _ hd,n_3,dT_ (show (v.bytes.length:Int)<=min 400 (lim d.rules<|v_ r) by omega)]
  try rfl
 ·simp only [h,G,J,Int.reduceBEq,bF_,fF_,fT_,dT_ H]
  try rfl
 ·have hl:=(d_s hk h).2;have hx:idx r.kids 0=some (v_ r):=by rw [b_u (by omega)];unfold v_;rw [a_l (by omega)]
  simp only [h,G,I,Int.reduceBEq,bF_,fF_,fT_,bd_some,hx,i_h _ _ hd,n_3,dT_ (show (v.items.length:Int)<=min 40 (lim d.rules<|v_ r) by omega)]
  try rfl
 ·simp only [h,G,I,Int.reduceBEq,bF_,fF_,fT_,show ((v.items.length:Int)==(r.kids.length:Int))=true by simp [H]]
  try rfl
 ·have hi:b_2 r v.number 0=some (a_n r v.number 0):=c_B hkk v.number 0
  simp only [h,I,Int.reduceBEq,bF_,fF_,fT_,bd_some,show ((v.items.length:Int)==1)=true by simp [L],hi,dT_ O]
  try rfl
 ·simp only [h,G,I,Int.reduceBEq,bF_,fF_,fT_,dT_ (show (v.items.length:Int)<=1 by omega)]
  try rfl
 ·simp only [h,G,I,Int.reduceBEq,bF_,fF_,fT_,show ((v.items.length:Int)==1)=true by simp [H]]
  try rfl
theorem r_M (hd:SmD d){i:Nat}(hi:i<d.rules.length)(hr:d.rules[i]=r)(hk:a_g d.rules r=true)(h:Own d.rules r v):h_q d (i:Int) v=some true:=by
 have hkk:=c_b hk;unfold h_q
 rw [ix_ hi,hr,bd_some]
 unfold Own at h
 rcases h with ⟨h,H,a2,I,J⟩ | ⟨h,G,I,J⟩ | ⟨h,G,H,J⟩ | ⟨h,G,H,a2,J⟩ | ⟨h,G,H,J⟩ | ⟨h,G,I,H,a2⟩ | ⟨h,G,I,H⟩ | ⟨h,H,a2,I,L,O⟩ | ⟨h,G,I,H⟩ | ⟨h,G,I,H⟩
 ·obtain ⟨_,h1,h4⟩:=e_2 hk h;have hl:lim d.rules (i:Int)=256 ^ r.size.toNat - 1:=by unfold lim;rw [ix_ hi,hr];simp only;rw [iP_ ⟨h,h1,h4⟩]
  simp only [h,I,J,Int.reduceBEq,bF_,fF_,fT_,bd_some,el_inl,un3,b_D,Bool.and_self,f_m,hl,dT_ H,dT_ a2,List.length_nil]
  try rfl
 ·simp only [h,G,I,J,Int.reduceBEq,bF_,fF_,fT_,bd_some,el_inl,un2,un3,b_D,Bool.and_self,dT_<|Int.le_refl 0,List.length_nil]
  try rfl
 ·simp only [h,G,J,Int.reduceBEq,bF_,fF_,fT_,bd_some,el_inl,un3,b_D,Bool.and_self,dT_<|Int.le_refl 0,show ((v.bytes.length:Int) != r.size)=false by simp [H],List.length_nil,dT_ (show (v.bytes.length:Int)<=r.size by omega)]
  try rfl
 ·have hl:=(e_G hk h).2;have hx:idx r.kids 0=some (v_ r):=by rw [b_u (by omega)];unfold v_;rw [a_l (by omega)]
  simp only [h,G,J,Int.reduceBEq,bF_,fF_,fT_,bd_some,el_inl,un3,b_D,Bool.and_self,dT_<|Int.le_refl 0,hx,f_m,n_2,List.length_nil,dT_ (show (v.bytes.length:Int)<=min 400 (lim d.rules<|v_ r) by omega)]
  try rfl
 ·simp only [h,G,J,Int.reduceBEq,bF_,fF_,fT_,bd_some,el_inl,un3,b_D,Bool.and_self,dT_<|Int.le_refl 0,List.length_nil,dT_ H]
  try rfl
 ·have hl:=(d_s hk h).2;have hx:idx r.kids 0=some (v_ r):=by rw [b_u (by omega)];unfold v_;rw [a_l (by omega)]
  simp only [h,G,I,Int.reduceBEq,bF_,fF_,fT_,bd_some,el_inl,un2,un3,b_D,Bool.and_self,dT_<|Int.le_refl 0,hx,f_m,n_2,List.length_nil,dT_ (show (v.items.length:Int)<=min 40 (lim d.rules<|v_ r) by omega)]
  try rfl
 ·simp only [h,G,I,Int.reduceBEq,bF_,fF_,fT_,bd_some,el_inl,un2,un3,b_D,Bool.and_self,dT_<|Int.le_refl 0,show ((v.items.length:Int) != (r.kids.length:Int))=false by simp [H],List.length_nil,dT_ (show (v.items.length:Int)<=(r.kids.length:Int) by omega)]
  try rfl
 ·have hl:=(e_3 hk h).2.1;have hx:idx r.kids 0=some (v_ r):=by rw [b_u (by omega)];unfold v_;rw [a_l (by omega)]
  simp only [h,I,Int.reduceBEq,bF_,fF_,fT_,bd_some,el_inl,un2,un3,b_D,Bool.and_self,hx,f_m,List.length_nil,show ((v.items.length:Int) != 1)=false by simp [L],dT_ H,dT_ a2,dT_ (show (v.items.length:Int)<=1 by omega)]
  try rfl
 ·simp only [h,G,I,Int.reduceBEq,bF_,fF_,fT_,bd_some,el_inl,un2,un3,b_D,Bool.and_self,dT_<|Int.le_refl 0,List.length_nil,dT_ (show (v.items.length:Int)<=1 by omega)]
  try rfl
 ·simp only [h,G,I,Int.reduceBEq,bF_,fF_,fT_,bd_some,el_inl,un2,un3,b_D,Bool.and_self,dT_<|Int.le_refl 0,List.length_nil,show ((v.items.length:Int) != 1)=false by simp [H],dT_ (show (v.items.length:Int)<=1 by omega)]
  try rfl
end
section
variable {d:e_}{b:List UInt8}
theorem r_N (hv:a_4 d=true)(hd:SmD d)(hb:b.length<=400):∀(i:Nat),i<d.rules.length->∀p,p<=b.length->(rdW d.rules b i p).2.2=0->∀n,i+2<=n->n_v n d (i:Int) (rdW d.rules b i p).1=some true:=by
 intro i
 induction i using Nat.strongRecOn with
 | ind i ih =>
  intro hi p hp hok n hn;obtain ⟨m,rfl⟩:∃m,n=m+1:=⟨n - 1,by omega⟩;have hr:=b_g hv hi;have hown:=k_F hv hb hi hp hok;have hit:=i_C hv hi hp hok
  show g_y m (e_M m) d (i:Int) (rdW d.rules b i p).1=some true
  unfold g_y
  rw [ix_ hi,bd_some,r_L hd.rules hr.kind hown,bd_some,iN_ (by simp)]
  generalize (rdW d.rules b i p).1=v at hown hit
  rw [m_Y fun j hj=>by
   obtain ⟨k,q,h1,h2,h3,h4,h5⟩:=hit j hj
   rw [ix_ hj,bd_some,c_B<|c_b hr.kind,bd_some,h1,h5]
   have:=ih k h2 (by omega) q h3 h4 m (by omega)
   rw [show (e_M m).spec_l9Valid d (k:Int) (rdW d.rules b k q).1=some true from this,bd_some,iN_ (by simp)]]
  rfl
theorem r_O (hv:a_4 d=true)(hd:SmD d)(hb:b.length<=400):∀(i:Nat),i<d.rules.length->∀p,p<=b.length->(rdW d.rules b i p).2.2=0->∀n,i+2<=n->n_K n d (i:Int) (rdW d.rules b i p).1=some true:=by
 intro i
 induction i using Nat.strongRecOn with
 | ind i ih =>
  intro hi p hp hok n hn;obtain ⟨m,rfl⟩:∃m,n=m+1:=⟨n - 1,by omega⟩;have hr:=b_g hv hi;have hown:=k_F hv hb hi hp hok;have hit:=i_C hv hi hp hok
  show h_r m (f_0 m) d (i:Int) (rdW d.rules b i p).1=some true
  unfold h_r
  rw [r_M hd hi rfl hr.kind hown,bd_some,iN_ (by simp)]
  generalize (rdW d.rules b i p).1=v at hown hit
  rw [m_Y fun j hj=>by
   obtain ⟨k,q,h1,h2,h3,h4,h5⟩:=hit j hj
   rw [i_x (ix_ hi) (c_b hr.kind),bd_some,h1,dF_ (show ¬(k:Int)<0 by omega),iN_ (by simp),ix_ hj,bd_some,h5]
   have:=ih k h2 (by omega) q h3 h4 m (by omega)
   rw [show (f_0 m).impl_validValue d (k:Int) (rdW d.rules b k q).1=some true from this,bd_some,bd_some]
   rfl]
  rfl
theorem i_D (hv:a_4 d=true)(hd:SmD d)(hb:b.length<=400){i:Nat}(hi:i<d.rules.length){p:Nat}(hp:p<=b.length)(hok:(rdW d.rules b i p).2.2=0){n:Nat}(hn:1000<=n):e_7 n d (i:Int) (rdW d.rules b i p).1=some true:=by
 have hl:=(c_2 hv).2;unfold e_7
 rw [k_p d hd,hv,bd_some]
 have:b_5 d (i:Int)=true:=by unfold b_5;simp;omega
 rw [this,iP_ (by rfl),r_N hv hd hb i hi p hp hok n (by omega),bd_some,bd_some]
theorem i_E (hv:a_4 d=true)(hd:SmD d)(hb:b.length<=400){i:Nat}(hi:i<d.rules.length){p:Nat}(hp:p<=b.length)(hok:(rdW d.rules b i p).2.2=0){n:Nat}(hn:1000<=n):e_k n d (i:Int) (rdW d.rules b i p).1=some true:=by
 have hl:=(c_2 hv).2;unfold e_k
 rw [i_j n (by omega) d hd,hv,bd_some]
 have:b_5 d (i:Int)=true:=by unfold b_5;simp;omega
 rw [this,iP_ (by rfl),r_O hv hd hb i hi p hp hok n (by omega),bd_some,bd_some]
end
end Go.Vw
