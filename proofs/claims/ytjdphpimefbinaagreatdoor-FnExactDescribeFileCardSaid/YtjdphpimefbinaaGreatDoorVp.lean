
import Derived.Test.YtjdphpimefbinaaGreatDoorVo
import Derived.Test.YtjdphpimefbinaaGreatDoorVn
namespace Go.Vw
open Go.RowKit Dat
theorem o_F (x y:Int):g_G x y=some (min x y):=by
 unfold g_G k_K
 have:v_ (σ:=Int) (ρ:=Int) (λL=>(λH=>bd (idx [y] ((L:Nat):Int)) λG=>bd (i_L G H) λI=>bd (α:=Int) (if I then some G else some H)<|λJ=>some<|.next J)) [y].length 0 x=some (.inl<|min x y):=by
  unfold i_L
  simp only [lC_,List.length_nil,v_,ix_ (show 0<[y].length by simp),List.getElem_cons_zero,bd_some]
  by_cases h:y<x
  .rw [dT_ h,iP_ rfl,bd_some,Int.min_eq_right (by omega)]
  .rw [dF_ h,iN_ (by simp),bd_some,Int.min_eq_left (by omega)]
 rw [this,bd_some,el_inl,bd_some]
theorem o_G (x y:Int):g_F x y=some (min x y):=by
 unfold g_F
 by_cases h:y<x
 .rw [dT_ h,iP_ rfl,Int.min_eq_right (by omega)]
 .rw [dF_ h,iN_ (by simp),Int.min_eq_left (by omega)]
theorem t_A {s:Int}(h1:1<=s)(h4:s<=4):∃x,e_K s=some x/\W_ x 1=256 ^ s.toNat - 1:=by
 have:=h_q h1 h4
 rw [g_i (by omega) (by omega)] at this
 exact ⟨_,t_w h1 h4,this.1⟩
section
variable {d:c_}{r:b_}{v:Val}
theorem t_B (hd:d.rules.length<=MX)(hk:a_m d.rules r=true)(h:Own d.rules r v):h_L d r v=some true:=by
 have hkk:=b_Q hk;unfold h_L;unfold Own at h
 rcases h with ⟨h,H,a2,I,J⟩ | ⟨h,G,I,J⟩ | ⟨h,G,H,J⟩ | ⟨h,G,H,a2,J⟩ | ⟨h,G,H,J⟩ | ⟨h,G,I,H,a2⟩ | ⟨h,G,I,H⟩ | ⟨h,H,a2,I,L,O⟩ | ⟨h,G,I,H⟩ | ⟨h,G,I,H⟩
 .obtain ⟨_,h1,h4⟩:=e_5 hk h;obtain ⟨x,V,W⟩:=t_A h1 h4
  simp only [h,I,J,Int.reduceBEq,fT_,bd_some,V,b_K,W,dT_ H,dT_ a2,Bool.and_self]
  try rfl
 .simp only [h,G,I,J,Int.reduceBEq,bF_,fF_,fT_]
  try rfl
 .simp only [h,G,J,Int.reduceBEq,bF_,fF_,fT_,show ((v.bytes.length:Int)==r.size)=true by simpa using H]
  try rfl
 .have hl:=(e_C hk h).2;have hx:idx r.kids 0=some (r_ r):=by rw [b_m (by omega)];unfold r_;rw [a_1 (by omega)]
  simp only [h,G,J,Int.reduceBEq,bF_,fF_,fT_,bd_some,hx,j_Y _ _ hd,o_G,dT_ (show (v.bytes.length:Int)<=min 400 (lim d.rules<|r_ r) by omega)]
  try rfl
 .simp only [h,G,J,Int.reduceBEq,bF_,fF_,fT_,dT_ H]
  try rfl
 .have hl:=(b_Z hk h).2;have hx:idx r.kids 0=some (r_ r):=by rw [b_m (by omega)];unfold r_;rw [a_1 (by omega)]
  simp only [h,G,I,Int.reduceBEq,bF_,fF_,fT_,bd_some,hx,j_Y _ _ hd,o_G,dT_ (show (v.items.length:Int)<=min 40 (lim d.rules<|r_ r) by omega)]
  try rfl
 .simp only [h,G,I,Int.reduceBEq,bF_,fF_,fT_,show ((v.items.length:Int)==(r.kids.length:Int))=true by simp [H]]
  try rfl
 .have hi:b_g r v.number 0=some (a_n r v.number 0):=c_a hkk v.number 0
  simp only [h,I,Int.reduceBEq,bF_,fF_,fT_,bd_some,show ((v.items.length:Int)==1)=true by simp [L],hi,dT_ O]
  try rfl
 .simp only [h,G,I,Int.reduceBEq,bF_,fF_,fT_,dT_ (show (v.items.length:Int)<=1 by omega)]
  try rfl
 .simp only [h,G,I,Int.reduceBEq,bF_,fF_,fT_,show ((v.items.length:Int)==1)=true by simp [H]]
  try rfl
theorem t_C (hd:SmD d){i:Nat}(hi:i<d.rules.length)(hr:d.rules[i]=r)(hk:a_m d.rules r=true)(h:Own d.rules r v):i_P d (i:Int) v=some true:=by
 have hkk:=b_Q hk;unfold i_P
 rw [ix_ hi,hr,bd_some]
 unfold Own at h
 rcases h with ⟨h,H,a2,I,J⟩ | ⟨h,G,I,J⟩ | ⟨h,G,H,J⟩ | ⟨h,G,H,a2,J⟩ | ⟨h,G,H,J⟩ | ⟨h,G,I,H,a2⟩ | ⟨h,G,I,H⟩ | ⟨h,H,a2,I,L,O⟩ | ⟨h,G,I,H⟩ | ⟨h,G,I,H⟩
 .obtain ⟨_,h1,h4⟩:=e_5 hk h;have hl:lim d.rules (i:Int)=256 ^ r.size.toNat - 1:=by unfold lim;rw [ix_ hi,hr];simp only;rw [iP_ ⟨h,h1,h4⟩]
  simp only [h,I,J,Int.reduceBEq,bF_,fF_,fT_,bd_some,el_inl,un3,b_W,Bool.and_self,g_2,hl,dT_ H,dT_ a2,List.length_nil]
  try rfl
 .simp only [h,G,I,J,Int.reduceBEq,bF_,fF_,fT_,bd_some,el_inl,un2,un3,b_W,Bool.and_self,dT_<|Int.le_refl 0,List.length_nil]
  try rfl
 .simp only [h,G,J,Int.reduceBEq,bF_,fF_,fT_,bd_some,el_inl,un3,b_W,Bool.and_self,dT_<|Int.le_refl 0,show ((v.bytes.length:Int) != r.size)=false by simp [H],List.length_nil,dT_ (show (v.bytes.length:Int)<=r.size by omega)]
  try rfl
 .have hl:=(e_C hk h).2;have hx:idx r.kids 0=some (r_ r):=by rw [b_m (by omega)];unfold r_;rw [a_1 (by omega)]
  simp only [h,G,J,Int.reduceBEq,bF_,fF_,fT_,bd_some,el_inl,un3,b_W,Bool.and_self,dT_<|Int.le_refl 0,hx,g_2,o_F,List.length_nil,dT_ (show (v.bytes.length:Int)<=min 400 (lim d.rules<|r_ r) by omega)]
  try rfl
 .simp only [h,G,J,Int.reduceBEq,bF_,fF_,fT_,bd_some,el_inl,un3,b_W,Bool.and_self,dT_<|Int.le_refl 0,List.length_nil,dT_ H]
  try rfl
 .have hl:=(b_Z hk h).2;have hx:idx r.kids 0=some (r_ r):=by rw [b_m (by omega)];unfold r_;rw [a_1 (by omega)]
  simp only [h,G,I,Int.reduceBEq,bF_,fF_,fT_,bd_some,el_inl,un2,un3,b_W,Bool.and_self,dT_<|Int.le_refl 0,hx,g_2,o_F,List.length_nil,dT_ (show (v.items.length:Int)<=min 40 (lim d.rules<|r_ r) by omega)]
  try rfl
 .simp only [h,G,I,Int.reduceBEq,bF_,fF_,fT_,bd_some,el_inl,un2,un3,b_W,Bool.and_self,dT_<|Int.le_refl 0,show ((v.items.length:Int) != (r.kids.length:Int))=false by simp [H],List.length_nil,dT_ (show (v.items.length:Int)<=(r.kids.length:Int) by omega)]
  try rfl
 .have hl:=(c_b hk h).2.1;have hx:idx r.kids 0=some (r_ r):=by rw [b_m (by omega)];unfold r_;rw [a_1 (by omega)]
  simp only [h,I,Int.reduceBEq,bF_,fF_,fT_,bd_some,el_inl,un2,un3,b_W,Bool.and_self,hx,g_2,List.length_nil,show ((v.items.length:Int) != 1)=false by simp [L],dT_ H,dT_ a2,dT_ (show (v.items.length:Int)<=1 by omega)]
  try rfl
 .simp only [h,G,I,Int.reduceBEq,bF_,fF_,fT_,bd_some,el_inl,un2,un3,b_W,Bool.and_self,dT_<|Int.le_refl 0,List.length_nil,dT_ (show (v.items.length:Int)<=1 by omega)]
  try rfl
 .simp only [h,G,I,Int.reduceBEq,bF_,fF_,fT_,bd_some,el_inl,un2,un3,b_W,Bool.and_self,dT_<|Int.le_refl 0,List.length_nil,show ((v.items.length:Int) != 1)=false by simp [H],dT_ (show (v.items.length:Int)<=1 by omega)]
  try rfl
end
section
variable {d:c_}{b:Bt}
theorem t_D (hv:G_ d=true)(hd:SmD d)(hb:b.length<=400):∀(i:Nat),i<d.rules.length->∀p,p<=b.length->(rdW d.rules b i p).2.2=0->∀n,i+2<=n->p_a n d (i:Int) (rdW d.rules b i p).1=some true:=by
 intro i
 induction i using Nat.strongRecOn with
 | ind i ih =>
  intro hi p hp hok n hn;obtain ⟨m,rfl⟩:∃m,n=m+1:=⟨n - 1,by omega⟩;have hr:=a_r hv hi;have hown:=m_f hv hb hi hp hok;have hit:=m_g hv hi hp hok
  show h_M m (f_r m) d (i:Int) (rdW d.rules b i p).1=some true
  unfold h_M
  rw [ix_ hi,bd_some,t_B hd.rules hr.kind hown,bd_some,iN_ (by simp)]
  generalize (rdW d.rules b i p).1=v at hown hit
  rw [o_y λj hj=>by
   obtain ⟨k,q,h1,h2,h3,h4,h5⟩:=hit j hj
   rw [ix_ hj,bd_some,c_a<|b_Q hr.kind,bd_some,h1,h5]
   have:=ih k h2 (by omega) q h3 h4 m (by omega)
   rw [show (f_r m).spec_l9Valid d (k:Int) (rdW d.rules b k q).1=some true from this,bd_some,iN_ (by simp)]]
  rfl
theorem t_E (hv:G_ d=true)(hd:SmD d)(hb:b.length<=400):∀(i:Nat),i<d.rules.length->∀p,p<=b.length->(rdW d.rules b i p).2.2=0->∀n,i+2<=n->p_r n d (i:Int) (rdW d.rules b i p).1=some true:=by
 intro i
 induction i using Nat.strongRecOn with
 | ind i ih =>
  intro hi p hp hok n hn;obtain ⟨m,rfl⟩:∃m,n=m+1:=⟨n - 1,by omega⟩;have hr:=a_r hv hi;have hown:=m_f hv hb hi hp hok;have hit:=m_g hv hi hp hok
  show i_Q m (f_z m) d (i:Int) (rdW d.rules b i p).1=some true
  unfold i_Q
  rw [t_C hd hi rfl hr.kind hown,bd_some,iN_ (by simp)]
  generalize (rdW d.rules b i p).1=v at hown hit
  rw [o_y λj hj=>by
   obtain ⟨k,q,h1,h2,h3,h4,h5⟩:=hit j hj
   rw [m_c (ix_ hi) (b_Q hr.kind),bd_some,h1,dF_ (show ¬(k:Int)<0 by omega),iN_ (by simp),ix_ hj,bd_some,h5]
   have:=ih k h2 (by omega) q h3 h4 m (by omega)
   rw [show (f_z m).impl_validValue d (k:Int) (rdW d.rules b k q).1=some true from this,bd_some,bd_some]
   rfl]
  rfl
theorem t_F (hv:G_ d=true)(hd:SmD d)(hb:b.length<=400){i:Nat}(hi:i<d.rules.length){p:Nat}(hp:p<=b.length)(hok:(rdW d.rules b i p).2.2=0){n:Nat}(hn:1000<=n):h_N n d (i:Int) (rdW d.rules b i p).1=some true:=by
 have hl:=(a_T hv).2;unfold h_N
 rw [n_I d hd,hv,bd_some]
 have:b_d d (i:Int)=true:=by unfold b_d;simp;omega
 rw [this,iP_ (by rfl),t_D hv hd hb i hi p hp hok n (by omega),bd_some,bd_some]
theorem t_G (hv:G_ d=true)(hd:SmD d)(hb:b.length<=400){i:Nat}(hi:i<d.rules.length){p:Nat}(hp:p<=b.length)(hok:(rdW d.rules b i p).2.2=0){n:Nat}(hn:1000<=n):i_R n d (i:Int) (rdW d.rules b i p).1=some true:=by
 have hl:=(a_T hv).2;unfold i_R
 rw [k_0 n (by omega) d hd,hv,bd_some]
 have:b_d d (i:Int)=true:=by unfold b_d;simp;omega
 rw [this,iP_ (by rfl),t_E hv hd hb i hi p hp hok n (by omega),bd_some,bd_some]
end
end Go.Vw
