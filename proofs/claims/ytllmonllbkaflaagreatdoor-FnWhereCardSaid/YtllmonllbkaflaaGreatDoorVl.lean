
import Derived.Test.YtllmonllbkaflaaGreatDoorVf
import Derived.Test.YtllmonllbkaflaaGreatDoorVk
namespace Go.Vw
open Go.RowKit Dat
theorem p_8 (x y:Int):h_D x y=some (min x y):=by
 unfold h_D k_T
 have:p_ (σ:=Int) (ρ:=Int) (λL=>(λH=>bd (idx [y] ((L:Nat):Int)) λG=>bd (j_l G H) λI=>bd (α:=Int) (if I then some G else some H)<|λJ=>some<|.next J)) [y].length 0 x=some (.inl<|min x y):=by
  unfold j_l
  simp only [lC_,List.length_nil,p_,ix_ (show 0<[y].length by simp),List.getElem_cons_zero,bd_some]
  by_cases h:y<x
  .rw [dT_ h,iP_ rfl,bd_some,Int.min_eq_right (by omega)]
  .rw [dF_ h,iN_ (by simp),bd_some,Int.min_eq_left (by omega)]
 rw [this,bd_some,el_inl,bd_some]
theorem p_9 (x y:Int):d_C x y=some (min x y):=by
 unfold d_C
 by_cases h:y<x
 .rw [dT_ h,iP_ rfl,Int.min_eq_right (by omega)]
 .rw [dF_ h,iN_ (by simp),Int.min_eq_left (by omega)]
theorem u_2 {s:Int}(h1:1<=s)(h4:s<=4):∃x,d_A s=some x/\y_ x 1=256 ^ s.toNat - 1:=by
 have:=i_b h1 h4
 rw [d_x (by omega) (by omega)] at this
 exact ⟨_,o_Z h1 h4,this.1⟩
section
variable {d:c_}{r:b_}{v:Val}
theorem u_3 (hd:d.rules.length<=MX)(hk:a_q d.rules r=true)(h:Own d.rules r v):i_t d r v=some true:=by
 have hkk:=c_F hk;unfold i_t;unfold Own at h
 rcases h with ⟨h,H,a2,I,J⟩ | ⟨h,G,I,J⟩ | ⟨h,G,H,J⟩ | ⟨h,G,H,a2,J⟩ | ⟨h,G,H,J⟩ | ⟨h,G,I,H,a2⟩ | ⟨h,G,I,H⟩ | ⟨h,H,a2,I,L,O⟩ | ⟨h,G,I,H⟩ | ⟨h,G,I,H⟩
 .obtain ⟨_,h1,h4⟩:=e_t hk h;obtain ⟨x,V,W⟩:=u_2 h1 h4
  simp only [h,I,J,Int.reduceBEq,fT_,bd_some,V,b_U,W,dT_ H,dT_ a2,Bool.and_self]
  try rfl
 .simp only [h,G,I,J,Int.reduceBEq,bF_,fF_,fT_]
  try rfl
 .simp only [h,G,J,Int.reduceBEq,bF_,fF_,fT_,show ((v.bytes.length:Int)==r.size)=true by simpa using H]
  try rfl
 .have hl:=(f_7 hk h).2;have hx:idx r.kids 0=some (n_ r):=by rw [a_M (by omega)];unfold n_;rw [Z_ (by omega)]
  simp only [h,G,J,Int.reduceBEq,bF_,fF_,fT_,bd_some,hx,k_8 _ _ hd,p_9,dT_ (show (v.bytes.length:Int)<=min 400 (lim d.rules<|n_ r) by omega)]
  try rfl
 .simp only [h,G,J,Int.reduceBEq,bF_,fF_,fT_,dT_ H]
  try rfl
 .have hl:=(c_E hk h).2;have hx:idx r.kids 0=some (n_ r):=by rw [a_M (by omega)];unfold n_;rw [Z_ (by omega)]
  simp only [h,G,I,Int.reduceBEq,bF_,fF_,fT_,bd_some,hx,k_8 _ _ hd,p_9,dT_ (show (v.items.length:Int)<=min 40 (lim d.rules<|n_ r) by omega)]
  try rfl
 .simp only [h,G,I,Int.reduceBEq,bF_,fF_,fT_,show ((v.items.length:Int)==(r.kids.length:Int))=true by simp [H]]
  try rfl
 .have hi:b_9 r v.number 0=some (X_ r v.number 0):=c_D hkk v.number 0
  simp only [h,I,Int.reduceBEq,bF_,fF_,fT_,bd_some,show ((v.items.length:Int)==1)=true by simp [L],hi,dT_ O]
  try rfl
 .simp only [h,G,I,Int.reduceBEq,bF_,fF_,fT_,dT_ (show (v.items.length:Int)<=1 by omega)]
  try rfl
 .simp only [h,G,I,Int.reduceBEq,bF_,fF_,fT_,show ((v.items.length:Int)==1)=true by simp [H]]
  try rfl
theorem u_4 (hd:SmD d){i:Nat}(hi:i<d.rules.length)(hr:d.rules[i]=r)(hk:a_q d.rules r=true)(h:Own d.rules r v):j_q d (i:Int) v=some true:=by
 have hkk:=c_F hk;unfold j_q
 rw [ix_ hi,hr,bd_some]
 unfold Own at h
 rcases h with ⟨h,H,a2,I,J⟩ | ⟨h,G,I,J⟩ | ⟨h,G,H,J⟩ | ⟨h,G,H,a2,J⟩ | ⟨h,G,H,J⟩ | ⟨h,G,I,H,a2⟩ | ⟨h,G,I,H⟩ | ⟨h,H,a2,I,L,O⟩ | ⟨h,G,I,H⟩ | ⟨h,G,I,H⟩
 .obtain ⟨_,h1,h4⟩:=e_t hk h;have hl:lim d.rules (i:Int)=256 ^ r.size.toNat - 1:=by unfold lim;rw [ix_ hi,hr];simp only;rw [iP_ ⟨h,h1,h4⟩]
  simp only [h,I,J,Int.reduceBEq,bF_,fF_,fT_,bd_some,el_inl,un3,c_c,Bool.and_self,h_9,hl,dT_ H,dT_ a2,List.length_nil]
  try rfl
 .simp only [h,G,I,J,Int.reduceBEq,bF_,fF_,fT_,bd_some,el_inl,un2,un3,c_c,Bool.and_self,dT_<|Int.le_refl 0,List.length_nil]
  try rfl
 .simp only [h,G,J,Int.reduceBEq,bF_,fF_,fT_,bd_some,el_inl,un3,c_c,Bool.and_self,dT_<|Int.le_refl 0,show ((v.bytes.length:Int) != r.size)=false by simp [H],List.length_nil,dT_ (show (v.bytes.length:Int)<=r.size by omega)]
  try rfl
 .have hl:=(f_7 hk h).2;have hx:idx r.kids 0=some (n_ r):=by rw [a_M (by omega)];unfold n_;rw [Z_ (by omega)]
  simp only [h,G,J,Int.reduceBEq,bF_,fF_,fT_,bd_some,el_inl,un3,c_c,Bool.and_self,dT_<|Int.le_refl 0,hx,h_9,p_8,List.length_nil,dT_ (show (v.bytes.length:Int)<=min 400 (lim d.rules<|n_ r) by omega)]
  try rfl
 .simp only [h,G,J,Int.reduceBEq,bF_,fF_,fT_,bd_some,el_inl,un3,c_c,Bool.and_self,dT_<|Int.le_refl 0,List.length_nil,dT_ H]
  try rfl
 .have hl:=(c_E hk h).2;have hx:idx r.kids 0=some (n_ r):=by rw [a_M (by omega)];unfold n_;rw [Z_ (by omega)]
  simp only [h,G,I,Int.reduceBEq,bF_,fF_,fT_,bd_some,el_inl,un2,un3,c_c,Bool.and_self,dT_<|Int.le_refl 0,hx,h_9,p_8,List.length_nil,dT_ (show (v.items.length:Int)<=min 40 (lim d.rules<|n_ r) by omega)]
  try rfl
 .simp only [h,G,I,Int.reduceBEq,bF_,fF_,fT_,bd_some,el_inl,un2,un3,c_c,Bool.and_self,dT_<|Int.le_refl 0,show ((v.items.length:Int) != (r.kids.length:Int))=false by simp [H],List.length_nil,dT_ (show (v.items.length:Int)<=(r.kids.length:Int) by omega)]
  try rfl
 .have hl:=(c_P hk h).2.1;have hx:idx r.kids 0=some (n_ r):=by rw [a_M (by omega)];unfold n_;rw [Z_ (by omega)]
  simp only [h,I,Int.reduceBEq,bF_,fF_,fT_,bd_some,el_inl,un2,un3,c_c,Bool.and_self,hx,h_9,List.length_nil,show ((v.items.length:Int) != 1)=false by simp [L],dT_ H,dT_ a2,dT_ (show (v.items.length:Int)<=1 by omega)]
  try rfl
 .simp only [h,G,I,Int.reduceBEq,bF_,fF_,fT_,bd_some,el_inl,un2,un3,c_c,Bool.and_self,dT_<|Int.le_refl 0,List.length_nil,dT_ (show (v.items.length:Int)<=1 by omega)]
  try rfl
 .simp only [h,G,I,Int.reduceBEq,bF_,fF_,fT_,bd_some,el_inl,un2,un3,c_c,Bool.and_self,dT_<|Int.le_refl 0,List.length_nil,show ((v.items.length:Int) != 1)=false by simp [H],dT_ (show (v.items.length:Int)<=1 by omega)]
  try rfl
end
section
variable {d:c_}{b:Bt}
theorem u_5 (hv:D_ d=true)(hd:SmD d)(hb:b.length<=400):∀(i:Nat),i<d.rules.length->∀p,p<=b.length->(rdW d.rules b i p).2.2=0->∀n,i+2<=n->p_G n d (i:Int) (rdW d.rules b i p).1=some true:=by
 intro i
 induction i using Nat.strongRecOn with
 | ind i ih =>
  intro hi p hp hok n hn;obtain ⟨m,rfl⟩:∃m,n=m+1:=⟨n - 1,by omega⟩;have hr:=a_L hv hi;have hown:=m_s hv hb hi hp hok;have hit:=m_t hv hi hp hok
  show i_u m (g_f m) d (i:Int) (rdW d.rules b i p).1=some true
  unfold i_u
  rw [ix_ hi,bd_some,u_3 hd.rules hr.kind hown,bd_some,iN_ (by simp)]
  generalize (rdW d.rules b i p).1=v at hown hit
  rw [p_1 λj hj=>by
   obtain ⟨k,q,h1,h2,h3,h4,h5⟩:=hit j hj
   rw [ix_ hj,bd_some,c_D<|c_F hr.kind,bd_some,h1,h5]
   have:=ih k h2 (by omega) q h3 h4 m (by omega)
   rw [show (g_f m).spec_l9Valid d (k:Int) (rdW d.rules b k q).1=some true from this,bd_some,iN_ (by simp)]]
  rfl
theorem u_6 (hv:D_ d=true)(hd:SmD d)(hb:b.length<=400):∀(i:Nat),i<d.rules.length->∀p,p<=b.length->(rdW d.rules b i p).2.2=0->∀n,i+2<=n->q_1 n d (i:Int) (rdW d.rules b i p).1=some true:=by
 intro i
 induction i using Nat.strongRecOn with
 | ind i ih =>
  intro hi p hp hok n hn;obtain ⟨m,rfl⟩:∃m,n=m+1:=⟨n - 1,by omega⟩;have hr:=a_L hv hi;have hown:=m_s hv hb hi hp hok;have hit:=m_t hv hi hp hok
  show j_r m (g_w m) d (i:Int) (rdW d.rules b i p).1=some true
  unfold j_r
  rw [u_4 hd hi rfl hr.kind hown,bd_some,iN_ (by simp)]
  generalize (rdW d.rules b i p).1=v at hown hit
  rw [p_1 λj hj=>by
   obtain ⟨k,q,h1,h2,h3,h4,h5⟩:=hit j hj
   rw [m_m (ix_ hi) (c_F hr.kind),bd_some,h1,dF_ (show ¬(k:Int)<0 by omega),iN_ (by simp),ix_ hj,bd_some,h5]
   have:=ih k h2 (by omega) q h3 h4 m (by omega)
   rw [show (g_w m).impl_validValue d (k:Int) (rdW d.rules b k q).1=some true from this,bd_some,bd_some]
   rfl]
  rfl
theorem p_a (hv:D_ d=true)(hd:SmD d)(hb:b.length<=400){i:Nat}(hi:i<d.rules.length){p:Nat}(hp:p<=b.length)(hok:(rdW d.rules b i p).2.2=0){n:Nat}(hn:1000<=n):i_v n d (i:Int) (rdW d.rules b i p).1=some true:=by
 have hl:=(b_f hv).2;unfold i_v
 rw [n_X d hd,hv,bd_some]
 have:b_n d (i:Int)=true:=by unfold b_n;simp;omega
 rw [this,iP_ (by rfl),u_5 hv hd hb i hi p hp hok n (by omega),bd_some,bd_some]
theorem u_7 (hv:D_ d=true)(hd:SmD d)(hb:b.length<=400){i:Nat}(hi:i<d.rules.length){p:Nat}(hp:p<=b.length)(hok:(rdW d.rules b i p).2.2=0){n:Nat}(hn:1000<=n):j_s n d (i:Int) (rdW d.rules b i p).1=some true:=by
 have hl:=(b_f hv).2;unfold j_s
 rw [k_a n (by omega) d hd,hv,bd_some]
 have:b_n d (i:Int)=true:=by unfold b_n;simp;omega
 rw [this,iP_ (by rfl),u_6 hv hd hb i hi p hp hok n (by omega),bd_some,bd_some]
end
end Go.Vw
