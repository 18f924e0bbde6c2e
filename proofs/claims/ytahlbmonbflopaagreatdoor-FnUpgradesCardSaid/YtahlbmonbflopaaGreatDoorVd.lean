
import Derived.Test.YtahlbmonbflopaaGreatDoorV7
import Derived.Test.YtahlbmonbflopaaGreatDoorVc
namespace Go.Vw
open Go.RowKit Dat
theorem j_P (x y:Int):h_v x y=some (min x y):=by
 unfold h_v k_6
 have:y_ (σ:=Int) (ρ:=Int) (λL=>(λH=>bd (idx [y] ((L:Nat):Int)) λG=>bd (i_Y G H) λI=>bd (α:=Int) (if I then some G else some H)<|λJ=>some<|.next J)) [y].length 0 x=some (.inl<|min x y):=by
  unfold i_Y
  simp only [lC_,List.length_nil,y_,ix_ (show 0<[y].length by simp),List.getElem_cons_zero,bd_some]
  by_cases h:y<x
  .rw [dT_ h,iP_ rfl,bd_some,Int.min_eq_right (by omega)]
  .rw [dF_ h,iN_ (by simp),bd_some,Int.min_eq_left (by omega)]
 rw [this,bd_some,el_inl,bd_some]
theorem j_Q (x y:Int):d_b x y=some (min x y):=by
 unfold d_b
 by_cases h:y<x
 .rw [dT_ h,iP_ rfl,Int.min_eq_right (by omega)]
 .rw [dF_ h,iN_ (by simp),Int.min_eq_left (by omega)]
theorem k_Y {s:Int}(h1:1<=s)(h4:s<=4):∃x,d_a s=some x/\j_ x 1=256 ^ s.toNat - 1:=by
 have:=h_2 h1 h4
 rw [e_3 (by omega) (by omega)] at this
 exact ⟨_,n_9 h1 h4,this.1⟩
section
variable {d:c_}{r:b_}{v:Val}
theorem r_d (hd:d.rules.length<=MX)(hk:a_2 d.rules r=true)(h:Own d.rules r v):g_h d r v=some true:=by
 have hkk:=c_7 hk;unfold g_h;unfold Own at h
 rcases h with ⟨h,H,a2,I,J⟩ | ⟨h,G,I,J⟩ | ⟨h,G,H,J⟩ | ⟨h,G,H,a2,J⟩ | ⟨h,G,H,J⟩ | ⟨h,G,I,H,a2⟩ | ⟨h,G,I,H⟩ | ⟨h,H,a2,I,L,O⟩ | ⟨h,G,I,H⟩ | ⟨h,G,I,H⟩
 .obtain ⟨_,h1,h4⟩:=c_J hk h;obtain ⟨x,V,W⟩:=k_Y h1 h4
  simp only [h,I,J,Int.reduceBEq,fT_,bd_some,V,b_u,W,dT_ H,dT_ a2,Bool.and_self]
  try rfl
 .simp only [h,G,I,J,Int.reduceBEq,bF_,fF_,fT_]
  try rfl
 .simp only [h,G,J,Int.reduceBEq,bF_,fF_,fT_,show ((v.bytes.length:Int)==r.size)=true by simpa using H]
  try rfl
 .have hl:=(d_6 hk h).2;have hx:idx r.kids 0=some (o_ r):=by rw [a_h (by omega)];unfold o_;rw [a_8 (by omega)]
  simp only [h,G,J,Int.reduceBEq,bF_,fF_,fT_,bd_some,hx,h_3 _ _ hd,j_Q,dT_ (show (v.bytes.length:Int)<=min 400 (lim d.rules<|o_ r) by omega)]
  try rfl
 .simp only [h,G,J,Int.reduceBEq,bF_,fF_,fT_,dT_ H]
  try rfl
 .have hl:=(c_5 hk h).2;have hx:idx r.kids 0=some (o_ r):=by rw [a_h (by omega)];unfold o_;rw [a_8 (by omega)]
  simp only [h,G,I,Int.reduceBEq,bF_,fF_,fT_,bd_some,hx,h_3 _ _ hd,j_Q,dT_ (show (v.items.length:Int)<=min 40 (lim d.rules<|o_ r) by omega)]
  try rfl
 .simp only [h,G,I,Int.reduceBEq,bF_,fF_,fT_,show ((v.items.length:Int)==(r.kids.length:Int))=true by simp [H]]
  try rfl
 .have hi:b_r r v.number 0=some (P_ r v.number 0):=d_q hkk v.number 0
  simp only [h,I,Int.reduceBEq,bF_,fF_,fT_,bd_some,show ((v.items.length:Int)==1)=true by simp [L],hi,dT_ O]
  try rfl
 .simp only [h,G,I,Int.reduceBEq,bF_,fF_,fT_,dT_ (show (v.items.length:Int)<=1 by omega)]
  try rfl
 .simp only [h,G,I,Int.reduceBEq,bF_,fF_,fT_,show ((v.items.length:Int)==1)=true by simp [H]]
  try rfl
theorem r_e (_:SmD d){i:Nat}(hi:i<d.rules.length)(hr:d.rules[i]=r)(hk:a_2 d.rules r=true)(h:Own d.rules r v):g_x d (i:Int) v=some true:=by
 have hkk:=c_7 hk;unfold g_x
 rw [ix_ hi,hr,bd_some]
 unfold Own at h
 rcases h with ⟨h,H,a2,I,J⟩ | ⟨h,G,I,J⟩ | ⟨h,G,H,J⟩ | ⟨h,G,H,a2,J⟩ | ⟨h,G,H,J⟩ | ⟨h,G,I,H,a2⟩ | ⟨h,G,I,H⟩ | ⟨h,H,a2,I,L,O⟩ | ⟨h,G,I,H⟩ | ⟨h,G,I,H⟩
 .obtain ⟨_,h1,h4⟩:=c_J hk h;have hl:lim d.rules (i:Int)=256 ^ r.size.toNat - 1:=by unfold lim;rw [ix_ hi,hr];simp only;rw [iP_ ⟨h,h1,h4⟩]
  simp only [h,I,J,Int.reduceBEq,bF_,fF_,fT_,bd_some,el_inl,un3,b_4,Bool.and_self,c_Z,hl,dT_ H,dT_ a2,List.length_nil]
  try rfl
 .simp only [h,G,I,J,Int.reduceBEq,bF_,fF_,fT_,bd_some,el_inl,un2,un3,b_4,Bool.and_self,dT_<|Int.le_refl 0,List.length_nil]
  try rfl
 .simp only [h,G,J,Int.reduceBEq,bF_,fF_,fT_,bd_some,el_inl,un3,b_4,Bool.and_self,dT_<|Int.le_refl 0,show ((v.bytes.length:Int) != r.size)=false by simp [H],List.length_nil,dT_ (show (v.bytes.length:Int)<=r.size by omega)]
  try rfl
 .have hl:=(d_6 hk h).2;have hx:idx r.kids 0=some (o_ r):=by rw [a_h (by omega)];unfold o_;rw [a_8 (by omega)]
  simp only [h,G,J,Int.reduceBEq,bF_,fF_,fT_,bd_some,el_inl,un3,b_4,Bool.and_self,dT_<|Int.le_refl 0,hx,c_Z,j_P,List.length_nil,dT_ (show (v.bytes.length:Int)<=min 400 (lim d.rules<|o_ r) by omega)]
  try rfl
 .simp only [h,G,J,Int.reduceBEq,bF_,fF_,fT_,bd_some,el_inl,un3,b_4,Bool.and_self,dT_<|Int.le_refl 0,List.length_nil,dT_ H]
  try rfl
 .have hl:=(c_5 hk h).2;have hx:idx r.kids 0=some (o_ r):=by rw [a_h (by omega)];unfold o_;rw [a_8 (by omega)]
  simp only [h,G,I,Int.reduceBEq,bF_,fF_,fT_,bd_some,el_inl,un2,un3,b_4,Bool.and_self,dT_<|Int.le_refl 0,hx,c_Z,j_P,List.length_nil,dT_ (show (v.items.length:Int)<=min 40 (lim d.rules<|o_ r) by omega)]
  try rfl
 .simp only [h,G,I,Int.reduceBEq,bF_,fF_,fT_,bd_some,el_inl,un2,un3,b_4,Bool.and_self,dT_<|Int.le_refl 0,show ((v.items.length:Int) != (r.kids.length:Int))=false by simp [H],List.length_nil,dT_ (show (v.items.length:Int)<=(r.kids.length:Int) by omega)]
  try rfl
 .have hl:=(c_6 hk h).2.1;have hx:idx r.kids 0=some (o_ r):=by rw [a_h (by omega)];unfold o_;rw [a_8 (by omega)]
  simp only [h,I,Int.reduceBEq,bF_,fF_,fT_,bd_some,el_inl,un2,un3,b_4,Bool.and_self,hx,c_Z,List.length_nil,show ((v.items.length:Int) != 1)=false by simp [L],dT_ H,dT_ a2,dT_ (show (v.items.length:Int)<=1 by omega)]
  try rfl
 .simp only [h,G,I,Int.reduceBEq,bF_,fF_,fT_,bd_some,el_inl,un2,un3,b_4,Bool.and_self,dT_<|Int.le_refl 0,List.length_nil,dT_ (show (v.items.length:Int)<=1 by omega)]
  try rfl
 .simp only [h,G,I,Int.reduceBEq,bF_,fF_,fT_,bd_some,el_inl,un2,un3,b_4,Bool.and_self,dT_<|Int.le_refl 0,List.length_nil,show ((v.items.length:Int) != 1)=false by simp [H],dT_ (show (v.items.length:Int)<=1 by omega)]
  try rfl
end
section
variable {d:c_}{b:Bt}
theorem r_f (hv:R_ d=true)(hd:SmD d)(hb:b.length<=400):∀(i:Nat),i<d.rules.length->∀p,p<=b.length->(rdW d.rules b i p).2.2=0->∀n,i+2<=n->h_k n d (i:Int) (rdW d.rules b i p).1=some true:=by
 intro i
 induction i using Nat.strongRecOn with
 | ind i ih =>
  intro hi p hp hok n hn;obtain ⟨m,rfl⟩:∃m,n=m+1:=⟨n - 1,by omega⟩;have hr:=a_S hv hi;have hown:=n_s hv hb hi hp hok;have hit:=n_u hv hi hp hok
  show g_i m (d_x m) d (i:Int) (rdW d.rules b i p).1=some true
  unfold g_i
  rw [ix_ hi,bd_some,r_d hd.rules hr.kind hown,bd_some,iN_ (by simp)]
  generalize (rdW d.rules b i p).1=v at hown hit
  rw [j_M λj hj=>by
   obtain ⟨k,q,h1,h2,h3,h4,h5⟩:=hit j hj
   rw [ix_ hj,bd_some,d_q<|c_7 hr.kind,bd_some,h1,h5]
   have:=ih k h2 (by omega) q h3 h4 m (by omega)
   rw [show (d_x m).spec_l9Valid d (k:Int) (rdW d.rules b k q).1=some true from this,bd_some,iN_ (by simp)]]
  rfl
theorem r_g (hv:R_ d=true)(hd:SmD d)(hb:b.length<=400):∀(i:Nat),i<d.rules.length->∀p,p<=b.length->(rdW d.rules b i p).2.2=0->∀n,i+2<=n->h_A n d (i:Int) (rdW d.rules b i p).1=some true:=by
 intro i
 induction i using Nat.strongRecOn with
 | ind i ih =>
  intro hi p hp hok n hn;obtain ⟨m,rfl⟩:∃m,n=m+1:=⟨n - 1,by omega⟩;have hr:=a_S hv hi;have hown:=n_s hv hb hi hp hok;have hit:=n_u hv hi hp hok
  show g_y m (d_H m) d (i:Int) (rdW d.rules b i p).1=some true
  unfold g_y
  rw [r_e hd hi rfl hr.kind hown,bd_some,iN_ (by simp)]
  generalize (rdW d.rules b i p).1=v at hown hit
  rw [j_M λj hj=>by
   obtain ⟨k,q,h1,h2,h3,h4,h5⟩:=hit j hj
   rw [j_H (ix_ hi) (c_7 hr.kind),bd_some,h1,dF_ (show ¬(k:Int)<0 by omega),iN_ (by simp),ix_ hj,bd_some,h5]
   have:=ih k h2 (by omega) q h3 h4 m (by omega)
   rw [show (d_H m).impl_validValue d (k:Int) (rdW d.rules b k q).1=some true from this,bd_some,bd_some]
   rfl]
  rfl
theorem r_h (hv:R_ d=true)(hd:SmD d)(hb:b.length<=400){i:Nat}(hi:i<d.rules.length){p:Nat}(hp:p<=b.length)(hok:(rdW d.rules b i p).2.2=0){n:Nat}(hn:1000<=n):d_y n d (i:Int) (rdW d.rules b i p).1=some true:=by
 have hl:=(b_X hv).2;unfold d_y
 rw [h_4 d hd,hv,bd_some]
 have:b_j d (i:Int)=true:=by unfold b_j;simp;omega
 rw [this,iP_ (by rfl),r_f hv hd hb i hi p hp hok n (by omega),bd_some,bd_some]
theorem r_i (hv:R_ d=true)(hd:SmD d)(hb:b.length<=400){i:Nat}(hi:i<d.rules.length){p:Nat}(hp:p<=b.length)(hok:(rdW d.rules b i p).2.2=0){n:Nat}(hn:1000<=n):d_I n d (i:Int) (rdW d.rules b i p).1=some true:=by
 have hl:=(b_X hv).2;unfold d_I
 rw [i_e n (by omega) d hd,hv,bd_some]
 have:b_j d (i:Int)=true:=by unfold b_j;simp;omega
 rw [this,iP_ (by rfl),r_g hv hd hb i hi p hp hok n (by omega),bd_some,bd_some]
end
end Go.Vw
