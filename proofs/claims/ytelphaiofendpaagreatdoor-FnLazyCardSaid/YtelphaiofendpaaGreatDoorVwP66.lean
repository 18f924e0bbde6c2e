
import Derived.Test.YtelphaiofendpaaGreatDoorVwP65
import Derived.Test.YtelphaiofendpaaGreatDoorVwP54
namespace Go.Vw
open Go.RowKit Dat
theorem n_T (x y:Int):g_p x y=some (min x y):=by
 unfold g_p j_S
 have:x_ (σ:=Int) (ρ:=Int) (λL=>(λH=>bd (idx [y] ((L:Nat):Int)) λG=>bd (i_a G H) λI=>bd (α:=Int) (if I then some G else some H)<|λJ=>some<|.next J)) [y].length 0 x=some (.inl<|min x y):=by
  unfold i_a
  simp only [lC_,List.length_nil,x_,ix_ (show 0<[y].length by simp),List.getElem_cons_zero,bd_some]
  by_cases h:y<x
  .rw [dT_ h,iP_ rfl,bd_some,Int.min_eq_right (by omega)]
  .rw [dF_ h,iN_ (by simp),bd_some,Int.min_eq_left (by omega)]
 rw [this,bd_some,el_inl,bd_some]
theorem n_U (x y:Int):d_d x y=some (min x y):=by
 unfold d_d
 by_cases h:y<x
 .rw [dT_ h,iP_ rfl,Int.min_eq_right (by omega)]
 .rw [dF_ h,iN_ (by simp),Int.min_eq_left (by omega)]
theorem s_m {s:Int}(h1:1<=s)(h4:s<=4):∃x,d_a s=some x/\Q_ x 1=256 ^ s.toNat - 1:=by
 have:=h_8 h1 h4
 rw [d_7 (by omega) (by omega)] at this
 exact ⟨_,l_v h1 h4,this.1⟩
section
variable {d:d_}{r:g_}{v:Val}
theorem s_n (hd:d.rules.length<=MX)(hk:a_o d.rules r=true)(h:Own d.rules r v):f_6 d r v=some true:=by
 have hkk:=c_q hk;unfold f_6;unfold Own at h
 rcases h with ⟨h,H,a2,I,J⟩ | ⟨h,G,I,J⟩ | ⟨h,G,H,J⟩ | ⟨h,G,H,a2,J⟩ | ⟨h,G,H,J⟩ | ⟨h,G,I,H,a2⟩ | ⟨h,G,I,H⟩ | ⟨h,H,a2,I,L,O⟩ | ⟨h,G,I,H⟩ | ⟨h,G,I,H⟩
 .obtain ⟨_,h1,h4⟩:=d_W hk h;obtain ⟨x,V,W⟩:=s_m h1 h4
  simp only [h,I,J,Int.reduceBEq,fT_,bd_some,V,b_E,W,dT_ H,dT_ a2,Bool.and_self]
  try rfl
 .simp only [h,G,I,J,Int.reduceBEq,bF_,fF_,fT_]
  try rfl
 .simp only [h,G,J,Int.reduceBEq,bF_,fF_,fT_,show ((v.bytes.length:Int)==r.size)=true by simpa using H]
  try rfl
 .have hl:=(e_q hk h).2;have hx:idx r.kids 0=some (u_ r):=by rw [a_N (by omega)];unfold u_;rw [a_b (by omega)]
  simp only [h,G,J,Int.reduceBEq,bF_,fF_,fT_,bd_some,hx,f_H _ _ hd,n_U,dT_ (show (v.bytes.length:Int)<=min 400 (lim d.rules<|u_ r) by omega)]
  try rfl
 .simp only [h,G,J,Int.reduceBEq,bF_,fF_,fT_,dT_ H]
  try rfl
 .have hl:=(c_y hk h).2;have hx:idx r.kids 0=some (u_ r):=by rw [a_N (by omega)];unfold u_;rw [a_b (by omega)]
  simp only [h,G,I,Int.reduceBEq,bF_,fF_,fT_,bd_some,hx,f_H _ _ hd,n_U,dT_ (show (v.items.length:Int)<=min 40 (lim d.rules<|u_ r) by omega)]
  try rfl
 .simp only [h,G,I,Int.reduceBEq,bF_,fF_,fT_,show ((v.items.length:Int)==(r.kids.length:Int))=true by simp [H]]
  try rfl
 .have hi:a_Z r v.number 0=some (X_ r v.number 0):=c_9 hkk v.number 0
  simp only [h,I,Int.reduceBEq,bF_,fF_,fT_,bd_some,show ((v.items.length:Int)==1)=true by simp [L],hi,dT_ O]
  try rfl
 .simp only [h,G,I,Int.reduceBEq,bF_,fF_,fT_,dT_ (show (v.items.length:Int)<=1 by omega)]
  try rfl
 .simp only [h,G,I,Int.reduceBEq,bF_,fF_,fT_,show ((v.items.length:Int)==1)=true by simp [H]]
  try rfl
theorem s_o (hd:SmD d){i:Nat}(hi:i<d.rules.length)(hr:d.rules[i]=r)(hk:a_o d.rules r=true)(h:Own d.rules r v):i_d d (i:Int) v=some true:=by
 have hkk:=c_q hk;unfold i_d
 rw [ix_ hi,hr,bd_some]
 unfold Own at h
 rcases h with ⟨h,H,a2,I,J⟩ | ⟨h,G,I,J⟩ | ⟨h,G,H,J⟩ | ⟨h,G,H,a2,J⟩ | ⟨h,G,H,J⟩ | ⟨h,G,I,H,a2⟩ | ⟨h,G,I,H⟩ | ⟨h,H,a2,I,L,O⟩ | ⟨h,G,I,H⟩ | ⟨h,G,I,H⟩
 .obtain ⟨_,h1,h4⟩:=d_W hk h;have hl:lim d.rules (i:Int)=256 ^ r.size.toNat - 1:=by unfold lim;rw [ix_ hi,hr];simp only;rw [iP_ ⟨h,h1,h4⟩]
  simp only [h,I,J,Int.reduceBEq,bF_,fF_,fT_,bd_some,el_inl,un3,c_6,Bool.and_self,f_G,hl,dT_ H,dT_ a2,List.length_nil]
  try rfl
 .simp only [h,G,I,J,Int.reduceBEq,bF_,fF_,fT_,bd_some,el_inl,un2,un3,c_6,Bool.and_self,dT_<|Int.le_refl 0,List.length_nil]
  try rfl
 .simp only [h,G,J,Int.reduceBEq,bF_,fF_,fT_,bd_some,el_inl,un3,c_6,Bool.and_self,dT_<|Int.le_refl 0,show ((v.bytes.length:Int) != r.size)=false by simp [H],List.length_nil,dT_ (show (v.bytes.length:Int)<=r.size by omega)]
  try rfl
 .have hl:=(e_q hk h).2;have hx:idx r.kids 0=some (u_ r):=by rw [a_N (by omega)];unfold u_;rw [a_b (by omega)]
  simp only [h,G,J,Int.reduceBEq,bF_,fF_,fT_,bd_some,el_inl,un3,c_6,Bool.and_self,dT_<|Int.le_refl 0,hx,f_G,n_T,List.length_nil,dT_ (show (v.bytes.length:Int)<=min 400 (lim d.rules<|u_ r) by omega)]
  try rfl
 .simp only [h,G,J,Int.reduceBEq,bF_,fF_,fT_,bd_some,el_inl,un3,c_6,Bool.and_self,dT_<|Int.le_refl 0,List.length_nil,dT_ H]
  try rfl
 .have hl:=(c_y hk h).2;have hx:idx r.kids 0=some (u_ r):=by rw [a_N (by omega)];unfold u_;rw [a_b (by omega)]
  simp only [h,G,I,Int.reduceBEq,bF_,fF_,fT_,bd_some,el_inl,un2,un3,c_6,Bool.and_self,dT_<|Int.le_refl 0,hx,f_G,n_T,List.length_nil,dT_ (show (v.items.length:Int)<=min 40 (lim d.rules<|u_ r) by omega)]
  try rfl
 .simp only [h,G,I,Int.reduceBEq,bF_,fF_,fT_,bd_some,el_inl,un2,un3,c_6,Bool.and_self,dT_<|Int.le_refl 0,show ((v.items.length:Int) != (r.kids.length:Int))=false by simp [H],List.length_nil,dT_ (show (v.items.length:Int)<=(r.kids.length:Int) by omega)]
  try rfl
 .have hl:=(c_Q hk h).2.1;have hx:idx r.kids 0=some (u_ r):=by rw [a_N (by omega)];unfold u_;rw [a_b (by omega)]
  simp only [h,I,Int.reduceBEq,bF_,fF_,fT_,bd_some,el_inl,un2,un3,c_6,Bool.and_self,hx,f_G,List.length_nil,show ((v.items.length:Int) != 1)=false by simp [L],dT_ H,dT_ a2,dT_ (show (v.items.length:Int)<=1 by omega)]
  try rfl
 .simp only [h,G,I,Int.reduceBEq,bF_,fF_,fT_,bd_some,el_inl,un2,un3,c_6,Bool.and_self,dT_<|Int.le_refl 0,List.length_nil,dT_ (show (v.items.length:Int)<=1 by omega)]
  try rfl
 .simp only [h,G,I,Int.reduceBEq,bF_,fF_,fT_,bd_some,el_inl,un2,un3,c_6,Bool.and_self,dT_<|Int.le_refl 0,List.length_nil,show ((v.items.length:Int) != 1)=false by simp [H],dT_ (show (v.items.length:Int)<=1 by omega)]
  try rfl
end
section
variable {d:d_}{b:Bt}
theorem s_p (hv:N_ d=true)(hd:SmD d)(hb:b.length<=400):∀(i:Nat),i<d.rules.length->∀p,p<=b.length->(rdW d.rules b i p).2.2=0->∀n,i+2<=n->h_o n d (i:Int) (rdW d.rules b i p).1=some true:=by
 intro i
 induction i using Nat.strongRecOn with
 | ind i ih =>
  intro hi p hp hok n hn;obtain ⟨m,rfl⟩:∃m,n=m+1:=⟨n - 1,by omega⟩;have hr:=a_M hv hi;have hown:=l_w hv hb hi hp hok;have hit:=l_x hv hi hp hok
  show f_7 m (d_x m) d (i:Int) (rdW d.rules b i p).1=some true
  unfold f_7
  rw [ix_ hi,bd_some,s_n hd.rules hr.kind hown,bd_some,iN_ (by simp)]
  generalize (rdW d.rules b i p).1=v at hown hit
  rw [n_N λj hj=>by
   obtain ⟨k,q,h1,h2,h3,h4,h5⟩:=hit j hj
   rw [ix_ hj,bd_some,c_9<|c_q hr.kind,bd_some,h1,h5]
   have:=ih k h2 (by omega) q h3 h4 m (by omega)
   rw [show (d_x m).spec_l9Valid d (k:Int) (rdW d.rules b k q).1=some true from this,bd_some,iN_ (by simp)]]
  rfl
theorem s_q (hv:N_ d=true)(hd:SmD d)(hb:b.length<=400):∀(i:Nat),i<d.rules.length->∀p,p<=b.length->(rdW d.rules b i p).2.2=0->∀n,i+2<=n->o_F n d (i:Int) (rdW d.rules b i p).1=some true:=by
 intro i
 induction i using Nat.strongRecOn with
 | ind i ih =>
  intro hi p hp hok n hn;obtain ⟨m,rfl⟩:∃m,n=m+1:=⟨n - 1,by omega⟩;have hr:=a_M hv hi;have hown:=l_w hv hb hi hp hok;have hit:=l_x hv hi hp hok
  show i_e m (f_k m) d (i:Int) (rdW d.rules b i p).1=some true
  unfold i_e
  rw [s_o hd hi rfl hr.kind hown,bd_some,iN_ (by simp)]
  generalize (rdW d.rules b i p).1=v at hown hit
  rw [n_N λj hj=>by
   obtain ⟨k,q,h1,h2,h3,h4,h5⟩:=hit j hj
   rw [n_F (ix_ hi) (c_q hr.kind),bd_some,h1,dF_ (show ¬(k:Int)<0 by omega),iN_ (by simp),ix_ hj,bd_some,h5]
   have:=ih k h2 (by omega) q h3 h4 m (by omega)
   rw [show (f_k m).impl_validValue d (k:Int) (rdW d.rules b k q).1=some true from this,bd_some,bd_some]
   rfl]
  rfl
theorem n_V (hv:N_ d=true)(hd:SmD d)(hb:b.length<=400){i:Nat}(hi:i<d.rules.length){p:Nat}(hp:p<=b.length)(hok:(rdW d.rules b i p).2.2=0){n:Nat}(hn:1000<=n):e_w n d (i:Int) (rdW d.rules b i p).1=some true:=by
 have hl:=(b_e hv).2;unfold e_w
 rw [f_I d hd,hv,bd_some]
 have:b_c d (i:Int)=true:=by unfold b_c;simp;omega
 rw [this,iP_ (by rfl),s_p hv hd hb i hi p hp hok n (by omega),bd_some,bd_some]
theorem s_r (hv:N_ d=true)(hd:SmD d)(hb:b.length<=400){i:Nat}(hi:i<d.rules.length){p:Nat}(hp:p<=b.length)(hok:(rdW d.rules b i p).2.2=0){n:Nat}(hn:1000<=n):i_f n d (i:Int) (rdW d.rules b i p).1=some true:=by
 have hl:=(b_e hv).2;unfold i_f
 rw [l_8 n (by omega) d hd,hv,bd_some]
 have:b_c d (i:Int)=true:=by unfold b_c;simp;omega
 rw [this,iP_ (by rfl),s_q hv hd hb i hi p hp hok n (by omega),bd_some,bd_some]
end
end Go.Vw
