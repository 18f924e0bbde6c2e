
import Derived.Test.YteocmnebeeammaaGreatDoorVwP65
import Derived.Test.YteocmnebeeammaaGreatDoorVwP54
namespace Go.Vw
open Go.RowKit Dat
theorem o_c (x y:Int):g_v x y=some (min x y):=by
 unfold g_v k_0
 have:r_ (σ:=Int) (ρ:=Int) (λL=>(λH=>bd (idx [y] ((L:Nat):Int)) λG=>bd (i_a G H) λI=>bd (α:=Int) (if I then some G else some H)<|λJ=>some<|.next J)) [y].length 0 x=some (.inl<|min x y):=by
  unfold i_a
  simp only [lC_,List.length_nil,r_,ix_ (show 0<[y].length by simp),List.getElem_cons_zero,bd_some]
  by_cases h:y<x
  .rw [dT_ h,iP_ rfl,bd_some,Int.min_eq_right (by omega)]
  .rw [dF_ h,iN_ (by simp),bd_some,Int.min_eq_left (by omega)]
 rw [this,bd_some,el_inl,bd_some]
theorem o_d (x y:Int):g_u x y=some (min x y):=by
 unfold g_u
 by_cases h:y<x
 .rw [dT_ h,iP_ rfl,Int.min_eq_right (by omega)]
 .rw [dF_ h,iN_ (by simp),Int.min_eq_left (by omega)]
theorem s_n {s:Int}(h1:1<=s)(h4:s<=4):∃x,e_E s=some x/\K_ x 1=256 ^ s.toNat - 1:=by
 have:=g_U h1 h4
 rw [g_0 (by omega) (by omega)] at this
 exact ⟨_,s_h h1 h4,this.1⟩
section
variable {d:d_}{r:b_}{v:Val}
theorem s_o (hd:d.rules.length<=MX)(hk:a_k d.rules r=true)(h:Own d.rules r v):h_7 d r v=some true:=by
 have hkk:=c_q hk;unfold h_7;unfold Own at h
 rcases h with ⟨h,H,a2,I,J⟩ | ⟨h,G,I,J⟩ | ⟨h,G,H,J⟩ | ⟨h,G,H,a2,J⟩ | ⟨h,G,H,J⟩ | ⟨h,G,I,H,a2⟩ | ⟨h,G,I,H⟩ | ⟨h,H,a2,I,L,O⟩ | ⟨h,G,I,H⟩ | ⟨h,G,I,H⟩
 .obtain ⟨_,h1,h4⟩:=e_0 hk h;obtain ⟨x,V,W⟩:=s_n h1 h4
  simp only [h,I,J,show ((1:Int)==1)=true from rfl,fT_,bd_some,V,c_1,W,dT_ H,dT_ a2,Bool.and_self]
  try rfl
 .simp only [h,G,I,J,show ((2:Int)==1)=false from rfl,show ((2:Int)==2)=true from rfl,bF_,fF_,fT_]
  try rfl
 .simp only [h,G,J,show ((3:Int)==1)=false from rfl,show ((3:Int)==2)=false from rfl,show ((3:Int)==3)=true from rfl,bF_,fF_,fT_,show ((v.bytes.length:Int)==r.size)=true by simpa using H]
  try rfl
 .have hl:=(e_x hk h).2;have hx:idx r.kids 0=some (q_ r):=by rw [a_Z (by omega)];unfold q_;rw [Z_ (by omega)]
  simp only [h,G,J,show ((4:Int)==1)=false from rfl,show ((4:Int)==2)=false from rfl,show ((4:Int)==3)=false from rfl,show ((4:Int)==4)=true from rfl,bF_,fF_,fT_,bd_some,hx,j_8 _ _ hd,o_d,dT_ (show (v.bytes.length:Int)<=min 400 (lim d.rules<|q_ r) by omega)]
  try rfl
 .simp only [h,G,J,show ((10:Int)==1)=false from rfl,show ((10:Int)==2)=false from rfl,show ((10:Int)==3)=false from rfl,show ((10:Int)==4)=false from rfl,show ((10:Int)==10)=true from rfl,bF_,fF_,fT_,dT_ H]
  try rfl
 .have hl:=(c_p hk h).2;have hx:idx r.kids 0=some (q_ r):=by rw [a_Z (by omega)];unfold q_;rw [Z_ (by omega)]
  simp only [h,G,I,show ((5:Int)==1)=false from rfl,show ((5:Int)==2)=false from rfl,show ((5:Int)==3)=false from rfl,show ((5:Int)==4)=false from rfl,show ((5:Int)==10)=false from rfl,show ((5:Int)==5)=true from rfl,bF_,fF_,fT_,bd_some,hx,j_8 _ _ hd,o_d,dT_ (show (v.items.length:Int)<=min 40 (lim d.rules<|q_ r) by omega)]
  try rfl
 .simp only [h,G,I,show ((6:Int)==1)=false from rfl,show ((6:Int)==2)=false from rfl,show ((6:Int)==3)=false from rfl,show ((6:Int)==4)=false from rfl,show ((6:Int)==10)=false from rfl,show ((6:Int)==5)=false from rfl,show ((6:Int)==6)=true from rfl,bF_,fF_,fT_,show ((v.items.length:Int)==(r.kids.length:Int))=true by simp [H]]
  try rfl
 .have hi:b_j r v.number 0=some (a_l r v.number 0):=c_U hkk v.number 0
  simp only [h,I,show ((7:Int)==1)=false from rfl,show ((7:Int)==2)=false from rfl,show ((7:Int)==3)=false from rfl,show ((7:Int)==4)=false from rfl,show ((7:Int)==10)=false from rfl,show ((7:Int)==5)=false from rfl,show ((7:Int)==6)=false from rfl,show ((7:Int)==7)=true from rfl,bF_,fF_,fT_,bd_some,show ((v.items.length:Int)==1)=true by simp [L],hi,dT_ O]
  try rfl
 .simp only [h,G,I,show ((8:Int)==1)=false from rfl,show ((8:Int)==2)=false from rfl,show ((8:Int)==3)=false from rfl,show ((8:Int)==4)=false from rfl,show ((8:Int)==10)=false from rfl,show ((8:Int)==5)=false from rfl,show ((8:Int)==6)=false from rfl,show ((8:Int)==7)=false from rfl,show ((8:Int)==8)=true from rfl,bF_,fF_,fT_,dT_ (show (v.items.length:Int)<=1 by omega)]
  try rfl
 .simp only [h,G,I,show ((9:Int)==1)=false from rfl,show ((9:Int)==2)=false from rfl,show ((9:Int)==3)=false from rfl,show ((9:Int)==4)=false from rfl,show ((9:Int)==10)=false from rfl,show ((9:Int)==5)=false from rfl,show ((9:Int)==6)=false from rfl,show ((9:Int)==7)=false from rfl,show ((9:Int)==8)=false from rfl,bF_,fF_,fT_,show ((v.items.length:Int)==1)=true by simp [H]]
  try rfl
theorem s_p (hd:SmD d){i:Nat}(hi:i<d.rules.length)(hr:d.rules[i]=r)(hk:a_k d.rules r=true)(h:Own d.rules r v):i_o d (i:Int) v=some true:=by
 have hkk:=c_q hk;unfold i_o
 rw [ix_ hi,hr,bd_some]
 unfold Own at h
 rcases h with ⟨h,H,a2,I,J⟩ | ⟨h,G,I,J⟩ | ⟨h,G,H,J⟩ | ⟨h,G,H,a2,J⟩ | ⟨h,G,H,J⟩ | ⟨h,G,I,H,a2⟩ | ⟨h,G,I,H⟩ | ⟨h,H,a2,I,L,O⟩ | ⟨h,G,I,H⟩ | ⟨h,G,I,H⟩
 .obtain ⟨_,h1,h4⟩:=e_0 hk h;have hl:lim d.rules (i:Int)=256 ^ r.size.toNat - 1:=by unfold lim;rw [ix_ hi,hr];simp only;rw [iP_ ⟨h,h1,h4⟩]
  simp only [h,I,J,show ((1:Int)==1)=true from rfl,show ((1:Int)==9)=false from rfl,show ((1:Int)==6)=false from rfl,show ((1:Int)==7)=false from rfl,bF_,fF_,fT_,bd_some,el_inl,un3,c_2,Bool.and_self,f_P,hl,dT_ H,dT_ a2,List.length_nil]
  try rfl
 .simp only [h,G,I,J,show ((2:Int)==1)=false from rfl,show ((2:Int)==3)=false from rfl,show ((2:Int)==4)=false from rfl,show ((2:Int)==10)=false from rfl,show ((2:Int)==5)=false from rfl,show ((2:Int)==6)=false from rfl,show ((2:Int)==7)=false from rfl,show ((2:Int)==8)=false from rfl,show ((2:Int)==9)=false from rfl,bF_,fF_,fT_,bd_some,el_inl,un2,un3,c_2,Bool.and_self,dT_<|Int.le_refl 0,List.length_nil]
  try rfl
 .simp only [h,G,J,show ((3:Int)==1)=false from rfl,show ((3:Int)==3)=true from rfl,show ((3:Int)==9)=false from rfl,show ((3:Int)==6)=false from rfl,show ((3:Int)==7)=false from rfl,bF_,fF_,fT_,bd_some,el_inl,un3,c_2,Bool.and_self,dT_<|Int.le_refl 0,show ((v.bytes.length:Int) != r.size)=false by simp [H],List.length_nil,dT_ (show (v.bytes.length:Int)<=r.size by omega)]
  try rfl
 .have hl:=(e_x hk h).2;have hx:idx r.kids 0=some (q_ r):=by rw [a_Z (by omega)];unfold q_;rw [Z_ (by omega)]
  simp only [h,G,J,show ((4:Int)==1)=false from rfl,show ((4:Int)==3)=false from rfl,show ((4:Int)==4)=true from rfl,show ((4:Int)==9)=false from rfl,show ((4:Int)==6)=false from rfl,show ((4:Int)==7)=false from rfl,bF_,fF_,fT_,bd_some,el_inl,un3,c_2,Bool.and_self,dT_<|Int.le_refl 0,hx,f_P,o_c,List.length_nil,dT_ (show (v.bytes.length:Int)<=min 400 (lim d.rules<|q_ r) by omega)]
  try rfl
 .simp only [h,G,J,show ((10:Int)==1)=false from rfl,show ((10:Int)==3)=false from rfl,show ((10:Int)==4)=false from rfl,show ((10:Int)==10)=true from rfl,show ((10:Int)==9)=false from rfl,show ((10:Int)==6)=false from rfl,show ((10:Int)==7)=false from rfl,bF_,fF_,fT_,bd_some,el_inl,un3,c_2,Bool.and_self,dT_<|Int.le_refl 0,List.length_nil,dT_ H]
  try rfl
 .have hl:=(c_p hk h).2;have hx:idx r.kids 0=some (q_ r):=by rw [a_Z (by omega)];unfold q_;rw [Z_ (by omega)]
  simp only [h,G,I,show ((5:Int)==1)=false from rfl,show ((5:Int)==3)=false from rfl,show ((5:Int)==4)=false from rfl,show ((5:Int)==10)=false from rfl,show ((5:Int)==5)=true from rfl,show ((5:Int)==9)=false from rfl,show ((5:Int)==6)=false from rfl,show ((5:Int)==7)=false from rfl,bF_,fF_,fT_,bd_some,el_inl,un2,un3,c_2,Bool.and_self,dT_<|Int.le_refl 0,hx,f_P,o_c,List.length_nil,dT_ (show (v.items.length:Int)<=min 40 (lim d.rules<|q_ r) by omega)]
  try rfl
 .simp only [h,G,I,show ((6:Int)==1)=false from rfl,show ((6:Int)==3)=false from rfl,show ((6:Int)==4)=false from rfl,show ((6:Int)==10)=false from rfl,show ((6:Int)==5)=false from rfl,show ((6:Int)==6)=true from rfl,show ((6:Int)==9)=false from rfl,bF_,fF_,fT_,bd_some,el_inl,un2,un3,c_2,Bool.and_self,dT_<|Int.le_refl 0,show ((v.items.length:Int) != (r.kids.length:Int))=false by simp [H],List.length_nil,dT_ (show (v.items.length:Int)<=(r.kids.length:Int) by omega)]
  try rfl
 .have hl:=(c_B hk h).2.1;have hx:idx r.kids 0=some (q_ r):=by rw [a_Z (by omega)];unfold q_;rw [Z_ (by omega)]
  simp only [h,I,show ((7:Int)==1)=false from rfl,show ((7:Int)==3)=false from rfl,show ((7:Int)==4)=false from rfl,show ((7:Int)==10)=false from rfl,show ((7:Int)==5)=false from rfl,show ((7:Int)==6)=false from rfl,show ((7:Int)==7)=true from rfl,show ((7:Int)==9)=false from rfl,bF_,fF_,fT_,bd_some,el_inl,un2,un3,c_2,Bool.and_self,hx,f_P,List.length_nil,show ((v.items.length:Int) != 1)=false by simp [L],dT_ H,dT_ a2,dT_ (show (v.items.length:Int)<=1 by omega)]
  try rfl
 .simp only [h,G,I,show ((8:Int)==1)=false from rfl,show ((8:Int)==3)=false from rfl,show ((8:Int)==4)=false from rfl,show ((8:Int)==10)=false from rfl,show ((8:Int)==5)=false from rfl,show ((8:Int)==6)=false from rfl,show ((8:Int)==7)=false from rfl,show ((8:Int)==8)=true from rfl,show ((8:Int)==9)=false from rfl,bF_,fF_,fT_,bd_some,el_inl,un2,un3,c_2,Bool.and_self,dT_<|Int.le_refl 0,List.length_nil,dT_ (show (v.items.length:Int)<=1 by omega)]
  try rfl
 .simp only [h,G,I,show ((9:Int)==1)=false from rfl,show ((9:Int)==3)=false from rfl,show ((9:Int)==4)=false from rfl,show ((9:Int)==10)=false from rfl,show ((9:Int)==5)=false from rfl,show ((9:Int)==6)=false from rfl,show ((9:Int)==7)=false from rfl,show ((9:Int)==8)=false from rfl,show ((9:Int)==9)=true from rfl,bF_,fF_,fT_,bd_some,el_inl,un2,un3,c_2,Bool.and_self,dT_<|Int.le_refl 0,List.length_nil,show ((v.items.length:Int) != 1)=false by simp [H],dT_ (show (v.items.length:Int)<=1 by omega)]
  try rfl
end
section
variable {d:d_}{b:Bt}
theorem s_q (hv:G_ d=true)(hd:SmD d)(hb:b.length<=400):∀(i:Nat),i<d.rules.length->∀p,p<=b.length->(rdW d.rules b i p).2.2=0->∀n,i+2<=n->o_I n d (i:Int) (rdW d.rules b i p).1=some true:=by
 intro i
 induction i using Nat.strongRecOn with
 | ind i ih =>
  intro hi p hp hok n hn;obtain ⟨m,rfl⟩:∃m,n=m+1:=⟨n - 1,by omega⟩;have hr:=a_A hv hi;have hown:=l_d hv hb hi hp hok;have hit:=l_e hv hi hp hok
  show h_8 m (f_c m) d (i:Int) (rdW d.rules b i p).1=some true
  unfold h_8
  rw [ix_ hi,bd_some,s_o hd.rules hr.kind hown,bd_some,iN_ (by simp)]
  generalize (rdW d.rules b i p).1=v at hown hit
  rw [o_6 λj hj=>by
   obtain ⟨k,q,h1,h2,h3,h4,h5⟩:=hit j hj
   rw [ix_ hj,bd_some,c_U<|c_q hr.kind,bd_some,h1,h5]
   have:=ih k h2 (by omega) q h3 h4 m (by omega)
   rw [show (f_c m).spec_l9Valid d (k:Int) (rdW d.rules b k q).1=some true from this,bd_some,iN_ (by simp)]]
  rfl
theorem s_r (hv:G_ d=true)(hd:SmD d)(hb:b.length<=400):∀(i:Nat),i<d.rules.length->∀p,p<=b.length->(rdW d.rules b i p).2.2=0->∀n,i+2<=n->p_m n d (i:Int) (rdW d.rules b i p).1=some true:=by
 intro i
 induction i using Nat.strongRecOn with
 | ind i ih =>
  intro hi p hp hok n hn;obtain ⟨m,rfl⟩:∃m,n=m+1:=⟨n - 1,by omega⟩;have hr:=a_A hv hi;have hown:=l_d hv hb hi hp hok;have hit:=l_e hv hi hp hok
  show i_p m (f_u m) d (i:Int) (rdW d.rules b i p).1=some true
  unfold i_p
  rw [s_p hd hi rfl hr.kind hown,bd_some,iN_ (by simp)]
  generalize (rdW d.rules b i p).1=v at hown hit
  rw [o_6 λj hj=>by
   obtain ⟨k,q,h1,h2,h3,h4,h5⟩:=hit j hj
   rw [l_a (ix_ hi) (c_q hr.kind),bd_some,h1,dF_ (show ¬(k:Int)<0 by omega),iN_ (by simp),ix_ hj,bd_some,h5]
   have:=ih k h2 (by omega) q h3 h4 m (by omega)
   rw [show (f_u m).impl_validValue d (k:Int) (rdW d.rules b k q).1=some true from this,bd_some,bd_some]
   rfl]
  rfl
theorem o_e (hv:G_ d=true)(hd:SmD d)(hb:b.length<=400){i:Nat}(hi:i<d.rules.length){p:Nat}(hp:p<=b.length)(hok:(rdW d.rules b i p).2.2=0){n:Nat}(hn:1000<=n):h_9 n d (i:Int) (rdW d.rules b i p).1=some true:=by
 have hl:=(a_Y hv).2;unfold h_9
 rw [m_Y d hd,hv,bd_some]
 have:b_a d (i:Int)=true:=by unfold b_a;simp;omega
 rw [this,iP_ (by rfl),s_q hv hd hb i hi p hp hok n (by omega),bd_some,bd_some]
theorem s_s (hv:G_ d=true)(hd:SmD d)(hb:b.length<=400){i:Nat}(hi:i<d.rules.length){p:Nat}(hp:p<=b.length)(hok:(rdW d.rules b i p).2.2=0){n:Nat}(hn:1000<=n):i_q n d (i:Int) (rdW d.rules b i p).1=some true:=by
 have hl:=(a_Y hv).2;unfold i_q
 rw [j_a n (by omega) d hd,hv,bd_some]
 have:b_a d (i:Int)=true:=by unfold b_a;simp;omega
 rw [this,iP_ (by rfl),s_r hv hd hb i hi p hp hok n (by omega),bd_some,bd_some]
end
end Go.Vw
