
import Derived.Test.YtlagjoejlchiiaaGreatDoorVwP65
import Derived.Test.YtlagjoejlchiiaaGreatDoorVwP54
namespace Go.Vw
open Go.RowKit Dat
theorem l_B (x y:Int):f_2 x y=some (min x y):=by
 unfold f_2 h_Q
 have:r_ (σ:=Int) (ρ:=Int) (fun L=>(fun H=>bd (idx [y] ((L:Nat):Int)) fun G=>bd (g_F G H) fun I=>bd (α:=Int) (if I=true then some G else some H)<|fun J=>some<|.next J)) [y].length 0 x=some (.inl<|min x y):=by
  unfold g_F
  simp only [lC_,List.length_nil,r_,ix_ (show 0<[y].length by simp),List.getElem_cons_zero,bd_some]
  by_cases h:y<x
  ·rw [dT_ h,iP_ rfl,bd_some,Int.min_eq_right (by omega)]
  ·rw [dF_ h,iN_ (by simp),bd_some,Int.min_eq_left (by omega)]
 rw [this,bd_some,el_inl,bd_some]
theorem l_C (x y:Int):f_1 x y=some (min x y):=by
 unfold f_1
 by_cases h:y<x
 ·rw [dT_ h,iP_ rfl,Int.min_eq_right (by omega)]
 ·rw [dF_ h,iN_ (by simp),Int.min_eq_left (by omega)]
theorem p_9 {s:Int}(h1:1<=s)(h4:s<=4):∃x,d_A s=some x/\K_ x 1=256 ^ s.toNat - 1:=by
 have:=f_o h1 h4
 rw [e_D (by omega) (by omega)] at this
 exact ⟨_,p_3 h1 h4,this.1⟩
section
variable {d:d_}{r:b_}{v:Val}
theorem p_a (hd:d.rules.length<=MX)(hk:a_d d.rules r=true)(h:Own d.rules r v):f_E d r v=some true:=by
 have hkk:=c_v hk;unfold f_E;unfold Own at h
 rcases h with ⟨h,H,a2,I,J⟩ | ⟨h,G,I,J⟩ | ⟨h,G,H,J⟩ | ⟨h,G,H,a2,J⟩ | ⟨h,G,H,J⟩ | ⟨h,G,I,H,a2⟩ | ⟨h,G,I,H⟩ | ⟨h,H,a2,I,L,O⟩ | ⟨h,G,I,H⟩ | ⟨h,G,I,H⟩
 ·obtain ⟨_,h1,h4⟩:=d_0 hk h;obtain ⟨x,V,W⟩:=p_9 h1 h4
  simp only [h,I,J,show ((1:Int)==1)=true from rfl,fT_,bd_some,V,b_F,W,dT_ H,dT_ a2,Bool.and_self]
  try rfl
 ·simp only [h,G,I,J,show ((2:Int)==1)=false from rfl,show ((2:Int)==2)=true from rfl,bF_,fF_,fT_]
  try rfl
 ·simp only [h,G,J,show ((3:Int)==1)=false from rfl,show ((3:Int)==2)=false from rfl,show ((3:Int)==3)=true from rfl,bF_,fF_,fT_,show ((v.bytes.length:Int)==r.size)=true by simpa using H]
  try rfl
 ·have hl:=(d_t hk h).2;have hx:idx r.kids 0=some (m_ r):=by rw [a_R (by omega)];unfold m_;rw [W_ (by omega)]
  simp only [h,G,J,show ((4:Int)==1)=false from rfl,show ((4:Int)==2)=false from rfl,show ((4:Int)==3)=false from rfl,show ((4:Int)==4)=true from rfl,bF_,fF_,fT_,bd_some,hx,h_n _ _ hd,l_C,dT_ (show (v.bytes.length:Int)<=min 400 (lim d.rules<|m_ r) by omega)]
  try rfl
 ·simp only [h,G,J,show ((10:Int)==1)=false from rfl,show ((10:Int)==2)=false from rfl,show ((10:Int)==3)=false from rfl,show ((10:Int)==4)=false from rfl,show ((10:Int)==10)=true from rfl,bF_,fF_,fT_,dT_ H]
  try rfl
 ·have hl:=(c_e hk h).2;have hx:idx r.kids 0=some (m_ r):=by rw [a_R (by omega)];unfold m_;rw [W_ (by omega)]
  simp only [h,G,I,show ((5:Int)==1)=false from rfl,show ((5:Int)==2)=false from rfl,show ((5:Int)==3)=false from rfl,show ((5:Int)==4)=false from rfl,show ((5:Int)==10)=false from rfl,show ((5:Int)==5)=true from rfl,bF_,fF_,fT_,bd_some,hx,h_n _ _ hd,l_C,dT_ (show (v.items.length:Int)<=min 40 (lim d.rules<|m_ r) by omega)]
  try rfl
 ·simp only [h,G,I,show ((6:Int)==1)=false from rfl,show ((6:Int)==2)=false from rfl,show ((6:Int)==3)=false from rfl,show ((6:Int)==4)=false from rfl,show ((6:Int)==10)=false from rfl,show ((6:Int)==5)=false from rfl,show ((6:Int)==6)=true from rfl,bF_,fF_,fT_,show ((v.items.length:Int)==(r.kids.length:Int))=true by simp [H]]
  try rfl
 ·have hi:b_8 r v.number 0=some (a_e r v.number 0):=c_M hkk v.number 0
  simp only [h,I,show ((7:Int)==1)=false from rfl,show ((7:Int)==2)=false from rfl,show ((7:Int)==3)=false from rfl,show ((7:Int)==4)=false from rfl,show ((7:Int)==10)=false from rfl,show ((7:Int)==5)=false from rfl,show ((7:Int)==6)=false from rfl,show ((7:Int)==7)=true from rfl,bF_,fF_,fT_,bd_some,show ((v.items.length:Int)==1)=true by simp [L],hi,dT_ O]
  try rfl
 ·simp only [h,G,I,show ((8:Int)==1)=false from rfl,show ((8:Int)==2)=false from rfl,show ((8:Int)==3)=false from rfl,show ((8:Int)==4)=false from rfl,show ((8:Int)==10)=false from rfl,show ((8:Int)==5)=false from rfl,show ((8:Int)==6)=false from rfl,show ((8:Int)==7)=false from rfl,show ((8:Int)==8)=true from rfl,bF_,fF_,fT_,dT_ (show (v.items.length:Int)<=1 by omega)]
  try rfl
 ·simp only [h,G,I,show ((9:Int)==1)=false from rfl,show ((9:Int)==2)=false from rfl,show ((9:Int)==3)=false from rfl,show ((9:Int)==4)=false from rfl,show ((9:Int)==10)=false from rfl,show ((9:Int)==5)=false from rfl,show ((9:Int)==6)=false from rfl,show ((9:Int)==7)=false from rfl,show ((9:Int)==8)=false from rfl,bF_,fF_,fT_,show ((v.items.length:Int)==1)=true by simp [H]]
  try rfl
theorem p_b (hd:SmD d){i:Nat}(hi:i<d.rules.length)(hr:d.rules[i]=r)(hk:a_d d.rules r=true)(h:Own d.rules r v):g_O d (i:Int) v=some true:=by
 have hkk:=c_v hk;unfold g_O
 rw [ix_ hi,hr,bd_some]
 unfold Own at h
 rcases h with ⟨h,H,a2,I,J⟩ | ⟨h,G,I,J⟩ | ⟨h,G,H,J⟩ | ⟨h,G,H,a2,J⟩ | ⟨h,G,H,J⟩ | ⟨h,G,I,H,a2⟩ | ⟨h,G,I,H⟩ | ⟨h,H,a2,I,L,O⟩ | ⟨h,G,I,H⟩ | ⟨h,G,I,H⟩
 ·obtain ⟨_,h1,h4⟩:=d_0 hk h;have hl:lim d.rules (i:Int)=256 ^ r.size.toNat - 1:=by unfold lim;rw [ix_ hi,hr];simp only;rw [iP_ ⟨h,h1,h4⟩]
  simp only [h,I,J,show ((1:Int)==1)=true from rfl,show ((1:Int)==9)=false from rfl,show ((1:Int)==6)=false from rfl,show ((1:Int)==7)=false from rfl,bF_,fF_,fT_,bd_some,el_inl,un3,b_t,Bool.and_self,e_w,hl,dT_ H,dT_ a2,List.length_nil]
  try rfl
 ·simp only [h,G,I,J,show ((2:Int)==1)=false from rfl,show ((2:Int)==3)=false from rfl,show ((2:Int)==4)=false from rfl,show ((2:Int)==10)=false from rfl,show ((2:Int)==5)=false from rfl,show ((2:Int)==6)=false from rfl,show ((2:Int)==7)=false from rfl,show ((2:Int)==8)=false from rfl,show ((2:Int)==9)=false from rfl,bF_,fF_,fT_,bd_some,el_inl,un2,un3,b_t,Bool.and_self,dT_<|Int.le_refl 0,List.length_nil]
  try rfl
 ·simp only [h,G,J,show ((3:Int)==1)=false from rfl,show ((3:Int)==3)=true from rfl,show ((3:Int)==9)=false from rfl,show ((3:Int)==6)=false from rfl,show ((3:Int)==7)=false from rfl,bF_,fF_,fT_,bd_some,el_inl,un3,b_t,Bool.and_self,dT_<|Int.le_refl 0,show ((v.bytes.length:Int) != r.size)=false by simp [H],List.length_nil,dT_ (show (v.bytes.length:Int)<=r.size by omega)]
  try rfl
 ·have hl:=(d_t hk h).2;have hx:idx r.kids 0=some (m_ r):=by rw [a_R (by omega)];unfold m_;rw [W_ (by omega)]
  simp only [h,G,J,show ((4:Int)==1)=false from rfl,show ((4:Int)==3)=false from rfl,show ((4:Int)==4)=true from rfl,show ((4:Int)==9)=false from rfl,show ((4:Int)==6)=false from rfl,show ((4:Int)==7)=false from rfl,bF_,fF_,fT_,bd_some,el_inl,un3,b_t,Bool.and_self,dT_<|Int.le_refl 0,hx,e_w,l_B,List.length_nil,dT_ (show (v.bytes.length:Int)<=min 400 (lim d.rules<|m_ r) by omega)]
  try rfl
 ·simp only [h,G,J,show ((10:Int)==1)=false from rfl,show ((10:Int)==3)=false from rfl,show ((10:Int)==4)=false from rfl,show ((10:Int)==10)=true from rfl,show ((10:Int)==9)=false from rfl,show ((10:Int)==6)=false from rfl,show ((10:Int)==7)=false from rfl,bF_,fF_,fT_,bd_some,el_inl,un3,b_t,Bool.and_self,dT_<|Int.le_refl 0,List.length_nil,dT_ H]
  try rfl
 ·have hl:=(c_e hk h).2;have hx:idx r.kids 0=some (m_ r):=by rw [a_R (by omega)];unfold m_;rw [W_ (by omega)]
  simp only [h,G,I,show ((5:Int)==1)=false from rfl,show ((5:Int)==3)=false from rfl,show ((5:Int)==4)=false from rfl,show ((5:Int)==10)=false from rfl,show ((5:Int)==5)=true from rfl,show ((5:Int)==9)=false from rfl,show ((5:Int)==6)=false from rfl,show ((5:Int)==7)=false from rfl,bF_,fF_,fT_,bd_some,el_inl,un2,un3,b_t,Bool.and_self,dT_<|Int.le_refl 0,hx,e_w,l_B,List.length_nil,dT_ (show (v.items.length:Int)<=min 40 (lim d.rules<|m_ r) by omega)]
  try rfl
 ·simp only [h,G,I,show ((6:Int)==1)=false from rfl,show ((6:Int)==3)=false from rfl,show ((6:Int)==4)=false from rfl,show ((6:Int)==10)=false from rfl,show ((6:Int)==5)=false from rfl,show ((6:Int)==6)=true from rfl,show ((6:Int)==9)=false from rfl,bF_,fF_,fT_,bd_some,el_inl,un2,un3,b_t,Bool.and_self,dT_<|Int.le_refl 0,show ((v.items.length:Int) != (r.kids.length:Int))=false by simp [H],List.length_nil,dT_ (show (v.items.length:Int)<=(r.kids.length:Int) by omega)]
  try rfl
 ·have hl:=(c_u hk h).2.1;have hx:idx r.kids 0=some (m_ r):=by rw [a_R (by omega)];unfold m_;rw [W_ (by omega)]
  simp only [h,I,show ((7:Int)==1)=false from rfl,show ((7:Int)==3)=false from rfl,show ((7:Int)==4)=false from rfl,show ((7:Int)==10)=false from rfl,show ((7:Int)==5)=false from rfl,show ((7:Int)==6)=false from rfl,show ((7:Int)==7)=true from rfl,show ((7:Int)==9)=false from rfl,bF_,fF_,fT_,bd_some,el_inl,un2,un3,b_t,Bool.and_self,hx,e_w,List.length_nil,show ((v.items.length:Int) != 1)=false by simp [L],dT_ H,dT_ a2,dT_ (show (v.items.length:Int)<=1 by omega)]
  try rfl
 ·simp only [h,G,I,show ((8:Int)==1)=false from rfl,show ((8:Int)==3)=false from rfl,show ((8:Int)==4)=false from rfl,show ((8:Int)==10)=false from rfl,show ((8:Int)==5)=false from rfl,show ((8:Int)==6)=false from rfl,show ((8:Int)==7)=false from rfl,show ((8:Int)==8)=true from rfl,show ((8:Int)==9)=false from rfl,bF_,fF_,fT_,bd_some,el_inl,un2,un3,b_t,Bool.and_self,dT_<|Int.le_refl 0,List.length_nil,dT_ (show (v.items.length:Int)<=1 by omega)]
  try rfl
 ·simp only [h,G,I,show ((9:Int)==1)=false from rfl,show ((9:Int)==3)=false from rfl,show ((9:Int)==4)=false from rfl,show ((9:Int)==10)=false from rfl,show ((9:Int)==5)=false from rfl,show ((9:Int)==6)=false from rfl,show ((9:Int)==7)=false from rfl,show ((9:Int)==8)=false from rfl,show ((9:Int)==9)=true from rfl,bF_,fF_,fT_,bd_some,el_inl,un2,un3,b_t,Bool.and_self,dT_<|Int.le_refl 0,List.length_nil,show ((v.items.length:Int) != 1)=false by simp [H],dT_ (show (v.items.length:Int)<=1 by omega)]
  try rfl
end
section
variable {d:d_}{b:List UInt8}
theorem p_c (hv:N_ d=true)(hd:SmD d)(hb:b.length<=400):∀(i:Nat),i<d.rules.length->∀p,p<=b.length->(rdW d.rules b i p).2.2=0->∀n,i+2<=n->l_X n d (i:Int) (rdW d.rules b i p).1=some true:=by
 intro i
 induction i using Nat.strongRecOn with
 | ind i ih =>
  intro hi p hp hok n hn;obtain ⟨m,rfl⟩:∃m,n=m+1:=⟨n - 1,by omega⟩;have hr:=b_2 hv hi;have hown:=j_h hv hb hi hp hok;have hit:=j_i hv hi hp hok
  show f_F m (e_4 m) d (i:Int) (rdW d.rules b i p).1=some true
  unfold f_F
  rw [ix_ hi,bd_some,p_a hd.rules hr.kind hown,bd_some,iN_ (by simp)]
  generalize (rdW d.rules b i p).1=v at hown hit
  rw [l_v fun j hj=>by
   obtain ⟨k,q,h1,h2,h3,h4,h5⟩:=hit j hj
   rw [ix_ hj,bd_some,c_M<|c_v hr.kind,bd_some,h1,h5]
   have:=ih k h2 (by omega) q h3 h4 m (by omega)
   rw [show (e_4 m).spec_l9Valid d (k:Int) (rdW d.rules b k q).1=some true from this,bd_some,iN_ (by simp)]]
  rfl
theorem p_d (hv:N_ d=true)(hd:SmD d)(hb:b.length<=400):∀(i:Nat),i<d.rules.length->∀p,p<=b.length->(rdW d.rules b i p).2.2=0->∀n,i+2<=n->m_s n d (i:Int) (rdW d.rules b i p).1=some true:=by
 intro i
 induction i using Nat.strongRecOn with
 | ind i ih =>
  intro hi p hp hok n hn;obtain ⟨m,rfl⟩:∃m,n=m+1:=⟨n - 1,by omega⟩;have hr:=b_2 hv hi;have hown:=j_h hv hb hi hp hok;have hit:=j_i hv hi hp hok
  show g_P m (e_k m) d (i:Int) (rdW d.rules b i p).1=some true
  unfold g_P
  rw [p_b hd hi rfl hr.kind hown,bd_some,iN_ (by simp)]
  generalize (rdW d.rules b i p).1=v at hown hit
  rw [l_v fun j hj=>by
   obtain ⟨k,q,h1,h2,h3,h4,h5⟩:=hit j hj
   rw [l_t (ix_ hi) (c_v hr.kind),bd_some,h1,dF_ (show ¬(k:Int)<0 by omega),iN_ (by simp),ix_ hj,bd_some,h5]
   have:=ih k h2 (by omega) q h3 h4 m (by omega)
   rw [show (e_k m).impl_validValue d (k:Int) (rdW d.rules b k q).1=some true from this,bd_some,bd_some]
   rfl]
  rfl
theorem p_e (hv:N_ d=true)(hd:SmD d)(hb:b.length<=400){i:Nat}(hi:i<d.rules.length){p:Nat}(hp:p<=b.length)(hok:(rdW d.rules b i p).2.2=0){n:Nat}(hn:1000<=n):f_G n d (i:Int) (rdW d.rules b i p).1=some true:=by
 have hl:=(b_R hv).2;unfold f_G
 rw [o_c d hd,hv,bd_some]
 have:b_n d (i:Int)=true:=by unfold b_n;simp;omega
 rw [this,iP_ (by rfl),p_c hv hd hb i hi p hp hok n (by omega),bd_some,bd_some]
theorem p_f (hv:N_ d=true)(hd:SmD d)(hb:b.length<=400){i:Nat}(hi:i<d.rules.length){p:Nat}(hp:p<=b.length)(hok:(rdW d.rules b i p).2.2=0){n:Nat}(hn:1000<=n):g_Q n d (i:Int) (rdW d.rules b i p).1=some true:=by
 have hl:=(b_R hv).2;unfold g_Q
 rw [j_0 n (by omega) d hd,hv,bd_some]
 have:b_n d (i:Int)=true:=by unfold b_n;simp;omega
 rw [this,iP_ (by rfl),p_d hv hd hb i hi p hp hok n (by omega),bd_some,bd_some]
end
end Go.Vw
