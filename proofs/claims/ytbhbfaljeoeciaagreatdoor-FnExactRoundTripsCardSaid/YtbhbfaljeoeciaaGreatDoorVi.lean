
import Derived.Test.YtbhbfaljeoeciaaGreatDoorVb
import Derived.Test.YtbhbfaljeoeciaaGreatDoorVh
namespace Go.Vw
open Go.RowKit Dat
theorem m_H (x y:Int):f_v x y=some (min x y):=by
 unfold f_v j_8
 have:z_ (σ:=Int) (ρ:=Int) (fun L=>(fun H=>bd (idx [y] ((L:Nat):Int)) fun G=>bd (h_r G H) fun I=>bd (α:=Int) (if I=true then some G else some H)<|fun J=>some<|.next J)) [y].length 0 x=some (.inl<|min x y):=by
  unfold h_r
  simp only [lC_,List.length_nil,z_,ix_ (show 0<[y].length by simp),List.getElem_cons_zero,bd_some]
  by_cases h:y<x
  ·rw [dT_ h,iP_ rfl,bd_some,Int.min_eq_right (by omega)]
  ·rw [dF_ h,iN_ (by simp),bd_some,Int.min_eq_left (by omega)]
 rw [this,bd_some,el_inl,bd_some]
theorem i_U (x y:Int):f_u x y=some (min x y):=by
 unfold f_u
 by_cases h:y<x
 ·rw [dT_ h,iP_ rfl,Int.min_eq_right (by omega)]
 ·rw [dF_ h,iN_ (by simp),Int.min_eq_left (by omega)]
theorem k_8 {s:Int}(h1:1<=s)(h4:s<=4):∃x,d_x s=some x/\r_ x 1=256 ^ s.toNat - 1:=by
 have:=f_5 h1 h4
 rw [e_p (by omega) (by omega)] at this
 exact ⟨_,q_7 h1 h4,this.1⟩
section
variable {d:c_}{r:g_}{v:Val}
theorem q_h (hd:d.rules.length<=MX)(hk:a_i d.rules r=true)(h:Own d.rules r v):e_r d r v=some true:=by
 have hkk:=c_i hk;unfold e_r;unfold Own at h
 rcases h with ⟨h,H,a2,I,J⟩ | ⟨h,G,I,J⟩ | ⟨h,G,H,J⟩ | ⟨h,G,H,a2,J⟩ | ⟨h,G,H,J⟩ | ⟨h,G,I,H,a2⟩ | ⟨h,G,I,H⟩ | ⟨h,H,a2,I,L,O⟩ | ⟨h,G,I,H⟩ | ⟨h,G,I,H⟩
 ·obtain ⟨_,h1,h4⟩:=c_u hk h;obtain ⟨x,V,W⟩:=k_8 h1 h4
  simp only [h,I,J,Int.reduceBEq,fT_,bd_some,V,b_j,W,dT_ H,dT_ a2,Bool.and_self]
  try rfl
 ·simp only [h,G,I,J,Int.reduceBEq,bF_,fF_,fT_]
  try rfl
 ·simp only [h,G,J,Int.reduceBEq,bF_,fF_,fT_,show ((v.bytes.length:Int)==r.size)=true by simpa using H]
  try rfl
 ·have hl:=(d_v hk h).2;have hx:idx r.kids 0=some (s_ r):=by rw [a_W (by omega)];unfold s_;rw [W_ (by omega)]
  simp only [h,G,J,Int.reduceBEq,bF_,fF_,fT_,bd_some,hx,f_7 _ _ hd,i_U,dT_ (show (v.bytes.length:Int)<=min 400 (lim d.rules<|s_ r) by omega)]
  try rfl
 ·simp only [h,G,J,Int.reduceBEq,bF_,fF_,fT_,dT_ H]
  try rfl
 ·have hl:=(c_v hk h).2;have hx:idx r.kids 0=some (s_ r):=by rw [a_W (by omega)];unfold s_;rw [W_ (by omega)]
  simp only [h,G,I,Int.reduceBEq,bF_,fF_,fT_,bd_some,hx,f_7 _ _ hd,i_U,dT_ (show (v.items.length:Int)<=min 40 (lim d.rules<|s_ r) by omega)]
  try rfl
 ·simp only [h,G,I,Int.reduceBEq,bF_,fF_,fT_,show ((v.items.length:Int)==(r.kids.length:Int))=true by simp [H]]
  try rfl
 ·have hi:b_d r v.number 0=some (N_ r v.number 0):=c_L hkk v.number 0
  simp only [h,I,Int.reduceBEq,bF_,fF_,fT_,bd_some,show ((v.items.length:Int)==1)=true by simp [L],hi,dT_ O]
  try rfl
 ·simp only [h,G,I,Int.reduceBEq,bF_,fF_,fT_,dT_ (show (v.items.length:Int)<=1 by omega)]
  try rfl
 ·simp only [h,G,I,Int.reduceBEq,bF_,fF_,fT_,show ((v.items.length:Int)==1)=true by simp [H]]
  try rfl
end
section
variable {d:c_}{b:List UInt8}
theorem q_i (hv:a_7 d=true)(hd:SmD d)(hb:b.length<=400):∀(i:Nat),i<d.rules.length->∀p,p<=b.length->(rdW d.rules b i p).2.2=0->∀n,i+2<=n->k_l n d (i:Int) (rdW d.rules b i p).1=some true:=by
 intro i
 induction i using Nat.strongRecOn with
 | ind i ih =>
  intro hi p hp hok n hn;obtain ⟨m,rfl⟩:∃m,n=m+1:=⟨n - 1,by omega⟩;have hr:=b_w hv hi;have hown:=own_rd hv hb hi hp hok;have hit:=q_g hv hi hp hok
  show e_s m (d_a m) d (i:Int) (rdW d.rules b i p).1=some true
  unfold e_s
  rw [ix_ hi,bd_some,q_h hd.rules hr.kind hown,bd_some,iN_ (by simp)]
  generalize (rdW d.rules b i p).1=v at hown hit
  rw [q_8 fun j hj=>by
   obtain ⟨k,q,h1,h2,h3,h4,h5⟩:=hit j hj
   rw [ix_ hj,bd_some,c_L<|c_i hr.kind,bd_some,h1,h5]
   have:=ih k h2 (by omega) q h3 h4 m (by omega)
   rw [show (d_a m).spec_l9Valid d (k:Int) (rdW d.rules b k q).1=some true from this,bd_some,iN_ (by simp)]]
  rfl
theorem q_j (hv:a_7 d=true)(hd:SmD d)(hb:b.length<=400){i:Nat}(hi:i<d.rules.length){p:Nat}(hp:p<=b.length)(hok:(rdW d.rules b i p).2.2=0){n:Nat}(hn:1000<=n):d_b n d (i:Int) (rdW d.rules b i p).1=some true:=by
 have hl:=(c_h hv).2;unfold d_b
 rw [g_t d hd,hv,bd_some]
 have:b_q d (i:Int)=true:=by unfold b_q;simp;omega
 rw [this,iP_ (by rfl),q_i hv hd hb i hi p hp hok n (by omega),bd_some,bd_some]
end
end Go.Vw
