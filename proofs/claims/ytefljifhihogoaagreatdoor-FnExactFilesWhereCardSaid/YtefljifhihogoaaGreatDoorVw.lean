
import Derived.Test.YtefljifhihogoaaGreatDoorVu
import Derived.Test.YtefljifhihogoaaGreatDoorVv
namespace Go.Vw
set_option linter.unusedVariables false
open Go.RowKit Dat
theorem s_n (x y:Int):f_t x y=some (min x y):=by
 unfold f_t k_R
 have:k_ (σ:=Int) (ρ:=Int) (λL=>(λH=>bd (idx [y] ((L:Nat):Int)) λG=>bd (h_M G H) λI=>bd (α:=Int) (if I then some G else some H)<|λJ=>some<|.next J)) [y].length 0 x=some (.inl<|min x y):=by
  unfold h_M
  simp only [lC_,QAD,k_,ix_ (show 0<[y].length by simp),QAw,a_]
  by_cases h:y<x
  .rw [dT_ h,iP_ rfl,a_,Int.min_eq_right (by omega)]
  simp_all [dF_,a_,Int.min_eq_left]
 simp_all
theorem s_o (x y:Int):f_s x y=some (min x y):=by
 unfold f_s
 grind
theorem x_S {s:Int}(h1:1<=s)(h4:s<=4):∃x,e_K s=some x/\w_ x 1=256 ^ s.toNat - 1:=by
 have:=n_v h1 h4
 grind [x_M,i_j]
section
variable {d:d_}{r:f_}{v:Val}
theorem x_T (hd:d.rules.length<=MX)(hk:a_m d.rules r=true)(h:Own d.rules r v):j_E d r v=some true:=by
 have hkk:=d_7 hk;unfold j_E;unfold Own at h
 rcases h with ⟨h,H,a2,I,J⟩ | ⟨h,G,I,J⟩ | ⟨h,G,H,J⟩ | ⟨h,G,H,a2,J⟩ | ⟨h,G,H,J⟩ | ⟨h,G,I,H,a2⟩ | ⟨h,G,I,H⟩ | ⟨h,H,a2,I,L,O⟩ | ⟨h,G,I,H⟩ | ⟨h,G,I,H⟩
 .obtain ⟨_,h1,h4⟩:=g_f hk h;obtain ⟨x,V,W⟩:=x_S h1 h4
  simp_all [a_,b_z,dT_]
 .simp_all
 .simp_all
 .have hl:=(g_g hk h).2;have hx:idx r.kids 0=some (p_ r):=by grind [p_,a_x,b_j]
  simp only [h,G,J,Int.reduceBEq,bF_,fF_,fT_,a_,hx,l_x _ _ hd,s_o,dT_ (show (v.bytes.length:Int)<=min 400 (lim d.rules<|p_ r) by omega)]
  rfl
 .simp_all
 .have hl:=(d_6 hk h).2;have hx:idx r.kids 0=some (p_ r):=by grind [p_,a_x,b_j]
  simp only [h,G,I,Int.reduceBEq,bF_,fF_,fT_,a_,hx,l_x _ _ hd,s_o,dT_ (show (v.items.length:Int)<=min 40 (lim d.rules<|p_ r) by omega)]
  rfl
 .simp_all
 .have hi:b_S r v.number 0=some (a_n r v.number 0):=d_I hkk v.number 0
  simp_all
 .simp only [h,G,I,Int.reduceBEq,bF_,fF_,fT_,dT_ (show (v.items.length:Int)<=1 by omega)]
  rfl
 simp_all
theorem x_U (hd:SmD d){i:Nat}(hi:i<d.rules.length)(hr:d.rules[i]=r)(hk:a_m d.rules r=true)(h:Own d.rules r v):l_g d (i:Int) v=some true:=by
 have hkk:=d_7 hk;unfold l_g
 rw [ix_ hi,hr,a_]
 unfold Own at h
 rcases h with ⟨h,I,a2,H,J⟩ | ⟨h,G,H,J⟩ | ⟨h,G,I,J⟩ | ⟨h,G,I,a2,J⟩ | ⟨h,G,I,J⟩ | ⟨h,G,H,I,a2⟩ | ⟨h,G,H,I⟩ | ⟨h,I,a2,H,L,O⟩ | ⟨h,G,H,I⟩ | ⟨h,G,H,I⟩
 .obtain ⟨_,h1,h4⟩:=g_f hk h;have hl:lim d.rules (i:Int)=256 ^ r.size.toNat - 1:=by simp_all [lim,ix_]
  simp only [h,H,J,Int.reduceBEq,bF_,fF_,fT_,a_,W_,un3,c_g,QAQ,i_3,hl,dT_ I,dT_ a2,QAD]
  rfl
 .simp only [h,G,H,J,Int.reduceBEq,bF_,fF_,fT_,a_,W_,un2,un3,c_g,QAQ,dT_<|QAx 0,QAD]
  rfl
 .simp only [h,G,J,Int.reduceBEq,bF_,fF_,fT_,a_,W_,un3,c_g,QAQ,dT_<|QAx 0,show ((v.bytes.length:Int) != r.size)=false by grind,QAD,dT_ (show (v.bytes.length:Int)<=r.size by omega)]
  rfl
 .have hl:=(g_g hk h).2;have hx:idx r.kids 0=some (p_ r):=by grind [p_,a_x,b_j]
  simp only [h,G,J,Int.reduceBEq,bF_,fF_,fT_,a_,W_,un3,c_g,QAQ,dT_<|QAx 0,hx,i_3,s_n,QAD,dT_ (show (v.bytes.length:Int)<=min 400 (lim d.rules<|p_ r) by omega)]
  rfl
 .simp only [h,G,J,Int.reduceBEq,bF_,fF_,fT_,a_,W_,un3,c_g,QAQ,dT_<|QAx 0,QAD,dT_ I]
  rfl
 .have hl:=(d_6 hk h).2;have hx:idx r.kids 0=some (p_ r):=by grind [p_,a_x,b_j]
  simp only [h,G,H,Int.reduceBEq,bF_,fF_,fT_,a_,W_,un2,un3,c_g,QAQ,dT_<|QAx 0,hx,i_3,s_n,QAD,dT_ (show (v.items.length:Int)<=min 40 (lim d.rules<|p_ r) by omega)]
  rfl
 .simp only [h,G,H,Int.reduceBEq,bF_,fF_,fT_,a_,W_,un2,un3,c_g,QAQ,dT_<|QAx 0,show ((v.items.length:Int) != (r.kids.length:Int))=false by grind,QAD,dT_ (show (v.items.length:Int)<=(r.kids.length:Int) by omega)]
  rfl
 .have hl:=(d_m hk h).2.1;have hx:idx r.kids 0=some (p_ r):=by grind [p_,a_x,b_j]
  simp only [h,H,Int.reduceBEq,bF_,fF_,fT_,a_,W_,un2,un3,c_g,QAQ,hx,i_3,QAD,show ((v.items.length:Int) != 1)=false by grind,dT_ I,dT_ a2,dT_ (show (v.items.length:Int)<=1 by omega)]
  rfl
 .simp only [h,G,H,Int.reduceBEq,bF_,fF_,fT_,a_,W_,un2,un3,c_g,QAQ,dT_<|QAx 0,QAD,dT_ (show (v.items.length:Int)<=1 by omega)]
  rfl
 .simp only [h,G,H,Int.reduceBEq,bF_,fF_,fT_,a_,W_,un2,un3,c_g,QAQ,dT_<|QAx 0,QAD,show ((v.items.length:Int) != 1)=false by grind,dT_ (show (v.items.length:Int)<=1 by omega)]
  rfl
end
section
variable {d:d_}{b:Bt}
theorem x_V (hv:D_ d=true)(hd:SmD d)(hb:b.length<=400):∀(i:Nat),i<d.rules.length->∀p,p<=b.length->(rdW d.rules b i p).2.2=0->∀n,i+2<=n->s_W n d (i:Int) (rdW d.rules b i p).1=some true:=by
 intro i
 induction i using Nat.strongRecOn with
 | ind i ih =>
  intro hi p hp hok n hn;obtain ⟨m,rfl⟩:∃m,n=m+1:=⟨n - 1,by omega⟩;have hr:=a_P hv hi;have hown:=o_k hv hb hi hp hok;have hit:=o_l hv hi hp hok
  show j_F m (h_t m) d (i:Int) (rdW d.rules b i p).1=some true
  unfold j_F
  rw [ix_ hi,a_,x_T hd.rules hr.kind hown,a_,iN_ (by simp)]
  generalize (rdW d.rules b i p).1=v at hown hit
  rw [s_h λj hj=>by
   obtain ⟨k,q,h1,h2,h3,h4,h5⟩:=hit j hj
   rw [ix_ hj,a_,d_I<|d_7 hr.kind,a_,h1,h5]
   have:=ih k h2 (by omega) q h3 h4 m (by omega)
   rw [show (h_t m).spec_l9Valid d (k:Int) (rdW d.rules b k q).1=some true from this,a_,iN_ (by simp)]]
  rfl
theorem x_W (hv:D_ d=true)(hd:SmD d)(hb:b.length<=400):∀(i:Nat),i<d.rules.length->∀p,p<=b.length->(rdW d.rules b i p).2.2=0->∀n,i+2<=n->t_R n d (i:Int) (rdW d.rules b i p).1=some true:=by
 intro i
 induction i using Nat.strongRecOn with
 | ind i ih =>
  intro hi p hp hok n hn;obtain ⟨m,rfl⟩:∃m,n=m+1:=⟨n - 1,by omega⟩;have hr:=a_P hv hi;have hown:=o_k hv hb hi hp hok;have hit:=o_l hv hi hp hok
  show l_h m (h_R m) d (i:Int) (rdW d.rules b i p).1=some true
  unfold l_h
  rw [x_U hd hi rfl hr.kind hown,a_,iN_ (by simp)]
  generalize (rdW d.rules b i p).1=v at hown hit
  rw [s_h λj hj=>by
   obtain ⟨k,q,h1,h2,h3,h4,h5⟩:=hit j hj
   rw [n_Z (ix_ hi) (d_7 hr.kind),a_,h1,dF_ (show ¬(k:Int)<0 by omega),iN_ (by simp),ix_ hj,a_,h5]
   have:=ih k h2 (by omega) q h3 h4 m (by omega)
   rw [show (h_R m).impl_validValue d (k:Int) (rdW d.rules b k q).1=some true from this,a_,a_]
   rfl]
  rfl
theorem s_p (hv:D_ d=true)(hd:SmD d)(hb:b.length<=400){i:Nat}(hi:i<d.rules.length){p:Nat}(hp:p<=b.length)(hok:(rdW d.rules b i p).2.2=0){n:Nat}(hn:1000<=n):j_G n d (i:Int) (rdW d.rules b i p).1=some true:=by
 have hl:=(b_i hv).2;unfold j_G
 rw [q_c d hd,hv,a_]
 have:b_A d (i:Int)=true:=by grind [b_A]
 rw [this,iP_ (by rfl),x_V hv hd hb i hi p hp hok n (by omega),a_,a_]
theorem x_X (hv:D_ d=true)(hd:SmD d)(hb:b.length<=400){i:Nat}(hi:i<d.rules.length){p:Nat}(hp:p<=b.length)(hok:(rdW d.rules b i p).2.2=0){n:Nat}(hn:1000<=n):l_i n d (i:Int) (rdW d.rules b i p).1=some true:=by
 have hl:=(b_i hv).2;unfold l_i
 rw [l_A n (by omega) d hd,hv,a_]
 have:b_A d (i:Int)=true:=by grind [b_A]
 rw [this,iP_ (by rfl),x_W hv hd hb i hi p hp hok n (by omega),a_,a_]
end
end Go.Vw
