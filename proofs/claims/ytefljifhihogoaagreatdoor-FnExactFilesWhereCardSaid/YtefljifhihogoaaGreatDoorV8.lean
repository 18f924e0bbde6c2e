
import Derived.Test.YtefljifhihogoaaGreatDoorV7
namespace Go.Vw
set_option linter.unusedVariables false
open Go.RowKit Dat
def ML:Nat:=1060000
theorem MLv:ML=1060000:=rfl
theorem w_N (x y:Int):f_t x y=some (min x y):=by
 unfold f_t k_R
 have h:k_ (σ:=Int) (ρ:=Int) (λL=>(λH=>bd (idx [y] ((L:Nat):Int)) λG=>bd (h_M G H) λI=>bd (α:=Int) (if I then some G else some H)<|λJ=>some<|.next J)) [y].length 0 x=some (.inl<|min x y):=by
  refine b_Z (σ:=Int) (ρ:=Int) (λj=>if j=0 then x else min x y) (n:=1)<|λj hj=>?_;obtain rfl:j=0:=by omega
  rw [show idx [y] ((0:Nat):Int)=some y from rfl]
  simp only [a_,h_M,fT_]
  by_cases hlt:y<x
  .rw [dT_ hlt];simp only [fT_,a_];grind
  simp_all [min,dF_,a_]
 simp_all
theorem w_O (x y:Int):f_s x y=some (min x y):=by
 grind [f_s]
section
variable {b:Bt}{k:Nat}
theorem l_W (b:Bt)(k i:Nat):(b.drop k)[i]? = b[k+i]? := List.getElem?_drop
theorem r_y (hb:b.length<=ML)(hk:k<b.length){q:Nat}(hq:q<=b.length) :
  (if (decide<|(e_ (k:Int) (q:Int))<(b.length:Int)) then bd (idx b<|e_ (k:Int) (q:Int)) λG=>bd (idx b (k:Int)) λH=>some ((b_ G)==(b_ H)) else some false)=some (decide<|(b.drop k)[q]? = some b[k]):=by
 have hML:=MLv
 rw [ia_ (by omega) (by omega),l_W]
 by_cases h:k+q<b.length
 .rw [dT_ (by omega),iP_ rfl,show ((k:Int)+(q:Int))=((k+q:Nat):Int) by omega,ix_ h,ix_ hk]
  simp only [a_,gG_ h,oI_]
  congr 1
  rw [QA0,dE_,QAv,j_D]
 grind
theorem r_z (hk:k<b.length):(b.drop k)[0]? = some b[k]:=by simp
theorem o_7 (b:Bt)(k:Nat):a_j (b.drop k)<=b.length - k:=by
 grind [List.length_drop,r_j]
theorem o_8 (hk:k<b.length):1<=a_j (b.drop k):=r_k (by grind)
theorem r_A (hb:b.length<=ML)(hk:k<b.length){c n:Nat}(hc:c<=a_j (b.drop k))(hn:b.length<n) :
  F_ (σ:=Int) (ρ:=Int) (λG=>bd (α:=Bool) (if (decide<|(e_ (k:Int) G)<(b.length:Int)) then bd (idx b<|e_ (k:Int) G) λH=>bd (idx b (k:Int)) λI=>some ((b_ H)==(b_ I)) else some false) (λJ=>if J then some (.next<|e_ G 1) else some (.brk G))) n (c:Int)=some (.inl ((a_j (b.drop k):Nat):Int)):=by
 have hML:=MLv;have hl:=o_7 b k
 have:=g_l (σ:=Int) (ρ:=Int) (step:=λG=>bd (α:=Bool) (if (decide<|(e_ (k:Int) G)<(b.length:Int)) then bd (idx b<|e_ (k:Int) G) λH=>bd (idx b (k:Int)) λI=>some ((b_ H)==(b_ I)) else some false) (λJ=>if J then some (.next<|e_ G 1) else some (.brk G)))
  (λj=>((c+j:Nat):Int)) (s:=((a_j (b.drop k):Nat):Int)) (m:=n) (j0:=a_j (b.drop k) - c) (by omega) (λj hj=>by
   rw [r_y hb hk (by omega),a_,dT_<|o_0 (r_z hk) (by omega)]
   simp only [fT_]
   grind [d_o]) (by
   rw [r_y hb hk (by omega),a_,show c+(a_j (b.drop k) - c)=a_j (b.drop k) by omega,dF_<|λh=>o_1 (r_z hk) h rfl]
   rfl)
 omega
theorem w_P (hb:b.length<=ML)(hk:k<b.length){n:Nat}(hn:b.length<n):k_Q n b (k:Int)=some ((a_j (b.drop k):Nat):Int):=by
 unfold k_Q
 rw [dF_ (show ¬(k:Int)<0 by omega),dF_ (show ¬(b.length:Int)<=(k:Int) by omega)]
 simp only [bF_,fF_,a_]
 have:=r_A hb hk (c:=1) (o_8 hk) hn
 simp_all
theorem r_B (hb:b.length<=ML)(hk:k<b.length){n:Nat}(hn:b.length<n):h_K n b (k:Int)=some ((a_j (b.drop k):Nat):Int):=by
 have hML:=MLv;unfold h_K
 rw [b_z,a_L (by omega) (by omega),dT_ (show (0:Int)<=(k:Int) by omega),dT_ (show (k:Int)<=(b.length:Int) - 1 by omega)]
 simp only [QAQ,a_,nT_,bF_,fF_]
 have:=r_A hb hk (c:=0) (QAI _) hn
 simp_all
theorem r_C (hb:b.length<=ML)(hk:k<b.length):h_L b (k:Int)=some (decide<|3<=a_j (b.drop k)):=by
 have hML:=MLv;unfold h_L;have h3:=w_C (s:=b.drop k)
 rw [l_W,l_W,l_W,QBM] at h3
 rw [ia_ (y:=2) (by omega) (by omega),ia_ (y:=1) (by omega) (by omega)]
 by_cases h:k+2<b.length
 .rw [dT_ (by omega),show ((k:Int)+1)=((k+1:Nat):Int) by omega,show ((k:Int)+2)=((k+2:Nat):Int) by omega,ix_ hk,ix_ (k:=k+1) (by omega),ix_ h]
  simp only [fT_,a_]
  rw [gG_ hk,gG_ (show k+1<b.length by omega),gG_ h] at h3
  by_cases h1:b[k]=b[k+1]
  .rw [show (b_ b[k]==b_ b[k+1])=true by grind]
   simp only [fT_,a_]
   congr 1
   rw [QA0,dE_,QAv,j_D,h3]
   grind
  .rw [show (b_ b[k]==b_ b[k+1])=false by grind [j_D,beq_eq_false_iff_ne]]
   simp only [bF_,fF_,a_]
   grind
 .rw [dF_ (by omega)]
  simp_all
theorem r_D (hb:b.length<=ML)(hk:k<b.length){c n:Nat}(hc:c<=a_I 127 (b.drop k))(hn:b.length<n)(T:Int->Option Bool)(hT:∀q:Nat,q<b.length->T (q:Int)=some (decide (¬3<=a_j (b.drop q)))) :
  F_ (σ:=Int) (ρ:=Bt) (λG=>bd (α:=Bool) (if (decide<|G<(b.length:Int)) then if (decide<|(w_ G (k:Int))<127) then T G else some false else some false) (λH=>if H then some (.next<|e_ G 1) else some (.brk G))) n ((k+c:Nat):Int)=some (.inl ((k+a_I 127 (b.drop k):Nat):Int)):=by
 have hML:=MLv;have hl:=i_b 127<|b.drop k
 rw [QAa] at hl
 have:=g_l (σ:=Int) (ρ:=Bt) (step:=λG=>bd (α:=Bool) (if (decide<|G<(b.length:Int)) then if (decide<|(w_ G (k:Int))<127) then T G else some false else some false) (λH=>if H then some (.next<|e_ G 1) else some (.brk G)))
  (λj=>((k+(c+j):Nat):Int)) (s:=((k+a_I 127 (b.drop k):Nat):Int)) (m:=n) (j0:=a_I 127 (b.drop k) - c) (by omega) (λj hj=>by
   have hn:=r_n 127 (b.drop k) (c+j) (by omega)
   rw [QAo] at hn
   rw [a_L (by omega) (by omega),dT_ (by omega),dT_ (by omega),iP_ rfl,iP_ rfl,hT _ (by omega),dT_ (by omega),a_]
   simp only [fT_]
   rw [ia_ (by omega) (by omega)];congr 2) (by
   rw [show k+(c+(a_I 127 (b.drop k) - c))=k+a_I 127 (b.drop k) by omega]
   rw [a_L (by omega) (by omega)]
   by_cases h1:k+a_I 127 (b.drop k)<b.length
   .rw [dT_ (by omega),iP_ rfl]
    by_cases h2:a_I 127 (b.drop k)<127
    .have he:=r_o 127 (b.drop k) h2 (by rw [QAa];omega)
     rw [QAo] at he
     rw [dT_ (by omega),iP_ rfl,hT _ h1,dF_ (by omega),a_];rfl
    .rw [dF_ (by omega)];rfl
   .rw [dF_ (by omega)];rfl)
 simpa using this
end
theorem o_9 {step:Bt×Int->Option (Out (Bt×Int)<|Bt)}{b:Bt}(hs:∀(k:Nat)(out:Bt),k<b.length->out.length<=2 * k->step (out,(k:Int))=some (.next (out++(c_i<|b.drop k).1,((k+(c_i<|b.drop k).2:Nat):Int))))
  (he:∀out,step (out,(b.length:Int))=some (.brk (out,(b.length:Int)))):∀(m k:Nat)(out:Bt),b.length - k<m->k<=b.length->out.length<=2 * k->F_ step m (out,(k:Int))=some (.inl (out++d_0 (b.drop k),(b.length:Int)))
 | 0,k,out,h,_,_=>by omega
 | m+1,k,out,h,hk,ho=>by
  unfold F_
  by_cases hlt:k<b.length
  .have hd:0<(b.drop k).length:=by grind
   have hp:=l_S hd;have hl:=r_p hd
   rw [QAa] at hp
   rw [hs k out hlt ho]
   simp only
   rw [o_9 hs he m _ _ (by omega) (by omega) (by rw [QAN];omega),r_r hd,QAh,QAo]
  .have:k=b.length:=by omega
   subst this
   rw [he]
   simp [o_3]
theorem r_E {b:Bt}{k:Nat}(hk:k<b.length)(h3:3<=a_j (b.drop k)):c_i (b.drop k)=([mkB (128+min ((a_j (b.drop k):Nat):Int) 127),b[k]],min (a_j<|b.drop k) 127):=by
 grind [c_i]
theorem r_F {b:Bt}{k:Nat}(h3:¬3<=a_j (b.drop k)):c_i (b.drop k)=(mkB (a_I 127 (b.drop k):Nat)::(b.drop k).take (a_I 127<|b.drop k),a_I 127<|b.drop k):=by
 grind [c_i]
theorem g_b {b:Bt}{k j:Nat}(h:k+j<=b.length):slc b (k:Int) ((k+j:Nat):Int)=some ((b.drop k).take j):=by
 grind [List.drop_take,Int.toNat_natCast,d_O]
theorem w_Q {b:Bt}(hb:b.length<=ML){n:Nat}(hn:b.length<n):k_S n b=some (d_0 b):=by
 have hML:=MLv;have hLIM:=a_7;unfold k_S;refine (congrArg (λz=>bd z _)<|o_9 (b:=b) ?_ ?_ n 0 [] (by omega) (QAI _)<|QAI _).trans ?_
 .intro k out hk ho
  simp only [un2]
  have hrl:=o_7 b k;have hrp:=o_8 hk
  rw [dT_ (show (k:Int)<(b.length:Int) by omega),iP_ rfl,r_C hb hk,a_]
  by_cases h3:3<=a_j (b.drop k)
  .rw [dT_ h3,iP_ rfl,w_P hb hk hn,a_,w_N,a_,ix_ hk,a_,ia_ (by omega) (by omega),c_l (by grind),a_,a_,W_,ia_ (by omega) (by omega),r_E hk h3]
   grind
  .rw [dF_ h3,iN_ (by simp),ia_ (y:=1) (by omega) (by omega)]
   have hlp:=l_R (m:=127) (by omega) (s:=b.drop k) (by grind) h3;have hll:=i_b 127<|b.drop k
   rw [QAa] at hll
   have h:=r_D hb hk (c:=1) hlp hn (λx=>bd (h_L b x) λG=>some (!G)) (λq hq=>by rw [r_C hb hq,a_,decide_not])
   rw [show ((k:Int)+1)=((k+1:Nat):Int) by omega,h,a_,W_,a_L (by omega) (by omega),a_Z (by omega),a_,g_b (by omega),a_,c_l (by grind),a_,a_,W_,r_F h3]
   grind
 .simp
 rfl
theorem w_R {b:Bt}(hb:b.length<=ML){n:Nat}(hn:b.length<n):k_H n b=some (d_0 b):=by
 have hML:=MLv;have hLIM:=a_7;unfold k_H;refine (congrArg (λz=>bd z _)<|o_9 (b:=b) ?_ ?_ n 0 [] (by omega) (QAI _)<|QAI _).trans ?_
 .intro k out hk ho
  simp only [un2]
  have hrl:=o_7 b k;have hrp:=o_8 hk
  rw [dT_ (show (k:Int)<(b.length:Int) by omega),iP_ rfl,r_B hb hk hn,a_,w_O,a_]
  by_cases h3:3<=a_j (b.drop k)
  .rw [dT_ (show (3:Int)<=min ((a_j (b.drop k):Nat):Int) 127 by omega),iP_ rfl,ix_ hk,a_,ia_ (by omega) (by omega),c_l (by grind),a_,a_,W_,ia_ (by omega) (by omega),r_E hk h3]
   grind
  .rw [dF_ (show ¬(3:Int)<=min ((a_j (b.drop k):Nat):Int) 127 by omega),iN_ (by simp)]
   have hlp:=l_R (m:=127) (by omega) (s:=b.drop k) (by grind) h3;have hll:=i_b 127<|b.drop k
   rw [QAa] at hll
   have h:=r_D hb hk (c:=0) (QAI _) hn (λx=>bd (h_K n b x) λG=>some<|decide<|G<3) (λq hq=>by rw [r_B hb hq hn,a_];congr 1;grind)
   rw [QBM] at h
   rw [h,a_,W_,g_b (by omega),a_,a_L (by omega) (by omega),a_Z (by omega),a_,c_l (by grind),a_,a_,W_,r_F h3]
   grind
 .simp
 rfl
end Go.Vw
