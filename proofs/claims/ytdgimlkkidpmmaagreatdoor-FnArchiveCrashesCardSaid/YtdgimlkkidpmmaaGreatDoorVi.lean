
import Derived.Test.YtdgimlkkidpmmaaGreatDoorVh
namespace Go.Vw
open Go.RowKit Dat
def ML:Nat:=1060000
theorem MLv:ML=1060000:=rfl
theorem o_X (x y:Int):d_Y x y=some (min x y):=by
 unfold d_Y j_C
 have h:t_ (σ:=Int) (ρ:=Int) (λL=>(λH=>bd (idx [y] ((L:Nat):Int)) λG=>bd (g_y G H) λI=>bd (α:=Int) (if I then some G else some H)<|λJ=>some<|.next J)) [y].length 0 x=some (.inl<|min x y):=by
  refine d_g (σ:=Int) (ρ:=Int) (λj=>if j=0 then x else min x y) (n:=1)<|λj hj=>?_;obtain rfl:j=0:=by omega
  rw [show idx [y] ((0:Nat):Int)=some y from rfl]
  simp only [bd_some,g_y,fT_]
  by_cases hlt:y<x
  .rw [dT_ hlt];simp only [fT_,bd_some];rw [show min x y=y by omega];rfl
  .rw [dF_ hlt];simp only [bF_,fF_,bd_some];rw [show min x y=x by omega];rfl
 rw [h];rfl
theorem k_x (x y:Int):b_L x y=some (min x y):=by
 unfold b_L
 by_cases hlt:y<x
 .rw [dT_ hlt];simp only [fT_];congr 1;omega
 .rw [dF_ hlt];simp only [bF_,fF_];congr 1;omega
section
variable {b:Bt}{k:Nat}
theorem g_f (b:Bt)(k i:Nat):(b.drop k)[i]? = b[k+i]? := List.getElem?_drop
theorem o_Y (hb:b.length<=ML)(hk:k<b.length){q:Nat}(hq:q<=b.length) :
  (if (decide<|(d_ (k:Int) (q:Int))<(b.length:Int)) then bd (idx b<|d_ (k:Int) (q:Int)) λG=>bd (idx b (k:Int)) λH=>some ((byteI G)==(byteI H)) else some false)=some (decide<|(b.drop k)[q]? = some b[k]):=by
 have hML:=MLv
 rw [ia_ (by omega) (by omega),g_f]
 by_cases h:k+q<b.length
 .rw [dT_ (by omega),iP_ rfl,show ((k:Int)+(q:Int))=((k+q:Nat):Int) by omega,ix_ h,ix_ hk]
  simp only [bd_some,gG_ h,oI_]
  congr 1
  rw [Bool.eq_iff_iff,dE_,beq_iff_eq,h_A]
 .rw [dF_ (by omega),iN_ (by simp),gN_ (by omega)];rfl
theorem m_G (hk:k<b.length):(b.drop k)[0]? = some b[k]:=by rw [g_f,Nat.add_zero];exact gG_ hk
theorem k_y (b:Bt)(k:Nat):a_a (b.drop k)<=b.length - k:=by
 have:=o_J<|b.drop k;rwa [List.length_drop] at this
theorem m_H (hk:k<b.length):1<=a_a (b.drop k):=o_K (by rw [List.length_drop];omega)
theorem o_Z (hb:b.length<=ML)(hk:k<b.length){c n:Nat}(hc:c<=a_a (b.drop k))(hn:b.length<n) :
  C_ (σ:=Int) (ρ:=Int) (λG=>bd (α:=Bool) (if (decide<|(d_ (k:Int) G)<(b.length:Int)) then bd (idx b<|d_ (k:Int) G) λH=>bd (idx b (k:Int)) λI=>some ((byteI H)==(byteI I)) else some false) (λJ=>if J then some (.next<|d_ G 1) else some (.brk G))) n (c:Int)=some (.inl ((a_a (b.drop k):Nat):Int)):=by
 have hML:=MLv;have hl:=k_y b k
 have:=n_d (σ:=Int) (ρ:=Int) (step:=λG=>bd (α:=Bool) (if (decide<|(d_ (k:Int) G)<(b.length:Int)) then bd (idx b<|d_ (k:Int) G) λH=>bd (idx b (k:Int)) λI=>some ((byteI H)==(byteI I)) else some false) (λJ=>if J then some (.next<|d_ G 1) else some (.brk G)))
  (λj=>((c+j:Nat):Int)) (s:=((a_a (b.drop k):Nat):Int)) (m:=n) (j0:=a_a (b.drop k) - c) (by omega) (λj hj=>by
   rw [o_Y hb hk (by omega),bd_some,dT_<|m_w (m_G hk) (by omega)]
   simp only [fT_]
   rw [ia_ (by omega) (by omega)];rfl) (by
   rw [o_Y hb hk (by omega),bd_some,show c+(a_a (b.drop k) - c)=a_a (b.drop k) by omega,dF_<|λh=>m_x (m_G hk) h rfl]
   rfl)
 simpa using this
theorem t_k (hb:b.length<=ML)(hk:k<b.length){n:Nat}(hn:b.length<n):j_B n b (k:Int)=some ((a_a (b.drop k):Nat):Int):=by
 unfold j_B
 rw [dF_ (show ¬(k:Int)<0 by omega),dF_ (show ¬(b.length:Int)<=(k:Int) by omega)]
 simp only [bF_,fF_,bd_some]
 have:=o_Z hb hk (c:=1) (m_H hk) hn
 rw [show (((1:Nat)):Int)=1 from rfl] at this
 rw [this,bd_some,el_inl]
theorem p_0 (hb:b.length<=ML)(hk:k<b.length){n:Nat}(hn:b.length<n):g_v n b (k:Int)=some ((a_a (b.drop k):Nat):Int):=by
 have hML:=MLv;unfold g_v
 rw [b_5,a_f (by omega) (by omega),dT_ (show (0:Int)<=(k:Int) by omega),dT_ (show (k:Int)<=(b.length:Int) - 1 by omega)]
 simp only [Bool.and_self,bd_some,nT_,bF_,fF_]
 have:=o_Z hb hk (c:=0) (Nat.zero_le _) hn
 rw [show (((0:Nat)):Int)=0 from rfl] at this
 rw [this,bd_some,el_inl]
theorem p_1 (hb:b.length<=ML)(hk:k<b.length):g_x b (k:Int)=some (decide<|3<=a_a (b.drop k)):=by
 have hML:=MLv;unfold g_x;have h3:=t_c (s:=b.drop k)
 rw [g_f,g_f,g_f,Nat.add_zero] at h3
 rw [ia_ (y:=2) (by omega) (by omega),ia_ (y:=1) (by omega) (by omega)]
 by_cases h:k+2<b.length
 .rw [dT_ (by omega),show ((k:Int)+1)=((k+1:Nat):Int) by omega,show ((k:Int)+2)=((k+2:Nat):Int) by omega,ix_ hk,ix_ (k:=k+1) (by omega),ix_ h]
  simp only [fT_,bd_some]
  rw [gG_ hk,gG_ (show k+1<b.length by omega),gG_ h] at h3
  by_cases h1:b[k]=b[k+1]
  .rw [show (byteI b[k]==byteI b[k+1])=true by rw [beq_iff_eq,h_A];exact h1]
   simp only [fT_,bd_some]
   congr 1
   rw [Bool.eq_iff_iff,dE_,beq_iff_eq,h_A,h3]
   constructor
   .intro h2;exact ⟨b[k],rfl,by rw [h1],by rw [h2]⟩
   .rintro ⟨x,G,_,H⟩;exact (Option.some.inj G).trans (Option.some.inj H).symm
  .rw [show (byteI b[k]==byteI b[k+1])=false by rw [beq_eq_false_iff_ne];exact λh2=>h1<|h_A.1 h2]
   simp only [bF_,fF_,bd_some]
   congr 1
   symm;rw [decide_eq_false_iff_not,h3]
   rintro ⟨x,G,I,_⟩;exact h1<|(Option.some.inj G).trans (Option.some.inj I).symm
 .rw [dF_ (by omega)]
  simp only [bF_,fF_,bd_some]
  congr 1
  have:=k_y b k
  symm;rw [decide_eq_false_iff_not];omega
theorem p_2 (hb:b.length<=ML)(hk:k<b.length){c n:Nat}(hc:c<=a_p 127 (b.drop k))(hn:b.length<n)(T:Int->Option Bool)(hT:∀q:Nat,q<b.length->T (q:Int)=some (decide (¬3<=a_a (b.drop q)))) :
  C_ (σ:=Int) (ρ:=Bt) (λG=>bd (α:=Bool) (if (decide<|G<(b.length:Int)) then if (decide<|(h_ G (k:Int))<127) then T G else some false else some false) (λH=>if H then some (.next<|d_ G 1) else some (.brk G))) n ((k+c:Nat):Int)=some (.inl ((k+a_p 127 (b.drop k):Nat):Int)):=by
 have hML:=MLv;have hl:=h_v 127<|b.drop k
 rw [List.length_drop] at hl
 have:=n_d (σ:=Int) (ρ:=Bt) (step:=λG=>bd (α:=Bool) (if (decide<|G<(b.length:Int)) then if (decide<|(h_ G (k:Int))<127) then T G else some false else some false) (λH=>if H then some (.next<|d_ G 1) else some (.brk G)))
  (λj=>((k+(c+j):Nat):Int)) (s:=((k+a_p 127 (b.drop k):Nat):Int)) (m:=n) (j0:=a_p 127 (b.drop k) - c) (by omega) (λj hj=>by
   have hn:=o_N 127 (b.drop k) (c+j) (by omega)
   rw [List.drop_drop] at hn
   rw [a_f (by omega) (by omega),dT_ (by omega),dT_ (by omega),iP_ rfl,iP_ rfl,hT _ (by omega),dT_ (by omega),bd_some]
   simp only [fT_]
   rw [ia_ (by omega) (by omega)];congr 2) (by
   rw [show k+(c+(a_p 127 (b.drop k) - c))=k+a_p 127 (b.drop k) by omega]
   rw [a_f (by omega) (by omega)]
   by_cases h1:k+a_p 127 (b.drop k)<b.length
   .rw [dT_ (by omega),iP_ rfl]
    by_cases h2:a_p 127 (b.drop k)<127
    .have he:=o_O 127 (b.drop k) h2 (by rw [List.length_drop];omega)
     rw [List.drop_drop] at he
     rw [dT_ (by omega),iP_ rfl,hT _ h1,dF_ (by omega),bd_some];rfl
    .rw [dF_ (by omega)];rfl
   .rw [dF_ (by omega)];rfl)
 simpa using this
end
theorem m_I {step:Bt×Int->Option (Out (Bt×Int)<|Bt)}{b:Bt}(hs:∀(k:Nat)(out:Bt),k<b.length->out.length<=2 * k->step (out,(k:Int))=some (.next (out++(b_S<|b.drop k).1,((k+(b_S<|b.drop k).2:Nat):Int))))
  (he:∀out,step (out,(b.length:Int))=some (.brk (out,(b.length:Int)))):∀(m k:Nat)(out:Bt),b.length - k<m->k<=b.length->out.length<=2 * k->C_ step m (out,(k:Int))=some (.inl (out++b_m (b.drop k),(b.length:Int)))
 | 0,k,out,h,_,_=>by omega
 | m+1,k,out,h,hk,ho=>by
  unfold C_
  by_cases hlt:k<b.length
  .have hd:0<(b.drop k).length:=by rw [List.length_drop];omega
   have hp:=k_u hd;have hl:=o_P hd
   rw [List.length_drop] at hp
   rw [hs k out hlt ho]
   simp only
   rw [m_I hs he m _ _ (by omega) (by omega) (by rw [List.length_append];omega),o_R hd,List.append_assoc,List.drop_drop]
  .have:k=b.length:=by omega
   subst this
   rw [he]
   simp [m_z]
theorem p_3 {b:Bt}{k:Nat}(hk:k<b.length)(h3:3<=a_a (b.drop k)):b_S (b.drop k)=([mkB (128+min ((a_a (b.drop k):Nat):Int) 127),b[k]],min (a_a<|b.drop k) 127):=by
 unfold b_S
 rw [iP_ h3]
 have hg:(b.drop k).getD 0 0=b[k]:=by
  rw [gD_,m_G hk];rfl
 rw [hg]
 congr 4
 omega
theorem p_4 {b:Bt}{k:Nat}(h3:¬3<=a_a (b.drop k)):b_S (b.drop k)=(mkB (a_p 127 (b.drop k):Nat)::(b.drop k).take (a_p 127<|b.drop k),a_p 127<|b.drop k):=by
 unfold b_S;rw [iN_ h3]
theorem e_Y {b:Bt}{k j:Nat}(h:k+j<=b.length):slc b (k:Int) ((k+j:Nat):Int)=some ((b.drop k).take j):=by
 rw [e_p (by omega) (by omega) (by omega)]
 congr 1
 simp only [tN_]
 rw [List.drop_take,show k+j - k=j by omega]
theorem t_l {b:Bt}(hb:b.length<=ML){n:Nat}(hn:b.length<n):j_D n b=some (b_m b):=by
 have hML:=MLv;have hLIM:=W_;unfold j_D;refine (congrArg (λz=>bd z _)<|m_I (b:=b) ?_ ?_ n 0 [] (by omega) (Nat.zero_le _)<|Nat.zero_le _).trans ?_
 .intro k out hk ho
  simp only [un2]
  have hrl:=k_y b k;have hrp:=m_H hk
  rw [dT_ (show (k:Int)<(b.length:Int) by omega),iP_ rfl,p_1 hb hk,bd_some]
  by_cases h3:3<=a_a (b.drop k)
  .rw [dT_ h3,iP_ rfl,t_k hb hk hn,bd_some,o_X,bd_some,ix_ hk,bd_some,ia_ (by omega) (by omega),a_A (by simp only [lC_,List.length_nil];omega),bd_some,bd_some,el_inl,ia_ (by omega) (by omega),p_3 hk h3]
   simp only
   rw [show ((k+min (a_a<|b.drop k) 127:Nat):Int)=(k:Int)+min ((a_a (b.drop k):Nat):Int) 127 by omega]
  .rw [dF_ h3,iN_ (by simp),ia_ (y:=1) (by omega) (by omega)]
   have hlp:=k_t (m:=127) (by omega) (s:=b.drop k) (by rw [List.length_drop];omega) h3;have hll:=h_v 127<|b.drop k
   rw [List.length_drop] at hll
   have h:=p_2 hb hk (c:=1) hlp hn (λx=>bd (g_x b x) λG=>some (!G)) (λq hq=>by rw [p_1 hb hq,bd_some,decide_not])
   rw [show ((k:Int)+1)=((k+1:Nat):Int) by omega,h,bd_some,el_inl,a_f (by omega) (by omega),O_ (by omega),bd_some,e_Y (by omega),bd_some,a_A (by simp only [List.length_append,lC_,List.length_nil,List.length_take,List.length_drop];omega),bd_some,bd_some,el_inl,p_4 h3]
   simp only [List.append_assoc,List.cons_append,List.nil_append]
   rw [show (((k+a_p 127 (b.drop k):Nat):Int) - (k:Int))=((a_p 127 (b.drop k):Nat):Int) by omega]
 .intro out
  simp only [un2]
  rw [dF_ (by omega)];rfl
 .rw [bd_some,el_inl];simp
theorem t_m {b:Bt}(hb:b.length<=ML){n:Nat}(hn:b.length<n):j_w n b=some (b_m b):=by
 have hML:=MLv;have hLIM:=W_;unfold j_w;refine (congrArg (λz=>bd z _)<|m_I (b:=b) ?_ ?_ n 0 [] (by omega) (Nat.zero_le _)<|Nat.zero_le _).trans ?_
 .intro k out hk ho
  simp only [un2]
  have hrl:=k_y b k;have hrp:=m_H hk
  rw [dT_ (show (k:Int)<(b.length:Int) by omega),iP_ rfl,p_0 hb hk hn,bd_some,k_x,bd_some]
  by_cases h3:3<=a_a (b.drop k)
  .rw [dT_ (show (3:Int)<=min ((a_a (b.drop k):Nat):Int) 127 by omega),iP_ rfl,ix_ hk,bd_some,ia_ (by omega) (by omega),a_A (by simp only [lC_,List.length_nil];omega),bd_some,bd_some,el_inl,ia_ (by omega) (by omega),p_3 hk h3]
   simp only
   rw [show ((k+min (a_a<|b.drop k) 127:Nat):Int)=(k:Int)+min ((a_a (b.drop k):Nat):Int) 127 by omega]
  .rw [dF_ (show ¬(3:Int)<=min ((a_a (b.drop k):Nat):Int) 127 by omega),iN_ (by simp)]
   have hlp:=k_t (m:=127) (by omega) (s:=b.drop k) (by rw [List.length_drop];omega) h3;have hll:=h_v 127<|b.drop k
   rw [List.length_drop] at hll
   have h:=p_2 hb hk (c:=0) (Nat.zero_le _) hn (λx=>bd (g_v n b x) λG=>some<|decide<|G<3) (λq hq=>by rw [p_0 hb hq hn,bd_some];congr 1;rw [decide_eq_decide];omega)
   rw [Nat.add_zero] at h
   rw [h,bd_some,el_inl,e_Y (by omega),bd_some,a_f (by omega) (by omega),O_ (by omega),bd_some,a_A (by simp only [List.length_append,lC_,List.length_nil,List.length_take,List.length_drop];omega),bd_some,bd_some,el_inl,p_4 h3]
   simp only [List.append_assoc,List.cons_append,List.nil_append]
   rw [show (((k+a_p 127 (b.drop k):Nat):Int) - (k:Int))=((a_p 127 (b.drop k):Nat):Int) by omega]
 .intro out
  simp only [un2]
  rw [dF_ (by omega)];rfl
 .rw [bd_some,el_inl];simp
end Go.Vw
