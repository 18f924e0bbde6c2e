
import Derived.Test.YtgpgenigfncgeaaGreatDoorVf
namespace Go.Vw
open Go.RowKit Dat
def ML:Nat:=1060000
theorem MLv:ML=1060000:=rfl
theorem u_l (x y:Int):j_q x y=some (min x y):=by
 unfold j_q l_s
 have h:u_ (σ:=Int) (ρ:=Int) (λL=>(λH=>bd (idx [y] ((L:Nat):Int)) λG=>bd (j_p G H) λI=>bd (α:=Int) (if I then some G else some H)<|λJ=>some<|.next J)) [y].length 0 x=some (.inl<|min x y):=by
  refine b_M (σ:=Int) (ρ:=Int) (λj=>if j=0 then x else min x y) (n:=1)<|λj hj=>?_;obtain rfl:j=0:=by omega
  rw [show idx [y] ((0:Nat):Int)=some y from rfl]
  simp only [bd_some,j_p,fT_]
  by_cases hlt:y<x
  .rw [dT_ hlt];simp only [fT_,bd_some];rw [show min x y=y by omega];rfl
  .rw [dF_ hlt];simp only [bF_,fF_,bd_some];rw [show min x y=x by omega];rfl
 rw [h];rfl
theorem u_m (x y:Int):j_e x y=some (min x y):=by
 unfold j_e
 by_cases hlt:y<x
 .rw [dT_ hlt];simp only [fT_];congr 1;omega
 .rw [dF_ hlt];simp only [bF_,fF_];congr 1;omega
section
variable {b:Bt}{k:Nat}
theorem f_B (b:Bt)(k i:Nat):(b.drop k)[i]? = b[k+i]? := List.getElem?_drop
theorem p_z (hb:b.length<=ML)(hk:k<b.length){q:Nat}(hq:q<=b.length) :
  (if (decide<|(b_ (k:Int) (q:Int))<(b.length:Int)) then bd (idx b<|b_ (k:Int) (q:Int)) λG=>bd (idx b (k:Int)) λH=>some ((byteI G)==(byteI H)) else some false)=some (decide<|(b.drop k)[q]? = some b[k]):=by
 have hML:=MLv
 rw [ia_ (by omega) (by omega),f_B]
 by_cases h:k+q<b.length
 .rw [dT_ (by omega),iP_ rfl,show ((k:Int)+(q:Int))=((k+q:Nat):Int) by omega,ix_ h,ix_ hk]
  simp only [bd_some,gG_ h,oI_]
  congr 1
  rw [Bool.eq_iff_iff,dE_,beq_iff_eq,g_E]
 .rw [dF_ (by omega),iN_ (by simp),gN_ (by omega)];rfl
theorem m_N (hk:k<b.length):(b.drop k)[0]? = some b[k]:=by rw [f_B,Nat.add_zero];exact gG_ hk
theorem k_V (b:Bt)(k:Nat):a_b (b.drop k)<=b.length - k:=by
 have:=p_j<|b.drop k;rwa [List.length_drop] at this
theorem m_O (hk:k<b.length):1<=a_b (b.drop k):=p_k (by rw [List.length_drop];omega)
theorem p_A (hb:b.length<=ML)(hk:k<b.length){c n:Nat}(hc:c<=a_b (b.drop k))(hn:b.length<n) :
  I_ (σ:=Int) (ρ:=Int) (λG=>bd (α:=Bool) (if (decide<|(b_ (k:Int) G)<(b.length:Int)) then bd (idx b<|b_ (k:Int) G) λH=>bd (idx b (k:Int)) λI=>some ((byteI H)==(byteI I)) else some false) (λJ=>if J then some (.next<|b_ G 1) else some (.brk G))) n (c:Int)=some (.inl ((a_b (b.drop k):Nat):Int)):=by
 have hML:=MLv;have hl:=k_V b k
 have:=f_4 (σ:=Int) (ρ:=Int) (step:=λG=>bd (α:=Bool) (if (decide<|(b_ (k:Int) G)<(b.length:Int)) then bd (idx b<|b_ (k:Int) G) λH=>bd (idx b (k:Int)) λI=>some ((byteI H)==(byteI I)) else some false) (λJ=>if J then some (.next<|b_ G 1) else some (.brk G)))
  (λj=>((c+j:Nat):Int)) (s:=((a_b (b.drop k):Nat):Int)) (m:=n) (j0:=a_b (b.drop k) - c) (by omega) (λj hj=>by
   rw [p_z hb hk (by omega),bd_some,dT_<|m_G (m_N hk) (by omega)]
   simp only [fT_]
   rw [ia_ (by omega) (by omega)];rfl) (by
   rw [p_z hb hk (by omega),bd_some,show c+(a_b (b.drop k) - c)=a_b (b.drop k) by omega,dF_<|λh=>m_H (m_N hk) h rfl]
   rfl)
 simpa using this
theorem u_n (hb:b.length<=ML)(hk:k<b.length){n:Nat}(hn:b.length<n):j_o n b (k:Int)=some ((a_b (b.drop k):Nat):Int):=by
 unfold j_o
 rw [dF_ (show ¬(k:Int)<0 by omega),dF_ (show ¬(b.length:Int)<=(k:Int) by omega)]
 simp only [bF_,fF_,bd_some]
 have:=p_A hb hk (c:=1) (m_O hk) hn
 rw [show (((1:Nat)):Int)=1 from rfl] at this
 rw [this,bd_some,el_inl]
theorem p_B (hb:b.length<=ML)(hk:k<b.length){n:Nat}(hn:b.length<n):f_V n b (k:Int)=some ((a_b (b.drop k):Nat):Int):=by
 have hML:=MLv;unfold f_V
 rw [b_u,a_y (by omega) (by omega),dT_ (show (0:Int)<=(k:Int) by omega),dT_ (show (k:Int)<=(b.length:Int) - 1 by omega)]
 simp only [Bool.and_self,bd_some,nT_,bF_,fF_]
 have:=p_A hb hk (c:=0) (Nat.zero_le _) hn
 rw [show (((0:Nat)):Int)=0 from rfl] at this
 rw [this,bd_some,el_inl]
theorem p_C (hb:b.length<=ML)(hk:k<b.length):f_W b (k:Int)=some (decide<|3<=a_b (b.drop k)):=by
 have hML:=MLv;unfold f_W;have h3:=u_b (s:=b.drop k)
 rw [f_B,f_B,f_B,Nat.add_zero] at h3
 rw [ia_ (y:=2) (by omega) (by omega),ia_ (y:=1) (by omega) (by omega)]
 by_cases h:k+2<b.length
 .rw [dT_ (by omega),show ((k:Int)+1)=((k+1:Nat):Int) by omega,show ((k:Int)+2)=((k+2:Nat):Int) by omega,ix_ hk,ix_ (k:=k+1) (by omega),ix_ h]
  simp only [fT_,bd_some]
  rw [gG_ hk,gG_ (show k+1<b.length by omega),gG_ h] at h3
  by_cases h1:b[k]=b[k+1]
  .rw [show (byteI b[k]==byteI b[k+1])=true by rw [beq_iff_eq,g_E];exact h1]
   simp only [fT_,bd_some]
   congr 1
   rw [Bool.eq_iff_iff,dE_,beq_iff_eq,g_E,h3]
   constructor
   .intro h2;exact ⟨b[k],rfl,by rw [h1],by rw [h2]⟩
   .rintro ⟨x,G,_,H⟩;exact (Option.some.inj G).trans (Option.some.inj H).symm
  .rw [show (byteI b[k]==byteI b[k+1])=false by rw [beq_eq_false_iff_ne];exact λh2=>h1<|g_E.1 h2]
   simp only [bF_,fF_,bd_some]
   congr 1
   symm;rw [decide_eq_false_iff_not,h3]
   rintro ⟨x,G,I,_⟩;exact h1<|(Option.some.inj G).trans (Option.some.inj I).symm
 .rw [dF_ (by omega)]
  simp only [bF_,fF_,bd_some]
  congr 1
  have:=k_V b k
  symm;rw [decide_eq_false_iff_not];omega
theorem p_D (hb:b.length<=ML)(hk:k<b.length){c n:Nat}(hc:c<=a_p 127 (b.drop k))(hn:b.length<n)(T:Int->Option Bool)(hT:∀q:Nat,q<b.length->T (q:Int)=some (decide (¬3<=a_b (b.drop q)))) :
  I_ (σ:=Int) (ρ:=Bt) (λh=>bd (α:=Bool) (if (decide<|h<(b.length:Int)) then if (decide<|(w_ h (k:Int))<127) then T h else some false else some false) (λG=>if G then some (.next<|b_ h 1) else some (.brk h))) n ((k+c:Nat):Int)=some (.inl ((k+a_p 127 (b.drop k):Nat):Int)):=by
 have hML:=MLv;have hl:=g_w 127<|b.drop k
 rw [List.length_drop] at hl
 have:=f_4 (σ:=Int) (ρ:=Bt) (step:=λh=>bd (α:=Bool) (if (decide<|h<(b.length:Int)) then if (decide<|(w_ h (k:Int))<127) then T h else some false else some false) (λG=>if G then some (.next<|b_ h 1) else some (.brk h)))
  (λj=>((k+(c+j):Nat):Int)) (s:=((k+a_p 127 (b.drop k):Nat):Int)) (m:=n) (j0:=a_p 127 (b.drop k) - c) (by omega) (λj hj=>by
   have hn:=p_n 127 (b.drop k) (c+j) (by omega)
   rw [List.drop_drop] at hn
   rw [a_y (by omega) (by omega),dT_ (by omega),dT_ (by omega),iP_ rfl,iP_ rfl,hT _ (by omega),dT_ (by omega),bd_some]
   simp only [fT_]
   rw [ia_ (by omega) (by omega)];congr 2) (by
   rw [show k+(c+(a_p 127 (b.drop k) - c))=k+a_p 127 (b.drop k) by omega]
   rw [a_y (by omega) (by omega)]
   by_cases h1:k+a_p 127 (b.drop k)<b.length
   .rw [dT_ (by omega),iP_ rfl]
    by_cases h2:a_p 127 (b.drop k)<127
    .have he:=p_o 127 (b.drop k) h2 (by rw [List.length_drop];omega)
     rw [List.drop_drop] at he
     rw [dT_ (by omega),iP_ rfl,hT _ h1,dF_ (by omega),bd_some];rfl
    .rw [dF_ (by omega)];rfl
   .rw [dF_ (by omega)];rfl)
 simpa using this
end
theorem m_P {step:Bt×Int->Option (Out (Bt×Int)<|Bt)}{b:Bt}(hs:∀(k:Nat)(out:Bt),k<b.length->out.length<=2 * k->step (out,(k:Int))=some (.next (out++(b_U<|b.drop k).1,((k+(b_U<|b.drop k).2:Nat):Int))))
  (he:∀out,step (out,(b.length:Int))=some (.brk (out,(b.length:Int)))):∀(m k:Nat)(out:Bt),b.length - k<m->k<=b.length->out.length<=2 * k->I_ step m (out,(k:Int))=some (.inl (out++c_x (b.drop k),(b.length:Int)))
 | 0,k,out,h,_,_=>by omega
 | m+1,k,out,h,hk,ho=>by
  unfold I_
  by_cases hlt:k<b.length
  .have hd:0<(b.drop k).length:=by rw [List.length_drop];omega
   have hp:=k_R hd;have hl:=p_p hd
   rw [List.length_drop] at hp
   rw [hs k out hlt ho]
   simp only
   rw [m_P hs he m _ _ (by omega) (by omega) (by rw [List.length_append];omega),p_r hd,List.append_assoc,List.drop_drop]
  .have:k=b.length:=by omega
   subst this
   rw [he]
   simp [m_J]
theorem p_E {b:Bt}{k:Nat}(hk:k<b.length)(h3:3<=a_b (b.drop k)):b_U (b.drop k)=([mkB (128+min ((a_b (b.drop k):Nat):Int) 127),b[k]],min (a_b<|b.drop k) 127):=by
 unfold b_U
 rw [iP_ h3]
 have hg:(b.drop k).getD 0 0=b[k]:=by
  rw [gD_,m_N hk];rfl
 rw [hg]
 congr 4
 omega
theorem p_F {b:Bt}{k:Nat}(h3:¬3<=a_b (b.drop k)):b_U (b.drop k)=(mkB (a_p 127 (b.drop k):Nat)::(b.drop k).take (a_p 127<|b.drop k),a_p 127<|b.drop k):=by
 unfold b_U;rw [iN_ h3]
theorem e_X {b:Bt}{k j:Nat}(h:k+j<=b.length):slc b (k:Int) ((k+j:Nat):Int)=some ((b.drop k).take j):=by
 rw [d_e (by omega) (by omega) (by omega)]
 congr 1
 simp only [tN_]
 rw [List.drop_take,show k+j - k=j by omega]
theorem u_o {b:Bt}(hb:b.length<=ML){n:Nat}(hn:b.length<n):j_r n b=some (c_x b):=by
 have hML:=MLv;have hLIM:=a_o;unfold j_r;refine (congrArg (λz=>bd z _)<|m_P (b:=b) ?_ ?_ n 0 [] (by omega) (Nat.zero_le _)<|Nat.zero_le _).trans ?_
 .intro k out hk ho
  simp only [un2]
  have hrl:=k_V b k;have hrp:=m_O hk
  rw [dT_ (show (k:Int)<(b.length:Int) by omega),iP_ rfl,p_C hb hk,bd_some]
  by_cases h3:3<=a_b (b.drop k)
  .rw [dT_ h3,iP_ rfl,u_n hb hk hn,bd_some,u_l,bd_some,ix_ hk,bd_some,ia_ (by omega) (by omega),c_4 (by simp only [lC_,List.length_nil];omega),bd_some,bd_some,el_inl,ia_ (by omega) (by omega),p_E hk h3]
   simp only
   rw [show ((k+min (a_b<|b.drop k) 127:Nat):Int)=(k:Int)+min ((a_b (b.drop k):Nat):Int) 127 by omega]
  .rw [dF_ h3,iN_ (by simp),ia_ (y:=1) (by omega) (by omega)]
   have hlp:=k_Q (m:=127) (by omega) (s:=b.drop k) (by rw [List.length_drop];omega) h3;have hll:=g_w 127<|b.drop k
   rw [List.length_drop] at hll
   have h:=p_D hb hk (c:=1) hlp hn (λx=>bd (f_W b x) λG=>some (!G)) (λq hq=>by rw [p_C hb hq,bd_some,decide_not])
   rw [show ((k:Int)+1)=((k+1:Nat):Int) by omega,h,bd_some,el_inl,a_y (by omega) (by omega),b_o (by omega),bd_some,e_X (by omega),bd_some,c_4 (by simp only [List.length_append,lC_,List.length_nil,List.length_take,List.length_drop];omega),bd_some,bd_some,el_inl,p_F h3]
   simp only [List.append_assoc,List.cons_append,List.nil_append]
   rw [show (((k+a_p 127 (b.drop k):Nat):Int) - (k:Int))=((a_p 127 (b.drop k):Nat):Int) by omega]
 .intro out
  simp only [un2]
  rw [dF_ (by omega)];rfl
 .rw [bd_some,el_inl];simp
theorem u_p {b:Bt}(hb:b.length<=ML){n:Nat}(hn:b.length<n):j_f n b=some (c_x b):=by
 have hML:=MLv;have hLIM:=a_o;unfold j_f;refine (congrArg (λz=>bd z _)<|m_P (b:=b) ?_ ?_ n 0 [] (by omega) (Nat.zero_le _)<|Nat.zero_le _).trans ?_
 .intro k out hk ho
  simp only [un2]
  have hrl:=k_V b k;have hrp:=m_O hk
  rw [dT_ (show (k:Int)<(b.length:Int) by omega),iP_ rfl,p_B hb hk hn,bd_some,u_m,bd_some]
  by_cases h3:3<=a_b (b.drop k)
  .rw [dT_ (show (3:Int)<=min ((a_b (b.drop k):Nat):Int) 127 by omega),iP_ rfl,ix_ hk,bd_some,ia_ (by omega) (by omega),c_4 (by simp only [lC_,List.length_nil];omega),bd_some,bd_some,el_inl,ia_ (by omega) (by omega),p_E hk h3]
   simp only
   rw [show ((k+min (a_b<|b.drop k) 127:Nat):Int)=(k:Int)+min ((a_b (b.drop k):Nat):Int) 127 by omega]
  .rw [dF_ (show ¬(3:Int)<=min ((a_b (b.drop k):Nat):Int) 127 by omega),iN_ (by simp)]
   have hlp:=k_Q (m:=127) (by omega) (s:=b.drop k) (by rw [List.length_drop];omega) h3;have hll:=g_w 127<|b.drop k
   rw [List.length_drop] at hll
   have h:=p_D hb hk (c:=0) (Nat.zero_le _) hn (λx=>bd (f_V n b x) λG=>some<|decide<|G<3) (λq hq=>by rw [p_B hb hq hn,bd_some];congr 1;rw [decide_eq_decide];omega)
   rw [Nat.add_zero] at h
   rw [h,bd_some,el_inl,e_X (by omega),bd_some,a_y (by omega) (by omega),b_o (by omega),bd_some,c_4 (by simp only [List.length_append,lC_,List.length_nil,List.length_take,List.length_drop];omega),bd_some,bd_some,el_inl,p_F h3]
   simp only [List.append_assoc,List.cons_append,List.nil_append]
   rw [show (((k+a_p 127 (b.drop k):Nat):Int) - (k:Int))=((a_p 127 (b.drop k):Nat):Int) by omega]
 .intro out
  simp only [un2]
  rw [dF_ (by omega)];rfl
 .rw [bd_some,el_inl];simp
end Go.Vw
