
import Derived.Test.YtajhmimbhplkfaaGreatDoorVf
namespace Go.Vw
open Go.RowKit Dat
def ML:Nat:=1060000
theorem MLv:ML=1060000:=rfl
theorem s_R (x y:Int):j_2 x y=some (min x y):=by
 unfold j_2 l_1
 have h:t_ (σ:=Int) (ρ:=Int) (fun L=>(fun H=>bd (idx [y] ((L:Nat):Int)) fun G=>bd (j_1 G H) fun I=>bd (α:=Int) (if I=true then some G else some H)<|fun J=>some<|.next J)) [y].length 0 x=some (.inl<|min x y):=by
  refine b_T (σ:=Int) (ρ:=Int) (fun j=>if j=0 then x else min x y) (n:=1)<|fun j hj=>?_;obtain rfl:j=0:=by omega
  rw [show idx [y] ((0:Nat):Int)=some y from rfl]
  simp only [bd_some,j_1,fT_]
  by_cases hlt:y<x
  ·rw [dT_ hlt];simp only [fT_,bd_some];rw [show min x y=y by omega];rfl
  ·rw [dF_ hlt];simp only [bF_,fF_,bd_some];rw [show min x y=x by omega];rfl
 rw [h];rfl
theorem s_S (x y:Int):i_Q x y=some (min x y):=by
 unfold i_Q
 by_cases hlt:y<x
 ·rw [dT_ hlt];simp only [fT_];congr 1;omega
 ·rw [dF_ hlt];simp only [bF_,fF_];congr 1;omega
section
variable {b:List UInt8}{k:Nat}
theorem f_r (b:List UInt8)(k i:Nat):(b.drop k)[i]? = b[k+i]? := List.getElem?_drop
theorem o_C (hb:b.length<=ML)(hk:k<b.length){q:Nat}(hq:q<=b.length) :
  (if (decide<|(b_ (k:Int) (q:Int))<(b.length:Int))=true then bd (idx b<|b_ (k:Int) (q:Int)) fun G=>bd (idx b (k:Int)) fun H=>some ((byteI G)==(byteI H)) else some false)=some (decide<|(b.drop k)[q]? = some b[k]):=by
 have hML:=MLv
 rw [ia_ (by omega) (by omega),f_r]
 by_cases h:k+q<b.length
 ·rw [dT_ (by omega),iP_ rfl,show ((k:Int)+(q:Int))=((k+q:Nat):Int) by omega,ix_ h,ix_ hk]
  simp only [bd_some,gG_ h,oI_]
  congr 1
  rw [Bool.eq_iff_iff,dE_,beq_iff_eq,g_l]
 ·rw [dF_ (by omega),iN_ (by simp),gN_ (by omega)];rfl
theorem l_M (hk:k<b.length):(b.drop k)[0]? = some b[k]:=by rw [f_r,Nat.add_zero];exact gG_ hk
theorem k_b (b:List UInt8)(k:Nat):a_8 (b.drop k)<=b.length - k:=by
 have:=o_m<|b.drop k;rwa [List.length_drop] at this
theorem l_N (hk:k<b.length):1<=a_8 (b.drop k):=o_n (by rw [List.length_drop];omega)
theorem o_D (hb:b.length<=ML)(hk:k<b.length){c n:Nat}(hc:c<=a_8 (b.drop k))(hn:b.length<n) :
  O_ (σ:=Int) (ρ:=Int) (fun G=>bd (α:=Bool) (if (decide<|(b_ (k:Int) G)<(b.length:Int))=true then bd (idx b<|b_ (k:Int) G) fun H=>bd (idx b (k:Int)) fun I=>some ((byteI H)==(byteI I)) else some false) (fun J=>if J=true then some (.next<|b_ G 1) else some (.brk G))) n (c:Int)=some (.inl ((a_8 (b.drop k):Nat):Int)):=by
 have hML:=MLv;have hl:=k_b b k
 have:=g_n (σ:=Int) (ρ:=Int) (step:=fun G=>bd (α:=Bool) (if (decide<|(b_ (k:Int) G)<(b.length:Int))=true then bd (idx b<|b_ (k:Int) G) fun H=>bd (idx b (k:Int)) fun I=>some ((byteI H)==(byteI I)) else some false) (fun J=>if J=true then some (.next<|b_ G 1) else some (.brk G)))
  (fun j=>((c+j:Nat):Int)) (s:=((a_8 (b.drop k):Nat):Int)) (m:=n) (j0:=a_8 (b.drop k) - c) (by omega) (fun j hj=>by
   rw [o_C hb hk (by omega),bd_some,dT_<|l_F (l_M hk) (by omega)]
   simp only [fT_]
   rw [ia_ (by omega) (by omega)];rfl) (by
   rw [o_C hb hk (by omega),bd_some,show c+(a_8 (b.drop k) - c)=a_8 (b.drop k) by omega,dF_<|fun h=>l_G (l_M hk) h rfl]
   rfl)
 simpa using this
theorem s_T (hb:b.length<=ML)(hk:k<b.length){n:Nat}(hn:b.length<n):j_0 n b (k:Int)=some ((a_8 (b.drop k):Nat):Int):=by
 unfold j_0
 rw [dF_ (show ¬(k:Int)<0 by omega),dF_ (show ¬(b.length:Int)<=(k:Int) by omega)]
 simp only [bF_,fF_,bd_some]
 have:=o_D hb hk (c:=1) (l_N hk) hn
 rw [show (((1:Nat)):Int)=1 from rfl] at this
 rw [this,bd_some,el_inl]
theorem o_E (hb:b.length<=ML)(hk:k<b.length){n:Nat}(hn:b.length<n):f_O n b (k:Int)=some ((a_8 (b.drop k):Nat):Int):=by
 have hML:=MLv;unfold f_O
 rw [b_m,a_x (by omega) (by omega),dT_ (show (0:Int)<=(k:Int) by omega),dT_ (show (k:Int)<=(b.length:Int) - 1 by omega)]
 simp only [Bool.and_self,bd_some,nT_,bF_,fF_]
 have:=o_D hb hk (c:=0) (Nat.zero_le _) hn
 rw [show (((0:Nat)):Int)=0 from rfl] at this
 rw [this,bd_some,el_inl]
theorem o_F (hb:b.length<=ML)(hk:k<b.length):f_P b (k:Int)=some (decide<|3<=a_8 (b.drop k)):=by
 have hML:=MLv;unfold f_P;have h3:=s_H (s:=b.drop k)
 rw [f_r,f_r,f_r,Nat.add_zero] at h3
 rw [ia_ (y:=2) (by omega) (by omega),ia_ (y:=1) (by omega) (by omega)]
 by_cases h:k+2<b.length
 ·rw [dT_ (by omega),show ((k:Int)+1)=((k+1:Nat):Int) by omega,show ((k:Int)+2)=((k+2:Nat):Int) by omega,ix_ hk,ix_ (k:=k+1) (by omega),ix_ h]
  simp only [fT_,bd_some]
  rw [gG_ hk,gG_ (show k+1<b.length by omega),gG_ h] at h3
  by_cases h1:b[k]=b[k+1]
  ·rw [show (byteI b[k]==byteI b[k+1])=true by rw [beq_iff_eq,g_l];exact h1]
   simp only [fT_,bd_some]
   congr 1
   rw [Bool.eq_iff_iff,dE_,beq_iff_eq,g_l,h3]
   constructor
   ·intro h2;exact ⟨b[k],rfl,by rw [h1],by rw [h2]⟩
   ·rintro ⟨x,G,_,H⟩;exact (Option.some.inj G).trans (Option.some.inj H).symm
  ·rw [show (byteI b[k]==byteI b[k+1])=false by rw [beq_eq_false_iff_ne];exact fun h2=>h1<|g_l.1 h2]
   simp only [bF_,fF_,bd_some]
   congr 1
   symm;rw [decide_eq_false_iff_not,h3]
   rintro ⟨x,G,I,_⟩;exact h1<|(Option.some.inj G).trans (Option.some.inj I).symm
 ·rw [dF_ (by omega)]
  simp only [bF_,fF_,bd_some]
  congr 1
  have:=k_b b k
  symm;rw [decide_eq_false_iff_not];omega
theorem o_G (hb:b.length<=ML)(hk:k<b.length){c n:Nat}(hc:c<=a_p 127 (b.drop k))(hn:b.length<n)(T:Int->Option Bool)(hT:∀q:Nat,q<b.length->T (q:Int)=some (decide (¬3<=a_8 (b.drop q)))) :
  O_ (σ:=Int) (ρ:=List UInt8) (fun h=>bd (α:=Bool) (if (decide<|h<(b.length:Int))=true then if (decide<|(x_ h (k:Int))<127)=true then T h else some false else some false) (fun G=>if G=true then some (.next<|b_ h 1) else some (.brk h))) n ((k+c:Nat):Int)=some (.inl ((k+a_p 127 (b.drop k):Nat):Int)):=by
 have hML:=MLv;have hl:=g_e 127<|b.drop k
 rw [List.length_drop] at hl
 have:=g_n (σ:=Int) (ρ:=List UInt8) (step:=fun h=>bd (α:=Bool) (if (decide<|h<(b.length:Int))=true then if (decide<|(x_ h (k:Int))<127)=true then T h else some false else some false) (fun G=>if G=true then some (.next<|b_ h 1) else some (.brk h)))
  (fun j=>((k+(c+j):Nat):Int)) (s:=((k+a_p 127 (b.drop k):Nat):Int)) (m:=n) (j0:=a_p 127 (b.drop k) - c) (by omega) (fun j hj=>by
   have hn:=o_q 127 (b.drop k) (c+j) (by omega)
   rw [List.drop_drop] at hn
   rw [a_x (by omega) (by omega),dT_ (by omega),dT_ (by omega),iP_ rfl,iP_ rfl,hT _ (by omega),dT_ (by omega),bd_some]
   simp only [fT_]
   rw [ia_ (by omega) (by omega)];congr 2) (by
   rw [show k+(c+(a_p 127 (b.drop k) - c))=k+a_p 127 (b.drop k) by omega]
   rw [a_x (by omega) (by omega)]
   by_cases h1:k+a_p 127 (b.drop k)<b.length
   ·rw [dT_ (by omega),iP_ rfl]
    by_cases h2:a_p 127 (b.drop k)<127
    ·have he:=o_r 127 (b.drop k) h2 (by rw [List.length_drop];omega)
     rw [List.drop_drop] at he
     rw [dT_ (by omega),iP_ rfl,hT _ h1,dF_ (by omega),bd_some];rfl
    ·rw [dF_ (by omega)];rfl
   ·rw [dF_ (by omega)];rfl)
 simpa using this
end
theorem l_O {step:List UInt8×Int->Option (Out (List UInt8×Int)<|List UInt8)}{b:List UInt8}(hs:∀(k:Nat)(out:List UInt8),k<b.length->out.length<=2 * k->step (out,(k:Int))=some (.next (out++(b_P<|b.drop k).1,((k+(b_P<|b.drop k).2:Nat):Int))))
  (he:∀out,step (out,(b.length:Int))=some (.brk (out,(b.length:Int)))):∀(m k:Nat)(out:List UInt8),b.length - k<m->k<=b.length->out.length<=2 * k->O_ step m (out,(k:Int))=some (.inl (out++c_r (b.drop k),(b.length:Int)))
 | 0,k,out,h,_,_=>by omega
 | m+1,k,out,h,hk,ho=>by
  unfold O_
  by_cases hlt:k<b.length
  ·have hd:0<(b.drop k).length:=by rw [List.length_drop];omega
   have hp:=k_7 hd;have hl:=o_s hd
   rw [List.length_drop] at hp
   rw [hs k out hlt ho]
   simp only
   rw [l_O hs he m _ _ (by omega) (by omega) (by rw [List.length_append];omega),o_u hd,List.append_assoc,List.drop_drop]
  ·have:k=b.length:=by omega
   subst this
   rw [he]
   simp [l_I]
theorem o_H {b:List UInt8}{k:Nat}(hk:k<b.length)(h3:3<=a_8 (b.drop k)):b_P (b.drop k)=([mkB (128+min ((a_8 (b.drop k):Nat):Int) 127),b[k]],min (a_8<|b.drop k) 127):=by
 unfold b_P
 rw [iP_ h3]
 have hg:(b.drop k).getD 0 0=b[k]:=by
  rw [gD_,l_M hk];rfl
 rw [hg]
 congr 4
 omega
theorem o_I {b:List UInt8}{k:Nat}(h3:¬3<=a_8 (b.drop k)):b_P (b.drop k)=(mkB (a_p 127 (b.drop k):Nat)::(b.drop k).take (a_p 127<|b.drop k),a_p 127<|b.drop k):=by
 unfold b_P;rw [iN_ h3]
theorem e_K {b:List UInt8}{k j:Nat}(h:k+j<=b.length):slc b (k:Int) ((k+j:Nat):Int)=some ((b.drop k).take j):=by
 rw [d_7 (by omega) (by omega) (by omega)]
 congr 1
 simp only [tN_]
 rw [List.drop_take,show k+j - k=j by omega]
theorem s_U {b:List UInt8}(hb:b.length<=ML){n:Nat}(hn:b.length<n):j_3 n b=some (c_r b):=by
 have hML:=MLv;have hLIM:=a_u;unfold j_3;refine (congrArg (fun z=>bd z _)<|l_O (b:=b) ?_ ?_ n 0 [] (by omega) (Nat.zero_le _)<|Nat.zero_le _).trans ?_
 ·intro k out hk ho
  simp only [un2]
  have hrl:=k_b b k;have hrp:=l_N hk
  rw [dT_ (show (k:Int)<(b.length:Int) by omega),iP_ rfl,o_F hb hk,bd_some]
  by_cases h3:3<=a_8 (b.drop k)
  ·rw [dT_ h3,iP_ rfl,s_T hb hk hn,bd_some,s_R,bd_some,ix_ hk,bd_some,ia_ (by omega) (by omega),c_0 (by simp only [lC_,List.length_nil];omega),bd_some,bd_some,el_inl,ia_ (by omega) (by omega),o_H hk h3]
   simp only
   rw [show ((k+min (a_8<|b.drop k) 127:Nat):Int)=(k:Int)+min ((a_8 (b.drop k):Nat):Int) 127 by omega]
  ·rw [dF_ h3,iN_ (by simp),ia_ (y:=1) (by omega) (by omega)]
   have hlp:=k_6 (m:=127) (by omega) (s:=b.drop k) (by rw [List.length_drop];omega) h3;have hll:=g_e 127<|b.drop k
   rw [List.length_drop] at hll
   have h:=o_G hb hk (c:=1) hlp hn (fun x=>bd (f_P b x) fun G=>some (!G)) (fun q hq=>by rw [o_F hb hq,bd_some,decide_not])
   rw [show ((k:Int)+1)=((k+1:Nat):Int) by omega,h,bd_some,el_inl,a_x (by omega) (by omega),b_h (by omega),bd_some,e_K (by omega),bd_some,c_0 (by simp only [List.length_append,lC_,List.length_nil,List.length_take,List.length_drop];omega),bd_some,bd_some,el_inl,o_I h3]
   simp only [List.append_assoc,List.cons_append,List.nil_append]
   rw [show (((k+a_p 127 (b.drop k):Nat):Int) - (k:Int))=((a_p 127 (b.drop k):Nat):Int) by omega]
 ·intro out
  simp only [un2]
  rw [dF_ (by omega)];rfl
 ·rw [bd_some,el_inl];simp
theorem s_V {b:List UInt8}(hb:b.length<=ML){n:Nat}(hn:b.length<n):i_R n b=some (c_r b):=by
 have hML:=MLv;have hLIM:=a_u;unfold i_R;refine (congrArg (fun z=>bd z _)<|l_O (b:=b) ?_ ?_ n 0 [] (by omega) (Nat.zero_le _)<|Nat.zero_le _).trans ?_
 ·intro k out hk ho
  simp only [un2]
  have hrl:=k_b b k;have hrp:=l_N hk
  rw [dT_ (show (k:Int)<(b.length:Int) by omega),iP_ rfl,o_E hb hk hn,bd_some,s_S,bd_some]
  by_cases h3:3<=a_8 (b.drop k)
  ·rw [dT_ (show (3:Int)<=min ((a_8 (b.drop k):Nat):Int) 127 by omega),iP_ rfl,ix_ hk,bd_some,ia_ (by omega) (by omega),c_0 (by simp only [lC_,List.length_nil];omega),bd_some,bd_some,el_inl,ia_ (by omega) (by omega),o_H hk h3]
   simp only
   rw [show ((k+min (a_8<|b.drop k) 127:Nat):Int)=(k:Int)+min ((a_8 (b.drop k):Nat):Int) 127 by omega]
  ·rw [dF_ (show ¬(3:Int)<=min ((a_8 (b.drop k):Nat):Int) 127 by omega),iN_ (by simp)]
   have hlp:=k_6 (m:=127) (by omega) (s:=b.drop k) (by rw [List.length_drop];omega) h3;have hll:=g_e 127<|b.drop k
   rw [List.length_drop] at hll
   have h:=o_G hb hk (c:=0) (Nat.zero_le _) hn (fun x=>bd (f_O n b x) fun G=>some<|decide<|G<3) (fun q hq=>by rw [o_E hb hq hn,bd_some];congr 1;rw [decide_eq_decide];omega)
   rw [Nat.add_zero] at h
   rw [h,bd_some,el_inl,e_K (by omega),bd_some,a_x (by omega) (by omega),b_h (by omega),bd_some,c_0 (by simp only [List.length_append,lC_,List.length_nil,List.length_take,List.length_drop];omega),bd_some,bd_some,el_inl,o_I h3]
   simp only [List.append_assoc,List.cons_append,List.nil_append]
   rw [show (((k+a_p 127 (b.drop k):Nat):Int) - (k:Int))=((a_p 127 (b.drop k):Nat):Int) by omega]
 ·intro out
  simp only [un2]
  rw [dF_ (by omega)];rfl
 ·rw [bd_some,el_inl];simp
end Go.Vw
