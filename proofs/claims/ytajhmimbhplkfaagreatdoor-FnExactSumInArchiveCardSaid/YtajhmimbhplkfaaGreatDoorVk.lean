
import Derived.Test.YtajhmimbhplkfaaGreatDoorVj
namespace Go.Vw
open Go.RowKit Dat
theorem l_S {b:List UInt8}{D:Int->Option (o_×Int×Bool)}(hD:∀k:Nat,k<=b.length->D (k:Int)=some (e_M k<|a_L<|b.drop k))(hb:b.length<=ML):∀(m k:Nat)(acc:List o_),b.length - k<m->k<=b.length->acc.length<=k ->
  O_ (σ:=(List o_)×Int) (ρ:=(List o_)×Int) (un2 fun G H=>bd3 (D H) fun I J L=>if (!L)=true then some (.ret (G,H)) else bd (psh G I) fun O=>some<|.next (O,J)) m (acc,(k:Int))=some (.inr (acc++(a_v<|b.drop k).1,((k+(a_v<|b.drop k).2:Nat):Int)))
 | 0,k,acc,h,_,_=>by omega
 | m+1,k,acc,h,hk,ha=>by
  have hML:=MLv;have hMX:=MXv;have hLIM:=a_u;unfold O_
  simp only [un2]
  rw [hD k hk]
  cases hd:a_L (b.drop k) with
  | none =>
   rw [g_f hd]
   simp [e_M,bd3_some]
  | some x =>
   obtain ⟨r,j⟩:=x;have hp:=h_w hd
   rw [List.length_drop] at hp
   simp only [e_M,bd3_some,nT_,bF_,fF_]
   rw [b_h (by omega),bd_some]
   simp only
   rw [l_S hD hb m (k+j) (acc++[r]) (by omega) (by omega) (by simp;omega),k_a hd,List.drop_drop,List.append_assoc]
   simp only [List.cons_append,List.nil_append]
   rw [Nat.add_assoc]
theorem o_V {b:List UInt8}(hb:b.length<=ML){n:Nat}(hn:1060100<=n):g_Y n b=some ((a_v b).1,((a_v b).2:Int)):=by
 have hML:=MLv;have hMX:=MXv;unfold g_Y;have:=l_S (b:=b) (D:=f_9 n b) (fun k hk=>o_U hb hk hn) hb n 0 [] (by omega) (Nat.zero_le _)<|Nat.zero_le _
 rw [show (((0:Nat)):Int)=0 from rfl] at this
 rw [this,bd_some,el_inr]
 simp
theorem k_e {b:List UInt8}(hb:b.length<=ML){n:Nat}(hn:1060100<=n):f_8 n b=some ((a_v b).1,((a_v b).2:Int)):=by
 have hML:=MLv;have hMX:=MXv;unfold f_8;have:=l_S (b:=b) (D:=g_U n b) (fun k hk=>t_e hb hk hn) hb n 0 [] (by omega) (Nat.zero_le _)<|Nat.zero_le _
 rw [show (((0:Nat)):Int)=0 from rfl] at this
 rw [this,bd_some,el_inr]
 simp
def c_f (s:List UInt8)(t:Nat):Bool:=(a_v<|s.take t).2==t
theorem o_W (s:List UInt8):c_f s 0=true:=by simp [c_f,a_v,e_e]
theorem t_f {s:List UInt8}{t:Nat}(h:a_L s=none)(ht:0<t):c_f s t=false:=by
 have:a_L (s.take t)=none:=by
  cases hx:a_L (s.take t) with
  | none=>rfl
  | some x=>obtain ⟨r,k⟩:=x;rw [(o_y hx).1] at h;cases h
 unfold c_f
 rw [g_f this,beq_eq_false_iff_ne]
 simp only;omega
theorem t_g {s:List UInt8}{t j:Nat}{r:o_}(h:a_L s=some (r,j))(ht:0<t):c_f s t=(decide (j<=t) && c_f (s.drop j) (t - j)):=by
 unfold c_f
 by_cases hj:j<=t
 ·rw [dT_ hj,Bool.true_and,k_a<|s_N h hj,List.drop_take]
  rw [Bool.eq_iff_iff,beq_iff_eq,beq_iff_eq]
  simp only;omega
 ·rw [dF_ hj,Bool.false_and]
  have:a_L (s.take t)=none:=by
   cases hx:a_L (s.take t) with
   | none=>rfl
   | some x =>
    obtain ⟨r',k'⟩:=x;obtain ⟨h1,h2⟩:=o_y hx
    rw [h1] at h;cases h;omega
  rw [g_f this,beq_eq_false_iff_ne]
  simp only;omega
def c_t (l:Log):Bool:=(decide (0<=l.stored) && decide (l.stored<=(l.bytes.length:Int))) && ((a_v l.bytes).2==l.bytes.length && c_f l.bytes l.stored.toNat)
theorem o_X {l:Log}(hb:l.bytes.length<=ML){n:Nat}(hn:1060100<=n):g_V n l=some (c_t l):=by
 have hML:=MLv;have hMX:=MXv;unfold g_V c_t
 rw [b_m,bd_some]
 cases hr:(decide ((0:Int)<=l.stored) && decide (l.stored<=(l.bytes.length:Int))) with
 | false=>rfl
 | true =>
  simp only [aE_,dE_] at hr
  simp only [nT_,bF_,fF_,Bool.true_and]
  have hsl:slc l.bytes 0 l.stored=some (l.bytes.take l.stored.toNat):=by rw [d_7 (by omega) hr.1 hr.2];simp
  rw [k_e hb hn,bd2_some,hsl,bd_some,k_e (by rw [List.length_take];omega) hn,bd2_some]
  have h:((((a_v l.bytes).2:Nat):Int)==(l.bytes.length:Int))=((a_v l.bytes).2==l.bytes.length):=by
   rw [Bool.eq_iff_iff,beq_iff_eq,beq_iff_eq];omega
  have G:((((a_v<|l.bytes.take l.stored.toNat).2:Nat):Int)==l.stored)=c_f l.bytes l.stored.toNat:=by
   unfold c_f;rw [Bool.eq_iff_iff,beq_iff_eq,beq_iff_eq];omega
  rw [h,G]
  cases (a_v l.bytes).2==l.bytes.length <;> rfl
theorem o_Y {b:List UInt8}{t n:Nat}(hb:b.length<=ML)(hn:1060100<=n):∀(m k:Nat)(e:Bool),b.length - k<m->k<=b.length ->
  O_ (σ:=Bool×Int) (ρ:=Bool) (un2 fun H G=>if (decide<|G<(b.length:Int))=true then bd3 (f_9 n b G) fun V I J=>if (!J)=true then some (.ret false) else bd (α:=Bool) (if H=true then some true else some (I==(t:Int))) (fun L=>some<|.next (L,I)) else some (.brk (H,G))) m (e,(k:Int))=some (if (a_v<|b.drop k).2=b.length - k then .inl (e || (decide (k<t) && c_f (b.drop k) (t - k)),(b.length:Int)) else .inr false)
 | 0,k,e,h,_=>by omega
 | m+1,k,e,h,hk=>by
  have hML:=MLv;have hMX:=MXv;unfold O_
  simp only [un2]
  by_cases hlt:k<b.length
  ·rw [dT_ (by omega),iP_ rfl,o_U hb hk hn]
   cases hd:a_L (b.drop k) with
   | none =>
    rw [g_f hd,iN_ (by simp only;omega)]
    rfl
   | some x =>
    obtain ⟨r,j⟩:=x;have hp:=h_w hd
    rw [List.length_drop] at hp
    simp only [e_M,bd3_some,nT_,bF_,fF_]
    have O:(if e=true then some true else some (((k+j:Nat):Int)==(t:Int)))=some (e || decide (k+j=t)):=by
     cases e
     ·simp only [bF_,fF_,Bool.false_or];congr 1;rw [Bool.eq_iff_iff,beq_iff_eq,dE_];omega
     ·rfl
    rw [O,bd_some]
    simp only
    rw [o_Y hb hn m (k+j) _ (by omega) (by omega),k_a hd,List.drop_drop]
    simp only
    by_cases hf:(a_v<|b.drop<|k+j).2=b.length - (k+j)
    ·rw [iP_ hf,iP_ (by omega)]
     congr 3
     rw [Bool.or_assoc]
     congr 1
     by_cases hkt:k<t
     ·rw [dT_ hkt,Bool.true_and,t_g hd (by omega),List.drop_drop]
      by_cases h1:k+j=t
      ·subst h1
       rw [dT_ rfl,dT_ (show j<=k+j - k by omega),show k+j - k - j=0 by omega,o_W];simp
      ·rw [dF_ h1,Bool.false_or]
       by_cases h2:k+j<t
       ·rw [dT_ h2,dT_ (show j<=t - k by omega),show t - k - j=t - (k+j) by omega]
       ·rw [dF_ h2,dF_ (show ¬j<=t - k by omega)];simp
     ·rw [dF_ hkt,dF_ (show ¬k+j=t by omega),dF_ (show ¬k+j<t by omega)];simp
    ·rw [iN_ hf,iN_ (by omega)]
  ·have:k=b.length:=by omega
   subst this
   rw [dF_ (by omega),iN_ (by simp)]
   have hnil:b.drop b.length=[]:=by simp
   rw [hnil,g_f<|k_d (by simp),iP_ (by simp)]
   simp only
   congr 3
   have:(decide (b.length<t) && c_f [] (t - b.length))=false:=by
    by_cases h1:b.length<t
    ·rw [t_f (k_d (by simp)) (by omega)];simp
    ·rw [dF_ h1];rfl
   rw [this,Bool.or_false]
theorem o_Z {l:Log}(hb:l.bytes.length<=ML){n:Nat}(hn:1060100<=n):j_5 n l=some (c_t l):=by
 have hML:=MLv;have hMX:=MXv;unfold j_5 l_2 c_t
 rw [e_E,bd_some]
 cases hr:(decide ((0:Int)<=l.stored) && decide (l.stored<=(l.bytes.length:Int))) with
 | false=>rfl
 | true =>
  simp only [aE_,dE_] at hr
  simp only [nT_,bF_,fF_,Bool.true_and]
  have h:=o_Y (b:=l.bytes) (t:=l.stored.toNat) hb hn n 0 (l.stored==0) (by omega)<|Nat.zero_le _
  rw [show ((l.stored.toNat:Nat):Int)=l.stored by omega,show (((0:Nat)):Int)=0 from rfl,List.drop_zero,Nat.sub_zero,Nat.sub_zero] at h
  rw [h,bd_some]
  by_cases hf:(a_v l.bytes).2=l.bytes.length
  ·rw [iP_ hf,el_inl,show ((a_v l.bytes).2==l.bytes.length)=true by simpa using hf,Bool.true_and]
   simp only [un2]
   have:(l.stored==0 || (decide (0<l.stored.toNat) && c_f l.bytes l.stored.toNat))=c_f l.bytes l.stored.toNat:=by
    by_cases G:l.stored=0
    ·rw [G];simp [o_W]
    ·rw [show (l.stored==0)=false by simpa using G,dT_ (by omega)];simp
   rw [this]
   cases c_f l.bytes l.stored.toNat <;> rfl
  ·rw [iN_ hf,el_inr,show ((a_v l.bytes).2==l.bytes.length)=false by simpa using hf];rfl
end Go.Vw
