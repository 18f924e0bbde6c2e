
import Derived.Test.YtdgimlkkidpmmaaGreatDoorVm
namespace Go.Vw
open Go.RowKit Dat
theorem m_P {b:Bt}{D:Int->Option (m_×Int×Bool)}(hD:∀k:Nat,k<=b.length->D (k:Int)=some (f_0 k<|a_z<|b.drop k))(hb:b.length<=ML):∀(m k:Nat)(acc:List m_),b.length - k<m->k<=b.length->acc.length<=k ->
  C_ (σ:=(List m_)×Int) (ρ:=(List m_)×Int) (un2 λG H=>bd3 (D H) λI J L=>if (!L) then some (.ret (G,H)) else bd (psh G I) λO=>some<|.next (O,J)) m (acc,(k:Int))=some (.inr (acc++(G_<|b.drop k).1,((k+(G_<|b.drop k).2:Nat):Int)))
 | 0,k,acc,h,_,_=>by omega
 | m+1,k,acc,h,hk,ha=>by
  have hML:=MLv;have hMX:=MXv;have hLIM:=W_;unfold C_
  simp only [un2]
  rw [hD k hk]
  cases hd:a_z (b.drop k) with
  | none =>
   rw [d_O hd]
   simp [f_0,bd3_some]
  | some x =>
   obtain ⟨r,j⟩:=x;have hp:=g_e hd
   rw [List.length_drop] at hp
   simp only [f_0,bd3_some,nT_,bF_,fF_]
   rw [O_ (by omega),bd_some]
   simp only
   rw [m_P hD hb m (k+j) (acc++[r]) (by omega) (by omega) (by simp;omega),d_P hd,List.drop_drop,List.append_assoc]
   simp only [List.cons_append,List.nil_append]
   rw [Nat.add_assoc]
theorem m_Q {b:Bt}(hb:b.length<=ML){n:Nat}(hn:1060100<=n):g_z n b=some ((G_ b).1,((G_ b).2:Int)):=by
 have hML:=MLv;have hMX:=MXv;unfold g_z;have:=m_P (b:=b) (D:=f_g n b) (λk hk=>p_e hb hk hn) hb n 0 [] (by omega) (Nat.zero_le _)<|Nat.zero_le _
 rw [show (((0:Nat)):Int)=0 from rfl] at this
 rw [this,bd_some,el_inr]
 simp
theorem k_B {b:Bt}(hb:b.length<=ML){n:Nat}(hn:1060100<=n):f_e n b=some ((G_ b).1,((G_ b).2:Int)):=by
 have hML:=MLv;have hMX:=MXv;unfold f_e;have:=m_P (b:=b) (D:=h_S n b) (λk hk=>t_D hb hk hn) hb n 0 [] (by omega) (Nat.zero_le _)<|Nat.zero_le _
 rw [show (((0:Nat)):Int)=0 from rfl] at this
 rw [this,bd_some,el_inr]
 simp
def b_y (s:Bt)(t:Nat):Bool:=(G_<|s.take t).2==t
theorem p_f (s:Bt):b_y s 0=true:=by simp [b_y,G_,e_k]
theorem p_g {s:Bt}{t:Nat}(h:a_z s=none)(ht:0<t):b_y s t=false:=by
 have:a_z (s.take t)=none:=by
  cases hx:a_z (s.take t) with
  | none=>rfl
  | some x=>obtain ⟨r,k⟩:=x;rw [(k_w hx).1] at h;cases h
 unfold b_y
 rw [d_O this,beq_eq_false_iff_ne]
 simp only;omega
theorem m_R {s:Bt}{t j:Nat}{r:m_}(h:a_z s=some (r,j))(ht:0<t):b_y s t=(decide (j<=t) && b_y (s.drop j) (t - j)):=by
 unfold b_y
 by_cases hj:j<=t
 .rw [dT_ hj,Bool.true_and,d_P<|m_E h hj,List.drop_take]
  rw [Bool.eq_iff_iff,beq_iff_eq,beq_iff_eq]
  simp only;omega
 .rw [dF_ hj,Bool.false_and]
  have:a_z (s.take t)=none:=by
   cases hx:a_z (s.take t) with
   | none=>rfl
   | some x =>
    obtain ⟨r',k'⟩:=x;obtain ⟨h1,h2⟩:=k_w hx
    rw [h1] at h;cases h;omega
  rw [d_O this,beq_eq_false_iff_ne]
  simp only;omega
def a_q (l:Log):Bool:=(decide (0<=l.stored) && decide (l.stored<=(l.bytes.length:Int))) && ((G_ l.bytes).2==l.bytes.length && b_y l.bytes l.stored.toNat)
theorem k_C {l:Log}(hb:l.bytes.length<=ML){n:Nat}(hn:1060100<=n):f_f n l=some (a_q l):=by
 have hML:=MLv;have hMX:=MXv;unfold f_f a_q
 rw [b_5,bd_some]
 cases hr:(decide ((0:Int)<=l.stored) && decide (l.stored<=(l.bytes.length:Int))) with
 | false=>rfl
 | true =>
  simp only [aE_,dE_] at hr
  simp only [nT_,bF_,fF_,Bool.true_and]
  have hsl:slc l.bytes 0 l.stored=some (l.bytes.take l.stored.toNat):=by rw [e_p (by omega) hr.1 hr.2];simp
  rw [k_B hb hn,bd2_some,hsl,bd_some,k_B (by rw [List.length_take];omega) hn,bd2_some]
  have G:((((G_ l.bytes).2:Nat):Int)==(l.bytes.length:Int))=((G_ l.bytes).2==l.bytes.length):=by
   rw [Bool.eq_iff_iff,beq_iff_eq,beq_iff_eq];omega
  have H:((((G_<|l.bytes.take l.stored.toNat).2:Nat):Int)==l.stored)=b_y l.bytes l.stored.toNat:=by
   unfold b_y;rw [Bool.eq_iff_iff,beq_iff_eq,beq_iff_eq];omega
  rw [G,H]
  cases (G_ l.bytes).2==l.bytes.length <;> rfl
theorem p_h {b:Bt}{t n:Nat}(hb:b.length<=ML)(hn:1060100<=n):∀(m k:Nat)(e:Bool),b.length - k<m->k<=b.length ->
  C_ (σ:=Bool×Int) (ρ:=Bool) (un2 λH G=>if (decide<|G<(b.length:Int)) then bd3 (f_g n b G) λ_ I J=>if (!J) then some (.ret false) else bd (α:=Bool) (if H then some true else some (I==(t:Int))) (λL=>some<|.next (L,I)) else some (.brk (H,G))) m (e,(k:Int))=some (if (G_<|b.drop k).2=b.length - k then .inl (e || (decide (k<t) && b_y (b.drop k) (t - k)),(b.length:Int)) else .inr false)
 | 0,k,e,h,_=>by omega
 | m+1,k,e,h,hk=>by
  have hML:=MLv;have hMX:=MXv;unfold C_
  simp only [un2]
  by_cases hlt:k<b.length
  .rw [dT_ (by omega),iP_ rfl,p_e hb hk hn]
   cases hd:a_z (b.drop k) with
   | none =>
    rw [d_O hd,iN_ (by simp only;omega)]
    rfl
   | some x =>
    obtain ⟨r,j⟩:=x;have hp:=g_e hd
    rw [List.length_drop] at hp
    simp only [f_0,bd3_some,nT_,bF_,fF_]
    have O:(if e then some true else some (((k+j:Nat):Int)==(t:Int)))=some (e || decide (k+j=t)):=by
     cases e
     .simp only [bF_,fF_,Bool.false_or];congr 1;rw [Bool.eq_iff_iff,beq_iff_eq,dE_];omega
     .rfl
    rw [O,bd_some]
    simp only
    rw [p_h hb hn m (k+j) _ (by omega) (by omega),d_P hd,List.drop_drop]
    simp only
    by_cases hf:(G_<|b.drop<|k+j).2=b.length - (k+j)
    .rw [iP_ hf,iP_ (by omega)]
     congr 3
     rw [Bool.or_assoc]
     congr 1
     by_cases hkt:k<t
     .rw [dT_ hkt,Bool.true_and,m_R hd (by omega),List.drop_drop]
      by_cases h1:k+j=t
      .subst h1
       rw [dT_ rfl,dT_ (show j<=k+j - k by omega),show k+j - k - j=0 by omega,p_f];simp
      .rw [dF_ h1,Bool.false_or]
       by_cases h2:k+j<t
       .rw [dT_ h2,dT_ (show j<=t - k by omega),show t - k - j=t - (k+j) by omega]
       .rw [dF_ h2,dF_ (show ¬j<=t - k by omega)];simp
     .rw [dF_ hkt,dF_ (show ¬k+j=t by omega),dF_ (show ¬k+j<t by omega)];simp
    .rw [iN_ hf,iN_ (by omega)]
  .have:k=b.length:=by omega
   subst this
   rw [dF_ (by omega),iN_ (by simp)]
   have hnil:b.drop b.length=[]:=by simp
   rw [hnil,d_O<|k_A (by simp),iP_ (by simp)]
   simp only
   congr 3
   have:(decide (b.length<t) && b_y [] (t - b.length))=false:=by
    by_cases h1:b.length<t
    .rw [p_g (k_A (by simp)) (by omega)];simp
    .rw [dF_ h1];rfl
   rw [this,Bool.or_false]
theorem m_S {l:Log}(hb:l.bytes.length<=ML){n:Nat}(hn:1060100<=n):h_W n l=some (a_q l):=by
 have hML:=MLv;have hMX:=MXv;unfold h_W k_Z a_q
 rw [b_J,bd_some]
 cases hr:(decide ((0:Int)<=l.stored) && decide (l.stored<=(l.bytes.length:Int))) with
 | false=>rfl
 | true =>
  simp only [aE_,dE_] at hr
  simp only [nT_,bF_,fF_,Bool.true_and]
  have h:=p_h (b:=l.bytes) (t:=l.stored.toNat) hb hn n 0 (l.stored==0) (by omega)<|Nat.zero_le _
  rw [show ((l.stored.toNat:Nat):Int)=l.stored by omega,show (((0:Nat)):Int)=0 from rfl,List.drop_zero,Nat.sub_zero,Nat.sub_zero] at h
  rw [h,bd_some]
  by_cases hf:(G_ l.bytes).2=l.bytes.length
  .rw [iP_ hf,el_inl,show ((G_ l.bytes).2==l.bytes.length)=true by simpa using hf,Bool.true_and]
   simp only [un2]
   have:(l.stored==0 || (decide (0<l.stored.toNat) && b_y l.bytes l.stored.toNat))=b_y l.bytes l.stored.toNat:=by
    by_cases G:l.stored=0
    .rw [G];simp [p_f]
    .rw [show (l.stored==0)=false by simpa using G,dT_ (by omega)];simp
   rw [this]
   cases b_y l.bytes l.stored.toNat <;> rfl
  .rw [iN_ hf,el_inr,show ((G_ l.bytes).2==l.bytes.length)=false by simpa using hf];rfl
end Go.Vw
