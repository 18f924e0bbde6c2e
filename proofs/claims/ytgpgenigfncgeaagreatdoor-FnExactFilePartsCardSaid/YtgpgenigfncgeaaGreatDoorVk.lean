
import Derived.Test.YtgpgenigfncgeaaGreatDoorVj
namespace Go.Vw
open Go.RowKit Dat
theorem m_T {b:Bt}{D:Int->Option (p_×Int×Bool)}(hD:∀k:Nat,k<=b.length->D (k:Int)=some (e_Z k<|a_N<|b.drop k))(hb:b.length<=ML):∀(m k:Nat)(acc:List p_),b.length - k<m->k<=b.length->acc.length<=k ->
  I_ (σ:=(List p_)×Int) (ρ:=(List p_)×Int) (un2 λG H=>bd3 (D H) λI J L=>if (!L) then some (.ret (G,H)) else bd (psh G I) λO=>some<|.next (O,J)) m (acc,(k:Int))=some (.inr (acc++(a_w<|b.drop k).1,((k+(a_w<|b.drop k).2:Nat):Int)))
 | 0,k,acc,h,_,_=>by omega
 | m+1,k,acc,h,hk,ha=>by
  have hML:=MLv;have hMX:=MXv;have hLIM:=a_o;unfold I_
  simp only [un2]
  rw [hD k hk]
  cases hd:a_N (b.drop k) with
  | none =>
   rw [g_x hd]
   simp [e_Z,bd3_some]
  | some x =>
   obtain ⟨r,j⟩:=x;have hp:=h_V hd
   rw [List.length_drop] at hp
   simp only [e_Z,bd3_some,nT_,bF_,fF_]
   rw [b_o (by omega),bd_some]
   simp only
   rw [m_T hD hb m (k+j) (acc++[r]) (by omega) (by omega) (by simp;omega),k_U hd,List.drop_drop,List.append_assoc]
   simp only [List.cons_append,List.nil_append]
   rw [Nat.add_assoc]
theorem p_S {b:Bt}(hb:b.length<=ML){n:Nat}(hn:1060100<=n):h_f n b=some ((a_w b).1,((a_w b).2:Int)):=by
 have hML:=MLv;have hMX:=MXv;unfold h_f;have:=m_T (b:=b) (D:=f_i n b) (λk hk=>p_R hb hk hn) hb n 0 [] (by omega) (Nat.zero_le _)<|Nat.zero_le _
 rw [show (((0:Nat)):Int)=0 from rfl] at this
 rw [this,bd_some,el_inr]
 simp
theorem k_Y {b:Bt}(hb:b.length<=ML){n:Nat}(hn:1060100<=n):f_h n b=some ((a_w b).1,((a_w b).2:Int)):=by
 have hML:=MLv;have hMX:=MXv;unfold f_h;have:=m_T (b:=b) (D:=h_b n b) (λk hk=>u_I hb hk hn) hb n 0 [] (by omega) (Nat.zero_le _)<|Nat.zero_le _
 rw [show (((0:Nat)):Int)=0 from rfl] at this
 rw [this,bd_some,el_inr]
 simp
def c_l (s:Bt)(t:Nat):Bool:=(a_w<|s.take t).2==t
theorem p_T (s:Bt):c_l s 0=true:=by simp [c_l,a_w,e_v]
theorem u_J {s:Bt}{t:Nat}(h:a_N s=none)(ht:0<t):c_l s t=false:=by
 have:a_N (s.take t)=none:=by
  cases hx:a_N (s.take t) with
  | none=>rfl
  | some x=>obtain ⟨r,k⟩:=x;rw [(p_v hx).1] at h;cases h
 unfold c_l
 rw [g_x this,beq_eq_false_iff_ne]
 simp only;omega
theorem u_K {s:Bt}{t j:Nat}{r:p_}(h:a_N s=some (r,j))(ht:0<t):c_l s t=(decide (j<=t) && c_l (s.drop j) (t - j)):=by
 unfold c_l
 by_cases hj:j<=t
 .rw [dT_ hj,Bool.true_and,k_U<|u_h h hj,List.drop_take]
  rw [Bool.eq_iff_iff,beq_iff_eq,beq_iff_eq]
  simp only;omega
 .rw [dF_ hj,Bool.false_and]
  have:a_N (s.take t)=none:=by
   cases hx:a_N (s.take t) with
   | none=>rfl
   | some x =>
    obtain ⟨r',k'⟩:=x;obtain ⟨h1,h2⟩:=p_v hx
    rw [h1] at h;cases h;omega
  rw [g_x this,beq_eq_false_iff_ne]
  simp only;omega
def c_z (l:Log):Bool:=(decide (0<=l.stored) && decide (l.stored<=(l.bytes.length:Int))) && ((a_w l.bytes).2==l.bytes.length && c_l l.bytes l.stored.toNat)
theorem p_U {l:Log}(hb:l.bytes.length<=ML){n:Nat}(hn:1060100<=n):h_c n l=some (c_z l):=by
 have hML:=MLv;have hMX:=MXv;unfold h_c c_z
 rw [b_u,bd_some]
 cases hr:(decide ((0:Int)<=l.stored) && decide (l.stored<=(l.bytes.length:Int))) with
 | false=>rfl
 | true =>
  simp only [aE_,dE_] at hr
  simp only [nT_,bF_,fF_,Bool.true_and]
  have hsl:slc l.bytes 0 l.stored=some (l.bytes.take l.stored.toNat):=by rw [d_e (by omega) hr.1 hr.2];simp
  rw [k_Y hb hn,bd2_some,hsl,bd_some,k_Y (by rw [List.length_take];omega) hn,bd2_some]
  have h:((((a_w l.bytes).2:Nat):Int)==(l.bytes.length:Int))=((a_w l.bytes).2==l.bytes.length):=by
   rw [Bool.eq_iff_iff,beq_iff_eq,beq_iff_eq];omega
  have G:((((a_w<|l.bytes.take l.stored.toNat).2:Nat):Int)==l.stored)=c_l l.bytes l.stored.toNat:=by
   unfold c_l;rw [Bool.eq_iff_iff,beq_iff_eq,beq_iff_eq];omega
  rw [h,G]
  cases (a_w l.bytes).2==l.bytes.length <;> rfl
theorem p_V {b:Bt}{t n:Nat}(hb:b.length<=ML)(hn:1060100<=n):∀(m k:Nat)(e:Bool),b.length - k<m->k<=b.length ->
  I_ (σ:=Bool×Int) (ρ:=Bool) (un2 λH G=>if (decide<|G<(b.length:Int)) then bd3 (f_i n b G) λV I J=>if (!J) then some (.ret false) else bd (α:=Bool) (if H then some true else some (I==(t:Int))) (λL=>some<|.next (L,I)) else some (.brk (H,G))) m (e,(k:Int))=some (if (a_w<|b.drop k).2=b.length - k then .inl (e || (decide (k<t) && c_l (b.drop k) (t - k)),(b.length:Int)) else .inr false)
 | 0,k,e,h,_=>by omega
 | m+1,k,e,h,hk=>by
  have hML:=MLv;have hMX:=MXv;unfold I_
  simp only [un2]
  by_cases hlt:k<b.length
  .rw [dT_ (by omega),iP_ rfl,p_R hb hk hn]
   cases hd:a_N (b.drop k) with
   | none =>
    rw [g_x hd,iN_ (by simp only;omega)]
    rfl
   | some x =>
    obtain ⟨r,j⟩:=x;have hp:=h_V hd
    rw [List.length_drop] at hp
    simp only [e_Z,bd3_some,nT_,bF_,fF_]
    have O:(if e then some true else some (((k+j:Nat):Int)==(t:Int)))=some (e || decide (k+j=t)):=by
     cases e
     .simp only [bF_,fF_,Bool.false_or];congr 1;rw [Bool.eq_iff_iff,beq_iff_eq,dE_];omega
     .rfl
    rw [O,bd_some]
    simp only
    rw [p_V hb hn m (k+j) _ (by omega) (by omega),k_U hd,List.drop_drop]
    simp only
    by_cases hf:(a_w<|b.drop<|k+j).2=b.length - (k+j)
    .rw [iP_ hf,iP_ (by omega)]
     congr 3
     rw [Bool.or_assoc]
     congr 1
     by_cases hkt:k<t
     .rw [dT_ hkt,Bool.true_and,u_K hd (by omega),List.drop_drop]
      by_cases h1:k+j=t
      .subst h1
       rw [dT_ rfl,dT_ (show j<=k+j - k by omega),show k+j - k - j=0 by omega,p_T];simp
      .rw [dF_ h1,Bool.false_or]
       by_cases h2:k+j<t
       .rw [dT_ h2,dT_ (show j<=t - k by omega),show t - k - j=t - (k+j) by omega]
       .rw [dF_ h2,dF_ (show ¬j<=t - k by omega)];simp
     .rw [dF_ hkt,dF_ (show ¬k+j=t by omega),dF_ (show ¬k+j<t by omega)];simp
    .rw [iN_ hf,iN_ (by omega)]
  .have:k=b.length:=by omega
   subst this
   rw [dF_ (by omega),iN_ (by simp)]
   have hnil:b.drop b.length=[]:=by simp
   rw [hnil,g_x<|k_X (by simp),iP_ (by simp)]
   simp only
   congr 3
   have:(decide (b.length<t) && c_l [] (t - b.length))=false:=by
    by_cases h1:b.length<t
    .rw [u_J (k_X (by simp)) (by omega)];simp
    .rw [dF_ h1];rfl
   rw [this,Bool.or_false]
theorem p_W {l:Log}(hb:l.bytes.length<=ML){n:Nat}(hn:1060100<=n):j_t n l=some (c_z l):=by
 have hML:=MLv;have hMX:=MXv;unfold j_t l_t c_z
 rw [e_R,bd_some]
 cases hr:(decide ((0:Int)<=l.stored) && decide (l.stored<=(l.bytes.length:Int))) with
 | false=>rfl
 | true =>
  simp only [aE_,dE_] at hr
  simp only [nT_,bF_,fF_,Bool.true_and]
  have h:=p_V (b:=l.bytes) (t:=l.stored.toNat) hb hn n 0 (l.stored==0) (by omega)<|Nat.zero_le _
  rw [show ((l.stored.toNat:Nat):Int)=l.stored by omega,show (((0:Nat)):Int)=0 from rfl,List.drop_zero,Nat.sub_zero,Nat.sub_zero] at h
  rw [h,bd_some]
  by_cases hf:(a_w l.bytes).2=l.bytes.length
  .rw [iP_ hf,el_inl,show ((a_w l.bytes).2==l.bytes.length)=true by simpa using hf,Bool.true_and]
   simp only [un2]
   have:(l.stored==0 || (decide (0<l.stored.toNat) && c_l l.bytes l.stored.toNat))=c_l l.bytes l.stored.toNat:=by
    by_cases G:l.stored=0
    .rw [G];simp [p_T]
    .rw [show (l.stored==0)=false by simpa using G,dT_ (by omega)];simp
   rw [this]
   cases c_l l.bytes l.stored.toNat <;> rfl
  .rw [iN_ hf,el_inr,show ((a_w l.bytes).2==l.bytes.length)=false by simpa using hf];rfl
end Go.Vw
