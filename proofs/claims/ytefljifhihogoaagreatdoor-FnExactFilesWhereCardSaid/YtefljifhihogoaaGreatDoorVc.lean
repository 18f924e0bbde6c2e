
import Derived.Test.YtefljifhihogoaaGreatDoorVb
namespace Go.Vw
set_option linter.unusedVariables false
open Go.RowKit Dat
theorem o_d {b:Bt}{D:Int->Option (q_×Int×Bool)}(hD:∀k:Nat,k<=b.length->D (k:Int)=some (g_d k<|b_5<|b.drop k))(hb:b.length<=ML):∀(m k:Nat)(acc:List q_),b.length - k<m->k<=b.length->acc.length<=k ->
  F_ (σ:=(List q_)×Int) (ρ:=(List q_)×Int) (un2 λG H=>bd3 (D H) λI J L=>if (!L) then some (.ret (G,H)) else bd (psh G I) λO=>some<|.next (O,J)) m (acc,(k:Int))=some (.inr (acc++(a_J<|b.drop k).1,((k+(a_J<|b.drop k).2:Nat):Int)))
 | 0,k,acc,h,_,_=>by omega
 | m+1,k,acc,h,hk,ha=>by
  have hML:=MLv;have hMX:=MXv;have hLIM:=a_7;unfold F_
  simp only [un2]
  rw [hD k hk]
  cases hd:b_5 (b.drop k) with
  | none =>
   grind [g_d,a_E,i_c]
  | some x =>
   obtain ⟨r,j⟩:=x;have hp:=j_w hd
   rw [QAa] at hp
   simp only [g_d,a_E,nT_,bF_,fF_]
   rw [a_Z (by omega),a_]
   simp only
   rw [o_d hD hb m (k+j) (acc++[r]) (by omega) (by omega) (by grind),l_V hd,QAo,QAh]
   grind
theorem r_T {b:Bt}(hb:b.length<=ML){n:Nat}(hn:1060100<=n):i_R n b=some ((a_J b).1,((a_J b).2:Int)):=by
 have hML:=MLv;have hMX:=MXv;unfold i_R;have:=o_d (b:=b) (D:=g_E n b) (λk hk=>r_S hb hk hn) hb n 0 [] (by omega) (QAI _)<|QAI _
 simp_all
theorem l_Y {b:Bt}(hb:b.length<=ML){n:Nat}(hn:1060100<=n):g_D n b=some ((a_J b).1,((a_J b).2:Int)):=by
 have hML:=MLv;have hMX:=MXv;unfold g_D;have:=o_d (b:=b) (D:=i_N n b) (λk hk=>x_a hb hk hn) hb n 0 [] (by omega) (QAI _)<|QAI _
 simp_all
def d_l (s:Bt)(t:Nat):Bool:=(a_J<|s.take t).2==t
theorem r_U (s:Bt):d_l s 0=true:=by rfl
theorem x_b {s:Bt}{t:Nat}(h:b_5 s=none)(ht:0<t):d_l s t=false:=by
 grind [d_l,b_5,i_c,beq_eq_false_iff_ne,r_v]
theorem x_c {s:Bt}{t j:Nat}{r:q_}(h:b_5 s=some (r,j))(ht:0<t):d_l s t=(decide (j<=t) && d_l (s.drop j) (t - j)):=by
 unfold d_l
 by_cases hj:j<=t
 .rw [dT_ hj,QAE,l_V<|w_I h hj,List.drop_take]
  grind
 .rw [dF_ hj,Bool.false_and]
  grind [b_5,i_c,beq_eq_false_iff_ne,r_v]
def d_2 (l:Log):Bool:=(decide (0<=l.stored) && decide (l.stored<=(l.bytes.length:Int))) && ((a_J l.bytes).2==l.bytes.length && d_l l.bytes l.stored.toNat)
theorem r_V {l:Log}(hb:l.bytes.length<=ML){n:Nat}(hn:1060100<=n):i_O n l=some (d_2 l):=by
 have hML:=MLv;have hMX:=MXv;unfold i_O d_2
 rw [b_z,a_]
 cases hr:(decide ((0:Int)<=l.stored) && decide (l.stored<=(l.bytes.length:Int))) with
 | false=>rfl
 | true =>
  simp only [aE_,dE_] at hr
  simp only [nT_,bF_,fF_,QAE]
  have hsl:slc l.bytes 0 l.stored=some (l.bytes.take l.stored.toNat):=by grind [d_O]
  rw [l_Y hb hn,a_b,hsl,a_,l_Y (by grind) hn,a_b]
  have G:((((a_J l.bytes).2:Nat):Int)==(l.bytes.length:Int))=((a_J l.bytes).2==l.bytes.length):=by
   grind
  have H:((((a_J<|l.bytes.take l.stored.toNat).2:Nat):Int)==l.stored)=d_l l.bytes l.stored.toNat:=by
   grind [d_l]
  rw [G,H]
  cases (a_J l.bytes).2==l.bytes.length <;> rfl
theorem r_W {b:Bt}{t n:Nat}(hb:b.length<=ML)(hn:1060100<=n):∀(m k:Nat)(e:Bool),b.length - k<m->k<=b.length ->
  F_ (σ:=Bool×Int) (ρ:=Bool) (un2 λH G=>if (decide<|G<(b.length:Int)) then bd3 (g_E n b G) λV I J=>if (!J) then some (.ret false) else bd (α:=Bool) (if H then some true else some (I==(t:Int))) (λL=>some<|.next (L,I)) else some (.brk (H,G))) m (e,(k:Int))=some (if (a_J<|b.drop k).2=b.length - k then .inl (e || (decide (k<t) && d_l (b.drop k) (t - k)),(b.length:Int)) else .inr false)
 | 0,k,e,h,_=>by omega
 | m+1,k,e,h,hk=>by
  have hML:=MLv;have hMX:=MXv;unfold F_
  simp only [un2]
  by_cases hlt:k<b.length
  .rw [dT_ (by omega),iP_ rfl,r_S hb hk hn]
   cases hd:b_5 (b.drop k) with
   | none =>
    rw [i_c hd,iN_ (by omega)]
    rfl
   | some x =>
    obtain ⟨r,j⟩:=x;have hp:=j_w hd
    rw [QAa] at hp
    simp only [g_d,a_E,nT_,bF_,fF_]
    have O:(if e then some true else some (((k+j:Nat):Int)==(t:Int)))=some (e || decide (k+j=t)):=by
     cases e
     .simp only [bF_,fF_,QAg];congr 1;grind
     .rfl
    rw [O,a_]
    simp only
    rw [r_W hb hn m (k+j) _ (by omega) (by omega),l_V hd,QAo]
    simp only
    by_cases hf:(a_J<|b.drop<|k+j).2=b.length - (k+j)
    .rw [iP_ hf,iP_ (by omega)]
     congr 3
     rw [Bool.or_assoc]
     congr 1
     by_cases hkt:k<t
     .rw [dT_ hkt,QAE,x_c hd (by omega),QAo]
      by_cases h1:k+j=t
      .subst h1
       rw [dT_ rfl,dT_ (show j<=k+j - k by omega),show k+j - k - j=0 by omega,r_U];simp
      grind
     grind
    grind
  .have:k=b.length:=by omega
   subst this
   rw [dF_ (by omega),iN_ (by simp)]
   have hnil:b.drop b.length=[]:=by simp
   rw [hnil,i_c<|l_X (by simp),iP_ (by simp)]
   simp only
   congr 3
   have:(decide (b.length<t) && d_l [] (t - b.length))=false:=by
    grind [decide_eq_false,x_b,l_X]
   grind
theorem r_X {l:Log}(hb:l.bytes.length<=ML){n:Nat}(hn:1060100<=n):k_U n l=some (d_2 l):=by
 have hML:=MLv;have hMX:=MXv;unfold k_U m_B d_2
 rw [c_g,a_]
 cases hr:(decide ((0:Int)<=l.stored) && decide (l.stored<=(l.bytes.length:Int))) with
 | false=>rfl
 | true =>
  simp only [aE_,dE_] at hr
  simp only [nT_,bF_,fF_,QAE]
  have h:=r_W (b:=l.bytes) (t:=l.stored.toNat) hb hn n 0 (l.stored==0) (by omega)<|QAI _
  rw [show ((l.stored.toNat:Nat):Int)=l.stored by omega,show (((0:Nat)):Int)=0 from rfl,QAP,Nat.sub_zero,Nat.sub_zero] at h
  rw [h,a_]
  by_cases hf:(a_J l.bytes).2=l.bytes.length
  .rw [iP_ hf,W_,show ((a_J l.bytes).2==l.bytes.length)=true by grind,QAE]
   simp only [un2]
   have:(l.stored==0 || (decide (0<l.stored.toNat) && d_l l.bytes l.stored.toNat))=d_l l.bytes l.stored.toNat:=by
    by_cases G:l.stored=0
    .simp_all [r_U]
    grind
   grind
  simp_all
end Go.Vw
