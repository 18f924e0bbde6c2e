
import Derived.Test.YtajhmimbhplkfaaGreatDoorVwP52
set_option linter.unusedVariables false
namespace Go.Vw
open Go.RowKit Dat
theorem k_Q {s:Int} (h1:1≤s) (h4:s≤4):c_B s=some (b_j .i64 1<|8 * s):=by
 unfold c_B
 rw [d_K (by omega) (by omega),show nn (8 * s)=some () from by unfold nn;rw [iP_ (by omega)],bd_some]
theorem k_R (x s:Int) {n:Nat} (hn:10≤n) : ∃ l,e_C n x s=some l∧l.length≤4:=by
 have hLIM:=a_B;unfold e_C
 rw [b_n,bd_some]
 by_cases hs:1≤s∧s≤4
 ·rw [dT_ hs.1,dT_ hs.2,k_Q hs.1 hs.2]
  simp only [Bool.and_self,nT_,bF_,fF_,bd_some]
  rw [b_n,bd_some,bd_some]
  split
  ·exact ⟨_,rfl,by simp⟩
  ·obtain ⟨t,e,ht⟩:=d_D (σ:=(List UInt8)×Int) (ρ:=List UInt8) (step:=un2 fun x156 x164=>if (decide<|0≤x164)=true then bd (nn<|a_e 8 x164) fun u208=>bd (psh x156<|mkB<|b_Q .i64 x<|a_e 8 x164) fun x226=>some (.next (x226,I_ x164 1)) else some (.brk (x156,x164)))
    (fun t=>-1≤t.2∧t.2≤3∧(t.1.length:Int)+t.2≤3) (fun t=>(t.2+1).toNat) (fun t=>t.1.length≤4)
    (by
     rintro ⟨l,k⟩ ⟨g0,g1,g2⟩
     simp only at g0 g1 g2
     simp only [un2]
     by_cases hk:0≤k
     ·left
      rw [dT_ hk,iP_ rfl,d_K (by omega) (by omega),show nn (8 * k)=some () from by unfold nn;rw [iP_ (by omega)],bd_some,a_P (by omega),bd_some,a_C (by omega) (by omega)]
      exact ⟨_,rfl,⟨by simp only;omega,by simp only;omega,by simp;omega⟩,by simp only;omega⟩
     ·right
      rw [dF_ hk]
      exact ⟨_,rfl,by simp only;omega⟩)
    n ([],I_ s 1) (by rw [a_C (by omega) (by omega)];exact ⟨by simp only;omega,by simp only;omega,by simp;omega⟩) (by rw [a_C (by omega) (by omega)];simp only;omega)
   obtain ⟨l,k⟩:=t
   rw [e]
   exact ⟨l,rfl,ht⟩
 ·rw [show (decide (1≤s) && decide (s≤4))=false by simp;omega]
  exact ⟨_,rfl,by simp⟩
theorem o_b (x s:Int) {n:Nat} (hn:10≤n) : ∃ l,e_L n x s=some l∧l.length≤4:=by
 have hLIM:=a_B;obtain ⟨q,e0,hq⟩:=k_R x s hn;unfold e_L
 rw [e0,bd_some]
 obtain ⟨t,e,ht⟩:=d_D (σ:=(List UInt8)×Int) (ρ:=List UInt8) (step:=un2 fun x114 x122=>if (decide<|0≤x122)=true then bd (idx q x122) fun x173=>bd (psh x114 x173) fun x199=>some (.next (x199,I_ x122 1)) else some (.brk (x114,x122)))
  (fun t=>-1≤t.2∧t.2<(q.length:Int)∧(t.1.length:Int)+t.2≤3) (fun t=>(t.2+1).toNat) (fun t=>t.1.length≤4)
  (by
   rintro ⟨l,k⟩ ⟨g0,g1,g2⟩
   simp only at g0 g1 g2
   simp only [un2]
   by_cases hk:0≤k
   ·left
    rw [dT_ hk,iP_ rfl,d_e hk (by omega),bd_some,a_P (by omega),bd_some,a_C (by omega) (by omega)]
    exact ⟨_,rfl,⟨by simp only;omega,by simp only;omega,by simp;omega⟩,by simp only;omega⟩
   ·right
    rw [dF_ hk]
    exact ⟨_,rfl,by simp only;omega⟩)
  n ([],I_ (q.length:Int) 1) (by rw [a_C (by omega) (by omega)];exact ⟨by simp only;omega,by simp only;omega,by simp;omega⟩) (by rw [a_C (by omega) (by omega)];simp only;omega)
 obtain ⟨l,k⟩:=t
 rw [e]
 exact ⟨l,rfl,ht⟩
theorem h_6 (r:g_) (x:Int) {n:Nat} (hn:10≤n) : ∃ l,c_V n r x=some l∧l.length≤4:=by
 unfold c_V
 cases r.little with
 | true =>
  obtain ⟨l,e,hl⟩:=o_b x r.size hn
  rw [iP_ rfl,e,bd_some];exact ⟨l,rfl,hl⟩
 | false =>
  obtain ⟨l,e,hl⟩:=k_R x r.size hn
  rw [iN_ (by simp),e,bd_some];exact ⟨l,rfl,hl⟩
def Bd (j:Nat):Nat:=60 * 4 ^ j
theorem Bd_lt {c j:Nat} (h:c<j):4 * Bd c≤Bd j:=by
 unfold Bd;have:=Nat.pow_le_pow_right (show 0<4 by decide) (show c+1≤j from h)
 rw [Nat.pow_succ] at this;omega
theorem Bd_ge (j:Nat):60≤Bd j:=by
 unfold Bd;have:=Nat.pow_le_pow_right (show 0<4 by decide)<|Nat.zero_le j
 omega
theorem j_b {j:Nat} (h:j≤5):Bd j≤61440:=by
 unfold Bd;have:=Nat.pow_le_pow_right (show 0<4 by decide) h
 omega
theorem Mk.item {d:d_} {j:Nat} {v:Val} (h:Mk d j v):v.items.length≤3∧v.bytes.length≤6∧j<d.rules.length ∧ ∀ (hj:j<d.rules.length) t (ht:t<v.items.length),∃ c:Nat,Y_ d.rules[j] v.number t=(c:Int)∧c<j∧Mk d c v.items[t]:=by
 cases h with
 | flat hj hi hb=>exact ⟨by rw [hi];simp,hb,hj,fun _ t ht=>by rw [hi] at ht;simp at ht⟩
 | node hj hn hb f hf ch=>exact ⟨hn,by rw [hb];simp,hj,fun _ t ht=>⟨f t,(hf t ht).1,(hf t ht).2,ch t ht⟩⟩
theorem esc_ok {t:UInt8} {bs acc:List UInt8} (hb:bs.length≤6) (ha:acc.length≤61440) {r:g_} (hr:r.bytes.length=1) :
  ∃ l,C_ (σ:=List UInt8) (ρ:=List UInt8) (fun k8184=>(fun x8173=>bd (α:=Bool) (bd (idx bs ((k8184:Nat):Int)) fun x8385=>bd (idx r.bytes 0) fun x8400=>if ((byteI x8385)==(byteI x8400))=true then some true else bd (idx bs ((k8184:Nat):Int)) fun x8419=>some<|(byteI x8419)==(byteI (92:UInt8))) (fun x8378=>bd (α:=List UInt8) (if x8378=true then bd (psh x8173 (92:UInt8)) fun x8483=>some x8483 else some x8173)<|fun x8454=>bd (idx bs ((k8184:Nat):Int)) fun x8499=>bd (psh x8454 x8499) fun x8529=>some<|.next x8529))) bs.length 0 acc=some (.inl l)∧l.length≤acc.length+12:=by
 have hLIM:=a_B
 rcases d_7 (σ:=List UInt8) (ρ:=List UInt8) (body:=fun k8184=>(fun x8173=>bd (α:=Bool) (bd (idx bs ((k8184:Nat):Int)) fun x8385=>bd (idx r.bytes 0) fun x8400=>if ((byteI x8385)==(byteI x8400))=true then some true else bd (idx bs ((k8184:Nat):Int)) fun x8419=>some<|(byteI x8419)==(byteI (92:UInt8))) (fun x8378=>bd (α:=List UInt8) (if x8378=true then bd (psh x8173 (92:UInt8)) fun x8483=>some x8483 else some x8173)<|fun x8454=>bd (idx bs ((k8184:Nat):Int)) fun x8499=>bd (psh x8454 x8499) fun x8529=>some<|.next x8529)))
  (fun k l=>l.length≤acc.length+2 * k) (fun _=>False) (n:=bs.length)
  (by
   intro k l hk hl
   left
   rw [ix_ hk,bd_some,b_6 (by omega),bd_some]
   have key : ∀ f:Bool,∃ s',(bd (α:=List UInt8) (if f=true then bd (psh l (92:UInt8)) fun x8483=>some x8483 else some l)<|fun x8454=>bd (some bs[k]) fun x8499=>bd (psh x8454 x8499) fun x8529=>some<|Out.next (ρ:=List UInt8) x8529)=some (.next s')∧s'.length≤acc.length+2 * (k+1):=by
    intro f
    cases f with
    | true=>rw [iP_ rfl,a_P (by omega),bd_some,bd_some,bd_some,a_P (by simp;omega),bd_some];exact ⟨_,rfl,by simp;omega⟩
    | false=>rw [iN_ (by simp),bd_some,bd_some,a_P (by omega),bd_some];exact ⟨_,rfl,by simp;omega⟩
   split
   ·rw [bd_some];exact key true
   ·rw [bd_some,bd_some];exact key _)
  bs.length 0 acc (by omega) (by omega) with ⟨l,e,hl⟩ | ⟨_,_,hf⟩
 ·exact ⟨l,e,by omega⟩
 ·exact hf.elim
theorem k_S {d:d_} (hd:DrD d) : ∀ (j:Nat) (v:Val),Mk d j v → ∀ n,40+j≤n → ∃ l,e_N n d (j:Int) v=some l∧l.length≤Bd j:=by
 have hLIM:=a_B;intro j
 induction j using Nat.strongRecOn with
 | ind j ih =>
  intro v hv n hn;obtain ⟨m,rfl⟩ : ∃ m,n=m+1:=⟨n - 1,by omega⟩;obtain ⟨hi3,hb6,hj,hch⟩:=hv.item;have hch:=hch hj;have hr:=hd.each j hj;have hB:=Bd_ge j;have hB2:=j_b (j:=j) (by have:=hd.few;omega)
  show ∃ l,e_M m (c_W m) d (j:Int) v=some l∧l.length≤Bd j
  unfold e_M
  rw [ix_ hj,bd_some]
  have hkid : ∀ (r':g_),DrR j r'→0<r'.kids.length → ∃ q,idx r'.kids 0=some q ∧ ∃ r2,idx d.rules q=some r2:=fun r' hr' hk0=>by
   obtain ⟨c,hc,hcj⟩:=d_d hr' (t:=0) hk0;exact ⟨r'.kids[0],b_6 hk0,d.rules[c],by rw [hc,ix_ (by omega)]⟩
  generalize d.rules[j]=r at hr hch
  rcases d_7 (σ:=List UInt8) (ρ:=List UInt8) (body:=fun k301=>(fun x290=>bd (idx v.items ((k301:Nat):Int)) fun x432=>bd (b_u r v.number ((k301:Nat):Int)) fun r465=>bd ((c_W m).spec_l11Print d r465 x432) fun r477=>bd (app x290 r477) fun x501=>some<|.next x501))
   (fun k l=>4 * l.length≤k * Bd j) (fun _=>False) (n:=v.items.length)
   (by
    intro k l hk hl
    left
    obtain ⟨c,c1,c2,c3⟩:=hch k hk;obtain ⟨q,e,hq⟩:=ih c c2 _ c3 m (by omega);have hbc:=Bd_lt c2;have hkb:k * Bd j≤3 * Bd j:=Nat.mul_le_mul_right _ (by omega)
    rw [ix_ hk,bd_some,d_G hr.ok,bd_some,c1,show (c_W m).spec_l11Print d (c:Int) v.items[k]=some q from e,bd_some,c_h (by omega),bd_some]
    refine ⟨_,rfl,?_⟩;have h2:(k+1) * Bd j=k * Bd j+Bd j:=Nat.succ_mul _ _
    rw [List.length_append,h2];omega)
   v.items.length 0 [] (by omega) (by simp) with ⟨acc,e,ha⟩ | ⟨_,_,hf⟩
  ·have hac:4 * acc.length≤3 * Bd j:=Nat.le_trans ha<|Nat.mul_le_mul_right _ hi3
   rw [e,bd_some,el_inl]
   have hkk:r.kind=1∨r.kind=2∨r.kind=3∨r.kind=4∨r.kind=5∨r.kind=6∨r.kind=7∨r.kind=8∨r.kind=9∨r.kind=10:=by have:=hr.kind;omega
   rcases hkk with hk | hk | hk | hk | hk | hk | hk | hk | hk | hk
   ·rw [hk,iP_ (by decide)]
    obtain ⟨l,e1,hl⟩:=h_6 r v.number (n:=m) (by omega)
    rw [e1,bd_some];exact ⟨l,rfl,by omega⟩
   ·have:=hr.bytes
    rw [hk,iN_ (by decide),iP_ (by decide),c_h (by simp;omega),bd_some];exact ⟨_,rfl,by simp;omega⟩
   ·rw [hk,iN_ (by decide),iN_ (by decide),iN_ (by decide),iN_ (by decide),iN_ (by decide),iN_ (by decide),iN_ (by decide),iN_ (by decide),iP_ (by decide),c_h (by simp;omega),bd_some];exact ⟨_,rfl,by simp;omega⟩
   ·obtain ⟨q,e1,r2,e2⟩:=hkid r hr (by have:=hr.k4 hk;omega);obtain ⟨l,e3,hl⟩:=h_6 r2 (v.bytes.length:Int) (n:=m) (by omega)
    rw [hk,iN_ (by decide),iN_ (by decide),iP_ (by decide),e1,bd_some,e2,bd_some,e3,bd_some,c_h (by omega),bd_some];exact ⟨_,rfl,by simp;omega⟩
   ·obtain ⟨q,e1,r2,e2⟩:=hkid r hr (by have:=hr.k5 hk;omega);obtain ⟨l,e3,hl⟩:=h_6 r2 (v.items.length:Int) (n:=m) (by omega)
    rw [hk,iN_ (by decide),iN_ (by decide),iN_ (by decide),iP_ (by decide),e1,bd_some,e2,bd_some,e3,bd_some,c_h (by omega),bd_some];exact ⟨_,rfl,by simp;omega⟩
   ·rw [hk,iN_ (by decide),iN_ (by decide),iN_ (by decide),iN_ (by decide),iN_ (by decide),iN_ (by decide),iN_ (by decide),iN_ (by decide),iN_ (by decide)];exact ⟨acc,rfl,by omega⟩
   ·obtain ⟨q,e1,r2,e2⟩:=hkid r hr (by have:=(hr.k7 hk).1;omega);obtain ⟨l,e3,hl⟩:=h_6 r2 v.number (n:=m) (by omega)
    rw [hk,iN_ (by decide),iN_ (by decide),iN_ (by decide),iN_ (by decide),iP_ (by decide),e1,bd_some,e2,bd_some,e3,bd_some,c_h (by omega),bd_some];exact ⟨_,rfl,by simp;omega⟩
   ·rw [hk,iN_ (by decide),iN_ (by decide),iN_ (by decide),iN_ (by decide),iN_ (by decide),iP_ (by decide),c_h (by simp;omega),bd_some];exact ⟨_,rfl,by simp;omega⟩
   ·rw [hk,iN_ (by decide),iN_ (by decide),iN_ (by decide),iN_ (by decide),iN_ (by decide),iN_ (by decide),iP_ (by decide),k_C,bd_some,a_P (by omega),bd_some];exact ⟨_,rfl,by simp;omega⟩
   ·have hbl:=hr.k10 hk;obtain ⟨l,e1,hl⟩:=esc_ok (t:=0) (acc:=acc) hb6 (by omega) hbl
    rw [hk,iN_ (by decide),iN_ (by decide),iN_ (by decide),iN_ (by decide),iN_ (by decide),iN_ (by decide),iN_ (by decide),iP_ (by decide),e1,bd_some,el_inl,b_6 (by omega),bd_some,a_P (by omega),bd_some];exact ⟨_,rfl,by simp;omega⟩
  ·exact hf.elim
end Go.Vw
