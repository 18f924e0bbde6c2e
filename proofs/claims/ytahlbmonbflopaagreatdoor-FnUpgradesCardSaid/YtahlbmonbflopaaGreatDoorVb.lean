
import Derived.Test.YtahlbmonbflopaaGreatDoorVa
namespace Go.Vw
open Go.RowKit Dat
theorem n_9 {s:Int}(h1:1<=s)(h4:s<=4):d_a s=some (b_w .i64 1<|8 * s):=by
 unfold d_a
 rw [e_3 (by omega) (by omega),show nn (8 * s)=some () from by unfold nn;rw [iP_ (by omega)],bd_some]
theorem n_a (x s:Int){n:Nat}(hn:10<=n):∃l,e_8 n x s=some l/\l.length<=4:=by
 have hLIM:=a_7;unfold e_8
 rw [b_u,bd_some]
 by_cases hs:1<=s/\s<=4
 .rw [dT_ hs.1,dT_ hs.2,n_9 hs.1 hs.2]
  simp only [Bool.and_self,nT_,bF_,fF_,bd_some]
  rw [b_u,bd_some,bd_some]
  split
  .exact ⟨_,rfl,by simp⟩
  .obtain ⟨t,e,ht⟩:=c_4 (σ:=Bt×Int) (ρ:=Bt) (step:=un2 λH G=>if (decide<|0<=G) then bd (nn<|a_5 8 G) λO=>bd (psh H<|mkB<|a_g .i64 x<|a_5 8 G) λI=>some (.next (I,j_ G 1)) else some (.brk (H,G)))
    (λt=>-1<=t.2/\t.2<=3/\(t.1.length:Int)+t.2<=3) (λt=>(t.2+1).toNat) (λt=>t.1.length<=4)
    (by
     rintro ⟨l,k⟩ ⟨J,g1,L⟩
     simp only at J g1 L
     simp only [un2]
     by_cases hk:0<=k
     .left
      rw [dT_ hk,iP_ rfl,e_3 (by omega) (by omega),show nn (8 * k)=some () from by unfold nn;rw [iP_ (by omega)],bd_some,Y_ (by omega),bd_some,a_C (by omega) (by omega)]
      exact ⟨_,rfl,⟨by simp only;omega,by simp only;omega,by simp;omega⟩,by simp only;omega⟩
     .right
      rw [dF_ hk]
      exact ⟨_,rfl,by simp only;omega⟩)
    n ([],j_ s 1) (by rw [a_C (by omega) (by omega)];exact ⟨by simp only;omega,by simp only;omega,by simp;omega⟩) (by rw [a_C (by omega) (by omega)];simp only;omega)
   obtain ⟨l,k⟩:=t
   rw [e]
   exact ⟨l,rfl,ht⟩
 .rw [show (decide (1<=s) && decide (s<=4))=false by simp;omega]
  exact ⟨_,rfl,by simp⟩
theorem q_V (x s:Int){n:Nat}(hn:10<=n):∃l,f_A n x s=some l/\l.length<=4:=by
 have hLIM:=a_7;obtain ⟨q,L,hq⟩:=n_a x s hn;unfold f_A
 rw [L,bd_some]
 obtain ⟨t,e,ht⟩:=c_4 (σ:=Bt×Int) (ρ:=Bt) (step:=un2 λH G=>if (decide<|0<=G) then bd (idx q G) λI=>bd (psh H I) λJ=>some (.next (J,j_ G 1)) else some (.brk (H,G)))
  (λt=>-1<=t.2/\t.2<(q.length:Int)/\(t.1.length:Int)+t.2<=3) (λt=>(t.2+1).toNat) (λt=>t.1.length<=4)
  (by
   rintro ⟨l,k⟩ ⟨O,g1,V⟩
   simp only at O g1 V
   simp only [un2]
   by_cases hk:0<=k
   .left
    rw [dT_ hk,iP_ rfl,f_2 hk (by omega),bd_some,Y_ (by omega),bd_some,a_C (by omega) (by omega)]
    exact ⟨_,rfl,⟨by simp only;omega,by simp only;omega,by simp;omega⟩,by simp only;omega⟩
   .right
    rw [dF_ hk]
    exact ⟨_,rfl,by simp only;omega⟩)
  n ([],j_ (q.length:Int) 1) (by rw [a_C (by omega) (by omega)];exact ⟨by simp only;omega,by simp only;omega,by simp;omega⟩) (by rw [a_C (by omega) (by omega)];simp only;omega)
 obtain ⟨l,k⟩:=t
 rw [e]
 exact ⟨l,rfl,ht⟩
theorem j_L (r:b_)(x:Int){n:Nat}(hn:10<=n):∃l,c_S n r x=some l/\l.length<=4:=by
 unfold c_S
 cases r.little with
 | true =>
  obtain ⟨l,e,hl⟩:=q_V x r.size hn
  rw [iP_ rfl,e,bd_some];exact ⟨l,rfl,hl⟩
 | false =>
  obtain ⟨l,e,hl⟩:=n_a x r.size hn
  rw [iN_ (by simp),e,bd_some];exact ⟨l,rfl,hl⟩
def Bd (j:Nat):Nat:=60 * 4 ^ j
theorem Bd_lt {c j:Nat}(h:c<j):4 * Bd c<=Bd j:=by
 unfold Bd;have:=Nat.pow_le_pow_right (show 0<4 by decide) (show c+1<=j from h)
 rw [Nat.pow_succ] at this;omega
theorem Bd_ge (j:Nat):60<=Bd j:=by
 unfold Bd;have:=Nat.pow_le_pow_right (show 0<4 by decide)<|Nat.zero_le j
 omega
theorem Mk.item {d:c_}{j:Nat}{v:Val}(h:Mk d j v):v.items.length<=3/\v.bytes.length<=6/\j<d.rules.length/\∀(hj:j<d.rules.length) t (ht:t<v.items.length),∃c:Nat,P_ d.rules[j] v.number t=(c:Int)/\c<j/\Mk d c v.items[t]:=by
 cases h with
 | flat hj hi hb=>exact ⟨by rw [hi];simp,hb,hj,λ_ t ht=>by rw [hi] at ht;simp at ht⟩
 | node hj hn hb f hf ch=>exact ⟨hn,by rw [hb];simp,hj,λ_ t ht=>⟨f t,(hf t ht).1,(hf t ht).2,ch t ht⟩⟩
theorem esc_ok {bs acc:Bt}(hb:bs.length<=6)(ha:acc.length<=983040){r:b_}(hr:r.bytes.length=1) :
  ∃l,y_ (σ:=Bt) (ρ:=Bt) (λG=>(λH=>bd (α:=Bool) (bd (idx bs ((G:Nat):Int)) λV=>bd (idx r.bytes 0) λW=>if ((byteI V)==(byteI W)) then some true else bd (idx bs ((G:Nat):Int)) λY=>some<|(byteI Y)==(byteI (92:UInt8))) (λa0=>bd (α:=Bt) (if a0 then bd (psh H (92:UInt8)) λI=>some I else some H)<|λJ=>bd (idx bs ((G:Nat):Int)) λL=>bd (psh J L) λO=>some<|.next O))) bs.length 0 acc=some (.inl l)/\l.length<=acc.length+12:=by
 have hLIM:=a_7
 rcases c_u (σ:=Bt) (ρ:=Bt) (body:=λG=>(λH=>bd (α:=Bool) (bd (idx bs ((G:Nat):Int)) λV=>bd (idx r.bytes 0) λW=>if ((byteI V)==(byteI W)) then some true else bd (idx bs ((G:Nat):Int)) λY=>some<|(byteI Y)==(byteI (92:UInt8))) (λa0=>bd (α:=Bt) (if a0 then bd (psh H (92:UInt8)) λI=>some I else some H)<|λJ=>bd (idx bs ((G:Nat):Int)) λL=>bd (psh J L) λO=>some<|.next O)))
  (λk l=>l.length<=acc.length+2 * k) (λ_=>False) (n:=bs.length)
  (by
   intro k l hk hl
   left
   rw [ix_ hk,bd_some,a_h (by omega),bd_some]
   have key:∀f:Bool,∃s',(bd (α:=Bt) (if f then bd (psh l (92:UInt8)) λI=>some I else some l)<|λJ=>bd (some bs[k]) λL=>bd (psh J L) λO=>some<|Out.next (ρ:=Bt) O)=some (.next s')/\s'.length<=acc.length+2 * (k+1):=by
    intro f
    cases f with
    | true=>rw [iP_ rfl,Y_ (by omega),bd_some,bd_some,bd_some,Y_ (by simp;omega),bd_some];exact ⟨_,rfl,by simp;omega⟩
    | false=>rw [iN_ (by simp),bd_some,bd_some,Y_ (by omega),bd_some];exact ⟨_,rfl,by simp;omega⟩
   split
   .rw [bd_some];exact key true
   .rw [bd_some,bd_some];exact key _)
  bs.length 0 acc (by omega) (by omega) with ⟨l,e,hl⟩ | ⟨_,_,hf⟩
 .exact ⟨l,e,by omega⟩
 .exact hf.elim
theorem n_b {j:Nat}(h:j<=7):Bd j<=983040:=by
 unfold Bd;have:=Nat.pow_le_pow_right (show 0<4 by decide) h
 omega
theorem q_W {d:c_}(hd:DrE d)(h8:d.rules.length<=8):∀(j:Nat)(v:Val),Mk d j v->∀n,40+j<=n->∃l,f_B n d (j:Int) v=some l/\l.length<=Bd j:=by
 have hLIM:=a_7;intro j
 induction j using Nat.strongRecOn with
 | ind j ih =>
  intro v hv n hn;obtain ⟨m,rfl⟩:∃m,n=m+1:=⟨n - 1,by omega⟩;obtain ⟨a2,a3,hj,hch⟩:=hv.item;have hch:=hch hj;have hr:=hd.each j hj;have hB:=Bd_ge j;have a4:=n_b (j:=j) (by omega)
  show ∃l,b_S m (d_f m) d (j:Int) v=some l/\l.length<=Bd j
  unfold b_S
  rw [ix_ hj,bd_some]
  have hkid:∀(r':b_),DrR j r'->0<r'.kids.length->∃q,idx r'.kids 0=some q/\∃r2,idx d.rules q=some r2:=λr' hr' L=>by
   obtain ⟨c,hc,hcj⟩:=h_g hr' (t:=0) L;exact ⟨r'.kids[0],a_h L,d.rules[c],by rw [hc,ix_ (by omega)]⟩
  generalize d.rules[j]=r at hr hch
  rcases c_u (σ:=Bt) (ρ:=Bt) (body:=λJ=>(λV=>bd (idx v.items ((J:Nat):Int)) λW=>bd (b_r r v.number ((J:Nat):Int)) λY=>bd ((d_f m).spec_l11Print d Y W) λa0=>bd (app V a0) λa1=>some<|.next a1))
   (λk l=>4 * l.length<=k * Bd j) (λ_=>False) (n:=v.items.length)
   (by
    intro k l hk hl
    left
    obtain ⟨c,c1,O,c3⟩:=hch k hk;obtain ⟨q,e,hq⟩:=ih c O _ c3 m (by omega);have hbc:=Bd_lt O;have hkb:k * Bd j<=3 * Bd j:=Nat.mul_le_mul_right _ (by omega)
    rw [ix_ hk,bd_some,d_q hr.ok,bd_some,c1,show (d_f m).spec_l11Print d (c:Int) v.items[k]=some q from e,bd_some,a_T (by omega),bd_some]
    refine ⟨_,rfl,?_⟩;have h2:(k+1) * Bd j=k * Bd j+Bd j:=Nat.succ_mul _ _
    rw [List.length_append,h2];omega)
   v.items.length 0 [] (by omega) (by simp) with ⟨acc,e,ha⟩ | ⟨_,_,hf⟩
  .have hac:4 * acc.length<=3 * Bd j:=Nat.le_trans ha<|Nat.mul_le_mul_right _ a2
   rw [e,bd_some,el_inl]
   have hkk:r.kind=1∨r.kind=2∨r.kind=3∨r.kind=4∨r.kind=5∨r.kind=6∨r.kind=7∨r.kind=8∨r.kind=9∨r.kind=10:=by have:=hr.kind;omega
   rcases hkk with hk | hk | hk | hk | hk | hk | hk | hk | hk | hk
   .rw [hk,iP_ (by decide)]
    obtain ⟨l,G,hl⟩:=j_L r v.number (n:=m) (by omega)
    rw [G,bd_some];exact ⟨l,rfl,by omega⟩
   .have:=hr.bytes
    rw [hk,iN_ (by decide),iP_ (by decide),a_T (by simp;omega),bd_some];exact ⟨_,rfl,by simp;omega⟩
   .rw [hk,iN_ (by decide),iN_ (by decide),iN_ (by decide),iN_ (by decide),iN_ (by decide),iN_ (by decide),iN_ (by decide),iN_ (by decide),iP_ (by decide),a_T (by simp;omega),bd_some];exact ⟨_,rfl,by simp;omega⟩
   .obtain ⟨q,G,r2,H⟩:=hkid r hr (by have:=hr.k4 hk;omega);obtain ⟨l,I,hl⟩:=j_L r2 (v.bytes.length:Int) (n:=m) (by omega)
    rw [hk,iN_ (by decide),iN_ (by decide),iP_ (by decide),G,bd_some,H,bd_some,I,bd_some,a_T (by omega),bd_some];exact ⟨_,rfl,by simp;omega⟩
   .obtain ⟨q,G,r2,H⟩:=hkid r hr (by have:=hr.k5 hk;omega);obtain ⟨l,I,hl⟩:=j_L r2 (v.items.length:Int) (n:=m) (by omega)
    rw [hk,iN_ (by decide),iN_ (by decide),iN_ (by decide),iP_ (by decide),G,bd_some,H,bd_some,I,bd_some,a_T (by omega),bd_some];exact ⟨_,rfl,by simp;omega⟩
   .rw [hk,iN_ (by decide),iN_ (by decide),iN_ (by decide),iN_ (by decide),iN_ (by decide),iN_ (by decide),iN_ (by decide),iN_ (by decide),iN_ (by decide)];exact ⟨acc,rfl,by omega⟩
   .obtain ⟨q,G,r2,H⟩:=hkid r hr (by have:=(hr.k7 hk).1;omega);obtain ⟨l,I,hl⟩:=j_L r2 v.number (n:=m) (by omega)
    rw [hk,iN_ (by decide),iN_ (by decide),iN_ (by decide),iN_ (by decide),iP_ (by decide),G,bd_some,H,bd_some,I,bd_some,a_T (by omega),bd_some];exact ⟨_,rfl,by simp;omega⟩
   .rw [hk,iN_ (by decide),iN_ (by decide),iN_ (by decide),iN_ (by decide),iN_ (by decide),iP_ (by decide),a_T (by simp;omega),bd_some];exact ⟨_,rfl,by simp;omega⟩
   .rw [hk,iN_ (by decide),iN_ (by decide),iN_ (by decide),iN_ (by decide),iN_ (by decide),iN_ (by decide),iP_ (by decide),k_P,bd_some,Y_ (by omega),bd_some];exact ⟨_,rfl,by simp;omega⟩
   .have hbl:=hr.k10 hk;obtain ⟨l,G,hl⟩:=esc_ok (acc:=acc) a3 (by omega) hbl
    rw [hk,iN_ (by decide),iN_ (by decide),iN_ (by decide),iN_ (by decide),iN_ (by decide),iN_ (by decide),iN_ (by decide),iP_ (by decide),G,bd_some,el_inl,a_h (by omega),bd_some,Y_ (by omega),bd_some];exact ⟨_,rfl,by simp;omega⟩
  .exact hf.elim
end Go.Vw
