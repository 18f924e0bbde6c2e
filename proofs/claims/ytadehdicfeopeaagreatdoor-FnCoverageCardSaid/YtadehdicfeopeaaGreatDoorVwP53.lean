
import Derived.Test.YtadehdicfeopeaaGreatDoorVwP52
namespace Go.Vw
open Go.RowKit Dat
theorem l_Q {s:Int}(h1:1<=s)(h4:s<=4):c_Z s=some (b_v .i64 1<|8 * s):=by
 unfold c_Z
 rw [c_V (by omega) (by omega),show nn (8 * s)=some () from by unfold nn;rw [iP_ (by omega)],bd_some]
theorem l_R (x s:Int){n:Nat}(hn:10<=n):∃l,f_e n x s=some l/\l.length<=4:=by
 have hLIM:=a_p;unfold f_e
 rw [b_w,bd_some]
 by_cases hs:1<=s/\s<=4
 ·rw [dT_ hs.1,dT_ hs.2,l_Q hs.1 hs.2]
  simp only [Bool.and_self,nT_,bF_,fF_,bd_some]
  rw [b_w,bd_some,bd_some]
  split
  ·exact ⟨_,rfl,by simp⟩
  ·obtain ⟨t,e,ht⟩:=c_R (σ:=(List UInt8)×Int) (ρ:=List UInt8) (step:=un2 fun H G=>if (decide<|0<=G)=true then bd (nn<|a_1 8 G) fun O=>bd (psh H<|mkB<|c_5 .i64 x<|a_1 8 G) fun I=>some (.next (I,L_ G 1)) else some (.brk (H,G)))
    (fun t=>-1<=t.2/\t.2<=3/\(t.1.length:Int)+t.2<=3) (fun t=>(t.2+1).toNat) (fun t=>t.1.length<=4)
    (by
     rintro ⟨l,k⟩ ⟨J,g1,L⟩
     simp only at J g1 L
     simp only [un2]
     by_cases hk:0<=k
     ·left
      rw [dT_ hk,iP_ rfl,c_V (by omega) (by omega),show nn (8 * k)=some () from by unfold nn;rw [iP_ (by omega)],bd_some,a_s (by omega),bd_some,a_L (by omega) (by omega)]
      exact ⟨_,rfl,⟨by simp only;omega,by simp only;omega,by simp;omega⟩,by simp only;omega⟩
     ·right
      rw [dF_ hk]
      exact ⟨_,rfl,by simp only;omega⟩)
    n ([],L_ s 1) (by rw [a_L (by omega) (by omega)];exact ⟨by simp only;omega,by simp only;omega,by simp;omega⟩) (by rw [a_L (by omega) (by omega)];simp only;omega)
   obtain ⟨l,k⟩:=t
   rw [e]
   exact ⟨l,rfl,ht⟩
 ·rw [show (decide (1<=s) && decide (s<=4))=false by simp;omega]
  exact ⟨_,rfl,by simp⟩
theorem p_H (x s:Int){n:Nat}(hn:10<=n):∃l,f_v n x s=some l/\l.length<=4:=by
 have hLIM:=a_p;obtain ⟨q,L,hq⟩:=l_R x s hn;unfold f_v
 rw [L,bd_some]
 obtain ⟨t,e,ht⟩:=c_R (σ:=(List UInt8)×Int) (ρ:=List UInt8) (step:=un2 fun H G=>if (decide<|0<=G)=true then bd (idx q G) fun I=>bd (psh H I) fun J=>some (.next (J,L_ G 1)) else some (.brk (H,G)))
  (fun t=>-1<=t.2/\t.2<(q.length:Int)/\(t.1.length:Int)+t.2<=3) (fun t=>(t.2+1).toNat) (fun t=>t.1.length<=4)
  (by
   rintro ⟨l,k⟩ ⟨O,g1,V⟩
   simp only at O g1 V
   simp only [un2]
   by_cases hk:0<=k
   ·left
    rw [dT_ hk,iP_ rfl,c_8 hk (by omega),bd_some,a_s (by omega),bd_some,a_L (by omega) (by omega)]
    exact ⟨_,rfl,⟨by simp only;omega,by simp only;omega,by simp;omega⟩,by simp only;omega⟩
   ·right
    rw [dF_ hk]
    exact ⟨_,rfl,by simp only;omega⟩)
  n ([],L_ (q.length:Int) 1) (by rw [a_L (by omega) (by omega)];exact ⟨by simp only;omega,by simp only;omega,by simp;omega⟩) (by rw [a_L (by omega) (by omega)];simp only;omega)
 obtain ⟨l,k⟩:=t
 rw [e]
 exact ⟨l,rfl,ht⟩
theorem i_z (r:e_)(x:Int){n:Nat}(hn:10<=n):∃l,d_u n r x=some l/\l.length<=4:=by
 unfold d_u
 cases r.little with
 | true =>
  obtain ⟨l,e,hl⟩:=p_H x r.size hn
  rw [iP_ rfl,e,bd_some];exact ⟨l,rfl,hl⟩
 | false =>
  obtain ⟨l,e,hl⟩:=l_R x r.size hn
  rw [iN_ (by simp),e,bd_some];exact ⟨l,rfl,hl⟩
def Bd (j:Nat):Nat:=60 * 4 ^ j
theorem Bd_lt {c j:Nat}(h:c<j):4 * Bd c<=Bd j:=by
 unfold Bd;have:=Nat.pow_le_pow_right (show 0<4 by decide) (show c+1<=j from h)
 rw [Nat.pow_succ] at this;omega
theorem Bd_ge (j:Nat):60<=Bd j:=by
 unfold Bd;have:=Nat.pow_le_pow_right (show 0<4 by decide)<|Nat.zero_le j
 omega
theorem k_5 {j:Nat}(h:j<=5):Bd j<=61440:=by
 unfold Bd;have:=Nat.pow_le_pow_right (show 0<4 by decide) h
 omega
theorem Mk.item {d:d_}{j:Nat}{v:Val}(h:Mk d j v):v.items.length<=3/\v.bytes.length<=6/\j<d.rules.length/\∀(hj:j<d.rules.length) t (ht:t<v.items.length),∃c:Nat,a_4 d.rules[j] v.number t=(c:Int)/\c<j/\Mk d c v.items[t]:=by
 cases h with
 | flat hj hi hb=>exact ⟨by rw [hi];simp,hb,hj,fun _ t ht=>by rw [hi] at ht;simp at ht⟩
 | node hj hn hb f hf ch=>exact ⟨hn,by rw [hb];simp,hj,fun _ t ht=>⟨f t,(hf t ht).1,(hf t ht).2,ch t ht⟩⟩
theorem esc_ok {t:UInt8}{bs acc:List UInt8}(hb:bs.length<=6)(ha:acc.length<=61440){r:e_}(hr:r.bytes.length=1) :
  ∃l,x_ (σ:=List UInt8) (ρ:=List UInt8) (fun G=>(fun H=>bd (α:=Bool) (bd (idx bs ((G:Nat):Int)) fun V=>bd (idx r.bytes 0) fun W=>if ((byteI V)==(byteI W))=true then some true else bd (idx bs ((G:Nat):Int)) fun Y=>some<|(byteI Y)==(byteI (92:UInt8))) (fun a0=>bd (α:=List UInt8) (if a0=true then bd (psh H (92:UInt8)) fun I=>some I else some H)<|fun J=>bd (idx bs ((G:Nat):Int)) fun L=>bd (psh J L) fun O=>some<|.next O))) bs.length 0 acc=some (.inl l)/\l.length<=acc.length+12:=by
 have hLIM:=a_p
 rcases c_p (σ:=List UInt8) (ρ:=List UInt8) (body:=fun G=>(fun H=>bd (α:=Bool) (bd (idx bs ((G:Nat):Int)) fun V=>bd (idx r.bytes 0) fun W=>if ((byteI V)==(byteI W))=true then some true else bd (idx bs ((G:Nat):Int)) fun Y=>some<|(byteI Y)==(byteI (92:UInt8))) (fun a0=>bd (α:=List UInt8) (if a0=true then bd (psh H (92:UInt8)) fun I=>some I else some H)<|fun J=>bd (idx bs ((G:Nat):Int)) fun L=>bd (psh J L) fun O=>some<|.next O)))
  (fun k l=>l.length<=acc.length+2 * k) (fun _=>False) (n:=bs.length)
  (by
   intro k l hk hl
   left
   rw [ix_ hk,bd_some,b_b (by omega),bd_some]
   have key:∀f:Bool,∃s',(bd (α:=List UInt8) (if f=true then bd (psh l (92:UInt8)) fun I=>some I else some l)<|fun J=>bd (some bs[k]) fun L=>bd (psh J L) fun O=>some<|Out.next (ρ:=List UInt8) O)=some (.next s')/\s'.length<=acc.length+2 * (k+1):=by
    intro f
    cases f with
    | true=>rw [iP_ rfl,a_s (by omega),bd_some,bd_some,bd_some,a_s (by simp;omega),bd_some];exact ⟨_,rfl,by simp;omega⟩
    | false=>rw [iN_ (by simp),bd_some,bd_some,a_s (by omega),bd_some];exact ⟨_,rfl,by simp;omega⟩
   split
   ·rw [bd_some];exact key true
   ·rw [bd_some,bd_some];exact key _)
  bs.length 0 acc (by omega) (by omega) with ⟨l,e,hl⟩ | ⟨_,_,hf⟩
 ·exact ⟨l,e,by omega⟩
 ·exact hf.elim
theorem l_S {d:d_}(hd:DrD d):∀(j:Nat)(v:Val),Mk d j v->∀n,40+j<=n->∃l,f_x n d (j:Int) v=some l/\l.length<=Bd j:=by
 have hLIM:=a_p;intro j
 induction j using Nat.strongRecOn with
 | ind j ih =>
  intro v hv n hn;obtain ⟨m,rfl⟩:∃m,n=m+1:=⟨n - 1,by omega⟩;obtain ⟨a3,a4,hj,hch⟩:=hv.item;have hch:=hch hj;have hr:=hd.each j hj;have hB:=Bd_ge j;have a5:=k_5 (j:=j) (by have:=hd.few;omega)
  show ∃l,f_w m (d_v m) d (j:Int) v=some l/\l.length<=Bd j
  unfold f_w
  rw [ix_ hj,bd_some]
  have hkid:∀(r':e_),DrR j r'->0<r'.kids.length->∃q,idx r'.kids 0=some q/\∃H,idx d.rules q=some H:=fun r' hr' O=>by
   obtain ⟨c,hc,hcj⟩:=d_J hr' (t:=0) O;exact ⟨r'.kids[0],b_b O,d.rules[c],by rw [hc,ix_ (by omega)]⟩
  generalize d.rules[j]=r at hr hch
  rcases c_p (σ:=List UInt8) (ρ:=List UInt8) (body:=fun L=>(fun W=>bd (idx v.items ((L:Nat):Int)) fun Y=>bd (b_l r v.number ((L:Nat):Int)) fun a0=>bd ((d_v m).spec_l11Print d a0 Y) fun a1=>bd (app W a1) fun a2=>some<|.next a2))
   (fun k l=>4 * l.length<=k * Bd j) (fun _=>False) (n:=v.items.length)
   (by
    intro k l hk hl
    left
    obtain ⟨c,c1,V,c3⟩:=hch k hk;obtain ⟨q,e,hq⟩:=ih c V _ c3 m (by omega);have hbc:=Bd_lt V;have hkb:k * Bd j<=3 * Bd j:=Nat.mul_le_mul_right _ (by omega)
    rw [ix_ hk,bd_some,d_j hr.ok,bd_some,c1,show (d_v m).spec_l11Print d (c:Int) v.items[k]=some q from e,bd_some,c_W (by omega),bd_some]
    refine ⟨_,rfl,?_⟩;have h2:(k+1) * Bd j=k * Bd j+Bd j:=Nat.succ_mul _ _
    rw [List.length_append,h2];omega)
   v.items.length 0 [] (by omega) (by simp) with ⟨acc,e,ha⟩ | ⟨_,_,hf⟩
  ·have hac:4 * acc.length<=3 * Bd j:=Nat.le_trans ha<|Nat.mul_le_mul_right _ a3
   rw [e,bd_some,el_inl]
   have hkk:r.kind=1∨r.kind=2∨r.kind=3∨r.kind=4∨r.kind=5∨r.kind=6∨r.kind=7∨r.kind=8∨r.kind=9∨r.kind=10:=by have:=hr.kind;omega
   rcases hkk with hk | hk | hk | hk | hk | hk | hk | hk | hk | hk
   ·rw [hk,iP_ (by decide)]
    obtain ⟨l,G,hl⟩:=i_z r v.number (n:=m) (by omega)
    rw [G,bd_some];exact ⟨l,rfl,by omega⟩
   ·have:=hr.bytes
    rw [hk,iN_ (by decide),iP_ (by decide),c_W (by simp;omega),bd_some];exact ⟨_,rfl,by simp;omega⟩
   ·rw [hk,iN_ (by decide),iN_ (by decide),iN_ (by decide),iN_ (by decide),iN_ (by decide),iN_ (by decide),iN_ (by decide),iN_ (by decide),iP_ (by decide),c_W (by simp;omega),bd_some];exact ⟨_,rfl,by simp;omega⟩
   ·obtain ⟨q,G,H,I⟩:=hkid r hr (by have:=hr.k4 hk;omega);obtain ⟨l,J,hl⟩:=i_z H (v.bytes.length:Int) (n:=m) (by omega)
    rw [hk,iN_ (by decide),iN_ (by decide),iP_ (by decide),G,bd_some,I,bd_some,J,bd_some,c_W (by omega),bd_some];exact ⟨_,rfl,by simp;omega⟩
   ·obtain ⟨q,G,H,I⟩:=hkid r hr (by have:=hr.k5 hk;omega);obtain ⟨l,J,hl⟩:=i_z H (v.items.length:Int) (n:=m) (by omega)
    rw [hk,iN_ (by decide),iN_ (by decide),iN_ (by decide),iP_ (by decide),G,bd_some,I,bd_some,J,bd_some,c_W (by omega),bd_some];exact ⟨_,rfl,by simp;omega⟩
   ·rw [hk,iN_ (by decide),iN_ (by decide),iN_ (by decide),iN_ (by decide),iN_ (by decide),iN_ (by decide),iN_ (by decide),iN_ (by decide),iN_ (by decide)];exact ⟨acc,rfl,by omega⟩
   ·obtain ⟨q,G,H,I⟩:=hkid r hr (by have:=(hr.k7 hk).1;omega);obtain ⟨l,J,hl⟩:=i_z H v.number (n:=m) (by omega)
    rw [hk,iN_ (by decide),iN_ (by decide),iN_ (by decide),iN_ (by decide),iP_ (by decide),G,bd_some,I,bd_some,J,bd_some,c_W (by omega),bd_some];exact ⟨_,rfl,by simp;omega⟩
   ·rw [hk,iN_ (by decide),iN_ (by decide),iN_ (by decide),iN_ (by decide),iN_ (by decide),iP_ (by decide),c_W (by simp;omega),bd_some];exact ⟨_,rfl,by simp;omega⟩
   ·rw [hk,iN_ (by decide),iN_ (by decide),iN_ (by decide),iN_ (by decide),iN_ (by decide),iN_ (by decide),iP_ (by decide),l_F,bd_some,a_s (by omega),bd_some];exact ⟨_,rfl,by simp;omega⟩
   ·have hbl:=hr.k10 hk;obtain ⟨l,G,hl⟩:=esc_ok (t:=0) (acc:=acc) a4 (by omega) hbl
    rw [hk,iN_ (by decide),iN_ (by decide),iN_ (by decide),iN_ (by decide),iN_ (by decide),iN_ (by decide),iN_ (by decide),iP_ (by decide),G,bd_some,el_inl,b_b (by omega),bd_some,a_s (by omega),bd_some];exact ⟨_,rfl,by simp;omega⟩
  ·exact hf.elim
end Go.Vw
