
import Derived.Test.YthlifogbkgdggaaGreatDoorVwP52
namespace Go.Vw
open Go.RowKit Dat
theorem m_N {s:Int}(h1:1<=s)(h4:s<=4):c_L s=some (b_8 .i64 1<|8 * s):=by
 unfold c_L
 rw [d_8 (by omega) (by omega),show nn (8 * s)=some () from by unfold nn;rw [iP_ (by omega)],bd_some]
theorem k_7 (x s:Int){n:Nat}(hn:10<=n):∃l,e_z n x s=some l/\l.length<=4:=by
 have hLIM:=a_v;unfold e_z
 rw [b_4,bd_some]
 by_cases hs:1<=s/\s<=4
 ·rw [dT_ hs.1,dT_ hs.2,m_N hs.1 hs.2]
  simp only [Bool.and_self,nT_,bF_,fF_,bd_some]
  rw [b_4,bd_some,bd_some]
  split
  ·exact ⟨_,rfl,by simp⟩
  ·obtain ⟨t,e,ht⟩:=d_A (σ:=(List UInt8)×Int) (ρ:=List UInt8) (step:=un2 fun H G=>if (decide<|0<=G)=true then bd (nn<|a_2 8 G) fun O=>bd (psh H<|mkB<|b_k .i64 x<|a_2 8 G) fun I=>some (.next (I,G_ G 1)) else some (.brk (H,G)))
    (fun t=>-1<=t.2/\t.2<=3/\(t.1.length:Int)+t.2<=3) (fun t=>(t.2+1).toNat) (fun t=>t.1.length<=4)
    (by
     rintro ⟨l,k⟩ ⟨J,g1,L⟩
     simp only at J g1 L
     simp only [un2]
     by_cases hk:0<=k
     ·left
      rw [dT_ hk,iP_ rfl,d_8 (by omega) (by omega),show nn (8 * k)=some () from by unfold nn;rw [iP_ (by omega)],bd_some,a_F (by omega),bd_some,a_y (by omega) (by omega)]
      exact ⟨_,rfl,⟨by simp only;omega,by simp only;omega,by simp;omega⟩,by simp only;omega⟩
     ·right
      rw [dF_ hk]
      exact ⟨_,rfl,by simp only;omega⟩)
    n ([],G_ s 1) (by rw [a_y (by omega) (by omega)];exact ⟨by simp only;omega,by simp only;omega,by simp;omega⟩) (by rw [a_y (by omega) (by omega)];simp only;omega)
   obtain ⟨l,k⟩:=t
   rw [e]
   exact ⟨l,rfl,ht⟩
 ·rw [show (decide (1<=s) && decide (s<=4))=false by simp;omega]
  exact ⟨_,rfl,by simp⟩
theorem m_O (x s:Int){n:Nat}(hn:10<=n):∃l,e_K n x s=some l/\l.length<=4:=by
 have hLIM:=a_v;obtain ⟨q,L,hq⟩:=k_7 x s hn;unfold e_K
 rw [L,bd_some]
 obtain ⟨t,e,ht⟩:=d_A (σ:=(List UInt8)×Int) (ρ:=List UInt8) (step:=un2 fun H G=>if (decide<|0<=G)=true then bd (idx q G) fun I=>bd (psh H I) fun J=>some (.next (J,G_ G 1)) else some (.brk (H,G)))
  (fun t=>-1<=t.2/\t.2<(q.length:Int)/\(t.1.length:Int)+t.2<=3) (fun t=>(t.2+1).toNat) (fun t=>t.1.length<=4)
  (by
   rintro ⟨l,k⟩ ⟨O,g1,V⟩
   simp only at O g1 V
   simp only [un2]
   by_cases hk:0<=k
   ·left
    rw [dT_ hk,iP_ rfl,d_a hk (by omega),bd_some,a_F (by omega),bd_some,a_y (by omega) (by omega)]
    exact ⟨_,rfl,⟨by simp only;omega,by simp only;omega,by simp;omega⟩,by simp only;omega⟩
   ·right
    rw [dF_ hk]
    exact ⟨_,rfl,by simp only;omega⟩)
  n ([],G_ (q.length:Int) 1) (by rw [a_y (by omega) (by omega)];exact ⟨by simp only;omega,by simp only;omega,by simp;omega⟩) (by rw [a_y (by omega) (by omega)];simp only;omega)
 obtain ⟨l,k⟩:=t
 rw [e]
 exact ⟨l,rfl,ht⟩
theorem g_Y (r:g_)(x:Int){n:Nat}(hn:10<=n):∃l,c_U n r x=some l/\l.length<=4:=by
 unfold c_U
 cases r.little with
 | true =>
  obtain ⟨l,e,hl⟩:=m_O x r.size hn
  rw [iP_ rfl,e,bd_some];exact ⟨l,rfl,hl⟩
 | false =>
  obtain ⟨l,e,hl⟩:=k_7 x r.size hn
  rw [iN_ (by simp),e,bd_some];exact ⟨l,rfl,hl⟩
def Bd (j:Nat):Nat:=60 * 4 ^ j
theorem Bd_lt {c j:Nat}(h:c<j):4 * Bd c<=Bd j:=by
 unfold Bd;have:=Nat.pow_le_pow_right (show 0<4 by decide) (show c+1<=j from h)
 rw [Nat.pow_succ] at this;omega
theorem Bd_ge (j:Nat):60<=Bd j:=by
 unfold Bd;have:=Nat.pow_le_pow_right (show 0<4 by decide)<|Nat.zero_le j
 omega
theorem Bd_le {j:Nat}(h:j<=5):Bd j<=61440:=by
 unfold Bd;have:=Nat.pow_le_pow_right (show 0<4 by decide) h
 omega
theorem Mk.item {d:d_}{j:Nat}{v:Val}(h:Mk d j v):v.items.length<=3/\v.bytes.length<=6/\j<d.rules.length/\∀(hj:j<d.rules.length) t (ht:t<v.items.length),∃c:Nat,a_c d.rules[j] v.number t=(c:Int)/\c<j/\Mk d c v.items[t]:=by
 cases h with
 | flat hj hi hb=>exact ⟨by rw [hi];simp,hb,hj,fun _ t ht=>by rw [hi] at ht;simp at ht⟩
 | node hj hn hb f hf ch=>exact ⟨hn,by rw [hb];simp,hj,fun _ t ht=>⟨f t,(hf t ht).1,(hf t ht).2,ch t ht⟩⟩
theorem esc_ok {t:UInt8}{bs acc:List UInt8}(hb:bs.length<=6)(ha:acc.length<=983040){r:g_}(hr:r.bytes.length=1) :
  ∃l,y_ (σ:=List UInt8) (ρ:=List UInt8) (fun G=>(fun H=>bd (α:=Bool) (bd (idx bs ((G:Nat):Int)) fun V=>bd (idx r.bytes 0) fun W=>if ((byteI V)==(byteI W))=true then some true else bd (idx bs ((G:Nat):Int)) fun Y=>some<|(byteI Y)==(byteI (92:UInt8))) (fun a0=>bd (α:=List UInt8) (if a0=true then bd (psh H (92:UInt8)) fun I=>some I else some H)<|fun J=>bd (idx bs ((G:Nat):Int)) fun L=>bd (psh J L) fun O=>some<|.next O))) bs.length 0 acc=some (.inl l)/\l.length<=acc.length+12:=by
 have hLIM:=a_v
 rcases e_b (σ:=List UInt8) (ρ:=List UInt8) (body:=fun G=>(fun H=>bd (α:=Bool) (bd (idx bs ((G:Nat):Int)) fun V=>bd (idx r.bytes 0) fun W=>if ((byteI V)==(byteI W))=true then some true else bd (idx bs ((G:Nat):Int)) fun Y=>some<|(byteI Y)==(byteI (92:UInt8))) (fun a0=>bd (α:=List UInt8) (if a0=true then bd (psh H (92:UInt8)) fun I=>some I else some H)<|fun J=>bd (idx bs ((G:Nat):Int)) fun L=>bd (psh J L) fun O=>some<|.next O)))
  (fun k l=>l.length<=acc.length+2 * k) (fun _=>False) (n:=bs.length)
  (by
   intro k l hk hl
   left
   rw [ix_ hk,bd_some,b_o (by omega),bd_some]
   have key:∀f:Bool,∃s',(bd (α:=List UInt8) (if f=true then bd (psh l (92:UInt8)) fun I=>some I else some l)<|fun J=>bd (some bs[k]) fun L=>bd (psh J L) fun O=>some<|Out.next (ρ:=List UInt8) O)=some (.next s')/\s'.length<=acc.length+2 * (k+1):=by
    intro f
    cases f with
    | true=>rw [iP_ rfl,a_F (by omega),bd_some,bd_some,bd_some,a_F (by simp;omega),bd_some];exact ⟨_,rfl,by simp;omega⟩
    | false=>rw [iN_ (by simp),bd_some,bd_some,a_F (by omega),bd_some];exact ⟨_,rfl,by simp;omega⟩
   split
   ·rw [bd_some];exact key true
   ·rw [bd_some,bd_some];exact key _)
  bs.length 0 acc (by omega) (by omega) with ⟨l,e,hl⟩ | ⟨_,_,hf⟩
 ·exact ⟨l,e,by omega⟩
 ·exact hf.elim
theorem Bd_leE {j:Nat}(h:j<=7):Bd j<=983040:=by
 unfold Bd;have:=Nat.pow_le_pow_right (show 0<4 by decide) h
 omega
theorem m_P {d:d_}(hd:DrE d)(h8:d.rules.length<=8):∀(j:Nat)(v:Val),Mk d j v->∀n,40+j<=n->∃l,h_s n d (j:Int) v=some l/\l.length<=Bd j:=by
 have hLIM:=a_v;intro j
 induction j using Nat.strongRecOn with
 | ind j ih =>
  intro v hv n hn;obtain ⟨m,rfl⟩:∃m,n=m+1:=⟨n - 1,by omega⟩;obtain ⟨a3,a4,hj,hch⟩:=hv.item;have hch:=hch hj;have hr:=hd.each j hj;have hB:=Bd_ge j;have a5:=Bd_leE (j:=j) (by omega)
  show ∃l,e_L m (c_V m) d (j:Int) v=some l/\l.length<=Bd j
  unfold e_L
  rw [ix_ hj,bd_some]
  have hkid:∀(r':g_),DrR j r'->0<r'.kids.length->∃q,idx r'.kids 0=some q/\∃H,idx d.rules q=some H:=fun r' hr' O=>by
   obtain ⟨c,hc,hcj⟩:=e_f hr' (t:=0) O;exact ⟨r'.kids[0],b_o O,d.rules[c],by rw [hc,ix_ (by omega)]⟩
  generalize d.rules[j]=r at hr hch
  rcases e_b (σ:=List UInt8) (ρ:=List UInt8) (body:=fun L=>(fun W=>bd (idx v.items ((L:Nat):Int)) fun Y=>bd (b_z r v.number ((L:Nat):Int)) fun a0=>bd ((c_V m).spec_l11Print d a0 Y) fun a1=>bd (app W a1) fun a2=>some<|.next a2))
   (fun k l=>4 * l.length<=k * Bd j) (fun _=>False) (n:=v.items.length)
   (by
    intro k l hk hl
    left
    obtain ⟨c,c1,V,c3⟩:=hch k hk;obtain ⟨q,e,hq⟩:=ih c V _ c3 m (by omega);have hbc:=Bd_lt V;have hkb:k * Bd j<=3 * Bd j:=Nat.mul_le_mul_right _ (by omega)
    rw [ix_ hk,bd_some,d_0 hr.ok,bd_some,c1,show (c_V m).spec_l11Print d (c:Int) v.items[k]=some q from e,bd_some,c_p (by omega),bd_some]
    refine ⟨_,rfl,?_⟩;have h2:(k+1) * Bd j=k * Bd j+Bd j:=Nat.succ_mul _ _
    rw [List.length_append,h2];omega)
   v.items.length 0 [] (by omega) (by simp) with ⟨acc,e,ha⟩ | ⟨_,_,hf⟩
  ·have hac:4 * acc.length<=3 * Bd j:=Nat.le_trans ha<|Nat.mul_le_mul_right _ a3
   rw [e,bd_some,el_inl]
   have hkk:r.kind=1∨r.kind=2∨r.kind=3∨r.kind=4∨r.kind=5∨r.kind=6∨r.kind=7∨r.kind=8∨r.kind=9∨r.kind=10:=by have:=hr.kind;omega
   rcases hkk with hk | hk | hk | hk | hk | hk | hk | hk | hk | hk
   ·rw [hk,iP_ (by decide)]
    obtain ⟨l,G,hl⟩:=g_Y r v.number (n:=m) (by omega)
    rw [G,bd_some];exact ⟨l,rfl,by omega⟩
   ·have:=hr.bytes
    rw [hk,iN_ (by decide),iP_ (by decide),c_p (by simp;omega),bd_some];exact ⟨_,rfl,by simp;omega⟩
   ·rw [hk,iN_ (by decide),iN_ (by decide),iN_ (by decide),iN_ (by decide),iN_ (by decide),iN_ (by decide),iN_ (by decide),iN_ (by decide),iP_ (by decide),c_p (by simp;omega),bd_some];exact ⟨_,rfl,by simp;omega⟩
   ·obtain ⟨q,G,H,I⟩:=hkid r hr (by have:=hr.k4 hk;omega);obtain ⟨l,J,hl⟩:=g_Y H (v.bytes.length:Int) (n:=m) (by omega)
    rw [hk,iN_ (by decide),iN_ (by decide),iP_ (by decide),G,bd_some,I,bd_some,J,bd_some,c_p (by omega),bd_some];exact ⟨_,rfl,by simp;omega⟩
   ·obtain ⟨q,G,H,I⟩:=hkid r hr (by have:=hr.k5 hk;omega);obtain ⟨l,J,hl⟩:=g_Y H (v.items.length:Int) (n:=m) (by omega)
    rw [hk,iN_ (by decide),iN_ (by decide),iN_ (by decide),iP_ (by decide),G,bd_some,I,bd_some,J,bd_some,c_p (by omega),bd_some];exact ⟨_,rfl,by simp;omega⟩
   ·rw [hk,iN_ (by decide),iN_ (by decide),iN_ (by decide),iN_ (by decide),iN_ (by decide),iN_ (by decide),iN_ (by decide),iN_ (by decide),iN_ (by decide)];exact ⟨acc,rfl,by omega⟩
   ·obtain ⟨q,G,H,I⟩:=hkid r hr (by have:=(hr.k7 hk).1;omega);obtain ⟨l,J,hl⟩:=g_Y H v.number (n:=m) (by omega)
    rw [hk,iN_ (by decide),iN_ (by decide),iN_ (by decide),iN_ (by decide),iP_ (by decide),G,bd_some,I,bd_some,J,bd_some,c_p (by omega),bd_some];exact ⟨_,rfl,by simp;omega⟩
   ·rw [hk,iN_ (by decide),iN_ (by decide),iN_ (by decide),iN_ (by decide),iN_ (by decide),iP_ (by decide),c_p (by simp;omega),bd_some];exact ⟨_,rfl,by simp;omega⟩
   ·rw [hk,iN_ (by decide),iN_ (by decide),iN_ (by decide),iN_ (by decide),iN_ (by decide),iN_ (by decide),iP_ (by decide),j_X,bd_some,a_F (by omega),bd_some];exact ⟨_,rfl,by simp;omega⟩
   ·have hbl:=hr.k10 hk;obtain ⟨l,G,hl⟩:=esc_ok (t:=0) (acc:=acc) a4 (by omega) hbl
    rw [hk,iN_ (by decide),iN_ (by decide),iN_ (by decide),iN_ (by decide),iN_ (by decide),iN_ (by decide),iN_ (by decide),iP_ (by decide),G,bd_some,el_inl,b_o (by omega),bd_some,a_F (by omega),bd_some];exact ⟨_,rfl,by simp;omega⟩
  ·exact hf.elim
theorem m_Q {d:d_}(hd:DrD d):∀(j:Nat)(v:Val),Mk d j v->∀n,40+j<=n->∃l,h_s n d (j:Int) v=some l/\l.length<=Bd j:=m_P hd.e<|Nat.le_trans hd.few (by decide)
end Go.Vw
