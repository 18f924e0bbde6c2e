
import Derived.Test.YtlmdniepgikmaaaGreatDoorVl
namespace Go.Vw
open Go.RowKit Dat
theorem n_s {s:Int}(h1:1<=s)(h4:s<=4):d_o s=some (b_O .i64 1<|8 * s):=by
 unfold d_o
 rw [d_H (by omega) (by omega),show nn (8 * s)=some () from by unfold nn;rw [iP_ (by omega)],bd_some]
theorem n_t (x s:Int){n:Nat}(hn:10<=n):∃l,g_6 n x s=some l/\l.length<=4:=by
 have hLIM:=a_O;unfold g_6
 rw [b_P,bd_some]
 by_cases hs:1<=s/\s<=4
 .rw [dT_ hs.1,dT_ hs.2,n_s hs.1 hs.2]
  simp only [Bool.and_self,nT_,bF_,fF_,bd_some]
  rw [b_P,bd_some,bd_some]
  split
  .exact ⟨_,rfl,by simp⟩
  .obtain ⟨t,e,ht⟩:=e_Z (σ:=Bt×Int) (ρ:=Bt) (step:=un2 λH G=>if (decide<|0<=G) then bd (nn<|a_a 8 G) λO=>bd (psh H<|mkB<|c_3 .i64 x<|a_a 8 G) λI=>some (.next (I,N_ G 1)) else some (.brk (H,G)))
    (λt=>-1<=t.2/\t.2<=3/\(t.1.length:Int)+t.2<=3) (λt=>(t.2+1).toNat) (λt=>t.1.length<=4)
    (by
     rintro ⟨l,k⟩ ⟨J,g1,L⟩
     simp only at J g1 L
     simp only [un2]
     by_cases hk:0<=k
     .left
      rw [dT_ hk,iP_ rfl,d_H (by omega) (by omega),show nn (8 * k)=some () from by unfold nn;rw [iP_ (by omega)],bd_some,a_Q (by omega),bd_some,a_Y (by omega) (by omega)]
      exact ⟨_,rfl,⟨by simp only;omega,by simp only;omega,by simp;omega⟩,by simp only;omega⟩
     .right
      rw [dF_ hk]
      exact ⟨_,rfl,by simp only;omega⟩)
    n ([],N_ s 1) (by rw [a_Y (by omega) (by omega)];exact ⟨by simp only;omega,by simp only;omega,by simp;omega⟩) (by rw [a_Y (by omega) (by omega)];simp only;omega)
   obtain ⟨l,k⟩:=t
   rw [e]
   exact ⟨l,rfl,ht⟩
 .rw [show (decide (1<=s) && decide (s<=4))=false by simp;omega]
  exact ⟨_,rfl,by simp⟩
theorem r_S (x s:Int){n:Nat}(hn:10<=n):∃l,g_j n x s=some l/\l.length<=4:=by
 have hLIM:=a_O;obtain ⟨q,L,hq⟩:=n_t x s hn;unfold g_j
 rw [L,bd_some]
 obtain ⟨t,e,ht⟩:=e_Z (σ:=Bt×Int) (ρ:=Bt) (step:=un2 λH G=>if (decide<|0<=G) then bd (idx q G) λI=>bd (psh H I) λJ=>some (.next (J,N_ G 1)) else some (.brk (H,G)))
  (λt=>-1<=t.2/\t.2<(q.length:Int)/\(t.1.length:Int)+t.2<=3) (λt=>(t.2+1).toNat) (λt=>t.1.length<=4)
  (by
   rintro ⟨l,k⟩ ⟨O,g1,V⟩
   simp only at O g1 V
   simp only [un2]
   by_cases hk:0<=k
   .left
    rw [dT_ hk,iP_ rfl,d_I hk (by omega),bd_some,a_Q (by omega),bd_some,a_Y (by omega) (by omega)]
    exact ⟨_,rfl,⟨by simp only;omega,by simp only;omega,by simp;omega⟩,by simp only;omega⟩
   .right
    rw [dF_ hk]
    exact ⟨_,rfl,by simp only;omega⟩)
  n ([],N_ (q.length:Int) 1) (by rw [a_Y (by omega) (by omega)];exact ⟨by simp only;omega,by simp only;omega,by simp;omega⟩) (by rw [a_Y (by omega) (by omega)];simp only;omega)
 obtain ⟨l,k⟩:=t
 rw [e]
 exact ⟨l,rfl,ht⟩
theorem j_i (r:d_)(x:Int){n:Nat}(hn:10<=n):∃l,e_0 n r x=some l/\l.length<=4:=by
 unfold e_0
 cases r.little with
 | true =>
  obtain ⟨l,e,hl⟩:=r_S x r.size hn
  rw [iP_ rfl,e,bd_some];exact ⟨l,rfl,hl⟩
 | false =>
  obtain ⟨l,e,hl⟩:=n_t x r.size hn
  rw [iN_ (by simp),e,bd_some];exact ⟨l,rfl,hl⟩
def Bd (j:Nat):Nat:=60 * 4 ^ j
theorem Bd_lt {c j:Nat}(h:c<j):4 * Bd c<=Bd j:=by
 unfold Bd;have:=Nat.pow_le_pow_right (show 0<4 by decide) (show c+1<=j from h)
 rw [Nat.pow_succ] at this;omega
theorem Bd_ge (j:Nat):60<=Bd j:=by
 unfold Bd;have:=Nat.pow_le_pow_right (show 0<4 by decide)<|Nat.zero_le j
 omega
theorem j_j {j:Nat}(h:j<=5):Bd j<=61440:=by
 unfold Bd;have:=Nat.pow_le_pow_right (show 0<4 by decide) h
 omega
theorem Mk.item {d:f_}{j:Nat}{v:Val}(h:Mk d j v):v.items.length<=3/\v.bytes.length<=6/\j<d.rules.length/\∀(hj:j<d.rules.length) t (ht:t<v.items.length),∃c:Nat,a_8 d.rules[j] v.number t=(c:Int)/\c<j/\Mk d c v.items[t]:=by
 cases h with
 | flat hj hi hb=>exact ⟨by rw [hi];simp,hb,hj,λ_ t ht=>by rw [hi] at ht;simp at ht⟩
 | node hj hn hb f hf ch=>exact ⟨hn,by rw [hb];simp,hj,λ_ t ht=>⟨f t,(hf t ht).1,(hf t ht).2,ch t ht⟩⟩
theorem esc_ok {t:UInt8}{bs acc:Bt}(hb:bs.length<=6)(ha:acc.length<=983040){r:d_}(hr:r.bytes.length=1) :
  ∃l,F_ (σ:=Bt) (ρ:=Bt) (λG=>(λH=>bd (α:=Bool) (bd (idx bs ((G:Nat):Int)) λV=>bd (idx r.bytes 0) λW=>if ((byteI V)==(byteI W)) then some true else bd (idx bs ((G:Nat):Int)) λY=>some<|(byteI Y)==(byteI (92:UInt8))) (λa0=>bd (α:=Bt) (if a0 then bd (psh H (92:UInt8)) λI=>some I else some H)<|λJ=>bd (idx bs ((G:Nat):Int)) λL=>bd (psh J L) λO=>some<|.next O))) bs.length 0 acc=some (.inl l)/\l.length<=acc.length+12:=by
 have hLIM:=a_O
 rcases c_O (σ:=Bt) (ρ:=Bt) (body:=λG=>(λH=>bd (α:=Bool) (bd (idx bs ((G:Nat):Int)) λV=>bd (idx r.bytes 0) λW=>if ((byteI V)==(byteI W)) then some true else bd (idx bs ((G:Nat):Int)) λY=>some<|(byteI Y)==(byteI (92:UInt8))) (λa0=>bd (α:=Bt) (if a0 then bd (psh H (92:UInt8)) λI=>some I else some H)<|λJ=>bd (idx bs ((G:Nat):Int)) λL=>bd (psh J L) λO=>some<|.next O)))
  (λk l=>l.length<=acc.length+2 * k) (λ_=>False) (n:=bs.length)
  (by
   intro k l hk hl
   left
   rw [ix_ hk,bd_some,a_Z (by omega),bd_some]
   have key:∀f:Bool,∃s',(bd (α:=Bt) (if f then bd (psh l (92:UInt8)) λI=>some I else some l)<|λJ=>bd (some bs[k]) λL=>bd (psh J L) λO=>some<|Out.next (ρ:=Bt) O)=some (.next s')/\s'.length<=acc.length+2 * (k+1):=by
    intro f
    cases f with
    | true=>rw [iP_ rfl,a_Q (by omega),bd_some,bd_some,bd_some,a_Q (by simp;omega),bd_some];exact ⟨_,rfl,by simp;omega⟩
    | false=>rw [iN_ (by simp),bd_some,bd_some,a_Q (by omega),bd_some];exact ⟨_,rfl,by simp;omega⟩
   split
   .rw [bd_some];exact key true
   .rw [bd_some,bd_some];exact key _)
  bs.length 0 acc (by omega) (by omega) with ⟨l,e,hl⟩ | ⟨_,_,hf⟩
 .exact ⟨l,e,by omega⟩
 .exact hf.elim
theorem Bd_leE {j:Nat}(h:j<=7):Bd j<=983040:=by
 unfold Bd;have:=Nat.pow_le_pow_right (show 0<4 by decide) h
 omega
theorem r_T {d:f_}(hd:DrE d)(h8:d.rules.length<=8):∀(j:Nat)(v:Val),Mk d j v->∀n,40+j<=n->∃l,e_R n d (j:Int) v=some l/\l.length<=Bd j:=by
 have hLIM:=a_O;intro j
 induction j using Nat.strongRecOn with
 | ind j ih =>
  intro v hv n hn;obtain ⟨m,rfl⟩:∃m,n=m+1:=⟨n - 1,by omega⟩;obtain ⟨a3,a4,hj,hch⟩:=hv.item;have hch:=hch hj;have hr:=hd.each j hj;have hB:=Bd_ge j;have a5:=Bd_leE (j:=j) (by omega)
  show ∃l,g_k m (e_1 m) d (j:Int) v=some l/\l.length<=Bd j
  unfold g_k
  rw [ix_ hj,bd_some]
  have hkid:∀(r':d_),DrR j r'->0<r'.kids.length->∃q,idx r'.kids 0=some q/\∃H,idx d.rules q=some H:=λr' hr' O=>by
   obtain ⟨c,hc,hcj⟩:=e_p hr' (t:=0) O;exact ⟨r'.kids[0],a_Z O,d.rules[c],by rw [hc,ix_ (by omega)]⟩
  generalize d.rules[j]=r at hr hch
  rcases c_O (σ:=Bt) (ρ:=Bt) (body:=λL=>(λW=>bd (idx v.items ((L:Nat):Int)) λY=>bd (b_m r v.number ((L:Nat):Int)) λa0=>bd ((e_1 m).spec_l11Print d a0 Y) λa1=>bd (app W a1) λa2=>some<|.next a2))
   (λk l=>4 * l.length<=k * Bd j) (λ_=>False) (n:=v.items.length)
   (by
    intro k l hk hl
    left
    obtain ⟨c,c1,V,c3⟩:=hch k hk;obtain ⟨q,e,hq⟩:=ih c V _ c3 m (by omega);have hbc:=Bd_lt V;have hkb:k * Bd j<=3 * Bd j:=Nat.mul_le_mul_right _ (by omega)
    rw [ix_ hk,bd_some,c_Q hr.ok,bd_some,c1,show (e_1 m).spec_l11Print d (c:Int) v.items[k]=some q from e,bd_some,c_u (by omega),bd_some]
    refine ⟨_,rfl,?_⟩;have h2:(k+1) * Bd j=k * Bd j+Bd j:=Nat.succ_mul _ _
    rw [List.length_append,h2];omega)
   v.items.length 0 [] (by omega) (by simp) with ⟨acc,e,ha⟩ | ⟨_,_,hf⟩
  .have hac:4 * acc.length<=3 * Bd j:=Nat.le_trans ha<|Nat.mul_le_mul_right _ a3
   rw [e,bd_some,el_inl]
   have hkk:r.kind=1∨r.kind=2∨r.kind=3∨r.kind=4∨r.kind=5∨r.kind=6∨r.kind=7∨r.kind=8∨r.kind=9∨r.kind=10:=by have:=hr.kind;omega
   rcases hkk with hk | hk | hk | hk | hk | hk | hk | hk | hk | hk
   .rw [hk,iP_ (by decide)]
    obtain ⟨l,G,hl⟩:=j_i r v.number (n:=m) (by omega)
    rw [G,bd_some];exact ⟨l,rfl,by omega⟩
   .have:=hr.bytes
    rw [hk,iN_ (by decide),iP_ (by decide),c_u (by simp;omega),bd_some];exact ⟨_,rfl,by simp;omega⟩
   .rw [hk,iN_ (by decide),iN_ (by decide),iN_ (by decide),iN_ (by decide),iN_ (by decide),iN_ (by decide),iN_ (by decide),iN_ (by decide),iP_ (by decide),c_u (by simp;omega),bd_some];exact ⟨_,rfl,by simp;omega⟩
   .obtain ⟨q,G,H,I⟩:=hkid r hr (by have:=hr.k4 hk;omega);obtain ⟨l,J,hl⟩:=j_i H (v.bytes.length:Int) (n:=m) (by omega)
    rw [hk,iN_ (by decide),iN_ (by decide),iP_ (by decide),G,bd_some,I,bd_some,J,bd_some,c_u (by omega),bd_some];exact ⟨_,rfl,by simp;omega⟩
   .obtain ⟨q,G,H,I⟩:=hkid r hr (by have:=hr.k5 hk;omega);obtain ⟨l,J,hl⟩:=j_i H (v.items.length:Int) (n:=m) (by omega)
    rw [hk,iN_ (by decide),iN_ (by decide),iN_ (by decide),iP_ (by decide),G,bd_some,I,bd_some,J,bd_some,c_u (by omega),bd_some];exact ⟨_,rfl,by simp;omega⟩
   .rw [hk,iN_ (by decide),iN_ (by decide),iN_ (by decide),iN_ (by decide),iN_ (by decide),iN_ (by decide),iN_ (by decide),iN_ (by decide),iN_ (by decide)];exact ⟨acc,rfl,by omega⟩
   .obtain ⟨q,G,H,I⟩:=hkid r hr (by have:=(hr.k7 hk).1;omega);obtain ⟨l,J,hl⟩:=j_i H v.number (n:=m) (by omega)
    rw [hk,iN_ (by decide),iN_ (by decide),iN_ (by decide),iN_ (by decide),iP_ (by decide),G,bd_some,I,bd_some,J,bd_some,c_u (by omega),bd_some];exact ⟨_,rfl,by simp;omega⟩
   .rw [hk,iN_ (by decide),iN_ (by decide),iN_ (by decide),iN_ (by decide),iN_ (by decide),iP_ (by decide),c_u (by simp;omega),bd_some];exact ⟨_,rfl,by simp;omega⟩
   .rw [hk,iN_ (by decide),iN_ (by decide),iN_ (by decide),iN_ (by decide),iN_ (by decide),iN_ (by decide),iP_ (by decide),m_X,bd_some,a_Q (by omega),bd_some];exact ⟨_,rfl,by simp;omega⟩
   .have hbl:=hr.k10 hk;obtain ⟨l,G,hl⟩:=esc_ok (t:=0) (acc:=acc) a4 (by omega) hbl
    rw [hk,iN_ (by decide),iN_ (by decide),iN_ (by decide),iN_ (by decide),iN_ (by decide),iN_ (by decide),iN_ (by decide),iP_ (by decide),G,bd_some,el_inl,a_Z (by omega),bd_some,a_Q (by omega),bd_some];exact ⟨_,rfl,by simp;omega⟩
  .exact hf.elim
theorem l_9 {d:f_}(hd:DrD d):∀(j:Nat)(v:Val),Mk d j v->∀n,40+j<=n->∃l,e_R n d (j:Int) v=some l/\l.length<=Bd j:=r_T hd.e<|Nat.le_trans hd.few (by decide)
theorem r_U {n:Nat}{r:d_}(h:DrR n r)(i:Nat)(hi:i<=1000000000):(a_c r i).b.length<=40:=by
 unfold a_c;have:=g_V i hi
 split
 .simp only;omega
 .split
  .rename_i hc
   simp only [aE_,dE_] at hc
   rw [gD_,gG_ hc.2,Option.getD_some]
   exact h.names.2 _<|gE_ hc.2
  .split
   .simp
   .split
    .simp
    .split <;> simp
theorem r_V {d:f_}(hd:DrD d):∀(j:Nat)(v:Val),Mk d j v->∀n,40+j<=n->∀p:Str,p.b.length<=1000 - 41 * j->∃l,m_1 n d (j:Int) v p=some l/\l.length<=Bd j/\0<l.length/\∀s∈l,s.b.length<=p.b.length+41 * j:=by
 have hLIM:=a_O;intro j
 induction j using Nat.strongRecOn with
 | ind j ih =>
  intro v hv n hn p hp;obtain ⟨m,rfl⟩:∃m,n=m+1:=⟨n - 1,by omega⟩;obtain ⟨a3,a5,hj,hch⟩:=hv.item;have hch:=hch hj;have hr:=hd.each j hj;have hB:=Bd_ge j;have a4:j<=5:=by have:=hd.few;omega
  have a6:=j_j a4
  show ∃l,g_l m (e_2 m) d (j:Int) v p=some l/\l.length<=Bd j/\0<l.length/\∀s∈l,s.b.length<=p.b.length+41 * j
  unfold g_l;have hidx:idx d.rules (j:Int)=some d.rules[j]:=ix_ hj;generalize d.rules[j]=r at hr hch hidx
  rcases c_O (σ:=List Str) (ρ:=List Str) (body:=λG=>(λL=>bd (idx d.rules (j:Int)) λH=>bd (idx v.items ((G:Nat):Int)) λO=>bd (cat p (⟨[47]⟩:Str)) λV=>bd (b_m H v.number ((G:Nat):Int)) λW=>bd (d_p m H ((G:Nat):Int)) λY=>bd (cat V Y) λa0=>bd ((e_2 m).spec_l18Paths d W O a0) λa1=>bd (app L a1) λa2=>some<|.next a2))
   (λk l=>4 * l.length<=4+k * Bd j/\0<l.length/\∀s∈l,s.b.length<=p.b.length+41 * j) (λ_=>False) (n:=v.items.length)
   (by
    intro k l hk ⟨hl,I,hls⟩
    left
    obtain ⟨c,c1,J,c3⟩:=hch k hk;have hst:=r_U hr k (by omega);obtain ⟨q,e,hq,a7,hqs⟩:=ih c J _ c3 m (by omega) ⟨(p.b++[47])++(a_c r k).b⟩ (by simp;omega);have hbc:=Bd_lt J;have hkb:k * Bd j<=3 * Bd j:=Nat.mul_le_mul_right _ (by omega)
    rw [hidx,bd_some,ix_ hk,bd_some,e_s (by simp;omega),bd_some,c_Q hr.ok,bd_some,c1,g_W (by omega) r k (by omega),bd_some,e_s (by simp;omega),bd_some]
    rw [show (e_2 m).spec_l18Paths d (c:Int) v.items[k] ⟨(p.b++[47])++(a_c r k).b⟩=some q from e,bd_some,c_u (by omega),bd_some]
    have h2:(k+1) * Bd j=k * Bd j+Bd j:=Nat.succ_mul _ _;refine ⟨_,rfl,by rw [List.length_append,h2];omega,by simp;omega,λs hs=>?_⟩
    rcases List.mem_append.1 hs with hs | hs
    .exact hls s hs
    .have h3:=hqs s hs
     simp only [List.length_append,lC_,List.length_nil] at h3
     have h4:41 * c+41<=41 * j:=by omega
     omega)
   v.items.length 0 [p] (by omega) ⟨by simp,by simp,λs hs=>(by rw [List.mem_singleton] at hs;subst hs;omega)⟩ with ⟨l,e,hl,I,hls⟩ | ⟨_,_,hf⟩
  .have hac:v.items.length * Bd j<=3 * Bd j:=Nat.mul_le_mul_right _ a3
   rw [e,bd_some,el_inl]
   exact ⟨l,rfl,by omega,I,hls⟩
  .exact hf.elim
end Go.Vw
