
import Derived.Test.YtllmonllbkaflaaGreatDoorVi
namespace Go.Vw
open Go.RowKit Dat
theorem o_Z {s:Int}(h1:1<=s)(h4:s<=4):d_A s=some (c_4 .i64 1<|8 * s):=by
 unfold d_A
 rw [d_x (by omega) (by omega),show nn (8 * s)=some () from by unfold nn;rw [iP_ (by omega)],bd_some]
theorem p_0 (x s:Int){n:Nat}(hn:10<=n):∃l,h_C n x s=some l/\l.length<=4:=by
 have hLIM:=a_m;unfold h_C
 rw [b_U,bd_some]
 by_cases hs:1<=s/\s<=4
 .rw [dT_ hs.1,dT_ hs.2,o_Z hs.1 hs.2]
  simp only [Bool.and_self,nT_,bF_,fF_,bd_some]
  rw [b_U,bd_some,bd_some]
  split
  .exact ⟨_,rfl,by simp⟩
  .obtain ⟨t,e,ht⟩:=g_1 (σ:=Bt×Int) (ρ:=Bt) (step:=un2 λH G=>if (decide<|0<=G) then bd (nn<|a_7 8 G) λO=>bd (psh H<|mkB<|c_m .i64 x<|a_7 8 G) λI=>some (.next (I,y_ G 1)) else some (.brk (H,G)))
    (λt=>-1<=t.2/\t.2<=3/\(t.1.length:Int)+t.2<=3) (λt=>(t.2+1).toNat) (λt=>t.1.length<=4)
    (by
     rintro ⟨l,k⟩ ⟨J,g1,L⟩
     simp only at J g1 L
     simp only [un2]
     by_cases hk:0<=k
     .left
      rw [dT_ hk,iP_ rfl,d_x (by omega) (by omega),show nn (8 * k)=some () from by unfold nn;rw [iP_ (by omega)],bd_some,a_s (by omega),bd_some,a_Y (by omega) (by omega)]
      exact ⟨_,rfl,⟨by simp only;omega,by simp only;omega,by simp;omega⟩,by simp only;omega⟩
     .right
      rw [dF_ hk]
      exact ⟨_,rfl,by simp only;omega⟩)
    n ([],y_ s 1) (by rw [a_Y (by omega) (by omega)];exact ⟨by simp only;omega,by simp only;omega,by simp;omega⟩) (by rw [a_Y (by omega) (by omega)];simp only;omega)
   obtain ⟨l,k⟩:=t
   rw [e]
   exact ⟨l,rfl,ht⟩
 .rw [show (decide (1<=s) && decide (s<=4))=false by simp;omega]
  exact ⟨_,rfl,by simp⟩
theorem t_N (x s:Int){n:Nat}(hn:10<=n):∃l,h_H n x s=some l/\l.length<=4:=by
 have hLIM:=a_m;obtain ⟨q,L,hq⟩:=p_0 x s hn;unfold h_H
 rw [L,bd_some]
 obtain ⟨t,e,ht⟩:=g_1 (σ:=Bt×Int) (ρ:=Bt) (step:=un2 λH G=>if (decide<|0<=G) then bd (idx q G) λI=>bd (psh H I) λJ=>some (.next (J,y_ G 1)) else some (.brk (H,G)))
  (λt=>-1<=t.2/\t.2<(q.length:Int)/\(t.1.length:Int)+t.2<=3) (λt=>(t.2+1).toNat) (λt=>t.1.length<=4)
  (by
   rintro ⟨l,k⟩ ⟨O,g1,V⟩
   simp only at O g1 V
   simp only [un2]
   by_cases hk:0<=k
   .left
    rw [dT_ hk,iP_ rfl,e_y hk (by omega),bd_some,a_s (by omega),bd_some,a_Y (by omega) (by omega)]
    exact ⟨_,rfl,⟨by simp only;omega,by simp only;omega,by simp;omega⟩,by simp only;omega⟩
   .right
    rw [dF_ hk]
    exact ⟨_,rfl,by simp only;omega⟩)
  n ([],y_ (q.length:Int) 1) (by rw [a_Y (by omega) (by omega)];exact ⟨by simp only;omega,by simp only;omega,by simp;omega⟩) (by rw [a_Y (by omega) (by omega)];simp only;omega)
 obtain ⟨l,k⟩:=t
 rw [e]
 exact ⟨l,rfl,ht⟩
theorem k_x (r:b_)(x:Int){n:Nat}(hn:10<=n):∃l,e_K n r x=some l/\l.length<=4:=by
 unfold e_K
 cases r.little with
 | true =>
  obtain ⟨l,e,hl⟩:=t_N x r.size hn
  rw [iP_ rfl,e,bd_some];exact ⟨l,rfl,hl⟩
 | false =>
  obtain ⟨l,e,hl⟩:=p_0 x r.size hn
  rw [iN_ (by simp),e,bd_some];exact ⟨l,rfl,hl⟩
def Bd (j:Nat):Nat:=60 * 4 ^ j
theorem Bd_lt {c j:Nat}(h:c<j):4 * Bd c<=Bd j:=by
 unfold Bd;have:=Nat.pow_le_pow_right (show 0<4 by decide) (show c+1<=j from h)
 rw [Nat.pow_succ] at this;omega
theorem Bd_ge (j:Nat):60<=Bd j:=by
 unfold Bd;have:=Nat.pow_le_pow_right (show 0<4 by decide)<|Nat.zero_le j
 omega
theorem Bd_le {j:Nat}(h:j<=5):Bd j<=61440:=by
 unfold Bd;have:=Nat.pow_le_pow_right (show 0<4 by decide) h
 omega
theorem Mk.item {d:c_}{j:Nat}{v:Val}(h:Mk d j v):v.items.length<=3/\v.bytes.length<=6/\j<d.rules.length/\∀(hj:j<d.rules.length) t (ht:t<v.items.length),∃c:Nat,X_ d.rules[j] v.number t=(c:Int)/\c<j/\Mk d c v.items[t]:=by
 cases h with
 | flat hj hi hb=>exact ⟨by rw [hi];simp,hb,hj,λ_ t ht=>by rw [hi] at ht;simp at ht⟩
 | node hj hn hb f hf ch=>exact ⟨hn,by rw [hb];simp,hj,λ_ t ht=>⟨f t,(hf t ht).1,(hf t ht).2,ch t ht⟩⟩
theorem esc_ok {t:UInt8}{bs acc:Bt}(hb:bs.length<=6)(ha:acc.length<=983040){r:b_}(hr:r.bytes.length=1) :
  ∃l,p_ (σ:=Bt) (ρ:=Bt) (λG=>(λH=>bd (α:=Bool) (bd (idx bs ((G:Nat):Int)) λV=>bd (idx r.bytes 0) λW=>if ((byteI V)==(byteI W)) then some true else bd (idx bs ((G:Nat):Int)) λY=>some<|(byteI Y)==(byteI (92:UInt8))) (λa0=>bd (α:=Bt) (if a0 then bd (psh H (92:UInt8)) λI=>some I else some H)<|λJ=>bd (idx bs ((G:Nat):Int)) λL=>bd (psh J L) λO=>some<|.next O))) bs.length 0 acc=some (.inl l)/\l.length<=acc.length+12:=by
 have hLIM:=a_m
 rcases d_r (σ:=Bt) (ρ:=Bt) (body:=λG=>(λH=>bd (α:=Bool) (bd (idx bs ((G:Nat):Int)) λV=>bd (idx r.bytes 0) λW=>if ((byteI V)==(byteI W)) then some true else bd (idx bs ((G:Nat):Int)) λY=>some<|(byteI Y)==(byteI (92:UInt8))) (λa0=>bd (α:=Bt) (if a0 then bd (psh H (92:UInt8)) λI=>some I else some H)<|λJ=>bd (idx bs ((G:Nat):Int)) λL=>bd (psh J L) λO=>some<|.next O)))
  (λk l=>l.length<=acc.length+2 * k) (λ_=>False) (n:=bs.length)
  (by
   intro k l hk hl
   left
   rw [ix_ hk,bd_some,a_M (by omega),bd_some]
   have key:∀f:Bool,∃s',(bd (α:=Bt) (if f then bd (psh l (92:UInt8)) λI=>some I else some l)<|λJ=>bd (some bs[k]) λL=>bd (psh J L) λO=>some<|Out.next (ρ:=Bt) O)=some (.next s')/\s'.length<=acc.length+2 * (k+1):=by
    intro f
    cases f with
    | true=>rw [iP_ rfl,a_s (by omega),bd_some,bd_some,bd_some,a_s (by simp;omega),bd_some];exact ⟨_,rfl,by simp;omega⟩
    | false=>rw [iN_ (by simp),bd_some,bd_some,a_s (by omega),bd_some];exact ⟨_,rfl,by simp;omega⟩
   split
   .rw [bd_some];exact key true
   .rw [bd_some,bd_some];exact key _)
  bs.length 0 acc (by omega) (by omega) with ⟨l,e,hl⟩ | ⟨_,_,hf⟩
 .exact ⟨l,e,by omega⟩
 .exact hf.elim
theorem Bd_leE {j:Nat}(h:j<=7):Bd j<=983040:=by
 unfold Bd;have:=Nat.pow_le_pow_right (show 0<4 by decide) h
 omega
theorem t_O {d:c_}(hd:DrE d)(h8:d.rules.length<=8):∀(j:Nat)(v:Val),Mk d j v->∀n,40+j<=n->∃l,l_4 n d (j:Int) v=some l/\l.length<=Bd j:=by
 have hLIM:=a_m;intro j
 induction j using Nat.strongRecOn with
 | ind j ih =>
  intro v hv n hn;obtain ⟨m,rfl⟩:∃m,n=m+1:=⟨n - 1,by omega⟩;obtain ⟨a2,a3,hj,hch⟩:=hv.item;have hch:=hch hj;have hr:=hd.each j hj;have hB:=Bd_ge j;have a4:=Bd_leE (j:=j) (by omega)
  show ∃l,h_I m (e_L m) d (j:Int) v=some l/\l.length<=Bd j
  unfold h_I
  rw [ix_ hj,bd_some]
  have hkid:∀(r':b_),DrR j r'->0<r'.kids.length->∃q,idx r'.kids 0=some q/\∃r2,idx d.rules q=some r2:=λr' hr' L=>by
   obtain ⟨c,hc,hcj⟩:=h_g hr' (t:=0) L;exact ⟨r'.kids[0],a_M L,d.rules[c],by rw [hc,ix_ (by omega)]⟩
  generalize d.rules[j]=r at hr hch
  rcases d_r (σ:=Bt) (ρ:=Bt) (body:=λJ=>(λV=>bd (idx v.items ((J:Nat):Int)) λW=>bd (b_9 r v.number ((J:Nat):Int)) λY=>bd ((e_L m).spec_l11Print d Y W) λa0=>bd (app V a0) λa1=>some<|.next a1))
   (λk l=>4 * l.length<=k * Bd j) (λ_=>False) (n:=v.items.length)
   (by
    intro k l hk hl
    left
    obtain ⟨c,c1,O,c3⟩:=hch k hk;obtain ⟨q,e,hq⟩:=ih c O _ c3 m (by omega);have hbc:=Bd_lt O;have hkb:k * Bd j<=3 * Bd j:=Nat.mul_le_mul_right _ (by omega)
    rw [ix_ hk,bd_some,c_D hr.ok,bd_some,c1,show (e_L m).spec_l11Print d (c:Int) v.items[k]=some q from e,bd_some,c_H (by omega),bd_some]
    refine ⟨_,rfl,?_⟩;have h2:(k+1) * Bd j=k * Bd j+Bd j:=Nat.succ_mul _ _
    rw [List.length_append,h2];omega)
   v.items.length 0 [] (by omega) (by simp) with ⟨acc,e,ha⟩ | ⟨_,_,hf⟩
  .have hac:4 * acc.length<=3 * Bd j:=Nat.le_trans ha<|Nat.mul_le_mul_right _ a2
   rw [e,bd_some,el_inl]
   have hkk:r.kind=1∨r.kind=2∨r.kind=3∨r.kind=4∨r.kind=5∨r.kind=6∨r.kind=7∨r.kind=8∨r.kind=9∨r.kind=10:=by have:=hr.kind;omega
   rcases hkk with hk | hk | hk | hk | hk | hk | hk | hk | hk | hk
   .rw [hk,iP_ (by decide)]
    obtain ⟨l,G,hl⟩:=k_x r v.number (n:=m) (by omega)
    rw [G,bd_some];exact ⟨l,rfl,by omega⟩
   .have:=hr.bytes
    rw [hk,iN_ (by decide),iP_ (by decide),c_H (by simp;omega),bd_some];exact ⟨_,rfl,by simp;omega⟩
   .rw [hk,iN_ (by decide),iN_ (by decide),iN_ (by decide),iN_ (by decide),iN_ (by decide),iN_ (by decide),iN_ (by decide),iN_ (by decide),iP_ (by decide),c_H (by simp;omega),bd_some];exact ⟨_,rfl,by simp;omega⟩
   .obtain ⟨q,G,r2,H⟩:=hkid r hr (by have:=hr.k4 hk;omega);obtain ⟨l,I,hl⟩:=k_x r2 (v.bytes.length:Int) (n:=m) (by omega)
    rw [hk,iN_ (by decide),iN_ (by decide),iP_ (by decide),G,bd_some,H,bd_some,I,bd_some,c_H (by omega),bd_some];exact ⟨_,rfl,by simp;omega⟩
   .obtain ⟨q,G,r2,H⟩:=hkid r hr (by have:=hr.k5 hk;omega);obtain ⟨l,I,hl⟩:=k_x r2 (v.items.length:Int) (n:=m) (by omega)
    rw [hk,iN_ (by decide),iN_ (by decide),iN_ (by decide),iP_ (by decide),G,bd_some,H,bd_some,I,bd_some,c_H (by omega),bd_some];exact ⟨_,rfl,by simp;omega⟩
   .rw [hk,iN_ (by decide),iN_ (by decide),iN_ (by decide),iN_ (by decide),iN_ (by decide),iN_ (by decide),iN_ (by decide),iN_ (by decide),iN_ (by decide)];exact ⟨acc,rfl,by omega⟩
   .obtain ⟨q,G,r2,H⟩:=hkid r hr (by have:=(hr.k7 hk).1;omega);obtain ⟨l,I,hl⟩:=k_x r2 v.number (n:=m) (by omega)
    rw [hk,iN_ (by decide),iN_ (by decide),iN_ (by decide),iN_ (by decide),iP_ (by decide),G,bd_some,H,bd_some,I,bd_some,c_H (by omega),bd_some];exact ⟨_,rfl,by simp;omega⟩
   .rw [hk,iN_ (by decide),iN_ (by decide),iN_ (by decide),iN_ (by decide),iN_ (by decide),iP_ (by decide),c_H (by simp;omega),bd_some];exact ⟨_,rfl,by simp;omega⟩
   .rw [hk,iN_ (by decide),iN_ (by decide),iN_ (by decide),iN_ (by decide),iN_ (by decide),iN_ (by decide),iP_ (by decide),o_l,bd_some,a_s (by omega),bd_some];exact ⟨_,rfl,by simp;omega⟩
   .have hbl:=hr.k10 hk;obtain ⟨l,G,hl⟩:=esc_ok (t:=0) (acc:=acc) a3 (by omega) hbl
    rw [hk,iN_ (by decide),iN_ (by decide),iN_ (by decide),iN_ (by decide),iN_ (by decide),iN_ (by decide),iN_ (by decide),iP_ (by decide),G,bd_some,el_inl,a_M (by omega),bd_some,a_s (by omega),bd_some];exact ⟨_,rfl,by simp;omega⟩
  .exact hf.elim
theorem t_P {d:c_}(hd:DrD d):∀(j:Nat)(v:Val),Mk d j v->∀n,40+j<=n->∃l,l_4 n d (j:Int) v=some l/\l.length<=Bd j:=t_O hd.e<|Nat.le_trans hd.few (by decide)
theorem t_Q {n:Nat}{r:b_}(h:DrR n r)(i:Nat)(hi:i<=1000000000):(a_0 r i).b.length<=40:=by
 unfold a_0;have:=i_o i hi
 split
 .simp only;omega
 .split
  .rename_i hc
   simp only [aE_,dE_] at hc
   rw [gD_,gG_ hc.2,Option.getD_some]
   exact h.names.2 _<|gE_ hc.2
  .split
   .simp
   .split
    .simp
    .split <;> simp
theorem t_R {d:c_}(hd:DrD d):∀(j:Nat)(v:Val),Mk d j v->∀n,40+j<=n->∀p:Str,p.b.length<=1000 - 41 * j->∃l,n_9 n d (j:Int) v p=some l/\l.length<=Bd j/\0<l.length/\∀s∈l,s.b.length<=p.b.length+41 * j:=by
 have hLIM:=a_m;intro j
 induction j using Nat.strongRecOn with
 | ind j ih =>
  intro v hv n hn p hp;obtain ⟨m,rfl⟩:∃m,n=m+1:=⟨n - 1,by omega⟩;obtain ⟨a3,a5,hj,hch⟩:=hv.item;have hch:=hch hj;have hr:=hd.each j hj;have hB:=Bd_ge j;have a4:j<=5:=by have:=hd.few;omega
  have a6:=Bd_le a4
  show ∃l,h_J m (e_M m) d (j:Int) v p=some l/\l.length<=Bd j/\0<l.length/\∀s∈l,s.b.length<=p.b.length+41 * j
  unfold h_J;have hidx:idx d.rules (j:Int)=some d.rules[j]:=ix_ hj;generalize d.rules[j]=r at hr hch hidx
  rcases d_r (σ:=List Str) (ρ:=List Str) (body:=λG=>(λL=>bd (idx d.rules (j:Int)) λH=>bd (idx v.items ((G:Nat):Int)) λO=>bd (cat p (⟨[47]⟩:Str)) λV=>bd (b_9 H v.number ((G:Nat):Int)) λW=>bd (e_6 m H ((G:Nat):Int)) λY=>bd (cat V Y) λa0=>bd ((e_M m).spec_l18Paths d W O a0) λa1=>bd (app L a1) λa2=>some<|.next a2))
   (λk l=>4 * l.length<=4+k * Bd j/\0<l.length/\∀s∈l,s.b.length<=p.b.length+41 * j) (λ_=>False) (n:=v.items.length)
   (by
    intro k l hk ⟨hl,I,hls⟩
    left
    obtain ⟨c,c1,J,c3⟩:=hch k hk;have hst:=t_Q hr k (by omega);obtain ⟨q,e,hq,a7,hqs⟩:=ih c J _ c3 m (by omega) ⟨(p.b++[47])++(a_0 r k).b⟩ (by simp;omega);have hbc:=Bd_lt J;have hkb:k * Bd j<=3 * Bd j:=Nat.mul_le_mul_right _ (by omega)
    rw [hidx,bd_some,ix_ hk,bd_some,a_6 (by simp;omega),bd_some,c_D hr.ok,bd_some,c1,i_p (by omega) r k (by omega),bd_some,a_6 (by simp;omega),bd_some]
    rw [show (e_M m).spec_l18Paths d (c:Int) v.items[k] ⟨(p.b++[47])++(a_0 r k).b⟩=some q from e,bd_some,c_H (by omega),bd_some]
    have h2:(k+1) * Bd j=k * Bd j+Bd j:=Nat.succ_mul _ _;refine ⟨_,rfl,by rw [List.length_append,h2];omega,by simp;omega,λs hs=>?_⟩
    rcases List.mem_append.1 hs with hs | hs
    .exact hls s hs
    .have h3:=hqs s hs
     simp only [List.length_append,lC_,List.length_nil] at h3
     have h4:41 * c+41<=41 * j:=by omega
     omega)
   v.items.length 0 [p] (by omega) ⟨by simp,by simp,λs hs=>(by rw [List.mem_singleton] at hs;subst hs;omega)⟩ with ⟨l,e,hl,I,hls⟩ | ⟨_,_,hf⟩
  .have hac:v.items.length * Bd j<=3 * Bd j:=Nat.mul_le_mul_right _ a3
   rw [e,bd_some,el_inl]
   exact ⟨l,rfl,by omega,I,hls⟩
  .exact hf.elim
end Go.Vw
