
import Derived.Test.YtbhbfaljeoeciaaGreatDoorVa
namespace Go.Vw
open Go.RowKit Dat
def Own (rs:List g_)(r:g_)(v:Val):Prop :=
 (r.kind=1/\0<=v.number/\v.number<=256 ^ r.size.toNat - 1/\v.bytes=[]/\v.items=[]) ∨
 (r.kind=2/\v.number=0/\v.bytes=[]/\v.items=[]) ∨
 (r.kind=3/\v.number=0/\(v.bytes.length:Int)=r.size/\v.items=[]) ∨
 (r.kind=4/\v.number=0/\(v.bytes.length:Int)<=400/\(v.bytes.length:Int)<=lim rs (s_ r)/\v.items=[]) ∨
 (r.kind=10/\v.number=0/\(v.bytes.length:Int)<=400/\v.items=[]) ∨
 (r.kind=5/\v.number=0/\v.bytes=[]/\(v.items.length:Int)<=40/\(v.items.length:Int)<=lim rs (s_ r)) ∨
 (r.kind=6/\v.number=0/\v.bytes=[]/\v.items.length=r.kids.length) ∨
 (r.kind=7/\0<=v.number/\v.number<=lim rs (s_ r)/\v.bytes=[]/\v.items.length=1/\0<=N_ r v.number 0) ∨
 (r.kind=8/\v.number=0/\v.bytes=[]/\v.items.length<=1) ∨
 (r.kind=9/\v.number=0/\v.bytes=[]/\v.items.length=1)
theorem i_T {b:List UInt8}{r:g_}{p:Nat}{n:Int}(hr:d_O r)(h:a_a b r p=some n):0<=n/\n<=256 ^ r.size.toNat - 1:=by
 obtain ⟨_,h1,h4⟩:=hr;unfold a_a at h
 split at h
 ·cases h
 ·rename_i hc
  obtain rfl:=Option.some.inj h;have hl:(a_U b p<|p+r.size.toNat).length=r.size.toNat:=by rw [d_t (by omega)];omega
  unfold d_s
  have key:∀l:List UInt8,l.length=r.size.toNat->0<=l.foldl b_v 0/\l.foldl b_v 0<=256 ^ r.size.toNat - 1:=by
   intro l hl;have:=m_p l
   rw [hl] at this
   omega
  split
  ·exact key _ (by simpa using hl)
  ·exact key _ hl
theorem e_n {rs:List g_}{k:Int}(h:0<lim rs k):d_O (H_ rs k)/\lim rs k=256 ^ (H_ rs k).size.toNat - 1:=by
 unfold lim at *
 cases hk:idx rs k with
 | none=>rw [hk] at h;exact absurd h (by decide)
 | some r =>
  rw [hk] at h
  simp only at h ⊢
  have hr:H_ rs k=r:=by
   unfold idx at hk
   split at hk
   ·unfold H_;rw [gD_,hk];rfl
   ·cases hk
  split at h
  ·rename_i hc
   rw [hr,iP_ hc]
   exact ⟨⟨hc.1,hc.2.1,hc.2.2⟩,rfl⟩
  ·exact absurd h (by decide)
theorem f_d {rd:Int->Nat->RR}:∀(ks:List Int)(p:Nat),(a_2 rd ks p).2.2=0->(a_2 rd ks p).1.length=ks.length
 | [],p,_=>rfl
 | k::ks,p,h=>by
  unfold a_2 at *
  by_cases G:(rd k p).2.2=0
  ·rw [iP_ G] at *
   by_cases h1:(a_2 rd ks (rd k p).2.1).2.2=0
   ·rw [iP_ h1] at *
    simp only [lC_]
    rw [f_d ks _ h1]
   ·rw [iN_ h1] at h;exact absurd h h1
  ·rw [iN_ G] at h;exact absurd h G
theorem g_I {b:List UInt8}{r:g_}{num:Int}{at_:Nat}{x:List Val×Nat×Int}:(a_Q b r num at_ x).1.bytes=[]:=by
 unfold a_Q
 split
 ·split
  ·split
   ·rfl
   ·split <;> rfl
  ·rfl
 ·rfl
section
variable {d:c_}{b:List UInt8}
theorem own_rd (hv:a_7 d=true)(hb:b.length<=400){i:Nat}(hi:i<d.rules.length){p:Nat}(hp:p<=b.length)(hok:(rdW d.rules b i p).2.2=0):Own d.rules d.rules[i] (rdW d.rules b i p).1:=by
 have hr:=b_w hv hi;have hby:=m_v hv hi hp;have hle:=c_N (b:=b) hv i hi p hp
 rw [f_c hv hi hp] at *
 have hal:=d_Q hr.kind;have hkk:=hr.kids;have hkind:=hr.kind;generalize d.rules[i]=r at *
 have hbl:((rdB d.rules b r p<|fun k p=>rdW d.rules b k.toNat p).1.bytes.length:Int)<=400:=by omega
 unfold rdB at *
 have hcase:r.kind=1∨r.kind=2∨r.kind=3∨r.kind=4∨r.kind=5∨r.kind=6∨r.kind=7∨r.kind=8∨r.kind=9∨r.kind=10:=by omega
 rcases hcase with h | h | h | h | h | h | h | h | h | h
 ·rw [h] at hok hbl ⊢
  simp only [bQ_,fT_] at hok hbl ⊢
  cases hq:a_a b r p with
  | none=>rw [hq] at hok;cases hok
  | some n =>
   have:=i_T (c_u hkind h) hq;exact .inl ⟨h,this.1,this.2,rfl,rfl⟩
 ·rw [h]
  exact .inr<|.inl ⟨h,rfl,rfl,rfl⟩
 ·rw [h] at hok hbl ⊢
  simp only [Int.reduceBEq,bF_,fF_,bQ_,fT_] at hok hbl ⊢
  have hs:=d_u hkind h;unfold a_E at hok ⊢
  split at hok
  ·cases hok
  ·rename_i hc
   rw [iN_ hc]
   exact .inr (.inr (.inl ⟨h,rfl,by show ((a_U b p<|p+r.size.toNat).length:Int)=r.size;rw [d_t (by omega)];omega,rfl⟩))
 ·rw [h] at hok hbl ⊢
  simp only [Int.reduceBEq,bF_,fF_,bQ_,fT_] at hok hbl ⊢
  obtain ⟨hl,_⟩:=d_v hkind h;obtain ⟨hint,hlim⟩:=e_n hl
  cases hq:a_a b (H_ d.rules<|s_ r) p with
  | none=>rw [hq] at hok;cases hok
  | some n =>
   have hn:=i_T hint hq;have hrg:=c_K hint hq
   rw [hq] at hok hbl
   simp only at hok hbl ⊢
   unfold a_E at hok hbl ⊢
   split at hok
   ·cases hok
   ·rename_i hc
    rw [iN_ hc] at hbl ⊢
    refine .inr<|.inr<|.inr<|.inl ⟨h,rfl,hbl,?_,rfl⟩
    show ((a_U b (p+(H_ d.rules<|s_ r).size.toNat)<|p+(H_ d.rules<|s_ r).size.toNat+n.toNat).length:Int)<=lim d.rules (s_ r)
    rw [d_t (by omega),hlim];omega
 ·rw [h] at hok ⊢
  simp only [Int.reduceBEq,bF_,fF_] at hok ⊢
  obtain ⟨hl,_⟩:=c_v hkind h;obtain ⟨hint,hlim⟩:=e_n hl;unfold a_j at hok ⊢
  rw [h] at hok ⊢
  simp only [bQ_,fT_] at hok ⊢
  cases hq:a_a b (H_ d.rules<|s_ r) p with
  | none=>rw [hq] at hok;cases hok
  | some n =>
   have hn:=i_T hint hq
   rw [hq] at hok
   simp only at hok ⊢
   by_cases I:40<n
   ·rw [iP_ I] at hok;cases hok
   ·rw [iN_ I] at hok
    rw [iN_ I]
    simp only at hok ⊢
    obtain ⟨H,G,f3⟩:=g_B hok (fun J=>by omega);have hlen:=f_d _ _ f3
    rw [List.length_replicate] at hlen
    exact .inr<|.inr<|.inr<|.inr<|.inr (.inl ⟨h,G,g_I,by rw [H,hlen];omega,by rw [H,hlen,hlim];omega⟩)
 ·rw [h] at hok ⊢
  simp only [Int.reduceBEq,bF_,fF_] at hok ⊢
  unfold a_j at hok ⊢
  rw [h] at hok ⊢
  simp only [Int.reduceBEq,bF_,fF_,bQ_,fT_] at hok ⊢
  obtain ⟨H,G,f3⟩:=g_B hok (fun J=>by omega);exact .inr<|.inr<|.inr<|.inr<|.inr<|.inr (.inl ⟨h,G,g_I,by rw [H,f_d _ _ f3]⟩)
 ·rw [h] at hok ⊢
  simp only [Int.reduceBEq,bF_,fF_] at hok ⊢
  obtain ⟨hl,hkl,_,_⟩:=c_M hkind h;obtain ⟨hint,hlim⟩:=e_n hl;unfold a_j at hok ⊢
  rw [h] at hok ⊢
  simp only [Int.reduceBEq,bF_,fF_,bQ_,fT_] at hok ⊢
  cases hq:a_a b (H_ d.rules<|s_ r) p with
  | none=>rw [hq] at hok;cases hok
  | some n =>
   have hn:=i_T hint hq
   rw [hq] at hok
   simp only at hok ⊢
   cases ht:b_6 r.tags n with
   | none=>rw [ht] at hok;cases hok
   | some k =>
    rw [ht] at hok
    simp only at hok ⊢
    obtain ⟨H,G,f3⟩:=g_B hok (fun J=>by omega);have hlen:=f_d _ _ f3;have hkt:=i_S ht;refine .inr<|.inr<|.inr<|.inr<|.inr<|.inr<|.inr (.inl ⟨h,by rw [G];exact hn.1,by rw [G,hlim];exact hn.2,g_I,by rw [H,hlen];rfl,?_⟩)
    rw [G]
    unfold N_
    rw [h,ht]
    simp only [Int.reduceBEq,bF_,fF_,bQ_,fT_]
    exact (hkk _<|c_w (by omega)).1
 ·rw [h] at hok ⊢
  simp only [Int.reduceBEq,bF_,fF_] at hok ⊢
  unfold a_j at hok ⊢
  rw [h] at hok ⊢
  simp only [Int.reduceBEq,bF_,fF_,bQ_,fT_] at hok ⊢
  cases hq:b[p]? with
  | none=>rw [hq] at hok;cases hok
  | some c =>
   rw [hq] at hok
   simp only at hok ⊢
   by_cases h1:1<byteI c
   ·rw [iP_ h1] at hok;cases hok
   ·rw [iN_ h1] at hok
    rw [iN_ h1]
    simp only at hok ⊢
    obtain ⟨H,G,f3⟩:=g_B hok (fun J=>by omega);have hlen:=f_d _ _ f3
    rw [List.length_replicate] at hlen
    have hc:c.toNat<=1:=by unfold byteI at h1;omega
    exact .inr<|.inr<|.inr<|.inr<|.inr<|.inr<|.inr<|.inr (.inl ⟨h,G,g_I,by rw [H,hlen];exact hc⟩)
 ·rw [h] at hok ⊢
  simp only [Int.reduceBEq,bF_,fF_] at hok ⊢
  unfold a_j at hok ⊢
  rw [h] at hok ⊢
  simp only [Int.reduceBEq,bF_,fF_] at hok ⊢
  obtain ⟨H,G,f3⟩:=g_B hok<|fun _=>rfl;exact .inr<|.inr<|.inr<|.inr<|.inr<|.inr<|.inr<|.inr (.inr ⟨h,G,g_I,by rw [H,f_d _ _ f3];rfl⟩)
 ·rw [h] at hok hbl ⊢
  simp only [Int.reduceBEq,bF_,fF_,bQ_,fT_] at hok hbl ⊢
  cases hq:c_t b p (r.bytes.getD 0 0) with
  | none=>rw [hq] at hok;cases hok
  | some x =>
   obtain ⟨c,q⟩:=x
   rw [hq] at hbl
   exact .inr<|.inr<|.inr<|.inr<|.inl ⟨h,rfl,hbl,rfl⟩
theorem m_G {rd:Int->Nat->RR}{L:Nat}:∀{ks:List Int}{p:Nat}{vs:List Val}{e:Nat},f_f rd L ks p vs e->vs.length=ks.length/\∀m (hm:m<ks.length) (hm':m<vs.length),∃q,q<=L/\(rd ks[m] q).2.2=0/\vs[m]=(rd ks[m] q).1
 | [],p,vs,e,h=>⟨by rw [h.1];rfl,fun m hm=>by simp at hm⟩
 | k::ks,p,vs,e,h=>by
  obtain ⟨h1,h2,ws,rfl,h3⟩:=h;obtain ⟨G,H⟩:=m_G h3;refine ⟨by simp [G],fun m hm hm'=>?_⟩
  cases m with
  | zero=>exact ⟨p,h1,h2,rfl⟩
  | succ m=>exact H m (by simpa using hm) (by simpa using hm')
theorem q_g (hv:a_7 d=true){i:Nat}(hi:i<d.rules.length){p:Nat}(hp:p<=b.length)(hok:(rdW d.rules b i p).2.2=0):∀j (hj:j<(rdW d.rules b i p).1.items.length),∃k q:Nat,N_ d.rules[i] (rdW d.rules b i p).1.number j=(k:Int)/\k<i/\q<=b.length/\(rdW d.rules b k q).2.2=0/\(rdW d.rules b i p).1.items[j]=(rdW d.rules b k q).1:=by
 obtain ⟨ks,e,h⟩:=k_c hv hi hp hok;have hr:=b_w hv hi;obtain ⟨L,G⟩:=m_G h.ch;intro j hj;have hjk:j<ks.length:=by omega
 obtain ⟨q,H,I,J⟩:=G j hjk hj;have hk:=hr.kids _<|h.kids _<|gE_ hjk;refine ⟨ks[j].toNat,q,?_,by omega,H,I,J⟩
 rw [h.item j hjk];omega
end
end Go.Vw
