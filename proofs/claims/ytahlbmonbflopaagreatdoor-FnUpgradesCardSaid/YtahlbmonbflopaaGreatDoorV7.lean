
import Derived.Test.YtahlbmonbflopaaGreatDoorV6
namespace Go.Vw
open Go.RowKit Dat
def Own (rs:List b_)(r:b_)(v:Val):Prop :=
 (r.kind=1/\0<=v.number/\v.number<=256 ^ r.size.toNat - 1/\v.bytes=[]/\v.items=[]) ∨
 (r.kind=2/\v.number=0/\v.bytes=[]/\v.items=[]) ∨
 (r.kind=3/\v.number=0/\(v.bytes.length:Int)=r.size/\v.items=[]) ∨
 (r.kind=4/\v.number=0/\(v.bytes.length:Int)<=400/\(v.bytes.length:Int)<=lim rs (o_ r)/\v.items=[]) ∨
 (r.kind=10/\v.number=0/\(v.bytes.length:Int)<=400/\v.items=[]) ∨
 (r.kind=5/\v.number=0/\v.bytes=[]/\(v.items.length:Int)<=40/\(v.items.length:Int)<=lim rs (o_ r)) ∨
 (r.kind=6/\v.number=0/\v.bytes=[]/\v.items.length=r.kids.length) ∨
 (r.kind=7/\0<=v.number/\v.number<=lim rs (o_ r)/\v.bytes=[]/\v.items.length=1/\0<=P_ r v.number 0) ∨
 (r.kind=8/\v.number=0/\v.bytes=[]/\v.items.length<=1) ∨
 (r.kind=9/\v.number=0/\v.bytes=[]/\v.items.length=1)
theorem j_O {b:Bt}{r:b_}{p:Nat}{n:Int}(hr:d_p r)(h:a_k b r p=some n):0<=n/\n<=256 ^ r.size.toNat - 1:=by
 obtain ⟨_,h1,h4⟩:=hr;unfold a_k at h
 split at h
 .cases h
 .rename_i hc
  obtain rfl:=Option.some.inj h;have hl:(b_5 b p<|p+r.size.toNat).length=r.size.toNat:=by rw [d_Y (by omega)];omega
  unfold d_o
  have key:∀l:Bt,l.length=r.size.toNat->0<=l.foldl b_n 0/\l.foldl b_n 0<=256 ^ r.size.toNat - 1:=by
   intro l hl;have:=m_T l
   rw [hl] at this
   omega
  split
  .exact key _ (by simpa using hl)
  .exact key _ hl
theorem i_n {rs:List b_}{k:Int}(h:0<lim rs k):d_p (O_ rs k)/\lim rs k=256 ^ (O_ rs k).size.toNat - 1:=by
 unfold lim at *
 cases hk:idx rs k with
 | none=>rw [hk] at h;exact absurd h (by decide)
 | some r =>
  rw [hk] at h
  simp only at h ⊢
  have hr:O_ rs k=r:=by
   unfold idx at hk
   split at hk
   .unfold O_;rw [gD_,hk];rfl
   .cases hk
  split at h
  .rename_i hc
   rw [hr,iP_ hc]
   exact ⟨⟨hc.1,hc.2.1,hc.2.2⟩,rfl⟩
  .exact absurd h (by decide)
theorem h_h {rd:Int->Nat->RR}:∀(ks:List Int)(p:Nat),(a_c rd ks p).2.2=0->(a_c rd ks p).1.length=ks.length
 | [],p,_=>rfl
 | k::ks,p,h=>by
  unfold a_c at *
  by_cases G:(rd k p).2.2=0
  .rw [iP_ G] at *
   by_cases h1:(a_c rd ks (rd k p).2.1).2.2=0
   .rw [iP_ h1] at *
    simp only [lC_]
    rw [h_h ks _ h1]
   .rw [iN_ h1] at h;exact absurd h h1
  .rw [iN_ G] at h;exact absurd h G
theorem i_o {b:Bt}{r:b_}{num:Int}{at_:Nat}{x:List Val×Nat×Int}:(a_W b r num at_ x).1.bytes=[]:=by
 unfold a_W
 split
 .split
  .split
   .rfl
   .split <;> rfl
  .rfl
 .rfl
section
variable {d:c_}{b:Bt}
theorem n_s (hv:R_ d=true)(hb:b.length<=400){i:Nat}(hi:i<d.rules.length){p:Nat}(hp:p<=b.length)(hok:(rdW d.rules b i p).2.2=0):Own d.rules d.rules[i] (rdW d.rules b i p).1:=by
 have hr:=a_S hv hi;have hby:=m_Z hv hi hp;have hle:=d_7 (b:=b) hv i hi p hp
 rw [h_d hv hi hp] at *
 have hal:=d_Z hr.kind;have hkk:=hr.kids;have hkind:=hr.kind;generalize d.rules[i]=r at *
 have hbl:((rdB d.rules b r p<|λk p=>rdW d.rules b k.toNat p).1.bytes.length:Int)<=400:=by omega
 unfold rdB at *
 have hcase:r.kind=1∨r.kind=2∨r.kind=3∨r.kind=4∨r.kind=5∨r.kind=6∨r.kind=7∨r.kind=8∨r.kind=9∨r.kind=10:=by omega
 rcases hcase with h | h | h | h | h | h | h | h | h | h
 .rw [h] at hok hbl ⊢
  simp only [bQ_,fT_] at hok hbl ⊢
  cases hq:a_k b r p with
  | none=>rw [hq] at hok;cases hok
  | some n =>
   have:=j_O (c_J hkind h) hq;exact .inl ⟨h,this.1,this.2,rfl,rfl⟩
 .rw [h]
  exact .inr<|.inl ⟨h,rfl,rfl,rfl⟩
 .rw [h] at hok hbl ⊢
  simp only [Int.reduceBEq,bF_,fF_,bQ_,fT_] at hok hbl ⊢
  have hs:=d_s hkind h;unfold a_R at hok ⊢
  split at hok
  .cases hok
  .rename_i hc
   rw [iN_ hc]
   exact .inr (.inr (.inl ⟨h,rfl,by show ((b_5 b p<|p+r.size.toNat).length:Int)=r.size;rw [d_Y (by omega)];omega,rfl⟩))
 .rw [h] at hok hbl ⊢
  simp only [Int.reduceBEq,bF_,fF_,bQ_,fT_] at hok hbl ⊢
  obtain ⟨hl,_⟩:=d_6 hkind h;obtain ⟨hint,hlim⟩:=i_n hl
  cases hq:a_k b (O_ d.rules<|o_ r) p with
  | none=>rw [hq] at hok;cases hok
  | some n =>
   have hn:=j_O hint hq;have hrg:=d_4 hint hq
   rw [hq] at hok hbl
   simp only at hok hbl ⊢
   unfold a_R at hok hbl ⊢
   split at hok
   .cases hok
   .rename_i hc
    rw [iN_ hc] at hbl ⊢
    refine .inr<|.inr<|.inr<|.inl ⟨h,rfl,hbl,?_,rfl⟩
    show ((b_5 b (p+(O_ d.rules<|o_ r).size.toNat)<|p+(O_ d.rules<|o_ r).size.toNat+n.toNat).length:Int)<=lim d.rules (o_ r)
    rw [d_Y (by omega),hlim];omega
 .rw [h] at hok ⊢
  simp only [Int.reduceBEq,bF_,fF_] at hok ⊢
  obtain ⟨hl,_⟩:=c_5 hkind h;obtain ⟨hint,hlim⟩:=i_n hl;unfold a_r at hok ⊢
  rw [h] at hok ⊢
  simp only [bQ_,fT_] at hok ⊢
  cases hq:a_k b (O_ d.rules<|o_ r) p with
  | none=>rw [hq] at hok;cases hok
  | some n =>
   have hn:=j_O hint hq
   rw [hq] at hok
   simp only at hok ⊢
   by_cases I:40<n
   .rw [iP_ I] at hok;cases hok
   .rw [iN_ I] at hok
    rw [iN_ I]
    simp only at hok ⊢
    obtain ⟨H,G,f3⟩:=i_h hok (λJ=>by omega);have hlen:=h_h _ _ f3
    rw [List.length_replicate] at hlen
    exact .inr<|.inr<|.inr<|.inr<|.inr (.inl ⟨h,G,i_o,by rw [H,hlen];omega,by rw [H,hlen,hlim];omega⟩)
 .rw [h] at hok ⊢
  simp only [Int.reduceBEq,bF_,fF_] at hok ⊢
  unfold a_r at hok ⊢
  rw [h] at hok ⊢
  simp only [Int.reduceBEq,bF_,fF_,bQ_,fT_] at hok ⊢
  obtain ⟨H,G,f3⟩:=i_h hok (λJ=>by omega);exact .inr<|.inr<|.inr<|.inr<|.inr<|.inr (.inl ⟨h,G,i_o,by rw [H,h_h _ _ f3]⟩)
 .rw [h] at hok ⊢
  simp only [Int.reduceBEq,bF_,fF_] at hok ⊢
  obtain ⟨hl,hkl,_,_⟩:=c_6 hkind h;obtain ⟨hint,hlim⟩:=i_n hl;unfold a_r at hok ⊢
  rw [h] at hok ⊢
  simp only [Int.reduceBEq,bF_,fF_,bQ_,fT_] at hok ⊢
  cases hq:a_k b (O_ d.rules<|o_ r) p with
  | none=>rw [hq] at hok;cases hok
  | some n =>
   have hn:=j_O hint hq
   rw [hq] at hok
   simp only at hok ⊢
   cases ht:a_H r.tags n with
   | none=>rw [ht] at hok;cases hok
   | some k =>
    rw [ht] at hok
    simp only at hok ⊢
    obtain ⟨H,G,f3⟩:=i_h hok (λJ=>by omega);have hlen:=h_h _ _ f3;have hkt:=h_c ht;refine .inr<|.inr<|.inr<|.inr<|.inr<|.inr<|.inr (.inl ⟨h,by rw [G];exact hn.1,by rw [G,hlim];exact hn.2,i_o,by rw [H,hlen];rfl,?_⟩)
    rw [G]
    unfold P_
    rw [h,ht]
    simp only [Int.reduceBEq,bF_,fF_,bQ_,fT_]
    exact (hkk _<|c_K (by omega)).1
 .rw [h] at hok ⊢
  simp only [Int.reduceBEq,bF_,fF_] at hok ⊢
  unfold a_r at hok ⊢
  rw [h] at hok ⊢
  simp only [Int.reduceBEq,bF_,fF_,bQ_,fT_] at hok ⊢
  cases hq:b[p]? with
  | none=>rw [hq] at hok;cases hok
  | some c =>
   rw [hq] at hok
   simp only at hok ⊢
   by_cases h1:1<byteI c
   .rw [iP_ h1] at hok;cases hok
   .rw [iN_ h1] at hok
    rw [iN_ h1]
    simp only at hok ⊢
    obtain ⟨H,G,f3⟩:=i_h hok (λJ=>by omega);have hlen:=h_h _ _ f3
    rw [List.length_replicate] at hlen
    have hc:c.toNat<=1:=by unfold byteI at h1;omega
    exact .inr<|.inr<|.inr<|.inr<|.inr<|.inr<|.inr<|.inr (.inl ⟨h,G,i_o,by rw [H,hlen];exact hc⟩)
 .rw [h] at hok ⊢
  simp only [Int.reduceBEq,bF_,fF_] at hok ⊢
  unfold a_r at hok ⊢
  rw [h] at hok ⊢
  simp only [Int.reduceBEq,bF_,fF_] at hok ⊢
  obtain ⟨H,G,f3⟩:=i_h hok<|λ_=>rfl;exact .inr<|.inr<|.inr<|.inr<|.inr<|.inr<|.inr<|.inr (.inr ⟨h,G,i_o,by rw [H,h_h _ _ f3];rfl⟩)
 .rw [h] at hok hbl ⊢
  simp only [Int.reduceBEq,bF_,fF_,bQ_,fT_] at hok hbl ⊢
  cases hq:c_w b p (r.bytes.getD 0 0) with
  | none=>rw [hq] at hok;cases hok
  | some x =>
   obtain ⟨c,q⟩:=x
   rw [hq] at hbl
   exact .inr<|.inr<|.inr<|.inr<|.inl ⟨h,rfl,hbl,rfl⟩
theorem n_t {rd:Int->Nat->RR}{L:Nat}:∀{ks:List Int}{p:Nat}{vs:List Val}{e:Nat},h_i rd L ks p vs e->vs.length=ks.length/\∀m (hm:m<ks.length) (hm':m<vs.length),∃q,q<=L/\(rd ks[m] q).2.2=0/\vs[m]=(rd ks[m] q).1
 | [],p,vs,e,h=>⟨by rw [h.1];rfl,λm hm=>by simp at hm⟩
 | k::ks,p,vs,e,h=>by
  obtain ⟨h1,h2,ws,rfl,h3⟩:=h;obtain ⟨G,H⟩:=n_t h3;refine ⟨by simp [G],λm hm hm'=>?_⟩
  cases m with
  | zero=>exact ⟨p,h1,h2,rfl⟩
  | succ m=>exact H m (by simpa using hm) (by simpa using hm')
theorem n_u (hv:R_ d=true){i:Nat}(hi:i<d.rules.length){p:Nat}(hp:p<=b.length)(hok:(rdW d.rules b i p).2.2=0):∀j (hj:j<(rdW d.rules b i p).1.items.length),∃k q:Nat,P_ d.rules[i] (rdW d.rules b i p).1.number j=(k:Int)/\k<i/\q<=b.length/\(rdW d.rules b k q).2.2=0/\(rdW d.rules b i p).1.items[j]=(rdW d.rules b k q).1:=by
 obtain ⟨ks,e,h⟩:=k_Z hv hi hp hok;have hr:=a_S hv hi;obtain ⟨L,G⟩:=n_t h.ch;intro j hj;have hjk:j<ks.length:=by omega
 obtain ⟨q,H,I,J⟩:=G j hjk hj;have hk:=hr.kids _<|h.kids _<|gE_ hjk;refine ⟨ks[j].toNat,q,?_,by omega,H,I,J⟩
 rw [h.item j hjk];omega
end
end Go.Vw
