
import Derived.Test.YtllmonllbkaflaaGreatDoorVe
namespace Go.Vw
open Go.RowKit Dat
def Own (rs:List b_)(r:b_)(v:Val):Prop :=
 (r.kind=1/\0<=v.number/\v.number<=256 ^ r.size.toNat - 1/\v.bytes=[]/\v.items=[]) ∨
 (r.kind=2/\v.number=0/\v.bytes=[]/\v.items=[]) ∨
 (r.kind=3/\v.number=0/\(v.bytes.length:Int)=r.size/\v.items=[]) ∨
 (r.kind=4/\v.number=0/\(v.bytes.length:Int)<=400/\(v.bytes.length:Int)<=lim rs (n_ r)/\v.items=[]) ∨
 (r.kind=10/\v.number=0/\(v.bytes.length:Int)<=400/\v.items=[]) ∨
 (r.kind=5/\v.number=0/\v.bytes=[]/\(v.items.length:Int)<=40/\(v.items.length:Int)<=lim rs (n_ r)) ∨
 (r.kind=6/\v.number=0/\v.bytes=[]/\v.items.length=r.kids.length) ∨
 (r.kind=7/\0<=v.number/\v.number<=lim rs (n_ r)/\v.bytes=[]/\v.items.length=1/\0<=X_ r v.number 0) ∨
 (r.kind=8/\v.number=0/\v.bytes=[]/\v.items.length<=1) ∨
 (r.kind=9/\v.number=0/\v.bytes=[]/\v.items.length=1)
theorem k_y {b:Bt}{r:b_}{p:Nat}{n:Int}(hr:e_s r)(h:O_ b r p=some n):0<=n/\n<=256 ^ r.size.toNat - 1:=by
 obtain ⟨_,h1,h4⟩:=hr;unfold O_ at h
 split at h
 .cases h
 .rename_i hc
  obtain rfl:=Option.some.inj h;have hl:(a_8 b p<|p+r.size.toNat).length=r.size.toNat:=by rw [d_b (by omega)];omega
  unfold e_q
  have key:∀l:Bt,l.length=r.size.toNat->0<=l.foldl b_V 0/\l.foldl b_V 0<=256 ^ r.size.toNat - 1:=by
   intro l hl;have:=o_h l
   rw [hl] at this
   omega
  split
  .exact key _ (by simpa using hl)
  .exact key _ hl
theorem k_z {rs:List b_}{k:Int}(h:0<lim rs k):e_s (w_ rs k)/\lim rs k=256 ^ (w_ rs k).size.toNat - 1:=by
 unfold lim at *
 cases hk:idx rs k with
 | none=>rw [hk] at h;exact absurd h (by decide)
 | some r =>
  rw [hk] at h
  simp only at h ⊢
  have hr:w_ rs k=r:=by
   unfold idx at hk
   split at hk
   .unfold w_;rw [gD_,hk];rfl
   .cases hk
  split at h
  .rename_i hc
   rw [hr,iP_ hc]
   exact ⟨⟨hc.1,hc.2.1,hc.2.2⟩,rfl⟩
  .exact absurd h (by decide)
theorem h_h {rd:Int->Nat->RR}:∀(ks:List Int)(p:Nat),(L_ rd ks p).2.2=0->(L_ rd ks p).1.length=ks.length
 | [],p,_=>rfl
 | k::ks,p,h=>by
  unfold L_ at *
  by_cases G:(rd k p).2.2=0
  .rw [iP_ G] at *
   by_cases h1:(L_ rd ks (rd k p).2.1).2.2=0
   .rw [iP_ h1] at *
    simp only [lC_]
    rw [h_h ks _ h1]
   .rw [iN_ h1] at h;exact absurd h h1
  .rw [iN_ G] at h;exact absurd h G
theorem i_n {b:Bt}{r:b_}{num:Int}{at_:Nat}{x:List Val×Nat×Int}:(a_N b r num at_ x).1.bytes=[]:=by
 unfold a_N
 split
 .split
  .split
   .rfl
   .split <;> rfl
  .rfl
 .rfl
section
variable {d:c_}{b:Bt}
theorem m_s (hv:D_ d=true)(hb:b.length<=400){i:Nat}(hi:i<d.rules.length){p:Nat}(hp:p<=b.length)(hok:(rdW d.rules b i p).2.2=0):Own d.rules d.rules[i] (rdW d.rules b i p).1:=by
 have hr:=a_L hv hi;have hby:=o_y hv hi hp;have hle:=b_M (b:=b) hv i hi p hp
 rw [e_3 hv hi hp] at *
 have hal:=f_8 hr.kind;have hkk:=hr.kids;have hkind:=hr.kind;generalize d.rules[i]=r at *
 have hbl:((rdB d.rules b r p<|λk p=>rdW d.rules b k.toNat p).1.bytes.length:Int)<=400:=by omega
 unfold rdB at *
 have hcase:r.kind=1∨r.kind=2∨r.kind=3∨r.kind=4∨r.kind=5∨r.kind=6∨r.kind=7∨r.kind=8∨r.kind=9∨r.kind=10:=by omega
 rcases hcase with h | h | h | h | h | h | h | h | h | h
 .rw [h] at hok hbl ⊢
  simp only [bQ_,fT_] at hok hbl ⊢
  cases hq:O_ b r p with
  | none=>rw [hq] at hok;cases hok
  | some n =>
   have:=k_y (e_t hkind h) hq;exact .inl ⟨h,this.1,this.2,rfl,rfl⟩
 .rw [h]
  exact .inr<|.inl ⟨h,rfl,rfl,rfl⟩
 .rw [h] at hok hbl ⊢
  simp only [Int.reduceBEq,bF_,fF_,bQ_,fT_] at hok hbl ⊢
  have hs:=g_b hkind h;unfold a_D at hok ⊢
  split at hok
  .cases hok
  .rename_i hc
   rw [iN_ hc]
   exact .inr (.inr (.inl ⟨h,rfl,by show ((a_8 b p<|p+r.size.toNat).length:Int)=r.size;rw [d_b (by omega)];omega,rfl⟩))
 .rw [h] at hok hbl ⊢
  simp only [Int.reduceBEq,bF_,fF_,bQ_,fT_] at hok hbl ⊢
  obtain ⟨hl,_⟩:=f_7 hkind h;obtain ⟨hint,hlim⟩:=k_z hl
  cases hq:O_ b (w_ d.rules<|n_ r) p with
  | none=>rw [hq] at hok;cases hok
  | some n =>
   have hn:=k_y hint hq;have hrg:=b_W hint hq
   rw [hq] at hok hbl
   simp only at hok hbl ⊢
   unfold a_D at hok hbl ⊢
   split at hok
   .cases hok
   .rename_i hc
    rw [iN_ hc] at hbl ⊢
    refine .inr<|.inr<|.inr<|.inl ⟨h,rfl,hbl,?_,rfl⟩
    show ((a_8 b (p+(w_ d.rules<|n_ r).size.toNat)<|p+(w_ d.rules<|n_ r).size.toNat+n.toNat).length:Int)<=lim d.rules (n_ r)
    rw [d_b (by omega),hlim];omega
 .rw [h] at hok ⊢
  simp only [Int.reduceBEq,bF_,fF_] at hok ⊢
  obtain ⟨hl,_⟩:=c_E hkind h;obtain ⟨hint,hlim⟩:=k_z hl;unfold F_ at hok ⊢
  rw [h] at hok ⊢
  simp only [bQ_,fT_] at hok ⊢
  cases hq:O_ b (w_ d.rules<|n_ r) p with
  | none=>rw [hq] at hok;cases hok
  | some n =>
   have hn:=k_y hint hq
   rw [hq] at hok
   simp only at hok ⊢
   by_cases I:40<n
   .rw [iP_ I] at hok;cases hok
   .rw [iN_ I] at hok
    rw [iN_ I]
    simp only at hok ⊢
    obtain ⟨H,G,f3⟩:=h_b hok (λJ=>by omega);have hlen:=h_h _ _ f3
    rw [List.length_replicate] at hlen
    exact .inr<|.inr<|.inr<|.inr<|.inr (.inl ⟨h,G,i_n,by rw [H,hlen];omega,by rw [H,hlen,hlim];omega⟩)
 .rw [h] at hok ⊢
  simp only [Int.reduceBEq,bF_,fF_] at hok ⊢
  unfold F_ at hok ⊢
  rw [h] at hok ⊢
  simp only [Int.reduceBEq,bF_,fF_,bQ_,fT_] at hok ⊢
  obtain ⟨H,G,f3⟩:=h_b hok (λJ=>by omega);exact .inr<|.inr<|.inr<|.inr<|.inr<|.inr (.inl ⟨h,G,i_n,by rw [H,h_h _ _ f3]⟩)
 .rw [h] at hok ⊢
  simp only [Int.reduceBEq,bF_,fF_] at hok ⊢
  obtain ⟨hl,hkl,_,_⟩:=c_P hkind h;obtain ⟨hint,hlim⟩:=k_z hl;unfold F_ at hok ⊢
  rw [h] at hok ⊢
  simp only [Int.reduceBEq,bF_,fF_,bQ_,fT_] at hok ⊢
  cases hq:O_ b (w_ d.rules<|n_ r) p with
  | none=>rw [hq] at hok;cases hok
  | some n =>
   have hn:=k_y hint hq
   rw [hq] at hok
   simp only at hok ⊢
   cases ht:a_V r.tags n with
   | none=>rw [ht] at hok;cases hok
   | some k =>
    rw [ht] at hok
    simp only at hok ⊢
    obtain ⟨H,G,f3⟩:=h_b hok (λJ=>by omega);have hlen:=h_h _ _ f3;have hkt:=i_k ht;refine .inr<|.inr<|.inr<|.inr<|.inr<|.inr<|.inr (.inl ⟨h,by rw [G];exact hn.1,by rw [G,hlim];exact hn.2,i_n,by rw [H,hlen];rfl,?_⟩)
    rw [G]
    unfold X_
    rw [h,ht]
    simp only [Int.reduceBEq,bF_,fF_,bQ_,fT_]
    exact (hkk _<|b_H (by omega)).1
 .rw [h] at hok ⊢
  simp only [Int.reduceBEq,bF_,fF_] at hok ⊢
  unfold F_ at hok ⊢
  rw [h] at hok ⊢
  simp only [Int.reduceBEq,bF_,fF_,bQ_,fT_] at hok ⊢
  cases hq:b[p]? with
  | none=>rw [hq] at hok;cases hok
  | some c =>
   rw [hq] at hok
   simp only at hok ⊢
   by_cases h1:1<byteI c
   .rw [iP_ h1] at hok;cases hok
   .rw [iN_ h1] at hok
    rw [iN_ h1]
    simp only at hok ⊢
    obtain ⟨H,G,f3⟩:=h_b hok (λJ=>by omega);have hlen:=h_h _ _ f3
    rw [List.length_replicate] at hlen
    have hc:c.toNat<=1:=by unfold byteI at h1;omega
    exact .inr<|.inr<|.inr<|.inr<|.inr<|.inr<|.inr<|.inr (.inl ⟨h,G,i_n,by rw [H,hlen];exact hc⟩)
 .rw [h] at hok ⊢
  simp only [Int.reduceBEq,bF_,fF_] at hok ⊢
  unfold F_ at hok ⊢
  rw [h] at hok ⊢
  simp only [Int.reduceBEq,bF_,fF_] at hok ⊢
  obtain ⟨H,G,f3⟩:=h_b hok<|λ_=>rfl;exact .inr<|.inr<|.inr<|.inr<|.inr<|.inr<|.inr<|.inr (.inr ⟨h,G,i_n,by rw [H,h_h _ _ f3];rfl⟩)
 .rw [h] at hok hbl ⊢
  simp only [Int.reduceBEq,bF_,fF_,bQ_,fT_] at hok hbl ⊢
  cases hq:c_N b p (r.bytes.getD 0 0) with
  | none=>rw [hq] at hok;cases hok
  | some x =>
   obtain ⟨c,q⟩:=x
   rw [hq] at hbl
   exact .inr<|.inr<|.inr<|.inr<|.inl ⟨h,rfl,hbl,rfl⟩
theorem p_7 {rd:Int->Nat->RR}{L:Nat}:∀{ks:List Int}{p:Nat}{vs:List Val}{e:Nat},d_w rd L ks p vs e->vs.length=ks.length/\∀m (hm:m<ks.length) (hm':m<vs.length),∃q,q<=L/\(rd ks[m] q).2.2=0/\vs[m]=(rd ks[m] q).1
 | [],p,vs,e,h=>⟨by rw [h.1];rfl,λm hm=>by simp at hm⟩
 | k::ks,p,vs,e,h=>by
  obtain ⟨h1,h2,ws,rfl,h3⟩:=h;obtain ⟨G,H⟩:=p_7 h3;refine ⟨by simp [G],λm hm hm'=>?_⟩
  cases m with
  | zero=>exact ⟨p,h1,h2,rfl⟩
  | succ m=>exact H m (by simpa using hm) (by simpa using hm')
theorem m_t (hv:D_ d=true){i:Nat}(hi:i<d.rules.length){p:Nat}(hp:p<=b.length)(hok:(rdW d.rules b i p).2.2=0):∀j (hj:j<(rdW d.rules b i p).1.items.length),∃k q:Nat,X_ d.rules[i] (rdW d.rules b i p).1.number j=(k:Int)/\k<i/\q<=b.length/\(rdW d.rules b k q).2.2=0/\(rdW d.rules b i p).1.items[j]=(rdW d.rules b k q).1:=by
 obtain ⟨ks,e,h⟩:=e_x hv hi hp hok;have hr:=a_L hv hi;obtain ⟨L,G⟩:=p_7 h.ch;intro j hj;have hjk:j<ks.length:=by omega
 obtain ⟨q,H,I,J⟩:=G j hjk hj;have hk:=hr.kids _<|h.kids _<|gE_ hjk;refine ⟨ks[j].toNat,q,?_,by omega,H,I,J⟩
 rw [h.item j hjk];omega
end
end Go.Vw
