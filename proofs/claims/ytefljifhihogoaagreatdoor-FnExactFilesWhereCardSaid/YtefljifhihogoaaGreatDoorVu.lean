
import Derived.Test.YtefljifhihogoaaGreatDoorVt
namespace Go.Vw
set_option linter.unusedVariables false
open Go.RowKit Dat
def Own (rs:List f_)(r:f_)(v:Val):Prop :=
 (r.kind=1/\0<=v.number/\v.number<=256 ^ r.size.toNat - 1/\v.bytes=[]/\v.items=[]) ∨
 (r.kind=2/\v.number=0/\v.bytes=[]/\v.items=[]) ∨
 (r.kind=3/\v.number=0/\(v.bytes.length:Int)=r.size/\v.items=[]) ∨
 (r.kind=4/\v.number=0/\(v.bytes.length:Int)<=400/\(v.bytes.length:Int)<=lim rs (p_ r)/\v.items=[]) ∨
 (r.kind=10/\v.number=0/\(v.bytes.length:Int)<=400/\v.items=[]) ∨
 (r.kind=5/\v.number=0/\v.bytes=[]/\(v.items.length:Int)<=40/\(v.items.length:Int)<=lim rs (p_ r)) ∨
 (r.kind=6/\v.number=0/\v.bytes=[]/\v.items.length=r.kids.length) ∨
 (r.kind=7/\0<=v.number/\v.number<=lim rs (p_ r)/\v.bytes=[]/\v.items.length=1/\0<=a_n r v.number 0) ∨
 (r.kind=8/\v.number=0/\v.bytes=[]/\v.items.length<=1) ∨
 (r.kind=9/\v.number=0/\v.bytes=[]/\v.items.length=1)
theorem m_3 {b:Bt}{r:f_}{p:Nat}{n:Int}(hr:f_f r)(h:U_ b r p=some n):0<=n/\n<=256 ^ r.size.toNat - 1:=by
 obtain ⟨_,h1,h4⟩:=hr;unfold U_ at h
 split at h
 .cases h
 .rename_i hc
  obtain rfl:=QAS h;have hl:(a_v b p<|p+r.size.toNat).length=r.size.toNat:=by grind [d_H]
  unfold e_9
  have key:∀l:Bt,l.length=r.size.toNat->0<=l.foldl b_X 0/\l.foldl b_X 0<=256 ^ r.size.toNat - 1:=by
   intro l hl;have:=q_J l
   grind
  grind
theorem m_4 {rs:List f_}{k:Int}(h:0<lim rs k):f_f (y_ rs k)/\lim rs k=256 ^ (y_ rs k).size.toNat - 1:=by
 unfold lim at *
 cases hk:idx rs k with
 | none=>grind
 | some r =>
  rw [hk] at h
  simp only at h ⊢
  have hr:y_ rs k=r:=by
   grind [y_,idx]
  split at h
  .rename_i hc
   rw [hr,iP_ hc]
   exact ⟨⟨hc.1,hc.2.1,hc.2.2⟩,rfl⟩
  omega
theorem i_h {rd:Int->Nat->RR}:∀(ks:List Int)(p:Nat),(P_ rd ks p).2.2=0->(P_ rd ks p).1.length=ks.length
 | [],p,_=>rfl
 | k::ks,p,h=>by
  unfold P_ at *
  by_cases G:(rd k p).2.2=0
  .rw [iP_ G] at *
   by_cases h1:(P_ rd ks (rd k p).2.1).2.2=0
   .rw [iP_ h1] at *
    simp only [lC_]
    rw [i_h ks _ h1]
   grind
  grind
theorem j_A {b:Bt}{r:f_}{num:Int}{at_:Nat}{x:List Val×Nat×Int}:(a_R b r num at_ x).1.bytes=[]:=by
 unfold a_R
 split
 .split
  .split
   .rfl
   .split <;> rfl
  .rfl
 .rfl
section
variable {d:d_}{b:Bt}
theorem o_k (hv:D_ d=true)(hb:b.length<=400){i:Nat}(hi:i<d.rules.length){p:Nat}(hp:p<=b.length)(hok:(rdW d.rules b i p).2.2=0):Own d.rules d.rules[i] (rdW d.rules b i p).1:=by
 have hr:=a_P hv hi;have hby:=q_Y hv hi hp;have hle:=c_9 (b:=b) hv i hi p hp
 rw [e_G hv hi hp] at *
 have hal:=g_h hr.kind;have hkk:=hr.kids;have hkind:=hr.kind;generalize d.rules[i]=r at *
 have hbl:((rdB d.rules b r p<|λk p=>rdW d.rules b k.toNat p).1.bytes.length:Int)<=400:=by omega
 unfold rdB at *
 have hcase:r.kind=1∨r.kind=2∨r.kind=3∨r.kind=4∨r.kind=5∨r.kind=6∨r.kind=7∨r.kind=8∨r.kind=9∨r.kind=10:=by omega
 rcases hcase with h | h | h | h | h | h | h | h | h | h
 .rw [h] at hok hbl ⊢
  simp only [bQ_,fT_] at hok hbl ⊢
  cases hq:U_ b r p with
  | none=>grind
  | some n =>
   have:=m_3 (g_f hkind h) hq;exact .inl ⟨h,this.1,this.2,rfl,rfl⟩
 .rw [h]
  exact .inr<|.inl ⟨h,rfl,rfl,rfl⟩
 .rw [h] at hok hbl ⊢
  simp only [Int.reduceBEq,bF_,fF_,bQ_,fT_] at hok hbl ⊢
  have hs:=h_p hkind h;unfold a_H at hok ⊢
  split at hok
  .grind
  .rename_i hc
   rw [iN_ hc]
   exact .inr (.inr (.inl ⟨h,rfl,by show ((a_v b p<|p+r.size.toNat).length:Int)=r.size;grind [d_H],rfl⟩))
 .rw [h] at hok hbl ⊢
  simp only [Int.reduceBEq,bF_,fF_,bQ_,fT_] at hok hbl ⊢
  obtain ⟨hl,_⟩:=g_g hkind h;obtain ⟨hint,hlim⟩:=m_4 hl
  cases hq:U_ b (y_ d.rules<|p_ r) p with
  | none=>grind
  | some n =>
   have hn:=m_3 hint hq;have hrg:=c_p hint hq
   rw [hq] at hok hbl
   simp only at hok hbl ⊢
   unfold a_H at hok hbl ⊢
   split at hok
   .grind
   .rename_i hc
    rw [iN_ hc] at hbl ⊢
    refine .inr<|.inr<|.inr<|.inl ⟨h,rfl,hbl,?_,rfl⟩
    show ((a_v b (p+(y_ d.rules<|p_ r).size.toNat)<|p+(y_ d.rules<|p_ r).size.toNat+n.toNat).length:Int)<=lim d.rules (p_ r)
    grind [d_H]
 .rw [h] at hok ⊢
  simp only [Int.reduceBEq,bF_,fF_] at hok ⊢
  obtain ⟨hl,_⟩:=d_6 hkind h;obtain ⟨hint,hlim⟩:=m_4 hl;unfold I_ at hok ⊢
  rw [h] at hok ⊢
  simp only [bQ_,fT_] at hok ⊢
  cases hq:U_ b (y_ d.rules<|p_ r) p with
  | none=>grind
  | some n =>
   have hn:=m_3 hint hq
   rw [hq] at hok
   simp only at hok ⊢
   by_cases J:40<n
   .grind
   .rw [iN_ J] at hok
    rw [iN_ J]
    simp only at hok ⊢
    obtain ⟨H,G,f3⟩:=i_5 hok (λI=>by omega);have hlen:=i_h _ _ f3
    rw [QAe] at hlen
    exact .inr<|.inr<|.inr<|.inr<|.inr (.inl ⟨h,G,j_A,by grind,by grind⟩)
 .rw [h] at hok ⊢
  simp only [Int.reduceBEq,bF_,fF_] at hok ⊢
  unfold I_ at hok ⊢
  rw [h] at hok ⊢
  simp only [Int.reduceBEq,bF_,fF_,bQ_,fT_] at hok ⊢
  obtain ⟨H,G,f3⟩:=i_5 hok (λI=>by omega);exact .inr<|.inr<|.inr<|.inr<|.inr<|.inr (.inl ⟨h,G,j_A,by grind [i_h]⟩)
 .rw [h] at hok ⊢
  simp only [Int.reduceBEq,bF_,fF_] at hok ⊢
  obtain ⟨hl,hkl,_,_⟩:=d_m hkind h;obtain ⟨hint,hlim⟩:=m_4 hl;unfold I_ at hok ⊢
  rw [h] at hok ⊢
  simp only [Int.reduceBEq,bF_,fF_,bQ_,fT_] at hok ⊢
  cases hq:U_ b (y_ d.rules<|p_ r) p with
  | none=>grind
  | some n =>
   have hn:=m_3 hint hq
   rw [hq] at hok
   simp only at hok ⊢
   cases ht:b_9 r.tags n with
   | none=>rw [ht] at hok;cases hok
   | some k =>
    rw [ht] at hok
    simp only at hok ⊢
    obtain ⟨H,G,f3⟩:=i_5 hok (λI=>by omega);have hlen:=i_h _ _ f3;have hkt:=m_1 ht;refine .inr<|.inr<|.inr<|.inr<|.inr<|.inr<|.inr (.inl ⟨h,by rw [G];exact hn.1,by rw [G,hlim];exact hn.2,j_A,by rw [H,hlen];rfl,?_⟩)
    rw [G]
    unfold a_n
    rw [h,ht]
    simp only [Int.reduceBEq,bF_,fF_,bQ_,fT_]
    exact (hkk _<|e_e (by omega)).1
 .rw [h] at hok ⊢
  simp only [Int.reduceBEq,bF_,fF_] at hok ⊢
  unfold I_ at hok ⊢
  rw [h] at hok ⊢
  simp only [Int.reduceBEq,bF_,fF_,bQ_,fT_] at hok ⊢
  cases hq:b[p]? with
  | none=>rw [hq] at hok;cases hok
  | some c =>
   rw [hq] at hok
   simp only at hok ⊢
   by_cases h1:1<b_ c
   .rw [iP_ h1] at hok;cases hok
   .rw [iN_ h1] at hok
    rw [iN_ h1]
    simp only at hok ⊢
    obtain ⟨H,G,f3⟩:=i_5 hok (λI=>by omega);have hlen:=i_h _ _ f3
    rw [QAe] at hlen
    have hc:c.toNat<=1:=by unfold b_ at h1;omega
    exact .inr<|.inr<|.inr<|.inr<|.inr<|.inr<|.inr<|.inr (.inl ⟨h,G,j_A,by rw [H,hlen];exact hc⟩)
 .rw [h] at hok ⊢
  simp only [Int.reduceBEq,bF_,fF_] at hok ⊢
  unfold I_ at hok ⊢
  rw [h] at hok ⊢
  simp only [Int.reduceBEq,bF_,fF_] at hok ⊢
  obtain ⟨H,G,f3⟩:=i_5 hok<|λ_=>rfl;exact .inr<|.inr<|.inr<|.inr<|.inr<|.inr<|.inr<|.inr (.inr ⟨h,G,j_A,by rw [H,i_h _ _ f3];rfl⟩)
 .rw [h] at hok hbl ⊢
  simp only [Int.reduceBEq,bF_,fF_,bQ_,fT_] at hok hbl ⊢
  cases hq:d_D b p (r.bytes.getD 0 0) with
  | none=>rw [hq] at hok;cases hok
  | some x =>
   obtain ⟨c,q⟩:=x
   rw [hq] at hbl
   exact .inr<|.inr<|.inr<|.inr<|.inl ⟨h,rfl,hbl,rfl⟩
theorem s_m {rd:Int->Nat->RR}{L:Nat}:∀{ks:List Int}{p:Nat}{vs:List Val}{e:Nat},e_g rd L ks p vs e->vs.length=ks.length/\∀m (hm:m<ks.length) (hm':m<vs.length),∃q,q<=L/\(rd ks[m] q).2.2=0/\vs[m]=(rd ks[m] q).1
 | [],p,vs,e,h=>⟨by rw [h.1];rfl,λm hm=>by grind⟩
 | k::ks,p,vs,e,h=>by
  obtain ⟨h1,h2,ws,rfl,h3⟩:=h;obtain ⟨G,H⟩:=s_m h3;refine ⟨by grind,λm hm hm'=>?_⟩
  cases m with
  | zero=>grind
  | succ m=>simp_all
theorem o_l (hv:D_ d=true){i:Nat}(hi:i<d.rules.length){p:Nat}(hp:p<=b.length)(hok:(rdW d.rules b i p).2.2=0):∀j (hj:j<(rdW d.rules b i p).1.items.length),∃k q:Nat,a_n d.rules[i] (rdW d.rules b i p).1.number j=(k:Int)/\k<i/\q<=b.length/\(rdW d.rules b k q).2.2=0/\(rdW d.rules b i p).1.items[j]=(rdW d.rules b k q).1:=by
 obtain ⟨ks,e,h⟩:=f_i hv hi hp hok;have hr:=a_P hv hi;obtain ⟨L,G⟩:=s_m h.ch;intro j hj;have hjk:j<ks.length:=by omega
 obtain ⟨q,H,I,J⟩:=G j hjk hj;have hk:=hr.kids _<|h.kids _<|gE_ hjk;refine ⟨ks[j].toNat,q,?_,by omega,H,I,J⟩
 rw [h.item j hjk];omega
end
end Go.Vw
