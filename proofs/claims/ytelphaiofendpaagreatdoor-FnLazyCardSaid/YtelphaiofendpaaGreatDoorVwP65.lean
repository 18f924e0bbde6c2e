
import Derived.Test.YtelphaiofendpaaGreatDoorVwP23
namespace Go.Vw
open Go.RowKit Dat
def Own (rs:List g_)(r:g_)(v:Val):Prop :=
 (r.kind=1/\0<=v.number/\v.number<=256 ^ r.size.toNat - 1/\v.bytes=[]/\v.items=[]) ∨
 (r.kind=2/\v.number=0/\v.bytes=[]/\v.items=[]) ∨
 (r.kind=3/\v.number=0/\(v.bytes.length:Int)=r.size/\v.items=[]) ∨
 (r.kind=4/\v.number=0/\(v.bytes.length:Int)<=400/\(v.bytes.length:Int)<=lim rs (u_ r)/\v.items=[]) ∨
 (r.kind=10/\v.number=0/\(v.bytes.length:Int)<=400/\v.items=[]) ∨
 (r.kind=5/\v.number=0/\v.bytes=[]/\(v.items.length:Int)<=40/\(v.items.length:Int)<=lim rs (u_ r)) ∨
 (r.kind=6/\v.number=0/\v.bytes=[]/\v.items.length=r.kids.length) ∨
 (r.kind=7/\0<=v.number/\v.number<=lim rs (u_ r)/\v.bytes=[]/\v.items.length=1/\0<=X_ r v.number 0) ∨
 (r.kind=8/\v.number=0/\v.bytes=[]/\v.items.length<=1) ∨
 (r.kind=9/\v.number=0/\v.bytes=[]/\v.items.length=1)
theorem j_B {b:Bt}{r:g_}{p:Nat}{n:Int}(hr:d_V r)(h:W_ b r p=some n):0<=n/\n<=256 ^ r.size.toNat - 1:=by
 obtain ⟨_,h1,h4⟩:=hr;unfold W_ at h
 split at h
 .cases h
 .rename_i hc
  obtain rfl:=Option.some.inj h;have hl:(a_h b p<|p+r.size.toNat).length=r.size.toNat:=by rw [c_P (by omega)];omega
  unfold d_T
  have key:∀l:Bt,l.length=r.size.toNat->0<=l.foldl b_S 0/\l.foldl b_S 0<=256 ^ r.size.toNat - 1:=by
   intro l hl;have:=n_h l
   rw [hl] at this
   omega
  split
  .exact key _ (by simpa using hl)
  .exact key _ hl
theorem j_C {rs:List g_}{k:Int}(h:0<lim rs k):d_V (E_ rs k)/\lim rs k=256 ^ (E_ rs k).size.toNat - 1:=by
 unfold lim at *
 cases hk:idx rs k with
 | none=>rw [hk] at h;exact absurd h (by decide)
 | some r =>
  rw [hk] at h
  simp only at h ⊢
  have hr:E_ rs k=r:=by
   unfold idx at hk
   split at hk
   .unfold E_;rw [gD_,hk];rfl
   .cases hk
  split at h
  .rename_i hc
   rw [hr,iP_ hc]
   exact ⟨⟨hc.1,hc.2.1,hc.2.2⟩,rfl⟩
  .exact absurd h (by decide)
theorem f_S {rd:Int->Nat->RR}:∀(ks:List Int)(p:Nat),(S_ rd ks p).2.2=0->(S_ rd ks p).1.length=ks.length
 | [],p,_=>rfl
 | k::ks,p,h=>by
  unfold S_ at *
  by_cases G:(rd k p).2.2=0
  .rw [iP_ G] at *
   by_cases h1:(S_ rd ks (rd k p).2.1).2.2=0
   .rw [iP_ h1] at *
    simp only [lC_]
    rw [f_S ks _ h1]
   .rw [iN_ h1] at h;exact absurd h h1
  .rw [iN_ G] at h;exact absurd h G
theorem h_j {b:Bt}{r:g_}{num:Int}{at_:Nat}{x:List Val×Nat×Int}:(a_L b r num at_ x).1.bytes=[]:=by
 unfold a_L
 split
 .split
  .split
   .rfl
   .split <;> rfl
  .rfl
 .rfl
section
variable {d:d_}{b:Bt}
theorem l_w (hv:N_ d=true)(hb:b.length<=400){i:Nat}(hi:i<d.rules.length){p:Nat}(hp:p<=b.length)(hok:(rdW d.rules b i p).2.2=0):Own d.rules d.rules[i] (rdW d.rules b i p).1:=by
 have hr:=a_M hv hi;have hby:=n_y hv hi hp;have hle:=b_v (b:=b) hv i hi p hp
 rw [d_v hv hi hp] at *
 have hal:=e_r hr.kind;have hkk:=hr.kids;have hkind:=hr.kind;generalize d.rules[i]=r at *
 have hbl:((rdB d.rules b r p<|λk p=>rdW d.rules b k.toNat p).1.bytes.length:Int)<=400:=by omega
 unfold rdB at *
 have hcase:r.kind=1∨r.kind=2∨r.kind=3∨r.kind=4∨r.kind=5∨r.kind=6∨r.kind=7∨r.kind=8∨r.kind=9∨r.kind=10:=by omega
 rcases hcase with h | h | h | h | h | h | h | h | h | h
 .rw [h] at hok hbl ⊢
  simp only [bQ_,fT_] at hok hbl ⊢
  cases hq:W_ b r p with
  | none=>rw [hq] at hok;cases hok
  | some n =>
   have:=j_B (d_W hkind h) hq;exact .inl ⟨h,this.1,this.2,rfl,rfl⟩
 .rw [h]
  exact .inr<|.inl ⟨h,rfl,rfl,rfl⟩
 .rw [h] at hok hbl ⊢
  simp only [Int.reduceBEq,bF_,fF_,bQ_,fT_] at hok hbl ⊢
  have hs:=f_3 hkind h;unfold a_C at hok ⊢
  split at hok
  .cases hok
  .rename_i hc
   rw [iN_ hc]
   exact .inr (.inr (.inl ⟨h,rfl,by show ((a_h b p<|p+r.size.toNat).length:Int)=r.size;rw [c_P (by omega)];omega,rfl⟩))
 .rw [h] at hok hbl ⊢
  simp only [Int.reduceBEq,bF_,fF_,bQ_,fT_] at hok hbl ⊢
  obtain ⟨hl,_⟩:=e_q hkind h;obtain ⟨hint,hlim⟩:=j_C hl
  cases hq:W_ b (E_ d.rules<|u_ r) p with
  | none=>rw [hq] at hok;cases hok
  | some n =>
   have hn:=j_B hint hq;have hrg:=b_T hint hq
   rw [hq] at hok hbl
   simp only at hok hbl ⊢
   unfold a_C at hok hbl ⊢
   split at hok
   .cases hok
   .rename_i hc
    rw [iN_ hc] at hbl ⊢
    refine .inr<|.inr<|.inr<|.inl ⟨h,rfl,hbl,?_,rfl⟩
    show ((a_h b (p+(E_ d.rules<|u_ r).size.toNat)<|p+(E_ d.rules<|u_ r).size.toNat+n.toNat).length:Int)<=lim d.rules (u_ r)
    rw [c_P (by omega),hlim];omega
 .rw [h] at hok ⊢
  simp only [Int.reduceBEq,bF_,fF_] at hok ⊢
  obtain ⟨hl,_⟩:=c_y hkind h;obtain ⟨hint,hlim⟩:=j_C hl;unfold P_ at hok ⊢
  rw [h] at hok ⊢
  simp only [bQ_,fT_] at hok ⊢
  cases hq:W_ b (E_ d.rules<|u_ r) p with
  | none=>rw [hq] at hok;cases hok
  | some n =>
   have hn:=j_B hint hq
   rw [hq] at hok
   simp only at hok ⊢
   by_cases I:40<n
   .rw [iP_ I] at hok;cases hok
   .rw [iN_ I] at hok
    rw [iN_ I]
    simp only at hok ⊢
    obtain ⟨H,G,f3⟩:=f_L hok (λJ=>by omega);have hlen:=f_S _ _ f3
    rw [List.length_replicate] at hlen
    exact .inr<|.inr<|.inr<|.inr<|.inr (.inl ⟨h,G,h_j,by rw [H,hlen];omega,by rw [H,hlen,hlim];omega⟩)
 .rw [h] at hok ⊢
  simp only [Int.reduceBEq,bF_,fF_] at hok ⊢
  unfold P_ at hok ⊢
  rw [h] at hok ⊢
  simp only [Int.reduceBEq,bF_,fF_,bQ_,fT_] at hok ⊢
  obtain ⟨H,G,f3⟩:=f_L hok (λJ=>by omega);exact .inr<|.inr<|.inr<|.inr<|.inr<|.inr (.inl ⟨h,G,h_j,by rw [H,f_S _ _ f3]⟩)
 .rw [h] at hok ⊢
  simp only [Int.reduceBEq,bF_,fF_] at hok ⊢
  obtain ⟨hl,hkl,_,_⟩:=c_Q hkind h;obtain ⟨hint,hlim⟩:=j_C hl;unfold P_ at hok ⊢
  rw [h] at hok ⊢
  simp only [Int.reduceBEq,bF_,fF_,bQ_,fT_] at hok ⊢
  cases hq:W_ b (E_ d.rules<|u_ r) p with
  | none=>rw [hq] at hok;cases hok
  | some n =>
   have hn:=j_B hint hq
   rw [hq] at hok
   simp only at hok ⊢
   cases ht:a_U r.tags n with
   | none=>rw [ht] at hok;cases hok
   | some k =>
    rw [ht] at hok
    simp only at hok ⊢
    obtain ⟨H,G,f3⟩:=f_L hok (λJ=>by omega);have hlen:=f_S _ _ f3;have hkt:=h_g ht;refine .inr<|.inr<|.inr<|.inr<|.inr<|.inr<|.inr (.inl ⟨h,by rw [G];exact hn.1,by rw [G,hlim];exact hn.2,h_j,by rw [H,hlen];rfl,?_⟩)
    rw [G]
    unfold X_
    rw [h,ht]
    simp only [Int.reduceBEq,bF_,fF_,bQ_,fT_]
    exact (hkk _<|b_u (by omega)).1
 .rw [h] at hok ⊢
  simp only [Int.reduceBEq,bF_,fF_] at hok ⊢
  unfold P_ at hok ⊢
  rw [h] at hok ⊢
  simp only [Int.reduceBEq,bF_,fF_,bQ_,fT_] at hok ⊢
  cases hq:b[p]? with
  | none=>rw [hq] at hok;cases hok
  | some c =>
   rw [hq] at hok
   simp only at hok ⊢
   by_cases h1:1<byteI c
   .rw [iP_ h1] at hok;cases hok
   .rw [iN_ h1] at hok
    rw [iN_ h1]
    simp only at hok ⊢
    obtain ⟨H,G,f3⟩:=f_L hok (λJ=>by omega);have hlen:=f_S _ _ f3
    rw [List.length_replicate] at hlen
    have hc:c.toNat<=1:=by unfold byteI at h1;omega
    exact .inr<|.inr<|.inr<|.inr<|.inr<|.inr<|.inr<|.inr (.inl ⟨h,G,h_j,by rw [H,hlen];exact hc⟩)
 .rw [h] at hok ⊢
  simp only [Int.reduceBEq,bF_,fF_] at hok ⊢
  unfold P_ at hok ⊢
  rw [h] at hok ⊢
  simp only [Int.reduceBEq,bF_,fF_] at hok ⊢
  obtain ⟨H,G,f3⟩:=f_L hok<|λ_=>rfl;exact .inr<|.inr<|.inr<|.inr<|.inr<|.inr<|.inr<|.inr (.inr ⟨h,G,h_j,by rw [H,f_S _ _ f3];rfl⟩)
 .rw [h] at hok hbl ⊢
  simp only [Int.reduceBEq,bF_,fF_,bQ_,fT_] at hok hbl ⊢
  cases hq:c_x b p (r.bytes.getD 0 0) with
  | none=>rw [hq] at hok;cases hok
  | some x =>
   obtain ⟨c,q⟩:=x
   rw [hq] at hbl
   exact .inr<|.inr<|.inr<|.inr<|.inl ⟨h,rfl,hbl,rfl⟩
theorem n_S {rd:Int->Nat->RR}{L:Nat}:∀{ks:List Int}{p:Nat}{vs:List Val}{e:Nat},d_4 rd L ks p vs e->vs.length=ks.length/\∀m (hm:m<ks.length) (hm':m<vs.length),∃q,q<=L/\(rd ks[m] q).2.2=0/\vs[m]=(rd ks[m] q).1
 | [],p,vs,e,h=>⟨by rw [h.1];rfl,λm hm=>by simp at hm⟩
 | k::ks,p,vs,e,h=>by
  obtain ⟨h1,h2,ws,rfl,h3⟩:=h;obtain ⟨G,H⟩:=n_S h3;refine ⟨by simp [G],λm hm hm'=>?_⟩
  cases m with
  | zero=>exact ⟨p,h1,h2,rfl⟩
  | succ m=>exact H m (by simpa using hm) (by simpa using hm')
theorem l_x (hv:N_ d=true){i:Nat}(hi:i<d.rules.length){p:Nat}(hp:p<=b.length)(hok:(rdW d.rules b i p).2.2=0):∀j (hj:j<(rdW d.rules b i p).1.items.length),∃k q:Nat,X_ d.rules[i] (rdW d.rules b i p).1.number j=(k:Int)/\k<i/\q<=b.length/\(rdW d.rules b k q).2.2=0/\(rdW d.rules b i p).1.items[j]=(rdW d.rules b k q).1:=by
 obtain ⟨ks,e,h⟩:=e_0 hv hi hp hok;have hr:=a_M hv hi;obtain ⟨L,G⟩:=n_S h.ch;intro j hj;have hjk:j<ks.length:=by omega
 obtain ⟨q,H,I,J⟩:=G j hjk hj;have hk:=hr.kids _<|h.kids _<|gE_ hjk;refine ⟨ks[j].toNat,q,?_,by omega,H,I,J⟩
 rw [h.item j hjk];omega
end
end Go.Vw
