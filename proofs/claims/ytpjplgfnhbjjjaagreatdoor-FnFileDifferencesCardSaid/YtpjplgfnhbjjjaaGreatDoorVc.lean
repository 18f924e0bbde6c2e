
import Derived.Test.YtpjplgfnhbjjjaaGreatDoorVb
namespace Go.Vw
open Go.RowKit Dat
def Own (rs:List d_)(r:d_)(v:Val):Prop :=
 (r.kind=1/\0<=v.number/\v.number<=256 ^ r.size.toNat - 1/\v.bytes=[]/\v.items=[]) ∨
 (r.kind=2/\v.number=0/\v.bytes=[]/\v.items=[]) ∨
 (r.kind=3/\v.number=0/\(v.bytes.length:Int)=r.size/\v.items=[]) ∨
 (r.kind=4/\v.number=0/\(v.bytes.length:Int)<=400/\(v.bytes.length:Int)<=lim rs (k_ r)/\v.items=[]) ∨
 (r.kind=10/\v.number=0/\(v.bytes.length:Int)<=400/\v.items=[]) ∨
 (r.kind=5/\v.number=0/\v.bytes=[]/\(v.items.length:Int)<=40/\(v.items.length:Int)<=lim rs (k_ r)) ∨
 (r.kind=6/\v.number=0/\v.bytes=[]/\v.items.length=r.kids.length) ∨
 (r.kind=7/\0<=v.number/\v.number<=lim rs (k_ r)/\v.bytes=[]/\v.items.length=1/\0<=J_ r v.number 0) ∨
 (r.kind=8/\v.number=0/\v.bytes=[]/\v.items.length<=1) ∨
 (r.kind=9/\v.number=0/\v.bytes=[]/\v.items.length=1)
theorem k_n {b:Bt}{r:d_}{p:Nat}{n:Int}(hr:f_w r)(h:a_j b r p=some n):0<=n/\n<=256 ^ r.size.toNat - 1:=by
 obtain ⟨_,h1,h4⟩:=hr;unfold a_j at h
 split at h
 .cases h
 .rename_i hc
  obtain rfl:=Option.some.inj h;have hl:(a_f b p<|p+r.size.toNat).length=r.size.toNat:=by rw [e_F (by omega)];omega
  unfold e_D
  have key:∀l:Bt,l.length=r.size.toNat->0<=l.foldl b_W 0/\l.foldl b_W 0<=256 ^ r.size.toNat - 1:=by
   intro l hl;have:=o_t l
   rw [hl] at this
   omega
  split
  .exact key _ (by simpa using hl)
  .exact key _ hl
theorem i_D {rs:List d_}{k:Int}(h:0<lim rs k):f_w (F_ rs k)/\lim rs k=256 ^ (F_ rs k).size.toNat - 1:=by
 unfold lim at *
 cases hk:idx rs k with
 | none=>rw [hk] at h;exact absurd h (by decide)
 | some r =>
  rw [hk] at h
  simp only at h ⊢
  have hr:F_ rs k=r:=by
   unfold idx at hk
   split at hk
   .unfold F_;rw [gD_,hk];rfl
   .cases hk
  split at h
  .rename_i hc
   rw [hr,iP_ hc]
   exact ⟨⟨hc.1,hc.2.1,hc.2.2⟩,rfl⟩
  .exact absurd h (by decide)
theorem h_z {rd:Int->Nat->RR}:∀(ks:List Int)(p:Nat),(a_9 rd ks p).2.2=0->(a_9 rd ks p).1.length=ks.length
 | [],p,_=>rfl
 | k::ks,p,h=>by
  unfold a_9 at *
  by_cases G:(rd k p).2.2=0
  .rw [iP_ G] at *
   by_cases h1:(a_9 rd ks (rd k p).2.1).2.2=0
   .rw [iP_ h1] at *
    simp only [lC_]
    rw [h_z ks _ h1]
   .rw [iN_ h1] at h;exact absurd h h1
  .rw [iN_ G] at h;exact absurd h G
theorem i_E {b:Bt}{r:d_}{num:Int}{at_:Nat}{x:List Val×Nat×Int}:(b_c b r num at_ x).1.bytes=[]:=by
 unfold b_c
 split
 .split
  .split
   .rfl
   .split <;> rfl
  .rfl
 .rfl
section
variable {d:c_}{b:Bt}
theorem l_E (hv:O_ d=true)(hb:b.length<=400){i:Nat}(hi:i<d.rules.length){p:Nat}(hp:p<=b.length)(hok:(rdW d.rules b i p).2.2=0):Own d.rules d.rules[i] (rdW d.rules b i p).1:=by
 have hr:=a_O hv hi;have hby:=o_z hv hi hp;have hle:=c_L (b:=b) hv i hi p hp
 rw [g_x hv hi hp] at *
 have hal:=e_H hr.kind;have hkk:=hr.kids;have hkind:=hr.kind;generalize d.rules[i]=r at *
 have hbl:((rdB d.rules b r p<|λk p=>rdW d.rules b k.toNat p).1.bytes.length:Int)<=400:=by omega
 unfold rdB at *
 have hcase:r.kind=1∨r.kind=2∨r.kind=3∨r.kind=4∨r.kind=5∨r.kind=6∨r.kind=7∨r.kind=8∨r.kind=9∨r.kind=10:=by omega
 rcases hcase with h | h | h | h | h | h | h | h | h | h
 .rw [h] at hok hbl ⊢
  simp only [bQ_,fT_] at hok hbl ⊢
  cases hq:a_j b r p with
  | none=>rw [hq] at hok;cases hok
  | some n =>
   have:=k_n (d_J hkind h) hq;exact .inl ⟨h,this.1,this.2,rfl,rfl⟩
 .rw [h]
  exact .inr<|.inl ⟨h,rfl,rfl,rfl⟩
 .rw [h] at hok hbl ⊢
  simp only [Int.reduceBEq,bF_,fF_,bQ_,fT_] at hok hbl ⊢
  have hs:=g_w hkind h;unfold a_J at hok ⊢
  split at hok
  .cases hok
  .rename_i hc
   rw [iN_ hc]
   exact .inr (.inr (.inl ⟨h,rfl,by show ((a_f b p<|p+r.size.toNat).length:Int)=r.size;rw [e_F (by omega)];omega,rfl⟩))
 .rw [h] at hok hbl ⊢
  simp only [Int.reduceBEq,bF_,fF_,bQ_,fT_] at hok hbl ⊢
  obtain ⟨hl,_⟩:=e_7 hkind h;obtain ⟨hint,hlim⟩:=i_D hl
  cases hq:a_j b (F_ d.rules<|k_ r) p with
  | none=>rw [hq] at hok;cases hok
  | some n =>
   have hn:=k_n hint hq;have hrg:=d_l hint hq
   rw [hq] at hok hbl
   simp only at hok hbl ⊢
   unfold a_J at hok hbl ⊢
   split at hok
   .cases hok
   .rename_i hc
    rw [iN_ hc] at hbl ⊢
    refine .inr<|.inr<|.inr<|.inl ⟨h,rfl,hbl,?_,rfl⟩
    show ((a_f b (p+(F_ d.rules<|k_ r).size.toNat)<|p+(F_ d.rules<|k_ r).size.toNat+n.toNat).length:Int)<=lim d.rules (k_ r)
    rw [e_F (by omega),hlim];omega
 .rw [h] at hok ⊢
  simp only [Int.reduceBEq,bF_,fF_] at hok ⊢
  obtain ⟨hl,_⟩:=c_X hkind h;obtain ⟨hint,hlim⟩:=i_D hl;unfold a_d at hok ⊢
  rw [h] at hok ⊢
  simp only [bQ_,fT_] at hok ⊢
  cases hq:a_j b (F_ d.rules<|k_ r) p with
  | none=>rw [hq] at hok;cases hok
  | some n =>
   have hn:=k_n hint hq
   rw [hq] at hok
   simp only at hok ⊢
   by_cases h40:40<n
   .rw [iP_ h40] at hok;cases hok
   .rw [iN_ h40] at hok
    rw [iN_ h40]
    simp only at hok ⊢
    obtain ⟨H,G,f3⟩:=h_x hok (λI=>by omega);have hlen:=h_z _ _ f3
    rw [List.length_replicate] at hlen
    exact .inr<|.inr<|.inr<|.inr<|.inr (.inl ⟨h,G,i_E,by rw [H,hlen];omega,by rw [H,hlen,hlim];omega⟩)
 .rw [h] at hok ⊢
  simp only [Int.reduceBEq,bF_,fF_] at hok ⊢
  unfold a_d at hok ⊢
  rw [h] at hok ⊢
  simp only [Int.reduceBEq,bF_,fF_,bQ_,fT_] at hok ⊢
  obtain ⟨H,G,f3⟩:=h_x hok (λI=>by omega);exact .inr<|.inr<|.inr<|.inr<|.inr<|.inr (.inl ⟨h,G,i_E,by rw [H,h_z _ _ f3]⟩)
 .rw [h] at hok ⊢
  simp only [Int.reduceBEq,bF_,fF_] at hok ⊢
  obtain ⟨hl,hkl,_,_⟩:=d_K hkind h;obtain ⟨hint,hlim⟩:=i_D hl;unfold a_d at hok ⊢
  rw [h] at hok ⊢
  simp only [Int.reduceBEq,bF_,fF_,bQ_,fT_] at hok ⊢
  cases hq:a_j b (F_ d.rules<|k_ r) p with
  | none=>rw [hq] at hok;cases hok
  | some n =>
   have hn:=k_n hint hq
   rw [hq] at hok
   simp only at hok ⊢
   cases ht:b_5 r.tags n with
   | none=>rw [ht] at hok;cases hok
   | some k =>
    rw [ht] at hok
    simp only at hok ⊢
    obtain ⟨H,G,f3⟩:=h_x hok (λI=>by omega);have hlen:=h_z _ _ f3;have hkt:=k_j ht;refine .inr<|.inr<|.inr<|.inr<|.inr<|.inr<|.inr (.inl ⟨h,by rw [G];exact hn.1,by rw [G,hlim];exact hn.2,i_E,by rw [H,hlen];rfl,?_⟩)
    rw [G]
    unfold J_
    rw [h,ht]
    simp only [Int.reduceBEq,bF_,fF_,bQ_,fT_]
    exact (hkk _<|d_m (by omega)).1
 .rw [h] at hok ⊢
  simp only [Int.reduceBEq,bF_,fF_] at hok ⊢
  unfold a_d at hok ⊢
  rw [h] at hok ⊢
  simp only [Int.reduceBEq,bF_,fF_,bQ_,fT_] at hok ⊢
  cases hq:b[p]? with
  | none=>rw [hq] at hok;cases hok
  | some c =>
   rw [hq] at hok
   simp only at hok ⊢
   by_cases h1:1<byteI c
   .rw [iP_ h1] at hok;cases hok
   .rw [iN_ h1] at hok
    rw [iN_ h1]
    simp only at hok ⊢
    obtain ⟨H,G,f3⟩:=h_x hok (λI=>by omega);have hlen:=h_z _ _ f3
    rw [List.length_replicate] at hlen
    have hc:c.toNat<=1:=by unfold byteI at h1;omega
    exact .inr<|.inr<|.inr<|.inr<|.inr<|.inr<|.inr<|.inr (.inl ⟨h,G,i_E,by rw [H,hlen];exact hc⟩)
 .rw [h] at hok ⊢
  simp only [Int.reduceBEq,bF_,fF_] at hok ⊢
  unfold a_d at hok ⊢
  rw [h] at hok ⊢
  simp only [Int.reduceBEq,bF_,fF_] at hok ⊢
  obtain ⟨H,G,f3⟩:=h_x hok<|λ_=>rfl;exact .inr<|.inr<|.inr<|.inr<|.inr<|.inr<|.inr<|.inr (.inr ⟨h,G,i_E,by rw [H,h_z _ _ f3];rfl⟩)
 .rw [h] at hok hbl ⊢
  simp only [Int.reduceBEq,bF_,fF_,bQ_,fT_] at hok hbl ⊢
  cases hq:d_k b p (r.bytes.getD 0 0) with
  | none=>rw [hq] at hok;cases hok
  | some x =>
   obtain ⟨c,q⟩:=x
   rw [hq] at hbl
   exact .inr<|.inr<|.inr<|.inr<|.inl ⟨h,rfl,hbl,rfl⟩
theorem o_O {rd:Int->Nat->RR}{L:Nat}:∀{ks:List Int}{p:Nat}{vs:List Val}{e:Nat},e_9 rd L ks p vs e->vs.length=ks.length/\∀m (hm:m<ks.length) (hm':m<vs.length),∃q,q<=L/\(rd ks[m] q).2.2=0/\vs[m]=(rd ks[m] q).1
 | [],p,vs,e,h=>⟨by rw [h.1];rfl,λm hm=>by simp at hm⟩
 | k::ks,p,vs,e,h=>by
  obtain ⟨h1,h2,ws,rfl,h3⟩:=h;obtain ⟨G,H⟩:=o_O h3;refine ⟨by simp [G],λm hm hm'=>?_⟩
  cases m with
  | zero=>exact ⟨p,h1,h2,rfl⟩
  | succ m=>exact H m (by simpa using hm) (by simpa using hm')
theorem k_o (hv:O_ d=true){i:Nat}(hi:i<d.rules.length){p:Nat}(hp:p<=b.length)(hok:(rdW d.rules b i p).2.2=0):∀j (hj:j<(rdW d.rules b i p).1.items.length),∃k q:Nat,J_ d.rules[i] (rdW d.rules b i p).1.number j=(k:Int)/\k<i/\q<=b.length/\(rdW d.rules b k q).2.2=0/\(rdW d.rules b i p).1.items[j]=(rdW d.rules b k q).1:=by
 obtain ⟨ks,e,h⟩:=k_s hv hi hp hok;have hr:=a_O hv hi;obtain ⟨L,G⟩:=o_O h.ch;intro j hj;have hjk:j<ks.length:=by omega
 obtain ⟨q,H,I,J⟩:=G j hjk hj;have hk:=hr.kids _<|h.kids _<|gE_ hjk;refine ⟨ks[j].toNat,q,?_,by omega,H,I,J⟩
 rw [h.item j hjk];omega
end
end Go.Vw
