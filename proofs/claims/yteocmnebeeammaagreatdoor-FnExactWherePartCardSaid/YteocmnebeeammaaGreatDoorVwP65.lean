
import Derived.Test.YteocmnebeeammaaGreatDoorVwP23
namespace Go.Vw
open Go.RowKit Dat
def Own (rs:List b_)(r:b_)(v:Val):Prop :=
 (r.kind=1/\0<=v.number/\v.number<=256 ^ r.size.toNat - 1/\v.bytes=[]/\v.items=[]) ∨
 (r.kind=2/\v.number=0/\v.bytes=[]/\v.items=[]) ∨
 (r.kind=3/\v.number=0/\(v.bytes.length:Int)=r.size/\v.items=[]) ∨
 (r.kind=4/\v.number=0/\(v.bytes.length:Int)<=400/\(v.bytes.length:Int)<=lim rs (q_ r)/\v.items=[]) ∨
 (r.kind=10/\v.number=0/\(v.bytes.length:Int)<=400/\v.items=[]) ∨
 (r.kind=5/\v.number=0/\v.bytes=[]/\(v.items.length:Int)<=40/\(v.items.length:Int)<=lim rs (q_ r)) ∨
 (r.kind=6/\v.number=0/\v.bytes=[]/\v.items.length=r.kids.length) ∨
 (r.kind=7/\0<=v.number/\v.number<=lim rs (q_ r)/\v.bytes=[]/\v.items.length=1/\0<=a_l r v.number 0) ∨
 (r.kind=8/\v.number=0/\v.bytes=[]/\v.items.length<=1) ∨
 (r.kind=9/\v.number=0/\v.bytes=[]/\v.items.length=1)
theorem j_v {b:Bt}{r:b_}{p:Nat}{n:Int}(hr:d_Z r)(h:O_ b r p=some n):0<=n/\n<=256 ^ r.size.toNat - 1:=by
 obtain ⟨_,h1,h4⟩:=hr;unfold O_ at h
 split at h
 .cases h
 .rename_i hc
  obtain rfl:=Option.some.inj h;have hl:(a_6 b p<|p+r.size.toNat).length=r.size.toNat:=by rw [c_T (by omega)];omega
  unfold d_X
  have key:∀l:Bt,l.length=r.size.toNat->0<=l.foldl b_F 0/\l.foldl b_F 0<=256 ^ r.size.toNat - 1:=by
   intro l hl;have:=n_t l
   rw [hl] at this
   omega
  split
  .exact key _ (by simpa using hl)
  .exact key _ hl
theorem j_w {rs:List b_}{k:Int}(h:0<lim rs k):d_Z (z_ rs k)/\lim rs k=256 ^ (z_ rs k).size.toNat - 1:=by
 unfold lim at *
 cases hk:idx rs k with
 | none=>rw [hk] at h;exact absurd h (by decide)
 | some r =>
  rw [hk] at h
  simp only at h ⊢
  have hr:z_ rs k=r:=by
   unfold idx at hk
   split at hk
   .unfold z_;rw [gD_,hk];rfl
   .cases hk
  split at h
  .rename_i hc
   rw [hr,iP_ hc]
   exact ⟨⟨hc.1,hc.2.1,hc.2.2⟩,rfl⟩
  .exact absurd h (by decide)
theorem f_Y {rd:Int->Nat->RR}:∀(ks:List Int)(p:Nat),(M_ rd ks p).2.2=0->(M_ rd ks p).1.length=ks.length
 | [],p,_=>rfl
 | k::ks,p,h=>by
  unfold M_ at *
  by_cases G:(rd k p).2.2=0
  .rw [iP_ G] at *
   by_cases h1:(M_ rd ks (rd k p).2.1).2.2=0
   .rw [iP_ h1] at *
    simp only [lC_]
    rw [f_Y ks _ h1]
   .rw [iN_ h1] at h;exact absurd h h1
  .rw [iN_ G] at h;exact absurd h G
theorem h_4 {b:Bt}{r:b_}{num:Int}{at_:Nat}{x:List Val×Nat×Int}:(a_D b r num at_ x).1.bytes=[]:=by
 unfold a_D
 split
 .split
  .split
   .rfl
   .split <;> rfl
  .rfl
 .rfl
section
variable {d:d_}{b:Bt}
theorem l_d (hv:G_ d=true)(hb:b.length<=400){i:Nat}(hi:i<d.rules.length){p:Nat}(hp:p<=b.length)(hok:(rdW d.rules b i p).2.2=0):Own d.rules d.rules[i] (rdW d.rules b i p).1:=by
 have hr:=a_A hv hi;have hby:=n_I hv hi hp;have hle:=b_B (b:=b) hv i hi p hp
 rw [d_D hv hi hp] at *
 have hal:=e_y hr.kind;have hkk:=hr.kids;have hkind:=hr.kind;generalize d.rules[i]=r at *
 have hbl:((rdB d.rules b r p<|λk p=>rdW d.rules b k.toNat p).1.bytes.length:Int)<=400:=by omega
 unfold rdB at *
 have hcase:r.kind=1∨r.kind=2∨r.kind=3∨r.kind=4∨r.kind=5∨r.kind=6∨r.kind=7∨r.kind=8∨r.kind=9∨r.kind=10:=by omega
 rcases hcase with h | h | h | h | h | h | h | h | h | h
 .rw [h] at hok hbl ⊢
  simp only [bQ_,fT_] at hok hbl ⊢
  cases hq:O_ b r p with
  | none=>rw [hq] at hok;cases hok
  | some n =>
   have:=j_v (e_0 hkind h) hq;exact .inl ⟨h,this.1,this.2,rfl,rfl⟩
 .rw [h]
  exact .inr<|.inl ⟨h,rfl,rfl,rfl⟩
 .rw [h] at hok hbl ⊢
  simp only [show ((3:Int)==1)=false from rfl,show ((3:Int)==2)=false from rfl,bF_,fF_,bQ_,fT_] at hok hbl ⊢
  have hs:=f_a hkind h;unfold a_v at hok ⊢
  split at hok
  .cases hok
  .rename_i hc
   rw [iN_ hc]
   exact .inr (.inr (.inl ⟨h,rfl,by show ((a_6 b p<|p+r.size.toNat).length:Int)=r.size;rw [c_T (by omega)];omega,rfl⟩))
 .rw [h] at hok hbl ⊢
  simp only [show ((4:Int)==1)=false from rfl,show ((4:Int)==2)=false from rfl,show ((4:Int)==3)=false from rfl,bF_,fF_,bQ_,fT_] at hok hbl ⊢
  obtain ⟨hl,_⟩:=e_x hkind h;obtain ⟨hint,hlim⟩:=j_w hl
  cases hq:O_ b (z_ d.rules<|q_ r) p with
  | none=>rw [hq] at hok;cases hok
  | some n =>
   have hn:=j_v hint hq;have hrg:=b_G hint hq
   rw [hq] at hok hbl
   simp only at hok hbl ⊢
   unfold a_v at hok hbl ⊢
   split at hok
   .cases hok
   .rename_i hc
    rw [iN_ hc] at hbl ⊢
    refine .inr<|.inr<|.inr<|.inl ⟨h,rfl,hbl,?_,rfl⟩
    show ((a_6 b (p+(z_ d.rules<|q_ r).size.toNat)<|p+(z_ d.rules<|q_ r).size.toNat+n.toNat).length:Int)<=lim d.rules (q_ r)
    rw [c_T (by omega),hlim];omega
 .rw [h] at hok ⊢
  simp only [show ((5:Int)==1)=false from rfl,show ((5:Int)==2)=false from rfl,show ((5:Int)==3)=false from rfl,show ((5:Int)==4)=false from rfl,show ((5:Int)==10)=false from rfl,bF_,fF_] at hok ⊢
  obtain ⟨hl,_⟩:=c_p hkind h;obtain ⟨hint,hlim⟩:=j_w hl;unfold I_ at hok ⊢
  rw [h] at hok ⊢
  simp only [bQ_,fT_] at hok ⊢
  cases hq:O_ b (z_ d.rules<|q_ r) p with
  | none=>rw [hq] at hok;cases hok
  | some n =>
   have hn:=j_v hint hq
   rw [hq] at hok
   simp only at hok ⊢
   by_cases I:40<n
   .rw [iP_ I] at hok;cases hok
   .rw [iN_ I] at hok
    rw [iN_ I]
    simp only at hok ⊢
    obtain ⟨H,G,f3⟩:=f_S hok (λJ=>by omega);have hlen:=f_Y _ _ f3
    rw [List.length_replicate] at hlen
    exact .inr<|.inr<|.inr<|.inr<|.inr (.inl ⟨h,G,h_4,by rw [H,hlen];omega,by rw [H,hlen,hlim];omega⟩)
 .rw [h] at hok ⊢
  simp only [show ((6:Int)==1)=false from rfl,show ((6:Int)==2)=false from rfl,show ((6:Int)==3)=false from rfl,show ((6:Int)==4)=false from rfl,show ((6:Int)==10)=false from rfl,bF_,fF_] at hok ⊢
  unfold I_ at hok ⊢
  rw [h] at hok ⊢
  simp only [show ((6:Int)==5)=false from rfl,bF_,fF_,bQ_,fT_] at hok ⊢
  obtain ⟨H,G,f3⟩:=f_S hok (λJ=>by omega);exact .inr<|.inr<|.inr<|.inr<|.inr<|.inr (.inl ⟨h,G,h_4,by rw [H,f_Y _ _ f3]⟩)
 .rw [h] at hok ⊢
  simp only [show ((7:Int)==1)=false from rfl,show ((7:Int)==2)=false from rfl,show ((7:Int)==3)=false from rfl,show ((7:Int)==4)=false from rfl,show ((7:Int)==10)=false from rfl,bF_,fF_] at hok ⊢
  obtain ⟨hl,hkl,_,_⟩:=c_B hkind h;obtain ⟨hint,hlim⟩:=j_w hl;unfold I_ at hok ⊢
  rw [h] at hok ⊢
  simp only [show ((7:Int)==5)=false from rfl,show ((7:Int)==6)=false from rfl,bF_,fF_,bQ_,fT_] at hok ⊢
  cases hq:O_ b (z_ d.rules<|q_ r) p with
  | none=>rw [hq] at hok;cases hok
  | some n =>
   have hn:=j_v hint hq
   rw [hq] at hok
   simp only at hok ⊢
   cases ht:a_S r.tags n with
   | none=>rw [ht] at hok;cases hok
   | some k =>
    rw [ht] at hok
    simp only at hok ⊢
    obtain ⟨H,G,f3⟩:=f_S hok (λJ=>by omega);have hlen:=f_Y _ _ f3;have hkt:=h_2 ht;refine .inr<|.inr<|.inr<|.inr<|.inr<|.inr<|.inr (.inl ⟨h,by rw [G];exact hn.1,by rw [G,hlim];exact hn.2,h_4,by rw [H,hlen];rfl,?_⟩)
    rw [G]
    unfold a_l
    rw [h,ht]
    simp only [show ((7:Int)==5)=false from rfl,show ((7:Int)==6)=false from rfl,bF_,fF_,bQ_,fT_]
    exact (hkk _<|b_t (by omega)).1
 .rw [h] at hok ⊢
  simp only [show ((8:Int)==1)=false from rfl,show ((8:Int)==2)=false from rfl,show ((8:Int)==3)=false from rfl,show ((8:Int)==4)=false from rfl,show ((8:Int)==10)=false from rfl,bF_,fF_] at hok ⊢
  unfold I_ at hok ⊢
  rw [h] at hok ⊢
  simp only [show ((8:Int)==5)=false from rfl,show ((8:Int)==6)=false from rfl,show ((8:Int)==7)=false from rfl,bF_,fF_,bQ_,fT_] at hok ⊢
  cases hq:b[p]? with
  | none=>rw [hq] at hok;cases hok
  | some c =>
   rw [hq] at hok
   simp only at hok ⊢
   by_cases h1:1<byteI c
   .rw [iP_ h1] at hok;cases hok
   .rw [iN_ h1] at hok
    rw [iN_ h1]
    simp only at hok ⊢
    obtain ⟨H,G,f3⟩:=f_S hok (λJ=>by omega);have hlen:=f_Y _ _ f3
    rw [List.length_replicate] at hlen
    have hc:c.toNat<=1:=by unfold byteI at h1;omega
    exact .inr<|.inr<|.inr<|.inr<|.inr<|.inr<|.inr<|.inr (.inl ⟨h,G,h_4,by rw [H,hlen];exact hc⟩)
 .rw [h] at hok ⊢
  simp only [show ((9:Int)==1)=false from rfl,show ((9:Int)==2)=false from rfl,show ((9:Int)==3)=false from rfl,show ((9:Int)==4)=false from rfl,show ((9:Int)==10)=false from rfl,bF_,fF_] at hok ⊢
  unfold I_ at hok ⊢
  rw [h] at hok ⊢
  simp only [show ((9:Int)==5)=false from rfl,show ((9:Int)==6)=false from rfl,show ((9:Int)==7)=false from rfl,show ((9:Int)==8)=false from rfl,bF_,fF_] at hok ⊢
  obtain ⟨H,G,f3⟩:=f_S hok<|λ_=>rfl;exact .inr<|.inr<|.inr<|.inr<|.inr<|.inr<|.inr<|.inr (.inr ⟨h,G,h_4,by rw [H,f_Y _ _ f3];rfl⟩)
 .rw [h] at hok hbl ⊢
  simp only [show ((10:Int)==1)=false from rfl,show ((10:Int)==2)=false from rfl,show ((10:Int)==3)=false from rfl,show ((10:Int)==4)=false from rfl,bF_,fF_,bQ_,fT_] at hok hbl ⊢
  cases hq:c_z b p (r.bytes.getD 0 0) with
  | none=>rw [hq] at hok;cases hok
  | some x =>
   obtain ⟨c,q⟩:=x
   rw [hq] at hbl
   exact .inr<|.inr<|.inr<|.inr<|.inl ⟨h,rfl,hbl,rfl⟩
theorem o_b {rd:Int->Nat->RR}{L:Nat}:∀{ks:List Int}{p:Nat}{vs:List Val}{e:Nat},d_f rd L ks p vs e->vs.length=ks.length/\∀m (hm:m<ks.length) (hm':m<vs.length),∃q,q<=L/\(rd ks[m] q).2.2=0/\vs[m]=(rd ks[m] q).1
 | [],p,vs,e,h=>⟨by rw [h.1];rfl,λm hm=>by simp at hm⟩
 | k::ks,p,vs,e,h=>by
  obtain ⟨h1,h2,ws,rfl,h3⟩:=h;obtain ⟨G,H⟩:=o_b h3;refine ⟨by simp [G],λm hm hm'=>?_⟩
  cases m with
  | zero=>exact ⟨p,h1,h2,rfl⟩
  | succ m=>exact H m (by simpa using hm) (by simpa using hm')
theorem l_e (hv:G_ d=true){i:Nat}(hi:i<d.rules.length){p:Nat}(hp:p<=b.length)(hok:(rdW d.rules b i p).2.2=0):∀j (hj:j<(rdW d.rules b i p).1.items.length),∃k q:Nat,a_l d.rules[i] (rdW d.rules b i p).1.number j=(k:Int)/\k<i/\q<=b.length/\(rdW d.rules b k q).2.2=0/\(rdW d.rules b i p).1.items[j]=(rdW d.rules b k q).1:=by
 obtain ⟨ks,e,h⟩:=e_4 hv hi hp hok;have hr:=a_A hv hi;obtain ⟨L,G⟩:=o_b h.ch;intro j hj;have hjk:j<ks.length:=by omega
 obtain ⟨q,H,I,J⟩:=G j hjk hj;have hk:=hr.kids _<|h.kids _<|gE_ hjk;refine ⟨ks[j].toNat,q,?_,by omega,H,I,J⟩
 rw [h.item j hjk];omega
end
end Go.Vw
