
import Derived.Test.YtlagjoejlchiiaaGreatDoorVwP23
namespace Go.Vw
open Go.RowKit Dat
def Own (rs:List b_)(r:b_)(v:Val):Prop :=
 (r.kind=1/\0<=v.number/\v.number<=256 ^ r.size.toNat - 1/\v.bytes=[]/\v.items=[]) ∨
 (r.kind=2/\v.number=0/\v.bytes=[]/\v.items=[]) ∨
 (r.kind=3/\v.number=0/\(v.bytes.length:Int)=r.size/\v.items=[]) ∨
 (r.kind=4/\v.number=0/\(v.bytes.length:Int)<=400/\(v.bytes.length:Int)<=lim rs (m_ r)/\v.items=[]) ∨
 (r.kind=10/\v.number=0/\(v.bytes.length:Int)<=400/\v.items=[]) ∨
 (r.kind=5/\v.number=0/\v.bytes=[]/\(v.items.length:Int)<=40/\(v.items.length:Int)<=lim rs (m_ r)) ∨
 (r.kind=6/\v.number=0/\v.bytes=[]/\v.items.length=r.kids.length) ∨
 (r.kind=7/\0<=v.number/\v.number<=lim rs (m_ r)/\v.bytes=[]/\v.items.length=1/\0<=a_e r v.number 0) ∨
 (r.kind=8/\v.number=0/\v.bytes=[]/\v.items.length<=1) ∨
 (r.kind=9/\v.number=0/\v.bytes=[]/\v.items.length=1)
theorem h_D {b:List UInt8}{r:b_}{p:Nat}{n:Int}(hr:c_Z r)(h:L_ b r p=some n):0<=n/\n<=256 ^ r.size.toNat - 1:=by
 obtain ⟨_,h1,h4⟩:=hr;unfold L_ at h
 split at h
 ·cases h
 ·rename_i hc
  obtain rfl:=Option.some.inj h;have hl:(X_ b p<|p+r.size.toNat).length=r.size.toNat:=by rw [c_d (by omega)];omega
  unfold c_Y
  have key:∀l:List UInt8,l.length=r.size.toNat->0<=l.foldl b_f 0/\l.foldl b_f 0<=256 ^ r.size.toNat - 1:=by
   intro l hl;have:=l_6 l
   rw [hl] at this
   omega
  split
  ·exact key _ (by simpa using hl)
  ·exact key _ hl
theorem h_E {rs:List b_}{k:Int}(h:0<lim rs k):c_Z (v_ rs k)/\lim rs k=256 ^ (v_ rs k).size.toNat - 1:=by
 unfold lim at *
 cases hk:idx rs k with
 | none=>rw [hk] at h;exact absurd h (by decide)
 | some r =>
  rw [hk] at h
  simp only at h ⊢
  have hr:v_ rs k=r:=by
   unfold idx at hk
   split at hk
   ·unfold v_;rw [gD_,hk];rfl
   ·cases hk
  split at h
  ·rename_i hc
   rw [hr,iP_ hc]
   exact ⟨⟨hc.1,hc.2.1,hc.2.2⟩,rfl⟩
  ·exact absurd h (by decide)
theorem e_B {rd:Int->Nat->RR}:∀(ks:List Int)(p:Nat),(F_ rd ks p).2.2=0->(F_ rd ks p).1.length=ks.length
 | [],p,_=>rfl
 | k::ks,p,h=>by
  unfold F_ at *
  by_cases G:(rd k p).2.2=0
  ·rw [iP_ G] at *
   by_cases h1:(F_ rd ks (rd k p).2.1).2.2=0
   ·rw [iP_ h1] at *
    simp only [lC_]
    rw [e_B ks _ h1]
   ·rw [iN_ h1] at h;exact absurd h h1
  ·rw [iN_ G] at h;exact absurd h G
theorem f_A {b:List UInt8}{r:b_}{num:Int}{at_:Nat}{x:List Val×Nat×Int}:(a_o b r num at_ x).1.bytes=[]:=by
 unfold a_o
 split
 ·split
  ·split
   ·rfl
   ·split <;> rfl
  ·rfl
 ·rfl
section
variable {d:d_}{b:List UInt8}
theorem j_h (hv:N_ d=true)(hb:b.length<=400){i:Nat}(hi:i<d.rules.length){p:Nat}(hp:p<=b.length)(hok:(rdW d.rules b i p).2.2=0):Own d.rules d.rules[i] (rdW d.rules b i p).1:=by
 have hr:=b_2 hv hi;have hby:=l_m hv hi hp;have hle:=b_w (b:=b) hv i hi p hp
 rw [d_v hv hi hp] at *
 have hal:=e_2 hr.kind;have hkk:=hr.kids;have hkind:=hr.kind;generalize d.rules[i]=r at *
 have hbl:((rdB d.rules b r p<|fun k p=>rdW d.rules b k.toNat p).1.bytes.length:Int)<=400:=by omega
 unfold rdB at *
 have hcase:r.kind=1∨r.kind=2∨r.kind=3∨r.kind=4∨r.kind=5∨r.kind=6∨r.kind=7∨r.kind=8∨r.kind=9∨r.kind=10:=by omega
 rcases hcase with h | h | h | h | h | h | h | h | h | h
 ·rw [h] at hok hbl ⊢
  simp only [bQ_,fT_] at hok hbl ⊢
  cases hq:L_ b r p with
  | none=>rw [hq] at hok;cases hok
  | some n =>
   have:=h_D (d_0 hkind h) hq;exact .inl ⟨h,this.1,this.2,rfl,rfl⟩
 ·rw [h]
  exact .inr<|.inl ⟨h,rfl,rfl,rfl⟩
 ·rw [h] at hok hbl ⊢
  simp only [show ((3:Int)==1)=false from rfl,show ((3:Int)==2)=false from rfl,bF_,fF_,bQ_,fT_] at hok hbl ⊢
  have hs:=e_1 hkind h;unfold a_k at hok ⊢
  split at hok
  ·cases hok
  ·rename_i hc
   rw [iN_ hc]
   exact .inr (.inr (.inl ⟨h,rfl,by show ((X_ b p<|p+r.size.toNat).length:Int)=r.size;rw [c_d (by omega)];omega,rfl⟩))
 ·rw [h] at hok hbl ⊢
  simp only [show ((4:Int)==1)=false from rfl,show ((4:Int)==2)=false from rfl,show ((4:Int)==3)=false from rfl,bF_,fF_,bQ_,fT_] at hok hbl ⊢
  obtain ⟨hl,_⟩:=d_t hkind h;obtain ⟨hint,hlim⟩:=h_E hl
  cases hq:L_ b (v_ d.rules<|m_ r) p with
  | none=>rw [hq] at hok;cases hok
  | some n =>
   have hn:=h_D hint hq;have hrg:=b_g hint hq
   rw [hq] at hok hbl
   simp only at hok hbl ⊢
   unfold a_k at hok hbl ⊢
   split at hok
   ·cases hok
   ·rename_i hc
    rw [iN_ hc] at hbl ⊢
    refine .inr<|.inr<|.inr<|.inl ⟨h,rfl,hbl,?_,rfl⟩
    show ((X_ b (p+(v_ d.rules<|m_ r).size.toNat)<|p+(v_ d.rules<|m_ r).size.toNat+n.toNat).length:Int)<=lim d.rules (m_ r)
    rw [c_d (by omega),hlim];omega
 ·rw [h] at hok ⊢
  simp only [show ((5:Int)==1)=false from rfl,show ((5:Int)==2)=false from rfl,show ((5:Int)==3)=false from rfl,show ((5:Int)==4)=false from rfl,show ((5:Int)==10)=false from rfl,bF_,fF_] at hok ⊢
  obtain ⟨hl,_⟩:=c_e hkind h;obtain ⟨hint,hlim⟩:=h_E hl;unfold E_ at hok ⊢
  rw [h] at hok ⊢
  simp only [bQ_,fT_] at hok ⊢
  cases hq:L_ b (v_ d.rules<|m_ r) p with
  | none=>rw [hq] at hok;cases hok
  | some n =>
   have hn:=h_D hint hq
   rw [hq] at hok
   simp only at hok ⊢
   by_cases I:40<n
   ·rw [iP_ I] at hok;cases hok
   ·rw [iN_ I] at hok
    rw [iN_ I]
    simp only at hok ⊢
    obtain ⟨H,G,f3⟩:=f_r hok (fun J=>by omega);have hlen:=e_B _ _ f3
    rw [List.length_replicate] at hlen
    exact .inr<|.inr<|.inr<|.inr<|.inr (.inl ⟨h,G,f_A,by rw [H,hlen];omega,by rw [H,hlen,hlim];omega⟩)
 ·rw [h] at hok ⊢
  simp only [show ((6:Int)==1)=false from rfl,show ((6:Int)==2)=false from rfl,show ((6:Int)==3)=false from rfl,show ((6:Int)==4)=false from rfl,show ((6:Int)==10)=false from rfl,bF_,fF_] at hok ⊢
  unfold E_ at hok ⊢
  rw [h] at hok ⊢
  simp only [show ((6:Int)==5)=false from rfl,bF_,fF_,bQ_,fT_] at hok ⊢
  obtain ⟨H,G,f3⟩:=f_r hok (fun J=>by omega);exact .inr<|.inr<|.inr<|.inr<|.inr<|.inr (.inl ⟨h,G,f_A,by rw [H,e_B _ _ f3]⟩)
 ·rw [h] at hok ⊢
  simp only [show ((7:Int)==1)=false from rfl,show ((7:Int)==2)=false from rfl,show ((7:Int)==3)=false from rfl,show ((7:Int)==4)=false from rfl,show ((7:Int)==10)=false from rfl,bF_,fF_] at hok ⊢
  obtain ⟨hl,hkl,_,_⟩:=c_u hkind h;obtain ⟨hint,hlim⟩:=h_E hl;unfold E_ at hok ⊢
  rw [h] at hok ⊢
  simp only [show ((7:Int)==5)=false from rfl,show ((7:Int)==6)=false from rfl,bF_,fF_,bQ_,fT_] at hok ⊢
  cases hq:L_ b (v_ d.rules<|m_ r) p with
  | none=>rw [hq] at hok;cases hok
  | some n =>
   have hn:=h_D hint hq
   rw [hq] at hok
   simp only at hok ⊢
   cases ht:a_x r.tags n with
   | none=>rw [ht] at hok;cases hok
   | some k =>
    rw [ht] at hok
    simp only at hok ⊢
    obtain ⟨H,G,f3⟩:=f_r hok (fun J=>by omega);have hlen:=e_B _ _ f3;have hkt:=f_x ht;refine .inr<|.inr<|.inr<|.inr<|.inr<|.inr<|.inr (.inl ⟨h,by rw [G];exact hn.1,by rw [G,hlim];exact hn.2,f_A,by rw [H,hlen];rfl,?_⟩)
    rw [G]
    unfold a_e
    rw [h,ht]
    simp only [show ((7:Int)==5)=false from rfl,show ((7:Int)==6)=false from rfl,bF_,fF_,bQ_,fT_]
    exact (hkk _<|b_3 (by omega)).1
 ·rw [h] at hok ⊢
  simp only [show ((8:Int)==1)=false from rfl,show ((8:Int)==2)=false from rfl,show ((8:Int)==3)=false from rfl,show ((8:Int)==4)=false from rfl,show ((8:Int)==10)=false from rfl,bF_,fF_] at hok ⊢
  unfold E_ at hok ⊢
  rw [h] at hok ⊢
  simp only [show ((8:Int)==5)=false from rfl,show ((8:Int)==6)=false from rfl,show ((8:Int)==7)=false from rfl,bF_,fF_,bQ_,fT_] at hok ⊢
  cases hq:b[p]? with
  | none=>rw [hq] at hok;cases hok
  | some c =>
   rw [hq] at hok
   simp only at hok ⊢
   by_cases h1:1<byteI c
   ·rw [iP_ h1] at hok;cases hok
   ·rw [iN_ h1] at hok
    rw [iN_ h1]
    simp only at hok ⊢
    obtain ⟨H,G,f3⟩:=f_r hok (fun J=>by omega);have hlen:=e_B _ _ f3
    rw [List.length_replicate] at hlen
    have hc:c.toNat<=1:=by unfold byteI at h1;omega
    exact .inr<|.inr<|.inr<|.inr<|.inr<|.inr<|.inr<|.inr (.inl ⟨h,G,f_A,by rw [H,hlen];exact hc⟩)
 ·rw [h] at hok ⊢
  simp only [show ((9:Int)==1)=false from rfl,show ((9:Int)==2)=false from rfl,show ((9:Int)==3)=false from rfl,show ((9:Int)==4)=false from rfl,show ((9:Int)==10)=false from rfl,bF_,fF_] at hok ⊢
  unfold E_ at hok ⊢
  rw [h] at hok ⊢
  simp only [show ((9:Int)==5)=false from rfl,show ((9:Int)==6)=false from rfl,show ((9:Int)==7)=false from rfl,show ((9:Int)==8)=false from rfl,bF_,fF_] at hok ⊢
  obtain ⟨H,G,f3⟩:=f_r hok<|fun _=>rfl;exact .inr<|.inr<|.inr<|.inr<|.inr<|.inr<|.inr<|.inr (.inr ⟨h,G,f_A,by rw [H,e_B _ _ f3];rfl⟩)
 ·rw [h] at hok hbl ⊢
  simp only [show ((10:Int)==1)=false from rfl,show ((10:Int)==2)=false from rfl,show ((10:Int)==3)=false from rfl,show ((10:Int)==4)=false from rfl,bF_,fF_,bQ_,fT_] at hok hbl ⊢
  cases hq:c_0 b p (r.bytes.getD 0 0) with
  | none=>rw [hq] at hok;cases hok
  | some x =>
   obtain ⟨c,q⟩:=x
   rw [hq] at hbl
   exact .inr<|.inr<|.inr<|.inr<|.inl ⟨h,rfl,hbl,rfl⟩
theorem l_A {rd:Int->Nat->RR}{L:Nat}:∀{ks:List Int}{p:Nat}{vs:List Val}{e:Nat},e_C rd L ks p vs e->vs.length=ks.length/\∀m (hm:m<ks.length) (hm':m<vs.length),∃q,q<=L/\(rd ks[m] q).2.2=0/\vs[m]=(rd ks[m] q).1
 | [],p,vs,e,h=>⟨by rw [h.1];rfl,fun m hm=>by simp at hm⟩
 | k::ks,p,vs,e,h=>by
  obtain ⟨h1,h2,ws,rfl,h3⟩:=h;obtain ⟨G,H⟩:=l_A h3;refine ⟨by simp [G],fun m hm hm'=>?_⟩
  cases m with
  | zero=>exact ⟨p,h1,h2,rfl⟩
  | succ m=>exact H m (by simpa using hm) (by simpa using hm')
theorem j_i (hv:N_ d=true){i:Nat}(hi:i<d.rules.length){p:Nat}(hp:p<=b.length)(hok:(rdW d.rules b i p).2.2=0):∀j (hj:j<(rdW d.rules b i p).1.items.length),∃k q:Nat,a_e d.rules[i] (rdW d.rules b i p).1.number j=(k:Int)/\k<i/\q<=b.length/\(rdW d.rules b k q).2.2=0/\(rdW d.rules b i p).1.items[j]=(rdW d.rules b k q).1:=by
 obtain ⟨ks,e,h⟩:=j_p hv hi hp hok;have hr:=b_2 hv hi;obtain ⟨L,G⟩:=l_A h.ch;intro j hj;have hjk:j<ks.length:=by omega
 obtain ⟨q,H,I,J⟩:=G j hjk hj;have hk:=hr.kids _<|h.kids _<|gE_ hjk;refine ⟨ks[j].toNat,q,?_,by omega,H,I,J⟩
 rw [h.item j hjk];omega
end
end Go.Vw
