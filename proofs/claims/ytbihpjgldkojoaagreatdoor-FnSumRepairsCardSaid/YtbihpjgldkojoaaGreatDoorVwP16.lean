
import Derived.Test.YtbihpjgldkojoaaGreatDoorVwP15
namespace Go.Vw
open Go.RowKit Dat
theorem p_w {s:Str}(h:b_e s=true):∀c∈s.b,c ≠ 47/\c ≠ 58:=by
 intro c hc;unfold b_e at h
 rw [aE_,Bool.not_eq_true',List.any_eq_false] at h
 obtain ⟨k,hk,rfl⟩:=List.getElem_of_mem hc;have h1:=h.1 k<|List.mem_range.2 hk;unfold b_p at h1
 rw [gG_ hk] at h1
 simp only at h1
 constructor
 .intro h2;rw [h2] at h1;simp [show e_v 47=false by decide,show b_b 47=false by decide] at h1
 .intro h2;rw [h2] at h1;simp [show e_v 58=false by decide,show b_b 58=false by decide] at h1
theorem l_M {l:List Str}{s:Str}:c_G l s=true ↔ ∃x∈l,x.b=s.b:=by
 unfold c_G;simp
theorem p_x {rs:List d_}{r:d_}(h:a_y rs r=true)(hk:r.kind=6){i j:Nat}(hi:i<r.names.length)(hj:j<r.names.length)(he:r.names[i].b=r.names[j].b):i=j:=by
 unfold a_y at h
 rw [hk] at h
 simp only [show ((6:Int)==1)=false from rfl,show ((6:Int)==2)=false from rfl,show ((6:Int)==3)=false from rfl,show ((6:Int)==4)=false from rfl,show ((6:Int)==5)=false from rfl,bF_,fF_,bQ_,fT_,aE_,Bool.not_eq_true',List.any_eq_false] at h
 have key:∀i j (hi:i<r.names.length) (hj:j<r.names.length),i<j->r.names[i].b ≠ r.names[j].b:=λi j hi hj hij he=>by
  have h1:=h.2.1 j<|List.mem_range.2 hj;unfold c_b at h1
  rw [gG_ hj] at h1
  simp only [Bool.or_eq_true,not_or] at h1
  exact h1.2 (l_M.2 ⟨r.names[i],by rw [List.mem_take_iff_getElem];exact ⟨i,by omega,rfl⟩,he⟩)
 rcases Nat.lt_trichotomy i j with h1 | h1 | h1
 .exact absurd he<|key i j hi hj h1
 .exact h1
 .exact absurd he.symm<|key j i hj hi h1
structure d_1 (s:Str):Prop where
 step:d_Y s=true
 char:∀c∈s.b,c ≠ 47
 len:s.b.length<=21
theorem p_y {s:Str}(h:b_e s=true):d_1 s:=⟨by unfold d_Y;rw [h];rfl,λc hc=>(p_w h c hc).1,by have:=m_I h;omega⟩
theorem p_z {i:Nat}(h:i<=1000000000):d_1 ⟨Lib.itoa i⟩:=⟨by unfold d_Y;rw [l_K i (by omega)];simp,λc hc=>by
  have:=l_F i c (by simpa only [d_W] using hc);intro he;rw [he] at this
  have:byteI (47:UInt8)=47:=rfl
  omega,i_Y i h⟩
structure Ent (d:g_)(b:Bt)(r:d_)(at_:Nat)(ks:List Int)(num:Int):Prop where
 head:Q_ d.rules b r at_ = .inr (num,ks,e_5 d.rules r at_)
 lo:5<=r.kind
 hi:r.kind<=9
theorem p_A {d:g_}{b:Bt}{r:d_}{at_:Nat}{ks:List Int}{num:Int}(hk:a_y d.rules r=true)(h:Ent d b r at_ ks num)(H:ks.length<=40):(∀i j,i<ks.length->j<ks.length->(a_4 r i).b=(a_4 r j).b->i=j)/\∀i,i<ks.length->d_1 (a_4 r i):=by
 have hh:=h.head;have h1:=h.lo;have h2:=h.hi;generalize e_5 d.rules r at_=st at hh
 have one:ks.length<=1->(∀i j,i<ks.length->j<ks.length->(a_4 r i).b=(a_4 r j).b->i=j):=λh i j hi hj _=>by omega
 by_cases h5:r.kind=5
 .have e:∀i,a_4 r i=⟨Lib.itoa i⟩:=λi=>by unfold a_4;rw [h5];rfl
  exact ⟨λi j _ _ he=>by rw [e,e] at he;exact l_H he,λi hi=>by rw [e];exact p_z (by omega)⟩
 by_cases h6:r.kind=6
 .unfold Q_ at hh
  rw [h6] at hh
  have hks:ks=r.kids:=by cases hh;rfl
  have hs:=e_z hk h6;have e:∀i (hi:i<r.names.length),a_4 r i=r.names[i]:=λi hi=>by unfold a_4;rw [h6,dT_ hi,a_j hi];rfl
  subst hks;refine ⟨λi j hi hj he=>?_,λi hi=>?_⟩
  .rw [e i (by omega),e j (by omega)] at he;exact p_x hk h6 (by omega) (by omega) he
  .rw [e i (by omega)];exact p_y<|hs.2.2.2 _<|gE_ (by omega)
 have hlen:ks.length<=1:=by
  unfold Q_ at hh
  rw [show (r.kind==5)=false by simpa using h5,show (r.kind==6)=false by simpa using h6] at hh
  simp only [bF_,fF_] at hh
  split at hh
  .split at hh
   .cases hh
   .split at hh
    .cases hh
    .cases hh;simp
  split at hh
  .split at hh
   .cases hh
   .split at hh
    .cases hh
    .rename_i c _ hc
     cases hh
     have:byteI c=(c.toNat:Int):=rfl
     simp;omega
  .cases hh;simp
 refine ⟨one hlen,λi hi=>?_⟩;have G:i=0:=by omega
 subst G;unfold a_4
 rw [show (r.kind==5)=false by simpa using h5,show (r.kind==6)=false by simpa using h6]
 have:r.kind=7∨r.kind=8∨r.kind=9:=by omega
 rcases this with h | h | h <;> rw [h]
 .exact (show d_1 ⟨[42]⟩ from ⟨by decide,by decide,by decide⟩)
 .exact (show d_1 ⟨[63]⟩ from ⟨by decide,by decide,by decide⟩)
 .exact (show d_1 ⟨[43]⟩ from ⟨by decide,by decide,by decide⟩)
section
variable {d:g_}{b:Bt}
def a_D (en:Int->Nat->Nat)(ks:List Int)(p:Nat):Nat->Nat
 | 0=>p
 | m+1=>en (ks.getD m 0)<|a_D en ks p m
theorem i_E (en:Int->Nat->Nat)(ks:List Int)(p m:Nat)(hm:m<ks.length):a_D en ks p (m+1)=en ks[m] (a_D en ks p m):=by
 rw [a_D,a_j hm]
theorem e_x (en:Int->Nat->Nat)(k:Int)(ks:List Int)(p:Nat):∀m,a_D en (k::ks) p (m+1)=a_D en ks (en k p) m
 | 0=>rfl
 | m+1=>by
  rw [a_D,e_x en k ks p m];rfl
end
end Go.Vw
