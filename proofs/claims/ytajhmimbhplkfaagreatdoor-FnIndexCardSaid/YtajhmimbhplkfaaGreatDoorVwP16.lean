
import Derived.Test.YtajhmimbhplkfaaGreatDoorVwP15
set_option linter.unusedVariables false
namespace Go.Vw
open Go.RowKit Dat
theorem o_f {s:Str} (h:a_Z s=true) : ∀ c∈s.b,c ≠ 47∧c ≠ 58:=by
 intro c hc;unfold a_Z at h
 rw [aE_,Bool.not_eq_true',List.any_eq_false] at h
 obtain ⟨k,hk,rfl⟩:=List.getElem_of_mem hc;have h1:=h.1 k<|List.mem_range.2 hk;unfold b_g at h1
 rw [gG_ hk] at h1
 simp only at h1
 constructor
 ·intro h2;rw [h2] at h1;simp [show d_M 47=false by decide,show c_s 47=false by decide] at h1
 ·intro h2;rw [h2] at h1;simp [show d_M 58=false by decide,show c_s 58=false by decide] at h1
theorem o_g {l:List Str} {s:Str}:c_P l s=true ↔ ∃ x∈l,x.b=s.b:=by
 unfold c_P;simp
theorem o_h {rs:List e_} {r:e_} (h:a_h rs r=true) (hk:r.kind=6) {i j:Nat} (hi:i<r.names.length) (hj:j<r.names.length) (he:r.names[i].b=r.names[j].b):i=j:=by
 unfold a_h at h
 rw [hk] at h
 simp only [show ((6:Int)==1)=false from rfl,show ((6:Int)==2)=false from rfl,show ((6:Int)==3)=false from rfl,show ((6:Int)==4)=false from rfl,show ((6:Int)==5)=false from rfl,bF_,fF_,bQ_,fT_,aE_,Bool.not_eq_true',List.any_eq_false] at h
 have key : ∀ i j (hi:i<r.names.length) (hj:j<r.names.length),i<j→r.names[i].b ≠ r.names[j].b:=fun i j hi hj hij he=>by
  have h1:=h.2.1 j<|List.mem_range.2 hj;unfold b_U at h1
  rw [gG_ hj] at h1
  simp only [Bool.or_eq_true,not_or] at h1
  exact h1.2 (o_g.2 ⟨r.names[i],by rw [List.mem_take_iff_getElem];exact ⟨i,by omega,rfl⟩,he⟩)
 rcases Nat.lt_trichotomy i j with h1 | h1 | h1
 ·exact absurd he<|key i j hi hj h1
 ·exact h1
 ·exact absurd he.symm<|key j i hj hi h1
structure c_Q (s:Str):Prop where
 step:j_b s=true
 char : ∀ c∈s.b,c ≠ 47
 len:s.b.length≤21
theorem o_i {s:Str} (h:a_Z s=true):c_Q s:=⟨by unfold j_b;rw [h];rfl,fun c hc=>(o_f h c hc).1,by have:=l_j h;omega⟩
theorem o_j {i:Nat} (h:i≤1000000000):c_Q ⟨Lib.itoa i⟩:=⟨by unfold j_b;rw [o_e i (by omega)];simp,fun c hc=>by
  have:=k_B i c (by simpa only [e_o] using hc);intro he;rw [he] at this
  have:byteI (47:UInt8)=47:=rfl
  omega,h_c i h⟩
structure Ent (d:d_) (b:List UInt8) (r:e_) (at_:Nat) (ks:List Int) (num:Int):Prop where
 head:W_ d.rules b r at_ = .inr (num,ks,a_4 d.rules r at_)
 lo:5≤r.kind
 hi:r.kind≤9
theorem k_C {d:d_} {b:List UInt8} {r:e_} {at_:Nat} {ks:List Int} {num:Int} (hk:a_h d.rules r=true) (h:Ent d b r at_ ks num) (h40:ks.length≤40):(∀ i j,i<ks.length→j<ks.length→(a_m r i).b=(a_m r j).b→i=j) ∧ ∀ i,i<ks.length→c_Q (a_m r i):=by
 have hh:=h.head;have h1:=h.lo;have h2:=h.hi;generalize a_4 d.rules r at_=st at hh
 have one:ks.length≤1→(∀ i j,i<ks.length→j<ks.length→(a_m r i).b=(a_m r j).b→i=j):=fun h i j hi hj _=>by omega
 by_cases h5:r.kind=5
 ·have e : ∀ i,a_m r i=⟨Lib.itoa i⟩:=fun i=>by unfold a_m;rw [h5];rfl
  exact ⟨fun i j _ _ he=>by rw [e,e] at he;exact o_b he,fun i hi=>by rw [e];exact o_j (by omega)⟩
 by_cases h6:r.kind=6
 ·unfold W_ at hh
  rw [h6] at hh
  have hks:ks=r.kids:=by cases hh;rfl
  have hs:=d_Q hk h6;have e : ∀ i (hi:i<r.names.length),a_m r i=r.names[i]:=fun i hi=>by unfold a_m;rw [h6,dT_ hi,a_j hi];rfl
  subst hks;refine ⟨fun i j hi hj he=>?_,fun i hi=>?_⟩
  ·rw [e i (by omega),e j (by omega)] at he;exact o_h hk h6 (by omega) (by omega) he
  ·rw [e i (by omega)];exact o_i<|hs.2.2.2 _<|gE_ (by omega)
 have hlen:ks.length≤1:=by
  unfold W_ at hh
  rw [show (r.kind==5)=false by simpa using h5,show (r.kind==6)=false by simpa using h6] at hh
  simp only [bF_,fF_] at hh
  split at hh
  ·split at hh
   ·cases hh
   ·split at hh
    ·cases hh
    ·cases hh;simp
  split at hh
  ·split at hh
   ·cases hh
   ·split at hh
    ·cases hh
    ·rename_i c _ hc
     cases hh
     have:byteI c=(c.toNat:Int):=rfl
     simp;omega
  ·cases hh;simp
 refine ⟨one hlen,fun i hi=>?_⟩;have h0:i=0:=by omega
 subst h0;unfold a_m
 rw [show (r.kind==5)=false by simpa using h5,show (r.kind==6)=false by simpa using h6]
 have:r.kind=7∨r.kind=8∨r.kind=9:=by omega
 rcases this with h | h | h <;> rw [h]
 ·exact (show c_Q ⟨[42]⟩ from ⟨by decide,by decide,by decide⟩)
 ·exact (show c_Q ⟨[63]⟩ from ⟨by decide,by decide,by decide⟩)
 ·exact (show c_Q ⟨[43]⟩ from ⟨by decide,by decide,by decide⟩)
theorem o_k {b:List UInt8} {r:e_} {num:Int} {at_:Nat} {x:List Val×Nat×Int} (h0:(a_E b r num at_ x).2.2=0) (h9:r.kind=9→num=0):(a_E b r num at_ x).1.items=x.1∧(a_E b r num at_ x).1.number=num∧x.2.2=0:=by
 unfold a_E at *
 by_cases hx:x.2.2=0
 ·rw [iP_ hx] at *
  by_cases hk:r.kind=9
  ·rw [show (r.kind==9)=true by simpa using hk] at *
   simp only [fT_] at *
   cases hb:b[x.2.1]? with
   | none=>rw [hb] at h0;cases h0
   | some c =>
    rw [hb] at h0
    simp only at h0 ⊢
    by_cases hs:byteI c=b_z (b_6 b at_ x.2.1)
    ·rw [iP_ hs];exact ⟨rfl,(h9 hk).symm,hx⟩
    ·rw [iN_ hs] at h0;cases h0
  ·rw [show (r.kind==9)=false by simpa using hk];exact ⟨rfl,rfl,hx⟩
 ·rw [iN_ hx] at h0;exact absurd h0 hx
section
variable {d:d_} {b:List UInt8}
theorem k_D (hv:a_1 d=true) {i:Nat} (hi:i<d.rules.length) {at_:Nat} (ha:at_≤b.length) (hok:(rdW d.rules b i at_).2.2=0) {ks:List Int} {e:Nat} (h:RdOk d b d.rules[i] at_ (rdW d.rules b i at_) ks e) (hne:ks ≠ []):Ent d b d.rules[i] at_ ks (rdW d.rules b i at_).1.number:=by
 have hr:=a_P hv hi;have hal:=d_R hr.kind;have hlen:=d_W h.ch;have hni:(rdW d.rules b i at_).1.items ≠ []:=fun hn=>by rw [hn] at hlen;exact hne<|List.length_eq_zero_iff.1 hlen.symm
 have hitem0:=h.item
 clear h
 rw [d_T hv hi ha] at *
 generalize d.rules[i]=r at *
 unfold rdB at *
 have hby : ∀ p n,(a_B b p n).1.items=[]:=fun p n=>by unfold a_B;split <;> rfl
 by_cases h1:r.kind=1
 ·exfalso;apply hni;rw [h1];simp only [bQ_,fT_];split <;> rfl
 rw [show (r.kind==1)=false by simpa using h1] at *
 by_cases h2:r.kind=2
 ·exfalso;apply hni;rw [h2];rfl
 rw [show (r.kind==2)=false by simpa using h2] at *
 by_cases h3:r.kind=3
 ·exfalso;apply hni;rw [h3];exact hby _ _
 rw [show (r.kind==3)=false by simpa using h3] at *
 by_cases h4:r.kind=4
 ·exfalso;apply hni;rw [h4];simp only [bF_,fF_,bQ_,fT_];split
  ·rfl
  ·exact hby _ _
 rw [show (r.kind==4)=false by simpa using h4] at *
 by_cases h10:r.kind=10
 ·exfalso;apply hni;rw [h10];simp only [bF_,fF_,bQ_,fT_];split <;> rfl
 rw [show (r.kind==10)=false by simpa using h10] at *
 simp only [bF_,fF_] at *
 cases hh:W_ d.rules b r at_ with
 | inl c=>rw [hh] at hni;exact absurd rfl hni
 | inr y =>
  obtain ⟨num,ks',st⟩:=y
  rw [hh] at hok hni hlen hitem0
  simp only at hok hni hlen hitem0
  obtain ⟨hitem,hst,hn9⟩:=j_o hr.kind (by omega) hh;have hk:=h_8 hr.kind (by omega) ha hh;obtain ⟨f1,f2,f3⟩:=o_k hok hn9
  have hlek : ∀ k∈ks',∀ p,p≤b.length→(rdW d.rules b k.toNat p).2.1≤b.length:=fun k hk' p hp=>by
   have:=hr.kids k<|hk.1 k hk';exact (b_H hv k.toNat (by omega) p hp).2
  have hch:=j_n (rd:=fun k p=>rdW d.rules b k.toNat p) (L:=b.length) ks' st hk.2.2.1 hlek f3;have hl':=d_W hch
  rw [f1] at hlen
  rw [f2] at hitem0
  have hks:ks'=ks:=by
   apply List.ext_getElem
   ·omega
   ·intro j h1 h2
    rw [← hitem j h1,← hitem0 j h2]
  simp only
  rw [f2,← hks]
  exact ⟨by rw [hh,hst],by omega,by omega⟩
theorem o_l (hb:b.length≤400) {r:e_} (hk:a_h d.rules r=true) {at_:Nat} (ha:at_≤b.length) {ks:List Int} {num:Int} (h:Ent d b r at_ ks num) (hne:ks ≠ []) (hpos : ∀ k∈ks,0≤k):j_y d r b at_=some (((a_4 d.rules r at_:Nat):Int),(ks.length:Int),num):=by
 have hMX:=MXv;have hh:=h.head;obtain ⟨hitem,hst,hn9⟩:=j_o hk ⟨h.lo,h.hi⟩ hh;have h1:=h.lo;have h2:=h.hi
 clear hst
 unfold j_y
 by_cases h6:r.kind=6
 ·rw [h6]
  simp only [bQ_,fT_]
  unfold W_ at hh
  rw [h6] at hh
  simp only [show ((6:Int)==5)=false from rfl,bF_,fF_,bQ_,fT_] at hh
  rw [Sum.inr.injEq,Prod.mk.injEq,Prod.mk.injEq] at hh
  rw [← hh.1,← hh.2.1,← hh.2.2]
 rw [show (r.kind==6)=false by simpa using h6]
 simp only [bF_,fF_]
 by_cases h9:r.kind=9
 ·rw [h9]
  simp only [bQ_,fT_]
  unfold W_ at hh
  rw [h9] at hh
  simp only [show ((9:Int)==5)=false from rfl,show ((9:Int)==6)=false from rfl,show ((9:Int)==7)=false from rfl,show ((9:Int)==8)=false from rfl,bF_,fF_] at hh
  rw [Sum.inr.injEq,Prod.mk.injEq,Prod.mk.injEq] at hh
  rw [← hh.1,← hh.2.1,← hh.2.2];rfl
 rw [show (r.kind==9)=false by simpa using h9]
 simp only [bF_,fF_]
 by_cases h8:r.kind=8
 ·rw [h8]
  simp only [bQ_,fT_]
  unfold W_ at hh
  rw [h8] at hh
  simp only [show ((8:Int)==5)=false from rfl,show ((8:Int)==6)=false from rfl,show ((8:Int)==7)=false from rfl,bF_,fF_,bQ_,fT_] at hh
  cases hc:b[at_]? with
  | none=>rw [hc] at hh;cases hh
  | some c =>
   rw [hc] at hh
   simp only at hh
   split at hh
   ·cases hh
   ·rename_i hc1
    rw [Sum.inr.injEq,Prod.mk.injEq,Prod.mk.injEq] at hh
    have hlt:at_<b.length:=(gS_.1 hc).1;have hbc:byteI c=(c.toNat:Int):=rfl
    have hc0:c.toNat ≠ 0:=fun h0=>by
     apply hne;rw [← hh.2.1,h0];rfl
    have hc1':c.toNat=1:=by omega
    rw [dT_ (show (at_:Int)<(b.length:Int) by omega),ix_ hlt]
    have:b[at_]=c:=(gS_.1 hc).2
    rw [this]
    simp only [fT_,bd_some]
    rw [show (byteI c==byteI (1:UInt8))=true by rw [hbc,hc1'];rfl]
    simp only [fT_,bd_some,el_inr]
    rw [← hh.1,← hh.2.1,← hh.2.2,ia_ (by omega) (by omega),hc1'];rfl
 rw [show (r.kind==8)=false by simpa using h8]
 simp only [bF_,fF_]
 have h57:r.kind=5∨r.kind=7:=by omega
 have hlim:0<lim d.rules (B_ r)∧0<r.kids.length:=by
  rcases h57 with h | h
  ·have:=c_T hk h;exact ⟨this.1,by omega⟩
  ·have:=d_i hk h;exact ⟨this.1,by omega⟩
 have hq:=b_F hlim.1;have hint:=f_j (b:=b) hq.1 hq.2 (by omega) ha
 have e57:bd (α:=Bool) (if (r.kind==5)=true then some (r.kind==5) else some (r.kind==7)) some=some true:=by
  rcases h57 with h | h <;> rw [h] <;> rfl
 have e57':(if (r.kind==5)=true then some (r.kind==5) else some (r.kind==7))=some true:=by
  rcases h57 with h | h <;> rw [h] <;> rfl
 rw [e57']
 simp only [bd_some,fT_]
 rw [b_s hlim.2,bd_some,hint]
 cases hi:a_6 b (L_ d.rules<|B_ r) at_ with
 | none =>
  exfalso
  unfold W_ at hh
  rcases h57 with h | h <;> rw [h,hi] at hh <;> cases hh
 | some n =>
  simp only [bd3_some,nT_,bF_,fF_]
  have hrng:=b_O hq.2 hi
  rcases h57 with h5 | h7
  ·unfold W_ at hh
   rw [h5,hi] at hh
   simp only [bQ_,fT_] at hh
   split at hh
   ·cases hh
   ·rename_i hn
    rw [Sum.inr.injEq,Prod.mk.injEq,Prod.mk.injEq] at hh
    rw [h5,dT_ (show n≤40 by omega)]
    simp only [bQ_,fT_,bd_some,el_inr]
    rw [← hh.1,← hh.2.1,← hh.2.2,List.length_replicate]
    simp;omega
  ·unfold W_ at hh
   rw [h7,hi] at hh
   simp only [show ((7:Int)==5)=false from rfl,show ((7:Int)==6)=false from rfl,bF_,fF_,bQ_,fT_] at hh
   cases ht:a_V r.tags n with
   | none=>rw [ht] at hh;cases hh
   | some j =>
    rw [ht] at hh
    simp only at hh
    rw [Sum.inr.injEq,Prod.mk.injEq,Prod.mk.injEq] at hh
    have hl1:ks.length=1:=by rw [← hh.2.1];rfl
    have hi0:=hitem 0 (by omega);have hp0:=hpos ks[0] (gE_ (by omega))
    rw [hh.1]
    have hl9:=c_S (d_S hk) num 0
    rw [hi0] at hl9
    rw [h7]
    simp only [show ((7:Int)==5)=false from rfl,bF_,fF_,bd_some,bQ_,fT_]
    have hl9':b_a r num 0=some ks[0]:=hl9
    rw [hl9',bd_some,dT_ hp0]
    simp only [bd_some,fT_,el_inr]
    rw [← hh.2.2,hl1];rfl
def b_p (en:Int→Nat→Nat) (ks:List Int) (p:Nat):Nat→Nat
 | 0=>p
 | m+1=>en (ks.getD m 0)<|b_p en ks p m
theorem o_m (en:Int→Nat→Nat) (ks:List Int) (p m:Nat) (hm:m<ks.length):b_p en ks p (m+1)=en ks[m] (b_p en ks p m):=by
 rw [b_p,a_j hm]
theorem f_i (en:Int→Nat→Nat) (k:Int) (ks:List Int) (p:Nat) : ∀ m,b_p en (k::ks) p (m+1)=b_p en ks (en k p) m
 | 0=>rfl
 | m+1=>by
  rw [b_p,f_i en k ks p m];rfl
theorem e_p {rd:Int→Nat→RR} {L:Nat} : ∀ {ks:List Int} {p:Nat} {vs:List Val} {e:Nat},c_f rd L ks p vs e → ∀ m (hm:m<ks.length),b_p (fun k p=>(rd k p).2.1) ks p m≤L∧(rd ks[m] (b_p (fun k p=>(rd k p).2.1) ks p m)).2.2=0
 | k::ks,p,vs,e,h,0,_=>by
  obtain ⟨h1,h2,_⟩:=h;exact ⟨h1,h2⟩
 | k::ks,p,vs,e,h,m+1,hm=>by
  obtain ⟨_,_,ws,_,h3⟩:=h;have:=e_p h3 m (by simpa using hm)
  rw [f_i]
  exact this
def enP (d:d_) (b:List UInt8) (k:Int) (p:Nat):Nat:=(rdW d.rules b k.toNat p).2.1
def k_E (d:d_) (b:List UInt8) (i p:Nat) (s:Str) (k q:Nat):Prop:=∀ n,1000≤n→l_z n d i b p s=some ((k:Int),(q:Int),true)
theorem o_n (hv:a_1 d=true) (hd:SmD d) (hb:b.length≤400) {i:Nat} (hi:i<d.rules.length) {at_:Nat} (ha:at_≤b.length) (hok:(rdW d.rules b i at_).2.2=0) {ks:List Int} {e:Nat} (h:RdOk d b d.rules[i] at_ (rdW d.rules b i at_) ks e) {m:Nat} (hm:m<ks.length) :
  k_E d b i at_ (a_m d.rules[i] m) ks[m].toNat (b_p (enP d b) ks (a_4 d.rules d.rules[i] at_) m)∧c_Q (a_m d.rules[i] m):=by
 have hne:ks ≠ []:=fun hn=>by rw [hn] at hm;simp at hm
 have hE:=k_D hv hi ha hok h hne;have hr:=a_P hv hi;have hkk : ∀ k∈ks,0≤k∧k<(i:Int):=fun k hk=>hr.kids k<|h.kids k hk
 have hS:=k_C hr.kind hE h.small;refine ⟨fun n hn=>?_,hS.2 m hm⟩;have hlen:=(b_E hv).2;unfold l_z
 rw [ix_ hi,bd_some,o_l hb hr.kind ha hE hne<|fun k hk=>(hkk k hk).1]
 simp only [bd3_some,tN_]
 have hP:=e_p h.ch;have hbody : ∀ j (hj:j<ks.length),b_a d.rules[i] (rdW d.rules b i at_).1.number ((j:Nat):Int)=some ks[j]:=fun j hj=>by rw [c_S (d_S hr.kind),h.item j hj]
 have h40:=h.small;refine (congrArg (fun z=>bd z _)<|h_f (st:=fun j=>((b_p (enP d b) ks (a_4 d.rules d.rules[i] at_) j:Nat):Int)) (r:=(ks[m],((b_p (enP d b) ks (a_4 d.rules d.rules[i] at_) m:Nat):Int),true)) hm (fun j hj=>?_) ?_).trans ?_
 rotate_left 2
 ·have:=hkk ks[m] (gE_ hm)
  rw [bd_some,el_inr,show ((ks[m].toNat:Nat):Int)=ks[m] by omega]
 ·have hjk:j<ks.length:=by omega
  have hp:=hP j hjk;have hk:=hkk ks[j] (gE_ hjk)
  rw [hbody j hjk,bd_some,j_r (by omega) _ j (by omega),bd_some]
  rw [iN_ (show ¬ ((a_m d.rules[i] j).b==(a_m d.rules[i] m).b)=true by
   intro he;have:=hS.1 j m hjk hm (by simpa using he)
   omega)]
  have hrd:=j_g hv hd hb ks[j].toNat (by omega) n (by omega) (b_p (enP d b) ks (a_4 d.rules d.rules[i] at_) j) hp.1
  rw [show ((ks[j].toNat:Nat):Int)=ks[j] by omega] at hrd
  rw [hrd]
  unfold b_q
  simp only [bd3_some]
  rw [show (rdW d.rules b ks[j].toNat (b_p (enP d b) ks (a_4 d.rules d.rules[i] at_) j)).2.2=0 from hp.2]
  rw [o_m _ _ _ _ hjk]
  rfl
 ·rw [hbody m hm,bd_some,j_r (by omega) _ m (by omega),bd_some,iP_ (by simp)]
end
end Go.Vw
