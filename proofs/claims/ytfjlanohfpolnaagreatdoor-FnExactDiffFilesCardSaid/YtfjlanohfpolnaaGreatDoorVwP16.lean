
import Derived.Test.YtfjlanohfpolnaaGreatDoorVwP15
namespace Go.Vw
open Go.RowKit Dat
theorem r_8 {s:Str}(h:a_N s=true):∀c∈s.b,c ≠ 47/\c ≠ 58:=by
 intro c hc;unfold a_N at h
 rw [aE_,Bool.not_eq_true',List.any_eq_false] at h
 obtain ⟨k,hk,rfl⟩:=List.getElem_of_mem hc;have h1:=h.1 k<|List.mem_range.2 hk;unfold b_i at h1
 rw [gG_ hk] at h1
 simp only at h1
 constructor
 ·intro h2;rw [h2] at h1;simp [show e_B 47=false by decide,show a_z 47=false by decide] at h1
 ·intro h2;rw [h2] at h1;simp [show e_B 58=false by decide,show a_z 58=false by decide] at h1
theorem r_9 {l:List Str}{s:Str}:d_m l s=true ↔ ∃x∈l,x.b=s.b:=by
 unfold d_m;simp
theorem r_a {rs:List b_}{r:b_}(h:a_g rs r=true)(hk:r.kind=6){i j:Nat}(hi:i<r.names.length)(hj:j<r.names.length)(he:r.names[i].b=r.names[j].b):i=j:=by
 unfold a_g at h
 rw [hk] at h
 simp only [show ((6:Int)==1)=false from rfl,show ((6:Int)==2)=false from rfl,show ((6:Int)==3)=false from rfl,show ((6:Int)==4)=false from rfl,show ((6:Int)==5)=false from rfl,bF_,fF_,bQ_,fT_,aE_,Bool.not_eq_true',List.any_eq_false] at h
 have key:∀i j (hi:i<r.names.length) (hj:j<r.names.length),i<j->r.names[i].b ≠ r.names[j].b:=fun i j hi hj hij he=>by
  have h1:=h.2.1 j<|List.mem_range.2 hj;unfold c_7 at h1
  rw [gG_ hj] at h1
  simp only [Bool.or_eq_true,not_or] at h1
  exact h1.2 (r_9.2 ⟨r.names[i],by rw [List.mem_take_iff_getElem];exact ⟨i,by omega,rfl⟩,he⟩)
 rcases Nat.lt_trichotomy i j with h1 | h1 | h1
 ·exact absurd he<|key i j hi hj h1
 ·exact h1
 ·exact absurd he.symm<|key j i hj hi h1
structure c_9 (s:Str):Prop where
 step:b_Q s=true
 char:∀c∈s.b,c ≠ 47
 len:s.b.length<=21
theorem r_b {s:Str}(h:a_N s=true):c_9 s:=⟨by unfold b_Q;rw [h];rfl,fun c hc=>(r_8 h c hc).1,by have:=k_R h;omega⟩
theorem r_c {i:Nat}(h:i<=1000000000):c_9 ⟨Lib.itoa i⟩:=⟨by unfold b_Q;rw [m_C i (by omega)];simp,fun c hc=>by
  have:=m_A i c (by simpa only [d_n] using hc);intro he;rw [he] at this
  have:byteI (47:UInt8)=47:=rfl
  omega,n_k i h⟩
structure Ent (d:e_)(b:List UInt8)(r:b_)(at_:Nat)(ks:List Int)(num:Int):Prop where
 head:a_1 d.rules b r at_ = .inr (num,ks,a_6 d.rules r at_)
 lo:5<=r.kind
 hi:r.kind<=9
theorem k_y {d:e_}{b:List UInt8}{r:b_}{at_:Nat}{ks:List Int}{num:Int}(hk:a_g d.rules r=true)(h:Ent d b r at_ ks num)(h40:ks.length<=40):(∀i j,i<ks.length->j<ks.length->(V_ r i).b=(V_ r j).b->i=j)/\∀i,i<ks.length->c_9 (V_ r i):=by
 have hh:=h.head;have h1:=h.lo;have h2:=h.hi;generalize a_6 d.rules r at_=st at hh
 have one:ks.length<=1->(∀i j,i<ks.length->j<ks.length->(V_ r i).b=(V_ r j).b->i=j):=fun h i j hi hj _=>by omega
 by_cases h5:r.kind=5
 ·have e:∀i,V_ r i=⟨Lib.itoa i⟩:=fun i=>by unfold V_;rw [h5];rfl
  exact ⟨fun i j _ _ he=>by rw [e,e] at he;exact r_2 he,fun i hi=>by rw [e];exact r_c (by omega)⟩
 by_cases h6:r.kind=6
 ·unfold a_1 at hh
  rw [h6] at hh
  have hks:ks=r.kids:=by cases hh;rfl
  have hs:=e_H hk h6;have e:∀i (hi:i<r.names.length),V_ r i=r.names[i]:=fun i hi=>by unfold V_;rw [h6,dT_ hi,a_l hi];rfl
  subst hks;refine ⟨fun i j hi hj he=>?_,fun i hi=>?_⟩
  ·rw [e i (by omega),e j (by omega)] at he;exact r_a hk h6 (by omega) (by omega) he
  ·rw [e i (by omega)];exact r_b<|hs.2.2.2 _<|gE_ (by omega)
 have hlen:ks.length<=1:=by
  unfold a_1 at hh
  rw [show (r.kind==5)=false by simpa using h5,show (r.kind==6)=false by simpa using h6] at hh
  simp only [bF_,fF_] at hh
  split at hh
  ·split at hh
   ·cases hh
   ·split at hh
    ·cases hh
    ·cases hh;simp
  split at hh
  ·split at hh
   ·cases hh
   ·split at hh
    ·cases hh
    ·rename_i c _ hc
     cases hh
     have:byteI c=(c.toNat:Int):=rfl
     simp;omega
  ·cases hh;simp
 refine ⟨one hlen,fun i hi=>?_⟩;have G:i=0:=by omega
 subst G;unfold V_
 rw [show (r.kind==5)=false by simpa using h5,show (r.kind==6)=false by simpa using h6]
 have:r.kind=7∨r.kind=8∨r.kind=9:=by omega
 rcases this with h | h | h <;> rw [h]
 ·exact (show c_9 ⟨[42]⟩ from ⟨by decide,by decide,by decide⟩)
 ·exact (show c_9 ⟨[63]⟩ from ⟨by decide,by decide,by decide⟩)
 ·exact (show c_9 ⟨[43]⟩ from ⟨by decide,by decide,by decide⟩)
theorem f_p {b:List UInt8}{r:b_}{num:Int}{at_:Nat}{x:List Val×Nat×Int}(G:(a_O b r num at_ x).2.2=0)(H:r.kind=9->num=0):(a_O b r num at_ x).1.items=x.1/\(a_O b r num at_ x).1.number=num/\x.2.2=0:=by
 unfold a_O at *
 by_cases hx:x.2.2=0
 ·rw [iP_ hx] at *
  by_cases hk:r.kind=9
  ·rw [show (r.kind==9)=true by simpa using hk] at *
   simp only [fT_] at *
   cases hb:b[x.2.1]? with
   | none=>rw [hb] at G;cases G
   | some c =>
    rw [hb] at G
    simp only at G ⊢
    by_cases hs:byteI c=c_a (a_5 b at_ x.2.1)
    ·rw [iP_ hs];exact ⟨rfl,(H hk).symm,hx⟩
    ·rw [iN_ hs] at G;cases G
  ·rw [show (r.kind==9)=false by simpa using hk];exact ⟨rfl,rfl,hx⟩
 ·rw [iN_ hx] at G;exact absurd G hx
section
variable {d:e_}{b:List UInt8}
theorem k_z (hv:a_4 d=true){i:Nat}(hi:i<d.rules.length){at_:Nat}(ha:at_<=b.length)(hok:(rdW d.rules b i at_).2.2=0){ks:List Int}{e:Nat}(h:f_w d b d.rules[i] at_ (rdW d.rules b i at_) ks e)(hne:ks ≠ []):Ent d b d.rules[i] at_ ks (rdW d.rules b i at_).1.number:=by
 have hr:=b_g hv hi;have hal:=e_I hr.kind;have hlen:=f_v h.ch;have hni:(rdW d.rules b i at_).1.items ≠ []:=fun hn=>by rw [hn] at hlen;exact hne<|List.length_eq_zero_iff.1 hlen.symm
 have hitem0:=h.item
 clear h
 rw [e_J hv hi ha] at *
 generalize d.rules[i]=r at *
 unfold rdB at *
 have hby:∀p n,(a_u b p n).1.items=[]:=fun p n=>by unfold a_u;split <;> rfl
 by_cases h1:r.kind=1
 ·exfalso;apply hni;rw [h1];simp only [bQ_,fT_];split <;> rfl
 rw [show (r.kind==1)=false by simpa using h1] at *
 by_cases h2:r.kind=2
 ·exfalso;apply hni;rw [h2];rfl
 rw [show (r.kind==2)=false by simpa using h2] at *
 by_cases h3:r.kind=3
 ·exfalso;apply hni;rw [h3];exact hby _ _
 rw [show (r.kind==3)=false by simpa using h3] at *
 by_cases h4:r.kind=4
 ·exfalso;apply hni;rw [h4];simp only [bF_,fF_,bQ_,fT_];split
  ·rfl
  ·exact hby _ _
 rw [show (r.kind==4)=false by simpa using h4] at *
 by_cases G:r.kind=10
 ·exfalso;apply hni;rw [G];simp only [bF_,fF_,bQ_,fT_];split <;> rfl
 rw [show (r.kind==10)=false by simpa using G] at *
 simp only [bF_,fF_] at *
 cases hh:a_1 d.rules b r at_ with
 | inl c=>rw [hh] at hni;exact absurd rfl hni
 | inr y =>
  obtain ⟨num,ks',st⟩:=y
  rw [hh] at hok hni hlen hitem0
  simp only at hok hni hlen hitem0
  obtain ⟨hitem,hst,I⟩:=k_M hr.kind (by omega) hh;have hk:=i_z hr.kind (by omega) ha hh;obtain ⟨J,H,f3⟩:=f_p hok I
  have hlek:∀k∈ks',∀p,p<=b.length->(rdW d.rules b k.toNat p).2.1<=b.length:=fun k hk' p hp=>by
   have:=hr.kids k<|hk.1 k hk';exact (c_3 hv k.toNat (by omega) p hp).2
  have hch:=k_L (rd:=fun k p=>rdW d.rules b k.toNat p) (L:=b.length) ks' st hk.2.2.1 hlek f3;have hl':=f_v hch
  rw [J] at hlen
  rw [H] at hitem0
  have hks:ks'=ks:=by
   apply List.ext_getElem
   ·omega
   ·intro j h1 h2
    rw [← hitem j h1,← hitem0 j h2]
  simp only
  rw [H,← hks]
  exact ⟨by rw [hh,hst],by omega,by omega⟩
theorem r_d (hb:b.length<=400){r:b_}(hk:a_g d.rules r=true){at_:Nat}(ha:at_<=b.length){ks:List Int}{num:Int}(h:Ent d b r at_ ks num)(hne:ks ≠ [])(hpos:∀k∈ks,0<=k):l_3 d r b at_=some (((a_6 d.rules r at_:Nat):Int),(ks.length:Int),num):=by
 have hMX:=MXv;have hh:=h.head;obtain ⟨hitem,hst,a0⟩:=k_M hk ⟨h.lo,h.hi⟩ hh;have h1:=h.lo;have h2:=h.hi
 clear hst
 unfold l_3
 by_cases h6:r.kind=6
 ·rw [h6]
  simp only [bQ_,fT_]
  unfold a_1 at hh
  rw [h6] at hh
  simp only [show ((6:Int)==5)=false from rfl,bF_,fF_,bQ_,fT_] at hh
  rw [Sum.inr.injEq,Prod.mk.injEq,Prod.mk.injEq] at hh
  rw [← hh.1,← hh.2.1,← hh.2.2]
 rw [show (r.kind==6)=false by simpa using h6]
 simp only [bF_,fF_]
 by_cases H:r.kind=9
 ·rw [H]
  simp only [bQ_,fT_]
  unfold a_1 at hh
  rw [H] at hh
  simp only [show ((9:Int)==5)=false from rfl,show ((9:Int)==6)=false from rfl,show ((9:Int)==7)=false from rfl,show ((9:Int)==8)=false from rfl,bF_,fF_] at hh
  rw [Sum.inr.injEq,Prod.mk.injEq,Prod.mk.injEq] at hh
  rw [← hh.1,← hh.2.1,← hh.2.2];rfl
 rw [show (r.kind==9)=false by simpa using H]
 simp only [bF_,fF_]
 by_cases I:r.kind=8
 ·rw [I]
  simp only [bQ_,fT_]
  unfold a_1 at hh
  rw [I] at hh
  simp only [show ((8:Int)==5)=false from rfl,show ((8:Int)==6)=false from rfl,show ((8:Int)==7)=false from rfl,bF_,fF_,bQ_,fT_] at hh
  cases hc:b[at_]? with
  | none=>rw [hc] at hh;cases hh
  | some c =>
   rw [hc] at hh
   simp only at hh
   split at hh
   ·cases hh
   ·rename_i a1
    rw [Sum.inr.injEq,Prod.mk.injEq,Prod.mk.injEq] at hh
    have hlt:at_<b.length:=(gS_.1 hc).1;have hbc:byteI c=(c.toNat:Int):=rfl
    have a2:c.toNat ≠ 0:=fun Y=>by
     apply hne;rw [← hh.2.1,Y];rfl
    have hc1':c.toNat=1:=by omega
    rw [dT_ (show (at_:Int)<(b.length:Int) by omega),ix_ hlt]
    have:b[at_]=c:=(gS_.1 hc).2
    rw [this]
    simp only [fT_,bd_some]
    rw [show (byteI c==byteI (1:UInt8))=true by rw [hbc,hc1'];rfl]
    simp only [fT_,bd_some,el_inr]
    rw [← hh.1,← hh.2.1,← hh.2.2,ia_ (by omega) (by omega),hc1'];rfl
 rw [show (r.kind==8)=false by simpa using I]
 simp only [bF_,fF_]
 have G:r.kind=5∨r.kind=7:=by omega
 have hlim:0<lim d.rules (v_ r)/\0<r.kids.length:=by
  rcases G with h | h
  ·have:=d_s hk h;exact ⟨this.1,by omega⟩
  ·have:=e_3 hk h;exact ⟨this.1,by omega⟩
 have hq:=c_V hlim.1;have hint:=i_u (b:=b) hq.1 hq.2 (by omega) ha
 have a3:bd (α:=Bool) (if (r.kind==5)=true then some (r.kind==5) else some (r.kind==7)) some=some true:=by
  rcases G with h | h <;> rw [h] <;> rfl
 have e57':(if (r.kind==5)=true then some (r.kind==5) else some (r.kind==7))=some true:=by
  rcases G with h | h <;> rw [h] <;> rfl
 rw [e57']
 simp only [bd_some,fT_]
 rw [c_k hlim.2,bd_some,hint]
 cases hi:a_b b (N_ d.rules<|v_ r) at_ with
 | none =>
  exfalso
  unfold a_1 at hh
  rcases G with h | h <;> rw [h,hi] at hh <;> cases hh
 | some n =>
  simp only [bd3_some,nT_,bF_,fF_]
  have hrng:=c_o hq.2 hi
  rcases G with h5 | L
  ·unfold a_1 at hh
   rw [h5,hi] at hh
   simp only [bQ_,fT_] at hh
   split at hh
   ·cases hh
   ·rename_i hn
    rw [Sum.inr.injEq,Prod.mk.injEq,Prod.mk.injEq] at hh
    rw [h5,dT_ (show n<=40 by omega)]
    simp only [bQ_,fT_,bd_some,el_inr]
    rw [← hh.1,← hh.2.1,← hh.2.2,List.length_replicate]
    simp;omega
  ·unfold a_1 at hh
   rw [L,hi] at hh
   simp only [show ((7:Int)==5)=false from rfl,show ((7:Int)==6)=false from rfl,bF_,fF_,bQ_,fT_] at hh
   cases ht:b_f r.tags n with
   | none=>rw [ht] at hh;cases hh
   | some j =>
    rw [ht] at hh
    simp only at hh
    rw [Sum.inr.injEq,Prod.mk.injEq,Prod.mk.injEq] at hh
    have O:ks.length=1:=by rw [← hh.2.1];rfl
    have V:=hitem 0 (by omega);have W:=hpos ks[0] (gE_ (by omega))
    rw [hh.1]
    have J:=c_B (c_b hk) num 0
    rw [V] at J
    rw [L]
    simp only [show ((7:Int)==5)=false from rfl,bF_,fF_,bd_some,bQ_,fT_]
    have hl9':b_2 r num 0=some ks[0]:=J
    rw [hl9',bd_some,dT_ W]
    simp only [bd_some,fT_,el_inr]
    rw [← hh.2.2,O];rfl
def a_K (en:Int->Nat->Nat)(ks:List Int)(p:Nat):Nat->Nat
 | 0=>p
 | m+1=>en (ks.getD m 0)<|a_K en ks p m
theorem m_E (en:Int->Nat->Nat)(ks:List Int)(p m:Nat)(hm:m<ks.length):a_K en ks p (m+1)=en ks[m] (a_K en ks p m):=by
 rw [a_K,a_l hm]
theorem i_o (en:Int->Nat->Nat)(k:Int)(ks:List Int)(p:Nat):∀m,a_K en (k::ks) p (m+1)=a_K en ks (en k p) m
 | 0=>rfl
 | m+1=>by
  rw [a_K,i_o en k ks p m];rfl
theorem k_A {rd:Int->Nat->RR}{L:Nat}:∀{ks:List Int}{p:Nat}{vs:List Val}{e:Nat},c_W rd L ks p vs e->∀m (hm:m<ks.length),a_K (fun k p=>(rd k p).2.1) ks p m<=L/\(rd ks[m] (a_K (fun k p=>(rd k p).2.1) ks p m)).2.2=0
 | k::ks,p,vs,e,h,0,_=>by
  obtain ⟨h1,h2,_⟩:=h;exact ⟨h1,h2⟩
 | k::ks,p,vs,e,h,m+1,hm=>by
  obtain ⟨_,_,ws,_,h3⟩:=h;have:=k_A h3 m (by simpa using hm)
  rw [i_o]
  exact this
def enP (d:e_)(b:List UInt8)(k:Int)(p:Nat):Nat:=(rdW d.rules b k.toNat p).2.1
def StepTo (d:e_)(b:List UInt8)(i p:Nat)(s:Str)(k q:Nat):Prop:=∀n,1000<=n->n_H n d i b p s=some ((k:Int),(q:Int),true)
theorem r_e (hv:a_4 d=true)(hd:SmD d)(hb:b.length<=400){i:Nat}(hi:i<d.rules.length){at_:Nat}(ha:at_<=b.length)(hok:(rdW d.rules b i at_).2.2=0){ks:List Int}{e:Nat}(h:f_w d b d.rules[i] at_ (rdW d.rules b i at_) ks e){m:Nat}(hm:m<ks.length) :
  StepTo d b i at_ (V_ d.rules[i] m) ks[m].toNat (a_K (enP d b) ks (a_6 d.rules d.rules[i] at_) m)/\c_9 (V_ d.rules[i] m):=by
 have hne:ks ≠ []:=fun hn=>by rw [hn] at hm;simp at hm
 have hE:=k_z hv hi ha hok h hne;have hr:=b_g hv hi;have hkk:∀k∈ks,0<=k/\k<(i:Int):=fun k hk=>hr.kids k<|h.kids k hk
 have hS:=k_y hr.kind hE h.small;refine ⟨fun n hn=>?_,hS.2 m hm⟩;have hlen:=(c_2 hv).2;unfold n_H
 rw [ix_ hi,bd_some,r_d hb hr.kind ha hE hne<|fun k hk=>(hkk k hk).1]
 simp only [bd3_some,tN_]
 have hP:=k_A h.ch;have hbody:∀j (hj:j<ks.length),b_2 d.rules[i] (rdW d.rules b i at_).1.number ((j:Nat):Int)=some ks[j]:=fun j hj=>by rw [c_B (c_b hr.kind),h.item j hj]
 have h40:=h.small;refine (congrArg (fun z=>bd z _)<|g_w (st:=fun j=>((a_K (enP d b) ks (a_6 d.rules d.rules[i] at_) j:Nat):Int)) (r:=(ks[m],((a_K (enP d b) ks (a_6 d.rules d.rules[i] at_) m:Nat):Int),true)) hm (fun j hj=>?_) ?_).trans ?_
 rotate_left 2
 ·have:=hkk ks[m] (gE_ hm)
  rw [bd_some,el_inr,show ((ks[m].toNat:Nat):Int)=ks[m] by omega]
 ·have hjk:j<ks.length:=by omega
  have hp:=hP j hjk;have hk:=hkk ks[j] (gE_ hjk)
  rw [hbody j hjk,bd_some,g_t (by omega) _ j (by omega),bd_some]
  rw [iN_ (show ¬((V_ d.rules[i] j).b==(V_ d.rules[i] m).b)=true by
   intro he;have:=hS.1 j m hjk hm (by simpa using he)
   omega)]
  have hrd:=m_X hv hd hb ks[j].toNat (by omega) n (by omega) (a_K (enP d b) ks (a_6 d.rules d.rules[i] at_) j) hp.1
  rw [show ((ks[j].toNat:Nat):Int)=ks[j] by omega] at hrd
  rw [hrd]
  unfold b_R
  simp only [bd3_some]
  rw [show (rdW d.rules b ks[j].toNat (a_K (enP d b) ks (a_6 d.rules d.rules[i] at_) j)).2.2=0 from hp.2]
  rw [m_E _ _ _ _ hjk]
  rfl
 ·rw [hbody m hm,bd_some,g_t (by omega) _ m (by omega),bd_some,iP_ (by simp)]
end
end Go.Vw
