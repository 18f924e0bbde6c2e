import Derived.Test.YtllmonllbkaflaaGreatDoorV7
namespace Go.Vw
open Go.RowKit Dat
theorem s_U {s:Str}(h:b_k s=true):∀c∈s.b,c ≠ 47/\c ≠ 58:=by
 intro c hc;unfold b_k at h
 rw [aE_,Bool.not_eq_true',List.any_eq_false] at h
 obtain ⟨k,hk,rfl⟩:=List.getElem_of_mem hc;have h1:=h.1 k<|List.mem_range.2 hk;unfold b_J at h1
 rw [gG_ hk] at h1
 simp only at h1
 constructor
 .intro h2;rw [h2] at h1;simp [show g_0 47=false by decide,show a_Q 47=false by decide] at h1
 .intro h2;rw [h2] at h1;simp [show g_0 58=false by decide,show a_Q 58=false by decide] at h1
theorem o_8 {l:List Str}{s:Str}:d_o l s=true ↔ ∃x∈l,x.b=s.b:=by
 unfold d_o;simp
theorem s_V {rs:List b_}{r:b_}(h:a_q rs r=true)(hk:r.kind=6){i j:Nat}(hi:i<r.names.length)(hj:j<r.names.length)(he:r.names[i].b=r.names[j].b):i=j:=by
 unfold a_q at h
 rw [hk] at h
 simp only [show ((6:Int)==1)=false from rfl,show ((6:Int)==2)=false from rfl,show ((6:Int)==3)=false from rfl,show ((6:Int)==4)=false from rfl,show ((6:Int)==5)=false from rfl,bF_,fF_,bQ_,fT_,aE_,Bool.not_eq_true',List.any_eq_false] at h
 have key:∀i j (hi:i<r.names.length) (hj:j<r.names.length),i<j->r.names[i].b ≠ r.names[j].b:=λi j hi hj hij he=>by
  have h1:=h.2.1 j<|List.mem_range.2 hj;unfold c_L at h1
  rw [gG_ hj] at h1
  simp only [Bool.or_eq_true,not_or] at h1
  exact h1.2 (o_8.2 ⟨r.names[i],by rw [List.mem_take_iff_getElem];exact ⟨i,by omega,rfl⟩,he⟩)
 rcases Nat.lt_trichotomy i j with h1 | h1 | h1
 .exact absurd he<|key i j hi hj h1
 .exact h1
 .exact absurd he.symm<|key j i hj hi h1
structure d_s (s:Str):Prop where
 step:c_5 s=true
 char:∀c∈s.b,c ≠ 47
 len:s.b.length<=21
theorem s_W {s:Str}(h:b_k s=true):d_s s:=⟨by unfold c_5;rw [h];rfl,λc hc=>(s_U h c hc).1,by have:=m_E h;omega⟩
theorem s_X {i:Nat}(h:i<=1000000000):d_s ⟨Lib.itoa i⟩:=⟨by unfold c_5;rw [o_5 i (by omega)];simp,λc hc=>by
  have:=o_1 i c (by simpa only [e_o] using hc);intro he;rw [he] at this
  have:byteI (47:UInt8)=47:=rfl
  omega,i_o i h⟩
structure Ent (d:c_)(b:Bt)(r:b_)(at_:Nat)(ks:List Int)(num:Int):Prop where
 head:F_ d.rules b r at_ = .inr (num,ks,a_b d.rules r at_)
 lo:5<=r.kind
 hi:r.kind<=9
theorem s_Y {d:c_}{b:Bt}{r:b_}{at_:Nat}{ks:List Int}{num:Int}(hk:a_q d.rules r=true)(h:Ent d b r at_ ks num)(H:ks.length<=40):(∀i j,i<ks.length->j<ks.length->(a_0 r i).b=(a_0 r j).b->i=j)/\∀i,i<ks.length->d_s (a_0 r i):=by
 have hh:=h.head;have h1:=h.lo;have h2:=h.hi;generalize a_b d.rules r at_=st at hh
 have one:ks.length<=1->(∀i j,i<ks.length->j<ks.length->(a_0 r i).b=(a_0 r j).b->i=j):=λh i j hi hj _=>by omega
 by_cases h5:r.kind=5
 .have e:∀i,a_0 r i=⟨Lib.itoa i⟩:=λi=>by unfold a_0;rw [h5];rfl
  exact ⟨λi j _ _ he=>by rw [e,e] at he;exact o_2 he,λi hi=>by rw [e];exact s_X (by omega)⟩
 by_cases h6:r.kind=6
 .unfold F_ at hh
  rw [h6] at hh
  have hks:ks=r.kids:=by cases hh;rfl
  have hs:=e_2 hk h6;have e:∀i (hi:i<r.names.length),a_0 r i=r.names[i]:=λi hi=>by unfold a_0;rw [h6,dT_ hi,Z_ hi];rfl
  subst hks;refine ⟨λi j hi hj he=>?_,λi hi=>?_⟩
  .rw [e i (by omega),e j (by omega)] at he;exact s_V hk h6 (by omega) (by omega) he
  .rw [e i (by omega)];exact s_W<|hs.2.2.2 _<|gE_ (by omega)
 have hlen:ks.length<=1:=by
  unfold F_ at hh
  rw [show (r.kind==5)=false by simpa using h5,show (r.kind==6)=false by simpa using h6] at hh
  simp only [bF_,fF_] at hh
  split at hh
  .split at hh
   .cases hh
   .split at hh
    .cases hh
    .cases hh;simp
  split at hh
  .split at hh
   .cases hh
   .split at hh
    .cases hh
    .rename_i c _ hc
     cases hh
     have:byteI c=(c.toNat:Int):=rfl
     simp;omega
  .cases hh;simp
 refine ⟨one hlen,λi hi=>?_⟩;have G:i=0:=by omega
 subst G;unfold a_0
 rw [show (r.kind==5)=false by simpa using h5,show (r.kind==6)=false by simpa using h6]
 have:r.kind=7∨r.kind=8∨r.kind=9:=by omega
 rcases this with h | h | h <;> rw [h]
 .exact (show d_s ⟨[42]⟩ from ⟨by decide,by decide,by decide⟩)
 .exact (show d_s ⟨[63]⟩ from ⟨by decide,by decide,by decide⟩)
 .exact (show d_s ⟨[43]⟩ from ⟨by decide,by decide,by decide⟩)
theorem h_b {b:Bt}{r:b_}{num:Int}{at_:Nat}{x:List Val×Nat×Int}(G:(a_N b r num at_ x).2.2=0)(H:r.kind=9->num=0):(a_N b r num at_ x).1.items=x.1/\(a_N b r num at_ x).1.number=num/\x.2.2=0:=by
 unfold a_N at *
 by_cases hx:x.2.2=0
 .rw [iP_ hx] at *
  by_cases hk:r.kind=9
  .rw [show (r.kind==9)=true by simpa using hk] at *
   simp only [fT_] at *
   cases hb:b[x.2.1]? with
   | none=>rw [hb] at G;cases G
   | some c =>
    rw [hb] at G
    simp only at G ⊢
    by_cases hs:byteI c=c_d (a_8 b at_ x.2.1)
    .rw [iP_ hs];exact ⟨rfl,(H hk).symm,hx⟩
    .rw [iN_ hs] at G;cases G
  .rw [show (r.kind==9)=false by simpa using hk];exact ⟨rfl,rfl,hx⟩
 .rw [iN_ hx] at G;exact absurd G hx
section
variable {d:c_}{b:Bt}
theorem s_Z (hv:D_ d=true){i:Nat}(hi:i<d.rules.length){at_:Nat}(ha:at_<=b.length)(hok:(rdW d.rules b i at_).2.2=0){ks:List Int}{e:Nat}(h:RdOk d b d.rules[i] at_ (rdW d.rules b i at_) ks e)(hne:ks ≠ []):Ent d b d.rules[i] at_ ks (rdW d.rules b i at_).1.number:=by
 have hr:=a_L hv hi;have hal:=f_8 hr.kind;have hlen:=h_i h.ch;have hni:(rdW d.rules b i at_).1.items ≠ []:=λhn=>by rw [hn] at hlen;exact hne<|List.length_eq_zero_iff.1 hlen.symm
 have hitem0:=h.item
 clear h
 rw [e_3 hv hi ha] at *
 generalize d.rules[i]=r at *
 unfold rdB at *
 have hby:∀p n,(a_D b p n).1.items=[]:=λp n=>by unfold a_D;split <;> rfl
 by_cases h1:r.kind=1
 .exfalso;apply hni;rw [h1];simp only [bQ_,fT_];split <;> rfl
 rw [show (r.kind==1)=false by simpa using h1] at *
 by_cases h2:r.kind=2
 .exfalso;apply hni;rw [h2];rfl
 rw [show (r.kind==2)=false by simpa using h2] at *
 by_cases h3:r.kind=3
 .exfalso;apply hni;rw [h3];exact hby _ _
 rw [show (r.kind==3)=false by simpa using h3] at *
 by_cases h4:r.kind=4
 .exfalso;apply hni;rw [h4];simp only [bF_,fF_,bQ_,fT_];split
  .rfl
  .exact hby _ _
 rw [show (r.kind==4)=false by simpa using h4] at *
 by_cases G:r.kind=10
 .exfalso;apply hni;rw [G];simp only [bF_,fF_,bQ_,fT_];split <;> rfl
 rw [show (r.kind==10)=false by simpa using G] at *
 simp only [bF_,fF_] at *
 cases hh:F_ d.rules b r at_ with
 | inl c=>rw [hh] at hni;exact absurd rfl hni
 | inr y =>
  obtain ⟨num,ks',st⟩:=y
  rw [hh] at hok hni hlen hitem0
  simp only at hok hni hlen hitem0
  obtain ⟨hitem,hst,I⟩:=k_A hr.kind (by omega) hh;have hk:=h_f hr.kind (by omega) ha hh;obtain ⟨J,H,f3⟩:=h_b hok I
  have hlek:∀k∈ks',∀p,p<=b.length->(rdW d.rules b k.toNat p).2.1<=b.length:=λk hk' p hp=>by
   have:=hr.kids k<|hk.1 k hk';exact (b_M hv k.toNat (by omega) p hp).2
  have hch:=m_z (rd:=λk p=>rdW d.rules b k.toNat p) (L:=b.length) ks' st hk.2.2.1 hlek f3;have hl':=h_i hch
  rw [J] at hlen
  rw [H] at hitem0
  have hks:ks'=ks:=by
   apply List.ext_getElem
   .omega
   .intro j h1 h2
    rw [← hitem j h1,← hitem0 j h2]
  simp only
  rw [H,← hks]
  exact ⟨by rw [hh,hst],by omega,by omega⟩
theorem o_9 (hb:b.length<=400){r:b_}(hk:a_q d.rules r=true){at_:Nat}(ha:at_<=b.length){ks:List Int}{num:Int}(h:Ent d b r at_ ks num)(hne:ks ≠ [])(hpos:∀k∈ks,0<=k):f_f d r b at_=some (((a_b d.rules r at_:Nat):Int),(ks.length:Int),num):=by
 have hMX:=MXv;have hh:=h.head;obtain ⟨hitem,hst,a0⟩:=k_A hk ⟨h.lo,h.hi⟩ hh;have h1:=h.lo;have h2:=h.hi
 clear hst
 unfold f_f
 by_cases h6:r.kind=6
 .rw [h6]
  simp only [bQ_,fT_]
  unfold F_ at hh
  rw [h6] at hh
  simp only [show ((6:Int)==5)=false from rfl,bF_,fF_,bQ_,fT_] at hh
  rw [Sum.inr.injEq,Prod.mk.injEq,Prod.mk.injEq] at hh
  rw [← hh.1,← hh.2.1,← hh.2.2]
 rw [show (r.kind==6)=false by simpa using h6]
 simp only [bF_,fF_]
 by_cases H:r.kind=9
 .rw [H]
  simp only [bQ_,fT_]
  unfold F_ at hh
  rw [H] at hh
  simp only [show ((9:Int)==5)=false from rfl,show ((9:Int)==6)=false from rfl,show ((9:Int)==7)=false from rfl,show ((9:Int)==8)=false from rfl,bF_,fF_] at hh
  rw [Sum.inr.injEq,Prod.mk.injEq,Prod.mk.injEq] at hh
  rw [← hh.1,← hh.2.1,← hh.2.2];rfl
 rw [show (r.kind==9)=false by simpa using H]
 simp only [bF_,fF_]
 by_cases I:r.kind=8
 .rw [I]
  simp only [bQ_,fT_]
  unfold F_ at hh
  rw [I] at hh
  simp only [show ((8:Int)==5)=false from rfl,show ((8:Int)==6)=false from rfl,show ((8:Int)==7)=false from rfl,bF_,fF_,bQ_,fT_] at hh
  cases hc:b[at_]? with
  | none=>rw [hc] at hh;cases hh
  | some c =>
   rw [hc] at hh
   simp only at hh
   split at hh
   .cases hh
   .rename_i a1
    rw [Sum.inr.injEq,Prod.mk.injEq,Prod.mk.injEq] at hh
    have hlt:at_<b.length:=(gS_.1 hc).1;have hbc:byteI c=(c.toNat:Int):=rfl
    have a2:c.toNat ≠ 0:=λY=>by
     apply hne;rw [← hh.2.1,Y];rfl
    have hc1':c.toNat=1:=by omega
    rw [dT_ (show (at_:Int)<(b.length:Int) by omega),ix_ hlt]
    have:b[at_]=c:=(gS_.1 hc).2
    rw [this]
    simp only [fT_,bd_some]
    rw [show (byteI c==byteI (1:UInt8))=true by rw [hbc,hc1'];rfl]
    simp only [fT_,bd_some,el_inr]
    rw [← hh.1,← hh.2.1,← hh.2.2,ia_ (by omega) (by omega),hc1'];rfl
 rw [show (r.kind==8)=false by simpa using I]
 simp only [bF_,fF_]
 have G:r.kind=5∨r.kind=7:=by omega
 have hlim:0<lim d.rules (n_ r)/\0<r.kids.length:=by
  rcases G with h | h
  .have:=c_E hk h;exact ⟨this.1,by omega⟩
  .have:=c_P hk h;exact ⟨this.1,by omega⟩
 have hq:=b_L hlim.1;have hint:=h_d (b:=b) hq.1 hq.2 (by omega) ha
 have a3:bd (α:=Bool) (if (r.kind==5) then some (r.kind==5) else some (r.kind==7)) some=some true:=by
  rcases G with h | h <;> rw [h] <;> rfl
 have e57':(if (r.kind==5) then some (r.kind==5) else some (r.kind==7))=some true:=by
  rcases G with h | h <;> rw [h] <;> rfl
 rw [e57']
 simp only [bd_some,fT_]
 rw [b_G hlim.2,bd_some,hint]
 cases hi:O_ b (w_ d.rules<|n_ r) at_ with
 | none =>
  exfalso
  unfold F_ at hh
  rcases G with h | h <;> rw [h,hi] at hh <;> cases hh
 | some n =>
  simp only [bd3_some,nT_,bF_,fF_]
  have hrng:=b_W hq.2 hi
  rcases G with h5 | L
  .unfold F_ at hh
   rw [h5,hi] at hh
   simp only [bQ_,fT_] at hh
   split at hh
   .cases hh
   .rename_i hn
    rw [Sum.inr.injEq,Prod.mk.injEq,Prod.mk.injEq] at hh
    rw [h5,dT_ (show n<=40 by omega)]
    simp only [bQ_,fT_,bd_some,el_inr]
    rw [← hh.1,← hh.2.1,← hh.2.2,List.length_replicate]
    simp;omega
  .unfold F_ at hh
   rw [L,hi] at hh
   simp only [show ((7:Int)==5)=false from rfl,show ((7:Int)==6)=false from rfl,bF_,fF_,bQ_,fT_] at hh
   cases ht:a_V r.tags n with
   | none=>rw [ht] at hh;cases hh
   | some j =>
    rw [ht] at hh
    simp only at hh
    rw [Sum.inr.injEq,Prod.mk.injEq,Prod.mk.injEq] at hh
    have O:ks.length=1:=by rw [← hh.2.1];rfl
    have V:=hitem 0 (by omega);have W:=hpos ks[0] (gE_ (by omega))
    rw [hh.1]
    have J:=c_D (c_F hk) num 0
    rw [V] at J
    rw [L]
    simp only [show ((7:Int)==5)=false from rfl,bF_,fF_,bd_some,bQ_,fT_]
    have hl9':b_9 r num 0=some ks[0]:=J
    rw [hl9',bd_some,dT_ W]
    simp only [bd_some,fT_,el_inr]
    rw [← hh.2.2,O];rfl
def c_o (en:Int->Nat->Nat)(ks:List Int)(p:Nat):Nat->Nat
 | 0=>p
 | m+1=>en (ks.getD m 0)<|c_o en ks p m
theorem t_0 (en:Int->Nat->Nat)(ks:List Int)(p m:Nat)(hm:m<ks.length):c_o en ks p (m+1)=en ks[m] (c_o en ks p m):=by
 rw [c_o,Z_ hm]
theorem m_5 (en:Int->Nat->Nat)(k:Int)(ks:List Int)(p:Nat):∀m,c_o en (k::ks) p (m+1)=c_o en ks (en k p) m
 | 0=>rfl
 | m+1=>by
  rw [c_o,m_5 en k ks p m];rfl
theorem k_f {rd:Int->Nat->RR}{L:Nat}:∀{ks:List Int}{p:Nat}{vs:List Val}{e:Nat},d_w rd L ks p vs e->∀m (hm:m<ks.length),c_o (λk p=>(rd k p).2.1) ks p m<=L/\(rd ks[m] (c_o (λk p=>(rd k p).2.1) ks p m)).2.2=0
 | k::ks,p,vs,e,h,0,_=>by
  obtain ⟨h1,h2,_⟩:=h;exact ⟨h1,h2⟩
 | k::ks,p,vs,e,h,m+1,hm=>by
  obtain ⟨_,_,ws,_,h3⟩:=h;have:=k_f h3 m (by simpa using hm)
  rw [m_5]
  exact this
def enP (d:c_)(b:Bt)(k:Int)(p:Nat):Nat:=(rdW d.rules b k.toNat p).2.1
def o_a (d:c_)(b:Bt)(i p:Nat)(s:Str)(k q:Nat):Prop:=∀n,1000<=n->d_g n d i b p s=some ((k:Int),(q:Int),true)
theorem t_1 (hv:D_ d=true)(hd:SmD d)(hb:b.length<=400){i:Nat}(hi:i<d.rules.length){at_:Nat}(ha:at_<=b.length)(hok:(rdW d.rules b i at_).2.2=0){ks:List Int}{e:Nat}(h:RdOk d b d.rules[i] at_ (rdW d.rules b i at_) ks e){m:Nat}(hm:m<ks.length) :
  o_a d b i at_ (a_0 d.rules[i] m) ks[m].toNat (c_o (enP d b) ks (a_b d.rules d.rules[i] at_) m)/\d_s (a_0 d.rules[i] m):=by
 have hne:ks ≠ []:=λhn=>by rw [hn] at hm;simp at hm
 have hE:=s_Z hv hi ha hok h hne;have hr:=a_L hv hi;have hkk:∀k∈ks,0<=k/\k<(i:Int):=λk hk=>hr.kids k<|h.kids k hk
 have hS:=s_Y hr.kind hE h.small;refine ⟨λn hn=>?_,hS.2 m hm⟩;have hlen:=(b_f hv).2;unfold d_g
 rw [ix_ hi,bd_some,o_9 hb hr.kind ha hE hne<|λk hk=>(hkk k hk).1]
 simp only [bd3_some,tN_]
 have hP:=k_f h.ch;have hbody:∀j (hj:j<ks.length),b_9 d.rules[i] (rdW d.rules b i at_).1.number ((j:Nat):Int)=some ks[j]:=λj hj=>by rw [c_D (c_F hr.kind),h.item j hj]
 have G:=h.small;refine (congrArg (λz=>bd z _)<|k_E (st:=λj=>((c_o (enP d b) ks (a_b d.rules d.rules[i] at_) j:Nat):Int)) (r:=(ks[m],((c_o (enP d b) ks (a_b d.rules d.rules[i] at_) m:Nat):Int),true)) hm (λj hj=>?_) ?_).trans ?_
 rotate_left 2
 .have:=hkk ks[m] (gE_ hm)
  rw [bd_some,el_inr,show ((ks[m].toNat:Nat):Int)=ks[m] by omega]
 .have hjk:j<ks.length:=by omega
  have hp:=hP j hjk;have hk:=hkk ks[j] (gE_ hjk)
  rw [hbody j hjk,bd_some,i_p (by omega) _ j (by omega),bd_some]
  rw [iN_ (show ¬((a_0 d.rules[i] j).b==(a_0 d.rules[i] m).b)=true by
   intro he;have:=hS.1 j m hjk hm (by simpa using he)
   omega)]
  have hrd:=g_c hv hd hb ks[j].toNat (by omega) n (by omega) (c_o (enP d b) ks (a_b d.rules d.rules[i] at_) j) hp.1
  rw [show ((ks[j].toNat:Nat):Int)=ks[j] by omega] at hrd
  rw [hrd]
  unfold b_p
  simp only [bd3_some]
  rw [show (rdW d.rules b ks[j].toNat (c_o (enP d b) ks (a_b d.rules d.rules[i] at_) j)).2.2=0 from hp.2]
  rw [t_0 _ _ _ _ hjk]
  rfl
 .rw [hbody m hm,bd_some,i_p (by omega) _ m (by omega),bd_some,iP_ (by simp)]
end
end Go.Vw
namespace Go.Vw
open Go.RowKit Dat
def c_C (ss:List Str):Bt:=ss.flatMap (λs=>47::s.b)
inductive i_d (d:c_)(b:Bt):Nat->Nat->List Str->Nat->Nat->Prop
 | nil (i p:Nat):i_d d b i p [] i p
 | cons {i p i' p' k q:Nat} {s:Str} {ss:List Str} (h:o_a d b i p s k q) (hr:i_d d b k q ss i' p'):i_d d b i p (s::ss) i' p'
structure t_2 (d:c_)(b:Bt)(path:Str)(i p:Nat)(e:g_)(ss:List Str)(i' p':Nat):Prop where
 path:e.path.b=path.b++c_C ss
 good:∀s∈ss,d_s s
 rule:e.rule=i'
 start:e.start=p'
 end_:e.end_=((rdW d.rules b i' p').2.1:Nat)
 reach:i_d d b i p ss i' p'
 len:ss.length+i'<=i
 hi:i'<d.rules.length
 hp:p'<=b.length
 ok:(rdW d.rules b i' p').2.2=0
section
variable {d:c_}{b:Bt}
theorem m_6 {f:Int->Nat->Str->List g_}{en:Int->Nat->Nat}{r:b_}{path:Str}{x:g_}:∀(ks:List Int)(j pos:Nat),x∈ixL f en r path ks j pos->∃m,∃hm:m<ks.length,x∈f ks[m] (c_o en ks pos m) (c_G r path<|j+m)
 | [],_,_,h=>by simp [ixL] at h
 | k::ks,j,pos,h=>by
  unfold ixL at h
  rcases List.mem_append.1 h with h | h
  .exact ⟨0,by simp,h⟩
  .obtain ⟨m,hm,h⟩:=m_6 ks (j+1) (en k pos) h;refine ⟨m+1,by simpa using hm,?_⟩
   rw [m_5]
   rw [show j+(m+1)=j+1+m by omega]
   exact h
theorem t_3 (hv:D_ d=true)(hd:SmD d)(hb:b.length<=400):∀(i:Nat),i<d.rules.length->∀(at_:Nat)(path:Str)(e:g_),at_<=b.length->(rdW d.rules b i at_).2.2=0->e∈ixW d.rules b i at_ path->∃ss i' p',t_2 d b path i at_ e ss i' p':=by
 intro i
 induction i using Nat.strongRecOn with
 | _ i ih =>
  intro hi at_ path x ha hok hx;obtain ⟨ks,e,h⟩:=e_x hv hi ha hok
  rw [i_q hv hi h path] at hx
  rcases List.mem_cons.1 hx with rfl | hx
  .exact ⟨[],i,at_,by simp [c_C],λ_ h=>by simp at h,rfl,rfl,rfl,.nil _ _,by simp,hi,ha,hok⟩
  .obtain ⟨m,hm,hx⟩:=m_6 _ _ _ hx;have hkr:=(a_L hv hi).kids _ (h.kids _<|gE_ hm);have hP:=k_f h.ch m hm
   rw [Nat.zero_add] at hx
   obtain ⟨ss,i',p',L⟩:=ih ks[m].toNat (by omega) (by omega) _ _ x hP.1 hP.2 hx;obtain ⟨S,G⟩:=t_1 hv hd hb hi ha hok h hm;refine ⟨a_0 d.rules[i] m::ss,i',p',?_,?_,L.rule,L.start,L.end_,.cons S L.reach,?_,L.hi,L.hp,L.ok⟩
   .rw [L.path];simp [c_G,c_C]
   .intro s hs
    rcases List.mem_cons.1 hs with rfl | hs
    .exact G
    .exact L.good s hs
   .have:=L.len;simp;omega
theorem o_b:∀(ss:List Str),(∀s∈ss,d_s s)->(c_C ss).length<=22 * ss.length
 | [],_=>by simp [c_C]
 | s::ss,h=>by
  have:=o_b ss<|λs hs=>h s<|mT_ _ hs;have:=(h s mS_).len
  simp [c_C] at *;omega
theorem o_c:∀(ss:List Str)(cur:Bt),(∀s∈ss,d_s s)->W_ 47 (c_C ss) cur=⟨cur⟩::ss
 | [],cur,_=>by simp [c_C,W_]
 | s::ss,cur,h=>by
  have e:c_C (s::ss)=47::(s.b++c_C ss):=by simp [c_C]
  rw [e,W_,iP_ rfl,o_6 _ _ _ _ (h s mS_).char,o_c ss _<|λs hs=>h s<|mT_ _ hs]
  simp
theorem t_4 (ss:List Str)(h:∀s∈ss,d_s s):b_t ⟨c_C ss⟩=(ss,true):=by
 unfold b_t
 by_cases hn:ss=[]
 .subst hn;rfl
 .obtain ⟨s,t,rfl⟩:=List.exists_cons_of_ne_nil hn
  rw [iN_ (by simp [c_C]),o_c _ _ h,iP_ ⟨rfl,by
   rw [List.tail_cons,List.all_eq_true];exact λs hs=>(h s hs).step⟩]
  simp
theorem t_5 {n:Nat}(hn:1000<=n){l:List Str}{i p i' p':Nat}{ss:List Str}(h:i_d d b i p ss i' p'):∀k,k+ss.length=l.length->l.drop k=ss ->
  p_ (σ:=Int×Int) (ρ:=g_×Bool) (λG=>un2 λH I=>bd (idx l ((G:Nat):Int)) λJ=>bd3 (d_g n d H b I J) λL O V=>if (!V) then some (.ret ((⟨(⟨[]⟩:Str),0,0,0⟩:g_),false)) else some (.next (L,O))) ss.length k ((i:Int),(p:Int))=some (.inl ((i':Int),(p':Int))):=by
 induction h with
 | nil=>intro k _ _;rfl
 | @cons i p i' p' k' q s ss h _ ih =>
  intro k hk hd;have hlt:k<l.length:=by simp at hk;omega
  rw [dC_ hlt] at hd
  simp only [List.cons.injEq] at hd
  rw [lC_,p_,ix_ hlt]
  simp only [un2,bd_some]
  rw [hd.1,h n hn]
  simp only [bd3_some,nT_,bF_,fF_]
  exact ih (k+1) (by simp at hk;omega) hd.2
theorem m_7 (hv:D_ d=true)(hb:b.length<=400){i p:Nat}(hi:i<d.rules.length)(hp:p<=b.length):b_q d i b p=b_p (rdW d.rules b i p):=by
 unfold b_q
 rw [iP_]
 .simp
 .unfold okV b_n
  rw [hv,dT_ (show (0:Int)<=(i:Int) by omega),dT_ (show (i:Int)<(d.rules.length:Int) by omega),dT_ (show (0:Int)<=(p:Int) by omega),dT_ (show (p:Int)<=(b.length:Int) by omega),dT_ (show (b.length:Int)<=400 by omega)]
  rfl
end
theorem t_6 {x:Nat}(h:x<4294967296):(Lib.itoa x).length<=20:=by
 have:=m_3 12 x (by omega)
 rw [e_o];omega
section
variable {d:c_}{b:Bt}
end
end Go.Vw
