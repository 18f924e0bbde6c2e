import Derived.Test.YtpjplgfnhbjjjaaGreatDoorV7
namespace Go.Vw
open Go.RowKit Dat
theorem r_U {s:Str}(h:b_b s=true):∀c∈s.b,c ≠ 47/\c ≠ 58:=by
 intro c hc;unfold b_b at h
 rw [aE_,Bool.not_eq_true',List.any_eq_false] at h
 obtain ⟨k,hk,rfl⟩:=List.getElem_of_mem hc;have h1:=h.1 k<|List.mem_range.2 hk;unfold b_K at h1
 rw [gG_ hk] at h1
 simp only at h1
 constructor
 .intro h2;rw [h2] at h1;simp [show g_r 47=false by decide,show a_N 47=false by decide] at h1
 .intro h2;rw [h2] at h1;simp [show g_r 58=false by decide,show a_N 58=false by decide] at h1
theorem r_V {l:List Str}{s:Str}:e_z l s=true ↔ ∃x∈l,x.b=s.b:=by
 unfold e_z;simp
theorem r_W {rs:List d_}{r:d_}(h:a_i rs r=true)(hk:r.kind=6){i j:Nat}(hi:i<r.names.length)(hj:j<r.names.length)(he:r.names[i].b=r.names[j].b):i=j:=by
 unfold a_i at h
 rw [hk] at h
 simp only [show ((6:Int)==1)=false from rfl,show ((6:Int)==2)=false from rfl,show ((6:Int)==3)=false from rfl,show ((6:Int)==4)=false from rfl,show ((6:Int)==5)=false from rfl,bF_,fF_,bQ_,fT_,aE_,Bool.not_eq_true',List.any_eq_false] at h
 have key:∀i j (hi:i<r.names.length) (hj:j<r.names.length),i<j->r.names[i].b ≠ r.names[j].b:=λi j hi hj hij he=>by
  have h1:=h.2.1 j<|List.mem_range.2 hj;unfold c_T at h1
  rw [gG_ hj] at h1
  simp only [Bool.or_eq_true,not_or] at h1
  exact h1.2 (r_V.2 ⟨r.names[i],by rw [List.mem_take_iff_getElem];exact ⟨i,by omega,rfl⟩,he⟩)
 rcases Nat.lt_trichotomy i j with h1 | h1 | h1
 .exact absurd he<|key i j hi hj h1
 .exact h1
 .exact absurd he.symm<|key j i hj hi h1
structure c_W (s:Str):Prop where
 step:c_v s=true
 char:∀c∈s.b,c ≠ 47
 len:s.b.length<=21
theorem r_X {s:Str}(h:b_b s=true):c_W s:=⟨by unfold c_v;rw [h];rfl,λc hc=>(r_U h c hc).1,by have:=l_T h;omega⟩
theorem r_Y {i:Nat}(h:i<=1000000000):c_W ⟨Lib.itoa i⟩:=⟨by unfold c_v;rw [o_k i (by omega)];simp,λc hc=>by
  have:=o_i i c (by simpa only [e_B] using hc);intro he;rw [he] at this
  have:byteI (47:UInt8)=47:=rfl
  omega,i_F i h⟩
structure Ent (d:c_)(b:Bt)(r:d_)(at_:Nat)(ks:List Int)(num:Int):Prop where
 head:a_d d.rules b r at_ = .inr (num,ks,a_g d.rules r at_)
 lo:5<=r.kind
 hi:r.kind<=9
theorem l_t {d:c_}{b:Bt}{r:d_}{at_:Nat}{ks:List Int}{num:Int}(hk:a_i d.rules r=true)(h:Ent d b r at_ ks num)(h40:ks.length<=40):(∀i j,i<ks.length->j<ks.length->(D_ r i).b=(D_ r j).b->i=j)/\∀i,i<ks.length->c_W (D_ r i):=by
 have hh:=h.head;have h1:=h.lo;have h2:=h.hi;generalize a_g d.rules r at_=st at hh
 have one:ks.length<=1->(∀i j,i<ks.length->j<ks.length->(D_ r i).b=(D_ r j).b->i=j):=λh i j hi hj _=>by omega
 by_cases h5:r.kind=5
 .have e:∀i,D_ r i=⟨Lib.itoa i⟩:=λi=>by unfold D_;rw [h5];rfl
  exact ⟨λi j _ _ he=>by rw [e,e] at he;exact r_P he,λi hi=>by rw [e];exact r_Y (by omega)⟩
 by_cases h6:r.kind=6
 .unfold a_d at hh
  rw [h6] at hh
  have hks:ks=r.kids:=by cases hh;rfl
  have hs:=f_y hk h6;have e:∀i (hi:i<r.names.length),D_ r i=r.names[i]:=λi hi=>by unfold D_;rw [h6,dT_ hi,N_ hi];rfl
  subst hks;refine ⟨λi j hi hj he=>?_,λi hi=>?_⟩
  .rw [e i (by omega),e j (by omega)] at he;exact r_W hk h6 (by omega) (by omega) he
  .rw [e i (by omega)];exact r_X<|hs.2.2.2 _<|gE_ (by omega)
 have hlen:ks.length<=1:=by
  unfold a_d at hh
  rw [show (r.kind==5)=false by simpa using h5,show (r.kind==6)=false by simpa using h6] at hh
  simp only [bF_,fF_] at hh
  split at hh
  .split at hh
   .cases hh
   .split at hh
    .cases hh
    .cases hh;simp
  split at hh
  .split at hh
   .cases hh
   .split at hh
    .cases hh
    .rename_i c _ hc
     cases hh
     have:byteI c=(c.toNat:Int):=rfl
     simp;omega
  .cases hh;simp
 refine ⟨one hlen,λi hi=>?_⟩;have G:i=0:=by omega
 subst G;unfold D_
 rw [show (r.kind==5)=false by simpa using h5,show (r.kind==6)=false by simpa using h6]
 have:r.kind=7∨r.kind=8∨r.kind=9:=by omega
 rcases this with h | h | h <;> rw [h]
 .exact (show c_W ⟨[42]⟩ from ⟨by decide,by decide,by decide⟩)
 .exact (show c_W ⟨[63]⟩ from ⟨by decide,by decide,by decide⟩)
 .exact (show c_W ⟨[43]⟩ from ⟨by decide,by decide,by decide⟩)
theorem h_x {b:Bt}{r:d_}{num:Int}{at_:Nat}{x:List Val×Nat×Int}(G:(b_c b r num at_ x).2.2=0)(H:r.kind=9->num=0):(b_c b r num at_ x).1.items=x.1/\(b_c b r num at_ x).1.number=num/\x.2.2=0:=by
 unfold b_c at *
 by_cases hx:x.2.2=0
 .rw [iP_ hx] at *
  by_cases hk:r.kind=9
  .rw [show (r.kind==9)=true by simpa using hk] at *
   simp only [fT_] at *
   cases hb:b[x.2.1]? with
   | none=>rw [hb] at G;cases G
   | some c =>
    rw [hb] at G
    simp only at G ⊢
    by_cases hs:byteI c=c_f (a_f b at_ x.2.1)
    .rw [iP_ hs];exact ⟨rfl,(H hk).symm,hx⟩
    .rw [iN_ hs] at G;cases G
  .rw [show (r.kind==9)=false by simpa using hk];exact ⟨rfl,rfl,hx⟩
 .rw [iN_ hx] at G;exact absurd G hx
section
variable {d:c_}{b:Bt}
theorem l_u (hv:O_ d=true){i:Nat}(hi:i<d.rules.length){at_:Nat}(ha:at_<=b.length)(hok:(rdW d.rules b i at_).2.2=0){ks:List Int}{e:Nat}(h:h_C d b d.rules[i] at_ (rdW d.rules b i at_) ks e)(hne:ks ≠ []):Ent d b d.rules[i] at_ ks (rdW d.rules b i at_).1.number:=by
 have hr:=a_O hv hi;have hal:=e_H hr.kind;have hlen:=h_B h.ch;have hni:(rdW d.rules b i at_).1.items ≠ []:=λhn=>by rw [hn] at hlen;exact hne<|List.length_eq_zero_iff.1 hlen.symm
 have hitem0:=h.item
 clear h
 rw [g_x hv hi ha] at *
 generalize d.rules[i]=r at *
 unfold rdB at *
 have hby:∀p n,(a_J b p n).1.items=[]:=λp n=>by unfold a_J;split <;> rfl
 by_cases h1:r.kind=1
 .exfalso;apply hni;rw [h1];simp only [bQ_,fT_];split <;> rfl
 rw [show (r.kind==1)=false by simpa using h1] at *
 by_cases h2:r.kind=2
 .exfalso;apply hni;rw [h2];rfl
 rw [show (r.kind==2)=false by simpa using h2] at *
 by_cases h3:r.kind=3
 .exfalso;apply hni;rw [h3];exact hby _ _
 rw [show (r.kind==3)=false by simpa using h3] at *
 by_cases h4:r.kind=4
 .exfalso;apply hni;rw [h4];simp only [bF_,fF_,bQ_,fT_];split
  .rfl
  .exact hby _ _
 rw [show (r.kind==4)=false by simpa using h4] at *
 by_cases G:r.kind=10
 .exfalso;apply hni;rw [G];simp only [bF_,fF_,bQ_,fT_];split <;> rfl
 rw [show (r.kind==10)=false by simpa using G] at *
 simp only [bF_,fF_] at *
 cases hh:a_d d.rules b r at_ with
 | inl c=>rw [hh] at hni;exact absurd rfl hni
 | inr y =>
  obtain ⟨num,ks',st⟩:=y
  rw [hh] at hok hni hlen hitem0
  simp only at hok hni hlen hitem0
  obtain ⟨hitem,hst,I⟩:=l_N hr.kind (by omega) hh;have hk:=k_k hr.kind (by omega) ha hh;obtain ⟨J,H,f3⟩:=h_x hok I
  have hlek:∀k∈ks',∀p,p<=b.length->(rdW d.rules b k.toNat p).2.1<=b.length:=λk hk' p hp=>by
   have:=hr.kids k<|hk.1 k hk';exact (c_L hv k.toNat (by omega) p hp).2
  have hch:=l_M (rd:=λk p=>rdW d.rules b k.toNat p) (L:=b.length) ks' st hk.2.2.1 hlek f3;have hl':=h_B hch
  rw [J] at hlen
  rw [H] at hitem0
  have hks:ks'=ks:=by
   apply List.ext_getElem
   .omega
   .intro j h1 h2
    rw [← hitem j h1,← hitem0 j h2]
  simp only
  rw [H,← hks]
  exact ⟨by rw [hh,hst],by omega,by omega⟩
theorem r_Z (hb:b.length<=400){r:d_}(hk:a_i d.rules r=true){at_:Nat}(ha:at_<=b.length){ks:List Int}{num:Int}(h:Ent d b r at_ ks num)(hne:ks ≠ [])(hpos:∀k∈ks,0<=k):m_P d r b at_=some (((a_g d.rules r at_:Nat):Int),(ks.length:Int),num):=by
 have hMX:=MXv;have hh:=h.head;obtain ⟨hitem,hst,a0⟩:=l_N hk ⟨h.lo,h.hi⟩ hh;have h1:=h.lo;have h2:=h.hi
 clear hst
 unfold m_P
 by_cases h6:r.kind=6
 .rw [h6]
  simp only [bQ_,fT_]
  unfold a_d at hh
  rw [h6] at hh
  simp only [show ((6:Int)==5)=false from rfl,bF_,fF_,bQ_,fT_] at hh
  rw [Sum.inr.injEq,Prod.mk.injEq,Prod.mk.injEq] at hh
  rw [← hh.1,← hh.2.1,← hh.2.2]
 rw [show (r.kind==6)=false by simpa using h6]
 simp only [bF_,fF_]
 by_cases H:r.kind=9
 .rw [H]
  simp only [bQ_,fT_]
  unfold a_d at hh
  rw [H] at hh
  simp only [show ((9:Int)==5)=false from rfl,show ((9:Int)==6)=false from rfl,show ((9:Int)==7)=false from rfl,show ((9:Int)==8)=false from rfl,bF_,fF_] at hh
  rw [Sum.inr.injEq,Prod.mk.injEq,Prod.mk.injEq] at hh
  rw [← hh.1,← hh.2.1,← hh.2.2];rfl
 rw [show (r.kind==9)=false by simpa using H]
 simp only [bF_,fF_]
 by_cases I:r.kind=8
 .rw [I]
  simp only [bQ_,fT_]
  unfold a_d at hh
  rw [I] at hh
  simp only [show ((8:Int)==5)=false from rfl,show ((8:Int)==6)=false from rfl,show ((8:Int)==7)=false from rfl,bF_,fF_,bQ_,fT_] at hh
  cases hc:b[at_]? with
  | none=>rw [hc] at hh;cases hh
  | some c =>
   rw [hc] at hh
   simp only at hh
   split at hh
   .cases hh
   .rename_i a1
    rw [Sum.inr.injEq,Prod.mk.injEq,Prod.mk.injEq] at hh
    have hlt:at_<b.length:=(gS_.1 hc).1;have hbc:byteI c=(c.toNat:Int):=rfl
    have a2:c.toNat ≠ 0:=λY=>by
     apply hne;rw [← hh.2.1,Y];rfl
    have hc1':c.toNat=1:=by omega
    rw [dT_ (show (at_:Int)<(b.length:Int) by omega),ix_ hlt]
    have:b[at_]=c:=(gS_.1 hc).2
    rw [this]
    simp only [fT_,bd_some]
    rw [show (byteI c==byteI (1:UInt8))=true by rw [hbc,hc1'];rfl]
    simp only [fT_,bd_some,el_inr]
    rw [← hh.1,← hh.2.1,← hh.2.2,ia_ (by omega) (by omega),hc1'];rfl
 rw [show (r.kind==8)=false by simpa using I]
 simp only [bF_,fF_]
 have G:r.kind=5∨r.kind=7:=by omega
 have hlim:0<lim d.rules (k_ r)/\0<r.kids.length:=by
  rcases G with h | h
  .have:=c_X hk h;exact ⟨this.1,by omega⟩
  .have:=d_K hk h;exact ⟨this.1,by omega⟩
 have hq:=d_I hlim.1;have hint:=k_f (b:=b) hq.1 hq.2 (by omega) ha
 have a3:bd (α:=Bool) (if (r.kind==5) then some (r.kind==5) else some (r.kind==7)) some=some true:=by
  rcases G with h | h <;> rw [h] <;> rfl
 have e57':(if (r.kind==5) then some (r.kind==5) else some (r.kind==7))=some true:=by
  rcases G with h | h <;> rw [h] <;> rfl
 rw [e57']
 simp only [bd_some,fT_]
 rw [d_e hlim.2,bd_some,hint]
 cases hi:a_j b (F_ d.rules<|k_ r) at_ with
 | none =>
  exfalso
  unfold a_d at hh
  rcases G with h | h <;> rw [h,hi] at hh <;> cases hh
 | some n =>
  simp only [bd3_some,nT_,bF_,fF_]
  have hrng:=d_l hq.2 hi
  rcases G with h5 | L
  .unfold a_d at hh
   rw [h5,hi] at hh
   simp only [bQ_,fT_] at hh
   split at hh
   .cases hh
   .rename_i hn
    rw [Sum.inr.injEq,Prod.mk.injEq,Prod.mk.injEq] at hh
    rw [h5,dT_ (show n<=40 by omega)]
    simp only [bQ_,fT_,bd_some,el_inr]
    rw [← hh.1,← hh.2.1,← hh.2.2,List.length_replicate]
    simp;omega
  .unfold a_d at hh
   rw [L,hi] at hh
   simp only [show ((7:Int)==5)=false from rfl,show ((7:Int)==6)=false from rfl,bF_,fF_,bQ_,fT_] at hh
   cases ht:b_5 r.tags n with
   | none=>rw [ht] at hh;cases hh
   | some j =>
    rw [ht] at hh
    simp only at hh
    rw [Sum.inr.injEq,Prod.mk.injEq,Prod.mk.injEq] at hh
    have O:ks.length=1:=by rw [← hh.2.1];rfl
    have V:=hitem 0 (by omega);have W:=hpos ks[0] (gE_ (by omega))
    rw [hh.1]
    have J:=b_O (b_d hk) num 0
    rw [V] at J
    rw [L]
    simp only [show ((7:Int)==5)=false from rfl,bF_,fF_,bd_some,bQ_,fT_]
    have hl9':a_D r num 0=some ks[0]:=J
    rw [hl9',bd_some,dT_ W]
    simp only [bd_some,fT_,el_inr]
    rw [← hh.2.2,O];rfl
def b_4 (en:Int->Nat->Nat)(ks:List Int)(p:Nat):Nat->Nat
 | 0=>p
 | m+1=>en (ks.getD m 0)<|b_4 en ks p m
theorem o_m (en:Int->Nat->Nat)(ks:List Int)(p m:Nat)(hm:m<ks.length):b_4 en ks p (m+1)=en ks[m] (b_4 en ks p m):=by
 rw [b_4,N_ hm]
theorem k_a (en:Int->Nat->Nat)(k:Int)(ks:List Int)(p:Nat):∀m,b_4 en (k::ks) p (m+1)=b_4 en ks (en k p) m
 | 0=>rfl
 | m+1=>by
  rw [b_4,k_a en k ks p m];rfl
theorem l_v {rd:Int->Nat->RR}{L:Nat}:∀{ks:List Int}{p:Nat}{vs:List Val}{e:Nat},e_9 rd L ks p vs e->∀m (hm:m<ks.length),b_4 (λk p=>(rd k p).2.1) ks p m<=L/\(rd ks[m] (b_4 (λk p=>(rd k p).2.1) ks p m)).2.2=0
 | k::ks,p,vs,e,h,0,_=>by
  obtain ⟨h1,h2,_⟩:=h;exact ⟨h1,h2⟩
 | k::ks,p,vs,e,h,m+1,hm=>by
  obtain ⟨_,_,ws,_,h3⟩:=h;have:=l_v h3 m (by simpa using hm)
  rw [k_a]
  exact this
def enP (d:c_)(b:Bt)(k:Int)(p:Nat):Nat:=(rdW d.rules b k.toNat p).2.1
def StepTo (d:c_)(b:Bt)(i p:Nat)(s:Str)(k q:Nat):Prop:=∀n,1000<=n->p_J n d i b p s=some ((k:Int),(q:Int),true)
theorem s_0 (hv:O_ d=true)(hd:SmD d)(hb:b.length<=400){i:Nat}(hi:i<d.rules.length){at_:Nat}(ha:at_<=b.length)(hok:(rdW d.rules b i at_).2.2=0){ks:List Int}{e:Nat}(h:h_C d b d.rules[i] at_ (rdW d.rules b i at_) ks e){m:Nat}(hm:m<ks.length) :
  StepTo d b i at_ (D_ d.rules[i] m) ks[m].toNat (b_4 (enP d b) ks (a_g d.rules d.rules[i] at_) m)/\c_W (D_ d.rules[i] m):=by
 have hne:ks ≠ []:=λhn=>by rw [hn] at hm;simp at hm
 have hE:=l_u hv hi ha hok h hne;have hr:=a_O hv hi;have hkk:∀k∈ks,0<=k/\k<(i:Int):=λk hk=>hr.kids k<|h.kids k hk
 have hS:=l_t hr.kind hE h.small;refine ⟨λn hn=>?_,hS.2 m hm⟩;have hlen:=(b_B hv).2;unfold p_J
 rw [ix_ hi,bd_some,r_Z hb hr.kind ha hE hne<|λk hk=>(hkk k hk).1]
 simp only [bd3_some,tN_]
 have hP:=l_v h.ch;have hbody:∀j (hj:j<ks.length),a_D d.rules[i] (rdW d.rules b i at_).1.number ((j:Nat):Int)=some ks[j]:=λj hj=>by rw [b_O (b_d hr.kind),h.item j hj]
 have h40:=h.small;refine (congrArg (λz=>bd z _)<|i_O (st:=λj=>((b_4 (enP d b) ks (a_g d.rules d.rules[i] at_) j:Nat):Int)) (r:=(ks[m],((b_4 (enP d b) ks (a_g d.rules d.rules[i] at_) m:Nat):Int),true)) hm (λj hj=>?_) ?_).trans ?_
 rotate_left 2
 .have:=hkk ks[m] (gE_ hm)
  rw [bd_some,el_inr,show ((ks[m].toNat:Nat):Int)=ks[m] by omega]
 .have hjk:j<ks.length:=by omega
  have hp:=hP j hjk;have hk:=hkk ks[j] (gE_ hjk)
  rw [hbody j hjk,bd_some,e_L (by omega) _ j (by omega),bd_some]
  rw [iN_ (show ¬((D_ d.rules[i] j).b==(D_ d.rules[i] m).b)=true by
   intro he;have:=hS.1 j m hjk hm (by simpa using he)
   omega)]
  have hrd:=o_H hv hd hb ks[j].toNat (by omega) n (by omega) (b_4 (enP d b) ks (a_g d.rules d.rules[i] at_) j) hp.1
  rw [show ((ks[j].toNat:Nat):Int)=ks[j] by omega] at hrd
  rw [hrd]
  unfold c_w
  simp only [bd3_some]
  rw [show (rdW d.rules b ks[j].toNat (b_4 (enP d b) ks (a_g d.rules d.rules[i] at_) j)).2.2=0 from hp.2]
  rw [o_m _ _ _ _ hjk]
  rfl
 .rw [hbody m hm,bd_some,e_L (by omega) _ m (by omega),bd_some,iP_ (by simp)]
end
end Go.Vw
namespace Go.Vw
open Go.RowKit Dat
def c_e (ss:List Str):Bt:=ss.flatMap (λs=>47::s.b)
section
variable {d:c_}{b:Bt}
theorem l_w:∀(ss:List Str),(∀s∈ss,c_W s)->(c_e ss).length<=22 * ss.length
 | [],_=>by simp [c_e]
 | s::ss,h=>by
  have:=l_w ss<|λs hs=>h s<|mT_ _ hs;have:=(h s mS_).len
  simp [c_e] at *;omega
theorem o_n:∀(ss:List Str)(cur:Bt),(∀s∈ss,c_W s)->a_v 47 (c_e ss) cur=⟨cur⟩::ss
 | [],cur,_=>by simp [c_e,a_v]
 | s::ss,cur,h=>by
  have e:c_e (s::ss)=47::(s.b++c_e ss):=by simp [c_e]
  rw [e,a_v,iP_ rfl,o_l _ _ _ _ (h s mS_).char,o_n ss _<|λs hs=>h s<|mT_ _ hs]
  simp
theorem o_o (ss:List Str)(h:∀s∈ss,c_W s):e_6 ⟨c_e ss⟩=(ss,true):=by
 unfold e_6
 by_cases hn:ss=[]
 .subst hn;rfl
 .obtain ⟨s,t,rfl⟩:=List.exists_cons_of_ne_nil hn
  rw [iN_ (by simp [c_e]),o_n _ _ h,iP_ ⟨rfl,by
   rw [List.tail_cons,List.all_eq_true];exact λs hs=>(h s hs).step⟩]
  simp
end
theorem s_1 {x:Nat}(h:x<4294967296):(Lib.itoa x).length<=20:=by
 have:=l_p 12 x (by omega)
 rw [e_B];omega
section
variable {d:c_}{b:Bt}
end
end Go.Vw
