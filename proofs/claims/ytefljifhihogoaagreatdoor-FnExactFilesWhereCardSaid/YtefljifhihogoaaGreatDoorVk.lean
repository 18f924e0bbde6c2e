import Derived.Test.YtefljifhihogoaaGreatDoorVj
namespace Go.Vw
set_option linter.unusedVariables false
open Go.RowKit Dat
theorem v_S {s:Str}(h:b_3 s=true):∀c∈s.b,c ≠ 47/\c ≠ 58:=by
 intro c hc;unfold b_3 at h
 rw [aE_,QAt,QAi] at h
 obtain ⟨k,hk,rfl⟩:=QAc hc;have h1:=h.1 k<|QAX.2 hk;unfold c_f at h1
 rw [gG_ hk] at h1
 simp only at h1
 constructor
 .intro h2;rw [h2] at h1;grind [h_d,b_2]
 .intro h2;rw [h2] at h1;grind [h_d,b_2]
theorem q_A {l:List Str}{s:Str}:e_5 l s=true ↔ ∃x∈l,x.b=s.b:=by
 simp [e_5]
theorem v_T {rs:List f_}{r:f_}(h:a_m rs r=true)(hk:r.kind=6){i j:Nat}(hi:i<r.names.length)(hj:j<r.names.length)(he:r.names[i].b=r.names[j].b):i=j:=by
 unfold a_m at h
 rw [hk] at h
 simp only [show ((6:Int)==1)=false from rfl,show ((6:Int)==2)=false from rfl,show ((6:Int)==3)=false from rfl,show ((6:Int)==4)=false from rfl,show ((6:Int)==5)=false from rfl,bF_,fF_,bQ_,fT_,aE_,QAt,QAi] at h
 have key:∀i j (hi:i<r.names.length) (hj:j<r.names.length),i<j->r.names[i].b ≠ r.names[j].b:=λi j hi hj hij he=>by
  have h1:=h.2.1 j<|QAX.2 hj;unfold d_h at h1
  rw [gG_ hj] at h1
  simp only [Bool.or_eq_true,not_or] at h1
  exact h1.2 (q_A.2 ⟨r.names[i],by rw [List.mem_take_iff_getElem];grind,he⟩)
 grind
structure e_8 (s:Str):Prop where
 step:c_n s=true
 char:∀c∈s.b,c ≠ 47
 len:s.b.length<=21
theorem v_U {s:Str}(h:b_3 s=true):e_8 s:=⟨by grind [c_n],λc hc=>(v_S h c hc).1,by grind [o_v]⟩
theorem v_V {i:Nat}(h:i<=1000000000):e_8 ⟨Lib.itoa i⟩:=⟨by grind [c_n,q_x],λc hc=>by
  have:=q_r i c (by grind [h_i]);intro he;rw [he] at this
  grind,s_N i h⟩
structure Ent (d:d_)(b:Bt)(r:f_)(at_:Nat)(ks:List Int)(num:Int):Prop where
 head:I_ d.rules b r at_ = .inr (num,ks,a_f d.rules r at_)
 lo:5<=r.kind
 hi:r.kind<=9
theorem v_W {d:d_}{b:Bt}{r:f_}{at_:Nat}{ks:List Int}{num:Int}(hk:a_m d.rules r=true)(h:Ent d b r at_ ks num)(H:ks.length<=40):(∀i j,i<ks.length->j<ks.length->(a_c r i).b=(a_c r j).b->i=j)/\∀i,i<ks.length->e_8 (a_c r i):=by
 have hh:=h.head;have h1:=h.lo;have h2:=h.hi;generalize a_f d.rules r at_=st at hh
 have one:ks.length<=1->(∀i j,i<ks.length->j<ks.length->(a_c r i).b=(a_c r j).b->i=j):=λh i j hi hj _=>by omega
 by_cases h5:r.kind=5
 .grind [a_c,Lib.itoa,q_u,v_V]
 by_cases h6:r.kind=6
 .grind [a_c,I_,v_U,List.getElem_mem,v_T,decide_eq_true,a_x,e_F]
 have hlen:ks.length<=1:=by
  unfold I_ at hh
  grind
 refine ⟨one hlen,λi hi=>?_⟩;have G:i=0:=by omega
 subst G;unfold a_c
 rw [show (r.kind==5)=false by grind,show (r.kind==6)=false by grind]
 have:r.kind=7∨r.kind=8∨r.kind=9:=by omega
 rcases this with h | h | h <;> rw [h]
 .exact (show e_8 ⟨[42]⟩ from ⟨by decide,by decide,by decide⟩)
 .exact (show e_8 ⟨[63]⟩ from ⟨by decide,by decide,by decide⟩)
 .exact (show e_8 ⟨[43]⟩ from ⟨by decide,by decide,by decide⟩)
theorem i_5 {b:Bt}{r:f_}{num:Int}{at_:Nat}{x:List Val×Nat×Int}(G:(a_R b r num at_ x).2.2=0)(H:r.kind=9->num=0):(a_R b r num at_ x).1.items=x.1/\(a_R b r num at_ x).1.number=num/\x.2.2=0:=by
 unfold a_R at *
 by_cases hx:x.2.2=0
 .rw [iP_ hx] at *
  by_cases hk:r.kind=9
  .rw [show (r.kind==9)=true by grind] at *
   simp only [fT_] at *
   cases hb:b[x.2.1]? with
   | none=>grind
   | some c =>
    rw [hb] at G
    simp only at G ⊢
    by_cases hs:b_ c=c_Y (a_v b at_ x.2.1)
    .rw [iP_ hs];exact ⟨rfl,(H hk).symm,hx⟩
    grind
  .rw [show (r.kind==9)=false by grind];exact ⟨rfl,rfl,hx⟩
 grind
section
variable {d:d_}{b:Bt}
theorem v_X (hv:D_ d=true){i:Nat}(hi:i<d.rules.length){at_:Nat}(ha:at_<=b.length)(hok:(rdW d.rules b i at_).2.2=0){ks:List Int}{e:Nat}(h:RdOk d b d.rules[i] at_ (rdW d.rules b i at_) ks e)(hne:ks ≠ []):Ent d b d.rules[i] at_ ks (rdW d.rules b i at_).1.number:=by
 have hr:=a_P hv hi;have hal:=g_h hr.kind;have hlen:=i_i h.ch;have hni:(rdW d.rules b i at_).1.items ≠ []:=λhn=>by grind
 have hitem0:=h.item
 clear h
 rw [e_G hv hi ha] at *
 generalize d.rules[i]=r at *
 unfold rdB at *
 have hby:∀p n,(a_H b p n).1.items=[]:=λp n=>by unfold a_H;split <;> rfl
 by_cases h1:r.kind=1
 .exfalso;apply hni;rw [h1];simp only [bQ_,fT_];split <;> rfl
 rw [show (r.kind==1)=false by grind] at *
 by_cases h2:r.kind=2
 .exfalso;apply hni;rw [h2];rfl
 rw [show (r.kind==2)=false by grind] at *
 by_cases h3:r.kind=3
 .grind
 rw [show (r.kind==3)=false by grind] at *
 by_cases h4:r.kind=4
 .grind
 rw [show (r.kind==4)=false by grind] at *
 by_cases G:r.kind=10
 .exfalso;apply hni;rw [G];simp only [bF_,fF_,bQ_,fT_];split <;> rfl
 rw [show (r.kind==10)=false by simpa using G] at *
 simp only [bF_,fF_] at *
 cases hh:I_ d.rules b r at_ with
 | inl c=>rw [hh] at hni;exact absurd rfl hni
 | inr y =>
  obtain ⟨num,ks',st⟩:=y
  rw [hh] at hok hni hlen hitem0
  simp only at hok hni hlen hitem0
  obtain ⟨hitem,hst,I⟩:=m_5 hr.kind (by omega) hh;have hk:=i_f hr.kind (by omega) ha hh;obtain ⟨J,H,f3⟩:=i_5 hok I
  have hlek:∀k∈ks',∀p,p<=b.length->(rdW d.rules b k.toNat p).2.1<=b.length:=λk hk' p hp=>by
   have:=hr.kids k<|hk.1 k hk';exact (c_9 hv k.toNat (by omega) p hp).2
  have hch:=o_r (rd:=λk p=>rdW d.rules b k.toNat p) (L:=b.length) ks' st hk.2.2.1 hlek f3;have hl':=i_i hch
  rw [J] at hlen
  rw [H] at hitem0
  have hks:ks'=ks:=by
   apply List.ext_getElem
   .omega
   .intro j h1 h2
    rw [← hitem j h1,← hitem0 j h2]
  simp only
  rw [H,← hks]
  exact ⟨by rw [hh,hst],by omega,by omega⟩
theorem q_B (hb:b.length<=400){r:f_}(hk:a_m d.rules r=true){at_:Nat}(ha:at_<=b.length){ks:List Int}{num:Int}(h:Ent d b r at_ ks num)(hne:ks ≠ [])(hpos:∀k∈ks,0<=k):g_p d r b at_=some (((a_f d.rules r at_:Nat):Int),(ks.length:Int),num):=by
 have hMX:=MXv;have hh:=h.head;obtain ⟨hitem,hst,L⟩:=m_5 hk ⟨h.lo,h.hi⟩ hh;have h1:=h.lo;have h2:=h.hi
 clear hst
 unfold g_p
 by_cases h6:r.kind=6
 .rw [h6]
  simp only [bQ_,fT_]
  unfold I_ at hh
  grind
 rw [show (r.kind==6)=false by grind]
 simp only [bF_,fF_]
 by_cases I:r.kind=9
 .rw [I]
  simp only [bQ_,fT_]
  unfold I_ at hh
  grind
 rw [show (r.kind==9)=false by grind]
 simp only [bF_,fF_]
 by_cases H:r.kind=8
 .rw [H]
  simp only [bQ_,fT_]
  unfold I_ at hh
  rw [H] at hh
  simp only [show ((8:Int)==5)=false from rfl,show ((8:Int)==6)=false from rfl,show ((8:Int)==7)=false from rfl,bF_,fF_,bQ_,fT_] at hh
  cases hc:b[at_]? with
  | none=>grind
  | some c =>
   rw [hc] at hh
   simp only at hh
   split at hh
   .grind
   .rename_i O
    rw [Sum.inr.injEq,QAu,QAu] at hh
    have hlt:at_<b.length:=(gS_.1 hc).1;have hbc:b_ c=(c.toNat:Int):=rfl
    have V:c.toNat ≠ 0:=λh0=>by
     grind
    have hc1':c.toNat=1:=by omega
    rw [dT_ (show (at_:Int)<(b.length:Int) by omega),ix_ hlt]
    have:b[at_]=c:=(gS_.1 hc).2
    rw [this]
    simp only [fT_,a_]
    rw [show (b_ c==b_ (1:UInt8))=true by grind]
    simp only [fT_,a_,d_Y]
    grind [d_o]
 rw [show (r.kind==8)=false by grind]
 simp only [bF_,fF_]
 have G:r.kind=5∨r.kind=7:=by omega
 have hlim:0<lim d.rules (p_ r)/\0<r.kids.length:=by
  rcases G with h | h
  .have:=d_6 hk h;omega
  .have:=d_m hk h;omega
 have hq:=c_8 hlim.1;have hint:=i_9 (b:=b) hq.1 hq.2 (by omega) ha
 have W:bd (α:=Bool) (if (r.kind==5) then some (r.kind==5) else some (r.kind==7)) some=some true:=by
  rcases G with h | h <;> rw [h] <;> rfl
 have e57':(if (r.kind==5) then some (r.kind==5) else some (r.kind==7))=some true:=by
  grind
 rw [e57']
 simp only [a_,fT_]
 rw [b_W hlim.2,a_,hint]
 cases hi:U_ b (y_ d.rules<|p_ r) at_ with
 | none =>
  grind [I_]
 | some n =>
  simp only [a_E,nT_,bF_,fF_]
  have hrng:=c_p hq.2 hi
  rcases G with h5 | J
  .unfold I_ at hh
   rw [h5,hi] at hh
   simp only [bQ_,fT_] at hh
   split at hh
   .grind
   .rename_i hn
    rw [Sum.inr.injEq,QAu,QAu] at hh
    rw [h5,dT_ (show n<=40 by omega)]
    simp only [bQ_,fT_,a_,d_Y]
    grind
  .unfold I_ at hh
   rw [J,hi] at hh
   simp only [show ((7:Int)==5)=false from rfl,show ((7:Int)==6)=false from rfl,bF_,fF_,bQ_,fT_] at hh
   cases ht:b_9 r.tags n with
   | none=>grind
   | some j =>
    rw [ht] at hh
    simp only at hh
    rw [Sum.inr.injEq,QAu,QAu] at hh
    have Y:ks.length=1:=by grind
    have a0:=hitem 0 (by omega);have a1:=hpos ks[0] (gE_ (by omega))
    rw [hh.1]
    have a2:=d_I (d_7 hk) num 0
    simp_all
def c_N (en:Int->Nat->Nat)(ks:List Int)(p:Nat):Nat->Nat
 | 0=>p
 | m+1=>en (ks.getD m 0)<|c_N en ks p m
theorem v_Y (en:Int->Nat->Nat)(ks:List Int)(p m:Nat)(hm:m<ks.length):c_N en ks p (m+1)=en ks[m] (c_N en ks p m):=by
 grind [c_N]
theorem n_D (en:Int->Nat->Nat)(k:Int)(ks:List Int)(p:Nat):∀m,c_N en (k::ks) p (m+1)=c_N en ks (en k p) m
 | 0=>rfl
 | m+1=>by
  rw [c_N,n_D en k ks p m];rfl
theorem l_E {rd:Int->Nat->RR}{L:Nat}:∀{ks:List Int}{p:Nat}{vs:List Val}{e:Nat},e_g rd L ks p vs e->∀m (hm:m<ks.length),c_N (λk p=>(rd k p).2.1) ks p m<=L/\(rd ks[m] (c_N (λk p=>(rd k p).2.1) ks p m)).2.2=0
 | k::ks,p,vs,e,h,0,_=>by
  obtain ⟨h1,h2,_⟩:=h;exact ⟨h1,h2⟩
 | k::ks,p,vs,e,h,m+1,hm=>by
  obtain ⟨_,_,ws,_,h3⟩:=h;have:=l_E h3 m (by grind)
  grind [n_D]
def enP (d:d_)(b:Bt)(k:Int)(p:Nat):Nat:=(rdW d.rules b k.toNat p).2.1
def q_C (d:d_)(b:Bt)(i p:Nat)(s:Str)(k q:Nat):Prop:=∀n,1000<=n->d_P n d i b p s=some ((k:Int),(q:Int),true)
theorem v_Z (hv:D_ d=true)(hd:SmD d)(hb:b.length<=400){i:Nat}(hi:i<d.rules.length){at_:Nat}(ha:at_<=b.length)(hok:(rdW d.rules b i at_).2.2=0){ks:List Int}{e:Nat}(h:RdOk d b d.rules[i] at_ (rdW d.rules b i at_) ks e){m:Nat}(hm:m<ks.length) :
  q_C d b i at_ (a_c d.rules[i] m) ks[m].toNat (c_N (enP d b) ks (a_f d.rules d.rules[i] at_) m)/\e_8 (a_c d.rules[i] m):=by
 have hne:ks ≠ []:=λhn=>by grind
 have hE:=v_X hv hi ha hok h hne;have hr:=a_P hv hi;have hkk:∀k∈ks,0<=k/\k<(i:Int):=λk hk=>hr.kids k<|h.kids k hk
 have hS:=v_W hr.kind hE h.small;refine ⟨λn hn=>?_,hS.2 m hm⟩;have hlen:=(b_i hv).2;unfold d_P
 rw [ix_ hi,a_,q_B hb hr.kind ha hE hne<|λk hk=>(hkk k hk).1]
 simp only [a_E,tN_]
 have hP:=l_E h.ch;have hbody:∀j (hj:j<ks.length),b_S d.rules[i] (rdW d.rules b i at_).1.number ((j:Nat):Int)=some ks[j]:=λj hj=>by rw [d_I (d_7 hr.kind),h.item j hj]
 have G:=h.small;refine (congrArg (λz=>bd z _)<|m_c (st:=λj=>((c_N (enP d b) ks (a_f d.rules d.rules[i] at_) j:Nat):Int)) (r:=(ks[m],((c_N (enP d b) ks (a_f d.rules d.rules[i] at_) m:Nat):Int),true)) hm (λj hj=>?_) ?_).trans ?_
 rotate_left 2
 .have:=hkk ks[m] (gE_ hm)
  grind [a_,d_Y]
 .have hjk:j<ks.length:=by omega
  have hp:=hP j hjk;have hk:=hkk ks[j] (gE_ hjk)
  rw [hbody j hjk,a_,m_8 (by omega) _ j (by omega),a_]
  rw [iN_ (show ¬((a_c d.rules[i] j).b==(a_c d.rules[i] m).b)=true by
   grind)]
  have hrd:=h_q hv hd hb ks[j].toNat (by omega) n (by omega) (c_N (enP d b) ks (a_f d.rules d.rules[i] at_) j) hp.1
  rw [show ((ks[j].toNat:Nat):Int)=ks[j] by omega] at hrd
  rw [hrd]
  unfold b_B
  simp only [a_E]
  rw [show (rdW d.rules b ks[j].toNat (c_N (enP d b) ks (a_f d.rules d.rules[i] at_) j)).2.2=0 from hp.2]
  rw [v_Y _ _ _ _ hjk]
  rfl
 .rw [hbody m hm,a_,m_8 (by omega) _ m (by omega),a_,iP_ (by simp)]
end
end Go.Vw
namespace Go.Vw
open Go.RowKit Dat
def d_B (ss:List Str):Bt:=ss.flatMap (λs=>47::s.b)
inductive j_p (d:d_)(b:Bt):Nat->Nat->List Str->Nat->Nat->Prop
 | nil (i p:Nat):j_p d b i p [] i p
 | cons {i p i' p' k q:Nat} {s:Str} {ss:List Str} (h:q_C d b i p s k q) (hr:j_p d b k q ss i' p'):j_p d b i p (s::ss) i' p'
structure w_0 (d:d_)(b:Bt)(path:Str)(i p:Nat)(e:j_)(ss:List Str)(i' p':Nat):Prop where
 path:e.path.b=path.b++d_B ss
 good:∀s∈ss,e_8 s
 rule:e.rule=i'
 start:e.start=p'
 end_:e.end_=((rdW d.rules b i' p').2.1:Nat)
 reach:j_p d b i p ss i' p'
 len:ss.length+i'<=i
 hi:i'<d.rules.length
 hp:p'<=b.length
 ok:(rdW d.rules b i' p').2.2=0
section
variable {d:d_}{b:Bt}
theorem n_E {f:Int->Nat->Str->List j_}{en:Int->Nat->Nat}{r:f_}{path:Str}{x:j_}:∀(ks:List Int)(j pos:Nat),x∈ixL f en r path ks j pos->∃m,∃hm:m<ks.length,x∈f ks[m] (c_N en ks pos m) (d_8 r path<|j+m)
 | [],_,_,h=>by grind [ixL]
 | k::ks,j,pos,h=>by
  unfold ixL at h
  rcases QAj.1 h with h | h
  .exact ⟨0,by simp,h⟩
  .obtain ⟨m,hm,h⟩:=n_E ks (j+1) (en k pos) h;refine ⟨m+1,by grind,?_⟩
   grind [n_D]
theorem w_1 (hv:D_ d=true)(hd:SmD d)(hb:b.length<=400):∀(i:Nat),i<d.rules.length->∀(at_:Nat)(path:Str)(e:j_),at_<=b.length->(rdW d.rules b i at_).2.2=0->e∈ixW d.rules b i at_ path->∃ss i' p',w_0 d b path i at_ e ss i' p':=by
 intro i
 induction i using Nat.strongRecOn with
 | _ i ih =>
  intro hi at_ path x ha hok hx;obtain ⟨ks,e,h⟩:=f_i hv hi ha hok
  rw [j_C hv hi h path] at hx
  rcases QAV.1 hx with rfl | hx
  .exact ⟨[],i,at_,by simp [d_B],λ_ h=>by grind,rfl,rfl,rfl,.nil _ _,by simp,hi,ha,hok⟩
  .obtain ⟨m,hm,hx⟩:=n_E _ _ _ hx;have hkr:=(a_P hv hi).kids _ (h.kids _<|gE_ hm);have hP:=l_E h.ch m hm
   rw [QAp] at hx
   obtain ⟨ss,i',p',L⟩:=ih ks[m].toNat (by omega) (by omega) _ _ x hP.1 hP.2 hx;obtain ⟨S,G⟩:=v_Z hv hd hb hi ha hok h hm;refine ⟨a_c d.rules[i] m::ss,i',p',?_,?_,L.rule,L.start,L.end_,.cons S L.reach,?_,L.hi,L.hp,L.ok⟩
   .rw [L.path];simp [d_8,d_B]
   .intro s hs
    rcases QAV.1 hs with rfl | hs
    .exact G
    .exact L.good s hs
   .have:=L.len;grind
theorem q_D:∀(ss:List Str),(∀s∈ss,e_8 s)->(d_B ss).length<=22 * ss.length
 | [],_=>by simp [d_B]
 | s::ss,h=>by
  have:=q_D ss<|λs hs=>h s<|mT_ _ hs;have:=(h s mS_).len
  grind [d_B]
theorem q_E:∀(ss:List Str)(cur:Bt),(∀s∈ss,e_8 s)->a_6 47 (d_B ss) cur=⟨cur⟩::ss
 | [],cur,_=>by rfl
 | s::ss,cur,h=>by
  have e:d_B (s::ss)=47::(s.b++d_B ss):=by rfl
  rw [e,a_6,iP_ rfl,q_y _ _ _ _ (h s mS_).char,q_E ss _<|λs hs=>h s<|mT_ _ hs]
  simp
theorem w_2 (ss:List Str)(h:∀s∈ss,e_8 s):c_h ⟨d_B ss⟩=(ss,true):=by
 unfold c_h
 by_cases hn:ss=[]
 .subst hn;rfl
 .obtain ⟨s,t,rfl⟩:=List.exists_cons_of_ne_nil hn
  rw [iN_ (by simp [d_B]),q_E _ _ h,iP_ ⟨rfl,by
   rw [List.tail_cons,QAz];exact λs hs=>(h s hs).step⟩]
  simp
theorem w_3 {n:Nat}(hn:1000<=n){l:List Str}{i p i' p':Nat}{ss:List Str}(h:j_p d b i p ss i' p'):∀k,k+ss.length=l.length->l.drop k=ss ->
  k_ (σ:=Int×Int) (ρ:=j_×Bool) (λG=>un2 λH I=>bd (idx l ((G:Nat):Int)) λJ=>bd3 (d_P n d H b I J) λL O V=>if (!V) then some (.ret ((⟨(⟨[]⟩:Str),0,0,0⟩:j_),false)) else some (.next (L,O))) ss.length k ((i:Int),(p:Int))=some (.inl ((i':Int),(p':Int))):=by
 induction h with
 | nil=>intro k _ _;rfl
 | @cons i p i' p' k' q s ss h _ ih =>
  intro k hk hd;have hlt:k<l.length:=by grind
  rw [dC_ hlt] at hd
  simp only [List.cons.injEq] at hd
  rw [lC_,k_,ix_ hlt]
  simp only [un2,a_]
  rw [hd.1,h n hn]
  simp only [a_E,nT_,bF_,fF_]
  grind
theorem n_F (hv:D_ d=true)(hb:b.length<=400){i p:Nat}(hi:i<d.rules.length)(hp:p<=b.length):b_C d i b p=b_B (rdW d.rules b i p):=by
 grind [okV,b_A,b_C]
end
theorem w_4 {x:Nat}(h:x<4294967296):(Lib.itoa x).length<=20:=by
 have:=q_t 12 x (by omega)
 grind [h_i]
section
variable {d:d_}{b:Bt}
end
end Go.Vw
