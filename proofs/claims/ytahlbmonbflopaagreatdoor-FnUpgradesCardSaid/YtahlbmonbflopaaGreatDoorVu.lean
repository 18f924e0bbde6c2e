
import Derived.Test.YtahlbmonbflopaaGreatDoorVt
namespace Go.Vw
open Go.RowKit Dat
theorem k_J (r:b_)(x:Int):g_B r x=some (match a_H r.tags x with | some k=>(k:Int) | none=>-1):=by
 unfold g_B
 rw [show j_6 r.tags x=some (match a_H r.tags x with | some k=>(k:Int) | none=>-1) from q_y r.tags x,bd_some]
theorem m_M {r:b_}(h:r.kind=7)(num:Int):P_ r num 0=match a_H r.tags num with | some k=>r.kids.getD (k+1) 0 | none=>-1:=by
 unfold P_;rw [h];rfl
theorem lim_at' {rs:List b_}{i:Nat}{r:b_}(hi:idx rs (i:Int)=some r)(h:d_p r):lim rs (i:Int)=256 ^ r.size.toNat - 1:=by
 obtain ⟨h,h1,h4⟩:=h;unfold lim;rw [hi];simp only;rw [iP_ ⟨h,h1,h4⟩]
section
variable {a b:c_}{S g:Nat->Nat}
theorem q_d {d:c_}(hv:R_ d=true)(hd:SmD d)(hw:WG d S g){j:Nat}(hj:j<d.rules.length){k:Int}(hk:k∈(d.rules[j]).kids):∃v,(∀n,100<=n->g_g n d k=some v)/\(∀n,100<=n->e_i n d k=some v)/\∀m,vsz m v<=S (j - 1):=by
 have hkk:=(a_S hv hj).kids k hk;have hl:=(b_X hv).2;obtain ⟨v,G,H,I⟩:=q_3 hv hw k.toNat (by omega)
 rw [show ((k.toNat:Nat):Int)=k by omega] at G H
 refine ⟨v,λn hn=>?_,λn hn=>H n (by omega),λm=>Nat.le_trans (I m)<|hw.sm _ _ (by omega)⟩;unfold g_g
 rw [h_4 d hd,hv,show b_j d k=true by unfold b_j;rw [dT_ hkk.1,dT_ (by omega)];rfl,bd_some,iN_ (by simp),G n (by omega),bd_some]
theorem q_e (hva:R_ a=true)(hvb:R_ b=true)(hdb:SmD b)(hw:WG b S g){s:Nat}(ih:∀(ra rb:Nat)(v:Val)(m:Nat),ra+rb<s->rb<b.rules.length->VP a.rules m ra v->MigR a b g s ra rb v)
  {ra rb:Nat} (hra:ra<a.rules.length) (hrb:rb<b.rules.length) (hs:ra+rb<=s) (hk:(a.rules[ra]).kind=(b.rules[rb]).kind) {v:Val} {m:Nat} (hV:VP a.rules m ra v):AlR a b g s a.rules[ra] b.rules[rb] rb v:=by
 have hLIM:=a_7;have hlb:=(b_X hvb).2
 cases m with
 | zero=>exact hV.elim
 | succ m =>
 obtain ⟨_,hO,hP⟩:=hV;have hxa:=a_S hva hra;have hyb:=a_S hvb hrb;have hkx:=hxa.kind;have hky:=hyb.kind;have xk:=hxa.kids;have yk:=hyb.kids;have gfix:=hw.fix rb hrb;have gseq:=hw.seq rb hrb;have gtwo:=hw.gtwo rb;have hyi:=ix_ hrb;have hdef:=λk hk=>q_d hvb hdb hw hrb (k:=k) hk
 have gstep:∀cy:Int,0<=cy/\cy<(rb:Int)->g cy.toNat+1<=g rb:=λcy h=>by
  have h1:=hw.stp rb (by omega) hrb;have h2:=hw.gm cy.toNat (rb - 1) (by omega)
  omega
 have hall:=d_Z hkx;generalize a.rules[ra]=x at *
 generalize b.rules[rb]=y at *
 have leaf:∀o:Val,(∀q,3 * s+2001<=q->b_C q (a_q q) a x b y v=some (o,true))->(∀q,3 * s+2001<=q->b_B q (a_p q) ⟨a,b⟩ x y (rb:Int) v=some (o,true))->(∀c L,Cst c v L->∀m,1+vsz m o<=L * g rb)->AlR a b g s x y rb v:=λo h1 h2 h3 =>
  ⟨true,true,o,λn hn=>by
   obtain ⟨q,rfl⟩:∃q,n=q+1:=⟨n - 1,by omega⟩;exact ⟨o,h1 q (by omega),λ_=>rfl⟩,λn hn=>by
   obtain ⟨q,rfl⟩:∃q,n=q+1:=⟨n - 1,by omega⟩
   exact ⟨o,h2 q (by omega),λ_=>rfl⟩,λ_=>rfl,nofun,λ_=>h3⟩
 have rows:∀(ok:Bool)(o:Val),(∀q,3 * s+2001<=q->∃p,b_C q (a_q q) a x b y v=some (p,ok)/\(ok=true->p=o))->(∀q,3 * s+2001<=q->∃p,b_B q (a_p q) ⟨a,b⟩ x y (rb:Int) v=some (p,ok)/\(ok=true->p=o))->(ok=true->∀c L,Cst c v L->∀m,1+vsz m o<=L * g rb)->AlR a b g s x y rb v:=λok o h1 h2 h3 =>
  ⟨ok,ok,o,λn hn=>by
   obtain ⟨q,rfl⟩:∃q,n=q+1:=⟨n - 1,by omega⟩;exact h1 q (by omega),λn hn=>by
   obtain ⟨q,rfl⟩:∃q,n=q+1:=⟨n - 1,by omega⟩
   exact h2 q (by omega),λh=>h,λh1 h2=>(by rw [h1] at h2;cases h2),h3⟩
 have mulL:∀{L A B:Nat},A<=B->L * A<=L * B:=λh=>Nat.mul_le_mul_left _ h
 have tiny:∀{L A:Nat},1<=L->A<=g rb->A<=L * g rb:=λ{L A} h1 h2=>Nat.le_trans h2<|Nat.le_mul_of_pos_left _ h1
 have text:∀c L,Cst c v L->∀m,1+vsz m ⟨0,v.bytes,[]⟩<=L * g rb:=λc L hc m=>by
  rw [g_e]
  have:=hc.pos;have h2:=mulL (L:=L) gtwo
  omega
 have one:∀(num:Int)(cx cy:Int),(0<=cx/\cx<(ra:Int))->(0<=cy/\cy<(rb:Int))->v.items.length<=1000->(∀j,P_ x v.number j=cx∨v.items.length<=j) ->
   (∀q,3 * s+2001<=q->∀l ok,l_P q a (List.replicate v.items.length cx) b (List.replicate v.items.length cy) v.items=some (l,ok)->b_C q (a_q q) a x b y v=some (⟨num,[],l⟩,ok)) ->
   (∀q,3 * s+2001<=q->∀p ok,l_O q ⟨a,b⟩ cx cy v=some (p,ok)->∃p',b_B q (a_p q) ⟨a,b⟩ x y (rb:Int) v=some (p',ok)/\∀ws,p=⟨0,[],ws⟩->p'=⟨num,[],ws⟩)->AlR a b g s x y rb v:=λnum cx cy h1 h2 h3 h4 h5 h6=>by
  obtain ⟨ok,ws,k1,k2,k3⟩:=q_a ih h1 h2 (by omega) hrb h3 (λj hj=>by
   obtain ⟨k,V,a2,a3⟩:=hP j hj;have:P_ x v.number j=cx:=(h4 j).resolve_right (by omega)
   exact ⟨m,by rw [show cx.toNat=k by omega];exact a3⟩)
  refine rows ok ⟨num,[],ws⟩ (λq hq=>?_) (λq hq=>?_)<|λhok c L hc m=>Nat.le_trans (k3 hok c L hc m num)<|mulL<|gstep cy h2
  .obtain ⟨l,e,hl⟩:=k1 q hq;exact ⟨_,h5 q hq l ok e,λhok=>by rw [hl hok]⟩
  .obtain ⟨p,e,hp⟩:=k2 q hq;obtain ⟨p',e',hp'⟩:=h6 q hq p ok e;exact ⟨p',e',λhok=>hp' ws<|hp hok⟩
 unfold Own at hO
 have hc:x.kind=1∨x.kind=2∨x.kind=3∨x.kind=4∨x.kind=5∨x.kind=6∨x.kind=7∨x.kind=8∨x.kind=9∨x.kind=10:=by omega
 rcases hc with h | h | h | h | h | h | h | h | h | h
 .obtain ⟨_,V,a2,I,J⟩:x.kind=1/\0<=v.number/\v.number<=256 ^ x.size.toNat - 1/\v.bytes=[]/\v.items=[]:=by rcases hO with q | q | q | q | q | q | q | q | q | q <;> first | exact q | exact absurd q.1 (by omega)
  have hy:y.kind=1:=by omega
  have hI:=c_J hky hy;have hlim:=lim_at' hyi hI;refine ⟨true,decide<|v.number<=lim b.rules (rb:Int),⟨v.number,[],[]⟩,λn hn=>?_,λn hn=>?_,λ_=>rfl,λhf _ hVP=>?_,λ_ c L hc m=>?_⟩
  .obtain ⟨q,rfl⟩:∃q,n=q+1:=⟨n - 1,by omega⟩;refine ⟨⟨v.number,[],[]⟩,?_,λ_=>rfl⟩
   show b_C q (a_q q) a x b y v=_
   unfold b_C
   simp only [h,Int.reduceBEq,bF_,fF_,bd_some,I]
   rw [a_T (by simp),bd_some];rfl
  .obtain ⟨q,rfl⟩:∃q,n=q+1:=⟨n - 1,by omega⟩;refine ⟨⟨v.number,[],[]⟩,?_,λ_=>rfl⟩
   show b_B q (a_p q) ⟨a,b⟩ x y (rb:Int) v=_
   unfold b_B
   simp only [hy,Int.reduceBEq,bF_,fF_,fT_,c_Z,bd_some]
  .obtain ⟨_,hO',_⟩:=hVP;have:b.rules[rb]=y:=by have:=ix_ hrb;rw [hyi] at this;exact (Option.some.inj this).symm
   rw [this] at hO'
   unfold Own at hO'
   have h2:v.number<=256 ^ y.size.toNat - 1:=by rcases hO' with q | q | q | q | q | q | q | q | q | q <;> first | exact q.2.2.1 | exact absurd q.1 (by omega)
   rw [← hlim] at h2
   simp [h2] at hf
  .rw [g_e];exact tiny hc.pos.1 (by simp only [List.length_nil];omega)
 .obtain ⟨_,O,I,J⟩:x.kind=2/\v.number=0/\v.bytes=[]/\v.items=[]:=by rcases hO with q | q | q | q | q | q | q | q | q | q <;> first | exact q | exact absurd q.1 (by omega)
  have hy:y.kind=2:=by omega
  refine leaf ⟨0,[],[]⟩ (λq hq=>?_) (λq hq=>?_) λc L hc m=>?_
  .unfold b_C
   simp only [h,Int.reduceBEq,bF_,fF_,bd_some,O,I]
   rw [a_T (by simp),bd_some];rfl
  .unfold b_B
   simp only [hy,Int.reduceBEq,fT_]
  .rw [g_e];exact tiny hc.pos.1 (by simp only [List.length_nil];omega)
 .obtain ⟨_,O,V,J⟩:x.kind=3/\v.number=0/\(v.bytes.length:Int)=x.size/\v.items=[]:=by rcases hO with q | q | q | q | q | q | q | q | q | q <;> first | exact q | exact absurd q.1 (by omega)
  have hy:y.kind=3:=by omega
  have hxz:=d_s hkx h;have hyz:=d_s hky hy;obtain ⟨z,hz⟩:∃z:Nat,y.size=(z:Int):=⟨y.size.toNat,by omega⟩;have a6:=gfix hy
  rw [hz,tN_] at a6
  refine leaf ⟨0,cpy (List.replicate z 0) v.bytes,[]⟩ (λq hq=>?_) (λq hq=>?_) λc L hc m=>?_
  .unfold b_C
   simp only [h,Int.reduceBEq,bF_,fF_,fT_]
   rw [a_T (by simp only [List.length_nil];omega),bd_some,hz,List.nil_append,q_b (by omega) (by omega) (by omega) (by omega),tN_,j_r (by rw [List.length_append,List.length_replicate];omega),bd_some,q_c]
  .unfold b_B
   simp only [hy,Int.reduceBEq,bF_,fF_,fT_]
   rw [hz,n_F (by omega),bd_some]
  .rw [g_e,g_z,List.length_replicate]
   exact tiny hc.pos.1 (by omega)
 .obtain ⟨_,O,V,a2,J⟩:x.kind=4/\v.number=0/\(v.bytes.length:Int)<=400/\(v.bytes.length:Int)<=lim a.rules (o_ x)/\v.items=[]:=by rcases hO with q | q | q | q | q | q | q | q | q | q <;> first | exact q | exact absurd q.1 (by omega)
  have hy:y.kind=4:=by omega
  refine leaf ⟨0,v.bytes,[]⟩ (λq hq=>?_) (λq hq=>?_) text
  .unfold b_C
   simp only [h,Int.reduceBEq,bF_,fF_,bd_some,O]
   rw [a_T (by simp only [List.length_nil];omega),bd_some];rfl
  .unfold b_B
   simp only [hy,Int.reduceBEq,bF_,fF_,bd_some]
   rw [a_T (by simp only [List.length_nil];omega),bd_some];rfl
 .obtain ⟨_,O,I,V,a2⟩:x.kind=5/\v.number=0/\v.bytes=[]/\(v.items.length:Int)<=40/\(v.items.length:Int)<=lim a.rules (o_ x):=by rcases hO with q | q | q | q | q | q | q | q | q | q <;> first | exact q | exact absurd q.1 (by omega)
  have hy:y.kind=5:=by omega
  have a7:=(c_5 hkx h).2;have a8:=(c_5 hky hy).2;have G:1<x.kids.length:=by omega
  have H:1<y.kids.length:=by omega
  refine one 0 x.kids[1] y.kids[1] (xk _<|gE_ G) (yk _<|gE_ H) (by omega) (λj=>.inl (by unfold P_;rw [h,iP_ (by decide),a_8 G])) (λq hq l ok e=>?_) (λq hq p ok e=>⟨p,?_,λws hp=>hp⟩)
  .unfold b_C
   simp only [h,Int.reduceBEq,bF_,fF_,fT_]
   rw [e_4 G,bd_some,e_4 H,bd_some,h_a _ (by omega),bd_some,h_a _ (by omega),bd_some]
   rw [show (a_q q).spec_l30List a (List.replicate v.items.length x.kids[1]) b (List.replicate v.items.length y.kids[1]) v.items=some (l,ok) from e,bd2_some]
  .unfold b_B
   simp only [hy,Int.reduceBEq,bF_,fF_,fT_]
   rw [e_4 G,bd_some,e_4 H,bd_some]
   rw [show (a_p q).impl_migrator_items ⟨a,b⟩ x.kids[1] y.kids[1] v=some (p,ok) from e,bd2_some]
 .obtain ⟨_,O,I,V⟩:x.kind=6/\v.number=0/\v.bytes=[]/\v.items.length=x.kids.length:=by rcases hO with q | q | q | q | q | q | q | q | q | q <;> first | exact q | exact absurd q.1 (by omega)
  have hy:y.kind=6:=by omega
  have a9:=d_t hkx h;have a0:=d_t hky hy;obtain ⟨D,hD⟩:=h_j (β:=Val) (P:=λq w=>∀hq:q<y.kids.length,(∀n,100<=n->g_g n b y.kids[q]=some w)/\(∀n,100<=n->e_i n b y.kids[q]=some w)/\∀m,vsz m w<=S (rb - 1)) y.kids.length<|λq hq=>(hdef _<|gE_ hq).imp λw h _=>h
  have hpair:∀q (hq:q<y.kids.length) k (hk:k<x.kids.length) (hk':k<v.items.length),∃w:Val×Bool,(∀n,3 * s+2000<=n->g_I n a x.kids[k] b y.kids[q] v.items[k]=some w)/\(∀n,3 * s+2000<=n->f_v n ⟨a,b⟩ x.kids[k] y.kids[q] v.items[k]=some w)/\(w.2=true->∀c L,Cst c v.items[k] L->∀m,1+vsz m w.1<=L * g (rb - 1)):=λq hq k hk hk'=>by
   have hkx:=xk _<|gE_ hk;have hky:=yk _<|gE_ hq;obtain ⟨k',b1,b2,b3⟩:=hP k hk';have hit:P_ x v.number k=x.kids[k]:=by unfold P_;rw [h,iN_ (by decide),iP_ (by decide),iP_ hk,a_8 hk]
   obtain ⟨w,W,Y,c3,_⟩:=ih k' (y.kids[q]).toNat v.items[k] m (by omega) (by omega) b3
   rw [show ((k':Nat):Int)=x.kids[k] by omega,show (((y.kids[q]).toNat:Nat):Int)=y.kids[q] by omega] at W Y
   exact ⟨w,W,Y,λhok c L hc m=>Nat.le_trans ((c3 hok).2 c L hc m)<|Nat.mul_le_mul_left _<|hw.gm _ _ (by omega)⟩
  obtain ⟨M,hM⟩:=h_j (β:=Nat->Val×Bool) (P:=λq f=>∀(hq:q<y.kids.length) k (hk:k<x.kids.length) (hk':k<v.items.length),(∀n,3 * s+2000<=n->g_I n a x.kids[k] b y.kids[q] v.items[k]=some (f k))/\(∀n,3 * s+2000<=n->f_v n ⟨a,b⟩ x.kids[k] y.kids[q] v.items[k]=some (f k))/\((f k).2=true->∀c L,Cst c v.items[k] L->∀m,1+vsz m (f k).1<=L * g (rb - 1))) y.kids.length (λq hq=>by
   obtain ⟨f,hf⟩:=h_j (β:=Val×Bool) (P:=λk w=>∀(hk:k<x.kids.length)(hk':k<v.items.length),(∀n,3 * s+2000<=n->g_I n a x.kids[k] b y.kids[q] v.items[k]=some w)/\(∀n,3 * s+2000<=n->f_v n ⟨a,b⟩ x.kids[k] y.kids[q] v.items[k]=some w)/\(w.2=true->∀c L,Cst c v.items[k] L->∀m,1+vsz m w.1<=L * g (rb - 1))) x.kids.length<|λk hk=>(hpair q hq k hk (by omega)).imp λw h _ _=>h
   exact ⟨f,λ_ k hk hk'=>hf k hk hk hk'⟩)
  obtain ⟨PW,hPW⟩:=h_j (β:=Val×Bool) (P:=λq w=>∀hq:q<y.names.length,(∃k,∃hk:k<x.names.length,x.names[k]=y.names[q]/\w=M q k)∨((∀k (hk:k<x.names.length),x.names[k] ≠ y.names[q])/\w=(D q,true))) y.names.length (λq hq=>by
   by_cases hex:∃k,∃hk:k<x.names.length,x.names[k]=y.names[q]
   .obtain ⟨k,hk,he⟩:=hex;exact ⟨M q k,λ_=>.inl ⟨k,hk,he,rfl⟩⟩
   .exact ⟨(D q,true),λ_=>.inr ⟨λk hk he=>hex ⟨k,hk,he⟩,rfl⟩⟩)
  have hS:SeqP x y v D M PW:=⟨a9.1,a0.1,by omega,by omega,by omega,λi j hi hj he=>q_4 hkx h hi hj he,λq hq=>hPW q hq hq⟩
  have both:∀q,3 * s+2000<=q->((∀j,j<y.names.length->(PW j).2=true)/\d_O q (a_q q) a x b y v=some ((⟨0,[],a_Q PW y.names.length⟩:Val),true)/\d_N q (a_p q) ⟨a,b⟩ x y v=some ((⟨0,[],a_Q PW y.names.length⟩:Val),true))∨((∃j,j<y.names.length/\(PW j).2=false)/\d_O q (a_q q) a x b y v=some ((⟨0,[],[]⟩:Val),false)/\d_N q (a_p q) ⟨a,b⟩ x y v=some ((⟨0,[],[]⟩:Val),false)):=λq hq=>by
   have I:=q_7 hS (rec:=a_q q) (a:=a) (b:=b) (n:=q) (λt ht=>(hD t ht ht).1 q (by omega))<|λt k hk ht hk'=>(hM t ht ht k hk hk').1 q hq;have J:=q_8 hS (rec:=a_p q) (m:=⟨a,b⟩) (n:=q) (λt ht=>(hD t ht ht).2.1 q (by omega))<|λt k hk ht hk'=>(hM t ht ht k hk hk').2.1 q hq
   rcases I with ⟨W,I⟩ | ⟨⟨j,hj,hf⟩,I⟩ <;> rcases J with ⟨Y,J⟩ | ⟨⟨j',hj',hf'⟩,J⟩
   .exact .inl ⟨W,I,J⟩
   .rw [W j' hj'] at hf';cases hf'
   .rw [Y j hj] at hf;cases hf
   .exact .inr ⟨⟨j,hj,hf⟩,I,J⟩
  have fs:∀q,3 * s+2001<=q->∀r,d_O (q - 1) (a_q<|q - 1) a x b y v=some r->b_C q (a_q q) a x b y v=some r:=λq hq r e=>by
   obtain ⟨q',rfl⟩:∃q',q=q'+1:=⟨q - 1,by omega⟩;unfold b_C
   simp only [h,Int.reduceBEq,fT_]
   rw [show (a_q<|q'+1).spec_l30Sequence a x b y v=some r from e];rfl
  have fi:∀q,3 * s+2001<=q->∀r,d_N (q - 1) (a_p<|q - 1) ⟨a,b⟩ x y v=some r->b_B q (a_p q) ⟨a,b⟩ x y (rb:Int) v=some r:=λq hq r e=>by
   obtain ⟨q',rfl⟩:∃q',q=q'+1:=⟨q - 1,by omega⟩;unfold b_B
   simp only [hy,Int.reduceBEq,bF_,fF_,fT_,bd_some]
   rw [show (a_p<|q'+1).impl_migrator_parts ⟨a,b⟩ x y v=some r from e];rfl
  by_cases hok:∀j,j<y.names.length->(PW j).2=true
  .refine leaf ⟨0,[],a_Q PW y.names.length⟩ (λq hq=>fs q hq _ ?_) (λq hq=>fi q hq _ ?_) λc L hc m=>?_
   .rcases both (q - 1) (by omega) with ⟨_,e,_⟩ | ⟨⟨j,hj,hf⟩,_⟩
    .exact e
    .rw [hok j hj] at hf;cases hf
   .rcases both (q - 1) (by omega) with ⟨_,_,e⟩ | ⟨⟨j,hj,hf⟩,_⟩
    .exact e
    .rw [hok j hj] at hf;cases hf
   .obtain ⟨Ls,k1,k2,k3⟩:=hc.parts
    have hrow:=h_9 (m:=m) (x:=0) (l:=a_Q PW y.names.length) (B:=Ls.sum * g (rb - 1)+y.names.length * (1+S (rb - 1))) λm=>q_2 (xs:=x.names) (by rw [j_x]) (λq hq=>m_E hky hy hq) λq hq hq'=>by
     rw [m_F]
     rcases hPW q hq hq with ⟨k,hk,he,hw'⟩ | ⟨_,hw'⟩
     .left
      have a5:k<v.items.length:=by omega
      refine ⟨k,by omega,by rw [gG_ hk,he],?_⟩;obtain ⟨c',hc'⟩:=k3 k a5 (by omega)
      rw [a_8 (show k<Ls.length by omega),hw']
      exact (hM q (by omega) (by omega) k (by omega) a5).2.2 (by rw [← hw'];exact hok q hq) c' _ hc' m
     .right
      rw [hw']
      exact (hD q (by omega) (by omega)).2.2 m
    have h1:=hc.pos.1;have h2:=Nat.mul_le_mul_right (g<|rb - 1) k2;have h3:=(gseq hy).2
    rw [a0.1] at h3
    have h4:=mulL (L:=L) h3;have h5:y.names.length * (1+S (rb - 1))+1<=L * (y.names.length * (1+S (rb - 1))+1):=Nat.le_mul_of_pos_left _ h1
    rw [Nat.add_assoc,Nat.mul_add] at h4
    omega
  .refine rows false ⟨0,[],[]⟩ (λq hq=>⟨⟨0,[],[]⟩,fs q hq _ ?_,nofun⟩) (λq hq=>⟨⟨0,[],[]⟩,fi q hq _ ?_,nofun⟩) nofun
   .rcases both (q - 1) (by omega) with ⟨c,_⟩ | ⟨_,e,_⟩
    .exact absurd c hok
    .exact e
   .rcases both (q - 1) (by omega) with ⟨c,_⟩ | ⟨_,_,e⟩
    .exact absurd c hok
    .exact e
 .obtain ⟨_,V,a2,I,a3,a4⟩:x.kind=7/\0<=v.number/\v.number<=lim a.rules (o_ x)/\v.bytes=[]/\v.items.length=1/\0<=P_ x v.number 0:=by rcases hO with q | q | q | q | q | q | q | q | q | q <;> first | exact q | exact absurd q.1 (by omega)
  have hy:y.kind=7:=by omega
  have a7:=c_6 hkx h;have a8:=c_6 hky hy;have sl:∀{r:b_},e_Y r->b_r r v.number 0=some (P_ r v.number 0):=λhk=>d_q hk v.number 0
  have ix:=m_M h v.number;have iy:=m_M hy v.number
  cases hqx:a_H x.tags v.number with
  | none=>rw [hqx] at ix;rw [ix] at a4;simp at a4
  | some kx =>
  rw [hqx] at ix;simp only at ix
  have hlx:=h_c hqx;have G:kx+1<x.kids.length:=by omega
  rw [a_8 G] at ix
  cases hqy:a_H y.tags v.number with
  | none =>
   rw [hqy] at iy;simp only at iy
   refine rows false ⟨0,[],[]⟩ (λq hq=>⟨⟨0,[],[]⟩,?_,nofun⟩) (λq hq=>⟨⟨0,[],[]⟩,?_,nofun⟩) nofun
   .unfold b_C
    simp only [h,Int.reduceBEq,bF_,fF_,fT_,bd_some]
    rw [sl (c_7 hky),iy,bd_some,iP_ (by decide)]
   .unfold b_B
    simp only [hy,Int.reduceBEq,bF_,fF_,fT_,bd_some]
    rw [k_J,hqy,bd_some,iP_ (by decide)]
  | some ky =>
   rw [hqy] at iy;simp only at iy
   have hly:=h_c hqy;have H:ky+1<y.kids.length:=by omega
   rw [a_8 H] at iy
   have hyk:=yk _<|gE_ H
   refine one v.number x.kids[kx+1] y.kids[ky+1] (xk _ (gE_ G)) hyk (by omega) (λj=>by
    by_cases hj:j=0
    .left;rw [hj,ix]
    .right;omega) (λq hq l ok e=>?_) (λq hq p ok e=>?_)
   .unfold b_C
    simp only [h,Int.reduceBEq,bF_,fF_,fT_,bd_some]
    rw [sl (c_7 hky),iy,bd_some,dF_ (by omega),iN_ (by simp),sl<|c_7 hkx,ix,bd_some]
    rw [a3] at e
    rw [show (a_q q).spec_l30List a [x.kids[kx+1]] b [y.kids[ky+1]] v.items=some (l,ok) from e,bd2_some]
    rfl
   .refine ⟨⟨v.number,p.bytes,p.items⟩,?_,λws hp=>by rw [hp];rfl⟩;unfold b_B
    simp only [hy,Int.reduceBEq,bF_,fF_,fT_,bd_some]
    rw [k_J,hqy,bd_some]
    simp only
    rw [dF_ (by omega),iN_ (by simp),ia_ (by omega) (by omega),show (ky:Int)+1=((ky+1:Nat):Int) by omega,ix_ H,bd_some,k_J,hqx,bd_some]
    simp only
    rw [ia_ (by omega) (by omega),show (kx:Int)+1=((kx+1:Nat):Int) by omega,ix_ G,bd_some]
    rw [show (a_p q).impl_migrator_items ⟨a,b⟩ x.kids[kx+1] y.kids[ky+1] v=some (p,ok) from e,bd2_some]
    rfl
 .obtain ⟨_,O,I,V⟩:x.kind=8/\v.number=0/\v.bytes=[]/\v.items.length<=1:=by rcases hO with q | q | q | q | q | q | q | q | q | q <;> first | exact q | exact absurd q.1 (by omega)
  have hy:y.kind=8:=by omega
  have G:0<x.kids.length:=by have:=b_F hkx<|.inl h;omega
  have H:0<y.kids.length:=by have:=b_F hky<|.inl hy;omega
  refine one 0 x.kids[0] y.kids[0] (xk _<|gE_ G) (yk _<|gE_ H) (by omega) (λj=>.inl (by unfold P_;rw [h];exact a_8 G)) (λq hq l ok e=>?_) (λq hq p ok e=>⟨p,?_,λws hp=>hp⟩)
  .unfold b_C
   simp only [h,Int.reduceBEq,bF_,fF_,fT_,bd_some]
   rw [a_h G,bd_some,a_h H,bd_some,h_a _ (by omega),bd_some,h_a _ (by omega),bd_some]
   rw [show (a_q q).spec_l30List a (List.replicate v.items.length x.kids[0]) b (List.replicate v.items.length y.kids[0]) v.items=some (l,ok) from e,bd2_some]
  .unfold b_B
   simp only [hy,Int.reduceBEq,bF_,fF_,fT_,bd_some]
   rw [a_h G,bd_some,a_h H,bd_some]
   rw [show (a_p q).impl_migrator_items ⟨a,b⟩ x.kids[0] y.kids[0] v=some (p,ok) from e,bd2_some]
 .obtain ⟨_,O,I,V⟩:x.kind=9/\v.number=0/\v.bytes=[]/\v.items.length=1:=by rcases hO with q | q | q | q | q | q | q | q | q | q <;> first | exact q | exact absurd q.1 (by omega)
  have hy:y.kind=9:=by omega
  have G:0<x.kids.length:=by have:=b_F hkx<|.inr h;omega
  have H:0<y.kids.length:=by have:=b_F hky<|.inr hy;omega
  refine one 0 x.kids[0] y.kids[0] (xk _<|gE_ G) (yk _<|gE_ H) (by omega) (λj=>.inl (by unfold P_;rw [h];exact a_8 G)) (λq hq l ok e=>?_) (λq hq p ok e=>⟨p,?_,λws hp=>hp⟩)
  .unfold b_C
   simp only [h,Int.reduceBEq,bF_,fF_,fT_,bd_some]
   rw [a_h G,bd_some,a_h H,bd_some,h_a _ (by omega),bd_some,h_a _ (by omega),bd_some]
   rw [show (a_q q).spec_l30List a (List.replicate v.items.length x.kids[0]) b (List.replicate v.items.length y.kids[0]) v.items=some (l,ok) from e,bd2_some]
  .unfold b_B
   simp only [hy,Int.reduceBEq,bF_,fF_,fT_,bd_some]
   rw [a_h G,bd_some,a_h H,bd_some]
   rw [show (a_p q).impl_migrator_items ⟨a,b⟩ x.kids[0] y.kids[0] v=some (p,ok) from e,bd2_some]
 .obtain ⟨_,O,V,J⟩:x.kind=10/\v.number=0/\(v.bytes.length:Int)<=400/\v.items=[]:=by rcases hO with q | q | q | q | q | q | q | q | q | q <;> first | exact q | exact absurd q.1 (by omega)
  have hy:y.kind=10:=by omega
  refine leaf ⟨0,v.bytes,[]⟩ (λq hq=>?_) (λq hq=>?_) text
  .unfold b_C
   simp only [h,Int.reduceBEq,bF_,fF_,bd_some,O]
   rw [a_T (by simp only [List.length_nil];omega),bd_some];rfl
  .unfold b_B
   simp only [hy,Int.reduceBEq,bF_,fF_,bd_some]
   rw [a_T (by simp only [List.length_nil];omega),bd_some];rfl
end
end Go.Vw
