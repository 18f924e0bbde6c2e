
import Derived.Test.YtahlbmonbflopaaGreatDoorV9
namespace Go.Vw
open Go.RowKit Dat
inductive Mk (d:c_):Nat->Val->Prop
 | flat {j:Nat} {v:Val} (hj:j<d.rules.length) (hi:v.items=[]) (hb:v.bytes.length<=6):Mk d j v
 | node {j:Nat} {v:Val} (hj:j<d.rules.length) (hn:v.items.length<=3) (hb:v.bytes=[]) (f:Nat->Nat)
   (hf:∀t,t<v.items.length->P_ d.rules[j] v.number t=(f t:Int)/\f t<j) (ch:∀t (ht:t<v.items.length),Mk d (f t) v.items[t]):Mk d j v
theorem Mk.of {d:c_}{j:Nat}{v:Val}(hj:j<d.rules.length)(hn:v.items.length<=3)(hb:v.bytes=[])
  (ch:∀t (ht:t<v.items.length),∃c:Nat,P_ d.rules[j] v.number t=(c:Int)/\c<j/\Mk d c v.items[t]):Mk d j v:=by
 have h:∀t,∃c:Nat,∀ht:t<v.items.length,P_ d.rules[j] v.number t=(c:Int)/\c<j/\Mk d c v.items[t]:=λt=>by
  by_cases ht:t<v.items.length
  .obtain ⟨c,hc⟩:=ch t ht;exact ⟨c,λ_=>hc⟩
  .exact ⟨0,λh=>absurd h ht⟩
 exact .node hj hn hb (λt=>(h t).choose) (λt ht=>⟨((h t).choose_spec ht).1,((h t).choose_spec ht).2.1⟩)<|λt ht=>((h t).choose_spec ht).2.2
theorem DrR.ok {n:Nat}{r:b_}(h:DrR n r):e_Y r:=⟨h.k5,λG=>(h.k7 G).1,λH=>h.k8<|.inl H,λI=>h.k8<|.inr I⟩
theorem j_K (x y:Int):∃z,d_b x y=some z/\z<=x/\z<=y/\(z=x∨z=y):=by
 unfold d_b
 by_cases h:y<x
 .rw [dT_ h];exact ⟨y,rfl,by omega,by omega,.inr rfl⟩
 .rw [dF_ h];exact ⟨x,rfl,by omega,by omega,.inl rfl⟩
theorem q_S {ts:List Int}{k:Nat}(hk:k<ts.length)(ht:∀t (ht:t<ts.length),4 * (t:Int)<=ts[t]/\ts[t]<4 * (t:Int)+4):a_H ts ts[k]=some k:=by
 unfold a_H
 rw [List.find?_eq_some_iff_append]
 refine ⟨by simp [hk],List.range k,(List.range<|ts.length - k - 1).map (· + (k+1)),?_,?_⟩
 .have h1:ts.length=k+(ts.length - k - 1+1):=by omega
  conv=>lhs;rw [h1,List.range_add,List.range_succ_eq_map]
  simp [Nat.add_left_comm,Function.comp_def]
 .intro t htk
  rw [List.mem_range] at htk
  have h1:=ht t (by omega);have h2:=ht k hk
  rw [gD_,gG_ (by omega:t<ts.length),Option.getD_some]
  simp;omega
section
variable {b:Bt}{i h:Int}{d:c_}
theorem h_g {n:Nat}{r:b_}(hr:DrR n r){t:Nat}(ht:t<r.kids.length):∃c:Nat,r.kids[t]=(c:Int)/\c<n:=by
 have:=hr.kids _<|gE_ ht;exact ⟨r.kids[t].toNat,by omega,by omega⟩
theorem q_T (h0:0<=i)(h1:i<=(b.length:Int)){n:Nat}(hn:30<=n){rec:j_9}{r:b_}{c:Nat}{most x:Int}(a0:0<=x)(a3:x<=3)(hk:idx r.kids 1=some (c:Int))
  (hrec:∀i h,0<=i->i<=(b.length:Int)->Dr b (rec.spec_l9Make ⟨b,i,h⟩ d c most) (Mk d c)) :
  ∃i' h' l,M_ (σ:=Int×Int×Int×(List Val)) (ρ:=Val×Int×Int) (un4 λG H I J=>if (decide<|0<G) then bd (idx r.kids 1) λL=>bd3 (rec.spec_l9Make (⟨b,H,I⟩:m_) d L most) λO V W=>bd (psh J O) λY=>some (.next (j_ G 1,V,W,Y)) else some (.brk (G,H,I,J))) n (x,i,h,([]:List Val))=some (.inl (0,i',h',l))/\0<=i'/\i'<=(b.length:Int)/\l.length<=3/\∀v∈l,Mk d c v:=by
 have hLIM:=a_7
 obtain ⟨s,e,hs⟩:=c_4 (σ:=Int×Int×Int×(List Val)) (ρ:=Val×Int×Int) (step:=un4 λG H I J=>if (decide<|0<G) then bd (idx r.kids 1) λL=>bd3 (rec.spec_l9Make (⟨b,H,I⟩:m_) d L most) λO V W=>bd (psh J O) λY=>some (.next (j_ G 1,V,W,Y)) else some (.brk (G,H,I,J)))
  (λs=>0<=s.1/\s.1<=3/\0<=s.2.1/\s.2.1<=(b.length:Int)/\(s.2.2.2.length:Int)+s.1<=3/\∀v∈s.2.2.2,Mk d c v) (λs=>s.1.toNat)
  (λs=>s.1=0/\0<=s.2.1/\s.2.1<=(b.length:Int)/\s.2.2.2.length<=3/\∀v∈s.2.2.2,Mk d c v)
  (by
   rintro ⟨q,i,h,l⟩ ⟨g0,g1,g2,g3,g4,g5⟩
   simp only at g0 g1 g2 g3 g4 g5
   simp only [un4]
   by_cases hc:0<q
   .left
    obtain ⟨v,i1,h1,e1,a1,a2,hv⟩:=hrec i h g2 g3
    rw [dT_ hc,iP_ rfl,hk,bd_some,e1,bd3_some,Y_ (by omega),bd_some,a_C (by omega) (by omega)]
    refine ⟨_,rfl,⟨by simp only;omega,by simp only;omega,a1,a2,by simp;omega,λt ht=>?_⟩,by simp only;omega⟩
    rcases List.mem_append.1 ht with ht | ht
    .exact g5 t ht
    .rw [List.mem_singleton] at ht;subst ht;exact hv
   .right
    rw [dF_ hc]
    exact ⟨_,rfl,by simp only;omega,g2,g3,by simp only;omega,g5⟩)
  n (x,i,h,[]) ⟨a0,a3,h0,h1,by simp;omega,λt ht=>(by cases ht)⟩ (by simp only;omega)
 obtain ⟨q,i',h',l⟩:=s;obtain ⟨hc,q1,q2,q3,q4⟩:=hs
 simp only at hc q1 q2 q3 q4
 subst hc;exact ⟨i',h',l,e,q1,q2,q3,q4⟩
theorem seq_ok (h0:0<=i)(h1:i<=(b.length:Int)){rec:j_9}{r:b_}{j:Nat}{most:Int}(hr:DrR j r)(hl:r.kids.length<=3)
  (hrec:∀c i h,c<j->0<=i->i<=(b.length:Int)->Dr b (rec.spec_l9Make ⟨b,i,h⟩ d (c:Int) most) (Mk d c)) :
  ∃i' h' l,y_ (σ:=Int×Int×(List Val)) (ρ:=Val×Int×Int) (λG=>un3 λH I J=>bd (idx r.kids ((G:Nat):Int)) λL=>bd3 (rec.spec_l9Make (⟨b,H,I⟩:m_) d L most) λO V W=>bd (psh J O) λY=>some<|.next (V,W,Y)) r.kids.length 0 (i,h,([]:List Val))=some (.inl (i',h',l))/\0<=i'/\i'<=(b.length:Int)/\l.length=r.kids.length/\∀t (ht:t<l.length) (ht':t<r.kids.length),∃c:Nat,r.kids[t]=(c:Int)/\c<j/\Mk d c l[t]:=by
 have hLIM:=a_7
 rcases c_u (σ:=Int×Int×(List Val)) (ρ:=Val×Int×Int) (body:=λG=>un3 λH I J=>bd (idx r.kids ((G:Nat):Int)) λL=>bd3 (rec.spec_l9Make (⟨b,H,I⟩:m_) d L most) λO V W=>bd (psh J O) λY=>some<|.next (V,W,Y))
  (λk s=>0<=s.1/\s.1<=(b.length:Int)/\s.2.2.length=k/\∀t (ht:t<s.2.2.length) (ht':t<r.kids.length),∃c:Nat,r.kids[t]=(c:Int)/\c<j/\Mk d c s.2.2[t]) (λ_=>False) (n:=r.kids.length)
  (by
   rintro k ⟨i,h,l⟩ hk ⟨g0,g1,g2,g3⟩
   simp only at g0 g1 g2 g3
   left
   obtain ⟨c,hc,hcj⟩:=h_g hr hk;obtain ⟨v,i1,h1,e1,a1,a2,hv⟩:=hrec c i h hcj g0 g1
   simp only [un3]
   rw [ix_ hk,bd_some,hc,e1,bd3_some,Y_ (by omega),bd_some]
   refine ⟨_,rfl,a1,a2,by simp;omega,λt ht ht'=>?_⟩
   simp only [List.length_append,lC_,List.length_nil] at ht
   by_cases hlt:t<l.length
   .simp only [List.getElem_append_left hlt];exact g3 t hlt ht'
   .have hte:t=l.length:=by omega
    subst hte;subst g2
    simp only [List.getElem_concat_length]
    exact ⟨c,hc,hcj,hv⟩)
  r.kids.length 0 (i,h,[]) (by omega) ⟨h0,h1,rfl,λt ht=>(by simp at ht)⟩ with ⟨⟨i',h',l⟩,e,q1,q2,q3,q4⟩ | ⟨_,_,hf⟩
 .exact ⟨i',h',l,e,q1,q2,q3,q4⟩
 .exact hf.elim
theorem q_U (hb:b.length<=MX)(hd:DrE d):∀(j:Nat)(_:j<d.rules.length)(n:Nat),40+j<=n->∀(i h most:Int),0<=i->i<=(b.length:Int)->0<=most->most<=10->Dr b (l_X n ⟨b,i,h⟩ d (j:Int) most) (Mk d j):=by
 have hLIM:=a_7;intro j
 induction j using Nat.strongRecOn with
 | ind j ih =>
  intro hj n hn i h most J h1 a3 a5;obtain ⟨m,rfl⟩:∃m,n=m+1:=⟨n - 1,by omega⟩
  show Dr b (h_R m (f_z m) ⟨b,i,h⟩ d (j:Int) most) (Mk d j)
  have hrec:∀c i h,c<j->0<=i->i<=(b.length:Int)->Dr b ((f_z m).spec_l9Make ⟨b,i,h⟩ d (c:Int) (c_l most 2)) (Mk d c):=λc i h hc G g1=>by
   have hq:=n_C (x:=most) (y:=2) a3 (by omega) (by omega);exact ih c hc (by omega) m (by omega) i h _ G g1 (by omega) (by omega)
  have hr:=hd.each j hj;have mkN:∀(num:Int)(l:List Val),l.length<=3->(∀t (ht:t<l.length),∃c:Nat,P_ d.rules[j] num t=(c:Int)/\c<j/\Mk d c l[t])->Mk d j ⟨num,[],l⟩:=λnum l hl ch=>Mk.of hj hl rfl ch
  have mkF:∀(num:Int)(bs:Bt),bs.length<=6->Mk d j ⟨num,bs,[]⟩:=λnum bs hl=>.flat hj rfl hl
  unfold h_R
  rw [ix_ hj,bd_some]
  generalize d.rules[j]=r at hr mkN
  have hkk:r.kind=1∨r.kind=2∨r.kind=3∨r.kind=4∨r.kind=5∨r.kind=6∨r.kind=7∨r.kind=8∨r.kind=9∨r.kind=10:=by have:=hr.kind;omega
  have one:∀(num:Int)(c:Nat)(v:Val),P_ r num 0=(c:Int)->c<j->Mk d c v->Mk d j ⟨num,[],[v]⟩:=λnum c v h1 h2 h3=>mkN num [v] (by simp) λt ht=>by
   have:t=0:=by simp at ht;omega
   subst this;exact ⟨c,h1,h2,h3⟩
  rcases hkk with hk | hk | hk | hk | hk | hk | hk | hk | hk | hk
  .have hs:=hr.size hk
   rw [hk,iP_ (show ((1:Int)==1)=true by decide)]
   unfold d_a
   rw [e_3 (by omega) (by omega),show nn (8 * r.size)=some () from by unfold nn;rw [iP_ (by omega)],bd_some,bd_some]
   obtain ⟨z,W,_⟩:=j_K (b_w .i64 1<|8 * r.size) 70000
   rw [W,bd_some]
   obtain ⟨x,V,h1',H,G,g1,hx⟩:=h_e (h:=h) J h1 hb z
   rw [H,bd3_some]
   exact ⟨_,_,_,rfl,G,g1,mkF _ _ (by simp)⟩
  .rw [hk,iN_ (show ¬((2:Int)==1)=true by decide),iN_ (show ¬((2:Int)==3)=true by decide),iN_ (show ¬((2:Int)==4)=true by decide),bd_some,show ((2:Int)==10)=false by decide,iN_ (by simp),iN_ (show ¬((2:Int)==5)=true by decide),iN_ (show ¬((2:Int)==6)=true by decide),iN_ (show ¬((2:Int)==7)=true by decide),iN_ (show ¬((2:Int)==8)=true by decide),iN_ (show ¬((2:Int)==9)=true by decide)]
   exact ⟨_,_,_,rfl,J,h1,mkF _ _ (by simp)⟩
  .have hs:=hr.size3 hk
   rw [hk,iN_ (show ¬((3:Int)==1)=true by decide),iP_ (show ((3:Int)==3)=true by decide)]
   obtain ⟨l,V,h1',H,G,g1,hl⟩:=i_l (h:=h) J h1 hb (n:=r.size) (by omega)
   rw [H,bd3_some]
   exact ⟨_,_,_,rfl,G,g1,mkF _ _ (by omega)⟩
  .rw [hk,iN_ (show ¬((4:Int)==1)=true by decide),iN_ (show ¬((4:Int)==3)=true by decide),iP_ (show ((4:Int)==4)=true by decide),bd_some,show ((4:Int)==4)=true by decide,iP_ rfl]
   obtain ⟨z,W,z1,z2,z3⟩:=j_K most 6
   rw [W,bd_some,ia_ (by omega) (by omega)]
   obtain ⟨x,V,h1',H,L,O,hx⟩:=a_i (h:=h) J h1 hb (show 0<z+1 by omega)
   rw [H,bd3_some]
   obtain ⟨l,Y,h2,I,G,g1,hl⟩:=i_l (h:=h1') L O hb (n:=x) (by omega)
   rw [I,bd3_some,iN_ (show ¬((4:Int)==10)=true by decide)]
   exact ⟨_,_,_,rfl,G,g1,mkF _ _ (by omega)⟩
  .have hkl:=hr.k5 hk;obtain ⟨c,hc,hcj⟩:=h_g hr (t:=1) (by omega);have a4:idx r.kids 1=some (c:Int):=by rw [e_4 (by omega),hc]
   have hit:∀num t,P_ r num t=(c:Int):=λnum t=>by unfold P_;rw [hk,iP_ (by decide),gD_,gG_ (by omega:1<r.kids.length),Option.getD_some,hc]
   rw [hk,iN_ (show ¬((5:Int)==1)=true by decide),iN_ (show ¬((5:Int)==3)=true by decide),iN_ (show ¬((5:Int)==4)=true by decide),bd_some,show ((5:Int)==10)=false by decide,iN_ (by simp),iP_ (show ((5:Int)==5)=true by decide)]
   obtain ⟨z,W,z1,z2,z3⟩:=j_K most 3
   rw [W,bd_some,ia_ (by omega) (by omega)]
   obtain ⟨x,V,h1',H,L,O,hx⟩:=a_i (h:=h) J h1 hb (show 0<z+1 by omega)
   rw [H,bd3_some]
   obtain ⟨Y,h2,l,I,G,g1,q1,q2⟩:=q_T (h:=h1') L O (n:=m) (by omega) (x:=x) hx.1 (by omega) a4<|λi h G g1=>hrec c i h hcj G g1
   rw [I,bd_some,el_inl]
   exact ⟨_,_,_,rfl,G,g1,mkN _ l q1 λt ht=>⟨c,hit _ t,hcj,q2 _<|gE_ ht⟩⟩
  .have hkl:=(hr.k6 hk).2;have hit:∀num t (ht:t<r.kids.length),P_ r num t=r.kids[t]:=λnum t ht=>by unfold P_;rw [hk,iN_ (by decide),iP_ (by decide),iP_ ht,gD_,gG_ ht,Option.getD_some]
   rw [hk,iN_ (show ¬((6:Int)==1)=true by decide),iN_ (show ¬((6:Int)==3)=true by decide),iN_ (show ¬((6:Int)==4)=true by decide),bd_some,show ((6:Int)==10)=false by decide,iN_ (by simp),iN_ (show ¬((6:Int)==5)=true by decide),iP_ (show ((6:Int)==6)=true by decide)]
   obtain ⟨Y,h2,l,I,G,g1,q1,q2⟩:=seq_ok (h:=h) J h1 hr hkl hrec
   rw [I,bd_some,el_inl]
   refine ⟨_,_,_,rfl,G,g1,mkN _ l (by omega) λt ht=>?_⟩;obtain ⟨c,c1,c2,c3⟩:=q2 t ht (by omega);exact ⟨c,by rw [hit _ t (by omega),c1],c2,c3⟩
  .have htl:=hr.tags;obtain ⟨k1,k2,k3⟩:=hr.k7 hk
   rw [hk,iN_ (show ¬((7:Int)==1)=true by decide),iN_ (show ¬((7:Int)==3)=true by decide),iN_ (show ¬((7:Int)==4)=true by decide),bd_some,show ((7:Int)==10)=false by decide,iN_ (by simp),iN_ (show ¬((7:Int)==5)=true by decide),iN_ (show ¬((7:Int)==6)=true by decide),iP_ (show ((7:Int)==7)=true by decide)]
   obtain ⟨x,V,h1',H,L,O,hx⟩:=a_i (h:=h) J h1 hb (show (0:Int)<(r.tags.length:Int) by omega);obtain ⟨k,rfl⟩:∃k:Nat,x=k:=⟨x.toNat,by omega⟩;have hkt:k<r.tags.length:=by omega
   obtain ⟨c,hc,hcj⟩:=h_g hr (t:=k+1) (by omega)
   have hit:P_ r r.tags[k] 0=(c:Int):=by
    unfold P_;rw [hk,iN_ (by decide),iN_ (by decide),iP_ (by decide),q_S hkt k3]
    simp only
    rw [gD_,gG_ (by omega:k+1<r.kids.length),Option.getD_some,hc]
   rw [H,bd3_some,ix_ hkt,bd_some,ia_ (by omega) (by omega),show (k:Int)+1=((k+1:Nat):Int) from rfl,ix_ (by omega),bd_some,hc]
   obtain ⟨v,Y,h2,I,G,g1,hv⟩:=hrec c V h1' hcj L O
   rw [I,bd3_some]
   exact ⟨_,_,_,rfl,G,g1,one _ c v hit hcj hv⟩
  .have hkl:=hr.k8<|.inl hk;obtain ⟨c,hc,hcj⟩:=h_g hr (t:=0) (by omega);have hit:∀num t,P_ r num t=(c:Int):=λnum t=>by unfold P_;rw [hk,iN_ (by decide),iN_ (by decide),iN_ (by decide),iP_ (by decide),gD_,gG_ (by omega:0<r.kids.length),Option.getD_some,hc]
   rw [hk,iN_ (show ¬((8:Int)==1)=true by decide),iN_ (show ¬((8:Int)==3)=true by decide),iN_ (show ¬((8:Int)==4)=true by decide),bd_some,show ((8:Int)==10)=false by decide,iN_ (by simp),iN_ (show ¬((8:Int)==5)=true by decide),iN_ (show ¬((8:Int)==6)=true by decide),iN_ (show ¬((8:Int)==7)=true by decide),iP_ (show ((8:Int)==8)=true by decide)]
   obtain ⟨f,V,h1',H,L,O,_⟩:=e_0 (h:=h) J h1 hb 2
   rw [H,bd3_some]
   cases f with
   | false=>exact ⟨_,_,_,rfl,L,O,mkF _ _ (by simp)⟩
   | true =>
    rw [iP_ rfl,a_h (by omega),bd_some,hc]
    obtain ⟨v,Y,h2,I,G,g1,hv⟩:=hrec c V h1' hcj L O
    rw [I,bd3_some]
    exact ⟨_,_,_,rfl,G,g1,one _ c v (hit _ _) hcj hv⟩
  .have hkl:=hr.k8<|.inr hk;obtain ⟨c,hc,hcj⟩:=h_g hr (t:=0) (by omega);have hit:∀num t,P_ r num t=(c:Int):=λnum t=>by unfold P_;rw [hk,iN_ (by decide),iN_ (by decide),iN_ (by decide),iN_ (by decide),iP_ (by decide),gD_,gG_ (by omega:0<r.kids.length),Option.getD_some,hc]
   rw [hk,iN_ (show ¬((9:Int)==1)=true by decide),iN_ (show ¬((9:Int)==3)=true by decide),iN_ (show ¬((9:Int)==4)=true by decide),bd_some,show ((9:Int)==10)=false by decide,iN_ (by simp),iN_ (show ¬((9:Int)==5)=true by decide),iN_ (show ¬((9:Int)==6)=true by decide),iN_ (show ¬((9:Int)==7)=true by decide),iN_ (show ¬((9:Int)==8)=true by decide),iP_ (show ((9:Int)==9)=true by decide)]
   rw [a_h (by omega),bd_some,hc]
   obtain ⟨v,Y,h2,I,G,g1,hv⟩:=hrec c i h hcj J h1
   rw [I,bd3_some]
   exact ⟨_,_,_,rfl,G,g1,one _ c v (hit _ _) hcj hv⟩
  .have hbl:=hr.k10 hk
   rw [hk,iN_ (show ¬((10:Int)==1)=true by decide),iN_ (show ¬((10:Int)==3)=true by decide),iN_ (show ¬((10:Int)==4)=true by decide),bd_some,show ((10:Int)==10)=true by decide,iP_ rfl]
   obtain ⟨z,W,z1,z2,z3⟩:=j_K most 6
   rw [W,bd_some,ia_ (by omega) (by omega)]
   obtain ⟨x,V,h1',H,L,O,hx⟩:=a_i (h:=h) J h1 hb (show 0<z+1 by omega)
   rw [H,bd3_some]
   obtain ⟨l,Y,h2,I,G,g1,hl⟩:=i_l (h:=h1') L O hb (n:=x) (by omega)
   rw [I,bd3_some,iP_ rfl]
   by_cases a2:0<(l.length:Int)
   .rw [dT_ a2,iP_ rfl]
    obtain ⟨f,i3,h3,e3,b0,b1,_⟩:=e_0 (h:=h2) G g1 hb 2
    rw [e3,bd3_some]
    cases f with
    | false=>exact ⟨_,_,_,rfl,b0,b1,mkF _ _ (by omega)⟩
    | true =>
     simp only [bd_some,un3]
     rw [iP_ trivial,a_h (by omega),bd_some]
     obtain ⟨y,i4,h4,e4,c0,c1,_⟩:=d_u (h:=h3) (l:=[byteI r.bytes[0],92]) b0 b1 hb (by simp)
     rw [e4,bd3_some,show (0:Int)=((0:Nat):Int) from rfl,n_D (by omega),bd_some]
     exact ⟨_,_,_,rfl,c0,c1,mkF _ _ (by simp;omega)⟩
   .rw [dF_ a2]
    exact ⟨_,_,_,rfl,G,g1,mkF _ _ (by omega)⟩
end
end Go.Vw
