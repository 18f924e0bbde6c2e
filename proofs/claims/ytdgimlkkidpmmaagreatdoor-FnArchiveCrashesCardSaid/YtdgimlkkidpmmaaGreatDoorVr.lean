
import Derived.Test.YtdgimlkkidpmmaaGreatDoorVc
namespace Go.Vw
open Go.RowKit Dat
def pre5:List Str:=[(⟨[97]⟩:Str),(⟨[105,116,101,109]⟩:Str),(⟨[98]⟩:Str),(⟨[104,101,97,100]⟩:Str),(⟨[120]⟩:Str)]
def pre3:List Str:=[(⟨[112]⟩:Str),(⟨[113]⟩:Str),(⟨[114]⟩:Str)]
def k_O (d:c_)(nm:Str)(r:b_):Prop:=r.name=nm/\a_2 d.rules r=true/\(r.little && r.kind != 1)=false
theorem Dr.and {α:Type}{b:Bt}{o:Option (α×Int×Int)}{P Q:α->Prop}(d:Dr b o P)(e:Dr b o Q):Dr b o (λx=>P x/\Q x):=by
 obtain ⟨x,i,h,rfl,h1,h2,h3⟩:=d;obtain ⟨x',i',h',e',h1',h2',h3'⟩:=e
 cases e'
 exact ⟨x,i,h,rfl,h1,h2,h3,h3'⟩
theorem p_A:Lib.itoa ((0:Nat):Int)=[48]:=by rw [e_U];simp [Lib.decDigits]
theorem p_B:Lib.itoa ((1:Nat):Int)=[49]:=by rw [e_U];simp [Lib.decDigits]
theorem p_C:Lib.itoa ((2:Nat):Int)=[50]:=by rw [e_U];simp [Lib.decDigits]
theorem p_D:Lib.itoa ((3:Nat):Int)=[51]:=by rw [e_U];simp [Lib.decDigits]
theorem p_E:Lib.itoa ((4:Nat):Int)=[52]:=by rw [e_U];simp [Lib.decDigits]
theorem p_F:Lib.itoa ((5:Nat):Int)=[53]:=by rw [e_U];simp [Lib.decDigits]
theorem p_G:Lib.itoa ((6:Nat):Int)=[54]:=by rw [e_U];simp [Lib.decDigits]
theorem p_H:Lib.itoa ((7:Nat):Int)=[55]:=by rw [e_U];simp [Lib.decDigits]
theorem p_I {q:Nat}(h:q<=7):∃c:UInt8,Lib.itoa (q:Int)=[c]/\byteI c=48+(q:Int)/\h_n c=true/\h_m c=false:=by
 have:q=0∨q=1∨q=2∨q=3∨q=4∨q=5∨q=6∨q=7:=by omega
 rcases this with rfl | rfl | rfl | rfl | rfl | rfl | rfl | rfl
 .exact ⟨_,p_A,by decide,by decide,by decide⟩
 .exact ⟨_,p_B,by decide,by decide,by decide⟩
 .exact ⟨_,p_C,by decide,by decide,by decide⟩
 .exact ⟨_,p_D,by decide,by decide,by decide⟩
 .exact ⟨_,p_E,by decide,by decide,by decide⟩
 .exact ⟨_,p_F,by decide,by decide,by decide⟩
 .exact ⟨_,p_G,by decide,by decide,by decide⟩
 .exact ⟨_,p_H,by decide,by decide,by decide⟩
theorem p_J {q:Nat}(h:q<=7):(∀s∈pre5,b_r ⟨s.b++Lib.itoa (q:Int)⟩=true)/\∀s∈pre3,b_r ⟨s.b++Lib.itoa (q:Int)⟩=true:=by
 have:q=0∨q=1∨q=2∨q=3∨q=4∨q=5∨q=6∨q=7:=by omega
 rcases this with rfl | rfl | rfl | rfl | rfl | rfl | rfl | rfl
 .rw [p_A];decide
 .rw [p_B];decide
 .rw [p_C];decide
 .rw [p_D];decide
 .rw [p_E];decide
 .rw [p_F];decide
 .rw [p_G];decide
 .rw [p_H];decide
theorem p_K {s t:Str}{q c:Nat}(hq:q<=7)(hc:c<=7)(hne:q ≠ c):s.b++Lib.itoa (q:Int) ≠ t.b++Lib.itoa (c:Int):=by
 obtain ⟨x,hx,G,_⟩:=p_I hq;obtain ⟨y,hy,H,_⟩:=p_I hc
 rw [hx,hy]
 intro h;have h':=congrArg List.getLast? h
 simp only [List.getLast?_append,List.getLast?_singleton,Option.some_or,oI_] at h'
 subst h'
 omega
theorem p_L {rs:List b_}{j:Nat}(hj:j<rs.length)(hk:(rs[j]).kind=1)(h1:1<=(rs[j]).size)(h3:(rs[j]).size<=3):255<=lim rs (j:Int):=by
 unfold lim
 rw [ix_ hj]
 simp only
 rw [iP_ ⟨hk,h1,by omega⟩]
 have:(rs[j]).size=1∨(rs[j]).size=2∨(rs[j]).size=3:=by omega
 rcases this with h | h | h <;> rw [h] <;> decide
section
variable {b:Bt}{i h:Int}
theorem n_4 (V:0<=i)(h1:i<=(b.length:Int))(hb:b.length<=MX){d:c_}(hd:0<d.rules.length)(hk:(d.rules[0]).kind=1)(hl:d.rules.length<=1000)(hint:∀j (hj:j<d.rules.length),(d.rules[j]).kind=1->255<=lim d.rules (j:Int)) :
  Dr b (e_5 ⟨b,i,h⟩ d) (λx=>255<=lim d.rules x):=by
 have hLIM:=W_;unfold e_5
 rcases d_r (σ:=List Int) (ρ:=Int×Int×Int) (body:=λH=>(λI=>bd (idx d.rules ((H:Nat):Int)) λJ=>bd (α:=List Int) (if (J.kind==1) then bd (psh I ((H:Nat):Int)) λL=>some L else some I)<|λO=>some<|.next O))
  (λk l=>l.length<=k/\(∀x∈l,255<=lim d.rules x)/\(0<k->0<l.length)) (λ_=>False) (n:=d.rules.length) (λk l hk' ⟨g1,G,g3⟩=>.inl (by
   rw [ix_ hk',bd_some]
   by_cases hc:(d.rules[k].kind==1)=true
   .rw [iP_ hc,O_ (by omega),bd_some,bd_some]
    refine ⟨_,rfl,by simp;omega,λx hx=>?_,λ_=>by simp⟩
    rcases List.mem_append.1 hx with hx | hx
    .exact G x hx
    .rw [List.mem_singleton] at hx;subst hx;exact hint k hk' (by simpa using hc)
   .rw [iN_ hc,bd_some]
    refine ⟨_,rfl,by omega,G,λ_=>?_⟩
    cases k with
    | zero=>exact absurd (by rw [hk];rfl) hc
    | succ k=>exact g3 (by omega))) d.rules.length 0 [] (by omega) ⟨Nat.le_refl _,λx hx=>(by cases hx),λh=>(by omega)⟩ with ⟨l,e,g1,G,g3⟩ | ⟨_,_,hf⟩
 .rw [e,bd_some,el_inl]
  refine (h_x V h1 hb<|g3 hd).bd λx i h hx W g1=>⟨_,_,_,rfl,W,g1,G x hx⟩
 .exact hf.elim
end
def Nms (c:Nat)(l:List Str):Prop:=(List.range l.length).any (b_Y l)=false/\∀t∈l,∃p:Str,∃q:Nat,c<q/\q<=3/\t=⟨p.b++Lib.itoa (q:Int)⟩
theorem Nms.snoc {c:Nat}{l:List Str}{s:Str}(hs:s∈pre3)(hc:c+1<=3)(h:Nms (c+1) l):Nms c (l++[⟨s.b++Lib.itoa ((c+1:Nat):Int)⟩]):=by
 obtain ⟨h1,h2⟩:=h
 constructor
 .rw [List.any_eq_false] at h1 ⊢
  intro k hk
  simp only [List.length_append,lC_,List.length_nil,List.mem_range] at hk
  by_cases hlt:k<l.length
  .have:=h1 k<|List.mem_range.2 hlt;unfold b_Y at this ⊢
   rw [List.getElem?_append_left hlt]
   rw [List.take_append_of_le_length (by omega)]
   exact this
  .have hke:k=l.length:=by omega
   subst hke;unfold b_Y
   rw [List.getElem?_append_right (Nat.le_refl _)]
   simp only [Nat.sub_self,List.getElem?_cons_zero,List.take_left']
   rw [(p_J (q:=c+1) (by omega)).2 s hs]
   simp only [nT_,Bool.false_or,Bool.not_eq_true]
   unfold e_T
   rw [List.any_eq_false]
   intro t ht;obtain ⟨p,q,hq,G,rfl⟩:=h2 t ht;have:=p_K (s:=p) (t:=s) (q:=q) (c:=c+1) (by omega) (by omega) (by omega)
   simpa using this
 .intro t ht
  rcases List.mem_append.1 ht with ht | ht
  .obtain ⟨p,q,hq,G,e⟩:=h2 t ht;exact ⟨p,q,by omega,G,e⟩
  .rw [List.mem_singleton] at ht
   exact ⟨s,c+1,by omega,hc,ht⟩
section
variable {b:Bt}{i h:Int}
theorem u_9 (h0:0<=i)(h1:i<=(b.length:Int))(hb:b.length<=MX){m:Nat}(hm:0<m){n:Nat}(hn:30<=n){x:Int}(aa:1<=x)(a9:x<=3) :
  ∃i' h' l ks,C_ (σ:=Int×Int×Int×(List Str)×(List Int)) (ρ:=b_×Int×Int) (un5 λG H I J L=>if (decide<|0<G) then bd3 (c_T (⟨b,H,I⟩:j_) [(⟨[112]⟩:Str),(⟨[113]⟩:Str),(⟨[114]⟩:Str)]) λO V W=>bd (d_X n G) λY=>bd (cat O Y) λa0=>bd (psh J a0) λa5=>bd3 (a_0 (⟨b,V,W⟩:j_) (m:Int)) λa6 a7 a8=>bd (psh L a6) λx10008=>some (.next (h_ G 1,a7,a8,a5,x10008)) else some (.brk (G,H,I,J,L))) n (x,i,h,([]:List Str),([]:List Int))=some (.inl (0,i',h',l,ks))/\1<=l.length/\l.length<=3/\l.length=ks.length/\(List.range l.length).any (b_Y l)=false:=by
 have hLIM:=W_
 obtain ⟨s,e,hs⟩:=c_A (σ:=Int×Int×Int×(List Str)×(List Int)) (ρ:=b_×Int×Int) (step:=un5 λG H I J L=>if (decide<|0<G) then bd3 (c_T (⟨b,H,I⟩:j_) [(⟨[112]⟩:Str),(⟨[113]⟩:Str),(⟨[114]⟩:Str)]) λO V W=>bd (d_X n G) λY=>bd (cat O Y) λa0=>bd (psh J a0) λa5=>bd3 (a_0 (⟨b,V,W⟩:j_) (m:Int)) λa6 a7 a8=>bd (psh L a6) λx10008=>some (.next (h_ G 1,a7,a8,a5,x10008)) else some (.brk (G,H,I,J,L)))
  (λs=>0<=s.1/\s.1<=3/\0<=s.2.1/\s.2.1<=(b.length:Int)/\(s.2.2.2.1.length:Int)+s.1<=3/\1<=(s.2.2.2.1.length:Int)+s.1/\s.2.2.2.1.length=s.2.2.2.2.length/\Nms s.1.toNat s.2.2.2.1) (λs=>s.1.toNat)
  (λs=>s.1=0/\1<=s.2.2.2.1.length/\s.2.2.2.1.length<=3/\s.2.2.2.1.length=s.2.2.2.2.length/\(List.range s.2.2.2.1.length).any (b_Y s.2.2.2.1)=false)
  (by
   rintro ⟨c,i,h,l,ks⟩ ⟨g0,g1,g2,g3,g4,g5,g6,g7⟩
   simp only at g0 g1 g2 g3 g4 g5 g6 g7
   simp only [un5]
   by_cases hc:0<c
   .left
    rw [dT_ hc,iP_ rfl]
    obtain ⟨s,i1,h1,e1,a1,a2,hs⟩:=i_T (h:=h) (l:=[(⟨[112]⟩:Str),(⟨[113]⟩:Str),(⟨[114]⟩:Str)]) g2 g3 hb (by simp);obtain ⟨q,hq⟩:∃q:Nat,c=q:=⟨c.toNat,by omega⟩;subst hq;have hit:=k_Q q (by omega)
    have hsl:s.b.length=1:=by
     simp only [List.mem_cons,List.not_mem_nil,or_false] at hs
     rcases hs with rfl | rfl | rfl <;> rfl
    rw [e1,bd3_some,k_P hn q (by omega),bd_some,i_W (by simp only;omega),bd_some,O_ (by omega),bd_some]
    obtain ⟨k,i2,h2,e2,a3,a4,hk⟩:=a_t (h:=h1) a1 a2 hb (show (0:Int)<(m:Int) by omega)
    rw [e2,bd3_some,O_ (by omega),bd_some,a_f (by omega) (by omega)]
    exact ⟨_,rfl,⟨by simp only;omega,by simp only;omega,a3,a4,by simp;omega,by simp;omega,by simp;omega,by
     have:=Nms.snoc (c:=q - 1) (s:=s) hs (by omega) (by simpa [show q - 1+1=q by omega] using g7)
     simpa [show ((q:Int) - 1).toNat=q - 1 by omega,show q - 1+1=q by omega] using this⟩,by simp only;omega⟩
   .right
    rw [dF_ hc]
    exact ⟨_,rfl,by simp only;omega,by simp only;omega,by simp only;omega,g6,g7.1⟩)
  n (x,i,h,[],[]) ⟨by simp only;omega,a9,h0,h1,by simp;omega,by simp;omega,rfl,⟨rfl,λt ht=>(by cases ht)⟩⟩ (by simp only;omega)
 obtain ⟨c,i',h',l,ks⟩:=s;obtain ⟨hc,q1,q2,q3,q4⟩:=hs
 simp only at hc q1 q2 q3 q4
 subst hc;exact ⟨i',h',l,ks,e,q1,q2,q3,q4⟩
theorem u_a (h0:0<=i)(h1:i<=(b.length:Int))(hb:b.length<=MX){m:Nat}(hm:0<m){n:Nat}(hn:30<=n){x G:Int}(a5:1<=x)(a0:x<=3) :
  ∃i' h' l ks,C_ (σ:=Int×Int×Int×(List Int)×(List Int)) (ρ:=b_×Int×Int) (un5 λx11018 x11020 x11022 x11025 x11033=>if (decide<|0<x11018) then bd3 (a_0 (⟨b,x11020,x11022⟩:j_) 4) λr11221 r11224 r11225=>bd (psh x11025<|d_ (U_ 4 (x11025.length:Int)) r11221) λx11249=>bd3 (a_0 (⟨b,r11224,r11225⟩:j_) (m:Int)) λr11286 r11289 r11290=>bd (psh x11033 r11286) λx11323=>some (.next (h_ x11018 1,r11289,r11290,x11249,x11323)) else some (.brk (x11018,x11020,x11022,x11025,x11033))) n (x,i,h,([]:List Int),[G])=some (.inl (0,i',h',l,ks))/\0<=i'/\i'<=(b.length:Int)/\0<l.length/\l.length<=3/\ks.length=l.length+1/\ks[0]? = some G/\∀t (ht:t<l.length),4 * (t:Int)<=l[t]/\l[t]<4 * (t:Int)+4:=by
 have hLIM:=W_
 obtain ⟨s,e,hs⟩:=c_A (σ:=Int×Int×Int×(List Int)×(List Int)) (ρ:=b_×Int×Int) (step:=un5 λx11018 x11020 x11022 x11025 x11033=>if (decide<|0<x11018) then bd3 (a_0 (⟨b,x11020,x11022⟩:j_) 4) λr11221 r11224 r11225=>bd (psh x11025<|d_ (U_ 4 (x11025.length:Int)) r11221) λx11249=>bd3 (a_0 (⟨b,r11224,r11225⟩:j_) (m:Int)) λr11286 r11289 r11290=>bd (psh x11033 r11286) λx11323=>some (.next (h_ x11018 1,r11289,r11290,x11249,x11323)) else some (.brk (x11018,x11020,x11022,x11025,x11033)))
  (λs=>0<=s.1/\s.1<=3/\0<=s.2.1/\s.2.1<=(b.length:Int)/\(s.2.2.2.1.length:Int)+s.1<=3/\1<=(s.2.2.2.1.length:Int)+s.1/\s.2.2.2.2.length=s.2.2.2.1.length+1/\s.2.2.2.2[0]? = some G/\∀t (ht:t<s.2.2.2.1.length),4 * (t:Int)<=s.2.2.2.1[t]/\s.2.2.2.1[t]<4 * (t:Int)+4) (λs=>s.1.toNat)
  (λs=>s.1=0/\0<=s.2.1/\s.2.1<=(b.length:Int)/\0<s.2.2.2.1.length/\s.2.2.2.1.length<=3/\s.2.2.2.2.length=s.2.2.2.1.length+1/\s.2.2.2.2[0]? = some G/\∀t (ht:t<s.2.2.2.1.length),4 * (t:Int)<=s.2.2.2.1[t]/\s.2.2.2.1[t]<4 * (t:Int)+4)
  (by
   rintro ⟨c,i,h,l,ks⟩ ⟨g0,g1,H,g3,g4,g5,L,I,J⟩
   simp only at g0 g1 H g3 g4 g5 L I J
   simp only [un5]
   by_cases hc:0<c
   .left
    rw [dT_ hc,iP_ rfl]
    obtain ⟨s,i1,h1,e1,a1,a2,hs⟩:=a_t (h:=h) (n:=4) H g3 hb (by omega)
    rw [e1,bd3_some,c_D (by omega) (by omega),ia_ (by omega) (by omega),O_ (by omega),bd_some]
    obtain ⟨k,i2,h2,e2,a3,a4,hk⟩:=a_t (h:=h1) a1 a2 hb (show (0:Int)<(m:Int) by omega)
    rw [e2,bd3_some,O_ (by omega),bd_some,a_f (by omega) (by omega)]
    refine ⟨_,rfl,⟨by simp only;omega,by simp only;omega,a3,a4,by simp;omega,by simp;omega,by simp;omega,(by simp only;rw [List.getElem?_append_left (by omega)];exact I),λt ht=>?_⟩,by simp only;omega⟩
    .simp only [List.length_append,lC_,List.length_nil] at ht
     by_cases hlt:t<l.length
     .have:=J t hlt
      simp only [List.getElem_append_left hlt];exact this
     .have hte:t=l.length:=by omega
      subst hte
      simp;omega
   .right
    rw [dF_ hc]
    exact ⟨_,rfl,by simp only;omega,H,g3,by simp only;omega,by simp only;omega,L,I,J⟩)
  n (x,i,h,[],[G]) ⟨by simp only;omega,a0,h0,h1,by simp;omega,by simp;omega,rfl,rfl,λt ht=>(by simp at ht)⟩ (by simp only;omega)
 obtain ⟨c,i',h',l,ks⟩:=s;obtain ⟨hc,O,V,W,Y,q5,q6,q7⟩:=hs
 simp only at hc O V W Y q5 q6 q7
 subst hc;exact ⟨i',h',l,ks,e,O,V,W,Y,q5,q6,q7⟩
theorem u_b (r:b_){x:Int}(h:r.kids[0]? = some x):k_ r=x:=by unfold k_;rw [gD_,h];rfl
theorem u_c {m:Int}{l:List Int}(hm:255<=m)(hl:l.length<=3)(h:∀t (ht:t<l.length),4 * (t:Int)<=l[t]/\l[t]<4 * (t:Int)+4):(List.range l.length).any (c_Q m l)=false:=by
 rw [List.any_eq_false]
 intro k hk
 rw [List.mem_range] at hk
 unfold c_Q
 rw [gG_ hk]
 have h1:=h k hk
 simp only [Bool.not_eq_true]
 rw [dT_ (show (0:Int)<=l[k] by omega),dT_ (show l[k]<=m by omega)]
 by_cases G:0<k
 .have h2:=h (k - 1) (by omega)
  rw [gD_,gG_ (show k - 1<l.length by omega)]
  rw [dF_ (show ¬l[k]<=(some l[k - 1]).getD 0 by show ¬l[k]<=l[k - 1];omega)]
  simp
 .rw [dF_ (show ¬(0:Int)<(k:Int) by omega)]
  simp
theorem byte10 {y:Int}(h:y∈([0,10,59,255]:List Int)):¬byteI (mkB y)=byteI (92:UInt8):=by
 simp only [List.mem_cons,List.not_mem_nil,or_false] at h
 rcases h with rfl | rfl | rfl | rfl <;> decide
theorem n_5 (J:0<=i)(h1:i<=(b.length:Int))(hb:b.length<=MX){n:Nat}(hn:30<=n){d:c_}(hl:d.rules.length<=7){k:Int}(hk:1<=k/\k<=10)
  (hf:k=1∨(0<d.rules.length/\∀h:0<d.rules.length,(d.rules[0]).kind=1)) (hint:∀j (hj:j<d.rules.length),(d.rules[j]).kind=1->255<=lim d.rules (j:Int)):Dr b (d_j n ⟨b,i,h⟩ d k) (λr=>∃s∈pre5,k_O d ⟨s.b++Lib.itoa (d.rules.length:Int)⟩ r):=by
 have hLIM:=W_;unfold d_j;refine (i_T J h1 hb (by simp)).bd λs i h hs J h1=>?_
 have hsl:s.b.length<=4:=by
  simp only [List.mem_cons,List.not_mem_nil,or_false] at hs
  rcases hs with rfl | rfl | rfl | rfl | rfl <;> decide
 have hit:=k_Q d.rules.length (by omega)
 rw [k_P hn d.rules.length (by omega),bd_some,i_W (by simp only;omega),bd_some]
 have hnm:(s.b++Lib.itoa (d.rules.length:Int)).length<=40:=by simp;omega
 refine Dr.mono (P:=k_O d ⟨s.b++Lib.itoa (d.rules.length:Int)⟩) ?_<|λr hr=>⟨s,hs,hr⟩
 clear hit hsl hnm hs
 generalize (⟨s.b++Lib.itoa (d.rules.length:Int)⟩:Str)=nm;have hkk:k=1∨k=2∨k=3∨k=4∨k=5∨k=6∨k=7∨k=8∨k=9∨k=10:=by omega
 have hf':k ≠ 1->0<d.rules.length/\∀h:0<d.rules.length,(d.rules[0]).kind=1:=λh=>hf.resolve_left h
 clear hf
 rcases hkk with rfl | rfl | rfl | rfl | rfl | rfl | rfl | rfl | rfl | rfl
 .rw [iP_ (show ((1:Int)==1)=true by decide)]
  obtain ⟨x,Y,h1',I,L,O,hx⟩:=a_t (h:=h) (n:=3) J h1 hb (by omega)
  rw [I,bd3_some,ia_ (by omega) (by omega)]
  by_cases hc:1<1+x
  .rw [dT_ hc,iP_ rfl]
   obtain ⟨y,W,h2,H,G,g1,_⟩:=e_n (h:=h1') L O hb 2
   rw [H,bd3_some]
   exact ⟨_,_,_,rfl,G,g1,⟨rfl,by simp [a_2,plain];omega,by simp⟩⟩
  .rw [dF_ hc]
   exact ⟨_,_,_,rfl,L,O,⟨rfl,by simp [a_2,plain];omega,by simp⟩⟩
 .rw [iN_ (show ¬((2:Int)==1)=true by decide),iP_ (show ((2:Int)==2)=true by decide)]
  obtain ⟨x,Y,h1',I,L,O,hx⟩:=a_t (h:=h) (n:=3) J h1 hb (by omega)
  rw [I,bd3_some,ia_ (by omega) (by omega)]
  obtain ⟨l,W,h2,H,G,g1,a2⟩:=i_U (h:=h1') L O hb (n:=1+x) (by omega)
  rw [H,bd3_some]
  exact ⟨_,_,_,rfl,G,g1,⟨rfl,by simp [a_2,plain];omega,by simp⟩⟩
 .rw [iN_ (show ¬((3:Int)==1)=true by decide),iN_ (show ¬((3:Int)==2)=true by decide),iP_ (show ((3:Int)==3)=true by decide)]
  obtain ⟨x,Y,h1',I,G,g1,hx⟩:=a_t (h:=h) (n:=4) J h1 hb (by omega)
  rw [I,bd3_some,ia_ (by omega) (by omega)]
  exact ⟨_,_,_,rfl,G,g1,⟨rfl,by simp [a_2,plain];omega,by simp⟩⟩
 .rw [iN_ (show ¬((4:Int)==1)=true by decide),iN_ (show ¬((4:Int)==2)=true by decide),iN_ (show ¬((4:Int)==3)=true by decide),iP_ (show ((4:Int)==4)=true by decide)]
  obtain ⟨hp,V⟩:=hf' (by decide);obtain ⟨x,Y,h1',I,G,g1,hx⟩:=n_4 (h:=h) J h1 hb hp (V hp) (by omega) hint
  rw [I,bd3_some]
  exact ⟨_,_,_,rfl,G,g1,⟨rfl,by simp [a_2,plain,k_];omega,by simp⟩⟩
 .rw [iN_ (show ¬((5:Int)==1)=true by decide),iN_ (show ¬((5:Int)==2)=true by decide),iN_ (show ¬((5:Int)==3)=true by decide),iN_ (show ¬((5:Int)==4)=true by decide),iP_ (show ((5:Int)==5)=true by decide)]
  obtain ⟨hp,V⟩:=hf' (by decide);obtain ⟨x,Y,h1',I,L,O,hx⟩:=n_4 (h:=h) J h1 hb hp (V hp) (by omega) hint
  rw [I,bd3_some]
  obtain ⟨y,W,h2,H,G,g1,hy⟩:=a_t (h:=h1') L O hb (show (0:Int)<(d.rules.length:Int) by omega)
  rw [H,bd3_some]
  exact ⟨_,_,_,rfl,G,g1,⟨rfl,by simp [a_2,plain,k_];omega,by simp⟩⟩
 .rw [iN_ (show ¬((6:Int)==1)=true by decide),iN_ (show ¬((6:Int)==2)=true by decide),iN_ (show ¬((6:Int)==3)=true by decide),iN_ (show ¬((6:Int)==4)=true by decide),iN_ (show ¬((6:Int)==5)=true by decide),iP_ (show ((6:Int)==6)=true by decide)]
  obtain ⟨hp,V⟩:=hf' (by decide);obtain ⟨x,Y,h1',I,L,O,hx⟩:=a_t (h:=h) (n:=3) J h1 hb (by omega)
  rw [I,bd3_some,ia_ (by omega) (by omega)]
  obtain ⟨W,h2,l,ks,H,G,g1,_⟩:=p_v (h:=h1') L O hb hp hn (x:=1+x) (by omega) (by omega);obtain ⟨i2',h2',l',ks',e2',q1,q2,q3,q4⟩:=u_9 (h:=h1') L O hb hp hn (x:=1+x) (by omega) (by omega)
  rw [H] at e2'
  simp only [oI_,Sum.inl.injEq,Prod.mk.injEq,true_and] at e2'
  obtain ⟨rfl,rfl,rfl,rfl⟩:=e2'
  rw [H,bd_some,el_inl]
  exact ⟨_,_,_,rfl,G,g1,⟨rfl,by simp only [a_2,plain,c_9];rw [q4];simp;omega,by simp⟩⟩
 .rw [iN_ (show ¬((7:Int)==1)=true by decide),iN_ (show ¬((7:Int)==2)=true by decide),iN_ (show ¬((7:Int)==3)=true by decide),iN_ (show ¬((7:Int)==4)=true by decide),iN_ (show ¬((7:Int)==5)=true by decide),iN_ (show ¬((7:Int)==6)=true by decide),iP_ (show ((7:Int)==7)=true by decide)]
  obtain ⟨hp,V⟩:=hf' (by decide);obtain ⟨x,Y,h1',I,L,O,hx⟩:=n_4 (h:=h) J h1 hb hp (V hp) (by omega) hint
  rw [I,bd3_some]
  obtain ⟨y,W,h2,H,b0,b1,hy⟩:=a_t (h:=h1') (n:=3) L O hb (by omega)
  rw [H,bd3_some,ia_ (by omega) (by omega)]
  obtain ⟨i3,h3,l,ks,e3,G,g1,q1,q2,q3,q4,q5⟩:=u_a (h:=h2) b0 b1 hb hp hn (x:=1+y) (by omega) (by omega)
  rw [e3,bd_some,el_inl]
  exact ⟨_,_,_,rfl,G,g1,⟨rfl,by simp only [a_2,plain,c_9,u_b ⟨nm,7,0,false,[],[],l,ks⟩ q4,u_c hx q2 q5];simp;omega,by simp⟩⟩
 .rw [iN_ (show ¬((8:Int)==1)=true by decide),iN_ (show ¬((8:Int)==2)=true by decide),iN_ (show ¬((8:Int)==3)=true by decide),iN_ (show ¬((8:Int)==4)=true by decide),iN_ (show ¬((8:Int)==5)=true by decide),iN_ (show ¬((8:Int)==6)=true by decide),iN_ (show ¬((8:Int)==7)=true by decide)]
  obtain ⟨hp,V⟩:=hf' (by decide)
  rw [iP_ (show ((8:Int)==8)=true by decide),bd_some,iP_ (show ((8:Int)==8)=true by decide)]
  obtain ⟨y,W,h2,H,G,g1,hy⟩:=a_t (h:=h) J h1 hb (show (0:Int)<(d.rules.length:Int) by omega)
  rw [H,bd3_some]
  exact ⟨_,_,_,rfl,G,g1,⟨rfl,by simp [a_2,plain],by simp⟩⟩
 .rw [iN_ (show ¬((9:Int)==1)=true by decide),iN_ (show ¬((9:Int)==2)=true by decide),iN_ (show ¬((9:Int)==3)=true by decide),iN_ (show ¬((9:Int)==4)=true by decide),iN_ (show ¬((9:Int)==5)=true by decide),iN_ (show ¬((9:Int)==6)=true by decide),iN_ (show ¬((9:Int)==7)=true by decide)]
  obtain ⟨hp,V⟩:=hf' (by decide)
  rw [iN_ (show ¬((9:Int)==8)=true by decide),bd_some,iP_ (show ((9:Int)==9)=true by decide)]
  obtain ⟨y,W,h2,H,G,g1,hy⟩:=a_t (h:=h) J h1 hb (show (0:Int)<(d.rules.length:Int) by omega)
  rw [H,bd3_some]
  exact ⟨_,_,_,rfl,G,g1,⟨rfl,by simp [a_2,plain],by simp⟩⟩
 .rw [iN_ (show ¬((10:Int)==1)=true by decide),iN_ (show ¬((10:Int)==2)=true by decide),iN_ (show ¬((10:Int)==3)=true by decide),iN_ (show ¬((10:Int)==4)=true by decide),iN_ (show ¬((10:Int)==5)=true by decide),iN_ (show ¬((10:Int)==6)=true by decide),iN_ (show ¬((10:Int)==7)=true by decide)]
  rw [iN_ (show ¬((10:Int)==8)=true by decide),bd_some,iN_ (show ¬((10:Int)==9)=true by decide),iP_ (show ((10:Int)==10)=true by decide)]
  obtain ⟨y,W,h2,H,G,g1,hy⟩:=h_x (h:=h) (l:=[0,10,59,255]) J h1 hb (by decide)
  rw [H,bd3_some]
  exact ⟨_,_,_,rfl,G,g1,⟨rfl,by simp [a_2,plain];exact byte10 hy,by simp⟩⟩
end
def d_R (rs:List b_):Prop:=∀j (hj:j<rs.length),∃s∈pre5,k_O ⟨rs.take j⟩ ⟨s.b++Lib.itoa (j:Int)⟩ rs[j]
theorem d_R.snoc {rs:List b_}{r:b_}(h:d_R rs)(hr:∃s∈pre5,k_O ⟨rs⟩ ⟨s.b++Lib.itoa (rs.length:Int)⟩ r):d_R (rs++[r]):=by
 intro j hj
 simp only [List.length_append,lC_,List.length_nil] at hj
 by_cases hlt:j<rs.length
 .have:=h j hlt
  rw [List.take_append_of_le_length (by omega)]
  simp only [List.getElem_append_left hlt]
  exact this
 .have hje:j=rs.length:=by omega
  subst hje
  simp only [List.take_left',List.getElem_concat_length]
  exact hr
theorem p_M {rs rs':List b_}{r:b_}(h:lim rs (k_ r)=lim rs' (k_ r)):a_2 rs r=a_2 rs' r:=by unfold a_2;rw [h]
theorem p_N {rs:List b_}{j:Nat}{k:Int}(G:0<=k)(hk:k<(j:Int)):lim (rs.take j) k=lim rs k:=by
 unfold lim idx
 rw [iP_ G,iP_ G,List.getElem?_take,iP_ (by omega)]
theorem u_d {d:c_}(hd:DrE d)(hf:d.rules.length<=8)(hg:d_R d.rules):a_b d=true:=by
 unfold a_b;have hs:=hd.some_
 rw [dT_ (show (1:Int)<=(d.rules.length:Int) by omega),dT_ (show (d.rules.length:Int)<=24 by omega)]
 simp only [Bool.and_self,Bool.true_and,Bool.not_eq_true']
 rw [List.any_eq_false]
 intro i hi
 rw [List.mem_range] at hi
 simp only [Bool.not_eq_true',Bool.not_eq_false]
 unfold d_q
 rw [gG_ hi]
 simp only
 obtain ⟨s,H,hn,hk,hl⟩:=hg i hi;have hr:=hd.each i hi
 rw [hl,hn,(p_J (q:=i) (by omega)).1 s H]
 have I:(d.rules.take i).any (λx=>x.name.b==(s.b++Lib.itoa (i:Int)))=false:=by
  rw [List.any_eq_false]
  intro x hx;obtain ⟨j,hj,rfl⟩:=List.getElem_of_mem hx
  simp only [List.length_take] at hj
  obtain ⟨t,_,hn',_⟩:=hg j (by omega)
  rw [List.getElem_take,hn']
  have:=p_K (s:=t) (t:=s) (q:=j) (c:=i) (by omega) (by omega) (by omega)
  simpa using this
 have J:d.rules[i].kids.any (d_6 i)=false:=by
  rw [List.any_eq_false]
  intro k hk;have:=hr.kids k hk;unfold d_6
  rw [dF_ (by omega),dF_ (by omega)]
  simp
 rw [I,J]
 have L:a_2 d.rules d.rules[i]=true:=by
  by_cases he:d.rules[i].kids=[]
  .have G:k_ d.rules[i]=0:=by unfold k_;rw [he];rfl
   by_cases O:i=0
   .subst O;have h1:=hd.first hs;have hp:=hk;unfold a_2 at hp ⊢
    rw [show (d.rules[0].kind==1)=true by rw [h1];rfl] at hp ⊢
    exact hp
   .rw [← hk];exact p_M (by rw [G];exact (p_N (by omega) (by omega)).symm)
  .obtain ⟨k,ks,hks⟩:=List.exists_cons_of_ne_nil he;have G:k_ d.rules[i]=k:=by unfold k_;rw [hks];rfl
   have:=hr.kids k (by rw [hks];exact mS_)
   rw [← hk];exact p_M (by rw [G];exact (p_N this.1 this.2).symm)
 rw [L]
 simp
section
variable {b:Bt}{i h:Int}
theorem u_e (H:0<=i)(h1:i<=(b.length:Int))(hb:b.length<=MX){n:Nat}(hn:30<=n):Dr b (i_m n ⟨b,i,h⟩) (λd=>DrD d/\d_R d.rules):=by
 have hLIM:=W_;unfold i_m;refine ((n_3 (d:=⟨[]⟩) (k:=1) H h1 hb hn (by simp) ⟨by decide,by decide⟩<|.inl rfl).and (n_5 (d:=⟨[]⟩) (k:=1) H h1 hb hn (by simp) ⟨by decide,by decide⟩ (.inl rfl)<|λj hj=>(by simp at hj))).bd λr i h hr H h1=>?_
 obtain ⟨hr,hr'⟩:=hr
 rw [O_ (by simp;omega),bd_some]
 refine (a_t (n:=6) H h1 hb (by omega)).bd λc i h hc H h1=>?_
 obtain ⟨s,e,hs⟩:=c_A (σ:=Int×Int×Int×(List b_)) (ρ:=c_×Int×Int) (step:=un4 λI V W J=>if (decide<|0<I) then bd3 (a_0 (⟨b,V,W⟩:j_) 10) λa0 a5 a6=>bd3 (d_j n (⟨b,a5,a6⟩:j_) (⟨J⟩:c_)<|d_ 1 a0) λa7 a8 a9=>bd (psh J a7) λaa=>some (.next (h_ I 1,a8,a9,aa)) else some (.brk (I,V,W,J)))
  (λs=>0<=s.1/\(s.2.2.2.length:Int)+s.1<=6/\0<=s.2.1/\s.2.1<=(b.length:Int)/\DrD ⟨s.2.2.2⟩/\d_R s.2.2.2) (λs=>s.1.toNat) (λs=>0<=s.2.1/\s.2.1<=(b.length:Int)/\DrD ⟨s.2.2.2⟩/\d_R s.2.2.2)
  (by
   rintro ⟨c,i,h,rs⟩ ⟨g0,g1,L,g3,G,O⟩
   simp only at g0 g1 L g3 G O
   simp only [un4]
   by_cases hc:0<c
   .left
    rw [dT_ hc,iP_ rfl]
    obtain ⟨x,i1,h1,e1,Y,a2,hx⟩:=a_t (h:=h) (n:=10) L g3 hb (by omega)
    rw [e1,bd3_some,ia_ (by omega) (by omega)]
    obtain ⟨q,i2,h2,e2,a3,a4,hq,hq'⟩:=(n_3 (h:=h1) Y a2 hb hn (d:=⟨rs⟩) (k:=1+x) (by have:=G.few;exact Nat.le_trans this (by decide)) (by omega)<|.inr ⟨G.some_,G.first⟩).and (n_5 (h:=h1) Y a2 hb hn (d:=⟨rs⟩) (k:=1+x) (by have:=G.few;exact Nat.le_trans this (by decide)) (by omega) (.inr ⟨G.some_,G.first⟩)<|λj hj h1=>p_L hj h1 ((G.each j hj).size h1).1 ((G.each j hj).size h1).2);have hfew:=G.few
    simp only at hfew
    rw [e2,bd3_some,O_ (by omega),bd_some,a_f (by omega) (by omega)]
    have hpos:0<rs.length:=G.some_;refine ⟨_,rfl,⟨by simp only;omega,by simp;omega,a3,a4,⟨by simp;omega,by simp,λhh=>?_,λj hj=>?_⟩,O.snoc hq'⟩,by simp only;omega⟩
    .simp only [List.getElem_append_left hpos];exact G.first hpos
    .simp only [List.length_append,lC_,List.length_nil] at hj
     by_cases hlt:j<rs.length
     .simp only [List.getElem_append_left hlt];exact G.each j hlt
     .have hje:j=rs.length:=by omega
      subst hje
      simp only [List.getElem_concat_length];exact hq.2
   .right
    rw [dF_ hc]
    exact ⟨_,rfl,L,g3,G,O⟩)
  n (c,i,h,[]++[r]) ⟨hc.1,by simp;omega,H,h1,⟨by simp,by simp,λ_=>(by simpa using hr.1),λj hj=>by
   have:j=0:=by simp at hj;omega
   subst this;exact hr.2⟩,d_R.snoc (rs:=[]) (λj hj=>(by simp at hj)) hr'⟩ (by simp only;omega)
 obtain ⟨c',i',h',rs⟩:=s;obtain ⟨q1,q2,q3,q4⟩:=hs
 rw [e]
 exact ⟨_,_,_,rfl,q1,q2,q3,q4⟩
end
end Go.Vw
