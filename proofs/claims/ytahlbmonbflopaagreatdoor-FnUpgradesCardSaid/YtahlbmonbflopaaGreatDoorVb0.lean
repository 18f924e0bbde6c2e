
import Derived.Test.YtahlbmonbflopaaGreatDoorVc
namespace Go.Vw
open Go.RowKit Dat
def pre5:List Str:=[(⟨[97]⟩:Str),(⟨[105,116,101,109]⟩:Str),(⟨[98]⟩:Str),(⟨[104,101,97,100]⟩:Str),(⟨[120]⟩:Str)]
def pre3:List Str:=[(⟨[112]⟩:Str),(⟨[113]⟩:Str),(⟨[114]⟩:Str)]
def j_N (d:c_)(nm:Str)(r:b_):Prop:=r.name=nm/\a_2 d.rules r=true/\(r.little && r.kind != 1)=false
theorem Dr.and {α:Type}{b:Bt}{o:Option (α×Int×Int)}{P Q:α->Prop}(d:Dr b o P)(e:Dr b o Q):Dr b o (λx=>P x/\Q x):=by
 obtain ⟨x,i,h,rfl,h1,h2,h3⟩:=d;obtain ⟨x',i',h',e',h1',h2',h3'⟩:=e
 cases e'
 exact ⟨x,i,h,rfl,h1,h2,h3,h3'⟩
theorem n_e:Lib.itoa ((0:Nat):Int)=[48]:=by rw [e_V];simp [Lib.decDigits]
theorem n_f:Lib.itoa ((1:Nat):Int)=[49]:=by rw [e_V];simp [Lib.decDigits]
theorem n_g:Lib.itoa ((2:Nat):Int)=[50]:=by rw [e_V];simp [Lib.decDigits]
theorem n_h:Lib.itoa ((3:Nat):Int)=[51]:=by rw [e_V];simp [Lib.decDigits]
theorem n_i:Lib.itoa ((4:Nat):Int)=[52]:=by rw [e_V];simp [Lib.decDigits]
theorem n_j:Lib.itoa ((5:Nat):Int)=[53]:=by rw [e_V];simp [Lib.decDigits]
theorem n_k:Lib.itoa ((6:Nat):Int)=[54]:=by rw [e_V];simp [Lib.decDigits]
theorem n_l:Lib.itoa ((7:Nat):Int)=[55]:=by rw [e_V];simp [Lib.decDigits]
theorem n_m {q:Nat}(h:q<=7):∃c:UInt8,Lib.itoa (q:Int)=[c]/\byteI c=48+(q:Int)/\h_1 c=true/\h_0 c=false:=by
 have:q=0∨q=1∨q=2∨q=3∨q=4∨q=5∨q=6∨q=7:=by omega
 rcases this with rfl | rfl | rfl | rfl | rfl | rfl | rfl | rfl
 .exact ⟨_,n_e,by decide,by decide,by decide⟩
 .exact ⟨_,n_f,by decide,by decide,by decide⟩
 .exact ⟨_,n_g,by decide,by decide,by decide⟩
 .exact ⟨_,n_h,by decide,by decide,by decide⟩
 .exact ⟨_,n_i,by decide,by decide,by decide⟩
 .exact ⟨_,n_j,by decide,by decide,by decide⟩
 .exact ⟨_,n_k,by decide,by decide,by decide⟩
 .exact ⟨_,n_l,by decide,by decide,by decide⟩
theorem n_n {q:Nat}(h:q<=7):(∀s∈pre5,b_L ⟨s.b++Lib.itoa (q:Int)⟩=true)/\∀s∈pre3,b_L ⟨s.b++Lib.itoa (q:Int)⟩=true:=by
 have:q=0∨q=1∨q=2∨q=3∨q=4∨q=5∨q=6∨q=7:=by omega
 rcases this with rfl | rfl | rfl | rfl | rfl | rfl | rfl | rfl
 .rw [n_e];decide
 .rw [n_f];decide
 .rw [n_g];decide
 .rw [n_h];decide
 .rw [n_i];decide
 .rw [n_j];decide
 .rw [n_k];decide
 .rw [n_l];decide
theorem n_o {s t:Str}{q c:Nat}(hq:q<=7)(hc:c<=7)(hne:q ≠ c):s.b++Lib.itoa (q:Int) ≠ t.b++Lib.itoa (c:Int):=by
 obtain ⟨x,hx,G,_⟩:=n_m hq;obtain ⟨y,hy,H,_⟩:=n_m hc
 rw [hx,hy]
 intro h;have h':=congrArg List.getLast? h
 simp only [List.getLast?_append,List.getLast?_singleton,Option.some_or,oI_] at h'
 subst h'
 omega
theorem n_p {rs:List b_}{j:Nat}(hj:j<rs.length)(hk:(rs[j]).kind=1)(h1:1<=(rs[j]).size)(h3:(rs[j]).size<=3):255<=lim rs (j:Int):=by
 unfold lim
 rw [ix_ hj]
 simp only
 rw [iP_ ⟨hk,h1,by omega⟩]
 have:(rs[j]).size=1∨(rs[j]).size=2∨(rs[j]).size=3:=by omega
 rcases this with h | h | h <;> rw [h] <;> decide
section
variable {b:Bt}{i h:Int}
theorem k_W (W:0<=i)(h1:i<=(b.length:Int))(hb:b.length<=MX){d:c_}(hd:0<d.rules.length)(hk:(d.rules[0]).kind=1)(hl:d.rules.length<=1000)(hint:∀j (hj:j<d.rules.length),(d.rules[j]).kind=1->255<=lim d.rules (j:Int)) :
  Dr b (d_P ⟨b,i,h⟩ d) (λx=>255<=lim d.rules x):=by
 have hLIM:=a_7;unfold d_P
 rcases c_u (σ:=List Int) (ρ:=Int×Int×Int) (body:=λI=>(λJ=>bd (idx d.rules ((I:Nat):Int)) λL=>bd (α:=List Int) (if (L.kind==1) then bd (psh J ((I:Nat):Int)) λO=>some O else some J)<|λV=>some<|.next V))
  (λk l=>l.length<=k/\(∀x∈l,255<=lim d.rules x)/\(0<k->0<l.length)) (λ_=>False) (n:=d.rules.length) (λk l hk' ⟨g1,G,H⟩=>.inl (by
   rw [ix_ hk',bd_some]
   by_cases hc:(d.rules[k].kind==1)=true
   .rw [iP_ hc,Y_ (by omega),bd_some,bd_some]
    refine ⟨_,rfl,by simp;omega,λx hx=>?_,λ_=>by simp⟩
    rcases List.mem_append.1 hx with hx | hx
    .exact G x hx
    .rw [List.mem_singleton] at hx;subst hx;exact hint k hk' (by simpa using hc)
   .rw [iN_ hc,bd_some]
    refine ⟨_,rfl,by omega,G,λ_=>?_⟩
    cases k with
    | zero=>exact absurd (by rw [hk];rfl) hc
    | succ k=>exact H (by omega))) d.rules.length 0 [] (by omega) ⟨Nat.le_refl _,λx hx=>(by cases hx),λh=>(by omega)⟩ with ⟨l,e,g1,G,H⟩ | ⟨_,_,hf⟩
 .rw [e,bd_some,el_inl]
  refine (d_u W h1 hb<|H hd).bd λx i h hx Y g1=>⟨_,_,_,rfl,Y,g1,G x hx⟩
 .exact hf.elim
end
def Nms (c:Nat)(l:List Str):Prop:=(List.range l.length).any (b_M l)=false/\∀t∈l,∃p:Str,∃q:Nat,c<q/\q<=3/\t=⟨p.b++Lib.itoa (q:Int)⟩
theorem Nms.snoc {c:Nat}{l:List Str}{s:Str}(hs:s∈pre3)(hc:c+1<=3)(h:Nms (c+1) l):Nms c (l++[⟨s.b++Lib.itoa ((c+1:Nat):Int)⟩]):=by
 obtain ⟨h1,h2⟩:=h
 constructor
 .rw [List.any_eq_false] at h1 ⊢
  intro k hk
  simp only [List.length_append,lC_,List.length_nil,List.mem_range] at hk
  by_cases hlt:k<l.length
  .have:=h1 k<|List.mem_range.2 hlt;unfold b_M at this ⊢
   rw [List.getElem?_append_left hlt]
   rw [List.take_append_of_le_length (by omega)]
   exact this
  .have hke:k=l.length:=by omega
   subst hke;unfold b_M
   rw [List.getElem?_append_right (Nat.le_refl _)]
   simp only [Nat.sub_self,List.getElem?_cons_zero,List.take_left']
   rw [(n_n (q:=c+1) (by omega)).2 s hs]
   simp only [nT_,Bool.false_or,Bool.not_eq_true]
   unfold d_j
   rw [List.any_eq_false]
   intro t ht;obtain ⟨p,q,hq,G,rfl⟩:=h2 t ht;have:=n_o (s:=p) (t:=s) (q:=q) (c:=c+1) (by omega) (by omega) (by omega)
   simpa using this
 .intro t ht
  rcases List.mem_append.1 ht with ht | ht
  .obtain ⟨p,q,hq,G,e⟩:=h2 t ht;exact ⟨p,q,by omega,G,e⟩
  .rw [List.mem_singleton] at ht
   exact ⟨s,c+1,by omega,hc,ht⟩
section
variable {b:Bt}{i h:Int}
theorem r_5 (h0:0<=i)(h1:i<=(b.length:Int))(hb:b.length<=MX){m:Nat}(hm:0<m){n:Nat}(hn:30<=n){x:Int}(aa:1<=x)(a9:x<=3) :
  ∃i' h' l ks,M_ (σ:=Int×Int×Int×(List Str)×(List Int)) (ρ:=b_×Int×Int) (un5 λG H I J L=>if (decide<|0<G) then bd3 (c_D (⟨b,H,I⟩:m_) [(⟨[112]⟩:Str),(⟨[113]⟩:Str),(⟨[114]⟩:Str)]) λO V W=>bd (d_B n G) λY=>bd (cat O Y) λa0=>bd (psh J a0) λa5=>bd3 (a_0 (⟨b,V,W⟩:m_) (m:Int)) λa6 a7 a8=>bd (psh L a6) λx10008=>some (.next (j_ G 1,a7,a8,a5,x10008)) else some (.brk (G,H,I,J,L))) n (x,i,h,([]:List Str),([]:List Int))=some (.inl (0,i',h',l,ks))/\1<=l.length/\l.length<=3/\l.length=ks.length/\(List.range l.length).any (b_M l)=false:=by
 have hLIM:=a_7
 obtain ⟨s,e,hs⟩:=c_4 (σ:=Int×Int×Int×(List Str)×(List Int)) (ρ:=b_×Int×Int) (step:=un5 λG H I J L=>if (decide<|0<G) then bd3 (c_D (⟨b,H,I⟩:m_) [(⟨[112]⟩:Str),(⟨[113]⟩:Str),(⟨[114]⟩:Str)]) λO V W=>bd (d_B n G) λY=>bd (cat O Y) λa0=>bd (psh J a0) λa5=>bd3 (a_0 (⟨b,V,W⟩:m_) (m:Int)) λa6 a7 a8=>bd (psh L a6) λx10008=>some (.next (j_ G 1,a7,a8,a5,x10008)) else some (.brk (G,H,I,J,L)))
  (λs=>0<=s.1/\s.1<=3/\0<=s.2.1/\s.2.1<=(b.length:Int)/\(s.2.2.2.1.length:Int)+s.1<=3/\1<=(s.2.2.2.1.length:Int)+s.1/\s.2.2.2.1.length=s.2.2.2.2.length/\Nms s.1.toNat s.2.2.2.1) (λs=>s.1.toNat)
  (λs=>s.1=0/\1<=s.2.2.2.1.length/\s.2.2.2.1.length<=3/\s.2.2.2.1.length=s.2.2.2.2.length/\(List.range s.2.2.2.1.length).any (b_M s.2.2.2.1)=false)
  (by
   rintro ⟨c,i,h,l,ks⟩ ⟨g0,g1,g2,g3,g4,g5,g6,g7⟩
   simp only at g0 g1 g2 g3 g4 g5 g6 g7
   simp only [un5]
   by_cases hc:0<c
   .left
    rw [dT_ hc,iP_ rfl]
    obtain ⟨s,i1,h1,e1,a1,a2,hs⟩:=h_f (h:=h) (l:=[(⟨[112]⟩:Str),(⟨[113]⟩:Str),(⟨[114]⟩:Str)]) g2 g3 hb (by simp);obtain ⟨q,hq⟩:∃q:Nat,c=q:=⟨c.toNat,by omega⟩;subst hq;have hit:=j_U q (by omega)
    have hsl:s.b.length=1:=by
     simp only [List.mem_cons,List.not_mem_nil,or_false] at hs
     rcases hs with rfl | rfl | rfl <;> rfl
    rw [e1,bd3_some,j_T hn q (by omega),bd_some,i_p (by simp only;omega),bd_some,Y_ (by omega),bd_some]
    obtain ⟨k,i2,h2,e2,a3,a4,hk⟩:=a_i (h:=h1) a1 a2 hb (show (0:Int)<(m:Int) by omega)
    rw [e2,bd3_some,Y_ (by omega),bd_some,a_C (by omega) (by omega)]
    exact ⟨_,rfl,⟨by simp only;omega,by simp only;omega,a3,a4,by simp;omega,by simp;omega,by simp;omega,by
     have:=Nms.snoc (c:=q - 1) (s:=s) hs (by omega) (by simpa [show q - 1+1=q by omega] using g7)
     simpa [show ((q:Int) - 1).toNat=q - 1 by omega,show q - 1+1=q by omega] using this⟩,by simp only;omega⟩
   .right
    rw [dF_ hc]
    exact ⟨_,rfl,by simp only;omega,by simp only;omega,by simp only;omega,g6,g7.1⟩)
  n (x,i,h,[],[]) ⟨by simp only;omega,a9,h0,h1,by simp;omega,by simp;omega,rfl,⟨rfl,λt ht=>(by cases ht)⟩⟩ (by simp only;omega)
 obtain ⟨c,i',h',l,ks⟩:=s;obtain ⟨hc,q1,q2,q3,q4⟩:=hs
 simp only at hc q1 q2 q3 q4
 subst hc;exact ⟨i',h',l,ks,e,q1,q2,q3,q4⟩
theorem r_6 (h0:0<=i)(h1:i<=(b.length:Int))(hb:b.length<=MX){m:Nat}(hm:0<m){n:Nat}(hn:30<=n){x G:Int}(a5:1<=x)(a0:x<=3) :
  ∃i' h' l ks,M_ (σ:=Int×Int×Int×(List Int)×(List Int)) (ρ:=b_×Int×Int) (un5 λx11018 x11020 x11022 x11025 x11033=>if (decide<|0<x11018) then bd3 (a_0 (⟨b,x11020,x11022⟩:m_) 4) λr11221 r11224 r11225=>bd (psh x11025<|h_ (a_5 4 (x11025.length:Int)) r11221) λx11249=>bd3 (a_0 (⟨b,r11224,r11225⟩:m_) (m:Int)) λr11286 r11289 r11290=>bd (psh x11033 r11286) λx11323=>some (.next (j_ x11018 1,r11289,r11290,x11249,x11323)) else some (.brk (x11018,x11020,x11022,x11025,x11033))) n (x,i,h,([]:List Int),[G])=some (.inl (0,i',h',l,ks))/\0<=i'/\i'<=(b.length:Int)/\0<l.length/\l.length<=3/\ks.length=l.length+1/\ks[0]? = some G/\∀t (ht:t<l.length),4 * (t:Int)<=l[t]/\l[t]<4 * (t:Int)+4:=by
 have hLIM:=a_7
 obtain ⟨s,e,hs⟩:=c_4 (σ:=Int×Int×Int×(List Int)×(List Int)) (ρ:=b_×Int×Int) (step:=un5 λx11018 x11020 x11022 x11025 x11033=>if (decide<|0<x11018) then bd3 (a_0 (⟨b,x11020,x11022⟩:m_) 4) λr11221 r11224 r11225=>bd (psh x11025<|h_ (a_5 4 (x11025.length:Int)) r11221) λx11249=>bd3 (a_0 (⟨b,r11224,r11225⟩:m_) (m:Int)) λr11286 r11289 r11290=>bd (psh x11033 r11286) λx11323=>some (.next (j_ x11018 1,r11289,r11290,x11249,x11323)) else some (.brk (x11018,x11020,x11022,x11025,x11033)))
  (λs=>0<=s.1/\s.1<=3/\0<=s.2.1/\s.2.1<=(b.length:Int)/\(s.2.2.2.1.length:Int)+s.1<=3/\1<=(s.2.2.2.1.length:Int)+s.1/\s.2.2.2.2.length=s.2.2.2.1.length+1/\s.2.2.2.2[0]? = some G/\∀t (ht:t<s.2.2.2.1.length),4 * (t:Int)<=s.2.2.2.1[t]/\s.2.2.2.1[t]<4 * (t:Int)+4) (λs=>s.1.toNat)
  (λs=>s.1=0/\0<=s.2.1/\s.2.1<=(b.length:Int)/\0<s.2.2.2.1.length/\s.2.2.2.1.length<=3/\s.2.2.2.2.length=s.2.2.2.1.length+1/\s.2.2.2.2[0]? = some G/\∀t (ht:t<s.2.2.2.1.length),4 * (t:Int)<=s.2.2.2.1[t]/\s.2.2.2.1[t]<4 * (t:Int)+4)
  (by
   rintro ⟨c,i,h,l,ks⟩ ⟨g0,g1,H,I,g4,g5,O,J,L⟩
   simp only at g0 g1 H I g4 g5 O J L
   simp only [un5]
   by_cases hc:0<c
   .left
    rw [dT_ hc,iP_ rfl]
    obtain ⟨s,i1,h1,e1,a1,a2,hs⟩:=a_i (h:=h) (n:=4) H I hb (by omega)
    rw [e1,bd3_some,e_3 (by omega) (by omega),ia_ (by omega) (by omega),Y_ (by omega),bd_some]
    obtain ⟨k,i2,h2,e2,a3,a4,hk⟩:=a_i (h:=h1) a1 a2 hb (show (0:Int)<(m:Int) by omega)
    rw [e2,bd3_some,Y_ (by omega),bd_some,a_C (by omega) (by omega)]
    refine ⟨_,rfl,⟨by simp only;omega,by simp only;omega,a3,a4,by simp;omega,by simp;omega,by simp;omega,(by simp only;rw [List.getElem?_append_left (by omega)];exact J),λt ht=>?_⟩,by simp only;omega⟩
    .simp only [List.length_append,lC_,List.length_nil] at ht
     by_cases hlt:t<l.length
     .have:=L t hlt
      simp only [List.getElem_append_left hlt];exact this
     .have hte:t=l.length:=by omega
      subst hte
      simp;omega
   .right
    rw [dF_ hc]
    exact ⟨_,rfl,by simp only;omega,H,I,by simp only;omega,by simp only;omega,O,J,L⟩)
  n (x,i,h,[],[G]) ⟨by simp only;omega,a0,h0,h1,by simp;omega,by simp;omega,rfl,rfl,λt ht=>(by simp at ht)⟩ (by simp only;omega)
 obtain ⟨c,i',h',l,ks⟩:=s;obtain ⟨hc,V,W,Y,q4,q5,q6,q7⟩:=hs
 simp only at hc V W Y q4 q5 q6 q7
 subst hc;exact ⟨i',h',l,ks,e,V,W,Y,q4,q5,q6,q7⟩
theorem r_7 (r:b_){x:Int}(h:r.kids[0]? = some x):o_ r=x:=by unfold o_;rw [gD_,h];rfl
theorem r_8 {m:Int}{l:List Int}(hm:255<=m)(hl:l.length<=3)(h:∀t (ht:t<l.length),4 * (t:Int)<=l[t]/\l[t]<4 * (t:Int)+4):(List.range l.length).any (c_t m l)=false:=by
 rw [List.any_eq_false]
 intro k hk
 rw [List.mem_range] at hk
 unfold c_t
 rw [gG_ hk]
 have h1:=h k hk
 simp only [Bool.not_eq_true]
 rw [dT_ (show (0:Int)<=l[k] by omega),dT_ (show l[k]<=m by omega)]
 by_cases G:0<k
 .have h2:=h (k - 1) (by omega)
  rw [gD_,gG_ (show k - 1<l.length by omega)]
  rw [dF_ (show ¬l[k]<=(some l[k - 1]).getD 0 by show ¬l[k]<=l[k - 1];omega)]
  simp
 .rw [dF_ (show ¬(0:Int)<(k:Int) by omega)]
  simp
theorem byte10 {y:Int}(h:y∈([0,10,59,255]:List Int)):¬byteI (mkB y)=byteI (92:UInt8):=by
 simp only [List.mem_cons,List.not_mem_nil,or_false] at h
 rcases h with rfl | rfl | rfl | rfl <;> decide
theorem k_X (J:0<=i)(h1:i<=(b.length:Int))(hb:b.length<=MX){n:Nat}(hn:30<=n){d:c_}(hl:d.rules.length<=7){k:Int}(hk:1<=k/\k<=10)
  (hf:k=1∨(0<d.rules.length/\∀h:0<d.rules.length,(d.rules[0]).kind=1)) (hint:∀j (hj:j<d.rules.length),(d.rules[j]).kind=1->255<=lim d.rules (j:Int)):Dr b (c_E n ⟨b,i,h⟩ d k) (λr=>∃s∈pre5,j_N d ⟨s.b++Lib.itoa (d.rules.length:Int)⟩ r):=by
 have hLIM:=a_7;unfold c_E;refine (h_f J h1 hb (by simp)).bd λs i h hs J h1=>?_
 have hsl:s.b.length<=4:=by
  simp only [List.mem_cons,List.not_mem_nil,or_false] at hs
  rcases hs with rfl | rfl | rfl | rfl | rfl <;> decide
 have hit:=j_U d.rules.length (by omega)
 rw [j_T hn d.rules.length (by omega),bd_some,i_p (by simp only;omega),bd_some]
 have hnm:(s.b++Lib.itoa (d.rules.length:Int)).length<=40:=by simp;omega
 refine Dr.mono (P:=j_N d ⟨s.b++Lib.itoa (d.rules.length:Int)⟩) ?_<|λr hr=>⟨s,hs,hr⟩
 clear hit hsl hnm hs
 generalize (⟨s.b++Lib.itoa (d.rules.length:Int)⟩:Str)=nm;have hkk:k=1∨k=2∨k=3∨k=4∨k=5∨k=6∨k=7∨k=8∨k=9∨k=10:=by omega
 have hf':k ≠ 1->0<d.rules.length/\∀h:0<d.rules.length,(d.rules[0]).kind=1:=λh=>hf.resolve_left h
 clear hf
 rcases hkk with rfl | rfl | rfl | rfl | rfl | rfl | rfl | rfl | rfl | rfl
 .rw [iP_ (show ((1:Int)==1)=true by decide)]
  obtain ⟨x,Y,h1',I,L,O,hx⟩:=a_i (h:=h) (n:=3) J h1 hb (by omega)
  rw [I,bd3_some,ia_ (by omega) (by omega)]
  by_cases hc:1<1+x
  .rw [dT_ hc,iP_ rfl]
   obtain ⟨y,W,h2,H,G,g1,_⟩:=e_0 (h:=h1') L O hb 2
   rw [H,bd3_some]
   exact ⟨_,_,_,rfl,G,g1,⟨rfl,by simp [a_2,plain];omega,by simp⟩⟩
  .rw [dF_ hc]
   exact ⟨_,_,_,rfl,L,O,⟨rfl,by simp [a_2,plain];omega,by simp⟩⟩
 .rw [iN_ (show ¬((2:Int)==1)=true by decide),iP_ (show ((2:Int)==2)=true by decide)]
  obtain ⟨x,Y,h1',I,L,O,hx⟩:=a_i (h:=h) (n:=3) J h1 hb (by omega)
  rw [I,bd3_some,ia_ (by omega) (by omega)]
  obtain ⟨l,W,h2,H,G,g1,a2⟩:=i_l (h:=h1') L O hb (n:=1+x) (by omega)
  rw [H,bd3_some]
  exact ⟨_,_,_,rfl,G,g1,⟨rfl,by simp [a_2,plain];omega,by simp⟩⟩
 .rw [iN_ (show ¬((3:Int)==1)=true by decide),iN_ (show ¬((3:Int)==2)=true by decide),iP_ (show ((3:Int)==3)=true by decide)]
  obtain ⟨x,Y,h1',I,G,g1,hx⟩:=a_i (h:=h) (n:=4) J h1 hb (by omega)
  rw [I,bd3_some,ia_ (by omega) (by omega)]
  exact ⟨_,_,_,rfl,G,g1,⟨rfl,by simp [a_2,plain];omega,by simp⟩⟩
 .rw [iN_ (show ¬((4:Int)==1)=true by decide),iN_ (show ¬((4:Int)==2)=true by decide),iN_ (show ¬((4:Int)==3)=true by decide),iP_ (show ((4:Int)==4)=true by decide)]
  obtain ⟨hp,V⟩:=hf' (by decide);obtain ⟨x,Y,h1',I,G,g1,hx⟩:=k_W (h:=h) J h1 hb hp (V hp) (by omega) hint
  rw [I,bd3_some]
  exact ⟨_,_,_,rfl,G,g1,⟨rfl,by simp [a_2,plain,o_];omega,by simp⟩⟩
 .rw [iN_ (show ¬((5:Int)==1)=true by decide),iN_ (show ¬((5:Int)==2)=true by decide),iN_ (show ¬((5:Int)==3)=true by decide),iN_ (show ¬((5:Int)==4)=true by decide),iP_ (show ((5:Int)==5)=true by decide)]
  obtain ⟨hp,V⟩:=hf' (by decide);obtain ⟨x,Y,h1',I,L,O,hx⟩:=k_W (h:=h) J h1 hb hp (V hp) (by omega) hint
  rw [I,bd3_some]
  obtain ⟨y,W,h2,H,G,g1,hy⟩:=a_i (h:=h1') L O hb (show (0:Int)<(d.rules.length:Int) by omega)
  rw [H,bd3_some]
  exact ⟨_,_,_,rfl,G,g1,⟨rfl,by simp [a_2,plain,o_];omega,by simp⟩⟩
 .rw [iN_ (show ¬((6:Int)==1)=true by decide),iN_ (show ¬((6:Int)==2)=true by decide),iN_ (show ¬((6:Int)==3)=true by decide),iN_ (show ¬((6:Int)==4)=true by decide),iN_ (show ¬((6:Int)==5)=true by decide),iP_ (show ((6:Int)==6)=true by decide)]
  obtain ⟨hp,V⟩:=hf' (by decide);obtain ⟨x,Y,h1',I,L,O,hx⟩:=a_i (h:=h) (n:=3) J h1 hb (by omega)
  rw [I,bd3_some,ia_ (by omega) (by omega)]
  obtain ⟨W,h2,l,ks,H,G,g1,_⟩:=n_8 (h:=h1') L O hb hp hn (x:=1+x) (by omega) (by omega);obtain ⟨i2',h2',l',ks',e2',q1,q2,q3,q4⟩:=r_5 (h:=h1') L O hb hp hn (x:=1+x) (by omega) (by omega)
  rw [H] at e2'
  simp only [oI_,Sum.inl.injEq,Prod.mk.injEq,true_and] at e2'
  obtain ⟨rfl,rfl,rfl,rfl⟩:=e2'
  rw [H,bd_some,el_inl]
  exact ⟨_,_,_,rfl,G,g1,⟨rfl,by simp only [a_2,plain,b_W];rw [q4];simp;omega,by simp⟩⟩
 .rw [iN_ (show ¬((7:Int)==1)=true by decide),iN_ (show ¬((7:Int)==2)=true by decide),iN_ (show ¬((7:Int)==3)=true by decide),iN_ (show ¬((7:Int)==4)=true by decide),iN_ (show ¬((7:Int)==5)=true by decide),iN_ (show ¬((7:Int)==6)=true by decide),iP_ (show ((7:Int)==7)=true by decide)]
  obtain ⟨hp,V⟩:=hf' (by decide);obtain ⟨x,Y,h1',I,L,O,hx⟩:=k_W (h:=h) J h1 hb hp (V hp) (by omega) hint
  rw [I,bd3_some]
  obtain ⟨y,W,h2,H,b0,b1,hy⟩:=a_i (h:=h1') (n:=3) L O hb (by omega)
  rw [H,bd3_some,ia_ (by omega) (by omega)]
  obtain ⟨i3,h3,l,ks,e3,G,g1,q1,q2,q3,q4,q5⟩:=r_6 (h:=h2) b0 b1 hb hp hn (x:=1+y) (by omega) (by omega)
  rw [e3,bd_some,el_inl]
  exact ⟨_,_,_,rfl,G,g1,⟨rfl,by simp only [a_2,plain,b_W,r_7 ⟨nm,7,0,false,[],[],l,ks⟩ q4,r_8 hx q2 q5];simp;omega,by simp⟩⟩
 .rw [iN_ (show ¬((8:Int)==1)=true by decide),iN_ (show ¬((8:Int)==2)=true by decide),iN_ (show ¬((8:Int)==3)=true by decide),iN_ (show ¬((8:Int)==4)=true by decide),iN_ (show ¬((8:Int)==5)=true by decide),iN_ (show ¬((8:Int)==6)=true by decide),iN_ (show ¬((8:Int)==7)=true by decide)]
  obtain ⟨hp,V⟩:=hf' (by decide)
  rw [iP_ (show ((8:Int)==8)=true by decide),bd_some,iP_ (show ((8:Int)==8)=true by decide)]
  obtain ⟨y,W,h2,H,G,g1,hy⟩:=a_i (h:=h) J h1 hb (show (0:Int)<(d.rules.length:Int) by omega)
  rw [H,bd3_some]
  exact ⟨_,_,_,rfl,G,g1,⟨rfl,by simp [a_2,plain],by simp⟩⟩
 .rw [iN_ (show ¬((9:Int)==1)=true by decide),iN_ (show ¬((9:Int)==2)=true by decide),iN_ (show ¬((9:Int)==3)=true by decide),iN_ (show ¬((9:Int)==4)=true by decide),iN_ (show ¬((9:Int)==5)=true by decide),iN_ (show ¬((9:Int)==6)=true by decide),iN_ (show ¬((9:Int)==7)=true by decide)]
  obtain ⟨hp,V⟩:=hf' (by decide)
  rw [iN_ (show ¬((9:Int)==8)=true by decide),bd_some,iP_ (show ((9:Int)==9)=true by decide)]
  obtain ⟨y,W,h2,H,G,g1,hy⟩:=a_i (h:=h) J h1 hb (show (0:Int)<(d.rules.length:Int) by omega)
  rw [H,bd3_some]
  exact ⟨_,_,_,rfl,G,g1,⟨rfl,by simp [a_2,plain],by simp⟩⟩
 .rw [iN_ (show ¬((10:Int)==1)=true by decide),iN_ (show ¬((10:Int)==2)=true by decide),iN_ (show ¬((10:Int)==3)=true by decide),iN_ (show ¬((10:Int)==4)=true by decide),iN_ (show ¬((10:Int)==5)=true by decide),iN_ (show ¬((10:Int)==6)=true by decide),iN_ (show ¬((10:Int)==7)=true by decide)]
  rw [iN_ (show ¬((10:Int)==8)=true by decide),bd_some,iN_ (show ¬((10:Int)==9)=true by decide),iP_ (show ((10:Int)==10)=true by decide)]
  obtain ⟨y,W,h2,H,G,g1,hy⟩:=d_u (h:=h) (l:=[0,10,59,255]) J h1 hb (by decide)
  rw [H,bd3_some]
  exact ⟨_,_,_,rfl,G,g1,⟨rfl,by simp [a_2,plain];exact byte10 hy,by simp⟩⟩
end
def d_v (rs:List b_):Prop:=∀j (hj:j<rs.length),∃s∈pre5,j_N ⟨rs.take j⟩ ⟨s.b++Lib.itoa (j:Int)⟩ rs[j]
theorem d_v.snoc {rs:List b_}{r:b_}(h:d_v rs)(hr:∃s∈pre5,j_N ⟨rs⟩ ⟨s.b++Lib.itoa (rs.length:Int)⟩ r):d_v (rs++[r]):=by
 intro j hj
 simp only [List.length_append,lC_,List.length_nil] at hj
 by_cases hlt:j<rs.length
 .have:=h j hlt
  rw [List.take_append_of_le_length (by omega)]
  simp only [List.getElem_append_left hlt]
  exact this
 .have hje:j=rs.length:=by omega
  subst hje
  simp only [List.take_left',List.getElem_concat_length]
  exact hr
theorem n_q {rs rs':List b_}{r:b_}(h:lim rs (o_ r)=lim rs' (o_ r)):a_2 rs r=a_2 rs' r:=by unfold a_2;rw [h]
theorem n_r {rs:List b_}{j:Nat}{k:Int}(G:0<=k)(hk:k<(j:Int)):lim (rs.take j) k=lim rs k:=by
 unfold lim idx
 rw [iP_ G,iP_ G,List.getElem?_take,iP_ (by omega)]
theorem r_9 {d:c_}(hd:DrE d)(hf:d.rules.length<=8)(hg:d_v d.rules):R_ d=true:=by
 unfold R_;have hs:=hd.some_
 rw [dT_ (show (1:Int)<=(d.rules.length:Int) by omega),dT_ (show (d.rules.length:Int)<=24 by omega)]
 simp only [Bool.and_self,Bool.true_and,Bool.not_eq_true']
 rw [List.any_eq_false]
 intro i hi
 rw [List.mem_range] at hi
 simp only [Bool.not_eq_true',Bool.not_eq_false]
 unfold d_2
 rw [gG_ hi]
 simp only
 obtain ⟨s,H,hn,hk,hl⟩:=hg i hi;have hr:=hd.each i hi
 rw [hl,hn,(n_n (q:=i) (by omega)).1 s H]
 have I:(d.rules.take i).any (λx=>x.name.b==(s.b++Lib.itoa (i:Int)))=false:=by
  rw [List.any_eq_false]
  intro x hx;obtain ⟨j,hj,rfl⟩:=List.getElem_of_mem hx
  simp only [List.length_take] at hj
  obtain ⟨t,_,hn',_⟩:=hg j (by omega)
  rw [List.getElem_take,hn']
  have:=n_o (s:=t) (t:=s) (q:=j) (c:=i) (by omega) (by omega) (by omega)
  simpa using this
 have J:d.rules[i].kids.any (c_H i)=false:=by
  rw [List.any_eq_false]
  intro k hk;have:=hr.kids k hk;unfold c_H
  rw [dF_ (by omega),dF_ (by omega)]
  simp
 rw [I,J]
 have L:a_2 d.rules d.rules[i]=true:=by
  by_cases he:d.rules[i].kids=[]
  .have G:o_ d.rules[i]=0:=by unfold o_;rw [he];rfl
   by_cases O:i=0
   .subst O;have h1:=hd.first hs;have hp:=hk;unfold a_2 at hp ⊢
    rw [show (d.rules[0].kind==1)=true by rw [h1];rfl] at hp ⊢
    exact hp
   .rw [← hk];exact n_q (by rw [G];exact (n_r (by omega) (by omega)).symm)
  .obtain ⟨k,ks,hks⟩:=List.exists_cons_of_ne_nil he;have G:o_ d.rules[i]=k:=by unfold o_;rw [hks];rfl
   have:=hr.kids k (by rw [hks];exact mS_)
   rw [← hk];exact n_q (by rw [G];exact (n_r this.1 this.2).symm)
 rw [L]
 simp
section
variable {b:Bt}{i h:Int}
theorem r_a (H:0<=i)(h1:i<=(b.length:Int))(hb:b.length<=MX){n:Nat}(hn:30<=n):Dr b (e_p n ⟨b,i,h⟩) (λd=>DrD d/\d_v d.rules):=by
 have hLIM:=a_7;unfold e_p;refine ((i_m (d:=⟨[]⟩) (k:=1) H h1 hb hn (by simp) ⟨by decide,by decide⟩<|.inl rfl).and (k_X (d:=⟨[]⟩) (k:=1) H h1 hb hn (by simp) ⟨by decide,by decide⟩ (.inl rfl)<|λj hj=>(by simp at hj))).bd λr i h hr H h1=>?_
 obtain ⟨hr,hr'⟩:=hr
 rw [Y_ (by simp;omega),bd_some]
 refine (a_i (n:=6) H h1 hb (by omega)).bd λc i h hc H h1=>?_
 obtain ⟨s,e,hs⟩:=c_4 (σ:=Int×Int×Int×(List b_)) (ρ:=c_×Int×Int) (step:=un4 λI W Y J=>if (decide<|0<I) then bd3 (a_0 (⟨b,W,Y⟩:m_) 10) λa0 a5 a6=>bd3 (c_E n (⟨b,a5,a6⟩:m_) (⟨J⟩:c_)<|h_ 1 a0) λa7 a8 a9=>bd (psh J a7) λaa=>some (.next (j_ I 1,a8,a9,aa)) else some (.brk (I,W,Y,J)))
  (λs=>0<=s.1/\(s.2.2.2.length:Int)+s.1<=6/\0<=s.2.1/\s.2.1<=(b.length:Int)/\DrD ⟨s.2.2.2⟩/\d_v s.2.2.2) (λs=>s.1.toNat) (λs=>0<=s.2.1/\s.2.1<=(b.length:Int)/\DrD ⟨s.2.2.2⟩/\d_v s.2.2.2)
  (by
   rintro ⟨c,i,h,rs⟩ ⟨g0,g1,L,O,G,V⟩
   simp only at g0 g1 L O G V
   simp only [un4]
   by_cases hc:0<c
   .left
    rw [dT_ hc,iP_ rfl]
    obtain ⟨x,i1,h1,e1,a1,a2,hx⟩:=a_i (h:=h) (n:=10) L O hb (by omega)
    rw [e1,bd3_some,ia_ (by omega) (by omega)]
    obtain ⟨q,i2,h2,e2,a3,a4,hq,hq'⟩:=(i_m (h:=h1) a1 a2 hb hn (d:=⟨rs⟩) (k:=1+x) (by have:=G.few;exact Nat.le_trans this (by decide)) (by omega)<|.inr ⟨G.some_,G.first⟩).and (k_X (h:=h1) a1 a2 hb hn (d:=⟨rs⟩) (k:=1+x) (by have:=G.few;exact Nat.le_trans this (by decide)) (by omega) (.inr ⟨G.some_,G.first⟩)<|λj hj h1=>n_p hj h1 ((G.each j hj).size h1).1 ((G.each j hj).size h1).2);have hfew:=G.few
    simp only at hfew
    rw [e2,bd3_some,Y_ (by omega),bd_some,a_C (by omega) (by omega)]
    have hpos:0<rs.length:=G.some_;refine ⟨_,rfl,⟨by simp only;omega,by simp;omega,a3,a4,⟨by simp;omega,by simp,λhh=>?_,λj hj=>?_⟩,V.snoc hq'⟩,by simp only;omega⟩
    .simp only [List.getElem_append_left hpos];exact G.first hpos
    .simp only [List.length_append,lC_,List.length_nil] at hj
     by_cases hlt:j<rs.length
     .simp only [List.getElem_append_left hlt];exact G.each j hlt
     .have hje:j=rs.length:=by omega
      subst hje
      simp only [List.getElem_concat_length];exact hq.2
   .right
    rw [dF_ hc]
    exact ⟨_,rfl,L,O,G,V⟩)
  n (c,i,h,[]++[r]) ⟨hc.1,by simp;omega,H,h1,⟨by simp,by simp,λ_=>(by simpa using hr.1),λj hj=>by
   have:j=0:=by simp at hj;omega
   subst this;exact hr.2⟩,d_v.snoc (rs:=[]) (λj hj=>(by simp at hj)) hr'⟩ (by simp only;omega)
 obtain ⟨c',i',h',rs⟩:=s;obtain ⟨q1,q2,q3,q4⟩:=hs
 rw [e]
 exact ⟨_,_,_,rfl,q1,q2,q3,q4⟩
end
end Go.Vw
