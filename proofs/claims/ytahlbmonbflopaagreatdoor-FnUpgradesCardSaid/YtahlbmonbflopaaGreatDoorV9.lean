
import Derived.Test.YtahlbmonbflopaaGreatDoorV8
namespace Go.Vw
open Go.RowKit Dat
structure DrR (n:Nat)(r:b_):Prop where
 name:r.name.b.length<=40
 kind:1<=r.kind/\r.kind<=10
 size:r.kind=1->1<=r.size/\r.size<=3
 size3:r.kind=3->1<=r.size/\r.size<=4
 kids:∀k∈r.kids,0<=k/\k<(n:Int)
 kidn:r.kids.length<=4
 bytes:r.bytes.length<=3
 names:r.names.length<=3/\∀s∈r.names,s.b.length<=40
 tags:r.tags.length<=3
 k4:r.kind=4->r.kids.length=1
 k5:r.kind=5->r.kids.length=2
 k6:r.kind=6->r.names.length=r.kids.length/\r.kids.length<=3
 k7:r.kind=7->r.kids.length=r.tags.length+1/\0<r.tags.length/\∀t (ht:t<r.tags.length),4 * (t:Int)<=r.tags[t]/\r.tags[t]<4 * (t:Int)+4
 k8:r.kind=8∨r.kind=9->r.kids.length=1
 k10:r.kind=10->r.bytes.length=1
structure DrD (d:c_):Prop where
 few:d.rules.length<=6
 some_:0<d.rules.length
 first:∀h:0<d.rules.length,(d.rules[0]).kind=1
 each:∀i (hi:i<d.rules.length),DrR i d.rules[i]
structure DrE (d:c_):Prop where
 some_:0<d.rules.length
 first:∀h:0<d.rules.length,(d.rules[0]).kind=1
 each:∀i (hi:i<d.rules.length),DrR i d.rules[i]
theorem DrD.e {d:c_}(h:DrD d):DrE d:=⟨h.some_,h.first,h.each⟩
section
variable {b:Bt}{i h:Int}
theorem k_V (W:0<=i)(h1:i<=(b.length:Int))(hb:b.length<=MX){d:c_}(hd:0<d.rules.length)(hk:(d.rules[0]).kind=1)(hl:d.rules.length<=1000) :
  Dr b (d_P ⟨b,i,h⟩ d) (λx=>0<=x/\x<(d.rules.length:Int)):=by
 have hLIM:=a_7;unfold d_P
 rcases c_u (σ:=List Int) (ρ:=Int×Int×Int) (body:=λI=>(λJ=>bd (idx d.rules ((I:Nat):Int)) λL=>bd (α:=List Int) (if (L.kind==1) then bd (psh J ((I:Nat):Int)) λO=>some O else some J)<|λV=>some<|.next V))
  (λk l=>l.length<=k/\(∀x∈l,0<=x/\x<(d.rules.length:Int))/\(0<k->0<l.length)) (λ_=>False) (n:=d.rules.length) (λk l hk' ⟨g1,G,H⟩=>.inl (by
   rw [ix_ hk',bd_some]
   by_cases hc:(d.rules[k].kind==1)=true
   .rw [iP_ hc,Y_ (by omega),bd_some,bd_some]
    refine ⟨_,rfl,by simp;omega,λx hx=>?_,λ_=>by simp⟩
    rcases List.mem_append.1 hx with hx | hx
    .exact G x hx
    .rw [List.mem_singleton] at hx;subst hx;omega
   .rw [iN_ hc,bd_some]
    refine ⟨_,rfl,by omega,G,λ_=>?_⟩
    cases k with
    | zero=>exact absurd (by rw [hk];rfl) hc
    | succ k=>exact H (by omega))) d.rules.length 0 [] (by omega) ⟨Nat.le_refl _,λx hx=>(by cases hx),λh=>(by omega)⟩ with ⟨l,e,g1,G,H⟩ | ⟨_,_,hf⟩
 .rw [e,bd_some,el_inl]
  refine (d_u W h1 hb<|H hd).bd λx i h hx Y g1=>⟨_,_,_,rfl,Y,g1,G x hx⟩
 .exact hf.elim
theorem n_8 (h0:0<=i)(h1:i<=(b.length:Int))(hb:b.length<=MX){m:Nat}(hm:0<m){n:Nat}(hn:30<=n){x:Int}(aa:1<=x)(a9:x<=3) :
  ∃i' h' l ks,M_ (σ:=Int×Int×Int×(List Str)×(List Int)) (ρ:=b_×Int×Int) (un5 λG H I J L=>if (decide<|0<G) then bd3 (c_D (⟨b,H,I⟩:m_) [(⟨[112]⟩:Str),(⟨[113]⟩:Str),(⟨[114]⟩:Str)]) λO V W=>bd (d_B n G) λY=>bd (cat O Y) λa0=>bd (psh J a0) λa5=>bd3 (a_0 (⟨b,V,W⟩:m_) (m:Int)) λa6 a7 a8=>bd (psh L a6) λx10008=>some (.next (j_ G 1,a7,a8,a5,x10008)) else some (.brk (G,H,I,J,L))) n (x,i,h,([]:List Str),([]:List Int))=some (.inl (0,i',h',l,ks))/\0<=i'/\i'<=(b.length:Int)/\l.length<=3/\(∀s∈l,s.b.length<=40)/\l.length=ks.length/\∀k∈ks,0<=k/\k<(m:Int):=by
 have hLIM:=a_7
 obtain ⟨s,e,hs⟩:=c_4 (σ:=Int×Int×Int×(List Str)×(List Int)) (ρ:=b_×Int×Int) (step:=un5 λG H I J L=>if (decide<|0<G) then bd3 (c_D (⟨b,H,I⟩:m_) [(⟨[112]⟩:Str),(⟨[113]⟩:Str),(⟨[114]⟩:Str)]) λO V W=>bd (d_B n G) λY=>bd (cat O Y) λa0=>bd (psh J a0) λa5=>bd3 (a_0 (⟨b,V,W⟩:m_) (m:Int)) λa6 a7 a8=>bd (psh L a6) λx10008=>some (.next (j_ G 1,a7,a8,a5,x10008)) else some (.brk (G,H,I,J,L)))
  (λs=>0<=s.1/\s.1<=3/\0<=s.2.1/\s.2.1<=(b.length:Int)/\(s.2.2.2.1.length:Int)+s.1<=3/\(∀t∈s.2.2.2.1,t.b.length<=40)/\s.2.2.2.1.length=s.2.2.2.2.length/\∀k∈s.2.2.2.2,0<=k/\k<(m:Int)) (λs=>s.1.toNat)
  (λs=>s.1=0/\0<=s.2.1/\s.2.1<=(b.length:Int)/\s.2.2.2.1.length<=3/\(∀t∈s.2.2.2.1,t.b.length<=40)/\s.2.2.2.1.length=s.2.2.2.2.length/\∀k∈s.2.2.2.2,0<=k/\k<(m:Int))
  (by
   rintro ⟨c,i,h,l,ks⟩ ⟨g0,g1,g2,g3,g4,g5,g6,g7⟩
   simp only at g0 g1 g2 g3 g4 g5 g6 g7
   simp only [un5]
   by_cases hc:0<c
   .left
    rw [dT_ hc,iP_ rfl]
    obtain ⟨s,i1,h1,e1,a1,a2,hs⟩:=h_f (h:=h) (l:=[(⟨[112]⟩:Str),(⟨[113]⟩:Str),(⟨[114]⟩:Str)]) g2 g3 hb (by simp);obtain ⟨q,hq⟩:∃q:Nat,c=q:=⟨c.toNat,by omega⟩;subst hq;have hit:=j_U q (by omega)
    have hsl:s.b.length=1:=by
     simp only [List.mem_cons,List.not_mem_nil,or_false] at hs
     rcases hs with rfl | rfl | rfl <;> rfl
    rw [e1,bd3_some,j_T hn q (by omega),bd_some,i_p (by simp only;omega),bd_some,Y_ (by omega),bd_some]
    obtain ⟨k,i2,h2,e2,a3,a4,hk⟩:=a_i (h:=h1) a1 a2 hb (show (0:Int)<(m:Int) by omega)
    rw [e2,bd3_some,Y_ (by omega),bd_some,a_C (by omega) (by omega)]
    refine ⟨_,rfl,⟨by simp only;omega,by simp only;omega,a3,a4,by simp;omega,λt ht=>?_,by simp;omega,λt ht=>?_⟩,by simp only;omega⟩
    .rcases List.mem_append.1 ht with ht | ht
     .exact g5 t ht
     .rw [List.mem_singleton] at ht;subst ht;simp;omega
    .rcases List.mem_append.1 ht with ht | ht
     .exact g7 t ht
     .rw [List.mem_singleton] at ht;subst ht;exact hk
   .right
    rw [dF_ hc]
    exact ⟨_,rfl,by simp only;omega,g2,g3,by simp only;omega,g5,g6,g7⟩)
  n (x,i,h,[],[]) ⟨by simp only;omega,a9,h0,h1,by simp;omega,λt ht=>(by cases ht),rfl,λt ht=>(by cases ht)⟩ (by simp only;omega)
 obtain ⟨c,i',h',l,ks⟩:=s;obtain ⟨hc,q1,q2,q3,q4,q5,q6⟩:=hs
 simp only at hc q1 q2 q3 q4 q5 q6
 subst hc;exact ⟨i',h',l,ks,e,q1,q2,q3,q4,q5,q6⟩
theorem q_Q (h0:0<=i)(h1:i<=(b.length:Int))(hb:b.length<=MX){m:Nat}(hm:0<m){n:Nat}(hn:30<=n){x G:Int}(a6:1<=x)(a0:x<=3)(a5:0<=G/\G<(m:Int)) :
  ∃i' h' l ks,M_ (σ:=Int×Int×Int×(List Int)×(List Int)) (ρ:=b_×Int×Int) (un5 λx11018 x11020 x11022 x11025 x11033=>if (decide<|0<x11018) then bd3 (a_0 (⟨b,x11020,x11022⟩:m_) 4) λr11221 r11224 r11225=>bd (psh x11025<|h_ (a_5 4 (x11025.length:Int)) r11221) λx11249=>bd3 (a_0 (⟨b,r11224,r11225⟩:m_) (m:Int)) λr11286 r11289 r11290=>bd (psh x11033 r11286) λx11323=>some (.next (j_ x11018 1,r11289,r11290,x11249,x11323)) else some (.brk (x11018,x11020,x11022,x11025,x11033))) n (x,i,h,([]:List Int),[G])=some (.inl (0,i',h',l,ks))/\0<=i'/\i'<=(b.length:Int)/\0<l.length/\l.length<=3/\ks.length=l.length+1/\(∀k∈ks,0<=k/\k<(m:Int))/\∀t (ht:t<l.length),4 * (t:Int)<=l[t]/\l[t]<4 * (t:Int)+4:=by
 have hLIM:=a_7
 obtain ⟨s,e,hs⟩:=c_4 (σ:=Int×Int×Int×(List Int)×(List Int)) (ρ:=b_×Int×Int) (step:=un5 λx11018 x11020 x11022 x11025 x11033=>if (decide<|0<x11018) then bd3 (a_0 (⟨b,x11020,x11022⟩:m_) 4) λr11221 r11224 r11225=>bd (psh x11025<|h_ (a_5 4 (x11025.length:Int)) r11221) λx11249=>bd3 (a_0 (⟨b,r11224,r11225⟩:m_) (m:Int)) λr11286 r11289 r11290=>bd (psh x11033 r11286) λx11323=>some (.next (j_ x11018 1,r11289,r11290,x11249,x11323)) else some (.brk (x11018,x11020,x11022,x11025,x11033)))
  (λs=>0<=s.1/\s.1<=3/\0<=s.2.1/\s.2.1<=(b.length:Int)/\(s.2.2.2.1.length:Int)+s.1<=3/\1<=(s.2.2.2.1.length:Int)+s.1/\s.2.2.2.2.length=s.2.2.2.1.length+1/\(∀k∈s.2.2.2.2,0<=k/\k<(m:Int))/\∀t (ht:t<s.2.2.2.1.length),4 * (t:Int)<=s.2.2.2.1[t]/\s.2.2.2.1[t]<4 * (t:Int)+4) (λs=>s.1.toNat)
  (λs=>s.1=0/\0<=s.2.1/\s.2.1<=(b.length:Int)/\0<s.2.2.2.1.length/\s.2.2.2.1.length<=3/\s.2.2.2.2.length=s.2.2.2.1.length+1/\(∀k∈s.2.2.2.2,0<=k/\k<(m:Int))/\∀t (ht:t<s.2.2.2.1.length),4 * (t:Int)<=s.2.2.2.1[t]/\s.2.2.2.1[t]<4 * (t:Int)+4)
  (by
   rintro ⟨c,i,h,l,ks⟩ ⟨g0,g1,H,I,g4,g5,O,J,L⟩
   simp only at g0 g1 H I g4 g5 O J L
   simp only [un5]
   by_cases hc:0<c
   .left
    rw [dT_ hc,iP_ rfl]
    obtain ⟨s,i1,h1,e1,a1,a2,hs⟩:=a_i (h:=h) (n:=4) H I hb (by omega)
    rw [e1,bd3_some,e_3 (by omega) (by omega),ia_ (by omega) (by omega),Y_ (by omega),bd_some]
    obtain ⟨k,i2,h2,e2,a3,a4,hk⟩:=a_i (h:=h1) a1 a2 hb (show (0:Int)<(m:Int) by omega)
    rw [e2,bd3_some,Y_ (by omega),bd_some,a_C (by omega) (by omega)]
    refine ⟨_,rfl,⟨by simp only;omega,by simp only;omega,a3,a4,by simp;omega,by simp;omega,by simp;omega,λt ht=>?_,λt ht=>?_⟩,by simp only;omega⟩
    .rcases List.mem_append.1 ht with ht | ht
     .exact J t ht
     .rw [List.mem_singleton] at ht;subst ht;exact hk
    .simp only [List.length_append,lC_,List.length_nil] at ht
     by_cases hlt:t<l.length
     .have:=L t hlt
      simp only [List.getElem_append_left hlt];exact this
     .have hte:t=l.length:=by omega
      subst hte
      simp;omega
   .right
    rw [dF_ hc]
    exact ⟨_,rfl,by simp only;omega,H,I,by simp only;omega,by simp only;omega,O,J,L⟩)
  n (x,i,h,[],[G]) ⟨by simp only;omega,a0,h0,h1,by simp;omega,by simp;omega,rfl,λt ht=>(by rw [List.mem_singleton] at ht;subst ht;exact a5),λt ht=>(by simp at ht)⟩ (by simp only;omega)
 obtain ⟨c,i',h',l,ks⟩:=s;obtain ⟨hc,V,W,Y,q4,q5,q6,q7⟩:=hs
 simp only at hc V W Y q4 q5 q6 q7
 subst hc;exact ⟨i',h',l,ks,e,V,W,Y,q4,q5,q6,q7⟩
theorem mem2 {p:Int->Prop}{x y:Int}(h:p x)(h':p y):∀k∈[x,y],p k:=λk hk=>by
 simp only [List.mem_cons,List.not_mem_nil,or_false] at hk
 rcases hk with rfl | rfl
 .exact h
 .exact h'
theorem mem1' {p:Int->Prop}{x:Int}(h:p x):∀k∈[x],p k:=λk hk=>by
 rw [List.mem_singleton] at hk;subst hk;exact h
theorem c_9 {α:Type}{p:α->Prop}:∀k∈([]:List α),p k:=λk hk=>by cases hk
theorem i_m (J:0<=i)(h1:i<=(b.length:Int))(hb:b.length<=MX){n:Nat}(hn:30<=n){d:c_}(hl:d.rules.length<=100){k:Int}(hk:1<=k/\k<=10)
  (hf:k=1∨(0<d.rules.length/\∀h:0<d.rules.length,(d.rules[0]).kind=1)):Dr b (c_E n ⟨b,i,h⟩ d k) (λr=>r.kind=k/\DrR d.rules.length r):=by
 have hLIM:=a_7;unfold c_E;refine (h_f J h1 hb (by simp)).bd λs i h hs J h1=>?_
 have hsl:s.b.length<=4:=by
  simp only [List.mem_cons,List.not_mem_nil,or_false] at hs
  rcases hs with rfl | rfl | rfl | rfl | rfl <;> decide
 have hit:=j_U d.rules.length (by omega)
 rw [j_T hn d.rules.length (by omega),bd_some,i_p (by simp only;omega),bd_some]
 have hnm:(s.b++Lib.itoa (d.rules.length:Int)).length<=40:=by simp;omega
 obtain ⟨nm,hnm,hnme⟩:∃nm:Str,nm.b.length<=40/\nm=(⟨s.b++Lib.itoa (d.rules.length:Int)⟩:Str):=⟨_,hnm,rfl⟩
 rw [← hnme]
 clear hnme hit hs hsl
 have hkk:k=1∨k=2∨k=3∨k=4∨k=5∨k=6∨k=7∨k=8∨k=9∨k=10:=by omega
 have hf':k ≠ 1->0<d.rules.length/\∀h:0<d.rules.length,(d.rules[0]).kind=1:=λh=>hf.resolve_left h
 clear hf
 rcases hkk with rfl | rfl | rfl | rfl | rfl | rfl | rfl | rfl | rfl | rfl
 .rw [iP_ (show ((1:Int)==1)=true by decide)]
  obtain ⟨x,Y,h1',I,L,O,hx⟩:=a_i (h:=h) (n:=3) J h1 hb (by omega)
  rw [I,bd3_some,ia_ (by omega) (by omega)]
  by_cases hc:1<1+x
  .rw [dT_ hc,iP_ rfl]
   obtain ⟨y,W,h2,H,G,g1,_⟩:=e_0 (h:=h1') L O hb 2
   rw [H,bd3_some]
   refine ⟨_,_,_,rfl,G,g1,rfl,{ name:=hnm,kind:=⟨(by decide:(1:Int)<=1),(by decide:(1:Int)<=10)⟩,size:=λ_=>⟨by show 1<=1+x;omega,by show 1+x<=3;omega⟩,size3:=λh=>absurd (show (1:Int)=3 from h) (by decide),kids:=c_9,kidn:=Nat.zero_le _,bytes:=Nat.zero_le _,names:=⟨Nat.zero_le _,c_9⟩,tags:=Nat.zero_le _,k4:=λh=>absurd (show (1:Int)=4 from h) (by decide),k5:=λh=>absurd (show (1:Int)=5 from h) (by decide),k6:=λh=>absurd (show (1:Int)=6 from h) (by decide),k7:=λh=>absurd (show (1:Int)=7 from h) (by decide),k8:=λh=>h.elim (λh=>absurd (show (1:Int)=8 from h) (by decide)) (λh=>absurd (show (1:Int)=9 from h) (by decide)),k10:=λh=>absurd (show (1:Int)=10 from h) (by decide) }⟩
  .rw [dF_ hc]
   refine ⟨_,_,_,rfl,L,O,rfl,{ name:=hnm,kind:=⟨(by decide:(1:Int)<=1),(by decide:(1:Int)<=10)⟩,size:=λ_=>⟨by show 1<=1+x;omega,by show 1+x<=3;omega⟩,size3:=λh=>absurd (show (1:Int)=3 from h) (by decide),kids:=c_9,kidn:=Nat.zero_le _,bytes:=Nat.zero_le _,names:=⟨Nat.zero_le _,c_9⟩,tags:=Nat.zero_le _,k4:=λh=>absurd (show (1:Int)=4 from h) (by decide),k5:=λh=>absurd (show (1:Int)=5 from h) (by decide),k6:=λh=>absurd (show (1:Int)=6 from h) (by decide),k7:=λh=>absurd (show (1:Int)=7 from h) (by decide),k8:=λh=>h.elim (λh=>absurd (show (1:Int)=8 from h) (by decide)) (λh=>absurd (show (1:Int)=9 from h) (by decide)),k10:=λh=>absurd (show (1:Int)=10 from h) (by decide) }⟩
 .rw [iN_ (show ¬((2:Int)==1)=true by decide),iP_ (show ((2:Int)==2)=true by decide)]
  obtain ⟨x,Y,h1',I,L,O,hx⟩:=a_i (h:=h) (n:=3) J h1 hb (by omega)
  rw [I,bd3_some,ia_ (by omega) (by omega)]
  obtain ⟨l,W,h2,H,G,g1,a2⟩:=i_l (h:=h1') L O hb (n:=1+x) (by omega)
  rw [H,bd3_some]
  refine ⟨_,_,_,rfl,G,g1,rfl,{ name:=hnm,kind:=⟨(by decide:(1:Int)<=2),(by decide:(2:Int)<=10)⟩,size:=λh=>absurd (show (2:Int)=1 from h) (by decide),size3:=λh=>absurd (show (2:Int)=3 from h) (by decide),kids:=c_9,kidn:=Nat.zero_le _,bytes:=(by show l.length<=3;omega),names:=⟨Nat.zero_le _,c_9⟩,tags:=Nat.zero_le _,k4:=λh=>absurd (show (2:Int)=4 from h) (by decide),k5:=λh=>absurd (show (2:Int)=5 from h) (by decide),k6:=λh=>absurd (show (2:Int)=6 from h) (by decide),k7:=λh=>absurd (show (2:Int)=7 from h) (by decide),k8:=λh=>h.elim (λh=>absurd (show (2:Int)=8 from h) (by decide)) (λh=>absurd (show (2:Int)=9 from h) (by decide)),k10:=λh=>absurd (show (2:Int)=10 from h) (by decide) }⟩
 .rw [iN_ (show ¬((3:Int)==1)=true by decide),iN_ (show ¬((3:Int)==2)=true by decide),iP_ (show ((3:Int)==3)=true by decide)]
  obtain ⟨x,Y,h1',I,G,g1,hx⟩:=a_i (h:=h) (n:=4) J h1 hb (by omega)
  rw [I,bd3_some,ia_ (by omega) (by omega)]
  refine ⟨_,_,_,rfl,G,g1,rfl,{ name:=hnm,kind:=⟨(by decide:(1:Int)<=3),(by decide:(3:Int)<=10)⟩,size:=λh=>absurd (show (3:Int)=1 from h) (by decide),size3:=λ_=>⟨by show 1<=1+x;omega,by show 1+x<=4;omega⟩,kids:=c_9,kidn:=Nat.zero_le _,bytes:=Nat.zero_le _,names:=⟨Nat.zero_le _,c_9⟩,tags:=Nat.zero_le _,k4:=λh=>absurd (show (3:Int)=4 from h) (by decide),k5:=λh=>absurd (show (3:Int)=5 from h) (by decide),k6:=λh=>absurd (show (3:Int)=6 from h) (by decide),k7:=λh=>absurd (show (3:Int)=7 from h) (by decide),k8:=λh=>h.elim (λh=>absurd (show (3:Int)=8 from h) (by decide)) (λh=>absurd (show (3:Int)=9 from h) (by decide)),k10:=λh=>absurd (show (3:Int)=10 from h) (by decide) }⟩
 .rw [iN_ (show ¬((4:Int)==1)=true by decide),iN_ (show ¬((4:Int)==2)=true by decide),iN_ (show ¬((4:Int)==3)=true by decide),iP_ (show ((4:Int)==4)=true by decide)]
  obtain ⟨hp,V⟩:=hf' (by decide);obtain ⟨x,Y,h1',I,G,g1,hx⟩:=k_V (h:=h) J h1 hb hp (V hp) (by omega)
  rw [I,bd3_some]
  refine ⟨_,_,_,rfl,G,g1,rfl,{ name:=hnm,kind:=⟨(by decide:(1:Int)<=4),(by decide:(4:Int)<=10)⟩,size:=λh=>absurd (show (4:Int)=1 from h) (by decide),size3:=λh=>absurd (show (4:Int)=3 from h) (by decide),kids:=mem1' hx,kidn:=(by decide:1<=4),bytes:=Nat.zero_le _,names:=⟨Nat.zero_le _,c_9⟩,tags:=Nat.zero_le _,k4:=λ_=>rfl,k5:=λh=>absurd (show (4:Int)=5 from h) (by decide),k6:=λh=>absurd (show (4:Int)=6 from h) (by decide),k7:=λh=>absurd (show (4:Int)=7 from h) (by decide),k8:=λh=>h.elim (λh=>absurd (show (4:Int)=8 from h) (by decide)) (λh=>absurd (show (4:Int)=9 from h) (by decide)),k10:=λh=>absurd (show (4:Int)=10 from h) (by decide) }⟩
 .rw [iN_ (show ¬((5:Int)==1)=true by decide),iN_ (show ¬((5:Int)==2)=true by decide),iN_ (show ¬((5:Int)==3)=true by decide),iN_ (show ¬((5:Int)==4)=true by decide),iP_ (show ((5:Int)==5)=true by decide)]
  obtain ⟨hp,V⟩:=hf' (by decide);obtain ⟨x,Y,h1',I,L,O,hx⟩:=k_V (h:=h) J h1 hb hp (V hp) (by omega)
  rw [I,bd3_some]
  obtain ⟨y,W,h2,H,G,g1,hy⟩:=a_i (h:=h1') L O hb (show (0:Int)<(d.rules.length:Int) by omega)
  rw [H,bd3_some]
  refine ⟨_,_,_,rfl,G,g1,rfl,{ name:=hnm,kind:=⟨(by decide:(1:Int)<=5),(by decide:(5:Int)<=10)⟩,size:=λh=>absurd (show (5:Int)=1 from h) (by decide),size3:=λh=>absurd (show (5:Int)=3 from h) (by decide),kids:=mem2 hx hy,kidn:=(by decide:2<=4),bytes:=Nat.zero_le _,names:=⟨Nat.zero_le _,c_9⟩,tags:=Nat.zero_le _,k4:=λh=>absurd (show (5:Int)=4 from h) (by decide),k5:=λ_=>rfl,k6:=λh=>absurd (show (5:Int)=6 from h) (by decide),k7:=λh=>absurd (show (5:Int)=7 from h) (by decide),k8:=λh=>h.elim (λh=>absurd (show (5:Int)=8 from h) (by decide)) (λh=>absurd (show (5:Int)=9 from h) (by decide)),k10:=λh=>absurd (show (5:Int)=10 from h) (by decide) }⟩
 .rw [iN_ (show ¬((6:Int)==1)=true by decide),iN_ (show ¬((6:Int)==2)=true by decide),iN_ (show ¬((6:Int)==3)=true by decide),iN_ (show ¬((6:Int)==4)=true by decide),iN_ (show ¬((6:Int)==5)=true by decide),iP_ (show ((6:Int)==6)=true by decide)]
  obtain ⟨hp,V⟩:=hf' (by decide);obtain ⟨x,Y,h1',I,L,O,hx⟩:=a_i (h:=h) (n:=3) J h1 hb (by omega)
  rw [I,bd3_some,ia_ (by omega) (by omega)]
  obtain ⟨W,h2,l,ks,H,G,g1,q1,q2,q3,q4⟩:=n_8 (h:=h1') L O hb hp hn (x:=1+x) (by omega) (by omega)
  rw [H,bd_some,el_inl]
  refine ⟨_,_,_,rfl,G,g1,rfl,{ name:=hnm,kind:=⟨(by decide:(1:Int)<=6),(by decide:(6:Int)<=10)⟩,size:=λh=>absurd (show (6:Int)=1 from h) (by decide),size3:=λh=>absurd (show (6:Int)=3 from h) (by decide),kids:=q4,kidn:=(by show ks.length<=4;omega),bytes:=Nat.zero_le _,names:=⟨q1,q2⟩,tags:=Nat.zero_le _,k4:=λh=>absurd (show (6:Int)=4 from h) (by decide),k5:=λh=>absurd (show (6:Int)=5 from h) (by decide),k6:=λ_=>⟨q3,by show ks.length<=3;omega⟩,k7:=λh=>absurd (show (6:Int)=7 from h) (by decide),k8:=λh=>h.elim (λh=>absurd (show (6:Int)=8 from h) (by decide)) (λh=>absurd (show (6:Int)=9 from h) (by decide)),k10:=λh=>absurd (show (6:Int)=10 from h) (by decide) }⟩
 .rw [iN_ (show ¬((7:Int)==1)=true by decide),iN_ (show ¬((7:Int)==2)=true by decide),iN_ (show ¬((7:Int)==3)=true by decide),iN_ (show ¬((7:Int)==4)=true by decide),iN_ (show ¬((7:Int)==5)=true by decide),iN_ (show ¬((7:Int)==6)=true by decide),iP_ (show ((7:Int)==7)=true by decide)]
  obtain ⟨hp,V⟩:=hf' (by decide);obtain ⟨x,Y,h1',I,L,O,hx⟩:=k_V (h:=h) J h1 hb hp (V hp) (by omega)
  rw [I,bd3_some]
  obtain ⟨y,W,h2,H,b0,b1,hy⟩:=a_i (h:=h1') (n:=3) L O hb (by omega)
  rw [H,bd3_some,ia_ (by omega) (by omega)]
  obtain ⟨i3,h3,l,ks,e3,G,g1,q1,q2,q3,q4,q5⟩:=q_Q (h:=h2) b0 b1 hb hp hn (x:=1+y) (by omega) (by omega) hx
  rw [e3,bd_some,el_inl]
  refine ⟨_,_,_,rfl,G,g1,rfl,{ name:=hnm,kind:=⟨(by decide:(1:Int)<=7),(by decide:(7:Int)<=10)⟩,size:=λh=>absurd (show (7:Int)=1 from h) (by decide),size3:=λh=>absurd (show (7:Int)=3 from h) (by decide),kids:=q4,kidn:=(by show ks.length<=4;omega),bytes:=Nat.zero_le _,names:=⟨Nat.zero_le _,c_9⟩,tags:=q2,k4:=λh=>absurd (show (7:Int)=4 from h) (by decide),k5:=λh=>absurd (show (7:Int)=5 from h) (by decide),k6:=λh=>absurd (show (7:Int)=6 from h) (by decide),k7:=λ_=>⟨q3,q1,q5⟩,k8:=λh=>h.elim (λh=>absurd (show (7:Int)=8 from h) (by decide)) (λh=>absurd (show (7:Int)=9 from h) (by decide)),k10:=λh=>absurd (show (7:Int)=10 from h) (by decide) }⟩
 .rw [iN_ (show ¬((8:Int)==1)=true by decide),iN_ (show ¬((8:Int)==2)=true by decide),iN_ (show ¬((8:Int)==3)=true by decide),iN_ (show ¬((8:Int)==4)=true by decide),iN_ (show ¬((8:Int)==5)=true by decide),iN_ (show ¬((8:Int)==6)=true by decide),iN_ (show ¬((8:Int)==7)=true by decide)]
  obtain ⟨hp,V⟩:=hf' (by decide)
  rw [iP_ (show ((8:Int)==8)=true by decide),bd_some,iP_ (show ((8:Int)==8)=true by decide)]
  obtain ⟨y,W,h2,H,G,g1,hy⟩:=a_i (h:=h) J h1 hb (show (0:Int)<(d.rules.length:Int) by omega)
  rw [H,bd3_some]
  refine ⟨_,_,_,rfl,G,g1,rfl,{ name:=hnm,kind:=⟨(by decide:(1:Int)<=8),(by decide:(8:Int)<=10)⟩,size:=λh=>absurd (show (8:Int)=1 from h) (by decide),size3:=λh=>absurd (show (8:Int)=3 from h) (by decide),kids:=mem1' hy,kidn:=(by decide:1<=4),bytes:=Nat.zero_le _,names:=⟨Nat.zero_le _,c_9⟩,tags:=Nat.zero_le _,k4:=λh=>absurd (show (8:Int)=4 from h) (by decide),k5:=λh=>absurd (show (8:Int)=5 from h) (by decide),k6:=λh=>absurd (show (8:Int)=6 from h) (by decide),k7:=λh=>absurd (show (8:Int)=7 from h) (by decide),k8:=λ_=>rfl,k10:=λh=>absurd (show (8:Int)=10 from h) (by decide) }⟩
 .rw [iN_ (show ¬((9:Int)==1)=true by decide),iN_ (show ¬((9:Int)==2)=true by decide),iN_ (show ¬((9:Int)==3)=true by decide),iN_ (show ¬((9:Int)==4)=true by decide),iN_ (show ¬((9:Int)==5)=true by decide),iN_ (show ¬((9:Int)==6)=true by decide),iN_ (show ¬((9:Int)==7)=true by decide)]
  obtain ⟨hp,V⟩:=hf' (by decide)
  rw [iN_ (show ¬((9:Int)==8)=true by decide),bd_some,iP_ (show ((9:Int)==9)=true by decide)]
  obtain ⟨y,W,h2,H,G,g1,hy⟩:=a_i (h:=h) J h1 hb (show (0:Int)<(d.rules.length:Int) by omega)
  rw [H,bd3_some]
  refine ⟨_,_,_,rfl,G,g1,rfl,{ name:=hnm,kind:=⟨(by decide:(1:Int)<=9),(by decide:(9:Int)<=10)⟩,size:=λh=>absurd (show (9:Int)=1 from h) (by decide),size3:=λh=>absurd (show (9:Int)=3 from h) (by decide),kids:=mem1' hy,kidn:=(by decide:1<=4),bytes:=Nat.zero_le _,names:=⟨Nat.zero_le _,c_9⟩,tags:=Nat.zero_le _,k4:=λh=>absurd (show (9:Int)=4 from h) (by decide),k5:=λh=>absurd (show (9:Int)=5 from h) (by decide),k6:=λh=>absurd (show (9:Int)=6 from h) (by decide),k7:=λh=>absurd (show (9:Int)=7 from h) (by decide),k8:=λ_=>rfl,k10:=λh=>absurd (show (9:Int)=10 from h) (by decide) }⟩
 .rw [iN_ (show ¬((10:Int)==1)=true by decide),iN_ (show ¬((10:Int)==2)=true by decide),iN_ (show ¬((10:Int)==3)=true by decide),iN_ (show ¬((10:Int)==4)=true by decide),iN_ (show ¬((10:Int)==5)=true by decide),iN_ (show ¬((10:Int)==6)=true by decide),iN_ (show ¬((10:Int)==7)=true by decide)]
  rw [iN_ (show ¬((10:Int)==8)=true by decide),bd_some,iN_ (show ¬((10:Int)==9)=true by decide),iP_ (show ((10:Int)==10)=true by decide)]
  obtain ⟨y,W,h2,H,G,g1,hy⟩:=d_u (h:=h) (l:=[0,10,59,255]) J h1 hb (by decide)
  rw [H,bd3_some]
  refine ⟨_,_,_,rfl,G,g1,rfl,{ name:=hnm,kind:=⟨(by decide:(1:Int)<=10),(by decide:(10:Int)<=10)⟩,size:=λh=>absurd (show (10:Int)=1 from h) (by decide),size3:=λh=>absurd (show (10:Int)=3 from h) (by decide),kids:=c_9,kidn:=Nat.zero_le _,bytes:=(by decide:1<=3),names:=⟨Nat.zero_le _,c_9⟩,tags:=Nat.zero_le _,k4:=λh=>absurd (show (10:Int)=4 from h) (by decide),k5:=λh=>absurd (show (10:Int)=5 from h) (by decide),k6:=λh=>absurd (show (10:Int)=6 from h) (by decide),k7:=λh=>absurd (show (10:Int)=7 from h) (by decide),k8:=λh=>h.elim (λh=>absurd (show (10:Int)=8 from h) (by decide)) (λh=>absurd (show (10:Int)=9 from h) (by decide)),k10:=λ_=>rfl }⟩
theorem q_R (H:0<=i)(h1:i<=(b.length:Int))(hb:b.length<=MX){n:Nat}(hn:30<=n):Dr b (e_p n ⟨b,i,h⟩) DrD:=by
 have hLIM:=a_7;unfold e_p;refine (i_m (d:=⟨[]⟩) (k:=1) H h1 hb hn (by simp) ⟨by decide,by decide⟩<|.inl rfl).bd λr i h hr H h1=>?_
 rw [Y_ (by simp;omega),bd_some]
 refine (a_i (n:=6) H h1 hb (by omega)).bd λc i h hc H h1=>?_
 obtain ⟨s,e,hs⟩:=c_4 (σ:=Int×Int×Int×(List b_)) (ρ:=c_×Int×Int) (step:=un4 λI V W J=>if (decide<|0<I) then bd3 (a_0 (⟨b,V,W⟩:m_) 10) λY a0 a5=>bd3 (c_E n (⟨b,a0,a5⟩:m_) (⟨J⟩:c_)<|h_ 1 Y) λa6 a7 a8=>bd (psh J a6) λa9=>some (.next (j_ I 1,a7,a8,a9)) else some (.brk (I,V,W,J)))
  (λs=>0<=s.1/\(s.2.2.2.length:Int)+s.1<=6/\0<=s.2.1/\s.2.1<=(b.length:Int)/\DrD ⟨s.2.2.2⟩) (λs=>s.1.toNat) (λs=>0<=s.2.1/\s.2.1<=(b.length:Int)/\DrD ⟨s.2.2.2⟩)
  (by
   rintro ⟨c,i,h,rs⟩ ⟨g0,g1,L,O,G⟩
   simp only at g0 g1 L O G
   simp only [un4]
   by_cases hc:0<c
   .left
    rw [dT_ hc,iP_ rfl]
    obtain ⟨x,i1,h1,e1,a1,a2,hx⟩:=a_i (h:=h) (n:=10) L O hb (by omega)
    rw [e1,bd3_some,ia_ (by omega) (by omega)]
    obtain ⟨q,i2,h2,e2,a3,a4,hq⟩:=i_m (h:=h1) a1 a2 hb hn (d:=⟨rs⟩) (k:=1+x) (by have:=G.few;exact Nat.le_trans this (by decide)) (by omega)<|.inr ⟨G.some_,G.first⟩;have hfew:=G.few
    simp only at hfew
    rw [e2,bd3_some,Y_ (by omega),bd_some,a_C (by omega) (by omega)]
    have hpos:0<rs.length:=G.some_;refine ⟨_,rfl,⟨by simp only;omega,by simp;omega,a3,a4,⟨by simp;omega,by simp,λhh=>?_,λj hj=>?_⟩⟩,by simp only;omega⟩
    .simp only [List.getElem_append_left hpos];exact G.first hpos
    .simp only [List.length_append,lC_,List.length_nil] at hj
     by_cases hlt:j<rs.length
     .simp only [List.getElem_append_left hlt];exact G.each j hlt
     .have hje:j=rs.length:=by omega
      subst hje
      simp only [List.getElem_concat_length];exact hq.2
   .right
    rw [dF_ hc]
    exact ⟨_,rfl,L,O,G⟩)
  n (c,i,h,[]++[r]) ⟨hc.1,by simp;omega,H,h1,⟨by simp,by simp,λ_=>(by simpa using hr.1),λj hj=>by
   have:j=0:=by simp at hj;omega
   subst this;exact hr.2⟩⟩ (by simp only;omega)
 obtain ⟨c',i',h',rs⟩:=s;obtain ⟨q1,q2,q3⟩:=hs
 rw [e]
 exact ⟨_,_,_,rfl,q1,q2,q3⟩
end
end Go.Vw
