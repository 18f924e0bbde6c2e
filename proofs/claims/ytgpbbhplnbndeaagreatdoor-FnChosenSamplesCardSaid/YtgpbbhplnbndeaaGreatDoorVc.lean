
import Derived.Test.YtgpbbhplnbndeaaGreatDoorVb
namespace Go.Vw
open Go.RowKit Dat
structure DrR (n:Nat)(r:c_):Prop where
 name:r.name.b.length<=40
 kind:1<=r.kind/\r.kind<=10
 size:r.kind=1->1<=r.size/\r.size<=3
 size3:r.kind=3->1<=r.size/\r.size<=4
 kids:∀k∈r.kids,0<=k/\k<(n:Int)
 kidn:r.kids.length<=4
 bytes:r.bytes.length<=3
 names:r.names.length<=3/\∀s∈r.names,s.b.length<=40
 tags:r.tags.length<=3
 k4:r.kind=4->r.kids.length=1
 k5:r.kind=5->r.kids.length=2
 k6:r.kind=6->r.names.length=r.kids.length/\r.kids.length<=3
 k7:r.kind=7->r.kids.length=r.tags.length+1/\0<r.tags.length/\∀t (ht:t<r.tags.length),4 * (t:Int)<=r.tags[t]/\r.tags[t]<4 * (t:Int)+4
 k8:r.kind=8∨r.kind=9->r.kids.length=1
 k10:r.kind=10->r.bytes.length=1
structure DrD (d:b_):Prop where
 few:d.rules.length<=6
 some_:0<d.rules.length
 first:∀h:0<d.rules.length,(d.rules[0]).kind=1
 each:∀i (hi:i<d.rules.length),DrR i d.rules[i]
structure DrE (d:b_):Prop where
 some_:0<d.rules.length
 first:∀h:0<d.rules.length,(d.rules[0]).kind=1
 each:∀i (hi:i<d.rules.length),DrR i d.rules[i]
theorem DrD.e {d:b_}(h:DrD d):DrE d:=⟨h.some_,h.first,h.each⟩
section
variable {b:Bt}{i h:Int}
theorem k_U (O:0<=i)(h1:i<=(b.length:Int))(hb:b.length<=MX){d:b_}(hd:0<d.rules.length)(hk:(d.rules[0]).kind=1)(hl:d.rules.length<=1000) :
  Dr b (d_n ⟨b,i,h⟩ d) (λx=>0<=x/\x<(d.rules.length:Int)):=by
 have hLIM:=a_9;unfold d_n
 rcases c_e (σ:=List Int) (ρ:=Int×Int×Int) (body:=λG=>(λH=>bd (idx d.rules ((G:Nat):Int)) λI=>bd (α:=List Int) (if (I.kind==1) then bd (psh H ((G:Nat):Int)) λJ=>some J else some H)<|λL=>some<|.next L))
  (λk l=>l.length<=k/\(∀x∈l,0<=x/\x<(d.rules.length:Int))/\(0<k->0<l.length)) (λ_=>False) (n:=d.rules.length) (λk l hk' ⟨g1,g2,g3⟩=>.inl (by
   rw [ix_ hk',bd_some]
   by_cases hc:(d.rules[k].kind==1)=true
   .rw [iP_ hc,a_d (by omega),bd_some,bd_some]
    refine ⟨_,rfl,by simp;omega,λx hx=>?_,λ_=>by simp⟩
    rcases List.mem_append.1 hx with hx | hx
    .exact g2 x hx
    .rw [List.mem_singleton] at hx;subst hx;omega
   .rw [iN_ hc,bd_some]
    refine ⟨_,rfl,by omega,g2,λ_=>?_⟩
    cases k with
    | zero=>exact absurd (by rw [hk];rfl) hc
    | succ k=>exact g3 (by omega))) d.rules.length 0 [] (by omega) ⟨Nat.le_refl _,λx hx=>(by cases hx),λh=>(by omega)⟩ with ⟨l,e,g1,g2,g3⟩ | ⟨_,_,hf⟩
 .rw [e,bd_some,el_inl]
  refine (j_p O h1 hb<|g3 hd).bd λx i h hx V g1=>⟨_,_,_,rfl,V,g1,g2 x hx⟩
 .exact hf.elim
theorem m_I (h0:0<=i)(h1:i<=(b.length:Int))(hb:b.length<=MX){m:Nat}(hm:0<m){n:Nat}(hn:30<=n){x:Int}(aa:1<=x)(a9:x<=3) :
  ∃i' h' l ks,G_ (σ:=Int×Int×Int×(List Str)×(List Int)) (ρ:=c_×Int×Int) (un5 λG H I J L=>if (decide<|0<G) then bd3 (c_Y (⟨b,H,I⟩:E_) [(⟨[112]⟩:Str),(⟨[113]⟩:Str),(⟨[114]⟩:Str)]) λO V W=>bd (c_Q n G) λY=>bd (cat O Y) λa0=>bd (psh J a0) λa5=>bd3 (a_t (⟨b,V,W⟩:E_) (m:Int)) λa6 a7 a8=>bd (psh L a6) λx10008=>some (.next (k_ G 1,a7,a8,a5,x10008)) else some (.brk (G,H,I,J,L))) n (x,i,h,([]:List Str),([]:List Int))=some (.inl (0,i',h',l,ks))/\0<=i'/\i'<=(b.length:Int)/\l.length<=3/\(∀s∈l,s.b.length<=40)/\l.length=ks.length/\∀k∈ks,0<=k/\k<(m:Int):=by
 have hLIM:=a_9
 obtain ⟨s,e,hs⟩:=e_a (σ:=Int×Int×Int×(List Str)×(List Int)) (ρ:=c_×Int×Int) (step:=un5 λG H I J L=>if (decide<|0<G) then bd3 (c_Y (⟨b,H,I⟩:E_) [(⟨[112]⟩:Str),(⟨[113]⟩:Str),(⟨[114]⟩:Str)]) λO V W=>bd (c_Q n G) λY=>bd (cat O Y) λa0=>bd (psh J a0) λa5=>bd3 (a_t (⟨b,V,W⟩:E_) (m:Int)) λa6 a7 a8=>bd (psh L a6) λx10008=>some (.next (k_ G 1,a7,a8,a5,x10008)) else some (.brk (G,H,I,J,L)))
  (λs=>0<=s.1/\s.1<=3/\0<=s.2.1/\s.2.1<=(b.length:Int)/\(s.2.2.2.1.length:Int)+s.1<=3/\(∀t∈s.2.2.2.1,t.b.length<=40)/\s.2.2.2.1.length=s.2.2.2.2.length/\∀k∈s.2.2.2.2,0<=k/\k<(m:Int)) (λs=>s.1.toNat)
  (λs=>s.1=0/\0<=s.2.1/\s.2.1<=(b.length:Int)/\s.2.2.2.1.length<=3/\(∀t∈s.2.2.2.1,t.b.length<=40)/\s.2.2.2.1.length=s.2.2.2.2.length/\∀k∈s.2.2.2.2,0<=k/\k<(m:Int))
  (by
   rintro ⟨c,i,h,l,ks⟩ ⟨g0,g1,g2,g3,g4,g5,g6,g7⟩
   simp only at g0 g1 g2 g3 g4 g5 g6 g7
   simp only [un5]
   by_cases hc:0<c
   .left
    rw [dT_ hc,iP_ rfl]
    obtain ⟨s,i1,h1,e1,a1,a2,hs⟩:=j_o (h:=h) (l:=[(⟨[112]⟩:Str),(⟨[113]⟩:Str),(⟨[114]⟩:Str)]) g2 g3 hb (by simp);obtain ⟨q,hq⟩:∃q:Nat,c=q:=⟨c.toNat,by omega⟩;subst hq;have hit:=h_v q (by omega)
    have hsl:s.b.length=1:=by
     simp only [List.mem_cons,List.not_mem_nil,or_false] at hs
     rcases hs with rfl | rfl | rfl <;> rfl
    rw [e1,bd3_some,h_u hn q (by omega),bd_some,d_H (by simp only;omega),bd_some,a_d (by omega),bd_some]
    obtain ⟨k,i2,h2,e2,a3,a4,hk⟩:=a_K (h:=h1) a1 a2 hb (show (0:Int)<(m:Int) by omega)
    rw [e2,bd3_some,a_d (by omega),bd_some,a_V (by omega) (by omega)]
    refine ⟨_,rfl,⟨by simp only;omega,by simp only;omega,a3,a4,by simp;omega,λt ht=>?_,by simp;omega,λt ht=>?_⟩,by simp only;omega⟩
    .rcases List.mem_append.1 ht with ht | ht
     .exact g5 t ht
     .rw [List.mem_singleton] at ht;subst ht;simp;omega
    .rcases List.mem_append.1 ht with ht | ht
     .exact g7 t ht
     .rw [List.mem_singleton] at ht;subst ht;exact hk
   .right
    rw [dF_ hc]
    exact ⟨_,rfl,by simp only;omega,g2,g3,by simp only;omega,g5,g6,g7⟩)
  n (x,i,h,[],[]) ⟨by simp only;omega,a9,h0,h1,by simp;omega,λt ht=>(by cases ht),rfl,λt ht=>(by cases ht)⟩ (by simp only;omega)
 obtain ⟨c,i',h',l,ks⟩:=s;obtain ⟨hc,q1,q2,q3,q4,q5,q6⟩:=hs
 simp only at hc q1 q2 q3 q4 q5 q6
 subst hc;exact ⟨i',h',l,ks,e,q1,q2,q3,q4,q5,q6⟩
theorem q_J (h0:0<=i)(h1:i<=(b.length:Int))(hb:b.length<=MX){m:Nat}(hm:0<m){n:Nat}(hn:30<=n){x G:Int}(a6:1<=x)(a0:x<=3)(a5:0<=G/\G<(m:Int)) :
  ∃i' h' l ks,G_ (σ:=Int×Int×Int×(List Int)×(List Int)) (ρ:=c_×Int×Int) (un5 λx11018 x11020 x11022 x11025 x11033=>if (decide<|0<x11018) then bd3 (a_t (⟨b,x11020,x11022⟩:E_) 4) λr11221 r11224 r11225=>bd (psh x11025<|d_ (L_ 4 (x11025.length:Int)) r11221) λx11249=>bd3 (a_t (⟨b,r11224,r11225⟩:E_) (m:Int)) λr11286 r11289 r11290=>bd (psh x11033 r11286) λx11323=>some (.next (k_ x11018 1,r11289,r11290,x11249,x11323)) else some (.brk (x11018,x11020,x11022,x11025,x11033))) n (x,i,h,([]:List Int),[G])=some (.inl (0,i',h',l,ks))/\0<=i'/\i'<=(b.length:Int)/\0<l.length/\l.length<=3/\ks.length=l.length+1/\(∀k∈ks,0<=k/\k<(m:Int))/\∀t (ht:t<l.length),4 * (t:Int)<=l[t]/\l[t]<4 * (t:Int)+4:=by
 have hLIM:=a_9
 obtain ⟨s,e,hs⟩:=e_a (σ:=Int×Int×Int×(List Int)×(List Int)) (ρ:=c_×Int×Int) (step:=un5 λx11018 x11020 x11022 x11025 x11033=>if (decide<|0<x11018) then bd3 (a_t (⟨b,x11020,x11022⟩:E_) 4) λr11221 r11224 r11225=>bd (psh x11025<|d_ (L_ 4 (x11025.length:Int)) r11221) λx11249=>bd3 (a_t (⟨b,r11224,r11225⟩:E_) (m:Int)) λr11286 r11289 r11290=>bd (psh x11033 r11286) λx11323=>some (.next (k_ x11018 1,r11289,r11290,x11249,x11323)) else some (.brk (x11018,x11020,x11022,x11025,x11033)))
  (λs=>0<=s.1/\s.1<=3/\0<=s.2.1/\s.2.1<=(b.length:Int)/\(s.2.2.2.1.length:Int)+s.1<=3/\1<=(s.2.2.2.1.length:Int)+s.1/\s.2.2.2.2.length=s.2.2.2.1.length+1/\(∀k∈s.2.2.2.2,0<=k/\k<(m:Int))/\∀t (ht:t<s.2.2.2.1.length),4 * (t:Int)<=s.2.2.2.1[t]/\s.2.2.2.1[t]<4 * (t:Int)+4) (λs=>s.1.toNat)
  (λs=>s.1=0/\0<=s.2.1/\s.2.1<=(b.length:Int)/\0<s.2.2.2.1.length/\s.2.2.2.1.length<=3/\s.2.2.2.2.length=s.2.2.2.1.length+1/\(∀k∈s.2.2.2.2,0<=k/\k<(m:Int))/\∀t (ht:t<s.2.2.2.1.length),4 * (t:Int)<=s.2.2.2.1[t]/\s.2.2.2.1[t]<4 * (t:Int)+4)
  (by
   rintro ⟨c,i,h,l,ks⟩ ⟨g0,g1,g2,g3,g4,g5,J,H,I⟩
   simp only at g0 g1 g2 g3 g4 g5 J H I
   simp only [un5]
   by_cases hc:0<c
   .left
    rw [dT_ hc,iP_ rfl]
    obtain ⟨s,i1,h1,e1,a1,a2,hs⟩:=a_K (h:=h) (n:=4) g2 g3 hb (by omega)
    rw [e1,bd3_some,d_G (by omega) (by omega),ia_ (by omega) (by omega),a_d (by omega),bd_some]
    obtain ⟨k,i2,h2,e2,a3,a4,hk⟩:=a_K (h:=h1) a1 a2 hb (show (0:Int)<(m:Int) by omega)
    rw [e2,bd3_some,a_d (by omega),bd_some,a_V (by omega) (by omega)]
    refine ⟨_,rfl,⟨by simp only;omega,by simp only;omega,a3,a4,by simp;omega,by simp;omega,by simp;omega,λt ht=>?_,λt ht=>?_⟩,by simp only;omega⟩
    .rcases List.mem_append.1 ht with ht | ht
     .exact H t ht
     .rw [List.mem_singleton] at ht;subst ht;exact hk
    .simp only [List.length_append,lC_,List.length_nil] at ht
     by_cases hlt:t<l.length
     .have:=I t hlt
      simp only [List.getElem_append_left hlt];exact this
     .have hte:t=l.length:=by omega
      subst hte
      simp;omega
   .right
    rw [dF_ hc]
    exact ⟨_,rfl,by simp only;omega,g2,g3,by simp only;omega,by simp only;omega,J,H,I⟩)
  n (x,i,h,[],[G]) ⟨by simp only;omega,a0,h0,h1,by simp;omega,by simp;omega,rfl,λt ht=>(by rw [List.mem_singleton] at ht;subst ht;exact a5),λt ht=>(by simp at ht)⟩ (by simp only;omega)
 obtain ⟨c,i',h',l,ks⟩:=s;obtain ⟨hc,L,O,V,W,Y,q6,q7⟩:=hs
 simp only at hc L O V W Y q6 q7
 subst hc;exact ⟨i',h',l,ks,e,L,O,V,W,Y,q6,q7⟩
theorem mem2 {p:Int->Prop}{x y:Int}(h:p x)(h':p y):∀k∈[x,y],p k:=λk hk=>by
 simp only [List.mem_cons,List.not_mem_nil,or_false] at hk
 rcases hk with rfl | rfl
 .exact h
 .exact h'
theorem mem1' {p:Int->Prop}{x:Int}(h:p x):∀k∈[x],p k:=λk hk=>by
 rw [List.mem_singleton] at hk;subst hk;exact h
theorem b_W {α:Type}{p:α->Prop}:∀k∈([]:List α),p k:=λk hk=>by cases hk
theorem m_J (J:0<=i)(h1:i<=(b.length:Int))(hb:b.length<=MX){n:Nat}(hn:30<=n){d:b_}(hl:d.rules.length<=100){k:Int}(hk:1<=k/\k<=10)
  (hf:k=1∨(0<d.rules.length/\∀h:0<d.rules.length,(d.rules[0]).kind=1)):Dr b (d_o n ⟨b,i,h⟩ d k) (λr=>r.kind=k/\DrR d.rules.length r):=by
 have hLIM:=a_9;unfold d_o;refine (j_o J h1 hb (by simp)).bd λs i h hs J h1=>?_
 have hsl:s.b.length<=4:=by
  simp only [List.mem_cons,List.not_mem_nil,or_false] at hs
  rcases hs with rfl | rfl | rfl | rfl | rfl <;> decide
 have hit:=h_v d.rules.length (by omega)
 rw [h_u hn d.rules.length (by omega),bd_some,d_H (by simp only;omega),bd_some]
 have hnm:(s.b++Lib.itoa (d.rules.length:Int)).length<=40:=by simp;omega
 obtain ⟨nm,hnm,hnme⟩:∃nm:Str,nm.b.length<=40/\nm=(⟨s.b++Lib.itoa (d.rules.length:Int)⟩:Str):=⟨_,hnm,rfl⟩
 rw [← hnme]
 clear hnme hit hs hsl
 have hkk:k=1∨k=2∨k=3∨k=4∨k=5∨k=6∨k=7∨k=8∨k=9∨k=10:=by omega
 have hf':k ≠ 1->0<d.rules.length/\∀h:0<d.rules.length,(d.rules[0]).kind=1:=λh=>hf.resolve_left h
 clear hf
 rcases hkk with rfl | rfl | rfl | rfl | rfl | rfl | rfl | rfl | rfl | rfl
 .rw [iP_ (show ((1:Int)==1)=true by decide)]
  obtain ⟨x,Y,h1',I,L,O,hx⟩:=a_K (h:=h) (n:=3) J h1 hb (by omega)
  rw [I,bd3_some,ia_ (by omega) (by omega)]
  by_cases hc:1<1+x
  .rw [dT_ hc,iP_ rfl]
   obtain ⟨y,W,h2,H,G,g1,_⟩:=m_G (h:=h1') L O hb 2
   rw [H,bd3_some]
   refine ⟨_,_,_,rfl,G,g1,rfl,{ name:=hnm,kind:=⟨(by decide:(1:Int)<=1),(by decide:(1:Int)<=10)⟩,size:=λ_=>⟨by show 1<=1+x;omega,by show 1+x<=3;omega⟩,size3:=λh=>absurd (show (1:Int)=3 from h) (by decide),kids:=b_W,kidn:=Nat.zero_le _,bytes:=Nat.zero_le _,names:=⟨Nat.zero_le _,b_W⟩,tags:=Nat.zero_le _,k4:=λh=>absurd (show (1:Int)=4 from h) (by decide),k5:=λh=>absurd (show (1:Int)=5 from h) (by decide),k6:=λh=>absurd (show (1:Int)=6 from h) (by decide),k7:=λh=>absurd (show (1:Int)=7 from h) (by decide),k8:=λh=>h.elim (λh=>absurd (show (1:Int)=8 from h) (by decide)) (λh=>absurd (show (1:Int)=9 from h) (by decide)),k10:=λh=>absurd (show (1:Int)=10 from h) (by decide) }⟩
  .rw [dF_ hc]
   refine ⟨_,_,_,rfl,L,O,rfl,{ name:=hnm,kind:=⟨(by decide:(1:Int)<=1),(by decide:(1:Int)<=10)⟩,size:=λ_=>⟨by show 1<=1+x;omega,by show 1+x<=3;omega⟩,size3:=λh=>absurd (show (1:Int)=3 from h) (by decide),kids:=b_W,kidn:=Nat.zero_le _,bytes:=Nat.zero_le _,names:=⟨Nat.zero_le _,b_W⟩,tags:=Nat.zero_le _,k4:=λh=>absurd (show (1:Int)=4 from h) (by decide),k5:=λh=>absurd (show (1:Int)=5 from h) (by decide),k6:=λh=>absurd (show (1:Int)=6 from h) (by decide),k7:=λh=>absurd (show (1:Int)=7 from h) (by decide),k8:=λh=>h.elim (λh=>absurd (show (1:Int)=8 from h) (by decide)) (λh=>absurd (show (1:Int)=9 from h) (by decide)),k10:=λh=>absurd (show (1:Int)=10 from h) (by decide) }⟩
 .rw [iN_ (show ¬((2:Int)==1)=true by decide),iP_ (show ((2:Int)==2)=true by decide)]
  obtain ⟨x,Y,h1',I,L,O,hx⟩:=a_K (h:=h) (n:=3) J h1 hb (by omega)
  rw [I,bd3_some,ia_ (by omega) (by omega)]
  obtain ⟨l,W,h2,H,G,g1,a2⟩:=m_H (h:=h1') L O hb (n:=1+x) (by omega)
  rw [H,bd3_some]
  refine ⟨_,_,_,rfl,G,g1,rfl,{ name:=hnm,kind:=⟨(by decide:(1:Int)<=2),(by decide:(2:Int)<=10)⟩,size:=λh=>absurd (show (2:Int)=1 from h) (by decide),size3:=λh=>absurd (show (2:Int)=3 from h) (by decide),kids:=b_W,kidn:=Nat.zero_le _,bytes:=(by show l.length<=3;omega),names:=⟨Nat.zero_le _,b_W⟩,tags:=Nat.zero_le _,k4:=λh=>absurd (show (2:Int)=4 from h) (by decide),k5:=λh=>absurd (show (2:Int)=5 from h) (by decide),k6:=λh=>absurd (show (2:Int)=6 from h) (by decide),k7:=λh=>absurd (show (2:Int)=7 from h) (by decide),k8:=λh=>h.elim (λh=>absurd (show (2:Int)=8 from h) (by decide)) (λh=>absurd (show (2:Int)=9 from h) (by decide)),k10:=λh=>absurd (show (2:Int)=10 from h) (by decide) }⟩
 .rw [iN_ (show ¬((3:Int)==1)=true by decide),iN_ (show ¬((3:Int)==2)=true by decide),iP_ (show ((3:Int)==3)=true by decide)]
  obtain ⟨x,Y,h1',I,G,g1,hx⟩:=a_K (h:=h) (n:=4) J h1 hb (by omega)
  rw [I,bd3_some,ia_ (by omega) (by omega)]
  refine ⟨_,_,_,rfl,G,g1,rfl,{ name:=hnm,kind:=⟨(by decide:(1:Int)<=3),(by decide:(3:Int)<=10)⟩,size:=λh=>absurd (show (3:Int)=1 from h) (by decide),size3:=λ_=>⟨by show 1<=1+x;omega,by show 1+x<=4;omega⟩,kids:=b_W,kidn:=Nat.zero_le _,bytes:=Nat.zero_le _,names:=⟨Nat.zero_le _,b_W⟩,tags:=Nat.zero_le _,k4:=λh=>absurd (show (3:Int)=4 from h) (by decide),k5:=λh=>absurd (show (3:Int)=5 from h) (by decide),k6:=λh=>absurd (show (3:Int)=6 from h) (by decide),k7:=λh=>absurd (show (3:Int)=7 from h) (by decide),k8:=λh=>h.elim (λh=>absurd (show (3:Int)=8 from h) (by decide)) (λh=>absurd (show (3:Int)=9 from h) (by decide)),k10:=λh=>absurd (show (3:Int)=10 from h) (by decide) }⟩
 .rw [iN_ (show ¬((4:Int)==1)=true by decide),iN_ (show ¬((4:Int)==2)=true by decide),iN_ (show ¬((4:Int)==3)=true by decide),iP_ (show ((4:Int)==4)=true by decide)]
  obtain ⟨hp,V⟩:=hf' (by decide);obtain ⟨x,Y,h1',I,G,g1,hx⟩:=k_U (h:=h) J h1 hb hp (V hp) (by omega)
  rw [I,bd3_some]
  refine ⟨_,_,_,rfl,G,g1,rfl,{ name:=hnm,kind:=⟨(by decide:(1:Int)<=4),(by decide:(4:Int)<=10)⟩,size:=λh=>absurd (show (4:Int)=1 from h) (by decide),size3:=λh=>absurd (show (4:Int)=3 from h) (by decide),kids:=mem1' hx,kidn:=(by decide:1<=4),bytes:=Nat.zero_le _,names:=⟨Nat.zero_le _,b_W⟩,tags:=Nat.zero_le _,k4:=λ_=>rfl,k5:=λh=>absurd (show (4:Int)=5 from h) (by decide),k6:=λh=>absurd (show (4:Int)=6 from h) (by decide),k7:=λh=>absurd (show (4:Int)=7 from h) (by decide),k8:=λh=>h.elim (λh=>absurd (show (4:Int)=8 from h) (by decide)) (λh=>absurd (show (4:Int)=9 from h) (by decide)),k10:=λh=>absurd (show (4:Int)=10 from h) (by decide) }⟩
 .rw [iN_ (show ¬((5:Int)==1)=true by decide),iN_ (show ¬((5:Int)==2)=true by decide),iN_ (show ¬((5:Int)==3)=true by decide),iN_ (show ¬((5:Int)==4)=true by decide),iP_ (show ((5:Int)==5)=true by decide)]
  obtain ⟨hp,V⟩:=hf' (by decide);obtain ⟨x,Y,h1',I,L,O,hx⟩:=k_U (h:=h) J h1 hb hp (V hp) (by omega)
  rw [I,bd3_some]
  obtain ⟨y,W,h2,H,G,g1,hy⟩:=a_K (h:=h1') L O hb (show (0:Int)<(d.rules.length:Int) by omega)
  rw [H,bd3_some]
  refine ⟨_,_,_,rfl,G,g1,rfl,{ name:=hnm,kind:=⟨(by decide:(1:Int)<=5),(by decide:(5:Int)<=10)⟩,size:=λh=>absurd (show (5:Int)=1 from h) (by decide),size3:=λh=>absurd (show (5:Int)=3 from h) (by decide),kids:=mem2 hx hy,kidn:=(by decide:2<=4),bytes:=Nat.zero_le _,names:=⟨Nat.zero_le _,b_W⟩,tags:=Nat.zero_le _,k4:=λh=>absurd (show (5:Int)=4 from h) (by decide),k5:=λ_=>rfl,k6:=λh=>absurd (show (5:Int)=6 from h) (by decide),k7:=λh=>absurd (show (5:Int)=7 from h) (by decide),k8:=λh=>h.elim (λh=>absurd (show (5:Int)=8 from h) (by decide)) (λh=>absurd (show (5:Int)=9 from h) (by decide)),k10:=λh=>absurd (show (5:Int)=10 from h) (by decide) }⟩
 .rw [iN_ (show ¬((6:Int)==1)=true by decide),iN_ (show ¬((6:Int)==2)=true by decide),iN_ (show ¬((6:Int)==3)=true by decide),iN_ (show ¬((6:Int)==4)=true by decide),iN_ (show ¬((6:Int)==5)=true by decide),iP_ (show ((6:Int)==6)=true by decide)]
  obtain ⟨hp,V⟩:=hf' (by decide);obtain ⟨x,Y,h1',I,L,O,hx⟩:=a_K (h:=h) (n:=3) J h1 hb (by omega)
  rw [I,bd3_some,ia_ (by omega) (by omega)]
  obtain ⟨W,h2,l,ks,H,G,g1,q1,q2,q3,q4⟩:=m_I (h:=h1') L O hb hp hn (x:=1+x) (by omega) (by omega)
  rw [H,bd_some,el_inl]
  refine ⟨_,_,_,rfl,G,g1,rfl,{ name:=hnm,kind:=⟨(by decide:(1:Int)<=6),(by decide:(6:Int)<=10)⟩,size:=λh=>absurd (show (6:Int)=1 from h) (by decide),size3:=λh=>absurd (show (6:Int)=3 from h) (by decide),kids:=q4,kidn:=(by show ks.length<=4;omega),bytes:=Nat.zero_le _,names:=⟨q1,q2⟩,tags:=Nat.zero_le _,k4:=λh=>absurd (show (6:Int)=4 from h) (by decide),k5:=λh=>absurd (show (6:Int)=5 from h) (by decide),k6:=λ_=>⟨q3,by show ks.length<=3;omega⟩,k7:=λh=>absurd (show (6:Int)=7 from h) (by decide),k8:=λh=>h.elim (λh=>absurd (show (6:Int)=8 from h) (by decide)) (λh=>absurd (show (6:Int)=9 from h) (by decide)),k10:=λh=>absurd (show (6:Int)=10 from h) (by decide) }⟩
 .rw [iN_ (show ¬((7:Int)==1)=true by decide),iN_ (show ¬((7:Int)==2)=true by decide),iN_ (show ¬((7:Int)==3)=true by decide),iN_ (show ¬((7:Int)==4)=true by decide),iN_ (show ¬((7:Int)==5)=true by decide),iN_ (show ¬((7:Int)==6)=true by decide),iP_ (show ((7:Int)==7)=true by decide)]
  obtain ⟨hp,V⟩:=hf' (by decide);obtain ⟨x,Y,h1',I,L,O,hx⟩:=k_U (h:=h) J h1 hb hp (V hp) (by omega)
  rw [I,bd3_some]
  obtain ⟨y,W,h2,H,b0,b1,hy⟩:=a_K (h:=h1') (n:=3) L O hb (by omega)
  rw [H,bd3_some,ia_ (by omega) (by omega)]
  obtain ⟨i3,h3,l,ks,e3,G,g1,q1,q2,q3,q4,q5⟩:=q_J (h:=h2) b0 b1 hb hp hn (x:=1+y) (by omega) (by omega) hx
  rw [e3,bd_some,el_inl]
  refine ⟨_,_,_,rfl,G,g1,rfl,{ name:=hnm,kind:=⟨(by decide:(1:Int)<=7),(by decide:(7:Int)<=10)⟩,size:=λh=>absurd (show (7:Int)=1 from h) (by decide),size3:=λh=>absurd (show (7:Int)=3 from h) (by decide),kids:=q4,kidn:=(by show ks.length<=4;omega),bytes:=Nat.zero_le _,names:=⟨Nat.zero_le _,b_W⟩,tags:=q2,k4:=λh=>absurd (show (7:Int)=4 from h) (by decide),k5:=λh=>absurd (show (7:Int)=5 from h) (by decide),k6:=λh=>absurd (show (7:Int)=6 from h) (by decide),k7:=λ_=>⟨q3,q1,q5⟩,k8:=λh=>h.elim (λh=>absurd (show (7:Int)=8 from h) (by decide)) (λh=>absurd (show (7:Int)=9 from h) (by decide)),k10:=λh=>absurd (show (7:Int)=10 from h) (by decide) }⟩
 .rw [iN_ (show ¬((8:Int)==1)=true by decide),iN_ (show ¬((8:Int)==2)=true by decide),iN_ (show ¬((8:Int)==3)=true by decide),iN_ (show ¬((8:Int)==4)=true by decide),iN_ (show ¬((8:Int)==5)=true by decide),iN_ (show ¬((8:Int)==6)=true by decide),iN_ (show ¬((8:Int)==7)=true by decide)]
  obtain ⟨hp,V⟩:=hf' (by decide)
  rw [iP_ (show ((8:Int)==8)=true by decide),bd_some,iP_ (show ((8:Int)==8)=true by decide)]
  obtain ⟨y,W,h2,H,G,g1,hy⟩:=a_K (h:=h) J h1 hb (show (0:Int)<(d.rules.length:Int) by omega)
  rw [H,bd3_some]
  refine ⟨_,_,_,rfl,G,g1,rfl,{ name:=hnm,kind:=⟨(by decide:(1:Int)<=8),(by decide:(8:Int)<=10)⟩,size:=λh=>absurd (show (8:Int)=1 from h) (by decide),size3:=λh=>absurd (show (8:Int)=3 from h) (by decide),kids:=mem1' hy,kidn:=(by decide:1<=4),bytes:=Nat.zero_le _,names:=⟨Nat.zero_le _,b_W⟩,tags:=Nat.zero_le _,k4:=λh=>absurd (show (8:Int)=4 from h) (by decide),k5:=λh=>absurd (show (8:Int)=5 from h) (by decide),k6:=λh=>absurd (show (8:Int)=6 from h) (by decide),k7:=λh=>absurd (show (8:Int)=7 from h) (by decide),k8:=λ_=>rfl,k10:=λh=>absurd (show (8:Int)=10 from h) (by decide) }⟩
 .rw [iN_ (show ¬((9:Int)==1)=true by decide),iN_ (show ¬((9:Int)==2)=true by decide),iN_ (show ¬((9:Int)==3)=true by decide),iN_ (show ¬((9:Int)==4)=true by decide),iN_ (show ¬((9:Int)==5)=true by decide),iN_ (show ¬((9:Int)==6)=true by decide),iN_ (show ¬((9:Int)==7)=true by decide)]
  obtain ⟨hp,V⟩:=hf' (by decide)
  rw [iN_ (show ¬((9:Int)==8)=true by decide),bd_some,iP_ (show ((9:Int)==9)=true by decide)]
  obtain ⟨y,W,h2,H,G,g1,hy⟩:=a_K (h:=h) J h1 hb (show (0:Int)<(d.rules.length:Int) by omega)
  rw [H,bd3_some]
  refine ⟨_,_,_,rfl,G,g1,rfl,{ name:=hnm,kind:=⟨(by decide:(1:Int)<=9),(by decide:(9:Int)<=10)⟩,size:=λh=>absurd (show (9:Int)=1 from h) (by decide),size3:=λh=>absurd (show (9:Int)=3 from h) (by decide),kids:=mem1' hy,kidn:=(by decide:1<=4),bytes:=Nat.zero_le _,names:=⟨Nat.zero_le _,b_W⟩,tags:=Nat.zero_le _,k4:=λh=>absurd (show (9:Int)=4 from h) (by decide),k5:=λh=>absurd (show (9:Int)=5 from h) (by decide),k6:=λh=>absurd (show (9:Int)=6 from h) (by decide),k7:=λh=>absurd (show (9:Int)=7 from h) (by decide),k8:=λ_=>rfl,k10:=λh=>absurd (show (9:Int)=10 from h) (by decide) }⟩
 .rw [iN_ (show ¬((10:Int)==1)=true by decide),iN_ (show ¬((10:Int)==2)=true by decide),iN_ (show ¬((10:Int)==3)=true by decide),iN_ (show ¬((10:Int)==4)=true by decide),iN_ (show ¬((10:Int)==5)=true by decide),iN_ (show ¬((10:Int)==6)=true by decide),iN_ (show ¬((10:Int)==7)=true by decide)]
  rw [iN_ (show ¬((10:Int)==8)=true by decide),bd_some,iN_ (show ¬((10:Int)==9)=true by decide),iP_ (show ((10:Int)==10)=true by decide)]
  obtain ⟨y,W,h2,H,G,g1,hy⟩:=j_p (h:=h) (l:=[0,10,59,255]) J h1 hb (by decide)
  rw [H,bd3_some]
  refine ⟨_,_,_,rfl,G,g1,rfl,{ name:=hnm,kind:=⟨(by decide:(1:Int)<=10),(by decide:(10:Int)<=10)⟩,size:=λh=>absurd (show (10:Int)=1 from h) (by decide),size3:=λh=>absurd (show (10:Int)=3 from h) (by decide),kids:=b_W,kidn:=Nat.zero_le _,bytes:=(by decide:1<=3),names:=⟨Nat.zero_le _,b_W⟩,tags:=Nat.zero_le _,k4:=λh=>absurd (show (10:Int)=4 from h) (by decide),k5:=λh=>absurd (show (10:Int)=5 from h) (by decide),k6:=λh=>absurd (show (10:Int)=6 from h) (by decide),k7:=λh=>absurd (show (10:Int)=7 from h) (by decide),k8:=λh=>h.elim (λh=>absurd (show (10:Int)=8 from h) (by decide)) (λh=>absurd (show (10:Int)=9 from h) (by decide)),k10:=λ_=>rfl }⟩
end
end Go.Vw
