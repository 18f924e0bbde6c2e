
import Derived.Test.YtahlbmonbflopaaGreatDoorVz
import Derived.Test.YtahlbmonbflopaaGreatDoorVb3
namespace Go.Vw
open Go.RowKit Dat
section
variable {b:Bt}{i h:Int}
theorem q_p (h0:0<=i)(h1:i<=(b.length:Int))(hb:b.length<=MX){n:Nat}(hn:1060100<=n):∃r f j g,h_B n ⟨b,i,h⟩=some (r,f,j,g)/\0<=j/\j<=(b.length:Int)/\f.length<=1000000/\0<r.versions.length/\r.versions.length<=3/\∀d∈r.versions,R_ d=true/\WD 2 d:=by
 have hL:LIM=4294967296:=rfl;unfold h_B;obtain ⟨d0,i1,g1,e1,Y,a2,ap,aI⟩:=r_a (h:=h) h0 h1 hb (n:=n) (by omega);obtain ⟨c,H,I,O,b1,b2,hc⟩:=a_i (h:=g1) Y a2 hb (n:=3) (by decide)
 rw [e1,bd3_some,O,bd3_some]
 obtain ⟨s,hs,p1,p2,p3,p4,p5⟩:=c_4 (σ:=Int×Int×Int×(List b_)) (ρ:=W_×Bt×Int×Int) (step:=un4 λaf am an ah=>if (decide<|0<af) then bd3 (c_n (⟨b,am,an⟩:m_) [6,7,5]) λaB aC aD=>bd3 (c_E n (⟨b,aC,aD⟩:m_) (⟨ah⟩:c_) aB) λaE aF aG=>bd (psh ah aE) λaH=>some (.next (j_ af 1,aF,aG,aH)) else some (.brk (af,am,an,ah)))
  (λs=>0<=s.1/\(s.2.2.2.length:Int)+s.1<=8/\(0<=s.2.1/\s.2.1<=(b.length:Int))/\DrE ⟨s.2.2.2⟩/\d_v s.2.2.2) (λs=>s.1.toNat) (λs=>0<=s.2.1/\s.2.1<=(b.length:Int)/\DrE ⟨s.2.2.2⟩/\s.2.2.2.length<=8/\d_v s.2.2.2)
  (by
   rintro ⟨c,i,h,rs⟩ ⟨g0,g1,⟨I,J⟩,G,L⟩
   simp only at g0 g1 I J G L
   simp only [un4]
   by_cases hc:0<c
   .left
    rw [dT_ hc,iP_ rfl]
    obtain ⟨x,i1,h1,e1,Y,a2,hx⟩:=d_u (h:=h) I J hb (l:=[6,7,5]) (by decide)
    have hx':1<=x/\x<=10:=by
     simp only [List.mem_cons,List.not_mem_nil,or_false] at hx
     omega
    rw [e1,bd3_some]
    obtain ⟨q,H,h2,O,V,W,hq,hq'⟩:=(i_m (h:=h1) Y a2 hb (n:=n) (by omega) (d:=⟨rs⟩) (k:=x) (by simp only;omega) hx'<|.inr ⟨G.some_,G.first⟩).and (k_X (h:=h1) Y a2 hb (n:=n) (by omega) (d:=⟨rs⟩) (k:=x) (by simp only;omega) hx' (.inr ⟨G.some_,G.first⟩)<|λj hj h1=>n_p hj h1 ((G.each j hj).size h1).1 ((G.each j hj).size h1).2)
    rw [O,bd3_some,Y_ (by omega),bd_some,a_C (by omega) (by omega)]
    have hpos:0<rs.length:=G.some_;refine ⟨_,rfl,⟨by simp only;omega,by simp only [List.length_append,lC_,List.length_nil];omega,⟨V,W⟩,⟨by simp,λhh=>?_,λj hj=>?_⟩,L.snoc hq'⟩,by simp only;omega⟩
    .simp only [List.getElem_append_left hpos];exact G.first hpos
    .simp only [List.length_append,lC_,List.length_nil] at hj
     by_cases hlt:j<rs.length
     .simp only [List.getElem_append_left hlt];exact G.each j hlt
     .have hje:j=rs.length:=by omega
      subst hje
      simp only [List.getElem_concat_length];exact hq.2
   .right
    exact ⟨_,by rw [dF_ hc,iN_ (by simp)],I,J,G,by simp only;omega,L⟩) n (c,H,I,d0.rules) ⟨hc.1,by have:=ap.few;simp only;omega,⟨b1,b2⟩,ap.e,aI⟩ (by simp only;omega)
 rw [hs,bd_some,el_inl]
 obtain ⟨c',i3,J,rs⟩:=s
 simp only at p1 p2 p3 p4 p5
 rw [un4]
 have hpos:0<rs.length:=p3.some_
 rw [a_C (by omega) (by omega),show (rs.length:Int) - 1=((rs.length - 1:Nat):Int) by omega]
 obtain ⟨v,i4,G,e4,c1,c2,hv⟩:=q_U hb p3 (rs.length - 1) (by simp only;omega) n (by omega) i3 J 6 p1 p2 (by decide) (by decide);obtain ⟨l,el,hlen⟩:=q_W p3 p4 (rs.length - 1) v hv n (by omega)
 rw [e4,bd3_some,el,bd_some]
 obtain ⟨m,i5,L,e5,d1,d2,hm⟩:=a_i (h:=G) c1 c2 hb (n:=3) (by decide)
 rw [e5,bd3_some]
 have hval:R_ ⟨rs⟩=true:=r_9 p3 p4 p5;have hW:WD 0 ⟨rs⟩:=WD.of p3 p4
 obtain ⟨s,hs,q1,q2,q3,q4,q5⟩:=c_4 (σ:=Int×Int×Int×(List b_)×(List c_)) (ρ:=W_×Bt×Int×Int) (step:=un5 λa5 ai aj a0 a6=>bd (α:=Bool) (if (decide<|0<a5) then some (decide<|(a0.length:Int)<20) else some false) (λau=>if au then bd3 (b_R (⟨b,ai,aj⟩:m_) 2) λav ak al=>bd (α:=Int×Int×(List b_)) (if av then bd3 (e_d n (⟨b,ak,al⟩:m_) (⟨a0⟩:c_)) λa7 a8 a9=>some (a8,a9,a7.rules) else bd3 (f_q n (⟨b,ak,al⟩:m_) (⟨a0⟩:c_)) λaa ab ad=>some (ab,ad,aa.rules)) (un3 λaw ax ae=>bd (f_6 (⟨ae⟩:c_)) λay=>bd (α:=List c_) (if ay then bd (psh a6 (⟨ae⟩:c_)) λaz=>some az else some a6)<|λaA=>some<|.next (j_ a5 1,aw,ax,ae,aA)) else some (.brk (a5,ai,aj,a0,a6))))
  (λs=>(0<=s.1/\s.1<=2)/\(s.2.2.2.2.length:Int)+s.1<=3/\(0<=s.2.1/\s.2.1<=(b.length:Int))/\WD (2 - s.1).toNat ⟨s.2.2.2.1⟩/\0<s.2.2.2.2.length/\∀d∈s.2.2.2.2,R_ d=true/\WD 2 d) (λs=>s.1.toNat)
  (λs=>0<=s.2.1/\s.2.1<=(b.length:Int)/\0<s.2.2.2.2.length/\s.2.2.2.2.length<=3/\∀d∈s.2.2.2.2,R_ d=true/\WD 2 d)
  (by
   rintro ⟨c,i,h,rs,vs⟩ ⟨⟨g0,g0'⟩,g1,⟨I,J⟩,G,L,g6⟩
   simp only at g0 g0' g1 I J G L g6
   simp only [un5]
   by_cases hc:0<c
   .rw [dT_ hc,iP_ rfl,bd_some]
    by_cases aq:(rs.length:Int)<20
    .left
     rw [dT_ aq,iP_ rfl]
     obtain ⟨o,i1,h1,e1,Y,a2,_⟩:=e_0 (h:=h) I J hb 2
     rw [e1,bd3_some]
     have br:∃H h2 rs',(if o then bd3 (e_d n (⟨b,i1,h1⟩:m_) (⟨rs⟩:c_)) λa7 a8 a9=>some (a8,a9,a7.rules) else bd3 (f_q n (⟨b,i1,h1⟩:m_) (⟨rs⟩:c_)) λaa ab ad=>some (ab,ad,aa.rules))=some (H,h2,rs')/\0<=H/\H<=(b.length:Int)/\WD ((2 - c).toNat+1) ⟨rs'⟩:=by
      cases o with
      | true =>
       obtain ⟨d',H,h2,O,V,W,hw⟩:=m_D (h:=h1) Y a2 hb (n:=n) (by omega) (t:=(2 - c).toNat) (by omega) G;exact ⟨H,h2,d'.rules,by rw [iP_ rfl,O,bd3_some],V,W,hw.mono<|Nat.le_succ _⟩
      | false =>
       obtain ⟨d',H,h2,O,V,W,hw⟩:=p_W (h:=h1) Y a2 hb (n:=n) (by omega) (t:=(2 - c).toNat) (by omega) G;exact ⟨H,h2,d'.rules,by rw [iN_ (by simp),O,bd3_some],V,W,hw⟩
     obtain ⟨H,h2,rs',O,V,W,hw⟩:=br;have ar:WD 2 ⟨rs'⟩:=hw.mono (by omega)
     rw [O,bd_some,un3,k_D _<|ar.sm (by decide),bd_some]
     have hsub:j_ c 1=c - 1:=a_C (by omega) (by omega)
     cases hvd:R_ ⟨rs'⟩ with
     | true =>
      rw [iP_ rfl,Y_ (by omega),bd_some,bd_some,hsub]
      refine ⟨_,rfl,⟨⟨by simp only;omega,by simp only;omega⟩,by simp only [List.length_append,lC_,List.length_nil];omega,⟨V,W⟩,?_,by simp,λd hd=>?_⟩,by simp only;omega⟩
      .simp only
       rw [show (2 - (c - 1)).toNat=(2 - c).toNat+1 by omega];exact hw
      .rcases List.mem_append.1 hd with hd | hd
       .exact g6 d hd
       .obtain rfl:=List.mem_singleton.1 hd;exact ⟨hvd,ar⟩
     | false =>
      rw [iN_ (by simp),bd_some,hsub]
      refine ⟨_,rfl,⟨⟨by simp only;omega,by simp only;omega⟩,by simp only;omega,⟨V,W⟩,?_,L,g6⟩,by simp only;omega⟩
      simp only
      rw [show (2 - (c - 1)).toNat=(2 - c).toNat+1 by omega];exact hw
    .right
     exact ⟨_,by rw [dF_ aq,iN_ (by simp)],I,J,L,by simp only;omega,g6⟩
   .right
    exact ⟨_,by rw [dF_ hc,iN_ (by simp),bd_some,iN_ (by simp)],I,J,L,by simp only;omega,g6⟩) n (m,i5,L,rs,[⟨rs⟩]) ⟨⟨hm.1,by simp only;omega⟩,by simp only [lC_,List.length_nil];omega,⟨d1,d2⟩,hW.mono (Nat.zero_le _),by simp,λd hd=>by obtain rfl:=List.mem_singleton.1 hd;exact ⟨hval,hW.mono (by decide)⟩⟩ (by simp only;omega)
 rw [hs,bd_some,el_inl]
 obtain ⟨c2',i6,g6,aJ,vs⟩:=s
 simp only at q1 q2 q3 q4 q5
 exact ⟨⟨vs⟩,l,i6,g6,rfl,q1,q2,Nat.le_trans hlen<|Nat.le_trans (n_b (show rs.length - 1<=7 by omega)) (by decide),q3,q4,q5⟩
theorem j_A {vs:List c_}(h:∀d∈vs,WD 2 d∨e_2 d∨d=⟨[]⟩)(hl:vs.length<=100):c_v ⟨vs⟩:=by
 refine ⟨λd hd=>?_,λd hd hv=>?_,hl⟩
 .rcases h d hd with h | h | rfl
  .exact h.sm (by decide)
  .exact h.1
  .exact ⟨by simp,λx hx=>by cases hx⟩
 .rcases h d hd with h | h | rfl
  .exact ⟨_,_,wg_wv hv h.wv⟩
  .exact ⟨_,_,wg_any hv h⟩
  .exact absurd (b_X hv).1 (by decide)
theorem q_q (V:0<=i)(h1:i<=(b.length:Int))(hb:b.length<=MX){n:Nat}(hn:1060100<=n):∃r f j g,h_E n ⟨b,i,h⟩=some (r,f,j,g)/\c_v r:=by
 have hLIM:=a_7;unfold h_E;obtain ⟨⟨vs⟩,f,i1,g1,e1,J,a2,hf,hpos,hlen,hvs⟩:=q_p (h:=h) V h1 hb hn;obtain ⟨c,i2,G,e2,b1,b2,hc⟩:=a_i (h:=g1) J a2 hb (n:=12) (by decide)
 simp only at hpos hlen hvs
 rw [e1,bd4_some,e2,bd3_some]
 have hvs':∀d∈vs,(WD 2 d∨e_2 d∨d=⟨[]⟩):=λd hd=>.inl (hvs d hd).2
 -- the last part: the file may be bent
 have last:∀(us:List c_)(i h:Int),0<=i->i<=(b.length:Int)->c_v ⟨us⟩->∃r f' j g,(bd (α:=Bool×Int×Int) (if (decide<|0<(f.length:Int)) then bd3 (b_R (⟨b,i,h⟩:m_) 8) λa0 a3 a4=>some (a0,a3,a4) else some (false,i,h)) (un3 λad a5 a6=>bd (α:=Bt×Int×Int) (if ad then bd3 (g_L (⟨b,a5,a6⟩:m_) f) λae af ah=>some (ae,af,ah) else some (f,a5,a6))<|un3 λai aj ak=>some ((⟨us⟩:W_),ai,aj,ak)))=some (r,f',j,g)/\c_v r:=λus i h V h1 hr=>by
  have one:∃o i' h',(if (decide<|0<(f.length:Int)) then bd3 (b_R (⟨b,i,h⟩:m_) 8) λa0 a3 a4=>some (a0,a3,a4) else some (false,i,h))=some (o,i',h')/\0<=i'/\i'<=(b.length:Int):=by
   split
   .obtain ⟨o,i1,h1,e,J,a2,_⟩:=e_0 (h:=h) V h1 hb 8;exact ⟨o,i1,h1,by rw [e,bd3_some],J,a2⟩
   .exact ⟨false,i,h,rfl,V,h1⟩
  obtain ⟨o,i',h',e,J,a2⟩:=one
  rw [e,bd_some]
  simp only [un3]
  cases o with
  | false=>exact ⟨_,_,_,_,rfl,hr⟩
  | true =>
   obtain ⟨f',i2,h2,e2,_⟩:=r_b (h:=h') J a2 hb hf
   rw [iP_ rfl,e2]
   exact ⟨_,_,_,_,rfl,hr⟩
 by_cases q0:c=0
 .obtain ⟨d,W,Y,L,H,I,hd⟩:=r_c (h:=G) b1 b2 hb (n:=n) (by omega)
  rw [iP_ (by simpa using q0),L,bd3_some,Y_ (by simp only;omega),bd_some,bd_some,el_inl]
  simp only [un3]
  refine last _ _ _ H I<|j_A (λx hx=>?_) (by rw [List.length_append,List.length_singleton];omega)
  rcases List.mem_append.1 hx with hx | hx
  .exact hvs' x hx
  .rw [List.mem_singleton] at hx;subst hx;exact .inr<|.inl hd
 rw [iN_ (by simpa using q0)]
 by_cases q1:c=1
 .obtain ⟨k,W,Y,L,H,I,hk⟩:=a_i (h:=G) b1 b2 hb (n:=2) (by decide)
  rw [iP_ (by simpa using q1),L,bd3_some,j_W (by omega) (by omega),bd_some,bd_some,el_inl,bd_some,el_inl]
  simp only [un3]
  refine last _ _ _ H I<|j_A (λx hx=>?_) (by rw [List.length_replicate];omega);exact .inr<|.inr<|List.eq_of_mem_replicate hx
 rw [iN_ (by simpa using q1)]
 by_cases q2:c=2
 .rw [iP_ (by simpa using q2)]
  obtain ⟨s,e,a9,aa,ar,ab⟩:=c_4 (σ:=Int×Int×(List c_)) (ρ:=W_×Bt×Int×Int) (step:=un3 λal am O=>bd3 (a_0 (⟨b,al,am⟩:m_) 2) λan a7 a8=>if (decide<|(O.length:Int)<(h_ 8 an)) then bd (idx O 0) λap=>bd (psh O ap) λaq=>some (.next (a7,a8,aq)) else some (.brk (a7,a8,O)))
   (λs=>0<=s.1/\s.1<=(b.length:Int)/\0<s.2.2.length/\s.2.2.length<=20/\∀d∈s.2.2,(WD 2 d∨e_2 d∨d=⟨[]⟩)) (λs=>20 - s.2.2.length) (λs=>0<=s.1/\s.1<=(b.length:Int)/\s.2.2.length<=20/\∀d∈s.2.2,(WD 2 d∨e_2 d∨d=⟨[]⟩)) (by
    rintro ⟨i,h,us⟩ ⟨g0,g1,G,Y,g4⟩
    simp only at g0 g1 G Y g4
    simp only [un3]
    obtain ⟨k,W,h3,L,H,I,hk⟩:=a_i (h:=h) g0 g1 hb (n:=2) (by decide)
    rw [L,bd3_some,ia_ (by omega) (by omega)]
    by_cases hl:(us.length:Int)<8+k
    .left
     rw [dT_ hl,iP_ rfl,a_h G,bd_some,Y_ (by omega),bd_some]
     refine ⟨_,rfl,⟨H,I,by simp,by rw [List.length_append,List.length_singleton];omega,λd hd=>?_⟩,by simp only [List.length_append,List.length_singleton];omega⟩
     rcases List.mem_append.1 hd with hd | hd
     .exact g4 d hd
     .rw [List.mem_singleton] at hd;subst hd;exact g4 _<|gE_ G
    .right
     rw [dF_ hl,iN_ (by simp)]
     exact ⟨_,rfl,H,I,Y,g4⟩) n (i2,G,vs) ⟨b1,b2,hpos,by simp only;omega,hvs'⟩ (by simp only;omega)
  obtain ⟨W,h3,us⟩:=s
  simp only at a9 aa ar ab
  rw [e,bd_some,el_inl]
  simp only [un3,bd_some,el_inl]
  exact last us W h3 a9 aa<|j_A ab (by omega)
 .rw [iN_ (by simpa using q2)]
  simp only [un3,bd_some,el_inl]
  exact last vs i2 G b1 b2<|j_A hvs' (by omega)
end
theorem q_r {n:Nat}(hn:4000000<=n)(c:Bt):h_P n c=some true:=by
 have hMX:=MXv;unfold h_P j_8
 rw [bd_some]
 by_cases h1:(1048576:Int)<(c.length:Int)
 .rw [dT_ h1];rfl
 rw [dF_ h1,iN_ (by simp)]
 have hb:c.length<=MX:=by omega
 obtain ⟨r,f,er,hr⟩:∃r f,h_F n c=some (r,f)/\c_v r:=by
  unfold h_F j_5;obtain ⟨I,e0⟩:=new_ok hb (n:=n) (by omega);obtain ⟨r,f,j,g,H,hr⟩:=q_q (i:=0) (h:=I) (by omega) (by omega) hb (n:=n) (by omega);exact ⟨r,f,by rw [e0,bd_some,H,bd4_some,bd2_some],hr⟩
 obtain ⟨x,v,H,e2,e3⟩:=q_o hr (n:=n) (by omega) (f:=f);have hfew:=hr.few
 rw [er,bd2_some,m_S hr (by omega),bd_some,e2,bd2_some,H,bd2_some,iN_ (by simp),q_X,bd_some,bd_some,iN_ (by simp)]
 have hl:=j_M (ρ:=Bool) (n:=(b_b r f).length) (body:=λG=>(λ(_:Unit)=>bd (α:=Bool) (bd (idx (b_b r f) ((G:Nat):Int)) λJ=>if (decide (J<0)) then some true else bd (idx (b_b r f) ((G:Nat):Int)) λL=>if (decide ((r.versions.length:Int)<=L)) then some true else bd (idx (b_b r f) ((G:Nat):Int)) λO=>bd (idx r.versions O) λV=>bd (d_C n V f) λW=>if (!W) then some true else if (decide (0<((G:Nat):Int))) then bd (idx (b_b r f) ((G:Nat):Int)) λY=>bd (idx (b_b r f) (j_ ((G:Nat):Int) 1)) λa0=>some (decide (Y<=a0)) else some false) (λa1=>if a1 then some (.ret false) else some (.next ())))) (λj hj=>by
  obtain ⟨k,hk,hkl,hf⟩:=k_L<|gE_ hj;have hfw:=k_M hr f
  simp only [ix_ hj,bd_some]
  rw [dF_ (by omega),iN_ (by simp),dF_ (by omega),iN_ (by simp),hk,ix_ hkl,bd_some,j_s (hr.sm _<|gE_ hkl) (by omega),hf,bd_some,iN_ (by simp)]
  by_cases I:0<j
  .have hlt:=List.pairwise_iff_getElem.1 (q_m r f) (j - 1) j (by omega) hj (by omega)
   rw [dT_ (by omega),iP_ rfl,a_C (by omega) (by omega),show (j:Int) - 1=((j - 1:Nat):Int) by omega,ix_ (show j - 1<(b_b r f).length by omega),bd_some,dF_ (by omega),bd_some,iN_ (by simp)]
  .rw [dF_ (by omega),iN_ (by simp),bd_some,iN_ (by simp)])
 rw [hl,bd_some,el_inl]
 rcases e3 with ⟨rfl,rfl⟩ | ⟨hm,hlast,hok⟩
 .rfl
 .have hne:(v == -1)=false:=by
   obtain ⟨k,rfl,_⟩:=k_L hm
   rw [beq_eq_false_iff_ne];omega
  have hsub:j_ (r.versions.length:Int) 1=((r.versions.length - 1:Nat):Int):=by rw [a_C (by omega) (by omega)];omega
  rw [hne,iN_ (by simp),bd_some,iN_ (by simp),p_X,dT_ hm,bd_some,iP_ rfl,hsub,ix_ hlast,bd_some,j_s (hr.sm _<|gE_ hlast) (by omega),hok,bd_some,bd_some]
end Go.Vw
