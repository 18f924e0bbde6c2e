
import Derived.Test.YtdgimlkkidpmmaaGreatDoorVy
import Derived.Test.YtdgimlkkidpmmaaGreatDoorVb3
namespace Go.Vw
open Go.RowKit Dat
section
variable {b:Bt}{i h:Int}
theorem t_0 (h0:0<=i)(h1:i<=(b.length:Int))(hb:b.length<=MX){n:Nat}(hn:1060100<=n):∃r f j g,g_D n ⟨b,i,h⟩=some (r,f,j,g)/\0<=j/\j<=(b.length:Int)/\RegG n r:=by
 have hL:LIM=4294967296:=rfl;unfold g_D;obtain ⟨d0,i1,g1,e1,W,a2,ap,aI⟩:=u_e (h:=h) h0 h1 hb (n:=n) (by omega);obtain ⟨c,H,I,L,b1,b2,hc⟩:=a_t (h:=g1) W a2 hb (n:=3) (by decide)
 rw [e1,bd3_some,L,bd3_some]
 obtain ⟨s,hs,p1,p2,p3,p4,p5⟩:=c_A (σ:=Int×Int×Int×(List b_)) (ρ:=D_×Bt×Int×Int) (step:=un4 λaf am an ah=>if (decide<|0<af) then bd3 (e_4 (⟨b,am,an⟩:j_) [6,7,5]) λaB aC aD=>bd3 (d_j n (⟨b,aC,aD⟩:j_) (⟨ah⟩:c_) aB) λaE aF aG=>bd (psh ah aE) λaH=>some (.next (h_ af 1,aF,aG,aH)) else some (.brk (af,am,an,ah)))
  (λs=>0<=s.1/\(s.2.2.2.length:Int)+s.1<=8/\(0<=s.2.1/\s.2.1<=(b.length:Int))/\DrE ⟨s.2.2.2⟩/\d_R s.2.2.2) (λs=>s.1.toNat) (λs=>0<=s.2.1/\s.2.1<=(b.length:Int)/\DrE ⟨s.2.2.2⟩/\s.2.2.2.length<=8/\d_R s.2.2.2)
  (by
   rintro ⟨c,i,h,rs⟩ ⟨g0,g1,⟨I,g3⟩,G,J⟩
   simp only at g0 g1 I g3 G J
   simp only [un4]
   by_cases hc:0<c
   .left
    rw [dT_ hc,iP_ rfl]
    obtain ⟨x,i1,h1,e1,W,a2,hx⟩:=h_x (h:=h) I g3 hb (l:=[6,7,5]) (by decide)
    have hx':1<=x/\x<=10:=by
     simp only [List.mem_cons,List.not_mem_nil,or_false] at hx
     omega
    rw [e1,bd3_some]
    obtain ⟨q,H,h2,L,O,V,hq,hq'⟩:=(n_3 (h:=h1) W a2 hb (n:=n) (by omega) (d:=⟨rs⟩) (k:=x) (by simp only;omega) hx'<|.inr ⟨G.some_,G.first⟩).and (n_5 (h:=h1) W a2 hb (n:=n) (by omega) (d:=⟨rs⟩) (k:=x) (by simp only;omega) hx' (.inr ⟨G.some_,G.first⟩)<|λj hj h1=>p_L hj h1 ((G.each j hj).size h1).1 ((G.each j hj).size h1).2)
    rw [L,bd3_some,O_ (by omega),bd_some,a_f (by omega) (by omega)]
    have hpos:0<rs.length:=G.some_;refine ⟨_,rfl,⟨by simp only;omega,by simp only [List.length_append,lC_,List.length_nil];omega,⟨O,V⟩,⟨by simp,λhh=>?_,λj hj=>?_⟩,J.snoc hq'⟩,by simp only;omega⟩
    .simp only [List.getElem_append_left hpos];exact G.first hpos
    .simp only [List.length_append,lC_,List.length_nil] at hj
     by_cases hlt:j<rs.length
     .simp only [List.getElem_append_left hlt];exact G.each j hlt
     .have hje:j=rs.length:=by omega
      subst hje
      simp only [List.getElem_concat_length];exact hq.2
   .right
    exact ⟨_,by rw [dF_ hc,iN_ (by simp)],I,g3,G,by simp only;omega,J⟩) n (c,H,I,d0.rules) ⟨hc.1,by have:=ap.few;simp only;omega,⟨b1,b2⟩,ap.e,aI⟩ (by simp only;omega)
 rw [hs,bd_some,el_inl]
 obtain ⟨c',i3,g3,rs⟩:=s
 simp only at p1 p2 p3 p4 p5
 rw [un4]
 have hpos:0<rs.length:=p3.some_
 rw [a_f (by omega) (by omega),show (rs.length:Int) - 1=((rs.length - 1:Nat):Int) by omega]
 obtain ⟨v,i4,G,e4,c1,c2,hv⟩:=t_Y hb p3 (rs.length - 1) (by simp only;omega) n (by omega) i3 g3 6 p1 p2 (by decide) (by decide);obtain ⟨l,el,_⟩:=u_0 p3 p4 (rs.length - 1) v hv n (by omega)
 rw [e4,bd3_some,el,bd_some]
 obtain ⟨m,i5,J,e5,d1,d2,hm⟩:=a_t (h:=G) c1 c2 hb (n:=3) (by decide)
 rw [e5,bd3_some]
 have hval:a_b ⟨rs⟩=true:=u_d p3 p4 p5;have hW:WD 0 ⟨rs⟩:=WD.of p3 p4
 obtain ⟨s,hs,q1,q2,q3,q4,q5⟩:=c_A (σ:=Int×Int×Int×(List b_)×(List c_)) (ρ:=D_×Bt×Int×Int) (step:=un5 λa5 ai aj a0 a6=>bd (α:=Bool) (if (decide<|0<a5) then some (decide<|(a0.length:Int)<20) else some false) (λau=>if au then bd3 (b_U (⟨b,ai,aj⟩:j_) 2) λav ak al=>bd (α:=Int×Int×(List b_)) (if av then bd3 (e_s n (⟨b,ak,al⟩:j_) (⟨a0⟩:c_)) λa7 a8 a9=>some (a8,a9,a7.rules) else bd3 (f_j n (⟨b,ak,al⟩:j_) (⟨a0⟩:c_)) λaa ab ad=>some (ab,ad,aa.rules)) (un3 λaw ax ae=>bd (f_7 (⟨ae⟩:c_)) λay=>bd (α:=List c_) (if ay then bd (psh a6 (⟨ae⟩:c_)) λaz=>some az else some a6)<|λaA=>some<|.next (h_ a5 1,aw,ax,ae,aA)) else some (.brk (a5,ai,aj,a0,a6))))
  (λs=>(0<=s.1/\s.1<=2)/\(s.2.2.2.2.length:Int)+s.1<=3/\(0<=s.2.1/\s.2.1<=(b.length:Int))/\WD (2 - s.1).toNat ⟨s.2.2.2.1⟩/\0<s.2.2.2.2.length/\∀d∈s.2.2.2.2,a_b d=true/\WD 2 d) (λs=>s.1.toNat)
  (λs=>0<=s.2.1/\s.2.1<=(b.length:Int)/\0<s.2.2.2.2.length/\s.2.2.2.2.length<=3/\∀d∈s.2.2.2.2,a_b d=true/\WD 2 d)
  (by
   rintro ⟨c,i,h,rs,vs⟩ ⟨⟨g0,g0'⟩,g1,⟨I,g3⟩,G,J,Y⟩
   simp only at g0 g0' g1 I g3 G J Y
   simp only [un5]
   by_cases hc:0<c
   .rw [dT_ hc,iP_ rfl,bd_some]
    by_cases aq:(rs.length:Int)<20
    .left
     rw [dT_ aq,iP_ rfl]
     obtain ⟨o,i1,h1,e1,W,a2,_⟩:=e_n (h:=h) I g3 hb 2
     rw [e1,bd3_some]
     have br:∃H h2 rs',(if o then bd3 (e_s n (⟨b,i1,h1⟩:j_) (⟨rs⟩:c_)) λa7 a8 a9=>some (a8,a9,a7.rules) else bd3 (f_j n (⟨b,i1,h1⟩:j_) (⟨rs⟩:c_)) λaa ab ad=>some (ab,ad,aa.rules))=some (H,h2,rs')/\0<=H/\H<=(b.length:Int)/\WD ((2 - c).toNat+1) ⟨rs'⟩:=by
      cases o with
      | true =>
       obtain ⟨d',H,h2,L,O,V,hw⟩:=o_B (h:=h1) W a2 hb (n:=n) (by omega) (t:=(2 - c).toNat) (by omega) G;exact ⟨H,h2,d'.rules,by rw [iP_ rfl,L,bd3_some],O,V,hw.mono<|Nat.le_succ _⟩
      | false =>
       obtain ⟨d',H,h2,L,O,V,hw⟩:=s_Z (h:=h1) W a2 hb (n:=n) (by omega) (t:=(2 - c).toNat) (by omega) G;exact ⟨H,h2,d'.rules,by rw [iN_ (by simp),L,bd3_some],O,V,hw⟩
     obtain ⟨H,h2,rs',L,O,V,hw⟩:=br;have ar:WD 2 ⟨rs'⟩:=hw.mono (by omega)
     rw [L,bd_some,un3,m_d _<|ar.sm (by decide),bd_some]
     have hsub:h_ c 1=c - 1:=a_f (by omega) (by omega)
     cases hvd:a_b ⟨rs'⟩ with
     | true =>
      rw [iP_ rfl,O_ (by omega),bd_some,bd_some,hsub]
      refine ⟨_,rfl,⟨⟨by simp only;omega,by simp only;omega⟩,by simp only [List.length_append,lC_,List.length_nil];omega,⟨O,V⟩,?_,by simp,λd hd=>?_⟩,by simp only;omega⟩
      .simp only
       rw [show (2 - (c - 1)).toNat=(2 - c).toNat+1 by omega];exact hw
      .rcases List.mem_append.1 hd with hd | hd
       .exact Y d hd
       .obtain rfl:=List.mem_singleton.1 hd;exact ⟨hvd,ar⟩
     | false =>
      rw [iN_ (by simp),bd_some,hsub]
      refine ⟨_,rfl,⟨⟨by simp only;omega,by simp only;omega⟩,by simp only;omega,⟨O,V⟩,?_,J,Y⟩,by simp only;omega⟩
      simp only
      rw [show (2 - (c - 1)).toNat=(2 - c).toNat+1 by omega];exact hw
    .right
     exact ⟨_,by rw [dF_ aq,iN_ (by simp)],I,g3,J,by simp only;omega,Y⟩
   .right
    exact ⟨_,by rw [dF_ hc,iN_ (by simp),bd_some,iN_ (by simp)],I,g3,J,by simp only;omega,Y⟩) n (m,i5,J,rs,[⟨rs⟩]) ⟨⟨hm.1,by simp only;omega⟩,by simp only [lC_,List.length_nil];omega,⟨d1,d2⟩,hW.mono (Nat.zero_le _),by simp,λd hd=>by obtain rfl:=List.mem_singleton.1 hd;exact ⟨hval,hW.mono (by decide)⟩⟩ (by simp only;omega)
 rw [hs,bd_some,el_inl]
 obtain ⟨c2',i6,Y,aK,vs⟩:=s
 simp only at q1 q2 q3 q4 q5
 refine ⟨⟨vs⟩,l,i6,Y,rfl,q1,q2,?_,λd hd=>(q5 d hd).2.sm (by decide),q3,λd hd sd aJ aL=>?_⟩
 .unfold d_d
  rw [dT_ (show vs.length<=8 by omega),Bool.true_and,Bool.not_eq_true',List.any_eq_false]
  intro d hd
  rw [(q5 d hd).1];simp
 .obtain ⟨hv,hw⟩:=q5 d hd;exact s_Y hv (hw.sm (by decide)) hw.wv (by omega) ⟨aJ,by omega⟩
end
theorem t_1 {n:Nat}(hn:4000000<=n)(c:Bt):f_m n c=some true:=by
 have hMX:=MXv
 by_cases h1:(1048576:Int)<(c.length:Int)
 .unfold f_m i_k
  rw [bd_some,dT_ h1];rfl
 have hb:c.length<=MX:=by omega
 obtain ⟨h,e⟩:=new_ok hb (n:=n) (by omega);obtain ⟨r,f,j,g,er,j0,G,hr⟩:=t_0 (b:=c) (i:=0) (h:=h) (Int.le_refl _) (by omega) hb (n:=n) (by omega);obtain ⟨a,H,h2,ea,_,_,hA⟩:=s_T (n:=n) (by omega) hb j0 G er hr;refine s_O hn hA.sm (by have:=hA.len;omega) hA.ok (by have:=hA.recs;omega) ?_;unfold i_6
 rw [e,bd_some,ea,bd3_some]
end Go.Vw
