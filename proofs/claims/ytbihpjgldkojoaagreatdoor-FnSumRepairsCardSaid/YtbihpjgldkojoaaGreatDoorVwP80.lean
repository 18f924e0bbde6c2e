
import Derived.Test.YtbihpjgldkojoaaGreatDoorVwP79
import Derived.Test.YtbihpjgldkojoaaGreatDoorVwP78
namespace Go.Vw
open Go.RowKit Dat
theorem DrE.push {rs:List d_}{q:d_}(h:DrE ⟨rs⟩)(hq:DrR rs.length q):DrE ⟨rs++[q]⟩:=by
 have hpos:0<rs.length:=h.some_;refine ⟨by simp,λhh=>?_,λj hj=>?_⟩
 .simp only [List.getElem_append_left hpos];exact h.first hpos
 .simp only [List.length_append,lC_,List.length_nil] at hj
  by_cases hlt:j<rs.length
  .simp only [List.getElem_append_left hlt];exact h.each j hlt
  .have hje:j=rs.length:=by omega
   subst hje
   simp only [List.getElem_concat_length];exact hq
theorem q_K {c:Bt}(hb:c.length<=MX){n:Nat}(hn:1048600<=n):∃d x,g_d n c=some (d,x)/\SmD d/\x.length<=MX:=by
 have hMX:=MXv;have hLIM:=a_w;unfold g_d;obtain ⟨h0,e0⟩:=m_e hb hn
 rw [e0,bd_some]
 obtain ⟨d,i1,h1,e1,a0,a1,hd⟩:=k_v (i:=0) (h:=h0) (by omega) (by omega) hb (n:=n) (by omega);have hf:=hd.few
 rw [e1,bd3_some]
 simp only
 obtain ⟨r,i2,h2,L,b0,b1,hr⟩:=a_F (i:=i1) (h:=h1) a0 a1 hb (n:=2) (by omega)
 rw [L,bd3_some,ia_ (by omega) (by omega)]
 obtain ⟨s,e3,hs⟩:=d_t (σ:=Int×Int×Int×(List d_)) (ρ:=g_×Bt) (step:=un4 λI Y a2 J=>if (decide<|0<I) then bd3 (d_c n (⟨c,Y,a2⟩:u_) (⟨J⟩:g_) 9) λa5 a6 a7=>bd (psh J a5) λa8=>some (.next (J_ I 1,a6,a7,a8)) else some (.brk (I,Y,a2,J)))
  (λs=>0<=s.1/\(s.2.2.2.length:Int)+s.1<=8/\0<=s.2.1/\s.2.1<=(c.length:Int)/\DrE ⟨s.2.2.2⟩) (λs=>s.1.toNat) (λs=>s.2.2.2.length<=8/\0<=s.2.1/\s.2.1<=(c.length:Int)/\DrE ⟨s.2.2.2⟩)
  (by
   rintro ⟨k,i,h,rs⟩ ⟨g0,g1,O,V,G⟩
   simp only at g0 g1 O V G
   simp only [un4]
   by_cases hc:0<k
   .left
    rw [dT_ hc,iP_ rfl]
    obtain ⟨q,i2,h2,L,a3,a4,hq⟩:=k_u (h:=h) O V hb (n:=n) (by omega) (d:=⟨rs⟩) (k:=9) (by simp only;omega) (by omega)<|.inr ⟨G.some_,G.first⟩
    rw [L,bd3_some,a_R (by omega),bd_some,a_Y (by omega) (by omega)]
    exact ⟨_,rfl,⟨by simp only;omega,by simp;omega,a3,a4,G.push hq.2⟩,by simp only;omega⟩
   .right
    rw [dF_ hc]
    exact ⟨_,rfl,by simp only;omega,O,V,G⟩)
  n (1+r,i2,h2,d.rules) ⟨by simp only;omega,by simp only;omega,b0,b1,hd.e⟩ (by simp only;omega)
 obtain ⟨k',i3,h3,rs⟩:=s;obtain ⟨W,q1,q2,H⟩:=hs
 simp only at W q1 q2 H
 refine (congrArg (λz=>∃(d:g_)(x:Bt),bd z _=some (d,x)/\SmD d/\x.length<=MX) e3).mpr ?_
 rw [bd_some,el_inl]
 simp only [un4]
 have hpos:0<rs.length:=H.some_
 rw [a_Y (by omega) (by omega),show (rs.length:Int) - 1=((rs.length - 1:Nat):Int) by omega]
 obtain ⟨v,i4,h4,e4,c0,c1,hv⟩:=m_f hb H (rs.length - 1) (by simp only;omega) n (by omega) i3 h3 6 q1 q2 (by omega) (by omega)
 rw [e4,bd3_some]
 obtain ⟨l,e5,hl⟩:=m_i H W (rs.length - 1) v hv n (by omega);have a9:l.length<=983040:=Nat.le_trans hl<|m_h (by omega)
 rw [e5,bd_some]
 obtain ⟨sd,i5,h5,e6,d0,d1,hsd⟩:=a_F (i:=i4) (h:=h4) c0 c1 hb (n:=999) (by omega)
 rw [e6,bd3_some]
 obtain ⟨ct,i6,h6,e7,f0,f1,_⟩:=a_F (i:=i5) (h:=h5) d0 d1 hb (n:=3) (by omega)
 rw [e7,bd3_some]
 obtain ⟨y,e8,hy⟩:=q_D (x:=l) a9 (seed:=sd) (count:=ct) (by omega) (by omega) (n:=n) (by omega)
 rw [e8,bd_some]
 exact ⟨_,_,rfl,H.sm W,by omega⟩
theorem q_L {c:Bt}{i h:Int}(h0:0<=i)(h1:i<=(c.length:Int))(hb:c.length<=MX){n:Nat}(hn:100<=n):∃d x i' h',g_e n ⟨c,i,h⟩=some (d,x,i',h')/\0<=i'/\i'<=(c.length:Int)/\SmD d/\x.length<=MX:=by
 have hMX:=MXv;have hLIM:=a_w;unfold g_e;obtain ⟨d,i1,h1,e1,a0,a1,hd⟩:=k_v (h:=h) h0 h1 hb (n:=n) (by omega);have hf:=hd.few;have hs:=hd.some_
 rw [e1,bd3_some,a_Y (by omega) (by omega),show (d.rules.length:Int) - 1=((d.rules.length - 1:Nat):Int) by omega]
 obtain ⟨v,i2,h2,e2,b0,b1,hv⟩:=q_b hb hd (d.rules.length - 1) (by omega) n (by omega) i1 h1 8 a0 a1 (by omega) (by omega)
 simp only
 rw [e2,bd3_some]
 obtain ⟨l,e3,hl⟩:=q_e hd (d.rules.length - 1) v hv n (by omega);have am:l.length<=61440:=Nat.le_trans hl<|Bd_le (by omega)
 rw [e3,bd_some]
 have fin:∀(x:Bt)(i h:Int),x.length<=61441->0<=i->i<=(c.length:Int)->∃d' x' i' h',(bd3 (a_5 (⟨c,i,h⟩:u_) 24) λI J L=>bd (α:=Bt×Int×Int) (if (I==0) then bd3 (a_5 (⟨c,J,L⟩:u_) 2) λa2 a3 a4=>bd (mk0 (0:UInt8)<|j_ 400 a2) λa5=>some (a5,a3,a4) else bd (α:=Bt×Int×Int) (if (I==1) then bd3 (a_5 (⟨c,J,L⟩:u_) 8) λa6 a7 a8=>bd3 (d_b (⟨c,a7,a8⟩:u_) a6) λa9 aa ab=>some (a9,aa,ab) else bd (α:=Bt) (if (I==2) then bd (psh x (92:UInt8)) λad=>some ad else some x) (λae=>some (ae,J,L))) (un3 λaf ah ai=>some (af,ah,ai)))<|un3 λaj ak al=>some (d,aj,ak,al))=some (d',x',i',h')/\0<=i'/\i'<=(c.length:Int)/\SmD d'/\x'.length<=MX:=by
  intro x i h hx g0 g1;obtain ⟨k,i3,h3,e4,H,k1,hk⟩:=a_F (h:=h) g0 g1 hb (n:=24) (by omega)
  rw [e4,bd3_some]
  split
  .obtain ⟨y,O,h4,G,V,m1,hy⟩:=a_F (h:=h3) H k1 hb (n:=2) (by omega)
   rw [G,bd3_some,ia_ (by omega) (by omega),k_D (by omega) (by omega),bd_some,bd_some]
   exact ⟨_,_,_,_,rfl,V,m1,hd.sm,by simp only [List.length_replicate];omega⟩
  .split
   .obtain ⟨y,O,h4,G,V,m1,hy⟩:=a_F (h:=h3) H k1 hb (n:=8) (by omega);obtain ⟨z,i5,h5,W,o0,o1,hz⟩:=g_L (h:=h4) V m1 hb (n:=y) (by omega)
    rw [G,bd3_some,W,bd3_some,bd_some]
    simp only [un3]
    rw [bd_some]
    exact ⟨_,_,_,_,rfl,o0,o1,hd.sm,by omega⟩
   .split
    .rw [a_R (by omega),bd_some,bd_some,bd_some]
     simp only [un3]
     rw [bd_some]
     exact ⟨_,_,_,_,rfl,H,k1,hd.sm,by simp only [List.length_append,lC_,List.length_nil];omega⟩
    .rw [bd_some,bd_some]
     simp only [un3]
     rw [bd_some]
     exact ⟨_,_,_,_,rfl,H,k1,hd.sm,by omega⟩
 by_cases Y:(0:Int)<(l.length:Int)
 .obtain ⟨f,O,h4,G,d0,d1,_⟩:=g_K (h:=h2) b0 b1 hb 3
  rw [dT_ Y,iP_ rfl,G,bd3_some,bd_some]
  simp only [un3]
  cases f with
  | false=>rw [iN_ (by simp),bd_some];exact fin l O h4 (by omega) d0 d1
  | true =>
   obtain ⟨x,i5,h5,W,f0,f1,hx⟩:=q_k (h:=h4) d0 d1 hb am
   rw [iP_ rfl,W,bd3_some,bd_some]
   exact fin x i5 h5 (by omega) f0 f1
 .rw [dF_ Y,iN_ (by simp),bd_some]
  simp only [un3]
  rw [iN_ (by simp),bd_some]
  exact fin l i2 h2 (by omega) b0 b1
theorem q_M {c:Bt}(hb:c.length<=MX){n:Nat}(hn:1048600<=n):∃d x,f_8 n c=some (d,x)/\SmD d/\x.length<=MX:=by
 have hMX:=MXv;unfold f_8 i_7;obtain ⟨G,H⟩:=m_e hb hn
 rw [H,bd_some]
 obtain ⟨d,x,W,h1,I,J,a1,hd,hx⟩:=q_L (c:=c) (i:=0) (h:=G) (by omega) (by omega) hb (n:=n) (by omega)
 rw [I,bd4_some]
 obtain ⟨f,Y,h2,L,O,b1,_⟩:=g_K (h:=h1) J a1 hb 12
 simp only
 rw [L,bd3_some]
 cases f with
 | false=>exact ⟨_,_,rfl,hd,hx⟩
 | true =>
  obtain ⟨d',i3,h3,V,c0,c1,hd'⟩:=any_ok (h:=h2) O b1 hb (n:=n) (by omega)
  rw [iP_ rfl,V,bd3_some,bd_some]
  exact ⟨_,_,rfl,hd',hx⟩
end Go.Vw
