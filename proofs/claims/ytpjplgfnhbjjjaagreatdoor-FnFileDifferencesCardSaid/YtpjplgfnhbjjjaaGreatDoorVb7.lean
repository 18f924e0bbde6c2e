
import Derived.Test.YtpjplgfnhbjjjaaGreatDoorVb6
namespace Go.Vw
open Go.RowKit Dat
section
variable {d:c_}
theorem o_f (hv:O_ d=true)(hd:SmD d):∀(m i:Nat)(v:Val)(p:Str),VP d.rules m i v->vsz m v<=100000->p.b.length+22 * m<=100000->∀n,m+2000<=n->∃l,j_J n d (i:Int) v p=some l/\l.length<=1+vsz m v/\0<l.length/\∀s∈l,s.b.length<=p.b.length+22 * m
 | 0,i,v,p,h,_,_,_,_=>h.elim
 | m+1,i,v,p,hV,hz,hp,n,hn=>by
  have hLIM:=X_;obtain ⟨n,rfl⟩:∃k,n=k+1:=⟨n - 1,by omega⟩;obtain ⟨hi,hO,hK⟩:=hV;have h40:=h_t hv hi hO;have hr:=a_O hv hi
  have hzl:lsz m v.items<=vsz (m+1) v:=by
   show _<=v.bytes.length+lsz m v.items
   omega
  show ∃l,f_S n (d_u n) d (i:Int) v p=some l/\_
  unfold f_S
  rcases c_U (σ:=List Str) (ρ:=List Str) (body:=λG=>(λJ=>bd (idx d.rules (i:Int)) λH=>bd (idx v.items ((G:Nat):Int)) λL=>bd (cat p (⟨[47]⟩:Str)) λO=>bd (a_D H v.number ((G:Nat):Int)) λV=>bd (c_M n H ((G:Nat):Int)) λW=>bd (cat O W) λY=>bd ((d_u n).spec_l18Paths d V L Y) λa0=>bd (app J a0) λa1=>some<|.next a1))
   (λk l=>l.length<=1+lsz m (v.items.take k)/\0<l.length/\∀s∈l,s.b.length<=p.b.length+22 * (m+1)) (λ_=>False) (n:=v.items.length)
   (by
    intro k l hk ⟨hl,I,hls⟩
    left
    obtain ⟨c,c1,c2,c3⟩:=hK k hk;have hsl:(D_ d.rules[i] k).b.length<=21:=i_G hr.kind k (by omega);have hzk:=d_H (m:=m)<|gE_ hk;have ht:=o_d m hk;have hle:=k_7 m v.items<|k+1;obtain ⟨q,e,hq,a2,hqs⟩:=o_f hv hd m c v.items[k] ⟨(p.b++[47])++(D_ d.rules[i] k).b⟩ c3 (by omega) (by simp only [List.length_append,lC_,List.length_nil];omega) n (by omega)
    rw [ix_ hi,bd_some,ix_ hk,bd_some,a_4 (by simp only [lC_,List.length_nil];omega),bd_some,b_O<|b_d hr.kind,bd_some,c1,e_L (by omega) _ k (by omega),bd_some,a_4 (by simp only [List.length_append,lC_,List.length_nil];omega),bd_some]
    rw [show (d_u n).spec_l18Paths d (c:Int) v.items[k] ⟨(p.b++[47])++(D_ d.rules[i] k).b⟩=some q from e,bd_some,b_r (by omega),bd_some]
    refine ⟨_,rfl,by rw [List.length_append];omega,by rw [List.length_append];omega,λs hs=>?_⟩
    rcases List.mem_append.1 hs with hs | hs
    .exact hls s hs
    .have h3:=hqs s hs
     simp only [List.length_append,lC_,List.length_nil] at h3
     omega)
   v.items.length 0 [p] (by omega) ⟨by simp,by simp,λs hs=>(by rw [List.mem_singleton] at hs;subst hs;omega)⟩ with ⟨l,e,hl,I,hls⟩ | ⟨_,_,hf⟩
  .have hle:=k_7 m v.items v.items.length
   rw [e,bd_some,el_inl]
   exact ⟨l,rfl,by omega,I,hls⟩
  .exact hf.elim
end
section
variable {c:Bt}{i h:Int}
theorem r_L (G:0<=i)(h1:i<=(c.length:Int))(hb:c.length<=MX){d:c_}(hd:DrD d){v:Val}(hv:O_ d=true)(hV:VP d.rules (d.rules.length - 1+1) (d.rules.length - 1) v)(hz:vsz 25 v<=100000){n:Nat}(hn:3000<=n):Dr c (e_l n ⟨c,i,h⟩ d v) (λs=>s.b.length<=300):=by
 have hLIM:=X_;have hf:=hd.few;have hs:=hd.some_;unfold e_l;have hu:=d_D v (show d.rules.length - 1+1<=25 by omega);obtain ⟨l,e,hl,J,hls⟩:=o_f hv hd.sm (d.rules.length - 1+1) (d.rules.length - 1) v ⟨[]⟩ hV (by omega) (by simp only [List.length_nil];omega) n (by omega)
 rw [b_i (by omega) (by omega),show (d.rules.length:Int) - 1=((d.rules.length - 1:Nat):Int) by omega,e,bd_some]
 refine (b_6 G h1 hb (show (0:Int)<(l.length:Int) by omega)).bd λx i h hx G h1=>?_
 rw [e_N hx.1 (by omega),bd_some]
 have hsl:=hls _<|gE_ (l:=l) (n:=x.toNat) (by omega);generalize l[x.toNat]'(by omega)=s at hsl
 have hsl:s.b.length<=205:=by simp only [List.length_nil] at hsl;omega
 refine (b_6 (n:=8) G h1 hb (by omega)).bd λy i h hy G h1=>?_
 by_cases H:(y==0)=true
 .rw [iP_ H]
  refine (g_y G h1 hb (by simp)).bd λt i h ht G h1=>?_
  have htl:t.b.length<=5:=by
   simp only [List.mem_cons,List.not_mem_nil,or_false] at ht
   rcases ht with rfl | rfl | rfl | rfl | rfl | rfl | rfl | rfl | rfl <;> decide
  rw [a_4 (by omega),bd_some]
  exact ⟨_,_,_,rfl,G,h1,by simp;omega⟩
 .rw [iN_ H]
  by_cases I:(y==1)=true
  .rw [iP_ I]
   refine (g_y G h1 hb (by simp)).bd λt i h ht G h1=>?_
   have htl:t.b.length<=5:=by
    simp only [List.mem_cons,List.not_mem_nil,or_false] at ht
    rcases ht with rfl | rfl | rfl | rfl | rfl <;> decide
   exact ⟨_,_,_,rfl,G,h1,by omega⟩
  .rw [iN_ I]
   exact ⟨_,_,_,rfl,G,h1,by omega⟩
end
section
variable {c:Bt}
theorem mx1200 {n:Nat}(hn:1100000<=n):MX+1200<=n:=by
 rw [MXv]
 omega
theorem o_g (hb:c.length<=MX){n:Nat}(hn:1100000<=n){i h:Int}(h0:0<=i)(h1:i<=(c.length:Int)):∃d v w i' h',h_H n ⟨c,i,h⟩=some (d,v,w,i',h')/\0<=i'/\i'<=(c.length:Int)/\DrD d/\(dep 25 v/\vsz 25 v<=6145)/\(dep 25 w/\vsz 25 w<=18435):=by
 have hMX:=MXv;unfold h_H;obtain ⟨d,v,p,r,i,h,e1,a0,a1,hd,ar,ax,hp,hr⟩:=r_G hb (n:=n) (by omega) (h:=h) h0 h1;have hf:=hd.few;have hs:=hd.some_;obtain ⟨v1,v2⟩:=d_E ar (show 6<=25 by omega)
 rw [e1]
 simp only [bd6_some]
 rw [b_i (by omega) (by omega),show (d.rules.length:Int) - 1=((d.rules.length - 1:Nat):Int) by omega]
 have made:∀{k:Nat}{x:Val},k<=5->Mk d k x->dep 25 x/\vsz 25 x<=6145:=λ{k x} hk hx=>by
  obtain ⟨m1,m2⟩:=o_8 hx;obtain ⟨q1,q2⟩:=d_E m1 (show k<=25 by omega);have ay:=l_m (show k<=5 by omega);have h4:(4:Nat) ^ 5=1024:=rfl;exact ⟨q1,by omega⟩
 obtain ⟨w0,i,h,e2,b0,b1,au⟩:=l_D hb hd (d.rules.length - 1) (by omega) n (by omega) i h 8 a0 a1 (by omega) (by omega)
 rw [e2,bd3_some]
 obtain ⟨w1,w2⟩:=made (by omega) au;obtain ⟨o,i,h,e3,f0,f1,_⟩:=h_y (h:=h) b0 b1 hb 3
 rw [e3,bd3_some]
 cases o
 .rw [Bool.not_false,iP_ rfl,d_M 25 v v1 (by omega) n (by omega),bd_some]
  obtain ⟨y,i,h,e4,g0,g1,hy⟩:=i_A (h:=h) f0 f1 hb 2
  rw [e4,bd3_some,show i_ 1 y=1+y from ia_ (by omega) (by omega)]
  obtain ⟨s',es,hs'⟩:=h_u (σ:=Int×Int×Int×Int×Bt×(List Val)) (ρ:=c_×Val×Val×Int×Int) (step:=un6 λW a2 a3 G H I=>bd (α:=Bool) (if (decide<|0<W) then bd (b_P n d ((d.rules.length - 1:Nat):Int) (⟨G,H,I⟩:Val)) λa7=>some a7 else some false) (λa8=>if a8 then bd3 (e_l n (⟨c,a2,a3⟩:p_) d (⟨G,H,I⟩:Val)) λa4 a5 a6=>bd3 (c_p n d (⟨G,H,I⟩:Val) a4) λav a9 aa=>bd (α:=Int×Int×Int×Bt×(List Val)) (if aa then bd (α:=Int×Int×Int×Bt×(List Val)) (bd3 (h_1 n (⟨c,a5,a6⟩:p_) d a9 5) λab ad ae=>bd2 (f_k n d (⟨G,H,I⟩:Val) a4 ab) λY aw=>some (ad,ae,Y.number,Y.bytes,Y.items)) (un5 λaf ah ai aj ak=>some (af,ah,ai,aj,ak)) else some (a5,a6,G,H,I)) (un5 λal am an ap aq=>some<|.next (l_ W 1,al,am,an,ap,aq)) else some (.brk (W,a2,a3,G,H,I))))
   (λs=>0<=s.1/\s.1<=2/\(0<=s.2.1/\s.2.1<=(c.length:Int))/\dep 25 (.mk s.2.2.2.1 s.2.2.2.2.1 s.2.2.2.2.2)/\(vsz 25 (.mk s.2.2.2.1 s.2.2.2.2.1 s.2.2.2.2.2):Int)<=6145+(2 - s.1) * 6145)
   (λs=>s.1.toNat)
   (λs=>(0<=s.2.1/\s.2.1<=(c.length:Int))/\dep 25 (.mk s.2.2.2.1 s.2.2.2.2.1 s.2.2.2.2.2)/\vsz 25 (.mk s.2.2.2.1 s.2.2.2.2.1 s.2.2.2.2.2)<=18435)
   (by
    rintro ⟨q,i,h,x,bs,l⟩ ⟨i0,i1,⟨L,O⟩,J,i5⟩
    simp only at i0 i1 L O J i5
    simp only [un6]
    have hsub:l_ q 1=q - 1:=b_i (by omega) (by omega)
    by_cases hq:0<q
    .have k1:0<=q - 1:=by omega
     have k2:q - 1<=2:=by omega
     have k3:(q - 1).toNat<q.toNat:=by omega
     have k4:(vsz 25 (.mk x bs l):Int)<=6145+(2 - (q - 1)) * 6145:=by omega
     rw [dT_ hq,iP_ rfl]
     obtain ⟨t,t1,_,t3⟩:=f_s hd.sm (i:=((d.rules.length - 1:Nat):Int)) (v:=.mk x bs l) (n:=n) (by omega)
     rw [t1,bd_some,bd_some]
     cases t
     .exact .inr ⟨_,rfl,⟨L,O⟩,J,by show vsz 25 (.mk x bs l)<=18435;omega⟩
     .left
      obtain ⟨hv,k,hk,hkl,hV⟩:=t3 rfl;have hkk:k=d.rules.length - 1:=by omega
      subst hkk;obtain ⟨p,i,h,ep,j0,V,hp⟩:=r_L (h:=h) L O hb hd hv hV (by omega) (n:=n) (by omega);obtain ⟨y1,r,ok,ef,hr⟩:=o_9 hd.sm (m:=25) (by omega) J (by omega) (p:=p) (by omega) (n:=n) (by omega)
      rw [iP_ rfl,ep,bd3_some,ef,bd3_some]
      cases ok
      .rw [iN_ (by simp),bd_some]
       simp only [un5]
       rw [hsub]
       exact ⟨_,rfl,⟨k1,k2,⟨j0,V⟩,J,k4⟩,k3⟩
      .obtain ⟨k',rfl,hk'⟩:∃k:Nat,r=(k:Int)/\k<d.rules.length:=hr.resolve_left λh=>by cases h.2
       obtain ⟨z,i,h,ez,m0,m1,hz⟩:=l_D hb hd k' hk' n (by omega) i h 5 j0 V (by omega) (by omega);obtain ⟨z1,z2⟩:=made (by omega) hz;have k5:vsz 25 z<=1000000:=by omega
       have k6:vsz 25 (.mk x bs l)<=100000:=by omega
       have k7:p.b.length<=MX:=by omega
       obtain ⟨⟨w',ok'⟩,g1,_,_,g4,g5⟩:=rep_G hd.sm (v:=.mk x bs l) (part:=z) (path:=p) (n:=n) z1 k5 J k6 k7<|mx1200 hn
       rw [iP_ rfl,ez,bd3_some,g1,bd2_some,bd_some]
       simp only [un5,bd_some]
       rw [hsub]
       simp only at g4 g5
       refine ⟨_,rfl,⟨k1,k2,⟨m0,m1⟩,?_,?_⟩,k3⟩
       .show dep 25 (.mk w'.number w'.bytes w'.items)
        rw [a_w];exact g4
       .show (vsz 25 (.mk w'.number w'.bytes w'.items):Int)<=6145+(2 - (q - 1)) * 6145
        rw [a_w];omega
    .rw [dF_ hq,iN_ (by simp),bd_some]
     exact .inr ⟨_,rfl,⟨L,O⟩,J,by show vsz 25 (.mk x bs l)<=18435;omega⟩)
   n (1+y,i,h,v.number,v.bytes,v.items) ⟨by omega,by omega,⟨g0,g1⟩,by rw [a_w];exact v1,by rw [a_w];omega⟩ (by simp only;omega)
  obtain ⟨q,i,h,x,bs,l⟩:=s';obtain ⟨⟨j0,V⟩,j2,j3⟩:=hs'
  rw [es,bd_some,el_inl]
  simp only [un6,bd_some,el_inl,un5]
  exact ⟨d,v,_,i,h,rfl,j0,V,hd,⟨v1,by omega⟩,j2,j3⟩
 .rw [nT_,iN_ (by simp),bd_some,el_inl]
  simp only [un5,a_w]
  exact ⟨d,v,w0,i,h,rfl,f0,f1,hd,⟨v1,by omega⟩,w1,by omega⟩
theorem o_h {c:j_}:∀{l:List j_},c∈l->1+vsz 25 c.part<=b_M l
 | x::l,h=>by
  rw [i_u]
  rcases List.mem_cons.1 h with rfl | h
  .omega
  .have:=o_h h
   omega
theorem copy24 {n:Nat}(hn:1100000<=n){l:List j_}(ht:f_t l)(hz:b_M l<=100000):i_J n l=some l:=by
 have hMX:=MXv;have hLIM:=X_;have hll:=h_v l
 have hpart:∀c∈l,vsz 25 c.part<=b_M l:=by
  intro c hc;have:=o_h hc
  omega
 unfold i_J;refine (congrArg (λz=>bd z _)<|c_h (λk=>l.take k) (n:=l.length) rfl<|λk hk=>?_).trans ?_
 .have hm:=gE_ hk;have:=hpart _ hm
  rw [ix_ hk,bd_some,bd_some,a_w,d_M 25 _ (ht _ hm).1 (by omega) n (by omega),bd_some,a_w,a_a (by rw [List.length_take];omega),bd_some,List.take_add_one,gG_ hk]
  rfl
 .rw [bd_some,el_inl,List.take_length]
theorem r_M (hb:c.length<=MX){n:Nat}(hn:1100000<=n):∃d v l,i_K n c=some (d,v,l)/\DrD d/\(dep 25 v/\vsz 25 v<=6145)/\f_t l/\b_M l<=40000:=by
 have hMX:=MXv;have hLIM:=X_;unfold i_K k_w;obtain ⟨I,J⟩:=o_J hb (n:=n) (by omega)
 rw [J,bd_some]
 obtain ⟨d,v,w,i,h,L,O,V,hd,hv,H,a2⟩:=o_g hb hn (i:=0) (h:=I) (by omega) (by omega)
 rw [L]
 simp only [bd5_some]
 obtain ⟨l,W,hl,hT,_⟩:=dv_ok hd.sm (v:=v) (w:=w) (n:=n) (by omega) H (by omega);have hll:=h_v l
 rw [W,bd_some]
 obtain ⟨y,i,h,Y,b0,b1,_⟩:=i_A (h:=h) O V hb 6
 rw [Y,bd3_some]
 by_cases hy:(y==0)=true
 .rw [iP_ hy]
  obtain ⟨s,i,h,e4,f0,f1,hs⟩:=g_y (h:=h) (l:=[(⟨[]⟩:Str),(⟨[47,48]⟩:Str),(⟨[47,110,111,110,101]⟩:Str)]) b0 b1 hb (by simp)
  rw [e4,bd3_some,a_a (by omega),bd_some,bd_some]
  have hsl:s.b.length<=5:=by
   simp only [List.mem_cons,List.not_mem_nil,or_false] at hs
   rcases hs with rfl | rfl | rfl <;> decide
  refine ⟨d,v,_,rfl,hd,hv,?_,?_⟩
  .intro q hq
   rcases List.mem_append.1 hq with hq | hq
   .exact hT q hq
   .obtain rfl:=List.mem_singleton.1 hq;exact ⟨λx hx=>(by cases hx),by show s.b.length<=MX;omega⟩
  .rw [l_n,i_u]
   show b_M l+(1+vsz 25 (.mk 0 [] [])+0)<=_
   have:vsz 25 (.mk 0 [] [])=0:=rfl
   omega
 .rw [iN_ hy]
  by_cases G:(y==1)=true
  .rw [iP_ G,copy24 hn hT (by omega),bd_some,b_r (by omega),bd_some,bd_some,bd_some]
   refine ⟨d,v,_,rfl,hd,hv,λq hq=>(List.mem_append.1 hq).elim (hT q) (hT q),by rw [l_n];omega⟩
  .rw [iN_ G,bd_some,bd_some]
   exact ⟨d,v,l,rfl,hd,hv,hT,by omega⟩
theorem r_N (hb:c.length<=MX){n:Nat}(hn:1100000<=n):∃d a b,i_I n c=some (d,a,b)/\SmD d:=by
 have hMX:=MXv;have hLIM:=X_;unfold i_I;obtain ⟨G,H⟩:=o_J hb (n:=n) (by omega)
 rw [H,bd_some]
 obtain ⟨d,v,w,i,h,I,J,L,hdd,⟨a2,a3⟩,a4,a5⟩:=o_g hb hn (i:=0) (h:=G) (by omega) (by omega);have hf:=hdd.few;have hs:=hdd.some_;have hd:=hdd.sm
 rw [I]
 simp only [bd5_some]
 rw [b_i (by omega) (by omega)]
 obtain ⟨t,O,_,V⟩:=f_s hd (i:=(d.rules.length:Int) - 1) (v:=v) (n:=n) (by omega);obtain ⟨s,s1,_,s3⟩:=f_s hd (i:=(d.rules.length:Int) - 1) (v:=w) (n:=n) (by omega)
 rw [O,s1,bd_some]
 cases t
 .exact ⟨d,[1],[],rfl,hd⟩
 cases s
 .exact ⟨d,[1],[],rfl,hd⟩
 obtain ⟨hv,k,hk,hkl,hV⟩:=V rfl;obtain ⟨_,k2,a6,_,hW⟩:=s3 rfl;have hkk:k2=k:=by omega
 subst hkk;have u1:=d_D v (show k2+1<=25 by omega);have u2:=d_D w (show k2+1<=25 by omega);obtain ⟨p,p1,_,W,_⟩:=n_Y hv hd (k2+1) k2 v hV (by omega);obtain ⟨q,q1,_,Y,_⟩:=n_Y hv hd (k2+1) k2 w hW (by omega)
 simp only [bd_some,nT_,bF_,fF_]
 rw [hk,W n (by omega),bd_some,Y n (by omega),bd_some]
 obtain ⟨o,i,h,e3,f0,f1,_⟩:=h_y (h:=h) J L hb 8
 rw [e3,bd3_some]
 cases o
 .exact ⟨d,p,q,rfl,hd⟩
 .rw [iP_ rfl,a_a (by omega),bd_some,bd_some]
  exact ⟨d,p,_,rfl,hd⟩
theorem r_O {n:Nat}(hn:4000000<=n)(c:Bt):i_N n c=some true:=by
 have hMX:=MXv;unfold i_N j_G
 rw [bd_some]
 by_cases h1:(1048576:Int)<(c.length:Int)
 .rw [dT_ h1];rfl
 rw [dF_ h1,iN_ (by simp)]
 obtain ⟨d,a,b,e,hd⟩:=r_N (c:=c) (by omega) (n:=n) (by omega)
 rw [e,bd3_some]
 obtain ⟨u,hu,_,u1,_,u3,u4⟩:=t_3 hd (b1:=a) (b2:=b) (n:=n) (by omega)
 rw [u1,bd_some,n_U hd (by omega),n_U hd (by omega),bd_some,bd_some]
 by_cases hab:okF d a=true/\okF d b=true
 .obtain ⟨ha,hb⟩:=hab;obtain ⟨l,l1,I⟩:=u3 ha hb
  rw [ha,hb]
  simp only [nT_,bF_,fF_,bd_some]
  rw [g_z hd (by omega),g_z hd (by omega)]
  obtain ⟨d2,v,cs,e2,hdd,⟨H,a2⟩,hT,hc⟩:=r_M (c:=c) (by omega) (n:=n) (by omega)
  rw [e2]
  obtain ⟨⟨w,ok⟩,w1,w2,w3⟩:=r_J hdd.sm (n:=n) (by omega) H hT (by omega);obtain ⟨V,a3⟩:=o_6 (d:=d) (b:=a);obtain ⟨d25',z25'⟩:=o_6 (d:=d) (b:=b);obtain ⟨l',l1',_,_,l4⟩:=dv_ok hd (v:=(a_6 d a).1) (w:=(a_6 d b).1) (n:=n) (by omega) d25' (by omega)
  rw [l1] at l1'
  obtain rfl:=Option.some.inj l1';obtain ⟨hv,W,hr,hroot,hrd,hval⟩:=f_r ha;obtain ⟨_,Y,_,_,J,hval2⟩:=f_r hb;have hnil:=l4 (by rw [hroot,hval.1];exact h_A hv hd W hr (Nat.zero_le _) hrd (by omega)) (by rw [hroot,hval2.1];exact h_A hv hd Y hr (Nat.zero_le _) J (by omega));obtain ⟨q,hq,hqe⟩:=l_V 25 (a_6 d a).1 (a_6 d b).1 V;have G:=(hq n (by omega)).1
  have hcount:i_L n d (a_6 d a).1 (a_6 d b).1=some (u.length:Int):=by
   unfold i_L
   rw [l1,bd_some,I]
  have hsame:i_5 n d a b=some q:=by
   unfold i_5
   rw [g_z hd (by omega),g_z hd (by omega)]
   have ea:((a_6 d a).2.2==0)=true:=ha;have eb:((a_6 d b).2.2==0)=true:=hb
   show bd (if ((a_6 d a).2.2==0) then if ((a_6 d b).2.2==0) then bd (d_v n (a_6 d a).1 (a_6 d b).1) λL=>some L else some false else some false) (λO=>some O)=_
   rw [ea,eb,iP_ rfl,iP_ rfl,G,bd_some,bd_some]
  have hlen:((u.length:Int)==0)=q:=by
   cases q with
   | true =>
    have:=hnil.2<|hqe rfl
    rw [I,this];rfl
   | false =>
    rw [beq_eq_false_iff_ne]
    intro h0;have a0:l=[]:=List.length_eq_zero_iff.1 (by omega);have hxy:=hnil.1 a0
    rw [hxy,l_P 25 _ d25' n (by omega)] at G
    cases G
  simp only [bd3_some]
  show bd3 (some<|a_6 d a) _=_
  rw [rf_all',rf_all',w1,w2]
  simp only [bd2_some]
  rw [hcount,bd_some,bQ_,iP_ rfl,hsame,bd_some,hlen,bQ_,iP_ rfl,bQ_,iP_ rfl]
  cases ok
  .obtain ⟨g1,g2⟩:=w3 rfl
   simp only at g1
   subst g1
   rw [iN_ (by simp),l_P 25 w H n (by omega),bd_some,iP_ rfl,g2,bd_some]
   rfl
  .rfl
 .have a1:=u4 hab;subst a1
  by_cases ha:okF d a=true
  .have hb:okF d b=false:=by
    cases h:okF d b
    .rfl
    .exact absurd ⟨ha,h⟩ hab
   rw [ha,hb]
   rfl
  .rw [show okF d a=false by simpa using ha]
   rfl
end
end Go.Vw
