
import Derived.Test.YtaccmlhgodgkaaaGreatDoorVb0
namespace Go.Vw
open Go.RowKit Dat
section
variable {c:Bt}
theorem q_q (hb:c.length<=MX){n:Nat}(hn:1048600<=n):∃d v p x,g_F n c=some (d,v,p,x)/\DrD d/\(dep 6 v/\vsz 6 v<=6145)/\p.b.length<=300/\(dep 6 x/\vsz 6 x<=6145):=by
 unfold g_F;obtain ⟨I,J⟩:=n_9 hb hn
 rw [J,bd_some]
 obtain ⟨d,v,p,r,i,h,L,O,V,hd,G,H,hp,hr⟩:=q_p hb hn (i:=0) (h:=I) (by omega) (by omega)
 rw [L]
 simp only [bd6_some]
 obtain ⟨y,i,h,W,Y,b1,hy⟩:=j_t (h:=h) O V hb 3
 rw [W,bd3_some]
 have flat:∀y:Int,dep 6 (.mk y [] [])/\vsz 6 (.mk y [] [])<=6145:=λy=>⟨λx hx=>(by cases hx),by
  have:vsz 6 (.mk y [] [])=0:=rfl
  omega⟩
 rcases hr with rfl | ⟨k,rfl,hk⟩
 .exact ⟨d,v,p,_,rfl,hd,⟨G,H⟩,hp,flat y⟩
 .rw [dT_ (show (0:Int)<=(k:Int) by omega),iP_ rfl]
  obtain ⟨o,i,h,e3,f0,f1,_⟩:=g_p (h:=h) Y b1 hb 5
  rw [e3]
  simp only [bd3_some,bd_some,un3]
  cases o
  .obtain ⟨x,i,h,e4,g0,g1,hx⟩:=n_b hb hd k hk n (by have:=hd.few;omega) i h 6 f0 f1 (by omega) (by omega)
   simp only [Bool.not_false,fT_]
   rw [e4]
   simp only [bd3_some,bd_some,un5,d_x]
   obtain ⟨m1,m2⟩:=m_G hx;have hf:=hd.few;obtain ⟨q1,q2⟩:=d_W m1 (show k<=6 by omega);have a2:=k_T (show k<=5 by omega);have h4:(4:Nat) ^ 5=1024:=rfl;exact ⟨d,v,p,x,rfl,hd,⟨G,H⟩,hp,q1,by omega⟩
  .exact ⟨d,v,p,_,rfl,hd,⟨G,H⟩,hp,flat y⟩
theorem q_r (hb:c.length<=MX){n:Nat}(hn:1048600<=n):∃d b p x,g_G n c=some (d,b,p,x)/\SmD d/\b.length<=MX/\p.b.length<=MX/\(dep 25 x/\vsz 25 x<=6145):=by
 have hMX:=MXv;unfold g_G;obtain ⟨H,e0⟩:=n_9 hb hn
 rw [e0,bd_some]
 obtain ⟨d,v,p,x,e1,hdd,⟨a3,Y⟩,hp,a0,I⟩:=q_q hb hn
 rw [e1]
 simp only [bd4_some]
 have hf:=hdd.few;have hs:=hdd.some_;have hd:=hdd.sm
 rw [b_E (by omega) (by omega)]
 obtain ⟨t,t1,_,t3⟩:=h_r hd (i:=(d.rules.length:Int) - 1) (v:=v) (n:=n) (by omega)
 rw [t1,bd_some]
 have hprint:∃o:Bt,(if t then bd (e_Z n d ((d.rules.length:Int) - 1) v) λJ=>some J else some ([]:Bt))=some o/\o.length<=300000:=by
  cases t
  .exact ⟨[],rfl,Nat.zero_le _⟩
  .obtain ⟨hv,k,hk,hkl,hV⟩:=t3 rfl;have hz:vsz (k+1) v<=6145:=Nat.le_trans (e_v v (show k+1<=6 by omega)) Y;obtain ⟨e,q1,_,q2,_⟩:=m_t hv hd (k+1) k v hV (by omega)
   rw [iP_ rfl,hk,q2 n (by omega),bd_some]
   exact ⟨e,rfl,by omega⟩
 obtain ⟨o,ho,hol⟩:=hprint
 rw [ho,bd_some]
 have G:=d_W a0 (show 6<=25 by omega)
 have fin:∀(q:Bool)(i h:Int),0<=i->i<=(c.length:Int)->∃d' b p' x',(bd (α:=Bt×Int×Int) (if q then bd3 (f_G (⟨c,i,h⟩:z_) o) λL O V=>some (L,O,V) else some (o,i,h))<|un3 λW a1 a2=>some (d,W,p,x))=some (d',b,p',x')/\SmD d'/\b.length<=MX/\p'.b.length<=MX/\(dep 25 x'/\vsz 25 x'<=6145):=by
  intro q i h H h1
  cases q
  .exact ⟨d,o,p,x,rfl,hd,by omega,by omega,G.1,by rw [G.2];exact I⟩
  .obtain ⟨y,i,h,e,_,_,hy⟩:=q_m (h:=h) H h1 hb (x:=o) (by omega)
   rw [iP_ rfl,e]
   exact ⟨d,y,p,x,rfl,hd,by omega,by omega,G.1,by rw [G.2];exact I⟩
 by_cases hpos:(0:Int)<(o.length:Int)
 .rw [dT_ hpos,iP_ rfl]
  obtain ⟨q,i,h,e,g0,g1,_⟩:=g_p (h:=H) (i:=0) (by omega) (by omega) hb 6
  rw [e]
  simp only [bd3_some,bd_some,un3]
  exact fin q i h g0 g1
 .rw [dF_ hpos]
  simp only [bF_,fF_,bd_some,un3]
  exact fin false 0 H (by omega) (by omega)
theorem q_s {n:Nat}(hn:4000000<=n)(c:Bt):g_H n c=some true:=by
 have hMX:=MXv;unfold g_H i_o
 rw [bd_some]
 by_cases h1:(1048576:Int)<(c.length:Int)
 .rw [dT_ h1];rfl
 rw [dF_ h1,iN_ (by simp)]
 obtain ⟨d,b,p,x,e,hd,hb,hp,G,V⟩:=q_r (c:=c) (by omega) (n:=n) (by omega)
 rw [e]
 simp only [bd4_some]
 obtain ⟨w,I,J,L,O⟩:=q_k hd hb (part:=x) (path:=p) (M:=25) (n:=n) (Nat.le_refl _) G (by omega) hp (by omega)
 rw [I,J]
 obtain ⟨o,ok⟩:=w
 simp only [bd2_some,bN_,bF_,fF_]
 cases ok
 .have:=L rfl
  simp only at this
  subst this
  simp only [Bool.not_false,fT_]
  rw [r_m,bd_some]
 .obtain ⟨g1,H⟩:=O rfl
  simp only at g1 H
  simp only [nT_,bF_,fF_]
  rw [q_Y hd (by omega) hp,H,bd2_some,q_1 hd (by omega),g1,bd_some,iP_ rfl,iP_ rfl,eqv_ok 25 x G n (by omega)]
  rfl
end
end Go.Vw
