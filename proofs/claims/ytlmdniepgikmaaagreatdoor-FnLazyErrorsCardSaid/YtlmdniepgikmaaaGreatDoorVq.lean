
import Derived.Test.YtlmdniepgikmaaaGreatDoorVp
import Derived.Test.YtlmdniepgikmaaaGreatDoorVi
namespace Go.Vw
open Go.RowKit Dat
section
variable {b:Bt}{i h:Int}
end
theorem one_ok {c:Bt}(hb:c.length<=MX){n:Nat}(hn:1048600<=n):∃d b p,g_o n c=some (d,b,p)/\SmD d/\b.length<=MX/\p.b.length<=400:=by
 have hMX:=MXv;unfold g_o;obtain ⟨h0,e0⟩:=n_o hb hn
 rw [e0,bd_some]
 obtain ⟨d,i1,h1,e1,a0,a1,hd⟩:=l_8 (i:=0) (h:=h0) (by omega) (by omega) hb (n:=n) (by omega);have hf:=hd.few;have hs:=hd.some_
 rw [e1,bd3_some,a_Y (by omega) (by omega),show (d.rules.length:Int) - 1=((d.rules.length - 1:Nat):Int) by omega]
 obtain ⟨v,i2,h2,e2,b0,b1,hv⟩:=n_r hb hd (d.rules.length - 1) (by omega) n (by omega) i1 h1 10 a0 a1 (by omega) (by omega)
 simp only
 rw [e2,bd3_some]
 obtain ⟨b,e3,hbl⟩:=l_9 hd (d.rules.length - 1) v hv n (by omega);have hbl:b.length<=61440:=Nat.le_trans hbl<|j_j (by omega)
 rw [e3,bd_some]
 obtain ⟨p,i3,h3,e4,O,V,hp⟩:=r_W (h:=h2) b0 b1 hb hd hv (n:=n) (by omega)
 rw [e4,bd3_some]
 have fin:∀(x:Bt)(i h:Int),x.length<=MX->0<=i->i<=(c.length:Int)->∃d' b' p',(bd3 (d_8 (⟨c,i,h⟩:w_) 20) λa2 I J=>bd (α:=Int×Int×(List d_)) (if a2 then bd3 (f_m n (⟨c,I,J⟩:w_)) λa3 a4 a5=>some (a4,a5,a3.rules) else some (I,J,d.rules))<|un3 λa7 a8 a6=>some ((⟨a6⟩:f_),x,p))=some (d',b',p')/\SmD d'/\b'.length<=MX/\p'.b.length<=400:=by
  intro x i h hx g0 g1;obtain ⟨f,W,h5,G,f0,H,_⟩:=g_S (h:=h) g0 g1 hb 20
  rw [G,bd3_some]
  cases f with
  | false=>exact ⟨_,_,_,rfl,hd.sm,hx,by omega⟩
  | true =>
   obtain ⟨d',i6,h6,e7,k0,k1,hd'⟩:=any_ok (h:=h5) f0 H hb (n:=n) (by omega)
   rw [iP_ rfl,e7,bd3_some,bd_some]
   exact ⟨_,_,_,rfl,hd',hx,by omega⟩
 by_cases L:(0:Int)<(b.length:Int)
 .obtain ⟨f,i4,h4,e5,Y,d1,_⟩:=g_S (h:=h3) O V hb 3
  rw [dT_ L,iP_ rfl,e5,bd3_some,bd_some]
  simp only [un3]
  cases f with
  | false=>rw [iN_ (by simp),bd_some];exact fin b i4 h4 (by omega) Y d1
  | true =>
   obtain ⟨x,W,h5,G,f0,H,hx⟩:=s_7 (h:=h4) Y d1 hb hbl
   rw [iP_ rfl,G,bd3_some,bd_some]
   exact fin x W h5 (by omega) f0 H
 .rw [dF_ L,iN_ (by simp),bd_some]
  simp only [un3]
  rw [iN_ (by simp),bd_some]
  exact fin b i3 h3 (by omega) O V
end Go.Vw
