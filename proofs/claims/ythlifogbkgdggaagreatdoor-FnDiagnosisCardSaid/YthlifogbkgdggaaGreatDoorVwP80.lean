
import Derived.Test.YthlifogbkgdggaaGreatDoorVwP79
import Derived.Test.YthlifogbkgdggaaGreatDoorVwP78
namespace Go.Vw
open Go.RowKit Dat
theorem DrE.push {rs:List g_}{q:g_}(h:DrE ⟨rs⟩)(hq:DrR rs.length q):DrE ⟨rs++[q]⟩:=by
 have hpos:0<rs.length:=h.some_;refine ⟨by simp,fun hh=>?_,fun j hj=>?_⟩
 ·simp only [List.getElem_append_left hpos];exact h.first hpos
 ·simp only [List.length_append,lC_,List.length_nil] at hj
  by_cases hlt:j<rs.length
  ·simp only [List.getElem_append_left hlt];exact h.each j hlt
  ·have hje:j=rs.length:=by omega
   subst hje
   simp only [List.getElem_concat_length];exact hq
theorem n_8 {c:List UInt8}{i h:Int}(h0:0<=i)(h1:i<=(c.length:Int))(hb:c.length<=MX){n:Nat}(hn:100<=n):∃d x i' h',f_1 n ⟨c,i,h⟩=some (d,x,i',h')/\0<=i'/\i'<=(c.length:Int)/\SmD d/\x.length<=MX:=by
 have hMX:=MXv;have hLIM:=a_v;unfold f_1;obtain ⟨d,i1,h1,e1,a0,a1,hd⟩:=m_I (h:=h) h0 h1 hb (n:=n) (by omega);have hf:=hd.few;have hs:=hd.some_
 rw [e1,bd3_some,a_y (by omega) (by omega),show (d.rules.length:Int) - 1=((d.rules.length - 1:Nat):Int) by omega]
 obtain ⟨v,i2,h2,e2,b0,b1,hv⟩:=m_M hb hd (d.rules.length - 1) (by omega) n (by omega) i1 h1 8 a0 a1 (by omega) (by omega)
 simp only
 rw [e2,bd3_some]
 obtain ⟨l,e3,hl⟩:=m_Q hd (d.rules.length - 1) v hv n (by omega);have am:l.length<=61440:=Nat.le_trans hl<|Bd_le (by omega)
 rw [e3,bd_some]
 have fin:∀(x:List UInt8)(i h:Int),x.length<=61441->0<=i->i<=(c.length:Int)->∃d' x' i' h',(bd3 (a_1 (⟨c,i,h⟩:n_) 24) fun I J L=>bd (α:=(List UInt8)×Int×Int) (if (I==0)=true then bd3 (a_1 (⟨c,J,L⟩:n_) 2) fun a2 a3 a4=>bd (mk0 (0:UInt8)<|h_ 400 a2) fun a5=>some (a5,a3,a4) else bd (α:=(List UInt8)×Int×Int) (if (I==1)=true then bd3 (a_1 (⟨c,J,L⟩:n_) 8) fun a6 a7 a8=>bd3 (c_x (⟨c,a7,a8⟩:n_) a6) fun a9 aa ab=>some (a9,aa,ab) else bd (α:=List UInt8) (if (I==2)=true then bd (psh x (92:UInt8)) fun ad=>some ad else some x) (fun ae=>some (ae,J,L))) (un3 fun af ah ai=>some (af,ah,ai)))<|un3 fun aj ak al=>some (d,aj,ak,al))=some (d',x',i',h')/\0<=i'/\i'<=(c.length:Int)/\SmD d'/\x'.length<=MX:=by
  intro x i h hx g0 g1;obtain ⟨k,i3,h3,e4,H,k1,hk⟩:=a_x (h:=h) g0 g1 hb (n:=24) (by omega)
  rw [e4,bd3_some]
  split
  ·obtain ⟨y,O,h4,G,V,m1,hy⟩:=a_x (h:=h3) H k1 hb (n:=2) (by omega)
   rw [G,bd3_some,ia_ (by omega) (by omega),k_p (by omega) (by omega),bd_some,bd_some]
   exact ⟨_,_,_,_,rfl,V,m1,hd.sm,by simp only [List.length_replicate];omega⟩
  ·split
   ·obtain ⟨y,O,h4,G,V,m1,hy⟩:=a_x (h:=h3) H k1 hb (n:=8) (by omega);obtain ⟨z,i5,h5,W,o0,o1,hz⟩:=f_g (h:=h4) V m1 hb (n:=y) (by omega)
    rw [G,bd3_some,W,bd3_some,bd_some]
    simp only [un3]
    rw [bd_some]
    exact ⟨_,_,_,_,rfl,o0,o1,hd.sm,by omega⟩
   ·split
    ·rw [a_F (by omega),bd_some,bd_some,bd_some]
     simp only [un3]
     rw [bd_some]
     exact ⟨_,_,_,_,rfl,H,k1,hd.sm,by simp only [List.length_append,lC_,List.length_nil];omega⟩
    ·rw [bd_some,bd_some]
     simp only [un3]
     rw [bd_some]
     exact ⟨_,_,_,_,rfl,H,k1,hd.sm,by omega⟩
 by_cases Y:(0:Int)<(l.length:Int)
 ·obtain ⟨f,O,h4,G,d0,d1,_⟩:=g_V (h:=h2) b0 b1 hb 3
  rw [dT_ Y,iP_ rfl,G,bd3_some,bd_some]
  simp only [un3]
  cases f with
  | false=>rw [iN_ (by simp),bd_some];exact fin l O h4 (by omega) d0 d1
  | true =>
   obtain ⟨x,i5,h5,W,f0,f1,hx⟩:=m_W (h:=h4) d0 d1 hb am
   rw [iP_ rfl,W,bd3_some,bd_some]
   exact fin x i5 h5 (by omega) f0 f1
 ·rw [dF_ Y,iN_ (by simp),bd_some]
  simp only [un3]
  rw [iN_ (by simp),bd_some]
  exact fin l i2 h2 (by omega) b0 b1
end Go.Vw
