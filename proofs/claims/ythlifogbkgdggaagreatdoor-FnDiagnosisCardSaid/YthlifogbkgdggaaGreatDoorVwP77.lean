
import Derived.Test.YthlifogbkgdggaaGreatDoorVwP75
namespace Go.Vw
open Go.RowKit Dat
section
variable {d:d_}{b:List UInt8}
theorem n_2 (hv:a_9 d=true)(hd:SmD d)(hb:b.length<=400){i:Nat}(hi:i<d.rules.length){p:Nat}(hp:p<=b.length)(hk:¬(5<=d.rules[i].kind/\d.rules[i].kind<=9)∨(∃c,O_ d.rules b d.rules[i] p = .inl c)∨(d.rules[i].kind=8/\∃num st,O_ d.rules b d.rules[i] p = .inr (num,[],st))){n:Nat}(hn:600<=n){rec:f_4}{path pa:Str}{ru:Int}:d_w n rec ⟨d,b,pa,ru⟩ path (i:Int) (p:Int)=some (path,(i:Int)):=by
 have hr:=c_m hv hi;have hMX:=MXv;unfold d_w
 simp only
 rw [ix_ hi,bd_some]
 generalize d.rules[i]=r at *
 have hkind:=hr.kind;have hal:=d_1 hkind;unfold O_ at hk
 by_cases h6:r.kind=6
 ·rw [h6] at hk
  rcases hk with h | ⟨c,h⟩ | ⟨h,_⟩
  ·omega
  ·cases h
  ·omega
 by_cases V:r.kind=9
 ·rw [V] at hk
  rcases hk with h | ⟨c,h⟩ | ⟨h,_⟩
  ·omega
  ·cases h
  ·omega
 rw [show (r.kind==6)=false by simpa using h6] at hk ⊢
 rw [show (r.kind==9)=false by simpa using V]
 simp only [bF_,fF_,bd_some] at hk ⊢
 by_cases W:r.kind=8
 ·rw [W] at hk ⊢
  simp only [show ((8:Int)==5)=false from rfl,show ((8:Int)==7)=false from rfl,bF_,fF_,bQ_,fT_] at hk ⊢
  cases hc:b[p]? with
  | none =>
   have:b.length<=p:=List.getElem?_eq_none_iff.1 hc
   rw [dF_ (show ¬(p:Int)<(b.length:Int) by omega)];rfl
  | some c =>
   have hlt:p<b.length:=(gS_.1 hc).1;have hbp:b[p]=c:=(gS_.1 hc).2;have hbc:byteI c=(c.toNat:Int):=rfl
   rw [hc] at hk
   simp only at hk
   have Y:byteI c ≠ 1:=by
    intro h1
    rw [iN_ (by omega)] at hk
    rcases hk with h | ⟨x,h⟩ | ⟨_,num,st,h⟩
    ·omega
    ·cases h
    ·rw [Sum.inr.injEq,Prod.mk.injEq,Prod.mk.injEq,show c.toNat=1 by omega] at h
     have:=h.2.1
     simp at this
   rw [dT_ (show (p:Int)<(b.length:Int) by omega),iP_ rfl,ix_ hlt,bd_some,hbp,bd_some]
   rw [show (byteI c==byteI (1:UInt8))=false by simpa [show byteI (1:UInt8)=1 from rfl] using Y];rfl
 rw [show (r.kind==8)=false by simpa using W] at hk ⊢
 simp only [bF_,fF_] at hk ⊢
 by_cases h5:r.kind=5
 ·have hl:=c_n hkind h5;have hq:=b_m hl.1;obtain ⟨G,_,hkl⟩:=a_U hq.1
  rw [h5] at hk ⊢
  simp only [show ((5:Int)==7)=false from rfl,bF_,fF_,bQ_,fT_,bd_some] at hk ⊢
  rw [b_9 (show 0<r.kids.length by omega),bd_some]
  cases hx:a_a b (F_ d.rules<|C_ r) p with
  | none =>
   have e:=i_b hv G hkl hp hq.2;unfold rdK at e
   rw [hx] at e
   rw [e_h hv hd hb (by omega) G (by omega) hp,e,bd2_some];rfl
  | some m =>
   rw [hx] at hk
   simp only at hk
   have hrg:=b_b hq.2 hx
   have a0:40<m:=by
    by_cases h:40<m
    ·exact h
    ·rw [iN_ h] at hk
     rcases hk with h | ⟨x,h⟩ | ⟨h,_⟩
     ·omega
     ·cases h
     ·omega
   obtain ⟨H,I,J,L⟩:=g_Z hv hd hb (n:=n) (by omega) hl.1 hp hx
   rw [H,bd2_some]
   simp only [bN_,bF_,fF_]
   rw [I,bd_some,bd_some,J,bd_some,L,bd_some,bd_some,dF_ (show ¬m<=40 by omega)];rfl
 rw [show (r.kind==5)=false by simpa using h5] at hk ⊢
 simp only [bF_,fF_,bd_some] at hk ⊢
 by_cases O:r.kind=7
 ·have hl:=c_o hkind O;have hq:=b_m hl.1;obtain ⟨G,_,hkl⟩:=a_U hq.1
  rw [O] at hk ⊢
  simp only [bQ_,fT_] at hk ⊢
  rw [b_9 (show 0<r.kids.length by omega),bd_some]
  cases hx:a_a b (F_ d.rules<|C_ r) p with
  | none =>
   have e:=i_b hv G hkl hp hq.2;unfold rdK at e
   rw [hx] at e
   rw [e_h hv hd hb (by omega) G (by omega) hp,e,bd2_some];rfl
  | some m =>
   rw [hx] at hk
   simp only at hk
   have hrg:=b_b hq.2 hx
   have ht:a_w r.tags m=none:=by
    cases h:a_w r.tags m with
    | none=>rfl
    | some k =>
     rw [h] at hk
     rcases hk with h | ⟨x,h⟩ | ⟨h,_⟩
     ·omega
     ·cases h
     ·omega
   obtain ⟨H,I,J,L⟩:=g_Z hv hd hb (n:=n) (by omega) hl.1 hp hx
   rw [H,bd2_some]
   simp only [bN_,bF_,fF_]
   rw [I,bd_some,bd_some,J,bd_some,L,bd_some,bd_some,k_h,bd_some,ht];rfl
 ·rw [show (r.kind==7)=false by simpa using O];rfl
end
end Go.Vw
