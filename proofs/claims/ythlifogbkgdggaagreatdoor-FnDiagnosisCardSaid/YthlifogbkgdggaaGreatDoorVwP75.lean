
import Derived.Test.YthlifogbkgdggaaGreatDoorVwP74
namespace Go.Vw
open Go.RowKit Dat
section
variable {d:d_}{b:List UInt8}
theorem k_h (l:List Int)(x:Int):f_3 l x=some (match a_w l x with | some k=>(k:Int) | none=>-1):=by
 unfold f_3 g_C a_w
 rw [f_k (fun k=>l.getD k 0==x) (fun k=>(k:Int))]
 ·cases (List.range l.length).find? (fun k=>l.getD k 0==x) <;> rfl
 ·intro k hk _
  rw [ix_ hk,bd_some,bd_some,a_m hk]
  cases (l[k]==x) <;> rfl
theorem g_Z (hv:a_9 d=true)(hd:SmD d)(hb:b.length<=400){n:Nat}(hn:500<=n){k:Int}(hl:0<lim d.rules k){p:Nat}(hp:p<=b.length){x:Int}(hx:a_a b (F_ d.rules k) p=some x):c_N n (⟨d.rules⟩:d_) k b (p:Int)=some (((p+(F_ d.rules k).size.toNat:Nat):Int),0)/\slc b (p:Int) ((p+(F_ d.rules k).size.toNat:Nat):Int)=some (b_l b p<|p+(F_ d.rules k).size.toNat)/\idx d.rules k=some (F_ d.rules k)/\d_N (b_l b p<|p+(F_ d.rules k).size.toNat) (F_ d.rules k).little=some x:=by
 have hq:=b_m hl;obtain ⟨G,_,hk⟩:=a_U hq.1;have hr:=b_b hq.2 hx;have hs:=hq.2.2;have e:=i_b hv G hk hp hq.2;unfold rdK at e
 rw [hx] at e
 refine ⟨?_,e_d (by omega) hr.2.2,hq.1,?_⟩
 ·rw [e_h hv hd hb hn G (by omega) hp,e]
 ·rw [j_W _ _ (by rw [e_e hr.2.2];omega)]
  unfold a_a at hx
  split at hx
  ·cases hx
  ·exact hx
theorem k_i (hv:a_9 d=true)(hd:SmD d)(hb:b.length<=400){i:Nat}(hi:i<d.rules.length){p:Nat}(hp:p<=b.length)(hk:5<=d.rules[i].kind/\d.rules[i].kind<=9){num:Int}{ks:List Int}{st:Nat}(hh:O_ d.rules b d.rules[i] p = .inr (num,ks,st))(hne:d.rules[i].kind=8->ks ≠ []){n:Nat}(hn:600<=n){rec:f_4}{path pa:Str}{ru:Int}{G:Int}{H:Bool}{x:Str×Int}
  (hK:rec.impl_tracer_kids ⟨d,b,path,(i:Int)⟩ path (i:Int) ks (st:Int)=some (G,H,x.1,x.2)):d_w n rec ⟨d,b,pa,ru⟩ path (i:Int) (p:Int)=some x:=by
 have hr:=c_m hv hi;have hMX:=MXv;unfold d_w
 simp only
 rw [ix_ hi,bd_some]
 generalize d.rules[i]=r at *
 have hkind:=hr.kind;have hkk:=g_T hkind hk hp hh;have a0:=hkk.2.2.1;have a3:=hkk.2.1;unfold O_ at hh
 by_cases h6:r.kind=6
 ·rw [h6] at hh ⊢
  simp only [show ((6:Int)==5)=false from rfl,bF_,fF_,bQ_,fT_,bd_some] at hh ⊢
  cases hh
  rw [hK];rfl
 by_cases J:r.kind=9
 ·have h1:=k_8<|c_5 hkind<|.inr J
  rw [J] at hh ⊢
  simp only [show ((9:Int)==5)=false from rfl,show ((9:Int)==6)=false from rfl,show ((9:Int)==7)=false from rfl,show ((9:Int)==8)=false from rfl,bF_,fF_,bQ_,fT_,bd_some] at hh ⊢
  cases hh
  rw [h1,hK];rfl
 rw [show (r.kind==6)=false by simpa using h6] at hh ⊢
 rw [show (r.kind==9)=false by simpa using J]
 simp only [bF_,fF_,bd_some] at hh ⊢
 by_cases I:r.kind=8
 ·have h1:=k_8<|c_5 hkind<|.inl I
  rw [I] at hh ⊢
  simp only [show ((8:Int)==5)=false from rfl,show ((8:Int)==7)=false from rfl,bF_,fF_,bQ_,fT_,bd_some] at hh ⊢
  cases hc:b[p]? with
  | none=>rw [hc] at hh;cases hh
  | some c =>
   rw [hc] at hh
   simp only at hh
   have hlt:p<b.length:=(gS_.1 hc).1;have hbp:b[p]=c:=(gS_.1 hc).2
   split at hh
   ·cases hh
   ·rename_i hcc
    cases hh
    have hbc:byteI c=(c.toNat:Int):=rfl
    have Y:c.toNat=1:=by
     have:c.toNat ≠ 0:=fun h=>hne I (by rw [h];rfl)
     omega
    rw [Y] at hK
    rw [dT_ (show (p:Int)<(b.length:Int) by omega),iP_ rfl,ix_ hlt,bd_some,hbp,bd_some]
    rw [show (byteI c==byteI (1:UInt8))=true by rw [hbc,Y];rfl,iP_ rfl,ia_ (by omega) (by omega)]
    rw [show ((p:Int)+1)=((p+1:Nat):Int) by omega,h1]
    rw [show rec.impl_tracer_kids ⟨⟨d.rules⟩,b,path,(i:Int)⟩ path (i:Int) [r.kids.getD 0 0] ((p+1:Nat):Int)=some (G,H,x.1,x.2) from hK]
    rfl
 rw [show (r.kind==8)=false by simpa using I] at hh ⊢
 simp only [bF_,fF_] at hh ⊢
 by_cases h5:r.kind=5
 ·have hl:=c_n hkind h5
  rw [h5] at hh ⊢
  simp only [show ((5:Int)==7)=false from rfl,bF_,fF_,bQ_,fT_,bd_some] at hh ⊢
  cases hx:a_a b (F_ d.rules<|C_ r) p with
  | none=>rw [hx] at hh;cases hh
  | some m =>
   rw [hx] at hh
   simp only at hh
   have hrg:=b_b (b_m hl.1).2 hx
   split at hh
   ·cases hh
   ·rename_i a4
    cases hh
    obtain ⟨L,O,V,W⟩:=g_Z hv hd hb (n:=n) (by omega) hl.1 hp hx
    rw [b_9 (show 0<r.kids.length by omega),bd_some,L,bd2_some]
    simp only [bN_,bF_,fF_]
    rw [O,bd_some,bd_some,V,bd_some,W,bd_some,bd_some,dT_ (show m<=40 by omega),iP_ rfl]
    rw [k_p (by omega) (by rw [a_v];omega),bd_some,List.length_replicate]
    rw [m_V (x:=r.kids.getD 1 0) (by rw [h_2 (by omega),a_m (by omega)]) m.toNat]
    simp only [bd_some,el_inl]
    rw [show rec.impl_tracer_kids ⟨⟨d.rules⟩,b,path,(i:Int)⟩ path (i:Int) (List.replicate m.toNat<|r.kids.getD 1 0) ((p+(F_ d.rules<|C_ r).size.toNat:Nat):Int)=some (G,H,x.1,x.2) from hK]
    rfl
 have h7:r.kind=7:=by omega
 have hl:=c_o hkind h7
 rw [h7] at hh ⊢
 simp only [show ((7:Int)==5)=false from rfl,bF_,fF_,bQ_,fT_,bd_some] at hh ⊢
 cases hx:a_a b (F_ d.rules<|C_ r) p with
 | none=>rw [hx] at hh;cases hh
 | some m =>
  rw [hx] at hh
  simp only at hh
  have hrg:=b_b (b_m hl.1).2 hx
  cases ht:a_w r.tags m with
  | none=>rw [ht] at hh;cases hh
  | some k =>
   rw [ht] at hh
   cases hh
   have hkt:=g_S ht;obtain ⟨L,O,V,W⟩:=g_Z hv hd hb (n:=n) (by omega) hl.1 hp hx
   rw [b_9 (show 0<r.kids.length by omega),bd_some,L,bd2_some]
   simp only [bN_,bF_,fF_]
   rw [O,bd_some,bd_some,V,bd_some,W,bd_some,bd_some,k_h,bd_some,ht]
   simp only
   rw [dT_ (show (0:Int)<=(k:Int) by omega),iP_ rfl,ia_ (x:=(k:Int)) (y:=1) (by omega) (by omega)]
   rw [show ((k:Int)+1)=((k+1:Nat):Int) by omega,m_T (show k+1<r.kids.length by omega) (by omega),bd_some]
   rw [show rec.impl_tracer_kids ⟨⟨d.rules⟩,b,path,(i:Int)⟩ path (i:Int) [r.kids.getD (k+1) 0] ((p+(F_ d.rules<|C_ r).size.toNat:Nat):Int)=some (G,H,x.1,x.2) from hK]
   rfl
end
end Go.Vw
