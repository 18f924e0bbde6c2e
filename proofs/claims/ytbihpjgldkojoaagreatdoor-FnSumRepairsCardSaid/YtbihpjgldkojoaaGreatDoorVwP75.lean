
import Derived.Test.YtbihpjgldkojoaaGreatDoorVwP74
namespace Go.Vw
open Go.RowKit Dat
section
variable {d:g_}{b:Bt}
theorem m_x (l:List Int)(x:Int):g_r l x=some (match a_L l x with | some k=>(k:Int) | none=>-1):=by
 unfold g_r i_r a_L
 rw [e_G (λk=>l.getD k 0==x) (λk=>(k:Int))]
 .cases (List.range l.length).find? (λk=>l.getD k 0==x) <;> rfl
 .intro k hk _
  rw [ix_ hk,bd_some,bd_some,a_j hk]
  cases (l[k]==x) <;> rfl
theorem i_V (hv:a_2 d=true)(hd:SmD d)(hb:b.length<=400){n:Nat}(hn:500<=n){k:Int}(hl:0<lim d.rules k){p:Nat}(hp:p<=b.length){x:Int}(hx:Y_ b (E_ d.rules k) p=some x):c_M n (⟨d.rules⟩:g_) k b (p:Int)=some (((p+(E_ d.rules k).size.toNat:Nat):Int),0)/\slc b (p:Int) ((p+(E_ d.rules k).size.toNat:Nat):Int)=some (piece b p<|p+(E_ d.rules k).size.toNat)/\idx d.rules k=some (E_ d.rules k)/\d_D (piece b p<|p+(E_ d.rules k).size.toNat) (E_ d.rules k).little=some x:=by
 have hq:=b_i hl;obtain ⟨G,_,hk⟩:=a_M hq.1;have hr:=b_k hq.2 hx;have hs:=hq.2.2;have e:=i_J hv G hk hp hq.2;unfold rdK at e
 rw [hx] at e
 refine ⟨?_,c_d (by omega) hr.2.2,hq.1,?_⟩
 .rw [e_C hv hd hb hn G (by omega) hp,e]
 .rw [i_G _ _ (by rw [c_J hr.2.2];omega)]
  unfold Y_ at hx
  split at hx
  .cases hx
  .exact hx
theorem k_x (hv:a_2 d=true)(hd:SmD d)(hb:b.length<=400){i:Nat}(hi:i<d.rules.length){p:Nat}(hp:p<=b.length)(hk:5<=d.rules[i].kind/\d.rules[i].kind<=9){num:Int}{ks:List Int}{st:Nat}(hh:Q_ d.rules b d.rules[i] p = .inr (num,ks,st))(hne:d.rules[i].kind=8->ks ≠ []){n:Nat}(hn:600<=n){rec:g_s}{path pa:Str}{ru:Int}{a1:Int}{a2:Bool}{x:Str×Int}
  (hK:rec.impl_tracer_kids ⟨d,b,path,(i:Int)⟩ path (i:Int) ks (st:Int)=some (a1,a2,x.1,x.2)):e_t n rec ⟨d,b,pa,ru⟩ path (i:Int) (p:Int)=some x:=by
 have hr:=b_V hv hi;have hMX:=MXv;unfold e_t
 simp only
 rw [ix_ hi,bd_some]
 generalize d.rules[i]=r at *
 have hkind:=hr.kind;have hkk:=e_A hkind hk hp hh;have Y:=hkk.2.2.1;have a0:=hkk.2.1;unfold Q_ at hh
 by_cases h6:r.kind=6
 .rw [h6] at hh ⊢
  simp only [show ((6:Int)==5)=false from rfl,bF_,fF_,bQ_,fT_,bd_some] at hh ⊢
  cases hh
  rw [hK];rfl
 by_cases H:r.kind=9
 .have h1:=g_M<|b_P hkind<|.inr H
  rw [H] at hh ⊢
  simp only [show ((9:Int)==5)=false from rfl,show ((9:Int)==6)=false from rfl,show ((9:Int)==7)=false from rfl,show ((9:Int)==8)=false from rfl,bF_,fF_,bQ_,fT_,bd_some] at hh ⊢
  cases hh
  rw [h1,hK];rfl
 rw [show (r.kind==6)=false by simpa using h6] at hh ⊢
 rw [show (r.kind==9)=false by simpa using H]
 simp only [bF_,fF_,bd_some] at hh ⊢
 by_cases G:r.kind=8
 .have h1:=g_M<|b_P hkind<|.inl G
  rw [G] at hh ⊢
  simp only [show ((8:Int)==5)=false from rfl,show ((8:Int)==7)=false from rfl,bF_,fF_,bQ_,fT_,bd_some] at hh ⊢
  cases hc:b[p]? with
  | none=>rw [hc] at hh;cases hh
  | some c =>
   rw [hc] at hh
   simp only at hh
   have hlt:p<b.length:=(gS_.1 hc).1;have hbp:b[p]=c:=(gS_.1 hc).2
   split at hh
   .cases hh
   .rename_i hcc
    cases hh
    have hbc:byteI c=(c.toNat:Int):=rfl
    have V:c.toNat=1:=by
     have:c.toNat ≠ 0:=λh=>hne G (by rw [h];rfl)
     omega
    rw [V] at hK
    rw [dT_ (show (p:Int)<(b.length:Int) by omega),iP_ rfl,ix_ hlt,bd_some,hbp,bd_some]
    rw [show (byteI c==byteI (1:UInt8))=true by rw [hbc,V];rfl,iP_ rfl,ia_ (by omega) (by omega)]
    rw [show ((p:Int)+1)=((p+1:Nat):Int) by omega,h1]
    rw [show rec.impl_tracer_kids ⟨⟨d.rules⟩,b,path,(i:Int)⟩ path (i:Int) [r.kids.getD 0 0] ((p+1:Nat):Int)=some (a1,a2,x.1,x.2) from hK]
    rfl
 rw [show (r.kind==8)=false by simpa using G] at hh ⊢
 simp only [bF_,fF_] at hh ⊢
 by_cases h5:r.kind=5
 .have hl:=d_2 hkind h5
  rw [h5] at hh ⊢
  simp only [show ((5:Int)==7)=false from rfl,bF_,fF_,bQ_,fT_,bd_some] at hh ⊢
  cases hx:Y_ b (E_ d.rules<|D_ r) p with
  | none=>rw [hx] at hh;cases hh
  | some m =>
   rw [hx] at hh
   simp only at hh
   have hrg:=b_k (b_i hl.1).2 hx
   split at hh
   .cases hh
   .rename_i a3
    cases hh
    obtain ⟨I,J,L,O⟩:=i_V hv hd hb (n:=n) (by omega) hl.1 hp hx
    rw [b_l (show 0<r.kids.length by omega),bd_some,I,bd2_some]
    simp only [bN_,bF_,fF_]
    rw [J,bd_some,bd_some,L,bd_some,O,bd_some,bd_some,dT_ (show m<=40 by omega),iP_ rfl]
    rw [k_D (by omega) (by rw [a_w];omega),bd_some,List.length_replicate]
    rw [m_n (x:=r.kids.getD 1 0) (by rw [f_v (by omega),a_j (by omega)]) m.toNat]
    simp only [bd_some,el_inl]
    rw [show rec.impl_tracer_kids ⟨⟨d.rules⟩,b,path,(i:Int)⟩ path (i:Int) (List.replicate m.toNat<|r.kids.getD 1 0) ((p+(E_ d.rules<|D_ r).size.toNat:Nat):Int)=some (a1,a2,x.1,x.2) from hK]
    rfl
 have W:r.kind=7:=by omega
 have hl:=d_u hkind W
 rw [W] at hh ⊢
 simp only [show ((7:Int)==5)=false from rfl,bF_,fF_,bQ_,fT_,bd_some] at hh ⊢
 cases hx:Y_ b (E_ d.rules<|D_ r) p with
 | none=>rw [hx] at hh;cases hh
 | some m =>
  rw [hx] at hh
  simp only at hh
  have hrg:=b_k (b_i hl.1).2 hx
  cases ht:a_L r.tags m with
  | none=>rw [ht] at hh;cases hh
  | some k =>
   rw [ht] at hh
   cases hh
   have hkt:=g_I ht;obtain ⟨I,J,L,O⟩:=i_V hv hd hb (n:=n) (by omega) hl.1 hp hx
   rw [b_l (show 0<r.kids.length by omega),bd_some,I,bd2_some]
   simp only [bN_,bF_,fF_]
   rw [J,bd_some,bd_some,L,bd_some,O,bd_some,bd_some,m_x,bd_some,ht]
   simp only
   rw [dT_ (show (0:Int)<=(k:Int) by omega),iP_ rfl,ia_ (x:=(k:Int)) (y:=1) (by omega) (by omega)]
   rw [show ((k:Int)+1)=((k+1:Nat):Int) by omega,m_m (show k+1<r.kids.length by omega) (by omega),bd_some]
   rw [show rec.impl_tracer_kids ⟨⟨d.rules⟩,b,path,(i:Int)⟩ path (i:Int) [r.kids.getD (k+1) 0] ((p+(E_ d.rules<|D_ r).size.toNat:Nat):Int)=some (a1,a2,x.1,x.2) from hK]
   rfl
end
end Go.Vw
