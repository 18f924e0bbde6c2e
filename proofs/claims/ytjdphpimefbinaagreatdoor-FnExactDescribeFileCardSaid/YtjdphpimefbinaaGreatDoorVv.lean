
import Derived.Test.YtjdphpimefbinaaGreatDoorVu
namespace Go.Vw
open Go.RowKit Dat
section
variable {d:c_}{b:Bt}
theorem o_R (l:List Int)(x:Int):h_j l x=some (match a_H l x with | some k=>(k:Int) | none=>-1):=by
 unfold h_j j_T a_H
 rw [f_q (λk=>l.getD k 0==x) (λk=>(k:Int))]
 .cases (List.range l.length).find? (λk=>l.getD k 0==x) <;> rfl
 .intro k hk _
  rw [ix_ hk,bd_some,bd_some,a_1 hk]
  cases (l[k]==x) <;> rfl
theorem k_q (hv:G_ d=true)(hd:SmD d)(hb:b.length<=400){n:Nat}(hn:500<=n){k:Int}(hl:0<lim d.rules k){p:Nat}(hp:p<=b.length){x:Int}(hx:S_ b (z_ d.rules k) p=some x):d_d n (⟨d.rules⟩:c_) k b (p:Int)=some (((p+(z_ d.rules k).size.toNat:Nat):Int),0)/\slc b (p:Int) ((p+(z_ d.rules k).size.toNat:Nat):Int)=some (a_c b p<|p+(z_ d.rules k).size.toNat)/\idx d.rules k=some (z_ d.rules k)/\e_h (a_c b p<|p+(z_ d.rules k).size.toNat) (z_ d.rules k).little=some x:=by
 have hq:=b_b hl;obtain ⟨G,_,hk⟩:=a_k hq.1;have hr:=b_e hq.2 hx;have hs:=hq.2.2;have e:=k_e hv G hk hp hq.2;unfold rdK at e
 rw [hx] at e
 refine ⟨?_,c_z (by omega) hr.2.2,hq.1,?_⟩
 .rw [g_g hv hd hb hn G (by omega) hp,e]
 .rw [k_8 _ _ (by rw [c_A hr.2.2];omega)]
  unfold S_ at hx
  split at hx
  .cases hx
  .exact hx
theorem o_S (hv:G_ d=true)(hd:SmD d)(hb:b.length<=400){i:Nat}(hi:i<d.rules.length){p:Nat}(hp:p<=b.length)(hk:5<=d.rules[i].kind/\d.rules[i].kind<=9){num:Int}{ks:List Int}{st:Nat}(hh:H_ d.rules b d.rules[i] p = .inr (num,ks,st))(hne:d.rules[i].kind=8->ks ≠ []){n:Nat}(hn:600<=n){rec:h_k}{path pa:Str}{ru:Int}{G:Int}{a2:Bool}{x:Str×Int}
  (hK:rec.impl_tracer_kids ⟨d,b,path,(i:Int)⟩ path (i:Int) ks (st:Int)=some (G,a2,x.1,x.2)):f_e n rec ⟨d,b,pa,ru⟩ path (i:Int) (p:Int)=some x:=by
 have hr:=a_r hv hi;have hMX:=MXv;unfold f_e
 simp only
 rw [ix_ hi,bd_some]
 generalize d.rules[i]=r at *
 have hkind:=hr.kind;have hkk:=e_D hkind hk hp hh;have a0:=hkk.2.2.1;have a3:=hkk.2.1;unfold H_ at hh
 by_cases h6:r.kind=6
 .rw [h6] at hh ⊢
  simp only [show ((6:Int)==5)=false from rfl,bF_,fF_,bQ_,fT_,bd_some] at hh ⊢
  cases hh
  rw [hK];rfl
 by_cases I:r.kind=9
 .have h1:=k_n<|c_p hkind<|.inr I
  rw [I] at hh ⊢
  simp only [show ((9:Int)==5)=false from rfl,show ((9:Int)==6)=false from rfl,show ((9:Int)==7)=false from rfl,show ((9:Int)==8)=false from rfl,bF_,fF_,bQ_,fT_,bd_some] at hh ⊢
  cases hh
  rw [h1,hK];rfl
 rw [show (r.kind==6)=false by simpa using h6] at hh ⊢
 rw [show (r.kind==9)=false by simpa using I]
 simp only [bF_,fF_,bd_some] at hh ⊢
 by_cases H:r.kind=8
 .have h1:=k_n<|c_p hkind<|.inl H
  rw [H] at hh ⊢
  simp only [show ((8:Int)==5)=false from rfl,show ((8:Int)==7)=false from rfl,bF_,fF_,bQ_,fT_,bd_some] at hh ⊢
  cases hc:b[p]? with
  | none=>rw [hc] at hh;cases hh
  | some c =>
   rw [hc] at hh
   simp only at hh
   have hlt:p<b.length:=(gS_.1 hc).1;have hbp:b[p]=c:=(gS_.1 hc).2
   split at hh
   .cases hh
   .rename_i hcc
    cases hh
    have hbc:byteI c=(c.toNat:Int):=rfl
    have W:c.toNat=1:=by
     have:c.toNat ≠ 0:=λh=>hne H (by rw [h];rfl)
     omega
    rw [W] at hK
    rw [dT_ (show (p:Int)<(b.length:Int) by omega),iP_ rfl,ix_ hlt,bd_some,hbp,bd_some]
    rw [show (byteI c==byteI (1:UInt8))=true by rw [hbc,W];rfl,iP_ rfl,ia_ (by omega) (by omega)]
    rw [show ((p:Int)+1)=((p+1:Nat):Int) by omega,h1]
    rw [show rec.impl_tracer_kids ⟨⟨d.rules⟩,b,path,(i:Int)⟩ path (i:Int) [r.kids.getD 0 0] ((p+1:Nat):Int)=some (G,a2,x.1,x.2) from hK]
    rfl
 rw [show (r.kind==8)=false by simpa using H] at hh ⊢
 simp only [bF_,fF_] at hh ⊢
 by_cases h5:r.kind=5
 .have hl:=b_Z hkind h5
  rw [h5] at hh ⊢
  simp only [show ((5:Int)==7)=false from rfl,bF_,fF_,bQ_,fT_,bd_some] at hh ⊢
  cases hx:S_ b (z_ d.rules<|r_ r) p with
  | none=>rw [hx] at hh;cases hh
  | some m =>
   rw [hx] at hh
   simp only at hh
   have hrg:=b_e (b_b hl.1).2 hx
   split at hh
   .cases hh
   .rename_i a4
    cases hh
    obtain ⟨J,L,O,V⟩:=k_q hv hd hb (n:=n) (by omega) hl.1 hp hx
    rw [b_9 (show 0<r.kids.length by omega),bd_some,J,bd2_some]
    simp only [bN_,bF_,fF_]
    rw [L,bd_some,bd_some,O,bd_some,V,bd_some,bd_some,dT_ (show m<=40 by omega),iP_ rfl]
    rw [p_5 (by omega) (by rw [a_G];omega),bd_some,List.length_replicate]
    rw [o_D (x:=r.kids.getD 1 0) (by rw [h_I (by omega),a_1 (by omega)]) m.toNat]
    simp only [bd_some,el_inl]
    rw [show rec.impl_tracer_kids ⟨⟨d.rules⟩,b,path,(i:Int)⟩ path (i:Int) (List.replicate m.toNat<|r.kids.getD 1 0) ((p+(z_ d.rules<|r_ r).size.toNat:Nat):Int)=some (G,a2,x.1,x.2) from hK]
    rfl
 have Y:r.kind=7:=by omega
 have hl:=c_b hkind Y
 rw [Y] at hh ⊢
 simp only [show ((7:Int)==5)=false from rfl,bF_,fF_,bQ_,fT_,bd_some] at hh ⊢
 cases hx:S_ b (z_ d.rules<|r_ r) p with
 | none=>rw [hx] at hh;cases hh
 | some m =>
  rw [hx] at hh
  simp only at hh
  have hrg:=b_e (b_b hl.1).2 hx
  cases ht:a_H r.tags m with
  | none=>rw [ht] at hh;cases hh
  | some k =>
   rw [ht] at hh
   cases hh
   have hkt:=g_d ht;obtain ⟨J,L,O,V⟩:=k_q hv hd hb (n:=n) (by omega) hl.1 hp hx
   rw [b_9 (show 0<r.kids.length by omega),bd_some,J,bd2_some]
   simp only [bN_,bF_,fF_]
   rw [L,bd_some,bd_some,O,bd_some,V,bd_some,bd_some,o_R,bd_some,ht]
   simp only
   rw [dT_ (show (0:Int)<=(k:Int) by omega),iP_ rfl,ia_ (x:=(k:Int)) (y:=1) (by omega) (by omega)]
   rw [show ((k:Int)+1)=((k+1:Nat):Int) by omega,o_C (show k+1<r.kids.length by omega) (by omega),bd_some]
   rw [show rec.impl_tracer_kids ⟨⟨d.rules⟩,b,path,(i:Int)⟩ path (i:Int) [r.kids.getD (k+1) 0] ((p+(z_ d.rules<|r_ r).size.toNat:Nat):Int)=some (G,a2,x.1,x.2) from hK]
   rfl
end
end Go.Vw
