
import Derived.Test.YtahlbmonbflopaaGreatDoorVi
namespace Go.Vw
open Go.RowKit Dat
section
variable {b:Bt}{p:Nat}{rest:Bt}
theorem d_k {l t rest:Bt}{p:Nat}(h:l.drop p=t++rest)(hp:p<=l.length):p+t.length+rest.length=l.length:=by
 have h1:=congrArg List.length h
 rw [List.length_drop,List.length_append] at h1
 omega
theorem h_5 {l t rest:Bt}{p:Nat}(h:l.drop p=t++rest):l.drop (p+t.length)=rest:=by
 rw [← List.drop_drop,h,List.drop_left]
theorem k_F {t:Bt}(h:b.drop p=t++rest):b_5 b p (p+t.length)=t:=by
 unfold b_5
 rw [List.drop_take,h,show p+t.length - p=t.length by omega,List.take_left']
 rfl
theorem h_6 {c:UInt8}{u:Bt}(h:b.drop p=c::u):b[p]? = some c:=by
 have:(b.drop p)[0]? = some c:=by rw [h];rfl
 rwa [List.getElem?_drop,Nat.add_zero] at this
theorem h_7 (x:Int):byteI (mkB x)=x % 256:=by
 rw [m_2]
 unfold IntKind.wrap
 simp [IntKind.bits,IntKind.signed]
theorem p_S (x:Int):a_g .i64 x 8=x / 256/\a_g .i64 x 16=x / 65536/\a_g .i64 x 24=x / 16777216:=by
 unfold a_g
 rw [show (2:Int) ^ (min (Int.toNat 8) IntKind.i64.bits)=256 from rfl,show (2:Int) ^ (min (Int.toNat 16) IntKind.i64.bits)=65536 from rfl,show (2:Int) ^ (min (Int.toNat 24) IntKind.i64.bits)=16777216 from rfl]
 exact ⟨Int.fdiv_eq_ediv_of_nonneg _ (by decide),Int.fdiv_eq_ediv_of_nonneg _ (by decide),Int.fdiv_eq_ediv_of_nonneg _ (by decide)⟩
theorem p_T {s x:Int}(h1:1<=s)(h4:s<=4)(I:0<=x)(hx:x<=256 ^ s.toNat - 1):(beP s x).foldl b_n 0=x/\((beP s x).length:Int)=s:=by
 obtain ⟨G,H,f3⟩:=p_S x;have hs:s=1∨s=2∨s=3∨s=4:=by omega
 rcases hs with rfl | rfl | rfl | rfl
 .rw [show beP 1 x=[mkB x] from rfl]
  simp only [List.foldl_cons,List.foldl_nil,b_n,h_7,lC_,List.length_nil]
  simp at hx
  omega
 .rw [show beP 2 x=[mkB (a_g .i64 x 8),mkB x] from rfl,G]
  simp only [List.foldl_cons,List.foldl_nil,b_n,h_7,lC_,List.length_nil]
  simp at hx
  omega
 .rw [show beP 3 x=[mkB (a_g .i64 x 16),mkB<|a_g .i64 x 8,mkB x] from rfl,G,H]
  simp only [List.foldl_cons,List.foldl_nil,b_n,h_7,lC_,List.length_nil]
  simp at hx
  omega
 .rw [show beP 4 x=[mkB (a_g .i64 x 24),mkB<|a_g .i64 x 16,mkB<|a_g .i64 x 8,mkB x] from rfl,G,H,f3]
  simp only [List.foldl_cons,List.foldl_nil,b_n,h_7,lC_,List.length_nil]
  simp at hx
  omega
theorem m_A {r:b_}{x:Int}(hr:d_p r)(G:0<=x)(hx:x<=256 ^ r.size.toNat - 1)(h:b.drop p=b_a r x++rest)(hp:p<=b.length):a_k b r p=some x/\(b_a r x).length=r.size.toNat:=by
 obtain ⟨_,h1,h4⟩:=hr;obtain ⟨g1,H⟩:=p_T h1 h4 G hx
 have hl:(b_a r x).length=r.size.toNat:=by
  unfold b_a
  split
  .rw [List.length_reverse];omega
  .omega
 refine ⟨?_,hl⟩;have hlen:=d_k h hp;unfold a_k
 rw [iN_ (by omega),← hl,k_F h]
 unfold d_o b_a
 cases r.little
 .simp only [bF_,fF_]
  rw [g1]
 .simp only [fT_]
  rw [List.reverse_reverse,g1]
theorem p_U {bs:Bt}(h:b.drop p=bs++rest):b_v b bs p=(p+bs.length,0):=by
 unfold b_v
 have:(List.range bs.length).find? (b_N b bs p)=none:=by
  rw [List.find?_eq_none]
  intro k hk;have hk:=List.mem_range.1 hk;have h1:(b.drop p)[k]? = some bs[k]:=by rw [h,List.getElem?_append_left hk,gG_ hk]
  rw [List.getElem?_drop] at h1
  unfold b_N
  rw [h1,a_8 hk]
  simp
 rw [this]
theorem m_B {bs:Bt}{n:Int}(hn:(bs.length:Int)=n)(h:b.drop p=bs++rest)(hp:p<=b.length):a_R b p n=(⟨0,bs,[]⟩,p+bs.length,0):=by
 have hlen:=d_k h hp;unfold a_R
 rw [iN_ (by omega),← hn,tN_,k_F h]
theorem p_V (bs:Bt)(t:UInt8):bs.length<=(b_1 bs t).length:=by
 induction bs with
 | nil=>simp
 | cons c bs ih =>
  have e:b_1 (c::bs) t=(if (byteI c==byteI t || byteI c==byteI (92:UInt8)) then [92,c] else [c])++b_1 bs t:=by unfold b_1;rw [List.flatMap_cons]
  rw [e,List.length_append,lC_]
  split <;> simp <;> omega
theorem k_G {t:UInt8}(ht:t ≠ 92):∀(bs acc:Bt)(p f:Nat),b.drop p=b_1 bs t++[t]++rest->bs.length<f->c_m b t f acc p=some (acc++bs,p+(b_1 bs t).length+1)
 | [],acc,p,f,h,hf=>by
  obtain ⟨f,rfl⟩:∃g,f=g+1:=⟨f - 1,by omega⟩;unfold c_m
  rw [h_6 (c:=t) (u:=rest) h]
  simp [b_1]
 | c::bs,acc,p,f,h,hf=>by
  obtain ⟨f,rfl⟩:∃g,f=g+1:=⟨f - 1,by omega⟩;have e:b_1 (c::bs) t=(if (byteI c==byteI t || byteI c==byteI (92:UInt8)) then [92,c] else [c])++b_1 bs t:=by unfold b_1;rw [List.flatMap_cons]
  rw [lC_] at hf
  unfold c_m
  by_cases hc:(byteI c==byteI t || byteI c==byteI (92:UInt8))=true
  .rw [e,iP_ hc] at h ⊢
   have G:b[p]? = some 92:=h_6 (u:=c::(b_1 bs t++[t]++rest)) (by simpa using h)
   have h2:b.drop (p+1)=c::(b_1 bs t++[t]++rest):=by
    rw [← List.drop_drop,h];simp
   have h1:b[p+1]? = some c:=h_6 h2
   rw [G]
   simp only [iN_ (Ne.symm ht),fT_]
   rw [h1]
   simp only
   have h3:b.drop (p+2)=b_1 bs t++[t]++rest:=by
    rw [show p+2=p+1+1 by omega,← List.drop_drop,h2];simp
   rw [k_G ht bs (acc++[c]) (p+2) f h3 (by omega)]
   simp only [List.append_assoc,List.singleton_append,List.length_append,lC_,List.length_nil]
   congr 2
   omega
  .rw [e,iN_ hc] at h ⊢
   have G:b[p]? = some c:=h_6 (u:=b_1 bs t++[t]++rest) (by simpa using h)
   rw [G]
   simp only [Bool.or_eq_true,beq_iff_eq,not_or] at hc
   simp only [iN_ (λh:c=t=>hc.1<|h ▸ rfl),iN_ (λh:c=92=>hc.2<|h ▸ rfl)]
   have h3:b.drop (p+1)=b_1 bs t++[t]++rest:=by
    rw [← List.drop_drop,h];simp
   rw [k_G ht bs (acc++[c]) (p+1) f h3 (by omega)]
   simp only [List.append_assoc,List.singleton_append,lC_]
   congr 2
   omega
theorem h_8 {rd:Int->Nat->RR}:∀(ks:List Int)(vs:List Val)(es:List Bt)(p:Nat),ks.length=vs.length->es.length=vs.length->b.drop p=es.flatten++rest ->
  (∀j (h1:j<ks.length) (h2:j<vs.length) (h3:j<es.length),∀q u,b.drop q=es[j]++u->q<=b.length->rd ks[j] q=(vs[j],q+es[j].length,0))->p<=b.length->a_c rd ks p=(vs,p+es.flatten.length,0)
 | [],[],[],p,_,_,h,_,_=>by simp [a_c]
 | [],_::_,_,_,h,_,_,_,_=>by simp at h
 | _::_,[],_,_,h,_,_,_,_=>by simp at h
 | _,[],_::_,_,_,h,_,_,_=>by simp at h
 | _,_::_,[],_,_,h,_,_,_=>by simp at h
 | k::ks,v::vs,e::es,p,hl,H,h,hr,hp=>by
  rw [List.flatten_cons,List.append_assoc] at h
  have G:=hr 0 (by simp) (by simp) (by simp) p _ h hp
  simp only [List.getElem_cons_zero] at G
  have h1:=h_5 h;have hlen:=d_k h hp
  rw [List.length_append] at hlen
  have:=h_8 ks vs es (p+e.length) (by simpa using hl) (by simpa using H) h1 (λj g1 J L q u hq I=>by
   have:=hr (j+1) (by simpa using g1) (by simpa using J) (by simpa using L) q u (by simpa using hq) I
   simpa using this) (by omega)
  unfold a_c
  rw [G]
  simp only [fT_]
  rw [this]
  simp only [fT_,List.flatten_cons,List.length_append]
  rw [Nat.add_assoc]
end
theorem val_of' {v:Val}{a:Int}{b:Bt}{c:List Val}(h1:v.number=a)(h2:v.bytes=b)(h3:v.items=c):v = .mk a b c:=by
 cases v;cases h1;cases h2;cases h3;rfl
section
variable {d:c_}{b:Bt}
theorem m_C (hv:R_ d=true)(hb:b.length<=400):∀(m i:Nat)(v:Val)(e rest:Bt)(p:Nat),VP d.rules m i v->Prt d.rules m i v e->b.drop p=e++rest->p<=b.length->rdW d.rules b i p=(v,p+e.length,0)
 | 0,i,v,e,rest,p,hV,_,_,_=>hV.elim
 | m+1,i,v,e,rest,p,hV,hP,hd,hp=>by
  obtain ⟨hi,hO,hK⟩:=hV;obtain ⟨es,hel,hes,he⟩:=hP
  rw [a_8 hi] at hes he
  have hrr:=a_S hv hi;have hkind:=hrr.kind;have a6:=p_P hv hi hO
  have hrec:∀(ks:List Int),(∀j (h1:j<ks.length),j<v.items.length->ks[j]=P_ d.rules[i] v.number j)->∀j (h1:j<ks.length) (h2:j<v.items.length) (h3:j<es.length),∀q u,b.drop q=es[j]++u->q<=b.length->(λ(k:Int)(p:Nat)=>if _h:k.toNat<i then rdW d.rules b k.toNat p else (zV,p,0)) ks[j] q=(v.items[j],q+es[j].length,0):=by
   intro ks hks j h1 h2 h3 q u hq a0;obtain ⟨k,G,a2,Y⟩:=hK j h2;obtain ⟨k',b1,b2⟩:=hes j h3 h2;have hkk:k'=k:=by omega
   subst hkk
   simp only
   rw [hks j h1 h2,G,tN_,dif_pos a2]
   exact m_C hv hb m k' v.items[j] es[j] u q Y b2 hq a0
  have hnil:v.items=[]->es.flatten=[]:=λh=>by
   have:es=[]:=List.length_eq_zero_iff.1 (by rw [hel,h];rfl)
   rw [this];rfl
  rw [rdW,a_8 hi]
  generalize hrd:(λ(k:Int)(p:Nat)=>if _h:k.toNat<i then rdW d.rules b k.toNat p else (zV,p,0))=rd at hrec ⊢
  generalize d.rules[i]=r at *
  subst he
  have hlim:∀{x:Int},0<lim d.rules (o_ r)->0<=x->x<=lim d.rules (o_ r)->∀{u:Bt},b.drop p=b_a (O_ d.rules<|o_ r) x++u->a_k b (O_ d.rules<|o_ r) p=some x/\(b_a (O_ d.rules<|o_ r) x).length=(O_ d.rules<|o_ r).size.toNat:=λhl h0 h1 u hd=>by
   obtain ⟨a,c⟩:=i_n hl;exact m_A a h0 (by rw [← c];exact h1) hd hp
  have hbl:∀{u:Bt}{q:Nat},b.drop q=u++rest->q<=b.length->q+u.length<=b.length:=λh hq=>by have:=d_k h hq;omega
  unfold rdB
  rcases hO with ⟨h,G,a2,J,I⟩ | ⟨h,H,J,I⟩ | ⟨h,H,G,I⟩ | ⟨h,H,G,a2,I⟩ | ⟨h,H,G,I⟩ | ⟨h,H,J,G,a2⟩ | ⟨h,H,J,G⟩ | ⟨h,G,a2,J,Y,V⟩ | ⟨h,H,J,G⟩ | ⟨h,H,J,G⟩
  .have hh:a_P d.rules r v=b_a r v.number:=by unfold a_P;simp [h]
   rw [hh,hnil I,iN_ (show ¬r.kind=9 by omega),List.append_nil,List.append_nil] at hd ⊢
   obtain ⟨L,O⟩:=m_A (c_J hkind h) G a2 hd hp
   simp only [h,Int.reduceBEq,fT_]
   rw [L,O]
   simp only
   rw [← val_of' rfl J I]
  .have hh:a_P d.rules r v=r.bytes:=by unfold a_P;simp [h]
   rw [hh,hnil I,iN_ (show ¬r.kind=9 by omega),List.append_nil,List.append_nil] at hd ⊢
   simp only [h,Int.reduceBEq,bF_,fF_,fT_]
   rw [p_U hd]
   exact congrArg (λz=>(z,p+r.bytes.length,(0:Int))) (val_of' H J I).symm
  .have hh:a_P d.rules r v=v.bytes:=by unfold a_P;simp [h]
   rw [hh,hnil I,iN_ (show ¬r.kind=9 by omega),List.append_nil,List.append_nil] at hd ⊢
   simp only [h,Int.reduceBEq,bF_,fF_,fT_]
   rw [m_B G hd hp,← val_of' H rfl I]
  .have hh:a_P d.rules r v=b_a (O_ d.rules<|o_ r) (v.bytes.length:Int)++v.bytes:=by unfold a_P;simp [h]
   rw [hh,hnil I,iN_ (show ¬r.kind=9 by omega),List.append_nil,List.append_nil] at hd ⊢
   have hd':=hd
   rw [List.append_assoc] at hd'
   obtain ⟨L,O⟩:=hlim (d_6 hkind h).1 (by omega) a2 hd';have h1:=h_5 hd';have hl:=d_k hd' hp
   simp only [h,Int.reduceBEq,bF_,fF_,fT_]
   rw [L]
   simp only
   rw [← O,m_B rfl h1 (by omega),← val_of' H rfl I,List.length_append,Nat.add_assoc]
  .have hh:a_P d.rules r v=b_1 v.bytes (r.bytes.getD 0 0)++[r.bytes.getD 0 0]:=by unfold a_P;simp [h]
   rw [hh,hnil I,iN_ (show ¬r.kind=9 by omega),List.append_nil,List.append_nil] at hd ⊢
   have a5:r.bytes.getD 0 0 ≠ 92:=by
    have hk:=hkind;unfold a_2 at hk
    rw [h] at hk
    simp at hk
    intro hc;exact hk.2.2 (by rw [← gD_,hc])
   simp only [h,Int.reduceBEq,bF_,fF_,fT_]
   have hge:=p_V v.bytes<|r.bytes.getD 0 0;have hl:=d_k hd hp
   simp only [List.length_append,lC_,List.length_nil] at hl
   unfold c_w
   rw [k_G a5 v.bytes [] p (b.length+1) hd (by omega)]
   simp only [List.nil_append,List.length_append,lC_,List.length_nil]
   rw [← val_of' H rfl I,Nat.add_assoc]
  .have hh:a_P d.rules r v=b_a (O_ d.rules<|o_ r) (v.items.length:Int):=by unfold a_P;simp [h]
   rw [hh,iN_ (show ¬r.kind=9 by omega),List.append_nil] at hd ⊢
   have hd':=hd
   rw [List.append_assoc] at hd'
   obtain ⟨L,O⟩:=hlim (c_5 hkind h).1 (by omega) a2 hd';have h1:=h_5 hd';have hl:=d_k hd' hp
   simp only [h,Int.reduceBEq,bF_,fF_]
   unfold a_r
   simp only [h,Int.reduceBEq,fT_]
   rw [L]
   simp only
   rw [iN_ (by omega),tN_,← O]
   simp only
   have:=h_8 (rd:=rd) (List.replicate v.items.length (r.kids.getD 1 0)) v.items es _ (by simp) hel h1 (hrec _ (λj g1 W=>by
    rw [List.getElem_replicate]
    unfold P_
    simp [h])) (by omega)
   rw [this]
   unfold a_W
   simp only [h,Int.reduceBEq,bF_,fF_,fT_]
   rw [← val_of' H J rfl,List.length_append,Nat.add_assoc]
  .have hh:a_P d.rules r v=[]:=by unfold a_P;simp [h]
   rw [hh,iN_ (show ¬r.kind=9 by omega),List.append_nil,List.nil_append] at hd ⊢
   simp only [h,Int.reduceBEq,bF_,fF_]
   unfold a_r
   simp only [h,Int.reduceBEq,bF_,fF_,fT_]
   have:=h_8 (rd:=rd) r.kids v.items es p G.symm hel hd (hrec _ (λj g1 W=>by
    unfold P_
    simp [h,g1])) hp
   rw [this]
   unfold a_W
   simp only [h,Int.reduceBEq,bF_,fF_,fT_]
   rw [← val_of' H J rfl]
  .have hh:a_P d.rules r v=b_a (O_ d.rules<|o_ r) v.number:=by unfold a_P;simp [h]
   rw [hh,iN_ (show ¬r.kind=9 by omega),List.append_nil] at hd ⊢
   have hd':=hd
   rw [List.append_assoc] at hd'
   obtain ⟨L,O⟩:=hlim (c_6 hkind h).1 G a2 hd';have h1:=h_5 hd';have hl:=d_k hd' hp
   simp only [h,Int.reduceBEq,bF_,fF_]
   unfold a_r
   simp only [h,Int.reduceBEq,bF_,fF_,fT_]
   rw [L]
   simp only
   obtain ⟨k,hk⟩:∃k,a_H r.tags v.number=some k:=by
    unfold P_ at V
    simp only [h,Int.reduceBEq,bF_,fF_,fT_] at V
    cases ht:a_H r.tags v.number with
    | none=>rw [ht] at V;simp at V
    | some k=>exact ⟨k,rfl⟩
   rw [hk,← O]
   simp only
   have:=h_8 (rd:=rd) [r.kids.getD (k+1) 0] v.items es _ (by simp [Y]) hel h1 (hrec _ (λj g1 W=>by
    have:j=0:=by omega
    subst this;unfold P_
    simp [h,hk])) (by omega)
   rw [this]
   unfold a_W
   simp only [h,Int.reduceBEq,bF_,fF_,fT_]
   rw [← val_of' rfl J rfl,List.length_append,Nat.add_assoc]
  .have hh:a_P d.rules r v=[mkB (v.items.length:Int)]:=by unfold a_P;simp [h]
   rw [hh,iN_ (show ¬r.kind=9 by omega),List.append_nil] at hd ⊢
   have hd':=hd
   rw [List.append_assoc] at hd'
   have h1:=h_5 hd';have hl:=d_k hd' hp
   rw [lC_,List.length_nil] at h1 hl
   have hbm:byteI (mkB (v.items.length:Int))=(v.items.length:Int):=by rw [h_7];omega
   have hbn:(mkB (v.items.length:Int)).toNat=v.items.length:=by
    have:byteI (mkB (v.items.length:Int))=((mkB (v.items.length:Int)).toNat:Int):=rfl
    omega
   simp only [h,Int.reduceBEq,bF_,fF_]
   unfold a_r
   simp only [h,Int.reduceBEq,bF_,fF_,fT_]
   rw [h_6 hd']
   simp only
   rw [hbm,iN_ (by omega),hbn]
   simp only
   have:=h_8 (rd:=rd) (List.replicate v.items.length (r.kids.getD 0 0)) v.items es _ (by simp) hel h1 (hrec _ (λj g1 W=>by
    rw [List.getElem_replicate]
    unfold P_
    simp [h])) (by omega)
   rw [show p+1=p+(0+1) from rfl,this]
   unfold a_W
   simp only [h,Int.reduceBEq,bF_,fF_,fT_]
   rw [← val_of' H J rfl,List.length_append,lC_,List.length_nil,Nat.add_assoc]
  .have hh:a_P d.rules r v=[]:=by unfold a_P;simp [h]
   rw [hh,iP_ h,List.nil_append] at hd ⊢
   have hd':=hd
   rw [List.append_assoc] at hd'
   have h1:=h_5 hd';have hl:=d_k hd' hp
   simp only [h,Int.reduceBEq,bF_,fF_]
   unfold a_r
   simp only [h,Int.reduceBEq,bF_,fF_]
   have:=h_8 (rd:=rd) [r.kids.getD 0 0] v.items es p (by simp [G]) hel hd' (hrec _ (λj g1 W=>by
    have:j=0:=by omega
    subst this;unfold P_
    simp [h])) hp
   rw [this]
   unfold a_W
   simp only [h,Int.reduceBEq,fT_]
   rw [h_6 h1]
   simp only
   have hs:byteI (mkB<|b_E es.flatten)=b_E (b_5 b p<|p+es.flatten.length):=by
    rw [k_F hd',h_7]
    unfold b_E
    omega
   rw [iP_ hs,← val_of' H J rfl,List.length_append,lC_,List.length_nil,Nat.add_assoc]
end
end Go.Vw
