
import Derived.Test.YtahlbmonbflopaaGreatDoorVg
import Derived.Test.YtahlbmonbflopaaGreatDoorVh
namespace Go.Vw
open Go.RowKit Dat
def b_1 (l:Bt)(t:UInt8):Bt:=l.flatMap (λc=>if (byteI c==byteI t || byteI c==byteI (92:UInt8)) then [92,c] else [c])
theorem j_u (l:Bt)(t:UInt8):(b_1 l t).length<=2 * l.length:=by
 unfold b_1
 induction l with
 | nil=>simp
 | cons c l ih =>
  rw [List.flatMap_cons,List.length_append,lC_]
  split <;> simp only [lC_,List.length_nil] <;> omega
theorem m_y (l:Bt)(t:UInt8){k:Nat}(h:k<l.length):b_1 (l.take<|k+1) t=b_1 (l.take k) t++(if (byteI l[k]==byteI t || byteI l[k]==byteI (92:UInt8)) then [92,l[k]] else [l[k]]):=by
 unfold b_1
 rw [k_N h,List.flatMap_append]
 simp
theorem p_K {l:Bt}{t:UInt8}(hl:l.length<=1000):i_0 l t=some (b_1 l t++[t]):=by
 have hLIM:=a_7;have hel:=j_u l t;unfold i_0
 rw [ia_ (by omega) (by omega),show ((l.length:Int)+1)=((l.length+1:Nat):Int) by omega,n_F (by omega),bd_some]
 refine (congrArg (λz=>bd z _)<|e_X (λk=>b_1 (l.take k) t) (n:=l.length) (by simp [b_1])<|λk hk=>?_).trans ?_
 .have h1:=j_u (l.take k) t;have h2:(l.take k).length<=1000:=by rw [List.length_take];omega
  rw [ix_ hk,bd_some,m_y l t hk]
  by_cases ha:(byteI l[k]==byteI t)=true
  .rw [ha,iP_ rfl,bd_some,iP_ rfl,Y_ (by omega),bd_some,bd_some,Y_ (by simp;omega),bd_some,Bool.true_or,iP_ rfl,List.append_assoc];rfl
  .have ha':(byteI l[k]==byteI t)=false:=by simpa using ha
   rw [ha',iN_ (by simp),bd_some,Bool.false_or]
   by_cases hb:(byteI l[k]==byteI (92:UInt8))=true
   .rw [hb,iP_ rfl,Y_ (by omega),bd_some,bd_some,Y_ (by simp;omega),bd_some,iP_ rfl,List.append_assoc];rfl
   .have hb':(byteI l[k]==byteI (92:UInt8))=false:=by simpa using hb
    rw [hb',iN_ (by simp),bd_some,Y_ (by omega),bd_some,iN_ (by simp)]
 .rw [bd_some,el_inl,List.take_length,Y_ (by omega),bd_some]
theorem bd_eta {α:Type}{z:Option α}:(bd z λy=>some y)=z:=by cases z <;> rfl
def a_P (rs:List b_)(r:b_)(v:Val):Bt :=
 if r.kind=1 then b_a r v.number else if r.kind=2 then r.bytes else if r.kind=3 then v.bytes else if r.kind=4 then b_a (O_ rs<|o_ r) (v.bytes.length:Int)++v.bytes else
 if r.kind=10 then b_1 v.bytes (r.bytes.getD 0 0)++[r.bytes.getD 0 0] else if r.kind=5 then b_a (O_ rs<|o_ r) (v.items.length:Int) else if r.kind=7 then b_a (O_ rs<|o_ r) v.number else if r.kind=8 then [mkB (v.items.length:Int)] else []
def Prt (rs:List b_):Nat->Nat->Val->Bt->Prop
 | 0,_,_,_=>False
 | m+1,i,v,e=>∃es:List Bt,es.length=v.items.length/\(∀j (h:j<es.length) (h':j<v.items.length),∃k:Nat,P_ (rs.getD i default) v.number j=(k:Int)/\Prt rs m k v.items[j] es[j])/\e=a_P rs (rs.getD i default) v++es.flatten++(if (rs.getD i default).kind=9 then [mkB (b_E es.flatten)] else [])
section
variable {d:c_}{v:Val}
theorem p_L {es:List Bt}{rec:j_a}{r:b_}(hr:e_Y r)(hl:es.length=v.items.length)(hb:es.flatten.length<=4290000000)(h:∀j (h1:j<es.length) (h2:j<v.items.length),rec.spec_l11Print d (P_ r v.number j) v.items[j]=some es[j]) :
  y_ (σ:=Bt) (ρ:=Bt) (λG=>(λH=>bd (idx v.items ((G:Nat):Int)) λI=>bd (b_r r v.number ((G:Nat):Int)) λJ=>bd (rec.spec_l11Print d J I) λL=>bd (app H L) λO=>some<|.next O)) v.items.length 0 ([]:Bt)=some (.inl es.flatten):=by
 have hLIM:=a_7
 have pre:∀k,k<es.length->(es.take k).flatten.length+es[k]!.length<=es.flatten.length:=λk hk=>by
  have e:es.flatten=(es.take k).flatten++((es.drop k).flatten):=by rw [← List.flatten_append,List.take_append_drop]
  rw [e,List.length_append,dC_ hk,List.flatten_cons,List.length_append]
  simp [hk]
 have:=e_X (ρ:=Bt) (body:=(λG=>(λH=>bd (idx v.items ((G:Nat):Int)) λI=>bd (b_r r v.number ((G:Nat):Int)) λJ=>bd (rec.spec_l11Print d J I) λL=>bd (app H L) λO=>some (.next O)))) (λk=>(es.take k).flatten) (n:=v.items.length) (s:=[]) (by simp) (λk hk=>by
  have hke:k<es.length:=by omega
  have hp:=pre k hke
  rw [List.getElem!_eq_getElem?_getD,gG_ hke] at hp
  simp only [Option.getD_some] at hp
  rw [ix_ hk,bd_some,d_q hr,bd_some,h k hke hk,bd_some,a_T (by omega),bd_some,k_N hke,List.flatten_append]
  simp)
 rw [this,← hl,List.take_length]
theorem p_M {es:List Bt}{n i L:Nat}{rec:i_2}{r:b_}(hi:idx d.rules (i:Int)=some r)(hr:e_Y r)(hl:es.length=v.items.length){out:Bt}
  (h:∀j (h1:j<es.length) (h2:j<v.items.length),∀o:Bt,o.length<=10000->∃o',rec.impl_printer_value ⟨⟨d.rules⟩,o⟩ (P_ r v.number j) v.items[j]=some o'/\o.length<=o'.length/\o'.length<=max o.length 400+L/\(o'=o++es[j]∨(400<o'.length/\400<(o++es[j]).length))) :
  ∃o',i_3 n rec ⟨⟨d.rules⟩,out⟩ (i:Int) v=some o'/\out.length<=o'.length/\o'.length<=max out.length (400+L)/\(o'=out++es.flatten∨(400<o'.length/\400<(out++es.flatten).length)):=by
 have pre:∀k,k<=es.length->(es.take k).flatten.length<=es.flatten.length:=λk hk=>by
  have e:es.flatten=(es.take k).flatten++((es.drop k).flatten):=by rw [← List.flatten_append,List.take_append_drop]
  rw [e,List.length_append];omega
 unfold i_3
 simp only
 have A:=c_u (σ:=Bt) (ρ:=Bt) (body:=(λI=>(λH=>bd (g_0 (⟨(⟨d.rules⟩:c_),H⟩:b_d)) λO=>if O then some (Out.ret H) else bd (idx v.items ((I:Nat):Int)) λV=>bd (f_e (⟨d.rules⟩:c_) (i:Int) v ((I:Nat):Int)) λW=>bd (rec.impl_printer_value (⟨(⟨d.rules⟩:c_),H⟩:b_d) W V) λY=>some<|.next Y)))
  (λj s=>out.length<=s.length/\s.length<=max out.length (400+L)/\(s=out++(es.take j).flatten∨(400<s.length/\400<(out++(es.take j).flatten).length)))
  (λo'=>out.length<=o'.length/\o'.length<=max out.length (400+L)/\400<o'.length/\400<(out++es.flatten).length) (n:=v.items.length) (λj s hj hI=>by
   obtain ⟨G,s1,s2⟩:=hI;unfold g_0
   rw [bd_some]
   have hp:=pre j (by omega)
   by_cases hf:400<s.length
   .right
    rw [dT_ (show (400:Int)<(s.length:Int) by omega),iP_ rfl]
    refine ⟨s,rfl,G,s1,hf,?_⟩
    rcases s2 with rfl | ⟨_,h2⟩
    .simp only [List.length_append] at hf ⊢;omega
    .simp only [List.length_append] at h2 ⊢;omega
   .left
    have hje:j<es.length:=by omega
    rw [dF_ (show ¬(400:Int)<(s.length:Int) by omega),iN_ (by simp),ix_ hj,bd_some,show (⟨d.rules⟩:c_)=d from rfl,j_H hi hr,bd_some]
    obtain ⟨o',J,e2,e3,e4⟩:=h j hje hj s (by omega)
    rw [show (⟨d.rules⟩:c_)=d from rfl] at J
    rw [J,bd_some]
    have hs:s=out++(es.take j).flatten:=s2.resolve_right<|λq=>hf q.1;have hfl:(es.take<|j+1).flatten=(es.take j).flatten++es[j]:=by rw [k_N hje,List.flatten_append];simp
    refine ⟨o',rfl,by omega,by omega,?_⟩
    rw [hfl,← List.append_assoc,← hs]
    exact e4) v.items.length 0 out (by omega) ⟨Nat.le_refl _,by omega,.inl (by simp)⟩
 rcases A with ⟨s,e,G,s1,s2⟩ | ⟨o',e,G,s1,s2,s3⟩
 .rw [e,bd_some,el_inl]
  rw [← hl,List.take_length] at s2
  exact ⟨s,rfl,G,s1,s2⟩
 .rw [e,bd_some,el_inr]
  exact ⟨o',rfl,G,s1,.inr ⟨s2,s3⟩⟩
theorem p_N {m:Nat}{j:Nat}(hj:j<v.items.length):1+vsz m v.items[j]<=lsz m v.items:=m_Y<|gE_ hj
theorem m_z {m:Nat}:∀(es:List Bt)(l:List Val),es.length=l.length->(∀j (h1:j<es.length) (h2:j<l.length),es[j].length<=17 * (1+vsz m l[j]))->es.flatten.length<=17 * lsz m l
 | [],[],_,_=>by simp
 | [],_::_,h,_=>by simp at h
 | _::_,[],h,_=>by simp at h
 | e::es,x::l,h,hb=>by
  have G:=hb 0 (by simp) (by simp);have:=m_z es l (by simpa using h)<|λj h1 h2=>hb (j+1) (by simpa using h1) (by simpa using h2)
  rw [List.flatten_cons,List.length_append,e_W]
  simp only [List.getElem_cons_zero] at G
  omega
theorem p_O (hv:R_ d=true)(_:SmD d):∀(m i:Nat)(v:Val),VP d.rules m i v->vsz m v<=250000000->∃e:Bt,e.length<=17 * (1+vsz m v)/\Prt d.rules m i v e/\(∀n,m+20<=n->f_B n d (i:Int) v=some e) /\
  (∀n,2 * m+20<=n->∀out:Bt,out.length<=10000->∃o',i_4 n ⟨⟨d.rules⟩,out⟩ (i:Int) v=some o'/\out.length<=o'.length/\o'.length<=max out.length 400+(820+10 * (i+1))/\(o'=out++e∨(400<o'.length/\400<(out++e).length))):=by
 have hLIM:=a_7;have hMX:=MXv;have af:=(b_X hv).2;intro m
 induction m with
 | zero=>exact λ_ _ h=>h.elim
 | succ m ih =>
  rintro i v ⟨hi,hO,hK⟩ hz;have hz':v.bytes.length+lsz m v.items<=250000000:=hz;have hzz:vsz (m+1) v=v.bytes.length+lsz m v.items:=rfl;have hr:=a_S hv hi;have hkk:=c_7 hr.kind
  -- the parts
  obtain ⟨es,hel,hes⟩:=k_x (λj (e:Bt)=>∀h:j<v.items.length,∃k:Nat,P_ d.rules[i] v.number j=(k:Int)/\k<i/\e.length<=17 * (1+vsz m v.items[j])/\(∀n,m+20<=n->f_B n d (k:Int) v.items[j]=some e) /\
   (∀n,2 * m+20<=n->∀out:Bt,out.length<=10000->∃o',i_4 n ⟨⟨d.rules⟩,out⟩ (k:Int) v.items[j]=some o'/\out.length<=o'.length/\o'.length<=max out.length 400+(820+10 * (k+1))/\(o'=out++e∨(400<o'.length/\400<(out++e).length)))/\Prt d.rules m k v.items[j] e) v.items.length (λj hj=>by
    obtain ⟨k,G,a2,Y⟩:=hK j hj;have hsz:=p_N (m:=m) hj;obtain ⟨e,b1,bp,b2,b3⟩:=ih k v.items[j] Y (by omega)
    exact ⟨e,λ_=>⟨k,G,a2,b1,b2,b3,bp⟩⟩)
  have hes':∀j (h1:j<es.length) (h2:j<v.items.length),∃k:Nat,P_ d.rules[i] v.number j=(k:Int)/\k<i/\es[j].length<=17 * (1+vsz m v.items[j])/\(∀n,m+20<=n->f_B n d (k:Int) v.items[j]=some es[j]) /\
   (∀n,2 * m+20<=n->∀out:Bt,out.length<=10000->∃o',i_4 n ⟨⟨d.rules⟩,out⟩ (k:Int) v.items[j]=some o'/\out.length<=o'.length/\o'.length<=max out.length 400+(820+10 * (k+1))/\(o'=out++es[j]∨(400<o'.length/\400<(out++es[j]).length)))/\Prt d.rules m k v.items[j] es[j]:=λj h1 h2=>hes j es[j] (gG_ h1) h2
  have hfl:=m_z (m:=m) es v.items hel<|λj h1 h2=>(hes' j h1 h2).choose_spec.2.2.1
  -- both ends, from what stands ahead and behind
  have fin:∀(hd_ tl:Bt),hd_.length<=805->tl.length<=1->hd_.length<=16+2 * v.bytes.length ->
    (∀n,10<=n->∀rec:j_a,y_ (σ:=Bt) (ρ:=Bt) (λa0=>(λa9=>bd (idx v.items ((a0:Nat):Int)) λaa=>bd (b_r d.rules[i] v.number ((a0:Nat):Int)) λab=>bd (rec.spec_l11Print d ab aa) λad=>bd (app a9 ad) λae=>some<|.next ae)) v.items.length 0 ([]:Bt)=some (.inl es.flatten)->b_S n rec d (i:Int) v=some (hd_++es.flatten++tl)) ->
    (∀n,10<=n->∀rec:i_2,∀out:Bt,out.length<=10000->c_0 n rec ⟨⟨d.rules⟩,out⟩ (i:Int) v=bd (rec.impl_printer_items ⟨⟨d.rules⟩,out++hd_⟩ (i:Int) v) λr=>if d.rules[i].kind=9 then bd (slc r ((out++hd_).length:Int) (r.length:Int)) λa6=>bd (g_q a6) λa7=>bd (c_h ⟨⟨d.rules⟩,r⟩ [mkB a7]) λa8=>some a8 else some r) ->
    (tl=if d.rules[i].kind=9 then [mkB (b_E es.flatten)] else [])->hd_=a_P d.rules d.rules[i] v ->
    ∃e:Bt,e.length<=17 * (1+vsz (m+1) v)/\Prt d.rules (m+1) i v e/\(∀n,m+1+20<=n->f_B n d (i:Int) v=some e) /\
     (∀n,2 * (m+1)+20<=n->∀out:Bt,out.length<=10000->∃o',i_4 n ⟨⟨d.rules⟩,out⟩ (i:Int) v=some o'/\out.length<=o'.length/\o'.length<=max out.length 400+(820+10 * (i+1))/\(o'=out++e∨(400<o'.length/\400<(out++e).length))):=by
   intro h tl h1 h2 h3 hS hI ht hhp
   refine ⟨h++es.flatten++tl,by simp only [List.length_append];omega,⟨es,hel,λj g1 V=>by
    obtain ⟨k,W,_,_,_,_,c6⟩:=hes' j g1 V
    rw [a_8 hi]
    exact ⟨k,W,c6⟩,by rw [a_8 hi,← hhp,ht]⟩,λn hn=>?_,λn hn out hout=>?_⟩
   .obtain ⟨q,rfl⟩:∃q,n=q+1:=⟨n - 1,by omega⟩
    show b_S q (d_f q) d (i:Int) v=_
    exact hS q (by omega) (d_f q) (p_L hkk hel (by omega) (λj g1 V=>by
     obtain ⟨k,W,c2,c3,c4,_⟩:=hes' j g1 V
     rw [W]
     exact c4 q (by omega)))
   .obtain ⟨q,rfl⟩:∃q,n=q+2:=⟨n - 2,by omega⟩
    show ∃o',c_0 (q+1) (c_r<|q+1) ⟨⟨d.rules⟩,out⟩ (i:Int) v=some o'/\_
    rw [hI (q+1) (by omega) (c_r<|q+1) out hout]
    obtain ⟨o',J,H,e3,e4⟩:=p_M (n:=q) (L:=820+10 * i) (rec:=c_r q) (out:=out++h) (ix_ hi) hkk hel (λj g1 V o ho=>by
     obtain ⟨k,W,c2,c3,_,c5,_⟩:=hes' j g1 V
     rw [W]
     obtain ⟨o',G,a2,Y,a4⟩:=c5 q (by omega) o ho
     exact ⟨o',G,a2,by omega,a4⟩)
    rw [show (c_r<|q+1).impl_printer_items ⟨⟨d.rules⟩,out++h⟩ (i:Int) v=some o' from J,bd_some]
    simp only [List.length_append] at H e3
    by_cases h9:d.rules[i].kind=9
    .rw [iP_ h9] at ht ⊢
     rw [q_G (by simp only [List.length_append];omega),bd_some,m_W _ (by rw [List.length_drop];omega),bd_some]
     unfold c_h
     rw [a_T (by simp;omega),bd_some,bd_some]
     refine ⟨_,rfl,by simp only [List.length_append,lC_,List.length_nil];omega,by simp only [List.length_append,lC_,List.length_nil];omega,?_⟩
     rcases e4 with rfl | ⟨e5,e6⟩
     .left
      rw [ht,List.drop_left]
      simp
     .right
      simp only [List.length_append,lC_,List.length_nil] at e6 ⊢
      omega
    .rw [iN_ h9] at ht ⊢
     subst ht;refine ⟨o',rfl,by omega,by omega,?_⟩
     rcases e4 with rfl | ⟨e5,e6⟩
     .left;simp
     .right
      simp only [List.length_append,List.length_nil] at e6 ⊢
      omega
  have nil_es:v.items=[]->es.flatten=[]:=λh=>by
   have:es=[]:=List.length_eq_zero_iff.1 (by rw [hel,h];rfl)
   rw [this];rfl
  have limk:∀{x:Int},0<lim d.rules (o_ d.rules[i])->0<=x->x<=lim d.rules (o_ d.rules[i])->∀n,10<=n->idx d.rules (o_ d.rules[i])=some (O_ d.rules<|o_ d.rules[i])/\c_S n (O_ d.rules<|o_ d.rules[i]) x=some (b_a (O_ d.rules<|o_ d.rules[i]) x)/\g_2 n (O_ d.rules<|o_ d.rules[i]) x=some (b_a (O_ d.rules<|o_ d.rules[i]) x):=λhl h0 h1 n hn=>by
   obtain ⟨a,b⟩:=i_n hl;obtain ⟨c2,c3⟩:=k_E a h0 (by rw [← b];exact h1) hn;exact ⟨(d_r hl).1,c2,c3⟩
  have hnum:∀(o:Bt)(k x:Int)(l:Bt)(r:b_)(n:Nat),idx d.rules k=some r->g_2 n r x=some l->o.length<=20000->l.length<=4->e_J n k x ⟨⟨d.rules⟩,o⟩=some (o++l):=λo k x l r n hk he h1 h2=>by
   unfold e_J c_h
   rw [hk,bd_some,he,bd_some,a_T (by simp only;omega),bd_some,bd_some]
  have hput:∀(o x:Bt),o.length<=20000->x.length<=2000->c_h ⟨⟨d.rules⟩,o⟩ x=some (o++x):=λo x h1 h2=>by
   unfold c_h
   rw [a_T (by simp only;omega),bd_some]
  unfold Own at hO
  rcases hO with ⟨h,G,a2,J,H⟩ | ⟨h,O,J,H⟩ | ⟨h,O,G,H⟩ | ⟨h,O,G,a2,H⟩ | ⟨h,O,G,H⟩ | ⟨h,O,J,G,a2⟩ | ⟨h,O,J,G⟩ | ⟨h,G,a2,J,Y,a4⟩ | ⟨h,O,J,G⟩ | ⟨h,O,J,G⟩
  .have a5:=c_J hr.kind h;have hlen:=j_t d.rules[i] v.number;refine fin (b_a d.rules[i] v.number) [] (by omega) (by simp) (by omega) (λn hn rec hloop=>?_) (λn hn rec out hout=>?_) (by rw [iN_ (by omega)]) (by unfold a_P;simp [h])
   .unfold b_S
    rw [ix_ hi,bd_some,hloop,bd_some,el_inl,nil_es H]
    simp only [h,Int.reduceBEq,bF_,fF_,fT_,(k_E a5 G a2 hn).1,bd_some]
    simp
   .unfold c_0
    rw [ix_ hi,bd_some]
    simp only [h,Int.reduceBEq,Int.reduceEq,bF_,fF_,fT_,hnum out (i:Int) v.number _ _ n (ix_ hi) (k_E a5 G a2 hn).2 (by omega) hlen,bd_some]
  .have hb:=n_4 hr.kind h;refine fin d.rules[i].bytes [] (by omega) (by simp) (by omega) (λn hn rec hloop=>?_) (λn hn rec out hout=>?_) (by rw [iN_ (by omega)]) (by unfold a_P;simp [h])
   .unfold b_S
    rw [ix_ hi,bd_some,hloop,bd_some,el_inl,nil_es H]
    simp only [h,Int.reduceBEq,bF_,fF_,fT_]
    rw [a_T (by simp;omega),bd_some];simp
   .unfold c_0
    rw [ix_ hi,bd_some]
    simp only [h,Int.reduceBEq,Int.reduceEq,bF_,fF_,fT_,hput out d.rules[i].bytes (by omega) (by omega),bd_some]
  .have hb:=d_s hr.kind h;refine fin v.bytes [] (by omega) (by simp) (by omega) (λn hn rec hloop=>?_) (λn hn rec out hout=>?_) (by rw [iN_ (by omega)]) (by unfold a_P;simp [h])
   .unfold b_S
    rw [ix_ hi,bd_some,hloop,bd_some,el_inl,nil_es H]
    simp only [h,Int.reduceBEq,bF_,fF_,fT_]
    rw [a_T (by simp;omega),bd_some];simp
   .unfold c_0
    rw [ix_ hi,bd_some]
    simp only [h,Int.reduceBEq,Int.reduceEq,bF_,fF_,fT_,hput out v.bytes (by omega) (by omega),bd_some]
  .obtain ⟨I,hl⟩:=d_6 hr.kind h;have hx:idx d.rules[i].kids 0=some (o_ d.rules[i]):=by rw [a_h (by omega)];unfold o_;rw [a_8 (by omega)]
   have hlen:=j_t (O_ d.rules<|o_ d.rules[i]) (v.bytes.length:Int);refine fin (b_a (O_ d.rules<|o_ d.rules[i]) (v.bytes.length:Int)++v.bytes) [] (by rw [List.length_append];omega) (by simp) (by rw [List.length_append];omega) (λn hn rec hloop=>?_) (λn hn rec out hout=>?_) (by rw [iN_ (by omega)]) (by unfold a_P;simp [h])
   .obtain ⟨b1,b2,b3⟩:=limk (x:=(v.bytes.length:Int)) I (by omega) a2 n hn;unfold b_S
    rw [ix_ hi,bd_some,hloop,bd_some,el_inl,nil_es H]
    simp only [h,Int.reduceBEq,bF_,fF_,fT_,hx,bd_some,b1,b2]
    rw [a_T (by omega),bd_some];simp
   .obtain ⟨b1,b2,b3⟩:=limk (x:=(v.bytes.length:Int)) I (by omega) a2 n hn;unfold c_0
    rw [ix_ hi,bd_some]
    simp only [h,Int.reduceBEq,Int.reduceEq,bF_,fF_,fT_,hx,bd_some,hnum out _ _ _ _ n b1 b3 (by omega) hlen]
    rw [hput _ v.bytes (by rw [List.length_append];omega) (by omega),List.append_assoc]
    simp only [bd_some]
  .have hb:=k_S hr.kind h;have hx:idx d.rules[i].bytes 0=some (d.rules[i].bytes[0]'(by omega)):=by rw [a_h (by omega)]
   have hlen:=j_u v.bytes<|d.rules[i].bytes[0]'(by omega);refine fin (b_1 v.bytes (d.rules[i].bytes[0]'(by omega))++[d.rules[i].bytes[0]'(by omega)]) [] (by simp only [List.length_append,lC_,List.length_nil];omega) (by simp) (by simp only [List.length_append,lC_,List.length_nil];omega) (λn hn rec hloop=>?_) (λn hn rec out hout=>?_) (by rw [iN_ (by omega)]) (by unfold a_P;simp [h,gG_ (show 0<d.rules[i].bytes.length by omega)])
   .unfold b_S
    rw [ix_ hi,bd_some,hloop,bd_some,el_inl,nil_es H]
    simp only [h,Int.reduceBEq,bF_,fF_,fT_]
    generalize ht:d.rules[i].bytes[0]'(by omega)=t at hx hlen
    refine (congrArg (λz=>bd z _)<|e_X (λk=>b_1 (v.bytes.take k) t) (n:=v.bytes.length) (by simp [b_1])<|λk hk=>?_).trans ?_
    .have h1:=j_u (v.bytes.take k) t;have h2:(v.bytes.take k).length<=400:=by rw [List.length_take];omega
     rw [ix_ hk,bd_some,hx,bd_some,m_y v.bytes t hk]
     by_cases ha:(byteI v.bytes[k]==byteI t)=true
     .rw [ha,iP_ rfl,bd_some,iP_ rfl,Y_ (by omega),bd_some,bd_some,bd_some,Y_ (by simp;omega),bd_some,Bool.true_or,iP_ rfl,List.append_assoc];rfl
     .have ha':(byteI v.bytes[k]==byteI t)=false:=by simpa using ha
      rw [ha',iN_ (by simp),bd_some,bd_some,Bool.false_or]
      by_cases hb':(byteI v.bytes[k]==byteI (92:UInt8))=true
      .rw [hb',iP_ rfl,Y_ (by omega),bd_some,bd_some,bd_some,Y_ (by simp;omega),bd_some,iP_ rfl,List.append_assoc];rfl
      .have hb'':(byteI v.bytes[k]==byteI (92:UInt8))=false:=by simpa using hb'
       rw [hb'',iN_ (by simp),bd_some,bd_some,Y_ (by omega),bd_some,iN_ (by simp)]
    .rw [bd_some,el_inl,List.take_length,hx,bd_some,Y_ (by omega),bd_some];simp
   .unfold c_0
    rw [ix_ hi,bd_some]
    simp only [h,Int.reduceBEq,Int.reduceEq,bF_,fF_,fT_,hx,bd_some,p_K (t:=d.rules[i].bytes[0]'(by omega)) (show v.bytes.length<=1000 by omega)]
    rw [hput out _ (by omega) (by simp only [List.length_append,lC_,List.length_nil];omega)]
    simp only [bd_some]
  .obtain ⟨I,hl⟩:=c_5 hr.kind h;have hx:idx d.rules[i].kids 0=some (o_ d.rules[i]):=by rw [a_h (by omega)];unfold o_;rw [a_8 (by omega)]
   have hlen:=j_t (O_ d.rules<|o_ d.rules[i]) (v.items.length:Int);refine fin (b_a (O_ d.rules<|o_ d.rules[i]) (v.items.length:Int)) [] (by omega) (by simp) (by omega) (λn hn rec hloop=>?_) (λn hn rec out hout=>?_) (by rw [iN_ (by omega)]) (by unfold a_P;simp [h])
   .obtain ⟨b1,b2,b3⟩:=limk (x:=(v.items.length:Int)) I (by omega) a2 n hn;unfold b_S
    rw [ix_ hi,bd_some,hloop,bd_some,el_inl]
    simp only [h,Int.reduceBEq,bF_,fF_,fT_,hx,bd_some,b1,b2]
    rw [a_T (by omega),bd_some];simp
   .obtain ⟨b1,b2,b3⟩:=limk (x:=(v.items.length:Int)) I (by omega) a2 n hn;unfold c_0
    rw [ix_ hi,bd_some]
    simp only [h,Int.reduceBEq,Int.reduceEq,bF_,fF_,fT_,hx,bd_some,hnum out _ _ _ _ n b1 b3 (by omega) hlen]
  .refine fin [] [] (by simp) (by simp) (by simp) (λn hn rec hloop=>?_) (λn hn rec out hout=>?_) (by rw [iN_ (by omega)]) (by unfold a_P;simp [h])
   .unfold b_S
    rw [ix_ hi,bd_some,hloop,bd_some,el_inl]
    simp only [h,Int.reduceBEq,bF_,fF_]
    simp
   .unfold c_0
    rw [ix_ hi,bd_some]
    simp only [h,Int.reduceBEq,Int.reduceEq,bF_,fF_,bd_some,List.append_nil]
  .obtain ⟨I,hl,_,_⟩:=c_6 hr.kind h;have hx:idx d.rules[i].kids 0=some (o_ d.rules[i]):=by rw [a_h (by omega)];unfold o_;rw [a_8 (by omega)]
   have hlen:=j_t (O_ d.rules<|o_ d.rules[i]) v.number;refine fin (b_a (O_ d.rules<|o_ d.rules[i]) v.number) [] (by omega) (by simp) (by omega) (λn hn rec hloop=>?_) (λn hn rec out hout=>?_) (by rw [iN_ (by omega)]) (by unfold a_P;simp [h])
   .obtain ⟨b1,b2,b3⟩:=limk (x:=v.number) I G a2 n hn;unfold b_S
    rw [ix_ hi,bd_some,hloop,bd_some,el_inl]
    simp only [h,Int.reduceBEq,bF_,fF_,fT_,hx,bd_some,b1,b2]
    rw [a_T (by omega),bd_some];simp
   .obtain ⟨b1,b2,b3⟩:=limk (x:=v.number) I G a2 n hn;unfold c_0
    rw [ix_ hi,bd_some]
    simp only [h,Int.reduceBEq,Int.reduceEq,bF_,fF_,fT_,hx,bd_some,hnum out _ _ _ _ n b1 b3 (by omega) hlen]
  .refine fin [mkB (v.items.length:Int)] [] (by simp) (by simp) (by simp only [lC_,List.length_nil];omega) (λn hn rec hloop=>?_) (λn hn rec out hout=>?_) (by rw [iN_ (by omega)]) (by unfold a_P;simp [h])
   .unfold b_S
    rw [ix_ hi,bd_some,hloop,bd_some,el_inl]
    simp only [h,Int.reduceBEq,bF_,fF_,fT_]
    rw [a_T (by simp only [lC_,List.length_nil];omega),bd_some];simp
   .unfold c_0
    rw [ix_ hi,bd_some]
    simp only [h,Int.reduceBEq,Int.reduceEq,bF_,fF_,fT_,bd_some,hput out [mkB (v.items.length:Int)] (by omega) (by simp)]
  .refine fin [] [mkB (b_E es.flatten)] (by simp) (by simp) (by simp) (λn hn rec hloop=>?_) (λn hn rec out hout=>?_) (by rw [iP_ h]) (by unfold a_P;simp [h])
   .unfold b_S
    rw [ix_ hi,bd_some,hloop,bd_some,el_inl]
    simp only [h,Int.reduceBEq,bF_,fF_,fT_,k_P,bd_some]
    rw [Y_ (by omega),bd_some];simp
   .unfold c_0
    rw [ix_ hi,bd_some]
    simp only [h,Int.reduceBEq,bF_,fF_,fT_,bd_some,List.append_nil,bd_eta]
end
end Go.Vw
