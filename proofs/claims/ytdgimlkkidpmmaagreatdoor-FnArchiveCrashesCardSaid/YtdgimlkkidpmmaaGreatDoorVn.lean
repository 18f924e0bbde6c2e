
import Derived.Test.YtdgimlkkidpmmaaGreatDoorVl
import Derived.Test.YtdgimlkkidpmmaaGreatDoorVm
namespace Go.Vw
open Go.RowKit Dat
def d_7 (l:Bt)(t:UInt8):Bt:=l.flatMap (λc=>if (byteI c==byteI t || byteI c==byteI (92:UInt8)) then [92,c] else [c])
theorem k_k (l:Bt)(t:UInt8):(d_7 l t).length<=2 * l.length:=by
 unfold d_7
 induction l with
 | nil=>simp
 | cons c l ih =>
  rw [List.flatMap_cons,List.length_append,lC_]
  split <;> simp only [lC_,List.length_nil] <;> omega
theorem o_r (l:Bt)(t:UInt8){k:Nat}(h:k<l.length):d_7 (l.take<|k+1) t=d_7 (l.take k) t++(if (byteI l[k]==byteI t || byteI l[k]==byteI (92:UInt8)) then [92,l[k]] else [l[k]]):=by
 unfold d_7
 rw [m_o h,List.flatMap_append]
 simp
theorem s_q {l:Bt}{t:UInt8}(hl:l.length<=1000):l_Y l t=some (d_7 l t++[t]):=by
 have hLIM:=W_;have hel:=k_k l t;unfold l_Y
 rw [ia_ (by omega) (by omega),show ((l.length:Int)+1)=((l.length+1:Nat):Int) by omega,k_S (by omega),bd_some]
 refine (congrArg (λz=>bd z _)<|m_t (λk=>d_7 (l.take k) t) (n:=l.length) (by simp [d_7])<|λk hk=>?_).trans ?_
 .have h1:=k_k (l.take k) t;have h2:(l.take k).length<=1000:=by rw [List.length_take];omega
  rw [ix_ hk,bd_some,o_r l t hk]
  by_cases ha:(byteI l[k]==byteI t)=true
  .rw [ha,iP_ rfl,bd_some,iP_ rfl,O_ (by omega),bd_some,bd_some,O_ (by simp;omega),bd_some,Bool.true_or,iP_ rfl,List.append_assoc];rfl
  .have ha':(byteI l[k]==byteI t)=false:=by simpa using ha
   rw [ha',iN_ (by simp),bd_some,Bool.false_or]
   by_cases hb:(byteI l[k]==byteI (92:UInt8))=true
   .rw [hb,iP_ rfl,O_ (by omega),bd_some,bd_some,O_ (by simp;omega),bd_some,iP_ rfl,List.append_assoc];rfl
   .have hb':(byteI l[k]==byteI (92:UInt8))=false:=by simpa using hb
    rw [hb',iN_ (by simp),bd_some,O_ (by omega),bd_some,iN_ (by simp)]
 .rw [bd_some,el_inl,List.take_length,O_ (by omega),bd_some]
theorem bd_eta {α:Type}{z:Option α}:(bd z λy=>some y)=z:=by cases z <;> rfl
def d_8 (rs:List b_)(r:b_)(v:Val):Bt :=
 if r.kind=1 then c_o r v.number else if r.kind=2 then r.bytes else if r.kind=3 then v.bytes else if r.kind=4 then c_o (X_ rs<|k_ r) (v.bytes.length:Int)++v.bytes else
 if r.kind=10 then d_7 v.bytes (r.bytes.getD 0 0)++[r.bytes.getD 0 0] else if r.kind=5 then c_o (X_ rs<|k_ r) (v.items.length:Int) else if r.kind=7 then c_o (X_ rs<|k_ r) v.number else if r.kind=8 then [mkB (v.items.length:Int)] else []
def Prt (rs:List b_):Nat->Nat->Val->Bt->Prop
 | 0,_,_,_=>False
 | m+1,i,v,e=>∃es:List Bt,es.length=v.items.length/\(∀j (h:j<es.length) (h':j<v.items.length),∃k:Nat,V_ (rs.getD i default) v.number j=(k:Int)/\Prt rs m k v.items[j] es[j])/\e=d_8 rs (rs.getD i default) v++es.flatten++(if (rs.getD i default).kind=9 then [mkB (c_1 es.flatten)] else [])
section
variable {d:c_}{v:Val}
theorem s_r {es:List Bt}{rec:j_U}{r:b_}(hr:g_d r)(hl:es.length=v.items.length)(hb:es.flatten.length<=1000000000)(h:∀j (h1:j<es.length) (h2:j<v.items.length),rec.spec_l11Print d (V_ r v.number j) v.items[j]=some es[j]) :
  t_ (σ:=Bt) (ρ:=Bt) (λG=>(λH=>bd (idx v.items ((G:Nat):Int)) λI=>bd (b_z r v.number ((G:Nat):Int)) λJ=>bd (rec.spec_l11Print d J I) λL=>bd (app H L) λO=>some<|.next O)) v.items.length 0 ([]:Bt)=some (.inl es.flatten):=by
 have hLIM:=W_
 have pre:∀k,k<es.length->(es.take k).flatten.length+es[k]!.length<=es.flatten.length:=λk hk=>by
  have e:es.flatten=(es.take k).flatten++((es.drop k).flatten):=by rw [← List.flatten_append,List.take_append_drop]
  rw [e,List.length_append,dC_ hk,List.flatten_cons,List.length_append]
  simp [hk]
 have:=m_t (ρ:=Bt) (body:=(λG=>(λH=>bd (idx v.items ((G:Nat):Int)) λI=>bd (b_z r v.number ((G:Nat):Int)) λJ=>bd (rec.spec_l11Print d J I) λL=>bd (app H L) λO=>some (.next O)))) (λk=>(es.take k).flatten) (n:=v.items.length) (s:=[]) (by simp) (λk hk=>by
  have hke:k<es.length:=by omega
  have hp:=pre k hke
  rw [List.getElem!_eq_getElem?_getD,gG_ hke] at hp
  simp only [Option.getD_some] at hp
  rw [ix_ hk,bd_some,e_V hr,bd_some,h k hke hk,bd_some,a_A (by omega),bd_some,m_o hke,List.flatten_append]
  simp)
 rw [this,← hl,List.take_length]
theorem s_s {es:List Bt}{n i L:Nat}{rec:i_B}{r:b_}(hi:idx d.rules (i:Int)=some r)(hr:g_d r)(hl:es.length=v.items.length){out:Bt}
  (h:∀j (h1:j<es.length) (h2:j<v.items.length),∀o:Bt,o.length<=10000->∃o',rec.impl_printer_value ⟨⟨d.rules⟩,o⟩ (V_ r v.number j) v.items[j]=some o'/\o.length<=o'.length/\o'.length<=max o.length 400+L/\(o'=o++es[j]∨(400<o'.length/\400<(o++es[j]).length))) :
  ∃o',m_0 n rec ⟨⟨d.rules⟩,out⟩ (i:Int) v=some o'/\out.length<=o'.length/\o'.length<=max out.length (400+L)/\(o'=out++es.flatten∨(400<o'.length/\400<(out++es.flatten).length)):=by
 have pre:∀k,k<=es.length->(es.take k).flatten.length<=es.flatten.length:=λk hk=>by
  have e:es.flatten=(es.take k).flatten++((es.drop k).flatten):=by rw [← List.flatten_append,List.take_append_drop]
  rw [e,List.length_append];omega
 unfold m_0
 simp only
 have A:=d_r (σ:=Bt) (ρ:=Bt) (body:=(λI=>(λH=>bd (i_y (⟨(⟨d.rules⟩:c_),H⟩:c_5)) λO=>if O then some (Out.ret H) else bd (idx v.items ((I:Nat):Int)) λV=>bd (h_O (⟨d.rules⟩:c_) (i:Int) v ((I:Nat):Int)) λW=>bd (rec.impl_printer_value (⟨(⟨d.rules⟩:c_),H⟩:c_5) W V) λY=>some<|.next Y)))
  (λj s=>out.length<=s.length/\s.length<=max out.length (400+L)/\(s=out++(es.take j).flatten∨(400<s.length/\400<(out++(es.take j).flatten).length)))
  (λo'=>out.length<=o'.length/\o'.length<=max out.length (400+L)/\400<o'.length/\400<(out++es.flatten).length) (n:=v.items.length) (λj s hj hI=>by
   obtain ⟨G,s1,s2⟩:=hI;unfold i_y
   rw [bd_some]
   have hp:=pre j (by omega)
   by_cases hf:400<s.length
   .right
    rw [dT_ (show (400:Int)<(s.length:Int) by omega),iP_ rfl]
    refine ⟨s,rfl,G,s1,hf,?_⟩
    rcases s2 with rfl | ⟨_,h2⟩
    .simp only [List.length_append] at hf ⊢;omega
    .simp only [List.length_append] at h2 ⊢;omega
   .left
    have hje:j<es.length:=by omega
    rw [dF_ (show ¬(400:Int)<(s.length:Int) by omega),iN_ (by simp),ix_ hj,bd_some,show (⟨d.rules⟩:c_)=d from rfl,m_v hi hr,bd_some]
    obtain ⟨o',J,e2,e3,e4⟩:=h j hje hj s (by omega)
    rw [show (⟨d.rules⟩:c_)=d from rfl] at J
    rw [J,bd_some]
    have hs:s=out++(es.take j).flatten:=s2.resolve_right<|λq=>hf q.1;have hfl:(es.take<|j+1).flatten=(es.take j).flatten++es[j]:=by rw [m_o hje,List.flatten_append];simp
    refine ⟨o',rfl,by omega,by omega,?_⟩
    rw [hfl,← List.append_assoc,← hs]
    exact e4) v.items.length 0 out (by omega) ⟨Nat.le_refl _,by omega,.inl (by simp)⟩
 rcases A with ⟨s,e,G,s1,s2⟩ | ⟨o',e,G,s1,s2,s3⟩
 .rw [e,bd_some,el_inl]
  rw [← hl,List.take_length] at s2
  exact ⟨s,rfl,G,s1,s2⟩
 .rw [e,bd_some,el_inr]
  exact ⟨o',rfl,G,s1,.inr ⟨s2,s3⟩⟩
theorem s_t {m:Nat}{j:Nat}(hj:j<v.items.length):1+vsz m v.items[j]<=lsz m v.items:=o_G<|gE_ hj
theorem o_s {m:Nat}:∀(es:List Bt)(l:List Val),es.length=l.length->(∀j (h1:j<es.length) (h2:j<l.length),es[j].length<=40 * (1+vsz m l[j]))->es.flatten.length<=40 * lsz m l
 | [],[],_,_=>by simp
 | [],_::_,h,_=>by simp at h
 | _::_,[],h,_=>by simp at h
 | e::es,x::l,h,hb=>by
  have G:=hb 0 (by simp) (by simp);have:=o_s es l (by simpa using h)<|λj h1 h2=>hb (j+1) (by simpa using h1) (by simpa using h2)
  rw [List.flatten_cons,List.length_append,o_F]
  simp only [List.getElem_cons_zero] at G
  omega
theorem s_u (hv:a_b d=true)(_:SmD d):∀(m i:Nat)(v:Val),VP d.rules m i v->vsz m v<=3000000->∃e:Bt,e.length<=40 * (1+vsz m v)/\Prt d.rules m i v e/\(∀n,m+20<=n->f_u n d (i:Int) v=some e) /\
  (∀n,2 * m+20<=n->∀out:Bt,out.length<=10000->∃o',i_C n ⟨⟨d.rules⟩,out⟩ (i:Int) v=some o'/\out.length<=o'.length/\o'.length<=max out.length 400+(820+10 * (i+1))/\(o'=out++e∨(400<o'.length/\400<(out++e).length))):=by
 have hLIM:=W_;have hMX:=MXv;have af:=(f_1 hv).2;intro m
 induction m with
 | zero=>exact λ_ _ h=>h.elim
 | succ m ih =>
  rintro i v ⟨hi,hO,hK⟩ hz;have hz':v.bytes.length+lsz m v.items<=3000000:=hz;have hzz:vsz (m+1) v=v.bytes.length+lsz m v.items:=rfl;have hr:=f_2 hv hi;have hkk:=e_m hr.kind
  -- the parts
  obtain ⟨es,hel,hes⟩:=m_1 (λj (e:Bt)=>∀h:j<v.items.length,∃k:Nat,V_ d.rules[i] v.number j=(k:Int)/\k<i/\e.length<=40 * (1+vsz m v.items[j])/\(∀n,m+20<=n->f_u n d (k:Int) v.items[j]=some e) /\
   (∀n,2 * m+20<=n->∀out:Bt,out.length<=10000->∃o',i_C n ⟨⟨d.rules⟩,out⟩ (k:Int) v.items[j]=some o'/\out.length<=o'.length/\o'.length<=max out.length 400+(820+10 * (k+1))/\(o'=out++e∨(400<o'.length/\400<(out++e).length)))/\Prt d.rules m k v.items[j] e) v.items.length (λj hj=>by
    obtain ⟨k,G,a2,a3⟩:=hK j hj;have hsz:=s_t (m:=m) hj;obtain ⟨e,b1,bp,b2,I⟩:=ih k v.items[j] a3 (by omega)
    exact ⟨e,λ_=>⟨k,G,a2,b1,b2,I,bp⟩⟩)
  have hes':∀j (h1:j<es.length) (h2:j<v.items.length),∃k:Nat,V_ d.rules[i] v.number j=(k:Int)/\k<i/\es[j].length<=40 * (1+vsz m v.items[j])/\(∀n,m+20<=n->f_u n d (k:Int) v.items[j]=some es[j]) /\
   (∀n,2 * m+20<=n->∀out:Bt,out.length<=10000->∃o',i_C n ⟨⟨d.rules⟩,out⟩ (k:Int) v.items[j]=some o'/\out.length<=o'.length/\o'.length<=max out.length 400+(820+10 * (k+1))/\(o'=out++es[j]∨(400<o'.length/\400<(out++es[j]).length)))/\Prt d.rules m k v.items[j] es[j]:=λj h1 h2=>hes j es[j] (gG_ h1) h2
  have hfl:=o_s (m:=m) es v.items hel<|λj h1 h2=>(hes' j h1 h2).choose_spec.2.2.1
  -- both ends, from what stands ahead and behind
  have fin:∀(hd_ tl:Bt),hd_.length<=805->tl.length<=1->hd_.length<=20+2 * v.bytes.length ->
    (∀n,10<=n->∀rec:j_U,t_ (σ:=Bt) (ρ:=Bt) (λa0=>(λa9=>bd (idx v.items ((a0:Nat):Int)) λaa=>bd (b_z d.rules[i] v.number ((a0:Nat):Int)) λab=>bd (rec.spec_l11Print d ab aa) λad=>bd (app a9 ad) λae=>some<|.next ae)) v.items.length 0 ([]:Bt)=some (.inl es.flatten)->b_V n rec d (i:Int) v=some (hd_++es.flatten++tl)) ->
    (∀n,10<=n->∀rec:i_B,∀out:Bt,out.length<=10000->c_P n rec ⟨⟨d.rules⟩,out⟩ (i:Int) v=bd (rec.impl_printer_items ⟨⟨d.rules⟩,out++hd_⟩ (i:Int) v) λr=>if d.rules[i].kind=9 then bd (slc r ((out++hd_).length:Int) (r.length:Int)) λa6=>bd (f_a a6) λa7=>bd (c_Z ⟨⟨d.rules⟩,r⟩ [mkB a7]) λa8=>some a8 else some r) ->
    (tl=if d.rules[i].kind=9 then [mkB (c_1 es.flatten)] else [])->hd_=d_8 d.rules d.rules[i] v ->
    ∃e:Bt,e.length<=40 * (1+vsz (m+1) v)/\Prt d.rules (m+1) i v e/\(∀n,m+1+20<=n->f_u n d (i:Int) v=some e) /\
     (∀n,2 * (m+1)+20<=n->∀out:Bt,out.length<=10000->∃o',i_C n ⟨⟨d.rules⟩,out⟩ (i:Int) v=some o'/\out.length<=o'.length/\o'.length<=max out.length 400+(820+10 * (i+1))/\(o'=out++e∨(400<o'.length/\400<(out++e).length))):=by
   intro h tl h1 h2 h3 hS hI ht hhp
   refine ⟨h++es.flatten++tl,by simp only [List.length_append];omega,⟨es,hel,λj g1 W=>by
    obtain ⟨k,Y,_,_,_,_,c6⟩:=hes' j g1 W
    rw [a_y hi]
    exact ⟨k,Y,c6⟩,by rw [a_y hi,← hhp,ht]⟩,λn hn=>?_,λn hn out hout=>?_⟩
   .obtain ⟨q,rfl⟩:∃q,n=q+1:=⟨n - 1,by omega⟩
    show b_V q (d_D q) d (i:Int) v=_
    exact hS q (by omega) (d_D q) (s_r hkk hel (by omega) (λj g1 W=>by
     obtain ⟨k,Y,c2,c3,c4,_⟩:=hes' j g1 W
     rw [Y]
     exact c4 q (by omega)))
   .obtain ⟨q,rfl⟩:∃q,n=q+2:=⟨n - 2,by omega⟩
    show ∃o',c_P (q+1) (f_Y<|q+1) ⟨⟨d.rules⟩,out⟩ (i:Int) v=some o'/\_
    rw [hI (q+1) (by omega) (f_Y<|q+1) out hout]
    obtain ⟨o',O,H,e3,e4⟩:=s_s (n:=q) (L:=820+10 * i) (rec:=f_Y q) (out:=out++h) (ix_ hi) hkk hel (λj g1 W o ho=>by
     obtain ⟨k,Y,c2,c3,_,c5,_⟩:=hes' j g1 W
     rw [Y]
     obtain ⟨o',G,a2,a3,a4⟩:=c5 q (by omega) o ho
     exact ⟨o',G,a2,by omega,a4⟩)
    rw [show (f_Y<|q+1).impl_printer_items ⟨⟨d.rules⟩,out++h⟩ (i:Int) v=some o' from O,bd_some]
    simp only [List.length_append] at H e3
    by_cases h9:d.rules[i].kind=9
    .rw [iP_ h9] at ht ⊢
     rw [m_O (by simp only [List.length_append];omega),bd_some,m_r _ (by rw [List.length_drop];omega),bd_some]
     unfold c_Z
     rw [a_A (by simp;omega),bd_some,bd_some]
     refine ⟨_,rfl,by simp only [List.length_append,lC_,List.length_nil];omega,by simp only [List.length_append,lC_,List.length_nil];omega,?_⟩
     rcases e4 with rfl | ⟨e5,e6⟩
     .left
      rw [ht,List.drop_left]
      simp
     .right
      simp only [List.length_append,lC_,List.length_nil] at e6 ⊢
      omega
    .rw [iN_ h9] at ht ⊢
     subst ht;refine ⟨o',rfl,by omega,by omega,?_⟩
     rcases e4 with rfl | ⟨e5,e6⟩
     .left;simp
     .right
      simp only [List.length_append,List.length_nil] at e6 ⊢
      omega
  have nil_es:v.items=[]->es.flatten=[]:=λh=>by
   have:es=[]:=List.length_eq_zero_iff.1 (by rw [hel,h];rfl)
   rw [this];rfl
  have limk:∀{x:Int},0<lim d.rules (k_ d.rules[i])->0<=x->x<=lim d.rules (k_ d.rules[i])->∀n,10<=n->idx d.rules (k_ d.rules[i])=some (X_ d.rules<|k_ d.rules[i])/\d_k n (X_ d.rules<|k_ d.rules[i]) x=some (c_o (X_ d.rules<|k_ d.rules[i]) x)/\i_A n (X_ d.rules<|k_ d.rules[i]) x=some (c_o (X_ d.rules<|k_ d.rules[i]) x):=λhl h0 h1 n hn=>by
   obtain ⟨a,b⟩:=u_f hl;obtain ⟨c2,c3⟩:=m_f a h0 (by rw [← b];exact h1) hn;exact ⟨(e_l hl).1,c2,c3⟩
  have hnum:∀(o:Bt)(k x:Int)(l:Bt)(r:b_)(n:Nat),idx d.rules k=some r->i_A n r x=some l->o.length<=20000->l.length<=4->h_c n k x ⟨⟨d.rules⟩,o⟩=some (o++l):=λo k x l r n hk he h1 h2=>by
   unfold h_c c_Z
   rw [hk,bd_some,he,bd_some,a_A (by simp only;omega),bd_some,bd_some]
  have hput:∀(o x:Bt),o.length<=20000->x.length<=2000->c_Z ⟨⟨d.rules⟩,o⟩ x=some (o++x):=λo x h1 h2=>by
   unfold c_Z
   rw [a_A (by simp only;omega),bd_some]
  unfold Own at hO
  rcases hO with ⟨h,G,a2,O,H⟩ | ⟨h,V,O,H⟩ | ⟨h,V,G,H⟩ | ⟨h,V,G,a2,H⟩ | ⟨h,V,G,H⟩ | ⟨h,V,O,G,a2⟩ | ⟨h,V,O,G⟩ | ⟨h,G,a2,O,a3,a4⟩ | ⟨h,V,O,G⟩ | ⟨h,V,O,G⟩
  .have a5:=g_g hr.kind h;have hlen:=k_j d.rules[i] v.number;refine fin (c_o d.rules[i] v.number) [] (by omega) (by simp) (by omega) (λn hn rec hloop=>?_) (λn hn rec out hout=>?_) (by rw [iN_ (by omega)]) (by unfold d_8;simp [h])
   .unfold b_V
    rw [ix_ hi,bd_some,hloop,bd_some,el_inl,nil_es H]
    simp only [h,Int.reduceBEq,bF_,fF_,fT_,(m_f a5 G a2 hn).1,bd_some]
    simp
   .unfold c_P
    rw [ix_ hi,bd_some]
    simp only [h,Int.reduceBEq,Int.reduceEq,bF_,fF_,fT_,hnum out (i:Int) v.number _ _ n (ix_ hi) (m_f a5 G a2 hn).2 (by omega) hlen,bd_some]
  .have hb:=t_L hr.kind h;refine fin d.rules[i].bytes [] (by omega) (by simp) (by omega) (λn hn rec hloop=>?_) (λn hn rec out hout=>?_) (by rw [iN_ (by omega)]) (by unfold d_8;simp [h])
   .unfold b_V
    rw [ix_ hi,bd_some,hloop,bd_some,el_inl,nil_es H]
    simp only [h,Int.reduceBEq,bF_,fF_,fT_]
    rw [a_A (by simp;omega),bd_some];simp
   .unfold c_P
    rw [ix_ hi,bd_some]
    simp only [h,Int.reduceBEq,Int.reduceEq,bF_,fF_,fT_,hput out d.rules[i].bytes (by omega) (by omega),bd_some]
  .have hb:=i_P hr.kind h;refine fin v.bytes [] (by omega) (by simp) (by omega) (λn hn rec hloop=>?_) (λn hn rec out hout=>?_) (by rw [iN_ (by omega)]) (by unfold d_8;simp [h])
   .unfold b_V
    rw [ix_ hi,bd_some,hloop,bd_some,el_inl,nil_es H]
    simp only [h,Int.reduceBEq,bF_,fF_,fT_]
    rw [a_A (by simp;omega),bd_some];simp
   .unfold c_P
    rw [ix_ hi,bd_some]
    simp only [h,Int.reduceBEq,Int.reduceEq,bF_,fF_,fT_,hput out v.bytes (by omega) (by omega),bd_some]
  .obtain ⟨J,hl⟩:=g_h hr.kind h;have hx:idx d.rules[i].kids 0=some (k_ d.rules[i]):=by rw [b_n (by omega)];unfold k_;rw [a_y (by omega)]
   have hlen:=k_j (X_ d.rules<|k_ d.rules[i]) (v.bytes.length:Int);refine fin (c_o (X_ d.rules<|k_ d.rules[i]) (v.bytes.length:Int)++v.bytes) [] (by rw [List.length_append];omega) (by simp) (by rw [List.length_append];omega) (λn hn rec hloop=>?_) (λn hn rec out hout=>?_) (by rw [iN_ (by omega)]) (by unfold d_8;simp [h])
   .obtain ⟨b1,b2,I⟩:=limk (x:=(v.bytes.length:Int)) J (by omega) a2 n hn;unfold b_V
    rw [ix_ hi,bd_some,hloop,bd_some,el_inl,nil_es H]
    simp only [h,Int.reduceBEq,bF_,fF_,fT_,hx,bd_some,b1,b2]
    rw [a_A (by omega),bd_some];simp
   .obtain ⟨b1,b2,I⟩:=limk (x:=(v.bytes.length:Int)) J (by omega) a2 n hn;unfold c_P
    rw [ix_ hi,bd_some]
    simp only [h,Int.reduceBEq,Int.reduceEq,bF_,fF_,fT_,hx,bd_some,hnum out _ _ _ _ n b1 I (by omega) hlen]
    rw [hput _ v.bytes (by rw [List.length_append];omega) (by omega),List.append_assoc]
    simp only [bd_some]
  .have hb:=m_W hr.kind h;have hx:idx d.rules[i].bytes 0=some (d.rules[i].bytes[0]'(by omega)):=by rw [b_n (by omega)]
   have hlen:=k_k v.bytes<|d.rules[i].bytes[0]'(by omega);refine fin (d_7 v.bytes (d.rules[i].bytes[0]'(by omega))++[d.rules[i].bytes[0]'(by omega)]) [] (by simp only [List.length_append,lC_,List.length_nil];omega) (by simp) (by simp only [List.length_append,lC_,List.length_nil];omega) (λn hn rec hloop=>?_) (λn hn rec out hout=>?_) (by rw [iN_ (by omega)]) (by unfold d_8;simp [h,gG_ (show 0<d.rules[i].bytes.length by omega)])
   .unfold b_V
    rw [ix_ hi,bd_some,hloop,bd_some,el_inl,nil_es H]
    simp only [h,Int.reduceBEq,bF_,fF_,fT_]
    generalize ht:d.rules[i].bytes[0]'(by omega)=t at hx hlen
    refine (congrArg (λz=>bd z _)<|m_t (λk=>d_7 (v.bytes.take k) t) (n:=v.bytes.length) (by simp [d_7])<|λk hk=>?_).trans ?_
    .have h1:=k_k (v.bytes.take k) t;have h2:(v.bytes.take k).length<=400:=by rw [List.length_take];omega
     rw [ix_ hk,bd_some,hx,bd_some,o_r v.bytes t hk]
     by_cases ha:(byteI v.bytes[k]==byteI t)=true
     .rw [ha,iP_ rfl,bd_some,iP_ rfl,O_ (by omega),bd_some,bd_some,bd_some,O_ (by simp;omega),bd_some,Bool.true_or,iP_ rfl,List.append_assoc];rfl
     .have ha':(byteI v.bytes[k]==byteI t)=false:=by simpa using ha
      rw [ha',iN_ (by simp),bd_some,bd_some,Bool.false_or]
      by_cases hb':(byteI v.bytes[k]==byteI (92:UInt8))=true
      .rw [hb',iP_ rfl,O_ (by omega),bd_some,bd_some,bd_some,O_ (by simp;omega),bd_some,iP_ rfl,List.append_assoc];rfl
      .have hb'':(byteI v.bytes[k]==byteI (92:UInt8))=false:=by simpa using hb'
       rw [hb'',iN_ (by simp),bd_some,bd_some,O_ (by omega),bd_some,iN_ (by simp)]
    .rw [bd_some,el_inl,List.take_length,hx,bd_some,O_ (by omega),bd_some];simp
   .unfold c_P
    rw [ix_ hi,bd_some]
    simp only [h,Int.reduceBEq,Int.reduceEq,bF_,fF_,fT_,hx,bd_some,s_q (t:=d.rules[i].bytes[0]'(by omega)) (show v.bytes.length<=1000 by omega)]
    rw [hput out _ (by omega) (by simp only [List.length_append,lC_,List.length_nil];omega)]
    simp only [bd_some]
  .obtain ⟨J,hl⟩:=d_Q hr.kind h;have hx:idx d.rules[i].kids 0=some (k_ d.rules[i]):=by rw [b_n (by omega)];unfold k_;rw [a_y (by omega)]
   have hlen:=k_j (X_ d.rules<|k_ d.rules[i]) (v.items.length:Int);refine fin (c_o (X_ d.rules<|k_ d.rules[i]) (v.items.length:Int)) [] (by omega) (by simp) (by omega) (λn hn rec hloop=>?_) (λn hn rec out hout=>?_) (by rw [iN_ (by omega)]) (by unfold d_8;simp [h])
   .obtain ⟨b1,b2,I⟩:=limk (x:=(v.items.length:Int)) J (by omega) a2 n hn;unfold b_V
    rw [ix_ hi,bd_some,hloop,bd_some,el_inl]
    simp only [h,Int.reduceBEq,bF_,fF_,fT_,hx,bd_some,b1,b2]
    rw [a_A (by omega),bd_some];simp
   .obtain ⟨b1,b2,I⟩:=limk (x:=(v.items.length:Int)) J (by omega) a2 n hn;unfold c_P
    rw [ix_ hi,bd_some]
    simp only [h,Int.reduceBEq,Int.reduceEq,bF_,fF_,fT_,hx,bd_some,hnum out _ _ _ _ n b1 I (by omega) hlen]
  .refine fin [] [] (by simp) (by simp) (by simp) (λn hn rec hloop=>?_) (λn hn rec out hout=>?_) (by rw [iN_ (by omega)]) (by unfold d_8;simp [h])
   .unfold b_V
    rw [ix_ hi,bd_some,hloop,bd_some,el_inl]
    simp only [h,Int.reduceBEq,bF_,fF_]
    simp
   .unfold c_P
    rw [ix_ hi,bd_some]
    simp only [h,Int.reduceBEq,Int.reduceEq,bF_,fF_,bd_some,List.append_nil]
  .obtain ⟨J,hl,_,_⟩:=f_3 hr.kind h;have hx:idx d.rules[i].kids 0=some (k_ d.rules[i]):=by rw [b_n (by omega)];unfold k_;rw [a_y (by omega)]
   have hlen:=k_j (X_ d.rules<|k_ d.rules[i]) v.number;refine fin (c_o (X_ d.rules<|k_ d.rules[i]) v.number) [] (by omega) (by simp) (by omega) (λn hn rec hloop=>?_) (λn hn rec out hout=>?_) (by rw [iN_ (by omega)]) (by unfold d_8;simp [h])
   .obtain ⟨b1,b2,I⟩:=limk (x:=v.number) J G a2 n hn;unfold b_V
    rw [ix_ hi,bd_some,hloop,bd_some,el_inl]
    simp only [h,Int.reduceBEq,bF_,fF_,fT_,hx,bd_some,b1,b2]
    rw [a_A (by omega),bd_some];simp
   .obtain ⟨b1,b2,I⟩:=limk (x:=v.number) J G a2 n hn;unfold c_P
    rw [ix_ hi,bd_some]
    simp only [h,Int.reduceBEq,Int.reduceEq,bF_,fF_,fT_,hx,bd_some,hnum out _ _ _ _ n b1 I (by omega) hlen]
  .refine fin [mkB (v.items.length:Int)] [] (by simp) (by simp) (by simp only [lC_,List.length_nil];omega) (λn hn rec hloop=>?_) (λn hn rec out hout=>?_) (by rw [iN_ (by omega)]) (by unfold d_8;simp [h])
   .unfold b_V
    rw [ix_ hi,bd_some,hloop,bd_some,el_inl]
    simp only [h,Int.reduceBEq,bF_,fF_,fT_]
    rw [a_A (by simp only [lC_,List.length_nil];omega),bd_some];simp
   .unfold c_P
    rw [ix_ hi,bd_some]
    simp only [h,Int.reduceBEq,Int.reduceEq,bF_,fF_,fT_,bd_some,hput out [mkB (v.items.length:Int)] (by omega) (by simp)]
  .refine fin [] [mkB (c_1 es.flatten)] (by simp) (by simp) (by simp) (λn hn rec hloop=>?_) (λn hn rec out hout=>?_) (by rw [iP_ h]) (by unfold d_8;simp [h])
   .unfold b_V
    rw [ix_ hi,bd_some,hloop,bd_some,el_inl]
    simp only [h,Int.reduceBEq,bF_,fF_,fT_,k_o,bd_some]
    rw [O_ (by omega),bd_some];simp
   .unfold c_P
    rw [ix_ hi,bd_some]
    simp only [h,Int.reduceBEq,bF_,fF_,fT_,bd_some,List.append_nil,bd_eta]
end
end Go.Vw
