
import Derived.Test.YtbhbfaljeoeciaaGreatDoorVr
import Derived.Test.YtbhbfaljeoeciaaGreatDoorVs
namespace Go.Vw
open Go.RowKit Dat
def c_I (l:List UInt8)(t:UInt8):List UInt8:=l.flatMap (fun c=>if (byteI c==byteI t || byteI c==byteI (92:UInt8))=true then [92,c] else [c])
theorem i_B (l:List UInt8)(t:UInt8):(c_I l t).length<=2 * l.length:=by
 unfold c_I
 induction l with
 | nil=>simp
 | cons c l ih =>
  rw [List.flatMap_cons,List.length_append,lC_]
  split <;> simp only [lC_,List.length_nil] <;> omega
theorem m_2 (l:List UInt8)(t:UInt8){k:Nat}(h:k<l.length):c_I (l.take<|k+1) t=c_I (l.take k) t++(if (byteI l[k]==byteI t || byteI l[k]==byteI (92:UInt8))=true then [92,l[k]] else [l[k]]):=by
 unfold c_I
 rw [d_r h,List.flatMap_append]
 simp
theorem p_k {l:List UInt8}{t:UInt8}(hl:l.length<=1000):g_b l t=some (c_I l t++[t]):=by
 have hLIM:=a_p;have hel:=i_B l t;unfold g_b
 rw [ia_ (by omega) (by omega),show ((l.length:Int)+1)=((l.length+1:Nat):Int) by omega,f_g (by omega),bd_some]
 refine (congrArg (fun z=>bd z _)<|d_N (fun k=>c_I (l.take k) t) (n:=l.length) (by simp [c_I])<|fun k hk=>?_).trans ?_
 ·have h1:=i_B (l.take k) t;have h2:(l.take k).length<=1000:=by rw [List.length_take];omega
  rw [ix_ hk,bd_some,m_2 l t hk]
  by_cases ha:(byteI l[k]==byteI t)=true
  ·rw [ha,iP_ rfl,bd_some,iP_ rfl,a_X (by omega),bd_some,bd_some,a_X (by simp;omega),bd_some,Bool.true_or,iP_ rfl,List.append_assoc];rfl
  ·have ha':(byteI l[k]==byteI t)=false:=by simpa using ha
   rw [ha',iN_ (by simp),bd_some,Bool.false_or]
   by_cases hb:(byteI l[k]==byteI (92:UInt8))=true
   ·rw [hb,iP_ rfl,a_X (by omega),bd_some,bd_some,a_X (by simp;omega),bd_some,iP_ rfl,List.append_assoc];rfl
   ·have hb':(byteI l[k]==byteI (92:UInt8))=false:=by simpa using hb
    rw [hb',iN_ (by simp),bd_some,a_X (by omega),bd_some,iN_ (by simp)]
 ·rw [bd_some,el_inl,List.take_length,a_X (by omega),bd_some]
theorem bd_eta {α:Type}{z:Option α}:(bd z fun y=>some y)=z:=by cases z <;> rfl
section
variable {d:c_}{v:Val}
theorem p_l {es:List (List UInt8)}{rec:h_K}{r:g_}(hr:d_2 r)(hl:es.length=v.items.length)(hb:es.flatten.length<=1000000000)(h:∀j (h1:j<es.length) (h2:j<v.items.length),rec.spec_l11Print d (N_ r v.number j) v.items[j]=some es[j]) :
  z_ (σ:=List UInt8) (ρ:=List UInt8) (fun G=>(fun H=>bd (idx v.items ((G:Nat):Int)) fun I=>bd (b_d r v.number ((G:Nat):Int)) fun J=>bd (rec.spec_l11Print d J I) fun L=>bd (app H L) fun O=>some<|.next O)) v.items.length 0 ([]:List UInt8)=some (.inl es.flatten):=by
 have hLIM:=a_p
 have pre:∀k,k<es.length->(es.take k).flatten.length+es[k]!.length<=es.flatten.length:=fun k hk=>by
  have e:es.flatten=(es.take k).flatten++((es.drop k).flatten):=by rw [← List.flatten_append,List.take_append_drop]
  rw [e,List.length_append,dC_ hk,List.flatten_cons,List.length_append]
  simp [hk]
 have:=d_N (ρ:=List UInt8) (body:=(fun G=>(fun H=>bd (idx v.items ((G:Nat):Int)) fun I=>bd (b_d r v.number ((G:Nat):Int)) fun J=>bd (rec.spec_l11Print d J I) fun L=>bd (app H L) fun O=>some (.next O)))) (fun k=>(es.take k).flatten) (n:=v.items.length) (s:=[]) (by simp) (fun k hk=>by
  have hke:k<es.length:=by omega
  have hp:=pre k hke
  rw [List.getElem!_eq_getElem?_getD,gG_ hke] at hp
  simp only [Option.getD_some] at hp
  rw [ix_ hk,bd_some,c_L hr,bd_some,h k hke hk,bd_some,c_j (by omega),bd_some,d_r hke,List.flatten_append]
  simp)
 rw [this,← hl,List.take_length]
theorem p_m {es:List (List UInt8)}{n i L:Nat}{rec:g_d}{r:g_}(hi:idx d.rules (i:Int)=some r)(hr:d_2 r)(hl:es.length=v.items.length){out:List UInt8}
  (h:∀j (h1:j<es.length) (h2:j<v.items.length),∀o:List UInt8,o.length<=10000->∃o',rec.impl_printer_value ⟨⟨d.rules⟩,o⟩ (N_ r v.number j) v.items[j]=some o'/\o.length<=o'.length/\o'.length<=max o.length 400+L/\(o'=o++es[j]∨(400<o'.length/\400<(o++es[j]).length))) :
  ∃o',g_e n rec ⟨⟨d.rules⟩,out⟩ (i:Int) v=some o'/\out.length<=o'.length/\o'.length<=max out.length (400+L)/\(o'=out++es.flatten∨(400<o'.length/\400<(out++es.flatten).length)):=by
 have pre:∀k,k<=es.length->(es.take k).flatten.length<=es.flatten.length:=fun k hk=>by
  have e:es.flatten=(es.take k).flatten++((es.drop k).flatten):=by rw [← List.flatten_append,List.take_append_drop]
  rw [e,List.length_append];omega
 unfold g_e
 simp only
 have A:=f_a (σ:=List UInt8) (ρ:=List UInt8) (body:=(fun I=>(fun H=>bd (e_g (⟨(⟨d.rules⟩:c_),H⟩:a_O)) fun O=>if O=true then some (Out.ret H) else bd (idx v.items ((I:Nat):Int)) fun V=>bd (c_Q (⟨d.rules⟩:c_) (i:Int) v ((I:Nat):Int)) fun W=>bd (rec.impl_printer_value (⟨(⟨d.rules⟩:c_),H⟩:a_O) W V) fun Y=>some<|.next Y)))
  (fun j s=>out.length<=s.length/\s.length<=max out.length (400+L)/\(s=out++(es.take j).flatten∨(400<s.length/\400<(out++(es.take j).flatten).length)))
  (fun o'=>out.length<=o'.length/\o'.length<=max out.length (400+L)/\400<o'.length/\400<(out++es.flatten).length) (n:=v.items.length) (fun j s hj hI=>by
   obtain ⟨G,s1,s2⟩:=hI;unfold e_g
   rw [bd_some]
   have hp:=pre j (by omega)
   by_cases hf:400<s.length
   ·right
    rw [dT_ (show (400:Int)<(s.length:Int) by omega),iP_ rfl]
    refine ⟨s,rfl,G,s1,hf,?_⟩
    rcases s2 with rfl | ⟨_,h2⟩
    ·simp only [List.length_append] at hf ⊢;omega
    ·simp only [List.length_append] at h2 ⊢;omega
   ·left
    have hje:j<es.length:=by omega
    rw [dF_ (show ¬(400:Int)<(s.length:Int) by omega),iN_ (by simp),ix_ hj,bd_some,show (⟨d.rules⟩:c_)=d from rfl,g_F hi hr,bd_some]
    obtain ⟨o',J,e2,e3,e4⟩:=h j hje hj s (by omega)
    rw [show (⟨d.rules⟩:c_)=d from rfl] at J
    rw [J,bd_some]
    have hs:s=out++(es.take j).flatten:=s2.resolve_right<|fun q=>hf q.1;have hfl:(es.take<|j+1).flatten=(es.take j).flatten++es[j]:=by rw [d_r hje,List.flatten_append];simp
    refine ⟨o',rfl,by omega,by omega,?_⟩
    rw [hfl,← List.append_assoc,← hs]
    exact e4) v.items.length 0 out (by omega) ⟨Nat.le_refl _,by omega,.inl (by simp)⟩
 rcases A with ⟨s,e,G,s1,s2⟩ | ⟨o',e,G,s1,s2,s3⟩
 ·rw [e,bd_some,el_inl]
  rw [← hl,List.take_length] at s2
  exact ⟨s,rfl,G,s1,s2⟩
 ·rw [e,bd_some,el_inr]
  exact ⟨o',rfl,G,s1,.inr ⟨s2,s3⟩⟩
theorem p_n {m:Nat}{j:Nat}(hj:j<v.items.length):1+vsz m v.items[j]<=lsz m v.items:=g_C<|gE_ hj
theorem m_3 {m:Nat}:∀(es:List (List UInt8))(l:List Val),es.length=l.length->(∀j (h1:j<es.length) (h2:j<l.length),es[j].length<=40 * (1+vsz m l[j]))->es.flatten.length<=40 * lsz m l
 | [],[],_,_=>by simp
 | [],_::_,h,_=>by simp at h
 | _::_,[],h,_=>by simp at h
 | e::es,x::l,h,hb=>by
  have G:=hb 0 (by simp) (by simp);have:=m_3 es l (by simpa using h)<|fun j h1 h2=>hb (j+1) (by simpa using h1) (by simpa using h2)
  rw [List.flatten_cons,List.length_append,d_1]
  simp only [List.getElem_cons_zero] at G
  omega
theorem p_o (hv:a_7 d=true)(hd:SmD d):∀(m i:Nat)(v:Val),VP d.rules m i v->vsz m v<=3000000->∃e:List UInt8,e.length<=40 * (1+vsz m v)/\(∀n,m+20<=n->f_Y n d (i:Int) v=some e) /\
  (∀n,2 * m+20<=n->∀out:List UInt8,out.length<=10000->∃o',g_f n ⟨⟨d.rules⟩,out⟩ (i:Int) v=some o'/\out.length<=o'.length/\o'.length<=max out.length 400+(820+10 * (i+1))/\(o'=out++e∨(400<o'.length/\400<(out++e).length))):=by
 have hLIM:=a_p;have hMX:=MXv;have af:=(c_h hv).2;intro m
 induction m with
 | zero=>exact fun _ _ h=>h.elim
 | succ m ih =>
  rintro i v ⟨hi,hO,hK⟩ hz;have hz':v.bytes.length+lsz m v.items<=3000000:=hz;have hzz:vsz (m+1) v=v.bytes.length+lsz m v.items:=rfl;have hr:=b_w hv hi;have hkk:=c_i hr.kind
  -- the parts
  obtain ⟨es,hel,hes⟩:=j_E (fun j (e:List UInt8)=>∀h:j<v.items.length,∃k:Nat,N_ d.rules[i] v.number j=(k:Int)/\k<i/\e.length<=40 * (1+vsz m v.items[j])/\(∀n,m+20<=n->f_Y n d (k:Int) v.items[j]=some e) /\
   (∀n,2 * m+20<=n->∀out:List UInt8,out.length<=10000->∃o',g_f n ⟨⟨d.rules⟩,out⟩ (k:Int) v.items[j]=some o'/\out.length<=o'.length/\o'.length<=max out.length 400+(820+10 * (k+1))/\(o'=out++e∨(400<o'.length/\400<(out++e).length)))) v.items.length (fun j hj=>by
    obtain ⟨k,G,a2,V⟩:=hK j hj;have hsz:=p_n (m:=m) hj;obtain ⟨e,b1,b2,b3⟩:=ih k v.items[j] V (by omega)
    exact ⟨e,fun _=>⟨k,G,a2,b1,b2,b3⟩⟩)
  have hes':∀j (h1:j<es.length) (h2:j<v.items.length),∃k:Nat,N_ d.rules[i] v.number j=(k:Int)/\k<i/\es[j].length<=40 * (1+vsz m v.items[j])/\(∀n,m+20<=n->f_Y n d (k:Int) v.items[j]=some es[j]) /\
   (∀n,2 * m+20<=n->∀out:List UInt8,out.length<=10000->∃o',g_f n ⟨⟨d.rules⟩,out⟩ (k:Int) v.items[j]=some o'/\out.length<=o'.length/\o'.length<=max out.length 400+(820+10 * (k+1))/\(o'=out++es[j]∨(400<o'.length/\400<(out++es[j]).length))):=fun j h1 h2=>hes j es[j] (gG_ h1) h2
  have hfl:=m_3 (m:=m) es v.items hel<|fun j h1 h2=>(hes' j h1 h2).choose_spec.2.2.1
  -- both ends, from what stands ahead and behind
  have fin:∀(hd_ tl:List UInt8),hd_.length<=805->tl.length<=1->hd_.length<=20+2 * v.bytes.length ->
    (∀n,10<=n->∀rec:h_K,z_ (σ:=List UInt8) (ρ:=List UInt8) (fun a0=>(fun a9=>bd (idx v.items ((a0:Nat):Int)) fun aa=>bd (b_d d.rules[i] v.number ((a0:Nat):Int)) fun ab=>bd (rec.spec_l11Print d ab aa) fun ad=>bd (app a9 ad) fun ae=>some<|.next ae)) v.items.length 0 ([]:List UInt8)=some (.inl es.flatten)->b_N n rec d (i:Int) v=some (hd_++es.flatten++tl)) ->
    (∀n,10<=n->∀rec:g_d,∀out:List UInt8,out.length<=10000->b_R n rec ⟨⟨d.rules⟩,out⟩ (i:Int) v=bd (rec.impl_printer_items ⟨⟨d.rules⟩,out++hd_⟩ (i:Int) v) fun r=>if d.rules[i].kind=9 then bd (slc r ((out++hd_).length:Int) (r.length:Int)) fun a6=>bd (e_z a6) fun a7=>bd (c_2 ⟨⟨d.rules⟩,r⟩ [mkB a7]) fun a8=>some a8 else some r) ->
    (tl=if d.rules[i].kind=9 then [mkB (b_V es.flatten)] else []) ->
    ∃e:List UInt8,e.length<=40 * (1+vsz (m+1) v)/\(∀n,m+1+20<=n->f_Y n d (i:Int) v=some e) /\
     (∀n,2 * (m+1)+20<=n->∀out:List UInt8,out.length<=10000->∃o',g_f n ⟨⟨d.rules⟩,out⟩ (i:Int) v=some o'/\out.length<=o'.length/\o'.length<=max out.length 400+(820+10 * (i+1))/\(o'=out++e∨(400<o'.length/\400<(out++e).length))):=by
   intro h tl h1 h2 h3 hS hI ht;refine ⟨h++es.flatten++tl,by simp only [List.length_append];omega,fun n hn=>?_,fun n hn out hout=>?_⟩
   ·obtain ⟨q,rfl⟩:∃q,n=q+1:=⟨n - 1,by omega⟩
    show b_N q (e_a q) d (i:Int) v=_
    exact hS q (by omega) (e_a q) (p_l hkk hel (by omega) (fun j g1 W=>by
     obtain ⟨k,Y,c2,c3,c4,_⟩:=hes' j g1 W
     rw [Y]
     exact c4 q (by omega)))
   ·obtain ⟨q,rfl⟩:∃q,n=q+2:=⟨n - 2,by omega⟩
    show ∃o',b_R (q+1) (c_e<|q+1) ⟨⟨d.rules⟩,out⟩ (i:Int) v=some o'/\_
    rw [hI (q+1) (by omega) (c_e<|q+1) out hout]
    obtain ⟨o',J,H,e3,e4⟩:=p_m (n:=q) (L:=820+10 * i) (rec:=c_e q) (out:=out++h) (ix_ hi) hkk hel (fun j g1 W o ho=>by
     obtain ⟨k,Y,c2,c3,_,c5⟩:=hes' j g1 W
     rw [Y]
     obtain ⟨o',G,a2,V,a4⟩:=c5 q (by omega) o ho
     exact ⟨o',G,a2,by omega,a4⟩)
    rw [show (c_e<|q+1).impl_printer_items ⟨⟨d.rules⟩,out++h⟩ (i:Int) v=some o' from J,bd_some]
    simp only [List.length_append] at H e3
    by_cases h9:d.rules[i].kind=9
    ·rw [iP_ h9] at ht ⊢
     rw [q_4 (by simp only [List.length_append];omega),bd_some,m_s _ (by rw [List.length_drop];omega),bd_some]
     unfold c_2
     rw [c_j (by simp;omega),bd_some,bd_some]
     refine ⟨_,rfl,by simp only [List.length_append,lC_,List.length_nil];omega,by simp only [List.length_append,lC_,List.length_nil];omega,?_⟩
     rcases e4 with rfl | ⟨e5,e6⟩
     ·left
      rw [ht,List.drop_left]
      simp
     ·right
      simp only [List.length_append,lC_,List.length_nil] at e6 ⊢
      omega
    ·rw [iN_ h9] at ht ⊢
     subst ht;refine ⟨o',rfl,by omega,by omega,?_⟩
     rcases e4 with rfl | ⟨e5,e6⟩
     ·left;simp
     ·right
      simp only [List.length_append,List.length_nil] at e6 ⊢
      omega
  have nil_es:v.items=[]->es.flatten=[]:=fun h=>by
   have:es=[]:=List.length_eq_zero_iff.1 (by rw [hel,h];rfl)
   rw [this];rfl
  have limk:∀{x:Int},0<lim d.rules (s_ d.rules[i])->0<=x->x<=lim d.rules (s_ d.rules[i])->∀n,10<=n->idx d.rules (s_ d.rules[i])=some (H_ d.rules<|s_ d.rules[i])/\d_l n (H_ d.rules<|s_ d.rules[i]) x=some (c_H (H_ d.rules<|s_ d.rules[i]) x)/\e_i n (H_ d.rules<|s_ d.rules[i]) x=some (c_H (H_ d.rules<|s_ d.rules[i]) x):=fun hl h0 h1 n hn=>by
   obtain ⟨a,b⟩:=e_n hl;obtain ⟨c2,c3⟩:=j_N a h0 (by rw [← b];exact h1) hn;exact ⟨(d_6 hl).1,c2,c3⟩
  have hnum:∀(o:List UInt8)(k x:Int)(l:List UInt8)(r:g_)(n:Nat),idx d.rules k=some r->e_i n r x=some l->o.length<=20000->l.length<=4->d_J n k x ⟨⟨d.rules⟩,o⟩=some (o++l):=fun o k x l r n hk he h1 h2=>by
   unfold d_J c_2
   rw [hk,bd_some,he,bd_some,c_j (by simp only;omega),bd_some,bd_some]
  have hput:∀(o x:List UInt8),o.length<=20000->x.length<=2000->c_2 ⟨⟨d.rules⟩,o⟩ x=some (o++x):=fun o x h1 h2=>by
   unfold c_2
   rw [c_j (by simp only;omega),bd_some]
  unfold Own at hO
  rcases hO with ⟨h,G,a2,J,H⟩ | ⟨h,O,J,H⟩ | ⟨h,O,G,H⟩ | ⟨h,O,G,a2,H⟩ | ⟨h,O,G,H⟩ | ⟨h,O,J,G,a2⟩ | ⟨h,O,J,G⟩ | ⟨h,G,a2,J,V,a4⟩ | ⟨h,O,J,G⟩ | ⟨h,O,J,G⟩
  ·have a5:=c_u hr.kind h;have hlen:=i_A d.rules[i] v.number;refine fin (c_H d.rules[i] v.number) [] (by omega) (by simp) (by omega) (fun n hn rec hloop=>?_) (fun n hn rec out hout=>?_) (by rw [iN_ (by omega)])
   ·unfold b_N
    rw [ix_ hi,bd_some,hloop,bd_some,el_inl,nil_es H]
    simp only [h,Int.reduceBEq,bF_,fF_,fT_,(j_N a5 G a2 hn).1,bd_some]
    simp
   ·unfold b_R
    rw [ix_ hi,bd_some]
    simp only [h,Int.reduceBEq,Int.reduceEq,bF_,fF_,fT_,hnum out (i:Int) v.number _ _ n (ix_ hi) (j_N a5 G a2 hn).2 (by omega) hlen,bd_some]
  ·have hb:=m_C hr.kind h;refine fin d.rules[i].bytes [] (by omega) (by simp) (by omega) (fun n hn rec hloop=>?_) (fun n hn rec out hout=>?_) (by rw [iN_ (by omega)])
   ·unfold b_N
    rw [ix_ hi,bd_some,hloop,bd_some,el_inl,nil_es H]
    simp only [h,Int.reduceBEq,bF_,fF_,fT_]
    rw [c_j (by simp;omega),bd_some];simp
   ·unfold b_R
    rw [ix_ hi,bd_some]
    simp only [h,Int.reduceBEq,Int.reduceEq,bF_,fF_,fT_,hput out d.rules[i].bytes (by omega) (by omega),bd_some]
  ·have hb:=d_u hr.kind h;refine fin v.bytes [] (by omega) (by simp) (by omega) (fun n hn rec hloop=>?_) (fun n hn rec out hout=>?_) (by rw [iN_ (by omega)])
   ·unfold b_N
    rw [ix_ hi,bd_some,hloop,bd_some,el_inl,nil_es H]
    simp only [h,Int.reduceBEq,bF_,fF_,fT_]
    rw [c_j (by simp;omega),bd_some];simp
   ·unfold b_R
    rw [ix_ hi,bd_some]
    simp only [h,Int.reduceBEq,Int.reduceEq,bF_,fF_,fT_,hput out v.bytes (by omega) (by omega),bd_some]
  ·obtain ⟨I,hl⟩:=d_v hr.kind h;have hx:idx d.rules[i].kids 0=some (s_ d.rules[i]):=by rw [a_W (by omega)];unfold s_;rw [W_ (by omega)]
   have hlen:=i_A (H_ d.rules<|s_ d.rules[i]) (v.bytes.length:Int);refine fin (c_H (H_ d.rules<|s_ d.rules[i]) (v.bytes.length:Int)++v.bytes) [] (by rw [List.length_append];omega) (by simp) (by rw [List.length_append];omega) (fun n hn rec hloop=>?_) (fun n hn rec out hout=>?_) (by rw [iN_ (by omega)])
   ·obtain ⟨b1,b2,b3⟩:=limk (x:=(v.bytes.length:Int)) I (by omega) a2 n hn;unfold b_N
    rw [ix_ hi,bd_some,hloop,bd_some,el_inl,nil_es H]
    simp only [h,Int.reduceBEq,bF_,fF_,fT_,hx,bd_some,b1,b2]
    rw [c_j (by omega),bd_some];simp
   ·obtain ⟨b1,b2,b3⟩:=limk (x:=(v.bytes.length:Int)) I (by omega) a2 n hn;unfold b_R
    rw [ix_ hi,bd_some]
    simp only [h,Int.reduceBEq,Int.reduceEq,bF_,fF_,fT_,hx,bd_some,hnum out _ _ _ _ n b1 b3 (by omega) hlen]
    rw [hput _ v.bytes (by rw [List.length_append];omega) (by omega),List.append_assoc]
    simp only [bd_some]
  ·have hb:=k_5 hr.kind h;have hx:idx d.rules[i].bytes 0=some (d.rules[i].bytes[0]'(by omega)):=by rw [a_W (by omega)]
   have hlen:=i_B v.bytes<|d.rules[i].bytes[0]'(by omega);refine fin (c_I v.bytes (d.rules[i].bytes[0]'(by omega))++[d.rules[i].bytes[0]'(by omega)]) [] (by simp only [List.length_append,lC_,List.length_nil];omega) (by simp) (by simp only [List.length_append,lC_,List.length_nil];omega) (fun n hn rec hloop=>?_) (fun n hn rec out hout=>?_) (by rw [iN_ (by omega)])
   ·unfold b_N
    rw [ix_ hi,bd_some,hloop,bd_some,el_inl,nil_es H]
    simp only [h,Int.reduceBEq,bF_,fF_,fT_]
    generalize ht:d.rules[i].bytes[0]'(by omega)=t at hx hlen
    refine (congrArg (fun z=>bd z _)<|d_N (fun k=>c_I (v.bytes.take k) t) (n:=v.bytes.length) (by simp [c_I])<|fun k hk=>?_).trans ?_
    ·have h1:=i_B (v.bytes.take k) t;have h2:(v.bytes.take k).length<=400:=by rw [List.length_take];omega
     rw [ix_ hk,bd_some,hx,bd_some,m_2 v.bytes t hk]
     by_cases ha:(byteI v.bytes[k]==byteI t)=true
     ·rw [ha,iP_ rfl,bd_some,iP_ rfl,a_X (by omega),bd_some,bd_some,bd_some,a_X (by simp;omega),bd_some,Bool.true_or,iP_ rfl,List.append_assoc];rfl
     ·have ha':(byteI v.bytes[k]==byteI t)=false:=by simpa using ha
      rw [ha',iN_ (by simp),bd_some,bd_some,Bool.false_or]
      by_cases hb':(byteI v.bytes[k]==byteI (92:UInt8))=true
      ·rw [hb',iP_ rfl,a_X (by omega),bd_some,bd_some,bd_some,a_X (by simp;omega),bd_some,iP_ rfl,List.append_assoc];rfl
      ·have hb'':(byteI v.bytes[k]==byteI (92:UInt8))=false:=by simpa using hb'
       rw [hb'',iN_ (by simp),bd_some,bd_some,a_X (by omega),bd_some,iN_ (by simp)]
    ·rw [bd_some,el_inl,List.take_length,hx,bd_some,a_X (by omega),bd_some];simp
   ·unfold b_R
    rw [ix_ hi,bd_some]
    simp only [h,Int.reduceBEq,Int.reduceEq,bF_,fF_,fT_,hx,bd_some,p_k (t:=d.rules[i].bytes[0]'(by omega)) (show v.bytes.length<=1000 by omega)]
    rw [hput out _ (by omega) (by simp only [List.length_append,lC_,List.length_nil];omega)]
    simp only [bd_some]
  ·obtain ⟨I,hl⟩:=c_v hr.kind h;have hx:idx d.rules[i].kids 0=some (s_ d.rules[i]):=by rw [a_W (by omega)];unfold s_;rw [W_ (by omega)]
   have hlen:=i_A (H_ d.rules<|s_ d.rules[i]) (v.items.length:Int);refine fin (c_H (H_ d.rules<|s_ d.rules[i]) (v.items.length:Int)) [] (by omega) (by simp) (by omega) (fun n hn rec hloop=>?_) (fun n hn rec out hout=>?_) (by rw [iN_ (by omega)])
   ·obtain ⟨b1,b2,b3⟩:=limk (x:=(v.items.length:Int)) I (by omega) a2 n hn;unfold b_N
    rw [ix_ hi,bd_some,hloop,bd_some,el_inl]
    simp only [h,Int.reduceBEq,bF_,fF_,fT_,hx,bd_some,b1,b2]
    rw [c_j (by omega),bd_some];simp
   ·obtain ⟨b1,b2,b3⟩:=limk (x:=(v.items.length:Int)) I (by omega) a2 n hn;unfold b_R
    rw [ix_ hi,bd_some]
    simp only [h,Int.reduceBEq,Int.reduceEq,bF_,fF_,fT_,hx,bd_some,hnum out _ _ _ _ n b1 b3 (by omega) hlen]
  ·refine fin [] [] (by simp) (by simp) (by simp) (fun n hn rec hloop=>?_) (fun n hn rec out hout=>?_) (by rw [iN_ (by omega)])
   ·unfold b_N
    rw [ix_ hi,bd_some,hloop,bd_some,el_inl]
    simp only [h,Int.reduceBEq,bF_,fF_,fT_]
    simp
   ·unfold b_R
    rw [ix_ hi,bd_some]
    simp only [h,Int.reduceBEq,Int.reduceEq,bF_,fF_,fT_,bd_some,List.append_nil]
  ·obtain ⟨I,hl,_,_⟩:=c_M hr.kind h;have hx:idx d.rules[i].kids 0=some (s_ d.rules[i]):=by rw [a_W (by omega)];unfold s_;rw [W_ (by omega)]
   have hlen:=i_A (H_ d.rules<|s_ d.rules[i]) v.number;refine fin (c_H (H_ d.rules<|s_ d.rules[i]) v.number) [] (by omega) (by simp) (by omega) (fun n hn rec hloop=>?_) (fun n hn rec out hout=>?_) (by rw [iN_ (by omega)])
   ·obtain ⟨b1,b2,b3⟩:=limk (x:=v.number) I G a2 n hn;unfold b_N
    rw [ix_ hi,bd_some,hloop,bd_some,el_inl]
    simp only [h,Int.reduceBEq,bF_,fF_,fT_,hx,bd_some,b1,b2]
    rw [c_j (by omega),bd_some];simp
   ·obtain ⟨b1,b2,b3⟩:=limk (x:=v.number) I G a2 n hn;unfold b_R
    rw [ix_ hi,bd_some]
    simp only [h,Int.reduceBEq,Int.reduceEq,bF_,fF_,fT_,hx,bd_some,hnum out _ _ _ _ n b1 b3 (by omega) hlen]
  ·refine fin [mkB (v.items.length:Int)] [] (by simp) (by simp) (by simp only [lC_,List.length_nil];omega) (fun n hn rec hloop=>?_) (fun n hn rec out hout=>?_) (by rw [iN_ (by omega)])
   ·unfold b_N
    rw [ix_ hi,bd_some,hloop,bd_some,el_inl]
    simp only [h,Int.reduceBEq,bF_,fF_,fT_]
    rw [c_j (by simp only [lC_,List.length_nil];omega),bd_some];simp
   ·unfold b_R
    rw [ix_ hi,bd_some]
    simp only [h,Int.reduceBEq,Int.reduceEq,bF_,fF_,fT_,bd_some,hput out [mkB (v.items.length:Int)] (by omega) (by simp)]
  ·refine fin [] [mkB (b_V es.flatten)] (by simp) (by simp) (by simp) (fun n hn rec hloop=>?_) (fun n hn rec out hout=>?_) (by rw [iP_ h])
   ·unfold b_N
    rw [ix_ hi,bd_some,hloop,bd_some,el_inl]
    simp only [h,Int.reduceBEq,bF_,fF_,fT_,m_t,bd_some]
    rw [a_X (by omega),bd_some];simp
   ·unfold b_R
    rw [ix_ hi,bd_some]
    simp only [h,Int.reduceBEq,Int.reduceEq,bF_,fF_,fT_,bd_some,List.append_nil,bd_eta]
end
end Go.Vw
