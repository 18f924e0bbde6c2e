
import Derived.Test.YtlmdniepgikmaaaGreatDoorVn
namespace Go.Vw
open Go.RowKit Dat
section
variable {d:f_}
theorem r_X {rec:l_f}{r:d_}{j:Nat}(hr:DrR j r)(hrec:∀c,c<j->∃v,rec.spec_l9Default d (c:Int)=some v/\Mk d c v) :
  ∃l,F_ (σ:=List Val) (ρ:=Val) (λG=>(λH=>bd (idx r.kids ((G:Nat):Int)) λI=>bd (rec.spec_l9Default d I) λJ=>bd (psh H J) λL=>some<|.next L)) r.kids.length 0 ([]:List Val)=some (.inl l)/\l.length=r.kids.length/\∀t (ht:t<l.length) (ht':t<r.kids.length),∃c:Nat,r.kids[t]=(c:Int)/\c<j/\Mk d c l[t]:=by
 have hLIM:=a_O;have hkn:=hr.kidn
 rcases c_O (σ:=List Val) (ρ:=Val) (body:=λG=>(λH=>bd (idx r.kids ((G:Nat):Int)) λI=>bd (rec.spec_l9Default d I) λJ=>bd (psh H J) λL=>some<|.next L))
  (λk l=>l.length=k/\∀t (ht:t<l.length) (ht':t<r.kids.length),∃c:Nat,r.kids[t]=(c:Int)/\c<j/\Mk d c l[t]) (λ_=>False) (n:=r.kids.length)
  (by
   rintro k l hk ⟨O,V⟩
   left
   obtain ⟨c,hc,hcj⟩:=e_p hr hk;obtain ⟨v,W,hv⟩:=hrec c hcj
   rw [ix_ hk,bd_some,hc,W,bd_some,a_Q (by omega),bd_some]
   refine ⟨_,rfl,by simp;omega,λt ht ht'=>?_⟩
   simp only [List.length_append,lC_,List.length_nil] at ht
   by_cases hlt:t<l.length
   .simp only [List.getElem_append_left hlt];exact V t hlt ht'
   .have hte:t=l.length:=by omega
    subst hte;subst O
    simp only [List.getElem_concat_length]
    exact ⟨c,hc,hcj,hv⟩)
  r.kids.length 0 [] (by omega) ⟨rfl,λt ht=>(by simp at ht)⟩ with ⟨l,e,Y,q4⟩ | ⟨_,_,hf⟩
 .exact ⟨l,e,Y,q4⟩
 .exact hf.elim
theorem r_Y (hd:DrD d):∀(j:Nat)(hj:j<d.rules.length)(n:Nat),10+j<=n->∃v,n_R n d (j:Int)=some v/\Mk d j v:=by
 have hLIM:=a_O;intro j
 induction j using Nat.strongRecOn with
 | ind j ih =>
  intro hj n hn;obtain ⟨m,rfl⟩:∃m,n=m+1:=⟨n - 1,by omega⟩
  show ∃v,g_Y m (f_4 m) d (j:Int)=some v/\Mk d j v
  have hrec:∀c,c<j->∃v,(f_4 m).spec_l9Default d (c:Int)=some v/\Mk d c v:=λc hc=>ih c hc (by omega) m (by omega)
  have hr:=hd.each j hj;have mkN:∀(num:Int)(l:List Val),l.length<=3->(∀t (ht:t<l.length),∃c:Nat,a_8 d.rules[j] num t=(c:Int)/\c<j/\Mk d c l[t])->Mk d j ⟨num,[],l⟩:=λnum l hl ch=>Mk.of hj hl rfl ch
  have mkF:∀(num:Int)(bs:Bt),bs.length<=6->Mk d j ⟨num,bs,[]⟩:=λnum bs hl=>.flat hj rfl hl
  unfold g_Y
  rw [ix_ hj,bd_some]
  generalize d.rules[j]=r at hr mkN
  have one:∀(num:Int)(c:Nat)(v:Val),a_8 r num 0=(c:Int)->c<j->Mk d c v->Mk d j ⟨num,[],[v]⟩:=λnum c v h1 h2 h3=>mkN num [v] (by simp) λt ht=>by
   have:t=0:=by simp at ht;omega
   subst this;exact ⟨c,h1,h2,h3⟩
  by_cases L:r.kind=3
  .have hs:=hr.size3 L
   rw [L,iP_ (show ((3:Int)==3)=true by decide),n_M (by omega) (by omega),bd_some]
   exact ⟨_,rfl,mkF _ _ (by simp;omega)⟩
  rw [iN_ (show ¬(r.kind==3)=true by simpa using L)]
  by_cases H:r.kind=7
  .have htl:=hr.tags;obtain ⟨k1,k2,k3⟩:=hr.k7 H;obtain ⟨c,hc,hcj⟩:=e_p hr (t:=1) (by omega)
   have hit:a_8 r r.tags[0] 0=(c:Int):=by
    unfold a_8;rw [H,iN_ (by decide),iN_ (by decide),iP_ (by decide),n_q k2 k3]
    simp only
    rw [gD_,gG_ (by omega:0+1<r.kids.length),Option.getD_some]
    exact hc
   obtain ⟨v,J,hv⟩:=hrec c hcj
   rw [iP_ (show (r.kind==7)=true by simpa using H),a_Z k2,bd_some,f_K (by omega),bd_some,hc,J,bd_some]
   exact ⟨_,rfl,one _ c v hit hcj hv⟩
  rw [iN_ (show ¬(r.kind==7)=true by simpa using H)]
  obtain ⟨l,J,q1,Y⟩:=r_X hr hrec
  by_cases G:r.kind=6
  .have hkl:=(hr.k6 G).2;have hit:∀num t (ht:t<r.kids.length),a_8 r num t=r.kids[t]:=λnum t ht=>by unfold a_8;rw [G,iN_ (by decide),iP_ (by decide),iP_ ht,gD_,gG_ ht,Option.getD_some]
   rw [iP_ (show (r.kind==6)=true by simpa using G),bd_some,iP_ (show (r.kind==6)=true by simpa using G),J,bd_some,el_inl]
   refine ⟨_,rfl,mkN _ l (by omega) λt ht=>?_⟩;obtain ⟨c,O,V,W⟩:=Y t ht (by omega);exact ⟨c,by rw [hit _ t (by omega),O],V,W⟩
  rw [iN_ (show ¬(r.kind==6)=true by simpa using G),bd_some]
  by_cases I:r.kind=9
  .have hkl:=hr.k8<|.inr I
   have hit:∀num t (ht:t<r.kids.length),a_8 r num t=r.kids[t]:=λnum t ht=>by
    have:t=0:=by omega
    subst this;unfold a_8;rw [I,iN_ (by decide),iN_ (by decide),iN_ (by decide),iN_ (by decide),iP_ (by decide),gD_,gG_ (by omega:0<r.kids.length),Option.getD_some]
   rw [iP_ (show (r.kind==9)=true by simpa using I),J,bd_some,el_inl]
   refine ⟨_,rfl,mkN _ l (by omega) λt ht=>?_⟩;obtain ⟨c,O,V,W⟩:=Y t ht (by omega);exact ⟨c,by rw [hit _ t (by omega),O],V,W⟩
  rw [iN_ (show ¬(r.kind==9)=true by simpa using I)]
  exact ⟨_,rfl,mkF _ _ (by simp)⟩
theorem b_x {f:Bool}{x:Option Bool}(h:∃b,x=some b):∃b,(if f then x else some false)=some b:=by
 cases f with
 | true=>exact h
 | false=>exact ⟨false,rfl⟩
theorem own_ok (hd:DrD d){j:Nat}(hj:j<d.rules.length)(v:Val):∃b,g_Z d d.rules[j] v=some b:=by
 have hr:=hd.each j hj;have hMX:=MXv;have hf:=hd.few;generalize d.rules[j]=r at hr
 unfold g_Z
 by_cases h1:(r.kind==1)=true
 .have hs:=hr.size (by simpa using h1)
  rw [iP_ h1,n_s hs.1 (by omega),bd_some,b_P,bd_some]
  obtain ⟨b,e⟩:=b_x (f:=decide (0<=v.number) && decide (v.number<=N_ (b_O .i64 1<|8 * r.size) 1))<|b_x (f:=(v.bytes.length:Int)==0) ⟨(v.items.length:Int)==0,rfl⟩
  rw [e];exact ⟨_,rfl⟩
 rw [iN_ h1]
 by_cases h2:(r.kind==2)=true
 .rw [iP_ h2]
  obtain ⟨b,e⟩:=b_x (f:=v.number==0)<|b_x (f:=(v.bytes.length:Int)==0) ⟨(v.items.length:Int)==0,rfl⟩
  rw [e];exact ⟨_,rfl⟩
 rw [iN_ h2]
 by_cases h3:(r.kind==3)=true
 .rw [iP_ h3]
  obtain ⟨b,e⟩:=b_x (f:=v.number==0)<|b_x (f:=(v.bytes.length:Int)==r.size) ⟨(v.items.length:Int)==0,rfl⟩
  rw [e];exact ⟨_,rfl⟩
 rw [iN_ h3]
 by_cases h4:(r.kind==4)=true
 .have hk:=hr.k4 (by simpa using h4)
  rw [iP_ h4,a_Z (by omega),bd_some,i_Z _ _ (by omega),bd_some]
  obtain ⟨z,G,_⟩:=f_J 400<|lim d.rules r.kids[0]
  rw [G,bd_some]
  obtain ⟨b,e⟩:=b_x (f:=v.number==0)<|b_x (f:=decide<|(v.bytes.length:Int)<=z) ⟨(v.items.length:Int)==0,rfl⟩
  rw [e];exact ⟨_,rfl⟩
 rw [iN_ h4]
 by_cases H:(r.kind==10)=true
 .rw [iP_ H]
  obtain ⟨b,e⟩:=b_x (f:=v.number==0)<|b_x (f:=decide<|(v.bytes.length:Int)<=400) ⟨(v.items.length:Int)==0,rfl⟩
  rw [e];exact ⟨_,rfl⟩
 rw [iN_ H]
 by_cases h5:(r.kind==5)=true
 .have hk:=hr.k5 (by simpa using h5)
  rw [iP_ h5,a_Z (by omega),bd_some,i_Z _ _ (by omega),bd_some]
  obtain ⟨z,G,_⟩:=f_J 40<|lim d.rules r.kids[0]
  rw [G,bd_some]
  obtain ⟨b,e⟩:=b_x (f:=v.number==0)<|b_x (f:=(v.bytes.length:Int)==0) ⟨decide<|(v.items.length:Int)<=z,rfl⟩
  rw [e];exact ⟨_,rfl⟩
 rw [iN_ h5]
 by_cases h6:(r.kind==6)=true
 .rw [iP_ h6]
  obtain ⟨b,e⟩:=b_x (f:=v.number==0)<|b_x (f:=(v.bytes.length:Int)==0) ⟨(v.items.length:Int)==(r.kids.length:Int),rfl⟩
  rw [e];exact ⟨_,rfl⟩
 rw [iN_ h6]
 by_cases I:(r.kind==7)=true
 .rw [iP_ I,show (0:Int)=((0:Nat):Int) from rfl,c_Q hr.ok,bd_some]
  obtain ⟨b,e⟩:=b_x (f:=(v.bytes.length:Int)==((0:Nat):Int))<|b_x (f:=(v.items.length:Int)==1) ⟨decide<|((0:Nat):Int)<=a_8 r v.number 0,rfl⟩
  rw [e];exact ⟨_,rfl⟩
 rw [iN_ I]
 by_cases J:(r.kind==8)=true
 .rw [iP_ J]
  obtain ⟨b,e⟩:=b_x (f:=v.number==0)<|b_x (f:=(v.bytes.length:Int)==0) ⟨decide<|(v.items.length:Int)<=1,rfl⟩
  rw [e];exact ⟨_,rfl⟩
 rw [iN_ J]
 obtain ⟨b,e⟩:=b_x (f:=v.number==0)<|b_x (f:=(v.bytes.length:Int)==0) ⟨(v.items.length:Int)==1,rfl⟩
 rw [e];exact ⟨_,rfl⟩
theorem r_Z (hd:DrD d):∀(j:Nat)(v:Val),Mk d j v->∀n,10+j<=n->∃b,j_p n d (j:Int) v=some b:=by
 intro j
 induction j using Nat.strongRecOn with
 | ind j ih =>
  intro v hv n hn;obtain ⟨m,rfl⟩:∃m,n=m+1:=⟨n - 1,by omega⟩
  show ∃b,h_0 m (e_v m) d (j:Int) v=some b
  obtain ⟨g1,g2,hj,G⟩:=hv.item;have G:=G hj;have hr:=hd.each j hj;obtain ⟨O,V⟩:=own_ok hd hj v;unfold h_0
  rw [ix_ hj,bd_some,V,bd_some]
  cases O with
  | false=>exact ⟨false,rfl⟩
  | true =>
   rw [iN_ (by simp)]
   rcases c_O (σ:=Unit) (ρ:=Bool) (body:=(λH=>(λ(_:Unit)=>bd (idx v.items ((H:Nat):Int)) λI=>bd (b_m d.rules[j] v.number ((H:Nat):Int)) λJ=>bd ((e_v m).spec_l9Valid d J I) λL=>if (!L) then some (.ret false) else some (.next ()))))
    (λ_ _=>True) (λ_=>True) (n:=v.items.length) (λk s hk _=>by
     obtain ⟨c,W,Y,c3⟩:=G k hk;obtain ⟨b,e⟩:=ih c Y v.items[k] c3 m (by omega);have e:(e_v m).spec_l9Valid d (c:Int) v.items[k]=some b:=e
     rw [ix_ hk,bd_some,c_Q hr.ok,bd_some,W,e,bd_some]
     cases b with
     | true=>exact .inl ⟨(),rfl,trivial⟩
     | false=>exact .inr ⟨false,rfl,trivial⟩) v.items.length 0 () (by omega) trivial with ⟨s,e,_⟩ | ⟨r,e,_⟩
   .rw [e];exact ⟨_,rfl⟩
   .rw [e];exact ⟨_,rfl⟩
theorem s_0 (hd:DrD d){n:Nat}(hn:60<=n):∃l ok,h_1 n d=some (l,ok)/\l.length<=61440:=by
 have hs:=hd.sm;have hf:=hd.few;have h0:=hd.some_;have hroot:b_h d=((d.rules.length - 1:Nat):Int):=by unfold b_h;omega
 unfold h_1 j_o j_s j_r j_q
 rw [g_U hs,bd_some,j_1 _ hs,bd_some,hroot]
 obtain ⟨v,e1,hv⟩:=r_Y hd (d.rules.length - 1) (by omega) n (by omega);obtain ⟨b,G⟩:=r_Z hd (d.rules.length - 1) v hv n (by omega);obtain ⟨l,H,hl⟩:=l_9 hd (d.rules.length - 1) v hv n (by omega);have hl:l.length<=61440:=Nat.le_trans hl<|j_j (by omega)
 have fin:∀w:Val,(∃b,j_p n d ((d.rules.length - 1:Nat):Int) w=some b)->(∃l,e_R n d ((d.rules.length - 1:Nat):Int) w=some l/\l.length<=61440)->∃l ok,(bd2 (bd (bd (α:=Bool) (bd (some<|U_ d && b_E d ((d.rules.length - 1:Nat):Int)) λJ=>if J then bd (j_p n d ((d.rules.length - 1:Nat):Int) w) λL=>some L else some false)<|λO=>some O) λV=>if (!V) then some (([]:Bt),false) else bd (e_R n d ((d.rules.length - 1:Nat):Int) w) λI=>if (decide<|400<(I.length:Int)) then some (([]:Bt),false) else some (I,true)) λW Y=>some (W,Y))=some (l,ok)/\l.length<=61440:=by
  intro w ⟨b,G⟩ ⟨l,H,hl⟩
  rw [bd_some]
  cases (U_ d && b_E d ((d.rules.length - 1:Nat):Int)) with
  | false=>exact ⟨[],false,rfl,by simp⟩
  | true =>
   rw [iP_ rfl,G,bd_some,bd_some]
   cases b with
   | false=>exact ⟨[],false,rfl,by simp⟩
   | true =>
    rw [bd_some,iN_ (by simp),H,bd_some]
    split
    .exact ⟨[],false,rfl,by simp⟩
    .exact ⟨l,true,rfl,hl⟩
 cases hvr:(U_ d && b_E d ((d.rules.length - 1:Nat):Int)) with
 | false =>
  rw [iP_ (show (!false)=true from rfl),bd_some,bd_some,j_1 _ hs,hvr]
  exact ⟨[],false,rfl,by simp⟩
 | true =>
  rw [iN_ (by simp),e1,bd_some,bd_some,bd_some,j_1 _ hs]
  obtain ⟨l,ok,e,hl⟩:=fin v ⟨b,G⟩ ⟨l,H,hl⟩
  rw [e]
  exact ⟨l,ok,rfl,hl⟩
end
theorem s_1 {c:Bt}(hb:c.length<=MX){n:Nat}(hn:1048600<=n):∃d b,h_2 n c=some (d,b,b_8 d b)/\DrD d/\b.length<=61440:=by
 have hMX:=MXv;unfold h_2;obtain ⟨G,H⟩:=n_o hb hn
 rw [H,bd_some]
 obtain ⟨d,I,h1,J,L,O,hd⟩:=l_8 (i:=0) (h:=G) (by omega) (by omega) hb (n:=n) (by omega);have hf:=hd.few;have hs:=hd.some_
 rw [J,bd3_some,a_Y (by omega) (by omega),show (d.rules.length:Int) - 1=((d.rules.length - 1:Nat):Int) by omega]
 obtain ⟨v,i2,h2,V,b0,b1,hv⟩:=n_r hb hd (d.rules.length - 1) (by omega) n (by omega) I h1 10 L O (by omega) (by omega)
 simp only
 rw [V,bd3_some]
 obtain ⟨b,W,hbl⟩:=l_9 hd (d.rules.length - 1) v hv n (by omega);have hbl:b.length<=61440:=Nat.le_trans hbl<|j_j (by omega)
 rw [W,bd_some]
 by_cases h4:(400:Int)<(b.length:Int)
 .obtain ⟨l,ok,Y,hl⟩:=s_0 hd (n:=n) (by omega)
  rw [dT_ h4,iP_ rfl,Y,bd2_some,bd_some,m_B hd.sm (by omega),bd2_some]
  exact ⟨d,l,rfl,hd,hl⟩
 .rw [dF_ h4,iN_ (by simp),bd_some,m_B hd.sm (by omega),bd2_some]
  exact ⟨d,b,rfl,hd,hbl⟩
end Go.Vw
