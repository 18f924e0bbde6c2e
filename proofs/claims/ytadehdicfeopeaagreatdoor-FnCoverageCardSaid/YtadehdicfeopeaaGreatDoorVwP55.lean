
import Derived.Test.YtadehdicfeopeaaGreatDoorVwP54
namespace Go.Vw
open Go.RowKit Dat
section
variable {d:d_}
theorem p_I {rec:k_l}{r:e_}{j:Nat}(hr:DrR j r)(hrec:∀c,c<j->∃v,rec.spec_l9Default d (c:Int)=some v/\Mk d c v) :
  ∃l,x_ (σ:=List Val) (ρ:=Val) (fun G=>(fun H=>bd (idx r.kids ((G:Nat):Int)) fun I=>bd (rec.spec_l9Default d I) fun J=>bd (psh H J) fun L=>some<|.next L)) r.kids.length 0 ([]:List Val)=some (.inl l)/\l.length=r.kids.length/\∀t (ht:t<l.length) (ht':t<r.kids.length),∃c:Nat,r.kids[t]=(c:Int)/\c<j/\Mk d c l[t]:=by
 have hLIM:=a_p;have hkn:=hr.kidn
 rcases c_p (σ:=List Val) (ρ:=Val) (body:=fun G=>(fun H=>bd (idx r.kids ((G:Nat):Int)) fun I=>bd (rec.spec_l9Default d I) fun J=>bd (psh H J) fun L=>some<|.next L))
  (fun k l=>l.length=k/\∀t (ht:t<l.length) (ht':t<r.kids.length),∃c:Nat,r.kids[t]=(c:Int)/\c<j/\Mk d c l[t]) (fun _=>False) (n:=r.kids.length)
  (by
   rintro k l hk ⟨O,V⟩
   left
   obtain ⟨c,hc,hcj⟩:=d_J hr hk;obtain ⟨v,W,hv⟩:=hrec c hcj
   rw [ix_ hk,bd_some,hc,W,bd_some,a_s (by omega),bd_some]
   refine ⟨_,rfl,by simp;omega,fun t ht ht'=>?_⟩
   simp only [List.length_append,lC_,List.length_nil] at ht
   by_cases hlt:t<l.length
   ·simp only [List.getElem_append_left hlt];exact V t hlt ht'
   ·have hte:t=l.length:=by omega
    subst hte;subst O
    simp only [List.getElem_concat_length]
    exact ⟨c,hc,hcj,hv⟩)
  r.kids.length 0 [] (by omega) ⟨rfl,fun t ht=>(by simp at ht)⟩ with ⟨l,e,Y,q4⟩ | ⟨_,_,hf⟩
 ·exact ⟨l,e,Y,q4⟩
 ·exact hf.elim
theorem p_J (hd:DrD d):∀(j:Nat)(hj:j<d.rules.length)(n:Nat),10+j<=n->∃v,m_t n d (j:Int)=some v/\Mk d j v:=by
 have hLIM:=a_p;intro j
 induction j using Nat.strongRecOn with
 | ind j ih =>
  intro hj n hn;obtain ⟨m,rfl⟩:∃m,n=m+1:=⟨n - 1,by omega⟩
  show ∃v,g_k m (e_h m) d (j:Int)=some v/\Mk d j v
  have hrec:∀c,c<j->∃v,(e_h m).spec_l9Default d (c:Int)=some v/\Mk d c v:=fun c hc=>ih c hc (by omega) m (by omega)
  have hr:=hd.each j hj;have mkN:∀(num:Int)(l:List Val),l.length<=3->(∀t (ht:t<l.length),∃c:Nat,a_4 d.rules[j] num t=(c:Int)/\c<j/\Mk d c l[t])->Mk d j ⟨num,[],l⟩:=fun num l hl ch=>Mk.of hj hl rfl ch
  have mkF:∀(num:Int)(bs:List UInt8),bs.length<=6->Mk d j ⟨num,bs,[]⟩:=fun num bs hl=>.flat hj rfl hl
  unfold g_k
  rw [ix_ hj,bd_some]
  generalize d.rules[j]=r at hr mkN
  have one:∀(num:Int)(c:Nat)(v:Val),a_4 r num 0=(c:Int)->c<j->Mk d c v->Mk d j ⟨num,[],[v]⟩:=fun num c v h1 h2 h3=>mkN num [v] (by simp) fun t ht=>by
   have:t=0:=by simp at ht;omega
   subst this;exact ⟨c,h1,h2,h3⟩
  by_cases L:r.kind=3
  ·have hs:=hr.size3 L
   rw [L,iP_ (show ((3:Int)==3)=true by decide),m_o (by omega) (by omega),bd_some]
   exact ⟨_,rfl,mkF _ _ (by simp;omega)⟩
  rw [iN_ (show ¬(r.kind==3)=true by simpa using L)]
  by_cases H:r.kind=7
  ·have htl:=hr.tags;obtain ⟨k1,k2,k3⟩:=hr.k7 H;obtain ⟨c,hc,hcj⟩:=d_J hr (t:=1) (by omega)
   have hit:a_4 r r.tags[0] 0=(c:Int):=by
    unfold a_4;rw [H,iN_ (by decide),iN_ (by decide),iP_ (by decide),l_P k2 k3]
    simp only
    rw [gD_,gG_ (by omega:0+1<r.kids.length),Option.getD_some]
    exact hc
   obtain ⟨v,J,hv⟩:=hrec c hcj
   rw [iP_ (show (r.kind==7)=true by simpa using H),b_b k2,bd_some,g_h (by omega),bd_some,hc,J,bd_some]
   exact ⟨_,rfl,one _ c v hit hcj hv⟩
  rw [iN_ (show ¬(r.kind==7)=true by simpa using H)]
  obtain ⟨l,J,q1,Y⟩:=p_I hr hrec
  by_cases G:r.kind=6
  ·have hkl:=(hr.k6 G).2;have hit:∀num t (ht:t<r.kids.length),a_4 r num t=r.kids[t]:=fun num t ht=>by unfold a_4;rw [G,iN_ (by decide),iP_ (by decide),iP_ ht,gD_,gG_ ht,Option.getD_some]
   rw [iP_ (show (r.kind==6)=true by simpa using G),bd_some,iP_ (show (r.kind==6)=true by simpa using G),J,bd_some,el_inl]
   refine ⟨_,rfl,mkN _ l (by omega) fun t ht=>?_⟩;obtain ⟨c,O,V,W⟩:=Y t ht (by omega);exact ⟨c,by rw [hit _ t (by omega),O],V,W⟩
  rw [iN_ (show ¬(r.kind==6)=true by simpa using G),bd_some]
  by_cases I:r.kind=9
  ·have hkl:=hr.k8<|.inr I
   have hit:∀num t (ht:t<r.kids.length),a_4 r num t=r.kids[t]:=fun num t ht=>by
    have:t=0:=by omega
    subst this;unfold a_4;rw [I,iN_ (by decide),iN_ (by decide),iN_ (by decide),iN_ (by decide),iP_ (by decide),gD_,gG_ (by omega:0<r.kids.length),Option.getD_some]
   rw [iP_ (show (r.kind==9)=true by simpa using I),J,bd_some,el_inl]
   refine ⟨_,rfl,mkN _ l (by omega) fun t ht=>?_⟩;obtain ⟨c,O,V,W⟩:=Y t ht (by omega);exact ⟨c,by rw [hit _ t (by omega),O],V,W⟩
  rw [iN_ (show ¬(r.kind==9)=true by simpa using I)]
  exact ⟨_,rfl,mkF _ _ (by simp)⟩
theorem b_k {f:Bool}{x:Option Bool}(h:∃b,x=some b):∃b,(if f=true then x else some false)=some b:=by
 cases f with
 | true=>exact h
 | false=>exact ⟨false,rfl⟩
theorem own_ok (hd:DrD d){j:Nat}(hj:j<d.rules.length)(v:Val):∃b,g_l d d.rules[j] v=some b:=by
 have hr:=hd.each j hj;have hMX:=MXv;have hf:=hd.few;generalize d.rules[j]=r at hr
 unfold g_l
 by_cases h1:(r.kind==1)=true
 ·have hs:=hr.size (by simpa using h1)
  rw [iP_ h1,l_Q hs.1 (by omega),bd_some,b_w,bd_some]
  obtain ⟨b,e⟩:=b_k (f:=decide (0<=v.number) && decide (v.number<=L_ (b_v .i64 1<|8 * r.size) 1))<|b_k (f:=(v.bytes.length:Int)==0) ⟨(v.items.length:Int)==0,rfl⟩
  rw [e];exact ⟨_,rfl⟩
 rw [iN_ h1]
 by_cases h2:(r.kind==2)=true
 ·rw [iP_ h2]
  obtain ⟨b,e⟩:=b_k (f:=v.number==0)<|b_k (f:=(v.bytes.length:Int)==0) ⟨(v.items.length:Int)==0,rfl⟩
  rw [e];exact ⟨_,rfl⟩
 rw [iN_ h2]
 by_cases h3:(r.kind==3)=true
 ·rw [iP_ h3]
  obtain ⟨b,e⟩:=b_k (f:=v.number==0)<|b_k (f:=(v.bytes.length:Int)==r.size) ⟨(v.items.length:Int)==0,rfl⟩
  rw [e];exact ⟨_,rfl⟩
 rw [iN_ h3]
 by_cases h4:(r.kind==4)=true
 ·have hk:=hr.k4 (by simpa using h4)
  rw [iP_ h4,b_b (by omega),bd_some,i_i _ _ (by omega),bd_some]
  obtain ⟨z,G,_⟩:=e_W 400<|lim d.rules r.kids[0]
  rw [G,bd_some]
  obtain ⟨b,e⟩:=b_k (f:=v.number==0)<|b_k (f:=decide<|(v.bytes.length:Int)<=z) ⟨(v.items.length:Int)==0,rfl⟩
  rw [e];exact ⟨_,rfl⟩
 rw [iN_ h4]
 by_cases H:(r.kind==10)=true
 ·rw [iP_ H]
  obtain ⟨b,e⟩:=b_k (f:=v.number==0)<|b_k (f:=decide<|(v.bytes.length:Int)<=400) ⟨(v.items.length:Int)==0,rfl⟩
  rw [e];exact ⟨_,rfl⟩
 rw [iN_ H]
 by_cases h5:(r.kind==5)=true
 ·have hk:=hr.k5 (by simpa using h5)
  rw [iP_ h5,b_b (by omega),bd_some,i_i _ _ (by omega),bd_some]
  obtain ⟨z,G,_⟩:=e_W 40<|lim d.rules r.kids[0]
  rw [G,bd_some]
  obtain ⟨b,e⟩:=b_k (f:=v.number==0)<|b_k (f:=(v.bytes.length:Int)==0) ⟨decide<|(v.items.length:Int)<=z,rfl⟩
  rw [e];exact ⟨_,rfl⟩
 rw [iN_ h5]
 by_cases h6:(r.kind==6)=true
 ·rw [iP_ h6]
  obtain ⟨b,e⟩:=b_k (f:=v.number==0)<|b_k (f:=(v.bytes.length:Int)==0) ⟨(v.items.length:Int)==(r.kids.length:Int),rfl⟩
  rw [e];exact ⟨_,rfl⟩
 rw [iN_ h6]
 by_cases I:(r.kind==7)=true
 ·rw [iP_ I,show (0:Int)=((0:Nat):Int) from rfl,d_j hr.ok,bd_some]
  obtain ⟨b,e⟩:=b_k (f:=(v.bytes.length:Int)==((0:Nat):Int))<|b_k (f:=(v.items.length:Int)==1) ⟨decide<|((0:Nat):Int)<=a_4 r v.number 0,rfl⟩
  rw [e];exact ⟨_,rfl⟩
 rw [iN_ I]
 by_cases J:(r.kind==8)=true
 ·rw [iP_ J]
  obtain ⟨b,e⟩:=b_k (f:=v.number==0)<|b_k (f:=(v.bytes.length:Int)==0) ⟨decide<|(v.items.length:Int)<=1,rfl⟩
  rw [e];exact ⟨_,rfl⟩
 rw [iN_ J]
 obtain ⟨b,e⟩:=b_k (f:=v.number==0)<|b_k (f:=(v.bytes.length:Int)==0) ⟨(v.items.length:Int)==1,rfl⟩
 rw [e];exact ⟨_,rfl⟩
theorem p_K (hd:DrD d):∀(j:Nat)(v:Val),Mk d j v->∀n,10+j<=n->∃b,i_K n d (j:Int) v=some b:=by
 intro j
 induction j using Nat.strongRecOn with
 | ind j ih =>
  intro v hv n hn;obtain ⟨m,rfl⟩:∃m,n=m+1:=⟨n - 1,by omega⟩
  show ∃b,g_m m (d_M m) d (j:Int) v=some b
  obtain ⟨g1,g2,hj,G⟩:=hv.item;have G:=G hj;have hr:=hd.each j hj;obtain ⟨O,V⟩:=own_ok hd hj v;unfold g_m
  rw [ix_ hj,bd_some,V,bd_some]
  cases O with
  | false=>exact ⟨false,rfl⟩
  | true =>
   rw [iN_ (by simp)]
   rcases c_p (σ:=Unit) (ρ:=Bool) (body:=(fun H=>(fun (_:Unit)=>bd (idx v.items ((H:Nat):Int)) fun I=>bd (b_l d.rules[j] v.number ((H:Nat):Int)) fun J=>bd ((d_M m).spec_l9Valid d J I) fun L=>if (!L)=true then some (.ret false) else some (.next ()))))
    (fun _ _=>True) (fun _=>True) (n:=v.items.length) (fun k s hk _=>by
     obtain ⟨c,W,Y,c3⟩:=G k hk;obtain ⟨b,e⟩:=ih c Y v.items[k] c3 m (by omega);have e:(d_M m).spec_l9Valid d (c:Int) v.items[k]=some b:=e
     rw [ix_ hk,bd_some,d_j hr.ok,bd_some,W,e,bd_some]
     cases b with
     | true=>exact .inl ⟨(),rfl,trivial⟩
     | false=>exact .inr ⟨false,rfl,trivial⟩) v.items.length 0 () (by omega) trivial with ⟨s,e,_⟩ | ⟨r,e,_⟩
   ·rw [e];exact ⟨_,rfl⟩
   ·rw [e];exact ⟨_,rfl⟩
theorem p_L (hd:DrD d){n:Nat}(hn:60<=n):∃l ok,g_n n d=some (l,ok)/\l.length<=61440:=by
 have hs:=hd.sm;have hf:=hd.few;have h0:=hd.some_;have hroot:b_a d=((d.rules.length - 1:Nat):Int):=by unfold b_a;omega
 unfold g_n i_J i_N i_M i_L
 rw [i_D hs,bd_some,i_k _ hs,bd_some,hroot]
 obtain ⟨v,e1,hv⟩:=p_J hd (d.rules.length - 1) (by omega) n (by omega);obtain ⟨b,G⟩:=p_K hd (d.rules.length - 1) v hv n (by omega);obtain ⟨l,H,hl⟩:=l_S hd (d.rules.length - 1) v hv n (by omega);have hl:l.length<=61440:=Nat.le_trans hl<|k_5 (by omega)
 have fin:∀w:Val,(∃b,i_K n d ((d.rules.length - 1:Nat):Int) w=some b)->(∃l,f_x n d ((d.rules.length - 1:Nat):Int) w=some l/\l.length<=61440)->∃l ok,(bd2 (bd (bd (α:=Bool) (bd (some<|X_ d && b_8 d ((d.rules.length - 1:Nat):Int)) fun J=>if J=true then bd (i_K n d ((d.rules.length - 1:Nat):Int) w) fun L=>some L else some false)<|fun O=>some O) fun V=>if (!V)=true then some (([]:List UInt8),false) else bd (f_x n d ((d.rules.length - 1:Nat):Int) w) fun I=>if (decide<|400<(I.length:Int))=true then some (([]:List UInt8),false) else some (I,true)) fun W Y=>some (W,Y))=some (l,ok)/\l.length<=61440:=by
  intro w ⟨b,G⟩ ⟨l,H,hl⟩
  rw [bd_some]
  cases (X_ d && b_8 d ((d.rules.length - 1:Nat):Int)) with
  | false=>exact ⟨[],false,rfl,by simp⟩
  | true =>
   rw [iP_ rfl,G,bd_some,bd_some]
   cases b with
   | false=>exact ⟨[],false,rfl,by simp⟩
   | true =>
    rw [bd_some,iN_ (by simp),H,bd_some]
    split
    ·exact ⟨[],false,rfl,by simp⟩
    ·exact ⟨l,true,rfl,hl⟩
 cases hvr:(X_ d && b_8 d ((d.rules.length - 1:Nat):Int)) with
 | false =>
  rw [iP_ (show (!false)=true from rfl),bd_some,bd_some,i_k _ hs,hvr]
  exact ⟨[],false,rfl,by simp⟩
 | true =>
  rw [iN_ (by simp),e1,bd_some,bd_some,bd_some,i_k _ hs]
  obtain ⟨l,ok,e,hl⟩:=fin v ⟨b,G⟩ ⟨l,H,hl⟩
  rw [e]
  exact ⟨l,ok,rfl,hl⟩
end
end Go.Vw
