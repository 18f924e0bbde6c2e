
import Derived.Test.YtajhmimbhplkfaaGreatDoorVwP54
set_option linter.unusedVariables false
namespace Go.Vw
open Go.RowKit Dat
section
variable {d:d_}
theorem o_d {rec:j_n} {r:g_} {j:Nat} (hr:DrR j r) (hrec : ∀ c,c<j → ∃ v,rec.spec_l9Default d (c:Int)=some v∧Mk d c v) :
  ∃ l,C_ (σ:=List Val) (ρ:=Val) (fun k1992=>(fun x1980=>bd (idx r.kids ((k1992:Nat):Int)) fun x2127=>bd (rec.spec_l9Default d x2127) fun r2152=>bd (psh x1980 r2152) fun x2186=>some<|.next x2186)) r.kids.length 0 ([]:List Val)=some (.inl l)∧l.length=r.kids.length ∧ ∀ t (ht:t<l.length) (ht':t<r.kids.length),∃ c:Nat,r.kids[t]=(c:Int)∧c<j∧Mk d c l[t]:=by
 have hLIM:=a_B;have hkn:=hr.kidn
 rcases d_7 (σ:=List Val) (ρ:=Val) (body:=fun k1992=>(fun x1980=>bd (idx r.kids ((k1992:Nat):Int)) fun x2127=>bd (rec.spec_l9Default d x2127) fun r2152=>bd (psh x1980 r2152) fun x2186=>some<|.next x2186))
  (fun k l=>l.length=k ∧ ∀ t (ht:t<l.length) (ht':t<r.kids.length),∃ c:Nat,r.kids[t]=(c:Int)∧c<j∧Mk d c l[t]) (fun _=>False) (n:=r.kids.length)
  (by
   rintro k l hk ⟨g2,g3⟩
   left
   obtain ⟨c,hc,hcj⟩:=d_d hr hk;obtain ⟨v,e1,hv⟩:=hrec c hcj
   rw [ix_ hk,bd_some,hc,e1,bd_some,a_P (by omega),bd_some]
   refine ⟨_,rfl,by simp;omega,fun t ht ht'=>?_⟩
   simp only [List.length_append,lC_,List.length_nil] at ht
   by_cases hlt:t<l.length
   ·simp only [List.getElem_append_left hlt];exact g3 t hlt ht'
   ·have hte:t=l.length:=by omega
    subst hte;subst g2
    simp only [List.getElem_concat_length]
    exact ⟨c,hc,hcj,hv⟩)
  r.kids.length 0 [] (by omega) ⟨rfl,fun t ht=>(by simp at ht)⟩ with ⟨l,e,q3,q4⟩ | ⟨_,_,hf⟩
 ·exact ⟨l,e,q3,q4⟩
 ·exact hf.elim
theorem o_e (hd:DrD d) : ∀ (j:Nat) (hj:j<d.rules.length) (n:Nat),10+j≤n → ∃ v,l_g n d (j:Int)=some v∧Mk d j v:=by
 have hLIM:=a_B;intro j
 induction j using Nat.strongRecOn with
 | ind j ih =>
  intro hj n hn;obtain ⟨m,rfl⟩ : ∃ m,n=m+1:=⟨n - 1,by omega⟩
  show ∃ v,f_h m (d_M m) d (j:Int)=some v∧Mk d j v
  have hrec : ∀ c,c<j → ∃ v,(d_M m).spec_l9Default d (c:Int)=some v∧Mk d c v:=fun c hc=>ih c hc (by omega) m (by omega)
  have hr:=hd.each j hj;have mkN : ∀ (num:Int) (l:List Val),l.length≤3→(∀ t (ht:t<l.length),∃ c:Nat,Y_ d.rules[j] num t=(c:Int)∧c<j∧Mk d c l[t])→Mk d j ⟨num,[],l⟩:=fun num l hl ch=>Mk.of hj hl rfl ch
  have mkF : ∀ (num:Int) (bs:List UInt8),bs.length≤6→Mk d j ⟨num,bs,[]⟩:=fun num bs hl=>.flat hj rfl hl
  unfold f_h
  rw [ix_ hj,bd_some]
  generalize d.rules[j]=r at hr mkN
  have one : ∀ (num:Int) (c:Nat) (v:Val),Y_ r num 0=(c:Int)→c<j→Mk d c v→Mk d j ⟨num,[],[v]⟩:=fun num c v h1 h2 h3=>mkN num [v] (by simp) fun t ht=>by
   have:t=0:=by simp at ht;omega
   subst this;exact ⟨c,h1,h2,h3⟩
  by_cases hk3:r.kind=3
  ·have hs:=hr.size3 hk3
   rw [hk3,iP_ (show ((3:Int)==3)=true by decide),l_d (by omega) (by omega),bd_some]
   exact ⟨_,rfl,mkF _ _ (by simp;omega)⟩
  rw [iN_ (show ¬ (r.kind==3)=true by simpa using hk3)]
  by_cases hk7:r.kind=7
  ·have htl:=hr.tags;obtain ⟨k1,k2,k3⟩:=hr.k7 hk7;obtain ⟨c,hc,hcj⟩:=d_d hr (t:=1) (by omega)
   have hit:Y_ r r.tags[0] 0=(c:Int):=by
    unfold Y_;rw [hk7,iN_ (by decide),iN_ (by decide),iP_ (by decide),k_P k2 k3]
    simp only
    rw [gD_,gG_ (by omega:0+1<r.kids.length),Option.getD_some]
    exact hc
   obtain ⟨v,e2,hv⟩:=hrec c hcj
   rw [iP_ (show (r.kind==7)=true by simpa using hk7),b_6 k2,bd_some,f_g (by omega),bd_some,hc,e2,bd_some]
   exact ⟨_,rfl,one _ c v hit hcj hv⟩
  rw [iN_ (show ¬ (r.kind==7)=true by simpa using hk7)]
  obtain ⟨l,e2,q1,q2⟩:=o_d hr hrec
  by_cases hk6:r.kind=6
  ·have hkl:=(hr.k6 hk6).2;have hit : ∀ num t (ht:t<r.kids.length),Y_ r num t=r.kids[t]:=fun num t ht=>by unfold Y_;rw [hk6,iN_ (by decide),iP_ (by decide),iP_ ht,gD_,gG_ ht,Option.getD_some]
   rw [iP_ (show (r.kind==6)=true by simpa using hk6),bd_some,iP_ (show (r.kind==6)=true by simpa using hk6),e2,bd_some,el_inl]
   refine ⟨_,rfl,mkN _ l (by omega) fun t ht=>?_⟩;obtain ⟨c,c1,c2,c3⟩:=q2 t ht (by omega);exact ⟨c,by rw [hit _ t (by omega),c1],c2,c3⟩
  rw [iN_ (show ¬ (r.kind==6)=true by simpa using hk6),bd_some]
  by_cases hk9:r.kind=9
  ·have hkl:=hr.k8<|.inr hk9
   have hit : ∀ num t (ht:t<r.kids.length),Y_ r num t=r.kids[t]:=fun num t ht=>by
    have:t=0:=by omega
    subst this;unfold Y_;rw [hk9,iN_ (by decide),iN_ (by decide),iN_ (by decide),iN_ (by decide),iP_ (by decide),gD_,gG_ (by omega:0<r.kids.length),Option.getD_some]
   rw [iP_ (show (r.kind==9)=true by simpa using hk9),e2,bd_some,el_inl]
   refine ⟨_,rfl,mkN _ l (by omega) fun t ht=>?_⟩;obtain ⟨c,c1,c2,c3⟩:=q2 t ht (by omega);exact ⟨c,by rw [hit _ t (by omega),c1],c2,c3⟩
  rw [iN_ (show ¬ (r.kind==9)=true by simpa using hk9)]
  exact ⟨_,rfl,mkF _ _ (by simp)⟩
theorem b_9 {f:Bool} {x:Option Bool} (h : ∃ b,x=some b) : ∃ b,(if f=true then x else some false)=some b:=by
 cases f with
 | true=>exact h
 | false=>exact ⟨false,rfl⟩
theorem own_ok (hd:DrD d) {j:Nat} (hj:j<d.rules.length) (v:Val) : ∃ b,f_i d d.rules[j] v=some b:=by
 have hr:=hd.each j hj;have hMX:=MXv;have hf:=hd.few;generalize d.rules[j]=r at hr
 unfold f_i
 by_cases h1:(r.kind==1)=true
 ·have hs:=hr.size (by simpa using h1)
  rw [iP_ h1,k_Q hs.1 (by omega),bd_some,b_n,bd_some]
  obtain ⟨b,e⟩:=b_9 (f:=decide (0≤v.number) && decide (v.number≤I_ (b_j .i64 1<|8 * r.size) 1))<|b_9 (f:=(v.bytes.length:Int)==0) ⟨(v.items.length:Int)==0,rfl⟩
  rw [e];exact ⟨_,rfl⟩
 rw [iN_ h1]
 by_cases h2:(r.kind==2)=true
 ·rw [iP_ h2]
  obtain ⟨b,e⟩:=b_9 (f:=v.number==0)<|b_9 (f:=(v.bytes.length:Int)==0) ⟨(v.items.length:Int)==0,rfl⟩
  rw [e];exact ⟨_,rfl⟩
 rw [iN_ h2]
 by_cases h3:(r.kind==3)=true
 ·rw [iP_ h3]
  obtain ⟨b,e⟩:=b_9 (f:=v.number==0)<|b_9 (f:=(v.bytes.length:Int)==r.size) ⟨(v.items.length:Int)==0,rfl⟩
  rw [e];exact ⟨_,rfl⟩
 rw [iN_ h3]
 by_cases h4:(r.kind==4)=true
 ·have hk:=hr.k4 (by simpa using h4)
  rw [iP_ h4,b_6 (by omega),bd_some,g_T _ _ (by omega),bd_some]
  obtain ⟨z,e0,_⟩:=d_I 400<|lim d.rules r.kids[0]
  rw [e0,bd_some]
  obtain ⟨b,e⟩:=b_9 (f:=v.number==0)<|b_9 (f:=decide<|(v.bytes.length:Int)≤z) ⟨(v.items.length:Int)==0,rfl⟩
  rw [e];exact ⟨_,rfl⟩
 rw [iN_ h4]
 by_cases h10:(r.kind==10)=true
 ·rw [iP_ h10]
  obtain ⟨b,e⟩:=b_9 (f:=v.number==0)<|b_9 (f:=decide<|(v.bytes.length:Int)≤400) ⟨(v.items.length:Int)==0,rfl⟩
  rw [e];exact ⟨_,rfl⟩
 rw [iN_ h10]
 by_cases h5:(r.kind==5)=true
 ·have hk:=hr.k5 (by simpa using h5)
  rw [iP_ h5,b_6 (by omega),bd_some,g_T _ _ (by omega),bd_some]
  obtain ⟨z,e0,_⟩:=d_I 40<|lim d.rules r.kids[0]
  rw [e0,bd_some]
  obtain ⟨b,e⟩:=b_9 (f:=v.number==0)<|b_9 (f:=(v.bytes.length:Int)==0) ⟨decide<|(v.items.length:Int)≤z,rfl⟩
  rw [e];exact ⟨_,rfl⟩
 rw [iN_ h5]
 by_cases h6:(r.kind==6)=true
 ·rw [iP_ h6]
  obtain ⟨b,e⟩:=b_9 (f:=v.number==0)<|b_9 (f:=(v.bytes.length:Int)==0) ⟨(v.items.length:Int)==(r.kids.length:Int),rfl⟩
  rw [e];exact ⟨_,rfl⟩
 rw [iN_ h6]
 by_cases h7:(r.kind==7)=true
 ·rw [iP_ h7,show (0:Int)=((0:Nat):Int) from rfl,d_G hr.ok,bd_some]
  obtain ⟨b,e⟩:=b_9 (f:=(v.bytes.length:Int)==((0:Nat):Int))<|b_9 (f:=(v.items.length:Int)==1) ⟨decide<|((0:Nat):Int)≤Y_ r v.number 0,rfl⟩
  rw [e];exact ⟨_,rfl⟩
 rw [iN_ h7]
 by_cases h8:(r.kind==8)=true
 ·rw [iP_ h8]
  obtain ⟨b,e⟩:=b_9 (f:=v.number==0)<|b_9 (f:=(v.bytes.length:Int)==0) ⟨decide<|(v.items.length:Int)≤1,rfl⟩
  rw [e];exact ⟨_,rfl⟩
 rw [iN_ h8]
 obtain ⟨b,e⟩:=b_9 (f:=v.number==0)<|b_9 (f:=(v.bytes.length:Int)==0) ⟨(v.items.length:Int)==1,rfl⟩
 rw [e];exact ⟨_,rfl⟩
theorem o_f (hd:DrD d) : ∀ (j:Nat) (v:Val),Mk d j v → ∀ n,10+j≤n → ∃ b,h_d n d (j:Int) v=some b:=by
 intro j
 induction j using Nat.strongRecOn with
 | ind j ih =>
  intro v hv n hn;obtain ⟨m,rfl⟩ : ∃ m,n=m+1:=⟨n - 1,by omega⟩
  show ∃ b,f_j m (d_g m) d (j:Int) v=some b
  obtain ⟨g1,g2,hj,g4⟩:=hv.item;have g4:=g4 hj;have hr:=hd.each j hj;obtain ⟨b0,e0⟩:=own_ok hd hj v;unfold f_j
  rw [ix_ hj,bd_some,e0,bd_some]
  cases b0 with
  | false=>exact ⟨false,rfl⟩
  | true =>
   rw [iN_ (by simp)]
   rcases d_7 (σ:=Unit) (ρ:=Bool) (body:=(fun k193=>(fun (_:Unit)=>bd (idx v.items ((k193:Nat):Int)) fun x286=>bd (b_u d.rules[j] v.number ((k193:Nat):Int)) fun r317=>bd ((d_g m).spec_l9Valid d r317 x286) fun r329=>if (!r329)=true then some (.ret false) else some (.next ()))))
    (fun _ _=>True) (fun _=>True) (n:=v.items.length) (fun k s hk _=>by
     obtain ⟨c,c1,c2,c3⟩:=g4 k hk;obtain ⟨b,e⟩:=ih c c2 v.items[k] c3 m (by omega);have e:(d_g m).spec_l9Valid d (c:Int) v.items[k]=some b:=e
     rw [ix_ hk,bd_some,d_G hr.ok,bd_some,c1,e,bd_some]
     cases b with
     | true=>exact .inl ⟨(),rfl,trivial⟩
     | false=>exact .inr ⟨false,rfl,trivial⟩) v.items.length 0 () (by omega) trivial with ⟨s,e,_⟩ | ⟨r,e,_⟩
   ·rw [e];exact ⟨_,rfl⟩
   ·rw [e];exact ⟨_,rfl⟩
theorem o_g (hd:DrD d) {n:Nat} (hn:60≤n) : ∃ l ok,f_k n d=some (l,ok)∧l.length≤61440:=by
 have hs:=hd.sm;have hf:=hd.few;have h0:=hd.some_;have hroot:b_5 d=((d.rules.length - 1:Nat):Int):=by unfold b_5;omega
 unfold f_k h_c h_g h_f h_e
 rw [j_f hs,bd_some,g_V _ hs,bd_some,hroot]
 obtain ⟨v,e1,hv⟩:=o_e hd (d.rules.length - 1) (by omega) n (by omega);obtain ⟨b,e2⟩:=o_f hd (d.rules.length - 1) v hv n (by omega);obtain ⟨l,e3,hl⟩:=k_S hd (d.rules.length - 1) v hv n (by omega);have hl:l.length≤61440:=Nat.le_trans hl<|j_b (by omega)
 have fin : ∀ w:Val,(∃ b,h_d n d ((d.rules.length - 1:Nat):Int) w=some b)→(∃ l,e_N n d ((d.rules.length - 1:Nat):Int) w=some l∧l.length≤61440) → ∃ l ok,(bd2 (bd (bd (α:=Bool) (bd (some<|a_6 d && b_3 d ((d.rules.length - 1:Nat):Int)) fun r66=>if r66=true then bd (h_d n d ((d.rules.length - 1:Nat):Int) w) fun r81=>some r81 else some false)<|fun x56=>some x56) fun r37=>if (!r37)=true then some (([]:List UInt8),false) else bd (e_N n d ((d.rules.length - 1:Nat):Int) w) fun r79=>if (decide<|400<(r79.length:Int))=true then some (([]:List UInt8),false) else some (r79,true)) fun r53 r54=>some (r53,r54))=some (l,ok)∧l.length≤61440:=by
  intro w ⟨b,e2⟩ ⟨l,e3,hl⟩
  rw [bd_some]
  cases (a_6 d && b_3 d ((d.rules.length - 1:Nat):Int)) with
  | false=>exact ⟨[],false,rfl,by simp⟩
  | true =>
   rw [iP_ rfl,e2,bd_some,bd_some]
   cases b with
   | false=>exact ⟨[],false,rfl,by simp⟩
   | true =>
    rw [bd_some,iN_ (by simp),e3,bd_some]
    split
    ·exact ⟨[],false,rfl,by simp⟩
    ·exact ⟨l,true,rfl,hl⟩
 cases hvr:(a_6 d && b_3 d ((d.rules.length - 1:Nat):Int)) with
 | false =>
  rw [iP_ (show (!false)=true from rfl),bd_some,bd_some,g_V _ hs,hvr]
  exact ⟨[],false,rfl,by simp⟩
 | true =>
  rw [iN_ (by simp),e1,bd_some,bd_some,bd_some,g_V _ hs]
  obtain ⟨l,ok,e,hl⟩:=fin v ⟨b,e2⟩ ⟨l,e3,hl⟩
  rw [e]
  exact ⟨l,ok,rfl,hl⟩
end
theorem o_h {c:List UInt8} (hb:c.length≤MX) {n:Nat} (hn:1048600≤n) : ∃ d b,f_l n c=some (d,b,b_e d b)∧DrD d∧b.length≤61440:=by
 have hMX:=MXv;unfold f_l;obtain ⟨h0,e0⟩:=k_N hb hn
 rw [e0,bd_some]
 obtain ⟨d,i1,h1,e1,a0,a1,hd⟩:=o_8 (i:=0) (h:=h0) (by omega) (by omega) hb (n:=n) (by omega);have hf:=hd.few;have hs:=hd.some_
 rw [e1,bd3_some,a_C (by omega) (by omega),show (d.rules.length:Int) - 1=((d.rules.length - 1:Nat):Int) by omega]
 obtain ⟨v,i2,h2,e2,b0,b1,hv⟩:=o_a hb hd (d.rules.length - 1) (by omega) n (by omega) i1 h1 10 a0 a1 (by omega) (by omega)
 simp only
 rw [e2,bd3_some]
 obtain ⟨b,e3,hbl⟩:=k_S hd (d.rules.length - 1) v hv n (by omega);have hbl:b.length≤61440:=Nat.le_trans hbl<|j_b (by omega)
 rw [e3,bd_some]
 by_cases h4:(400:Int)<(b.length:Int)
 ·obtain ⟨l,ok,e4,hl⟩:=o_g hd (n:=n) (by omega)
  rw [dT_ h4,iP_ rfl,e4,bd2_some,bd_some,i_Y hd.sm (by omega),bd2_some]
  exact ⟨d,l,rfl,hd,hl⟩
 ·rw [dF_ h4,iN_ (by simp),bd_some,i_Y hd.sm (by omega),bd2_some]
  exact ⟨d,b,rfl,hd,hbl⟩
end Go.Vw
