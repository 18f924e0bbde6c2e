
import Derived.Test.YtefljifhihogoaaGreatDoorVq
namespace Go.Vw
set_option linter.unusedVariables false
open Go.RowKit Dat
theorem w_b {s:Str}{x:Int}(h:c_M s=(x,true)):0<=x/\x<=1000000000000/\Lib.itoa x=s.b:=by
 unfold c_M at h
 split at h
 .rename_i hc
  cases h
  simp_all [i_4]
 grind
theorem n_Q {r:f_}(h:r.kind=5)(t:Nat):a_c r t=⟨Lib.itoa t⟩:=by grind [a_c]
section
variable {d:d_}{b:Bt}
def Fits (o:Option (Nat×Nat))(y:Bool×Int×Int):Prop:=match o with
 | some (k,q)=>y=(true,(k:Int),(q:Int))
 | none=>y.1=false
theorem l_I (hv:D_ d=true)(hd:SmD d)(hb:b.length<=400){n:Nat}(hn:500<=n){i:Int}{p:Nat}(hp:p<=b.length){k:Int}(G:0<=k)(hk:k<d.rules.length) :
  f_o n ⟨d,b,i,p⟩ k=some ((rdK d.rules b k p).2.2==0,((rdK d.rules b k p).2.1:Int)):=by
 unfold f_o;have h:=s_J (b:=b) hd hn k p;have hr:=n_F (d:=d) (b:=b) hv hb (i:=k.toNat) (p:=p) (by omega) hp
 rw [show ((k.toNat:Nat):Int)=k by omega] at hr
 rw [hr] at h
 simp only
 rw [h]
 rfl
theorem w_c (hv:D_ d=true){k:Int}(G:0<=k)(hk:k<d.rules.length){p:Nat}(hp:p<=b.length)(h1:f_f (y_ d.rules k)) :
  rdK d.rules b k p=(match U_ b (y_ d.rules k) p with | none=>(zV,p,1) | some n=>(⟨n,[],[]⟩,p+(y_ d.rules k).size.toNat,0)):=by
 unfold rdK
 rw [e_G hv (by omega) hp]
 have:d.rules[k.toNat]'(by omega)=y_ d.rules k:=by grind [y_]
 rw [this]
 unfold rdB
 rw [h1.1];rfl
theorem q_R (hv:D_ d=true)(hd:SmD d)(hb:b.length<=400){n:Nat}(hn:500<=n){i:Int}{p:Nat}(hp:p<=b.length){k:Int}(hl:0<lim d.rules k) :
  m_m n ⟨d,b,i,p⟩ k=some (match U_ b (y_ d.rules k) p with | none=>(0,false,(p:Int)) | some x=>(x,true,((p+(y_ d.rules k).size.toNat:Nat):Int))):=by
 have hq:=c_8 hl;obtain ⟨G,_,hk⟩:=a_k hq.1;unfold m_m
 rw [l_I hv hd hb hn hp G hk,w_c hv G hk hp hq.2]
 simp only [a_b]
 cases hi:U_ b (y_ d.rules k) p with
 | none=>rfl
 | some x =>
  have hr:=c_p hq.2 hi
  simp only [bQ_,nT_,bF_,fF_]
  rw [d_G (by omega) hr.2.2,a_,hq.1,a_]
  have hs:=hq.2.2
  grind [U_,Option.some.inj,n_K,d_H,a_]
theorem q_S (hv:D_ d=true)(hd:SmD d)(hb:b.length<=400){n:Nat}(hn:500<=n){i:Int}{r:f_}{kid:Int}(hr:r.kind=5)(hkid:idx r.kids 1=some kid)(J:0<=kid)(hk:kid<d.rules.length){s:Str} :
  ∀(m c j p f:Nat),m<c->c<=1000->m<f->p<=b.length->s.b=Lib.itoa ((j+m:Nat):Int)->∃y,bd (F_ (σ:=Int×Int) (ρ:=Bool×Int×Int) (un2 λG H=>if (decide<|0<G) then bd (idx r.kids 1) λL=>bd2 (f_o n (⟨d,b,i,H⟩:c_G) L) λO I=>if (!O) then some (.ret (false,i,I)) else some (.next (w_ G 1,I)) else bd (idx r.kids 1) λV=>some<|.ret (true,V,H)) f ((m:Int),(p:Int))) (el (λ_=>none)<|λW=>some W)=some y/\Fits (c_z r s (rdK d.rules b) (List.replicate c kid) j p) y
 | 0,c,j,p,f,hc,_,hf,hp,hs=>by
  obtain ⟨c,rfl⟩:∃c',c=c'+1:=⟨c - 1,by omega⟩;obtain ⟨f,rfl⟩:∃f',f=f'+1:=⟨f - 1,by omega⟩;unfold F_
  simp only [un2]
  rw [dF_ (by omega),hkid]
  simp only [bF_,fF_,a_,d_Y]
  refine ⟨_,rfl,?_⟩
  rw [QAk]
  unfold c_z
  rw [iP_ (by grind [n_Q])]
  show _=_
  grind
 | m+1,c,j,p,f,hc,Y,hf,hp,hs=>by
  obtain ⟨c,rfl⟩:∃c',c=c'+1:=⟨c - 1,by omega⟩;obtain ⟨f,rfl⟩:∃f',f=f'+1:=⟨f - 1,by omega⟩;unfold F_
  simp only [un2]
  rw [dT_ (by omega),hkid]
  simp only [fT_,a_]
  rw [l_I hv hd hb hn hp J hk]
  simp only [a_b]
  rw [QAk]
  unfold c_z
  have hne:¬(a_c r j).b=s.b:=λh=>by
   rw [n_Q hr,hs] at h
   have:=q_u h
   omega
  rw [iN_ hne]
  by_cases hok:(rdK d.rules b kid p).2.2=0
  .rw [iP_ hok,hok]
   simp only [bQ_,nT_,bF_,fF_]
   have ih:=q_S hv hd hb hn hr hkid J hk (s:=s) (i:=i) m c (j+1) (rdK d.rules b kid p).2.1 f (by omega) (by omega) (by omega) (c_9 hv kid.toNat (by omega) p hp).2 (by grind)
   grind [a_L,a_]
  .rw [iN_ hok,show ((rdK d.rules b kid p).2.2==0)=false by grind]
   exact ⟨_,rfl,rfl⟩
theorem w_d (hv:D_ d=true)(hd:SmD d)(hb:b.length<=400){n:Nat}(hn:500<=n){i:Nat}(hi:i<d.rules.length){p:Nat}(hp:p<=b.length){s:Str}(h5:d.rules[i].kind=5) :
  ∃y,o_F n ⟨d,b,i,p⟩ d.rules[i] s=some y/\Fits (b_v d.rules b d.rules[i] p s) y:=by
 have hr:=a_P hv hi;generalize d.rules[i]=r at *
 have hk:=d_6 hr.kind h5;have hkid:=hr.kids (r.kids.getD 1 0)<|e_e (by omega);have hq:=c_8 hk.1;unfold o_F b_v I_
 rw [n_G,b_W (show 0<r.kids.length by omega),iP_ (by omega),h5]
 simp only [bQ_,fT_]
 rcases hps:c_M s with ⟨x,ok⟩
 simp only [a_b,a_]
 rw [q_R hv hd hb hn hp hk.1]
 cases hi:U_ b (y_ d.rules<|p_ r) p with
 | none=>cases ok <;> exact ⟨_,rfl,rfl⟩
 | some m =>
  have hrng:=c_p hq.2 hi
  simp only [a_E]
  by_cases G:40<m
  .rw [iP_ G,dT_ G]
   cases ok <;> exact ⟨_,rfl,rfl⟩
  rw [iN_ G,dF_ G]
  simp only
  by_cases hin:ok=true/\x<m
  .obtain ⟨rfl,hx⟩:=hin;obtain ⟨H,_,hs⟩:=w_b hps
   rw [dF_ (show ¬m<=x by omega)]
   simp only [nT_,bF_,fF_,a_]
   have hid:idx r.kids 1=some (r.kids.getD 1 0):=by grind [m_b,a_x]
   have:=q_S (s:=s) (b:=b) (i:=(i:Int)) hv hd hb hn h5 hid hkid.1 (by omega) x.toNat m.toNat 0 (p+(y_ d.rules<|p_ r).size.toNat) n (by omega) (by omega) (by omega) hrng.2.2 (by grind)
   grind
  .have hnone:=j_r (r:=r) (s:=s) (rd:=rdK d.rules b) (List.replicate m.toNat (r.kids.getD 1 0)) 0 (p+(y_ d.rules (p_ r)).size.toNat) (λt _ ht he=>by
    rw [n_Q h5] at he
    rw [QAe] at ht
    have e:s=⟨Lib.itoa t⟩:=by simp_all
    have hpi:=q_x t (by omega)
    grind)
   rw [hnone]
   cases ok with
   | false=>exact ⟨_,rfl,rfl⟩
   | true =>
    rw [dT_ (show m<=x by
     grind)]
    exact ⟨_,rfl,rfl⟩
theorem w_e (hv:D_ d=true)(hd:SmD d)(hb:b.length<=400){n:Nat}(hn:500<=n){i:Nat}(hi:i<d.rules.length){p:Nat}(hp:p<=b.length){s:Str}(h6:d.rules[i].kind=6) :
  ∃y,o_G n ⟨d,b,i,p⟩ d.rules[i] s=some y/\Fits (b_v d.rules b d.rules[i] p s) y:=by
 have hr:=a_P hv hi;generalize d.rules[i]=r at *
 have hk:=e_F hr.kind h6;have hst:∀t (ht:t<r.names.length),a_c r t=r.names[t]:=λt ht=>by grind [a_c]
 unfold o_G b_v I_
 rw [iP_ (by omega),h6]
 simp only [show ((6:Int)==5)=false from rfl,bF_,fF_,bQ_,fT_,q_8,a_]
 by_cases hh:e_5 r.names s=true
 .rw [hh]
  simp only [nT_,bF_,fF_]
  have:=n_O (r:=r) (s:=s) (rd:=rdK d.rules b) (body:=λH=>(λG=>bd (idx r.names ((H:Nat):Int)) λJ=>if (J.b==s.b) then bd (idx r.kids ((H:Nat):Int)) λL=>some (.ret (true,L,G)) else bd (α:=Bool×Int) (bd (idx r.kids ((H:Nat):Int)) λO=>bd2 (f_o n (⟨d,b,i,G⟩:c_G) O) λV W=>some (!V,W)) (un2 λY I=>if Y then some (.ret (false,(i:Int),I)) else some (.next I))))
   (g:=λG=>some (false,(i:Int),G)) (λk q=>(true,(k:Int),(q:Int))) (λy=>y.1=false) r.kids b.length (λk hk p hp=>(c_9 hv k.toNat (by have:=hr.kids k hk;omega) p hp).2) (λ_=>⟨_,rfl,rfl⟩)
   (λj hj p hp=>by
    have hkj:=hr.kids r.kids[j] (gE_ hj);have hjn:j<r.names.length:=by omega
    simp only [ix_ hjn,ix_ hj,a_]
    rw [hst j hjn,l_I hv hd hb hn hp hkj.1 (by omega)]
    simp only [a_b,a_,un2]
    grind) r.kids.length 0 p (by omega) hp
  rw [QAP] at this
  obtain ⟨y,h1,h2⟩:=this;refine ⟨y,?_,h2⟩
  grind
 .rw [show e_5 r.names s=false by grind]
  have hne:∀t (ht:t<r.names.length),r.names[t].b ≠ s.b:=λt ht he=>hh<|q_A.2 ⟨r.names[t],gE_ ht,he⟩
  rw [j_r r.kids 0 p (λt _ ht=>by grind)]
  obtain ⟨m,hm⟩:∃m,r.names.length=m+1:=⟨r.names.length - 1,by omega⟩;have h0:0<r.names.length:=by omega
  rw [hm]
  unfold k_
  rw [ix_ h0,a_,iN_ (by grind)]
  exact ⟨_,rfl,rfl⟩
theorem q_T (l:List Int)(x:Int):o_H l x=some (match b_9 l x with | some k=>(k:Int) | none=>-1):=by
 unfold o_H t_f b_9
 rw [h_s (λk=>l.getD k 0==x) (λk=>(k:Int))]
 .cases (List.range l.length).find? (λk=>l.getD k 0==x) <;> rfl
 grind [b_E,a_,a_x]
theorem w_f (hv:D_ d=true)(hd:SmD d)(hb:b.length<=400){n:Nat}(hn:500<=n){i:Nat}(hi:i<d.rules.length){p:Nat}(hp:p<=b.length){s:Str}(G:d.rules[i].kind=7)(hs:s.b=[42]) :
  ∃y,o_I n ⟨d,b,i,p⟩ d.rules[i]=some y/\Fits (b_v d.rules b d.rules[i] p s) y:=by
 have hr:=a_P hv hi;generalize d.rules[i]=r at *
 have hk:=d_m hr.kind G;have hq:=c_8 hk.1;unfold o_I b_v I_
 rw [b_W (show 0<r.kids.length by omega),iP_ (by omega),G]
 simp only [show ((7:Int)==5)=false from rfl,show ((7:Int)==6)=false from rfl,bF_,fF_,bQ_,fT_,a_]
 rw [q_R hv hd hb hn hp hk.1]
 cases hi:U_ b (y_ d.rules<|p_ r) p with
 | none =>
  simp only [a_E,q_T,a_]
  exact ⟨_,rfl,rfl⟩
 | some m =>
  simp only [a_E,q_T,a_]
  cases ht:b_9 r.tags m with
  | none=>exact ⟨_,rfl,rfl⟩
  | some j =>
   have hj:=m_1 ht
   simp only [nT_,bF_,fF_,a_]
   rw [dF_ (show ¬(j:Int)<0 by omega)]
   have hMX:=MXv
   rw [ia_ (x:=(j:Int)) (by omega) (by omega),show (j:Int)+1=((j+1:Nat):Int) by omega,ix_ (show j+1<r.kids.length by omega)]
   simp only [bF_,fF_,a_]
   refine ⟨_,rfl,?_⟩;unfold c_z;have hst:a_c r 0=⟨[42]⟩:=by grind [a_c]
   have hkid:=hr.kids (r.kids.getD (j+1) 0)<|e_e (by omega)
   rw [iP_ (by grind)]
   show _=_
   grind
theorem q_U {r:f_}{s:Str}{rd:Int->Nat->RR}{k:Int}{p:Nat}(h:(a_c r 0).b ≠ s.b):c_z r s rd [k] 0 p=none:=j_r _ _ _ λt _ ht=>by
 grind
theorem w_g (hv:D_ d=true)(hd:SmD d)(hb:b.length<=400){n:Nat}(hn:500<=n){i:Nat}(hi:i<d.rules.length){p:Nat}(hp:p<=b.length)(s:Str) :
  ∃y,m_n n ⟨d,b,i,p⟩ s=some y/\Fits (b_v d.rules b d.rules[i] p s) y:=by
 have hr:=a_P hv hi;have hMX:=MXv;unfold m_n
 simp only
 rw [ix_ hi,a_]
 by_cases h5:d.rules[i].kind=5
 .obtain ⟨y,h1,h2⟩:=w_d hv hd hb hn hi hp h5 (s:=s)
  rw [h5,h1]
  exact ⟨y,rfl,h2⟩
 rw [show (d.rules[i].kind==5)=false by grind]
 simp only [bF_,fF_]
 by_cases h6:d.rules[i].kind=6
 .obtain ⟨y,h1,h2⟩:=w_e hv hd hb hn hi hp h6 (s:=s)
  rw [h6,h1]
  exact ⟨y,rfl,h2⟩
 rw [show (d.rules[i].kind==6)=false by grind]
 simp only [bF_,fF_]
 by_cases H:d.rules[i].kind=7
 .by_cases hs:s.b=[42]
  .obtain ⟨y,h1,h2⟩:=w_f hv hd hb hn hi hp H hs
   rw [H,hs,h1]
   exact ⟨y,rfl,h2⟩
  .rw [H,show (s.b==[42])=false by grind]
   refine ⟨_,rfl,?_⟩;have hst:a_c d.rules[i] 0=⟨[42]⟩:=by grind [a_c]
   have:b_v d.rules b d.rules[i] p s=none:=by
    unfold b_v I_
    rw [iP_ (by omega),H]
    simp only [show ((7:Int)==5)=false from rfl,show ((7:Int)==6)=false from rfl,bF_,fF_,bQ_,fT_]
    grind [U_,y_,p_,b_9,q_U]
   rw [this];rfl
 rw [show (d.rules[i].kind==7)=false by grind]
 simp only [bF_,fF_,a_]
 by_cases I:d.rules[i].kind=8
 .have hst:a_c d.rules[i] 0=⟨[63]⟩:=by grind [a_c]
  have L:=d_L hr.kind<|.inl I
  rw [I]
  simp only [bQ_,fT_,a_]
  by_cases hs:s.b=[63]
  .rw [hs]
   simp only [bQ_,fT_]
   unfold b_v I_
   rw [iP_ (show 5<=d.rules[i].kind/\d.rules[i].kind<=9 by omega),I]
   simp only [show ((8:Int)==5)=false from rfl,show ((8:Int)==6)=false from rfl,show ((8:Int)==7)=false from rfl,bF_,fF_,bQ_,fT_]
   cases hc:b[p]? with
   | none =>
    have:b.length<=p:=List.getElem?_eq_none_iff.1 hc
    rw [dT_ (show (b.length:Int)<=(p:Int) by omega)]
    exact ⟨_,rfl,rfl⟩
   | some c =>
    have hlt:p<b.length:=(gS_.1 hc).1;have hbp:b[p]=c:=(gS_.1 hc).2;have hbc:b_ c=(c.toNat:Int):=rfl
    rw [dF_ (show ¬(b.length:Int)<=(p:Int) by omega),ix_ hlt,hbp]
    simp only [bF_,fF_,a_]
    rw [show (b_ c != b_ (1:UInt8)) = !decide (c=1) by simp_all [bne,h_k]]
    by_cases h1:c=1
    .subst h1
     rw [ia_ (x:=(p:Int)) (by omega) (by omega),b_j (by omega)]
     refine ⟨_,rfl,?_⟩;have hkid:=hr.kids (d.rules[i].kids.getD 0 0)<|e_e (by omega)
     rw [iN_ (by decide),show UInt8.toNat 1=1 from rfl]
     simp only [QAk,List.replicate_zero]
     unfold c_z
     rw [iP_ (by grind)]
     show _=_
     grind
    .rw [dF_ h1]
     refine ⟨_,rfl,?_⟩
     by_cases G:1<b_ c
     .rw [iP_ G];rfl
     .rw [iN_ G]
      have O:c.toNat=0:=by
       have:c.toNat ≠ 1:=λh=>h1<|UInt8.toNat_inj.1 (by grind)
       omega
      rw [O];rfl
  .rw [show (s.b==[63])=false by grind]
   refine ⟨_,rfl,?_⟩
   have:b_v d.rules b d.rules[i] p s=none:=by
    unfold b_v I_
    rw [iP_ (show 5<=d.rules[i].kind/\d.rules[i].kind<=9 by omega),I]
    simp only [show ((8:Int)==5)=false from rfl,show ((8:Int)==6)=false from rfl,show ((8:Int)==7)=false from rfl,bF_,fF_,bQ_,fT_]
    cases b[p]? with
    | none=>rfl
    | some c =>
     simp only
     by_cases G:1<b_ c
     .grind
     .rw [iN_ G]
      have hbc:b_ c=(c.toNat:Int):=rfl
      grind [j_r]
   rw [this];rfl
 rw [show (d.rules[i].kind==8)=false by grind]
 simp only [bF_,fF_,a_]
 by_cases J:d.rules[i].kind=9
 .have hst:a_c d.rules[i] 0=⟨[43]⟩:=by grind [a_c]
  have L:=d_L hr.kind<|.inr J;unfold b_v I_
  rw [iP_ (show 5<=d.rules[i].kind/\d.rules[i].kind<=9 by omega),J]
  simp only [show ((9:Int)==5)=false from rfl,show ((9:Int)==6)=false from rfl,show ((9:Int)==7)=false from rfl,show ((9:Int)==8)=false from rfl,bF_,fF_,bQ_,fT_,a_]
  by_cases hs:s.b=[43]
  .rw [hs,b_j (by omega)]
   refine ⟨_,rfl,?_⟩;have hkid:=hr.kids (d.rules[i].kids.getD 0 0)<|e_e (by omega);unfold c_z
   rw [iP_ (show (a_c d.rules[i] 0).b=s.b by grind)]
   show _=_
   grind
  .rw [show (s.b==[43])=false by grind,q_U (by grind)]
   exact ⟨_,rfl,rfl⟩
 .rw [show (d.rules[i].kind==9)=false by grind]
  unfold b_v
  rw [iN_ (show ¬(5<=d.rules[i].kind/\d.rules[i].kind<=9) by omega)]
  exact ⟨_,rfl,rfl⟩
end
end Go.Vw
