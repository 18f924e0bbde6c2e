
import Derived.Test.YtllmonllbkaflaaGreatDoorVa
namespace Go.Vw
open Go.RowKit Dat
theorem t_e {s:Str}{x:Int}(h:c_n s=(x,true)):0<=x/\x<=1000000000000/\Lib.itoa x=s.b:=by
 unfold c_n at h
 split at h
 .rename_i hc
  cases h
  exact ⟨(h_a _ hc.2.1).1,hc.2.2.1,hc.2.2.2⟩
 .cases h
theorem m_f {r:b_}(h:r.kind=5)(t:Nat):a_0 r t=⟨Lib.itoa t⟩:=by unfold a_0;rw [h];rfl
section
variable {d:c_}{b:Bt}
def Fits (o:Option (Nat×Nat))(y:Bool×Int×Int):Prop:=match o with
 | some (k,q)=>y=(true,(k:Int),(q:Int))
 | none=>y.1=false
theorem k_k (hv:D_ d=true)(hd:SmD d)(hb:b.length<=400){n:Nat}(hn:500<=n){i:Int}{p:Nat}(hp:p<=b.length){k:Int}(G:0<=k)(hk:k<d.rules.length) :
  e_D n ⟨d,b,i,p⟩ k=some ((rdK d.rules b k p).2.2==0,((rdK d.rules b k p).2.1:Int)):=by
 unfold e_D;have h:=p_u (b:=b) hd hn k p;have hr:=m_7 (d:=d) (b:=b) hv hb (i:=k.toNat) (p:=p) (by omega) hp
 rw [show ((k.toNat:Nat):Int)=k by omega] at hr
 rw [hr] at h
 simp only
 rw [h]
 rfl
theorem t_f (hv:D_ d=true){k:Int}(G:0<=k)(hk:k<d.rules.length){p:Nat}(hp:p<=b.length)(h1:e_s (w_ d.rules k)) :
  rdK d.rules b k p=(match O_ b (w_ d.rules k) p with | none=>(zV,p,1) | some n=>(⟨n,[],[]⟩,p+(w_ d.rules k).size.toNat,0)):=by
 unfold rdK
 rw [e_3 hv (by omega) hp]
 have:d.rules[k.toNat]'(by omega)=w_ d.rules k:=by unfold w_;rw [gD_,gG_ (by omega)];rfl
 rw [this]
 unfold rdB
 rw [h1.1];rfl
theorem o_q (hv:D_ d=true)(hd:SmD d)(hb:b.length<=400){n:Nat}(hn:500<=n){i:Int}{p:Nat}(hp:p<=b.length){k:Int}(hl:0<lim d.rules k) :
  k_L n ⟨d,b,i,p⟩ k=some (match O_ b (w_ d.rules k) p with | none=>(0,false,(p:Int)) | some x=>(x,true,((p+(w_ d.rules k).size.toNat:Nat):Int))):=by
 have hq:=b_L hl;obtain ⟨G,_,hk⟩:=a_i hq.1;unfold k_L
 rw [k_k hv hd hb hn hp G hk,t_f hv G hk hp hq.2]
 simp only [bd2_some]
 cases hi:O_ b (w_ d.rules k) p with
 | none=>rfl
 | some x =>
  have hr:=b_W hq.2 hi
  simp only [bQ_,nT_,bF_,fF_]
  rw [d_a (by omega) hr.2.2,bd_some,hq.1,bd_some]
  have hs:=hq.2.2
  rw [m_b _ _ (by rw [d_b hr.2.2];omega),bd_some]
  unfold O_ at hi
  split at hi
  .cases hi
  .rw [Option.some.inj hi]
theorem o_r (hv:D_ d=true)(hd:SmD d)(hb:b.length<=400){n:Nat}(hn:500<=n){i:Int}{r:b_}{kid:Int}(hr:r.kind=5)(hkid:idx r.kids 1=some kid)(J:0<=kid)(hk:kid<d.rules.length){s:Str} :
  ∀(m c j p f:Nat),m<c->c<=1000->m<f->p<=b.length->s.b=Lib.itoa ((j+m:Nat):Int)->∃y,bd (V_ (σ:=Int×Int) (ρ:=Bool×Int×Int) (un2 λG H=>if (decide<|0<G) then bd (idx r.kids 1) λL=>bd2 (e_D n (⟨d,b,i,H⟩:c_h) L) λO I=>if (!O) then some (.ret (false,i,I)) else some (.next (y_ G 1,I)) else bd (idx r.kids 1) λV=>some<|.ret (true,V,H)) f ((m:Int),(p:Int))) (el (λ_=>none)<|λW=>some W)=some y/\Fits (c_e r s (rdK d.rules b) (List.replicate c kid) j p) y
 | 0,c,j,p,f,hc,_,hf,hp,hs=>by
  obtain ⟨c,rfl⟩:∃c',c=c'+1:=⟨c - 1,by omega⟩;obtain ⟨f,rfl⟩:∃f',f=f'+1:=⟨f - 1,by omega⟩;unfold V_
  simp only [un2]
  rw [dF_ (by omega),hkid]
  simp only [bF_,fF_,bd_some,el_inr]
  refine ⟨_,rfl,?_⟩
  rw [List.replicate_succ]
  unfold c_e
  rw [iP_ (by rw [m_f hr,hs];rfl)]
  show _=_
  rw [show ((kid.toNat:Nat):Int)=kid by omega]
 | m+1,c,j,p,f,hc,Y,hf,hp,hs=>by
  obtain ⟨c,rfl⟩:∃c',c=c'+1:=⟨c - 1,by omega⟩;obtain ⟨f,rfl⟩:∃f',f=f'+1:=⟨f - 1,by omega⟩;unfold V_
  simp only [un2]
  rw [dT_ (by omega),hkid]
  simp only [fT_,bd_some]
  rw [k_k hv hd hb hn hp J hk]
  simp only [bd2_some]
  rw [List.replicate_succ]
  unfold c_e
  have hne:¬(a_0 r j).b=s.b:=λh=>by
   rw [m_f hr,hs] at h
   have:=o_2 h
   omega
  rw [iN_ hne]
  by_cases hok:(rdK d.rules b kid p).2.2=0
  .rw [iP_ hok,hok]
   simp only [bQ_,nT_,bF_,fF_]
   have ih:=o_r hv hd hb hn hr hkid J hk (s:=s) (i:=i) m c (j+1) (rdK d.rules b kid p).2.1 f (by omega) (by omega) (by omega) (b_M hv kid.toNat (by omega) p hp).2 (by rw [hs];congr 2;omega)
   rw [hkid] at ih
   simp only [bd_some] at ih
   rw [a_Y (by omega) (by omega),show ((m+1:Nat):Int) - 1=m by omega]
   exact ih
  .rw [iN_ hok,show ((rdK d.rules b kid p).2.2==0)=false by simpa using hok]
   exact ⟨_,rfl,rfl⟩
theorem t_g (hv:D_ d=true)(hd:SmD d)(hb:b.length<=400){n:Nat}(hn:500<=n){i:Nat}(hi:i<d.rules.length){p:Nat}(hp:p<=b.length){s:Str}(h5:d.rules[i].kind=5) :
  ∃y,m_O n ⟨d,b,i,p⟩ d.rules[i] s=some y/\Fits (b_l d.rules b d.rules[i] p s) y:=by
 have hr:=a_L hv hi;generalize d.rules[i]=r at *
 have hk:=c_E hr.kind h5;have hkid:=hr.kids (r.kids.getD 1 0)<|b_H (by omega);have hq:=b_L hk.1;unfold m_O b_l F_
 rw [m_8,b_G (show 0<r.kids.length by omega),iP_ (by omega),h5]
 simp only [bQ_,fT_]
 rcases hps:c_n s with ⟨x,ok⟩
 simp only [bd2_some,bd_some]
 rw [o_q hv hd hb hn hp hk.1]
 cases hi:O_ b (w_ d.rules<|n_ r) p with
 | none=>cases ok <;> exact ⟨_,rfl,rfl⟩
 | some m =>
  have hrng:=b_W hq.2 hi
  simp only [bd3_some]
  by_cases G:40<m
  .rw [iP_ G,dT_ G]
   cases ok <;> exact ⟨_,rfl,rfl⟩
  rw [iN_ G,dF_ G]
  simp only
  by_cases hin:ok=true/\x<m
  .obtain ⟨rfl,hx⟩:=hin;obtain ⟨H,_,hs⟩:=t_e hps
   rw [dF_ (show ¬m<=x by omega)]
   simp only [nT_,bF_,fF_,bd_some]
   have hid:idx r.kids 1=some (r.kids.getD 1 0):=by rw [i_r (by omega),Z_ (by omega)]
   have:=o_r (s:=s) (b:=b) (i:=(i:Int)) hv hd hb hn h5 hid hkid.1 (by omega) x.toNat m.toNat 0 (p+(w_ d.rules<|n_ r).size.toNat) n (by omega) (by omega) (by omega) hrng.2.2 (by rw [← hs];congr 1;omega)
   rw [show ((x.toNat:Nat):Int)=x by omega] at this
   exact this
  .have hnone:=i_f (r:=r) (s:=s) (rd:=rdK d.rules b) (List.replicate m.toNat (r.kids.getD 1 0)) 0 (p+(w_ d.rules (n_ r)).size.toNat) (λt _ ht he=>by
    rw [m_f h5] at he
    rw [List.length_replicate] at ht
    have e:s=⟨Lib.itoa t⟩:=by cases s;simp only at he;rw [he]
    have hpi:=o_5 t (by omega)
    rw [← e,hps] at hpi
    cases hpi
    exact hin ⟨rfl,by omega⟩)
   rw [hnone]
   cases ok with
   | false=>exact ⟨_,rfl,rfl⟩
   | true =>
    rw [dT_ (show m<=x by
     apply Int.not_lt.1;intro h;exact hin ⟨rfl,h⟩)]
    exact ⟨_,rfl,rfl⟩
theorem t_h (hv:D_ d=true)(hd:SmD d)(hb:b.length<=400){n:Nat}(hn:500<=n){i:Nat}(hi:i<d.rules.length){p:Nat}(hp:p<=b.length){s:Str}(h6:d.rules[i].kind=6) :
  ∃y,m_P n ⟨d,b,i,p⟩ d.rules[i] s=some y/\Fits (b_l d.rules b d.rules[i] p s) y:=by
 have hr:=a_L hv hi;generalize d.rules[i]=r at *
 have hk:=e_2 hr.kind h6;have hst:∀t (ht:t<r.names.length),a_0 r t=r.names[t]:=λt ht=>by unfold a_0;rw [h6,dT_ ht,Z_ ht];rfl
 unfold m_P b_l F_
 rw [iP_ (by omega),h6]
 simp only [show ((6:Int)==5)=false from rfl,bF_,fF_,bQ_,fT_,n_S,bd_some]
 by_cases hh:d_o r.names s=true
 .rw [hh]
  simp only [nT_,bF_,fF_]
  have:=m_d (r:=r) (s:=s) (rd:=rdK d.rules b) (body:=λH=>(λG=>bd (idx r.names ((H:Nat):Int)) λL=>if (L.b==s.b) then bd (idx r.kids ((H:Nat):Int)) λO=>some (.ret (true,O,G)) else bd (α:=Bool×Int) (bd (idx r.kids ((H:Nat):Int)) λV=>bd2 (e_D n (⟨d,b,i,G⟩:c_h) V) λW Y=>some (!W,Y)) (un2 λa0 I=>if a0 then some (.ret (false,(i:Int),I)) else some (.next I))))
   (g:=λG=>some (false,(i:Int),G)) (λk q=>(true,(k:Int),(q:Int))) (λy=>y.1=false) r.kids b.length (λk hk p hp=>(b_M hv k.toNat (by have:=hr.kids k hk;omega) p hp).2) (λ_=>⟨_,rfl,rfl⟩)
   (λj hj p hp=>by
    have hkj:=hr.kids r.kids[j] (gE_ hj);have hjn:j<r.names.length:=by omega
    simp only [ix_ hjn,ix_ hj,bd_some]
    rw [hst j hjn,k_k hv hd hb hn hp hkj.1 (by omega)]
    simp only [bd2_some,bd_some,un2]
    refine ⟨λh=>?_,λh hc=>?_,λh hc=>?_⟩
    .rw [iP_ (by simpa using h),show ((r.kids[j].toNat:Nat):Int)=r.kids[j] by omega]
    .rw [iN_ (by simpa using h),hc];rfl
    .rw [iN_ (by simpa using h),show ((rdK d.rules b r.kids[j] p).2.2==0)=false by simpa using hc];exact ⟨_,rfl,rfl⟩) r.kids.length 0 p (by omega) hp
  rw [List.drop_zero] at this
  obtain ⟨y,h1,h2⟩:=this;refine ⟨y,?_,h2⟩
  rw [← hk.1]
  exact h1
 .rw [show d_o r.names s=false by simpa using hh]
  have hne:∀t (ht:t<r.names.length),r.names[t].b ≠ s.b:=λt ht he=>hh<|o_8.2 ⟨r.names[t],gE_ ht,he⟩
  rw [i_f r.kids 0 p (λt _ ht=>by rw [hst t (by omega)];exact hne t (by omega))]
  obtain ⟨m,hm⟩:∃m,r.names.length=m+1:=⟨r.names.length - 1,by omega⟩;have J:0<r.names.length:=by omega
  rw [hm]
  unfold p_
  rw [ix_ J,bd_some,iN_ (by simpa using hne 0 J)]
  exact ⟨_,rfl,rfl⟩
theorem o_s (l:List Int)(x:Int):m_Q l x=some (match a_V l x with | some k=>(k:Int) | none=>-1):=by
 unfold m_Q p_V a_V
 rw [h_j (λk=>l.getD k 0==x) (λk=>(k:Int))]
 .cases (List.range l.length).find? (λk=>l.getD k 0==x) <;> rfl
 .intro k hk _
  rw [ix_ hk,bd_some,bd_some,Z_ hk]
  cases (l[k]==x) <;> rfl
theorem t_i (hv:D_ d=true)(hd:SmD d)(hb:b.length<=400){n:Nat}(hn:500<=n){i:Nat}(hi:i<d.rules.length){p:Nat}(hp:p<=b.length){s:Str}(G:d.rules[i].kind=7)(hs:s.b=[42]) :
  ∃y,m_R n ⟨d,b,i,p⟩ d.rules[i]=some y/\Fits (b_l d.rules b d.rules[i] p s) y:=by
 have hr:=a_L hv hi;generalize d.rules[i]=r at *
 have hk:=c_P hr.kind G;have hq:=b_L hk.1;unfold m_R b_l F_
 rw [b_G (show 0<r.kids.length by omega),iP_ (by omega),G]
 simp only [show ((7:Int)==5)=false from rfl,show ((7:Int)==6)=false from rfl,bF_,fF_,bQ_,fT_,bd_some]
 rw [o_q hv hd hb hn hp hk.1]
 cases hi:O_ b (w_ d.rules<|n_ r) p with
 | none =>
  simp only [bd3_some,o_s,bd_some]
  exact ⟨_,rfl,rfl⟩
 | some m =>
  simp only [bd3_some,o_s,bd_some]
  cases ht:a_V r.tags m with
  | none=>exact ⟨_,rfl,rfl⟩
  | some j =>
   have hj:=i_k ht
   simp only [nT_,bF_,fF_,bd_some]
   rw [dF_ (show ¬(j:Int)<0 by omega)]
   have hMX:=MXv
   rw [ia_ (x:=(j:Int)) (by omega) (by omega),show (j:Int)+1=((j+1:Nat):Int) by omega,ix_ (show j+1<r.kids.length by omega)]
   simp only [bF_,fF_,bd_some]
   refine ⟨_,rfl,?_⟩;unfold c_e;have hst:a_0 r 0=⟨[42]⟩:=by unfold a_0;rw [G];rfl
   have hkid:=hr.kids (r.kids.getD (j+1) 0)<|b_H (by omega)
   rw [iP_ (by rw [hst,hs])]
   show _=_
   rw [Z_ (show j+1<r.kids.length by omega)] at *
   rw [show ((r.kids[j+1].toNat:Nat):Int)=r.kids[j+1] by omega]
theorem o_t {r:b_}{s:Str}{rd:Int->Nat->RR}{k:Int}{p:Nat}(h:(a_0 r 0).b ≠ s.b):c_e r s rd [k] 0 p=none:=i_f _ _ _ λt _ ht=>by
 have:t=0:=by simp at ht;omega
 subst this;exact h
theorem t_j (hv:D_ d=true)(hd:SmD d)(hb:b.length<=400){n:Nat}(hn:500<=n){i:Nat}(hi:i<d.rules.length){p:Nat}(hp:p<=b.length)(s:Str) :
  ∃y,k_M n ⟨d,b,i,p⟩ s=some y/\Fits (b_l d.rules b d.rules[i] p s) y:=by
 have hr:=a_L hv hi;have hMX:=MXv;unfold k_M
 simp only
 rw [ix_ hi,bd_some]
 by_cases h5:d.rules[i].kind=5
 .obtain ⟨y,h1,h2⟩:=t_g hv hd hb hn hi hp h5 (s:=s)
  rw [h5,h1]
  exact ⟨y,rfl,h2⟩
 rw [show (d.rules[i].kind==5)=false by simpa using h5]
 simp only [bF_,fF_]
 by_cases h6:d.rules[i].kind=6
 .obtain ⟨y,h1,h2⟩:=t_h hv hd hb hn hi hp h6 (s:=s)
  rw [h6,h1]
  exact ⟨y,rfl,h2⟩
 rw [show (d.rules[i].kind==6)=false by simpa using h6]
 simp only [bF_,fF_]
 by_cases G:d.rules[i].kind=7
 .by_cases hs:s.b=[42]
  .obtain ⟨y,h1,h2⟩:=t_i hv hd hb hn hi hp G hs
   rw [G,hs,h1]
   exact ⟨y,rfl,h2⟩
  .rw [G,show (s.b==[42])=false by simpa using hs]
   refine ⟨_,rfl,?_⟩;have hst:a_0 d.rules[i] 0=⟨[42]⟩:=by unfold a_0;rw [G];rfl
   have:b_l d.rules b d.rules[i] p s=none:=by
    unfold b_l F_
    rw [iP_ (by omega),G]
    simp only [show ((7:Int)==5)=false from rfl,show ((7:Int)==6)=false from rfl,bF_,fF_,bQ_,fT_]
    cases O_ b (w_ d.rules<|n_ d.rules[i]) p with
    | none=>rfl
    | some m =>
     simp only
     cases a_V d.rules[i].tags m with
     | none=>rfl
     | some j=>exact o_t (by rw [hst];exact λh=>hs h.symm)
   rw [this];rfl
 rw [show (d.rules[i].kind==7)=false by simpa using G]
 simp only [bF_,fF_,bd_some]
 by_cases H:d.rules[i].kind=8
 .have hst:a_0 d.rules[i] 0=⟨[63]⟩:=by unfold a_0;rw [H];rfl
  have L:=d_c hr.kind<|.inl H
  rw [H]
  simp only [bQ_,fT_,bd_some]
  by_cases hs:s.b=[63]
  .rw [hs]
   simp only [bQ_,fT_]
   unfold b_l F_
   rw [iP_ (show 5<=d.rules[i].kind/\d.rules[i].kind<=9 by omega),H]
   simp only [show ((8:Int)==5)=false from rfl,show ((8:Int)==6)=false from rfl,show ((8:Int)==7)=false from rfl,bF_,fF_,bQ_,fT_]
   cases hc:b[p]? with
   | none =>
    have:b.length<=p:=List.getElem?_eq_none_iff.1 hc
    rw [dT_ (show (b.length:Int)<=(p:Int) by omega)]
    exact ⟨_,rfl,rfl⟩
   | some c =>
    have hlt:p<b.length:=(gS_.1 hc).1;have hbp:b[p]=c:=(gS_.1 hc).2;have hbc:byteI c=(c.toNat:Int):=rfl
    rw [dF_ (show ¬(b.length:Int)<=(p:Int) by omega),ix_ hlt,hbp]
    simp only [bF_,fF_,bd_some]
    rw [show (byteI c != byteI (1:UInt8)) = !decide (c=1) by unfold bne;rw [f_5]]
    by_cases h1:c=1
    .subst h1
     rw [ia_ (x:=(p:Int)) (by omega) (by omega),a_M (by omega)]
     refine ⟨_,rfl,?_⟩;have hkid:=hr.kids (d.rules[i].kids.getD 0 0)<|b_H (by omega)
     rw [iN_ (by decide),show UInt8.toNat 1=1 from rfl]
     simp only [List.replicate_succ,List.replicate_zero]
     unfold c_e
     rw [iP_ (by rw [hst,hs])]
     show _=_
     rw [Z_ (show 0<d.rules[i].kids.length by omega)] at *
     rw [show ((d.rules[i].kids[0].toNat:Nat):Int)=d.rules[i].kids[0] by omega]
     rfl
    .rw [dF_ h1]
     refine ⟨_,rfl,?_⟩
     by_cases I:1<byteI c
     .rw [iP_ I];rfl
     .rw [iN_ I]
      have O:c.toNat=0:=by
       have:c.toNat ≠ 1:=λh=>h1<|UInt8.toNat_inj.1 (by rw [h];rfl)
       omega
      rw [O];rfl
  .rw [show (s.b==[63])=false by simpa using hs]
   refine ⟨_,rfl,?_⟩
   have:b_l d.rules b d.rules[i] p s=none:=by
    unfold b_l F_
    rw [iP_ (show 5<=d.rules[i].kind/\d.rules[i].kind<=9 by omega),H]
    simp only [show ((8:Int)==5)=false from rfl,show ((8:Int)==6)=false from rfl,show ((8:Int)==7)=false from rfl,bF_,fF_,bQ_,fT_]
    cases b[p]? with
    | none=>rfl
    | some c =>
     simp only
     by_cases I:1<byteI c
     .rw [iP_ I]
     .rw [iN_ I]
      have hbc:byteI c=(c.toNat:Int):=rfl;refine i_f _ _ _ λt _ ht=>?_
      have:t=0:=by simp at ht;omega
      subst this
      rw [hst];exact λh=>hs h.symm
   rw [this];rfl
 rw [show (d.rules[i].kind==8)=false by simpa using H]
 simp only [bF_,fF_,bd_some]
 by_cases J:d.rules[i].kind=9
 .have hst:a_0 d.rules[i] 0=⟨[43]⟩:=by unfold a_0;rw [J];rfl
  have L:=d_c hr.kind<|.inr J;unfold b_l F_
  rw [iP_ (show 5<=d.rules[i].kind/\d.rules[i].kind<=9 by omega),J]
  simp only [show ((9:Int)==5)=false from rfl,show ((9:Int)==6)=false from rfl,show ((9:Int)==7)=false from rfl,show ((9:Int)==8)=false from rfl,bF_,fF_,bQ_,fT_,bd_some]
  by_cases hs:s.b=[43]
  .rw [hs,a_M (by omega)]
   refine ⟨_,rfl,?_⟩;have hkid:=hr.kids (d.rules[i].kids.getD 0 0)<|b_H (by omega);unfold c_e
   rw [iP_ (show (a_0 d.rules[i] 0).b=s.b by rw [hst,hs])]
   show _=_
   rw [Z_ (show 0<d.rules[i].kids.length by omega)] at *
   rw [show ((d.rules[i].kids[0].toNat:Nat):Int)=d.rules[i].kids[0] by omega]
  .rw [show (s.b==[43])=false by simpa using hs,o_t (by rw [hst];exact λh=>hs h.symm)]
   exact ⟨_,rfl,rfl⟩
 .rw [show (d.rules[i].kind==9)=false by simpa using J]
  unfold b_l
  rw [iN_ (show ¬(5<=d.rules[i].kind/\d.rules[i].kind<=9) by omega)]
  exact ⟨_,rfl,rfl⟩
end
end Go.Vw
