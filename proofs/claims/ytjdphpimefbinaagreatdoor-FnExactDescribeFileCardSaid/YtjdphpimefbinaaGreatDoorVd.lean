
import Derived.Test.YtjdphpimefbinaaGreatDoorVc
namespace Go.Vw
open Go.RowKit Dat
theorem t_e {s:Str}{x:Int}(h:c_x s=(x,true)):0<=x/\x<=1000000000000/\Lib.itoa x=s.b:=by
 unfold c_x at h
 split at h
 .rename_i hc
  cases h
  exact ⟨(g_7 _ hc.2.1).1,hc.2.2.1,hc.2.2.2⟩
 .cases h
theorem m_6 {r:b_}(h:r.kind=5)(t:Nat):a_5 r t=⟨Lib.itoa t⟩:=by unfold a_5;rw [h];rfl
section
variable {d:c_}{b:Bt}
def Fits (o:Option (Nat×Nat))(y:Bool×Int×Int):Prop:=match o with
 | some (k,q)=>y=(true,(k:Int),(q:Int))
 | none=>y.1=false
theorem k_d (hv:G_ d=true)(hd:SmD d)(hb:b.length<=400){n:Nat}(hn:500<=n){i:Int}{p:Nat}(hp:p<=b.length){k:Int}(G:0<=k)(hk:k<d.rules.length) :
  d_e n ⟨d,b,i,p⟩ k=some ((rdK d.rules b k p).2.2==0,((rdK d.rules b k p).2.1:Int)):=by
 unfold d_e;have h:=k_r (b:=b) hd hn k p;have hr:=m_3 (d:=d) (b:=b) hv hb (i:=k.toNat) (p:=p) (by omega) hp
 rw [show ((k.toNat:Nat):Int)=k by omega] at hr
 rw [hr] at h
 simp only
 rw [h]
 rfl
theorem k_e (hv:G_ d=true){k:Int}(G:0<=k)(hk:k<d.rules.length){p:Nat}(hp:p<=b.length)(h1:e_4 (z_ d.rules k)) :
  rdK d.rules b k p=(match S_ b (z_ d.rules k) p with | none=>(zV,p,1) | some n=>(⟨n,[],[]⟩,p+(z_ d.rules k).size.toNat,0)):=by
 unfold rdK
 rw [d_F hv (by omega) hp]
 have:d.rules[k.toNat]'(by omega)=z_ d.rules k:=by unfold z_;rw [gD_,gG_ (by omega)];rfl
 rw [this]
 unfold rdB
 rw [h1.1];rfl
theorem o_i (hv:G_ d=true)(hd:SmD d)(hb:b.length<=400){n:Nat}(hn:500<=n){i:Int}{p:Nat}(hp:p<=b.length){k:Int}(hl:0<lim d.rules k) :
  g_y n ⟨d,b,i,p⟩ k=some (match S_ b (z_ d.rules k) p with | none=>(0,false,(p:Int)) | some x=>(x,true,((p+(z_ d.rules k).size.toNat:Nat):Int))):=by
 have hq:=b_b hl;obtain ⟨G,_,hk⟩:=a_k hq.1;unfold g_y
 rw [k_d hv hd hb hn hp G hk,k_e hv G hk hp hq.2]
 simp only [bd2_some]
 cases hi:S_ b (z_ d.rules k) p with
 | none=>rfl
 | some x =>
  have hr:=b_e hq.2 hi
  simp only [bQ_,nT_,bF_,fF_]
  rw [c_z (by omega) hr.2.2,bd_some,hq.1,bd_some]
  have hs:=hq.2.2
  rw [k_8 _ _ (by rw [c_A hr.2.2];omega),bd_some]
  unfold S_ at hi
  split at hi
  .cases hi
  .rw [Option.some.inj hi]
theorem o_j (hv:G_ d=true)(hd:SmD d)(hb:b.length<=400){n:Nat}(hn:500<=n){i:Int}{r:b_}{kid:Int}(hr:r.kind=5)(hkid:idx r.kids 1=some kid)(J:0<=kid)(hk:kid<d.rules.length){s:Str} :
  ∀(m c j p f:Nat),m<c->c<=1000->m<f->p<=b.length->s.b=Lib.itoa ((j+m:Nat):Int)->∃y,bd (a_d (σ:=Int×Int) (ρ:=Bool×Int×Int) (un2 λG H=>if (decide<|0<G) then bd (idx r.kids 1) λL=>bd2 (d_e n (⟨d,b,i,H⟩:b_7) L) λO I=>if (!O) then some (.ret (false,i,I)) else some (.next (W_ G 1,I)) else bd (idx r.kids 1) λV=>some<|.ret (true,V,H)) f ((m:Int),(p:Int))) (el (λ_=>none)<|λW=>some W)=some y/\Fits (b_Y r s (rdK d.rules b) (List.replicate c kid) j p) y
 | 0,c,j,p,f,hc,_,hf,hp,hs=>by
  obtain ⟨c,rfl⟩:∃c',c=c'+1:=⟨c - 1,by omega⟩;obtain ⟨f,rfl⟩:∃f',f=f'+1:=⟨f - 1,by omega⟩;unfold a_d
  simp only [un2]
  rw [dF_ (by omega),hkid]
  simp only [bF_,fF_,bd_some,el_inr]
  refine ⟨_,rfl,?_⟩
  rw [List.replicate_succ]
  unfold b_Y
  rw [iP_ (by rw [m_6 hr,hs];rfl)]
  show _=_
  rw [show ((kid.toNat:Nat):Int)=kid by omega]
 | m+1,c,j,p,f,hc,Y,hf,hp,hs=>by
  obtain ⟨c,rfl⟩:∃c',c=c'+1:=⟨c - 1,by omega⟩;obtain ⟨f,rfl⟩:∃f',f=f'+1:=⟨f - 1,by omega⟩;unfold a_d
  simp only [un2]
  rw [dT_ (by omega),hkid]
  simp only [fT_,bd_some]
  rw [k_d hv hd hb hn hp J hk]
  simp only [bd2_some]
  rw [List.replicate_succ]
  unfold b_Y
  have hne:¬(a_5 r j).b=s.b:=λh=>by
   rw [m_6 hr,hs] at h
   have:=n_X h
   omega
  rw [iN_ hne]
  by_cases hok:(rdK d.rules b kid p).2.2=0
  .rw [iP_ hok,hok]
   simp only [bQ_,nT_,bF_,fF_]
   have ih:=o_j hv hd hb hn hr hkid J hk (s:=s) (i:=i) m c (j+1) (rdK d.rules b kid p).2.1 f (by omega) (by omega) (by omega) (a_X hv kid.toNat (by omega) p hp).2 (by rw [hs];congr 2;omega)
   rw [hkid] at ih
   simp only [bd_some] at ih
   rw [b_p (by omega) (by omega),show ((m+1:Nat):Int) - 1=m by omega]
   exact ih
  .rw [iN_ hok,show ((rdK d.rules b kid p).2.2==0)=false by simpa using hok]
   exact ⟨_,rfl,rfl⟩
theorem t_f (hv:G_ d=true)(hd:SmD d)(hb:b.length<=400){n:Nat}(hn:500<=n){i:Nat}(hi:i<d.rules.length){p:Nat}(hp:p<=b.length){s:Str}(h5:d.rules[i].kind=5) :
  ∃y,i_n n ⟨d,b,i,p⟩ d.rules[i] s=some y/\Fits (b_a d.rules b d.rules[i] p s) y:=by
 have hr:=a_r hv hi;generalize d.rules[i]=r at *
 have hk:=b_Z hr.kind h5;have hkid:=hr.kids (r.kids.getD 1 0)<|b_z (by omega);have hq:=b_b hk.1;unfold i_n b_a H_
 rw [o_7,b_9 (show 0<r.kids.length by omega),iP_ (by omega),h5]
 simp only [bQ_,fT_]
 rcases hps:c_x s with ⟨x,ok⟩
 simp only [bd2_some,bd_some]
 rw [o_i hv hd hb hn hp hk.1]
 cases hi:S_ b (z_ d.rules<|r_ r) p with
 | none=>cases ok <;> exact ⟨_,rfl,rfl⟩
 | some m =>
  have hrng:=b_e hq.2 hi
  simp only [bd3_some]
  by_cases G:40<m
  .rw [iP_ G,dT_ G]
   cases ok <;> exact ⟨_,rfl,rfl⟩
  rw [iN_ G,dF_ G]
  simp only
  by_cases hin:ok=true/\x<m
  .obtain ⟨rfl,hx⟩:=hin;obtain ⟨H,_,hs⟩:=t_e hps
   rw [dF_ (show ¬m<=x by omega)]
   simp only [nT_,bF_,fF_,bd_some]
   have hid:idx r.kids 1=some (r.kids.getD 1 0):=by rw [h_I (by omega),a_1 (by omega)]
   have:=o_j (s:=s) (b:=b) (i:=(i:Int)) hv hd hb hn h5 hid hkid.1 (by omega) x.toNat m.toNat 0 (p+(z_ d.rules<|r_ r).size.toNat) n (by omega) (by omega) (by omega) hrng.2.2 (by rw [← hs];congr 1;omega)
   rw [show ((x.toNat:Nat):Int)=x by omega] at this
   exact this
  .have hnone:=h_w (r:=r) (s:=s) (rd:=rdK d.rules b) (List.replicate m.toNat (r.kids.getD 1 0)) 0 (p+(z_ d.rules (r_ r)).size.toNat) (λt _ ht he=>by
    rw [m_6 h5] at he
    rw [List.length_replicate] at ht
    have e:s=⟨Lib.itoa t⟩:=by cases s;simp only at he;rw [he]
    have hpi:=n_Z t (by omega)
    rw [← e,hps] at hpi
    cases hpi
    exact hin ⟨rfl,by omega⟩)
   rw [hnone]
   cases ok with
   | false=>exact ⟨_,rfl,rfl⟩
   | true =>
    rw [dT_ (show m<=x by
     apply Int.not_lt.1;intro h;exact hin ⟨rfl,h⟩)]
    exact ⟨_,rfl,rfl⟩
theorem t_g (hv:G_ d=true)(hd:SmD d)(hb:b.length<=400){n:Nat}(hn:500<=n){i:Nat}(hi:i<d.rules.length){p:Nat}(hp:p<=b.length){s:Str}(h6:d.rules[i].kind=6) :
  ∃y,i_o n ⟨d,b,i,p⟩ d.rules[i] s=some y/\Fits (b_a d.rules b d.rules[i] p s) y:=by
 have hr:=a_r hv hi;generalize d.rules[i]=r at *
 have hk:=d_D hr.kind h6;have hst:∀t (ht:t<r.names.length),a_5 r t=r.names[t]:=λt ht=>by unfold a_5;rw [h6,dT_ ht,a_1 ht];rfl
 unfold i_o b_a H_
 rw [iP_ (by omega),h6]
 simp only [show ((6:Int)==5)=false from rfl,bF_,fF_,bQ_,fT_,n_D,bd_some]
 by_cases hh:c_Y r.names s=true
 .rw [hh]
  simp only [nT_,bF_,fF_]
  have:=m_5 (r:=r) (s:=s) (rd:=rdK d.rules b) (body:=λH=>(λG=>bd (idx r.names ((H:Nat):Int)) λL=>if (L.b==s.b) then bd (idx r.kids ((H:Nat):Int)) λO=>some (.ret (true,O,G)) else bd (α:=Bool×Int) (bd (idx r.kids ((H:Nat):Int)) λV=>bd2 (d_e n (⟨d,b,i,G⟩:b_7) V) λW Y=>some (!W,Y)) (un2 λa0 I=>if a0 then some (.ret (false,(i:Int),I)) else some (.next I))))
   (g:=λG=>some (false,(i:Int),G)) (λk q=>(true,(k:Int),(q:Int))) (λy=>y.1=false) r.kids b.length (λk hk p hp=>(a_X hv k.toNat (by have:=hr.kids k hk;omega) p hp).2) (λ_=>⟨_,rfl,rfl⟩)
   (λj hj p hp=>by
    have hkj:=hr.kids r.kids[j] (gE_ hj);have hjn:j<r.names.length:=by omega
    simp only [ix_ hjn,ix_ hj,bd_some]
    rw [hst j hjn,k_d hv hd hb hn hp hkj.1 (by omega)]
    simp only [bd2_some,bd_some,un2]
    refine ⟨λh=>?_,λh hc=>?_,λh hc=>?_⟩
    .rw [iP_ (by simpa using h),show ((r.kids[j].toNat:Nat):Int)=r.kids[j] by omega]
    .rw [iN_ (by simpa using h),hc];rfl
    .rw [iN_ (by simpa using h),show ((rdK d.rules b r.kids[j] p).2.2==0)=false by simpa using hc];exact ⟨_,rfl,rfl⟩) r.kids.length 0 p (by omega) hp
  rw [List.drop_zero] at this
  obtain ⟨y,h1,h2⟩:=this;refine ⟨y,?_,h2⟩
  rw [← hk.1]
  exact h1
 .rw [show c_Y r.names s=false by simpa using hh]
  have hne:∀t (ht:t<r.names.length),r.names[t].b ≠ s.b:=λt ht he=>hh<|o_2.2 ⟨r.names[t],gE_ ht,he⟩
  rw [h_w r.kids 0 p (λt _ ht=>by rw [hst t (by omega)];exact hne t (by omega))]
  obtain ⟨m,hm⟩:∃m,r.names.length=m+1:=⟨r.names.length - 1,by omega⟩;have J:0<r.names.length:=by omega
  rw [hm]
  unfold v_
  rw [ix_ J,bd_some,iN_ (by simpa using hne 0 J)]
  exact ⟨_,rfl,rfl⟩
theorem o_k (l:List Int)(x:Int):i_p l x=some (match a_H l x with | some k=>(k:Int) | none=>-1):=by
 unfold i_p k_G a_H
 rw [f_q (λk=>l.getD k 0==x) (λk=>(k:Int))]
 .cases (List.range l.length).find? (λk=>l.getD k 0==x) <;> rfl
 .intro k hk _
  rw [ix_ hk,bd_some,bd_some,a_1 hk]
  cases (l[k]==x) <;> rfl
theorem t_h (hv:G_ d=true)(hd:SmD d)(hb:b.length<=400){n:Nat}(hn:500<=n){i:Nat}(hi:i<d.rules.length){p:Nat}(hp:p<=b.length){s:Str}(G:d.rules[i].kind=7)(hs:s.b=[42]) :
  ∃y,i_q n ⟨d,b,i,p⟩ d.rules[i]=some y/\Fits (b_a d.rules b d.rules[i] p s) y:=by
 have hr:=a_r hv hi;generalize d.rules[i]=r at *
 have hk:=c_b hr.kind G;have hq:=b_b hk.1;unfold i_q b_a H_
 rw [b_9 (show 0<r.kids.length by omega),iP_ (by omega),G]
 simp only [show ((7:Int)==5)=false from rfl,show ((7:Int)==6)=false from rfl,bF_,fF_,bQ_,fT_,bd_some]
 rw [o_i hv hd hb hn hp hk.1]
 cases hi:S_ b (z_ d.rules<|r_ r) p with
 | none =>
  simp only [bd3_some,o_k,bd_some]
  exact ⟨_,rfl,rfl⟩
 | some m =>
  simp only [bd3_some,o_k,bd_some]
  cases ht:a_H r.tags m with
  | none=>exact ⟨_,rfl,rfl⟩
  | some j =>
   have hj:=g_d ht
   simp only [nT_,bF_,fF_,bd_some]
   rw [dF_ (show ¬(j:Int)<0 by omega)]
   have hMX:=MXv
   rw [ia_ (x:=(j:Int)) (by omega) (by omega),show (j:Int)+1=((j+1:Nat):Int) by omega,ix_ (show j+1<r.kids.length by omega)]
   simp only [bF_,fF_,bd_some]
   refine ⟨_,rfl,?_⟩;unfold b_Y;have hst:a_5 r 0=⟨[42]⟩:=by unfold a_5;rw [G];rfl
   have hkid:=hr.kids (r.kids.getD (j+1) 0)<|b_z (by omega)
   rw [iP_ (by rw [hst,hs])]
   show _=_
   rw [a_1 (show j+1<r.kids.length by omega)] at *
   rw [show ((r.kids[j+1].toNat:Nat):Int)=r.kids[j+1] by omega]
theorem o_l {r:b_}{s:Str}{rd:Int->Nat->RR}{k:Int}{p:Nat}(h:(a_5 r 0).b ≠ s.b):b_Y r s rd [k] 0 p=none:=h_w _ _ _ λt _ ht=>by
 have:t=0:=by simp at ht;omega
 subst this;exact h
theorem t_i (hv:G_ d=true)(hd:SmD d)(hb:b.length<=400){n:Nat}(hn:500<=n){i:Nat}(hi:i<d.rules.length){p:Nat}(hp:p<=b.length)(s:Str) :
  ∃y,g_z n ⟨d,b,i,p⟩ s=some y/\Fits (b_a d.rules b d.rules[i] p s) y:=by
 have hr:=a_r hv hi;have hMX:=MXv;unfold g_z
 simp only
 rw [ix_ hi,bd_some]
 by_cases h5:d.rules[i].kind=5
 .obtain ⟨y,h1,h2⟩:=t_f hv hd hb hn hi hp h5 (s:=s)
  rw [h5,h1]
  exact ⟨y,rfl,h2⟩
 rw [show (d.rules[i].kind==5)=false by simpa using h5]
 simp only [bF_,fF_]
 by_cases h6:d.rules[i].kind=6
 .obtain ⟨y,h1,h2⟩:=t_g hv hd hb hn hi hp h6 (s:=s)
  rw [h6,h1]
  exact ⟨y,rfl,h2⟩
 rw [show (d.rules[i].kind==6)=false by simpa using h6]
 simp only [bF_,fF_]
 by_cases G:d.rules[i].kind=7
 .by_cases hs:s.b=[42]
  .obtain ⟨y,h1,h2⟩:=t_h hv hd hb hn hi hp G hs
   rw [G,hs,h1]
   exact ⟨y,rfl,h2⟩
  .rw [G,show (s.b==[42])=false by simpa using hs]
   refine ⟨_,rfl,?_⟩;have hst:a_5 d.rules[i] 0=⟨[42]⟩:=by unfold a_5;rw [G];rfl
   have:b_a d.rules b d.rules[i] p s=none:=by
    unfold b_a H_
    rw [iP_ (by omega),G]
    simp only [show ((7:Int)==5)=false from rfl,show ((7:Int)==6)=false from rfl,bF_,fF_,bQ_,fT_]
    cases S_ b (z_ d.rules<|r_ d.rules[i]) p with
    | none=>rfl
    | some m =>
     simp only
     cases a_H d.rules[i].tags m with
     | none=>rfl
     | some j=>exact o_l (by rw [hst];exact λh=>hs h.symm)
   rw [this];rfl
 rw [show (d.rules[i].kind==7)=false by simpa using G]
 simp only [bF_,fF_,bd_some]
 by_cases H:d.rules[i].kind=8
 .have hst:a_5 d.rules[i] 0=⟨[63]⟩:=by unfold a_5;rw [H];rfl
  have L:=c_p hr.kind<|.inl H
  rw [H]
  simp only [bQ_,fT_,bd_some]
  by_cases hs:s.b=[63]
  .rw [hs]
   simp only [bQ_,fT_]
   unfold b_a H_
   rw [iP_ (show 5<=d.rules[i].kind/\d.rules[i].kind<=9 by omega),H]
   simp only [show ((8:Int)==5)=false from rfl,show ((8:Int)==6)=false from rfl,show ((8:Int)==7)=false from rfl,bF_,fF_,bQ_,fT_]
   cases hc:b[p]? with
   | none =>
    have:b.length<=p:=List.getElem?_eq_none_iff.1 hc
    rw [dT_ (show (b.length:Int)<=(p:Int) by omega)]
    exact ⟨_,rfl,rfl⟩
   | some c =>
    have hlt:p<b.length:=(gS_.1 hc).1;have hbp:b[p]=c:=(gS_.1 hc).2;have hbc:byteI c=(c.toNat:Int):=rfl
    rw [dF_ (show ¬(b.length:Int)<=(p:Int) by omega),ix_ hlt,hbp]
    simp only [bF_,fF_,bd_some]
    rw [show (byteI c != byteI (1:UInt8)) = !decide (c=1) by unfold bne;rw [f_k]]
    by_cases h1:c=1
    .subst h1
     rw [ia_ (x:=(p:Int)) (by omega) (by omega),b_m (by omega)]
     refine ⟨_,rfl,?_⟩;have hkid:=hr.kids (d.rules[i].kids.getD 0 0)<|b_z (by omega)
     rw [iN_ (by decide),show UInt8.toNat 1=1 from rfl]
     simp only [List.replicate_succ,List.replicate_zero]
     unfold b_Y
     rw [iP_ (by rw [hst,hs])]
     show _=_
     rw [a_1 (show 0<d.rules[i].kids.length by omega)] at *
     rw [show ((d.rules[i].kids[0].toNat:Nat):Int)=d.rules[i].kids[0] by omega]
     rfl
    .rw [dF_ h1]
     refine ⟨_,rfl,?_⟩
     by_cases I:1<byteI c
     .rw [iP_ I];rfl
     .rw [iN_ I]
      have O:c.toNat=0:=by
       have:c.toNat ≠ 1:=λh=>h1<|UInt8.toNat_inj.1 (by rw [h];rfl)
       omega
      rw [O];rfl
  .rw [show (s.b==[63])=false by simpa using hs]
   refine ⟨_,rfl,?_⟩
   have:b_a d.rules b d.rules[i] p s=none:=by
    unfold b_a H_
    rw [iP_ (show 5<=d.rules[i].kind/\d.rules[i].kind<=9 by omega),H]
    simp only [show ((8:Int)==5)=false from rfl,show ((8:Int)==6)=false from rfl,show ((8:Int)==7)=false from rfl,bF_,fF_,bQ_,fT_]
    cases b[p]? with
    | none=>rfl
    | some c =>
     simp only
     by_cases I:1<byteI c
     .rw [iP_ I]
     .rw [iN_ I]
      have hbc:byteI c=(c.toNat:Int):=rfl;refine h_w _ _ _ λt _ ht=>?_
      have:t=0:=by simp at ht;omega
      subst this
      rw [hst];exact λh=>hs h.symm
   rw [this];rfl
 rw [show (d.rules[i].kind==8)=false by simpa using H]
 simp only [bF_,fF_,bd_some]
 by_cases J:d.rules[i].kind=9
 .have hst:a_5 d.rules[i] 0=⟨[43]⟩:=by unfold a_5;rw [J];rfl
  have L:=c_p hr.kind<|.inr J;unfold b_a H_
  rw [iP_ (show 5<=d.rules[i].kind/\d.rules[i].kind<=9 by omega),J]
  simp only [show ((9:Int)==5)=false from rfl,show ((9:Int)==6)=false from rfl,show ((9:Int)==7)=false from rfl,show ((9:Int)==8)=false from rfl,bF_,fF_,bQ_,fT_,bd_some]
  by_cases hs:s.b=[43]
  .rw [hs,b_m (by omega)]
   refine ⟨_,rfl,?_⟩;have hkid:=hr.kids (d.rules[i].kids.getD 0 0)<|b_z (by omega);unfold b_Y
   rw [iP_ (show (a_5 d.rules[i] 0).b=s.b by rw [hst,hs])]
   show _=_
   rw [a_1 (show 0<d.rules[i].kids.length by omega)] at *
   rw [show ((d.rules[i].kids[0].toNat:Nat):Int)=d.rules[i].kids[0] by omega]
  .rw [show (s.b==[43])=false by simpa using hs,o_l (by rw [hst];exact λh=>hs h.symm)]
   exact ⟨_,rfl,rfl⟩
 .rw [show (d.rules[i].kind==9)=false by simpa using J]
  unfold b_a
  rw [iN_ (show ¬(5<=d.rules[i].kind/\d.rules[i].kind<=9) by omega)]
  exact ⟨_,rfl,rfl⟩
end
end Go.Vw
