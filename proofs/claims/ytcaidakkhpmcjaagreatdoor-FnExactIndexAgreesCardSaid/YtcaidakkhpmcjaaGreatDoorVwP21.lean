
import Derived.Test.YtcaidakkhpmcjaaGreatDoorVwP20
namespace Go.Vw
open Go.RowKit Dat
theorem q_U {s:Str}{x:Int}(h:b_Y s=(x,true)):0<=x/\x<=1000000000000/\Lib.itoa x=s.b:=by
 unfold b_Y at h
 split at h
 ·rename_i hc
  cases h
  exact ⟨(f_k _ hc.2.1).1,hc.2.2.1,hc.2.2.2⟩
 ·cases h
theorem k_L {r:e_}(h:r.kind=5)(t:Nat):K_ r t=⟨Lib.itoa t⟩:=by unfold K_;rw [h];rfl
section
variable {d:b_}{b:List UInt8}
def Fits (o:Option (Nat×Nat))(y:Bool×Int×Int):Prop:=match o with
 | some (k,q)=>y=(true,(k:Int),(q:Int))
 | none=>y.1=false
theorem i_S (hv:F_ d=true)(hd:SmD d)(hb:b.length<=400){n:Nat}(hn:500<=n){i:Int}{p:Nat}(hp:p<=b.length){k:Int}(G:0<=k)(hk:k<d.rules.length) :
  c_K n ⟨d,b,i,p⟩ k=some ((rdK d.rules b k p).2.2==0,((rdK d.rules b k p).2.1:Int)):=by
 unfold c_K;have h:=n_k (b:=b) hd hn k p;have hr:=m_B (d:=d) (b:=b) hv hb (i:=k.toNat) (p:=p) (by omega) hp
 rw [show ((k.toNat:Nat):Int)=k by omega] at hr
 rw [hr] at h
 simp only
 rw [h]
 rfl
theorem q_V (hv:F_ d=true){k:Int}(G:0<=k)(hk:k<d.rules.length){p:Nat}(hp:p<=b.length)(h1:d_t (C_ d.rules k)) :
  rdK d.rules b k p=(match U_ b (C_ d.rules k) p with | none=>(zV,p,1) | some n=>(⟨n,[],[]⟩,p+(C_ d.rules k).size.toNat,0)):=by
 unfold rdK
 rw [d_7 hv (by omega) hp]
 have:d.rules[k.toNat]'(by omega)=C_ d.rules k:=by unfold C_;rw [gD_,gG_ (by omega)];rfl
 rw [this]
 unfold rdB
 rw [h1.1];rfl
theorem m_O (hv:F_ d=true)(hd:SmD d)(hb:b.length<=400){n:Nat}(hn:500<=n){i:Int}{p:Nat}(hp:p<=b.length){k:Int}(hl:0<lim d.rules k) :
  f_L n ⟨d,b,i,p⟩ k=some (match U_ b (C_ d.rules k) p with | none=>(0,false,(p:Int)) | some x=>(x,true,((p+(C_ d.rules k).size.toNat:Nat):Int))):=by
 have hq:=b_i hl;obtain ⟨G,_,hk⟩:=a_z hq.1;unfold f_L
 rw [i_S hv hd hb hn hp G hk,q_V hv G hk hp hq.2]
 simp only [bd2_some]
 cases hi:U_ b (C_ d.rules k) p with
 | none=>rfl
 | some x =>
  have hr:=b_v hq.2 hi
  simp only [bQ_,nT_,bF_,fF_]
  rw [c_k (by omega) hr.2.2,bd_some,hq.1,bd_some]
  have hs:=hq.2.2
  rw [k_H _ _ (by rw [c_l hr.2.2];omega),bd_some]
  unfold U_ at hi
  split at hi
  ·cases hi
  ·rw [Option.some.inj hi]
theorem m_P (hv:F_ d=true)(hd:SmD d)(hb:b.length<=400){n:Nat}(hn:500<=n){i:Int}{r:e_}{kid:Int}(hr:r.kind=5)(hkid:idx r.kids 1=some kid)(J:0<=kid)(hk:kid<d.rules.length){s:Str} :
  ∀(m c j p f:Nat),m<c->c<=1000->m<f->p<=b.length->s.b=Lib.itoa ((j+m:Nat):Int)->∃y,bd (a_j (σ:=Int×Int) (ρ:=Bool×Int×Int) (un2 fun G H=>if (decide<|0<G)=true then bd (idx r.kids 1) fun L=>bd2 (c_K n (⟨d,b,i,H⟩:a_P) L) fun O I=>if (!O)=true then some (.ret (false,i,I)) else some (.next (S_ G 1,I)) else bd (idx r.kids 1) fun V=>some<|.ret (true,V,H)) f ((m:Int),(p:Int))) (el (fun _=>none)<|fun W=>some W)=some y/\Fits (b_I r s (rdK d.rules b) (List.replicate c kid) j p) y
 | 0,c,j,p,f,hc,_,hf,hp,hs=>by
  obtain ⟨c,rfl⟩:∃c',c=c'+1:=⟨c - 1,by omega⟩;obtain ⟨f,rfl⟩:∃f',f=f'+1:=⟨f - 1,by omega⟩;unfold a_j
  simp only [un2]
  rw [dF_ (by omega),hkid]
  simp only [bF_,fF_,bd_some,el_inr]
  refine ⟨_,rfl,?_⟩
  rw [List.replicate_succ]
  unfold b_I
  rw [iP_ (by rw [k_L hr,hs];rfl)]
  show _=_
  rw [show ((kid.toNat:Nat):Int)=kid by omega]
 | m+1,c,j,p,f,hc,Y,hf,hp,hs=>by
  obtain ⟨c,rfl⟩:∃c',c=c'+1:=⟨c - 1,by omega⟩;obtain ⟨f,rfl⟩:∃f',f=f'+1:=⟨f - 1,by omega⟩;unfold a_j
  simp only [un2]
  rw [dT_ (by omega),hkid]
  simp only [fT_,bd_some]
  rw [i_S hv hd hb hn hp J hk]
  simp only [bd2_some]
  rw [List.replicate_succ]
  unfold b_I
  have hne:¬(K_ r j).b=s.b:=fun h=>by
   rw [k_L hr,hs] at h
   have:=m_t h
   omega
  rw [iN_ hne]
  by_cases hok:(rdK d.rules b kid p).2.2=0
  ·rw [iP_ hok,hok]
   simp only [bQ_,nT_,bF_,fF_]
   have ih:=m_P hv hd hb hn hr hkid J hk (s:=s) (i:=i) m c (j+1) (rdK d.rules b kid p).2.1 f (by omega) (by omega) (by omega) (b_d hv kid.toNat (by omega) p hp).2 (by rw [hs];congr 2;omega)
   rw [hkid] at ih
   simp only [bd_some] at ih
   rw [b_e (by omega) (by omega),show ((m+1:Nat):Int) - 1=m by omega]
   exact ih
  ·rw [iN_ hok,show ((rdK d.rules b kid p).2.2==0)=false by simpa using hok]
   exact ⟨_,rfl,rfl⟩
theorem q_W (hv:F_ d=true)(hd:SmD d)(hb:b.length<=400){n:Nat}(hn:500<=n){i:Nat}(hi:i<d.rules.length){p:Nat}(hp:p<=b.length){s:Str}(h5:d.rules[i].kind=5) :
  ∃y,h_p n ⟨d,b,i,p⟩ d.rules[i] s=some y/\Fits (a_Q d.rules b d.rules[i] p s) y:=by
 have hr:=a_r hv hi;generalize d.rules[i]=r at *
 have hk:=c_0 hr.kind h5;have hkid:=hr.kids (r.kids.getD 1 0)<|b_c (by omega);have hq:=b_i hk.1;unfold h_p a_Q H_
 rw [k_G,b_9 (show 0<r.kids.length by omega),iP_ (by omega),h5]
 simp only [bQ_,fT_]
 rcases hps:b_Y s with ⟨x,ok⟩
 simp only [bd2_some,bd_some]
 rw [m_O hv hd hb hn hp hk.1]
 cases hi:U_ b (C_ d.rules<|s_ r) p with
 | none=>cases ok <;> exact ⟨_,rfl,rfl⟩
 | some m =>
  have hrng:=b_v hq.2 hi
  simp only [bd3_some]
  by_cases G:40<m
  ·rw [iP_ G,dT_ G]
   cases ok <;> exact ⟨_,rfl,rfl⟩
  rw [iN_ G,dF_ G]
  simp only
  by_cases hin:ok=true/\x<m
  ·obtain ⟨rfl,hx⟩:=hin;obtain ⟨H,_,hs⟩:=q_U hps
   rw [dF_ (show ¬m<=x by omega)]
   simp only [nT_,bF_,fF_,bd_some]
   have hid:idx r.kids 1=some (r.kids.getD 1 0):=by rw [j_3 (by omega),a_7 (by omega)]
   have:=m_P (s:=s) (b:=b) (i:=(i:Int)) hv hd hb hn h5 hid hkid.1 (by omega) x.toNat m.toNat 0 (p+(C_ d.rules<|s_ r).size.toNat) n (by omega) (by omega) (by omega) hrng.2.2 (by rw [← hs];congr 1;omega)
   rw [show ((x.toNat:Nat):Int)=x by omega] at this
   exact this
  ·have hnone:=g_B (r:=r) (s:=s) (rd:=rdK d.rules b) (List.replicate m.toNat (r.kids.getD 1 0)) 0 (p+(C_ d.rules (s_ r)).size.toNat) (fun t _ ht he=>by
    rw [k_L h5] at he
    rw [List.length_replicate] at ht
    have e:s=⟨Lib.itoa t⟩:=by cases s;simp only at he;rw [he]
    have hpi:=k_y t (by omega)
    rw [← e,hps] at hpi
    cases hpi
    exact hin ⟨rfl,by omega⟩)
   rw [hnone]
   cases ok with
   | false=>exact ⟨_,rfl,rfl⟩
   | true =>
    rw [dT_ (show m<=x by
     apply Int.not_lt.1;intro h;exact hin ⟨rfl,h⟩)]
    exact ⟨_,rfl,rfl⟩
theorem q_X (hv:F_ d=true)(hd:SmD d)(hb:b.length<=400){n:Nat}(hn:500<=n){i:Nat}(hi:i<d.rules.length){p:Nat}(hp:p<=b.length){s:Str}(h6:d.rules[i].kind=6) :
  ∃y,h_q n ⟨d,b,i,p⟩ d.rules[i] s=some y/\Fits (a_Q d.rules b d.rules[i] p s) y:=by
 have hr:=a_r hv hi;generalize d.rules[i]=r at *
 have hk:=d_u hr.kind h6;have hst:∀t (ht:t<r.names.length),K_ r t=r.names[t]:=fun t ht=>by unfold K_;rw [h6,dT_ ht,a_7 ht];rfl
 unfold h_q a_Q H_
 rw [iP_ (by omega),h6]
 simp only [show ((6:Int)==5)=false from rfl,bF_,fF_,bQ_,fT_,m_f,bd_some]
 by_cases hh:c_x r.names s=true
 ·rw [hh]
  simp only [nT_,bF_,fF_]
  have:=k_J (r:=r) (s:=s) (rd:=rdK d.rules b) (body:=fun H=>(fun G=>bd (idx r.names ((H:Nat):Int)) fun L=>if (L.b==s.b)=true then bd (idx r.kids ((H:Nat):Int)) fun O=>some (.ret (true,O,G)) else bd (α:=Bool×Int) (bd (idx r.kids ((H:Nat):Int)) fun V=>bd2 (c_K n (⟨d,b,i,G⟩:a_P) V) fun W Y=>some (!W,Y)) (un2 fun a0 I=>if a0=true then some (.ret (false,(i:Int),I)) else some (.next I))))
   (g:=fun G=>some (false,(i:Int),G)) (fun k q=>(true,(k:Int),(q:Int))) (fun y=>y.1=false) r.kids b.length (fun k hk p hp=>(b_d hv k.toNat (by have:=hr.kids k hk;omega) p hp).2) (fun _=>⟨_,rfl,rfl⟩)
   (fun j hj p hp=>by
    have hkj:=hr.kids r.kids[j] (gE_ hj);have hjn:j<r.names.length:=by omega
    simp only [ix_ hjn,ix_ hj,bd_some]
    rw [hst j hjn,i_S hv hd hb hn hp hkj.1 (by omega)]
    simp only [bd2_some,bd_some,un2]
    refine ⟨fun h=>?_,fun h hc=>?_,fun h hc=>?_⟩
    ·rw [iP_ (by simpa using h),show ((r.kids[j].toNat:Nat):Int)=r.kids[j] by omega]
    ·rw [iN_ (by simpa using h),hc];rfl
    ·rw [iN_ (by simpa using h),show ((rdK d.rules b r.kids[j] p).2.2==0)=false by simpa using hc];exact ⟨_,rfl,rfl⟩) r.kids.length 0 p (by omega) hp
  rw [List.drop_zero] at this
  obtain ⟨y,h1,h2⟩:=this;refine ⟨y,?_,h2⟩
  rw [← hk.1]
  exact h1
 ·rw [show c_x r.names s=false by simpa using hh]
  have hne:∀t (ht:t<r.names.length),r.names[t].b ≠ s.b:=fun t ht he=>hh<|m_x.2 ⟨r.names[t],gE_ ht,he⟩
  rw [g_B r.kids 0 p (fun t _ ht=>by rw [hst t (by omega)];exact hne t (by omega))]
  obtain ⟨m,hm⟩:∃m,r.names.length=m+1:=⟨r.names.length - 1,by omega⟩;have J:0<r.names.length:=by omega
  rw [hm]
  unfold v_
  rw [ix_ J,bd_some,iN_ (by simpa using hne 0 J)]
  exact ⟨_,rfl,rfl⟩
theorem m_Q (l:List Int)(x:Int):h_r l x=some (match a_H l x with | some k=>(k:Int) | none=>-1):=by
 unfold h_r j_b a_H
 rw [f_u (fun k=>l.getD k 0==x) (fun k=>(k:Int))]
 ·cases (List.range l.length).find? (fun k=>l.getD k 0==x) <;> rfl
 ·intro k hk _
  rw [ix_ hk,bd_some,bd_some,a_7 hk]
  cases (l[k]==x) <;> rfl
theorem q_Y (hv:F_ d=true)(hd:SmD d)(hb:b.length<=400){n:Nat}(hn:500<=n){i:Nat}(hi:i<d.rules.length){p:Nat}(hp:p<=b.length){s:Str}(G:d.rules[i].kind=7)(hs:s.b=[42]) :
  ∃y,h_s n ⟨d,b,i,p⟩ d.rules[i]=some y/\Fits (a_Q d.rules b d.rules[i] p s) y:=by
 have hr:=a_r hv hi;generalize d.rules[i]=r at *
 have hk:=c_m hr.kind G;have hq:=b_i hk.1;unfold h_s a_Q H_
 rw [b_9 (show 0<r.kids.length by omega),iP_ (by omega),G]
 simp only [show ((7:Int)==5)=false from rfl,show ((7:Int)==6)=false from rfl,bF_,fF_,bQ_,fT_,bd_some]
 rw [m_O hv hd hb hn hp hk.1]
 cases hi:U_ b (C_ d.rules<|s_ r) p with
 | none =>
  simp only [bd3_some,m_Q,bd_some]
  exact ⟨_,rfl,rfl⟩
 | some m =>
  simp only [bd3_some,m_Q,bd_some]
  cases ht:a_H r.tags m with
  | none=>exact ⟨_,rfl,rfl⟩
  | some j =>
   have hj:=g_E ht
   simp only [nT_,bF_,fF_,bd_some]
   rw [dF_ (show ¬(j:Int)<0 by omega)]
   have hMX:=MXv
   rw [ia_ (x:=(j:Int)) (by omega) (by omega),show (j:Int)+1=((j+1:Nat):Int) by omega,ix_ (show j+1<r.kids.length by omega)]
   simp only [bF_,fF_,bd_some]
   refine ⟨_,rfl,?_⟩;unfold b_I;have hst:K_ r 0=⟨[42]⟩:=by unfold K_;rw [G];rfl
   have hkid:=hr.kids (r.kids.getD (j+1) 0)<|b_c (by omega)
   rw [iP_ (by rw [hst,hs])]
   show _=_
   rw [a_7 (show j+1<r.kids.length by omega)] at *
   rw [show ((r.kids[j+1].toNat:Nat):Int)=r.kids[j+1] by omega]
theorem m_R {r:e_}{s:Str}{rd:Int->Nat->RR}{k:Int}{p:Nat}(h:(K_ r 0).b ≠ s.b):b_I r s rd [k] 0 p=none:=g_B _ _ _ fun t _ ht=>by
 have:t=0:=by simp at ht;omega
 subst this;exact h
theorem q_Z (hv:F_ d=true)(hd:SmD d)(hb:b.length<=400){n:Nat}(hn:500<=n){i:Nat}(hi:i<d.rules.length){p:Nat}(hp:p<=b.length)(s:Str) :
  ∃y,f_M n ⟨d,b,i,p⟩ s=some y/\Fits (a_Q d.rules b d.rules[i] p s) y:=by
 have hr:=a_r hv hi;have hMX:=MXv;unfold f_M
 simp only
 rw [ix_ hi,bd_some]
 by_cases h5:d.rules[i].kind=5
 ·obtain ⟨y,h1,h2⟩:=q_W hv hd hb hn hi hp h5 (s:=s)
  rw [h5,h1]
  exact ⟨y,rfl,h2⟩
 rw [show (d.rules[i].kind==5)=false by simpa using h5]
 simp only [bF_,fF_]
 by_cases h6:d.rules[i].kind=6
 ·obtain ⟨y,h1,h2⟩:=q_X hv hd hb hn hi hp h6 (s:=s)
  rw [h6,h1]
  exact ⟨y,rfl,h2⟩
 rw [show (d.rules[i].kind==6)=false by simpa using h6]
 simp only [bF_,fF_]
 by_cases G:d.rules[i].kind=7
 ·by_cases hs:s.b=[42]
  ·obtain ⟨y,h1,h2⟩:=q_Y hv hd hb hn hi hp G hs
   rw [G,hs,h1]
   exact ⟨y,rfl,h2⟩
  ·rw [G,show (s.b==[42])=false by simpa using hs]
   refine ⟨_,rfl,?_⟩;have hst:K_ d.rules[i] 0=⟨[42]⟩:=by unfold K_;rw [G];rfl
   have:a_Q d.rules b d.rules[i] p s=none:=by
    unfold a_Q H_
    rw [iP_ (by omega),G]
    simp only [show ((7:Int)==5)=false from rfl,show ((7:Int)==6)=false from rfl,bF_,fF_,bQ_,fT_]
    cases U_ b (C_ d.rules<|s_ d.rules[i]) p with
    | none=>rfl
    | some m =>
     simp only
     cases a_H d.rules[i].tags m with
     | none=>rfl
     | some j=>exact m_R (by rw [hst];exact fun h=>hs h.symm)
   rw [this];rfl
 rw [show (d.rules[i].kind==7)=false by simpa using G]
 simp only [bF_,fF_,bd_some]
 by_cases H:d.rules[i].kind=8
 ·have hst:K_ d.rules[i] 0=⟨[63]⟩:=by unfold K_;rw [H];rfl
  have L:=c_n hr.kind<|.inl H
  rw [H]
  simp only [bQ_,fT_,bd_some]
  by_cases hs:s.b=[63]
  ·rw [hs]
   simp only [bQ_,fT_]
   unfold a_Q H_
   rw [iP_ (show 5<=d.rules[i].kind/\d.rules[i].kind<=9 by omega),H]
   simp only [show ((8:Int)==5)=false from rfl,show ((8:Int)==6)=false from rfl,show ((8:Int)==7)=false from rfl,bF_,fF_,bQ_,fT_]
   cases hc:b[p]? with
   | none =>
    have:b.length<=p:=List.getElem?_eq_none_iff.1 hc
    rw [dT_ (show (b.length:Int)<=(p:Int) by omega)]
    exact ⟨_,rfl,rfl⟩
   | some c =>
    have hlt:p<b.length:=(gS_.1 hc).1;have hbp:b[p]=c:=(gS_.1 hc).2;have hbc:byteI c=(c.toNat:Int):=rfl
    rw [dF_ (show ¬(b.length:Int)<=(p:Int) by omega),ix_ hlt,hbp]
    simp only [bF_,fF_,bd_some]
    rw [show (byteI c != byteI (1:UInt8)) = !decide (c=1) by unfold bne;rw [e_y]]
    by_cases h1:c=1
    ·subst h1
     rw [ia_ (x:=(p:Int)) (by omega) (by omega),b_7 (by omega)]
     refine ⟨_,rfl,?_⟩;have hkid:=hr.kids (d.rules[i].kids.getD 0 0)<|b_c (by omega)
     rw [iN_ (by decide),show UInt8.toNat 1=1 from rfl]
     simp only [List.replicate_succ,List.replicate_zero]
     unfold b_I
     rw [iP_ (by rw [hst,hs])]
     show _=_
     rw [a_7 (show 0<d.rules[i].kids.length by omega)] at *
     rw [show ((d.rules[i].kids[0].toNat:Nat):Int)=d.rules[i].kids[0] by omega]
     rfl
    ·rw [dF_ h1]
     refine ⟨_,rfl,?_⟩
     by_cases I:1<byteI c
     ·rw [iP_ I];rfl
     ·rw [iN_ I]
      have O:c.toNat=0:=by
       have:c.toNat ≠ 1:=fun h=>h1<|UInt8.toNat_inj.1 (by rw [h];rfl)
       omega
      rw [O];rfl
  ·rw [show (s.b==[63])=false by simpa using hs]
   refine ⟨_,rfl,?_⟩
   have:a_Q d.rules b d.rules[i] p s=none:=by
    unfold a_Q H_
    rw [iP_ (show 5<=d.rules[i].kind/\d.rules[i].kind<=9 by omega),H]
    simp only [show ((8:Int)==5)=false from rfl,show ((8:Int)==6)=false from rfl,show ((8:Int)==7)=false from rfl,bF_,fF_,bQ_,fT_]
    cases b[p]? with
    | none=>rfl
    | some c =>
     simp only
     by_cases I:1<byteI c
     ·rw [iP_ I]
     ·rw [iN_ I]
      have hbc:byteI c=(c.toNat:Int):=rfl;refine g_B _ _ _ fun t _ ht=>?_
      have:t=0:=by simp at ht;omega
      subst this
      rw [hst];exact fun h=>hs h.symm
   rw [this];rfl
 rw [show (d.rules[i].kind==8)=false by simpa using H]
 simp only [bF_,fF_,bd_some]
 by_cases J:d.rules[i].kind=9
 ·have hst:K_ d.rules[i] 0=⟨[43]⟩:=by unfold K_;rw [J];rfl
  have L:=c_n hr.kind<|.inr J;unfold a_Q H_
  rw [iP_ (show 5<=d.rules[i].kind/\d.rules[i].kind<=9 by omega),J]
  simp only [show ((9:Int)==5)=false from rfl,show ((9:Int)==6)=false from rfl,show ((9:Int)==7)=false from rfl,show ((9:Int)==8)=false from rfl,bF_,fF_,bQ_,fT_,bd_some]
  by_cases hs:s.b=[43]
  ·rw [hs,b_7 (by omega)]
   refine ⟨_,rfl,?_⟩;have hkid:=hr.kids (d.rules[i].kids.getD 0 0)<|b_c (by omega);unfold b_I
   rw [iP_ (show (K_ d.rules[i] 0).b=s.b by rw [hst,hs])]
   show _=_
   rw [a_7 (show 0<d.rules[i].kids.length by omega)] at *
   rw [show ((d.rules[i].kids[0].toNat:Nat):Int)=d.rules[i].kids[0] by omega]
  ·rw [show (s.b==[43])=false by simpa using hs,m_R (by rw [hst];exact fun h=>hs h.symm)]
   exact ⟨_,rfl,rfl⟩
 ·rw [show (d.rules[i].kind==9)=false by simpa using J]
  unfold a_Q
  rw [iN_ (show ¬(5<=d.rules[i].kind/\d.rules[i].kind<=9) by omega)]
  exact ⟨_,rfl,rfl⟩
end
end Go.Vw
