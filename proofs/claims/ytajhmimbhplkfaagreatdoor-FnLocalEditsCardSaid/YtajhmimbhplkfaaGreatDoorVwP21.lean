
import Derived.Test.YtajhmimbhplkfaaGreatDoorVwP20
set_option linter.unusedVariables false
namespace Go.Vw
open Go.RowKit Dat
theorem p_i {s:Str} {x:Int} (h:c_c s=(x,true)):0≤x∧x≤1000000000000∧Lib.itoa x=s.b:=by
 unfold c_c at h
 split at h
 ·rename_i hc
  cases h
  exact ⟨(f_5 _ hc.2.1).1,hc.2.2.1,hc.2.2.2⟩
 ·cases h
theorem k_0 {r:e_} (h:r.kind=5) (t:Nat):a_z r t=⟨Lib.itoa t⟩:=by unfold a_z;rw [h];rfl
section
variable {d:f_} {b:List UInt8}
def Fits (o:Option (Nat×Nat)) (y:Bool×Int×Int):Prop:=match o with
 | some (k,q)=>y=(true,(k:Int),(q:Int))
 | none=>y.1=false
theorem i_l (hv:S_ d=true) (hd:SmD d) (hb:b.length≤400) {n:Nat} (hn:500≤n) {i:Int} {p:Nat} (hp:p≤b.length) {k:Int} (h0:0≤k) (hk:k<d.rules.length) :
  c_N n ⟨d,b,i,p⟩ k=some ((rdK d.rules b k p).2.2==0,((rdK d.rules b k p).2.1:Int)):=by
 unfold c_N;have h:=q_8 (b:=b) hd hn k p;have hr:=p_6 (d:=d) (b:=b) hv hb (i:=k.toNat) (p:=p) (by omega) hp
 rw [show ((k.toNat:Nat):Int)=k by omega] at hr
 rw [hr] at h
 simp only
 rw [h]
 rfl
theorem p_j (hv:S_ d=true) {k:Int} (h0:0≤k) (hk:k<d.rules.length) {p:Nat} (hp:p≤b.length) (h1:d_U (F_ d.rules k)) :
  rdK d.rules b k p=(match U_ b (F_ d.rules k) p with | none=>(zV,p,1) | some n=>(⟨n,[],[]⟩,p+(F_ d.rules k).size.toNat,0)):=by
 unfold rdK
 rw [d_r hv (by omega) hp]
 have:d.rules[k.toNat]'(by omega)=F_ d.rules k:=by unfold F_;rw [gD_,gG_ (by omega)];rfl
 rw [this]
 unfold rdB
 rw [h1.1];rfl
theorem l_I (hv:S_ d=true) (hd:SmD d) (hb:b.length≤400) {n:Nat} (hn:500≤n) {i:Int} {p:Nat} (hp:p≤b.length) {k:Int} (hl:0<lim d.rules k) :
  f_u n ⟨d,b,i,p⟩ k=some (match U_ b (F_ d.rules k) p with | none=>(0,false,(p:Int)) | some x=>(x,true,((p+(F_ d.rules k).size.toNat:Nat):Int))):=by
 have hq:=b_h hl;obtain ⟨h0,_,hk⟩:=a_E hq.1;unfold f_u
 rw [i_l hv hd hb hn hp h0 hk,p_j hv h0 hk hp hq.2]
 simp only [bd2_some]
 cases hi:U_ b (F_ d.rules k) p with
 | none=>rfl
 | some x =>
  have hr:=b_z hq.2 hi
  simp only [bQ_,nT_,bF_,fF_]
  rw [c_e (by omega) hr.2.2,bd_some,hq.1,bd_some]
  have hs:=hq.2.2
  rw [j_V _ _ (by rw [c_K hr.2.2];omega),bd_some]
  unfold U_ at hi
  split at hi
  ·cases hi
  ·rw [Option.some.inj hi]
theorem l_J (hv:S_ d=true) (hd:SmD d) (hb:b.length≤400) {n:Nat} (hn:500≤n) {i:Int} {r:e_} {kid:Int} (hr:r.kind=5) (hkid:idx r.kids 1=some kid) (h0:0≤kid) (hk:kid<d.rules.length) {s:Str} :
  ∀ (m c j p f:Nat),m<c→c≤1000→m<f→p≤b.length→s.b=Lib.itoa ((j+m:Nat):Int) → ∃ y,bd (Y_ (σ:=Int×Int) (ρ:=Bool×Int×Int) (un2 fun x270 x272=>if (decide<|0<x270)=true then bd (idx r.kids 1) fun x340=>bd2 (c_N n (⟨d,b,i,x272⟩:a_Z) x340) fun r359 r362=>if (!r359)=true then some (.ret (false,i,r362)) else some (.next (D_ x270 1,r362)) else bd (idx r.kids 1) fun x393=>some<|.ret (true,x393,x272)) f ((m:Int),(p:Int))) (el (fun _=>none)<|fun r275=>some r275)=some y∧Fits (b_g r s (rdK d.rules b) (List.replicate c kid) j p) y
 | 0,c,j,p,f,hc,_,hf,hp,hs=>by
  obtain ⟨c,rfl⟩ : ∃ c',c=c'+1:=⟨c - 1,by omega⟩;obtain ⟨f,rfl⟩ : ∃ f',f=f'+1:=⟨f - 1,by omega⟩;unfold Y_
  simp only [un2]
  rw [dF_ (by omega),hkid]
  simp only [bF_,fF_,bd_some,el_inr]
  refine ⟨_,rfl,?_⟩
  rw [List.replicate_succ]
  unfold b_g
  rw [iP_ (by rw [k_0 hr,hs];rfl)]
  show _=_
  rw [show ((kid.toNat:Nat):Int)=kid by omega]
 | m+1,c,j,p,f,hc,hc2,hf,hp,hs=>by
  obtain ⟨c,rfl⟩ : ∃ c',c=c'+1:=⟨c - 1,by omega⟩;obtain ⟨f,rfl⟩ : ∃ f',f=f'+1:=⟨f - 1,by omega⟩;unfold Y_
  simp only [un2]
  rw [dT_ (by omega),hkid]
  simp only [fT_,bd_some]
  rw [i_l hv hd hb hn hp h0 hk]
  simp only [bd2_some]
  rw [List.replicate_succ]
  unfold b_g
  have hne : ¬ (a_z r j).b=s.b:=fun h=>by
   rw [k_0 hr,hs] at h
   have:=o_X h
   omega
  rw [iN_ hne]
  by_cases hok:(rdK d.rules b kid p).2.2=0
  ·rw [iP_ hok,hok]
   simp only [bQ_,nT_,bF_,fF_]
   have ih:=l_J hv hd hb hn hr hkid h0 hk (s:=s) (i:=i) m c (j+1) (rdK d.rules b kid p).2.1 f (by omega) (by omega) (by omega) (a_X hv kid.toNat (by omega) p hp).2 (by rw [hs];congr 2;omega)
   rw [hkid] at ih
   simp only [bd_some] at ih
   rw [a_r (by omega) (by omega),show ((m+1:Nat):Int) - 1=m by omega]
   exact ih
  ·rw [iN_ hok,show ((rdK d.rules b kid p).2.2==0)=false by simpa using hok]
   exact ⟨_,rfl,rfl⟩
theorem p_k (hv:S_ d=true) (hd:SmD d) (hb:b.length≤400) {n:Nat} (hn:500≤n) {i:Nat} (hi:i<d.rules.length) {p:Nat} (hp:p≤b.length) {s:Str} (h5:d.rules[i].kind=5) :
  ∃ y,g_W n ⟨d,b,i,p⟩ d.rules[i] s=some y∧Fits (a_N d.rules b d.rules[i] p s) y:=by
 have hr:=b_a hv hi;generalize d.rules[i]=r at *
 have hk:=c_L hr.kind h5;have hkid:=hr.kids (r.kids.getD 1 0)<|b_o (by omega);have hq:=b_h hk.1;unfold g_W a_N M_
 rw [l_y,b_n (show 0<r.kids.length by omega),iP_ (by omega),h5]
 simp only [bQ_,fT_]
 rcases hps:c_c s with ⟨x,ok⟩
 simp only [bd2_some,bd_some]
 rw [l_I hv hd hb hn hp hk.1]
 cases hi:U_ b (F_ d.rules<|t_ r) p with
 | none=>cases ok <;> exact ⟨_,rfl,rfl⟩
 | some m =>
  have hrng:=b_z hq.2 hi
  simp only [bd3_some]
  by_cases h40:40<m
  ·rw [iP_ h40,dT_ h40]
   cases ok <;> exact ⟨_,rfl,rfl⟩
  rw [iN_ h40,dF_ h40]
  simp only
  by_cases hin:ok=true∧x<m
  ·obtain ⟨rfl,hx⟩:=hin;obtain ⟨hx0,_,hs⟩:=p_i hps
   rw [dF_ (show ¬ m≤x by omega)]
   simp only [nT_,bF_,fF_,bd_some]
   have hid:idx r.kids 1=some (r.kids.getD 1 0):=by rw [g_o (by omega),a_l (by omega)]
   have:=l_J (s:=s) (b:=b) (i:=(i:Int)) hv hd hb hn h5 hid hkid.1 (by omega) x.toNat m.toNat 0 (p+(F_ d.rules<|t_ r).size.toNat) n (by omega) (by omega) (by omega) hrng.2.2 (by rw [← hs];congr 1;omega)
   rw [show ((x.toNat:Nat):Int)=x by omega] at this
   exact this
  ·have hnone:=g_g (r:=r) (s:=s) (rd:=rdK d.rules b) (List.replicate m.toNat (r.kids.getD 1 0)) 0 (p+(F_ d.rules (t_ r)).size.toNat) (fun t _ ht he=>by
    rw [k_0 h5] at he
    rw [List.length_replicate] at ht
    have e:s=⟨Lib.itoa t⟩:=by cases s;simp only at he;rw [he]
    have hpi:=p_0 t (by omega)
    rw [← e,hps] at hpi
    cases hpi
    exact hin ⟨rfl,by omega⟩)
   rw [hnone]
   cases ok with
   | false=>exact ⟨_,rfl,rfl⟩
   | true =>
    rw [dT_ (show m≤x by
     apply Int.not_lt.1;intro h;exact hin ⟨rfl,h⟩)]
    exact ⟨_,rfl,rfl⟩
theorem p_l (hv:S_ d=true) (hd:SmD d) (hb:b.length≤400) {n:Nat} (hn:500≤n) {i:Nat} (hi:i<d.rules.length) {p:Nat} (hp:p≤b.length) {s:Str} (h6:d.rules[i].kind=6) :
  ∃ y,g_X n ⟨d,b,i,p⟩ d.rules[i] s=some y∧Fits (a_N d.rules b d.rules[i] p s) y:=by
 have hr:=b_a hv hi;generalize d.rules[i]=r at *
 have hk:=d_W hr.kind h6;have hst : ∀ t (ht:t<r.names.length),a_z r t=r.names[t]:=fun t ht=>by unfold a_z;rw [h6,dT_ ht,a_l ht];rfl
 unfold g_X a_N M_
 rw [iP_ (by omega),h6]
 simp only [show ((6:Int)==5)=false from rfl,bF_,fF_,bQ_,fT_,l_k,bd_some]
 by_cases hh:c_F r.names s=true
 ·rw [hh]
  simp only [nT_,bF_,fF_]
  have:=j_X (r:=r) (s:=s) (rd:=rdK d.rules b) (body:=fun k217=>(fun x211=>bd (idx r.names ((k217:Nat):Int)) fun x316=>if (x316.b==s.b)=true then bd (idx r.kids ((k217:Nat):Int)) fun x356=>some (.ret (true,x356,x211)) else bd (α:=Bool×Int) (bd (idx r.kids ((k217:Nat):Int)) fun x439=>bd2 (c_N n (⟨d,b,i,x211⟩:a_Z) x439) fun r459 r462=>some (!r459,r462)) (un2 fun x417 x418=>if x417=true then some (.ret (false,(i:Int),x418)) else some (.next x418))))
   (g:=fun x211=>some (false,(i:Int),x211)) (fun k q=>(true,(k:Int),(q:Int))) (fun y=>y.1=false) r.kids b.length (fun k hk p hp=>(a_X hv k.toNat (by have:=hr.kids k hk;omega) p hp).2) (fun _=>⟨_,rfl,rfl⟩)
   (fun j hj p hp=>by
    have hkj:=hr.kids r.kids[j] (gE_ hj);have hjn:j<r.names.length:=by omega
    simp only [ix_ hjn,ix_ hj,bd_some]
    rw [hst j hjn,i_l hv hd hb hn hp hkj.1 (by omega)]
    simp only [bd2_some,bd_some,un2]
    refine ⟨fun h=>?_,fun h hc=>?_,fun h hc=>?_⟩
    ·rw [iP_ (by simpa using h),show ((r.kids[j].toNat:Nat):Int)=r.kids[j] by omega]
    ·rw [iN_ (by simpa using h),hc];rfl
    ·rw [iN_ (by simpa using h),show ((rdK d.rules b r.kids[j] p).2.2==0)=false by simpa using hc];exact ⟨_,rfl,rfl⟩) r.kids.length 0 p (by omega) hp
  rw [List.drop_zero] at this
  obtain ⟨y,h1,h2⟩:=this;refine ⟨y,?_,h2⟩
  rw [← hk.1]
  exact h1
 ·rw [show c_F r.names s=false by simpa using hh]
  have hne : ∀ t (ht:t<r.names.length),r.names[t].b ≠ s.b:=fun t ht he=>hh<|p_4.2 ⟨r.names[t],gE_ ht,he⟩
  rw [g_g r.kids 0 p (fun t _ ht=>by rw [hst t (by omega)];exact hne t (by omega))]
  obtain ⟨m,hm⟩ : ∃ m,r.names.length=m+1:=⟨r.names.length - 1,by omega⟩;have h0:0<r.names.length:=by omega
  rw [hm]
  unfold E_
  rw [ix_ h0,bd_some,iN_ (by simpa using hne 0 h0)]
  exact ⟨_,rfl,rfl⟩
theorem l_K (l:List Int) (x:Int):g_Y l x=some (match a_G l x with | some k=>(k:Int) | none=>-1):=by
 unfold g_Y i_J a_G
 rw [f_d (fun k=>l.getD k 0==x) (fun k=>(k:Int))]
 ·cases (List.range l.length).find? (fun k=>l.getD k 0==x) <;> rfl
 ·intro k hk _
  rw [ix_ hk,bd_some,bd_some,a_l hk]
  cases (l[k]==x) <;> rfl
theorem p_m (hv:S_ d=true) (hd:SmD d) (hb:b.length≤400) {n:Nat} (hn:500≤n) {i:Nat} (hi:i<d.rules.length) {p:Nat} (hp:p≤b.length) {s:Str} (h7:d.rules[i].kind=7) (hs:s.b=[42]) :
  ∃ y,g_Z n ⟨d,b,i,p⟩ d.rules[i]=some y∧Fits (a_N d.rules b d.rules[i] p s) y:=by
 have hr:=b_a hv hi;generalize d.rules[i]=r at *
 have hk:=d_2 hr.kind h7;have hq:=b_h hk.1;unfold g_Z a_N M_
 rw [b_n (show 0<r.kids.length by omega),iP_ (by omega),h7]
 simp only [show ((7:Int)==5)=false from rfl,show ((7:Int)==6)=false from rfl,bF_,fF_,bQ_,fT_,bd_some]
 rw [l_I hv hd hb hn hp hk.1]
 cases hi:U_ b (F_ d.rules<|t_ r) p with
 | none =>
  simp only [bd3_some,l_K,bd_some]
  exact ⟨_,rfl,rfl⟩
 | some m =>
  simp only [bd3_some,l_K,bd_some]
  cases ht:a_G r.tags m with
  | none=>exact ⟨_,rfl,rfl⟩
  | some j =>
   have hj:=i_u ht
   simp only [nT_,bF_,fF_,bd_some]
   rw [dF_ (show ¬ (j:Int)<0 by omega)]
   have hMX:=MXv
   rw [ia_ (x:=(j:Int)) (by omega) (by omega),show (j:Int)+1=((j+1:Nat):Int) by omega,ix_ (show j+1<r.kids.length by omega)]
   simp only [bF_,fF_,bd_some]
   refine ⟨_,rfl,?_⟩;unfold b_g;have hst:a_z r 0=⟨[42]⟩:=by unfold a_z;rw [h7];rfl
   have hkid:=hr.kids (r.kids.getD (j+1) 0)<|b_o (by omega)
   rw [iP_ (by rw [hst,hs])]
   show _=_
   rw [a_l (show j+1<r.kids.length by omega)] at *
   rw [show ((r.kids[j+1].toNat:Nat):Int)=r.kids[j+1] by omega]
theorem l_L {r:e_} {s:Str} {rd:Int→Nat→RR} {k:Int} {p:Nat} (h:(a_z r 0).b ≠ s.b):b_g r s rd [k] 0 p=none:=g_g _ _ _ fun t _ ht=>by
 have:t=0:=by simp at ht;omega
 subst this;exact h
theorem p_n (hv:S_ d=true) (hd:SmD d) (hb:b.length≤400) {n:Nat} (hn:500≤n) {i:Nat} (hi:i<d.rules.length) {p:Nat} (hp:p≤b.length) (s:Str) :
  ∃ y,f_v n ⟨d,b,i,p⟩ s=some y∧Fits (a_N d.rules b d.rules[i] p s) y:=by
 have hr:=b_a hv hi;have hMX:=MXv;unfold f_v
 simp only
 rw [ix_ hi,bd_some]
 by_cases h5:d.rules[i].kind=5
 ·obtain ⟨y,h1,h2⟩:=p_k hv hd hb hn hi hp h5 (s:=s)
  rw [h5,h1]
  exact ⟨y,rfl,h2⟩
 rw [show (d.rules[i].kind==5)=false by simpa using h5]
 simp only [bF_,fF_]
 by_cases h6:d.rules[i].kind=6
 ·obtain ⟨y,h1,h2⟩:=p_l hv hd hb hn hi hp h6 (s:=s)
  rw [h6,h1]
  exact ⟨y,rfl,h2⟩
 rw [show (d.rules[i].kind==6)=false by simpa using h6]
 simp only [bF_,fF_]
 by_cases h7:d.rules[i].kind=7
 ·by_cases hs:s.b=[42]
  ·obtain ⟨y,h1,h2⟩:=p_m hv hd hb hn hi hp h7 hs
   rw [h7,hs,h1]
   exact ⟨y,rfl,h2⟩
  ·rw [h7,show (s.b==[42])=false by simpa using hs]
   refine ⟨_,rfl,?_⟩;have hst:a_z d.rules[i] 0=⟨[42]⟩:=by unfold a_z;rw [h7];rfl
   have:a_N d.rules b d.rules[i] p s=none:=by
    unfold a_N M_
    rw [iP_ (by omega),h7]
    simp only [show ((7:Int)==5)=false from rfl,show ((7:Int)==6)=false from rfl,bF_,fF_,bQ_,fT_]
    cases U_ b (F_ d.rules<|t_ d.rules[i]) p with
    | none=>rfl
    | some m =>
     simp only
     cases a_G d.rules[i].tags m with
     | none=>rfl
     | some j=>exact l_L (by rw [hst];exact fun h=>hs h.symm)
   rw [this];rfl
 rw [show (d.rules[i].kind==7)=false by simpa using h7]
 simp only [bF_,fF_,bd_some]
 by_cases h8:d.rules[i].kind=8
 ·have hst:a_z d.rules[i] 0=⟨[63]⟩:=by unfold a_z;rw [h8];rfl
  have hk1:=c_x hr.kind<|.inl h8
  rw [h8]
  simp only [bQ_,fT_,bd_some]
  by_cases hs:s.b=[63]
  ·rw [hs]
   simp only [bQ_,fT_]
   unfold a_N M_
   rw [iP_ (show 5≤d.rules[i].kind∧d.rules[i].kind≤9 by omega),h8]
   simp only [show ((8:Int)==5)=false from rfl,show ((8:Int)==6)=false from rfl,show ((8:Int)==7)=false from rfl,bF_,fF_,bQ_,fT_]
   cases hc:b[p]? with
   | none =>
    have:b.length≤p:=List.getElem?_eq_none_iff.1 hc
    rw [dT_ (show (b.length:Int)≤(p:Int) by omega)]
    exact ⟨_,rfl,rfl⟩
   | some c =>
    have hlt:p<b.length:=(gS_.1 hc).1;have hbp:b[p]=c:=(gS_.1 hc).2;have hbc:byteI c=(c.toNat:Int):=rfl
    rw [dF_ (show ¬ (b.length:Int)≤(p:Int) by omega),ix_ hlt,hbp]
    simp only [bF_,fF_,bd_some]
    rw [show (byteI c != byteI (1:UInt8)) = !decide (c=1) by unfold bne;rw [e_s]]
    by_cases h1:c=1
    ·subst h1
     rw [ia_ (x:=(p:Int)) (by omega) (by omega),b_6 (by omega)]
     refine ⟨_,rfl,?_⟩;have hkid:=hr.kids (d.rules[i].kids.getD 0 0)<|b_o (by omega)
     rw [iN_ (by decide),show UInt8.toNat 1=1 from rfl]
     simp only [List.replicate_succ,List.replicate_zero]
     unfold b_g
     rw [iP_ (by rw [hst,hs])]
     show _=_
     rw [a_l (show 0<d.rules[i].kids.length by omega)] at *
     rw [show ((d.rules[i].kids[0].toNat:Nat):Int)=d.rules[i].kids[0] by omega]
     rfl
    ·rw [dF_ h1]
     refine ⟨_,rfl,?_⟩
     by_cases hc1:1<byteI c
     ·rw [iP_ hc1];rfl
     ·rw [iN_ hc1]
      have h0:c.toNat=0:=by
       have:c.toNat ≠ 1:=fun h=>h1<|UInt8.toNat_inj.1 (by rw [h];rfl)
       omega
      rw [h0];rfl
  ·rw [show (s.b==[63])=false by simpa using hs]
   refine ⟨_,rfl,?_⟩
   have:a_N d.rules b d.rules[i] p s=none:=by
    unfold a_N M_
    rw [iP_ (show 5≤d.rules[i].kind∧d.rules[i].kind≤9 by omega),h8]
    simp only [show ((8:Int)==5)=false from rfl,show ((8:Int)==6)=false from rfl,show ((8:Int)==7)=false from rfl,bF_,fF_,bQ_,fT_]
    cases b[p]? with
    | none=>rfl
    | some c =>
     simp only
     by_cases hc1:1<byteI c
     ·rw [iP_ hc1]
     ·rw [iN_ hc1]
      have hbc:byteI c=(c.toNat:Int):=rfl;refine g_g _ _ _ fun t _ ht=>?_
      have:t=0:=by simp at ht;omega
      subst this
      rw [hst];exact fun h=>hs h.symm
   rw [this];rfl
 rw [show (d.rules[i].kind==8)=false by simpa using h8]
 simp only [bF_,fF_,bd_some]
 by_cases h9:d.rules[i].kind=9
 ·have hst:a_z d.rules[i] 0=⟨[43]⟩:=by unfold a_z;rw [h9];rfl
  have hk1:=c_x hr.kind<|.inr h9;unfold a_N M_
  rw [iP_ (show 5≤d.rules[i].kind∧d.rules[i].kind≤9 by omega),h9]
  simp only [show ((9:Int)==5)=false from rfl,show ((9:Int)==6)=false from rfl,show ((9:Int)==7)=false from rfl,show ((9:Int)==8)=false from rfl,bF_,fF_,bQ_,fT_,bd_some]
  by_cases hs:s.b=[43]
  ·rw [hs,b_6 (by omega)]
   refine ⟨_,rfl,?_⟩;have hkid:=hr.kids (d.rules[i].kids.getD 0 0)<|b_o (by omega);unfold b_g
   rw [iP_ (show (a_z d.rules[i] 0).b=s.b by rw [hst,hs])]
   show _=_
   rw [a_l (show 0<d.rules[i].kids.length by omega)] at *
   rw [show ((d.rules[i].kids[0].toNat:Nat):Int)=d.rules[i].kids[0] by omega]
  ·rw [show (s.b==[43])=false by simpa using hs,l_L (by rw [hst];exact fun h=>hs h.symm)]
   exact ⟨_,rfl,rfl⟩
 ·rw [show (d.rules[i].kind==9)=false by simpa using h9]
  unfold a_N
  rw [iN_ (show ¬ (5≤d.rules[i].kind∧d.rules[i].kind≤9) by omega)]
  exact ⟨_,rfl,rfl⟩
end
end Go.Vw
