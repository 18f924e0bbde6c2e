
import Derived.Test.YtllmonllbkaflaaGreatDoorV8
import Derived.Test.YtllmonllbkaflaaGreatDoorV9
namespace Go.Vw
open Go.RowKit Dat
def c_e (r:b_)(s:Str)(rd:Int->Nat->RR):List Int->Nat->Nat->Option (Nat×Nat)
 | [],_,_=>none
 | k::ks,j,p=>if (a_0 r j).b=s.b then some (k.toNat,p) else if (rd k p).2.2=0 then c_e r s rd ks (j+1) (rd k p).2.1 else none
def rdK (rs:List b_)(b:Bt)(k:Int)(p:Nat):RR:=rdW rs b k.toNat p
def b_l (rs:List b_)(b:Bt)(r:b_)(at_:Nat)(s:Str):Option (Nat×Nat) :=
 if 5<=r.kind/\r.kind<=9 then (match F_ rs b r at_ with | .inl _=>none | .inr x=>c_e r s (rdK rs b) x.2.1 0 x.2.2) else none
theorem i_f {r:b_}{s:Str}{rd:Int->Nat->RR}:∀(ks:List Int)(j p:Nat),(∀t,j<=t->t<j+ks.length->(a_0 r t).b ≠ s.b)->c_e r s rd ks j p=none
 | [],_,_,_=>rfl
 | k::ks,j,p,h=>by
  unfold c_e
  rw [iN_ (h j (Nat.le_refl _) (by simp)),i_f ks (j+1) _<|λt h1 h2=>h t (by omega) (by simp;omega)]
  split <;> rfl
theorem o_o {r:b_}{s:Str}{rd:Int->Nat->RR}{B:Nat}:∀(ks:List Int)(j p:Nat),(∀k∈ks,∀p,p<=B->(rd k p).2.1<=B)->p<=B->∀i q,c_e r s rd ks j p=some (i,q)->q<=B/\∃k∈ks,i=k.toNat
 | [],_,_,_,_,i,q,h=>by cases h
 | k::ks,j,p,hle,hp,i,q,h=>by
  unfold c_e at h
  split at h
  .cases h;exact ⟨hp,k,by simp,rfl⟩
  split at h
  .obtain ⟨h1,k',h2,h3⟩:=o_o ks (j+1) _ (λk hk=>hle k<|mT_ _ hk) (hle k mS_ p hp) i q h;exact ⟨h1,k',mT_ _ h2,h3⟩
  .cases h
theorem m_d {ρ:Type}{r:b_}{s:Str}{rd:Int->Nat->RR}{body:Nat->Int->Option (Out Int ρ)}{g:Int->Option ρ}(fnd:Nat->Nat->ρ)(bad:ρ->Prop)(L:List Int)(B:Nat)(hle:∀k∈L,∀p,p<=B->(rd k p).2.1<=B)
  (hg:∀p,∃y,g p=some y/\bad y)
  (hb:∀j (hj:j<L.length) (p:Nat),p<=B->((a_0 r j).b=s.b->body j (p:Int)=some (.ret<|fnd L[j].toNat p))/\((a_0 r j).b ≠ s.b->(rd L[j] p).2.2=0->body j (p:Int)=some (.next ((rd L[j] p).2.1:Int)))/\((a_0 r j).b ≠ s.b->(rd L[j] p).2.2 ≠ 0->∃y,body j (p:Int)=some (.ret y)/\bad y)) :
  ∀(m j p:Nat),j+m=L.length->p<=B->∃y,bd (p_ body m j (p:Int)) (el g some)=some y/\(match c_e r s rd (L.drop j) j p with | some (k,q)=>y=fnd k q | none=>bad y)
 | 0,j,p,hj,hp=>by
  rw [List.drop_eq_nil_of_le (by omega)]
  exact hg p
 | m+1,j,p,hj,hp=>by
  have hlt:j<L.length:=by omega
  obtain ⟨h1,h2,h3⟩:=hb j hlt p hp
  rw [dC_ hlt]
  unfold c_e p_
  by_cases hs:(a_0 r j).b=s.b
  .rw [h1 hs,iP_ hs];exact ⟨_,rfl,rfl⟩
  .rw [iN_ hs]
   by_cases hc:(rd L[j] p).2.2=0
   .rw [h2 hs hc,iP_ hc]
    exact m_d fnd bad L B hle hg hb m (j+1) _ (by omega)<|hle _ (gE_ hlt) p hp
   .obtain ⟨y,h4,h5⟩:=h3 hs hc
    rw [h4,iN_ hc];exact ⟨y,rfl,h5⟩
section
variable {d:c_}{b:Bt}
theorem m_e (hb:b.length<=400){r:b_}(hk:a_q d.rules r=true){at_:Nat}(ha:at_<=b.length)(h:¬(5<=r.kind/\r.kind<=9)∨(∃c,F_ d.rules b r at_ = .inl c)∨∃num st,F_ d.rules b r at_ = .inr (num,[],st)):∃a m x,f_f d r b at_=some (a,m,x)/\m.toNat=0:=by
 have hMX:=MXv;unfold f_f
 by_cases h6:r.kind=6
 .exfalso
  have hs:=e_2 hk h6;unfold F_ at h
  rw [h6] at h
  simp only [show ((6:Int)==5)=false from rfl,bF_,fF_,bQ_,fT_] at h
  rcases h with h | ⟨c,h⟩ | ⟨num,st,h⟩
  .omega
  .cases h
  .rw [Sum.inr.injEq,Prod.mk.injEq,Prod.mk.injEq] at h
   have:=hs.2.1
   rw [h.2.1] at this;simp at this
 rw [show (r.kind==6)=false by simpa using h6]
 simp only [bF_,fF_]
 by_cases J:r.kind=9
 .exfalso
  unfold F_ at h
  rw [J] at h
  simp only [show ((9:Int)==5)=false from rfl,show ((9:Int)==6)=false from rfl,show ((9:Int)==7)=false from rfl,show ((9:Int)==8)=false from rfl,bF_,fF_] at h
  rcases h with h | ⟨c,h⟩ | ⟨num,st,h⟩
  .omega
  .cases h
  .rw [Sum.inr.injEq,Prod.mk.injEq,Prod.mk.injEq] at h
   cases h.2.1
 rw [show (r.kind==9)=false by simpa using J]
 simp only [bF_,fF_]
 by_cases H:r.kind=8
 .rw [H]
  simp only [bQ_,fT_]
  unfold F_ at h
  rw [H] at h
  simp only [show ((8:Int)==5)=false from rfl,show ((8:Int)==6)=false from rfl,show ((8:Int)==7)=false from rfl,bF_,fF_,bQ_,fT_] at h
  cases hc:b[at_]? with
  | none =>
   have:b.length<=at_:=List.getElem?_eq_none_iff.1 hc
   rw [dF_ (show ¬(at_:Int)<(b.length:Int) by omega)]
   exact ⟨_,_,_,rfl,rfl⟩
  | some c =>
   have hlt:at_<b.length:=(gS_.1 hc).1;have hbc:byteI c=(c.toNat:Int):=rfl
   rw [hc] at h
   simp only at h
   have hne:c.toNat ≠ 1:=λh1=>by
    rw [iN_ (by omega),h1] at h
    rcases h with h | ⟨c,h⟩ | ⟨num,st,h⟩
    .omega
    .cases h
    .rw [Sum.inr.injEq,Prod.mk.injEq,Prod.mk.injEq] at h
     cases h.2.1
   rw [dT_ (show (at_:Int)<(b.length:Int) by omega),ix_ hlt]
   have:b[at_]=c:=(gS_.1 hc).2
   rw [this]
   simp only [fT_,bd_some]
   rw [show (byteI c==byteI (1:UInt8))=false by rw [f_5,dF_<|λh=>hne (by rw [h];rfl)]]
   exact ⟨_,_,_,rfl,rfl⟩
 rw [show (r.kind==8)=false by simpa using H]
 simp only [bF_,fF_]
 by_cases G:r.kind=5∨r.kind=7
 rotate_left
 .have O:(r.kind==5)=false:=by simp;omega
  have V:(r.kind==7)=false:=by simp;omega
  rw [O,V]
  exact ⟨_,_,_,rfl,rfl⟩
 have hlim:0<lim d.rules (n_ r)/\0<r.kids.length:=by
  rcases G with h | h
  .have:=c_E hk h;exact ⟨this.1,by omega⟩
  .have:=c_P hk h;exact ⟨this.1,by omega⟩
 have hq:=b_L hlim.1;have hint:=h_d (b:=b) hq.1 hq.2 (by omega) ha
 have e57':(if (r.kind==5) then some (r.kind==5) else some (r.kind==7))=some true:=by
  rcases G with h | h <;> rw [h] <;> rfl
 rw [e57']
 simp only [bd_some,fT_]
 rw [b_G hlim.2,bd_some,hint]
 cases hi:O_ b (w_ d.rules<|n_ r) at_ with
 | none=>exact ⟨_,_,_,rfl,rfl⟩
 | some n =>
  simp only [bd3_some,nT_,bF_,fF_]
  have hrng:=b_W hq.2 hi
  rcases G with h5 | I
  .unfold F_ at h
   rw [h5,hi] at h
   simp only [bQ_,fT_] at h
   rw [h5]
   simp only [bQ_,fT_,bd_some]
   by_cases hn:40<n
   .rw [dF_ (show ¬n<=40 by omega)]
    exact ⟨_,_,_,rfl,rfl⟩
   .rw [iN_ hn] at h
    rw [dT_ (show n<=40 by omega)]
    rcases h with h | ⟨c,h⟩ | ⟨num,st,h⟩
    .omega
    .cases h
    .rw [Sum.inr.injEq,Prod.mk.injEq,Prod.mk.injEq] at h
     exact ⟨_,_,_,rfl,by have:=congrArg List.length h.2.1;simpa using this⟩
  .unfold F_ at h
   rw [I,hi] at h
   simp only [show ((7:Int)==5)=false from rfl,show ((7:Int)==6)=false from rfl,bF_,fF_,bQ_,fT_] at h
   cases ht:a_V r.tags n with
   | some j =>
    rw [ht] at h
    simp only at h
    rcases h with h | ⟨c,h⟩ | ⟨num,st,h⟩
    .omega
    .cases h
    .rw [Sum.inr.injEq,Prod.mk.injEq,Prod.mk.injEq] at h
     cases h.2.1
   | none =>
    have L:b_9 r n 0=some (X_ r n 0):=c_D (c_F hk) n 0;have hit:X_ r n 0 = -1:=by unfold X_;rw [I,ht];rfl
    rw [L,hit,I]
    exact ⟨_,_,_,rfl,rfl⟩
def outS:Option (Nat×Nat)->Int×Int×Bool
 | some (k,q)=>((k:Int),(q:Int),true)
 | none=>(0,0,false)
theorem t_d (hv:D_ d=true)(hd:SmD d)(hb:b.length<=400){n:Nat}(hn:1000<=n){i:Nat}(hi:i<d.rules.length){at_:Nat}(ha:at_<=b.length)(s:Str):d_g n d i b at_ s=some (outS<|b_l d.rules b d.rules[i] at_ s):=by
 have hr:=a_L hv hi;have hlen:=(b_f hv).2
 have hno:(∃a m x,f_f d d.rules[i] b at_=some (a,m,x)/\m.toNat=0)->d_g n d i b at_ s=some (0,0,false):=by
  rintro ⟨a,m,x,h1,h2⟩;unfold d_g
  rw [ix_ hi,bd_some,h1]
  simp only [bd3_some]
  rw [h2];rfl
 unfold b_l
 by_cases hkk:5<=d.rules[i].kind/\d.rules[i].kind<=9
 rotate_left
 .rw [iN_ hkk]
  exact hno<|m_e hb hr.kind ha<|.inl hkk
 rw [iP_ hkk]
 cases hh:F_ d.rules b d.rules[i] at_ with
 | inl c=>exact hno<|m_e hb hr.kind ha<|.inr<|.inl ⟨c,hh⟩
 | inr y =>
  obtain ⟨num,ks,st⟩:=y
  simp only
  by_cases hne:ks=[]
  .subst hne;exact hno<|m_e hb hr.kind ha<|.inr<|.inr ⟨num,st,hh⟩
  obtain ⟨hitem,hst,_⟩:=k_A hr.kind hkk hh;have hks:=h_f hr.kind hkk ha hh;have hpos:∀k∈ks,0<=k/\k<(i:Int):=λk hk=>hr.kids k<|hks.1 k hk
  have hE:Ent d b d.rules[i] at_ ks num:=⟨by rw [hh,hst],hkk.1,hkk.2⟩;unfold d_g
  rw [ix_ hi,bd_some,o_9 hb hr.kind ha hE hne<|λk hk=>(hpos k hk).1]
  simp only [bd3_some,tN_]
  rw [← hst]
  have W:=hks.2.2.2.1
  obtain ⟨y,h1,h2⟩:=m_d (r:=d.rules[i]) (s:=s) (rd:=rdK d.rules b) (body:=λG=>(λH=>bd (b_9 d.rules[i] num ((G:Nat):Int)) λI=>bd (e_6 n d.rules[i] ((G:Nat):Int)) λJ=>if (J.b==s.b) then some (.ret (I,H,true)) else bd3 (e_7 n d I b H) λV L O=>if (O != 0) then some (.ret (0,0,false)) else some (.next L)))
   (g:=λ_=>some (0,0,false)) (λk q=>((k:Int),(q:Int),true)) (λy=>y=(0,0,false)) ks b.length (λk hk p hp=>(b_M hv k.toNat (by have:=hpos k hk;omega) p hp).2) (λ_=>⟨_,rfl,rfl⟩)
   (λj hj p hp=>by
    have hk:=hpos ks[j] (gE_ hj);have hrd:=g_c hv hd hb ks[j].toNat (by omega) n (by omega) p hp
    rw [show ((ks[j].toNat:Nat):Int)=ks[j] by omega] at hrd
    simp only [c_D (c_F hr.kind),hitem j hj,i_p (show 30<=n by omega) _ j (by omega),bd_some,hrd]
    unfold b_p
    simp only [bd3_some]
    refine ⟨λh=>?_,λh hc=>?_,λh hc=>?_⟩
    .rw [iP_ (by simpa using h),show ((ks[j].toNat:Nat):Int)=ks[j] by omega]
    .rw [iN_ (by simpa using h),iN_ (by simpa [rdK] using hc)];rfl
    .rw [iN_ (by simpa using h),iP_ (by simpa [rdK] using hc)];exact ⟨_,rfl,rfl⟩)
   ks.length 0 st (by omega) hks.2.2.1
  rw [List.drop_zero] at h2
  refine Eq.trans ?_<|h1.trans ?_
  .rfl
  .cases hs:c_e d.rules[i] s (rdK d.rules b) ks 0 st with
   | none=>rw [hs] at h2;simp only at h2;rw [h2];rfl
   | some kq=>obtain ⟨k,q⟩:=kq;rw [hs] at h2;simp only at h2;rw [h2];rfl
theorem o_p (hv:D_ d=true){i:Nat}(hi:i<d.rules.length){at_:Nat}(ha:at_<=b.length){s:Str}{k q:Nat}(h:b_l d.rules b d.rules[i] at_ s=some (k,q)):k<i/\q<=b.length:=by
 have hr:=a_L hv hi;unfold b_l at h
 split at h
 .rename_i hkk
  cases hh:F_ d.rules b d.rules[i] at_ with
  | inl c=>rw [hh] at h;cases h
  | inr y =>
   obtain ⟨num,ks,st⟩:=y
   rw [hh] at h
   simp only at h
   have hks:=h_f hr.kind hkk ha hh;have hpos:∀k∈ks,0<=k/\k<(i:Int):=λk hk=>hr.kids k<|hks.1 k hk
   obtain ⟨h1,k',h2,rfl⟩:=o_o ks 0 st (λk hk p hp=>(b_M hv k.toNat (by have:=hpos k hk;omega) p hp).2) hks.2.2.1 k q h;have:=hpos k' h2;exact ⟨by omega,h1⟩
 .cases h
end
end Go.Vw
