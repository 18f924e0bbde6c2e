
import Derived.Test.YtefljifhihogoaaGreatDoorVk
import Derived.Test.YtefljifhihogoaaGreatDoorVl
namespace Go.Vw
set_option linter.unusedVariables false
open Go.RowKit Dat
def c_z (r:f_)(s:Str)(rd:Int->Nat->RR):List Int->Nat->Nat->Option (Nat×Nat)
 | [],_,_=>none
 | k::ks,j,p=>if (a_c r j).b=s.b then some (k.toNat,p) else if (rd k p).2.2=0 then c_z r s rd ks (j+1) (rd k p).2.1 else none
def rdK (rs:List f_)(b:Bt)(k:Int)(p:Nat):RR:=rdW rs b k.toNat p
def b_v (rs:List f_)(b:Bt)(r:f_)(at_:Nat)(s:Str):Option (Nat×Nat) :=
 if 5<=r.kind/\r.kind<=9 then (match I_ rs b r at_ with | .inl _=>none | .inr x=>c_z r s (rdK rs b) x.2.1 0 x.2.2) else none
theorem j_r {r:f_}{s:Str}{rd:Int->Nat->RR}:∀(ks:List Int)(j p:Nat),(∀t,j<=t->t<j+ks.length->(a_c r t).b ≠ s.b)->c_z r s rd ks j p=none
 | [],_,_,_=>rfl
 | k::ks,j,p,h=>by
  unfold c_z
  rw [iN_ (h j (QAB _) (by simp)),j_r ks (j+1) _<|λt h1 h2=>h t (by omega) (by grind)]
  simp
theorem q_P {r:f_}{s:Str}{rd:Int->Nat->RR}{B:Nat}:∀(ks:List Int)(j p:Nat),(∀k∈ks,∀p,p<=B->(rd k p).2.1<=B)->p<=B->∀i q,c_z r s rd ks j p=some (i,q)->q<=B/\∃k∈ks,i=k.toNat
 | [],_,_,_,_,i,q,h=>by cases h
 | k::ks,j,p,hle,hp,i,q,h=>by
  unfold c_z at h
  split at h
  .grind
  split at h
  .obtain ⟨h1,k',h2,h3⟩:=q_P ks (j+1) _ (λk hk=>hle k<|mT_ _ hk) (hle k mS_ p hp) i q h
   grind
  grind
theorem n_O {ρ:Type}{r:f_}{s:Str}{rd:Int->Nat->RR}{body:Nat->Int->Option (Out Int ρ)}{g:Int->Option ρ}(fnd:Nat->Nat->ρ)(bad:ρ->Prop)(L:List Int)(B:Nat)(hle:∀k∈L,∀p,p<=B->(rd k p).2.1<=B)
  (hg:∀p,∃y,g p=some y/\bad y)
  (hb:∀j (hj:j<L.length) (p:Nat),p<=B->((a_c r j).b=s.b->body j (p:Int)=some (.ret<|fnd L[j].toNat p))/\((a_c r j).b ≠ s.b->(rd L[j] p).2.2=0->body j (p:Int)=some (.next ((rd L[j] p).2.1:Int)))/\((a_c r j).b ≠ s.b->(rd L[j] p).2.2 ≠ 0->∃y,body j (p:Int)=some (.ret y)/\bad y)) :
  ∀(m j p:Nat),j+m=L.length->p<=B->∃y,bd (k_ body m j (p:Int)) (el g some)=some y/\(match c_z r s rd (L.drop j) j p with | some (k,q)=>y=fnd k q | none=>bad y)
 | 0,j,p,hj,hp=>by
  rw [QBH (by omega)]
  exact hg p
 | m+1,j,p,hj,hp=>by
  have hlt:j<L.length:=by omega
  obtain ⟨h1,h2,h3⟩:=hb j hlt p hp
  rw [dC_ hlt]
  unfold c_z k_
  by_cases hs:(a_c r j).b=s.b
  .simp_all
  .rw [iN_ hs]
   by_cases hc:(rd L[j] p).2.2=0
   .rw [h2 hs hc,iP_ hc]
    exact n_O fnd bad L B hle hg hb m (j+1) _ (by omega)<|hle _ (gE_ hlt) p hp
   .obtain ⟨y,h4,h5⟩:=h3 hs hc
    simp_all
section
variable {d:d_}{b:Bt}
theorem n_P (hb:b.length<=400){r:f_}(hk:a_m d.rules r=true){at_:Nat}(ha:at_<=b.length)(h:¬(5<=r.kind/\r.kind<=9)∨(∃c,I_ d.rules b r at_ = .inl c)∨∃num st,I_ d.rules b r at_ = .inr (num,[],st)):∃a m x,g_p d r b at_=some (a,m,x)/\m.toNat=0:=by
 have hMX:=MXv;unfold g_p
 by_cases h6:r.kind=6
 .exfalso
  have hs:=e_F hk h6;unfold I_ at h
  grind
 rw [show (r.kind==6)=false by grind]
 simp only [bF_,fF_]
 by_cases V:r.kind=9
 .exfalso
  unfold I_ at h
  grind
 rw [show (r.kind==9)=false by grind]
 simp only [bF_,fF_]
 by_cases H:r.kind=8
 .rw [H]
  simp only [bQ_,fT_]
  unfold I_ at h
  rw [H] at h
  simp only [show ((8:Int)==5)=false from rfl,show ((8:Int)==6)=false from rfl,show ((8:Int)==7)=false from rfl,bF_,fF_,bQ_,fT_] at h
  cases hc:b[at_]? with
  | none =>
   have:b.length<=at_:=List.getElem?_eq_none_iff.1 hc
   rw [dF_ (show ¬(at_:Int)<(b.length:Int) by omega)]
   exact ⟨_,_,_,rfl,rfl⟩
  | some c =>
   have hlt:at_<b.length:=(gS_.1 hc).1;have hbc:b_ c=(c.toNat:Int):=rfl
   rw [hc] at h
   simp only at h
   have hne:c.toNat ≠ 1:=λh1=>by
    grind
   rw [dT_ (show (at_:Int)<(b.length:Int) by omega),ix_ hlt]
   have:b[at_]=c:=(gS_.1 hc).2
   rw [this]
   simp only [fT_,a_]
   rw [show (b_ c==b_ (1:UInt8))=false by grind]
   exact ⟨_,_,_,rfl,rfl⟩
 rw [show (r.kind==8)=false by grind]
 simp only [bF_,fF_]
 by_cases G:r.kind=5∨r.kind=7
 rotate_left
 .have L:(r.kind==5)=false:=by grind
  have O:(r.kind==7)=false:=by grind
  rw [L,O]
  exact ⟨_,_,_,rfl,rfl⟩
 have hlim:0<lim d.rules (p_ r)/\0<r.kids.length:=by
  rcases G with h | h
  .have:=d_6 hk h;omega
  .have:=d_m hk h;omega
 have hq:=c_8 hlim.1;have hint:=i_9 (b:=b) hq.1 hq.2 (by omega) ha
 have e57':(if (r.kind==5) then some (r.kind==5) else some (r.kind==7))=some true:=by
  grind
 rw [e57']
 simp only [a_,fT_]
 rw [b_W hlim.2,a_,hint]
 cases hi:U_ b (y_ d.rules<|p_ r) at_ with
 | none=>exact ⟨_,_,_,rfl,rfl⟩
 | some n =>
  simp only [a_E,nT_,bF_,fF_]
  have hrng:=c_p hq.2 hi
  rcases G with h5 | I
  .unfold I_ at h
   rw [h5,hi] at h
   simp only [bQ_,fT_] at h
   rw [h5]
   simp only [bQ_,fT_,a_]
   by_cases hn:40<n
   .rw [dF_ (show ¬n<=40 by omega)]
    exact ⟨_,_,_,rfl,rfl⟩
   .rw [iN_ hn] at h
    rw [dT_ (show n<=40 by omega)]
    rcases h with h | ⟨c,h⟩ | ⟨num,st,h⟩
    .omega
    .cases h
    .rw [Sum.inr.injEq,QAu,QAu] at h
     exact ⟨_,_,_,rfl,by have:=congrArg List.length h.2.1;grind⟩
  .unfold I_ at h
   rw [I,hi] at h
   simp only [show ((7:Int)==5)=false from rfl,show ((7:Int)==6)=false from rfl,bF_,fF_,bQ_,fT_] at h
   cases ht:b_9 r.tags n with
   | some j =>
    grind
   | none =>
    have J:b_S r n 0=some (a_n r n 0):=d_I (d_7 hk) n 0;have hit:a_n r n 0 = -1:=by grind [a_n]
    rw [J,hit,I]
    exact ⟨_,_,_,rfl,rfl⟩
def outS:Option (Nat×Nat)->Int×Int×Bool
 | some (k,q)=>((k:Int),(q:Int),true)
 | none=>(0,0,false)
theorem w_a (hv:D_ d=true)(hd:SmD d)(hb:b.length<=400){n:Nat}(hn:1000<=n){i:Nat}(hi:i<d.rules.length){at_:Nat}(ha:at_<=b.length)(s:Str):d_P n d i b at_ s=some (outS<|b_v d.rules b d.rules[i] at_ s):=by
 have hr:=a_P hv hi;have hlen:=(b_i hv).2
 have hno:(∃a m x,g_p d d.rules[i] b at_=some (a,m,x)/\m.toNat=0)->d_P n d i b at_ s=some (0,0,false):=by
  rintro ⟨a,m,x,h1,h2⟩;unfold d_P
  rw [ix_ hi,a_,h1]
  simp only [a_E]
  rw [h2];rfl
 unfold b_v
 by_cases hkk:5<=d.rules[i].kind/\d.rules[i].kind<=9
 rotate_left
 .rw [iN_ hkk]
  exact hno<|n_P hb hr.kind ha<|.inl hkk
 rw [iP_ hkk]
 cases hh:I_ d.rules b d.rules[i] at_ with
 | inl c=>exact hno<|n_P hb hr.kind ha<|.inr<|.inl ⟨c,hh⟩
 | inr y =>
  obtain ⟨num,ks,st⟩:=y
  simp only
  by_cases hne:ks=[]
  .subst hne;exact hno<|n_P hb hr.kind ha<|.inr<|.inr ⟨num,st,hh⟩
  obtain ⟨hitem,hst,_⟩:=m_5 hr.kind hkk hh;have hks:=i_f hr.kind hkk ha hh;have hpos:∀k∈ks,0<=k/\k<(i:Int):=λk hk=>hr.kids k<|hks.1 k hk
  have hE:Ent d b d.rules[i] at_ ks num:=⟨by grind,hkk.1,hkk.2⟩;unfold d_P
  rw [ix_ hi,a_,q_B hb hr.kind ha hE hne<|λk hk=>(hpos k hk).1]
  simp only [a_E,tN_]
  rw [← hst]
  have W:=hks.2.2.2.1
  obtain ⟨y,h1,h2⟩:=n_O (r:=d.rules[i]) (s:=s) (rd:=rdK d.rules b) (body:=λG=>(λH=>bd (b_S d.rules[i] num ((G:Nat):Int)) λI=>bd (g_q n d.rules[i] ((G:Nat):Int)) λJ=>if (J.b==s.b) then some (.ret (I,H,true)) else bd3 (e_L n d I b H) λV L O=>if (O != 0) then some (.ret (0,0,false)) else some (.next L)))
   (g:=λ_=>some (0,0,false)) (λk q=>((k:Int),(q:Int),true)) (λy=>y=(0,0,false)) ks b.length (λk hk p hp=>(c_9 hv k.toNat (by grind) p hp).2) (λ_=>⟨_,rfl,rfl⟩)
   (λj hj p hp=>by
    have hk:=hpos ks[j] (gE_ hj);have hrd:=h_q hv hd hb ks[j].toNat (by omega) n (by omega) p hp
    rw [show ((ks[j].toNat:Nat):Int)=ks[j] by omega] at hrd
    simp only [d_I (d_7 hr.kind),hitem j hj,m_8 (show 30<=n by omega) _ j (by omega),a_,hrd]
    unfold b_B
    simp only [a_E]
    refine ⟨λh=>?_,λh hc=>?_,λh hc=>?_⟩
    .grind
    .grind [rdK]
    .rw [iN_ (by grind),iP_ (by grind [rdK])];simp)
   ks.length 0 st (by omega) hks.2.2.1
  rw [QAP] at h2
  refine Eq.trans ?_<|h1.trans ?_
  .rfl
  .cases hs:c_z d.rules[i] s (rdK d.rules b) ks 0 st with
   | none=>rw [hs] at h2;simp only at h2;rw [h2];rfl
   | some kq=>obtain ⟨k,q⟩:=kq;rw [hs] at h2;simp only at h2;rw [h2];rfl
theorem q_Q (hv:D_ d=true){i:Nat}(hi:i<d.rules.length){at_:Nat}(ha:at_<=b.length){s:Str}{k q:Nat}(h:b_v d.rules b d.rules[i] at_ s=some (k,q)):k<i/\q<=b.length:=by
 have hr:=a_P hv hi;unfold b_v at h
 split at h
 .rename_i hkk
  cases hh:I_ d.rules b d.rules[i] at_ with
  | inl c=>grind
  | inr y =>
   obtain ⟨num,ks,st⟩:=y
   rw [hh] at h
   simp only at h
   have hks:=i_f hr.kind hkk ha hh;have hpos:∀k∈ks,0<=k/\k<(i:Int):=λk hk=>hr.kids k<|hks.1 k hk
   obtain ⟨h1,k',h2,rfl⟩:=q_P ks 0 st (λk hk p hp=>(c_9 hv k.toNat (by grind) p hp).2) hks.2.2.1 k q h
   grind
 grind
end
end Go.Vw
