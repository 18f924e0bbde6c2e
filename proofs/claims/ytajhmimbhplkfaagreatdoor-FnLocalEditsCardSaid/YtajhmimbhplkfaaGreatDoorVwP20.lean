
import Derived.Test.YtajhmimbhplkfaaGreatDoorVwP17
import Derived.Test.YtajhmimbhplkfaaGreatDoorVwP19
set_option linter.unusedVariables false
namespace Go.Vw
open Go.RowKit Dat
def b_g (r:e_) (s:Str) (rd:Int→Nat→RR):List Int→Nat→Nat→Option (Nat×Nat)
 | [],_,_=>none
 | k::ks,j,p=>if (a_z r j).b=s.b then some (k.toNat,p) else if (rd k p).2.2=0 then b_g r s rd ks (j+1) (rd k p).2.1 else none
def rdK (rs:List e_) (b:List UInt8) (k:Int) (p:Nat):RR:=rdW rs b k.toNat p
def a_N (rs:List e_) (b:List UInt8) (r:e_) (at_:Nat) (s:Str):Option (Nat×Nat) :=
 if 5≤r.kind∧r.kind≤9 then (match M_ rs b r at_ with | .inl _=>none | .inr x=>b_g r s (rdK rs b) x.2.1 0 x.2.2) else none
theorem g_g {r:e_} {s:Str} {rd:Int→Nat→RR} : ∀ (ks:List Int) (j p:Nat),(∀ t,j≤t→t<j+ks.length→(a_z r t).b ≠ s.b)→b_g r s rd ks j p=none
 | [],_,_,_=>rfl
 | k::ks,j,p,h=>by
  unfold b_g
  rw [iN_ (h j (Nat.le_refl _) (by simp)),g_g ks (j+1) _<|fun t h1 h2=>h t (by omega) (by simp;omega)]
  split <;> rfl
theorem l_H {r:e_} {s:Str} {rd:Int→Nat→RR} {B:Nat} : ∀ (ks:List Int) (j p:Nat),(∀ k∈ks,∀ p,p≤B→(rd k p).2.1≤B)→p≤B → ∀ i q,b_g r s rd ks j p=some (i,q)→q≤B ∧ ∃ k∈ks,i=k.toNat
 | [],_,_,_,_,i,q,h=>by cases h
 | k::ks,j,p,hle,hp,i,q,h=>by
  unfold b_g at h
  split at h
  ·cases h;exact ⟨hp,k,by simp,rfl⟩
  split at h
  ·obtain ⟨h1,k',h2,h3⟩:=l_H ks (j+1) _ (fun k hk=>hle k<|mT_ _ hk) (hle k mS_ p hp) i q h;exact ⟨h1,k',mT_ _ h2,h3⟩
  ·cases h
theorem j_X {ρ:Type} {r:e_} {s:Str} {rd:Int→Nat→RR} {body:Nat→Int→Option (Out Int ρ)} {g:Int→Option ρ} (fnd:Nat→Nat→ρ) (bad:ρ→Prop) (L:List Int) (B:Nat) (hle : ∀ k∈L,∀ p,p≤B→(rd k p).2.1≤B)
  (hg : ∀ p,∃ y,g p=some y∧bad y)
  (hb : ∀ j (hj:j<L.length) (p:Nat),p≤B→((a_z r j).b=s.b→body j (p:Int)=some (.ret<|fnd L[j].toNat p))∧((a_z r j).b ≠ s.b→(rd L[j] p).2.2=0→body j (p:Int)=some (.next ((rd L[j] p).2.1:Int)))∧((a_z r j).b ≠ s.b→(rd L[j] p).2.2 ≠ 0 → ∃ y,body j (p:Int)=some (.ret y)∧bad y)) :
  ∀ (m j p:Nat),j+m=L.length→p≤B → ∃ y,bd (E_ body m j (p:Int)) (el g some)=some y∧(match b_g r s rd (L.drop j) j p with | some (k,q)=>y=fnd k q | none=>bad y)
 | 0,j,p,hj,hp=>by
  rw [List.drop_eq_nil_of_le (by omega)]
  exact hg p
 | m+1,j,p,hj,hp=>by
  have hlt:j<L.length:=by omega
  obtain ⟨h1,h2,h3⟩:=hb j hlt p hp
  rw [dC_ hlt]
  unfold b_g E_
  by_cases hs:(a_z r j).b=s.b
  ·rw [h1 hs,iP_ hs];exact ⟨_,rfl,rfl⟩
  ·rw [iN_ hs]
   by_cases hc:(rd L[j] p).2.2=0
   ·rw [h2 hs hc,iP_ hc]
    exact j_X fnd bad L B hle hg hb m (j+1) _ (by omega)<|hle _ (gE_ hlt) p hp
   ·obtain ⟨y,h4,h5⟩:=h3 hs hc
    rw [h4,iN_ hc];exact ⟨y,rfl,h5⟩
section
variable {d:f_} {b:List UInt8}
theorem j_Y (hb:b.length≤400) {r:e_} (hk:a_n d.rules r=true) {at_:Nat} (ha:at_≤b.length) (h : ¬ (5≤r.kind∧r.kind≤9)∨(∃ c,M_ d.rules b r at_ = .inl c) ∨ ∃ num st,M_ d.rules b r at_ = .inr (num,[],st)) : ∃ a m x,e_1 d r b at_=some (a,m,x)∧m.toNat=0:=by
 have hMX:=MXv;unfold e_1
 by_cases h6:r.kind=6
 ·exfalso
  have hs:=d_W hk h6;unfold M_ at h
  rw [h6] at h
  simp only [show ((6:Int)==5)=false from rfl,bF_,fF_,bQ_,fT_] at h
  rcases h with h | ⟨c,h⟩ | ⟨num,st,h⟩
  ·omega
  ·cases h
  ·rw [Sum.inr.injEq,Prod.mk.injEq,Prod.mk.injEq] at h
   have:=hs.2.1
   rw [h.2.1] at this;simp at this
 rw [show (r.kind==6)=false by simpa using h6]
 simp only [bF_,fF_]
 by_cases h9:r.kind=9
 ·exfalso
  unfold M_ at h
  rw [h9] at h
  simp only [show ((9:Int)==5)=false from rfl,show ((9:Int)==6)=false from rfl,show ((9:Int)==7)=false from rfl,show ((9:Int)==8)=false from rfl,bF_,fF_] at h
  rcases h with h | ⟨c,h⟩ | ⟨num,st,h⟩
  ·omega
  ·cases h
  ·rw [Sum.inr.injEq,Prod.mk.injEq,Prod.mk.injEq] at h
   cases h.2.1
 rw [show (r.kind==9)=false by simpa using h9]
 simp only [bF_,fF_]
 by_cases h8:r.kind=8
 ·rw [h8]
  simp only [bQ_,fT_]
  unfold M_ at h
  rw [h8] at h
  simp only [show ((8:Int)==5)=false from rfl,show ((8:Int)==6)=false from rfl,show ((8:Int)==7)=false from rfl,bF_,fF_,bQ_,fT_] at h
  cases hc:b[at_]? with
  | none =>
   have:b.length≤at_:=List.getElem?_eq_none_iff.1 hc
   rw [dF_ (show ¬ (at_:Int)<(b.length:Int) by omega)]
   exact ⟨_,_,_,rfl,rfl⟩
  | some c =>
   have hlt:at_<b.length:=(gS_.1 hc).1;have hbc:byteI c=(c.toNat:Int):=rfl
   rw [hc] at h
   simp only at h
   have hne:c.toNat ≠ 1:=fun h1=>by
    rw [iN_ (by omega),h1] at h
    rcases h with h | ⟨c,h⟩ | ⟨num,st,h⟩
    ·omega
    ·cases h
    ·rw [Sum.inr.injEq,Prod.mk.injEq,Prod.mk.injEq] at h
     cases h.2.1
   rw [dT_ (show (at_:Int)<(b.length:Int) by omega),ix_ hlt]
   have:b[at_]=c:=(gS_.1 hc).2
   rw [this]
   simp only [fT_,bd_some]
   rw [show (byteI c==byteI (1:UInt8))=false by rw [e_s,dF_<|fun h=>hne (by rw [h];rfl)]]
   exact ⟨_,_,_,rfl,rfl⟩
 rw [show (r.kind==8)=false by simpa using h8]
 simp only [bF_,fF_]
 by_cases h57:r.kind=5∨r.kind=7
 rotate_left
 ·have e5:(r.kind==5)=false:=by simp;omega
  have e7:(r.kind==7)=false:=by simp;omega
  rw [e5,e7]
  exact ⟨_,_,_,rfl,rfl⟩
 have hlim:0<lim d.rules (t_ r)∧0<r.kids.length:=by
  rcases h57 with h | h
  ·have:=c_L hk h;exact ⟨this.1,by omega⟩
  ·have:=d_2 hk h;exact ⟨this.1,by omega⟩
 have hq:=b_h hlim.1;have hint:=f_8 (b:=b) hq.1 hq.2 (by omega) ha
 have e57':(if (r.kind==5)=true then some (r.kind==5) else some (r.kind==7))=some true:=by
  rcases h57 with h | h <;> rw [h] <;> rfl
 rw [e57']
 simp only [bd_some,fT_]
 rw [b_n hlim.2,bd_some,hint]
 cases hi:U_ b (F_ d.rules<|t_ r) at_ with
 | none=>exact ⟨_,_,_,rfl,rfl⟩
 | some n =>
  simp only [bd3_some,nT_,bF_,fF_]
  have hrng:=b_z hq.2 hi
  rcases h57 with h5 | h7
  ·unfold M_ at h
   rw [h5,hi] at h
   simp only [bQ_,fT_] at h
   rw [h5]
   simp only [bQ_,fT_,bd_some]
   by_cases hn:40<n
   ·rw [dF_ (show ¬ n≤40 by omega)]
    exact ⟨_,_,_,rfl,rfl⟩
   ·rw [iN_ hn] at h
    rw [dT_ (show n≤40 by omega)]
    rcases h with h | ⟨c,h⟩ | ⟨num,st,h⟩
    ·omega
    ·cases h
    ·rw [Sum.inr.injEq,Prod.mk.injEq,Prod.mk.injEq] at h
     exact ⟨_,_,_,rfl,by have:=congrArg List.length h.2.1;simpa using this⟩
  ·unfold M_ at h
   rw [h7,hi] at h
   simp only [show ((7:Int)==5)=false from rfl,show ((7:Int)==6)=false from rfl,bF_,fF_,bQ_,fT_] at h
   cases ht:a_G r.tags n with
   | some j =>
    rw [ht] at h
    simp only at h
    rcases h with h | ⟨c,h⟩ | ⟨num,st,h⟩
    ·omega
    ·cases h
    ·rw [Sum.inr.injEq,Prod.mk.injEq,Prod.mk.injEq] at h
     cases h.2.1
   | none =>
    have hl9:b_p r n 0=some (a_g r n 0):=d_V (e_u hk) n 0;have hit:a_g r n 0 = -1:=by unfold a_g;rw [h7,ht];rfl
    rw [hl9,hit,h7]
    exact ⟨_,_,_,rfl,rfl⟩
def outS:Option (Nat×Nat)→Int×Int×Bool
 | some (k,q)=>((k:Int),(q:Int),true)
 | none=>(0,0,false)
theorem p_h (hv:S_ d=true) (hd:SmD d) (hb:b.length≤400) {n:Nat} (hn:1000≤n) {i:Nat} (hi:i<d.rules.length) {at_:Nat} (ha:at_≤b.length) (s:Str):e_2 n d i b at_ s=some (outS<|a_N d.rules b d.rules[i] at_ s):=by
 have hr:=b_a hv hi;have hlen:=(b_V hv).2
 have hno:(∃ a m x,e_1 d d.rules[i] b at_=some (a,m,x)∧m.toNat=0)→e_2 n d i b at_ s=some (0,0,false):=by
  rintro ⟨a,m,x,h1,h2⟩;unfold e_2
  rw [ix_ hi,bd_some,h1]
  simp only [bd3_some]
  rw [h2];rfl
 unfold a_N
 by_cases hkk:5≤d.rules[i].kind∧d.rules[i].kind≤9
 rotate_left
 ·rw [iN_ hkk]
  exact hno<|j_Y hb hr.kind ha<|.inl hkk
 rw [iP_ hkk]
 cases hh:M_ d.rules b d.rules[i] at_ with
 | inl c=>exact hno<|j_Y hb hr.kind ha<|.inr<|.inl ⟨c,hh⟩
 | inr y =>
  obtain ⟨num,ks,st⟩:=y
  simp only
  by_cases hne:ks=[]
  ·subst hne;exact hno<|j_Y hb hr.kind ha<|.inr<|.inr ⟨num,st,hh⟩
  obtain ⟨hitem,hst,_⟩:=k_d hr.kind hkk hh;have hks:=e_v hr.kind hkk ha hh;have hpos : ∀ k∈ks,0≤k∧k<(i:Int):=fun k hk=>hr.kids k<|hks.1 k hk
  have hE:Ent d b d.rules[i] at_ ks num:=⟨by rw [hh,hst],hkk.1,hkk.2⟩;unfold e_2
  rw [ix_ hi,bd_some,p_5 hb hr.kind ha hE hne<|fun k hk=>(hpos k hk).1]
  simp only [bd3_some,tN_]
  rw [← hst]
  have h40:=hks.2.2.2.1
  obtain ⟨y,h1,h2⟩:=j_X (r:=d.rules[i]) (s:=s) (rd:=rdK d.rules b) (body:=fun k310=>(fun x305=>bd (b_p d.rules[i] num ((k310:Nat):Int)) fun r436=>bd (d_7 n d.rules[i] ((k310:Nat):Int)) fun r449=>if (r449.b==s.b)=true then some (.ret (r436,x305,true)) else bd3 (d_z n d r436 b x305) fun r490 r491 r492=>if (r492 != 0)=true then some (.ret (0,0,false)) else some (.next r491)))
   (g:=fun _=>some (0,0,false)) (fun k q=>((k:Int),(q:Int),true)) (fun y=>y=(0,0,false)) ks b.length (fun k hk p hp=>(a_X hv k.toNat (by have:=hpos k hk;omega) p hp).2) (fun _=>⟨_,rfl,rfl⟩)
   (fun j hj p hp=>by
    have hk:=hpos ks[j] (gE_ hj);have hrd:=i_v hv hd hb ks[j].toNat (by omega) n (by omega) p hp
    rw [show ((ks[j].toNat:Nat):Int)=ks[j] by omega] at hrd
    simp only [d_V (e_u hr.kind),hitem j hj,k_h (show 30≤n by omega) _ j (by omega),bd_some,hrd]
    unfold b_A
    simp only [bd3_some]
    refine ⟨fun h=>?_,fun h hc=>?_,fun h hc=>?_⟩
    ·rw [iP_ (by simpa using h),show ((ks[j].toNat:Nat):Int)=ks[j] by omega]
    ·rw [iN_ (by simpa using h),iN_ (by simpa [rdK] using hc)];rfl
    ·rw [iN_ (by simpa using h),iP_ (by simpa [rdK] using hc)];exact ⟨_,rfl,rfl⟩)
   ks.length 0 st (by omega) hks.2.2.1
  rw [List.drop_zero] at h2
  refine Eq.trans ?_<|h1.trans ?_
  ·rfl
  ·cases hs:b_g d.rules[i] s (rdK d.rules b) ks 0 st with
   | none=>rw [hs] at h2;simp only at h2;rw [h2];rfl
   | some kq=>obtain ⟨k,q⟩:=kq;rw [hs] at h2;simp only at h2;rw [h2];rfl
theorem j_Z (hv:S_ d=true) {i:Nat} (hi:i<d.rules.length) {at_:Nat} (ha:at_≤b.length) {s:Str} {k q:Nat} (h:a_N d.rules b d.rules[i] at_ s=some (k,q)):k<i∧q≤b.length:=by
 have hr:=b_a hv hi;unfold a_N at h
 split at h
 ·rename_i hkk
  cases hh:M_ d.rules b d.rules[i] at_ with
  | inl c=>rw [hh] at h;cases h
  | inr y =>
   obtain ⟨num,ks,st⟩:=y
   rw [hh] at h
   simp only at h
   have hks:=e_v hr.kind hkk ha hh;have hpos : ∀ k∈ks,0≤k∧k<(i:Int):=fun k hk=>hr.kids k<|hks.1 k hk
   obtain ⟨h1,k',h2,rfl⟩:=l_H ks 0 st (fun k hk p hp=>(a_X hv k.toNat (by have:=hpos k hk;omega) p hp).2) hks.2.2.1 k q h;have:=hpos k' h2;exact ⟨by omega,h1⟩
 ·cases h
end
end Go.Vw
