
import Derived.Test.YtbhbfaljeoeciaaGreatDoorVi
namespace Go.Vw
open Go.RowKit Dat
section
variable {d:c_}{r:g_}{v:Val}
theorem b_k (A B C:Bool):bd (if A=true then if B=true then some C else some false else some false) (fun x=>some x)=some (A && (B && C)):=by cases A <;> cases B <;> rfl
theorem q_y (hk:a_i d.rules r=true)(G:r.kind=7){n:Int}(h:0<=N_ r n 0):0<=n/\n<=lim d.rules (s_ r):=by
 unfold N_ at h
 rw [G] at h
 simp only [Int.reduceBEq,bF_,fF_,fT_] at h
 cases ht:b_6 r.tags n with
 | none=>rw [ht] at h;simp at h
 | some k =>
  unfold b_6 at ht
  have H:=List.mem_of_find?_eq_some ht;have I:=List.find?_some ht;have hkl:=List.mem_range.1 H;have J:r.tags.getD k 0=n:=by simpa using I
  rw [W_ hkl] at J
  unfold a_i at hk
  rw [G] at hk
  simp only [Int.reduceBEq,bF_,fF_,fT_,aE_] at hk
  have h3:=hk.2.2
  rw [Bool.not_eq_true',List.any_eq_false] at h3
  have:=h3 k<|List.mem_range.2 hkl
  rw [g_s hkl] at this
  simp only [Bool.or_eq_true,Bool.not_eq_true',Bool.and_eq_false_iff,decide_eq_false_iff_not,not_or] at this
  omega
theorem q_z (hd:d.rules.length<=MX)(hk:a_i d.rules r=true):∃t,e_r d r v=some t/\(t=true ↔ Own d.rules r v):=by
 have hkk:=c_i hk;have hall:=d_Q hk;have hc:r.kind=1∨r.kind=2∨r.kind=3∨r.kind=4∨r.kind=10∨r.kind=5∨r.kind=6∨r.kind=7∨r.kind=8∨r.kind=9:=by omega
 unfold e_r
 rcases hc with h | h | h | h | h | h | h | h | h | h
 ·obtain ⟨_,h1,h4⟩:=c_u hk h;obtain ⟨x,G,H⟩:=k_8 h1 h4
  simp only [h,Int.reduceBEq,fT_,bd_some,G,b_j,H,b_k]
  exact ⟨_,rfl,by simp [Own,h,and_assoc]⟩
 ·simp only [h,Int.reduceBEq,bF_,fF_,fT_,b_k]
  exact ⟨_,rfl,by simp [Own,h]⟩
 ·simp only [h,Int.reduceBEq,bF_,fF_,fT_,b_k]
  exact ⟨_,rfl,by simp [Own,h]⟩
 ·have hl:=(d_v hk h).2;have hx:idx r.kids 0=some (s_ r):=by rw [a_W (by omega)];unfold s_;rw [W_ (by omega)]
  simp only [h,Int.reduceBEq,bF_,fF_,fT_,bd_some,hx,f_7 _ _ hd,i_U,b_k]
  refine ⟨_,rfl,?_⟩;have:(v.bytes.length:Int)<=min 400 (lim d.rules<|s_ r) ↔ (v.bytes.length:Int)<=400/\(v.bytes.length:Int)<=lim d.rules (s_ r):=by omega
  simp only [Own,h,aE_,dE_,beq_iff_eq,this]
  simp [and_assoc]
 ·simp only [h,Int.reduceBEq,bF_,fF_,fT_,b_k]
  exact ⟨_,rfl,by simp [Own,h]⟩
 ·have hl:=(c_v hk h).2;have hx:idx r.kids 0=some (s_ r):=by rw [a_W (by omega)];unfold s_;rw [W_ (by omega)]
  simp only [h,Int.reduceBEq,bF_,fF_,fT_,bd_some,hx,f_7 _ _ hd,i_U,b_k]
  refine ⟨_,rfl,?_⟩;have:(v.items.length:Int)<=min 40 (lim d.rules<|s_ r) ↔ (v.items.length:Int)<=40/\(v.items.length:Int)<=lim d.rules (s_ r):=by omega
  simp only [Own,h,aE_,dE_,beq_iff_eq,this]
  simp
 ·simp only [h,Int.reduceBEq,bF_,fF_,fT_,b_k]
  exact ⟨_,rfl,by simp [Own,h];omega⟩
 ·have hi:b_d r v.number 0=some (N_ r v.number 0):=c_L hkk v.number 0
  simp only [h,Int.reduceBEq,bF_,fF_,fT_,bd_some,hi,b_k]
  refine ⟨_,rfl,?_⟩;have:=q_y hk h (n:=v.number)
  simp [Own,h]
  constructor
  ·rintro ⟨a,b,c⟩;exact ⟨(this c).1,(this c).2,a,by omega,c⟩
  ·rintro ⟨_,_,a,b,c⟩;exact ⟨a,by omega,c⟩
 ·simp only [h,Int.reduceBEq,bF_,fF_,fT_,b_k]
  exact ⟨_,rfl,by simp [Own,h];omega⟩
 ·simp only [h,Int.reduceBEq,bF_,fF_,b_k]
  exact ⟨_,rfl,by simp [Own,h];omega⟩
def b_W (rs:List g_)(r:g_)(v:Val):Prop:=Own rs r v∨(r.kind=7/\0<=v.number/\v.number<=lim rs (s_ r)/\v.bytes=[]/\v.items.length=1)
theorem q_A (hd:SmD d){i:Nat}(hi:i<d.rules.length)(hr:d.rules[i]=r)(hk:a_i d.rules r=true):∃t,h_u d (i:Int) v=some t/\(t=true ↔ b_W d.rules r v):=by
 have hkk:=c_i hk;have hall:=d_Q hk;have hc:r.kind=1∨r.kind=2∨r.kind=3∨r.kind=4∨r.kind=10∨r.kind=5∨r.kind=6∨r.kind=7∨r.kind=8∨r.kind=9:=by omega
 unfold h_u
 rw [ix_ hi,hr,bd_some]
 rcases hc with h | h | h | h | h | h | h | h | h | h
 ·obtain ⟨_,h1,h4⟩:=c_u hk h;have hl:lim d.rules (i:Int)=256 ^ r.size.toNat - 1:=by unfold lim;rw [ix_ hi,hr];simp only;rw [iP_ ⟨h,h1,h4⟩]
  simp only [h,Int.reduceBEq,bF_,fF_,fT_,bd_some,el_inl,un3,b_z,f_6,hl,b_k]
  refine ⟨_,rfl,?_⟩
  simp [b_W,Own,h,and_assoc]
 ·simp only [h,Int.reduceBEq,bF_,fF_,bd_some,el_inl,un2,un3,b_z,b_k]
  refine ⟨_,rfl,?_⟩
  simp [b_W,Own,h];omega
 ·simp only [h,Int.reduceBEq,bF_,fF_,fT_,bd_some]
  by_cases hs:(v.bytes.length:Int)=r.size
  ·simp only [show ((v.bytes.length:Int) != r.size)=false by simp [hs],bF_,fF_,bd_some,el_inl,un3,b_z,b_k]
   refine ⟨_,rfl,?_⟩
   simp [b_W,Own,h,hs];omega
  ·rw [show ((v.bytes.length:Int) != r.size)=true by simp [hs],iP_ rfl]
   refine ⟨false,rfl,?_⟩
   simp [b_W,Own,h,hs]
 ·have hl:=(d_v hk h).2;have hx:idx r.kids 0=some (s_ r):=by rw [a_W (by omega)];unfold s_;rw [W_ (by omega)]
  simp only [h,Int.reduceBEq,bF_,fF_,fT_,bd_some,el_inl,un3,b_z,hx,f_6,m_H,b_k]
  refine ⟨_,rfl,?_⟩;have:(v.bytes.length:Int)<=min 400 (lim d.rules<|s_ r) ↔ (v.bytes.length:Int)<=400/\(v.bytes.length:Int)<=lim d.rules (s_ r):=by omega
  simp only [b_W,Own,h,aE_,dE_,this]
  simp [and_assoc]
  exact ⟨fun ⟨a,b,c,e,f⟩=>⟨by omega,c,e,f⟩,fun ⟨a,c,e,f⟩=>⟨by omega,by omega,c,e,f⟩⟩
 ·simp only [h,Int.reduceBEq,bF_,fF_,fT_,bd_some,el_inl,un3,b_z,b_k]
  refine ⟨_,rfl,?_⟩
  simp [b_W,Own,h];omega
 ·have hl:=(c_v hk h).2;have hx:idx r.kids 0=some (s_ r):=by rw [a_W (by omega)];unfold s_;rw [W_ (by omega)]
  simp only [h,Int.reduceBEq,bF_,fF_,fT_,bd_some,el_inl,un2,un3,b_z,hx,f_6,m_H,b_k]
  refine ⟨_,rfl,?_⟩;have:(v.items.length:Int)<=min 40 (lim d.rules<|s_ r) ↔ (v.items.length:Int)<=40/\(v.items.length:Int)<=lim d.rules (s_ r):=by omega
  simp only [b_W,Own,h,aE_,dE_,this]
  simp;omega
 ·simp only [h,Int.reduceBEq,bF_,fF_,fT_,bd_some,el_inl,un2,un3,b_z]
  by_cases hs:v.items.length=r.kids.length
  ·simp only [show ((v.items.length:Int) != (r.kids.length:Int))=false by simp [hs],bF_,fF_,b_k]
   refine ⟨_,rfl,?_⟩
   simp [b_W,Own,h,hs];omega
  ·rw [show ((v.items.length:Int) != (r.kids.length:Int))=true by simpa using (by omega:¬(v.items.length:Int)=(r.kids.length:Int)),iP_ rfl]
   refine ⟨false,rfl,?_⟩
   simp [b_W,Own,h,hs]
 ·have hl:=(c_M hk h).2.1;have hx:idx r.kids 0=some (s_ r):=by rw [a_W (by omega)];unfold s_;rw [W_ (by omega)]
  simp only [h,Int.reduceBEq,bF_,fF_,fT_,bd_some,el_inl,un2,un3,b_z,hx,f_6]
  by_cases hs:v.items.length=1
  ·simp only [show ((v.items.length:Int) != 1)=false by simp [hs],bF_,fF_,b_k]
   refine ⟨_,rfl,?_⟩
   simp [b_W,Own,h,hs]
   exact ⟨fun ⟨⟨a,b⟩,c⟩=>.inr ⟨a,b,c⟩,fun h=>h.elim (fun ⟨a,b,c,_⟩=>⟨⟨a,b⟩,c⟩)<|fun ⟨a,b,c⟩=>⟨⟨a,b⟩,c⟩⟩
  ·rw [show ((v.items.length:Int) != 1)=true by simpa using (by omega:¬(v.items.length:Int)=1),iP_ rfl]
   refine ⟨false,rfl,?_⟩
   simp [b_W,Own,h,hs]
 ·simp only [h,Int.reduceBEq,bF_,fF_,fT_,bd_some,el_inl,un2,un3,b_z,b_k]
  refine ⟨_,rfl,?_⟩
  simp [b_W,Own,h]
  exact ⟨fun ⟨⟨a,b⟩,c,e⟩=>⟨by omega,c,by omega⟩,fun ⟨a,c,e⟩=>⟨⟨by omega,by omega⟩,c,by omega⟩⟩
 ·simp only [h,Int.reduceBEq,bF_,fF_,fT_,bd_some,el_inl,un2,un3,b_z]
  by_cases hs:v.items.length=1
  ·simp only [show ((v.items.length:Int) != 1)=false by simp [hs],bF_,fF_,b_k]
   refine ⟨_,rfl,?_⟩
   simp [b_W,Own,h,hs];omega
  ·rw [show ((v.items.length:Int) != 1)=true by simpa using (by omega:¬(v.items.length:Int)=1),iP_ rfl]
   refine ⟨false,rfl,?_⟩
   simp [b_W,Own,h,hs]
theorem q_B (hv:a_7 d=true){i:Nat}(hi:i<d.rules.length)(h:Own d.rules d.rules[i] v){j:Nat}(hj:j<v.items.length):∃k:Nat,N_ d.rules[i] v.number j=(k:Int)/\k<i:=by
 have hr:=b_w hv hi
 have kid:∀t (ht:t<d.rules[i].kids.length),∃k:Nat,d.rules[i].kids.getD t 0=(k:Int)/\k<i:=fun t ht=>by
  have:=hr.kids _<|gE_ ht
  rw [W_ ht]
  exact ⟨(d.rules[i].kids[t]).toNat,by omega,by omega⟩
 have hk:=hr.kind;unfold Own at h
 unfold N_
 rcases h with ⟨h,_,_,_,G⟩ | ⟨h,_,_,G⟩ | ⟨h,_,_,G⟩ | ⟨h,_,_,_,G⟩ | ⟨h,_,_,G⟩ | ⟨h,_,_,_,_⟩ | ⟨h,_,_,I⟩ | ⟨h,_,_,_,J,H⟩ | ⟨h,_,_,_⟩ | ⟨h,_,_,_⟩
 ·rw [G] at hj;simp at hj
 ·rw [G] at hj;simp at hj
 ·rw [G] at hj;simp at hj
 ·rw [G] at hj;simp at hj
 ·rw [G] at hj;simp at hj
 ·rw [h]
  exact kid 1 (by rw [(c_v hk h).2];decide)
 ·rw [h]
  simp only [Int.reduceBEq,bF_,fF_,fT_]
  rw [iP_ (by omega)]
  exact kid j (by omega)
 ·obtain rfl:j=0:=by omega
  unfold N_ at H
  rw [h] at H ⊢
  simp only [Int.reduceBEq,bF_,fF_,fT_] at H ⊢
  cases ht:b_6 d.rules[i].tags v.number with
  | none=>rw [ht] at H;simp at H
  | some t =>
   unfold b_6 at ht
   have hkl:=List.mem_range.1<|List.mem_of_find?_eq_some ht;exact kid (t+1) (by rw [(c_M hk h).2.1];omega)
 ·rw [h]
  exact kid 0 (by rw [c_7 hk (.inl h)];decide)
 ·rw [h]
  exact kid 0 (by rw [c_7 hk (.inr h)];decide)
def VP (rs:List g_):Nat->Nat->Val->Prop
 | 0,_,_=>False
 | m+1,i,v=>∃h:i<rs.length,Own rs rs[i] v/\∀j (hj:j<v.items.length),∃k:Nat,N_ rs[i] v.number j=(k:Int)/\k<i/\VP rs m k v.items[j]
theorem VP.mono {rs:List g_}:∀{m m' i:Nat}{v:Val},VP rs m i v->m<=m'->VP rs m' i v
 | 0,_,_,_,h,_=>h.elim
 | m+1,0,_,_,_,h=>by omega
 | m+1,m'+1,i,v,⟨h,ho,hk⟩,hm=>⟨h,ho,fun j hj=>by
  obtain ⟨k,a,b,c⟩:=hk j hj
  exact ⟨k,a,b,c.mono (by omega)⟩⟩
theorem VP.fuel {rs:List g_}:∀{m i:Nat}{v:Val},VP rs m i v->VP rs (i+1) i v
 | 0,_,_,h=>h.elim
 | m+1,i,v,⟨h,ho,hk⟩=>⟨h,ho,fun j hj=>by
  obtain ⟨k,a,b,c⟩:=hk j hj
  exact ⟨k,a,b,c.fuel.mono (by omega)⟩⟩
theorem q_C (hv:a_7 d=true)(hd:SmD d):∀(i:Nat),i<d.rules.length->∀(v:Val)(n:Nat),i+2<=n->∃t,k_l n d (i:Int) v=some t/\n_p n d (i:Int) v=some t/\(t=true ↔ VP d.rules (i+1) i v):=by
 intro i
 induction i using Nat.strongRecOn with
 | ind i ih =>
  intro hi v n hn;obtain ⟨m,rfl⟩:∃m,n=m+1:=⟨n - 1,by omega⟩;have hr:=b_w hv hi;obtain ⟨t1,e1,w1⟩:=q_z (v:=v) hd.rules hr.kind;obtain ⟨t2,e2,w2⟩:=q_A (v:=v) hd hi rfl hr.kind
  show ∃t,e_s m (d_a m) d (i:Int) v=some t/\h_v m (e_2 m) d (i:Int) v=some t/\_
  unfold e_s h_v
  rw [ix_ hi,bd_some,e1,e2,bd_some,bd_some]
  by_cases hO:Own d.rules d.rules[i] v
  ·rw [w1.2 hO,w2.2<|.inl hO,iN_ (by simp),iN_ (by simp)]
   have child:∀j (hj:j<v.items.length),∃(k:Nat)(t:Bool),N_ d.rules[i] v.number j=(k:Int)/\k<i/\(d_a m).spec_l9Valid d (k:Int) v.items[j]=some t/\(e_2 m).impl_validValue d (k:Int) v.items[j]=some t/\(t=true ↔ VP d.rules i k v.items[j]):=fun j hj=>by
    obtain ⟨k,ab,Y⟩:=q_B hv hi hO hj;obtain ⟨t,a,b,c⟩:=ih k Y (by omega) v.items[j] m (by omega);exact ⟨k,t,ab,Y,a,b,c.trans ⟨fun h=>h.mono (by omega),fun h=>h.fuel⟩⟩
   let G:Nat->Prop:=fun j=>∀hj:j<v.items.length,∃k:Nat,N_ d.rules[i] v.number j=(k:Int)/\k<i/\VP d.rules i k v.items[j]
   have A:=f_a (σ:=Unit) (ρ:=Bool) (body:=(fun O=>(fun (_:Unit)=>bd (idx v.items ((O:Nat):Int)) fun a0=>bd (b_d d.rules[i] v.number ((O:Nat):Int)) fun a6=>bd ((d_a m).spec_l9Valid d a6 a0) fun a7=>if (!a7)=true then some (Out.ret false) else some (.next ())))) (fun j _=>∀q,q<j->G q) (fun r=>r=false/\∃q,q<v.items.length/\¬G q) (n:=v.items.length) (fun j _ hj hI=>by
    obtain ⟨k,t,H,a2,L,I,J⟩:=child j hj
    rw [ix_ hj,bd_some,c_L<|c_i hr.kind,bd_some,H,L,bd_some]
    cases t
    ·right
     refine ⟨false,rfl,rfl,j,hj,fun hG=>?_⟩;obtain ⟨k',b1,b2,b3⟩:=hG hj;have:k'=k:=by omega
     subst this;exact absurd (J.2 b3) (by simp)
    ·left
     refine ⟨(),rfl,fun q hq=>?_⟩
     rcases Nat.lt_or_ge q j with h | h
     ·exact hI q h
     ·obtain rfl:q=j:=by omega
      exact fun _=>⟨k,H,a2,J.1 rfl⟩) v.items.length 0 () (by omega) (fun q hq=>absurd hq (Nat.not_lt_zero _))
   have B:=f_a (σ:=Unit) (ρ:=Bool) (body:=(fun V=>(fun (_:Unit)=>bd (c_Q d (i:Int) v ((V:Nat):Int)) fun W=>bd (α:=Bool) (if (decide (W<0))=true then some true else bd (idx v.items ((V:Nat):Int)) fun a8=>bd ((e_2 m).impl_validValue d W a8) fun a9=>some (!a9)) (fun aa=>if aa=true then some (Out.ret false) else some (.next ()))))) (fun j _=>∀q,q<j->G q) (fun r=>r=false/\∃q,q<v.items.length/\¬G q) (n:=v.items.length) (fun j _ hj hI=>by
    obtain ⟨k,t,H,a2,L,I,J⟩:=child j hj
    rw [g_F (ix_ hi) (c_i hr.kind),bd_some,H,dF_ (show ¬(k:Int)<0 by omega),iN_ (by simp),ix_ hj,bd_some,I,bd_some,bd_some]
    cases t
    ·right
     refine ⟨false,rfl,rfl,j,hj,fun hG=>?_⟩;obtain ⟨k',b1,b2,b3⟩:=hG hj;have:k'=k:=by omega
     subst this;exact absurd (J.2 b3) (by simp)
    ·left
     refine ⟨(),rfl,fun q hq=>?_⟩
     rcases Nat.lt_or_ge q j with h | h
     ·exact hI q h
     ·obtain rfl:q=j:=by omega
      exact fun _=>⟨k,H,a2,J.1 rfl⟩) v.items.length 0 () (by omega) (fun q hq=>absurd hq (Nat.not_lt_zero _))
   rcases A with ⟨_,ea,ga⟩ | ⟨_,ea,rfl,ga⟩
   ·have hVP:VP d.rules (i+1) i v:=⟨hi,hO,fun j hj=>ga j hj hj⟩
    rcases B with ⟨_,eb,gb⟩ | ⟨_,eb,rfl,q,hq,gb⟩
    ·rw [ea,eb]
     exact ⟨true,rfl,rfl,⟨fun _=>hVP,fun _=>rfl⟩⟩
    ·exact absurd (ga q hq) gb
   ·obtain ⟨q,hq,hnq⟩:=ga;have hVP:¬VP d.rules (i+1) i v:=fun ⟨_,_,h⟩=>hnq<|fun hj=>h q hj
    rcases B with ⟨_,eb,gb⟩ | ⟨_,eb,rfl,_⟩
    ·exact absurd (gb q hq) hnq
    ·rw [ea,eb]
     exact ⟨false,rfl,rfl,⟨fun h=>(by cases h),fun h=>absurd h hVP⟩⟩
  ·have h1:t1=false:=by
    cases t1
    ·rfl
    ·exact absurd (w1.1 rfl) hO
   have hVP:¬VP d.rules (i+1) i v:=fun ⟨_,h,_⟩=>hO h
   rw [h1]
   refine ⟨false,rfl,?_,⟨fun h=>(by cases h),fun h=>absurd h hVP⟩⟩
   cases t2
   ·rfl
   ·rw [iN_ (by simp)]
    rcases w2.1 rfl with h | ⟨h,H,a2,L,I⟩
    ·exact absurd h hO
    ·have hneg:N_ d.rules[i] v.number 0<0:=by
      rcases (show N_ d.rules[i] v.number 0<0∨0<=N_ d.rules[i] v.number 0 by omega) with q | q
      ·exact q
      ·exfalso
       apply hO
       unfold Own
       right;right;right;right;right;right;right;left
       exact ⟨h,H,a2,L,I,q⟩
     rw [I]
     unfold z_
     rw [g_F (ix_ hi) (c_i hr.kind),bd_some,dT_ hneg,iP_ rfl,bd_some,iP_ rfl]
     rfl
theorem k_h (hv:a_7 d=true)(hd:SmD d){i:Int}{v:Val}{n:Nat}(hn:1000<=n):∃t,d_b n d i v=some t/\e_3 n d i v=some t/\(t=true->∃k:Nat,i=(k:Int)/\k<d.rules.length/\VP d.rules (k+1) k v)/\(∀k:Nat,i=(k:Int)->VP d.rules (k+1) k v->t=true):=by
 have hl:=(c_h hv).2;unfold d_b e_3
 rw [g_t d hd,i_z n (by omega) d hd,hv,bd_some,bd_some]
 cases h:b_q d i
 ·refine ⟨false,rfl,rfl,nofun,fun k hk hV=>?_⟩;obtain ⟨hlt,_⟩:=hV;unfold b_q at h
  rw [hk,dT_ (by omega),dT_ (by omega)] at h
  cases h
 ·unfold b_q at h
  simp only [aE_,dE_] at h
  obtain ⟨k,rfl⟩:∃k:Nat,i=(k:Int):=⟨i.toNat,by omega⟩;obtain ⟨t,a,b,c⟩:=q_C hv hd k (by omega) v n (by omega)
  rw [show (true && true)=true from rfl,iP_ rfl,iP_ rfl,a,b,bd_some,bd_some]
  exact ⟨t,rfl,rfl,fun h=>⟨k,rfl,by omega,c.1 h⟩,fun k' hk' hW=>by
   have:k'=k:=by omega
   subst this
   exact c.2 hW⟩
end
end Go.Vw
