
import Derived.Test.YtgpbbhplnbndeaaGreatDoorVg
namespace Go.Vw
open Go.RowKit Dat
section
variable {d:b_}{r:c_}{v:Val}
theorem b_e (A B C:Bool):bd (if A then if B then some C else some false else some false) (λx=>some x)=some (A && (B && C)):=by cases A <;> cases B <;> rfl
theorem r_j (hk:O_ d.rules r=true)(G:r.kind=7){n:Int}(h:0<=v_ r n 0):0<=n/\n<=lim d.rules (f_ r):=by
 unfold v_ at h
 rw [G] at h
 simp only [Int.reduceBEq,bF_,fF_,fT_] at h
 cases ht:a_y r.tags n with
 | none=>rw [ht] at h;simp at h
 | some k =>
  unfold a_y at ht
  have H:=List.mem_of_find?_eq_some ht;have I:=List.find?_some ht;have hkl:=List.mem_range.1 H;have J:r.tags.getD k 0=n:=by simpa using I
  rw [B_ hkl] at J
  unfold O_ at hk
  rw [G] at hk
  simp only [Int.reduceBEq,bF_,fF_,fT_,aE_] at hk
  have h3:=hk.2.2
  rw [Bool.not_eq_true',List.any_eq_false] at h3
  have:=h3 k<|List.mem_range.2 hkl
  rw [h_n hkl] at this
  simp only [Bool.or_eq_true,Bool.not_eq_true',Bool.and_eq_false_iff,decide_eq_false_iff_not,not_or] at this
  omega
theorem r_k (hd:d.rules.length<=MX)(hk:O_ d.rules r=true):∃t,h_z d r v=some t/\(t=true ↔ Own d.rules r v):=by
 have hkk:=c_g hk;have hall:=c_A hk;have hc:r.kind=1∨r.kind=2∨r.kind=3∨r.kind=4∨r.kind=10∨r.kind=5∨r.kind=6∨r.kind=7∨r.kind=8∨r.kind=9:=by omega
 unfold h_z
 rcases hc with h | h | h | h | h | h | h | h | h | h
 .obtain ⟨_,h1,h4⟩:=c_N hk h;obtain ⟨x,G,H⟩:=k_W h1 h4
  simp only [h,Int.reduceBEq,fT_,bd_some,G,b_r,H,b_e]
  exact ⟨_,rfl,by simp [Own,h,and_assoc]⟩
 .simp only [h,Int.reduceBEq,bF_,fF_,fT_,b_e]
  exact ⟨_,rfl,by simp [Own,h]⟩
 .simp only [h,Int.reduceBEq,bF_,fF_,fT_,b_e]
  exact ⟨_,rfl,by simp [Own,h]⟩
 .have hl:=(c_z hk h).2;have hx:idx r.kids 0=some (f_ r):=by rw [b_2 (by omega)];unfold f_;rw [B_ (by omega)]
  simp only [h,Int.reduceBEq,bF_,fF_,fT_,bd_some,hx,e_7 _ _ hd,n_3,b_e]
  refine ⟨_,rfl,?_⟩;have:(v.bytes.length:Int)<=min 400 (lim d.rules<|f_ r) ↔ (v.bytes.length:Int)<=400/\(v.bytes.length:Int)<=lim d.rules (f_ r):=by omega
  simp only [Own,h,aE_,dE_,beq_iff_eq,this]
  simp [and_assoc]
 .simp only [h,Int.reduceBEq,bF_,fF_,fT_,b_e]
  exact ⟨_,rfl,by simp [Own,h]⟩
 .have hl:=(b_x hk h).2;have hx:idx r.kids 0=some (f_ r):=by rw [b_2 (by omega)];unfold f_;rw [B_ (by omega)]
  simp only [h,Int.reduceBEq,bF_,fF_,fT_,bd_some,hx,e_7 _ _ hd,n_3,b_e]
  refine ⟨_,rfl,?_⟩;have:(v.items.length:Int)<=min 40 (lim d.rules<|f_ r) ↔ (v.items.length:Int)<=40/\(v.items.length:Int)<=lim d.rules (f_ r):=by omega
  simp only [Own,h,aE_,dE_,beq_iff_eq,this]
  simp
 .simp only [h,Int.reduceBEq,bF_,fF_,fT_,b_e]
  exact ⟨_,rfl,by simp [Own,h];omega⟩
 .have hi:a_E r v.number 0=some (v_ r v.number 0):=d_B hkk v.number 0
  simp only [h,Int.reduceBEq,bF_,fF_,fT_,bd_some,hi,b_e]
  refine ⟨_,rfl,?_⟩;have:=r_j hk h (n:=v.number)
  simp [Own,h]
  constructor
  .rintro ⟨a,b,c⟩;exact ⟨(this c).1,(this c).2,a,by omega,c⟩
  .rintro ⟨_,_,a,b,c⟩;exact ⟨a,by omega,c⟩
 .simp only [h,Int.reduceBEq,bF_,fF_,fT_,b_e]
  exact ⟨_,rfl,by simp [Own,h];omega⟩
 .simp only [h,Int.reduceBEq,bF_,fF_,b_e]
  exact ⟨_,rfl,by simp [Own,h];omega⟩
def b_X (rs:List c_)(r:c_)(v:Val):Prop:=Own rs r v∨(r.kind=7/\0<=v.number/\v.number<=lim rs (f_ r)/\v.bytes=[]/\v.items.length=1)
theorem r_l (_:SmD d){i:Nat}(hi:i<d.rules.length)(hr:d.rules[i]=r)(hk:O_ d.rules r=true):∃t,i_m d (i:Int) v=some t/\(t=true ↔ b_X d.rules r v):=by
 have hkk:=c_g hk;have hall:=c_A hk;have hc:r.kind=1∨r.kind=2∨r.kind=3∨r.kind=4∨r.kind=10∨r.kind=5∨r.kind=6∨r.kind=7∨r.kind=8∨r.kind=9:=by omega
 unfold i_m
 rw [ix_ hi,hr,bd_some]
 rcases hc with h | h | h | h | h | h | h | h | h | h
 .obtain ⟨_,h1,h4⟩:=c_N hk h;have hl:lim d.rules (i:Int)=256 ^ r.size.toNat - 1:=by unfold lim;rw [ix_ hi,hr];simp only;rw [iP_ ⟨h,h1,h4⟩]
  simp only [h,Int.reduceBEq,bF_,fF_,fT_,bd_some,el_inl,un3,b_v,d_x,hl,b_e]
  refine ⟨_,rfl,?_⟩
  simp [b_X,Own,h,and_assoc]
 .simp only [h,Int.reduceBEq,bF_,fF_,bd_some,el_inl,un2,un3,b_v,b_e]
  refine ⟨_,rfl,?_⟩
  simp [b_X,Own,h];omega
 .simp only [h,Int.reduceBEq,bF_,fF_,fT_,bd_some]
  by_cases hs:(v.bytes.length:Int)=r.size
  .simp only [show ((v.bytes.length:Int) != r.size)=false by simp [hs],bF_,fF_,bd_some,el_inl,un3,b_v,b_e]
   refine ⟨_,rfl,?_⟩
   simp [b_X,Own,h,hs];omega
  .rw [show ((v.bytes.length:Int) != r.size)=true by simp [hs],iP_ rfl]
   refine ⟨false,rfl,?_⟩
   simp [b_X,Own,h,hs]
 .have hl:=(c_z hk h).2;have hx:idx r.kids 0=some (f_ r):=by rw [b_2 (by omega)];unfold f_;rw [B_ (by omega)]
  simp only [h,Int.reduceBEq,bF_,fF_,fT_,bd_some,el_inl,un3,b_v,hx,d_x,e_g,b_e]
  refine ⟨_,rfl,?_⟩;have:(v.bytes.length:Int)<=min 400 (lim d.rules<|f_ r) ↔ (v.bytes.length:Int)<=400/\(v.bytes.length:Int)<=lim d.rules (f_ r):=by omega
  simp only [b_X,Own,h,aE_,dE_,this]
  simp [and_assoc]
  exact ⟨λ⟨a,b,c,e,f⟩=>⟨by omega,c,e,f⟩,λ⟨a,c,e,f⟩=>⟨by omega,by omega,c,e,f⟩⟩
 .simp only [h,Int.reduceBEq,bF_,fF_,fT_,bd_some,el_inl,un3,b_v,b_e]
  refine ⟨_,rfl,?_⟩
  simp [b_X,Own,h];omega
 .have hl:=(b_x hk h).2;have hx:idx r.kids 0=some (f_ r):=by rw [b_2 (by omega)];unfold f_;rw [B_ (by omega)]
  simp only [h,Int.reduceBEq,bF_,fF_,fT_,bd_some,el_inl,un2,un3,b_v,hx,d_x,e_g,b_e]
  refine ⟨_,rfl,?_⟩;have:(v.items.length:Int)<=min 40 (lim d.rules<|f_ r) ↔ (v.items.length:Int)<=40/\(v.items.length:Int)<=lim d.rules (f_ r):=by omega
  simp only [b_X,Own,h,aE_,dE_,this]
  simp;omega
 .simp only [h,Int.reduceBEq,bF_,fF_,fT_,bd_some,el_inl,un2,un3,b_v]
  by_cases hs:v.items.length=r.kids.length
  .simp only [show ((v.items.length:Int) != (r.kids.length:Int))=false by simp [hs],bF_,fF_,b_e]
   refine ⟨_,rfl,?_⟩
   simp [b_X,Own,h,hs];omega
  .rw [show ((v.items.length:Int) != (r.kids.length:Int))=true by simpa using (by omega:¬(v.items.length:Int)=(r.kids.length:Int)),iP_ rfl]
   refine ⟨false,rfl,?_⟩
   simp [b_X,Own,h,hs]
 .have hl:=(b_U hk h).2.1;have hx:idx r.kids 0=some (f_ r):=by rw [b_2 (by omega)];unfold f_;rw [B_ (by omega)]
  simp only [h,Int.reduceBEq,bF_,fF_,fT_,bd_some,el_inl,un2,un3,b_v,hx,d_x]
  by_cases hs:v.items.length=1
  .simp only [show ((v.items.length:Int) != 1)=false by simp [hs],bF_,fF_,b_e]
   refine ⟨_,rfl,?_⟩
   simp [b_X,Own,h,hs]
   exact ⟨λ⟨⟨a,b⟩,c⟩=>.inr ⟨a,b,c⟩,λh=>h.elim (λ⟨a,b,c,_⟩=>⟨⟨a,b⟩,c⟩)<|λ⟨a,b,c⟩=>⟨⟨a,b⟩,c⟩⟩
  .rw [show ((v.items.length:Int) != 1)=true by simpa using (by omega:¬(v.items.length:Int)=1),iP_ rfl]
   refine ⟨false,rfl,?_⟩
   simp [b_X,Own,h,hs]
 .simp only [h,Int.reduceBEq,bF_,fF_,fT_,bd_some,el_inl,un2,un3,b_v,b_e]
  refine ⟨_,rfl,?_⟩
  simp [b_X,Own,h]
  exact ⟨λ⟨⟨a,b⟩,c,e⟩=>⟨by omega,c,by omega⟩,λ⟨a,c,e⟩=>⟨⟨by omega,by omega⟩,c,by omega⟩⟩
 .simp only [h,Int.reduceBEq,bF_,fF_,fT_,bd_some,el_inl,un2,un3,b_v]
  by_cases hs:v.items.length=1
  .simp only [show ((v.items.length:Int) != 1)=false by simp [hs],bF_,fF_,b_e]
   refine ⟨_,rfl,?_⟩
   simp [b_X,Own,h,hs];omega
  .rw [show ((v.items.length:Int) != 1)=true by simpa using (by omega:¬(v.items.length:Int)=1),iP_ rfl]
   refine ⟨false,rfl,?_⟩
   simp [b_X,Own,h,hs]
theorem r_m (hv:I_ d=true){i:Nat}(hi:i<d.rules.length)(h:Own d.rules d.rules[i] v){j:Nat}(hj:j<v.items.length):∃k:Nat,v_ d.rules[i] v.number j=(k:Int)/\k<i:=by
 have hr:=a_R hv hi
 have kid:∀t (ht:t<d.rules[i].kids.length),∃k:Nat,d.rules[i].kids.getD t 0=(k:Int)/\k<i:=λt ht=>by
  have:=hr.kids _<|gE_ ht
  rw [B_ ht]
  exact ⟨(d.rules[i].kids[t]).toNat,by omega,by omega⟩
 have hk:=hr.kind;unfold Own at h
 unfold v_
 rcases h with ⟨h,_,_,_,G⟩ | ⟨h,_,_,G⟩ | ⟨h,_,_,G⟩ | ⟨h,_,_,_,G⟩ | ⟨h,_,_,G⟩ | ⟨h,_,_,_,_⟩ | ⟨h,_,_,I⟩ | ⟨h,_,_,_,J,H⟩ | ⟨h,_,_,_⟩ | ⟨h,_,_,_⟩
 .rw [G] at hj;simp at hj
 .rw [G] at hj;simp at hj
 .rw [G] at hj;simp at hj
 .rw [G] at hj;simp at hj
 .rw [G] at hj;simp at hj
 .rw [h]
  exact kid 1 (by rw [(b_x hk h).2];decide)
 .rw [h]
  simp only [Int.reduceBEq,bF_,fF_,fT_]
  rw [iP_ (by omega)]
  exact kid j (by omega)
 .obtain rfl:j=0:=by omega
  unfold v_ at H
  rw [h] at H ⊢
  simp only [Int.reduceBEq,bF_,fF_,fT_] at H ⊢
  cases ht:a_y d.rules[i].tags v.number with
  | none=>rw [ht] at H;simp at H
  | some t =>
   unfold a_y at ht
   have hkl:=List.mem_range.1<|List.mem_of_find?_eq_some ht;exact kid (t+1) (by rw [(b_U hk h).2.1];omega)
 .rw [h]
  exact kid 0 (by rw [b_d hk (.inl h)];decide)
 .rw [h]
  exact kid 0 (by rw [b_d hk (.inr h)];decide)
def VP (rs:List c_):Nat->Nat->Val->Prop
 | 0,_,_=>False
 | m+1,i,v=>∃h:i<rs.length,Own rs rs[i] v/\∀j (hj:j<v.items.length),∃k:Nat,v_ rs[i] v.number j=(k:Int)/\k<i/\VP rs m k v.items[j]
theorem VP.mono {rs:List c_}:∀{m m' i:Nat}{v:Val},VP rs m i v->m<=m'->VP rs m' i v
 | 0,_,_,_,h,_=>h.elim
 | m+1,0,_,_,_,h=>by omega
 | m+1,m'+1,i,v,⟨h,ho,hk⟩,hm=>⟨h,ho,λj hj=>by
  obtain ⟨k,a,b,c⟩:=hk j hj
  exact ⟨k,a,b,c.mono (by omega)⟩⟩
theorem VP.fuel {rs:List c_}:∀{m i:Nat}{v:Val},VP rs m i v->VP rs (i+1) i v
 | 0,_,_,h=>h.elim
 | m+1,i,v,⟨h,ho,hk⟩=>⟨h,ho,λj hj=>by
  obtain ⟨k,a,b,c⟩:=hk j hj
  exact ⟨k,a,b,c.fuel.mono (by omega)⟩⟩
theorem r_n (hv:I_ d=true)(hd:SmD d):∀(i:Nat),i<d.rules.length->∀(v:Val)(n:Nat),i+2<=n->∃t,n_i n d (i:Int) v=some t/\n_o n d (i:Int) v=some t/\(t=true ↔ VP d.rules (i+1) i v):=by
 intro i
 induction i using Nat.strongRecOn with
 | ind i ih =>
  intro hi v n hn;obtain ⟨m,rfl⟩:∃m,n=m+1:=⟨n - 1,by omega⟩;have hr:=a_R hv hi;obtain ⟨t1,e1,w1⟩:=r_k (v:=v) hd.rules hr.kind;obtain ⟨t2,e2,w2⟩:=r_l (v:=v) hd hi rfl hr.kind
  show ∃t,h_A m (e_i m) d (i:Int) v=some t/\i_n m (e_q m) d (i:Int) v=some t/\_
  unfold h_A i_n
  rw [ix_ hi,bd_some,e1,e2,bd_some,bd_some]
  by_cases hO:Own d.rules d.rules[i] v
  .rw [w1.2 hO,w2.2<|.inl hO,iN_ (by simp),iN_ (by simp)]
   have child:∀j (hj:j<v.items.length),∃(k:Nat)(t:Bool),v_ d.rules[i] v.number j=(k:Int)/\k<i/\(e_i m).spec_l9Valid d (k:Int) v.items[j]=some t/\(e_q m).impl_validValue d (k:Int) v.items[j]=some t/\(t=true ↔ VP d.rules i k v.items[j]):=λj hj=>by
    obtain ⟨k,ab,Y⟩:=r_m hv hi hO hj;obtain ⟨t,a,b,c⟩:=ih k Y (by omega) v.items[j] m (by omega);exact ⟨k,t,ab,Y,a,b,c.trans ⟨λh=>h.mono (by omega),λh=>h.fuel⟩⟩
   let G:Nat->Prop:=λj=>∀hj:j<v.items.length,∃k:Nat,v_ d.rules[i] v.number j=(k:Int)/\k<i/\VP d.rules i k v.items[j]
   have A:=c_e (σ:=Unit) (ρ:=Bool) (body:=(λO=>(λ(_:Unit)=>bd (idx v.items ((O:Nat):Int)) λa0=>bd (a_E d.rules[i] v.number ((O:Nat):Int)) λa6=>bd ((e_i m).spec_l9Valid d a6 a0) λa7=>if (!a7) then some (Out.ret false) else some (.next ())))) (λj _=>∀q,q<j->G q) (λr=>r=false/\∃q,q<v.items.length/\¬G q) (n:=v.items.length) (λj _ hj hI=>by
    obtain ⟨k,t,H,a2,L,I,J⟩:=child j hj
    rw [ix_ hj,bd_some,d_B<|c_g hr.kind,bd_some,H,L,bd_some]
    cases t
    .right
     refine ⟨false,rfl,rfl,j,hj,λhG=>?_⟩;obtain ⟨k',b1,b2,b3⟩:=hG hj;have:k'=k:=by omega
     subst this;exact absurd (J.2 b3) (by simp)
    .left
     refine ⟨(),rfl,λq hq=>?_⟩
     rcases Nat.lt_or_ge q j with h | h
     .exact hI q h
     .obtain rfl:q=j:=by omega
      exact λ_=>⟨k,H,a2,J.1 rfl⟩) v.items.length 0 () (by omega) (λq hq=>absurd hq (Nat.not_lt_zero _))
   have B:=c_e (σ:=Unit) (ρ:=Bool) (body:=(λV=>(λ(_:Unit)=>bd (c_T d (i:Int) v ((V:Nat):Int)) λW=>bd (α:=Bool) (if (decide (W<0)) then some true else bd (idx v.items ((V:Nat):Int)) λa8=>bd ((e_q m).impl_validValue d W a8) λa9=>some (!a9)) (λaa=>if aa then some (Out.ret false) else some (.next ()))))) (λj _=>∀q,q<j->G q) (λr=>r=false/\∃q,q<v.items.length/\¬G q) (n:=v.items.length) (λj _ hj hI=>by
    obtain ⟨k,t,H,a2,L,I,J⟩:=child j hj
    rw [j_l (ix_ hi) (c_g hr.kind),bd_some,H,dF_ (show ¬(k:Int)<0 by omega),iN_ (by simp),ix_ hj,bd_some,I,bd_some,bd_some]
    cases t
    .right
     refine ⟨false,rfl,rfl,j,hj,λhG=>?_⟩;obtain ⟨k',b1,b2,b3⟩:=hG hj;have:k'=k:=by omega
     subst this;exact absurd (J.2 b3) (by simp)
    .left
     refine ⟨(),rfl,λq hq=>?_⟩
     rcases Nat.lt_or_ge q j with h | h
     .exact hI q h
     .obtain rfl:q=j:=by omega
      exact λ_=>⟨k,H,a2,J.1 rfl⟩) v.items.length 0 () (by omega) (λq hq=>absurd hq (Nat.not_lt_zero _))
   rcases A with ⟨_,ea,ga⟩ | ⟨_,ea,rfl,ga⟩
   .have hVP:VP d.rules (i+1) i v:=⟨hi,hO,λj hj=>ga j hj hj⟩
    rcases B with ⟨_,eb,gb⟩ | ⟨_,eb,rfl,q,hq,gb⟩
    .rw [ea,eb]
     exact ⟨true,rfl,rfl,⟨λ_=>hVP,λ_=>rfl⟩⟩
    .exact absurd (ga q hq) gb
   .obtain ⟨q,hq,hnq⟩:=ga;have hVP:¬VP d.rules (i+1) i v:=λ⟨_,_,h⟩=>hnq<|λhj=>h q hj
    rcases B with ⟨_,eb,gb⟩ | ⟨_,eb,rfl,_⟩
    .exact absurd (gb q hq) hnq
    .rw [ea,eb]
     exact ⟨false,rfl,rfl,⟨λh=>(by cases h),λh=>absurd h hVP⟩⟩
  .have h1:t1=false:=by
    cases t1
    .rfl
    .exact absurd (w1.1 rfl) hO
   have hVP:¬VP d.rules (i+1) i v:=λ⟨_,h,_⟩=>hO h
   rw [h1]
   refine ⟨false,rfl,?_,⟨λh=>(by cases h),λh=>absurd h hVP⟩⟩
   cases t2
   .rfl
   .rw [iN_ (by simp)]
    rcases w2.1 rfl with h | ⟨h,H,a2,L,I⟩
    .exact absurd h hO
    .have hneg:v_ d.rules[i] v.number 0<0:=by
      rcases (show v_ d.rules[i] v.number 0<0∨0<=v_ d.rules[i] v.number 0 by omega) with q | q
      .exact q
      .exfalso
       apply hO
       unfold Own
       right;right;right;right;right;right;right;left
       exact ⟨h,H,a2,L,I,q⟩
     rw [I]
     unfold n_
     rw [j_l (ix_ hi) (c_g hr.kind),bd_some,dT_ hneg,iP_ rfl,bd_some,iP_ rfl]
     rfl
theorem r_o (hv:I_ d=true)(hd:SmD d){i:Int}{v:Val}{n:Nat}(hn:1000<=n):∃t,f_m n d i v=some t/\f_v n d i v=some t/\(t=true->∃k:Nat,i=(k:Int)/\k<d.rules.length/\VP d.rules (k+1) k v)/\(∀k:Nat,i=(k:Int)->VP d.rules (k+1) k v->t=true):=by
 have hl:=(b_5 hv).2;unfold f_m f_v
 rw [j_4 d hd,e_9 n (by omega) d hd,hv,bd_some,bd_some]
 cases h:a_G d i
 .refine ⟨false,rfl,rfl,nofun,λk hk hV=>?_⟩;obtain ⟨hlt,_⟩:=hV;unfold a_G at h
  rw [hk,dT_ (by omega),dT_ (by omega)] at h
  cases h
 .unfold a_G at h
  simp only [aE_,dE_] at h
  obtain ⟨k,rfl⟩:∃k:Nat,i=(k:Int):=⟨i.toNat,by omega⟩;obtain ⟨t,a,b,c⟩:=r_n hv hd k (by omega) v n (by omega)
  rw [show (true && true)=true from rfl,iP_ rfl,iP_ rfl,a,b,bd_some,bd_some]
  exact ⟨t,rfl,rfl,λh=>⟨k,rfl,by omega,c.1 h⟩,λk' hk' hW=>by
   have:k'=k:=by omega
   subst this
   exact c.2 hW⟩
end
end Go.Vw
