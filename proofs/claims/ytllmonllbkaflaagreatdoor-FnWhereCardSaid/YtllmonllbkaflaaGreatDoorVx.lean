
import Derived.Test.YtllmonllbkaflaaGreatDoorVw
import Derived.Test.YtllmonllbkaflaaGreatDoorVs
namespace Go.Vw
open Go.RowKit Dat
theorem t_Z {l:List Str}(hl:l.length<=100000)(hs:∀s∈l,s.b.length<=1000):∃t,g_E l=some t/\t.b.length<=1001 * l.length:=by
 have hLIM:=a_m;unfold g_E
 rcases d_r (σ:=Str) (ρ:=Str) (body:=λH=>(λI=>bd (cat I (⟨[47]⟩:Str)) λJ=>bd (idx l ((H:Nat):Int)) λL=>bd (cat J L) λG=>some (.next G))) (λk t=>t.b.length<=1001 * k) (λ_=>False) (n:=l.length) (λk t hk ht=>.inl (by
  have h1:=hs _<|gE_ hk
  rw [a_6 (by simp only [lC_,List.length_nil];omega),bd_some,ix_ hk,bd_some,a_6 (by simp only [List.length_append,lC_,List.length_nil];omega),bd_some]
  exact ⟨_,rfl,by simp only [List.length_append,lC_,List.length_nil];omega⟩)) l.length 0 ⟨[]⟩ (by omega) (by simp) with ⟨t,e,h⟩ | ⟨_,_,hf⟩
 .rw [e,bd_some,el_inl]
  exact ⟨t,rfl,h⟩
 .exact hf.elim
theorem m_r (sep:UInt8):∀(l cur:Bt)(s:Str),s∈W_ sep l cur->s.b.length<=cur.length+l.length
 | [],cur,s,h=>by
  unfold W_ at h
  rw [List.mem_singleton] at h;subst h;simp
 | c::l,cur,s,h=>by
  unfold W_ at h
  split at h
  .rcases List.mem_cons.1 h with rfl | h
   .simp
   .have:=m_r sep l [] s h;simp at this ⊢;omega
  .have:=m_r sep l _ s h;simp at this ⊢;omega
theorem u_0 {s t:Str}(h:t∈(b_t s).1):t.b.length<=s.b.length:=by
 unfold b_t at h
 split at h
 .cases h
 .split at h
  .have:=m_r 47 s.b [] t<|List.mem_of_mem_tail h;simpa using this
  .cases h
section
variable {b:Bt}{i h:Int}
theorem p_6 (O:0<=i)(h1:i<=(b.length:Int))(hb:b.length<=MX){n:Nat}(hn:1000<=n){p:Str}(hp:p.b.length<=400):Dr b (h_N n ⟨b,i,h⟩ p) (λs=>s.b.length<=MX):=by
 have hLIM:=a_m;have hMX:=MXv;unfold h_N;have hl:=m_l p
 rw [k_e (by omega) (by omega) (by omega)]
 have hsm:∀t∈(b_t p).1,t.b.length<=400:=λt ht=>Nat.le_trans (u_0 ht) hp
 generalize b_t p=q at hl hsm
 obtain ⟨l,ok⟩:=q
 simp only at hl hsm
 rw [bd2_some]
 generalize hbd:(λa1=>un3 λa2 a3 a4=>_:Nat->(List Str)×Int×Int->Option (Out ((List Str)×Int×Int)<|Str×Int×Int))=body
 rcases d_r (σ:=(List Str)×Int×Int) (ρ:=Str×Int×Int) (body:=body) (λk s=>s.1.length<=2 * k/\(∀t∈s.1,t.b.length<=400)/\0<=s.2.1/\s.2.1<=(b.length:Int)) (λ_=>False) (n:=l.length) (λk s hk hI=>.inl (by
  subst hbd;obtain ⟨m,i,h⟩:=s;obtain ⟨g1,I,G,H⟩:=hI
  simp only at g1 I G H
  simp only [un3]
  obtain ⟨r,i2,h2,V,J,L,hr⟩:=a_R (h:=h) (n:=6) G H hb (by omega);have hlk:=hsm _<|gE_ hk;have add:∀t:Str,t.b.length<=400->∀u∈m++[t],u.b.length<=400:=λt ht u hu=>(List.mem_append.1 hu).elim (I u) (λh=>by rw [List.mem_singleton] at h;subst h;exact ht)
  rw [V,bd3_some]
  by_cases Y:(r==0)=true
  .rw [iP_ Y,a_s (by omega),bd_some,bd_some]
   exact ⟨_,rfl,by simp;omega,add _ (by decide),J,L⟩
  rw [iN_ Y]
  by_cases q1:(r==1)=true
  .rw [iP_ q1,a_s (by omega),bd_some,bd_some,bd_some]
   exact ⟨_,rfl,by simp;omega,add _ (by decide),J,L⟩
  rw [iN_ q1]
  by_cases q2:(r==2)=true
  .rw [iP_ q2,ix_ hk,bd_some,c_H (by simp;omega),bd_some,bd_some,bd_some,bd_some]
   refine ⟨_,rfl,by simp;omega,λu hu=>?_,J,L⟩
   rcases List.mem_append.1 hu with hu | hu
   .exact I u hu
   .simp only [List.mem_cons,List.not_mem_nil,or_false] at hu
    rcases hu with rfl | rfl
    .decide
    .exact hlk
  .rw [iN_ q2,ix_ hk,bd_some,a_s (by omega),bd_some,bd_some,bd_some,bd_some]
   exact ⟨_,rfl,by simp;omega,add _ hlk,J,L⟩)) l.length 0 ([],i,h) (by omega) ⟨by simp,λt ht=>(by cases ht),O,h1⟩ with ⟨s,e,g1,I,G,H⟩ | ⟨_,_,hf⟩
 .obtain ⟨m,i,h⟩:=s
  simp only at g1 I G H
  rw [e,bd_some,el_inl]
  simp only [un3]
  refine (g_d G H hb 6).bd λf i h _ G H=>?_
  have fin:∀(m:List Str)(i h:Int),m.length<=900->(∀t∈m,t.b.length<=400)->0<=i->i<=(b.length:Int)->Dr b (bd (g_E m) λa0=>some (a0,i,h)) (λs=>s.b.length<=MX):=by
   intro m i h hm ht O h1;obtain ⟨t,e,htl⟩:=t_Z (l:=m) (by omega)<|λs hs=>Nat.le_trans (ht s hs) (by omega)
   rw [e,bd_some]
   exact ⟨_,_,_,rfl,O,h1,by omega⟩
  cases f with
  | true =>
   rw [iP_ rfl]
   obtain ⟨s,i2,h2,V,J,L,W⟩:=f_a (h:=h) (l:=[(⟨[46,46]⟩:Str),(⟨[35]⟩:Str),(⟨[112,49]⟩:Str),(⟨[35,35]⟩:Str)]) G H hb (by simp)
   rw [V,bd3_some,a_s (by omega),bd_some,bd_some]
   refine fin _ _ _ (by simp;omega) (λu hu=>?_) J L
   rcases List.mem_append.1 hu with hu | hu
   .exact I u hu
   .rw [List.mem_singleton] at hu;subst hu
    simp only [List.mem_cons,List.not_mem_nil,or_false] at W
    rcases W with rfl | rfl | rfl | rfl <;> decide
  | false =>
   rw [iN_ (by simp),bd_some]
   exact fin _ _ _ (by omega) I G H
 .exact hf.elim
end
theorem one_ok {c:Bt}(hb:c.length<=MX){n:Nat}(hn:1048600<=n):∃d b p,h_M n c=some (d,b,p)/\SmD d/\b.length<=MX/\p.b.length<=400:=by
 have hMX:=MXv;unfold h_M;obtain ⟨h0,e0⟩:=o_W hb hn
 rw [e0,bd_some]
 obtain ⟨d,i1,h1,e1,a0,a1,hd⟩:=o_Y (i:=0) (h:=h0) (by omega) (by omega) hb (n:=n) (by omega);have hf:=hd.few;have hs:=hd.some_
 rw [e1,bd3_some,a_Y (by omega) (by omega),show (d.rules.length:Int) - 1=((d.rules.length - 1:Nat):Int) by omega]
 obtain ⟨v,i2,h2,e2,b0,b1,hv⟩:=t_M hb hd (d.rules.length - 1) (by omega) n (by omega) i1 h1 10 a0 a1 (by omega) (by omega)
 simp only
 rw [e2,bd3_some]
 obtain ⟨b,e3,hbl⟩:=t_P hd (d.rules.length - 1) v hv n (by omega);have hbl:b.length<=61440:=Nat.le_trans hbl<|Bd_le (by omega)
 rw [e3,bd_some]
 obtain ⟨p,i3,h3,e4,O,V,hp⟩:=t_S (h:=h2) b0 b1 hb hd hv (n:=n) (by omega)
 rw [e4,bd3_some]
 have fin:∀(x:Bt)(i h:Int),x.length<=MX->0<=i->i<=(c.length:Int)->∃d' b' p',(bd3 (c_W (⟨c,i,h⟩:m_) 20) λa2 I J=>bd (α:=Int×Int×(List b_)) (if a2 then bd3 (g_D n (⟨c,I,J⟩:m_)) λa3 a4 a5=>some (a4,a5,a3.rules) else some (I,J,d.rules))<|un3 λa7 a8 a6=>some ((⟨a6⟩:c_),x,p))=some (d',b',p')/\SmD d'/\b'.length<=MX/\p'.b.length<=400:=by
  intro x i h hx g0 g1;obtain ⟨f,W,h5,G,f0,H,_⟩:=g_d (h:=h) g0 g1 hb 20
  rw [G,bd3_some]
  cases f with
  | false=>exact ⟨_,_,_,rfl,hd.sm,hx,by omega⟩
  | true =>
   obtain ⟨d',i6,h6,e7,k0,k1,hd'⟩:=any_ok (h:=h5) f0 H hb (n:=n) (by omega)
   rw [iP_ rfl,e7,bd3_some,bd_some]
   exact ⟨_,_,_,rfl,hd',hx,by omega⟩
 by_cases L:(0:Int)<(b.length:Int)
 .obtain ⟨f,i4,h4,e5,Y,d1,_⟩:=g_d (h:=h3) O V hb 3
  rw [dT_ L,iP_ rfl,e5,bd3_some,bd_some]
  simp only [un3]
  cases f with
  | false=>rw [iN_ (by simp),bd_some];exact fin b i4 h4 (by omega) Y d1
  | true =>
   obtain ⟨x,W,h5,G,f0,H,hx⟩:=t_Y (h:=h4) Y d1 hb hbl
   rw [iP_ rfl,G,bd3_some,bd_some]
   exact fin x W h5 (by omega) f0 H
 .rw [dF_ L,iN_ (by simp),bd_some]
  simp only [un3]
  rw [iN_ (by simp),bd_some]
  exact fin b i3 h3 (by omega) O V
end Go.Vw
