
import Derived.Test.YtdaajhjijbcdcaaGreatDoorVwP62
import Derived.Test.YtdaajhjijbcdcaaGreatDoorVwP28
namespace Go.Vw
open Go.RowKit Dat
theorem q_l {l:List Str}(hl:l.length<=100000)(hs:∀s∈l,s.b.length<=1000):∃t,f_p l=some t/\t.b.length<=1001 * l.length:=by
 have hLIM:=a_C;unfold f_p
 rcases d_6 (σ:=Str) (ρ:=Str) (body:=λH=>(λI=>bd (cat I (⟨[47]⟩:Str)) λJ=>bd (idx l ((H:Nat):Int)) λL=>bd (cat J L) λG=>some (.next G))) (λk t=>t.b.length<=1001 * k) (λ_=>False) (n:=l.length) (λk t hk ht=>.inl (by
  have h1:=hs _<|gE_ hk
  rw [c_S (by simp only [lC_,List.length_nil];omega),bd_some,ix_ hk,bd_some,c_S (by simp only [List.length_append,lC_,List.length_nil];omega),bd_some]
  exact ⟨_,rfl,by simp only [List.length_append,lC_,List.length_nil];omega⟩)) l.length 0 ⟨[]⟩ (by omega) (by simp) with ⟨t,e,h⟩ | ⟨_,_,hf⟩
 .rw [e,bd_some,el_inl]
  exact ⟨t,rfl,h⟩
 .exact hf.elim
theorem k_j (sep:UInt8):∀(l cur:Bt)(s:Str),s∈a_4 sep l cur->s.b.length<=cur.length+l.length
 | [],cur,s,h=>by
  unfold a_4 at h
  rw [List.mem_singleton] at h;subst h;simp
 | c::l,cur,s,h=>by
  unfold a_4 at h
  split at h
  .rcases List.mem_cons.1 h with rfl | h
   .simp
   .have:=k_j sep l [] s h;simp at this ⊢;omega
  .have:=k_j sep l _ s h;simp at this ⊢;omega
theorem q_m {s t:Str}(h:t∈(b_Z s).1):t.b.length<=s.b.length:=by
 unfold b_Z at h
 split at h
 .cases h
 .split at h
  .have:=k_j 47 s.b [] t<|List.mem_of_mem_tail h;simpa using this
  .cases h
section
variable {b:Bt}{i h:Int}
theorem q_n (O:0<=i)(h1:i<=(b.length:Int))(hb:b.length<=MX){n:Nat}(hn:1000<=n){p:Str}(hp:p.b.length<=400):Dr b (g_p n ⟨b,i,h⟩ p) (λs=>s.b.length<=MX):=by
 have hLIM:=a_C;have hMX:=MXv;unfold g_p;have hl:=k_a p
 rw [k_1 (by omega) (by omega) (by omega)]
 have hsm:∀t∈(b_Z p).1,t.b.length<=400:=λt ht=>Nat.le_trans (q_m ht) hp
 generalize b_Z p=q at hl hsm
 obtain ⟨l,ok⟩:=q
 simp only at hl hsm
 rw [bd2_some]
 generalize hbd:(λa1=>un3 λa2 a3 a4=>_:Nat->(List Str)×Int×Int->Option (Out ((List Str)×Int×Int)<|Str×Int×Int))=body
 rcases d_6 (σ:=(List Str)×Int×Int) (ρ:=Str×Int×Int) (body:=body) (λk s=>s.1.length<=2 * k/\(∀t∈s.1,t.b.length<=400)/\0<=s.2.1/\s.2.1<=(b.length:Int)) (λ_=>False) (n:=l.length) (λk s hk hI=>.inl (by
  subst hbd;obtain ⟨m,i,h⟩:=s;obtain ⟨g1,I,G,H⟩:=hI
  simp only at g1 I G H
  simp only [un3]
  obtain ⟨r,i2,h2,V,J,L,hr⟩:=a_V (h:=h) (n:=6) G H hb (by omega);have hlk:=hsm _<|gE_ hk;have add:∀t:Str,t.b.length<=400->∀u∈m++[t],u.b.length<=400:=λt ht u hu=>(List.mem_append.1 hu).elim (I u) (λh=>by rw [List.mem_singleton] at h;subst h;exact ht)
  rw [V,bd3_some]
  by_cases Y:(r==0)=true
  .rw [iP_ Y,a_D (by omega),bd_some,bd_some]
   exact ⟨_,rfl,by simp;omega,add _ (by decide),J,L⟩
  rw [iN_ Y]
  by_cases q1:(r==1)=true
  .rw [iP_ q1,a_D (by omega),bd_some,bd_some,bd_some]
   exact ⟨_,rfl,by simp;omega,add _ (by decide),J,L⟩
  rw [iN_ q1]
  by_cases q2:(r==2)=true
  .rw [iP_ q2,ix_ hk,bd_some,c_y (by simp;omega),bd_some,bd_some,bd_some,bd_some]
   refine ⟨_,rfl,by simp;omega,λu hu=>?_,J,L⟩
   rcases List.mem_append.1 hu with hu | hu
   .exact I u hu
   .simp only [List.mem_cons,List.not_mem_nil,or_false] at hu
    rcases hu with rfl | rfl
    .decide
    .exact hlk
  .rw [iN_ q2,ix_ hk,bd_some,a_D (by omega),bd_some,bd_some,bd_some,bd_some]
   exact ⟨_,rfl,by simp;omega,add _ hlk,J,L⟩)) l.length 0 ([],i,h) (by omega) ⟨by simp,λt ht=>(by cases ht),O,h1⟩ with ⟨s,e,g1,I,G,H⟩ | ⟨_,_,hf⟩
 .obtain ⟨m,i,h⟩:=s
  simp only at g1 I G H
  rw [e,bd_some,el_inl]
  simp only [un3]
  refine (f_K G H hb 6).bd λf i h _ G H=>?_
  have fin:∀(m:List Str)(i h:Int),m.length<=900->(∀t∈m,t.b.length<=400)->0<=i->i<=(b.length:Int)->Dr b (bd (f_p m) λa0=>some (a0,i,h)) (λs=>s.b.length<=MX):=by
   intro m i h hm ht O h1;obtain ⟨t,e,htl⟩:=q_l (l:=m) (by omega)<|λs hs=>Nat.le_trans (ht s hs) (by omega)
   rw [e,bd_some]
   exact ⟨_,_,_,rfl,O,h1,by omega⟩
  cases f with
  | true =>
   rw [iP_ rfl]
   obtain ⟨s,i2,h2,V,J,L,W⟩:=e_W (h:=h) (l:=[(⟨[46,46]⟩:Str),(⟨[35]⟩:Str),(⟨[112,49]⟩:Str),(⟨[35,35]⟩:Str)]) G H hb (by simp)
   rw [V,bd3_some,a_D (by omega),bd_some,bd_some]
   refine fin _ _ _ (by simp;omega) (λu hu=>?_) J L
   rcases List.mem_append.1 hu with hu | hu
   .exact I u hu
   .rw [List.mem_singleton] at hu;subst hu
    simp only [List.mem_cons,List.not_mem_nil,or_false] at W
    rcases W with rfl | rfl | rfl | rfl <;> decide
  | false =>
   rw [iN_ (by simp),bd_some]
   exact fin _ _ _ (by omega) I G H
 .exact hf.elim
end
theorem one_ok {c:Bt}(hb:c.length<=MX){n:Nat}(hn:1048600<=n):∃d b p,g_o n c=some (d,b,p)/\SmD d/\b.length<=MX/\p.b.length<=400:=by
 have hMX:=MXv;unfold g_o;obtain ⟨h0,e0⟩:=m_E hb hn
 rw [e0,bd_some]
 obtain ⟨d,i1,h1,e1,a0,a1,hd⟩:=m_G (i:=0) (h:=h0) (by omega) (by omega) hb (n:=n) (by omega);have hf:=hd.few;have hs:=hd.some_
 rw [e1,bd3_some,b_9 (by omega) (by omega),show (d.rules.length:Int) - 1=((d.rules.length - 1:Nat):Int) by omega]
 obtain ⟨v,i2,h2,e2,b0,b1,hv⟩:=q_8 hb hd (d.rules.length - 1) (by omega) n (by omega) i1 h1 10 a0 a1 (by omega) (by omega)
 simp only
 rw [e2,bd3_some]
 obtain ⟨b,e3,hbl⟩:=q_b hd (d.rules.length - 1) v hv n (by omega);have hbl:b.length<=61440:=Nat.le_trans hbl<|k_i (by omega)
 rw [e3,bd_some]
 obtain ⟨p,i3,h3,e4,O,V,hp⟩:=q_e (h:=h2) b0 b1 hb hd hv (n:=n) (by omega)
 rw [e4,bd3_some]
 have fin:∀(x:Bt)(i h:Int),x.length<=MX->0<=i->i<=(c.length:Int)->∃d' b' p',(bd3 (c_X (⟨c,i,h⟩:u_) 20) λa2 I J=>bd (α:=Int×Int×(List d_)) (if a2 then bd3 (f_o n (⟨c,I,J⟩:u_)) λa3 a4 a5=>some (a4,a5,a3.rules) else some (I,J,d.rules))<|un3 λa7 a8 a6=>some ((⟨a6⟩:g_),x,p))=some (d',b',p')/\SmD d'/\b'.length<=MX/\p'.b.length<=400:=by
  intro x i h hx g0 g1;obtain ⟨f,W,h5,G,f0,H,_⟩:=f_K (h:=h) g0 g1 hb 20
  rw [G,bd3_some]
  cases f with
  | false=>exact ⟨_,_,_,rfl,hd.sm,hx,by omega⟩
  | true =>
   obtain ⟨d',i6,h6,e7,k0,k1,hd'⟩:=any_ok (h:=h5) f0 H hb (n:=n) (by omega)
   rw [iP_ rfl,e7,bd3_some,bd_some]
   exact ⟨_,_,_,rfl,hd',hx,by omega⟩
 by_cases L:(0:Int)<(b.length:Int)
 .obtain ⟨f,i4,h4,e5,Y,d1,_⟩:=f_K (h:=h3) O V hb 3
  rw [dT_ L,iP_ rfl,e5,bd3_some,bd_some]
  simp only [un3]
  cases f with
  | false=>rw [iN_ (by simp),bd_some];exact fin b i4 h4 (by omega) Y d1
  | true =>
   obtain ⟨x,W,h5,G,f0,H,hx⟩:=q_k (h:=h4) Y d1 hb hbl
   rw [iP_ rfl,G,bd3_some,bd_some]
   exact fin x W h5 (by omega) f0 H
 .rw [dF_ L,iN_ (by simp),bd_some]
  simp only [un3]
  rw [iN_ (by simp),bd_some]
  exact fin b i3 h3 (by omega) O V
theorem q_o {c:Bt}(hb:c.length<=MX){n:Nat}(hn:1048600<=n):∃d b p,g_q n c=some (d,b,p)/\SmD d/\b.length<=MX/\p.b.length<=MX:=by
 unfold g_q;obtain ⟨d,b,p,G,hd,hbm,hp⟩:=one_ok hb hn;obtain ⟨H,I⟩:=m_E hb hn
 rw [G,bd3_some,I,bd_some]
 obtain ⟨s,L,h2,J,_,_,hs⟩:=q_n (i:=0) (h:=H) (by omega) (by omega) hb (n:=n) (by omega) hp
 rw [J,bd3_some]
 exact ⟨d,b,s,rfl,hd,hbm,hs⟩
end Go.Vw
