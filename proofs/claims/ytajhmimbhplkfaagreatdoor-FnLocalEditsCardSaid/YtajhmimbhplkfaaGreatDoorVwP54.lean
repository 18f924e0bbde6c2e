
import Derived.Test.YtajhmimbhplkfaaGreatDoorVwP25
import Derived.Test.YtajhmimbhplkfaaGreatDoorVwP53
set_option linter.unusedVariables false
namespace Go.Vw
open Go.RowKit Dat
theorem DrD.sm {d:f_} (h:DrD d):SmD d:=by
 have hMX:=MXv;refine ⟨by have:=h.few;omega,fun r hr=>?_⟩;obtain ⟨i,hi,rfl⟩:=List.getElem_of_mem hr;have g:=h.each i hi;have h1:=g.name;have h2:=g.bytes;have h3:=g.names.1;have h4:=g.tags;have h5:=g.kidn;exact ⟨by omega,by omega,by omega,by omega,by omega,fun s hs=>by have:=g.names.2 s hs;omega⟩
section
variable {c:List UInt8} {i h:Int}
theorem p_R (h0:0≤i) (h1:i≤(c.length:Int)) (hb:c.length≤MX) {d:f_} (hd:DrD d) {v:Val} (hv:Mk d (d.rules.length - 1) v) {n:Nat} (hn:50≤n):Dr c (f_J n ⟨c,i,h⟩ d v) (fun s=>s.b.length≤300):=by
 have hLIM:=a_x;have hf:=hd.few;have hs:=hd.some_;unfold f_J;obtain ⟨l,e,hl,hl0,hls⟩:=p_Q hd (d.rules.length - 1) v hv n (by omega) ⟨[]⟩ (by simp)
 rw [a_r (by omega) (by omega),show (d.rules.length:Int) - 1=((d.rules.length - 1:Nat):Int) by omega,e,bd_some]
 refine (b_b h0 h1 hb (show (0:Int)<(l.length:Int) by omega)).bd fun x i h hx h0 h1=>?_
 rw [d_v hx.1 (by omega),bd_some]
 have hsl:=hls _<|gE_ (l:=l) (n:=x.toNat) (by omega);generalize l[x.toNat]'(by omega)=s at hsl
 have hsl:s.b.length≤205:=by simp at hsl;omega
 refine (b_b (n:=8) h0 h1 hb (by omega)).bd fun y i h hy h0 h1=>?_
 by_cases hy0:(y==0)=true
 ·rw [iP_ hy0]
  refine (i_x h0 h1 hb (by simp)).bd fun t i h ht h0 h1=>?_
  have htl:t.b.length≤5:=by
   simp only [List.mem_cons,List.not_mem_nil,or_false] at ht
   rcases ht with rfl | rfl | rfl | rfl | rfl | rfl | rfl | rfl | rfl <;> decide
  rw [d_Z (by omega),bd_some]
  exact ⟨_,_,_,rfl,h0,h1,by simp;omega⟩
 ·rw [iN_ hy0]
  by_cases hy1:(y==1)=true
  ·rw [iP_ hy1]
   refine (i_x h0 h1 hb (by simp)).bd fun t i h ht h0 h1=>?_
   have htl:t.b.length≤5:=by
    simp only [List.mem_cons,List.not_mem_nil,or_false] at ht
    rcases ht with rfl | rfl | rfl | rfl | rfl <;> decide
   exact ⟨_,_,_,rfl,h0,h1,by omega⟩
  ·rw [iN_ hy1]
   exact ⟨_,_,_,rfl,h0,h1,by omega⟩
end
theorem p_S {c:List UInt8} (hb:c.length≤MX) {n:Nat} (hn:1048600≤n) : ∃ d b p x,f_K n c=some (d,b,p,x)∧SmD d∧b.length≤MX∧p.b.length≤MX∧x.length≤MX:=by
 have hMX:=MXv;unfold f_K;obtain ⟨h0,e0⟩:=new_ok hb hn
 rw [e0,bd_some]
 obtain ⟨d,i1,h1,e1,a0,a1,hd⟩:=p_K (i:=0) (h:=h0) (by omega) (by omega) hb (n:=n) (by omega);have hf:=hd.few;have hs:=hd.some_
 rw [e1,bd3_some,a_r (by omega) (by omega),show (d.rules.length:Int) - 1=((d.rules.length - 1:Nat):Int) by omega]
 obtain ⟨v,i2,h2,e2,b0,b1,hv⟩:=m_7 hb hd (d.rules.length - 1) (by omega) n (by omega) i1 h1 10 a0 a1 (by omega) (by omega)
 simp only
 rw [e2,bd3_some]
 obtain ⟨b,e3,hbl⟩:=m_9 hd (d.rules.length - 1) v hv n (by omega);have hbl:b.length≤61440:=Nat.le_trans hbl<|i_A (by omega)
 rw [e3,bd_some]
 obtain ⟨p,i3,h3,e4,c0,c1,hp⟩:=p_R (h:=h2) b0 b1 hb hd hv (n:=n) (by omega)
 rw [e4,bd3_some]
 obtain ⟨k,i4,h4,e5,d0,d1,hk⟩:=b_b (h:=h3) (n:=4) c0 c1 hb (by omega)
 rw [e5,bd3_some]
 obtain ⟨x,i5,h5,e6,f0,f1,hx⟩:=g_m (h:=h4) d0 d1 hb (n:=k) (by omega)
 rw [e6,bd3_some,i_o hd.sm hn (by omega),bd2_some]
 have hx3:x.length≤MX:=by omega
 have fin : ∀ (f:Bool) (i h:Int),0≤i→i≤(c.length:Int)→(f=true→(c_6 d b p).2=true) → ∃ d' b' p' x',(bd (α:=(List UInt8)×Int×Int) (if f=true then bd3 (h_k n (⟨c,i,h⟩:u_) d (c_6 d b p).1.rule 5) fun r520 r523 r524=>bd (h_l n d (c_6 d b p).1.rule r520) fun r547=>some (r547,r523,r524) else some (x,i,h))<|un3 fun x448 x456 x458=>some (d,b,p,x448))=some (d',b',p',x')∧SmD d'∧b'.length≤MX∧p'.b.length≤MX∧x'.length≤MX:=by
  intro f i h g0 g1 hok
  cases f with
  | false=>exact ⟨d,b,p,x,rfl,hd.sm,by omega,by omega,hx3⟩
  | true =>
   have hok:=hok rfl;unfold c_6 at hok ⊢
   cases hfp:b_x d b p with
   | none=>rw [hfp] at hok;simp at hok
   | some q =>
    obtain ⟨_,_,hq,_,_⟩:=i_n hfp
    simp only
    rw [iP_ trivial]
    obtain ⟨w,i6,h6,e7,k0,k1,hw⟩:=m_7 hb hd q.1 hq n (by omega) i h 5 g0 g1 (by omega) (by omega)
    rw [e7,bd3_some]
    obtain ⟨y,e8,hy⟩:=m_9 hd q.1 w hw n (by omega);have hy:y.length≤61440:=Nat.le_trans hy<|i_A (by omega)
    rw [e8,bd_some,bd_some]
    exact ⟨d,b,p,y,rfl,hd.sm,by omega,by omega,by omega⟩
 cases hok:(c_6 d b p).2 with
 | false =>
  rw [iN_ (by simp),bd_some]
  exact fin false i5 h5 f0 f1 (fun h=>by cases h)
 | true =>
  rw [iP_ rfl]
  obtain ⟨g,i6,h6,e7,k0,k1,_⟩:=i_w (h:=h5) f0 f1 hb 3
  rw [e7,bd3_some,bd_some]
  exact fin (!g) i6 h6 k0 k1<|fun _=>hok
theorem p_T {ρ:Type} {body:Nat→Unit→Option (Out Unit ρ)} {n:Nat} (h : ∀ j,j<n→body j ()=some (.next ())):E_ body n 0 ()=some (.inl ()):=by
 have:=d_w (body:=body) (fun _=>()) (n:=n) h;exact this
theorem i_B (b:List UInt8):e_N b b=some true:=by
 unfold e_N
 rw [show ((b.length:Int) != (b.length:Int))=false by simp,iN_ (by simp)]
 rw [p_T (body:=fun k62=>(fun (_:Unit)=>bd (idx b ((k62:Nat):Int)) fun x103=>bd (idx b ((k62:Nat):Int)) fun x115=>if ((byteI x103) != (byteI x115))=true then some (.ret false) else some (.next ()))) (n:=b.length) (fun k hk=>by
  rw [ix_ hk,bd_some,bd_some,show (byteI b[k] != byteI b[k])=false by simp,iN_ (by simp)])]
 rfl
theorem p_U {d:f_} {b:List UInt8} (hv:S_ d=true) : ∀ (i:Nat),i<d.rules.length → ∀ (at_:Nat) (path:Str) (e:K_),at_≤b.length→(rdW d.rules b i at_).2.2=0→e∈ixW d.rules b i at_ path→0≤e.end_∧e.end_≤(b.length:Int):=by
 intro i
 induction i using Nat.strongRecOn with
 | _ i ih =>
  intro hi at_ path x ha hok hx;obtain ⟨ks,e,h⟩:=g_n hv hi ha hok
  rw [k_i hv hi h path] at hx
  rcases List.mem_cons.1 hx with rfl | hx
  ·have:=a_X (b:=b) hv i hi at_ ha
   simp only;omega
  ·obtain ⟨m,hm,hx⟩:=l_w _ _ _ hx;have hr:=b_a hv hi;have hkr:=hr.kids _<|h.kids _<|gE_ hm;have hP:=l_v h.ch m hm;exact ih ks[m].toNat (by omega) (by omega) _ _ x hP.1 hP.2 hx
theorem p_V {d:f_} {b:List UInt8} (h:okF d b=true):(rdW d.rules b (d.rules.length - 1) 0).2.1=b.length:=by
 obtain ⟨hv,hb,hi,hroot,h0,_,e⟩:=i_e h;have hle:=a_X (b:=b) hv _ hi 0<|Nat.zero_le _;unfold okF at h
 unfold c_f at h
 by_cases hc:(a_S d (a_H d) b 0).2.2=0∧(a_S d (a_H d) b 0).2.1<(b.length:Int)
 ·rw [iP_ hc] at h;simp at h
 ·have e2:c_f d b=a_S d (a_H d) b 0:=by unfold c_f;rw [iN_ hc]
  rw [e] at e2
  have h3:(a_S d (a_H d) b 0).2.1=((rdW d.rules b (d.rules.length - 1) 0).2.1:Int):=by rw [← e2];rfl
  have h4:(a_S d (a_H d) b 0).2.2=0:=by rw [← e2];exact h0
  have h5 : ¬ (a_S d (a_H d) b 0).2.1<(b.length:Int):=fun hlt=>hc ⟨h4,hlt⟩
  omega
theorem p_W {d:f_} {b:List UInt8} (hk:0<(b_2 d b).length):S_ d=true∧(b_2 d b)[0].start=0∧(b_2 d b)[0].end_=(b.length:Int) ∧ ∀ e∈b_2 d b,0≤e.end_∧e.end_≤(b.length:Int):=by
 have hok:okF d b=true:=by
  cases h:okF d b with
  | true=>rfl
  | false=>unfold b_2 at hk;rw [h] at hk;simp at hk
 obtain ⟨hv,hb,hi,hroot,h0,_,e⟩:=i_e hok;have he:=p_V hok
 have hd : ∀ e∈b_2 d b,0≤e.end_∧e.end_≤(b.length:Int):=fun e h=>by
  unfold b_2 at h
  rw [iP_ hok] at h
  exact p_U hv _ hi 0 _ e (Nat.zero_le _) h0 h
 have hx:(b_2 d b)[0]? = some (⟨⟨[]⟩,((d.rules.length - 1:Nat):Int),((0:Nat):Int),((rdW d.rules b (d.rules.length - 1) 0).2.1:Int)⟩:K_):=by
  unfold b_2
  rw [iP_ hok,ixW];rfl
 obtain ⟨_,hx⟩:=gS_.1 hx
 rw [hx]
 exact ⟨hv,rfl,by simp only;omega,hd⟩
theorem p_X {l:List K_} {x y:Int} {N:Nat} (hN:N≤1000000) (hL:l.length≤1000000) (hx:0≤x∧x≤N) (hy:0≤y) (hl : ∀ e∈l,0≤e.end_∧e.end_≤(N:Int)) (h0 : ∀ h:0<l.length,l[0].start≤x∧x≤l[0].end_∧y≤l[0].end_ - x) : ∀ (m k:Nat) (hk:k<l.length),k<m →
  ∃ q:Nat,∃ hq:q<l.length,Y_ (σ:=Int) (ρ:=Int) (fun x141=>if (decide<|0≤x141)=true then bd (idx l x141) fun x205=>bd (α:=Bool) (if (decide<|x205.start≤x)=true then if (decide<|x≤x205.end_)=true then some (decide<|y≤(D_ x205.end_ x)) else some false else some false) (fun x238=>if x238=true then some (.ret x141) else some (.next<|D_ x141 1)) else some (.brk x141)) m (k:Int)=some (.inr (q:Int))∧l[q].start≤x∧x≤l[q].end_∧y≤l[q].end_ - x:=by
 intro m
 induction m with
 | zero=>intro k hk hm;omega
 | succ m ih =>
  intro k hk hm;unfold Y_;have hlk:=hl _<|gE_ hk
  rw [dT_ (show (0:Int)≤(k:Int) by omega),iP_ rfl,ix_ hk,bd_some,a_r (x:=l[k].end_) (by omega) (by omega)]
  by_cases hc:l[k].start≤x∧x≤l[k].end_∧y≤l[k].end_ - x
  ·rw [dT_ hc.1,iP_ rfl,dT_ hc.2.1,iP_ rfl,dT_ hc.2.2,bd_some,iP_ rfl]
   exact ⟨k,hk,rfl,hc⟩
  ·have hb:(if (decide<|l[k].start≤x)=true then if (decide<|x≤l[k].end_)=true then some (decide<|y≤l[k].end_ - x) else some false else some false)=some false:=by
    by_cases h1:l[k].start≤x
    ·by_cases h2:x≤l[k].end_
     ·have h3 : ¬ y≤l[k].end_ - x:=fun h=>hc ⟨h1,h2,h⟩
      rw [dT_ h1,iP_ rfl,dT_ h2,iP_ rfl,dF_ h3]
     ·rw [dT_ h1,iP_ rfl,dF_ h2,iN_ (by simp)]
    ·rw [dF_ h1,iN_ (by simp)]
   rw [hb,bd_some,iN_ (by simp)]
   cases k with
   | zero=>exact absurd (h0 hk) hc
   | succ k =>
    rw [a_r (by omega) (by omega),show ((k+1:Nat):Int) - 1=(k:Int) by omega]
    exact ih k (by omega) (by omega)
theorem p_Y {n:Nat} (hn:4000000≤n) (c:List UInt8):f_L n c=some true:=by
 have hMX:=MXv;unfold f_L h_i
 rw [bd_some]
 by_cases h1:(1048576:Int)<(c.length:Int)
 ·rw [dT_ h1];rfl
 rw [dF_ h1,iN_ (by simp)]
 obtain ⟨d,b,p,x,e,hd,hb,hp,hx⟩:=p_S (c:=c) (by omega) (n:=n) (by omega)
 rw [e,bd4_some,p_A hd hb (by omega) hp hx,bd2_some,p_w hd hb (by omega) hp hx,bd2_some]
 rw [bN_,iN_ (by simp)]
 unfold g_j
 cases hf:b_x d b p with
 | none =>
  simp only [Bool.not_false,fT_]
  rw [i_B,bd_some]
 | some q =>
  obtain ⟨hv,hb4,g1,g2,g0⟩:=i_n hf;have hle:=a_X (b:=b) hv q.1 g1 q.2 g2
  simp only
  by_cases hc:(b_x d (b_y b q.2 (rdW d.rules b q.1 q.2).2.1 x) p).isSome=true∧okF d (b_y b q.2 (rdW d.rules b q.1 q.2).2.1 x)=true∧(rdW d.rules (b_y b q.2 (rdW d.rules b q.1 q.2).2.1 x) q.1 q.2).2.1=q.2+x.length
  ·rw [iP_ hc]
   simp only [nT_,bF_,fF_]
   rw [i_o hd (by omega) hp]
   unfold c_6
   rw [hf]
   simp only [bd2_some]
   rw [o_V hd (by omega),bd2_some,a_r (by omega) (by omega),l_R hb hx,k_5 hle.1 hle.2]
   have hlen:(b_2 d b).length≤10000:=indexP_len'
   by_cases h0:0<(b_2 d b).length
   ·obtain ⟨_,s0,e0,he⟩:=p_W h0;obtain ⟨k,hk,e1,k1,k2,k3⟩:=p_X (l:=b_2 d b) (x:=(q.2:Int)) (y:=((rdW d.rules b q.1 q.2).2.1:Int) - (q.2:Int)) (N:=b.length) (by omega) (by omega) (by omega) (by omega) he (fun _=>by rw [s0,e0];omega) n ((b_2 d b).length - 1) (by omega) (by omega)
    have e2:e_e n (b_2 d b) (q.2:Int) (((rdW d.rules b q.1 q.2).2.1:Int) - (q.2:Int))=some (k:Int):=by
     unfold e_e
     rw [dF_ (show ¬ (q.2:Int)<0 by omega),dF_ (show ¬ ((rdW d.rules b q.1 q.2).2.1:Int) - (q.2:Int)<0 by omega),iN_ (by simp),bd_some,iN_ (by simp),a_r (by omega) (by omega),show ((b_2 d b).length:Int) - 1=(((b_2 d b).length - 1:Nat):Int) by omega,e1]
     rfl
    rw [e2,bd_some,bd2_some,iP_ rfl,i_B,bd_some,iP_ rfl,i_f hd (by omega),hc.2.1,bd_some,iP_ rfl,iN_ (show ¬ (((b_2 d b).length:Int)==0)=true by rw [beq_iff_eq];omega),dT_ (show (0:Int)≤(k:Int) by omega),iP_ rfl,dT_ (show (k:Int)<((b_2 d b).length:Int) by omega),iP_ rfl,ix_ hk,bd_some,dT_ k1,iP_ rfl,bd_some,dT_ (by omega)]
    rfl
   ·have hnil:b_2 d b=[]:=List.eq_nil_of_length_eq_zero (by omega)
    have e2 : ∃ z,e_e n (b_2 d b) (q.2:Int) (((rdW d.rules b q.1 q.2).2.1:Int) - (q.2:Int))=some z:=by
     obtain ⟨m,rfl⟩ : ∃ m,n=m+1:=⟨n - 1,by omega⟩
     rw [hnil]
     unfold e_e
     rw [dF_ (show ¬ (q.2:Int)<0 by omega),dF_ (show ¬ ((rdW d.rules b q.1 q.2).2.1:Int) - (q.2:Int)<0 by omega),iN_ (by simp),bd_some,iN_ (by simp)]
     exact ⟨-1,rfl⟩
    obtain ⟨z,e2⟩:=e2
    rw [e2,bd_some,bd2_some,iP_ rfl,i_B,bd_some,iP_ rfl,i_f hd (by omega),hc.2.1,bd_some,iP_ rfl,hnil]
    rfl
  ·rw [iN_ hc]
   simp only [Bool.not_false,fT_]
   rw [i_B,bd_some]
end Go.Vw
