
import Derived.Test.YtajhmimbhplkfaaGreatDoorVwP56
set_option linter.unusedVariables false
namespace Go.Vw
open Go.RowKit Dat
def d_U (s:List UInt8):Prop:=∀ c∈s,c ≠ 47
def d_V (s:List UInt8):Prop:=s=[] ∨ ∃ t,s=47::t
theorem l_0 : ∀ {a b s t:List UInt8},d_U a→d_U b→d_V s→d_V t→a++s=b++t→a=b∧s=t
 | [],[],_,_,_,_,_,_,h=>⟨rfl,h⟩
 | [],c::b,s,t,_,hb,hs,_,h=>by
  rcases hs with rfl | ⟨u,rfl⟩
  ·cases h
  ·simp only [List.nil_append,List.cons_append,List.cons.injEq] at h
   exact absurd h.1.symm<|hb c mS_
 | c::a,[],s,t,ha,_,_,ht,h=>by
  rcases ht with rfl | ⟨u,rfl⟩
  ·cases h
  ·simp only [List.nil_append,List.cons_append,List.cons.injEq] at h
   exact absurd h.1<|ha c mS_
 | c::a,c'::b,s,t,ha,hb,hs,ht,h=>by
  simp only [List.cons_append,List.cons.injEq] at h
  obtain ⟨rfl,h⟩:=h;obtain ⟨rfl,rfl⟩:=l_0 (fun x hx=>ha x<|mT_ _ hx) (fun x hx=>hb x<|mT_ _ hx) hs ht h;exact ⟨rfl,rfl⟩
def l_1 (q:List UInt8) (lo hi:Int) (e:k_):Prop:=(∃ st,e.path.b=q++47::st∧d_U st)∧lo≤e.start∧e.end_≤hi
def ParOf (p e:k_):Prop:=l_1 p.path.b p.start p.end_ e
structure Tr (path:List UInt8) (at_ en:Nat) (l:List k_):Prop where
 head : ∃ e t,l=e::t∧e.path.b=path∧e.start=(at_:Int)∧e.end_=(en:Int)
 suf : ∀ e∈l,∃ s,e.path.b=path++s∧d_V s
 nd:(l.map (·.path.b)).Nodup
 par : ∀ k (hk:k<l.length),0<k → ∃ j,∃ hj:j<k,ParOf l[j] l[k]
 pos : ∀ e∈l,e.start<e.end_
structure Fo (path:List UInt8) (st:Nat→List UInt8) (lo hi:Int) (N j:Nat) (l:List k_):Prop where
 suf : ∀ e∈l,∃ m,j≤m∧m<N ∧ ∃ s,e.path.b=path++47::(st m++s)∧d_V s
 nd:(l.map (·.path.b)).Nodup
 par : ∀ k (hk:k<l.length),l_1 path lo hi l[k] ∨ ∃ j,∃ hj:j<k,ParOf l[j] l[k]
 pos : ∀ e∈l,e.start<e.end_
theorem o_U {α:Type} {A R:List α} {k:Nat} (hk:k<(A++R).length):(∃ h:k<A.length,(A++R)[k]=A[k])∨(∃ h:k - A.length<R.length,A.length≤k∧(A++R)[k]=R[k - A.length]):=by
 rcases Nat.lt_or_ge k A.length with h | h
 ·exact .inl ⟨h,List.getElem_append_left h⟩
 ·exact .inr ⟨by rw [List.length_append] at hk;omega,h,List.getElem_append_right h⟩
theorem l_2 {rd:Int→Nat→RR} {L:Nat} {f:Int→Nat→Str→List k_} {r:e_} {path:Str} {N:Nat} {lo hi:Int} (hst : ∀ m,m<N→d_U (a_m r m).b) (hin : ∀ m m',m<N→m'<N→(a_m r m).b=(a_m r m').b→m=m') :
  ∀ (ks:List Int) (j pos:Nat) (vs:List Val) (e:Nat),j+ks.length=N→c_f rd L ks pos vs e→(∀ k∈ks,∀ p q,p≤L→(rd k p).2.2=0→Tr q.b p (rd k p).2.1 (f k p q)∧p≤(rd k p).2.1)→lo≤(pos:Int)→(e:Int)≤hi →
  Fo path.b (fun m=>(a_m r m).b) lo hi N j (ixL f (fun k p=>(rd k p).2.1) r path ks j pos)∧pos≤e
 | [],j,pos,vs,e,hN,h,_,_,_=>⟨⟨fun e h=>by simp [ixL] at h,by simp [ixL],fun k hk=>by simp [ixL] at hk,fun e h=>by simp [ixL] at h⟩,by rw [h.2];exact Nat.le_refl _⟩
 | k::ks,j,pos,vs,e,hN,h,hf,hlo,hhi=>by
  obtain ⟨hp,h0,ws,_,hrest⟩:=h
  rw [lC_] at hN
  obtain ⟨T,hle⟩:=hf k mS_ pos (b_9 r path j) hp h0;obtain ⟨F,hle2⟩:=l_2 (lo:=lo) (hi:=hi) (path:=path) (f:=f) hst hin ks (j+1) _ ws e (by omega) hrest (fun k hk=>hf k<|mT_ _ hk) (by omega) hhi;unfold ixL;have hpe:(b_9 r path j).b=path.b++47::(a_m r j).b:=by unfold b_9;simp
  rw [hpe] at T
  generalize f k pos (b_9 r path j)=A at T
  generalize ixL f (fun k p=>(rd k p).2.1) r path ks (j+1) (rd k pos).2.1=R at F
  refine ⟨⟨?_,?_,?_,?_⟩,by omega⟩
  ·intro x hx
   rcases List.mem_append.1 hx with hx | hx
   ·obtain ⟨s,h1,h2⟩:=T.suf x hx;exact ⟨j,Nat.le_refl _,by omega,s,by rw [h1];simp,h2⟩
   ·obtain ⟨m,h1,h2,h3⟩:=F.suf x hx;exact ⟨m,by omega,h2,h3⟩
  ·rw [List.map_append,List.nodup_append]
   refine ⟨T.nd,F.nd,fun x hx y hy hxy=>?_⟩;obtain ⟨a,ha,rfl⟩:=List.mem_map.1 hx;obtain ⟨c,hc,rfl⟩:=List.mem_map.1 hy;obtain ⟨s,h1,h2⟩:=T.suf a ha;obtain ⟨m,g1,g2,t,g3,g4⟩:=F.suf c hc
   rw [h1,g3,List.append_assoc,List.cons_append] at hxy
   have hxy:=List.append_cancel_left hxy
   simp only [List.cons.injEq,true_and] at hxy
   have:=(l_0 (hst j (by omega)) (hst m g2) h2 g4 hxy).1;have:=hin j m (by omega) g2 this
   omega
  ·intro q hq
   rcases o_U hq with ⟨hqa,e1⟩ | ⟨hqr,hge,e1⟩
   ·rw [e1]
    by_cases hq0:q=0
    ·subst hq0;obtain ⟨x,t,rfl,h1,h2,h3⟩:=T.head
     left
     exact ⟨⟨(a_m r j).b,h1,hst j (by omega)⟩,by show lo≤x.start;omega,by show x.end_≤hi;omega⟩
    ·obtain ⟨i,hi,hP⟩:=T.par q hqa (by omega)
     right
     refine ⟨i,hi,?_⟩
     rw [List.getElem_append_left (by omega)];exact hP
   ·rw [e1]
    rcases F.par _ hqr with h | ⟨i,hi,hP⟩
    ·exact .inl h
    ·right
     refine ⟨i+A.length,by omega,?_⟩
     rw [List.getElem_append_right (by omega)]
     simp only [Nat.add_sub_cancel];exact hP
  ·intro x hx
   rcases List.mem_append.1 hx with hx | hx
   ·exact T.pos x hx
   ·exact F.pos x hx
section
variable {d:d_} {b:List UInt8}
theorem tree (hv:a_1 d=true) : ∀ (i:Nat),i<d.rules.length → ∀ (at_:Nat) (path:Str),at_≤b.length→(rdW d.rules b i at_).2.2=0→Tr path.b at_ (rdW d.rules b i at_).2.1 (ixW d.rules b i at_ path):=by
 intro i
 induction i using Nat.strongRecOn with
 | _ i ih =>
  intro hi at_ path ha hok;obtain ⟨ks,e,h⟩:=c_w hv hi ha hok;have hlt:=l_e (b:=b) hv i hi at_ ha hok
  rw [d_l hv hi h path]
  have hsteps:(∀ m,m<ks.length→d_U (a_m d.rules[i] m).b) ∧ ∀ m m',m<ks.length→m'<ks.length→(a_m d.rules[i] m).b=(a_m d.rules[i] m').b→m=m':=by
   by_cases hne:ks=[]
   ·subst hne;exact ⟨fun m hm=>by simp at hm,fun m m' hm=>by simp at hm⟩
   ·have E:=k_D hv hi ha hok h hne;obtain ⟨g1,g2⟩:=k_C (a_P hv hi).kind E h.small;exact ⟨fun m hm=>(g2 m hm).char,fun m m' hm hm'=>g1 m m' hm hm'⟩
  have hst:=h.st;have hle:=h.le
  obtain ⟨F,hpe⟩:=l_2 (rd:=fun k p=>rdW d.rules b k.toNat p) (L:=b.length) (f:=fun k p q=>ixW d.rules b k.toNat p q) (r:=d.rules[i]) (path:=path) (N:=ks.length) (lo:=(at_:Int)) (hi:=((rdW d.rules b i at_).2.1:Int)) hsteps.1 hsteps.2 ks 0 _ _ e (by omega) h.ch (fun k hk p q hp h0=>by
   have hk2:=(a_P hv hi).kids k (h.kids k hk)
   exact ⟨ih k.toNat (by omega) (by omega) p q hp h0,(b_H (b:=b) hv k.toNat (by omega) p hp).1⟩) (by omega) (by omega)
  generalize ixL (fun k p q=>ixW d.rules b k.toNat p q) (fun k p=>(rdW d.rules b k.toNat p).2.1) d.rules[i] path ks 0 (a_4 d.rules d.rules[i] at_)=C at F
  refine ⟨⟨_,_,rfl,rfl,rfl,rfl⟩,?_,?_,?_,?_⟩
  ·intro x hx
   rcases List.mem_cons.1 hx with rfl | hx
   ·exact ⟨[],by simp,.inl rfl⟩
   ·obtain ⟨m,_,_,s,h1,_⟩:=F.suf x hx;exact ⟨_,h1,.inr ⟨_,rfl⟩⟩
  ·rw [List.map_cons,List.nodup_cons]
   refine ⟨fun hx=>?_,F.nd⟩;obtain ⟨x,hx,he⟩:=List.mem_map.1 hx;obtain ⟨m,_,_,s,h1,_⟩:=F.suf x hx
   rw [h1] at he
   have:=congrArg List.length he
   simp at this
  ·intro k hk hk0;obtain ⟨k,rfl⟩ : ∃ m,k=m+1:=⟨k - 1,by omega⟩
   rw [lC_] at hk
   rcases F.par k (by omega) with h | ⟨j,hj,hP⟩
   ·exact ⟨0,by omega,h⟩
   ·exact ⟨j+1,by omega,hP⟩
  ·intro x hx
   rcases List.mem_cons.1 hx with rfl | hx
   ·show (at_:Int)<((rdW d.rules b i at_).2.1:Int);omega
   ·exact F.pos x hx
theorem l_3 {rd:Int→Nat→RR} {L:Nat} : ∀ {ks:List Int} {p:Nat} {vs:List Val} {e:Nat},c_f rd L ks p vs e → ∀ m (hm:m<ks.length) (hv:m<vs.length),vs[m]=(rd ks[m] (b_p (fun k p=>(rd k p).2.1) ks p m)).1
 | k::ks,p,vs,e,h,0,_,_=>by
  obtain ⟨h1,h2,ws,rfl,_⟩:=h
  rfl
 | k::ks,p,vs,e,h,m+1,hm,hv=>by
  obtain ⟨_,_,ws,rfl,h3⟩:=h;have:=l_3 h3 m (by simpa using hm) (by simpa using hv)
  rw [f_i]
  simpa using this
theorem l_4 {f:Int→Nat→Str→List k_} {en:Int→Nat→Nat} {r:e_} {path:Str} : ∀ (ks:List Int) (j pos:Nat),(ixL f en r path ks j pos).length=((List.range ks.length).map (fun m=>(f (ks.getD m 0) (b_p en ks pos m)<|b_9 r path<|j+m).length)).sum
 | [],_,_=>rfl
 | k::ks,j,pos=>by
  unfold ixL
  rw [List.length_append,l_4 ks (j+1)<|en k pos,lC_,List.range_succ_eq_map,List.map_cons,List.sum_cons,List.map_map]
  congr 1
  congr 1
  refine List.map_congr_left fun m _=>?_
  simp only [Function.comp_def,f_i,List.getD_cons_succ]
  rw [show j+1+m=j+(m+1) by omega]
theorem l_5 (g:Nat→Nat) : ∀ (n k:Nat),k≤n→((List.range k).map g).sum≤((List.range n).map g).sum
 | 0,k,h=>by
  have:k=0:=by omega
  subst this;exact Nat.le_refl _
 | n+1,k,h=>by
  rcases Nat.lt_or_eq_of_le h with h | rfl
  ·have:=l_5 g n k (by omega)
   rw [List.range_succ,List.map_append,List.sum_append]
   omega
  ·exact Nat.le_refl _
theorem o_V {ρ:Type} {F:Val→Option Int} {l:List Val} {g:Nat→Nat} (h : ∀ j (hj:j<l.length),F l[j]=some (g j:Int)) (hs:((List.range l.length).map g).sum≤100000) :
  C_ (σ:=Int) (ρ:=ρ) (fun k92=>(fun x87=>bd (idx l ((k92:Nat):Int)) fun x130=>bd (F x130) fun r150=>some<|.next<|i_ x87 r150)) l.length 0 1=some (.inl ((1+((List.range l.length).map g).sum:Nat):Int)):=by
 refine k_N (fun k=>((1+((List.range k).map g).sum:Nat):Int)) rfl<|fun k hk=>?_;have h1:=l_5 g l.length (k+1) (by omega)
 rw [List.range_succ,List.map_append,List.sum_append] at h1
 simp only [List.map_cons,List.map_nil,List.sum_cons,List.sum_nil] at h1
 rw [ix_ hk,bd_some,h k hk,bd_some,ia_ (by omega) (by omega),List.range_succ,List.map_append,List.sum_append]
 simp only [List.map_cons,List.map_nil,List.sum_cons,List.sum_nil]
 congr 2
 omega
theorem o_W (hv:a_1 d=true) (hb:b.length≤400) : ∀ (i:Nat),i<d.rules.length → ∀ (at_:Nat) (path:Str) (n:Nat),at_≤b.length→(rdW d.rules b i at_).2.2=0→i+1≤n→l_x n (rdW d.rules b i at_).1=some ((ixW d.rules b i at_ path).length:Int):=by
 intro i
 induction i using Nat.strongRecOn with
 | _ i ih =>
  intro hi at_ path n ha hok hn;obtain ⟨m,rfl⟩ : ∃ m,n=m+1:=⟨n - 1,by omega⟩;obtain ⟨ks,e,h⟩:=c_w hv hi ha hok;have hsm:=h_d hv hb hi path ha hok
  rw [d_l hv hi h path] at hsm ⊢
  rw [lC_] at hsm ⊢
  rw [l_4] at hsm ⊢
  have hl:=d_W h.ch
  show f_y m (e_w m) (rdW d.rules b i at_).1=_
  unfold f_y
  rw [← hl] at hsm ⊢
  rw [o_V (g:=fun m=>(ixW d.rules b (ks.getD m 0).toNat (b_p (fun k p=>(rdW d.rules b k.toNat p).2.1) ks (a_4 d.rules d.rules[i] at_) m) (b_9 d.rules[i] path (0+m))).length) (fun j hj=>by
   have hj':j<ks.length:=by omega
   rw [l_3 h.ch j hj' hj,a_j hj']
   have hk2:=(a_P hv hi).kids _ (h.kids _<|gE_ hj');have hP:=e_p h.ch j hj'
   exact ih ks[j].toNat (by omega) (by omega) _ _ m hP.1 hP.2 (by omega)) (by omega)]
  rw [bd_some,el_inl]
  congr 2
  omega
theorem l_6 {q st:List UInt8} (h:d_U st) {p:Str} (hp:p.b=q++47::st) (hl:p.b.length≤1048576) : ∀ (m k:Nat),k≤st.length→k<m→a_7 (σ:=Int) (ρ:=Str) (fun x51=>if (decide<|0≤x51)=true then bd (idx p.b x51) fun x81=>if ((byteI x81)==(byteI (47:UInt8)))=true then bd (b_Z p 0 x51) fun x93=>some (.ret x93) else some (.next<|I_ x51 1) else some (.brk x51)) m ((q.length+k:Nat):Int)=some (.inr ⟨q⟩)
 | 0,k,_,hm=>by omega
 | m+1,0,hk,hm=>by
  have hlen:p.b.length=q.length+1+st.length:=by rw [hp];simp;omega
  unfold a_7
  have hx:p.b[q.length+0]'(by omega)=47:=by
   have:p.b[q.length+0]? = some 47:=by rw [hp];simp
   exact (gS_.1 this).2
  rw [dT_ (by omega),iP_ rfl,ix_ (by omega),bd_some,hx,iP_ (by simp)]
  have:b_Z p 0 ((q.length+0:Nat):Int)=some ⟨q⟩:=by
   unfold b_Z slc
   rw [iP_ ⟨by omega,by omega,by omega⟩,hp]
   simp
  rw [this,bd_some]
 | m+1,k+1,hk,hm=>by
  have hlen:p.b.length=q.length+1+st.length:=by rw [hp];simp;omega
  unfold a_7
  have hx:p.b[q.length+(k+1)]'(by omega) ≠ 47:=by
   have:p.b[q.length+(k+1)]? = some (st[k]'(by omega)):=by
    rw [hp,List.getElem?_append_right (by omega)]
    rw [show q.length+(k+1) - q.length=k+1 by omega]
    simp
   rw [(gS_.1 this).2]
   exact h _<|gE_ _
  have hx2:(byteI (p.b[q.length+(k+1)]'(by omega))==byteI (47:UInt8))=false:=by
   generalize p.b[q.length+(k+1)]'(by omega)=c at hx
   rw [beq_eq_false_iff_ne]
   intro hc;exact hx<|l_p.1 hc
  rw [dT_ (by omega),iP_ rfl,ix_ (by omega),bd_some,hx2,iN_ (by simp),a_F (by omega) (by omega)]
  have:=l_6 h hp hl m k (by omega) (by omega)
  rw [show ((q.length+(k+1):Nat):Int) - 1=((q.length+k:Nat):Int) by omega]
  exact this
theorem o_X {q st:List UInt8} (h:d_U st) {p:Str} (hp:p.b=q++47::st) (hl:p.b.length≤1048576) {n:Nat} (hn:1048600≤n):e_x n p=some ⟨q⟩:=by
 have hlen:p.b.length=q.length+1+st.length:=by rw [hp];simp;omega
 unfold e_x
 rw [a_F (by omega) (by omega),show (p.b.length:Int) - 1=((q.length+st.length:Nat):Int) by omega,l_6 h hp hl n st.length (Nat.le_refl _) (by omega)]
 rfl
theorem l_7 {l:List k_} (hnd:(l.map (·.path.b)).Nodup) {j:Nat} (hj:j<l.length) {p:Str} (hp:p.b=l[j].path.b):d_q l p=some (j:Int):=by
 unfold d_q h_n h_m
 rw [e_u (fun k=>if hk:k<l.length then l[k].path.b==p.b else false) (fun k=>(k:Int)) (fun k hk _=>by
  rw [ix_ hk,bd_some,bd_some,dif_pos hk]
  cases (l[k].path.b==p.b) <;> rfl)]
 have:(List.range l.length).find? (fun k=>if hk:k<l.length then l[k].path.b==p.b else false)=some j:=by
  rw [List.find?_eq_some_iff_getElem]
  refine ⟨by rw [dif_pos hj,hp];simp,j,by simpa using hj,by simp,fun i hi=>?_⟩
  simp only [List.getElem_range]
  rw [dif_pos (by omega),hp]
  simp only [Bool.not_eq_true',beq_eq_false_iff_ne]
  intro he
  rw [List.nodup_iff_pairwise_ne,List.pairwise_iff_getElem] at hnd
  exact hnd i j (by simp;omega) (by simpa using hj) hi (by simpa using he)
 rw [this];rfl
theorem o_Y {s:Str} (h:d_V s.b) (hl:s.b.length≤MX):f_z s ⟨[]⟩=some true:=by
 have hMX:=MXv;have hLIM:=a_D;unfold f_z h_p h_o
 rcases h with h | ⟨t,h⟩
 ·rw [h];rfl
 ·rw [show (s.b==(⟨[]⟩:Str).b)=false by rw [h];rfl,iN_ (by simp),d_n (by simp;omega),bd_some]
  have hlen:1≤s.b.length:=by rw [h];simp
  show bd (bd (α:=Bool) (bd (α:=Bool) (if (decide<|((1:Nat):Int)≤(s.b.length:Int))=true then bd (b_Z s 0 ((1:Nat):Int)) fun x33=>some (x33.b==[47]) else some false)<|fun x27=>some x27) (fun r21=>some r21) |> fun z=>bd z fun r42=>some r42) (fun x32=>some x32)=some true
  rw [dT_ (show ((1:Nat):Int)≤(s.b.length:Int) by omega),iP_ rfl]
  have:b_Z s 0 ((1:Nat):Int)=some ⟨[47]⟩:=by
   unfold b_Z slc
   rw [iP_ ⟨by omega,by omega,by omega⟩,h]
   simp
  rw [this]
  rfl
theorem o_Z {l:List k_} (hl:l.length≤10000) (h : ∀ e∈l,d_V e.path.b∧e.path.b.length≤MX):f_A l ⟨[]⟩=some l:=by
 have hLIM:=a_D;unfold f_A h_r h_q;refine (congrArg (fun z=>bd (bd z _) _)<|k_N (fun k=>l.take k) (n:=l.length) rfl<|fun k hk=>?_).trans ?_
 ·have:=h _<|gE_ hk
  rw [ix_ hk,bd_some,o_Y this.1 this.2,bd_some,bd_some,iP_ rfl,a_Q (by rw [List.length_take];omega),bd_some,bd_some,List.take_add_one,gG_ hk]
  rfl
 ·rw [bd_some,el_inl,bd_some,List.take_length]
theorem p_0 {e:k_} (h0:0≤e.start) (h1:e.start<e.end_) (h2:e.end_≤(b.length:Int)) (hb:b.length≤MX) : ∃ l,e_L b e=some l∧(l.length:Int)=e.end_ - e.start:=by
 have hMX:=MXv;have hLIM:=a_D;unfold e_L
 rw [dF_ (by omega),iN_ (by simp),dF_ (by omega),iN_ (by simp),dF_ (by omega),bd_some,iN_ (by simp),o_u (by omega) (by omega) (by omega),bd_some,app_nil' (by simp;omega),bd_some]
 exact ⟨_,rfl,by simp;omega⟩
end
theorem p_1 {α β γ δ:Type} (x:α×β×γ) (f:α→β→γ→Option δ):bd3 (some x) f=f x.1 x.2.1 x.2.2:=rfl
theorem p_2 {n:Nat} (hn:4000000≤n) (c:List UInt8):f_B n c=some true:=by
 have hMX:=MXv;unfold f_B g_r
 rw [bd_some]
 by_cases h1:(1048576:Int)<(c.length:Int)
 ·rw [dT_ h1];rfl
 rw [dF_ h1,iN_ (by simp)]
 obtain ⟨d,b,e,hd,hb⟩:=o_Q (c:=c) (by omega) (n:=n) (by omega);have hl:(b_t d b).length≤10000:=indexP_len';have hin:=o_T (d:=d) (b:=b)
 rw [e,bd3_some,o_9 hd.sm (by omega),bd2_some]
 cases hok:okF d b with
 | false =>
  have:b_t d b=[]:=by unfold b_t;rw [hok];rfl
  rw [this]
  rfl
 | true =>
  obtain ⟨hv,hb4,hi,hroot,h0,hrv,_⟩:=e_n hok;have T:=tree (b:=b) hv _ hi 0 ⟨[]⟩ (Nat.zero_le _) h0;have hC:=o_W hv hb4 _ hi 0 ⟨[]⟩ n (Nat.zero_le _) h0 (by have:=(b_E hv).2;omega);have hend:=o_L hok;have hix:ixW d.rules b (d.rules.length - 1) 0 ⟨[]⟩=b_t d b:=by unfold b_t;rw [hok];rfl
  rw [hix,hend] at T
  rw [hix] at hC
  have hsuf : ∀ e∈b_t d b,d_V e.path.b∧e.path.b.length≤MX:=fun e he=>by
   obtain ⟨s,h1,h2⟩:=T.suf e he
   simp only [List.nil_append] at h1
   refine ⟨by rw [h1];exact h2,?_⟩;have hm:=hix ▸ he;obtain ⟨ss,i',p',Lc⟩:=o_p hv hd.sm hb4 _ hi 0 ⟨[]⟩ e (Nat.zero_le _) h0 hm;have h3:=k_F ss Lc.good;have h4:=Lc.len;have h5:=(b_E hv).2
   rw [Lc.path]
   simp only [List.nil_append]
   omega
  have hsame:=o_R<|b_t d b
  rw [l_h hd.sm (by omega)]
  generalize b_t d b=l at *
  obtain ⟨x,t,hxt,p1,p2,p3⟩:=T.head;have hl0:0<l.length:=by rw [hxt];simp
  have hx0:l[0]=x:=by simp [hxt]
  rw [dT_ (show (0:Int)<(l.length:Int) by omega),bN_,iN_ (by simp),hsame.2,bd_some,bd_some,iN_ (by simp),iN_ (by simp)]
  rw [p_1]
  rw [show (b_A d b).1=_ from hrv,hC,bd_some,bN_,iN_ (by simp),b_1 hl0,bd_some,hx0,p1,bN_,iN_ (by simp),bd_some,p2,iN_ (by simp),bd_some,p3,bN_,bd_some,iN_ (by simp)]
  have hstep : ∀ k,1≤k → ∀ hk:k<l.length,∃ q:Nat,∃ hq:q<k,e_x n l[k].path=some (l[q]'(by omega)).path∧d_q l (l[q]'(by omega)).path=some (q:Int)∧(l[q]'(by omega)).start≤l[k].start∧l[k].end_≤(l[q]'(by omega)).end_∧d_q l l[k].path=some (k:Int)∧(∃ bs,e_L b l[k]=some bs∧(bs.length:Int)=l[k].end_ - l[k].start)∧l[k].start<l[k].end_:=by
   intro k hk1 hk;obtain ⟨q,hq,⟨st,g1,g2⟩,g3,g4⟩:=T.par k hk (by omega);have hm:=gE_ hk;have hi2:=hin _ hm;have hp:=T.pos _ hm;have hs:=hsuf _ hm;exact ⟨q,hq,o_X g2 g1 (by omega) (by omega),l_7 T.nd (by omega) rfl,g3,g4,l_7 T.nd hk rfl,p_0 hi2.1 hp hi2.2.2.2 (by omega),hp⟩
  refine (congrArg (fun z=>bd z _)<|l_s (fun k=>((k+1:Nat):Int)) (s:=(l.length:Int)) (m:=n) (j0:=l.length - 1) (by omega) (fun k hk=>?_) ?_).trans ?_
  ·obtain ⟨q,hq,g1,g2,g3,g4,g5,⟨bs,g6,g7⟩,g8⟩:=hstep (k+1) (by omega) (by omega);have hi2:=hin _<|gE_ (show k+1<l.length by omega)
   rw [dT_ (show ((k+1:Nat):Int)<(l.length:Int) by omega),iP_ rfl,ix_ (by omega),bd_some,g1,bd_some,g2,bd_some,dF_ (by omega),iN_ (by simp),dF_ (by omega),iN_ (by simp),bd_some,ix_ (by omega),bd_some,dF_ (by omega),iN_ (by simp),bd_some,bd_some,dF_ (by omega),iN_ (by simp),bd_some,bd_some,dF_ (by omega),iN_ (by simp),bd_some,bd_some,bd_some,g6,bd_some,a_F (by omega) (by omega),g7,bN_,iN_ (by simp),bd_some,g5,bd_some,bN_,bd_some,iN_ (by simp),ia_ (by omega) (by omega)]
   rfl
  ·rw [show ((l.length - 1+1:Nat):Int)=(l.length:Int) by omega,dF_ (by omega),iN_ (by simp)]
  ·rw [bd_some,el_inl,o_Z hl hsuf,bd_some]
   simp
end Go.Vw
