
import Derived.Test.YtajhmimbhplkfaaGreatDoorVwP9
set_option linter.unusedVariables false
namespace Go.Vw
open Go.RowKit Dat
section
variable {d:d_} {b:List UInt8}
theorem k_y {n:Nat} (hv:a_1 d=true) {i:Nat} (hi:i<d.rules.length) (hb:b.length≤400) (hn:30≤n) {ks:List Int} {num:Int} (hitem : ∀ j (hj:j<ks.length),Y_ d.rules[i] num j=ks[j]) (hkk : ∀ k∈ks,0≤k∧k<(i:Int)) (h40:ks.length≤40) {path:Str} (hpath:path.b.length+32≤1000000)
  (ih : ∀ k,k<i → ∀ p q,p≤b.length→(rdW d.rules b k p).2.2=0→q.b.length≤path.b.length+22→h_t n d k b p q=some (ixW d.rules b k p q,((rdW d.rules b k p).2.1:Int)))
  (body:Nat→(List k_)×Int→Option (Out ((List k_)×Int)<|(List k_)×Int)) (hbd:body=(fun k712=>un2 fun x699 x707=>bd (cat path (⟨[47]⟩:Str)) fun x914=>bd (b_a d.rules[i] num ((k712:Nat):Int)) fun r970=>bd (d_Z n d.rules[i] ((k712:Nat):Int)) fun r982=>bd (cat x914 r982) fun x988=>bd2 ((d_w n).spec_l19Build d r970 b x707 x988) fun r1013 r1014=>bd (app x699 r1013) fun x1040=>some<|.next (x1040,r1014))) :
  ∀ m k (pos:Nat) (vs:List Val) (e:Nat) (out:List k_),k+m=ks.length→out.length≤1+k * 10000→c_f (fun k p=>rdW d.rules b k.toNat p) b.length (ks.drop k) pos vs e →
  C_ body m k (out,(pos:Int))=some (.inl (out++ixL (fun k p q=>ixW d.rules b k.toNat p q) (fun k p=>(rdW d.rules b k.toNat p).2.1) d.rules[i] path (ks.drop k) k pos,(e:Int)))
 | 0,k,pos,vs,e,out,hk,_,hch=>by
  rw [List.drop_of_length_le (by omega)] at *
  rw [hch.2]
  simp [C_,ixL]
 | m+1,k,pos,vs,e,out,hk,ho,hch=>by
  have hLIM:=a_D;have hr:=a_P hv hi;have hlt:k<ks.length:=by omega
  rw [dC_ hlt] at *
  obtain ⟨hp,h0,ws,_,hrest⟩:=hch
  simp only at h0 hrest
  have hkr:=hkk _<|gE_ hlt;have hst:=j_s hr.kind k (by omega);have hsm:=h_d hv hb (show ks[k].toNat<d.rules.length by omega) (b_9 d.rules[i] path k) hp h0
  have hone:body k (out,(pos:Int))=some (.next (out++ixW d.rules b ks[k].toNat pos (b_9 d.rules[i] path k),((rdW d.rules b ks[k].toNat pos).2.1:Int))):=by
   rw [hbd]
   simp only [un2]
   rw [d_n (by simp only [lC_,List.length_nil];omega),bd_some,c_S<|d_S hr.kind,bd_some,hitem k hlt,j_r hn _ k (by omega),bd_some,d_n (by simp only [List.length_append,lC_,List.length_nil];omega),bd_some]
   have hrec:=ih ks[k].toNat (by omega) pos (b_9 d.rules[i] path k) hp h0 (l_m hr.kind (by omega))
   rw [show ((ks[k].toNat:Nat):Int)=ks[k] by omega] at hrec
   rw [show (d_w n).spec_l19Build d ks[k] b (pos:Int) ⟨path.b++[47]++(a_m d.rules[i] k).b⟩=h_t n d ks[k] b (pos:Int) (b_9 d.rules[i] path k) from rfl,hrec]
   simp only [bd2_some]
   rw [c_g (by omega),bd_some]
  unfold C_ ixL
  rw [hone]
  simp only
  rw [k_y hv hi hb hn hitem hkk h40 hpath ih body hbd m (k+1) _ ws e _ (by omega) (by rw [List.length_append];omega) hrest]
  simp
theorem o_6 (hv:a_1 d=true) (hd:SmD d) (hb:b.length≤400) : ∀ (i:Nat) (hi:i<d.rules.length),∀ n,4 * i+600≤n → ∀ (at_:Nat) (path:Str),at_≤b.length→(rdW d.rules b i at_).2.2=0→path.b.length+22 * i+32≤1000000 →
  h_t n d i b at_ path=some (ixW d.rules b i at_ path,((rdW d.rules b i at_).2.1:Int)):=by
 intro i
 induction i using Nat.strongRecOn with
 | _ i ih =>
  intro hi n hn at_ path ha hok hpath;have hlen:=(b_E hv).2;obtain ⟨m,rfl⟩ : ∃ m,n=m+1:=⟨n - 1,by omega⟩;obtain ⟨ks,e,h⟩:=c_w hv hi ha hok;have hkk : ∀ k∈ks,0≤k∧k<(i:Int):=fun k hk=>(a_P hv hi).kids k (h.kids k hk)
  show g_i m (d_w m) d i b at_ path=_
  unfold g_i
  rw [ix_ hi,bd_some,j_g hv hd hb i hi m (by omega) at_ ha]
  unfold b_q
  simp only [bd3_some]
  have hs:=l_n hv hb hi ha hok
  rw [d_l hv hi h path]
  have hcl:=d_W h.ch
  rw [hcl]
  -- the start's text is that of start_eq
  have tail : ∀ (f:Int→Option (List k_×Int)),bd (α:=Bool) (if (d.rules[i].kind==5)=true then some (d.rules[i].kind==5) else some (d.rules[i].kind==7)) (fun x194=>bd (α:=Int) (if x194=true then bd (idx d.rules[i].kids 0) fun x294=>bd3 (b_W d x294 b at_) fun r333 r334 r335=>some r334 else bd (α:=Int) (if (d.rules[i].kind==8)=true then some (i_ (at_:Int) 1) else some (at_:Int)) (fun x347=>some x347)) f)=f ((a_4 d.rules d.rules[i] at_:Nat):Int):=by
   intro f;generalize (if (d.rules[i].kind==5)=true then some (d.rules[i].kind==5) else some (d.rules[i].kind==7))=o at *
   cases o with
   | none=>cases hs
   | some x =>
    simp only [bd_some] at hs ⊢
    revert hs;generalize (if x=true then bd (idx d.rules[i].kids 0) fun x294=>bd3 (b_W d x294 b at_) fun r333 r334 r335=>some r334 else bd (α:=Int) (if (d.rules[i].kind==8)=true then some (i_ (at_:Int) 1) else some (at_:Int)) (fun x347=>some x347))=o2;intro hs
    cases o2 with
    | none=>cases hs
    | some y=>simp only [bd_some] at hs ⊢;rw [Option.some.inj hs]
  rw [tail]
  have hloop:=k_y (n:=m) hv hi hb (by omega) h.item hkk h.small (path:=path) (by omega) (fun k hk p q hp h0 hq=>ih k hk (by omega) m (by omega) p q hp h0 (by omega)) _ rfl ks.length 0 (a_4 d.rules d.rules[i] at_) (rdW d.rules b i at_).1.items e [(⟨path,(i:Int),(at_:Int),((rdW d.rules b i at_).2.1:Int)⟩:k_)] (by omega) (by simp) (by rw [List.drop_zero];exact h.ch)
  rw [hloop]
  rfl
theorem k_z {n:Nat} (hv:a_1 d=true) (hd:SmD d) {i:Nat} (hi:i<d.rules.length) (hb:b.length≤400) (hn:30≤n) {ks:List Int} {v:Val} (hitem : ∀ j (hj:j<ks.length),Y_ d.rules[i] v.number j=ks[j]) (hkk : ∀ k∈ks,0≤k∧k<(i:Int)) (h40:ks.length≤40) {path:Str} (hpath:path.b.length+32≤1000000) (B:Nat)
  (ih : ∀ k,k<i → ∀ p q (L:List k_),p≤b.length→(rdW d.rules b k p).2.2=0→q.b.length≤path.b.length+22→L.length≤B+400001→g_l n ⟨⟨d.rules⟩,b,L⟩ q k (rdW d.rules b k p).1 p=some (((rdW d.rules b k p).2.1:Int),L++ixW d.rules b k p q))
  (body:Nat→Int×(List k_)→Option (Out (Int×(List k_))<|Int×(List k_))) (hbd:body=(fun k659=>un2 fun x645 x647=>bd (cat path (⟨[47]⟩:Str)) fun x814=>bd (idx v.items ((k659:Nat):Int)) fun x822=>bd (e_7 n (⟨d.rules⟩:d_) i ((k659:Nat):Int)) fun r866=>bd (cat x814 r866) fun x872=>bd (e_8 (⟨d.rules⟩:d_) i v ((k659:Nat):Int)) fun r892=>bd2 ((d_x n).impl_indexer_part (⟨(⟨d.rules⟩:d_),b,x647⟩:c_j) x872 r892 x822 x645) fun r925 r928=>some<|.next (r925,r928))) :
  ∀ m k (pos:Nat) (vs:List Val) (e:Nat) (out:List k_),k+m=ks.length→out.length≤B+1+k * 10000→v.items.drop k=vs→c_f (fun k p=>rdW d.rules b k.toNat p) b.length (ks.drop k) pos vs e →
  C_ body m k ((pos:Int),out)=some (.inl ((e:Int),out++ixL (fun k p q=>ixW d.rules b k.toNat p q) (fun k p=>(rdW d.rules b k.toNat p).2.1) d.rules[i] path (ks.drop k) k pos))
 | 0,k,pos,vs,e,out,hk,_,_,hch=>by
  rw [List.drop_of_length_le (by omega)] at hch ⊢
  rw [hch.2]
  simp [C_,ixL]
 | m+1,k,pos,vs,e,out,hk,ho,hvs,hch=>by
  have hLIM:=a_D;have hr:=a_P hv hi;have hlt:k<ks.length:=by omega
  rw [dC_ hlt] at hch ⊢
  obtain ⟨hp,h0,ws,hws,hrest⟩:=hch
  simp only at h0 hrest hws
  have hkr:=hkk _<|gE_ hlt;have hst:=j_s hr.kind k (by omega)
  rw [hws] at hvs
  have hlv:k<v.items.length:=by
   rcases Nat.lt_or_ge k v.items.length with h | h
   ·exact h
   ·rw [List.drop_of_length_le h] at hvs;cases hvs
  rw [dC_ hlv] at hvs
  obtain ⟨hv1,hv2⟩:=List.cons.inj hvs;have hsm:=h_d hv hb (show ks[k].toNat<d.rules.length by omega) (b_9 d.rules[i] path k) hp h0
  have hone:body k ((pos:Int),out)=some (.next (((rdW d.rules b ks[k].toNat pos).2.1:Int),out++ixW d.rules b ks[k].toNat pos (b_9 d.rules[i] path k))):=by
   rw [hbd]
   simp only [un2]
   have e3:e_8 (⟨d.rules⟩:d_) i v (k:Int)=some (Y_ d.rules[i] v.number k):=o_B (d:=⟨d.rules⟩) (ix_ hi) (d_S hr.kind) v k;have e4:e_7 n (⟨d.rules⟩:d_) i (k:Int)=some (a_m d.rules[i] k):=p_f (d:=d) hv hd hn hi k
   rw [d_n (by simp only [lC_,List.length_nil];omega),bd_some,ix_ hlv,bd_some,e4,bd_some,d_n (by simp only [List.length_append,lC_,List.length_nil];omega),bd_some,e3,bd_some,hitem k hlt]
   have hrec:=ih ks[k].toNat (by omega) pos (b_9 d.rules[i] path k) out hp h0 (l_m hr.kind (by omega)) (by omega)
   rw [show ((ks[k].toNat:Nat):Int)=ks[k] by omega] at hrec
   rw [hv1,show (d_x n).impl_indexer_part (⟨⟨d.rules⟩,b,out⟩:c_j) ⟨path.b++[47]++(a_m d.rules[i] k).b⟩ ks[k] (rdW d.rules b ks[k].toNat pos).1 (pos:Int)=g_l n ⟨⟨d.rules⟩,b,out⟩ (b_9 d.rules[i] path k) ks[k] (rdW d.rules b ks[k].toNat pos).1 (pos:Int) from rfl,hrec]
   rfl
  unfold C_ ixL
  rw [hone]
  simp only
  rw [k_z hv hd hi hb hn hitem hkk h40 hpath B ih body hbd m (k+1) _ ws e _ (by omega) (by rw [List.length_append];omega) hv2 hrest]
  simp
theorem o_7 (hv:a_1 d=true) (hd:SmD d) (hb:b.length≤400) : ∀ (i:Nat) (hi:i<d.rules.length),∀ n,4 * i+600≤n → ∀ (at_:Nat) (path:Str) (L:List k_),at_≤b.length→(rdW d.rules b i at_).2.2=0→path.b.length+22 * i+32≤1000000→L.length+i * 400001≤40000000 →
  g_l n ⟨⟨d.rules⟩,b,L⟩ path i (rdW d.rules b i at_).1 at_=some (((rdW d.rules b i at_).2.1:Int),L++ixW d.rules b i at_ path):=by
 intro i
 induction i using Nat.strongRecOn with
 | _ i ih =>
  intro hi n hn at_ path L ha hok hpath hL;have hLIM:=a_D;have hlen:=(b_E hv).2;obtain ⟨m,rfl⟩ : ∃ m,n=m+1:=⟨n - 1,by omega⟩;obtain ⟨ks,e,h⟩:=c_w hv hi ha hok;have hkk : ∀ k∈ks,0≤k∧k<(i:Int):=fun k hk=>(a_P hv hi).kids k (h.kids k hk)
  show g_k m (d_x m) ⟨⟨d.rules⟩,b,L⟩ path i (rdW d.rules b i at_).1 at_=_
  unfold g_k
  simp only
  rw [a_Q (by omega),bd_some,show (⟨d.rules⟩:d_)=d from rfl,p_c hd (by omega)]
  have hok2:okV d b (i:Int) (at_:Int)=true:=by
   unfold okV b_5
   rw [hv,dT_ (show (0:Int)≤(i:Int) by omega),dT_ (show (i:Int)<(d.rules.length:Int) by omega),dT_ (show (0:Int)≤(at_:Int) by omega),dT_ (show (at_:Int)≤(b.length:Int) by omega),dT_ (show (b.length:Int)≤400 by omega)]
   rfl
  have hrv:a_H d i b at_=b_q (rdW d.rules b i at_):=by unfold a_H;rw [iP_ hok2];rfl
  rw [hrv]
  simp only [bd2_some]
  rw [ix_ hi,bd_some]
  have hs:=p_h hv hb hi ha
  rw [d_l hv hi h path]
  have hcl:=d_W h.ch
  rw [hcl]
  have tail : ∀ (f:Int→Option (Int×List k_)),bd (α:=Bool) (if (d.rules[i].kind==5)=true then some (d.rules[i].kind==5) else some (d.rules[i].kind==7)) (fun x181=>bd (α:=Int) (if x181=true then bd (idx d.rules[i].kids 0) fun x275=>bd (idx d.rules x275) fun x291=>some (i_ (at_:Int) x291.size) else bd (α:=Int) (if (d.rules[i].kind==8)=true then some (i_ (at_:Int) 1) else some (at_:Int)) (fun x327=>some x327)) f)=f ((a_4 d.rules d.rules[i] at_:Nat):Int):=by
   intro f;generalize (if (d.rules[i].kind==5)=true then some (d.rules[i].kind==5) else some (d.rules[i].kind==7))=o at *
   cases o with
   | none=>cases hs
   | some x =>
    simp only [bd_some] at hs ⊢
    revert hs;generalize (if x=true then bd (idx d.rules[i].kids 0) fun x275=>bd (idx d.rules x275) fun x291=>some (i_ (at_:Int) x291.size) else bd (α:=Int) (if (d.rules[i].kind==8)=true then some (i_ (at_:Int) 1) else some (at_:Int)) (fun x327=>some x327))=o2;intro hs
    cases o2 with
    | none=>cases hs
    | some y=>simp only [bd_some] at hs ⊢;rw [Option.some.inj hs]
  rw [tail]
  have hloop:=k_z (n:=m) hv hd hi hb (by omega) h.item hkk h.small (path:=path) (by omega) L.length (fun k hk p q L' hp h0 hq hL'=>ih k hk (by omega) m (by omega) p q L' hp h0 (by omega) (by
   have:(k+1) * 400001≤i * 400001:=Nat.mul_le_mul_right _ hk
   rw [Nat.succ_mul] at this
   omega)) _ rfl ks.length 0 (a_4 d.rules d.rules[i] at_) (rdW d.rules b i at_).1.items e (L++[(⟨path,(i:Int),(at_:Int),0⟩:k_)]) (by omega) (by simp) (by rw [List.drop_zero]) (by rw [List.drop_zero];exact h.ch)
  rw [show (⟨d.rules⟩:d_)=d from rfl] at hloop
  rw [hloop]
  simp only [bd_some,el_inl,un2,List.drop_zero]
  generalize ixL (fun k p q=>ixW d.rules b k.toNat p q) (fun k p=>(rdW d.rules b k.toNat p).2.1) d.rules[i] path ks 0 (a_4 d.rules d.rules[i] at_)=X
  rw [ix_ (k:=L.length) (by simp),bd_some]
  have e1:(L++[(⟨path,(i:Int),(at_:Int),0⟩:k_)]++X)[L.length]'(by simp)=(⟨path,(i:Int),(at_:Int),0⟩:k_):=by simp
  rw [e1,j_v (by simp),bd_some]
  unfold b_q
  simp
def okF (d:d_) (b:List UInt8):Bool:=(b_A d b).2.2==0
def b_t (d:d_) (b:List UInt8):List k_:=if okF d b=true then ixW d.rules b (d.rules.length - 1) 0 ⟨[]⟩ else []
theorem e_n (h:okF d b=true):a_1 d=true∧b.length≤400∧d.rules.length - 1<d.rules.length∧a_I d=((d.rules.length - 1:Nat):Int)∧(rdW d.rules b (d.rules.length - 1) 0).2.2=0∧(b_A d b).1=(rdW d.rules b (d.rules.length - 1) 0).1∧b_A d b=b_q (rdW d.rules b (d.rules.length - 1) 0):=by
 unfold okF b_A at h
 have h1 : ¬ ((a_H d (a_I d) b 0).2.2=0∧(a_H d (a_I d) b 0).2.1<(b.length:Int)):=by
  intro hc;rw [iP_ hc] at h;simp at h
 rw [iN_ h1] at h
 have h2:(a_H d (a_I d) b 0).2.2=0:=by simpa using h
 have h3:okV d b (a_I d) 0=true:=by
  rcases Bool.eq_false_or_eq_true (okV d b (a_I d) 0) with h | h
  ·exact h
  ·unfold a_H at h2;rw [h] at h2;simp at h2
 obtain ⟨hv,hb,i,p,hi,hp,hil,_⟩:=h_b h3;have hl:=b_E hv;have hroot:a_I d=((d.rules.length - 1:Nat):Int):=by unfold a_I;omega
 have e:a_H d (a_I d) b 0=b_q (rdW d.rules b (d.rules.length - 1) 0):=by
  unfold a_H;rw [iP_ h3,hroot];rfl
 have e2:b_A d b=b_q (rdW d.rules b (d.rules.length - 1) 0):=by unfold b_A;rw [iN_ h1,e]
 refine ⟨hv,hb,by omega,hroot,?_,?_,e2⟩
 ·rw [e] at h2;exact h2
 ·rw [e2];rfl
theorem o_8 (hd:SmD d) {n:Nat} (hn:500≤n):f_S n d b=some (okF d b):=by
 unfold f_S okF
 rw [l_h hd hn];rfl
theorem k_A (hd:SmD d) {n:Nat} (hn:1000≤n):g_j n d b=some (b_t d b,okF d b):=by
 unfold g_j b_t
 rw [o_8 hd (by omega)]
 cases h:okF d b
 ·rfl
 ·obtain ⟨hv,hb,hlt,hroot,hok,_⟩:=e_n h;have hl:=b_E hv
  rw [j_p hd,hroot]
  have:=o_6 hv hd hb (d.rules.length - 1) hlt n (by omega) 0 ⟨[]⟩ (by omega) hok (by simp;omega)
  rw [show (((0:Nat)):Int)=0 from rfl] at this
  simp only [bd_some,nT_,bF_,fF_]
  rw [this];rfl
theorem o_9 (hd:SmD d) {n:Nat} (hn:1000≤n):g_m n d b=some (b_t d b,okF d b):=by
 unfold g_m b_t
 rw [p_d hd (by omega)]
 cases h:okF d b
 ·have h2:(b_A d b).2.2 ≠ 0:=by unfold okF at h;simpa using h
  generalize b_A d b=x at h2
  show (if (x.2.2 != 0)=true then _ else _)=_
  rw [show (x.2.2 != 0)=true by simpa using h2];rfl
 ·obtain ⟨hv,hb,hlt,hroot,hok,hv1,hrf⟩:=e_n h;have hl:=b_E hv
  rw [hrf]
  show (if ((rdW d.rules b (d.rules.length - 1) 0).2.2 != 0)=true then _ else _)=_
  rw [hok]
  simp only [bN_,bF_,fF_]
  rw [l_f hd,hroot,bd_some]
  have:=o_7 hv hd hb (d.rules.length - 1) hlt n (by omega) 0 ⟨[]⟩ [] (by omega) hok (by simp;omega) (by simp;omega)
  rw [show (((0:Nat)):Int)=0 from rfl] at this
  show bd2 (g_l n ⟨⟨d.rules⟩,b,[]⟩ ⟨[]⟩ ((d.rules.length - 1:Nat):Int) (rdW d.rules b (d.rules.length - 1) 0).1 0) _=_
  rw [this];rfl
end
end Go.Vw
