
import Derived.Test.YtajhmimbhplkfaaGreatDoorVwP9
set_option linter.unusedVariables false
namespace Go.Vw
open Go.RowKit Dat
section
variable {d:d_} {b:List UInt8}
theorem k_w {n:Nat} (hv:a_6 d=true) {i:Nat} (hi:i<d.rules.length) (hb:b.length≤400) (hn:30≤n) {ks:List Int} {num:Int} (hitem : ∀ j (hj:j<ks.length),Y_ d.rules[i] num j=ks[j]) (hkk : ∀ k∈ks,0≤k∧k<(i:Int)) (h40:ks.length≤40) {path:Str} (hpath:path.b.length+32≤1000000)
  (ih : ∀ k,k<i → ∀ p q,p≤b.length→(rdW d.rules b k p).2.2=0→q.b.length≤path.b.length+22→h_l n d k b p q=some (ixW d.rules b k p q,((rdW d.rules b k p).2.1:Int)))
  (body:Nat→(List e_)×Int→Option (Out ((List e_)×Int)<|(List e_)×Int)) (hbd:body=(fun k712=>un2 fun x699 x707=>bd (cat path (⟨[47]⟩:Str)) fun x914=>bd (b_u d.rules[i] num ((k712:Nat):Int)) fun r970=>bd (e_q n d.rules[i] ((k712:Nat):Int)) fun r982=>bd (cat x914 r982) fun x988=>bd2 ((d_m n).spec_l19Build d r970 b x707 x988) fun r1013 r1014=>bd (app x699 r1013) fun x1040=>some<|.next (x1040,r1014))) :
  ∀ m k (pos:Nat) (vs:List Val) (e:Nat) (out:List e_),k+m=ks.length→out.length≤1+k * 10000→c_N (fun k p=>rdW d.rules b k.toNat p) b.length (ks.drop k) pos vs e →
  C_ body m k (out,(pos:Int))=some (.inl (out++ixL (fun k p q=>ixW d.rules b k.toNat p q) (fun k p=>(rdW d.rules b k.toNat p).2.1) d.rules[i] path (ks.drop k) k pos,(e:Int)))
 | 0,k,pos,vs,e,out,hk,_,hch=>by
  rw [List.drop_of_length_le (by omega)] at *
  rw [hch.2]
  simp [C_,ixL]
 | m+1,k,pos,vs,e,out,hk,ho,hch=>by
  have hLIM:=a_B;have hr:=b_m hv hi;have hlt:k<ks.length:=by omega
  rw [dC_ hlt] at *
  obtain ⟨hp,h0,ws,_,hrest⟩:=hch
  simp only at h0 hrest
  have hkr:=hkk _<|gE_ hlt;have hst:=j_i hr.kind k (by omega);have hsm:=j_j hv hb (show ks[k].toNat<d.rules.length by omega) (b_S d.rules[i] path k) hp h0
  have hone:body k (out,(pos:Int))=some (.next (out++ixW d.rules b ks[k].toNat pos (b_S d.rules[i] path k),((rdW d.rules b ks[k].toNat pos).2.1:Int))):=by
   rw [hbd]
   simp only [un2]
   rw [d_L (by simp only [lC_,List.length_nil];omega),bd_some,d_G<|f_b hr.kind,bd_some,hitem k hlt,o_F hn _ k (by omega),bd_some,d_L (by simp only [List.length_append,lC_,List.length_nil];omega),bd_some]
   have hrec:=ih ks[k].toNat (by omega) pos (b_S d.rules[i] path k) hp h0 (l_a hr.kind (by omega))
   rw [show ((ks[k].toNat:Nat):Int)=ks[k] by omega] at hrec
   rw [show (d_m n).spec_l19Build d ks[k] b (pos:Int) ⟨path.b++[47]++(c_y d.rules[i] k).b⟩=h_l n d ks[k] b (pos:Int) (b_S d.rules[i] path k) from rfl,hrec]
   simp only [bd2_some]
   rw [c_h (by omega),bd_some]
  unfold C_ ixL
  rw [hone]
  simp only
  rw [k_w hv hi hb hn hitem hkk h40 hpath ih body hbd m (k+1) _ ws e _ (by omega) (by rw [List.length_append];omega) hrest]
  simp
theorem n_M (hv:a_6 d=true) (hd:SmD d) (hb:b.length≤400) : ∀ (i:Nat) (hi:i<d.rules.length),∀ n,4 * i+600≤n → ∀ (at_:Nat) (path:Str),at_≤b.length→(rdW d.rules b i at_).2.2=0→path.b.length+22 * i+32≤1000000 →
  h_l n d i b at_ path=some (ixW d.rules b i at_ path,((rdW d.rules b i at_).2.1:Int)):=by
 intro i
 induction i using Nat.strongRecOn with
 | _ i ih =>
  intro hi n hn at_ path ha hok hpath;have hlen:=(c_5 hv).2;obtain ⟨m,rfl⟩ : ∃ m,n=m+1:=⟨n - 1,by omega⟩;obtain ⟨ks,e,h⟩:=d_J hv hi ha hok;have hkk : ∀ k∈ks,0≤k∧k<(i:Int):=fun k hk=>(b_m hv hi).kids k (h.kids k hk)
  show g_c m (d_m m) d i b at_ path=_
  unfold g_c
  rw [ix_ hi,bd_some,k_K hv hd hb i hi m (by omega) at_ ha]
  unfold b_o
  simp only [bd3_some]
  have hs:=l_b hv hb hi ha hok
  rw [f_f hv hi h path]
  have hcl:=h_8 h.ch
  rw [hcl]
  -- the start's text is that of start_eq
  have tail : ∀ (f:Int→Option (List e_×Int)),bd (α:=Bool) (if (d.rules[i].kind==5)=true then some (d.rules[i].kind==5) else some (d.rules[i].kind==7)) (fun x194=>bd (α:=Int) (if x194=true then bd (idx d.rules[i].kids 0) fun x294=>bd3 (c_9 d x294 b at_) fun r333 r334 r335=>some r334 else bd (α:=Int) (if (d.rules[i].kind==8)=true then some (j_ (at_:Int) 1) else some (at_:Int)) (fun x347=>some x347)) f)=f ((a_l d.rules d.rules[i] at_:Nat):Int):=by
   intro f;generalize (if (d.rules[i].kind==5)=true then some (d.rules[i].kind==5) else some (d.rules[i].kind==7))=o at *
   cases o with
   | none=>cases hs
   | some x =>
    simp only [bd_some] at hs ⊢
    revert hs;generalize (if x=true then bd (idx d.rules[i].kids 0) fun x294=>bd3 (c_9 d x294 b at_) fun r333 r334 r335=>some r334 else bd (α:=Int) (if (d.rules[i].kind==8)=true then some (j_ (at_:Int) 1) else some (at_:Int)) (fun x347=>some x347))=o2;intro hs
    cases o2 with
    | none=>cases hs
    | some y=>simp only [bd_some] at hs ⊢;rw [Option.some.inj hs]
  rw [tail]
  have hloop:=k_w (n:=m) hv hi hb (by omega) h.item hkk h.small (path:=path) (by omega) (fun k hk p q hp h0 hq=>ih k hk (by omega) m (by omega) p q hp h0 (by omega)) _ rfl ks.length 0 (a_l d.rules d.rules[i] at_) (rdW d.rules b i at_).1.items e [(⟨path,(i:Int),(at_:Int),((rdW d.rules b i at_).2.1:Int)⟩:e_)] (by omega) (by simp) (by rw [List.drop_zero];exact h.ch)
  rw [hloop]
  rfl
theorem k_x {n:Nat} (hv:a_6 d=true) (hd:SmD d) {i:Nat} (hi:i<d.rules.length) (hb:b.length≤400) (hn:30≤n) {ks:List Int} {v:Val} (hitem : ∀ j (hj:j<ks.length),Y_ d.rules[i] v.number j=ks[j]) (hkk : ∀ k∈ks,0≤k∧k<(i:Int)) (h40:ks.length≤40) {path:Str} (hpath:path.b.length+32≤1000000) (B:Nat)
  (ih : ∀ k,k<i → ∀ p q (L:List e_),p≤b.length→(rdW d.rules b k p).2.2=0→q.b.length≤path.b.length+22→L.length≤B+400001→g_e n ⟨⟨d.rules⟩,b,L⟩ q k (rdW d.rules b k p).1 p=some (((rdW d.rules b k p).2.1:Int),L++ixW d.rules b k p q))
  (body:Nat→Int×(List e_)→Option (Out (Int×(List e_))<|Int×(List e_))) (hbd:body=(fun k659=>un2 fun x645 x647=>bd (cat path (⟨[47]⟩:Str)) fun x814=>bd (idx v.items ((k659:Nat):Int)) fun x822=>bd (d_U n (⟨d.rules⟩:d_) i ((k659:Nat):Int)) fun r866=>bd (cat x814 r866) fun x872=>bd (d_V (⟨d.rules⟩:d_) i v ((k659:Nat):Int)) fun r892=>bd2 ((d_n n).impl_indexer_part (⟨(⟨d.rules⟩:d_),b,x647⟩:c_m) x872 r892 x822 x645) fun r925 r928=>some<|.next (r925,r928))) :
  ∀ m k (pos:Nat) (vs:List Val) (e:Nat) (out:List e_),k+m=ks.length→out.length≤B+1+k * 10000→v.items.drop k=vs→c_N (fun k p=>rdW d.rules b k.toNat p) b.length (ks.drop k) pos vs e →
  C_ body m k ((pos:Int),out)=some (.inl ((e:Int),out++ixL (fun k p q=>ixW d.rules b k.toNat p q) (fun k p=>(rdW d.rules b k.toNat p).2.1) d.rules[i] path (ks.drop k) k pos))
 | 0,k,pos,vs,e,out,hk,_,_,hch=>by
  rw [List.drop_of_length_le (by omega)] at hch ⊢
  rw [hch.2]
  simp [C_,ixL]
 | m+1,k,pos,vs,e,out,hk,ho,hvs,hch=>by
  have hLIM:=a_B;have hr:=b_m hv hi;have hlt:k<ks.length:=by omega
  rw [dC_ hlt] at hch ⊢
  obtain ⟨hp,h0,ws,hws,hrest⟩:=hch
  simp only at h0 hrest hws
  have hkr:=hkk _<|gE_ hlt;have hst:=j_i hr.kind k (by omega)
  rw [hws] at hvs
  have hlv:k<v.items.length:=by
   rcases Nat.lt_or_ge k v.items.length with h | h
   ·exact h
   ·rw [List.drop_of_length_le h] at hvs;cases hvs
  rw [dC_ hlv] at hvs
  obtain ⟨hv1,hv2⟩:=List.cons.inj hvs;have hsm:=j_j hv hb (show ks[k].toNat<d.rules.length by omega) (b_S d.rules[i] path k) hp h0
  have hone:body k ((pos:Int),out)=some (.next (((rdW d.rules b ks[k].toNat pos).2.1:Int),out++ixW d.rules b ks[k].toNat pos (b_S d.rules[i] path k))):=by
   rw [hbd]
   simp only [un2]
   have e3:d_V (⟨d.rules⟩:d_) i v (k:Int)=some (Y_ d.rules[i] v.number k):=o_3 (d:=⟨d.rules⟩) (ix_ hi) (f_b hr.kind) v k;have e4:d_U n (⟨d.rules⟩:d_) i (k:Int)=some (c_y d.rules[i] k):=o_G (d:=d) hv hd hn hi k
   rw [d_L (by simp only [lC_,List.length_nil];omega),bd_some,ix_ hlv,bd_some,e4,bd_some,d_L (by simp only [List.length_append,lC_,List.length_nil];omega),bd_some,e3,bd_some,hitem k hlt]
   have hrec:=ih ks[k].toNat (by omega) pos (b_S d.rules[i] path k) out hp h0 (l_a hr.kind (by omega)) (by omega)
   rw [show ((ks[k].toNat:Nat):Int)=ks[k] by omega] at hrec
   rw [hv1,show (d_n n).impl_indexer_part (⟨⟨d.rules⟩,b,out⟩:c_m) ⟨path.b++[47]++(c_y d.rules[i] k).b⟩ ks[k] (rdW d.rules b ks[k].toNat pos).1 (pos:Int)=g_e n ⟨⟨d.rules⟩,b,out⟩ (b_S d.rules[i] path k) ks[k] (rdW d.rules b ks[k].toNat pos).1 (pos:Int) from rfl,hrec]
   rfl
  unfold C_ ixL
  rw [hone]
  simp only
  rw [k_x hv hd hi hb hn hitem hkk h40 hpath B ih body hbd m (k+1) _ ws e _ (by omega) (by rw [List.length_append];omega) hv2 hrest]
  simp
theorem n_N (hv:a_6 d=true) (hd:SmD d) (hb:b.length≤400) : ∀ (i:Nat) (hi:i<d.rules.length),∀ n,4 * i+600≤n → ∀ (at_:Nat) (path:Str) (L:List e_),at_≤b.length→(rdW d.rules b i at_).2.2=0→path.b.length+22 * i+32≤1000000→L.length+i * 400001≤40000000 →
  g_e n ⟨⟨d.rules⟩,b,L⟩ path i (rdW d.rules b i at_).1 at_=some (((rdW d.rules b i at_).2.1:Int),L++ixW d.rules b i at_ path):=by
 intro i
 induction i using Nat.strongRecOn with
 | _ i ih =>
  intro hi n hn at_ path L ha hok hpath hL;have hLIM:=a_B;have hlen:=(c_5 hv).2;obtain ⟨m,rfl⟩ : ∃ m,n=m+1:=⟨n - 1,by omega⟩;obtain ⟨ks,e,h⟩:=d_J hv hi ha hok;have hkk : ∀ k∈ks,0≤k∧k<(i:Int):=fun k hk=>(b_m hv hi).kids k (h.kids k hk)
  show g_d m (d_n m) ⟨⟨d.rules⟩,b,L⟩ path i (rdW d.rules b i at_).1 at_=_
  unfold g_d
  simp only
  rw [a_P (by omega),bd_some,show (⟨d.rules⟩:d_)=d from rfl,o_B hd (by omega)]
  have hok2:okV d b (i:Int) (at_:Int)=true:=by
   unfold okV b_3
   rw [hv,dT_ (show (0:Int)≤(i:Int) by omega),dT_ (show (i:Int)<(d.rules.length:Int) by omega),dT_ (show (0:Int)≤(at_:Int) by omega),dT_ (show (at_:Int)≤(b.length:Int) by omega),dT_ (show (b.length:Int)≤400 by omega)]
   rfl
  have hrv:b_4 d i b at_=b_o (rdW d.rules b i at_):=by unfold b_4;rw [iP_ hok2];rfl
  rw [hrv]
  simp only [bd2_some]
  rw [ix_ hi,bd_some]
  have hs:=o_J hv hb hi ha
  rw [f_f hv hi h path]
  have hcl:=h_8 h.ch
  rw [hcl]
  have tail : ∀ (f:Int→Option (Int×List e_)),bd (α:=Bool) (if (d.rules[i].kind==5)=true then some (d.rules[i].kind==5) else some (d.rules[i].kind==7)) (fun x181=>bd (α:=Int) (if x181=true then bd (idx d.rules[i].kids 0) fun x275=>bd (idx d.rules x275) fun x291=>some (j_ (at_:Int) x291.size) else bd (α:=Int) (if (d.rules[i].kind==8)=true then some (j_ (at_:Int) 1) else some (at_:Int)) (fun x327=>some x327)) f)=f ((a_l d.rules d.rules[i] at_:Nat):Int):=by
   intro f;generalize (if (d.rules[i].kind==5)=true then some (d.rules[i].kind==5) else some (d.rules[i].kind==7))=o at *
   cases o with
   | none=>cases hs
   | some x =>
    simp only [bd_some] at hs ⊢
    revert hs;generalize (if x=true then bd (idx d.rules[i].kids 0) fun x275=>bd (idx d.rules x275) fun x291=>some (j_ (at_:Int) x291.size) else bd (α:=Int) (if (d.rules[i].kind==8)=true then some (j_ (at_:Int) 1) else some (at_:Int)) (fun x327=>some x327))=o2;intro hs
    cases o2 with
    | none=>cases hs
    | some y=>simp only [bd_some] at hs ⊢;rw [Option.some.inj hs]
  rw [tail]
  have hloop:=k_x (n:=m) hv hd hi hb (by omega) h.item hkk h.small (path:=path) (by omega) L.length (fun k hk p q L' hp h0 hq hL'=>ih k hk (by omega) m (by omega) p q L' hp h0 (by omega) (by
   have:(k+1) * 400001≤i * 400001:=Nat.mul_le_mul_right _ hk
   rw [Nat.succ_mul] at this
   omega)) _ rfl ks.length 0 (a_l d.rules d.rules[i] at_) (rdW d.rules b i at_).1.items e (L++[(⟨path,(i:Int),(at_:Int),0⟩:e_)]) (by omega) (by simp) (by rw [List.drop_zero]) (by rw [List.drop_zero];exact h.ch)
  rw [show (⟨d.rules⟩:d_)=d from rfl] at hloop
  rw [hloop]
  simp only [bd_some,el_inl,un2,List.drop_zero]
  generalize ixL (fun k p q=>ixW d.rules b k.toNat p q) (fun k p=>(rdW d.rules b k.toNat p).2.1) d.rules[i] path ks 0 (a_l d.rules d.rules[i] at_)=X
  rw [ix_ (k:=L.length) (by simp),bd_some]
  have e1:(L++[(⟨path,(i:Int),(at_:Int),0⟩:e_)]++X)[L.length]'(by simp)=(⟨path,(i:Int),(at_:Int),0⟩:e_):=by simp
  rw [e1,h_b (by simp),bd_some]
  unfold b_o
  simp
def okF (d:d_) (b:List UInt8):Bool:=(c_8 d b).2.2==0
def b_e (d:d_) (b:List UInt8):List e_:=if okF d b=true then ixW d.rules b (d.rules.length - 1) 0 ⟨[]⟩ else []
theorem g_W (h:okF d b=true):a_6 d=true∧b.length≤400∧d.rules.length - 1<d.rules.length∧b_5 d=((d.rules.length - 1:Nat):Int)∧(rdW d.rules b (d.rules.length - 1) 0).2.2=0∧(c_8 d b).1=(rdW d.rules b (d.rules.length - 1) 0).1∧c_8 d b=b_o (rdW d.rules b (d.rules.length - 1) 0):=by
 unfold okF c_8 at h
 have h1 : ¬ ((b_4 d (b_5 d) b 0).2.2=0∧(b_4 d (b_5 d) b 0).2.1<(b.length:Int)):=by
  intro hc;rw [iP_ hc] at h;simp at h
 rw [iN_ h1] at h
 have h2:(b_4 d (b_5 d) b 0).2.2=0:=by simpa using h
 have h3:okV d b (b_5 d) 0=true:=by
  rcases Bool.eq_false_or_eq_true (okV d b (b_5 d) 0) with h | h
  ·exact h
  ·unfold b_4 at h2;rw [h] at h2;simp at h2
 obtain ⟨hv,hb,i,p,hi,hp,hil,_⟩:=h_9 h3;have hl:=c_5 hv;have hroot:b_5 d=((d.rules.length - 1:Nat):Int):=by unfold b_5;omega
 have e:b_4 d (b_5 d) b 0=b_o (rdW d.rules b (d.rules.length - 1) 0):=by
  unfold b_4;rw [iP_ h3,hroot];rfl
 have e2:c_8 d b=b_o (rdW d.rules b (d.rules.length - 1) 0):=by unfold c_8;rw [iN_ h1,e]
 refine ⟨hv,hb,by omega,hroot,?_,?_,e2⟩
 ·rw [e] at h2;exact h2
 ·rw [e2];rfl
theorem n_O (hd:SmD d) {n:Nat} (hn:500≤n):f_L n d b=some (okF d b):=by
 unfold f_L okF
 rw [o_D hd hn];rfl
theorem i_Y (hd:SmD d) {n:Nat} (hn:1000≤n):e_B n d b=some (b_e d b,okF d b):=by
 unfold e_B b_e
 rw [n_O hd (by omega)]
 cases h:okF d b
 ·rfl
 ·obtain ⟨hv,hb,hlt,hroot,hok,_⟩:=g_W h;have hl:=c_5 hv
  rw [j_f hd,hroot]
  have:=n_M hv hd hb (d.rules.length - 1) hlt n (by omega) 0 ⟨[]⟩ (by omega) hok (by simp;omega)
  rw [show (((0:Nat)):Int)=0 from rfl] at this
  simp only [bd_some,nT_,bF_,fF_]
  rw [this];rfl
theorem n_P (hd:SmD d) {n:Nat} (hn:1000≤n):g_f n d b=some (b_e d b,okF d b):=by
 unfold g_f b_e
 rw [o_C hd (by omega)]
 cases h:okF d b
 ·have h2:(c_8 d b).2.2 ≠ 0:=by unfold okF at h;simpa using h
  generalize c_8 d b=x at h2
  show (if (x.2.2 != 0)=true then _ else _)=_
  rw [show (x.2.2 != 0)=true by simpa using h2];rfl
 ·obtain ⟨hv,hb,hlt,hroot,hok,hv1,hrf⟩:=g_W h;have hl:=c_5 hv
  rw [hrf]
  show (if ((rdW d.rules b (d.rules.length - 1) 0).2.2 != 0)=true then _ else _)=_
  rw [hok]
  simp only [bN_,bF_,fF_]
  rw [l_5 hd,hroot,bd_some]
  have:=n_N hv hd hb (d.rules.length - 1) hlt n (by omega) 0 ⟨[]⟩ [] (by omega) hok (by simp;omega) (by simp;omega)
  rw [show (((0:Nat)):Int)=0 from rfl] at this
  show bd2 (g_e n ⟨⟨d.rules⟩,b,[]⟩ ⟨[]⟩ ((d.rules.length - 1:Nat):Int) (rdW d.rules b (d.rules.length - 1) 0).1 0) _=_
  rw [this];rfl
end
end Go.Vw
