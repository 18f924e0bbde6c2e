
import Derived.Test.YtadehdicfeopeaaGreatDoorVwP9
namespace Go.Vw
open Go.RowKit Dat
section
variable {d:d_}{b:List UInt8}
theorem l_i {n:Nat}(hv:X_ d=true){i:Nat}(hi:i<d.rules.length)(hb:b.length<=400)(hn:30<=n){ks:List Int}{num:Int}(hitem:∀j (hj:j<ks.length),a_4 d.rules[i] num j=ks[j])(hkk:∀k∈ks,0<=k/\k<(i:Int))(a2:ks.length<=40){path:Str}(hpath:path.b.length+32<=1000000)
  (ih:∀k,k<i->∀p q,p<=b.length->(rdW d.rules b k p).2.2=0->q.b.length<=path.b.length+22->i_R n d k b p q=some (ixW d.rules b k p q,((rdW d.rules b k p).2.1:Int)))
  (body:Nat->(List u_)×Int->Option (Out ((List u_)×Int)<|(List u_)×Int)) (hbd:body=(fun H=>un2 fun O V=>bd (cat path (⟨[47]⟩:Str)) fun W=>bd (b_l d.rules[i] num ((H:Nat):Int)) fun Y=>bd (e_k n d.rules[i] ((H:Nat):Int)) fun a0=>bd (cat W a0) fun a1=>bd2 ((d_V n).spec_l19Build d Y b V a1) fun I J=>bd (app O I) fun L=>some<|.next (L,J))) :
  ∀m k (pos:Nat) (vs:List Val) (e:Nat) (out:List u_),k+m=ks.length->out.length<=1+k * 10000->d_n (fun k p=>rdW d.rules b k.toNat p) b.length (ks.drop k) pos vs e ->
  x_ body m k (out,(pos:Int))=some (.inl (out++ixL (fun k p q=>ixW d.rules b k.toNat p q) (fun k p=>(rdW d.rules b k.toNat p).2.1) d.rules[i] path (ks.drop k) k pos,(e:Int)))
 | 0,k,pos,vs,e,out,hk,_,hch=>by
  rw [List.drop_of_length_le (by omega)] at *
  rw [hch.2]
  simp [x_,ixL]
 | m+1,k,pos,vs,e,out,hk,ho,hch=>by
  have hLIM:=a_p;have hr:=a_X hv hi;have hlt:k<ks.length:=by omega
  rw [dC_ hlt] at *
  obtain ⟨hp,G,ws,_,hrest⟩:=hch
  simp only at G hrest
  have hkr:=hkk _<|gE_ hlt;have hst:=k_g hr.kind k (by omega);have hsm:=k_h hv hb (show ks[k].toNat<d.rules.length by omega) (b_Z d.rules[i] path k) hp G
  have hone:body k (out,(pos:Int))=some (.next (out++ixW d.rules b ks[k].toNat pos (b_Z d.rules[i] path k),((rdW d.rules b ks[k].toNat pos).2.1:Int))):=by
   rw [hbd]
   simp only [un2]
   rw [c_9 (by simp only [lC_,List.length_nil];omega),bd_some,d_j<|e_f hr.kind,bd_some,hitem k hlt,k_f hn _ k (by omega),bd_some,c_9 (by simp only [List.length_append,lC_,List.length_nil];omega),bd_some]
   have hrec:=ih ks[k].toNat (by omega) pos (b_Z d.rules[i] path k) hp G (m_l hr.kind (by omega))
   rw [show ((ks[k].toNat:Nat):Int)=ks[k] by omega] at hrec
   rw [show (d_V n).spec_l19Build d ks[k] b (pos:Int) ⟨path.b++[47]++(a_V d.rules[i] k).b⟩=i_R n d ks[k] b (pos:Int) (b_Z d.rules[i] path k) from rfl,hrec]
   simp only [bd2_some]
   rw [c_W (by omega),bd_some]
  unfold x_ ixL
  rw [hone]
  simp only
  rw [l_i hv hi hb hn hitem hkk a2 hpath ih body hbd m (k+1) _ ws e _ (by omega) (by rw [List.length_append];omega) hrest]
  simp
theorem o_Z (hv:X_ d=true)(hd:SmD d)(hb:b.length<=400):∀(i:Nat)(hi:i<d.rules.length),∀n,4 * i+600<=n->∀(at_:Nat)(path:Str),at_<=b.length->(rdW d.rules b i at_).2.2=0->path.b.length+22 * i+32<=1000000 ->
  i_R n d i b at_ path=some (ixW d.rules b i at_ path,((rdW d.rules b i at_).2.1:Int)):=by
 intro i
 induction i using Nat.strongRecOn with
 | _ i ih =>
  intro hi n hn at_ path ha hok hpath;have hlen:=(b_Y hv).2;obtain ⟨m,rfl⟩:∃m,n=m+1:=⟨n - 1,by omega⟩;obtain ⟨ks,e,h⟩:=e_Y hv hi ha hok;have hkk:∀k∈ks,0<=k/\k<(i:Int):=fun k hk=>(a_X hv hi).kids k (h.kids k hk)
  show h_2 m (d_V m) d i b at_ path=_
  unfold h_2
  rw [ix_ hi,bd_some,i_w hv hd hb i hi m (by omega) at_ ha]
  unfold b_1
  simp only [bd3_some]
  have hs:=m_m hv hb hi ha hok
  rw [i_F hv hi h path]
  have hcl:=e_X h.ch
  rw [hcl]
  -- the start's text is that of start_eq
  have tail:∀(f:Int->Option (List u_×Int)),bd (α:=Bool) (if (d.rules[i].kind==5)=true then some (d.rules[i].kind==5) else some (d.rules[i].kind==7)) (fun J=>bd (α:=Int) (if J=true then bd (idx d.rules[i].kids 0) fun G=>bd3 (c_b d G b at_) fun L H O=>some H else bd (α:=Int) (if (d.rules[i].kind==8)=true then some (g_ (at_:Int) 1) else some (at_:Int)) (fun I=>some I)) f)=f ((a_f d.rules d.rules[i] at_:Nat):Int):=by
   intro f;generalize (if (d.rules[i].kind==5)=true then some (d.rules[i].kind==5) else some (d.rules[i].kind==7))=o at *
   cases o with
   | none=>cases hs
   | some x =>
    simp only [bd_some] at hs ⊢
    revert hs;generalize (if x=true then bd (idx d.rules[i].kids 0) fun G=>bd3 (c_b d G b at_) fun L H O=>some H else bd (α:=Int) (if (d.rules[i].kind==8)=true then some (g_ (at_:Int) 1) else some (at_:Int)) (fun I=>some I))=V;intro hs
    cases V with
    | none=>cases hs
    | some y=>simp only [bd_some] at hs ⊢;rw [Option.some.inj hs]
  rw [tail]
  have hloop:=l_i (n:=m) hv hi hb (by omega) h.item hkk h.small (path:=path) (by omega) (fun k hk p q hp W hq=>ih k hk (by omega) m (by omega) p q hp W (by omega)) _ rfl ks.length 0 (a_f d.rules d.rules[i] at_) (rdW d.rules b i at_).1.items e [(⟨path,(i:Int),(at_:Int),((rdW d.rules b i at_).2.1:Int)⟩:u_)] (by omega) (by simp) (by rw [List.drop_zero];exact h.ch)
  rw [hloop]
  rfl
theorem l_j {n:Nat}(hv:X_ d=true)(hd:SmD d){i:Nat}(hi:i<d.rules.length)(hb:b.length<=400)(hn:30<=n){ks:List Int}{v:Val}(hitem:∀j (hj:j<ks.length),a_4 d.rules[i] v.number j=ks[j])(hkk:∀k∈ks,0<=k/\k<(i:Int))(a3:ks.length<=40){path:Str}(hpath:path.b.length+32<=1000000)(B:Nat)
  (ih:∀k,k<i->∀p q (L:List u_),p<=b.length->(rdW d.rules b k p).2.2=0->q.b.length<=path.b.length+22->L.length<=B+400001->h_5 n ⟨⟨d.rules⟩,b,L⟩ q k (rdW d.rules b k p).1 p=some (((rdW d.rules b k p).2.1:Int),L++ixW d.rules b k p q))
  (body:Nat->Int×(List u_)->Option (Out (Int×(List u_))<|Int×(List u_))) (hbd:body=(fun G=>un2 fun I J=>bd (cat path (⟨[47]⟩:Str)) fun O=>bd (idx v.items ((G:Nat):Int)) fun V=>bd (e_v n (⟨d.rules⟩:d_) i ((G:Nat):Int)) fun W=>bd (cat O W) fun Y=>bd (e_w (⟨d.rules⟩:d_) i v ((G:Nat):Int)) fun a0=>bd2 ((d_W n).impl_indexer_part (⟨(⟨d.rules⟩:d_),b,J⟩:c_E) Y a0 V I) fun a1 a2=>some<|.next (a1,a2))) :
  ∀m k (pos:Nat) (vs:List Val) (e:Nat) (out:List u_),k+m=ks.length->out.length<=B+1+k * 10000->v.items.drop k=vs->d_n (fun k p=>rdW d.rules b k.toNat p) b.length (ks.drop k) pos vs e ->
  x_ body m k ((pos:Int),out)=some (.inl ((e:Int),out++ixL (fun k p q=>ixW d.rules b k.toNat p q) (fun k p=>(rdW d.rules b k.toNat p).2.1) d.rules[i] path (ks.drop k) k pos))
 | 0,k,pos,vs,e,out,hk,_,_,hch=>by
  rw [List.drop_of_length_le (by omega)] at hch ⊢
  rw [hch.2]
  simp [x_,ixL]
 | m+1,k,pos,vs,e,out,hk,ho,hvs,hch=>by
  have hLIM:=a_p;have hr:=a_X hv hi;have hlt:k<ks.length:=by omega
  rw [dC_ hlt] at hch ⊢
  obtain ⟨hp,H,ws,hws,hrest⟩:=hch
  simp only at H hrest hws
  have hkr:=hkk _<|gE_ hlt;have hst:=k_g hr.kind k (by omega)
  rw [hws] at hvs
  have hlv:k<v.items.length:=by
   rcases Nat.lt_or_ge k v.items.length with h | h
   ·exact h
   ·rw [List.drop_of_length_le h] at hvs;cases hvs
  rw [dC_ hlv] at hvs
  obtain ⟨a4,a5⟩:=List.cons.inj hvs;have hsm:=k_h hv hb (show ks[k].toNat<d.rules.length by omega) (b_Z d.rules[i] path k) hp H
  have hone:body k ((pos:Int),out)=some (.next (((rdW d.rules b ks[k].toNat pos).2.1:Int),out++ixW d.rules b ks[k].toNat pos (b_Z d.rules[i] path k))):=by
   rw [hbd]
   simp only [un2]
   have e3:e_w (⟨d.rules⟩:d_) i v (k:Int)=some (a_4 d.rules[i] v.number k):=p_B (d:=⟨d.rules⟩) (ix_ hi) (e_f hr.kind) v k;have e4:e_v n (⟨d.rules⟩:d_) i (k:Int)=some (a_V d.rules[i] k):=q_i (d:=d) hv hd hn hi k
   rw [c_9 (by simp only [lC_,List.length_nil];omega),bd_some,ix_ hlv,bd_some,e4,bd_some,c_9 (by simp only [List.length_append,lC_,List.length_nil];omega),bd_some,e3,bd_some,hitem k hlt]
   have hrec:=ih ks[k].toNat (by omega) pos (b_Z d.rules[i] path k) out hp H (m_l hr.kind (by omega)) (by omega)
   rw [show ((ks[k].toNat:Nat):Int)=ks[k] by omega] at hrec
   rw [a4,show (d_W n).impl_indexer_part (⟨⟨d.rules⟩,b,out⟩:c_E) ⟨path.b++[47]++(a_V d.rules[i] k).b⟩ ks[k] (rdW d.rules b ks[k].toNat pos).1 (pos:Int)=h_5 n ⟨⟨d.rules⟩,b,out⟩ (b_Z d.rules[i] path k) ks[k] (rdW d.rules b ks[k].toNat pos).1 (pos:Int) from rfl,hrec]
   rfl
  unfold x_ ixL
  rw [hone]
  simp only
  rw [l_j hv hd hi hb hn hitem hkk a3 hpath B ih body hbd m (k+1) _ ws e _ (by omega) (by rw [List.length_append];omega) a5 hrest]
  simp
theorem p_0 (hv:X_ d=true)(hd:SmD d)(hb:b.length<=400):∀(i:Nat)(hi:i<d.rules.length),∀n,4 * i+600<=n->∀(at_:Nat)(path:Str)(L:List u_),at_<=b.length->(rdW d.rules b i at_).2.2=0->path.b.length+22 * i+32<=1000000->L.length+i * 400001<=40000000 ->
  h_5 n ⟨⟨d.rules⟩,b,L⟩ path i (rdW d.rules b i at_).1 at_=some (((rdW d.rules b i at_).2.1:Int),L++ixW d.rules b i at_ path):=by
 intro i
 induction i using Nat.strongRecOn with
 | _ i ih =>
  intro hi n hn at_ path L ha hok hpath hL;have hLIM:=a_p;have hlen:=(b_Y hv).2;obtain ⟨m,rfl⟩:∃m,n=m+1:=⟨n - 1,by omega⟩;obtain ⟨ks,e,h⟩:=e_Y hv hi ha hok;have hkk:∀k∈ks,0<=k/\k<(i:Int):=fun k hk=>(a_X hv hi).kids k (h.kids k hk)
  show h_4 m (d_W m) ⟨⟨d.rules⟩,b,L⟩ path i (rdW d.rules b i at_).1 at_=_
  unfold h_4
  simp only
  rw [a_s (by omega),bd_some,show (⟨d.rules⟩:d_)=d from rfl,q_e hd (by omega)]
  have J:okV d b (i:Int) (at_:Int)=true:=by
   unfold okV b_8
   rw [hv,dT_ (show (0:Int)<=(i:Int) by omega),dT_ (show (i:Int)<(d.rules.length:Int) by omega),dT_ (show (0:Int)<=(at_:Int) by omega),dT_ (show (at_:Int)<=(b.length:Int) by omega),dT_ (show (b.length:Int)<=400 by omega)]
   rfl
  have hrv:b_2 d i b at_=b_1 (rdW d.rules b i at_):=by unfold b_2;rw [iP_ J];rfl
  rw [hrv]
  simp only [bd2_some]
  rw [ix_ hi,bd_some]
  have hs:=q_k hv hb hi ha
  rw [i_F hv hi h path]
  have hcl:=e_X h.ch
  rw [hcl]
  have tail:∀(f:Int->Option (Int×List u_)),bd (α:=Bool) (if (d.rules[i].kind==5)=true then some (d.rules[i].kind==5) else some (d.rules[i].kind==7)) (fun O=>bd (α:=Int) (if O=true then bd (idx d.rules[i].kids 0) fun G=>bd (idx d.rules G) fun H=>some (g_ (at_:Int) H.size) else bd (α:=Int) (if (d.rules[i].kind==8)=true then some (g_ (at_:Int) 1) else some (at_:Int)) (fun I=>some I)) f)=f ((a_f d.rules d.rules[i] at_:Nat):Int):=by
   intro f;generalize (if (d.rules[i].kind==5)=true then some (d.rules[i].kind==5) else some (d.rules[i].kind==7))=o at *
   cases o with
   | none=>cases hs
   | some x =>
    simp only [bd_some] at hs ⊢
    revert hs;generalize (if x=true then bd (idx d.rules[i].kids 0) fun G=>bd (idx d.rules G) fun H=>some (g_ (at_:Int) H.size) else bd (α:=Int) (if (d.rules[i].kind==8)=true then some (g_ (at_:Int) 1) else some (at_:Int)) (fun I=>some I))=V;intro hs
    cases V with
    | none=>cases hs
    | some y=>simp only [bd_some] at hs ⊢;rw [Option.some.inj hs]
  rw [tail]
  have hloop:=l_j (n:=m) hv hd hi hb (by omega) h.item hkk h.small (path:=path) (by omega) L.length (fun k hk p q L' hp W hq hL'=>ih k hk (by omega) m (by omega) p q L' hp W (by omega) (by
   have:(k+1) * 400001<=i * 400001:=Nat.mul_le_mul_right _ hk
   rw [Nat.succ_mul] at this
   omega)) _ rfl ks.length 0 (a_f d.rules d.rules[i] at_) (rdW d.rules b i at_).1.items e (L++[(⟨path,(i:Int),(at_:Int),0⟩:u_)]) (by omega) (by simp) (by rw [List.drop_zero]) (by rw [List.drop_zero];exact h.ch)
  rw [show (⟨d.rules⟩:d_)=d from rfl] at hloop
  rw [hloop]
  simp only [bd_some,el_inl,un2,List.drop_zero]
  generalize ixL (fun k p q=>ixW d.rules b k.toNat p q) (fun k p=>(rdW d.rules b k.toNat p).2.1) d.rules[i] path ks 0 (a_f d.rules d.rules[i] at_)=X
  rw [ix_ (k:=L.length) (by simp),bd_some]
  have Y:(L++[(⟨path,(i:Int),(at_:Int),0⟩:u_)]++X)[L.length]'(by simp)=(⟨path,(i:Int),(at_:Int),0⟩:u_):=by simp
  rw [Y,k_k (by simp),bd_some]
  unfold b_1
  simp
def okF (d:d_)(b:List UInt8):Bool:=(c_t d b).2.2==0
def a_B (d:d_)(b:List UInt8):List u_:=if okF d b=true then ixW d.rules b (d.rules.length - 1) 0 ⟨[]⟩ else []
theorem e_U (h:okF d b=true):X_ d=true/\b.length<=400/\d.rules.length - 1<d.rules.length/\b_a d=((d.rules.length - 1:Nat):Int)/\(rdW d.rules b (d.rules.length - 1) 0).2.2=0/\(c_t d b).1=(rdW d.rules b (d.rules.length - 1) 0).1/\c_t d b=b_1 (rdW d.rules b (d.rules.length - 1) 0):=by
 unfold okF c_t at h
 have h1:¬((b_2 d (b_a d) b 0).2.2=0/\(b_2 d (b_a d) b 0).2.1<(b.length:Int)):=by
  intro hc;rw [iP_ hc] at h;simp at h
 rw [iN_ h1] at h
 have h2:(b_2 d (b_a d) b 0).2.2=0:=by simpa using h
 have h3:okV d b (b_a d) 0=true:=by
  rcases Bool.eq_false_or_eq_true (okV d b (b_a d) 0) with h | h
  ·exact h
  ·unfold b_2 at h2;rw [h] at h2;simp at h2
 obtain ⟨hv,hb,i,p,hi,hp,hil,_⟩:=i_C h3;have hl:=b_Y hv;have hroot:b_a d=((d.rules.length - 1:Nat):Int):=by unfold b_a;omega
 have e:b_2 d (b_a d) b 0=b_1 (rdW d.rules b (d.rules.length - 1) 0):=by
  unfold b_2;rw [iP_ h3,hroot];rfl
 have G:c_t d b=b_1 (rdW d.rules b (d.rules.length - 1) 0):=by unfold c_t;rw [iN_ h1,e]
 refine ⟨hv,hb,by omega,hroot,?_,?_,G⟩
 ·rw [e] at h2;exact h2
 ·rw [G];rfl
theorem p_1 (hd:SmD d){n:Nat}(hn:500<=n):g_I n d b=some (okF d b):=by
 unfold g_I okF
 rw [q_g hd hn];rfl
theorem j_Q (hd:SmD d){n:Nat}(hn:1000<=n):f_c n d b=some (a_B d b,okF d b):=by
 unfold f_c a_B
 rw [p_1 hd (by omega)]
 cases h:okF d b
 ·rfl
 ·obtain ⟨hv,hb,hlt,hroot,hok,_⟩:=e_U h;have hl:=b_Y hv
  rw [i_D hd,hroot]
  have:=o_Z hv hd hb (d.rules.length - 1) hlt n (by omega) 0 ⟨[]⟩ (by omega) hok (by simp;omega)
  rw [show (((0:Nat)):Int)=0 from rfl] at this
  simp only [bd_some,nT_,bF_,fF_]
  rw [this];rfl
theorem l_k (hd:SmD d){n:Nat}(hn:1000<=n):f_d n d b=some (a_B d b,okF d b):=by
 unfold f_d a_B
 rw [q_f hd (by omega)]
 cases h:okF d b
 ·have h2:(c_t d b).2.2 ≠ 0:=by unfold okF at h;simpa using h
  generalize c_t d b=x at h2
  show (if (x.2.2 != 0)=true then _ else _)=_
  rw [show (x.2.2 != 0)=true by simpa using h2];rfl
 ·obtain ⟨hv,hb,hlt,hroot,hok,G,hrf⟩:=e_U h;have hl:=b_Y hv
  rw [hrf]
  show (if ((rdW d.rules b (d.rules.length - 1) 0).2.2 != 0)=true then _ else _)=_
  rw [hok]
  simp only [bN_,bF_,fF_]
  rw [k_d hd,hroot,bd_some]
  have:=p_0 hv hd hb (d.rules.length - 1) hlt n (by omega) 0 ⟨[]⟩ [] (by omega) hok (by simp;omega) (by simp;omega)
  rw [show (((0:Nat)):Int)=0 from rfl] at this
  show bd2 (h_5 n ⟨⟨d.rules⟩,b,[]⟩ ⟨[]⟩ ((d.rules.length - 1:Nat):Int) (rdW d.rules b (d.rules.length - 1) 0).1 0) _=_
  rw [this];rfl
end
end Go.Vw
