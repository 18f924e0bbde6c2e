
import Derived.Test.YtcaidakkhpmcjaaGreatDoorVwP9
namespace Go.Vw
open Go.RowKit Dat
section
variable {d:b_}{b:List UInt8}
theorem m_k {n:Nat}(hv:F_ d=true){i:Nat}(hi:i<d.rules.length)(hb:b.length<=400)(hn:30<=n){ks:List Int}{num:Int}(hitem:∀j (hj:j<ks.length),a_q d.rules[i] num j=ks[j])(hkk:∀k∈ks,0<=k/\k<(i:Int))(a2:ks.length<=40){path:Str}(hpath:path.b.length+32<=1000000)
  (ih:∀k,k<i->∀p q,p<=b.length->(rdW d.rules b k p).2.2=0->q.b.length<=path.b.length+22->j_e n d k b p q=some (ixW d.rules b k p q,((rdW d.rules b k p).2.1:Int)))
  (body:Nat->(List k_)×Int->Option (Out ((List k_)×Int)<|(List k_)×Int)) (hbd:body=(fun H=>un2 fun O V=>bd (cat path (⟨[47]⟩:Str)) fun W=>bd (a_Z d.rules[i] num ((H:Nat):Int)) fun Y=>bd (d_y n d.rules[i] ((H:Nat):Int)) fun a0=>bd (cat W a0) fun a1=>bd2 ((e_g n).spec_l19Build d Y b V a1) fun I J=>bd (app O I) fun L=>some<|.next (L,J))) :
  ∀m k (pos:Nat) (vs:List Val) (e:Nat) (out:List k_),k+m=ks.length->out.length<=1+k * 10000->c_p (fun k p=>rdW d.rules b k.toNat p) b.length (ks.drop k) pos vs e ->
  v_ body m k (out,(pos:Int))=some (.inl (out++ixL (fun k p q=>ixW d.rules b k.toNat p q) (fun k p=>(rdW d.rules b k.toNat p).2.1) d.rules[i] path (ks.drop k) k pos,(e:Int)))
 | 0,k,pos,vs,e,out,hk,_,hch=>by
  rw [List.drop_of_length_le (by omega)] at *
  rw [hch.2]
  simp [v_,ixL]
 | m+1,k,pos,vs,e,out,hk,ho,hch=>by
  have hLIM:=b_b;have hr:=a_r hv hi;have hlt:k<ks.length:=by omega
  rw [dC_ hlt] at *
  obtain ⟨hp,G,ws,_,hrest⟩:=hch
  simp only at G hrest
  have hkr:=hkk _<|gE_ hlt;have hst:=l_2 hr.kind k (by omega);have hsm:=n_y hv hb (show ks[k].toNat<d.rules.length by omega) (b_J d.rules[i] path k) hp G
  have hone:body k (out,(pos:Int))=some (.next (out++ixW d.rules b ks[k].toNat pos (b_J d.rules[i] path k),((rdW d.rules b ks[k].toNat pos).2.1:Int))):=by
   rw [hbd]
   simp only [un2]
   rw [g_M (by simp only [lC_,List.length_nil];omega),bd_some,c_C<|b_R hr.kind,bd_some,hitem k hlt,f_s hn _ k (by omega),bd_some,g_M (by simp only [List.length_append,lC_,List.length_nil];omega),bd_some]
   have hrec:=ih ks[k].toNat (by omega) pos (b_J d.rules[i] path k) hp G (l_3 hr.kind (by omega))
   rw [show ((ks[k].toNat:Nat):Int)=ks[k] by omega] at hrec
   rw [show (e_g n).spec_l19Build d ks[k] b (pos:Int) ⟨path.b++[47]++(K_ d.rules[i] k).b⟩=j_e n d ks[k] b (pos:Int) (b_J d.rules[i] path k) from rfl,hrec]
   simp only [bd2_some]
   rw [e_E (by omega),bd_some]
  unfold v_ ixL
  rw [hone]
  simp only
  rw [m_k hv hi hb hn hitem hkk a2 hpath ih body hbd m (k+1) _ ws e _ (by omega) (by rw [List.length_append];omega) hrest]
  simp
theorem q_j (hv:F_ d=true)(hd:SmD d)(hb:b.length<=400):∀(i:Nat)(hi:i<d.rules.length),∀n,4 * i+600<=n->∀(at_:Nat)(path:Str),at_<=b.length->(rdW d.rules b i at_).2.2=0->path.b.length+22 * i+32<=1000000 ->
  j_e n d i b at_ path=some (ixW d.rules b i at_ path,((rdW d.rules b i at_).2.1:Int)):=by
 intro i
 induction i using Nat.strongRecOn with
 | _ i ih =>
  intro hi n hn at_ path ha hok hpath;have hlen:=(a_O hv).2;obtain ⟨m,rfl⟩:∃m,n=m+1:=⟨n - 1,by omega⟩;obtain ⟨ks,e,h⟩:=c_D hv hi ha hok;have hkk:∀k∈ks,0<=k/\k<(i:Int):=fun k hk=>(a_r hv hi).kids k (h.kids k hk)
  show h_H m (e_g m) d i b at_ path=_
  unfold h_H
  rw [ix_ hi,bd_some,e_A hv hd hb i hi m (by omega) at_ ha]
  unfold b_5
  simp only [bd3_some]
  have hs:=n_z hv hb hi ha hok
  rw [e_C hv hi h path]
  have hcl:=e_2 h.ch
  rw [hcl]
  -- the start's text is that of start_eq
  have tail:∀(f:Int->Option (List k_×Int)),bd (α:=Bool) (if (d.rules[i].kind==5)=true then some (d.rules[i].kind==5) else some (d.rules[i].kind==7)) (fun J=>bd (α:=Int) (if J=true then bd (idx d.rules[i].kids 0) fun G=>bd3 (c_a d G b at_) fun L H O=>some H else bd (α:=Int) (if (d.rules[i].kind==8)=true then some (j_ (at_:Int) 1) else some (at_:Int)) (fun I=>some I)) f)=f ((a_6 d.rules d.rules[i] at_:Nat):Int):=by
   intro f;generalize (if (d.rules[i].kind==5)=true then some (d.rules[i].kind==5) else some (d.rules[i].kind==7))=o at *
   cases o with
   | none=>cases hs
   | some x =>
    simp only [bd_some] at hs ⊢
    revert hs;generalize (if x=true then bd (idx d.rules[i].kids 0) fun G=>bd3 (c_a d G b at_) fun L H O=>some H else bd (α:=Int) (if (d.rules[i].kind==8)=true then some (j_ (at_:Int) 1) else some (at_:Int)) (fun I=>some I))=V;intro hs
    cases V with
    | none=>cases hs
    | some y=>simp only [bd_some] at hs ⊢;rw [Option.some.inj hs]
  rw [tail]
  have hloop:=m_k (n:=m) hv hi hb (by omega) h.item hkk h.small (path:=path) (by omega) (fun k hk p q hp W hq=>ih k hk (by omega) m (by omega) p q hp W (by omega)) _ rfl ks.length 0 (a_6 d.rules d.rules[i] at_) (rdW d.rules b i at_).1.items e [(⟨path,(i:Int),(at_:Int),((rdW d.rules b i at_).2.1:Int)⟩:k_)] (by omega) (by simp) (by rw [List.drop_zero];exact h.ch)
  rw [hloop]
  rfl
theorem m_l {n:Nat}(hv:F_ d=true)(hd:SmD d){i:Nat}(hi:i<d.rules.length)(hb:b.length<=400)(hn:30<=n){ks:List Int}{v:Val}(hitem:∀j (hj:j<ks.length),a_q d.rules[i] v.number j=ks[j])(hkk:∀k∈ks,0<=k/\k<(i:Int))(a3:ks.length<=40){path:Str}(hpath:path.b.length+32<=1000000)(B:Nat)
  (ih:∀k,k<i->∀p q (L:List k_),p<=b.length->(rdW d.rules b k p).2.2=0->q.b.length<=path.b.length+22->L.length<=B+400001->h_K n ⟨⟨d.rules⟩,b,L⟩ q k (rdW d.rules b k p).1 p=some (((rdW d.rules b k p).2.1:Int),L++ixW d.rules b k p q))
  (body:Nat->Int×(List k_)->Option (Out (Int×(List k_))<|Int×(List k_))) (hbd:body=(fun G=>un2 fun I J=>bd (cat path (⟨[47]⟩:Str)) fun O=>bd (idx v.items ((G:Nat):Int)) fun V=>bd (e_h n (⟨d.rules⟩:b_) i ((G:Nat):Int)) fun W=>bd (cat O W) fun Y=>bd (c_L (⟨d.rules⟩:b_) i v ((G:Nat):Int)) fun a0=>bd2 ((e_i n).impl_indexer_part (⟨(⟨d.rules⟩:b_),b,J⟩:c_V) Y a0 V I) fun a1 a2=>some<|.next (a1,a2))) :
  ∀m k (pos:Nat) (vs:List Val) (e:Nat) (out:List k_),k+m=ks.length->out.length<=B+1+k * 10000->v.items.drop k=vs->c_p (fun k p=>rdW d.rules b k.toNat p) b.length (ks.drop k) pos vs e ->
  v_ body m k ((pos:Int),out)=some (.inl ((e:Int),out++ixL (fun k p q=>ixW d.rules b k.toNat p q) (fun k p=>(rdW d.rules b k.toNat p).2.1) d.rules[i] path (ks.drop k) k pos))
 | 0,k,pos,vs,e,out,hk,_,_,hch=>by
  rw [List.drop_of_length_le (by omega)] at hch ⊢
  rw [hch.2]
  simp [v_,ixL]
 | m+1,k,pos,vs,e,out,hk,ho,hvs,hch=>by
  have hLIM:=b_b;have hr:=a_r hv hi;have hlt:k<ks.length:=by omega
  rw [dC_ hlt] at hch ⊢
  obtain ⟨hp,H,ws,hws,hrest⟩:=hch
  simp only at H hrest hws
  have hkr:=hkk _<|gE_ hlt;have hst:=l_2 hr.kind k (by omega)
  rw [hws] at hvs
  have hlv:k<v.items.length:=by
   rcases Nat.lt_or_ge k v.items.length with h | h
   ·exact h
   ·rw [List.drop_of_length_le h] at hvs;cases hvs
  rw [dC_ hlv] at hvs
  obtain ⟨a4,a5⟩:=List.cons.inj hvs;have hsm:=n_y hv hb (show ks[k].toNat<d.rules.length by omega) (b_J d.rules[i] path k) hp H
  have hone:body k ((pos:Int),out)=some (.next (((rdW d.rules b ks[k].toNat pos).2.1:Int),out++ixW d.rules b ks[k].toNat pos (b_J d.rules[i] path k))):=by
   rw [hbd]
   simp only [un2]
   have e3:c_L (⟨d.rules⟩:b_) i v (k:Int)=some (a_q d.rules[i] v.number k):=k_U (d:=⟨d.rules⟩) (ix_ hi) (b_R hr.kind) v k;have e4:e_h n (⟨d.rules⟩:b_) i (k:Int)=some (K_ d.rules[i] k):=n_u (d:=d) hv hd hn hi k
   rw [g_M (by simp only [lC_,List.length_nil];omega),bd_some,ix_ hlv,bd_some,e4,bd_some,g_M (by simp only [List.length_append,lC_,List.length_nil];omega),bd_some,e3,bd_some,hitem k hlt]
   have hrec:=ih ks[k].toNat (by omega) pos (b_J d.rules[i] path k) out hp H (l_3 hr.kind (by omega)) (by omega)
   rw [show ((ks[k].toNat:Nat):Int)=ks[k] by omega] at hrec
   rw [a4,show (e_i n).impl_indexer_part (⟨⟨d.rules⟩,b,out⟩:c_V) ⟨path.b++[47]++(K_ d.rules[i] k).b⟩ ks[k] (rdW d.rules b ks[k].toNat pos).1 (pos:Int)=h_K n ⟨⟨d.rules⟩,b,out⟩ (b_J d.rules[i] path k) ks[k] (rdW d.rules b ks[k].toNat pos).1 (pos:Int) from rfl,hrec]
   rfl
  unfold v_ ixL
  rw [hone]
  simp only
  rw [m_l hv hd hi hb hn hitem hkk a3 hpath B ih body hbd m (k+1) _ ws e _ (by omega) (by rw [List.length_append];omega) a5 hrest]
  simp
theorem q_k (hv:F_ d=true)(hd:SmD d)(hb:b.length<=400):∀(i:Nat)(hi:i<d.rules.length),∀n,4 * i+600<=n->∀(at_:Nat)(path:Str)(L:List k_),at_<=b.length->(rdW d.rules b i at_).2.2=0->path.b.length+22 * i+32<=1000000->L.length+i * 400001<=40000000 ->
  h_K n ⟨⟨d.rules⟩,b,L⟩ path i (rdW d.rules b i at_).1 at_=some (((rdW d.rules b i at_).2.1:Int),L++ixW d.rules b i at_ path):=by
 intro i
 induction i using Nat.strongRecOn with
 | _ i ih =>
  intro hi n hn at_ path L ha hok hpath hL;have hLIM:=b_b;have hlen:=(a_O hv).2;obtain ⟨m,rfl⟩:∃m,n=m+1:=⟨n - 1,by omega⟩;obtain ⟨ks,e,h⟩:=c_D hv hi ha hok;have hkk:∀k∈ks,0<=k/\k<(i:Int):=fun k hk=>(a_r hv hi).kids k (h.kids k hk)
  show h_J m (e_i m) ⟨⟨d.rules⟩,b,L⟩ path i (rdW d.rules b i at_).1 at_=_
  unfold h_J
  simp only
  rw [c_E (by omega),bd_some,show (⟨d.rules⟩:b_)=d from rfl,n_k hd (by omega)]
  have J:okV d b (i:Int) (at_:Int)=true:=by
   unfold okV a_J
   rw [hv,dT_ (show (0:Int)<=(i:Int) by omega),dT_ (show (i:Int)<(d.rules.length:Int) by omega),dT_ (show (0:Int)<=(at_:Int) by omega),dT_ (show (at_:Int)<=(b.length:Int) by omega),dT_ (show (b.length:Int)<=400 by omega)]
   rfl
  have hrv:a_X d i b at_=b_5 (rdW d.rules b i at_):=by unfold a_X;rw [iP_ J];rfl
  rw [hrv]
  simp only [bd2_some]
  rw [ix_ hi,bd_some]
  have hs:=r_P hv hb hi ha
  rw [e_C hv hi h path]
  have hcl:=e_2 h.ch
  rw [hcl]
  have tail:∀(f:Int->Option (Int×List k_)),bd (α:=Bool) (if (d.rules[i].kind==5)=true then some (d.rules[i].kind==5) else some (d.rules[i].kind==7)) (fun O=>bd (α:=Int) (if O=true then bd (idx d.rules[i].kids 0) fun G=>bd (idx d.rules G) fun H=>some (j_ (at_:Int) H.size) else bd (α:=Int) (if (d.rules[i].kind==8)=true then some (j_ (at_:Int) 1) else some (at_:Int)) (fun I=>some I)) f)=f ((a_6 d.rules d.rules[i] at_:Nat):Int):=by
   intro f;generalize (if (d.rules[i].kind==5)=true then some (d.rules[i].kind==5) else some (d.rules[i].kind==7))=o at *
   cases o with
   | none=>cases hs
   | some x =>
    simp only [bd_some] at hs ⊢
    revert hs;generalize (if x=true then bd (idx d.rules[i].kids 0) fun G=>bd (idx d.rules G) fun H=>some (j_ (at_:Int) H.size) else bd (α:=Int) (if (d.rules[i].kind==8)=true then some (j_ (at_:Int) 1) else some (at_:Int)) (fun I=>some I))=V;intro hs
    cases V with
    | none=>cases hs
    | some y=>simp only [bd_some] at hs ⊢;rw [Option.some.inj hs]
  rw [tail]
  have hloop:=m_l (n:=m) hv hd hi hb (by omega) h.item hkk h.small (path:=path) (by omega) L.length (fun k hk p q L' hp W hq hL'=>ih k hk (by omega) m (by omega) p q L' hp W (by omega) (by
   have:(k+1) * 400001<=i * 400001:=Nat.mul_le_mul_right _ hk
   rw [Nat.succ_mul] at this
   omega)) _ rfl ks.length 0 (a_6 d.rules d.rules[i] at_) (rdW d.rules b i at_).1.items e (L++[(⟨path,(i:Int),(at_:Int),0⟩:k_)]) (by omega) (by simp) (by rw [List.drop_zero]) (by rw [List.drop_zero];exact h.ch)
  rw [show (⟨d.rules⟩:b_)=d from rfl] at hloop
  rw [hloop]
  simp only [bd_some,el_inl,un2,List.drop_zero]
  generalize ixL (fun k p q=>ixW d.rules b k.toNat p q) (fun k p=>(rdW d.rules b k.toNat p).2.1) d.rules[i] path ks 0 (a_6 d.rules d.rules[i] at_)=X
  rw [ix_ (k:=L.length) (by simp),bd_some]
  have Y:(L++[(⟨path,(i:Int),(at_:Int),0⟩:k_)]++X)[L.length]'(by simp)=(⟨path,(i:Int),(at_:Int),0⟩:k_):=by simp
  rw [Y,f_t (by simp),bd_some]
  unfold b_5
  simp
def okF (d:b_)(b:List UInt8):Bool:=(b_6 d b).2.2==0
def a_N (d:b_)(b:List UInt8):List k_:=if okF d b=true then ixW d.rules b (d.rules.length - 1) 0 ⟨[]⟩ else []
theorem f_i (h:okF d b=true):F_ d=true/\b.length<=400/\d.rules.length - 1<d.rules.length/\a_Y d=((d.rules.length - 1:Nat):Int)/\(rdW d.rules b (d.rules.length - 1) 0).2.2=0/\(b_6 d b).1=(rdW d.rules b (d.rules.length - 1) 0).1/\b_6 d b=b_5 (rdW d.rules b (d.rules.length - 1) 0):=by
 unfold okF b_6 at h
 have h1:¬((a_X d (a_Y d) b 0).2.2=0/\(a_X d (a_Y d) b 0).2.1<(b.length:Int)):=by
  intro hc;rw [iP_ hc] at h;simp at h
 rw [iN_ h1] at h
 have h2:(a_X d (a_Y d) b 0).2.2=0:=by simpa using h
 have h3:okV d b (a_Y d) 0=true:=by
  rcases Bool.eq_false_or_eq_true (okV d b (a_Y d) 0) with h | h
  ·exact h
  ·unfold a_X at h2;rw [h] at h2;simp at h2
 obtain ⟨hv,hb,i,p,hi,hp,hil,_⟩:=j_0 h3;have hl:=a_O hv;have hroot:a_Y d=((d.rules.length - 1:Nat):Int):=by unfold a_Y;omega
 have e:a_X d (a_Y d) b 0=b_5 (rdW d.rules b (d.rules.length - 1) 0):=by
  unfold a_X;rw [iP_ h3,hroot];rfl
 have G:b_6 d b=b_5 (rdW d.rules b (d.rules.length - 1) 0):=by unfold b_6;rw [iN_ h1,e]
 refine ⟨hv,hb,by omega,hroot,?_,?_,G⟩
 ·rw [e] at h2;exact h2
 ·rw [G];rfl
theorem q_l (hd:SmD d){n:Nat}(hn:500<=n):h_e n d b=some (okF d b):=by
 unfold h_e okF
 rw [n_n hd hn];rfl
theorem q_m (hd:SmD d){n:Nat}(hn:1000<=n):h_I n d b=some (a_N d b,okF d b):=by
 unfold h_I a_N
 rw [q_l hd (by omega)]
 cases h:okF d b
 ·rfl
 ·obtain ⟨hv,hb,hlt,hroot,hok,_⟩:=f_i h;have hl:=a_O hv
  rw [g_H hd,hroot]
  have:=q_j hv hd hb (d.rules.length - 1) hlt n (by omega) 0 ⟨[]⟩ (by omega) hok (by simp;omega)
  rw [show (((0:Nat)):Int)=0 from rfl] at this
  simp only [bd_some,nT_,bF_,fF_]
  rw [this];rfl
theorem q_n (hd:SmD d){n:Nat}(hn:1000<=n):h_L n d b=some (a_N d b,okF d b):=by
 unfold h_L a_N
 rw [n_m hd (by omega)]
 cases h:okF d b
 ·have h2:(b_6 d b).2.2 ≠ 0:=by unfold okF at h;simpa using h
  generalize b_6 d b=x at h2
  show (if (x.2.2 != 0)=true then _ else _)=_
  rw [show (x.2.2 != 0)=true by simpa using h2];rfl
 ·obtain ⟨hv,hb,hlt,hroot,hok,G,hrf⟩:=f_i h;have hl:=a_O hv
  rw [hrf]
  show (if ((rdW d.rules b (d.rules.length - 1) 0).2.2 != 0)=true then _ else _)=_
  rw [hok]
  simp only [bN_,bF_,fF_]
  rw [j_1 hd,hroot,bd_some]
  have:=q_k hv hd hb (d.rules.length - 1) hlt n (by omega) 0 ⟨[]⟩ [] (by omega) hok (by simp;omega) (by simp;omega)
  rw [show (((0:Nat)):Int)=0 from rfl] at this
  show bd2 (h_K n ⟨⟨d.rules⟩,b,[]⟩ ⟨[]⟩ ((d.rules.length - 1:Nat):Int) (rdW d.rules b (d.rules.length - 1) 0).1 0) _=_
  rw [this];rfl
end
end Go.Vw
