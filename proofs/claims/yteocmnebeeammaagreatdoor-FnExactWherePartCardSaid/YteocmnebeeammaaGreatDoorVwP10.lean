
import Derived.Test.YteocmnebeeammaaGreatDoorVwP9
namespace Go.Vw
open Go.RowKit Dat
section
variable {d:d_}{b:Bt}
theorem m_Z {n:Nat}(hv:G_ d=true){i:Nat}(hi:i<d.rules.length)(hb:b.length<=400)(hn:30<=n){ks:List Int}{num:Int}(hitem:∀j (hj:j<ks.length),a_l d.rules[i] num j=ks[j])(hkk:∀k∈ks,0<=k/\k<(i:Int))(a2:ks.length<=40){path:Str}(hpath:path.b.length+32<=1000000)
  (ih:∀k,k<i->∀p q,p<=b.length->(rdW d.rules b k p).2.2=0->q.b.length<=path.b.length+22->j_V n d k b p q=some (ixW d.rules b k p q,((rdW d.rules b k p).2.1:Int)))
  (body:Nat->(List k_)×Int->Option (Out ((List k_)×Int)<|(List k_)×Int)) (hbd:body=(λH=>un2 λO V=>bd (cat path (⟨[47]⟩:Str)) λW=>bd (b_j d.rules[i] num ((H:Nat):Int)) λY=>bd (e_G n d.rules[i] ((H:Nat):Int)) λa0=>bd (cat W a0) λa1=>bd2 ((e_T n).spec_l19Build d Y b V a1) λI J=>bd (app O I) λL=>some<|.next (L,J))) :
  ∀m k (pos:Nat) (vs:List Val) (e:Nat) (out:List k_),k+m=ks.length->out.length<=1+k * 10000->d_f (λk p=>rdW d.rules b k.toNat p) b.length (ks.drop k) pos vs e ->
  r_ body m k (out,(pos:Int))=some (.inl (out++ixL (λk p q=>ixW d.rules b k.toNat p q) (λk p=>(rdW d.rules b k.toNat p).2.1) d.rules[i] path (ks.drop k) k pos,(e:Int)))
 | 0,k,pos,vs,e,out,hk,_,hch=>by
  rw [List.drop_of_length_le (by omega)] at *
  rw [hch.2]
  simp [r_,ixL]
 | m+1,k,pos,vs,e,out,hk,ho,hch=>by
  have hLIM:=a_L;have hr:=a_A hv hi;have hlt:k<ks.length:=by omega
  rw [dC_ hlt] at *
  obtain ⟨hp,G,ws,_,hrest⟩:=hch
  simp only at G hrest
  have hkr:=hkk _<|gE_ hlt;have hst:=l_q hr.kind k (by omega);have hsm:=l_r hv hb (show ks[k].toNat<d.rules.length by omega) (c_r d.rules[i] path k) hp G
  have hone:body k (out,(pos:Int))=some (.next (out++ixW d.rules b ks[k].toNat pos (c_r d.rules[i] path k),((rdW d.rules b ks[k].toNat pos).2.1:Int))):=by
   rw [hbd]
   simp only [un2]
   rw [a_e (by simp only [lC_,List.length_nil];omega),bd_some,c_U<|c_q hr.kind,bd_some,hitem k hlt,j_A hn _ k (by omega),bd_some,a_e (by simp only [List.length_append,lC_,List.length_nil];omega),bd_some]
   have hrec:=ih ks[k].toNat (by omega) pos (c_r d.rules[i] path k) hp G (l_s hr.kind (by omega))
   rw [show ((ks[k].toNat:Nat):Int)=ks[k] by omega] at hrec
   rw [show (e_T n).spec_l19Build d ks[k] b (pos:Int) ⟨path.b++[47]++(a_7 d.rules[i] k).b⟩=j_V n d ks[k] b (pos:Int) (c_r d.rules[i] path k) from rfl,hrec]
   simp only [bd2_some]
   rw [j_E (by omega),bd_some]
  unfold r_ ixL
  rw [hone]
  simp only
  rw [m_Z hv hi hb hn hitem hkk a2 hpath ih body hbd m (k+1) _ ws e _ (by omega) (by rw [List.length_append];omega) hrest]
  simp
theorem r_6 (hv:G_ d=true)(hd:SmD d)(hb:b.length<=400):∀(i:Nat)(hi:i<d.rules.length),∀n,4 * i+600<=n->∀(at_:Nat)(path:Str),at_<=b.length->(rdW d.rules b i at_).2.2=0->path.b.length+22 * i+32<=1000000 ->
  j_V n d i b at_ path=some (ixW d.rules b i at_ path,((rdW d.rules b i at_).2.1:Int)):=by
 intro i
 induction i using Nat.strongRecOn with
 | _ i ih =>
  intro hi n hn at_ path ha hok hpath;have hlen:=(a_Y hv).2;obtain ⟨m,rfl⟩:∃m,n=m+1:=⟨n - 1,by omega⟩;obtain ⟨ks,e,h⟩:=e_4 hv hi ha hok;have hkk:∀k∈ks,0<=k/\k<(i:Int):=λk hk=>(a_A hv hi).kids k (h.kids k hk)
  show h_W m (e_T m) d i b at_ path=_
  unfold h_W
  rw [ix_ hi,bd_some,f_b hv hd hb i hi m (by omega) at_ ha]
  unfold b_c
  simp only [bd3_some]
  have hs:=o_D hv hb hi ha hok
  rw [h_6 hv hi h path]
  have hcl:=f_Z h.ch
  rw [hcl]
  -- the start's text is that of start_eq
  have tail:∀(f:Int->Option (List k_×Int)),bd (α:=Bool) (if (d.rules[i].kind==5) then some (d.rules[i].kind==5) else some (d.rules[i].kind==7)) (λJ=>bd (α:=Int) (if J then bd (idx d.rules[i].kids 0) λG=>bd3 (c_I d G b at_) λL H O=>some H else bd (α:=Int) (if (d.rules[i].kind==8) then some (g_ (at_:Int) 1) else some (at_:Int)) (λI=>some I)) f)=f ((a_c d.rules d.rules[i] at_:Nat):Int):=by
   intro f;generalize (if (d.rules[i].kind==5) then some (d.rules[i].kind==5) else some (d.rules[i].kind==7))=o at *
   cases o with
   | none=>cases hs
   | some x =>
    simp only [bd_some] at hs ⊢
    revert hs;generalize (if x then bd (idx d.rules[i].kids 0) λG=>bd3 (c_I d G b at_) λL H O=>some H else bd (α:=Int) (if (d.rules[i].kind==8) then some (g_ (at_:Int) 1) else some (at_:Int)) (λI=>some I))=o2;intro hs
    cases o2 with
    | none=>cases hs
    | some y=>simp only [bd_some] at hs ⊢;rw [Option.some.inj hs]
  rw [tail]
  have hloop:=m_Z (n:=m) hv hi hb (by omega) h.item hkk h.small (path:=path) (by omega) (λk hk p q hp V hq=>ih k hk (by omega) m (by omega) p q hp V (by omega)) _ rfl ks.length 0 (a_c d.rules d.rules[i] at_) (rdW d.rules b i at_).1.items e [(⟨path,(i:Int),(at_:Int),((rdW d.rules b i at_).2.1:Int)⟩:k_)] (by omega) (by simp) (by rw [List.drop_zero];exact h.ch)
  rw [hloop]
  rfl
theorem n_0 {n:Nat}(hv:G_ d=true)(hd:SmD d){i:Nat}(hi:i<d.rules.length)(hb:b.length<=400)(hn:30<=n){ks:List Int}{v:Val}(hitem:∀j (hj:j<ks.length),a_l d.rules[i] v.number j=ks[j])(hkk:∀k∈ks,0<=k/\k<(i:Int))(a3:ks.length<=40){path:Str}(hpath:path.b.length+32<=1000000)(B:Nat)
  (ih:∀k,k<i->∀p q (L:List k_),p<=b.length->(rdW d.rules b k p).2.2=0->q.b.length<=path.b.length+22->L.length<=B+400001->h_Z n ⟨⟨d.rules⟩,b,L⟩ q k (rdW d.rules b k p).1 p=some (((rdW d.rules b k p).2.1:Int),L++ixW d.rules b k p q))
  (body:Nat->Int×(List k_)->Option (Out (Int×(List k_))<|Int×(List k_))) (hbd:body=(λG=>un2 λI J=>bd (cat path (⟨[47]⟩:Str)) λO=>bd (idx v.items ((G:Nat):Int)) λV=>bd (f_o n (⟨d.rules⟩:d_) i ((G:Nat):Int)) λW=>bd (cat O W) λY=>bd (e_b (⟨d.rules⟩:d_) i v ((G:Nat):Int)) λa0=>bd2 ((e_U n).impl_indexer_part (⟨(⟨d.rules⟩:d_),b,J⟩:d_p) Y a0 V I) λa1 a2=>some<|.next (a1,a2))) :
  ∀m k (pos:Nat) (vs:List Val) (e:Nat) (out:List k_),k+m=ks.length->out.length<=B+1+k * 10000->v.items.drop k=vs->d_f (λk p=>rdW d.rules b k.toNat p) b.length (ks.drop k) pos vs e ->
  r_ body m k ((pos:Int),out)=some (.inl ((e:Int),out++ixL (λk p q=>ixW d.rules b k.toNat p q) (λk p=>(rdW d.rules b k.toNat p).2.1) d.rules[i] path (ks.drop k) k pos))
 | 0,k,pos,vs,e,out,hk,_,_,hch=>by
  rw [List.drop_of_length_le (by omega)] at hch ⊢
  rw [hch.2]
  simp [r_,ixL]
 | m+1,k,pos,vs,e,out,hk,ho,hvs,hch=>by
  have hLIM:=a_L;have hr:=a_A hv hi;have hlt:k<ks.length:=by omega
  rw [dC_ hlt] at hch ⊢
  obtain ⟨hp,H,ws,hws,hrest⟩:=hch
  simp only at H hrest hws
  have hkr:=hkk _<|gE_ hlt;have hst:=l_q hr.kind k (by omega)
  rw [hws] at hvs
  have hlv:k<v.items.length:=by
   rcases Nat.lt_or_ge k v.items.length with h | h
   .exact h
   .rw [List.drop_of_length_le h] at hvs;cases hvs
  rw [dC_ hlv] at hvs
  obtain ⟨a4,a5⟩:=List.cons.inj hvs;have hsm:=l_r hv hb (show ks[k].toNat<d.rules.length by omega) (c_r d.rules[i] path k) hp H
  have hone:body k ((pos:Int),out)=some (.next (((rdW d.rules b ks[k].toNat pos).2.1:Int),out++ixW d.rules b ks[k].toNat pos (c_r d.rules[i] path k))):=by
   rw [hbd]
   simp only [un2]
   have e3:e_b (⟨d.rules⟩:d_) i v (k:Int)=some (a_l d.rules[i] v.number k):=l_a (d:=⟨d.rules⟩) (ix_ hi) (c_q hr.kind) v k;have e4:f_o n (⟨d.rules⟩:d_) i (k:Int)=some (a_7 d.rules[i] k):=s_K (d:=d) hv hd hn hi k
   rw [a_e (by simp only [lC_,List.length_nil];omega),bd_some,ix_ hlv,bd_some,e4,bd_some,a_e (by simp only [List.length_append,lC_,List.length_nil];omega),bd_some,e3,bd_some,hitem k hlt]
   have hrec:=ih ks[k].toNat (by omega) pos (c_r d.rules[i] path k) out hp H (l_s hr.kind (by omega)) (by omega)
   rw [show ((ks[k].toNat:Nat):Int)=ks[k] by omega] at hrec
   rw [a4,show (e_U n).impl_indexer_part (⟨⟨d.rules⟩,b,out⟩:d_p) ⟨path.b++[47]++(a_7 d.rules[i] k).b⟩ ks[k] (rdW d.rules b ks[k].toNat pos).1 (pos:Int)=h_Z n ⟨⟨d.rules⟩,b,out⟩ (c_r d.rules[i] path k) ks[k] (rdW d.rules b ks[k].toNat pos).1 (pos:Int) from rfl,hrec]
   rfl
  unfold r_ ixL
  rw [hone]
  simp only
  rw [n_0 hv hd hi hb hn hitem hkk a3 hpath B ih body hbd m (k+1) _ ws e _ (by omega) (by rw [List.length_append];omega) a5 hrest]
  simp
theorem r_7 (hv:G_ d=true)(hd:SmD d)(hb:b.length<=400):∀(i:Nat)(hi:i<d.rules.length),∀n,4 * i+600<=n->∀(at_:Nat)(path:Str)(L:List k_),at_<=b.length->(rdW d.rules b i at_).2.2=0->path.b.length+22 * i+32<=1000000->L.length+i * 400001<=40000000 ->
  h_Z n ⟨⟨d.rules⟩,b,L⟩ path i (rdW d.rules b i at_).1 at_=some (((rdW d.rules b i at_).2.1:Int),L++ixW d.rules b i at_ path):=by
 intro i
 induction i using Nat.strongRecOn with
 | _ i ih =>
  intro hi n hn at_ path L ha hok hpath hL;have hLIM:=a_L;have hlen:=(a_Y hv).2;obtain ⟨m,rfl⟩:∃m,n=m+1:=⟨n - 1,by omega⟩;obtain ⟨ks,e,h⟩:=e_4 hv hi ha hok;have hkk:∀k∈ks,0<=k/\k<(i:Int):=λk hk=>(a_A hv hi).kids k (h.kids k hk)
  show h_Y m (e_U m) ⟨⟨d.rules⟩,b,L⟩ path i (rdW d.rules b i at_).1 at_=_
  unfold h_Y
  simp only
  rw [c_s (by omega),bd_some,show (⟨d.rules⟩:d_)=d from rfl,o_y hd (by omega)]
  have J:okV d b (i:Int) (at_:Int)=true:=by
   unfold okV b_a
   rw [hv,dT_ (show (0:Int)<=(i:Int) by omega),dT_ (show (i:Int)<(d.rules.length:Int) by omega),dT_ (show (0:Int)<=(at_:Int) by omega),dT_ (show (at_:Int)<=(b.length:Int) by omega),dT_ (show (b.length:Int)<=400 by omega)]
   rfl
  have hrv:b_d d i b at_=b_c (rdW d.rules b i at_):=by unfold b_d;rw [iP_ J];rfl
  rw [hrv]
  simp only [bd2_some]
  rw [ix_ hi,bd_some]
  have hs:=s_M hv hb hi ha
  rw [h_6 hv hi h path]
  have hcl:=f_Z h.ch
  rw [hcl]
  have tail:∀(f:Int->Option (Int×List k_)),bd (α:=Bool) (if (d.rules[i].kind==5) then some (d.rules[i].kind==5) else some (d.rules[i].kind==7)) (λO=>bd (α:=Int) (if O then bd (idx d.rules[i].kids 0) λG=>bd (idx d.rules G) λH=>some (g_ (at_:Int) H.size) else bd (α:=Int) (if (d.rules[i].kind==8) then some (g_ (at_:Int) 1) else some (at_:Int)) (λI=>some I)) f)=f ((a_c d.rules d.rules[i] at_:Nat):Int):=by
   intro f;generalize (if (d.rules[i].kind==5) then some (d.rules[i].kind==5) else some (d.rules[i].kind==7))=o at *
   cases o with
   | none=>cases hs
   | some x =>
    simp only [bd_some] at hs ⊢
    revert hs;generalize (if x then bd (idx d.rules[i].kids 0) λG=>bd (idx d.rules G) λH=>some (g_ (at_:Int) H.size) else bd (α:=Int) (if (d.rules[i].kind==8) then some (g_ (at_:Int) 1) else some (at_:Int)) (λI=>some I))=o2;intro hs
    cases o2 with
    | none=>cases hs
    | some y=>simp only [bd_some] at hs ⊢;rw [Option.some.inj hs]
  rw [tail]
  have hloop:=n_0 (n:=m) hv hd hi hb (by omega) h.item hkk h.small (path:=path) (by omega) L.length (λk hk p q L' hp V hq hL'=>ih k hk (by omega) m (by omega) p q L' hp V (by omega) (by
   have:(k+1) * 400001<=i * 400001:=Nat.mul_le_mul_right _ hk
   rw [Nat.succ_mul] at this
   omega)) _ rfl ks.length 0 (a_c d.rules d.rules[i] at_) (rdW d.rules b i at_).1.items e (L++[(⟨path,(i:Int),(at_:Int),0⟩:k_)]) (by omega) (by simp) (by rw [List.drop_zero]) (by rw [List.drop_zero];exact h.ch)
  rw [show (⟨d.rules⟩:d_)=d from rfl] at hloop
  rw [hloop]
  simp only [bd_some,el_inl,un2,List.drop_zero]
  generalize ixL (λk p q=>ixW d.rules b k.toNat p q) (λk p=>(rdW d.rules b k.toNat p).2.1) d.rules[i] path ks 0 (a_c d.rules d.rules[i] at_)=X
  rw [ix_ (k:=L.length) (by simp),bd_some]
  have W:(L++[(⟨path,(i:Int),(at_:Int),0⟩:k_)]++X)[L.length]'(by simp)=(⟨path,(i:Int),(at_:Int),0⟩:k_):=by simp
  rw [W,c_D (by simp),bd_some]
  unfold b_c
  simp
def okF (d:d_)(b:Bt):Bool:=(c_Y d b).2.2==0
def a_Q (d:d_)(b:Bt):List k_:=if okF d b then ixW d.rules b (d.rules.length - 1) 0 ⟨[]⟩ else []
theorem g_V (h:okF d b=true):G_ d=true/\b.length<=400/\d.rules.length - 1<d.rules.length/\b_e d=((d.rules.length - 1:Nat):Int)/\(rdW d.rules b (d.rules.length - 1) 0).2.2=0/\(c_Y d b).1=(rdW d.rules b (d.rules.length - 1) 0).1/\c_Y d b=b_c (rdW d.rules b (d.rules.length - 1) 0):=by
 unfold okF c_Y at h
 have h1:¬((b_d d (b_e d) b 0).2.2=0/\(b_d d (b_e d) b 0).2.1<(b.length:Int)):=by
  intro hc;rw [iP_ hc] at h;simp at h
 rw [iN_ h1] at h
 have h2:(b_d d (b_e d) b 0).2.2=0:=by simpa using h
 have h3:okV d b (b_e d) 0=true:=by
  rcases Bool.eq_false_or_eq_true (okV d b (b_e d) 0) with h | h
  .exact h
  .unfold b_d at h2;rw [h] at h2;simp at h2
 obtain ⟨hv,hb,i,p,hi,hp,hil,_⟩:=j_y h3;have hl:=a_Y hv;have hroot:b_e d=((d.rules.length - 1:Nat):Int):=by unfold b_e;omega
 have e:b_d d (b_e d) b 0=b_c (rdW d.rules b (d.rules.length - 1) 0):=by
  unfold b_d;rw [iP_ h3,hroot];rfl
 have G:c_Y d b=b_c (rdW d.rules b (d.rules.length - 1) 0):=by unfold c_Y;rw [iN_ h1,e]
 refine ⟨hv,hb,by omega,hroot,?_,?_,G⟩
 .rw [e] at h2;exact h2
 .rw [G];rfl
theorem r_8 (hd:SmD d){n:Nat}(hn:500<=n):h_y n d b=some (okF d b):=by
 unfold h_y okF
 rw [s_H hd hn];rfl
theorem r_9 (hd:SmD d){n:Nat}(hn:1000<=n):h_X n d b=some (a_Q d b,okF d b):=by
 unfold h_X a_Q
 rw [r_8 hd (by omega)]
 cases h:okF d b
 .rfl
 .obtain ⟨hv,hb,hlt,hroot,hok,_⟩:=g_V h;have hl:=a_Y hv
  rw [j_z hd,hroot]
  have:=r_6 hv hd hb (d.rules.length - 1) hlt n (by omega) 0 ⟨[]⟩ (by omega) hok (by simp;omega)
  rw [show (((0:Nat)):Int)=0 from rfl] at this
  simp only [bd_some,nT_,bF_,fF_]
  rw [this];rfl
theorem r_a (hd:SmD d){n:Nat}(hn:1000<=n):i_0 n d b=some (a_Q d b,okF d b):=by
 unfold i_0 a_Q
 rw [s_G hd (by omega)]
 cases h:okF d b
 .have h2:(c_Y d b).2.2 ≠ 0:=by unfold okF at h;simpa using h
  generalize c_Y d b=x at h2
  show (if (x.2.2 != 0) then _ else _)=_
  rw [show (x.2.2 != 0)=true by simpa using h2];rfl
 .obtain ⟨hv,hb,hlt,hroot,hok,G,hrf⟩:=g_V h;have hl:=a_Y hv
  rw [hrf]
  show (if ((rdW d.rules b (d.rules.length - 1) 0).2.2 != 0) then _ else _)=_
  rw [hok]
  simp only [bN_,bF_,fF_]
  rw [l_n hd,hroot,bd_some]
  have:=r_7 hv hd hb (d.rules.length - 1) hlt n (by omega) 0 ⟨[]⟩ [] (by omega) hok (by simp;omega) (by simp;omega)
  rw [show (((0:Nat)):Int)=0 from rfl] at this
  show bd2 (h_Z n ⟨⟨d.rules⟩,b,[]⟩ ⟨[]⟩ ((d.rules.length - 1:Nat):Int) (rdW d.rules b (d.rules.length - 1) 0).1 0) _=_
  rw [this];rfl
end
end Go.Vw
