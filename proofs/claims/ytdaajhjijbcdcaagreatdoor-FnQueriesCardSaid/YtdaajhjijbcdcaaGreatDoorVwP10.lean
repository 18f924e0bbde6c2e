
import Derived.Test.YtdaajhjijbcdcaaGreatDoorVwP9
namespace Go.Vw
open Go.RowKit Dat
section
variable {d:g_}{b:Bt}
theorem l_S {n:Nat}(hv:a_c d=true){i:Nat}(hi:i<d.rules.length)(hb:b.length<=400)(hn:30<=n){ks:List Int}{num:Int}(hitem:∀j (hj:j<ks.length),a_s d.rules[i] num j=ks[j])(hkk:∀k∈ks,0<=k/\k<(i:Int))(a2:ks.length<=40){path:Str}(hpath:path.b.length+32<=1000000)
  (ih:∀k,k<i->∀p q,p<=b.length->(rdW d.rules b k p).2.2=0->q.b.length<=path.b.length+22->j_c n d k b p q=some (ixW d.rules b k p q,((rdW d.rules b k p).2.1:Int)))
  (body:Nat->(List s_)×Int->Option (Out ((List s_)×Int)<|(List s_)×Int)) (hbd:body=(λH=>un2 λO V=>bd (cat path (⟨[47]⟩:Str)) λW=>bd (b_E d.rules[i] num ((H:Nat):Int)) λY=>bd (e_2 n d.rules[i] ((H:Nat):Int)) λa0=>bd (cat W a0) λa1=>bd2 ((e_A n).spec_l19Build d Y b V a1) λI J=>bd (app O I) λL=>some<|.next (L,J))) :
  ∀m k (pos:Nat) (vs:List Val) (e:Nat) (out:List s_),k+m=ks.length->out.length<=1+k * 10000->d_V (λk p=>rdW d.rules b k.toNat p) b.length (ks.drop k) pos vs e ->
  C_ body m k (out,(pos:Int))=some (.inl (out++ixL (λk p q=>ixW d.rules b k.toNat p q) (λk p=>(rdW d.rules b k.toNat p).2.1) d.rules[i] path (ks.drop k) k pos,(e:Int)))
 | 0,k,pos,vs,e,out,hk,_,hch=>by
  rw [List.drop_of_length_le (by omega)] at *
  rw [hch.2]
  simp [C_,ixL]
 | m+1,k,pos,vs,e,out,hk,ho,hch=>by
  have hLIM:=a_C;have hr:=b_n hv hi;have hlt:k<ks.length:=by omega
  rw [dC_ hlt] at *
  obtain ⟨hp,G,ws,_,hrest⟩:=hch
  simp only at G hrest
  have hkr:=hkk _<|gE_ hlt;have hst:=k_q hr.kind k (by omega);have hsm:=k_r hv hb (show ks[k].toNat<d.rules.length by omega) (c_o d.rules[i] path k) hp G
  have hone:body k (out,(pos:Int))=some (.next (out++ixW d.rules b ks[k].toNat pos (c_o d.rules[i] path k),((rdW d.rules b ks[k].toNat pos).2.1:Int))):=by
   rw [hbd]
   simp only [un2]
   rw [c_S (by simp only [lC_,List.length_nil];omega),bd_some,e_n<|e_V hr.kind,bd_some,hitem k hlt,i_Z hn _ k (by omega),bd_some,c_S (by simp only [List.length_append,lC_,List.length_nil];omega),bd_some]
   have hrec:=ih ks[k].toNat (by omega) pos (c_o d.rules[i] path k) hp G (k_s hr.kind (by omega))
   rw [show ((ks[k].toNat:Nat):Int)=ks[k] by omega] at hrec
   rw [show (e_A n).spec_l19Build d ks[k] b (pos:Int) ⟨path.b++[47]++(b_2 d.rules[i] k).b⟩=j_c n d ks[k] b (pos:Int) (c_o d.rules[i] path k) from rfl,hrec]
   simp only [bd2_some]
   rw [c_y (by omega),bd_some]
  unfold C_ ixL
  rw [hone]
  simp only
  rw [l_S hv hi hb hn hitem hkk a2 hpath ih body hbd m (k+1) _ ws e _ (by omega) (by rw [List.length_append];omega) hrest]
  simp
theorem p_b (hv:a_c d=true)(hd:SmD d)(hb:b.length<=400):∀(i:Nat)(hi:i<d.rules.length),∀n,4 * i+600<=n->∀(at_:Nat)(path:Str),at_<=b.length->(rdW d.rules b i at_).2.2=0->path.b.length+22 * i+32<=1000000 ->
  j_c n d i b at_ path=some (ixW d.rules b i at_ path,((rdW d.rules b i at_).2.1:Int)):=by
 intro i
 induction i using Nat.strongRecOn with
 | _ i ih =>
  intro hi n hn at_ path ha hok hpath;have hlen:=(c_f hv).2;obtain ⟨m,rfl⟩:∃m,n=m+1:=⟨n - 1,by omega⟩;obtain ⟨ks,e,h⟩:=e_Y hv hi ha hok;have hkk:∀k∈ks,0<=k/\k<(i:Int):=λk hk=>(b_n hv hi).kids k (h.kids k hk)
  show h_E m (e_A m) d i b at_ path=_
  unfold h_E
  rw [ix_ hi,bd_some,i_U hv hd hb i hi m (by omega) at_ ha]
  unfold b_u
  simp only [bd3_some]
  have hs:=m_V hv hb hi ha hok
  rw [g_X hv hi h path]
  have hcl:=f_M h.ch
  rw [hcl]
  -- the start's text is that of start_eq
  have tail:∀(f:Int->Option (List s_×Int)),bd (α:=Bool) (if (d.rules[i].kind==5) then some (d.rules[i].kind==5) else some (d.rules[i].kind==7)) (λJ=>bd (α:=Int) (if J then bd (idx d.rules[i].kids 0) λG=>bd3 (c_C d G b at_) λL H O=>some H else bd (α:=Int) (if (d.rules[i].kind==8) then some (h_ (at_:Int) 1) else some (at_:Int)) (λI=>some I)) f)=f ((a_l d.rules d.rules[i] at_:Nat):Int):=by
   intro f;generalize (if (d.rules[i].kind==5) then some (d.rules[i].kind==5) else some (d.rules[i].kind==7))=o at *
   cases o with
   | none=>cases hs
   | some x =>
    simp only [bd_some] at hs ⊢
    revert hs;generalize (if x then bd (idx d.rules[i].kids 0) λG=>bd3 (c_C d G b at_) λL H O=>some H else bd (α:=Int) (if (d.rules[i].kind==8) then some (h_ (at_:Int) 1) else some (at_:Int)) (λI=>some I))=V;intro hs
    cases V with
    | none=>cases hs
    | some y=>simp only [bd_some] at hs ⊢;rw [Option.some.inj hs]
  rw [tail]
  have hloop:=l_S (n:=m) hv hi hb (by omega) h.item hkk h.small (path:=path) (by omega) (λk hk p q hp W hq=>ih k hk (by omega) m (by omega) p q hp W (by omega)) _ rfl ks.length 0 (a_l d.rules d.rules[i] at_) (rdW d.rules b i at_).1.items e [(⟨path,(i:Int),(at_:Int),((rdW d.rules b i at_).2.1:Int)⟩:s_)] (by omega) (by simp) (by rw [List.drop_zero];exact h.ch)
  rw [hloop]
  rfl
theorem l_T {n:Nat}(hv:a_c d=true)(hd:SmD d){i:Nat}(hi:i<d.rules.length)(hb:b.length<=400)(hn:30<=n){ks:List Int}{v:Val}(hitem:∀j (hj:j<ks.length),a_s d.rules[i] v.number j=ks[j])(hkk:∀k∈ks,0<=k/\k<(i:Int))(a3:ks.length<=40){path:Str}(hpath:path.b.length+32<=1000000)(B:Nat)
  (ih:∀k,k<i->∀p q (L:List s_),p<=b.length->(rdW d.rules b k p).2.2=0->q.b.length<=path.b.length+22->L.length<=B+400001->h_H n ⟨⟨d.rules⟩,b,L⟩ q k (rdW d.rules b k p).1 p=some (((rdW d.rules b k p).2.1:Int),L++ixW d.rules b k p q))
  (body:Nat->Int×(List s_)->Option (Out (Int×(List s_))<|Int×(List s_))) (hbd:body=(λG=>un2 λI J=>bd (cat path (⟨[47]⟩:Str)) λO=>bd (idx v.items ((G:Nat):Int)) λV=>bd (f_b n (⟨d.rules⟩:g_) i ((G:Nat):Int)) λW=>bd (cat O W) λY=>bd (f_c (⟨d.rules⟩:g_) i v ((G:Nat):Int)) λa0=>bd2 ((e_B n).impl_indexer_part (⟨(⟨d.rules⟩:g_),b,J⟩:d_i) Y a0 V I) λa1 a2=>some<|.next (a1,a2))) :
  ∀m k (pos:Nat) (vs:List Val) (e:Nat) (out:List s_),k+m=ks.length->out.length<=B+1+k * 10000->v.items.drop k=vs->d_V (λk p=>rdW d.rules b k.toNat p) b.length (ks.drop k) pos vs e ->
  C_ body m k ((pos:Int),out)=some (.inl ((e:Int),out++ixL (λk p q=>ixW d.rules b k.toNat p q) (λk p=>(rdW d.rules b k.toNat p).2.1) d.rules[i] path (ks.drop k) k pos))
 | 0,k,pos,vs,e,out,hk,_,_,hch=>by
  rw [List.drop_of_length_le (by omega)] at hch ⊢
  rw [hch.2]
  simp [C_,ixL]
 | m+1,k,pos,vs,e,out,hk,ho,hvs,hch=>by
  have hLIM:=a_C;have hr:=b_n hv hi;have hlt:k<ks.length:=by omega
  rw [dC_ hlt] at hch ⊢
  obtain ⟨hp,H,ws,hws,hrest⟩:=hch
  simp only at H hrest hws
  have hkr:=hkk _<|gE_ hlt;have hst:=k_q hr.kind k (by omega)
  rw [hws] at hvs
  have hlv:k<v.items.length:=by
   rcases Nat.lt_or_ge k v.items.length with h | h
   .exact h
   .rw [List.drop_of_length_le h] at hvs;cases hvs
  rw [dC_ hlv] at hvs
  obtain ⟨a4,a5⟩:=List.cons.inj hvs;have hsm:=k_r hv hb (show ks[k].toNat<d.rules.length by omega) (c_o d.rules[i] path k) hp H
  have hone:body k ((pos:Int),out)=some (.next (((rdW d.rules b ks[k].toNat pos).2.1:Int),out++ixW d.rules b ks[k].toNat pos (c_o d.rules[i] path k))):=by
   rw [hbd]
   simp only [un2]
   have e3:f_c (⟨d.rules⟩:g_) i v (k:Int)=some (a_s d.rules[i] v.number k):=q_1 (d:=⟨d.rules⟩) (ix_ hi) (e_V hr.kind) v k;have e4:f_b n (⟨d.rules⟩:g_) i (k:Int)=some (b_2 d.rules[i] k):=q_A (d:=d) hv hd hn hi k
   rw [c_S (by simp only [lC_,List.length_nil];omega),bd_some,ix_ hlv,bd_some,e4,bd_some,c_S (by simp only [List.length_append,lC_,List.length_nil];omega),bd_some,e3,bd_some,hitem k hlt]
   have hrec:=ih ks[k].toNat (by omega) pos (c_o d.rules[i] path k) out hp H (k_s hr.kind (by omega)) (by omega)
   rw [show ((ks[k].toNat:Nat):Int)=ks[k] by omega] at hrec
   rw [a4,show (e_B n).impl_indexer_part (⟨⟨d.rules⟩,b,out⟩:d_i) ⟨path.b++[47]++(b_2 d.rules[i] k).b⟩ ks[k] (rdW d.rules b ks[k].toNat pos).1 (pos:Int)=h_H n ⟨⟨d.rules⟩,b,out⟩ (c_o d.rules[i] path k) ks[k] (rdW d.rules b ks[k].toNat pos).1 (pos:Int) from rfl,hrec]
   rfl
  unfold C_ ixL
  rw [hone]
  simp only
  rw [l_T hv hd hi hb hn hitem hkk a3 hpath B ih body hbd m (k+1) _ ws e _ (by omega) (by rw [List.length_append];omega) a5 hrest]
  simp
theorem p_c (hv:a_c d=true)(hd:SmD d)(hb:b.length<=400):∀(i:Nat)(hi:i<d.rules.length),∀n,4 * i+600<=n->∀(at_:Nat)(path:Str)(L:List s_),at_<=b.length->(rdW d.rules b i at_).2.2=0->path.b.length+22 * i+32<=1000000->L.length+i * 400001<=40000000 ->
  h_H n ⟨⟨d.rules⟩,b,L⟩ path i (rdW d.rules b i at_).1 at_=some (((rdW d.rules b i at_).2.1:Int),L++ixW d.rules b i at_ path):=by
 intro i
 induction i using Nat.strongRecOn with
 | _ i ih =>
  intro hi n hn at_ path L ha hok hpath hL;have hLIM:=a_C;have hlen:=(c_f hv).2;obtain ⟨m,rfl⟩:∃m,n=m+1:=⟨n - 1,by omega⟩;obtain ⟨ks,e,h⟩:=e_Y hv hi ha hok;have hkk:∀k∈ks,0<=k/\k<(i:Int):=λk hk=>(b_n hv hi).kids k (h.kids k hk)
  show h_G m (e_B m) ⟨⟨d.rules⟩,b,L⟩ path i (rdW d.rules b i at_).1 at_=_
  unfold h_G
  simp only
  rw [a_D (by omega),bd_some,show (⟨d.rules⟩:g_)=d from rfl,q_w hd (by omega)]
  have J:okV d b (i:Int) (at_:Int)=true:=by
   unfold okV b_B
   rw [hv,dT_ (show (0:Int)<=(i:Int) by omega),dT_ (show (i:Int)<(d.rules.length:Int) by omega),dT_ (show (0:Int)<=(at_:Int) by omega),dT_ (show (at_:Int)<=(b.length:Int) by omega),dT_ (show (b.length:Int)<=400 by omega)]
   rfl
  have hrv:b_o d i b at_=b_u (rdW d.rules b i at_):=by unfold b_o;rw [iP_ J];rfl
  rw [hrv]
  simp only [bd2_some]
  rw [ix_ hi,bd_some]
  have hs:=q_C hv hb hi ha
  rw [g_X hv hi h path]
  have hcl:=f_M h.ch
  rw [hcl]
  have tail:∀(f:Int->Option (Int×List s_)),bd (α:=Bool) (if (d.rules[i].kind==5) then some (d.rules[i].kind==5) else some (d.rules[i].kind==7)) (λO=>bd (α:=Int) (if O then bd (idx d.rules[i].kids 0) λG=>bd (idx d.rules G) λH=>some (h_ (at_:Int) H.size) else bd (α:=Int) (if (d.rules[i].kind==8) then some (h_ (at_:Int) 1) else some (at_:Int)) (λI=>some I)) f)=f ((a_l d.rules d.rules[i] at_:Nat):Int):=by
   intro f;generalize (if (d.rules[i].kind==5) then some (d.rules[i].kind==5) else some (d.rules[i].kind==7))=o at *
   cases o with
   | none=>cases hs
   | some x =>
    simp only [bd_some] at hs ⊢
    revert hs;generalize (if x then bd (idx d.rules[i].kids 0) λG=>bd (idx d.rules G) λH=>some (h_ (at_:Int) H.size) else bd (α:=Int) (if (d.rules[i].kind==8) then some (h_ (at_:Int) 1) else some (at_:Int)) (λI=>some I))=V;intro hs
    cases V with
    | none=>cases hs
    | some y=>simp only [bd_some] at hs ⊢;rw [Option.some.inj hs]
  rw [tail]
  have hloop:=l_T (n:=m) hv hd hi hb (by omega) h.item hkk h.small (path:=path) (by omega) L.length (λk hk p q L' hp W hq hL'=>ih k hk (by omega) m (by omega) p q L' hp W (by omega) (by
   have:(k+1) * 400001<=i * 400001:=Nat.mul_le_mul_right _ hk
   rw [Nat.succ_mul] at this
   omega)) _ rfl ks.length 0 (a_l d.rules d.rules[i] at_) (rdW d.rules b i at_).1.items e (L++[(⟨path,(i:Int),(at_:Int),0⟩:s_)]) (by omega) (by simp) (by rw [List.drop_zero]) (by rw [List.drop_zero];exact h.ch)
  rw [show (⟨d.rules⟩:g_)=d from rfl] at hloop
  rw [hloop]
  simp only [bd_some,el_inl,un2,List.drop_zero]
  generalize ixL (λk p q=>ixW d.rules b k.toNat p q) (λk p=>(rdW d.rules b k.toNat p).2.1) d.rules[i] path ks 0 (a_l d.rules d.rules[i] at_)=X
  rw [ix_ (k:=L.length) (by simp),bd_some]
  have Y:(L++[(⟨path,(i:Int),(at_:Int),0⟩:s_)]++X)[L.length]'(by simp)=(⟨path,(i:Int),(at_:Int),0⟩:s_):=by simp
  rw [Y,g_Y (by simp),bd_some]
  unfold b_u
  simp
def okF (d:g_)(b:Bt):Bool:=(c_R d b).2.2==0
def a_7 (d:g_)(b:Bt):List s_:=if okF d b then ixW d.rules b (d.rules.length - 1) 0 ⟨[]⟩ else []
theorem e_P (h:okF d b=true):a_c d=true/\b.length<=400/\d.rules.length - 1<d.rules.length/\b_D d=((d.rules.length - 1:Nat):Int)/\(rdW d.rules b (d.rules.length - 1) 0).2.2=0/\(c_R d b).1=(rdW d.rules b (d.rules.length - 1) 0).1/\c_R d b=b_u (rdW d.rules b (d.rules.length - 1) 0):=by
 unfold okF c_R at h
 have h1:¬((b_o d (b_D d) b 0).2.2=0/\(b_o d (b_D d) b 0).2.1<(b.length:Int)):=by
  intro hc;rw [iP_ hc] at h;simp at h
 rw [iN_ h1] at h
 have h2:(b_o d (b_D d) b 0).2.2=0:=by simpa using h
 have h3:okV d b (b_D d) 0=true:=by
  rcases Bool.eq_false_or_eq_true (okV d b (b_D d) 0) with h | h
  .exact h
  .unfold b_o at h2;rw [h] at h2;simp at h2
 obtain ⟨hv,hb,i,p,hi,hp,hil,_⟩:=i_Y h3;have hl:=c_f hv;have hroot:b_D d=((d.rules.length - 1:Nat):Int):=by unfold b_D;omega
 have e:b_o d (b_D d) b 0=b_u (rdW d.rules b (d.rules.length - 1) 0):=by
  unfold b_o;rw [iP_ h3,hroot];rfl
 have G:c_R d b=b_u (rdW d.rules b (d.rules.length - 1) 0):=by unfold c_R;rw [iN_ h1,e]
 refine ⟨hv,hb,by omega,hroot,?_,?_,G⟩
 .rw [e] at h2;exact h2
 .rw [G];rfl
theorem p_d (hd:SmD d){n:Nat}(hn:500<=n):h_i n d b=some (okF d b):=by
 unfold h_i okF
 rw [q_y hd hn];rfl
theorem p_e (hd:SmD d){n:Nat}(hn:1000<=n):h_F n d b=some (a_7 d b,okF d b):=by
 unfold h_F a_7
 rw [p_d hd (by omega)]
 cases h:okF d b
 .rfl
 .obtain ⟨hv,hb,hlt,hroot,hok,_⟩:=e_P h;have hl:=c_f hv
  rw [k_n hd,hroot]
  have:=p_b hv hd hb (d.rules.length - 1) hlt n (by omega) 0 ⟨[]⟩ (by omega) hok (by simp;omega)
  rw [show (((0:Nat)):Int)=0 from rfl] at this
  simp only [bd_some,nT_,bF_,fF_]
  rw [this];rfl
theorem p_f (hd:SmD d){n:Nat}(hn:1000<=n):h_I n d b=some (a_7 d b,okF d b):=by
 unfold h_I a_7
 rw [q_x hd (by omega)]
 cases h:okF d b
 .have h2:(c_R d b).2.2 ≠ 0:=by unfold okF at h;simpa using h
  generalize c_R d b=x at h2
  show (if (x.2.2 != 0) then _ else _)=_
  rw [show (x.2.2 != 0)=true by simpa using h2];rfl
 .obtain ⟨hv,hb,hlt,hroot,hok,G,hrf⟩:=e_P h;have hl:=c_f hv
  rw [hrf]
  show (if ((rdW d.rules b (d.rules.length - 1) 0).2.2 != 0) then _ else _)=_
  rw [hok]
  simp only [bN_,bF_,fF_]
  rw [m_Q hd,hroot,bd_some]
  have:=p_c hv hd hb (d.rules.length - 1) hlt n (by omega) 0 ⟨[]⟩ [] (by omega) hok (by simp;omega) (by simp;omega)
  rw [show (((0:Nat)):Int)=0 from rfl] at this
  show bd2 (h_H n ⟨⟨d.rules⟩,b,[]⟩ ⟨[]⟩ ((d.rules.length - 1:Nat):Int) (rdW d.rules b (d.rules.length - 1) 0).1 0) _=_
  rw [this];rfl
end
end Go.Vw
