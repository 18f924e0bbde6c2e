
import Derived.Test.YtajhmimbhplkfaaGreatDoorVwP9
set_option linter.unusedVariables false
namespace Go.Vw
open Go.RowKit Dat
section
variable {d:f_} {b:List UInt8}
theorem l_r {n:Nat} (hv:S_ d=true) {i:Nat} (hi:i<d.rules.length) (hb:b.length≤400) (hn:30≤n) {ks:List Int} {num:Int} (hitem : ∀ j (hj:j<ks.length),a_g d.rules[i] num j=ks[j]) (hkk : ∀ k∈ks,0≤k∧k<(i:Int)) (h40:ks.length≤40) {path:Str} (hpath:path.b.length+32≤1000000)
  (ih : ∀ k,k<i → ∀ p q,p≤b.length→(rdW d.rules b k p).2.2=0→q.b.length≤path.b.length+22→i_M n d k b p q=some (ixW d.rules b k p q,((rdW d.rules b k p).2.1:Int)))
  (body:Nat→(List K_)×Int→Option (Out ((List K_)×Int)<|(List K_)×Int)) (hbd:body=(fun k712=>un2 fun x699 x707=>bd (cat path (⟨[47]⟩:Str)) fun x914=>bd (b_p d.rules[i] num ((k712:Nat):Int)) fun r970=>bd (d_7 n d.rules[i] ((k712:Nat):Int)) fun r982=>bd (cat x914 r982) fun x988=>bd2 ((e_9 n).spec_l19Build d r970 b x707 x988) fun r1013 r1014=>bd (app x699 r1013) fun x1040=>some<|.next (x1040,r1014))) :
  ∀ m k (pos:Nat) (vs:List Val) (e:Nat) (out:List K_),k+m=ks.length→out.length≤1+k * 10000→d_Y (fun k p=>rdW d.rules b k.toNat p) b.length (ks.drop k) pos vs e →
  E_ body m k (out,(pos:Int))=some (.inl (out++ixL (fun k p q=>ixW d.rules b k.toNat p q) (fun k p=>(rdW d.rules b k.toNat p).2.1) d.rules[i] path (ks.drop k) k pos,(e:Int)))
 | 0,k,pos,vs,e,out,hk,_,hch=>by
  rw [List.drop_of_length_le (by omega)] at *
  rw [hch.2]
  simp [E_,ixL]
 | m+1,k,pos,vs,e,out,hk,ho,hch=>by
  have hLIM:=a_x;have hr:=b_a hv hi;have hlt:k<ks.length:=by omega
  rw [dC_ hlt] at *
  obtain ⟨hp,h0,ws,_,hrest⟩:=hch
  simp only at h0 hrest
  have hkr:=hkk _<|gE_ hlt;have hst:=m_j hr.kind k (by omega);have hsm:=m_m hv hb (show ks[k].toNat<d.rules.length by omega) (d_t d.rules[i] path k) hp h0
  have hone:body k (out,(pos:Int))=some (.next (out++ixW d.rules b ks[k].toNat pos (d_t d.rules[i] path k),((rdW d.rules b ks[k].toNat pos).2.1:Int))):=by
   rw [hbd]
   simp only [un2]
   rw [d_Z (by simp only [lC_,List.length_nil];omega),bd_some,d_V<|e_u hr.kind,bd_some,hitem k hlt,k_h hn _ k (by omega),bd_some,d_Z (by simp only [List.length_append,lC_,List.length_nil];omega),bd_some]
   have hrec:=ih ks[k].toNat (by omega) pos (d_t d.rules[i] path k) hp h0 (q_e hr.kind (by omega))
   rw [show ((ks[k].toNat:Nat):Int)=ks[k] by omega] at hrec
   rw [show (e_9 n).spec_l19Build d ks[k] b (pos:Int) ⟨path.b++[47]++(a_z d.rules[i] k).b⟩=i_M n d ks[k] b (pos:Int) (d_t d.rules[i] path k) from rfl,hrec]
   simp only [bd2_some]
   rw [c_g (by omega),bd_some]
  unfold E_ ixL
  rw [hone]
  simp only
  rw [l_r hv hi hb hn hitem hkk h40 hpath ih body hbd m (k+1) _ ws e _ (by omega) (by rw [List.length_append];omega) hrest]
  simp
theorem o_U (hv:S_ d=true) (hd:SmD d) (hb:b.length≤400) : ∀ (i:Nat) (hi:i<d.rules.length),∀ n,4 * i+600≤n → ∀ (at_:Nat) (path:Str),at_≤b.length→(rdW d.rules b i at_).2.2=0→path.b.length+22 * i+32≤1000000 →
  i_M n d i b at_ path=some (ixW d.rules b i at_ path,((rdW d.rules b i at_).2.1:Int)):=by
 intro i
 induction i using Nat.strongRecOn with
 | _ i ih =>
  intro hi n hn at_ path ha hok hpath;have hlen:=(b_V hv).2;obtain ⟨m,rfl⟩ : ∃ m,n=m+1:=⟨n - 1,by omega⟩;obtain ⟨ks,e,h⟩:=g_n hv hi ha hok;have hkk : ∀ k∈ks,0≤k∧k<(i:Int):=fun k hk=>(b_a hv hi).kids k (h.kids k hk)
  show h_d m (e_9 m) d i b at_ path=_
  unfold h_d
  rw [ix_ hi,bd_some,i_v hv hd hb i hi m (by omega) at_ ha]
  unfold b_A
  simp only [bd3_some]
  have hs:=m_n hv hb hi ha hok
  rw [k_i hv hi h path]
  have hcl:=k_c h.ch
  rw [hcl]
  -- the start's text is that of start_eq
  have tail : ∀ (f:Int→Option (List K_×Int)),bd (α:=Bool) (if (d.rules[i].kind==5)=true then some (d.rules[i].kind==5) else some (d.rules[i].kind==7)) (fun x194=>bd (α:=Int) (if x194=true then bd (idx d.rules[i].kids 0) fun x294=>bd3 (c_j d x294 b at_) fun r333 r334 r335=>some r334 else bd (α:=Int) (if (d.rules[i].kind==8)=true then some (g_ (at_:Int) 1) else some (at_:Int)) (fun x347=>some x347)) f)=f ((a_y d.rules d.rules[i] at_:Nat):Int):=by
   intro f;generalize (if (d.rules[i].kind==5)=true then some (d.rules[i].kind==5) else some (d.rules[i].kind==7))=o at *
   cases o with
   | none=>cases hs
   | some x =>
    simp only [bd_some] at hs ⊢
    revert hs;generalize (if x=true then bd (idx d.rules[i].kids 0) fun x294=>bd3 (c_j d x294 b at_) fun r333 r334 r335=>some r334 else bd (α:=Int) (if (d.rules[i].kind==8)=true then some (g_ (at_:Int) 1) else some (at_:Int)) (fun x347=>some x347))=o2;intro hs
    cases o2 with
    | none=>cases hs
    | some y=>simp only [bd_some] at hs ⊢;rw [Option.some.inj hs]
  rw [tail]
  have hloop:=l_r (n:=m) hv hi hb (by omega) h.item hkk h.small (path:=path) (by omega) (fun k hk p q hp h0 hq=>ih k hk (by omega) m (by omega) p q hp h0 (by omega)) _ rfl ks.length 0 (a_y d.rules d.rules[i] at_) (rdW d.rules b i at_).1.items e [(⟨path,(i:Int),(at_:Int),((rdW d.rules b i at_).2.1:Int)⟩:K_)] (by omega) (by simp) (by rw [List.drop_zero];exact h.ch)
  rw [hloop]
  rfl
def okF (d:f_) (b:List UInt8):Bool:=(c_f d b).2.2==0
def b_2 (d:f_) (b:List UInt8):List K_:=if okF d b=true then ixW d.rules b (d.rules.length - 1) 0 ⟨[]⟩ else []
theorem i_e (h:okF d b=true):S_ d=true∧b.length≤400∧d.rules.length - 1<d.rules.length∧a_H d=((d.rules.length - 1:Nat):Int)∧(rdW d.rules b (d.rules.length - 1) 0).2.2=0∧(c_f d b).1=(rdW d.rules b (d.rules.length - 1) 0).1∧c_f d b=b_A (rdW d.rules b (d.rules.length - 1) 0):=by
 unfold okF c_f at h
 have h1 : ¬ ((a_S d (a_H d) b 0).2.2=0∧(a_S d (a_H d) b 0).2.1<(b.length:Int)):=by
  intro hc;rw [iP_ hc] at h;simp at h
 rw [iN_ h1] at h
 have h2:(a_S d (a_H d) b 0).2.2=0:=by simpa using h
 have h3:okV d b (a_H d) 0=true:=by
  rcases Bool.eq_false_or_eq_true (okV d b (a_H d) 0) with h | h
  ·exact h
  ·unfold a_S at h2;rw [h] at h2;simp at h2
 obtain ⟨hv,hb,i,p,hi,hp,hil,_⟩:=i_C h3;have hl:=b_V hv;have hroot:a_H d=((d.rules.length - 1:Nat):Int):=by unfold a_H;omega
 have e:a_S d (a_H d) b 0=b_A (rdW d.rules b (d.rules.length - 1) 0):=by
  unfold a_S;rw [iP_ h3,hroot];rfl
 have e2:c_f d b=b_A (rdW d.rules b (d.rules.length - 1) 0):=by unfold c_f;rw [iN_ h1,e]
 refine ⟨hv,hb,by omega,hroot,?_,?_,e2⟩
 ·rw [e] at h2;exact h2
 ·rw [e2];rfl
theorem i_f (hd:SmD d) {n:Nat} (hn:500≤n):e_C n d b=some (okF d b):=by
 unfold e_C okF
 rw [q_a hd hn];rfl
theorem o_V (hd:SmD d) {n:Nat} (hn:1000≤n):h_e n d b=some (b_2 d b,okF d b):=by
 unfold h_e b_2
 rw [i_f hd (by omega)]
 cases h:okF d b
 ·rfl
 ·obtain ⟨hv,hb,hlt,hroot,hok,_⟩:=i_e h;have hl:=b_V hv
  rw [k_e hd,hroot]
  have:=o_U hv hd hb (d.rules.length - 1) hlt n (by omega) 0 ⟨[]⟩ (by omega) hok (by simp;omega)
  rw [show (((0:Nat)):Int)=0 from rfl] at this
  simp only [bd_some,nT_,bF_,fF_]
  rw [this];rfl
end
end Go.Vw
