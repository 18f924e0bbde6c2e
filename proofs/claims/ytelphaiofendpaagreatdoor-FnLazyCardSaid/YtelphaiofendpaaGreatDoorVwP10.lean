
import Derived.Test.YtelphaiofendpaaGreatDoorVwP9
namespace Go.Vw
open Go.RowKit Dat
section
variable {d:d_}{b:Bt}
theorem m_X {n:Nat}(hv:N_ d=true){i:Nat}(hi:i<d.rules.length)(hb:b.length<=400)(hn:30<=n){ks:List Int}{num:Int}(hitem:∀j (hj:j<ks.length),X_ d.rules[i] num j=ks[j])(hkk:∀k∈ks,0<=k/\k<(i:Int))(a2:ks.length<=40){path:Str}(hpath:path.b.length+32<=1000000)
  (ih:∀k,k<i->∀p q,p<=b.length->(rdW d.rules b k p).2.2=0->q.b.length<=path.b.length+22->j_R n d k b p q=some (ixW d.rules b k p q,((rdW d.rules b k p).2.1:Int)))
  (body:Nat->(List y_)×Int->Option (Out ((List y_)×Int)<|(List y_)×Int)) (hbd:body=(λH=>un2 λO V=>bd (cat path (⟨[47]⟩:Str)) λW=>bd (a_Z d.rules[i] num ((H:Nat):Int)) λY=>bd (e_4 n d.rules[i] ((H:Nat):Int)) λa0=>bd (cat W a0) λa1=>bd2 ((e_C n).spec_l19Build d Y b V a1) λI J=>bd (app O I) λL=>some<|.next (L,J))) :
  ∀m k (pos:Nat) (vs:List Val) (e:Nat) (out:List y_),k+m=ks.length->out.length<=1+k * 10000->d_4 (λk p=>rdW d.rules b k.toNat p) b.length (ks.drop k) pos vs e ->
  x_ body m k (out,(pos:Int))=some (.inl (out++ixL (λk p q=>ixW d.rules b k.toNat p q) (λk p=>(rdW d.rules b k.toNat p).2.1) d.rules[i] path (ks.drop k) k pos,(e:Int)))
 | 0,k,pos,vs,e,out,hk,_,hch=>by
  rw [List.drop_of_length_le (by omega)] at *
  rw [hch.2]
  simp [x_,ixL]
 | m+1,k,pos,vs,e,out,hk,ho,hch=>by
  have hLIM:=a_H;have hr:=a_M hv hi;have hlt:k<ks.length:=by omega
  rw [dC_ hlt] at *
  obtain ⟨hp,G,ws,_,hrest⟩:=hch
  simp only at G hrest
  have hkr:=hkk _<|gE_ hlt;have hst:=o_e hr.kind k (by omega);have hsm:=s_P hv hb (show ks[k].toNat<d.rules.length by omega) (d_6 d.rules[i] path k) hp G
  have hone:body k (out,(pos:Int))=some (.next (out++ixW d.rules b ks[k].toNat pos (d_6 d.rules[i] path k),((rdW d.rules b ks[k].toNat pos).2.1:Int))):=by
   rw [hbd]
   simp only [un2]
   rw [a_q (by simp only [lC_,List.length_nil];omega),bd_some,c_9<|c_q hr.kind,bd_some,hitem k hlt,f_W hn _ k (by omega),bd_some,a_q (by simp only [List.length_append,lC_,List.length_nil];omega),bd_some]
   have hrec:=ih ks[k].toNat (by omega) pos (d_6 d.rules[i] path k) hp G (o_h hr.kind (by omega))
   rw [show ((ks[k].toNat:Nat):Int)=ks[k] by omega] at hrec
   rw [show (e_C n).spec_l19Build d ks[k] b (pos:Int) ⟨path.b++[47]++(a_c d.rules[i] k).b⟩=j_R n d ks[k] b (pos:Int) (d_6 d.rules[i] path k) from rfl,hrec]
   simp only [bd2_some]
   rw [c_A (by omega),bd_some]
  unfold x_ ixL
  rw [hone]
  simp only
  rw [m_X hv hi hb hn hitem hkk a2 hpath ih body hbd m (k+1) _ ws e _ (by omega) (by rw [List.length_append];omega) hrest]
  simp
theorem r_o (hv:N_ d=true)(hd:SmD d)(hb:b.length<=400):∀(i:Nat)(hi:i<d.rules.length),∀n,4 * i+600<=n->∀(at_:Nat)(path:Str),at_<=b.length->(rdW d.rules b i at_).2.2=0->path.b.length+22 * i+32<=1000000 ->
  j_R n d i b at_ path=some (ixW d.rules b i at_ path,((rdW d.rules b i at_).2.1:Int)):=by
 intro i
 induction i using Nat.strongRecOn with
 | _ i ih =>
  intro hi n hn at_ path ha hok hpath;have hlen:=(b_e hv).2;obtain ⟨m,rfl⟩:∃m,n=m+1:=⟨n - 1,by omega⟩;obtain ⟨ks,e,h⟩:=e_0 hv hi ha hok;have hkk:∀k∈ks,0<=k/\k<(i:Int):=λk hk=>(a_M hv hi).kids k (h.kids k hk)
  show i_6 m (e_C m) d i b at_ path=_
  unfold i_6
  rw [ix_ hi,bd_some,f_4 hv hd hb i hi m (by omega) at_ ha]
  unfold b_m
  simp only [bd3_some]
  have hs:=o_i hv hb hi ha hok
  rw [h_l hv hi h path]
  have hcl:=f_T h.ch
  rw [hcl]
  -- the start's text is that of start_eq
  have tail:∀(f:Int->Option (List y_×Int)),bd (α:=Bool) (if (d.rules[i].kind==5) then some (d.rules[i].kind==5) else some (d.rules[i].kind==7)) (λJ=>bd (α:=Int) (if J then bd (idx d.rules[i].kids 0) λG=>bd3 (c_C d G b at_) λL H O=>some H else bd (α:=Int) (if (d.rules[i].kind==8) then some (i_ (at_:Int) 1) else some (at_:Int)) (λI=>some I)) f)=f ((a_p d.rules d.rules[i] at_:Nat):Int):=by
   intro f;generalize (if (d.rules[i].kind==5) then some (d.rules[i].kind==5) else some (d.rules[i].kind==7))=o at *
   cases o with
   | none=>cases hs
   | some x =>
    simp only [bd_some] at hs ⊢
    revert hs;generalize (if x then bd (idx d.rules[i].kids 0) λG=>bd3 (c_C d G b at_) λL H O=>some H else bd (α:=Int) (if (d.rules[i].kind==8) then some (i_ (at_:Int) 1) else some (at_:Int)) (λI=>some I))=o2;intro hs
    cases o2 with
    | none=>cases hs
    | some y=>simp only [bd_some] at hs ⊢;rw [Option.some.inj hs]
  rw [tail]
  have hloop:=m_X (n:=m) hv hi hb (by omega) h.item hkk h.small (path:=path) (by omega) (λk hk p q hp V hq=>ih k hk (by omega) m (by omega) p q hp V (by omega)) _ rfl ks.length 0 (a_p d.rules d.rules[i] at_) (rdW d.rules b i at_).1.items e [(⟨path,(i:Int),(at_:Int),((rdW d.rules b i at_).2.1:Int)⟩:y_)] (by omega) (by simp) (by rw [List.drop_zero];exact h.ch)
  rw [hloop]
  rfl
def okF (d:d_)(b:Bt):Bool:=(c_r d b).2.2==0
def a_K (d:d_)(b:Bt):List y_:=if okF d b then ixW d.rules b (d.rules.length - 1) 0 ⟨[]⟩ else []
theorem j_g (h:okF d b=true):N_ d=true/\b.length<=400/\d.rules.length - 1<d.rules.length/\b_f d=((d.rules.length - 1:Nat):Int)/\(rdW d.rules b (d.rules.length - 1) 0).2.2=0/\(c_r d b).1=(rdW d.rules b (d.rules.length - 1) 0).1/\c_r d b=b_m (rdW d.rules b (d.rules.length - 1) 0):=by
 unfold okF c_r at h
 have h1:¬((b_x d (b_f d) b 0).2.2=0/\(b_x d (b_f d) b 0).2.1<(b.length:Int)):=by
  intro hc;rw [iP_ hc] at h;simp at h
 rw [iN_ h1] at h
 have h2:(b_x d (b_f d) b 0).2.2=0:=by simpa using h
 have h3:okV d b (b_f d) 0=true:=by
  rcases Bool.eq_false_or_eq_true (okV d b (b_f d) 0) with h | h
  .exact h
  .unfold b_x at h2;rw [h] at h2;simp at h2
 obtain ⟨hv,hb,i,p,hi,hp,hil,_⟩:=j_E h3;have hl:=b_e hv;have hroot:b_f d=((d.rules.length - 1:Nat):Int):=by unfold b_f;omega
 have e:b_x d (b_f d) b 0=b_m (rdW d.rules b (d.rules.length - 1) 0):=by
  unfold b_x;rw [iP_ h3,hroot];rfl
 have G:c_r d b=b_m (rdW d.rules b (d.rules.length - 1) 0):=by unfold c_r;rw [iN_ h1,e]
 refine ⟨hv,hb,by omega,hroot,?_,?_,G⟩
 .rw [e] at h2;exact h2
 .rw [G];rfl
theorem r_p (hd:SmD d){n:Nat}(hn:500<=n):h_H n d b=some (okF d b):=by
 unfold h_H okF
 rw [o_a hd hn];rfl
theorem m_Y (hd:SmD d){n:Nat}(hn:1000<=n):i_7 n d b=some (a_K d b,okF d b):=by
 unfold i_7 a_K
 rw [r_p hd (by omega)]
 cases h:okF d b
 .rfl
 .obtain ⟨hv,hb,hlt,hroot,hok,_⟩:=j_g h;have hl:=b_e hv
  rw [f_V hd,hroot]
  have:=r_o hv hd hb (d.rules.length - 1) hlt n (by omega) 0 ⟨[]⟩ (by omega) hok (by simp;omega)
  rw [show (((0:Nat)):Int)=0 from rfl] at this
  simp only [bd_some,nT_,bF_,fF_]
  rw [this];rfl
end
end Go.Vw
