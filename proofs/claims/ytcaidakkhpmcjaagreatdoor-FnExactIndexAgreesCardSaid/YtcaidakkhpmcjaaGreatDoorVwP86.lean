
import Derived.Test.YtcaidakkhpmcjaaGreatDoorVwP82
namespace Go.Vw
open Go.RowKit Dat
section
variable {d:b_}{b:List UInt8}
theorem r_B (l:List Str)(x:Str){m:Nat}(hm:m<l.length)(he:l[m].b=x.b)(hf:∀j (hj:j<m),(l[j]'(by omega)).b ≠ x.b):f_c l x=some (m:Int):=by
 unfold f_c i_B;refine (congrArg (fun z=>bd z _)<|g_O (st:=fun _=>()) (r:=(m:Int)) hm (fun j hj=>?_) ?_).trans ?_
 ·rw [ix_ (show j<l.length by omega),bd_some,bd_some,iN_ (by simpa using hf j hj)]
 ·rw [ix_ hm,bd_some,bd_some,iP_ (by simpa using he)]
 ·rw [bd_some,el_inr]
theorem r_C (hv:F_ d=true)(hd:SmD d){i:Nat}(hi:i<d.rules.length){v:Val}{m:Nat}(hm:m<v.items.length)(V:m<=1000000)(hinj:∀j,j<m->(K_ d.rules[i] j).b ≠ (K_ d.rules[i] m).b)(hne:(K_ d.rules[i] m).b ≠ []){n:Nat}(hn:1000<=n) :
  e_t n d i v (K_ d.rules[i] m)=some (m:Int):=by
 unfold e_t;have hst:=n_u hv hd (n:=n) (by omega) hi m
 rw [g_w n (by omega) d hd,hv,show a_J d (i:Int)=true by
  unfold a_J
  rw [dT_ (show (0:Int)<=(i:Int) by omega),dT_ (show (i:Int)<(d.rules.length:Int) by omega)];rfl]
 rw [bd_some,show (!(true && true))=false from rfl,iN_ (by simp),ix_ hi,bd_some]
 have key:bd (α:=Sum Int Int) (if (d.rules[i].kind==5)=true then bd2 (e_b<|K_ d.rules[i] m) fun G H=>if (!H)=true then some (.inr (-1)) else some (.inl G) else bd (α:=Int) (if (d.rules[i].kind==6)=true then bd (f_c d.rules[i].names (K_ d.rules[i] m)) fun I=>some I else some 0) (fun J=>some<|.inl J)) (fun z=>some z)=some (.inl (m:Int)):=by
  generalize d.rules[i]=r at hinj hne ⊢
  by_cases h5:(r.kind==5)=true
  ·have e:K_ r m=⟨Lib.itoa m⟩:=by unfold K_;rw [iP_ h5]
   rw [iP_ h5,e,k_G,k_y m (by omega),bd2_some]
   rfl
  ·rw [iN_ h5]
   by_cases h6:(r.kind==6)=true
   ·rw [iP_ h6]
    have k6:r.kind=6:=by simpa using h6
    have hlt:m<r.names.length:=by
     refine Classical.byContradiction fun hc=>hne ?_
     unfold K_
     rw [k6,dF_ hc]
     rfl
    have e:∀j (hj:j<r.names.length),K_ r j=r.names[j]:=fun j hj=>by
     unfold K_
     rw [iN_ h5,h6,dT_ hj,show (true && true)=true from rfl,iP_ rfl]
     simp [gG_ hj]
    rw [r_B r.names (K_ r m) hlt (by rw [e m hlt]) (fun j hj=>by rw [← e j (by omega)];exact hinj j hj),bd_some,bd_some,bd_some]
   ·rw [iN_ h6]
    have O:m=0:=by
     refine Classical.byContradiction fun hc=>hne ?_
     unfold K_
     rw [iN_ h5,Bool.eq_false_iff.2 h6,show (m==0)=false by simpa using hc]
     simp
    subst O
    rfl
 have L:∀{β:Type}(z:Option (Sum Int Int))(f:Sum Int Int->Option β),bd z f=bd (bd z<|fun y=>some y) f:=fun z f=>by cases z <;> rfl
 rw [L,show (bd _<|fun y=>some y)=_ from key,bd_some,el_inl]
 rw [dF_ (show ¬(m:Int)<0 by omega),iN_ (by simp),dF_ (show ¬(v.items.length:Int)<=(m:Int) by omega),iN_ (by simp),hst,bd_some,bN_,iN_ (by simp),bd_some]
 rw [iN_ (by simpa using hne)]
def IStep (d:b_)(b:List UInt8)(i p:Nat)(s:Str)(k q:Nat):Prop:=∃(hi:i<d.rules.length)(m:Nat)(hm:m<(rdW d.rules b i p).1.items.length),(∀n,1000<=n->e_t n d i (rdW d.rules b i p).1 s=some (m:Int))/\c_L d (i:Int) (rdW d.rules b i p).1 (m:Int)=some (k:Int)/\(rdW d.rules b i p).1.items[m]=(rdW d.rules b k q).1
inductive g_J (d:b_)(b:List UInt8):Nat->Nat->List Str->Nat->Nat->Prop
 | nil (i p:Nat):g_J d b i p [] i p
 | cons {i p i' p' k q:Nat} {s:Str} {ss:List Str} (h:IStep d b i p s k q) (hr:g_J d b k q ss i' p'):g_J d b i p (s::ss) i' p'
theorem r_D (hv:F_ d=true)(hd:SmD d)(hb:b.length<=400){i:Nat}(hi:i<d.rules.length){at_:Nat}(ha:at_<=b.length)(hok:(rdW d.rules b i at_).2.2=0){ks:List Int}{e:Nat}(h:e_B d b d.rules[i] at_ (rdW d.rules b i at_) ks e){m:Nat}(hm:m<ks.length) :
  IStep d b i at_ (K_ d.rules[i] m) ks[m].toNat (b_t (enP d b) ks (a_6 d.rules d.rules[i] at_) m):=by
 have hne:ks ≠ []:=fun hn=>by rw [hn] at hm;simp at hm
 have hE:=k_C hv hi ha hok h hne;have hr:=a_r hv hi;have hkk:∀k∈ks,0<=k/\k<(i:Int):=fun k hk=>hr.kids k<|h.kids k hk
 have hS:=k_B hr.kind hE h.small;have hl:=e_2 h.ch;have G:=h.small;have hmi:m<(rdW d.rules b i at_).1.items.length:=by omega
 have hkm:=hkk _<|gE_ hm;refine ⟨hi,m,hmi,fun n hn=>?_,?_,?_⟩
 ·refine r_C hv hd hi hmi (by omega) (fun j hj he=>?_) (n_p<|hS.2 m hm) hn;have:=hS.1 j m (by omega) hm he
  omega
 ·rw [k_U (r:=d.rules[i]) (by rw [ix_ hi]) (b_R hr.kind),h.item m hm,show ((ks[m].toNat:Nat):Int)=ks[m] by omega]
 ·exact l_0 h.ch m hm hmi
theorem r_E (hv:F_ d=true)(hd:SmD d)(hb:b.length<=400):∀(i:Nat),i<d.rules.length->∀(at_:Nat)(path:Str)(e:k_),at_<=b.length->(rdW d.rules b i at_).2.2=0->e∈ixW d.rules b i at_ path->∃ss i' p',k_E d b path i at_ e ss i' p'/\g_J d b i at_ ss i' p':=by
 intro i
 induction i using Nat.strongRecOn with
 | _ i ih =>
  intro hi at_ path x ha hok hx;obtain ⟨ks,e,h⟩:=c_D hv hi ha hok
  rw [e_C hv hi h path] at hx
  rcases List.mem_cons.1 hx with rfl | hx
  ·exact ⟨[],i,at_,⟨by simp [b_a],fun _ h=>by simp at h,rfl,rfl,rfl,.nil _ _,by simp,hi,ha,hok⟩,.nil _ _⟩
  ·obtain ⟨m,hm,hx⟩:=g_z _ _ _ hx;have hkr:=(a_r hv hi).kids _ (h.kids _<|gE_ hm);have hP:=f_n h.ch m hm
   rw [Nat.zero_add] at hx
   obtain ⟨ss,i',p',L,V⟩:=ih ks[m].toNat (by omega) (by omega) _ _ x hP.1 hP.2 hx;obtain ⟨S,G⟩:=k_D hv hd hb hi ha hok h hm;have VS:=r_D hv hd hb hi ha hok h hm;refine ⟨K_ d.rules[i] m::ss,i',p',⟨?_,?_,L.rule,L.start,L.end_,.cons S L.reach,?_,L.hi,L.hp,L.ok⟩,.cons VS V⟩
   ·rw [L.path];simp [b_J,b_a]
   ·intro s hs
    rcases List.mem_cons.1 hs with rfl | hs
    ·exact G
    ·exact L.good s hs
   ·have:=L.len;simp;omega
theorem r_F {n:Nat}(hn:1000<=n){l:List Str}{i p i' p':Nat}{ss:List Str}(h:g_J d b i p ss i' p'):∀k,k+ss.length=l.length->l.drop k=ss ->
  v_ (σ:=Val×Int) (ρ:=(Option Val)×Int) (fun J=>un2 fun G I=>bd (idx l ((J:Nat):Int)) fun L=>bd (e_t n d I G L) fun H=>if (decide<|H<0)=true then some (.ret (none,(-1))) else bd (idx G.items H) fun O=>bd (c_L d I G H) fun V=>some<|.next (O,V)) ss.length k ((rdW d.rules b i p).1,(i:Int))=some (.inl ((rdW d.rules b i' p').1,(i':Int))):=by
 induction h with
 | nil=>intro k _ _;rfl
 | @cons i p i' p' k' q s ss h _ ih =>
  intro k hk hdr;have hlt:k<l.length:=by simp at hk;omega
  rw [dC_ hlt] at hdr
  simp only [List.cons.injEq] at hdr
  obtain ⟨hi,m,hm,h1,h2,h3⟩:=h
  rw [lC_,v_,ix_ hlt]
  simp only [un2,bd_some]
  rw [hdr.1,h1 n hn]
  simp only [bd_some]
  rw [dF_ (show ¬(m:Int)<0 by omega),iN_ (by simp),ix_ hm,bd_some,h2,bd_some,h3]
  exact ih (k+1) (by simp at hk;omega) hdr.2
theorem r_G:∀(m:Nat)(v:Val),dep m v->vsz m v<=1000000->∀n,m+1<=n->m_6 n v=some v:=by
 have hLIM:=b_b;intro m
 induction m with
 | zero =>
  intro v h hz n hn;obtain ⟨n,rfl⟩:∃k,n=k+1:=⟨n - 1,by omega⟩;have G:v.items=[]:=h;have hz':v.bytes.length<=1000000:=hz
  show e_u n (d_Q n) v=_
  unfold e_u
  rw [e_E (by simp;omega),bd_some,G]
  obtain ⟨a,b,c⟩:=v;subst G
  rfl
 | succ m ih =>
  intro v h hz n hn;obtain ⟨n,rfl⟩:∃k,n=k+1:=⟨n - 1,by omega⟩;have hz':v.bytes.length+lsz m v.items<=1000000:=hz;have hl:=k_P m v.items
  show e_u n (d_Q n) v=_
  unfold e_u
  rw [e_E (by simp;omega),bd_some,g_N (show v.items.length<=LIM by omega),bd_some,bd_some]
  simp only [un3]
  refine (congrArg (fun z=>bd z _)<|m_Z (fun k=>v.items.take k) (n:=v.items.length) rfl<|fun k hk=>?_).trans ?_
  ·have hm:=gE_ hk;have hs:=k_Q (m:=m) hm;have:=ih v.items[k] (h _ hm) (by omega) n (by omega)
   rw [ix_ hk,bd_some,show (d_Q n).impl_CopyValue v.items[k]=some v.items[k] from this,bd_some,c_E (by rw [List.length_take];omega),bd_some,f_l hk]
  ·rw [bd_some,el_inl,List.take_length,List.nil_append,e_z]
theorem n_q (b:List UInt8):h_A b b=some true:=by
 rw [r_4,bQ_]
theorem r_H:∀(m:Nat)(v:Val),dep m v->∀n,m+1<=n->k_l n v v=some true:=by
 intro m
 induction m with
 | zero =>
  intro v h n hn;obtain ⟨n,rfl⟩:∃k,n=k+1:=⟨n - 1,by omega⟩;have G:v.items=[]:=h
  show e_v n (d_R n) v v=_
  unfold e_v
  rw [bN_,iN_ (by simp),n_q,bd_some,G]
  rfl
 | succ m ih =>
  intro v h n hn;obtain ⟨n,rfl⟩:∃k,n=k+1:=⟨n - 1,by omega⟩
  show e_v n (d_R n) v v=_
  unfold e_v
  rw [bN_,iN_ (by simp),n_q,bd_some,show (!true)=false from rfl,iN_ (by simp),bN_,bd_some,iN_ (by simp)]
  rw [c_F (l:=v.items) (p:=fun _=>false) (r:=false) (fun k hk=>by
   have:=ih v.items[k] (h _<|gE_ hk) n (by omega)
   rw [ix_ hk,bd_some,bd_some,show (d_R n).impl_EqualValues v.items[k] v.items[k]=some true from this,bd_some]
   simp)]
  simp
theorem r_I {n:Nat}(hn:1048600<=n)(hd:SmD d){e:k_}(he:e∈a_N d b):∃i p:Nat,e.rule=i/\e.start=p/\f_d n d (b_6 d b).1 e.path=some ((rdW d.rules b i p).1,(i:Int),true):=by
 have hok:okF d b=true:=by
  cases h:okF d b with
  | true=>rfl
  | false=>unfold a_N at he;rw [h] at he;cases he
 obtain ⟨hv,hb,hr,hroot,hrd,hval⟩:=f_i hok;unfold a_N at he
 rw [iP_ hok] at he
 obtain ⟨ss,i,p,L,V⟩:=r_E hv hd hb _ hr 0 ⟨[]⟩ e (Nat.zero_le _) hrd he;have hsz:=m_Y (b:=b) hv i L.hi p L.hp;have hle:=b_d (b:=b) hv i L.hi p L.hp;have hlen:=(a_O hv).2;have hLi:=L.hi
 have hz:vsz i (rdW d.rules b i p).1<=20000:=by
  refine Nat.le_trans (hsz.2 L.ok) (Nat.le_trans (Nat.mul_le_mul (show 2 * i+1<=49 by omega) (show (rdW d.rules b i p).2.1 - p<=400 by omega)) (by decide))
 refine ⟨i,p,L.rule,L.start,?_⟩
 have hpath:e.path=⟨b_a ss⟩:=by
  have:=L.path
  cases hq:e.path with
  | mk x=>rw [hq] at this;simpa using this
 have hj:=i_N ss L.good;have hl:=L.len;have hMX:=MXv;have hvv:=r_q hv hd hb hr (Nat.zero_le _) hrd (n:=n) (by omega);have hval1:(b_6 d b).1=(rdW d.rules b (d.rules.length - 1) 0).1:=hval.1;unfold f_d i_C
 rw [hpath,m_F (by omega) (by simp only;omega),k_F ss L.good,bd2_some,j_1 hd,bd_some,hval1,hroot]
 rw [show (!true)=false from rfl,iN_ (by simp),hvv,bd_some,bd_some,show (!true)=false from rfl,iN_ (by simp),bd_some]
 have hloop:=r_F (n:=n) (by omega) V (l:=ss) 0 (by omega) rfl;refine (congrArg (fun z=>bd2 (bd z _) _) hloop).trans ?_
 rw [bd_some,el_inl]
 simp only [un2,bd2_some,opS]
 rw [r_G i _ hsz.1 (by omega) n (by omega),bd_some]
end
end Go.Vw
