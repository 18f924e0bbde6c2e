
import Derived.Test.YtcaidakkhpmcjaaGreatDoorVwP66
namespace Go.Vw
open Go.RowKit Dat
theorem r_u:∀(m:Nat)(v:Val),dep m v->vsz m v<=1000000->∀n,m+1<=n->l_S n v=some v:=by
 have hLIM:=b_b;intro m
 induction m with
 | zero =>
  intro v h hz n hn;obtain ⟨n,rfl⟩:∃k,n=k+1:=⟨n - 1,by omega⟩;have G:v.items=[]:=h;have hz':v.bytes.length<=1000000:=hz
  show e_o n (d_J n) v=_
  unfold e_o
  rw [e_E (by simp;omega),bd_some,bd_some,G]
  obtain ⟨a,b,c⟩:=v;subst G
  rfl
 | succ m ih =>
  intro v h hz n hn;obtain ⟨n,rfl⟩:∃k,n=k+1:=⟨n - 1,by omega⟩;have hz':v.bytes.length+lsz m v.items<=1000000:=hz;have hl:=k_P m v.items
  show e_o n (d_J n) v=_
  unfold e_o
  rw [e_E (by simp;omega),bd_some,bd_some]
  simp only [un3]
  refine (congrArg (fun z=>bd z _)<|m_Z (fun k=>v.items.take k) (n:=v.items.length) rfl<|fun k hk=>?_).trans ?_
  ·have hm:=gE_ hk;have hs:=k_Q (m:=m) hm;have:=ih v.items[k] (h _ hm) (by omega) n (by omega)
   rw [ix_ hk,bd_some,show (d_J n).spec_CopyValue v.items[k]=some v.items[k] from this,bd_some,c_E (by rw [List.length_take];omega),bd_some,f_l hk]
  ·rw [bd_some,el_inl,List.take_length,List.nil_append,e_z]
theorem n_o (b:List UInt8):h_M b b=some true:=by
 unfold h_M
 rw [bN_,iN_ (by simp)]
 rw [c_F (l:=b) (p:=fun _=>false) (r:=false) (fun k hk=>by rw [ix_ hk,bd_some,bd_some];simp)]
 simp
theorem eqv_ok:∀(m:Nat)(v:Val),dep m v->∀n,m+1<=n->k_3 n v v=some true:=by
 intro m
 induction m with
 | zero =>
  intro v h n hn;obtain ⟨n,rfl⟩:∃k,n=k+1:=⟨n - 1,by omega⟩;have G:v.items=[]:=h
  show e_p n (d_K n) v v=_
  unfold e_p
  rw [bN_,iN_ (by simp),n_o,bd_some,G]
  rfl
 | succ m ih =>
  intro v h n hn;obtain ⟨n,rfl⟩:∃k,n=k+1:=⟨n - 1,by omega⟩
  show e_p n (d_K n) v v=_
  unfold e_p
  rw [bN_,iN_ (by simp),n_o,bd_some,show (!true)=false from rfl,iN_ (by simp),bN_,bd_some,iN_ (by simp)]
  rw [c_F (l:=v.items) (p:=fun _=>false) (r:=false) (fun k hk=>by
   have:=ih v.items[k] (h _<|gE_ hk) n (by omega)
   rw [ix_ hk,bd_some,bd_some,show (d_K n).spec_EqualValues v.items[k] v.items[k]=some true from this,bd_some]
   simp)]
  simp
section
variable {d:b_}{b:List UInt8}
theorem l_0 {rd:Int->Nat->RR}{L:Nat}:∀{ks:List Int}{p:Nat}{vs:List Val}{e:Nat},c_p rd L ks p vs e->∀m (hm:m<ks.length) (hm':m<vs.length),vs[m]=(rd ks[m] (b_t (fun k p=>(rd k p).2.1) ks p m)).1
 | k::ks,p,vs,e,h,0,_,hm'=>by
  obtain ⟨_,_,ws,rfl,_⟩:=h
  rfl
 | k::ks,p,vs,e,h,m+1,hm,hm'=>by
  obtain ⟨_,_,ws,rfl,h3⟩:=h;have:=l_0 h3 m (by simpa using hm) (by simpa using hm')
  rw [i_M]
  simpa using this
def VStep (d:b_)(b:List UInt8)(i p:Nat)(s:Str)(k q:Nat):Prop:=∃(hi:i<d.rules.length)(m:Nat)(hm:m<(rdW d.rules b i p).1.items.length),(∀n,1000<=n->f_0 n d i (rdW d.rules b i p).1 s=some (m:Int))/\a_Z d.rules[i] (rdW d.rules b i p).1.number (m:Int)=some (k:Int)/\(rdW d.rules b i p).1.items[m]=(rdW d.rules b k q).1
inductive g_I (d:b_)(b:List UInt8):Nat->Nat->List Str->Nat->Nat->Prop
 | nil (i p:Nat):g_I d b i p [] i p
 | cons {i p i' p' k q:Nat} {s:Str} {ss:List Str} (h:VStep d b i p s k q) (hr:g_I d b k q ss i' p'):g_I d b i p (s::ss) i' p'
theorem n_p {s:Str}(h:c_i s):s.b ≠ []:=fun G=>by
 have:=h.step;unfold b_Q a_M b_Y at this
 rw [G] at this
 simp at this
theorem r_v (hv:F_ d=true)(hd:SmD d)(hb:b.length<=400){i:Nat}(hi:i<d.rules.length){at_:Nat}(ha:at_<=b.length)(hok:(rdW d.rules b i at_).2.2=0){ks:List Int}{e:Nat}(h:e_B d b d.rules[i] at_ (rdW d.rules b i at_) ks e){m:Nat}(hm:m<ks.length) :
  VStep d b i at_ (K_ d.rules[i] m) ks[m].toNat (b_t (enP d b) ks (a_6 d.rules d.rules[i] at_) m):=by
 have hne:ks ≠ []:=fun hn=>by rw [hn] at hm;simp at hm
 have hE:=k_C hv hi ha hok h hne;have hr:=a_r hv hi;have hkk:∀k∈ks,0<=k/\k<(i:Int):=fun k hk=>hr.kids k<|h.kids k hk
 have hS:=k_B hr.kind hE h.small;have hl:=e_2 h.ch;have H:=h.small;have hmi:m<(rdW d.rules b i at_).1.items.length:=by omega
 have hkm:=hkk _<|gE_ hm;refine ⟨hi,m,hmi,fun n hn=>?_,?_,?_⟩
 ·unfold f_0
  have hrule:e_9 d (i:Int)=some true:=by
   rw [k_v d hd,hv]
   unfold a_J
   rw [dT_ (show (0:Int)<=(i:Int) by omega),dT_ (show (i:Int)<(d.rules.length:Int) by omega)];rfl
  have hgt:=hS.2;refine (congrArg (fun z=>bd z _)<|l_6 (st:=fun (j:Nat)=>((j:Nat):Int)) (r:=(m:Int)) (j0:=m) (show m<n by omega) (fun j hj=>?_) ?_).trans ?_
  ·have hjk:j<ks.length:=by omega
   simp only
   rw [dT_ (show (j:Int)<((rdW d.rules b i at_).1.items.length:Int) by omega),iP_ rfl,hrule,bd_some,bd_some,iP_ rfl,ix_ hi,bd_some,f_s (by omega) _ j (by omega),bd_some]
   have G:((K_ d.rules[i] j).b==(K_ d.rules[i] m).b)=false:=by
    cases hq:((K_ d.rules[i] j).b==(K_ d.rules[i] m).b) with
    | false=>rfl
    | true =>
     have:=hS.1 j m hjk hm (by simpa using hq)
     omega
   rw [G]
   have:(if ((K_ d.rules[i] j).b != ([]:List UInt8))=true then some false else some false)=some false:=by split <;> rfl
   rw [this,bd_some,iN_ (by simp),ia_ (by omega) (by omega)]
   rfl
  ·simp only
   have hg:=n_p<|hS.2 m hm
   rw [dT_ (show (m:Int)<((rdW d.rules b i at_).1.items.length:Int) by omega),iP_ rfl,hrule,bd_some,bd_some,iP_ rfl,ix_ hi,bd_some,f_s (by omega) _ m (by omega),bd_some]
   rw [show ((K_ d.rules[i] m).b != ([]:List UInt8))=true by simpa using hg,iP_ rfl,bQ_,bd_some,iP_ rfl]
  ·rw [bd_some,el_inr]
 ·rw [c_C (b_R hr.kind),h.item m hm,show ((ks[m].toNat:Nat):Int)=ks[m] by omega]
 ·exact l_0 h.ch m hm hmi
theorem r_w (hv:F_ d=true)(hd:SmD d)(hb:b.length<=400):∀(i:Nat),i<d.rules.length->∀(at_:Nat)(path:Str)(e:k_),at_<=b.length->(rdW d.rules b i at_).2.2=0->e∈ixW d.rules b i at_ path->∃ss i' p',k_E d b path i at_ e ss i' p'/\g_I d b i at_ ss i' p':=by
 intro i
 induction i using Nat.strongRecOn with
 | _ i ih =>
  intro hi at_ path x ha hok hx;obtain ⟨ks,e,h⟩:=c_D hv hi ha hok
  rw [e_C hv hi h path] at hx
  rcases List.mem_cons.1 hx with rfl | hx
  ·exact ⟨[],i,at_,⟨by simp [b_a],fun _ h=>by simp at h,rfl,rfl,rfl,.nil _ _,by simp,hi,ha,hok⟩,.nil _ _⟩
  ·obtain ⟨m,hm,hx⟩:=g_z _ _ _ hx;have hkr:=(a_r hv hi).kids _ (h.kids _<|gE_ hm);have hP:=f_n h.ch m hm
   rw [Nat.zero_add] at hx
   obtain ⟨ss,i',p',L,V⟩:=ih ks[m].toNat (by omega) (by omega) _ _ x hP.1 hP.2 hx;obtain ⟨S,G⟩:=k_D hv hd hb hi ha hok h hm;have VS:=r_v hv hd hb hi ha hok h hm;refine ⟨K_ d.rules[i] m::ss,i',p',⟨?_,?_,L.rule,L.start,L.end_,.cons S L.reach,?_,L.hi,L.hp,L.ok⟩,.cons VS V⟩
   ·rw [L.path];simp [b_J,b_a]
   ·intro s hs
    rcases List.mem_cons.1 hs with rfl | hs
    ·exact G
    ·exact L.good s hs
   ·have:=L.len;simp;omega
theorem r_x {n:Nat}(hn:1000<=n){l:List Str}{i p i' p':Nat}{ss:List Str}(h:g_I d b i p ss i' p'):∀k,k+ss.length=l.length->l.drop k=ss ->
  v_ (σ:=Int×Int×(List UInt8)×(List Val)) (ρ:=Val×Int×Bool) (fun O=>un4 fun I J V L=>bd (idx l ((O:Nat):Int)) fun W=>bd (f_0 n d I (⟨J,V,L⟩:Val) W) fun G=>if (decide<|G<0)=true then some (.ret ((⟨0,([]:List UInt8),([]:List Val)⟩:Val),(-1),false)) else bd (idx d.rules I) fun Y=>bd (a_Z Y J G) fun a0=>bd (idx L G) fun H=>some<|.next (a0,H.number,H.bytes,H.items)) ss.length k ((i:Int),(rdW d.rules b i p).1.number,(rdW d.rules b i p).1.bytes,(rdW d.rules b i p).1.items)=some (.inl ((i':Int),(rdW d.rules b i' p').1.number,(rdW d.rules b i' p').1.bytes,(rdW d.rules b i' p').1.items)):=by
 induction h with
 | nil=>intro k _ _;rfl
 | @cons i p i' p' k' q s ss h _ ih =>
  intro k hk hdr;have hlt:k<l.length:=by simp at hk;omega
  rw [dC_ hlt] at hdr
  simp only [List.cons.injEq] at hdr
  obtain ⟨hi,m,hm,h1,h2,h3⟩:=h
  rw [lC_,v_,ix_ hlt]
  simp only [un4,bd_some]
  rw [hdr.1,e_z,h1 n hn]
  simp only [bd_some]
  rw [dF_ (show ¬(m:Int)<0 by omega),iN_ (by simp),ix_ hi,bd_some,h2,bd_some,ix_ hm,bd_some,h3]
  exact ih (k+1) (by simp at hk;omega) hdr.2
theorem r_y {n:Nat}(hn:1048600<=n)(hd:SmD d){e:k_}(he:e∈a_N d b):∃i p:Nat,e.rule=i/\e.start=p/\i<d.rules.length/\p<=b.length/\(rdW d.rules b i p).2.2=0/\dep i (rdW d.rules b i p).1/\f_1 n d (b_6 d b).1 e.path=some ((rdW d.rules b i p).1,(i:Int),true):=by
 have hok:okF d b=true:=by
  cases h:okF d b with
  | true=>rfl
  | false=>unfold a_N at he;rw [h] at he;cases he
 obtain ⟨hv,hb,hr,hroot,hrd,hval⟩:=f_i hok;unfold a_N at he
 rw [iP_ hok] at he
 obtain ⟨ss,i,p,L,V⟩:=r_w hv hd hb _ hr 0 ⟨[]⟩ e (Nat.zero_le _) hrd he;have hsz:=m_Y (b:=b) hv i L.hi p L.hp;have hle:=b_d (b:=b) hv i L.hi p L.hp;have hlen:=(a_O hv).2;have hLi:=L.hi
 have hz:vsz i (rdW d.rules b i p).1<=20000:=by
  refine Nat.le_trans (hsz.2 L.ok) (Nat.le_trans (Nat.mul_le_mul (show 2 * i+1<=49 by omega) (show (rdW d.rules b i p).2.1 - p<=400 by omega)) (by decide))
 refine ⟨i,p,L.rule,L.start,L.hi,L.hp,L.ok,hsz.1,?_⟩
 have hpath:e.path=⟨b_a ss⟩:=by
  have:=L.path
  cases hq:e.path with
  | mk x=>rw [hq] at this;simpa using this
 have hj:=i_N ss L.good;have hl:=L.len;have hMX:=MXv;have hvv:=r_p hv hd hb hr (Nat.zero_le _) hrd (n:=n) (by omega);have hval1:(b_6 d b).1=(rdW d.rules b (d.rules.length - 1) 0).1:=hval.1;unfold f_1
 rw [g_H hd,bd_some,hpath,k_A (by omega) (by simp only;omega) (by simp only;omega),k_F ss L.good,bd2_some,hval1,hroot]
 rw [show (!true)=false from rfl,iN_ (by simp),hvv,bd_some,bd_some,show (!true)=false from rfl,iN_ (by simp)]
 have hloop:=r_x (n:=n) (by omega) V (l:=ss) 0 (by omega) rfl;refine (congrArg (fun z=>bd z _) hloop).trans ?_
 rw [bd_some,el_inl]
 simp only [un4]
 rw [e_z,r_u i _ hsz.1 (by omega) n (by omega),bd_some]
end
end Go.Vw
