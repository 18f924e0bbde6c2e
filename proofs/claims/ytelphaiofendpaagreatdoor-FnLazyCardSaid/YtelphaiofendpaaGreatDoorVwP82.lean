
import Derived.Test.YtelphaiofendpaaGreatDoorVwP66
namespace Go.Vw
open Go.RowKit Dat
theorem s_F:∀(m:Nat)(v:Val),dep m v->vsz m v<=1000000->∀n,m+1<=n->m_c n v=some v:=by
 have hLIM:=a_H;intro m
 induction m with
 | zero =>
  intro v h hz n hn;obtain ⟨n,rfl⟩:∃k,n=k+1:=⟨n - 1,by omega⟩;have G:v.items=[]:=h;have hz':v.bytes.length<=1000000:=hz
  show e_L n (e_e n) v=_
  unfold e_L
  rw [c_A (by simp;omega),bd_some,bd_some,G]
  obtain ⟨a,b,c⟩:=v;subst G
  rfl
 | succ m ih =>
  intro v h hz n hn;obtain ⟨n,rfl⟩:∃k,n=k+1:=⟨n - 1,by omega⟩;have hz':v.bytes.length+lsz m v.items<=1000000:=hz;have hl:=h_e m v.items
  show e_L n (e_e n) v=_
  unfold e_L
  rw [c_A (by simp;omega),bd_some,bd_some]
  simp only [un3]
  refine (congrArg (λz=>bd z _)<|f_M (λk=>v.items.take k) (n:=v.items.length) rfl<|λk hk=>?_).trans ?_
  .have hm:=gE_ hk;have hs:=j_u (m:=m) hm;have:=ih v.items[k] (h _ hm) (by omega) n (by omega)
   rw [ix_ hk,bd_some,show (e_e n).spec_CopyValue v.items[k]=some v.items[k] from this,bd_some,a_V (by rw [List.length_take];omega),bd_some,f_K hk]
  .rw [bd_some,el_inl,List.take_length,List.nil_append,f_Q]
theorem o_b (b:Bt):i_9 b b=some true:=by
 unfold i_9
 rw [bN_,iN_ (by simp)]
 rw [e_1 (l:=b) (p:=λ_=>false) (r:=false) (λk hk=>by rw [ix_ hk,bd_some,bd_some];simp)]
 simp
theorem eqv_ok:∀(m:Nat)(v:Val),dep m v->∀n,m+1<=n->m_e n v v=some true:=by
 intro m
 induction m with
 | zero =>
  intro v h n hn;obtain ⟨n,rfl⟩:∃k,n=k+1:=⟨n - 1,by omega⟩;have G:v.items=[]:=h
  show e_M n (e_f n) v v=_
  unfold e_M
  rw [bN_,iN_ (by simp),o_b,bd_some,G]
  rfl
 | succ m ih =>
  intro v h n hn;obtain ⟨n,rfl⟩:∃k,n=k+1:=⟨n - 1,by omega⟩
  show e_M n (e_f n) v v=_
  unfold e_M
  rw [bN_,iN_ (by simp),o_b,bd_some,show (!true)=false from rfl,iN_ (by simp),bN_,bd_some,iN_ (by simp)]
  rw [e_1 (l:=v.items) (p:=λ_=>false) (r:=false) (λk hk=>by
   have:=ih v.items[k] (h _<|gE_ hk) n (by omega)
   rw [ix_ hk,bd_some,bd_some,show (e_f n).spec_EqualValues v.items[k] v.items[k]=some true from this,bd_some]
   simp)]
  simp
section
variable {d:d_}{b:Bt}
theorem o_c {rd:Int->Nat->RR}{L:Nat}:∀{ks:List Int}{p:Nat}{vs:List Val}{e:Nat},d_4 rd L ks p vs e->∀m (hm:m<ks.length) (hm':m<vs.length),vs[m]=(rd ks[m] (c_0 (λk p=>(rd k p).2.1) ks p m)).1
 | k::ks,p,vs,e,h,0,_,hm'=>by
  obtain ⟨_,_,ws,rfl,_⟩:=h
  rfl
 | k::ks,p,vs,e,h,m+1,hm,hm'=>by
  obtain ⟨_,_,ws,rfl,h3⟩:=h;have:=o_c h3 m (by simpa using hm) (by simpa using hm')
  rw [j_j]
  simpa using this
def VStep (d:d_)(b:Bt)(i p:Nat)(s:Str)(k q:Nat):Prop:=∃(hi:i<d.rules.length)(m:Nat)(hm:m<(rdW d.rules b i p).1.items.length),(∀n,1000<=n->f_p n d i (rdW d.rules b i p).1 s=some (m:Int))/\a_Z d.rules[i] (rdW d.rules b i p).1.number (m:Int)=some (k:Int)/\(rdW d.rules b i p).1.items[m]=(rdW d.rules b k q).1
inductive h_k (d:d_)(b:Bt):Nat->Nat->List Str->Nat->Nat->Prop
 | nil (i p:Nat):h_k d b i p [] i p
 | cons {i p i' p' k q:Nat} {s:Str} {ss:List Str} (h:VStep d b i p s k q) (hr:h_k d b k q ss i' p'):h_k d b i p (s::ss) i' p'
theorem s_G {s:Str}(h:c_M s):s.b ≠ []:=λG=>by
 have:=h.step;unfold c_j b_7 c_o at this
 rw [G] at this
 simp at this
theorem s_H (hv:N_ d=true)(hd:SmD d)(hb:b.length<=400){i:Nat}(hi:i<d.rules.length){at_:Nat}(ha:at_<=b.length)(hok:(rdW d.rules b i at_).2.2=0){ks:List Int}{e:Nat}(h:f_U d b d.rules[i] at_ (rdW d.rules b i at_) ks e){m:Nat}(hm:m<ks.length) :
  VStep d b i at_ (a_c d.rules[i] m) ks[m].toNat (c_0 (enP d b) ks (a_p d.rules d.rules[i] at_) m):=by
 have hne:ks ≠ []:=λhn=>by rw [hn] at hm;simp at hm
 have hE:=n_6 hv hi ha hok h hne;have hr:=a_M hv hi;have hkk:∀k∈ks,0<=k/\k<(i:Int):=λk hk=>hr.kids k<|h.kids k hk
 have hS:=n_5 hr.kind hE h.small;have hl:=f_T h.ch;have H:=h.small;have hmi:m<(rdW d.rules b i at_).1.items.length:=by omega
 have hkm:=hkk _<|gE_ hm;refine ⟨hi,m,hmi,λn hn=>?_,?_,?_⟩
 .unfold f_p
  have hrule:e_5 d (i:Int)=some true:=by
   rw [f_I d hd,hv]
   unfold b_c
   rw [dT_ (show (0:Int)<=(i:Int) by omega),dT_ (show (i:Int)<(d.rules.length:Int) by omega)];rfl
  have hgt:=hS.2;refine (congrArg (λz=>bd z _)<|l_K (st:=λ(j:Nat)=>((j:Nat):Int)) (r:=(m:Int)) (j0:=m) (show m<n by omega) (λj hj=>?_) ?_).trans ?_
  .have hjk:j<ks.length:=by omega
   simp only
   rw [dT_ (show (j:Int)<((rdW d.rules b i at_).1.items.length:Int) by omega),iP_ rfl,hrule,bd_some,bd_some,iP_ rfl,ix_ hi,bd_some,f_W (by omega) _ j (by omega),bd_some]
   have G:((a_c d.rules[i] j).b==(a_c d.rules[i] m).b)=false:=by
    cases hq:((a_c d.rules[i] j).b==(a_c d.rules[i] m).b) with
    | false=>rfl
    | true =>
     have:=hS.1 j m hjk hm (by simpa using hq)
     omega
   rw [G]
   have:(if ((a_c d.rules[i] j).b != ([]:Bt)) then some false else some false)=some false:=by split <;> rfl
   rw [this,bd_some,iN_ (by simp),ia_ (by omega) (by omega)]
   rfl
  .simp only
   have hg:=s_G<|hS.2 m hm
   rw [dT_ (show (m:Int)<((rdW d.rules b i at_).1.items.length:Int) by omega),iP_ rfl,hrule,bd_some,bd_some,iP_ rfl,ix_ hi,bd_some,f_W (by omega) _ m (by omega),bd_some]
   rw [show ((a_c d.rules[i] m).b != ([]:Bt))=true by simpa using hg,iP_ rfl,bQ_,bd_some,iP_ rfl]
  .rw [bd_some,el_inr]
 .rw [c_9 (c_q hr.kind),h.item m hm,show ((ks[m].toNat:Nat):Int)=ks[m] by omega]
 .exact o_c h.ch m hm hmi
theorem s_I (hv:N_ d=true)(hd:SmD d)(hb:b.length<=400):∀(i:Nat),i<d.rules.length->∀(at_:Nat)(path:Str)(e:y_),at_<=b.length->(rdW d.rules b i at_).2.2=0->e∈ixW d.rules b i at_ path->∃ss i' p',n_a d b path i at_ e ss i' p'/\h_k d b i at_ ss i' p':=by
 intro i
 induction i using Nat.strongRecOn with
 | _ i ih =>
  intro hi at_ path x ha hok hx;obtain ⟨ks,e,h⟩:=e_0 hv hi ha hok
  rw [h_l hv hi h path] at hx
  rcases List.mem_cons.1 hx with rfl | hx
  .exact ⟨[],i,at_,⟨by simp [c_1],λ_ h=>by simp at h,rfl,rfl,rfl,.nil _ _,by simp,hi,ha,hok⟩,.nil _ _⟩
  .obtain ⟨m,hm,hx⟩:=j_k _ _ _ hx;have hkr:=(a_M hv hi).kids _ (h.kids _<|gE_ hm);have hP:=h_a h.ch m hm
   rw [Nat.zero_add] at hx
   obtain ⟨ss,i',p',L,V⟩:=ih ks[m].toNat (by omega) (by omega) _ _ x hP.1 hP.2 hx;obtain ⟨S,G⟩:=n_9 hv hd hb hi ha hok h hm;have VS:=s_H hv hd hb hi ha hok h hm;refine ⟨a_c d.rules[i] m::ss,i',p',⟨?_,?_,L.rule,L.start,L.end_,.cons S L.reach,?_,L.hi,L.hp,L.ok⟩,.cons VS V⟩
   .rw [L.path];simp [d_6,c_1]
   .intro s hs
    rcases List.mem_cons.1 hs with rfl | hs
    .exact G
    .exact L.good s hs
   .have:=L.len;simp;omega
theorem s_J {n:Nat}(hn:1000<=n){l:List Str}{i p i' p':Nat}{ss:List Str}(h:h_k d b i p ss i' p'):∀k,k+ss.length=l.length->l.drop k=ss ->
  x_ (σ:=Int×Int×Bt×(List Val)) (ρ:=Val×Int×Bool) (λO=>un4 λI J V L=>bd (idx l ((O:Nat):Int)) λW=>bd (f_p n d I (⟨J,V,L⟩:Val) W) λG=>if (decide<|G<0) then some (.ret ((⟨0,([]:Bt),([]:List Val)⟩:Val),(-1),false)) else bd (idx d.rules I) λY=>bd (a_Z Y J G) λa0=>bd (idx L G) λH=>some<|.next (a0,H.number,H.bytes,H.items)) ss.length k ((i:Int),(rdW d.rules b i p).1.number,(rdW d.rules b i p).1.bytes,(rdW d.rules b i p).1.items)=some (.inl ((i':Int),(rdW d.rules b i' p').1.number,(rdW d.rules b i' p').1.bytes,(rdW d.rules b i' p').1.items)):=by
 induction h with
 | nil=>intro k _ _;rfl
 | @cons i p i' p' k' q s ss h _ ih =>
  intro k hk hdr;have hlt:k<l.length:=by simp at hk;omega
  rw [dC_ hlt] at hdr
  simp only [List.cons.injEq] at hdr
  obtain ⟨hi,m,hm,h1,h2,h3⟩:=h
  rw [lC_,x_,ix_ hlt]
  simp only [un4,bd_some]
  rw [hdr.1,f_Q,h1 n hn]
  simp only [bd_some]
  rw [dF_ (show ¬(m:Int)<0 by omega),iN_ (by simp),ix_ hi,bd_some,h2,bd_some,ix_ hm,bd_some,h3]
  exact ih (k+1) (by simp at hk;omega) hdr.2
theorem s_K {n:Nat}(hn:1048600<=n)(hd:SmD d){e:y_}(he:e∈a_K d b):∃i p:Nat,e.rule=i/\e.start=p/\i<d.rules.length/\p<=b.length/\(rdW d.rules b i p).2.2=0/\dep i (rdW d.rules b i p).1/\g_E n d (c_r d b).1 e.path=some ((rdW d.rules b i p).1,(i:Int),true):=by
 have hok:okF d b=true:=by
  cases h:okF d b with
  | true=>rfl
  | false=>unfold a_K at he;rw [h] at he;cases he
 obtain ⟨hv,hb,hr,hroot,hrd,hval⟩:=j_g hok;unfold a_K at he
 rw [iP_ hok] at he
 obtain ⟨ss,i,p,L,V⟩:=s_I hv hd hb _ hr 0 ⟨[]⟩ e (Nat.zero_le _) hrd he;have hsz:=l_n (b:=b) hv i L.hi p L.hp;have hle:=b_v (b:=b) hv i L.hi p L.hp;have hlen:=(b_e hv).2;have hLi:=L.hi
 have hz:vsz i (rdW d.rules b i p).1<=20000:=by
  refine Nat.le_trans (hsz.2 L.ok) (Nat.le_trans (Nat.mul_le_mul (show 2 * i+1<=49 by omega) (show (rdW d.rules b i p).2.1 - p<=400 by omega)) (by decide))
 refine ⟨i,p,L.rule,L.start,L.hi,L.hp,L.ok,hsz.1,?_⟩
 have hpath:e.path=⟨c_1 ss⟩:=by
  have:=L.path
  cases hq:e.path with
  | mk x=>rw [hq] at this;simpa using this
 have hj:=l_e ss L.good;have hl:=L.len;have hMX:=MXv;have hvv:=n_V hv hd hb hr (Nat.zero_le _) hrd (n:=n) (by omega);have hval1:(c_r d b).1=(rdW d.rules b (d.rules.length - 1) 0).1:=hval.1;unfold g_E
 rw [f_V hd,bd_some,hpath,l_d (by omega) (by simp only;omega) (by simp only;omega),n_c ss L.good,bd2_some,hval1,hroot]
 rw [show (!true)=false from rfl,iN_ (by simp),hvv,bd_some,bd_some,show (!true)=false from rfl,iN_ (by simp)]
 have hloop:=s_J (n:=n) (by omega) V (l:=ss) 0 (by omega) rfl;refine (congrArg (λz=>bd z _) hloop).trans ?_
 rw [bd_some,el_inl]
 simp only [un4]
 rw [f_Q,s_F i _ hsz.1 (by omega) n (by omega),bd_some]
end
end Go.Vw
