
import Derived.Test.YtpjplgfnhbjjjaaGreatDoorVj
namespace Go.Vw
open Go.RowKit Dat
theorem d_M:∀(m:Nat)(v:Val),dep m v->vsz m v<=1100000->∀n,m+1<=n->b_Y n v=some v:=by
 have hLIM:=X_;intro m
 induction m with
 | zero =>
  intro v h hz n hn;obtain ⟨n,rfl⟩:∃k,n=k+1:=⟨n - 1,by omega⟩;have G:v.items=[]:=h;have hz':v.bytes.length<=1100000:=hz
  show f_V n (f_6 n) v=_
  unfold f_V
  rw [b_r (by simp;omega),bd_some,bd_some,G]
  obtain ⟨a,b,c⟩:=v;subst G
  rfl
 | succ m ih =>
  intro v h hz n hn;obtain ⟨n,rfl⟩:∃k,n=k+1:=⟨n - 1,by omega⟩;have hz':v.bytes.length+lsz m v.items<=1100000:=hz;have hl:=g_u m v.items
  show f_V n (f_6 n) v=_
  unfold f_V
  rw [b_r (by simp;omega),bd_some,bd_some]
  simp only [un3]
  refine (congrArg (λz=>bd z _)<|c_h (λk=>v.items.take k) (n:=v.items.length) rfl<|λk hk=>?_).trans ?_
  .have hm:=gE_ hk;have hs:=d_H (m:=m) hm;have:=ih v.items[k] (h _ hm) (by omega) n (by omega)
   rw [ix_ hk,bd_some,show (f_6 n).spec_CopyValue v.items[k]=some v.items[k] from this,bd_some,a_a (by rw [List.length_take];omega),bd_some,d_F hk]
  .rw [bd_some,el_inl,List.take_length,List.nil_append,a_w]
theorem p_0 (b:Bt):f_L b b=some true:=by
 unfold f_L
 rw [bN_,iN_ (by simp)]
 rw [e_P (l:=b) (p:=λ_=>false) (r:=false) (λk hk=>by rw [ix_ hk,bd_some,bd_some];simp)]
 simp
theorem l_P:∀(m:Nat)(v:Val),dep m v->∀n,m+1<=n->d_v n v v=some true:=by
 intro m
 induction m with
 | zero =>
  intro v h n hn;obtain ⟨n,rfl⟩:∃k,n=k+1:=⟨n - 1,by omega⟩;have G:v.items=[]:=h
  show c_O n (d_6 n) v v=_
  unfold c_O
  rw [bN_,iN_ (by simp),p_0,bd_some,G]
  rfl
 | succ m ih =>
  intro v h n hn;obtain ⟨n,rfl⟩:∃k,n=k+1:=⟨n - 1,by omega⟩
  show c_O n (d_6 n) v v=_
  unfold c_O
  rw [bN_,iN_ (by simp),p_0,bd_some,show (!true)=false from rfl,iN_ (by simp),bN_,bd_some,iN_ (by simp)]
  rw [e_P (l:=v.items) (p:=λ_=>false) (r:=false) (λk hk=>by
   have:=ih v.items[k] (h _<|gE_ hk) n (by omega)
   rw [ix_ hk,bd_some,bd_some,show (d_6 n).spec_EqualValues v.items[k] v.items[k]=some true from this,bd_some]
   simp)]
  simp
section
variable {d:c_}{b:Bt}
theorem k_u {rd:Int->Nat->RR}{L:Nat}:∀{ks:List Int}{p:Nat}{vs:List Val}{e:Nat},e_9 rd L ks p vs e->∀m (hm:m<ks.length) (hm':m<vs.length),vs[m]=(rd ks[m] (b_4 (λk p=>(rd k p).2.1) ks p m)).1
 | k::ks,p,vs,e,h,0,_,hm'=>by
  obtain ⟨_,_,ws,rfl,_⟩:=h
  rfl
 | k::ks,p,vs,e,h,m+1,hm,hm'=>by
  obtain ⟨_,_,ws,rfl,h3⟩:=h;have:=k_u h3 m (by simpa using hm) (by simpa using hm')
  rw [k_a]
  simpa using this
def VStep (d:c_)(b:Bt)(i p:Nat)(s:Str)(k q:Nat):Prop:=∃(hi:i<d.rules.length)(m:Nat)(hm:m<(rdW d.rules b i p).1.items.length),(∀n,1000<=n->d_Y n d i (rdW d.rules b i p).1 s=some (m:Int))/\a_D d.rules[i] (rdW d.rules b i p).1.number (m:Int)=some (k:Int)/\(rdW d.rules b i p).1.items[m]=(rdW d.rules b k q).1
inductive h_E (d:c_)(b:Bt):Nat->Nat->List Str->Nat->Nat->Prop
 | nil (i p:Nat):h_E d b i p [] i p
 | cons {i p i' p' k q:Nat} {s:Str} {ss:List Str} (h:VStep d b i p s k q) (hr:h_E d b k q ss i' p'):h_E d b i p (s::ss) i' p'
theorem p_1 {s:Str}(h:c_W s):s.b ≠ []:=λG=>by
 have:=h.step;unfold c_v b_b d_i at this
 rw [G] at this
 simp at this
theorem s_Q (hv:O_ d=true)(hd:SmD d)(hb:b.length<=400){i:Nat}(hi:i<d.rules.length){at_:Nat}(ha:at_<=b.length)(hok:(rdW d.rules b i at_).2.2=0){ks:List Int}{e:Nat}(h:h_C d b d.rules[i] at_ (rdW d.rules b i at_) ks e){m:Nat}(hm:m<ks.length) :
  VStep d b i at_ (D_ d.rules[i] m) ks[m].toNat (b_4 (enP d b) ks (a_g d.rules d.rules[i] at_) m):=by
 have hne:ks ≠ []:=λhn=>by rw [hn] at hm;simp at hm
 have hE:=l_u hv hi ha hok h hne;have hr:=a_O hv hi;have hkk:∀k∈ks,0<=k/\k<(i:Int):=λk hk=>hr.kids k<|h.kids k hk
 have hS:=l_t hr.kind hE h.small;have hl:=h_B h.ch;have h40:=h.small;have hmi:m<(rdW d.rules b i at_).1.items.length:=by omega
 have hkm:=hkk _<|gE_ hm;refine ⟨hi,m,hmi,λn hn=>?_,?_,?_⟩
 .unfold d_Y
  have hrule:d_q d (i:Int)=some true:=by
   rw [h_s d hd,hv]
   unfold a_V
   rw [dT_ (show (0:Int)<=(i:Int) by omega),dT_ (show (i:Int)<(d.rules.length:Int) by omega)];rfl
  have hgt:=hS.2;refine (congrArg (λz=>bd z _)<|m_0 (st:=λ(j:Nat)=>((j:Nat):Int)) (r:=(m:Int)) (j0:=m) (show m<n by omega) (λj hj=>?_) ?_).trans ?_
  .have hjk:j<ks.length:=by omega
   simp only
   rw [dT_ (show (j:Int)<((rdW d.rules b i at_).1.items.length:Int) by omega),iP_ rfl,hrule,bd_some,bd_some,iP_ rfl,ix_ hi,bd_some,e_L (by omega) _ j (by omega),bd_some]
   have G:((D_ d.rules[i] j).b==(D_ d.rules[i] m).b)=false:=by
    cases hq:((D_ d.rules[i] j).b==(D_ d.rules[i] m).b) with
    | false=>rfl
    | true =>
     have:=hS.1 j m hjk hm (by simpa using hq)
     omega
   rw [G]
   have:(if ((D_ d.rules[i] j).b != ([]:Bt)) then some false else some false)=some false:=by split <;> rfl
   rw [this,bd_some,iN_ (by simp),ia_ (by omega) (by omega)]
   rfl
  .simp only
   have hg:=p_1<|hS.2 m hm
   rw [dT_ (show (m:Int)<((rdW d.rules b i at_).1.items.length:Int) by omega),iP_ rfl,hrule,bd_some,bd_some,iP_ rfl,ix_ hi,bd_some,e_L (by omega) _ m (by omega),bd_some]
   rw [show ((D_ d.rules[i] m).b != ([]:Bt))=true by simpa using hg,iP_ rfl,bQ_,bd_some,iP_ rfl]
  .rw [bd_some,el_inr]
 .rw [b_O (b_d hr.kind),h.item m hm,show ((ks[m].toNat:Nat):Int)=ks[m] by omega]
 .exact k_u h.ch m hm hmi
theorem s_R {n:Nat}(hn:1000<=n){l:List Str}{i p i' p':Nat}{ss:List Str}(h:h_E d b i p ss i' p'):∀k,k+ss.length=l.length->l.drop k=ss ->
  n_ (σ:=Int×Int×Bt×(List Val)) (ρ:=Val×Int×Bool) (λO=>un4 λI J V L=>bd (idx l ((O:Nat):Int)) λW=>bd (d_Y n d I (⟨J,V,L⟩:Val) W) λG=>if (decide<|G<0) then some (.ret ((⟨0,([]:Bt),([]:List Val)⟩:Val),(-1),false)) else bd (idx d.rules I) λY=>bd (a_D Y J G) λa0=>bd (idx L G) λH=>some<|.next (a0,H.number,H.bytes,H.items)) ss.length k ((i:Int),(rdW d.rules b i p).1.number,(rdW d.rules b i p).1.bytes,(rdW d.rules b i p).1.items)=some (.inl ((i':Int),(rdW d.rules b i' p').1.number,(rdW d.rules b i' p').1.bytes,(rdW d.rules b i' p').1.items)):=by
 induction h with
 | nil=>intro k _ _;rfl
 | @cons i p i' p' k' q s ss h _ ih =>
  intro k hk hdr;have hlt:k<l.length:=by simp at hk;omega
  rw [dC_ hlt] at hdr
  simp only [List.cons.injEq] at hdr
  obtain ⟨hi,m,hm,h1,h2,h3⟩:=h
  rw [lC_,n_,ix_ hlt]
  simp only [un4,bd_some]
  rw [hdr.1,a_w,h1 n hn]
  simp only [bd_some]
  rw [dF_ (show ¬(m:Int)<0 by omega),iN_ (by simp),ix_ hi,bd_some,h2,bd_some,ix_ hm,bd_some,h3]
  exact ih (k+1) (by simp at hk;omega) hdr.2
end
end Go.Vw
