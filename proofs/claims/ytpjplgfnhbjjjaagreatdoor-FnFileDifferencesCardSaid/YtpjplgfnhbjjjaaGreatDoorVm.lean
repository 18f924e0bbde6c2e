
import Derived.Test.YtpjplgfnhbjjjaaGreatDoorVl
namespace Go.Vw
open Go.RowKit Dat
section
variable {d:c_}{b:Bt}
theorem s_S (l:List Str)(x:Str){m:Nat}(hm:m<l.length)(he:l[m].b=x.b)(hf:∀j (hj:j<m),(l[j]'(by omega)).b ≠ x.b):e_u l x=some (m:Int):=by
 unfold e_u h_l;refine (congrArg (λz=>bd z _)<|i_O (st:=λ_=>()) (r:=(m:Int)) hm (λj hj=>?_) ?_).trans ?_
 .rw [ix_ (show j<l.length by omega),bd_some,bd_some,iN_ (by simpa using hf j hj)]
 .rw [ix_ hm,bd_some,bd_some,iP_ (by simpa using he)]
 .rw [bd_some,el_inr]
theorem p_2 (hv:O_ d=true)(hd:SmD d){i:Nat}(hi:i<d.rules.length){v:Val}{m:Nat}(hm:m<v.items.length)(h40:m<=1000000)(hinj:∀j,j<m->(D_ d.rules[i] j).b ≠ (D_ d.rules[i] m).b)(hne:(D_ d.rules[i] m).b ≠ []){n:Nat}(hn:1000<=n) :
  d_c n d i v (D_ d.rules[i] m)=some (m:Int):=by
 unfold d_c;have hst:=l_S hv hd (n:=n) (by omega) hi m
 rw [g_s n (by omega) d hd,hv,show a_V d (i:Int)=true by
  unfold a_V
  rw [dT_ (show (0:Int)<=(i:Int) by omega),dT_ (show (i:Int)<(d.rules.length:Int) by omega)];rfl]
 rw [bd_some,show (!(true && true))=false from rfl,iN_ (by simp),ix_ hi,bd_some]
 have key:bd (α:=Sum Int Int) (if (d.rules[i].kind==5) then bd2 (f_G<|D_ d.rules[i] m) λG H=>if (!H) then some (.inr (-1)) else some (.inl G) else bd (α:=Int) (if (d.rules[i].kind==6) then bd (e_u d.rules[i].names (D_ d.rules[i] m)) λI=>some I else some 0) (λJ=>some<|.inl J)) (λz=>some z)=some (.inl (m:Int)):=by
  generalize d.rules[i]=r at hinj hne ⊢
  by_cases h5:(r.kind==5)=true
  .have e:D_ r m=⟨Lib.itoa m⟩:=by unfold D_;rw [iP_ h5]
   rw [iP_ h5,e,l_x,o_k m (by omega),bd2_some]
   rfl
  .rw [iN_ h5]
   by_cases h6:(r.kind==6)=true
   .rw [iP_ h6]
    have k6:r.kind=6:=by simpa using h6
    have hlt:m<r.names.length:=by
     refine Classical.byContradiction λhc=>hne ?_
     unfold D_
     rw [k6,dF_ hc]
     rfl
    have e:∀j (hj:j<r.names.length),D_ r j=r.names[j]:=λj hj=>by
     unfold D_
     rw [iN_ h5,h6,dT_ hj,show (true && true)=true from rfl,iP_ rfl]
     simp [gG_ hj]
    rw [s_S r.names (D_ r m) hlt (by rw [e m hlt]) (λj hj=>by rw [← e j (by omega)];exact hinj j hj),bd_some,bd_some,bd_some]
   .rw [iN_ h6]
    have O:m=0:=by
     refine Classical.byContradiction λhc=>hne ?_
     unfold D_
     rw [iN_ h5,Bool.eq_false_iff.2 h6,show (m==0)=false by simpa using hc]
     simp
    subst O
    rfl
 have L:∀{β:Type}(z:Option (Sum Int Int))(f:Sum Int Int->Option β),bd z f=bd (bd z<|λy=>some y) f:=λz f=>by cases z <;> rfl
 rw [L,show (bd _<|λy=>some y)=_ from key,bd_some,el_inl]
 rw [dF_ (show ¬(m:Int)<0 by omega),iN_ (by simp),dF_ (show ¬(v.items.length:Int)<=(m:Int) by omega),iN_ (by simp),hst,bd_some,bN_,iN_ (by simp),bd_some]
 rw [iN_ (by simpa using hne)]
def IStep (d:c_)(b:Bt)(i p:Nat)(s:Str)(k q:Nat):Prop:=∃(hi:i<d.rules.length)(m:Nat)(hm:m<(rdW d.rules b i p).1.items.length),(∀n,1000<=n->d_c n d i (rdW d.rules b i p).1 s=some (m:Int))/\c_5 d (i:Int) (rdW d.rules b i p).1 (m:Int)=some (k:Int)/\(rdW d.rules b i p).1.items[m]=(rdW d.rules b k q).1
inductive h_F (d:c_)(b:Bt):Nat->Nat->List Str->Nat->Nat->Prop
 | nil (i p:Nat):h_F d b i p [] i p
 | cons {i p i' p' k q:Nat} {s:Str} {ss:List Str} (h:IStep d b i p s k q) (hr:h_F d b k q ss i' p'):h_F d b i p (s::ss) i' p'
theorem s_T (hv:O_ d=true)(hd:SmD d)(hb:b.length<=400){i:Nat}(hi:i<d.rules.length){at_:Nat}(ha:at_<=b.length)(hok:(rdW d.rules b i at_).2.2=0){ks:List Int}{e:Nat}(h:h_C d b d.rules[i] at_ (rdW d.rules b i at_) ks e){m:Nat}(hm:m<ks.length) :
  IStep d b i at_ (D_ d.rules[i] m) ks[m].toNat (b_4 (enP d b) ks (a_g d.rules d.rules[i] at_) m):=by
 have hne:ks ≠ []:=λhn=>by rw [hn] at hm;simp at hm
 have hE:=l_u hv hi ha hok h hne;have hr:=a_O hv hi;have hkk:∀k∈ks,0<=k/\k<(i:Int):=λk hk=>hr.kids k<|h.kids k hk
 have hS:=l_t hr.kind hE h.small;have hl:=h_B h.ch;have h40:=h.small;have hmi:m<(rdW d.rules b i at_).1.items.length:=by omega
 have hkm:=hkk _<|gE_ hm;refine ⟨hi,m,hmi,λn hn=>?_,?_,?_⟩
 .refine p_2 hv hd hi hmi (by omega) (λj hj he=>?_) (p_1<|hS.2 m hm) hn;have:=hS.1 j m (by omega) hm he
  omega
 .rw [e_G (r:=d.rules[i]) (by rw [ix_ hi]) (b_d hr.kind),h.item m hm,show ((ks[m].toNat:Nat):Int)=ks[m] by omega]
 .exact k_u h.ch m hm hmi
theorem s_U {n:Nat}(hn:1000<=n){l:List Str}{i p i' p':Nat}{ss:List Str}(h:h_F d b i p ss i' p'):∀k,k+ss.length=l.length->l.drop k=ss ->
  n_ (σ:=Val×Int) (ρ:=(Option Val)×Int) (λJ=>un2 λG I=>bd (idx l ((J:Nat):Int)) λL=>bd (d_c n d I G L) λH=>if (decide<|H<0) then some (.ret (none,(-1))) else bd (idx G.items H) λO=>bd (c_5 d I G H) λV=>some<|.next (O,V)) ss.length k ((rdW d.rules b i p).1,(i:Int))=some (.inl ((rdW d.rules b i' p').1,(i':Int))):=by
 induction h with
 | nil=>intro k _ _;rfl
 | @cons i p i' p' k' q s ss h _ ih =>
  intro k hk hdr;have hlt:k<l.length:=by simp at hk;omega
  rw [dC_ hlt] at hdr
  simp only [List.cons.injEq] at hdr
  obtain ⟨hi,m,hm,h1,h2,h3⟩:=h
  rw [lC_,n_,ix_ hlt]
  simp only [un2,bd_some]
  rw [hdr.1,h1 n hn]
  simp only [bd_some]
  rw [dF_ (show ¬(m:Int)<0 by omega),iN_ (by simp),ix_ hm,bd_some,h2,bd_some,h3]
  exact ih (k+1) (by simp at hk;omega) hdr.2
theorem h_G:∀(m:Nat)(v:Val),dep m v->vsz m v<=1100000->∀n,m+1<=n->b_H n v=some v:=by
 have hLIM:=X_;intro m
 induction m with
 | zero =>
  intro v h hz n hn;obtain ⟨n,rfl⟩:∃k,n=k+1:=⟨n - 1,by omega⟩;have G:v.items=[]:=h;have hz':v.bytes.length<=1100000:=hz
  show g_m n (f_n n) v=_
  unfold g_m
  rw [b_r (by simp;omega),bd_some,G]
  obtain ⟨a,b,c⟩:=v;subst G
  rfl
 | succ m ih =>
  intro v h hz n hn;obtain ⟨n,rfl⟩:∃k,n=k+1:=⟨n - 1,by omega⟩;have hz':v.bytes.length+lsz m v.items<=1100000:=hz;have hl:=g_u m v.items
  show g_m n (f_n n) v=_
  unfold g_m
  rw [b_r (by simp;omega),bd_some,k_z (show v.items.length<=LIM by omega),bd_some,bd_some]
  simp only [un3]
  refine (congrArg (λz=>bd z _)<|c_h (λk=>v.items.take k) (n:=v.items.length) rfl<|λk hk=>?_).trans ?_
  .have hm:=gE_ hk;have hs:=d_H (m:=m) hm;have:=ih v.items[k] (h _ hm) (by omega) n (by omega)
   rw [ix_ hk,bd_some,show (f_n n).impl_CopyValue v.items[k]=some v.items[k] from this,bd_some,a_a (by rw [List.length_take];omega),bd_some,d_F hk]
  .rw [bd_some,el_inl,List.take_length,List.nil_append,a_w]
end
end Go.Vw
