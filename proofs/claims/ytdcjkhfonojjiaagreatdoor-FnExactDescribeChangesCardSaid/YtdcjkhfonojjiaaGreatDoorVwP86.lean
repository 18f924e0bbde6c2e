
import Derived.Test.YtdcjkhfonojjiaaGreatDoorVwP82
namespace Go.Vw
open Go.RowKit Dat
section
variable {d:d_}{b:List UInt8}
theorem q_s (l:List Str)(x:Str){m:Nat}(hm:m<l.length)(he:l[m].b=x.b)(hf:∀j (hj:j<m),(l[j]'(by omega)).b ≠ x.b):f_2 l x=some (m:Int):=by
 unfold f_2 h_H;refine (congrArg (fun z=>bd z _)<|g_l (st:=fun _=>()) (r:=(m:Int)) hm (fun j hj=>?_) ?_).trans ?_
 ·rw [ix_ (show j<l.length by omega),bd_some,bd_some,iN_ (by simpa using hf j hj)]
 ·rw [ix_ hm,bd_some,bd_some,iP_ (by simpa using he)]
 ·rw [bd_some,el_inr]
theorem q_t (hv:a_0 d=true)(hd:SmD d){i:Nat}(hi:i<d.rules.length){v:Val}{m:Nat}(hm:m<v.items.length)(h40:m<=1000000)(hinj:∀j,j<m->(T_ d.rules[i] j).b ≠ (T_ d.rules[i] m).b)(hne:(T_ d.rules[i] m).b ≠ []){n:Nat}(hn:1000<=n) :
  e_g n d i v (T_ d.rules[i] m)=some (m:Int):=by
 unfold e_g;have hst:=m_B hv hd (n:=n) (by omega) hi m
 rw [h_W n (by omega) d hd,hv,show a_Z d (i:Int)=true by
  unfold a_Z
  rw [dT_ (show (0:Int)<=(i:Int) by omega),dT_ (show (i:Int)<(d.rules.length:Int) by omega)];rfl]
 rw [bd_some,show (!(true && true))=false from rfl,iN_ (by simp),ix_ hi,bd_some]
 have key:bd (α:=Sum Int Int) (if (d.rules[i].kind==5)=true then bd2 (e_G<|T_ d.rules[i] m) fun G H=>if (!H)=true then some (.inr (-1)) else some (.inl G) else bd (α:=Int) (if (d.rules[i].kind==6)=true then bd (f_2 d.rules[i].names (T_ d.rules[i] m)) fun I=>some I else some 0) (fun J=>some<|.inl J)) (fun z=>some z)=some (.inl (m:Int)):=by
  generalize d.rules[i]=r at hinj hne ⊢
  by_cases h5:(r.kind==5)=true
  ·have e:T_ r m=⟨Lib.itoa m⟩:=by unfold T_;rw [iP_ h5]
   rw [iP_ h5,e,m_0,l_U m (by omega),bd2_some]
   rfl
  ·rw [iN_ h5]
   by_cases h6:(r.kind==6)=true
   ·rw [iP_ h6]
    have k6:r.kind=6:=by simpa using h6
    have hlt:m<r.names.length:=by
     refine Classical.byContradiction fun hc=>hne ?_
     unfold T_
     rw [k6,dF_ hc]
     rfl
    have e:∀j (hj:j<r.names.length),T_ r j=r.names[j]:=fun j hj=>by
     unfold T_
     rw [iN_ h5,h6,dT_ hj,show (true && true)=true from rfl,iP_ rfl]
     simp [gG_ hj]
    rw [q_s r.names (T_ r m) hlt (by rw [e m hlt]) (fun j hj=>by rw [← e j (by omega)];exact hinj j hj),bd_some,bd_some,bd_some]
   ·rw [iN_ h6]
    have O:m=0:=by
     refine Classical.byContradiction fun hc=>hne ?_
     unfold T_
     rw [iN_ h5,Bool.eq_false_iff.2 h6,show (m==0)=false by simpa using hc]
     simp
    subst O
    rfl
 have L:∀{β:Type}(z:Option (Sum Int Int))(f:Sum Int Int->Option β),bd z f=bd (bd z<|fun y=>some y) f:=fun z f=>by cases z <;> rfl
 rw [L,show (bd _<|fun y=>some y)=_ from key,bd_some,el_inl]
 rw [dF_ (show ¬(m:Int)<0 by omega),iN_ (by simp),dF_ (show ¬(v.items.length:Int)<=(m:Int) by omega),iN_ (by simp),hst,bd_some,bN_,iN_ (by simp),bd_some]
 rw [iN_ (by simpa using hne)]
def IStep (d:d_)(b:List UInt8)(i p:Nat)(s:Str)(k q:Nat):Prop:=∃(hi:i<d.rules.length)(m:Nat)(hm:m<(rdW d.rules b i p).1.items.length),(∀n,1000<=n->e_g n d i (rdW d.rules b i p).1 s=some (m:Int))/\c_C d (i:Int) (rdW d.rules b i p).1 (m:Int)=some (k:Int)/\(rdW d.rules b i p).1.items[m]=(rdW d.rules b k q).1
inductive f_k (d:d_)(b:List UInt8):Nat->Nat->List Str->Nat->Nat->Prop
 | nil (i p:Nat):f_k d b i p [] i p
 | cons {i p i' p' k q:Nat} {s:Str} {ss:List Str} (h:IStep d b i p s k q) (hr:f_k d b k q ss i' p'):f_k d b i p (s::ss) i' p'
theorem q_u (hv:a_0 d=true)(hd:SmD d)(hb:b.length<=400){i:Nat}(hi:i<d.rules.length){at_:Nat}(ha:at_<=b.length)(hok:(rdW d.rules b i at_).2.2=0){ks:List Int}{e:Nat}(h:f_i d b d.rules[i] at_ (rdW d.rules b i at_) ks e){m:Nat}(hm:m<ks.length) :
  IStep d b i at_ (T_ d.rules[i] m) ks[m].toNat (a_G (enP d b) ks (a_3 d.rules d.rules[i] at_) m):=by
 have hne:ks ≠ []:=fun hn=>by rw [hn] at hm;simp at hm
 have hE:=j_C hv hi ha hok h hne;have hr:=b_8 hv hi;have hkk:∀k∈ks,0<=k/\k<(i:Int):=fun k hk=>hr.kids k<|h.kids k hk
 have hS:=j_B hr.kind hE h.small;have hl:=f_h h.ch;have h40:=h.small;have hmi:m<(rdW d.rules b i at_).1.items.length:=by omega
 have hkm:=hkk _<|gE_ hm;refine ⟨hi,m,hmi,fun n hn=>?_,?_,?_⟩
 ·refine q_t hv hd hi hmi (by omega) (fun j hj he=>?_) (m_y<|hS.2 m hm) hn;have:=hS.1 j m (by omega) hm he
  omega
 ·rw [i_9 (r:=d.rules[i]) (by rw [ix_ hi]) (c_8 hr.kind),h.item m hm,show ((ks[m].toNat:Nat):Int)=ks[m] by omega]
 ·exact i_i h.ch m hm hmi
theorem q_v {n:Nat}(hn:1000<=n){l:List Str}{i p i' p':Nat}{ss:List Str}(h:f_k d b i p ss i' p'):∀k,k+ss.length=l.length->l.drop k=ss ->
  r_ (σ:=Val×Int) (ρ:=(Option Val)×Int) (fun J=>un2 fun G I=>bd (idx l ((J:Nat):Int)) fun L=>bd (e_g n d I G L) fun H=>if (decide<|H<0)=true then some (.ret (none,(-1))) else bd (idx G.items H) fun O=>bd (c_C d I G H) fun V=>some<|.next (O,V)) ss.length k ((rdW d.rules b i p).1,(i:Int))=some (.inl ((rdW d.rules b i' p').1,(i':Int))):=by
 induction h with
 | nil=>intro k _ _;rfl
 | @cons i p i' p' k' q s ss h _ ih =>
  intro k hk hdr;have hlt:k<l.length:=by simp at hk;omega
  rw [dC_ hlt] at hdr
  simp only [List.cons.injEq] at hdr
  obtain ⟨hi,m,hm,h1,h2,h3⟩:=h
  rw [lC_,r_,ix_ hlt]
  simp only [un2,bd_some]
  rw [hdr.1,h1 n hn]
  simp only [bd_some]
  rw [dF_ (show ¬(m:Int)<0 by omega),iN_ (by simp),ix_ hm,bd_some,h2,bd_some,h3]
  exact ih (k+1) (by simp at hk;omega) hdr.2
theorem m_z:∀(m:Nat)(v:Val),dep m v->vsz m v<=1000000->∀n,m+1<=n->h_J n v=some v:=by
 have hLIM:=a_D;intro m
 induction m with
 | zero =>
  intro v h hz n hn;obtain ⟨n,rfl⟩:∃k,n=k+1:=⟨n - 1,by omega⟩;have G:v.items=[]:=h;have hz':v.bytes.length<=1000000:=hz
  show e_h n (d_G n) v=_
  unfold e_h
  rw [d_T (by simp;omega),bd_some,G]
  obtain ⟨a,b,c⟩:=v;subst G
  rfl
 | succ m ih =>
  intro v h hz n hn;obtain ⟨n,rfl⟩:∃k,n=k+1:=⟨n - 1,by omega⟩;have hz':v.bytes.length+lsz m v.items<=1000000:=hz;have hl:=f_c m v.items
  show e_h n (d_G n) v=_
  unfold e_h
  rw [d_T (by simp;omega),bd_some,f_p (show v.items.length<=LIM by omega),bd_some,bd_some]
  simp only [un3]
  refine (congrArg (fun z=>bd z _)<|c_7 (fun k=>v.items.take k) (n:=v.items.length) rfl<|fun k hk=>?_).trans ?_
  ·have hm:=gE_ hk;have hs:=g_a (m:=m) hm;have:=ih v.items[k] (h _ hm) (by omega) n (by omega)
   rw [ix_ hk,bd_some,show (d_G n).impl_CopyValue v.items[k]=some v.items[k] from this,bd_some,b_s (by rw [List.length_take];omega),bd_some,e_k hk]
  ·rw [bd_some,el_inl,List.take_length,List.nil_append,d_e]
end
end Go.Vw
