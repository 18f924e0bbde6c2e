
import Derived.Test.YteocmnebeeammaaGreatDoorVwP16
namespace Go.Vw
open Go.RowKit Dat
def c_n (ss:List Str):Bt:=ss.flatMap (λs=>47::s.b)
inductive g_W (d:d_)(b:Bt):Nat->Nat->List Str->Nat->Nat->Prop
 | nil (i p:Nat):g_W d b i p [] i p
 | cons {i p i' p' k q:Nat} {s:Str} {ss:List Str} (h:n_m d b i p s k q) (hr:g_W d b k q ss i' p'):g_W d b i p (s::ss) i' p'
structure r_z (d:d_)(b:Bt)(path:Str)(i p:Nat)(e:k_)(ss:List Str)(i' p':Nat):Prop where
 path:e.path.b=path.b++c_n ss
 good:∀s∈ss,d_b s
 rule:e.rule=i'
 start:e.start=p'
 end_:e.end_=((rdW d.rules b i' p').2.1:Nat)
 reach:g_W d b i p ss i' p'
 len:ss.length+i'<=i
 hi:i'<d.rules.length
 hp:p'<=b.length
 ok:(rdW d.rules b i' p').2.2=0
section
variable {d:d_}{b:Bt}
theorem k_T {f:Int->Nat->Str->List k_}{en:Int->Nat->Nat}{r:b_}{path:Str}{x:k_}:∀(ks:List Int)(j pos:Nat),x∈ixL f en r path ks j pos->∃m,∃hm:m<ks.length,x∈f ks[m] (c_f en ks pos m) (c_r r path<|j+m)
 | [],_,_,h=>by simp [ixL] at h
 | k::ks,j,pos,h=>by
  unfold ixL at h
  rcases List.mem_append.1 h with h | h
  .exact ⟨0,by simp,h⟩
  .obtain ⟨m,hm,h⟩:=k_T ks (j+1) (en k pos) h;refine ⟨m+1,by simpa using hm,?_⟩
   rw [k_S]
   rw [show j+(m+1)=j+1+m by omega]
   exact h
theorem r_A (hv:G_ d=true)(hd:SmD d)(hb:b.length<=400):∀(i:Nat),i<d.rules.length->∀(at_:Nat)(path:Str)(e:k_),at_<=b.length->(rdW d.rules b i at_).2.2=0->e∈ixW d.rules b i at_ path->∃ss i' p',r_z d b path i at_ e ss i' p':=by
 intro i
 induction i using Nat.strongRecOn with
 | _ i ih =>
  intro hi at_ path x ha hok hx;obtain ⟨ks,e,h⟩:=e_4 hv hi ha hok
  rw [h_6 hv hi h path] at hx
  rcases List.mem_cons.1 hx with rfl | hx
  .exact ⟨[],i,at_,by simp [c_n],λ_ h=>by simp at h,rfl,rfl,rfl,.nil _ _,by simp,hi,ha,hok⟩
  .obtain ⟨m,hm,hx⟩:=k_T _ _ _ hx;have hkr:=(a_A hv hi).kids _ (h.kids _<|gE_ hm);have hP:=j_g h.ch m hm
   rw [Nat.zero_add] at hx
   obtain ⟨ss,i',p',L⟩:=ih ks[m].toNat (by omega) (by omega) _ _ x hP.1 hP.2 hx;obtain ⟨S,G⟩:=r_y hv hd hb hi ha hok h hm;refine ⟨a_7 d.rules[i] m::ss,i',p',?_,?_,L.rule,L.start,L.end_,.cons S L.reach,?_,L.hi,L.hp,L.ok⟩
   .rw [L.path];simp [c_r,c_n]
   .intro s hs
    rcases List.mem_cons.1 hs with rfl | hs
    .exact G
    .exact L.good s hs
   .have:=L.len;simp;omega
theorem n_n:∀(ss:List Str),(∀s∈ss,d_b s)->(c_n ss).length<=22 * ss.length
 | [],_=>by simp [c_n]
 | s::ss,h=>by
  have:=n_n ss<|λs hs=>h s<|mT_ _ hs;have:=(h s mS_).len
  simp [c_n] at *;omega
theorem n_o:∀(ss:List Str)(cur:Bt),(∀s∈ss,d_b s)->a_2 47 (c_n ss) cur=⟨cur⟩::ss
 | [],cur,_=>by simp [c_n,a_2]
 | s::ss,cur,h=>by
  have e:c_n (s::ss)=47::(s.b++c_n ss):=by simp [c_n]
  rw [e,a_2,iP_ rfl,n_i _ _ _ _ (h s mS_).char,n_o ss _<|λs hs=>h s<|mT_ _ hs]
  simp
theorem r_B (ss:List Str)(h:∀s∈ss,d_b s):b_E ⟨c_n ss⟩=(ss,true):=by
 unfold b_E
 by_cases hn:ss=[]
 .subst hn;rfl
 .obtain ⟨s,t,rfl⟩:=List.exists_cons_of_ne_nil hn
  rw [iN_ (by simp [c_n]),n_o _ _ h,iP_ ⟨rfl,by
   rw [List.tail_cons,List.all_eq_true];exact λs hs=>(h s hs).step⟩]
  simp
theorem r_C {n:Nat}(hn:1000<=n){l:List Str}{i p i' p':Nat}{ss:List Str}(h:g_W d b i p ss i' p'):∀k,k+ss.length=l.length->l.drop k=ss ->
  r_ (σ:=Int×Int) (ρ:=k_×Bool) (λG=>un2 λH I=>bd (idx l ((G:Nat):Int)) λJ=>bd3 (c_Z n d H b I J) λL O V=>if (!V) then some (.ret ((⟨(⟨[]⟩:Str),0,0,0⟩:k_),false)) else some (.next (L,O))) ss.length k ((i:Int),(p:Int))=some (.inl ((i':Int),(p':Int))):=by
 induction h with
 | nil=>intro k _ _;rfl
 | @cons i p i' p' k' q s ss h _ ih =>
  intro k hk hd;have hlt:k<l.length:=by simp at hk;omega
  rw [dC_ hlt] at hd
  simp only [List.cons.injEq] at hd
  rw [lC_,r_,ix_ hlt]
  simp only [un2,bd_some]
  rw [hd.1,h n hn]
  simp only [bd3_some,nT_,bF_,fF_]
  exact ih (k+1) (by simp at hk;omega) hd.2
theorem k_U (hv:G_ d=true)(hb:b.length<=400){i p:Nat}(hi:i<d.rules.length)(hp:p<=b.length):b_d d i b p=b_c (rdW d.rules b i p):=by
 unfold b_d
 rw [iP_]
 .simp
 .unfold okV b_a
  rw [hv,dT_ (show (0:Int)<=(i:Int) by omega),dT_ (show (i:Int)<(d.rules.length:Int) by omega),dT_ (show (0:Int)<=(p:Int) by omega),dT_ (show (p:Int)<=(b.length:Int) by omega),dT_ (show (b.length:Int)<=400 by omega)]
  rfl
end
theorem r_D {x:Nat}(h:x<4294967296):(Lib.itoa x).length<=20:=by
 have:=k_P 12 x (by omega)
 rw [d_V];omega
section
variable {d:d_}{b:Bt}
end
end Go.Vw
