
import Derived.Test.YtelphaiofendpaaGreatDoorVwP16
namespace Go.Vw
open Go.RowKit Dat
def c_1 (ss:List Str):Bt:=ss.flatMap (λs=>47::s.b)
inductive h_b (d:d_)(b:Bt):Nat->Nat->List Str->Nat->Nat->Prop
 | nil (i p:Nat):h_b d b i p [] i p
 | cons {i p i' p' k q:Nat} {s:Str} {ss:List Str} (h:n_8 d b i p s k q) (hr:h_b d b k q ss i' p'):h_b d b i p (s::ss) i' p'
structure n_a (d:d_)(b:Bt)(path:Str)(i p:Nat)(e:y_)(ss:List Str)(i' p':Nat):Prop where
 path:e.path.b=path.b++c_1 ss
 good:∀s∈ss,c_M s
 rule:e.rule=i'
 start:e.start=p'
 end_:e.end_=((rdW d.rules b i' p').2.1:Nat)
 reach:h_b d b i p ss i' p'
 len:ss.length+i'<=i
 hi:i'<d.rules.length
 hp:p'<=b.length
 ok:(rdW d.rules b i' p').2.2=0
section
variable {d:d_}{b:Bt}
theorem j_k {f:Int->Nat->Str->List y_}{en:Int->Nat->Nat}{r:g_}{path:Str}{x:y_}:∀(ks:List Int)(j pos:Nat),x∈ixL f en r path ks j pos->∃m,∃hm:m<ks.length,x∈f ks[m] (c_0 en ks pos m) (d_6 r path<|j+m)
 | [],_,_,h=>by simp [ixL] at h
 | k::ks,j,pos,h=>by
  unfold ixL at h
  rcases List.mem_append.1 h with h | h
  .exact ⟨0,by simp,h⟩
  .obtain ⟨m,hm,h⟩:=j_k ks (j+1) (en k pos) h;refine ⟨m+1,by simpa using hm,?_⟩
   rw [j_j]
   rw [show j+(m+1)=j+1+m by omega]
   exact h
theorem r_z (hv:N_ d=true)(hd:SmD d)(hb:b.length<=400):∀(i:Nat),i<d.rules.length->∀(at_:Nat)(path:Str)(e:y_),at_<=b.length->(rdW d.rules b i at_).2.2=0->e∈ixW d.rules b i at_ path->∃ss i' p',n_a d b path i at_ e ss i' p':=by
 intro i
 induction i using Nat.strongRecOn with
 | _ i ih =>
  intro hi at_ path x ha hok hx;obtain ⟨ks,e,h⟩:=e_0 hv hi ha hok
  rw [h_l hv hi h path] at hx
  rcases List.mem_cons.1 hx with rfl | hx
  .exact ⟨[],i,at_,by simp [c_1],λ_ h=>by simp at h,rfl,rfl,rfl,.nil _ _,by simp,hi,ha,hok⟩
  .obtain ⟨m,hm,hx⟩:=j_k _ _ _ hx;have hkr:=(a_M hv hi).kids _ (h.kids _<|gE_ hm);have hP:=h_a h.ch m hm
   rw [Nat.zero_add] at hx
   obtain ⟨ss,i',p',L⟩:=ih ks[m].toNat (by omega) (by omega) _ _ x hP.1 hP.2 hx;obtain ⟨S,G⟩:=n_9 hv hd hb hi ha hok h hm;refine ⟨a_c d.rules[i] m::ss,i',p',?_,?_,L.rule,L.start,L.end_,.cons S L.reach,?_,L.hi,L.hp,L.ok⟩
   .rw [L.path];simp [d_6,c_1]
   .intro s hs
    rcases List.mem_cons.1 hs with rfl | hs
    .exact G
    .exact L.good s hs
   .have:=L.len;simp;omega
theorem l_e:∀(ss:List Str),(∀s∈ss,c_M s)->(c_1 ss).length<=22 * ss.length
 | [],_=>by simp [c_1]
 | s::ss,h=>by
  have:=l_e ss<|λs hs=>h s<|mT_ _ hs;have:=(h s mS_).len
  simp [c_1] at *;omega
theorem n_b:∀(ss:List Str)(cur:Bt),(∀s∈ss,c_M s)->a_x 47 (c_1 ss) cur=⟨cur⟩::ss
 | [],cur,_=>by simp [c_1,a_x]
 | s::ss,cur,h=>by
  have e:c_1 (s::ss)=47::(s.b++c_1 ss):=by simp [c_1]
  rw [e,a_x,iP_ rfl,n_3 _ _ _ _ (h s mS_).char,n_b ss _<|λs hs=>h s<|mT_ _ hs]
  simp
theorem n_c (ss:List Str)(h:∀s∈ss,c_M s):c_L ⟨c_1 ss⟩=(ss,true):=by
 unfold c_L
 by_cases hn:ss=[]
 .subst hn;rfl
 .obtain ⟨s,t,rfl⟩:=List.exists_cons_of_ne_nil hn
  rw [iN_ (by simp [c_1]),n_b _ _ h,iP_ ⟨rfl,by
   rw [List.tail_cons,List.all_eq_true];exact λs hs=>(h s hs).step⟩]
  simp
theorem r_A {n:Nat}(hn:1000<=n){l:List Str}{i p i' p':Nat}{ss:List Str}(h:h_b d b i p ss i' p'):∀k,k+ss.length=l.length->l.drop k=ss ->
  x_ (σ:=Int×Int) (ρ:=y_×Bool) (λG=>un2 λH I=>bd (idx l ((G:Nat):Int)) λJ=>bd3 (d_B n d H b I J) λL O V=>if (!V) then some (.ret ((⟨(⟨[]⟩:Str),0,0,0⟩:y_),false)) else some (.next (L,O))) ss.length k ((i:Int),(p:Int))=some (.inl ((i':Int),(p':Int))):=by
 induction h with
 | nil=>intro k _ _;rfl
 | @cons i p i' p' k' q s ss h _ ih =>
  intro k hk hd;have hlt:k<l.length:=by simp at hk;omega
  rw [dC_ hlt] at hd
  simp only [List.cons.injEq] at hd
  rw [lC_,x_,ix_ hlt]
  simp only [un2,bd_some]
  rw [hd.1,h n hn]
  simp only [bd3_some,nT_,bF_,fF_]
  exact ih (k+1) (by simp at hk;omega) hd.2
theorem j_l (hv:N_ d=true)(hb:b.length<=400){i p:Nat}(hi:i<d.rules.length)(hp:p<=b.length):b_x d i b p=b_m (rdW d.rules b i p):=by
 unfold b_x
 rw [iP_]
 .simp
 .unfold okV b_c
  rw [hv,dT_ (show (0:Int)<=(i:Int) by omega),dT_ (show (i:Int)<(d.rules.length:Int) by omega),dT_ (show (0:Int)<=(p:Int) by omega),dT_ (show (p:Int)<=(b.length:Int) by omega),dT_ (show (b.length:Int)<=400 by omega)]
  rfl
end
theorem r_B {x:Nat}(h:x<4294967296):(Lib.itoa x).length<=20:=by
 have:=l_a 12 x (by omega)
 rw [d_R];omega
section
variable {d:d_}{b:Bt}
end
end Go.Vw
