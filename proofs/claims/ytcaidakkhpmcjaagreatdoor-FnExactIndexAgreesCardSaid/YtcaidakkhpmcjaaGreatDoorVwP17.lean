
import Derived.Test.YtcaidakkhpmcjaaGreatDoorVwP16
namespace Go.Vw
open Go.RowKit Dat
def b_a (ss:List Str):List UInt8:=ss.flatMap (fun s=>47::s.b)
inductive g_y (d:b_)(b:List UInt8):Nat->Nat->List Str->Nat->Nat->Prop
 | nil (i p:Nat):g_y d b i p [] i p
 | cons {i p i' p' k q:Nat} {s:Str} {ss:List Str} (h:m_z d b i p s k q) (hr:g_y d b k q ss i' p'):g_y d b i p (s::ss) i' p'
structure k_E (d:b_)(b:List UInt8)(path:Str)(i p:Nat)(e:k_)(ss:List Str)(i' p':Nat):Prop where
 path:e.path.b=path.b++b_a ss
 good:∀s∈ss,c_i s
 rule:e.rule=i'
 start:e.start=p'
 end_:e.end_=((rdW d.rules b i' p').2.1:Nat)
 reach:g_y d b i p ss i' p'
 len:ss.length+i'<=i
 hi:i'<d.rules.length
 hp:p'<=b.length
 ok:(rdW d.rules b i' p').2.2=0
section
variable {d:b_}{b:List UInt8}
theorem g_z {f:Int->Nat->Str->List k_}{en:Int->Nat->Nat}{r:e_}{path:Str}{x:k_}:∀(ks:List Int)(j pos:Nat),x∈ixL f en r path ks j pos->∃m,∃hm:m<ks.length,x∈f ks[m] (b_t en ks pos m) (b_J r path<|j+m)
 | [],_,_,h=>by simp [ixL] at h
 | k::ks,j,pos,h=>by
  unfold ixL at h
  rcases List.mem_append.1 h with h | h
  ·exact ⟨0,by simp,h⟩
  ·obtain ⟨m,hm,h⟩:=g_z ks (j+1) (en k pos) h;refine ⟨m+1,by simpa using hm,?_⟩
   rw [i_M]
   rw [show j+(m+1)=j+1+m by omega]
   exact h
theorem q_I (hv:F_ d=true)(hd:SmD d)(hb:b.length<=400):∀(i:Nat),i<d.rules.length->∀(at_:Nat)(path:Str)(e:k_),at_<=b.length->(rdW d.rules b i at_).2.2=0->e∈ixW d.rules b i at_ path->∃ss i' p',k_E d b path i at_ e ss i' p':=by
 intro i
 induction i using Nat.strongRecOn with
 | _ i ih =>
  intro hi at_ path x ha hok hx;obtain ⟨ks,e,h⟩:=c_D hv hi ha hok
  rw [e_C hv hi h path] at hx
  rcases List.mem_cons.1 hx with rfl | hx
  ·exact ⟨[],i,at_,by simp [b_a],fun _ h=>by simp at h,rfl,rfl,rfl,.nil _ _,by simp,hi,ha,hok⟩
  ·obtain ⟨m,hm,hx⟩:=g_z _ _ _ hx;have hkr:=(a_r hv hi).kids _ (h.kids _<|gE_ hm);have hP:=f_n h.ch m hm
   rw [Nat.zero_add] at hx
   obtain ⟨ss,i',p',L⟩:=ih ks[m].toNat (by omega) (by omega) _ _ x hP.1 hP.2 hx;obtain ⟨S,G⟩:=k_D hv hd hb hi ha hok h hm;refine ⟨K_ d.rules[i] m::ss,i',p',?_,?_,L.rule,L.start,L.end_,.cons S L.reach,?_,L.hi,L.hp,L.ok⟩
   ·rw [L.path];simp [b_J,b_a]
   ·intro s hs
    rcases List.mem_cons.1 hs with rfl | hs
    ·exact G
    ·exact L.good s hs
   ·have:=L.len;simp;omega
theorem i_N:∀(ss:List Str),(∀s∈ss,c_i s)->(b_a ss).length<=22 * ss.length
 | [],_=>by simp [b_a]
 | s::ss,h=>by
  have:=i_N ss<|fun s hs=>h s<|mT_ _ hs;have:=(h s mS_).len
  simp [b_a] at *;omega
theorem m_A:∀(ss:List Str)(cur:List UInt8),(∀s∈ss,c_i s)->a_n 47 (b_a ss) cur=⟨cur⟩::ss
 | [],cur,_=>by simp [b_a,a_n]
 | s::ss,cur,h=>by
  have e:b_a (s::ss)=47::(s.b++b_a ss):=by simp [b_a]
  rw [e,a_n,iP_ rfl,m_w _ _ _ _ (h s mS_).char,m_A ss _<|fun s hs=>h s<|mT_ _ hs]
  simp
theorem k_F (ss:List Str)(h:∀s∈ss,c_i s):c_h ⟨b_a ss⟩=(ss,true):=by
 unfold c_h
 by_cases hn:ss=[]
 ·subst hn;rfl
 ·obtain ⟨s,t,rfl⟩:=List.exists_cons_of_ne_nil hn
  rw [iN_ (by simp [b_a]),m_A _ _ h,iP_ ⟨rfl,by
   rw [List.tail_cons,List.all_eq_true];exact fun s hs=>(h s hs).step⟩]
  simp
theorem q_J {n:Nat}(hn:1000<=n){l:List Str}{i p i' p':Nat}{ss:List Str}(h:g_y d b i p ss i' p'):∀k,k+ss.length=l.length->l.drop k=ss ->
  v_ (σ:=Int×Int) (ρ:=k_×Bool) (fun G=>un2 fun H I=>bd (idx l ((G:Nat):Int)) fun J=>bd3 (c_q n d H b I J) fun L O V=>if (!V)=true then some (.ret ((⟨(⟨[]⟩:Str),0,0,0⟩:k_),false)) else some (.next (L,O))) ss.length k ((i:Int),(p:Int))=some (.inl ((i':Int),(p':Int))):=by
 induction h with
 | nil=>intro k _ _;rfl
 | @cons i p i' p' k' q s ss h _ ih =>
  intro k hk hd;have hlt:k<l.length:=by simp at hk;omega
  rw [dC_ hlt] at hd
  simp only [List.cons.injEq] at hd
  rw [lC_,v_,ix_ hlt]
  simp only [un2,bd_some]
  rw [hd.1,h n hn]
  simp only [bd3_some,nT_,bF_,fF_]
  exact ih (k+1) (by simp at hk;omega) hd.2
theorem m_B (hv:F_ d=true)(hb:b.length<=400){i p:Nat}(hi:i<d.rules.length)(hp:p<=b.length):a_X d i b p=b_5 (rdW d.rules b i p):=by
 unfold a_X
 rw [iP_]
 ·simp
 ·unfold okV a_J
  rw [hv,dT_ (show (0:Int)<=(i:Int) by omega),dT_ (show (i:Int)<(d.rules.length:Int) by omega),dT_ (show (0:Int)<=(p:Int) by omega),dT_ (show (p:Int)<=(b.length:Int) by omega),dT_ (show (b.length:Int)<=400 by omega)]
  rfl
end
section
variable {d:b_}{b:List UInt8}
end
end Go.Vw
