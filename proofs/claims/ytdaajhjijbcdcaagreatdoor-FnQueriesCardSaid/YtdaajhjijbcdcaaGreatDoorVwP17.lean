
import Derived.Test.YtdaajhjijbcdcaaGreatDoorVwP16
namespace Go.Vw
open Go.RowKit Dat
def c_c (ss:List Str):Bt:=ss.flatMap (λs=>47::s.b)
inductive g_M (d:g_)(b:Bt):Nat->Nat->List Str->Nat->Nat->Prop
 | nil (i p:Nat):g_M d b i p [] i p
 | cons {i p i' p' k q:Nat} {s:Str} {ss:List Str} (h:m_2 d b i p s k q) (hr:g_M d b k q ss i' p'):g_M d b i p (s::ss) i' p'
structure p_u (d:g_)(b:Bt)(path:Str)(i p:Nat)(e:s_)(ss:List Str)(i' p':Nat):Prop where
 path:e.path.b=path.b++c_c ss
 good:∀s∈ss,d_7 s
 rule:e.rule=i'
 start:e.start=p'
 end_:e.end_=((rdW d.rules b i' p').2.1:Nat)
 reach:g_M d b i p ss i' p'
 len:ss.length+i'<=i
 hi:i'<d.rules.length
 hp:p'<=b.length
 ok:(rdW d.rules b i' p').2.2=0
section
variable {d:g_}{b:Bt}
theorem k_3 {f:Int->Nat->Str->List s_}{en:Int->Nat->Nat}{r:d_}{path:Str}{x:s_}:∀(ks:List Int)(j pos:Nat),x∈ixL f en r path ks j pos->∃m,∃hm:m<ks.length,x∈f ks[m] (c_b en ks pos m) (c_o r path<|j+m)
 | [],_,_,h=>by simp [ixL] at h
 | k::ks,j,pos,h=>by
  unfold ixL at h
  rcases List.mem_append.1 h with h | h
  .exact ⟨0,by simp,h⟩
  .obtain ⟨m,hm,h⟩:=k_3 ks (j+1) (en k pos) h;refine ⟨m+1,by simpa using hm,?_⟩
   rw [k_2]
   rw [show j+(m+1)=j+1+m by omega]
   exact h
theorem m_3 (hv:a_c d=true)(hd:SmD d)(hb:b.length<=400):∀(i:Nat),i<d.rules.length->∀(at_:Nat)(path:Str)(e:s_),at_<=b.length->(rdW d.rules b i at_).2.2=0->e∈ixW d.rules b i at_ path->∃ss i' p',p_u d b path i at_ e ss i' p':=by
 intro i
 induction i using Nat.strongRecOn with
 | _ i ih =>
  intro hi at_ path x ha hok hx;obtain ⟨ks,e,h⟩:=e_Y hv hi ha hok
  rw [g_X hv hi h path] at hx
  rcases List.mem_cons.1 hx with rfl | hx
  .exact ⟨[],i,at_,by simp [c_c],λ_ h=>by simp at h,rfl,rfl,rfl,.nil _ _,by simp,hi,ha,hok⟩
  .obtain ⟨m,hm,hx⟩:=k_3 _ _ _ hx;have hkr:=(b_n hv hi).kids _ (h.kids _<|gE_ hm);have hP:=i_H h.ch m hm
   rw [Nat.zero_add] at hx
   obtain ⟨ss,i',p',L⟩:=ih ks[m].toNat (by omega) (by omega) _ _ x hP.1 hP.2 hx;obtain ⟨S,G⟩:=p_t hv hd hb hi ha hok h hm;refine ⟨b_2 d.rules[i] m::ss,i',p',?_,?_,L.rule,L.start,L.end_,.cons S L.reach,?_,L.hi,L.hp,L.ok⟩
   .rw [L.path];simp [c_o,c_c]
   .intro s hs
    rcases List.mem_cons.1 hs with rfl | hs
    .exact G
    .exact L.good s hs
   .have:=L.len;simp;omega
theorem m_4:∀(ss:List Str),(∀s∈ss,d_7 s)->(c_c ss).length<=22 * ss.length
 | [],_=>by simp [c_c]
 | s::ss,h=>by
  have:=m_4 ss<|λs hs=>h s<|mT_ _ hs;have:=(h s mS_).len
  simp [c_c] at *;omega
theorem m_5:∀(ss:List Str)(cur:Bt),(∀s∈ss,d_7 s)->a_4 47 (c_c ss) cur=⟨cur⟩::ss
 | [],cur,_=>by simp [c_c,a_4]
 | s::ss,cur,h=>by
  have e:c_c (s::ss)=47::(s.b++c_c ss):=by simp [c_c]
  rw [e,a_4,iP_ rfl,l_Z _ _ _ _ (h s mS_).char,m_5 ss _<|λs hs=>h s<|mT_ _ hs]
  simp
theorem m_6 (ss:List Str)(h:∀s∈ss,d_7 s):b_Z ⟨c_c ss⟩=(ss,true):=by
 unfold b_Z
 by_cases hn:ss=[]
 .subst hn;rfl
 .obtain ⟨s,t,rfl⟩:=List.exists_cons_of_ne_nil hn
  rw [iN_ (by simp [c_c]),m_5 _ _ h,iP_ ⟨rfl,by
   rw [List.tail_cons,List.all_eq_true];exact λs hs=>(h s hs).step⟩]
  simp
theorem p_v {n:Nat}(hn:1000<=n){l:List Str}{i p i' p':Nat}{ss:List Str}(h:g_M d b i p ss i' p'):∀k,k+ss.length=l.length->l.drop k=ss ->
  C_ (σ:=Int×Int) (ρ:=s_×Bool) (λG=>un2 λH I=>bd (idx l ((G:Nat):Int)) λJ=>bd3 (f_5 n d H b I J) λL O V=>if (!V) then some (.ret ((⟨(⟨[]⟩:Str),0,0,0⟩:s_),false)) else some (.next (L,O))) ss.length k ((i:Int),(p:Int))=some (.inl ((i':Int),(p':Int))):=by
 induction h with
 | nil=>intro k _ _;rfl
 | @cons i p i' p' k' q s ss h _ ih =>
  intro k hk hd;have hlt:k<l.length:=by simp at hk;omega
  rw [dC_ hlt] at hd
  simp only [List.cons.injEq] at hd
  rw [lC_,C_,ix_ hlt]
  simp only [un2,bd_some]
  rw [hd.1,h n hn]
  simp only [bd3_some,nT_,bF_,fF_]
  exact ih (k+1) (by simp at hk;omega) hd.2
theorem p_w {n:Nat}(hn:1000<=n)(hd:SmD d)(hok:okF d b=true){e:s_}(he:e∈a_7 d b) :
  ∃i p:Nat,e.rule=i/\e.start=p/\i<d.rules.length/\p<=b.length/\(rdW d.rules b i p).2.2=0/\g_7 n d b e.path=some ((rdW d.rules b i p).1,true):=by
 obtain ⟨hv,hb,hr,hroot,hrd,_⟩:=e_P hok;unfold a_7 at he
 rw [iP_ hok] at he
 obtain ⟨ss,i,p,L⟩:=m_3 hv hd hb _ hr 0 ⟨[]⟩ e (Nat.zero_le _) hrd he;refine ⟨i,p,L.rule,L.start,L.hi,L.hp,L.ok,?_⟩
 have hpath:e.path=⟨c_c ss⟩:=by
  have:=L.path
  cases hq:e.path with
  | mk x=>rw [hq] at this;simpa using this
 have hlen:=(c_f hv).2;have hj:=m_4 ss L.good;have hl:=L.len;have hMX:=MXv;have hread:=i_U hv hd hb i L.hi n (by omega) p L.hp;unfold g_7 j_9
 rw [hpath,k_1 (by omega) (by simp only;omega) (by simp only;omega),m_6 ss L.good]
 simp only [bd2_some,nT_,bF_,fF_]
 rw [l_R d hd,hv]
 simp only [bd_some,nT_,bF_,fF_]
 rw [dF_ (show ¬(400:Int)<(b.length:Int) by omega),iN_ (by simp),k_n hd,bd_some,hroot]
 have hloop:=p_v hn L.reach (l:=ss) 0 (by omega) rfl;have hloop':C_ (σ:=Int×Int) (ρ:=s_×Bool) (λG=>un2 λH I=>bd (idx ss ((G:Nat):Int)) λJ=>bd3 (f_5 n d H b I J) λO V W=>if (!W) then some (.ret ((⟨(⟨[]⟩:Str),0,0,0⟩:s_),false)) else some (.next (O,V))) ss.length 0 (((d.rules.length - 1:Nat):Int),0)=some (.inl ((i:Int),(p:Int))):=hloop
 rw [hloop',bd_some,el_inl]
 simp only [un2]
 rw [hread]
 unfold b_u
 rw [L.ok]
 simp only [bd3_some,bN_,bF_,fF_,bd2_some,nT_]
 rw [hread]
 rfl
theorem p_x (hv:a_c d=true)(hb:b.length<=400){i p:Nat}(hi:i<d.rules.length)(hp:p<=b.length):b_o d i b p=b_u (rdW d.rules b i p):=by
 unfold b_o
 rw [iP_]
 .simp
 .unfold okV b_B
  rw [hv,dT_ (show (0:Int)<=(i:Int) by omega),dT_ (show (i:Int)<(d.rules.length:Int) by omega),dT_ (show (0:Int)<=(p:Int) by omega),dT_ (show (p:Int)<=(b.length:Int) by omega),dT_ (show (b.length:Int)<=400 by omega)]
  rfl
theorem p_y (hv:a_c d=true){i p:Nat}(hi:i<d.rules.length)(hp:p<=b.length)(hok:(rdW d.rules b i p).2.2=0)(G:d.rules[i].kind=7):0<=(rdW d.rules b i p).1.number/\(rdW d.rules b i p).1.number<4294967296:=by
 have hr:=b_n hv hi
 rw [d_y hv hi hp] at *
 generalize d.rules[i]=r at *
 unfold rdB at *
 rw [G] at hok ⊢
 simp only [show ((7:Int)==1)=false from rfl,show ((7:Int)==2)=false from rfl,show ((7:Int)==3)=false from rfl,show ((7:Int)==4)=false from rfl,show ((7:Int)==10)=false from rfl,bF_,fF_] at hok ⊢
 have hq:=c_2 (d_T hr.kind G).1
 cases hh:a_2 d.rules b r p with
 | inl c=>exact ⟨show (0:Int)<=0 by decide,show (0:Int)<4294967296 by decide⟩
 | inr y =>
  obtain ⟨num,ks,st⟩:=y
  rw [hh] at hok
  simp only at hok ⊢
  have f:=m_1 hok (λh=>by omega)
  rw [f.2.1]
  unfold a_2 at hh
  rw [G] at hh
  simp only [show ((7:Int)==5)=false from rfl,show ((7:Int)==6)=false from rfl,bF_,fF_,bQ_,fT_] at hh
  cases hi:a_d b (P_ d.rules<|H_ r) p with
  | none=>rw [hi] at hh;cases hh
  | some n =>
   rw [hi] at hh
   simp only at hh
   have:=c_e hq.2 hi
   cases ht:b_k r.tags n with
   | none=>rw [ht] at hh;cases hh
   | some k =>
    rw [ht] at hh
    simp only at hh
    rw [Sum.inr.injEq,Prod.mk.injEq] at hh
    rw [← hh.1]
    exact ⟨this.1,this.2.1⟩
end
section
variable {d:g_}{b:Bt}
theorem p_z {n:Nat}(hn:1000<=n)(hd:SmD d){k:Nat}(hk:k<(a_7 d b).length):a_c d=true/\b.length<=400/\∃i p:Nat,(a_7 d b)[k].rule=i/\(a_7 d b)[k].start=p/\∃hi:i<d.rules.length,p<=b.length/\(rdW d.rules b i p).2.2=0/\g_7 n d b (a_7 d b)[k].path=some ((rdW d.rules b i p).1,true) /\
  g_6 n d i b p=some (b_u<|rdW d.rules b i p)/\(d.rules[i].kind=7->∃x:Nat,(rdW d.rules b i p).1.number=x/\x<4294967296):=by
 have hok:okF d b=true:=by
  cases h:okF d b with
  | true=>rfl
  | false=>unfold a_7 at hk;rw [h] at hk;simp at hk
 obtain ⟨hv,hb,_⟩:=e_P hok;obtain ⟨i,p,h1,h2,h3,h4,h5,h6⟩:=p_w hn hd hok<|gE_ hk;refine ⟨hv,hb,i,p,h1,h2,h3,h4,h5,h6,?_,λG=>?_⟩
 .rw [m_P hd (by omega),p_x hv hb h3 h4]
 .have:=p_y hv h3 h4 h5 G;exact ⟨(rdW d.rules b i p).1.number.toNat,by omega,by omega⟩
end
end Go.Vw
