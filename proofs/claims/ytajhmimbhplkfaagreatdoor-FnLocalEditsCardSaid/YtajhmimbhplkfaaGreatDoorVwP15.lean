
import Derived.Test.YtajhmimbhplkfaaGreatDoorVwP11
set_option linter.unusedVariables false
namespace Go.Vw
open Go.RowKit Dat
def c_b (a:Int) (c:UInt8):Int:=10 * a+(byteI c - 48)
def a_0 (l:List UInt8):Int:=l.foldl c_b 0
theorem i_g {x:Nat} (h:x<256):byteI (UInt8.ofNat x)=x:=by
 unfold byteI;simp [UInt8.toNat_ofNat'];omega
theorem o_W (x:Nat) : ∀ c∈Lib.decDigits x,48≤byteI c∧byteI c≤57:=by
 induction x using Nat.strongRecOn with
 | _ x ih =>
  intro c hc
  rw [Lib.decDigits] at hc
  split at hc
  ·simp only [List.mem_singleton] at hc
   subst hc
   rw [i_g (by omega)];omega
  ·simp only [List.mem_append,List.mem_singleton] at hc
   rcases hc with hc | rfl
   ·exact ih (x / 10) (by omega) c hc
   ·rw [i_g (by omega)];omega
theorem j_R (x:Nat):a_0 (Lib.decDigits x)=x:=by
 induction x using Nat.strongRecOn with
 | _ x ih =>
  rw [Lib.decDigits]
  split
  ·simp only [a_0,List.foldl_cons,List.foldl_nil,c_b]
   rw [i_g (by omega)];omega
  ·unfold a_0 at *
   rw [List.foldl_append,ih (x / 10) (by omega)]
   simp only [List.foldl_cons,List.foldl_nil,c_b]
   rw [i_g (by omega)];omega
theorem l_s (k:Nat) : ∀ x,x<10 ^ (k+1)→1≤(Lib.decDigits x).length∧(Lib.decDigits x).length≤k+1:=by
 induction k with
 | zero=>intro x h;rw [Lib.decDigits,dif_pos (by omega)];simp
 | succ k ih =>
  intro x h
  rw [Lib.decDigits]
  split
  ·simp
  ·have:=ih (x / 10) (by rw [Nat.pow_succ] at h;omega)
   simp;omega
theorem e_q (x:Nat):Lib.itoa x=Lib.decDigits x:=by unfold Lib.itoa;rw [iN_ (by omega)];simp
theorem o_X {x y:Nat} (h:Lib.itoa x=Lib.itoa y):x=y:=by
 have:=congrArg a_0 h
 rw [e_q,e_q,j_R,j_R] at this
 omega
theorem l_t {n:Nat} (hn:30≤n) (i:Nat) (hi:i≤1000000000000):b_Y n i=some ⟨Lib.itoa i⟩:=by
 unfold b_Y Lib.itoa
 rw [iN_ (show ¬ (i:Int)<0 by omega)]
 by_cases h0:i=0
 ·subst h0
  rw [show ((((0:Nat):Int)).toNat)=0 from rfl,Lib.decDigits,dif_pos (by omega)]
  rfl
 ·rw [show ((i:Int)==0)=false by simp;omega]
  simp only [bF_,fF_]
  rw [k_f 20 i (by omega) (by omega) (by omega) ⟨[]⟩ n (by omega) (by simp),dF_ (show ¬ (i:Int)<0 by omega)]
  simp
theorem f_5 (l:List UInt8) (h : ∀ c∈l,a_M c=true):0≤a_0 l∧a_0 l<10 ^ l.length:=by
 have key : ∀ (l:List UInt8) (a:Int),(∀ c∈l,a_M c=true)→0≤a→0≤l.foldl c_b a∧l.foldl c_b a<(a+1) * 10 ^ l.length:=by
  intro l
  induction l with
  | nil=>intro a _ h0;simp;omega
  | cons c l ih =>
   intro a h h0;have hc:=h c mS_
   rw [d_R] at hc
   simp only [aE_,dE_] at hc
   have hb:byteI c=(c.toNat:Int):=rfl;have:=ih (c_b a c) (fun c hc=>h c<|mT_ _ hc) (by unfold c_b;omega);refine ⟨this.1,Int.lt_of_lt_of_le this.2 ?_⟩
   rw [lC_,Int.pow_succ,← Int.mul_assoc,Int.mul_assoc,Int.mul_comm ((10:Int) ^ l.length) 10,← Int.mul_assoc]
   refine Int.mul_le_mul_of_nonneg_right ?_<|Int.le_of_lt<|Int.pow_pos (by decide);unfold c_b;omega
 have:=key l 0 h<|Int.le_refl 0
 simpa [a_0] using this
theorem i_h {α:Type} {l:List α} {k:Nat} (h:k<l.length):l.take (k+1)=l.take k++[l[k]]:=by rw [List.take_add_one,gG_ h];rfl
def c_c (s:Str):Int×Bool:=if (1≤s.b.length∧s.b.length≤13)∧(∀ c∈s.b,a_M c=true)∧a_0 s.b≤1000000000000∧Lib.itoa (a_0 s.b)=s.b then (a_0 s.b,true) else (0,false)
theorem j_S {s:Str} (h:(1≤s.b.length∧s.b.length≤13)∧(∀ c∈s.b,a_M c=true)∧a_0 s.b≤1000000000000∧Lib.itoa (a_0 s.b)=s.b):c_c s=(a_0 s.b,true):=iP_ h
theorem d_q {s:Str} (h : ¬ ((1≤s.b.length∧s.b.length≤13)∧(∀ c∈s.b,a_M c=true)∧a_0 s.b≤1000000000000∧Lib.itoa (a_0 s.b)=s.b)):c_c s=(0,false):=iN_ h
theorem l_u {c:UInt8} (h:a_M c=true):byteI (mkB<|byteI c - byteI (48:UInt8))=byteI c - 48:=by
 rw [d_R] at h
 simp only [aE_,dE_] at h
 have hb:byteI c=(c.toNat:Int):=rfl;have h48:byteI (48:UInt8)=48:=rfl
 rw [i_T,h48]
 unfold IntKind.wrap
 simp [IntKind.bits,IntKind.signed]
 omega
theorem o_Y {n:Nat} (hn:30≤n) (s:Str):g_r n s=some (c_c s):=by
 unfold g_r
 rw [b_G,bd_some]
 by_cases hl:1≤s.b.length∧s.b.length≤13
 ·rw [dT_ (show (1:Int)≤(s.b.length:Int) by omega),dT_ (show (s.b.length:Int)≤13 by omega)]
  simp only [Bool.and_self,nT_,bF_,fF_]
  have hp : ∀ k,k≤s.b.length→(∀ c∈s.b.take k,a_M c=true)→0≤a_0 (s.b.take k)∧a_0 (s.b.take k)<10 ^ 13:=fun k hk hd=>by
   have:=f_5 _ hd;refine ⟨this.1,Int.lt_of_lt_of_le this.2 ?_⟩
   exact_mod_cast Nat.pow_le_pow_right (by decide) (by simp;omega)
  rcases d_p (σ:=Int) (ρ:=Int×Bool) (I:=fun k x=>x=a_0 (s.b.take k) ∧ ∀ c∈s.b.take k,a_M c=true) (R:=fun r=>r=(0,false) ∧ ¬ ∀ c∈s.b,a_M c=true)
   (body:=fun k80=>(fun x75=>bd (idx s.b ((k80:Nat):Int)) fun x108=>bd (a_T (byteI x108) 48 57) fun r113=>if (!r113)=true then some (.ret (0,false)) else bd (idx s.b ((k80:Nat):Int)) fun x129=>some<|.next<|g_ (a_9 10 x75)<|byteI<|mkB<|byteI x129 - byteI (48:UInt8))) (n:=s.b.length)
   (fun k x hk ⟨hx,hd⟩=>by
    subst hx
    simp only [ix_ hk,bd_some,b_G]
    have he:(decide (48≤byteI s.b[k]) && decide (byteI s.b[k]≤57))=a_M s.b[k]:=rfl
    rw [he]
    by_cases hc:a_M s.b[k]=true
    ·left
     rw [hc]
     simp only [nT_,bF_,fF_]
     have h1:=hp k (by omega) hd;have h2:=hc
     rw [d_R] at h2
     simp only [aE_,dE_] at h2
     have hb:byteI s.b[k]=(s.b[k].toNat:Int):=rfl
     rw [l_u hc,d_u (by omega) (by omega),ia_ (by omega) (by omega)]
     refine ⟨_,rfl,?_,?_⟩
     ·unfold a_0;rw [d_T _ _ hk];rfl
     ·intro c hcm
      rw [i_h hk] at hcm
      simp only [List.mem_append,List.mem_singleton] at hcm
      rcases hcm with hcm | rfl
      ·exact hd c hcm
      ·exact hc
    ·right
     rw [show a_M s.b[k]=false by simpa using hc]
     exact ⟨_,rfl,rfl,fun h=>hc (h _ (gE_ hk))⟩) s.b.length 0 0 (by omega) ⟨rfl,by simp⟩ with ⟨x,h1,h2,h3⟩ | ⟨r,h1,rfl,h3⟩
  ·rw [h1,bd_some,el_inl]
   rw [List.take_length] at h2 h3
   subst h2;have hb:=hp s.b.length (Nat.le_refl _) (by rw [List.take_length];exact h3)
   rw [List.take_length] at hb
   by_cases hm:a_0 s.b≤1000000000000
   ·obtain ⟨v,hv⟩ : ∃ v:Nat,a_0 s.b=v:=⟨(a_0 s.b).toNat,by omega⟩;have hf:b_Y n (a_0 s.b)=some ⟨Lib.itoa<|a_0 s.b⟩:=by rw [hv];exact l_t hn v (by omega)
    rw [dF_ (show ¬ 1000000000000<a_0 s.b by omega),hf]
    simp only [bF_,fF_,bd_some]
    by_cases he:Lib.itoa (a_0 s.b)=s.b
    ·rw [j_S ⟨hl,h3,by omega,he⟩,show (Lib.itoa (a_0 s.b) != s.b)=false by simpa using he];rfl
    ·rw [d_q (fun h=>he h.2.2.2),show (Lib.itoa (a_0 s.b) != s.b)=true by simpa using he];rfl
   ·rw [dT_ (show 1000000000000<a_0 s.b by omega),d_q<|fun h=>hm h.2.2.1];rfl
  ·rw [h1,bd_some,el_inr,d_q<|fun h=>h3 h.2.1]
 ·rw [d_q (fun h=>hl h.1)]
  have:(decide ((1:Int)≤(s.b.length:Int)) && decide ((s.b.length:Int)≤13))=false:=by
   rw [Bool.and_eq_false_iff]
   simp only [decide_eq_false_iff_not]
   omega
  rw [this];rfl
theorem o_Z {c:UInt8} (h:48≤byteI c∧byteI c≤57):a_M c=true:=by
 rw [d_R]
 simp only [aE_,dE_];exact h
theorem p_0 (i:Nat) (hi:i≤1000000000000):c_c ⟨Lib.itoa i⟩=((i:Int),true):=by
 have hv:a_0 (Lib.itoa i)=i:=by rw [e_q,j_R]
 have:=l_s 12 i (by omega)
 rw [j_S (s:=⟨Lib.itoa i⟩) ⟨by simp only [e_q];omega,fun c hc=>o_Z<|o_W i c (by simpa only [e_q] using hc),by simp only [hv];omega,by simp only [hv]⟩]
 simp only [hv]
def c_I (s:Str):Bool:=(b_f s || (s.b==[42] || (s.b==[63] || s.b==[43]))) || (c_c s).2
theorem j_T {n:Nat} (hn:30≤n) (s:Str):e_y n s=some (c_I s):=by
 unfold e_y c_I
 rw [j_N,bd_some,o_Y hn]
 have hp:(c_c s).2=true→bd (b_Y n (c_c s).1) (fun r91=>some<|r91.b==s.b)=some true:=fun h=>by
  unfold c_c at h ⊢
  split at h
  ·rename_i hc
   rw [iP_ hc]
   have hb:=f_5 _ hc.2.1;obtain ⟨v,hv⟩ : ∃ v:Nat,a_0 s.b=v:=⟨(a_0 s.b).toNat,by omega⟩;have he:=hc.2.2.2;have hm:=hc.2.2.1
   simp only
   rw [hv] at he hm ⊢
   rw [l_t hn v (by omega),bd_some,he];simp
  ·cases h
 generalize c_c s=x at *
 obtain ⟨v,ok⟩:=x
 simp only at hp
 cases b_f s <;> cases (s.b==[42]) <;> cases (s.b==[63]) <;> cases (s.b==[43]) <;> first | rfl | (cases ok;rfl;simp only [bd2_some,fT_,bd_some,Bool.or_self,bF_,fF_,hp,Bool.or_true])
def a_D (sep:UInt8):List UInt8→List UInt8→List Str
 | [],cur=>[⟨cur⟩]
 | c::r,cur=>if c=sep then ⟨cur⟩::a_D sep r [] else a_D sep r (cur++[c])
theorem g_e (sep:UInt8) : ∀ (l cur:List UInt8),1≤(a_D sep l cur).length∧(a_D sep l cur).length≤l.length+1
 | [],_=>by simp [a_D]
 | c::r,cur=>by
  unfold a_D
  split
  ·have:=g_e sep r [];simp;omega
  ·have:=g_e sep r<|cur++[c];simp;omega
theorem p_1 {s:Str} {sep:UInt8} (hs:s.b.length≤MX) : ∀ (m i st:Nat) (acc:List Str) (f:Nat),i+m=s.b.length→st≤i→acc.length≤i→m+2≤f →
  ∃ x y,Y_ (σ:=(List Str)×Int×Int) (ρ:=List Str) (un3 fun x130 x138 x140=>if (decide<|x140≤(s.b.length:Int))=true then bd (α:=Bool) (if (x140==(s.b.length:Int))=true then some true else bd (idx s.b x140) fun x217=>some<|(byteI x217)==(byteI sep)) (fun x210=>bd (α:=(List Str)×Int) (if x210=true then bd (b_B s x138 x140) fun x264=>bd (psh x130 x264) fun x283=>some (x283,g_ x140 1) else some (x130,x138))<|un2 fun x249 x257=>some<|.next (x249,x257,g_ x140 1)) else some (.brk (x130,x138,x140))) f (acc,(st:Int),(i:Int))=some (.inl (acc++a_D sep (s.b.drop i) (piece s.b st i),x,y)):=by
 intro m
 induction m with
 | zero =>
  intro i st acc f hi hst hacc hf;have hMX:=MXv;obtain ⟨f,rfl⟩ : ∃ g,f=g+2:=⟨f - 2,by omega⟩;have hi':i=s.b.length:=by omega
  unfold Y_
  simp only [un3]
  rw [dT_ (show (i:Int)≤(s.b.length:Int) by omega),show ((i:Int)==(s.b.length:Int))=true by rw [hi'];simp]
  simp only [fT_,bd_some]
  rw [show b_B s (st:Int) (i:Int)=some ⟨piece s.b st i⟩ by unfold b_B;rw [c_e hst (by omega)];rfl,bd_some,a_Y (by rw [a_x];omega),bd_some,bd_some]
  simp only []
  rw [ia_ (by omega) (by omega)]
  unfold Y_
  simp only [un3]
  rw [dF_ (show ¬ (i:Int)+1≤(s.b.length:Int) by omega)]
  refine ⟨(i:Int)+1,(i:Int)+1,?_⟩
  rw [List.drop_eq_nil_of_le (by omega)]
  rfl
 | succ m ih =>
  intro i st acc f hi hst hacc hf;have hMX:=MXv;obtain ⟨f,rfl⟩ : ∃ g,f=g+1:=⟨f - 1,by omega⟩;have hlt:i<s.b.length:=by omega
  unfold Y_
  simp only [un3]
  rw [dT_ (show (i:Int)≤(s.b.length:Int) by omega),show ((i:Int)==(s.b.length:Int))=false by simp;omega,ix_ hlt]
  simp only [fT_,bd_some,bF_,fF_]
  rw [dC_ hlt,a_D,e_s]
  by_cases hc:s.b[i]=sep
  ·rw [dT_ hc,iP_ hc]
   simp only [fT_]
   rw [show b_B s (st:Int) (i:Int)=some ⟨piece s.b st i⟩ by unfold b_B;rw [c_e hst (by omega)];rfl,bd_some,a_Y (by rw [a_x];omega),bd_some,bd_some]
   simp only
   rw [ia_ (by omega) (by omega),show (i:Int)+1=((i+1:Nat):Int) by omega]
   obtain ⟨x,y,h⟩:=ih (i+1) (i+1) (acc++[⟨piece s.b st i⟩]) f (by omega) (Nat.le_refl _) (by simp;omega) (by omega);refine ⟨x,y,h.trans ?_⟩;have:piece s.b (i+1) (i+1)=[]:=by unfold piece;simp
   rw [this];simp
  ·rw [dF_ hc,iN_ hc]
   simp only [bF_,fF_,bd_some,un2]
   rw [ia_ (by omega) (by omega),show (i:Int)+1=((i+1:Nat):Int) by omega]
   obtain ⟨x,y,h⟩:=ih (i+1) st acc f (by omega) (by omega) (by omega) (by omega);refine ⟨x,y,h.trans ?_⟩
   have:piece s.b st (i+1)=piece s.b st i++[s.b[i]]:=by
    unfold piece
    rw [i_h hlt,List.drop_append_of_le_length (by simp;omega)]
   rw [this]
theorem p_2 {n:Nat} {s:Str} {sep:UInt8} (hs:s.b.length≤MX) (hn:s.b.length+2≤n):g_q n s sep=some (a_D sep s.b []):=by
 unfold g_q;obtain ⟨x,y,h⟩:=p_1 (sep:=sep) hs s.b.length 0 0 [] n (by omega) (Nat.le_refl _) (by simp) (by omega);have h':=h
 simp only [Int.natCast_zero] at h'
 rw [h',bd_some,el_inl]
 simp [un3,piece]
def c_J (s:Str):List Str×Bool:=if s.b=[] then ([],true) else if (a_D 47 s.b []).head? = some ⟨[]⟩∧(a_D 47 s.b []).tail.all c_I=true then ((a_D 47 s.b []).tail,decide<|1<(a_D 47 s.b []).length) else ([],false)
theorem p_3 {n:Nat} (hn:30≤n) {s:Str} (hs:s.b.length≤MX) (hn2:s.b.length+2≤n):g_s n s=some (c_J s):=by
 unfold g_s c_J
 by_cases h0:s.b=[]
 ·rw [h0];rfl
 rw [show (s.b==(⟨[]⟩:Str).b)=false by simpa using h0,iN_ h0,p_2 hs hn2]
 simp only [bF_,fF_,bd_some]
 have hl:=g_e 47 s.b [];generalize a_D 47 s.b []=l at *
 match l,hl with
 | a::l,hl =>
  rw [b_6 (by simp),bd_some]
  simp only [List.getElem_cons_zero,List.head?_cons,List.tail_cons,oI_]
  by_cases ha:a.b=[]
  ·have ha':a=⟨[]⟩:=by cases a;simpa using ha
   rw [iN_ (show ¬ (a.b != [])=true by simpa using ha)]
   by_cases hall:l.all c_I=true
   ·rw [iP_ ⟨ha',hall⟩]
    have:=m_r (σ:=Int) (ρ:=(List Str)×Bool) (step:=fun x155=>if (decide<|x155<((a::l).length:Int))=true then bd (idx (a::l) x155) fun x206=>bd (e_y n x206) fun r218=>if (!r218)=true then some (.ret (([]:List Str),false)) else some (.next<|g_ x155 1) else some (.brk x155))
     (fun j=>((j+1:Nat):Int)) (s:=((l.length+1:Nat):Int)) (m:=n) (j0:=l.length) (by simp at hl;omega) (fun j hj=>by
      have hMX:=MXv
      simp at hl
      rw [dT_ (by simp;omega),ix_ (by simp;omega)]
      simp only [fT_,bd_some,List.getElem_cons_succ,j_T hn,List.all_eq_true.1 hall _<|gE_ hj,nT_,bF_,fF_]
      rw [ia_ (by omega) (by omega)];rfl) (by
      rw [dF_ (by simp)];rfl)
    simp only [Nat.zero_add,Int.natCast_one] at this
    rw [this,bd_some,el_inl]
    rw [show slc (a::l) 1 ((a::l).length:Int)=some l by rw [g_p (by omega) (by simp;omega) (by omega)];simp]
    simp
    omega
   ·rw [iN_ (fun h=>hall h.2)]
    obtain ⟨j,hj,hjb,hjl⟩ : ∃ j,∃ hj:j<l.length,c_I l[j]=false ∧ ∀ i (hi:i<j),c_I (l[i]'(by omega))=true:=by
     clear hn2 hs hl h0
     induction l with
     | nil=>simp at hall
     | cons c l ih =>
      by_cases hc:c_I c=true
      ·obtain ⟨j,hj,h1,h2⟩:=ih (by simpa [hc] using hall);refine ⟨j+1,by simp;omega,by simpa using h1,fun i hi=>?_⟩
       cases i with
       | zero=>simpa using hc
       | succ i=>simpa using h2 i (by omega)
      ·exact ⟨0,by simp,by simpa using hc,fun i hi=>by omega⟩
    have:=m_s (σ:=Int) (ρ:=(List Str)×Bool) (step:=fun x155=>if (decide<|x155<((a::l).length:Int))=true then bd (idx (a::l) x155) fun x206=>bd (e_y n x206) fun r218=>if (!r218)=true then some (.ret (([]:List Str),false)) else some (.next<|g_ x155 1) else some (.brk x155))
     (fun j=>((j+1:Nat):Int)) (r:=(([]:List Str),false)) (m:=n) (j0:=j) (by simp at hl;omega) (fun i hi=>by
      have hMX:=MXv
      simp at hl
      rw [dT_ (by simp;omega),ix_ (by simp;omega)]
      simp only [fT_,bd_some,List.getElem_cons_succ,j_T hn,hjl i hi,nT_,bF_,fF_]
      rw [ia_ (by omega) (by omega)];rfl) (by
      rw [dT_ (by simp;omega),ix_ (by simp;omega)]
      simp only [fT_,bd_some,List.getElem_cons_succ,j_T hn,hjb,Bool.not_false])
    simp only [Nat.zero_add,Int.natCast_one] at this
    rw [this,bd_some,el_inr]
  ·rw [iP_ (show (a.b != [])=true by simpa using ha),iN_<|fun h=>ha (by rw [h.1])]
end Go.Vw
