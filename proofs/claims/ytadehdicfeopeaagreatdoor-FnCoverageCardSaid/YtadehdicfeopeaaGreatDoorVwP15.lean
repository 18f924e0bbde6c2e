
import Derived.Test.YtadehdicfeopeaaGreatDoorVwP11
namespace Go.Vw
open Go.RowKit Dat
def d_E (a:Int)(c:UInt8):Int:=10 * a+(byteI c - 48)
def a_C (l:List UInt8):Int:=l.foldl d_E 0
theorem i_l {x:Nat}(h:x<256):byteI (UInt8.ofNat x)=x:=by
 unfold byteI;simp [UInt8.toNat_ofNat'];omega
theorem l_l (x:Nat):∀c∈Lib.decDigits x,48<=byteI c/\byteI c<=57:=by
 induction x using Nat.strongRecOn with
 | _ x ih =>
  intro c hc
  rw [Lib.decDigits] at hc
  split at hc
  ·simp only [List.mem_singleton] at hc
   subst hc
   rw [i_l (by omega)];omega
  ·simp only [List.mem_append,List.mem_singleton] at hc
   rcases hc with hc | rfl
   ·exact ih (x / 10) (by omega) c hc
   ·rw [i_l (by omega)];omega
theorem j_R (x:Nat):a_C (Lib.decDigits x)=x:=by
 induction x using Nat.strongRecOn with
 | _ x ih =>
  rw [Lib.decDigits]
  split
  ·simp only [a_C,List.foldl_cons,List.foldl_nil,d_E]
   rw [i_l (by omega)];omega
  ·unfold a_C at *
   rw [List.foldl_append,ih (x / 10) (by omega)]
   simp only [List.foldl_cons,List.foldl_nil,d_E]
   rw [i_l (by omega)];omega
theorem l_m (k:Nat):∀x,x<10 ^ (k+1)->1<=(Lib.decDigits x).length/\(Lib.decDigits x).length<=k+1:=by
 induction k with
 | zero=>intro x h;rw [Lib.decDigits,dif_pos (by omega)];simp
 | succ k ih =>
  intro x h
  rw [Lib.decDigits]
  split
  ·simp
  ·have:=ih (x / 10) (by rw [Nat.pow_succ] at h;omega)
   simp;omega
theorem c_7 (x:Nat):Lib.itoa x=Lib.decDigits x:=by unfold Lib.itoa;rw [iN_ (by omega)];simp
theorem l_n {x y:Nat}(h:Lib.itoa x=Lib.itoa y):x=y:=by
 have:=congrArg a_C h
 rw [c_7,c_7,j_R,j_R] at this
 omega
theorem j_S {n:Nat}(hn:30<=n)(i:Nat)(hi:i<=1000000000000):b_y n i=some ⟨Lib.itoa i⟩:=by
 unfold b_y Lib.itoa
 rw [iN_ (show ¬(i:Int)<0 by omega)]
 by_cases G:i=0
 ·subst G
  rw [show ((((0:Nat):Int)).toNat)=0 from rfl,Lib.decDigits,dif_pos (by omega)]
  rfl
 ·rw [show ((i:Int)==0)=false by simp;omega]
  simp only [bF_,fF_]
  rw [k_e 20 i (by omega) (by omega) (by omega) ⟨[]⟩ n (by omega) (by simp),dF_ (show ¬(i:Int)<0 by omega)]
  simp
theorem l_o (l:List UInt8)(h:∀c∈l,b_d c=true):0<=a_C l/\a_C l<10 ^ l.length:=by
 have key:∀(l:List UInt8)(a:Int),(∀c∈l,b_d c=true)->0<=a->0<=l.foldl d_E a/\l.foldl d_E a<(a+1) * 10 ^ l.length:=by
  intro l
  induction l with
  | nil=>intro a _ G;simp;omega
  | cons c l ih =>
   intro a h G;have hc:=h c mS_
   rw [e_S] at hc
   simp only [aE_,dE_] at hc
   have hb:byteI c=(c.toNat:Int):=rfl;have:=ih (d_E a c) (fun c hc=>h c<|mT_ _ hc) (by unfold d_E;omega);refine ⟨this.1,Int.lt_of_lt_of_le this.2 ?_⟩
   rw [lC_,Int.pow_succ,← Int.mul_assoc,Int.mul_assoc,Int.mul_comm ((10:Int) ^ l.length) 10,← Int.mul_assoc]
   refine Int.mul_le_mul_of_nonneg_right ?_<|Int.le_of_lt<|Int.pow_pos (by decide);unfold d_E;omega
 have:=key l 0 h<|Int.le_refl 0
 simpa [a_C] using this
theorem l_p {α:Type}{l:List α}{k:Nat}(h:k<l.length):l.take (k+1)=l.take k++[l[k]]:=by rw [List.take_add_one,gG_ h];rfl
def d_f (s:Str):Int×Bool:=if (1<=s.b.length/\s.b.length<=13)/\(∀c∈s.b,b_d c=true)/\a_C s.b<=1000000000000/\Lib.itoa (a_C s.b)=s.b then (a_C s.b,true) else (0,false)
theorem l_q {s:Str}(h:(1<=s.b.length/\s.b.length<=13)/\(∀c∈s.b,b_d c=true)/\a_C s.b<=1000000000000/\Lib.itoa (a_C s.b)=s.b):d_f s=(a_C s.b,true):=iP_ h
theorem i_m {s:Str}(h:¬((1<=s.b.length/\s.b.length<=13)/\(∀c∈s.b,b_d c=true)/\a_C s.b<=1000000000000/\Lib.itoa (a_C s.b)=s.b)):d_f s=(0,false):=iN_ h
theorem p_2 {c:UInt8}(h:b_d c=true):byteI (mkB<|byteI c - byteI (48:UInt8))=byteI c - 48:=by
 rw [e_S] at h
 simp only [aE_,dE_] at h
 have hb:byteI c=(c.toNat:Int):=rfl;have G:byteI (48:UInt8)=48:=rfl
 rw [i_X,G]
 unfold IntKind.wrap
 simp [IntKind.bits,IntKind.signed]
 omega
theorem p_3 {n:Nat}(hn:30<=n)(s:Str):g_r n s=some (d_f s):=by
 unfold g_r
 rw [b_w,bd_some]
 by_cases hl:1<=s.b.length/\s.b.length<=13
 ·rw [dT_ (show (1:Int)<=(s.b.length:Int) by omega),dT_ (show (s.b.length:Int)<=13 by omega)]
  simp only [Bool.and_self,nT_,bF_,fF_]
  have hp:∀k,k<=s.b.length->(∀c∈s.b.take k,b_d c=true)->0<=a_C (s.b.take k)/\a_C (s.b.take k)<10 ^ 13:=fun k hk hd=>by
   have:=l_o _ hd;refine ⟨this.1,Int.lt_of_lt_of_le this.2 ?_⟩
   exact_mod_cast Nat.pow_le_pow_right (by decide) (by simp;omega)
  rcases c_p (σ:=Int) (ρ:=Int×Bool) (I:=fun k x=>x=a_C (s.b.take k)/\∀c∈s.b.take k,b_d c=true) (R:=fun r=>r=(0,false)/\¬∀c∈s.b,b_d c=true)
   (body:=fun G=>(fun O=>bd (idx s.b ((G:Nat):Int)) fun H=>bd (a_M (byteI H) 48 57) fun J=>if (!J)=true then some (.ret (0,false)) else bd (idx s.b ((G:Nat):Int)) fun L=>some<|.next<|g_ (a_1 10 O)<|byteI<|mkB<|byteI L - byteI (48:UInt8))) (n:=s.b.length)
   (fun k x hk ⟨hx,hd⟩=>by
    subst hx
    simp only [ix_ hk,bd_some,b_w]
    have he:(decide (48<=byteI s.b[k]) && decide (byteI s.b[k]<=57))=b_d s.b[k]:=rfl
    rw [he]
    by_cases hc:b_d s.b[k]=true
    ·left
     rw [hc]
     simp only [nT_,bF_,fF_]
     have h1:=hp k (by omega) hd;have h2:=hc
     rw [e_S] at h2
     simp only [aE_,dE_] at h2
     have hb:byteI s.b[k]=(s.b[k].toNat:Int):=rfl
     rw [p_2 hc,c_V (by omega) (by omega),ia_ (by omega) (by omega)]
     refine ⟨_,rfl,?_,?_⟩
     ·unfold a_C;rw [d_g _ _ hk];rfl
     ·intro c hcm
      rw [l_p hk] at hcm
      simp only [List.mem_append,List.mem_singleton] at hcm
      rcases hcm with hcm | rfl
      ·exact hd c hcm
      ·exact hc
    ·right
     rw [show b_d s.b[k]=false by simpa using hc]
     exact ⟨_,rfl,rfl,fun h=>hc (h _ (gE_ hk))⟩) s.b.length 0 0 (by omega) ⟨rfl,by simp⟩ with ⟨x,h1,h2,h3⟩ | ⟨r,h1,rfl,h3⟩
  ·rw [h1,bd_some,el_inl]
   rw [List.take_length] at h2 h3
   subst h2;have hb:=hp s.b.length (Nat.le_refl _) (by rw [List.take_length];exact h3)
   rw [List.take_length] at hb
   by_cases hm:a_C s.b<=1000000000000
   ·obtain ⟨v,hv⟩:∃v:Nat,a_C s.b=v:=⟨(a_C s.b).toNat,by omega⟩;have hf:b_y n (a_C s.b)=some ⟨Lib.itoa<|a_C s.b⟩:=by rw [hv];exact j_S hn v (by omega)
    rw [dF_ (show ¬1000000000000<a_C s.b by omega),hf]
    simp only [bF_,fF_,bd_some]
    by_cases he:Lib.itoa (a_C s.b)=s.b
    ·rw [l_q ⟨hl,h3,by omega,he⟩,show (Lib.itoa (a_C s.b) != s.b)=false by simpa using he];rfl
    ·rw [i_m (fun h=>he h.2.2.2),show (Lib.itoa (a_C s.b) != s.b)=true by simpa using he];rfl
   ·rw [dT_ (show 1000000000000<a_C s.b by omega),i_m<|fun h=>hm h.2.2.1];rfl
  ·rw [h1,bd_some,el_inr,i_m<|fun h=>h3 h.2.1]
 ·rw [i_m (fun h=>hl h.1)]
  have:(decide ((1:Int)<=(s.b.length:Int)) && decide ((s.b.length:Int)<=13))=false:=by
   rw [Bool.and_eq_false_iff]
   simp only [decide_eq_false_iff_not]
   omega
  rw [this];rfl
theorem p_4 {c:UInt8}(h:48<=byteI c/\byteI c<=57):b_d c=true:=by
 rw [e_S]
 simp only [aE_,dE_];exact h
theorem p_5 (i:Nat)(hi:i<=1000000000000):d_f ⟨Lib.itoa i⟩=((i:Int),true):=by
 have hv:a_C (Lib.itoa i)=i:=by rw [c_7,j_R]
 have:=l_m 12 i (by omega)
 rw [l_q (s:=⟨Lib.itoa i⟩) ⟨by simp only [c_7];omega,fun c hc=>p_4<|l_l i c (by simpa only [c_7] using hc),by simp only [hv];omega,by simp only [hv]⟩]
 simp only [hv]
def c_S (s:Str):Bool:=(a_U s || (s.b==[42] || (s.b==[63] || s.b==[43]))) || (d_f s).2
theorem j_T {n:Nat}(hn:30<=n)(s:Str):e_j n s=some (c_S s):=by
 unfold e_j c_S
 rw [j_K,bd_some,p_3 hn]
 have hp:(d_f s).2=true->bd (b_y n (d_f s).1) (fun G=>some<|G.b==s.b)=some true:=fun h=>by
  unfold d_f at h ⊢
  split at h
  ·rename_i hc
   rw [iP_ hc]
   have hb:=l_o _ hc.2.1;obtain ⟨v,hv⟩:∃v:Nat,a_C s.b=v:=⟨(a_C s.b).toNat,by omega⟩;have he:=hc.2.2.2;have hm:=hc.2.2.1
   simp only
   rw [hv] at he hm ⊢
   rw [j_S hn v (by omega),bd_some,he];simp
  ·cases h
 generalize d_f s=x at *
 obtain ⟨v,ok⟩:=x
 simp only at hp
 cases a_U s <;> cases (s.b==[42]) <;> cases (s.b==[63]) <;> cases (s.b==[43]) <;> first | rfl | (cases ok;rfl;simp only [bd2_some,fT_,bd_some,Bool.or_self,bF_,fF_,hp,Bool.or_true])
def b_j (sep:UInt8):List UInt8->List UInt8->List Str
 | [],cur=>[⟨cur⟩]
 | c::r,cur=>if c=sep then ⟨cur⟩::b_j sep r [] else b_j sep r (cur++[c])
theorem j_U (sep:UInt8):∀(l cur:List UInt8),1<=(b_j sep l cur).length/\(b_j sep l cur).length<=l.length+1
 | [],_=>by simp [b_j]
 | c::r,cur=>by
  unfold b_j
  split
  ·have:=j_U sep r [];simp;omega
  ·have:=j_U sep r<|cur++[c];simp;omega
theorem l_r (sep:UInt8):∀(s t cur:List UInt8),(∀c∈s,c ≠ sep)->b_j sep (s++t) cur=b_j sep t (cur++s)
 | [],t,cur,_=>by simp
 | c::s,t,cur,h=>by
  rw [List.cons_append,b_j,iN_<|h c mS_,l_r sep s t _<|fun c hc=>h c<|mT_ _ hc]
  simp
theorem p_6 {s:Str}{sep:UInt8}(hs:s.b.length<=MX):∀(m i st:Nat)(acc:List Str)(f:Nat),i+m=s.b.length->st<=i->acc.length<=i->m+2<=f ->
  ∃x y,a_8 (σ:=(List Str)×Int×Int) (ρ:=List Str) (un3 fun H I G=>if (decide<|G<=(s.b.length:Int))=true then bd (α:=Bool) (if (G==(s.b.length:Int))=true then some true else bd (idx s.b G) fun J=>some<|(byteI J)==(byteI sep)) (fun L=>bd (α:=(List Str)×Int) (if L=true then bd (c_G s I G) fun O=>bd (psh H O) fun V=>some (V,g_ G 1) else some (H,I))<|un2 fun W Y=>some<|.next (W,Y,g_ G 1)) else some (.brk (H,I,G))) f (acc,(st:Int),(i:Int))=some (.inl (acc++b_j sep (s.b.drop i) (a_E s.b st i),x,y)):=by
 intro m
 induction m with
 | zero =>
  intro i st acc f hi hst hacc hf;have hMX:=MXv;obtain ⟨f,rfl⟩:∃g,f=g+2:=⟨f - 2,by omega⟩;have hi':i=s.b.length:=by omega
  unfold a_8
  simp only [un3]
  rw [dT_ (show (i:Int)<=(s.b.length:Int) by omega),show ((i:Int)==(s.b.length:Int))=true by rw [hi'];simp]
  simp only [fT_,bd_some]
  rw [show c_G s (st:Int) (i:Int)=some ⟨a_E s.b st i⟩ by unfold c_G;rw [d_i hst (by omega)];rfl,bd_some,a_s (by rw [a_p];omega),bd_some,bd_some]
  simp only []
  rw [ia_ (by omega) (by omega)]
  unfold a_8
  simp only [un3]
  rw [dF_ (show ¬(i:Int)+1<=(s.b.length:Int) by omega)]
  refine ⟨(i:Int)+1,(i:Int)+1,?_⟩
  rw [List.drop_eq_nil_of_le (by omega)]
  rfl
 | succ m ih =>
  intro i st acc f hi hst hacc hf;have hMX:=MXv;obtain ⟨f,rfl⟩:∃g,f=g+1:=⟨f - 1,by omega⟩;have hlt:i<s.b.length:=by omega
  unfold a_8
  simp only [un3]
  rw [dT_ (show (i:Int)<=(s.b.length:Int) by omega),show ((i:Int)==(s.b.length:Int))=false by simp;omega,ix_ hlt]
  simp only [fT_,bd_some,bF_,fF_]
  rw [dC_ hlt,b_j,beqB]
  by_cases hc:s.b[i]=sep
  ·rw [dT_ hc,iP_ hc]
   simp only [fT_]
   rw [show c_G s (st:Int) (i:Int)=some ⟨a_E s.b st i⟩ by unfold c_G;rw [d_i hst (by omega)];rfl,bd_some,a_s (by rw [a_p];omega),bd_some,bd_some]
   simp only
   rw [ia_ (by omega) (by omega),show (i:Int)+1=((i+1:Nat):Int) by omega]
   obtain ⟨x,y,h⟩:=ih (i+1) (i+1) (acc++[⟨a_E s.b st i⟩]) f (by omega) (Nat.le_refl _) (by simp;omega) (by omega);refine ⟨x,y,h.trans ?_⟩;have:a_E s.b (i+1) (i+1)=[]:=by unfold a_E;simp
   rw [this];simp
  ·rw [dF_ hc,iN_ hc]
   simp only [bF_,fF_,bd_some,un2]
   rw [ia_ (by omega) (by omega),show (i:Int)+1=((i+1:Nat):Int) by omega]
   obtain ⟨x,y,h⟩:=ih (i+1) st acc f (by omega) (by omega) (by omega) (by omega);refine ⟨x,y,h.trans ?_⟩
   have:a_E s.b st (i+1)=a_E s.b st i++[s.b[i]]:=by
    unfold a_E
    rw [l_p hlt,List.drop_append_of_le_length (by simp;omega)]
   rw [this]
theorem p_7 {n:Nat}{s:Str}{sep:UInt8}(hs:s.b.length<=MX)(hn:s.b.length+2<=n):g_q n s sep=some (b_j sep s.b []):=by
 unfold g_q;obtain ⟨x,y,h⟩:=p_6 (sep:=sep) hs s.b.length 0 0 [] n (by omega) (Nat.le_refl _) (by simp) (by omega);have h':=h
 simp only [Int.natCast_zero] at h'
 rw [h',bd_some,el_inl]
 simp [un3,a_E]
def i_n (s:Str):List Str×Bool:=if s.b=[] then ([],true) else if (b_j 47 s.b []).head? = some ⟨[]⟩/\(b_j 47 s.b []).tail.all c_S=true then ((b_j 47 s.b []).tail,decide<|1<(b_j 47 s.b []).length) else ([],false)
theorem p_8 {n:Nat}(hn:30<=n){s:Str}(hs:s.b.length<=MX)(L:s.b.length+2<=n):g_s n s=some (i_n s):=by
 unfold g_s i_n
 by_cases H:s.b=[]
 ·rw [H];rfl
 rw [show (s.b==(⟨[]⟩:Str).b)=false by simpa using H,iN_ H,p_7 hs L]
 simp only [bF_,fF_,bd_some]
 have hl:=j_U 47 s.b [];generalize b_j 47 s.b []=l at *
 match l,hl with
 | a::l,hl =>
  rw [b_b (by simp),bd_some]
  simp only [List.getElem_cons_zero,List.head?_cons,List.tail_cons,oI_]
  by_cases ha:a.b=[]
  ·have ha':a=⟨[]⟩:=by cases a;simpa using ha
   rw [iN_ (show ¬(a.b != [])=true by simpa using ha)]
   by_cases hall:l.all c_S=true
   ·rw [iP_ ⟨ha',hall⟩]
    have:=m_q (σ:=Int) (ρ:=(List Str)×Bool) (step:=fun G=>if (decide<|G<((a::l).length:Int))=true then bd (idx (a::l) G) fun I=>bd (e_j n I) fun J=>if (!J)=true then some (.ret (([]:List Str),false)) else some (.next<|g_ G 1) else some (.brk G))
     (fun j=>((j+1:Nat):Int)) (s:=((l.length+1:Nat):Int)) (m:=n) (j0:=l.length) (by simp at hl;omega) (fun j hj=>by
      have hMX:=MXv
      simp at hl
      rw [dT_ (by simp;omega),ix_ (by simp;omega)]
      simp only [fT_,bd_some,List.getElem_cons_succ,j_T hn,List.all_eq_true.1 hall _<|gE_ hj,nT_,bF_,fF_]
      rw [ia_ (by omega) (by omega)];rfl) (by
      rw [dF_ (by simp)];rfl)
    simp only [Nat.zero_add,Int.natCast_one] at this
    rw [this,bd_some,el_inl]
    rw [show slc (a::l) 1 ((a::l).length:Int)=some l by rw [g_i (by omega) (by simp;omega) (by omega)];simp]
    simp
    omega
   ·rw [iN_ (fun h=>hall h.2)]
    obtain ⟨j,hj,hjb,hjl⟩:∃j,∃hj:j<l.length,c_S l[j]=false/\∀i (hi:i<j),c_S (l[i]'(by omega))=true:=by
     clear L hs hl H
     induction l with
     | nil=>simp at hall
     | cons c l ih =>
      by_cases hc:c_S c=true
      ·obtain ⟨j,hj,h1,h2⟩:=ih (by simpa [hc] using hall);refine ⟨j+1,by simp;omega,by simpa using h1,fun i hi=>?_⟩
       cases i with
       | zero=>simpa using hc
       | succ i=>simpa using h2 i (by omega)
      ·exact ⟨0,by simp,by simpa using hc,fun i hi=>by omega⟩
    have:=m_r (σ:=Int) (ρ:=(List Str)×Bool) (step:=fun G=>if (decide<|G<((a::l).length:Int))=true then bd (idx (a::l) G) fun I=>bd (e_j n I) fun J=>if (!J)=true then some (.ret (([]:List Str),false)) else some (.next<|g_ G 1) else some (.brk G))
     (fun j=>((j+1:Nat):Int)) (r:=(([]:List Str),false)) (m:=n) (j0:=j) (by simp at hl;omega) (fun i hi=>by
      have hMX:=MXv
      simp at hl
      rw [dT_ (by simp;omega),ix_ (by simp;omega)]
      simp only [fT_,bd_some,List.getElem_cons_succ,j_T hn,hjl i hi,nT_,bF_,fF_]
      rw [ia_ (by omega) (by omega)];rfl) (by
      rw [dT_ (by simp;omega),ix_ (by simp;omega)]
      simp only [fT_,bd_some,List.getElem_cons_succ,j_T hn,hjb,Bool.not_false])
    simp only [Nat.zero_add,Int.natCast_one] at this
    rw [this,bd_some,el_inr]
  ·rw [iP_ (show (a.b != [])=true by simpa using ha),iN_<|fun h=>ha (by rw [h.1])]
end Go.Vw
