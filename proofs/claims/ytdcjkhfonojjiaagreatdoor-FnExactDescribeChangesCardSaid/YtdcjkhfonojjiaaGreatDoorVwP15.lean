
import Derived.Test.YtdcjkhfonojjiaaGreatDoorVwP11
namespace Go.Vw
open Go.RowKit Dat
def c_4 (a:Int)(c:UInt8):Int:=10 * a+(byteI c - 48)
def P_ (l:List UInt8):Int:=l.foldl c_4 0
theorem h_Y {x:Nat}(h:x<256):byteI (UInt8.ofNat x)=x:=by
 unfold byteI;simp [UInt8.toNat_ofNat'];omega
theorem l_S (x:Nat):∀c∈Lib.decDigits x,48<=byteI c/\byteI c<=57:=by
 induction x using Nat.strongRecOn with
 | _ x ih =>
  intro c hc
  rw [Lib.decDigits] at hc
  split at hc
  ·simp only [List.mem_singleton] at hc
   subst hc
   rw [h_Y (by omega)];omega
  ·simp only [List.mem_append,List.mem_singleton] at hc
   rcases hc with hc | rfl
   ·exact ih (x / 10) (by omega) c hc
   ·rw [h_Y (by omega)];omega
theorem j_x (x:Nat):P_ (Lib.decDigits x)=x:=by
 induction x using Nat.strongRecOn with
 | _ x ih =>
  rw [Lib.decDigits]
  split
  ·simp only [P_,List.foldl_cons,List.foldl_nil,c_4]
   rw [h_Y (by omega)];omega
  ·unfold P_ at *
   rw [List.foldl_append,ih (x / 10) (by omega)]
   simp only [List.foldl_cons,List.foldl_nil,c_4]
   rw [h_Y (by omega)];omega
theorem j_y (k:Nat):∀x,x<10 ^ (k+1)->1<=(Lib.decDigits x).length/\(Lib.decDigits x).length<=k+1:=by
 induction k with
 | zero=>intro x h;rw [Lib.decDigits,dif_pos (by omega)];simp
 | succ k ih =>
  intro x h
  rw [Lib.decDigits]
  split
  ·simp
  ·have:=ih (x / 10) (by rw [Nat.pow_succ] at h;omega)
   simp;omega
theorem d_7 (x:Nat):Lib.itoa x=Lib.decDigits x:=by unfold Lib.itoa;rw [iN_ (by omega)];simp
theorem p_v {x y:Nat}(h:Lib.itoa x=Lib.itoa y):x=y:=by
 have:=congrArg P_ h
 rw [d_7,d_7,j_x,j_x] at this
 omega
theorem h_Z {n:Nat}(hn:30<=n)(i:Nat)(hi:i<=1000000000000):c_a n i=some ⟨Lib.itoa i⟩:=by
 unfold c_a Lib.itoa
 rw [iN_ (show ¬(i:Int)<0 by omega)]
 by_cases G:i=0
 ·subst G
  rw [show ((((0:Nat):Int)).toNat)=0 from rfl,Lib.decDigits,dif_pos (by omega)]
  rfl
 ·rw [show ((i:Int)==0)=false by simp;omega]
  simp only [bF_,fF_]
  rw [j_V 20 i (by omega) (by omega) (by omega) ⟨[]⟩ n (by omega) (by simp),dF_ (show ¬(i:Int)<0 by omega)]
  simp
theorem g_6 (l:List UInt8)(h:∀c∈l,a_w c=true):0<=P_ l/\P_ l<10 ^ l.length:=by
 have key:∀(l:List UInt8)(a:Int),(∀c∈l,a_w c=true)->0<=a->0<=l.foldl c_4 a/\l.foldl c_4 a<(a+1) * 10 ^ l.length:=by
  intro l
  induction l with
  | nil=>intro a _ G;simp;omega
  | cons c l ih =>
   intro a h G;have hc:=h c mS_
   rw [d_J] at hc
   simp only [aE_,dE_] at hc
   have hb:byteI c=(c.toNat:Int):=rfl;have:=ih (c_4 a c) (fun c hc=>h c<|mT_ _ hc) (by unfold c_4;omega);refine ⟨this.1,Int.lt_of_lt_of_le this.2 ?_⟩
   rw [lC_,Int.pow_succ,← Int.mul_assoc,Int.mul_assoc,Int.mul_comm ((10:Int) ^ l.length) 10,← Int.mul_assoc]
   refine Int.mul_le_mul_of_nonneg_right ?_<|Int.le_of_lt<|Int.pow_pos (by decide);unfold c_4;omega
 have:=key l 0 h<|Int.le_refl 0
 simpa [P_] using this
theorem e_k {α:Type}{l:List α}{k:Nat}(h:k<l.length):l.take (k+1)=l.take k++[l[k]]:=by rw [List.take_add_one,gG_ h];rfl
def c_u (s:Str):Int×Bool:=if (1<=s.b.length/\s.b.length<=13)/\(∀c∈s.b,a_w c=true)/\P_ s.b<=1000000000000/\Lib.itoa (P_ s.b)=s.b then (P_ s.b,true) else (0,false)
theorem j_z {s:Str}(h:(1<=s.b.length/\s.b.length<=13)/\(∀c∈s.b,a_w c=true)/\P_ s.b<=1000000000000/\Lib.itoa (P_ s.b)=s.b):c_u s=(P_ s.b,true):=iP_ h
theorem d_8 {s:Str}(h:¬((1<=s.b.length/\s.b.length<=13)/\(∀c∈s.b,a_w c=true)/\P_ s.b<=1000000000000/\Lib.itoa (P_ s.b)=s.b)):c_u s=(0,false):=iN_ h
theorem l_T {c:UInt8}(h:a_w c=true):byteI (mkB<|byteI c - byteI (48:UInt8))=byteI c - 48:=by
 rw [d_J] at h
 simp only [aE_,dE_] at h
 have hb:byteI c=(c.toNat:Int):=rfl;have G:byteI (48:UInt8)=48:=rfl
 rw [i_Y,G]
 unfold IntKind.wrap
 simp [IntKind.bits,IntKind.signed]
 omega
theorem p_w {n:Nat}(hn:30<=n)(s:Str):g_u n s=some (c_u s):=by
 unfold g_u
 rw [b_x,bd_some]
 by_cases hl:1<=s.b.length/\s.b.length<=13
 ·rw [dT_ (show (1:Int)<=(s.b.length:Int) by omega),dT_ (show (s.b.length:Int)<=13 by omega)]
  simp only [Bool.and_self,nT_,bF_,fF_]
  have hp:∀k,k<=s.b.length->(∀c∈s.b.take k,a_w c=true)->0<=P_ (s.b.take k)/\P_ (s.b.take k)<10 ^ 13:=fun k hk hd=>by
   have:=g_6 _ hd;refine ⟨this.1,Int.lt_of_lt_of_le this.2 ?_⟩
   exact_mod_cast Nat.pow_le_pow_right (by decide) (by simp;omega)
  rcases f_8 (σ:=Int) (ρ:=Int×Bool) (I:=fun k x=>x=P_ (s.b.take k)/\∀c∈s.b.take k,a_w c=true) (R:=fun r=>r=(0,false)/\¬∀c∈s.b,a_w c=true)
   (body:=fun G=>(fun O=>bd (idx s.b ((G:Nat):Int)) fun H=>bd (a_I (byteI H) 48 57) fun J=>if (!J)=true then some (.ret (0,false)) else bd (idx s.b ((G:Nat):Int)) fun L=>some<|.next<|s_ (b_5 10 O)<|byteI<|mkB<|byteI L - byteI (48:UInt8))) (n:=s.b.length)
   (fun k x hk ⟨hx,hd⟩=>by
    subst hx
    simp only [ix_ hk,bd_some,b_x]
    have he:(decide (48<=byteI s.b[k]) && decide (byteI s.b[k]<=57))=a_w s.b[k]:=rfl
    rw [he]
    by_cases hc:a_w s.b[k]=true
    ·left
     rw [hc]
     simp only [nT_,bF_,fF_]
     have h1:=hp k (by omega) hd;have h2:=hc
     rw [d_J] at h2
     simp only [aE_,dE_] at h2
     have hb:byteI s.b[k]=(s.b[k].toNat:Int):=rfl
     rw [l_T hc,f_o (by omega) (by omega),ia_ (by omega) (by omega)]
     refine ⟨_,rfl,?_,?_⟩
     ·unfold P_;rw [d_K _ _ hk];rfl
     ·intro c hcm
      rw [e_k hk] at hcm
      simp only [List.mem_append,List.mem_singleton] at hcm
      rcases hcm with hcm | rfl
      ·exact hd c hcm
      ·exact hc
    ·right
     rw [show a_w s.b[k]=false by simpa using hc]
     exact ⟨_,rfl,rfl,fun h=>hc (h _ (gE_ hk))⟩) s.b.length 0 0 (by omega) ⟨rfl,by simp⟩ with ⟨x,h1,h2,h3⟩ | ⟨r,h1,rfl,h3⟩
  ·rw [h1,bd_some,el_inl]
   rw [List.take_length] at h2 h3
   subst h2;have hb:=hp s.b.length (Nat.le_refl _) (by rw [List.take_length];exact h3)
   rw [List.take_length] at hb
   by_cases hm:P_ s.b<=1000000000000
   ·obtain ⟨v,hv⟩:∃v:Nat,P_ s.b=v:=⟨(P_ s.b).toNat,by omega⟩;have hf:c_a n (P_ s.b)=some ⟨Lib.itoa<|P_ s.b⟩:=by rw [hv];exact h_Z hn v (by omega)
    rw [dF_ (show ¬1000000000000<P_ s.b by omega),hf]
    simp only [bF_,fF_,bd_some]
    by_cases he:Lib.itoa (P_ s.b)=s.b
    ·rw [j_z ⟨hl,h3,by omega,he⟩,show (Lib.itoa (P_ s.b) != s.b)=false by simpa using he];rfl
    ·rw [d_8 (fun h=>he h.2.2.2),show (Lib.itoa (P_ s.b) != s.b)=true by simpa using he];rfl
   ·rw [dT_ (show 1000000000000<P_ s.b by omega),d_8<|fun h=>hm h.2.2.1];rfl
  ·rw [h1,bd_some,el_inr,d_8<|fun h=>h3 h.2.1]
 ·rw [d_8 (fun h=>hl h.1)]
  have:(decide ((1:Int)<=(s.b.length:Int)) && decide ((s.b.length:Int)<=13))=false:=by
   rw [Bool.and_eq_false_iff]
   simp only [decide_eq_false_iff_not]
   omega
  rw [this];rfl
theorem p_x {c:UInt8}(h:48<=byteI c/\byteI c<=57):a_w c=true:=by
 rw [d_J]
 simp only [aE_,dE_];exact h
theorem l_U (i:Nat)(hi:i<=1000000000000):c_u ⟨Lib.itoa i⟩=((i:Int),true):=by
 have hv:P_ (Lib.itoa i)=i:=by rw [d_7,j_x]
 have:=j_y 12 i (by omega)
 rw [j_z (s:=⟨Lib.itoa i⟩) ⟨by simp only [d_7];omega,fun c hc=>p_x<|l_S i c (by simpa only [d_7] using hc),by simp only [hv];omega,by simp only [hv]⟩]
 simp only [hv]
def b_L (s:Str):Bool:=(a_K s || (s.b==[42] || (s.b==[63] || s.b==[43]))) || (c_u s).2
theorem j_A {n:Nat}(hn:30<=n)(s:Str):e_B n s=some (b_L s):=by
 unfold e_B b_L
 rw [j_r,bd_some,p_w hn]
 have hp:(c_u s).2=true->bd (c_a n (c_u s).1) (fun G=>some<|G.b==s.b)=some true:=fun h=>by
  unfold c_u at h ⊢
  split at h
  ·rename_i hc
   rw [iP_ hc]
   have hb:=g_6 _ hc.2.1;obtain ⟨v,hv⟩:∃v:Nat,P_ s.b=v:=⟨(P_ s.b).toNat,by omega⟩;have he:=hc.2.2.2;have hm:=hc.2.2.1
   simp only
   rw [hv] at he hm ⊢
   rw [h_Z hn v (by omega),bd_some,he];simp
  ·cases h
 generalize c_u s=x at *
 obtain ⟨v,ok⟩:=x
 simp only at hp
 cases a_K s <;> cases (s.b==[42]) <;> cases (s.b==[63]) <;> cases (s.b==[43]) <;> first | rfl | (cases ok;rfl;simp only [bd2_some,fT_,bd_some,Bool.or_self,bF_,fF_,hp,Bool.or_true])
def a_h (sep:UInt8):List UInt8->List UInt8->List Str
 | [],cur=>[⟨cur⟩]
 | c::r,cur=>if c=sep then ⟨cur⟩::a_h sep r [] else a_h sep r (cur++[c])
theorem g_7 (sep:UInt8):∀(l cur:List UInt8),1<=(a_h sep l cur).length/\(a_h sep l cur).length<=l.length+1
 | [],_=>by simp [a_h]
 | c::r,cur=>by
  unfold a_h
  split
  ·have:=g_7 sep r [];simp;omega
  ·have:=g_7 sep r<|cur++[c];simp;omega
theorem l_V (sep:UInt8):∀(s t cur:List UInt8),(∀c∈s,c ≠ sep)->a_h sep (s++t) cur=a_h sep t (cur++s)
 | [],t,cur,_=>by simp
 | c::s,t,cur,h=>by
  rw [List.cons_append,a_h,iN_<|h c mS_,l_V sep s t _<|fun c hc=>h c<|mT_ _ hc]
  simp
theorem p_y {s:Str}{sep:UInt8}(hs:s.b.length<=MX):∀(m i st:Nat)(acc:List Str)(f:Nat),i+m=s.b.length->st<=i->acc.length<=i->m+2<=f ->
  ∃x y,a_C (σ:=(List Str)×Int×Int) (ρ:=List Str) (un3 fun H I G=>if (decide<|G<=(s.b.length:Int))=true then bd (α:=Bool) (if (G==(s.b.length:Int))=true then some true else bd (idx s.b G) fun J=>some<|(byteI J)==(byteI sep)) (fun L=>bd (α:=(List Str)×Int) (if L=true then bd (b_3 s I G) fun O=>bd (psh H O) fun V=>some (V,s_ G 1) else some (H,I))<|un2 fun W Y=>some<|.next (W,Y,s_ G 1)) else some (.brk (H,I,G))) f (acc,(st:Int),(i:Int))=some (.inl (acc++a_h sep (s.b.drop i) (a_2 s.b st i),x,y)):=by
 intro m
 induction m with
 | zero =>
  intro i st acc f hi hst hacc hf;have hMX:=MXv;obtain ⟨f,rfl⟩:∃g,f=g+2:=⟨f - 2,by omega⟩;have hi':i=s.b.length:=by omega
  unfold a_C
  simp only [un3]
  rw [dT_ (show (i:Int)<=(s.b.length:Int) by omega),show ((i:Int)==(s.b.length:Int))=true by rw [hi'];simp]
  simp only [fT_,bd_some]
  rw [show b_3 s (st:Int) (i:Int)=some ⟨a_2 s.b st i⟩ by unfold b_3;rw [d_b hst (by omega)];rfl,bd_some,b_s (by rw [a_D];omega),bd_some,bd_some]
  simp only []
  rw [ia_ (by omega) (by omega)]
  unfold a_C
  simp only [un3]
  rw [dF_ (show ¬(i:Int)+1<=(s.b.length:Int) by omega)]
  refine ⟨(i:Int)+1,(i:Int)+1,?_⟩
  rw [List.drop_eq_nil_of_le (by omega)]
  rfl
 | succ m ih =>
  intro i st acc f hi hst hacc hf;have hMX:=MXv;obtain ⟨f,rfl⟩:∃g,f=g+1:=⟨f - 1,by omega⟩;have hlt:i<s.b.length:=by omega
  unfold a_C
  simp only [un3]
  rw [dT_ (show (i:Int)<=(s.b.length:Int) by omega),show ((i:Int)==(s.b.length:Int))=false by simp;omega,ix_ hlt]
  simp only [fT_,bd_some,bF_,fF_]
  rw [dC_ hlt,a_h,beqB]
  by_cases hc:s.b[i]=sep
  ·rw [dT_ hc,iP_ hc]
   simp only [fT_]
   rw [show b_3 s (st:Int) (i:Int)=some ⟨a_2 s.b st i⟩ by unfold b_3;rw [d_b hst (by omega)];rfl,bd_some,b_s (by rw [a_D];omega),bd_some,bd_some]
   simp only
   rw [ia_ (by omega) (by omega),show (i:Int)+1=((i+1:Nat):Int) by omega]
   obtain ⟨x,y,h⟩:=ih (i+1) (i+1) (acc++[⟨a_2 s.b st i⟩]) f (by omega) (Nat.le_refl _) (by simp;omega) (by omega);refine ⟨x,y,h.trans ?_⟩;have:a_2 s.b (i+1) (i+1)=[]:=by unfold a_2;simp
   rw [this];simp
  ·rw [dF_ hc,iN_ hc]
   simp only [bF_,fF_,bd_some,un2]
   rw [ia_ (by omega) (by omega),show (i:Int)+1=((i+1:Nat):Int) by omega]
   obtain ⟨x,y,h⟩:=ih (i+1) st acc f (by omega) (by omega) (by omega) (by omega);refine ⟨x,y,h.trans ?_⟩
   have:a_2 s.b st (i+1)=a_2 s.b st i++[s.b[i]]:=by
    unfold a_2
    rw [e_k hlt,List.drop_append_of_le_length (by simp;omega)]
   rw [this]
theorem p_z {n:Nat}{s:Str}{sep:UInt8}(hs:s.b.length<=MX)(hn:s.b.length+2<=n):g_t n s sep=some (a_h sep s.b []):=by
 unfold g_t;obtain ⟨x,y,h⟩:=p_y (sep:=sep) hs s.b.length 0 0 [] n (by omega) (Nat.le_refl _) (by simp) (by omega);have h':=h
 simp only [Int.natCast_zero] at h'
 rw [h',bd_some,el_inl]
 simp [un3,a_2]
def f_a (s:Str):List Str×Bool:=if s.b=[] then ([],true) else if (a_h 47 s.b []).head? = some ⟨[]⟩/\(a_h 47 s.b []).tail.all b_L=true then ((a_h 47 s.b []).tail,decide<|1<(a_h 47 s.b []).length) else ([],false)
theorem p_A {n:Nat}(hn:30<=n){s:Str}(hs:s.b.length<=MX)(L:s.b.length+2<=n):g_v n s=some (f_a s):=by
 unfold g_v f_a
 by_cases H:s.b=[]
 ·rw [H];rfl
 rw [show (s.b==(⟨[]⟩:Str).b)=false by simpa using H,iN_ H,p_z hs L]
 simp only [bF_,fF_,bd_some]
 have hl:=g_7 47 s.b [];generalize a_h 47 s.b []=l at *
 match l,hl with
 | a::l,hl =>
  rw [b_r (by simp),bd_some]
  simp only [List.getElem_cons_zero,List.head?_cons,List.tail_cons,oI_]
  by_cases ha:a.b=[]
  ·have ha':a=⟨[]⟩:=by cases a;simpa using ha
   rw [iN_ (show ¬(a.b != [])=true by simpa using ha)]
   by_cases hall:l.all b_L=true
   ·rw [iP_ ⟨ha',hall⟩]
    have:=n_a (σ:=Int) (ρ:=(List Str)×Bool) (step:=fun G=>if (decide<|G<((a::l).length:Int))=true then bd (idx (a::l) G) fun I=>bd (e_B n I) fun J=>if (!J)=true then some (.ret (([]:List Str),false)) else some (.next<|s_ G 1) else some (.brk G))
     (fun j=>((j+1:Nat):Int)) (s:=((l.length+1:Nat):Int)) (m:=n) (j0:=l.length) (by simp at hl;omega) (fun j hj=>by
      have hMX:=MXv
      simp at hl
      rw [dT_ (by simp;omega),ix_ (by simp;omega)]
      simp only [fT_,bd_some,List.getElem_cons_succ,j_A hn,List.all_eq_true.1 hall _<|gE_ hj,nT_,bF_,fF_]
      rw [ia_ (by omega) (by omega)];rfl) (by
      rw [dF_ (by simp)];rfl)
    simp only [Nat.zero_add,Int.natCast_one] at this
    rw [this,bd_some,el_inl]
    rw [show slc (a::l) 1 ((a::l).length:Int)=some l by rw [g_j (by omega) (by simp;omega) (by omega)];simp]
    simp
    omega
   ·rw [iN_ (fun h=>hall h.2)]
    obtain ⟨j,hj,hjb,hjl⟩:∃j,∃hj:j<l.length,b_L l[j]=false/\∀i (hi:i<j),b_L (l[i]'(by omega))=true:=by
     clear L hs hl H
     induction l with
     | nil=>simp at hall
     | cons c l ih =>
      by_cases hc:b_L c=true
      ·obtain ⟨j,hj,h1,h2⟩:=ih (by simpa [hc] using hall);refine ⟨j+1,by simp;omega,by simpa using h1,fun i hi=>?_⟩
       cases i with
       | zero=>simpa using hc
       | succ i=>simpa using h2 i (by omega)
      ·exact ⟨0,by simp,by simpa using hc,fun i hi=>by omega⟩
    have:=k_I (σ:=Int) (ρ:=(List Str)×Bool) (step:=fun G=>if (decide<|G<((a::l).length:Int))=true then bd (idx (a::l) G) fun I=>bd (e_B n I) fun J=>if (!J)=true then some (.ret (([]:List Str),false)) else some (.next<|s_ G 1) else some (.brk G))
     (fun j=>((j+1:Nat):Int)) (r:=(([]:List Str),false)) (m:=n) (j0:=j) (by simp at hl;omega) (fun i hi=>by
      have hMX:=MXv
      simp at hl
      rw [dT_ (by simp;omega),ix_ (by simp;omega)]
      simp only [fT_,bd_some,List.getElem_cons_succ,j_A hn,hjl i hi,nT_,bF_,fF_]
      rw [ia_ (by omega) (by omega)];rfl) (by
      rw [dT_ (by simp;omega),ix_ (by simp;omega)]
      simp only [fT_,bd_some,List.getElem_cons_succ,j_A hn,hjb,Bool.not_false])
    simp only [Nat.zero_add,Int.natCast_one] at this
    rw [this,bd_some,el_inr]
  ·rw [iP_ (show (a.b != [])=true by simpa using ha),iN_<|fun h=>ha (by rw [h.1])]
end Go.Vw
