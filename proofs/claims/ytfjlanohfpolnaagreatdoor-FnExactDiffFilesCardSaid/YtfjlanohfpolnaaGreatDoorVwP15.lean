
import Derived.Test.YtfjlanohfpolnaaGreatDoorVwP11
namespace Go.Vw
open Go.RowKit Dat
def c_8 (a:Int)(c:UInt8):Int:=10 * a+(byteI c - 48)
def P_ (l:List UInt8):Int:=l.foldl c_8 0
theorem i_m {x:Nat}(h:x<256):byteI (UInt8.ofNat x)=x:=by
 unfold byteI;simp [UInt8.toNat_ofNat'];omega
theorem m_A (x:Nat):∀c∈Lib.decDigits x,48<=byteI c/\byteI c<=57:=by
 induction x using Nat.strongRecOn with
 | _ x ih =>
  intro c hc
  rw [Lib.decDigits] at hc
  split at hc
  ·simp only [List.mem_singleton] at hc
   subst hc
   rw [i_m (by omega)];omega
  ·simp only [List.mem_append,List.mem_singleton] at hc
   rcases hc with hc | rfl
   ·exact ih (x / 10) (by omega) c hc
   ·rw [i_m (by omega)];omega
theorem k_u (x:Nat):P_ (Lib.decDigits x)=x:=by
 induction x using Nat.strongRecOn with
 | _ x ih =>
  rw [Lib.decDigits]
  split
  ·simp only [P_,List.foldl_cons,List.foldl_nil,c_8]
   rw [i_m (by omega)];omega
  ·unfold P_ at *
   rw [List.foldl_append,ih (x / 10) (by omega)]
   simp only [List.foldl_cons,List.foldl_nil,c_8]
   rw [i_m (by omega)];omega
theorem k_v (k:Nat):∀x,x<10 ^ (k+1)->1<=(Lib.decDigits x).length/\(Lib.decDigits x).length<=k+1:=by
 induction k with
 | zero=>intro x h;rw [Lib.decDigits,dif_pos (by omega)];simp
 | succ k ih =>
  intro x h
  rw [Lib.decDigits]
  split
  ·simp
  ·have:=ih (x / 10) (by rw [Nat.pow_succ] at h;omega)
   simp;omega
theorem d_n (x:Nat):Lib.itoa x=Lib.decDigits x:=by unfold Lib.itoa;rw [iN_ (by omega)];simp
theorem r_2 {x y:Nat}(h:Lib.itoa x=Lib.itoa y):x=y:=by
 have:=congrArg P_ h
 rw [d_n,d_n,k_u,k_u] at this
 omega
theorem i_n {n:Nat}(hn:30<=n)(i:Nat)(hi:i<=1000000000000):c_e n i=some ⟨Lib.itoa i⟩:=by
 unfold c_e Lib.itoa
 rw [iN_ (show ¬(i:Int)<0 by omega)]
 by_cases G:i=0
 ·subst G
  rw [show ((((0:Nat):Int)).toNat)=0 from rfl,Lib.decDigits,dif_pos (by omega)]
  rfl
 ·rw [show ((i:Int)==0)=false by simp;omega]
  simp only [bF_,fF_]
  rw [k_Q 20 i (by omega) (by omega) (by omega) ⟨[]⟩ n (by omega) (by simp),dF_ (show ¬(i:Int)<0 by omega)]
  simp
theorem g_m (l:List UInt8)(h:∀c∈l,a_z c=true):0<=P_ l/\P_ l<10 ^ l.length:=by
 have key:∀(l:List UInt8)(a:Int),(∀c∈l,a_z c=true)->0<=a->0<=l.foldl c_8 a/\l.foldl c_8 a<(a+1) * 10 ^ l.length:=by
  intro l
  induction l with
  | nil=>intro a _ G;simp;omega
  | cons c l ih =>
   intro a h G;have hc:=h c mS_
   rw [e_0] at hc
   simp only [aE_,dE_] at hc
   have hb:byteI c=(c.toNat:Int):=rfl;have:=ih (c_8 a c) (fun c hc=>h c<|mT_ _ hc) (by unfold c_8;omega);refine ⟨this.1,Int.lt_of_lt_of_le this.2 ?_⟩
   rw [lC_,Int.pow_succ,← Int.mul_assoc,Int.mul_assoc,Int.mul_comm ((10:Int) ^ l.length) 10,← Int.mul_assoc]
   refine Int.mul_le_mul_of_nonneg_right ?_<|Int.le_of_lt<|Int.pow_pos (by decide);unfold c_8;omega
 have:=key l 0 h<|Int.le_refl 0
 simpa [P_] using this
theorem e_D {α:Type}{l:List α}{k:Nat}(h:k<l.length):l.take (k+1)=l.take k++[l[k]]:=by rw [List.take_add_one,gG_ h];rfl
def c_z (s:Str):Int×Bool:=if (1<=s.b.length/\s.b.length<=13)/\(∀c∈s.b,a_z c=true)/\P_ s.b<=1000000000000/\Lib.itoa (P_ s.b)=s.b then (P_ s.b,true) else (0,false)
theorem k_w {s:Str}(h:(1<=s.b.length/\s.b.length<=13)/\(∀c∈s.b,a_z c=true)/\P_ s.b<=1000000000000/\Lib.itoa (P_ s.b)=s.b):c_z s=(P_ s.b,true):=iP_ h
theorem d_o {s:Str}(h:¬((1<=s.b.length/\s.b.length<=13)/\(∀c∈s.b,a_z c=true)/\P_ s.b<=1000000000000/\Lib.itoa (P_ s.b)=s.b)):c_z s=(0,false):=iN_ h
theorem m_B {c:UInt8}(h:a_z c=true):byteI (mkB<|byteI c - byteI (48:UInt8))=byteI c - 48:=by
 rw [e_0] at h
 simp only [aE_,dE_] at h
 have hb:byteI c=(c.toNat:Int):=rfl;have G:byteI (48:UInt8)=48:=rfl
 rw [j_P,G]
 unfold IntKind.wrap
 simp [IntKind.bits,IntKind.signed]
 omega
theorem r_3 {n:Nat}(hn:30<=n)(s:Str):g_F n s=some (c_z s):=by
 unfold g_F
 rw [b_C,bd_some]
 by_cases hl:1<=s.b.length/\s.b.length<=13
 ·rw [dT_ (show (1:Int)<=(s.b.length:Int) by omega),dT_ (show (s.b.length:Int)<=13 by omega)]
  simp only [Bool.and_self,nT_,bF_,fF_]
  have hp:∀k,k<=s.b.length->(∀c∈s.b.take k,a_z c=true)->0<=P_ (s.b.take k)/\P_ (s.b.take k)<10 ^ 13:=fun k hk hd=>by
   have:=g_m _ hd;refine ⟨this.1,Int.lt_of_lt_of_le this.2 ?_⟩
   exact_mod_cast Nat.pow_le_pow_right (by decide) (by simp;omega)
  rcases f_n (σ:=Int) (ρ:=Int×Bool) (I:=fun k x=>x=P_ (s.b.take k)/\∀c∈s.b.take k,a_z c=true) (R:=fun r=>r=(0,false)/\¬∀c∈s.b,a_z c=true)
   (body:=fun G=>(fun O=>bd (idx s.b ((G:Nat):Int)) fun H=>bd (a_L (byteI H) 48 57) fun J=>if (!J)=true then some (.ret (0,false)) else bd (idx s.b ((G:Nat):Int)) fun L=>some<|.next<|i_ (b_d 10 O)<|byteI<|mkB<|byteI L - byteI (48:UInt8))) (n:=s.b.length)
   (fun k x hk ⟨hx,hd⟩=>by
    subst hx
    simp only [ix_ hk,bd_some,b_C]
    have he:(decide (48<=byteI s.b[k]) && decide (byteI s.b[k]<=57))=a_z s.b[k]:=rfl
    rw [he]
    by_cases hc:a_z s.b[k]=true
    ·left
     rw [hc]
     simp only [nT_,bF_,fF_]
     have h1:=hp k (by omega) hd;have h2:=hc
     rw [e_0] at h2
     simp only [aE_,dE_] at h2
     have hb:byteI s.b[k]=(s.b[k].toNat:Int):=rfl
     rw [m_B hc,f_z (by omega) (by omega),ia_ (by omega) (by omega)]
     refine ⟨_,rfl,?_,?_⟩
     ·unfold P_;rw [e_1 _ _ hk];rfl
     ·intro c hcm
      rw [e_D hk] at hcm
      simp only [List.mem_append,List.mem_singleton] at hcm
      rcases hcm with hcm | rfl
      ·exact hd c hcm
      ·exact hc
    ·right
     rw [show a_z s.b[k]=false by simpa using hc]
     exact ⟨_,rfl,rfl,fun h=>hc (h _ (gE_ hk))⟩) s.b.length 0 0 (by omega) ⟨rfl,by simp⟩ with ⟨x,h1,h2,h3⟩ | ⟨r,h1,rfl,h3⟩
  ·rw [h1,bd_some,el_inl]
   rw [List.take_length] at h2 h3
   subst h2;have hb:=hp s.b.length (Nat.le_refl _) (by rw [List.take_length];exact h3)
   rw [List.take_length] at hb
   by_cases hm:P_ s.b<=1000000000000
   ·obtain ⟨v,hv⟩:∃v:Nat,P_ s.b=v:=⟨(P_ s.b).toNat,by omega⟩;have hf:c_e n (P_ s.b)=some ⟨Lib.itoa<|P_ s.b⟩:=by rw [hv];exact i_n hn v (by omega)
    rw [dF_ (show ¬1000000000000<P_ s.b by omega),hf]
    simp only [bF_,fF_,bd_some]
    by_cases he:Lib.itoa (P_ s.b)=s.b
    ·rw [k_w ⟨hl,h3,by omega,he⟩,show (Lib.itoa (P_ s.b) != s.b)=false by simpa using he];rfl
    ·rw [d_o (fun h=>he h.2.2.2),show (Lib.itoa (P_ s.b) != s.b)=true by simpa using he];rfl
   ·rw [dT_ (show 1000000000000<P_ s.b by omega),d_o<|fun h=>hm h.2.2.1];rfl
  ·rw [h1,bd_some,el_inr,d_o<|fun h=>h3 h.2.1]
 ·rw [d_o (fun h=>hl h.1)]
  have:(decide ((1:Int)<=(s.b.length:Int)) && decide ((s.b.length:Int)<=13))=false:=by
   rw [Bool.and_eq_false_iff]
   simp only [decide_eq_false_iff_not]
   omega
  rw [this];rfl
theorem r_4 {c:UInt8}(h:48<=byteI c/\byteI c<=57):a_z c=true:=by
 rw [e_0]
 simp only [aE_,dE_];exact h
theorem m_C (i:Nat)(hi:i<=1000000000000):c_z ⟨Lib.itoa i⟩=((i:Int),true):=by
 have hv:P_ (Lib.itoa i)=i:=by rw [d_n,k_u]
 have:=k_v 12 i (by omega)
 rw [k_w (s:=⟨Lib.itoa i⟩) ⟨by simp only [d_n];omega,fun c hc=>r_4<|m_A i c (by simpa only [d_n] using hc),by simp only [hv];omega,by simp only [hv]⟩]
 simp only [hv]
def b_Q (s:Str):Bool:=(a_N s || (s.b==[42] || (s.b==[63] || s.b==[43]))) || (c_z s).2
theorem k_x {n:Nat}(hn:30<=n)(s:Str):e_O n s=some (b_Q s):=by
 unfold e_O b_Q
 rw [k_l,bd_some,r_3 hn]
 have hp:(c_z s).2=true->bd (c_e n (c_z s).1) (fun G=>some<|G.b==s.b)=some true:=fun h=>by
  unfold c_z at h ⊢
  split at h
  ·rename_i hc
   rw [iP_ hc]
   have hb:=g_m _ hc.2.1;obtain ⟨v,hv⟩:∃v:Nat,P_ s.b=v:=⟨(P_ s.b).toNat,by omega⟩;have he:=hc.2.2.2;have hm:=hc.2.2.1
   simp only
   rw [hv] at he hm ⊢
   rw [i_n hn v (by omega),bd_some,he];simp
  ·cases h
 generalize c_z s=x at *
 obtain ⟨v,ok⟩:=x
 simp only at hp
 cases a_N s <;> cases (s.b==[42]) <;> cases (s.b==[63]) <;> cases (s.b==[43]) <;> first | rfl | (cases ok;rfl;simp only [bd2_some,fT_,bd_some,Bool.or_self,bF_,fF_,hp,Bool.or_true])
def a_m (sep:UInt8):List UInt8->List UInt8->List Str
 | [],cur=>[⟨cur⟩]
 | c::r,cur=>if c=sep then ⟨cur⟩::a_m sep r [] else a_m sep r (cur++[c])
theorem g_n (sep:UInt8):∀(l cur:List UInt8),1<=(a_m sep l cur).length/\(a_m sep l cur).length<=l.length+1
 | [],_=>by simp [a_m]
 | c::r,cur=>by
  unfold a_m
  split
  ·have:=g_n sep r [];simp;omega
  ·have:=g_n sep r<|cur++[c];simp;omega
theorem m_D (sep:UInt8):∀(s t cur:List UInt8),(∀c∈s,c ≠ sep)->a_m sep (s++t) cur=a_m sep t (cur++s)
 | [],t,cur,_=>by simp
 | c::s,t,cur,h=>by
  rw [List.cons_append,a_m,iN_<|h c mS_,m_D sep s t _<|fun c hc=>h c<|mT_ _ hc]
  simp
theorem r_5 {s:Str}{sep:UInt8}(hs:s.b.length<=MX):∀(m i st:Nat)(acc:List Str)(f:Nat),i+m=s.b.length->st<=i->acc.length<=i->m+2<=f ->
  ∃x y,a_i (σ:=(List Str)×Int×Int) (ρ:=List Str) (un3 fun H I G=>if (decide<|G<=(s.b.length:Int))=true then bd (α:=Bool) (if (G==(s.b.length:Int))=true then some true else bd (idx s.b G) fun J=>some<|(byteI J)==(byteI sep)) (fun L=>bd (α:=(List Str)×Int) (if L=true then bd (b_9 s I G) fun O=>bd (psh H O) fun V=>some (V,i_ G 1) else some (H,I))<|un2 fun W Y=>some<|.next (W,Y,i_ G 1)) else some (.brk (H,I,G))) f (acc,(st:Int),(i:Int))=some (.inl (acc++a_m sep (s.b.drop i) (a_5 s.b st i),x,y)):=by
 intro m
 induction m with
 | zero =>
  intro i st acc f hi hst hacc hf;have hMX:=MXv;obtain ⟨f,rfl⟩:∃g,f=g+2:=⟨f - 2,by omega⟩;have hi':i=s.b.length:=by omega
  unfold a_i
  simp only [un3]
  rw [dT_ (show (i:Int)<=(s.b.length:Int) by omega),show ((i:Int)==(s.b.length:Int))=true by rw [hi'];simp]
  simp only [fT_,bd_some]
  rw [show b_9 s (st:Int) (i:Int)=some ⟨a_5 s.b st i⟩ by unfold b_9;rw [d_q hst (by omega)];rfl,bd_some,b_v (by rw [a_G];omega),bd_some,bd_some]
  simp only []
  rw [ia_ (by omega) (by omega)]
  unfold a_i
  simp only [un3]
  rw [dF_ (show ¬(i:Int)+1<=(s.b.length:Int) by omega)]
  refine ⟨(i:Int)+1,(i:Int)+1,?_⟩
  rw [List.drop_eq_nil_of_le (by omega)]
  rfl
 | succ m ih =>
  intro i st acc f hi hst hacc hf;have hMX:=MXv;obtain ⟨f,rfl⟩:∃g,f=g+1:=⟨f - 1,by omega⟩;have hlt:i<s.b.length:=by omega
  unfold a_i
  simp only [un3]
  rw [dT_ (show (i:Int)<=(s.b.length:Int) by omega),show ((i:Int)==(s.b.length:Int))=false by simp;omega,ix_ hlt]
  simp only [fT_,bd_some,bF_,fF_]
  rw [dC_ hlt,a_m,beqB]
  by_cases hc:s.b[i]=sep
  ·rw [dT_ hc,iP_ hc]
   simp only [fT_]
   rw [show b_9 s (st:Int) (i:Int)=some ⟨a_5 s.b st i⟩ by unfold b_9;rw [d_q hst (by omega)];rfl,bd_some,b_v (by rw [a_G];omega),bd_some,bd_some]
   simp only
   rw [ia_ (by omega) (by omega),show (i:Int)+1=((i+1:Nat):Int) by omega]
   obtain ⟨x,y,h⟩:=ih (i+1) (i+1) (acc++[⟨a_5 s.b st i⟩]) f (by omega) (Nat.le_refl _) (by simp;omega) (by omega);refine ⟨x,y,h.trans ?_⟩;have:a_5 s.b (i+1) (i+1)=[]:=by unfold a_5;simp
   rw [this];simp
  ·rw [dF_ hc,iN_ hc]
   simp only [bF_,fF_,bd_some,un2]
   rw [ia_ (by omega) (by omega),show (i:Int)+1=((i+1:Nat):Int) by omega]
   obtain ⟨x,y,h⟩:=ih (i+1) st acc f (by omega) (by omega) (by omega) (by omega);refine ⟨x,y,h.trans ?_⟩
   have:a_5 s.b st (i+1)=a_5 s.b st i++[s.b[i]]:=by
    unfold a_5
    rw [e_D hlt,List.drop_append_of_le_length (by simp;omega)]
   rw [this]
theorem r_6 {n:Nat}{s:Str}{sep:UInt8}(hs:s.b.length<=MX)(hn:s.b.length+2<=n):g_E n s sep=some (a_m sep s.b []):=by
 unfold g_E;obtain ⟨x,y,h⟩:=r_5 (sep:=sep) hs s.b.length 0 0 [] n (by omega) (Nat.le_refl _) (by simp) (by omega);have h':=h
 simp only [Int.natCast_zero] at h'
 rw [h',bd_some,el_inl]
 simp [un3,a_5]
def f_o (s:Str):List Str×Bool:=if s.b=[] then ([],true) else if (a_m 47 s.b []).head? = some ⟨[]⟩/\(a_m 47 s.b []).tail.all b_Q=true then ((a_m 47 s.b []).tail,decide<|1<(a_m 47 s.b []).length) else ([],false)
theorem r_7 {n:Nat}(hn:30<=n){s:Str}(hs:s.b.length<=MX)(L:s.b.length+2<=n):g_G n s=some (f_o s):=by
 unfold g_G f_o
 by_cases H:s.b=[]
 ·rw [H];rfl
 rw [show (s.b==(⟨[]⟩:Str).b)=false by simpa using H,iN_ H,r_6 hs L]
 simp only [bF_,fF_,bd_some]
 have hl:=g_n 47 s.b [];generalize a_m 47 s.b []=l at *
 match l,hl with
 | a::l,hl =>
  rw [b_u (by simp),bd_some]
  simp only [List.getElem_cons_zero,List.head?_cons,List.tail_cons,oI_]
  by_cases ha:a.b=[]
  ·have ha':a=⟨[]⟩:=by cases a;simpa using ha
   rw [iN_ (show ¬(a.b != [])=true by simpa using ha)]
   by_cases hall:l.all b_Q=true
   ·rw [iP_ ⟨ha',hall⟩]
    have:=k_W (σ:=Int) (ρ:=(List Str)×Bool) (step:=fun G=>if (decide<|G<((a::l).length:Int))=true then bd (idx (a::l) G) fun I=>bd (e_O n I) fun J=>if (!J)=true then some (.ret (([]:List Str),false)) else some (.next<|i_ G 1) else some (.brk G))
     (fun j=>((j+1:Nat):Int)) (s:=((l.length+1:Nat):Int)) (m:=n) (j0:=l.length) (by simp at hl;omega) (fun j hj=>by
      have hMX:=MXv
      simp at hl
      rw [dT_ (by simp;omega),ix_ (by simp;omega)]
      simp only [fT_,bd_some,List.getElem_cons_succ,k_x hn,List.all_eq_true.1 hall _<|gE_ hj,nT_,bF_,fF_]
      rw [ia_ (by omega) (by omega)];rfl) (by
      rw [dF_ (by simp)];rfl)
    simp only [Nat.zero_add,Int.natCast_one] at this
    rw [this,bd_some,el_inl]
    rw [show slc (a::l) 1 ((a::l).length:Int)=some l by rw [g_v (by omega) (by simp;omega) (by omega)];simp]
    simp
    omega
   ·rw [iN_ (fun h=>hall h.2)]
    obtain ⟨j,hj,hjb,hjl⟩:∃j,∃hj:j<l.length,b_Q l[j]=false/\∀i (hi:i<j),b_Q (l[i]'(by omega))=true:=by
     clear L hs hl H
     induction l with
     | nil=>simp at hall
     | cons c l ih =>
      by_cases hc:b_Q c=true
      ·obtain ⟨j,hj,h1,h2⟩:=ih (by simpa [hc] using hall);refine ⟨j+1,by simp;omega,by simpa using h1,fun i hi=>?_⟩
       cases i with
       | zero=>simpa using hc
       | succ i=>simpa using h2 i (by omega)
      ·exact ⟨0,by simp,by simpa using hc,fun i hi=>by omega⟩
    have:=k_X (σ:=Int) (ρ:=(List Str)×Bool) (step:=fun G=>if (decide<|G<((a::l).length:Int))=true then bd (idx (a::l) G) fun I=>bd (e_O n I) fun J=>if (!J)=true then some (.ret (([]:List Str),false)) else some (.next<|i_ G 1) else some (.brk G))
     (fun j=>((j+1:Nat):Int)) (r:=(([]:List Str),false)) (m:=n) (j0:=j) (by simp at hl;omega) (fun i hi=>by
      have hMX:=MXv
      simp at hl
      rw [dT_ (by simp;omega),ix_ (by simp;omega)]
      simp only [fT_,bd_some,List.getElem_cons_succ,k_x hn,hjl i hi,nT_,bF_,fF_]
      rw [ia_ (by omega) (by omega)];rfl) (by
      rw [dT_ (by simp;omega),ix_ (by simp;omega)]
      simp only [fT_,bd_some,List.getElem_cons_succ,k_x hn,hjb,Bool.not_false])
    simp only [Nat.zero_add,Int.natCast_one] at this
    rw [this,bd_some,el_inr]
  ·rw [iP_ (show (a.b != [])=true by simpa using ha),iN_<|fun h=>ha (by rw [h.1])]
end Go.Vw
