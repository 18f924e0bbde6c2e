
import Derived.Test.YtnncfaaebnkcbaaGreatDoorVwP11
namespace Go.Vw
open Go.RowKit Dat
def c_e (a:Int)(c:UInt8):Int:=10 * a+(byteI c - 48)
def S_ (l:List UInt8):Int:=l.foldl c_e 0
theorem i_n {x:Nat}(h:x<256):byteI (UInt8.ofNat x)=x:=by
 unfold byteI;simp [UInt8.toNat_ofNat'];omega
theorem p_O (x:Nat):∀c∈Lib.decDigits x,48<=byteI c/\byteI c<=57:=by
 induction x using Nat.strongRecOn with
 | _ x ih =>
  intro c hc
  rw [Lib.decDigits] at hc
  split at hc
  ·simp only [List.mem_singleton] at hc
   subst hc
   rw [i_n (by omega)];omega
  ·simp only [List.mem_append,List.mem_singleton] at hc
   rcases hc with hc | rfl
   ·exact ih (x / 10) (by omega) c hc
   ·rw [i_n (by omega)];omega
theorem p_P (x:Nat):S_ (Lib.decDigits x)=x:=by
 induction x using Nat.strongRecOn with
 | _ x ih =>
  rw [Lib.decDigits]
  split
  ·simp only [S_,List.foldl_cons,List.foldl_nil,c_e]
   rw [i_n (by omega)];omega
  ·unfold S_ at *
   rw [List.foldl_append,ih (x / 10) (by omega)]
   simp only [List.foldl_cons,List.foldl_nil,c_e]
   rw [i_n (by omega)];omega
theorem m_g (k:Nat):∀x,x<10 ^ (k+1)->1<=(Lib.decDigits x).length/\(Lib.decDigits x).length<=k+1:=by
 induction k with
 | zero=>intro x h;rw [Lib.decDigits,dif_pos (by omega)];simp
 | succ k ih =>
  intro x h
  rw [Lib.decDigits]
  split
  ·simp
  ·have:=ih (x / 10) (by rw [Nat.pow_succ] at h;omega)
   simp;omega
theorem g_B (x:Nat):Lib.itoa x=Lib.decDigits x:=by unfold Lib.itoa;rw [iN_ (by omega)];simp
theorem m_h {n:Nat}(hn:30<=n)(i:Nat)(hi:i<=1000000000000):c_R n i=some ⟨Lib.itoa i⟩:=by
 unfold c_R Lib.itoa
 rw [iN_ (show ¬(i:Int)<0 by omega)]
 by_cases G:i=0
 ·subst G
  rw [show ((((0:Nat):Int)).toNat)=0 from rfl,Lib.decDigits,dif_pos (by omega)]
  rfl
 ·rw [show ((i:Int)==0)=false by simp;omega]
  simp only [bF_,fF_]
  rw [k_7 20 i (by omega) (by omega) (by omega) ⟨[]⟩ n (by omega) (by simp),dF_ (show ¬(i:Int)<0 by omega)]
  simp
theorem g_C (l:List UInt8)(h:∀c∈l,a_J c=true):0<=S_ l/\S_ l<10 ^ l.length:=by
 have key:∀(l:List UInt8)(a:Int),(∀c∈l,a_J c=true)->0<=a->0<=l.foldl c_e a/\l.foldl c_e a<(a+1) * 10 ^ l.length:=by
  intro l
  induction l with
  | nil=>intro a _ G;simp;omega
  | cons c l ih =>
   intro a h G;have hc:=h c mS_
   rw [e_1] at hc
   simp only [aE_,dE_] at hc
   have hb:byteI c=(c.toNat:Int):=rfl;have:=ih (c_e a c) (fun c hc=>h c<|mT_ _ hc) (by unfold c_e;omega);refine ⟨this.1,Int.lt_of_lt_of_le this.2 ?_⟩
   rw [lC_,Int.pow_succ,← Int.mul_assoc,Int.mul_assoc,Int.mul_comm ((10:Int) ^ l.length) 10,← Int.mul_assoc]
   refine Int.mul_le_mul_of_nonneg_right ?_<|Int.le_of_lt<|Int.pow_pos (by decide);unfold c_e;omega
 have:=key l 0 h<|Int.le_refl 0
 simpa [S_] using this
theorem c_o {α:Type}{l:List α}{k:Nat}(h:k<l.length):l.take (k+1)=l.take k++[l[k]]:=by rw [List.take_add_one,gG_ h];rfl
def c_J (s:Str):Int×Bool:=if (1<=s.b.length/\s.b.length<=13)/\(∀c∈s.b,a_J c=true)/\S_ s.b<=1000000000000/\Lib.itoa (S_ s.b)=s.b then (S_ s.b,true) else (0,false)
theorem j_P {s:Str}(h:(1<=s.b.length/\s.b.length<=13)/\(∀c∈s.b,a_J c=true)/\S_ s.b<=1000000000000/\Lib.itoa (S_ s.b)=s.b):c_J s=(S_ s.b,true):=iP_ h
theorem d_t {s:Str}(h:¬((1<=s.b.length/\s.b.length<=13)/\(∀c∈s.b,a_J c=true)/\S_ s.b<=1000000000000/\Lib.itoa (S_ s.b)=s.b)):c_J s=(0,false):=iN_ h
theorem m_i {c:UInt8}(h:a_J c=true):byteI (mkB<|byteI c - byteI (48:UInt8))=byteI c - 48:=by
 rw [e_1] at h
 simp only [aE_,dE_] at h
 have hb:byteI c=(c.toNat:Int):=rfl;have G:byteI (48:UInt8)=48:=rfl
 rw [j_c,G]
 unfold IntKind.wrap
 simp [IntKind.bits,IntKind.signed]
 omega
theorem p_Q {n:Nat}(hn:30<=n)(s:Str):g_Z n s=some (c_J s):=by
 unfold g_Z
 rw [b_r,bd_some]
 by_cases hl:1<=s.b.length/\s.b.length<=13
 ·rw [dT_ (show (1:Int)<=(s.b.length:Int) by omega),dT_ (show (s.b.length:Int)<=13 by omega)]
  simp only [Bool.and_self,nT_,bF_,fF_]
  have hp:∀k,k<=s.b.length->(∀c∈s.b.take k,a_J c=true)->0<=S_ (s.b.take k)/\S_ (s.b.take k)<10 ^ 13:=fun k hk hd=>by
   have:=g_C _ hd;refine ⟨this.1,Int.lt_of_lt_of_le this.2 ?_⟩
   exact_mod_cast Nat.pow_le_pow_right (by decide) (by simp;omega)
  rcases c_I (σ:=Int) (ρ:=Int×Bool) (I:=fun k x=>x=S_ (s.b.take k)/\∀c∈s.b.take k,a_J c=true) (R:=fun r=>r=(0,false)/\¬∀c∈s.b,a_J c=true)
   (body:=fun G=>(fun O=>bd (idx s.b ((G:Nat):Int)) fun H=>bd (a_L (byteI H) 48 57) fun J=>if (!J)=true then some (.ret (0,false)) else bd (idx s.b ((G:Nat):Int)) fun L=>some<|.next<|i_ (a_m 10 O)<|byteI<|mkB<|byteI L - byteI (48:UInt8))) (n:=s.b.length)
   (fun k x hk ⟨hx,hd⟩=>by
    subst hx
    simp only [ix_ hk,bd_some,b_r]
    have he:(decide (48<=byteI s.b[k]) && decide (byteI s.b[k]<=57))=a_J s.b[k]:=rfl
    rw [he]
    by_cases hc:a_J s.b[k]=true
    ·left
     rw [hc]
     simp only [nT_,bF_,fF_]
     have h1:=hp k (by omega) hd;have h2:=hc
     rw [e_1] at h2
     simp only [aE_,dE_] at h2
     have hb:byteI s.b[k]=(s.b[k].toNat:Int):=rfl
     rw [m_i hc,g_K (by omega) (by omega),ia_ (by omega) (by omega)]
     refine ⟨_,rfl,?_,?_⟩
     ·unfold S_;rw [e_4 _ _ hk];rfl
     ·intro c hcm
      rw [c_o hk] at hcm
      simp only [List.mem_append,List.mem_singleton] at hcm
      rcases hcm with hcm | rfl
      ·exact hd c hcm
      ·exact hc
    ·right
     rw [show a_J s.b[k]=false by simpa using hc]
     exact ⟨_,rfl,rfl,fun h=>hc (h _ (gE_ hk))⟩) s.b.length 0 0 (by omega) ⟨rfl,by simp⟩ with ⟨x,h1,h2,h3⟩ | ⟨r,h1,rfl,h3⟩
  ·rw [h1,bd_some,el_inl]
   rw [List.take_length] at h2 h3
   subst h2;have hb:=hp s.b.length (Nat.le_refl _) (by rw [List.take_length];exact h3)
   rw [List.take_length] at hb
   by_cases hm:S_ s.b<=1000000000000
   ·obtain ⟨v,hv⟩:∃v:Nat,S_ s.b=v:=⟨(S_ s.b).toNat,by omega⟩;have hf:c_R n (S_ s.b)=some ⟨Lib.itoa<|S_ s.b⟩:=by rw [hv];exact m_h hn v (by omega)
    rw [dF_ (show ¬1000000000000<S_ s.b by omega),hf]
    simp only [bF_,fF_,bd_some]
    by_cases he:Lib.itoa (S_ s.b)=s.b
    ·rw [j_P ⟨hl,h3,by omega,he⟩,show (Lib.itoa (S_ s.b) != s.b)=false by simpa using he];rfl
    ·rw [d_t (fun h=>he h.2.2.2),show (Lib.itoa (S_ s.b) != s.b)=true by simpa using he];rfl
   ·rw [dT_ (show 1000000000000<S_ s.b by omega),d_t<|fun h=>hm h.2.2.1];rfl
  ·rw [h1,bd_some,el_inr,d_t<|fun h=>h3 h.2.1]
 ·rw [d_t (fun h=>hl h.1)]
  have:(decide ((1:Int)<=(s.b.length:Int)) && decide ((s.b.length:Int)<=13))=false:=by
   rw [Bool.and_eq_false_iff]
   simp only [decide_eq_false_iff_not]
   omega
  rw [this];rfl
theorem p_R {c:UInt8}(h:48<=byteI c/\byteI c<=57):a_J c=true:=by
 rw [e_1]
 simp only [aE_,dE_];exact h
theorem p_S (i:Nat)(hi:i<=1000000000000):c_J ⟨Lib.itoa i⟩=((i:Int),true):=by
 have hv:S_ (Lib.itoa i)=i:=by rw [g_B,p_P]
 have:=m_g 12 i (by omega)
 rw [j_P (s:=⟨Lib.itoa i⟩) ⟨by simp only [g_B];omega,fun c hc=>p_R<|p_O i c (by simpa only [g_B] using hc),by simp only [hv];omega,by simp only [hv]⟩]
 simp only [hv]
def c_K (s:Str):Bool:=(b_l s || (s.b==[42] || (s.b==[63] || s.b==[43]))) || (c_J s).2
theorem j_Q {n:Nat}(hn:30<=n)(s:Str):f_5 n s=some (c_K s):=by
 unfold f_5 c_K
 rw [j_C,bd_some,p_Q hn]
 have hp:(c_J s).2=true->bd (c_R n (c_J s).1) (fun G=>some<|G.b==s.b)=some true:=fun h=>by
  unfold c_J at h ⊢
  split at h
  ·rename_i hc
   rw [iP_ hc]
   have hb:=g_C _ hc.2.1;obtain ⟨v,hv⟩:∃v:Nat,S_ s.b=v:=⟨(S_ s.b).toNat,by omega⟩;have he:=hc.2.2.2;have hm:=hc.2.2.1
   simp only
   rw [hv] at he hm ⊢
   rw [m_h hn v (by omega),bd_some,he];simp
  ·cases h
 generalize c_J s=x at *
 obtain ⟨v,ok⟩:=x
 simp only at hp
 cases b_l s <;> cases (s.b==[42]) <;> cases (s.b==[63]) <;> cases (s.b==[43]) <;> first | rfl | (cases ok;rfl;simp only [bd2_some,fT_,bd_some,Bool.or_self,bF_,fF_,hp,Bool.or_true])
def a_G (sep:UInt8):List UInt8->List UInt8->List Str
 | [],cur=>[⟨cur⟩]
 | c::r,cur=>if c=sep then ⟨cur⟩::a_G sep r [] else a_G sep r (cur++[c])
theorem f_z (sep:UInt8):∀(l cur:List UInt8),1<=(a_G sep l cur).length/\(a_G sep l cur).length<=l.length+1
 | [],_=>by simp [a_G]
 | c::r,cur=>by
  unfold a_G
  split
  ·have:=f_z sep r [];simp;omega
  ·have:=f_z sep r<|cur++[c];simp;omega
theorem p_T {s:Str}{sep:UInt8}(hs:s.b.length<=MX):∀(m i st:Nat)(acc:List Str)(f:Nat),i+m=s.b.length->st<=i->acc.length<=i->m+2<=f ->
  ∃x y,H_ (σ:=(List Str)×Int×Int) (ρ:=List Str) (un3 fun H I G=>if (decide<|G<=(s.b.length:Int))=true then bd (α:=Bool) (if (G==(s.b.length:Int))=true then some true else bd (idx s.b G) fun J=>some<|(byteI J)==(byteI sep)) (fun L=>bd (α:=(List Str)×Int) (if L=true then bd (b_u s I G) fun O=>bd (psh H O) fun V=>some (V,i_ G 1) else some (H,I))<|un2 fun W Y=>some<|.next (W,Y,i_ G 1)) else some (.brk (H,I,G))) f (acc,(st:Int),(i:Int))=some (.inl (acc++a_G sep (s.b.drop i) (a_i s.b st i),x,y)):=by
 intro m
 induction m with
 | zero =>
  intro i st acc f hi hst hacc hf;have hMX:=MXv;obtain ⟨f,rfl⟩:∃g,f=g+2:=⟨f - 2,by omega⟩;have hi':i=s.b.length:=by omega
  unfold H_
  simp only [un3]
  rw [dT_ (show (i:Int)<=(s.b.length:Int) by omega),show ((i:Int)==(s.b.length:Int))=true by rw [hi'];simp]
  simp only [fT_,bd_some]
  rw [show b_u s (st:Int) (i:Int)=some ⟨a_i s.b st i⟩ by unfold b_u;rw [d_v hst (by omega)];rfl,bd_some,a_Z (by rw [a_k];omega),bd_some,bd_some]
  simp only []
  rw [ia_ (by omega) (by omega)]
  unfold H_
  simp only [un3]
  rw [dF_ (show ¬(i:Int)+1<=(s.b.length:Int) by omega)]
  refine ⟨(i:Int)+1,(i:Int)+1,?_⟩
  rw [List.drop_eq_nil_of_le (by omega)]
  rfl
 | succ m ih =>
  intro i st acc f hi hst hacc hf;have hMX:=MXv;obtain ⟨f,rfl⟩:∃g,f=g+1:=⟨f - 1,by omega⟩;have hlt:i<s.b.length:=by omega
  unfold H_
  simp only [un3]
  rw [dT_ (show (i:Int)<=(s.b.length:Int) by omega),show ((i:Int)==(s.b.length:Int))=false by simp;omega,ix_ hlt]
  simp only [fT_,bd_some,bF_,fF_]
  rw [dC_ hlt,a_G,beqB]
  by_cases hc:s.b[i]=sep
  ·rw [dT_ hc,iP_ hc]
   simp only [fT_]
   rw [show b_u s (st:Int) (i:Int)=some ⟨a_i s.b st i⟩ by unfold b_u;rw [d_v hst (by omega)];rfl,bd_some,a_Z (by rw [a_k];omega),bd_some,bd_some]
   simp only
   rw [ia_ (by omega) (by omega),show (i:Int)+1=((i+1:Nat):Int) by omega]
   obtain ⟨x,y,h⟩:=ih (i+1) (i+1) (acc++[⟨a_i s.b st i⟩]) f (by omega) (Nat.le_refl _) (by simp;omega) (by omega);refine ⟨x,y,h.trans ?_⟩;have:a_i s.b (i+1) (i+1)=[]:=by unfold a_i;simp
   rw [this];simp
  ·rw [dF_ hc,iN_ hc]
   simp only [bF_,fF_,bd_some,un2]
   rw [ia_ (by omega) (by omega),show (i:Int)+1=((i+1:Nat):Int) by omega]
   obtain ⟨x,y,h⟩:=ih (i+1) st acc f (by omega) (by omega) (by omega) (by omega);refine ⟨x,y,h.trans ?_⟩
   have:a_i s.b st (i+1)=a_i s.b st i++[s.b[i]]:=by
    unfold a_i
    rw [c_o hlt,List.drop_append_of_le_length (by simp;omega)]
   rw [this]
theorem p_U {n:Nat}{s:Str}{sep:UInt8}(hs:s.b.length<=MX)(hn:s.b.length+2<=n):g_Y n s sep=some (a_G sep s.b []):=by
 unfold g_Y;obtain ⟨x,y,h⟩:=p_T (sep:=sep) hs s.b.length 0 0 [] n (by omega) (Nat.le_refl _) (by simp) (by omega);have h':=h
 simp only [Int.natCast_zero] at h'
 rw [h',bd_some,el_inl]
 simp [un3,a_i]
def e_P (s:Str):List Str×Bool:=if s.b=[] then ([],true) else if (a_G 47 s.b []).head? = some ⟨[]⟩/\(a_G 47 s.b []).tail.all c_K=true then ((a_G 47 s.b []).tail,decide<|1<(a_G 47 s.b []).length) else ([],false)
theorem p_V {n:Nat}(hn:30<=n){s:Str}(hs:s.b.length<=MX)(L:s.b.length+2<=n):f_N n s=some (e_P s):=by
 unfold f_N e_P
 by_cases H:s.b=[]
 ·rw [H];rfl
 rw [show (s.b==(⟨[]⟩:Str).b)=false by simpa using H,iN_ H,p_U hs L]
 simp only [bF_,fF_,bd_some]
 have hl:=f_z 47 s.b [];generalize a_G 47 s.b []=l at *
 match l,hl with
 | a::l,hl =>
  rw [b_8 (by simp),bd_some]
  simp only [List.getElem_cons_zero,List.head?_cons,List.tail_cons,oI_]
  by_cases ha:a.b=[]
  ·have ha':a=⟨[]⟩:=by cases a;simpa using ha
   rw [iN_ (show ¬(a.b != [])=true by simpa using ha)]
   by_cases hall:l.all c_K=true
   ·rw [iP_ ⟨ha',hall⟩]
    have:=i_B (σ:=Int) (ρ:=(List Str)×Bool) (step:=fun G=>if (decide<|G<((a::l).length:Int))=true then bd (idx (a::l) G) fun I=>bd (f_5 n I) fun J=>if (!J)=true then some (.ret (([]:List Str),false)) else some (.next<|i_ G 1) else some (.brk G))
     (fun j=>((j+1:Nat):Int)) (s:=((l.length+1:Nat):Int)) (m:=n) (j0:=l.length) (by simp at hl;omega) (fun j hj=>by
      have hMX:=MXv
      simp at hl
      rw [dT_ (by simp;omega),ix_ (by simp;omega)]
      simp only [fT_,bd_some,List.getElem_cons_succ,j_Q hn,List.all_eq_true.1 hall _<|gE_ hj,nT_,bF_,fF_]
      rw [ia_ (by omega) (by omega)];rfl) (by
      rw [dF_ (by simp)];rfl)
    simp only [Nat.zero_add,Int.natCast_one] at this
    rw [this,bd_some,el_inl]
    rw [show slc (a::l) 1 ((a::l).length:Int)=some l by rw [e_X (by omega) (by simp;omega) (by omega)];simp]
    simp
    omega
   ·rw [iN_ (fun h=>hall h.2)]
    obtain ⟨j,hj,hjb,hjl⟩:∃j,∃hj:j<l.length,c_K l[j]=false/\∀i (hi:i<j),c_K (l[i]'(by omega))=true:=by
     clear L hs hl H
     induction l with
     | nil=>simp at hall
     | cons c l ih =>
      by_cases hc:c_K c=true
      ·obtain ⟨j,hj,h1,h2⟩:=ih (by simpa [hc] using hall);refine ⟨j+1,by simp;omega,by simpa using h1,fun i hi=>?_⟩
       cases i with
       | zero=>simpa using hc
       | succ i=>simpa using h2 i (by omega)
      ·exact ⟨0,by simp,by simpa using hc,fun i hi=>by omega⟩
    have:=m_T (σ:=Int) (ρ:=(List Str)×Bool) (step:=fun G=>if (decide<|G<((a::l).length:Int))=true then bd (idx (a::l) G) fun I=>bd (f_5 n I) fun J=>if (!J)=true then some (.ret (([]:List Str),false)) else some (.next<|i_ G 1) else some (.brk G))
     (fun j=>((j+1:Nat):Int)) (r:=(([]:List Str),false)) (m:=n) (j0:=j) (by simp at hl;omega) (fun i hi=>by
      have hMX:=MXv
      simp at hl
      rw [dT_ (by simp;omega),ix_ (by simp;omega)]
      simp only [fT_,bd_some,List.getElem_cons_succ,j_Q hn,hjl i hi,nT_,bF_,fF_]
      rw [ia_ (by omega) (by omega)];rfl) (by
      rw [dT_ (by simp;omega),ix_ (by simp;omega)]
      simp only [fT_,bd_some,List.getElem_cons_succ,j_Q hn,hjb,Bool.not_false])
    simp only [Nat.zero_add,Int.natCast_one] at this
    rw [this,bd_some,el_inr]
  ·rw [iP_ (show (a.b != [])=true by simpa using ha),iN_<|fun h=>ha (by rw [h.1])]
end Go.Vw
