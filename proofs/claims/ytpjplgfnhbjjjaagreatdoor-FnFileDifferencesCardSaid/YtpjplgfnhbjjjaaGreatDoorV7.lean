
import Derived.Test.YtpjplgfnhbjjjaaGreatDoorV6
namespace Go.Vw
open Go.RowKit Dat
def c_V (a:Int)(c:UInt8):Int:=10 * a+(byteI c - 48)
def a_3 (l:Bt):Int:=l.foldl c_V 0
theorem k_8 {x:Nat}(h:x<256):byteI (UInt8.ofNat x)=x:=by
 unfold byteI;simp [UInt8.toNat_ofNat'];omega
theorem o_i (x:Nat):∀c∈Lib.decDigits x,48<=byteI c/\byteI c<=57:=by
 induction x using Nat.strongRecOn with
 | _ x ih =>
  intro c hc
  rw [Lib.decDigits] at hc
  split at hc
  .simp only [List.mem_singleton] at hc
   subst hc
   rw [k_8 (by omega)];omega
  .simp only [List.mem_append,List.mem_singleton] at hc
   rcases hc with hc | rfl
   .exact ih (x / 10) (by omega) c hc
   .rw [k_8 (by omega)];omega
theorem l_o (x:Nat):a_3 (Lib.decDigits x)=x:=by
 induction x using Nat.strongRecOn with
 | _ x ih =>
  rw [Lib.decDigits]
  split
  .simp only [a_3,List.foldl_cons,List.foldl_nil,c_V]
   rw [k_8 (by omega)];omega
  .unfold a_3 at *
   rw [List.foldl_append,ih (x / 10) (by omega)]
   simp only [List.foldl_cons,List.foldl_nil,c_V]
   rw [k_8 (by omega)];omega
theorem l_p (k:Nat):∀x,x<10 ^ (k+1)->1<=(Lib.decDigits x).length/\(Lib.decDigits x).length<=k+1:=by
 induction k with
 | zero=>intro x h;rw [Lib.decDigits,dif_pos (by omega)];simp
 | succ k ih =>
  intro x h
  rw [Lib.decDigits]
  split
  .simp
  .have:=ih (x / 10) (by rw [Nat.pow_succ] at h;omega)
   simp;omega
theorem e_B (x:Nat):Lib.itoa x=Lib.decDigits x:=by unfold Lib.itoa;rw [iN_ (by omega)];simp
theorem r_P {x y:Nat}(h:Lib.itoa x=Lib.itoa y):x=y:=by
 have:=congrArg a_3 h
 rw [e_B,e_B,l_o,l_o] at this
 omega
theorem k_9 {n:Nat}(hn:30<=n)(i:Nat)(hi:i<=1000000000000):c_4 n i=some ⟨Lib.itoa i⟩:=by
 unfold c_4 Lib.itoa
 rw [iN_ (show ¬(i:Int)<0 by omega)]
 by_cases G:i=0
 .subst G
  rw [show ((((0:Nat):Int)).toNat)=0 from rfl,Lib.decDigits,dif_pos (by omega)]
  rfl
 .rw [show ((i:Int)==0)=false by simp;omega]
  simp only [bF_,fF_]
  rw [l_Q 20 i (by omega) (by omega) (by omega) ⟨[]⟩ n (by omega) (by simp),dF_ (show ¬(i:Int)<0 by omega)]
  simp
theorem i_v (l:Bt)(h:∀c∈l,a_N c=true):0<=a_3 l/\a_3 l<10 ^ l.length:=by
 have key:∀(l:Bt)(a:Int),(∀c∈l,a_N c=true)->0<=a->0<=l.foldl c_V a/\l.foldl c_V a<(a+1) * 10 ^ l.length:=by
  intro l
  induction l with
  | nil=>intro a _ G;simp;omega
  | cons c l ih =>
   intro a h G;have hc:=h c mS_
   rw [f_q] at hc
   simp only [aE_,dE_] at hc
   have hb:byteI c=(c.toNat:Int):=rfl;have:=ih (c_V a c) (λc hc=>h c<|mT_ _ hc) (by unfold c_V;omega);refine ⟨this.1,Int.lt_of_lt_of_le this.2 ?_⟩
   rw [lC_,Int.pow_succ,← Int.mul_assoc,Int.mul_assoc,Int.mul_comm ((10:Int) ^ l.length) 10,← Int.mul_assoc]
   refine Int.mul_le_mul_of_nonneg_right ?_<|Int.le_of_lt<|Int.pow_pos (by decide);unfold c_V;omega
 have:=key l 0 h<|Int.le_refl 0
 simpa [a_3] using this
theorem d_F {α:Type}{l:List α}{k:Nat}(h:k<l.length):l.take (k+1)=l.take k++[l[k]]:=by rw [List.take_add_one,gG_ h];rfl
def d_i (s:Str):Int×Bool:=if (1<=s.b.length/\s.b.length<=13)/\(∀c∈s.b,a_N c=true)/\a_3 s.b<=1000000000000/\Lib.itoa (a_3 s.b)=s.b then (a_3 s.b,true) else (0,false)
theorem l_q {s:Str}(h:(1<=s.b.length/\s.b.length<=13)/\(∀c∈s.b,a_N c=true)/\a_3 s.b<=1000000000000/\Lib.itoa (a_3 s.b)=s.b):d_i s=(a_3 s.b,true):=iP_ h
theorem e_C {s:Str}(h:¬((1<=s.b.length/\s.b.length<=13)/\(∀c∈s.b,a_N c=true)/\a_3 s.b<=1000000000000/\Lib.itoa (a_3 s.b)=s.b)):d_i s=(0,false):=iN_ h
theorem o_j {c:UInt8}(h:a_N c=true):byteI (mkB<|byteI c - byteI (48:UInt8))=byteI c - 48:=by
 rw [f_q] at h
 simp only [aE_,dE_] at h
 have hb:byteI c=(c.toNat:Int):=rfl;have G:byteI (48:UInt8)=48:=rfl
 rw [l_0,G]
 unfold IntKind.wrap
 simp [IntKind.bits,IntKind.signed]
 omega
theorem r_Q {n:Nat}(hn:30<=n)(s:Str):j_2 n s=some (d_i s):=by
 unfold j_2
 rw [b_L,bd_some]
 by_cases hl:1<=s.b.length/\s.b.length<=13
 .rw [dT_ (show (1:Int)<=(s.b.length:Int) by omega),dT_ (show (s.b.length:Int)<=13 by omega)]
  simp only [Bool.and_self,nT_,bF_,fF_]
  have hp:∀k,k<=s.b.length->(∀c∈s.b.take k,a_N c=true)->0<=a_3 (s.b.take k)/\a_3 (s.b.take k)<10 ^ 13:=λk hk hd=>by
   have:=i_v _ hd;refine ⟨this.1,Int.lt_of_lt_of_le this.2 ?_⟩
   exact_mod_cast Nat.pow_le_pow_right (by decide) (by simp;omega)
  rcases c_U (σ:=Int) (ρ:=Int×Bool) (I:=λk x=>x=a_3 (s.b.take k)/\∀c∈s.b.take k,a_N c=true) (R:=λr=>r=(0,false)/\¬∀c∈s.b,a_N c=true)
   (body:=λG=>(λO=>bd (idx s.b ((G:Nat):Int)) λH=>bd (a_W (byteI H) 48 57) λJ=>if (!J) then some (.ret (0,false)) else bd (idx s.b ((G:Nat):Int)) λL=>some<|.next<|i_ (W_ 10 O)<|byteI<|mkB<|byteI L - byteI (48:UInt8))) (n:=s.b.length)
   (λk x hk ⟨hx,hd⟩=>by
    subst hx
    simp only [ix_ hk,bd_some,b_L]
    have he:(decide (48<=byteI s.b[k]) && decide (byteI s.b[k]<=57))=a_N s.b[k]:=rfl
    rw [he]
    by_cases hc:a_N s.b[k]=true
    .left
     rw [hc]
     simp only [nT_,bF_,fF_]
     have h1:=hp k (by omega) hd;have h2:=hc
     rw [f_q] at h2
     simp only [aE_,dE_] at h2
     have hb:byteI s.b[k]=(s.b[k].toNat:Int):=rfl
     rw [o_j hc,e_a (by omega) (by omega),ia_ (by omega) (by omega)]
     refine ⟨_,rfl,?_,?_⟩
     .unfold a_3;rw [f_u _ _ hk];rfl
     .intro c hcm
      rw [d_F hk] at hcm
      simp only [List.mem_append,List.mem_singleton] at hcm
      rcases hcm with hcm | rfl
      .exact hd c hcm
      .exact hc
    .right
     rw [show a_N s.b[k]=false by simpa using hc]
     exact ⟨_,rfl,rfl,λh=>hc (h _ (gE_ hk))⟩) s.b.length 0 0 (by omega) ⟨rfl,by simp⟩ with ⟨x,h1,h2,h3⟩ | ⟨r,h1,rfl,h3⟩
  .rw [h1,bd_some,el_inl]
   rw [List.take_length] at h2 h3
   subst h2;have hb:=hp s.b.length (Nat.le_refl _) (by rw [List.take_length];exact h3)
   rw [List.take_length] at hb
   by_cases hm:a_3 s.b<=1000000000000
   .obtain ⟨v,hv⟩:∃v:Nat,a_3 s.b=v:=⟨(a_3 s.b).toNat,by omega⟩;have hf:c_4 n (a_3 s.b)=some ⟨Lib.itoa<|a_3 s.b⟩:=by rw [hv];exact k_9 hn v (by omega)
    rw [dF_ (show ¬1000000000000<a_3 s.b by omega),hf]
    simp only [bF_,fF_,bd_some]
    by_cases he:Lib.itoa (a_3 s.b)=s.b
    .rw [l_q ⟨hl,h3,by omega,he⟩,show (Lib.itoa (a_3 s.b) != s.b)=false by simpa using he];rfl
    .rw [e_C (λh=>he h.2.2.2),show (Lib.itoa (a_3 s.b) != s.b)=true by simpa using he];rfl
   .rw [dT_ (show 1000000000000<a_3 s.b by omega),e_C<|λh=>hm h.2.2.1];rfl
  .rw [h1,bd_some,el_inr,e_C<|λh=>h3 h.2.1]
 .rw [e_C (λh=>hl h.1)]
  have:(decide ((1:Int)<=(s.b.length:Int)) && decide ((s.b.length:Int)<=13))=false:=by
   rw [Bool.and_eq_false_iff]
   simp only [decide_eq_false_iff_not]
   omega
  rw [this];rfl
theorem r_R {c:UInt8}(h:48<=byteI c/\byteI c<=57):a_N c=true:=by
 rw [f_q]
 simp only [aE_,dE_];exact h
theorem o_k (i:Nat)(hi:i<=1000000000000):d_i ⟨Lib.itoa i⟩=((i:Int),true):=by
 have hv:a_3 (Lib.itoa i)=i:=by rw [e_B,l_o]
 have:=l_p 12 i (by omega)
 rw [l_q (s:=⟨Lib.itoa i⟩) ⟨by simp only [e_B];omega,λc hc=>r_R<|o_i i c (by simpa only [e_B] using hc),by simp only [hv];omega,by simp only [hv]⟩]
 simp only [hv]
def c_v (s:Str):Bool:=(b_b s || (s.b==[42] || (s.b==[63] || s.b==[43]))) || (d_i s).2
theorem l_r {n:Nat}(hn:30<=n)(s:Str):g_N n s=some (c_v s):=by
 unfold g_N c_v
 rw [l_d,bd_some,r_Q hn]
 have hp:(d_i s).2=true->bd (c_4 n (d_i s).1) (λG=>some<|G.b==s.b)=some true:=λh=>by
  unfold d_i at h ⊢
  split at h
  .rename_i hc
   rw [iP_ hc]
   have hb:=i_v _ hc.2.1;obtain ⟨v,hv⟩:∃v:Nat,a_3 s.b=v:=⟨(a_3 s.b).toNat,by omega⟩;have he:=hc.2.2.2;have hm:=hc.2.2.1
   simp only
   rw [hv] at he hm ⊢
   rw [k_9 hn v (by omega),bd_some,he];simp
  .cases h
 generalize d_i s=x at *
 obtain ⟨v,ok⟩:=x
 simp only at hp
 cases b_b s <;> cases (s.b==[42]) <;> cases (s.b==[63]) <;> cases (s.b==[43]) <;> first | rfl | (cases ok;rfl;simp only [bd2_some,fT_,bd_some,Bool.or_self,bF_,fF_,hp,Bool.or_true])
def a_v (sep:UInt8):Bt->Bt->List Str
 | [],cur=>[⟨cur⟩]
 | c::r,cur=>if c=sep then ⟨cur⟩::a_v sep r [] else a_v sep r (cur++[c])
theorem h_w (sep:UInt8):∀(l cur:Bt),1<=(a_v sep l cur).length/\(a_v sep l cur).length<=l.length+1
 | [],_=>by simp [a_v]
 | c::r,cur=>by
  unfold a_v
  split
  .have:=h_w sep r [];simp;omega
  .have:=h_w sep r<|cur++[c];simp;omega
theorem o_l (sep:UInt8):∀(s t cur:Bt),(∀c∈s,c ≠ sep)->a_v sep (s++t) cur=a_v sep t (cur++s)
 | [],t,cur,_=>by simp
 | c::s,t,cur,h=>by
  rw [List.cons_append,a_v,iN_<|h c mS_,o_l sep s t _<|λc hc=>h c<|mT_ _ hc]
  simp
theorem r_S {s:Str}{sep:UInt8}(hs:s.b.length<=MX):∀(m i st:Nat)(acc:List Str)(f:Nat),i+m=s.b.length->st<=i->acc.length<=i->m+2<=f ->
  ∃x y,L_ (σ:=(List Str)×Int×Int) (ρ:=List Str) (un3 λH I G=>if (decide<|G<=(s.b.length:Int)) then bd (α:=Bool) (if (G==(s.b.length:Int)) then some true else bd (idx s.b G) λJ=>some<|(byteI J)==(byteI sep)) (λL=>bd (α:=(List Str)×Int) (if L then bd (b_w s I G) λO=>bd (psh H O) λV=>some (V,i_ G 1) else some (H,I))<|un2 λW Y=>some<|.next (W,Y,i_ G 1)) else some (.brk (H,I,G))) f (acc,(st:Int),(i:Int))=some (.inl (acc++a_v sep (s.b.drop i) (a_f s.b st i),x,y)):=by
 intro m
 induction m with
 | zero =>
  intro i st acc f hi hst hacc hf;have hMX:=MXv;obtain ⟨f,rfl⟩:∃g,f=g+2:=⟨f - 2,by omega⟩;have hi':i=s.b.length:=by omega
  unfold L_
  simp only [un3]
  rw [dT_ (show (i:Int)<=(s.b.length:Int) by omega),show ((i:Int)==(s.b.length:Int))=true by rw [hi'];simp]
  simp only [fT_,bd_some]
  rw [show b_w s (st:Int) (i:Int)=some ⟨a_f s.b st i⟩ by unfold b_w;rw [e_E hst (by omega)];rfl,bd_some,a_a (by rw [X_];omega),bd_some,bd_some]
  simp only []
  rw [ia_ (by omega) (by omega)]
  unfold L_
  simp only [un3]
  rw [dF_ (show ¬(i:Int)+1<=(s.b.length:Int) by omega)]
  refine ⟨(i:Int)+1,(i:Int)+1,?_⟩
  rw [List.drop_eq_nil_of_le (by omega)]
  rfl
 | succ m ih =>
  intro i st acc f hi hst hacc hf;have hMX:=MXv;obtain ⟨f,rfl⟩:∃g,f=g+1:=⟨f - 1,by omega⟩;have hlt:i<s.b.length:=by omega
  unfold L_
  simp only [un3]
  rw [dT_ (show (i:Int)<=(s.b.length:Int) by omega),show ((i:Int)==(s.b.length:Int))=false by simp;omega,ix_ hlt]
  simp only [fT_,bd_some,bF_,fF_]
  rw [dC_ hlt,a_v,beqB]
  by_cases hc:s.b[i]=sep
  .rw [dT_ hc,iP_ hc]
   simp only [fT_]
   rw [show b_w s (st:Int) (i:Int)=some ⟨a_f s.b st i⟩ by unfold b_w;rw [e_E hst (by omega)];rfl,bd_some,a_a (by rw [X_];omega),bd_some,bd_some]
   simp only
   rw [ia_ (by omega) (by omega),show (i:Int)+1=((i+1:Nat):Int) by omega]
   obtain ⟨x,y,h⟩:=ih (i+1) (i+1) (acc++[⟨a_f s.b st i⟩]) f (by omega) (Nat.le_refl _) (by simp;omega) (by omega);refine ⟨x,y,h.trans ?_⟩;have:a_f s.b (i+1) (i+1)=[]:=by unfold a_f;simp
   rw [this];simp
  .rw [dF_ hc,iN_ hc]
   simp only [bF_,fF_,bd_some,un2]
   rw [ia_ (by omega) (by omega),show (i:Int)+1=((i+1:Nat):Int) by omega]
   obtain ⟨x,y,h⟩:=ih (i+1) st acc f (by omega) (by omega) (by omega) (by omega);refine ⟨x,y,h.trans ?_⟩
   have:a_f s.b st (i+1)=a_f s.b st i++[s.b[i]]:=by
    unfold a_f
    rw [d_F hlt,List.drop_append_of_le_length (by simp;omega)]
   rw [this]
theorem r_T {n:Nat}{s:Str}{sep:UInt8}(hs:s.b.length<=MX)(hn:s.b.length+2<=n):j_1 n s sep=some (a_v sep s.b []):=by
 unfold j_1;obtain ⟨x,y,h⟩:=r_S (sep:=sep) hs s.b.length 0 0 [] n (by omega) (Nat.le_refl _) (by simp) (by omega);have h':=h
 simp only [Int.natCast_zero] at h'
 rw [h',bd_some,el_inl]
 simp [un3,a_f]
def e_6 (s:Str):List Str×Bool:=if s.b=[] then ([],true) else if (a_v 47 s.b []).head? = some ⟨[]⟩/\(a_v 47 s.b []).tail.all c_v then ((a_v 47 s.b []).tail,decide<|1<(a_v 47 s.b []).length) else ([],false)
theorem l_s {n:Nat}(hn:30<=n){s:Str}(hs:s.b.length<=MX)(L:s.b.length+2<=n):h_S n s=some (e_6 s):=by
 unfold h_S e_6
 by_cases H:s.b=[]
 .rw [H];rfl
 rw [show (s.b==(⟨[]⟩:Str).b)=false by simpa using H,iN_ H,r_T hs L]
 simp only [bF_,fF_,bd_some]
 have hl:=h_w 47 s.b [];generalize a_v 47 s.b []=l at *
 match l,hl with
 | a::l,hl =>
  rw [a_S (by simp),bd_some]
  simp only [List.getElem_cons_zero,List.head?_cons,List.tail_cons,oI_]
  by_cases ha:a.b=[]
  .have ha':a=⟨[]⟩:=by cases a;simpa using ha
   rw [iN_ (show ¬(a.b != [])=true by simpa using ha)]
   by_cases hall:l.all c_v=true
   .rw [iP_ ⟨ha',hall⟩]
    have:=p_8 (σ:=Int) (ρ:=(List Str)×Bool) (step:=λG=>if (decide<|G<((a::l).length:Int)) then bd (idx (a::l) G) λI=>bd (g_N n I) λJ=>if (!J) then some (.ret (([]:List Str),false)) else some (.next<|i_ G 1) else some (.brk G))
     (λj=>((j+1:Nat):Int)) (s:=((l.length+1:Nat):Int)) (m:=n) (j0:=l.length) (by simp at hl;omega) (λj hj=>by
      have hMX:=MXv
      simp at hl
      rw [dT_ (by simp;omega),ix_ (by simp;omega)]
      simp only [fT_,bd_some,List.getElem_cons_succ,l_r hn,List.all_eq_true.1 hall _<|gE_ hj,nT_,bF_,fF_]
      rw [ia_ (by omega) (by omega)];rfl) (by
      rw [dF_ (by simp)];rfl)
    simp only [Nat.zero_add,Int.natCast_one] at this
    rw [this,bd_some,el_inl]
    rw [show slc (a::l) 1 ((a::l).length:Int)=some l by rw [f_A (by omega) (by simp;omega) (by omega)];simp]
    simp
    omega
   .rw [iN_ (λh=>hall h.2)]
    obtain ⟨j,hj,hjb,hjl⟩:∃j,∃hj:j<l.length,c_v l[j]=false/\∀i (hi:i<j),c_v (l[i]'(by omega))=true:=by
     clear L hs hl H
     induction l with
     | nil=>simp at hall
     | cons c l ih =>
      by_cases hc:c_v c=true
      .obtain ⟨j,hj,h1,h2⟩:=ih (by simpa [hc] using hall);refine ⟨j+1,by simp;omega,by simpa using h1,λi hi=>?_⟩
       cases i with
       | zero=>simpa using hc
       | succ i=>simpa using h2 i (by omega)
      .exact ⟨0,by simp,by simpa using hc,λi hi=>by omega⟩
    have:=m_0 (σ:=Int) (ρ:=(List Str)×Bool) (step:=λG=>if (decide<|G<((a::l).length:Int)) then bd (idx (a::l) G) λI=>bd (g_N n I) λJ=>if (!J) then some (.ret (([]:List Str),false)) else some (.next<|i_ G 1) else some (.brk G))
     (λj=>((j+1:Nat):Int)) (r:=(([]:List Str),false)) (m:=n) (j0:=j) (by simp at hl;omega) (λi hi=>by
      have hMX:=MXv
      simp at hl
      rw [dT_ (by simp;omega),ix_ (by simp;omega)]
      simp only [fT_,bd_some,List.getElem_cons_succ,l_r hn,hjl i hi,nT_,bF_,fF_]
      rw [ia_ (by omega) (by omega)];rfl) (by
      rw [dT_ (by simp;omega),ix_ (by simp;omega)]
      simp only [fT_,bd_some,List.getElem_cons_succ,l_r hn,hjb,Bool.not_false])
    simp only [Nat.zero_add,Int.natCast_one] at this
    rw [this,bd_some,el_inr]
  .rw [iP_ (show (a.b != [])=true by simpa using ha),iN_<|λh=>ha (by rw [h.1])]
end Go.Vw
