
import Derived.Test.YtllmonllbkaflaaGreatDoorV6
namespace Go.Vw
open Go.RowKit Dat
def c_M (a:Int)(c:UInt8):Int:=10 * a+(byteI c - 48)
def T_ (l:Bt):Int:=l.foldl c_M 0
theorem k_b {x:Nat}(h:x<256):byteI (UInt8.ofNat x)=x:=by
 unfold byteI;simp [UInt8.toNat_ofNat'];omega
theorem o_1 (x:Nat):∀c∈Lib.decDigits x,48<=byteI c/\byteI c<=57:=by
 induction x using Nat.strongRecOn with
 | _ x ih =>
  intro c hc
  rw [Lib.decDigits] at hc
  split at hc
  .simp only [List.mem_singleton] at hc
   subst hc
   rw [k_b (by omega)];omega
  .simp only [List.mem_append,List.mem_singleton] at hc
   rcases hc with hc | rfl
   .exact ih (x / 10) (by omega) c hc
   .rw [k_b (by omega)];omega
theorem m_2 (x:Nat):T_ (Lib.decDigits x)=x:=by
 induction x using Nat.strongRecOn with
 | _ x ih =>
  rw [Lib.decDigits]
  split
  .simp only [T_,List.foldl_cons,List.foldl_nil,c_M]
   rw [k_b (by omega)];omega
  .unfold T_ at *
   rw [List.foldl_append,ih (x / 10) (by omega)]
   simp only [List.foldl_cons,List.foldl_nil,c_M]
   rw [k_b (by omega)];omega
theorem m_3 (k:Nat):∀x,x<10 ^ (k+1)->1<=(Lib.decDigits x).length/\(Lib.decDigits x).length<=k+1:=by
 induction k with
 | zero=>intro x h;rw [Lib.decDigits,dif_pos (by omega)];simp
 | succ k ih =>
  intro x h
  rw [Lib.decDigits]
  split
  .simp
  .have:=ih (x / 10) (by rw [Nat.pow_succ] at h;omega)
   simp;omega
theorem e_o (x:Nat):Lib.itoa x=Lib.decDigits x:=by unfold Lib.itoa;rw [iN_ (by omega)];simp
theorem o_2 {x y:Nat}(h:Lib.itoa x=Lib.itoa y):x=y:=by
 have:=congrArg T_ h
 rw [e_o,e_o,m_2,m_2] at this
 omega
theorem k_c {n:Nat}(hn:30<=n)(i:Nat)(hi:i<=1000000000000):c_6 n i=some ⟨Lib.itoa i⟩:=by
 unfold c_6 Lib.itoa
 rw [iN_ (show ¬(i:Int)<0 by omega)]
 by_cases G:i=0
 .subst G
  rw [show ((((0:Nat):Int)).toNat)=0 from rfl,Lib.decDigits,dif_pos (by omega)]
  rfl
 .rw [show ((i:Int)==0)=false by simp;omega]
  simp only [bF_,fF_]
  rw [m_C 20 i (by omega) (by omega) (by omega) ⟨[]⟩ n (by omega) (by simp),dF_ (show ¬(i:Int)<0 by omega)]
  simp
theorem h_a (l:Bt)(h:∀c∈l,a_Q c=true):0<=T_ l/\T_ l<10 ^ l.length:=by
 have key:∀(l:Bt)(a:Int),(∀c∈l,a_Q c=true)->0<=a->0<=l.foldl c_M a/\l.foldl c_M a<(a+1) * 10 ^ l.length:=by
  intro l
  induction l with
  | nil=>intro a _ G;simp;omega
  | cons c l ih =>
   intro a h G;have hc:=h c mS_
   rw [f_3] at hc
   simp only [aE_,dE_] at hc
   have hb:byteI c=(c.toNat:Int):=rfl;have:=ih (c_M a c) (λc hc=>h c<|mT_ _ hc) (by unfold c_M;omega);refine ⟨this.1,Int.lt_of_lt_of_le this.2 ?_⟩
   rw [lC_,Int.pow_succ,← Int.mul_assoc,Int.mul_assoc,Int.mul_comm ((10:Int) ^ l.length) 10,← Int.mul_assoc]
   refine Int.mul_le_mul_of_nonneg_right ?_<|Int.le_of_lt<|Int.pow_pos (by decide);unfold c_M;omega
 have:=key l 0 h<|Int.le_refl 0
 simpa [T_] using this
theorem g_6 {α:Type}{l:List α}{k:Nat}(h:k<l.length):l.take (k+1)=l.take k++[l[k]]:=by rw [List.take_add_one,gG_ h];rfl
def c_n (s:Str):Int×Bool:=if (1<=s.b.length/\s.b.length<=13)/\(∀c∈s.b,a_Q c=true)/\T_ s.b<=1000000000000/\Lib.itoa (T_ s.b)=s.b then (T_ s.b,true) else (0,false)
theorem m_4 {s:Str}(h:(1<=s.b.length/\s.b.length<=13)/\(∀c∈s.b,a_Q c=true)/\T_ s.b<=1000000000000/\Lib.itoa (T_ s.b)=s.b):c_n s=(T_ s.b,true):=iP_ h
theorem e_p {s:Str}(h:¬((1<=s.b.length/\s.b.length<=13)/\(∀c∈s.b,a_Q c=true)/\T_ s.b<=1000000000000/\Lib.itoa (T_ s.b)=s.b)):c_n s=(0,false):=iN_ h
theorem o_3 {c:UInt8}(h:a_Q c=true):byteI (mkB<|byteI c - byteI (48:UInt8))=byteI c - 48:=by
 rw [f_3] at h
 simp only [aE_,dE_] at h
 have hb:byteI c=(c.toNat:Int):=rfl;have G:byteI (48:UInt8)=48:=rfl
 rw [l_6,G]
 unfold IntKind.wrap
 simp [IntKind.bits,IntKind.signed]
 omega
theorem o_4 {n:Nat}(hn:30<=n)(s:Str):h_p n s=some (c_n s):=by
 unfold h_p
 rw [b_U,bd_some]
 by_cases hl:1<=s.b.length/\s.b.length<=13
 .rw [dT_ (show (1:Int)<=(s.b.length:Int) by omega),dT_ (show (s.b.length:Int)<=13 by omega)]
  simp only [Bool.and_self,nT_,bF_,fF_]
  have hp:∀k,k<=s.b.length->(∀c∈s.b.take k,a_Q c=true)->0<=T_ (s.b.take k)/\T_ (s.b.take k)<10 ^ 13:=λk hk hd=>by
   have:=h_a _ hd;refine ⟨this.1,Int.lt_of_lt_of_le this.2 ?_⟩
   exact_mod_cast Nat.pow_le_pow_right (by decide) (by simp;omega)
  rcases d_r (σ:=Int) (ρ:=Int×Bool) (I:=λk x=>x=T_ (s.b.take k)/\∀c∈s.b.take k,a_Q c=true) (R:=λr=>r=(0,false)/\¬∀c∈s.b,a_Q c=true)
   (body:=λG=>(λO=>bd (idx s.b ((G:Nat):Int)) λH=>bd (a_Z (byteI H) 48 57) λJ=>if (!J) then some (.ret (0,false)) else bd (idx s.b ((G:Nat):Int)) λL=>some<|.next<|d_ (a_7 10 O)<|byteI<|mkB<|byteI L - byteI (48:UInt8))) (n:=s.b.length)
   (λk x hk ⟨hx,hd⟩=>by
    subst hx
    simp only [ix_ hk,bd_some,b_U]
    have he:(decide (48<=byteI s.b[k]) && decide (byteI s.b[k]<=57))=a_Q s.b[k]:=rfl
    rw [he]
    by_cases hc:a_Q s.b[k]=true
    .left
     rw [hc]
     simp only [nT_,bF_,fF_]
     have h1:=hp k (by omega) hd;have h2:=hc
     rw [f_3] at h2
     simp only [aE_,dE_] at h2
     have hb:byteI s.b[k]=(s.b[k].toNat:Int):=rfl
     rw [o_3 hc,d_x (by omega) (by omega),ia_ (by omega) (by omega)]
     refine ⟨_,rfl,?_,?_⟩
     .unfold T_;rw [f_4 _ _ hk];rfl
     .intro c hcm
      rw [g_6 hk] at hcm
      simp only [List.mem_append,List.mem_singleton] at hcm
      rcases hcm with hcm | rfl
      .exact hd c hcm
      .exact hc
    .right
     rw [show a_Q s.b[k]=false by simpa using hc]
     exact ⟨_,rfl,rfl,λh=>hc (h _ (gE_ hk))⟩) s.b.length 0 0 (by omega) ⟨rfl,by simp⟩ with ⟨x,h1,h2,h3⟩ | ⟨r,h1,rfl,h3⟩
  .rw [h1,bd_some,el_inl]
   rw [List.take_length] at h2 h3
   subst h2;have hb:=hp s.b.length (Nat.le_refl _) (by rw [List.take_length];exact h3)
   rw [List.take_length] at hb
   by_cases hm:T_ s.b<=1000000000000
   .obtain ⟨v,hv⟩:∃v:Nat,T_ s.b=v:=⟨(T_ s.b).toNat,by omega⟩;have hf:c_6 n (T_ s.b)=some ⟨Lib.itoa<|T_ s.b⟩:=by rw [hv];exact k_c hn v (by omega)
    rw [dF_ (show ¬1000000000000<T_ s.b by omega),hf]
    simp only [bF_,fF_,bd_some]
    by_cases he:Lib.itoa (T_ s.b)=s.b
    .rw [m_4 ⟨hl,h3,by omega,he⟩,show (Lib.itoa (T_ s.b) != s.b)=false by simpa using he];rfl
    .rw [e_p (λh=>he h.2.2.2),show (Lib.itoa (T_ s.b) != s.b)=true by simpa using he];rfl
   .rw [dT_ (show 1000000000000<T_ s.b by omega),e_p<|λh=>hm h.2.2.1];rfl
  .rw [h1,bd_some,el_inr,e_p<|λh=>h3 h.2.1]
 .rw [e_p (λh=>hl h.1)]
  have:(decide ((1:Int)<=(s.b.length:Int)) && decide ((s.b.length:Int)<=13))=false:=by
   rw [Bool.and_eq_false_iff]
   simp only [decide_eq_false_iff_not]
   omega
  rw [this];rfl
theorem s_S {c:UInt8}(h:48<=byteI c/\byteI c<=57):a_Q c=true:=by
 rw [f_3]
 simp only [aE_,dE_];exact h
theorem o_5 (i:Nat)(hi:i<=1000000000000):c_n ⟨Lib.itoa i⟩=((i:Int),true):=by
 have hv:T_ (Lib.itoa i)=i:=by rw [e_o,m_2]
 have:=m_3 12 i (by omega)
 rw [m_4 (s:=⟨Lib.itoa i⟩) ⟨by simp only [e_o];omega,λc hc=>s_S<|o_1 i c (by simpa only [e_o] using hc),by simp only [hv];omega,by simp only [hv]⟩]
 simp only [hv]
def c_5 (s:Str):Bool:=(b_k s || (s.b==[42] || (s.b==[63] || s.b==[43]))) || (c_n s).2
theorem k_d {n:Nat}(hn:30<=n)(s:Str):e_A n s=some (c_5 s):=by
 unfold e_A c_5
 rw [l_X,bd_some,o_4 hn]
 have hp:(c_n s).2=true->bd (c_6 n (c_n s).1) (λG=>some<|G.b==s.b)=some true:=λh=>by
  unfold c_n at h ⊢
  split at h
  .rename_i hc
   rw [iP_ hc]
   have hb:=h_a _ hc.2.1;obtain ⟨v,hv⟩:∃v:Nat,T_ s.b=v:=⟨(T_ s.b).toNat,by omega⟩;have he:=hc.2.2.2;have hm:=hc.2.2.1
   simp only
   rw [hv] at he hm ⊢
   rw [k_c hn v (by omega),bd_some,he];simp
  .cases h
 generalize c_n s=x at *
 obtain ⟨v,ok⟩:=x
 simp only at hp
 cases b_k s <;> cases (s.b==[42]) <;> cases (s.b==[63]) <;> cases (s.b==[43]) <;> first | rfl | (cases ok;rfl;simp only [bd2_some,fT_,bd_some,Bool.or_self,bF_,fF_,hp,Bool.or_true])
def W_ (sep:UInt8):Bt->Bt->List Str
 | [],cur=>[⟨cur⟩]
 | c::r,cur=>if c=sep then ⟨cur⟩::W_ sep r [] else W_ sep r (cur++[c])
theorem d_Y (sep:UInt8):∀(l cur:Bt),1<=(W_ sep l cur).length/\(W_ sep l cur).length<=l.length+1
 | [],_=>by simp [W_]
 | c::r,cur=>by
  unfold W_
  split
  .have:=d_Y sep r [];simp;omega
  .have:=d_Y sep r<|cur++[c];simp;omega
theorem o_6 (sep:UInt8):∀(s t cur:Bt),(∀c∈s,c ≠ sep)->W_ sep (s++t) cur=W_ sep t (cur++s)
 | [],t,cur,_=>by simp
 | c::s,t,cur,h=>by
  rw [List.cons_append,W_,iN_<|h c mS_,o_6 sep s t _<|λc hc=>h c<|mT_ _ hc]
  simp
theorem s_T {s:Str}{sep:UInt8}(hs:s.b.length<=MX):∀(m i st:Nat)(acc:List Str)(f:Nat),i+m=s.b.length->st<=i->acc.length<=i->m+2<=f ->
  ∃x y,V_ (σ:=(List Str)×Int×Int) (ρ:=List Str) (un3 λH I G=>if (decide<|G<=(s.b.length:Int)) then bd (α:=Bool) (if (G==(s.b.length:Int)) then some true else bd (idx s.b G) λJ=>some<|(byteI J)==(byteI sep)) (λL=>bd (α:=(List Str)×Int) (if L then bd (b_z s I G) λO=>bd (psh H O) λV=>some (V,d_ G 1) else some (H,I))<|un2 λW Y=>some<|.next (W,Y,d_ G 1)) else some (.brk (H,I,G))) f (acc,(st:Int),(i:Int))=some (.inl (acc++W_ sep (s.b.drop i) (a_8 s.b st i),x,y)):=by
 intro m
 induction m with
 | zero =>
  intro i st acc f hi hst hacc hf;have hMX:=MXv;obtain ⟨f,rfl⟩:∃g,f=g+2:=⟨f - 2,by omega⟩;have hi':i=s.b.length:=by omega
  unfold V_
  simp only [un3]
  rw [dT_ (show (i:Int)<=(s.b.length:Int) by omega),show ((i:Int)==(s.b.length:Int))=true by rw [hi'];simp]
  simp only [fT_,bd_some]
  rw [show b_z s (st:Int) (i:Int)=some ⟨a_8 s.b st i⟩ by unfold b_z;rw [d_a hst (by omega)];rfl,bd_some,a_s (by rw [a_m];omega),bd_some,bd_some]
  simp only []
  rw [ia_ (by omega) (by omega)]
  unfold V_
  simp only [un3]
  rw [dF_ (show ¬(i:Int)+1<=(s.b.length:Int) by omega)]
  refine ⟨(i:Int)+1,(i:Int)+1,?_⟩
  rw [List.drop_eq_nil_of_le (by omega)]
  rfl
 | succ m ih =>
  intro i st acc f hi hst hacc hf;have hMX:=MXv;obtain ⟨f,rfl⟩:∃g,f=g+1:=⟨f - 1,by omega⟩;have hlt:i<s.b.length:=by omega
  unfold V_
  simp only [un3]
  rw [dT_ (show (i:Int)<=(s.b.length:Int) by omega),show ((i:Int)==(s.b.length:Int))=false by simp;omega,ix_ hlt]
  simp only [fT_,bd_some,bF_,fF_]
  rw [dC_ hlt,W_,f_5]
  by_cases hc:s.b[i]=sep
  .rw [dT_ hc,iP_ hc]
   simp only [fT_]
   rw [show b_z s (st:Int) (i:Int)=some ⟨a_8 s.b st i⟩ by unfold b_z;rw [d_a hst (by omega)];rfl,bd_some,a_s (by rw [a_m];omega),bd_some,bd_some]
   simp only
   rw [ia_ (by omega) (by omega),show (i:Int)+1=((i+1:Nat):Int) by omega]
   obtain ⟨x,y,h⟩:=ih (i+1) (i+1) (acc++[⟨a_8 s.b st i⟩]) f (by omega) (Nat.le_refl _) (by simp;omega) (by omega);refine ⟨x,y,h.trans ?_⟩;have:a_8 s.b (i+1) (i+1)=[]:=by unfold a_8;simp
   rw [this];simp
  .rw [dF_ hc,iN_ hc]
   simp only [bF_,fF_,bd_some,un2]
   rw [ia_ (by omega) (by omega),show (i:Int)+1=((i+1:Nat):Int) by omega]
   obtain ⟨x,y,h⟩:=ih (i+1) st acc f (by omega) (by omega) (by omega) (by omega);refine ⟨x,y,h.trans ?_⟩
   have:a_8 s.b st (i+1)=a_8 s.b st i++[s.b[i]]:=by
    unfold a_8
    rw [g_6 hlt,List.drop_append_of_le_length (by simp;omega)]
   rw [this]
theorem o_7 {n:Nat}{s:Str}{sep:UInt8}(hs:s.b.length<=MX)(hn:s.b.length+2<=n):h_o n s sep=some (W_ sep s.b []):=by
 unfold h_o;obtain ⟨x,y,h⟩:=s_T (sep:=sep) hs s.b.length 0 0 [] n (by omega) (Nat.le_refl _) (by simp) (by omega);have h':=h
 simp only [Int.natCast_zero] at h'
 rw [h',bd_some,el_inl]
 simp [un3,a_8]
def b_t (s:Str):List Str×Bool:=if s.b=[] then ([],true) else if (W_ 47 s.b []).head? = some ⟨[]⟩/\(W_ 47 s.b []).tail.all c_5 then ((W_ 47 s.b []).tail,decide<|1<(W_ 47 s.b []).length) else ([],false)
theorem k_e {n:Nat}(hn:30<=n){s:Str}(hs:s.b.length<=MX)(L:s.b.length+2<=n):g_i n s=some (b_t s):=by
 unfold g_i b_t
 by_cases H:s.b=[]
 .rw [H];rfl
 rw [show (s.b==(⟨[]⟩:Str).b)=false by simpa using H,iN_ H,o_7 hs L]
 simp only [bF_,fF_,bd_some]
 have hl:=d_Y 47 s.b [];generalize W_ 47 s.b []=l at *
 match l,hl with
 | a::l,hl =>
  rw [a_M (by simp),bd_some]
  simp only [List.getElem_cons_zero,List.head?_cons,List.tail_cons,oI_]
  by_cases ha:a.b=[]
  .have ha':a=⟨[]⟩:=by cases a;simpa using ha
   rw [iN_ (show ¬(a.b != [])=true by simpa using ha)]
   by_cases hall:l.all c_5=true
   .rw [iP_ ⟨ha',hall⟩]
    have:=m_K (σ:=Int) (ρ:=(List Str)×Bool) (step:=λG=>if (decide<|G<((a::l).length:Int)) then bd (idx (a::l) G) λI=>bd (e_A n I) λJ=>if (!J) then some (.ret (([]:List Str),false)) else some (.next<|d_ G 1) else some (.brk G))
     (λj=>((j+1:Nat):Int)) (s:=((l.length+1:Nat):Int)) (m:=n) (j0:=l.length) (by simp at hl;omega) (λj hj=>by
      have hMX:=MXv
      simp at hl
      rw [dT_ (by simp;omega),ix_ (by simp;omega)]
      simp only [fT_,bd_some,List.getElem_cons_succ,k_d hn,List.all_eq_true.1 hall _<|gE_ hj,nT_,bF_,fF_]
      rw [ia_ (by omega) (by omega)];rfl) (by
      rw [dF_ (by simp)];rfl)
    simp only [Nat.zero_add,Int.natCast_one] at this
    rw [this,bd_some,el_inl]
    rw [show slc (a::l) 1 ((a::l).length:Int)=some l by rw [e_z (by omega) (by simp;omega) (by omega)];simp]
    simp
    omega
   .rw [iN_ (λh=>hall h.2)]
    obtain ⟨j,hj,hjb,hjl⟩:∃j,∃hj:j<l.length,c_5 l[j]=false/\∀i (hi:i<j),c_5 (l[i]'(by omega))=true:=by
     clear L hs hl H
     induction l with
     | nil=>simp at hall
     | cons c l ih =>
      by_cases hc:c_5 c=true
      .obtain ⟨j,hj,h1,h2⟩:=ih (by simpa [hc] using hall);refine ⟨j+1,by simp;omega,by simpa using h1,λi hi=>?_⟩
       cases i with
       | zero=>simpa using hc
       | succ i=>simpa using h2 i (by omega)
      .exact ⟨0,by simp,by simpa using hc,λi hi=>by omega⟩
    have:=p_D (σ:=Int) (ρ:=(List Str)×Bool) (step:=λG=>if (decide<|G<((a::l).length:Int)) then bd (idx (a::l) G) λI=>bd (e_A n I) λJ=>if (!J) then some (.ret (([]:List Str),false)) else some (.next<|d_ G 1) else some (.brk G))
     (λj=>((j+1:Nat):Int)) (r:=(([]:List Str),false)) (m:=n) (j0:=j) (by simp at hl;omega) (λi hi=>by
      have hMX:=MXv
      simp at hl
      rw [dT_ (by simp;omega),ix_ (by simp;omega)]
      simp only [fT_,bd_some,List.getElem_cons_succ,k_d hn,hjl i hi,nT_,bF_,fF_]
      rw [ia_ (by omega) (by omega)];rfl) (by
      rw [dT_ (by simp;omega),ix_ (by simp;omega)]
      simp only [fT_,bd_some,List.getElem_cons_succ,k_d hn,hjb,Bool.not_false])
    simp only [Nat.zero_add,Int.natCast_one] at this
    rw [this,bd_some,el_inr]
  .rw [iP_ (show (a.b != [])=true by simpa using ha),iN_<|λh=>ha (by rw [h.1])]
end Go.Vw
