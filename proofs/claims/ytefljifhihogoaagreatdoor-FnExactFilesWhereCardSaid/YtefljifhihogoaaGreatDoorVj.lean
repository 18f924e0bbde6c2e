
import Derived.Test.YtefljifhihogoaaGreatDoorVe
namespace Go.Vw
set_option linter.unusedVariables false
open Go.RowKit Dat
def d_i (a:Int)(c:UInt8):Int:=10 * a+(b_ c - 48)
def a_1 (l:Bt):Int:=l.foldl d_i 0
theorem l_B {x:Nat}(h:x<256):b_ (UInt8.ofNat x)=x:=by
 unfold b_;grind [UInt8.toNat_ofNat']
theorem q_r (x:Nat):∀c∈Lib.decDigits x,48<=b_ c/\b_ c<=57:=by
 induction x using Nat.strongRecOn with
 | _ x ih =>
  intro c hc
  rw [Lib.decDigits] at hc
  split at hc
  .grind [l_B,List.mem_singleton]
  .simp only [QAj,QA_] at hc
   rcases hc with hc | rfl
   .grind
   grind [l_B]
theorem q_s (x:Nat):a_1 (Lib.decDigits x)=x:=by
 induction x using Nat.strongRecOn with
 | _ x ih =>
  rw [Lib.decDigits]
  split
  .grind [a_1,d_i,l_B]
  grind [a_1,d_i,l_B]
theorem q_t (k:Nat):∀x,x<10 ^ (k+1)->1<=(Lib.decDigits x).length/\(Lib.decDigits x).length<=k+1:=by
 induction k with
 | zero=>grind [Lib.decDigits]
 | succ k ih =>
  grind [Lib.decDigits]
theorem h_i (x:Nat):Lib.itoa x=Lib.decDigits x:=by rfl
theorem q_u {x y:Nat}(h:Lib.itoa x=Lib.itoa y):x=y:=by
 have:=congrArg a_1 h
 grind [h_i,q_s]
theorem l_C {n:Nat}(hn:30<=n)(i:Nat)(hi:i<=1000000000000):d_p n i=some ⟨Lib.itoa i⟩:=by
 unfold d_p Lib.itoa
 rw [iN_ (show ¬(i:Int)<0 by omega)]
 by_cases G:i=0
 .subst G
  rw [show ((((0:Nat):Int)).toNat)=0 from rfl,Lib.decDigits,dif_pos (by omega)]
  rfl
 .rw [show ((i:Int)==0)=false by grind]
  simp only [bF_,fF_]
  rw [o_u 20 i (by omega) (by omega) (by omega) ⟨[]⟩ n (by omega) (by simp),dF_ (show ¬(i:Int)<0 by omega)]
  simp
theorem i_4 (l:Bt)(h:∀c∈l,b_2 c=true):0<=a_1 l/\a_1 l<10 ^ l.length:=by
 have key:∀(l:Bt)(a:Int),(∀c∈l,b_2 c=true)->0<=a->0<=l.foldl d_i a/\l.foldl d_i a<(a+1) * 10 ^ l.length:=by
  intro l
  induction l with
  | nil=>grind
  | cons c l ih =>
   intro a h G;have hc:=h c mS_
   rw [h_e] at hc
   simp only [aE_,dE_] at hc
   have hb:b_ c=(c.toNat:Int):=rfl;have:=ih (d_i a c) (λc hc=>h c<|mT_ _ hc) (by grind [d_i]);refine ⟨this.1,Int.lt_of_lt_of_le this.2 ?_⟩
   rw [lC_,Int.pow_succ,← Int.mul_assoc,Int.mul_assoc,Int.mul_comm ((10:Int) ^ l.length) 10,← Int.mul_assoc]
   refine Int.mul_le_mul_of_nonneg_right ?_<|Int.le_of_lt<|Int.pow_pos (by decide)
   grind [d_i]
 grind [a_1]
theorem h_j {α:Type}{l:List α}{k:Nat}(h:k<l.length):l.take (k+1)=l.take k++[l[k]]:=by simp
def c_M (s:Str):Int×Bool:=if (1<=s.b.length/\s.b.length<=13)/\(∀c∈s.b,b_2 c=true)/\a_1 s.b<=1000000000000/\Lib.itoa (a_1 s.b)=s.b then (a_1 s.b,true) else (0,false)
theorem n_B {s:Str}(h:(1<=s.b.length/\s.b.length<=13)/\(∀c∈s.b,b_2 c=true)/\a_1 s.b<=1000000000000/\Lib.itoa (a_1 s.b)=s.b):c_M s=(a_1 s.b,true):=iP_ h
theorem f_d {s:Str}(h:¬((1<=s.b.length/\s.b.length<=13)/\(∀c∈s.b,b_2 c=true)/\a_1 s.b<=1000000000000/\Lib.itoa (a_1 s.b)=s.b)):c_M s=(0,false):=iN_ h
theorem q_v {c:UInt8}(h:b_2 c=true):b_ (mkB<|b_ c - b_ (48:UInt8))=b_ c - 48:=by
 rw [h_e] at h
 simp only [aE_,dE_] at h
 have hb:b_ c=(c.toNat:Int):=rfl;have G:b_ (48:UInt8)=48:=rfl
 grind [IntKind.bits,IntKind.signed,IntKind.wrap,n_l]
theorem q_w {n:Nat}(hn:30<=n)(s:Str):i_s n s=some (c_M s):=by
 unfold i_s
 rw [b_z,a_]
 by_cases hl:1<=s.b.length/\s.b.length<=13
 .rw [dT_ (show (1:Int)<=(s.b.length:Int) by omega),dT_ (show (s.b.length:Int)<=13 by omega)]
  simp only [QAQ,nT_,bF_,fF_]
  have hp:∀k,k<=s.b.length->(∀c∈s.b.take k,b_2 c=true)->0<=a_1 (s.b.take k)/\a_1 (s.b.take k)<10 ^ 13:=λk hk hd=>by
   have:=i_4 _ hd;refine ⟨this.1,Int.lt_of_lt_of_le this.2 ?_⟩
   exact_mod_cast Nat.pow_le_pow_right (by decide) (by grind)
  rcases h_f (σ:=Int) (ρ:=Int×Bool) (I:=λk x=>x=a_1 (s.b.take k)/\∀c∈s.b.take k,b_2 c=true) (R:=λr=>r=(0,false)/\¬∀c∈s.b,b_2 c=true)
   (body:=λG=>(λO=>bd (idx s.b ((G:Nat):Int)) λH=>bd (a_M (b_ H) 48 57) λJ=>if (!J) then some (.ret (0,false)) else bd (idx s.b ((G:Nat):Int)) λL=>some<|.next<|e_ (b_t 10 O)<|b_<|mkB<|b_ L - b_ (48:UInt8))) (n:=s.b.length)
   (λk x hk ⟨hx,hd⟩=>by
    subst hx
    simp only [ix_ hk,a_,b_z]
    have he:(decide (48<=b_ s.b[k]) && decide (b_ s.b[k]<=57))=b_2 s.b[k]:=rfl
    rw [he]
    by_cases hc:b_2 s.b[k]=true
    .left
     rw [hc]
     simp only [nT_,bF_,fF_]
     have h1:=hp k (by omega) hd;have h2:=hc
     rw [h_e] at h2
     simp only [aE_,dE_] at h2
     have hb:b_ s.b[k]=(s.b[k].toNat:Int):=rfl
     rw [q_v hc,i_j (by omega) (by omega),ia_ (by omega) (by omega)]
     refine ⟨_,rfl,?_,?_⟩
     .unfold a_1;rw [g_1 _ _ hk];rfl
     .intro c hcm
      rw [h_j hk] at hcm
      grind
    grind) s.b.length 0 0 (by omega) ⟨rfl,by simp⟩ with ⟨x,h1,h2,h3⟩ | ⟨r,h1,rfl,h3⟩
  .rw [h1,a_,W_]
   rw [QAY] at h2 h3
   subst h2;have hb:=hp s.b.length (QAB _) (by grind)
   rw [QAY] at hb
   by_cases hm:a_1 s.b<=1000000000000
   .obtain ⟨v,hv⟩:∃v:Nat,a_1 s.b=v:=⟨(a_1 s.b).toNat,by omega⟩;have hf:d_p n (a_1 s.b)=some ⟨Lib.itoa<|a_1 s.b⟩:=by grind [l_C]
    rw [dF_ (show ¬1000000000000<a_1 s.b by omega),hf]
    simp only [bF_,fF_,a_]
    grind [Lib.itoa,a_1,Lib.itoa,a_1,Lib.itoa,a_1,f_d,n_B]
   .rw [dT_ (show 1000000000000<a_1 s.b by omega),f_d<|λh=>hm h.2.2.1];rfl
  grind [a_,d_Y,f_d]
 grind [decide,f_d,Bool.and_eq_false_iff,decide_eq_false_iff_not]
theorem v_Q {c:UInt8}(h:48<=b_ c/\b_ c<=57):b_2 c=true:=by
 simp_all [h_e]
theorem q_x (i:Nat)(hi:i<=1000000000000):c_M ⟨Lib.itoa i⟩=((i:Int),true):=by
 have hv:a_1 (Lib.itoa i)=i:=by rw [h_i,q_s]
 grind [Lib.itoa,n_B,h_i,v_Q,q_r,q_t]
def c_n (s:Str):Bool:=(b_3 s || (s.b==[42] || (s.b==[63] || s.b==[43]))) || (c_M s).2
theorem l_D {n:Nat}(hn:30<=n)(s:Str):f_k n s=some (c_n s):=by
 unfold f_k c_n
 rw [l_v,a_,q_w hn]
 have hp:(c_M s).2=true->bd (d_p n (c_M s).1) (λG=>some<|G.b==s.b)=some true:=λh=>by
  unfold c_M at h ⊢
  split at h
  .rename_i hc
   rw [iP_ hc]
   have hb:=i_4 _ hc.2.1;obtain ⟨v,hv⟩:∃v:Nat,a_1 s.b=v:=⟨(a_1 s.b).toNat,by omega⟩
   grind [l_C,a_]
  grind
 generalize c_M s=x at *
 obtain ⟨v,ok⟩:=x
 simp only at hp
 cases b_3 s <;> cases (s.b==[42]) <;> cases (s.b==[63]) <;> cases (s.b==[43]) <;> first | rfl | (cases ok;rfl;simp_all)
def a_6 (sep:UInt8):Bt->Bt->List Str
 | [],cur=>[⟨cur⟩]
 | c::r,cur=>if c=sep then ⟨cur⟩::a_6 sep r [] else a_6 sep r (cur++[c])
theorem e_C (sep:UInt8):∀(l cur:Bt),1<=(a_6 sep l cur).length/\(a_6 sep l cur).length<=l.length+1
 | [],_=>by simp [a_6]
 | c::r,cur=>by
  unfold a_6
  split
  .have:=e_C sep r [];grind
  .have:=e_C sep r<|cur++[c];grind
theorem q_y (sep:UInt8):∀(s t cur:Bt),(∀c∈s,c ≠ sep)->a_6 sep (s++t) cur=a_6 sep t (cur++s)
 | [],t,cur,_=>by simp
 | c::s,t,cur,h=>by
  rw [QBI,a_6,iN_<|h c mS_,q_y sep s t _<|λc hc=>h c<|mT_ _ hc]
  simp
theorem v_R {s:Str}{sep:UInt8}(hs:s.b.length<=MX):∀(m i st:Nat)(acc:List Str)(f:Nat),i+m=s.b.length->st<=i->acc.length<=i->m+2<=f ->
  ∃x y,F_ (σ:=(List Str)×Int×Int) (ρ:=List Str) (un3 λH I G=>if (decide<|G<=(s.b.length:Int)) then bd (α:=Bool) (if (G==(s.b.length:Int)) then some true else bd (idx s.b G) λJ=>some<|(b_ J)==(b_ sep)) (λL=>bd (α:=(List Str)×Int) (if L then bd (c_2 s I G) λO=>bd (psh H O) λV=>some (V,e_ G 1) else some (H,I))<|un2 λW Y=>some<|.next (W,Y,e_ G 1)) else some (.brk (H,I,G))) f (acc,(st:Int),(i:Int))=some (.inl (acc++a_6 sep (s.b.drop i) (a_v s.b st i),x,y)):=by
 intro m
 induction m with
 | zero =>
  intro i st acc f hi hst hacc hf;have hMX:=MXv;obtain ⟨f,rfl⟩:∃g,f=g+2:=⟨f - 2,by omega⟩;have hi':i=s.b.length:=by omega
  unfold F_
  simp only [un3]
  rw [dT_ (show (i:Int)<=(s.b.length:Int) by omega),show ((i:Int)==(s.b.length:Int))=true by grind]
  simp only [fT_,a_]
  rw [show c_2 s (st:Int) (i:Int)=some ⟨a_v s.b st i⟩ by grind [c_2,d_G],a_,a_Z (by grind [a_7]),a_,a_]
  simp only []
  rw [ia_ (by omega) (by omega)]
  unfold F_
  simp only [un3]
  rw [dF_ (show ¬(i:Int)+1<=(s.b.length:Int) by omega)]
  refine ⟨(i:Int)+1,(i:Int)+1,?_⟩
  rw [QBH (by omega)]
  rfl
 | succ m ih =>
  intro i st acc f hi hst hacc hf;have hMX:=MXv;obtain ⟨f,rfl⟩:∃g,f=g+1:=⟨f - 1,by omega⟩;have hlt:i<s.b.length:=by omega
  unfold F_
  simp only [un3]
  rw [dT_ (show (i:Int)<=(s.b.length:Int) by omega),show ((i:Int)==(s.b.length:Int))=false by grind,ix_ hlt]
  simp only [fT_,a_,bF_,fF_]
  rw [dC_ hlt,a_6,h_k]
  by_cases hc:s.b[i]=sep
  .rw [dT_ hc,iP_ hc]
   simp only [fT_]
   rw [show c_2 s (st:Int) (i:Int)=some ⟨a_v s.b st i⟩ by grind [c_2,d_G],a_,a_Z (by grind [a_7]),a_,a_]
   simp only
   rw [ia_ (by omega) (by omega),show (i:Int)+1=((i+1:Nat):Int) by omega]
   obtain ⟨x,y,h⟩:=ih (i+1) (i+1) (acc++[⟨a_v s.b st i⟩]) f (by omega) (QAB _) (by grind) (by omega)
   grind [a_v]
  .rw [dF_ hc,iN_ hc]
   simp only [bF_,fF_,a_,un2]
   rw [ia_ (by omega) (by omega),show (i:Int)+1=((i+1:Nat):Int) by omega]
   obtain ⟨x,y,h⟩:=ih (i+1) st acc f (by omega) (by omega) (by omega) (by omega);refine ⟨x,y,h.trans ?_⟩
   have:a_v s.b st (i+1)=a_v s.b st i++[s.b[i]]:=by
    unfold a_v
    rw [h_j hlt,List.drop_append_of_le_length (by simp;omega)]
   rw [this]
theorem q_z {n:Nat}{s:Str}{sep:UInt8}(hs:s.b.length<=MX)(hn:s.b.length+2<=n):i_r n s sep=some (a_6 sep s.b []):=by
 unfold i_r;obtain ⟨x,y,h⟩:=v_R (sep:=sep) hs s.b.length 0 0 [] n (by omega) (QAB _) (by simp) (by omega)
 simp_all [un3,a_v,a_,W_]
def c_h (s:Str):List Str×Bool:=if s.b=[] then ([],true) else if (a_6 47 s.b []).head? = some ⟨[]⟩/\(a_6 47 s.b []).tail.all c_n then ((a_6 47 s.b []).tail,decide<|1<(a_6 47 s.b []).length) else ([],false)
theorem n_C {n:Nat}(hn:30<=n){s:Str}(hs:s.b.length<=MX)(J:s.b.length+2<=n):i_t n s=some (c_h s):=by
 unfold i_t c_h
 by_cases L:s.b=[]
 .grind
 rw [show (s.b==(⟨[]⟩:Str).b)=false by grind,iN_ L,q_z hs J]
 simp only [bF_,fF_,a_]
 have hl:=e_C 47 s.b [];generalize a_6 47 s.b []=l at *
 match l,hl with
 | a::l,hl =>
  rw [b_j (by simp),a_]
  simp only [QAw,List.head?_cons,List.tail_cons,oI_]
  by_cases ha:a.b=[]
  .have ha':a=⟨[]⟩:=by cases a;grind
   rw [iN_ (show ¬(a.b != [])=true by grind)]
   by_cases hall:l.all c_n=true
   .rw [iP_ ⟨ha',hall⟩]
    have:=g_l (σ:=Int) (ρ:=(List Str)×Bool) (step:=λG=>if (decide<|G<((a::l).length:Int)) then bd (idx (a::l) G) λH=>bd (f_k n H) λI=>if (!I) then some (.ret (([]:List Str),false)) else some (.next<|e_ G 1) else some (.brk G))
     (λj=>((j+1:Nat):Int)) (s:=((l.length+1:Nat):Int)) (m:=n) (j0:=l.length) (by grind) (λj hj=>by
      have hMX:=MXv
      simp at hl
      rw [dT_ (by grind),ix_ (by grind)]
      simp only [fT_,a_,QA1,l_D hn,QAz.1 hall _<|gE_ hj,nT_,bF_,fF_]
      grind [d_o]) (by
      simp)
    simp only [QAp,Int.natCast_one] at this
    rw [this,a_,W_]
    rw [show slc (a::l) 1 ((a::l).length:Int)=some l by rw [d_O (by omega) (by omega) (by omega)];simp]
    simp
    omega
   .rw [iN_ (λh=>hall h.2)]
    obtain ⟨j,hj,hjb,hjl⟩:∃j,∃hj:j<l.length,c_n l[j]=false/\∀i (hi:i<j),c_n (l[i]'(by omega))=true:=by
     clear J hs hl L
     induction l with
     | nil=>grind
     | cons c l ih =>
      by_cases hc:c_n c=true
      .obtain ⟨j,hj,h1,h2⟩:=ih (by grind);refine ⟨j+1,by grind,by grind,λi hi=>?_⟩
       grind
      grind
    have:=s_T (σ:=Int) (ρ:=(List Str)×Bool) (step:=λG=>if (decide<|G<((a::l).length:Int)) then bd (idx (a::l) G) λH=>bd (f_k n H) λI=>if (!I) then some (.ret (([]:List Str),false)) else some (.next<|e_ G 1) else some (.brk G))
     (λj=>((j+1:Nat):Int)) (r:=(([]:List Str),false)) (m:=n) (j0:=j) (by grind) (λi hi=>by
      have hMX:=MXv
      simp at hl
      rw [dT_ (by grind),ix_ (by grind)]
      simp only [fT_,a_,QA1,l_D hn,hjl i hi,nT_,bF_,fF_]
      grind [d_o]) (by
      rw [dT_ (by grind),ix_ (by grind)]
      simp_all [a_,l_D])
    simp_all
  grind
end Go.Vw
