
import Derived.Test.YtgpgenigfncgeaaGreatDoorV6
namespace Go.Vw
open Go.RowKit Dat
def d_u (a:Int)(c:UInt8):Int:=10 * a+(byteI c - 48)
def a_4 (l:Bt):Int:=l.foldl d_u 0
theorem t_H (k:Nat):∀x,x<10 ^ (k+1)->1<=(Lib.decDigits x).length/\(Lib.decDigits x).length<=k+1:=by
 induction k with
 | zero=>intro x h;rw [Lib.decDigits,dif_pos (by omega)];simp
 | succ k ih =>
  intro x h
  rw [Lib.decDigits]
  split
  .simp
  .have:=ih (x / 10) (by rw [Nat.pow_succ] at h;omega)
   simp;omega
theorem o_I (x:Nat):Lib.itoa x=Lib.decDigits x:=by unfold Lib.itoa;rw [iN_ (by omega)];simp
theorem o_J {n:Nat}(hn:30<=n)(i:Nat)(hi:i<=1000000000000):d_C n i=some ⟨Lib.itoa i⟩:=by
 unfold d_C Lib.itoa
 rw [iN_ (show ¬(i:Int)<0 by omega)]
 by_cases h:i=0
 .subst h
  rw [show ((((0:Nat):Int)).toNat)=0 from rfl,Lib.decDigits,dif_pos (by omega)]
  rfl
 .rw [show ((i:Int)==0)=false by simp;omega]
  simp only [bF_,fF_]
  rw [n_7 20 i (by omega) (by omega) (by omega) ⟨[]⟩ n (by omega) (by simp),dF_ (show ¬(i:Int)<0 by omega)]
  simp
theorem h_Q (l:Bt)(h:∀c∈l,a_Y c=true):0<=a_4 l/\a_4 l<10 ^ l.length:=by
 have key:∀(l:Bt)(a:Int),(∀c∈l,a_Y c=true)->0<=a->0<=l.foldl d_u a/\l.foldl d_u a<(a+1) * 10 ^ l.length:=by
  intro l
  induction l with
  | nil=>intro a _ G;simp;omega
  | cons c l ih =>
   intro a h G;have hc:=h c mS_
   rw [f_v] at hc
   simp only [aE_,dE_] at hc
   have hb:byteI c=(c.toNat:Int):=rfl;have:=ih (d_u a c) (λc hc=>h c<|mT_ _ hc) (by unfold d_u;omega);refine ⟨this.1,Int.lt_of_lt_of_le this.2 ?_⟩
   rw [lC_,Int.pow_succ,← Int.mul_assoc,Int.mul_assoc,Int.mul_comm ((10:Int) ^ l.length) 10,← Int.mul_assoc]
   refine Int.mul_le_mul_of_nonneg_right ?_<|Int.le_of_lt<|Int.pow_pos (by decide);unfold d_u;omega
 have:=key l 0 h<|Int.le_refl 0
 simpa [a_4] using this
theorem g_s {α:Type}{l:List α}{k:Nat}(h:k<l.length):l.take (k+1)=l.take k++[l[k]]:=by rw [List.take_add_one,gG_ h];rfl
def d_v (s:Str):Int×Bool:=if (1<=s.b.length/\s.b.length<=13)/\(∀c∈s.b,a_Y c=true)/\a_4 s.b<=1000000000000/\Lib.itoa (a_4 s.b)=s.b then (a_4 s.b,true) else (0,false)
theorem o_K {s:Str}(h:(1<=s.b.length/\s.b.length<=13)/\(∀c∈s.b,a_Y c=true)/\a_4 s.b<=1000000000000/\Lib.itoa (a_4 s.b)=s.b):d_v s=(a_4 s.b,true):=iP_ h
theorem e_t {s:Str}(h:¬((1<=s.b.length/\s.b.length<=13)/\(∀c∈s.b,a_Y c=true)/\a_4 s.b<=1000000000000/\Lib.itoa (a_4 s.b)=s.b)):d_v s=(0,false):=iN_ h
theorem o_L {c:UInt8}(h:a_Y c=true):byteI (mkB<|byteI c - byteI (48:UInt8))=byteI c - 48:=by
 rw [f_v] at h
 simp only [aE_,dE_] at h
 have hb:byteI c=(c.toNat:Int):=rfl;have G:byteI (48:UInt8)=48:=rfl
 rw [m_j,G]
 unfold IntKind.wrap
 simp [IntKind.bits,IntKind.signed]
 omega
theorem o_M {n:Nat}(hn:30<=n)(s:Str):g_N n s=some (d_v s):=by
 unfold g_N
 rw [b_u,bd_some]
 by_cases hl:1<=s.b.length/\s.b.length<=13
 .rw [dT_ (show (1:Int)<=(s.b.length:Int) by omega),dT_ (show (s.b.length:Int)<=13 by omega)]
  simp only [Bool.and_self,nT_,bF_,fF_]
  have hp:∀k,k<=s.b.length->(∀c∈s.b.take k,a_Y c=true)->0<=a_4 (s.b.take k)/\a_4 (s.b.take k)<10 ^ 13:=λk hk hd=>by
   have:=h_Q _ hd;refine ⟨this.1,Int.lt_of_lt_of_le this.2 ?_⟩
   exact_mod_cast Nat.pow_le_pow_right (by decide) (by simp;omega)
  rcases f_x (σ:=Int) (ρ:=Int×Bool) (I:=λk x=>x=a_4 (s.b.take k)/\∀c∈s.b.take k,a_Y c=true) (R:=λr=>r=(0,false)/\¬∀c∈s.b,a_Y c=true)
   (body:=λG=>(λO=>bd (idx s.b ((G:Nat):Int)) λH=>bd (a_I (byteI H) 48 57) λJ=>if (!J) then some (.ret (0,false)) else bd (idx s.b ((G:Nat):Int)) λL=>some<|.next<|b_ (b_e 10 O)<|byteI<|mkB<|byteI L - byteI (48:UInt8))) (n:=s.b.length)
   (λk x hk ⟨hx,hd⟩=>by
    subst hx
    simp only [ix_ hk,bd_some,b_u]
    have he:(decide (48<=byteI s.b[k]) && decide (byteI s.b[k]<=57))=a_Y s.b[k]:=rfl
    rw [he]
    by_cases hc:a_Y s.b[k]=true
    .left
     rw [hc]
     simp only [nT_,bF_,fF_]
     have h1:=hp k (by omega) hd;have h2:=hc
     rw [f_v] at h2
     simp only [aE_,dE_] at h2
     have hb:byteI s.b[k]=(s.b[k].toNat:Int):=rfl
     rw [o_L hc,i_2 (by omega) (by omega),ia_ (by omega) (by omega)]
     refine ⟨_,rfl,?_,?_⟩
     .unfold a_4;rw [e_S _ _ hk];rfl
     .intro c hcm
      rw [g_s hk] at hcm
      simp only [List.mem_append,List.mem_singleton] at hcm
      rcases hcm with hcm | rfl
      .exact hd c hcm
      .exact hc
    .right
     rw [show a_Y s.b[k]=false by simpa using hc]
     exact ⟨_,rfl,rfl,λh=>hc (h _ (gE_ hk))⟩) s.b.length 0 0 (by omega) ⟨rfl,by simp⟩ with ⟨x,h1,h2,h3⟩ | ⟨r,h1,rfl,h3⟩
  .rw [h1,bd_some,el_inl]
   rw [List.take_length] at h2 h3
   subst h2;have hb:=hp s.b.length (Nat.le_refl _) (by rw [List.take_length];exact h3)
   rw [List.take_length] at hb
   by_cases hm:a_4 s.b<=1000000000000
   .obtain ⟨v,hv⟩:∃v:Nat,a_4 s.b=v:=⟨(a_4 s.b).toNat,by omega⟩;have hf:d_C n (a_4 s.b)=some ⟨Lib.itoa<|a_4 s.b⟩:=by rw [hv];exact o_J hn v (by omega)
    rw [dF_ (show ¬1000000000000<a_4 s.b by omega),hf]
    simp only [bF_,fF_,bd_some]
    by_cases he:Lib.itoa (a_4 s.b)=s.b
    .rw [o_K ⟨hl,h3,by omega,he⟩,show (Lib.itoa (a_4 s.b) != s.b)=false by simpa using he];rfl
    .rw [e_t (λh=>he h.2.2.2),show (Lib.itoa (a_4 s.b) != s.b)=true by simpa using he];rfl
   .rw [dT_ (show 1000000000000<a_4 s.b by omega),e_t<|λh=>hm h.2.2.1];rfl
  .rw [h1,bd_some,el_inr,e_t<|λh=>h3 h.2.1]
 .rw [e_t (λh=>hl h.1)]
  have:(decide ((1:Int)<=(s.b.length:Int)) && decide ((s.b.length:Int)<=13))=false:=by
   rw [Bool.and_eq_false_iff]
   simp only [decide_eq_false_iff_not]
   omega
  rw [this];rfl
def c_w (s:Str):Bool:=(b_8 s || (s.b==[42] || (s.b==[63] || s.b==[43]))) || (d_v s).2
theorem k_D {n:Nat}(hn:30<=n)(s:Str):e_z n s=some (c_w s):=by
 unfold e_z c_w
 rw [k_y,bd_some,o_M hn]
 have hp:(d_v s).2=true->bd (d_C n (d_v s).1) (λG=>some<|G.b==s.b)=some true:=λh=>by
  unfold d_v at h ⊢
  split at h
  .rename_i hc
   rw [iP_ hc]
   have hb:=h_Q _ hc.2.1;obtain ⟨v,hv⟩:∃v:Nat,a_4 s.b=v:=⟨(a_4 s.b).toNat,by omega⟩;have he:=hc.2.2.2;have hm:=hc.2.2.1
   simp only
   rw [hv] at he hm ⊢
   rw [o_J hn v (by omega),bd_some,he];simp
  .cases h
 generalize d_v s=x at *
 obtain ⟨v,ok⟩:=x
 simp only at hp
 cases b_8 s <;> cases (s.b==[42]) <;> cases (s.b==[63]) <;> cases (s.b==[43]) <;> first | rfl | (cases ok;rfl;simp only [bd2_some,fT_,bd_some,Bool.or_self,bF_,fF_,hp,Bool.or_true])
def a_e (sep:UInt8):Bt->Bt->List Str
 | [],cur=>[⟨cur⟩]
 | c::r,cur=>if c=sep then ⟨cur⟩::a_e sep r [] else a_e sep r (cur++[c])
theorem e_0 (sep:UInt8):∀(l cur:Bt),1<=(a_e sep l cur).length/\(a_e sep l cur).length<=l.length+1
 | [],_=>by simp [a_e]
 | c::r,cur=>by
  unfold a_e
  split
  .have:=e_0 sep r [];simp;omega
  .have:=e_0 sep r<|cur++[c];simp;omega
theorem t_I {s:Str}{sep:UInt8}(hs:s.b.length<=MX):∀(m i st:Nat)(acc:List Str)(f:Nat),i+m=s.b.length->st<=i->acc.length<=i->m+2<=f ->
  ∃x y,I_ (σ:=(List Str)×Int×Int) (ρ:=List Str) (un3 λH I G=>if (decide<|G<=(s.b.length:Int)) then bd (α:=Bool) (if (G==(s.b.length:Int)) then some true else bd (idx s.b G) λJ=>some<|(byteI J)==(byteI sep)) (λL=>bd (α:=(List Str)×Int) (if L then bd (b_X s I G) λO=>bd (psh H O) λV=>some (V,b_ G 1) else some (H,I))<|un2 λW Y=>some<|.next (W,Y,b_ G 1)) else some (.brk (H,I,G))) f (acc,(st:Int),(i:Int))=some (.inl (acc++a_e sep (s.b.drop i) (a_m s.b st i),x,y)):=by
 intro m
 induction m with
 | zero =>
  intro i st acc f hi hst hacc hf;have hMX:=MXv;obtain ⟨f,rfl⟩:∃g,f=g+2:=⟨f - 2,by omega⟩;have hi':i=s.b.length:=by omega
  unfold I_
  simp only [un3]
  rw [dT_ (show (i:Int)<=(s.b.length:Int) by omega),show ((i:Int)==(s.b.length:Int))=true by rw [hi'];simp]
  simp only [fT_,bd_some]
  rw [show b_X s (st:Int) (i:Int)=some ⟨a_m s.b st i⟩ by unfold b_X;rw [d_x hst (by omega)];rfl,bd_some,b_o (by rw [a_o];omega),bd_some,bd_some]
  simp only []
  rw [ia_ (by omega) (by omega)]
  unfold I_
  simp only [un3]
  rw [dF_ (show ¬(i:Int)+1<=(s.b.length:Int) by omega)]
  refine ⟨(i:Int)+1,(i:Int)+1,?_⟩
  rw [List.drop_eq_nil_of_le (by omega)]
  rfl
 | succ m ih =>
  intro i st acc f hi hst hacc hf;have hMX:=MXv;obtain ⟨f,rfl⟩:∃g,f=g+1:=⟨f - 1,by omega⟩;have hlt:i<s.b.length:=by omega
  unfold I_
  simp only [un3]
  rw [dT_ (show (i:Int)<=(s.b.length:Int) by omega),show ((i:Int)==(s.b.length:Int))=false by simp;omega,ix_ hlt]
  simp only [fT_,bd_some,bF_,fF_]
  rw [dC_ hlt,a_e,g_t]
  by_cases hc:s.b[i]=sep
  .rw [dT_ hc,iP_ hc]
   simp only [fT_]
   rw [show b_X s (st:Int) (i:Int)=some ⟨a_m s.b st i⟩ by unfold b_X;rw [d_x hst (by omega)];rfl,bd_some,b_o (by rw [a_o];omega),bd_some,bd_some]
   simp only
   rw [ia_ (by omega) (by omega),show (i:Int)+1=((i+1:Nat):Int) by omega]
   obtain ⟨x,y,h⟩:=ih (i+1) (i+1) (acc++[⟨a_m s.b st i⟩]) f (by omega) (Nat.le_refl _) (by simp;omega) (by omega);refine ⟨x,y,h.trans ?_⟩;have:a_m s.b (i+1) (i+1)=[]:=by unfold a_m;simp
   rw [this];simp
  .rw [dF_ hc,iN_ hc]
   simp only [bF_,fF_,bd_some,un2]
   rw [ia_ (by omega) (by omega),show (i:Int)+1=((i+1:Nat):Int) by omega]
   obtain ⟨x,y,h⟩:=ih (i+1) st acc f (by omega) (by omega) (by omega) (by omega);refine ⟨x,y,h.trans ?_⟩
   have:a_m s.b st (i+1)=a_m s.b st i++[s.b[i]]:=by
    unfold a_m
    rw [g_s hlt,List.drop_append_of_le_length (by simp;omega)]
   rw [this]
theorem o_N {n:Nat}{s:Str}{sep:UInt8}(hs:s.b.length<=MX)(hn:s.b.length+2<=n):g_M n s sep=some (a_e sep s.b []):=by
 unfold g_M;obtain ⟨x,y,h⟩:=t_I (sep:=sep) hs s.b.length 0 0 [] n (by omega) (Nat.le_refl _) (by simp) (by omega);have h':=h
 simp only [Int.natCast_zero] at h'
 rw [h',bd_some,el_inl]
 simp [un3,a_m]
def e_1 (s:Str):List Str×Bool:=if s.b=[] then ([],true) else if (a_e 47 s.b []).head? = some ⟨[]⟩/\(a_e 47 s.b []).tail.all c_w then ((a_e 47 s.b []).tail,decide<|1<(a_e 47 s.b []).length) else ([],false)
theorem t_J {n:Nat}(hn:30<=n){s:Str}(hs:s.b.length<=MX)(L:s.b.length+2<=n):i_c n s=some (e_1 s):=by
 unfold i_c e_1
 by_cases H:s.b=[]
 .rw [H];rfl
 rw [show (s.b==(⟨[]⟩:Str).b)=false by simpa using H,iN_ H,o_N hs L]
 simp only [bF_,fF_,bd_some]
 have hl:=e_0 47 s.b [];generalize a_e 47 s.b []=l at *
 match l,hl with
 | a::l,hl =>
  rw [b_W (by simp),bd_some]
  simp only [List.getElem_cons_zero,List.head?_cons,List.tail_cons,oI_]
  by_cases ha:a.b=[]
  .have ha':a=⟨[]⟩:=by cases a;simpa using ha
   rw [iN_ (show ¬(a.b != [])=true by simpa using ha)]
   by_cases hall:l.all c_w=true
   .rw [iP_ ⟨ha',hall⟩]
    have:=f_4 (σ:=Int) (ρ:=(List Str)×Bool) (step:=λG=>if (decide<|G<((a::l).length:Int)) then bd (idx (a::l) G) λI=>bd (e_z n I) λJ=>if (!J) then some (.ret (([]:List Str),false)) else some (.next<|b_ G 1) else some (.brk G))
     (λj=>((j+1:Nat):Int)) (s:=((l.length+1:Nat):Int)) (m:=n) (j0:=l.length) (by simp at hl;omega) (λj hj=>by
      have hMX:=MXv
      simp at hl
      rw [dT_ (by simp;omega),ix_ (by simp;omega)]
      simp only [fT_,bd_some,List.getElem_cons_succ,k_D hn,List.all_eq_true.1 hall _<|gE_ hj,nT_,bF_,fF_]
      rw [ia_ (by omega) (by omega)];rfl) (by
      rw [dF_ (by simp)];rfl)
    simp only [Nat.zero_add,Int.natCast_one] at this
    rw [this,bd_some,el_inl]
    rw [show slc (a::l) 1 ((a::l).length:Int)=some l by rw [d_e (by omega) (by simp;omega) (by omega)];simp]
    simp
    omega
   .rw [iN_ (λh=>hall h.2)]
    obtain ⟨j,hj,hjb,hjl⟩:∃j,∃hj:j<l.length,c_w l[j]=false/\∀i (hi:i<j),c_w (l[i]'(by omega))=true:=by
     clear L hs hl H
     induction l with
     | nil=>simp at hall
     | cons c l ih =>
      by_cases hc:c_w c=true
      .obtain ⟨j,hj,h1,h2⟩:=ih (by simpa [hc] using hall);refine ⟨j+1,by simp;omega,by simpa using h1,λi hi=>?_⟩
       cases i with
       | zero=>simpa using hc
       | succ i=>simpa using h2 i (by omega)
      .exact ⟨0,by simp,by simpa using hc,λi hi=>by omega⟩
    have:=q_v (σ:=Int) (ρ:=(List Str)×Bool) (step:=λG=>if (decide<|G<((a::l).length:Int)) then bd (idx (a::l) G) λI=>bd (e_z n I) λJ=>if (!J) then some (.ret (([]:List Str),false)) else some (.next<|b_ G 1) else some (.brk G))
     (λj=>((j+1:Nat):Int)) (r:=(([]:List Str),false)) (m:=n) (j0:=j) (by simp at hl;omega) (λi hi=>by
      have hMX:=MXv
      simp at hl
      rw [dT_ (by simp;omega),ix_ (by simp;omega)]
      simp only [fT_,bd_some,List.getElem_cons_succ,k_D hn,hjl i hi,nT_,bF_,fF_]
      rw [ia_ (by omega) (by omega)];rfl) (by
      rw [dT_ (by simp;omega),ix_ (by simp;omega)]
      simp only [fT_,bd_some,List.getElem_cons_succ,k_D hn,hjb,Bool.not_false])
    simp only [Nat.zero_add,Int.natCast_one] at this
    rw [this,bd_some,el_inr]
  .rw [iP_ (show (a.b != [])=true by simpa using ha),iN_<|λh=>ha (by rw [h.1])]
end Go.Vw
