
import Derived.Test.YteocmnebeeammaaGreatDoorVwP26
namespace Go.Vw
open Go.RowKit Dat
def h_0 (p s:Str):Bool:=if p.b=[35] then (c_e s).2 else p.b==s.b
def c_R (p:Str)(steps:List Str)(reach:List Bool):Nat->Bool
 | 0=>if p.b=[46,46] then reach.getD 0 false else false
 | k+1=>if p.b=[46,46] then reach.getD (k+1) false || c_R p steps reach k else reach.getD k false && h_0 p (steps.getD k ⟨[]⟩)
def b_z (f:Nat->Bool)(n k:Nat):List Bool:=(List.range k).map f++List.replicate (n - k) false
theorem n_Q {f:Nat->Bool}{n k:Nat}(h:k<=n):(b_z f n k).length=n:=by unfold b_z;simp;omega
theorem s_0 (f:Nat->Bool)(n:Nat):b_z f n 0=List.replicate n false:=by unfold b_z;simp
theorem n_R (f:Nat->Bool)(n:Nat):b_z f n n=(List.range n).map f:=by unfold b_z;simp
theorem n_S {f:Nat->Bool}{n k:Nat}(h:k<n):b_z f n k=(List.range k).map f++false::List.replicate (n - (k+1)) false:=by
 unfold b_z
 rw [show n - k=(n - (k+1))+1 by omega,List.replicate_succ]
theorem n_T {f:Nat->Bool}{n k:Nat}:b_z f n (k+1)=(List.range k).map f++f k::List.replicate (n - (k+1)) false:=by
 unfold b_z
 rw [List.range_succ,List.map_append,List.append_assoc];rfl
theorem c_A {f:Nat->Bool}{n k:Nat}(h:k<n){x:Bool}(hx:x=f k):upd (b_z f n k) (k:Int) x=some (b_z f n<|k+1):=by
 subst hx
 rw [c_D (by rw [n_Q (by omega)];omega),n_S h,n_T]
 congr 1
 simp
theorem l_7 {f:Nat->Bool}{n k:Nat}(h:k<n)(hx:f k=false):b_z f n k=b_z f n (k+1):=by
 rw [n_S h,n_T,hx]
theorem n_U {f:Nat->Bool}{n k j:Nat}(hj:j<k)(h:k<=n):idx (b_z f n k) (j:Int)=some (f j):=by
 rw [ix_ (by rw [n_Q h];omega)]
 unfold b_z
 rw [List.getElem_append_left (by simpa using hj)]
 simp
def rowL (p:Str)(steps:List Str)(reach:List Bool):List Bool:=(List.range<|steps.length+1).map (c_R p steps reach)
def d_A (pat steps:List Str)(k:Nat):List Bool:=(pat.take k).foldl (λr p=>rowL p steps r) (true::List.replicate steps.length false)
def l_8 (pat steps:List Str):Bool:=(d_A pat steps pat.length).getD steps.length false
theorem j_q (pat steps:List Str)(k:Nat):(d_A pat steps k).length=steps.length+1:=by
 unfold d_A;generalize pat.take k=l
 have key:∀(l:List Str)(r:List Bool),r.length=steps.length+1->(l.foldl (λr p=>rowL p steps r) r).length=steps.length+1:=by
  intro l
  induction l with
  | nil=>intro r h;exact h
  | cons p l ih=>intro r _;exact ih _ (by unfold rowL;simp)
 exact key l _ (by simp)
theorem n_V {pat steps:List Str}{k:Nat}(hk:k<pat.length):d_A pat steps (k+1)=rowL pat[k] steps (d_A pat steps k):=by
 unfold d_A
 rw [f_7 hk,List.foldl_append];rfl
theorem f_U {r:List Bool}{k:Nat}(h:k<r.length):idx r (k:Int)=some (r.getD k false):=by
 rw [ix_ h];simp [h]
theorem n_W {steps:List Str}(hs:steps.length<=MX+1):mk0 false (g_ (steps.length:Int) 1)=some (List.replicate (steps.length+1) false)/\upd (List.replicate (steps.length+1) false) 0 true=some (true::List.replicate steps.length false):=by
 have hMX:=MXv
 rw [ia_ (by omega) (by omega),show (steps.length:Int)+1=((steps.length+1:Nat):Int) by omega]
 refine ⟨g_1 (by rw [a_L];omega),?_⟩;have:=c_D (l:=List.replicate (steps.length+1) false) (k:=0) (x:=true) (by simp)
 rw [show (0:Int)=((0:Nat):Int) from rfl,this,List.replicate_succ];rfl
section
variable {pat steps:List Str}
theorem n_X {p:Str}{r:List Bool}(h:p.b=[46,46])(k:Nat):c_R p steps r k=(r.getD k false || (decide (0<k) && c_R p steps r (k - 1))):=by
 cases k with
 | zero=>simp [c_R,h]
 | succ k=>rw [c_R,iP_ h,Nat.add_sub_cancel,dT_<|Nat.succ_pos k,Bool.true_and]
theorem n_Y {p:Str}{r:List Bool}(h:p.b ≠ [46,46])(k:Nat):c_R p steps r k=(decide (0<k) && (r.getD (k - 1) false && h_0 p (steps.getD (k - 1) ⟨[]⟩))):=by
 cases k with
 | zero=>simp [c_R,h]
 | succ k=>rw [c_R,iN_ h,Nat.add_sub_cancel,dT_<|Nat.succ_pos k,Bool.true_and]
theorem j_r {k:Nat}(h:0<k)(hk:k<=1048580):K_ (k:Int) 1=((k - 1:Nat):Int):=by
 rw [b_n (by omega) (by omega)];omega
theorem s_1 {n:Nat}(hn:1048600<=n)(hs:steps.length<=MX+1):i_2 n pat steps=some (l_8 pat steps):=by
 have hMX:=MXv;unfold i_2;obtain ⟨I,J⟩:=n_W hs
 simp only [I,bd_some,J]
 refine (congrArg (λz=>bd z _)<|f_6 (λk=>d_A pat steps k) (n:=pat.length) rfl<|λk hk=>?_).trans ?_
 .have hrl:=j_q pat steps k
  simp only [ix_ hk,bd_some]
  rw [n_V hk]
  generalize d_A pat steps k=r at *
  generalize hp:pat[k]=p;refine (congrArg (λz=>bd z _)<|j_G (λj=>(b_z (c_R p steps r) (steps.length+1) j,((j:Nat):Int))) (s:=(b_z (c_R p steps r) (steps.length+1)<|steps.length+1,((steps.length+1:Nat):Int))) (m:=n) (j0:=steps.length+1) (by omega) (λj hj=>?_) ?_).trans ?_
  .simp only [un2]
   rw [dT_ (show (j:Int)<=(steps.length:Int) by omega),ia_ (x:=(j:Int)) (by omega) (by omega)]
   simp only [fT_]
   by_cases hd:p.b=[46,46]
   .rw [show (p.b==[46,46])=true by simpa using hd,f_U (show j<r.length by omega)]
    simp only [fT_,bd_some]
    have hrow:=n_X (steps:=steps) (r:=r) hd j
    cases hb:r.getD j false with
    | true =>
     simp only [fT_]
     rw [c_A (by omega) (by rw [hrow,hb];rfl)]
     rfl
    | false =>
     rw [hb,Bool.false_or] at hrow
     simp only [bF_,fF_]
     by_cases H:0<j
     .rw [dT_ (show (0:Int)<(j:Int) by omega),j_r H (by omega),n_U (by omega) (by omega),bd_some,c_A (by omega) (by rw [hrow,dT_ H];rfl)]
      rfl
     .rw [dF_ (show ¬(0:Int)<(j:Int) by omega),c_A (by omega) (by rw [hrow,dF_ H];rfl)]
      rfl
   .rw [show (p.b==[46,46])=false by simpa using hd]
    simp only [bF_,fF_]
    have hrow:=n_Y (steps:=steps) (r:=r) hd j
    by_cases H:0<j
    .rw [show ((j:Int)==0)=false by simp;omega,j_r H (by omega),f_U (show j - 1<r.length by omega)]
     simp only [bF_,fF_,bd_some]
     rw [dT_ H,Bool.true_and] at hrow
     cases hb:r.getD (j - 1) false with
     | false =>
      rw [hb,Bool.false_and] at hrow
      simp only [Bool.not_false,fT_,bd_some]
      rw [l_7 (by omega) hrow];rfl
     | true =>
      rw [hb,Bool.true_and] at hrow
      have hst:j - 1<steps.length:=by omega
      simp only [nT_,bF_,fF_,ix_ hst,bd_some,n_g (show 30<=n by omega)]
      have hg:steps.getD (j - 1) ⟨[]⟩=steps[j - 1]:=by simp [hst]
      rw [hg] at hrow
      rcases hps:c_e steps[j - 1] with ⟨x,ok⟩
      simp only [bd2_some]
      unfold h_0 at hrow
      rw [hps] at hrow
      by_cases G:p.b=[35]
      .rw [show (p.b==[35])=true by simpa using G,show (p.b != [35])=false by simpa using G]
       rw [iP_ G] at hrow
       cases ok with
       | true =>
        simp only [fT_]
        rw [c_A (by omega) hrow.symm];rfl
       | false =>
        simp only [fT_,bF_,fF_]
        split
        .rw [c_A (by omega) hrow.symm];rfl
        .rw [c_A (by omega) hrow.symm];rfl
      .rw [show (p.b==[35])=false by simpa using G,show (p.b != [35])=true by simpa using G]
       rw [iN_ G] at hrow
       simp only [bF_,fF_]
       split
       .rename_i he
        rw [he] at hrow
        rw [c_A (by omega) hrow.symm];rfl
       .rename_i he
        rw [show (p.b==steps[j - 1].b)=false by simpa using he] at hrow
        rw [c_A (by omega) hrow.symm];rfl
    .have:j=0:=by omega
     subst this
     simp only [Int.natCast_zero,bQ_,fT_,bd_some]
     rw [l_7 (by omega) (by rw [hrow];rfl)];rfl
  .simp only [un2]
   rw [dF_ (by omega)];rfl
  .rw [bd_some,el_inl]
   simp only [un2]
   rw [n_R];rfl
 .rw [bd_some,el_inl,f_U (by rw [j_q];omega)]
  rfl
theorem s_2 {k:Nat}(hk:k<pat.length)(s:Str):i_6 pat (k:Int) s=some (h_0 pat[k] s):=by
 unfold i_6 h_0
 rw [ix_ hk,bd_some,k_V]
 by_cases h:pat[k].b=[35]
 .rw [show (pat[k].b==[35])=true by simpa using h,iP_ h];rfl
 .rw [show (pat[k].b==[35])=false by simpa using h,iN_ h];rfl
theorem s_3 (hs:steps.length<=MX+1):i_7 pat steps=some (l_8 pat steps):=by
 have hMX:=MXv;unfold i_7 j_X;obtain ⟨H,I⟩:=n_W hs
 simp only [H,bd_some,I]
 refine (congrArg (λz=>bd (bd z _) _)<|f_6 (λk=>d_A pat steps k) (n:=pat.length) rfl<|λk hk=>?_).trans ?_
 .have hrl:=j_q pat steps k
  simp only [ix_ hk,bd_some,s_2 hk]
  rw [n_V hk]
  generalize d_A pat steps k=r at *
  generalize hp:pat[k]=p;refine (congrArg (λz=>bd z _)<|f_6 (λj=>b_z (c_R p steps r) (steps.length+1) j) (n:=r.length) (by rw [s_0])<|λj hj=>?_).trans ?_
  .by_cases hd:p.b=[46,46]
   .rw [show (p.b==[46,46])=true by simpa using hd,f_U hj]
    simp only [fT_,bd_some]
    have hrow:=n_X (steps:=steps) (r:=r) hd j
    cases hb:r.getD j false with
    | true =>
     simp only [fT_]
     rw [c_A (by omega) (by rw [hrow,hb];rfl)]
     rfl
    | false =>
     rw [hb,Bool.false_or] at hrow
     simp only [bF_,fF_]
     by_cases G:0<j
     .rw [dT_ (show (0:Int)<(j:Int) by omega),j_r G (by omega),n_U (by omega) (by omega),bd_some,c_A (by omega) (by rw [hrow,dT_ G];rfl)]
      rfl
     .rw [dF_ (show ¬(0:Int)<(j:Int) by omega),c_A (by omega) (by rw [hrow,dF_ G];rfl)]
      rfl
   .rw [show (p.b==[46,46])=false by simpa using hd]
    simp only [bF_,fF_]
    have hrow:=n_Y (steps:=steps) (r:=r) hd j
    by_cases G:0<j
    .rw [dT_ (show (0:Int)<(j:Int) by omega),j_r G (by omega),f_U (show j - 1<r.length by omega)]
     simp only [fT_,bd_some]
     rw [dT_ G,Bool.true_and] at hrow
     cases hb:r.getD (j - 1) false with
     | false =>
      rw [hb,Bool.false_and] at hrow
      simp only [bF_,fF_]
      rw [c_A (by omega) hrow.symm];rfl
     | true =>
      rw [hb,Bool.true_and] at hrow
      have hst:j - 1<steps.length:=by omega
      have hg:steps.getD (j - 1) ⟨[]⟩=steps[j - 1]:=by simp [hst]
      rw [hg] at hrow
      simp only [fT_,ix_ hst,bd_some]
      rw [c_A (by omega) hrow.symm];rfl
    .have:j=0:=by omega
     subst this
     rw [dF_ (by omega)]
     simp only [bF_,fF_,bd_some]
     rw [l_7 (by omega) (by rw [hrow];rfl)]
  .rw [bd_some,el_inl,hrl,n_R];rfl
 .rw [bd_some,el_inl,f_U (by rw [j_q];omega),bd_some,bd_some]
  rfl
def d_B (pattern path:Str):Bool:=match f_9 pattern with
 | some l=>(b_E path).2 && l_8 l (b_E path).1
 | none=>false
theorem n_Z (s:Str):(b_E s).1.length<=s.b.length+1:=by
 have h:=(d_z 47 s.b []).2;unfold b_E
 split
 .simp
 .split
  .simp only [List.length_tail];omega
  .simp
theorem s_4 {n:Nat}(hn:1048600<=n){pattern path:Str}(h1:pattern.b.length<=MX)(h2:path.b.length<=MX):i_3 n pattern path=some (d_B pattern path):=by
 have hMX:=MXv;unfold i_3 d_B;obtain ⟨⟨l,ok⟩,H,G⟩:=r_X (n:=n) (by omega) h1 (by omega)
 rw [H,k_R (by omega) h2 (by omega)]
 have hl:=n_Z path
 rcases hsp:b_E path with ⟨m,is⟩
 rw [hsp] at hl
 have hl':m.length<=path.b.length+1:=hl
 simp only [bd2_some]
 cases hp:f_9 pattern with
 | none =>
  rw [hp] at G
  have:ok=false:=G;subst this;rfl
 | some q =>
  rw [hp] at G
  have:(l,ok)=(q,true):=G
  cases this
  cases is with
  | false=>rfl
  | true =>
   simp only [fT_]
   rw [s_1 hn (by omega)];rfl
theorem s_5 {n:Nat}(hn:1048600<=n){pattern path:Str}(h1:pattern.b.length<=MX)(h2:path.b.length<=MX):i_8 n pattern path=some (d_B pattern path):=by
 have hMX:=MXv;unfold i_8 d_B;obtain ⟨⟨l,ok⟩,H,G⟩:=r_Z (n:=n) (by omega) h1
 rw [H,n_s (by omega) h2]
 have hl:=n_Z path
 rcases hsp:b_E path with ⟨m,is⟩
 rw [hsp] at hl
 have hl':m.length<=path.b.length+1:=hl
 simp only [bd2_some]
 cases hp:f_9 pattern with
 | none =>
  rw [hp] at G
  have:ok=false:=G;subst this;rfl
 | some q =>
  rw [hp] at G
  have:(l,ok)=(q,true):=G
  cases this
  cases is with
  | false=>rfl
  | true =>
   simp only [fT_]
   rw [s_3 (by omega)];rfl
end
end Go.Vw
