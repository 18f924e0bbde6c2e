
import Derived.Test.YtajhmimbhplkfaaGreatDoorVb
namespace Go.Vw
open Go.RowKit Dat
def h_t (p s:Str):Bool:=if p.b=[35] then (d_p s).2 else p.b==s.b
def c_X (p:Str)(steps:List Str)(reach:List Bool):Nat->Bool
 | 0=>if p.b=[46,46] then reach.getD 0 false else false
 | k+1=>if p.b=[46,46] then reach.getD (k+1) false || c_X p steps reach k else reach.getD k false && h_t p (steps.getD k ⟨[]⟩)
def b_I (f:Nat->Bool)(n k:Nat):List Bool:=(List.range k).map f++List.replicate (n - k) false
theorem o_2 {f:Nat->Bool}{n k:Nat}(h:k<=n):(b_I f n k).length=n:=by unfold b_I;simp;omega
theorem s_p (f:Nat->Bool)(n:Nat):b_I f n 0=List.replicate n false:=by unfold b_I;simp
theorem o_3 (f:Nat->Bool)(n:Nat):b_I f n n=(List.range n).map f:=by unfold b_I;simp
theorem o_4 {f:Nat->Bool}{n k:Nat}(h:k<n):b_I f n k=(List.range k).map f++false::List.replicate (n - (k+1)) false:=by
 unfold b_I
 rw [show n - k=(n - (k+1))+1 by omega,List.replicate_succ]
theorem o_5 {f:Nat->Bool}{n k:Nat}:b_I f n (k+1)=(List.range k).map f++f k::List.replicate (n - (k+1)) false:=by
 unfold b_I
 rw [List.range_succ,List.map_append,List.append_assoc];rfl
theorem c_A {f:Nat->Bool}{n k:Nat}(h:k<n){x:Bool}(hx:x=f k):upd (b_I f n k) (k:Int) x=some (b_I f n<|k+1):=by
 subst hx
 rw [d_P (by rw [o_2 (by omega)];omega),o_4 h,o_5]
 congr 1
 simp
theorem l_C {f:Nat->Bool}{n k:Nat}(h:k<n)(hx:f k=false):b_I f n k=b_I f n (k+1):=by
 rw [o_4 h,o_5,hx]
theorem o_6 {f:Nat->Bool}{n k j:Nat}(hj:j<k)(h:k<=n):idx (b_I f n k) (j:Int)=some (f j):=by
 rw [ix_ (by rw [o_2 h];omega)]
 unfold b_I
 rw [List.getElem_append_left (by simpa using hj)]
 simp
def rowL (p:Str)(steps:List Str)(reach:List Bool):List Bool:=(List.range<|steps.length+1).map (c_X p steps reach)
def d_L (pat steps:List Str)(k:Nat):List Bool:=(pat.take k).foldl (fun r p=>rowL p steps r) (true::List.replicate steps.length false)
def l_D (pat steps:List Str):Bool:=(d_L pat steps pat.length).getD steps.length false
theorem j_X (pat steps:List Str)(k:Nat):(d_L pat steps k).length=steps.length+1:=by
 unfold d_L;generalize pat.take k=l
 have key:∀(l:List Str)(r:List Bool),r.length=steps.length+1->(l.foldl (fun r p=>rowL p steps r) r).length=steps.length+1:=by
  intro l
  induction l with
  | nil=>intro r h;exact h
  | cons p l ih=>intro r _;exact ih _ (by unfold rowL;simp)
 exact key l _ (by simp)
theorem o_7 {pat steps:List Str}{k:Nat}(hk:k<pat.length):d_L pat steps (k+1)=rowL pat[k] steps (d_L pat steps k):=by
 unfold d_L
 rw [f_n hk,List.foldl_append];rfl
theorem g_c {r:List Bool}{k:Nat}(h:k<r.length):idx r (k:Int)=some (r.getD k false):=by
 rw [ix_ h];simp [h]
theorem o_8 {steps:List Str}(hs:steps.length<=MX+1):mk0 false (b_ (steps.length:Int) 1)=some (List.replicate (steps.length+1) false)/\upd (List.replicate (steps.length+1) false) 0 true=some (true::List.replicate steps.length false):=by
 have hMX:=MXv
 rw [ia_ (by omega) (by omega),show (steps.length:Int)+1=((steps.length+1:Nat):Int) by omega]
 refine ⟨f_w (by rw [a_u];omega),?_⟩;have:=d_P (l:=List.replicate (steps.length+1) false) (k:=0) (x:=true) (by simp)
 rw [show (0:Int)=((0:Nat):Int) from rfl,this,List.replicate_succ];rfl
section
variable {pat steps:List Str}
theorem o_9 {p:Str}{r:List Bool}(h:p.b=[46,46])(k:Nat):c_X p steps r k=(r.getD k false || (decide (0<k) && c_X p steps r (k - 1))):=by
 cases k with
 | zero=>simp [c_X,h]
 | succ k=>rw [c_X,iP_ h,Nat.add_sub_cancel,dT_<|Nat.succ_pos k,Bool.true_and]
theorem o_a {p:Str}{r:List Bool}(h:p.b ≠ [46,46])(k:Nat):c_X p steps r k=(decide (0<k) && (r.getD (k - 1) false && h_t p (steps.getD (k - 1) ⟨[]⟩))):=by
 cases k with
 | zero=>simp [c_X,h]
 | succ k=>rw [c_X,iN_ h,Nat.add_sub_cancel,dT_<|Nat.succ_pos k,Bool.true_and]
theorem j_Y {k:Nat}(h:0<k)(hk:k<=1048580):x_ (k:Int) 1=((k - 1:Nat):Int):=by
 rw [a_x (by omega) (by omega)];omega
theorem s_q {n:Nat}(hn:1048600<=n)(hs:steps.length<=MX+1):i_B n pat steps=some (l_D pat steps):=by
 have hMX:=MXv;unfold i_B;obtain ⟨H,I⟩:=o_8 hs
 simp only [H,bd_some,I]
 refine (congrArg (fun z=>bd z _)<|e_F (fun k=>d_L pat steps k) (n:=pat.length) rfl<|fun k hk=>?_).trans ?_
 ·have hrl:=j_X pat steps k
  simp only [ix_ hk,bd_some]
  rw [o_7 hk]
  generalize d_L pat steps k=r at *
  generalize hp:pat[k]=p;refine (congrArg (fun z=>bd z _)<|g_n (fun j=>(b_I (c_X p steps r) (steps.length+1) j,((j:Nat):Int))) (s:=(b_I (c_X p steps r) (steps.length+1)<|steps.length+1,((steps.length+1:Nat):Int))) (m:=n) (j0:=steps.length+1) (by omega) (fun j hj=>?_) ?_).trans ?_
  ·simp only [un2]
   rw [dT_ (show (j:Int)<=(steps.length:Int) by omega),ia_ (x:=(j:Int)) (by omega) (by omega)]
   simp only [fT_]
   by_cases hd:p.b=[46,46]
   ·rw [show (p.b==[46,46])=true by simpa using hd,g_c (show j<r.length by omega)]
    simp only [fT_,bd_some]
    have hrow:=o_9 (steps:=steps) (r:=r) hd j
    cases hb:r.getD j false with
    | true =>
     simp only [fT_]
     rw [c_A (by omega) (by rw [hrow,hb];rfl)]
     rfl
    | false =>
     rw [hb,Bool.false_or] at hrow
     simp only [bF_,fF_]
     by_cases G:0<j
     ·rw [dT_ (show (0:Int)<(j:Int) by omega),j_Y G (by omega),o_6 (by omega) (by omega),bd_some,c_A (by omega) (by rw [hrow,dT_ G];rfl)]
      rfl
     ·rw [dF_ (show ¬(0:Int)<(j:Int) by omega),c_A (by omega) (by rw [hrow,dF_ G];rfl)]
      rfl
   ·rw [show (p.b==[46,46])=false by simpa using hd]
    simp only [bF_,fF_]
    have hrow:=o_a (steps:=steps) (r:=r) hd j
    by_cases G:0<j
    ·rw [show ((j:Int)==0)=false by simp;omega,j_Y G (by omega),g_c (show j - 1<r.length by omega)]
     simp only [bF_,fF_,bd_some]
     rw [dT_ G,Bool.true_and] at hrow
     cases hb:r.getD (j - 1) false with
     | false =>
      rw [hb,Bool.false_and] at hrow
      simp only [Bool.not_false,fT_,bd_some]
      rw [l_C (by omega) hrow];rfl
     | true =>
      rw [hb,Bool.true_and] at hrow
      have hst:j - 1<steps.length:=by omega
      simp only [nT_,bF_,fF_,ix_ hst,bd_some,n_M (show 30<=n by omega)]
      have hg:steps.getD (j - 1) ⟨[]⟩=steps[j - 1]:=by simp [hst]
      rw [hg] at hrow
      rcases hps:d_p steps[j - 1] with ⟨x,ok⟩
      simp only [bd2_some]
      unfold h_t at hrow
      rw [hps] at hrow
      by_cases h:p.b=[35]
      ·rw [show (p.b==[35])=true by simpa using h,show (p.b != [35])=false by simpa using h]
       rw [iP_ h] at hrow
       cases ok with
       | true =>
        simp only [fT_]
        rw [c_A (by omega) hrow.symm];rfl
       | false =>
        simp only [fT_,bF_,fF_]
        split
        ·rw [c_A (by omega) hrow.symm];rfl
        ·rw [c_A (by omega) hrow.symm];rfl
      ·rw [show (p.b==[35])=false by simpa using h,show (p.b != [35])=true by simpa using h]
       rw [iN_ h] at hrow
       simp only [bF_,fF_]
       split
       ·rename_i he
        rw [he] at hrow
        rw [c_A (by omega) hrow.symm];rfl
       ·rename_i he
        rw [show (p.b==steps[j - 1].b)=false by simpa using he] at hrow
        rw [c_A (by omega) hrow.symm];rfl
    ·have:j=0:=by omega
     subst this
     simp only [Int.natCast_zero,bQ_,fT_,bd_some]
     rw [l_C (by omega) (by rw [hrow];rfl)];rfl
  ·simp only [un2]
   rw [dF_ (by omega)];rfl
  ·rw [bd_some,el_inl]
   simp only [un2]
   rw [o_3];rfl
 ·rw [bd_some,el_inl,g_c (by rw [j_X];omega)]
  rfl
theorem s_r {k:Nat}(hk:k<pat.length)(s:Str):i_G pat (k:Int) s=some (h_t pat[k] s):=by
 unfold i_G h_t
 rw [ix_ hk,bd_some,n_R]
 by_cases h:pat[k].b=[35]
 ·rw [show (pat[k].b==[35])=true by simpa using h,iP_ h];rfl
 ·rw [show (pat[k].b==[35])=false by simpa using h,iN_ h];rfl
theorem s_s (hs:steps.length<=MX+1):i_H pat steps=some (l_D pat steps):=by
 have hMX:=MXv;unfold i_H k_U;obtain ⟨G,H⟩:=o_8 hs
 simp only [G,bd_some,H]
 refine (congrArg (fun z=>bd (bd z _) _)<|e_F (fun k=>d_L pat steps k) (n:=pat.length) rfl<|fun k hk=>?_).trans ?_
 ·have hrl:=j_X pat steps k
  simp only [ix_ hk,bd_some,s_r hk]
  rw [o_7 hk]
  generalize d_L pat steps k=r at *
  generalize hp:pat[k]=p;refine (congrArg (fun z=>bd z _)<|e_F (fun j=>b_I (c_X p steps r) (steps.length+1) j) (n:=r.length) (by rw [s_p])<|fun j hj=>?_).trans ?_
  ·by_cases hd:p.b=[46,46]
   ·rw [show (p.b==[46,46])=true by simpa using hd,g_c hj]
    simp only [fT_,bd_some]
    have hrow:=o_9 (steps:=steps) (r:=r) hd j
    cases hb:r.getD j false with
    | true =>
     simp only [fT_]
     rw [c_A (by omega) (by rw [hrow,hb];rfl)]
     rfl
    | false =>
     rw [hb,Bool.false_or] at hrow
     simp only [bF_,fF_]
     by_cases h:0<j
     ·rw [dT_ (show (0:Int)<(j:Int) by omega),j_Y h (by omega),o_6 (by omega) (by omega),bd_some,c_A (by omega) (by rw [hrow,dT_ h];rfl)]
      rfl
     ·rw [dF_ (show ¬(0:Int)<(j:Int) by omega),c_A (by omega) (by rw [hrow,dF_ h];rfl)]
      rfl
   ·rw [show (p.b==[46,46])=false by simpa using hd]
    simp only [bF_,fF_]
    have hrow:=o_a (steps:=steps) (r:=r) hd j
    by_cases h:0<j
    ·rw [dT_ (show (0:Int)<(j:Int) by omega),j_Y h (by omega),g_c (show j - 1<r.length by omega)]
     simp only [fT_,bd_some]
     rw [dT_ h,Bool.true_and] at hrow
     cases hb:r.getD (j - 1) false with
     | false =>
      rw [hb,Bool.false_and] at hrow
      simp only [bF_,fF_]
      rw [c_A (by omega) hrow.symm];rfl
     | true =>
      rw [hb,Bool.true_and] at hrow
      have hst:j - 1<steps.length:=by omega
      have hg:steps.getD (j - 1) ⟨[]⟩=steps[j - 1]:=by simp [hst]
      rw [hg] at hrow
      simp only [fT_,ix_ hst,bd_some]
      rw [c_A (by omega) hrow.symm];rfl
    ·have:j=0:=by omega
     subst this
     rw [dF_ (by omega)]
     simp only [bF_,fF_,bd_some]
     rw [l_C (by omega) (by rw [hrow];rfl)]
  ·rw [bd_some,el_inl,hrl,o_3];rfl
 ·rw [bd_some,el_inl,g_c (by rw [j_X];omega),bd_some,bd_some]
  rfl
def d_M (pattern path:Str):Bool:=match f_p pattern with
 | some l=>(d_K path).2 && l_D l (d_K path).1
 | none=>false
theorem o_b (s:Str):(d_K s).1.length<=s.b.length+1:=by
 have h:=(d_J 47 s.b []).2;unfold d_K
 split
 ·simp
 ·split
  ·simp only [List.length_tail];omega
  ·simp
theorem s_t {n:Nat}(hn:1048600<=n){pattern path:Str}(h1:pattern.b.length<=MX)(h2:path.b.length<=MX):i_C n pattern path=some (d_M pattern path):=by
 have hMX:=MXv;unfold i_C d_M;obtain ⟨⟨l,ok⟩,G,h⟩:=s_m (n:=n) (by omega) h1 (by omega)
 rw [G,s_f (by omega) h2 (by omega)]
 have hl:=o_b path
 rcases hsp:d_K path with ⟨m,is⟩
 rw [hsp] at hl
 have hl':m.length<=path.b.length+1:=hl
 simp only [bd2_some]
 cases hp:f_p pattern with
 | none =>
  rw [hp] at h
  have:ok=false:=h;subst this;rfl
 | some q =>
  rw [hp] at h
  have:(l,ok)=(q,true):=h
  cases this
  cases is with
  | false=>rfl
  | true =>
   simp only [fT_]
   rw [s_q hn (by omega)];rfl
theorem s_u {n:Nat}(hn:1048600<=n){pattern path:Str}(h1:pattern.b.length<=MX)(h2:path.b.length<=MX):i_I n pattern path=some (d_M pattern path):=by
 have hMX:=MXv;unfold i_I d_M;obtain ⟨⟨l,ok⟩,G,h⟩:=s_o (n:=n) (by omega) h1
 rw [G,s_j (by omega) h2]
 have hl:=o_b path
 rcases hsp:d_K path with ⟨m,is⟩
 rw [hsp] at hl
 have hl':m.length<=path.b.length+1:=hl
 simp only [bd2_some]
 cases hp:f_p pattern with
 | none =>
  rw [hp] at h
  have:ok=false:=h;subst this;rfl
 | some q =>
  rw [hp] at h
  have:(l,ok)=(q,true):=h
  cases this
  cases is with
  | false=>rfl
  | true =>
   simp only [fT_]
   rw [s_s (by omega)];rfl
end
end Go.Vw
