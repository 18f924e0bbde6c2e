
import Derived.Test.YtefljifhihogoaaGreatDoorVm
namespace Go.Vw
set_option linter.unusedVariables false
open Go.RowKit Dat
def j_t (p s:Str):Bool:=if p.b=[35] then (c_M s).2 else p.b==s.b
def d_F (p:Str)(steps:List Str)(reach:List Bool):Nat->Bool
 | 0=>if p.b=[46,46] then reach.getD 0 false else false
 | k+1=>if p.b=[46,46] then reach.getD (k+1) false || d_F p steps reach k else reach.getD k false && j_t p (steps.getD k ⟨[]⟩)
def c_o (f:Nat->Bool)(n k:Nat):List Bool:=(List.range k).map f++List.replicate (n - k) false
theorem w_o {f:Nat->Bool}{n k:Nat}(h:k<=n):(c_o f n k).length=n:=by grind [c_o]
theorem r_6 (f:Nat->Bool)(n:Nat):c_o f n n=(List.range n).map f:=by simp [c_o]
theorem r_7 {f:Nat->Bool}{n k:Nat}(h:k<n):c_o f n k=(List.range k).map f++false::List.replicate (n - (k+1)) false:=by
 unfold c_o
 rw [show n - k=(n - (k+1))+1 by omega,QAk]
theorem r_8 {f:Nat->Bool}{n k:Nat}:c_o f n (k+1)=(List.range k).map f++f k::List.replicate (n - (k+1)) false:=by
 grind [c_o,List.range_succ,List.append_assoc]
theorem d_j {f:Nat->Bool}{n k:Nat}(h:k<n){x:Bool}(hx:x=f k):upd (c_o f n k) (k:Int) x=some (c_o f n<|k+1):=by
 simp_all [c_P,r_7,r_8]
theorem n_W {f:Nat->Bool}{n k:Nat}(h:k<n)(hx:f k=false):c_o f n k=c_o f n (k+1):=by
 grind [r_7,r_8]
theorem r_9 {f:Nat->Bool}{n k j:Nat}(hj:j<k)(h:k<=n):idx (c_o f n k) (j:Int)=some (f j):=by
 grind [c_o,List.getElem_append_left,b_E,w_o]
def rowL (p:Str)(steps:List Str)(reach:List Bool):List Bool:=(List.range<|steps.length+1).map (d_F p steps reach)
def e_D (pat steps:List Str)(k:Nat):List Bool:=(pat.take k).foldl (λr p=>rowL p steps r) (true::List.replicate steps.length false)
def n_X (pat steps:List Str):Bool:=(e_D pat steps pat.length).getD steps.length false
theorem l_M (pat steps:List Str)(k:Nat):(e_D pat steps k).length=steps.length+1:=by
 unfold e_D;generalize pat.take k=l
 have key:∀(l:List Str)(r:List Bool),r.length=steps.length+1->(l.foldl (λr p=>rowL p steps r) r).length=steps.length+1:=by
  intro l
  induction l with
  | nil=>simp
  | cons p l ih=>grind [rowL]
 grind
theorem r_a {pat steps:List Str}{k:Nat}(hk:k<pat.length):e_D pat steps (k+1)=rowL pat[k] steps (e_D pat steps k):=by
 grind [e_D,h_j]
theorem i_8 {r:List Bool}{k:Nat}(h:k<r.length):idx r (k:Int)=some (r.getD k false):=by
 grind [b_E]
theorem r_b {steps:List Str}(hs:steps.length<=MX+1):mk0 false (e_ (steps.length:Int) 1)=some (List.replicate (steps.length+1) false)/\upd (List.replicate (steps.length+1) false) 0 true=some (true::List.replicate steps.length false):=by
 have hMX:=MXv
 rw [ia_ (by omega) (by omega),show (steps.length:Int)+1=((steps.length+1:Nat):Int) by omega]
 refine ⟨g_k (by grind [a_7]),?_⟩;have:=c_P (l:=List.replicate (steps.length+1) false) (k:=0) (x:=true) (by simp)
 grind
section
variable {pat steps:List Str}
theorem r_c {p:Str}{r:List Bool}(h:p.b=[46,46])(k:Nat):d_F p steps r k=(r.getD k false || (decide (0<k) && d_F p steps r (k - 1))):=by
 cases k with
 | zero=>grind [d_F]
 | succ k=>grind [d_F]
theorem r_d {p:Str}{r:List Bool}(h:p.b ≠ [46,46])(k:Nat):d_F p steps r k=(decide (0<k) && (r.getD (k - 1) false && j_t p (steps.getD (k - 1) ⟨[]⟩))):=by
 cases k with
 | zero=>grind [d_F]
 | succ k=>grind [d_F]
theorem l_N {k:Nat}(h:0<k)(hk:k<=1048580):w_ (k:Int) 1=((k - 1:Nat):Int):=by
 grind [a_L]
theorem w_p {n:Nat}(hn:1048600<=n)(hs:steps.length<=MX+1):k_u n pat steps=some (n_X pat steps):=by
 have hMX:=MXv;unfold k_u;obtain ⟨I,J⟩:=r_b hs
 simp only [I,a_,J]
 refine (congrArg (λz=>bd z _)<|h_h (λk=>e_D pat steps k) (n:=pat.length) rfl<|λk hk=>?_).trans ?_
 .have hrl:=l_M pat steps k
  simp only [ix_ hk,a_]
  rw [r_a hk]
  generalize e_D pat steps k=r at *
  generalize hp:pat[k]=p;refine (congrArg (λz=>bd z _)<|g_l (λj=>(c_o (d_F p steps r) (steps.length+1) j,((j:Nat):Int))) (s:=(c_o (d_F p steps r) (steps.length+1)<|steps.length+1,((steps.length+1:Nat):Int))) (m:=n) (j0:=steps.length+1) (by omega) (λj hj=>?_) ?_).trans ?_
  .simp only [un2]
   rw [dT_ (show (j:Int)<=(steps.length:Int) by omega),ia_ (x:=(j:Int)) (by omega) (by omega)]
   simp only [fT_]
   by_cases hd:p.b=[46,46]
   .rw [show (p.b==[46,46])=true by grind,i_8 (show j<r.length by omega)]
    simp only [fT_,a_]
    have hrow:=r_c (steps:=steps) (r:=r) hd j
    cases hb:r.getD j false with
    | true =>
     simp_all [d_j]
    | false =>
     rw [hb,QAg] at hrow
     simp only [bF_,fF_]
     by_cases G:0<j
     .grind [decide_eq_true,l_N,r_9,a_,d_j]
     .rw [dF_ (show ¬(0:Int)<(j:Int) by omega),d_j (by omega) (by grind)]
      rfl
   .rw [show (p.b==[46,46])=false by grind]
    simp only [bF_,fF_]
    have hrow:=r_d (steps:=steps) (r:=r) hd j
    by_cases G:0<j
    .rw [show ((j:Int)==0)=false by grind,l_N G (by omega),i_8 (show j - 1<r.length by omega)]
     simp only [bF_,fF_,a_]
     rw [dT_ G,QAE] at hrow
     cases hb:r.getD (j - 1) false with
     | false =>
      simp_all [n_W,a_,Bool.false_and]
     | true =>
      rw [hb,QAE] at hrow
      have hst:j - 1<steps.length:=by omega
      simp only [nT_,bF_,fF_,ix_ hst,a_,q_w (show 30<=n by omega)]
      have hg:steps.getD (j - 1) ⟨[]⟩=steps[j - 1]:=by grind
      rw [hg] at hrow
      rcases hps:c_M steps[j - 1] with ⟨x,ok⟩
      simp only [a_b]
      unfold j_t at hrow
      rw [hps] at hrow
      by_cases H:p.b=[35]
      .rw [show (p.b==[35])=true by grind,show (p.b != [35])=false by grind]
       rw [iP_ H] at hrow
       cases ok with
       | true =>
        simp_all [d_j]
       | false =>
        simp_all [d_j,d_j]
      .rw [show (p.b==[35])=false by grind,show (p.b != [35])=true by grind]
       rw [iN_ H] at hrow
       simp only [bF_,fF_]
       split
       .simp_all [d_j]
       simp_all [d_j]
    simp_all [a_,n_W]
  .grind
  .rw [a_,W_]
   simp only [un2]
   rw [r_6];rfl
 .rw [a_,W_,i_8 (by grind [l_M])]
  rfl
theorem w_q {k:Nat}(hk:k<pat.length)(s:Str):k_y pat (k:Int) s=some (j_t pat[k] s):=by
 unfold k_y j_t
 rw [ix_ hk,a_,n_G]
 by_cases h:pat[k].b=[35]
 .rw [show (pat[k].b==[35])=true by grind,iP_ h];rfl
 simp_all
theorem w_r (hs:steps.length<=MX+1):k_z pat steps=some (n_X pat steps):=by
 have hMX:=MXv;unfold k_z m_u;obtain ⟨H,I⟩:=r_b hs
 simp only [H,a_,I]
 refine (congrArg (λz=>bd (bd z _) _)<|h_h (λk=>e_D pat steps k) (n:=pat.length) rfl<|λk hk=>?_).trans ?_
 .have hrl:=l_M pat steps k
  simp only [ix_ hk,a_,w_q hk]
  rw [r_a hk]
  generalize e_D pat steps k=r at *
  generalize hp:pat[k]=p;refine (congrArg (λz=>bd z _)<|h_h (λj=>c_o (d_F p steps r) (steps.length+1) j) (n:=r.length) (by rfl)<|λj hj=>?_).trans ?_
  .by_cases hd:p.b=[46,46]
   .rw [show (p.b==[46,46])=true by grind,i_8 hj]
    simp only [fT_,a_]
    have hrow:=r_c (steps:=steps) (r:=r) hd j
    cases hb:r.getD j false with
    | true =>
     simp_all [d_j]
    | false =>
     rw [hb,QAg] at hrow
     simp only [bF_,fF_]
     by_cases G:0<j
     .grind [decide_eq_true,l_N,r_9,a_,d_j]
     .rw [dF_ (show ¬(0:Int)<(j:Int) by omega),d_j (by omega) (by grind)]
      rfl
   .rw [show (p.b==[46,46])=false by grind]
    simp only [bF_,fF_]
    have hrow:=r_d (steps:=steps) (r:=r) hd j
    by_cases G:0<j
    .rw [dT_ (show (0:Int)<(j:Int) by omega),l_N G (by omega),i_8 (show j - 1<r.length by omega)]
     simp only [fT_,a_]
     rw [dT_ G,QAE] at hrow
     cases hb:r.getD (j - 1) false with
     | false =>
      simp_all [d_j,Bool.false_and]
     | true =>
      rw [hb,QAE] at hrow
      have hst:j - 1<steps.length:=by omega
      simp_all [d_j,ix_,a_]
    simp_all [dF_,a_,n_W]
  .rw [a_,W_,hrl,r_6];rfl
 .rw [a_,W_,i_8 (by grind [l_M]),a_,a_]
  rfl
def e_E (pattern path:Str):Bool:=match h_l pattern with
 | some l=>(c_h path).2 && n_X l (c_h path).1
 | none=>false
theorem r_e (s:Str):(c_h s).1.length<=s.b.length+1:=by
 grind [c_h,List.length_tail,e_C]
theorem w_s {n:Nat}(hn:1048600<=n){pattern path:Str}(h1:pattern.b.length<=MX)(h2:path.b.length<=MX):k_v n pattern path=some (e_E pattern path):=by
 have hMX:=MXv;unfold k_v e_E;obtain ⟨⟨l,ok⟩,H,G⟩:=w_l (n:=n) (by omega) h1 (by omega)
 rw [H,n_C (by omega) h2 (by omega)]
 have hl:=r_e path
 rcases hsp:c_h path with ⟨m,is⟩
 rw [hsp] at hl
 have hl':m.length<=path.b.length+1:=hl
 simp only [a_b]
 cases hp:h_l pattern with
 | none =>
  rw [hp] at G
  have:ok=false:=G
  simp_all
 | some q =>
  rw [hp] at G
  have:(l,ok)=(q,true):=G
  cases this
  cases is with
  | false=>rfl
  | true =>
   simp only [fT_]
   rw [w_p hn (by omega)];rfl
theorem w_t {n:Nat}(hn:1048600<=n){pattern path:Str}(h1:pattern.b.length<=MX)(h2:path.b.length<=MX):k_A n pattern path=some (e_E pattern path):=by
 have hMX:=MXv;unfold k_A e_E;obtain ⟨⟨l,ok⟩,H,G⟩:=w_n (n:=n) (by omega) h1
 rw [H,q_I (by omega) h2]
 have hl:=r_e path
 rcases hsp:c_h path with ⟨m,is⟩
 rw [hsp] at hl
 have hl':m.length<=path.b.length+1:=hl
 simp only [a_b]
 cases hp:h_l pattern with
 | none =>
  rw [hp] at G
  have:ok=false:=G
  simp_all
 | some q =>
  rw [hp] at G
  have:(l,ok)=(q,true):=G
  cases this
  cases is with
  | false=>rfl
  | true =>
   simp only [fT_]
   rw [w_r (by omega)];rfl
end
end Go.Vw
