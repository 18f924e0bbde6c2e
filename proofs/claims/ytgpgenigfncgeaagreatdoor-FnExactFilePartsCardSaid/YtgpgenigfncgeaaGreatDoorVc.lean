
import Derived.Test.YtgpgenigfncgeaaGreatDoorVb
namespace Go.Vw
open Go.RowKit Dat
def h_S (p s:Str):Bool:=if p.b=[35] then (d_v s).2 else p.b==s.b
def d_8 (p:Str)(steps:List Str)(reach:List Bool):Nat->Bool
 | 0=>if p.b=[46,46] then reach.getD 0 false else false
 | k+1=>if p.b=[46,46] then reach.getD (k+1) false || d_8 p steps reach k else reach.getD k false && h_S p (steps.getD k ⟨[]⟩)
def b_K (f:Nat->Bool)(n k:Nat):List Bool:=(List.range k).map f++List.replicate (n - k) false
theorem p_3 {f:Nat->Bool}{n k:Nat}(h:k<=n):(b_K f n k).length=n:=by unfold b_K;simp;omega
theorem t_V (f:Nat->Bool)(n:Nat):b_K f n 0=List.replicate n false:=by unfold b_K;simp
theorem p_4 (f:Nat->Bool)(n:Nat):b_K f n n=(List.range n).map f:=by unfold b_K;simp
theorem p_5 {f:Nat->Bool}{n k:Nat}(h:k<n):b_K f n k=(List.range k).map f++false::List.replicate (n - (k+1)) false:=by
 unfold b_K
 rw [show n - k=(n - (k+1))+1 by omega,List.replicate_succ]
theorem p_6 {f:Nat->Bool}{n k:Nat}:b_K f n (k+1)=(List.range k).map f++f k::List.replicate (n - (k+1)) false:=by
 unfold b_K
 rw [List.range_succ,List.map_append,List.append_assoc];rfl
theorem c_G {f:Nat->Bool}{n k:Nat}(h:k<n){x:Bool}(hx:x=f k):upd (b_K f n k) (k:Int) x=some (b_K f n<|k+1):=by
 subst hx
 rw [c_a (by rw [p_3 (by omega)];omega),p_5 h,p_6]
 congr 1
 simp
theorem m_E {f:Nat->Bool}{n k:Nat}(h:k<n)(hx:f k=false):b_K f n k=b_K f n (k+1):=by
 rw [p_5 h,p_6,hx]
theorem p_7 {f:Nat->Bool}{n k j:Nat}(hj:j<k)(h:k<=n):idx (b_K f n k) (j:Int)=some (f j):=by
 rw [ix_ (by rw [p_3 h];omega)]
 unfold b_K
 rw [List.getElem_append_left (by simpa using hj)]
 simp
def rowL (p:Str)(steps:List Str)(reach:List Bool):List Bool:=(List.range<|steps.length+1).map (d_8 p steps reach)
def e_3 (pat steps:List Str)(k:Nat):List Bool:=(pat.take k).foldl (λr p=>rowL p steps r) (true::List.replicate steps.length false)
def m_F (pat steps:List Str):Bool:=(e_3 pat steps pat.length).getD steps.length false
theorem k_I (pat steps:List Str)(k:Nat):(e_3 pat steps k).length=steps.length+1:=by
 unfold e_3;generalize pat.take k=l
 have key:∀(l:List Str)(r:List Bool),r.length=steps.length+1->(l.foldl (λr p=>rowL p steps r) r).length=steps.length+1:=by
  intro l
  induction l with
  | nil=>intro r h;exact h
  | cons p l ih=>intro r _;exact ih _ (by unfold rowL;simp)
 exact key l _ (by simp)
theorem p_8 {pat steps:List Str}{k:Nat}(hk:k<pat.length):e_3 pat steps (k+1)=rowL pat[k] steps (e_3 pat steps k):=by
 unfold e_3
 rw [g_s hk,List.foldl_append];rfl
theorem g_u {r:List Bool}{k:Nat}(h:k<r.length):idx r (k:Int)=some (r.getD k false):=by
 rw [ix_ h];simp [h]
theorem p_9 {steps:List Str}(hs:steps.length<=MX+1):mk0 false (b_ (steps.length:Int) 1)=some (List.replicate (steps.length+1) false)/\upd (List.replicate (steps.length+1) false) 0 true=some (true::List.replicate steps.length false):=by
 have hMX:=MXv
 rw [ia_ (by omega) (by omega),show (steps.length:Int)+1=((steps.length+1:Nat):Int) by omega]
 refine ⟨f_H (by rw [a_o];omega),?_⟩;have:=c_a (l:=List.replicate (steps.length+1) false) (k:=0) (x:=true) (by simp)
 rw [show (0:Int)=((0:Nat):Int) from rfl,this,List.replicate_succ];rfl
section
variable {pat steps:List Str}
theorem p_a {p:Str}{r:List Bool}(h:p.b=[46,46])(k:Nat):d_8 p steps r k=(r.getD k false || (decide (0<k) && d_8 p steps r (k - 1))):=by
 cases k with
 | zero=>simp [d_8,h]
 | succ k=>rw [d_8,iP_ h,Nat.add_sub_cancel,dT_<|Nat.succ_pos k,Bool.true_and]
theorem p_b {p:Str}{r:List Bool}(h:p.b ≠ [46,46])(k:Nat):d_8 p steps r k=(decide (0<k) && (r.getD (k - 1) false && h_S p (steps.getD (k - 1) ⟨[]⟩))):=by
 cases k with
 | zero=>simp [d_8,h]
 | succ k=>rw [d_8,iN_ h,Nat.add_sub_cancel,dT_<|Nat.succ_pos k,Bool.true_and]
theorem k_J {k:Nat}(h:0<k)(hk:k<=1048580):w_ (k:Int) 1=((k - 1:Nat):Int):=by
 rw [a_y (by omega) (by omega)];omega
theorem t_W {n:Nat}(hn:1048600<=n)(hs:steps.length<=MX+1):i_Z n pat steps=some (m_F pat steps):=by
 have hMX:=MXv;unfold i_Z;obtain ⟨H,I⟩:=p_9 hs
 simp only [H,bd_some,I]
 refine (congrArg (λz=>bd z _)<|g_r (λk=>e_3 pat steps k) (n:=pat.length) rfl<|λk hk=>?_).trans ?_
 .have hrl:=k_I pat steps k
  simp only [ix_ hk,bd_some]
  rw [p_8 hk]
  generalize e_3 pat steps k=r at *
  generalize hp:pat[k]=p;refine (congrArg (λz=>bd z _)<|f_4 (λj=>(b_K (d_8 p steps r) (steps.length+1) j,((j:Nat):Int))) (s:=(b_K (d_8 p steps r) (steps.length+1)<|steps.length+1,((steps.length+1:Nat):Int))) (m:=n) (j0:=steps.length+1) (by omega) (λj hj=>?_) ?_).trans ?_
  .simp only [un2]
   rw [dT_ (show (j:Int)<=(steps.length:Int) by omega),ia_ (x:=(j:Int)) (by omega) (by omega)]
   simp only [fT_]
   by_cases hd:p.b=[46,46]
   .rw [show (p.b==[46,46])=true by simpa using hd,g_u (show j<r.length by omega)]
    simp only [fT_,bd_some]
    have hrow:=p_a (steps:=steps) (r:=r) hd j
    cases hb:r.getD j false with
    | true =>
     simp only [fT_]
     rw [c_G (by omega) (by rw [hrow,hb];rfl)]
     rfl
    | false =>
     rw [hb,Bool.false_or] at hrow
     simp only [bF_,fF_]
     by_cases G:0<j
     .rw [dT_ (show (0:Int)<(j:Int) by omega),k_J G (by omega),p_7 (by omega) (by omega),bd_some,c_G (by omega) (by rw [hrow,dT_ G];rfl)]
      rfl
     .rw [dF_ (show ¬(0:Int)<(j:Int) by omega),c_G (by omega) (by rw [hrow,dF_ G];rfl)]
      rfl
   .rw [show (p.b==[46,46])=false by simpa using hd]
    simp only [bF_,fF_]
    have hrow:=p_b (steps:=steps) (r:=r) hd j
    by_cases G:0<j
    .rw [show ((j:Int)==0)=false by simp;omega,k_J G (by omega),g_u (show j - 1<r.length by omega)]
     simp only [bF_,fF_,bd_some]
     rw [dT_ G,Bool.true_and] at hrow
     cases hb:r.getD (j - 1) false with
     | false =>
      rw [hb,Bool.false_and] at hrow
      simp only [Bool.not_false,fT_,bd_some]
      rw [m_E (by omega) hrow];rfl
     | true =>
      rw [hb,Bool.true_and] at hrow
      have hst:j - 1<steps.length:=by omega
      simp only [nT_,bF_,fF_,ix_ hst,bd_some,o_M (show 30<=n by omega)]
      have hg:steps.getD (j - 1) ⟨[]⟩=steps[j - 1]:=by simp [hst]
      rw [hg] at hrow
      rcases hps:d_v steps[j - 1] with ⟨x,ok⟩
      simp only [bd2_some]
      unfold h_S at hrow
      rw [hps] at hrow
      by_cases h:p.b=[35]
      .rw [show (p.b==[35])=true by simpa using h,show (p.b != [35])=false by simpa using h]
       rw [iP_ h] at hrow
       cases ok with
       | true =>
        simp only [fT_]
        rw [c_G (by omega) hrow.symm];rfl
       | false =>
        simp only [fT_,bF_,fF_]
        split
        .rw [c_G (by omega) hrow.symm];rfl
        .rw [c_G (by omega) hrow.symm];rfl
      .rw [show (p.b==[35])=false by simpa using h,show (p.b != [35])=true by simpa using h]
       rw [iN_ h] at hrow
       simp only [bF_,fF_]
       split
       .rename_i he
        rw [he] at hrow
        rw [c_G (by omega) hrow.symm];rfl
       .rename_i he
        rw [show (p.b==steps[j - 1].b)=false by simpa using he] at hrow
        rw [c_G (by omega) hrow.symm];rfl
    .have:j=0:=by omega
     subst this
     simp only [Int.natCast_zero,bQ_,fT_,bd_some]
     rw [m_E (by omega) (by rw [hrow];rfl)];rfl
  .simp only [un2]
   rw [dF_ (by omega)];rfl
  .rw [bd_some,el_inl]
   simp only [un2]
   rw [p_4];rfl
 .rw [bd_some,el_inl,g_u (by rw [k_I];omega)]
  rfl
theorem t_X {k:Nat}(hk:k<pat.length)(s:Str):j_3 pat (k:Int) s=some (h_S pat[k] s):=by
 unfold j_3 h_S
 rw [ix_ hk,bd_some,o_R]
 by_cases h:pat[k].b=[35]
 .rw [show (pat[k].b==[35])=true by simpa using h,iP_ h];rfl
 .rw [show (pat[k].b==[35])=false by simpa using h,iN_ h];rfl
theorem t_Y (hs:steps.length<=MX+1):j_4 pat steps=some (m_F pat steps):=by
 have hMX:=MXv;unfold j_4 l_l;obtain ⟨G,H⟩:=p_9 hs
 simp only [G,bd_some,H]
 refine (congrArg (λz=>bd (bd z _) _)<|g_r (λk=>e_3 pat steps k) (n:=pat.length) rfl<|λk hk=>?_).trans ?_
 .have hrl:=k_I pat steps k
  simp only [ix_ hk,bd_some,t_X hk]
  rw [p_8 hk]
  generalize e_3 pat steps k=r at *
  generalize hp:pat[k]=p;refine (congrArg (λz=>bd z _)<|g_r (λj=>b_K (d_8 p steps r) (steps.length+1) j) (n:=r.length) (by rw [t_V])<|λj hj=>?_).trans ?_
  .by_cases hd:p.b=[46,46]
   .rw [show (p.b==[46,46])=true by simpa using hd,g_u hj]
    simp only [fT_,bd_some]
    have hrow:=p_a (steps:=steps) (r:=r) hd j
    cases hb:r.getD j false with
    | true =>
     simp only [fT_]
     rw [c_G (by omega) (by rw [hrow,hb];rfl)]
     rfl
    | false =>
     rw [hb,Bool.false_or] at hrow
     simp only [bF_,fF_]
     by_cases h:0<j
     .rw [dT_ (show (0:Int)<(j:Int) by omega),k_J h (by omega),p_7 (by omega) (by omega),bd_some,c_G (by omega) (by rw [hrow,dT_ h];rfl)]
      rfl
     .rw [dF_ (show ¬(0:Int)<(j:Int) by omega),c_G (by omega) (by rw [hrow,dF_ h];rfl)]
      rfl
   .rw [show (p.b==[46,46])=false by simpa using hd]
    simp only [bF_,fF_]
    have hrow:=p_b (steps:=steps) (r:=r) hd j
    by_cases h:0<j
    .rw [dT_ (show (0:Int)<(j:Int) by omega),k_J h (by omega),g_u (show j - 1<r.length by omega)]
     simp only [fT_,bd_some]
     rw [dT_ h,Bool.true_and] at hrow
     cases hb:r.getD (j - 1) false with
     | false =>
      rw [hb,Bool.false_and] at hrow
      simp only [bF_,fF_]
      rw [c_G (by omega) hrow.symm];rfl
     | true =>
      rw [hb,Bool.true_and] at hrow
      have hst:j - 1<steps.length:=by omega
      have hg:steps.getD (j - 1) ⟨[]⟩=steps[j - 1]:=by simp [hst]
      rw [hg] at hrow
      simp only [fT_,ix_ hst,bd_some]
      rw [c_G (by omega) hrow.symm];rfl
    .have:j=0:=by omega
     subst this
     rw [dF_ (by omega)]
     simp only [bF_,fF_,bd_some]
     rw [m_E (by omega) (by rw [hrow];rfl)]
  .rw [bd_some,el_inl,hrl,p_4];rfl
 .rw [bd_some,el_inl,g_u (by rw [k_I];omega),bd_some,bd_some]
  rfl
def e_4 (pattern path:Str):Bool:=match f_z pattern with
 | some l=>(e_1 path).2 && m_F l (e_1 path).1
 | none=>false
theorem p_c (s:Str):(e_1 s).1.length<=s.b.length+1:=by
 have h:=(e_0 47 s.b []).2;unfold e_1
 split
 .simp
 .split
  .simp only [List.length_tail];omega
  .simp
theorem t_Z {n:Nat}(hn:1048600<=n){pattern path:Str}(h1:pattern.b.length<=MX)(h2:path.b.length<=MX):j_0 n pattern path=some (e_4 pattern path):=by
 have hMX:=MXv;unfold j_0 e_4;obtain ⟨⟨l,ok⟩,G,h⟩:=t_S (n:=n) (by omega) h1 (by omega)
 rw [G,t_J (by omega) h2 (by omega)]
 have hl:=p_c path
 rcases hsp:e_1 path with ⟨m,is⟩
 rw [hsp] at hl
 have hl':m.length<=path.b.length+1:=hl
 simp only [bd2_some]
 cases hp:f_z pattern with
 | none =>
  rw [hp] at h
  have:ok=false:=h;subst this;rfl
 | some q =>
  rw [hp] at h
  have:(l,ok)=(q,true):=h
  cases this
  cases is with
  | false=>rfl
  | true =>
   simp only [fT_]
   rw [t_W hn (by omega)];rfl
theorem u_0 {n:Nat}(hn:1048600<=n){pattern path:Str}(h1:pattern.b.length<=MX)(h2:path.b.length<=MX):j_5 n pattern path=some (e_4 pattern path):=by
 have hMX:=MXv;unfold j_5 e_4;obtain ⟨⟨l,ok⟩,G,h⟩:=t_U (n:=n) (by omega) h1
 rw [G,t_N (by omega) h2]
 have hl:=p_c path
 rcases hsp:e_1 path with ⟨m,is⟩
 rw [hsp] at hl
 have hl':m.length<=path.b.length+1:=hl
 simp only [bd2_some]
 cases hp:f_z pattern with
 | none =>
  rw [hp] at h
  have:ok=false:=h;subst this;rfl
 | some q =>
  rw [hp] at h
  have:(l,ok)=(q,true):=h
  cases this
  cases is with
  | false=>rfl
  | true =>
   simp only [fT_]
   rw [t_Y (by omega)];rfl
end
end Go.Vw
