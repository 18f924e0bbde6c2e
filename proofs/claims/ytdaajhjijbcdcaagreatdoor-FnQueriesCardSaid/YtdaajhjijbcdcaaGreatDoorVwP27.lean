
import Derived.Test.YtdaajhjijbcdcaaGreatDoorVwP26
namespace Go.Vw
open Go.RowKit Dat
def g_O (p s:Str):Bool:=if p.b=[35] then (c_N s).2 else p.b==s.b
def c_d (p:Str)(steps:List Str)(reach:List Bool):Nat->Bool
 | 0=>if p.b=[46,46] then reach.getD 0 false else false
 | k+1=>if p.b=[46,46] then reach.getD (k+1) false || c_d p steps reach k else reach.getD k false && g_O p (steps.getD k ⟨[]⟩)
def b_C (f:Nat->Bool)(n k:Nat):List Bool:=(List.range k).map f++List.replicate (n - k) false
theorem m_k {f:Nat->Bool}{n k:Nat}(h:k<=n):(b_C f n k).length=n:=by unfold b_C;simp;omega
theorem p_K (f:Nat->Bool)(n:Nat):b_C f n 0=List.replicate n false:=by unfold b_C;simp
theorem m_l (f:Nat->Bool)(n:Nat):b_C f n n=(List.range n).map f:=by unfold b_C;simp
theorem m_m {f:Nat->Bool}{n k:Nat}(h:k<n):b_C f n k=(List.range k).map f++false::List.replicate (n - (k+1)) false:=by
 unfold b_C
 rw [show n - k=(n - (k+1))+1 by omega,List.replicate_succ]
theorem m_n {f:Nat->Bool}{n k:Nat}:b_C f n (k+1)=(List.range k).map f++f k::List.replicate (n - (k+1)) false:=by
 unfold b_C
 rw [List.range_succ,List.map_append,List.append_assoc];rfl
theorem c_w {f:Nat->Bool}{n k:Nat}(h:k<n){x:Bool}(hx:x=f k):upd (b_C f n k) (k:Int) x=some (b_C f n<|k+1):=by
 subst hx
 rw [g_Y (by rw [m_k (by omega)];omega),m_m h,m_n]
 congr 1
 simp
theorem k_9 {f:Nat->Bool}{n k:Nat}(h:k<n)(hx:f k=false):b_C f n k=b_C f n (k+1):=by
 rw [m_m h,m_n,hx]
theorem m_o {f:Nat->Bool}{n k j:Nat}(hj:j<k)(h:k<=n):idx (b_C f n k) (j:Int)=some (f j):=by
 rw [ix_ (by rw [m_k h];omega)]
 unfold b_C
 rw [List.getElem_append_left (by simpa using hj)]
 simp
def rowL (p:Str)(steps:List Str)(reach:List Bool):List Bool:=(List.range<|steps.length+1).map (c_d p steps reach)
def d_a (pat steps:List Str)(k:Nat):List Bool:=(pat.take k).foldl (λr p=>rowL p steps r) (true::List.replicate steps.length false)
def i_N (pat steps:List Str):Bool:=(d_a pat steps pat.length).getD steps.length false
theorem i_O (pat steps:List Str)(k:Nat):(d_a pat steps k).length=steps.length+1:=by
 unfold d_a;generalize pat.take k=l
 have key:∀(l:List Str)(r:List Bool),r.length=steps.length+1->(l.foldl (λr p=>rowL p steps r) r).length=steps.length+1:=by
  intro l
  induction l with
  | nil=>intro r h;exact h
  | cons p l ih=>intro r _;exact ih _ (by unfold rowL;simp)
 exact key l _ (by simp)
theorem m_p {pat steps:List Str}{k:Nat}(hk:k<pat.length):d_a pat steps (k+1)=rowL pat[k] steps (d_a pat steps k):=by
 unfold d_a
 rw [e_R hk,List.foldl_append];rfl
theorem f_I {r:List Bool}{k:Nat}(h:k<r.length):idx r (k:Int)=some (r.getD k false):=by
 rw [ix_ h];simp [h]
theorem m_q {steps:List Str}(hs:steps.length<=MX+1):mk0 false (h_ (steps.length:Int) 1)=some (List.replicate (steps.length+1) false)/\upd (List.replicate (steps.length+1) false) 0 true=some (true::List.replicate steps.length false):=by
 have hMX:=MXv
 rw [ia_ (by omega) (by omega),show (steps.length:Int)+1=((steps.length+1:Nat):Int) by omega]
 refine ⟨mk0_of (by rw [a_C];omega),?_⟩;have:=g_Y (l:=List.replicate (steps.length+1) false) (k:=0) (x:=true) (by simp)
 rw [show (0:Int)=((0:Nat):Int) from rfl,this,List.replicate_succ];rfl
section
variable {pat steps:List Str}
theorem m_r {p:Str}{r:List Bool}(h:p.b=[46,46])(k:Nat):c_d p steps r k=(r.getD k false || (decide (0<k) && c_d p steps r (k - 1))):=by
 cases k with
 | zero=>simp [c_d,h]
 | succ k=>rw [c_d,iP_ h,Nat.add_sub_cancel,dT_<|Nat.succ_pos k,Bool.true_and]
theorem m_s {p:Str}{r:List Bool}(h:p.b ≠ [46,46])(k:Nat):c_d p steps r k=(decide (0<k) && (r.getD (k - 1) false && g_O p (steps.getD (k - 1) ⟨[]⟩))):=by
 cases k with
 | zero=>simp [c_d,h]
 | succ k=>rw [c_d,iN_ h,Nat.add_sub_cancel,dT_<|Nat.succ_pos k,Bool.true_and]
theorem i_P {k:Nat}(h:0<k)(hk:k<=1048580):I_ (k:Int) 1=((k - 1:Nat):Int):=by
 rw [b_9 (by omega) (by omega)];omega
theorem p_L {n:Nat}(hn:1048600<=n)(hs:steps.length<=MX+1):h_K n pat steps=some (i_N pat steps):=by
 have hMX:=MXv;unfold h_K;obtain ⟨I,J⟩:=m_q hs
 simp only [I,bd_some,J]
 refine (congrArg (λz=>bd z _)<|f_G (λk=>d_a pat steps k) (n:=pat.length) rfl<|λk hk=>?_).trans ?_
 .have hrl:=i_O pat steps k
  simp only [ix_ hk,bd_some]
  rw [m_p hk]
  generalize d_a pat steps k=r at *
  generalize hp:pat[k]=p;refine (congrArg (λz=>bd z _)<|k_u (λj=>(b_C (c_d p steps r) (steps.length+1) j,((j:Nat):Int))) (s:=(b_C (c_d p steps r) (steps.length+1)<|steps.length+1,((steps.length+1:Nat):Int))) (m:=n) (j0:=steps.length+1) (by omega) (λj hj=>?_) ?_).trans ?_
  .simp only [un2]
   rw [dT_ (show (j:Int)<=(steps.length:Int) by omega),ia_ (x:=(j:Int)) (by omega) (by omega)]
   simp only [fT_]
   by_cases hd:p.b=[46,46]
   .rw [show (p.b==[46,46])=true by simpa using hd,f_I (show j<r.length by omega)]
    simp only [fT_,bd_some]
    have hrow:=m_r (steps:=steps) (r:=r) hd j
    cases hb:r.getD j false with
    | true =>
     simp only [fT_]
     rw [c_w (by omega) (by rw [hrow,hb];rfl)]
     rfl
    | false =>
     rw [hb,Bool.false_or] at hrow
     simp only [bF_,fF_]
     by_cases H:0<j
     .rw [dT_ (show (0:Int)<(j:Int) by omega),i_P H (by omega),m_o (by omega) (by omega),bd_some,c_w (by omega) (by rw [hrow,dT_ H];rfl)]
      rfl
     .rw [dF_ (show ¬(0:Int)<(j:Int) by omega),c_w (by omega) (by rw [hrow,dF_ H];rfl)]
      rfl
   .rw [show (p.b==[46,46])=false by simpa using hd]
    simp only [bF_,fF_]
    have hrow:=m_s (steps:=steps) (r:=r) hd j
    by_cases H:0<j
    .rw [show ((j:Int)==0)=false by simp;omega,i_P H (by omega),f_I (show j - 1<r.length by omega)]
     simp only [bF_,fF_,bd_some]
     rw [dT_ H,Bool.true_and] at hrow
     cases hb:r.getD (j - 1) false with
     | false =>
      rw [hb,Bool.false_and] at hrow
      simp only [Bool.not_false,fT_,bd_some]
      rw [k_9 (by omega) hrow];rfl
     | true =>
      rw [hb,Bool.true_and] at hrow
      have hst:j - 1<steps.length:=by omega
      simp only [nT_,bF_,fF_,ix_ hst,bd_some,l_Y (show 30<=n by omega)]
      have hg:steps.getD (j - 1) ⟨[]⟩=steps[j - 1]:=by simp [hst]
      rw [hg] at hrow
      rcases hps:c_N steps[j - 1] with ⟨x,ok⟩
      simp only [bd2_some]
      unfold g_O at hrow
      rw [hps] at hrow
      by_cases G:p.b=[35]
      .rw [show (p.b==[35])=true by simpa using G,show (p.b != [35])=false by simpa using G]
       rw [iP_ G] at hrow
       cases ok with
       | true =>
        simp only [fT_]
        rw [c_w (by omega) hrow.symm];rfl
       | false =>
        simp only [fT_,bF_,fF_]
        split
        .rw [c_w (by omega) hrow.symm];rfl
        .rw [c_w (by omega) hrow.symm];rfl
      .rw [show (p.b==[35])=false by simpa using G,show (p.b != [35])=true by simpa using G]
       rw [iN_ G] at hrow
       simp only [bF_,fF_]
       split
       .rename_i he
        rw [he] at hrow
        rw [c_w (by omega) hrow.symm];rfl
       .rename_i he
        rw [show (p.b==steps[j - 1].b)=false by simpa using he] at hrow
        rw [c_w (by omega) hrow.symm];rfl
    .have:j=0:=by omega
     subst this
     simp only [Int.natCast_zero,bQ_,fT_,bd_some]
     rw [k_9 (by omega) (by rw [hrow];rfl)];rfl
  .simp only [un2]
   rw [dF_ (by omega)];rfl
  .rw [bd_some,el_inl]
   simp only [un2]
   rw [m_l];rfl
 .rw [bd_some,el_inl,f_I (by rw [i_O];omega)]
  rfl
theorem p_M {k:Nat}(hk:k<pat.length)(s:Str):h_N pat (k:Int) s=some (g_O pat[k] s):=by
 unfold h_N g_O
 rw [ix_ hk,bd_some,m_8]
 by_cases h:pat[k].b=[35]
 .rw [show (pat[k].b==[35])=true by simpa using h,iP_ h];rfl
 .rw [show (pat[k].b==[35])=false by simpa using h,iN_ h];rfl
theorem p_N (hs:steps.length<=MX+1):h_O pat steps=some (i_N pat steps):=by
 have hMX:=MXv;unfold h_O j_f;obtain ⟨H,I⟩:=m_q hs
 simp only [H,bd_some,I]
 refine (congrArg (λz=>bd (bd z _) _)<|f_G (λk=>d_a pat steps k) (n:=pat.length) rfl<|λk hk=>?_).trans ?_
 .have hrl:=i_O pat steps k
  simp only [ix_ hk,bd_some,p_M hk]
  rw [m_p hk]
  generalize d_a pat steps k=r at *
  generalize hp:pat[k]=p;refine (congrArg (λz=>bd z _)<|f_G (λj=>b_C (c_d p steps r) (steps.length+1) j) (n:=r.length) (by rw [p_K])<|λj hj=>?_).trans ?_
  .by_cases hd:p.b=[46,46]
   .rw [show (p.b==[46,46])=true by simpa using hd,f_I hj]
    simp only [fT_,bd_some]
    have hrow:=m_r (steps:=steps) (r:=r) hd j
    cases hb:r.getD j false with
    | true =>
     simp only [fT_]
     rw [c_w (by omega) (by rw [hrow,hb];rfl)]
     rfl
    | false =>
     rw [hb,Bool.false_or] at hrow
     simp only [bF_,fF_]
     by_cases G:0<j
     .rw [dT_ (show (0:Int)<(j:Int) by omega),i_P G (by omega),m_o (by omega) (by omega),bd_some,c_w (by omega) (by rw [hrow,dT_ G];rfl)]
      rfl
     .rw [dF_ (show ¬(0:Int)<(j:Int) by omega),c_w (by omega) (by rw [hrow,dF_ G];rfl)]
      rfl
   .rw [show (p.b==[46,46])=false by simpa using hd]
    simp only [bF_,fF_]
    have hrow:=m_s (steps:=steps) (r:=r) hd j
    by_cases G:0<j
    .rw [dT_ (show (0:Int)<(j:Int) by omega),i_P G (by omega),f_I (show j - 1<r.length by omega)]
     simp only [fT_,bd_some]
     rw [dT_ G,Bool.true_and] at hrow
     cases hb:r.getD (j - 1) false with
     | false =>
      rw [hb,Bool.false_and] at hrow
      simp only [bF_,fF_]
      rw [c_w (by omega) hrow.symm];rfl
     | true =>
      rw [hb,Bool.true_and] at hrow
      have hst:j - 1<steps.length:=by omega
      have hg:steps.getD (j - 1) ⟨[]⟩=steps[j - 1]:=by simp [hst]
      rw [hg] at hrow
      simp only [fT_,ix_ hst,bd_some]
      rw [c_w (by omega) hrow.symm];rfl
    .have:j=0:=by omega
     subst this
     rw [dF_ (by omega)]
     simp only [bF_,fF_,bd_some]
     rw [k_9 (by omega) (by rw [hrow];rfl)]
  .rw [bd_some,el_inl,hrl,m_l];rfl
 .rw [bd_some,el_inl,f_I (by rw [i_O];omega),bd_some,bd_some]
  rfl
def b_8 (pattern path:Str):Bool:=match d_R pattern with
 | some l=>(b_Z path).2 && i_N l (b_Z path).1
 | none=>false
theorem k_a (s:Str):(b_Z s).1.length<=s.b.length+1:=by
 have h:=(d_u 47 s.b []).2;unfold b_Z
 split
 .simp
 .split
  .simp only [List.length_tail];omega
  .simp
theorem p_O {n:Nat}(hn:1048600<=n){pattern path:Str}(h1:pattern.b.length<=MX)(h2:path.b.length<=MX):h_L n pattern path=some (b_8 pattern path):=by
 have hMX:=MXv;unfold h_L b_8;obtain ⟨⟨l,ok⟩,H,G⟩:=p_H (n:=n) (by omega) h1 (by omega)
 rw [H,k_1 (by omega) h2 (by omega)]
 have hl:=k_a path
 rcases hsp:b_Z path with ⟨m,is⟩
 rw [hsp] at hl
 have hl':m.length<=path.b.length+1:=hl
 simp only [bd2_some]
 cases hp:d_R pattern with
 | none =>
  rw [hp] at G
  have:ok=false:=G;subst this;rfl
 | some q =>
  rw [hp] at G
  have:(l,ok)=(q,true):=G
  cases this
  cases is with
  | false=>rfl
  | true =>
   simp only [fT_]
   rw [p_L hn (by omega)];rfl
theorem p_P {n:Nat}(hn:1048600<=n){pattern path:Str}(h1:pattern.b.length<=MX)(h2:path.b.length<=MX):h_P n pattern path=some (b_8 pattern path):=by
 have hMX:=MXv;unfold h_P b_8;obtain ⟨⟨l,ok⟩,H,G⟩:=p_J (n:=n) (by omega) h1
 rw [H,p_D (by omega) h2]
 have hl:=k_a path
 rcases hsp:b_Z path with ⟨m,is⟩
 rw [hsp] at hl
 have hl':m.length<=path.b.length+1:=hl
 simp only [bd2_some]
 cases hp:d_R pattern with
 | none =>
  rw [hp] at G
  have:ok=false:=G;subst this;rfl
 | some q =>
  rw [hp] at G
  have:(l,ok)=(q,true):=G
  cases this
  cases is with
  | false=>rfl
  | true =>
   simp only [fT_]
   rw [p_N (by omega)];rfl
end
end Go.Vw
