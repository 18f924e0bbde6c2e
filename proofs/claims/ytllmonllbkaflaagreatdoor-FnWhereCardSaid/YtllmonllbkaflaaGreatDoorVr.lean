
import Derived.Test.YtllmonllbkaflaaGreatDoorVq
namespace Go.Vw
open Go.RowKit Dat
def i_i (p s:Str):Bool:=if p.b=[35] then (c_n s).2 else p.b==s.b
def d_8 (p:Str)(steps:List Str)(reach:List Bool):Nat->Bool
 | 0=>if p.b=[46,46] then reach.getD 0 false else false
 | k+1=>if p.b=[46,46] then reach.getD (k+1) false || d_8 p steps reach k else reach.getD k false && i_i p (steps.getD k ⟨[]⟩)
def b_K (f:Nat->Bool)(n k:Nat):List Bool:=(List.range k).map f++List.replicate (n - k) false
theorem o_G {f:Nat->Bool}{n k:Nat}(h:k<=n):(b_K f n k).length=n:=by unfold b_K;simp;omega
theorem t_q (f:Nat->Bool)(n:Nat):b_K f n 0=List.replicate n false:=by unfold b_K;simp
theorem o_H (f:Nat->Bool)(n:Nat):b_K f n n=(List.range n).map f:=by unfold b_K;simp
theorem o_I {f:Nat->Bool}{n k:Nat}(h:k<n):b_K f n k=(List.range k).map f++false::List.replicate (n - (k+1)) false:=by
 unfold b_K
 rw [show n - k=(n - (k+1))+1 by omega,List.replicate_succ]
theorem o_J {f:Nat->Bool}{n k:Nat}:b_K f n (k+1)=(List.range k).map f++f k::List.replicate (n - (k+1)) false:=by
 unfold b_K
 rw [List.range_succ,List.map_append,List.append_assoc];rfl
theorem c_O {f:Nat->Bool}{n k:Nat}(h:k<n){x:Bool}(hx:x=f k):upd (b_K f n k) (k:Int) x=some (b_K f n<|k+1):=by
 subst hx
 rw [i_s (by rw [o_G (by omega)];omega),o_I h,o_J]
 congr 1
 simp
theorem m_j {f:Nat->Bool}{n k:Nat}(h:k<n)(hx:f k=false):b_K f n k=b_K f n (k+1):=by
 rw [o_I h,o_J,hx]
theorem o_K {f:Nat->Bool}{n k j:Nat}(hj:j<k)(h:k<=n):idx (b_K f n k) (j:Int)=some (f j):=by
 rw [ix_ (by rw [o_G h];omega)]
 unfold b_K
 rw [List.getElem_append_left (by simpa using hj)]
 simp
def rowL (p:Str)(steps:List Str)(reach:List Bool):List Bool:=(List.range<|steps.length+1).map (d_8 p steps reach)
def e_0 (pat steps:List Str)(k:Nat):List Bool:=(pat.take k).foldl (λr p=>rowL p steps r) (true::List.replicate steps.length false)
def m_k (pat steps:List Str):Bool:=(e_0 pat steps pat.length).getD steps.length false
theorem k_p (pat steps:List Str)(k:Nat):(e_0 pat steps k).length=steps.length+1:=by
 unfold e_0;generalize pat.take k=l
 have key:∀(l:List Str)(r:List Bool),r.length=steps.length+1->(l.foldl (λr p=>rowL p steps r) r).length=steps.length+1:=by
  intro l
  induction l with
  | nil=>intro r h;exact h
  | cons p l ih=>intro r _;exact ih _ (by unfold rowL;simp)
 exact key l _ (by simp)
theorem o_L {pat steps:List Str}{k:Nat}(hk:k<pat.length):e_0 pat steps (k+1)=rowL pat[k] steps (e_0 pat steps k):=by
 unfold e_0
 rw [g_6 hk,List.foldl_append];rfl
theorem h_c {r:List Bool}{k:Nat}(h:k<r.length):idx r (k:Int)=some (r.getD k false):=by
 rw [ix_ h];simp [h]
theorem o_M {steps:List Str}(hs:steps.length<=MX+1):mk0 false (d_ (steps.length:Int) 1)=some (List.replicate (steps.length+1) false)/\upd (List.replicate (steps.length+1) false) 0 true=some (true::List.replicate steps.length false):=by
 have hMX:=MXv
 rw [ia_ (by omega) (by omega),show (steps.length:Int)+1=((steps.length+1:Nat):Int) by omega]
 refine ⟨p_B (by rw [a_m];omega),?_⟩;have:=i_s (l:=List.replicate (steps.length+1) false) (k:=0) (x:=true) (by simp)
 rw [show (0:Int)=((0:Nat):Int) from rfl,this,List.replicate_succ];rfl
section
variable {pat steps:List Str}
theorem o_N {p:Str}{r:List Bool}(h:p.b=[46,46])(k:Nat):d_8 p steps r k=(r.getD k false || (decide (0<k) && d_8 p steps r (k - 1))):=by
 cases k with
 | zero=>simp [d_8,h]
 | succ k=>rw [d_8,iP_ h,Nat.add_sub_cancel,dT_<|Nat.succ_pos k,Bool.true_and]
theorem o_O {p:Str}{r:List Bool}(h:p.b ≠ [46,46])(k:Nat):d_8 p steps r k=(decide (0<k) && (r.getD (k - 1) false && i_i p (steps.getD (k - 1) ⟨[]⟩))):=by
 cases k with
 | zero=>simp [d_8,h]
 | succ k=>rw [d_8,iN_ h,Nat.add_sub_cancel,dT_<|Nat.succ_pos k,Bool.true_and]
theorem k_q {k:Nat}(h:0<k)(hk:k<=1048580):y_ (k:Int) 1=((k - 1:Nat):Int):=by
 rw [a_Y (by omega) (by omega)];omega
theorem t_r {n:Nat}(hn:1048600<=n)(hs:steps.length<=MX+1):j_d n pat steps=some (m_k pat steps):=by
 have hMX:=MXv;unfold j_d;obtain ⟨I,J⟩:=o_M hs
 simp only [I,bd_some,J]
 refine (congrArg (λz=>bd z _)<|g_2 (λk=>e_0 pat steps k) (n:=pat.length) rfl<|λk hk=>?_).trans ?_
 .have hrl:=k_p pat steps k
  simp only [ix_ hk,bd_some]
  rw [o_L hk]
  generalize e_0 pat steps k=r at *
  generalize hp:pat[k]=p;refine (congrArg (λz=>bd z _)<|m_K (λj=>(b_K (d_8 p steps r) (steps.length+1) j,((j:Nat):Int))) (s:=(b_K (d_8 p steps r) (steps.length+1)<|steps.length+1,((steps.length+1:Nat):Int))) (m:=n) (j0:=steps.length+1) (by omega) (λj hj=>?_) ?_).trans ?_
  .simp only [un2]
   rw [dT_ (show (j:Int)<=(steps.length:Int) by omega),ia_ (x:=(j:Int)) (by omega) (by omega)]
   simp only [fT_]
   by_cases hd:p.b=[46,46]
   .rw [show (p.b==[46,46])=true by simpa using hd,h_c (show j<r.length by omega)]
    simp only [fT_,bd_some]
    have hrow:=o_N (steps:=steps) (r:=r) hd j
    cases hb:r.getD j false with
    | true =>
     simp only [fT_]
     rw [c_O (by omega) (by rw [hrow,hb];rfl)]
     rfl
    | false =>
     rw [hb,Bool.false_or] at hrow
     simp only [bF_,fF_]
     by_cases H:0<j
     .rw [dT_ (show (0:Int)<(j:Int) by omega),k_q H (by omega),o_K (by omega) (by omega),bd_some,c_O (by omega) (by rw [hrow,dT_ H];rfl)]
      rfl
     .rw [dF_ (show ¬(0:Int)<(j:Int) by omega),c_O (by omega) (by rw [hrow,dF_ H];rfl)]
      rfl
   .rw [show (p.b==[46,46])=false by simpa using hd]
    simp only [bF_,fF_]
    have hrow:=o_O (steps:=steps) (r:=r) hd j
    by_cases H:0<j
    .rw [show ((j:Int)==0)=false by simp;omega,k_q H (by omega),h_c (show j - 1<r.length by omega)]
     simp only [bF_,fF_,bd_some]
     rw [dT_ H,Bool.true_and] at hrow
     cases hb:r.getD (j - 1) false with
     | false =>
      rw [hb,Bool.false_and] at hrow
      simp only [Bool.not_false,fT_,bd_some]
      rw [m_j (by omega) hrow];rfl
     | true =>
      rw [hb,Bool.true_and] at hrow
      have hst:j - 1<steps.length:=by omega
      simp only [nT_,bF_,fF_,ix_ hst,bd_some,o_4 (show 30<=n by omega)]
      have hg:steps.getD (j - 1) ⟨[]⟩=steps[j - 1]:=by simp [hst]
      rw [hg] at hrow
      rcases hps:c_n steps[j - 1] with ⟨x,ok⟩
      simp only [bd2_some]
      unfold i_i at hrow
      rw [hps] at hrow
      by_cases G:p.b=[35]
      .rw [show (p.b==[35])=true by simpa using G,show (p.b != [35])=false by simpa using G]
       rw [iP_ G] at hrow
       cases ok with
       | true =>
        simp only [fT_]
        rw [c_O (by omega) hrow.symm];rfl
       | false =>
        simp only [fT_,bF_,fF_]
        split
        .rw [c_O (by omega) hrow.symm];rfl
        .rw [c_O (by omega) hrow.symm];rfl
      .rw [show (p.b==[35])=false by simpa using G,show (p.b != [35])=true by simpa using G]
       rw [iN_ G] at hrow
       simp only [bF_,fF_]
       split
       .rename_i he
        rw [he] at hrow
        rw [c_O (by omega) hrow.symm];rfl
       .rename_i he
        rw [show (p.b==steps[j - 1].b)=false by simpa using he] at hrow
        rw [c_O (by omega) hrow.symm];rfl
    .have:j=0:=by omega
     subst this
     simp only [Int.natCast_zero,bQ_,fT_,bd_some]
     rw [m_j (by omega) (by rw [hrow];rfl)];rfl
  .simp only [un2]
   rw [dF_ (by omega)];rfl
  .rw [bd_some,el_inl]
   simp only [un2]
   rw [o_H];rfl
 .rw [bd_some,el_inl,h_c (by rw [k_p];omega)]
  rfl
theorem t_s {k:Nat}(hk:k<pat.length)(s:Str):j_h pat (k:Int) s=some (i_i pat[k] s):=by
 unfold j_h i_i
 rw [ix_ hk,bd_some,m_8]
 by_cases h:pat[k].b=[35]
 .rw [show (pat[k].b==[35])=true by simpa using h,iP_ h];rfl
 .rw [show (pat[k].b==[35])=false by simpa using h,iN_ h];rfl
theorem t_t (hs:steps.length<=MX+1):j_i pat steps=some (m_k pat steps):=by
 have hMX:=MXv;unfold j_i k_Q;obtain ⟨H,I⟩:=o_M hs
 simp only [H,bd_some,I]
 refine (congrArg (λz=>bd (bd z _) _)<|g_2 (λk=>e_0 pat steps k) (n:=pat.length) rfl<|λk hk=>?_).trans ?_
 .have hrl:=k_p pat steps k
  simp only [ix_ hk,bd_some,t_s hk]
  rw [o_L hk]
  generalize e_0 pat steps k=r at *
  generalize hp:pat[k]=p;refine (congrArg (λz=>bd z _)<|g_2 (λj=>b_K (d_8 p steps r) (steps.length+1) j) (n:=r.length) (by rw [t_q])<|λj hj=>?_).trans ?_
  .by_cases hd:p.b=[46,46]
   .rw [show (p.b==[46,46])=true by simpa using hd,h_c hj]
    simp only [fT_,bd_some]
    have hrow:=o_N (steps:=steps) (r:=r) hd j
    cases hb:r.getD j false with
    | true =>
     simp only [fT_]
     rw [c_O (by omega) (by rw [hrow,hb];rfl)]
     rfl
    | false =>
     rw [hb,Bool.false_or] at hrow
     simp only [bF_,fF_]
     by_cases G:0<j
     .rw [dT_ (show (0:Int)<(j:Int) by omega),k_q G (by omega),o_K (by omega) (by omega),bd_some,c_O (by omega) (by rw [hrow,dT_ G];rfl)]
      rfl
     .rw [dF_ (show ¬(0:Int)<(j:Int) by omega),c_O (by omega) (by rw [hrow,dF_ G];rfl)]
      rfl
   .rw [show (p.b==[46,46])=false by simpa using hd]
    simp only [bF_,fF_]
    have hrow:=o_O (steps:=steps) (r:=r) hd j
    by_cases G:0<j
    .rw [dT_ (show (0:Int)<(j:Int) by omega),k_q G (by omega),h_c (show j - 1<r.length by omega)]
     simp only [fT_,bd_some]
     rw [dT_ G,Bool.true_and] at hrow
     cases hb:r.getD (j - 1) false with
     | false =>
      rw [hb,Bool.false_and] at hrow
      simp only [bF_,fF_]
      rw [c_O (by omega) hrow.symm];rfl
     | true =>
      rw [hb,Bool.true_and] at hrow
      have hst:j - 1<steps.length:=by omega
      have hg:steps.getD (j - 1) ⟨[]⟩=steps[j - 1]:=by simp [hst]
      rw [hg] at hrow
      simp only [fT_,ix_ hst,bd_some]
      rw [c_O (by omega) hrow.symm];rfl
    .have:j=0:=by omega
     subst this
     rw [dF_ (by omega)]
     simp only [bF_,fF_,bd_some]
     rw [m_j (by omega) (by rw [hrow];rfl)]
  .rw [bd_some,el_inl,hrl,o_H];rfl
 .rw [bd_some,el_inl,h_c (by rw [k_p];omega),bd_some,bd_some]
  rfl
def e_1 (pattern path:Str):Bool:=match g_a pattern with
 | some l=>(b_t path).2 && m_k l (b_t path).1
 | none=>false
theorem m_l (s:Str):(b_t s).1.length<=s.b.length+1:=by
 have h:=(d_Y 47 s.b []).2;unfold b_t
 split
 .simp
 .split
  .simp only [List.length_tail];omega
  .simp
theorem t_u {n:Nat}(hn:1048600<=n){pattern path:Str}(h1:pattern.b.length<=MX)(h2:path.b.length<=MX):j_e n pattern path=some (e_1 pattern path):=by
 have hMX:=MXv;unfold j_e e_1;obtain ⟨⟨l,ok⟩,H,G⟩:=t_n (n:=n) (by omega) h1 (by omega)
 rw [H,k_e (by omega) h2 (by omega)]
 have hl:=m_l path
 rcases hsp:b_t path with ⟨m,is⟩
 rw [hsp] at hl
 have hl':m.length<=path.b.length+1:=hl
 simp only [bd2_some]
 cases hp:g_a pattern with
 | none =>
  rw [hp] at G
  have:ok=false:=G;subst this;rfl
 | some q =>
  rw [hp] at G
  have:(l,ok)=(q,true):=G
  cases this
  cases is with
  | false=>rfl
  | true =>
   simp only [fT_]
   rw [t_r hn (by omega)];rfl
theorem t_v {n:Nat}(hn:1048600<=n){pattern path:Str}(h1:pattern.b.length<=MX)(h2:path.b.length<=MX):j_j n pattern path=some (e_1 pattern path):=by
 have hMX:=MXv;unfold j_j e_1;obtain ⟨⟨l,ok⟩,H,G⟩:=t_p (n:=n) (by omega) h1
 rw [H,o_g (by omega) h2]
 have hl:=m_l path
 rcases hsp:b_t path with ⟨m,is⟩
 rw [hsp] at hl
 have hl':m.length<=path.b.length+1:=hl
 simp only [bd2_some]
 cases hp:g_a pattern with
 | none =>
  rw [hp] at G
  have:ok=false:=G;subst this;rfl
 | some q =>
  rw [hp] at G
  have:(l,ok)=(q,true):=G
  cases this
  cases is with
  | false=>rfl
  | true =>
   simp only [fT_]
   rw [t_t (by omega)];rfl
end
end Go.Vw
