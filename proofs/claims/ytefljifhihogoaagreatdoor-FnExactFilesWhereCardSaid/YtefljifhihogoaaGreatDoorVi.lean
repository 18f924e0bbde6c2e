
import Derived.Test.YtefljifhihogoaaGreatDoorVh
namespace Go.Vw
set_option linter.unusedVariables false
open Go.RowKit Dat
theorem s_a {a:H_}(h:c_q a=true):(c_O a.log.bytes).length<=20:=by
 grind [c_q]
section
variable {l:List o_}{g:o_->List Str}
theorem s_b {k:Nat}(hk:k<l.length):(l.take<|k+1).flatMap g=(l.take k).flatMap g++g l[k]:=by
 grind [m_0]
theorem m_2 (hg:∀f,(g f).length<=1):∀l:List o_,(l.flatMap g).length<=l.length
 | []=>by simp
 | f::l=>by
  have h1:=hg f;have h2:=m_2 hg l
  grind
theorem x_D {ρ:Type}(hg:∀f,(g f).length<=1)(hl:l.length<=20){body:Nat->List Str->Option (Out (List Str) ρ)}(hb:∀k (hk:k<l.length) (c:List Str),c.length<=20->body k c=some (.next<|c++g l[k])) :
  k_ body l.length 0 []=some (.inl<|l.flatMap g):=by
 have h:=j_x (body:=body) (λk=>(l.take k).flatMap g) (n:=l.length) (s:=[]) rfl (λk hk=>by
  grind [s_b,List.length_take,m_2])
 grind
theorem x_E {n:Nat}{ok:Bool}(hg:∀f,(g f).length<=1)(hl:ok=true->l.length<=20){step:List Str×Int->Option (Out (List Str×Int)<|List Str)}
  (h1:∀k (hk:k<l.length) (c:List Str),ok=true->c.length<=20->step (c,(k:Int))=some (.next (c++g l[k],((k+1:Nat):Int))))
  (h2:∀(c:List Str)(k:Nat),ok=false∨k=l.length->step (c,(k:Int))=some (.brk (c,(k:Int)))) (hn:21<=n) :
  ∃k:Int,F_ step n ([],0)=some (.inl (if ok then l.flatMap g else [],k)):=by
 cases ok with
 | false =>
  obtain ⟨m,rfl⟩:∃m,n=m+1:=⟨n - 1,by omega⟩;refine ⟨0,?_⟩;unfold F_
  rw [show step ([],0)=some (.brk ([],0)) from h2 [] 0 (.inl rfl)]
  rfl
 | true =>
  have hl:=hl rfl;refine ⟨(l.length:Int),?_⟩
  rw [iP_ rfl]
  exact g_l (step:=step) (λk=>((l.take k).flatMap g,(k:Int))) (s:=(l.flatMap g,(l.length:Int))) (m:=n) (j0:=l.length) (by omega) (λk hk=>by
   have h3:=m_2 hg<|l.take k
   rw [QAT] at h3
   rw [h1 k hk _ rfl (by omega),s_b hk]) (by
   grind)
end
theorem s_c (a:H_):(c_7 a).length<=20:=by
 grind [c_7,s_a]
def okS (f:o_):Prop:=f.name.b.length<=12/\0<=f.version/\f.version<=7/\f.data.length<=400
theorem s_d:∀(rs:List q_)(l:List o_),(∀f∈l,okS f)->(∀r∈rs,b_K r=true)->∀f∈rs.foldl c_j l,okS f
 | [],_,h,_=>h
 | r::rs,l,h,hr=>by
  refine s_d rs (c_j l r) ?_<|λx hx=>hr x<|mT_ _ hx;have hv:=g_8<|hr r mS_;have G:okS (d_k r):=⟨hv.1,hv.2.1,hv.2.2.1,hv.2.2.2.1⟩;intro f hf;unfold c_j at hf
  split at hf
  .split at hf
   .grind
   grind [List.mem_of_mem_eraseIdx]
  grind
theorem x_F (s:Bt):∀f∈c_O s,okS f :=
 s_d _ _ (λf hf=>by grind) (h_n _ s<|QAB _).2.2
theorem x_G (a:H_):∀f∈c_7 a,okS f:=by
 grind [c_7,x_F]
end Go.Vw
