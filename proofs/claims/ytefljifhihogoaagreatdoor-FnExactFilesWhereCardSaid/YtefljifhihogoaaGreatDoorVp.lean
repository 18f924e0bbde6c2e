
import Derived.Test.YtefljifhihogoaaGreatDoorVi
import Derived.Test.YtefljifhihogoaaGreatDoorVo
namespace Go.Vw
set_option linter.unusedVariables false
open Go.RowKit Dat
theorem s_e {P:o_->Prop}:∀(rs:List q_)(l:List o_),(∀f∈l,P f)->(∀r∈rs,r.kind=1->P (d_k r))->∀f∈rs.foldl c_j l,P f
 | [],_,h,_=>h
 | r::rs,l,h,hr=>by
  refine s_e rs (c_j l r) ?_<|λx hx=>hr x<|mT_ _ hx;have G:=hr r mS_;intro f hf;unfold c_j at hf
  split at hf
  .split at hf
   .grind
   grind [List.mem_of_mem_eraseIdx]
  grind
theorem x_H {a:H_}(h:c_q a=true):∀f∈c_O a.log.bytes,f.version.toNat<a.registry.versions.length:=by
 unfold c_q at h
 simp only [aE_,QAt,QAi] at h
 refine s_e _ _ (λf hf=>by grind)<|λr hr hk=>?_;have h1:=h.2.2.2 r hr;unfold g_e at h1
 rw [hk] at h1
 simp only [bQ_,QAE] at h1
 show r.version.toNat<a.registry.versions.length
 grind
theorem x_I {a:H_}:∀f∈c_7 a,f.version.toNat<a.registry.versions.length:=by
 simp_all [c_7,x_H]
def i_g (a:H_)(f:o_):d_:=a.registry.versions.getD f.version.toNat ⟨[]⟩
theorem s_f {a:H_}(h:SmA a){f:o_}(hf:f∈c_7 a):idx a.registry.versions f.version=some (i_g a f)/\SmD (i_g a f):=by
 have h1:=x_I f hf;have h2:=(x_G a f hf).2.1;unfold i_g
 rw [h_r h2 h1]
 have e:a.registry.versions.getD f.version.toNat ⟨[]⟩=a.registry.versions[f.version.toNat]:=by
  grind
 rw [e]
 exact ⟨rfl,h.each _<|gE_ h1⟩
theorem x_J {a:H_}(h:SmA a):∃l:List o_,(if d_2 a.log then c_O a.log.bytes else [])=l/\(c_q a=true->l.length<=20/\l=c_7 a)/\l.length<=ML:=by
 have hfl:=x_n h.bytes;refine ⟨_,rfl,λh=>?_,?_⟩
 .simp_all [c_7,s_a,s_0]
 grind
theorem x_K {a:H_}(h:c_q a=false):c_7 a=[]:=by grind [c_7]
end Go.Vw
