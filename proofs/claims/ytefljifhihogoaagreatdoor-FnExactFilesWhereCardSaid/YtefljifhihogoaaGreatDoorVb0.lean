
import Derived.Test.YtefljifhihogoaaGreatDoorVt
import Derived.Test.YtefljifhihogoaaGreatDoorVo
namespace Go.Vw
set_option linter.unusedVariables false
open Go.RowKit Dat
section
variable {d:d_}{b:Bt}
theorem y_a {n:Nat}(hn:1048600<=n)(hd:SmD d){e:j_}(he:e∈b_4 d b) :
  ∃i p:Nat,e.rule=i/\e.start=p/\D_ d=true/\b.length<=400/\i<d.rules.length/\p<=b.length/\(rdW d.rules b i p).2.2=0/\e=⟨e.path,(i:Int),(p:Int),((rdW d.rules b i p).2.1:Int)⟩/\e.path.b.length<=MX/\g_r n d b e.path=some (e,true):=by
 have hok:okF d b=true:=by
  grind [okF,b_4]
 obtain ⟨hv,hb,hr,hroot,hrd,_⟩:=j_n hok;have hps:=g_6 he;unfold b_4 at he
 rw [iP_ hok] at he
 obtain ⟨ss,i,p,L⟩:=w_1 hv hd hb _ hr 0 ⟨[]⟩ e (QAI _) hrd he
 have heq:e=⟨e.path,(i:Int),(p:Int),((rdW d.rules b i p).2.1:Int)⟩:=by
  have h1:=L.rule;have h2:=L.start;have h3:=L.end_
  cases e;simp only at h1 h2 h3;subst h1 h2 h3;rfl
 refine ⟨i,p,L.rule,L.start,hv,hb,L.hi,L.hp,L.ok,heq,hps,?_⟩
 have hpath:e.path=⟨d_B ss⟩:=by
  have:=L.path
  cases hq:e.path with
  | mk x=>rw [hq] at this;simpa using this
 have hlen:=(b_i hv).2;have hj:=q_D ss L.good;have hl:=L.len;have hMX:=MXv;have hread:=h_q hv hd hb i L.hi n (by omega) p L.hp;have hlk:=i_6 (b:=b) hd hn hps
 rw [hlk]
 have G:=hlk;unfold g_r at G
 rw [hpath,n_C (by omega) (by simp only;omega) (by simp only;omega),w_2 ss L.good] at G
 simp only [a_b,nT_,bF_,fF_] at G
 rw [l_z d hd,hv] at G
 simp only [a_,nT_,bF_,fF_] at G
 rw [dF_ (show ¬(400:Int)<(b.length:Int) by omega),iN_ (by simp),m_7 hd,a_,hroot] at G
 have hloop:=w_3 (n:=n) (by omega) L.reach (l:=ss) 0 (by omega) rfl;have hloop':k_ (σ:=Int×Int) (ρ:=j_×Bool) (λH=>un2 λI J=>bd (idx ss ((H:Nat):Int)) λO=>bd3 (d_P n d I b J O) λV W Y=>if (!Y) then some (.ret ((⟨(⟨[]⟩:Str),0,0,0⟩:j_),false)) else some (.next (V,W))) ss.length 0 (((d.rules.length - 1:Nat):Int),0)=some (.inl ((i:Int),(p:Int))):=hloop
 rw [hloop',a_,W_] at G
 simp only [un2] at G
 rw [hread] at G
 unfold b_B at G
 rw [L.ok] at G
 simp only [a_E,bN_,bF_,fF_] at G
 rw [hpath,← G,← hpath,← heq]
theorem s_M (hd:SmD d){e:j_}(he:e∈b_4 d b):∃i p:Nat,e=⟨e.path,(i:Int),(p:Int),((rdW d.rules b i p).2.1:Int)⟩/\i<d.rules.length/\p<=b.length/\(rdW d.rules b i p).2.2=0/\c_Z d b e.path=some (i,p):=by
 obtain ⟨i,p,h1,h2,hv,hb,hi,hp,hok,heq,hps,hl⟩:=y_a (n:=1048600) (QAB _) hd he;refine ⟨i,p,heq,hi,hp,hok,?_⟩
 rw [i_6 hd (QAB _) hps] at hl
 have hl:=QAS hl;unfold f_e at hl
 cases hf:c_Z d b e.path with
 | none=>rw [hf] at hl;cases hl
 | some x =>
  rw [hf] at hl
  have h3:=(Prod.mk.inj hl).1;have G:(x.1:Int)=e.rule:=congrArg j_.rule h3;have H:(x.2:Int)=e.start:=congrArg j_.start h3;have:x=(i,p):=Prod.ext (by simp only;omega) (by simp only;omega)
  rw [this]
end
end Go.Vw
