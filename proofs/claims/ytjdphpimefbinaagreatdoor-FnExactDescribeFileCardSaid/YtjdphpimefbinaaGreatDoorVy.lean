
import Derived.Test.YtjdphpimefbinaaGreatDoorVf
import Derived.Test.YtjdphpimefbinaaGreatDoorVi
namespace Go.Vw
open Go.RowKit Dat
section
variable {d:c_}{b:Bt}
theorem t_X {n:Nat}(hn:1048600<=n)(hd:SmD d){e:k_}(he:e∈a_D d b) :
  ∃i p:Nat,e.rule=i/\e.start=p/\G_ d=true/\b.length<=400/\i<d.rules.length/\p<=b.length/\(rdW d.rules b i p).2.2=0/\e=⟨e.path,(i:Int),(p:Int),((rdW d.rules b i p).2.1:Int)⟩/\e.path.b.length<=MX/\e_L n d b e.path=some (e,true):=by
 have hok:okF d b=true:=by
  cases h:okF d b with
  | true=>rfl
  | false=>unfold a_D at he;rw [h] at he;cases he
 obtain ⟨hv,hb,hr,hroot,hrd,_⟩:=h_r hok;have hps:=m_b he;unfold a_D at he
 rw [iP_ hok] at he
 obtain ⟨ss,i,p,L⟩:=s_Y hv hd hb _ hr 0 ⟨[]⟩ e (Nat.zero_le _) hrd he
 have heq:e=⟨e.path,(i:Int),(p:Int),((rdW d.rules b i p).2.1:Int)⟩:=by
  have h1:=L.rule;have h2:=L.start;have h3:=L.end_
  cases e;simp only at h1 h2 h3;subst h1 h2 h3;rfl
 refine ⟨i,p,L.rule,L.start,hv,hb,L.hi,L.hp,L.ok,heq,hps,?_⟩
 have hpath:e.path=⟨c_n ss⟩:=by
  have:=L.path
  cases hq:e.path with
  | mk x=>rw [hq] at this;simpa using this
 have hlen:=(a_T hv).2;have hj:=o_4 ss L.good;have hl:=L.len;have hMX:=MXv;have hread:=e_F hv hd hb i L.hi n (by omega) p L.hp;have hlk:=k_h (b:=b) hd hn hps
 rw [hlk]
 have G:=hlk;unfold e_L at G
 rw [hpath,o_1 (by omega) (by simp only;omega) (by simp only;omega),s_Z ss L.good] at G
 simp only [bd2_some,nT_,bF_,fF_] at G
 rw [l_U d hd,hv] at G
 simp only [bd_some,nT_,bF_,fF_] at G
 rw [dF_ (show ¬(400:Int)<(b.length:Int) by omega),iN_ (by simp),h_D hd,bd_some,hroot] at G
 have hloop:=t_0 (n:=n) (by omega) L.reach (l:=ss) 0 (by omega) rfl;have hloop':v_ (σ:=Int×Int) (ρ:=k_×Bool) (λH=>un2 λI J=>bd (idx ss ((H:Nat):Int)) λO=>bd3 (c_R n d I b J O) λV W Y=>if (!Y) then some (.ret ((⟨(⟨[]⟩:Str),0,0,0⟩:k_),false)) else some (.next (V,W))) ss.length 0 (((d.rules.length - 1:Nat):Int),0)=some (.inl ((i:Int),(p:Int))):=hloop
 rw [hloop',bd_some,el_inl] at G
 simp only [un2] at G
 rw [hread] at G
 unfold a_Y at G
 rw [L.ok] at G
 simp only [bd3_some,bN_,bF_,fF_] at G
 rw [hpath,← G,← hpath,← heq]
theorem o_Y (hd:SmD d){e:k_}(he:e∈a_D d b):∃i p:Nat,e=⟨e.path,(i:Int),(p:Int),((rdW d.rules b i p).2.1:Int)⟩/\i<d.rules.length/\p<=b.length/\(rdW d.rules b i p).2.2=0/\c_o d b e.path=some (i,p):=by
 obtain ⟨i,p,h1,h2,hv,hb,hi,hp,hok,heq,hps,hl⟩:=t_X (n:=1048600) (Nat.le_refl _) hd he;refine ⟨i,p,heq,hi,hp,hok,?_⟩
 rw [k_h hd (Nat.le_refl _) hps] at hl
 have hl:=Option.some.inj hl;unfold e_B at hl
 cases hf:c_o d b e.path with
 | none=>rw [hf] at hl;cases hl
 | some x =>
  rw [hf] at hl
  have h3:=(Prod.mk.inj hl).1;have G:(x.1:Int)=e.rule:=congrArg k_.rule h3;have H:(x.2:Int)=e.start:=congrArg k_.start h3;have:x=(i,p):=Prod.ext (by simp only;omega) (by simp only;omega)
  rw [this]
end
end Go.Vw
