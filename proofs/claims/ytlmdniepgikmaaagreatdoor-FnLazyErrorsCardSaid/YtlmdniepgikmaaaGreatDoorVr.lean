
import Derived.Test.YtlmdniepgikmaaaGreatDoorVe
import Derived.Test.YtlmdniepgikmaaaGreatDoorVi
namespace Go.Vw
open Go.RowKit Dat
section
variable {d:f_}{b:Bt}
theorem s_k {n:Nat}(hn:1048600<=n)(hd:SmD d){e:D_}(he:e∈b_8 d b) :
  ∃i p:Nat,e.rule=i/\e.start=p/\U_ d=true/\b.length<=400/\i<d.rules.length/\p<=b.length/\(rdW d.rules b i p).2.2=0/\e=⟨e.path,(i:Int),(p:Int),((rdW d.rules b i p).2.1:Int)⟩/\e.path.b.length<=MX/\f_8 n d b e.path=some (e,true):=by
 have hok:okF d b=true:=by
  cases h:okF d b with
  | true=>rfl
  | false=>unfold b_8 at he;rw [h] at he;cases he
 obtain ⟨hv,hb,hr,hroot,hrd,_⟩:=j_2 hok;have hps:=n_h he;unfold b_8 at he
 rw [iP_ hok] at he
 obtain ⟨ss,i,p,L⟩:=r_e hv hd hb _ hr 0 ⟨[]⟩ e (Nat.zero_le _) hrd he
 have heq:e=⟨e.path,(i:Int),(p:Int),((rdW d.rules b i p).2.1:Int)⟩:=by
  have h1:=L.rule;have h2:=L.start;have h3:=L.end_
  cases e;simp only at h1 h2 h3;subst h1 h2 h3;rfl
 refine ⟨i,p,L.rule,L.start,hv,hb,L.hi,L.hp,L.ok,heq,hps,?_⟩
 have hpath:e.path=⟨c_j ss⟩:=by
  have:=L.path
  cases hq:e.path with
  | mk x=>rw [hq] at this;simpa using this
 have hlen:=(b_F hv).2;have hj:=m_N ss L.good;have hl:=L.len;have hMX:=MXv;have hread:=f_H hv hd hb i L.hi n (by omega) p L.hp;have hlk:=k_X (b:=b) hd hn hps
 rw [hlk]
 have G:=hlk;unfold f_8 at G
 rw [hpath,m_J (by omega) (by simp only;omega) (by simp only;omega),r_f ss L.good] at G
 simp only [bd2_some,nT_,bF_,fF_] at G
 rw [k_I d hd,hv] at G
 simp only [bd_some,nT_,bF_,fF_] at G
 rw [dF_ (show ¬(400:Int)<(b.length:Int) by omega),iN_ (by simp),g_U hd,bd_some,hroot] at G
 have hloop:=r_g (n:=n) (by omega) L.reach (l:=ss) 0 (by omega) rfl;have hloop':F_ (σ:=Int×Int) (ρ:=D_×Bool) (λH=>un2 λI J=>bd (idx ss ((H:Nat):Int)) λO=>bd3 (c_G n d I b J O) λV W Y=>if (!Y) then some (.ret ((⟨(⟨[]⟩:Str),0,0,0⟩:D_),false)) else some (.next (V,W))) ss.length 0 (((d.rules.length - 1:Nat):Int),0)=some (.inl ((i:Int),(p:Int))):=hloop
 rw [hloop',bd_some,el_inl] at G
 simp only [un2] at G
 rw [hread] at G
 unfold b_w at G
 rw [L.ok] at G
 simp only [bd3_some,bN_,bF_,fF_] at G
 rw [hpath,← G,← hpath,← heq]
theorem s_l (hd:SmD d){e:D_}(he:e∈b_8 d b):∃i p:Nat,e=⟨e.path,(i:Int),(p:Int),((rdW d.rules b i p).2.1:Int)⟩/\i<d.rules.length/\p<=b.length/\(rdW d.rules b i p).2.2=0/\b_v d b e.path=some (i,p):=by
 obtain ⟨i,p,h1,h2,hv,hb,hi,hp,hok,heq,hps,hl⟩:=s_k (n:=1048600) (Nat.le_refl _) hd he;refine ⟨i,p,heq,hi,hp,hok,?_⟩
 rw [k_X hd (Nat.le_refl _) hps] at hl
 have hl:=Option.some.inj hl;unfold e_j at hl
 cases hf:b_v d b e.path with
 | none=>rw [hf] at hl;cases hl
 | some x =>
  rw [hf] at hl
  have h3:=(Prod.mk.inj hl).1;have G:(x.1:Int)=e.rule:=congrArg D_.rule h3;have H:(x.2:Int)=e.start:=congrArg D_.start h3;have:x=(i,p):=Prod.ext (by simp only;omega) (by simp only;omega)
  rw [this]
end
end Go.Vw
