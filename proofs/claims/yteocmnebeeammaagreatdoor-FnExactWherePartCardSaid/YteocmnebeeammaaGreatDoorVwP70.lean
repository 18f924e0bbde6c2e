
import Derived.Test.YteocmnebeeammaaGreatDoorVwP69
import Derived.Test.YteocmnebeeammaaGreatDoorVwP28
namespace Go.Vw
open Go.RowKit Dat
section
variable {d:d_}{b:Bt}
theorem s_A {n:Nat}(hn:1048600<=n)(hd:SmD d){e:k_}(he:e∈a_Q d b) :
  ∃i p:Nat,e.rule=i/\e.start=p/\G_ d=true/\b.length<=400/\i<d.rules.length/\p<=b.length/\(rdW d.rules b i p).2.2=0/\e=⟨e.path,(i:Int),(p:Int),((rdW d.rules b i p).2.1:Int)⟩/\e.path.b.length<=MX/\e_H n d b e.path=some (e,true):=by
 have hok:okF d b=true:=by
  cases h:okF d b with
  | true=>rfl
  | false=>unfold a_Q at he;rw [h] at he;cases he
 obtain ⟨hv,hb,hr,hroot,hrd,_⟩:=g_V hok;have hps:=e_w he;unfold a_Q at he
 rw [iP_ hok] at he
 obtain ⟨ss,i,p,L⟩:=r_A hv hd hb _ hr 0 ⟨[]⟩ e (Nat.zero_le _) hrd he
 have heq:e=⟨e.path,(i:Int),(p:Int),((rdW d.rules b i p).2.1:Int)⟩:=by
  have h1:=L.rule;have h2:=L.start;have h3:=L.end_
  cases e;simp only at h1 h2 h3;subst h1 h2 h3;rfl
 refine ⟨i,p,L.rule,L.start,hv,hb,L.hi,L.hp,L.ok,heq,hps,?_⟩
 have hpath:e.path=⟨c_n ss⟩:=by
  have:=L.path
  cases hq:e.path with
  | mk x=>rw [hq] at this;simpa using this
 have hlen:=(a_Y hv).2;have hj:=n_n ss L.good;have hl:=L.len;have hMX:=MXv;have hread:=f_b hv hd hb i L.hi n (by omega) p L.hp;have hlk:=f_T (b:=b) hd hn hps
 rw [hlk]
 have G:=hlk;unfold e_H at G
 rw [hpath,k_R (by omega) (by simp only;omega) (by simp only;omega),r_B ss L.good] at G
 simp only [bd2_some,nT_,bF_,fF_] at G
 rw [k_L d hd,hv] at G
 simp only [bd_some,nT_,bF_,fF_] at G
 rw [dF_ (show ¬(400:Int)<(b.length:Int) by omega),iN_ (by simp),j_z hd,bd_some,hroot] at G
 have hloop:=r_C (n:=n) (by omega) L.reach (l:=ss) 0 (by omega) rfl;have hloop':r_ (σ:=Int×Int) (ρ:=k_×Bool) (λH=>un2 λI J=>bd (idx ss ((H:Nat):Int)) λO=>bd3 (c_Z n d I b J O) λV W Y=>if (!Y) then some (.ret ((⟨(⟨[]⟩:Str),0,0,0⟩:k_),false)) else some (.next (V,W))) ss.length 0 (((d.rules.length - 1:Nat):Int),0)=some (.inl ((i:Int),(p:Int))):=hloop
 rw [hloop',bd_some,el_inl] at G
 simp only [un2] at G
 rw [hread] at G
 unfold b_c at G
 rw [L.ok] at G
 simp only [bd3_some,bN_,bF_,fF_] at G
 rw [hpath,← G,← hpath,← heq]
theorem o_r (hd:SmD d){e:k_}(he:e∈a_Q d b):∃i p:Nat,e=⟨e.path,(i:Int),(p:Int),((rdW d.rules b i p).2.1:Int)⟩/\i<d.rules.length/\p<=b.length/\(rdW d.rules b i p).2.2=0/\c_o d b e.path=some (i,p):=by
 obtain ⟨i,p,h1,h2,hv,hb,hi,hp,hok,heq,hps,hl⟩:=s_A (n:=1048600) (Nat.le_refl _) hd he;refine ⟨i,p,heq,hi,hp,hok,?_⟩
 rw [f_T hd (Nat.le_refl _) hps] at hl
 have hl:=Option.some.inj hl;unfold d_Y at hl
 cases hf:c_o d b e.path with
 | none=>rw [hf] at hl;cases hl
 | some x =>
  rw [hf] at hl
  have h3:=(Prod.mk.inj hl).1;have G:(x.1:Int)=e.rule:=congrArg k_.rule h3;have H:(x.2:Int)=e.start:=congrArg k_.start h3;have:x=(i,p):=Prod.ext (by simp only;omega) (by simp only;omega)
  rw [this]
theorem o_s {n:Nat}(hn:1048600<=n)(hd:SmD d){e:k_}(he:e∈a_Q d b):∃(t:Str)(v:Val)(x:Int),e_X n d b e.path=some t/\p_n n d b e.path=some t/\e_a n d e.rule b e.start=some (v,x,0)/\e_Y n d e.rule v=some t:=by
 obtain ⟨i,p,heq,hi,hp,hok,hf⟩:=o_r hd he;obtain ⟨hv,hb,_,_,_⟩:=j_n hf;have hps:=e_w he;obtain ⟨t,I,G⟩:=s_y hv hd hb hi hp hok (n:=n) (by omega);have H:e.rule=(i:Int):=congrArg k_.rule heq;have J:e.start=(p:Int):=congrArg k_.start heq;refine ⟨t,(rdW d.rules b i p).1,((rdW d.rules b i p).2.1:Int),?_,?_,?_,?_⟩
 .unfold e_X
  rw [f_T hd hn hps,l_4 hd hn hps]
  unfold d_Y e_v
  rw [hf,bd2_some,iN_ (by simp),bd2_some]
  simp only
  rw [I,bd_some]
 .unfold p_n
  rw [r_U hd hn hps]
  unfold e_v
  rw [hf,bd3_some,iN_ (by simp)]
  simp only
  rw [G,bd_some]
 .rw [H,J,l_m hd (by omega),k_U hv hb hi hp]
  unfold b_c
  rw [hok]
 .rw [H];exact G
end
end Go.Vw
