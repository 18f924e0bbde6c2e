
import Derived.Test.YtelphaiofendpaaGreatDoorVwP23
import Derived.Test.YtelphaiofendpaaGreatDoorVwP28
namespace Go.Vw
open Go.RowKit Dat
section
variable {d:d_}{b:Bt}
theorem s_M {n:Nat}(hn:1048600<=n)(hd:SmD d){e:y_}(he:e∈a_K d b) :
  ∃i p:Nat,e.rule=i/\e.start=p/\N_ d=true/\b.length<=400/\i<d.rules.length/\p<=b.length/\(rdW d.rules b i p).2.2=0/\e=⟨e.path,(i:Int),(p:Int),((rdW d.rules b i p).2.1:Int)⟩/\e.path.b.length<=MX/\g_b n d b e.path=some (e,true):=by
 have hok:okF d b=true:=by
  cases h:okF d b with
  | true=>rfl
  | false=>unfold a_K at he;rw [h] at he;cases he
 obtain ⟨hv,hb,hr,hroot,hrd,_⟩:=j_g hok;have hps:=l_o he;unfold a_K at he
 rw [iP_ hok] at he
 obtain ⟨ss,i,p,L⟩:=r_z hv hd hb _ hr 0 ⟨[]⟩ e (Nat.zero_le _) hrd he
 have heq:e=⟨e.path,(i:Int),(p:Int),((rdW d.rules b i p).2.1:Int)⟩:=by
  have h1:=L.rule;have h2:=L.start;have h3:=L.end_
  cases e;simp only at h1 h2 h3;subst h1 h2 h3;rfl
 refine ⟨i,p,L.rule,L.start,hv,hb,L.hi,L.hp,L.ok,heq,hps,?_⟩
 have hpath:e.path=⟨c_1 ss⟩:=by
  have:=L.path
  cases hq:e.path with
  | mk x=>rw [hq] at this;simpa using this
 have hlen:=(b_e hv).2;have hj:=l_e ss L.good;have hl:=L.len;have hMX:=MXv;have hread:=f_4 hv hd hb i L.hi n (by omega) p L.hp;have hlk:=j_t (b:=b) hd hn hps
 rw [hlk]
 have G:=hlk;unfold g_b at G
 rw [hpath,l_d (by omega) (by simp only;omega) (by simp only;omega),n_c ss L.good] at G
 simp only [bd2_some,nT_,bF_,fF_] at G
 rw [l_7 d hd,hv] at G
 simp only [bd_some,nT_,bF_,fF_] at G
 rw [dF_ (show ¬(400:Int)<(b.length:Int) by omega),iN_ (by simp),f_V hd,bd_some,hroot] at G
 have hloop:=r_A (n:=n) (by omega) L.reach (l:=ss) 0 (by omega) rfl;have hloop':x_ (σ:=Int×Int) (ρ:=y_×Bool) (λH=>un2 λI J=>bd (idx ss ((H:Nat):Int)) λO=>bd3 (d_B n d I b J O) λV W Y=>if (!Y) then some (.ret ((⟨(⟨[]⟩:Str),0,0,0⟩:y_),false)) else some (.next (V,W))) ss.length 0 (((d.rules.length - 1:Nat):Int),0)=some (.inl ((i:Int),(p:Int))):=hloop
 rw [hloop',bd_some,el_inl] at G
 simp only [un2] at G
 rw [hread] at G
 unfold b_m at G
 rw [L.ok] at G
 simp only [bd3_some,bN_,bF_,fF_] at G
 rw [hpath,← G,← hpath,← heq]
theorem o_d (hd:SmD d){e:y_}(he:e∈a_K d b):∃i p:Nat,e=⟨e.path,(i:Int),(p:Int),((rdW d.rules b i p).2.1:Int)⟩/\i<d.rules.length/\p<=b.length/\(rdW d.rules b i p).2.2=0/\c_p d b e.path=some (i,p):=by
 obtain ⟨i,p,h1,h2,hv,hb,hi,hp,hok,heq,hps,hl⟩:=s_M (n:=1048600) (Nat.le_refl _) hd he;refine ⟨i,p,heq,hi,hp,hok,?_⟩
 rw [j_t hd (Nat.le_refl _) hps] at hl
 have hl:=Option.some.inj hl;unfold d_U at hl
 cases hf:c_p d b e.path with
 | none=>rw [hf] at hl;cases hl
 | some x =>
  rw [hf] at hl
  have h3:=(Prod.mk.inj hl).1;have G:(x.1:Int)=e.rule:=congrArg y_.rule h3;have H:(x.2:Int)=e.start:=congrArg y_.start h3;have:x=(i,p):=Prod.ext (by simp only;omega) (by simp only;omega)
  rw [this]
end
end Go.Vw
