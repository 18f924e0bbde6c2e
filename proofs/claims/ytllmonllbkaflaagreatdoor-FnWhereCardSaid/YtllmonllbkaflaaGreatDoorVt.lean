
import Derived.Test.YtllmonllbkaflaaGreatDoorVe
import Derived.Test.YtllmonllbkaflaaGreatDoorVs
namespace Go.Vw
open Go.RowKit Dat
section
variable {d:c_}{b:Bt}
theorem u_n {n:Nat}(hn:1048600<=n)(hd:SmD d){e:g_}(he:e∈a_X d b) :
  ∃i p:Nat,e.rule=i/\e.start=p/\D_ d=true/\b.length<=400/\i<d.rules.length/\p<=b.length/\(rdW d.rules b i p).2.2=0/\e=⟨e.path,(i:Int),(p:Int),((rdW d.rules b i p).2.1:Int)⟩/\e.path.b.length<=MX/\f_g n d b e.path=some (e,true):=by
 have hok:okF d b=true:=by
  cases h:okF d b with
  | true=>rfl
  | false=>unfold a_X at he;rw [h] at he;cases he
 obtain ⟨hv,hb,hr,hroot,hrd,_⟩:=i_c hok;have hps:=f_6 he;unfold a_X at he
 rw [iP_ hok] at he
 obtain ⟨ss,i,p,L⟩:=t_3 hv hd hb _ hr 0 ⟨[]⟩ e (Nat.zero_le _) hrd he
 have heq:e=⟨e.path,(i:Int),(p:Int),((rdW d.rules b i p).2.1:Int)⟩:=by
  have h1:=L.rule;have h2:=L.start;have h3:=L.end_
  cases e;simp only at h1 h2 h3;subst h1 h2 h3;rfl
 refine ⟨i,p,L.rule,L.start,hv,hb,L.hi,L.hp,L.ok,heq,hps,?_⟩
 have hpath:e.path=⟨c_C ss⟩:=by
  have:=L.path
  cases hq:e.path with
  | mk x=>rw [hq] at this;simpa using this
 have hlen:=(b_f hv).2;have hj:=o_b ss L.good;have hl:=L.len;have hMX:=MXv;have hread:=g_c hv hd hb i L.hi n (by omega) p L.hp;have hlk:=g_7 (b:=b) hd hn hps
 rw [hlk]
 have G:=hlk;unfold f_g at G
 rw [hpath,k_e (by omega) (by simp only;omega) (by simp only;omega),t_4 ss L.good] at G
 simp only [bd2_some,nT_,bF_,fF_] at G
 rw [m_1 d hd,hv] at G
 simp only [bd_some,nT_,bF_,fF_] at G
 rw [dF_ (show ¬(400:Int)<(b.length:Int) by omega),iN_ (by simp),k_C hd,bd_some,hroot] at G
 have hloop:=t_5 (n:=n) (by omega) L.reach (l:=ss) 0 (by omega) rfl;have hloop':p_ (σ:=Int×Int) (ρ:=g_×Bool) (λH=>un2 λI J=>bd (idx ss ((H:Nat):Int)) λO=>bd3 (d_g n d I b J O) λV W Y=>if (!Y) then some (.ret ((⟨(⟨[]⟩:Str),0,0,0⟩:g_),false)) else some (.next (V,W))) ss.length 0 (((d.rules.length - 1:Nat):Int),0)=some (.inl ((i:Int),(p:Int))):=hloop
 rw [hloop',bd_some,el_inl] at G
 simp only [un2] at G
 rw [hread] at G
 unfold b_p at G
 rw [L.ok] at G
 simp only [bd3_some,bN_,bF_,fF_] at G
 rw [hpath,← G,← hpath,← heq]
theorem p_w (hd:SmD d){e:g_}(he:e∈a_X d b):∃i p:Nat,e=⟨e.path,(i:Int),(p:Int),((rdW d.rules b i p).2.1:Int)⟩/\i<d.rules.length/\p<=b.length/\(rdW d.rules b i p).2.2=0/\c_p d b e.path=some (i,p):=by
 obtain ⟨i,p,h1,h2,hv,hb,hi,hp,hok,heq,hps,hl⟩:=u_n (n:=1048600) (Nat.le_refl _) hd he;refine ⟨i,p,heq,hi,hp,hok,?_⟩
 rw [g_7 hd (Nat.le_refl _) hps] at hl
 have hl:=Option.some.inj hl;unfold d_Z at hl
 cases hf:c_p d b e.path with
 | none=>rw [hf] at hl;cases hl
 | some x =>
  rw [hf] at hl
  have h3:=(Prod.mk.inj hl).1;have G:(x.1:Int)=e.rule:=congrArg g_.rule h3;have H:(x.2:Int)=e.start:=congrArg g_.start h3;have:x=(i,p):=Prod.ext (by simp only;omega) (by simp only;omega)
  rw [this]
end
end Go.Vw
