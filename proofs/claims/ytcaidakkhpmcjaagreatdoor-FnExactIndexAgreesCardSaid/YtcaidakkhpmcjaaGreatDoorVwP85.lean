
import Derived.Test.YtcaidakkhpmcjaaGreatDoorVwP23
import Derived.Test.YtcaidakkhpmcjaaGreatDoorVwP28
namespace Go.Vw
open Go.RowKit Dat
section
variable {d:b_}{b:List UInt8}
theorem r_z {n:Nat}(hn:1048600<=n)(hd:SmD d){e:k_}(he:e∈a_N d b) :
  ∃i p:Nat,e.rule=i/\e.start=p/\F_ d=true/\b.length<=400/\i<d.rules.length/\p<=b.length/\(rdW d.rules b i p).2.2=0/\e=⟨e.path,(i:Int),(p:Int),((rdW d.rules b i p).2.1:Int)⟩/\e.path.b.length<=MX/\e_8 n d b e.path=some (e,true):=by
 have hok:okF d b=true:=by
  cases h:okF d b with
  | true=>rfl
  | false=>unfold a_N at he;rw [h] at he;cases he
 obtain ⟨hv,hb,hr,hroot,hrd,_⟩:=f_i hok;have hps:=k_T he;unfold a_N at he
 rw [iP_ hok] at he
 obtain ⟨ss,i,p,L⟩:=q_I hv hd hb _ hr 0 ⟨[]⟩ e (Nat.zero_le _) hrd he
 have heq:e=⟨e.path,(i:Int),(p:Int),((rdW d.rules b i p).2.1:Int)⟩:=by
  have h1:=L.rule;have h2:=L.start;have h3:=L.end_
  cases e;simp only at h1 h2 h3;subst h1 h2 h3;rfl
 refine ⟨i,p,L.rule,L.start,hv,hb,L.hi,L.hp,L.ok,heq,hps,?_⟩
 have hpath:e.path=⟨b_a ss⟩:=by
  have:=L.path
  cases hq:e.path with
  | mk x=>rw [hq] at this;simpa using this
 have hlen:=(a_O hv).2;have hj:=i_N ss L.good;have hl:=L.len;have hMX:=MXv;have hread:=e_A hv hd hb i L.hi n (by omega) p L.hp;have hlk:=i_U (b:=b) hd hn hps
 rw [hlk]
 have G:=hlk;unfold e_8 at G
 rw [hpath,k_A (by omega) (by simp only;omega) (by simp only;omega),k_F ss L.good] at G
 simp only [bd2_some,nT_,bF_,fF_] at G
 rw [k_u d hd,hv] at G
 simp only [bd_some,nT_,bF_,fF_] at G
 rw [dF_ (show ¬(400:Int)<(b.length:Int) by omega),iN_ (by simp),g_H hd,bd_some,hroot] at G
 have hloop:=q_J (n:=n) (by omega) L.reach (l:=ss) 0 (by omega) rfl;have hloop':v_ (σ:=Int×Int) (ρ:=k_×Bool) (fun H=>un2 fun I J=>bd (idx ss ((H:Nat):Int)) fun O=>bd3 (c_q n d I b J O) fun V W Y=>if (!Y)=true then some (.ret ((⟨(⟨[]⟩:Str),0,0,0⟩:k_),false)) else some (.next (V,W))) ss.length 0 (((d.rules.length - 1:Nat):Int),0)=some (.inl ((i:Int),(p:Int))):=hloop
 rw [hloop',bd_some,el_inl] at G
 simp only [un2] at G
 rw [hread] at G
 unfold b_5 at G
 rw [L.ok] at G
 simp only [bd3_some,bN_,bF_,fF_] at G
 rw [hpath,← G,← hpath,← heq]
theorem r_A (hd:SmD d){e:k_}(he:e∈a_N d b):∃i p:Nat,e=⟨e.path,(i:Int),(p:Int),((rdW d.rules b i p).2.1:Int)⟩/\i<d.rules.length/\p<=b.length/\(rdW d.rules b i p).2.2=0/\b_Z d b e.path=some (i,p):=by
 obtain ⟨i,p,h1,h2,hv,hb,hi,hp,hok,heq,hps,hl⟩:=r_z (n:=1048600) (Nat.le_refl _) hd he;refine ⟨i,p,heq,hi,hp,hok,?_⟩
 rw [i_U hd (Nat.le_refl _) hps] at hl
 have hl:=Option.some.inj hl;unfold d_s at hl
 cases hf:b_Z d b e.path with
 | none=>rw [hf] at hl;cases hl
 | some x =>
  rw [hf] at hl
  have h3:=(Prod.mk.inj hl).1;have G:(x.1:Int)=e.rule:=congrArg k_.rule h3;have H:(x.2:Int)=e.start:=congrArg k_.start h3;have:x=(i,p):=Prod.ext (by simp only;omega) (by simp only;omega)
  rw [this]
end
end Go.Vw
