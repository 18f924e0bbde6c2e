
import Derived.Test.YtlmdniepgikmaaaGreatDoorV9
import Derived.Test.YtlmdniepgikmaaaGreatDoorVa
import Derived.Test.YtlmdniepgikmaaaGreatDoorV7
namespace Go.Vw
open Go.RowKit Dat
section
variable {d:f_}{b:Bt}
structure n_g (d:f_)(b:Bt)(n:Nat)(e:D_)(i p:Nat):Prop where
 path:e.path.b.length<=n
 rule:e.rule=i
 start:e.start=p
 end_:e.end_=((rdW d.rules b i p).2.1:Nat)
 hi:i<d.rules.length
 hp:p<=b.length
 ok:(rdW d.rules b i p).2.2=0
theorem placed (hv:U_ d=true):∀(i:Nat),i<d.rules.length->∀(at_:Nat)(path:Str)(e:D_),at_<=b.length->(rdW d.rules b i at_).2.2=0->e∈ixW d.rules b i at_ path->∃i' p',n_g d b (path.b.length+22 * i) e i' p':=by
 intro i
 induction i using Nat.strongRecOn with
 | _ i ih =>
  intro hi at_ path x ha hok hx;obtain ⟨ks,e,h⟩:=f_3 hv hi ha hok
  rw [j_m hv hi h path] at hx
  rcases List.mem_cons.1 hx with rfl | hx
  .exact ⟨i,at_,Nat.le_add_right _ _,rfl,rfl,rfl,hi,ha,hok⟩
  .obtain ⟨m,hm,hx⟩:=k_N _ _ _ hx;have hr:=b_9 hv hi;have hkr:=hr.kids _<|h.kids _<|gE_ hm;have hP:=j_5 h.ch m hm;have G:=h.small;obtain ⟨i',p',L⟩:=ih ks[m].toNat (by omega) (by omega) _ _ x hP.1 hP.2 hx;have hl:=n_H (d:=d) (path:=path) (j:=0+m) hr.kind (by omega);exact ⟨i',p',by have:=L.path;omega,L.rule,L.start,L.end_,L.hi,L.hp,L.ok⟩
theorem r_G {e:D_}(he:e∈b_8 d b):U_ d=true/\b.length<=400/\∃i p,n_g d b 1000 e i p:=by
 have hok:okF d b=true:=by
  cases h:okF d b with
  | true=>rfl
  | false=>unfold b_8 at he;rw [h] at he;cases he
 unfold b_8 at he
 rw [iP_ hok] at he
 obtain ⟨hv,hb,h1,_,h2,_⟩:=j_2 hok;have hl:=(b_F hv).2;obtain ⟨i,p,L⟩:=placed hv _ h1 0 ⟨[]⟩ e (Nat.zero_le _) h2 he;have:=L.path
 simp only [List.length_nil] at this
 exact ⟨hv,hb,i,p,by omega,L.rule,L.start,L.end_,L.hi,L.hp,L.ok⟩
end
end Go.Vw
