
import Derived.Test.YtjdphpimefbinaaGreatDoorV9
import Derived.Test.YtjdphpimefbinaaGreatDoorVb
import Derived.Test.YtjdphpimefbinaaGreatDoorV7
namespace Go.Vw
open Go.RowKit Dat
section
variable {d:c_}{b:Bt}
structure o_t (d:c_)(b:Bt)(n:Nat)(e:k_)(i p:Nat):Prop where
 path:e.path.b.length<=n
 rule:e.rule=i
 start:e.start=p
 end_:e.end_=((rdW d.rules b i p).2.1:Nat)
 hi:i<d.rules.length
 hp:p<=b.length
 ok:(rdW d.rules b i p).2.2=0
theorem placed (hv:G_ d=true):∀(i:Nat),i<d.rules.length->∀(at_:Nat)(path:Str)(e:k_),at_<=b.length->(rdW d.rules b i at_).2.2=0->e∈ixW d.rules b i at_ path->∃i' p',o_t d b (path.b.length+22 * i) e i' p':=by
 intro i
 induction i using Nat.strongRecOn with
 | _ i ih =>
  intro hi at_ path x ha hok hx;obtain ⟨ks,e,h⟩:=e_9 hv hi ha hok
  rw [h_G hv hi h path] at hx
  rcases List.mem_cons.1 hx with rfl | hx
  .exact ⟨i,at_,Nat.le_add_right _ _,rfl,rfl,rfl,hi,ha,hok⟩
  .obtain ⟨m,hm,hx⟩:=m_2 _ _ _ hx;have hr:=a_r hv hi;have hkr:=hr.kids _<|h.kids _<|gE_ hm;have hP:=k_6 h.ch m hm;have G:=h.small;obtain ⟨i',p',L⟩:=ih ks[m].toNat (by omega) (by omega) _ _ x hP.1 hP.2 hx;have hl:=m_r (d:=d) (path:=path) (j:=0+m) hr.kind (by omega);exact ⟨i',p',by have:=L.path;omega,L.rule,L.start,L.end_,L.hi,L.hp,L.ok⟩
theorem t_n {e:k_}(he:e∈a_D d b):G_ d=true/\b.length<=400/\∃i p,o_t d b 1000 e i p:=by
 have hok:okF d b=true:=by
  cases h:okF d b with
  | true=>rfl
  | false=>unfold a_D at he;rw [h] at he;cases he
 unfold a_D at he
 rw [iP_ hok] at he
 obtain ⟨hv,hb,h1,_,h2,_⟩:=h_r hok;have hl:=(a_T hv).2;obtain ⟨i,p,L⟩:=placed hv _ h1 0 ⟨[]⟩ e (Nat.zero_le _) h2 he;have:=L.path
 simp only [List.length_nil] at this
 exact ⟨hv,hb,i,p,by omega,L.rule,L.start,L.end_,L.hi,L.hp,L.ok⟩
end
end Go.Vw
