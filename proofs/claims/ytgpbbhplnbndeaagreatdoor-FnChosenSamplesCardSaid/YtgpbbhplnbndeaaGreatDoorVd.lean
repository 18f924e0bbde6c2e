
import Derived.Test.YtgpbbhplnbndeaaGreatDoorVc
namespace Go.Vw
open Go.RowKit Dat
inductive Mk (d:b_):Nat->Val->Prop
 | flat {j:Nat} {v:Val} (hj:j<d.rules.length) (hi:v.items=[]) (hb:v.bytes.length<=6):Mk d j v
 | node {j:Nat} {v:Val} (hj:j<d.rules.length) (hn:v.items.length<=3) (hb:v.bytes=[]) (f:Nat->Nat)
   (hf:∀t,t<v.items.length->v_ d.rules[j] v.number t=(f t:Int)/\f t<j) (ch:∀t (ht:t<v.items.length),Mk d (f t) v.items[t]):Mk d j v
theorem Mk.of {d:b_}{j:Nat}{v:Val}(hj:j<d.rules.length)(hn:v.items.length<=3)(hb:v.bytes=[])
  (ch:∀t (ht:t<v.items.length),∃c:Nat,v_ d.rules[j] v.number t=(c:Int)/\c<j/\Mk d c v.items[t]):Mk d j v:=by
 have h:∀t,∃c:Nat,∀ht:t<v.items.length,v_ d.rules[j] v.number t=(c:Int)/\c<j/\Mk d c v.items[t]:=λt=>by
  by_cases ht:t<v.items.length
  .obtain ⟨c,hc⟩:=ch t ht;exact ⟨c,λ_=>hc⟩
  .exact ⟨0,λh=>absurd h ht⟩
 exact .node hj hn hb (λt=>(h t).choose) (λt ht=>⟨((h t).choose_spec ht).1,((h t).choose_spec ht).2.1⟩)<|λt ht=>((h t).choose_spec ht).2.2
theorem DrR.ok {n:Nat}{r:c_}(h:DrR n r):f_k r:=⟨h.k5,λG=>(h.k7 G).1,λH=>h.k8<|.inl H,λI=>h.k8<|.inr I⟩
theorem q_K {ts:List Int}{k:Nat}(hk:k<ts.length)(ht:∀t (ht:t<ts.length),4 * (t:Int)<=ts[t]/\ts[t]<4 * (t:Int)+4):a_y ts ts[k]=some k:=by
 unfold a_y
 rw [List.find?_eq_some_iff_append]
 refine ⟨by simp [hk],List.range k,(List.range<|ts.length - k - 1).map (· + (k+1)),?_,?_⟩
 .have h1:ts.length=k+(ts.length - k - 1+1):=by omega
  conv=>lhs;rw [h1,List.range_add,List.range_succ_eq_map]
  simp [Nat.add_left_comm,Function.comp_def]
 .intro t htk
  rw [List.mem_range] at htk
  have h1:=ht t (by omega);have h2:=ht k hk
  rw [gD_,gG_ (by omega:t<ts.length),Option.getD_some]
  simp;omega
section
variable {b:Bt}{i h:Int}{d:b_}
end
end Go.Vw
