
import Derived.Test.YtbhbfaljeoeciaaGreatDoorVe
namespace Go.Vw
open Go.RowKit Dat
inductive Mk (d:c_):Nat->Val->Prop
 | flat {j:Nat} {v:Val} (hj:j<d.rules.length) (hi:v.items=[]) (hb:v.bytes.length<=6):Mk d j v
 | node {j:Nat} {v:Val} (hj:j<d.rules.length) (hn:v.items.length<=3) (hb:v.bytes=[]) (f:Nat->Nat)
   (hf:∀t,t<v.items.length->N_ d.rules[j] v.number t=(f t:Int)/\f t<j) (ch:∀t (ht:t<v.items.length),Mk d (f t) v.items[t]):Mk d j v
theorem Mk.of {d:c_}{j:Nat}{v:Val}(hj:j<d.rules.length)(hn:v.items.length<=3)(hb:v.bytes=[])
  (ch:∀t (ht:t<v.items.length),∃c:Nat,N_ d.rules[j] v.number t=(c:Int)/\c<j/\Mk d c v.items[t]):Mk d j v:=by
 have h:∀t,∃c:Nat,∀ht:t<v.items.length,N_ d.rules[j] v.number t=(c:Int)/\c<j/\Mk d c v.items[t]:=fun t=>by
  by_cases ht:t<v.items.length
  ·obtain ⟨c,hc⟩:=ch t ht;exact ⟨c,fun _=>hc⟩
  ·exact ⟨0,fun h=>absurd h ht⟩
 exact .node hj hn hb (fun t=>(h t).choose) (fun t ht=>⟨((h t).choose_spec ht).1,((h t).choose_spec ht).2.1⟩)<|fun t ht=>((h t).choose_spec ht).2.2
theorem DrR.ok {n:Nat}{r:g_}(h:DrR n r):d_2 r:=⟨h.k5,fun G=>(h.k7 G).1,fun H=>h.k8<|.inl H,fun I=>h.k8<|.inr I⟩
section
variable {b:List UInt8}{i h:Int}{d:c_}
end
end Go.Vw
