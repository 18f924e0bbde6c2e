
import Derived.Test.YtbhbfaljeoeciaaGreatDoorVf
namespace Go.Vw
open Go.RowKit Dat
theorem q_7 {s:Int}(h1:1<=s)(h4:s<=4):d_x s=some (b_3 .i64 1<|8 * s):=by
 unfold d_x
 rw [e_p (by omega) (by omega),show nn (8 * s)=some () from by unfold nn;rw [iP_ (by omega)],bd_some]
theorem Mk.item {d:c_}{j:Nat}{v:Val}(h:Mk d j v):v.items.length<=3/\v.bytes.length<=6/\j<d.rules.length/\∀(hj:j<d.rules.length) t (ht:t<v.items.length),∃c:Nat,N_ d.rules[j] v.number t=(c:Int)/\c<j/\Mk d c v.items[t]:=by
 cases h with
 | flat hj hi hb=>exact ⟨by rw [hi];simp,hb,hj,fun _ t ht=>by rw [hi] at ht;simp at ht⟩
 | node hj hn hb f hf ch=>exact ⟨hn,by rw [hb];simp,hj,fun _ t ht=>⟨f t,(hf t ht).1,(hf t ht).2,ch t ht⟩⟩
end Go.Vw
