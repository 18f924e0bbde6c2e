
import Derived.Test.YtgpbbhplnbndeaaGreatDoorVd
namespace Go.Vw
open Go.RowKit Dat
theorem m_K {s:Int}(h1:1<=s)(h4:s<=4):c_R s=some (b_h .i64 1<|8 * s):=by
 unfold c_R
 rw [d_G (by omega) (by omega),show nn (8 * s)=some () from by unfold nn;rw [iP_ (by omega)],bd_some]
theorem Mk.item {d:b_}{j:Nat}{v:Val}(h:Mk d j v):v.items.length<=3/\v.bytes.length<=6/\j<d.rules.length/\∀(hj:j<d.rules.length) t (ht:t<v.items.length),∃c:Nat,v_ d.rules[j] v.number t=(c:Int)/\c<j/\Mk d c v.items[t]:=by
 cases h with
 | flat hj hi hb=>exact ⟨by rw [hi];simp,hb,hj,λ_ t ht=>by rw [hi] at ht;simp at ht⟩
 | node hj hn hb f hf ch=>exact ⟨hn,by rw [hb];simp,hj,λ_ t ht=>⟨f t,(hf t ht).1,(hf t ht).2,ch t ht⟩⟩
end Go.Vw
