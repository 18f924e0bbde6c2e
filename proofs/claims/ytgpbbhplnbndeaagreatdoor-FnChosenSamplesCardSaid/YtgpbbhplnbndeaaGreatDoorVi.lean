
import Derived.Test.YtgpbbhplnbndeaaGreatDoorV9
namespace Go.Vw
open Go.RowKit Dat
inductive LnV:Val->Prop
 | mk {x:Int} {bs:Bt} {vs:List Val} (hb:bs.length<=LEN) (hv:vs.length<=LEN) (h:∀v∈vs,LnV v):LnV (.mk x bs vs)
theorem LnV.bytes {v:Val}(h:LnV v):v.bytes.length<=LEN:=by cases h with | mk hb _ _=>exact hb
theorem LnV.items {v:Val}(h:LnV v):v.items.length<=LEN/\∀x∈v.items,LnV x:=by cases h with | mk _ hv h=>exact ⟨hv,h⟩
end Go.Vw
