import Derived.Test.YtdgimlkkidpmmaaGreatDoorVd
namespace Go.Vw
open Go.RowKit Dat
section
variable {d:c_}{b:Bt}
theorem p_T (b:Bt):f_d b b=some true:=by
 rw [t_7,bQ_]
end
end Go.Vw
namespace Go.Vw
open Go.RowKit Dat
inductive LnV:Val->Prop
 | mk {x:Int} {bs:Bt} {vs:List Val} (hb:bs.length<=LEN) (hv:vs.length<=LEN) (h:∀v∈vs,LnV v):LnV (.mk x bs vs)
theorem LnV.bytes {v:Val}(h:LnV v):v.bytes.length<=LEN:=by cases h with | mk hb _ _=>exact hb
theorem LnV.items {v:Val}(h:LnV v):v.items.length<=LEN/\∀x∈v.items,LnV x:=by cases h with | mk _ hv h=>exact ⟨hv,h⟩
end Go.Vw
