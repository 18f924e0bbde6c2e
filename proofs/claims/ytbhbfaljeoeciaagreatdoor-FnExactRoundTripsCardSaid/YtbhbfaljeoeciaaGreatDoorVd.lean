
import Derived.Test.YtbhbfaljeoeciaaGreatDoorV6
namespace Go.Vw
open Go.RowKit Dat
def Dr {α:Type}(b:List UInt8)(o:Option (α×Int×Int))(P:α->Prop):Prop:=∃x i h,o=some (x,i,h)/\0<=i/\i<=(b.length:Int)/\P x
section
variable {b:List UInt8}{i h:Int}
theorem Dr.mono {α:Type}{o:Option (α×Int×Int)}{P Q:α->Prop}(d:Dr b o P)(hq:∀x,P x->Q x):Dr b o Q:=by
 obtain ⟨x,i,h,e,h1,h2,h3⟩:=d;exact ⟨x,i,h,e,h1,h2,hq x h3⟩
end
end Go.Vw
