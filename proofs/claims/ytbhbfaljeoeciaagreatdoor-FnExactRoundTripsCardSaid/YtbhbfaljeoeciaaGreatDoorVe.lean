
import Derived.Test.YtbhbfaljeoeciaaGreatDoorVd
namespace Go.Vw
open Go.RowKit Dat
structure DrR (n:Nat)(r:g_):Prop where
 name:r.name.b.length<=40
 kind:1<=r.kind/\r.kind<=10
 size:r.kind=1->1<=r.size/\r.size<=3
 size3:r.kind=3->1<=r.size/\r.size<=4
 kids:∀k∈r.kids,0<=k/\k<(n:Int)
 kidn:r.kids.length<=4
 bytes:r.bytes.length<=3
 names:r.names.length<=3/\∀s∈r.names,s.b.length<=40
 tags:r.tags.length<=3
 k4:r.kind=4->r.kids.length=1
 k5:r.kind=5->r.kids.length=2
 k6:r.kind=6->r.names.length=r.kids.length/\r.kids.length<=3
 k7:r.kind=7->r.kids.length=r.tags.length+1/\0<r.tags.length/\∀t (ht:t<r.tags.length),4 * (t:Int)<=r.tags[t]/\r.tags[t]<4 * (t:Int)+4
 k8:r.kind=8∨r.kind=9->r.kids.length=1
 k10:r.kind=10->r.bytes.length=1
structure DrD (d:c_):Prop where
 few:d.rules.length<=6
 some_:0<d.rules.length
 first:∀h:0<d.rules.length,(d.rules[0]).kind=1
 each:∀i (hi:i<d.rules.length),DrR i d.rules[i]
structure DrE (d:c_):Prop where
 some_:0<d.rules.length
 first:∀h:0<d.rules.length,(d.rules[0]).kind=1
 each:∀i (hi:i<d.rules.length),DrR i d.rules[i]
theorem DrD.e {d:c_}(h:DrD d):DrE d:=⟨h.some_,h.first,h.each⟩
section
variable {b:List UInt8}{i h:Int}
end
end Go.Vw
