import Derived.Test.YtefljifhihogoaaGreatDoorVt
namespace Go.Vw
set_option linter.unusedVariables false
open Go.RowKit Dat
def Dr {α:Type}(b:Bt)(o:Option (α×Int×Int))(P:α->Prop):Prop:=∃x i h,o=some (x,i,h)/\0<=i/\i<=(b.length:Int)/\P x
section
variable {b:Bt}{i h:Int}
theorem Dr.mono {α:Type}{o:Option (α×Int×Int)}{P Q:α->Prop}(d:Dr b o P)(hq:∀x,P x->Q x):Dr b o Q:=by
 obtain ⟨x,i,h,e,h1,h2,h3⟩:=d;exact ⟨x,i,h,e,h1,h2,hq x h3⟩
end
end Go.Vw
namespace Go.Vw
open Go.RowKit Dat
structure DrR (n:Nat)(r:f_):Prop where
 name:r.name.b.length<=40
 kind:1<=r.kind/\r.kind<=10
 size:r.kind=1->1<=r.size/\r.size<=3
 size3:r.kind=3->1<=r.size/\r.size<=4
 kids:∀k∈r.kids,0<=k/\k<(n:Int)
 kidn:r.kids.length<=4
 bytes:r.bytes.length<=3
 names:r.names.length<=3/\∀s∈r.names,s.b.length<=40
 tags:r.tags.length<=3
 k4:r.kind=4->r.kids.length=1
 k5:r.kind=5->r.kids.length=2
 k6:r.kind=6->r.names.length=r.kids.length/\r.kids.length<=3
 k7:r.kind=7->r.kids.length=r.tags.length+1/\0<r.tags.length/\∀t (ht:t<r.tags.length),4 * (t:Int)<=r.tags[t]/\r.tags[t]<4 * (t:Int)+4
 k8:r.kind=8∨r.kind=9->r.kids.length=1
 k10:r.kind=10->r.bytes.length=1
structure DrD (d:d_):Prop where
 few:d.rules.length<=6
 some_:0<d.rules.length
 first:∀h:0<d.rules.length,(d.rules[0]).kind=1
 each:∀i (hi:i<d.rules.length),DrR i d.rules[i]
structure DrE (d:d_):Prop where
 some_:0<d.rules.length
 first:∀h:0<d.rules.length,(d.rules[0]).kind=1
 each:∀i (hi:i<d.rules.length),DrR i d.rules[i]
theorem DrD.e {d:d_}(h:DrD d):DrE d:=⟨h.some_,h.first,h.each⟩
section
variable {b:Bt}{i h:Int}
end
end Go.Vw
namespace Go.Vw
open Go.RowKit Dat
inductive Mk (d:d_):Nat->Val->Prop
 | flat {j:Nat} {v:Val} (hj:j<d.rules.length) (hi:v.items=[]) (hb:v.bytes.length<=6):Mk d j v
 | node {j:Nat} {v:Val} (hj:j<d.rules.length) (hn:v.items.length<=3) (hb:v.bytes=[]) (f:Nat->Nat)
   (hf:∀t,t<v.items.length->a_n d.rules[j] v.number t=(f t:Int)/\f t<j) (ch:∀t (ht:t<v.items.length),Mk d (f t) v.items[t]):Mk d j v
theorem Mk.of {d:d_}{j:Nat}{v:Val}(hj:j<d.rules.length)(hn:v.items.length<=3)(hb:v.bytes=[])
  (ch:∀t (ht:t<v.items.length),∃c:Nat,a_n d.rules[j] v.number t=(c:Int)/\c<j/\Mk d c v.items[t]):Mk d j v:=by
 have h:∀t,∃c:Nat,∀ht:t<v.items.length,a_n d.rules[j] v.number t=(c:Int)/\c<j/\Mk d c v.items[t]:=λt=>by
  grind
 exact .node hj hn hb (λt=>(h t).choose) (λt ht=>⟨((h t).choose_spec ht).1,((h t).choose_spec ht).2.1⟩)<|λt ht=>((h t).choose_spec ht).2.2
theorem DrR.ok {n:Nat}{r:f_}(h:DrR n r):i_a r:=⟨h.k5,λG=>(h.k7 G).1,λH=>h.k8<|.inl H,λI=>h.k8<|.inr I⟩
section
variable {b:Bt}{i h:Int}{d:d_}
end
end Go.Vw
namespace Go.Vw
open Go.RowKit Dat
theorem x_M {s:Int}(h1:1<=s)(h4:s<=4):e_K s=some (b_I .i64 1<|8 * s):=by
 unfold e_K
 rw [i_j (by omega) (by omega),show nn (8 * s)=some () from by grind [nn],a_]
theorem Mk.item {d:d_}{j:Nat}{v:Val}(h:Mk d j v):v.items.length<=3/\v.bytes.length<=6/\j<d.rules.length/\∀(hj:j<d.rules.length) t (ht:t<v.items.length),∃c:Nat,a_n d.rules[j] v.number t=(c:Int)/\c<j/\Mk d c v.items[t]:=by
 cases h with
 | flat hj hi hb=>grind
 | node hj hn hb f hf ch=>grind
end Go.Vw
namespace Go.Vw
open Go.RowKit Dat
theorem DrD.sm {d:d_}(h:DrD d):SmD d:=by
 have hMX:=MXv;refine ⟨by have:=h.few;omega,λr hr=>?_⟩;obtain ⟨i,hi,rfl⟩:=QAc hr;have g:=h.each i hi;have h1:=g.name;have h2:=g.bytes;have h3:=g.names.1;have h4:=g.tags;have h5:=g.kidn;exact ⟨by omega,by omega,by omega,by omega,by omega,λs hs=>by have:=g.names.2 s hs;omega⟩
section
variable {c:Bt}{i h:Int}
end
theorem s_h {ρ:Type}{body:Nat->Unit->Option (Out Unit ρ)}{n:Nat}(h:∀j,j<n->body j ()=some (.next ())):k_ body n 0 ()=some (.inl ()):=by
 have:=b_Z (body:=body) (λ_=>()) (n:=n) h
 omega
end Go.Vw
