import Derived.Test.YtfdcdeahjejlmaaGreatDoorVwLens
namespace Go.Vw
open Go.RowKit Dat
structure Rule where
 name : Str
 kind : Int
 size : Int
 little : Bool
 bytes : List UInt8
 names : List Str
 tags : List Int
 kids : List Int
deriving DecidableEq, Inhabited
instance : Dat Rule := Dat.via (fun r => (r.name, r.kind, r.size, r.little, r.bytes, r.names, r.tags, r.kids))
theorem Rule_open {w : World} {B : Nat} {cs : List Value} {x : Rule} (h : rep w B cs x) : ∃ (a1 : Option Addr) (n1 c1 : Nat) (a2 : Option Addr) (n2 c2 : Nat) (a3 : Option Addr) (n3 c3 : Nat) (a4 : Option Addr) (n4 c4 : Nat), cs = [x.name.v, vI x.kind, vI x.size, vB x.little, .slice a1 n1 c1, .slice a2 n2 c2, .slice a3 n3 c3, .slice a4 n4 c4] ∧ x.name.b.length ≤ LEN ∧ inI x.kind ∧ inI x.size ∧ repS w B (.slice a1 n1 c1) x.bytes ∧ repS w B (.slice a2 n2 c2) x.names ∧ repS w B (.slice a3 n3 c3) x.tags ∧ repS w B (.slice a4 n4 c4) x.kids := by
 obtain ⟨c1_, d1_, rfl, g1, t1⟩ := h
 obtain ⟨rfl, p0⟩ := Str_open g1
 obtain ⟨c2_, d2_, rfl, g2, t2⟩ := t1
 obtain ⟨rfl, p1⟩ := Int_open g2
 obtain ⟨c3_, d3_, rfl, g3, t3⟩ := t2
 obtain ⟨rfl, p2⟩ := Int_open g3
 obtain ⟨c4_, d4_, rfl, g4, t4⟩ := t3
 obtain rfl := Bool_open g4
 obtain ⟨c5_, d5_, rfl, g5, t5⟩ := t4
 obtain ⟨a1, n1, c1, rfl, p3⟩ := List_openN g5
 obtain ⟨c6_, d6_, rfl, g6, t6⟩ := t5
 obtain ⟨a2, n2, c2, rfl, p4⟩ := List_openN g6
 obtain ⟨c7_, d7_, rfl, g7, t7⟩ := t6
 obtain ⟨a3, n3, c3, rfl, p5⟩ := List_openN g7
 obtain ⟨a4, n4, c4, rfl, p6⟩ := List_openN t7
 exact ⟨a1, n1, c1, a2, n2, c2, a3, n3, c3, a4, n4, c4, rfl, p0, p1, p2, p3, p4, p5, p6⟩
theorem Rule_mkO {w : World} {x : Rule} {a1 : Option Addr} {n1 c1 : Nat} {a2 : Option Addr} {n2 c2 : Nat} {a3 : Option Addr} {n3 c3 : Nat} {a4 : Option Addr} {n4 c4 : Nat} {S1 : List Nat} {S2 : List Nat} {S3 : List Nat} {S4 : List Nat} (p0 : x.name.b.length ≤ LEN) (p1 : inI x.kind) (p2 : inI x.size) (p3 : ownS w S1 (.slice a1 n1 c1) x.bytes) (p4 : ownS w S2 (.slice a2 n2 c2) x.names) (p5 : ownS w S3 (.slice a3 n3 c3) x.tags) (p6 : ownS w S4 (.slice a4 n4 c4) x.kids) : own w (S1 ++ (S2 ++ (S3 ++ (S4)))) [x.name.v, vI x.kind, vI x.size, vB x.little, .slice a1 n1 c1, .slice a2 n2 c2, .slice a3 n3 c3, .slice a4 n4 c4] x := by
 have h : own w _ _ x := (pair_own (Str_own p0) (pair_own (Int_own p1) (pair_own (Int_own p2) (pair_own Bool_own (pair_own (List_mkO p3) (pair_own (List_mkO p4) (pair_own (List_mkO p5) (List_mkO p6))))))))
 simpa using h
theorem Rule_openO {w : World} {S : List Nat} {cs : List Value} {x : Rule} (h : own w S cs x) : ∃ (a1 : Option Addr) (n1 c1 : Nat) (a2 : Option Addr) (n2 c2 : Nat) (a3 : Option Addr) (n3 c3 : Nat) (a4 : Option Addr) (n4 c4 : Nat) (S1 : List Nat) (S2 : List Nat) (S3 : List Nat) (S4 : List Nat), cs = [x.name.v, vI x.kind, vI x.size, vB x.little, .slice a1 n1 c1, .slice a2 n2 c2, .slice a3 n3 c3, .slice a4 n4 c4] ∧ S = S1 ++ (S2 ++ (S3 ++ (S4))) ∧ x.name.b.length ≤ LEN ∧ inI x.kind ∧ inI x.size ∧ ownS w S1 (.slice a1 n1 c1) x.bytes ∧ ownS w S2 (.slice a2 n2 c2) x.names ∧ ownS w S3 (.slice a3 n3 c3) x.tags ∧ ownS w S4 (.slice a4 n4 c4) x.kids := by
 obtain ⟨c1_, d1_, s1_, u1_, rfl, rfl, g1, t1⟩ := h
 obtain ⟨rfl, rfl, p0⟩ := Str_openO g1
 obtain ⟨c2_, d2_, s2_, u2_, rfl, rfl, g2, t2⟩ := t1
 obtain ⟨rfl, rfl, p1⟩ := Int_openO g2
 obtain ⟨c3_, d3_, s3_, u3_, rfl, rfl, g3, t3⟩ := t2
 obtain ⟨rfl, rfl, p2⟩ := Int_openO g3
 obtain ⟨c4_, d4_, s4_, u4_, rfl, rfl, g4, t4⟩ := t3
 obtain ⟨rfl, rfl⟩ := Bool_openO g4
 obtain ⟨c5_, d5_, s5_, u5_, rfl, rfl, g5, t5⟩ := t4
 obtain ⟨a1, n1, c1, rfl, p3⟩ := List_openOO g5
 obtain ⟨c6_, d6_, s6_, u6_, rfl, rfl, g6, t6⟩ := t5
 obtain ⟨a2, n2, c2, rfl, p4⟩ := List_openOO g6
 obtain ⟨c7_, d7_, s7_, u7_, rfl, rfl, g7, t7⟩ := t6
 obtain ⟨a3, n3, c3, rfl, p5⟩ := List_openOO g7
 obtain ⟨a4, n4, c4, rfl, p6⟩ := List_openOO t7
 exact ⟨a1, n1, c1, a2, n2, c2, a3, n3, c3, a4, n4, c4, _, _, _, _, rfl, by simp, p0, p1, p2, p3, p4, p5, p6⟩
theorem Rule_setO0 {w : World} {S : List Nat} {cs : List Value} {x : Rule} {v : Str} (h : own w S cs x) (hv : v.b.length ≤ LEN) : own w S (cs.set 0 (v.v)) (⟨v, x.kind, x.size, x.little, x.bytes, x.names, x.tags, x.kids⟩ : Rule) := by
 obtain ⟨a1, n1, c1, a2, n2, c2, a3, n3, c3, a4, n4, c4, S1, S2, S3, S4, rfl, rfl, p0, p1, p2, p3, p4, p5, p6⟩ := Rule_openO h
 exact Rule_mkO (x := ⟨v, x.kind, x.size, x.little, x.bytes, x.names, x.tags, x.kids⟩) hv p1 p2 p3 p4 p5 p6
theorem Rule_setO1 {w : World} {S : List Nat} {cs : List Value} {x : Rule} {v : Int} (h : own w S cs x) (hv : inI v) : own w S (cs.set 1 (vI v)) (⟨x.name, v, x.size, x.little, x.bytes, x.names, x.tags, x.kids⟩ : Rule) := by
 obtain ⟨a1, n1, c1, a2, n2, c2, a3, n3, c3, a4, n4, c4, S1, S2, S3, S4, rfl, rfl, p0, p1, p2, p3, p4, p5, p6⟩ := Rule_openO h
 exact Rule_mkO (x := ⟨x.name, v, x.size, x.little, x.bytes, x.names, x.tags, x.kids⟩) p0 hv p2 p3 p4 p5 p6
theorem Rule_setO2 {w : World} {S : List Nat} {cs : List Value} {x : Rule} {v : Int} (h : own w S cs x) (hv : inI v) : own w S (cs.set 2 (vI v)) (⟨x.name, x.kind, v, x.little, x.bytes, x.names, x.tags, x.kids⟩ : Rule) := by
 obtain ⟨a1, n1, c1, a2, n2, c2, a3, n3, c3, a4, n4, c4, S1, S2, S3, S4, rfl, rfl, p0, p1, p2, p3, p4, p5, p6⟩ := Rule_openO h
 exact Rule_mkO (x := ⟨x.name, x.kind, v, x.little, x.bytes, x.names, x.tags, x.kids⟩) p0 p1 hv p3 p4 p5 p6
theorem Rule_setO3 {w : World} {S : List Nat} {cs : List Value} {x : Rule} {v : Bool} (h : own w S cs x) : own w S (cs.set 3 (vB v)) (⟨x.name, x.kind, x.size, v, x.bytes, x.names, x.tags, x.kids⟩ : Rule) := by
 obtain ⟨a1, n1, c1, a2, n2, c2, a3, n3, c3, a4, n4, c4, S1, S2, S3, S4, rfl, rfl, p0, p1, p2, p3, p4, p5, p6⟩ := Rule_openO h
 exact Rule_mkO (x := ⟨x.name, x.kind, x.size, v, x.bytes, x.names, x.tags, x.kids⟩) p0 p1 p2 p3 p4 p5 p6
structure Desc where
 rules : List Rule
deriving DecidableEq, Inhabited
instance : Dat Desc := Dat.via (fun r => r.rules)
theorem Desc_open {w : World} {B : Nat} {cs : List Value} {x : Desc} (h : rep w B cs x) : ∃ (a1 : Option Addr) (n1 c1 : Nat), cs = [.slice a1 n1 c1] ∧ repS w B (.slice a1 n1 c1) x.rules := by
 obtain ⟨a1, n1, c1, rfl, p0⟩ := List_openN h
 exact ⟨a1, n1, c1, rfl, p0⟩
theorem Desc_mkO {w : World} {x : Desc} {a1 : Option Addr} {n1 c1 : Nat} {S1 : List Nat} (p0 : ownS w S1 (.slice a1 n1 c1) x.rules) : own w (S1) [.slice a1 n1 c1] x := by
 have h : own w _ _ x := (List_mkO p0)
 simpa using h
theorem Desc_openO {w : World} {S : List Nat} {cs : List Value} {x : Desc} (h : own w S cs x) : ∃ (a1 : Option Addr) (n1 c1 : Nat) (S1 : List Nat), cs = [.slice a1 n1 c1] ∧ S = S1 ∧ ownS w S1 (.slice a1 n1 c1) x.rules := by
 obtain ⟨a1, n1, c1, rfl, p0⟩ := List_openOO h
 exact ⟨a1, n1, c1, _, rfl, rfl, p0⟩
structure Entry where
 path : Str
 rule : Int
 start : Int
 end_ : Int
deriving DecidableEq, Inhabited
instance : Dat Entry := Dat.via (fun r => (r.path, r.rule, r.start, r.end_))
instance : FlatDat Entry := ⟨fun h => FlatDat.flat (α := Str × Int × Int × Int) h, fun h => FlatDat.none (α := Str × Int × Int × Int) h⟩
structure TagKey where
 rule : Int
 tag : Int
deriving DecidableEq, Inhabited
instance : Dat TagKey := Dat.via (fun r => (r.rule, r.tag))
instance : FlatDat TagKey := ⟨fun h => FlatDat.flat (α := Int × Int) h, fun h => FlatDat.none (α := Int × Int) h⟩
structure Locator where
 d : Desc
 b : List UInt8
 rule : Int
 at_ : Int
deriving DecidableEq, Inhabited
instance : Dat Locator := Dat.via (fun r => (r.d, r.b, r.rule, r.at_))
structure Indexer where
 d : Desc
 b : List UInt8
 list_ : List Entry
deriving DecidableEq, Inhabited
instance : Dat Indexer := Dat.via (fun r => (r.d, r.b, r.list_))
structure FileReader where
 d : Desc
 b : List UInt8
deriving DecidableEq, Inhabited
instance : Dat FileReader := Dat.via (fun r => (r.d, r.b))
structure ReadError where
 position : Int
 code : Int
deriving DecidableEq, Inhabited
instance : Dat ReadError := Dat.via (fun r => (r.position, r.code))
instance : FlatDat ReadError := ⟨fun h => FlatDat.flat (α := Int × Int) h, fun h => FlatDat.none (α := Int × Int) h⟩
structure Checker where
 d : Desc
 b : List UInt8
 applied : Int
deriving DecidableEq, Inhabited
instance : Dat Checker := Dat.via (fun r => (r.d, r.b, r.applied))
structure Spot where
 at_ : Int
 code : Int
deriving DecidableEq, Inhabited
instance : Dat Spot := Dat.via (fun r => (r.at_, r.code))
instance : FlatDat Spot := ⟨fun h => FlatDat.flat (α := Int × Int) h, fun h => FlatDat.none (α := Int × Int) h⟩
structure Diagnosis where
 code : Int
 position : Int
 path : Str
 rule : Int
deriving DecidableEq, Inhabited
instance : Dat Diagnosis := Dat.via (fun r => (r.code, r.position, r.path, r.rule))
instance : FlatDat Diagnosis := ⟨fun h => FlatDat.flat (α := Int × Int × Str × Int) h, fun h => FlatDat.none (α := Int × Int × Str × Int) h⟩
structure Tracer where
 d : Desc
 b : List UInt8
 path : Str
 rule : Int
deriving DecidableEq, Inhabited
instance : Dat Tracer := Dat.via (fun r => (r.d, r.b, r.path, r.rule))
structure L1Cur where
 b : List UInt8
 i : Int
 h : Int
deriving DecidableEq, Inhabited
instance : Dat L1Cur := Dat.via (fun r => (r.b, r.i, r.h))
structure Registry where
 versions : List Desc
deriving DecidableEq, Inhabited
instance : Dat Registry := Dat.via (fun r => r.versions)
theorem Registry_open {w : World} {B : Nat} {cs : List Value} {x : Registry} (h : rep w B cs x) : ∃ (a1 : Option Addr) (n1 c1 : Nat), cs = [.slice a1 n1 c1] ∧ repS w B (.slice a1 n1 c1) x.versions := by
 obtain ⟨a1, n1, c1, rfl, p0⟩ := List_openN h
 exact ⟨a1, n1, c1, rfl, p0⟩
structure Log where
 bytes : List UInt8
 stored : Int
deriving DecidableEq, Inhabited
instance : Dat Log := Dat.via (fun r => (r.bytes, r.stored))
theorem Log_open {w : World} {B : Nat} {cs : List Value} {x : Log} (h : rep w B cs x) : ∃ (a1 : Option Addr) (n1 c1 : Nat), cs = [.slice a1 n1 c1, vI x.stored] ∧ repS w B (.slice a1 n1 c1) x.bytes ∧ inI x.stored := by
 obtain ⟨c1_, d1_, rfl, g1, t1⟩ := h
 obtain ⟨a1, n1, c1, rfl, p0⟩ := List_openN g1
 obtain ⟨rfl, p1⟩ := Int_open t1
 exact ⟨a1, n1, c1, rfl, p0, p1⟩
structure Archive where
 registry : Registry
 log : Log
deriving DecidableEq, Inhabited
instance : Dat Archive := Dat.via (fun r => (r.registry, r.log))
theorem Archive_open {w : World} {B : Nat} {cs : List Value} {x : Archive} (h : rep w B cs x) : ∃ (a1 : Option Addr) (n1 c1 : Nat) (a2 : Option Addr) (n2 c2 : Nat), cs = [.slice a1 n1 c1, .slice a2 n2 c2, vI x.log.stored] ∧ repS w B (.slice a1 n1 c1) x.registry.versions ∧ repS w B (.slice a2 n2 c2) x.log.bytes ∧ inI x.log.stored := by
 obtain ⟨c1_, d1_, rfl, g1, t1⟩ := h
 obtain ⟨a1, n1, c1, rfl, p0⟩ := Registry_open g1
 obtain ⟨a2, n2, c2, rfl, p1, p2⟩ := Log_open t1
 exact ⟨a1, n1, c1, a2, n2, c2, rfl, p0, p1, p2⟩
structure StoredFile where
 name : Str
 version : Int
 data : List UInt8
deriving DecidableEq, Inhabited
instance : Dat StoredFile := Dat.via (fun r => (r.name, r.version, r.data))
theorem StoredFile_open {w : World} {B : Nat} {cs : List Value} {x : StoredFile} (h : rep w B cs x) : ∃ (a1 : Option Addr) (n1 c1 : Nat), cs = [x.name.v, vI x.version, .slice a1 n1 c1] ∧ x.name.b.length ≤ LEN ∧ inI x.version ∧ repS w B (.slice a1 n1 c1) x.data := by
 obtain ⟨c1_, d1_, rfl, g1, t1⟩ := h
 obtain ⟨rfl, p0⟩ := Str_open g1
 obtain ⟨c2_, d2_, rfl, g2, t2⟩ := t1
 obtain ⟨rfl, p1⟩ := Int_open g2
 obtain ⟨a1, n1, c1, rfl, p2⟩ := List_openN t2
 exact ⟨a1, n1, c1, rfl, p0, p1, p2⟩
theorem StoredFile_mk {w : World} {B : Nat} {x : StoredFile} {a1 : Option Addr} {n1 c1 : Nat} (p0 : x.name.b.length ≤ LEN) (p1 : inI x.version) (p2 : repS w B (.slice a1 n1 c1) x.data) : rep w B [x.name.v, vI x.version, .slice a1 n1 c1] x := (pair_rep (Str_mk p0) (pair_rep (Int_mk p1) (List_mk p2)))
structure Record where
 kind : Int
 name : Str
 version : Int
 data : List UInt8
deriving DecidableEq, Inhabited
instance : Dat Record := Dat.via (fun r => (r.kind, r.name, r.version, r.data))
theorem Record_open {w : World} {B : Nat} {cs : List Value} {x : Record} (h : rep w B cs x) : ∃ (a1 : Option Addr) (n1 c1 : Nat), cs = [vI x.kind, x.name.v, vI x.version, .slice a1 n1 c1] ∧ inI x.kind ∧ x.name.b.length ≤ LEN ∧ inI x.version ∧ repS w B (.slice a1 n1 c1) x.data := by
 obtain ⟨c1_, d1_, rfl, g1, t1⟩ := h
 obtain ⟨rfl, p0⟩ := Int_open g1
 obtain ⟨c2_, d2_, rfl, g2, t2⟩ := t1
 obtain ⟨rfl, p1⟩ := Str_open g2
 obtain ⟨c3_, d3_, rfl, g3, t3⟩ := t2
 obtain ⟨rfl, p2⟩ := Int_open g3
 obtain ⟨a1, n1, c1, rfl, p3⟩ := List_openN t3
 exact ⟨a1, n1, c1, rfl, p0, p1, p2, p3⟩
theorem Record_mkO {w : World} {x : Record} {a1 : Option Addr} {n1 c1 : Nat} {S1 : List Nat} (p0 : inI x.kind) (p1 : x.name.b.length ≤ LEN) (p2 : inI x.version) (p3 : ownS w S1 (.slice a1 n1 c1) x.data) : own w (S1) [vI x.kind, x.name.v, vI x.version, .slice a1 n1 c1] x := by
 have h : own w _ _ x := (pair_own (Int_own p0) (pair_own (Str_own p1) (pair_own (Int_own p2) (List_mkO p3))))
 simpa using h
end Go.Vw
