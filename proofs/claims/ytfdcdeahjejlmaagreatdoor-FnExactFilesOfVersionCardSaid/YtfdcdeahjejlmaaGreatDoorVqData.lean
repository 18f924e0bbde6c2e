import Derived.Test.YtfdcdeahjejlmaaGreatDoorVqLens
set_option linter.unusedVariables false
namespace Go.Vw
open Go.RowKit Dat
structure e_ where
 name : Str
 kind : Int
 size : Int
 little : Bool
 bytes : List UInt8
 names : List Str
 tags : List Int
 kids : List Int
deriving DecidableEq, Inhabited
instance : Dat e_ := Dat.via (fun r => (r.name, r.kind, r.size, r.little, r.bytes, r.names, r.tags, r.kids))
theorem b_1 {w : World} {B : Zone} {cs : List Value} {x : e_} (h : rep w B cs x) : ∃ (a1 : Option Addr) (n1 c1 : Nat) (a2 : Option Addr) (n2 c2 : Nat) (a3 : Option Addr) (n3 c3 : Nat) (a4 : Option Addr) (n4 c4 : Nat), cs = [x.name.v, vI x.kind, vI x.size, vB x.little, .slice a1 n1 c1, .slice a2 n2 c2, .slice a3 n3 c3, .slice a4 n4 c4] ∧ x.name.b.length ≤ LEN ∧ inI x.kind ∧ inI x.size ∧ a_ w B (.slice a1 n1 c1) x.bytes ∧ a_ w B (.slice a2 n2 c2) x.names ∧ a_ w B (.slice a3 n3 c3) x.tags ∧ a_ w B (.slice a4 n4 c4) x.kids := by
 obtain ⟨c1_, d1_, rfl, g1, t1⟩ := h
 obtain ⟨rfl, p0⟩ := b_E g1
 obtain ⟨c2_, d2_, rfl, g2, t2⟩ := t1
 obtain ⟨rfl, p1⟩ := a_4 g2
 obtain ⟨c3_, d3_, rfl, g3, t3⟩ := t2
 obtain ⟨rfl, p2⟩ := a_4 g3
 obtain ⟨c4_, d4_, rfl, g4, t4⟩ := t3
 obtain rfl := n_p g4
 obtain ⟨c5_, d5_, rfl, g5, t5⟩ := t4
 obtain ⟨a1, n1, c1, rfl, p3⟩ := c_O g5
 obtain ⟨c6_, d6_, rfl, g6, t6⟩ := t5
 obtain ⟨a2, n2, c2, rfl, p4⟩ := c_O g6
 obtain ⟨c7_, d7_, rfl, g7, t7⟩ := t6
 obtain ⟨a3, n3, c3, rfl, p5⟩ := c_O g7
 obtain ⟨a4, n4, c4, rfl, p6⟩ := c_O t7
 exact ⟨a1, n1, c1, a2, n2, c2, a3, n3, c3, a4, n4, c4, rfl, p0, p1, p2, p3, p4, p5, p6⟩
theorem c_j {w : World} {x : e_} {a1 : Option Addr} {n1 c1 : Nat} {a2 : Option Addr} {n2 c2 : Nat} {a3 : Option Addr} {n3 c3 : Nat} {a4 : Option Addr} {n4 c4 : Nat} {S1 : List Nat} {S2 : List Nat} {S3 : List Nat} {S4 : List Nat} (p0 : x.name.b.length ≤ LEN) (p1 : inI x.kind) (p2 : inI x.size) (p3 : b_ w S1 (.slice a1 n1 c1) x.bytes) (p4 : b_ w S2 (.slice a2 n2 c2) x.names) (p5 : b_ w S3 (.slice a3 n3 c3) x.tags) (p6 : b_ w S4 (.slice a4 n4 c4) x.kids) : own w (S1 ++ (S2 ++ (S3 ++ (S4)))) [x.name.v, vI x.kind, vI x.size, vB x.little, .slice a1 n1 c1, .slice a2 n2 c2, .slice a3 n3 c3, .slice a4 n4 c4] x := by
 have h : own w _ _ x := (c_l (c_M p0) (c_l (c_k p1) (c_l (c_k p2) (c_l n_r (c_l (e_d p3) (c_l (e_d p4) (c_l (e_d p5) (e_d p6))))))))
 simpa using h
theorem d_d {w : World} {S : List Nat} {cs : List Value} {x : e_} (h : own w S cs x) : ∃ (a1 : Option Addr) (n1 c1 : Nat) (a2 : Option Addr) (n2 c2 : Nat) (a3 : Option Addr) (n3 c3 : Nat) (a4 : Option Addr) (n4 c4 : Nat) (S1 : List Nat) (S2 : List Nat) (S3 : List Nat) (S4 : List Nat), cs = [x.name.v, vI x.kind, vI x.size, vB x.little, .slice a1 n1 c1, .slice a2 n2 c2, .slice a3 n3 c3, .slice a4 n4 c4] ∧ S = S1 ++ (S2 ++ (S3 ++ (S4))) ∧ x.name.b.length ≤ LEN ∧ inI x.kind ∧ inI x.size ∧ b_ w S1 (.slice a1 n1 c1) x.bytes ∧ b_ w S2 (.slice a2 n2 c2) x.names ∧ b_ w S3 (.slice a3 n3 c3) x.tags ∧ b_ w S4 (.slice a4 n4 c4) x.kids := by
 obtain ⟨c1_, d1_, s1_, u1_, rfl, rfl, g1, t1⟩ := h
 obtain ⟨rfl, rfl, p0⟩ := n_U g1
 obtain ⟨c2_, d2_, s2_, u2_, rfl, rfl, g2, t2⟩ := t1
 obtain ⟨rfl, rfl, p1⟩ := k_F g2
 obtain ⟨c3_, d3_, s3_, u3_, rfl, rfl, g3, t3⟩ := t2
 obtain ⟨rfl, rfl, p2⟩ := k_F g3
 obtain ⟨c4_, d4_, s4_, u4_, rfl, rfl, g4, t4⟩ := t3
 obtain ⟨rfl, rfl⟩ := n_V g4
 obtain ⟨c5_, d5_, s5_, u5_, rfl, rfl, g5, t5⟩ := t4
 obtain ⟨a1, n1, c1, rfl, p3⟩ := f_e g5
 obtain ⟨c6_, d6_, s6_, u6_, rfl, rfl, g6, t6⟩ := t5
 obtain ⟨a2, n2, c2, rfl, p4⟩ := f_e g6
 obtain ⟨c7_, d7_, s7_, u7_, rfl, rfl, g7, t7⟩ := t6
 obtain ⟨a3, n3, c3, rfl, p5⟩ := f_e g7
 obtain ⟨a4, n4, c4, rfl, p6⟩ := f_e t7
 exact ⟨a1, n1, c1, a2, n2, c2, a3, n3, c3, a4, n4, c4, _, _, _, _, rfl, by simp, p0, p1, p2, p3, p4, p5, p6⟩
theorem n_7 {w : World} {S : List Nat} {cs : List Value} {x : e_} {v : Str} (h : own w S cs x) (hv : v.b.length ≤ LEN) : own w S (cs.set 0 (v.v)) (⟨v, x.kind, x.size, x.little, x.bytes, x.names, x.tags, x.kids⟩ : e_) := by
 obtain ⟨a1, n1, c1, a2, n2, c2, a3, n3, c3, a4, n4, c4, S1, S2, S3, S4, rfl, rfl, p0, p1, p2, p3, p4, p5, p6⟩ := d_d h
 exact c_j (x := ⟨v, x.kind, x.size, x.little, x.bytes, x.names, x.tags, x.kids⟩) hv p1 p2 p3 p4 p5 p6
theorem n_8 {w : World} {S : List Nat} {cs : List Value} {x : e_} {v : Int} (h : own w S cs x) (hv : inI v) : own w S (cs.set 1 (vI v)) (⟨x.name, v, x.size, x.little, x.bytes, x.names, x.tags, x.kids⟩ : e_) := by
 obtain ⟨a1, n1, c1, a2, n2, c2, a3, n3, c3, a4, n4, c4, S1, S2, S3, S4, rfl, rfl, p0, p1, p2, p3, p4, p5, p6⟩ := d_d h
 exact c_j (x := ⟨x.name, v, x.size, x.little, x.bytes, x.names, x.tags, x.kids⟩) p0 hv p2 p3 p4 p5 p6
theorem n_9 {w : World} {S : List Nat} {cs : List Value} {x : e_} {v : Int} (h : own w S cs x) (hv : inI v) : own w S (cs.set 2 (vI v)) (⟨x.name, x.kind, v, x.little, x.bytes, x.names, x.tags, x.kids⟩ : e_) := by
 obtain ⟨a1, n1, c1, a2, n2, c2, a3, n3, c3, a4, n4, c4, S1, S2, S3, S4, rfl, rfl, p0, p1, p2, p3, p4, p5, p6⟩ := d_d h
 exact c_j (x := ⟨x.name, x.kind, v, x.little, x.bytes, x.names, x.tags, x.kids⟩) p0 p1 hv p3 p4 p5 p6
theorem n_a {w : World} {S : List Nat} {cs : List Value} {x : e_} {v : Bool} (h : own w S cs x) : own w S (cs.set 3 (vB v)) (⟨x.name, x.kind, x.size, v, x.bytes, x.names, x.tags, x.kids⟩ : e_) := by
 obtain ⟨a1, n1, c1, a2, n2, c2, a3, n3, c3, a4, n4, c4, S1, S2, S3, S4, rfl, rfl, p0, p1, p2, p3, p4, p5, p6⟩ := d_d h
 exact c_j (x := ⟨x.name, x.kind, x.size, v, x.bytes, x.names, x.tags, x.kids⟩) p0 p1 p2 p3 p4 p5 p6
structure g_ where
 rules : List e_
deriving DecidableEq, Inhabited
instance : Dat g_ := Dat.via (fun r => r.rules)
theorem d_e {w : World} {B : Zone} {cs : List Value} {x : g_} (h : rep w B cs x) : ∃ (a1 : Option Addr) (n1 c1 : Nat), cs = [.slice a1 n1 c1] ∧ a_ w B (.slice a1 n1 c1) x.rules := by
 obtain ⟨a1, n1, c1, rfl, p0⟩ := c_O h
 exact ⟨a1, n1, c1, rfl, p0⟩
theorem i_h {w : World} {x : g_} {a1 : Option Addr} {n1 c1 : Nat} {S1 : List Nat} (p0 : b_ w S1 (.slice a1 n1 c1) x.rules) : own w (S1) [.slice a1 n1 c1] x := by
 have h : own w _ _ x := (e_d p0)
 simpa using h
theorem n_b {w : World} {S : List Nat} {cs : List Value} {x : g_} (h : own w S cs x) : ∃ (a1 : Option Addr) (n1 c1 : Nat) (S1 : List Nat), cs = [.slice a1 n1 c1] ∧ S = S1 ∧ b_ w S1 (.slice a1 n1 c1) x.rules := by
 obtain ⟨a1, n1, c1, rfl, p0⟩ := f_e h
 exact ⟨a1, n1, c1, _, rfl, rfl, p0⟩
structure i_i where
 path : Str
 rule : Int
 start : Int
 end_ : Int
deriving DecidableEq, Inhabited
instance : Dat i_i := Dat.via (fun r => (r.path, r.rule, r.start, r.end_))
instance : a_f i_i := ⟨fun h => a_f.flat (α := Str × Int × Int × Int) h, fun h => a_f.none (α := Str × Int × Int × Int) h⟩
structure k_n where
 rule : Int
 tag : Int
deriving DecidableEq, Inhabited
instance : Dat k_n := Dat.via (fun r => (r.rule, r.tag))
instance : a_f k_n := ⟨fun h => a_f.flat (α := Int × Int) h, fun h => a_f.none (α := Int × Int) h⟩
structure n_c where
 d : g_
 b : List UInt8
 rule : Int
 at_ : Int
deriving DecidableEq, Inhabited
instance : Dat n_c := Dat.via (fun r => (r.d, r.b, r.rule, r.at_))
structure n_d where
 d : g_
 b : List UInt8
 list_ : List i_i
deriving DecidableEq, Inhabited
instance : Dat n_d := Dat.via (fun r => (r.d, r.b, r.list_))
structure a_b where
 d : g_
 b : List UInt8
deriving DecidableEq, Inhabited
instance : Dat a_b := Dat.via (fun r => (r.d, r.b))
structure k_o where
 position : Int
 code : Int
deriving DecidableEq, Inhabited
instance : Dat k_o := Dat.via (fun r => (r.position, r.code))
instance : a_f k_o := ⟨fun h => a_f.flat (α := Int × Int) h, fun h => a_f.none (α := Int × Int) h⟩
structure n_e where
 d : g_
 b : List UInt8
 applied : Int
deriving DecidableEq, Inhabited
instance : Dat n_e := Dat.via (fun r => (r.d, r.b, r.applied))
structure Spot where
 at_ : Int
 code : Int
deriving DecidableEq, Inhabited
instance : Dat Spot := Dat.via (fun r => (r.at_, r.code))
instance : a_f Spot := ⟨fun h => a_f.flat (α := Int × Int) h, fun h => a_f.none (α := Int × Int) h⟩
structure k_p where
 code : Int
 position : Int
 path : Str
 rule : Int
deriving DecidableEq, Inhabited
instance : Dat k_p := Dat.via (fun r => (r.code, r.position, r.path, r.rule))
instance : a_f k_p := ⟨fun h => a_f.flat (α := Int × Int × Str × Int) h, fun h => a_f.none (α := Int × Int × Str × Int) h⟩
structure Tracer where
 d : g_
 b : List UInt8
 path : Str
 rule : Int
deriving DecidableEq, Inhabited
instance : Dat Tracer := Dat.via (fun r => (r.d, r.b, r.path, r.rule))
structure L1Cur where
 b : List UInt8
 i : Int
 h : Int
deriving DecidableEq, Inhabited
instance : Dat L1Cur := Dat.via (fun r => (r.b, r.i, r.h))
structure V_ where
 versions : List g_
deriving DecidableEq, Inhabited
instance : Dat V_ := Dat.via (fun r => r.versions)
theorem n_f {w : World} {B : Zone} {cs : List Value} {x : V_} (h : rep w B cs x) : ∃ (a1 : Option Addr) (n1 c1 : Nat), cs = [.slice a1 n1 c1] ∧ a_ w B (.slice a1 n1 c1) x.versions := by
 obtain ⟨a1, n1, c1, rfl, p0⟩ := c_O h
 exact ⟨a1, n1, c1, rfl, p0⟩
structure Log where
 bytes : List UInt8
 stored : Int
deriving DecidableEq, Inhabited
instance : Dat Log := Dat.via (fun r => (r.bytes, r.stored))
theorem n_g {w : World} {B : Zone} {cs : List Value} {x : Log} (h : rep w B cs x) : ∃ (a1 : Option Addr) (n1 c1 : Nat), cs = [.slice a1 n1 c1, vI x.stored] ∧ a_ w B (.slice a1 n1 c1) x.bytes ∧ inI x.stored := by
 obtain ⟨c1_, d1_, rfl, g1, t1⟩ := h
 obtain ⟨a1, n1, c1, rfl, p0⟩ := c_O g1
 obtain ⟨rfl, p1⟩ := a_4 t1
 exact ⟨a1, n1, c1, rfl, p0, p1⟩
structure D_ where
 registry : V_
 log : Log
deriving DecidableEq, Inhabited
instance : Dat D_ := Dat.via (fun r => (r.registry, r.log))
theorem n_h {w : World} {B : Zone} {cs : List Value} {x : D_} (h : rep w B cs x) : ∃ (a1 : Option Addr) (n1 c1 : Nat) (a2 : Option Addr) (n2 c2 : Nat), cs = [.slice a1 n1 c1, .slice a2 n2 c2, vI x.log.stored] ∧ a_ w B (.slice a1 n1 c1) x.registry.versions ∧ a_ w B (.slice a2 n2 c2) x.log.bytes ∧ inI x.log.stored := by
 obtain ⟨c1_, d1_, rfl, g1, t1⟩ := h
 obtain ⟨a1, n1, c1, rfl, p0⟩ := n_f g1
 obtain ⟨a2, n2, c2, rfl, p1, p2⟩ := n_g t1
 exact ⟨a1, n1, c1, a2, n2, c2, rfl, p0, p1, p2⟩
structure p_ where
 name : Str
 version : Int
 data : List UInt8
deriving DecidableEq, Inhabited
instance : Dat p_ := Dat.via (fun r => (r.name, r.version, r.data))
theorem e_b {w : World} {B : Zone} {cs : List Value} {x : p_} (h : rep w B cs x) : ∃ (a1 : Option Addr) (n1 c1 : Nat), cs = [x.name.v, vI x.version, .slice a1 n1 c1] ∧ x.name.b.length ≤ LEN ∧ inI x.version ∧ a_ w B (.slice a1 n1 c1) x.data := by
 obtain ⟨c1_, d1_, rfl, g1, t1⟩ := h
 obtain ⟨rfl, p0⟩ := b_E g1
 obtain ⟨c2_, d2_, rfl, g2, t2⟩ := t1
 obtain ⟨rfl, p1⟩ := a_4 g2
 obtain ⟨a1, n1, c1, rfl, p2⟩ := c_O t2
 exact ⟨a1, n1, c1, rfl, p0, p1, p2⟩
theorem f_4 {w : World} {B : Zone} {x : p_} {a1 : Option Addr} {n1 c1 : Nat} (p0 : x.name.b.length ≤ LEN) (p1 : inI x.version) (p2 : a_ w B (.slice a1 n1 c1) x.data) : rep w B [x.name.v, vI x.version, .slice a1 n1 c1] x := (c_2 (Str_mk p0) (c_2 (Int_mk p1) (n_D p2)))
structure n_ where
 kind : Int
 name : Str
 version : Int
 data : List UInt8
deriving DecidableEq, Inhabited
instance : Dat n_ := Dat.via (fun r => (r.kind, r.name, r.version, r.data))
theorem d_H {w : World} {B : Zone} {cs : List Value} {x : n_} (h : rep w B cs x) : ∃ (a1 : Option Addr) (n1 c1 : Nat), cs = [vI x.kind, x.name.v, vI x.version, .slice a1 n1 c1] ∧ inI x.kind ∧ x.name.b.length ≤ LEN ∧ inI x.version ∧ a_ w B (.slice a1 n1 c1) x.data := by
 obtain ⟨c1_, d1_, rfl, g1, t1⟩ := h
 obtain ⟨rfl, p0⟩ := a_4 g1
 obtain ⟨c2_, d2_, rfl, g2, t2⟩ := t1
 obtain ⟨rfl, p1⟩ := b_E g2
 obtain ⟨c3_, d3_, rfl, g3, t3⟩ := t2
 obtain ⟨rfl, p2⟩ := a_4 g3
 obtain ⟨a1, n1, c1, rfl, p3⟩ := c_O t3
 exact ⟨a1, n1, c1, rfl, p0, p1, p2, p3⟩
theorem k_q {w : World} {x : n_} {a1 : Option Addr} {n1 c1 : Nat} {S1 : List Nat} (p0 : inI x.kind) (p1 : x.name.b.length ≤ LEN) (p2 : inI x.version) (p3 : b_ w S1 (.slice a1 n1 c1) x.data) : own w (S1) [vI x.kind, x.name.v, vI x.version, .slice a1 n1 c1] x := by
 have h : own w _ _ x := (c_l (c_k p0) (c_l (c_M p1) (c_l (c_k p2) (e_d p3))))
 simpa using h
end Go.Vw
