import Derived.Test.YtfdcdeahjejlmaaGreatDoorVqLens
set_option linter.unusedVariables false
namespace Go.Vw
open Go.RowKit Dat
structure e_ where
 name : Str
 kind : Int
 size : Int
 little : Bool
 bytes : List UInt8
 names : List Str
 tags : List Int
 kids : List Int
deriving DecidableEq, Inhabited
instance : Dat e_ := Dat.via (fun r => (r.name, r.kind, r.size, r.little, r.bytes, r.names, r.tags, r.kids))
theorem b_1 {w : World} {B : Zone} {cs : List Value} {x : e_} (h : rep w B cs x) : ∃ (a1 : Option Addr) (n1 c1 : Nat) (a2 : Option Addr) (n2 c2 : Nat) (a3 : Option Addr) (n3 c3 : Nat) (a4 : Option Addr) (n4 c4 : Nat), cs = [x.name.v, vI x.kind, vI x.size, vB x.little, .slice a1 n1 c1, .slice a2 n2 c2, .slice a3 n3 c3, .slice a4 n4 c4] ∧ x.name.b.length ≤ LEN ∧ inI x.kind ∧ inI x.size ∧ a_ w B (.slice a1 n1 c1) x.bytes ∧ a_ w B (.slice a2 n2 c2) x.names ∧ a_ w B (.slice a3 n3 c3) x.tags ∧ a_ w B (.slice a4 n4 c4) x.kids := by
 obtain ⟨c1_, d1_, rfl, g1, t1⟩ := h
 obtain ⟨rfl, p0⟩ := b_J g1
 obtain ⟨c2_, d2_, rfl, g2, t2⟩ := t1
 obtain ⟨rfl, p1⟩ := a_7 g2
 obtain ⟨c3_, d3_, rfl, g3, t3⟩ := t2
 obtain ⟨rfl, p2⟩ := a_7 g3
 obtain ⟨c4_, d4_, rfl, g4, t4⟩ := t3
 obtain rfl := o_C g4
 obtain ⟨c5_, d5_, rfl, g5, t5⟩ := t4
 obtain ⟨a1, n1, c1, rfl, p3⟩ := d_2 g5
 obtain ⟨c6_, d6_, rfl, g6, t6⟩ := t5
 obtain ⟨a2, n2, c2, rfl, p4⟩ := d_2 g6
 obtain ⟨c7_, d7_, rfl, g7, t7⟩ := t6
 obtain ⟨a3, n3, c3, rfl, p5⟩ := d_2 g7
 obtain ⟨a4, n4, c4, rfl, p6⟩ := d_2 t7
 exact ⟨a1, n1, c1, a2, n2, c2, a3, n3, c3, a4, n4, c4, rfl, p0, p1, p2, p3, p4, p5, p6⟩
theorem c_B {w : World} {x : e_} {a1 : Option Addr} {n1 c1 : Nat} {a2 : Option Addr} {n2 c2 : Nat} {a3 : Option Addr} {n3 c3 : Nat} {a4 : Option Addr} {n4 c4 : Nat} {S1 : List Nat} {S2 : List Nat} {S3 : List Nat} {S4 : List Nat} (p0 : x.name.b.length ≤ LEN) (p1 : inI x.kind) (p2 : inI x.size) (p3 : b_ w S1 (.slice a1 n1 c1) x.bytes) (p4 : b_ w S2 (.slice a2 n2 c2) x.names) (p5 : b_ w S3 (.slice a3 n3 c3) x.tags) (p6 : b_ w S4 (.slice a4 n4 c4) x.kids) : own w (S1 ++ (S2 ++ (S3 ++ (S4)))) [x.name.v, vI x.kind, vI x.size, vB x.little, .slice a1 n1 c1, .slice a2 n2 c2, .slice a3 n3 c3, .slice a4 n4 c4] x := by
 have h : own w _ _ x := (c_D (d_0 p0) (c_D (c_C p1) (c_D (c_C p2) (c_D o_E (c_D (e_q p3) (c_D (e_q p4) (c_D (e_q p5) (e_q p6))))))))
 simpa using h
theorem d_p {w : World} {S : List Nat} {cs : List Value} {x : e_} (h : own w S cs x) : ∃ (a1 : Option Addr) (n1 c1 : Nat) (a2 : Option Addr) (n2 c2 : Nat) (a3 : Option Addr) (n3 c3 : Nat) (a4 : Option Addr) (n4 c4 : Nat) (S1 : List Nat) (S2 : List Nat) (S3 : List Nat) (S4 : List Nat), cs = [x.name.v, vI x.kind, vI x.size, vB x.little, .slice a1 n1 c1, .slice a2 n2 c2, .slice a3 n3 c3, .slice a4 n4 c4] ∧ S = S1 ++ (S2 ++ (S3 ++ (S4))) ∧ x.name.b.length ≤ LEN ∧ inI x.kind ∧ inI x.size ∧ b_ w S1 (.slice a1 n1 c1) x.bytes ∧ b_ w S2 (.slice a2 n2 c2) x.names ∧ b_ w S3 (.slice a3 n3 c3) x.tags ∧ b_ w S4 (.slice a4 n4 c4) x.kids := by
 obtain ⟨c1_, d1_, s1_, u1_, rfl, rfl, g1, t1⟩ := h
 obtain ⟨rfl, rfl, p0⟩ := p_8 g1
 obtain ⟨c2_, d2_, s2_, u2_, rfl, rfl, g2, t2⟩ := t1
 obtain ⟨rfl, rfl, p1⟩ := l_b g2
 obtain ⟨c3_, d3_, s3_, u3_, rfl, rfl, g3, t3⟩ := t2
 obtain ⟨rfl, rfl, p2⟩ := l_b g3
 obtain ⟨c4_, d4_, s4_, u4_, rfl, rfl, g4, t4⟩ := t3
 obtain ⟨rfl, rfl⟩ := p_9 g4
 obtain ⟨c5_, d5_, s5_, u5_, rfl, rfl, g5, t5⟩ := t4
 obtain ⟨a1, n1, c1, rfl, p3⟩ := f_q g5
 obtain ⟨c6_, d6_, s6_, u6_, rfl, rfl, g6, t6⟩ := t5
 obtain ⟨a2, n2, c2, rfl, p4⟩ := f_q g6
 obtain ⟨c7_, d7_, s7_, u7_, rfl, rfl, g7, t7⟩ := t6
 obtain ⟨a3, n3, c3, rfl, p5⟩ := f_q g7
 obtain ⟨a4, n4, c4, rfl, p6⟩ := f_q t7
 exact ⟨a1, n1, c1, a2, n2, c2, a3, n3, c3, a4, n4, c4, _, _, _, _, rfl, by simp, p0, p1, p2, p3, p4, p5, p6⟩
theorem o_j {w : World} {S : List Nat} {cs : List Value} {x : e_} {v : Str} (h : own w S cs x) (hv : v.b.length ≤ LEN) : own w S (cs.set 0 (v.v)) (⟨v, x.kind, x.size, x.little, x.bytes, x.names, x.tags, x.kids⟩ : e_) := by
 obtain ⟨a1, n1, c1, a2, n2, c2, a3, n3, c3, a4, n4, c4, S1, S2, S3, S4, rfl, rfl, p0, p1, p2, p3, p4, p5, p6⟩ := d_p h
 exact c_B (x := ⟨v, x.kind, x.size, x.little, x.bytes, x.names, x.tags, x.kids⟩) hv p1 p2 p3 p4 p5 p6
theorem o_k {w : World} {S : List Nat} {cs : List Value} {x : e_} {v : Int} (h : own w S cs x) (hv : inI v) : own w S (cs.set 1 (vI v)) (⟨x.name, v, x.size, x.little, x.bytes, x.names, x.tags, x.kids⟩ : e_) := by
 obtain ⟨a1, n1, c1, a2, n2, c2, a3, n3, c3, a4, n4, c4, S1, S2, S3, S4, rfl, rfl, p0, p1, p2, p3, p4, p5, p6⟩ := d_p h
 exact c_B (x := ⟨x.name, v, x.size, x.little, x.bytes, x.names, x.tags, x.kids⟩) p0 hv p2 p3 p4 p5 p6
theorem o_l {w : World} {S : List Nat} {cs : List Value} {x : e_} {v : Int} (h : own w S cs x) (hv : inI v) : own w S (cs.set 2 (vI v)) (⟨x.name, x.kind, v, x.little, x.bytes, x.names, x.tags, x.kids⟩ : e_) := by
 obtain ⟨a1, n1, c1, a2, n2, c2, a3, n3, c3, a4, n4, c4, S1, S2, S3, S4, rfl, rfl, p0, p1, p2, p3, p4, p5, p6⟩ := d_p h
 exact c_B (x := ⟨x.name, x.kind, v, x.little, x.bytes, x.names, x.tags, x.kids⟩) p0 p1 hv p3 p4 p5 p6
theorem o_m {w : World} {S : List Nat} {cs : List Value} {x : e_} {v : Bool} (h : own w S cs x) : own w S (cs.set 3 (vB v)) (⟨x.name, x.kind, x.size, v, x.bytes, x.names, x.tags, x.kids⟩ : e_) := by
 obtain ⟨a1, n1, c1, a2, n2, c2, a3, n3, c3, a4, n4, c4, S1, S2, S3, S4, rfl, rfl, p0, p1, p2, p3, p4, p5, p6⟩ := d_p h
 exact c_B (x := ⟨x.name, x.kind, x.size, v, x.bytes, x.names, x.tags, x.kids⟩) p0 p1 p2 p3 p4 p5 p6
structure g_ where
 rules : List e_
deriving DecidableEq, Inhabited
instance : Dat g_ := Dat.via (fun r => r.rules)
theorem d_q {w : World} {B : Zone} {cs : List Value} {x : g_} (h : rep w B cs x) : ∃ (a1 : Option Addr) (n1 c1 : Nat), cs = [.slice a1 n1 c1] ∧ a_ w B (.slice a1 n1 c1) x.rules := by
 obtain ⟨a1, n1, c1, rfl, p0⟩ := d_2 h
 exact ⟨a1, n1, c1, rfl, p0⟩
theorem i_R {w : World} {x : g_} {a1 : Option Addr} {n1 c1 : Nat} {S1 : List Nat} (p0 : b_ w S1 (.slice a1 n1 c1) x.rules) : own w (S1) [.slice a1 n1 c1] x := by
 have h : own w _ _ x := (e_q p0)
 simpa using h
theorem o_n {w : World} {S : List Nat} {cs : List Value} {x : g_} (h : own w S cs x) : ∃ (a1 : Option Addr) (n1 c1 : Nat) (S1 : List Nat), cs = [.slice a1 n1 c1] ∧ S = S1 ∧ b_ w S1 (.slice a1 n1 c1) x.rules := by
 obtain ⟨a1, n1, c1, rfl, p0⟩ := f_q h
 exact ⟨a1, n1, c1, _, rfl, rfl, p0⟩
structure i_S where
 path : Str
 rule : Int
 start : Int
 end_ : Int
deriving DecidableEq, Inhabited
instance : Dat i_S := Dat.via (fun r => (r.path, r.rule, r.start, r.end_))
instance : a_g i_S := ⟨fun h => a_g.flat (α := Str × Int × Int × Int) h, fun h => a_g.none (α := Str × Int × Int × Int) h⟩
structure k_W where
 rule : Int
 tag : Int
deriving DecidableEq, Inhabited
instance : Dat k_W := Dat.via (fun r => (r.rule, r.tag))
instance : a_g k_W := ⟨fun h => a_g.flat (α := Int × Int) h, fun h => a_g.none (α := Int × Int) h⟩
structure o_o where
 d : g_
 b : List UInt8
 rule : Int
 at_ : Int
deriving DecidableEq, Inhabited
instance : Dat o_o := Dat.via (fun r => (r.d, r.b, r.rule, r.at_))
structure o_p where
 d : g_
 b : List UInt8
 list_ : List i_S
deriving DecidableEq, Inhabited
instance : Dat o_p := Dat.via (fun r => (r.d, r.b, r.list_))
structure a_b where
 d : g_
 b : List UInt8
deriving DecidableEq, Inhabited
instance : Dat a_b := Dat.via (fun r => (r.d, r.b))
structure k_X where
 position : Int
 code : Int
deriving DecidableEq, Inhabited
instance : Dat k_X := Dat.via (fun r => (r.position, r.code))
instance : a_g k_X := ⟨fun h => a_g.flat (α := Int × Int) h, fun h => a_g.none (α := Int × Int) h⟩
structure o_q where
 d : g_
 b : List UInt8
 applied : Int
deriving DecidableEq, Inhabited
instance : Dat o_q := Dat.via (fun r => (r.d, r.b, r.applied))
structure Spot where
 at_ : Int
 code : Int
deriving DecidableEq, Inhabited
instance : Dat Spot := Dat.via (fun r => (r.at_, r.code))
instance : a_g Spot := ⟨fun h => a_g.flat (α := Int × Int) h, fun h => a_g.none (α := Int × Int) h⟩
structure k_Y where
 code : Int
 position : Int
 path : Str
 rule : Int
deriving DecidableEq, Inhabited
instance : Dat k_Y := Dat.via (fun r => (r.code, r.position, r.path, r.rule))
instance : a_g k_Y := ⟨fun h => a_g.flat (α := Int × Int × Str × Int) h, fun h => a_g.none (α := Int × Int × Str × Int) h⟩
structure Tracer where
 d : g_
 b : List UInt8
 path : Str
 rule : Int
deriving DecidableEq, Inhabited
instance : Dat Tracer := Dat.via (fun r => (r.d, r.b, r.path, r.rule))
structure L1Cur where
 b : List UInt8
 i : Int
 h : Int
deriving DecidableEq, Inhabited
instance : Dat L1Cur := Dat.via (fun r => (r.b, r.i, r.h))
structure V_ where
 versions : List g_
deriving DecidableEq, Inhabited
instance : Dat V_ := Dat.via (fun r => r.versions)
theorem o_r {w : World} {B : Zone} {cs : List Value} {x : V_} (h : rep w B cs x) : ∃ (a1 : Option Addr) (n1 c1 : Nat), cs = [.slice a1 n1 c1] ∧ a_ w B (.slice a1 n1 c1) x.versions := by
 obtain ⟨a1, n1, c1, rfl, p0⟩ := d_2 h
 exact ⟨a1, n1, c1, rfl, p0⟩
structure Log where
 bytes : List UInt8
 stored : Int
deriving DecidableEq, Inhabited
instance : Dat Log := Dat.via (fun r => (r.bytes, r.stored))
theorem o_s {w : World} {B : Zone} {cs : List Value} {x : Log} (h : rep w B cs x) : ∃ (a1 : Option Addr) (n1 c1 : Nat), cs = [.slice a1 n1 c1, vI x.stored] ∧ a_ w B (.slice a1 n1 c1) x.bytes ∧ inI x.stored := by
 obtain ⟨c1_, d1_, rfl, g1, t1⟩ := h
 obtain ⟨a1, n1, c1, rfl, p0⟩ := d_2 g1
 obtain ⟨rfl, p1⟩ := a_7 t1
 exact ⟨a1, n1, c1, rfl, p0, p1⟩
structure C_ where
 registry : V_
 log : Log
deriving DecidableEq, Inhabited
instance : Dat C_ := Dat.via (fun r => (r.registry, r.log))
theorem o_t {w : World} {B : Zone} {cs : List Value} {x : C_} (h : rep w B cs x) : ∃ (a1 : Option Addr) (n1 c1 : Nat) (a2 : Option Addr) (n2 c2 : Nat), cs = [.slice a1 n1 c1, .slice a2 n2 c2, vI x.log.stored] ∧ a_ w B (.slice a1 n1 c1) x.registry.versions ∧ a_ w B (.slice a2 n2 c2) x.log.bytes ∧ inI x.log.stored := by
 obtain ⟨c1_, d1_, rfl, g1, t1⟩ := h
 obtain ⟨a1, n1, c1, rfl, p0⟩ := o_r g1
 obtain ⟨a2, n2, c2, rfl, p1, p2⟩ := o_s t1
 exact ⟨a1, n1, c1, a2, n2, c2, rfl, p0, p1, p2⟩
structure n_ where
 name : Str
 version : Int
 data : List UInt8
deriving DecidableEq, Inhabited
instance : Dat n_ := Dat.via (fun r => (r.name, r.version, r.data))
theorem d_P {w : World} {B : Zone} {cs : List Value} {x : n_} (h : rep w B cs x) : ∃ (a1 : Option Addr) (n1 c1 : Nat), cs = [x.name.v, vI x.version, .slice a1 n1 c1] ∧ x.name.b.length ≤ LEN ∧ inI x.version ∧ a_ w B (.slice a1 n1 c1) x.data := by
 obtain ⟨c1_, d1_, rfl, g1, t1⟩ := h
 obtain ⟨rfl, p0⟩ := b_J g1
 obtain ⟨c2_, d2_, rfl, g2, t2⟩ := t1
 obtain ⟨rfl, p1⟩ := a_7 g2
 obtain ⟨a1, n1, c1, rfl, p2⟩ := d_2 t2
 exact ⟨a1, n1, c1, rfl, p0, p1, p2⟩
theorem f_i {w : World} {B : Zone} {x : n_} {a1 : Option Addr} {n1 c1 : Nat} (p0 : x.name.b.length ≤ LEN) (p1 : inI x.version) (p2 : a_ w B (.slice a1 n1 c1) x.data) : rep w B [x.name.v, vI x.version, .slice a1 n1 c1] x := (c_8 (Str_mk p0) (c_8 (Int_mk p1) (o_Q p2)))
structure o_ where
 kind : Int
 name : Str
 version : Int
 data : List UInt8
deriving DecidableEq, Inhabited
instance : Dat o_ := Dat.via (fun r => (r.kind, r.name, r.version, r.data))
theorem d_Q {w : World} {B : Zone} {cs : List Value} {x : o_} (h : rep w B cs x) : ∃ (a1 : Option Addr) (n1 c1 : Nat), cs = [vI x.kind, x.name.v, vI x.version, .slice a1 n1 c1] ∧ inI x.kind ∧ x.name.b.length ≤ LEN ∧ inI x.version ∧ a_ w B (.slice a1 n1 c1) x.data := by
 obtain ⟨c1_, d1_, rfl, g1, t1⟩ := h
 obtain ⟨rfl, p0⟩ := a_7 g1
 obtain ⟨c2_, d2_, rfl, g2, t2⟩ := t1
 obtain ⟨rfl, p1⟩ := b_J g2
 obtain ⟨c3_, d3_, rfl, g3, t3⟩ := t2
 obtain ⟨rfl, p2⟩ := a_7 g3
 obtain ⟨a1, n1, c1, rfl, p3⟩ := d_2 t3
 exact ⟨a1, n1, c1, rfl, p0, p1, p2, p3⟩
theorem k_Z {w : World} {x : o_} {a1 : Option Addr} {n1 c1 : Nat} {S1 : List Nat} (p0 : inI x.kind) (p1 : x.name.b.length ≤ LEN) (p2 : inI x.version) (p3 : b_ w S1 (.slice a1 n1 c1) x.data) : own w (S1) [vI x.kind, x.name.v, vI x.version, .slice a1 n1 c1] x := by
 have h : own w _ _ x := (c_D (c_C p0) (c_D (d_0 p1) (c_D (c_C p2) (e_q p3))))
 simpa using h
end Go.Vw
