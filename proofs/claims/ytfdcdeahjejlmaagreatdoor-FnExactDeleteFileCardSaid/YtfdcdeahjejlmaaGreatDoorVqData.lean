import Derived.Test.YtfdcdeahjejlmaaGreatDoorVqLens
set_option linter.unusedVariables false
namespace Go.Vw
open Go.RowKit Dat
structure c_ where
 name : Str
 kind : Int
 size : Int
 little : Bool
 bytes : List UInt8
 names : List Str
 tags : List Int
 kids : List Int
deriving DecidableEq, Inhabited
instance : Dat c_ := Dat.via (fun r => (r.name, r.kind, r.size, r.little, r.bytes, r.names, r.tags, r.kids))
theorem a_E {w : World} {B : Zone} {cs : List Value} {x : c_} (h : rep w B cs x) : ∃ (a1 : Option Addr) (n1 c1 : Nat) (a2 : Option Addr) (n2 c2 : Nat) (a3 : Option Addr) (n3 c3 : Nat) (a4 : Option Addr) (n4 c4 : Nat), cs = [x.name.v, vI x.kind, vI x.size, vB x.little, .slice a1 n1 c1, .slice a2 n2 c2, .slice a3 n3 c3, .slice a4 n4 c4] ∧ x.name.b.length ≤ LEN ∧ inI x.kind ∧ inI x.size ∧ b_ w B (.slice a1 n1 c1) x.bytes ∧ b_ w B (.slice a2 n2 c2) x.names ∧ b_ w B (.slice a3 n3 c3) x.tags ∧ b_ w B (.slice a4 n4 c4) x.kids := by
 obtain ⟨c1_, d1_, rfl, g1, t1⟩ := h
 obtain ⟨rfl, p0⟩ := b_E g1
 obtain ⟨c2_, d2_, rfl, g2, t2⟩ := t1
 obtain ⟨rfl, p1⟩ := a_c g2
 obtain ⟨c3_, d3_, rfl, g3, t3⟩ := t2
 obtain ⟨rfl, p2⟩ := a_c g3
 obtain ⟨c4_, d4_, rfl, g4, t4⟩ := t3
 obtain rfl := o_E g4
 obtain ⟨c5_, d5_, rfl, g5, t5⟩ := t4
 obtain ⟨a1, n1, c1, rfl, p3⟩ := d_2 g5
 obtain ⟨c6_, d6_, rfl, g6, t6⟩ := t5
 obtain ⟨a2, n2, c2, rfl, p4⟩ := d_2 g6
 obtain ⟨c7_, d7_, rfl, g7, t7⟩ := t6
 obtain ⟨a3, n3, c3, rfl, p5⟩ := d_2 g7
 obtain ⟨a4, n4, c4, rfl, p6⟩ := d_2 t7
 exact ⟨a1, n1, c1, a2, n2, c2, a3, n3, c3, a4, n4, c4, rfl, p0, p1, p2, p3, p4, p5, p6⟩
theorem c_0 {w : World} {x : c_} {a1 : Option Addr} {n1 c1 : Nat} {a2 : Option Addr} {n2 c2 : Nat} {a3 : Option Addr} {n3 c3 : Nat} {a4 : Option Addr} {n4 c4 : Nat} {S1 : List Nat} {S2 : List Nat} {S3 : List Nat} {S4 : List Nat} (p0 : x.name.b.length ≤ LEN) (p1 : inI x.kind) (p2 : inI x.size) (p3 : a_ w S1 (.slice a1 n1 c1) x.bytes) (p4 : a_ w S2 (.slice a2 n2 c2) x.names) (p5 : a_ w S3 (.slice a3 n3 c3) x.tags) (p6 : a_ w S4 (.slice a4 n4 c4) x.kids) : own w (S1 ++ (S2 ++ (S3 ++ (S4)))) [x.name.v, vI x.kind, vI x.size, vB x.little, .slice a1 n1 c1, .slice a2 n2 c2, .slice a3 n3 c3, .slice a4 n4 c4] x := by
 have h : own w _ _ x := (c_G (f_s p0) (c_G (c_F p1) (c_G (c_F p2) (c_G o_G (c_G (e_w p3) (c_G (e_w p4) (c_G (e_w p5) (e_w p6))))))))
 simpa using h
theorem d_p {w : World} {S : List Nat} {cs : List Value} {x : c_} (h : own w S cs x) : ∃ (a1 : Option Addr) (n1 c1 : Nat) (a2 : Option Addr) (n2 c2 : Nat) (a3 : Option Addr) (n3 c3 : Nat) (a4 : Option Addr) (n4 c4 : Nat) (S1 : List Nat) (S2 : List Nat) (S3 : List Nat) (S4 : List Nat), cs = [x.name.v, vI x.kind, vI x.size, vB x.little, .slice a1 n1 c1, .slice a2 n2 c2, .slice a3 n3 c3, .slice a4 n4 c4] ∧ S = S1 ++ (S2 ++ (S3 ++ (S4))) ∧ x.name.b.length ≤ LEN ∧ inI x.kind ∧ inI x.size ∧ a_ w S1 (.slice a1 n1 c1) x.bytes ∧ a_ w S2 (.slice a2 n2 c2) x.names ∧ a_ w S3 (.slice a3 n3 c3) x.tags ∧ a_ w S4 (.slice a4 n4 c4) x.kids := by
 obtain ⟨c1_, d1_, s1_, u1_, rfl, rfl, g1, t1⟩ := h
 obtain ⟨rfl, rfl, p0⟩ := p_a g1
 obtain ⟨c2_, d2_, s2_, u2_, rfl, rfl, g2, t2⟩ := t1
 obtain ⟨rfl, rfl, p1⟩ := l_A g2
 obtain ⟨c3_, d3_, s3_, u3_, rfl, rfl, g3, t3⟩ := t2
 obtain ⟨rfl, rfl, p2⟩ := l_A g3
 obtain ⟨c4_, d4_, s4_, u4_, rfl, rfl, g4, t4⟩ := t3
 obtain ⟨rfl, rfl⟩ := p_b g4
 obtain ⟨c5_, d5_, s5_, u5_, rfl, rfl, g5, t5⟩ := t4
 obtain ⟨a1, n1, c1, rfl, p3⟩ := f_z g5
 obtain ⟨c6_, d6_, s6_, u6_, rfl, rfl, g6, t6⟩ := t5
 obtain ⟨a2, n2, c2, rfl, p4⟩ := f_z g6
 obtain ⟨c7_, d7_, s7_, u7_, rfl, rfl, g7, t7⟩ := t6
 obtain ⟨a3, n3, c3, rfl, p5⟩ := f_z g7
 obtain ⟨a4, n4, c4, rfl, p6⟩ := f_z t7
 exact ⟨a1, n1, c1, a2, n2, c2, a3, n3, c3, a4, n4, c4, _, _, _, _, rfl, by simp, p0, p1, p2, p3, p4, p5, p6⟩
theorem o_n {w : World} {S : List Nat} {cs : List Value} {x : c_} {v : Str} (h : own w S cs x) (hv : v.b.length ≤ LEN) : own w S (cs.set 0 (v.v)) (⟨v, x.kind, x.size, x.little, x.bytes, x.names, x.tags, x.kids⟩ : c_) := by
 obtain ⟨a1, n1, c1, a2, n2, c2, a3, n3, c3, a4, n4, c4, S1, S2, S3, S4, rfl, rfl, p0, p1, p2, p3, p4, p5, p6⟩ := d_p h
 exact c_0 (x := ⟨v, x.kind, x.size, x.little, x.bytes, x.names, x.tags, x.kids⟩) hv p1 p2 p3 p4 p5 p6
theorem o_o {w : World} {S : List Nat} {cs : List Value} {x : c_} {v : Int} (h : own w S cs x) (hv : inI v) : own w S (cs.set 1 (vI v)) (⟨x.name, v, x.size, x.little, x.bytes, x.names, x.tags, x.kids⟩ : c_) := by
 obtain ⟨a1, n1, c1, a2, n2, c2, a3, n3, c3, a4, n4, c4, S1, S2, S3, S4, rfl, rfl, p0, p1, p2, p3, p4, p5, p6⟩ := d_p h
 exact c_0 (x := ⟨x.name, v, x.size, x.little, x.bytes, x.names, x.tags, x.kids⟩) p0 hv p2 p3 p4 p5 p6
theorem o_p {w : World} {S : List Nat} {cs : List Value} {x : c_} {v : Int} (h : own w S cs x) (hv : inI v) : own w S (cs.set 2 (vI v)) (⟨x.name, x.kind, v, x.little, x.bytes, x.names, x.tags, x.kids⟩ : c_) := by
 obtain ⟨a1, n1, c1, a2, n2, c2, a3, n3, c3, a4, n4, c4, S1, S2, S3, S4, rfl, rfl, p0, p1, p2, p3, p4, p5, p6⟩ := d_p h
 exact c_0 (x := ⟨x.name, x.kind, v, x.little, x.bytes, x.names, x.tags, x.kids⟩) p0 p1 hv p3 p4 p5 p6
theorem o_q {w : World} {S : List Nat} {cs : List Value} {x : c_} {v : Bool} (h : own w S cs x) : own w S (cs.set 3 (vB v)) (⟨x.name, x.kind, x.size, v, x.bytes, x.names, x.tags, x.kids⟩ : c_) := by
 obtain ⟨a1, n1, c1, a2, n2, c2, a3, n3, c3, a4, n4, c4, S1, S2, S3, S4, rfl, rfl, p0, p1, p2, p3, p4, p5, p6⟩ := d_p h
 exact c_0 (x := ⟨x.name, x.kind, x.size, v, x.bytes, x.names, x.tags, x.kids⟩) p0 p1 p2 p3 p4 p5 p6
structure g_ where
 rules : List c_
deriving DecidableEq, Inhabited
instance : Dat g_ := Dat.via (fun r => r.rules)
theorem c_j {w : World} {B : Zone} {cs : List Value} {x : g_} (h : rep w B cs x) : ∃ (a1 : Option Addr) (n1 c1 : Nat), cs = [.slice a1 n1 c1] ∧ b_ w B (.slice a1 n1 c1) x.rules := by
 obtain ⟨a1, n1, c1, rfl, p0⟩ := d_2 h
 exact ⟨a1, n1, c1, rfl, p0⟩
theorem f_o {w : World} {x : g_} {a1 : Option Addr} {n1 c1 : Nat} {S1 : List Nat} (p0 : a_ w S1 (.slice a1 n1 c1) x.rules) : own w (S1) [.slice a1 n1 c1] x := by
 have h : own w _ _ x := (e_w p0)
 simpa using h
theorem o_r {w : World} {S : List Nat} {cs : List Value} {x : g_} (h : own w S cs x) : ∃ (a1 : Option Addr) (n1 c1 : Nat) (S1 : List Nat), cs = [.slice a1 n1 c1] ∧ S = S1 ∧ a_ w S1 (.slice a1 n1 c1) x.rules := by
 obtain ⟨a1, n1, c1, rfl, p0⟩ := f_z h
 exact ⟨a1, n1, c1, _, rfl, rfl, p0⟩
structure j_d where
 path : Str
 rule : Int
 start : Int
 end_ : Int
deriving DecidableEq, Inhabited
instance : Dat j_d := Dat.via (fun r => (r.path, r.rule, r.start, r.end_))
instance : a_o j_d := ⟨fun h => a_o.flat (α := Str × Int × Int × Int) h, fun h => a_o.none (α := Str × Int × Int × Int) h⟩
structure l_g where
 rule : Int
 tag : Int
deriving DecidableEq, Inhabited
instance : Dat l_g := Dat.via (fun r => (r.rule, r.tag))
instance : a_o l_g := ⟨fun h => a_o.flat (α := Int × Int) h, fun h => a_o.none (α := Int × Int) h⟩
structure o_s where
 d : g_
 b : List UInt8
 rule : Int
 at_ : Int
deriving DecidableEq, Inhabited
instance : Dat o_s := Dat.via (fun r => (r.d, r.b, r.rule, r.at_))
structure o_t where
 d : g_
 b : List UInt8
 list_ : List j_d
deriving DecidableEq, Inhabited
instance : Dat o_t := Dat.via (fun r => (r.d, r.b, r.list_))
structure a_g where
 d : g_
 b : List UInt8
deriving DecidableEq, Inhabited
instance : Dat a_g := Dat.via (fun r => (r.d, r.b))
structure l_h where
 position : Int
 code : Int
deriving DecidableEq, Inhabited
instance : Dat l_h := Dat.via (fun r => (r.position, r.code))
instance : a_o l_h := ⟨fun h => a_o.flat (α := Int × Int) h, fun h => a_o.none (α := Int × Int) h⟩
structure o_u where
 d : g_
 b : List UInt8
 applied : Int
deriving DecidableEq, Inhabited
instance : Dat o_u := Dat.via (fun r => (r.d, r.b, r.applied))
structure Spot where
 at_ : Int
 code : Int
deriving DecidableEq, Inhabited
instance : Dat Spot := Dat.via (fun r => (r.at_, r.code))
instance : a_o Spot := ⟨fun h => a_o.flat (α := Int × Int) h, fun h => a_o.none (α := Int × Int) h⟩
structure l_i where
 code : Int
 position : Int
 path : Str
 rule : Int
deriving DecidableEq, Inhabited
instance : Dat l_i := Dat.via (fun r => (r.code, r.position, r.path, r.rule))
instance : a_o l_i := ⟨fun h => a_o.flat (α := Int × Int × Str × Int) h, fun h => a_o.none (α := Int × Int × Str × Int) h⟩
structure Tracer where
 d : g_
 b : List UInt8
 path : Str
 rule : Int
deriving DecidableEq, Inhabited
instance : Dat Tracer := Dat.via (fun r => (r.d, r.b, r.path, r.rule))
structure L1Cur where
 b : List UInt8
 i : Int
 h : Int
deriving DecidableEq, Inhabited
instance : Dat L1Cur := Dat.via (fun r => (r.b, r.i, r.h))
structure B_ where
 versions : List g_
deriving DecidableEq, Inhabited
instance : Dat B_ := Dat.via (fun r => r.versions)
theorem o_v {w : World} {B : Zone} {cs : List Value} {x : B_} (h : rep w B cs x) : ∃ (a1 : Option Addr) (n1 c1 : Nat), cs = [.slice a1 n1 c1] ∧ b_ w B (.slice a1 n1 c1) x.versions := by
 obtain ⟨a1, n1, c1, rfl, p0⟩ := d_2 h
 exact ⟨a1, n1, c1, rfl, p0⟩
structure Log where
 bytes : List UInt8
 stored : Int
deriving DecidableEq, Inhabited
instance : Dat Log := Dat.via (fun r => (r.bytes, r.stored))
theorem o_w {w : World} {B : Zone} {cs : List Value} {x : Log} (h : rep w B cs x) : ∃ (a1 : Option Addr) (n1 c1 : Nat), cs = [.slice a1 n1 c1, vI x.stored] ∧ b_ w B (.slice a1 n1 c1) x.bytes ∧ inI x.stored := by
 obtain ⟨c1_, d1_, rfl, g1, t1⟩ := h
 obtain ⟨a1, n1, c1, rfl, p0⟩ := d_2 g1
 obtain ⟨rfl, p1⟩ := a_c t1
 exact ⟨a1, n1, c1, rfl, p0, p1⟩
structure w_ where
 registry : B_
 log : Log
deriving DecidableEq, Inhabited
instance : Dat w_ := Dat.via (fun r => (r.registry, r.log))
theorem o_x {w : World} {B : Zone} {cs : List Value} {x : w_} (h : rep w B cs x) : ∃ (a1 : Option Addr) (n1 c1 : Nat) (a2 : Option Addr) (n2 c2 : Nat), cs = [.slice a1 n1 c1, .slice a2 n2 c2, vI x.log.stored] ∧ b_ w B (.slice a1 n1 c1) x.registry.versions ∧ b_ w B (.slice a2 n2 c2) x.log.bytes ∧ inI x.log.stored := by
 obtain ⟨c1_, d1_, rfl, g1, t1⟩ := h
 obtain ⟨a1, n1, c1, rfl, p0⟩ := o_v g1
 obtain ⟨a2, n2, c2, rfl, p1, p2⟩ := o_w t1
 exact ⟨a1, n1, c1, a2, n2, c2, rfl, p0, p1, p2⟩
structure s_ where
 name : Str
 version : Int
 data : List UInt8
deriving DecidableEq, Inhabited
instance : Dat s_ := Dat.via (fun r => (r.name, r.version, r.data))
theorem e_t {w : World} {B : Zone} {cs : List Value} {x : s_} (h : rep w B cs x) : ∃ (a1 : Option Addr) (n1 c1 : Nat), cs = [x.name.v, vI x.version, .slice a1 n1 c1] ∧ x.name.b.length ≤ LEN ∧ inI x.version ∧ b_ w B (.slice a1 n1 c1) x.data := by
 obtain ⟨c1_, d1_, rfl, g1, t1⟩ := h
 obtain ⟨rfl, p0⟩ := b_E g1
 obtain ⟨c2_, d2_, rfl, g2, t2⟩ := t1
 obtain ⟨rfl, p1⟩ := a_c g2
 obtain ⟨a1, n1, c1, rfl, p2⟩ := d_2 t2
 exact ⟨a1, n1, c1, rfl, p0, p1, p2⟩
theorem f_p {w : World} {B : Zone} {x : s_} {a1 : Option Addr} {n1 c1 : Nat} (p0 : x.name.b.length ≤ LEN) (p1 : inI x.version) (p2 : b_ w B (.slice a1 n1 c1) x.data) : rep w B [x.name.v, vI x.version, .slice a1 n1 c1] x := (c_l (Str_mk p0) (c_l (Int_mk p1) (o_T p2)))
structure o_ where
 kind : Int
 name : Str
 version : Int
 data : List UInt8
deriving DecidableEq, Inhabited
instance : Dat o_ := Dat.via (fun r => (r.kind, r.name, r.version, r.data))
theorem d_R {w : World} {B : Zone} {cs : List Value} {x : o_} (h : rep w B cs x) : ∃ (a1 : Option Addr) (n1 c1 : Nat), cs = [vI x.kind, x.name.v, vI x.version, .slice a1 n1 c1] ∧ inI x.kind ∧ x.name.b.length ≤ LEN ∧ inI x.version ∧ b_ w B (.slice a1 n1 c1) x.data := by
 obtain ⟨c1_, d1_, rfl, g1, t1⟩ := h
 obtain ⟨rfl, p0⟩ := a_c g1
 obtain ⟨c2_, d2_, rfl, g2, t2⟩ := t1
 obtain ⟨rfl, p1⟩ := b_E g2
 obtain ⟨c3_, d3_, rfl, g3, t3⟩ := t2
 obtain ⟨rfl, p2⟩ := a_c g3
 obtain ⟨a1, n1, c1, rfl, p3⟩ := d_2 t3
 exact ⟨a1, n1, c1, rfl, p0, p1, p2, p3⟩
theorem l_j {w : World} {x : o_} {a1 : Option Addr} {n1 c1 : Nat} {S1 : List Nat} (p0 : inI x.kind) (p1 : x.name.b.length ≤ LEN) (p2 : inI x.version) (p3 : a_ w S1 (.slice a1 n1 c1) x.data) : own w (S1) [vI x.kind, x.name.v, vI x.version, .slice a1 n1 c1] x := by
 have h : own w _ _ x := (c_G (c_F p0) (c_G (f_s p1) (c_G (c_F p2) (e_w p3))))
 simpa using h
end Go.Vw
