/-
  Jobs: plain data, and how they lie in a world.
-/
import Derived.Test.YtfieoehchghiiaaME
namespace Go.Proofs.Ytfieoehchghiiaa
open Go.RowKit
set_option linter.unusedVariables false

/-- A node. -/
structure Nd where
  uid : ByteArray
  kind : Int
  ins : List Int
  x : Ex
  n : Int

/-- A job. -/
structure Jb where
  par : Int
  nodes : List Nd

/-- What a node's slice of places and its slice of arguments are. -/
def NdIn (w : World) (B : Nat) (iv sv : Value) (d : Nd) : Prop := Sl w B 1 iv d.ins.length (d.ins.map (Value.int .i64)) ∧ ArgsAt w B d.x.args sv
/-- A node by value. -/
def NdAt (w : World) (B : Nat) (v : Value) (d : Nd) : Prop :=
  ∃ iv sv, v = .agg #[.string d.uid, .int .u8 d.kind, iv, .int .u8 d.x.op, .int .i64 d.x.n, sv, .int .i64 d.n] ∧ NdIn w B iv sv d ∧ d.uid.size ≤ maxLen
/-- The nodes l lie where the slice says. -/
def NodesAt (w : World) (B : Nat) (l : List Nd) (v : Value) : Prop :=
  ∃ a cap, v = .slice a l.length cap ∧ l.length ≤ cap ∧ cap ≤ maxLen ∧ (l.length = 0 ∨ ∃ b off, a = some ⟨b, off, none⟩ ∧ b < B ∧ ∀ j (h : j < l.length), (l[j]'h).uid.size ≤ maxLen ∧ ∃ iv sv,
    w.cell? ⟨b, off + j * 7, none⟩ = some (.string (l[j]'h).uid) ∧ w.cell? ⟨b, off + j * 7 + 1, none⟩ = some (.int .u8 (l[j]'h).kind) ∧ w.cell? ⟨b, off + j * 7 + 2, none⟩ = some iv ∧
    w.cell? ⟨b, off + j * 7 + 3, none⟩ = some (.int .u8 (l[j]'h).x.op) ∧ w.cell? ⟨b, off + j * 7 + 4, none⟩ = some (.int .i64 (l[j]'h).x.n) ∧ w.cell? ⟨b, off + j * 7 + 5, none⟩ = some sv ∧
    w.cell? ⟨b, off + j * 7 + 6, none⟩ = some (.int .i64 (l[j]'h).n) ∧ NdIn w B iv sv (l[j]'h))
/-- A job by value. -/
def JbAt (w : World) (B : Nat) (v : Value) (j : Jb) : Prop := ∃ sv, v = .agg #[.int .i64 j.par, sv] ∧ NodesAt w B j.nodes sv

theorem NdIn.mono {w : World} {B C : Nat} {iv sv : Value} {d : Nd} (h : NdIn w B iv sv d) (hC : B ≤ C) : NdIn w C iv sv d := ⟨h.1.mono hC, h.2.mono hC⟩
theorem NdIn.keep {w w' : World} {B : Nat} {iv sv : Value} {d : Nd} (h : NdIn w B iv sv d) (hB : Below B w w') : NdIn w' B iv sv d := ⟨h.1.below hB, h.2.keep hB⟩
theorem NdAt.mono {w : World} {B C : Nat} {v : Value} {d : Nd} (h : NdAt w B v d) (hC : B ≤ C) : NdAt w C v d := let ⟨a, b, c, e, f⟩ := h; ⟨a, b, c, e.mono hC, f⟩
theorem NdAt.keep {w w' : World} {B : Nat} {v : Value} {d : Nd} (h : NdAt w B v d) (hB : Below B w w') : NdAt w' B v d := let ⟨a, b, c, e, f⟩ := h; ⟨a, b, c, e.keep hB, f⟩
namespace NodesAt
variable {w w' : World} {B : Nat} {l : List Nd} {v : Value}
theorem mono (h : NodesAt w B l v) {C : Nat} (hC : B ≤ C) : NodesAt w C l v := by
  obtain ⟨a, cap, rfl, h1, h2, h3⟩ := h
  refine ⟨a, cap, rfl, h1, h2, h3.imp id ?_⟩
  rintro ⟨b, off, rfl, hb, hc⟩
  refine ⟨b, off, rfl, by omega, fun j hj => ?_⟩
  obtain ⟨u, iv, sv, c0, c1, c2, c3, c4, c5, c6, hs⟩ := hc j hj
  exact ⟨u, iv, sv, c0, c1, c2, c3, c4, c5, c6, hs.mono hC⟩
theorem keep (h : NodesAt w B l v) (hB : Below B w w') : NodesAt w' B l v := by
  obtain ⟨a, cap, rfl, h1, h2, h3⟩ := h
  refine ⟨a, cap, rfl, h1, h2, h3.imp id ?_⟩
  rintro ⟨b, off, rfl, hb, hc⟩
  refine ⟨b, off, rfl, hb, fun j hj => ?_⟩
  obtain ⟨u, iv, sv, c0, c1, c2, c3, c4, c5, c6, hs⟩ := hc j hj
  have g := fun k => hB.cell (p := ⟨b, k, none⟩) hb
  exact ⟨u, iv, sv, (g _).trans c0, (g _).trans c1, (g _).trans c2, (g _).trans c3, (g _).trans c4, (g _).trans c5, (g _).trans c6, hs.keep hB⟩
theorem slice (h : NodesAt w B l v) : ∃ a cap, v = .slice a l.length cap ∧ l.length ≤ cap ∧ cap ≤ maxLen := by
  obtain ⟨a, cap, rfl, h1, h2, h3⟩ := h
  exact ⟨a, cap, rfl, h1, h2⟩
/-- An element. -/
theorem at_ (h : NodesAt w B l v) (j : Nat) (hj : j < l.length) : ∃ b off cap, v = .slice (some ⟨b, off, none⟩) l.length cap ∧ b < B ∧ (l[j]'hj).uid.size ≤ maxLen ∧ ∃ iv sv,
    w.cell? ⟨b, off + j * 7, none⟩ = some (.string (l[j]'hj).uid) ∧ w.cell? ⟨b, off + j * 7 + 1, none⟩ = some (.int .u8 (l[j]'hj).kind) ∧ w.cell? ⟨b, off + j * 7 + 2, none⟩ = some iv ∧
    w.cell? ⟨b, off + j * 7 + 3, none⟩ = some (.int .u8 (l[j]'hj).x.op) ∧ w.cell? ⟨b, off + j * 7 + 4, none⟩ = some (.int .i64 (l[j]'hj).x.n) ∧ w.cell? ⟨b, off + j * 7 + 5, none⟩ = some sv ∧
    w.cell? ⟨b, off + j * 7 + 6, none⟩ = some (.int .i64 (l[j]'hj).n) ∧ NdIn w B iv sv (l[j]'hj) := by
  obtain ⟨a, cap, rfl, h1, h2, h3⟩ := h
  rcases h3 with h3 | ⟨b, off, rfl, hb, hc⟩
  · omega
  · obtain ⟨u, iv, sv, c⟩ := hc j hj
    exact ⟨b, off, cap, rfl, hb, u, iv, sv, c⟩
end NodesAt
theorem JbAt.mono {w : World} {B C : Nat} {v : Value} {j : Jb} (h : JbAt w B v j) (hC : B ≤ C) : JbAt w C v j := let ⟨a, b, c⟩ := h; ⟨a, b, c.mono hC⟩
theorem JbAt.keep {w w' : World} {B : Nat} {v : Value} {j : Jb} (h : JbAt w B v j) (hB : Below B w w') : JbAt w' B v j := let ⟨a, b, c⟩ := h; ⟨a, b, c.keep hB⟩

/-- Numbers within their kinds. -/
def Nd.ok (d : Nd) : Prop := 0 ≤ d.kind ∧ d.kind ≤ 255 ∧ (∀ z ∈ d.ins, -9223372036854775808 ≤ z ∧ z ≤ 9223372036854775807) ∧ d.x.ok ∧ -9223372036854775808 ≤ d.n ∧ d.n ≤ 9223372036854775807
def Jb.ok (j : Jb) : Prop := -9223372036854775808 ≤ j.par ∧ j.par ≤ 9223372036854775807 ∧ ∀ d ∈ j.nodes, d.ok

end Go.Proofs.Ytfieoehchghiiaa
