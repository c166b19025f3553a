/-
  Jobs as bytes (plain).
-/
import Derived.Test.YtfieoehchghiiaaMB
import Derived.Test.YtfieoehchghiiaaJ9
namespace Go.Proofs.Ytfieoehchghiiaa
open Go.RowKit
set_option linter.unusedVariables false

theorem Exs.okC : ∀ (l : List Ex), Exs.ok l → ∀ j (h : j < l.length), (l[j]'h).ok
  | x :: l, h, 0, _ => h.1
  | x :: l, h, j + 1, hj => Exs.okC l h.2 j (by simpa using hj)
theorem Ex.okC {x : Ex} (h : x.ok) : 0 ≤ x.op ∧ x.op ≤ 255 ∧ -9223372036854775808 ≤ x.n ∧ x.n ≤ 9223372036854775807 ∧ Exs.ok x.args := by obtain ⟨o, n, l⟩ := x; exact h

mutual
/-- An expression's bytes. -/
def Ex.by : Ex → List UInt8
  | .mk o n l => putL [o, n, (l.length : Int)] ++ Exs.by l
def Exs.by : List Ex → List UInt8
  | [] => []
  | x :: l => x.by ++ Exs.by l
end
theorem Ex.by_eq (x : Ex) : x.by = putL [x.op, x.n, (x.args.length : Int)] ++ Exs.by x.args := by obtain ⟨o, n, l⟩ := x; rfl
theorem Exs.by_append : ∀ l m : List Ex, Exs.by (l ++ m) = Exs.by l ++ Exs.by m
  | [], m => rfl
  | x :: l, m => by simp only [List.cons_append, Exs.by]; rw [Exs.by_append l m, List.append_assoc]
theorem Exs.by_take (l : List Ex) (k : Nat) (hk : k < l.length) : Exs.by (l.take (k + 1)) = Exs.by (l.take k) ++ (l[k]'hk).by := by
  rw [List.take_succ_eq_append_getElem hk, Exs.by_append]
  simp only [Exs.by, List.append_nil]
theorem Exs.by_take_le (l : List Ex) (k : Nat) : (Exs.by (l.take k)).length ≤ (Exs.by l).length := by
  have : l = l.take k ++ l.drop k := (List.take_append_drop k l).symm
  have h2 := congrArg (fun q => (Exs.by q).length) this
  simp only [Exs.by_append, List.length_append] at h2
  omega
/-- A node's bytes, a job's. -/
def Nd.by (d : Nd) : List UInt8 := txtL d.uid ++ putL [d.kind, d.n, (d.ins.length : Int)] ++ putL d.ins ++ d.x.by
def nodesBy (l : List Nd) : List UInt8 := l.flatMap Nd.by
def Jb.by (j : Jb) : List UInt8 := putL [j.par, (j.nodes.length : Int)] ++ nodesBy j.nodes

end Go.Proofs.Ytfieoehchghiiaa
