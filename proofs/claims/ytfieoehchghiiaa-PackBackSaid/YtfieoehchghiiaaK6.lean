/-
  Types of expressions (plain), for kind.of.
-/
import Derived.Test.YtfieoehchghiiaaK5
namespace Go.Proofs.Ytfieoehchghiiaa
open Go.RowKit
set_option linter.unusedVariables false

mutual
/-- An expression's type; 0: it has none. -/
def Ex.ty : Ex → Int
  | .mk o _ l => match Exs.tys l with
    | none => 0
    | some ts => getRow ⟨o, ts.getD 0 0, ts.getD 1 0, ts.getD 2 0⟩ kv8
/-- The types of expressions, where each has one. -/
def Exs.tys : List Ex → Option (List Int)
  | [] => some []
  | x :: l => if x.ty = 0 then none else (Exs.tys l).map (x.ty :: ·)
end
theorem Ex.ty_eq (x : Ex) : x.ty = match Exs.tys x.args with | none => 0 | some ts => getRow ⟨x.op, ts.getD 0 0, ts.getD 1 0, ts.getD 2 0⟩ kv8 := by
  obtain ⟨o, n, l⟩ := x
  simp only [Ex.ty, Ex.args, Ex.op]

mutual
/-- No expression in it has more than three arguments. -/
def Ex.thin : Ex → Prop
  | .mk _ _ l => l.length ≤ 3 ∧ Exs.thin l
def Exs.thin : List Ex → Prop
  | [] => True
  | x :: l => x.thin ∧ Exs.thin l
end

end Go.Proofs.Ytfieoehchghiiaa
