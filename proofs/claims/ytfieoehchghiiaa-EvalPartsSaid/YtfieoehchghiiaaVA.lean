/-
  Equality of api.Value.
-/
import Derived.Test.YtfieoehchghiiaaV9
import Derived.Test.YtfieoehchghiiaaK2
namespace Go.Proofs.Ytfieoehchghiiaa
open Go.RowKit
set_option linter.unusedVariables false

theorem eq_i64V (d : Nat) (x y : Int) (w : World) : (Op.equalIn (d + 1) 2 (.int .i64 x) (.int .i64 y)).run Try.prog w = .ok (x == y) w := by
  unfold Op.equalIn
  go_simp
theorem eq_boolV (d : Nat) (x y : Bool) (w : World) : (Op.equalIn (d + 1) 4 (.bool x) (.bool y)).run Try.prog w = .ok (x == y) w := by
  unfold Op.equalIn
  go_simp

theorem run_eq_val (r s : DoR) (w : World) : (binOp .eql 48 r.agg s.agg).run Try.prog w = .ok (.bool (r.ty == s.ty && (r.n == s.n && r.b == s.b))) w := by
  obtain ⟨t, n, b, e⟩ := r
  obtain ⟨t', n', b', e'⟩ := s
  simp only [DoR.agg, binOp]
  unfold Op.equal Op.maxDepth Op.equalIn
  go_simp
  by_cases h1 : t = t'
  · by_cases h2 : n = n'
    · by_cases h3 : b = b'
      · simp [h1, h2, h3]
      · simp [h1, h2, h3]
    · simp [h1, h2]
  · simp [h1]

end Go.Proofs.Ytfieoehchghiiaa
