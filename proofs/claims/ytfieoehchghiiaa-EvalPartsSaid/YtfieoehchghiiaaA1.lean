/-
  What an expression is reckoned with, out of a reading.
-/
import Derived.Test.YtfieoehchghiiaaA0
import Derived.Test.YtfieoehchghiiaaV2
namespace Go.Proofs.Ytfieoehchghiiaa
open Go.RowKit Go.ChangeShapes Go.WideShapes
set_option linter.unusedVariables false

def Env.v0 (env : Env) : Value := .agg #[.int .i64 env.key, .int .i64 env.val, .int .i64 env.acc]
theorem cellsEnv : Try.prog.cellsOf 45 = 3 := by kernel_rfl

section
variable {H : Type} {enc : TypeId × Value → H} {w : World}
set_option maxRecDepth 100000 in
theorem open_env {r : Reach} {b0 : Nat} {v : Value} {d : DataW H} {p : List MemPlace} (hv : Value.okWide Try.prog w r b0 45 v) (h : DataW.Trod enc Try.prog w 0 (fun _ => true) true 45 v d p) :
    ∃ env : Env, v = env.v0 := by
  obtain ⟨c0, c1, c2, y0, y1, y2, m, rfl, _, _, e0, e1, e2⟩ := Go.Joins.open_agg3 Try.underlying45 (by kernel_rfl) cellsEnv hv h
  obtain ⟨o, ho, _, _⟩ := DataW.trod_int Try.underlying2 e0
  obtain ⟨k, hk, _, _⟩ := DataW.trod_int Try.underlying2 e1
  obtain ⟨j, hj, _, _⟩ := DataW.trod_int Try.underlying2 e2
  simp only [List.cons.injEq, and_true] at ho hk hj
  subst ho
  subst hk
  subst hj
  exact ⟨⟨o, k, j⟩, rfl⟩
end

end Go.Proofs.Ytfieoehchghiiaa
