/-
  Plain laws for EvalBranch.
-/
import Derived.Test.YtfieoehchghiiaaV6
namespace Go.Proofs.Ytfieoehchghiiaa
open Go.RowKit
set_option linter.unusedVariables false

theorem doR_err {x : Ex} {env : Env} (h : (x.typ true).2 ≠ 0) : x.doR env = ⟨0, 0, false, (x.typ true).2⟩ := by
  unfold Ex.doR
  rw [if_neg h]
theorem doR_ok {x : Ex} {env : Env} (h : (x.typ true).2 = 0) : x.doR env = ⟨(x.typ true).1, (x.ev env).n, (x.ev env).b, 0⟩ := by
  unfold Ex.doR
  rw [if_pos h]
theorem doR_e (x : Ex) (env : Env) : (x.doR env).e = (x.typ true).2 := by
  by_cases h : (x.typ true).2 = 0
  · rw [doR_ok h, h]
  · rw [doR_err h]

/-- Of an ExIf whose condition is true the first branch is what it comes to; it is of its type. -/
theorem doR_if {a x y : Ex} {env : Env} (h : ((Ex.mk 18 0 [a, x, y]).doR env).e = 0) :
    (Ex.mk 18 0 [a, x, y]).doR env = (if (a.doR env).b then x.doR env else ⟨(x.typ true).1, (y.ev env).n, (y.ev env).b, 0⟩) ∧ (x.doR env).e = 0 ∧ ((Ex.mk 18 0 [a, x, y]).doR env).ty = (x.typ true).1 := by
  have h' := h
  rw [doR_e] at h'
  obtain ⟨h1, _, h3⟩ := typ_if h'
  have hx0 : (x.typ true).2 = 0 := by rw [h3]
  have hx1 : (x.typ true).1 = ((Ex.mk 18 0 [a, x, y]).typ true).1 := by rw [h3]
  have ha0 : (a.typ true).2 = 0 := (of_decide_eq_true h1).1
  have hev : (Ex.mk 18 0 [a, x, y]).ev env = if (a.ev env).b then x.ev env else y.ev env := ev_cond rfl rfl
  refine ⟨?_, by rw [doR_e]; exact hx0, by rw [doR_ok h']; exact hx1.symm⟩
  rw [doR_ok h', doR_ok ha0, doR_ok hx0, hev, ← hx1]
  dsimp only
  cases (a.ev env).b <;> rfl

end Go.Proofs.Ytfieoehchghiiaa
