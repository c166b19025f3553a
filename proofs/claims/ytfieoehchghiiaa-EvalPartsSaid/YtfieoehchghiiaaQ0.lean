/-
  Plain laws on types of expressions.
-/
import Derived.Test.YtfieoehchghiiaaK9
import Derived.Test.YtfieoehchghiiaaE11
namespace Go.Proofs.Ytfieoehchghiiaa
open Go.RowKit
set_option linter.unusedVariables false

theorem findRow_mem {r : Row} : ∀ {l : List (Row × Int)} {i : Nat} {q : Nat × Int}, findRow r l i = some q → ∃ p ∈ l, p.1 = r ∧ p.2 = q.2
  | [], i, q, h => by simp [findRow] at h
  | (s, t) :: l, i, q, h => by
    simp only [findRow] at h
    split at h
    · rename_i hs
      simp only [Option.some.injEq] at h
      subst h
      exact ⟨(s, t), by simp, hs.symm, rfl⟩
    · obtain ⟨p, hp, h1, h2⟩ := findRow_mem h
      exact ⟨p, by simp [hp], h1, h2⟩
theorem kv8_vals : ∀ p ∈ kv8, p.2 = 1 ∨ p.2 = 2 := by decide +kernel
theorem getRow_vals (r : Row) : getRow r kv8 = 0 ∨ getRow r kv8 = 1 ∨ getRow r kv8 = 2 := by
  unfold getRow
  cases h : findRow r kv8 0 with
  | none => exact .inl rfl
  | some q =>
    obtain ⟨p, hp, _, h2⟩ := findRow_mem h
    have := kv8_vals p hp
    rw [h2] at this
    exact .inr this
theorem Ex.ty_vals (x : Ex) : x.ty = 0 ∨ x.ty = 1 ∨ x.ty = 2 := by
  rw [Ex.ty_eq]
  split
  · exact .inl rfl
  · exact getRow_vals _

theorem mayB_succ : ∀ (k : Nat) (x : Ex), mayB k x = true → mayB (k + 1) x = true
  | 0, x, h => by simp [mayB] at h
  | k + 1, x, h => by
    simp only [mayB, Bool.and_eq_true, List.all_eq_true] at h
    show (shapeB x && x.args.all (mayB (k + 1))) = true
    rw [h.1, Bool.true_and, List.all_eq_true]
    exact fun a ha => mayB_succ k a (h.2 a ha)
theorem mayT_args {x : Ex} (h : x.mayT = true) : shapeB x = true ∧ ∀ a ∈ x.args, mayB 15 a = true := by
  have h' : (shapeB x && x.args.all (mayB 15)) = true := h
  rw [Bool.and_eq_true, List.all_eq_true] at h'
  exact h'

theorem Exs.accB_mem : ∀ (l : List Ex), Exs.accB l = false → ∀ a ∈ l, a.accB = false
  | x :: l, h, a, ha => by
    simp only [Exs.accB, Bool.or_eq_false_iff] at h
    rcases List.mem_cons.1 ha with rfl | ha
    · exact h.1
    · exact Exs.accB_mem l h.2 a ha
theorem Exs.tys_mem : ∀ (l : List Ex) (ts : List Int), Exs.tys l = some ts → ∀ a ∈ l, a.ty ≠ 0
  | x :: l, ts, h, a, ha => by
    simp only [Exs.tys] at h
    split at h
    · simp at h
    · rename_i hx
      cases hl : Exs.tys l with
      | none => rw [hl] at h; simp at h
      | some ts' =>
        rcases List.mem_cons.1 ha with rfl | ha
        · exact hx
        · exact Exs.tys_mem l ts' hl a ha
theorem Ex.ty_args {x : Ex} (h : x.ty ≠ 0) : ∀ a ∈ x.args, a.ty ≠ 0 := by
  rw [Ex.ty_eq] at h
  cases hl : Exs.tys x.args with
  | none => rw [hl] at h; exact absurd rfl h
  | some ts => exact Exs.tys_mem _ ts hl

/-- What 'typ' tells, way by way. -/
theorem typ_ok {x : Ex} {acc : Bool} (h : (x.typ acc).2 = 0) : x.mayT = true ∧ (acc = true ∨ x.accB = false) ∧ x.ty ≠ 0 ∧ (x.typ acc).1 = x.ty := by
  unfold Ex.typ at h ⊢
  by_cases hm : x.mayT = true
  · rw [if_pos hm] at h ⊢
    by_cases ha : acc = false ∧ x.accB = true
    · rw [if_pos ha] at h; simp at h
    · rw [if_neg ha] at h ⊢
      by_cases ht : x.ty = 0
      · rw [if_pos ht] at h; simp at h
      · rw [if_neg ht]
        refine ⟨hm, ?_, ht, rfl⟩
        cases acc <;> cases hx : x.accB <;> simp_all
  · rw [if_neg hm] at h; simp at h
theorem typ_err {x : Ex} {acc : Bool} (h : (x.typ acc).2 ≠ 0) : (x.typ acc).1 = 0 := by
  unfold Ex.typ at h ⊢
  repeat' split
  all_goals simp_all
theorem typ_mk {x : Ex} {acc : Bool} (h1 : x.mayT = true) (h2 : acc = true ∨ x.accB = false) (h3 : x.ty ≠ 0) : x.typ acc = (x.ty, 0) := by
  unfold Ex.typ
  rw [if_pos h1, if_neg (by rintro ⟨rfl, h⟩; rcases h2 with h2 | h2 <;> simp_all), if_neg h3]

/-- KindParts. -/
theorem typ_parts {x : Ex} {acc : Bool} (h : (x.typ acc).2 = 0) : x.typ true = ((x.typ acc).1, 0) ∧ ((x.typ acc).1 = 1 ∨ (x.typ acc).1 = 2) ∧ ∀ a ∈ x.args, (a.typ acc).2 = 0 := by
  obtain ⟨h1, h2, h3, h4⟩ := typ_ok h
  refine ⟨by rw [h4]; exact typ_mk h1 (.inl rfl) h3, ?_, fun a ha => ?_⟩
  · rw [h4]
    rcases Ex.ty_vals x with h0 | h0
    · exact absurd h0 h3
    · exact h0
  · have hacc : acc = true ∨ a.accB = false := by
      rcases h2 with h2 | h2
      · exact .inl h2
      · rw [Ex.accB_eq, Bool.or_eq_false_iff] at h2
        exact .inr (Exs.accB_mem _ h2.2 a ha)
    rw [typ_mk (mayB_succ 15 a ((mayT_args h1).2 a ha)) hacc (Ex.ty_args h3 a ha)]

end Go.Proofs.Ytfieoehchghiiaa
