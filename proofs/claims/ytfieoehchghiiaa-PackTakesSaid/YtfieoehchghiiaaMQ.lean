/-
  Plain laws on types of expressions.
  Plain laws for KindSwaps, KindSigns.
-/
import Derived.Test.YtfieoehchghiiaaMK

namespace Go.Proofs.Ytfieoehchghiiaa
open Go.RowKit
set_option linter.unusedVariables false

theorem findRow_mem {r : Row} : ∀ {l : List (Row × Int)} {i : Nat} {q : Nat × Int}, findRow r l i = some q → ∃ p ∈ l, p.1 = r ∧ p.2 = q.2
  | [], i, q, h => by simp [findRow] at h
  | (s, t) :: l, i, q, h => by
    simp only [findRow] at h
    split at h
    · rename_i hs
      simp only [Option.some.injEq] at h
      subst h
      exact ⟨(s, t), by simp, hs.symm, rfl⟩
    · obtain ⟨p, hp, h1, h2⟩ := findRow_mem h
      exact ⟨p, by simp [hp], h1, h2⟩
theorem kv8_vals : ∀ p ∈ kv8, p.2 = 1 ∨ p.2 = 2 := by decide +kernel
theorem getRow_vals (r : Row) : getRow r kv8 = 0 ∨ getRow r kv8 = 1 ∨ getRow r kv8 = 2 := by
  unfold getRow
  cases h : findRow r kv8 0 with
  | none => exact .inl rfl
  | some q =>
    obtain ⟨p, hp, _, h2⟩ := findRow_mem h
    have := kv8_vals p hp
    rw [h2] at this
    exact .inr this
theorem Ex.ty_vals (x : Ex) : x.ty = 0 ∨ x.ty = 1 ∨ x.ty = 2 := by
  rw [Ex.ty_eq]
  split
  · exact .inl rfl
  · exact getRow_vals _

theorem mayB_succ : ∀ (k : Nat) (x : Ex), mayB k x = true → mayB (k + 1) x = true
  | 0, x, h => by simp [mayB] at h
  | k + 1, x, h => by
    simp only [mayB, Bool.and_eq_true, List.all_eq_true] at h
    show (shapeB x && x.args.all (mayB (k + 1))) = true
    rw [h.1, Bool.true_and, List.all_eq_true]
    exact fun a ha => mayB_succ k a (h.2 a ha)
theorem mayT_args {x : Ex} (h : x.mayT = true) : shapeB x = true ∧ ∀ a ∈ x.args, mayB 15 a = true := by
  have h' : (shapeB x && x.args.all (mayB 15)) = true := h
  rw [Bool.and_eq_true, List.all_eq_true] at h'
  exact h'

theorem Exs.accB_mem : ∀ (l : List Ex), Exs.accB l = false → ∀ a ∈ l, a.accB = false
  | x :: l, h, a, ha => by
    simp only [Exs.accB, Bool.or_eq_false_iff] at h
    rcases List.mem_cons.1 ha with rfl | ha
    · exact h.1
    · exact Exs.accB_mem l h.2 a ha
theorem Exs.tys_mem : ∀ (l : List Ex) (ts : List Int), Exs.tys l = some ts → ∀ a ∈ l, a.ty ≠ 0
  | x :: l, ts, h, a, ha => by
    simp only [Exs.tys] at h
    split at h
    · simp at h
    · rename_i hx
      cases hl : Exs.tys l with
      | none => rw [hl] at h; simp at h
      | some ts' =>
        rcases List.mem_cons.1 ha with rfl | ha
        · exact hx
        · exact Exs.tys_mem l ts' hl a ha
theorem Ex.ty_args {x : Ex} (h : x.ty ≠ 0) : ∀ a ∈ x.args, a.ty ≠ 0 := by
  rw [Ex.ty_eq] at h
  cases hl : Exs.tys x.args with
  | none => rw [hl] at h; exact absurd rfl h
  | some ts => exact Exs.tys_mem _ ts hl

/-- What 'typ' tells, way by way. -/
theorem typ_ok {x : Ex} {acc : Bool} (h : (x.typ acc).2 = 0) : x.mayT = true ∧ (acc = true ∨ x.accB = false) ∧ x.ty ≠ 0 ∧ (x.typ acc).1 = x.ty := by
  unfold Ex.typ at h ⊢
  by_cases hm : x.mayT = true
  · rw [if_pos hm] at h ⊢
    by_cases ha : acc = false ∧ x.accB = true
    · rw [if_pos ha] at h; simp at h
    · rw [if_neg ha] at h ⊢
      by_cases ht : x.ty = 0
      · rw [if_pos ht] at h; simp at h
      · rw [if_neg ht]
        refine ⟨hm, ?_, ht, rfl⟩
        cases acc <;> cases hx : x.accB <;> simp_all
  · rw [if_neg hm] at h; simp at h
theorem typ_err {x : Ex} {acc : Bool} (h : (x.typ acc).2 ≠ 0) : (x.typ acc).1 = 0 := by
  unfold Ex.typ at h ⊢
  repeat' split
  all_goals simp_all
theorem typ_mk {x : Ex} {acc : Bool} (h1 : x.mayT = true) (h2 : acc = true ∨ x.accB = false) (h3 : x.ty ≠ 0) : x.typ acc = (x.ty, 0) := by
  unfold Ex.typ
  rw [if_pos h1, if_neg (by rintro ⟨rfl, h⟩; rcases h2 with h2 | h2 <;> simp_all), if_neg h3]

/-- KindParts. -/
theorem typ_parts {x : Ex} {acc : Bool} (h : (x.typ acc).2 = 0) : x.typ true = ((x.typ acc).1, 0) ∧ ((x.typ acc).1 = 1 ∨ (x.typ acc).1 = 2) ∧ ∀ a ∈ x.args, (a.typ acc).2 = 0 := by
  obtain ⟨h1, h2, h3, h4⟩ := typ_ok h
  refine ⟨by rw [h4]; exact typ_mk h1 (.inl rfl) h3, ?_, fun a ha => ?_⟩
  · rw [h4]
    rcases Ex.ty_vals x with h0 | h0
    · exact absurd h0 h3
    · exact h0
  · have hacc : acc = true ∨ a.accB = false := by
      rcases h2 with h2 | h2
      · exact .inl h2
      · rw [Ex.accB_eq, Bool.or_eq_false_iff] at h2
        exact .inr (Exs.accB_mem _ h2.2 a ha)
    rw [typ_mk (mayB_succ 15 a ((mayT_args h1).2 a ha)) hacc (Ex.ty_args h3 a ha)]

end Go.Proofs.Ytfieoehchghiiaa

namespace Go.Proofs.Ytfieoehchghiiaa
open Go.RowKit
set_option linter.unusedVariables false

theorem ty_if (a x y : Ex) : (Ex.mk 18 0 [a, x, y]).ty = if a.ty = 0 then 0 else if x.ty = 0 then 0 else if y.ty = 0 then 0 else getRow ⟨18, a.ty, x.ty, y.ty⟩ kv8 := by
  simp only [Ex.ty, Exs.tys]
  by_cases ha : a.ty = 0
  · rw [if_pos ha, if_pos ha]
  · rw [if_neg ha, if_neg ha]
    by_cases hx : x.ty = 0
    · rw [if_pos hx, if_pos hx]; rfl
    · rw [if_neg hx, if_neg hx]
      by_cases hy : y.ty = 0
      · rw [if_pos hy, if_pos hy]; rfl
      · rw [if_neg hy, if_neg hy]; rfl
theorem row_swap : ∀ a ∈ ([0, 1, 2] : List Int), ∀ x ∈ ([0, 1, 2] : List Int), ∀ y ∈ ([0, 1, 2] : List Int), getRow ⟨18, a, x, y⟩ kv8 = getRow ⟨18, a, y, x⟩ kv8 := by decide +kernel
theorem row_if : ∀ a ∈ ([0, 1, 2] : List Int), ∀ x ∈ ([0, 1, 2] : List Int), ∀ y ∈ ([0, 1, 2] : List Int), getRow ⟨18, a, x, y⟩ kv8 ≠ 0 → a = 2 ∧ x = y ∧ getRow ⟨18, a, x, y⟩ kv8 = x := by decide +kernel
theorem Ex.ty_mem (x : Ex) : x.ty ∈ ([0, 1, 2] : List Int) := by
  rcases Ex.ty_vals x with h | h | h <;> rw [h] <;> simp

theorem ty_swap (a x y : Ex) : (Ex.mk 18 0 [a, x, y]).ty = (Ex.mk 18 0 [a, y, x]).ty := by
  rw [ty_if, ty_if]
  by_cases ha : a.ty = 0
  · rw [if_pos ha, if_pos ha]
  · rw [if_neg ha, if_neg ha]
    by_cases hx : x.ty = 0
    · rw [if_pos hx]
      by_cases hy : y.ty = 0
      · rw [if_pos hy]
      · rw [if_neg hy, if_pos hx]
    · rw [if_neg hx]
      by_cases hy : y.ty = 0
      · rw [if_pos hy, if_pos hy]
      · rw [if_neg hy, if_neg hy, if_neg hx]
        exact row_swap _ (Ex.ty_mem a) _ (Ex.ty_mem x) _ (Ex.ty_mem y)
theorem mayT_swap (a x y : Ex) : (Ex.mk 18 0 [a, x, y]).mayT = (Ex.mk 18 0 [a, y, x]).mayT := by
  show (shapeB (Ex.mk 18 0 [a, x, y]) && [a, x, y].all (mayB 15)) = (shapeB (Ex.mk 18 0 [a, y, x]) && [a, y, x].all (mayB 15))
  have h1 : shapeB (Ex.mk 18 0 [a, x, y]) = true := by simp [shapeB, Ex.op, Ex.n, Ex.args, manyN]
  have h2 : shapeB (Ex.mk 18 0 [a, y, x]) = true := by simp [shapeB, Ex.op, Ex.n, Ex.args, manyN]
  rw [h1, h2]
  simp only [List.all_cons, List.all_nil]
  cases mayB 15 a <;> cases mayB 15 x <;> cases mayB 15 y <;> rfl
theorem typ_swap (a x y : Ex) : (Ex.mk 18 0 [a, x, y]).typ true = (Ex.mk 18 0 [a, y, x]).typ true := by
  unfold Ex.typ
  rw [mayT_swap a x y, ty_swap a x y]
  simp
theorem typ_if {a x y : Ex} (h : ((Ex.mk 18 0 [a, x, y]).typ true).2 = 0) : a.isB true 2 = true ∧ x.mayT = true ∧ (x.typ true) = (((Ex.mk 18 0 [a, x, y]).typ true).1, 0) := by
  obtain ⟨h1, _, h3, h4⟩ := typ_ok h
  have hm := (mayT_args h1).2
  have hmx : x.mayT = true := mayB_succ 15 x (hm x (by simp [Ex.args]))
  have hma : a.mayT = true := mayB_succ 15 a (hm a (by simp [Ex.args]))
  have h3' := h3
  rw [ty_if] at h3'
  by_cases ha : a.ty = 0
  · rw [if_pos ha] at h3'; exact absurd rfl h3'
  · rw [if_neg ha] at h3'
    by_cases hx : x.ty = 0
    · rw [if_pos hx] at h3'; exact absurd rfl h3'
    · rw [if_neg hx] at h3'
      by_cases hy : y.ty = 0
      · rw [if_pos hy] at h3'; exact absurd rfl h3'
      · rw [if_neg hy] at h3'
        obtain ⟨e1, e2, e3⟩ := row_if _ (Ex.ty_mem a) _ (Ex.ty_mem x) _ (Ex.ty_mem y) h3'
        refine ⟨?_, hmx, ?_⟩
        · unfold Ex.isB
          rw [typ_mk hma (.inl rfl) ha]
          exact decide_eq_true ⟨rfl, e1⟩
        · rw [typ_mk hmx (.inl rfl) hx, h4, ty_if, if_neg ha, if_neg hx, if_neg hy, e3]
theorem typ_num (n : Int) : (Ex.mk 1 n []).typ false = if 0 ≤ n then (1, 0) else (0, 2) := by
  have hm : (Ex.mk 1 n []).mayT = decide (0 ≤ n) := by
    show (shapeB (Ex.mk 1 n []) && [].all (mayB 15)) = _
    simp [shapeB, Ex.op, Ex.n, Ex.args, manyN]
  unfold Ex.typ
  rw [hm]
  have ht : (Ex.mk 1 n []).ty = 1 := by
    simp only [Ex.ty, Exs.tys]
    decide +kernel
  have ha : (Ex.mk 1 n []).accB = false := by simp [Ex.accB, Exs.accB]
  rw [ht, ha]
  by_cases h : 0 ≤ n
  · rw [if_pos h, if_pos (by simpa using h)]; simp
  · rw [if_neg h, if_neg (by simpa using h)]

/-- A number, or a truth. -/
def sideX (b : Bool) : Ex := if b then .mk 12 0 [.mk 2 0 [], .mk 3 0 []] else .mk 1 1 []
def signX (op : Int) (a b : Bool) : Ex := .mk op 0 [sideX a, sideX b]
/-- The type that a sign tells. -/
def sgWant (op : Int) (a b : Bool) : Int := if a != b then 0 else if op = 14 ∨ op = 15 ∨ (a = decide (16 ≤ op) ∧ 12 ≤ op) then 2 else if op ≤ 11 ∧ a = false then 1 else 0
theorem sign_typ : ∀ op ∈ ([7, 8, 9, 10, 11, 12, 13, 14, 15, 16, 17] : List Int), ∀ a b : Bool, (signX op a b).typ false = (sgWant op a b, if sgWant op a b = 0 then 91 else 0) := by decide +kernel
theorem sign_none (op : Int) (h : op < 7 ∨ 17 < op) (a b : Bool) : (signX op a b).typ false = (0, 2) := by
  have hs : shapeB (signX op a b) = false := by
    unfold shapeB
    rw [decide_eq_false_iff_not]
    intro h'
    have h2 := h'.1
    simp only [signX, Ex.op, Ex.args, List.length_cons, List.length_nil] at h2
    unfold manyN at h2
    repeat' split at h2
    all_goals omega
  have hm : (signX op a b).mayT = false := by
    show (shapeB _ && _) = false
    rw [hs, Bool.false_and]
  unfold Ex.typ
  rw [hm]
  rfl

end Go.Proofs.Ytfieoehchghiiaa
