/-
  Plain laws: the cells of tokens; a slice of tokens without its first one.
-/
import Derived.Test.YtfieoehchghiiaaS7
namespace Go.Proofs.Ytfieoehchghiiaa
open Go.RowKit
set_option linter.unusedVariables false

theorem toksCells_at (l : List Tok) (k : Nat) (h : k < l.length) : (toksCells l)[k * 4]? = some (.int .u8 (l[k]'h).kind) ∧ (toksCells l)[k * 4 + 1]? = some (.string (l[k]'h).text) ∧
    (toksCells l)[k * 4 + 2]? = some (.int .i64 (l[k]'h).n) ∧ (toksCells l)[k * 4 + 3]? = some (.int .i64 (l[k]'h).at_) := by
  induction l generalizing k with
  | nil => simp at h
  | cons t l ih =>
    cases k with
    | zero => simp [toksCells, Tok.cells]
    | succ k =>
      have hk : k < l.length := by simpa using h
      have e : toksCells (t :: l) = .int .u8 t.kind :: .string t.text :: .int .i64 t.n :: .int .i64 t.at_ :: toksCells l := rfl
      rw [e, show (k + 1) * 4 = k * 4 + 1 + 1 + 1 + 1 by omega]
      simp only [List.getElem?_cons_succ, List.getElem_cons_succ, Nat.add_right_comm _ 1]
      exact ih k hk

/-- The four cells of an element. -/
theorem Sl.tok {w : World} {B n : Nat} {v : Value} {l : List Tok} (h : Sl w B 4 v n (toksCells l)) (k : Nat) (hk : k < n) :
    ∃ b off cap, v = .slice (some ⟨b, off, none⟩) n cap ∧ ∃ hl : k < l.length, w.cell? ⟨b, off + k * 4, none⟩ = some (.int .u8 (l[k]'hl).kind) ∧ w.cell? ⟨b, off + k * 4 + 1, none⟩ = some (.string (l[k]'hl).text) ∧
      w.cell? ⟨b, off + k * 4 + 2, none⟩ = some (.int .i64 (l[k]'hl).n) ∧ w.cell? ⟨b, off + k * 4 + 3, none⟩ = some (.int .i64 (l[k]'hl).at_) := by
  obtain ⟨h1, a, cap, hv, h2, h3, h4⟩ := h
  rw [toksCells_length] at h1
  rcases h4 with h4 | ⟨b, off, rfl, hb, hc⟩
  · omega
  · have hl : k < l.length := by omega
    obtain ⟨e0, e1, e2, e3⟩ := toksCells_at l k hl
    refine ⟨b, off, cap, hv, hl, ?_, ?_, ?_, ?_⟩
    · rw [hc _ (by omega)]; exact e0
    · rw [Nat.add_assoc, hc _ (by omega)]; exact e1
    · rw [Nat.add_assoc, hc _ (by omega)]; exact e2
    · rw [Nat.add_assoc, hc _ (by omega)]; exact e3

/-- Without the first element. -/
theorem Sl.rest {w : World} {B : Nat} {t : Tok} {l : List Tok} {b off cap : Nat} (h : Sl w B 4 (.slice (some ⟨b, off, none⟩) (l.length + 1) cap) (l.length + 1) (toksCells (t :: l))) {A : Option Addr} (hA : 0 < l.length → A = some ⟨b, off + 4, none⟩) :
    Sl w B 4 (.slice A l.length (cap - 1)) l.length (toksCells l) := by
  obtain ⟨h1, a, cap', hv, h2, h3, h4⟩ := h
  simp only [Value.slice.injEq] at hv
  obtain ⟨rfl, _, rfl⟩ := hv
  refine ⟨toksCells_length l, _, _, rfl, by omega, by omega, ?_⟩
  by_cases h0 : l.length = 0
  · exact .inl h0
  · rcases h4 with h4 | ⟨b', off', e, hb, hc⟩
    · omega
    · simp only [Option.some.injEq, Addr.mk.injEq, and_true] at e
      obtain ⟨rfl, rfl⟩ := e
      refine .inr ⟨b, off + 4, hA (by omega), hb, fun j hj => ?_⟩
      have := hc (4 + j) (by omega)
      rw [← Nat.add_assoc] at this
      rw [this]
      show (t.cells ++ toksCells l)[4 + j]? = _
      rw [List.getElem?_append_right (by simp [Tok.cells]), show t.cells.length = 4 from rfl, Nat.add_sub_cancel_left]

end Go.Proofs.Ytfieoehchghiiaa
