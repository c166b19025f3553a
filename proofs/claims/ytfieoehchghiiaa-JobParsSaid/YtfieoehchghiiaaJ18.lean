/-
  Rows of nodes that are copied, the first of them by another name.
-/
import Derived.Test.YtfieoehchghiiaaJ16
import Derived.Test.YtfieoehchghiiaaVJ
namespace Go.Proofs.Ytfieoehchghiiaa
open Go.RowKit
set_option linter.unusedVariables false

theorem row_curN {wc w4 : World} {b off n g cap base size : Nat} {e : TypeId} (h : w4.ownsRow base e size (.slice (some ⟨g, 0, none⟩) (0 + n) cap) (0 + n) ([] ++ rowOf wc b off (n * size)))
    (hc : ∀ j, j < n * size → ∃ u, wc.cell? ⟨b, off + j, none⟩ = some u ∧ u.oneCell' = true) :
    ∃ cur, Blk w4 g e cur ∧ base ≤ g ∧ n ≤ cap ∧ cap ≤ maxLen ∧ ∀ j, j < n * size → cur[j]? = wc.cell? ⟨b, off + j, none⟩ := by
  obtain ⟨cur, h1, h2, h3, h4, h5⟩ := own_blk h
  refine ⟨cur, h1, h2, by omega, h4, fun j hj => ?_⟩
  obtain ⟨u, hu, _⟩ := hc j hj
  rw [h5 j (by rw [Nat.zero_add]; exact hj), List.nil_append, rowOf_at wc b off _ j u hj hu, hu]

theorem NodesAt.cells {w : World} {B : Nat} {l : List Nd} {b off cap : Nat} (h : NodesAt w B l (.slice (some ⟨b, off, none⟩) l.length cap)) : ∀ j, j < l.length * 7 → ∃ u, w.cell? ⟨b, off + j, none⟩ = some u ∧ u.oneCell' = true := by
  intro j hj
  obtain ⟨b', off', cap', e, hb, hu, iv, sv, c0, c1, c2, c3, c4, c5, c6, hin⟩ := h.at_ (j / 7) (by omega)
  simp only [Value.slice.injEq, Option.some.injEq, Addr.mk.injEq, and_true, true_and] at e
  obtain ⟨⟨rfl, rfl⟩, rfl⟩ := e
  obtain ⟨a2, cap2, rfl, _, _⟩ := hin.2.slice
  obtain ⟨_, a3, cap3, rfl, _, _, _⟩ := id hin.1
  have hm : j % 7 = 0 ∨ j % 7 = 1 ∨ j % 7 = 2 ∨ j % 7 = 3 ∨ j % 7 = 4 ∨ j % 7 = 5 ∨ j % 7 = 6 := by omega
  rcases hm with hm | hm | hm | hm | hm | hm | hm
  · rw [show off + j = off + j / 7 * 7 by omega]; exact ⟨_, c0, rfl⟩
  · rw [show off + j = off + j / 7 * 7 + 1 by omega]; exact ⟨_, c1, rfl⟩
  · rw [show off + j = off + j / 7 * 7 + 2 by omega]; exact ⟨_, c2, rfl⟩
  · rw [show off + j = off + j / 7 * 7 + 3 by omega]; exact ⟨_, c3, rfl⟩
  · rw [show off + j = off + j / 7 * 7 + 4 by omega]; exact ⟨_, c4, rfl⟩
  · rw [show off + j = off + j / 7 * 7 + 5 by omega]; exact ⟨_, c5, rfl⟩
  · rw [show off + j = off + j / 7 * 7 + 6 by omega]; exact ⟨_, c6, rfl⟩

theorem NodesAt.named {w0 w5 : World} {B C : Nat} {d : Nd} {l : List Nd} {b off cap : Nat} (h : NodesAt w0 B (d :: l) (.slice (some ⟨b, off, none⟩) (d :: l).length cap)) (hb : Below B w0 w5) (hBC : B ≤ C)
    (u : ByteArray) (hu : u.size ≤ maxLen) {g capg : Nat} {t : TypeId} {cur : Array Value} (hg : Blk w5 g t cur) (hgC : g < C) (hcapg : (d :: l).length ≤ capg) (hmg : capg ≤ maxLen)
    (hcur : ∀ j, j < (d :: l).length * 7 → cur[j]? = if j = 0 then some (.string u) else w0.cell? ⟨b, off + j, none⟩) :
    NodesAt w5 C ({ d with uid := u } :: l) (.slice (some ⟨g, 0, none⟩) (d :: l).length capg) := by
  refine ⟨some ⟨g, 0, none⟩, capg, rfl, hcapg, hmg, .inr ⟨g, 0, rfl, hgC, fun j hj => ?_⟩⟩
  have hj' : j < (d :: l).length := hj
  obtain ⟨b', off', cap', e, hb', hu', iv, sv, c0, c1, c2, c3, c4, c5, c6, hin⟩ := h.at_ j hj'
  simp only [Value.slice.injEq, Option.some.injEq, Addr.mk.injEq, and_true, true_and] at e
  obtain ⟨⟨rfl, rfl⟩, rfl⟩ := e
  have hc : ∀ q, q < 7 → (j ≠ 0 ∨ q ≠ 0) → w5.cell? ⟨g, 0 + j * 7 + q, none⟩ = w0.cell? ⟨b, off + j * 7 + q, none⟩ := by
    intro q hq hne
    rw [hg.cell, hcur _ (by omega), if_neg (by omega)]
    congr 2
    omega
  have hin5 : NdIn w5 C iv sv ((d :: l)[j]'hj') := (hin.keep hb).mono hBC
  cases j with
  | zero =>
    refine ⟨hu, iv, sv, ?_, (hc 1 (by omega) (by omega)).trans c1, (hc 2 (by omega) (by omega)).trans c2, (hc 3 (by omega) (by omega)).trans c3, (hc 4 (by omega) (by omega)).trans c4, (hc 5 (by omega) (by omega)).trans c5, (hc 6 (by omega) (by omega)).trans c6, hin5⟩
    rw [hg.cell, hcur _ (by simp), if_pos (by omega)]
    rfl
  | succ j =>
    exact ⟨hu', iv, sv, (hc 0 (by omega) (by omega)).trans c0, (hc 1 (by omega) (by omega)).trans c1, (hc 2 (by omega) (by omega)).trans c2, (hc 3 (by omega) (by omega)).trans c3, (hc 4 (by omega) (by omega)).trans c4, (hc 5 (by omega) (by omega)).trans c5, (hc 6 (by omega) (by omega)).trans c6, hin5⟩

end Go.Proofs.Ytfieoehchghiiaa
