/-
  Rows of expressions that are copied, and of which one is another.
-/
import Derived.Test.YtfieoehchghiiaaE0
import Derived.Test.YtfieoehchghiiaaKB
import Derived.Deep.AppendLies
namespace Go.Proofs.Ytfieoehchghiiaa
open Go.RowKit
set_option linter.unusedVariables false

/-- The m cells from a place on. -/
def rowOf (w : World) (b off m : Nat) : List Value := (List.range m).map fun j => (w.cell? ⟨b, off + j, none⟩).getD undef
theorem rowOf_length (w : World) (b off m : Nat) : (rowOf w b off m).length = m := by simp [rowOf]
theorem rowOf_at (w : World) (b off m j : Nat) (u : Value) (hj : j < m) (h : w.cell? ⟨b, off + j, none⟩ = some u) : (rowOf w b off m)[j]? = some u := by
  unfold rowOf
  rw [List.getElem?_map, List.getElem?_range hj]
  simp [h]
theorem rowOf_news {w W : World} {b off m : Nat} (hc : ∀ j, j < m → ∃ u, w.cell? ⟨b, off + j, none⟩ = some u ∧ u.oneCell' = true) (hW : ∀ j, j < m → W.cell? ⟨b, off + j, none⟩ = w.cell? ⟨b, off + j, none⟩) :
    (∀ j u, (rowOf w b off m)[j]? = some u → W.cell? ((⟨b, off, none⟩ : Addr).add j) = some u) ∧ ∀ u ∈ rowOf w b off m, u.oneCell' = true := by
  constructor
  · intro j u hu
    have hj : j < m := by have := (List.getElem?_eq_some_iff.1 hu).1; rwa [rowOf_length] at this
    obtain ⟨u', h1, _⟩ := hc j hj
    rw [rowOf_at w b off m j u' hj h1] at hu
    rw [Addr.add_lit, hW j hj, h1, hu]
  · intro u hu
    unfold rowOf at hu
    obtain ⟨j, hj, rfl⟩ := List.mem_map.1 hu
    obtain ⟨u', h1, h2⟩ := hc j (List.mem_range.1 hj)
    rw [h1]
    exact h2

/-- A row of the call's own, as a block. -/
theorem own_blk {w : World} {base : Nat} {e : TypeId} {size g n cap : Nat} {xs : List Value} (h : w.ownsRow base e size (.slice (some ⟨g, 0, none⟩) n cap) n xs) :
    ∃ cur, Blk w g e cur ∧ base ≤ g ∧ n ≤ cap ∧ cap ≤ maxLen ∧ ∀ j, j < n * size → cur[j]? = xs[j]? := by
  obtain ⟨h1, h2⟩ := h
  rcases h2 with ⟨h0, _⟩ | ⟨g', cap', cur, hv, hb, hg, hn, hc, hs, ht⟩
  · cases h0
  · simp only [Value.slice.injEq, Option.some.injEq, Addr.mk.injEq, and_true, true_and] at hv
    obtain ⟨rfl, rfl⟩ := hv
    refine ⟨cur, hg, hb, hn, hc, fun j hj => ?_⟩
    rw [← ht, List.getElem?_take, if_pos hj]
    simp

theorem ArgsAt.cells {w : World} {B : Nat} {l : List Ex} {b off cap : Nat} (h : ArgsAt w B l (.slice (some ⟨b, off, none⟩) l.length cap)) : ∀ j, j < l.length * 3 → ∃ u, w.cell? ⟨b, off + j, none⟩ = some u ∧ u.oneCell' = true := by
  intro j hj
  obtain ⟨b', off', cap', sv, e, hb, c0, c1, c2, hs⟩ := h.at_ (j / 3) (by omega)
  simp only [Value.slice.injEq, Option.some.injEq, Addr.mk.injEq, and_true, true_and] at e
  obtain ⟨⟨rfl, rfl⟩, rfl⟩ := e
  obtain ⟨a2, cap2, rfl, _, _⟩ := hs.slice
  have hm : j % 3 = 0 ∨ j % 3 = 1 ∨ j % 3 = 2 := by omega
  rcases hm with hm | hm | hm
  · rw [show off + j = off + j / 3 * 3 by omega]
    exact ⟨_, c0, rfl⟩
  · rw [show off + j = off + j / 3 * 3 + 1 by omega]
    exact ⟨_, c1, rfl⟩
  · rw [show off + j = off + j / 3 * 3 + 2 by omega]
    exact ⟨_, c2, rfl⟩

theorem set3_at (cur : Array Value) (q : Nat) (a b c : Value) (h : q + 2 < cur.size) (j : Nat) : (((cur.setIfInBounds q a).setIfInBounds (q + 1) b).setIfInBounds (q + 2) c)[j]? = if j = q then some a else if j = q + 1 then some b else if j = q + 2 then some c else cur[j]? := by
  simp only [Array.getElem?_setIfInBounds, Array.size_setIfInBounds]
  by_cases h1 : j = q
  · subst h1
    rw [if_neg (by omega), if_neg (by omega), if_pos rfl, if_pos rfl, if_pos (by omega)]
  · by_cases h2 : j = q + 1
    · subst h2
      rw [if_neg (by omega), if_pos rfl, if_neg h1, if_pos rfl, if_pos (by omega)]
    · by_cases h3 : j = q + 2
      · subst h3
        rw [if_pos rfl, if_neg h1, if_neg h2, if_pos rfl, if_pos (by omega)]
      · rw [if_neg (by omega), if_neg (by omega), if_neg (by omega), if_neg h1, if_neg h2, if_neg h3]
/-- An empty row of the call's own. -/
theorem own_empty (w : World) (base k : Nat) (hk : k = w.heap.size) (hb : base ≤ k) (e : TypeId) (size : Nat) : (w.alloc (.cells #[] e)).ownsRow base e size (.slice (some ⟨k, 0, none⟩) 0 0) 0 [] := by
  subst hk
  exact ⟨by simp, .inr ⟨w.heap.size, 0, #[], rfl, hb, heap_alloc_new w _, Nat.le_refl _, Nat.zero_le _, by simp, by simp⟩⟩
theorem row_cur {wc w4 : World} {b off n g cap base : Nat} {e : TypeId} (h : w4.ownsRow base e 3 (.slice (some ⟨g, 0, none⟩) (0 + n) cap) (0 + n) ([] ++ rowOf wc b off (n * 3)))
    (hc : ∀ j, j < n * 3 → ∃ u, wc.cell? ⟨b, off + j, none⟩ = some u ∧ u.oneCell' = true) :
    ∃ cur, Blk w4 g e cur ∧ base ≤ g ∧ n ≤ cap ∧ cap ≤ maxLen ∧ ∀ j, j < n * 3 → cur[j]? = wc.cell? ⟨b, off + j, none⟩ := by
  obtain ⟨cur, h1, h2, h3, h4, h5⟩ := own_blk h
  refine ⟨cur, h1, h2, by omega, h4, fun j hj => ?_⟩
  obtain ⟨u, hu, _⟩ := hc j hj
  rw [h5 j (by omega), List.nil_append, rowOf_at wc b off _ j u hj hu, hu]

/-- One of them is another one. -/
theorem ArgsAt.put {w0 w5 : World} {B C : Nat} {l : List Ex} {b off cap : Nat} (h : ArgsAt w0 B l (.slice (some ⟨b, off, none⟩) l.length cap)) (hb : Below B w0 w5) (hBC : B ≤ C) (i : Nat) (hi : i < l.length)
    (y : Ex) (sy : Value) (hy : ArgsAt w5 C y.args sy) {g capg : Nat} {t : TypeId} {cur : Array Value} (hg : Blk w5 g t cur) (hgC : g < C) (hcapg : l.length ≤ capg) (hmg : capg ≤ maxLen)
    (hcur : ∀ j, j < l.length * 3 → cur[j]? = if j = i * 3 then some (.int .u8 y.op) else if j = i * 3 + 1 then some (.int .i64 y.n) else if j = i * 3 + 2 then some sy else w0.cell? ⟨b, off + j, none⟩) :
    ArgsAt w5 C (l.set i y) (.slice (some ⟨g, 0, none⟩) l.length capg) := by
  have hsv : ∃ sv : Nat → Value, (∀ j (h : j < l.length), w0.cell? ⟨b, off + j * 3, none⟩ = some (.int .u8 (l[j]'h).op)) ∧ (∀ j (h : j < l.length), w0.cell? ⟨b, off + j * 3 + 1, none⟩ = some (.int .i64 (l[j]'h).n)) ∧
      (∀ j (h : j < l.length), w0.cell? ⟨b, off + j * 3 + 2, none⟩ = some (sv j)) ∧ ∀ j (h : j < l.length), ArgsAt w0 B (l[j]'h).args (sv j) := by
    cases h with
    | nil a cap hm => simp at hi
    | cons _ _ _ _ sv hl hb hcap hm h0 h1 h2 hs => exact ⟨sv, h0, h1, h2, hs⟩
  obtain ⟨sv, h0, h1, h2, hs⟩ := hsv
  have hlen : (l.set i y).length = l.length := by simp
  have key : ArgsAt w5 C (l.set i y) (.slice (some ⟨g, 0, none⟩) (l.set i y).length capg) := by
    refine .cons (l.set i y) g 0 capg (fun j => if j = i then sy else sv j) (by omega) hgC (by omega) hmg ?_ ?_ ?_ ?_
    · intro j hj
      have hj' : j < l.length := by omega
      rw [Nat.zero_add, hg.cell, hcur _ (by omega)]
      by_cases hji : j = i
      · subst hji
        rw [if_pos rfl, List.getElem_set_self]
      · rw [if_neg (by omega), if_neg (by omega), if_neg (by omega), h0 j hj', List.getElem_set_ne (by omega)]
    · intro j hj
      have hj' : j < l.length := by omega
      rw [Nat.zero_add, hg.cell, hcur _ (by omega)]
      by_cases hji : j = i
      · subst hji
        rw [if_neg (by omega), if_pos rfl, List.getElem_set_self]
      · rw [if_neg (by omega), if_neg (by omega), if_neg (by omega), ← Nat.add_assoc, h1 j hj', List.getElem_set_ne (by omega)]
    · intro j hj
      have hj' : j < l.length := by omega
      rw [Nat.zero_add, hg.cell, hcur _ (by omega)]
      by_cases hji : j = i
      · subst hji
        rw [if_neg (by omega), if_neg (by omega), if_pos rfl, if_pos rfl]
      · rw [if_neg (by omega), if_neg (by omega), if_neg (by omega), if_neg hji, ← Nat.add_assoc, h2 j hj']
    · intro j hj
      have hj' : j < l.length := by omega
      by_cases hji : j = i
      · subst hji
        rw [if_pos rfl, List.getElem_set_self]
        exact hy
      · rw [if_neg hji, List.getElem_set_ne (by omega)]
        exact ((hs j hj').keep hb).mono hBC
  rwa [hlen] at key

/-- A store into another block. -/
theorem KB.other {w0 w : World} {L : List (Nat × TypeId × Array Value)} (h : KB w0 w L) {p : Addr} (hb : w0.heap.size ≤ p.block) (hne : ∀ x ∈ L, x.1 ≠ p.block) (u : Value) : KB w0 (w.setCell p u) L :=
  ⟨h.below.setCell hb u, fun x hx => (h.blk x hx).other (hne x hx) u⟩
theorem KB.grown {w0 w w' : World} {L : List (Nat × TypeId × Array Value)} {row : Option Nat} (h : KB w0 w L) (hg : w.grownBy w' row) (h1 : ∀ k, row = some k → w0.heap.size ≤ k) (h2 : ∀ x ∈ L, some x.1 ≠ row) : KB w0 w' L :=
  ⟨h.below.grown hg h.below.size h1, fun x hx => (h.blk x hx).grown hg (h2 x hx)⟩

end Go.Proofs.Ytfieoehchghiiaa
