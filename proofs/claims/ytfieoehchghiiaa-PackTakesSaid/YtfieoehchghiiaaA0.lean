/-
  Expressions out of a reading.
-/
import Derived.Test.YtfieoehchghiiaaChecked
import Derived.Test.YtfieoehchghiiaaE0
import Derived.ProofKit
import Derived.Lib.SmallJoins
namespace Go.Proofs.Ytfieoehchghiiaa
open Go.RowKit Go.ChangeShapes Go.WideShapes
set_option linter.unusedVariables false

theorem cellsExpr : Try.prog.cellsOf 35 = 3 := by kernel_rfl

theorem Exs.ok_of : ∀ (l : List Ex), (∀ j (h : j < l.length), (l[j]'h).ok) → Exs.ok l
  | [], _ => trivial
  | x :: l, h => ⟨h 0 (by simp), Exs.ok_of l (fun j hj => h (j + 1) (by simpa using hj))⟩

section
variable {H : Type} {enc : TypeId × Value → H} {w : World}

theorem add_spot {w : World} {a : Addr} {v : Value} (h : w.cell? a = some v) : a = ⟨a.block, a.off, none⟩ := by
  obtain ⟨b, o, s⟩ := a
  cases s with
  | none => rfl
  | some q =>
    unfold World.cell? at h
    split at h <;> simp at h

set_option maxRecDepth 100000 in
theorem open_exs (fuel : Nat) : ∀ (sv : Value) (x : DataW H × List MemPlace), DataW.trod enc Try.prog w 0 (fun _ => true) true fuel 33 [sv] = some x →
    ∃ l : List Ex, ArgsAt w w.heap.size l sv ∧ Exs.ok l := by
  induction fuel using Nat.strongRecOn with
  | ind fuel ih =>
    intro sv x h
    rcases DataW.trod_slice Try.underlying33 h with ⟨h0, _⟩ | ⟨a, len, cap, elems, rest, n, hf, hcs, hx, hb, hl, hm, hlen, hel, _, _⟩
    · simp only [List.cons.injEq, and_true] at h0
      subst h0
      exact ⟨[], .nil none 0 (Nat.zero_le _), trivial⟩
    · simp only [List.cons.injEq, and_true] at hcs
      subst hcs
      rw [cellsExpr] at hel
      have hex : ∀ i, i < len → ∃ (y : Ex) (sv : Value), w.cell? (a.add (i * 3)) = some (.int .u8 y.op) ∧ w.cell? (a.add (i * 3 + 1)) = some (.int .i64 y.n) ∧ w.cell? (a.add (i * 3 + 2)) = some sv ∧ ArgsAt w w.heap.size y.args sv ∧ y.ok := by
        intro i hi
        have hi2 : i < elems.length := by omega
        have h1 := hel i hi
        rw [List.getElem?_eq_getElem hi2] at h1
        obtain ⟨cs, h2, h3⟩ := Option.bind_eq_some_iff.1 h1
        obtain ⟨_, hcl, hcell⟩ := World.cells?_some h2
        obtain ⟨xs, m, hm2, _, _, _, hfs⟩ := DataW.trod_struct Try.underlying35 h3
        match cs, hcl with
        | [c0, c1, c2], _ =>
          have q0 := hfs 0 _ rfl
          have q1 := hfs 1 _ rfl
          have q2 := hfs 2 _ rfl
          have hxl : xs.length = 3 := by assumption
          obtain ⟨y0, y1, y2, rfl⟩ : ∃ y0 y1 y2, xs = [y0, y1, y2] := by
            match xs, hxl with
            | [y0, y1, y2], _ => exact ⟨y0, y1, y2, rfl⟩
          have e0 : DataW.trod enc Try.prog w 0 (fun _ => true) true m 5 [c0] = some y0 := q0
          have e1 : DataW.trod enc Try.prog w 0 (fun _ => true) true m 2 [c1] = some y1 := q1
          have e2 : DataW.trod enc Try.prog w 0 (fun _ => true) true m 33 [c2] = some y2 := q2
          obtain ⟨o, ho, _, hwo⟩ := DataW.trod_int Try.underlying5 e0
          obtain ⟨k, hk, _, hwk⟩ := DataW.trod_int Try.underlying2 e1
          simp only [List.cons.injEq, and_true] at ho hk
          subst ho
          subst hk
          obtain ⟨l, hl1, hl2⟩ := ih m (by omega) c2 y2 e2
          have g0 := hcell 0 (by omega)
          have g1 := hcell 1 (by omega)
          have g2 := hcell 2 (by omega)
          rw [Go.Deep.add_add] at g0 g1 g2
          simp only [Lit.wf, IntKind.min, IntKind.max, IntKind.signed, IntKind.bits, Bool.and_eq_true, decide_eq_true_eq] at hwo hwk
          refine ⟨.mk o k l, c2, by simpa [Ex.op] using g0, by simpa [Ex.n] using g1, by simpa using g2, hl1, ?_⟩
          simp only [Ex.ok]
          refine ⟨?_, ?_, ?_, ?_, hl2⟩
          · have := hwo.1; simp at this; omega
          · have := hwo.2; simp at this; omega
          · have := hwk.1; simp at this; omega
          · have := hwk.2; simp at this; omega
      by_cases h0 : len = 0
      · subst h0
        exact ⟨[], .nil _ _ hm, trivial⟩
      · obtain ⟨Y, hY⟩ := @Go.Deep.choose_lt Ex ⟨.mk 0 0 []⟩ len _ hex
        obtain ⟨V, hV⟩ := Go.Deep.choose_lt hY
        obtain ⟨b, off, rfl⟩ : ∃ b off, a = ⟨b, off, none⟩ := ⟨_, _, add_spot (by have := (hV 0 (by omega)).1; simpa [Addr.add] using this)⟩
        have hlt : b < w.heap.size := World.block_lt_of_cell? _ _ (by have := (hV 0 (by omega)).1; simpa [Addr.add] using this : w.cell? ⟨b, off, none⟩ = some _)
        have hadd : ∀ k, (⟨b, off, none⟩ : Addr).add k = ⟨b, off + k, none⟩ := by
          intro k; unfold Addr.add; split
          · rename_i h; rw [h]; rfl
          · rfl
        have hg : ∀ j (h : j < ((List.range len).map Y).length), ((List.range len).map Y)[j]'h = Y j := by intro j h; simp
        have hA := ArgsAt.cons (w := w) (B := w.heap.size) ((List.range len).map Y) b off cap V (by simp; omega) hlt (by simpa using hl) hm
          (fun j h => by rw [hg]; have := (hV j (by simpa using h)).1; rwa [hadd] at this)
          (fun j h => by rw [hg]; have := (hV j (by simpa using h)).2.1; rwa [hadd, ← Nat.add_assoc] at this)
          (fun j h => by have := (hV j (by simpa using h)).2.2.1; rwa [hadd, ← Nat.add_assoc] at this)
          (fun j h => by rw [hg]; exact (hV j (by simpa using h)).2.2.2.1)
        refine ⟨(List.range len).map Y, ?_, Exs.ok_of _ (fun j h => by rw [hg]; exact (hV j (by simpa using h)).2.2.2.2)⟩
        simpa using hA

set_option maxRecDepth 100000 in
/-- An expression that is handed in by value. -/
theorem open_ex {r : Reach} {b0 : Nat} {v : Value} {d : DataW H} {p : List MemPlace} (hv : Value.okWide Try.prog w r b0 35 v) (h : DataW.Trod enc Try.prog w 0 (fun _ => true) true 35 v d p) :
    ∃ x : Ex, ExAt w w.heap.size v x ∧ x.ok := by
  obtain ⟨c0, c1, c2, y0, y1, y2, m, rfl, _, _, e0, e1, e2⟩ := Go.Joins.open_agg3 Try.underlying35 (by kernel_rfl) cellsExpr hv h
  obtain ⟨o, ho, _, hwo⟩ := DataW.trod_int Try.underlying5 e0
  obtain ⟨k, hk, _, hwk⟩ := DataW.trod_int Try.underlying2 e1
  simp only [List.cons.injEq, and_true] at ho hk
  subst ho
  subst hk
  obtain ⟨l, hl1, hl2⟩ := open_exs m c2 y2 e2
  simp only [Lit.wf, IntKind.min, IntKind.max, IntKind.signed, IntKind.bits, Bool.and_eq_true, decide_eq_true_eq] at hwo hwk
  refine ⟨.mk o k l, ⟨c2, rfl, hl1⟩, ?_⟩
  simp only [Ex.ok]
  refine ⟨?_, ?_, ?_, ?_, hl2⟩
  · have := hwo.1; simp at this; omega
  · have := hwo.2; simp at this; omega
  · have := hwk.1; simp at this; omega
  · have := hwk.2; simp at this; omega

end
end Go.Proofs.Ytfieoehchghiiaa
