/-
  Plain laws on worlds: a frame with a set of blocks that may turn; blocks known whole; slices that read as lists.
-/
import Derived.Test.YtfieoehchghiiaaS0
namespace Go.Proofs.Ytfieoehchghiiaa
open Go.RowKit
set_option linter.unusedVariables false

theorem alloc_old (w : World) (o : Obj) (k : Nat) (h : k < w.heap.size) : (w.alloc o).heap[k]? = w.heap[k]? := Below.heap_alloc w o k h

/-- Of the blocks that are there only those of S may have turned. -/
structure Fr (S : Nat → Prop) (w w' : World) : Prop where
  os : w'.os = w.os
  tape : w'.tape = w.tape
  output : w'.output = w.output
  size : w.heap.size ≤ w'.heap.size
  block : ∀ k, k < w.heap.size → ¬ S k → w'.heap[k]? = w.heap[k]?

namespace Fr
variable {S : Nat → Prop} {a b c w : World}
theorem refl (S : Nat → Prop) (w : World) : Fr S w w := ⟨rfl, rfl, rfl, Nat.le_refl _, fun _ _ _ => rfl⟩
theorem trans (h : Fr S a b) (k : Fr S b c) : Fr S a c :=
  ⟨k.os.trans h.os, k.tape.trans h.tape, k.output.trans h.output, Nat.le_trans h.size k.size, fun i hi hs => (k.block i (Nat.lt_of_lt_of_le hi h.size) hs).trans (h.block i hi hs)⟩
theorem mono {T : Nat → Prop} (h : Fr S a b) (hST : ∀ k, k < a.heap.size → S k → T k) : Fr T a b :=
  ⟨h.os, h.tape, h.output, h.size, fun k hk hs => h.block k hk (fun hS => hs (hST k hk hS))⟩
/-- As 'trans', where the second step's set is another one. -/
theorem step {T U : Nat → Prop} (h : Fr S a b) (k : Fr T b c) (h1 : ∀ i, i < a.heap.size → S i → U i) (h2 : ∀ i, i < a.heap.size → T i → U i) : Fr U a c :=
  ⟨k.os.trans h.os, k.tape.trans h.tape, k.output.trans h.output, Nat.le_trans h.size k.size,
    fun i hi hs => (k.block i (Nat.lt_of_lt_of_le hi h.size) (fun hT => hs (h2 i hi hT))).trans (h.block i hi (fun hS => hs (h1 i hi hS)))⟩
theorem drew (h : Fr S a w) : Fr S a w.drew := ⟨h.os, h.tape, h.output, h.size, h.block⟩
theorem drewN (h : Fr S a w) (n : Nat) : Fr S a (w.drewN n) := ⟨h.os, h.tape, h.output, h.size, h.block⟩
theorem alloc (h : Fr S a w) (o : Obj) : Fr S a (w.alloc o) :=
  h.trans ⟨rfl, rfl, rfl, by simp, fun k hk _ => alloc_old w o k hk⟩
theorem setCell (h : Fr S a w) {p : Addr} (hp : S p.block ∨ a.heap.size ≤ p.block) (u : Value) : Fr S a (w.setCell p u) :=
  ⟨h.os, h.tape, h.output, by simpa [World.setCell] using h.size, fun k hk hs =>
    (heap_setCell_other w p k u (fun e => by subst e; rcases hp with hp | hp; exact hs hp; omega)).trans (h.block k hk hs)⟩
theorem grown {row : Option Nat} (h : Fr S a w) (hg : w.grownBy b row) (hr : ∀ k, row = some k → S k ∨ a.heap.size ≤ k) : Fr S a b :=
  ⟨hg.os.trans h.os, hg.tape.trans h.tape, hg.output.trans h.output, Nat.le_trans h.size hg.size, fun k hk hs =>
    (hg.block k (Nat.lt_of_lt_of_le hk h.size) (fun e => by rcases hr k e.symm with h1 | h1; exact hs h1; omega)).trans (h.block k hk hs)⟩
theorem of_below {B : Nat} (h : Below B a b) : Fr (fun k => B ≤ k) a b :=
  ⟨h.os, h.tape, h.output, h.size, fun k _ hs => h.block k (by omega)⟩
/-- What turns no block that was there is a frame of whatever set. -/
theorem of_new (h : Below a.heap.size a b) : Fr S a b :=
  ⟨h.os, h.tape, h.output, h.size, fun k hk _ => h.block k hk⟩
theorem below {B : Nat} (h : Fr S a b) (hB : B ≤ a.heap.size) (hS : ∀ k, k < B → ¬ S k) : Below B a b :=
  ⟨h.os, h.tape, h.output, h.size, fun k hk => h.block k (by omega) (hS k hk)⟩
theorem iterAt (h : Fr S a w) {k : Nat} (hk : S k ∨ a.heap.size ≤ k) (s : ByteArray) (pos : Nat) : Fr S a (w.iterAt k s pos) :=
  ⟨h.os, h.tape, h.output, by rw [Lib.iterAt_size]; exact h.size, fun i hi hs =>
    (Lib.iterAt_other w k i s pos (fun e => by subst e; rcases hk with hk | hk; exact hs hk; omega)).trans (h.block i hi hs)⟩
theorem iter (h : Fr S a w) (s : ByteArray) (pos : Nat) : Fr S a (w.iter s pos) := h.alloc _
theorem heap_at (h : Fr S a b) {k : Nat} {o : Obj} (hk : a.heap[k]? = some o) (hs : ¬ S k) : b.heap[k]? = some o :=
  (h.block k (Array.getElem?_eq_some_iff.1 hk).1 hs).trans hk
end Fr

theorem heap_new_at (w : World) (o : Obj) {k : Nat} (hk : k = w.heap.size) : (w.alloc o).heap[k]? = some o := by subst hk; exact heap_alloc_new w _

/-- The block b holds these cells. -/
def Blk (w : World) (b : Nat) (t : TypeId) (cs : Array Value) : Prop := w.heap[b]? = some (.cells cs t (0, 0))

namespace Blk
variable {w w' : World} {b : Nat} {t : TypeId} {cs : Array Value}
theorem cell (h : Blk w b t cs) (j : Nat) : w.cell? ⟨b, j, none⟩ = cs[j]? := cell_of_row w b j cs t (0, 0) h
theorem free (h : Blk w b t cs) (j : Nat) : w.frozen? ⟨b, j, none⟩ = false := frozen_of_row w b j cs t h
theorem lt (h : Blk w b t cs) : b < w.heap.size := (Array.getElem?_eq_some_iff.1 h).1
theorem fr {S : Nat → Prop} (h : Blk w b t cs) (hf : Fr S w w') (hs : ¬ S b) : Blk w' b t cs := hf.heap_at h hs
theorem below {B : Nat} (h : Blk w b t cs) (hf : Below B w w') (hb : b < B) : Blk w' b t cs := (hf.block b hb).trans h
theorem set (h : Blk w b t cs) (j : Nat) (u : Value) : Blk (w.setCell ⟨b, j, none⟩ u) b t (cs.setIfInBounds j u) := heap_setCell_same w b j cs t u h
theorem other (h : Blk w b t cs) {p : Addr} (hp : b ≠ p.block) (u : Value) : Blk (w.setCell p u) b t cs := (heap_setCell_other w p b u hp).trans h
theorem alloc (h : Blk w b t cs) (o : Obj) : Blk (w.alloc o) b t cs := (alloc_old w o b h.lt).trans h
theorem drew (h : Blk w b t cs) : Blk w.drew b t cs := h
theorem new (w : World) (cs : Array Value) (t : TypeId) : Blk (w.alloc (.cells cs t)) w.heap.size t cs := heap_alloc_new w _
theorem new_at (w : World) (cs : Array Value) (t : TypeId) {k : Nat} (hk : k = w.heap.size) : Blk (w.alloc (.cells cs t)) k t cs := by subst hk; exact heap_alloc_new w _
theorem iterAt (h : Blk w b t cs) {k : Nat} (hk : b ≠ k) (s : ByteArray) (pos : Nat) : Blk (w.iterAt k s pos) b t cs := (Lib.iterAt_other w k b s pos hk).trans h
theorem grown {row : Option Nat} (h : Blk w b t cs) (hg : w.grownBy w' row) (hr : some b ≠ row) : Blk w' b t cs := (hg.block b h.lt hr).trans h
end Blk

/-- The slice v of n elements, of 'size' cells each, reads as these cells; it lies below B. -/
def Sl (w : World) (B size : Nat) (v : Value) (n : Nat) (cs : List Value) : Prop :=
  cs.length = n * size ∧ ∃ a cap, v = .slice a n cap ∧ n ≤ cap ∧ cap ≤ maxLen ∧ (n = 0 ∨ ∃ b off, a = some ⟨b, off, none⟩ ∧ b < B ∧ ∀ j, j < n * size → w.cell? ⟨b, off + j, none⟩ = cs[j]?)

namespace Sl
variable {w w' : World} {B size n : Nat} {v : Value} {cs : List Value}
theorem nil (w : World) (B size : Nat) : Sl w B size (.slice none 0 0) 0 [] := ⟨by simp, none, 0, rfl, Nat.le_refl _, by unfold maxLen; omega, .inl rfl⟩
theorem mono (h : Sl w B size v n cs) {C : Nat} (hC : B ≤ C) : Sl w C size v n cs := by
  obtain ⟨h1, a, cap, hv, h2, h3, h4⟩ := h
  refine ⟨h1, a, cap, hv, h2, h3, h4.imp id ?_⟩
  rintro ⟨b, off, ha, hb, hc⟩
  exact ⟨b, off, ha, by omega, hc⟩
theorem below (h : Sl w B size v n cs) (hb : Below B w w') : Sl w' B size v n cs := by
  obtain ⟨h1, a, cap, hv, h2, h3, h4⟩ := h
  refine ⟨h1, a, cap, hv, h2, h3, h4.imp id ?_⟩
  rintro ⟨b, off, ha, hlt, hc⟩
  exact ⟨b, off, ha, hlt, fun j hj => (hb.cell (p := ⟨b, off + j, none⟩) hlt).trans (hc j hj)⟩
theorem of_owns {base : Nat} {e : TypeId} (h : w.ownsRow base e size v n cs) : Sl w w.heap.size size v n cs := by
  obtain ⟨h1, h2⟩ := h
  refine ⟨h1, ?_⟩
  rcases h2 with ⟨rfl, rfl⟩ | ⟨g, cap, cur, rfl, hb, hg, hn, hc, hs, ht⟩
  · exact ⟨none, 0, rfl, Nat.le_refl _, by unfold maxLen; omega, .inl rfl⟩
  · refine ⟨_, cap, rfl, hn, hc, .inr ⟨g, 0, rfl, (Array.getElem?_eq_some_iff.1 hg).1, fun j hj => ?_⟩⟩
    rw [Nat.zero_add, cell_of_row w g j cur e (0, 0) hg, ← ht, List.getElem?_take, if_pos hj]
    simp
/-- An element of a row of numbers. -/
theorem int {K : IntKind} {zs : List Int} (h : Sl w B 1 v n (zs.map (Value.int K))) (k : Nat) (hk : k < n) :
    ∃ b off cap, v = .slice (some ⟨b, off, none⟩) n cap ∧ b < B ∧ ∃ hl : k < zs.length, w.cell? ⟨b, off + k, none⟩ = some (.int K (zs[k]'hl)) := by
  obtain ⟨h1, a, cap, hv, h2, h3, h4⟩ := h
  rw [List.length_map, Nat.mul_one] at h1
  rcases h4 with h4 | ⟨b, off, rfl, hb, hc⟩
  · omega
  · refine ⟨b, off, cap, hv, hb, by omega, ?_⟩
    rw [hc k (by omega)]
    simp [show k < zs.length by omega]
end Sl

theorem owns_succ {W : World} {base : Nat} {e : TypeId} {size : Nat} {v : Value} {k : Nat} {xs : List Value} (h : W.ownsRow base e size v (k + 1) xs) : ∃ g cap, v = .slice (some ⟨g, 0, none⟩) (k + 1) cap := by
  rcases h.2 with ⟨_, h0⟩ | ⟨g, cap, _, rfl, _⟩
  · omega
  · exact ⟨g, cap, rfl⟩

end Go.Proofs.Ytfieoehchghiiaa
