/-
  Blocks known whole, as a row; kept as memory is made.
-/
import Derived.Test.YtfieoehchghiiaaL0
namespace Go.Proofs.Ytfieoehchghiiaa
open Go.RowKit
set_option linter.unusedVariables false

structure KB (w0 w : World) (L : List (Nat × TypeId × Array Value)) : Prop where
  below : Below w0.heap.size w0 w
  blk : ∀ x ∈ L, Blk w x.1 x.2.1 x.2.2
namespace KB
variable {w0 w w' : World} {L : List (Nat × TypeId × Array Value)} {b : Nat} {t : TypeId} {cs : Array Value} {x : Nat × TypeId × Array Value}
theorem start (w0 : World) : KB w0 w0 [] := ⟨Below.refl _ _, by simp⟩
theorem keep (h : KB w0 w L) (hb : Below w.heap.size w w') : KB w0 w' L :=
  ⟨h.below.trans (hb.mono h.below.size), fun x hx => (h.blk x hx).below hb (h.blk x hx).lt⟩
theorem push (h : KB w0 w L) (cs : Array Value) (t : TypeId) : KB w0 (w.alloc (.cells cs t)) ((w.heap.size, t, cs) :: L) :=
  ⟨h.below.alloc h.below.size _, fun x hx => by
    rcases List.mem_cons.1 hx with rfl | hx
    · exact Blk.new _ _ _
    · exact (h.blk x hx).alloc _⟩
/-- .. where its number is spelled otherwise. -/
theorem pushN (h : KB w0 w L) (k : Nat) (hk : k = w.heap.size) (cs : Array Value) (t : TypeId) : KB w0 (w.alloc (.cells cs t)) ((k, t, cs) :: L) := by subst hk; exact h.push cs t
theorem grow (h : KB w0 w L) (o : Obj) : KB w0 (w.alloc o) L := ⟨h.below.alloc h.below.size _, fun x hx => (h.blk x hx).alloc _⟩
theorem drew (h : KB w0 w L) : KB w0 w.drew L := ⟨h.below.drew, h.blk⟩
theorem drewN (h : KB w0 w L) (n : Nat) : KB w0 (w.drewN n) L := ⟨below_drewN h.below n, h.blk⟩
theorem hd (h : KB w0 w ((b, t, cs) :: L)) : Blk w b t cs := h.blk (b, t, cs) (by simp)
theorem tl (h : KB w0 w (x :: L)) : KB w0 w L := ⟨h.below, fun y hy => h.blk y (by simp [hy])⟩
theorem add (h : KB w0 w L) (hb : Blk w b t cs) : KB w0 w ((b, t, cs) :: L) := ⟨h.below, fun y hy => by
  rcases List.mem_cons.1 hy with rfl | hy
  · exact hb
  · exact h.blk y hy⟩
/-- A new cell's value, behind the block w0 ends with: the other blocks are other ones. -/
theorem set (h : KB w0 w ((b, t, cs) :: L)) (hb : w0.heap.size ≤ b) (hne : ∀ x ∈ L, x.1 ≠ b) (j : Nat) (u : Value) : KB w0 (w.setCell ⟨b, j, none⟩ u) ((b, t, cs.setIfInBounds j u) :: L) :=
  ⟨h.below.setCell (p := ⟨b, j, none⟩) hb u, fun x hx => by
    rcases List.mem_cons.1 hx with rfl | hx
    · exact h.hd.set j u
    · exact (h.blk x (by simp [hx])).other (p := ⟨b, j, none⟩) (hne x hx) u⟩
end KB

end Go.Proofs.Ytfieoehchghiiaa
