/-
  The walk of works (for the seat that has LexBlanks, LexNumbers).
-/
import Derived.Test.YtdjeaklekhjbcaaDoorW6
namespace Go.Proofs.YtdjeaklekhjbcaaDoor
open Go.RowKit
set_option linter.unusedVariables false

def workToks : List Tok := [⟨1, { data := #[107, 101, 121] }, 0, 0⟩, ⟨3, { data := #[43] }, 0, 3⟩, ⟨2, { data := #[] }, 12, 4⟩, ⟨3, { data := #[60, 61] }, 0, 7⟩, ⟨1, { data := #[195, 188] }, 0, 10⟩]
theorem works_toks : toks { data := #[107, 101, 121, 43, 49, 50, 32, 60, 61, 32, 195, 188] } = (workToks, 0, 0) := by kernel_rfl
theorem toksEq_self (l : List Tok) : toksEq l l = true := (toksEq_iff l l).2 rfl

/-- A slice that is written out. -/
theorem Sl.lit (w : World) (t : TypeId) (cs : Array Value) (n size : Nat) (hn : cs.size = n * size) (hm : n ≤ maxLen) :
    Sl (w.alloc (.cells cs t)) (w.alloc (.cells cs t)).heap.size size (.slice (some ⟨w.heap.size, 0, none⟩) n n) n cs.toList := by
  refine ⟨by simpa using hn, some ⟨w.heap.size, 0, none⟩, n, rfl, Nat.le_refl _, hm, .inr ⟨w.heap.size, 0, rfl, by simp, fun j hj => ?_⟩⟩
  rw [Nat.zero_add, (Blk.new w cs t).cell j]
  simp

set_option maxHeartbeats 400000 in
theorem works_c (w : World) : Calls Tryd.prog 6 #[] w fun e w' => e = .returned (.bool true) ∧ Below w.heap.size w w' := by
  go_enter Tryd.func6, Tryd.ntmps6
  go_wp2_with fail
  refine (Tokens_c _ _).mono ?_
  rintro e w1 ⟨v, rfl, hs, hb⟩
  rw [works_toks] at hs ⊢
  have HS := Lib.hid hs
  clear hs
  go_wp2_with fail
  refine (EqualTok_c _ _ _ workToks workToks _ ((HS.out.below (Below.alloc (Below.refl _ _) (Nat.le_refl _) _)).mono (by simp)) (Sl.lit w1 29 _ 5 4 rfl (by decide))).mono ?_
  rintro e w2 ⟨rfl, n, rfl⟩
  rw [toksEq_self]
  go_wp2_with fail
  go_ret
  exact ⟨rfl, below_drewN (hb.alloc hb.size _) _⟩

end Go.Proofs.YtdjeaklekhjbcaaDoor
