/-
  Walk: kind.Is.
-/
import Derived.Test.YtfieoehchghiiaaK8
namespace Go.Proofs.Ytfieoehchghiiaa
open Go.RowKit
set_option linter.unusedVariables false

def Ex.isB (x : Ex) (acc : Bool) (ty : Int) : Bool := decide ((x.typ acc).2 = 0 ∧ (x.typ acc).1 = ty)

set_option maxHeartbeats 1000000 in
theorem Is_c (x : Ex) (acc : Bool) (ty : Int) (v : Value) (B : Nat) (w : World) (hv : ExAt w B v x) (hB : B ≤ w.heap.size) :
    Calls Try.prog 76 #[v, .bool acc, .int .u8 ty] w fun e w' => e = .returned (.bool (x.isB acc ty)) ∧ Below w.heap.size w w' := by
  obtain ⟨sv, rfl, hs⟩ := hv
  obtain ⟨a, cap, rfl, hcap, hmx⟩ := hs.slice
  have HX : Hid (ExAt (w.alloc (.cells #[.int .u8 x.op, .int .i64 x.n, .slice a x.args.length cap] 35)) (w.alloc (.cells #[.int .u8 x.op, .int .i64 x.n, .slice a x.args.length cap] 35)).heap.size (.agg #[.int .u8 x.op, .int .i64 x.n, .slice a x.args.length cap]) x) :=
    ⟨_, rfl, ((hs.mono hB).keep ((Below.refl _ _).alloc (Nat.le_refl _) _)).mono (by simp)⟩
  clear hs hmx hcap
  cases h2 : ((x.typ acc).2 == 0)
  · have HE : Hid (x.isB acc ty = false) := by simp [Hid, Ex.isB]; intro h; rw [h] at h2; simp at h2
    have H2 := Lib.hid h2
    clear h2
    go_enter Try.func76, Try.ntmps76
    go_wp2_with (go_at_call 67; refine (Of_c x acc _ _ _ HX.out (Nat.le_refl _)).mono ?_; rintro e w1 ⟨rfl, hb1⟩; have h2 := H2.out)
    go_ret
    exact ⟨ret_bool HE.out.symm, ((Below.refl _ _).alloc (Nat.le_refl _) _).trans (hb1.mono (by simp))⟩
  · have H2 := Lib.hid h2
    have h2' : (x.typ acc).2 = 0 := by simpa using h2
    clear h2
    cases h3 : ((x.typ acc).1 == ty)
    all_goals
      have HE : Hid (x.isB acc ty = ((x.typ acc).1 == ty)) := by simp only [Hid, Ex.isB, h2', true_and]; rfl
      have H3 := Lib.hid h3
    all_goals
      clear h2' h3
      go_enter Try.func76, Try.ntmps76
      go_wp2_with (go_at_call 67; refine (Of_c x acc _ _ _ HX.out (Nat.le_refl _)).mono ?_; rintro e w1 ⟨rfl, hb1⟩; have h2 := H2.out; have h3 := H3.out)
      go_ret
      exact ⟨ret_bool (by rw [HE.out, H3.out]), ((Below.refl _ _).alloc (Nat.le_refl _) _).trans (hb1.mono (by simp))⟩

end Go.Proofs.Ytfieoehchghiiaa
