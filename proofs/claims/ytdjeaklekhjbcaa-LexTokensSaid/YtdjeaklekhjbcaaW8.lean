/-
  The walk of LexTokens.
-/
import Derived.Test.YtdjeaklekhjbcaaW7
import Derived.Test.YtdjeaklekhjbcaaR3
namespace Go.Proofs.Ytdjeaklekhjbcaa
open Go.RowKit
set_option linter.unusedVariables false

set_option maxHeartbeats 400000 in
theorem LexTokens_c (s : ByteArray) (hs : s.size ≤ 140737488351232) (w : World) : Calls Try.prog 4 #[.string s] w fun e w' => e = .returned (.bool true) ∧ Below w.heap.size w w' := by
  by_cases h5 : 5000 < s.size
  · have h1 : (5000 : Int) < (s.size : Int) := by omega
    go_enter Try.func4, Try.ntmps4
    go_wp2_with (go_at_call 7; refine (works_c _).mono ?_; rintro e w4 ⟨rfl, hb4⟩)
    go_ret
    exact ⟨rfl, hb4⟩
  · have h1 : ¬ (5000 : Int) < (s.size : Int) := by omega
    go_enter Try.func4, Try.ntmps4
    go_wp2_with fail
    refine (Tokens_c _ _).mono ?_
    rintro e w1 ⟨v1, rfl, hs1, hb1⟩
    have HS1 := Lib.hid hs1
    clear hs1
    go_wp2_with fail
    refine (rTokens_c _ _).mono ?_
    rintro e w2 ⟨v2, rfl, hs2, hb2⟩
    have HS2 := Lib.hid hs2
    clear hs2
    generalize toks s = T at *
    go_wp2_with fail
    refine (EqualTok_c _ _ w2.heap.size T.1 T.1 _ ((HS1.out.below hb2).mono hb2.size) HS2.out).mono ?_
    rintro e w3 ⟨rfl, n, rfl⟩
    rw [toksEq_self]
    go_wp2_with (go_at_call 7; refine (works_c _).mono ?_; rintro e w4 ⟨rfl, hb4⟩)
    go_ret
    exact ⟨rfl, hb1.trans ((hb2.mono hb1.size).trans ((below_drewN (Below.refl _ _) n).trans (hb4.mono (Nat.le_trans hb1.size hb2.size))))⟩

end Go.Proofs.Ytdjeaklekhjbcaa
