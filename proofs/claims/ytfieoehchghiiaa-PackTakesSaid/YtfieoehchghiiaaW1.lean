/-
  Walks of the small functions of 'names'.
-/
import Derived.Test.YtfieoehchghiiaaChecked
import Derived.Test.YtfieoehchghiiaaS0
namespace Go.Proofs.Ytfieoehchghiiaa
open Go.RowKit
set_option linter.unusedVariables false

set_option maxHeartbeats 400000 in
theorem letter_c (r : Int) (w : World) :
    Calls Try.prog 36 #[.int .i32 r] w fun e w' => e = .returned (.bool (letterB r)) ∧ w = w' := by
  go_enter Try.func36, Try.ntmps36
  go_wp2
  all_goals
    go_ret
    exact ⟨ret_bool (by unfold letterB; rw [Bool.eq_iff_iff]; simp; omega), rfl⟩

set_option maxHeartbeats 400000 in
theorem later_c (r : Int) (w : World) :
    Calls Try.prog 37 #[.int .i32 r] w fun e w' => e = .returned (.bool (laterB r)) ∧ w = w' := by
  cases hb : letterB r
  all_goals
    have HB := Lib.hid hb
    clear hb
    go_enter Try.func37, Try.ntmps37
    go_wp2_with (go_at_call 36; refine (letter_c _ _).mono ?_; rintro e w' ⟨rfl, rfl⟩; rw [HB.out])
    all_goals
      go_ret
      exact ⟨ret_bool (by unfold laterB; rw [HB.out, Bool.eq_iff_iff]; simp; try omega), rfl⟩

set_option maxHeartbeats 400000 in
theorem Name_c (s : ByteArray) (w : World) (hs : s.size ≤ maxLen) :
    Calls Try.prog 14 #[.string s] w fun e w' => e = .returned (.bool (nameB s)) ∧ ∃ pos, w' = w.iter s pos := by
  unfold maxLen at hs
  have h0 : (runesAt s 0).length ≤ s.size := by have := runesAt_length s 0; omega
  go_enter Try.func14, Try.ntmps14
  go_wp2
  go_loopw [3] (fun n wr => ∃ (pos k : Nat), wr = w.iter s pos ∧ n = .int .i64 k ∧ k + (runesAt s pos).length ≤ s.size ∧ nameGo k (runesAt s pos) = nameB s) (fun _ wr => s.size - wr.iterPos w.heap.size)
  case atStart => exact ⟨0, 0, rfl, rfl, by omega, rfl⟩
  case round =>
    obtain ⟨pos, k, rfl, rfl, hk, hg⟩ := hrel
    by_cases hp : pos < s.size
    · have hnx : ∀ ty, (Instr.next (.pointer (some ⟨w.heap.size, 0, none⟩)) true ty).run Try.prog (w.iter s pos) = _ := fun ty => run_next_any w s pos ty hp
      have hwd := Lib.decode_width_pos s pos hp
      rw [runesAt_step s pos hp] at hg hk
      simp only [nameGo] at hg
      simp only [List.length_cons] at hk
      have HG := Lib.hid hg
      clear hg
      go_wp2_with (first | (go_at_call 36; refine (letter_c _ _).mono ?_; rintro e w' ⟨rfl, rfl⟩) | (go_at_call 37; refine (later_c _ _).mono ?_; rintro e w' ⟨rfl, rfl⟩))
      all_goals first
        | (go_ret; exact ⟨ret_bool (by rw [← HG.out, if_pos (by simp_all)]), _, rfl⟩)
        | (go_roundw
           case rel => exact ⟨_, k + 1, rfl, by first | go_num | simp_all, by omega, by rw [← HG.out, if_neg (by simp_all)]⟩
           case measure => simp; omega)
    · have hnx : ∀ ty, (Instr.next (.pointer (some ⟨w.heap.size, 0, none⟩)) true ty).run Try.prog (w.iter s pos) = _ := fun ty => run_next_end w s pos ty hp
      rw [runesAt_end s pos hp] at hg
      simp only [nameGo] at hg
      have HG := Lib.hid hg
      clear hg
      go_wp2
      all_goals (go_ret; exact ⟨ret_bool (by rw [← HG.out, Bool.eq_iff_iff]; simp; omega), _, rfl⟩)

end Go.Proofs.Ytfieoehchghiiaa
