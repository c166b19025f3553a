/-
  Walks: lex.number, lex.goes.
-/
import Derived.Test.YtfieoehchghiiaaW2
namespace Go.Proofs.Ytfieoehchghiiaa
open Go.RowKit
set_option linter.unusedVariables false

def numRes (o : Option Int) : Ending := .returned (.tuple #[.int .i64 (o.getD 0), .bool o.isSome])

set_option maxHeartbeats 400000 in
theorem number_c (s : ByteArray) (w : World) (hs : ∀ r ∈ runes s, 48 ≤ r ∧ r ≤ 57) :
    Calls Try.prog 120 #[.string s] w fun e w' => e = numRes (numGo 0 (runes s)) ∧ Below w.heap.size w w' := by
  go_enter Try.func120, Try.ntmps120
  go_wp2
  go_loopw [4] (fun n wr => ∃ (pos : Nat) (k : Int), wr = w.iter s pos ∧ n = .int .i64 k ∧ 0 ≤ k ∧ k ≤ 9223372036854775807 ∧ (∀ r ∈ runesAt s pos, 48 ≤ r ∧ r ≤ 57) ∧ numGo k (runesAt s pos) = numGo 0 (runes s)) (fun _ wr => s.size - wr.iterPos w.heap.size)
  case atStart => exact ⟨0, 0, rfl, rfl, by omega, by omega, hs, rfl⟩
  case round =>
    obtain ⟨pos, k, rfl, rfl, hk0, hk1, hd, hg⟩ := hrel
    by_cases hp : pos < s.size
    · have hnx : ∀ ty, (Instr.next (.pointer (some ⟨w.heap.size, 0, none⟩)) true ty).run Try.prog (w.iter s pos) = _ := fun ty => run_next_any w s pos ty hp
      have hwd := Lib.decode_width_pos s pos hp
      rw [runesAt_step s pos hp] at hg hd
      simp only [numGo] at hg
      have hr := hd _ List.mem_cons_self
      have HD := Lib.hid (fun r (h : r ∈ runesAt s (pos + (Utf8.decode s pos).2)) => hd r (List.mem_cons_of_mem _ h))
      generalize hR : ((Utf8.decode s pos).1 : Int) = R at *
      have HG := Lib.hid hg
      clear hg hd hs
      obtain ⟨hr1, hr2⟩ := hr
      have hi := IntWalk.i64_in (10 * k + (R - 48))
      go_wp2
      · go_ret2
        exact ⟨by rw [← HG.out, if_pos (by assumption)]; rfl, below_iter (Below.refl _ _) (Nat.le_refl _) _ _⟩
      · have hle : k ≤ (9223372036854775807 - (R - 48)) / 10 := by assumption
        go_roundw
        case rel => exact ⟨_, _, rfl, rfl, by omega, by omega, HD.out, by rw [← HG.out, if_neg (by omega)]⟩
        case measure => simp; omega
    · have hnx : ∀ ty, (Instr.next (.pointer (some ⟨w.heap.size, 0, none⟩)) true ty).run Try.prog (w.iter s pos) = _ := fun ty => run_next_end w s pos ty hp
      rw [runesAt_end s pos hp] at hg
      simp only [numGo] at hg
      have HG := Lib.hid hg
      clear hg
      go_wp2
      go_ret2
      exact ⟨by rw [← HG.out]; rfl, below_iter (Below.refl _ _) (Nat.le_refl _) _ _⟩

set_option maxHeartbeats 400000 in
theorem goes_c (k : Int) (tx : ByteArray) (n a r : Int) (w : World) :
    Calls Try.prog 121 #[.agg #[.int .u8 k, .string tx, .int .i64 n, .int .i64 a], .int .i32 r] w fun e w' => e = .returned (.bool (goesB k tx r)) ∧ Below w.heap.size w w' := by
  by_cases h3 : k = 3
  · subst h3
    go_enter Try.func121, Try.ntmps121
    go_wp2
    all_goals
      go_ret
      exact ⟨ret_bool (by unfold goesB; rw [if_pos rfl, Bool.eq_iff_iff]; simp [*]), (Below.refl _ _).alloc (Nat.le_refl _) _⟩
  · have h3' : (k == 3) = false := by simpa using h3
    have H3 := Lib.hid h3
    clear h3
    by_cases h0 : k = 0
    · subst h0
      go_enter Try.func121, Try.ntmps121
      go_wp2
      go_quiet (fail)
      go_wp2
      go_ret
      exact ⟨ret_bool (by unfold goesB; rw [if_neg H3.out]; rfl), below_drewN ((Below.refl _ _).alloc (Nat.le_refl _) _) _⟩
    · have h0' : (k != 0) = true := by simpa using h0
      have H0 := Lib.hid h0
      clear h0
      go_enter Try.func121, Try.ntmps121
      go_wp2
      go_region_with (go_at_call 122; refine (kind_c _ _).mono ?_; rintro e w1 ⟨rfl, hb1⟩; have hc1 := hb1.cell (p := ⟨w.heap.size, 0, none⟩) (by simp))
      all_goals
        go_wp2
        go_ret
        exact ⟨ret_bool (by unfold goesB; rw [if_neg H3.out, Bool.eq_iff_iff]; simp [H0.out]), (((Below.refl _ _).alloc (Nat.le_refl _) _).drew.trans (hb1.mono (by simp)))⟩

end Go.Proofs.Ytfieoehchghiiaa
