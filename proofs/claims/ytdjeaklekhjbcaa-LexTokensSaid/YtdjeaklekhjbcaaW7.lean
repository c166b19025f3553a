/-
  The walks of works, LexKnown, LexEnds.
-/
import Derived.Test.YtdjeaklekhjbcaaW6
import Derived.Test.YtdjeaklekhjbcaaP7
namespace Go.Proofs.Ytdjeaklekhjbcaa
open Go.RowKit
set_option linter.unusedVariables false

def workToks : List Tok := [⟨1, { data := #[107, 101, 121] }, 0, 0⟩, ⟨3, { data := #[43] }, 0, 3⟩, ⟨2, { data := #[] }, 12, 4⟩, ⟨3, { data := #[60, 61] }, 0, 7⟩, ⟨1, { data := #[195, 188] }, 0, 10⟩]
theorem works_toks : toks { data := #[107, 101, 121, 43, 49, 50, 32, 60, 61, 32, 195, 188] } = (workToks, 0, 0) := by kernel_rfl
theorem toksEq_self (l : List Tok) : toksEq l l = true := (toksEq_iff l l).2 rfl

/-- A slice that is written out. -/
theorem Sl.lit (w : World) (t : TypeId) (cs : Array Value) (n size : Nat) (hn : cs.size = n * size) (hm : n ≤ maxLen) :
    Sl (w.alloc (.cells cs t)) (w.alloc (.cells cs t)).heap.size size (.slice (some ⟨w.heap.size, 0, none⟩) n n) n cs.toList := by
  refine ⟨by simpa using hn, some ⟨w.heap.size, 0, none⟩, n, rfl, Nat.le_refl _, hm, .inr ⟨w.heap.size, 0, rfl, by simp, fun j hj => ?_⟩⟩
  rw [Nat.zero_add, (Blk.new w cs t).cell j]
  simp

set_option maxHeartbeats 400000 in
theorem works_c (w : World) : Calls Try.prog 7 #[] w fun e w' => e = .returned (.bool true) ∧ Below w.heap.size w w' := by
  go_enter Try.func7, Try.ntmps7
  go_wp2_with fail
  refine (Tokens_c _ _).mono ?_
  rintro e w1 ⟨v, rfl, hs, hb⟩
  rw [works_toks] at hs ⊢
  have HS := Lib.hid hs
  clear hs
  go_wp2_with fail
  refine (EqualTok_c _ _ _ workToks workToks _ ((HS.out.below (Below.alloc (Below.refl _ _) (Nat.le_refl _) _)).mono (by simp)) (Sl.lit w1 28 _ 5 4 rfl (by decide))).mono ?_
  rintro e w2 ⟨rfl, n, rfl⟩
  rw [toksEq_self]
  go_wp2_with fail
  go_ret
  exact ⟨rfl, below_drewN (hb.alloc hb.size _) _⟩

def kA : ByteArray := { data := #[49, 32, 36, 32, 50] }
def kB : ByteArray := { data := #[195, 159, 32, 57, 50, 50, 51, 51, 55, 50, 48, 51, 54, 56, 53, 52, 55, 55, 53, 56, 48, 56] }
def kC : ByteArray := { data := #[57, 50, 50, 51, 51, 55, 50, 48, 51, 54, 56, 53, 52, 55, 55, 53, 56, 48, 55] }
theorem known_a : toks kA = ([], 2, 70) := by kernel_rfl
theorem known_b : toks kB = ([], 2, 71) := by kernel_rfl
theorem known_c : toks kC = ([⟨2, { data := #[] }, 9223372036854775807, 0⟩], 0, 0) := by kernel_rfl

set_option maxHeartbeats 400000 in
theorem Known_c (w : World) : Calls Try.prog 3 #[] w fun e w' => e = .returned (.bool true) ∧ Below w.heap.size w w' := by
  go_enter Try.func3, Try.ntmps3
  go_wp2_with fail
  refine (Tokens_c kA _).mono ?_
  rintro e w1 ⟨v1, rfl, hs1, hb1⟩
  rw [known_a] at hs1 ⊢
  clear hs1
  go_wp2_with fail
  refine (Tokens_c kB _).mono ?_
  rintro e w2 ⟨v2, rfl, hs2, hb2⟩
  rw [known_b] at hs2 ⊢
  clear hs2
  go_wp2_with fail
  refine (Tokens_c kC _).mono ?_
  rintro e w3 ⟨v3, rfl, hs3, hb3⟩
  rw [known_c] at hs3 ⊢
  obtain ⟨b, off, cap, rfl, hl, c0, c1, c2, c3⟩ := hs3.tok 0 (by decide)
  have hlt : b < w3.heap.size := World.block_lt_of_cell? _ _ c0
  clear hs3
  go_wp2_with fail
  refine (works_c _).mono ?_
  rintro e w4 ⟨rfl, hb4⟩
  have d2 := hb4.cell (p := ⟨b, off + 0 * 4 + 2, none⟩) hlt
  rw [c2] at d2
  simp only [Nat.zero_mul, Nat.add_zero, List.getElem_cons_zero] at d2
  clear c0 c1 c2 c3
  go_wp2_with fail
  go_ret
  exact ⟨rfl, hb1.trans ((hb2.mono hb1.size).trans ((hb3.mono (Nat.le_trans hb1.size hb2.size)).trans (hb4.mono (Nat.le_trans (Nat.le_trans hb1.size hb2.size) hb3.size))))⟩

set_option maxHeartbeats 400000 in
theorem Ends_c (s : ByteArray) (hs : s.size ≤ 140737488351232) (w : World) : Calls Try.prog 5 #[.string s] w fun e w' => e = .returned (.bool true) ∧ Below w.heap.size w w' := by
  by_cases h400 : s.size + 2 ≤ 400
  · have h1 : ¬ (400 : Int) < (s.size : Int) + 2 := by omega
    have HE := Lib.hid (toks_ends s h400)
    cases he : ((toks s).2.2 != 0)
    all_goals
      go_enter Try.func5, Try.ntmps5
      go_wp2_with fail
      refine (Tokens_c _ _).mono ?_
      rintro e w1 ⟨v1, rfl, hs1, hb1⟩
      clear hs1
      generalize (toks s).2.1 = a1 at *
    · have he2 : (toks s).2.2 = 0 := by simpa using he
      have he3 := HE.out.2 he2
      rw [he2]
      go_wp2_with fail
      refine (Tokens_c (s ++ endsS) _).mono ?_
      rintro e w2 ⟨v2, rfl, hs2, hb2⟩
      rw [he3] at hs2 ⊢
      clear hs2
      have HEE := Lib.hid he3
      clear he3 he2 he
      go_wp2_with fail
      go_loopw [9] (fun n wr => ∃ (pos k : Nat), wr = w2.iter s pos ∧ n = .int .i64 k ∧ k + (runesAt s pos).length = (runes s).length) (fun _ wr => s.size - wr.iterPos w2.heap.size)
      case atStart => exact ⟨0, 0, rfl, rfl, by rw [Nat.zero_add]; rfl⟩
      case round =>
        obtain ⟨pos, k, rfl, rfl, hk⟩ := hrel
        have hrl : (runes s).length ≤ s.size := by have := runesAt_length s 0; unfold runes; omega
        by_cases hp : pos < s.size
        · have hnx : ∀ ty, (Instr.next (.pointer (some ⟨w2.heap.size, 0, none⟩)) true ty).run Try.prog (w2.iter s pos) = _ := fun ty => run_next_any w2 s pos ty hp
          have hwd := Lib.decode_width_pos s pos hp
          rw [runesAt_step s pos hp, List.length_cons] at hk
          have HK := Lib.hid hk
          have hk2 : k + 1 ≤ s.size := by omega
          clear hk hrl
          go_wp2
          go_roundw
          case rel => exact ⟨_, k + 1, rfl, by go_num, by have := HK.out; omega⟩
          case measure => simp; omega
        · have hnx : ∀ ty, (Instr.next (.pointer (some ⟨w2.heap.size, 0, none⟩)) true ty).run Try.prog (w2.iter s pos) = _ := fun ty => run_next_end w2 s pos ty hp
          rw [runesAt_end s pos hp, List.length_nil, Nat.add_zero] at hk
          subst hk
          go_wp2_with (go_at_call 7; refine (works_c _).mono ?_; rintro e w4 ⟨rfl, hb4⟩)
          go_ret
          exact ⟨rfl, hb1.trans ((hb2.mono hb1.size).trans ((Below.refl _ _).alloc (Nat.le_trans hb1.size hb2.size) _ |>.trans (hb4.mono (by have := hb1.size; have := hb2.size; simp [World.iter]; omega))))⟩
    · have he2 : (toks s).2.2 ≠ 0 := by simpa using he
      have he3 := HE.out.1 he2
      generalize (toks s).2.2 = E at *
      go_wp2_with fail
      refine (Tokens_c (s ++ endsS) _).mono ?_
      rintro e w2 ⟨v2, rfl, hs2, hb2⟩
      rw [he3]
      clear hs2
      have HEE := Lib.hid he3
      clear he3
      go_wp2_with (go_at_call 7; refine (works_c _).mono ?_; rintro e w4 ⟨rfl, hb4⟩)
      go_ret
      exact ⟨rfl, hb1.trans ((hb2.mono hb1.size).trans (hb4.mono (Nat.le_trans hb1.size hb2.size)))⟩
  · have h1 : (400 : Int) < (s.size : Int) + 2 := by omega
    go_enter Try.func5, Try.ntmps5
    go_wp2_with (go_at_call 7; refine (works_c _).mono ?_; rintro e w4 ⟨rfl, hb4⟩)
    go_ret
    exact ⟨rfl, hb4⟩

end Go.Proofs.Ytdjeaklekhjbcaa
