/-
  The walk of LexNumbers.
-/
import Derived.Test.YtdjeaklekhjbcaaDoorX1
import Derived.Test.YtdjeaklekhjbcaaDoorX2
import Derived.Test.YtdjeaklekhjbcaaDoorSF
import Derived.Lib.LaidTab
namespace Go.Proofs.YtdjeaklekhjbcaaDoor
open Go.RowKit Num
set_option linter.unusedVariables false

def Pow10 (w : World) : Prop := Lib.TabIs Tryd.prog w "internal/strconv.uint64pow10" .u64 Lib.pow10Tab

theorem below_grow (w : World) (k : Nat) (os : Array Obj) : Below w.heap.size w (Go.Sort.grow (w.drewN k) os) := by
  refine ⟨rfl, rfl, rfl, ?_, fun b hb => ?_⟩
  · show w.heap.size ≤ (w.heap ++ os).size
    simp
  · show (w.heap ++ os)[b]? = w.heap[b]?
    rw [Array.getElem?_append_left hb]

theorem fmt_c (n : Nat) (hn : n ≤ 9223372036854775807) (w : World) (htab : Pow10 w) : Calls Tryd.prog 8 #[.int .i64 (n : Int), .int .i64 10] w fun e w' => e = .returned (.string (decB n)) ∧ Below w.heap.size w w' := by
  refine (Tryd.strconv_FormatInt_10 (n : Int) (by omega) (by omega) w htab).mono ?_
  rintro e w' ⟨rfl, k, os, rfl⟩
  refine ⟨?_, below_grow w k os⟩
  rw [Lib.itoa_nonneg]
  rfl

set_option maxHeartbeats 1000000 in
theorem numbers_c (n m : Int) (wn : (Lit.int .i64 n).wf = true) (wm : (Lit.int .u8 m).wf = true) (w : World) (htab : Pow10 w) :
    Calls Tryd.prog 4 #[.int .i64 n, .int .u8 m] w fun e w' => e = .returned (.bool true) ∧ Below w.heap.size w w' := by
  have hn : -9223372036854775808 ≤ n ∧ n ≤ 9223372036854775807 := by simpa [Lit.wf, IntKind.min, IntKind.max, IntKind.signed, IntKind.bits] using wn
  have hm : 0 ≤ m ∧ m ≤ 255 := by simpa [Lit.wf, IntKind.min, IntKind.max, IntKind.signed, IntKind.bits] using wm
  obtain ⟨hn0, hn1⟩ := hn
  obtain ⟨hm0, hm1⟩ := hm
  have HT := Lib.hid htab
  clear wn wm htab
  by_cases h0 : n < 0
  · go_enter Tryd.func4, Tryd.ntmps4
    go_wp2_with (go_at_call 6; refine (works_c _).mono ?_; rintro e w4 ⟨rfl, hb4⟩)
    go_ret
    exact ⟨rfl, hb4⟩
  · obtain ⟨u, rfl⟩ : ∃ u : Nat, n = (u : Int) := ⟨n.toNat, by omega⟩
    obtain ⟨k, hk⟩ : ∃ k : Nat, m % 5 = (k : Int) := ⟨(m % 5).toNat, by omega⟩
    have hk4 : k ≤ 4 := by omega
    obtain ⟨p, hp⟩ := toks_number k u hk4 (by omega)
    have HP := Lib.hid hp
    have hu : u ≤ 9223372036854775807 := by omega
    have hdl := decB_size u
    have hd2 := dec_len u hu
    rw [← hdl] at hd2
    clear hp hdl
    go_enter Tryd.func4, Tryd.ntmps4
    go_upto_region 5 with fail
    clear hk hm0 hm1 hn0 hn1 h0
    go_loop [5, 14] (fun s i => ∃ j : Nat, j ≤ k ∧ i = .int .u8 j ∧ s = .string (zrs j)) (fun _ i => k - (intOf i).toNat)
    case atStart => exact ⟨0, Nat.zero_le _, rfl, rfl⟩
    case round =>
      obtain ⟨j, hj, rfl, rfl⟩ := hrel
      have hz := zrs_size j
      have hzl : (zrs j).size ≤ 4 := by omega
      have HZ := Lib.hid (zrs_succ j)
      clear hz
      by_cases hlt : j < k
      · go_wp2
        go_round
        case rel => exact ⟨j + 1, by omega, by go_num, by rw [HZ.out]⟩
        case measure => simp [intOf]; omega
      · obtain rfl : j = k := by omega
        have hzd : (zrs j ++ decB u).size ≤ 25 := by rw [ByteArray.size_append]; omega
        go_wp2_with fail
        refine (fmt_c u hu _ HT.out).mono ?_
        rintro e w1 ⟨rfl, hb1⟩
        go_wp2_with fail
        refine (Tokens_c _ _).mono ?_
        rintro e w2 ⟨v, rfl, hs, hb2⟩
        rw [HP.out] at hs ⊢
        obtain ⟨_, a, cap, rfl, hcap, hmx, hs⟩ := hs
        dsimp only at hs hcap ⊢
        simp only [List.length_cons, List.length_nil] at hs hcap ⊢
        rcases hs with hs | ⟨b, off, rfl, hbl, hs⟩
        · exact absurd hs (by omega)
        · have c0 : w2.cell? ⟨b, off, none⟩ = some (.int .u8 2) := hs 0 (by omega)
          have c2 : w2.cell? ⟨b, off + 2, none⟩ = some (.int .i64 (u : Int)) := hs 2 (by omega)
          have c5 : w2.cell? ⟨b, off + 5, none⟩ = some (.string { data := #[120] }) := hs 5 (by omega)
          have c5' : w2.cell? ⟨b, off + 4 + 1, none⟩ = some (.string { data := #[120] }) := hs 5 (by omega)
          have huu : ((u : Int) == (u : Int)) = true := by simp
          have hB := hb1.trans (hb2.mono hb1.size)
          unfold maxLen at hmx
          clear hs hb1 hb2 HP HZ hbl
          go_wp2_with (go_at_call 6; refine (works_c _).mono ?_; rintro e w4 ⟨rfl, hb4⟩)
          go_ret
          exact ⟨rfl, hB.trans (hb4.mono hB.size)⟩

end Go.Proofs.YtdjeaklekhjbcaaDoor
