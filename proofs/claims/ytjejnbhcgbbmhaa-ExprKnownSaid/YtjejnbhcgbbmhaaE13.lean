/-
  The walk of ExprKnown.
-/
import Derived.Test.YtjejnbhcgbbmhaaE12
namespace Go.Proofs.Ytjejnbhcgbbmhaa
open Go.RowKit
set_option linter.unusedVariables false

theorem reads_a : readsB { data := #[49, 32, 45, 32, 50, 32, 45, 32, 51] } (.mk 8 0 [(.mk 8 0 [(.mk 1 1 []), (.mk 1 2 [])]), (.mk 1 3 [])]) = true := by kernel_rfl
theorem reads_b : readsB { data := #[105, 102, 32, 118, 97, 108, 32, 60, 32, 51, 32, 116, 104, 101, 110, 32, 45, 32, 49, 32, 101, 108, 115, 101, 32, 40, 97, 99, 99, 41] } (.mk 18 0 [(.mk 12 0 [(.mk 3 0 []), (.mk 1 3 [])]), (.mk 5 0 [(.mk 1 1 [])]), (.mk 4 0 [])]) = true := by kernel_rfl
theorem parse_a : parse { data := #[49, 32, 60, 32, 50, 32, 60, 32, 51] } = (Ex.zero, 6, 80) := by kernel_rfl
theorem parse_b : parse { data := #[107, 101, 121, 32, 118, 97, 108] } = (Ex.zero, 4, 80) := by kernel_rfl
theorem parse_c : parse { data := #[40, 49] } = (Ex.zero, 2, 80) := by kernel_rfl

theorem parse_below {s : ByteArray} {x : Ex} {a e : Int} (h : parse s = (x, a, e)) (hx : x = Ex.zero) (w : World) :
    Calls Try.prog 24 #[.string s] w fun r w' => ∃ ad n c, r = .returned (.tuple #[.agg #[.int .u8 0, .int .i64 0, .slice ad n c], .int .i64 a, .int .i64 e]) ∧ Below w.heap.size w w' := by
  have hp := Parse_c s w
  rw [h] at hp
  subst hx
  refine hp.mono ?_
  rintro r w' ⟨sv, rfl, ha, hb⟩
  obtain ⟨ad, c, rfl, _, _⟩ := ha.slice
  exact ⟨_, _, _, rfl, hb⟩

set_option maxHeartbeats 4000000 in
theorem eKnown_c (w : World) : Calls Try.prog 8 #[] w fun e w' => e = .returned (.bool true) ∧ Below w.heap.size w w' := by
  have hB := Below.refl w.heap.size w
  go_enter Try.func8, Try.ntmps8
  go_wp2_with fail
  refine (parse_below parse_a rfl _).mono ?_
  rintro e q0 ⟨ad0, n0, c0, rfl, hq0⟩
  replace hB := hB.trans (hq0.mono hB.size)
  clear hq0
  go_wp2_with fail
  refine (parse_below parse_b rfl _).mono ?_
  rintro e q1 ⟨ad1, n1, c1, rfl, hq1⟩
  replace hB := (hB.alloc hB.size (.cells #[.int .u8 0, .int .i64 0, .slice ad0 n0 c0] 28)).trans (hq1.mono (Nat.le_trans hB.size (by simp)))
  clear hq1
  go_wp2_with fail
  refine (parse_below parse_c rfl _).mono ?_
  rintro e q2 ⟨ad2, n2, c2, rfl, hq2⟩
  replace hB := (hB.alloc hB.size (.cells #[.int .u8 0, .int .i64 0, .slice ad1 n1 c1] 28)).trans (hq2.mono (Nat.le_trans hB.size (by simp)))
  clear hq2
  go_upto_region 4 with fail
  replace hB := hB.alloc hB.size (.cells #[.int .u8 0, .int .i64 0, .slice ad2 n2 c2] 28)
  generalize q2.alloc _ = W at *
  go_wp2_with fail
  refine (eworks_c _).mono ?_
  rintro e wb1 ⟨rfl, hb1⟩
  have ht1 := hb1
  replace hB := Below.trans hB (ht1.mono hB.size)
  clear ht1 hb1
  go_wp2_with fail
  refine (num_c 1 _).mono ?_
  rintro e wb2 ⟨rfl, hb2⟩
  have ht2 := hb2
  replace hB := Below.trans hB (ht2.mono hB.size)
  clear ht2 hb2
  go_wp2_with fail
  refine (num_c 2 _).mono ?_
  rintro e wb3 ⟨rfl, hb3⟩
  have ht3 := hb3
  replace hB := Below.trans hB (ht3.mono hB.size)
  clear ht3 hb3
  go_wp2_with fail
  refine (of_c 8 (some ⟨wb3.heap.size, 0, none⟩) 2 2 _).mono ?_
  rintro e wb4 ⟨rfl, hb4⟩
  have ht4 := ((Below.refl _ wb3).alloc (Nat.le_refl _) (.cells #[.int .u8 1, .int .i64 1, .slice none 0 0, .int .u8 1, .int .i64 2, .slice none 0 0] 28)).trans (hb4.mono (by simp))
  have hn4 := (Blk.new wb3 #[.int .u8 1, .int .i64 1, .slice none 0 0, .int .u8 1, .int .i64 2, .slice none 0 0] 28).below hb4 (by simp)
  have ha1 := Lib.hid (ArgsAt.two (x := (.mk 1 1 []))  (y := (.mk 1 2 [])) hn4 hn4.lt (.nil none 0 (Nat.zero_le _)) (.nil none 0 (Nat.zero_le _)))
  replace hB := Below.trans hB (ht4.mono hB.size)
  clear ht4 hb4
  go_wp2_with fail
  refine (num_c 3 _).mono ?_
  rintro e wb5 ⟨rfl, hb5⟩
  have ht5 := hb5
  replace ha1 := Lib.hid (ArgsAt.step ha1.out ht5)
  replace hB := Below.trans hB (ht5.mono hB.size)
  clear ht5 hb5
  go_wp2_with fail
  refine (of_c 8 (some ⟨wb5.heap.size, 0, none⟩) 2 2 _).mono ?_
  rintro e wb6 ⟨rfl, hb6⟩
  have ht6 := ((Below.refl _ wb5).alloc (Nat.le_refl _) (.cells #[.int .u8 8, .int .i64 0, .slice (some ⟨wb3.heap.size, 0, none⟩) 2 2, .int .u8 1, .int .i64 3, .slice none 0 0] 28)).trans (hb6.mono (by simp))
  have hn6 := (Blk.new wb5 #[.int .u8 8, .int .i64 0, .slice (some ⟨wb3.heap.size, 0, none⟩) 2 2, .int .u8 1, .int .i64 3, .slice none 0 0] 28).below hb6 (by simp)
  replace ha1 := Lib.hid (ArgsAt.step ha1.out ht6)
  have ha2 := Lib.hid (ArgsAt.two (x := (.mk 8 0 [(.mk 1 1 []), (.mk 1 2 [])]))  (y := (.mk 1 3 [])) hn6 hn6.lt ha1.out (.nil none 0 (Nat.zero_le _)))
  replace hB := Below.trans hB (ht6.mono hB.size)
  clear ht6 hb6
  go_wp2_with fail
  refine (reads_c { data := #[49, 32, 45, 32, 50, 32, 45, 32, 51] } (.mk 8 0 [(.mk 8 0 [(.mk 1 1 []), (.mk 1 2 [])]), (.mk 1 3 [])]) _ _ ⟨_, rfl, ha2.out⟩).mono ?_
  rintro e wb7 ⟨rfl, hb7⟩
  rw [reads_a]
  have ht7 := hb7
  replace ha2 := Lib.hid (ArgsAt.step ha2.out ht7)
  replace hB := Below.trans hB (ht7.mono hB.size)
  clear ht7 hb7
  clear ha2
  go_wp2_with fail
  refine (of_c 3 none 0 0 _).mono ?_
  rintro e wb8 ⟨rfl, hb8⟩
  have ht8 := hb8
  replace hB := Below.trans hB (ht8.mono hB.size)
  clear ht8 hb8
  go_wp2_with fail
  refine (num_c 3 _).mono ?_
  rintro e wb9 ⟨rfl, hb9⟩
  have ht9 := hb9
  replace hB := Below.trans hB (ht9.mono hB.size)
  clear ht9 hb9
  go_wp2_with fail
  refine (of_c 12 (some ⟨wb9.heap.size, 0, none⟩) 2 2 _).mono ?_
  rintro e wb10 ⟨rfl, hb10⟩
  have ht10 := ((Below.refl _ wb9).alloc (Nat.le_refl _) (.cells #[.int .u8 3, .int .i64 0, .slice none 0 0, .int .u8 1, .int .i64 3, .slice none 0 0] 28)).trans (hb10.mono (by simp))
  have hn10 := (Blk.new wb9 #[.int .u8 3, .int .i64 0, .slice none 0 0, .int .u8 1, .int .i64 3, .slice none 0 0] 28).below hb10 (by simp)
  have ha3 := Lib.hid (ArgsAt.two (x := (.mk 3 0 []))  (y := (.mk 1 3 [])) hn10 hn10.lt (.nil none 0 (Nat.zero_le _)) (.nil none 0 (Nat.zero_le _)))
  replace hB := Below.trans hB (ht10.mono hB.size)
  clear ht10 hb10
  go_wp2_with fail
  refine (num_c 1 _).mono ?_
  rintro e wb11 ⟨rfl, hb11⟩
  have ht11 := hb11
  replace ha3 := Lib.hid (ArgsAt.step ha3.out ht11)
  replace hB := Below.trans hB (ht11.mono hB.size)
  clear ht11 hb11
  go_wp2_with fail
  refine (of_c 5 (some ⟨wb11.heap.size, 0, none⟩) 1 1 _).mono ?_
  rintro e wb12 ⟨rfl, hb12⟩
  have ht12 := ((Below.refl _ wb11).alloc (Nat.le_refl _) (.cells #[.int .u8 1, .int .i64 1, .slice none 0 0] 28)).trans (hb12.mono (by simp))
  have hn12 := (Blk.new wb11 #[.int .u8 1, .int .i64 1, .slice none 0 0] 28).below hb12 (by simp)
  replace ha3 := Lib.hid (ArgsAt.step ha3.out ht12)
  have ha4 := Lib.hid (ArgsAt.one (x := (.mk 1 1 [])) hn12 hn12.lt (.nil none 0 (Nat.zero_le _)))
  replace hB := Below.trans hB (ht12.mono hB.size)
  clear ht12 hb12
  go_wp2_with fail
  refine (of_c 4 none 0 0 _).mono ?_
  rintro e wb13 ⟨rfl, hb13⟩
  have ht13 := hb13
  replace ha3 := Lib.hid (ArgsAt.step ha3.out ht13)
  replace ha4 := Lib.hid (ArgsAt.step ha4.out ht13)
  replace hB := Below.trans hB (ht13.mono hB.size)
  clear ht13 hb13
  go_wp2_with fail
  refine (of_c 18 (some ⟨wb13.heap.size, 0, none⟩) 3 3 _).mono ?_
  rintro e wb14 ⟨rfl, hb14⟩
  have ht14 := ((Below.refl _ wb13).alloc (Nat.le_refl _) (.cells #[.int .u8 12, .int .i64 0, .slice (some ⟨wb9.heap.size, 0, none⟩) 2 2, .int .u8 5, .int .i64 0, .slice (some ⟨wb11.heap.size, 0, none⟩) 1 1, .int .u8 4, .int .i64 0, .slice none 0 0] 28)).trans (hb14.mono (by simp))
  have hn14 := (Blk.new wb13 #[.int .u8 12, .int .i64 0, .slice (some ⟨wb9.heap.size, 0, none⟩) 2 2, .int .u8 5, .int .i64 0, .slice (some ⟨wb11.heap.size, 0, none⟩) 1 1, .int .u8 4, .int .i64 0, .slice none 0 0] 28).below hb14 (by simp)
  replace ha3 := Lib.hid (ArgsAt.step ha3.out ht14)
  replace ha4 := Lib.hid (ArgsAt.step ha4.out ht14)
  have ha5 := Lib.hid (ArgsAt.three (x := (.mk 12 0 [(.mk 3 0 []), (.mk 1 3 [])]))  (y := (.mk 5 0 [(.mk 1 1 [])]))  (z := (.mk 4 0 [])) hn14 hn14.lt ha3.out ha4.out (.nil none 0 (Nat.zero_le _)))
  replace hB := Below.trans hB (ht14.mono hB.size)
  clear ht14 hb14
  go_wp2_with fail
  refine (reads_c { data := #[105, 102, 32, 118, 97, 108, 32, 60, 32, 51, 32, 116, 104, 101, 110, 32, 45, 32, 49, 32, 101, 108, 115, 101, 32, 40, 97, 99, 99, 41] } (.mk 18 0 [(.mk 12 0 [(.mk 3 0 []), (.mk 1 3 [])]), (.mk 5 0 [(.mk 1 1 [])]), (.mk 4 0 [])]) _ _ ⟨_, rfl, ha5.out⟩).mono ?_
  rintro e wb15 ⟨rfl, hb15⟩
  rw [reads_b]
  have ht15 := hb15
  replace ha5 := Lib.hid (ArgsAt.step ha5.out ht15)
  replace hB := Below.trans hB (ht15.mono hB.size)
  clear ht15 hb15
  clear ha5
  go_wp2_with fail
  go_ret
  exact ⟨rfl, hB⟩

end Go.Proofs.Ytjejnbhcgbbmhaa
