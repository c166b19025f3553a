/-
  Walks: is, works, KindKnown.
-/
import Derived.Test.YtclknpfmmmaafaaQ0
namespace Go.Proofs.Ytclknpfmmmaafaa
open Go.RowKit
set_option linter.unusedVariables false

/-- What a text's type is. -/
def isV (s : ByteArray) (acc : Bool) : Int × Int := if (parse s).2.2 ≠ 0 then (0, (parse s).2.2) else (parse s).1.typ acc

set_option maxHeartbeats 1000000 in
theorem kis_c (s : ByteArray) (acc : Bool) (w : World) : Calls Try.prog 13 #[.string s, .bool acc] w fun e w' => e = .returned (.tuple #[.int .u8 (isV s acc).1, .int .i64 (isV s acc).2]) ∧ Below w.heap.size w w' := by
  have hPA := Parse_c s w
  unfold ParsePost at hPA
  have HE : Hid (isV s acc = if (parse s).2.2 ≠ 0 then (0, (parse s).2.2) else (parse s).1.typ acc) := rfl
  generalize isV s acc = target at *
  generalize parse s = p at *
  obtain ⟨y, at_, err⟩ := p
  dsimp only at hPA
  have HP := Lib.hid hPA
  clear hPA
  by_cases he : err = 0
  · have he' : (err != 0) = false := by simpa using he
    have HE2 : Hid (target = y.typ acc) := HE.out.trans (if_neg (by simpa using he))
    clear HE he
    go_enter Try.func13, Try.ntmps13
    go_upto_region 2 with (go_at_call 28; refine HP.out.mono ?_; rintro e w1 ⟨sv, rfl, ha, hb⟩; obtain ⟨a1, c1, rfl, _, _⟩ := ha.slice)
    have hY := Blk.new w1 #[.int .u8 y.op, .int .i64 y.n, .slice a1 y.args.length c1] 28
    have hB1 := hb.alloc hb.size (.cells #[.int .u8 y.op, .int .i64 y.n, .slice a1 y.args.length c1] 28)
    have HY : Hid (ExAt (w1.alloc (.cells #[.int .u8 y.op, .int .i64 y.n, .slice a1 y.args.length c1] 28)) (w1.alloc (.cells #[.int .u8 y.op, .int .i64 y.n, .slice a1 y.args.length c1] 28)).heap.size (.agg #[.int .u8 y.op, .int .i64 y.n, .slice a1 y.args.length c1]) y) :=
      ⟨_, rfl, (ha.keep ((Below.refl _ w1).alloc (Nat.le_refl _) _)).mono (by simp)⟩
    generalize hyb : w1.heap.size = yb at *
    generalize w1.alloc _ = W at *
    have y0 := hY.cell 0
    have y1 := hY.cell 1
    have y2 := hY.cell 2
    clear hb ha hyb
    go_wp2_with (go_at_call 16; refine (Of_c y acc _ _ _ HY.out (Nat.le_refl _)).mono ?_; rintro e w2 ⟨rfl, hb2⟩)
    go_ret2
    refine ⟨?_, hB1.trans (hb2.mono hB1.size)⟩
    rw [HE2.out]
    rfl
  · have he' : (err != 0) = true := by simpa using he
    have HE2 : Hid (target = (0, err)) := HE.out.trans (if_pos he)
    clear HE he
    go_enter Try.func13, Try.ntmps13
    go_wp2_with (go_at_call 28; refine HP.out.mono ?_; rintro e w1 ⟨sv, rfl, ha, hb⟩; obtain ⟨a1, c1, rfl, _, _⟩ := ha.slice)
    go_ret2
    refine ⟨?_, hb.alloc hb.size _⟩
    rw [HE2.out]
    rfl

theorem kis_w {s : ByteArray} {acc : Bool} {a b : Int} (h : isV s acc = (a, b)) (w : World) : Calls Try.prog 13 #[.string s, .bool acc] w fun e w' => e = .returned (.tuple #[.int .u8 a, .int .i64 b]) ∧ Below w.heap.size w w' := by
  have := kis_c s acc w
  rw [h] at this
  exact this

theorem kw_1 : isV { data := #[107, 101, 121, 32, 43, 32, 49] } false = (1, 0) := by kernel_rfl
theorem kw_2 : isV { data := #[107, 101, 121, 32, 60, 32, 49] } false = (2, 0) := by kernel_rfl

set_option maxHeartbeats 1000000 in
theorem kworks_c (w : World) : Calls Try.prog 14 #[] w fun e w' => e = .returned (.bool true) ∧ Below w.heap.size w w' := by
  go_enter Try.func14, Try.ntmps14
  go_wp2_with fail
  refine (kis_w kw_1 _).mono ?_
  rintro e w1 ⟨rfl, hb1⟩
  go_wp2_with fail
  refine (kis_w kw_2 _).mono ?_
  rintro e w2 ⟨rfl, hb2⟩
  go_wp2_with fail
  go_ret
  exact ⟨rfl, hb1.trans (hb2.mono hb1.size)⟩

theorem kk_0 : isV { data := #[33, 40, 49, 32, 61, 32, 50, 41] } false = (2, 0) := by kernel_rfl
theorem kk_1 : isV { data := #[49, 32, 43, 32, 40, 49, 32, 60, 32, 50, 41] } false = (0, 91) := by kernel_rfl
theorem kk_2 : isV { data := #[97, 99, 99] } false = (0, 90) := by kernel_rfl
theorem kk_3 : isV { data := #[105, 102, 32, 49, 32, 116, 104, 101, 110, 32, 50, 32, 101, 108, 115, 101, 32, 51] } false = (0, 91) := by kernel_rfl
theorem kk_4 : isV { data := #[97, 99, 99] } true = (1, 0) := by kernel_rfl

set_option maxHeartbeats 2000000 in
theorem kKnown_c (w : World) : Calls Try.prog 3 #[] w fun e w' => e = .returned (.bool true) ∧ Below w.heap.size w w' := by
  have hB := Below.refl w.heap.size w
  go_enter Try.func3, Try.ntmps3
  go_wp2_with fail
  refine (kis_w kk_0 _).mono ?_
  rintro e q0 ⟨rfl, hq⟩
  replace hB := hB.trans (hq.mono hB.size)
  clear hq
  go_wp2_with fail
  refine (kis_w kk_1 _).mono ?_
  rintro e q1 ⟨rfl, hq⟩
  replace hB := hB.trans (hq.mono hB.size)
  clear hq
  go_wp2_with fail
  refine (kis_w kk_2 _).mono ?_
  rintro e q2 ⟨rfl, hq⟩
  replace hB := hB.trans (hq.mono hB.size)
  clear hq
  go_wp2_with fail
  refine (kis_w kk_3 _).mono ?_
  rintro e q3 ⟨rfl, hq⟩
  replace hB := hB.trans (hq.mono hB.size)
  clear hq
  go_wp2_with fail
  refine (kis_w kk_4 _).mono ?_
  rintro e q4 ⟨rfl, hq⟩
  replace hB := hB.trans (hq.mono hB.size)
  clear hq
  go_wp2_with (go_at_call 14; refine (kworks_c _).mono ?_; rintro e w9 ⟨rfl, hq⟩)
  go_ret
  exact ⟨rfl, hB.trans (hq.mono hB.size)⟩

end Go.Proofs.Ytclknpfmmmaafaa
