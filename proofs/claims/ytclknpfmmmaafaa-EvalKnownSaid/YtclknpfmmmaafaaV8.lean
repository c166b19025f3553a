/-
  The walk of EvalKnown.
-/
import Derived.Test.YtclknpfmmmaafaaV7
namespace Go.Proofs.Ytclknpfmmmaafaa
open Go.RowKit
set_option linter.unusedVariables false

theorem px : parse { data := #[49, 32, 60, 32, 50] } = ((.mk 12 0 [.mk 1 1 [], .mk 1 2 []]), 0, 0) := by kernel_rfl
theorem py : parse { data := #[49] } = ((.mk 1 1 []), 0, 0) := by kernel_rfl
theorem okx : Ex.ok (.mk 12 0 [.mk 1 1 [], .mk 1 2 []]) := by simp [Ex.ok, Exs.ok]
theorem oky : Ex.ok (.mk 1 1 []) := by simp [Ex.ok, Exs.ok]
theorem rx : Ex.doR (.mk 12 0 [.mk 1 1 [], .mk 1 2 []]) ⟨0, 0, 0⟩ = ⟨2, 0, true, 0⟩ := by kernel_rfl
theorem ry : Ex.doR (.mk 1 1 []) ⟨0, 0, 0⟩ = ⟨1, 1, false, 0⟩ := by kernel_rfl

theorem parse_at {s : ByteArray} {x : Ex} {a e : Int} (h : parse s = (x, a, e)) (w : World) :
    Calls Try.prog 28 #[.string s] w fun r w' => ∃ ad c, r = .returned (.tuple #[.agg #[.int .u8 x.op, .int .i64 x.n, .slice ad x.args.length c], .int .i64 a, .int .i64 e]) ∧ ArgsAt w' w'.heap.size x.args (.slice ad x.args.length c) ∧ Below w.heap.size w w' := by
  have hp := Parse_c s w
  rw [h] at hp
  refine hp.mono ?_
  rintro r w' ⟨sv, rfl, ha, hb⟩
  obtain ⟨ad, c, rfl, _, _⟩ := ha.slice
  exact ⟨_, _, rfl, ha, hb⟩

set_option maxRecDepth 100000 in
set_option maxHeartbeats 4000000 in
theorem evKnown_c (w : World) : Calls Try.prog 11 #[] w fun e w' => e = .returned (.bool true) ∧ Below w.heap.size w w' := by
  have heq0 : ∀ w : World, (binOp .eql 40 (.agg #[.int .u8 1, .int .i64 (0), .bool false]) (.agg #[.int .u8 1, .int .i64 (0), .bool false])).run Try.prog w = .ok (.bool true) w := fun _ => by kernel_rfl
  have heq1 : ∀ w : World, (binOp .eql 40 (.agg #[.int .u8 1, .int .i64 (-7), .bool false]) (.agg #[.int .u8 1, .int .i64 (-7), .bool false])).run Try.prog w = .ok (.bool true) w := fun _ => by kernel_rfl
  have heq2 : ∀ w : World, (binOp .eql 40 (.agg #[.int .u8 2, .int .i64 (0), .bool false]) (.agg #[.int .u8 2, .int .i64 (0), .bool false])).run Try.prog w = .ok (.bool true) w := fun _ => by kernel_rfl
  have heq3 : ∀ w : World, (binOp .eql 40 (.agg #[.int .u8 1, .int .i64 (2), .bool false]) (.agg #[.int .u8 1, .int .i64 (2), .bool false])).run Try.prog w = .ok (.bool true) w := fun _ => by kernel_rfl
  go_enter Try.func11, Try.ntmps11
  go_wp2_with fail
  refine (parse_at px _).mono ?_
  rintro e w1 ⟨ax, cx, rfl, hax, hb1⟩
  dsimp only [Ex.op, Ex.n, Ex.args, List.length_cons, List.length_nil] at hax ⊢
  have hX := Blk.new w1 #[.int .u8 12, .int .i64 0, .slice ax 2 cx] 28
  have hA1 := (Below.refl _ w1).alloc (Nat.le_refl _) (.cells #[.int .u8 12, .int .i64 0, .slice ax 2 cx] 28)
  go_wp2_with fail
  refine (parse_at py _).mono ?_
  rintro e w2 ⟨ay, cy, rfl, hay, hb2⟩
  dsimp only [Ex.op, Ex.n, Ex.args, List.length_cons, List.length_nil] at hay ⊢
  have hX2 := (hX.below hb2 hX.lt).alloc (.cells #[.int .u8 1, .int .i64 1, .slice ay 0 cy] 28)
  have hY2 := Blk.new w2 #[.int .u8 1, .int .i64 1, .slice ay 0 cy] 28
  have hA2 := (Below.refl _ w2).alloc (Nat.le_refl _) (.cells #[.int .u8 1, .int .i64 1, .slice ay 0 cy] 28)
  have hT1 := (hA1.trans (hb2.mono hA1.size)).trans (hA2.mono (hA1.trans (hb2.mono hA1.size)).size)
  have HX : Hid (ArgsAt (w2.alloc (.cells #[.int .u8 1, .int .i64 1, .slice ay 0 cy] 28)) (w2.alloc (.cells #[.int .u8 1, .int .i64 1, .slice ay 0 cy] 28)).heap.size [.mk 1 1 [], .mk 1 2 []] (.slice ax 2 cx)) := (hax.keep hT1).mono hT1.size
  have HY : Hid (ArgsAt (w2.alloc (.cells #[.int .u8 1, .int .i64 1, .slice ay 0 cy] 28)) (w2.alloc (.cells #[.int .u8 1, .int .i64 1, .slice ay 0 cy] 28)).heap.size [] (.slice ay 0 cy)) := (hay.keep hA2).mono hA2.size
  have hB := hb1.trans (hT1.mono hb1.size)
  go_upto_region 3 with fail
  generalize hxb : w1.heap.size = xb at *
  generalize hyb : w2.heap.size = yb at *
  generalize w2.alloc _ = W at *
  clear hX hA1 hA2 hT1 hb1 hb2 hax hay hxb hyb
  have HBX := Lib.hid hX2
  have HBY := Lib.hid hY2
  clear hX2 hY2
  go_wp2_with fail
  refine (ework_c _).mono ?_
  rintro e u1 ⟨rfl, hq⟩
  replace HX := Lib.hid ((HX.out.keep hq).mono hq.size)
  replace HY := Lib.hid ((HY.out.keep hq).mono hq.size)
  replace HBX := Lib.hid (HBX.out.below hq HBX.out.lt)
  replace HBY := Lib.hid (HBY.out.below hq HBY.out.lt)
  replace hB := hB.trans (hq.mono hB.size)
  clear hq
  go_wp2_with fail
  refine (of10_c _ _ _ _ pe_1 oe_1 _ re_1 _).mono ?_
  rintro e u2 ⟨rfl, hq⟩
  dsimp only [DoR.agg]
  replace HX := Lib.hid ((HX.out.keep hq).mono hq.size)
  replace HY := Lib.hid ((HY.out.keep hq).mono hq.size)
  replace HBX := Lib.hid (HBX.out.below hq HBX.out.lt)
  replace HBY := Lib.hid (HBY.out.below hq HBY.out.lt)
  replace hB := hB.trans (hq.mono hB.size)
  clear hq
  go_wp2_with fail
  refine (num10_c 0 _).mono ?_
  rintro e u3 ⟨rfl, hq⟩
  replace HX := Lib.hid ((HX.out.keep hq).mono hq.size)
  replace HY := Lib.hid ((HY.out.keep hq).mono hq.size)
  replace HBX := Lib.hid (HBX.out.below hq HBX.out.lt)
  replace HBY := Lib.hid (HBY.out.below hq HBY.out.lt)
  replace hB := hB.trans (hq.mono hB.size)
  clear hq
  go_wp2_with fail
  refine (of10_c _ _ _ _ pe_2 oe_2 _ re_2 _).mono ?_
  rintro e u4 ⟨rfl, hq⟩
  dsimp only [DoR.agg]
  replace HX := Lib.hid ((HX.out.keep hq).mono hq.size)
  replace HY := Lib.hid ((HY.out.keep hq).mono hq.size)
  replace HBX := Lib.hid (HBX.out.below hq HBX.out.lt)
  replace HBY := Lib.hid (HBY.out.below hq HBY.out.lt)
  replace hB := hB.trans (hq.mono hB.size)
  clear hq
  go_wp2_with fail
  refine (num10_c (-7) _).mono ?_
  rintro e u5 ⟨rfl, hq⟩
  replace HX := Lib.hid ((HX.out.keep hq).mono hq.size)
  replace HY := Lib.hid ((HY.out.keep hq).mono hq.size)
  replace HBX := Lib.hid (HBX.out.below hq HBX.out.lt)
  replace HBY := Lib.hid (HBY.out.below hq HBY.out.lt)
  replace hB := hB.trans (hq.mono hB.size)
  clear hq
  go_wp2_with fail
  refine (of10_c _ _ _ _ pe_3 oe_3 _ re_3 _).mono ?_
  rintro e u6 ⟨rfl, hq⟩
  dsimp only [DoR.agg]
  replace HX := Lib.hid ((HX.out.keep hq).mono hq.size)
  replace HY := Lib.hid ((HY.out.keep hq).mono hq.size)
  replace HBX := Lib.hid (HBX.out.below hq HBX.out.lt)
  replace HBY := Lib.hid (HBY.out.below hq HBY.out.lt)
  replace hB := hB.trans (hq.mono hB.size)
  clear hq
  go_wp2_with fail
  refine (of10_c _ _ _ _ pe_4 oe_4 _ re_4 _).mono ?_
  rintro e u7 ⟨rfl, hq⟩
  dsimp only [DoR.agg]
  replace HX := Lib.hid ((HX.out.keep hq).mono hq.size)
  replace HY := Lib.hid ((HY.out.keep hq).mono hq.size)
  replace HBX := Lib.hid (HBX.out.below hq HBX.out.lt)
  replace HBY := Lib.hid (HBY.out.below hq HBY.out.lt)
  replace hB := hB.trans (hq.mono hB.size)
  clear hq
  go_wp2_with fail
  refine (num10_c 2 _).mono ?_
  rintro e u8 ⟨rfl, hq⟩
  replace HX := Lib.hid ((HX.out.keep hq).mono hq.size)
  replace HY := Lib.hid ((HY.out.keep hq).mono hq.size)
  replace HBX := Lib.hid (HBX.out.below hq HBX.out.lt)
  replace HBY := Lib.hid (HBY.out.below hq HBY.out.lt)
  replace hB := hB.trans (hq.mono hB.size)
  clear hq
  have p0 := HBX.out.cell 0
  have p1 := HBX.out.cell 1
  have p2 := HBX.out.cell 2
  have q0 := HBY.out.cell 0
  have q1 := HBY.out.cell 1
  have q2 := HBY.out.cell 2
  go_wp2_with fail
  refine (Int_c (.mk 12 0 [.mk 1 1 [], .mk 1 2 []]) okx _ _ _ ⟨0, 0, 0⟩ ⟨_, rfl, HX.out⟩ (Nat.le_refl _)).mono ?_
  rw [rx]
  rintro e u9 ⟨rfl, hq⟩
  replace HX := Lib.hid ((HX.out.keep hq).mono hq.size)
  replace HY := Lib.hid ((HY.out.keep hq).mono hq.size)
  replace HBX := Lib.hid (HBX.out.below hq HBX.out.lt)
  replace HBY := Lib.hid (HBY.out.below hq HBY.out.lt)
  replace hB := hB.trans (hq.mono hB.size)
  clear hq
  clear p0 p1 p2 q0 q1 q2
  have p0 := HBX.out.cell 0
  have p1 := HBX.out.cell 1
  have p2 := HBX.out.cell 2
  have q0 := HBY.out.cell 0
  have q1 := HBY.out.cell 1
  have q2 := HBY.out.cell 2
  go_wp2_with fail
  refine (Bool_c (.mk 12 0 [.mk 1 1 [], .mk 1 2 []]) okx _ _ _ ⟨0, 0, 0⟩ ⟨_, rfl, HX.out⟩ (Nat.le_refl _)).mono ?_
  rw [rx]
  rintro e u10 ⟨rfl, hq⟩
  replace HX := Lib.hid ((HX.out.keep hq).mono hq.size)
  replace HY := Lib.hid ((HY.out.keep hq).mono hq.size)
  replace HBX := Lib.hid (HBX.out.below hq HBX.out.lt)
  replace HBY := Lib.hid (HBY.out.below hq HBY.out.lt)
  replace hB := hB.trans (hq.mono hB.size)
  clear hq
  clear p0 p1 p2 q0 q1 q2
  have p0 := HBX.out.cell 0
  have p1 := HBX.out.cell 1
  have p2 := HBX.out.cell 2
  have q0 := HBY.out.cell 0
  have q1 := HBY.out.cell 1
  have q2 := HBY.out.cell 2
  go_wp2_with fail
  refine (Bool_c (.mk 1 1 []) oky _ _ _ ⟨0, 0, 0⟩ ⟨_, rfl, HY.out⟩ (Nat.le_refl _)).mono ?_
  rw [ry]
  rintro e u11 ⟨rfl, hq⟩
  replace HX := Lib.hid ((HX.out.keep hq).mono hq.size)
  replace HY := Lib.hid ((HY.out.keep hq).mono hq.size)
  replace HBX := Lib.hid (HBX.out.below hq HBX.out.lt)
  replace HBY := Lib.hid (HBY.out.below hq HBY.out.lt)
  replace hB := hB.trans (hq.mono hB.size)
  clear hq
  clear p0 p1 p2 q0 q1 q2
  go_wp2_with fail
  go_ret
  exact ⟨rfl, hB⟩

end Go.Proofs.Ytclknpfmmmaafaa
