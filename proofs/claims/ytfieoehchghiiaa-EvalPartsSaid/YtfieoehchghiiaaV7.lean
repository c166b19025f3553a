/-
  Walks: num, of, works of the statements on what expressions come to; EvalKnown.
-/
import Derived.Test.YtfieoehchghiiaaV6
namespace Go.Proofs.Ytfieoehchghiiaa
open Go.RowKit
set_option linter.unusedVariables false

set_option maxHeartbeats 400000 in
theorem num10_c (n : Int) (w : World) : Calls Try.prog 66 #[.int .i64 n] w fun e w' => e = .returned (.agg #[.int .u8 1, .int .i64 n, .bool false]) ∧ Below w.heap.size w w' := by
  go_enter Try.func66, Try.ntmps66
  go_wp2
  have h0 := Blk.new w #[.int .u8 1, .int .i64 n, .bool false] 48
  refine bodyPost_ret (v := .agg #[_, _, _]) (results_cell_row rfl _ _ w.heap.size 48 _ (0, 0) _ rfl h0 Try.underlying48 rfl ?_) rfl ⟨rfl, (Below.refl _ _).alloc (Nat.le_refl _) _⟩
  as_aux_lemma => kernel_rfl

set_option maxRecDepth 100000 in
set_option maxHeartbeats 1000000 in
theorem of10_c (s : ByteArray) (x : Ex) (a er : Int) (hp : parse s = (x, a, er)) (hok : x.ok) (r : DoR) (hr : x.doR ⟨7, 2, 0⟩ = r) (w : World) : Calls Try.prog 65 #[.string s] w fun e w' => e = .returned r.agg ∧ Below w.heap.size w w' := by
  have hPA := Parse_c s (w.alloc (.cells #[.int .u8 0, .int .i64 0, .bool false] 48))
  rw [hp] at hPA
  unfold ParsePost at hPA
  dsimp only at hPA
  have HP := Lib.hid hPA
  have HDO := Lib.hid (fun v B W => Do_c x hok v B W ⟨7, 2, 0⟩)
  rw [hr] at HDO
  clear hPA hp hr
  obtain ⟨t, n, b, e2⟩ := r
  have hres := Blk.new w #[.int .u8 0, .int .i64 0, .bool false] 48
  have hB0 := (Below.refl _ w).alloc (Nat.le_refl _) (.cells #[.int .u8 0, .int .i64 0, .bool false] 48)
  go_enter Try.func65, Try.ntmps65
  go_upto_region 2 with (go_at_call 89; refine HP.out.mono ?_; rintro e w1 ⟨sv, rfl, ha, hb⟩; obtain ⟨a1, c1, rfl, _, _⟩ := ha.slice)
  have hY := Blk.new w1 #[.int .u8 x.op, .int .i64 x.n, .slice a1 x.args.length c1] 35
  have hB1 := (hB0.trans (hb.mono hB0.size)).alloc (hB0.trans (hb.mono hB0.size)).size (.cells #[.int .u8 x.op, .int .i64 x.n, .slice a1 x.args.length c1] 35)
  have hr1 := (hres.below hb hres.lt).alloc (.cells #[.int .u8 x.op, .int .i64 x.n, .slice a1 x.args.length c1] 35)
  have HY : Hid (ExAt (w1.alloc (.cells #[.int .u8 x.op, .int .i64 x.n, .slice a1 x.args.length c1] 35)) (w1.alloc (.cells #[.int .u8 x.op, .int .i64 x.n, .slice a1 x.args.length c1] 35)).heap.size (.agg #[.int .u8 x.op, .int .i64 x.n, .slice a1 x.args.length c1]) x) :=
    ⟨_, rfl, (ha.keep ((Below.refl _ w1).alloc (Nat.le_refl _) _)).mono (by simp)⟩
  generalize hyb : w1.heap.size = yb at *
  generalize w1.alloc _ = W at *
  have y0 := hY.cell 0
  have y1 := hY.cell 1
  have y2 := hY.cell 2
  clear hb ha hyb hres hB0
  go_wp2_with fail
  refine (HDO.out _ _ _ HY.out (Nat.le_refl _)).mono ?_
  rintro e w2 ⟨rfl, hq2⟩
  dsimp only [DoR.agg]
  have hr2 := hr1.below hq2 hr1.lt
  have hB2 := hB1.trans (hq2.mono hB1.size)
  go_upto_region 3 with fail
  have hr3 := hr2.alloc (.cells #[.int .u8 t, .int .i64 n, .bool b] 48)
  have hv3 := Blk.new w2 #[.int .u8 t, .int .i64 n, .bool b] 48
  have hB3 := hB2.alloc hB2.size (.cells #[.int .u8 t, .int .i64 n, .bool b] 48)
  generalize hvb : w2.heap.size = vb at *
  generalize w2.alloc _ = W3 at *
  have r0 := hr3.cell 0
  have r1 := hr3.cell 1
  have r2 := hr3.cell 2
  have z0 := hr3.free 0
  have z1 := hr3.free 1
  have z2 := hr3.free 2
  have v0 := hv3.cell 0
  have v1 := hv3.cell 1
  have v2 := hv3.cell 2
  clear y0 y1 y2 hvb
  go_wp2_with fail
  refine bodyPost_ret (v := .agg #[_, _, _]) (results_cell_row rfl _ _ w.heap.size 48 _ (0, 0) _ rfl (val_set hr3 rfl _ _ _) Try.underlying48 rfl ?_) rfl ⟨rfl, ?_⟩
  · as_aux_lemma => kernel_rfl
  · exact ((hB3.setCell (p := ⟨w.heap.size, 0, none⟩) (Nat.le_refl _) _).setCell (p := ⟨w.heap.size, 1, none⟩) (Nat.le_refl _) _).setCell (p := ⟨w.heap.size, 2, none⟩) (Nat.le_refl _) _

theorem pe_0 : parse { data := #[107, 101, 121, 32, 47, 32, 118, 97, 108] } = ((.mk 10 0 [.mk 2 0 [], .mk 3 0 []]), 0, 0) := by kernel_rfl
theorem oe_0 : Ex.ok (.mk 10 0 [.mk 2 0 [], .mk 3 0 []]) := by simp [Ex.ok, Exs.ok]
theorem re_0 : Ex.doR (.mk 10 0 [.mk 2 0 [], .mk 3 0 []]) ⟨7, 2, 0⟩ = ⟨1, 3, false, 0⟩ := by kernel_rfl
theorem pe_1 : parse { data := #[107, 101, 121, 32, 37, 32, 48] } = ((.mk 11 0 [.mk 2 0 [], .mk 1 0 []]), 0, 0) := by kernel_rfl
theorem oe_1 : Ex.ok (.mk 11 0 [.mk 2 0 [], .mk 1 0 []]) := by simp [Ex.ok, Exs.ok]
theorem re_1 : Ex.doR (.mk 11 0 [.mk 2 0 [], .mk 1 0 []]) ⟨7, 2, 0⟩ = ⟨1, 0, false, 0⟩ := by kernel_rfl
theorem pe_2 : parse { data := #[45, 107, 101, 121] } = ((.mk 5 0 [.mk 2 0 []]), 0, 0) := by kernel_rfl
theorem oe_2 : Ex.ok (.mk 5 0 [.mk 2 0 []]) := by simp [Ex.ok, Exs.ok]
theorem re_2 : Ex.doR (.mk 5 0 [.mk 2 0 []]) ⟨7, 2, 0⟩ = ⟨1, -7, false, 0⟩ := by kernel_rfl
theorem pe_3 : parse { data := #[107, 101, 121, 32, 60, 32, 118, 97, 108] } = ((.mk 12 0 [.mk 2 0 [], .mk 3 0 []]), 0, 0) := by kernel_rfl
theorem oe_3 : Ex.ok (.mk 12 0 [.mk 2 0 [], .mk 3 0 []]) := by simp [Ex.ok, Exs.ok]
theorem re_3 : Ex.doR (.mk 12 0 [.mk 2 0 [], .mk 3 0 []]) ⟨7, 2, 0⟩ = ⟨2, 0, false, 0⟩ := by kernel_rfl
theorem pe_4 : parse { data := #[105, 102, 32, 107, 101, 121, 32, 60, 32, 118, 97, 108, 32, 116, 104, 101, 110, 32, 49, 32, 101, 108, 115, 101, 32, 50] } = ((.mk 18 0 [.mk 12 0 [.mk 2 0 [], .mk 3 0 []], .mk 1 1 [], .mk 1 2 []]), 0, 0) := by kernel_rfl
theorem oe_4 : Ex.ok (.mk 18 0 [.mk 12 0 [.mk 2 0 [], .mk 3 0 []], .mk 1 1 [], .mk 1 2 []]) := by simp [Ex.ok, Exs.ok]
theorem re_4 : Ex.doR (.mk 18 0 [.mk 12 0 [.mk 2 0 [], .mk 3 0 []], .mk 1 1 [], .mk 1 2 []]) ⟨7, 2, 0⟩ = ⟨1, 2, false, 0⟩ := by kernel_rfl
set_option maxHeartbeats 1000000 in
theorem ework_c (w : World) : Calls Try.prog 24 #[] w fun e w' => e = .returned (.bool true) ∧ Below w.heap.size w w' := by
  have heq : ∀ w : World, (binOp .eql 48 (.agg #[.int .u8 1, .int .i64 3, .bool false]) (.agg #[.int .u8 1, .int .i64 3, .bool false])).run Try.prog w = .ok (.bool true) w := fun _ => by kernel_rfl
  go_enter Try.func24, Try.ntmps24
  go_wp2_with fail
  refine (of10_c _ _ _ _ pe_0 oe_0 _ re_0 _).mono ?_
  rintro e w1 ⟨rfl, hb1⟩
  dsimp only [DoR.agg]
  go_wp2_with fail
  refine (num10_c 3 _).mono ?_
  rintro e w2 ⟨rfl, hb2⟩
  go_wp2_with fail
  go_ret
  exact ⟨rfl, hb1.trans (hb2.mono hb1.size)⟩

end Go.Proofs.Ytfieoehchghiiaa
