/-
  The walk of ExprGood.
-/
import Derived.Test.YtjejnbhcgbbmhaaE12
import Derived.Test.YtjejnbhcgbbmhaaP9
namespace Go.Proofs.Ytjejnbhcgbbmhaa
open Go.RowKit
set_option linter.unusedVariables false

set_option maxHeartbeats 2000000 in
theorem eGood_c (s : ByteArray) (hs : s.size ≤ 140737488351232) (w : World) : Calls Try.prog 12 #[.string s] w fun e w' => e = .returned (.bool true) ∧ Below w.heap.size w w' := by
  by_cases h5 : s.size ≤ 5000
  · have h5' : ¬ (5000 : Int) < (s.size : Int) := by omega
    have good := parse_good s
    have hPA := Parse_c s w
    unfold ParsePost at hPA
    generalize parse s = p at *
    obtain ⟨x, a, err⟩ := p
    dsimp only at good hPA
    have HP := Lib.hid hPA
    clear hPA
    by_cases he : err = 0
    · subst he
      obtain ⟨g1, g2, g3⟩ := good.1 rfl
      have HM : Hid (x.mayT = true) := g1
      subst g3
      generalize hdd : deepN 16 x = dd at *
      have HDD := Lib.hid hdd
      clear good g1 hdd
      go_enter Try.func12, Try.ntmps12
      go_upto_region 4 with (go_at_call 24; refine HP.out.mono ?_; rintro e w1 ⟨_, rfl, ha, hb⟩; obtain ⟨a1, c1, rfl, _, _⟩ := ha.slice)
      have hX := Blk.new w1 #[.int .u8 x.op, .int .i64 x.n, .slice a1 x.args.length c1] 28
      have hB1 := hb.alloc hb.size (.cells #[.int .u8 x.op, .int .i64 x.n, .slice a1 x.args.length c1] 28)
      have HX : Hid (ExAt (w1.alloc (.cells #[.int .u8 x.op, .int .i64 x.n, .slice a1 x.args.length c1] 28)) (w1.alloc (.cells #[.int .u8 x.op, .int .i64 x.n, .slice a1 x.args.length c1] 28)).heap.size (.agg #[.int .u8 x.op, .int .i64 x.n, .slice a1 x.args.length c1]) x) :=
        ⟨_, rfl, ArgsAt.step ha ((Below.refl _ _).alloc (Nat.le_refl _) _)⟩
      generalize hxb : w1.heap.size = xb at *
      generalize w1.alloc _ = W at *
      have x0 := hX.cell 0
      have x1 := hX.cell 1
      have x2 := hX.cell 2
      clear hb ha hxb
      go_wp2_with fail
      refine (May_c x _ _ _ HX.out (Nat.le_refl _)).mono ?_
      rw [HM.out]
      rintro e w2 ⟨rfl, hb2⟩
      have hX2 := hX.below hb2 hX.lt
      have y0 := hX2.cell 0
      have y1 := hX2.cell 1
      have y2 := hX2.cell 2
      have hB2 := hB1.trans (hb2.mono hB1.size)
      have HX2 := Lib.hid ((HX.out.keep hb2).mono hb2.size)
      go_wp2_with fail
      refine (Deep_c x _ _ _ HX2.out (Nat.le_refl _)).mono ?_
      rw [HDD.out]
      rintro e w3 ⟨rfl, hb3⟩
      have hB3 := hB2.trans (hb3.mono hB2.size)
      go_wp2_with (go_at_call 25; refine (eworks_c _).mono ?_; rintro e w4 ⟨rfl, hb4⟩)
      go_ret
      exact ⟨rfl, hB3.trans (hb4.mono hB3.size)⟩
    · obtain rfl := good.2.1 he
      have ha0 := good.2.2
      have he' : (err != 0) = true := by simpa using he
      clear good he
      go_enter Try.func12, Try.ntmps12
      go_upto_region 4 with (go_at_call 24; refine HP.out.mono ?_; rintro e w1 ⟨_, rfl, ha, hb⟩; obtain ⟨a1, c1, rfl, _, _⟩ := ha.slice)
      have hX := Blk.new w1 #[.int .u8 0, .int .i64 0, .slice a1 0 c1] 28
      have hB1 := hb.alloc hb.size (.cells #[.int .u8 0, .int .i64 0, .slice a1 0 c1] 28)
      have HX : Hid (ExAt (w1.alloc (.cells #[.int .u8 0, .int .i64 0, .slice a1 0 c1] 28)) (w1.alloc (.cells #[.int .u8 0, .int .i64 0, .slice a1 0 c1] 28)).heap.size (.agg #[.int .u8 0, .int .i64 0, .slice a1 0 c1]) Ex.zero) :=
        ⟨_, rfl, ArgsAt.step ha ((Below.refl _ _).alloc (Nat.le_refl _) _)⟩
      have HZ : Hid (Ex.zero.sameB Ex.zero = true) := by show _ = _; decide
      simp only [Ex.zero, Ex.op, Ex.n, Ex.args, List.length_nil]
      generalize hxb : w1.heap.size = xb at *
      generalize w1.alloc _ = W at *
      have x0 := hX.cell 0
      have x1 := hX.cell 1
      have x2 := hX.cell 2
      clear hb ha hxb
      go_wp2_with fail
      refine (Same_c Ex.zero Ex.zero _ _ _ _ HX.out ⟨_, rfl, .nil none 0 (Nat.zero_le _)⟩ (Nat.le_refl _)).mono ?_
      rw [HZ.out]
      rintro e w2 ⟨rfl, hb2⟩
      have hB2 := hB1.trans (hb2.mono hB1.size)
      go_wp2_with (go_at_call 25; refine (eworks_c _).mono ?_; rintro e w4 ⟨rfl, hb4⟩)
      go_ret
      exact ⟨rfl, hB2.trans (hb4.mono hB2.size)⟩
  · have h5' : (5000 : Int) < (s.size : Int) := by omega
    go_enter Try.func12, Try.ntmps12
    go_wp2_with (go_at_call 25; refine (eworks_c _).mono ?_; rintro e w4 ⟨rfl, hb4⟩)
    go_ret
    exact ⟨rfl, hb4⟩

end Go.Proofs.Ytjejnbhcgbbmhaa
