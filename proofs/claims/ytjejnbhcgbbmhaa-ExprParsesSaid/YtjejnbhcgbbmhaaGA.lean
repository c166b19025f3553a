/-
  The walk of ExprParses.
-/
import Derived.Test.YtjejnbhcgbbmhaaG9
import Derived.Test.YtjejnbhcgbbmhaaE12
import Derived.Test.YtjejnbhcgbbmhaaY3
namespace Go.Proofs.Ytjejnbhcgbbmhaa
open Go.RowKit
set_option linter.unusedVariables false

set_option maxHeartbeats 4000000 in
theorem eParses_c (s : ByteArray) (hs : s.size ≤ 140737488351232) (w : World) : Calls Try.prog 9 #[.string s] w fun e w' => e = .returned (.bool true) ∧ Below w.heap.size w w' := by
  by_cases h5 : s.size ≤ 5000
  · have h5' : ¬ (5000 : Int) < (s.size : Int) := by omega
    have HP := Lib.hid (fun W => Parse_c s W)
    have HQ := Lib.hid (fun W => rParse_c s W)
    unfold ParsePost at HP HQ
    generalize parse s = p at *
    obtain ⟨x, pa, pe⟩ := p
    dsimp only at HP HQ
    have haa : (pa == pa) = true := by simp
    have hee : (pe == pe) = true := by simp
    have HSM := Lib.hid (Ex.sameB_self x)
    have hB1 := Below.refl w.heap.size w
    go_enter Try.func9, Try.ntmps9
    go_upto_region 4 with (go_at_call 24; refine (HP.out w).mono ?_; rintro e w1 ⟨sv, rfl, ha, hb⟩; obtain ⟨a1, c1, rfl, _, _⟩ := ha.slice)
    have hX := Blk.new w1 #[.int .u8 x.op, .int .i64 x.n, .slice a1 x.args.length c1] 28
    have hB2 := (hB1.trans (hb.mono hB1.size)).alloc (Nat.le_trans hB1.size hb.size) (.cells #[.int .u8 x.op, .int .i64 x.n, .slice a1 x.args.length c1] 28)
    have HX : Hid (ExAt (w1.alloc (.cells #[.int .u8 x.op, .int .i64 x.n, .slice a1 x.args.length c1] 28)) (w1.alloc (.cells #[.int .u8 x.op, .int .i64 x.n, .slice a1 x.args.length c1] 28)).heap.size (.agg #[.int .u8 x.op, .int .i64 x.n, .slice a1 x.args.length c1]) x) :=
      ⟨_, rfl, ArgsAt.step ha ((Below.refl _ _).alloc (Nat.le_refl _) _)⟩
    generalize hxb : w1.heap.size = xb at *
    generalize w1.alloc _ = W1 at *
    have HXB := Lib.hid hX
    have hxl := hX.lt
    clear hb ha hxb hX hB1
    go_upto_region 5 with (go_at_call 29; refine (HQ.out W1).mono ?_; rintro e w2 ⟨sv, rfl, ha, hb⟩; obtain ⟨a2, c2, rfl, _, _⟩ := ha.slice)
    have hX2 := (HXB.out.below hb hxl).alloc (.cells #[.int .u8 x.op, .int .i64 x.n, .slice a2 x.args.length c2] 28)
    have hY := Blk.new w2 #[.int .u8 x.op, .int .i64 x.n, .slice a2 x.args.length c2] 28
    have hB3 := (hB2.trans (hb.mono hB2.size)).alloc (Nat.le_trans hB2.size hb.size) (.cells #[.int .u8 x.op, .int .i64 x.n, .slice a2 x.args.length c2] 28)
    have hS := (Below.refl w2.heap.size w2).alloc (Nat.le_refl _) (.cells #[.int .u8 x.op, .int .i64 x.n, .slice a2 x.args.length c2] 28)
    have HY : Hid (ExAt (w2.alloc (.cells #[.int .u8 x.op, .int .i64 x.n, .slice a2 x.args.length c2] 28)) (w2.alloc (.cells #[.int .u8 x.op, .int .i64 x.n, .slice a2 x.args.length c2] 28)).heap.size (.agg #[.int .u8 x.op, .int .i64 x.n, .slice a2 x.args.length c2]) x) :=
      ⟨_, rfl, ArgsAt.step ha hS⟩
    have HX2 := Lib.hid (((HX.out.keep hb).keep (hS.mono hb.size)).mono (Nat.le_trans hb.size hS.size))
    generalize hyb : w2.heap.size = yb at *
    generalize w2.alloc _ = W2 at *
    have x0 := hX2.cell 0
    have x1 := hX2.cell 1
    have x2 := hX2.cell 2
    have y0 := hY.cell 0
    have y1 := hY.cell 1
    have y2 := hY.cell 2
    clear hb ha hyb hX2 hY hB2 HXB HX hS hxl
    go_wp2_with (first | (go_at_call 30; refine (rSame_c x x _ _ _ _ HX2.out HY.out (Nat.le_refl _)).mono ?_; rw [HSM.out]; rintro e w3 ⟨rfl, hb3⟩; have hB4 := hB3.trans (hb3.mono hB3.size)) | (go_at_call 25; refine (eworks_c _).mono ?_; rintro e w4 ⟨rfl, hb4⟩))
    go_ret
    exact ⟨rfl, hB4.trans (hb4.mono hB4.size)⟩
  · have h5' : (5000 : Int) < (s.size : Int) := by omega
    go_enter Try.func9, Try.ntmps9
    go_wp2_with (go_at_call 25; refine (eworks_c _).mono ?_; rintro e w4 ⟨rfl, hb4⟩)
    go_ret
    exact ⟨rfl, hb4⟩

end Go.Proofs.Ytjejnbhcgbbmhaa
