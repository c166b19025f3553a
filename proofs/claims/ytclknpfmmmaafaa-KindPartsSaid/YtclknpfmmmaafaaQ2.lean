/-
  The walk of KindParts.
-/
import Derived.Test.YtclknpfmmmaafaaQ1
import Derived.Test.YtclknpfmmmaafaaA0
namespace Go.Proofs.Ytclknpfmmmaafaa
open Go.RowKit
set_option linter.unusedVariables false

set_option maxRecDepth 100000 in
set_option maxHeartbeats 4000000 in
theorem kParts_c (w : World) (x : Ex) (v : Value) (gx : ExAt w w.heap.size v x) (kx : x.ok) (acc : Bool) :
    Calls Try.prog 4 #[v, .bool acc] w fun e w' => e = .returned (.bool true) ∧ Below w.heap.size w w' := by
  have GX := Lib.hid gx
  have hparts := @typ_parts x acc
  have herr := @typ_err x acc
  obtain ⟨sv, rfl, hs⟩ := gx
  obtain ⟨a, cap, rfl, hcap, hmx⟩ := hs.slice
  have HS := Lib.hid hs
  have hlm : x.args.length ≤ 9223372036854775807 := by unfold maxLen at hmx; omega
  have hW := (Below.refl w.heap.size w).alloc (Nat.le_refl _) (.cells #[.int .u8 x.op, .int .i64 x.n, .slice a x.args.length cap] 28)
  have hb1 := Blk.new w #[.int .u8 x.op, .int .i64 x.n, .slice a x.args.length cap] 28
  have HOF := Lib.hid (fun W => Of_c x acc (.agg #[.int .u8 x.op, .int .i64 x.n, .slice a x.args.length cap]) w.heap.size W)
  have HOT := Lib.hid (fun W => Of_c x true (.agg #[.int .u8 x.op, .int .i64 x.n, .slice a x.args.length cap]) w.heap.size W)
  generalize x.typ acc = p at *
  obtain ⟨t, er⟩ := p
  dsimp only at hparts herr
  generalize hxl : x.args = xl at *
  generalize hxo : x.op = xo at *
  generalize hxn : x.n = xn at *
  clear hs hxl hxo hxn kx
  obtain ⟨nx, hnx⟩ : ∃ n, x.size = n := ⟨_, rfl⟩
  have hnx2 := Ex.size_le x
  rw [hnx] at hnx2
  have HNX := Lib.hid hnx
  clear hnx
  have hl1 := hb1.lt
  by_cases h1 : nx < 2000
  · by_cases he : er = 0
    · subst he
      obtain ⟨q1, q2, q3⟩ := hparts rfl
      rw [q1] at HOT
      have HQ3 := Lib.hid q3
      have htt : (t != t) = false := by simp
      have hq2 : ((t == 1) = true) ∨ ((t == 1) = false ∧ (t == 2) = true) := by rcases q2 with rfl | rfl <;> decide
      clear hparts herr q1 q3 q2
      go_enter Try.func4, Try.ntmps4
      go_upto_region 1 with fail
      generalize World.alloc w _ = W at *
      have p0 := hb1.cell 0
      have p1 := hb1.cell 1
      have p2 := hb1.cell 2
      go_wp2_with fail
      refine (Size_c x _ w.heap.size _ (GX.out.keep hW) hW.size).mono ?_
      rw [HNX.out]
      rintro e w1 ⟨rfl, hq1⟩
      have hd1 := hb1.below hq1 hl1
      have hW1 := hW.trans (hq1.mono hW.size)
      have r0 := hd1.cell 0
      have r1 := hd1.cell 1
      have r2 := hd1.cell 2
      go_wp2_with fail
      refine (HOF.out _ (GX.out.keep hW1) hW1.size).mono ?_
      rintro e w2 ⟨rfl, hq2'⟩
      have hd2 := hd1.below hq2' hd1.lt
      have hW2 := hW1.trans (hq2'.mono hW1.size)
      have s0 := hd2.cell 0
      have s1 := hd2.cell 1
      have s2 := hd2.cell 2
      clear p0 p1 p2 r0 r1 r2 hq1 hq2' hd1 hb1 hW hW1
      go_wp2_with fail
      refine (HOT.out _ (GX.out.keep hW2) hW2.size).mono ?_
      rintro e w3 ⟨rfl, hq3⟩
      have hd3 := hd2.below hq3 hd2.lt
      have hW3 := hW2.trans (hq3.mono hW2.size)
      have u2 := hd3.cell 2
      clear s0 s1 s2 hd2 hq3 hW2
      go_wp2_with fail
      have H3 := Lib.hid hW3
      clear u2 hW3
      go_loopw [45] (fun q wr => ∃ j : Nat, q = .int .i64 j ∧ j ≤ xl.length ∧ Below w.heap.size w wr) (fun q _ => xl.length - (intOf q).toNat)
      case atStart => exact ⟨0, rfl, Nat.zero_le _, H3.out⟩
      case round =>
        obtain ⟨j, rfl, hj, hBr⟩ := hrel
        by_cases hlt : j < xl.length
        · obtain ⟨b, off, cp, sv, e1, hb, c0, c1, c2, hsub⟩ := (HS.out.keep hBr).at_ j hlt
          simp only [Value.slice.injEq, true_and] at e1
          obtain ⟨rfl, rfl⟩ := e1
          obtain ⟨a2, cap2, rfl, _, _⟩ := hsub.slice
          have hok := HQ3.out _ (List.getElem_mem hlt)
          generalize xl[j] = y at *
          have HY : Hid (ExAt (wr.alloc (.cells #[.int .u8 y.op, .int .i64 y.n, .slice a2 y.args.length cap2] 28)) (wr.alloc (.cells #[.int .u8 y.op, .int .i64 y.n, .slice a2 y.args.length cap2] 28)).heap.size (.agg #[.int .u8 y.op, .int .i64 y.n, .slice a2 y.args.length cap2]) y) :=
            ⟨_, rfl, ((hsub.mono hBr.size).keep ((Below.refl _ wr).alloc (Nat.le_refl _) _)).mono (by simp)⟩
          have HBY := Lib.hid (hBr.alloc hBr.size (.cells #[.int .u8 y.op, .int .i64 y.n, .slice a2 y.args.length cap2] 28))
          have HOK := Lib.hid hok
          clear hsub hok
          go_wp2_with (go_at_call 16; refine (Of_c y acc _ _ _ HY.out (Nat.le_refl _)).mono ?_; rw [HOK.out]; rintro e w4 ⟨rfl, hq4⟩)
          go_roundw
          case rel => exact ⟨j + 1, by go_num, by omega, HBY.out.trans (hq4.mono HBY.out.size)⟩
          case measure => simp [intOf]; omega
        · rcases hq2 with h2 | ⟨h2, h3⟩
          all_goals
            go_wp2_with (go_at_call 14; refine (kworks_c _).mono ?_; rintro e w9 ⟨rfl, hq9⟩)
            go_ret
            exact ⟨rfl, hBr.trans (hq9.mono hBr.size)⟩
    · obtain rfl := herr he
      have he' : (er != 0) = true := by simpa using he
      clear hparts herr he
      go_enter Try.func4, Try.ntmps4
      go_upto_region 1 with fail
      generalize World.alloc w _ = W at *
      have p0 := hb1.cell 0
      have p1 := hb1.cell 1
      have p2 := hb1.cell 2
      go_wp2_with fail
      refine (Size_c x _ w.heap.size _ (GX.out.keep hW) hW.size).mono ?_
      rw [HNX.out]
      rintro e w1 ⟨rfl, hq1⟩
      have hd1 := hb1.below hq1 hl1
      have hW1 := hW.trans (hq1.mono hW.size)
      have r0 := hd1.cell 0
      have r1 := hd1.cell 1
      have r2 := hd1.cell 2
      go_wp2_with fail
      refine (HOF.out _ (GX.out.keep hW1) hW1.size).mono ?_
      rintro e w2 ⟨rfl, hq2'⟩
      have hW2 := hW1.trans (hq2'.mono hW1.size)
      go_wp2_with (go_at_call 14; refine (kworks_c _).mono ?_; rintro e w9 ⟨rfl, hq9⟩)
      go_ret
      exact ⟨rfl, hW2.trans (hq9.mono hW2.size)⟩
  · clear hparts herr
    go_enter Try.func4, Try.ntmps4
    go_upto_region 1 with fail
    generalize World.alloc w _ = W at *
    have p0 := hb1.cell 0
    have p1 := hb1.cell 1
    have p2 := hb1.cell 2
    go_wp2_with fail
    refine (Size_c x _ w.heap.size _ (GX.out.keep hW) hW.size).mono ?_
    rw [HNX.out]
    rintro e w1 ⟨rfl, hq1⟩
    have hW1 := hW.trans (hq1.mono hW.size)
    go_wp2_with (go_at_call 14; refine (kworks_c _).mono ?_; rintro e w4 ⟨rfl, hb4⟩)
    go_ret
    exact ⟨rfl, hW1.trans (hb4.mono hW1.size)⟩

end Go.Proofs.Ytclknpfmmmaafaa
