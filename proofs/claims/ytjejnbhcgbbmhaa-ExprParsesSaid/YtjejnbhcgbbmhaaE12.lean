/-
  Walks: num, of, reads, works of the statements on expressions.
-/
import Derived.Test.YtjejnbhcgbbmhaaE11
import Derived.Test.YtjejnbhcgbbmhaaF1
import Derived.Test.YtjejnbhcgbbmhaaT9
namespace Go.Proofs.Ytjejnbhcgbbmhaa
open Go.RowKit
set_option linter.unusedVariables false

set_option maxHeartbeats 400000 in
theorem num_c (n : Int) (w : World) : Calls Try.prog 28 #[.int .i64 n] w fun e w' => e = .returned (.agg #[.int .u8 1, .int .i64 n, .slice none 0 0]) ∧ Below w.heap.size w w' := by
  go_enter Try.func28, Try.ntmps28
  go_wp2
  have h0 := Blk.new w #[.int .u8 1, .int .i64 n, .slice none 0 0] 28
  refine bodyPost_ret (v := .agg #[_, _, _]) (results_cell_row rfl _ _ w.heap.size 28 _ (0, 0) _ rfl h0 Try.underlying28 rfl ?_) rfl ⟨rfl, (Below.refl _ _).alloc (Nat.le_refl _) _⟩
  as_aux_lemma => kernel_rfl
set_option maxHeartbeats 400000 in
theorem of_c (op : Int) (a : Option Addr) (n c : Nat) (w : World) : Calls Try.prog 27 #[.int .u8 op, .slice a n c] w fun e w' => e = .returned (.agg #[.int .u8 op, .int .i64 0, .slice a n c]) ∧ Below w.heap.size w w' := by
  go_enter Try.func27, Try.ntmps27
  go_wp2
  have h0 := Blk.new w #[.int .u8 op, .int .i64 0, .slice a n c] 28
  refine bodyPost_ret (v := .agg #[_, _, _]) (results_cell_row rfl _ _ w.heap.size 28 _ (0, 0) _ rfl h0 Try.underlying28 rfl ?_) rfl ⟨rfl, (Below.refl _ _).alloc (Nat.le_refl _) _⟩
  as_aux_lemma => kernel_rfl

/-- Whether a text is just an expression. -/
def readsB (s : ByteArray) (x : Ex) : Bool := decide ((parse s).2.2 = 0) && (parse s).1.sameB x

set_option maxHeartbeats 1000000 in
theorem reads_c (s : ByteArray) (x : Ex) (v : Value) (w : World) (hv : ExAt w w.heap.size v x) :
    Calls Try.prog 26 #[.string s, v] w fun e w' => e = .returned (.bool (readsB s x)) ∧ Below w.heap.size w w' := by
  obtain ⟨sv, rfl, hs⟩ := hv
  obtain ⟨a, cap, rfl, hcap, hmx⟩ := hs.slice
  have HS := Lib.hid hs
  have hPA := Parse_c s (w.alloc (.cells #[.int .u8 x.op, .int .i64 x.n, .slice a x.args.length cap] 28))
  unfold ParsePost at hPA
  have HE : Hid (readsB s x = (decide ((parse s).2.2 = 0) && (parse s).1.sameB x)) := rfl
  generalize parse s = p at *
  obtain ⟨y, at_, err⟩ := p
  dsimp only at HE
  have HP := Lib.hid hPA
  clear hPA hs
  have hB := (Below.refl _ w).alloc (Nat.le_refl _) (.cells #[.int .u8 x.op, .int .i64 x.n, .slice a x.args.length cap] 28)
  have hX := Blk.new w #[.int .u8 x.op, .int .i64 x.n, .slice a x.args.length cap] 28
  by_cases he : err = 0
  · have he' : (err == 0) = true := by simpa using he
    have HE2 : Hid (readsB s x = y.sameB x) := by show _ = _; rw [HE.out, decide_eq_true he, Bool.true_and]
    clear HE he
    go_enter Try.func26, Try.ntmps26
    go_upto_region 2 with (go_at_call 24; refine HP.out.mono ?_; rintro e w1 ⟨sv, rfl, ha, hb⟩; obtain ⟨a1, c1, rfl, _, _⟩ := ha.slice)
    have hX1 := (hX.below hb hX.lt).alloc (.cells #[.int .u8 y.op, .int .i64 y.n, .slice a1 y.args.length c1] 28)
    have hY := Blk.new w1 #[.int .u8 y.op, .int .i64 y.n, .slice a1 y.args.length c1] 28
    have hB1 := hB.trans (hb.mono hB.size)
    have hB2 := hB1.alloc hB1.size (.cells #[.int .u8 y.op, .int .i64 y.n, .slice a1 y.args.length c1] 28)
    have HY : Hid (ExAt (w1.alloc (.cells #[.int .u8 y.op, .int .i64 y.n, .slice a1 y.args.length c1] 28)) (w1.alloc (.cells #[.int .u8 y.op, .int .i64 y.n, .slice a1 y.args.length c1] 28)).heap.size (.agg #[.int .u8 y.op, .int .i64 y.n, .slice a1 y.args.length c1]) y) :=
      ⟨_, rfl, ArgsAt.step ha ((Below.refl _ _).alloc (Nat.le_refl _) _)⟩
    have HX : Hid (ExAt (w1.alloc (.cells #[.int .u8 y.op, .int .i64 y.n, .slice a1 y.args.length c1] 28)) (w1.alloc (.cells #[.int .u8 y.op, .int .i64 y.n, .slice a1 y.args.length c1] 28)).heap.size (.agg #[.int .u8 x.op, .int .i64 x.n, .slice a x.args.length cap]) x) :=
      ⟨_, rfl, ArgsAt.step HS.out hB2⟩
    generalize hyb : w1.heap.size = yb at *
    generalize w1.alloc _ = W at *
    have x0 := hX1.cell 0
    have x1 := hX1.cell 1
    have x2 := hX1.cell 2
    have y0 := hY.cell 0
    have y1 := hY.cell 1
    have y2 := hY.cell 2
    clear hX hb hB1 ha hyb
    go_wp2_with (go_at_call 30; refine (rSame_c y x _ _ _ _ HY.out HX.out (Nat.le_refl _)).mono ?_; rintro e w2 ⟨rfl, hb2⟩)
    go_ret
    exact ⟨ret_bool HE2.out.symm, hB2.trans (hb2.mono hB2.size)⟩
  · have he' : (err == 0) = false := by simpa using he
    have HE2 : Hid (readsB s x = false) := by show _ = _; rw [HE.out, decide_eq_false he, Bool.false_and]
    clear HE he
    go_enter Try.func26, Try.ntmps26
    go_wp2_with (go_at_call 24; refine HP.out.mono ?_; rintro e w1 ⟨sv, rfl, ha, hb⟩; obtain ⟨a1, c1, rfl, _, _⟩ := ha.slice)
    go_ret
    have hB1 := hB.trans (hb.mono hB.size)
    exact ⟨ret_bool HE2.out.symm, hB1.alloc hB1.size _⟩

theorem reads_w : readsB { data := #[49, 32, 43, 32, 50, 32, 42, 32, 107, 101, 121] } (.mk 7 0 [(.mk 1 1 []), (.mk 9 0 [(.mk 1 2 []), (.mk 2 0 [])])]) = true := by kernel_rfl
set_option maxHeartbeats 2000000 in
theorem eworks_c (w : World) : Calls Try.prog 25 #[] w fun e w' => e = .returned (.bool true) ∧ Below w.heap.size w w' := by
  have hB := Below.refl w.heap.size w
  go_enter Try.func25, Try.ntmps25
  go_wp2_with fail
  refine (num_c 1 _).mono ?_
  rintro e wb1 ⟨rfl, hb1⟩
  have ht1 := hb1
  replace hB := Below.trans hB (ht1.mono hB.size)
  clear ht1 hb1
  go_wp2_with fail
  refine (num_c 2 _).mono ?_
  rintro e wb2 ⟨rfl, hb2⟩
  have ht2 := hb2
  replace hB := Below.trans hB (ht2.mono hB.size)
  clear ht2 hb2
  go_wp2_with fail
  refine (of_c 2 none 0 0 _).mono ?_
  rintro e wb3 ⟨rfl, hb3⟩
  have ht3 := hb3
  replace hB := Below.trans hB (ht3.mono hB.size)
  clear ht3 hb3
  go_wp2_with fail
  refine (of_c 9 (some ⟨wb3.heap.size, 0, none⟩) 2 2 _).mono ?_
  rintro e wb4 ⟨rfl, hb4⟩
  have ht4 := ((Below.refl _ wb3).alloc (Nat.le_refl _) (.cells #[.int .u8 1, .int .i64 2, .slice none 0 0, .int .u8 2, .int .i64 0, .slice none 0 0] 28)).trans (hb4.mono (by simp))
  have hn4 := (Blk.new wb3 #[.int .u8 1, .int .i64 2, .slice none 0 0, .int .u8 2, .int .i64 0, .slice none 0 0] 28).below hb4 (by simp)
  have ha1 := Lib.hid (ArgsAt.two (x := (.mk 1 2 []))  (y := (.mk 2 0 [])) hn4 hn4.lt (.nil none 0 (Nat.zero_le _)) (.nil none 0 (Nat.zero_le _)))
  replace hB := Below.trans hB (ht4.mono hB.size)
  clear ht4 hb4
  go_wp2_with fail
  refine (of_c 7 (some ⟨wb4.heap.size, 0, none⟩) 2 2 _).mono ?_
  rintro e wb5 ⟨rfl, hb5⟩
  have ht5 := ((Below.refl _ wb4).alloc (Nat.le_refl _) (.cells #[.int .u8 1, .int .i64 1, .slice none 0 0, .int .u8 9, .int .i64 0, .slice (some ⟨wb3.heap.size, 0, none⟩) 2 2] 28)).trans (hb5.mono (by simp))
  have hn5 := (Blk.new wb4 #[.int .u8 1, .int .i64 1, .slice none 0 0, .int .u8 9, .int .i64 0, .slice (some ⟨wb3.heap.size, 0, none⟩) 2 2] 28).below hb5 (by simp)
  replace ha1 := Lib.hid (ArgsAt.step ha1.out ht5)
  have ha2 := Lib.hid (ArgsAt.two (x := (.mk 1 1 []))  (y := (.mk 9 0 [(.mk 1 2 []), (.mk 2 0 [])])) hn5 hn5.lt (.nil none 0 (Nat.zero_le _)) ha1.out)
  replace hB := Below.trans hB (ht5.mono hB.size)
  clear ht5 hb5
  go_wp2_with fail
  refine (reads_c { data := #[49, 32, 43, 32, 50, 32, 42, 32, 107, 101, 121] } (.mk 7 0 [(.mk 1 1 []), (.mk 9 0 [(.mk 1 2 []), (.mk 2 0 [])])]) _ _ ⟨_, rfl, ha2.out⟩).mono ?_
  rintro e wb6 ⟨rfl, hb6⟩
  rw [reads_w]
  have ht6 := hb6
  replace ha2 := Lib.hid (ArgsAt.step ha2.out ht6)
  replace hB := Below.trans hB (ht6.mono hB.size)
  clear ht6 hb6
  clear ha2
  go_wp2_with fail
  go_ret
  exact ⟨rfl, hB⟩

end Go.Proofs.Ytjejnbhcgbbmhaa
