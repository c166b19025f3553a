/-
  The walks of TellBack and TellTwice.
-/
import Derived.Test.YtlkkigpjahlloaaDoorTE
import Derived.Test.YtlkkigpjahlloaaDoorT6
import Derived.Test.YtlkkigpjahlloaaDoorA0
namespace Go.Proofs.YtlkkigpjahlloaaDoor
open Go.RowKit
set_option linter.unusedVariables false

mutual
theorem Ex.same_self : ∀ x : Ex, x.sameB x = true
  | .mk o n l => by simp only [Ex.sameB]; rw [Exs.same_self l]; simp
theorem Exs.same_self : ∀ l : List Ex, Exs.sameB l l = true
  | [] => rfl
  | x :: l => by simp only [Exs.sameB]; rw [Ex.same_self x, Exs.same_self l]; rfl
end

set_option maxRecDepth 100000 in
set_option maxHeartbeats 2000000 in
theorem tBack_c (w : World) (x : Ex) (v : Value) (hv : ExAt w w.heap.size v x) (hok : x.ok) (htab : Pow10 w) :
    Calls Tryd.prog 4 #[v] w fun e w' => e = .returned (.bool true) ∧ Below w.heap.size w w' := by
  have HT := Lib.hid (TB.of htab)
  clear htab
  obtain ⟨sv, rfl, hs⟩ := hv
  have HV : Hid (ExAt w w.heap.size (.agg #[.int .u8 x.op, .int .i64 x.n, sv]) x) := ⟨_, rfl, hs⟩
  obtain ⟨ad, cap, rfl, hcap, hmx⟩ := hs.slice
  clear hs
  have hb1 : Below w.heap.size w (w.alloc (.cells #[.int .u8 x.op, .int .i64 x.n, .slice ad x.args.length cap] 24)) := (Below.refl _ _).alloc (Nat.le_refl _) _
  have hk1 := Blk.new w #[.int .u8 x.op, .int .i64 x.n, .slice ad x.args.length cap] 24
  have HSZ : Hid (∀ W, Below w.heap.size w W → Calls Tryd.prog 8 #[.agg #[.int .u8 x.op, .int .i64 x.n, .slice ad x.args.length cap]] W fun e w' => e = .returned (.int .i64 x.size) ∧ Below W.heap.size W w') := fun W hb => Size_c x _ w.heap.size W (HV.out.keep hb) hb.size
  have HMY : Hid (∀ W, Below w.heap.size w W → Calls Tryd.prog 12 #[.agg #[.int .u8 x.op, .int .i64 x.n, .slice ad x.args.length cap]] W fun e w' => e = .returned (.bool x.mayT) ∧ Below W.heap.size W w') := fun W hb => May_c x _ w.heap.size W (HV.out.keep hb) hb.size
  have HL1 : Hid (∀ W, Below w.heap.size w W → Calls Tryd.prog 10 #[.agg #[.int .u8 x.op, .int .i64 x.n, .slice ad x.args.length cap]] W fun e w' => e = .returned (.tuple #[.string x.told.1, .int .i64 x.told.2]) ∧ Below W.heap.size W w') := fun W hb => Line_c x _ W hok ((HV.out.keep hb).mono hb.size) ((HT.out.below hb).mono hb.size)
  have HWK : Hid (∀ W, Below w.heap.size w W → Calls Tryd.prog 9 #[] W fun e w' => e = .returned (.bool true) ∧ Below W.heap.size W w') := fun W hb => tworks_c W ((HT.out.below hb).mono hb.size)
  have HPA : Hid (x.mayT = true → x.line.size ≤ 400 → ∀ W, Calls Tryd.prog 13 #[.string x.line] W fun e w' => ∃ a1 c1, e = .returned (.tuple #[.agg #[.int .u8 x.op, .int .i64 x.n, .slice a1 x.args.length c1], .int .i64 0, .int .i64 0]) ∧ ExAt w' w'.heap.size (.agg #[.int .u8 x.op, .int .i64 x.n, .slice a1 x.args.length c1]) x ∧ Below W.heap.size W w') := fun h1 h2 W => by
    have h := Parse_c x.line W
    rw [parse_line x hok h1 h2] at h
    refine h.mono ?_
    rintro e w1 ⟨sb, rfl, ha, hb⟩
    obtain ⟨a1, c1, rfl, _, _⟩ := ha.slice
    exact ⟨a1, c1, rfl, ⟨_, rfl, ha⟩, hb⟩
  have HE : Hid (x.told = if x.mayT = true then (if 400 < x.line.size then (.empty, 110) else (x.line, 0)) else (.empty, 2)) := rfl
  have HSM : Hid (∀ (va vb : Value) (W : World), ExAt W W.heap.size va x → ExAt W W.heap.size vb x → Calls Tryd.prog 14 #[va, vb] W fun e w' => e = .returned (.bool true) ∧ Below W.heap.size W w') := by
    intro va vb W h1 h2
    have := Same_c x x va vb W.heap.size W h1 h2 (Nat.le_refl _)
    rwa [Ex.same_self x] at this
  have hzz : x.size ≤ 2000 := x.size_le
  generalize x.size = sz at *
  generalize x.told = td at *
  generalize x.mayT = mb at *
  generalize x.line = ln at *
  generalize x.op = o at *
  generalize x.n = n at *
  generalize x.args.length = l at *
  clear hcap hmx hok
  go_enter Tryd.func4, Tryd.ntmps4
  go_upto_region 1 with fail
  generalize World.alloc w _ = W1 at *
  have p0 := hk1.cell 0
  have p1 := hk1.cell 1
  have p2 := hk1.cell 2
  go_wp2_with fail
  refine (HSZ.out W1 hb1).mono ?_
  rintro e w2 ⟨rfl, hq⟩
  have hk2 := hk1.below hq hk1.lt
  have hb2 := hb1.trans (hq.mono hb1.size)
  clear p0 p1 p2 hk1
  by_cases hg : 2000 ≤ sz
  · have g1 : decide ((2000 : Int) ≤ (sz : Int)) = true := by rw [decide_eq_true_eq]; omega
    have g2 : decide (2000 ≤ sz) = true := by rw [decide_eq_true_eq]; omega
    go_wp2_with fail
    refine (HWK.out w2 hb2).mono ?_
    rintro e w5 ⟨rfl, h5⟩
    go_wp2_with fail
    go_ret
    exact ⟨rfl, hb2.trans (h5.mono hb2.size)⟩
  · have g1 : decide ((2000 : Int) ≤ (sz : Int)) = false := by rw [decide_eq_false_iff_not]; omega
    have g2 : decide (2000 ≤ sz) = false := by rw [decide_eq_false_iff_not]; omega
    have p0 := hk2.cell 0
    have p1 := hk2.cell 1
    have p2 := hk2.cell 2
    go_wp2_with fail
    refine (HL1.out w2 hb2).mono ?_
    rintro e w3 ⟨rfl, hq3⟩
    have hk3 := hk2.below hq3 hk2.lt
    have hb3 := hb2.trans (hq3.mono hb2.size)
    clear p0 p1 p2 hk2 g1 g2
    have p0 := hk3.cell 0
    have p1 := hk3.cell 1
    have p2 := hk3.cell 2
    cases mb with
    | false =>
      have he : td = (.empty, 2) := HE.out
      subst he
      go_wp2_with fail
      refine (HMY.out w3 hb3).mono ?_
      rintro e w4 ⟨rfl, hq4⟩
      have hb4 := hb3.trans (hq4.mono hb3.size)
      go_wp2_with fail
      refine (HWK.out w4 hb4).mono ?_
      rintro e w5 ⟨rfl, h5⟩
      go_wp2_with fail
      go_ret
      exact ⟨rfl, hb4.trans (h5.mono hb4.size)⟩
    | true =>
      have he : td = if 400 < ln.size then (.empty, 110) else (ln, 0) := HE.out
      by_cases h4 : 400 < ln.size
      · rw [if_pos h4] at he
        subst he
        go_wp2_with fail
        refine (HMY.out w3 hb3).mono ?_
        rintro e w4 ⟨rfl, hq4⟩
        have hb4 := hb3.trans (hq4.mono hb3.size)
        go_wp2_with fail
        refine (HWK.out w4 hb4).mono ?_
        rintro e w5 ⟨rfl, h5⟩
        go_wp2_with fail
        go_ret
        exact ⟨rfl, hb4.trans (h5.mono hb4.size)⟩
      · rw [if_neg h4] at he
        subst he
        have h4' : (ln.size : Int) ≤ 400 := by omega
        have HP := Lib.hid (HPA.out (by trivial) (by omega))
        clear HPA HE HSZ HL1 p0 p1 p2
        have h40 : ln.size ≤ 400 := by omega
        go_upto_region 7 with (go_at_call 13; refine (HP.out w3).mono ?_; rintro e w4 ⟨a1, c1, rfl, ha, hb⟩)
        have hY := Blk.new w4 #[.int .u8 o, .int .i64 n, .slice a1 l c1] 24
        have hbb := hb.alloc hb.size (.cells #[.int .u8 o, .int .i64 n, .slice a1 l c1] 24)
        have hb4 := hb3.trans (hbb.mono hb3.size)
        have hk4 := hk3.below hbb hk3.lt
        have hs4 := (Below.refl w4.heap.size w4).alloc (Nat.le_refl _) (.cells #[.int .u8 o, .int .i64 n, .slice a1 l c1] 24)
        have HC := Lib.hid (HSM.out _ _ _ ((HV.out.keep hb4).mono hb4.size) ((ha.keep hs4).mono hs4.size))
        generalize w4.heap.size = bz at *
        generalize w4.alloc _ = W4 at *
        have p0 := hk4.cell 0
        have p1 := hk4.cell 1
        have p2 := hk4.cell 2
        have y0 := hY.cell 0
        have y1 := hY.cell 1
        have y2 := hY.cell 2
        clear ha hb hbb hs4 hk3 HP HSM
        go_wp2_with fail
        refine HC.out.mono ?_
        rintro e w5 ⟨rfl, hq5⟩
        have hb5 := hb4.trans (hq5.mono hb4.size)
        clear HC p0 p1 p2 y0 y1 y2
        go_wp2_with fail
        refine (HWK.out w5 hb5).mono ?_
        rintro e w6 ⟨rfl, h6⟩
        go_wp2_with fail
        go_ret
        exact ⟨rfl, hb5.trans (h6.mono hb5.size)⟩

end Go.Proofs.YtlkkigpjahlloaaDoor
