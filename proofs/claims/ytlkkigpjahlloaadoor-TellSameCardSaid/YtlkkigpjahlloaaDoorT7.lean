/-
  The walk of TellSame.
-/
import Derived.Test.YtlkkigpjahlloaaDoorT6
import Derived.Test.YtlkkigpjahlloaaDoorG9
import Derived.Test.YtlkkigpjahlloaaDoorF1
namespace Go.Proofs.YtlkkigpjahlloaaDoor
open Go.RowKit
set_option linter.unusedVariables false

set_option maxRecDepth 100000 in
set_option maxHeartbeats 2000000 in
theorem tSame_c (a b : ByteArray) (ha : a.size ≤ 140737488351232) (hb : b.size ≤ 140737488351232) (w : World) (htab : Pow10 w) :
    Calls Tryd.prog 6 #[.string a, .string b] w fun e w' => e = .returned (.bool true) ∧ Below w.heap.size w w' := by
  have HT := Lib.hid (TB.of htab)
  have HWK : Hid (∀ W, Below w.heap.size w W → Calls Tryd.prog 9 #[] W fun e w' => e = .returned (.bool true) ∧ Below W.heap.size W w') := fun W hb => tworks_c W ((HT.out.below hb).mono hb.size)
  clear htab
  by_cases h5 : (a.size : Int) + (b.size : Int) ≤ 5000
  · have h5' : ¬ (5000 : Int) < (a.size : Int) + (b.size : Int) := by omega
    have h6' : ¬ 5000 < a.size + b.size := by omega
    clear h5
    have hPA := rParse_c a w
    have HE : Hid (sameT a b = (decide ((parse a).2.2 = 0) && (decide ((parse b).2.2 = 0) && (parse a).1.sameB (parse b).1))) := rfl
    have HPB : Hid (∀ W, Calls Tryd.prog 17 #[.string b] W (ParsePost (parse b) W)) := fun W => rParse_c b W
    unfold ParsePost at hPA HPB
    have HSM : Hid (∀ W, Calls Tryd.prog 16 #[.string a, .string b] W fun e w' => e = .returned (.bool (sameT a b)) ∧ Below W.heap.size W w') := fun W => tsame_c a b W
    generalize sameT a b = r at *
    generalize parse a = p at *
    generalize parse b = q at *
    obtain ⟨x, pa, ea⟩ := p
    obtain ⟨y, pb, eb⟩ := q
    dsimp only at HE HPB
    have HPa := Lib.hid hPA
    clear hPA
    go_enter Tryd.func6, Tryd.ntmps6
    go_upto_region 4 with (go_at_call 17; refine HPa.out.mono ?_; rintro e w1 ⟨sa, rfl, haa, hba⟩; obtain ⟨aa, ca, rfl, _, _⟩ := haa.slice)
    have hX := Blk.new w1 #[.int .u8 x.op, .int .i64 x.n, .slice aa x.args.length ca] 24
    have hB1 := hba.alloc hba.size (.cells #[.int .u8 x.op, .int .i64 x.n, .slice aa x.args.length ca] 24)
    have hEX : ExAt (w1.alloc (.cells #[.int .u8 x.op, .int .i64 x.n, .slice aa x.args.length ca] 24)) (w1.alloc (.cells #[.int .u8 x.op, .int .i64 x.n, .slice aa x.args.length ca] 24)).heap.size (.agg #[.int .u8 x.op, .int .i64 x.n, .slice aa x.args.length ca]) x := ⟨_, rfl, haa.go ((Below.refl _ _).alloc (Nat.le_refl _) _)⟩
    generalize hbx : w1.heap.size = bx at *
    generalize w1.alloc _ = W1 at *
    have HX := Lib.hid hX
    have HEX := Lib.hid hEX
    have HB1 := Lib.hid hB1
    clear hX hEX hB1 haa hba hbx
    go_upto_region 5 with (go_at_call 17; refine (HPB.out _).mono ?_; rintro e w2 ⟨sb, rfl, hab, hbb⟩; obtain ⟨ab, cb, rfl, _, _⟩ := hab.slice)
    have hY := Blk.new w2 #[.int .u8 y.op, .int .i64 y.n, .slice ab y.args.length cb] 24
    have hbb2 := hbb.alloc hbb.size (.cells #[.int .u8 y.op, .int .i64 y.n, .slice ab y.args.length cb] 24)
    have hB2 := HB1.out.trans (hbb2.mono HB1.out.size)
    have hX2 := HX.out.below hbb2 HX.out.lt
    have HEX2 : Hid (ExAt (w2.alloc (.cells #[.int .u8 y.op, .int .i64 y.n, .slice ab y.args.length cb] 24)) (w2.alloc (.cells #[.int .u8 y.op, .int .i64 y.n, .slice ab y.args.length cb] 24)).heap.size (.agg #[.int .u8 x.op, .int .i64 x.n, .slice aa x.args.length ca]) x) := (HEX.out.keep hbb2).mono hbb2.size
    have HEY : Hid (ExAt (w2.alloc (.cells #[.int .u8 y.op, .int .i64 y.n, .slice ab y.args.length cb] 24)) (w2.alloc (.cells #[.int .u8 y.op, .int .i64 y.n, .slice ab y.args.length cb] 24)).heap.size (.agg #[.int .u8 y.op, .int .i64 y.n, .slice ab y.args.length cb]) y) := ⟨_, rfl, hab.go ((Below.refl _ _).alloc (Nat.le_refl _) _)⟩
    generalize w2.heap.size = by_ at *
    generalize w2.alloc _ = W2 at *
    clear hab hbb hbb2 HPa HPB HX HEX HB1
    go_upto_region 5 with fail
    go_wp2_with fail
    refine (HSM.out W2).mono ?_
    rintro e w3 ⟨rfl, hb3⟩
    have hB3 := hB2.trans (hb3.mono hB2.size)
    have hX3 := hX2.below hb3 hX2.lt
    have hY3 := hY.below hb3 hY.lt
    have HEX3 := Lib.hid ((HEX2.out.keep hb3).mono hb3.size)
    have HEY3 := Lib.hid ((HEY.out.keep hb3).mono hb3.size)
    have x0 := hX3.cell 0
    have x1 := hX3.cell 1
    have x2 := hX3.cell 2
    have y0 := hY3.cell 0
    have y1 := hY3.cell 1
    have y2 := hY3.cell 2
    clear hX2 hY HEX2 HEY hB2 hb3 hX3 hY3
    have hrr : (r == r) = true := by simp
    by_cases h1 : ea = 0
    · have h1' : (ea == 0) = true := by simpa using h1
      by_cases h2 : eb = 0
      · have h2' : (eb == 0) = true := by simpa using h2
        have HR : r = x.sameB y := by rw [HE.out, decide_eq_true h1, decide_eq_true h2, Bool.true_and, Bool.true_and]
        clear h1 h2
        go_wp2_with fail
        refine (rSame_c x y _ _ _ _ HEX3.out HEY3.out (Nat.le_refl _)).mono ?_
        rw [← HR]
        rintro e w4 ⟨rfl, hb4⟩
        have hB4 := hB3.trans (hb4.mono hB3.size)
        go_wp2_with fail
        refine (HWK.out w4 hB4).mono ?_
        rintro e w5 ⟨rfl, hb5⟩
        go_wp2_with fail
        go_ret
        exact ⟨rfl, hB4.trans (hb5.mono hB4.size)⟩
      · have h2' : (eb == 0) = false := by simpa using h2
        have HR : r = false := by rw [HE.out, decide_eq_false h2, Bool.false_and, Bool.and_false]
        clear h1 h2 HE
        subst HR
        go_wp2_with fail
        refine (HWK.out w3 hB3).mono ?_
        rintro e w5 ⟨rfl, hb5⟩
        go_wp2_with fail
        go_ret
        exact ⟨rfl, hB3.trans (hb5.mono hB3.size)⟩
    · have h1' : (ea == 0) = false := by simpa using h1
      have HR : r = false := by rw [HE.out, decide_eq_false h1, Bool.false_and]
      clear h1 HE
      subst HR
      go_wp2_with fail
      refine (HWK.out w3 hB3).mono ?_
      rintro e w5 ⟨rfl, hb5⟩
      go_wp2_with fail
      go_ret
      exact ⟨rfl, hB3.trans (hb5.mono hB3.size)⟩
  · have h5' : (5000 : Int) < (a.size : Int) + (b.size : Int) := by omega
    have h6' : 5000 < a.size + b.size := by omega
    clear h5
    go_enter Tryd.func6, Tryd.ntmps6
    go_wp2_with (go_at_call 9; refine (HWK.out _ (Below.refl _ _)).mono ?_; rintro e w4 ⟨rfl, hb4⟩)
    go_ret
    exact ⟨rfl, hb4⟩

end Go.Proofs.YtlkkigpjahlloaaDoor
