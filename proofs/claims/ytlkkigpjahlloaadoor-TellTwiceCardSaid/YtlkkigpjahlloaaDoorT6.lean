/-
  tell.Same; TellKnown.
-/
import Derived.Test.YtlkkigpjahlloaaDoorT5
import Derived.Test.YtlkkigpjahlloaaDoorE2
namespace Go.Proofs.YtlkkigpjahlloaaDoor
open Go.RowKit
set_option linter.unusedVariables false

theorem ArgsAt.go {w w' : World} {l : List Ex} {v : Value} (h : ArgsAt w w.heap.size l v) (hb : Below w.heap.size w w') : ArgsAt w' w'.heap.size l v := (h.keep hb).mono hb.size

set_option maxRecDepth 100000 in
set_option maxHeartbeats 1000000 in
theorem tsame_c (a b : ByteArray) (w : World) :
    Calls Tryd.prog 16 #[.string a, .string b] w fun e w' => e = .returned (.bool (sameT a b)) ∧ Below w.heap.size w w' := by
  have hPA := Parse_c a w
  have HE : Hid (sameT a b = (decide ((parse a).2.2 = 0) && (decide ((parse b).2.2 = 0) && (parse a).1.sameB (parse b).1))) := rfl
  have HPB : Hid (∀ W, Calls Tryd.prog 13 #[.string b] W (ParsePost (parse b) W)) := fun W => Parse_c b W
  unfold ParsePost at hPA HPB
  generalize sameT a b = r at *
  generalize parse a = p at *
  generalize parse b = q at *
  obtain ⟨x, pa, ea⟩ := p
  obtain ⟨y, pb, eb⟩ := q
  dsimp only at HE HPB
  have HPa := Lib.hid hPA
  clear hPA
  go_enter Tryd.func16, Tryd.ntmps16
  go_upto_region 2 with (go_at_call 13; refine HPa.out.mono ?_; rintro e w1 ⟨sa, rfl, haa, hba⟩; obtain ⟨aa, ca, rfl, _, _⟩ := haa.slice)
  have hX := Blk.new w1 #[.int .u8 x.op, .int .i64 x.n, .slice aa x.args.length ca] 24
  have hB1 := hba.alloc hba.size (.cells #[.int .u8 x.op, .int .i64 x.n, .slice aa x.args.length ca] 24)
  have hEX : ExAt (w1.alloc (.cells #[.int .u8 x.op, .int .i64 x.n, .slice aa x.args.length ca] 24)) (w1.alloc (.cells #[.int .u8 x.op, .int .i64 x.n, .slice aa x.args.length ca] 24)).heap.size (.agg #[.int .u8 x.op, .int .i64 x.n, .slice aa x.args.length ca]) x := ⟨_, rfl, haa.go ((Below.refl _ _).alloc (Nat.le_refl _) _)⟩
  generalize hbx : w1.heap.size = bx at *
  generalize w1.alloc _ = W1 at *
  have HX := Lib.hid hX
  have HEX := Lib.hid hEX
  have HB1 := Lib.hid hB1
  clear hX hEX hB1 haa hba hbx
  go_upto_region 3 with (go_at_call 13; refine (HPB.out _).mono ?_; rintro e w2 ⟨sb, rfl, hab, hbb⟩; obtain ⟨ab, cb, rfl, _, _⟩ := hab.slice)
  have hY := Blk.new w2 #[.int .u8 y.op, .int .i64 y.n, .slice ab y.args.length cb] 24
  have hbb2 := hbb.alloc hbb.size (.cells #[.int .u8 y.op, .int .i64 y.n, .slice ab y.args.length cb] 24)
  have hB2 := HB1.out.trans (hbb2.mono HB1.out.size)
  have hX2 := HX.out.below hbb2 HX.out.lt
  have HEX2 : Hid (ExAt (w2.alloc (.cells #[.int .u8 y.op, .int .i64 y.n, .slice ab y.args.length cb] 24)) (w2.alloc (.cells #[.int .u8 y.op, .int .i64 y.n, .slice ab y.args.length cb] 24)).heap.size (.agg #[.int .u8 x.op, .int .i64 x.n, .slice aa x.args.length ca]) x) := (HEX.out.keep hbb2).mono hbb2.size
  have HEY : Hid (ExAt (w2.alloc (.cells #[.int .u8 y.op, .int .i64 y.n, .slice ab y.args.length cb] 24)) (w2.alloc (.cells #[.int .u8 y.op, .int .i64 y.n, .slice ab y.args.length cb] 24)).heap.size (.agg #[.int .u8 y.op, .int .i64 y.n, .slice ab y.args.length cb]) y) := ⟨_, rfl, hab.go ((Below.refl _ _).alloc (Nat.le_refl _) _)⟩
  generalize w2.heap.size = by_ at *
  generalize w2.alloc _ = W2 at *
  have x0 := hX2.cell 0
  have x1 := hX2.cell 1
  have x2 := hX2.cell 2
  have y0 := hY.cell 0
  have y1 := hY.cell 1
  have y2 := hY.cell 2
  clear hab hbb hbb2 HPa HPB HX HEX HB1
  by_cases h1 : ea = 0
  · have h1' : (ea == 0) = true := by simpa using h1
    by_cases h2 : eb = 0
    · have h2' : (eb == 0) = true := by simpa using h2
      have HR : Hid (r = x.sameB y) := by show _ = _; rw [HE.out, decide_eq_true h1, decide_eq_true h2, Bool.true_and, Bool.true_and]
      clear h1 h2
      go_wp2_with (go_at_call 14; refine (Same_c x y _ _ _ _ HEX2.out HEY.out (Nat.le_refl _)).mono ?_; rintro e w3 ⟨rfl, hb3⟩)
      go_ret
      exact ⟨ret_bool HR.out.symm, hB2.trans (hb3.mono hB2.size)⟩
    · have h2' : (eb == 0) = false := by simpa using h2
      have HR : Hid (r = false) := by show _ = _; rw [HE.out, decide_eq_false h2, Bool.false_and, Bool.and_false]
      clear h1 h2
      go_wp2
      go_ret
      exact ⟨ret_bool HR.out.symm, hB2⟩
  · have h1' : (ea == 0) = false := by simpa using h1
    have HR : Hid (r = false) := by show _ = _; rw [HE.out, decide_eq_false h1, Bool.false_and]
    clear h1
    go_wp2
    go_ret
    exact ⟨ret_bool HR.out.symm, hB2⟩

def tx2 : ByteArray := { data := #[105, 102, 32, 33, 32, 40, 118, 97, 108, 32, 60, 32, 51, 41, 32, 116, 104, 101, 110, 32, 45, 49, 32, 101, 108, 115, 101, 32, 97, 99, 99] }
def ln2 : ByteArray := { data := #[40, 105, 102, 32, 40, 33, 40, 118, 97, 108, 32, 60, 32, 51, 41, 41, 32, 116, 104, 101, 110, 32, 40, 45, 49, 41, 32, 101, 108, 115, 101, 32, 97, 99, 99, 41] }
theorem tells2 : tellsB tx2 = ln2 := by
  unfold tellsB
  have h : (parse tx2).1 = .mk 18 0 [.mk 6 0 [.mk 12 0 [.mk 3 0 [], .mk 1 3 []]], .mk 5 0 [.mk 1 1 []], .mk 4 0 []] := by kernel_rfl
  rw [h]
  refine told_of (by kernel_rfl) ?_ (by decide)
  simp only [Ex.line, Exs.lines]
  have e1 : lineOp 1 1 [] = decB 1 := rfl
  have e2 : lineOp 1 3 [] = decB 3 := rfl
  rw [e1, e2, dec_small (by omega), dec_small (by omega)]
  rfl
theorem same1 : sameT { data := #[49, 32, 43, 32, 50, 32, 43, 32, 51] } { data := #[40, 49, 32, 43, 32, 50, 41, 32, 43, 32, 51] } = true := by kernel_rfl
theorem same2 : sameT { data := #[49, 32, 43, 32, 50] } { data := #[50, 32, 43, 32, 49] } = false := by kernel_rfl
theorem same3 : sameT .empty .empty = false := by kernel_rfl

set_option maxRecDepth 100000 in
set_option maxHeartbeats 1000000 in
theorem tKnown_c (w : World) (htab : Pow10 w) : Calls Tryd.prog 5 #[] w fun e w' => e = .returned (.bool true) ∧ Below w.heap.size w w' := by
  have HT := Lib.hid (TB.of htab)
  clear htab
  have HW := Lib.hid (tworks_c w HT.out)
  have HTL : Hid (∀ W, Below w.heap.size w W → Calls Tryd.prog 15 #[.string tx2] W fun e w' => e = .returned (.string ln2) ∧ Below W.heap.size W w') := by
    intro W hb
    have h := tells_c tx2 W ((HT.out.below hb).mono hb.size)
    rwa [tells2] at h
  go_enter Tryd.func5, Tryd.ntmps5
  go_wp2_with fail
  refine HW.out.mono ?_
  rintro e w1 ⟨rfl, hb1⟩
  go_wp2_with fail
  refine (HTL.out w1 hb1).mono ?_
  rintro e w2 ⟨rfl, hb2⟩
  have hB2 := hb1.trans (hb2.mono hb1.size)
  have hq : (ln2.toList == [40, 105, 102, 32, 40, 33, 40, 118, 97, 108, 32, 60, 32, 51, 41, 41, 32, 116, 104, 101, 110, 32, 40, 45, 49, 41, 32, 101, 108, 115, 101, 32, 97, 99, 99, 41]) = true := by kernel_rfl
  go_wp2_with fail
  refine (tsame_c _ _ _).mono ?_
  rw [same1]
  rintro e w3 ⟨rfl, hb3⟩
  have hB3 := hB2.trans (hb3.mono hB2.size)
  go_wp2_with fail
  refine (tsame_c _ _ _).mono ?_
  rw [same2]
  rintro e w4 ⟨rfl, hb4⟩
  have hB4 := hB3.trans (hb4.mono hB3.size)
  go_wp2_with fail
  refine (tsame_c _ _ _).mono ?_
  have hs3 := same3
  rintro e w5 ⟨rfl, hb5⟩
  have hB5 := hB4.trans (hb5.mono hB4.size)
  go_wp2_with fail
  go_ret
  exact ⟨rfl, hB5⟩

end Go.Proofs.YtlkkigpjahlloaaDoor
