/-
  The walk of TellTwice.
-/
import Derived.Test.YtlkkigpjahlloaaDoorTF
namespace Go.Proofs.YtlkkigpjahlloaaDoor
open Go.RowKit
set_option linter.unusedVariables false

set_option maxRecDepth 100000 in
set_option maxHeartbeats 1000000 in
theorem tTwice_c (s : ByteArray) (hs : s.size ≤ 140737488351232) (w : World) (htab : Pow10 w) :
    Calls Tryd.prog 7 #[.string s] w fun e w' => e = .returned (.bool true) ∧ Below w.heap.size w w' := by
  have HT := Lib.hid (TB.of htab)
  have HWK : Hid (∀ W, Below w.heap.size w W → Calls Tryd.prog 9 #[] W fun e w' => e = .returned (.bool true) ∧ Below W.heap.size W w') := fun W hb => tworks_c W ((HT.out.below hb).mono hb.size)
  clear htab
  have hPA := Parse_c s w
  have HSM : Hid (∀ u W, Calls Tryd.prog 16 #[.string s, .string u] W fun e w' => e = .returned (.bool (sameT s u)) ∧ Below W.heap.size W w') := fun u W => tsame_c s u W
  have HTL : Hid (∀ u W, Below w.heap.size w W → Calls Tryd.prog 15 #[.string u] W fun e w' => e = .returned (.string (tellsB u)) ∧ Below W.heap.size W w') := fun u W hb => tells_c u W ((HT.out.below hb).mono hb.size)
  have HF : Hid ((parse s).2.2 = 0 → (parse s).1.told = (if 400 < (parse s).1.line.size then (.empty, 110) else ((parse s).1.line, 0)) ∧ (¬ 400 < (parse s).1.line.size → sameT s (parse s).1.line = true ∧ tellsB (parse s).1.line = (parse s).1.line)) := by
    intro h0
    have hmay : (parse s).1.mayT = true := ((parse_good s).1 h0).1
    have ht : (parse s).1.told = (if 400 < (parse s).1.line.size then (.empty, 110) else ((parse s).1.line, 0)) := by
      unfold Ex.told
      rw [if_pos hmay]
    refine ⟨ht, fun h4 => ?_⟩
    have hp := parse_line (parse s).1 (parse_ok s) hmay (by omega)
    constructor
    · unfold sameT
      rw [hp, decide_eq_true h0, Ex.same_self]
      rfl
    · unfold tellsB
      rw [hp]
      show (parse s).1.told.1 = _
      rw [ht, if_neg h4]
  have HOK := Lib.hid (parse_ok s)
  unfold ParsePost at hPA
  generalize parse s = p at *
  obtain ⟨x, pa, ea⟩ := p
  dsimp only at HF HOK
  have HPa := Lib.hid hPA
  clear hPA
  by_cases h5 : s.size ≤ 5000
  · have h5' : ¬ (5000 : Int) < (s.size : Int) := by omega
    have h6' : ¬ 5000 < s.size := by omega
    go_enter Tryd.func7, Tryd.ntmps7
    go_upto_region 2 with (go_at_call 13; refine HPa.out.mono ?_; rintro e w1 ⟨sa, rfl, haa, hba⟩; obtain ⟨aa, ca, rfl, _, _⟩ := haa.slice)
    have hX := Blk.new w1 #[.int .u8 x.op, .int .i64 x.n, .slice aa x.args.length ca] 24
    have hB1 := hba.alloc hba.size (.cells #[.int .u8 x.op, .int .i64 x.n, .slice aa x.args.length ca] 24)
    have hL := Line_c x _ _ HOK.out (⟨_, rfl, haa.go ((Below.refl _ _).alloc (Nat.le_refl _) _)⟩ : ExAt (w1.alloc (.cells #[.int .u8 x.op, .int .i64 x.n, .slice aa x.args.length ca] 24)) (w1.alloc (.cells #[.int .u8 x.op, .int .i64 x.n, .slice aa x.args.length ca] 24)).heap.size (.agg #[.int .u8 x.op, .int .i64 x.n, .slice aa x.args.length ca]) x) ((HT.out.below hB1).mono hB1.size)
    have HL := Lib.hid hL
    generalize w1.heap.size = bx at *
    generalize w1.alloc _ = W1 at *
    have x0 := hX.cell 0
    have x1 := hX.cell 1
    have x2 := hX.cell 2
    clear haa hba hL HPa h5
    by_cases h1 : ea = 0
    · have h1' : (ea == 0) = true := by simpa using h1
      have h1n : (ea != 0) = false := by simpa using h1
      obtain ⟨ht, hu⟩ := HF.out h1
      have HU := Lib.hid hu
      generalize x.told = td at *
      generalize x.line = ln at *
      clear hu HF h1
      go_wp2_with fail
      refine HL.out.mono ?_
      rintro e w2 ⟨rfl, hq2⟩
      have hB2 := hB1.trans (hq2.mono hB1.size)
      clear HL x0 x1 x2
      by_cases h4 : 400 < ln.size
      · rw [if_pos h4] at ht
        subst ht
        go_wp2_with fail
        refine (HWK.out w2 hB2).mono ?_
        rintro e w5 ⟨rfl, h5⟩
        go_wp2_with fail
        go_ret
        exact ⟨rfl, hB2.trans (h5.mono hB2.size)⟩
      · rw [if_neg h4] at ht
        subst ht
        obtain ⟨u1, u2⟩ := HU.out h4
        have HC := Lib.hid (HSM.out ln w2)
        rw [u1] at HC
        have HD := Lib.hid (HTL.out ln)
        rw [u2] at HD
        clear HU HSM HTL u1 u2
        go_wp2_with fail
        refine HC.out.mono ?_
        rintro e w3 ⟨rfl, hq3⟩
        have hB3 := hB2.trans (hq3.mono hB2.size)
        go_wp2_with fail
        refine (HD.out w3 hB3).mono ?_
        rintro e w4 ⟨rfl, hq4⟩
        have hB4 := hB3.trans (hq4.mono hB3.size)
        go_wp2_with fail
        refine (HWK.out w4 hB4).mono ?_
        rintro e w5 ⟨rfl, h5⟩
        go_wp2_with fail
        go_ret
        exact ⟨rfl, hB4.trans (h5.mono hB4.size)⟩
    · have h1' : (ea == 0) = false := by simpa using h1
      have h1n : (ea != 0) = true := by simpa using h1
      clear h1 HF
      go_wp2_with fail
      refine (HWK.out W1 hB1).mono ?_
      rintro e w5 ⟨rfl, h5⟩
      go_wp2_with fail
      go_ret
      exact ⟨rfl, hB1.trans (h5.mono hB1.size)⟩
  · have h5' : (5000 : Int) < (s.size : Int) := by omega
    have h6' : 5000 < s.size := by omega
    clear HF
    go_enter Tryd.func7, Tryd.ntmps7
    go_upto_region 2 with (go_at_call 13; refine HPa.out.mono ?_; rintro e w1 ⟨sa, rfl, haa, hba⟩; obtain ⟨aa, ca, rfl, _, _⟩ := haa.slice)
    have hB1 := hba.alloc hba.size (.cells #[.int .u8 x.op, .int .i64 x.n, .slice aa x.args.length ca] 24)
    generalize w1.heap.size = bx at *
    generalize w1.alloc _ = W1 at *
    go_wp2_with fail
    refine (HWK.out W1 hB1).mono ?_
    rintro e w5 ⟨rfl, h5⟩
    go_wp2_with fail
    go_ret
    exact ⟨rfl, hB1.trans (h5.mono hB1.size)⟩

end Go.Proofs.YtlkkigpjahlloaaDoor
