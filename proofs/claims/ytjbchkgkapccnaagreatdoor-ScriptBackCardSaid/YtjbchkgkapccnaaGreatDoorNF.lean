/-
  The walk of ScriptTexts.
-/
import Derived.Test.YtjbchkgkapccnaaGreatDoorNE
import Derived.Test.YtjbchkgkapccnaaGreatDoorNB
namespace Go.Proofs.YtjbchkgkapccnaaGreatDoor
open Go.RowKit
set_option linter.unusedVariables false
set_option linter.unusedSimpArgs false

theorem heavyGo_smallN : ∀ (l : List Nd) (n : Int), heavyGo l n = false → ∀ d ∈ l, d.uid.size ≤ 1000
  | d :: l, n, h, e, he => by
    simp only [heavyGo, Bool.or_eq_false_iff, decide_eq_false_iff_not] at h
    rcases List.mem_cons.1 he with rfl | he
    · have := h.2.1; omega
    · exact heavyGo_smallN l _ h.2.2.2 e he
theorem heavy_smallN {j : Jb} (h : j.heavyB = false) : j.nodes.length ≤ 40 ∧ ∀ d ∈ j.nodes, d.uid.size ≤ 1000 := by
  unfold Jb.heavyB at h
  simp only [Bool.or_eq_false_iff, decide_eq_false_iff_not] at h
  exact ⟨by omega, heavyGo_smallN _ _ h.2⟩
theorem job_atN {j : Jb} {w : World} {B : Nat} {v : Value} (h : JbAt w B v j) : ∃ a n cap, v = .agg #[.int .i64 j.par, .slice a n cap] := by
  obtain ⟨sv, rfl, a, cap, rfl, _⟩ := h
  exact ⟨_, _, _, rfl⟩

set_option maxRecDepth 100000 in
set_option maxHeartbeats 2000000 in
theorem sTexts_c (w : World) (jb : Jb) (v : Value) (gx : JbAt w w.heap.size v jb) (kx : jb.ok) (hE : Env w) :
    Calls Tryz.prog 4 #[v] w fun e w' => e = .returned (.bool true) ∧ Below w.heap.size w w' := by
  have GX := Lib.hid gx
  have HE := Lib.hid hE
  obtain ⟨a, n, cap, rfl⟩ := job_atN gx
  have hW := (Below.refl w.heap.size w).alloc (Nat.le_refl _) (.cells #[.int .i64 jb.par, .slice a n cap] 24)
  have hb1 := Blk.new w #[.int .i64 jb.par, .slice a n cap] 24
  clear gx hE
  cases hh : jb.heavyB
  · have HH := Lib.hid hh
    have hsm := heavy_smallN hh
    have HTX : Hid (∀ W, Below w.heap.size w W → Calls Tryz.prog 10 #[.agg #[.int .i64 jb.par, .slice a n cap]] W fun e w' => e = .returned (.tuple #[.string (tellJ jb).1, .int .i64 (tellJ jb).2]) ∧ Below W.heap.size W w') :=
      fun W hb => Text_c jb _ W ((GX.out.keep hb).mono hb.size) kx (HE.out.keep hb).tb
    have HRX : Hid (∀ W, Below w.heap.size w W → Calls Tryz.prog 11 #[.agg #[.int .i64 jb.par, .slice a n cap]] W fun e w' => e = .returned (.tuple #[.string (tellJ jb).1, .int .i64 (tellJ jb).2]) ∧ Below W.heap.size W w') :=
      fun W hb => rText_c jb _ W ((GX.out.keep hb).mono hb.size) kx (fun d hd => Nat.le_trans (hsm.2 d hd) (by omega)) (by omega)
    clear hh hsm
    go_enter Tryz.func4, Tryz.ntmps4
    go_upto_region 1 with fail
    generalize World.alloc w _ = W at *
    have n0 := hb1.cell 0
    have n1 := hb1.cell 1
    go_wp2_with fail
    refine (Heavy_c jb _ w.heap.size _ (GX.out.keep hW) hW.size).mono ?_
    rintro e w1 ⟨rfl, hq1⟩
    rw [HH.out]
    have hc1 := hW.trans (hq1.mono hW.size)
    have hd1 := hb1.below hq1 hb1.lt
    clear n0 n1 hq1 hb1 hW
    have n0 := hd1.cell 0
    have n1 := hd1.cell 1
    go_wp2_with fail
    refine (HTX.out w1 hc1).mono ?_
    rintro e w2 ⟨rfl, hq2⟩
    have hc2 := hc1.trans (hq2.mono hc1.size)
    have hd2 := hd1.below hq2 hd1.lt
    clear n0 n1 hq2 hd1 hc1
    have n0 := hd2.cell 0
    have n1 := hd2.cell 1
    go_wp2_with fail
    refine (HRX.out w2 hc2).mono ?_
    rintro e w3 ⟨rfl, hq3⟩
    have hc3 := hc2.trans (hq3.mono hc2.size)
    have HWK := Lib.hid (sworks_c w3 (HE.out.keep hc3))
    generalize tellJ jb = td at *
    obtain ⟨t, e9⟩ := td
    clear n0 n1
    go_wp2_with fail
    refine HWK.out.mono ?_
    rintro e w9 ⟨rfl, hq9⟩
    go_wp2_with fail
    go_ret
    exact ⟨rfl, hc3.trans (hq9.mono hc3.size)⟩
  · have HH := Lib.hid hh
    clear hh
    go_enter Tryz.func4, Tryz.ntmps4
    go_upto_region 1 with fail
    generalize World.alloc w _ = W at *
    have n0 := hb1.cell 0
    have n1 := hb1.cell 1
    go_wp2_with fail
    refine (Heavy_c jb _ w.heap.size _ (GX.out.keep hW) hW.size).mono ?_
    rintro e w1 ⟨rfl, hq1⟩
    rw [HH.out]
    have hc1 := hW.trans (hq1.mono hW.size)
    have HWK := Lib.hid (sworks_c w1 (HE.out.keep hc1))
    go_wp2_with fail
    refine HWK.out.mono ?_
    rintro e w9 ⟨rfl, hq9⟩
    go_wp2_with fail
    go_ret
    exact ⟨rfl, hc1.trans (hq9.mono hc1.size)⟩
end Go.Proofs.YtjbchkgkapccnaaGreatDoor
