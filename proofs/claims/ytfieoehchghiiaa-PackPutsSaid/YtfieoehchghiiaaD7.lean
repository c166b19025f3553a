/-
  The walk of PackPuts.
-/
import Derived.Test.YtfieoehchghiiaaD6
import Derived.Test.YtfieoehchghiiaaCC
import Derived.Test.YtfieoehchghiiaaJ1
import Derived.Test.YtfieoehchghiiaaJ10
namespace Go.Proofs.Ytfieoehchghiiaa
open Go.RowKit
set_option linter.unusedVariables false
set_option linter.unusedSimpArgs false

theorem heavyGo_small : ∀ (l : List Nd) (n : Int), heavyGo l n = false → ∀ d ∈ l, d.uid.size ≤ 1000
  | d :: l, n, h, e, he => by
    simp only [heavyGo, Bool.or_eq_false_iff, decide_eq_false_iff_not] at h
    rcases List.mem_cons.1 he with rfl | he
    · have := h.2.1; omega
    · exact heavyGo_small l _ h.2.2.2 e he
theorem heavy_small {j : Jb} (h : j.heavyB = false) : j.nodes.length ≤ 40 ∧ ∀ d ∈ j.nodes, d.uid.size ≤ 1000 := by
  unfold Jb.heavyB at h
  simp only [Bool.or_eq_false_iff, decide_eq_false_iff_not] at h
  exact ⟨by omega, heavyGo_small _ _ h.2⟩
theorem job_at {j : Jb} {w : World} {B : Nat} {v : Value} (h : JbAt w B v j) : ∃ a n cap, v = .agg #[.int .i64 j.par, .slice a n cap] := by
  obtain ⟨sv, rfl, a, cap, rfl, _⟩ := h
  exact ⟨_, _, _, rfl⟩

set_option maxHeartbeats 4000000 in
theorem PackPuts_c (w : World) (jb : Jb) (v : Value) (gx : JbAt w w.heap.size v jb) (kx : jb.ok) :
    Calls Try.prog 5 #[v] w fun e w' => e = .returned (.bool true) ∧ Below w.heap.size w w' := by
  have GX := Lib.hid gx
  obtain ⟨a, n, cap, rfl⟩ := job_at gx
  have hW := (Below.refl w.heap.size w).alloc (Nat.le_refl _) (.cells #[.int .i64 jb.par, .slice a n cap] 24)
  have hb1 := Blk.new w #[.int .i64 jb.par, .slice a n cap] 24
  clear gx
  cases hh : jb.heavyB
  · have HH := Lib.hid hh
    have hsm := heavy_small hh
    have HRP : Hid (∀ (v : Value) (B : Nat) (w : World), JbAt w B v jb → B ≤ w.heap.size → Calls Try.prog 20 #[v] w fun e w' => e = .returned (.tuple #[.string (bstr jb.putR.1), .int .i64 jb.putR.2]) ∧ Below w.heap.size w w') :=
      fun v B w hv hB => rPut14_c jb kx (fun d hd => Nat.le_trans (hsm.2 d hd) (by omega)) (by omega) v B w hv hB
    clear hh hsm
    go_enter Try.func5, Try.ntmps5
    go_wp2_with fail
    generalize World.alloc w _ = W at *
    have n0 := hb1.cell 0
    have n1 := hb1.cell 1
    go_wp2_with fail
    refine (Heavy_c jb _ w.heap.size _ (GX.out.keep hW) hW.size).mono ?_
    rintro e w1 ⟨rfl, hq1⟩
    rw [HH.out]
    have hc1 := hW.trans (hq1.mono hW.size)
    have hd1 := hb1.below hq1 hb1.lt
    clear n0 n1 hq1 hb1 hW
    have n0 := hd1.cell 0
    have n1 := hd1.cell 1
    go_wp2_with fail
    refine (PackPut_c jb kx _ w.heap.size w1 (GX.out.keep hc1) hc1.size).mono ?_
    rintro e w2 ⟨rfl, hq2⟩
    have hc2 := hc1.trans (hq2.mono hc1.size)
    have hd2 := hd1.below hq2 hd1.lt
    clear n0 n1 hq2 hd1 hc1
    have n0 := hd2.cell 0
    have n1 := hd2.cell 1
    go_wp2_with fail
    refine (HRP.out _ w.heap.size w2 (GX.out.keep hc2) hc2.size).mono ?_
    rintro e w3 ⟨rfl, hq3⟩
    have hc3 := hc2.trans (hq3.mono hc2.size)
    generalize bstr jb.putR.1 = t at *
    generalize jb.putR.2 = e9 at *
    go_wp2_with fail
    refine (pworks_c _).mono ?_
    rintro e w9 ⟨rfl, hq9⟩
    go_wp2_with fail
    go_ret
    exact ⟨rfl, hc3.trans (hq9.mono hc3.size)⟩
  · have HH := Lib.hid hh
    clear hh
    go_enter Try.func5, Try.ntmps5
    go_wp2_with fail
    generalize World.alloc w _ = W at *
    have n0 := hb1.cell 0
    have n1 := hb1.cell 1
    go_wp2_with fail
    refine (Heavy_c jb _ w.heap.size _ (GX.out.keep hW) hW.size).mono ?_
    rintro e w1 ⟨rfl, hq1⟩
    rw [HH.out]
    have hc1 := hW.trans (hq1.mono hW.size)
    go_wp2_with fail
    refine (pworks_c _).mono ?_
    rintro e w9 ⟨rfl, hq9⟩
    go_wp2_with fail
    go_ret
    exact ⟨rfl, hc1.trans (hq9.mono hc1.size)⟩

end Go.Proofs.Ytfieoehchghiiaa
