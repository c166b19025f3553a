/-
  Walks: kind.Of, kind.Is.
-/
import Derived.Test.YtfieoehchghiiaaK7
import Derived.Test.YtfieoehchghiiaaK5
namespace Go.Proofs.Ytfieoehchghiiaa
open Go.RowKit
set_option linter.unusedVariables false

theorem Exs.thin_of : ∀ (l : List Ex), (∀ a ∈ l, a.thin) → Exs.thin l
  | [], _ => trivial
  | x :: l, h => ⟨h x (by simp), Exs.thin_of l (fun a ha => h a (by simp [ha]))⟩
theorem thin_of_may : ∀ (k : Nat) (x : Ex), mayB k x = true → x.thin := by
  intro k
  induction k with
  | zero => intro x h; simp [mayB] at h
  | succ k ih =>
    intro x h
    simp only [mayB, Bool.and_eq_true, List.all_eq_true] at h
    obtain ⟨h1, h2⟩ := h
    have h1' := (of_decide_eq_true h1).1
    obtain ⟨o, n, l⟩ := x
    simp only [Ex.op, Ex.args] at h1' h2
    refine ⟨?_, Exs.thin_of l (fun a ha => ih a (h2 a ha))⟩
    unfold manyN at h1'
    repeat' split at h1'
    all_goals omega

/-- What kind.Of tells. -/
def Ex.typ (x : Ex) (acc : Bool) : Int × Int := if x.mayT = true then (if acc = false ∧ x.accB = true then (0, 90) else if x.ty = 0 then (0, 91) else (x.ty, 0)) else (0, 2)

set_option maxHeartbeats 1000000 in
theorem Of_c (x : Ex) (acc : Bool) (v : Value) (B : Nat) (w : World) (hv : ExAt w B v x) (hB : B ≤ w.heap.size) :
    Calls Try.prog 67 #[v, .bool acc] w fun e w' => e = .returned (.tuple #[.int .u8 (x.typ acc).1, .int .i64 (x.typ acc).2]) ∧ Below w.heap.size w w' := by
  obtain ⟨sv, rfl, hs⟩ := hv
  obtain ⟨a, cap, rfl, hcap, hmx⟩ := hs.slice
  have HX : Hid (∀ X, Below w.heap.size w X → ExAt X X.heap.size (.agg #[.int .u8 x.op, .int .i64 x.n, .slice a x.args.length cap]) x) := fun X hX => ⟨_, rfl, ((hs.mono hB).keep hX).mono hX.size⟩
  clear hs hmx hcap
  have hR := Blk.new w #[.int .u8 x.op, .int .i64 x.n, .slice a x.args.length cap] 35
  have hW := (Below.refl w.heap.size w).alloc (Nat.le_refl _) (.cells #[.int .u8 x.op, .int .i64 x.n, .slice a x.args.length cap] 35)
  have hWs : (w.alloc (.cells #[.int .u8 x.op, .int .i64 x.n, .slice a x.args.length cap] 35)).heap.size = w.heap.size + 1 := by simp
  generalize hgo : x.op = o at *
  generalize hgn : x.n = n at *
  generalize hgl : x.args.length = ll at *
  have HG := Lib.hid (And.intro hgo (And.intro hgn hgl))
  clear hgo hgn hgl
  have HS := Lib.hid hWs
  clear hWs
  cases hm : x.mayT
  · have HM := Lib.hid hm
    have HE : Hid (x.typ acc = (0, 2)) := by simp [Hid, Ex.typ, hm]
    clear hm
    go_enter Try.func67, Try.ntmps67
    go_wp2_with fail
    generalize World.alloc w _ = W at *
    have c0 := hR.cell 0
    have c1 := hR.cell 1
    have c2 := hR.cell 2
    go_wp2_with (go_at_call 90; refine (May_c x _ _ _ (HX.out _ hW) (Nat.le_refl _)).mono ?_; rintro e w1 ⟨rfl, hb1⟩; rw [HM.out])
    go_ret2
    exact ⟨by rw [HE.out]; rfl, hW.trans (hb1.mono (by have := HS.out; omega))⟩
  · have hth := Lib.hid (thin_of_may 16 x hm)
    have HM := Lib.hid hm
    have HT : Hid ((acc = false ∧ x.accB = true) → x.typ acc = (0, 90)) := fun h => by simp [Ex.typ, hm, h]
    have HU : Hid (¬ (acc = false ∧ x.accB = true) → x.ty = 0 → x.typ acc = (0, 91)) := fun h h' => by simp only [Ex.typ]; rw [if_pos hm, if_neg h, if_pos h']
    have HV : Hid (¬ (acc = false ∧ x.accB = true) → x.ty ≠ 0 → x.typ acc = (x.ty, 0)) := fun h h' => by simp only [Ex.typ]; rw [if_pos hm, if_neg h, if_neg h']
    cases acc
    · cases hac : x.accB
      · have HA := Lib.hid hac
        clear hm hac
        cases hty : (x.ty == 0)
        · have HY := Lib.hid hty
          have HE : Hid (x.typ false = (x.ty, 0)) := HV.out (by rw [HA.out]; simp) (by simpa using hty)
          clear hty
          go_enter Try.func67, Try.ntmps67
          go_wp2_with fail
          generalize World.alloc w _ = W at *
          have c0 := hR.cell 0
          have c1 := hR.cell 1
          have c2 := hR.cell 2
          go_wp2_with (first
            | (go_at_call 90; refine (May_c x _ _ _ (HX.out _ hW) (Nat.le_refl _)).mono ?_; rintro e w1 ⟨rfl, hb1⟩; rw [HM.out]; have hR1 := hR.below hb1 hR.lt; have d0 := hR1.cell 0; have d1 := hR1.cell 1; have d2 := hR1.cell 2)
            | (go_at_call 91; refine (accs_c x _ _ _ (HX.out _ (hW.trans (hb1.mono (by have := HS.out; omega)))) (Nat.le_refl _)).mono ?_; rintro e w2 ⟨rfl, hb2⟩; rw [HA.out]; have hR2 := hR1.below hb2 hR1.lt))
          have hb12 := hW.trans ((hb1.trans (hb2.mono hb1.size)).mono (by have := HS.out; omega))
          clear c0 c1 c2 d0 d1 d2
          have e0 := hR2.cell 0
          have e1 := hR2.cell 1
          have e2 := hR2.cell 2
          go_region_with (first
            | (go_at_call 93; refine (rules_c _).mono ?_; rintro e w3 ⟨rfl, hm3, hb3⟩; have hR3 := hR2.drew.below hb3 hR2.lt; have g0 := hR3.cell 0; have g1 := hR3.cell 1; have g2 := hR3.cell 2; have hb13 := hb12.drew.trans (hb3.mono hb12.size))
            | (go_at_call 92; refine (of_c x _ _ _ _ (HX.out _ hb13) hth.out (Nat.le_refl _) hm3).mono ?_; rintro e w4 ⟨rfl, hb4⟩))
          all_goals
            have hz := HY.out
            go_wp2_with fail
            go_ret2
            exact ⟨by rw [HE.out]; rfl, hb13.trans (hb4.mono hb13.size)⟩
        · have HY := Lib.hid hty
          have HE : Hid (x.typ false = (0, 91)) := HU.out (by rw [HA.out]; simp) (by simpa using hty)
          clear hty
          go_enter Try.func67, Try.ntmps67
          go_wp2_with fail
          generalize World.alloc w _ = W at *
          have c0 := hR.cell 0
          have c1 := hR.cell 1
          have c2 := hR.cell 2
          go_wp2_with (first
            | (go_at_call 90; refine (May_c x _ _ _ (HX.out _ hW) (Nat.le_refl _)).mono ?_; rintro e w1 ⟨rfl, hb1⟩; rw [HM.out]; have hR1 := hR.below hb1 hR.lt; have d0 := hR1.cell 0; have d1 := hR1.cell 1; have d2 := hR1.cell 2)
            | (go_at_call 91; refine (accs_c x _ _ _ (HX.out _ (hW.trans (hb1.mono (by have := HS.out; omega)))) (Nat.le_refl _)).mono ?_; rintro e w2 ⟨rfl, hb2⟩; rw [HA.out]; have hR2 := hR1.below hb2 hR1.lt))
          have hb12 := hW.trans ((hb1.trans (hb2.mono hb1.size)).mono (by have := HS.out; omega))
          clear c0 c1 c2 d0 d1 d2
          have e0 := hR2.cell 0
          have e1 := hR2.cell 1
          have e2 := hR2.cell 2
          go_region_with (first
            | (go_at_call 93; refine (rules_c _).mono ?_; rintro e w3 ⟨rfl, hm3, hb3⟩; have hR3 := hR2.drew.below hb3 hR2.lt; have g0 := hR3.cell 0; have g1 := hR3.cell 1; have g2 := hR3.cell 2; have hb13 := hb12.drew.trans (hb3.mono hb12.size))
            | (go_at_call 92; refine (of_c x _ _ _ _ (HX.out _ hb13) hth.out (Nat.le_refl _) hm3).mono ?_; rintro e w4 ⟨rfl, hb4⟩))
          all_goals
            have hz := HY.out
            go_wp2_with fail
            go_ret2
            exact ⟨by rw [HE.out]; rfl, hb13.trans (hb4.mono hb13.size)⟩
      · have HA := Lib.hid hac
        have HE : Hid (x.typ false = (0, 90)) := HT.out ⟨rfl, hac⟩
        clear hm hac
        go_enter Try.func67, Try.ntmps67
        go_wp2_with fail
        generalize World.alloc w _ = W at *
        have c0 := hR.cell 0
        have c1 := hR.cell 1
        have c2 := hR.cell 2
        go_wp2_with (first
          | (go_at_call 90; refine (May_c x _ _ _ (HX.out _ hW) (Nat.le_refl _)).mono ?_; rintro e w1 ⟨rfl, hb1⟩; rw [HM.out]; have hR1 := hR.below hb1 hR.lt; have d0 := hR1.cell 0; have d1 := hR1.cell 1; have d2 := hR1.cell 2)
          | (go_at_call 91; refine (accs_c x _ _ _ (HX.out _ (hW.trans (hb1.mono (by have := HS.out; omega)))) (Nat.le_refl _)).mono ?_; rintro e w2 ⟨rfl, hb2⟩; rw [HA.out]))
        go_ret2
        exact ⟨by rw [HE.out]; rfl, hW.trans ((hb1.trans (hb2.mono hb1.size)).mono (by have := HS.out; omega))⟩
    · clear hm
      cases hty : (x.ty == 0)
      · have HY := Lib.hid hty
        have HE : Hid (x.typ true = (x.ty, 0)) := HV.out (by simp) (by simpa using hty)
        clear hty
        go_enter Try.func67, Try.ntmps67
        go_wp2_with fail
        generalize World.alloc w _ = W at *
        have c0 := hR.cell 0
        have c1 := hR.cell 1
        have c2 := hR.cell 2
        go_wp2_with (go_at_call 90; refine (May_c x _ _ _ (HX.out _ hW) (Nat.le_refl _)).mono ?_; rintro e w1 ⟨rfl, hb1⟩; rw [HM.out]; have hR1 := hR.below hb1 hR.lt; have d0 := hR1.cell 0; have d1 := hR1.cell 1; have d2 := hR1.cell 2)
        have hb12 := hW.trans (hb1.mono (by have := HS.out; omega))
        clear c0 c1 c2 d0 d1 d2
        have e0 := hR1.cell 0
        have e1 := hR1.cell 1
        have e2 := hR1.cell 2
        go_region_with (first
          | (go_at_call 93; refine (rules_c _).mono ?_; rintro e w3 ⟨rfl, hm3, hb3⟩; have hR3 := hR1.drew.below hb3 hR1.lt; have g0 := hR3.cell 0; have g1 := hR3.cell 1; have g2 := hR3.cell 2; have hb13 := hb12.drew.trans (hb3.mono hb12.size))
          | (go_at_call 92; refine (of_c x _ _ _ _ (HX.out _ hb13) hth.out (Nat.le_refl _) hm3).mono ?_; rintro e w4 ⟨rfl, hb4⟩))
        all_goals
          have hz := HY.out
          go_wp2_with fail
          go_ret2
          exact ⟨by rw [HE.out]; rfl, hb13.trans (hb4.mono hb13.size)⟩
      · have HY := Lib.hid hty
        have HE : Hid (x.typ true = (0, 91)) := HU.out (by simp) (by simpa using hty)
        clear hty
        go_enter Try.func67, Try.ntmps67
        go_wp2_with fail
        generalize World.alloc w _ = W at *
        have c0 := hR.cell 0
        have c1 := hR.cell 1
        have c2 := hR.cell 2
        go_wp2_with (go_at_call 90; refine (May_c x _ _ _ (HX.out _ hW) (Nat.le_refl _)).mono ?_; rintro e w1 ⟨rfl, hb1⟩; rw [HM.out]; have hR1 := hR.below hb1 hR.lt; have d0 := hR1.cell 0; have d1 := hR1.cell 1; have d2 := hR1.cell 2)
        have hb12 := hW.trans (hb1.mono (by have := HS.out; omega))
        clear c0 c1 c2 d0 d1 d2
        have e0 := hR1.cell 0
        have e1 := hR1.cell 1
        have e2 := hR1.cell 2
        go_region_with (first
          | (go_at_call 93; refine (rules_c _).mono ?_; rintro e w3 ⟨rfl, hm3, hb3⟩; have hR3 := hR1.drew.below hb3 hR1.lt; have g0 := hR3.cell 0; have g1 := hR3.cell 1; have g2 := hR3.cell 2; have hb13 := hb12.drew.trans (hb3.mono hb12.size))
          | (go_at_call 92; refine (of_c x _ _ _ _ (HX.out _ hb13) hth.out (Nat.le_refl _) hm3).mono ?_; rintro e w4 ⟨rfl, hb4⟩))
        all_goals
          have hz := HY.out
          go_wp2_with fail
          go_ret2
          exact ⟨by rw [HE.out]; rfl, hb13.trans (hb4.mono hb13.size)⟩

end Go.Proofs.Ytfieoehchghiiaa
