/-
  Walks: the reference's Of; KindOf.
-/
import Derived.Test.YtfieoehchghiiaaQ7
import Derived.Test.YtfieoehchghiiaaA0
namespace Go.Proofs.Ytfieoehchghiiaa
open Go.RowKit
set_option linter.unusedVariables false

theorem rof_all (h : Nat) : ROfC h := by
  induction h using Nat.strongRecOn with
  | ind h ih => exact rof_step h (fun x hx v B w k hok hm hv hB => ih x.ht hx x v B w k (Nat.le_refl _) hok hm hv hB)

set_option maxHeartbeats 2000000 in
theorem rOf_c (x : Ex) (hok : x.ok) (acc : Bool) (v : Value) (B : Nat) (w : World) (hv : ExAt w B v x) (hB : B ≤ w.heap.size) :
    Calls Try.prog 69 #[v, .bool acc] w fun e w' => e = .returned (.tuple #[.int .u8 (x.typ acc).1, .int .i64 (x.typ acc).2]) ∧ Below w.heap.size w w' := by
  have HE : Hid (x.typ acc = if x.mayT = true then (if acc = false ∧ x.accB = true then (0, 90) else if x.ty = 0 then (0, 91) else (x.ty, 0)) else (0, 2)) := rfl
  have HV := Lib.hid hv
  obtain ⟨sv, rfl, hs⟩ := hv
  obtain ⟨a, cap, rfl, hcap, hmx⟩ := hs.slice
  have hW := (Below.refl w.heap.size w).alloc (Nat.le_refl _) (.cells #[.int .u8 x.op, .int .i64 x.n, .slice a x.args.length cap] 35)
  have hbx := Blk.new w #[.int .u8 x.op, .int .i64 x.n, .slice a x.args.length cap] 35
  generalize hgo : x.op = o at *
  generalize hgn : x.n = n at *
  generalize hgl : x.args.length = ll at *
  clear hs hgo hgn hgl hcap hmx
  generalize x.typ acc = p at *
  have hz := hbx.lt
  cases hm : x.mayT
  · have HM := Lib.hid hm
    have HE2 : Hid (p = (0, 2)) := by show _ = _; rw [HE.out, hm]; rfl
    clear hm HE
    go_enter Try.func69, Try.ntmps69
    go_upto_region 1 with fail
    generalize World.alloc w _ = W at *
    have c0 := hbx.cell 0
    have c1 := hbx.cell 1
    have c2 := hbx.cell 2
    go_wp2_with (go_at_call 95; refine (rMay_c x hok _ B _ (HV.out.keep (hW.mono hB)) (Nat.le_trans hB hW.size)).mono ?_; rw [HM.out]; rintro e w1 ⟨rfl, hb1⟩)
    go_ret2
    refine ⟨?_, hW.trans (hb1.mono hW.size)⟩
    rw [HE2.out]
    rfl
  · have HM := Lib.hid hm
    have hE1 := HE.out
    rw [hm, if_pos rfl] at hE1
    clear HE
    have hac : (acc = false ∧ x.accB = true) ∨ (acc = true ∨ x.accB = false) := by cases acc <;> cases x.accB <;> simp
    rcases hac with ⟨rfl, hac⟩ | hac
    · have HA := Lib.hid hac
      have HE2 : Hid (p = (0, 90)) := by show _ = _; rw [hE1, if_pos ⟨rfl, hac⟩]
      clear hm hE1 hac
      go_enter Try.func69, Try.ntmps69
      go_upto_region 1 with fail
      generalize World.alloc w _ = W at *
      have c0 := hbx.cell 0
      have c1 := hbx.cell 1
      have c2 := hbx.cell 2
      go_wp2_with fail
      refine (rMay_c x hok _ B _ (HV.out.keep (hW.mono hB)) (Nat.le_trans hB hW.size)).mono ?_
      rw [HM.out]
      rintro e w1 ⟨rfl, hb1⟩
      have hbx1 := hbx.below hb1 hz
      have hW1 := hW.trans (hb1.mono hW.size)
      have d0 := hbx1.cell 0
      have d1 := hbx1.cell 1
      have d2 := hbx1.cell 2
      clear c0 c1 c2
      go_wp2_with (go_at_call 96; refine (racc_all x.ht x _ B _ (Nat.le_refl _) (HV.out.keep (hW1.mono hB)) (Nat.le_trans hB hW1.size)).mono ?_; rw [HA.out]; rintro e w2 ⟨rfl, hb2⟩)
      go_ret2
      refine ⟨?_, hW1.trans (hb2.mono hW1.size)⟩
      rw [HE2.out]
      rfl
    · have hE2 := hE1
      rw [if_neg (by rintro ⟨rfl, h⟩; rcases hac with h' | h' <;> simp_all)] at hE2
      obtain ⟨ty, hty⟩ : ∃ t, x.ty = t := ⟨_, rfl⟩
      rw [hty] at hE2
      have HTY := Lib.hid hty
      have hmay : Hid (mayB 16 x = true) := hm
      clear hm hE1 hty
      have hcase : (acc = true) ∨ (acc = false ∧ x.accB = false) := by cases acc <;> simp_all
      clear hac
      cases ht0 : (ty == 0)
      all_goals
        rcases hcase with rfl | ⟨rfl, hac⟩
        all_goals
          have HE3 := Lib.hid hE2
          try have HA := Lib.hid hac
          try clear hac
          clear hE2
          go_enter Try.func69, Try.ntmps69
          go_upto_region 1 with fail
          generalize World.alloc w _ = W at *
          have c0 := hbx.cell 0
          have c1 := hbx.cell 1
          have c2 := hbx.cell 2
          go_wp2_with fail
          refine (rMay_c x hok _ B _ (HV.out.keep (hW.mono hB)) (Nat.le_trans hB hW.size)).mono ?_
          rw [HM.out]
          rintro e w1 ⟨rfl, hb1⟩
          have hbx1 := hbx.below hb1 hz
          have hW1 := hW.trans (hb1.mono hW.size)
          have hz1 := hbx1.lt
          have d0 := hbx1.cell 0
          have d1 := hbx1.cell 1
          have d2 := hbx1.cell 2
          clear c0 c1 c2
      · go_wp2_with (go_at_call 97; refine (rof_all x.ht x _ B _ 16 (Nat.le_refl _) hok hmay.out (HV.out.keep (hW1.mono hB)) (Nat.le_trans hB hW1.size)).mono ?_; rw [HTY.out]; rintro e w2 ⟨rfl, hb2⟩)
        go_ret2
        refine ⟨?_, hW1.trans (hb2.mono hW1.size)⟩
        rw [HE3.out, if_neg (by simpa using ht0)]
        rfl
      · go_wp2_with fail
        refine (racc_all x.ht x _ B _ (Nat.le_refl _) (HV.out.keep (hW1.mono hB)) (Nat.le_trans hB hW1.size)).mono ?_
        rw [HA.out]
        rintro e w2 ⟨rfl, hb2⟩
        have hbx2 := hbx1.below hb2 hz1
        have hW2 := hW1.trans (hb2.mono hW1.size)
        have f0 := hbx2.cell 0
        have f1 := hbx2.cell 1
        have f2 := hbx2.cell 2
        clear d0 d1 d2
        go_wp2_with (go_at_call 97; refine (rof_all x.ht x _ B _ 16 (Nat.le_refl _) hok hmay.out (HV.out.keep (hW2.mono hB)) (Nat.le_trans hB hW2.size)).mono ?_; rw [HTY.out]; rintro e w3 ⟨rfl, hb3⟩)
        go_ret2
        refine ⟨?_, hW2.trans (hb3.mono hW2.size)⟩
        rw [HE3.out, if_neg (by simpa using ht0)]
        rfl
      · go_wp2_with (go_at_call 97; refine (rof_all x.ht x _ B _ 16 (Nat.le_refl _) hok hmay.out (HV.out.keep (hW1.mono hB)) (Nat.le_trans hB hW1.size)).mono ?_; rw [HTY.out]; rintro e w2 ⟨rfl, hb2⟩)
        go_ret2
        refine ⟨?_, hW1.trans (hb2.mono hW1.size)⟩
        rw [HE3.out, if_pos (by simpa using ht0)]
        rfl
      · go_wp2_with fail
        refine (racc_all x.ht x _ B _ (Nat.le_refl _) (HV.out.keep (hW1.mono hB)) (Nat.le_trans hB hW1.size)).mono ?_
        rw [HA.out]
        rintro e w2 ⟨rfl, hb2⟩
        have hbx2 := hbx1.below hb2 hz1
        have hW2 := hW1.trans (hb2.mono hW1.size)
        have f0 := hbx2.cell 0
        have f1 := hbx2.cell 1
        have f2 := hbx2.cell 2
        clear d0 d1 d2
        go_wp2_with (go_at_call 97; refine (rof_all x.ht x _ B _ 16 (Nat.le_refl _) hok hmay.out (HV.out.keep (hW2.mono hB)) (Nat.le_trans hB hW2.size)).mono ?_; rw [HTY.out]; rintro e w3 ⟨rfl, hb3⟩)
        go_ret2
        refine ⟨?_, hW2.trans (hb3.mono hW2.size)⟩
        rw [HE3.out, if_pos (by simpa using ht0)]
        rfl

end Go.Proofs.Ytfieoehchghiiaa
