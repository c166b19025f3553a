/-
  Walks: the reference's Of; KindOf.
-/
import Derived.Test.YtclknpfmmmaafaaQ7
import Derived.Test.YtclknpfmmmaafaaA0
namespace Go.Proofs.Ytclknpfmmmaafaa
open Go.RowKit
set_option linter.unusedVariables false

theorem rof_all (h : Nat) : ROfC h := by
  induction h using Nat.strongRecOn with
  | ind h ih => exact rof_step h (fun x hx v B w k hok hm hv hB => ih x.ht hx x v B w k (Nat.le_refl _) hok hm hv hB)

set_option maxHeartbeats 2000000 in
theorem rOf_c (x : Ex) (hok : x.ok) (acc : Bool) (v : Value) (B : Nat) (w : World) (hv : ExAt w B v x) (hB : B ≤ w.heap.size) :
    Calls Try.prog 18 #[v, .bool acc] w fun e w' => e = .returned (.tuple #[.int .u8 (x.typ acc).1, .int .i64 (x.typ acc).2]) ∧ Below w.heap.size w w' := by
  have HE : Hid (x.typ acc = if x.mayT = true then (if acc = false ∧ x.accB = true then (0, 90) else if x.ty = 0 then (0, 91) else (x.ty, 0)) else (0, 2)) := rfl
  have HV := Lib.hid hv
  obtain ⟨sv, rfl, hs⟩ := hv
  obtain ⟨a, cap, rfl, hcap, hmx⟩ := hs.slice
  have hW := (Below.refl w.heap.size w).alloc (Nat.le_refl _) (.cells #[.int .u8 x.op, .int .i64 x.n, .slice a x.args.length cap] 28)
  have hbx := Blk.new w #[.int .u8 x.op, .int .i64 x.n, .slice a x.args.length cap] 28
  generalize hgo : x.op = o at *
  generalize hgn : x.n = n at *
  generalize hgl : x.args.length = ll at *
  clear hs hgo hgn hgl hcap hmx
  generalize x.typ acc = p at *
  have hz := hbx.lt
  cases hm : x.mayT
  · have HM := Lib.hid hm
    have HE2 : Hid (p = (0, 2)) := by show _ = _; rw [HE.out, hm]; rfl
    clear hm HE
    go_enter Try.func18, Try.ntmps18
    go_upto_region 1 with fail
    generalize World.alloc w _ = W at *
    have c0 := hbx.cell 0
    have c1 := hbx.cell 1
    have c2 := hbx.cell 2
    go_wp2_with (go_at_call 35; refine (rMay_c x hok _ B _ (HV.out.keep (hW.mono hB)) (Nat.le_trans hB hW.size)).mono ?_; rw [HM.out]; rintro e w1 ⟨rfl, hb1⟩)
    go_ret2
    refine ⟨?_, hW.trans (hb1.mono hW.size)⟩
    rw [HE2.out]
    rfl
  · have HM := Lib.hid hm
    have hE1 := HE.out
    rw [hm, if_pos rfl] at hE1
    clear HE
    have hac : (acc = false ∧ x.accB = true) ∨ (acc = true ∨ x.accB = false) := by cases acc <;> cases x.accB <;> simp
    rcases hac with ⟨rfl, hac⟩ | hac
    · have HA := Lib.hid hac
      have HE2 : Hid (p = (0, 90)) := by show _ = _; rw [hE1, if_pos ⟨rfl, hac⟩]
      clear hm hE1 hac
      go_enter Try.func18, Try.ntmps18
      go_upto_region 1 with fail
      generalize World.alloc w _ = W at *
      have c0 := hbx.cell 0
      have c1 := hbx.cell 1
      have c2 := hbx.cell 2
      go_wp2_with fail
      refine (rMay_c x hok _ B _ (HV.out.keep (hW.mono hB)) (Nat.le_trans hB hW.size)).mono ?_
      rw [HM.out]
      rintro e w1 ⟨rfl, hb1⟩
      have hbx1 := hbx.below hb1 hz
      have hW1 := hW.trans (hb1.mono hW.size)
      have d0 := hbx1.cell 0
      have d1 := hbx1.cell 1
      have d2 := hbx1.cell 2
      clear c0 c1 c2
      go_wp2_with (go_at_call 36; refine (racc_all x.ht x _ B _ (Nat.le_refl _) (HV.out.keep (hW1.mono hB)) (Nat.le_trans hB hW1.size)).mono ?_; rw [HA.out]; rintro e w2 ⟨rfl, hb2⟩)
      go_ret2
      refine ⟨?_, hW1.trans (hb2.mono hW1.size)⟩
      rw [HE2.out]
      rfl
    · have hE2 := hE1
      rw [if_neg (by rintro ⟨rfl, h⟩; rcases hac with h' | h' <;> simp_all)] at hE2
      obtain ⟨ty, hty⟩ : ∃ t, x.ty = t := ⟨_, rfl⟩
      rw [hty] at hE2
      have HTY := Lib.hid hty
      have hmay : Hid (mayB 16 x = true) := hm
      clear hm hE1 hty
      have hcase : (acc = true) ∨ (acc = false ∧ x.accB = false) := by cases acc <;> simp_all
      clear hac
      cases ht0 : (ty == 0)
      all_goals
        rcases hcase with rfl | ⟨rfl, hac⟩
        all_goals
          have HE3 := Lib.hid hE2
          try have HA := Lib.hid hac
          try clear hac
          clear hE2
          go_enter Try.func18, Try.ntmps18
          go_upto_region 1 with fail
          generalize World.alloc w _ = W at *
          have c0 := hbx.cell 0
          have c1 := hbx.cell 1
          have c2 := hbx.cell 2
          go_wp2_with fail
          refine (rMay_c x hok _ B _ (HV.out.keep (hW.mono hB)) (Nat.le_trans hB hW.size)).mono ?_
          rw [HM.out]
          rintro e w1 ⟨rfl, hb1⟩
          have hbx1 := hbx.below hb1 hz
          have hW1 := hW.trans (hb1.mono hW.size)
          have hz1 := hbx1.lt
          have d0 := hbx1.cell 0
          have d1 := hbx1.cell 1
          have d2 := hbx1.cell 2
          clear c0 c1 c2
      · go_wp2_with (go_at_call 37; refine (rof_all x.ht x _ B _ 16 (Nat.le_refl _) hok hmay.out (HV.out.keep (hW1.mono hB)) (Nat.le_trans hB hW1.size)).mono ?_; rw [HTY.out]; rintro e w2 ⟨rfl, hb2⟩)
        go_ret2
        refine ⟨?_, hW1.trans (hb2.mono hW1.size)⟩
        rw [HE3.out, if_neg (by simpa using ht0)]
        rfl
      · go_wp2_with fail
        refine (racc_all x.ht x _ B _ (Nat.le_refl _) (HV.out.keep (hW1.mono hB)) (Nat.le_trans hB hW1.size)).mono ?_
        rw [HA.out]
        rintro e w2 ⟨rfl, hb2⟩
        have hbx2 := hbx1.below hb2 hz1
        have hW2 := hW1.trans (hb2.mono hW1.size)
        have f0 := hbx2.cell 0
        have f1 := hbx2.cell 1
        have f2 := hbx2.cell 2
        clear d0 d1 d2
        go_wp2_with (go_at_call 37; refine (rof_all x.ht x _ B _ 16 (Nat.le_refl _) hok hmay.out (HV.out.keep (hW2.mono hB)) (Nat.le_trans hB hW2.size)).mono ?_; rw [HTY.out]; rintro e w3 ⟨rfl, hb3⟩)
        go_ret2
        refine ⟨?_, hW2.trans (hb3.mono hW2.size)⟩
        rw [HE3.out, if_neg (by simpa using ht0)]
        rfl
      · go_wp2_with (go_at_call 37; refine (rof_all x.ht x _ B _ 16 (Nat.le_refl _) hok hmay.out (HV.out.keep (hW1.mono hB)) (Nat.le_trans hB hW1.size)).mono ?_; rw [HTY.out]; rintro e w2 ⟨rfl, hb2⟩)
        go_ret2
        refine ⟨?_, hW1.trans (hb2.mono hW1.size)⟩
        rw [HE3.out, if_pos (by simpa using ht0)]
        rfl
      · go_wp2_with fail
        refine (racc_all x.ht x _ B _ (Nat.le_refl _) (HV.out.keep (hW1.mono hB)) (Nat.le_trans hB hW1.size)).mono ?_
        rw [HA.out]
        rintro e w2 ⟨rfl, hb2⟩
        have hbx2 := hbx1.below hb2 hz1
        have hW2 := hW1.trans (hb2.mono hW1.size)
        have f0 := hbx2.cell 0
        have f1 := hbx2.cell 1
        have f2 := hbx2.cell 2
        clear d0 d1 d2
        go_wp2_with (go_at_call 37; refine (rof_all x.ht x _ B _ 16 (Nat.le_refl _) hok hmay.out (HV.out.keep (hW2.mono hB)) (Nat.le_trans hB hW2.size)).mono ?_; rw [HTY.out]; rintro e w3 ⟨rfl, hb3⟩)
        go_ret2
        refine ⟨?_, hW2.trans (hb3.mono hW2.size)⟩
        rw [HE3.out, if_pos (by simpa using ht0)]
        rfl

set_option maxRecDepth 100000 in
set_option maxHeartbeats 4000000 in
theorem kOf_c (w : World) (x : Ex) (v : Value) (gx : ExAt w w.heap.size v x) (kx : x.ok) (acc : Bool) (ty : Int) (wty : (Lit.int .u8 ty).wf = true) :
    Calls Try.prog 6 #[v, .bool acc, .int .u8 ty] w fun e w' => e = .returned (.bool true) ∧ Below w.heap.size w w' := by
  have GX := Lib.hid gx
  obtain ⟨sv, rfl, hs⟩ := gx
  obtain ⟨a, cap, rfl, hcap, hmx⟩ := hs.slice
  have hW := (Below.refl w.heap.size w).alloc (Nat.le_refl _) (.cells #[.int .u8 x.op, .int .i64 x.n, .slice a x.args.length cap] 28)
  have hb1 := Blk.new w #[.int .u8 x.op, .int .i64 x.n, .slice a x.args.length cap] 28
  have HOF := Lib.hid (fun W => Of_c x acc (.agg #[.int .u8 x.op, .int .i64 x.n, .slice a x.args.length cap]) w.heap.size W)
  have HRF := Lib.hid (fun W => rOf_c x kx acc (.agg #[.int .u8 x.op, .int .i64 x.n, .slice a x.args.length cap]) w.heap.size W)
  have HIS := Lib.hid (fun W => Is_c x acc ty (.agg #[.int .u8 x.op, .int .i64 x.n, .slice a x.args.length cap]) w.heap.size W)
  have hisb : x.isB acc ty = decide ((x.typ acc).2 = 0 ∧ (x.typ acc).1 = ty) := rfl
  generalize x.isB acc ty = ib at *
  generalize x.typ acc = p at *
  obtain ⟨t, er⟩ := p
  dsimp only at hisb
  generalize hxl : x.args.length = xl at *
  generalize hxo : x.op = xo at *
  generalize hxn : x.n = xn at *
  clear hs hxl hxo hxn hcap hmx wty
  obtain ⟨nx, hnx⟩ : ∃ n, x.size = n := ⟨_, rfl⟩
  have hnx2 := Ex.size_le x
  rw [hnx] at hnx2
  have HNX := Lib.hid hnx
  clear hnx
  have hl1 := hb1.lt
  by_cases h1 : nx < 2000
  · have htt : (t == t) = true := by simp
    have hee : (er == er) = true := by simp
    have hcs : (ib = true ∧ (er == 0) = true ∧ (t == ty) = true) ∨ (ib = false ∧ (er == 0) = true ∧ (t == ty) = false) ∨ (ib = false ∧ (er == 0) = false) := by
      by_cases h0 : er = 0
      · by_cases ht : t = ty
        · exact .inl ⟨by rw [hisb, decide_eq_true ⟨h0, ht⟩], by simpa using h0, by simpa using ht⟩
        · exact .inr (.inl ⟨by rw [hisb, decide_eq_false (fun h => ht h.2)], by simpa using h0, by simpa using ht⟩)
      · exact .inr (.inr ⟨by rw [hisb, decide_eq_false (fun h => h0 h.1)], by simpa using h0⟩)
    clear hisb
    rcases hcs with ⟨rfl, q1, q2⟩ | ⟨rfl, q1, q2⟩ | ⟨rfl, q1⟩
    all_goals
      go_enter Try.func6, Try.ntmps6
      go_upto_region 1 with fail
      generalize World.alloc w _ = W at *
      have p0 := hb1.cell 0
      have p1 := hb1.cell 1
      have p2 := hb1.cell 2
      go_wp2_with fail
      refine (Size_c x _ w.heap.size _ (GX.out.keep hW) hW.size).mono ?_
      rw [HNX.out]
      rintro e w1 ⟨rfl, hq1⟩
      have hd1 := hb1.below hq1 hl1
      have hW1 := hW.trans (hq1.mono hW.size)
      clear p0 p1 p2
      have p0 := hd1.cell 0
      have p1 := hd1.cell 1
      have p2 := hd1.cell 2
      go_wp2_with fail
      refine (HOF.out _ (GX.out.keep hW1) hW1.size).mono ?_
      rintro e w2 ⟨rfl, hq2⟩
      have hd2 := hd1.below hq2 hd1.lt
      have hW2 := hW1.trans (hq2.mono hW1.size)
      clear p0 p1 p2
      have p0 := hd2.cell 0
      have p1 := hd2.cell 1
      have p2 := hd2.cell 2
      go_wp2_with fail
      refine (HRF.out _ (GX.out.keep hW2) hW2.size).mono ?_
      rintro e w3 ⟨rfl, hq3⟩
      have hd3 := hd2.below hq3 hd2.lt
      have hW3 := hW2.trans (hq3.mono hW2.size)
      clear p0 p1 p2
      have p0 := hd3.cell 0
      have p1 := hd3.cell 1
      have p2 := hd3.cell 2
      go_wp2_with fail
      refine (HIS.out _ (GX.out.keep hW3) hW3.size).mono ?_
      rintro e w4 ⟨rfl, hq4⟩
      have hW4 := hW3.trans (hq4.mono hW3.size)
      clear p0 p1 p2 hq1 hq2 hq3 hq4 hd1 hd2 hd3 hW1 hW2 hW3
      go_wp2_with (go_at_call 14; refine (kworks_c _).mono ?_; rintro e w9 ⟨rfl, hq9⟩)
      go_ret
      exact ⟨rfl, hW4.trans (hq9.mono hW4.size)⟩
  · clear hisb
    go_enter Try.func6, Try.ntmps6
    go_upto_region 1 with fail
    generalize World.alloc w _ = W at *
    have p0 := hb1.cell 0
    have p1 := hb1.cell 1
    have p2 := hb1.cell 2
    go_wp2_with fail
    refine (Size_c x _ w.heap.size _ (GX.out.keep hW) hW.size).mono ?_
    rw [HNX.out]
    rintro e w1 ⟨rfl, hq1⟩
    have hW1 := hW.trans (hq1.mono hW.size)
    go_wp2_with (go_at_call 14; refine (kworks_c _).mono ?_; rintro e w4 ⟨rfl, hb4⟩)
    go_ret
    exact ⟨rfl, hW1.trans (hb4.mono hW1.size)⟩

end Go.Proofs.Ytclknpfmmmaafaa
