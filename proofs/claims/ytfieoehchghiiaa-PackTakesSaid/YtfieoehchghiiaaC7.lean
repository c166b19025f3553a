/-
  The walk of pack.Take's closure that reads expressions: a step.
-/
import Derived.Test.YtfieoehchghiiaaMC
namespace Go.Proofs.Ytfieoehchghiiaa
open Go.RowKit
set_option linter.unusedVariables false

set_option maxRecDepth 100000 in
set_option maxHeartbeats 8000000 in
theorem takeEx_step (k : Nat) (hk : k ≤ 100) (IH : Hid (TakeC k)) : TakeC (k + 1) := by
  intro be bs bf bn bm bl bt p w hs h hc
  have hel := h.E.lt
  have hsl := h.S.lt
  have hne := hc.cl.ne
  have HE : Hid (Rd.ex (k + 1) p = (.mk p.small.1 p.small.2.num.1 (reps (Rd.ex k) (p.small.2.num.2.many 3).1.toNat (p.small.2.num.2.many 3).2).1, (reps (Rd.ex k) (p.small.2.num.2.many 3).1.toNat (p.small.2.num.2.many 3).2).2)) := rfl
  have hs1 := Nat.le_trans p.small_size hs
  have HSM := Lib.hid (fun W h1 h2 => small_cP be bs bf bn p hs W h1 h2)
  generalize hq1 : p.small = q1 at *
  have HNU := Lib.hid (fun W h1 h2 => pnumber_c be bs bf hne q1.2 hs1 W h1 h2)
  have hs2 := Nat.le_trans q1.2.num_size hs1
  generalize hq2 : q1.2.num = q2 at *
  have HMN := Lib.hid (fun W h1 h2 => many_cP be bs bf bn 3 q2.2 hs2 W h1 h2)
  have hs3 := Nat.le_trans (q2.2.many_size 3) hs2
  have hml := q2.2.many_le 3 (by omega)
  generalize hq3 : q2.2.many 3 = q3 at *
  clear hq1 hq2 hq3
  obtain ⟨o, p1⟩ := q1
  obtain ⟨n, p2⟩ := q2
  obtain ⟨m, p3⟩ := q3
  dsimp only at HE HSM HNU HMN hs1 hs2 hs3 hml
  obtain ⟨mm, rfl⟩ : ∃ mm : Nat, m = (mm : Int) := ⟨m.toNat, by omega⟩
  rw [Int.toNat_natCast] at HE
  unfold TakePost
  generalize Rd.ex (k + 1) p = R at *
  have h1 := h.alloc (.cells #[.int .u8 0, .int .i64 0, .slice none 0 0] 35)
  have hc1 := hc.alloc (.cells #[.int .u8 0, .int .i64 0, .slice none 0 0] 35)
  have hF1 : Fr (FrS be bs) w (w.alloc (.cells #[.int .u8 0, .int .i64 0, .slice none 0 0] 35)) := (Fr.refl _ w).alloc _
  have hr1 := Blk.new w #[.int .u8 0, .int .i64 0, .slice none 0 0] 35
  have hz1 : ((k : Int) + 1 == 0) = false := by rw [beq_eq_false_iff_ne]; omega
  have hkc : ((k + 1 : Nat) : Int) = (k : Int) + 1 := by omega
  rw [hkc]
  clear h hc
  have hrn : ¬ FrS be bs w.heap.size := by rintro (q | q) <;> omega
  go_enter Try.func50, Try.ntmps50
  go_upto_region 1 with fail
  have hWs : w.heap.size < (w.alloc (.cells #[.int .u8 0, .int .i64 0, .slice none 0 0] 35)).heap.size := hr1.lt
  generalize w.alloc (.cells #[.int .u8 0, .int .i64 0, .slice none 0 0] 35) = W at *
  go_upto_region 4 with fail
  go_cut [8] (fun p8 wx => ∃ bx, p8 = .pointer (some ⟨bx, 0, none⟩) ∧ TX w wx be bs bf bn bm bl bt bx p2 o n (.slice none 0 0) ∧ CtFar bx be bs bf bn bm bl bt)
  case first =>
    refine wp_region_held_drew (S := (fun w' => Ct w' be bs bf bn bm bl bt)) (by kernel_rfl) ?_ (fun hHeld => ?_)
    · exact hc1.drew
    refine wpAnyH_take (i := 0) (oi := _) (v := ?_) rfl (by kernel_rfl) (by kernel_rfl) (by kernel_rfl) (fun _ _ _ h => h) (Or.inl ⟨by rfl, ?_⟩) (by assumption) ?_
    rotate_left
    · intro w' hSw
      (try dsimp only at hSw)
      have l0 := hSw.L.cell
      unfold smallV at l0
      have n0 := hSw.cl.N.cell
      unfold numberV at n0
      clear hSw
      go_simp
      try with_reducible rfl
    try simp only [Act.put, List.getElem_toArray, List.getElem_cons_zero, List.setIfInBounds_toArray, List.set_cons_zero, List.set_cons_succ]
    refine wpAnyH_take (i := 2) (oi := _) (v := ?_) rfl (by kernel_rfl) (by kernel_rfl) (by kernel_rfl) (fun _ _ _ h => h) (Or.inl ⟨by rfl, ?_⟩) (by assumption) ?_
    rotate_left
    · intro w' hSw
      (try dsimp only at hSw)
      have l0 := hSw.L.cell
      unfold smallV at l0
      have n0 := hSw.cl.N.cell
      unfold numberV at n0
      clear hSw
      go_simp
      try with_reducible rfl
    try simp only [Act.put, List.getElem_toArray, List.getElem_cons_zero, List.getElem_cons_succ, List.setIfInBounds_toArray, List.set_cons_zero, List.set_cons_succ]
    refine wpAnyH_ready (rs := [1, 5]) (by kernel_rfl) (by simp) ?_
    refine AllReadyH.cons rfl (fun K hK => ?_) (AllReadyH.cons rfl (fun K hK => ?_) (AllReadyH.nil))
    · go_simp
      go_at_call 47
      refine (HSM.out _ (h1.drew) (hc1.drew).cl).mono ?_
      rintro e w1 ⟨rfl, h2, f2⟩
      have ct2 := Ct.fr (hc1.drew) f2
      refine hK.out _ _ ?_ (fun hHeld => ?_)
      · exact ct2
      clear hK K
      try simp only [Act.put, List.getElem_toArray, List.getElem_cons_zero, List.getElem_cons_succ, List.setIfInBounds_toArray, List.set_cons_zero, List.set_cons_succ]
      refine wpAnyH_ready (rs := [3, 5]) (by kernel_rfl) (by simp) ?_
      refine AllReadyH.cons rfl (fun K hK => ?_) (AllReadyH.cons rfl (fun K hK => ?_) (AllReadyH.nil))
      · go_simp
        go_at_call 44
        refine (HNU.out _ (h2) (ct2).cl.F).mono ?_
        rintro e w2 ⟨rfl, h3, f3⟩
        have ct3 := Ct.fr (ct2) f3
        refine hK.out _ _ ?_ (fun hHeld => ?_)
        · exact ct3
        clear hK K
        try simp only [Act.put, List.getElem_toArray, List.getElem_cons_zero, List.getElem_cons_succ, List.setIfInBounds_toArray, List.set_cons_zero, List.set_cons_succ]
        refine wpAnyH_take (i := 4) (oi := _) (v := ?_) rfl (by kernel_rfl) (by kernel_rfl) (by kernel_rfl) (fun _ _ _ h => h) (Or.inl ⟨by rfl, ?_⟩) (by assumption) ?_
        rotate_left
        · intro w' hSw
          (try dsimp only at hSw)
          have l0 := hSw.L.cell
          unfold smallV at l0
          have n0 := hSw.cl.N.cell
          unfold numberV at n0
          clear hSw
          go_simp
          try with_reducible rfl
        try simp only [Act.put, List.getElem_toArray, List.getElem_cons_zero, List.getElem_cons_succ, List.setIfInBounds_toArray, List.set_cons_zero, List.set_cons_succ]
        refine wpAnyH_ready (rs := [5]) (by kernel_rfl) (by simp) ?_
        refine AllReadyH.cons rfl (fun K hK => ?_) AllReadyH.nil
        go_simp
        refine hK.out _ _ ?_ (fun hHeld => ?_)
        · exact ct3.alloc _
        clear hK K
        try simp only [Act.put, List.getElem_toArray, List.getElem_cons_zero, List.getElem_cons_succ, List.setIfInBounds_toArray, List.set_cons_zero, List.set_cons_succ]
        refine wpAnyH_ready (rs := [6]) (by kernel_rfl) (by simp) ?_
        refine AllReadyH.cons rfl (fun K hK => ?_) AllReadyH.nil
        go_simp
        refine hK.out _ _ ?_ (fun hHeld => ?_)
        · exact ct3.alloc _
        clear hK K
        try simp only [Act.put, List.getElem_toArray, List.getElem_cons_zero, List.getElem_cons_succ, List.setIfInBounds_toArray, List.set_cons_zero, List.set_cons_succ]
        refine wpAnyH_done (by kernel_rfl) ?_ _
        go_wp2_with fail
        go_meet
        have fr3 := (hF1.drew.trans f2).trans f3
        exact ⟨w2.heap.size, rfl, ⟨fr3.alloc _, h3.alloc _, ct3.alloc _, ((hr1.drew.fr f2 hrn).fr f3 hrn).alloc _, Blk.new _ _ _, Nat.lt_of_lt_of_le hWs (Nat.le_trans f2.size f3.size), hel, hsl⟩, CtFar.of ct3⟩
      · go_simp
        have h2a := h2.alloc (.cells #[.int .u8 0, .int .i64 0, .slice none 0 0] 35)
        have ct2a := ct2.alloc (.cells #[.int .u8 0, .int .i64 0, .slice none 0 0] 35)
        have hb0 := Blk.new w1 #[.int .u8 0, .int .i64 0, .slice none 0 0] 35
        have fa : Fr (FrS be bs) w (w1.alloc (.cells #[.int .u8 0, .int .i64 0, .slice none 0 0] 35)) := (hF1.drew.trans f2).alloc _
        have hra := (hr1.drew.fr f2 hrn).alloc (.cells #[.int .u8 0, .int .i64 0, .slice none 0 0] 35)
        refine hK.out _ _ ?_ (fun hHeld => ?_)
        · exact ct2.alloc _
        clear hK K
        try simp only [Act.put, List.getElem_toArray, List.getElem_cons_zero, List.getElem_cons_succ, List.setIfInBounds_toArray, List.set_cons_zero, List.set_cons_succ]
        refine wpAnyH_ready (rs := [3]) (by kernel_rfl) (by simp) ?_
        refine AllReadyH.cons rfl (fun K hK => ?_) AllReadyH.nil
        go_simp
        go_at_call 44
        refine (HNU.out _ (h2a) (ct2a).cl.F).mono ?_
        rintro e w2 ⟨rfl, h3, f3⟩
        have ct3 := Ct.fr (ct2a) f3
        have hlb : w.heap.size < w1.heap.size := Nat.lt_of_lt_of_le hWs f2.size
        have hbn : ¬ FrS be bs w1.heap.size := by rintro (q | q) <;> omega
        have hbx := hb0.fr f3 hbn
        have frx := fa.trans f3
        have hrx := hra.fr f3 hrn
        have z0 := (hbx).free 0
        have z1 := (hbx).free 1
        have z2 := (hbx).free 2
        have x0 := (hbx).cell 0
        have x1 := (hbx).cell 1
        have x2 := (hbx).cell 2
        refine hK.out _ _ ?_ (fun hHeld => ?_)
        · exact ct3
        clear hK K
        try simp only [Act.put, List.getElem_toArray, List.getElem_cons_zero, List.getElem_cons_succ, List.setIfInBounds_toArray, List.set_cons_zero, List.set_cons_succ]
        refine wpAnyH_take (i := 4) (oi := _) (v := ?_) rfl (by kernel_rfl) (by kernel_rfl) (by kernel_rfl) (fun _ _ _ h => h) (Or.inl ⟨by rfl, ?_⟩) (by assumption) ?_
        rotate_left
        · intro w' hSw
          (try dsimp only at hSw)
          have l0 := hSw.L.cell
          unfold smallV at l0
          have n0 := hSw.cl.N.cell
          unfold numberV at n0
          clear hSw
          go_simp
          try with_reducible rfl
        try simp only [Act.put, List.getElem_toArray, List.getElem_cons_zero, List.getElem_cons_succ, List.setIfInBounds_toArray, List.set_cons_zero, List.set_cons_succ]
        have hbe : be ≠ w1.heap.size := by omega
        have hbs : bs ≠ w1.heap.size := by omega
        have hwb : w.heap.size ≤ w1.heap.size := by omega
        have hfar : CtFar w1.heap.size be bs bf bn bm bl bt := CtFar.of ct2
        refine wpAnyH_ready (rs := [6]) (by kernel_rfl) (by simp) ?_
        refine AllReadyH.cons rfl (fun K hK => ?_) AllReadyH.nil
        go_simp
        refine hK.out _ _ ?_ (fun hHeld => ?_)
        · exact Ct.far3 ct3 hfar _ _ _
        clear hK K
        try simp only [Act.put, List.getElem_toArray, List.getElem_cons_zero, List.getElem_cons_succ, List.setIfInBounds_toArray, List.set_cons_zero, List.set_cons_succ]
        refine wpAnyH_done (by kernel_rfl) ?_ _
        go_wp2_with fail
        go_meet
        exact ⟨w1.heap.size, rfl, ⟨((frx.setCell (p := ⟨w1.heap.size, 0, none⟩) (.inr hwb) _).setCell (p := ⟨w1.heap.size, 1, none⟩) (.inr hwb) _).setCell (p := ⟨w1.heap.size, 2, none⟩) (.inr hwb) _, PS.far3 h3 hbe hbs _ _ _, Ct.far3 ct3 hfar _ _ _, Blk.far3 hrx (Nat.ne_of_lt hlb) _ _ _, ex_set hbx rfl _ _ _, hlb, hel, hsl⟩, hfar⟩
    · go_simp
      have h1a := (h1.alloc (.cells #[.int .u8 0, .int .i64 0, .slice none 0 0] 35)).drew
      have ct1a := (hc1.alloc (.cells #[.int .u8 0, .int .i64 0, .slice none 0 0] 35)).drew
      have hb0 := (Blk.new W #[.int .u8 0, .int .i64 0, .slice none 0 0] 35).drew
      have fa : Fr (FrS be bs) w ((W.alloc (.cells #[.int .u8 0, .int .i64 0, .slice none 0 0] 35)).drew) := (hF1.alloc _).drew
      have hra := (hr1.alloc (.cells #[.int .u8 0, .int .i64 0, .slice none 0 0] 35)).drew
      refine hK.out _ _ ?_ (fun hHeld => ?_)
      · exact (hc1.alloc _).drew
      clear hK K
      try simp only [Act.put, List.getElem_toArray, List.getElem_cons_zero, List.getElem_cons_succ, List.setIfInBounds_toArray, List.set_cons_zero, List.set_cons_succ]
      refine wpAnyH_ready (rs := [1]) (by kernel_rfl) (by simp) ?_
      refine AllReadyH.cons rfl (fun K hK => ?_) AllReadyH.nil
      go_simp
      go_at_call 47
      refine (HSM.out _ (h1a) (ct1a).cl).mono ?_
      rintro e w1 ⟨rfl, h2, f2⟩
      have ct2 := Ct.fr (ct1a) f2
      have hlb : w.heap.size < W.heap.size := hWs
      have hbn : ¬ FrS be bs W.heap.size := by rintro (q | q) <;> omega
      have hbx1 := hb0.fr f2 hbn
      have hra2 := hra.fr f2 hrn
      refine hK.out _ _ ?_ (fun hHeld => ?_)
      · exact ct2
      clear hK K
      try simp only [Act.put, List.getElem_toArray, List.getElem_cons_zero, List.getElem_cons_succ, List.setIfInBounds_toArray, List.set_cons_zero, List.set_cons_succ]
      refine wpAnyH_ready (rs := [3]) (by kernel_rfl) (by simp) ?_
      refine AllReadyH.cons rfl (fun K hK => ?_) AllReadyH.nil
      go_simp
      go_at_call 44
      refine (HNU.out _ (h2) (ct2).cl.F).mono ?_
      rintro e w2 ⟨rfl, h3, f3⟩
      have ct3 := Ct.fr (ct2) f3
      have hbx := hbx1.fr f3 hbn
      have frx := (fa.trans f2).trans f3
      have hrx := hra2.fr f3 hrn
      have z0 := (hbx).free 0
      have z1 := (hbx).free 1
      have z2 := (hbx).free 2
      have x0 := (hbx).cell 0
      have x1 := (hbx).cell 1
      have x2 := (hbx).cell 2
      refine hK.out _ _ ?_ (fun hHeld => ?_)
      · exact ct3
      clear hK K
      try simp only [Act.put, List.getElem_toArray, List.getElem_cons_zero, List.getElem_cons_succ, List.setIfInBounds_toArray, List.set_cons_zero, List.set_cons_succ]
      refine wpAnyH_take (i := 4) (oi := _) (v := ?_) rfl (by kernel_rfl) (by kernel_rfl) (by kernel_rfl) (fun _ _ _ h => h) (Or.inl ⟨by rfl, ?_⟩) (by assumption) ?_
      rotate_left
      · intro w' hSw
        (try dsimp only at hSw)
        have l0 := hSw.L.cell
        unfold smallV at l0
        have n0 := hSw.cl.N.cell
        unfold numberV at n0
        clear hSw
        go_simp
        try with_reducible rfl
      try simp only [Act.put, List.getElem_toArray, List.getElem_cons_zero, List.getElem_cons_succ, List.setIfInBounds_toArray, List.set_cons_zero, List.set_cons_succ]
      have hbe : be ≠ W.heap.size := by omega
      have hbs : bs ≠ W.heap.size := by omega
      have hwb : w.heap.size ≤ W.heap.size := by omega
      have hfar : CtFar W.heap.size be bs bf bn bm bl bt := CtFar.of hc1
      refine wpAnyH_ready (rs := [6]) (by kernel_rfl) (by simp) ?_
      refine AllReadyH.cons rfl (fun K hK => ?_) AllReadyH.nil
      go_simp
      refine hK.out _ _ ?_ (fun hHeld => ?_)
      · exact Ct.far3 ct3 hfar _ _ _
      clear hK K
      try simp only [Act.put, List.getElem_toArray, List.getElem_cons_zero, List.getElem_cons_succ, List.setIfInBounds_toArray, List.set_cons_zero, List.set_cons_succ]
      refine wpAnyH_done (by kernel_rfl) ?_ _
      go_wp2_with fail
      go_meet
      exact ⟨W.heap.size, rfl, ⟨((frx.setCell (p := ⟨W.heap.size, 0, none⟩) (.inr hwb) _).setCell (p := ⟨W.heap.size, 1, none⟩) (.inr hwb) _).setCell (p := ⟨W.heap.size, 2, none⟩) (.inr hwb) _, PS.far3 h3 hbe hbs _ _ _, Ct.far3 ct3 hfar _ _ _, Blk.far3 hrx (Nat.ne_of_lt hlb) _ _ _, ex_set hbx rfl _ _ _, hlb, hel, hsl⟩, hfar⟩
  case rest =>
    obtain ⟨bx, rfl, hT, hfar⟩ := hcut
    have b0 := hT.ct.M.cell
    unfold manyV at b0
    go_wp2_with fail
    refine (HMN.out _ hT.ps hT.ct.cl).mono ?_
    rintro e w5 ⟨rfl, h5, f5⟩
    replace hT := hT.step f5 h5
    clear b0
    go_wp2_with fail
    have hxB := hT.x.lt
    have hCB := CtLt.of hT.ct
    have hbeB := h5.E.lt
    have hbsB := h5.S.lt
    have hE := ERow.nil w5.heap.size w5 (fun _ => undef)
    have ii := info_exC
    obtain ⟨i0, hi, iz⟩ := Option.map_eq_some_iff.1 ii
    simp only [Prod.mk.injEq] at iz
    obtain ⟨iz0, iz1, iz2⟩ := iz
    have hwB := Nat.le_of_lt (Nat.lt_trans hT.lt hT.x.lt)
    have hwB1 : w.heap.size < w5.heap.size := Nat.lt_trans hT.lt hT.x.lt
    clear ii HSM HNU HMN hF1 h1 hc1 hr1 f5 h5
    generalize hB0 : w5.heap.size = B0 at *
    have hB5 : B0 ≤ w5.heap.size := Nat.le_of_eq hB0.symm
    clear hB0
    go_loopw [21] (fun q wr => ∃ (j : Nat) (av : Value) (cs : List Value) (svs : Nat → Value), q = .int .i64 j ∧ j ≤ mm ∧ TX w wr be bs bf bn bm bl bt bx (reps (Rd.ex k) j p3).2 o n av ∧ ERow B0 wr (reps (Rd.ex k) j p3).1 av cs svs ∧ B0 ≤ wr.heap.size) (fun q _ => mm - (intOf q).toNat)
    case atStart => exact ⟨0, .slice none 0 0, [], fun _ => undef, rfl, Nat.zero_le _, hT, hE, hB5⟩
    case round =>
      obtain ⟨j, av, cs, svs, rfl, hj, hTr, hEr, hBr⟩ := hrel
      have HSN := Lib.hid (reps_snoc (Rd.ex k) j p3)
      have hsr := Nat.le_trans (reps_size (Rd.ex k) (Rd.ex_size k) j p3) hs3
      have hrl := reps_len (Rd.ex k) j p3
      by_cases hlt : j < mm
      · have hltd : decide ((j : Int) < (mm : Int)) = true := decide_eq_true (by omega)
        generalize reps (Rd.ex k) j p3 = r at *
        have hTd := hTr.drew
        have hEd := hEr.drew
        have hx0 := hTd.x.cell 2
        have hwk : IntKind.i64.wrap (k : Int) = (k : Int) := by simp [IntKind.wrap, IntKind.bits, IntKind.signed]; omega
        go_upto_region 7 with fail
        refine wp_region_held_drew (S := (fun w' => Bx w' bt (takeV bf bl bn bm bt))) (by kernel_rfl) ?_ (fun hHeld => ?_)
        · exact hTd.ct.T
        refine wpAnyH_take (i := 0) (oi := _) (v := ?_) rfl (by kernel_rfl) (by kernel_rfl) (by kernel_rfl) (fun _ _ _ h => h) (Or.inl ⟨by rfl, ?_⟩) (by assumption) ?_
        rotate_left
        · intro w' hSw
          (try dsimp only at hSw)
          have l0 := hSw.cell
          unfold takeV at l0
          clear hSw
          go_simp
          try with_reducible rfl
        try simp only [Act.put, List.getElem_toArray, List.getElem_cons_zero, List.setIfInBounds_toArray, List.set_cons_zero, List.set_cons_succ]
        refine wpAnyH_take (i := 2) (oi := _) (v := ?_) rfl (by kernel_rfl) (by kernel_rfl) (by kernel_rfl) (fun _ _ _ h => h) (Or.inl ⟨by rfl, ?_⟩) (by assumption) ?_
        rotate_left
        · intro w' hSw
          (try dsimp only at hSw)
          have l0 := hSw.cell
          unfold takeV at l0
          clear hSw
          go_simp
          try with_reducible rfl
        try simp only [Act.put, List.getElem_toArray, List.getElem_cons_zero, List.getElem_cons_succ, List.setIfInBounds_toArray, List.set_cons_zero, List.set_cons_succ]
        refine wpAnyH_take (i := 3) (oi := _) (v := ?_) rfl (by kernel_rfl) (by kernel_rfl) (by kernel_rfl) (fun _ _ _ h => h) (Or.inl ⟨by rfl, ?_⟩) (by assumption) ?_
        rotate_left
        · intro w' hSw
          (try dsimp only at hSw)
          have l0 := hSw.cell
          unfold takeV at l0
          clear hSw
          go_simp
          try with_reducible rfl
        try simp only [Act.put, List.getElem_toArray, List.getElem_cons_zero, List.getElem_cons_succ, List.setIfInBounds_toArray, List.set_cons_zero, List.set_cons_succ]
        refine wpAnyH_take (i := 4) (oi := _) (v := ?_) rfl (by kernel_rfl) (by kernel_rfl) (by kernel_rfl) (fun _ _ _ h => h) (Or.inl ⟨by rfl, ?_⟩) (by assumption) ?_
        rotate_left
        · intro w' hSw
          (try dsimp only at hSw)
          have l0 := hSw.cell
          unfold takeV at l0
          clear hSw
          go_simp
          (try rw [hwk])
          try with_reducible rfl
        try simp only [Act.put, List.getElem_toArray, List.getElem_cons_zero, List.getElem_cons_succ, List.setIfInBounds_toArray, List.set_cons_zero, List.set_cons_succ]
        refine wpAnyH_ready (rs := [1, 5]) (by kernel_rfl) (by simp) ?_
        refine AllReadyH.cons rfl (fun K hK => ?_) (AllReadyH.cons rfl (fun K hK => ?_) (AllReadyH.nil))
        · go_simp
          refine hK.out _ _ ?_ (fun hHeld => ?_)
          · exact hTd.ct.T
          clear hK K
          try simp only [Act.put, List.getElem_toArray, List.getElem_cons_zero, List.getElem_cons_succ, List.setIfInBounds_toArray, List.set_cons_zero, List.set_cons_succ]
          refine wpAnyH_ready (rs := [5]) (by kernel_rfl) (by simp) ?_
          refine AllReadyH.cons rfl (fun K hK => ?_) AllReadyH.nil
          go_simp
          go_at_call 50
          refine (IH.out be bs bf bn bm bl bt r.2 wr.drew hsr hTd.ps hTd.ct).mono ?_
          rintro e w6 ⟨sv, rfl, hy, h6, f6⟩
          have hT6 := hTd.step f6 h6
          have hE6 := hEd.fr f6 hbeB hbsB
          obtain ⟨a2, n2, cap2, rfl⟩ := hy.slice
          generalize (Rd.ex k r.2).1 = y at *
          generalize (Rd.ex k r.2).2 = r2 at *
          have hB6 : B0 ≤ w6.heap.size := Nat.le_trans hBr f6.size
          have hx6 := hT6.x.cell 2
          refine hK.out _ _ ?_ (fun hHeld => ?_)
          · exact hT6.ct.T
          clear hK K
          try simp only [Act.put, List.getElem_toArray, List.getElem_cons_zero, List.getElem_cons_succ, List.setIfInBounds_toArray, List.set_cons_zero, List.set_cons_succ]
          refine wpAnyH_ready (rs := [6]) (by kernel_rfl) (by simp) ?_
          refine AllReadyH.cons rfl (fun K hK => ?_) AllReadyH.nil
          go_simp
          have hTa := hT6.step ((Fr.refl (FrS be bs) w6).alloc (.cells #[.int .u8 y.op, .int .i64 y.n, .slice a2 n2 cap2] 35)) (hT6.ps.alloc _)
          have hEa := hE6.fr ((Fr.refl (FrS be bs) w6).alloc (.cells #[.int .u8 y.op, .int .i64 y.n, .slice a2 n2 cap2] 35)) hbeB hbsB
          have hxa := hTa.x.cell 2
          refine hK.out _ _ ?_ (fun hHeld => ?_)
          · exact hTa.ct.T
          clear hK K
          try simp only [Act.put, List.getElem_toArray, List.getElem_cons_zero, List.getElem_cons_succ, List.setIfInBounds_toArray, List.set_cons_zero, List.set_cons_succ]
          refine wpAnyH_ready (rs := [7]) (by kernel_rfl) (by simp) ?_
          refine AllReadyH.cons rfl (fun K hK => ?_) AllReadyH.nil
          have hszX : (w6.alloc (.cells #[.int .u8 y.op, .int .i64 y.n, .slice a2 n2 cap2] 35)).heap.size = w6.heap.size + 1 := by simp
          refine step_append_lies _ (by rfl) _ _ _ (by rfl) B0 35 i0 (.agg #[.int .u8 0, .int .i64 0, .slice none 0 0]) 3 40 Try.underlying33 hi iz0 iz1 iz2 rfl (by decide) av r.1.length cs (by rfl) hEa.own ⟨w6.heap.size, 0, none⟩ 1 1 (#[.int .u8 y.op, .int .i64 y.n, .slice a2 n2 cap2]).toList (by rfl) (by rfl) (World.news_of_block (heap_alloc_new w6 _)) (by simp [Value.oneCell']) (by omega) (by unfold maxLen; omega) (by omega) (by omega) _ rfl ?_
          intro g capg w7 hown7 hgrow7 hat7 hlt7
          have hT7 := hTa.keepB hxB hCB hgrow7.os hgrow7.tape hgrow7.output hgrow7.size (fun b hb => hgrow7.block b (by omega) (fun e => by have := (hE6.own_ge b e.symm).1; omega))
          have hE7 := hE6.snoc (fun q hq => (hEd.own_ge q hq).2) f6.size hBr hy hgrow7 hat7 hlt7 hown7
          rw [hrl] at hE7
          have hB7 : B0 ≤ w7.heap.size := by have := hgrow7.size; omega
          have hx7 := hT7.x.cell 2
          have hz7 := hT7.x.free 2
          refine hK.out _ _ ?_ (fun hHeld => ?_)
          · exact hT7.ct.T
          clear hK K
          try simp only [Act.put, List.getElem_toArray, List.getElem_cons_zero, List.getElem_cons_succ, List.setIfInBounds_toArray, List.set_cons_zero, List.set_cons_succ]
          refine wpAnyH_take (i := 8) (oi := _) (v := ?_) rfl (by kernel_rfl) (by kernel_rfl) (by kernel_rfl) (fun _ _ _ h => h) (Or.inl ⟨by rfl, ?_⟩) (by assumption) ?_
          rotate_left
          · intro w' hSw
            (try dsimp only at hSw)
            have l0 := hSw.cell
            unfold takeV at l0
            clear hSw
            go_simp
            try with_reducible rfl
          try simp only [Act.put, List.getElem_toArray, List.getElem_cons_zero, List.getElem_cons_succ, List.setIfInBounds_toArray, List.set_cons_zero, List.set_cons_succ]
          refine wpAnyH_ready (rs := [9]) (by kernel_rfl) (by simp) ?_
          refine AllReadyH.cons rfl (fun K hK => ?_) AllReadyH.nil
          go_simp
          have hT8 := hT7.setX hfar (.slice (some ⟨g, 0, none⟩) (j + 1) capg)
          have hE8 := hE7.keepB (wy := w7.setCell ⟨bx, 2, none⟩ (.slice (some ⟨g, 0, none⟩) (j + 1) capg)) (by simp) (fun b hb _ => heap_setCell_other w7 ⟨bx, 2, none⟩ b _ (by show b ≠ bx; omega))
          have hB8 : B0 ≤ (w7.setCell ⟨bx, 2, none⟩ (.slice (some ⟨g, 0, none⟩) (j + 1) capg)).heap.size := by simpa using hB7
          refine hK.out _ _ ?_ (fun hHeld => ?_)
          · exact hT8.ct.T
          clear hK K
          try simp only [Act.put, List.getElem_toArray, List.getElem_cons_zero, List.getElem_cons_succ, List.setIfInBounds_toArray, List.set_cons_zero, List.set_cons_succ]
          refine wpAnyH_done (by kernel_rfl) ?_ _
          go_wp2_with fail
          go_roundw
          case measure => simp only [intOf]; omega
          case rel => exact ⟨j + 1, _, _, _, rfl, by omega, by rw [HSN.out]; exact hT8, by rw [HSN.out]; exact hE8, hB8⟩
        · go_simp
          go_at_call 50
          refine (IH.out be bs bf bn bm bl bt r.2 wr.drew hsr hTd.ps hTd.ct).mono ?_
          rintro e w6 ⟨sv, rfl, hy, h6, f6⟩
          have hT6 := hTd.step f6 h6
          have hE6 := hEd.fr f6 hbeB hbsB
          obtain ⟨a2, n2, cap2, rfl⟩ := hy.slice
          generalize (Rd.ex k r.2).1 = y at *
          generalize (Rd.ex k r.2).2 = r2 at *
          have hB6 : B0 ≤ w6.heap.size := Nat.le_trans hBr f6.size
          have hx6 := hT6.x.cell 2
          refine hK.out _ _ ?_ (fun hHeld => ?_)
          · exact hT6.ct.T
          clear hK K
          try simp only [Act.put, List.getElem_toArray, List.getElem_cons_zero, List.getElem_cons_succ, List.setIfInBounds_toArray, List.set_cons_zero, List.set_cons_succ]
          refine wpAnyH_ready (rs := [1, 6]) (by kernel_rfl) (by simp) ?_
          refine AllReadyH.cons rfl (fun K hK => ?_) (AllReadyH.cons rfl (fun K hK => ?_) (AllReadyH.nil))
          · go_simp
            refine hK.out _ _ ?_ (fun hHeld => ?_)
            · exact hT6.ct.T
            clear hK K
            try simp only [Act.put, List.getElem_toArray, List.getElem_cons_zero, List.getElem_cons_succ, List.setIfInBounds_toArray, List.set_cons_zero, List.set_cons_succ]
            refine wpAnyH_ready (rs := [6]) (by kernel_rfl) (by simp) ?_
            refine AllReadyH.cons rfl (fun K hK => ?_) AllReadyH.nil
            go_simp
            have hTa := hT6.step ((Fr.refl (FrS be bs) w6).alloc (.cells #[.int .u8 y.op, .int .i64 y.n, .slice a2 n2 cap2] 35)) (hT6.ps.alloc _)
            have hEa := hE6.fr ((Fr.refl (FrS be bs) w6).alloc (.cells #[.int .u8 y.op, .int .i64 y.n, .slice a2 n2 cap2] 35)) hbeB hbsB
            have hxa := hTa.x.cell 2
            refine hK.out _ _ ?_ (fun hHeld => ?_)
            · exact hTa.ct.T
            clear hK K
            try simp only [Act.put, List.getElem_toArray, List.getElem_cons_zero, List.getElem_cons_succ, List.setIfInBounds_toArray, List.set_cons_zero, List.set_cons_succ]
            refine wpAnyH_ready (rs := [7]) (by kernel_rfl) (by simp) ?_
            refine AllReadyH.cons rfl (fun K hK => ?_) AllReadyH.nil
            have hszX : (w6.alloc (.cells #[.int .u8 y.op, .int .i64 y.n, .slice a2 n2 cap2] 35)).heap.size = w6.heap.size + 1 := by simp
            refine step_append_lies _ (by rfl) _ _ _ (by rfl) B0 35 i0 (.agg #[.int .u8 0, .int .i64 0, .slice none 0 0]) 3 40 Try.underlying33 hi iz0 iz1 iz2 rfl (by decide) av r.1.length cs (by rfl) hEa.own ⟨w6.heap.size, 0, none⟩ 1 1 (#[.int .u8 y.op, .int .i64 y.n, .slice a2 n2 cap2]).toList (by rfl) (by rfl) (World.news_of_block (heap_alloc_new w6 _)) (by simp [Value.oneCell']) (by omega) (by unfold maxLen; omega) (by omega) (by omega) _ rfl ?_
            intro g capg w7 hown7 hgrow7 hat7 hlt7
            have hT7 := hTa.keepB hxB hCB hgrow7.os hgrow7.tape hgrow7.output hgrow7.size (fun b hb => hgrow7.block b (by omega) (fun e => by have := (hE6.own_ge b e.symm).1; omega))
            have hE7 := hE6.snoc (fun q hq => (hEd.own_ge q hq).2) f6.size hBr hy hgrow7 hat7 hlt7 hown7
            rw [hrl] at hE7
            have hB7 : B0 ≤ w7.heap.size := by have := hgrow7.size; omega
            have hx7 := hT7.x.cell 2
            have hz7 := hT7.x.free 2
            refine hK.out _ _ ?_ (fun hHeld => ?_)
            · exact hT7.ct.T
            clear hK K
            try simp only [Act.put, List.getElem_toArray, List.getElem_cons_zero, List.getElem_cons_succ, List.setIfInBounds_toArray, List.set_cons_zero, List.set_cons_succ]
            refine wpAnyH_take (i := 8) (oi := _) (v := ?_) rfl (by kernel_rfl) (by kernel_rfl) (by kernel_rfl) (fun _ _ _ h => h) (Or.inl ⟨by rfl, ?_⟩) (by assumption) ?_
            rotate_left
            · intro w' hSw
              (try dsimp only at hSw)
              have l0 := hSw.cell
              unfold takeV at l0
              clear hSw
              go_simp
              try with_reducible rfl
            try simp only [Act.put, List.getElem_toArray, List.getElem_cons_zero, List.getElem_cons_succ, List.setIfInBounds_toArray, List.set_cons_zero, List.set_cons_succ]
            refine wpAnyH_ready (rs := [9]) (by kernel_rfl) (by simp) ?_
            refine AllReadyH.cons rfl (fun K hK => ?_) AllReadyH.nil
            go_simp
            have hT8 := hT7.setX hfar (.slice (some ⟨g, 0, none⟩) (j + 1) capg)
            have hE8 := hE7.keepB (wy := w7.setCell ⟨bx, 2, none⟩ (.slice (some ⟨g, 0, none⟩) (j + 1) capg)) (by simp) (fun b hb _ => heap_setCell_other w7 ⟨bx, 2, none⟩ b _ (by show b ≠ bx; omega))
            have hB8 : B0 ≤ (w7.setCell ⟨bx, 2, none⟩ (.slice (some ⟨g, 0, none⟩) (j + 1) capg)).heap.size := by simpa using hB7
            refine hK.out _ _ ?_ (fun hHeld => ?_)
            · exact hT8.ct.T
            clear hK K
            try simp only [Act.put, List.getElem_toArray, List.getElem_cons_zero, List.getElem_cons_succ, List.setIfInBounds_toArray, List.set_cons_zero, List.set_cons_succ]
            refine wpAnyH_done (by kernel_rfl) ?_ _
            go_wp2_with fail
            go_roundw
            case measure => simp only [intOf]; omega
            case rel => exact ⟨j + 1, _, _, _, rfl, by omega, by rw [HSN.out]; exact hT8, by rw [HSN.out]; exact hE8, hB8⟩
          · go_simp
            have hTa := hT6.step ((Fr.refl (FrS be bs) w6).alloc (.cells #[.int .u8 y.op, .int .i64 y.n, .slice a2 n2 cap2] 35)) (hT6.ps.alloc _)
            have hEa := hE6.fr ((Fr.refl (FrS be bs) w6).alloc (.cells #[.int .u8 y.op, .int .i64 y.n, .slice a2 n2 cap2] 35)) hbeB hbsB
            have hxa := hTa.x.cell 2
            refine hK.out _ _ ?_ (fun hHeld => ?_)
            · exact hTa.ct.T
            clear hK K
            try simp only [Act.put, List.getElem_toArray, List.getElem_cons_zero, List.getElem_cons_succ, List.setIfInBounds_toArray, List.set_cons_zero, List.set_cons_succ]
            refine wpAnyH_ready (rs := [1]) (by kernel_rfl) (by simp) ?_
            refine AllReadyH.cons rfl (fun K hK => ?_) AllReadyH.nil
            go_simp
            refine hK.out _ _ ?_ (fun hHeld => ?_)
            · exact hTa.ct.T
            clear hK K
            try simp only [Act.put, List.getElem_toArray, List.getElem_cons_zero, List.getElem_cons_succ, List.setIfInBounds_toArray, List.set_cons_zero, List.set_cons_succ]
            refine wpAnyH_ready (rs := [7]) (by kernel_rfl) (by simp) ?_
            refine AllReadyH.cons rfl (fun K hK => ?_) AllReadyH.nil
            have hszX : (w6.alloc (.cells #[.int .u8 y.op, .int .i64 y.n, .slice a2 n2 cap2] 35)).heap.size = w6.heap.size + 1 := by simp
            refine step_append_lies _ (by rfl) _ _ _ (by rfl) B0 35 i0 (.agg #[.int .u8 0, .int .i64 0, .slice none 0 0]) 3 40 Try.underlying33 hi iz0 iz1 iz2 rfl (by decide) av r.1.length cs (by rfl) hEa.own ⟨w6.heap.size, 0, none⟩ 1 1 (#[.int .u8 y.op, .int .i64 y.n, .slice a2 n2 cap2]).toList (by rfl) (by rfl) (World.news_of_block (heap_alloc_new w6 _)) (by simp [Value.oneCell']) (by omega) (by unfold maxLen; omega) (by omega) (by omega) _ rfl ?_
            intro g capg w7 hown7 hgrow7 hat7 hlt7
            have hT7 := hTa.keepB hxB hCB hgrow7.os hgrow7.tape hgrow7.output hgrow7.size (fun b hb => hgrow7.block b (by omega) (fun e => by have := (hE6.own_ge b e.symm).1; omega))
            have hE7 := hE6.snoc (fun q hq => (hEd.own_ge q hq).2) f6.size hBr hy hgrow7 hat7 hlt7 hown7
            rw [hrl] at hE7
            have hB7 : B0 ≤ w7.heap.size := by have := hgrow7.size; omega
            have hx7 := hT7.x.cell 2
            have hz7 := hT7.x.free 2
            refine hK.out _ _ ?_ (fun hHeld => ?_)
            · exact hT7.ct.T
            clear hK K
            try simp only [Act.put, List.getElem_toArray, List.getElem_cons_zero, List.getElem_cons_succ, List.setIfInBounds_toArray, List.set_cons_zero, List.set_cons_succ]
            refine wpAnyH_take (i := 8) (oi := _) (v := ?_) rfl (by kernel_rfl) (by kernel_rfl) (by kernel_rfl) (fun _ _ _ h => h) (Or.inl ⟨by rfl, ?_⟩) (by assumption) ?_
            rotate_left
            · intro w' hSw
              (try dsimp only at hSw)
              have l0 := hSw.cell
              unfold takeV at l0
              clear hSw
              go_simp
              try with_reducible rfl
            try simp only [Act.put, List.getElem_toArray, List.getElem_cons_zero, List.getElem_cons_succ, List.setIfInBounds_toArray, List.set_cons_zero, List.set_cons_succ]
            refine wpAnyH_ready (rs := [9]) (by kernel_rfl) (by simp) ?_
            refine AllReadyH.cons rfl (fun K hK => ?_) AllReadyH.nil
            go_simp
            have hT8 := hT7.setX hfar (.slice (some ⟨g, 0, none⟩) (j + 1) capg)
            have hE8 := hE7.keepB (wy := w7.setCell ⟨bx, 2, none⟩ (.slice (some ⟨g, 0, none⟩) (j + 1) capg)) (by simp) (fun b hb _ => heap_setCell_other w7 ⟨bx, 2, none⟩ b _ (by show b ≠ bx; omega))
            have hB8 : B0 ≤ (w7.setCell ⟨bx, 2, none⟩ (.slice (some ⟨g, 0, none⟩) (j + 1) capg)).heap.size := by simpa using hB7
            refine hK.out _ _ ?_ (fun hHeld => ?_)
            · exact hT8.ct.T
            clear hK K
            try simp only [Act.put, List.getElem_toArray, List.getElem_cons_zero, List.getElem_cons_succ, List.setIfInBounds_toArray, List.set_cons_zero, List.set_cons_succ]
            refine wpAnyH_done (by kernel_rfl) ?_ _
            go_wp2_with fail
            go_roundw
            case measure => simp only [intOf]; omega
            case rel => exact ⟨j + 1, _, _, _, rfl, by omega, by rw [HSN.out]; exact hT8, by rw [HSN.out]; exact hE8, hB8⟩
      · have hltd : decide ((j : Int) < (mm : Int)) = false := decide_eq_false (by omega)
        obtain rfl : j = mm := by omega
        generalize reps (Rd.ex k) j p3 = r at *
        have z0 := hTr.r.free 0
        have z1 := hTr.r.free 1
        have z2 := hTr.r.free 2
        have r0 := hTr.r.cell 0
        have r1 := hTr.r.cell 1
        have r2 := hTr.r.cell 2
        have x0 := hTr.x.cell 0
        have x1 := hTr.x.cell 1
        have x2 := hTr.x.cell 2
        have hA := hEr.args
        obtain ⟨a2, n2, cap2, rfl⟩ := hA.slice
        have hfr := hTr.fr
        have hps := hTr.ps
        have hrr := hTr.r
        clear hTr hEr hT hE
        go_wp2_with fail
        refine bodyPost_ret (v := .agg #[_, _, _]) (results_cell_row rfl _ _ w.heap.size 35 _ (0, 0) _ rfl (ex_set hrr rfl _ _ _) Try.underlying35 rfl ?_) rfl ⟨.slice a2 n2 cap2, ?_, ?_, ?_, ?_⟩
        · as_aux_lemma => kernel_rfl
        · rw [HE.out]; rfl
        · rw [HE.out]
          refine hA.keep (fun b hb => ⟨Nat.le_trans hwB hb.1, by simpa using hb.2⟩) (fun b hb => ?_)
          have hne : b ≠ w.heap.size := by have := hb.1; omega
          rw [heap_setCell_other _ ⟨w.heap.size, 2, none⟩ b _ hne, heap_setCell_other _ ⟨w.heap.size, 1, none⟩ b _ hne, heap_setCell_other _ ⟨w.heap.size, 0, none⟩ b _ hne]
        · rw [HE.out]
          exact PS.far3 hps (Nat.ne_of_lt hel) (Nat.ne_of_lt hsl) _ _ _
        · exact ((hfr.setCell (p := ⟨w.heap.size, 0, none⟩) (.inr (Nat.le_refl _)) _).setCell (p := ⟨w.heap.size, 1, none⟩) (.inr (Nat.le_refl _)) _).setCell (p := ⟨w.heap.size, 2, none⟩) (.inr (Nat.le_refl _)) _

end Go.Proofs.Ytfieoehchghiiaa
