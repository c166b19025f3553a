/-
  The walk of ExprMay.
-/
import Derived.Test.YtjejnbhcgbbmhaaE12
import Derived.Test.YtjejnbhcgbbmhaaF3
import Derived.Test.YtjejnbhcgbbmhaaA0
namespace Go.Proofs.Ytjejnbhcgbbmhaa
open Go.RowKit
set_option linter.unusedVariables false

theorem ebox_keep {w W W' : World} {b d : Nat} {c0 c1 c2 d0 d1 d2 : Option Value} (h : (W.cell? ⟨b, 0, none⟩ = c0 ∧ W.cell? ⟨b, 1, none⟩ = c1 ∧ W.cell? ⟨b, 2, none⟩ = c2 ∧ W.cell? ⟨d, 0, none⟩ = d0 ∧ W.cell? ⟨d, 1, none⟩ = d1 ∧ W.cell? ⟨d, 2, none⟩ = d2) ∧ Below w.heap.size w W ∧ b < W.heap.size ∧ d < W.heap.size) (hb : Below W.heap.size W W') :
    (W'.cell? ⟨b, 0, none⟩ = c0 ∧ W'.cell? ⟨b, 1, none⟩ = c1 ∧ W'.cell? ⟨b, 2, none⟩ = c2 ∧ W'.cell? ⟨d, 0, none⟩ = d0 ∧ W'.cell? ⟨d, 1, none⟩ = d1 ∧ W'.cell? ⟨d, 2, none⟩ = d2) ∧ Below w.heap.size w W' ∧ b < W'.heap.size ∧ d < W'.heap.size := by
  obtain ⟨⟨h1, h2, h3, k1, k2, k3⟩, h4, h5, h6⟩ := h
  exact ⟨⟨(hb.cell (p := ⟨b, 0, none⟩) h5).trans h1, (hb.cell (p := ⟨b, 1, none⟩) h5).trans h2, (hb.cell (p := ⟨b, 2, none⟩) h5).trans h3, (hb.cell (p := ⟨d, 0, none⟩) h6).trans k1, (hb.cell (p := ⟨d, 1, none⟩) h6).trans k2, (hb.cell (p := ⟨d, 2, none⟩) h6).trans k3⟩, h4.trans (hb.mono h4.size), Nat.lt_of_lt_of_le h5 hb.size, Nat.lt_of_lt_of_le h6 hb.size⟩
theorem ebox_below {w wa : World} {p q : Prop} (h : p ∧ Below w.heap.size w wa ∧ q) : Below w.heap.size w wa := h.2.1

set_option maxRecDepth 100000 in
set_option maxHeartbeats 4000000 in
theorem eMay_c (w : World) (x : Ex) (v : Value) (gx : ExAt w w.heap.size v x) (kx : x.ok) (y : Ex) (u : Value) (gy : ExAt w w.heap.size u y) (ky : y.ok) :
    Calls Try.prog 11 #[v, u] w fun e w' => e = .returned (.bool true) ∧ Below w.heap.size w w' := by
  have GX := Lib.hid gx
  have GY := Lib.hid gy
  have hxk := Lib.hid kx
  obtain ⟨sv, rfl, hs⟩ := gx
  obtain ⟨tv, rfl, ht⟩ := gy
  obtain ⟨a, cap, rfl, hcap, hmx⟩ := hs.slice
  obtain ⟨a', cap', rfl, hcap', hmx'⟩ := ht.slice
  have hW := ((Below.refl w.heap.size w).alloc (Nat.le_refl _) (.cells #[.int .u8 x.op, .int .i64 x.n, .slice a x.args.length cap] 28)).alloc (by simp) (.cells #[.int .u8 y.op, .int .i64 y.n, .slice a' y.args.length cap'] 28)
  have hb1 := (Blk.new w #[.int .u8 x.op, .int .i64 x.n, .slice a x.args.length cap] 28).alloc (.cells #[.int .u8 y.op, .int .i64 y.n, .slice a' y.args.length cap'] 28)
  have hb2 := Blk.new_at (w.alloc (.cells #[.int .u8 x.op, .int .i64 x.n, .slice a x.args.length cap] 28)) #[.int .u8 y.op, .int .i64 y.n, .slice a' y.args.length cap'] 28 (k := w.heap.size + 1) (by simp)
  generalize hxl : x.args.length = xl at *
  generalize hyl : y.args.length = yl at *
  generalize hxo : x.op = xo at *
  generalize hyo : y.op = yo at *
  generalize hxn : x.n = xn at *
  generalize hyn : y.n = yn at *
  clear hs ht hxl hyl hxo hyo hxn hyn hcap hcap' hmx hmx' kx ky
  obtain ⟨nx, hnx⟩ : ∃ n, x.size = n := ⟨_, rfl⟩
  obtain ⟨ny, hny⟩ : ∃ n, y.size = n := ⟨_, rfl⟩
  have hnx2 := Ex.size_le x
  have hny2 := Ex.size_le y
  rw [hnx] at hnx2
  rw [hny] at hny2
  have HNX := Lib.hid hnx
  have HNY := Lib.hid hny
  clear hnx hny
  have hl1 := hb1.lt
  have hl2 := hb2.lt
  by_cases h1 : nx < 2000
  · by_cases h2 : ny < 2000
    · go_enter Try.func11, Try.ntmps11
      go_upto_region 1 with fail
      generalize World.alloc (World.alloc w _) _ = W at *
      have p0 := hb1.cell 0
      have p1 := hb1.cell 1
      have p2 := hb1.cell 2
      go_wp2_with fail
      refine (Size_c x _ w.heap.size _ (GX.out.keep hW) hW.size).mono ?_
      rw [HNX.out]
      rintro e w1 ⟨rfl, hq1⟩
      have hd1 := hb1.below hq1 hl1
      have hd2 := hb2.below hq1 hl2
      have hW1 := hW.trans (hq1.mono hW.size)
      have q0 := hd2.cell 0
      have q1 := hd2.cell 1
      have q2 := hd2.cell 2
      go_wp2_with fail
      refine (Size_c y _ w.heap.size _ (GY.out.keep hW1) hW1.size).mono ?_
      rw [HNY.out]
      rintro e w2 ⟨rfl, hq2⟩
      have he1 := hd1.below hq2 hd1.lt
      have he2 := hd2.below hq2 hd2.lt
      have hW2 := hW1.trans (hq2.mono hW1.size)
      clear p0 p1 p2 q0 q1 q2 hb1 hb2 hl1 hl2 hq1 hq2 hd1 hd2 hW hW1
      go_upto_region 3 with fail
      have HS0 := Lib.hid (And.intro (And.intro (he1.cell 0) (And.intro (he1.cell 1) (And.intro (he1.cell 2) (And.intro (he2.cell 0) (And.intro (he2.cell 1) (he2.cell 2)))))) (And.intro hW2 (And.intro he1.lt he2.lt)))
      clear he1 he2 hW2
      refine wp_region_held_drew (S := (fun w' => (w'.cell? ⟨w.heap.size, 0, none⟩ = some (.int .u8 xo) ∧ w'.cell? ⟨w.heap.size, 1, none⟩ = some (.int .i64 xn) ∧ w'.cell? ⟨w.heap.size, 2, none⟩ = some (.slice a xl cap) ∧ w'.cell? ⟨w.heap.size + 1, 0, none⟩ = some (.int .u8 yo) ∧ w'.cell? ⟨w.heap.size + 1, 1, none⟩ = some (.int .i64 yn) ∧ w'.cell? ⟨w.heap.size + 1, 2, none⟩ = some (.slice a' yl cap')) ∧ Below w.heap.size w w' ∧ w.heap.size < w'.heap.size ∧ w.heap.size + 1 < w'.heap.size)) (by kernel_rfl) ?_ (fun hHeld => ?_)
      · exact ebox_keep HS0.out (Below.refl _ _).drew
      refine wpAnyH_take (i := 0) (oi := _) (v := ?_) rfl (by kernel_rfl) (by kernel_rfl) (by kernel_rfl) (fun _ _ _ h => h) (Or.inl ⟨by rfl, ?_⟩) (by assumption) ?_
      rotate_left
      · intro w' hSw
        (try dsimp only at hSw)
        go_simp
        try with_reducible rfl
      try simp only [Act.put, List.getElem_toArray, List.getElem_cons_zero, List.setIfInBounds_toArray, List.set_cons_zero, List.set_cons_succ]
      refine wpAnyH_take (i := 2) (oi := _) (v := ?_) rfl (by kernel_rfl) (by kernel_rfl) (by kernel_rfl) (fun _ _ _ h => h) (Or.inl ⟨by rfl, ?_⟩) (by assumption) ?_
      rotate_left
      · intro w' hSw
        (try dsimp only at hSw)
        go_simp
        try with_reducible rfl
      try simp only [Act.put, List.getElem_toArray, List.getElem_cons_zero, List.getElem_cons_succ, List.setIfInBounds_toArray, List.set_cons_zero, List.set_cons_succ]
      refine wpAnyH_ready (rs := [1]) (by kernel_rfl) (by simp) ?_
      refine AllReadyH.cons rfl (fun K hK => ?_) AllReadyH.nil
      go_simp
      go_at_call 33
      refine (May_c x _ w.heap.size _ (GX.out.keep (ebox_below (by assumption))) (ebox_below (by assumption)).size).mono ?_
      rintro e w9 ⟨rfl, hq9⟩
      refine hK.out _ _ ?_ (fun hHeld => ?_)
      · first | assumption | (refine ebox_keep ?_ hq9; assumption)
      clear hK K
      try simp only [Act.put, List.getElem_toArray, List.getElem_cons_zero, List.getElem_cons_succ, List.setIfInBounds_toArray, List.set_cons_zero, List.set_cons_succ]
      refine wpAnyH_ready (rs := [3]) (by kernel_rfl) (by simp) ?_
      refine AllReadyH.cons rfl (fun K hK => ?_) AllReadyH.nil
      go_simp
      go_at_call 34
      refine (rMay_c x hxk.out _ w.heap.size _ (GX.out.keep (ebox_below (by assumption))) (ebox_below (by assumption)).size).mono ?_
      rintro e w9 ⟨rfl, hq9⟩
      refine hK.out _ _ ?_ (fun hHeld => ?_)
      · first | assumption | (refine ebox_keep ?_ hq9; assumption)
      clear hK K
      try simp only [Act.put, List.getElem_toArray, List.getElem_cons_zero, List.getElem_cons_succ, List.setIfInBounds_toArray, List.set_cons_zero, List.set_cons_succ]
      refine wpAnyH_take (i := 4) (oi := _) (v := ?_) rfl (by kernel_rfl) (by kernel_rfl) (by kernel_rfl) (fun _ _ _ h => h) (Or.inl ⟨by rfl, ?_⟩) (by assumption) ?_
      rotate_left
      · intro w' hSw
        (try dsimp only at hSw)
        go_simp
        try with_reducible rfl
      try simp only [Act.put, List.getElem_toArray, List.getElem_cons_zero, List.getElem_cons_succ, List.setIfInBounds_toArray, List.set_cons_zero, List.set_cons_succ]
      refine wpAnyH_take (i := 5) (oi := _) (v := ?_) rfl (by kernel_rfl) (by kernel_rfl) (by kernel_rfl) (fun _ _ _ h => h) (Or.inl ⟨by rfl, ?_⟩) (by assumption) ?_
      rotate_left
      · intro w' hSw
        (try dsimp only at hSw)
        go_simp
        try with_reducible rfl
      try simp only [Act.put, List.getElem_toArray, List.getElem_cons_zero, List.getElem_cons_succ, List.setIfInBounds_toArray, List.set_cons_zero, List.set_cons_succ]
      refine wpAnyH_take (i := 6) (oi := _) (v := ?_) rfl (by kernel_rfl) (by kernel_rfl) (by kernel_rfl) (fun _ _ _ h => h) (Or.inl ⟨by rfl, ?_⟩) (by assumption) ?_
      rotate_left
      · intro w' hSw
        (try dsimp only at hSw)
        go_simp
        try with_reducible rfl
      try simp only [Act.put, List.getElem_toArray, List.getElem_cons_zero, List.getElem_cons_succ, List.setIfInBounds_toArray, List.set_cons_zero, List.set_cons_succ]
      refine wpAnyH_take (i := 8) (oi := _) (v := ?_) rfl (by kernel_rfl) (by kernel_rfl) (by kernel_rfl) (fun _ _ _ h => h) (Or.inl ⟨by rfl, ?_⟩) (by assumption) ?_
      rotate_left
      · intro w' hSw
        (try dsimp only at hSw)
        go_simp
        try with_reducible rfl
      try simp only [Act.put, List.getElem_toArray, List.getElem_cons_zero, List.getElem_cons_succ, List.setIfInBounds_toArray, List.set_cons_zero, List.set_cons_succ]
      refine wpAnyH_ready (rs := [7]) (by kernel_rfl) (by simp) ?_
      refine AllReadyH.cons rfl (fun K hK => ?_) AllReadyH.nil
      go_simp
      go_at_call 35
      refine (Deep_c x _ w.heap.size _ (GX.out.keep (ebox_below (by assumption))) (ebox_below (by assumption)).size).mono ?_
      rintro e w9 ⟨rfl, hq9⟩
      refine hK.out _ _ ?_ (fun hHeld => ?_)
      · first | assumption | (refine ebox_keep ?_ hq9; assumption)
      clear hK K
      try simp only [Act.put, List.getElem_toArray, List.getElem_cons_zero, List.getElem_cons_succ, List.setIfInBounds_toArray, List.set_cons_zero, List.set_cons_succ]
      refine wpAnyH_ready (rs := [9]) (by kernel_rfl) (by simp) ?_
      refine AllReadyH.cons rfl (fun K hK => ?_) AllReadyH.nil
      go_simp
      go_at_call 36
      refine (rDeep_c x _ w.heap.size _ (GX.out.keep (ebox_below (by assumption))) (ebox_below (by assumption)).size).mono ?_
      rintro e w9 ⟨rfl, hq9⟩
      refine hK.out _ _ ?_ (fun hHeld => ?_)
      · first | assumption | (refine ebox_keep ?_ hq9; assumption)
      clear hK K
      try simp only [Act.put, List.getElem_toArray, List.getElem_cons_zero, List.getElem_cons_succ, List.setIfInBounds_toArray, List.set_cons_zero, List.set_cons_succ]
      refine wpAnyH_take (i := 10) (oi := _) (v := ?_) rfl (by kernel_rfl) (by kernel_rfl) (by kernel_rfl) (fun _ _ _ h => h) (Or.inl ⟨by rfl, ?_⟩) (by assumption) ?_
      rotate_left
      · intro w' hSw
        (try dsimp only at hSw)
        go_simp
        try with_reducible rfl
      try simp only [Act.put, List.getElem_toArray, List.getElem_cons_zero, List.getElem_cons_succ, List.setIfInBounds_toArray, List.set_cons_zero, List.set_cons_succ]
      refine wpAnyH_take (i := 11) (oi := _) (v := ?_) rfl (by kernel_rfl) (by kernel_rfl) (by kernel_rfl) (fun _ _ _ h => h) (Or.inl ⟨by rfl, ?_⟩) (by assumption) ?_
      rotate_left
      · intro w' hSw
        (try dsimp only at hSw)
        go_simp
        try with_reducible rfl
      try simp only [Act.put, List.getElem_toArray, List.getElem_cons_zero, List.getElem_cons_succ, List.setIfInBounds_toArray, List.set_cons_zero, List.set_cons_succ]
      refine wpAnyH_take (i := 12) (oi := _) (v := ?_) rfl (by kernel_rfl) (by kernel_rfl) (by kernel_rfl) (fun _ _ _ h => h) (Or.inl ⟨by rfl, ?_⟩) (by assumption) ?_
      rotate_left
      · intro w' hSw
        (try dsimp only at hSw)
        go_simp
        try with_reducible rfl
      try simp only [Act.put, List.getElem_toArray, List.getElem_cons_zero, List.getElem_cons_succ, List.setIfInBounds_toArray, List.set_cons_zero, List.set_cons_succ]
      refine wpAnyH_take (i := 13) (oi := _) (v := ?_) rfl (by kernel_rfl) (by kernel_rfl) (by kernel_rfl) (fun _ _ _ h => h) (Or.inl ⟨by rfl, ?_⟩) (by assumption) ?_
      rotate_left
      · intro w' hSw
        (try dsimp only at hSw)
        go_simp
        try with_reducible rfl
      try simp only [Act.put, List.getElem_toArray, List.getElem_cons_zero, List.getElem_cons_succ, List.setIfInBounds_toArray, List.set_cons_zero, List.set_cons_succ]
      refine wpAnyH_take (i := 14) (oi := _) (v := ?_) rfl (by kernel_rfl) (by kernel_rfl) (by kernel_rfl) (fun _ _ _ h => h) (Or.inl ⟨by rfl, ?_⟩) (by assumption) ?_
      rotate_left
      · intro w' hSw
        (try dsimp only at hSw)
        go_simp
        try with_reducible rfl
      try simp only [Act.put, List.getElem_toArray, List.getElem_cons_zero, List.getElem_cons_succ, List.setIfInBounds_toArray, List.set_cons_zero, List.set_cons_succ]
      refine wpAnyH_take (i := 16) (oi := _) (v := ?_) rfl (by kernel_rfl) (by kernel_rfl) (by kernel_rfl) (fun _ _ _ h => h) (Or.inl ⟨by rfl, ?_⟩) (by assumption) ?_
      rotate_left
      · intro w' hSw
        (try dsimp only at hSw)
        go_simp
        try with_reducible rfl
      try simp only [Act.put, List.getElem_toArray, List.getElem_cons_zero, List.getElem_cons_succ, List.setIfInBounds_toArray, List.set_cons_zero, List.set_cons_succ]
      refine wpAnyH_take (i := 17) (oi := _) (v := ?_) rfl (by kernel_rfl) (by kernel_rfl) (by kernel_rfl) (fun _ _ _ h => h) (Or.inl ⟨by rfl, ?_⟩) (by assumption) ?_
      rotate_left
      · intro w' hSw
        (try dsimp only at hSw)
        go_simp
        try with_reducible rfl
      try simp only [Act.put, List.getElem_toArray, List.getElem_cons_zero, List.getElem_cons_succ, List.setIfInBounds_toArray, List.set_cons_zero, List.set_cons_succ]
      refine wpAnyH_ready (rs := [15]) (by kernel_rfl) (by simp) ?_
      refine AllReadyH.cons rfl (fun K hK => ?_) AllReadyH.nil
      go_simp
      go_at_call 31
      refine (Same_c x y _ _ w.heap.size _ (GX.out.keep (ebox_below (by assumption))) (GY.out.keep (ebox_below (by assumption))) (ebox_below (by assumption)).size).mono ?_
      rintro e w9 ⟨rfl, hq9⟩
      refine hK.out _ _ ?_ (fun hHeld => ?_)
      · first | assumption | (refine ebox_keep ?_ hq9; assumption)
      clear hK K
      try simp only [Act.put, List.getElem_toArray, List.getElem_cons_zero, List.getElem_cons_succ, List.setIfInBounds_toArray, List.set_cons_zero, List.set_cons_succ]
      refine wpAnyH_ready (rs := [18]) (by kernel_rfl) (by simp) ?_
      refine AllReadyH.cons rfl (fun K hK => ?_) AllReadyH.nil
      go_simp
      go_at_call 30
      refine (rSame_c x y _ _ w.heap.size _ (GX.out.keep (ebox_below (by assumption))) (GY.out.keep (ebox_below (by assumption))) (ebox_below (by assumption)).size).mono ?_
      rintro e w9 ⟨rfl, hq9⟩
      refine hK.out _ _ ?_ (fun hHeld => ?_)
      · first | assumption | (refine ebox_keep ?_ hq9; assumption)
      clear hK K
      try simp only [Act.put, List.getElem_toArray, List.getElem_cons_zero, List.getElem_cons_succ, List.setIfInBounds_toArray, List.set_cons_zero, List.set_cons_succ]
      refine wpAnyH_take (i := 19) (oi := _) (v := ?_) rfl (by kernel_rfl) (by kernel_rfl) (by kernel_rfl) (fun _ _ _ h => h) (Or.inl ⟨by rfl, ?_⟩) (by assumption) ?_
      rotate_left
      · intro w' hSw
        (try dsimp only at hSw)
        go_simp
        try with_reducible rfl
      try simp only [Act.put, List.getElem_toArray, List.getElem_cons_zero, List.getElem_cons_succ, List.setIfInBounds_toArray, List.set_cons_zero, List.set_cons_succ]
      refine wpAnyH_take (i := 20) (oi := _) (v := ?_) rfl (by kernel_rfl) (by kernel_rfl) (by kernel_rfl) (fun _ _ _ h => h) (Or.inl ⟨by rfl, ?_⟩) (by assumption) ?_
      rotate_left
      · intro w' hSw
        (try dsimp only at hSw)
        go_simp
        try with_reducible rfl
      try simp only [Act.put, List.getElem_toArray, List.getElem_cons_zero, List.getElem_cons_succ, List.setIfInBounds_toArray, List.set_cons_zero, List.set_cons_succ]
      refine wpAnyH_take (i := 21) (oi := _) (v := ?_) rfl (by kernel_rfl) (by kernel_rfl) (by kernel_rfl) (fun _ _ _ h => h) (Or.inl ⟨by rfl, ?_⟩) (by assumption) ?_
      rotate_left
      · intro w' hSw
        (try dsimp only at hSw)
        go_simp
        try with_reducible rfl
      try simp only [Act.put, List.getElem_toArray, List.getElem_cons_zero, List.getElem_cons_succ, List.setIfInBounds_toArray, List.set_cons_zero, List.set_cons_succ]
      refine wpAnyH_ready (rs := [22]) (by kernel_rfl) (by simp) ?_
      refine AllReadyH.cons rfl (fun K hK => ?_) AllReadyH.nil
      go_simp
      go_at_call 25
      refine (eworks_c _).mono ?_
      rintro e w9 ⟨rfl, hq9⟩
      refine hK.out _ _ ?_ (fun hHeld => ?_)
      · first | assumption | (refine ebox_keep ?_ hq9; assumption)
      clear hK K
      try simp only [Act.put, List.getElem_toArray, List.getElem_cons_zero, List.getElem_cons_succ, List.setIfInBounds_toArray, List.set_cons_zero, List.set_cons_succ]
      refine wpAnyH_take (i := 23) (oi := _) (v := ?_) rfl (by kernel_rfl) (by kernel_rfl) (by kernel_rfl) (fun _ _ _ h => h) (Or.inl ⟨by rfl, ?_⟩) (by assumption) ?_
      rotate_left
      · intro w' hSw
        (try dsimp only at hSw)
        go_simp
        try with_reducible rfl
      try simp only [Act.put, List.getElem_toArray, List.getElem_cons_zero, List.getElem_cons_succ, List.setIfInBounds_toArray, List.set_cons_zero, List.set_cons_succ]
      refine wpAnyH_take (i := 24) (oi := _) (v := ?_) rfl (by kernel_rfl) (by kernel_rfl) (by kernel_rfl) (fun _ _ _ h => h) (Or.inl ⟨by rfl, ?_⟩) (by assumption) ?_
      rotate_left
      · intro w' hSw
        (try dsimp only at hSw)
        go_simp
        try with_reducible rfl
      try simp only [Act.put, List.getElem_toArray, List.getElem_cons_zero, List.getElem_cons_succ, List.setIfInBounds_toArray, List.set_cons_zero, List.set_cons_succ]
      refine wpAnyH_done (by kernel_rfl) ?_ _
      go_wp2_with fail
      go_ret
      refine ⟨?_, ebox_below (by assumption)⟩
      first | kernel_rfl | simp
    · go_enter Try.func11, Try.ntmps11
      go_upto_region 1 with fail
      generalize World.alloc (World.alloc w _) _ = W at *
      have p0 := hb1.cell 0
      have p1 := hb1.cell 1
      have p2 := hb1.cell 2
      go_wp2_with fail
      refine (Size_c x _ w.heap.size _ (GX.out.keep hW) hW.size).mono ?_
      rw [HNX.out]
      rintro e w1 ⟨rfl, hq1⟩
      have hd2 := hb2.below hq1 hl2
      have hW1 := hW.trans (hq1.mono hW.size)
      have q0 := hd2.cell 0
      have q1 := hd2.cell 1
      have q2 := hd2.cell 2
      go_wp2_with fail
      refine (Size_c y _ w.heap.size _ (GY.out.keep hW1) hW1.size).mono ?_
      rw [HNY.out]
      rintro e w2 ⟨rfl, hq2⟩
      have hW2 := hW1.trans (hq2.mono hW1.size)
      go_wp2_with (go_at_call 25; refine (eworks_c _).mono ?_; rintro e w4 ⟨rfl, hb4⟩)
      go_ret
      exact ⟨rfl, hW2.trans (hb4.mono hW2.size)⟩
  · go_enter Try.func11, Try.ntmps11
    go_upto_region 1 with fail
    generalize World.alloc (World.alloc w _) _ = W at *
    have p0 := hb1.cell 0
    have p1 := hb1.cell 1
    have p2 := hb1.cell 2
    go_wp2_with fail
    refine (Size_c x _ w.heap.size _ (GX.out.keep hW) hW.size).mono ?_
    rw [HNX.out]
    rintro e w1 ⟨rfl, hq1⟩
    have hW1 := hW.trans (hq1.mono hW.size)
    go_wp2_with (go_at_call 25; refine (eworks_c _).mono ?_; rintro e w4 ⟨rfl, hb4⟩)
    go_ret
    exact ⟨rfl, hW1.trans (hb4.mono hW1.size)⟩

end Go.Proofs.Ytjejnbhcgbbmhaa
