/-
  Walk: JobSame.
-/
import Derived.Test.YtjejnbhcgbbmhaaJ11
import Derived.Test.YtjejnbhcgbbmhaaJ7
import Derived.Test.YtjejnbhcgbbmhaaJ1
import Derived.Deep.RegionHeld3
namespace Go.Proofs.Ytjejnbhcgbbmhaa
open Go.RowKit
set_option linter.unusedVariables false

mutual
theorem Ex.sameB_refl : ∀ x : Ex, x.sameB x = true
  | .mk o n l => by simp only [Ex.sameB]; rw [Exs.sameB_refl l]; simp
theorem Exs.sameB_refl : ∀ l : List Ex, Exs.sameB l l = true
  | [] => rfl
  | x :: l => by simp only [Exs.sameB]; rw [Ex.sameB_refl x, Exs.sameB_refl l]; rfl
end
theorem Nd.sameB_refl (x : Nd) : x.sameB x = true := by
  unfold Nd.sameB
  rw [Ex.sameB_refl, (intsB_iff _ _).2 rfl]
  simp
theorem Nds.sameB_refl : ∀ l : List Nd, Nds.sameB l l = true
  | [] => rfl
  | x :: l => by simp only [Nds.sameB]; rw [Nd.sameB_refl x, Nds.sameB_refl l]; rfl
theorem Jb.sameB_refl (x : Jb) : x.sameB x = true := by
  unfold Jb.sameB
  rw [Nds.sameB_refl]
  simp

theorem boxes_keep {w wa wb : World} {b1 b2 : Nat} {c1 c2 c3 c4 : Option Value} (h : (wa.cell? ⟨b1, 0, none⟩ = c1 ∧ wa.cell? ⟨b1, 1, none⟩ = c2 ∧ wa.cell? ⟨b2, 0, none⟩ = c3 ∧ wa.cell? ⟨b2, 1, none⟩ = c4) ∧ Below w.heap.size w wa ∧ b1 < wa.heap.size ∧ b2 < wa.heap.size) (hb : Below wa.heap.size wa wb) :
    (wb.cell? ⟨b1, 0, none⟩ = c1 ∧ wb.cell? ⟨b1, 1, none⟩ = c2 ∧ wb.cell? ⟨b2, 0, none⟩ = c3 ∧ wb.cell? ⟨b2, 1, none⟩ = c4) ∧ Below w.heap.size w wb ∧ b1 < wb.heap.size ∧ b2 < wb.heap.size := by
  obtain ⟨⟨h1, h2, h3, h4⟩, h5, h6, h7⟩ := h
  exact ⟨⟨(hb.cell (p := ⟨b1, 0, none⟩) h6).trans h1, (hb.cell (p := ⟨b1, 1, none⟩) h6).trans h2, (hb.cell (p := ⟨b2, 0, none⟩) h7).trans h3, (hb.cell (p := ⟨b2, 1, none⟩) h7).trans h4⟩, h5.trans (hb.mono h5.size), Nat.lt_of_lt_of_le h6 hb.size, Nat.lt_of_lt_of_le h7 hb.size⟩
theorem boxes_drew {w wa : World} {b1 b2 : Nat} {c1 c2 c3 c4 : Option Value} (h : (wa.cell? ⟨b1, 0, none⟩ = c1 ∧ wa.cell? ⟨b1, 1, none⟩ = c2 ∧ wa.cell? ⟨b2, 0, none⟩ = c3 ∧ wa.cell? ⟨b2, 1, none⟩ = c4) ∧ Below w.heap.size w wa ∧ b1 < wa.heap.size ∧ b2 < wa.heap.size) :
    (wa.drew.cell? ⟨b1, 0, none⟩ = c1 ∧ wa.drew.cell? ⟨b1, 1, none⟩ = c2 ∧ wa.drew.cell? ⟨b2, 0, none⟩ = c3 ∧ wa.drew.cell? ⟨b2, 1, none⟩ = c4) ∧ Below w.heap.size w wa.drew ∧ b1 < wa.drew.heap.size ∧ b2 < wa.drew.heap.size :=
  ⟨h.1, h.2.1.drew, h.2.2.1, h.2.2.2⟩
theorem boxes_below {w wa : World} {p q : Prop} (h : p ∧ Below w.heap.size w wa ∧ q) : Below w.heap.size w wa := h.2.1

set_option maxRecDepth 100000 in
set_option maxHeartbeats 4000000 in
theorem JobSame_c (w : World) (x : Jb) (v : Value) (gx : JbAt w w.heap.size v x) (kx : x.ok) (y : Jb) (u : Value) (gy : JbAt w w.heap.size u y) (ky : y.ok) (k : Int) (wk : (Lit.int .u8 k).wf = true) :
    Calls Try.prog 7 #[v, u, .int .u8 k] w fun e w' => e = .returned (.bool true) ∧ Below w.heap.size w w' := by
  have GX := Lib.hid gx
  have GY := Lib.hid gy
  obtain ⟨sv, rfl, hs⟩ := gx
  obtain ⟨tv, rfl, ht⟩ := gy
  obtain ⟨a, cap, rfl, hcap, hmx⟩ := hs.slice
  obtain ⟨a', cap', rfl, hcap', hmx'⟩ := ht.slice
  have hW := ((Below.refl w.heap.size w).alloc (Nat.le_refl _) (.cells #[.int .i64 x.par, .slice a x.nodes.length cap] 33)).alloc (by simp) (.cells #[.int .i64 y.par, .slice a' y.nodes.length cap'] 33)
  have hb1 := (Blk.new w #[.int .i64 x.par, .slice a x.nodes.length cap] 33).alloc (.cells #[.int .i64 y.par, .slice a' y.nodes.length cap'] 33)
  have hb2 := Blk.new_at (w.alloc (.cells #[.int .i64 x.par, .slice a x.nodes.length cap] 33)) #[.int .i64 y.par, .slice a' y.nodes.length cap'] 33 (k := w.heap.size + 1) (by simp)
  generalize hxl : x.nodes.length = xl at *
  generalize hyl : y.nodes.length = yl at *
  generalize hxp : x.par = xp at *
  generalize hyp : y.par = yp at *
  clear hs ht hxl hyl hxp hyp hcap hcap' hmx hmx'
  cases hh1 : x.heavyB
  · cases hh2 : y.heavyB
    · have HH1 := Lib.hid hh1
      have HH2 := Lib.hid hh2
      clear hh1 hh2
      have HSR := Lib.hid (Jb.sameB_refl x)
      generalize hsm : x.sameB y = sm at *
      have HSM := Lib.hid hsm
      clear hsm
      cases h6 : (k == 6)
      · cases sm
        all_goals
         cases h7 : (k == 7)
         all_goals
          go_enter Try.func7, Try.ntmps7
          go_wp2_with fail
          generalize World.alloc (World.alloc w _) _ = W at *
          have n0 := hb1.cell 0
          have n1 := hb1.cell 1
          go_wp2_with fail
          refine (Heavy_c x _ w.heap.size _ ((GX.out.keep hW)) hW.size).mono ?_
          rintro e w1 ⟨rfl, hq1⟩
          rw [HH1.out]
          have hc1 := hW.trans (hq1.mono hW.size)
          have hd1 := hb1.below hq1 hb1.lt
          have hd2 := hb2.below hq1 hb2.lt
          have m0 := hd2.cell 0
          have m1 := hd2.cell 1
          clear n0 n1
          go_wp2_with fail
          refine (Heavy_c y _ w.heap.size _ ((GY.out.keep hc1)) hc1.size).mono ?_
          rintro e w2 ⟨rfl, hq2⟩
          rw [HH2.out]
          have hc2 := hc1.trans (hq2.mono hc1.size)
          have he1 := hd1.below hq2 hd1.lt
          have he2 := hd2.below hq2 hd2.lt
          clear m0 m1
          go_upto_region 3 with fail
          have hS0 := And.intro (And.intro (he1.cell 0) (And.intro (he1.cell 1) (And.intro (he2.cell 0) (he2.cell 1)))) (And.intro hc2 (And.intro he1.lt he2.lt))
          have HS0 := Lib.hid hS0
          clear hS0 he1 he2 hd1 hd2 hq1 hq2 hb1 hb2
          go_region_held3 (fun w' => (w'.cell? ⟨w.heap.size, 0, none⟩ = some (.int .i64 xp) ∧ w'.cell? ⟨w.heap.size, 1, none⟩ = some (.slice a xl cap) ∧ w'.cell? ⟨w.heap.size + 1, 0, none⟩ = some (.int .i64 yp) ∧ w'.cell? ⟨w.heap.size + 1, 1, none⟩ = some (.slice a' yl cap')) ∧
             Below w.heap.size w w' ∧ w.heap.size < w'.heap.size ∧ w.heap.size + 1 < w'.heap.size)
           (first | exact boxes_drew HS0.out | assumption | (refine boxes_keep ?_ (by assumption); assumption))
           (first
             | (go_at_call 21; (with_reducible refine (JSame_c x y _ _ w.heap.size _ (GX.out.keep (boxes_below (by assumption))) (GY.out.keep (boxes_below (by assumption))) (Below.size (boxes_below (by assumption)))).mono ?_); rintro e w9 ⟨rfl, hq9⟩; rw [HSM.out])
             | (go_at_call 21; (with_reducible refine (JSame_c x x _ _ w.heap.size _ (GX.out.keep (boxes_below (by assumption))) (GX.out.keep (boxes_below (by assumption))) (Below.size (boxes_below (by assumption)))).mono ?_); rintro e w9 ⟨rfl, hq9⟩; rw [HSR.out])
             | (go_at_call 22; refine (rJSame_c x y _ _ w.heap.size _ (GX.out.keep (boxes_below (by assumption))) (GY.out.keep (boxes_below (by assumption))) (Below.size (boxes_below (by assumption)))).mono ?_; rintro e w9 ⟨rfl, hq9⟩; rw [HSM.out])
             | (go_at_call 23; refine (Stateful_c k _).mono ?_; rintro e w9 ⟨rfl, rfl⟩; rw [h6, h7]; simp only [Bool.or_true, Bool.or_false])
             | (go_at_call 16; refine (jworks_c _).mono ?_; rintro e w9 ⟨rfl, hq9⟩))
          all_goals
            go_wp2_with fail
            go_ret
            exact ⟨rfl, boxes_below (by assumption)⟩
      · cases sm
        all_goals
          go_enter Try.func7, Try.ntmps7
          go_wp2_with fail
          generalize World.alloc (World.alloc w _) _ = W at *
          have n0 := hb1.cell 0
          have n1 := hb1.cell 1
          go_wp2_with fail
          refine (Heavy_c x _ w.heap.size _ ((GX.out.keep hW)) hW.size).mono ?_
          rintro e w1 ⟨rfl, hq1⟩
          rw [HH1.out]
          have hc1 := hW.trans (hq1.mono hW.size)
          have hd1 := hb1.below hq1 hb1.lt
          have hd2 := hb2.below hq1 hb2.lt
          have m0 := hd2.cell 0
          have m1 := hd2.cell 1
          clear n0 n1
          go_wp2_with fail
          refine (Heavy_c y _ w.heap.size _ ((GY.out.keep hc1)) hc1.size).mono ?_
          rintro e w2 ⟨rfl, hq2⟩
          rw [HH2.out]
          have hc2 := hc1.trans (hq2.mono hc1.size)
          have he1 := hd1.below hq2 hd1.lt
          have he2 := hd2.below hq2 hd2.lt
          clear m0 m1
          go_upto_region 3 with fail
          have hS0 := And.intro (And.intro (he1.cell 0) (And.intro (he1.cell 1) (And.intro (he2.cell 0) (he2.cell 1)))) (And.intro hc2 (And.intro he1.lt he2.lt))
          have HS0 := Lib.hid hS0
          clear hS0 he1 he2 hd1 hd2 hq1 hq2 hb1 hb2
          refine wp_region_held_drew (S := (fun w' => (w'.cell? ⟨w.heap.size, 0, none⟩ = some (.int .i64 xp) ∧ w'.cell? ⟨w.heap.size, 1, none⟩ = some (.slice a xl cap) ∧ w'.cell? ⟨w.heap.size + 1, 0, none⟩ = some (.int .i64 yp) ∧ w'.cell? ⟨w.heap.size + 1, 1, none⟩ = some (.slice a' yl cap')) ∧ Below w.heap.size w w' ∧ w.heap.size < w'.heap.size ∧ w.heap.size + 1 < w'.heap.size)) (by kernel_rfl) ?_ (fun hHeld => ?_)
          · exact boxes_drew HS0.out
          refine wpAnyH_take (i := 0) (oi := _) (v := ?_) rfl (by kernel_rfl) (by kernel_rfl) (by kernel_rfl) (fun _ _ _ h => h) (Or.inl ⟨by rfl, ?_⟩) (by assumption) ?_
          rotate_left
          · intro w' hSw
            (try dsimp only at hSw)
            go_simp
            try with_reducible rfl
          try simp only [Act.put, List.getElem_toArray, List.getElem_cons_zero, List.setIfInBounds_toArray, List.set_cons_zero, List.set_cons_succ]
          refine wpAnyH_take (i := 1) (oi := _) (v := ?_) rfl (by kernel_rfl) (by kernel_rfl) (by kernel_rfl) (fun _ _ _ h => h) (Or.inl ⟨by rfl, ?_⟩) (by assumption) ?_
          rotate_left
          · intro w' hSw
            (try dsimp only at hSw)
            go_simp
            try with_reducible rfl
          try simp only [Act.put, List.getElem_toArray, List.getElem_cons_zero, List.getElem_cons_succ, List.setIfInBounds_toArray, List.set_cons_zero, List.set_cons_succ]
          refine wpAnyH_take (i := 3) (oi := _) (v := ?_) rfl (by kernel_rfl) (by kernel_rfl) (by kernel_rfl) (fun _ _ _ h => h) (Or.inl ⟨by rfl, ?_⟩) (by assumption) ?_
          rotate_left
          · intro w' hSw
            (try dsimp only at hSw)
            go_simp
            try with_reducible rfl
          try simp only [Act.put, List.getElem_toArray, List.getElem_cons_zero, List.getElem_cons_succ, List.setIfInBounds_toArray, List.set_cons_zero, List.set_cons_succ]
          refine wpAnyH_take (i := 4) (oi := _) (v := ?_) rfl (by kernel_rfl) (by kernel_rfl) (by kernel_rfl) (fun _ _ _ h => h) (Or.inl ⟨by rfl, ?_⟩) (by assumption) ?_
          rotate_left
          · intro w' hSw
            (try dsimp only at hSw)
            go_simp
            try with_reducible rfl
          try simp only [Act.put, List.getElem_toArray, List.getElem_cons_zero, List.getElem_cons_succ, List.setIfInBounds_toArray, List.set_cons_zero, List.set_cons_succ]
          refine wpAnyH_ready (rs := [2]) (by kernel_rfl) (by simp) ?_
          refine AllReadyH.cons rfl (fun K hK => ?_) AllReadyH.nil
          go_simp
          go_at_call 21
          refine (JSame_c x y _ _ w.heap.size _ (GX.out.keep (boxes_below (by assumption))) (GY.out.keep (boxes_below (by assumption))) (Below.size (boxes_below (by assumption)))).mono ?_
          rintro e w9 ⟨rfl, hq9⟩
          rw [HSM.out]
          refine hK.out _ _ ?_ (fun hHeld => ?_)
          · first | assumption | (refine boxes_keep ?_ (by assumption); assumption)
          clear hK K
          try simp only [Act.put, List.getElem_toArray, List.getElem_cons_zero, List.getElem_cons_succ, List.setIfInBounds_toArray, List.set_cons_zero, List.set_cons_succ]
          refine wpAnyH_ready (rs := [5]) (by kernel_rfl) (by simp) ?_
          refine AllReadyH.cons rfl (fun K hK => ?_) AllReadyH.nil
          go_simp
          go_at_call 22
          refine (rJSame_c x y _ _ w.heap.size _ (GX.out.keep (boxes_below (by assumption))) (GY.out.keep (boxes_below (by assumption))) (Below.size (boxes_below (by assumption)))).mono ?_
          rintro e w9 ⟨rfl, hq9⟩
          rw [HSM.out]
          refine hK.out _ _ ?_ (fun hHeld => ?_)
          · first | assumption | (refine boxes_keep ?_ (by assumption); assumption)
          clear hK K
          try simp only [Act.put, List.getElem_toArray, List.getElem_cons_zero, List.getElem_cons_succ, List.setIfInBounds_toArray, List.set_cons_zero, List.set_cons_succ]
          refine wpAnyH_take (i := 6) (oi := _) (v := ?_) rfl (by kernel_rfl) (by kernel_rfl) (by kernel_rfl) (fun _ _ _ h => h) (Or.inl ⟨by rfl, ?_⟩) (by assumption) ?_
          rotate_left
          · intro w' hSw
            (try dsimp only at hSw)
            go_simp
            try with_reducible rfl
          try simp only [Act.put, List.getElem_toArray, List.getElem_cons_zero, List.getElem_cons_succ, List.setIfInBounds_toArray, List.set_cons_zero, List.set_cons_succ]
          refine wpAnyH_take (i := 7) (oi := _) (v := ?_) rfl (by kernel_rfl) (by kernel_rfl) (by kernel_rfl) (fun _ _ _ h => h) (Or.inl ⟨by rfl, ?_⟩) (by assumption) ?_
          rotate_left
          · intro w' hSw
            (try dsimp only at hSw)
            go_simp
            try with_reducible rfl
          try simp only [Act.put, List.getElem_toArray, List.getElem_cons_zero, List.getElem_cons_succ, List.setIfInBounds_toArray, List.set_cons_zero, List.set_cons_succ]
          refine wpAnyH_take (i := 8) (oi := _) (v := ?_) rfl (by kernel_rfl) (by kernel_rfl) (by kernel_rfl) (fun _ _ _ h => h) (Or.inl ⟨by rfl, ?_⟩) (by assumption) ?_
          rotate_left
          · intro w' hSw
            (try dsimp only at hSw)
            go_simp
            try with_reducible rfl
          try simp only [Act.put, List.getElem_toArray, List.getElem_cons_zero, List.getElem_cons_succ, List.setIfInBounds_toArray, List.set_cons_zero, List.set_cons_succ]
          refine wpAnyH_take (i := 9) (oi := _) (v := ?_) rfl (by kernel_rfl) (by kernel_rfl) (by kernel_rfl) (fun _ _ _ h => h) (Or.inl ⟨by rfl, ?_⟩) (by assumption) ?_
          rotate_left
          · intro w' hSw
            (try dsimp only at hSw)
            go_simp
            try with_reducible rfl
          try simp only [Act.put, List.getElem_toArray, List.getElem_cons_zero, List.getElem_cons_succ, List.setIfInBounds_toArray, List.set_cons_zero, List.set_cons_succ]
          refine wpAnyH_ready (rs := [10]) (by kernel_rfl) (by simp) ?_
          refine AllReadyH.cons rfl (fun K hK => ?_) AllReadyH.nil
          go_simp
          go_at_call 21
          refine (JSame_c x x _ _ w.heap.size _ (GX.out.keep (boxes_below (by assumption))) (GX.out.keep (boxes_below (by assumption))) (Below.size (boxes_below (by assumption)))).mono ?_
          rintro e w9 ⟨rfl, hq9⟩
          rw [HSR.out]
          refine hK.out _ _ ?_ (fun hHeld => ?_)
          · first | assumption | (refine boxes_keep ?_ (by assumption); assumption)
          clear hK K
          try simp only [Act.put, List.getElem_toArray, List.getElem_cons_zero, List.getElem_cons_succ, List.setIfInBounds_toArray, List.set_cons_zero, List.set_cons_succ]
          refine wpAnyH_take (i := 11) (oi := _) (v := ?_) rfl (by kernel_rfl) (by kernel_rfl) (by kernel_rfl) (fun _ _ _ h => h) (Or.inl ⟨by rfl, ?_⟩) (by assumption) ?_
          rotate_left
          · intro w' hSw
            (try dsimp only at hSw)
            go_simp
            try with_reducible rfl
          try simp only [Act.put, List.getElem_toArray, List.getElem_cons_zero, List.getElem_cons_succ, List.setIfInBounds_toArray, List.set_cons_zero, List.set_cons_succ]
          refine wpAnyH_take (i := 12) (oi := _) (v := ?_) rfl (by kernel_rfl) (by kernel_rfl) (by kernel_rfl) (fun _ _ _ h => h) (Or.inl ⟨by rfl, ?_⟩) (by assumption) ?_
          rotate_left
          · intro w' hSw
            (try dsimp only at hSw)
            go_simp
            try with_reducible rfl
          try simp only [Act.put, List.getElem_toArray, List.getElem_cons_zero, List.getElem_cons_succ, List.setIfInBounds_toArray, List.set_cons_zero, List.set_cons_succ]
          refine wpAnyH_take (i := 13) (oi := _) (v := ?_) rfl (by kernel_rfl) (by kernel_rfl) (by kernel_rfl) (fun _ _ _ h => h) (Or.inl ⟨by rfl, ?_⟩) (by assumption) ?_
          rotate_left
          · intro w' hSw
            (try dsimp only at hSw)
            go_simp
            try with_reducible rfl
          try simp only [Act.put, List.getElem_toArray, List.getElem_cons_zero, List.getElem_cons_succ, List.setIfInBounds_toArray, List.set_cons_zero, List.set_cons_succ]
          refine wpAnyH_take (i := 15) (oi := _) (v := ?_) rfl (by kernel_rfl) (by kernel_rfl) (by kernel_rfl) (fun _ _ _ h => h) (Or.inl ⟨by rfl, ?_⟩) (by assumption) ?_
          rotate_left
          · intro w' hSw
            (try dsimp only at hSw)
            go_simp
            try with_reducible rfl
          try simp only [Act.put, List.getElem_toArray, List.getElem_cons_zero, List.getElem_cons_succ, List.setIfInBounds_toArray, List.set_cons_zero, List.set_cons_succ]
          refine wpAnyH_take (i := 16) (oi := _) (v := ?_) rfl (by kernel_rfl) (by kernel_rfl) (by kernel_rfl) (fun _ _ _ h => h) (Or.inl ⟨by rfl, ?_⟩) (by assumption) ?_
          rotate_left
          · intro w' hSw
            (try dsimp only at hSw)
            go_simp
            try with_reducible rfl
          try simp only [Act.put, List.getElem_toArray, List.getElem_cons_zero, List.getElem_cons_succ, List.setIfInBounds_toArray, List.set_cons_zero, List.set_cons_succ]
          refine wpAnyH_ready (rs := [14]) (by kernel_rfl) (by simp) ?_
          refine AllReadyH.cons rfl (fun K hK => ?_) AllReadyH.nil
          go_simp
          go_at_call 23
          refine (Stateful_c k _).mono ?_
          rintro e w9 ⟨rfl, rfl⟩
          rw [h6, Bool.true_or]
          refine hK.out _ _ ?_ (fun hHeld => ?_)
          · first | assumption | (refine boxes_keep ?_ (by assumption); assumption)
          clear hK K
          try simp only [Act.put, List.getElem_toArray, List.getElem_cons_zero, List.getElem_cons_succ, List.setIfInBounds_toArray, List.set_cons_zero, List.set_cons_succ]
          refine wpAnyH_take (i := 17) (oi := _) (v := ?_) rfl (by kernel_rfl) (by kernel_rfl) (by kernel_rfl) (fun _ _ _ h => h) (Or.inl ⟨by rfl, ?_⟩) (by assumption) ?_
          rotate_left
          · intro w' hSw
            (try dsimp only at hSw)
            go_simp
            try with_reducible rfl
          try simp only [Act.put, List.getElem_toArray, List.getElem_cons_zero, List.getElem_cons_succ, List.setIfInBounds_toArray, List.set_cons_zero, List.set_cons_succ]
          refine wpAnyH_take (i := 18) (oi := _) (v := undef) rfl (by kernel_rfl) (by kernel_rfl) (by kernel_rfl) (fun _ _ _ h => h) (Or.inr ⟨by rfl, rfl⟩) (by assumption) ?_
          try simp only [Act.put, List.getElem_toArray, List.getElem_cons_zero, List.getElem_cons_succ, List.setIfInBounds_toArray, List.set_cons_zero, List.set_cons_succ]
          refine wpAnyH_take (i := 19) (oi := _) (v := undef) rfl (by kernel_rfl) (by kernel_rfl) (by kernel_rfl) (fun _ _ _ h => h) (Or.inr ⟨by rfl, rfl⟩) (by assumption) ?_
          try simp only [Act.put, List.getElem_toArray, List.getElem_cons_zero, List.getElem_cons_succ, List.setIfInBounds_toArray, List.set_cons_zero, List.set_cons_succ]
          refine wpAnyH_take (i := 20) (oi := _) (v := ?_) rfl (by kernel_rfl) (by kernel_rfl) (by kernel_rfl) (fun _ _ _ h => h) (Or.inl ⟨by rfl, ?_⟩) (by assumption) ?_
          rotate_left
          · intro w' hSw
            (try dsimp only at hSw)
            go_simp
            try with_reducible rfl
          try simp only [Act.put, List.getElem_toArray, List.getElem_cons_zero, List.getElem_cons_succ, List.setIfInBounds_toArray, List.set_cons_zero, List.set_cons_succ]
          refine wpAnyH_take (i := 21) (oi := _) (v := ?_) rfl (by kernel_rfl) (by kernel_rfl) (by kernel_rfl) (fun _ _ _ h => h) (Or.inl ⟨by rfl, ?_⟩) (by assumption) ?_
          rotate_left
          · intro w' hSw
            (try dsimp only at hSw)
            go_simp
            try with_reducible rfl
          try simp only [Act.put, List.getElem_toArray, List.getElem_cons_zero, List.getElem_cons_succ, List.setIfInBounds_toArray, List.set_cons_zero, List.set_cons_succ]
          refine wpAnyH_take (i := 22) (oi := _) (v := ?_) rfl (by kernel_rfl) (by kernel_rfl) (by kernel_rfl) (fun _ _ _ h => h) (Or.inl ⟨by rfl, ?_⟩) (by assumption) ?_
          rotate_left
          · intro w' hSw
            (try dsimp only at hSw)
            go_simp
            try with_reducible rfl
          try simp only [Act.put, List.getElem_toArray, List.getElem_cons_zero, List.getElem_cons_succ, List.setIfInBounds_toArray, List.set_cons_zero, List.set_cons_succ]
          refine wpAnyH_take (i := 23) (oi := _) (v := ?_) rfl (by kernel_rfl) (by kernel_rfl) (by kernel_rfl) (fun _ _ _ h => h) (Or.inl ⟨by rfl, ?_⟩) (by assumption) ?_
          rotate_left
          · intro w' hSw
            (try dsimp only at hSw)
            go_simp
            try with_reducible rfl
          try simp only [Act.put, List.getElem_toArray, List.getElem_cons_zero, List.getElem_cons_succ, List.setIfInBounds_toArray, List.set_cons_zero, List.set_cons_succ]
          refine wpAnyH_ready (rs := [24]) (by kernel_rfl) (by simp) ?_
          refine AllReadyH.cons rfl (fun K hK => ?_) AllReadyH.nil
          go_simp
          go_at_call 16
          refine (jworks_c _).mono ?_
          rintro e w9 ⟨rfl, hq9⟩
          refine hK.out _ _ ?_ (fun hHeld => ?_)
          · first | assumption | (refine boxes_keep ?_ (by assumption); assumption)
          clear hK K
          try simp only [Act.put, List.getElem_toArray, List.getElem_cons_zero, List.getElem_cons_succ, List.setIfInBounds_toArray, List.set_cons_zero, List.set_cons_succ]
          refine wpAnyH_take (i := 25) (oi := _) (v := ?_) rfl (by kernel_rfl) (by kernel_rfl) (by kernel_rfl) (fun _ _ _ h => h) (Or.inl ⟨by rfl, ?_⟩) (by assumption) ?_
          rotate_left
          · intro w' hSw
            (try dsimp only at hSw)
            go_simp
            try with_reducible rfl
          try simp only [Act.put, List.getElem_toArray, List.getElem_cons_zero, List.getElem_cons_succ, List.setIfInBounds_toArray, List.set_cons_zero, List.set_cons_succ]
          refine wpAnyH_take (i := 26) (oi := _) (v := ?_) rfl (by kernel_rfl) (by kernel_rfl) (by kernel_rfl) (fun _ _ _ h => h) (Or.inl ⟨by rfl, ?_⟩) (by assumption) ?_
          rotate_left
          · intro w' hSw
            (try dsimp only at hSw)
            go_simp
            try with_reducible rfl
          try simp only [Act.put, List.getElem_toArray, List.getElem_cons_zero, List.getElem_cons_succ, List.setIfInBounds_toArray, List.set_cons_zero, List.set_cons_succ]
          refine wpAnyH_done (by kernel_rfl) ?_ _
          go_wp2_with fail
          go_ret
          refine ⟨?_, boxes_below (by assumption)⟩
          first | kernel_rfl | simp
    · have HH1 := Lib.hid hh1
      have HH2 := Lib.hid hh2
      clear hh1 hh2
      go_enter Try.func7, Try.ntmps7
      go_wp2_with fail
      generalize World.alloc (World.alloc w _) _ = W at *
      have n0 := hb1.cell 0
      have n1 := hb1.cell 1
      go_wp2_with fail
      refine (Heavy_c x _ w.heap.size _ ((GX.out.keep hW)) hW.size).mono ?_
      rintro e w1 ⟨rfl, hq1⟩
      rw [HH1.out]
      have hc1 := hW.trans (hq1.mono hW.size)
      have hd2 := hb2.below hq1 hb2.lt
      have m0 := hd2.cell 0
      have m1 := hd2.cell 1
      clear n0 n1
      go_wp2_with fail
      refine (Heavy_c y _ w.heap.size _ ((GY.out.keep hc1)) hc1.size).mono ?_
      rintro e w2 ⟨rfl, hq2⟩
      rw [HH2.out]
      have hc2 := hc1.trans (hq2.mono hc1.size)
      clear m0 m1
      go_wp2_with (go_at_call 16; refine (jworks_c _).mono ?_; rintro e w9 ⟨rfl, hq9⟩)
      go_ret
      exact ⟨rfl, hc2.trans (hq9.mono hc2.size)⟩
  · have HH1 := Lib.hid hh1
    clear hh1
    go_enter Try.func7, Try.ntmps7
    go_wp2_with fail
    generalize World.alloc (World.alloc w _) _ = W at *
    have n0 := hb1.cell 0
    have n1 := hb1.cell 1
    go_wp2_with fail
    refine (Heavy_c x _ w.heap.size _ ((GX.out.keep hW)) hW.size).mono ?_
    rintro e w1 ⟨rfl, hq1⟩
    rw [HH1.out]
    have hc1 := hW.trans (hq1.mono hW.size)
    clear n0 n1
    go_wp2_with (go_at_call 16; refine (jworks_c _).mono ?_; rintro e w9 ⟨rfl, hq9⟩)
    go_ret
    exact ⟨rfl, hc1.trans (hq9.mono hc1.size)⟩

end Go.Proofs.Ytjejnbhcgbbmhaa
