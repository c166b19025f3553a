/-
  The walk of JobPars.
-/
import Derived.Test.YtfieoehchghiiaaJ18
import Derived.Test.YtfieoehchghiiaaJ11
import Derived.Test.YtfieoehchghiiaaJ1
import Derived.Test.YtfieoehchghiiaaKB
import Derived.Deep.RegionHeld3
import Derived.Deep.AppendLies
namespace Go.Proofs.Ytfieoehchghiiaa
open Go.RowKit
set_option linter.unusedVariables false

theorem info_ndJ : (Try.prog.info? 37).map (fun i => (i.zero, i.size, i.bytes)) = some (some (.agg #[.string { data := #[] }, .int .u8 0, .slice none 0 0, .int .u8 0, .int .i64 0, .slice none 0 0, .int .i64 0]), 7, 96) := by kernel_rfl

set_option maxRecDepth 100000 in
set_option maxHeartbeats 8000000 in
theorem JobPars_c (w : World) (jb : Jb) (v : Value) (gx : JbAt w w.heap.size v jb) (kx : jb.ok) (par : Int) (uid : ByteArray) (wpar : (Lit.int .i64 par).wf = true) (hr : uid.size ≤ 140737488351232) :
    Calls Try.prog 3 #[v, .int .i64 par, .string uid] w fun e w' => e = .returned (.bool true) ∧ Below w.heap.size w w' := by
  have GX := Lib.hid gx
  obtain ⟨sv, rfl, hs⟩ := gx
  obtain ⟨a, cap, rfl, hcap, hmx⟩ := hs.slice
  have HS := Lib.hid hs
  have hlm : jb.nodes.length ≤ 9223372036854775807 := by unfold maxLen at hmx; omega
  have hW := (KB.start w).push #[.int .i64 jb.par, .slice a jb.nodes.length cap] 24
  have HWK := Lib.hid jworks_c
  have HHV : Hid (∀ W, Below w.heap.size w W → Calls Try.prog 11 #[.agg #[.int .i64 jb.par, .slice a jb.nodes.length cap]] W fun e w' => e = .returned (.bool jb.heavyB) ∧ Below W.heap.size W w') := fun W h => Heavy_c jb _ w.heap.size W (GX.out.keep h) h.size
  have HMY : Hid (∀ W, Below w.heap.size w W → Calls Try.prog 13 #[.agg #[.int .i64 jb.par, .slice a jb.nodes.length cap]] W fun e w' => e = .returned (.tuple #[.int .i64 jb.may.1, .int .i64 jb.may.2]) ∧ Below W.heap.size W w') := fun W h => May_c1 jb _ w.heap.size W (GX.out.keep h) h.size
  have HMP : Hid (∀ W, Below w.heap.size w W → Calls Try.prog 13 #[.agg #[.int .i64 par, .slice a jb.nodes.length cap]] W fun e w' => e = .returned (.tuple #[.int .i64 (⟨par, jb.nodes⟩ : Jb).may.1, .int .i64 (⟨par, jb.nodes⟩ : Jb).may.2]) ∧ Below W.heap.size W w') := fun W h => May_c1 ⟨par, jb.nodes⟩ _ w.heap.size W ⟨_, rfl, HS.out.keep h⟩ h.size
  have HFD : Hid (∀ W, Below w.heap.size w W → Calls Try.prog 15 #[.agg #[.int .i64 jb.par, .slice a jb.nodes.length cap], .string uid] W fun e w' => e = .returned (.int .i64 (jb.find uid)) ∧ Below W.heap.size W w') := fun W h => Find_c jb uid _ w.heap.size W (GX.out.keep h) h.size
  have HP1 := Lib.hid (fun h => @pars_par jb h par)
  have HP2 := Lib.hid (fun h1 h2 h3 => @pars_named jb h1 uid h2 h3)
  have HGD := Lib.hid (may_good jb)
  clear hs hcap hmx kx
  cases hh : jb.heavyB
  case true =>
    have HH := Lib.hid hh
    rw [hh] at HHV
    clear hh
    go_enter Try.func3, Try.ntmps3
    go_upto_region 1 with fail
    generalize World.alloc w _ = W at *
    have p0 := hW.hd.cell 0
    have p1 := hW.hd.cell 1
    go_wp2_with fail
    refine (HHV.out W hW.below).mono ?_
    rintro e w1 ⟨rfl, hq⟩
    go_wp2_with fail
    refine (HWK.out _).mono ?_
    rintro e w2 ⟨rfl, hq2⟩
    go_wp2_with fail
    go_ret
    exact ⟨rfl, hW.below.trans ((hq.trans (hq2.mono hq.size)).mono hW.below.size)⟩
  case false =>
    rw [hh] at HHV
    clear hh
    obtain ⟨ma, hma⟩ : ∃ x, jb.may = x := ⟨_, rfl⟩
    obtain ⟨mb, hmb⟩ : ∃ x, (⟨par, jb.nodes⟩ : Jb).may = x := ⟨_, rfl⟩
    rw [hma] at HMY HP1 HP2 HGD
    rw [hmb] at HMP HP1
    clear hma hmb
    obtain ⟨m1, m2⟩ := ma
    obtain ⟨n1, n2⟩ := mb
    dsimp only at HMY HMP HP1 HP2 HGD
    obtain ⟨i0, hi, iz0, iz1, iz2⟩ := info_parts info_ndJ
    have HNM : Hid (∀ (v : Value) (W : World), JbAt W W.heap.size v (jb.named uid) → Calls Try.prog 13 #[v] W fun e w' => e = .returned (.tuple #[.int .i64 (jb.named uid).may.1, .int .i64 (jb.named uid).may.2]) ∧ Below W.heap.size W w') := fun v W h => May_c1 (jb.named uid) _ W.heap.size W h (Nat.le_refl _)
    have HSM : Hid (∀ (v : Value) (W : World), Below w.heap.size w W → JbAt W W.heap.size v (jb.named uid) → Calls Try.prog 16 #[.agg #[.int .i64 jb.par, .slice a jb.nodes.length cap], v] W fun e w' => e = .returned (.bool (jb.sameB (jb.named uid))) ∧ Below W.heap.size W w') := fun v W h1 h2 => JSame_c jb (jb.named uid) _ v W.heap.size W ((GX.out.keep h1).mono h1.size) h2 (Nat.le_refl _)
    have HJN : Hid (∀ (v : Value) (W : World) (C : Nat), (∃ d l, jb.nodes = d :: l ∧ ∃ sv, v = .agg #[.int .i64 jb.par, sv] ∧ NodesAt W C ({ d with uid := uid } :: l) sv) → JbAt W C v (jb.named uid)) := by
      rintro v W C ⟨d, l, h1, sv, h2, h3⟩
      refine ⟨sv, h2, ?_⟩
      unfold Jb.named
      rw [h1]
      exact h3
    generalize jb.named uid = jn at *
    generalize jb.sameB jn = sb at *
    generalize jb.find uid = fu at *
    obtain ⟨p1, p2⟩ : ∃ q, jn.may = q := ⟨_, rfl⟩
    generalize jn.may = mn at *
    obtain ⟨q1, q2⟩ := mn
    dsimp only at HP2 HNM
    clear p1 p2
    generalize jb.par = jp at *
    generalize hnd : jb.nodes = nds at *
    generalize hnl : nds.length = nl at *
    by_cases hm : m2 = 0
    · have hm' : (m2 == 0) = true := by rw [hm]; rfl
      have hgood := HGD.out hm
      have hn1 : 2 ≤ nl := by have := hgood.n1; rw [hnd, hnl] at this; exact this
      have hn2 : nl ≤ 12 := by have := hgood.n2; rw [hnd, hnl] at this; exact this
      obtain ⟨b, off, cp, e1, hbc, hrest⟩ := HS.out.at_ 0 (by omega)
      clear hrest
      simp only [Value.slice.injEq] at e1
      obtain ⟨e2, e9, e3⟩ := e1
      clear e9
      subst e2 e3
      obtain ⟨d, l, hdl⟩ : ∃ d l, nds = d :: l := by
        cases nds with
        | nil => simp at hnl; omega
        | cons d l => exact ⟨d, l, rfl⟩
      subst hdl
      have hnl' : (d :: l).length = nl := hnl
      have HS2 : Hid (NodesAt w w.heap.size (d :: l) (.slice (some ⟨b, off, none⟩) (d :: l).length cap)) := by
        show NodesAt _ _ _ _
        rw [hnl']
        exact HS.out
      have HCEL : Hid (∀ j, j < nl * 7 → ∃ u, w.cell? ⟨b, off + j, none⟩ = some u ∧ u.oneCell' = true) := by
        have := HS2.out.cells
        rw [hnl'] at this
        exact this
      have HNL := Lib.hid hnl'
      have HND := Lib.hid hnd
      clear hnl' hnl hnd
      have HPR := Lib.hid (HP1.out hm)
      have HPN := Lib.hid (HP2.out hm)
      clear hgood HP1 HP2 HGD
      go_enter Try.func3, Try.ntmps3
      go_upto_region 1 with fail
      generalize World.alloc w _ = W at *
      have p0 := hW.hd.cell 0
      have p1 := hW.hd.cell 1
      go_wp2_with fail
      refine (HHV.out W hW.below).mono ?_
      rintro e w1 ⟨rfl, hq⟩
      replace hW := hW.keep hq
      clear p0 p1 hq
      have p0 := hW.hd.cell 0
      have p1 := hW.hd.cell 1
      go_wp2_with fail
      refine (HMY.out _ hW.below).mono ?_
      rintro e w2 ⟨rfl, hq⟩
      replace hW := hW.keep hq
      clear p0 p1 hq
      have p0 := hW.hd.cell 0
      have p1 := hW.hd.cell 1
      go_upto_region 5 with fail
      have hl0 := hW.hd.lt
      replace hW := hW.push #[.int .i64 jp, .slice (some ⟨b, off, none⟩) nl cap] 24
      generalize hkb : w2.heap.size = kb at *
      generalize w2.alloc _ = W4 at *
      have hkw : w.heap.size ≤ kb := by omega
      have hkn : ∀ y ∈ ([(w.heap.size, 24, #[.int .i64 jp, .slice (some ⟨b, off, none⟩) nl cap])] : List (Nat × TypeId × Array Value)), y.1 ≠ kb := by
        intro y hy
        simp only [List.mem_cons, List.not_mem_nil, or_false] at hy
        subst hy
        dsimp only
        omega
      clear p0 p1 hkb hl0
      have k0 := hW.hd.cell 0
      have k1 := hW.hd.cell 1
      have z0 := hW.hd.free 0
      have z1 := hW.hd.free 1
      go_upto_region 6 with fail
      have hK : KB w _ ((kb, 24, #[.int .i64 par, .slice (some ⟨b, off, none⟩) nl cap]) :: [(w.heap.size, 24, #[.int .i64 jp, .slice (some ⟨b, off, none⟩) nl cap])]) := hW.set hkw hkn 0 (.int .i64 par)
      clear k0 k1 z0 z1 hW
      generalize World.setCell _ _ _ = W5 at *
      have k0 := hK.hd.cell 0
      have k1 := hK.hd.cell 1
      go_wp2_with fail
      refine (HMP.out _ hK.below).mono ?_
      rintro e w6 ⟨rfl, hq⟩
      replace hK := hK.keep hq
      clear k0 k1 hq
      go_upto_region 7 with fail
      go_cut [42] (fun s wx => s = .bool false ∧ KB w wx ((kb, 24, #[.int .i64 par, .slice (some ⟨b, off, none⟩) nl cap]) :: [(w.heap.size, 24, #[.int .i64 jp, .slice (some ⟨b, off, none⟩) nl cap])]))
      case first =>
        have hcs : (par < 1 ∨ (1 ≤ par ∧ 4 < par)) ∨ (1 ≤ par ∧ par ≤ 4) := by omega
        rcases hcs with hcs | ⟨hc1, hc2⟩
        · have hnz : (n2 == 0) = false := by
            rw [beq_eq_false_iff_ne]
            intro h
            have := HPR.out.1 h
            omega
          rcases hcs with hc | ⟨hc1, hc2⟩
          · have d1 : decide (1 ≤ par) = false := decide_eq_false (by omega)
            go_wp2_with fail
            go_meet
            exact ⟨rfl, hK⟩
          · have d1 : decide (1 ≤ par) = true := decide_eq_true hc1
            have d2 : decide (par ≤ 4) = false := decide_eq_false (by omega)
            go_wp2_with fail
            go_meet
            exact ⟨rfl, hK⟩
        · have hnz : (n2 == 0) = true := by
            rw [beq_iff_eq]
            exact HPR.out.2 ⟨hc1, hc2⟩
          have d1 : decide (1 ≤ par) = true := decide_eq_true hc1
          have d2 : decide (par ≤ 4) = true := decide_eq_true hc2
          go_wp2_with fail
          go_meet
          exact ⟨rfl, hK⟩
      case rest =>
        obtain ⟨rfl, hK⟩ := hcut
        rename World => wa
        cases hnu : nameB uid
        · have HNU := Lib.hid hnu
          clear hnu
          go_wp2_with fail
          refine (Name_c uid _ (by unfold maxLen; omega)).mono ?_
          rintro e w7 ⟨rfl, pos, rfl⟩
          rw [HNU.out]
          replace hK := hK.grow (.stringIter uid pos)
          go_wp2_with fail
          refine (HWK.out _).mono ?_
          rintro e w9 ⟨rfl, hq9⟩
          go_wp2_with fail
          go_ret
          exact ⟨rfl, (KB.keep hK hq9).below⟩
        · have HNU := Lib.hid hnu
          clear hnu
          go_wp2_with fail
          refine (Name_c uid _ (by unfold maxLen; omega)).mono ?_
          rintro e w7 ⟨rfl, pos, rfl⟩
          rw [HNU.out]
          replace hK : KB w (wa.iter uid pos) ((kb, 24, #[.int .i64 par, .slice (some ⟨b, off, none⟩) nl cap]) :: [(w.heap.size, 24, #[.int .i64 jp, .slice (some ⟨b, off, none⟩) nl cap])]) := hK.grow (.stringIter uid pos)
          generalize wa.iter uid pos = W7 at *
          have p0 := hK.tl.hd.cell 0
          have p1 := hK.tl.hd.cell 1
          by_cases hfu : fu < 0
          · have hfd : decide (fu < 0) = true := decide_eq_true hfu
            obtain ⟨hp2, hsb⟩ := HPN.out HNU.out hfu
            go_wp2_with fail
            refine (HFD.out _ hK.below).mono ?_
            rintro e w8 ⟨rfl, hq⟩
            replace hK := hK.keep hq
            clear p0 p1 hq
            go_upto_region 10 with fail
            have hKq := hK
            have hkb8 : kb < w8.heap.size := hK.hd.lt
            have hw8 : w.heap.size < w8.heap.size := hK.tl.hd.lt
            have hn5 : ∀ y ∈ ((kb, 24, #[.int .i64 par, .slice (some ⟨b, off, none⟩) nl cap]) :: [(w.heap.size, 24, #[.int .i64 jp, .slice (some ⟨b, off, none⟩) nl cap])] : List (Nat × TypeId × Array Value)), y.1 < w8.heap.size := fun y hy => (hK.blk y hy).lt
            refine wp_region_held_drew (S := (fun w' => KB w w' [(w.heap.size, 24, #[.int .i64 jp, .slice (some ⟨b, off, none⟩) nl cap])])) (by kernel_rfl) ?_ (fun hHeld => ?_)
            · exact hK.tl.drew
            refine wpAnyH_take (i := 0) (oi := _) (v := ?_) rfl (by kernel_rfl) (by kernel_rfl) (by kernel_rfl) (fun _ _ _ h => h) (Or.inl ⟨by rfl, ?_⟩) (by assumption) ?_
            rotate_left
            · intro w' hSw
              (try dsimp only at hSw)
              have p0 := hSw.hd.cell 0
              have p1 := hSw.hd.cell 1
              clear hSw
              go_simp
              try with_reducible rfl
            try simp only [Act.put, List.getElem_toArray, List.getElem_cons_zero, List.setIfInBounds_toArray, List.set_cons_zero, List.set_cons_succ]
            refine wpAnyH_take (i := 1) (oi := _) (v := ?_) rfl (by kernel_rfl) (by kernel_rfl) (by kernel_rfl) (fun _ _ _ h => h) (Or.inl ⟨by rfl, ?_⟩) (by assumption) ?_
            rotate_left
            · intro w' hSw
              (try dsimp only at hSw)
              have p0 := hSw.hd.cell 0
              have p1 := hSw.hd.cell 1
              clear hSw
              go_simp
              try with_reducible rfl
            try simp only [Act.put, List.getElem_toArray, List.getElem_cons_zero, List.getElem_cons_succ, List.setIfInBounds_toArray, List.set_cons_zero, List.set_cons_succ]
            refine wpAnyH_take (i := 3) (oi := _) (v := ?_) rfl (by kernel_rfl) (by kernel_rfl) (by kernel_rfl) (fun _ _ _ h => h) (Or.inl ⟨by rfl, ?_⟩) (by assumption) ?_
            rotate_left
            · intro w' hSw
              (try dsimp only at hSw)
              have p0 := hSw.hd.cell 0
              have p1 := hSw.hd.cell 1
              clear hSw
              go_simp
              try with_reducible rfl
            try simp only [Act.put, List.getElem_toArray, List.getElem_cons_zero, List.getElem_cons_succ, List.setIfInBounds_toArray, List.set_cons_zero, List.set_cons_succ]
            refine wpAnyH_take (i := 4) (oi := _) (v := ?_) rfl (by kernel_rfl) (by kernel_rfl) (by kernel_rfl) (fun _ _ _ h => h) (Or.inl ⟨by rfl, ?_⟩) (by assumption) ?_
            rotate_left
            · intro w' hSw
              (try dsimp only at hSw)
              have p0 := hSw.hd.cell 0
              have p1 := hSw.hd.cell 1
              clear hSw
              go_simp
              try with_reducible rfl
            try simp only [Act.put, List.getElem_toArray, List.getElem_cons_zero, List.getElem_cons_succ, List.setIfInBounds_toArray, List.set_cons_zero, List.set_cons_succ]
            refine wpAnyH_ready (rs := [2]) (by kernel_rfl) (by simp) ?_
            refine AllReadyH.cons rfl (fun K hK => ?_) AllReadyH.nil
            go_simp
            have hown0 : ((w8.alloc (.cells #[] 37)).drew).ownsRow w8.heap.size 37 7 (.slice (some ⟨w8.heap.size, 0, none⟩) 0 0) 0 [] := own_empty w8 _ _ rfl (Nat.le_refl _) _ _
            have hK8 : KB w8 ((w8.alloc (.cells #[] 37)).drew) ((kb, 24, #[.int .i64 par, .slice (some ⟨b, off, none⟩) nl cap]) :: [(w.heap.size, 24, #[.int .i64 jp, .slice (some ⟨b, off, none⟩) nl cap])]) := ((⟨Below.refl _ _, hKq.blk⟩ : KB w8 w8 ((kb, 24, #[.int .i64 par, .slice (some ⟨b, off, none⟩) nl cap]) :: [(w.heap.size, 24, #[.int .i64 jp, .slice (some ⟨b, off, none⟩) nl cap])])).grow _).drew
            refine hK.out _ _ ?_ (fun hHeld => ?_)
            · exact hHeld.grow _
            clear hK K
            try simp only [Act.put, List.getElem_toArray, List.getElem_cons_zero, List.getElem_cons_succ, List.setIfInBounds_toArray, List.set_cons_zero, List.set_cons_succ]
            refine wpAnyH_ready (rs := [5]) (by kernel_rfl) (by simp) ?_
            refine AllReadyH.cons rfl (fun K hK => ?_) AllReadyH.nil
            have hnews := rowOf_news HCEL.out (fun j hj => (hHeld.below.cell (p := ⟨b, off + j, none⟩) hbc))
            have hszX := hK8.below.size
            refine step_append_lies _ (by rfl) _ _ _ (by rfl) w8.heap.size 37 i0 (.agg #[.string { data := #[] }, .int .u8 0, .slice none 0 0, .int .u8 0, .int .i64 0, .slice none 0 0, .int .i64 0]) 7 96 Try.underlying22 hi iz0 iz1 iz2 rfl (by decide) (.slice (some ⟨w8.heap.size, 0, none⟩) 0 0) 0 [] (by rfl) hown0 ⟨b, off, none⟩ nl cap (rowOf w b off (nl * 7)) (by rfl) (rowOf_length _ _ _ _) hnews.1 hnews.2 (by omega) (by unfold maxLen; omega) (by omega) hszX _ rfl ?_
            intro g capg w4 hown4 hgrow4 hat4 hlt4
            have hK4 : KB w8 w4 ((kb, 24, #[.int .i64 par, .slice (some ⟨b, off, none⟩) nl cap]) :: [(w.heap.size, 24, #[.int .i64 jp, .slice (some ⟨b, off, none⟩) nl cap])]) := hK8.grown hgrow4 (fun q hq => by simp only [Value.ownBlock, Option.some.injEq] at hq; omega) (fun y hy => by have := hn5 y hy; simp only [Value.ownBlock, ne_eq, Option.some.injEq]; omega)
            have hK4w : KB w w4 ((kb, 24, #[.int .i64 par, .slice (some ⟨b, off, none⟩) nl cap]) :: [(w.heap.size, 24, #[.int .i64 jp, .slice (some ⟨b, off, none⟩) nl cap])]) := ⟨hKq.below.trans (hK4.below.mono hKq.below.size), hK4.blk⟩
            have x0 := hK4.hd.cell 0
            have x1 := hK4.hd.cell 1
            have z0 := hK4.hd.free 0
            have z1 := hK4.hd.free 1
            refine hK.out _ _ ?_ (fun hHeld => ?_)
            · exact hK4w.tl
            clear hK K
            try simp only [Act.put, List.getElem_toArray, List.getElem_cons_zero, List.getElem_cons_succ, List.setIfInBounds_toArray, List.set_cons_zero, List.set_cons_succ]
            refine wpAnyH_take (i := 6) (oi := _) (v := ?_) rfl (by kernel_rfl) (by kernel_rfl) (by kernel_rfl) (fun _ _ _ h => h) (Or.inl ⟨by rfl, ?_⟩) (by assumption) ?_
            rotate_left
            · intro w' hSw
              (try dsimp only at hSw)
              have p0 := hSw.hd.cell 0
              have p1 := hSw.hd.cell 1
              clear hSw
              go_simp
              try with_reducible rfl
            try simp only [Act.put, List.getElem_toArray, List.getElem_cons_zero, List.getElem_cons_succ, List.setIfInBounds_toArray, List.set_cons_zero, List.set_cons_succ]
            refine wpAnyH_ready (rs := [7]) (by kernel_rfl) (by simp) ?_
            refine AllReadyH.cons rfl (fun K hK => ?_) AllReadyH.nil
            go_simp
            have hK5 : KB w _ ((kb, 24, #[.int .i64 jp, .slice (some ⟨g, 0, none⟩) nl capg]) :: [(w.heap.size, 24, #[.int .i64 jp, .slice (some ⟨b, off, none⟩) nl cap])]) := (hK4w.set hkw hkn 0 (.int .i64 jp)).set hkw hkn 1 (.slice (some ⟨g, 0, none⟩) nl capg)
            refine hK.out _ _ ?_ (fun hHeld => ?_)
            · exact hK5.tl
            clear hK K
            try simp only [Act.put, List.getElem_toArray, List.getElem_cons_zero, List.getElem_cons_succ, List.setIfInBounds_toArray, List.set_cons_zero, List.set_cons_succ]
            refine wpAnyH_done (by kernel_rfl) ?_ _
            clear x0 x1 z0 z1
            have hnl' := HNL.out
            have hnd := HND.out
            obtain ⟨cur, c1, c2, c3, c4, c5⟩ := row_curN hown4 HCEL.out
            have hgk : g ≠ kb := by omega
            have hg5 := (c1.other (p := ⟨kb, 0, none⟩) hgk (.int .i64 jp)).other (p := ⟨kb, 1, none⟩) hgk (.slice (some ⟨g, 0, none⟩) nl capg)
            generalize World.setCell (World.setCell _ _ _) _ _ = W5' at *
            have k1 := hK5.hd.cell 1
            obtain ⟨u0, hu0, _⟩ := HCEL.out 0 (by omega)
            have G0 := (hg5.cell 0).trans ((c5 0 (by omega)).trans hu0)
            have F0 := hg5.free 0
            have hcs : 0 < cur.size := (Array.getElem?_eq_some_iff.1 ((c5 0 (by omega)).trans hu0)).1
            have hnl0 : (0 : Int) < (nl : Int) := by omega
            go_upto_region 12 with fail
            have hgl : ∀ y ∈ ((kb, 24, #[.int .i64 jp, .slice (some ⟨g, 0, none⟩) nl capg]) :: [(w.heap.size, 24, #[.int .i64 jp, .slice (some ⟨b, off, none⟩) nl cap])] : List (Nat × TypeId × Array Value)), y.1 ≠ g := by
              intro y hy
              simp only [List.mem_cons, List.not_mem_nil, or_false] at hy
              rcases hy with rfl | rfl <;> dsimp only <;> omega
            have hK6 := hK5.other (p := ⟨g, 0, none⟩) (by show _ ≤ g; omega) hgl (.string uid)
            have hg6 := hg5.set 0 (.string uid)
            clear k1 G0 F0 hu0
            generalize World.setCell _ _ _ = W6 at *
            have hcur6 : ∀ j, j < (d :: l).length * 7 → (cur.setIfInBounds 0 (.string uid))[j]? = if j = 0 then some (.string uid) else w.cell? ⟨b, off + j, none⟩ := by
              intro j hj
              rw [Array.getElem?_setIfInBounds]
              by_cases h0 : j = 0
              · subst h0
                rw [if_pos rfl, if_pos rfl, if_pos hcs]
              · rw [if_neg (fun h => h0 h.symm), if_neg h0, c5 j (by rw [hnl'] at hj; exact hj)]
            have HNA : Hid (∀ W, Below W6.heap.size W6 W → Blk W g 37 (cur.setIfInBounds 0 (.string uid)) → JbAt W W.heap.size (.agg #[.int .i64 jp, .slice (some ⟨g, 0, none⟩) nl capg]) jn) := fun W hW hgW => by
              refine HJN.out _ _ _ ⟨d, l, rfl, _, rfl, ?_⟩
              have hbb : Below w.heap.size w W := hK6.below.trans (hW.mono hK6.below.size)
              have := NodesAt.named HS2.out hbb hbb.size uid (by unfold maxLen; omega) hgW hgW.lt (by rw [hnl']; exact c3) c4 hcur6
              rw [hnl'] at this
              exact this
            have k0 := hK6.hd.cell 0
            have k1 := hK6.hd.cell 1
            go_wp2_with fail
            refine (HNM.out _ _ (HNA.out _ (Below.refl _ _) hg6)).mono ?_
            rintro e w12 ⟨rfl, hq⟩
            have hg7 := hg6.below hq hg6.lt
            replace hK6 := hK6.keep hq
            clear k0 k1
            have k0 := hK6.hd.cell 0
            have k1 := hK6.hd.cell 1
            have p0 := hK6.tl.hd.cell 0
            have p1 := hK6.tl.hd.cell 1
            have hq2 : (q2 != 0) = false := by rw [hp2]; rfl
            have HCS := Lib.hid (HSM.out _ _ hK6.below (HNA.out _ hq hg7))
            rw [hsb] at HCS
            go_wp2_with fail
            refine HCS.out.mono ?_
            rintro e w13 ⟨rfl, hq13⟩
            replace hK6 := hK6.keep hq13
            clear k0 k1 p0 p1
            go_wp2_with fail
            refine (HWK.out _).mono ?_
            rintro e w9 ⟨rfl, hq9⟩
            go_wp2_with fail
            go_ret
            exact ⟨rfl, (hK6.keep hq9).below⟩
          · have hfd : decide (fu < 0) = false := decide_eq_false hfu
            go_wp2_with fail
            refine (HFD.out _ hK.below).mono ?_
            rintro e w8 ⟨rfl, hq⟩
            replace hK := hK.keep hq
            clear p0 p1 hq
            go_wp2_with fail
            refine (HWK.out _).mono ?_
            rintro e w9 ⟨rfl, hq9⟩
            go_wp2_with fail
            go_ret
            exact ⟨rfl, (hK.keep hq9).below⟩
    · have hm' : (m2 == 0) = false := by simpa using hm
      go_enter Try.func3, Try.ntmps3
      go_upto_region 1 with fail
      generalize World.alloc w _ = W at *
      have p0 := hW.hd.cell 0
      have p1 := hW.hd.cell 1
      go_wp2_with fail
      refine (HHV.out W hW.below).mono ?_
      rintro e w1 ⟨rfl, hq⟩
      replace hW := hW.keep hq
      clear p0 p1 hq
      have p0 := hW.hd.cell 0
      have p1 := hW.hd.cell 1
      go_wp2_with fail
      refine (HMY.out _ hW.below).mono ?_
      rintro e w2 ⟨rfl, hq⟩
      replace hW := hW.keep hq
      clear p0 p1 hq
      have p0 := hW.hd.cell 0
      have p1 := hW.hd.cell 1
      go_upto_region 5 with fail
      have hl0 := hW.hd.lt
      replace hW := hW.push #[.int .i64 jp, .slice a nl cap] 24
      generalize hkb : w2.heap.size = kb at *
      generalize w2.alloc _ = W4 at *
      have hkw : w.heap.size ≤ kb := by omega
      have hkn : ∀ y ∈ ([(w.heap.size, 24, #[.int .i64 jp, .slice a nl cap])] : List (Nat × TypeId × Array Value)), y.1 ≠ kb := by
        intro y hy
        simp only [List.mem_cons, List.not_mem_nil, or_false] at hy
        subst hy
        dsimp only
        omega
      clear p0 p1 hkb hl0
      have k0 := hW.hd.cell 0
      have k1 := hW.hd.cell 1
      have z0 := hW.hd.free 0
      have z1 := hW.hd.free 1
      go_upto_region 6 with fail
      have hK : KB w _ ((kb, 24, #[.int .i64 par, .slice a nl cap]) :: [(w.heap.size, 24, #[.int .i64 jp, .slice a nl cap])]) := hW.set hkw hkn 0 (.int .i64 par)
      clear k0 k1 z0 z1 hW
      generalize World.setCell _ _ _ = W5 at *
      have k0 := hK.hd.cell 0
      have k1 := hK.hd.cell 1
      go_wp2_with fail
      refine (HMP.out _ hK.below).mono ?_
      rintro e w6 ⟨rfl, hq⟩
      replace hK := hK.keep hq
      clear k0 k1 hq
      go_wp2_with fail
      refine (HWK.out _).mono ?_
      rintro e w9 ⟨rfl, hq9⟩
      go_wp2_with fail
      go_ret
      exact ⟨rfl, (hK.keep hq9).below⟩

end Go.Proofs.Ytfieoehchghiiaa
