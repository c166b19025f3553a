/-
  The walk of EvalParts.
-/
import Derived.Test.YtfieoehchghiiaaVH
import Derived.Test.YtfieoehchghiiaaV7
import Derived.Test.YtfieoehchghiiaaT9
import Derived.Test.YtfieoehchghiiaaVJ
import Derived.Deep.RegionHeld3
namespace Go.Proofs.Ytfieoehchghiiaa
open Go.RowKit
set_option linter.unusedVariables false

theorem info_exV : (Try.prog.info? 35).map (fun i => (i.zero, i.size, i.bytes)) = some (some (.agg #[.int .u8 0, .int .i64 0, .slice none 0 0]), 3, 40) := by kernel_rfl

set_option maxRecDepth 100000 in
set_option maxHeartbeats 8000000 in
theorem evParts_c (w : World) (x : Ex) (v : Value) (gx : ExAt w w.heap.size v x) (kx : x.ok) (i : Int) (env : Env) (wi : (Lit.int .i64 i).wf = true) (ke : env.ok) :
    Calls Try.prog 8 #[v, .int .i64 i, env.v0] w fun e w' => e = .returned (.bool true) ∧ Below w.heap.size w w' := by
  have HV := Lib.hid gx
  obtain ⟨sv, rfl, hs⟩ := gx
  obtain ⟨a, cap, rfl, hcap, hmx⟩ := hs.slice
  have HS := Lib.hid hs
  have hK := ((KB.start w).push #[.int .u8 x.op, .int .i64 x.n, .slice a x.args.length cap] 35).pushN (w.heap.size + 1) (by simp) #[.int .i64 env.key, .int .i64 env.val, .int .i64 env.acc] 45
  have HD : Hid (∀ W, Below w.heap.size w W → Calls Try.prog 25 #[.agg #[.int .u8 x.op, .int .i64 x.n, .slice a x.args.length cap], .agg #[.int .i64 env.key, .int .i64 env.val, .int .i64 env.acc]] W fun e w' => e = .returned (.tuple #[(x.doR env).agg, .int .i64 (x.doR env).e]) ∧ Below W.heap.size W w') := fun W h => Do_c x kx _ w.heap.size W env (HV.out.keep h) h.size
  have HDY : Hid (∀ (y : Ex) (v : Value) (W : World), y.ok → ExAt W W.heap.size v y → Calls Try.prog 25 #[v, .agg #[.int .i64 env.key, .int .i64 env.val, .int .i64 env.acc]] W fun e w' => e = .returned (.tuple #[(y.doR env).agg, .int .i64 (y.doR env).e]) ∧ Below W.heap.size W w') := fun y v W h1 h2 => Do_c y h1 _ W.heap.size W env h2 (Nat.le_refl _)
  have HZ : Hid (∀ W, Below w.heap.size w W → Calls Try.prog 23 #[.agg #[.int .u8 x.op, .int .i64 x.n, .slice a x.args.length cap]] W fun e w' => e = .returned (.int .i64 x.size) ∧ Below W.heap.size W w') := fun W h => Size_c x _ w.heap.size W (HV.out.keep h) h.size
  have HWK := Lib.hid ework_c
  have hzz : x.size ≤ 2000 := x.size_le
  have hlm : x.args.length ≤ 9223372036854775807 := by unfold maxLen at hmx; omega
  unfold Env.v0
  have hearly : (2000 ≤ x.size ∨ (¬ 2000 ≤ x.size ∧ i < 0) ∨ (¬ 2000 ≤ x.size ∧ ¬ i < 0 ∧ (x.args.length : Int) ≤ i)) ∨ (¬ 2000 ≤ x.size ∧ 0 ≤ i ∧ i < (x.args.length : Int)) := by omega
  generalize x.size = sz at *
  rcases hearly with hearly | ⟨hg, hi0, hi1⟩
  · generalize x.op = xo at *
    generalize x.n = xn at *
    generalize x.args.length = xl at *
    have hc : decide ((2000 : Int) ≤ (sz : Int)) = true ∨ (decide ((2000 : Int) ≤ (sz : Int)) = false ∧ decide (i < 0) = true) ∨ (decide ((2000 : Int) ≤ (sz : Int)) = false ∧ decide (i < 0) = false ∧ decide ((xl : Int) ≤ i) = true) := by
      rcases hearly with h | ⟨h1, h2⟩ | ⟨h1, h2, h3⟩
      · left; rw [decide_eq_true_eq]; omega
      · right; left; rw [decide_eq_false_iff_not, decide_eq_true_eq]; omega
      · right; right; rw [decide_eq_false_iff_not, decide_eq_false_iff_not, decide_eq_true_eq]; omega
    clear hearly hs HV HS
    rcases hc with hc | ⟨hc, hc2⟩ | ⟨hc, hc2, hc3⟩
    all_goals
      go_enter Try.func8, Try.ntmps8
      go_upto_region 1 with fail
      generalize World.alloc (World.alloc w _) _ = W at *
      have p0 := hK.tl.hd.cell 0
      have p1 := hK.tl.hd.cell 1
      have p2 := hK.tl.hd.cell 2
      go_wp2_with fail
      refine (HZ.out _ hK.below).mono ?_
      rintro e w1 ⟨rfl, hq⟩
      replace hK := hK.keep hq
      clear p0 p1 p2
      have p0 := hK.tl.hd.cell 0
      have p1 := hK.tl.hd.cell 1
      have p2 := hK.tl.hd.cell 2
      go_wp2_with fail
      refine (HWK.out _).mono ?_
      rintro e w2 ⟨rfl, hq2⟩
      go_wp2_with fail
      go_ret
      exact ⟨rfl, (hK.keep hq2).below⟩
  · obtain ⟨k, rfl⟩ : ∃ k : Nat, i = (k : Int) := ⟨i.toNat, by omega⟩
    have hkl : k < x.args.length := by omega
    have hge : decide ((2000 : Int) ≤ (sz : Int)) = false := by rw [decide_eq_false_iff_not]; omega
    have hge2 : decide ((k : Int) < 0) = false := by rw [decide_eq_false_iff_not]; omega
    have hge3 : decide ((x.args.length : Int) ≤ (k : Int)) = false := by rw [decide_eq_false_iff_not]; omega
    obtain ⟨b, off, cp, sv, e1, hb, c0, c1, c2, hsub⟩ := hs.at_ k hkl
    simp only [Value.slice.injEq, true_and] at e1
    obtain ⟨rfl, rfl⟩ := e1
    obtain ⟨a2, cap2, rfl, _, _⟩ := hsub.slice
    have hoka := Exs.ok_at x.args (Ex.ok_args kx) k hkl
    have HPL : Hid ((x.doR env).e = 0 → ((x.args[k]'hkl).doR env).e = 0 ∧ (((x.args[k]'hkl).doR env).ty = 1 ∨ ((x.args[k]'hkl).doR env).ty = 2) ∧ (((x.args[k]'hkl).doR env).ty = 2 → ((x.args[k]'hkl).doR env).n = 0) ∧
        (0 ≤ ((x.args[k]'hkl).doR env).n → (Ex.mk x.op 0 (x.args.set k (byE ((x.args[k]'hkl).doR env).ty ((x.args[k]'hkl).doR env).n ((x.args[k]'hkl).doR env).b))).doR env = x.doR env)) := fun h => parts_law kx h k hkl
    have HNE : Hid ((x.doR env).e ≠ 0 → x.doR env = ⟨0, 0, false, (x.doR env).e⟩) := fun h => by
      have h2 := h
      rw [doR_e] at h2
      have h3 := doR_err (env := env) h2
      rw [h3]
    have HDA : Hid (∀ W, Below w.heap.size w W → Calls Try.prog 25 #[.agg #[.int .u8 (x.args[k]'hkl).op, .int .i64 (x.args[k]'hkl).n, .slice a2 (x.args[k]'hkl).args.length cap2], .agg #[.int .i64 env.key, .int .i64 env.val, .int .i64 env.acc]] W fun e w' => e = .returned (.tuple #[((x.args[k]'hkl).doR env).agg, .int .i64 ((x.args[k]'hkl).doR env).e]) ∧ Below W.heap.size W w') :=
      fun W h => Do_c _ hoka _ w.heap.size W env ⟨_, rfl, hsub.keep h⟩ h.size
    have HL3 : Hid ((x.doR env).e = 0 → x.args.length ≤ 3) := doR_len
    obtain ⟨i0, hi, iz0, iz1, iz2⟩ := info_parts info_exV
    have HOKY : Hid (∀ z : Ex, z.ok → (Ex.mk x.op 0 (x.args.set k z)).ok) := fun z hz => ok_set kx k z hz
    have hna0 : ((x.args[k]'hkl).doR env).e = 0 → -9223372036854775808 ≤ ((x.args[k]'hkl).doR env).n ∧ ((x.args[k]'hkl).doR env).n ≤ 9223372036854775807 := fun h => by
      have h2 := h
      rw [doR_e] at h2
      rw [doR_ok h2]
      exact Ex.ev_ir env ke _ hoka
    generalize x.doR env = r at *
    generalize hra : (x.args[k]'hkl).doR env = ra at *
    obtain ⟨t, n, bo, er⟩ := r
    obtain ⟨ta, na, ba, ea⟩ := ra
    dsimp only [DoR.agg] at HD HDA HPL HNE HL3
    have hna : ea = 0 → -9223372036854775808 ≤ na ∧ na ≤ 9223372036854775807 := hna0
    clear hna0
    generalize (x.args[k]'hkl).op = ao at *
    generalize (x.args[k]'hkl).n = an at *
    generalize (x.args[k]'hkl).args.length = al at *
    clear hsub hra hoka hs hi0 hi1
    generalize x.op = xo at *
    generalize x.n = xn at *
    generalize x.args = l at *
    have HC := Lib.hid (And.intro c0 (And.intro c1 c2))
    clear c0 c1 c2
    go_enter Try.func8, Try.ntmps8
    go_upto_region 1 with fail
    generalize World.alloc (World.alloc w _) _ = W at *
    have p0 := hK.tl.hd.cell 0
    have p1 := hK.tl.hd.cell 1
    have p2 := hK.tl.hd.cell 2
    go_wp2_with fail
    refine (HZ.out _ hK.below).mono ?_
    rintro e w1 ⟨rfl, hq⟩
    replace hK := hK.keep hq
    clear p0 p1 p2 hq
    have p0 := hK.tl.hd.cell 0
    have p1 := hK.tl.hd.cell 1
    have p2 := hK.tl.hd.cell 2
    have q0 := hK.hd.cell 0
    have q1 := hK.hd.cell 1
    have q2 := hK.hd.cell 2
    go_wp2_with fail
    refine (HD.out _ hK.below).mono ?_
    rintro e w2 ⟨rfl, hq⟩
    replace hK := hK.keep hq
    clear p0 p1 p2 q0 q1 q2 hq
    go_upto_region 4 with fail
    have hz1 := hK.hd.lt
    replace hK := hK.push #[.int .u8 t, .int .i64 n, .bool bo] 48
    generalize hvb : w2.heap.size = vb at *
    generalize w2.alloc _ = W2 at *
    clear hvb
    have hv1 : vb < W2.heap.size := hK.hd.lt
    have hv2 : w.heap.size + 1 < W2.heap.size := hK.tl.hd.lt
    have hvw : w.heap.size ≤ W2.heap.size := by omega
    have hne4 : ∀ y ∈ ([(vb, 48, #[.int .u8 t, .int .i64 n, .bool bo]), (w.heap.size + 1, 45, #[.int .i64 env.key, .int .i64 env.val, .int .i64 env.acc]), (w.heap.size, 35, #[.int .u8 xo, .int .i64 xn, .slice (some ⟨b, off, none⟩) l.length cap])] : List (Nat × TypeId × Array Value)), y.1 ≠ W2.heap.size := by
      intro y hy
      simp only [List.mem_cons, List.not_mem_nil, or_false] at hy
      rcases hy with rfl | rfl | rfl
      · show vb ≠ _; omega
      · show w.heap.size + 1 ≠ _; omega
      · show w.heap.size ≠ _; omega
    go_cut [9, 10] (fun p9 p10 wx => ∃ vab : Nat, p9 = .pointer (some ⟨vab, 0, none⟩) ∧ p10 = .int .i64 ea ∧ KB w wx ((vab, 48, #[.int .u8 ta, .int .i64 na, .bool ba]) :: [(vb, 48, #[.int .u8 t, .int .i64 n, .bool bo]), (w.heap.size + 1, 45, #[.int .i64 env.key, .int .i64 env.val, .int .i64 env.acc]), (w.heap.size, 35, #[.int .u8 xo, .int .i64 xn, .slice (some ⟨b, off, none⟩) l.length cap])]))
    case first =>
      refine wp_region_held_drew (S := (fun w' => KB w w' [(vb, 48, #[.int .u8 t, .int .i64 n, .bool bo]), (w.heap.size + 1, 45, #[.int .i64 env.key, .int .i64 env.val, .int .i64 env.acc]), (w.heap.size, 35, #[.int .u8 xo, .int .i64 xn, .slice (some ⟨b, off, none⟩) l.length cap])])) (by kernel_rfl) ?_ (fun hHeld => ?_)
      · exact hK.drew
      refine wpAnyH_take (i := 0) (oi := _) (v := ?_) rfl (by kernel_rfl) (by kernel_rfl) (by kernel_rfl) (fun _ _ _ h => h) (Or.inl ⟨by rfl, ?_⟩) (by assumption) ?_
      rotate_left
      · intro w' hSw
        (try dsimp only at hSw)
        obtain ⟨c0, c1, c2⟩ := HC.out
        have C0 := (hSw.below.cell (p := ⟨b, off + k * 3, none⟩) hb).trans c0
        have C1 := (hSw.below.cell (p := ⟨b, off + k * 3 + 1, none⟩) hb).trans c1
        have C2 := (hSw.below.cell (p := ⟨b, off + k * 3 + 2, none⟩) hb).trans c2
        have q0 := hSw.tl.hd.cell 0
        have q1 := hSw.tl.hd.cell 1
        have q2 := hSw.tl.hd.cell 2
        have p2 := hSw.tl.tl.hd.cell 2
        clear c0 c1 c2 hSw
        go_simp
        try with_reducible rfl
      try simp only [Act.put, List.getElem_toArray, List.getElem_cons_zero, List.setIfInBounds_toArray, List.set_cons_zero, List.set_cons_succ]
      refine wpAnyH_take (i := 1) (oi := _) (v := ?_) rfl (by kernel_rfl) (by kernel_rfl) (by kernel_rfl) (fun _ _ _ h => h) (Or.inl ⟨by rfl, ?_⟩) (by assumption) ?_
      rotate_left
      · intro w' hSw
        (try dsimp only at hSw)
        obtain ⟨c0, c1, c2⟩ := HC.out
        have C0 := (hSw.below.cell (p := ⟨b, off + k * 3, none⟩) hb).trans c0
        have C1 := (hSw.below.cell (p := ⟨b, off + k * 3 + 1, none⟩) hb).trans c1
        have C2 := (hSw.below.cell (p := ⟨b, off + k * 3 + 2, none⟩) hb).trans c2
        have q0 := hSw.tl.hd.cell 0
        have q1 := hSw.tl.hd.cell 1
        have q2 := hSw.tl.hd.cell 2
        have p2 := hSw.tl.tl.hd.cell 2
        clear c0 c1 c2 hSw
        go_simp
        try with_reducible rfl
      try simp only [Act.put, List.getElem_toArray, List.getElem_cons_zero, List.getElem_cons_succ, List.setIfInBounds_toArray, List.set_cons_zero, List.set_cons_succ]
      refine wpAnyH_take (i := 2) (oi := _) (v := ?_) rfl (by kernel_rfl) (by kernel_rfl) (by kernel_rfl) (fun _ _ _ h => h) (Or.inl ⟨by rfl, ?_⟩) (by assumption) ?_
      rotate_left
      · intro w' hSw
        (try dsimp only at hSw)
        obtain ⟨c0, c1, c2⟩ := HC.out
        have C0 := (hSw.below.cell (p := ⟨b, off + k * 3, none⟩) hb).trans c0
        have C1 := (hSw.below.cell (p := ⟨b, off + k * 3 + 1, none⟩) hb).trans c1
        have C2 := (hSw.below.cell (p := ⟨b, off + k * 3 + 2, none⟩) hb).trans c2
        have q0 := hSw.tl.hd.cell 0
        have q1 := hSw.tl.hd.cell 1
        have q2 := hSw.tl.hd.cell 2
        have p2 := hSw.tl.tl.hd.cell 2
        clear c0 c1 c2 hSw
        go_simp
        try with_reducible rfl
      try simp only [Act.put, List.getElem_toArray, List.getElem_cons_zero, List.getElem_cons_succ, List.setIfInBounds_toArray, List.set_cons_zero, List.set_cons_succ]
      refine wpAnyH_take (i := 3) (oi := _) (v := ?_) rfl (by kernel_rfl) (by kernel_rfl) (by kernel_rfl) (fun _ _ _ h => h) (Or.inl ⟨by rfl, ?_⟩) (by assumption) ?_
      rotate_left
      · intro w' hSw
        (try dsimp only at hSw)
        obtain ⟨c0, c1, c2⟩ := HC.out
        have C0 := (hSw.below.cell (p := ⟨b, off + k * 3, none⟩) hb).trans c0
        have C1 := (hSw.below.cell (p := ⟨b, off + k * 3 + 1, none⟩) hb).trans c1
        have C2 := (hSw.below.cell (p := ⟨b, off + k * 3 + 2, none⟩) hb).trans c2
        have q0 := hSw.tl.hd.cell 0
        have q1 := hSw.tl.hd.cell 1
        have q2 := hSw.tl.hd.cell 2
        have p2 := hSw.tl.tl.hd.cell 2
        clear c0 c1 c2 hSw
        go_simp
        try with_reducible rfl
      try simp only [Act.put, List.getElem_toArray, List.getElem_cons_zero, List.getElem_cons_succ, List.setIfInBounds_toArray, List.set_cons_zero, List.set_cons_succ]
      refine wpAnyH_take (i := 4) (oi := _) (v := ?_) rfl (by kernel_rfl) (by kernel_rfl) (by kernel_rfl) (fun _ _ _ h => h) (Or.inl ⟨by rfl, ?_⟩) (by assumption) ?_
      rotate_left
      · intro w' hSw
        (try dsimp only at hSw)
        obtain ⟨c0, c1, c2⟩ := HC.out
        have C0 := (hSw.below.cell (p := ⟨b, off + k * 3, none⟩) hb).trans c0
        have C1 := (hSw.below.cell (p := ⟨b, off + k * 3 + 1, none⟩) hb).trans c1
        have C2 := (hSw.below.cell (p := ⟨b, off + k * 3 + 2, none⟩) hb).trans c2
        have q0 := hSw.tl.hd.cell 0
        have q1 := hSw.tl.hd.cell 1
        have q2 := hSw.tl.hd.cell 2
        have p2 := hSw.tl.tl.hd.cell 2
        clear c0 c1 c2 hSw
        go_simp
        try with_reducible rfl
      try simp only [Act.put, List.getElem_toArray, List.getElem_cons_zero, List.getElem_cons_succ, List.setIfInBounds_toArray, List.set_cons_zero, List.set_cons_succ]
      refine wpAnyH_take (i := 5) (oi := _) (v := ?_) rfl (by kernel_rfl) (by kernel_rfl) (by kernel_rfl) (fun _ _ _ h => h) (Or.inl ⟨by rfl, ?_⟩) (by assumption) ?_
      rotate_left
      · intro w' hSw
        (try dsimp only at hSw)
        obtain ⟨c0, c1, c2⟩ := HC.out
        have C0 := (hSw.below.cell (p := ⟨b, off + k * 3, none⟩) hb).trans c0
        have C1 := (hSw.below.cell (p := ⟨b, off + k * 3 + 1, none⟩) hb).trans c1
        have C2 := (hSw.below.cell (p := ⟨b, off + k * 3 + 2, none⟩) hb).trans c2
        have q0 := hSw.tl.hd.cell 0
        have q1 := hSw.tl.hd.cell 1
        have q2 := hSw.tl.hd.cell 2
        have p2 := hSw.tl.tl.hd.cell 2
        clear c0 c1 c2 hSw
        go_simp
        try with_reducible rfl
      try simp only [Act.put, List.getElem_toArray, List.getElem_cons_zero, List.getElem_cons_succ, List.setIfInBounds_toArray, List.set_cons_zero, List.set_cons_succ]
      refine wpAnyH_ready (rs := [6, 10]) (by kernel_rfl) (by simp) ?_
      refine AllReadyH.cons rfl (fun K hK => ?_) (AllReadyH.cons rfl (fun K hK => ?_) (AllReadyH.nil))
      · go_simp
        go_at_call 25
        refine (HDA.out _ hHeld.below).mono ?_
        rintro e w3 ⟨rfl, hq3⟩
        have hK3 := hHeld.keep hq3
        refine hK.out _ _ ?_ (fun hHeld => ?_)
        · exact hK3
        clear hK K
        try simp only [Act.put, List.getElem_toArray, List.getElem_cons_zero, List.getElem_cons_succ, List.setIfInBounds_toArray, List.set_cons_zero, List.set_cons_succ]
        refine wpAnyH_take (i := 7) (oi := _) (v := ?_) rfl (by kernel_rfl) (by kernel_rfl) (by kernel_rfl) (fun _ _ _ h => h) (Or.inl ⟨by rfl, ?_⟩) (by assumption) ?_
        rotate_left
        · intro w' hSw
          (try dsimp only at hSw)
          obtain ⟨c0, c1, c2⟩ := HC.out
          have C0 := (hSw.below.cell (p := ⟨b, off + k * 3, none⟩) hb).trans c0
          have C1 := (hSw.below.cell (p := ⟨b, off + k * 3 + 1, none⟩) hb).trans c1
          have C2 := (hSw.below.cell (p := ⟨b, off + k * 3 + 2, none⟩) hb).trans c2
          have q0 := hSw.tl.hd.cell 0
          have q1 := hSw.tl.hd.cell 1
          have q2 := hSw.tl.hd.cell 2
          have p2 := hSw.tl.tl.hd.cell 2
          clear c0 c1 c2 hSw
          go_simp
          try with_reducible rfl
        try simp only [Act.put, List.getElem_toArray, List.getElem_cons_zero, List.getElem_cons_succ, List.setIfInBounds_toArray, List.set_cons_zero, List.set_cons_succ]
        refine wpAnyH_take (i := 8) (oi := _) (v := ?_) rfl (by kernel_rfl) (by kernel_rfl) (by kernel_rfl) (fun _ _ _ h => h) (Or.inl ⟨by rfl, ?_⟩) (by assumption) ?_
        rotate_left
        · intro w' hSw
          (try dsimp only at hSw)
          obtain ⟨c0, c1, c2⟩ := HC.out
          have C0 := (hSw.below.cell (p := ⟨b, off + k * 3, none⟩) hb).trans c0
          have C1 := (hSw.below.cell (p := ⟨b, off + k * 3 + 1, none⟩) hb).trans c1
          have C2 := (hSw.below.cell (p := ⟨b, off + k * 3 + 2, none⟩) hb).trans c2
          have q0 := hSw.tl.hd.cell 0
          have q1 := hSw.tl.hd.cell 1
          have q2 := hSw.tl.hd.cell 2
          have p2 := hSw.tl.tl.hd.cell 2
          clear c0 c1 c2 hSw
          go_simp
          try with_reducible rfl
        try simp only [Act.put, List.getElem_toArray, List.getElem_cons_zero, List.getElem_cons_succ, List.setIfInBounds_toArray, List.set_cons_zero, List.set_cons_succ]
        refine wpAnyH_take (i := 9) (oi := _) (v := ?_) rfl (by kernel_rfl) (by kernel_rfl) (by kernel_rfl) (fun _ _ _ h => h) (Or.inl ⟨by rfl, ?_⟩) (by assumption) ?_
        rotate_left
        · intro w' hSw
          (try dsimp only at hSw)
          obtain ⟨c0, c1, c2⟩ := HC.out
          have C0 := (hSw.below.cell (p := ⟨b, off + k * 3, none⟩) hb).trans c0
          have C1 := (hSw.below.cell (p := ⟨b, off + k * 3 + 1, none⟩) hb).trans c1
          have C2 := (hSw.below.cell (p := ⟨b, off + k * 3 + 2, none⟩) hb).trans c2
          have q0 := hSw.tl.hd.cell 0
          have q1 := hSw.tl.hd.cell 1
          have q2 := hSw.tl.hd.cell 2
          have p2 := hSw.tl.tl.hd.cell 2
          clear c0 c1 c2 hSw
          go_simp
          try with_reducible rfl
        try simp only [Act.put, List.getElem_toArray, List.getElem_cons_zero, List.getElem_cons_succ, List.setIfInBounds_toArray, List.set_cons_zero, List.set_cons_succ]
        refine wpAnyH_ready (rs := [10]) (by kernel_rfl) (by simp) ?_
        refine AllReadyH.cons rfl (fun K hK => ?_) AllReadyH.nil
        go_simp
        refine hK.out _ _ ?_ (fun hHeld => ?_)
        · exact hK3.grow _
        clear hK K
        try simp only [Act.put, List.getElem_toArray, List.getElem_cons_zero, List.getElem_cons_succ, List.setIfInBounds_toArray, List.set_cons_zero, List.set_cons_succ]
        refine wpAnyH_ready (rs := [11]) (by kernel_rfl) (by simp) ?_
        refine AllReadyH.cons rfl (fun K hK => ?_) AllReadyH.nil
        go_simp
        refine hK.out _ _ ?_ (fun hHeld => ?_)
        · exact hK3.grow _
        clear hK K
        try simp only [Act.put, List.getElem_toArray, List.getElem_cons_zero, List.getElem_cons_succ, List.setIfInBounds_toArray, List.set_cons_zero, List.set_cons_succ]
        refine wpAnyH_take (i := 12) (oi := _) (v := ?_) rfl (by kernel_rfl) (by kernel_rfl) (by kernel_rfl) (fun _ _ _ h => h) (Or.inl ⟨by rfl, ?_⟩) (by assumption) ?_
        rotate_left
        · intro w' hSw
          (try dsimp only at hSw)
          obtain ⟨c0, c1, c2⟩ := HC.out
          have C0 := (hSw.below.cell (p := ⟨b, off + k * 3, none⟩) hb).trans c0
          have C1 := (hSw.below.cell (p := ⟨b, off + k * 3 + 1, none⟩) hb).trans c1
          have C2 := (hSw.below.cell (p := ⟨b, off + k * 3 + 2, none⟩) hb).trans c2
          have q0 := hSw.tl.hd.cell 0
          have q1 := hSw.tl.hd.cell 1
          have q2 := hSw.tl.hd.cell 2
          have p2 := hSw.tl.tl.hd.cell 2
          clear c0 c1 c2 hSw
          go_simp
          try with_reducible rfl
        try simp only [Act.put, List.getElem_toArray, List.getElem_cons_zero, List.getElem_cons_succ, List.setIfInBounds_toArray, List.set_cons_zero, List.set_cons_succ]
        refine wpAnyH_done (by kernel_rfl) ?_ _
        go_wp2_with fail
        go_meet
        exact ⟨_, rfl, rfl, hK3.push _ _⟩
      · go_simp
        have hKB : KB w _ ((W2.heap.size, 48, #[.int .u8 0, .int .i64 0, .bool false]) :: [(vb, 48, #[.int .u8 t, .int .i64 n, .bool bo]), (w.heap.size + 1, 45, #[.int .i64 env.key, .int .i64 env.val, .int .i64 env.acc]), (w.heap.size, 35, #[.int .u8 xo, .int .i64 xn, .slice (some ⟨b, off, none⟩) l.length cap])]) := hHeld.push #[.int .u8 0, .int .i64 0, .bool false] 48
        refine hK.out _ _ ?_ (fun hHeld => ?_)
        · exact hHeld.grow _
        clear hK K
        try simp only [Act.put, List.getElem_toArray, List.getElem_cons_zero, List.getElem_cons_succ, List.setIfInBounds_toArray, List.set_cons_zero, List.set_cons_succ]
        refine wpAnyH_ready (rs := [6]) (by kernel_rfl) (by simp) ?_
        refine AllReadyH.cons rfl (fun K hK => ?_) AllReadyH.nil
        go_simp
        go_at_call 25
        refine (HDA.out _ hHeld.below).mono ?_
        rintro e w3 ⟨rfl, hq3⟩
        have hK3 := hKB.keep hq3
        have z0 := hK3.hd.free 0
        have z1 := hK3.hd.free 1
        have z2 := hK3.hd.free 2
        have x0 := hK3.hd.cell 0
        have x1 := hK3.hd.cell 1
        have x2 := hK3.hd.cell 2
        have hK4 : KB w _ ((W2.heap.size, 48, #[.int .u8 ta, .int .i64 na, .bool ba]) :: [(vb, 48, #[.int .u8 t, .int .i64 n, .bool bo]), (w.heap.size + 1, 45, #[.int .i64 env.key, .int .i64 env.val, .int .i64 env.acc]), (w.heap.size, 35, #[.int .u8 xo, .int .i64 xn, .slice (some ⟨b, off, none⟩) l.length cap])]) := ((hK3.set hvw hne4 0 (.int .u8 ta)).set hvw hne4 1 (.int .i64 na)).set hvw hne4 2 (.bool ba)
        refine hK.out _ _ ?_ (fun hHeld => ?_)
        · exact hK3.tl
        clear hK K
        try simp only [Act.put, List.getElem_toArray, List.getElem_cons_zero, List.getElem_cons_succ, List.setIfInBounds_toArray, List.set_cons_zero, List.set_cons_succ]
        refine wpAnyH_take (i := 7) (oi := _) (v := ?_) rfl (by kernel_rfl) (by kernel_rfl) (by kernel_rfl) (fun _ _ _ h => h) (Or.inl ⟨by rfl, ?_⟩) (by assumption) ?_
        rotate_left
        · intro w' hSw
          (try dsimp only at hSw)
          obtain ⟨c0, c1, c2⟩ := HC.out
          have C0 := (hSw.below.cell (p := ⟨b, off + k * 3, none⟩) hb).trans c0
          have C1 := (hSw.below.cell (p := ⟨b, off + k * 3 + 1, none⟩) hb).trans c1
          have C2 := (hSw.below.cell (p := ⟨b, off + k * 3 + 2, none⟩) hb).trans c2
          have q0 := hSw.tl.hd.cell 0
          have q1 := hSw.tl.hd.cell 1
          have q2 := hSw.tl.hd.cell 2
          have p2 := hSw.tl.tl.hd.cell 2
          clear c0 c1 c2 hSw
          go_simp
          try with_reducible rfl
        try simp only [Act.put, List.getElem_toArray, List.getElem_cons_zero, List.getElem_cons_succ, List.setIfInBounds_toArray, List.set_cons_zero, List.set_cons_succ]
        refine wpAnyH_take (i := 8) (oi := _) (v := ?_) rfl (by kernel_rfl) (by kernel_rfl) (by kernel_rfl) (fun _ _ _ h => h) (Or.inl ⟨by rfl, ?_⟩) (by assumption) ?_
        rotate_left
        · intro w' hSw
          (try dsimp only at hSw)
          obtain ⟨c0, c1, c2⟩ := HC.out
          have C0 := (hSw.below.cell (p := ⟨b, off + k * 3, none⟩) hb).trans c0
          have C1 := (hSw.below.cell (p := ⟨b, off + k * 3 + 1, none⟩) hb).trans c1
          have C2 := (hSw.below.cell (p := ⟨b, off + k * 3 + 2, none⟩) hb).trans c2
          have q0 := hSw.tl.hd.cell 0
          have q1 := hSw.tl.hd.cell 1
          have q2 := hSw.tl.hd.cell 2
          have p2 := hSw.tl.tl.hd.cell 2
          clear c0 c1 c2 hSw
          go_simp
          try with_reducible rfl
        try simp only [Act.put, List.getElem_toArray, List.getElem_cons_zero, List.getElem_cons_succ, List.setIfInBounds_toArray, List.set_cons_zero, List.set_cons_succ]
        refine wpAnyH_take (i := 9) (oi := _) (v := ?_) rfl (by kernel_rfl) (by kernel_rfl) (by kernel_rfl) (fun _ _ _ h => h) (Or.inl ⟨by rfl, ?_⟩) (by assumption) ?_
        rotate_left
        · intro w' hSw
          (try dsimp only at hSw)
          obtain ⟨c0, c1, c2⟩ := HC.out
          have C0 := (hSw.below.cell (p := ⟨b, off + k * 3, none⟩) hb).trans c0
          have C1 := (hSw.below.cell (p := ⟨b, off + k * 3 + 1, none⟩) hb).trans c1
          have C2 := (hSw.below.cell (p := ⟨b, off + k * 3 + 2, none⟩) hb).trans c2
          have q0 := hSw.tl.hd.cell 0
          have q1 := hSw.tl.hd.cell 1
          have q2 := hSw.tl.hd.cell 2
          have p2 := hSw.tl.tl.hd.cell 2
          clear c0 c1 c2 hSw
          go_simp
          try with_reducible rfl
        try simp only [Act.put, List.getElem_toArray, List.getElem_cons_zero, List.getElem_cons_succ, List.setIfInBounds_toArray, List.set_cons_zero, List.set_cons_succ]
        refine wpAnyH_ready (rs := [11]) (by kernel_rfl) (by simp) ?_
        refine AllReadyH.cons rfl (fun K hK => ?_) AllReadyH.nil
        go_simp
        refine hK.out _ _ ?_ (fun hHeld => ?_)
        · exact hK4.tl
        clear hK K
        try simp only [Act.put, List.getElem_toArray, List.getElem_cons_zero, List.getElem_cons_succ, List.setIfInBounds_toArray, List.set_cons_zero, List.set_cons_succ]
        refine wpAnyH_take (i := 12) (oi := _) (v := ?_) rfl (by kernel_rfl) (by kernel_rfl) (by kernel_rfl) (fun _ _ _ h => h) (Or.inl ⟨by rfl, ?_⟩) (by assumption) ?_
        rotate_left
        · intro w' hSw
          (try dsimp only at hSw)
          obtain ⟨c0, c1, c2⟩ := HC.out
          have C0 := (hSw.below.cell (p := ⟨b, off + k * 3, none⟩) hb).trans c0
          have C1 := (hSw.below.cell (p := ⟨b, off + k * 3 + 1, none⟩) hb).trans c1
          have C2 := (hSw.below.cell (p := ⟨b, off + k * 3 + 2, none⟩) hb).trans c2
          have q0 := hSw.tl.hd.cell 0
          have q1 := hSw.tl.hd.cell 1
          have q2 := hSw.tl.hd.cell 2
          have p2 := hSw.tl.tl.hd.cell 2
          clear c0 c1 c2 hSw
          go_simp
          try with_reducible rfl
        try simp only [Act.put, List.getElem_toArray, List.getElem_cons_zero, List.getElem_cons_succ, List.setIfInBounds_toArray, List.set_cons_zero, List.set_cons_succ]
        refine wpAnyH_done (by kernel_rfl) ?_ _
        go_wp2_with fail
        go_meet
        exact ⟨_, rfl, rfl, hK4⟩
    case rest =>
      obtain ⟨vab, rfl, rfl, hK⟩ := hcut
      by_cases he : er = 0
      · obtain ⟨hea, hta, hn0, HYL⟩ := HPL.out he
        have HY := Lib.hid HYL
        have hnr := hna hea
        have hl3 := HL3.out he
        subst he
        subst hea
        clear HPL HNE HYL hna
        by_cases hneg : na < 0
        · obtain rfl : ta = 1 := by
            rcases hta with h | h
            · exact h
            · have := hn0 h; omega
          have hmxe : max na 0 = 0 := by omega
          have hng : decide (na < 0) = true := decide_eq_true hneg
          have a0 := hK.hd.cell 0
          have a1 := hK.hd.cell 1
          have a2 := hK.hd.cell 2
          go_upto_region 10 with fail
          replace hK := hK.push #[.int .u8 1, .int .i64 0, .slice none 0 0] 35
          generalize hbyb : wc.heap.size = byb at *
          generalize wc.alloc _ = W10 at *
          clear a0 a1 a2
          have a0 := hK.tl.hd.cell 0
          have a1 := hK.tl.hd.cell 1
          have a2 := hK.tl.hd.cell 2
          go_wp2_with fail
          refine (HWK.out _).mono ?_
          rintro e w5 ⟨rfl, hq5⟩
          go_wp2_with fail
          go_ret
          exact ⟨rfl, (hK.keep hq5).below⟩
        · have hmxe : max na 0 = na := by omega
          have hng : decide (na < 0) = false := decide_eq_false hneg
          have a0 := hK.hd.cell 0
          have a1 := hK.hd.cell 1
          have a2 := hK.hd.cell 2
          have hl1 : vab < wc.heap.size := hK.hd.lt
          have hl2 : vb < wc.heap.size := hK.tl.hd.lt
          have hl3 : w.heap.size + 1 < wc.heap.size := hK.tl.tl.hd.lt
          go_upto_region 10 with fail
          replace hK := hK.push #[.int .u8 1, .int .i64 na, .slice none 0 0] 35
          generalize hbyb : wc.heap.size = byb at *
          generalize wc.alloc _ = W10 at *
          clear a0 a1 a2
          have a0 := hK.tl.hd.cell 0
          have a1 := hK.tl.hd.cell 1
          have a2 := hK.tl.hd.cell 2
          go_upto_if 61 with fail
          go_cut [] (fun wx => ∃ bsv, KB w wx ((byb, 35, #[.int .u8 (byE ta na ba).op, .int .i64 (byE ta na ba).n, bsv]) :: (vab, 48, #[.int .u8 ta, .int .i64 na, .bool ba]) :: [(vb, 48, #[.int .u8 t, .int .i64 n, .bool bo]), (w.heap.size + 1, 45, #[.int .i64 env.key, .int .i64 env.val, .int .i64 env.acc]), (w.heap.size, 35, #[.int .u8 xo, .int .i64 xn, .slice (some ⟨b, off, none⟩) l.length cap])]) ∧ ArgsAt wx wx.heap.size (byE ta na ba).args bsv)
          case first =>
            rcases hta with rfl | rfl
            · go_wp2_with fail
              go_meet
              have hby : byE 1 na ba = .mk 1 na [] := by unfold byE; rw [if_neg (by decide)]
              rw [hby]
              exact ⟨.slice none 0 0, hK, .nil _ _ (Nat.zero_le _)⟩
            · obtain rfl : na = 0 := hn0 rfl
              have hzb := hK.hd.lt
              have y0 := hK.hd.cell 0
              have y1 := hK.hd.cell 1
              have y2 := hK.hd.cell 2
              have z0 := hK.hd.free 0
              have z1 := hK.hd.free 1
              have z2 := hK.hd.free 2
              have hw1 : w.heap.size ≤ byb := by omega
              have hw2 : w.heap.size ≤ W10.heap.size := by omega
              have hn1 : ∀ y ∈ ([(vab, 48, #[.int .u8 2, .int .i64 0, .bool ba]), (vb, 48, #[.int .u8 t, .int .i64 n, .bool bo]), (w.heap.size + 1, 45, #[.int .i64 env.key, .int .i64 env.val, .int .i64 env.acc]), (w.heap.size, 35, #[.int .u8 xo, .int .i64 xn, .slice (some ⟨b, off, none⟩) l.length cap])] : List (Nat × TypeId × Array Value)), y.1 ≠ byb := by
                intro y hy
                simp only [List.mem_cons, List.not_mem_nil, or_false] at hy
                rcases hy with rfl | rfl | rfl | rfl <;> dsimp only <;> omega
              have hK12 := (((hK.set hw1 hn1 0 (.int .u8 14)).set hw1 hn1 1 (.int .i64 0)).set hw1 hn1 2 (.slice (some ⟨W10.heap.size, 0, none⟩) 2 2)).pushN W10.heap.size (by simp) #[.int .u8 1, .int .i64 0, .slice none 0 0, .int .u8 1, .int .i64 1, .slice none 0 0] 35
              go_upto_region 12 with fail
              generalize hs0 : W10.heap.size = s0 at *
              generalize World.alloc _ _ = W12 at *
              clear y0 y1 y2 z0 z1 z2 a0 a1 a2
              have b2 := hK12.tl.tl.hd.cell 2
              have y2 := hK12.tl.hd.cell 2
              have s4 := hK12.hd.cell 4
              have f4 := hK12.hd.free 4
              cases ba
              · go_wp2_with fail
                go_meet
                have hby : byE 2 0 false = .mk 14 0 [.mk 1 0 [], .mk 1 1 []] := by simp [byE]
                rw [hby]
                exact ⟨.slice (some ⟨s0, 0, none⟩) 2 2, hK12.tl, ArgsAt.two (x := .mk 1 0 []) (y := .mk 1 1 []) hK12.hd hK12.hd.lt (.nil _ _ (Nat.zero_le _)) (.nil _ _ (Nat.zero_le _))⟩
              · go_wp2_with fail
                go_meet
                have hby : byE 2 0 true = .mk 14 0 [.mk 1 0 [], .mk 1 0 []] := by simp [byE]
                rw [hby]
                have hne2 : ∀ y ∈ ([(byb, 35, #[.int .u8 14, .int .i64 0, .slice (some ⟨s0, 0, none⟩) 2 2]), (vab, 48, #[.int .u8 2, .int .i64 0, .bool true]), (vb, 48, #[.int .u8 t, .int .i64 n, .bool bo]), (w.heap.size + 1, 45, #[.int .i64 env.key, .int .i64 env.val, .int .i64 env.acc]), (w.heap.size, 35, #[.int .u8 xo, .int .i64 xn, .slice (some ⟨b, off, none⟩) l.length cap])] : List (Nat × TypeId × Array Value)), y.1 ≠ s0 := by
                  intro y hy
                  simp only [List.mem_cons, List.not_mem_nil, or_false] at hy
                  rcases hy with rfl | rfl | rfl | rfl | rfl <;> dsimp only <;> omega
                have hK13 := hK12.set hw2 hne2 4 (.int .i64 0)
                exact ⟨.slice (some ⟨s0, 0, none⟩) 2 2, hK13.tl, ArgsAt.two (x := .mk 1 0 []) (y := .mk 1 0 []) hK13.hd hK13.hd.lt (.nil _ _ (Nat.zero_le _)) (.nil _ _ (Nat.zero_le _))⟩
          case rest =>
            rename World => wb
            obtain ⟨bsv, hK, hAY⟩ := hcut
            have a1 := hK.tl.hd.cell 1
            go_upto_region 16 with fail
            clear a1
            have hKc : KB wb wb ((byb, 35, #[.int .u8 (byE ta na ba).op, .int .i64 (byE ta na ba).n, bsv]) :: (vab, 48, #[.int .u8 ta, .int .i64 na, .bool ba]) :: [(vb, 48, #[.int .u8 t, .int .i64 n, .bool bo]), (w.heap.size + 1, 45, #[.int .i64 env.key, .int .i64 env.val, .int .i64 env.acc]), (w.heap.size, 35, #[.int .u8 xo, .int .i64 xn, .slice (some ⟨b, off, none⟩) l.length cap])]) := ⟨Below.refl _ _, hK.blk⟩
            have hn5 : ∀ y ∈ ((byb, 35, #[.int .u8 (byE ta na ba).op, .int .i64 (byE ta na ba).n, bsv]) :: (vab, 48, #[.int .u8 ta, .int .i64 na, .bool ba]) :: [(vb, 48, #[.int .u8 t, .int .i64 n, .bool bo]), (w.heap.size + 1, 45, #[.int .i64 env.key, .int .i64 env.val, .int .i64 env.acc]), (w.heap.size, 35, #[.int .u8 xo, .int .i64 xn, .slice (some ⟨b, off, none⟩) l.length cap])] : List (Nat × TypeId × Array Value)), y.1 < wb.heap.size := fun y hy => (hK.blk y hy).lt
            have hbc : b < wb.heap.size := Nat.lt_of_lt_of_le hb hK.below.size
            have HCEL : Hid (∀ j, j < l.length * 3 → ∃ u, wb.cell? ⟨b, off + j, none⟩ = some u ∧ u.oneCell' = true) := ((HS.out.keep hK.below).mono hK.below.size).cells
            go_cut [12] (fun p12 wx => ∃ (yb g capg : Nat) (cur : Array Value), p12 = .pointer (some ⟨yb, 0, none⟩) ∧ KB wb wx ((yb, 35, #[.int .u8 xo, .int .i64 0, .slice (some ⟨g, 0, none⟩) l.length capg]) :: (byb, 35, #[.int .u8 (byE ta na ba).op, .int .i64 (byE ta na ba).n, bsv]) :: (vab, 48, #[.int .u8 ta, .int .i64 na, .bool ba]) :: [(vb, 48, #[.int .u8 t, .int .i64 n, .bool bo]), (w.heap.size + 1, 45, #[.int .i64 env.key, .int .i64 env.val, .int .i64 env.acc]), (w.heap.size, 35, #[.int .u8 xo, .int .i64 xn, .slice (some ⟨b, off, none⟩) l.length cap])]) ∧ Blk wx g 35 cur ∧ wb.heap.size ≤ g ∧ g ≠ yb ∧ wb.heap.size ≤ yb ∧ l.length ≤ capg ∧ capg ≤ maxLen ∧ ∀ j, j < l.length * 3 → cur[j]? = wb.cell? ⟨b, off + j, none⟩)
            case first =>
              refine wp_region_held_drew (S := (fun w' => KB wb w' ((byb, 35, #[.int .u8 (byE ta na ba).op, .int .i64 (byE ta na ba).n, bsv]) :: (vab, 48, #[.int .u8 ta, .int .i64 na, .bool ba]) :: [(vb, 48, #[.int .u8 t, .int .i64 n, .bool bo]), (w.heap.size + 1, 45, #[.int .i64 env.key, .int .i64 env.val, .int .i64 env.acc]), (w.heap.size, 35, #[.int .u8 xo, .int .i64 xn, .slice (some ⟨b, off, none⟩) l.length cap])]))) (by kernel_rfl) ?_ (fun hHeld => ?_)
              · exact hKc.drew
              refine wpAnyH_take (i := 0) (oi := _) (v := ?_) rfl (by kernel_rfl) (by kernel_rfl) (by kernel_rfl) (fun _ _ _ h => h) (Or.inl ⟨by rfl, ?_⟩) (by assumption) ?_
              rotate_left
              · intro w' hSw
                (try dsimp only at hSw)
                have p0 := hSw.tl.tl.tl.tl.hd.cell 0
                have p2 := hSw.tl.tl.tl.tl.hd.cell 2
                clear hSw
                go_simp
                try with_reducible rfl
              try simp only [Act.put, List.getElem_toArray, List.getElem_cons_zero, List.setIfInBounds_toArray, List.set_cons_zero, List.set_cons_succ]
              refine wpAnyH_take (i := 1) (oi := _) (v := ?_) rfl (by kernel_rfl) (by kernel_rfl) (by kernel_rfl) (fun _ _ _ h => h) (Or.inl ⟨by rfl, ?_⟩) (by assumption) ?_
              rotate_left
              · intro w' hSw
                (try dsimp only at hSw)
                have p0 := hSw.tl.tl.tl.tl.hd.cell 0
                have p2 := hSw.tl.tl.tl.tl.hd.cell 2
                clear hSw
                go_simp
                try with_reducible rfl
              try simp only [Act.put, List.getElem_toArray, List.getElem_cons_zero, List.getElem_cons_succ, List.setIfInBounds_toArray, List.set_cons_zero, List.set_cons_succ]
              refine wpAnyH_take (i := 3) (oi := _) (v := ?_) rfl (by kernel_rfl) (by kernel_rfl) (by kernel_rfl) (fun _ _ _ h => h) (Or.inl ⟨by rfl, ?_⟩) (by assumption) ?_
              rotate_left
              · intro w' hSw
                (try dsimp only at hSw)
                have p0 := hSw.tl.tl.tl.tl.hd.cell 0
                have p2 := hSw.tl.tl.tl.tl.hd.cell 2
                clear hSw
                go_simp
                try with_reducible rfl
              try simp only [Act.put, List.getElem_toArray, List.getElem_cons_zero, List.getElem_cons_succ, List.setIfInBounds_toArray, List.set_cons_zero, List.set_cons_succ]
              refine wpAnyH_take (i := 4) (oi := _) (v := ?_) rfl (by kernel_rfl) (by kernel_rfl) (by kernel_rfl) (fun _ _ _ h => h) (Or.inl ⟨by rfl, ?_⟩) (by assumption) ?_
              rotate_left
              · intro w' hSw
                (try dsimp only at hSw)
                have p0 := hSw.tl.tl.tl.tl.hd.cell 0
                have p2 := hSw.tl.tl.tl.tl.hd.cell 2
                clear hSw
                go_simp
                try with_reducible rfl
              try simp only [Act.put, List.getElem_toArray, List.getElem_cons_zero, List.getElem_cons_succ, List.setIfInBounds_toArray, List.set_cons_zero, List.set_cons_succ]
              refine wpAnyH_ready (rs := [2, 7]) (by kernel_rfl) (by simp) ?_
              refine AllReadyH.cons rfl (fun K hK => ?_) (AllReadyH.cons rfl (fun K hK => ?_) (AllReadyH.nil))
              · go_simp
                have hown0 : ((wb.alloc (.cells #[] 35)).drew).ownsRow wb.heap.size 35 3 (.slice (some ⟨wb.heap.size, 0, none⟩) 0 0) 0 [] := own_empty wb _ _ rfl (Nat.le_refl _) _ _
                refine hK.out _ _ ?_ (fun hHeld => ?_)
                · exact hHeld.grow _
                clear hK K
                try simp only [Act.put, List.getElem_toArray, List.getElem_cons_zero, List.getElem_cons_succ, List.setIfInBounds_toArray, List.set_cons_zero, List.set_cons_succ]
                refine wpAnyH_ready (rs := [5, 7]) (by kernel_rfl) (by simp) ?_
                refine AllReadyH.cons rfl (fun K hK => ?_) (AllReadyH.cons rfl (fun K hK => ?_) (AllReadyH.nil))
                · have hown := hown0
                  have hnews := rowOf_news HCEL.out (fun j hj => (hHeld.below.cell (p := ⟨b, off + j, none⟩) hbc))
                  have hszX := hHeld.below.size
                  refine step_append_lies _ (by rfl) _ _ _ (by rfl) wb.heap.size 35 i0 (.agg #[.int .u8 0, .int .i64 0, .slice none 0 0]) 3 40 Try.underlying33 hi iz0 iz1 iz2 rfl (by decide) (.slice (some ⟨wb.heap.size, 0, none⟩) 0 0) 0 [] (by rfl) hown ⟨b, off, none⟩ l.length cap (rowOf wb b off (l.length * 3)) (by rfl) (rowOf_length _ _ _ _) hnews.1 hnews.2 (by omega) (by unfold maxLen; omega) (by omega) hszX _ rfl ?_
                  intro g capg w4 hown4 hgrow4 hat4 hlt4
                  have hK4 : KB wb w4 ((byb, 35, #[.int .u8 (byE ta na ba).op, .int .i64 (byE ta na ba).n, bsv]) :: (vab, 48, #[.int .u8 ta, .int .i64 na, .bool ba]) :: [(vb, 48, #[.int .u8 t, .int .i64 n, .bool bo]), (w.heap.size + 1, 45, #[.int .i64 env.key, .int .i64 env.val, .int .i64 env.acc]), (w.heap.size, 35, #[.int .u8 xo, .int .i64 xn, .slice (some ⟨b, off, none⟩) l.length cap])]) := by
                    exact hHeld.grown hgrow4 (fun q hq => by simp only [Value.ownBlock, Option.some.injEq] at hq; omega) (fun y hy => by have := hn5 y hy; simp only [Value.ownBlock, ne_eq, Option.some.injEq]; omega)
                  refine hK.out _ _ ?_ (fun hHeld => ?_)
                  · exact hK4
                  clear hK K
                  try simp only [Act.put, List.getElem_toArray, List.getElem_cons_zero, List.getElem_cons_succ, List.setIfInBounds_toArray, List.set_cons_zero, List.set_cons_succ]
                  refine wpAnyH_take (i := 6) (oi := _) (v := ?_) rfl (by kernel_rfl) (by kernel_rfl) (by kernel_rfl) (fun _ _ _ h => h) (Or.inl ⟨by rfl, ?_⟩) (by assumption) ?_
                  rotate_left
                  · intro w' hSw
                    (try dsimp only at hSw)
                    have p0 := hSw.tl.tl.tl.tl.hd.cell 0
                    have p2 := hSw.tl.tl.tl.tl.hd.cell 2
                    clear hSw
                    go_simp
                    try with_reducible rfl
                  try simp only [Act.put, List.getElem_toArray, List.getElem_cons_zero, List.getElem_cons_succ, List.setIfInBounds_toArray, List.set_cons_zero, List.set_cons_succ]
                  refine wpAnyH_ready (rs := [7]) (by kernel_rfl) (by simp) ?_
                  refine AllReadyH.cons rfl (fun K hK => ?_) AllReadyH.nil
                  go_simp
                  refine hK.out _ _ ?_ (fun hHeld => ?_)
                  · exact hK4.grow _
                  clear hK K
                  try simp only [Act.put, List.getElem_toArray, List.getElem_cons_zero, List.getElem_cons_succ, List.setIfInBounds_toArray, List.set_cons_zero, List.set_cons_succ]
                  refine wpAnyH_ready (rs := [8]) (by kernel_rfl) (by simp) ?_
                  refine AllReadyH.cons rfl (fun K hK => ?_) AllReadyH.nil
                  go_simp
                  refine hK.out _ _ ?_ (fun hHeld => ?_)
                  · exact hK4.grow _
                  clear hK K
                  try simp only [Act.put, List.getElem_toArray, List.getElem_cons_zero, List.getElem_cons_succ, List.setIfInBounds_toArray, List.set_cons_zero, List.set_cons_succ]
                  refine wpAnyH_done (by kernel_rfl) ?_ _
                  go_wp2_with fail
                  go_meet
                  obtain ⟨cur, q1, q2, q3, q4, q5⟩ := row_cur hown4 HCEL.out
                  exact ⟨w4.heap.size, g, capg, cur, rfl, hK4.push _ _, q1.alloc _, q2, Nat.ne_of_lt hlt4, hK4.below.size, q3, q4, q5⟩
                · go_simp
                  have hKy : KB wb _ ((wb.heap.size + 1, 35, #[.int .u8 0, .int .i64 0, .slice none 0 0]) :: (byb, 35, #[.int .u8 (byE ta na ba).op, .int .i64 (byE ta na ba).n, bsv]) :: (vab, 48, #[.int .u8 ta, .int .i64 na, .bool ba]) :: [(vb, 48, #[.int .u8 t, .int .i64 n, .bool bo]), (w.heap.size + 1, 45, #[.int .i64 env.key, .int .i64 env.val, .int .i64 env.acc]), (w.heap.size, 35, #[.int .u8 xo, .int .i64 xn, .slice (some ⟨b, off, none⟩) l.length cap])]) := hHeld.pushN (wb.heap.size + 1) (by simp) #[.int .u8 0, .int .i64 0, .slice none 0 0] 35
                  refine hK.out _ _ ?_ (fun hHeld => ?_)
                  · exact hHeld.grow _
                  clear hK K
                  try simp only [Act.put, List.getElem_toArray, List.getElem_cons_zero, List.getElem_cons_succ, List.setIfInBounds_toArray, List.set_cons_zero, List.set_cons_succ]
                  refine wpAnyH_ready (rs := [5]) (by kernel_rfl) (by simp) ?_
                  refine AllReadyH.cons rfl (fun K hK => ?_) AllReadyH.nil
                  have hown := hown0.alloc (.cells #[.int .u8 0, .int .i64 0, .slice none 0 0] 35 (0, 0))
                  have hnews := rowOf_news HCEL.out (fun j hj => (hHeld.below.cell (p := ⟨b, off + j, none⟩) hbc))
                  have hszX := hHeld.below.size
                  refine step_append_lies _ (by rfl) _ _ _ (by rfl) wb.heap.size 35 i0 (.agg #[.int .u8 0, .int .i64 0, .slice none 0 0]) 3 40 Try.underlying33 hi iz0 iz1 iz2 rfl (by decide) (.slice (some ⟨wb.heap.size, 0, none⟩) 0 0) 0 [] (by rfl) hown ⟨b, off, none⟩ l.length cap (rowOf wb b off (l.length * 3)) (by rfl) (rowOf_length _ _ _ _) hnews.1 hnews.2 (by omega) (by unfold maxLen; omega) (by omega) hszX _ rfl ?_
                  intro g capg w4 hown4 hgrow4 hat4 hlt4
                  have hK4 : KB wb w4 ((wb.heap.size + 1, 35, #[.int .u8 0, .int .i64 0, .slice none 0 0]) :: (byb, 35, #[.int .u8 (byE ta na ba).op, .int .i64 (byE ta na ba).n, bsv]) :: (vab, 48, #[.int .u8 ta, .int .i64 na, .bool ba]) :: [(vb, 48, #[.int .u8 t, .int .i64 n, .bool bo]), (w.heap.size + 1, 45, #[.int .i64 env.key, .int .i64 env.val, .int .i64 env.acc]), (w.heap.size, 35, #[.int .u8 xo, .int .i64 xn, .slice (some ⟨b, off, none⟩) l.length cap])]) := hKy.grown hgrow4 (fun q hq => by simp only [Value.ownBlock, Option.some.injEq] at hq; omega) (fun y hy => by
                    rcases List.mem_cons.1 hy with rfl | hy
                    · simp only [Value.ownBlock, ne_eq, Option.some.injEq]; omega
                    · have := hn5 y hy; simp only [Value.ownBlock, ne_eq, Option.some.injEq]; omega)
                  have hny : ∀ y ∈ ((byb, 35, #[.int .u8 (byE ta na ba).op, .int .i64 (byE ta na ba).n, bsv]) :: (vab, 48, #[.int .u8 ta, .int .i64 na, .bool ba]) :: [(vb, 48, #[.int .u8 t, .int .i64 n, .bool bo]), (w.heap.size + 1, 45, #[.int .i64 env.key, .int .i64 env.val, .int .i64 env.acc]), (w.heap.size, 35, #[.int .u8 xo, .int .i64 xn, .slice (some ⟨b, off, none⟩) l.length cap])] : List (Nat × TypeId × Array Value)), y.1 ≠ wb.heap.size + 1 := fun y hy => by have := hn5 y hy; omega
                  have x0 := hK4.hd.cell 0
                  have x1 := hK4.hd.cell 1
                  have x2 := hK4.hd.cell 2
                  have z0 := hK4.hd.free 0
                  have z1 := hK4.hd.free 1
                  have z2 := hK4.hd.free 2
                  have hK5 : KB wb _ ((wb.heap.size + 1, 35, #[.int .u8 xo, .int .i64 0, .slice (some ⟨g, 0, none⟩) l.length capg]) :: (byb, 35, #[.int .u8 (byE ta na ba).op, .int .i64 (byE ta na ba).n, bsv]) :: (vab, 48, #[.int .u8 ta, .int .i64 na, .bool ba]) :: [(vb, 48, #[.int .u8 t, .int .i64 n, .bool bo]), (w.heap.size + 1, 45, #[.int .i64 env.key, .int .i64 env.val, .int .i64 env.acc]), (w.heap.size, 35, #[.int .u8 xo, .int .i64 xn, .slice (some ⟨b, off, none⟩) l.length cap])]) := ((hK4.set (by omega) hny 0 (.int .u8 xo)).set (by omega) hny 1 (.int .i64 0)).set (by omega) hny 2 (.slice (some ⟨g, 0, none⟩) l.length capg)
                  refine hK.out _ _ ?_ (fun hHeld => ?_)
                  · exact hK4.tl
                  clear hK K
                  try simp only [Act.put, List.getElem_toArray, List.getElem_cons_zero, List.getElem_cons_succ, List.setIfInBounds_toArray, List.set_cons_zero, List.set_cons_succ]
                  refine wpAnyH_take (i := 6) (oi := _) (v := ?_) rfl (by kernel_rfl) (by kernel_rfl) (by kernel_rfl) (fun _ _ _ h => h) (Or.inl ⟨by rfl, ?_⟩) (by assumption) ?_
                  rotate_left
                  · intro w' hSw
                    (try dsimp only at hSw)
                    have p0 := hSw.tl.tl.tl.tl.hd.cell 0
                    have p2 := hSw.tl.tl.tl.tl.hd.cell 2
                    clear hSw
                    go_simp
                    try with_reducible rfl
                  try simp only [Act.put, List.getElem_toArray, List.getElem_cons_zero, List.getElem_cons_succ, List.setIfInBounds_toArray, List.set_cons_zero, List.set_cons_succ]
                  refine wpAnyH_ready (rs := [8]) (by kernel_rfl) (by simp) ?_
                  refine AllReadyH.cons rfl (fun K hK => ?_) AllReadyH.nil
                  go_simp
                  refine hK.out _ _ ?_ (fun hHeld => ?_)
                  · exact hK5.tl
                  clear hK K
                  try simp only [Act.put, List.getElem_toArray, List.getElem_cons_zero, List.getElem_cons_succ, List.setIfInBounds_toArray, List.set_cons_zero, List.set_cons_succ]
                  refine wpAnyH_done (by kernel_rfl) ?_ _
                  go_wp2_with fail
                  go_meet
                  obtain ⟨cur, q1, q2, q3, q4, q5⟩ := row_cur hown4 HCEL.out
                  have hgy : g ≠ wb.heap.size + 1 := by
                    rcases hat4 with h | h
                    · simp only [Value.ownBlock, Option.some.injEq] at h; omega
                    · simp at h; omega
                  exact ⟨wb.heap.size + 1, g, capg, cur, rfl, hK5, ((q1.other (p := ⟨wb.heap.size + 1, 0, none⟩) hgy _).other (p := ⟨wb.heap.size + 1, 1, none⟩) hgy _).other (p := ⟨wb.heap.size + 1, 2, none⟩) hgy _, q2, hgy, by omega, q3, q4, q5⟩
              · go_simp
                have hKy0 : KB wb _ ((wb.heap.size, 35, #[.int .u8 0, .int .i64 0, .slice none 0 0]) :: (byb, 35, #[.int .u8 (byE ta na ba).op, .int .i64 (byE ta na ba).n, bsv]) :: (vab, 48, #[.int .u8 ta, .int .i64 na, .bool ba]) :: [(vb, 48, #[.int .u8 t, .int .i64 n, .bool bo]), (w.heap.size + 1, 45, #[.int .i64 env.key, .int .i64 env.val, .int .i64 env.acc]), (w.heap.size, 35, #[.int .u8 xo, .int .i64 xn, .slice (some ⟨b, off, none⟩) l.length cap])]) := hHeld.pushN (wb.heap.size) rfl #[.int .u8 0, .int .i64 0, .slice none 0 0] 35
                refine hK.out _ _ ?_ (fun hHeld => ?_)
                · exact hHeld.grow _
                clear hK K
                try simp only [Act.put, List.getElem_toArray, List.getElem_cons_zero, List.getElem_cons_succ, List.setIfInBounds_toArray, List.set_cons_zero, List.set_cons_succ]
                refine wpAnyH_ready (rs := [2]) (by kernel_rfl) (by simp) ?_
                refine AllReadyH.cons rfl (fun K hK => ?_) (AllReadyH.nil)
                · go_simp
                  have hKy := hKy0.grow (.cells #[] 35 (0, 0))
                  have hown0 := own_empty ((wb.alloc (.cells #[.int .u8 0, .int .i64 0, .slice none 0 0] 35)).drew) wb.heap.size (wb.heap.size + 1) (by simp) (by omega) 35 3
                  refine hK.out _ _ ?_ (fun hHeld => ?_)
                  · exact hHeld.grow _
                  clear hK K
                  try simp only [Act.put, List.getElem_toArray, List.getElem_cons_zero, List.getElem_cons_succ, List.setIfInBounds_toArray, List.set_cons_zero, List.set_cons_succ]
                  refine wpAnyH_ready (rs := [5]) (by kernel_rfl) (by simp) ?_
                  refine AllReadyH.cons rfl (fun K hK => ?_) AllReadyH.nil
                  have hown := hown0
                  have hnews := rowOf_news HCEL.out (fun j hj => (hHeld.below.cell (p := ⟨b, off + j, none⟩) hbc))
                  have hszX := hHeld.below.size
                  refine step_append_lies _ (by rfl) _ _ _ (by rfl) wb.heap.size 35 i0 (.agg #[.int .u8 0, .int .i64 0, .slice none 0 0]) 3 40 Try.underlying33 hi iz0 iz1 iz2 rfl (by decide) (.slice (some ⟨wb.heap.size + 1, 0, none⟩) 0 0) 0 [] (by rfl) hown ⟨b, off, none⟩ l.length cap (rowOf wb b off (l.length * 3)) (by rfl) (rowOf_length _ _ _ _) hnews.1 hnews.2 (by omega) (by unfold maxLen; omega) (by omega) hszX _ rfl ?_
                  intro g capg w4 hown4 hgrow4 hat4 hlt4
                  have hK4 : KB wb w4 ((wb.heap.size, 35, #[.int .u8 0, .int .i64 0, .slice none 0 0]) :: (byb, 35, #[.int .u8 (byE ta na ba).op, .int .i64 (byE ta na ba).n, bsv]) :: (vab, 48, #[.int .u8 ta, .int .i64 na, .bool ba]) :: [(vb, 48, #[.int .u8 t, .int .i64 n, .bool bo]), (w.heap.size + 1, 45, #[.int .i64 env.key, .int .i64 env.val, .int .i64 env.acc]), (w.heap.size, 35, #[.int .u8 xo, .int .i64 xn, .slice (some ⟨b, off, none⟩) l.length cap])]) := hKy.grown hgrow4 (fun q hq => by simp only [Value.ownBlock, Option.some.injEq] at hq; omega) (fun y hy => by
                    rcases List.mem_cons.1 hy with rfl | hy
                    · simp only [Value.ownBlock, ne_eq, Option.some.injEq]; omega
                    · have := hn5 y hy; simp only [Value.ownBlock, ne_eq, Option.some.injEq]; omega)
                  have hny : ∀ y ∈ ((byb, 35, #[.int .u8 (byE ta na ba).op, .int .i64 (byE ta na ba).n, bsv]) :: (vab, 48, #[.int .u8 ta, .int .i64 na, .bool ba]) :: [(vb, 48, #[.int .u8 t, .int .i64 n, .bool bo]), (w.heap.size + 1, 45, #[.int .i64 env.key, .int .i64 env.val, .int .i64 env.acc]), (w.heap.size, 35, #[.int .u8 xo, .int .i64 xn, .slice (some ⟨b, off, none⟩) l.length cap])] : List (Nat × TypeId × Array Value)), y.1 ≠ wb.heap.size := fun y hy => by have := hn5 y hy; omega
                  have x0 := hK4.hd.cell 0
                  have x1 := hK4.hd.cell 1
                  have x2 := hK4.hd.cell 2
                  have z0 := hK4.hd.free 0
                  have z1 := hK4.hd.free 1
                  have z2 := hK4.hd.free 2
                  have hK5 : KB wb _ ((wb.heap.size, 35, #[.int .u8 xo, .int .i64 0, .slice (some ⟨g, 0, none⟩) l.length capg]) :: (byb, 35, #[.int .u8 (byE ta na ba).op, .int .i64 (byE ta na ba).n, bsv]) :: (vab, 48, #[.int .u8 ta, .int .i64 na, .bool ba]) :: [(vb, 48, #[.int .u8 t, .int .i64 n, .bool bo]), (w.heap.size + 1, 45, #[.int .i64 env.key, .int .i64 env.val, .int .i64 env.acc]), (w.heap.size, 35, #[.int .u8 xo, .int .i64 xn, .slice (some ⟨b, off, none⟩) l.length cap])]) := ((hK4.set (by omega) hny 0 (.int .u8 xo)).set (by omega) hny 1 (.int .i64 0)).set (by omega) hny 2 (.slice (some ⟨g, 0, none⟩) l.length capg)
                  refine hK.out _ _ ?_ (fun hHeld => ?_)
                  · exact hK4.tl
                  clear hK K
                  try simp only [Act.put, List.getElem_toArray, List.getElem_cons_zero, List.getElem_cons_succ, List.setIfInBounds_toArray, List.set_cons_zero, List.set_cons_succ]
                  refine wpAnyH_take (i := 6) (oi := _) (v := ?_) rfl (by kernel_rfl) (by kernel_rfl) (by kernel_rfl) (fun _ _ _ h => h) (Or.inl ⟨by rfl, ?_⟩) (by assumption) ?_
                  rotate_left
                  · intro w' hSw
                    (try dsimp only at hSw)
                    have p0 := hSw.tl.tl.tl.tl.hd.cell 0
                    have p2 := hSw.tl.tl.tl.tl.hd.cell 2
                    clear hSw
                    go_simp
                    try with_reducible rfl
                  try simp only [Act.put, List.getElem_toArray, List.getElem_cons_zero, List.getElem_cons_succ, List.setIfInBounds_toArray, List.set_cons_zero, List.set_cons_succ]
                  refine wpAnyH_ready (rs := [8]) (by kernel_rfl) (by simp) ?_
                  refine AllReadyH.cons rfl (fun K hK => ?_) AllReadyH.nil
                  go_simp
                  refine hK.out _ _ ?_ (fun hHeld => ?_)
                  · exact hK5.tl
                  clear hK K
                  try simp only [Act.put, List.getElem_toArray, List.getElem_cons_zero, List.getElem_cons_succ, List.setIfInBounds_toArray, List.set_cons_zero, List.set_cons_succ]
                  refine wpAnyH_done (by kernel_rfl) ?_ _
                  go_wp2_with fail
                  go_meet
                  obtain ⟨cur, q1, q2, q3, q4, q5⟩ := row_cur hown4 HCEL.out
                  have hgy : g ≠ wb.heap.size := by
                    rcases hat4 with h | h
                    · simp only [Value.ownBlock, Option.some.injEq] at h; omega
                    · simp at h; omega
                  exact ⟨wb.heap.size, g, capg, cur, rfl, hK5, ((q1.other (p := ⟨wb.heap.size, 0, none⟩) hgy _).other (p := ⟨wb.heap.size, 1, none⟩) hgy _).other (p := ⟨wb.heap.size, 2, none⟩) hgy _, q2, hgy, by omega, q3, q4, q5⟩
            case rest =>
              obtain ⟨yb, g, capg, cur, rfl, hKy, hg, hgw, hgy, hyb, hcg, hmg, hcur⟩ := hcut
              obtain ⟨ab, capb, rfl, _, _⟩ := hAY.slice
              have hn6 : ∀ y ∈ ((yb, 35, #[.int .u8 xo, .int .i64 0, .slice (some ⟨g, 0, none⟩) l.length capg]) :: (byb, 35, #[.int .u8 (byE ta na ba).op, .int .i64 (byE ta na ba).n, (.slice ab (byE ta na ba).args.length capb)]) :: (vab, 48, #[.int .u8 ta, .int .i64 na, .bool ba]) :: [(vb, 48, #[.int .u8 t, .int .i64 n, .bool bo]), (w.heap.size + 1, 45, #[.int .i64 env.key, .int .i64 env.val, .int .i64 env.acc]), (w.heap.size, 35, #[.int .u8 xo, .int .i64 xn, .slice (some ⟨b, off, none⟩) l.length cap])] : List (Nat × TypeId × Array Value)), y.1 ≠ g := fun y hy => by
                rcases List.mem_cons.1 hy with rfl | hy
                · exact fun h => hgy h.symm
                · have := hn5 y hy; omega
              have HAX := (HS.out.keep hK.below).mono hK.below.size
              obtain ⟨u0, hu0, _⟩ := HCEL.out (k * 3) (by omega)
              obtain ⟨u1, hu1, _⟩ := HCEL.out (k * 3 + 1) (by omega)
              obtain ⟨u2, hu2, _⟩ := HCEL.out (k * 3 + 2) (by omega)
              have G0 := (hg.cell (k * 3)).trans ((hcur _ (by omega)).trans hu0)
              have G1 := (hg.cell (k * 3 + 1)).trans ((hcur _ (by omega)).trans hu1)
              have G2 := (hg.cell (k * 3 + 2)).trans ((hcur _ (by omega)).trans hu2)
              have F0 := hg.free (k * 3)
              have F1 := hg.free (k * 3 + 1)
              have F2 := hg.free (k * 3 + 2)
              have hcs : k * 3 + 2 < cur.size := by
                have := (hcur (k * 3 + 2) (by omega)).trans hu2
                exact (Array.getElem?_eq_some_iff.1 this).1
              have y0 := hKy.hd.cell 0
              have y1 := hKy.hd.cell 1
              have y2 := hKy.hd.cell 2
              have b0 := hKy.tl.hd.cell 0
              have b1 := hKy.tl.hd.cell 1
              have b2 := hKy.tl.hd.cell 2
              have hkz : (k : Int) < (l.length : Int) := by omega
              go_upto_region 18 with fail
              clear G0 G1 G2 F0 F1 F2 y0 y1 y2 b0 b1 b2 hu0 hu1 hu2
              have hK17 := ((hKy.other (p := ⟨g, k * 3, none⟩) hgw hn6 (.int .u8 (byE ta na ba).op)).other (p := ⟨g, k * 3 + 1, none⟩) hgw hn6 (.int .i64 (byE ta na ba).n)).other (p := ⟨g, k * 3 + 2, none⟩) hgw hn6 (.slice ab (byE ta na ba).args.length capb)
              have hg17 := ((hg.set (k * 3) (.int .u8 (byE ta na ba).op)).set (k * 3 + 1) (.int .i64 (byE ta na ba).n)).set (k * 3 + 2) (.slice ab (byE ta na ba).args.length capb)
              generalize World.setCell _ _ _ = W17 at *
              have hArgs := ArgsAt.put HAX hK17.below hK17.below.size k hkl (byE ta na ba) (.slice ab (byE ta na ba).args.length capb) ((hAY.keep hK17.below).mono hK17.below.size) hg17 hg17.lt hcg hmg (fun j hj => by
                rw [set3_at _ _ _ _ _ hcs, hcur j hj])
              have HX : Hid (ExAt W17 W17.heap.size (.agg #[.int .u8 xo, .int .i64 0, .slice (some ⟨g, 0, none⟩) l.length capg]) (.mk xo 0 (l.set k (byE ta na ba)))) := ⟨_, rfl, hArgs⟩
              have HCD := Lib.hid (HDY.out _ _ W17 (HOKY.out _ (byE_ok ta na ba hnr.1 hnr.2)) HX.out)
              rw [HY.out (by omega)] at HCD
              dsimp only [DoR.agg] at HCD
              clear hArgs hg17
              have y0 := hK17.hd.cell 0
              have y1 := hK17.hd.cell 1
              have y2 := hK17.hd.cell 2
              have q0 := hK17.tl.tl.tl.tl.hd.cell 0
              have q1 := hK17.tl.tl.tl.tl.hd.cell 1
              have q2 := hK17.tl.tl.tl.tl.hd.cell 2
              go_wp2_with fail
              refine HCD.out.mono ?_
              rintro e w9 ⟨rfl, hq9⟩
              replace hK17 := hK17.keep hq9
              clear y0 y1 y2 q0 q1 q2
              go_upto_region 19 with fail
              replace hK17 := hK17.push #[.int .u8 t, .int .i64 n, .bool bo] 48
              generalize w9.heap.size = wvb at *
              generalize w9.alloc _ = W18 at *
              have hEQ := run_eq_val ⟨t, n, bo, 0⟩ ⟨t, n, bo, 0⟩
              dsimp only [DoR.agg] at hEQ
              have r0 := hK17.hd.cell 0
              have r1 := hK17.hd.cell 1
              have r2 := hK17.hd.cell 2
              have s0 := hK17.tl.tl.tl.tl.hd.cell 0
              have s1 := hK17.tl.tl.tl.tl.hd.cell 1
              have s2 := hK17.tl.tl.tl.tl.hd.cell 2
              go_wp2_with fail
              refine (HWK.out _).mono ?_
              rintro e w5 ⟨rfl, hq5⟩
              go_wp2_with fail
              go_ret
              exact ⟨rfl, hK.below.trans ((hK17.keep hq5).below.mono hK.below.size)⟩
      · obtain ⟨rfl, rfl, rfl⟩ : t = 0 ∧ n = 0 ∧ bo = false := by
          have := HNE.out he
          simp only [DoR.mk.injEq] at this
          exact ⟨this.1, this.2.1, this.2.2.1⟩
        have he' : (er != 0) = true := by simpa using he
        have hEQ := run_eq_val ⟨0, 0, false, 0⟩ ⟨0, 0, false, 0⟩
        dsimp only [DoR.agg] at hEQ
        have a0 := hK.tl.hd.cell 0
        have a1 := hK.tl.hd.cell 1
        have a2 := hK.tl.hd.cell 2
        go_wp2_with fail
        refine (HWK.out _).mono ?_
        rintro e w5 ⟨rfl, hq5⟩
        go_wp2_with fail
        go_ret
        exact ⟨rfl, (hK.keep hq5).below⟩

end Go.Proofs.Ytfieoehchghiiaa
