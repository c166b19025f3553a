/-
  Walks: the reference's Do; EvalDoes.
-/
import Derived.Test.YtfieoehchghiiaaVF
import Derived.Test.YtfieoehchghiiaaV7
import Derived.Test.YtfieoehchghiiaaA1
import Derived.Test.YtfieoehchghiiaaKB
import Derived.Deep.RegionHeld3
namespace Go.Proofs.Ytfieoehchghiiaa
open Go.RowKit
set_option linter.unusedVariables false

set_option maxRecDepth 100000 in
set_option maxHeartbeats 2000000 in
theorem rDo_c (x : Ex) (hok : x.ok) (v : Value) (B : Nat) (w : World) (env : Env) (hv : ExAt w B v x) (hB : B ≤ w.heap.size) :
    Calls Try.prog 26 #[v, env.v] w fun e w' => e = .returned (.tuple #[(x.doR env).agg, .int .i64 (x.doR env).e]) ∧ Below w.heap.size w w' := by
  have HV := Lib.hid hv
  have htk := @typ_ok x true
  have HE : Hid (x.doR env = if (x.typ true).2 = 0 then ⟨(x.typ true).1, (x.ev env).n, (x.ev env).b, 0⟩ else ⟨0, 0, false, (x.typ true).2⟩) := rfl
  have HOF := Lib.hid (fun W => rOf_c x hok true v B W)
  generalize x.doR env = target at *
  generalize x.typ true = p at *
  obtain ⟨t, er⟩ := p
  dsimp only at htk
  obtain ⟨sv, rfl, hs⟩ := hv
  obtain ⟨a, cap, rfl, hcap, hmx⟩ := hs.slice
  clear hs
  have hK := ((((KB.start w).push #[.int .u8 x.op, .int .i64 x.n, .slice a x.args.length cap] 35).pushN (w.heap.size + 1) (by simp) #[.int .i64 env.key, .int .i64 env.val, .int .i64 env.acc] 45).pushN (w.heap.size + 1 + 1) (by simp) #[.int .u8 0, .int .i64 0, .bool false] 48)
  generalize x.op = o at *
  generalize x.n = n at *
  generalize x.args.length = l at *
  by_cases he : er = 0
  · subst he
    obtain ⟨hm, hj1, hty, hj2⟩ := htk rfl
    have hty1 := ty12 x hty
    have hte := ev_ty env 16 x hok hm hty
    have HDO := Lib.hid (fun W (h1 : ExAt W B (.agg #[.int .u8 o, .int .i64 n, .slice a l cap]) x) (h2 : B ≤ W.heap.size) => rdo_all x.ht x (.agg #[.int .u8 o, .int .i64 n, .slice a l cap]) B W 16 env (Nat.le_refl _) hok hm hty h1 h2)
    have HE2 : Hid (target = ⟨t, (x.ev env).n, (x.ev env).b, 0⟩) := by show _ = _; rw [HE.out, if_pos rfl]
    obtain ⟨u, hu⟩ : ∃ u : Ev, x.ev env = u := ⟨_, rfl⟩
    rw [hu] at HE2
    rw [hu, ← hj2] at hte
    have HU := Lib.hid hu
    clear htk HE hm hty hty1 hu hcap hmx hj1 hj2
    have hcase : (∃ q : Int, u = .int q ∧ t = 1) ∨ (∃ q : Bool, u = .bool q ∧ t = 2) := by
      cases u with
      | int q => exact .inl ⟨q, rfl, hte.symm⟩
      | bool q => exact .inr ⟨q, rfl, hte.symm⟩
    clear hte
    rcases hcase with ⟨q, rfl, rfl⟩ | ⟨q, rfl, rfl⟩
    all_goals
      unfold Env.v
      go_enter Try.func26, Try.ntmps26
      go_upto_region 1 with fail
      generalize World.alloc (World.alloc (World.alloc w _) _) _ = W at *
      have p0 := hK.tl.tl.hd.cell 0
      have p1 := hK.tl.tl.hd.cell 1
      have p2 := hK.tl.tl.hd.cell 2
      go_wp2_with fail
      refine (HOF.out _ (HV.out.keep (hK.below.mono hB)) (Nat.le_trans hB hK.below.size)).mono ?_
      rintro e w1 ⟨rfl, hq1⟩
      replace hK := hK.keep hq1
      clear p0 p1 p2 hq1
      have p0 := hK.tl.tl.hd.cell 0
      have p1 := hK.tl.tl.hd.cell 1
      have p2 := hK.tl.tl.hd.cell 2
      have q0 := hK.tl.hd.cell 0
      have q1 := hK.tl.hd.cell 1
      have q2 := hK.tl.hd.cell 2
      go_wp2_with fail
      refine (HDO.out _ (HV.out.keep (hK.below.mono hB)) (Nat.le_trans hB hK.below.size)).mono ?_
      rw [HU.out]
      rintro e w2 ⟨rfl, hq2⟩
      dsimp only [Ev.k]
      replace hK := hK.keep hq2
      have r0 := hK.hd.cell 0
      have r1 := hK.hd.cell 1
      have r2 := hK.hd.cell 2
      have z0 := hK.hd.free 0
      have z1 := hK.hd.free 1
      have z2 := hK.hd.free 2
      clear p0 p1 p2 q0 q1 q2 hq2
    · go_wp2_with fail
      rw [HE2.out]
      refine bodyPost_ret (v := .tuple #[.agg #[_, _, _], _]) (results_cell_row2 rfl _ _ (w.heap.size + 1 + 1) 48 _ (0, 0) _ rfl (val_set hK.hd rfl _ _ _) Try.underlying48 rfl ?_ (.int .i64 0) rfl) rfl ⟨rfl, ?_⟩
      · as_aux_lemma => kernel_rfl
      · exact ((hK.below.setCell (by simp; omega) _).setCell (by simp; omega) _).setCell (by simp; omega) _
    · cases q
      all_goals
        go_wp2_with fail
        rw [HE2.out]
        refine bodyPost_ret (v := .tuple #[.agg #[_, _, _], _]) (results_cell_row2 rfl _ _ (w.heap.size + 1 + 1) 48 _ (0, 0) _ rfl (val_set hK.hd rfl _ _ _) Try.underlying48 rfl ?_ (.int .i64 0) rfl) rfl ⟨rfl, ?_⟩
        · as_aux_lemma => kernel_rfl
        · exact ((hK.below.setCell (by simp; omega) _).setCell (by simp; omega) _).setCell (by simp; omega) _
  · have HE2 : Hid (target = ⟨0, 0, false, er⟩) := by show _ = _; rw [HE.out, if_neg he]
    have he' : (er != 0) = true := by simpa using he
    clear htk HE he hcap hmx
    unfold Env.v
    go_enter Try.func26, Try.ntmps26
    go_upto_region 1 with fail
    generalize World.alloc (World.alloc (World.alloc w _) _) _ = W at *
    have p0 := hK.tl.tl.hd.cell 0
    have p1 := hK.tl.tl.hd.cell 1
    have p2 := hK.tl.tl.hd.cell 2
    go_wp2_with fail
    refine (HOF.out _ (HV.out.keep (hK.below.mono hB)) (Nat.le_trans hB hK.below.size)).mono ?_
    rintro e w1 ⟨rfl, hq1⟩
    replace hK := hK.keep hq1
    clear p0 p1 p2 hq1
    have r0 := hK.hd.cell 0
    have r1 := hK.hd.cell 1
    have r2 := hK.hd.cell 2
    have z0 := hK.hd.free 0
    have z1 := hK.hd.free 1
    have z2 := hK.hd.free 2
    go_wp2_with fail
    rw [HE2.out]
    refine bodyPost_ret (v := .tuple #[.agg #[_, _, _], _]) (results_cell_row2 rfl _ _ (w.heap.size + 1 + 1) 48 _ (0, 0) _ rfl (val_set hK.hd rfl _ _ _) Try.underlying48 rfl ?_ (.int .i64 er) rfl) rfl ⟨rfl, ?_⟩
    · as_aux_lemma => kernel_rfl
    · exact ((hK.below.setCell (by simp; omega) _).setCell (by simp; omega) _).setCell (by simp; omega) _

set_option maxRecDepth 100000 in
set_option maxHeartbeats 4000000 in
theorem evDoes_c (w : World) (x : Ex) (v : Value) (gx : ExAt w w.heap.size v x) (kx : x.ok) (env : Env) :
    Calls Try.prog 9 #[v, env.v0] w fun e w' => e = .returned (.bool true) ∧ Below w.heap.size w w' := by
  have HV := Lib.hid gx
  obtain ⟨sv, rfl, hs⟩ := gx
  obtain ⟨a, cap, rfl, hcap, hmx⟩ := hs.slice
  have hK := ((KB.start w).push #[.int .u8 x.op, .int .i64 x.n, .slice a x.args.length cap] 35).pushN (w.heap.size + 1) (by simp) #[.int .i64 env.key, .int .i64 env.val, .int .i64 env.acc] 45
  have HD : Hid (∀ W, Below w.heap.size w W → Calls Try.prog 25 #[.agg #[.int .u8 x.op, .int .i64 x.n, .slice a x.args.length cap], .agg #[.int .i64 env.key, .int .i64 env.val, .int .i64 env.acc]] W fun e w' => e = .returned (.tuple #[(x.doR env).agg, .int .i64 (x.doR env).e]) ∧ Below W.heap.size W w') := fun W h => Do_c x kx _ w.heap.size W env (HV.out.keep h) h.size
  have HR : Hid (∀ W, Below w.heap.size w W → Calls Try.prog 26 #[.agg #[.int .u8 x.op, .int .i64 x.n, .slice a x.args.length cap], .agg #[.int .i64 env.key, .int .i64 env.val, .int .i64 env.acc]] W fun e w' => e = .returned (.tuple #[(x.doR env).agg, .int .i64 (x.doR env).e]) ∧ Below W.heap.size W w') := fun W h => rDo_c x kx _ w.heap.size W env (HV.out.keep h) h.size
  have HI : Hid (∀ W, Below w.heap.size w W → Calls Try.prog 27 #[.agg #[.int .u8 x.op, .int .i64 x.n, .slice a x.args.length cap], .agg #[.int .i64 env.key, .int .i64 env.val, .int .i64 env.acc]] W fun e w' => e = .returned (.int .i64 (x.doR env).n) ∧ Below W.heap.size W w') := fun W h => Int_c x kx _ w.heap.size W env (HV.out.keep h) h.size
  have HB : Hid (∀ W, Below w.heap.size w W → Calls Try.prog 28 #[.agg #[.int .u8 x.op, .int .i64 x.n, .slice a x.args.length cap], .agg #[.int .i64 env.key, .int .i64 env.val, .int .i64 env.acc]] W fun e w' => e = .returned (.bool (x.doR env).b) ∧ Below W.heap.size W w') := fun W h => Bool_c x kx _ w.heap.size W env (HV.out.keep h) h.size
  have HZ : Hid (∀ W, Below w.heap.size w W → Calls Try.prog 23 #[.agg #[.int .u8 x.op, .int .i64 x.n, .slice a x.args.length cap]] W fun e w' => e = .returned (.int .i64 x.size) ∧ Below W.heap.size W w') := fun W h => Size_c x _ w.heap.size W (HV.out.keep h) h.size
  have HWK := Lib.hid ework_c
  have hzz : x.size ≤ 2000 := x.size_le
  generalize x.size = sz at *
  generalize x.doR env = r at *
  obtain ⟨t, n, b, er⟩ := r
  dsimp only [DoR.agg] at HD HR HI HB
  generalize x.op = xo at *
  generalize x.n = xn at *
  generalize x.args.length = xl at *
  clear hs hcap hmx HV
  unfold Env.v0
  by_cases hg : 2000 ≤ sz
  · go_enter Try.func9, Try.ntmps9
    go_upto_region 1 with fail
    generalize World.alloc (World.alloc w _) _ = W at *
    have p0 := hK.tl.hd.cell 0
    have p1 := hK.tl.hd.cell 1
    have p2 := hK.tl.hd.cell 2
    go_wp2_with fail
    refine (HZ.out _ hK.below).mono ?_
    rintro e w1 ⟨rfl, hq⟩
    replace hK := hK.keep hq
    go_wp2_with fail
    refine (HWK.out _).mono ?_
    rintro e w2 ⟨rfl, hq2⟩
    go_wp2_with fail
    go_ret
    exact ⟨rfl, (hK.keep hq2).below⟩
  · go_enter Try.func9, Try.ntmps9
    go_upto_region 1 with fail
    generalize World.alloc (World.alloc w _) _ = W at *
    have p0 := hK.tl.hd.cell 0
    have p1 := hK.tl.hd.cell 1
    have p2 := hK.tl.hd.cell 2
    go_wp2_with fail
    refine (HZ.out _ hK.below).mono ?_
    rintro e w1 ⟨rfl, hq⟩
    replace hK := hK.keep hq
    clear p0 p1 p2 hq
    have p0 := hK.tl.hd.cell 0
    have p1 := hK.tl.hd.cell 1
    have p2 := hK.tl.hd.cell 2
    have q0 := hK.hd.cell 0
    have q1 := hK.hd.cell 1
    have q2 := hK.hd.cell 2
    go_wp2_with fail
    refine (HD.out _ hK.below).mono ?_
    rintro e w2 ⟨rfl, hq⟩
    replace hK := hK.keep hq
    clear p0 p1 p2 q0 q1 q2 hq
    go_upto_region 4 with fail
    replace hK := hK.push #[.int .u8 t, .int .i64 n, .bool b] 48
    generalize hvb : w2.heap.size = vb at *
    generalize w2.alloc _ = W2 at *
    have p0 := hK.tl.tl.hd.cell 0
    have p1 := hK.tl.tl.hd.cell 1
    have p2 := hK.tl.tl.hd.cell 2
    have q0 := hK.tl.hd.cell 0
    have q1 := hK.tl.hd.cell 1
    have q2 := hK.tl.hd.cell 2
    go_wp2_with fail
    refine (HR.out _ hK.below).mono ?_
    rintro e w3 ⟨rfl, hq⟩
    replace hK := hK.keep hq
    clear p0 p1 p2 q0 q1 q2 hq
    go_upto_region 5 with fail
    replace hK := hK.push #[.int .u8 t, .int .i64 n, .bool b] 48
    generalize hwb : w3.heap.size = wb at *
    generalize w3.alloc _ = W3 at *
    refine wp_region_held_drew (S := (fun w' => KB w w' [(wb, 48, #[.int .u8 t, .int .i64 n, .bool b]), (vb, 48, #[.int .u8 t, .int .i64 n, .bool b]), (w.heap.size + 1, 45, #[.int .i64 env.key, .int .i64 env.val, .int .i64 env.acc]), (w.heap.size, 35, #[.int .u8 xo, .int .i64 xn, .slice a xl cap])])) (by kernel_rfl) ?_ (fun hHeld => ?_)
    · exact hK.drew
    refine wpAnyH_take (i := 0) (oi := _) (v := ?_) rfl (by kernel_rfl) (by kernel_rfl) (by kernel_rfl) (fun _ _ _ h => h) (Or.inl ⟨by rfl, ?_⟩) (by assumption) ?_
    rotate_left
    · intro w' hSw
      (try dsimp only at hSw)
      have r0 := hSw.hd.cell 0
      have r1 := hSw.hd.cell 1
      have r2 := hSw.hd.cell 2
      have s0 := hSw.tl.hd.cell 0
      have s1 := hSw.tl.hd.cell 1
      have s2 := hSw.tl.hd.cell 2
      have q0 := hSw.tl.tl.hd.cell 0
      have q1 := hSw.tl.tl.hd.cell 1
      have q2 := hSw.tl.tl.hd.cell 2
      have p0 := hSw.tl.tl.tl.hd.cell 0
      have p1 := hSw.tl.tl.tl.hd.cell 1
      have p2 := hSw.tl.tl.tl.hd.cell 2
      have hEQ := run_eq_val ⟨t, n, b, 0⟩ ⟨t, n, b, 0⟩ w'
      dsimp only [DoR.agg] at hEQ
      clear hSw
      go_simp
      try with_reducible rfl
    try simp only [Act.put, List.getElem_toArray, List.getElem_cons_zero, List.setIfInBounds_toArray, List.set_cons_zero, List.set_cons_succ]
    refine wpAnyH_take (i := 1) (oi := _) (v := ?_) rfl (by kernel_rfl) (by kernel_rfl) (by kernel_rfl) (fun _ _ _ h => h) (Or.inl ⟨by rfl, ?_⟩) (by assumption) ?_
    rotate_left
    · intro w' hSw
      (try dsimp only at hSw)
      have r0 := hSw.hd.cell 0
      have r1 := hSw.hd.cell 1
      have r2 := hSw.hd.cell 2
      have s0 := hSw.tl.hd.cell 0
      have s1 := hSw.tl.hd.cell 1
      have s2 := hSw.tl.hd.cell 2
      have q0 := hSw.tl.tl.hd.cell 0
      have q1 := hSw.tl.tl.hd.cell 1
      have q2 := hSw.tl.tl.hd.cell 2
      have p0 := hSw.tl.tl.tl.hd.cell 0
      have p1 := hSw.tl.tl.tl.hd.cell 1
      have p2 := hSw.tl.tl.tl.hd.cell 2
      have hEQ := run_eq_val ⟨t, n, b, 0⟩ ⟨t, n, b, 0⟩ w'
      dsimp only [DoR.agg] at hEQ
      clear hSw
      go_simp
      try with_reducible rfl
    try simp only [Act.put, List.getElem_toArray, List.getElem_cons_zero, List.getElem_cons_succ, List.setIfInBounds_toArray, List.set_cons_zero, List.set_cons_succ]
    refine wpAnyH_take (i := 2) (oi := _) (v := ?_) rfl (by kernel_rfl) (by kernel_rfl) (by kernel_rfl) (fun _ _ _ h => h) (Or.inl ⟨by rfl, ?_⟩) (by assumption) ?_
    rotate_left
    · intro w' hSw
      (try dsimp only at hSw)
      have r0 := hSw.hd.cell 0
      have r1 := hSw.hd.cell 1
      have r2 := hSw.hd.cell 2
      have s0 := hSw.tl.hd.cell 0
      have s1 := hSw.tl.hd.cell 1
      have s2 := hSw.tl.hd.cell 2
      have q0 := hSw.tl.tl.hd.cell 0
      have q1 := hSw.tl.tl.hd.cell 1
      have q2 := hSw.tl.tl.hd.cell 2
      have p0 := hSw.tl.tl.tl.hd.cell 0
      have p1 := hSw.tl.tl.tl.hd.cell 1
      have p2 := hSw.tl.tl.tl.hd.cell 2
      have hEQ := run_eq_val ⟨t, n, b, 0⟩ ⟨t, n, b, 0⟩ w'
      dsimp only [DoR.agg] at hEQ
      clear hSw
      go_simp
      try with_reducible rfl
    try simp only [Act.put, List.getElem_toArray, List.getElem_cons_zero, List.getElem_cons_succ, List.setIfInBounds_toArray, List.set_cons_zero, List.set_cons_succ]
    refine wpAnyH_take (i := 3) (oi := _) (v := ?_) rfl (by kernel_rfl) (by kernel_rfl) (by kernel_rfl) (fun _ _ _ h => h) (Or.inl ⟨by rfl, ?_⟩) (by assumption) ?_
    rotate_left
    · intro w' hSw
      (try dsimp only at hSw)
      have r0 := hSw.hd.cell 0
      have r1 := hSw.hd.cell 1
      have r2 := hSw.hd.cell 2
      have s0 := hSw.tl.hd.cell 0
      have s1 := hSw.tl.hd.cell 1
      have s2 := hSw.tl.hd.cell 2
      have q0 := hSw.tl.tl.hd.cell 0
      have q1 := hSw.tl.tl.hd.cell 1
      have q2 := hSw.tl.tl.hd.cell 2
      have p0 := hSw.tl.tl.tl.hd.cell 0
      have p1 := hSw.tl.tl.tl.hd.cell 1
      have p2 := hSw.tl.tl.tl.hd.cell 2
      have hEQ := run_eq_val ⟨t, n, b, 0⟩ ⟨t, n, b, 0⟩ w'
      dsimp only [DoR.agg] at hEQ
      clear hSw
      go_simp
      try with_reducible rfl
    try simp only [Act.put, List.getElem_toArray, List.getElem_cons_zero, List.getElem_cons_succ, List.setIfInBounds_toArray, List.set_cons_zero, List.set_cons_succ]
    refine wpAnyH_take (i := 4) (oi := _) (v := ?_) rfl (by kernel_rfl) (by kernel_rfl) (by kernel_rfl) (fun _ _ _ h => h) (Or.inl ⟨by rfl, ?_⟩) (by assumption) ?_
    rotate_left
    · intro w' hSw
      (try dsimp only at hSw)
      have r0 := hSw.hd.cell 0
      have r1 := hSw.hd.cell 1
      have r2 := hSw.hd.cell 2
      have s0 := hSw.tl.hd.cell 0
      have s1 := hSw.tl.hd.cell 1
      have s2 := hSw.tl.hd.cell 2
      have q0 := hSw.tl.tl.hd.cell 0
      have q1 := hSw.tl.tl.hd.cell 1
      have q2 := hSw.tl.tl.hd.cell 2
      have p0 := hSw.tl.tl.tl.hd.cell 0
      have p1 := hSw.tl.tl.tl.hd.cell 1
      have p2 := hSw.tl.tl.tl.hd.cell 2
      have hEQ := run_eq_val ⟨t, n, b, 0⟩ ⟨t, n, b, 0⟩ w'
      dsimp only [DoR.agg] at hEQ
      clear hSw
      go_simp
      try with_reducible rfl
    try simp only [Act.put, List.getElem_toArray, List.getElem_cons_zero, List.getElem_cons_succ, List.setIfInBounds_toArray, List.set_cons_zero, List.set_cons_succ]
    refine wpAnyH_take (i := 5) (oi := _) (v := ?_) rfl (by kernel_rfl) (by kernel_rfl) (by kernel_rfl) (fun _ _ _ h => h) (Or.inl ⟨by rfl, ?_⟩) (by assumption) ?_
    rotate_left
    · intro w' hSw
      (try dsimp only at hSw)
      have r0 := hSw.hd.cell 0
      have r1 := hSw.hd.cell 1
      have r2 := hSw.hd.cell 2
      have s0 := hSw.tl.hd.cell 0
      have s1 := hSw.tl.hd.cell 1
      have s2 := hSw.tl.hd.cell 2
      have q0 := hSw.tl.tl.hd.cell 0
      have q1 := hSw.tl.tl.hd.cell 1
      have q2 := hSw.tl.tl.hd.cell 2
      have p0 := hSw.tl.tl.tl.hd.cell 0
      have p1 := hSw.tl.tl.tl.hd.cell 1
      have p2 := hSw.tl.tl.tl.hd.cell 2
      have hEQ := run_eq_val ⟨t, n, b, 0⟩ ⟨t, n, b, 0⟩ w'
      dsimp only [DoR.agg] at hEQ
      clear hSw
      go_simp
      try with_reducible rfl
    try simp only [Act.put, List.getElem_toArray, List.getElem_cons_zero, List.getElem_cons_succ, List.setIfInBounds_toArray, List.set_cons_zero, List.set_cons_succ]
    refine wpAnyH_take (i := 6) (oi := _) (v := ?_) rfl (by kernel_rfl) (by kernel_rfl) (by kernel_rfl) (fun _ _ _ h => h) (Or.inl ⟨by rfl, ?_⟩) (by assumption) ?_
    rotate_left
    · intro w' hSw
      (try dsimp only at hSw)
      have r0 := hSw.hd.cell 0
      have r1 := hSw.hd.cell 1
      have r2 := hSw.hd.cell 2
      have s0 := hSw.tl.hd.cell 0
      have s1 := hSw.tl.hd.cell 1
      have s2 := hSw.tl.hd.cell 2
      have q0 := hSw.tl.tl.hd.cell 0
      have q1 := hSw.tl.tl.hd.cell 1
      have q2 := hSw.tl.tl.hd.cell 2
      have p0 := hSw.tl.tl.tl.hd.cell 0
      have p1 := hSw.tl.tl.tl.hd.cell 1
      have p2 := hSw.tl.tl.tl.hd.cell 2
      have hEQ := run_eq_val ⟨t, n, b, 0⟩ ⟨t, n, b, 0⟩ w'
      dsimp only [DoR.agg] at hEQ
      clear hSw
      go_simp
      try with_reducible rfl
    try simp only [Act.put, List.getElem_toArray, List.getElem_cons_zero, List.getElem_cons_succ, List.setIfInBounds_toArray, List.set_cons_zero, List.set_cons_succ]
    refine wpAnyH_take (i := 7) (oi := _) (v := ?_) rfl (by kernel_rfl) (by kernel_rfl) (by kernel_rfl) (fun _ _ _ h => h) (Or.inl ⟨by rfl, ?_⟩) (by assumption) ?_
    rotate_left
    · intro w' hSw
      (try dsimp only at hSw)
      have r0 := hSw.hd.cell 0
      have r1 := hSw.hd.cell 1
      have r2 := hSw.hd.cell 2
      have s0 := hSw.tl.hd.cell 0
      have s1 := hSw.tl.hd.cell 1
      have s2 := hSw.tl.hd.cell 2
      have q0 := hSw.tl.tl.hd.cell 0
      have q1 := hSw.tl.tl.hd.cell 1
      have q2 := hSw.tl.tl.hd.cell 2
      have p0 := hSw.tl.tl.tl.hd.cell 0
      have p1 := hSw.tl.tl.tl.hd.cell 1
      have p2 := hSw.tl.tl.tl.hd.cell 2
      have hEQ := run_eq_val ⟨t, n, b, 0⟩ ⟨t, n, b, 0⟩ w'
      dsimp only [DoR.agg] at hEQ
      clear hSw
      go_simp
      try with_reducible rfl
    try simp only [Act.put, List.getElem_toArray, List.getElem_cons_zero, List.getElem_cons_succ, List.setIfInBounds_toArray, List.set_cons_zero, List.set_cons_succ]
    refine wpAnyH_take (i := 8) (oi := _) (v := ?_) rfl (by kernel_rfl) (by kernel_rfl) (by kernel_rfl) (fun _ _ _ h => h) (Or.inl ⟨by rfl, ?_⟩) (by assumption) ?_
    rotate_left
    · intro w' hSw
      (try dsimp only at hSw)
      have r0 := hSw.hd.cell 0
      have r1 := hSw.hd.cell 1
      have r2 := hSw.hd.cell 2
      have s0 := hSw.tl.hd.cell 0
      have s1 := hSw.tl.hd.cell 1
      have s2 := hSw.tl.hd.cell 2
      have q0 := hSw.tl.tl.hd.cell 0
      have q1 := hSw.tl.tl.hd.cell 1
      have q2 := hSw.tl.tl.hd.cell 2
      have p0 := hSw.tl.tl.tl.hd.cell 0
      have p1 := hSw.tl.tl.tl.hd.cell 1
      have p2 := hSw.tl.tl.tl.hd.cell 2
      have hEQ := run_eq_val ⟨t, n, b, 0⟩ ⟨t, n, b, 0⟩ w'
      dsimp only [DoR.agg] at hEQ
      clear hSw
      go_simp
      try with_reducible rfl
    try simp only [Act.put, List.getElem_toArray, List.getElem_cons_zero, List.getElem_cons_succ, List.setIfInBounds_toArray, List.set_cons_zero, List.set_cons_succ]
    refine wpAnyH_take (i := 9) (oi := _) (v := ?_) rfl (by kernel_rfl) (by kernel_rfl) (by kernel_rfl) (fun _ _ _ h => h) (Or.inl ⟨by rfl, ?_⟩) (by assumption) ?_
    rotate_left
    · intro w' hSw
      (try dsimp only at hSw)
      have r0 := hSw.hd.cell 0
      have r1 := hSw.hd.cell 1
      have r2 := hSw.hd.cell 2
      have s0 := hSw.tl.hd.cell 0
      have s1 := hSw.tl.hd.cell 1
      have s2 := hSw.tl.hd.cell 2
      have q0 := hSw.tl.tl.hd.cell 0
      have q1 := hSw.tl.tl.hd.cell 1
      have q2 := hSw.tl.tl.hd.cell 2
      have p0 := hSw.tl.tl.tl.hd.cell 0
      have p1 := hSw.tl.tl.tl.hd.cell 1
      have p2 := hSw.tl.tl.tl.hd.cell 2
      have hEQ := run_eq_val ⟨t, n, b, 0⟩ ⟨t, n, b, 0⟩ w'
      dsimp only [DoR.agg] at hEQ
      clear hSw
      go_simp
      try with_reducible rfl
    try simp only [Act.put, List.getElem_toArray, List.getElem_cons_zero, List.getElem_cons_succ, List.setIfInBounds_toArray, List.set_cons_zero, List.set_cons_succ]
    refine wpAnyH_take (i := 10) (oi := _) (v := ?_) rfl (by kernel_rfl) (by kernel_rfl) (by kernel_rfl) (fun _ _ _ h => h) (Or.inl ⟨by rfl, ?_⟩) (by assumption) ?_
    rotate_left
    · intro w' hSw
      (try dsimp only at hSw)
      have r0 := hSw.hd.cell 0
      have r1 := hSw.hd.cell 1
      have r2 := hSw.hd.cell 2
      have s0 := hSw.tl.hd.cell 0
      have s1 := hSw.tl.hd.cell 1
      have s2 := hSw.tl.hd.cell 2
      have q0 := hSw.tl.tl.hd.cell 0
      have q1 := hSw.tl.tl.hd.cell 1
      have q2 := hSw.tl.tl.hd.cell 2
      have p0 := hSw.tl.tl.tl.hd.cell 0
      have p1 := hSw.tl.tl.tl.hd.cell 1
      have p2 := hSw.tl.tl.tl.hd.cell 2
      have hEQ := run_eq_val ⟨t, n, b, 0⟩ ⟨t, n, b, 0⟩ w'
      dsimp only [DoR.agg] at hEQ
      clear hSw
      go_simp
      try with_reducible rfl
    try simp only [Act.put, List.getElem_toArray, List.getElem_cons_zero, List.getElem_cons_succ, List.setIfInBounds_toArray, List.set_cons_zero, List.set_cons_succ]
    refine wpAnyH_take (i := 12) (oi := _) (v := ?_) rfl (by kernel_rfl) (by kernel_rfl) (by kernel_rfl) (fun _ _ _ h => h) (Or.inl ⟨by rfl, ?_⟩) (by assumption) ?_
    rotate_left
    · intro w' hSw
      (try dsimp only at hSw)
      have r0 := hSw.hd.cell 0
      have r1 := hSw.hd.cell 1
      have r2 := hSw.hd.cell 2
      have s0 := hSw.tl.hd.cell 0
      have s1 := hSw.tl.hd.cell 1
      have s2 := hSw.tl.hd.cell 2
      have q0 := hSw.tl.tl.hd.cell 0
      have q1 := hSw.tl.tl.hd.cell 1
      have q2 := hSw.tl.tl.hd.cell 2
      have p0 := hSw.tl.tl.tl.hd.cell 0
      have p1 := hSw.tl.tl.tl.hd.cell 1
      have p2 := hSw.tl.tl.tl.hd.cell 2
      have hEQ := run_eq_val ⟨t, n, b, 0⟩ ⟨t, n, b, 0⟩ w'
      dsimp only [DoR.agg] at hEQ
      clear hSw
      go_simp
      try with_reducible rfl
    try simp only [Act.put, List.getElem_toArray, List.getElem_cons_zero, List.getElem_cons_succ, List.setIfInBounds_toArray, List.set_cons_zero, List.set_cons_succ]
    refine wpAnyH_take (i := 13) (oi := _) (v := ?_) rfl (by kernel_rfl) (by kernel_rfl) (by kernel_rfl) (fun _ _ _ h => h) (Or.inl ⟨by rfl, ?_⟩) (by assumption) ?_
    rotate_left
    · intro w' hSw
      (try dsimp only at hSw)
      have r0 := hSw.hd.cell 0
      have r1 := hSw.hd.cell 1
      have r2 := hSw.hd.cell 2
      have s0 := hSw.tl.hd.cell 0
      have s1 := hSw.tl.hd.cell 1
      have s2 := hSw.tl.hd.cell 2
      have q0 := hSw.tl.tl.hd.cell 0
      have q1 := hSw.tl.tl.hd.cell 1
      have q2 := hSw.tl.tl.hd.cell 2
      have p0 := hSw.tl.tl.tl.hd.cell 0
      have p1 := hSw.tl.tl.tl.hd.cell 1
      have p2 := hSw.tl.tl.tl.hd.cell 2
      have hEQ := run_eq_val ⟨t, n, b, 0⟩ ⟨t, n, b, 0⟩ w'
      dsimp only [DoR.agg] at hEQ
      clear hSw
      go_simp
      try with_reducible rfl
    try simp only [Act.put, List.getElem_toArray, List.getElem_cons_zero, List.getElem_cons_succ, List.setIfInBounds_toArray, List.set_cons_zero, List.set_cons_succ]
    refine wpAnyH_ready (rs := [11]) (by kernel_rfl) (by simp) ?_
    refine AllReadyH.cons rfl (fun K hK => ?_) AllReadyH.nil
    go_simp
    go_at_call 27
    refine (HI.out _ hHeld.below).mono ?_
    rintro e w9 ⟨rfl, hq9⟩
    refine hK.out _ _ ?_ (fun hHeld => ?_)
    · exact hHeld.keep hq9
    clear hK K
    try simp only [Act.put, List.getElem_toArray, List.getElem_cons_zero, List.getElem_cons_succ, List.setIfInBounds_toArray, List.set_cons_zero, List.set_cons_succ]
    refine wpAnyH_take (i := 14) (oi := _) (v := ?_) rfl (by kernel_rfl) (by kernel_rfl) (by kernel_rfl) (fun _ _ _ h => h) (Or.inl ⟨by rfl, ?_⟩) (by assumption) ?_
    rotate_left
    · intro w' hSw
      (try dsimp only at hSw)
      have r0 := hSw.hd.cell 0
      have r1 := hSw.hd.cell 1
      have r2 := hSw.hd.cell 2
      have s0 := hSw.tl.hd.cell 0
      have s1 := hSw.tl.hd.cell 1
      have s2 := hSw.tl.hd.cell 2
      have q0 := hSw.tl.tl.hd.cell 0
      have q1 := hSw.tl.tl.hd.cell 1
      have q2 := hSw.tl.tl.hd.cell 2
      have p0 := hSw.tl.tl.tl.hd.cell 0
      have p1 := hSw.tl.tl.tl.hd.cell 1
      have p2 := hSw.tl.tl.tl.hd.cell 2
      have hEQ := run_eq_val ⟨t, n, b, 0⟩ ⟨t, n, b, 0⟩ w'
      dsimp only [DoR.agg] at hEQ
      clear hSw
      go_simp
      try with_reducible rfl
    try simp only [Act.put, List.getElem_toArray, List.getElem_cons_zero, List.getElem_cons_succ, List.setIfInBounds_toArray, List.set_cons_zero, List.set_cons_succ]
    refine wpAnyH_take (i := 15) (oi := _) (v := ?_) rfl (by kernel_rfl) (by kernel_rfl) (by kernel_rfl) (fun _ _ _ h => h) (Or.inl ⟨by rfl, ?_⟩) (by assumption) ?_
    rotate_left
    · intro w' hSw
      (try dsimp only at hSw)
      have r0 := hSw.hd.cell 0
      have r1 := hSw.hd.cell 1
      have r2 := hSw.hd.cell 2
      have s0 := hSw.tl.hd.cell 0
      have s1 := hSw.tl.hd.cell 1
      have s2 := hSw.tl.hd.cell 2
      have q0 := hSw.tl.tl.hd.cell 0
      have q1 := hSw.tl.tl.hd.cell 1
      have q2 := hSw.tl.tl.hd.cell 2
      have p0 := hSw.tl.tl.tl.hd.cell 0
      have p1 := hSw.tl.tl.tl.hd.cell 1
      have p2 := hSw.tl.tl.tl.hd.cell 2
      have hEQ := run_eq_val ⟨t, n, b, 0⟩ ⟨t, n, b, 0⟩ w'
      dsimp only [DoR.agg] at hEQ
      clear hSw
      go_simp
      try with_reducible rfl
    try simp only [Act.put, List.getElem_toArray, List.getElem_cons_zero, List.getElem_cons_succ, List.setIfInBounds_toArray, List.set_cons_zero, List.set_cons_succ]
    refine wpAnyH_take (i := 16) (oi := _) (v := ?_) rfl (by kernel_rfl) (by kernel_rfl) (by kernel_rfl) (fun _ _ _ h => h) (Or.inl ⟨by rfl, ?_⟩) (by assumption) ?_
    rotate_left
    · intro w' hSw
      (try dsimp only at hSw)
      have r0 := hSw.hd.cell 0
      have r1 := hSw.hd.cell 1
      have r2 := hSw.hd.cell 2
      have s0 := hSw.tl.hd.cell 0
      have s1 := hSw.tl.hd.cell 1
      have s2 := hSw.tl.hd.cell 2
      have q0 := hSw.tl.tl.hd.cell 0
      have q1 := hSw.tl.tl.hd.cell 1
      have q2 := hSw.tl.tl.hd.cell 2
      have p0 := hSw.tl.tl.tl.hd.cell 0
      have p1 := hSw.tl.tl.tl.hd.cell 1
      have p2 := hSw.tl.tl.tl.hd.cell 2
      have hEQ := run_eq_val ⟨t, n, b, 0⟩ ⟨t, n, b, 0⟩ w'
      dsimp only [DoR.agg] at hEQ
      clear hSw
      go_simp
      try with_reducible rfl
    try simp only [Act.put, List.getElem_toArray, List.getElem_cons_zero, List.getElem_cons_succ, List.setIfInBounds_toArray, List.set_cons_zero, List.set_cons_succ]
    refine wpAnyH_take (i := 17) (oi := _) (v := ?_) rfl (by kernel_rfl) (by kernel_rfl) (by kernel_rfl) (fun _ _ _ h => h) (Or.inl ⟨by rfl, ?_⟩) (by assumption) ?_
    rotate_left
    · intro w' hSw
      (try dsimp only at hSw)
      have r0 := hSw.hd.cell 0
      have r1 := hSw.hd.cell 1
      have r2 := hSw.hd.cell 2
      have s0 := hSw.tl.hd.cell 0
      have s1 := hSw.tl.hd.cell 1
      have s2 := hSw.tl.hd.cell 2
      have q0 := hSw.tl.tl.hd.cell 0
      have q1 := hSw.tl.tl.hd.cell 1
      have q2 := hSw.tl.tl.hd.cell 2
      have p0 := hSw.tl.tl.tl.hd.cell 0
      have p1 := hSw.tl.tl.tl.hd.cell 1
      have p2 := hSw.tl.tl.tl.hd.cell 2
      have hEQ := run_eq_val ⟨t, n, b, 0⟩ ⟨t, n, b, 0⟩ w'
      dsimp only [DoR.agg] at hEQ
      clear hSw
      go_simp
      try with_reducible rfl
    try simp only [Act.put, List.getElem_toArray, List.getElem_cons_zero, List.getElem_cons_succ, List.setIfInBounds_toArray, List.set_cons_zero, List.set_cons_succ]
    refine wpAnyH_take (i := 18) (oi := _) (v := ?_) rfl (by kernel_rfl) (by kernel_rfl) (by kernel_rfl) (fun _ _ _ h => h) (Or.inl ⟨by rfl, ?_⟩) (by assumption) ?_
    rotate_left
    · intro w' hSw
      (try dsimp only at hSw)
      have r0 := hSw.hd.cell 0
      have r1 := hSw.hd.cell 1
      have r2 := hSw.hd.cell 2
      have s0 := hSw.tl.hd.cell 0
      have s1 := hSw.tl.hd.cell 1
      have s2 := hSw.tl.hd.cell 2
      have q0 := hSw.tl.tl.hd.cell 0
      have q1 := hSw.tl.tl.hd.cell 1
      have q2 := hSw.tl.tl.hd.cell 2
      have p0 := hSw.tl.tl.tl.hd.cell 0
      have p1 := hSw.tl.tl.tl.hd.cell 1
      have p2 := hSw.tl.tl.tl.hd.cell 2
      have hEQ := run_eq_val ⟨t, n, b, 0⟩ ⟨t, n, b, 0⟩ w'
      dsimp only [DoR.agg] at hEQ
      clear hSw
      go_simp
      try with_reducible rfl
    try simp only [Act.put, List.getElem_toArray, List.getElem_cons_zero, List.getElem_cons_succ, List.setIfInBounds_toArray, List.set_cons_zero, List.set_cons_succ]
    refine wpAnyH_take (i := 20) (oi := _) (v := ?_) rfl (by kernel_rfl) (by kernel_rfl) (by kernel_rfl) (fun _ _ _ h => h) (Or.inl ⟨by rfl, ?_⟩) (by assumption) ?_
    rotate_left
    · intro w' hSw
      (try dsimp only at hSw)
      have r0 := hSw.hd.cell 0
      have r1 := hSw.hd.cell 1
      have r2 := hSw.hd.cell 2
      have s0 := hSw.tl.hd.cell 0
      have s1 := hSw.tl.hd.cell 1
      have s2 := hSw.tl.hd.cell 2
      have q0 := hSw.tl.tl.hd.cell 0
      have q1 := hSw.tl.tl.hd.cell 1
      have q2 := hSw.tl.tl.hd.cell 2
      have p0 := hSw.tl.tl.tl.hd.cell 0
      have p1 := hSw.tl.tl.tl.hd.cell 1
      have p2 := hSw.tl.tl.tl.hd.cell 2
      have hEQ := run_eq_val ⟨t, n, b, 0⟩ ⟨t, n, b, 0⟩ w'
      dsimp only [DoR.agg] at hEQ
      clear hSw
      go_simp
      try with_reducible rfl
    try simp only [Act.put, List.getElem_toArray, List.getElem_cons_zero, List.getElem_cons_succ, List.setIfInBounds_toArray, List.set_cons_zero, List.set_cons_succ]
    refine wpAnyH_take (i := 21) (oi := _) (v := ?_) rfl (by kernel_rfl) (by kernel_rfl) (by kernel_rfl) (fun _ _ _ h => h) (Or.inl ⟨by rfl, ?_⟩) (by assumption) ?_
    rotate_left
    · intro w' hSw
      (try dsimp only at hSw)
      have r0 := hSw.hd.cell 0
      have r1 := hSw.hd.cell 1
      have r2 := hSw.hd.cell 2
      have s0 := hSw.tl.hd.cell 0
      have s1 := hSw.tl.hd.cell 1
      have s2 := hSw.tl.hd.cell 2
      have q0 := hSw.tl.tl.hd.cell 0
      have q1 := hSw.tl.tl.hd.cell 1
      have q2 := hSw.tl.tl.hd.cell 2
      have p0 := hSw.tl.tl.tl.hd.cell 0
      have p1 := hSw.tl.tl.tl.hd.cell 1
      have p2 := hSw.tl.tl.tl.hd.cell 2
      have hEQ := run_eq_val ⟨t, n, b, 0⟩ ⟨t, n, b, 0⟩ w'
      dsimp only [DoR.agg] at hEQ
      clear hSw
      go_simp
      try with_reducible rfl
    try simp only [Act.put, List.getElem_toArray, List.getElem_cons_zero, List.getElem_cons_succ, List.setIfInBounds_toArray, List.set_cons_zero, List.set_cons_succ]
    refine wpAnyH_ready (rs := [19]) (by kernel_rfl) (by simp) ?_
    refine AllReadyH.cons rfl (fun K hK => ?_) AllReadyH.nil
    go_simp
    go_at_call 28
    refine (HB.out _ hHeld.below).mono ?_
    rintro e w10 ⟨rfl, hq10⟩
    refine hK.out _ _ ?_ (fun hHeld => ?_)
    · exact hHeld.keep hq10
    clear hK K
    try simp only [Act.put, List.getElem_toArray, List.getElem_cons_zero, List.getElem_cons_succ, List.setIfInBounds_toArray, List.set_cons_zero, List.set_cons_succ]
    refine wpAnyH_take (i := 22) (oi := _) (v := ?_) rfl (by kernel_rfl) (by kernel_rfl) (by kernel_rfl) (fun _ _ _ h => h) (Or.inl ⟨by rfl, ?_⟩) (by assumption) ?_
    rotate_left
    · intro w' hSw
      (try dsimp only at hSw)
      have r0 := hSw.hd.cell 0
      have r1 := hSw.hd.cell 1
      have r2 := hSw.hd.cell 2
      have s0 := hSw.tl.hd.cell 0
      have s1 := hSw.tl.hd.cell 1
      have s2 := hSw.tl.hd.cell 2
      have q0 := hSw.tl.tl.hd.cell 0
      have q1 := hSw.tl.tl.hd.cell 1
      have q2 := hSw.tl.tl.hd.cell 2
      have p0 := hSw.tl.tl.tl.hd.cell 0
      have p1 := hSw.tl.tl.tl.hd.cell 1
      have p2 := hSw.tl.tl.tl.hd.cell 2
      have hEQ := run_eq_val ⟨t, n, b, 0⟩ ⟨t, n, b, 0⟩ w'
      dsimp only [DoR.agg] at hEQ
      clear hSw
      go_simp
      try with_reducible rfl
    try simp only [Act.put, List.getElem_toArray, List.getElem_cons_zero, List.getElem_cons_succ, List.setIfInBounds_toArray, List.set_cons_zero, List.set_cons_succ]
    refine wpAnyH_take (i := 23) (oi := _) (v := ?_) rfl (by kernel_rfl) (by kernel_rfl) (by kernel_rfl) (fun _ _ _ h => h) (Or.inl ⟨by rfl, ?_⟩) (by assumption) ?_
    rotate_left
    · intro w' hSw
      (try dsimp only at hSw)
      have r0 := hSw.hd.cell 0
      have r1 := hSw.hd.cell 1
      have r2 := hSw.hd.cell 2
      have s0 := hSw.tl.hd.cell 0
      have s1 := hSw.tl.hd.cell 1
      have s2 := hSw.tl.hd.cell 2
      have q0 := hSw.tl.tl.hd.cell 0
      have q1 := hSw.tl.tl.hd.cell 1
      have q2 := hSw.tl.tl.hd.cell 2
      have p0 := hSw.tl.tl.tl.hd.cell 0
      have p1 := hSw.tl.tl.tl.hd.cell 1
      have p2 := hSw.tl.tl.tl.hd.cell 2
      have hEQ := run_eq_val ⟨t, n, b, 0⟩ ⟨t, n, b, 0⟩ w'
      dsimp only [DoR.agg] at hEQ
      clear hSw
      go_simp
      try with_reducible rfl
    try simp only [Act.put, List.getElem_toArray, List.getElem_cons_zero, List.getElem_cons_succ, List.setIfInBounds_toArray, List.set_cons_zero, List.set_cons_succ]
    refine wpAnyH_take (i := 24) (oi := _) (v := ?_) rfl (by kernel_rfl) (by kernel_rfl) (by kernel_rfl) (fun _ _ _ h => h) (Or.inl ⟨by rfl, ?_⟩) (by assumption) ?_
    rotate_left
    · intro w' hSw
      (try dsimp only at hSw)
      have r0 := hSw.hd.cell 0
      have r1 := hSw.hd.cell 1
      have r2 := hSw.hd.cell 2
      have s0 := hSw.tl.hd.cell 0
      have s1 := hSw.tl.hd.cell 1
      have s2 := hSw.tl.hd.cell 2
      have q0 := hSw.tl.tl.hd.cell 0
      have q1 := hSw.tl.tl.hd.cell 1
      have q2 := hSw.tl.tl.hd.cell 2
      have p0 := hSw.tl.tl.tl.hd.cell 0
      have p1 := hSw.tl.tl.tl.hd.cell 1
      have p2 := hSw.tl.tl.tl.hd.cell 2
      have hEQ := run_eq_val ⟨t, n, b, 0⟩ ⟨t, n, b, 0⟩ w'
      dsimp only [DoR.agg] at hEQ
      clear hSw
      go_simp
      try with_reducible rfl
    try simp only [Act.put, List.getElem_toArray, List.getElem_cons_zero, List.getElem_cons_succ, List.setIfInBounds_toArray, List.set_cons_zero, List.set_cons_succ]
    refine wpAnyH_ready (rs := [25]) (by kernel_rfl) (by simp) ?_
    refine AllReadyH.cons rfl (fun K hK => ?_) AllReadyH.nil
    go_simp
    go_at_call 24
    refine (HWK.out _).mono ?_
    rintro e w11 ⟨rfl, hq11⟩
    refine hK.out _ _ ?_ (fun hHeld => ?_)
    · exact hHeld.keep hq11
    clear hK K
    try simp only [Act.put, List.getElem_toArray, List.getElem_cons_zero, List.getElem_cons_succ, List.setIfInBounds_toArray, List.set_cons_zero, List.set_cons_succ]
    refine wpAnyH_take (i := 26) (oi := _) (v := ?_) rfl (by kernel_rfl) (by kernel_rfl) (by kernel_rfl) (fun _ _ _ h => h) (Or.inl ⟨by rfl, ?_⟩) (by assumption) ?_
    rotate_left
    · intro w' hSw
      (try dsimp only at hSw)
      have r0 := hSw.hd.cell 0
      have r1 := hSw.hd.cell 1
      have r2 := hSw.hd.cell 2
      have s0 := hSw.tl.hd.cell 0
      have s1 := hSw.tl.hd.cell 1
      have s2 := hSw.tl.hd.cell 2
      have q0 := hSw.tl.tl.hd.cell 0
      have q1 := hSw.tl.tl.hd.cell 1
      have q2 := hSw.tl.tl.hd.cell 2
      have p0 := hSw.tl.tl.tl.hd.cell 0
      have p1 := hSw.tl.tl.tl.hd.cell 1
      have p2 := hSw.tl.tl.tl.hd.cell 2
      have hEQ := run_eq_val ⟨t, n, b, 0⟩ ⟨t, n, b, 0⟩ w'
      dsimp only [DoR.agg] at hEQ
      clear hSw
      go_simp
      try with_reducible rfl
    try simp only [Act.put, List.getElem_toArray, List.getElem_cons_zero, List.getElem_cons_succ, List.setIfInBounds_toArray, List.set_cons_zero, List.set_cons_succ]
    refine wpAnyH_take (i := 27) (oi := _) (v := ?_) rfl (by kernel_rfl) (by kernel_rfl) (by kernel_rfl) (fun _ _ _ h => h) (Or.inl ⟨by rfl, ?_⟩) (by assumption) ?_
    rotate_left
    · intro w' hSw
      (try dsimp only at hSw)
      have r0 := hSw.hd.cell 0
      have r1 := hSw.hd.cell 1
      have r2 := hSw.hd.cell 2
      have s0 := hSw.tl.hd.cell 0
      have s1 := hSw.tl.hd.cell 1
      have s2 := hSw.tl.hd.cell 2
      have q0 := hSw.tl.tl.hd.cell 0
      have q1 := hSw.tl.tl.hd.cell 1
      have q2 := hSw.tl.tl.hd.cell 2
      have p0 := hSw.tl.tl.tl.hd.cell 0
      have p1 := hSw.tl.tl.tl.hd.cell 1
      have p2 := hSw.tl.tl.tl.hd.cell 2
      have hEQ := run_eq_val ⟨t, n, b, 0⟩ ⟨t, n, b, 0⟩ w'
      dsimp only [DoR.agg] at hEQ
      clear hSw
      go_simp
      try with_reducible rfl
    try simp only [Act.put, List.getElem_toArray, List.getElem_cons_zero, List.getElem_cons_succ, List.setIfInBounds_toArray, List.set_cons_zero, List.set_cons_succ]
    refine wpAnyH_done (by kernel_rfl) ?_ _
    go_wp2_with fail
    go_ret
    exact ⟨rfl, hHeld.below⟩

end Go.Proofs.Ytfieoehchghiiaa
