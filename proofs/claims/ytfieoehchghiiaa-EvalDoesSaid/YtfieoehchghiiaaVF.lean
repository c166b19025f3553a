/-
  The walk of the reference's do.
-/
import Derived.Test.YtfieoehchghiiaaVE
import Derived.Deep.RegionHeld3
import Derived.Deep.AppendLies
namespace Go.Proofs.Ytfieoehchghiiaa
open Go.RowKit
set_option linter.unusedVariables false
set_option linter.unusedSimpArgs false

theorem info_i64V : (Try.prog.info? 2).map (fun i => (i.zero, i.size, i.bytes)) = some (some (.int .i64 0), 1, 8) := by kernel_rfl
theorem own_keepV {w w' : World} {base : Nat} {e : TypeId} {size n : Nat} {v : Value} {xs : List Value} (h : w.ownsRow base e size v n xs) (hb : Below w.heap.size w w') : w'.ownsRow base e size v n xs :=
  h.kept (row := none) ⟨hb.os, hb.tape, hb.output, hb.size, fun k hk _ => hb.block k hk⟩ (by cases hv : Value.ownBlock _ <;> simp)
theorem truth_c (b : Bool) (w : World) : Calls Try.prog 98 #[.bool b] w fun e w' => e = .returned (.int .i64 (truthN b)) ∧ w = w' := by
  cases b
  all_goals
    go_enter Try.func98, Try.ntmps98
    go_wp2
    go_ret
    exact ⟨rfl, rfl⟩

def RDoC (h : Nat) : Prop := ∀ (x : Ex) (v : Value) (B : Nat) (w : World) (k : Nat) (env : Env), x.ht ≤ h → x.ok → mayB k x = true → x.ty ≠ 0 → ExAt w B v x → B ≤ w.heap.size →
  Calls Try.prog 70 #[v, env.v] w fun e w' => e = .returned (.int .i64 (x.ev env).k) ∧ Below w.heap.size w w'

structure DoRel (env : Env) (l : List Ex) (W : World) (s q : Value) (wr : World) : Prop where
  ex : ∃ k : Nat, q = .int .i64 k ∧ k ≤ l.length ∧ Below W.heap.size W wr ∧ wr.ownsRow W.heap.size 2 1 s k (((l.take k).map fun y => (y.ev env).k).map (Value.int .i64))

set_option maxRecDepth 100000 in
set_option maxHeartbeats 8000000 in
theorem rdo_step (h : Nat) (IH : Hid (∀ x : Ex, x.ht < h → ∀ (v : Value) (B : Nat) (w : World) (k : Nat) (env : Env), x.ok → mayB k x = true → x.ty ≠ 0 → ExAt w B v x → B ≤ w.heap.size →
      Calls Try.prog 70 #[v, env.v] w fun e w' => e = .returned (.int .i64 (x.ev env).k) ∧ Below w.heap.size w w')) : RDoC h := by
  intro x v B w kk env hh hok hmay hty hv hB
  have HLT : Hid (∀ a ∈ x.args, a.ht < h) := fun a ha => by have := Ex.ht_args x a ha; omega
  have HOK := Lib.hid (Exs.ok_at x.args (Ex.ok_args hok))
  obtain ⟨km, hkm⟩ : ∃ km, kk = km + 1 := by
    cases kk with
    | zero => simp [mayB] at hmay
    | succ km => exact ⟨km, rfl⟩
  subst hkm
  have HRK := Lib.hid (refK_of env hok hmay hty)
  have HTA := Lib.hid (typed_args (typed_of hok hmay hty) hty)
  simp only [mayB, Bool.and_eq_true, List.all_eq_true] at hmay
  have hshape := of_decide_eq_true hmay.1
  have HMA := Lib.hid hmay.2
  have hl3 : x.args.length ≤ 3 := by
    have := hshape.1
    unfold manyN at this
    repeat' split at this
    all_goals omega
  obtain ⟨i0, hi, hz0, hz1, hz2⟩ := info_parts info_i64V
  obtain ⟨sv, rfl, hs⟩ := hv
  obtain ⟨a, cap, rfl, hcap, hmx⟩ := hs.slice
  have HS := Lib.hid hs
  generalize (x.ev env).k = R at *
  generalize x.op = o at *
  generalize x.n = n at *
  generalize x.args = l at *
  clear hs hh hok hmay hshape hmx hty
  have hW := ((Below.refl w.heap.size w).alloc (Nat.le_refl _) (.cells #[.int .u8 o, .int .i64 n, .slice a l.length cap] 35)).alloc (by simp) (.cells #[.int .i64 env.key, .int .i64 env.val, .int .i64 env.acc] 45)
  have hbx := (Blk.new w #[.int .u8 o, .int .i64 n, .slice a l.length cap] 35).alloc (.cells #[.int .i64 env.key, .int .i64 env.val, .int .i64 env.acc] 45)
  have hbe := Blk.new_at (w.alloc (.cells #[.int .u8 o, .int .i64 n, .slice a l.length cap] 35)) #[.int .i64 env.key, .int .i64 env.val, .int .i64 env.acc] 45 (k := w.heap.size + 1) (by simp)
  have hz := hbx.lt
  have hze := hbe.lt
  unfold Env.v
  go_enter Try.func70, Try.ntmps70
  go_wp2_with fail
  generalize World.alloc (World.alloc w _) _ = W at *
  go_loopw [5, 6] (fun s q wr => DoRel env l W s q wr) (fun _ q _ => l.length - (intOf q).toNat)
  case atStart => exact ⟨⟨0, rfl, Nat.zero_le _, Below.refl _ _, World.ownsRow_nil _ _ _ _⟩⟩
  case round =>
    obtain ⟨j, rfl, hj, hBr0, hown⟩ := hrel.ex
    clear hrel
    have hBr := hW.trans (hBr0.mono (Nat.le_of_lt hz))
    have hbr2 := hbx.below hBr0 hz
    have hbe2 := hbe.below hBr0 hze
    have p0 := hbr2.cell 0
    have p1 := hbr2.cell 1
    have p2 := hbr2.cell 2
    have q0 := hbe2.cell 0
    have q1 := hbe2.cell 1
    have q2 := hbe2.cell 2
    by_cases hlt : j < l.length
    · obtain ⟨b, off, cp, sv, e1, hb, c0, c1, c2, hsub⟩ := ((HS.out.mono hB).keep hBr).at_ j hlt
      simp only [Value.slice.injEq, true_and] at e1
      obtain ⟨rfl, rfl⟩ := e1
      obtain ⟨a2, cap2, rfl, _, _⟩ := hsub.slice
      have hht := HLT.out _ (List.getElem_mem hlt)
      have hoky := HOK.out j hlt
      have hmy := HMA.out _ (List.getElem_mem hlt)
      have hta := HTA.out _ (List.getElem_mem hlt)
      have htk : Hid (((l.take (j + 1)).map fun y => (y.ev env).k).map (Value.int .i64) = ((l.take j).map fun y => (y.ev env).k).map (Value.int .i64) ++ [.int .i64 ((l[j]'hlt).ev env).k]) := by
        show _ = _
        rw [List.take_succ_eq_append_getElem hlt, List.map_append, List.map_append]
        rfl
      generalize l[j] = y at *
      have HX : Hid (ExAt wr wr.heap.size (.agg #[.int .u8 y.op, .int .i64 y.n, .slice a2 y.args.length cap2]) y) := ⟨_, rfl, hsub.mono hBr.size⟩
      have HMY := Lib.hid hmy
      have HTY0 := Lib.hid hta
      clear hsub hmy hta
      obtain ⟨ty, hty⟩ : ∃ t, (y.ev env).k = t := ⟨_, rfl⟩
      rw [hty] at htk
      have HTY := Lib.hid hty
      clear hty
      have hl := Lib.hid hl3
      generalize hxs : ((l.take j).map fun y => (y.ev env).k).map (Value.int .i64) = xs at *
      clear hxs
      have hbw := hBr0.size
      unfold Env.v at IH
      have hbW : b < W.heap.size := by omega
      have hze0 : w.heap.size + 1 < W.heap.size := hze
      have p2W := hbx.cell 2
      have q0W := hbe.cell 0
      have q1W := hbe.cell 1
      have q2W := hbe.cell 2
      have c0W := (hBr0.cell (p := ⟨b, off + j * 3, none⟩) hbW).symm.trans c0
      have c1W := (hBr0.cell (p := ⟨b, off + j * 3 + 1, none⟩) hbW).symm.trans c1
      have c2W := (hBr0.cell (p := ⟨b, off + j * 3 + 2, none⟩) hbW).symm.trans c2
      have HP := Lib.hid (And.intro p2W (And.intro q0W (And.intro q1W (And.intro q2W (And.intro c0W (And.intro c1W c2W))))))
      clear p0 p1 q0 q1 q2 c0 c1 c2 p2W q0W q1W q2W c0W c1W c2W
      go_wp2_with fail
      clear p2
      refine wp_region_held_drew (S := (fun w' => Below W.heap.size W w')) (by kernel_rfl) ?_ (fun hHeld => ?_)
      · exact hBr0.drew
      refine wpAnyH_take (i := 0) (oi := _) (v := ?_) rfl (by kernel_rfl) (by kernel_rfl) (by kernel_rfl) (fun _ _ _ h => h) (Or.inl ⟨by rfl, ?_⟩) (by assumption) ?_
      rotate_left
      · intro w' hSw
        (try dsimp only at hSw)
        obtain ⟨p2W, q0W, q1W, q2W, c0W, c1W, c2W⟩ := HP.out
        have P2 := (hSw.cell (p := ⟨w.heap.size, 2, none⟩) hz).trans p2W
        have C0 := (hSw.cell (p := ⟨b, off + j * 3, none⟩) hbW).trans c0W
        have C1 := (hSw.cell (p := ⟨b, off + j * 3 + 1, none⟩) hbW).trans c1W
        have C2 := (hSw.cell (p := ⟨b, off + j * 3 + 2, none⟩) hbW).trans c2W
        have Q0 := (hSw.cell (p := ⟨w.heap.size + 1, 0, none⟩) hze0).trans q0W
        have Q1 := (hSw.cell (p := ⟨w.heap.size + 1, 1, none⟩) hze0).trans q1W
        have Q2 := (hSw.cell (p := ⟨w.heap.size + 1, 2, none⟩) hze0).trans q2W
        clear p2W q0W q1W q2W c0W c1W c2W
        go_simp
        try with_reducible rfl
      try simp only [Act.put, List.getElem_toArray, List.getElem_cons_zero, List.setIfInBounds_toArray, List.set_cons_zero, List.set_cons_succ]
      refine wpAnyH_take (i := 1) (oi := _) (v := ?_) rfl (by kernel_rfl) (by kernel_rfl) (by kernel_rfl) (fun _ _ _ h => h) (Or.inl ⟨by rfl, ?_⟩) (by assumption) ?_
      rotate_left
      · intro w' hSw
        (try dsimp only at hSw)
        obtain ⟨p2W, q0W, q1W, q2W, c0W, c1W, c2W⟩ := HP.out
        have P2 := (hSw.cell (p := ⟨w.heap.size, 2, none⟩) hz).trans p2W
        have C0 := (hSw.cell (p := ⟨b, off + j * 3, none⟩) hbW).trans c0W
        have C1 := (hSw.cell (p := ⟨b, off + j * 3 + 1, none⟩) hbW).trans c1W
        have C2 := (hSw.cell (p := ⟨b, off + j * 3 + 2, none⟩) hbW).trans c2W
        have Q0 := (hSw.cell (p := ⟨w.heap.size + 1, 0, none⟩) hze0).trans q0W
        have Q1 := (hSw.cell (p := ⟨w.heap.size + 1, 1, none⟩) hze0).trans q1W
        have Q2 := (hSw.cell (p := ⟨w.heap.size + 1, 2, none⟩) hze0).trans q2W
        clear p2W q0W q1W q2W c0W c1W c2W
        go_simp
        try with_reducible rfl
      try simp only [Act.put, List.getElem_toArray, List.getElem_cons_zero, List.getElem_cons_succ, List.setIfInBounds_toArray, List.set_cons_zero, List.set_cons_succ]
      refine wpAnyH_take (i := 2) (oi := _) (v := ?_) rfl (by kernel_rfl) (by kernel_rfl) (by kernel_rfl) (fun _ _ _ h => h) (Or.inl ⟨by rfl, ?_⟩) (by assumption) ?_
      rotate_left
      · intro w' hSw
        (try dsimp only at hSw)
        obtain ⟨p2W, q0W, q1W, q2W, c0W, c1W, c2W⟩ := HP.out
        have P2 := (hSw.cell (p := ⟨w.heap.size, 2, none⟩) hz).trans p2W
        have C0 := (hSw.cell (p := ⟨b, off + j * 3, none⟩) hbW).trans c0W
        have C1 := (hSw.cell (p := ⟨b, off + j * 3 + 1, none⟩) hbW).trans c1W
        have C2 := (hSw.cell (p := ⟨b, off + j * 3 + 2, none⟩) hbW).trans c2W
        have Q0 := (hSw.cell (p := ⟨w.heap.size + 1, 0, none⟩) hze0).trans q0W
        have Q1 := (hSw.cell (p := ⟨w.heap.size + 1, 1, none⟩) hze0).trans q1W
        have Q2 := (hSw.cell (p := ⟨w.heap.size + 1, 2, none⟩) hze0).trans q2W
        clear p2W q0W q1W q2W c0W c1W c2W
        go_simp
        try with_reducible rfl
      try simp only [Act.put, List.getElem_toArray, List.getElem_cons_zero, List.getElem_cons_succ, List.setIfInBounds_toArray, List.set_cons_zero, List.set_cons_succ]
      refine wpAnyH_take (i := 3) (oi := _) (v := ?_) rfl (by kernel_rfl) (by kernel_rfl) (by kernel_rfl) (fun _ _ _ h => h) (Or.inl ⟨by rfl, ?_⟩) (by assumption) ?_
      rotate_left
      · intro w' hSw
        (try dsimp only at hSw)
        obtain ⟨p2W, q0W, q1W, q2W, c0W, c1W, c2W⟩ := HP.out
        have P2 := (hSw.cell (p := ⟨w.heap.size, 2, none⟩) hz).trans p2W
        have C0 := (hSw.cell (p := ⟨b, off + j * 3, none⟩) hbW).trans c0W
        have C1 := (hSw.cell (p := ⟨b, off + j * 3 + 1, none⟩) hbW).trans c1W
        have C2 := (hSw.cell (p := ⟨b, off + j * 3 + 2, none⟩) hbW).trans c2W
        have Q0 := (hSw.cell (p := ⟨w.heap.size + 1, 0, none⟩) hze0).trans q0W
        have Q1 := (hSw.cell (p := ⟨w.heap.size + 1, 1, none⟩) hze0).trans q1W
        have Q2 := (hSw.cell (p := ⟨w.heap.size + 1, 2, none⟩) hze0).trans q2W
        clear p2W q0W q1W q2W c0W c1W c2W
        go_simp
        try with_reducible rfl
      try simp only [Act.put, List.getElem_toArray, List.getElem_cons_zero, List.getElem_cons_succ, List.setIfInBounds_toArray, List.set_cons_zero, List.set_cons_succ]
      refine wpAnyH_take (i := 4) (oi := _) (v := ?_) rfl (by kernel_rfl) (by kernel_rfl) (by kernel_rfl) (fun _ _ _ h => h) (Or.inl ⟨by rfl, ?_⟩) (by assumption) ?_
      rotate_left
      · intro w' hSw
        (try dsimp only at hSw)
        obtain ⟨p2W, q0W, q1W, q2W, c0W, c1W, c2W⟩ := HP.out
        have P2 := (hSw.cell (p := ⟨w.heap.size, 2, none⟩) hz).trans p2W
        have C0 := (hSw.cell (p := ⟨b, off + j * 3, none⟩) hbW).trans c0W
        have C1 := (hSw.cell (p := ⟨b, off + j * 3 + 1, none⟩) hbW).trans c1W
        have C2 := (hSw.cell (p := ⟨b, off + j * 3 + 2, none⟩) hbW).trans c2W
        have Q0 := (hSw.cell (p := ⟨w.heap.size + 1, 0, none⟩) hze0).trans q0W
        have Q1 := (hSw.cell (p := ⟨w.heap.size + 1, 1, none⟩) hze0).trans q1W
        have Q2 := (hSw.cell (p := ⟨w.heap.size + 1, 2, none⟩) hze0).trans q2W
        clear p2W q0W q1W q2W c0W c1W c2W
        go_simp
        try with_reducible rfl
      try simp only [Act.put, List.getElem_toArray, List.getElem_cons_zero, List.getElem_cons_succ, List.setIfInBounds_toArray, List.set_cons_zero, List.set_cons_succ]
      refine wpAnyH_take (i := 5) (oi := _) (v := ?_) rfl (by kernel_rfl) (by kernel_rfl) (by kernel_rfl) (fun _ _ _ h => h) (Or.inl ⟨by rfl, ?_⟩) (by assumption) ?_
      rotate_left
      · intro w' hSw
        (try dsimp only at hSw)
        obtain ⟨p2W, q0W, q1W, q2W, c0W, c1W, c2W⟩ := HP.out
        have P2 := (hSw.cell (p := ⟨w.heap.size, 2, none⟩) hz).trans p2W
        have C0 := (hSw.cell (p := ⟨b, off + j * 3, none⟩) hbW).trans c0W
        have C1 := (hSw.cell (p := ⟨b, off + j * 3 + 1, none⟩) hbW).trans c1W
        have C2 := (hSw.cell (p := ⟨b, off + j * 3 + 2, none⟩) hbW).trans c2W
        have Q0 := (hSw.cell (p := ⟨w.heap.size + 1, 0, none⟩) hze0).trans q0W
        have Q1 := (hSw.cell (p := ⟨w.heap.size + 1, 1, none⟩) hze0).trans q1W
        have Q2 := (hSw.cell (p := ⟨w.heap.size + 1, 2, none⟩) hze0).trans q2W
        clear p2W q0W q1W q2W c0W c1W c2W
        go_simp
        try with_reducible rfl
      try simp only [Act.put, List.getElem_toArray, List.getElem_cons_zero, List.getElem_cons_succ, List.setIfInBounds_toArray, List.set_cons_zero, List.set_cons_succ]
      refine wpAnyH_take (i := 6) (oi := _) (v := ?_) rfl (by kernel_rfl) (by kernel_rfl) (by kernel_rfl) (fun _ _ _ h => h) (Or.inl ⟨by rfl, ?_⟩) (by assumption) ?_
      rotate_left
      · intro w' hSw
        (try dsimp only at hSw)
        obtain ⟨p2W, q0W, q1W, q2W, c0W, c1W, c2W⟩ := HP.out
        have P2 := (hSw.cell (p := ⟨w.heap.size, 2, none⟩) hz).trans p2W
        have C0 := (hSw.cell (p := ⟨b, off + j * 3, none⟩) hbW).trans c0W
        have C1 := (hSw.cell (p := ⟨b, off + j * 3 + 1, none⟩) hbW).trans c1W
        have C2 := (hSw.cell (p := ⟨b, off + j * 3 + 2, none⟩) hbW).trans c2W
        have Q0 := (hSw.cell (p := ⟨w.heap.size + 1, 0, none⟩) hze0).trans q0W
        have Q1 := (hSw.cell (p := ⟨w.heap.size + 1, 1, none⟩) hze0).trans q1W
        have Q2 := (hSw.cell (p := ⟨w.heap.size + 1, 2, none⟩) hze0).trans q2W
        clear p2W q0W q1W q2W c0W c1W c2W
        go_simp
        try with_reducible rfl
      try simp only [Act.put, List.getElem_toArray, List.getElem_cons_zero, List.getElem_cons_succ, List.setIfInBounds_toArray, List.set_cons_zero, List.set_cons_succ]
      refine wpAnyH_ready (rs := [7]) (by kernel_rfl) (by simp) ?_
      refine AllReadyH.cons rfl (fun K hK => ?_) AllReadyH.nil
      go_simp
      go_at_call 70
      refine (IH.out y hht _ wr.heap.size wr.drew km env hoky HMY.out HTY0.out (HX.out.keep (Below.refl _ _).drew) (Nat.le_refl _)).mono ?_
      rw [HTY.out]
      rintro e w3 ⟨rfl, hb3⟩
      have hown3 := own_keepV (w := wr.drew) hown hb3
      refine hK.out _ _ ?_ (fun hHeld => ?_)
      · exact hHeld.trans (hb3.mono hHeld.size)
      clear hK K
      try simp only [Act.put, List.getElem_toArray, List.getElem_cons_zero, List.getElem_cons_succ, List.setIfInBounds_toArray, List.set_cons_zero, List.set_cons_succ]
      refine wpAnyH_ready (rs := [8]) (by kernel_rfl) (by simp) ?_
      refine AllReadyH.cons rfl (fun K hK => ?_) AllReadyH.nil
      go_simp
      refine hK.out _ _ ?_ (fun hHeld => ?_)
      · exact hHeld.alloc hHeld.size _
      clear hK K
      try simp only [Act.put, List.getElem_toArray, List.getElem_cons_zero, List.getElem_cons_succ, List.setIfInBounds_toArray, List.set_cons_zero, List.set_cons_succ]
      refine wpAnyH_ready (rs := [9]) (by kernel_rfl) (by simp) ?_
      refine AllReadyH.cons rfl (fun K hK => ?_) AllReadyH.nil
      have hszX := hHeld.size
      refine step_append_lies _ (by rfl) _ _ _ (by rfl) W.heap.size 2 i0 (.int .i64 0) 1 8 Try.underlying82 hi hz0 hz1 hz2 rfl (by decide) u5 j xs (by rfl) (hown3.alloc _) ⟨w3.heap.size, 0, none⟩ 1 1 [.int .i64 ty] (by rfl) rfl (cell_one_newQ _ _ _) (by simp [Value.oneCell']) (by decide) (by unfold maxLen; have := hl.out; omega) (by have := hl.out; omega) hszX _ rfl ?_
      intro g cap4 w4 hown4 hgrow4 hat4 hlt4
      refine hK.out _ _ ?_ (fun hHeld => ?_)
      · exact hHeld.grown hgrow4 hszX (fun k hk => (hown3.lt k hk).1)
      clear hK K
      try simp only [Act.put, List.getElem_toArray, List.getElem_cons_zero, List.getElem_cons_succ, List.setIfInBounds_toArray, List.set_cons_zero, List.set_cons_succ]
      refine wpAnyH_take (i := 10) (oi := _) (v := ?_) rfl (by kernel_rfl) (by kernel_rfl) (by kernel_rfl) (fun _ _ _ h => h) (Or.inl ⟨by rfl, ?_⟩) (by assumption) ?_
      rotate_left
      · intro w' hSw
        (try dsimp only at hSw)
        obtain ⟨p2W, q0W, q1W, q2W, c0W, c1W, c2W⟩ := HP.out
        have P2 := (hSw.cell (p := ⟨w.heap.size, 2, none⟩) hz).trans p2W
        have C0 := (hSw.cell (p := ⟨b, off + j * 3, none⟩) hbW).trans c0W
        have C1 := (hSw.cell (p := ⟨b, off + j * 3 + 1, none⟩) hbW).trans c1W
        have C2 := (hSw.cell (p := ⟨b, off + j * 3 + 2, none⟩) hbW).trans c2W
        have Q0 := (hSw.cell (p := ⟨w.heap.size + 1, 0, none⟩) hze0).trans q0W
        have Q1 := (hSw.cell (p := ⟨w.heap.size + 1, 1, none⟩) hze0).trans q1W
        have Q2 := (hSw.cell (p := ⟨w.heap.size + 1, 2, none⟩) hze0).trans q2W
        clear p2W q0W q1W q2W c0W c1W c2W
        go_simp
        try with_reducible rfl
      try simp only [Act.put, List.getElem_toArray, List.getElem_cons_zero, List.getElem_cons_succ, List.setIfInBounds_toArray, List.set_cons_zero, List.set_cons_succ]
      refine wpAnyH_done (by kernel_rfl) ?_ _
      have hB4 : Below W.heap.size W w4 := hHeld
      go_wp2_with fail
      go_roundw
      case rel => exact ⟨⟨j + 1, by go_num, by omega, hB4, by rw [htk.out]; exact hown4⟩⟩
      case measure => simp [intOf]; omega
    · obtain rfl : j = l.length := by omega
      rw [List.take_of_length_le (Nat.le_refl _)] at hown
      have hsl := Sl.of_owns hown
      obtain ⟨g0, ad, cp3, rfl, g1, g2, g3⟩ := id hsl
      have HSL := Lib.hid hsl
      have hlts : (l.map fun y => (y.ev env).k).length = l.length := by simp
      generalize (l.map fun y => (y.ev env).k) = ks at *
      have HBr := Lib.hid hBr
      clear hown g0 g1 g2 g3 hsl hBr hBr0 hW hbx hbe HLT HOK HMA IH HS HTA hbr2 hbe2 hlt hj
      generalize hll : l.length = len at *
      clear hll
      cases HRK.out
      case num ho hR =>
        have e1 : (o == 1) = true := by rw [ho]; decide
        clear hlts HRK
        have HR := Lib.hid hR
        have hv := HR
        clear ho hR
        go_wp2_with fail
        go_ret
        exact ⟨ret_int hv.out.symm, HBr.out⟩
      case key ho hR =>
        have e1 : (o == 1) = false := by rw [ho]; decide
        have e2 : (o == 2) = true := by rw [ho]; decide
        clear hlts HRK
        have HR := Lib.hid hR
        have hv := HR
        clear ho hR
        go_wp2_with fail
        go_ret
        exact ⟨ret_int hv.out.symm, HBr.out⟩
      case val ho hR =>
        have e1 : (o == 1) = false := by rw [ho]; decide
        have e2 : (o == 2) = false := by rw [ho]; decide
        have e3 : (o == 3) = true := by rw [ho]; decide
        clear hlts HRK
        have HR := Lib.hid hR
        have hv := HR
        clear ho hR
        go_wp2_with fail
        go_ret
        exact ⟨ret_int hv.out.symm, HBr.out⟩
      case acc ho hR =>
        have e1 : (o == 1) = false := by rw [ho]; decide
        have e2 : (o == 2) = false := by rw [ho]; decide
        have e3 : (o == 3) = false := by rw [ho]; decide
        have e4 : (o == 4) = true := by rw [ho]; decide
        clear hlts HRK
        have HR := Lib.hid hR
        have hv := HR
        clear ho hR
        go_wp2_with fail
        go_ret
        exact ⟨ret_int hv.out.symm, HBr.out⟩
      case neg a ho hks hR =>
        have e1 : (o == 1) = false := by rw [ho]; decide
        have e2 : (o == 2) = false := by rw [ho]; decide
        have e3 : (o == 3) = false := by rw [ho]; decide
        have e4 : (o == 4) = false := by rw [ho]; decide
        have e5 : (o == 5) = true := by rw [ho]; decide
        subst hks
        obtain rfl : len = 1 := by simpa using hlts.symm
        clear hlts HRK
        obtain ⟨bt0, ot0, ct0, r0, _, hl0, d0⟩ := HSL.out.int 0 (by omega)
        simp only [Value.slice.injEq, true_and] at r0
        obtain ⟨rfl, rfl⟩ := r0
        rw [Nat.add_zero] at d0
        simp only [List.getElem_cons_zero, List.getElem_cons_succ] at d0
        have HR := Lib.hid hR
        have hv := HR
        clear ho hR
        go_wp2_with fail
        go_ret
        exact ⟨ret_int hv.out.symm, HBr.out⟩
      case not a ho hks h01 hR =>
        have e1 : (o == 1) = false := by rw [ho]; decide
        have e2 : (o == 2) = false := by rw [ho]; decide
        have e3 : (o == 3) = false := by rw [ho]; decide
        have e4 : (o == 4) = false := by rw [ho]; decide
        have e5 : (o == 5) = false := by rw [ho]; decide
        have e6 : (o == 6) = true := by rw [ho]; decide
        subst hks
        obtain rfl : len = 1 := by simpa using hlts.symm
        clear hlts HRK
        obtain ⟨bt0, ot0, ct0, r0, _, hl0, d0⟩ := HSL.out.int 0 (by omega)
        simp only [Value.slice.injEq, true_and] at r0
        obtain ⟨rfl, rfl⟩ := r0
        rw [Nat.add_zero] at d0
        simp only [List.getElem_cons_zero, List.getElem_cons_succ] at d0
        have HR := Lib.hid hR
        have hv := HR
        have hw1 : IntKind.i64.wrap (1 - a) = 1 - a := by rcases h01 with rfl | rfl <;> decide
        clear ho hR
        go_wp2_with fail
        go_ret
        exact ⟨ret_int hv.out.symm, HBr.out⟩
      case add a b ho hks hR =>
        have e1 : (o == 1) = false := by rw [ho]; decide
        have e2 : (o == 2) = false := by rw [ho]; decide
        have e3 : (o == 3) = false := by rw [ho]; decide
        have e4 : (o == 4) = false := by rw [ho]; decide
        have e5 : (o == 5) = false := by rw [ho]; decide
        have e6 : (o == 6) = false := by rw [ho]; decide
        have e7 : (o == 7) = true := by rw [ho]; decide
        subst hks
        obtain rfl : len = 2 := by simpa using hlts.symm
        clear hlts HRK
        obtain ⟨bt0, ot0, ct0, r0, _, hl0, d0⟩ := HSL.out.int 0 (by omega)
        simp only [Value.slice.injEq, true_and] at r0
        obtain ⟨rfl, rfl⟩ := r0
        rw [Nat.add_zero] at d0
        obtain ⟨bt1, ot1, ct1, r1, _, hl1, d1⟩ := HSL.out.int 1 (by omega)
        simp only [Value.slice.injEq, Option.some.injEq, Addr.mk.injEq, and_true, true_and] at r1
        obtain ⟨⟨rfl, rfl⟩, rfl⟩ := r1
        simp only [List.getElem_cons_zero, List.getElem_cons_succ] at d0 d1
        have HR := Lib.hid hR
        have hv := HR
        clear ho hR
        go_wp2_with fail
        go_quiet ((go_at_call 98; exact Calls.quiet_of_same (quiet_sym (truth_c _ _))))
        go_wp2_with fail
        go_ret
        exact ⟨ret_int hv.out.symm, below_drewN HBr.out _⟩
      case sub a b ho hks hR =>
        have e1 : (o == 1) = false := by rw [ho]; decide
        have e2 : (o == 2) = false := by rw [ho]; decide
        have e3 : (o == 3) = false := by rw [ho]; decide
        have e4 : (o == 4) = false := by rw [ho]; decide
        have e5 : (o == 5) = false := by rw [ho]; decide
        have e6 : (o == 6) = false := by rw [ho]; decide
        have e7 : (o == 7) = false := by rw [ho]; decide
        have e8 : (o == 8) = true := by rw [ho]; decide
        subst hks
        obtain rfl : len = 2 := by simpa using hlts.symm
        clear hlts HRK
        obtain ⟨bt0, ot0, ct0, r0, _, hl0, d0⟩ := HSL.out.int 0 (by omega)
        simp only [Value.slice.injEq, true_and] at r0
        obtain ⟨rfl, rfl⟩ := r0
        rw [Nat.add_zero] at d0
        obtain ⟨bt1, ot1, ct1, r1, _, hl1, d1⟩ := HSL.out.int 1 (by omega)
        simp only [Value.slice.injEq, Option.some.injEq, Addr.mk.injEq, and_true, true_and] at r1
        obtain ⟨⟨rfl, rfl⟩, rfl⟩ := r1
        simp only [List.getElem_cons_zero, List.getElem_cons_succ] at d0 d1
        have HR := Lib.hid hR
        have hv := HR
        clear ho hR
        go_wp2_with fail
        go_quiet ((go_at_call 98; exact Calls.quiet_of_same (quiet_sym (truth_c _ _))))
        go_wp2_with fail
        go_ret
        exact ⟨ret_int hv.out.symm, below_drewN HBr.out _⟩
      case mul a b ho hks hR =>
        have e1 : (o == 1) = false := by rw [ho]; decide
        have e2 : (o == 2) = false := by rw [ho]; decide
        have e3 : (o == 3) = false := by rw [ho]; decide
        have e4 : (o == 4) = false := by rw [ho]; decide
        have e5 : (o == 5) = false := by rw [ho]; decide
        have e6 : (o == 6) = false := by rw [ho]; decide
        have e7 : (o == 7) = false := by rw [ho]; decide
        have e8 : (o == 8) = false := by rw [ho]; decide
        have e9 : (o == 9) = true := by rw [ho]; decide
        subst hks
        obtain rfl : len = 2 := by simpa using hlts.symm
        clear hlts HRK
        obtain ⟨bt0, ot0, ct0, r0, _, hl0, d0⟩ := HSL.out.int 0 (by omega)
        simp only [Value.slice.injEq, true_and] at r0
        obtain ⟨rfl, rfl⟩ := r0
        rw [Nat.add_zero] at d0
        obtain ⟨bt1, ot1, ct1, r1, _, hl1, d1⟩ := HSL.out.int 1 (by omega)
        simp only [Value.slice.injEq, Option.some.injEq, Addr.mk.injEq, and_true, true_and] at r1
        obtain ⟨⟨rfl, rfl⟩, rfl⟩ := r1
        simp only [List.getElem_cons_zero, List.getElem_cons_succ] at d0 d1
        have HR := Lib.hid hR
        have hv := HR
        clear ho hR
        go_wp2_with fail
        go_quiet ((go_at_call 98; exact Calls.quiet_of_same (quiet_sym (truth_c _ _))))
        go_wp2_with fail
        go_ret
        exact ⟨ret_int hv.out.symm, below_drewN HBr.out _⟩
      case div0 a b ho hks hb0 hR =>
        have e1 : (o == 1) = false := by rw [ho]; decide
        have e2 : (o == 2) = false := by rw [ho]; decide
        have e3 : (o == 3) = false := by rw [ho]; decide
        have e4 : (o == 4) = false := by rw [ho]; decide
        have e5 : (o == 5) = false := by rw [ho]; decide
        have e6 : (o == 6) = false := by rw [ho]; decide
        have e7 : (o == 7) = false := by rw [ho]; decide
        have e8 : (o == 8) = false := by rw [ho]; decide
        have e9 : (o == 9) = false := by rw [ho]; decide
        have e10 : (o == 10) = true := by rw [ho]; decide
        subst hks
        obtain rfl : len = 2 := by simpa using hlts.symm
        clear hlts HRK
        obtain ⟨bt0, ot0, ct0, r0, _, hl0, d0⟩ := HSL.out.int 0 (by omega)
        simp only [Value.slice.injEq, true_and] at r0
        obtain ⟨rfl, rfl⟩ := r0
        rw [Nat.add_zero] at d0
        obtain ⟨bt1, ot1, ct1, r1, _, hl1, d1⟩ := HSL.out.int 1 (by omega)
        simp only [Value.slice.injEq, Option.some.injEq, Addr.mk.injEq, and_true, true_and] at r1
        obtain ⟨⟨rfl, rfl⟩, rfl⟩ := r1
        simp only [List.getElem_cons_zero, List.getElem_cons_succ] at d0 d1
        have HR := Lib.hid hR
        have hbz : (b == 0) = true := by rw [hb0]; rfl
        have hv := HR
        clear ho hR
        go_wp2_with fail
        go_ret
        exact ⟨ret_int hv.out.symm, HBr.out⟩
      case div a b ho hks hb0 hR =>
        have e1 : (o == 1) = false := by rw [ho]; decide
        have e2 : (o == 2) = false := by rw [ho]; decide
        have e3 : (o == 3) = false := by rw [ho]; decide
        have e4 : (o == 4) = false := by rw [ho]; decide
        have e5 : (o == 5) = false := by rw [ho]; decide
        have e6 : (o == 6) = false := by rw [ho]; decide
        have e7 : (o == 7) = false := by rw [ho]; decide
        have e8 : (o == 8) = false := by rw [ho]; decide
        have e9 : (o == 9) = false := by rw [ho]; decide
        have e10 : (o == 10) = true := by rw [ho]; decide
        subst hks
        obtain rfl : len = 2 := by simpa using hlts.symm
        clear hlts HRK
        obtain ⟨bt0, ot0, ct0, r0, _, hl0, d0⟩ := HSL.out.int 0 (by omega)
        simp only [Value.slice.injEq, true_and] at r0
        obtain ⟨rfl, rfl⟩ := r0
        rw [Nat.add_zero] at d0
        obtain ⟨bt1, ot1, ct1, r1, _, hl1, d1⟩ := HSL.out.int 1 (by omega)
        simp only [Value.slice.injEq, Option.some.injEq, Addr.mk.injEq, and_true, true_and] at r1
        obtain ⟨⟨rfl, rfl⟩, rfl⟩ := r1
        simp only [List.getElem_cons_zero, List.getElem_cons_succ] at d0 d1
        have HR := Lib.hid hR
        have hbz : (b == 0) = false := by simpa using hb0
        have hv := HR
        clear ho hR
        go_wp2_with fail
        go_quiet ((go_at_call 98; exact Calls.quiet_of_same (quiet_sym (truth_c _ _))))
        go_wp2_with fail
        go_ret
        exact ⟨ret_int hv.out.symm, below_drewN HBr.out _⟩
      case mod0 a b ho hks hb0 hR =>
        have e1 : (o == 1) = false := by rw [ho]; decide
        have e2 : (o == 2) = false := by rw [ho]; decide
        have e3 : (o == 3) = false := by rw [ho]; decide
        have e4 : (o == 4) = false := by rw [ho]; decide
        have e5 : (o == 5) = false := by rw [ho]; decide
        have e6 : (o == 6) = false := by rw [ho]; decide
        have e7 : (o == 7) = false := by rw [ho]; decide
        have e8 : (o == 8) = false := by rw [ho]; decide
        have e9 : (o == 9) = false := by rw [ho]; decide
        have e10 : (o == 10) = false := by rw [ho]; decide
        have e11 : (o == 11) = true := by rw [ho]; decide
        subst hks
        obtain rfl : len = 2 := by simpa using hlts.symm
        clear hlts HRK
        obtain ⟨bt0, ot0, ct0, r0, _, hl0, d0⟩ := HSL.out.int 0 (by omega)
        simp only [Value.slice.injEq, true_and] at r0
        obtain ⟨rfl, rfl⟩ := r0
        rw [Nat.add_zero] at d0
        obtain ⟨bt1, ot1, ct1, r1, _, hl1, d1⟩ := HSL.out.int 1 (by omega)
        simp only [Value.slice.injEq, Option.some.injEq, Addr.mk.injEq, and_true, true_and] at r1
        obtain ⟨⟨rfl, rfl⟩, rfl⟩ := r1
        simp only [List.getElem_cons_zero, List.getElem_cons_succ] at d0 d1
        have HR := Lib.hid hR
        have hbz : (b == 0) = true := by rw [hb0]; rfl
        have hv := HR
        clear ho hR
        go_wp2_with fail
        go_ret
        exact ⟨ret_int hv.out.symm, HBr.out⟩
      case mod a b ho hks hb0 hR =>
        have e1 : (o == 1) = false := by rw [ho]; decide
        have e2 : (o == 2) = false := by rw [ho]; decide
        have e3 : (o == 3) = false := by rw [ho]; decide
        have e4 : (o == 4) = false := by rw [ho]; decide
        have e5 : (o == 5) = false := by rw [ho]; decide
        have e6 : (o == 6) = false := by rw [ho]; decide
        have e7 : (o == 7) = false := by rw [ho]; decide
        have e8 : (o == 8) = false := by rw [ho]; decide
        have e9 : (o == 9) = false := by rw [ho]; decide
        have e10 : (o == 10) = false := by rw [ho]; decide
        have e11 : (o == 11) = true := by rw [ho]; decide
        subst hks
        obtain rfl : len = 2 := by simpa using hlts.symm
        clear hlts HRK
        obtain ⟨bt0, ot0, ct0, r0, _, hl0, d0⟩ := HSL.out.int 0 (by omega)
        simp only [Value.slice.injEq, true_and] at r0
        obtain ⟨rfl, rfl⟩ := r0
        rw [Nat.add_zero] at d0
        obtain ⟨bt1, ot1, ct1, r1, _, hl1, d1⟩ := HSL.out.int 1 (by omega)
        simp only [Value.slice.injEq, Option.some.injEq, Addr.mk.injEq, and_true, true_and] at r1
        obtain ⟨⟨rfl, rfl⟩, rfl⟩ := r1
        simp only [List.getElem_cons_zero, List.getElem_cons_succ] at d0 d1
        have HR := Lib.hid hR
        have hbz : (b == 0) = false := by simpa using hb0
        have hv := HR
        clear ho hR
        go_wp2_with fail
        go_quiet ((go_at_call 98; exact Calls.quiet_of_same (quiet_sym (truth_c _ _))))
        go_wp2_with fail
        go_ret
        exact ⟨ret_int hv.out.symm, below_drewN HBr.out _⟩
      case less a b ho hks hR =>
        have e1 : (o == 1) = false := by rw [ho]; decide
        have e2 : (o == 2) = false := by rw [ho]; decide
        have e3 : (o == 3) = false := by rw [ho]; decide
        have e4 : (o == 4) = false := by rw [ho]; decide
        have e5 : (o == 5) = false := by rw [ho]; decide
        have e6 : (o == 6) = false := by rw [ho]; decide
        have e7 : (o == 7) = false := by rw [ho]; decide
        have e8 : (o == 8) = false := by rw [ho]; decide
        have e9 : (o == 9) = false := by rw [ho]; decide
        have e10 : (o == 10) = false := by rw [ho]; decide
        have e11 : (o == 11) = false := by rw [ho]; decide
        have e12 : (o == 12) = true := by rw [ho]; decide
        subst hks
        obtain rfl : len = 2 := by simpa using hlts.symm
        clear hlts HRK
        obtain ⟨bt0, ot0, ct0, r0, _, hl0, d0⟩ := HSL.out.int 0 (by omega)
        simp only [Value.slice.injEq, true_and] at r0
        obtain ⟨rfl, rfl⟩ := r0
        rw [Nat.add_zero] at d0
        obtain ⟨bt1, ot1, ct1, r1, _, hl1, d1⟩ := HSL.out.int 1 (by omega)
        simp only [Value.slice.injEq, Option.some.injEq, Addr.mk.injEq, and_true, true_and] at r1
        obtain ⟨⟨rfl, rfl⟩, rfl⟩ := r1
        simp only [List.getElem_cons_zero, List.getElem_cons_succ] at d0 d1
        have HR := Lib.hid hR
        have hv := HR
        clear ho hR
        go_wp2_with fail
        go_quiet ((go_at_call 98; exact Calls.quiet_of_same (quiet_sym (truth_c _ _))))
        go_wp2_with fail
        go_ret
        exact ⟨ret_int hv.out.symm, below_drewN HBr.out _⟩
      case leq a b ho hks hR =>
        have e1 : (o == 1) = false := by rw [ho]; decide
        have e2 : (o == 2) = false := by rw [ho]; decide
        have e3 : (o == 3) = false := by rw [ho]; decide
        have e4 : (o == 4) = false := by rw [ho]; decide
        have e5 : (o == 5) = false := by rw [ho]; decide
        have e6 : (o == 6) = false := by rw [ho]; decide
        have e7 : (o == 7) = false := by rw [ho]; decide
        have e8 : (o == 8) = false := by rw [ho]; decide
        have e9 : (o == 9) = false := by rw [ho]; decide
        have e10 : (o == 10) = false := by rw [ho]; decide
        have e11 : (o == 11) = false := by rw [ho]; decide
        have e12 : (o == 12) = false := by rw [ho]; decide
        have e13 : (o == 13) = true := by rw [ho]; decide
        subst hks
        obtain rfl : len = 2 := by simpa using hlts.symm
        clear hlts HRK
        obtain ⟨bt0, ot0, ct0, r0, _, hl0, d0⟩ := HSL.out.int 0 (by omega)
        simp only [Value.slice.injEq, true_and] at r0
        obtain ⟨rfl, rfl⟩ := r0
        rw [Nat.add_zero] at d0
        obtain ⟨bt1, ot1, ct1, r1, _, hl1, d1⟩ := HSL.out.int 1 (by omega)
        simp only [Value.slice.injEq, Option.some.injEq, Addr.mk.injEq, and_true, true_and] at r1
        obtain ⟨⟨rfl, rfl⟩, rfl⟩ := r1
        simp only [List.getElem_cons_zero, List.getElem_cons_succ] at d0 d1
        have HR := Lib.hid hR
        have hv := HR
        clear ho hR
        go_wp2_with fail
        go_quiet ((go_at_call 98; exact Calls.quiet_of_same (quiet_sym (truth_c _ _))))
        go_wp2_with fail
        go_ret
        exact ⟨ret_int hv.out.symm, below_drewN HBr.out _⟩
      case eq a b ho hks hR =>
        have e1 : (o == 1) = false := by rw [ho]; decide
        have e2 : (o == 2) = false := by rw [ho]; decide
        have e3 : (o == 3) = false := by rw [ho]; decide
        have e4 : (o == 4) = false := by rw [ho]; decide
        have e5 : (o == 5) = false := by rw [ho]; decide
        have e6 : (o == 6) = false := by rw [ho]; decide
        have e7 : (o == 7) = false := by rw [ho]; decide
        have e8 : (o == 8) = false := by rw [ho]; decide
        have e9 : (o == 9) = false := by rw [ho]; decide
        have e10 : (o == 10) = false := by rw [ho]; decide
        have e11 : (o == 11) = false := by rw [ho]; decide
        have e12 : (o == 12) = false := by rw [ho]; decide
        have e13 : (o == 13) = false := by rw [ho]; decide
        have e14 : (o == 14) = true := by rw [ho]; decide
        subst hks
        obtain rfl : len = 2 := by simpa using hlts.symm
        clear hlts HRK
        obtain ⟨bt0, ot0, ct0, r0, _, hl0, d0⟩ := HSL.out.int 0 (by omega)
        simp only [Value.slice.injEq, true_and] at r0
        obtain ⟨rfl, rfl⟩ := r0
        rw [Nat.add_zero] at d0
        obtain ⟨bt1, ot1, ct1, r1, _, hl1, d1⟩ := HSL.out.int 1 (by omega)
        simp only [Value.slice.injEq, Option.some.injEq, Addr.mk.injEq, and_true, true_and] at r1
        obtain ⟨⟨rfl, rfl⟩, rfl⟩ := r1
        simp only [List.getElem_cons_zero, List.getElem_cons_succ] at d0 d1
        have HR := Lib.hid hR
        have hv := HR
        clear ho hR
        go_wp2_with fail
        go_quiet ((go_at_call 98; exact Calls.quiet_of_same (quiet_sym (truth_c _ _))))
        go_wp2_with fail
        go_ret
        exact ⟨ret_int hv.out.symm, below_drewN HBr.out _⟩
      case ne a b ho hks hR =>
        have e1 : (o == 1) = false := by rw [ho]; decide
        have e2 : (o == 2) = false := by rw [ho]; decide
        have e3 : (o == 3) = false := by rw [ho]; decide
        have e4 : (o == 4) = false := by rw [ho]; decide
        have e5 : (o == 5) = false := by rw [ho]; decide
        have e6 : (o == 6) = false := by rw [ho]; decide
        have e7 : (o == 7) = false := by rw [ho]; decide
        have e8 : (o == 8) = false := by rw [ho]; decide
        have e9 : (o == 9) = false := by rw [ho]; decide
        have e10 : (o == 10) = false := by rw [ho]; decide
        have e11 : (o == 11) = false := by rw [ho]; decide
        have e12 : (o == 12) = false := by rw [ho]; decide
        have e13 : (o == 13) = false := by rw [ho]; decide
        have e14 : (o == 14) = false := by rw [ho]; decide
        have e15 : (o == 15) = true := by rw [ho]; decide
        subst hks
        obtain rfl : len = 2 := by simpa using hlts.symm
        clear hlts HRK
        obtain ⟨bt0, ot0, ct0, r0, _, hl0, d0⟩ := HSL.out.int 0 (by omega)
        simp only [Value.slice.injEq, true_and] at r0
        obtain ⟨rfl, rfl⟩ := r0
        rw [Nat.add_zero] at d0
        obtain ⟨bt1, ot1, ct1, r1, _, hl1, d1⟩ := HSL.out.int 1 (by omega)
        simp only [Value.slice.injEq, Option.some.injEq, Addr.mk.injEq, and_true, true_and] at r1
        obtain ⟨⟨rfl, rfl⟩, rfl⟩ := r1
        simp only [List.getElem_cons_zero, List.getElem_cons_succ] at d0 d1
        have HR := Lib.hid hR
        have hv := HR
        clear ho hR
        go_wp2_with fail
        go_quiet ((go_at_call 98; exact Calls.quiet_of_same (quiet_sym (truth_c _ _))))
        go_wp2_with fail
        go_ret
        exact ⟨ret_int hv.out.symm, below_drewN HBr.out _⟩
      case and a b ho hks ha01 hb01 hR =>
        have e1 : (o == 1) = false := by rw [ho]; decide
        have e2 : (o == 2) = false := by rw [ho]; decide
        have e3 : (o == 3) = false := by rw [ho]; decide
        have e4 : (o == 4) = false := by rw [ho]; decide
        have e5 : (o == 5) = false := by rw [ho]; decide
        have e6 : (o == 6) = false := by rw [ho]; decide
        have e7 : (o == 7) = false := by rw [ho]; decide
        have e8 : (o == 8) = false := by rw [ho]; decide
        have e9 : (o == 9) = false := by rw [ho]; decide
        have e10 : (o == 10) = false := by rw [ho]; decide
        have e11 : (o == 11) = false := by rw [ho]; decide
        have e12 : (o == 12) = false := by rw [ho]; decide
        have e13 : (o == 13) = false := by rw [ho]; decide
        have e14 : (o == 14) = false := by rw [ho]; decide
        have e15 : (o == 15) = false := by rw [ho]; decide
        have e16 : (o == 16) = true := by rw [ho]; decide
        subst hks
        obtain rfl : len = 2 := by simpa using hlts.symm
        clear hlts HRK
        obtain ⟨bt0, ot0, ct0, r0, _, hl0, d0⟩ := HSL.out.int 0 (by omega)
        simp only [Value.slice.injEq, true_and] at r0
        obtain ⟨rfl, rfl⟩ := r0
        rw [Nat.add_zero] at d0
        obtain ⟨bt1, ot1, ct1, r1, _, hl1, d1⟩ := HSL.out.int 1 (by omega)
        simp only [Value.slice.injEq, Option.some.injEq, Addr.mk.injEq, and_true, true_and] at r1
        obtain ⟨⟨rfl, rfl⟩, rfl⟩ := r1
        simp only [List.getElem_cons_zero, List.getElem_cons_succ] at d0 d1
        have HR := Lib.hid hR
        have hv := HR
        have hw1 : IntKind.i64.wrap (a * b) = a * b := by rcases ha01 with rfl | rfl <;> rcases hb01 with rfl | rfl <;> decide
        clear ho hR
        go_wp2_with fail
        go_quiet ((go_at_call 98; exact Calls.quiet_of_same (quiet_sym (truth_c _ _))))
        go_wp2_with fail
        go_ret
        exact ⟨ret_int hv.out.symm, below_drewN HBr.out _⟩
      case or a b ho hks ha01 hb01 hR =>
        have e1 : (o == 1) = false := by rw [ho]; decide
        have e2 : (o == 2) = false := by rw [ho]; decide
        have e3 : (o == 3) = false := by rw [ho]; decide
        have e4 : (o == 4) = false := by rw [ho]; decide
        have e5 : (o == 5) = false := by rw [ho]; decide
        have e6 : (o == 6) = false := by rw [ho]; decide
        have e7 : (o == 7) = false := by rw [ho]; decide
        have e8 : (o == 8) = false := by rw [ho]; decide
        have e9 : (o == 9) = false := by rw [ho]; decide
        have e10 : (o == 10) = false := by rw [ho]; decide
        have e11 : (o == 11) = false := by rw [ho]; decide
        have e12 : (o == 12) = false := by rw [ho]; decide
        have e13 : (o == 13) = false := by rw [ho]; decide
        have e14 : (o == 14) = false := by rw [ho]; decide
        have e15 : (o == 15) = false := by rw [ho]; decide
        have e16 : (o == 16) = false := by rw [ho]; decide
        have e17 : (o == 17) = true := by rw [ho]; decide
        subst hks
        obtain rfl : len = 2 := by simpa using hlts.symm
        clear hlts HRK
        obtain ⟨bt0, ot0, ct0, r0, _, hl0, d0⟩ := HSL.out.int 0 (by omega)
        simp only [Value.slice.injEq, true_and] at r0
        obtain ⟨rfl, rfl⟩ := r0
        rw [Nat.add_zero] at d0
        obtain ⟨bt1, ot1, ct1, r1, _, hl1, d1⟩ := HSL.out.int 1 (by omega)
        simp only [Value.slice.injEq, Option.some.injEq, Addr.mk.injEq, and_true, true_and] at r1
        obtain ⟨⟨rfl, rfl⟩, rfl⟩ := r1
        simp only [List.getElem_cons_zero, List.getElem_cons_succ] at d0 d1
        have HR := Lib.hid hR
        have hv := HR
        have hw1 : IntKind.i64.wrap (a + b) = a + b := by rcases ha01 with rfl | rfl <;> rcases hb01 with rfl | rfl <;> decide
        clear ho hR
        go_wp2_with fail
        go_quiet ((go_at_call 98; exact Calls.quiet_of_same (quiet_sym (truth_c _ _))))
        go_wp2_with fail
        go_ret
        exact ⟨ret_int hv.out.symm, below_drewN HBr.out _⟩
      case cond a b c ho hks hR =>
        have e1 : (o == 1) = false := by rw [ho]; decide
        have e2 : (o == 2) = false := by rw [ho]; decide
        have e3 : (o == 3) = false := by rw [ho]; decide
        have e4 : (o == 4) = false := by rw [ho]; decide
        have e5 : (o == 5) = false := by rw [ho]; decide
        have e6 : (o == 6) = false := by rw [ho]; decide
        have e7 : (o == 7) = false := by rw [ho]; decide
        have e8 : (o == 8) = false := by rw [ho]; decide
        have e9 : (o == 9) = false := by rw [ho]; decide
        have e10 : (o == 10) = false := by rw [ho]; decide
        have e11 : (o == 11) = false := by rw [ho]; decide
        have e12 : (o == 12) = false := by rw [ho]; decide
        have e13 : (o == 13) = false := by rw [ho]; decide
        have e14 : (o == 14) = false := by rw [ho]; decide
        have e15 : (o == 15) = false := by rw [ho]; decide
        have e16 : (o == 16) = false := by rw [ho]; decide
        have e17 : (o == 17) = false := by rw [ho]; decide
        have e18 : (o == 18) = true := by rw [ho]; decide
        subst hks
        obtain rfl : len = 3 := by simpa using hlts.symm
        clear hlts HRK
        obtain ⟨bt0, ot0, ct0, r0, _, hl0, d0⟩ := HSL.out.int 0 (by omega)
        simp only [Value.slice.injEq, true_and] at r0
        obtain ⟨rfl, rfl⟩ := r0
        rw [Nat.add_zero] at d0
        obtain ⟨bt1, ot1, ct1, r1, _, hl1, d1⟩ := HSL.out.int 1 (by omega)
        simp only [Value.slice.injEq, Option.some.injEq, Addr.mk.injEq, and_true, true_and] at r1
        obtain ⟨⟨rfl, rfl⟩, rfl⟩ := r1
        obtain ⟨bt2, ot2, ct2, r2, _, hl2, d2⟩ := HSL.out.int 2 (by omega)
        simp only [Value.slice.injEq, Option.some.injEq, Addr.mk.injEq, and_true, true_and] at r2
        obtain ⟨⟨rfl, rfl⟩, rfl⟩ := r2
        simp only [List.getElem_cons_zero, List.getElem_cons_succ] at d0 d1 d2
        have HR := Lib.hid hR
        clear ho hR
        cases hq : (a == 1)
        · have hv : Hid (R = c) := by show _ = _; rw [HR.out, if_neg (by simpa using hq)]
          go_wp2_with fail
          go_ret
          exact ⟨ret_int hv.out.symm, HBr.out⟩
        · have hv : Hid (R = b) := by show _ = _; rw [HR.out, if_pos (by simpa using hq)]
          go_wp2_with fail
          go_ret
          exact ⟨ret_int hv.out.symm, HBr.out⟩

theorem rdo_all (h : Nat) : RDoC h := by
  induction h using Nat.strongRecOn with
  | ind h ih => exact rdo_step h (fun x hx v B w k env hok hm ht hv hB => ih x.ht hx x v B w k env (Nat.le_refl _) hok hm ht hv hB)

end Go.Proofs.Ytfieoehchghiiaa
