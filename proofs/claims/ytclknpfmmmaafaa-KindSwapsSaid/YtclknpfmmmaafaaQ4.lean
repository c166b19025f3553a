/-
  The walk of KindSwaps.
-/
import Derived.Test.YtclknpfmmmaafaaQ3
import Derived.Test.YtclknpfmmmaafaaT9
import Derived.Test.YtclknpfmmmaafaaA0
import Derived.Deep.RegionHeld3
namespace Go.Proofs.Ytclknpfmmmaafaa
open Go.RowKit
set_option linter.unusedVariables false

theorem box3_keep {w W W' : World} {b : Nat} {c00 c01 c02 c10 c11 c12 c20 c21 c22 : Option Value} (h : (W.cell? ⟨b, 0, none⟩ = c00 ∧ W.cell? ⟨b, 1, none⟩ = c01 ∧ W.cell? ⟨b, 2, none⟩ = c02 ∧ W.cell? ⟨b + 1, 0, none⟩ = c10 ∧ W.cell? ⟨b + 1, 1, none⟩ = c11 ∧ W.cell? ⟨b + 1, 2, none⟩ = c12 ∧ W.cell? ⟨b + 2, 0, none⟩ = c20 ∧ W.cell? ⟨b + 2, 1, none⟩ = c21 ∧ W.cell? ⟨b + 2, 2, none⟩ = c22) ∧ Below w.heap.size w W ∧ b + 2 < W.heap.size) (hb : Below W.heap.size W W') :
    (W'.cell? ⟨b, 0, none⟩ = c00 ∧ W'.cell? ⟨b, 1, none⟩ = c01 ∧ W'.cell? ⟨b, 2, none⟩ = c02 ∧ W'.cell? ⟨b + 1, 0, none⟩ = c10 ∧ W'.cell? ⟨b + 1, 1, none⟩ = c11 ∧ W'.cell? ⟨b + 1, 2, none⟩ = c12 ∧ W'.cell? ⟨b + 2, 0, none⟩ = c20 ∧ W'.cell? ⟨b + 2, 1, none⟩ = c21 ∧ W'.cell? ⟨b + 2, 2, none⟩ = c22) ∧ Below w.heap.size w W' ∧ b + 2 < W'.heap.size := by
  obtain ⟨⟨h1, h2, h3, k1, k2, k3, m1, m2, m3⟩, h4, h5⟩ := h
  exact ⟨⟨(hb.cell (p := ⟨b, 0, none⟩) (by show b < _; omega)).trans h1, (hb.cell (p := ⟨b, 1, none⟩) (by show b < _; omega)).trans h2, (hb.cell (p := ⟨b, 2, none⟩) (by show b < _; omega)).trans h3, (hb.cell (p := ⟨b + 1, 0, none⟩) (by show b + 1 < _; omega)).trans k1, (hb.cell (p := ⟨b + 1, 1, none⟩) (by show b + 1 < _; omega)).trans k2, (hb.cell (p := ⟨b + 1, 2, none⟩) (by show b + 1 < _; omega)).trans k3, (hb.cell (p := ⟨b + 2, 0, none⟩) (by show b + 2 < _; omega)).trans m1, (hb.cell (p := ⟨b + 2, 1, none⟩) (by show b + 2 < _; omega)).trans m2, (hb.cell (p := ⟨b + 2, 2, none⟩) (by show b + 2 < _; omega)).trans m3⟩, h4.trans (hb.mono h4.size), Nat.lt_of_lt_of_le h5 hb.size⟩
theorem ebox_below2 {w wa : World} {p q : Prop} (h : p ∧ Below w.heap.size w wa ∧ q) : Below w.heap.size w wa := h.2.1

set_option maxRecDepth 100000 in
set_option maxHeartbeats 8000000 in
theorem kSwaps_c (w : World) (a : Ex) (va : Value) (ga : ExAt w w.heap.size va a) (ka : a.ok) (x : Ex) (vx : Value) (gx : ExAt w w.heap.size vx x) (kx : x.ok) (y : Ex) (vy : Value) (gy : ExAt w w.heap.size vy y) (ky : y.ok) (n : Int) (wn : (Lit.int .i64 n).wf = true) :
    Calls Try.prog 7 #[va, vx, vy, .int .i64 n] w fun e w' => e = .returned (.bool true) ∧ Below w.heap.size w w' := by
  have Ga := Lib.hid ga
  have Gx := Lib.hid gx
  have Gy := Lib.hid gy
  obtain ⟨s1, rfl, hs1⟩ := ga
  obtain ⟨s2, rfl, hs2⟩ := gx
  obtain ⟨s3, rfl, hs3⟩ := gy
  obtain ⟨aa, ac, rfl, hac, hma⟩ := hs1.slice
  obtain ⟨xa, xc, rfl, hxc, hmx⟩ := hs2.slice
  obtain ⟨ya, yc, rfl, hyc, hmy⟩ := hs3.slice
  have HSa := Lib.hid hs1
  have HSx := Lib.hid hs2
  have HSy := Lib.hid hs3
  have hW := (((Below.refl w.heap.size w).alloc (Nat.le_refl _) (.cells #[.int .u8 a.op, .int .i64 a.n, .slice aa a.args.length ac] 28)).alloc (by simp) (.cells #[.int .u8 x.op, .int .i64 x.n, .slice xa x.args.length xc] 28)).alloc (by simp; omega) (.cells #[.int .u8 y.op, .int .i64 y.n, .slice ya y.args.length yc] 28)
  have hb1 := ((Blk.new w #[.int .u8 a.op, .int .i64 a.n, .slice aa a.args.length ac] 28).alloc (.cells #[.int .u8 x.op, .int .i64 x.n, .slice xa x.args.length xc] 28)).alloc (.cells #[.int .u8 y.op, .int .i64 y.n, .slice ya y.args.length yc] 28)
  have hb2 := (Blk.new_at (w.alloc (.cells #[.int .u8 a.op, .int .i64 a.n, .slice aa a.args.length ac] 28)) #[.int .u8 x.op, .int .i64 x.n, .slice xa x.args.length xc] 28 (k := w.heap.size + 1) (by simp)).alloc (.cells #[.int .u8 y.op, .int .i64 y.n, .slice ya y.args.length yc] 28)
  have hb3 := Blk.new_at ((w.alloc (.cells #[.int .u8 a.op, .int .i64 a.n, .slice aa a.args.length ac] 28)).alloc (.cells #[.int .u8 x.op, .int .i64 x.n, .slice xa x.args.length xc] 28)) #[.int .u8 y.op, .int .i64 y.n, .slice ya y.args.length yc] 28 (k := w.heap.size + 2) (by simp)
  have hIS := @Is_c a true 2 (.agg #[.int .u8 a.op, .int .i64 a.n, .slice aa a.args.length ac]) w.heap.size
  have hMAY := @May_c x (.agg #[.int .u8 x.op, .int .i64 x.n, .slice xa x.args.length xc]) w.heap.size
  have HIS := Lib.hid hIS
  have HMAY := Lib.hid hMAY
  clear hIS hMAY
  generalize hao : a.op = ao at *
  generalize han : a.n = an at *
  generalize hal : a.args.length = al at *
  have HEa := Lib.hid (And.intro hao (And.intro han hal))
  clear hao han hal
  generalize hxo : x.op = xo at *
  generalize hxn : x.n = xn at *
  generalize hxl : x.args.length = xl at *
  have HEx := Lib.hid (And.intro hxo (And.intro hxn hxl))
  clear hxo hxn hxl
  generalize hyo : y.op = yo at *
  generalize hyn : y.n = yn at *
  generalize hyl : y.args.length = yl at *
  have HEy := Lib.hid (And.intro hyo (And.intro hyn hyl))
  clear hyo hyn hyl
  clear hs1 hs2 hs3 hac hxc hyc hma hmx hmy ka kx ky wn
  obtain ⟨na, hna⟩ : ∃ n, a.size = n := ⟨_, rfl⟩
  have hza := Ex.size_le a
  rw [hna] at hza
  have HNa := Lib.hid hna
  clear hna
  obtain ⟨nx, hnx⟩ : ∃ n, x.size = n := ⟨_, rfl⟩
  have hzx := Ex.size_le x
  rw [hnx] at hzx
  have HNx := Lib.hid hnx
  clear hnx
  obtain ⟨ny, hny⟩ : ∃ n, y.size = n := ⟨_, rfl⟩
  have hzy := Ex.size_le y
  rw [hny] at hzy
  have HNy := Lib.hid hny
  clear hny
  have hl3 := hb3.lt
  have hw1 : IntKind.i64.wrap ((na : Int) + (nx : Int)) = (na : Int) + (nx : Int) := IntWalk.i64_in _ (by omega)
  have hw2 : IntKind.i64.wrap ((na : Int) + (nx : Int) + (ny : Int)) = (na : Int) + (nx : Int) + (ny : Int) := IntWalk.i64_in _ (by omega)
  by_cases h2000 : na + nx + ny < 2000
  · have hge : decide ((2000 : Int) ≤ (na : Int) + (nx : Int) + (ny : Int)) = false := by rw [decide_eq_false_iff_not]; omega
    have hsw := typ_swap a x y
    have hif := @typ_if a x y
    have hnum := typ_num n
    have HOF1 := Lib.hid (fun v B W => Of_c (.mk 18 0 [a, x, y]) true v B W)
    have HOF2 := Lib.hid (fun v B W => Of_c (.mk 18 0 [a, y, x]) true v B W)
    have HOF3 := Lib.hid (fun v B W => Of_c (.mk 1 n []) false v B W)
    rw [← hsw] at HOF2
    rw [hnum] at HOF3
    generalize (Ex.mk 18 0 [a, x, y]).typ true = p at *
    obtain ⟨t, er⟩ := p
    dsimp only at hif
    clear hsw hnum
    go_enter Try.func7, Try.ntmps7
    go_upto_region 1 with fail
    generalize World.alloc (World.alloc (World.alloc w _) _) _ = W at *
    have HS0 := Lib.hid (And.intro (And.intro (hb1.cell 0) (And.intro (hb1.cell 1) (And.intro (hb1.cell 2) (And.intro (hb2.cell 0) (And.intro (hb2.cell 1) (And.intro (hb2.cell 2) (And.intro (hb3.cell 0) (And.intro (hb3.cell 1) (hb3.cell 2))))))))) (And.intro hW hl3))
    clear hb1 hb2 hb3 hW hl3
    refine wp_region_held_drew (S := (fun w' => (w'.cell? ⟨w.heap.size, 0, none⟩ = some (.int .u8 ao) ∧ w'.cell? ⟨w.heap.size, 1, none⟩ = some (.int .i64 an) ∧ w'.cell? ⟨w.heap.size, 2, none⟩ = some (.slice aa al ac) ∧ w'.cell? ⟨w.heap.size + 1, 0, none⟩ = some (.int .u8 xo) ∧ w'.cell? ⟨w.heap.size + 1, 1, none⟩ = some (.int .i64 xn) ∧ w'.cell? ⟨w.heap.size + 1, 2, none⟩ = some (.slice xa xl xc) ∧ w'.cell? ⟨w.heap.size + 2, 0, none⟩ = some (.int .u8 yo) ∧ w'.cell? ⟨w.heap.size + 2, 1, none⟩ = some (.int .i64 yn) ∧ w'.cell? ⟨w.heap.size + 2, 2, none⟩ = some (.slice ya yl yc)) ∧ Below w.heap.size w w' ∧ w.heap.size + 2 < w'.heap.size)) (by kernel_rfl) ?_ (fun hHeld => ?_)
    · exact box3_keep HS0.out (Below.refl _ _).drew
    refine wpAnyH_take (i := 0) (oi := _) (v := ?_) rfl (by kernel_rfl) (by kernel_rfl) (by kernel_rfl) (fun _ _ _ h => h) (Or.inl ⟨by rfl, ?_⟩) (by assumption) ?_
    rotate_left
    · intro w' hSw
      (try dsimp only at hSw)
      go_simp
      try with_reducible rfl
    try simp only [Act.put, List.getElem_toArray, List.getElem_cons_zero, List.setIfInBounds_toArray, List.set_cons_zero, List.set_cons_succ]
    refine wpAnyH_take (i := 2) (oi := _) (v := ?_) rfl (by kernel_rfl) (by kernel_rfl) (by kernel_rfl) (fun _ _ _ h => h) (Or.inl ⟨by rfl, ?_⟩) (by assumption) ?_
    rotate_left
    · intro w' hSw
      (try dsimp only at hSw)
      go_simp
      try with_reducible rfl
    try simp only [Act.put, List.getElem_toArray, List.getElem_cons_zero, List.getElem_cons_succ, List.setIfInBounds_toArray, List.set_cons_zero, List.set_cons_succ]
    refine wpAnyH_take (i := 5) (oi := _) (v := ?_) rfl (by kernel_rfl) (by kernel_rfl) (by kernel_rfl) (fun _ _ _ h => h) (Or.inl ⟨by rfl, ?_⟩) (by assumption) ?_
    rotate_left
    · intro w' hSw
      (try dsimp only at hSw)
      go_simp
      try with_reducible rfl
    try simp only [Act.put, List.getElem_toArray, List.getElem_cons_zero, List.getElem_cons_succ, List.setIfInBounds_toArray, List.set_cons_zero, List.set_cons_succ]
    refine wpAnyH_ready (rs := [1]) (by kernel_rfl) (by simp) ?_
    refine AllReadyH.cons rfl (fun K hK => ?_) AllReadyH.nil
    go_simp
    go_at_call 15
    refine (Size_c a _ w.heap.size _ (Ga.out.keep (ebox_below2 (by assumption))) (ebox_below2 (by assumption)).size).mono ?_
    rw [HNa.out]
    rintro e w9 ⟨rfl, hq9⟩
    refine hK.out _ _ ?_ (fun hHeld => ?_)
    · first | assumption | (refine box3_keep ?_ hq9; assumption)
    clear hK K
    try simp only [Act.put, List.getElem_toArray, List.getElem_cons_zero, List.getElem_cons_succ, List.setIfInBounds_toArray, List.set_cons_zero, List.set_cons_succ]
    refine wpAnyH_ready (rs := [3]) (by kernel_rfl) (by simp) ?_
    refine AllReadyH.cons rfl (fun K hK => ?_) AllReadyH.nil
    go_simp
    go_at_call 15
    refine (Size_c x _ w.heap.size _ (Gx.out.keep (ebox_below2 (by assumption))) (ebox_below2 (by assumption)).size).mono ?_
    rw [HNx.out]
    rintro e w9 ⟨rfl, hq9⟩
    refine hK.out _ _ ?_ (fun hHeld => ?_)
    · first | assumption | (refine box3_keep ?_ hq9; assumption)
    clear hK K
    try simp only [Act.put, List.getElem_toArray, List.getElem_cons_zero, List.getElem_cons_succ, List.setIfInBounds_toArray, List.set_cons_zero, List.set_cons_succ]
    refine wpAnyH_take (i := 4) (oi := _) (v := ?_) rfl (by kernel_rfl) (by kernel_rfl) (by kernel_rfl) (fun _ _ _ h => h) (Or.inl ⟨by rfl, ?_⟩) (by assumption) ?_
    rotate_left
    · intro w' hSw
      (try dsimp only at hSw)
      go_simp
      try with_reducible rfl
    try simp only [Act.put, List.getElem_toArray, List.getElem_cons_zero, List.getElem_cons_succ, List.setIfInBounds_toArray, List.set_cons_zero, List.set_cons_succ]
    refine wpAnyH_ready (rs := [6]) (by kernel_rfl) (by simp) ?_
    refine AllReadyH.cons rfl (fun K hK => ?_) AllReadyH.nil
    go_simp
    go_at_call 15
    refine (Size_c y _ w.heap.size _ (Gy.out.keep (ebox_below2 (by assumption))) (ebox_below2 (by assumption)).size).mono ?_
    rw [HNy.out]
    rintro e w9 ⟨rfl, hq9⟩
    refine hK.out _ _ ?_ (fun hHeld => ?_)
    · first | assumption | (refine box3_keep ?_ hq9; assumption)
    clear hK K
    try simp only [Act.put, List.getElem_toArray, List.getElem_cons_zero, List.getElem_cons_succ, List.setIfInBounds_toArray, List.set_cons_zero, List.set_cons_succ]
    refine wpAnyH_take (i := 7) (oi := _) (v := ?_) rfl (by kernel_rfl) (by kernel_rfl) (by kernel_rfl) (fun _ _ _ h => h) (Or.inl ⟨by rfl, ?_⟩) (by assumption) ?_
    rotate_left
    · intro w' hSw
      (try dsimp only at hSw)
      go_simp
      try with_reducible rfl
    try simp only [Act.put, List.getElem_toArray, List.getElem_cons_zero, List.getElem_cons_succ, List.setIfInBounds_toArray, List.set_cons_zero, List.set_cons_succ]
    refine wpAnyH_take (i := 8) (oi := _) (v := ?_) rfl (by kernel_rfl) (by kernel_rfl) (by kernel_rfl) (fun _ _ _ h => h) (Or.inl ⟨by rfl, ?_⟩) (by assumption) ?_
    rotate_left
    · intro w' hSw
      (try dsimp only at hSw)
      go_simp
      try with_reducible rfl
    try simp only [Act.put, List.getElem_toArray, List.getElem_cons_zero, List.getElem_cons_succ, List.setIfInBounds_toArray, List.set_cons_zero, List.set_cons_succ]
    refine wpAnyH_done (by kernel_rfl) ?_ _
    have H := Lib.hid hHeld
    clear hHeld
    go_upto_region 3 with fail
    obtain ⟨⟨p0, p1, p2, q0, q1, q2, r0, r1, r2⟩, hBp, hlp⟩ := H.out
    have hA := (Below.refl w9.heap.size w9).alloc (Nat.le_refl _) (.cells #[.int .u8 ao, .int .i64 an, .slice aa al ac, .int .u8 xo, .int .i64 xn, .slice xa xl xc, .int .u8 yo, .int .i64 yn, .slice ya yl yc] 28)
    have hN : Blk (w9.alloc (.cells #[.int .u8 ao, .int .i64 an, .slice aa al ac, .int .u8 xo, .int .i64 xn, .slice xa xl xc, .int .u8 yo, .int .i64 yn, .slice ya yl yc] 28)) w9.heap.size 28 #[.int .u8 a.op, .int .i64 a.n, .slice aa al ac, .int .u8 x.op, .int .i64 x.n, .slice xa xl xc, .int .u8 y.op, .int .i64 y.n, .slice ya yl yc] := by
      rw [HEa.out.1, HEa.out.2.1, HEx.out.1, HEx.out.2.1, HEy.out.1, HEy.out.2.1]
      exact Blk.new _ _ _
    have HX : Hid (ExAt (w9.alloc (.cells #[.int .u8 ao, .int .i64 an, .slice aa al ac, .int .u8 xo, .int .i64 xn, .slice xa xl xc, .int .u8 yo, .int .i64 yn, .slice ya yl yc] 28)) (w9.alloc (.cells #[.int .u8 ao, .int .i64 an, .slice aa al ac, .int .u8 xo, .int .i64 xn, .slice xa xl xc, .int .u8 yo, .int .i64 yn, .slice ya yl yc] 28)).heap.size (.agg #[.int .u8 18, .int .i64 0, .slice (some ⟨w9.heap.size, 0, none⟩) 3 3]) (.mk 18 0 [a, x, y])) :=
      ⟨_, rfl, ArgsAt.three (x := a) (y := x) (z := y) hN hN.lt ((HSa.out.keep (hBp.trans (hA.mono hBp.size))).mono (Nat.le_trans hBp.size hA.size)) ((HSx.out.keep (hBp.trans (hA.mono hBp.size))).mono (Nat.le_trans hBp.size hA.size)) ((HSy.out.keep (hBp.trans (hA.mono hBp.size))).mono (Nat.le_trans hBp.size hA.size))⟩
    have HA := Lib.hid hA
    clear hN hA
    go_wp2_with fail
    refine (HOF1.out _ _ _ HX.out (Nat.le_refl _)).mono ?_
    rintro e w10 ⟨rfl, hq⟩
    replace H := Lib.hid (box3_keep (box3_keep H.out HA.out) hq)
    clear p0 p1 p2 q0 q1 q2 r0 r1 r2 hBp hlp hq HX HA
    go_upto_region 4 with fail
    obtain ⟨⟨p0, p1, p2, q0, q1, q2, r0, r1, r2⟩, hBp, hlp⟩ := H.out
    have hA := (Below.refl w10.heap.size w10).alloc (Nat.le_refl _) (.cells #[.int .u8 ao, .int .i64 an, .slice aa al ac, .int .u8 yo, .int .i64 yn, .slice ya yl yc, .int .u8 xo, .int .i64 xn, .slice xa xl xc] 28)
    have hN : Blk (w10.alloc (.cells #[.int .u8 ao, .int .i64 an, .slice aa al ac, .int .u8 yo, .int .i64 yn, .slice ya yl yc, .int .u8 xo, .int .i64 xn, .slice xa xl xc] 28)) w10.heap.size 28 #[.int .u8 a.op, .int .i64 a.n, .slice aa al ac, .int .u8 y.op, .int .i64 y.n, .slice ya yl yc, .int .u8 x.op, .int .i64 x.n, .slice xa xl xc] := by
      rw [HEa.out.1, HEa.out.2.1, HEx.out.1, HEx.out.2.1, HEy.out.1, HEy.out.2.1]
      exact Blk.new _ _ _
    have HX : Hid (ExAt (w10.alloc (.cells #[.int .u8 ao, .int .i64 an, .slice aa al ac, .int .u8 yo, .int .i64 yn, .slice ya yl yc, .int .u8 xo, .int .i64 xn, .slice xa xl xc] 28)) (w10.alloc (.cells #[.int .u8 ao, .int .i64 an, .slice aa al ac, .int .u8 yo, .int .i64 yn, .slice ya yl yc, .int .u8 xo, .int .i64 xn, .slice xa xl xc] 28)).heap.size (.agg #[.int .u8 18, .int .i64 0, .slice (some ⟨w10.heap.size, 0, none⟩) 3 3]) (.mk 18 0 [a, y, x])) :=
      ⟨_, rfl, ArgsAt.three (x := a) (y := y) (z := x) hN hN.lt ((HSa.out.keep (hBp.trans (hA.mono hBp.size))).mono (Nat.le_trans hBp.size hA.size)) ((HSy.out.keep (hBp.trans (hA.mono hBp.size))).mono (Nat.le_trans hBp.size hA.size)) ((HSx.out.keep (hBp.trans (hA.mono hBp.size))).mono (Nat.le_trans hBp.size hA.size))⟩
    have HA := Lib.hid hA
    clear hN hA
    go_wp2_with fail
    refine (HOF2.out _ _ _ HX.out (Nat.le_refl _)).mono ?_
    rintro e w11 ⟨rfl, hq⟩
    replace H := Lib.hid (box3_keep (box3_keep H.out HA.out) hq)
    clear p0 p1 p2 q0 q1 q2 r0 r1 r2 hBp hlp hq HX HA
    go_upto_region 5 with fail
    go_wp2_with fail
    refine (HOF3.out _ w11.heap.size _ ⟨_, rfl, .nil none 0 (Nat.zero_le _)⟩ (Nat.le_refl _)).mono ?_
    rintro e w12 ⟨rfl, hq⟩
    replace H := Lib.hid (box3_keep H.out hq)
    clear hq
    by_cases hn : 0 ≤ n
    all_goals
      first | rw [if_pos hn] | rw [if_neg hn]
      dsimp only
      obtain ⟨⟨p0, p1, p2, q0, q1, q2, r0, r1, r2⟩, hBp, hlp⟩ := H.out
      have htt : (t == t) = true := by simp
      have hee : (er == er) = true := by simp
      by_cases he : er = 0
      · obtain ⟨i1, i2, _⟩ := hif he
        have he' : (er != 0) = false := by simpa using he
        have HI := Lib.hid i1
        have HM := Lib.hid i2
        clear hif he i1 i2
        go_wp2_with fail
        refine (HIS.out _ (Ga.out.keep hBp) hBp.size).mono ?_
        rw [HI.out]
        rintro e w13 ⟨rfl, hq⟩
        replace H := Lib.hid (box3_keep H.out hq)
        clear p0 p1 p2 q0 q1 q2 r0 r1 r2 hBp hlp hq
        obtain ⟨⟨p0, p1, p2, q0, q1, q2, r0, r1, r2⟩, hBp, hlp⟩ := H.out
        go_wp2_with fail
        refine (HMAY.out _ (Gx.out.keep hBp) hBp.size).mono ?_
        rw [HM.out]
        rintro e w14 ⟨rfl, hq⟩
        replace H := Lib.hid (box3_keep H.out hq)
        clear p0 p1 p2 q0 q1 q2 r0 r1 r2 hBp hlp hq
        have hBp := H.out.2.1
        go_wp2_with (go_at_call 14; refine (kworks_c _).mono ?_; rintro e w15 ⟨rfl, hq⟩)
        go_ret
        exact ⟨rfl, hBp.trans (hq.mono hBp.size)⟩
      · have he' : (er != 0) = true := by simpa using he
        clear hif he
        go_wp2_with (go_at_call 14; refine (kworks_c _).mono ?_; rintro e w15 ⟨rfl, hq⟩)
        go_ret
        exact ⟨rfl, hBp.trans (hq.mono hBp.size)⟩
  · have hge : decide ((2000 : Int) ≤ (na : Int) + (nx : Int) + (ny : Int)) = true := by rw [decide_eq_true_eq]; omega
    go_enter Try.func7, Try.ntmps7
    go_upto_region 1 with fail
    generalize World.alloc (World.alloc (World.alloc w _) _) _ = W at *
    have HS0 := Lib.hid (And.intro (And.intro (hb1.cell 0) (And.intro (hb1.cell 1) (And.intro (hb1.cell 2) (And.intro (hb2.cell 0) (And.intro (hb2.cell 1) (And.intro (hb2.cell 2) (And.intro (hb3.cell 0) (And.intro (hb3.cell 1) (hb3.cell 2))))))))) (And.intro hW hl3))
    clear hb1 hb2 hb3 hW hl3
    refine wp_region_held_drew (S := (fun w' => (w'.cell? ⟨w.heap.size, 0, none⟩ = some (.int .u8 ao) ∧ w'.cell? ⟨w.heap.size, 1, none⟩ = some (.int .i64 an) ∧ w'.cell? ⟨w.heap.size, 2, none⟩ = some (.slice aa al ac) ∧ w'.cell? ⟨w.heap.size + 1, 0, none⟩ = some (.int .u8 xo) ∧ w'.cell? ⟨w.heap.size + 1, 1, none⟩ = some (.int .i64 xn) ∧ w'.cell? ⟨w.heap.size + 1, 2, none⟩ = some (.slice xa xl xc) ∧ w'.cell? ⟨w.heap.size + 2, 0, none⟩ = some (.int .u8 yo) ∧ w'.cell? ⟨w.heap.size + 2, 1, none⟩ = some (.int .i64 yn) ∧ w'.cell? ⟨w.heap.size + 2, 2, none⟩ = some (.slice ya yl yc)) ∧ Below w.heap.size w w' ∧ w.heap.size + 2 < w'.heap.size)) (by kernel_rfl) ?_ (fun hHeld => ?_)
    · exact box3_keep HS0.out (Below.refl _ _).drew
    refine wpAnyH_take (i := 0) (oi := _) (v := ?_) rfl (by kernel_rfl) (by kernel_rfl) (by kernel_rfl) (fun _ _ _ h => h) (Or.inl ⟨by rfl, ?_⟩) (by assumption) ?_
    rotate_left
    · intro w' hSw
      (try dsimp only at hSw)
      go_simp
      try with_reducible rfl
    try simp only [Act.put, List.getElem_toArray, List.getElem_cons_zero, List.setIfInBounds_toArray, List.set_cons_zero, List.set_cons_succ]
    refine wpAnyH_take (i := 2) (oi := _) (v := ?_) rfl (by kernel_rfl) (by kernel_rfl) (by kernel_rfl) (fun _ _ _ h => h) (Or.inl ⟨by rfl, ?_⟩) (by assumption) ?_
    rotate_left
    · intro w' hSw
      (try dsimp only at hSw)
      go_simp
      try with_reducible rfl
    try simp only [Act.put, List.getElem_toArray, List.getElem_cons_zero, List.getElem_cons_succ, List.setIfInBounds_toArray, List.set_cons_zero, List.set_cons_succ]
    refine wpAnyH_take (i := 5) (oi := _) (v := ?_) rfl (by kernel_rfl) (by kernel_rfl) (by kernel_rfl) (fun _ _ _ h => h) (Or.inl ⟨by rfl, ?_⟩) (by assumption) ?_
    rotate_left
    · intro w' hSw
      (try dsimp only at hSw)
      go_simp
      try with_reducible rfl
    try simp only [Act.put, List.getElem_toArray, List.getElem_cons_zero, List.getElem_cons_succ, List.setIfInBounds_toArray, List.set_cons_zero, List.set_cons_succ]
    refine wpAnyH_ready (rs := [1]) (by kernel_rfl) (by simp) ?_
    refine AllReadyH.cons rfl (fun K hK => ?_) AllReadyH.nil
    go_simp
    go_at_call 15
    refine (Size_c a _ w.heap.size _ (Ga.out.keep (ebox_below2 (by assumption))) (ebox_below2 (by assumption)).size).mono ?_
    rw [HNa.out]
    rintro e w9 ⟨rfl, hq9⟩
    refine hK.out _ _ ?_ (fun hHeld => ?_)
    · first | assumption | (refine box3_keep ?_ hq9; assumption)
    clear hK K
    try simp only [Act.put, List.getElem_toArray, List.getElem_cons_zero, List.getElem_cons_succ, List.setIfInBounds_toArray, List.set_cons_zero, List.set_cons_succ]
    refine wpAnyH_ready (rs := [3]) (by kernel_rfl) (by simp) ?_
    refine AllReadyH.cons rfl (fun K hK => ?_) AllReadyH.nil
    go_simp
    go_at_call 15
    refine (Size_c x _ w.heap.size _ (Gx.out.keep (ebox_below2 (by assumption))) (ebox_below2 (by assumption)).size).mono ?_
    rw [HNx.out]
    rintro e w9 ⟨rfl, hq9⟩
    refine hK.out _ _ ?_ (fun hHeld => ?_)
    · first | assumption | (refine box3_keep ?_ hq9; assumption)
    clear hK K
    try simp only [Act.put, List.getElem_toArray, List.getElem_cons_zero, List.getElem_cons_succ, List.setIfInBounds_toArray, List.set_cons_zero, List.set_cons_succ]
    refine wpAnyH_take (i := 4) (oi := _) (v := ?_) rfl (by kernel_rfl) (by kernel_rfl) (by kernel_rfl) (fun _ _ _ h => h) (Or.inl ⟨by rfl, ?_⟩) (by assumption) ?_
    rotate_left
    · intro w' hSw
      (try dsimp only at hSw)
      go_simp
      try with_reducible rfl
    try simp only [Act.put, List.getElem_toArray, List.getElem_cons_zero, List.getElem_cons_succ, List.setIfInBounds_toArray, List.set_cons_zero, List.set_cons_succ]
    refine wpAnyH_ready (rs := [6]) (by kernel_rfl) (by simp) ?_
    refine AllReadyH.cons rfl (fun K hK => ?_) AllReadyH.nil
    go_simp
    go_at_call 15
    refine (Size_c y _ w.heap.size _ (Gy.out.keep (ebox_below2 (by assumption))) (ebox_below2 (by assumption)).size).mono ?_
    rw [HNy.out]
    rintro e w9 ⟨rfl, hq9⟩
    refine hK.out _ _ ?_ (fun hHeld => ?_)
    · first | assumption | (refine box3_keep ?_ hq9; assumption)
    clear hK K
    try simp only [Act.put, List.getElem_toArray, List.getElem_cons_zero, List.getElem_cons_succ, List.setIfInBounds_toArray, List.set_cons_zero, List.set_cons_succ]
    refine wpAnyH_take (i := 7) (oi := _) (v := ?_) rfl (by kernel_rfl) (by kernel_rfl) (by kernel_rfl) (fun _ _ _ h => h) (Or.inl ⟨by rfl, ?_⟩) (by assumption) ?_
    rotate_left
    · intro w' hSw
      (try dsimp only at hSw)
      go_simp
      try with_reducible rfl
    try simp only [Act.put, List.getElem_toArray, List.getElem_cons_zero, List.getElem_cons_succ, List.setIfInBounds_toArray, List.set_cons_zero, List.set_cons_succ]
    refine wpAnyH_take (i := 8) (oi := _) (v := ?_) rfl (by kernel_rfl) (by kernel_rfl) (by kernel_rfl) (fun _ _ _ h => h) (Or.inl ⟨by rfl, ?_⟩) (by assumption) ?_
    rotate_left
    · intro w' hSw
      (try dsimp only at hSw)
      go_simp
      try with_reducible rfl
    try simp only [Act.put, List.getElem_toArray, List.getElem_cons_zero, List.getElem_cons_succ, List.setIfInBounds_toArray, List.set_cons_zero, List.set_cons_succ]
    refine wpAnyH_done (by kernel_rfl) ?_ _
    have hBp := hHeld.2.1
    clear hHeld
    go_wp2_with (go_at_call 14; refine (kworks_c _).mono ?_; rintro e w15 ⟨rfl, hq⟩)
    go_ret
    exact ⟨rfl, hBp.trans (hq.mono hBp.size)⟩

end Go.Proofs.Ytclknpfmmmaafaa
