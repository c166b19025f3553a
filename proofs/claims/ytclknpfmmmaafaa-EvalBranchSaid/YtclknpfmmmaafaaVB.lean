/-
  The walk of EvalBranch.
-/
import Derived.Test.YtclknpfmmmaafaaVA
import Derived.Test.YtclknpfmmmaafaaV7
import Derived.Test.YtclknpfmmmaafaaT9
import Derived.Test.YtclknpfmmmaafaaA1
import Derived.Deep.RegionHeld3
namespace Go.Proofs.Ytclknpfmmmaafaa
open Go.RowKit
set_option linter.unusedVariables false

theorem box5_keep {w W W' : World} {b : Nat} {c00 c01 c02 c10 c11 c12 c20 c21 c22 c30 c31 c32 c40 c41 c42 : Option Value} (h : (W.cell? ⟨b, 0, none⟩ = c00 ∧ W.cell? ⟨b, 1, none⟩ = c01 ∧ W.cell? ⟨b, 2, none⟩ = c02 ∧ W.cell? ⟨b + 1, 0, none⟩ = c10 ∧ W.cell? ⟨b + 1, 1, none⟩ = c11 ∧ W.cell? ⟨b + 1, 2, none⟩ = c12 ∧ W.cell? ⟨b + 2, 0, none⟩ = c20 ∧ W.cell? ⟨b + 2, 1, none⟩ = c21 ∧ W.cell? ⟨b + 2, 2, none⟩ = c22 ∧ W.cell? ⟨b + 3, 0, none⟩ = c30 ∧ W.cell? ⟨b + 3, 1, none⟩ = c31 ∧ W.cell? ⟨b + 3, 2, none⟩ = c32 ∧ W.cell? ⟨b + 4, 0, none⟩ = c40 ∧ W.cell? ⟨b + 4, 1, none⟩ = c41 ∧ W.cell? ⟨b + 4, 2, none⟩ = c42) ∧ Below w.heap.size w W ∧ b + 4 < W.heap.size) (hb : Below W.heap.size W W') :
    (W'.cell? ⟨b, 0, none⟩ = c00 ∧ W'.cell? ⟨b, 1, none⟩ = c01 ∧ W'.cell? ⟨b, 2, none⟩ = c02 ∧ W'.cell? ⟨b + 1, 0, none⟩ = c10 ∧ W'.cell? ⟨b + 1, 1, none⟩ = c11 ∧ W'.cell? ⟨b + 1, 2, none⟩ = c12 ∧ W'.cell? ⟨b + 2, 0, none⟩ = c20 ∧ W'.cell? ⟨b + 2, 1, none⟩ = c21 ∧ W'.cell? ⟨b + 2, 2, none⟩ = c22 ∧ W'.cell? ⟨b + 3, 0, none⟩ = c30 ∧ W'.cell? ⟨b + 3, 1, none⟩ = c31 ∧ W'.cell? ⟨b + 3, 2, none⟩ = c32 ∧ W'.cell? ⟨b + 4, 0, none⟩ = c40 ∧ W'.cell? ⟨b + 4, 1, none⟩ = c41 ∧ W'.cell? ⟨b + 4, 2, none⟩ = c42) ∧ Below w.heap.size w W' ∧ b + 4 < W'.heap.size := by
  obtain ⟨⟨h00, h01, h02, h10, h11, h12, h20, h21, h22, h30, h31, h32, h40, h41, h42⟩, hB, hl⟩ := h
  exact ⟨⟨(hb.cell (p := ⟨b, 0, none⟩) (by show b < _; omega)).trans h00, (hb.cell (p := ⟨b, 1, none⟩) (by show b < _; omega)).trans h01, (hb.cell (p := ⟨b, 2, none⟩) (by show b < _; omega)).trans h02, (hb.cell (p := ⟨b + 1, 0, none⟩) (by show b + 1 < _; omega)).trans h10, (hb.cell (p := ⟨b + 1, 1, none⟩) (by show b + 1 < _; omega)).trans h11, (hb.cell (p := ⟨b + 1, 2, none⟩) (by show b + 1 < _; omega)).trans h12, (hb.cell (p := ⟨b + 2, 0, none⟩) (by show b + 2 < _; omega)).trans h20, (hb.cell (p := ⟨b + 2, 1, none⟩) (by show b + 2 < _; omega)).trans h21, (hb.cell (p := ⟨b + 2, 2, none⟩) (by show b + 2 < _; omega)).trans h22, (hb.cell (p := ⟨b + 3, 0, none⟩) (by show b + 3 < _; omega)).trans h30, (hb.cell (p := ⟨b + 3, 1, none⟩) (by show b + 3 < _; omega)).trans h31, (hb.cell (p := ⟨b + 3, 2, none⟩) (by show b + 3 < _; omega)).trans h32, (hb.cell (p := ⟨b + 4, 0, none⟩) (by show b + 4 < _; omega)).trans h40, (hb.cell (p := ⟨b + 4, 1, none⟩) (by show b + 4 < _; omega)).trans h41, (hb.cell (p := ⟨b + 4, 2, none⟩) (by show b + 4 < _; omega)).trans h42⟩, hB.trans (hb.mono hB.size), Nat.lt_of_lt_of_le hl hb.size⟩
theorem ebox_below5 {w wa : World} {p q : Prop} (h : p ∧ Below w.heap.size w wa ∧ q) : Below w.heap.size w wa := h.2.1
set_option maxRecDepth 100000 in
set_option maxHeartbeats 8000000 in
theorem evBranch_c (w : World) (a : Ex) (va : Value) (ga : ExAt w w.heap.size va a) (ka : a.ok) (x : Ex) (vx : Value) (gx : ExAt w w.heap.size vx x) (kx : x.ok) (y : Ex) (vy : Value) (gy : ExAt w w.heap.size vy y) (ky : y.ok) (z : Ex) (vz : Value) (gz : ExAt w w.heap.size vz z) (kz : z.ok) (env : Env) :
    Calls Try.prog 9 #[va, vx, vy, vz, env.v0] w fun e w' => e = .returned (.bool true) ∧ Below w.heap.size w w' := by
  have Ga := Lib.hid ga
  have Gx := Lib.hid gx
  have Gy := Lib.hid gy
  have Gz := Lib.hid gz
  obtain ⟨sa, rfl, hsa⟩ := ga
  obtain ⟨aa, ac, rfl, _, _⟩ := hsa.slice
  have HSa := Lib.hid hsa
  obtain ⟨sx, rfl, hsx⟩ := gx
  obtain ⟨xa, xc, rfl, _, _⟩ := hsx.slice
  have HSx := Lib.hid hsx
  obtain ⟨sy, rfl, hsy⟩ := gy
  obtain ⟨ya, yc, rfl, _, _⟩ := hsy.slice
  have HSy := Lib.hid hsy
  obtain ⟨sz, rfl, hsz⟩ := gz
  obtain ⟨za, zc, rfl, _, _⟩ := hsz.slice
  have HSz := Lib.hid hsz
  have hW := ((((((Below.refl w.heap.size w).alloc (Nat.le_refl _) (.cells #[.int .u8 a.op, .int .i64 a.n, .slice aa a.args.length ac] 28)).alloc (by simp) (.cells #[.int .u8 x.op, .int .i64 x.n, .slice xa x.args.length xc] 28)).alloc (by simp; omega) (.cells #[.int .u8 y.op, .int .i64 y.n, .slice ya y.args.length yc] 28)).alloc (by simp; omega) (.cells #[.int .u8 z.op, .int .i64 z.n, .slice za z.args.length zc] 28)).alloc (by simp; omega) (.cells #[.int .i64 env.key, .int .i64 env.val, .int .i64 env.acc] 38))
  have hb0 := (((((Blk.new w #[.int .u8 a.op, .int .i64 a.n, .slice aa a.args.length ac] 28).alloc (.cells #[.int .u8 x.op, .int .i64 x.n, .slice xa x.args.length xc] 28)).alloc (.cells #[.int .u8 y.op, .int .i64 y.n, .slice ya y.args.length yc] 28)).alloc (.cells #[.int .u8 z.op, .int .i64 z.n, .slice za z.args.length zc] 28)).alloc (.cells #[.int .i64 env.key, .int .i64 env.val, .int .i64 env.acc] 38))
  have hb1 := ((((Blk.new_at (w.alloc (.cells #[.int .u8 a.op, .int .i64 a.n, .slice aa a.args.length ac] 28)) #[.int .u8 x.op, .int .i64 x.n, .slice xa x.args.length xc] 28 (k := w.heap.size + 1) (by simp)).alloc (.cells #[.int .u8 y.op, .int .i64 y.n, .slice ya y.args.length yc] 28)).alloc (.cells #[.int .u8 z.op, .int .i64 z.n, .slice za z.args.length zc] 28)).alloc (.cells #[.int .i64 env.key, .int .i64 env.val, .int .i64 env.acc] 38))
  have hb2 := (((Blk.new_at ((w.alloc (.cells #[.int .u8 a.op, .int .i64 a.n, .slice aa a.args.length ac] 28)).alloc (.cells #[.int .u8 x.op, .int .i64 x.n, .slice xa x.args.length xc] 28)) #[.int .u8 y.op, .int .i64 y.n, .slice ya y.args.length yc] 28 (k := w.heap.size + 2) (by simp)).alloc (.cells #[.int .u8 z.op, .int .i64 z.n, .slice za z.args.length zc] 28)).alloc (.cells #[.int .i64 env.key, .int .i64 env.val, .int .i64 env.acc] 38))
  have hb3 := ((Blk.new_at (((w.alloc (.cells #[.int .u8 a.op, .int .i64 a.n, .slice aa a.args.length ac] 28)).alloc (.cells #[.int .u8 x.op, .int .i64 x.n, .slice xa x.args.length xc] 28)).alloc (.cells #[.int .u8 y.op, .int .i64 y.n, .slice ya y.args.length yc] 28)) #[.int .u8 z.op, .int .i64 z.n, .slice za z.args.length zc] 28 (k := w.heap.size + 3) (by simp)).alloc (.cells #[.int .i64 env.key, .int .i64 env.val, .int .i64 env.acc] 38))
  have hb4 := (Blk.new_at ((((w.alloc (.cells #[.int .u8 a.op, .int .i64 a.n, .slice aa a.args.length ac] 28)).alloc (.cells #[.int .u8 x.op, .int .i64 x.n, .slice xa x.args.length xc] 28)).alloc (.cells #[.int .u8 y.op, .int .i64 y.n, .slice ya y.args.length yc] 28)).alloc (.cells #[.int .u8 z.op, .int .i64 z.n, .slice za z.args.length zc] 28)) #[.int .i64 env.key, .int .i64 env.val, .int .i64 env.acc] 38 (k := w.heap.size + 4) (by simp))
  have HBOOL := Lib.hid (fun v B W => Bool_c a ka v B W env)
  have HD1 := Lib.hid (fun v B W => Do_c (.mk 18 0 [a, x, y]) (by simp [Ex.ok, Exs.ok, ka, kx, ky]) v B W env)
  have HD2 := Lib.hid (fun v B W => Do_c (.mk 18 0 [a, x, z]) (by simp [Ex.ok, Exs.ok, ka, kx, kz]) v B W env)
  have HD3 := Lib.hid (fun v B W => Do_c x kx v B W env)
  have HOF := Lib.hid (fun v B W => Of_c x true v B W)
  have hif1 := @doR_if a x y env
  have hif2 := @doR_if a x z env
  have hxe := doR_e x env
  generalize (Ex.mk 18 0 [a, x, y]).doR env = r1 at *
  generalize (Ex.mk 18 0 [a, x, z]).doR env = r2 at *
  generalize a.doR env = ra at *
  generalize x.doR env = rx at *
  generalize x.typ true = tx at *
  generalize hao : a.op = ao at *
  generalize han : a.n = an at *
  generalize hal : a.args.length = al at *
  have HEa := Lib.hid (And.intro hao (And.intro han hal))
  clear hao han hal
  generalize hxo : x.op = xo at *
  generalize hxn : x.n = xn at *
  generalize hxl : x.args.length = xl at *
  have HEx := Lib.hid (And.intro hxo (And.intro hxn hxl))
  clear hxo hxn hxl
  generalize hyo : y.op = yo at *
  generalize hyn : y.n = yn at *
  generalize hyl : y.args.length = yl at *
  have HEy := Lib.hid (And.intro hyo (And.intro hyn hyl))
  clear hyo hyn hyl
  generalize hzo : z.op = zo at *
  generalize hzn : z.n = zn at *
  generalize hzl : z.args.length = zl at *
  have HEz := Lib.hid (And.intro hzo (And.intro hzn hzl))
  clear hzo hzn hzl
  clear hsa hsx hsy hsz ka kx ky kz
  obtain ⟨na, hna⟩ : ∃ n, a.size = n := ⟨_, rfl⟩
  have hza := Ex.size_le a
  rw [hna] at hza
  have HNa := Lib.hid hna
  clear hna
  obtain ⟨nx, hnx⟩ : ∃ n, x.size = n := ⟨_, rfl⟩
  have hzx := Ex.size_le x
  rw [hnx] at hzx
  have HNx := Lib.hid hnx
  clear hnx
  obtain ⟨ny, hny⟩ : ∃ n, y.size = n := ⟨_, rfl⟩
  have hzy := Ex.size_le y
  rw [hny] at hzy
  have HNy := Lib.hid hny
  clear hny
  obtain ⟨nz, hnz⟩ : ∃ n, z.size = n := ⟨_, rfl⟩
  have hzz := Ex.size_le z
  rw [hnz] at hzz
  have HNz := Lib.hid hnz
  clear hnz
  have hl5 := hb4.lt
  have hw1 : IntKind.i64.wrap ((na : Int) + (nx : Int)) = (na : Int) + (nx : Int) := IntWalk.i64_in _ (by omega)
  have hw2 : IntKind.i64.wrap ((na : Int) + (nx : Int) + (ny : Int)) = (na : Int) + (nx : Int) + (ny : Int) := IntWalk.i64_in _ (by omega)
  have hw3 : IntKind.i64.wrap ((na : Int) + (nx : Int) + (ny : Int) + (nz : Int)) = (na : Int) + (nx : Int) + (ny : Int) + (nz : Int) := IntWalk.i64_in _ (by omega)
  by_cases h2000 : na + nx + ny + nz < 2000
  · have hge : decide ((2000 : Int) ≤ (na : Int) + (nx : Int) + (ny : Int) + (nz : Int)) = false := by rw [decide_eq_false_iff_not]; omega
    unfold Env.v0
    go_enter Try.func9, Try.ntmps9
    go_upto_region 1 with fail
    generalize World.alloc (World.alloc (World.alloc (World.alloc (World.alloc w _) _) _) _) _ = W at *
    have HS0 := Lib.hid (And.intro (And.intro (hb0.cell 0) (And.intro (hb0.cell 1) (And.intro (hb0.cell 2) (And.intro (hb1.cell 0) (And.intro (hb1.cell 1) (And.intro (hb1.cell 2) (And.intro (hb2.cell 0) (And.intro (hb2.cell 1) (And.intro (hb2.cell 2) (And.intro (hb3.cell 0) (And.intro (hb3.cell 1) (And.intro (hb3.cell 2) (And.intro (hb4.cell 0) (And.intro (hb4.cell 1) (hb4.cell 2))))))))))))))) (And.intro hW hl5))
    clear hb0 hb1 hb2 hb3 hb4 hW hl5
    refine wp_region_held_drew (S := (fun w' => (w'.cell? ⟨w.heap.size, 0, none⟩ = some (.int .u8 ao) ∧ w'.cell? ⟨w.heap.size, 1, none⟩ = some (.int .i64 an) ∧ w'.cell? ⟨w.heap.size, 2, none⟩ = some (.slice aa al ac) ∧ w'.cell? ⟨w.heap.size + 1, 0, none⟩ = some (.int .u8 xo) ∧ w'.cell? ⟨w.heap.size + 1, 1, none⟩ = some (.int .i64 xn) ∧ w'.cell? ⟨w.heap.size + 1, 2, none⟩ = some (.slice xa xl xc) ∧ w'.cell? ⟨w.heap.size + 2, 0, none⟩ = some (.int .u8 yo) ∧ w'.cell? ⟨w.heap.size + 2, 1, none⟩ = some (.int .i64 yn) ∧ w'.cell? ⟨w.heap.size + 2, 2, none⟩ = some (.slice ya yl yc) ∧ w'.cell? ⟨w.heap.size + 3, 0, none⟩ = some (.int .u8 zo) ∧ w'.cell? ⟨w.heap.size + 3, 1, none⟩ = some (.int .i64 zn) ∧ w'.cell? ⟨w.heap.size + 3, 2, none⟩ = some (.slice za zl zc) ∧ w'.cell? ⟨w.heap.size + 4, 0, none⟩ = some (.int .i64 env.key) ∧ w'.cell? ⟨w.heap.size + 4, 1, none⟩ = some (.int .i64 env.val) ∧ w'.cell? ⟨w.heap.size + 4, 2, none⟩ = some (.int .i64 env.acc)) ∧ Below w.heap.size w w' ∧ w.heap.size + 4 < w'.heap.size)) (by kernel_rfl) ?_ (fun hHeld => ?_)
    · exact box5_keep HS0.out (Below.refl _ _).drew
    refine wpAnyH_take (i := 0) (oi := _) (v := ?_) rfl (by kernel_rfl) (by kernel_rfl) (by kernel_rfl) (fun _ _ _ h => h) (Or.inl ⟨by rfl, ?_⟩) (by assumption) ?_
    rotate_left
    · intro w' hSw
      (try dsimp only at hSw)
      go_simp
      try with_reducible rfl
    try simp only [Act.put, List.getElem_toArray, List.getElem_cons_zero, List.setIfInBounds_toArray, List.set_cons_zero, List.set_cons_succ]
    refine wpAnyH_take (i := 2) (oi := _) (v := ?_) rfl (by kernel_rfl) (by kernel_rfl) (by kernel_rfl) (fun _ _ _ h => h) (Or.inl ⟨by rfl, ?_⟩) (by assumption) ?_
    rotate_left
    · intro w' hSw
      (try dsimp only at hSw)
      go_simp
      try with_reducible rfl
    try simp only [Act.put, List.getElem_toArray, List.getElem_cons_zero, List.getElem_cons_succ, List.setIfInBounds_toArray, List.set_cons_zero, List.set_cons_succ]
    refine wpAnyH_take (i := 5) (oi := _) (v := ?_) rfl (by kernel_rfl) (by kernel_rfl) (by kernel_rfl) (fun _ _ _ h => h) (Or.inl ⟨by rfl, ?_⟩) (by assumption) ?_
    rotate_left
    · intro w' hSw
      (try dsimp only at hSw)
      go_simp
      try with_reducible rfl
    try simp only [Act.put, List.getElem_toArray, List.getElem_cons_zero, List.getElem_cons_succ, List.setIfInBounds_toArray, List.set_cons_zero, List.set_cons_succ]
    refine wpAnyH_take (i := 8) (oi := _) (v := ?_) rfl (by kernel_rfl) (by kernel_rfl) (by kernel_rfl) (fun _ _ _ h => h) (Or.inl ⟨by rfl, ?_⟩) (by assumption) ?_
    rotate_left
    · intro w' hSw
      (try dsimp only at hSw)
      go_simp
      try with_reducible rfl
    try simp only [Act.put, List.getElem_toArray, List.getElem_cons_zero, List.getElem_cons_succ, List.setIfInBounds_toArray, List.set_cons_zero, List.set_cons_succ]
    refine wpAnyH_ready (rs := [1]) (by kernel_rfl) (by simp) ?_
    refine AllReadyH.cons rfl (fun K hK => ?_) AllReadyH.nil
    go_simp
    go_at_call 15
    refine (Size_c a _ w.heap.size _ (Ga.out.keep (ebox_below5 (by assumption))) (ebox_below5 (by assumption)).size).mono ?_
    rw [HNa.out]
    rintro e w9 ⟨rfl, hq9⟩
    refine hK.out _ _ ?_ (fun hHeld => ?_)
    · first | assumption | (refine box5_keep ?_ hq9; assumption)
    clear hK K
    try simp only [Act.put, List.getElem_toArray, List.getElem_cons_zero, List.getElem_cons_succ, List.setIfInBounds_toArray, List.set_cons_zero, List.set_cons_succ]
    refine wpAnyH_ready (rs := [3]) (by kernel_rfl) (by simp) ?_
    refine AllReadyH.cons rfl (fun K hK => ?_) AllReadyH.nil
    go_simp
    go_at_call 15
    refine (Size_c x _ w.heap.size _ (Gx.out.keep (ebox_below5 (by assumption))) (ebox_below5 (by assumption)).size).mono ?_
    rw [HNx.out]
    rintro e w9 ⟨rfl, hq9⟩
    refine hK.out _ _ ?_ (fun hHeld => ?_)
    · first | assumption | (refine box5_keep ?_ hq9; assumption)
    clear hK K
    try simp only [Act.put, List.getElem_toArray, List.getElem_cons_zero, List.getElem_cons_succ, List.setIfInBounds_toArray, List.set_cons_zero, List.set_cons_succ]
    refine wpAnyH_take (i := 4) (oi := _) (v := ?_) rfl (by kernel_rfl) (by kernel_rfl) (by kernel_rfl) (fun _ _ _ h => h) (Or.inl ⟨by rfl, ?_⟩) (by assumption) ?_
    rotate_left
    · intro w' hSw
      (try dsimp only at hSw)
      go_simp
      try with_reducible rfl
    try simp only [Act.put, List.getElem_toArray, List.getElem_cons_zero, List.getElem_cons_succ, List.setIfInBounds_toArray, List.set_cons_zero, List.set_cons_succ]
    refine wpAnyH_ready (rs := [6]) (by kernel_rfl) (by simp) ?_
    refine AllReadyH.cons rfl (fun K hK => ?_) AllReadyH.nil
    go_simp
    go_at_call 15
    refine (Size_c y _ w.heap.size _ (Gy.out.keep (ebox_below5 (by assumption))) (ebox_below5 (by assumption)).size).mono ?_
    rw [HNy.out]
    rintro e w9 ⟨rfl, hq9⟩
    refine hK.out _ _ ?_ (fun hHeld => ?_)
    · first | assumption | (refine box5_keep ?_ hq9; assumption)
    clear hK K
    try simp only [Act.put, List.getElem_toArray, List.getElem_cons_zero, List.getElem_cons_succ, List.setIfInBounds_toArray, List.set_cons_zero, List.set_cons_succ]
    refine wpAnyH_take (i := 7) (oi := _) (v := ?_) rfl (by kernel_rfl) (by kernel_rfl) (by kernel_rfl) (fun _ _ _ h => h) (Or.inl ⟨by rfl, ?_⟩) (by assumption) ?_
    rotate_left
    · intro w' hSw
      (try dsimp only at hSw)
      go_simp
      try with_reducible rfl
    try simp only [Act.put, List.getElem_toArray, List.getElem_cons_zero, List.getElem_cons_succ, List.setIfInBounds_toArray, List.set_cons_zero, List.set_cons_succ]
    refine wpAnyH_ready (rs := [9]) (by kernel_rfl) (by simp) ?_
    refine AllReadyH.cons rfl (fun K hK => ?_) AllReadyH.nil
    go_simp
    go_at_call 15
    refine (Size_c z _ w.heap.size _ (Gz.out.keep (ebox_below5 (by assumption))) (ebox_below5 (by assumption)).size).mono ?_
    rw [HNz.out]
    rintro e w9 ⟨rfl, hq9⟩
    refine hK.out _ _ ?_ (fun hHeld => ?_)
    · first | assumption | (refine box5_keep ?_ hq9; assumption)
    clear hK K
    try simp only [Act.put, List.getElem_toArray, List.getElem_cons_zero, List.getElem_cons_succ, List.setIfInBounds_toArray, List.set_cons_zero, List.set_cons_succ]
    refine wpAnyH_take (i := 10) (oi := _) (v := ?_) rfl (by kernel_rfl) (by kernel_rfl) (by kernel_rfl) (fun _ _ _ h => h) (Or.inl ⟨by rfl, ?_⟩) (by assumption) ?_
    rotate_left
    · intro w' hSw
      (try dsimp only at hSw)
      go_simp
      try with_reducible rfl
    try simp only [Act.put, List.getElem_toArray, List.getElem_cons_zero, List.getElem_cons_succ, List.setIfInBounds_toArray, List.set_cons_zero, List.set_cons_succ]
    refine wpAnyH_take (i := 11) (oi := _) (v := ?_) rfl (by kernel_rfl) (by kernel_rfl) (by kernel_rfl) (fun _ _ _ h => h) (Or.inl ⟨by rfl, ?_⟩) (by assumption) ?_
    rotate_left
    · intro w' hSw
      (try dsimp only at hSw)
      go_simp
      try with_reducible rfl
    try simp only [Act.put, List.getElem_toArray, List.getElem_cons_zero, List.getElem_cons_succ, List.setIfInBounds_toArray, List.set_cons_zero, List.set_cons_succ]
    refine wpAnyH_done (by kernel_rfl) ?_ _
    have H := Lib.hid hHeld
    clear hHeld HS0
    go_upto_region 3 with fail
    obtain ⟨⟨p00, p01, p02, p10, p11, p12, p20, p21, p22, p30, p31, p32, p40, p41, p42⟩, hBp, hlp⟩ := H.out
    have hA := (Below.refl w9.heap.size w9).alloc (Nat.le_refl _) (.cells #[.int .u8 ao, .int .i64 an, .slice aa al ac, .int .u8 xo, .int .i64 xn, .slice xa xl xc, .int .u8 yo, .int .i64 yn, .slice ya yl yc] 28)
    have hN : Blk (w9.alloc (.cells #[.int .u8 ao, .int .i64 an, .slice aa al ac, .int .u8 xo, .int .i64 xn, .slice xa xl xc, .int .u8 yo, .int .i64 yn, .slice ya yl yc] 28)) w9.heap.size 28 #[.int .u8 a.op, .int .i64 a.n, .slice aa al ac, .int .u8 x.op, .int .i64 x.n, .slice xa xl xc, .int .u8 y.op, .int .i64 y.n, .slice ya yl yc] := by
      rw [HEa.out.1, HEa.out.2.1, HEx.out.1, HEx.out.2.1, HEy.out.1, HEy.out.2.1]
      exact Blk.new _ _ _
    have HX : Hid (ExAt (w9.alloc (.cells #[.int .u8 ao, .int .i64 an, .slice aa al ac, .int .u8 xo, .int .i64 xn, .slice xa xl xc, .int .u8 yo, .int .i64 yn, .slice ya yl yc] 28)) (w9.alloc (.cells #[.int .u8 ao, .int .i64 an, .slice aa al ac, .int .u8 xo, .int .i64 xn, .slice xa xl xc, .int .u8 yo, .int .i64 yn, .slice ya yl yc] 28)).heap.size (.agg #[.int .u8 18, .int .i64 0, .slice (some ⟨w9.heap.size, 0, none⟩) 3 3]) (.mk 18 0 [a, x, y])) :=
      ⟨_, rfl, ArgsAt.three (x := a) (y := x) (z := y) hN hN.lt ((HSa.out.keep (hBp.trans (hA.mono hBp.size))).mono (Nat.le_trans hBp.size hA.size)) ((HSx.out.keep (hBp.trans (hA.mono hBp.size))).mono (Nat.le_trans hBp.size hA.size)) ((HSy.out.keep (hBp.trans (hA.mono hBp.size))).mono (Nat.le_trans hBp.size hA.size))⟩
    have HA := Lib.hid hA
    clear hN hA
    go_wp2_with fail
    refine (HD1.out _ _ _ HX.out (Nat.le_refl _)).mono ?_
    obtain ⟨r1t, r1n, r1b, r1e⟩ := r1
    dsimp only [DoR.agg]
    rintro e w10 ⟨rfl, hq⟩
    replace H := Lib.hid (box5_keep (box5_keep H.out HA.out) hq)
    clear p00 p01 p02 p10 p11 p12 p20 p21 p22 p30 p31 p32 p40 p41 p42 hBp hlp HX
    go_upto_region 4 with fail
    have hV := Blk.new w10 #[.int .u8 r1t, .int .i64 r1n, .bool r1b] 40
    have hA2 := (Below.refl w10.heap.size w10).alloc (Nat.le_refl _) (.cells #[.int .u8 r1t, .int .i64 r1n, .bool r1b] 40)
    replace H := Lib.hid (box5_keep H.out hA2)
    clear hA2 hq HA
    generalize w10.heap.size = r1g at *
    generalize w10.alloc _ = W1 at *
    have HVr1 := Lib.hid hV
    clear hV
    obtain ⟨⟨p00, p01, p02, p10, p11, p12, p20, p21, p22, p30, p31, p32, p40, p41, p42⟩, hBp, hlp⟩ := H.out
    have hA := (Below.refl W1.heap.size W1).alloc (Nat.le_refl _) (.cells #[.int .u8 ao, .int .i64 an, .slice aa al ac, .int .u8 xo, .int .i64 xn, .slice xa xl xc, .int .u8 zo, .int .i64 zn, .slice za zl zc] 28)
    have hN : Blk (W1.alloc (.cells #[.int .u8 ao, .int .i64 an, .slice aa al ac, .int .u8 xo, .int .i64 xn, .slice xa xl xc, .int .u8 zo, .int .i64 zn, .slice za zl zc] 28)) W1.heap.size 28 #[.int .u8 a.op, .int .i64 a.n, .slice aa al ac, .int .u8 x.op, .int .i64 x.n, .slice xa xl xc, .int .u8 z.op, .int .i64 z.n, .slice za zl zc] := by
      rw [HEa.out.1, HEa.out.2.1, HEx.out.1, HEx.out.2.1, HEz.out.1, HEz.out.2.1]
      exact Blk.new _ _ _
    have HX : Hid (ExAt (W1.alloc (.cells #[.int .u8 ao, .int .i64 an, .slice aa al ac, .int .u8 xo, .int .i64 xn, .slice xa xl xc, .int .u8 zo, .int .i64 zn, .slice za zl zc] 28)) (W1.alloc (.cells #[.int .u8 ao, .int .i64 an, .slice aa al ac, .int .u8 xo, .int .i64 xn, .slice xa xl xc, .int .u8 zo, .int .i64 zn, .slice za zl zc] 28)).heap.size (.agg #[.int .u8 18, .int .i64 0, .slice (some ⟨W1.heap.size, 0, none⟩) 3 3]) (.mk 18 0 [a, x, z])) :=
      ⟨_, rfl, ArgsAt.three (x := a) (y := x) (z := z) hN hN.lt ((HSa.out.keep (hBp.trans (hA.mono hBp.size))).mono (Nat.le_trans hBp.size hA.size)) ((HSx.out.keep (hBp.trans (hA.mono hBp.size))).mono (Nat.le_trans hBp.size hA.size)) ((HSz.out.keep (hBp.trans (hA.mono hBp.size))).mono (Nat.le_trans hBp.size hA.size))⟩
    have HA := Lib.hid hA
    clear hN hA
    go_wp2_with fail
    refine (HD2.out _ _ _ HX.out (Nat.le_refl _)).mono ?_
    obtain ⟨r2t, r2n, r2b, r2e⟩ := r2
    dsimp only [DoR.agg]
    rintro e w11 ⟨rfl, hq⟩
    replace H := Lib.hid (box5_keep (box5_keep H.out HA.out) hq)
    clear p00 p01 p02 p10 p11 p12 p20 p21 p22 p30 p31 p32 p40 p41 p42 hBp hlp HX
    go_upto_region 5 with fail
    have hV := Blk.new w11 #[.int .u8 r2t, .int .i64 r2n, .bool r2b] 40
    have hA2 := (Below.refl w11.heap.size w11).alloc (Nat.le_refl _) (.cells #[.int .u8 r2t, .int .i64 r2n, .bool r2b] 40)
    replace H := Lib.hid (box5_keep H.out hA2)
    replace HVr1 := Lib.hid ((((HVr1.out.below HA.out HVr1.out.lt).below hq (Nat.lt_of_lt_of_le HVr1.out.lt HA.out.size)).below hA2 (Nat.lt_of_lt_of_le (Nat.lt_of_lt_of_le HVr1.out.lt HA.out.size) hq.size)))
    clear hA2 hq HA
    generalize w11.heap.size = r2g at *
    generalize w11.alloc _ = W2 at *
    have HVr2 := Lib.hid hV
    clear hV
    try dsimp only at hif1 hif2
    by_cases he1 : r1e = 0
    · by_cases he2 : r2e = 0
      · obtain ⟨f1, f2, f3⟩ := hif1 he1
        obtain ⟨g1, _, _⟩ := hif2 he2
        have b1 : (r1e != 0) = false := by simpa using he1
        have b2 : (r2e != 0) = false := by simpa using he2
        obtain ⟨rxt, rxn, rxb, rxe⟩ := rx
        obtain ⟨txt, txe⟩ := tx
        dsimp only at hxe f2 f3 f1 g1
        subst f2 f3
        subst hxe
        obtain ⟨p00, p01, p02, p10, p11, p12, p20, p21, p22, p30, p31, p32, p40, p41, p42⟩ := H.out.1
        obtain ⟨hBp, hlp⟩ := H.out.2
        clear hif1 hif2 he1 he2
        have HF := Lib.hid (And.intro f1 g1)
        clear f1 g1
        go_wp2_with fail
        refine (HD3.out _ _ _ (Gx.out.keep hBp) hBp.size).mono ?_
        dsimp only [DoR.agg]
        rintro e w12 ⟨rfl, hq⟩
        replace H := Lib.hid (box5_keep H.out hq)
        replace HVr1 := Lib.hid (HVr1.out.below hq HVr1.out.lt)
        replace HVr2 := Lib.hid (HVr2.out.below hq HVr2.out.lt)
        clear p00 p01 p02 p10 p11 p12 p20 p21 p22 p30 p31 p32 p40 p41 p42 hBp hlp hq
        go_upto_region 8 with fail
        have hA2 := (Below.refl w12.heap.size w12).alloc (Nat.le_refl _) (.cells #[.int .u8 rxt, .int .i64 rxn, .bool rxb] 40)
        have hV := Blk.new w12 #[.int .u8 rxt, .int .i64 rxn, .bool rxb] 40
        replace H := Lib.hid (box5_keep H.out hA2)
        replace HVr1 := Lib.hid (HVr1.out.below hA2 HVr1.out.lt)
        replace HVr2 := Lib.hid (HVr2.out.below hA2 HVr2.out.lt)
        generalize w12.heap.size = rxg at *
        generalize w12.alloc _ = W3 at *
        have HVrx := Lib.hid hV
        clear hV hA2
        obtain ⟨p00, p01, p02, p10, p11, p12, p20, p21, p22, p30, p31, p32, p40, p41, p42⟩ := H.out.1
        obtain ⟨hBp, hlp⟩ := H.out.2
        go_upto_region 9 with (go_at_call 16; refine (HOF.out _ _ _ (Gx.out.keep hBp) hBp.size).mono ?_; rintro e w13 ⟨rfl, hq⟩)
        replace H := Lib.hid (box5_keep H.out hq)
        replace HVr1 := Lib.hid (HVr1.out.below hq HVr1.out.lt)
        replace HVr2 := Lib.hid (HVr2.out.below hq HVr2.out.lt)
        replace HVrx := Lib.hid (HVrx.out.below hq HVrx.out.lt)
        clear p00 p01 p02 p10 p11 p12 p20 p21 p22 p30 p31 p32 p40 p41 p42 hBp hlp hq
        obtain ⟨p00, p01, p02, p10, p11, p12, p20, p21, p22, p30, p31, p32, p40, p41, p42⟩ := H.out.1
        obtain ⟨hBp, hlp⟩ := H.out.2
        have htt : (r1t == r1t) = true := by simp
        have hEQ : ∀ W : World, (binOp .eql 40 (.agg #[.int .u8 rxt, .int .i64 rxn, .bool rxb]) (.agg #[.int .u8 rxt, .int .i64 rxn, .bool rxb])).run Try.prog W = .ok (.bool true) W := by
          intro W
          have := run_eq_val ⟨rxt, rxn, rxb, 0⟩ ⟨rxt, rxn, rxb, 0⟩ W
          simpa [DoR.agg] using this
        go_wp2_with fail
        refine (HBOOL.out _ _ _ (Ga.out.keep hBp) hBp.size).mono ?_
        have hcs : (ra.b = true ∧ r1t = rxt ∧ r1n = rxn ∧ r1b = rxb ∧ r2t = rxt ∧ r2n = rxn ∧ r2b = rxb) ∨ ra.b = false := by
          obtain ⟨f1, g1⟩ := HF.out
          cases hrb : ra.b
          · exact .inr rfl
          · rw [hrb, if_pos rfl] at f1 g1
            rw [DoR.mk.injEq] at f1 g1
            exact .inl ⟨rfl, f1.1, f1.2.1, f1.2.2.1, g1.1, g1.2.1, g1.2.2.1⟩
        clear HF
        rcases hcs with ⟨hrb, e1, e2, e3, e4, e5, e6⟩ | hrb
        · subst e1 e2 e3 e4 e5 e6
          rw [hrb]
          clear hrb
          rintro e w14 ⟨rfl, hq⟩
          replace H := Lib.hid (box5_keep H.out hq)
          replace HVr1 := Lib.hid (HVr1.out.below hq HVr1.out.lt)
          replace HVr2 := Lib.hid (HVr2.out.below hq HVr2.out.lt)
          replace HVrx := Lib.hid (HVrx.out.below hq HVrx.out.lt)
          clear p00 p01 p02 p10 p11 p12 p20 p21 p22 p30 p31 p32 p40 p41 p42 hBp hlp hq
          have hBp := H.out.2.1
          have v0 := HVr1.out.cell 0
          have v1 := HVr1.out.cell 1
          have v2 := HVr1.out.cell 2
          have u0 := HVr2.out.cell 0
          have u1 := HVr2.out.cell 1
          have u2 := HVr2.out.cell 2
          have x0 := HVrx.out.cell 0
          have x1 := HVrx.out.cell 1
          have x2 := HVrx.out.cell 2
          go_wp2_with (go_at_call 21; refine (ework_c _).mono ?_; rintro e w15 ⟨rfl, hq⟩)
          go_ret
          exact ⟨rfl, hBp.trans (hq.mono hBp.size)⟩
        · rw [hrb]
          clear hrb
          rintro e w14 ⟨rfl, hq⟩
          replace H := Lib.hid (box5_keep H.out hq)
          replace HVr1 := Lib.hid (HVr1.out.below hq HVr1.out.lt)
          replace HVr2 := Lib.hid (HVr2.out.below hq HVr2.out.lt)
          replace HVrx := Lib.hid (HVrx.out.below hq HVrx.out.lt)
          clear p00 p01 p02 p10 p11 p12 p20 p21 p22 p30 p31 p32 p40 p41 p42 hBp hlp hq
          have hBp := H.out.2.1
          have v0 := HVr1.out.cell 0
          have v1 := HVr1.out.cell 1
          have v2 := HVr1.out.cell 2
          have u0 := HVr2.out.cell 0
          have u1 := HVr2.out.cell 1
          have u2 := HVr2.out.cell 2
          have x0 := HVrx.out.cell 0
          have x1 := HVrx.out.cell 1
          have x2 := HVrx.out.cell 2
          go_wp2_with (go_at_call 21; refine (ework_c _).mono ?_; rintro e w15 ⟨rfl, hq⟩)
          go_ret
          exact ⟨rfl, hBp.trans (hq.mono hBp.size)⟩
      · have b1 : (r1e != 0) = false := by simpa using he1
        have b2 : (r2e != 0) = true := by simpa using he2
        clear hif1 hif2 he1 he2 hxe
        have hBp := H.out.2.1
        go_wp2_with (go_at_call 21; refine (ework_c _).mono ?_; rintro e w15 ⟨rfl, hq⟩)
        go_ret
        exact ⟨rfl, hBp.trans (hq.mono hBp.size)⟩
    · have b1 : (r1e != 0) = true := by simpa using he1
      clear hif1 hif2 he1 hxe
      have hBp := H.out.2.1
      go_wp2_with (go_at_call 21; refine (ework_c _).mono ?_; rintro e w15 ⟨rfl, hq⟩)
      go_ret
      exact ⟨rfl, hBp.trans (hq.mono hBp.size)⟩
  · have hge : decide ((2000 : Int) ≤ (na : Int) + (nx : Int) + (ny : Int) + (nz : Int)) = true := by rw [decide_eq_true_eq]; omega
    clear hif1 hif2 hxe
    unfold Env.v0
    go_enter Try.func9, Try.ntmps9
    go_upto_region 1 with fail
    generalize World.alloc (World.alloc (World.alloc (World.alloc (World.alloc w _) _) _) _) _ = W at *
    have HS0 := Lib.hid (And.intro (And.intro (hb0.cell 0) (And.intro (hb0.cell 1) (And.intro (hb0.cell 2) (And.intro (hb1.cell 0) (And.intro (hb1.cell 1) (And.intro (hb1.cell 2) (And.intro (hb2.cell 0) (And.intro (hb2.cell 1) (And.intro (hb2.cell 2) (And.intro (hb3.cell 0) (And.intro (hb3.cell 1) (And.intro (hb3.cell 2) (And.intro (hb4.cell 0) (And.intro (hb4.cell 1) (hb4.cell 2))))))))))))))) (And.intro hW hl5))
    clear hb0 hb1 hb2 hb3 hb4 hW hl5
    refine wp_region_held_drew (S := (fun w' => (w'.cell? ⟨w.heap.size, 0, none⟩ = some (.int .u8 ao) ∧ w'.cell? ⟨w.heap.size, 1, none⟩ = some (.int .i64 an) ∧ w'.cell? ⟨w.heap.size, 2, none⟩ = some (.slice aa al ac) ∧ w'.cell? ⟨w.heap.size + 1, 0, none⟩ = some (.int .u8 xo) ∧ w'.cell? ⟨w.heap.size + 1, 1, none⟩ = some (.int .i64 xn) ∧ w'.cell? ⟨w.heap.size + 1, 2, none⟩ = some (.slice xa xl xc) ∧ w'.cell? ⟨w.heap.size + 2, 0, none⟩ = some (.int .u8 yo) ∧ w'.cell? ⟨w.heap.size + 2, 1, none⟩ = some (.int .i64 yn) ∧ w'.cell? ⟨w.heap.size + 2, 2, none⟩ = some (.slice ya yl yc) ∧ w'.cell? ⟨w.heap.size + 3, 0, none⟩ = some (.int .u8 zo) ∧ w'.cell? ⟨w.heap.size + 3, 1, none⟩ = some (.int .i64 zn) ∧ w'.cell? ⟨w.heap.size + 3, 2, none⟩ = some (.slice za zl zc) ∧ w'.cell? ⟨w.heap.size + 4, 0, none⟩ = some (.int .i64 env.key) ∧ w'.cell? ⟨w.heap.size + 4, 1, none⟩ = some (.int .i64 env.val) ∧ w'.cell? ⟨w.heap.size + 4, 2, none⟩ = some (.int .i64 env.acc)) ∧ Below w.heap.size w w' ∧ w.heap.size + 4 < w'.heap.size)) (by kernel_rfl) ?_ (fun hHeld => ?_)
    · exact box5_keep HS0.out (Below.refl _ _).drew
    refine wpAnyH_take (i := 0) (oi := _) (v := ?_) rfl (by kernel_rfl) (by kernel_rfl) (by kernel_rfl) (fun _ _ _ h => h) (Or.inl ⟨by rfl, ?_⟩) (by assumption) ?_
    rotate_left
    · intro w' hSw
      (try dsimp only at hSw)
      go_simp
      try with_reducible rfl
    try simp only [Act.put, List.getElem_toArray, List.getElem_cons_zero, List.setIfInBounds_toArray, List.set_cons_zero, List.set_cons_succ]
    refine wpAnyH_take (i := 2) (oi := _) (v := ?_) rfl (by kernel_rfl) (by kernel_rfl) (by kernel_rfl) (fun _ _ _ h => h) (Or.inl ⟨by rfl, ?_⟩) (by assumption) ?_
    rotate_left
    · intro w' hSw
      (try dsimp only at hSw)
      go_simp
      try with_reducible rfl
    try simp only [Act.put, List.getElem_toArray, List.getElem_cons_zero, List.getElem_cons_succ, List.setIfInBounds_toArray, List.set_cons_zero, List.set_cons_succ]
    refine wpAnyH_take (i := 5) (oi := _) (v := ?_) rfl (by kernel_rfl) (by kernel_rfl) (by kernel_rfl) (fun _ _ _ h => h) (Or.inl ⟨by rfl, ?_⟩) (by assumption) ?_
    rotate_left
    · intro w' hSw
      (try dsimp only at hSw)
      go_simp
      try with_reducible rfl
    try simp only [Act.put, List.getElem_toArray, List.getElem_cons_zero, List.getElem_cons_succ, List.setIfInBounds_toArray, List.set_cons_zero, List.set_cons_succ]
    refine wpAnyH_take (i := 8) (oi := _) (v := ?_) rfl (by kernel_rfl) (by kernel_rfl) (by kernel_rfl) (fun _ _ _ h => h) (Or.inl ⟨by rfl, ?_⟩) (by assumption) ?_
    rotate_left
    · intro w' hSw
      (try dsimp only at hSw)
      go_simp
      try with_reducible rfl
    try simp only [Act.put, List.getElem_toArray, List.getElem_cons_zero, List.getElem_cons_succ, List.setIfInBounds_toArray, List.set_cons_zero, List.set_cons_succ]
    refine wpAnyH_ready (rs := [1]) (by kernel_rfl) (by simp) ?_
    refine AllReadyH.cons rfl (fun K hK => ?_) AllReadyH.nil
    go_simp
    go_at_call 15
    refine (Size_c a _ w.heap.size _ (Ga.out.keep (ebox_below5 (by assumption))) (ebox_below5 (by assumption)).size).mono ?_
    rw [HNa.out]
    rintro e w9 ⟨rfl, hq9⟩
    refine hK.out _ _ ?_ (fun hHeld => ?_)
    · first | assumption | (refine box5_keep ?_ hq9; assumption)
    clear hK K
    try simp only [Act.put, List.getElem_toArray, List.getElem_cons_zero, List.getElem_cons_succ, List.setIfInBounds_toArray, List.set_cons_zero, List.set_cons_succ]
    refine wpAnyH_ready (rs := [3]) (by kernel_rfl) (by simp) ?_
    refine AllReadyH.cons rfl (fun K hK => ?_) AllReadyH.nil
    go_simp
    go_at_call 15
    refine (Size_c x _ w.heap.size _ (Gx.out.keep (ebox_below5 (by assumption))) (ebox_below5 (by assumption)).size).mono ?_
    rw [HNx.out]
    rintro e w9 ⟨rfl, hq9⟩
    refine hK.out _ _ ?_ (fun hHeld => ?_)
    · first | assumption | (refine box5_keep ?_ hq9; assumption)
    clear hK K
    try simp only [Act.put, List.getElem_toArray, List.getElem_cons_zero, List.getElem_cons_succ, List.setIfInBounds_toArray, List.set_cons_zero, List.set_cons_succ]
    refine wpAnyH_take (i := 4) (oi := _) (v := ?_) rfl (by kernel_rfl) (by kernel_rfl) (by kernel_rfl) (fun _ _ _ h => h) (Or.inl ⟨by rfl, ?_⟩) (by assumption) ?_
    rotate_left
    · intro w' hSw
      (try dsimp only at hSw)
      go_simp
      try with_reducible rfl
    try simp only [Act.put, List.getElem_toArray, List.getElem_cons_zero, List.getElem_cons_succ, List.setIfInBounds_toArray, List.set_cons_zero, List.set_cons_succ]
    refine wpAnyH_ready (rs := [6]) (by kernel_rfl) (by simp) ?_
    refine AllReadyH.cons rfl (fun K hK => ?_) AllReadyH.nil
    go_simp
    go_at_call 15
    refine (Size_c y _ w.heap.size _ (Gy.out.keep (ebox_below5 (by assumption))) (ebox_below5 (by assumption)).size).mono ?_
    rw [HNy.out]
    rintro e w9 ⟨rfl, hq9⟩
    refine hK.out _ _ ?_ (fun hHeld => ?_)
    · first | assumption | (refine box5_keep ?_ hq9; assumption)
    clear hK K
    try simp only [Act.put, List.getElem_toArray, List.getElem_cons_zero, List.getElem_cons_succ, List.setIfInBounds_toArray, List.set_cons_zero, List.set_cons_succ]
    refine wpAnyH_take (i := 7) (oi := _) (v := ?_) rfl (by kernel_rfl) (by kernel_rfl) (by kernel_rfl) (fun _ _ _ h => h) (Or.inl ⟨by rfl, ?_⟩) (by assumption) ?_
    rotate_left
    · intro w' hSw
      (try dsimp only at hSw)
      go_simp
      try with_reducible rfl
    try simp only [Act.put, List.getElem_toArray, List.getElem_cons_zero, List.getElem_cons_succ, List.setIfInBounds_toArray, List.set_cons_zero, List.set_cons_succ]
    refine wpAnyH_ready (rs := [9]) (by kernel_rfl) (by simp) ?_
    refine AllReadyH.cons rfl (fun K hK => ?_) AllReadyH.nil
    go_simp
    go_at_call 15
    refine (Size_c z _ w.heap.size _ (Gz.out.keep (ebox_below5 (by assumption))) (ebox_below5 (by assumption)).size).mono ?_
    rw [HNz.out]
    rintro e w9 ⟨rfl, hq9⟩
    refine hK.out _ _ ?_ (fun hHeld => ?_)
    · first | assumption | (refine box5_keep ?_ hq9; assumption)
    clear hK K
    try simp only [Act.put, List.getElem_toArray, List.getElem_cons_zero, List.getElem_cons_succ, List.setIfInBounds_toArray, List.set_cons_zero, List.set_cons_succ]
    refine wpAnyH_take (i := 10) (oi := _) (v := ?_) rfl (by kernel_rfl) (by kernel_rfl) (by kernel_rfl) (fun _ _ _ h => h) (Or.inl ⟨by rfl, ?_⟩) (by assumption) ?_
    rotate_left
    · intro w' hSw
      (try dsimp only at hSw)
      go_simp
      try with_reducible rfl
    try simp only [Act.put, List.getElem_toArray, List.getElem_cons_zero, List.getElem_cons_succ, List.setIfInBounds_toArray, List.set_cons_zero, List.set_cons_succ]
    refine wpAnyH_take (i := 11) (oi := _) (v := ?_) rfl (by kernel_rfl) (by kernel_rfl) (by kernel_rfl) (fun _ _ _ h => h) (Or.inl ⟨by rfl, ?_⟩) (by assumption) ?_
    rotate_left
    · intro w' hSw
      (try dsimp only at hSw)
      go_simp
      try with_reducible rfl
    try simp only [Act.put, List.getElem_toArray, List.getElem_cons_zero, List.getElem_cons_succ, List.setIfInBounds_toArray, List.set_cons_zero, List.set_cons_succ]
    refine wpAnyH_done (by kernel_rfl) ?_ _
    have H := Lib.hid hHeld
    clear hHeld HS0
    have hBp := H.out.2.1
    go_wp2_with (go_at_call 21; refine (ework_c _).mono ?_; rintro e w15 ⟨rfl, hq⟩)
    go_ret
    exact ⟨rfl, hBp.trans (hq.mono hBp.size)⟩

end Go.Proofs.Ytclknpfmmmaafaa
