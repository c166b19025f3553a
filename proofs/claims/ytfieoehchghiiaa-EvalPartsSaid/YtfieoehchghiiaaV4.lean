/-
  The walk of eval.do.
-/
import Derived.Test.YtfieoehchghiiaaV3
import Derived.Deep.RegionHeld3
namespace Go.Proofs.Ytfieoehchghiiaa
open Go.RowKit
set_option linter.unusedVariables false

def Env.v (env : Env) : Value := .agg #[.int .i64 env.key, .int .i64 env.val, .int .i64 env.acc]

def DoC (h : Nat) : Prop := ∀ (x : Ex) (v : Value) (B : Nat) (w : World) (k : Nat) (env : Env), x.ht ≤ h → x.ok → mayB k x = true → x.ty ≠ 0 → ExAt w B v x → B ≤ w.heap.size →
  Calls Try.prog 68 #[v, env.v] w fun e w' => e = .returned (x.ev env).v ∧ Below w.heap.size w w'

/-- What is known of the parts. -/
def DoIH (h : Nat) : Prop := ∀ x : Ex, x.ht < h → ∀ (v : Value) (B : Nat) (w : World) (k : Nat) (env : Env), x.ok → mayB k x = true → x.ty ≠ 0 → ExAt w B v x → B ≤ w.heap.size →
  Calls Try.prog 68 #[v, env.v] w fun e w' => e = .returned (x.ev env).v ∧ Below w.heap.size w w'

/-- The boxes. -/
structure DoW (w W : World) (o n : Int) (s : Value) (env : Env) : Prop where
  x : Blk W w.heap.size 35 #[.int .u8 o, .int .i64 n, s]
  e : Blk W (w.heap.size + 1) 45 #[.int .i64 env.key, .int .i64 env.val, .int .i64 env.acc]
  b : Below w.heap.size w W
theorem DoW.new (w : World) (o n : Int) (s : Value) (env : Env) : DoW w ((w.alloc (.cells #[.int .u8 o, .int .i64 n, s] 35)).alloc (.cells #[.int .i64 env.key, .int .i64 env.val, .int .i64 env.acc] 45)) o n s env :=
  ⟨(Blk.new _ _ _).alloc _, Blk.new_at _ _ _ (by simp), ((Below.refl _ _).alloc (Nat.le_refl _) _).alloc (by simp) _⟩
theorem DoW.below {w W W' : World} {o n : Int} {s : Value} {env : Env} (h : DoW w W o n s env) (hb : Below W.heap.size W W') : DoW w W' o n s env :=
  ⟨h.x.below hb h.x.lt, h.e.below hb h.e.lt, h.b.trans (hb.mono h.b.size)⟩

set_option maxRecDepth 100000 in
set_option maxHeartbeats 2000000 in
theorem do_leaf (x : Ex) (v : Value) (B : Nat) (w : World) (env : Env) (hv : ExAt w B v x) (hop : x.op = 1 ∨ x.op = 2 ∨ x.op = 3 ∨ x.op = 4) :
    Calls Try.prog 68 #[v, env.v] w fun e w' => e = .returned (x.ev env).v ∧ Below w.heap.size w w' := by
  have HE := Lib.hid (ev_leaf (env := env) hop)
  obtain ⟨sv, rfl, hs⟩ := hv
  obtain ⟨a, cap, rfl, hcap, hmx⟩ := hs.slice
  clear hs
  have hD := DoW.new w x.op x.n (.slice a x.args.length cap) env
  have HV : Hid ((x.ev env).v = Ev.v (.int (if x.op = 1 then x.n else if x.op = 2 then env.key else if x.op = 3 then env.val else env.acc))) := congrArg Ev.v HE.out
  generalize (x.ev env).v = r at *
  generalize x.op = o at *
  generalize x.n = n at *
  generalize x.args.length = l at *
  clear HE hcap hmx
  unfold Env.v
  rcases hop with rfl | rfl | rfl | rfl
  all_goals
    go_enter Try.func68, Try.ntmps68
    go_upto_region 1 with fail
    generalize World.alloc (World.alloc w _) _ = W at *
    have p0 := hD.x.cell 0
    have p1 := hD.x.cell 1
    have p2 := hD.x.cell 2
    have q0 := hD.e.cell 0
    have q1 := hD.e.cell 1
    have q2 := hD.e.cell 2
    go_wp2_with fail
    go_ret
    exact ⟨by rw [HV.out]; rfl, hD.b⟩

set_option maxRecDepth 100000 in
set_option maxHeartbeats 600000 in
theorem do_neg (x a : Ex) (IH : Hid (DoIH x.ht)) (v : Value) (B : Nat) (w : World) (k : Nat) (env : Env) (hv : ExAt w B v x) (hB : B ≤ w.heap.size) (hop : x.op = 5) (hargs : x.args = [a]) (hok : a.ok) (hmay : mayB k a = true) (hta : a.ty = 1) (hte : (a.ev env).ty = 1) :
    Calls Try.prog 68 #[v, env.v] w fun e w' => e = .returned (x.ev env).v ∧ Below w.heap.size w w' := by
  have HE := Lib.hid (congrArg Ev.v (ev_neg (env := env) hop hargs))
  have hht : a.ht < x.ht := Ex.ht_args x a (by simp [hargs])
  have HAV : Hid ((a.ev env).v = .iface 2 (.int .i64 (a.ev env).n)) := congrArg Ev.v (Ev.of_1 hte)
  have t1 := as_int
  have t2 := as_bool
  obtain ⟨sv, rfl, hs⟩ := hv
  obtain ⟨ad, cap, rfl, hcap, hmx⟩ := hs.slice
  have HS := Lib.hid hs
  have hD := DoW.new w x.op x.n (.slice ad x.args.length cap) env
  have hlen : x.args.length = 1 := by rw [hargs]; rfl
  obtain ⟨b0, off0, cp0, s0, e0, hb0, c00, c01, c02, hsub0⟩ := (hs.mono hB).at_ 0 (by omega)
  simp only [hargs, List.getElem_cons_zero, Nat.zero_mul, Nat.add_zero] at c00 c01 c02 hsub0
  rw [hlen] at hD e0 ⊢
  simp only [Value.slice.injEq, true_and] at e0
  obtain ⟨rfl, rfl⟩ := e0
  obtain ⟨sa, sc, rfl, _, _⟩ := hsub0.slice
  have HX : Hid (∀ W, Below w.heap.size w W → ExAt W W.heap.size (.agg #[.int .u8 a.op, .int .i64 a.n, .slice sa a.args.length sc]) a) := fun W hb => ⟨_, rfl, (hsub0.keep hb).mono hb.size⟩
  rw [hop] at hD ⊢
  generalize (x.ev env).v = r at *
  generalize hz : (a.ev env).n = z at *
  generalize x.n = n at *
  generalize hx : a.op = ao at *
  generalize hy : a.n = an at *
  generalize hl : a.args.length = al at *
  clear hz hx hy hl hs hsub0 hcap hmx hlen hargs hop HS hte
  unfold Env.v
  go_enter Try.func68, Try.ntmps68
  go_upto_region 10 with fail
  generalize World.alloc (World.alloc w _) _ = W at *
  have p0 := hD.x.cell 0
  have p2 := hD.x.cell 2
  have q0 := hD.e.cell 0
  have q1 := hD.e.cell 1
  have q2 := hD.e.cell 2
  have hl1 := hD.x.lt
  have hl2 := hD.e.lt
  have hB0 := hD.b
  have d00 := (hB0.cell (p := ⟨b0, off0, none⟩) hb0).trans c00
  have d01 := (hB0.cell (p := ⟨b0, off0 + 1, none⟩) hb0).trans c01
  have d02 := (hB0.cell (p := ⟨b0, off0 + 2, none⟩) hb0).trans c02
  have hlb : b0 < W.heap.size := Nat.lt_of_lt_of_le hb0 hB0.size
  clear c00 c01 c02
  refine wp_region_held_drew (S := (fun w' => Below W.heap.size W w')) (by kernel_rfl) ?_ (fun hHeld => ?_)
  · exact (Below.refl _ _).drew
  refine wpAnyH_take (i := 0) (oi := _) (v := ?_) rfl (by kernel_rfl) (by kernel_rfl) (by kernel_rfl) (fun _ _ _ h => h) (Or.inl ⟨by rfl, ?_⟩) (by assumption) ?_
  rotate_left
  · intro w' hSw
    (try dsimp only at hSw)
    have k0 := (hSw.cell (p := ⟨w.heap.size, 0, none⟩) hl1).trans p0
    have k2 := (hSw.cell (p := ⟨w.heap.size, 2, none⟩) hl1).trans p2
    have v0 := (hSw.cell (p := ⟨w.heap.size + 1, 0, none⟩) hl2).trans q0
    have v1 := (hSw.cell (p := ⟨w.heap.size + 1, 1, none⟩) hl2).trans q1
    have v2 := (hSw.cell (p := ⟨w.heap.size + 1, 2, none⟩) hl2).trans q2
    have g0 := (hSw.cell (p := ⟨b0, off0, none⟩) hlb).trans d00
    have g1 := (hSw.cell (p := ⟨b0, off0 + 1, none⟩) hlb).trans d01
    have g2 := (hSw.cell (p := ⟨b0, off0 + 2, none⟩) hlb).trans d02
    go_simp
    try with_reducible rfl
  try simp only [Act.put, List.getElem_toArray, List.getElem_cons_zero, List.setIfInBounds_toArray, List.set_cons_zero, List.set_cons_succ]
  refine wpAnyH_take (i := 1) (oi := _) (v := ?_) rfl (by kernel_rfl) (by kernel_rfl) (by kernel_rfl) (fun _ _ _ h => h) (Or.inl ⟨by rfl, ?_⟩) (by assumption) ?_
  rotate_left
  · intro w' hSw
    (try dsimp only at hSw)
    have k0 := (hSw.cell (p := ⟨w.heap.size, 0, none⟩) hl1).trans p0
    have k2 := (hSw.cell (p := ⟨w.heap.size, 2, none⟩) hl1).trans p2
    have v0 := (hSw.cell (p := ⟨w.heap.size + 1, 0, none⟩) hl2).trans q0
    have v1 := (hSw.cell (p := ⟨w.heap.size + 1, 1, none⟩) hl2).trans q1
    have v2 := (hSw.cell (p := ⟨w.heap.size + 1, 2, none⟩) hl2).trans q2
    have g0 := (hSw.cell (p := ⟨b0, off0, none⟩) hlb).trans d00
    have g1 := (hSw.cell (p := ⟨b0, off0 + 1, none⟩) hlb).trans d01
    have g2 := (hSw.cell (p := ⟨b0, off0 + 2, none⟩) hlb).trans d02
    go_simp
    try with_reducible rfl
  try simp only [Act.put, List.getElem_toArray, List.getElem_cons_zero, List.getElem_cons_succ, List.setIfInBounds_toArray, List.set_cons_zero, List.set_cons_succ]
  refine wpAnyH_take (i := 2) (oi := _) (v := ?_) rfl (by kernel_rfl) (by kernel_rfl) (by kernel_rfl) (fun _ _ _ h => h) (Or.inl ⟨by rfl, ?_⟩) (by assumption) ?_
  rotate_left
  · intro w' hSw
    (try dsimp only at hSw)
    have k0 := (hSw.cell (p := ⟨w.heap.size, 0, none⟩) hl1).trans p0
    have k2 := (hSw.cell (p := ⟨w.heap.size, 2, none⟩) hl1).trans p2
    have v0 := (hSw.cell (p := ⟨w.heap.size + 1, 0, none⟩) hl2).trans q0
    have v1 := (hSw.cell (p := ⟨w.heap.size + 1, 1, none⟩) hl2).trans q1
    have v2 := (hSw.cell (p := ⟨w.heap.size + 1, 2, none⟩) hl2).trans q2
    have g0 := (hSw.cell (p := ⟨b0, off0, none⟩) hlb).trans d00
    have g1 := (hSw.cell (p := ⟨b0, off0 + 1, none⟩) hlb).trans d01
    have g2 := (hSw.cell (p := ⟨b0, off0 + 2, none⟩) hlb).trans d02
    go_simp
    try with_reducible rfl
  try simp only [Act.put, List.getElem_toArray, List.getElem_cons_zero, List.getElem_cons_succ, List.setIfInBounds_toArray, List.set_cons_zero, List.set_cons_succ]
  refine wpAnyH_take (i := 3) (oi := _) (v := ?_) rfl (by kernel_rfl) (by kernel_rfl) (by kernel_rfl) (fun _ _ _ h => h) (Or.inl ⟨by rfl, ?_⟩) (by assumption) ?_
  rotate_left
  · intro w' hSw
    (try dsimp only at hSw)
    have k0 := (hSw.cell (p := ⟨w.heap.size, 0, none⟩) hl1).trans p0
    have k2 := (hSw.cell (p := ⟨w.heap.size, 2, none⟩) hl1).trans p2
    have v0 := (hSw.cell (p := ⟨w.heap.size + 1, 0, none⟩) hl2).trans q0
    have v1 := (hSw.cell (p := ⟨w.heap.size + 1, 1, none⟩) hl2).trans q1
    have v2 := (hSw.cell (p := ⟨w.heap.size + 1, 2, none⟩) hl2).trans q2
    have g0 := (hSw.cell (p := ⟨b0, off0, none⟩) hlb).trans d00
    have g1 := (hSw.cell (p := ⟨b0, off0 + 1, none⟩) hlb).trans d01
    have g2 := (hSw.cell (p := ⟨b0, off0 + 2, none⟩) hlb).trans d02
    go_simp
    try with_reducible rfl
  try simp only [Act.put, List.getElem_toArray, List.getElem_cons_zero, List.getElem_cons_succ, List.setIfInBounds_toArray, List.set_cons_zero, List.set_cons_succ]
  refine wpAnyH_take (i := 4) (oi := _) (v := ?_) rfl (by kernel_rfl) (by kernel_rfl) (by kernel_rfl) (fun _ _ _ h => h) (Or.inl ⟨by rfl, ?_⟩) (by assumption) ?_
  rotate_left
  · intro w' hSw
    (try dsimp only at hSw)
    have k0 := (hSw.cell (p := ⟨w.heap.size, 0, none⟩) hl1).trans p0
    have k2 := (hSw.cell (p := ⟨w.heap.size, 2, none⟩) hl1).trans p2
    have v0 := (hSw.cell (p := ⟨w.heap.size + 1, 0, none⟩) hl2).trans q0
    have v1 := (hSw.cell (p := ⟨w.heap.size + 1, 1, none⟩) hl2).trans q1
    have v2 := (hSw.cell (p := ⟨w.heap.size + 1, 2, none⟩) hl2).trans q2
    have g0 := (hSw.cell (p := ⟨b0, off0, none⟩) hlb).trans d00
    have g1 := (hSw.cell (p := ⟨b0, off0 + 1, none⟩) hlb).trans d01
    have g2 := (hSw.cell (p := ⟨b0, off0 + 2, none⟩) hlb).trans d02
    go_simp
    try with_reducible rfl
  try simp only [Act.put, List.getElem_toArray, List.getElem_cons_zero, List.getElem_cons_succ, List.setIfInBounds_toArray, List.set_cons_zero, List.set_cons_succ]
  refine wpAnyH_ready (rs := [5]) (by kernel_rfl) (by simp) ?_
  refine AllReadyH.cons rfl (fun K hK => ?_) AllReadyH.nil
  go_simp
  go_at_call 68
  refine (IH.out a hht _ _ _ k env hok hmay (by rw [hta]; decide) (HX.out _ (hB0.trans (hHeld.mono hB0.size))) (Nat.le_refl _)).mono ?_
  rw [HAV.out]
  rintro e w9 ⟨rfl, hq9⟩
  refine hK.out _ _ ?_ (fun hHeld => ?_)
  · exact hHeld.trans (hq9.mono hHeld.size)
  clear hK K
  try simp only [Act.put, List.getElem_toArray, List.getElem_cons_zero, List.getElem_cons_succ, List.setIfInBounds_toArray, List.set_cons_zero, List.set_cons_succ]
  refine wpAnyH_take (i := 6) (oi := _) (v := ?_) rfl (by kernel_rfl) (by kernel_rfl) (by kernel_rfl) (fun _ _ _ h => h) (Or.inl ⟨by rfl, ?_⟩) (by assumption) ?_
  rotate_left
  · intro w' hSw
    (try dsimp only at hSw)
    have k0 := (hSw.cell (p := ⟨w.heap.size, 0, none⟩) hl1).trans p0
    have k2 := (hSw.cell (p := ⟨w.heap.size, 2, none⟩) hl1).trans p2
    have v0 := (hSw.cell (p := ⟨w.heap.size + 1, 0, none⟩) hl2).trans q0
    have v1 := (hSw.cell (p := ⟨w.heap.size + 1, 1, none⟩) hl2).trans q1
    have v2 := (hSw.cell (p := ⟨w.heap.size + 1, 2, none⟩) hl2).trans q2
    have g0 := (hSw.cell (p := ⟨b0, off0, none⟩) hlb).trans d00
    have g1 := (hSw.cell (p := ⟨b0, off0 + 1, none⟩) hlb).trans d01
    have g2 := (hSw.cell (p := ⟨b0, off0 + 2, none⟩) hlb).trans d02
    go_simp
    try with_reducible rfl
  try simp only [Act.put, List.getElem_toArray, List.getElem_cons_zero, List.getElem_cons_succ, List.setIfInBounds_toArray, List.set_cons_zero, List.set_cons_succ]
  refine wpAnyH_done (by kernel_rfl) ?_ _
  have u0 := (hHeld.cell (p := ⟨w.heap.size, 0, none⟩) hl1).trans p0
  go_wp2_with fail
  go_ret
  exact ⟨by rw [HE.out]; rfl, hB0.trans (hHeld.mono hB0.size)⟩

set_option maxRecDepth 100000 in
set_option maxHeartbeats 600000 in
theorem do_not (x a : Ex) (IH : Hid (DoIH x.ht)) (v : Value) (B : Nat) (w : World) (k : Nat) (env : Env) (hv : ExAt w B v x) (hB : B ≤ w.heap.size) (hop : x.op = 6) (hargs : x.args = [a]) (hok : a.ok) (hmay : mayB k a = true) (hta : a.ty = 2) (hte : (a.ev env).ty = 2) :
    Calls Try.prog 68 #[v, env.v] w fun e w' => e = .returned (x.ev env).v ∧ Below w.heap.size w w' := by
  have HE := Lib.hid (congrArg Ev.v (ev_not (env := env) hop hargs))
  have hht : a.ht < x.ht := Ex.ht_args x a (by simp [hargs])
  have HAV : Hid ((a.ev env).v = .iface 4 (.bool (a.ev env).b)) := congrArg Ev.v (Ev.of_2 hte)
  have t1 := as_int
  have t2 := as_bool
  obtain ⟨sv, rfl, hs⟩ := hv
  obtain ⟨ad, cap, rfl, hcap, hmx⟩ := hs.slice
  have HS := Lib.hid hs
  have hD := DoW.new w x.op x.n (.slice ad x.args.length cap) env
  have hlen : x.args.length = 1 := by rw [hargs]; rfl
  obtain ⟨b0, off0, cp0, s0, e0, hb0, c00, c01, c02, hsub0⟩ := (hs.mono hB).at_ 0 (by omega)
  simp only [hargs, List.getElem_cons_zero, Nat.zero_mul, Nat.add_zero] at c00 c01 c02 hsub0
  rw [hlen] at hD e0 ⊢
  simp only [Value.slice.injEq, true_and] at e0
  obtain ⟨rfl, rfl⟩ := e0
  obtain ⟨sa, sc, rfl, _, _⟩ := hsub0.slice
  have HX : Hid (∀ W, Below w.heap.size w W → ExAt W W.heap.size (.agg #[.int .u8 a.op, .int .i64 a.n, .slice sa a.args.length sc]) a) := fun W hb => ⟨_, rfl, (hsub0.keep hb).mono hb.size⟩
  rw [hop] at hD ⊢
  generalize (x.ev env).v = r at *
  generalize hz : (a.ev env).b = z at *
  generalize x.n = n at *
  generalize hx : a.op = ao at *
  generalize hy : a.n = an at *
  generalize hl : a.args.length = al at *
  clear hz hx hy hl hs hsub0 hcap hmx hlen hargs hop HS hte
  unfold Env.v
  go_enter Try.func68, Try.ntmps68
  go_upto_region 10 with fail
  generalize World.alloc (World.alloc w _) _ = W at *
  have p0 := hD.x.cell 0
  have p2 := hD.x.cell 2
  have q0 := hD.e.cell 0
  have q1 := hD.e.cell 1
  have q2 := hD.e.cell 2
  have hl1 := hD.x.lt
  have hl2 := hD.e.lt
  have hB0 := hD.b
  have d00 := (hB0.cell (p := ⟨b0, off0, none⟩) hb0).trans c00
  have d01 := (hB0.cell (p := ⟨b0, off0 + 1, none⟩) hb0).trans c01
  have d02 := (hB0.cell (p := ⟨b0, off0 + 2, none⟩) hb0).trans c02
  have hlb : b0 < W.heap.size := Nat.lt_of_lt_of_le hb0 hB0.size
  clear c00 c01 c02
  refine wp_region_held_drew (S := (fun w' => Below W.heap.size W w')) (by kernel_rfl) ?_ (fun hHeld => ?_)
  · exact (Below.refl _ _).drew
  refine wpAnyH_take (i := 0) (oi := _) (v := ?_) rfl (by kernel_rfl) (by kernel_rfl) (by kernel_rfl) (fun _ _ _ h => h) (Or.inl ⟨by rfl, ?_⟩) (by assumption) ?_
  rotate_left
  · intro w' hSw
    (try dsimp only at hSw)
    have k0 := (hSw.cell (p := ⟨w.heap.size, 0, none⟩) hl1).trans p0
    have k2 := (hSw.cell (p := ⟨w.heap.size, 2, none⟩) hl1).trans p2
    have v0 := (hSw.cell (p := ⟨w.heap.size + 1, 0, none⟩) hl2).trans q0
    have v1 := (hSw.cell (p := ⟨w.heap.size + 1, 1, none⟩) hl2).trans q1
    have v2 := (hSw.cell (p := ⟨w.heap.size + 1, 2, none⟩) hl2).trans q2
    have g0 := (hSw.cell (p := ⟨b0, off0, none⟩) hlb).trans d00
    have g1 := (hSw.cell (p := ⟨b0, off0 + 1, none⟩) hlb).trans d01
    have g2 := (hSw.cell (p := ⟨b0, off0 + 2, none⟩) hlb).trans d02
    go_simp
    try with_reducible rfl
  try simp only [Act.put, List.getElem_toArray, List.getElem_cons_zero, List.setIfInBounds_toArray, List.set_cons_zero, List.set_cons_succ]
  refine wpAnyH_take (i := 1) (oi := _) (v := ?_) rfl (by kernel_rfl) (by kernel_rfl) (by kernel_rfl) (fun _ _ _ h => h) (Or.inl ⟨by rfl, ?_⟩) (by assumption) ?_
  rotate_left
  · intro w' hSw
    (try dsimp only at hSw)
    have k0 := (hSw.cell (p := ⟨w.heap.size, 0, none⟩) hl1).trans p0
    have k2 := (hSw.cell (p := ⟨w.heap.size, 2, none⟩) hl1).trans p2
    have v0 := (hSw.cell (p := ⟨w.heap.size + 1, 0, none⟩) hl2).trans q0
    have v1 := (hSw.cell (p := ⟨w.heap.size + 1, 1, none⟩) hl2).trans q1
    have v2 := (hSw.cell (p := ⟨w.heap.size + 1, 2, none⟩) hl2).trans q2
    have g0 := (hSw.cell (p := ⟨b0, off0, none⟩) hlb).trans d00
    have g1 := (hSw.cell (p := ⟨b0, off0 + 1, none⟩) hlb).trans d01
    have g2 := (hSw.cell (p := ⟨b0, off0 + 2, none⟩) hlb).trans d02
    go_simp
    try with_reducible rfl
  try simp only [Act.put, List.getElem_toArray, List.getElem_cons_zero, List.getElem_cons_succ, List.setIfInBounds_toArray, List.set_cons_zero, List.set_cons_succ]
  refine wpAnyH_take (i := 2) (oi := _) (v := ?_) rfl (by kernel_rfl) (by kernel_rfl) (by kernel_rfl) (fun _ _ _ h => h) (Or.inl ⟨by rfl, ?_⟩) (by assumption) ?_
  rotate_left
  · intro w' hSw
    (try dsimp only at hSw)
    have k0 := (hSw.cell (p := ⟨w.heap.size, 0, none⟩) hl1).trans p0
    have k2 := (hSw.cell (p := ⟨w.heap.size, 2, none⟩) hl1).trans p2
    have v0 := (hSw.cell (p := ⟨w.heap.size + 1, 0, none⟩) hl2).trans q0
    have v1 := (hSw.cell (p := ⟨w.heap.size + 1, 1, none⟩) hl2).trans q1
    have v2 := (hSw.cell (p := ⟨w.heap.size + 1, 2, none⟩) hl2).trans q2
    have g0 := (hSw.cell (p := ⟨b0, off0, none⟩) hlb).trans d00
    have g1 := (hSw.cell (p := ⟨b0, off0 + 1, none⟩) hlb).trans d01
    have g2 := (hSw.cell (p := ⟨b0, off0 + 2, none⟩) hlb).trans d02
    go_simp
    try with_reducible rfl
  try simp only [Act.put, List.getElem_toArray, List.getElem_cons_zero, List.getElem_cons_succ, List.setIfInBounds_toArray, List.set_cons_zero, List.set_cons_succ]
  refine wpAnyH_take (i := 3) (oi := _) (v := ?_) rfl (by kernel_rfl) (by kernel_rfl) (by kernel_rfl) (fun _ _ _ h => h) (Or.inl ⟨by rfl, ?_⟩) (by assumption) ?_
  rotate_left
  · intro w' hSw
    (try dsimp only at hSw)
    have k0 := (hSw.cell (p := ⟨w.heap.size, 0, none⟩) hl1).trans p0
    have k2 := (hSw.cell (p := ⟨w.heap.size, 2, none⟩) hl1).trans p2
    have v0 := (hSw.cell (p := ⟨w.heap.size + 1, 0, none⟩) hl2).trans q0
    have v1 := (hSw.cell (p := ⟨w.heap.size + 1, 1, none⟩) hl2).trans q1
    have v2 := (hSw.cell (p := ⟨w.heap.size + 1, 2, none⟩) hl2).trans q2
    have g0 := (hSw.cell (p := ⟨b0, off0, none⟩) hlb).trans d00
    have g1 := (hSw.cell (p := ⟨b0, off0 + 1, none⟩) hlb).trans d01
    have g2 := (hSw.cell (p := ⟨b0, off0 + 2, none⟩) hlb).trans d02
    go_simp
    try with_reducible rfl
  try simp only [Act.put, List.getElem_toArray, List.getElem_cons_zero, List.getElem_cons_succ, List.setIfInBounds_toArray, List.set_cons_zero, List.set_cons_succ]
  refine wpAnyH_take (i := 4) (oi := _) (v := ?_) rfl (by kernel_rfl) (by kernel_rfl) (by kernel_rfl) (fun _ _ _ h => h) (Or.inl ⟨by rfl, ?_⟩) (by assumption) ?_
  rotate_left
  · intro w' hSw
    (try dsimp only at hSw)
    have k0 := (hSw.cell (p := ⟨w.heap.size, 0, none⟩) hl1).trans p0
    have k2 := (hSw.cell (p := ⟨w.heap.size, 2, none⟩) hl1).trans p2
    have v0 := (hSw.cell (p := ⟨w.heap.size + 1, 0, none⟩) hl2).trans q0
    have v1 := (hSw.cell (p := ⟨w.heap.size + 1, 1, none⟩) hl2).trans q1
    have v2 := (hSw.cell (p := ⟨w.heap.size + 1, 2, none⟩) hl2).trans q2
    have g0 := (hSw.cell (p := ⟨b0, off0, none⟩) hlb).trans d00
    have g1 := (hSw.cell (p := ⟨b0, off0 + 1, none⟩) hlb).trans d01
    have g2 := (hSw.cell (p := ⟨b0, off0 + 2, none⟩) hlb).trans d02
    go_simp
    try with_reducible rfl
  try simp only [Act.put, List.getElem_toArray, List.getElem_cons_zero, List.getElem_cons_succ, List.setIfInBounds_toArray, List.set_cons_zero, List.set_cons_succ]
  refine wpAnyH_ready (rs := [5]) (by kernel_rfl) (by simp) ?_
  refine AllReadyH.cons rfl (fun K hK => ?_) AllReadyH.nil
  go_simp
  go_at_call 68
  refine (IH.out a hht _ _ _ k env hok hmay (by rw [hta]; decide) (HX.out _ (hB0.trans (hHeld.mono hB0.size))) (Nat.le_refl _)).mono ?_
  rw [HAV.out]
  rintro e w9 ⟨rfl, hq9⟩
  refine hK.out _ _ ?_ (fun hHeld => ?_)
  · exact hHeld.trans (hq9.mono hHeld.size)
  clear hK K
  try simp only [Act.put, List.getElem_toArray, List.getElem_cons_zero, List.getElem_cons_succ, List.setIfInBounds_toArray, List.set_cons_zero, List.set_cons_succ]
  refine wpAnyH_take (i := 6) (oi := _) (v := ?_) rfl (by kernel_rfl) (by kernel_rfl) (by kernel_rfl) (fun _ _ _ h => h) (Or.inl ⟨by rfl, ?_⟩) (by assumption) ?_
  rotate_left
  · intro w' hSw
    (try dsimp only at hSw)
    have k0 := (hSw.cell (p := ⟨w.heap.size, 0, none⟩) hl1).trans p0
    have k2 := (hSw.cell (p := ⟨w.heap.size, 2, none⟩) hl1).trans p2
    have v0 := (hSw.cell (p := ⟨w.heap.size + 1, 0, none⟩) hl2).trans q0
    have v1 := (hSw.cell (p := ⟨w.heap.size + 1, 1, none⟩) hl2).trans q1
    have v2 := (hSw.cell (p := ⟨w.heap.size + 1, 2, none⟩) hl2).trans q2
    have g0 := (hSw.cell (p := ⟨b0, off0, none⟩) hlb).trans d00
    have g1 := (hSw.cell (p := ⟨b0, off0 + 1, none⟩) hlb).trans d01
    have g2 := (hSw.cell (p := ⟨b0, off0 + 2, none⟩) hlb).trans d02
    go_simp
    try with_reducible rfl
  try simp only [Act.put, List.getElem_toArray, List.getElem_cons_zero, List.getElem_cons_succ, List.setIfInBounds_toArray, List.set_cons_zero, List.set_cons_succ]
  refine wpAnyH_done (by kernel_rfl) ?_ _
  have u0 := (hHeld.cell (p := ⟨w.heap.size, 0, none⟩) hl1).trans p0
  go_wp2_with fail
  go_ret
  exact ⟨by rw [HE.out]; rfl, hB0.trans (hHeld.mono hB0.size)⟩

set_option maxRecDepth 100000 in
set_option maxHeartbeats 1000000 in
theorem do_ints (x a b : Ex) (IH : Hid (DoIH x.ht)) (v : Value) (B : Nat) (w : World) (k : Nat) (env : Env) (hv : ExAt w B v x) (hB : B ≤ w.heap.size) (hop : x.op = 7 ∨ x.op = 8 ∨ x.op = 9 ∨ x.op = 10 ∨ x.op = 11 ∨ x.op = 12 ∨ x.op = 13 ∨ x.op = 14 ∨ x.op = 15) (hargs : x.args = [a, b]) (hok0 : a.ok) (hmay0 : mayB k a = true) (ht0 : a.ty ≠ 0) (hok1 : b.ok) (hmay1 : mayB k b = true) (ht1 : b.ty ≠ 0) (he0 : (a.ev env).ty = 1) (he1 : (b.ev env).ty = 1) :
    Calls Try.prog 68 #[v, env.v] w fun e w' => e = .returned (x.ev env).v ∧ Below w.heap.size w w' := by
  have HE : Hid ((x.ev env).v = Ev.v (evInts x.op (a.ev env).n (b.ev env).n)) := by
    show _ = _
    rw [ev_two (env := env) (by omega) hargs, Ev.of_1 he0, Ev.of_1 he1]
    rfl
  have hht0 : a.ht < x.ht := Ex.ht_args x a (by simp [hargs])
  have hht1 : b.ht < x.ht := Ex.ht_args x b (by simp [hargs])
  have HV0 : Hid ((a.ev env).v = .iface 2 (.int .i64 (a.ev env).n)) := congrArg Ev.v (Ev.of_1 he0)
  have HV1 : Hid ((b.ev env).v = .iface 2 (.int .i64 (b.ev env).n)) := congrArg Ev.v (Ev.of_1 he1)
  obtain ⟨sv, rfl, hs⟩ := hv
  obtain ⟨ad, cap, rfl, hcap, hmx⟩ := hs.slice
  have HS := Lib.hid hs
  have hD := DoW.new w x.op x.n (.slice ad x.args.length cap) env
  have hlen : x.args.length = 2 := by rw [hargs]; rfl
  obtain ⟨b0, off0, cp0, s0, e0, hb0, c00, c01, c02, hsub0⟩ := (hs.mono hB).at_ 0 (by omega)
  simp only [hargs, List.getElem_cons_zero, Nat.zero_mul, Nat.add_zero] at c00 c01 c02 hsub0
  obtain ⟨b1, off1, cp1, s1, e1, hb1, c10, c11, c12, hsub1⟩ := (hs.mono hB).at_ 1 (by omega)
  simp only [hargs, List.getElem_cons_succ, List.getElem_cons_zero, Nat.one_mul] at c10 c11 c12 hsub1
  rw [hlen] at hD e0 e1 ⊢
  simp only [Value.slice.injEq, true_and] at e0 e1
  obtain ⟨rfl, rfl⟩ := e0
  simp only [Option.some.injEq, Addr.mk.injEq, and_true] at e1
  obtain ⟨⟨rfl, rfl⟩, rfl⟩ := e1
  obtain ⟨sa0, sc0, rfl, _, _⟩ := hsub0.slice
  have HX0 : Hid (∀ W, Below w.heap.size w W → ExAt W W.heap.size (.agg #[.int .u8 a.op, .int .i64 a.n, .slice sa0 a.args.length sc0]) a) := fun W hb => ⟨_, rfl, (hsub0.keep hb).mono hb.size⟩
  obtain ⟨sa1, sc1, rfl, _, _⟩ := hsub1.slice
  have HX1 : Hid (∀ W, Below w.heap.size w W → ExAt W W.heap.size (.agg #[.int .u8 b.op, .int .i64 b.n, .slice sa1 b.args.length sc1]) b) := fun W hb => ⟨_, rfl, (hsub1.keep hb).mono hb.size⟩
  generalize (x.ev env).v = r at *
  generalize x.n = n at *
  generalize hx0 : a.op = ao0 at *
  generalize hy0 : a.n = an0 at *
  generalize hk0 : a.args.length = al0 at *
  generalize hx1 : b.op = ao1 at *
  generalize hy1 : b.n = an1 at *
  generalize hk1 : b.args.length = al1 at *
  clear hx0 hy0 hk0 hsub0 hx1 hy1 hk1 hsub1 hs hcap hmx hlen hargs HS
  generalize hz0 : (a.ev env).n = z0 at *
  generalize hz1 : (b.ev env).n = z1 at *
  generalize x.op = o at *
  clear hz0 hz1 he0 he1
  have e1 : (o == 1) = false := by rw [beq_eq_false_iff_ne]; omega
  have e2 : (o == 2) = false := by rw [beq_eq_false_iff_ne]; omega
  have e3 : (o == 3) = false := by rw [beq_eq_false_iff_ne]; omega
  have e4 : (o == 4) = false := by rw [beq_eq_false_iff_ne]; omega
  have e5 : (o == 5) = false := by rw [beq_eq_false_iff_ne]; omega
  have e6 : (o == 6) = false := by rw [beq_eq_false_iff_ne]; omega
  have e18 : (o == 18) = false := by rw [beq_eq_false_iff_ne]; omega
  unfold Env.v
  go_enter Try.func68, Try.ntmps68
  go_upto_region 10 with fail
  generalize World.alloc (World.alloc w _) _ = W at *
  have p0 := hD.x.cell 0
  have p2 := hD.x.cell 2
  have q0 := hD.e.cell 0
  have q1 := hD.e.cell 1
  have q2 := hD.e.cell 2
  have hl1 := hD.x.lt
  have hl2 := hD.e.lt
  have hB0 := hD.b
  have hlb : b0 < W.heap.size := Nat.lt_of_lt_of_le hb0 hB0.size
  have d00 := (hB0.cell (p := ⟨b0, off0, none⟩) hb0).trans c00
  have d01 := (hB0.cell (p := ⟨b0, off0 + 1, none⟩) hb0).trans c01
  have d02 := (hB0.cell (p := ⟨b0, off0 + 2, none⟩) hb0).trans c02
  refine wp_region_held_drew (S := (fun w' => Below W.heap.size W w')) (by kernel_rfl) ?_ (fun hHeld => ?_)
  · exact (Below.refl _ _).drew
  refine wpAnyH_take (i := 0) (oi := _) (v := ?_) rfl (by kernel_rfl) (by kernel_rfl) (by kernel_rfl) (fun _ _ _ h => h) (Or.inl ⟨by rfl, ?_⟩) (by assumption) ?_
  rotate_left
  · intro w' hSw
    (try dsimp only at hSw)
    have k0 := (hSw.cell (p := ⟨w.heap.size, 0, none⟩) hl1).trans p0
    have k2 := (hSw.cell (p := ⟨w.heap.size, 2, none⟩) hl1).trans p2
    have v0 := (hSw.cell (p := ⟨w.heap.size + 1, 0, none⟩) hl2).trans q0
    have v1 := (hSw.cell (p := ⟨w.heap.size + 1, 1, none⟩) hl2).trans q1
    have v2 := (hSw.cell (p := ⟨w.heap.size + 1, 2, none⟩) hl2).trans q2
    have g0 := (hSw.cell (p := ⟨b0, off0, none⟩) hlb).trans d00
    have g1 := (hSw.cell (p := ⟨b0, off0 + 1, none⟩) hlb).trans d01
    have g2 := (hSw.cell (p := ⟨b0, off0 + 2, none⟩) hlb).trans d02
    go_simp
    try with_reducible rfl
  try simp only [Act.put, List.getElem_toArray, List.getElem_cons_zero, List.setIfInBounds_toArray, List.set_cons_zero, List.set_cons_succ]
  refine wpAnyH_take (i := 1) (oi := _) (v := ?_) rfl (by kernel_rfl) (by kernel_rfl) (by kernel_rfl) (fun _ _ _ h => h) (Or.inl ⟨by rfl, ?_⟩) (by assumption) ?_
  rotate_left
  · intro w' hSw
    (try dsimp only at hSw)
    have k0 := (hSw.cell (p := ⟨w.heap.size, 0, none⟩) hl1).trans p0
    have k2 := (hSw.cell (p := ⟨w.heap.size, 2, none⟩) hl1).trans p2
    have v0 := (hSw.cell (p := ⟨w.heap.size + 1, 0, none⟩) hl2).trans q0
    have v1 := (hSw.cell (p := ⟨w.heap.size + 1, 1, none⟩) hl2).trans q1
    have v2 := (hSw.cell (p := ⟨w.heap.size + 1, 2, none⟩) hl2).trans q2
    have g0 := (hSw.cell (p := ⟨b0, off0, none⟩) hlb).trans d00
    have g1 := (hSw.cell (p := ⟨b0, off0 + 1, none⟩) hlb).trans d01
    have g2 := (hSw.cell (p := ⟨b0, off0 + 2, none⟩) hlb).trans d02
    go_simp
    try with_reducible rfl
  try simp only [Act.put, List.getElem_toArray, List.getElem_cons_zero, List.getElem_cons_succ, List.setIfInBounds_toArray, List.set_cons_zero, List.set_cons_succ]
  refine wpAnyH_take (i := 2) (oi := _) (v := ?_) rfl (by kernel_rfl) (by kernel_rfl) (by kernel_rfl) (fun _ _ _ h => h) (Or.inl ⟨by rfl, ?_⟩) (by assumption) ?_
  rotate_left
  · intro w' hSw
    (try dsimp only at hSw)
    have k0 := (hSw.cell (p := ⟨w.heap.size, 0, none⟩) hl1).trans p0
    have k2 := (hSw.cell (p := ⟨w.heap.size, 2, none⟩) hl1).trans p2
    have v0 := (hSw.cell (p := ⟨w.heap.size + 1, 0, none⟩) hl2).trans q0
    have v1 := (hSw.cell (p := ⟨w.heap.size + 1, 1, none⟩) hl2).trans q1
    have v2 := (hSw.cell (p := ⟨w.heap.size + 1, 2, none⟩) hl2).trans q2
    have g0 := (hSw.cell (p := ⟨b0, off0, none⟩) hlb).trans d00
    have g1 := (hSw.cell (p := ⟨b0, off0 + 1, none⟩) hlb).trans d01
    have g2 := (hSw.cell (p := ⟨b0, off0 + 2, none⟩) hlb).trans d02
    go_simp
    try with_reducible rfl
  try simp only [Act.put, List.getElem_toArray, List.getElem_cons_zero, List.getElem_cons_succ, List.setIfInBounds_toArray, List.set_cons_zero, List.set_cons_succ]
  refine wpAnyH_take (i := 3) (oi := _) (v := ?_) rfl (by kernel_rfl) (by kernel_rfl) (by kernel_rfl) (fun _ _ _ h => h) (Or.inl ⟨by rfl, ?_⟩) (by assumption) ?_
  rotate_left
  · intro w' hSw
    (try dsimp only at hSw)
    have k0 := (hSw.cell (p := ⟨w.heap.size, 0, none⟩) hl1).trans p0
    have k2 := (hSw.cell (p := ⟨w.heap.size, 2, none⟩) hl1).trans p2
    have v0 := (hSw.cell (p := ⟨w.heap.size + 1, 0, none⟩) hl2).trans q0
    have v1 := (hSw.cell (p := ⟨w.heap.size + 1, 1, none⟩) hl2).trans q1
    have v2 := (hSw.cell (p := ⟨w.heap.size + 1, 2, none⟩) hl2).trans q2
    have g0 := (hSw.cell (p := ⟨b0, off0, none⟩) hlb).trans d00
    have g1 := (hSw.cell (p := ⟨b0, off0 + 1, none⟩) hlb).trans d01
    have g2 := (hSw.cell (p := ⟨b0, off0 + 2, none⟩) hlb).trans d02
    go_simp
    try with_reducible rfl
  try simp only [Act.put, List.getElem_toArray, List.getElem_cons_zero, List.getElem_cons_succ, List.setIfInBounds_toArray, List.set_cons_zero, List.set_cons_succ]
  refine wpAnyH_take (i := 4) (oi := _) (v := ?_) rfl (by kernel_rfl) (by kernel_rfl) (by kernel_rfl) (fun _ _ _ h => h) (Or.inl ⟨by rfl, ?_⟩) (by assumption) ?_
  rotate_left
  · intro w' hSw
    (try dsimp only at hSw)
    have k0 := (hSw.cell (p := ⟨w.heap.size, 0, none⟩) hl1).trans p0
    have k2 := (hSw.cell (p := ⟨w.heap.size, 2, none⟩) hl1).trans p2
    have v0 := (hSw.cell (p := ⟨w.heap.size + 1, 0, none⟩) hl2).trans q0
    have v1 := (hSw.cell (p := ⟨w.heap.size + 1, 1, none⟩) hl2).trans q1
    have v2 := (hSw.cell (p := ⟨w.heap.size + 1, 2, none⟩) hl2).trans q2
    have g0 := (hSw.cell (p := ⟨b0, off0, none⟩) hlb).trans d00
    have g1 := (hSw.cell (p := ⟨b0, off0 + 1, none⟩) hlb).trans d01
    have g2 := (hSw.cell (p := ⟨b0, off0 + 2, none⟩) hlb).trans d02
    go_simp
    try with_reducible rfl
  try simp only [Act.put, List.getElem_toArray, List.getElem_cons_zero, List.getElem_cons_succ, List.setIfInBounds_toArray, List.set_cons_zero, List.set_cons_succ]
  refine wpAnyH_ready (rs := [5]) (by kernel_rfl) (by simp) ?_
  refine AllReadyH.cons rfl (fun K hK => ?_) AllReadyH.nil
  go_simp
  go_at_call 68
  refine (IH.out a hht0 _ _ _ k env hok0 hmay0 ht0 (HX0.out _ (hB0.trans (hHeld.mono hB0.size))) (Nat.le_refl _)).mono ?_
  rw [HV0.out]
  rintro e w9 ⟨rfl, hq9⟩
  refine hK.out _ _ ?_ (fun hHeld => ?_)
  · exact hHeld.trans (hq9.mono hHeld.size)
  clear hK K
  try simp only [Act.put, List.getElem_toArray, List.getElem_cons_zero, List.getElem_cons_succ, List.setIfInBounds_toArray, List.set_cons_zero, List.set_cons_succ]
  refine wpAnyH_take (i := 6) (oi := _) (v := ?_) rfl (by kernel_rfl) (by kernel_rfl) (by kernel_rfl) (fun _ _ _ h => h) (Or.inl ⟨by rfl, ?_⟩) (by assumption) ?_
  rotate_left
  · intro w' hSw
    (try dsimp only at hSw)
    have k0 := (hSw.cell (p := ⟨w.heap.size, 0, none⟩) hl1).trans p0
    have k2 := (hSw.cell (p := ⟨w.heap.size, 2, none⟩) hl1).trans p2
    have v0 := (hSw.cell (p := ⟨w.heap.size + 1, 0, none⟩) hl2).trans q0
    have v1 := (hSw.cell (p := ⟨w.heap.size + 1, 1, none⟩) hl2).trans q1
    have v2 := (hSw.cell (p := ⟨w.heap.size + 1, 2, none⟩) hl2).trans q2
    have g0 := (hSw.cell (p := ⟨b0, off0, none⟩) hlb).trans d00
    have g1 := (hSw.cell (p := ⟨b0, off0 + 1, none⟩) hlb).trans d01
    have g2 := (hSw.cell (p := ⟨b0, off0 + 2, none⟩) hlb).trans d02
    go_simp
    try with_reducible rfl
  try simp only [Act.put, List.getElem_toArray, List.getElem_cons_zero, List.getElem_cons_succ, List.setIfInBounds_toArray, List.set_cons_zero, List.set_cons_succ]
  refine wpAnyH_done (by kernel_rfl) ?_ _
  have hD9 := hD.below hHeld
  clear hHeld hq9 p0 p2 q0 q1 q2 hl1 hl2 hB0 hlb d00 d01 d02 hD
  generalize hww : w9 = W9 at *
  clear hww
  have p0 := hD9.x.cell 0
  have p2 := hD9.x.cell 2
  have q0 := hD9.e.cell 0
  have q1 := hD9.e.cell 1
  have q2 := hD9.e.cell 2
  have hl1 := hD9.x.lt
  have hl2 := hD9.e.lt
  have hB0 := hD9.b
  have hlb : b0 < W9.heap.size := Nat.lt_of_lt_of_le hb0 hB0.size
  have d10 := (hB0.cell (p := ⟨b0, off0 + 3, none⟩) hb0).trans c10
  have d11 := (hB0.cell (p := ⟨b0, off0 + 3 + 1, none⟩) hb0).trans c11
  have d12 := (hB0.cell (p := ⟨b0, off0 + 3 + 2, none⟩) hb0).trans c12
  go_upto_region 20 with fail
  refine wp_region_held_drew (S := (fun w' => Below W9.heap.size W9 w')) (by kernel_rfl) ?_ (fun hHeld => ?_)
  · exact (Below.refl _ _).drew
  refine wpAnyH_take (i := 0) (oi := _) (v := ?_) rfl (by kernel_rfl) (by kernel_rfl) (by kernel_rfl) (fun _ _ _ h => h) (Or.inl ⟨by rfl, ?_⟩) (by assumption) ?_
  rotate_left
  · intro w' hSw
    (try dsimp only at hSw)
    have k0 := (hSw.cell (p := ⟨w.heap.size, 0, none⟩) hl1).trans p0
    have k2 := (hSw.cell (p := ⟨w.heap.size, 2, none⟩) hl1).trans p2
    have v0 := (hSw.cell (p := ⟨w.heap.size + 1, 0, none⟩) hl2).trans q0
    have v1 := (hSw.cell (p := ⟨w.heap.size + 1, 1, none⟩) hl2).trans q1
    have v2 := (hSw.cell (p := ⟨w.heap.size + 1, 2, none⟩) hl2).trans q2
    have g0 := (hSw.cell (p := ⟨b0, off0 + 3, none⟩) hlb).trans d10
    have g1 := (hSw.cell (p := ⟨b0, off0 + 3 + 1, none⟩) hlb).trans d11
    have g2 := (hSw.cell (p := ⟨b0, off0 + 3 + 2, none⟩) hlb).trans d12
    have f1 : w'.cell? ⟨b0, off0 + 4, none⟩ = _ := g1
    have f2 : w'.cell? ⟨b0, off0 + 5, none⟩ = _ := g2
    go_simp
    try with_reducible rfl
  try simp only [Act.put, List.getElem_toArray, List.getElem_cons_zero, List.setIfInBounds_toArray, List.set_cons_zero, List.set_cons_succ]
  refine wpAnyH_take (i := 1) (oi := _) (v := ?_) rfl (by kernel_rfl) (by kernel_rfl) (by kernel_rfl) (fun _ _ _ h => h) (Or.inl ⟨by rfl, ?_⟩) (by assumption) ?_
  rotate_left
  · intro w' hSw
    (try dsimp only at hSw)
    have k0 := (hSw.cell (p := ⟨w.heap.size, 0, none⟩) hl1).trans p0
    have k2 := (hSw.cell (p := ⟨w.heap.size, 2, none⟩) hl1).trans p2
    have v0 := (hSw.cell (p := ⟨w.heap.size + 1, 0, none⟩) hl2).trans q0
    have v1 := (hSw.cell (p := ⟨w.heap.size + 1, 1, none⟩) hl2).trans q1
    have v2 := (hSw.cell (p := ⟨w.heap.size + 1, 2, none⟩) hl2).trans q2
    have g0 := (hSw.cell (p := ⟨b0, off0 + 3, none⟩) hlb).trans d10
    have g1 := (hSw.cell (p := ⟨b0, off0 + 3 + 1, none⟩) hlb).trans d11
    have g2 := (hSw.cell (p := ⟨b0, off0 + 3 + 2, none⟩) hlb).trans d12
    have f1 : w'.cell? ⟨b0, off0 + 4, none⟩ = _ := g1
    have f2 : w'.cell? ⟨b0, off0 + 5, none⟩ = _ := g2
    go_simp
    try with_reducible rfl
  try simp only [Act.put, List.getElem_toArray, List.getElem_cons_zero, List.getElem_cons_succ, List.setIfInBounds_toArray, List.set_cons_zero, List.set_cons_succ]
  refine wpAnyH_take (i := 2) (oi := _) (v := ?_) rfl (by kernel_rfl) (by kernel_rfl) (by kernel_rfl) (fun _ _ _ h => h) (Or.inl ⟨by rfl, ?_⟩) (by assumption) ?_
  rotate_left
  · intro w' hSw
    (try dsimp only at hSw)
    have k0 := (hSw.cell (p := ⟨w.heap.size, 0, none⟩) hl1).trans p0
    have k2 := (hSw.cell (p := ⟨w.heap.size, 2, none⟩) hl1).trans p2
    have v0 := (hSw.cell (p := ⟨w.heap.size + 1, 0, none⟩) hl2).trans q0
    have v1 := (hSw.cell (p := ⟨w.heap.size + 1, 1, none⟩) hl2).trans q1
    have v2 := (hSw.cell (p := ⟨w.heap.size + 1, 2, none⟩) hl2).trans q2
    have g0 := (hSw.cell (p := ⟨b0, off0 + 3, none⟩) hlb).trans d10
    have g1 := (hSw.cell (p := ⟨b0, off0 + 3 + 1, none⟩) hlb).trans d11
    have g2 := (hSw.cell (p := ⟨b0, off0 + 3 + 2, none⟩) hlb).trans d12
    have f1 : w'.cell? ⟨b0, off0 + 4, none⟩ = _ := g1
    have f2 : w'.cell? ⟨b0, off0 + 5, none⟩ = _ := g2
    go_simp
    try with_reducible rfl
  try simp only [Act.put, List.getElem_toArray, List.getElem_cons_zero, List.getElem_cons_succ, List.setIfInBounds_toArray, List.set_cons_zero, List.set_cons_succ]
  refine wpAnyH_take (i := 3) (oi := _) (v := ?_) rfl (by kernel_rfl) (by kernel_rfl) (by kernel_rfl) (fun _ _ _ h => h) (Or.inl ⟨by rfl, ?_⟩) (by assumption) ?_
  rotate_left
  · intro w' hSw
    (try dsimp only at hSw)
    have k0 := (hSw.cell (p := ⟨w.heap.size, 0, none⟩) hl1).trans p0
    have k2 := (hSw.cell (p := ⟨w.heap.size, 2, none⟩) hl1).trans p2
    have v0 := (hSw.cell (p := ⟨w.heap.size + 1, 0, none⟩) hl2).trans q0
    have v1 := (hSw.cell (p := ⟨w.heap.size + 1, 1, none⟩) hl2).trans q1
    have v2 := (hSw.cell (p := ⟨w.heap.size + 1, 2, none⟩) hl2).trans q2
    have g0 := (hSw.cell (p := ⟨b0, off0 + 3, none⟩) hlb).trans d10
    have g1 := (hSw.cell (p := ⟨b0, off0 + 3 + 1, none⟩) hlb).trans d11
    have g2 := (hSw.cell (p := ⟨b0, off0 + 3 + 2, none⟩) hlb).trans d12
    have f1 : w'.cell? ⟨b0, off0 + 4, none⟩ = _ := g1
    have f2 : w'.cell? ⟨b0, off0 + 5, none⟩ = _ := g2
    go_simp
    try with_reducible rfl
  try simp only [Act.put, List.getElem_toArray, List.getElem_cons_zero, List.getElem_cons_succ, List.setIfInBounds_toArray, List.set_cons_zero, List.set_cons_succ]
  refine wpAnyH_take (i := 4) (oi := _) (v := ?_) rfl (by kernel_rfl) (by kernel_rfl) (by kernel_rfl) (fun _ _ _ h => h) (Or.inl ⟨by rfl, ?_⟩) (by assumption) ?_
  rotate_left
  · intro w' hSw
    (try dsimp only at hSw)
    have k0 := (hSw.cell (p := ⟨w.heap.size, 0, none⟩) hl1).trans p0
    have k2 := (hSw.cell (p := ⟨w.heap.size, 2, none⟩) hl1).trans p2
    have v0 := (hSw.cell (p := ⟨w.heap.size + 1, 0, none⟩) hl2).trans q0
    have v1 := (hSw.cell (p := ⟨w.heap.size + 1, 1, none⟩) hl2).trans q1
    have v2 := (hSw.cell (p := ⟨w.heap.size + 1, 2, none⟩) hl2).trans q2
    have g0 := (hSw.cell (p := ⟨b0, off0 + 3, none⟩) hlb).trans d10
    have g1 := (hSw.cell (p := ⟨b0, off0 + 3 + 1, none⟩) hlb).trans d11
    have g2 := (hSw.cell (p := ⟨b0, off0 + 3 + 2, none⟩) hlb).trans d12
    have f1 : w'.cell? ⟨b0, off0 + 4, none⟩ = _ := g1
    have f2 : w'.cell? ⟨b0, off0 + 5, none⟩ = _ := g2
    go_simp
    try with_reducible rfl
  try simp only [Act.put, List.getElem_toArray, List.getElem_cons_zero, List.getElem_cons_succ, List.setIfInBounds_toArray, List.set_cons_zero, List.set_cons_succ]
  refine wpAnyH_take (i := 5) (oi := _) (v := ?_) rfl (by kernel_rfl) (by kernel_rfl) (by kernel_rfl) (fun _ _ _ h => h) (Or.inl ⟨by rfl, ?_⟩) (by assumption) ?_
  rotate_left
  · intro w' hSw
    (try dsimp only at hSw)
    have k0 := (hSw.cell (p := ⟨w.heap.size, 0, none⟩) hl1).trans p0
    have k2 := (hSw.cell (p := ⟨w.heap.size, 2, none⟩) hl1).trans p2
    have v0 := (hSw.cell (p := ⟨w.heap.size + 1, 0, none⟩) hl2).trans q0
    have v1 := (hSw.cell (p := ⟨w.heap.size + 1, 1, none⟩) hl2).trans q1
    have v2 := (hSw.cell (p := ⟨w.heap.size + 1, 2, none⟩) hl2).trans q2
    have g0 := (hSw.cell (p := ⟨b0, off0 + 3, none⟩) hlb).trans d10
    have g1 := (hSw.cell (p := ⟨b0, off0 + 3 + 1, none⟩) hlb).trans d11
    have g2 := (hSw.cell (p := ⟨b0, off0 + 3 + 2, none⟩) hlb).trans d12
    have f1 : w'.cell? ⟨b0, off0 + 4, none⟩ = _ := g1
    have f2 : w'.cell? ⟨b0, off0 + 5, none⟩ = _ := g2
    go_simp
    try with_reducible rfl
  try simp only [Act.put, List.getElem_toArray, List.getElem_cons_zero, List.getElem_cons_succ, List.setIfInBounds_toArray, List.set_cons_zero, List.set_cons_succ]
  refine wpAnyH_take (i := 6) (oi := _) (v := ?_) rfl (by kernel_rfl) (by kernel_rfl) (by kernel_rfl) (fun _ _ _ h => h) (Or.inl ⟨by rfl, ?_⟩) (by assumption) ?_
  rotate_left
  · intro w' hSw
    (try dsimp only at hSw)
    have k0 := (hSw.cell (p := ⟨w.heap.size, 0, none⟩) hl1).trans p0
    have k2 := (hSw.cell (p := ⟨w.heap.size, 2, none⟩) hl1).trans p2
    have v0 := (hSw.cell (p := ⟨w.heap.size + 1, 0, none⟩) hl2).trans q0
    have v1 := (hSw.cell (p := ⟨w.heap.size + 1, 1, none⟩) hl2).trans q1
    have v2 := (hSw.cell (p := ⟨w.heap.size + 1, 2, none⟩) hl2).trans q2
    have g0 := (hSw.cell (p := ⟨b0, off0 + 3, none⟩) hlb).trans d10
    have g1 := (hSw.cell (p := ⟨b0, off0 + 3 + 1, none⟩) hlb).trans d11
    have g2 := (hSw.cell (p := ⟨b0, off0 + 3 + 2, none⟩) hlb).trans d12
    have f1 : w'.cell? ⟨b0, off0 + 4, none⟩ = _ := g1
    have f2 : w'.cell? ⟨b0, off0 + 5, none⟩ = _ := g2
    go_simp
    try with_reducible rfl
  try simp only [Act.put, List.getElem_toArray, List.getElem_cons_zero, List.getElem_cons_succ, List.setIfInBounds_toArray, List.set_cons_zero, List.set_cons_succ]
  refine wpAnyH_take (i := 7) (oi := _) (v := ?_) rfl (by kernel_rfl) (by kernel_rfl) (by kernel_rfl) (fun _ _ _ h => h) (Or.inl ⟨by rfl, ?_⟩) (by assumption) ?_
  rotate_left
  · intro w' hSw
    (try dsimp only at hSw)
    have k0 := (hSw.cell (p := ⟨w.heap.size, 0, none⟩) hl1).trans p0
    have k2 := (hSw.cell (p := ⟨w.heap.size, 2, none⟩) hl1).trans p2
    have v0 := (hSw.cell (p := ⟨w.heap.size + 1, 0, none⟩) hl2).trans q0
    have v1 := (hSw.cell (p := ⟨w.heap.size + 1, 1, none⟩) hl2).trans q1
    have v2 := (hSw.cell (p := ⟨w.heap.size + 1, 2, none⟩) hl2).trans q2
    have g0 := (hSw.cell (p := ⟨b0, off0 + 3, none⟩) hlb).trans d10
    have g1 := (hSw.cell (p := ⟨b0, off0 + 3 + 1, none⟩) hlb).trans d11
    have g2 := (hSw.cell (p := ⟨b0, off0 + 3 + 2, none⟩) hlb).trans d12
    have f1 : w'.cell? ⟨b0, off0 + 4, none⟩ = _ := g1
    have f2 : w'.cell? ⟨b0, off0 + 5, none⟩ = _ := g2
    go_simp
    try with_reducible rfl
  try simp only [Act.put, List.getElem_toArray, List.getElem_cons_zero, List.getElem_cons_succ, List.setIfInBounds_toArray, List.set_cons_zero, List.set_cons_succ]
  refine wpAnyH_ready (rs := [8]) (by kernel_rfl) (by simp) ?_
  refine AllReadyH.cons rfl (fun K hK => ?_) AllReadyH.nil
  go_simp
  go_at_call 68
  refine (IH.out b hht1 _ _ _ k env hok1 hmay1 ht1 (HX1.out _ (hB0.trans (hHeld.mono hB0.size))) (Nat.le_refl _)).mono ?_
  rw [HV1.out]
  rintro e w9 ⟨rfl, hq9⟩
  refine hK.out _ _ ?_ (fun hHeld => ?_)
  · exact hHeld.trans (hq9.mono hHeld.size)
  clear hK K
  try simp only [Act.put, List.getElem_toArray, List.getElem_cons_zero, List.getElem_cons_succ, List.setIfInBounds_toArray, List.set_cons_zero, List.set_cons_succ]
  refine wpAnyH_ready (rs := [9]) (by kernel_rfl) (by simp) ?_
  refine AllReadyH.cons rfl (fun K hK => ?_) AllReadyH.nil
  go_simp
  go_at_call 94
  refine (two_i o hop z0 z1 _).mono ?_
  rintro e w9 ⟨rfl, rfl⟩
  refine hK.out _ _ ?_ (fun hHeld => ?_)
  · exact hHeld
  clear hK K
  try simp only [Act.put, List.getElem_toArray, List.getElem_cons_zero, List.getElem_cons_succ, List.setIfInBounds_toArray, List.set_cons_zero, List.set_cons_succ]
  refine wpAnyH_take (i := 10) (oi := _) (v := ?_) rfl (by kernel_rfl) (by kernel_rfl) (by kernel_rfl) (fun _ _ _ h => h) (Or.inl ⟨by rfl, ?_⟩) (by assumption) ?_
  rotate_left
  · intro w' hSw
    (try dsimp only at hSw)
    have k0 := (hSw.cell (p := ⟨w.heap.size, 0, none⟩) hl1).trans p0
    have k2 := (hSw.cell (p := ⟨w.heap.size, 2, none⟩) hl1).trans p2
    have v0 := (hSw.cell (p := ⟨w.heap.size + 1, 0, none⟩) hl2).trans q0
    have v1 := (hSw.cell (p := ⟨w.heap.size + 1, 1, none⟩) hl2).trans q1
    have v2 := (hSw.cell (p := ⟨w.heap.size + 1, 2, none⟩) hl2).trans q2
    have g0 := (hSw.cell (p := ⟨b0, off0 + 3, none⟩) hlb).trans d10
    have g1 := (hSw.cell (p := ⟨b0, off0 + 3 + 1, none⟩) hlb).trans d11
    have g2 := (hSw.cell (p := ⟨b0, off0 + 3 + 2, none⟩) hlb).trans d12
    have f1 : w'.cell? ⟨b0, off0 + 4, none⟩ = _ := g1
    have f2 : w'.cell? ⟨b0, off0 + 5, none⟩ = _ := g2
    go_simp
    try with_reducible rfl
  try simp only [Act.put, List.getElem_toArray, List.getElem_cons_zero, List.getElem_cons_succ, List.setIfInBounds_toArray, List.set_cons_zero, List.set_cons_succ]
  refine wpAnyH_done (by kernel_rfl) ?_ _
  go_wp2_with fail
  go_ret
  exact ⟨by rw [HE.out]; rfl, hB0.trans (hHeld.mono hB0.size)⟩

set_option maxRecDepth 100000 in
set_option maxHeartbeats 1000000 in
theorem do_bools (x a b : Ex) (IH : Hid (DoIH x.ht)) (v : Value) (B : Nat) (w : World) (k : Nat) (env : Env) (hv : ExAt w B v x) (hB : B ≤ w.heap.size) (hop : x.op = 14 ∨ x.op = 15 ∨ x.op = 16 ∨ x.op = 17) (hargs : x.args = [a, b]) (hok0 : a.ok) (hmay0 : mayB k a = true) (ht0 : a.ty ≠ 0) (hok1 : b.ok) (hmay1 : mayB k b = true) (ht1 : b.ty ≠ 0) (he0 : (a.ev env).ty = 2) (he1 : (b.ev env).ty = 2) :
    Calls Try.prog 68 #[v, env.v] w fun e w' => e = .returned (x.ev env).v ∧ Below w.heap.size w w' := by
  have HE : Hid ((x.ev env).v = Ev.v (.bool (evBools x.op (a.ev env).b (b.ev env).b))) := by
    show _ = _
    rw [ev_two (env := env) (by omega) hargs, Ev.of_2 he0, Ev.of_2 he1]
    rfl
  have hht0 : a.ht < x.ht := Ex.ht_args x a (by simp [hargs])
  have hht1 : b.ht < x.ht := Ex.ht_args x b (by simp [hargs])
  have HV0 : Hid ((a.ev env).v = .iface 4 (.bool (a.ev env).b)) := congrArg Ev.v (Ev.of_2 he0)
  have HV1 : Hid ((b.ev env).v = .iface 4 (.bool (b.ev env).b)) := congrArg Ev.v (Ev.of_2 he1)
  obtain ⟨sv, rfl, hs⟩ := hv
  obtain ⟨ad, cap, rfl, hcap, hmx⟩ := hs.slice
  have HS := Lib.hid hs
  have hD := DoW.new w x.op x.n (.slice ad x.args.length cap) env
  have hlen : x.args.length = 2 := by rw [hargs]; rfl
  obtain ⟨b0, off0, cp0, s0, e0, hb0, c00, c01, c02, hsub0⟩ := (hs.mono hB).at_ 0 (by omega)
  simp only [hargs, List.getElem_cons_zero, Nat.zero_mul, Nat.add_zero] at c00 c01 c02 hsub0
  obtain ⟨b1, off1, cp1, s1, e1, hb1, c10, c11, c12, hsub1⟩ := (hs.mono hB).at_ 1 (by omega)
  simp only [hargs, List.getElem_cons_succ, List.getElem_cons_zero, Nat.one_mul] at c10 c11 c12 hsub1
  rw [hlen] at hD e0 e1 ⊢
  simp only [Value.slice.injEq, true_and] at e0 e1
  obtain ⟨rfl, rfl⟩ := e0
  simp only [Option.some.injEq, Addr.mk.injEq, and_true] at e1
  obtain ⟨⟨rfl, rfl⟩, rfl⟩ := e1
  obtain ⟨sa0, sc0, rfl, _, _⟩ := hsub0.slice
  have HX0 : Hid (∀ W, Below w.heap.size w W → ExAt W W.heap.size (.agg #[.int .u8 a.op, .int .i64 a.n, .slice sa0 a.args.length sc0]) a) := fun W hb => ⟨_, rfl, (hsub0.keep hb).mono hb.size⟩
  obtain ⟨sa1, sc1, rfl, _, _⟩ := hsub1.slice
  have HX1 : Hid (∀ W, Below w.heap.size w W → ExAt W W.heap.size (.agg #[.int .u8 b.op, .int .i64 b.n, .slice sa1 b.args.length sc1]) b) := fun W hb => ⟨_, rfl, (hsub1.keep hb).mono hb.size⟩
  generalize (x.ev env).v = r at *
  generalize x.n = n at *
  generalize hx0 : a.op = ao0 at *
  generalize hy0 : a.n = an0 at *
  generalize hk0 : a.args.length = al0 at *
  generalize hx1 : b.op = ao1 at *
  generalize hy1 : b.n = an1 at *
  generalize hk1 : b.args.length = al1 at *
  clear hx0 hy0 hk0 hsub0 hx1 hy1 hk1 hsub1 hs hcap hmx hlen hargs HS
  generalize hz0 : (a.ev env).b = z0 at *
  generalize hz1 : (b.ev env).b = z1 at *
  generalize x.op = o at *
  clear hz0 hz1 he0 he1
  have e1 : (o == 1) = false := by rw [beq_eq_false_iff_ne]; omega
  have e2 : (o == 2) = false := by rw [beq_eq_false_iff_ne]; omega
  have e3 : (o == 3) = false := by rw [beq_eq_false_iff_ne]; omega
  have e4 : (o == 4) = false := by rw [beq_eq_false_iff_ne]; omega
  have e5 : (o == 5) = false := by rw [beq_eq_false_iff_ne]; omega
  have e6 : (o == 6) = false := by rw [beq_eq_false_iff_ne]; omega
  have e18 : (o == 18) = false := by rw [beq_eq_false_iff_ne]; omega
  unfold Env.v
  go_enter Try.func68, Try.ntmps68
  go_upto_region 10 with fail
  generalize World.alloc (World.alloc w _) _ = W at *
  have p0 := hD.x.cell 0
  have p2 := hD.x.cell 2
  have q0 := hD.e.cell 0
  have q1 := hD.e.cell 1
  have q2 := hD.e.cell 2
  have hl1 := hD.x.lt
  have hl2 := hD.e.lt
  have hB0 := hD.b
  have hlb : b0 < W.heap.size := Nat.lt_of_lt_of_le hb0 hB0.size
  have d00 := (hB0.cell (p := ⟨b0, off0, none⟩) hb0).trans c00
  have d01 := (hB0.cell (p := ⟨b0, off0 + 1, none⟩) hb0).trans c01
  have d02 := (hB0.cell (p := ⟨b0, off0 + 2, none⟩) hb0).trans c02
  refine wp_region_held_drew (S := (fun w' => Below W.heap.size W w')) (by kernel_rfl) ?_ (fun hHeld => ?_)
  · exact (Below.refl _ _).drew
  refine wpAnyH_take (i := 0) (oi := _) (v := ?_) rfl (by kernel_rfl) (by kernel_rfl) (by kernel_rfl) (fun _ _ _ h => h) (Or.inl ⟨by rfl, ?_⟩) (by assumption) ?_
  rotate_left
  · intro w' hSw
    (try dsimp only at hSw)
    have k0 := (hSw.cell (p := ⟨w.heap.size, 0, none⟩) hl1).trans p0
    have k2 := (hSw.cell (p := ⟨w.heap.size, 2, none⟩) hl1).trans p2
    have v0 := (hSw.cell (p := ⟨w.heap.size + 1, 0, none⟩) hl2).trans q0
    have v1 := (hSw.cell (p := ⟨w.heap.size + 1, 1, none⟩) hl2).trans q1
    have v2 := (hSw.cell (p := ⟨w.heap.size + 1, 2, none⟩) hl2).trans q2
    have g0 := (hSw.cell (p := ⟨b0, off0, none⟩) hlb).trans d00
    have g1 := (hSw.cell (p := ⟨b0, off0 + 1, none⟩) hlb).trans d01
    have g2 := (hSw.cell (p := ⟨b0, off0 + 2, none⟩) hlb).trans d02
    go_simp
    try with_reducible rfl
  try simp only [Act.put, List.getElem_toArray, List.getElem_cons_zero, List.setIfInBounds_toArray, List.set_cons_zero, List.set_cons_succ]
  refine wpAnyH_take (i := 1) (oi := _) (v := ?_) rfl (by kernel_rfl) (by kernel_rfl) (by kernel_rfl) (fun _ _ _ h => h) (Or.inl ⟨by rfl, ?_⟩) (by assumption) ?_
  rotate_left
  · intro w' hSw
    (try dsimp only at hSw)
    have k0 := (hSw.cell (p := ⟨w.heap.size, 0, none⟩) hl1).trans p0
    have k2 := (hSw.cell (p := ⟨w.heap.size, 2, none⟩) hl1).trans p2
    have v0 := (hSw.cell (p := ⟨w.heap.size + 1, 0, none⟩) hl2).trans q0
    have v1 := (hSw.cell (p := ⟨w.heap.size + 1, 1, none⟩) hl2).trans q1
    have v2 := (hSw.cell (p := ⟨w.heap.size + 1, 2, none⟩) hl2).trans q2
    have g0 := (hSw.cell (p := ⟨b0, off0, none⟩) hlb).trans d00
    have g1 := (hSw.cell (p := ⟨b0, off0 + 1, none⟩) hlb).trans d01
    have g2 := (hSw.cell (p := ⟨b0, off0 + 2, none⟩) hlb).trans d02
    go_simp
    try with_reducible rfl
  try simp only [Act.put, List.getElem_toArray, List.getElem_cons_zero, List.getElem_cons_succ, List.setIfInBounds_toArray, List.set_cons_zero, List.set_cons_succ]
  refine wpAnyH_take (i := 2) (oi := _) (v := ?_) rfl (by kernel_rfl) (by kernel_rfl) (by kernel_rfl) (fun _ _ _ h => h) (Or.inl ⟨by rfl, ?_⟩) (by assumption) ?_
  rotate_left
  · intro w' hSw
    (try dsimp only at hSw)
    have k0 := (hSw.cell (p := ⟨w.heap.size, 0, none⟩) hl1).trans p0
    have k2 := (hSw.cell (p := ⟨w.heap.size, 2, none⟩) hl1).trans p2
    have v0 := (hSw.cell (p := ⟨w.heap.size + 1, 0, none⟩) hl2).trans q0
    have v1 := (hSw.cell (p := ⟨w.heap.size + 1, 1, none⟩) hl2).trans q1
    have v2 := (hSw.cell (p := ⟨w.heap.size + 1, 2, none⟩) hl2).trans q2
    have g0 := (hSw.cell (p := ⟨b0, off0, none⟩) hlb).trans d00
    have g1 := (hSw.cell (p := ⟨b0, off0 + 1, none⟩) hlb).trans d01
    have g2 := (hSw.cell (p := ⟨b0, off0 + 2, none⟩) hlb).trans d02
    go_simp
    try with_reducible rfl
  try simp only [Act.put, List.getElem_toArray, List.getElem_cons_zero, List.getElem_cons_succ, List.setIfInBounds_toArray, List.set_cons_zero, List.set_cons_succ]
  refine wpAnyH_take (i := 3) (oi := _) (v := ?_) rfl (by kernel_rfl) (by kernel_rfl) (by kernel_rfl) (fun _ _ _ h => h) (Or.inl ⟨by rfl, ?_⟩) (by assumption) ?_
  rotate_left
  · intro w' hSw
    (try dsimp only at hSw)
    have k0 := (hSw.cell (p := ⟨w.heap.size, 0, none⟩) hl1).trans p0
    have k2 := (hSw.cell (p := ⟨w.heap.size, 2, none⟩) hl1).trans p2
    have v0 := (hSw.cell (p := ⟨w.heap.size + 1, 0, none⟩) hl2).trans q0
    have v1 := (hSw.cell (p := ⟨w.heap.size + 1, 1, none⟩) hl2).trans q1
    have v2 := (hSw.cell (p := ⟨w.heap.size + 1, 2, none⟩) hl2).trans q2
    have g0 := (hSw.cell (p := ⟨b0, off0, none⟩) hlb).trans d00
    have g1 := (hSw.cell (p := ⟨b0, off0 + 1, none⟩) hlb).trans d01
    have g2 := (hSw.cell (p := ⟨b0, off0 + 2, none⟩) hlb).trans d02
    go_simp
    try with_reducible rfl
  try simp only [Act.put, List.getElem_toArray, List.getElem_cons_zero, List.getElem_cons_succ, List.setIfInBounds_toArray, List.set_cons_zero, List.set_cons_succ]
  refine wpAnyH_take (i := 4) (oi := _) (v := ?_) rfl (by kernel_rfl) (by kernel_rfl) (by kernel_rfl) (fun _ _ _ h => h) (Or.inl ⟨by rfl, ?_⟩) (by assumption) ?_
  rotate_left
  · intro w' hSw
    (try dsimp only at hSw)
    have k0 := (hSw.cell (p := ⟨w.heap.size, 0, none⟩) hl1).trans p0
    have k2 := (hSw.cell (p := ⟨w.heap.size, 2, none⟩) hl1).trans p2
    have v0 := (hSw.cell (p := ⟨w.heap.size + 1, 0, none⟩) hl2).trans q0
    have v1 := (hSw.cell (p := ⟨w.heap.size + 1, 1, none⟩) hl2).trans q1
    have v2 := (hSw.cell (p := ⟨w.heap.size + 1, 2, none⟩) hl2).trans q2
    have g0 := (hSw.cell (p := ⟨b0, off0, none⟩) hlb).trans d00
    have g1 := (hSw.cell (p := ⟨b0, off0 + 1, none⟩) hlb).trans d01
    have g2 := (hSw.cell (p := ⟨b0, off0 + 2, none⟩) hlb).trans d02
    go_simp
    try with_reducible rfl
  try simp only [Act.put, List.getElem_toArray, List.getElem_cons_zero, List.getElem_cons_succ, List.setIfInBounds_toArray, List.set_cons_zero, List.set_cons_succ]
  refine wpAnyH_ready (rs := [5]) (by kernel_rfl) (by simp) ?_
  refine AllReadyH.cons rfl (fun K hK => ?_) AllReadyH.nil
  go_simp
  go_at_call 68
  refine (IH.out a hht0 _ _ _ k env hok0 hmay0 ht0 (HX0.out _ (hB0.trans (hHeld.mono hB0.size))) (Nat.le_refl _)).mono ?_
  rw [HV0.out]
  rintro e w9 ⟨rfl, hq9⟩
  refine hK.out _ _ ?_ (fun hHeld => ?_)
  · exact hHeld.trans (hq9.mono hHeld.size)
  clear hK K
  try simp only [Act.put, List.getElem_toArray, List.getElem_cons_zero, List.getElem_cons_succ, List.setIfInBounds_toArray, List.set_cons_zero, List.set_cons_succ]
  refine wpAnyH_take (i := 6) (oi := _) (v := ?_) rfl (by kernel_rfl) (by kernel_rfl) (by kernel_rfl) (fun _ _ _ h => h) (Or.inl ⟨by rfl, ?_⟩) (by assumption) ?_
  rotate_left
  · intro w' hSw
    (try dsimp only at hSw)
    have k0 := (hSw.cell (p := ⟨w.heap.size, 0, none⟩) hl1).trans p0
    have k2 := (hSw.cell (p := ⟨w.heap.size, 2, none⟩) hl1).trans p2
    have v0 := (hSw.cell (p := ⟨w.heap.size + 1, 0, none⟩) hl2).trans q0
    have v1 := (hSw.cell (p := ⟨w.heap.size + 1, 1, none⟩) hl2).trans q1
    have v2 := (hSw.cell (p := ⟨w.heap.size + 1, 2, none⟩) hl2).trans q2
    have g0 := (hSw.cell (p := ⟨b0, off0, none⟩) hlb).trans d00
    have g1 := (hSw.cell (p := ⟨b0, off0 + 1, none⟩) hlb).trans d01
    have g2 := (hSw.cell (p := ⟨b0, off0 + 2, none⟩) hlb).trans d02
    go_simp
    try with_reducible rfl
  try simp only [Act.put, List.getElem_toArray, List.getElem_cons_zero, List.getElem_cons_succ, List.setIfInBounds_toArray, List.set_cons_zero, List.set_cons_succ]
  refine wpAnyH_done (by kernel_rfl) ?_ _
  have hD9 := hD.below hHeld
  clear hHeld hq9 p0 p2 q0 q1 q2 hl1 hl2 hB0 hlb d00 d01 d02 hD
  generalize hww : w9 = W9 at *
  clear hww
  have p0 := hD9.x.cell 0
  have p2 := hD9.x.cell 2
  have q0 := hD9.e.cell 0
  have q1 := hD9.e.cell 1
  have q2 := hD9.e.cell 2
  have hl1 := hD9.x.lt
  have hl2 := hD9.e.lt
  have hB0 := hD9.b
  have hlb : b0 < W9.heap.size := Nat.lt_of_lt_of_le hb0 hB0.size
  have d10 := (hB0.cell (p := ⟨b0, off0 + 3, none⟩) hb0).trans c10
  have d11 := (hB0.cell (p := ⟨b0, off0 + 3 + 1, none⟩) hb0).trans c11
  have d12 := (hB0.cell (p := ⟨b0, off0 + 3 + 2, none⟩) hb0).trans c12
  go_upto_region 20 with fail
  refine wp_region_held_drew (S := (fun w' => Below W9.heap.size W9 w')) (by kernel_rfl) ?_ (fun hHeld => ?_)
  · exact (Below.refl _ _).drew
  refine wpAnyH_take (i := 0) (oi := _) (v := ?_) rfl (by kernel_rfl) (by kernel_rfl) (by kernel_rfl) (fun _ _ _ h => h) (Or.inl ⟨by rfl, ?_⟩) (by assumption) ?_
  rotate_left
  · intro w' hSw
    (try dsimp only at hSw)
    have k0 := (hSw.cell (p := ⟨w.heap.size, 0, none⟩) hl1).trans p0
    have k2 := (hSw.cell (p := ⟨w.heap.size, 2, none⟩) hl1).trans p2
    have v0 := (hSw.cell (p := ⟨w.heap.size + 1, 0, none⟩) hl2).trans q0
    have v1 := (hSw.cell (p := ⟨w.heap.size + 1, 1, none⟩) hl2).trans q1
    have v2 := (hSw.cell (p := ⟨w.heap.size + 1, 2, none⟩) hl2).trans q2
    have g0 := (hSw.cell (p := ⟨b0, off0 + 3, none⟩) hlb).trans d10
    have g1 := (hSw.cell (p := ⟨b0, off0 + 3 + 1, none⟩) hlb).trans d11
    have g2 := (hSw.cell (p := ⟨b0, off0 + 3 + 2, none⟩) hlb).trans d12
    have f1 : w'.cell? ⟨b0, off0 + 4, none⟩ = _ := g1
    have f2 : w'.cell? ⟨b0, off0 + 5, none⟩ = _ := g2
    go_simp
    try with_reducible rfl
  try simp only [Act.put, List.getElem_toArray, List.getElem_cons_zero, List.setIfInBounds_toArray, List.set_cons_zero, List.set_cons_succ]
  refine wpAnyH_take (i := 1) (oi := _) (v := ?_) rfl (by kernel_rfl) (by kernel_rfl) (by kernel_rfl) (fun _ _ _ h => h) (Or.inl ⟨by rfl, ?_⟩) (by assumption) ?_
  rotate_left
  · intro w' hSw
    (try dsimp only at hSw)
    have k0 := (hSw.cell (p := ⟨w.heap.size, 0, none⟩) hl1).trans p0
    have k2 := (hSw.cell (p := ⟨w.heap.size, 2, none⟩) hl1).trans p2
    have v0 := (hSw.cell (p := ⟨w.heap.size + 1, 0, none⟩) hl2).trans q0
    have v1 := (hSw.cell (p := ⟨w.heap.size + 1, 1, none⟩) hl2).trans q1
    have v2 := (hSw.cell (p := ⟨w.heap.size + 1, 2, none⟩) hl2).trans q2
    have g0 := (hSw.cell (p := ⟨b0, off0 + 3, none⟩) hlb).trans d10
    have g1 := (hSw.cell (p := ⟨b0, off0 + 3 + 1, none⟩) hlb).trans d11
    have g2 := (hSw.cell (p := ⟨b0, off0 + 3 + 2, none⟩) hlb).trans d12
    have f1 : w'.cell? ⟨b0, off0 + 4, none⟩ = _ := g1
    have f2 : w'.cell? ⟨b0, off0 + 5, none⟩ = _ := g2
    go_simp
    try with_reducible rfl
  try simp only [Act.put, List.getElem_toArray, List.getElem_cons_zero, List.getElem_cons_succ, List.setIfInBounds_toArray, List.set_cons_zero, List.set_cons_succ]
  refine wpAnyH_take (i := 2) (oi := _) (v := ?_) rfl (by kernel_rfl) (by kernel_rfl) (by kernel_rfl) (fun _ _ _ h => h) (Or.inl ⟨by rfl, ?_⟩) (by assumption) ?_
  rotate_left
  · intro w' hSw
    (try dsimp only at hSw)
    have k0 := (hSw.cell (p := ⟨w.heap.size, 0, none⟩) hl1).trans p0
    have k2 := (hSw.cell (p := ⟨w.heap.size, 2, none⟩) hl1).trans p2
    have v0 := (hSw.cell (p := ⟨w.heap.size + 1, 0, none⟩) hl2).trans q0
    have v1 := (hSw.cell (p := ⟨w.heap.size + 1, 1, none⟩) hl2).trans q1
    have v2 := (hSw.cell (p := ⟨w.heap.size + 1, 2, none⟩) hl2).trans q2
    have g0 := (hSw.cell (p := ⟨b0, off0 + 3, none⟩) hlb).trans d10
    have g1 := (hSw.cell (p := ⟨b0, off0 + 3 + 1, none⟩) hlb).trans d11
    have g2 := (hSw.cell (p := ⟨b0, off0 + 3 + 2, none⟩) hlb).trans d12
    have f1 : w'.cell? ⟨b0, off0 + 4, none⟩ = _ := g1
    have f2 : w'.cell? ⟨b0, off0 + 5, none⟩ = _ := g2
    go_simp
    try with_reducible rfl
  try simp only [Act.put, List.getElem_toArray, List.getElem_cons_zero, List.getElem_cons_succ, List.setIfInBounds_toArray, List.set_cons_zero, List.set_cons_succ]
  refine wpAnyH_take (i := 3) (oi := _) (v := ?_) rfl (by kernel_rfl) (by kernel_rfl) (by kernel_rfl) (fun _ _ _ h => h) (Or.inl ⟨by rfl, ?_⟩) (by assumption) ?_
  rotate_left
  · intro w' hSw
    (try dsimp only at hSw)
    have k0 := (hSw.cell (p := ⟨w.heap.size, 0, none⟩) hl1).trans p0
    have k2 := (hSw.cell (p := ⟨w.heap.size, 2, none⟩) hl1).trans p2
    have v0 := (hSw.cell (p := ⟨w.heap.size + 1, 0, none⟩) hl2).trans q0
    have v1 := (hSw.cell (p := ⟨w.heap.size + 1, 1, none⟩) hl2).trans q1
    have v2 := (hSw.cell (p := ⟨w.heap.size + 1, 2, none⟩) hl2).trans q2
    have g0 := (hSw.cell (p := ⟨b0, off0 + 3, none⟩) hlb).trans d10
    have g1 := (hSw.cell (p := ⟨b0, off0 + 3 + 1, none⟩) hlb).trans d11
    have g2 := (hSw.cell (p := ⟨b0, off0 + 3 + 2, none⟩) hlb).trans d12
    have f1 : w'.cell? ⟨b0, off0 + 4, none⟩ = _ := g1
    have f2 : w'.cell? ⟨b0, off0 + 5, none⟩ = _ := g2
    go_simp
    try with_reducible rfl
  try simp only [Act.put, List.getElem_toArray, List.getElem_cons_zero, List.getElem_cons_succ, List.setIfInBounds_toArray, List.set_cons_zero, List.set_cons_succ]
  refine wpAnyH_take (i := 4) (oi := _) (v := ?_) rfl (by kernel_rfl) (by kernel_rfl) (by kernel_rfl) (fun _ _ _ h => h) (Or.inl ⟨by rfl, ?_⟩) (by assumption) ?_
  rotate_left
  · intro w' hSw
    (try dsimp only at hSw)
    have k0 := (hSw.cell (p := ⟨w.heap.size, 0, none⟩) hl1).trans p0
    have k2 := (hSw.cell (p := ⟨w.heap.size, 2, none⟩) hl1).trans p2
    have v0 := (hSw.cell (p := ⟨w.heap.size + 1, 0, none⟩) hl2).trans q0
    have v1 := (hSw.cell (p := ⟨w.heap.size + 1, 1, none⟩) hl2).trans q1
    have v2 := (hSw.cell (p := ⟨w.heap.size + 1, 2, none⟩) hl2).trans q2
    have g0 := (hSw.cell (p := ⟨b0, off0 + 3, none⟩) hlb).trans d10
    have g1 := (hSw.cell (p := ⟨b0, off0 + 3 + 1, none⟩) hlb).trans d11
    have g2 := (hSw.cell (p := ⟨b0, off0 + 3 + 2, none⟩) hlb).trans d12
    have f1 : w'.cell? ⟨b0, off0 + 4, none⟩ = _ := g1
    have f2 : w'.cell? ⟨b0, off0 + 5, none⟩ = _ := g2
    go_simp
    try with_reducible rfl
  try simp only [Act.put, List.getElem_toArray, List.getElem_cons_zero, List.getElem_cons_succ, List.setIfInBounds_toArray, List.set_cons_zero, List.set_cons_succ]
  refine wpAnyH_take (i := 5) (oi := _) (v := ?_) rfl (by kernel_rfl) (by kernel_rfl) (by kernel_rfl) (fun _ _ _ h => h) (Or.inl ⟨by rfl, ?_⟩) (by assumption) ?_
  rotate_left
  · intro w' hSw
    (try dsimp only at hSw)
    have k0 := (hSw.cell (p := ⟨w.heap.size, 0, none⟩) hl1).trans p0
    have k2 := (hSw.cell (p := ⟨w.heap.size, 2, none⟩) hl1).trans p2
    have v0 := (hSw.cell (p := ⟨w.heap.size + 1, 0, none⟩) hl2).trans q0
    have v1 := (hSw.cell (p := ⟨w.heap.size + 1, 1, none⟩) hl2).trans q1
    have v2 := (hSw.cell (p := ⟨w.heap.size + 1, 2, none⟩) hl2).trans q2
    have g0 := (hSw.cell (p := ⟨b0, off0 + 3, none⟩) hlb).trans d10
    have g1 := (hSw.cell (p := ⟨b0, off0 + 3 + 1, none⟩) hlb).trans d11
    have g2 := (hSw.cell (p := ⟨b0, off0 + 3 + 2, none⟩) hlb).trans d12
    have f1 : w'.cell? ⟨b0, off0 + 4, none⟩ = _ := g1
    have f2 : w'.cell? ⟨b0, off0 + 5, none⟩ = _ := g2
    go_simp
    try with_reducible rfl
  try simp only [Act.put, List.getElem_toArray, List.getElem_cons_zero, List.getElem_cons_succ, List.setIfInBounds_toArray, List.set_cons_zero, List.set_cons_succ]
  refine wpAnyH_take (i := 6) (oi := _) (v := ?_) rfl (by kernel_rfl) (by kernel_rfl) (by kernel_rfl) (fun _ _ _ h => h) (Or.inl ⟨by rfl, ?_⟩) (by assumption) ?_
  rotate_left
  · intro w' hSw
    (try dsimp only at hSw)
    have k0 := (hSw.cell (p := ⟨w.heap.size, 0, none⟩) hl1).trans p0
    have k2 := (hSw.cell (p := ⟨w.heap.size, 2, none⟩) hl1).trans p2
    have v0 := (hSw.cell (p := ⟨w.heap.size + 1, 0, none⟩) hl2).trans q0
    have v1 := (hSw.cell (p := ⟨w.heap.size + 1, 1, none⟩) hl2).trans q1
    have v2 := (hSw.cell (p := ⟨w.heap.size + 1, 2, none⟩) hl2).trans q2
    have g0 := (hSw.cell (p := ⟨b0, off0 + 3, none⟩) hlb).trans d10
    have g1 := (hSw.cell (p := ⟨b0, off0 + 3 + 1, none⟩) hlb).trans d11
    have g2 := (hSw.cell (p := ⟨b0, off0 + 3 + 2, none⟩) hlb).trans d12
    have f1 : w'.cell? ⟨b0, off0 + 4, none⟩ = _ := g1
    have f2 : w'.cell? ⟨b0, off0 + 5, none⟩ = _ := g2
    go_simp
    try with_reducible rfl
  try simp only [Act.put, List.getElem_toArray, List.getElem_cons_zero, List.getElem_cons_succ, List.setIfInBounds_toArray, List.set_cons_zero, List.set_cons_succ]
  refine wpAnyH_take (i := 7) (oi := _) (v := ?_) rfl (by kernel_rfl) (by kernel_rfl) (by kernel_rfl) (fun _ _ _ h => h) (Or.inl ⟨by rfl, ?_⟩) (by assumption) ?_
  rotate_left
  · intro w' hSw
    (try dsimp only at hSw)
    have k0 := (hSw.cell (p := ⟨w.heap.size, 0, none⟩) hl1).trans p0
    have k2 := (hSw.cell (p := ⟨w.heap.size, 2, none⟩) hl1).trans p2
    have v0 := (hSw.cell (p := ⟨w.heap.size + 1, 0, none⟩) hl2).trans q0
    have v1 := (hSw.cell (p := ⟨w.heap.size + 1, 1, none⟩) hl2).trans q1
    have v2 := (hSw.cell (p := ⟨w.heap.size + 1, 2, none⟩) hl2).trans q2
    have g0 := (hSw.cell (p := ⟨b0, off0 + 3, none⟩) hlb).trans d10
    have g1 := (hSw.cell (p := ⟨b0, off0 + 3 + 1, none⟩) hlb).trans d11
    have g2 := (hSw.cell (p := ⟨b0, off0 + 3 + 2, none⟩) hlb).trans d12
    have f1 : w'.cell? ⟨b0, off0 + 4, none⟩ = _ := g1
    have f2 : w'.cell? ⟨b0, off0 + 5, none⟩ = _ := g2
    go_simp
    try with_reducible rfl
  try simp only [Act.put, List.getElem_toArray, List.getElem_cons_zero, List.getElem_cons_succ, List.setIfInBounds_toArray, List.set_cons_zero, List.set_cons_succ]
  refine wpAnyH_ready (rs := [8]) (by kernel_rfl) (by simp) ?_
  refine AllReadyH.cons rfl (fun K hK => ?_) AllReadyH.nil
  go_simp
  go_at_call 68
  refine (IH.out b hht1 _ _ _ k env hok1 hmay1 ht1 (HX1.out _ (hB0.trans (hHeld.mono hB0.size))) (Nat.le_refl _)).mono ?_
  rw [HV1.out]
  rintro e w9 ⟨rfl, hq9⟩
  refine hK.out _ _ ?_ (fun hHeld => ?_)
  · exact hHeld.trans (hq9.mono hHeld.size)
  clear hK K
  try simp only [Act.put, List.getElem_toArray, List.getElem_cons_zero, List.getElem_cons_succ, List.setIfInBounds_toArray, List.set_cons_zero, List.set_cons_succ]
  refine wpAnyH_ready (rs := [9]) (by kernel_rfl) (by simp) ?_
  refine AllReadyH.cons rfl (fun K hK => ?_) AllReadyH.nil
  go_simp
  go_at_call 94
  refine (two_b o hop z0 z1 _).mono ?_
  rintro e w9 ⟨rfl, hq9⟩
  refine hK.out _ _ ?_ (fun hHeld => ?_)
  · exact hHeld.trans (hq9.mono hHeld.size)
  clear hK K
  try simp only [Act.put, List.getElem_toArray, List.getElem_cons_zero, List.getElem_cons_succ, List.setIfInBounds_toArray, List.set_cons_zero, List.set_cons_succ]
  refine wpAnyH_take (i := 10) (oi := _) (v := ?_) rfl (by kernel_rfl) (by kernel_rfl) (by kernel_rfl) (fun _ _ _ h => h) (Or.inl ⟨by rfl, ?_⟩) (by assumption) ?_
  rotate_left
  · intro w' hSw
    (try dsimp only at hSw)
    have k0 := (hSw.cell (p := ⟨w.heap.size, 0, none⟩) hl1).trans p0
    have k2 := (hSw.cell (p := ⟨w.heap.size, 2, none⟩) hl1).trans p2
    have v0 := (hSw.cell (p := ⟨w.heap.size + 1, 0, none⟩) hl2).trans q0
    have v1 := (hSw.cell (p := ⟨w.heap.size + 1, 1, none⟩) hl2).trans q1
    have v2 := (hSw.cell (p := ⟨w.heap.size + 1, 2, none⟩) hl2).trans q2
    have g0 := (hSw.cell (p := ⟨b0, off0 + 3, none⟩) hlb).trans d10
    have g1 := (hSw.cell (p := ⟨b0, off0 + 3 + 1, none⟩) hlb).trans d11
    have g2 := (hSw.cell (p := ⟨b0, off0 + 3 + 2, none⟩) hlb).trans d12
    have f1 : w'.cell? ⟨b0, off0 + 4, none⟩ = _ := g1
    have f2 : w'.cell? ⟨b0, off0 + 5, none⟩ = _ := g2
    go_simp
    try with_reducible rfl
  try simp only [Act.put, List.getElem_toArray, List.getElem_cons_zero, List.getElem_cons_succ, List.setIfInBounds_toArray, List.set_cons_zero, List.set_cons_succ]
  refine wpAnyH_done (by kernel_rfl) ?_ _
  go_wp2_with fail
  go_ret
  exact ⟨by rw [HE.out]; rfl, hB0.trans (hHeld.mono hB0.size)⟩

set_option maxRecDepth 100000 in
set_option maxHeartbeats 1000000 in
theorem do_cond_true (x a b c : Ex) (IH : Hid (DoIH x.ht)) (v : Value) (B : Nat) (w : World) (k : Nat) (env : Env) (hv : ExAt w B v x) (hB : B ≤ w.heap.size) (hop : x.op = 18) (hargs : x.args = [a, b, c]) (hok0 : a.ok) (hmay0 : mayB k a = true) (ht0 : a.ty ≠ 0) (hok1 : b.ok) (hmay1 : mayB k b = true) (ht1 : b.ty ≠ 0) (hok2 : c.ok) (hmay2 : mayB k c = true) (ht2 : c.ty ≠ 0) (he0 : (a.ev env).ty = 2) (hz : (a.ev env).b = true) :
    Calls Try.prog 68 #[v, env.v] w fun e w' => e = .returned (x.ev env).v ∧ Below w.heap.size w w' := by
  have HE : Hid ((x.ev env).v = (b.ev env).v) := by
    show _ = _
    rw [ev_cond (env := env) hop hargs, hz]
    rfl
  have hht0 : a.ht < x.ht := Ex.ht_args x a (by simp [hargs])
  have hht1 : b.ht < x.ht := Ex.ht_args x b (by simp [hargs])
  have HV0 : Hid ((a.ev env).v = .iface 4 (.bool true)) := by
    show _ = _
    rw [Ev.of_2 he0, hz]
    rfl
  have t2 := as_bool
  obtain ⟨sv, rfl, hs⟩ := hv
  obtain ⟨ad, cap, rfl, hcap, hmx⟩ := hs.slice
  have HS := Lib.hid hs
  have hD := DoW.new w x.op x.n (.slice ad x.args.length cap) env
  have hlen : x.args.length = 3 := by rw [hargs]; rfl
  obtain ⟨b0, off0, cp0, s0, e0, hb0, c00, c01, c02, hsub0⟩ := (hs.mono hB).at_ 0 (by omega)
  simp only [hargs, List.getElem_cons_zero, Nat.zero_mul, Nat.add_zero] at c00 c01 c02 hsub0
  obtain ⟨b1, off1, cp1, s1, e1, hb1, c10, c11, c12, hsub1⟩ := (hs.mono hB).at_ 1 (by omega)
  simp only [hargs, List.getElem_cons_succ, List.getElem_cons_zero, Nat.one_mul] at c10 c11 c12 hsub1
  obtain ⟨b2, off2, cp2, s2, e2, hb2, c20, c21, c22, hsub2⟩ := (hs.mono hB).at_ 2 (by omega)
  simp only [hargs, List.getElem_cons_succ, List.getElem_cons_zero, Nat.reduceMul] at c20 c21 c22 hsub2
  rw [hlen] at hD e0 e1 e2 ⊢
  simp only [Value.slice.injEq, true_and] at e0 e1 e2
  obtain ⟨rfl, rfl⟩ := e0
  simp only [Option.some.injEq, Addr.mk.injEq, and_true] at e1
  obtain ⟨⟨rfl, rfl⟩, rfl⟩ := e1
  simp only [Option.some.injEq, Addr.mk.injEq, and_true] at e2
  obtain ⟨⟨rfl, rfl⟩, rfl⟩ := e2
  obtain ⟨sa0, sc0, rfl, _, _⟩ := hsub0.slice
  have HX0 : Hid (∀ W, Below w.heap.size w W → ExAt W W.heap.size (.agg #[.int .u8 a.op, .int .i64 a.n, .slice sa0 a.args.length sc0]) a) := fun W hb => ⟨_, rfl, (hsub0.keep hb).mono hb.size⟩
  obtain ⟨sa1, sc1, rfl, _, _⟩ := hsub1.slice
  have HX1 : Hid (∀ W, Below w.heap.size w W → ExAt W W.heap.size (.agg #[.int .u8 b.op, .int .i64 b.n, .slice sa1 b.args.length sc1]) b) := fun W hb => ⟨_, rfl, (hsub1.keep hb).mono hb.size⟩
  obtain ⟨sa2, sc2, rfl, _, _⟩ := hsub2.slice
  have HX2 : Hid (∀ W, Below w.heap.size w W → ExAt W W.heap.size (.agg #[.int .u8 c.op, .int .i64 c.n, .slice sa2 c.args.length sc2]) c) := fun W hb => ⟨_, rfl, (hsub2.keep hb).mono hb.size⟩
  generalize (x.ev env).v = r at *
  generalize x.n = n at *
  generalize hx0 : a.op = ao0 at *
  generalize hy0 : a.n = an0 at *
  generalize hk0 : a.args.length = al0 at *
  generalize hx1 : b.op = ao1 at *
  generalize hy1 : b.n = an1 at *
  generalize hk1 : b.args.length = al1 at *
  generalize hx2 : c.op = ao2 at *
  generalize hy2 : c.n = an2 at *
  generalize hk2 : c.args.length = al2 at *
  clear hx0 hy0 hk0 hsub0 hx1 hy1 hk1 hsub1 hx2 hy2 hk2 hsub2 hs hcap hmx hlen hargs HS
  obtain ⟨ry, hry⟩ : ∃ u, (b.ev env).v = u := ⟨_, rfl⟩
  rw [hry] at HE
  have HV1 := Lib.hid hry
  rw [hop] at hD ⊢
  clear hry hop hz he0
  unfold Env.v
  go_enter Try.func68, Try.ntmps68
  go_upto_region 10 with fail
  generalize World.alloc (World.alloc w _) _ = W at *
  have p0 := hD.x.cell 0
  have p2 := hD.x.cell 2
  have q0 := hD.e.cell 0
  have q1 := hD.e.cell 1
  have q2 := hD.e.cell 2
  have hl1 := hD.x.lt
  have hl2 := hD.e.lt
  have hB0 := hD.b
  have hlb : b0 < W.heap.size := Nat.lt_of_lt_of_le hb0 hB0.size
  have d00 := (hB0.cell (p := ⟨b0, off0, none⟩) hb0).trans c00
  have d01 := (hB0.cell (p := ⟨b0, off0 + 1, none⟩) hb0).trans c01
  have d02 := (hB0.cell (p := ⟨b0, off0 + 2, none⟩) hb0).trans c02
  refine wp_region_held_drew (S := (fun w' => Below W.heap.size W w')) (by kernel_rfl) ?_ (fun hHeld => ?_)
  · exact (Below.refl _ _).drew
  refine wpAnyH_take (i := 0) (oi := _) (v := ?_) rfl (by kernel_rfl) (by kernel_rfl) (by kernel_rfl) (fun _ _ _ h => h) (Or.inl ⟨by rfl, ?_⟩) (by assumption) ?_
  rotate_left
  · intro w' hSw
    (try dsimp only at hSw)
    have k0 := (hSw.cell (p := ⟨w.heap.size, 0, none⟩) hl1).trans p0
    have k2 := (hSw.cell (p := ⟨w.heap.size, 2, none⟩) hl1).trans p2
    have v0 := (hSw.cell (p := ⟨w.heap.size + 1, 0, none⟩) hl2).trans q0
    have v1 := (hSw.cell (p := ⟨w.heap.size + 1, 1, none⟩) hl2).trans q1
    have v2 := (hSw.cell (p := ⟨w.heap.size + 1, 2, none⟩) hl2).trans q2
    have g0 := (hSw.cell (p := ⟨b0, off0, none⟩) hlb).trans d00
    have g1 := (hSw.cell (p := ⟨b0, off0 + 1, none⟩) hlb).trans d01
    have g2 := (hSw.cell (p := ⟨b0, off0 + 2, none⟩) hlb).trans d02
    go_simp
    try with_reducible rfl
  try simp only [Act.put, List.getElem_toArray, List.getElem_cons_zero, List.setIfInBounds_toArray, List.set_cons_zero, List.set_cons_succ]
  refine wpAnyH_take (i := 1) (oi := _) (v := ?_) rfl (by kernel_rfl) (by kernel_rfl) (by kernel_rfl) (fun _ _ _ h => h) (Or.inl ⟨by rfl, ?_⟩) (by assumption) ?_
  rotate_left
  · intro w' hSw
    (try dsimp only at hSw)
    have k0 := (hSw.cell (p := ⟨w.heap.size, 0, none⟩) hl1).trans p0
    have k2 := (hSw.cell (p := ⟨w.heap.size, 2, none⟩) hl1).trans p2
    have v0 := (hSw.cell (p := ⟨w.heap.size + 1, 0, none⟩) hl2).trans q0
    have v1 := (hSw.cell (p := ⟨w.heap.size + 1, 1, none⟩) hl2).trans q1
    have v2 := (hSw.cell (p := ⟨w.heap.size + 1, 2, none⟩) hl2).trans q2
    have g0 := (hSw.cell (p := ⟨b0, off0, none⟩) hlb).trans d00
    have g1 := (hSw.cell (p := ⟨b0, off0 + 1, none⟩) hlb).trans d01
    have g2 := (hSw.cell (p := ⟨b0, off0 + 2, none⟩) hlb).trans d02
    go_simp
    try with_reducible rfl
  try simp only [Act.put, List.getElem_toArray, List.getElem_cons_zero, List.getElem_cons_succ, List.setIfInBounds_toArray, List.set_cons_zero, List.set_cons_succ]
  refine wpAnyH_take (i := 2) (oi := _) (v := ?_) rfl (by kernel_rfl) (by kernel_rfl) (by kernel_rfl) (fun _ _ _ h => h) (Or.inl ⟨by rfl, ?_⟩) (by assumption) ?_
  rotate_left
  · intro w' hSw
    (try dsimp only at hSw)
    have k0 := (hSw.cell (p := ⟨w.heap.size, 0, none⟩) hl1).trans p0
    have k2 := (hSw.cell (p := ⟨w.heap.size, 2, none⟩) hl1).trans p2
    have v0 := (hSw.cell (p := ⟨w.heap.size + 1, 0, none⟩) hl2).trans q0
    have v1 := (hSw.cell (p := ⟨w.heap.size + 1, 1, none⟩) hl2).trans q1
    have v2 := (hSw.cell (p := ⟨w.heap.size + 1, 2, none⟩) hl2).trans q2
    have g0 := (hSw.cell (p := ⟨b0, off0, none⟩) hlb).trans d00
    have g1 := (hSw.cell (p := ⟨b0, off0 + 1, none⟩) hlb).trans d01
    have g2 := (hSw.cell (p := ⟨b0, off0 + 2, none⟩) hlb).trans d02
    go_simp
    try with_reducible rfl
  try simp only [Act.put, List.getElem_toArray, List.getElem_cons_zero, List.getElem_cons_succ, List.setIfInBounds_toArray, List.set_cons_zero, List.set_cons_succ]
  refine wpAnyH_take (i := 3) (oi := _) (v := ?_) rfl (by kernel_rfl) (by kernel_rfl) (by kernel_rfl) (fun _ _ _ h => h) (Or.inl ⟨by rfl, ?_⟩) (by assumption) ?_
  rotate_left
  · intro w' hSw
    (try dsimp only at hSw)
    have k0 := (hSw.cell (p := ⟨w.heap.size, 0, none⟩) hl1).trans p0
    have k2 := (hSw.cell (p := ⟨w.heap.size, 2, none⟩) hl1).trans p2
    have v0 := (hSw.cell (p := ⟨w.heap.size + 1, 0, none⟩) hl2).trans q0
    have v1 := (hSw.cell (p := ⟨w.heap.size + 1, 1, none⟩) hl2).trans q1
    have v2 := (hSw.cell (p := ⟨w.heap.size + 1, 2, none⟩) hl2).trans q2
    have g0 := (hSw.cell (p := ⟨b0, off0, none⟩) hlb).trans d00
    have g1 := (hSw.cell (p := ⟨b0, off0 + 1, none⟩) hlb).trans d01
    have g2 := (hSw.cell (p := ⟨b0, off0 + 2, none⟩) hlb).trans d02
    go_simp
    try with_reducible rfl
  try simp only [Act.put, List.getElem_toArray, List.getElem_cons_zero, List.getElem_cons_succ, List.setIfInBounds_toArray, List.set_cons_zero, List.set_cons_succ]
  refine wpAnyH_take (i := 4) (oi := _) (v := ?_) rfl (by kernel_rfl) (by kernel_rfl) (by kernel_rfl) (fun _ _ _ h => h) (Or.inl ⟨by rfl, ?_⟩) (by assumption) ?_
  rotate_left
  · intro w' hSw
    (try dsimp only at hSw)
    have k0 := (hSw.cell (p := ⟨w.heap.size, 0, none⟩) hl1).trans p0
    have k2 := (hSw.cell (p := ⟨w.heap.size, 2, none⟩) hl1).trans p2
    have v0 := (hSw.cell (p := ⟨w.heap.size + 1, 0, none⟩) hl2).trans q0
    have v1 := (hSw.cell (p := ⟨w.heap.size + 1, 1, none⟩) hl2).trans q1
    have v2 := (hSw.cell (p := ⟨w.heap.size + 1, 2, none⟩) hl2).trans q2
    have g0 := (hSw.cell (p := ⟨b0, off0, none⟩) hlb).trans d00
    have g1 := (hSw.cell (p := ⟨b0, off0 + 1, none⟩) hlb).trans d01
    have g2 := (hSw.cell (p := ⟨b0, off0 + 2, none⟩) hlb).trans d02
    go_simp
    try with_reducible rfl
  try simp only [Act.put, List.getElem_toArray, List.getElem_cons_zero, List.getElem_cons_succ, List.setIfInBounds_toArray, List.set_cons_zero, List.set_cons_succ]
  refine wpAnyH_ready (rs := [5]) (by kernel_rfl) (by simp) ?_
  refine AllReadyH.cons rfl (fun K hK => ?_) AllReadyH.nil
  go_simp
  go_at_call 68
  refine (IH.out a hht0 _ _ _ k env hok0 hmay0 ht0 (HX0.out _ (hB0.trans (hHeld.mono hB0.size))) (Nat.le_refl _)).mono ?_
  rw [HV0.out]
  rintro e w9 ⟨rfl, hq9⟩
  refine hK.out _ _ ?_ (fun hHeld => ?_)
  · exact hHeld.trans (hq9.mono hHeld.size)
  clear hK K
  try simp only [Act.put, List.getElem_toArray, List.getElem_cons_zero, List.getElem_cons_succ, List.setIfInBounds_toArray, List.set_cons_zero, List.set_cons_succ]
  refine wpAnyH_take (i := 6) (oi := _) (v := ?_) rfl (by kernel_rfl) (by kernel_rfl) (by kernel_rfl) (fun _ _ _ h => h) (Or.inl ⟨by rfl, ?_⟩) (by assumption) ?_
  rotate_left
  · intro w' hSw
    (try dsimp only at hSw)
    have k0 := (hSw.cell (p := ⟨w.heap.size, 0, none⟩) hl1).trans p0
    have k2 := (hSw.cell (p := ⟨w.heap.size, 2, none⟩) hl1).trans p2
    have v0 := (hSw.cell (p := ⟨w.heap.size + 1, 0, none⟩) hl2).trans q0
    have v1 := (hSw.cell (p := ⟨w.heap.size + 1, 1, none⟩) hl2).trans q1
    have v2 := (hSw.cell (p := ⟨w.heap.size + 1, 2, none⟩) hl2).trans q2
    have g0 := (hSw.cell (p := ⟨b0, off0, none⟩) hlb).trans d00
    have g1 := (hSw.cell (p := ⟨b0, off0 + 1, none⟩) hlb).trans d01
    have g2 := (hSw.cell (p := ⟨b0, off0 + 2, none⟩) hlb).trans d02
    go_simp
    try with_reducible rfl
  try simp only [Act.put, List.getElem_toArray, List.getElem_cons_zero, List.getElem_cons_succ, List.setIfInBounds_toArray, List.set_cons_zero, List.set_cons_succ]
  refine wpAnyH_done (by kernel_rfl) ?_ _
  have hD9 := hD.below hHeld
  clear hHeld hq9 p0 p2 q0 q1 q2 hl1 hl2 hB0 hlb d00 d01 d02 hD
  generalize hww : w9 = W9 at *
  clear hww
  have p0 := hD9.x.cell 0
  have p2 := hD9.x.cell 2
  have q0 := hD9.e.cell 0
  have q1 := hD9.e.cell 1
  have q2 := hD9.e.cell 2
  have hl1 := hD9.x.lt
  have hl2 := hD9.e.lt
  have hB0 := hD9.b
  have hlb : b0 < W9.heap.size := Nat.lt_of_lt_of_le hb0 hB0.size
  have d10 := (hB0.cell (p := ⟨b0, off0 + 3, none⟩) hb0).trans c10
  have d11 := (hB0.cell (p := ⟨b0, off0 + 3 + 1, none⟩) hb0).trans c11
  have d12 := (hB0.cell (p := ⟨b0, off0 + 3 + 2, none⟩) hb0).trans c12
  go_upto_region 18 with fail
  refine wp_region_held_drew (S := (fun w' => Below W9.heap.size W9 w')) (by kernel_rfl) ?_ (fun hHeld => ?_)
  · exact (Below.refl _ _).drew
  refine wpAnyH_take (i := 0) (oi := _) (v := ?_) rfl (by kernel_rfl) (by kernel_rfl) (by kernel_rfl) (fun _ _ _ h => h) (Or.inl ⟨by rfl, ?_⟩) (by assumption) ?_
  rotate_left
  · intro w' hSw
    (try dsimp only at hSw)
    have k0 := (hSw.cell (p := ⟨w.heap.size, 0, none⟩) hl1).trans p0
    have k2 := (hSw.cell (p := ⟨w.heap.size, 2, none⟩) hl1).trans p2
    have v0 := (hSw.cell (p := ⟨w.heap.size + 1, 0, none⟩) hl2).trans q0
    have v1 := (hSw.cell (p := ⟨w.heap.size + 1, 1, none⟩) hl2).trans q1
    have v2 := (hSw.cell (p := ⟨w.heap.size + 1, 2, none⟩) hl2).trans q2
    have g0 := (hSw.cell (p := ⟨b0, off0 + 3, none⟩) hlb).trans d10
    have g1 := (hSw.cell (p := ⟨b0, off0 + 3 + 1, none⟩) hlb).trans d11
    have g2 := (hSw.cell (p := ⟨b0, off0 + 3 + 2, none⟩) hlb).trans d12
    have f1 : w'.cell? ⟨b0, off0 + 4, none⟩ = _ := g1
    have f2 : w'.cell? ⟨b0, off0 + 5, none⟩ = _ := g2
    go_simp
    try with_reducible rfl
  try simp only [Act.put, List.getElem_toArray, List.getElem_cons_zero, List.setIfInBounds_toArray, List.set_cons_zero, List.set_cons_succ]
  refine wpAnyH_take (i := 1) (oi := _) (v := ?_) rfl (by kernel_rfl) (by kernel_rfl) (by kernel_rfl) (fun _ _ _ h => h) (Or.inl ⟨by rfl, ?_⟩) (by assumption) ?_
  rotate_left
  · intro w' hSw
    (try dsimp only at hSw)
    have k0 := (hSw.cell (p := ⟨w.heap.size, 0, none⟩) hl1).trans p0
    have k2 := (hSw.cell (p := ⟨w.heap.size, 2, none⟩) hl1).trans p2
    have v0 := (hSw.cell (p := ⟨w.heap.size + 1, 0, none⟩) hl2).trans q0
    have v1 := (hSw.cell (p := ⟨w.heap.size + 1, 1, none⟩) hl2).trans q1
    have v2 := (hSw.cell (p := ⟨w.heap.size + 1, 2, none⟩) hl2).trans q2
    have g0 := (hSw.cell (p := ⟨b0, off0 + 3, none⟩) hlb).trans d10
    have g1 := (hSw.cell (p := ⟨b0, off0 + 3 + 1, none⟩) hlb).trans d11
    have g2 := (hSw.cell (p := ⟨b0, off0 + 3 + 2, none⟩) hlb).trans d12
    have f1 : w'.cell? ⟨b0, off0 + 4, none⟩ = _ := g1
    have f2 : w'.cell? ⟨b0, off0 + 5, none⟩ = _ := g2
    go_simp
    try with_reducible rfl
  try simp only [Act.put, List.getElem_toArray, List.getElem_cons_zero, List.getElem_cons_succ, List.setIfInBounds_toArray, List.set_cons_zero, List.set_cons_succ]
  refine wpAnyH_take (i := 2) (oi := _) (v := ?_) rfl (by kernel_rfl) (by kernel_rfl) (by kernel_rfl) (fun _ _ _ h => h) (Or.inl ⟨by rfl, ?_⟩) (by assumption) ?_
  rotate_left
  · intro w' hSw
    (try dsimp only at hSw)
    have k0 := (hSw.cell (p := ⟨w.heap.size, 0, none⟩) hl1).trans p0
    have k2 := (hSw.cell (p := ⟨w.heap.size, 2, none⟩) hl1).trans p2
    have v0 := (hSw.cell (p := ⟨w.heap.size + 1, 0, none⟩) hl2).trans q0
    have v1 := (hSw.cell (p := ⟨w.heap.size + 1, 1, none⟩) hl2).trans q1
    have v2 := (hSw.cell (p := ⟨w.heap.size + 1, 2, none⟩) hl2).trans q2
    have g0 := (hSw.cell (p := ⟨b0, off0 + 3, none⟩) hlb).trans d10
    have g1 := (hSw.cell (p := ⟨b0, off0 + 3 + 1, none⟩) hlb).trans d11
    have g2 := (hSw.cell (p := ⟨b0, off0 + 3 + 2, none⟩) hlb).trans d12
    have f1 : w'.cell? ⟨b0, off0 + 4, none⟩ = _ := g1
    have f2 : w'.cell? ⟨b0, off0 + 5, none⟩ = _ := g2
    go_simp
    try with_reducible rfl
  try simp only [Act.put, List.getElem_toArray, List.getElem_cons_zero, List.getElem_cons_succ, List.setIfInBounds_toArray, List.set_cons_zero, List.set_cons_succ]
  refine wpAnyH_take (i := 3) (oi := _) (v := ?_) rfl (by kernel_rfl) (by kernel_rfl) (by kernel_rfl) (fun _ _ _ h => h) (Or.inl ⟨by rfl, ?_⟩) (by assumption) ?_
  rotate_left
  · intro w' hSw
    (try dsimp only at hSw)
    have k0 := (hSw.cell (p := ⟨w.heap.size, 0, none⟩) hl1).trans p0
    have k2 := (hSw.cell (p := ⟨w.heap.size, 2, none⟩) hl1).trans p2
    have v0 := (hSw.cell (p := ⟨w.heap.size + 1, 0, none⟩) hl2).trans q0
    have v1 := (hSw.cell (p := ⟨w.heap.size + 1, 1, none⟩) hl2).trans q1
    have v2 := (hSw.cell (p := ⟨w.heap.size + 1, 2, none⟩) hl2).trans q2
    have g0 := (hSw.cell (p := ⟨b0, off0 + 3, none⟩) hlb).trans d10
    have g1 := (hSw.cell (p := ⟨b0, off0 + 3 + 1, none⟩) hlb).trans d11
    have g2 := (hSw.cell (p := ⟨b0, off0 + 3 + 2, none⟩) hlb).trans d12
    have f1 : w'.cell? ⟨b0, off0 + 4, none⟩ = _ := g1
    have f2 : w'.cell? ⟨b0, off0 + 5, none⟩ = _ := g2
    go_simp
    try with_reducible rfl
  try simp only [Act.put, List.getElem_toArray, List.getElem_cons_zero, List.getElem_cons_succ, List.setIfInBounds_toArray, List.set_cons_zero, List.set_cons_succ]
  refine wpAnyH_take (i := 4) (oi := _) (v := ?_) rfl (by kernel_rfl) (by kernel_rfl) (by kernel_rfl) (fun _ _ _ h => h) (Or.inl ⟨by rfl, ?_⟩) (by assumption) ?_
  rotate_left
  · intro w' hSw
    (try dsimp only at hSw)
    have k0 := (hSw.cell (p := ⟨w.heap.size, 0, none⟩) hl1).trans p0
    have k2 := (hSw.cell (p := ⟨w.heap.size, 2, none⟩) hl1).trans p2
    have v0 := (hSw.cell (p := ⟨w.heap.size + 1, 0, none⟩) hl2).trans q0
    have v1 := (hSw.cell (p := ⟨w.heap.size + 1, 1, none⟩) hl2).trans q1
    have v2 := (hSw.cell (p := ⟨w.heap.size + 1, 2, none⟩) hl2).trans q2
    have g0 := (hSw.cell (p := ⟨b0, off0 + 3, none⟩) hlb).trans d10
    have g1 := (hSw.cell (p := ⟨b0, off0 + 3 + 1, none⟩) hlb).trans d11
    have g2 := (hSw.cell (p := ⟨b0, off0 + 3 + 2, none⟩) hlb).trans d12
    have f1 : w'.cell? ⟨b0, off0 + 4, none⟩ = _ := g1
    have f2 : w'.cell? ⟨b0, off0 + 5, none⟩ = _ := g2
    go_simp
    try with_reducible rfl
  try simp only [Act.put, List.getElem_toArray, List.getElem_cons_zero, List.getElem_cons_succ, List.setIfInBounds_toArray, List.set_cons_zero, List.set_cons_succ]
  refine wpAnyH_ready (rs := [5]) (by kernel_rfl) (by simp) ?_
  refine AllReadyH.cons rfl (fun K hK => ?_) AllReadyH.nil
  go_simp
  go_at_call 68
  refine (IH.out b hht1 _ _ _ k env hok1 hmay1 ht1 (HX1.out _ (hB0.trans (hHeld.mono hB0.size))) (Nat.le_refl _)).mono ?_
  rw [HV1.out]
  rintro e w9 ⟨rfl, hq9⟩
  refine hK.out _ _ ?_ (fun hHeld => ?_)
  · exact hHeld.trans (hq9.mono hHeld.size)
  clear hK K
  try simp only [Act.put, List.getElem_toArray, List.getElem_cons_zero, List.getElem_cons_succ, List.setIfInBounds_toArray, List.set_cons_zero, List.set_cons_succ]
  refine wpAnyH_take (i := 6) (oi := _) (v := ?_) rfl (by kernel_rfl) (by kernel_rfl) (by kernel_rfl) (fun _ _ _ h => h) (Or.inl ⟨by rfl, ?_⟩) (by assumption) ?_
  rotate_left
  · intro w' hSw
    (try dsimp only at hSw)
    have k0 := (hSw.cell (p := ⟨w.heap.size, 0, none⟩) hl1).trans p0
    have k2 := (hSw.cell (p := ⟨w.heap.size, 2, none⟩) hl1).trans p2
    have v0 := (hSw.cell (p := ⟨w.heap.size + 1, 0, none⟩) hl2).trans q0
    have v1 := (hSw.cell (p := ⟨w.heap.size + 1, 1, none⟩) hl2).trans q1
    have v2 := (hSw.cell (p := ⟨w.heap.size + 1, 2, none⟩) hl2).trans q2
    have g0 := (hSw.cell (p := ⟨b0, off0 + 3, none⟩) hlb).trans d10
    have g1 := (hSw.cell (p := ⟨b0, off0 + 3 + 1, none⟩) hlb).trans d11
    have g2 := (hSw.cell (p := ⟨b0, off0 + 3 + 2, none⟩) hlb).trans d12
    have f1 : w'.cell? ⟨b0, off0 + 4, none⟩ = _ := g1
    have f2 : w'.cell? ⟨b0, off0 + 5, none⟩ = _ := g2
    go_simp
    try with_reducible rfl
  try simp only [Act.put, List.getElem_toArray, List.getElem_cons_zero, List.getElem_cons_succ, List.setIfInBounds_toArray, List.set_cons_zero, List.set_cons_succ]
  refine wpAnyH_done (by kernel_rfl) ?_ _
  go_wp2_with fail
  go_ret
  exact ⟨by rw [HE.out]; rfl, hB0.trans (hHeld.mono hB0.size)⟩

set_option maxRecDepth 100000 in
set_option maxHeartbeats 1000000 in
theorem do_cond_false (x a b c : Ex) (IH : Hid (DoIH x.ht)) (v : Value) (B : Nat) (w : World) (k : Nat) (env : Env) (hv : ExAt w B v x) (hB : B ≤ w.heap.size) (hop : x.op = 18) (hargs : x.args = [a, b, c]) (hok0 : a.ok) (hmay0 : mayB k a = true) (ht0 : a.ty ≠ 0) (hok1 : b.ok) (hmay1 : mayB k b = true) (ht1 : b.ty ≠ 0) (hok2 : c.ok) (hmay2 : mayB k c = true) (ht2 : c.ty ≠ 0) (he0 : (a.ev env).ty = 2) (hz : (a.ev env).b = false) :
    Calls Try.prog 68 #[v, env.v] w fun e w' => e = .returned (x.ev env).v ∧ Below w.heap.size w w' := by
  have HE : Hid ((x.ev env).v = (c.ev env).v) := by
    show _ = _
    rw [ev_cond (env := env) hop hargs, hz]
    rfl
  have hht0 : a.ht < x.ht := Ex.ht_args x a (by simp [hargs])
  have hht2 : c.ht < x.ht := Ex.ht_args x c (by simp [hargs])
  have HV0 : Hid ((a.ev env).v = .iface 4 (.bool false)) := by
    show _ = _
    rw [Ev.of_2 he0, hz]
    rfl
  have t2 := as_bool
  obtain ⟨sv, rfl, hs⟩ := hv
  obtain ⟨ad, cap, rfl, hcap, hmx⟩ := hs.slice
  have HS := Lib.hid hs
  have hD := DoW.new w x.op x.n (.slice ad x.args.length cap) env
  have hlen : x.args.length = 3 := by rw [hargs]; rfl
  obtain ⟨b0, off0, cp0, s0, e0, hb0, c00, c01, c02, hsub0⟩ := (hs.mono hB).at_ 0 (by omega)
  simp only [hargs, List.getElem_cons_zero, Nat.zero_mul, Nat.add_zero] at c00 c01 c02 hsub0
  obtain ⟨b1, off1, cp1, s1, e1, hb1, c10, c11, c12, hsub1⟩ := (hs.mono hB).at_ 1 (by omega)
  simp only [hargs, List.getElem_cons_succ, List.getElem_cons_zero, Nat.one_mul] at c10 c11 c12 hsub1
  obtain ⟨b2, off2, cp2, s2, e2, hb2, c20, c21, c22, hsub2⟩ := (hs.mono hB).at_ 2 (by omega)
  simp only [hargs, List.getElem_cons_succ, List.getElem_cons_zero, Nat.reduceMul] at c20 c21 c22 hsub2
  rw [hlen] at hD e0 e1 e2 ⊢
  simp only [Value.slice.injEq, true_and] at e0 e1 e2
  obtain ⟨rfl, rfl⟩ := e0
  simp only [Option.some.injEq, Addr.mk.injEq, and_true] at e1
  obtain ⟨⟨rfl, rfl⟩, rfl⟩ := e1
  simp only [Option.some.injEq, Addr.mk.injEq, and_true] at e2
  obtain ⟨⟨rfl, rfl⟩, rfl⟩ := e2
  obtain ⟨sa0, sc0, rfl, _, _⟩ := hsub0.slice
  have HX0 : Hid (∀ W, Below w.heap.size w W → ExAt W W.heap.size (.agg #[.int .u8 a.op, .int .i64 a.n, .slice sa0 a.args.length sc0]) a) := fun W hb => ⟨_, rfl, (hsub0.keep hb).mono hb.size⟩
  obtain ⟨sa1, sc1, rfl, _, _⟩ := hsub1.slice
  have HX1 : Hid (∀ W, Below w.heap.size w W → ExAt W W.heap.size (.agg #[.int .u8 b.op, .int .i64 b.n, .slice sa1 b.args.length sc1]) b) := fun W hb => ⟨_, rfl, (hsub1.keep hb).mono hb.size⟩
  obtain ⟨sa2, sc2, rfl, _, _⟩ := hsub2.slice
  have HX2 : Hid (∀ W, Below w.heap.size w W → ExAt W W.heap.size (.agg #[.int .u8 c.op, .int .i64 c.n, .slice sa2 c.args.length sc2]) c) := fun W hb => ⟨_, rfl, (hsub2.keep hb).mono hb.size⟩
  generalize (x.ev env).v = r at *
  generalize x.n = n at *
  generalize hx0 : a.op = ao0 at *
  generalize hy0 : a.n = an0 at *
  generalize hk0 : a.args.length = al0 at *
  generalize hx1 : b.op = ao1 at *
  generalize hy1 : b.n = an1 at *
  generalize hk1 : b.args.length = al1 at *
  generalize hx2 : c.op = ao2 at *
  generalize hy2 : c.n = an2 at *
  generalize hk2 : c.args.length = al2 at *
  clear hx0 hy0 hk0 hsub0 hx1 hy1 hk1 hsub1 hx2 hy2 hk2 hsub2 hs hcap hmx hlen hargs HS
  obtain ⟨ry, hry⟩ : ∃ u, (c.ev env).v = u := ⟨_, rfl⟩
  rw [hry] at HE
  have HV2 := Lib.hid hry
  rw [hop] at hD ⊢
  clear hry hop hz he0
  unfold Env.v
  go_enter Try.func68, Try.ntmps68
  go_upto_region 10 with fail
  generalize World.alloc (World.alloc w _) _ = W at *
  have p0 := hD.x.cell 0
  have p2 := hD.x.cell 2
  have q0 := hD.e.cell 0
  have q1 := hD.e.cell 1
  have q2 := hD.e.cell 2
  have hl1 := hD.x.lt
  have hl2 := hD.e.lt
  have hB0 := hD.b
  have hlb : b0 < W.heap.size := Nat.lt_of_lt_of_le hb0 hB0.size
  have d00 := (hB0.cell (p := ⟨b0, off0, none⟩) hb0).trans c00
  have d01 := (hB0.cell (p := ⟨b0, off0 + 1, none⟩) hb0).trans c01
  have d02 := (hB0.cell (p := ⟨b0, off0 + 2, none⟩) hb0).trans c02
  refine wp_region_held_drew (S := (fun w' => Below W.heap.size W w')) (by kernel_rfl) ?_ (fun hHeld => ?_)
  · exact (Below.refl _ _).drew
  refine wpAnyH_take (i := 0) (oi := _) (v := ?_) rfl (by kernel_rfl) (by kernel_rfl) (by kernel_rfl) (fun _ _ _ h => h) (Or.inl ⟨by rfl, ?_⟩) (by assumption) ?_
  rotate_left
  · intro w' hSw
    (try dsimp only at hSw)
    have k0 := (hSw.cell (p := ⟨w.heap.size, 0, none⟩) hl1).trans p0
    have k2 := (hSw.cell (p := ⟨w.heap.size, 2, none⟩) hl1).trans p2
    have v0 := (hSw.cell (p := ⟨w.heap.size + 1, 0, none⟩) hl2).trans q0
    have v1 := (hSw.cell (p := ⟨w.heap.size + 1, 1, none⟩) hl2).trans q1
    have v2 := (hSw.cell (p := ⟨w.heap.size + 1, 2, none⟩) hl2).trans q2
    have g0 := (hSw.cell (p := ⟨b0, off0, none⟩) hlb).trans d00
    have g1 := (hSw.cell (p := ⟨b0, off0 + 1, none⟩) hlb).trans d01
    have g2 := (hSw.cell (p := ⟨b0, off0 + 2, none⟩) hlb).trans d02
    go_simp
    try with_reducible rfl
  try simp only [Act.put, List.getElem_toArray, List.getElem_cons_zero, List.setIfInBounds_toArray, List.set_cons_zero, List.set_cons_succ]
  refine wpAnyH_take (i := 1) (oi := _) (v := ?_) rfl (by kernel_rfl) (by kernel_rfl) (by kernel_rfl) (fun _ _ _ h => h) (Or.inl ⟨by rfl, ?_⟩) (by assumption) ?_
  rotate_left
  · intro w' hSw
    (try dsimp only at hSw)
    have k0 := (hSw.cell (p := ⟨w.heap.size, 0, none⟩) hl1).trans p0
    have k2 := (hSw.cell (p := ⟨w.heap.size, 2, none⟩) hl1).trans p2
    have v0 := (hSw.cell (p := ⟨w.heap.size + 1, 0, none⟩) hl2).trans q0
    have v1 := (hSw.cell (p := ⟨w.heap.size + 1, 1, none⟩) hl2).trans q1
    have v2 := (hSw.cell (p := ⟨w.heap.size + 1, 2, none⟩) hl2).trans q2
    have g0 := (hSw.cell (p := ⟨b0, off0, none⟩) hlb).trans d00
    have g1 := (hSw.cell (p := ⟨b0, off0 + 1, none⟩) hlb).trans d01
    have g2 := (hSw.cell (p := ⟨b0, off0 + 2, none⟩) hlb).trans d02
    go_simp
    try with_reducible rfl
  try simp only [Act.put, List.getElem_toArray, List.getElem_cons_zero, List.getElem_cons_succ, List.setIfInBounds_toArray, List.set_cons_zero, List.set_cons_succ]
  refine wpAnyH_take (i := 2) (oi := _) (v := ?_) rfl (by kernel_rfl) (by kernel_rfl) (by kernel_rfl) (fun _ _ _ h => h) (Or.inl ⟨by rfl, ?_⟩) (by assumption) ?_
  rotate_left
  · intro w' hSw
    (try dsimp only at hSw)
    have k0 := (hSw.cell (p := ⟨w.heap.size, 0, none⟩) hl1).trans p0
    have k2 := (hSw.cell (p := ⟨w.heap.size, 2, none⟩) hl1).trans p2
    have v0 := (hSw.cell (p := ⟨w.heap.size + 1, 0, none⟩) hl2).trans q0
    have v1 := (hSw.cell (p := ⟨w.heap.size + 1, 1, none⟩) hl2).trans q1
    have v2 := (hSw.cell (p := ⟨w.heap.size + 1, 2, none⟩) hl2).trans q2
    have g0 := (hSw.cell (p := ⟨b0, off0, none⟩) hlb).trans d00
    have g1 := (hSw.cell (p := ⟨b0, off0 + 1, none⟩) hlb).trans d01
    have g2 := (hSw.cell (p := ⟨b0, off0 + 2, none⟩) hlb).trans d02
    go_simp
    try with_reducible rfl
  try simp only [Act.put, List.getElem_toArray, List.getElem_cons_zero, List.getElem_cons_succ, List.setIfInBounds_toArray, List.set_cons_zero, List.set_cons_succ]
  refine wpAnyH_take (i := 3) (oi := _) (v := ?_) rfl (by kernel_rfl) (by kernel_rfl) (by kernel_rfl) (fun _ _ _ h => h) (Or.inl ⟨by rfl, ?_⟩) (by assumption) ?_
  rotate_left
  · intro w' hSw
    (try dsimp only at hSw)
    have k0 := (hSw.cell (p := ⟨w.heap.size, 0, none⟩) hl1).trans p0
    have k2 := (hSw.cell (p := ⟨w.heap.size, 2, none⟩) hl1).trans p2
    have v0 := (hSw.cell (p := ⟨w.heap.size + 1, 0, none⟩) hl2).trans q0
    have v1 := (hSw.cell (p := ⟨w.heap.size + 1, 1, none⟩) hl2).trans q1
    have v2 := (hSw.cell (p := ⟨w.heap.size + 1, 2, none⟩) hl2).trans q2
    have g0 := (hSw.cell (p := ⟨b0, off0, none⟩) hlb).trans d00
    have g1 := (hSw.cell (p := ⟨b0, off0 + 1, none⟩) hlb).trans d01
    have g2 := (hSw.cell (p := ⟨b0, off0 + 2, none⟩) hlb).trans d02
    go_simp
    try with_reducible rfl
  try simp only [Act.put, List.getElem_toArray, List.getElem_cons_zero, List.getElem_cons_succ, List.setIfInBounds_toArray, List.set_cons_zero, List.set_cons_succ]
  refine wpAnyH_take (i := 4) (oi := _) (v := ?_) rfl (by kernel_rfl) (by kernel_rfl) (by kernel_rfl) (fun _ _ _ h => h) (Or.inl ⟨by rfl, ?_⟩) (by assumption) ?_
  rotate_left
  · intro w' hSw
    (try dsimp only at hSw)
    have k0 := (hSw.cell (p := ⟨w.heap.size, 0, none⟩) hl1).trans p0
    have k2 := (hSw.cell (p := ⟨w.heap.size, 2, none⟩) hl1).trans p2
    have v0 := (hSw.cell (p := ⟨w.heap.size + 1, 0, none⟩) hl2).trans q0
    have v1 := (hSw.cell (p := ⟨w.heap.size + 1, 1, none⟩) hl2).trans q1
    have v2 := (hSw.cell (p := ⟨w.heap.size + 1, 2, none⟩) hl2).trans q2
    have g0 := (hSw.cell (p := ⟨b0, off0, none⟩) hlb).trans d00
    have g1 := (hSw.cell (p := ⟨b0, off0 + 1, none⟩) hlb).trans d01
    have g2 := (hSw.cell (p := ⟨b0, off0 + 2, none⟩) hlb).trans d02
    go_simp
    try with_reducible rfl
  try simp only [Act.put, List.getElem_toArray, List.getElem_cons_zero, List.getElem_cons_succ, List.setIfInBounds_toArray, List.set_cons_zero, List.set_cons_succ]
  refine wpAnyH_ready (rs := [5]) (by kernel_rfl) (by simp) ?_
  refine AllReadyH.cons rfl (fun K hK => ?_) AllReadyH.nil
  go_simp
  go_at_call 68
  refine (IH.out a hht0 _ _ _ k env hok0 hmay0 ht0 (HX0.out _ (hB0.trans (hHeld.mono hB0.size))) (Nat.le_refl _)).mono ?_
  rw [HV0.out]
  rintro e w9 ⟨rfl, hq9⟩
  refine hK.out _ _ ?_ (fun hHeld => ?_)
  · exact hHeld.trans (hq9.mono hHeld.size)
  clear hK K
  try simp only [Act.put, List.getElem_toArray, List.getElem_cons_zero, List.getElem_cons_succ, List.setIfInBounds_toArray, List.set_cons_zero, List.set_cons_succ]
  refine wpAnyH_take (i := 6) (oi := _) (v := ?_) rfl (by kernel_rfl) (by kernel_rfl) (by kernel_rfl) (fun _ _ _ h => h) (Or.inl ⟨by rfl, ?_⟩) (by assumption) ?_
  rotate_left
  · intro w' hSw
    (try dsimp only at hSw)
    have k0 := (hSw.cell (p := ⟨w.heap.size, 0, none⟩) hl1).trans p0
    have k2 := (hSw.cell (p := ⟨w.heap.size, 2, none⟩) hl1).trans p2
    have v0 := (hSw.cell (p := ⟨w.heap.size + 1, 0, none⟩) hl2).trans q0
    have v1 := (hSw.cell (p := ⟨w.heap.size + 1, 1, none⟩) hl2).trans q1
    have v2 := (hSw.cell (p := ⟨w.heap.size + 1, 2, none⟩) hl2).trans q2
    have g0 := (hSw.cell (p := ⟨b0, off0, none⟩) hlb).trans d00
    have g1 := (hSw.cell (p := ⟨b0, off0 + 1, none⟩) hlb).trans d01
    have g2 := (hSw.cell (p := ⟨b0, off0 + 2, none⟩) hlb).trans d02
    go_simp
    try with_reducible rfl
  try simp only [Act.put, List.getElem_toArray, List.getElem_cons_zero, List.getElem_cons_succ, List.setIfInBounds_toArray, List.set_cons_zero, List.set_cons_succ]
  refine wpAnyH_done (by kernel_rfl) ?_ _
  have hD9 := hD.below hHeld
  clear hHeld hq9 p0 p2 q0 q1 q2 hl1 hl2 hB0 hlb d00 d01 d02 hD
  generalize hww : w9 = W9 at *
  clear hww
  have p0 := hD9.x.cell 0
  have p2 := hD9.x.cell 2
  have q0 := hD9.e.cell 0
  have q1 := hD9.e.cell 1
  have q2 := hD9.e.cell 2
  have hl1 := hD9.x.lt
  have hl2 := hD9.e.lt
  have hB0 := hD9.b
  have hlb : b0 < W9.heap.size := Nat.lt_of_lt_of_le hb0 hB0.size
  have d20 := (hB0.cell (p := ⟨b0, off0 + 6, none⟩) hb0).trans c20
  have d21 := (hB0.cell (p := ⟨b0, off0 + 6 + 1, none⟩) hb0).trans c21
  have d22 := (hB0.cell (p := ⟨b0, off0 + 6 + 2, none⟩) hb0).trans c22
  go_upto_region 19 with fail
  refine wp_region_held_drew (S := (fun w' => Below W9.heap.size W9 w')) (by kernel_rfl) ?_ (fun hHeld => ?_)
  · exact (Below.refl _ _).drew
  refine wpAnyH_take (i := 0) (oi := _) (v := ?_) rfl (by kernel_rfl) (by kernel_rfl) (by kernel_rfl) (fun _ _ _ h => h) (Or.inl ⟨by rfl, ?_⟩) (by assumption) ?_
  rotate_left
  · intro w' hSw
    (try dsimp only at hSw)
    have k0 := (hSw.cell (p := ⟨w.heap.size, 0, none⟩) hl1).trans p0
    have k2 := (hSw.cell (p := ⟨w.heap.size, 2, none⟩) hl1).trans p2
    have v0 := (hSw.cell (p := ⟨w.heap.size + 1, 0, none⟩) hl2).trans q0
    have v1 := (hSw.cell (p := ⟨w.heap.size + 1, 1, none⟩) hl2).trans q1
    have v2 := (hSw.cell (p := ⟨w.heap.size + 1, 2, none⟩) hl2).trans q2
    have g0 := (hSw.cell (p := ⟨b0, off0 + 6, none⟩) hlb).trans d20
    have g1 := (hSw.cell (p := ⟨b0, off0 + 6 + 1, none⟩) hlb).trans d21
    have g2 := (hSw.cell (p := ⟨b0, off0 + 6 + 2, none⟩) hlb).trans d22
    have f1 : w'.cell? ⟨b0, off0 + 7, none⟩ = _ := g1
    have f2 : w'.cell? ⟨b0, off0 + 8, none⟩ = _ := g2
    go_simp
    try with_reducible rfl
  try simp only [Act.put, List.getElem_toArray, List.getElem_cons_zero, List.setIfInBounds_toArray, List.set_cons_zero, List.set_cons_succ]
  refine wpAnyH_take (i := 1) (oi := _) (v := ?_) rfl (by kernel_rfl) (by kernel_rfl) (by kernel_rfl) (fun _ _ _ h => h) (Or.inl ⟨by rfl, ?_⟩) (by assumption) ?_
  rotate_left
  · intro w' hSw
    (try dsimp only at hSw)
    have k0 := (hSw.cell (p := ⟨w.heap.size, 0, none⟩) hl1).trans p0
    have k2 := (hSw.cell (p := ⟨w.heap.size, 2, none⟩) hl1).trans p2
    have v0 := (hSw.cell (p := ⟨w.heap.size + 1, 0, none⟩) hl2).trans q0
    have v1 := (hSw.cell (p := ⟨w.heap.size + 1, 1, none⟩) hl2).trans q1
    have v2 := (hSw.cell (p := ⟨w.heap.size + 1, 2, none⟩) hl2).trans q2
    have g0 := (hSw.cell (p := ⟨b0, off0 + 6, none⟩) hlb).trans d20
    have g1 := (hSw.cell (p := ⟨b0, off0 + 6 + 1, none⟩) hlb).trans d21
    have g2 := (hSw.cell (p := ⟨b0, off0 + 6 + 2, none⟩) hlb).trans d22
    have f1 : w'.cell? ⟨b0, off0 + 7, none⟩ = _ := g1
    have f2 : w'.cell? ⟨b0, off0 + 8, none⟩ = _ := g2
    go_simp
    try with_reducible rfl
  try simp only [Act.put, List.getElem_toArray, List.getElem_cons_zero, List.getElem_cons_succ, List.setIfInBounds_toArray, List.set_cons_zero, List.set_cons_succ]
  refine wpAnyH_take (i := 2) (oi := _) (v := ?_) rfl (by kernel_rfl) (by kernel_rfl) (by kernel_rfl) (fun _ _ _ h => h) (Or.inl ⟨by rfl, ?_⟩) (by assumption) ?_
  rotate_left
  · intro w' hSw
    (try dsimp only at hSw)
    have k0 := (hSw.cell (p := ⟨w.heap.size, 0, none⟩) hl1).trans p0
    have k2 := (hSw.cell (p := ⟨w.heap.size, 2, none⟩) hl1).trans p2
    have v0 := (hSw.cell (p := ⟨w.heap.size + 1, 0, none⟩) hl2).trans q0
    have v1 := (hSw.cell (p := ⟨w.heap.size + 1, 1, none⟩) hl2).trans q1
    have v2 := (hSw.cell (p := ⟨w.heap.size + 1, 2, none⟩) hl2).trans q2
    have g0 := (hSw.cell (p := ⟨b0, off0 + 6, none⟩) hlb).trans d20
    have g1 := (hSw.cell (p := ⟨b0, off0 + 6 + 1, none⟩) hlb).trans d21
    have g2 := (hSw.cell (p := ⟨b0, off0 + 6 + 2, none⟩) hlb).trans d22
    have f1 : w'.cell? ⟨b0, off0 + 7, none⟩ = _ := g1
    have f2 : w'.cell? ⟨b0, off0 + 8, none⟩ = _ := g2
    go_simp
    try with_reducible rfl
  try simp only [Act.put, List.getElem_toArray, List.getElem_cons_zero, List.getElem_cons_succ, List.setIfInBounds_toArray, List.set_cons_zero, List.set_cons_succ]
  refine wpAnyH_take (i := 3) (oi := _) (v := ?_) rfl (by kernel_rfl) (by kernel_rfl) (by kernel_rfl) (fun _ _ _ h => h) (Or.inl ⟨by rfl, ?_⟩) (by assumption) ?_
  rotate_left
  · intro w' hSw
    (try dsimp only at hSw)
    have k0 := (hSw.cell (p := ⟨w.heap.size, 0, none⟩) hl1).trans p0
    have k2 := (hSw.cell (p := ⟨w.heap.size, 2, none⟩) hl1).trans p2
    have v0 := (hSw.cell (p := ⟨w.heap.size + 1, 0, none⟩) hl2).trans q0
    have v1 := (hSw.cell (p := ⟨w.heap.size + 1, 1, none⟩) hl2).trans q1
    have v2 := (hSw.cell (p := ⟨w.heap.size + 1, 2, none⟩) hl2).trans q2
    have g0 := (hSw.cell (p := ⟨b0, off0 + 6, none⟩) hlb).trans d20
    have g1 := (hSw.cell (p := ⟨b0, off0 + 6 + 1, none⟩) hlb).trans d21
    have g2 := (hSw.cell (p := ⟨b0, off0 + 6 + 2, none⟩) hlb).trans d22
    have f1 : w'.cell? ⟨b0, off0 + 7, none⟩ = _ := g1
    have f2 : w'.cell? ⟨b0, off0 + 8, none⟩ = _ := g2
    go_simp
    try with_reducible rfl
  try simp only [Act.put, List.getElem_toArray, List.getElem_cons_zero, List.getElem_cons_succ, List.setIfInBounds_toArray, List.set_cons_zero, List.set_cons_succ]
  refine wpAnyH_take (i := 4) (oi := _) (v := ?_) rfl (by kernel_rfl) (by kernel_rfl) (by kernel_rfl) (fun _ _ _ h => h) (Or.inl ⟨by rfl, ?_⟩) (by assumption) ?_
  rotate_left
  · intro w' hSw
    (try dsimp only at hSw)
    have k0 := (hSw.cell (p := ⟨w.heap.size, 0, none⟩) hl1).trans p0
    have k2 := (hSw.cell (p := ⟨w.heap.size, 2, none⟩) hl1).trans p2
    have v0 := (hSw.cell (p := ⟨w.heap.size + 1, 0, none⟩) hl2).trans q0
    have v1 := (hSw.cell (p := ⟨w.heap.size + 1, 1, none⟩) hl2).trans q1
    have v2 := (hSw.cell (p := ⟨w.heap.size + 1, 2, none⟩) hl2).trans q2
    have g0 := (hSw.cell (p := ⟨b0, off0 + 6, none⟩) hlb).trans d20
    have g1 := (hSw.cell (p := ⟨b0, off0 + 6 + 1, none⟩) hlb).trans d21
    have g2 := (hSw.cell (p := ⟨b0, off0 + 6 + 2, none⟩) hlb).trans d22
    have f1 : w'.cell? ⟨b0, off0 + 7, none⟩ = _ := g1
    have f2 : w'.cell? ⟨b0, off0 + 8, none⟩ = _ := g2
    go_simp
    try with_reducible rfl
  try simp only [Act.put, List.getElem_toArray, List.getElem_cons_zero, List.getElem_cons_succ, List.setIfInBounds_toArray, List.set_cons_zero, List.set_cons_succ]
  refine wpAnyH_ready (rs := [5]) (by kernel_rfl) (by simp) ?_
  refine AllReadyH.cons rfl (fun K hK => ?_) AllReadyH.nil
  go_simp
  go_at_call 68
  refine (IH.out c hht2 _ _ _ k env hok2 hmay2 ht2 (HX2.out _ (hB0.trans (hHeld.mono hB0.size))) (Nat.le_refl _)).mono ?_
  rw [HV2.out]
  rintro e w9 ⟨rfl, hq9⟩
  refine hK.out _ _ ?_ (fun hHeld => ?_)
  · exact hHeld.trans (hq9.mono hHeld.size)
  clear hK K
  try simp only [Act.put, List.getElem_toArray, List.getElem_cons_zero, List.getElem_cons_succ, List.setIfInBounds_toArray, List.set_cons_zero, List.set_cons_succ]
  refine wpAnyH_take (i := 6) (oi := _) (v := ?_) rfl (by kernel_rfl) (by kernel_rfl) (by kernel_rfl) (fun _ _ _ h => h) (Or.inl ⟨by rfl, ?_⟩) (by assumption) ?_
  rotate_left
  · intro w' hSw
    (try dsimp only at hSw)
    have k0 := (hSw.cell (p := ⟨w.heap.size, 0, none⟩) hl1).trans p0
    have k2 := (hSw.cell (p := ⟨w.heap.size, 2, none⟩) hl1).trans p2
    have v0 := (hSw.cell (p := ⟨w.heap.size + 1, 0, none⟩) hl2).trans q0
    have v1 := (hSw.cell (p := ⟨w.heap.size + 1, 1, none⟩) hl2).trans q1
    have v2 := (hSw.cell (p := ⟨w.heap.size + 1, 2, none⟩) hl2).trans q2
    have g0 := (hSw.cell (p := ⟨b0, off0 + 6, none⟩) hlb).trans d20
    have g1 := (hSw.cell (p := ⟨b0, off0 + 6 + 1, none⟩) hlb).trans d21
    have g2 := (hSw.cell (p := ⟨b0, off0 + 6 + 2, none⟩) hlb).trans d22
    have f1 : w'.cell? ⟨b0, off0 + 7, none⟩ = _ := g1
    have f2 : w'.cell? ⟨b0, off0 + 8, none⟩ = _ := g2
    go_simp
    try with_reducible rfl
  try simp only [Act.put, List.getElem_toArray, List.getElem_cons_zero, List.getElem_cons_succ, List.setIfInBounds_toArray, List.set_cons_zero, List.set_cons_succ]
  refine wpAnyH_done (by kernel_rfl) ?_ _
  go_wp2_with fail
  go_ret
  exact ⟨by rw [HE.out]; rfl, hB0.trans (hHeld.mono hB0.size)⟩

end Go.Proofs.Ytfieoehchghiiaa
