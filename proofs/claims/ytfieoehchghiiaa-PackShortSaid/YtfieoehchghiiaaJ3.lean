/-
  Walks: job.rules, job.may.
-/
import Derived.Test.YtfieoehchghiiaaJ2
import Derived.Test.YtfieoehchghiiaaK9
import Derived.Test.YtfieoehchghiiaaW1
namespace Go.Proofs.Ytfieoehchghiiaa
open Go.RowKit
set_option linter.unusedVariables false

def rLeast (k : Int) : Int := if k = 1 then 0 else if k = 8 then 2 else 1
def rMost (k : Int) : Int := if k = 1 then 0 else if k = 8 then 3 else 1
def rTy (k : Int) : Int := if k = 3 then 2 else if k = 2 ∨ k = 4 ∨ k = 5 ∨ k = 6 then 1 else 0
def rAcc (k : Int) : Bool := k == 6
def rN (k : Int) : Int := if k = 7 then 16 else 0
def rM (k : Int) : Int := if k = 7 then 1 else 0
def rulesV : Value := .agg #[.int .i64 0, .int .i64 0, .int .u8 0, .bool false, .int .i64 0, .int .i64 0, .int .i64 0, .int .u8 0, .bool false, .int .i64 0, .int .i64 1, .int .i64 1, .int .u8 1, .bool false, .int .i64 0, .int .i64 1, .int .i64 1, .int .u8 2, .bool false, .int .i64 0, .int .i64 1, .int .i64 1, .int .u8 1, .bool false, .int .i64 0, .int .i64 1, .int .i64 1, .int .u8 1, .bool false, .int .i64 0, .int .i64 1, .int .i64 1, .int .u8 1, .bool true, .int .i64 0, .int .i64 1, .int .i64 1, .int .u8 0, .bool false, .int .i64 16, .int .i64 2, .int .i64 3, .int .u8 0, .bool false, .int .i64 0, .int .i64 1, .int .i64 1, .int .u8 0, .bool false, .int .i64 0]

set_option maxRecDepth 100000 in
set_option maxHeartbeats 1000000 in
theorem jrules_c (w : World) : Calls Try.prog 72 #[] w fun e w' => e = .returned rulesV ∧ Below w.heap.size w w' := by
  go_enter Try.func72, Try.ntmps72
  go_wp2_with (refine wpList_store_row rfl 97 (.tmp 0) (.tmp 10) rfl w.heap.size _ rfl rfl 97 _ (heap_alloc_new w _) (by as_aux_lemma => kernel_rfl) (by as_aux_lemma => kernel_rfl) (by as_aux_lemma => kernel_rfl) ?_)
  refine bodyPost_ret (v := rulesV) (results_cell_row rfl _ _ w.heap.size 97 _ (0, 0) _ rfl (setRow_heap (w.alloc _) w.heap.size _ _ _ _ (heap_alloc_new w _)) Try.underlying97 rfl ?_) rfl ⟨rfl, ?_⟩
  · as_aux_lemma => kernel_rfl
  · exact ⟨rfl, rfl, rfl, by simp, fun k hk => (setRow_other (w.alloc _) w.heap.size k _ (by omega)).trans (alloc_old w _ k hk)⟩

theorem index_rules (k : Int) (h1 : 1 ≤ k) (h2 : k ≤ 9) (w : World) : (Instr.index 97 rulesV (.int .u8 k)).run Try.prog w = .ok (.agg #[.int .i64 (rLeast k), .int .i64 (rMost k), .int .u8 (rTy k), .bool (rAcc k), .int .i64 (rN k)]) w := by
  obtain rfl | rfl | rfl | rfl | rfl | rfl | rfl | rfl | rfl : k = 1 ∨ k = 2 ∨ k = 3 ∨ k = 4 ∨ k = 5 ∨ k = 6 ∨ k = 7 ∨ k = 8 ∨ k = 9 := by omega
  all_goals kernel_rfl

/-- Whether a node may be at a place. -/
def nodeB (d : Nd) (at_ : Int) : Bool :=
  nameB d.uid && (!decide (d.kind < 1) && (!decide (9 < d.kind) && (!decide ((d.ins.length : Int) < rLeast d.kind) && (!decide (rMost d.kind < (d.ins.length : Int)) && (!twiceB (fun x y => x == y) d.ins && (!d.ins.any (outB at_) &&
    (!decide (d.n < rM d.kind) && (!decide (rN d.kind < d.n) && (bif rTy d.kind == 0 then d.x.sameB (.mk 0 0 []) else d.x.isB (rAcc d.kind) (rTy d.kind))))))))))

theorem nodeB_cases (d : Nd) (at_ : Int) :
    (nameB d.uid = false ∧ nodeB d at_ = false) ∨
    (nameB d.uid = true ∧ decide (d.kind < 1) = true ∧ nodeB d at_ = false) ∨
    (nameB d.uid = true ∧ decide (d.kind < 1) = false ∧ decide (9 < d.kind) = true ∧ nodeB d at_ = false) ∨
    (nameB d.uid = true ∧ decide (d.kind < 1) = false ∧ decide (9 < d.kind) = false ∧ decide ((d.ins.length : Int) < rLeast d.kind) = true ∧ nodeB d at_ = false) ∨
    (nameB d.uid = true ∧ decide (d.kind < 1) = false ∧ decide (9 < d.kind) = false ∧ decide ((d.ins.length : Int) < rLeast d.kind) = false ∧ decide (rMost d.kind < (d.ins.length : Int)) = true ∧ nodeB d at_ = false) ∨
    (nameB d.uid = true ∧ decide (d.kind < 1) = false ∧ decide (9 < d.kind) = false ∧ decide ((d.ins.length : Int) < rLeast d.kind) = false ∧ decide (rMost d.kind < (d.ins.length : Int)) = false ∧ twiceB (fun x y => x == y) d.ins = true ∧ nodeB d at_ = false) ∨
    (nameB d.uid = true ∧ decide (d.kind < 1) = false ∧ decide (9 < d.kind) = false ∧ decide ((d.ins.length : Int) < rLeast d.kind) = false ∧ decide (rMost d.kind < (d.ins.length : Int)) = false ∧ twiceB (fun x y => x == y) d.ins = false ∧ d.ins.any (outB at_) = true ∧ nodeB d at_ = false) ∨
    (nameB d.uid = true ∧ decide (d.kind < 1) = false ∧ decide (9 < d.kind) = false ∧ decide ((d.ins.length : Int) < rLeast d.kind) = false ∧ decide (rMost d.kind < (d.ins.length : Int)) = false ∧ twiceB (fun x y => x == y) d.ins = false ∧ d.ins.any (outB at_) = false ∧ decide (d.n < rM d.kind) = true ∧ nodeB d at_ = false) ∨
    (nameB d.uid = true ∧ decide (d.kind < 1) = false ∧ decide (9 < d.kind) = false ∧ decide ((d.ins.length : Int) < rLeast d.kind) = false ∧ decide (rMost d.kind < (d.ins.length : Int)) = false ∧ twiceB (fun x y => x == y) d.ins = false ∧ d.ins.any (outB at_) = false ∧ decide (d.n < rM d.kind) = false ∧ decide (rN d.kind < d.n) = true ∧ nodeB d at_ = false) ∨
    (nameB d.uid = true ∧ decide (d.kind < 1) = false ∧ decide (9 < d.kind) = false ∧ decide ((d.ins.length : Int) < rLeast d.kind) = false ∧ decide (rMost d.kind < (d.ins.length : Int)) = false ∧ twiceB (fun x y => x == y) d.ins = false ∧ d.ins.any (outB at_) = false ∧ decide (d.n < rM d.kind) = false ∧ decide (rN d.kind < d.n) = false ∧ (rTy d.kind == 0) = true ∧ nodeB d at_ = d.x.sameB (.mk 0 0 [])) ∨
    (nameB d.uid = true ∧ decide (d.kind < 1) = false ∧ decide (9 < d.kind) = false ∧ decide ((d.ins.length : Int) < rLeast d.kind) = false ∧ decide (rMost d.kind < (d.ins.length : Int)) = false ∧ twiceB (fun x y => x == y) d.ins = false ∧ d.ins.any (outB at_) = false ∧ decide (d.n < rM d.kind) = false ∧ decide (rN d.kind < d.n) = false ∧ (rTy d.kind == 0) = false ∧ nodeB d at_ = d.x.isB (rAcc d.kind) (rTy d.kind)) := by
  unfold nodeB
  cases g0 : nameB d.uid
  · simp
  cases g1 : decide (d.kind < 1)
  case true => simp
  cases g2 : decide (9 < d.kind)
  case true => simp
  cases g3 : decide ((d.ins.length : Int) < rLeast d.kind)
  case true => simp
  cases g4 : decide (rMost d.kind < (d.ins.length : Int))
  case true => simp
  cases g5 : twiceB (fun x y => x == y) d.ins
  case true => simp
  cases g6 : d.ins.any (outB at_)
  case true => simp
  cases g7 : decide (d.n < rM d.kind)
  case true => simp
  cases g8 : decide (rN d.kind < d.n)
  case true => simp
  cases gt : (rTy d.kind == 0)
  all_goals simp

/- job.may: the early ends. -/
set_option maxHeartbeats 1000000 in
theorem jmay_a (d : Nd) (at_ : Int) (v : Value) (B : Nat) (w : World) (hv : NdAt w B v d) (hB : B ≤ w.heap.size) (hc : nameB d.uid = false ∨ (nameB d.uid = true ∧ decide (d.kind < 1) = true) ∨ (nameB d.uid = true ∧ decide (d.kind < 1) = false ∧ decide (9 < d.kind) = true)) (hr : nodeB d at_ = false)
    : Calls Try.prog 33 #[v, .int .i64 at_] w fun e w' => e = .returned (.bool (nodeB d at_)) ∧ Below w.heap.size w w' := by
  obtain ⟨iv, sv, rfl, ⟨hi, hs⟩, hu⟩ := hv
  obtain ⟨_, ai, capi, rfl, hc1, hm1, _⟩ := id hi
  obtain ⟨ax, capx, rfl, hc2, hm2⟩ := hs.slice
  rename_i hx1
  have HI := Lib.hid hi
  have HS := Lib.hid hs
  have HX : Hid (∀ X, Below w.heap.size w X → ExAt X X.heap.size (.agg #[.int .u8 d.x.op, .int .i64 d.x.n, .slice ax d.x.args.length capx]) d.x) := fun X hX => ⟨_, rfl, ((hs.mono hB).keep hX).mono hX.size⟩
  clear hi hs hx1 hc2 hm2 HS
  generalize hnb : nodeB d at_ = nb at *
  subst hr
  generalize hu' : d.uid = u at *
  generalize hkd : d.kind = kd at *
  generalize hdn : d.n = dn at *
  generalize hins : d.ins = ins at *
  generalize hlen : ins.length = len at *
  generalize hxo : d.x.op = xo at *
  generalize hxn : d.x.n = xn at *
  generalize hxl : d.x.args.length = xl at *
  have HL := Lib.hid hlen
  have hlm : len ≤ 9223372036854775807 := by unfold maxLen at hm1; omega
  clear hnb hu' hkd hdn hins hlen hxo hxn hxl hm1 hc1
  have HU := Lib.hid hu
  clear hu
  have hb2 := ((Below.refl w.heap.size w).alloc (Nat.le_refl _) (.cells #[.string u, .int .u8 kd, .slice ai len capi, .int .u8 xo, .int .i64 xn, .slice ax xl capx, .int .i64 dn] 37)).alloc (by simp) (.cells #[.int .i64 at_] 3)
  have hN1 := (Blk.new w #[.string u, .int .u8 kd, .slice ai len capi, .int .u8 xo, .int .i64 xn, .slice ax xl capx, .int .i64 dn] 37).alloc (.cells #[.int .i64 at_] 3)
  have hN2 := Blk.new_at (w.alloc (.cells #[.string u, .int .u8 kd, .slice ai len capi, .int .u8 xo, .int .i64 xn, .slice ax xl capx, .int .i64 dn] 37)) #[.int .i64 at_] 3 (k := w.heap.size + 1) (by simp)
  have HSZ : Hid (((w.alloc (.cells #[.string u, .int .u8 kd, .slice ai len capi, .int .u8 xo, .int .i64 xn, .slice ax xl capx, .int .i64 dn] 37)).alloc (.cells #[.int .i64 at_] 3)).heap.size = w.heap.size + 2) := by simp [Hid]
  rcases hc with h1 | ⟨h1, h2⟩ | ⟨h1, h2, h3⟩
  all_goals
    have H1 := Lib.hid h1
    clear h1
    go_enter Try.func33, Try.ntmps33
    go_wp2_with fail
    generalize World.alloc (World.alloc w _) _ = W at *
    have n0 := hN1.cell 0
    have n1 := hN1.cell 1
    go_wp2_with (go_at_call 14; refine (Name_c u _ HU.out).mono ?_; rintro e w1 ⟨rfl, pos, rfl⟩; rw [H1.out]; have hN3 : Blk (W.iter u pos) _ _ _ := hN1.alloc _; have m1 := hN3.cell 1)
    go_ret
    exact ⟨rfl, hb2.alloc (by have := HSZ.out; omega) _⟩

/-- What lies there behind the rule's look-up. -/
structure JR (w : World) (cs : Array Value) (at_ r1 r2 r3 r5 : Int) (r4 : Bool) (wx : World) (bR : Nat) : Prop where
  node : Blk wx w.heap.size 37 cs
  place : Blk wx (w.heap.size + 1) 3 #[.int .i64 at_]
  rule : Blk wx bR 96 #[.int .i64 r1, .int .i64 r2, .int .u8 r3, .bool r4, .int .i64 r5]
  low : w.heap.size + 2 ≤ bR
  below : Below w.heap.size w wx
theorem JR.mk1 {w w2 : World} {cs : Array Value} {at_ r1 r2 r3 r5 : Int} {r4 : Bool} (h1 : Blk w2 w.heap.size 37 cs) (h2 : Blk w2 (w.heap.size + 1) 3 #[.int .i64 at_]) (h3 : w.heap.size + 2 ≤ w2.heap.size) (h4 : Below w.heap.size w w2) :
    JR w cs at_ r1 r2 r3 r5 r4 (w2.alloc (.cells #[.int .i64 r1, .int .i64 r2, .int .u8 r3, .bool r4, .int .i64 r5] 96)) w2.heap.size :=
  ⟨h1.alloc _, h2.alloc _, Blk.new _ _ _, h3, h4.alloc (by omega) _⟩
theorem JR.mk2 {w w2 : World} {cs : Array Value} {at_ r1 r2 r3 r5 : Int} {r4 : Bool} {b : Nat} (h1 : Blk w2 w.heap.size 37 cs) (h2 : Blk w2 (w.heap.size + 1) 3 #[.int .i64 at_]) (h3 : w.heap.size + 2 ≤ b) (h4 : Below w.heap.size w w2)
    (h5 : Blk w2 b 96 #[.int .i64 0, .int .i64 0, .int .u8 0, .bool false, .int .i64 0]) :
    JR w cs at_ r1 r2 r3 r5 r4 (((((w2.setCell ⟨b, 0, none⟩ (.int .i64 r1)).setCell ⟨b, 1, none⟩ (.int .i64 r2)).setCell ⟨b, 2, none⟩ (.int .u8 r3)).setCell ⟨b, 3, none⟩ (.bool r4)).setCell ⟨b, 4, none⟩ (.int .i64 r5)) b := by
  have n1 : w.heap.size ≠ b := by omega
  have n2 : w.heap.size + 1 ≠ b := by omega
  refine ⟨((((h1.other n1 _).other n1 _).other n1 _).other n1 _).other n1 _, ((((h2.other n2 _).other n2 _).other n2 _).other n2 _).other n2 _, ((((h5.set 0 _).set 1 _).set 2 _).set 3 _).set 4 _, h3, ?_⟩
  exact ((((h4.setCell (by simp; omega) _).setCell (by simp; omega) _).setCell (by simp; omega) _).setCell (by simp; omega) _).setCell (by simp; omega) _

set_option maxHeartbeats 1000000 in
theorem jmay_b (d : Nd) (at_ : Int) (v : Value) (B : Nat) (w : World) (hv : NdAt w B v d) (hB : B ≤ w.heap.size) (h1 : nameB d.uid = true) (h2 : decide (d.kind < 1) = false) (h3 : decide (9 < d.kind) = false)
    (hc : (nodeB d at_ = false ∧ ((decide ((d.ins.length : Int) < rLeast d.kind) = true) ∨ (decide ((d.ins.length : Int) < rLeast d.kind) = false ∧ decide (rMost d.kind < (d.ins.length : Int)) = true) ∨ (decide ((d.ins.length : Int) < rLeast d.kind) = false ∧ decide (rMost d.kind < (d.ins.length : Int)) = false ∧ twiceB (fun x y => x == y) d.ins = true) ∨ (decide ((d.ins.length : Int) < rLeast d.kind) = false ∧ decide (rMost d.kind < (d.ins.length : Int)) = false ∧ twiceB (fun x y => x == y) d.ins = false ∧ d.ins.any (outB at_) = true) ∨ (decide ((d.ins.length : Int) < rLeast d.kind) = false ∧ decide (rMost d.kind < (d.ins.length : Int)) = false ∧ twiceB (fun x y => x == y) d.ins = false ∧ d.ins.any (outB at_) = false ∧ decide (d.n < rM d.kind) = true) ∨ (decide ((d.ins.length : Int) < rLeast d.kind) = false ∧ decide (rMost d.kind < (d.ins.length : Int)) = false ∧ twiceB (fun x y => x == y) d.ins = false ∧ d.ins.any (outB at_) = false ∧ decide (d.n < rM d.kind) = false ∧ decide (rN d.kind < d.n) = true))) ∨ (decide ((d.ins.length : Int) < rLeast d.kind) = false ∧ decide (rMost d.kind < (d.ins.length : Int)) = false ∧ twiceB (fun x y => x == y) d.ins = false ∧ d.ins.any (outB at_) = false ∧ decide (d.n < rM d.kind) = false ∧ decide (rN d.kind < d.n) = false ∧ (rTy d.kind == 0) = true ∧ nodeB d at_ = d.x.sameB (.mk 0 0 [])) ∨ (decide ((d.ins.length : Int) < rLeast d.kind) = false ∧ decide (rMost d.kind < (d.ins.length : Int)) = false ∧ twiceB (fun x y => x == y) d.ins = false ∧ d.ins.any (outB at_) = false ∧ decide (d.n < rM d.kind) = false ∧ decide (rN d.kind < d.n) = false ∧ (rTy d.kind == 0) = false ∧ nodeB d at_ = d.x.isB (rAcc d.kind) (rTy d.kind)))
    : Calls Try.prog 33 #[v, .int .i64 at_] w fun e w' => e = .returned (.bool (nodeB d at_)) ∧ Below w.heap.size w w' := by
  obtain ⟨iv, sv, rfl, ⟨hi, hs⟩, hu⟩ := hv
  obtain ⟨_, ai, capi, rfl, hc1, hm1, _⟩ := id hi
  obtain ⟨ax, capx, rfl, hc2, hm2⟩ := hs.slice
  rename_i hx1
  have HI := Lib.hid hi
  have HS := Lib.hid hs
  have HX : Hid (∀ X, Below w.heap.size w X → ExAt X X.heap.size (.agg #[.int .u8 d.x.op, .int .i64 d.x.n, .slice ax d.x.args.length capx]) d.x) := fun X hX => ⟨_, rfl, ((hs.mono hB).keep hX).mono hX.size⟩
  clear hi hs hx1 hc2 hm2 HS
  generalize nodeB d at_ = nb at *
  have hk1 : 1 ≤ d.kind := by simpa using h2
  have hk2 : d.kind ≤ 9 := by simpa using h3
  have hix := fun w => index_rules d.kind hk1 hk2 w
  have HRU := Lib.hid jrules_c
  generalize rulesV = rv at *
  generalize rLeast d.kind = r1 at *
  generalize rMost d.kind = r2 at *
  generalize hr3 : rTy d.kind = r3 at *
  generalize hr4 : rAcc d.kind = r4 at *
  have hr5 : (rN d.kind = 0 ∧ rM d.kind = 0) ∨ (rN d.kind = 16 ∧ rM d.kind = 1) := by unfold rN rM; split <;> simp
  generalize rN d.kind = r5 at *
  generalize rM d.kind = r8 at *
  generalize hu' : d.uid = u at *
  generalize hkd : d.kind = kd at *
  generalize hdn : d.n = dn at *
  generalize hins : d.ins = ins at *
  generalize hlen : ins.length = len at *
  generalize hxo : d.x.op = xo at *
  generalize hxn : d.x.n = xn at *
  generalize hxl : d.x.args.length = xl at *
  have HL := Lib.hid hlen
  have hlm : len ≤ 9223372036854775807 := by unfold maxLen at hm1; omega
  clear hr3 hr4 hu' hkd hdn hins hlen hxo hxn hxl hm1 hc1
  have HU := Lib.hid hu
  clear hu
  have hb2 := ((Below.refl w.heap.size w).alloc (Nat.le_refl _) (.cells #[.string u, .int .u8 kd, .slice ai len capi, .int .u8 xo, .int .i64 xn, .slice ax xl capx, .int .i64 dn] 37)).alloc (by simp) (.cells #[.int .i64 at_] 3)
  have hN1 := (Blk.new w #[.string u, .int .u8 kd, .slice ai len capi, .int .u8 xo, .int .i64 xn, .slice ax xl capx, .int .i64 dn] 37).alloc (.cells #[.int .i64 at_] 3)
  have hN2 := Blk.new_at (w.alloc (.cells #[.string u, .int .u8 kd, .slice ai len capi, .int .u8 xo, .int .i64 xn, .slice ax xl capx, .int .i64 dn] 37)) #[.int .i64 at_] 3 (k := w.heap.size + 1) (by simp)
  have HSZ : Hid (((w.alloc (.cells #[.string u, .int .u8 kd, .slice ai len capi, .int .u8 xo, .int .i64 xn, .slice ax xl capx, .int .i64 dn] 37)).alloc (.cells #[.int .i64 at_] 3)).heap.size = w.heap.size + 2) := by simp [Hid]
  have H1 := Lib.hid h1
  clear h1
  go_enter Try.func33, Try.ntmps33
  go_wp2_with fail
  generalize World.alloc (World.alloc w _) _ = W at *
  have n0 := hN1.cell 0
  have n1 := hN1.cell 1
  go_upto_region 3 with (go_at_call 14; refine (Name_c u _ HU.out).mono ?_; rintro e w1 ⟨rfl, pos, rfl⟩; rw [H1.out]; have hN3 : Blk (W.iter u pos) _ _ _ := hN1.alloc _; have m1 := hN3.cell 1)
  have hN4 : Blk (W.iter u pos) _ _ _ := hN2.alloc _
  have hb3 : Below w.heap.size w (W.iter u pos) := hb2.alloc (by have := HSZ.out; omega) _
  have hsz3 : w.heap.size + 2 ≤ (W.iter u pos).heap.size := by have := HSZ.out; simp [World.iter]; omega
  generalize World.iter W u pos = W1 at *
  have hlt3 := hN3.lt
  clear n0 n1 hN1 hN2 hb2 HSZ
  go_cut [5] (fun p wx => ∃ bR : Nat, p = .pointer (some ⟨bR, 0, none⟩) ∧ JR w #[.string u, .int .u8 kd, .slice ai len capi, .int .u8 xo, .int .i64 xn, .slice ax xl capx, .int .i64 dn] at_ r1 r2 r3 r5 r4 wx bR)
  case first =>
    go_region_with (go_at_call 72; refine (HRU.out _).mono ?_; rintro e w2 ⟨rfl, hbr⟩; have hz2 := hbr.size; first
      | (have hN5 := hN3.drew.below hbr hN3.lt; have hN6 := hN4.drew.below hbr hN4.lt; have k1 := hN5.cell 1; have hlt5 := hN5.lt; have hb5 := hb3.drew.trans (hbr.mono (by simp; omega)))
      | (have hN5 := (hN3.drew.alloc _).below hbr (by simp; omega); have hN6 := (hN4.drew.alloc _).below hbr (by simp; omega); have k1 := hN5.cell 1; have hA5 : Blk w2 W1.heap.size 96 _ := (Blk.new W1.drew _ _).below hbr (by simp); have q0 := hA5.free 0; have q1 := hA5.free 1; have q2 := hA5.free 2; have q3 := hA5.free 3; have q4 := hA5.free 4; have z0 := hA5.cell 0; have z1 := hA5.cell 1; have z2 := hA5.cell 2; have z3 := hA5.cell 3; have z4 := hA5.cell 4; have hb5 := (hb3.drew.alloc (by simp; omega) _).trans (hbr.mono (by simp; omega))))
    all_goals
      go_wp2_with fail
      go_meet
      refine ⟨_, rfl, ?_⟩
      first
      | (with_reducible refine JR.mk1 hN5 hN6 ?_ hb5)
      | (with_reducible refine JR.mk2 hN5 hN6 ?_ hb5 hA5)
      all_goals (first | omega | (simp at hz2; omega))
  case rest =>
    obtain ⟨bR, rfl, hJ⟩ := hcut
    have a0 := hJ.node.cell 0
    have a1 := hJ.node.cell 1
    have a2 := hJ.node.cell 2
    have a3 := hJ.node.cell 3
    have a4 := hJ.node.cell 4
    have a5 := hJ.node.cell 5
    have a6 := hJ.node.cell 6
    have b0 := hJ.place.cell 0
    have e0 := hJ.rule.cell 0
    have e1 := hJ.rule.cell 1
    have e2 := hJ.rule.cell 2
    have e3 := hJ.rule.cell 3
    have e4 := hJ.rule.cell 4
    have B0 := Lib.hid hJ.place
    have HB := Lib.hid hJ.below
    clear hJ
    rcases hr5 with ⟨rfl, rfl⟩ | ⟨rfl, rfl⟩
    all_goals
     rcases hc with ⟨rfl, hc⟩ | ⟨h4, h5, h6, h7, h8, h9, h10, hr⟩ | ⟨h4, h5, h6, h7, h8, h9, h10, hr⟩
     · rcases hc with h4 | ⟨h4, h5⟩ | ⟨h4, h5, h6⟩ | ⟨h4, h5, h6, h7⟩ | ⟨h4, h5, h6, h7, h8⟩ | ⟨h4, h5, h6, h7, h8, h9⟩
       all_goals
        go_wp2_with (first
          | (go_at_call 73; refine (twiceInt_c ins len _ B _ (HI.out.below (HB.out.mono hB)) HL.out).mono ?_; rintro e w3 ⟨rfl, rfl⟩; rw [h6])
          | (go_at_call 74; refine (ContainsOut_c ins len _ at_ _ B _ (HI.out.below (HB.out.mono hB)) HL.out (B0.out.cell 0)).mono ?_; rintro e w3 ⟨rfl, rfl⟩; rw [h7]))
        go_ret
        exact ⟨rfl, HB.out⟩
     · have HR := Lib.hid hr
       clear hr
       go_wp2_with (first
          | (go_at_call 73; refine (twiceInt_c ins len _ B _ (HI.out.below (HB.out.mono hB)) HL.out).mono ?_; rintro e w3 ⟨rfl, rfl⟩; rw [h6])
          | (go_at_call 74; refine (ContainsOut_c ins len _ at_ _ B _ (HI.out.below (HB.out.mono hB)) HL.out (B0.out.cell 0)).mono ?_; rintro e w3 ⟨rfl, rfl⟩; rw [h7])
          | (go_at_call 42; refine (Same_c d.x (.mk 0 0 []) _ _ _ _ (HX.out _ HB.out) ⟨_, rfl, .nil none 0 (Nat.zero_le _)⟩ (Nat.le_refl _)).mono ?_; rintro e w3 ⟨rfl, hb9⟩))
       go_ret
       exact ⟨ret_bool HR.out.symm, HB.out.trans (hb9.mono HB.out.size)⟩
     · have HR := Lib.hid hr
       clear hr
       go_wp2_with (first
          | (go_at_call 73; refine (twiceInt_c ins len _ B _ (HI.out.below (HB.out.mono hB)) HL.out).mono ?_; rintro e w3 ⟨rfl, rfl⟩; rw [h6])
          | (go_at_call 74; refine (ContainsOut_c ins len _ at_ _ B _ (HI.out.below (HB.out.mono hB)) HL.out (B0.out.cell 0)).mono ?_; rintro e w3 ⟨rfl, rfl⟩; rw [h7])
          | (go_at_call 76; refine (Is_c d.x r4 r3 _ _ _ (HX.out _ HB.out) (Nat.le_refl _)).mono ?_; rintro e w3 ⟨rfl, hb9⟩))
       go_ret
       exact ⟨ret_bool HR.out.symm, HB.out.trans (hb9.mono HB.out.size)⟩

/-- job.may. -/
theorem jobmay_c (d : Nd) (at_ : Int) (v : Value) (B : Nat) (w : World) (hv : NdAt w B v d) (hB : B ≤ w.heap.size) :
    Calls Try.prog 33 #[v, .int .i64 at_] w fun e w' => e = .returned (.bool (nodeB d at_)) ∧ Below w.heap.size w w' := by
  rcases nodeB_cases d at_ with ⟨h1, hr⟩ | ⟨h1, h2, hr⟩ | ⟨h1, h2, h3, hr⟩ | ⟨h1, h2, h3, h4, hr⟩ | ⟨h1, h2, h3, h4, h5, hr⟩ | ⟨h1, h2, h3, h4, h5, h6, hr⟩ | ⟨h1, h2, h3, h4, h5, h6, h7, hr⟩ | ⟨h1, h2, h3, h4, h5, h6, h7, h8, hr⟩ | ⟨h1, h2, h3, h4, h5, h6, h7, h8, h9, hr⟩ | ⟨h1, h2, h3, hr⟩ | ⟨h1, h2, h3, hr⟩
  · exact jmay_a d at_ v B w hv hB (.inl h1) hr
  · exact jmay_a d at_ v B w hv hB (.inr (.inl ⟨h1, h2⟩)) hr
  · exact jmay_a d at_ v B w hv hB (.inr (.inr ⟨h1, h2, h3⟩)) hr
  · exact jmay_b d at_ v B w hv hB h1 h2 h3 (.inl ⟨hr, .inl h4⟩)
  · exact jmay_b d at_ v B w hv hB h1 h2 h3 (.inl ⟨hr, .inr (.inl ⟨h4, h5⟩)⟩)
  · exact jmay_b d at_ v B w hv hB h1 h2 h3 (.inl ⟨hr, .inr (.inr (.inl ⟨h4, h5, h6⟩))⟩)
  · exact jmay_b d at_ v B w hv hB h1 h2 h3 (.inl ⟨hr, .inr (.inr (.inr (.inl ⟨h4, h5, h6, h7⟩)))⟩)
  · exact jmay_b d at_ v B w hv hB h1 h2 h3 (.inl ⟨hr, .inr (.inr (.inr (.inr (.inl ⟨h4, h5, h6, h7, h8⟩))))⟩)
  · exact jmay_b d at_ v B w hv hB h1 h2 h3 (.inl ⟨hr, .inr (.inr (.inr (.inr (.inr ⟨h4, h5, h6, h7, h8, h9⟩))))⟩)
  · exact jmay_b d at_ v B w hv hB h1 h2 h3 (.inr (.inl hr))
  · exact jmay_b d at_ v B w hv hB h1 h2 h3 (.inr (.inr hr))

end Go.Proofs.Ytfieoehchghiiaa
