/-
  Walks: job.rules, job.may.
  Walks: job.parts.
  Walks: job.readers, job.Find.
  Walk: job.May (its plain form; the rows of ways).
-/
import Derived.Test.YtfieoehchghiiaaJ2
import Derived.Test.YtfieoehchghiiaaMK
import Derived.Test.YtfieoehchghiiaaW1
import Derived.Test.YtfieoehchghiiaaChecked
import Derived.Test.YtfieoehchghiiaaJ0
import Derived.Laws.EntriesVeiled

namespace Go.Proofs.Ytfieoehchghiiaa
open Go.RowKit
set_option linter.unusedVariables false

def rLeast (k : Int) : Int := if k = 1 then 0 else if k = 8 then 2 else 1
def rMost (k : Int) : Int := if k = 1 then 0 else if k = 8 then 3 else 1
def rTy (k : Int) : Int := if k = 3 then 2 else if k = 2 ∨ k = 4 ∨ k = 5 ∨ k = 6 then 1 else 0
def rAcc (k : Int) : Bool := k == 6
def rN (k : Int) : Int := if k = 7 then 16 else 0
def rM (k : Int) : Int := if k = 7 then 1 else 0
def rulesV : Value := .agg #[.int .i64 0, .int .i64 0, .int .u8 0, .bool false, .int .i64 0, .int .i64 0, .int .i64 0, .int .u8 0, .bool false, .int .i64 0, .int .i64 1, .int .i64 1, .int .u8 1, .bool false, .int .i64 0, .int .i64 1, .int .i64 1, .int .u8 2, .bool false, .int .i64 0, .int .i64 1, .int .i64 1, .int .u8 1, .bool false, .int .i64 0, .int .i64 1, .int .i64 1, .int .u8 1, .bool false, .int .i64 0, .int .i64 1, .int .i64 1, .int .u8 1, .bool true, .int .i64 0, .int .i64 1, .int .i64 1, .int .u8 0, .bool false, .int .i64 16, .int .i64 2, .int .i64 3, .int .u8 0, .bool false, .int .i64 0, .int .i64 1, .int .i64 1, .int .u8 0, .bool false, .int .i64 0]

set_option maxRecDepth 100000 in
set_option maxHeartbeats 1000000 in
theorem jrules_c (w : World) : Calls Try.prog 72 #[] w fun e w' => e = .returned rulesV ∧ Below w.heap.size w w' := by
  go_enter Try.func72, Try.ntmps72
  go_wp2_with (refine wpList_store_row rfl 97 (.tmp 0) (.tmp 10) rfl w.heap.size _ rfl rfl 97 _ (heap_alloc_new w _) (by as_aux_lemma => kernel_rfl) (by as_aux_lemma => kernel_rfl) (by as_aux_lemma => kernel_rfl) ?_)
  refine bodyPost_ret (v := rulesV) (results_cell_row rfl _ _ w.heap.size 97 _ (0, 0) _ rfl (setRow_heap (w.alloc _) w.heap.size _ _ _ _ (heap_alloc_new w _)) Try.underlying97 rfl ?_) rfl ⟨rfl, ?_⟩
  · as_aux_lemma => kernel_rfl
  · exact ⟨rfl, rfl, rfl, by simp, fun k hk => (setRow_other (w.alloc _) w.heap.size k _ (by omega)).trans (alloc_old w _ k hk)⟩

theorem index_rules (k : Int) (h1 : 1 ≤ k) (h2 : k ≤ 9) (w : World) : (Instr.index 97 rulesV (.int .u8 k)).run Try.prog w = .ok (.agg #[.int .i64 (rLeast k), .int .i64 (rMost k), .int .u8 (rTy k), .bool (rAcc k), .int .i64 (rN k)]) w := by
  obtain rfl | rfl | rfl | rfl | rfl | rfl | rfl | rfl | rfl : k = 1 ∨ k = 2 ∨ k = 3 ∨ k = 4 ∨ k = 5 ∨ k = 6 ∨ k = 7 ∨ k = 8 ∨ k = 9 := by omega
  all_goals kernel_rfl

/-- Whether a node may be at a place. -/
def nodeB (d : Nd) (at_ : Int) : Bool :=
  nameB d.uid && (!decide (d.kind < 1) && (!decide (9 < d.kind) && (!decide ((d.ins.length : Int) < rLeast d.kind) && (!decide (rMost d.kind < (d.ins.length : Int)) && (!twiceB (fun x y => x == y) d.ins && (!d.ins.any (outB at_) &&
    (!decide (d.n < rM d.kind) && (!decide (rN d.kind < d.n) && (bif rTy d.kind == 0 then d.x.sameB (.mk 0 0 []) else d.x.isB (rAcc d.kind) (rTy d.kind))))))))))

theorem nodeB_cases (d : Nd) (at_ : Int) :
    (nameB d.uid = false ∧ nodeB d at_ = false) ∨
    (nameB d.uid = true ∧ decide (d.kind < 1) = true ∧ nodeB d at_ = false) ∨
    (nameB d.uid = true ∧ decide (d.kind < 1) = false ∧ decide (9 < d.kind) = true ∧ nodeB d at_ = false) ∨
    (nameB d.uid = true ∧ decide (d.kind < 1) = false ∧ decide (9 < d.kind) = false ∧ decide ((d.ins.length : Int) < rLeast d.kind) = true ∧ nodeB d at_ = false) ∨
    (nameB d.uid = true ∧ decide (d.kind < 1) = false ∧ decide (9 < d.kind) = false ∧ decide ((d.ins.length : Int) < rLeast d.kind) = false ∧ decide (rMost d.kind < (d.ins.length : Int)) = true ∧ nodeB d at_ = false) ∨
    (nameB d.uid = true ∧ decide (d.kind < 1) = false ∧ decide (9 < d.kind) = false ∧ decide ((d.ins.length : Int) < rLeast d.kind) = false ∧ decide (rMost d.kind < (d.ins.length : Int)) = false ∧ twiceB (fun x y => x == y) d.ins = true ∧ nodeB d at_ = false) ∨
    (nameB d.uid = true ∧ decide (d.kind < 1) = false ∧ decide (9 < d.kind) = false ∧ decide ((d.ins.length : Int) < rLeast d.kind) = false ∧ decide (rMost d.kind < (d.ins.length : Int)) = false ∧ twiceB (fun x y => x == y) d.ins = false ∧ d.ins.any (outB at_) = true ∧ nodeB d at_ = false) ∨
    (nameB d.uid = true ∧ decide (d.kind < 1) = false ∧ decide (9 < d.kind) = false ∧ decide ((d.ins.length : Int) < rLeast d.kind) = false ∧ decide (rMost d.kind < (d.ins.length : Int)) = false ∧ twiceB (fun x y => x == y) d.ins = false ∧ d.ins.any (outB at_) = false ∧ decide (d.n < rM d.kind) = true ∧ nodeB d at_ = false) ∨
    (nameB d.uid = true ∧ decide (d.kind < 1) = false ∧ decide (9 < d.kind) = false ∧ decide ((d.ins.length : Int) < rLeast d.kind) = false ∧ decide (rMost d.kind < (d.ins.length : Int)) = false ∧ twiceB (fun x y => x == y) d.ins = false ∧ d.ins.any (outB at_) = false ∧ decide (d.n < rM d.kind) = false ∧ decide (rN d.kind < d.n) = true ∧ nodeB d at_ = false) ∨
    (nameB d.uid = true ∧ decide (d.kind < 1) = false ∧ decide (9 < d.kind) = false ∧ decide ((d.ins.length : Int) < rLeast d.kind) = false ∧ decide (rMost d.kind < (d.ins.length : Int)) = false ∧ twiceB (fun x y => x == y) d.ins = false ∧ d.ins.any (outB at_) = false ∧ decide (d.n < rM d.kind) = false ∧ decide (rN d.kind < d.n) = false ∧ (rTy d.kind == 0) = true ∧ nodeB d at_ = d.x.sameB (.mk 0 0 [])) ∨
    (nameB d.uid = true ∧ decide (d.kind < 1) = false ∧ decide (9 < d.kind) = false ∧ decide ((d.ins.length : Int) < rLeast d.kind) = false ∧ decide (rMost d.kind < (d.ins.length : Int)) = false ∧ twiceB (fun x y => x == y) d.ins = false ∧ d.ins.any (outB at_) = false ∧ decide (d.n < rM d.kind) = false ∧ decide (rN d.kind < d.n) = false ∧ (rTy d.kind == 0) = false ∧ nodeB d at_ = d.x.isB (rAcc d.kind) (rTy d.kind)) := by
  unfold nodeB
  cases g0 : nameB d.uid
  · simp
  cases g1 : decide (d.kind < 1)
  case true => simp
  cases g2 : decide (9 < d.kind)
  case true => simp
  cases g3 : decide ((d.ins.length : Int) < rLeast d.kind)
  case true => simp
  cases g4 : decide (rMost d.kind < (d.ins.length : Int))
  case true => simp
  cases g5 : twiceB (fun x y => x == y) d.ins
  case true => simp
  cases g6 : d.ins.any (outB at_)
  case true => simp
  cases g7 : decide (d.n < rM d.kind)
  case true => simp
  cases g8 : decide (rN d.kind < d.n)
  case true => simp
  cases gt : (rTy d.kind == 0)
  all_goals simp

/- job.may: the early ends. -/
set_option maxHeartbeats 1000000 in
theorem jmay_a (d : Nd) (at_ : Int) (v : Value) (B : Nat) (w : World) (hv : NdAt w B v d) (hB : B ≤ w.heap.size) (hc : nameB d.uid = false ∨ (nameB d.uid = true ∧ decide (d.kind < 1) = true) ∨ (nameB d.uid = true ∧ decide (d.kind < 1) = false ∧ decide (9 < d.kind) = true)) (hr : nodeB d at_ = false)
    : Calls Try.prog 33 #[v, .int .i64 at_] w fun e w' => e = .returned (.bool (nodeB d at_)) ∧ Below w.heap.size w w' := by
  obtain ⟨iv, sv, rfl, ⟨hi, hs⟩, hu⟩ := hv
  obtain ⟨_, ai, capi, rfl, hc1, hm1, _⟩ := id hi
  obtain ⟨ax, capx, rfl, hc2, hm2⟩ := hs.slice
  rename_i hx1
  have HI := Lib.hid hi
  have HS := Lib.hid hs
  have HX : Hid (∀ X, Below w.heap.size w X → ExAt X X.heap.size (.agg #[.int .u8 d.x.op, .int .i64 d.x.n, .slice ax d.x.args.length capx]) d.x) := fun X hX => ⟨_, rfl, ((hs.mono hB).keep hX).mono hX.size⟩
  clear hi hs hx1 hc2 hm2 HS
  generalize hnb : nodeB d at_ = nb at *
  subst hr
  generalize hu' : d.uid = u at *
  generalize hkd : d.kind = kd at *
  generalize hdn : d.n = dn at *
  generalize hins : d.ins = ins at *
  generalize hlen : ins.length = len at *
  generalize hxo : d.x.op = xo at *
  generalize hxn : d.x.n = xn at *
  generalize hxl : d.x.args.length = xl at *
  have HL := Lib.hid hlen
  have hlm : len ≤ 9223372036854775807 := by unfold maxLen at hm1; omega
  clear hnb hu' hkd hdn hins hlen hxo hxn hxl hm1 hc1
  have HU := Lib.hid hu
  clear hu
  have hb2 := ((Below.refl w.heap.size w).alloc (Nat.le_refl _) (.cells #[.string u, .int .u8 kd, .slice ai len capi, .int .u8 xo, .int .i64 xn, .slice ax xl capx, .int .i64 dn] 37)).alloc (by simp) (.cells #[.int .i64 at_] 3)
  have hN1 := (Blk.new w #[.string u, .int .u8 kd, .slice ai len capi, .int .u8 xo, .int .i64 xn, .slice ax xl capx, .int .i64 dn] 37).alloc (.cells #[.int .i64 at_] 3)
  have hN2 := Blk.new_at (w.alloc (.cells #[.string u, .int .u8 kd, .slice ai len capi, .int .u8 xo, .int .i64 xn, .slice ax xl capx, .int .i64 dn] 37)) #[.int .i64 at_] 3 (k := w.heap.size + 1) (by simp)
  have HSZ : Hid (((w.alloc (.cells #[.string u, .int .u8 kd, .slice ai len capi, .int .u8 xo, .int .i64 xn, .slice ax xl capx, .int .i64 dn] 37)).alloc (.cells #[.int .i64 at_] 3)).heap.size = w.heap.size + 2) := by simp [Hid]
  rcases hc with h1 | ⟨h1, h2⟩ | ⟨h1, h2, h3⟩
  all_goals
    have H1 := Lib.hid h1
    clear h1
    go_enter Try.func33, Try.ntmps33
    go_wp2_with fail
    generalize World.alloc (World.alloc w _) _ = W at *
    have n0 := hN1.cell 0
    have n1 := hN1.cell 1
    go_wp2_with (go_at_call 14; refine (Name_c u _ HU.out).mono ?_; rintro e w1 ⟨rfl, pos, rfl⟩; rw [H1.out]; have hN3 : Blk (W.iter u pos) _ _ _ := hN1.alloc _; have m1 := hN3.cell 1)
    go_ret
    exact ⟨rfl, hb2.alloc (by have := HSZ.out; omega) _⟩

/-- What lies there behind the rule's look-up. -/
structure JR (w : World) (cs : Array Value) (at_ r1 r2 r3 r5 : Int) (r4 : Bool) (wx : World) (bR : Nat) : Prop where
  node : Blk wx w.heap.size 37 cs
  place : Blk wx (w.heap.size + 1) 3 #[.int .i64 at_]
  rule : Blk wx bR 96 #[.int .i64 r1, .int .i64 r2, .int .u8 r3, .bool r4, .int .i64 r5]
  low : w.heap.size + 2 ≤ bR
  below : Below w.heap.size w wx
theorem JR.mk1 {w w2 : World} {cs : Array Value} {at_ r1 r2 r3 r5 : Int} {r4 : Bool} (h1 : Blk w2 w.heap.size 37 cs) (h2 : Blk w2 (w.heap.size + 1) 3 #[.int .i64 at_]) (h3 : w.heap.size + 2 ≤ w2.heap.size) (h4 : Below w.heap.size w w2) :
    JR w cs at_ r1 r2 r3 r5 r4 (w2.alloc (.cells #[.int .i64 r1, .int .i64 r2, .int .u8 r3, .bool r4, .int .i64 r5] 96)) w2.heap.size :=
  ⟨h1.alloc _, h2.alloc _, Blk.new _ _ _, h3, h4.alloc (by omega) _⟩
theorem JR.mk2 {w w2 : World} {cs : Array Value} {at_ r1 r2 r3 r5 : Int} {r4 : Bool} {b : Nat} (h1 : Blk w2 w.heap.size 37 cs) (h2 : Blk w2 (w.heap.size + 1) 3 #[.int .i64 at_]) (h3 : w.heap.size + 2 ≤ b) (h4 : Below w.heap.size w w2)
    (h5 : Blk w2 b 96 #[.int .i64 0, .int .i64 0, .int .u8 0, .bool false, .int .i64 0]) :
    JR w cs at_ r1 r2 r3 r5 r4 (((((w2.setCell ⟨b, 0, none⟩ (.int .i64 r1)).setCell ⟨b, 1, none⟩ (.int .i64 r2)).setCell ⟨b, 2, none⟩ (.int .u8 r3)).setCell ⟨b, 3, none⟩ (.bool r4)).setCell ⟨b, 4, none⟩ (.int .i64 r5)) b := by
  have n1 : w.heap.size ≠ b := by omega
  have n2 : w.heap.size + 1 ≠ b := by omega
  refine ⟨((((h1.other n1 _).other n1 _).other n1 _).other n1 _).other n1 _, ((((h2.other n2 _).other n2 _).other n2 _).other n2 _).other n2 _, ((((h5.set 0 _).set 1 _).set 2 _).set 3 _).set 4 _, h3, ?_⟩
  exact ((((h4.setCell (by simp; omega) _).setCell (by simp; omega) _).setCell (by simp; omega) _).setCell (by simp; omega) _).setCell (by simp; omega) _

set_option maxHeartbeats 1000000 in
theorem jmay_b (d : Nd) (at_ : Int) (v : Value) (B : Nat) (w : World) (hv : NdAt w B v d) (hB : B ≤ w.heap.size) (h1 : nameB d.uid = true) (h2 : decide (d.kind < 1) = false) (h3 : decide (9 < d.kind) = false)
    (hc : (nodeB d at_ = false ∧ ((decide ((d.ins.length : Int) < rLeast d.kind) = true) ∨ (decide ((d.ins.length : Int) < rLeast d.kind) = false ∧ decide (rMost d.kind < (d.ins.length : Int)) = true) ∨ (decide ((d.ins.length : Int) < rLeast d.kind) = false ∧ decide (rMost d.kind < (d.ins.length : Int)) = false ∧ twiceB (fun x y => x == y) d.ins = true) ∨ (decide ((d.ins.length : Int) < rLeast d.kind) = false ∧ decide (rMost d.kind < (d.ins.length : Int)) = false ∧ twiceB (fun x y => x == y) d.ins = false ∧ d.ins.any (outB at_) = true) ∨ (decide ((d.ins.length : Int) < rLeast d.kind) = false ∧ decide (rMost d.kind < (d.ins.length : Int)) = false ∧ twiceB (fun x y => x == y) d.ins = false ∧ d.ins.any (outB at_) = false ∧ decide (d.n < rM d.kind) = true) ∨ (decide ((d.ins.length : Int) < rLeast d.kind) = false ∧ decide (rMost d.kind < (d.ins.length : Int)) = false ∧ twiceB (fun x y => x == y) d.ins = false ∧ d.ins.any (outB at_) = false ∧ decide (d.n < rM d.kind) = false ∧ decide (rN d.kind < d.n) = true))) ∨ (decide ((d.ins.length : Int) < rLeast d.kind) = false ∧ decide (rMost d.kind < (d.ins.length : Int)) = false ∧ twiceB (fun x y => x == y) d.ins = false ∧ d.ins.any (outB at_) = false ∧ decide (d.n < rM d.kind) = false ∧ decide (rN d.kind < d.n) = false ∧ (rTy d.kind == 0) = true ∧ nodeB d at_ = d.x.sameB (.mk 0 0 [])) ∨ (decide ((d.ins.length : Int) < rLeast d.kind) = false ∧ decide (rMost d.kind < (d.ins.length : Int)) = false ∧ twiceB (fun x y => x == y) d.ins = false ∧ d.ins.any (outB at_) = false ∧ decide (d.n < rM d.kind) = false ∧ decide (rN d.kind < d.n) = false ∧ (rTy d.kind == 0) = false ∧ nodeB d at_ = d.x.isB (rAcc d.kind) (rTy d.kind)))
    : Calls Try.prog 33 #[v, .int .i64 at_] w fun e w' => e = .returned (.bool (nodeB d at_)) ∧ Below w.heap.size w w' := by
  obtain ⟨iv, sv, rfl, ⟨hi, hs⟩, hu⟩ := hv
  obtain ⟨_, ai, capi, rfl, hc1, hm1, _⟩ := id hi
  obtain ⟨ax, capx, rfl, hc2, hm2⟩ := hs.slice
  rename_i hx1
  have HI := Lib.hid hi
  have HS := Lib.hid hs
  have HX : Hid (∀ X, Below w.heap.size w X → ExAt X X.heap.size (.agg #[.int .u8 d.x.op, .int .i64 d.x.n, .slice ax d.x.args.length capx]) d.x) := fun X hX => ⟨_, rfl, ((hs.mono hB).keep hX).mono hX.size⟩
  clear hi hs hx1 hc2 hm2 HS
  generalize nodeB d at_ = nb at *
  have hk1 : 1 ≤ d.kind := by simpa using h2
  have hk2 : d.kind ≤ 9 := by simpa using h3
  have hix := fun w => index_rules d.kind hk1 hk2 w
  have HRU := Lib.hid jrules_c
  generalize rulesV = rv at *
  generalize rLeast d.kind = r1 at *
  generalize rMost d.kind = r2 at *
  generalize hr3 : rTy d.kind = r3 at *
  generalize hr4 : rAcc d.kind = r4 at *
  have hr5 : (rN d.kind = 0 ∧ rM d.kind = 0) ∨ (rN d.kind = 16 ∧ rM d.kind = 1) := by unfold rN rM; split <;> simp
  generalize rN d.kind = r5 at *
  generalize rM d.kind = r8 at *
  generalize hu' : d.uid = u at *
  generalize hkd : d.kind = kd at *
  generalize hdn : d.n = dn at *
  generalize hins : d.ins = ins at *
  generalize hlen : ins.length = len at *
  generalize hxo : d.x.op = xo at *
  generalize hxn : d.x.n = xn at *
  generalize hxl : d.x.args.length = xl at *
  have HL := Lib.hid hlen
  have hlm : len ≤ 9223372036854775807 := by unfold maxLen at hm1; omega
  clear hr3 hr4 hu' hkd hdn hins hlen hxo hxn hxl hm1 hc1
  have HU := Lib.hid hu
  clear hu
  have hb2 := ((Below.refl w.heap.size w).alloc (Nat.le_refl _) (.cells #[.string u, .int .u8 kd, .slice ai len capi, .int .u8 xo, .int .i64 xn, .slice ax xl capx, .int .i64 dn] 37)).alloc (by simp) (.cells #[.int .i64 at_] 3)
  have hN1 := (Blk.new w #[.string u, .int .u8 kd, .slice ai len capi, .int .u8 xo, .int .i64 xn, .slice ax xl capx, .int .i64 dn] 37).alloc (.cells #[.int .i64 at_] 3)
  have hN2 := Blk.new_at (w.alloc (.cells #[.string u, .int .u8 kd, .slice ai len capi, .int .u8 xo, .int .i64 xn, .slice ax xl capx, .int .i64 dn] 37)) #[.int .i64 at_] 3 (k := w.heap.size + 1) (by simp)
  have HSZ : Hid (((w.alloc (.cells #[.string u, .int .u8 kd, .slice ai len capi, .int .u8 xo, .int .i64 xn, .slice ax xl capx, .int .i64 dn] 37)).alloc (.cells #[.int .i64 at_] 3)).heap.size = w.heap.size + 2) := by simp [Hid]
  have H1 := Lib.hid h1
  clear h1
  go_enter Try.func33, Try.ntmps33
  go_wp2_with fail
  generalize World.alloc (World.alloc w _) _ = W at *
  have n0 := hN1.cell 0
  have n1 := hN1.cell 1
  go_upto_region 3 with (go_at_call 14; refine (Name_c u _ HU.out).mono ?_; rintro e w1 ⟨rfl, pos, rfl⟩; rw [H1.out]; have hN3 : Blk (W.iter u pos) _ _ _ := hN1.alloc _; have m1 := hN3.cell 1)
  have hN4 : Blk (W.iter u pos) _ _ _ := hN2.alloc _
  have hb3 : Below w.heap.size w (W.iter u pos) := hb2.alloc (by have := HSZ.out; omega) _
  have hsz3 : w.heap.size + 2 ≤ (W.iter u pos).heap.size := by have := HSZ.out; simp [World.iter]; omega
  generalize World.iter W u pos = W1 at *
  have hlt3 := hN3.lt
  clear n0 n1 hN1 hN2 hb2 HSZ
  go_cut [5] (fun p wx => ∃ bR : Nat, p = .pointer (some ⟨bR, 0, none⟩) ∧ JR w #[.string u, .int .u8 kd, .slice ai len capi, .int .u8 xo, .int .i64 xn, .slice ax xl capx, .int .i64 dn] at_ r1 r2 r3 r5 r4 wx bR)
  case first =>
    go_region_with (go_at_call 72; refine (HRU.out _).mono ?_; rintro e w2 ⟨rfl, hbr⟩; have hz2 := hbr.size; first
      | (have hN5 := hN3.drew.below hbr hN3.lt; have hN6 := hN4.drew.below hbr hN4.lt; have k1 := hN5.cell 1; have hlt5 := hN5.lt; have hb5 := hb3.drew.trans (hbr.mono (by simp; omega)))
      | (have hN5 := (hN3.drew.alloc _).below hbr (by simp; omega); have hN6 := (hN4.drew.alloc _).below hbr (by simp; omega); have k1 := hN5.cell 1; have hA5 : Blk w2 W1.heap.size 96 _ := (Blk.new W1.drew _ _).below hbr (by simp); have q0 := hA5.free 0; have q1 := hA5.free 1; have q2 := hA5.free 2; have q3 := hA5.free 3; have q4 := hA5.free 4; have z0 := hA5.cell 0; have z1 := hA5.cell 1; have z2 := hA5.cell 2; have z3 := hA5.cell 3; have z4 := hA5.cell 4; have hb5 := (hb3.drew.alloc (by simp; omega) _).trans (hbr.mono (by simp; omega))))
    all_goals
      go_wp2_with fail
      go_meet
      refine ⟨_, rfl, ?_⟩
      first
      | (with_reducible refine JR.mk1 hN5 hN6 ?_ hb5)
      | (with_reducible refine JR.mk2 hN5 hN6 ?_ hb5 hA5)
      all_goals (first | omega | (simp at hz2; omega))
  case rest =>
    obtain ⟨bR, rfl, hJ⟩ := hcut
    have a0 := hJ.node.cell 0
    have a1 := hJ.node.cell 1
    have a2 := hJ.node.cell 2
    have a3 := hJ.node.cell 3
    have a4 := hJ.node.cell 4
    have a5 := hJ.node.cell 5
    have a6 := hJ.node.cell 6
    have b0 := hJ.place.cell 0
    have e0 := hJ.rule.cell 0
    have e1 := hJ.rule.cell 1
    have e2 := hJ.rule.cell 2
    have e3 := hJ.rule.cell 3
    have e4 := hJ.rule.cell 4
    have B0 := Lib.hid hJ.place
    have HB := Lib.hid hJ.below
    clear hJ
    rcases hr5 with ⟨rfl, rfl⟩ | ⟨rfl, rfl⟩
    all_goals
     rcases hc with ⟨rfl, hc⟩ | ⟨h4, h5, h6, h7, h8, h9, h10, hr⟩ | ⟨h4, h5, h6, h7, h8, h9, h10, hr⟩
     · rcases hc with h4 | ⟨h4, h5⟩ | ⟨h4, h5, h6⟩ | ⟨h4, h5, h6, h7⟩ | ⟨h4, h5, h6, h7, h8⟩ | ⟨h4, h5, h6, h7, h8, h9⟩
       all_goals
        go_wp2_with (first
          | (go_at_call 73; refine (twiceInt_c ins len _ B _ (HI.out.below (HB.out.mono hB)) HL.out).mono ?_; rintro e w3 ⟨rfl, rfl⟩; rw [h6])
          | (go_at_call 74; refine (ContainsOut_c ins len _ at_ _ B _ (HI.out.below (HB.out.mono hB)) HL.out (B0.out.cell 0)).mono ?_; rintro e w3 ⟨rfl, rfl⟩; rw [h7]))
        go_ret
        exact ⟨rfl, HB.out⟩
     · have HR := Lib.hid hr
       clear hr
       go_wp2_with (first
          | (go_at_call 73; refine (twiceInt_c ins len _ B _ (HI.out.below (HB.out.mono hB)) HL.out).mono ?_; rintro e w3 ⟨rfl, rfl⟩; rw [h6])
          | (go_at_call 74; refine (ContainsOut_c ins len _ at_ _ B _ (HI.out.below (HB.out.mono hB)) HL.out (B0.out.cell 0)).mono ?_; rintro e w3 ⟨rfl, rfl⟩; rw [h7])
          | (go_at_call 42; refine (Same_c d.x (.mk 0 0 []) _ _ _ _ (HX.out _ HB.out) ⟨_, rfl, .nil none 0 (Nat.zero_le _)⟩ (Nat.le_refl _)).mono ?_; rintro e w3 ⟨rfl, hb9⟩))
       go_ret
       exact ⟨ret_bool HR.out.symm, HB.out.trans (hb9.mono HB.out.size)⟩
     · have HR := Lib.hid hr
       clear hr
       go_wp2_with (first
          | (go_at_call 73; refine (twiceInt_c ins len _ B _ (HI.out.below (HB.out.mono hB)) HL.out).mono ?_; rintro e w3 ⟨rfl, rfl⟩; rw [h6])
          | (go_at_call 74; refine (ContainsOut_c ins len _ at_ _ B _ (HI.out.below (HB.out.mono hB)) HL.out (B0.out.cell 0)).mono ?_; rintro e w3 ⟨rfl, rfl⟩; rw [h7])
          | (go_at_call 76; refine (Is_c d.x r4 r3 _ _ _ (HX.out _ HB.out) (Nat.le_refl _)).mono ?_; rintro e w3 ⟨rfl, hb9⟩))
       go_ret
       exact ⟨ret_bool HR.out.symm, HB.out.trans (hb9.mono HB.out.size)⟩

/-- job.may. -/
theorem jobmay_c (d : Nd) (at_ : Int) (v : Value) (B : Nat) (w : World) (hv : NdAt w B v d) (hB : B ≤ w.heap.size) :
    Calls Try.prog 33 #[v, .int .i64 at_] w fun e w' => e = .returned (.bool (nodeB d at_)) ∧ Below w.heap.size w w' := by
  rcases nodeB_cases d at_ with ⟨h1, hr⟩ | ⟨h1, h2, hr⟩ | ⟨h1, h2, h3, hr⟩ | ⟨h1, h2, h3, h4, hr⟩ | ⟨h1, h2, h3, h4, h5, hr⟩ | ⟨h1, h2, h3, h4, h5, h6, hr⟩ | ⟨h1, h2, h3, h4, h5, h6, h7, hr⟩ | ⟨h1, h2, h3, h4, h5, h6, h7, h8, hr⟩ | ⟨h1, h2, h3, h4, h5, h6, h7, h8, h9, hr⟩ | ⟨h1, h2, h3, hr⟩ | ⟨h1, h2, h3, hr⟩
  · exact jmay_a d at_ v B w hv hB (.inl h1) hr
  · exact jmay_a d at_ v B w hv hB (.inr (.inl ⟨h1, h2⟩)) hr
  · exact jmay_a d at_ v B w hv hB (.inr (.inr ⟨h1, h2, h3⟩)) hr
  · exact jmay_b d at_ v B w hv hB h1 h2 h3 (.inl ⟨hr, .inl h4⟩)
  · exact jmay_b d at_ v B w hv hB h1 h2 h3 (.inl ⟨hr, .inr (.inl ⟨h4, h5⟩)⟩)
  · exact jmay_b d at_ v B w hv hB h1 h2 h3 (.inl ⟨hr, .inr (.inr (.inl ⟨h4, h5, h6⟩))⟩)
  · exact jmay_b d at_ v B w hv hB h1 h2 h3 (.inl ⟨hr, .inr (.inr (.inr (.inl ⟨h4, h5, h6, h7⟩)))⟩)
  · exact jmay_b d at_ v B w hv hB h1 h2 h3 (.inl ⟨hr, .inr (.inr (.inr (.inr (.inl ⟨h4, h5, h6, h7, h8⟩))))⟩)
  · exact jmay_b d at_ v B w hv hB h1 h2 h3 (.inl ⟨hr, .inr (.inr (.inr (.inr (.inr ⟨h4, h5, h6, h7, h8, h9⟩))))⟩)
  · exact jmay_b d at_ v B w hv hB h1 h2 h3 (.inr (.inl hr))
  · exact jmay_b d at_ v B w hv hB h1 h2 h3 (.inr (.inr hr))

end Go.Proofs.Ytfieoehchghiiaa

namespace Go.Proofs.Ytfieoehchghiiaa
open Go.RowKit
set_option linter.unusedVariables false

mutual
/-- How many are left behind counting an expression. -/
def Ex.count : Ex → Nat → Nat
  | .mk _ _ l, left => if 0 < left then Exs.count l (left - 1) else left
def Exs.count : List Ex → Nat → Nat
  | [], left => left
  | x :: l, left => Exs.count l (x.count left)
end
theorem Ex.count_eq (x : Ex) (left : Nat) : x.count left = if 0 < left then Exs.count x.args (left - 1) else left := by obtain ⟨o, n, l⟩ := x; rfl
mutual
theorem Ex.count_le : ∀ (x : Ex) (left : Nat), x.count left ≤ left
  | .mk o n l, left => by
    simp only [Ex.count]
    have := Exs.count_le l (left - 1)
    split <;> omega
theorem Exs.count_le : ∀ (l : List Ex) (left : Nat), Exs.count l left ≤ left
  | [], left => by simp [Exs.count]
  | x :: l, left => by
    simp only [Exs.count]
    have := Exs.count_le l (x.count left)
    have := Ex.count_le x left
    omega
end

/-- The blocks of the counting closure. -/
structure Cn (w : World) (bL bC left : Nat) : Prop where
  L : Blk w bL 3 #[.int .i64 left]
  C : Blk w bC 94 #[.func (.func 71) #[] #[.pointer (some ⟨bL, 0, none⟩), .pointer (some ⟨bC, 0, none⟩)]]
theorem Cn.alloc {w : World} {bL bC left : Nat} (h : Cn w bL bC left) (o : Obj) : Cn (w.alloc o) bL bC left := ⟨h.L.alloc o, h.C.alloc o⟩
theorem Cn.set {w : World} {bL bC left : Nat} (h : Cn w bL bC left) (hne : bL ≠ bC) (k : Nat) : Cn (w.setCell ⟨bL, 0, none⟩ (.int .i64 k)) bL bC k := ⟨h.L.set 0 _, h.C.other (p := ⟨bL, 0, none⟩) (Ne.symm hne) _⟩

def CountC (h : Nat) : Prop := ∀ (x : Ex) (v : Value) (B : Nat) (w : World) (bL bC left : Nat), x.ht ≤ h → ExAt w B v x → B ≤ bL → bL ≠ bC → left ≤ 2000 → Cn w bL bC left →
  Calls Try.prog 71 #[v, .pointer (some ⟨bL, 0, none⟩), .pointer (some ⟨bC, 0, none⟩)] w fun e w' => e = .returned (.tuple #[]) ∧ Cn w' bL bC (x.count left) ∧ Fr (fun k => k = bL) w w'

set_option maxHeartbeats 1000000 in
theorem count_step (h : Nat) (IH : Hid (∀ x : Ex, x.ht < h → ∀ (v : Value) (B : Nat) (w : World) (bL bC left : Nat), ExAt w B v x → B ≤ bL → bL ≠ bC → left ≤ 2000 → Cn w bL bC left →
      Calls Try.prog 71 #[v, .pointer (some ⟨bL, 0, none⟩), .pointer (some ⟨bC, 0, none⟩)] w fun e w' => e = .returned (.tuple #[]) ∧ Cn w' bL bC (x.count left) ∧ Fr (fun k => k = bL) w w')) : CountC h := by
  intro x v B w bL bC left hh hv hB hne hleft hC
  have HLT : Hid (∀ a ∈ x.args, a.ht < h) := fun a ha => by have := Ex.ht_args x a ha; omega
  have HE := Lib.hid (Ex.count_eq x left)
  obtain ⟨sv, rfl, hs⟩ := hv
  obtain ⟨a, cap, rfl, hcap, hmx⟩ := hs.slice
  have HS := Lib.hid hs
  have hlm : x.args.length ≤ 9223372036854775807 := by unfold maxLen at hmx; omega
  generalize x.op = o at *
  generalize x.n = n at *
  generalize x.args = l at *
  clear hs hh
  have HNE := Lib.hid hne
  have hbl := hC.L.lt
  have hbc := hC.C.lt
  by_cases h0 : 0 < left
  · have HE2 : Hid (x.count left = Exs.count l (left - 1)) := by show _ = _; rw [HE.out, if_pos h0]
    have hC2 := (hC.set hne (left - 1)).alloc (.cells #[.int .u8 o, .int .i64 n, .slice a l.length cap] 35)
    have hF2 : Fr (fun k => k = bL) w ((w.setCell ⟨bL, 0, none⟩ (.int .i64 ((left - 1 : Nat) : Int))).alloc (.cells #[.int .u8 o, .int .i64 n, .slice a l.length cap] 35)) := (Fr.setCell (S := fun k => k = bL) (Fr.refl _ w) (p := ⟨bL, 0, none⟩) (.inl rfl) _).alloc _
    rw [show ((left - 1 : Nat) : Int) = (left : Int) - 1 by omega] at hC2 hF2
    have c0 := hC.L.cell 0
    have f0 := hC.L.free 0
    have h0i : (0 : Int) < (left : Int) := by omega
    clear HE hne
    go_enter Try.func71, Try.ntmps71
    go_wp2_with fail
    generalize World.alloc (World.setCell w _ _) _ = W2 at *
    clear c0 f0
    go_loopw [13] (fun q wr => ∃ (j lf : Nat), q = .int .i64 j ∧ j ≤ l.length ∧ lf ≤ 2000 ∧ Fr (fun k => k = bL) w wr ∧ Cn wr bL bC lf ∧ Exs.count (l.drop j) lf = Exs.count l (left - 1)) (fun q _ => l.length - (intOf q).toNat)
    case atStart => exact ⟨0, left - 1, rfl, Nat.zero_le _, by omega, hF2, hC2, rfl⟩
    case round =>
      obtain ⟨j, lf, rfl, hj, hlf, hFr, hCr, hr⟩ := hrel
      by_cases hlt : j < l.length
      · have hBr : Below B w wr := hFr.below (by omega) (fun k hk e => by omega)
        obtain ⟨b, off, cp, sv, e1, hb, c0, c1, c2, hsub⟩ := (HS.out.keep hBr).at_ j hlt
        simp only [Value.slice.injEq, true_and] at e1
        obtain ⟨rfl, rfl⟩ := e1
        obtain ⟨a2, cap2, rfl, _, _⟩ := hsub.slice
        rw [List.drop_eq_getElem_cons hlt] at hr
        simp only [Exs.count] at hr
        have hht := HLT.out _ (List.getElem_mem hlt)
        have hx : ∀ X, Below B wr X → ExAt X B (.agg #[.int .u8 (l[j]'hlt).op, .int .i64 (l[j]'hlt).n, .slice a2 (l[j]'hlt).args.length cap2]) (l[j]'hlt) := fun X hX => ⟨_, rfl, hsub.keep hX⟩
        have hcl := Ex.count_le (l[j]'hlt) lf
        generalize l[j] = y at *
        have HX := Lib.hid hx
        have HR := Lib.hid hr
        clear hr hx hsub
        have hbw : B ≤ wr.heap.size := by have := hFr.size; omega
        have hK := hCr.alloc (.cells #[.int .u8 y.op, .int .i64 y.n, .slice a2 y.args.length cap2] 35)
        have k0 := hK.C.cell 0
        go_wp2_with (go_at_call 71; refine (IH.out y hht _ B _ bL bC lf (HX.out _ ((Below.refl _ _).alloc hbw _)) hB HNE.out hlf hK).mono ?_; rintro e w3 ⟨rfl, hc3, hf3⟩)
        go_roundw
        case rel => exact ⟨j + 1, y.count lf, by go_num, by omega, by omega, (hFr.alloc _).trans hf3, hc3, HR.out⟩
        case measure => simp [intOf]; omega
      · rw [List.drop_of_length_le (by omega)] at hr
        simp only [Exs.count] at hr
        subst hr
        go_wp2
        go_end0
        exact ⟨rfl, by rw [HE2.out]; exact hCr, hFr⟩
  · have HE2 : Hid (x.count left = left) := by show _ = _; rw [HE.out, if_neg h0]
    have hC1 := hC.alloc (.cells #[.int .u8 o, .int .i64 n, .slice a l.length cap] 35)
    have c0 := hC1.L.cell 0
    have h0i : ¬ (0 : Int) < (left : Int) := by omega
    clear HE hne
    go_enter Try.func71, Try.ntmps71
    go_wp2
    go_end0
    exact ⟨rfl, by rw [HE2.out]; exact hC1, (Fr.refl _ w).alloc _⟩

theorem count_all (h : Nat) : CountC h := by
  induction h using Nat.strongRecOn with
  | ind h ih => exact count_step h (fun x hx v B w bL bC left hv hB hne hl hC => ih x.ht hx x v B w bL bC left (Nat.le_refl _) hv hB hne hl hC)

def countGo : List Nd → Nat → Nat
  | [], left => left
  | d :: l, left => countGo l (d.x.count left)
theorem countGo_le : ∀ (l : List Nd) (left : Nat), countGo l left ≤ left
  | [], _ => Nat.le_refl _
  | d :: l, left => Nat.le_trans (countGo_le l _) (Ex.count_le _ _)
def Jb.parts (j : Jb) : Nat := 1001 - countGo j.nodes 1001

set_option maxHeartbeats 1000000 in
theorem parts_c (jb : Jb) (v : Value) (B : Nat) (w : World) (hv : JbAt w B v jb) (hB : B ≤ w.heap.size) :
    Calls Try.prog 32 #[v] w fun e w' => e = .returned (.int .i64 jb.parts) ∧ Below w.heap.size w w' := by
  have hmf : ∀ (fn : Fn) (first cap : Array Value) (w : World), (Instr.makeFunc fn first cap).run Try.prog w = .ok (.func fn first cap) w := fun _ _ _ _ => rfl
  have HE : Hid (jb.parts = 1001 - countGo jb.nodes 1001) := rfl
  have hle := countGo_le jb.nodes 1001
  obtain ⟨sv, rfl, hs⟩ := hv
  obtain ⟨a, cap, rfl, hcap, hmx⟩ := hs.slice
  have HS := Lib.hid hs
  have hlm : jb.nodes.length ≤ 9223372036854775807 := by unfold maxLen at hmx; omega
  generalize jb.nodes = l at *
  generalize jb.par = par at *
  generalize jb.parts = pp at *
  clear hs
  have hJ := Blk.new w #[.int .i64 par, .slice a l.length cap] 24
  have hW := ((((Below.refl w.heap.size w).alloc (Nat.le_refl _) (.cells #[.int .i64 par, .slice a l.length cap] 24)).alloc (by simp) (.cells #[.int .i64 1001] 3)).alloc (by simp; omega) (.cells #[.func (.func 71) #[] #[.pointer (some ⟨w.heap.size + 1, 0, none⟩), .pointer (some ⟨w.heap.size + 1 + 1, 0, none⟩)]] 94))
  have hC : Cn (((w.alloc (.cells #[.int .i64 par, .slice a l.length cap] 24)).alloc (.cells #[.int .i64 1001] 3)).alloc (.cells #[.func (.func 71) #[] #[.pointer (some ⟨w.heap.size + 1, 0, none⟩), .pointer (some ⟨w.heap.size + 1 + 1, 0, none⟩)]] 94)) (w.heap.size + 1) (w.heap.size + 1 + 1) 1001 :=
    ⟨(Blk.new_at _ _ _ (by simp)).alloc _, Blk.new_at _ _ _ (by simp)⟩
  clear hJ
  go_enter Try.func32, Try.ntmps32
  go_wp2_with fail
  generalize World.alloc (World.alloc (World.alloc w _) _) _ = W at *
  go_loopw [11] (fun q wr => ∃ (j lf : Nat), q = .int .i64 j ∧ j ≤ l.length ∧ lf ≤ 1001 ∧ Below w.heap.size w wr ∧ Cn wr (w.heap.size + 1) (w.heap.size + 1 + 1) lf ∧ countGo (l.drop j) lf = countGo l 1001) (fun q _ => l.length - (intOf q).toNat)
  case atStart => exact ⟨0, 1001, rfl, Nat.zero_le _, by omega, hW, hC, rfl⟩
  case round =>
    obtain ⟨j, lf, rfl, hj, hlf, hBr, hCr, hr⟩ := hrel
    by_cases hlt : j < l.length
    · obtain ⟨b, off, cp, e1, hb, hu, iv, sv, c0, c1, c2, c3, c4, c5, c6, hin⟩ := ((HS.out.mono hB).keep hBr).at_ j hlt
      simp only [Value.slice.injEq, true_and] at e1
      obtain ⟨rfl, rfl⟩ := e1
      obtain ⟨a2, cap2, rfl, _, _⟩ := hin.2.slice
      obtain ⟨_, ai, capi, rfl, _, _, _⟩ := id hin.1
      rw [List.drop_eq_getElem_cons hlt] at hr
      simp only [countGo] at hr
      have hx : ∀ X, Below w.heap.size wr X → ExAt X w.heap.size (.agg #[.int .u8 (l[j]'hlt).x.op, .int .i64 (l[j]'hlt).x.n, .slice a2 (l[j]'hlt).x.args.length cap2]) (l[j]'hlt).x := fun X hX => ⟨_, rfl, hin.2.keep hX⟩
      have hcl := Ex.count_le (l[j]'hlt).x lf
      generalize l[j] = y at *
      have HX := Lib.hid hx
      have HR := Lib.hid hr
      clear hr hx hin
      have hbw : w.heap.size ≤ wr.heap.size := hBr.size
      have hK := hCr.alloc (.cells #[.string y.uid, .int .u8 y.kind, .slice ai y.ins.length capi, .int .u8 y.x.op, .int .i64 y.x.n, .slice a2 y.x.args.length cap2, .int .i64 y.n] 37)
      have k0 := hK.C.cell 0
      go_wp2_with (go_at_call 71; refine (count_all _ y.x _ w.heap.size _ (w.heap.size + 1) (w.heap.size + 1 + 1) lf (Nat.le_refl _) (HX.out _ ((Below.refl _ _).alloc hbw _)) (by omega) (by omega) (by omega) hK).mono ?_; rintro e w3 ⟨rfl, hc3, hf3⟩)
      go_roundw
      case rel => exact ⟨j + 1, y.x.count lf, by go_num, by omega, by omega, (hBr.alloc hbw _).trans (hf3.below (by simp; omega) (fun k hk e => by omega)), hc3, HR.out⟩
      case measure => simp [intOf]; omega
    · rw [List.drop_of_length_le (by omega)] at hr
      simp only [countGo] at hr
      subst hr
      have k0 := hCr.L.cell 0
      go_wp2
      go_ret
      exact ⟨ret_int (by rw [HE.out]; omega), hBr⟩

end Go.Proofs.Ytfieoehchghiiaa

namespace Go.Proofs.Ytfieoehchghiiaa
open Go.RowKit
set_option linter.unusedVariables false

theorem info_intJ : (Try.prog.info? 3).map (fun i => (i.zero, i.size, i.bytes)) = some (some (.int .i64 0), 1, 8) := by kernel_rfl
theorem cell_one_newJ (w : World) (a : Value) (t : TypeId) : ∀ j u, [a][j]? = some u → (w.alloc (.cells #[a] t)).cell? ((⟨w.heap.size, 0, none⟩ : Addr).add j) = some u := by
  intro j u hj
  have hj4 : j < 1 := (List.getElem?_eq_some_iff.1 hj).1
  rw [Addr.add_lit, Nat.zero_add, (Blk.new w #[a] t).cell j]
  simpa using hj

def readersGo (at_ : Int) : List Nd → Nat → List Int
  | [], _ => []
  | d :: l, k => bif d.ins.any (fun y => at_ == y) then (k : Int) :: readersGo at_ l (k + 1) else readersGo at_ l (k + 1)
def Jb.readers (j : Jb) (at_ : Int) : List Int := readersGo at_ j.nodes 0

structure RdRel (at_ : Int) (l : List Nd) (w : World) (s q : Value) (wr : World) : Prop where
  ex : ∃ (k : Nat) (xs : List Int), q = .int .i64 k ∧ k ≤ l.length ∧ Below w.heap.size w wr ∧ wr.ownsRow w.heap.size 3 1 s xs.length (xs.map (Value.int .i64)) ∧ xs.length ≤ k ∧ xs ++ readersGo at_ (l.drop k) k = readersGo at_ l 0

set_option maxHeartbeats 1000000 in
theorem readers_c (jb : Jb) (at_ : Int) (v : Value) (B : Nat) (w : World) (hv : JbAt w B v jb) (hB : B ≤ w.heap.size) (hlen : jb.nodes.length ≤ 1000) :
    Calls Try.prog 35 #[v, .int .i64 at_] w fun e w' => ∃ v', e = .returned v' ∧ Sl w' w'.heap.size 1 v' (jb.readers at_).length ((jb.readers at_).map (Value.int .i64)) ∧ Below w.heap.size w w' := by
  obtain ⟨i0, hi, hz0, hz1, hz2⟩ := info_parts info_intJ
  have HE : Hid (jb.readers at_ = readersGo at_ jb.nodes 0) := rfl
  obtain ⟨sv, rfl, hs⟩ := hv
  obtain ⟨a, cap, rfl, hcap, hmx⟩ := hs.slice
  have HS := Lib.hid hs
  generalize jb.nodes = l at *
  generalize jb.par = par at *
  generalize jb.readers at_ = rr at *
  clear hs
  have hW := (Below.refl w.heap.size w).alloc (Nat.le_refl _) (.cells #[.int .i64 par, .slice a l.length cap] 24)
  go_enter Try.func35, Try.ntmps35
  go_wp2_with fail
  generalize World.alloc w _ = W at *
  go_loopw [5, 11] (fun s q wr => RdRel at_ l w s q wr) (fun _ q _ => l.length - (intOf q).toNat)
  case atStart => exact ⟨⟨0, [], rfl, Nat.zero_le _, hW, World.ownsRow_nil _ _ _ _, Nat.le_refl _, rfl⟩⟩
  case round =>
    obtain ⟨k, xs, rfl, hk, hBr, hown, hxk, hr⟩ := hrel.ex
    clear hrel
    by_cases hlt : k < l.length
    · obtain ⟨b, off, cp, e1, hb, hu, iv, sv, c0, c1, c2, c3, c4, c5, c6, hin⟩ := ((HS.out.mono hB).keep hBr).at_ k hlt
      simp only [Value.slice.injEq, true_and] at e1
      obtain ⟨rfl, rfl⟩ := e1
      obtain ⟨a2, cap2, rfl, _, _⟩ := hin.2.slice
      obtain ⟨_, ai, capi, rfl, _, _, _⟩ := id hin.1
      rw [List.drop_eq_getElem_cons hlt] at hr
      simp only [readersGo] at hr
      have hsl := fun X (hX : Below w.heap.size wr X) => hin.1.below hX
      generalize l[k] = y at *
      have HSL := Lib.hid hsl
      have HR := Lib.hid hr
      rename_i hx1 hx2 hx3
      clear hr hin hsl hx1 hx2 hx3
      have hbw : w.heap.size ≤ wr.heap.size := hBr.size
      cases hc : y.ins.any (fun z => at_ == z)
      all_goals
        have HC := Lib.hid hc
        clear hc
      · go_wp2_with (go_at_call 78; refine (ContainsInt_c y.ins _ _ at_ _ _ (HSL.out _ ((Below.refl _ _).alloc hbw _)) rfl).mono ?_; rintro e w3 ⟨rfl, rfl⟩; rw [HC.out])
        go_roundw
        case rel => exact ⟨⟨k + 1, xs, by go_num, by omega, hBr.alloc hbw _, hown.alloc _, by omega, by rw [← HR.out, HC.out]; rfl⟩⟩
        case measure => simp [intOf]; omega
      · have hBn := hBr.alloc hbw (.cells #[.string y.uid, .int .u8 y.kind, .slice ai y.ins.length capi, .int .u8 y.x.op, .int .i64 y.x.n, .slice a2 y.x.args.length cap2, .int .i64 y.n] 37)
        have hon := hown.alloc (.cells #[.string y.uid, .int .u8 y.kind, .slice ai y.ins.length capi, .int .u8 y.x.op, .int .i64 y.x.n, .slice a2 y.x.args.length cap2, .int .i64 y.n] 37)
        go_upto_region 6 with (go_at_call 78; refine (ContainsInt_c y.ins _ _ at_ _ _ (HSL.out _ ((Below.refl _ _).alloc hbw _)) rfl).mono ?_; rintro e w3 ⟨rfl, rfl⟩; rw [HC.out])
        generalize World.alloc wr _ = W2 at *
        have hbw2 := hBn.size
        go_wp2_with (at_builtin; refine wpList_append_own _ rfl (.tmp 20) (.tmp 22) 32 rfl w.heap.size 3 i0 (.int .i64 0) 1 8 Try.underlying32 hi hz0 hz1 hz2 rfl (by decide) u5 xs.length (xs.map (Value.int .i64)) rfl (hon.alloc _) ⟨W2.heap.size, 0, none⟩ 1 1 [.int .i64 (k : Int)] rfl rfl (cell_one_newJ _ _ _) (by simp [Value.oneCell']) (by unfold maxLen; omega) (by omega) (by simp; omega) ?_; intro v1' w3 hown3 hgrow3 _)
        have hb3 : ∀ k, u5.ownBlock = some k → w.heap.size ≤ k := fun k hk => (hon.lt k hk).1
        have hB3 : Below w.heap.size w w3 := (hBn.alloc hbw2 _).grown hgrow3 (by simp; omega) hb3
        go_roundw
        case rel =>
          refine ⟨⟨k + 1, xs ++ [(k : Int)], by go_num, by omega, hB3, ?_, by simp; omega, by rw [← HR.out, HC.out]; simp⟩⟩
          simpa using hown3
        case measure => simp [intOf]; omega
    · rw [List.drop_of_length_le (by omega)] at hr
      simp only [readersGo, List.append_nil] at hr
      subst hr
      have HO := Lib.hid (Sl.of_owns hown)
      go_wp2
      go_ret
      refine ⟨_, rfl, ?_, hBr⟩
      rw [HE.out]
      exact HO.out

set_option maxHeartbeats 1000000 in
theorem find1_c (d : Nd) (u : ByteArray) (b : Nat) (v : Value) (B : Nat) (w : World) (hv : NdAt w B v d) (hu : w.cell? ⟨b, 0, none⟩ = some (.string u)) (hb : b < w.heap.size) :
    Calls Try.prog 39 #[v, .pointer (some ⟨b, 0, none⟩)] w fun e w' => e = .returned (.bool (decide (d.uid = u))) ∧ Below w.heap.size w w' := by
  obtain ⟨iv, sv, rfl, ⟨hi, hs⟩, hu2⟩ := hv
  obtain ⟨_, ai, capi, rfl, hc1, hm1, _⟩ := id hi
  obtain ⟨ax, capx, rfl, hc2, hm2⟩ := hs.slice
  have hbi := bytes_inj d.uid u
  have HU := Lib.hid hu
  by_cases hxy : d.uid = u
  · have HXY : Hid (decide (d.uid = u) = true) := decide_eq_true hxy
    have hq : (d.uid.toList == u.toList) = true := by simpa using hbi.2 hxy
    clear hbi hxy
    go_enter Try.func39, Try.ntmps39
    go_wp2
    go_ret
    exact ⟨ret_bool HXY.out.symm, (Below.refl _ _).alloc (Nat.le_refl _) _⟩
  · have HXY : Hid (decide (d.uid = u) = false) := decide_eq_false hxy
    have hq : (d.uid.toList == u.toList) = false := by simpa using fun h => hxy (hbi.1 h)
    clear hbi hxy
    go_enter Try.func39, Try.ntmps39
    go_wp2
    go_ret
    exact ⟨ret_bool HXY.out.symm, (Below.refl _ _).alloc (Nat.le_refl _) _⟩

set_option maxHeartbeats 1000000 in
theorem IndexNode_c (l : List Nd) (n : Nat) (u : ByteArray) (bu : Nat) (v : Value) (B : Nat) (w : World) (h : NodesAt w B l v) (hB : B ≤ w.heap.size) (hn : l.length = n) (hb : w.cell? ⟨bu, 0, none⟩ = some (.string u)) (hbl : bu < w.heap.size) :
    Calls Try.prog 38 #[v, .func (.func 39) #[] #[.pointer (some ⟨bu, 0, none⟩)]] w fun e w' => e = .returned (.int .i64 (idxZ (fun d : Nd => decide (d.uid = u)) l 0)) ∧ Below w.heap.size w w' := by
  obtain ⟨a, cap, rfl, hcap, hmx⟩ := h.slice
  have HS := Lib.hid h
  have HB := Lib.hid hb
  have hlm : n ≤ 9223372036854775807 := by unfold maxLen at hmx; omega
  have HN := Lib.hid hn
  rw [hn]
  clear h hb hn hcap hmx
  go_enter Try.func38, Try.ntmps38
  go_wp2
  go_loopw [8] (fun q wr => ∃ k : Nat, q = .int .i64 k ∧ k ≤ n ∧ Below w.heap.size w wr ∧ idxZ (fun d : Nd => decide (d.uid = u)) (l.drop k) k = idxZ (fun d : Nd => decide (d.uid = u)) l 0) (fun q _ => n - (intOf q).toNat)
  case atStart => exact ⟨0, rfl, Nat.zero_le _, Below.refl _ _, rfl⟩
  case round =>
    obtain ⟨k, rfl, hk, hBr, hr⟩ := hrel
    by_cases hlt : k < n
    · obtain ⟨b, off, cp, e1, hb', hu, iv, sv, c0, c1, c2, c3, c4, c5, c6, hin⟩ := ((HS.out.mono hB).keep hBr).at_ k (by have := HN.out; omega)
      rw [HN.out] at e1
      simp only [Value.slice.injEq, true_and] at e1
      obtain ⟨rfl, rfl⟩ := e1
      obtain ⟨a2, cap2, rfl, _, _⟩ := hin.2.slice
      obtain ⟨_, ai, capi, rfl, _, _, _⟩ := id hin.1
      rw [List.drop_eq_getElem_cons (by have := HN.out; omega)] at hr
      simp only [idxZ] at hr
      generalize l[k]'_ = y at *
      have HY : Hid (NdAt wr w.heap.size (.agg #[.string y.uid, .int .u8 y.kind, .slice ai y.ins.length capi, .int .u8 y.x.op, .int .i64 y.x.n, .slice a2 y.x.args.length cap2, .int .i64 y.n]) y) := ⟨_, _, rfl, hin, hu⟩
      have HR := Lib.hid hr
      rename_i hx1 hx2 hx3
      clear hr hin hx1 hx2 hx3 hu
      have hbw : w.heap.size ≤ wr.heap.size := hBr.size
      have HBr := Lib.hid ((hBr.cell (p := ⟨bu, 0, none⟩) hbl).trans HB.out)
      cases hc : decide (y.uid = u)
      all_goals
        have HC := Lib.hid hc
        clear hc
        go_wp2_with (go_at_call 39; refine (find1_c y u bu _ _ _ HY.out HBr.out (by omega)).mono ?_; rintro e w3 ⟨rfl, hb3⟩; rw [HC.out])
      · go_roundw
        case rel => exact ⟨k + 1, by go_num, by omega, hBr.trans (hb3.mono hbw), by rw [← HR.out, HC.out]; rfl⟩
        case measure => simp [intOf]; omega
      · go_ret
        exact ⟨ret_int (by rw [← HR.out, HC.out]; rfl), hBr.trans (hb3.mono hbw)⟩
    · rw [List.drop_of_length_le (by have := HN.out; omega)] at hr
      have HR := Lib.hid hr
      clear hr
      go_wp2
      go_ret
      exact ⟨ret_int (by rw [← HR.out]; rfl), hBr⟩

def Jb.find (j : Jb) (u : ByteArray) : Int := idxZ (fun d : Nd => decide (d.uid = u)) j.nodes 0

set_option maxHeartbeats 1000000 in
theorem Find_c (jb : Jb) (u : ByteArray) (v : Value) (B : Nat) (w : World) (hv : JbAt w B v jb) (hB : B ≤ w.heap.size) :
    Calls Try.prog 15 #[v, .string u] w fun e w' => e = .returned (.int .i64 (jb.find u)) ∧ Below w.heap.size w w' := by
  have hmf : ∀ (fn : Fn) (first cap : Array Value) (w : World), (Instr.makeFunc fn first cap).run Try.prog w = .ok (.func fn first cap) w := fun _ _ _ _ => rfl
  obtain ⟨sv, rfl, hs⟩ := hv
  obtain ⟨a, cap, rfl, hcap, hmx⟩ := hs.slice
  have HS := Lib.hid hs
  have HE : Hid (jb.find u = idxZ (fun d : Nd => decide (d.uid = u)) jb.nodes 0) := rfl
  generalize jb.nodes = l at *
  generalize jb.par = par at *
  have hb2 := ((Below.refl w.heap.size w).alloc (Nat.le_refl _) (.cells #[.int .i64 par, .slice a l.length cap] 24)).alloc (by simp) (.cells #[.string u] 9)
  have hN := Lib.hid ((Blk.new_at (w.alloc (.cells #[.int .i64 par, .slice a l.length cap] 24)) #[.string u] 9 (k := w.heap.size + 1) (by simp)).cell 0)
  have HSZ : Hid (((w.alloc (.cells #[.int .i64 par, .slice a l.length cap] 24)).alloc (.cells #[.string u] 9)).heap.size = w.heap.size + 2) := by simp [Hid]
  clear hs
  go_enter Try.func15, Try.ntmps15
  go_wp2_with (go_at_call 38; refine (IndexNode_c l _ u (w.heap.size + 1) _ w.heap.size _ ((HS.out.mono hB).keep hb2) hb2.size rfl hN.out (by have := HSZ.out; omega)).mono ?_; rintro e w3 ⟨rfl, hb3⟩)
  go_ret
  exact ⟨ret_int HE.out.symm, hb2.trans (hb3.mono hb2.size)⟩

end Go.Proofs.Ytfieoehchghiiaa

namespace Go.Proofs.Ytfieoehchghiiaa
open Go.RowKit
set_option linter.unusedVariables false

theorem info_strJ : (Try.prog.info? 9).map (fun i => (i.zero, i.size, i.bytes)) = some (some (.string { data := #[] }), 1, 16) := by kernel_rfl

/-- A store into a row of the call's own. -/
theorem own_set {w : World} {base : Nat} {e : TypeId} {g n cap : Nat} {xs : List Value} (h : w.ownsRow base e 1 (.slice (some ⟨g, 0, none⟩) n cap) n xs) (j : Nat) (u : Value) :
    (w.setCell ⟨g, j, none⟩ u).ownsRow base e 1 (.slice (some ⟨g, 0, none⟩) n cap) n (xs.set j u) := by
  obtain ⟨h1, h2⟩ := h
  refine ⟨by simpa using h1, .inr ?_⟩
  rcases h2 with ⟨h0, _⟩ | ⟨g', cap', cur, hv, hb, hg, hn, hc, hs, ht⟩
  · cases h0
  · simp only [Value.slice.injEq, Option.some.injEq, Addr.mk.injEq, and_true, true_and] at hv
    obtain ⟨rfl, rfl⟩ := hv
    refine ⟨g, cap, cur.setIfInBounds j u, rfl, hb, heap_setCell_same w g j cur e u hg, hn, hc, by simpa using hs, ?_⟩
    rw [Array.toList_setIfInBounds, List.take_set, ht]
theorem own_cells {w : World} {base : Nat} {e : TypeId} {g n cap : Nat} {xs : List Value} (h : w.ownsRow base e 1 (.slice (some ⟨g, 0, none⟩) n cap) n xs) : base ≤ g ∧ g < w.heap.size ∧ ∀ j, j < n → w.cell? ⟨g, j, none⟩ = xs[j]? ∧ w.frozen? ⟨g, j, none⟩ = false := by
  obtain ⟨h1, h2⟩ := h
  rcases h2 with ⟨h0, _⟩ | ⟨g', cap', cur, hv, hb, hg, hn, hc, hs, ht⟩
  · cases h0
  · simp only [Value.slice.injEq, Option.some.injEq, Addr.mk.injEq, and_true, true_and] at hv
    obtain ⟨rfl, rfl⟩ := hv
    refine ⟨hb, (Array.getElem?_eq_some_iff.1 hg).1, fun j hj => ⟨?_, frozen_of_row w g j cur e hg⟩⟩
    rw [cell_of_row w g j cur e (0, 0) hg, ← ht, List.getElem?_take, if_pos (by omega)]
    simp

def st1 : List Nd → Nat → List ByteArray → Option (Int × Int)
  | [], _, _ => none
  | d :: l, k, us => bif nodeB d k then (bif twiceB (fun x y => decide (x = y)) (us ++ [d.uid]) then some ((k : Int), 121) else st1 l (k + 1) (us ++ [d.uid])) else some ((k : Int), 120)
def sumW (ws : List Int) : List Int → Int
  | [] => 0
  | z :: l => ws.getD z.toNat 0 + sumW ws l
def wayN (d : Nd) (ws : List Int) : Int := if d.kind = 1 then 1 else if d.kind = 4 then sumW ws d.ins * 4 else sumW ws d.ins
def flatN (d : Nd) (f : Int) : Int := if d.kind = 4 then f + 1 else f
def badB (j : Jb) (d : Nd) (k : Nat) (f1 w1 : Int) : Bool :=
  ((d.kind == 1) != ((k : Int) == 0)) || (((d.kind == 9) != ((k : Int) == (j.nodes.length : Int) - 1)) || (((((j.readers k).length : Int) == 0) != ((k : Int) == (j.nodes.length : Int) - 1)) ||
    (decide (3 < ((j.readers k).length : Int)) || (decide (2 < f1) || decide (64 < w1)))))
def st2 (j : Jb) : List Nd → Nat → Int → List Int → Option (Int × Int)
  | [], _, _, _ => none
  | d :: l, k, f, ws => bif badB j d k (flatN d f) (wayN d ws) then some ((k : Int), 122) else st2 j l (k + 1) (flatN d f) (ws ++ [wayN d ws])
def Jb.argB (j : Jb) : Bool := decide (j.par < 1) || (decide (4 < j.par) || (decide (j.nodes.length < 2) || (decide (12 < j.nodes.length) || decide (1000 < j.parts))))
/-- What job.May tells. -/
def Jb.may (j : Jb) : Int × Int := if j.argB = true then (0, 2) else match st1 j.nodes 0 [] with
  | some r => r
  | none => match st2 j j.nodes 0 0 [] with
    | some r => r
    | none => (0, 0)

theorem argB_cases (j : Jb) : (j.argB = true ∧ (j.par < 1 ∨ (1 ≤ j.par ∧ 4 < j.par) ∨ (1 ≤ j.par ∧ j.par ≤ 4 ∧ j.nodes.length < 2) ∨ (1 ≤ j.par ∧ j.par ≤ 4 ∧ 2 ≤ j.nodes.length ∧ 12 < j.nodes.length) ∨
    (1 ≤ j.par ∧ j.par ≤ 4 ∧ 2 ≤ j.nodes.length ∧ j.nodes.length ≤ 12 ∧ 1000 < j.parts))) ∨ (j.argB = false ∧ 1 ≤ j.par ∧ j.par ≤ 4 ∧ 2 ≤ j.nodes.length ∧ j.nodes.length ≤ 12 ∧ j.parts ≤ 1000) := by
  have e : j.argB = decide (j.par < 1 ∨ 4 < j.par ∨ j.nodes.length < 2 ∨ 12 < j.nodes.length ∨ 1000 < j.parts) := by
    unfold Jb.argB; simp
  by_cases h : j.par < 1 ∨ 4 < j.par ∨ j.nodes.length < 2 ∨ 12 < j.nodes.length ∨ 1000 < j.parts
  · exact .inl ⟨by rw [e]; exact decide_eq_true h, by omega⟩
  · exact .inr ⟨by rw [e]; exact decide_eq_false h, by omega⟩

theorem st1_node : ∀ (l : List Nd) (k : Nat) (us : List ByteArray), st1 l k us = none → ∀ i (h : i < l.length), nodeB (l[i]'h) (((k + i : Nat) : Int)) = true
  | d :: l, k, us, h, i, hi => by
    simp only [st1] at h
    cases hn : nodeB d k
    · rw [hn] at h; simp at h
    · rw [hn] at h
      cases ht : twiceB (fun x y => decide (x = y)) (us ++ [d.uid])
      · rw [ht] at h
        simp only [cond_true, cond_false] at h
        cases i with
        | zero => simpa using hn
        | succ i =>
          have := st1_node l (k + 1) _ h i (by simpa using hi)
          rw [show k + (i + 1) = k + 1 + i by omega]
          simpa using this
      · rw [ht] at h; simp at h

theorem nodeB_in (d : Nd) (k : Nat) (h : nodeB d k = true) : d.ins.length ≤ 3 ∧ 1 ≤ d.kind ∧ d.kind ≤ 9 ∧ ∀ z ∈ d.ins, 0 ≤ z ∧ z < (k : Int) := by
  rcases nodeB_cases d k with ⟨_, hr⟩ | ⟨_, _, hr⟩ | ⟨_, _, _, hr⟩ | ⟨_, _, _, _, hr⟩ | ⟨_, _, _, _, _, hr⟩ | ⟨_, _, _, _, _, _, hr⟩ | ⟨_, _, _, _, _, _, _, hr⟩ | ⟨_, _, _, _, _, _, _, _, hr⟩ | ⟨_, _, _, _, _, _, _, _, _, hr⟩ | ⟨h1, h2, h3, h4, h5, h6, h7, h8⟩ | ⟨h1, h2, h3, h4, h5, h6, h7, h8⟩
  all_goals first
    | (rw [h] at hr; cases hr)
    | (have e : rMost d.kind ≤ 3 := by unfold rMost; repeat' split
                                       all_goals omega
       have a5 : ¬ rMost d.kind < (d.ins.length : Int) := by simpa using h5
       have a2 : ¬ d.kind < 1 := by simpa using h2
       have a3 : ¬ 9 < d.kind := by simpa using h3
       refine ⟨by omega, by omega, by omega, fun z hz => ?_⟩
       have := List.any_eq_false.1 h7 z hz
       simp only [outB, Bool.or_eq_true, decide_eq_true_eq, not_or] at this
       omega)

theorem sumW_bd (ws : List Int) (hw : ∀ z ∈ ws, 0 ≤ z ∧ z ≤ 64) : ∀ l : List Int, 0 ≤ sumW ws l ∧ sumW ws l ≤ 64 * l.length
  | [] => by simp [sumW]
  | z :: l => by
    have ih := sumW_bd ws hw l
    have : 0 ≤ ws.getD z.toNat 0 ∧ ws.getD z.toNat 0 ≤ 64 := by
      rw [List.getD_eq_getElem?_getD]
      by_cases h : z.toNat < ws.length
      · rw [List.getElem?_eq_getElem h]; exact hw _ (List.getElem_mem h)
      · rw [List.getElem?_eq_none (by omega)]; simp
    simp only [sumW, List.length_cons]
    omega

theorem badB_cases (j : Jb) (d : Nd) (k : Nat) (f1 w1 : Int) :
    (badB j d k f1 w1 = true ∧ (((d.kind == 1) != ((k : Int) == 0)) = true ∨ (((d.kind == 1) != ((k : Int) == 0)) = false ∧ ((d.kind == 9) != ((k : Int) == (j.nodes.length : Int) - 1)) = true) ∨
      (((d.kind == 1) != ((k : Int) == 0)) = false ∧ ((d.kind == 9) != ((k : Int) == (j.nodes.length : Int) - 1)) = false ∧ ((((j.readers k).length : Int) == 0) != ((k : Int) == (j.nodes.length : Int) - 1)) = true) ∨
      (((d.kind == 1) != ((k : Int) == 0)) = false ∧ ((d.kind == 9) != ((k : Int) == (j.nodes.length : Int) - 1)) = false ∧ ((((j.readers k).length : Int) == 0) != ((k : Int) == (j.nodes.length : Int) - 1)) = false ∧ decide (3 < ((j.readers k).length : Int)) = true) ∨
      (((d.kind == 1) != ((k : Int) == 0)) = false ∧ ((d.kind == 9) != ((k : Int) == (j.nodes.length : Int) - 1)) = false ∧ ((((j.readers k).length : Int) == 0) != ((k : Int) == (j.nodes.length : Int) - 1)) = false ∧ decide (3 < ((j.readers k).length : Int)) = false ∧ decide (2 < f1) = true) ∨
      (((d.kind == 1) != ((k : Int) == 0)) = false ∧ ((d.kind == 9) != ((k : Int) == (j.nodes.length : Int) - 1)) = false ∧ ((((j.readers k).length : Int) == 0) != ((k : Int) == (j.nodes.length : Int) - 1)) = false ∧ decide (3 < ((j.readers k).length : Int)) = false ∧ decide (2 < f1) = false ∧ decide (64 < w1) = true))) ∨
    (badB j d k f1 w1 = false ∧ ((d.kind == 1) != ((k : Int) == 0)) = false ∧ ((d.kind == 9) != ((k : Int) == (j.nodes.length : Int) - 1)) = false ∧ ((((j.readers k).length : Int) == 0) != ((k : Int) == (j.nodes.length : Int) - 1)) = false ∧ decide (3 < ((j.readers k).length : Int)) = false ∧ decide (2 < f1) = false ∧ decide (64 < w1) = false) := by
  unfold badB
  generalize ((d.kind == 1) != ((k : Int) == 0)) = b1
  generalize ((d.kind == 9) != ((k : Int) == (j.nodes.length : Int) - 1)) = b2
  generalize ((((j.readers k).length : Int) == 0) != ((k : Int) == (j.nodes.length : Int) - 1)) = b3
  generalize decide (3 < ((j.readers k).length : Int)) = b4
  generalize decide (2 < f1) = b5
  generalize decide (64 < w1) = b6
  cases b1 <;> cases b2 <;> cases b3 <;> cases b4 <;> cases b5 <;> cases b6 <;> simp

end Go.Proofs.Ytfieoehchghiiaa
