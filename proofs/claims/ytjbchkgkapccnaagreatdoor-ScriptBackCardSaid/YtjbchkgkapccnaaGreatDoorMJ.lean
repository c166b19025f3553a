/-
  Walks: job.rules, job.may.
  Walk: job.May (its plain form; the rows of ways).
  Walk: job.May.
  Walks: job.Readers, law12.three, law12.works, law12.Heavy.
  Walks: law12.works, JobKnown.
  Plain laws on jobs that may be; the walk of JobCounts.
-/
import Derived.Test.YtjbchkgkapccnaaGreatDoorME
import Derived.Test.YtjbchkgkapccnaaGreatDoorMK
import Derived.Test.YtjbchkgkapccnaaGreatDoorMA
import Derived.Deep.CutBlock

namespace Go.Proofs.YtjbchkgkapccnaaGreatDoor
open Go.RowKit
set_option linter.unusedVariables false

def rLeast (k : Int) : Int := if k = 1 then 0 else if k = 8 then 2 else 1
def rMost (k : Int) : Int := if k = 1 then 0 else if k = 8 then 3 else 1
def rTy (k : Int) : Int := if k = 3 then 2 else if k = 2 ∨ k = 4 ∨ k = 5 ∨ k = 6 then 1 else 0
def rAcc (k : Int) : Bool := k == 6
def rN (k : Int) : Int := if k = 7 then 16 else 0
def rM (k : Int) : Int := if k = 7 then 1 else 0
def rulesV : Value := .agg #[.int .i64 0, .int .i64 0, .int .u8 0, .bool false, .int .i64 0, .int .i64 0, .int .i64 0, .int .u8 0, .bool false, .int .i64 0, .int .i64 1, .int .i64 1, .int .u8 1, .bool false, .int .i64 0, .int .i64 1, .int .i64 1, .int .u8 2, .bool false, .int .i64 0, .int .i64 1, .int .i64 1, .int .u8 1, .bool false, .int .i64 0, .int .i64 1, .int .i64 1, .int .u8 1, .bool false, .int .i64 0, .int .i64 1, .int .i64 1, .int .u8 1, .bool true, .int .i64 0, .int .i64 1, .int .i64 1, .int .u8 0, .bool false, .int .i64 16, .int .i64 2, .int .i64 3, .int .u8 0, .bool false, .int .i64 0, .int .i64 1, .int .i64 1, .int .u8 0, .bool false, .int .i64 0]

set_option maxRecDepth 100000 in
set_option maxHeartbeats 1000000 in
theorem jrules_c (w : World) : Calls Tryz.prog 86 #[] w fun e w' => e = .returned rulesV ∧ Below w.heap.size w w' := by
  go_enter Tryz.func86, Tryz.ntmps86
  go_wp2_with (refine wpList_store_row rfl 131 (.tmp 0) (.tmp 10) rfl w.heap.size _ rfl rfl 131 _ (heap_alloc_new w _) (by as_aux_lemma => kernel_rfl) (by as_aux_lemma => kernel_rfl) (by as_aux_lemma => kernel_rfl) ?_)
  refine bodyPost_ret (v := rulesV) (results_cell_row rfl _ _ w.heap.size 131 _ (0, 0) _ rfl (setRow_heap (w.alloc _) w.heap.size _ _ _ _ (heap_alloc_new w _)) Tryz.underlying131 rfl ?_) rfl ⟨rfl, ?_⟩
  · as_aux_lemma => kernel_rfl
  · exact ⟨rfl, rfl, rfl, by simp, fun k hk => (setRow_other (w.alloc _) w.heap.size k _ (by omega)).trans (alloc_old w _ k hk)⟩

theorem index_rules (k : Int) (h1 : 1 ≤ k) (h2 : k ≤ 9) (w : World) : (Instr.index 131 rulesV (.int .u8 k)).run Tryz.prog w = .ok (.agg #[.int .i64 (rLeast k), .int .i64 (rMost k), .int .u8 (rTy k), .bool (rAcc k), .int .i64 (rN k)]) w := by
  obtain rfl | rfl | rfl | rfl | rfl | rfl | rfl | rfl | rfl : k = 1 ∨ k = 2 ∨ k = 3 ∨ k = 4 ∨ k = 5 ∨ k = 6 ∨ k = 7 ∨ k = 8 ∨ k = 9 := by omega
  all_goals kernel_rfl

/-- Whether a node may be at a place. -/
def nodeB (d : Nd) (at_ : Int) : Bool :=
  nameB d.uid && (!decide (d.kind < 1) && (!decide (9 < d.kind) && (!decide ((d.ins.length : Int) < rLeast d.kind) && (!decide (rMost d.kind < (d.ins.length : Int)) && (!twiceB (fun x y => x == y) d.ins && (!d.ins.any (outB at_) &&
    (!decide (d.n < rM d.kind) && (!decide (rN d.kind < d.n) && (bif rTy d.kind == 0 then d.x.sameB (.mk 0 0 []) else d.x.isB (rAcc d.kind) (rTy d.kind))))))))))

theorem nodeB_cases (d : Nd) (at_ : Int) :
    (nameB d.uid = false ∧ nodeB d at_ = false) ∨
    (nameB d.uid = true ∧ decide (d.kind < 1) = true ∧ nodeB d at_ = false) ∨
    (nameB d.uid = true ∧ decide (d.kind < 1) = false ∧ decide (9 < d.kind) = true ∧ nodeB d at_ = false) ∨
    (nameB d.uid = true ∧ decide (d.kind < 1) = false ∧ decide (9 < d.kind) = false ∧ decide ((d.ins.length : Int) < rLeast d.kind) = true ∧ nodeB d at_ = false) ∨
    (nameB d.uid = true ∧ decide (d.kind < 1) = false ∧ decide (9 < d.kind) = false ∧ decide ((d.ins.length : Int) < rLeast d.kind) = false ∧ decide (rMost d.kind < (d.ins.length : Int)) = true ∧ nodeB d at_ = false) ∨
    (nameB d.uid = true ∧ decide (d.kind < 1) = false ∧ decide (9 < d.kind) = false ∧ decide ((d.ins.length : Int) < rLeast d.kind) = false ∧ decide (rMost d.kind < (d.ins.length : Int)) = false ∧ twiceB (fun x y => x == y) d.ins = true ∧ nodeB d at_ = false) ∨
    (nameB d.uid = true ∧ decide (d.kind < 1) = false ∧ decide (9 < d.kind) = false ∧ decide ((d.ins.length : Int) < rLeast d.kind) = false ∧ decide (rMost d.kind < (d.ins.length : Int)) = false ∧ twiceB (fun x y => x == y) d.ins = false ∧ d.ins.any (outB at_) = true ∧ nodeB d at_ = false) ∨
    (nameB d.uid = true ∧ decide (d.kind < 1) = false ∧ decide (9 < d.kind) = false ∧ decide ((d.ins.length : Int) < rLeast d.kind) = false ∧ decide (rMost d.kind < (d.ins.length : Int)) = false ∧ twiceB (fun x y => x == y) d.ins = false ∧ d.ins.any (outB at_) = false ∧ decide (d.n < rM d.kind) = true ∧ nodeB d at_ = false) ∨
    (nameB d.uid = true ∧ decide (d.kind < 1) = false ∧ decide (9 < d.kind) = false ∧ decide ((d.ins.length : Int) < rLeast d.kind) = false ∧ decide (rMost d.kind < (d.ins.length : Int)) = false ∧ twiceB (fun x y => x == y) d.ins = false ∧ d.ins.any (outB at_) = false ∧ decide (d.n < rM d.kind) = false ∧ decide (rN d.kind < d.n) = true ∧ nodeB d at_ = false) ∨
    (nameB d.uid = true ∧ decide (d.kind < 1) = false ∧ decide (9 < d.kind) = false ∧ decide ((d.ins.length : Int) < rLeast d.kind) = false ∧ decide (rMost d.kind < (d.ins.length : Int)) = false ∧ twiceB (fun x y => x == y) d.ins = false ∧ d.ins.any (outB at_) = false ∧ decide (d.n < rM d.kind) = false ∧ decide (rN d.kind < d.n) = false ∧ (rTy d.kind == 0) = true ∧ nodeB d at_ = d.x.sameB (.mk 0 0 [])) ∨
    (nameB d.uid = true ∧ decide (d.kind < 1) = false ∧ decide (9 < d.kind) = false ∧ decide ((d.ins.length : Int) < rLeast d.kind) = false ∧ decide (rMost d.kind < (d.ins.length : Int)) = false ∧ twiceB (fun x y => x == y) d.ins = false ∧ d.ins.any (outB at_) = false ∧ decide (d.n < rM d.kind) = false ∧ decide (rN d.kind < d.n) = false ∧ (rTy d.kind == 0) = false ∧ nodeB d at_ = d.x.isB (rAcc d.kind) (rTy d.kind)) := by
  unfold nodeB
  cases g0 : nameB d.uid
  · simp
  cases g1 : decide (d.kind < 1)
  case true => simp
  cases g2 : decide (9 < d.kind)
  case true => simp
  cases g3 : decide ((d.ins.length : Int) < rLeast d.kind)
  case true => simp
  cases g4 : decide (rMost d.kind < (d.ins.length : Int))
  case true => simp
  cases g5 : twiceB (fun x y => x == y) d.ins
  case true => simp
  cases g6 : d.ins.any (outB at_)
  case true => simp
  cases g7 : decide (d.n < rM d.kind)
  case true => simp
  cases g8 : decide (rN d.kind < d.n)
  case true => simp
  cases gt : (rTy d.kind == 0)
  all_goals simp

/- job.may: the early ends. -/
set_option maxHeartbeats 1000000 in
theorem jmay_a (d : Nd) (at_ : Int) (v : Value) (B : Nat) (w : World) (hv : NdAt w B v d) (hB : B ≤ w.heap.size) (hc : nameB d.uid = false ∨ (nameB d.uid = true ∧ decide (d.kind < 1) = true) ∨ (nameB d.uid = true ∧ decide (d.kind < 1) = false ∧ decide (9 < d.kind) = true)) (hr : nodeB d at_ = false)
    : Calls Tryz.prog 50 #[v, .int .i64 at_] w fun e w' => e = .returned (.bool (nodeB d at_)) ∧ Below w.heap.size w w' := by
  obtain ⟨iv, sv, rfl, ⟨hi, hs⟩, hu⟩ := hv
  obtain ⟨_, ai, capi, rfl, hc1, hm1, _⟩ := id hi
  obtain ⟨ax, capx, rfl, hc2, hm2⟩ := hs.slice
  rename_i hx1
  have HI := Lib.hid hi
  have HS := Lib.hid hs
  have HX : Hid (∀ X, Below w.heap.size w X → ExAt X X.heap.size (.agg #[.int .u8 d.x.op, .int .i64 d.x.n, .slice ax d.x.args.length capx]) d.x) := fun X hX => ⟨_, rfl, ((hs.mono hB).keep hX).mono hX.size⟩
  clear hi hs hx1 hc2 hm2 HS
  generalize hnb : nodeB d at_ = nb at *
  subst hr
  generalize hu' : d.uid = u at *
  generalize hkd : d.kind = kd at *
  generalize hdn : d.n = dn at *
  generalize hins : d.ins = ins at *
  generalize hlen : ins.length = len at *
  generalize hxo : d.x.op = xo at *
  generalize hxn : d.x.n = xn at *
  generalize hxl : d.x.args.length = xl at *
  have HL := Lib.hid hlen
  have hlm : len ≤ 9223372036854775807 := by unfold maxLen at hm1; omega
  clear hnb hu' hkd hdn hins hlen hxo hxn hxl hm1 hc1
  have HU := Lib.hid hu
  clear hu
  have hb2 := ((Below.refl w.heap.size w).alloc (Nat.le_refl _) (.cells #[.string u, .int .u8 kd, .slice ai len capi, .int .u8 xo, .int .i64 xn, .slice ax xl capx, .int .i64 dn] 49)).alloc (by simp) (.cells #[.int .i64 at_] 3)
  have hN1 := (Blk.new w #[.string u, .int .u8 kd, .slice ai len capi, .int .u8 xo, .int .i64 xn, .slice ax xl capx, .int .i64 dn] 49).alloc (.cells #[.int .i64 at_] 3)
  have hN2 := Blk.new_at (w.alloc (.cells #[.string u, .int .u8 kd, .slice ai len capi, .int .u8 xo, .int .i64 xn, .slice ax xl capx, .int .i64 dn] 49)) #[.int .i64 at_] 3 (k := w.heap.size + 1) (by simp)
  have HSZ : Hid (((w.alloc (.cells #[.string u, .int .u8 kd, .slice ai len capi, .int .u8 xo, .int .i64 xn, .slice ax xl capx, .int .i64 dn] 49)).alloc (.cells #[.int .i64 at_] 3)).heap.size = w.heap.size + 2) := by simp [Hid]
  rcases hc with h1 | ⟨h1, h2⟩ | ⟨h1, h2, h3⟩
  all_goals
    have H1 := Lib.hid h1
    clear h1
    go_enter Tryz.func50, Tryz.ntmps50
    go_wp2_with fail
    generalize World.alloc (World.alloc w _) _ = W at *
    have n0 := hN1.cell 0
    have n1 := hN1.cell 1
    go_wp2_with (go_at_call 85; refine (Name_c u _ HU.out).mono ?_; rintro e w1 ⟨rfl, pos, rfl⟩; rw [H1.out]; have hN3 : Blk (W.iter u pos) _ _ _ := hN1.alloc _; have m1 := hN3.cell 1)
    go_ret
    exact ⟨rfl, hb2.alloc (by have := HSZ.out; omega) _⟩

/-- What lies there behind the rule's look-up. -/
structure JR (w : World) (cs : Array Value) (at_ r1 r2 r3 r5 : Int) (r4 : Bool) (wx : World) (bR : Nat) : Prop where
  node : Blk wx w.heap.size 49 cs
  place : Blk wx (w.heap.size + 1) 3 #[.int .i64 at_]
  rule : Blk wx bR 130 #[.int .i64 r1, .int .i64 r2, .int .u8 r3, .bool r4, .int .i64 r5]
  low : w.heap.size + 2 ≤ bR
  below : Below w.heap.size w wx
theorem JR.mk1 {w w2 : World} {cs : Array Value} {at_ r1 r2 r3 r5 : Int} {r4 : Bool} (h1 : Blk w2 w.heap.size 49 cs) (h2 : Blk w2 (w.heap.size + 1) 3 #[.int .i64 at_]) (h3 : w.heap.size + 2 ≤ w2.heap.size) (h4 : Below w.heap.size w w2) :
    JR w cs at_ r1 r2 r3 r5 r4 (w2.alloc (.cells #[.int .i64 r1, .int .i64 r2, .int .u8 r3, .bool r4, .int .i64 r5] 130)) w2.heap.size :=
  ⟨h1.alloc _, h2.alloc _, Blk.new _ _ _, h3, h4.alloc (by omega) _⟩
theorem JR.mk2 {w w2 : World} {cs : Array Value} {at_ r1 r2 r3 r5 : Int} {r4 : Bool} {b : Nat} (h1 : Blk w2 w.heap.size 49 cs) (h2 : Blk w2 (w.heap.size + 1) 3 #[.int .i64 at_]) (h3 : w.heap.size + 2 ≤ b) (h4 : Below w.heap.size w w2)
    (h5 : Blk w2 b 130 #[.int .i64 0, .int .i64 0, .int .u8 0, .bool false, .int .i64 0]) :
    JR w cs at_ r1 r2 r3 r5 r4 (((((w2.setCell ⟨b, 0, none⟩ (.int .i64 r1)).setCell ⟨b, 1, none⟩ (.int .i64 r2)).setCell ⟨b, 2, none⟩ (.int .u8 r3)).setCell ⟨b, 3, none⟩ (.bool r4)).setCell ⟨b, 4, none⟩ (.int .i64 r5)) b := by
  have n1 : w.heap.size ≠ b := by omega
  have n2 : w.heap.size + 1 ≠ b := by omega
  refine ⟨((((h1.other n1 _).other n1 _).other n1 _).other n1 _).other n1 _, ((((h2.other n2 _).other n2 _).other n2 _).other n2 _).other n2 _, ((((h5.set 0 _).set 1 _).set 2 _).set 3 _).set 4 _, h3, ?_⟩
  exact ((((h4.setCell (by simp; omega) _).setCell (by simp; omega) _).setCell (by simp; omega) _).setCell (by simp; omega) _).setCell (by simp; omega) _

set_option maxHeartbeats 1000000 in
theorem jmay_b (d : Nd) (at_ : Int) (v : Value) (B : Nat) (w : World) (hv : NdAt w B v d) (hB : B ≤ w.heap.size) (h1 : nameB d.uid = true) (h2 : decide (d.kind < 1) = false) (h3 : decide (9 < d.kind) = false)
    (hc : (nodeB d at_ = false ∧ ((decide ((d.ins.length : Int) < rLeast d.kind) = true) ∨ (decide ((d.ins.length : Int) < rLeast d.kind) = false ∧ decide (rMost d.kind < (d.ins.length : Int)) = true) ∨ (decide ((d.ins.length : Int) < rLeast d.kind) = false ∧ decide (rMost d.kind < (d.ins.length : Int)) = false ∧ twiceB (fun x y => x == y) d.ins = true) ∨ (decide ((d.ins.length : Int) < rLeast d.kind) = false ∧ decide (rMost d.kind < (d.ins.length : Int)) = false ∧ twiceB (fun x y => x == y) d.ins = false ∧ d.ins.any (outB at_) = true) ∨ (decide ((d.ins.length : Int) < rLeast d.kind) = false ∧ decide (rMost d.kind < (d.ins.length : Int)) = false ∧ twiceB (fun x y => x == y) d.ins = false ∧ d.ins.any (outB at_) = false ∧ decide (d.n < rM d.kind) = true) ∨ (decide ((d.ins.length : Int) < rLeast d.kind) = false ∧ decide (rMost d.kind < (d.ins.length : Int)) = false ∧ twiceB (fun x y => x == y) d.ins = false ∧ d.ins.any (outB at_) = false ∧ decide (d.n < rM d.kind) = false ∧ decide (rN d.kind < d.n) = true))) ∨ (decide ((d.ins.length : Int) < rLeast d.kind) = false ∧ decide (rMost d.kind < (d.ins.length : Int)) = false ∧ twiceB (fun x y => x == y) d.ins = false ∧ d.ins.any (outB at_) = false ∧ decide (d.n < rM d.kind) = false ∧ decide (rN d.kind < d.n) = false ∧ (rTy d.kind == 0) = true ∧ nodeB d at_ = d.x.sameB (.mk 0 0 [])) ∨ (decide ((d.ins.length : Int) < rLeast d.kind) = false ∧ decide (rMost d.kind < (d.ins.length : Int)) = false ∧ twiceB (fun x y => x == y) d.ins = false ∧ d.ins.any (outB at_) = false ∧ decide (d.n < rM d.kind) = false ∧ decide (rN d.kind < d.n) = false ∧ (rTy d.kind == 0) = false ∧ nodeB d at_ = d.x.isB (rAcc d.kind) (rTy d.kind)))
    : Calls Tryz.prog 50 #[v, .int .i64 at_] w fun e w' => e = .returned (.bool (nodeB d at_)) ∧ Below w.heap.size w w' := by
  obtain ⟨iv, sv, rfl, ⟨hi, hs⟩, hu⟩ := hv
  obtain ⟨_, ai, capi, rfl, hc1, hm1, _⟩ := id hi
  obtain ⟨ax, capx, rfl, hc2, hm2⟩ := hs.slice
  rename_i hx1
  have HI := Lib.hid hi
  have HS := Lib.hid hs
  have HX : Hid (∀ X, Below w.heap.size w X → ExAt X X.heap.size (.agg #[.int .u8 d.x.op, .int .i64 d.x.n, .slice ax d.x.args.length capx]) d.x) := fun X hX => ⟨_, rfl, ((hs.mono hB).keep hX).mono hX.size⟩
  clear hi hs hx1 hc2 hm2 HS
  generalize nodeB d at_ = nb at *
  have hk1 : 1 ≤ d.kind := by simpa using h2
  have hk2 : d.kind ≤ 9 := by simpa using h3
  have hix := fun w => index_rules d.kind hk1 hk2 w
  have HRU := Lib.hid jrules_c
  generalize rulesV = rv at *
  generalize rLeast d.kind = r1 at *
  generalize rMost d.kind = r2 at *
  generalize hr3 : rTy d.kind = r3 at *
  generalize hr4 : rAcc d.kind = r4 at *
  have hr5 : (rN d.kind = 0 ∧ rM d.kind = 0) ∨ (rN d.kind = 16 ∧ rM d.kind = 1) := by unfold rN rM; split <;> simp
  generalize rN d.kind = r5 at *
  generalize rM d.kind = r8 at *
  generalize hu' : d.uid = u at *
  generalize hkd : d.kind = kd at *
  generalize hdn : d.n = dn at *
  generalize hins : d.ins = ins at *
  generalize hlen : ins.length = len at *
  generalize hxo : d.x.op = xo at *
  generalize hxn : d.x.n = xn at *
  generalize hxl : d.x.args.length = xl at *
  have HL := Lib.hid hlen
  have hlm : len ≤ 9223372036854775807 := by unfold maxLen at hm1; omega
  clear hr3 hr4 hu' hkd hdn hins hlen hxo hxn hxl hm1 hc1
  have HU := Lib.hid hu
  clear hu
  have hb2 := ((Below.refl w.heap.size w).alloc (Nat.le_refl _) (.cells #[.string u, .int .u8 kd, .slice ai len capi, .int .u8 xo, .int .i64 xn, .slice ax xl capx, .int .i64 dn] 49)).alloc (by simp) (.cells #[.int .i64 at_] 3)
  have hN1 := (Blk.new w #[.string u, .int .u8 kd, .slice ai len capi, .int .u8 xo, .int .i64 xn, .slice ax xl capx, .int .i64 dn] 49).alloc (.cells #[.int .i64 at_] 3)
  have hN2 := Blk.new_at (w.alloc (.cells #[.string u, .int .u8 kd, .slice ai len capi, .int .u8 xo, .int .i64 xn, .slice ax xl capx, .int .i64 dn] 49)) #[.int .i64 at_] 3 (k := w.heap.size + 1) (by simp)
  have HSZ : Hid (((w.alloc (.cells #[.string u, .int .u8 kd, .slice ai len capi, .int .u8 xo, .int .i64 xn, .slice ax xl capx, .int .i64 dn] 49)).alloc (.cells #[.int .i64 at_] 3)).heap.size = w.heap.size + 2) := by simp [Hid]
  have H1 := Lib.hid h1
  clear h1
  go_enter Tryz.func50, Tryz.ntmps50
  go_wp2_with fail
  generalize World.alloc (World.alloc w _) _ = W at *
  have n0 := hN1.cell 0
  have n1 := hN1.cell 1
  go_upto_region 3 with (go_at_call 85; refine (Name_c u _ HU.out).mono ?_; rintro e w1 ⟨rfl, pos, rfl⟩; rw [H1.out]; have hN3 : Blk (W.iter u pos) _ _ _ := hN1.alloc _; have m1 := hN3.cell 1)
  have hN4 : Blk (W.iter u pos) _ _ _ := hN2.alloc _
  have hb3 : Below w.heap.size w (W.iter u pos) := hb2.alloc (by have := HSZ.out; omega) _
  have hsz3 : w.heap.size + 2 ≤ (W.iter u pos).heap.size := by have := HSZ.out; simp [World.iter]; omega
  generalize World.iter W u pos = W1 at *
  have hlt3 := hN3.lt
  clear n0 n1 hN1 hN2 hb2 HSZ
  go_cut [5] (fun p wx => ∃ bR : Nat, p = .pointer (some ⟨bR, 0, none⟩) ∧ JR w #[.string u, .int .u8 kd, .slice ai len capi, .int .u8 xo, .int .i64 xn, .slice ax xl capx, .int .i64 dn] at_ r1 r2 r3 r5 r4 wx bR)
  case first =>
    go_region_with (go_at_call 86; refine (HRU.out _).mono ?_; rintro e w2 ⟨rfl, hbr⟩; have hz2 := hbr.size; first
      | (have hN5 := hN3.drew.below hbr hN3.lt; have hN6 := hN4.drew.below hbr hN4.lt; have k1 := hN5.cell 1; have hlt5 := hN5.lt; have hb5 := hb3.drew.trans (hbr.mono (by simp; omega)))
      | (have hN5 := (hN3.drew.alloc _).below hbr (by simp; omega); have hN6 := (hN4.drew.alloc _).below hbr (by simp; omega); have k1 := hN5.cell 1; have hA5 : Blk w2 W1.heap.size 130 _ := (Blk.new W1.drew _ _).below hbr (by simp); have q0 := hA5.free 0; have q1 := hA5.free 1; have q2 := hA5.free 2; have q3 := hA5.free 3; have q4 := hA5.free 4; have z0 := hA5.cell 0; have z1 := hA5.cell 1; have z2 := hA5.cell 2; have z3 := hA5.cell 3; have z4 := hA5.cell 4; have hb5 := (hb3.drew.alloc (by simp; omega) _).trans (hbr.mono (by simp; omega))))
    all_goals
      go_wp2_with fail
      go_meet
      refine ⟨_, rfl, ?_⟩
      first
      | (with_reducible refine JR.mk1 hN5 hN6 ?_ hb5)
      | (with_reducible refine JR.mk2 hN5 hN6 ?_ hb5 hA5)
      all_goals (first | omega | (simp at hz2; omega))
  case rest =>
    obtain ⟨bR, rfl, hJ⟩ := hcut
    have a0 := hJ.node.cell 0
    have a1 := hJ.node.cell 1
    have a2 := hJ.node.cell 2
    have a3 := hJ.node.cell 3
    have a4 := hJ.node.cell 4
    have a5 := hJ.node.cell 5
    have a6 := hJ.node.cell 6
    have b0 := hJ.place.cell 0
    have e0 := hJ.rule.cell 0
    have e1 := hJ.rule.cell 1
    have e2 := hJ.rule.cell 2
    have e3 := hJ.rule.cell 3
    have e4 := hJ.rule.cell 4
    have B0 := Lib.hid hJ.place
    have HB := Lib.hid hJ.below
    clear hJ
    rcases hr5 with ⟨rfl, rfl⟩ | ⟨rfl, rfl⟩
    all_goals
     rcases hc with ⟨rfl, hc⟩ | ⟨h4, h5, h6, h7, h8, h9, h10, hr⟩ | ⟨h4, h5, h6, h7, h8, h9, h10, hr⟩
     · rcases hc with h4 | ⟨h4, h5⟩ | ⟨h4, h5, h6⟩ | ⟨h4, h5, h6, h7⟩ | ⟨h4, h5, h6, h7, h8⟩ | ⟨h4, h5, h6, h7, h8, h9⟩
       all_goals
        go_wp2_with (first
          | (go_at_call 87; refine (twiceInt_c ins len _ B _ (HI.out.below (HB.out.mono hB)) HL.out).mono ?_; rintro e w3 ⟨rfl, rfl⟩; rw [h6])
          | (go_at_call 88; refine (ContainsOut_c ins len _ at_ _ B _ (HI.out.below (HB.out.mono hB)) HL.out (B0.out.cell 0)).mono ?_; rintro e w3 ⟨rfl, rfl⟩; rw [h7]))
        go_ret
        exact ⟨rfl, HB.out⟩
     · have HR := Lib.hid hr
       clear hr
       go_wp2_with (first
          | (go_at_call 87; refine (twiceInt_c ins len _ B _ (HI.out.below (HB.out.mono hB)) HL.out).mono ?_; rintro e w3 ⟨rfl, rfl⟩; rw [h6])
          | (go_at_call 88; refine (ContainsOut_c ins len _ at_ _ B _ (HI.out.below (HB.out.mono hB)) HL.out (B0.out.cell 0)).mono ?_; rintro e w3 ⟨rfl, rfl⟩; rw [h7])
          | (go_at_call 33; refine (Same_c d.x (.mk 0 0 []) _ _ _ _ (HX.out _ HB.out) ⟨_, rfl, .nil none 0 (Nat.zero_le _)⟩ (Nat.le_refl _)).mono ?_; rintro e w3 ⟨rfl, hb9⟩))
       go_ret
       exact ⟨ret_bool HR.out.symm, HB.out.trans (hb9.mono HB.out.size)⟩
     · have HR := Lib.hid hr
       clear hr
       go_wp2_with (first
          | (go_at_call 87; refine (twiceInt_c ins len _ B _ (HI.out.below (HB.out.mono hB)) HL.out).mono ?_; rintro e w3 ⟨rfl, rfl⟩; rw [h6])
          | (go_at_call 88; refine (ContainsOut_c ins len _ at_ _ B _ (HI.out.below (HB.out.mono hB)) HL.out (B0.out.cell 0)).mono ?_; rintro e w3 ⟨rfl, rfl⟩; rw [h7])
          | (go_at_call 90; refine (Is_c d.x r4 r3 _ _ _ (HX.out _ HB.out) (Nat.le_refl _)).mono ?_; rintro e w3 ⟨rfl, hb9⟩))
       go_ret
       exact ⟨ret_bool HR.out.symm, HB.out.trans (hb9.mono HB.out.size)⟩

/-- job.may. -/
theorem jobmay_c (d : Nd) (at_ : Int) (v : Value) (B : Nat) (w : World) (hv : NdAt w B v d) (hB : B ≤ w.heap.size) :
    Calls Tryz.prog 50 #[v, .int .i64 at_] w fun e w' => e = .returned (.bool (nodeB d at_)) ∧ Below w.heap.size w w' := by
  rcases nodeB_cases d at_ with ⟨h1, hr⟩ | ⟨h1, h2, hr⟩ | ⟨h1, h2, h3, hr⟩ | ⟨h1, h2, h3, h4, hr⟩ | ⟨h1, h2, h3, h4, h5, hr⟩ | ⟨h1, h2, h3, h4, h5, h6, hr⟩ | ⟨h1, h2, h3, h4, h5, h6, h7, hr⟩ | ⟨h1, h2, h3, h4, h5, h6, h7, h8, hr⟩ | ⟨h1, h2, h3, h4, h5, h6, h7, h8, h9, hr⟩ | ⟨h1, h2, h3, hr⟩ | ⟨h1, h2, h3, hr⟩
  · exact jmay_a d at_ v B w hv hB (.inl h1) hr
  · exact jmay_a d at_ v B w hv hB (.inr (.inl ⟨h1, h2⟩)) hr
  · exact jmay_a d at_ v B w hv hB (.inr (.inr ⟨h1, h2, h3⟩)) hr
  · exact jmay_b d at_ v B w hv hB h1 h2 h3 (.inl ⟨hr, .inl h4⟩)
  · exact jmay_b d at_ v B w hv hB h1 h2 h3 (.inl ⟨hr, .inr (.inl ⟨h4, h5⟩)⟩)
  · exact jmay_b d at_ v B w hv hB h1 h2 h3 (.inl ⟨hr, .inr (.inr (.inl ⟨h4, h5, h6⟩))⟩)
  · exact jmay_b d at_ v B w hv hB h1 h2 h3 (.inl ⟨hr, .inr (.inr (.inr (.inl ⟨h4, h5, h6, h7⟩)))⟩)
  · exact jmay_b d at_ v B w hv hB h1 h2 h3 (.inl ⟨hr, .inr (.inr (.inr (.inr (.inl ⟨h4, h5, h6, h7, h8⟩))))⟩)
  · exact jmay_b d at_ v B w hv hB h1 h2 h3 (.inl ⟨hr, .inr (.inr (.inr (.inr (.inr ⟨h4, h5, h6, h7, h8, h9⟩))))⟩)
  · exact jmay_b d at_ v B w hv hB h1 h2 h3 (.inr (.inl hr))
  · exact jmay_b d at_ v B w hv hB h1 h2 h3 (.inr (.inr hr))

end Go.Proofs.YtjbchkgkapccnaaGreatDoor

namespace Go.Proofs.YtjbchkgkapccnaaGreatDoor
open Go.RowKit
set_option linter.unusedVariables false

theorem info_strJ : (Tryz.prog.info? 9).map (fun i => (i.zero, i.size, i.bytes)) = some (some (.string { data := #[] }), 1, 16) := by kernel_rfl

/-- A store into a row of the call's own. -/
theorem own_set {w : World} {base : Nat} {e : TypeId} {g n cap : Nat} {xs : List Value} (h : w.ownsRow base e 1 (.slice (some ⟨g, 0, none⟩) n cap) n xs) (j : Nat) (u : Value) :
    (w.setCell ⟨g, j, none⟩ u).ownsRow base e 1 (.slice (some ⟨g, 0, none⟩) n cap) n (xs.set j u) := by
  obtain ⟨h1, h2⟩ := h
  refine ⟨by simpa using h1, .inr ?_⟩
  rcases h2 with ⟨h0, _⟩ | ⟨g', cap', cur, hv, hb, hg, hn, hc, hs, ht⟩
  · cases h0
  · simp only [Value.slice.injEq, Option.some.injEq, Addr.mk.injEq, and_true, true_and] at hv
    obtain ⟨rfl, rfl⟩ := hv
    refine ⟨g, cap, cur.setIfInBounds j u, rfl, hb, heap_setCell_same w g j cur e u hg, hn, hc, by simpa using hs, ?_⟩
    rw [Array.toList_setIfInBounds, List.take_set, ht]
theorem own_cells {w : World} {base : Nat} {e : TypeId} {g n cap : Nat} {xs : List Value} (h : w.ownsRow base e 1 (.slice (some ⟨g, 0, none⟩) n cap) n xs) : base ≤ g ∧ g < w.heap.size ∧ ∀ j, j < n → w.cell? ⟨g, j, none⟩ = xs[j]? ∧ w.frozen? ⟨g, j, none⟩ = false := by
  obtain ⟨h1, h2⟩ := h
  rcases h2 with ⟨h0, _⟩ | ⟨g', cap', cur, hv, hb, hg, hn, hc, hs, ht⟩
  · cases h0
  · simp only [Value.slice.injEq, Option.some.injEq, Addr.mk.injEq, and_true, true_and] at hv
    obtain ⟨rfl, rfl⟩ := hv
    refine ⟨hb, (Array.getElem?_eq_some_iff.1 hg).1, fun j hj => ⟨?_, frozen_of_row w g j cur e hg⟩⟩
    rw [cell_of_row w g j cur e (0, 0) hg, ← ht, List.getElem?_take, if_pos (by omega)]
    simp

def st1 : List Nd → Nat → List ByteArray → Option (Int × Int)
  | [], _, _ => none
  | d :: l, k, us => bif nodeB d k then (bif twiceB (fun x y => decide (x = y)) (us ++ [d.uid]) then some ((k : Int), 121) else st1 l (k + 1) (us ++ [d.uid])) else some ((k : Int), 120)
def sumW (ws : List Int) : List Int → Int
  | [] => 0
  | z :: l => ws.getD z.toNat 0 + sumW ws l
def wayN (d : Nd) (ws : List Int) : Int := if d.kind = 1 then 1 else if d.kind = 4 then sumW ws d.ins * 4 else sumW ws d.ins
def flatN (d : Nd) (f : Int) : Int := if d.kind = 4 then f + 1 else f
def badB (j : Jb) (d : Nd) (k : Nat) (f1 w1 : Int) : Bool :=
  ((d.kind == 1) != ((k : Int) == 0)) || (((d.kind == 9) != ((k : Int) == (j.nodes.length : Int) - 1)) || (((((j.readers k).length : Int) == 0) != ((k : Int) == (j.nodes.length : Int) - 1)) ||
    (decide (3 < ((j.readers k).length : Int)) || (decide (2 < f1) || decide (64 < w1)))))
def st2 (j : Jb) : List Nd → Nat → Int → List Int → Option (Int × Int)
  | [], _, _, _ => none
  | d :: l, k, f, ws => bif badB j d k (flatN d f) (wayN d ws) then some ((k : Int), 122) else st2 j l (k + 1) (flatN d f) (ws ++ [wayN d ws])
def Jb.argB (j : Jb) : Bool := decide (j.par < 1) || (decide (4 < j.par) || (decide (j.nodes.length < 2) || (decide (12 < j.nodes.length) || decide (1000 < j.parts))))
/-- What job.May tells. -/
def Jb.may (j : Jb) : Int × Int := if j.argB = true then (0, 2) else match st1 j.nodes 0 [] with
  | some r => r
  | none => match st2 j j.nodes 0 0 [] with
    | some r => r
    | none => (0, 0)

theorem argB_cases (j : Jb) : (j.argB = true ∧ (j.par < 1 ∨ (1 ≤ j.par ∧ 4 < j.par) ∨ (1 ≤ j.par ∧ j.par ≤ 4 ∧ j.nodes.length < 2) ∨ (1 ≤ j.par ∧ j.par ≤ 4 ∧ 2 ≤ j.nodes.length ∧ 12 < j.nodes.length) ∨
    (1 ≤ j.par ∧ j.par ≤ 4 ∧ 2 ≤ j.nodes.length ∧ j.nodes.length ≤ 12 ∧ 1000 < j.parts))) ∨ (j.argB = false ∧ 1 ≤ j.par ∧ j.par ≤ 4 ∧ 2 ≤ j.nodes.length ∧ j.nodes.length ≤ 12 ∧ j.parts ≤ 1000) := by
  have e : j.argB = decide (j.par < 1 ∨ 4 < j.par ∨ j.nodes.length < 2 ∨ 12 < j.nodes.length ∨ 1000 < j.parts) := by
    unfold Jb.argB; simp
  by_cases h : j.par < 1 ∨ 4 < j.par ∨ j.nodes.length < 2 ∨ 12 < j.nodes.length ∨ 1000 < j.parts
  · exact .inl ⟨by rw [e]; exact decide_eq_true h, by omega⟩
  · exact .inr ⟨by rw [e]; exact decide_eq_false h, by omega⟩

theorem st1_node : ∀ (l : List Nd) (k : Nat) (us : List ByteArray), st1 l k us = none → ∀ i (h : i < l.length), nodeB (l[i]'h) (((k + i : Nat) : Int)) = true
  | d :: l, k, us, h, i, hi => by
    simp only [st1] at h
    cases hn : nodeB d k
    · rw [hn] at h; simp at h
    · rw [hn] at h
      cases ht : twiceB (fun x y => decide (x = y)) (us ++ [d.uid])
      · rw [ht] at h
        simp only [cond_true, cond_false] at h
        cases i with
        | zero => simpa using hn
        | succ i =>
          have := st1_node l (k + 1) _ h i (by simpa using hi)
          rw [show k + (i + 1) = k + 1 + i by omega]
          simpa using this
      · rw [ht] at h; simp at h

theorem nodeB_in (d : Nd) (k : Nat) (h : nodeB d k = true) : d.ins.length ≤ 3 ∧ 1 ≤ d.kind ∧ d.kind ≤ 9 ∧ ∀ z ∈ d.ins, 0 ≤ z ∧ z < (k : Int) := by
  rcases nodeB_cases d k with ⟨_, hr⟩ | ⟨_, _, hr⟩ | ⟨_, _, _, hr⟩ | ⟨_, _, _, _, hr⟩ | ⟨_, _, _, _, _, hr⟩ | ⟨_, _, _, _, _, _, hr⟩ | ⟨_, _, _, _, _, _, _, hr⟩ | ⟨_, _, _, _, _, _, _, _, hr⟩ | ⟨_, _, _, _, _, _, _, _, _, hr⟩ | ⟨h1, h2, h3, h4, h5, h6, h7, h8⟩ | ⟨h1, h2, h3, h4, h5, h6, h7, h8⟩
  all_goals first
    | (rw [h] at hr; cases hr)
    | (have e : rMost d.kind ≤ 3 := by unfold rMost; repeat' split
                                       all_goals omega
       have a5 : ¬ rMost d.kind < (d.ins.length : Int) := by simpa using h5
       have a2 : ¬ d.kind < 1 := by simpa using h2
       have a3 : ¬ 9 < d.kind := by simpa using h3
       refine ⟨by omega, by omega, by omega, fun z hz => ?_⟩
       have := List.any_eq_false.1 h7 z hz
       simp only [outB, Bool.or_eq_true, decide_eq_true_eq, not_or] at this
       omega)

theorem sumW_bd (ws : List Int) (hw : ∀ z ∈ ws, 0 ≤ z ∧ z ≤ 64) : ∀ l : List Int, 0 ≤ sumW ws l ∧ sumW ws l ≤ 64 * l.length
  | [] => by simp [sumW]
  | z :: l => by
    have ih := sumW_bd ws hw l
    have : 0 ≤ ws.getD z.toNat 0 ∧ ws.getD z.toNat 0 ≤ 64 := by
      rw [List.getD_eq_getElem?_getD]
      by_cases h : z.toNat < ws.length
      · rw [List.getElem?_eq_getElem h]; exact hw _ (List.getElem_mem h)
      · rw [List.getElem?_eq_none (by omega)]; simp
    simp only [sumW, List.length_cons]
    omega

theorem badB_cases (j : Jb) (d : Nd) (k : Nat) (f1 w1 : Int) :
    (badB j d k f1 w1 = true ∧ (((d.kind == 1) != ((k : Int) == 0)) = true ∨ (((d.kind == 1) != ((k : Int) == 0)) = false ∧ ((d.kind == 9) != ((k : Int) == (j.nodes.length : Int) - 1)) = true) ∨
      (((d.kind == 1) != ((k : Int) == 0)) = false ∧ ((d.kind == 9) != ((k : Int) == (j.nodes.length : Int) - 1)) = false ∧ ((((j.readers k).length : Int) == 0) != ((k : Int) == (j.nodes.length : Int) - 1)) = true) ∨
      (((d.kind == 1) != ((k : Int) == 0)) = false ∧ ((d.kind == 9) != ((k : Int) == (j.nodes.length : Int) - 1)) = false ∧ ((((j.readers k).length : Int) == 0) != ((k : Int) == (j.nodes.length : Int) - 1)) = false ∧ decide (3 < ((j.readers k).length : Int)) = true) ∨
      (((d.kind == 1) != ((k : Int) == 0)) = false ∧ ((d.kind == 9) != ((k : Int) == (j.nodes.length : Int) - 1)) = false ∧ ((((j.readers k).length : Int) == 0) != ((k : Int) == (j.nodes.length : Int) - 1)) = false ∧ decide (3 < ((j.readers k).length : Int)) = false ∧ decide (2 < f1) = true) ∨
      (((d.kind == 1) != ((k : Int) == 0)) = false ∧ ((d.kind == 9) != ((k : Int) == (j.nodes.length : Int) - 1)) = false ∧ ((((j.readers k).length : Int) == 0) != ((k : Int) == (j.nodes.length : Int) - 1)) = false ∧ decide (3 < ((j.readers k).length : Int)) = false ∧ decide (2 < f1) = false ∧ decide (64 < w1) = true))) ∨
    (badB j d k f1 w1 = false ∧ ((d.kind == 1) != ((k : Int) == 0)) = false ∧ ((d.kind == 9) != ((k : Int) == (j.nodes.length : Int) - 1)) = false ∧ ((((j.readers k).length : Int) == 0) != ((k : Int) == (j.nodes.length : Int) - 1)) = false ∧ decide (3 < ((j.readers k).length : Int)) = false ∧ decide (2 < f1) = false ∧ decide (64 < w1) = false) := by
  unfold badB
  generalize ((d.kind == 1) != ((k : Int) == 0)) = b1
  generalize ((d.kind == 9) != ((k : Int) == (j.nodes.length : Int) - 1)) = b2
  generalize ((((j.readers k).length : Int) == 0) != ((k : Int) == (j.nodes.length : Int) - 1)) = b3
  generalize decide (3 < ((j.readers k).length : Int)) = b4
  generalize decide (2 < f1) = b5
  generalize decide (64 < w1) = b6
  cases b1 <;> cases b2 <;> cases b3 <;> cases b4 <;> cases b5 <;> cases b6 <;> simp

end Go.Proofs.YtjbchkgkapccnaaGreatDoor

namespace Go.Proofs.YtjbchkgkapccnaaGreatDoor
open Go.RowKit
set_option linter.unusedVariables false

theorem own_ne {w : World} {base : Nat} {e t : TypeId} {g n cap b : Nat} {xs : List Value} {cs : Array Value} (h : w.ownsRow base e 1 (.slice (some ⟨g, 0, none⟩) n cap) n xs) (hb : Blk w b t cs) (hne : e ≠ t) : g ≠ b := by
  rcases h.2 with ⟨h0, _⟩ | ⟨g', cap', cur, hv, _, hg, _⟩
  · cases h0
  · simp only [Value.slice.injEq, Option.some.injEq, Addr.mk.injEq, and_true, true_and] at hv
    obtain ⟨rfl, rfl⟩ := hv
    intro he
    subst he
    unfold Blk at hb
    rw [hg] at hb
    simp only [Option.some.injEq, Obj.cells.injEq] at hb
    exact hne hb.2.1
theorem own_keep {w w' : World} {base : Nat} {e : TypeId} {size n : Nat} {v : Value} {xs : List Value} (h : w.ownsRow base e size v n xs) (hb : Below w.heap.size w w') : w'.ownsRow base e size v n xs :=
  h.kept (row := none) ⟨hb.os, hb.tape, hb.output, hb.size, fun k hk _ => hb.block k hk⟩ (by cases hv : v.ownBlock <;> simp)

theorem Sl.across {a b w : World} {B size n : Nat} {v : Value} {cs : List Value} (h : Sl a B size v n cs) (h1 : Below B w a) (h2 : Below B w b) : Sl b B size v n cs := by
  obtain ⟨g1, d, cap, hv, g2, g3, g4⟩ := h
  refine ⟨g1, d, cap, hv, g2, g3, g4.imp id ?_⟩
  rintro ⟨k, off, ha, hlt, hc⟩
  exact ⟨k, off, ha, hlt, fun j hj => (h2.cell (p := ⟨k, off + j, none⟩) hlt).trans ((h1.cell (p := ⟨k, off + j, none⟩) hlt).symm.trans (hc j hj))⟩
theorem sum_at {k : Nat} {ws : List Int} (hwk : ws.length = k) (z : Nat) (hz : z < k) (hb : ∀ q ∈ ws, 0 ≤ q ∧ q ≤ 64) : ∃ q : Int, ws.getD z 0 = q ∧ 0 ≤ q ∧ q ≤ 64 ∧ ∀ acc : Int, ((ws ++ [acc]).map (Value.int .i64))[z]? = some (.int .i64 q) := by
  have hz2 : z < ws.length := by omega
  refine ⟨ws[z], by simp [List.getD_eq_getElem?_getD, hz2], (hb _ (List.getElem_mem hz2)).1, (hb _ (List.getElem_mem hz2)).2, fun acc => ?_⟩
  rw [List.map_append, List.getElem?_append_left (by simpa using hz2)]
  simp [hz2]
theorem at_end {k : Nat} {ws : List Int} (hwk : ws.length = k) (acc : Int) : ((ws ++ [acc]).map (Value.int .i64))[k]? = some (.int .i64 acc) := by
  subst hwk
  simp

structure M3Rel (y : Nd) (job node : Array Value) (w : World) (bN g k capg : Nat) (ws : List Int) (acc : Int) (wi : World) : Prop where
  below : Below w.heap.size w wi
  job : Blk wi w.heap.size 24 job
  node : Blk wi bN 49 node
  own : wi.ownsRow (w.heap.size + 1) 3 1 (.slice (some ⟨g, 0, none⟩) (k + 1) capg) (k + 1) ((ws ++ [acc]).map (Value.int .i64))
theorem M3Rel.drew {y : Nd} {job node : Array Value} {w wi : World} {bN g k capg : Nat} {ws : List Int} {acc : Int} (h : M3Rel y job node w bN g k capg ws acc wi) : M3Rel y job node w bN g k capg ws acc wi.drew := ⟨h.below.drew, h.job, h.node, h.own⟩
theorem M3Rel.keep {y : Nd} {job node : Array Value} {w wi wj : World} {bN g k capg : Nat} {ws : List Int} {acc : Int} (h : M3Rel y job node w bN g k capg ws acc wi) (hb : Below wi.heap.size wi wj) : M3Rel y job node w bN g k capg ws acc wj :=
  ⟨h.below.trans (hb.mono h.below.size), h.job.below hb h.job.lt, h.node.below hb h.node.lt, own_keep h.own hb⟩
theorem M3Rel.set {y : Nd} {job node : Array Value} {w wi : World} {bN g k capg : Nat} {ws : List Int} {acc : Int} (h : M3Rel y job node w bN g k capg ws acc wi) (hk : ws.length = k) (u : Int) :
    M3Rel y job node w bN g k capg ws u (wi.setCell ⟨g, k, none⟩ (.int .i64 u)) := by
  have h1 := own_ne h.own h.node (by decide)
  have h2 := (own_cells h.own).1
  refine ⟨h.below.setCell (by show _ ≤ g; omega) _, h.job.other (p := ⟨g, k, none⟩) (by show _ ≠ g; omega) _, h.node.other (p := ⟨g, k, none⟩) (fun e => h1 e.symm) _, ?_⟩
  have := own_set h.own k (.int .i64 u)
  rw [List.map_append, List.map_cons, List.map_nil, List.set_append_right _ _ (by simp [hk])] at this
  rw [List.map_append, List.map_cons, List.map_nil]
  simpa [hk] using this

structure M1Rel (l : List Nd) (par : Int) (a : Option Addr) (cap : Nat) (w : World) (s q : Value) (wr : World) : Prop where
  ex : ∃ (k : Nat) (us : List ByteArray), q = .int .i64 k ∧ k ≤ l.length ∧ Below w.heap.size w wr ∧ Blk wr w.heap.size 24 #[.int .i64 par, .slice a l.length cap] ∧
    wr.ownsRow (w.heap.size + 1) 9 1 s us.length (us.map Value.string) ∧ us.length = k ∧ st1 (l.drop k) k us = st1 l 0 []
structure M2Rel (jb : Jb) (l : List Nd) (par : Int) (a : Option Addr) (cap : Nat) (w : World) (s8 s9 q : Value) (wr : World) : Prop where
  ex : ∃ (k : Nat) (f : Int) (ws : List Int), q = .int .i64 k ∧ k ≤ l.length ∧ s8 = .int .i64 f ∧ 0 ≤ f ∧ f ≤ 2 ∧ Below w.heap.size w wr ∧ Blk wr w.heap.size 24 #[.int .i64 par, .slice a l.length cap] ∧
    wr.ownsRow (w.heap.size + 1) 3 1 s9 k (ws.map (Value.int .i64)) ∧ ws.length = k ∧ (∀ z ∈ ws, 0 ≤ z ∧ z ≤ 64) ∧ st2 jb (l.drop k) k f ws = st2 jb l 0 0 []

set_option maxRecDepth 100000 in
set_option maxHeartbeats 4000000 in
theorem May_c1 (jb : Jb) (v : Value) (B : Nat) (w : World) (hv : JbAt w B v jb) (hB : B ≤ w.heap.size) :
    Calls Tryz.prog 18 #[v] w fun e w' => e = .returned (.tuple #[.int .i64 jb.may.1, .int .i64 jb.may.2]) ∧ Below w.heap.size w w' := by
  obtain ⟨i0, hi, hz0, hz1, hz2⟩ := info_parts info_strJ
  obtain ⟨j0, ki, kz0, kz1, kz2⟩ := info_parts info_intJ
  have hv2 := hv
  obtain ⟨sv, rfl, hs⟩ := hv
  obtain ⟨a, cap, rfl, hcap, hmx⟩ := hs.slice
  have hlm : jb.nodes.length ≤ 9223372036854775807 := by unfold maxLen at hmx; omega
  have HS := Lib.hid hs
  have HJ := Lib.hid hv2
  have HM : Hid (jb.may = if jb.argB = true then (0, 2) else match st1 jb.nodes 0 [] with
    | some r => r
    | none => match st2 jb jb.nodes 0 0 [] with
      | some r => r
      | none => (0, 0)) := rfl
  have hcs := argB_cases jb
  have hNJ := Blk.new w #[.int .i64 jb.par, .slice a jb.nodes.length cap] 24
  have hW := (Below.refl w.heap.size w).alloc (Nat.le_refl _) (.cells #[.int .i64 jb.par, .slice a jb.nodes.length cap] 24)
  clear hs hv2
  rcases hcs with ⟨hr, hc⟩ | ⟨hr, hc1, hc2, hc3, hc4, hc5⟩
  · have HM2 : Hid (jb.may = (0, 2)) := by show _ = _; rw [HM.out, if_pos hr]
    clear hr HM
    rcases hc with h1 | ⟨h1, h2⟩ | ⟨h1, h2, h3⟩ | ⟨h1, h2, h3, h4⟩ | ⟨h1, h2, h3, h4, h5⟩
    all_goals
      go_enter Tryz.func18, Tryz.ntmps18
      go_wp2_with (go_at_call 49; refine (parts_c jb _ _ _ (HJ.out.keep (hW.mono hB)) (by have := hW.size; omega)).mono ?_; rintro e w1 ⟨rfl, hb1⟩)
      go_ret2
      first
      | exact ⟨by rw [HM2.out]; rfl, hW⟩
      | exact ⟨by rw [HM2.out]; rfl, hW.trans (hb1.mono hW.size)⟩
  · have HM2 : Hid (jb.may = match st1 jb.nodes 0 [] with
      | some r => r
      | none => match st2 jb jb.nodes 0 0 [] with
        | some r => r
        | none => (0, 0)) := by show _ = _; rw [HM.out, if_neg (by rw [hr]; simp)]
    clear hr HM
    have HNM : Hid (∀ i (h : i < jb.nodes.length), st1 jb.nodes 0 [] = none → nodeB (jb.nodes[i]'h) (i : Int) = true) := fun i h h' => by have := st1_node jb.nodes 0 [] h' i h; simpa using this
    have HRD : Hid (∀ (at_ : Int) (v : Value) (B : Nat) (w : World) (hv : JbAt w B v jb) (hB : B ≤ w.heap.size), Calls Tryz.prog 52 #[v, .int .i64 at_] w fun e w' => ∃ v', e = .returned v' ∧ Sl w' w'.heap.size 1 v' (jb.readers at_).length ((jb.readers at_).map (Value.int .i64)) ∧ Below w.heap.size w w') :=
      fun at_ v B w hv hB => readers_c jb at_ v B w hv hB (by omega)
    have HBC := Lib.hid (badB_cases jb)
    have hrl : Hid (∀ at_, (jb.readers at_).length ≤ jb.nodes.length) := fun at_ => by
      unfold Jb.readers
      have : ∀ (l : List Nd) (k : Nat), (readersGo at_ l k).length ≤ l.length := by
        intro l
        induction l with
        | nil => simp [readersGo]
        | cons d l ih =>
          intro k
          simp only [readersGo]
          cases d.ins.any (fun y => at_ == y)
          · have := ih (k + 1); simp only [cond_false, List.length_cons]; omega
          · have := ih (k + 1); simp only [cond_true, List.length_cons]; omega
      exact this _ _
    generalize hl : jb.nodes = l at *
    have HL := Lib.hid hl
    generalize jb.par = par at *
    generalize hmay : jb.may = mm at *
    have hW1 : w.heap.size + 1 ≤ (w.alloc (.cells #[.int .i64 par, .slice a l.length cap] 24)).heap.size := by simp
    clear hl hmay
    have hc2b : ¬ 4 < par := by omega
    go_enter Tryz.func18, Tryz.ntmps18
    go_upto_region 4 with (go_at_call 49; refine (parts_c jb _ _ _ (HJ.out.keep (hW.mono hB)) (by have := hW.size; omega)).mono ?_; rintro e w1 ⟨rfl, hb1⟩; have hJ1 := hNJ.below hb1 hNJ.lt; have g0 := hJ1.cell 0; have g1 := hJ1.cell 1)
    have hB1 := hW.trans (hb1.mono hW.size)
    have hz1' := hb1.size
    clear hb1 hNJ hW hc5
    go_wp2_with fail
    go_loopw [5, 43] (fun s q wr => M1Rel l par a cap w s q wr) (fun _ q _ => l.length - (intOf q).toNat)
    case atStart => exact ⟨⟨0, [], rfl, Nat.zero_le _, hB1, hJ1, World.ownsRow_nil _ _ _ _, rfl, rfl⟩⟩
    case round =>
      obtain ⟨k, us, rfl, hk, hBr, hJr, hown, huk, hr⟩ := hrel.ex
      clear hrel g0 g1 hJ1 hB1 hz1'
      have hbw : w.heap.size + 1 ≤ wr.heap.size := hJr.lt
      by_cases hlt : k < l.length
      · skip
        obtain ⟨b, off, cp, e1, hb, hu, iv, sv, c0, c1, c2, c3, c4, c5, c6, hin⟩ := ((HS.out.mono hB).keep hBr).at_ k hlt
        simp only [Value.slice.injEq, true_and] at e1
        obtain ⟨rfl, rfl⟩ := e1
        obtain ⟨a2, cap2, rfl, _, _⟩ := hin.2.slice
        obtain ⟨_, ai, capi, rfl, _, hcm, _⟩ := id hin.1
        rw [List.drop_eq_getElem_cons hlt] at hr
        simp only [st1] at hr
        generalize l[k] = y at *
        have HNY : Hid (NdAt wr w.heap.size (.agg #[.string y.uid, .int .u8 y.kind, .slice ai y.ins.length capi, .int .u8 y.x.op, .int .i64 y.x.n, .slice a2 y.x.args.length cap2, .int .i64 y.n]) y) := ⟨_, _, rfl, hin, hu⟩
        have HR := Lib.hid hr
        rename_i hx1 hx2 hx3
        clear hr hin hx1 hx2 hx3 hu
        have hBn := hBr.alloc (by omega) (.cells #[.string y.uid, .int .u8 y.kind, .slice ai y.ins.length capi, .int .u8 y.x.op, .int .i64 y.x.n, .slice a2 y.x.args.length cap2, .int .i64 y.n] 49)
        have hJn := hJr.alloc (.cells #[.string y.uid, .int .u8 y.kind, .slice ai y.ins.length capi, .int .u8 y.x.op, .int .i64 y.x.n, .slice a2 y.x.args.length cap2, .int .i64 y.n] 49)
        have hNn := Blk.new wr #[.string y.uid, .int .u8 y.kind, .slice ai y.ins.length capi, .int .u8 y.x.op, .int .i64 y.x.n, .slice a2 y.x.args.length cap2, .int .i64 y.n] 49
        have hon := hown.alloc (.cells #[.string y.uid, .int .u8 y.kind, .slice ai y.ins.length capi, .int .u8 y.x.op, .int .i64 y.x.n, .slice a2 y.x.args.length cap2, .int .i64 y.n] 49)
        have HNY2 : Hid (NdAt (wr.alloc (.cells #[.string y.uid, .int .u8 y.kind, .slice ai y.ins.length capi, .int .u8 y.x.op, .int .i64 y.x.n, .slice a2 y.x.args.length cap2, .int .i64 y.n] 49)) (wr.alloc (.cells #[.string y.uid, .int .u8 y.kind, .slice ai y.ins.length capi, .int .u8 y.x.op, .int .i64 y.x.n, .slice a2 y.x.args.length cap2, .int .i64 y.n] 49)).heap.size (.agg #[.string y.uid, .int .u8 y.kind, .slice ai y.ins.length capi, .int .u8 y.x.op, .int .i64 y.x.n, .slice a2 y.x.args.length cap2, .int .i64 y.n]) y) := (HNY.out.keep ((Below.refl _ _).alloc (by omega) _)).mono (by simp; omega)
        have hbz : wr.heap.size < (wr.alloc (.cells #[.string y.uid, .int .u8 y.kind, .slice ai y.ins.length capi, .int .u8 y.x.op, .int .i64 y.x.n, .slice a2 y.x.args.length cap2, .int .i64 y.n] 49)).heap.size := by simp
        cases hnb : nodeB y (k : Int)
        · have HB := Lib.hid hnb
          clear hnb
          go_wp2_with fail
          generalize World.alloc wr _ = W at *
          have n0 := hNn.cell 0
          have n1 := hNn.cell 1
          have n2 := hNn.cell 2
          have n3 := hNn.cell 3
          have n4 := hNn.cell 4
          have n5 := hNn.cell 5
          have n6 := hNn.cell 6
          go_wp2_with (go_at_call 50; refine (jobmay_c y (k : Int) _ _ _ HNY2.out (Nat.le_refl _)).mono ?_; rintro e w2 ⟨rfl, hb2⟩; rw [HB.out])
          go_ret2
          refine ⟨?_, hBn.trans (hb2.mono hBn.size)⟩
          rw [HM2.out, ← HR.out, HB.out]
          rfl
        · have HB := Lib.hid hnb
          clear hnb
          cases htw : twiceB (fun x z => decide (x = z)) (us ++ [y.uid])
          all_goals
            have HTW := Lib.hid htw
            clear htw
            go_wp2_with fail
            generalize World.alloc wr _ = W at *
            have n0 := hNn.cell 0
            have n1 := hNn.cell 1
            have n2 := hNn.cell 2
            have n3 := hNn.cell 3
            have n4 := hNn.cell 4
            have n5 := hNn.cell 5
            have n6 := hNn.cell 6
            go_upto_region 10 with (go_at_call 50; refine (jobmay_c y (k : Int) _ _ _ HNY2.out (Nat.le_refl _)).mono ?_; rintro e w2 ⟨rfl, hb2⟩; rw [HB.out])
            have hNn2 := hNn.below hb2 hNn.lt
            have hJn2 := hJn.below hb2 hJn.lt
            have hBn2 := hBn.trans (hb2.mono hBn.size)
            have hon2 : w2.ownsRow (w.heap.size + 1) 9 1 u5 us.length (us.map Value.string) := hon.kept (row := none) ⟨hb2.os, hb2.tape, hb2.output, hb2.size, fun k hk _ => hb2.block k hk⟩ (by cases hv : u5.ownBlock <;> simp)
            have hzw2 : w.heap.size + 1 ≤ w2.heap.size := hJn2.lt
            clear n0 n1 n2 n3 n4 n5 n6 hNn hJn hBn hon hb2 HNY HNY2
            have m0 := hNn2.cell 0
            have hul : us.length + 1 ≤ 1000 := by omega
            have HUK := Lib.hid huk
            clear huk
            go_upto_region 11 with (at_builtin; refine wpList_append_own _ rfl (.tmp 53) (.tmp 56) 38 rfl (w.heap.size + 1) 9 i0 (.string { data := #[] }) 1 16 Tryz.underlying38 hi hz0 hz1 hz2 rfl (by decide) u5 us.length (us.map Value.string) rfl (hon2.alloc _) ⟨w2.heap.size, 0, none⟩ 1 1 [.string y.uid] rfl rfl (cell_one_newJ _ _ _) (by simp [Value.oneCell']) (by unfold maxLen; omega) (by omega) (by simp; omega) ?_; intro v1' w3 hown3 hgrow3 _)
            have hb3 : ∀ k, u5.ownBlock = some k → w.heap.size + 1 ≤ k := fun k hk => (hon2.lt k hk).1
            have hB3 : Below w.heap.size w w3 := (hBn2.alloc (by omega) _).grown hgrow3 (by simp; omega) (fun k hk => by have := hb3 k hk; omega)
            have hJ3 : Blk w3 w.heap.size _ _ := (hJn2.alloc _).grown hgrow3 (fun e => by have := hb3 _ e.symm; omega)
            have HO3 : Hid (w3.ownsRow (w.heap.size + 1) 9 1 v1' (us ++ [y.uid]).length ((us ++ [y.uid]).map Value.string)) := by simpa [Hid] using hown3
            clear hgrow3 m0 hown3 hon2 hNn2
            go_wp2_with (go_at_call 51; refine (twiceStr_c (us ++ [y.uid]) _ _ _ _ (Sl.of_owns HO3.out) rfl).mono ?_; rintro e w4 ⟨rfl, rfl⟩; rw [HTW.out])
          · go_roundw
            case rel => exact ⟨⟨k + 1, us ++ [y.uid], by go_num, by omega, hB3, hJ3, HO3.out, by have := HUK.out; simp; omega, by rw [← HR.out, HB.out, HTW.out]; rfl⟩⟩
            case measure => simp [intOf]; omega
          · go_ret2
            refine ⟨?_, hB3⟩
            rw [HM2.out, ← HR.out, HB.out, HTW.out]
            rfl
      · rw [List.drop_of_length_le (by omega)] at hr
        simp only [st1] at hr
        have hrs := hr.symm
        have HM3 : Hid (mm = match st2 jb l 0 0 [] with
          | some r => r
          | none => (0, 0)) := by show _ = _; rw [HM2.out, hrs]
        have HNB : Hid (∀ i (h : i < l.length), nodeB (l[i]'h) (i : Int) = true) := fun i h => HNM.out i h hrs
        have g1 := hJr.cell 1
        clear hr hrs HM2 HNM hown
        go_wp2_with fail
        clear g1
        obtain ⟨wo, rfl⟩ : ∃ wo : World, wo = wr := ⟨_, rfl⟩
        go_loopw [8, 9, 65] (fun s8 s9 q wr => M2Rel jb l par a cap w s8 s9 q wr) (fun _ _ q _ => l.length - (intOf q).toNat)
        case atStart => exact ⟨⟨0, 0, [], rfl, Nat.zero_le _, rfl, by omega, by omega, hBr, hJr, World.ownsRow_nil _ _ _ _, rfl, by simp, rfl⟩⟩
        case round =>
          clear hbw hJr hBr hlt hk huk
          obtain ⟨k, f, ws, rfl, hk, rfl, hf0, hf2, hBr, hJr, hown, hwk, hwb, hr⟩ := hrel.ex
          clear hrel
          have hbw : w.heap.size + 1 ≤ wr.heap.size := hJr.lt
          by_cases hlt : k < l.length
          · obtain ⟨b, off, cp, e1, hb, hu, iv, sv, c0, c1, c2, c3, c4, c5, c6, hin⟩ := ((HS.out.mono hB).keep hBr).at_ k hlt
            simp only [Value.slice.injEq, true_and] at e1
            obtain ⟨rfl, rfl⟩ := e1
            obtain ⟨a2, cap2, rfl, _, _⟩ := hin.2.slice
            obtain ⟨_, ai, capi, rfl, _, hcm, _⟩ := id hin.1
            rw [List.drop_eq_getElem_cons hlt] at hr
            simp only [st2] at hr
            have hnd := nodeB_in _ _ (HNB.out k hlt)
            generalize l[k] = y at *
            have HSL := Lib.hid hin.1
            have HR := Lib.hid hr
            have HND := Lib.hid hnd
            have hil : y.ins.length ≤ 3 := hnd.1
            rename_i hx1 hx2 hx3
            clear hr hin hx1 hx2 hx3 hu hnd
            have hBn := hBr.alloc (by omega) (.cells #[.string y.uid, .int .u8 y.kind, .slice ai y.ins.length capi, .int .u8 y.x.op, .int .i64 y.x.n, .slice a2 y.x.args.length cap2, .int .i64 y.n] 49)
            have hJn := hJr.alloc (.cells #[.string y.uid, .int .u8 y.kind, .slice ai y.ins.length capi, .int .u8 y.x.op, .int .i64 y.x.n, .slice a2 y.x.args.length cap2, .int .i64 y.n] 49)
            have hNn := Blk.new wr #[.string y.uid, .int .u8 y.kind, .slice ai y.ins.length capi, .int .u8 y.x.op, .int .i64 y.x.n, .slice a2 y.x.args.length cap2, .int .i64 y.n] 49
            have hon := hown.alloc (.cells #[.string y.uid, .int .u8 y.kind, .slice ai y.ins.length capi, .int .u8 y.x.op, .int .i64 y.x.n, .slice a2 y.x.args.length cap2, .int .i64 y.n] 49)
            have hown_lt : ∀ q, u9.ownBlock = some q → w.heap.size + 1 ≤ q ∧ q < wr.heap.size := fun q hq => ⟨(hown.lt q hq).1, (hown.lt q hq).2⟩
            have hbz : wr.heap.size + 1 = (wr.alloc (.cells #[.string y.uid, .int .u8 y.kind, .slice ai y.ins.length capi, .int .u8 y.x.op, .int .i64 y.x.n, .slice a2 y.x.args.length cap2, .int .i64 y.n] 49)).heap.size := by simp
            have HWK := Lib.hid hwk
            have hkw : k ≤ 100 := by omega
            clear hwk
            go_upto_region 19 with fail
            generalize World.alloc wr _ = W at *
            have hbz2 : wr.heap.size + 1 ≤ W.heap.size := by omega
            clear hbz
            go_upto_region 20 with (at_builtin; refine wpList_append_own _ rfl (.tmp 70) (.tmp 71) 37 rfl (w.heap.size + 1) 3 j0 (.int .i64 0) 1 8 Tryz.underlying37 ki kz0 kz1 kz2 rfl (by decide) u9 k (ws.map (Value.int .i64)) rfl (hon.alloc _) ⟨W.heap.size, 0, none⟩ 1 1 [.int .i64 0] rfl rfl (cell_one_newJ _ _ _) (by simp [Value.oneCell']) (by unfold maxLen; omega) (by omega) (by simp; omega) ?_; intro v1' w3 hown3 hgrow3 _)
            have hM3 : ∃ g capg, v1' = .slice (some ⟨g, 0, none⟩) (k + 1) capg ∧ M3Rel y #[.int .i64 par, .slice (some ⟨b, off, none⟩) l.length cap] #[.string y.uid, .int .u8 y.kind, .slice ai y.ins.length capi, .int .u8 y.x.op, .int .i64 y.x.n, .slice a2 y.x.args.length cap2, .int .i64 y.n] w wr.heap.size g k capg ws 0 w3 := by
              obtain ⟨g, capg, hv1⟩ := owns_succ hown3
              refine ⟨g, capg, hv1, (hBn.alloc (by omega) _).grown hgrow3 (by simp; omega) (fun q hq => by have := (hown_lt q hq).1; omega), (hJn.alloc _).grown hgrow3 (fun e => by have := (hown_lt _ e.symm).1; omega), (hNn.alloc _).grown hgrow3 (fun e => by have := (hown_lt _ e.symm).2; omega), ?_⟩
              rw [hv1] at hown3
              simpa using hown3
            obtain ⟨g, capg, rfl, hM⟩ := hM3
            have HSL2 : Hid (∀ wi, Below w.heap.size w wi → Sl wi w.heap.size 1 (.slice ai y.ins.length capi) y.ins.length (y.ins.map (Value.int .i64))) := fun wi hwi => HSL.out.across hBr hwi
            have hbN : wr.heap.size < w3.heap.size := hM.node.lt
            generalize wr.heap.size = bN at *
            clear hBn hJn hNn hon hown hown3 hgrow3 hown_lt HSL hBr hJr hbz2 hbw hbN
            have k2' := hM.node.cell 2
            go_wp2_with fail
            clear k2'
            obtain ⟨wn, rfl⟩ : ∃ wn : World, wn = wr := ⟨_, rfl⟩
            go_loopw [76] (fun q wi => ∃ (m : Nat) (acc : Int), q = .int .i64 m ∧ m ≤ y.ins.length ∧ 0 ≤ acc ∧ acc ≤ 64 * m ∧ M3Rel y #[.int .i64 par, .slice (some ⟨b, off, none⟩) l.length cap] #[.string y.uid, .int .u8 y.kind, .slice ai y.ins.length capi, .int .u8 y.x.op, .int .i64 y.x.n, .slice a2 y.x.args.length cap2, .int .i64 y.n] w bN g k capg ws acc wi ∧ acc + sumW ws (y.ins.drop m) = sumW ws y.ins) (fun q _ => y.ins.length - (intOf q).toNat)
            case atStart => exact ⟨0, 0, rfl, Nat.zero_le _, by omega, by omega, hM, by simp⟩
            case round =>
              obtain ⟨m, acc, rfl, hm, ha1, ha2, hMi, hsum⟩ := hrel
              by_cases hlt2 : m < y.ins.length
              · obtain ⟨bi, oi, ci, e2, hbi, g1, p0⟩ := (HSL2.out _ hMi.below).int m hlt2
                simp only [Value.slice.injEq, true_and] at e2
                obtain ⟨rfl, rfl⟩ := e2
                have hzb := HND.out.2.2.2 _ (List.getElem_mem g1)
                rw [List.drop_eq_getElem_cons g1] at hsum
                simp only [sumW] at hsum
                generalize y.ins[m] = z at *
                obtain ⟨zn, rfl⟩ : ∃ zn : Nat, z = zn := ⟨z.toNat, by omega⟩
                have hzk : zn < k := by omega
                obtain ⟨q, hq1, hq2, hq3, hq4⟩ := sum_at HWK.out zn hzk hwb
                rw [Int.toNat_natCast, hq1] at hsum
                have HSUM := Lib.hid hsum
                obtain ⟨og1, og2, og3⟩ := own_cells hMi.own
                have o1 := (og3 zn (by omega)).1.trans (hq4 acc)
                have o2 := (og3 k (by omega)).1.trans (at_end HWK.out acc)
                have o3 := (og3 k (by omega)).2
                have HMS := Lib.hid (hMi.drew.set HWK.out (acc + q))
                have hacc : acc ≤ 1000 := by omega
                clear hsum hq1 hq4 hzb og3 hMi
                go_wp2_with fail
                go_region
                all_goals
                  go_wp2_with fail
                  go_roundw
                  case rel => exact ⟨m + 1, acc + q, by go_num, by omega, by omega, by omega, HMS.out, by have := HSUM.out; omega⟩
                  case measure => simp [intOf]; omega
              · rw [List.drop_of_length_le (by omega)] at hsum
                simp only [sumW, Int.add_zero] at hsum
                subst hsum
                have n1 := hMi.node.cell 1
                obtain ⟨og1, og2, og3⟩ := own_cells hMi.own
                have o2 := (og3 k (by omega)).1.trans (at_end HWK.out _)
                have o3 := (og3 k (by omega)).2
                have HMi := Lib.hid hMi
                have hS : sumW ws y.ins ≤ 1000 := by omega
                have HWY : Hid (wayN y ws = if y.kind = 1 then 1 else if y.kind = 4 then sumW ws y.ins * 4 else sumW ws y.ins) := rfl
                have HFL : Hid (flatN y f = if y.kind = 4 then f + 1 else f) := rfl
                have hfl : 0 ≤ flatN y f ∧ flatN y f ≤ 3 := by unfold flatN; split <;> omega
                have hwy : 0 ≤ wayN y ws := by
                  unfold wayN
                  repeat' split
                  all_goals omega
                generalize wayN y ws = w1 at *
                generalize flatN y f = f1 at *
                generalize sumW ws y.ins = S at *
                obtain ⟨hfl0, hfl3⟩ := hfl
                clear hM hMi og3
                go_upto_block 6 with fail
                go_cut [8] (fun s8 wx => s8 = .int .i64 f1 ∧ M3Rel y #[.int .i64 par, .slice (some ⟨b, off, none⟩) l.length cap] #[.string y.uid, .int .u8 y.kind, .slice ai y.ins.length capi, .int .u8 y.x.op, .int .i64 y.x.n, .slice a2 y.x.args.length cap2, .int .i64 y.n] w bN g k capg ws w1 wx)
                case first =>
                  by_cases h1 : y.kind = 1
                  · have q1 : (y.kind == 1) = true := by simpa using h1
                    have e1 : Hid (w1 = 1 ∧ f1 = f) := ⟨by rw [HWY.out, if_pos h1], by rw [HFL.out, if_neg (by omega)]⟩
                    clear h1
                    go_wp2_with fail
                    go_meet
                    rw [e1.out.1, e1.out.2]
                    exact ⟨rfl, HMi.out.set HWK.out 1⟩
                  · have q1 : (y.kind == 1) = false := by simpa using h1
                    by_cases h4 : y.kind = 4
                    · have q4 : (y.kind == 4) = true := by simpa using h4
                      have e1 : Hid (w1 = S * 4 ∧ f1 = f + 1) := ⟨by rw [HWY.out, if_neg h1, if_pos h4], by rw [HFL.out, if_pos h4]⟩
                      clear h1 h4
                      go_wp2_with fail
                      go_meet
                      rw [e1.out.1, e1.out.2]
                      exact ⟨rfl, HMi.out.set HWK.out (S * 4)⟩
                    · have q4 : (y.kind == 4) = false := by simpa using h4
                      have e1 : Hid (w1 = S ∧ f1 = f) := ⟨by rw [HWY.out, if_neg h1, if_neg h4], by rw [HFL.out, if_neg h4]⟩
                      clear h1 h4
                      go_wp2_with fail
                      go_meet
                      rw [e1.out.1, e1.out.2]
                      exact ⟨rfl, HMi.out⟩
                case rest =>
                  obtain ⟨rfl, hMc⟩ := hcut
                  have j0 := hMc.job.cell 0
                  have j1 := hMc.job.cell 1
                  go_upto_region 32 with (go_at_call 52; refine (HRD.out (k : Int) _ w.heap.size _ ((HJ.out.keep (hMc.below.mono hB)).mono hB) hMc.below.size).mono ?_; rintro e w5 ⟨v5, rfl, hsl5, hb5⟩; obtain ⟨_, a5, cap5, rfl, hc5, hm5, _⟩ := hsl5)
                  have hM5 := hMc.keep hb5
                  have n1 := hM5.node.cell 1
                  obtain ⟨og1, og2, og3⟩ := own_cells hM5.own
                  have o2 := (og3 k (by omega)).1.trans (at_end HWK.out _)
                  have HM5 := Lib.hid hM5
                  have hbc := HBC.out y k f1 w1
                  have hrk := hrl.out (k : Int)
                  generalize (jb.readers (k : Int)).length = rr at *
                  clear hM5 hMc og3 j0 j1
                  rcases hbc with ⟨hbd, hc⟩ | ⟨hbd, h1, h2, h3, h4, h5, h6⟩
                  · have HBD := Lib.hid hbd
                    clear hbd
                    rcases hc with h1 | ⟨h1, h2⟩ | ⟨h1, h2, h3⟩ | ⟨h1, h2, h3, h4⟩ | ⟨h1, h2, h3, h4, h5⟩ | ⟨h1, h2, h3, h4, h5, h6⟩
                    · have p1 : ¬ ((y.kind == 1) = ((k : Int) == 0)) := by simpa using h1
                      clear h1
                      go_wp2_with fail
                      go_ret2
                      refine ⟨?_, HM5.out.below⟩
                      rw [HM3.out, ← HR.out, HBD.out]
                      rfl
                    · have p1 : (y.kind == 1) = ((k : Int) == 0) := by simpa using h1
                      have p2 : ¬ ((y.kind == 9) = ((k : Int) == (l.length : Int) - 1)) := by simpa using h2
                      clear h1 h2
                      go_wp2_with fail
                      go_ret2
                      refine ⟨?_, HM5.out.below⟩
                      rw [HM3.out, ← HR.out, HBD.out]
                      rfl
                    · have p1 : (y.kind == 1) = ((k : Int) == 0) := by simpa using h1
                      have p2 : (y.kind == 9) = ((k : Int) == (l.length : Int) - 1) := by simpa using h2
                      have p3 : ¬ (((rr : Int) == 0) = ((k : Int) == (l.length : Int) - 1)) := by simpa using h3
                      clear h1 h2 h3
                      go_wp2_with fail
                      go_ret2
                      refine ⟨?_, HM5.out.below⟩
                      rw [HM3.out, ← HR.out, HBD.out]
                      rfl
                    · have p1 : (y.kind == 1) = ((k : Int) == 0) := by simpa using h1
                      have p2 : (y.kind == 9) = ((k : Int) == (l.length : Int) - 1) := by simpa using h2
                      have p3 : ((rr : Int) == 0) = ((k : Int) == (l.length : Int) - 1) := by simpa using h3
                      clear h1 h2 h3
                      go_wp2_with fail
                      go_ret2
                      refine ⟨?_, HM5.out.below⟩
                      rw [HM3.out, ← HR.out, HBD.out]
                      rfl
                    · have p1 : (y.kind == 1) = ((k : Int) == 0) := by simpa using h1
                      have p2 : (y.kind == 9) = ((k : Int) == (l.length : Int) - 1) := by simpa using h2
                      have p3 : ((rr : Int) == 0) = ((k : Int) == (l.length : Int) - 1) := by simpa using h3
                      clear h1 h2 h3
                      go_wp2_with fail
                      go_ret2
                      refine ⟨?_, HM5.out.below⟩
                      rw [HM3.out, ← HR.out, HBD.out]
                      rfl
                    · have p1 : (y.kind == 1) = ((k : Int) == 0) := by simpa using h1
                      have p2 : (y.kind == 9) = ((k : Int) == (l.length : Int) - 1) := by simpa using h2
                      have p3 : ((rr : Int) == 0) = ((k : Int) == (l.length : Int) - 1) := by simpa using h3
                      clear h1 h2 h3
                      go_wp2_with fail
                      go_ret2
                      refine ⟨?_, HM5.out.below⟩
                      rw [HM3.out, ← HR.out, HBD.out]
                      rfl
                  · have HBD := Lib.hid hbd
                    clear hbd
                    have p1 : (y.kind == 1) = ((k : Int) == 0) := by simpa using h1
                    have p2 : (y.kind == 9) = ((k : Int) == (l.length : Int) - 1) := by simpa using h2
                    have p3 : ((rr : Int) == 0) = ((k : Int) == (l.length : Int) - 1) := by simpa using h3
                    have hw64 : w1 ≤ 64 := by simpa using h6
                    have hf22 : f1 ≤ 2 := by simpa using h5
                    clear h1 h2 h3
                    go_wp2_with fail
                    go_roundw
                    case rel =>
                      refine ⟨⟨k + 1, f1, ws ++ [w1], by go_num, by omega, rfl, hfl0, hf22, HM5.out.below, HM5.out.job, HM5.out.own, by have := HWK.out; simp; omega, ?_, by rw [← HR.out, HBD.out]; rfl⟩⟩
                      intro q hq
                      rcases List.mem_append.1 hq with hq | hq
                      · exact hwb q hq
                      · rw [List.mem_singleton.1 hq]; omega
                    case measure => simp [intOf]; omega
          · rw [List.drop_of_length_le (by omega)] at hr
            simp only [st2] at hr
            have hrs := hr.symm
            have HM4 : Hid (mm = (0, 0)) := by show _ = _; rw [HM3.out, hrs]
            clear hr hrs HM3
            go_wp2_with fail
            go_ret2
            exact ⟨by rw [HM4.out]; rfl, hBr⟩

end Go.Proofs.YtjbchkgkapccnaaGreatDoor

namespace Go.Proofs.YtjbchkgkapccnaaGreatDoor
open Go.RowKit
set_option linter.unusedVariables false

theorem may_len (jb : Jb) (h : jb.may.2 = 0) : jb.argB = false := by
  cases hb : jb.argB
  · rfl
  · unfold Jb.may at h
    rw [if_pos hb] at h
    simp at h
theorem may_len2 (jb : Jb) (h : jb.may.2 = 0) : jb.nodes.length ≤ 12 := by
  rcases argB_cases jb with ⟨hr, _⟩ | ⟨_, _, _, _, h4, _⟩
  · rw [may_len jb h] at hr; cases hr
  · exact h4

/-- What job.Readers tells. -/
def Jb.rds (j : Jb) (at_ : Int) : List Int := if j.may.2 = 0 then j.readers at_ else []

def sS : ByteArray := { data := #[115] }
def sM : ByteArray := { data := #[109] }
def sT : ByteArray := { data := #[116] }
def threeJ : Jb := ⟨2, [⟨{ data := #[115] }, 1, [], .mk 0 0 [], 0⟩, ⟨{ data := #[109] }, 2, [0], .mk 7 0 [.mk 3 0 [], .mk 1 1 []], 0⟩, ⟨{ data := #[116] }, 9, [1], .mk 0 0 [], 0⟩]⟩
theorem three_may : threeJ.may = (0, 0) := by kernel_rfl
theorem three_rds : threeJ.rds 0 = [1] := by kernel_rfl
theorem three_find : threeJ.find { data := #[116] } = 2 := by kernel_rfl

theorem Sl.one {w : World} {b : Nat} {t : TypeId} {x : Value} (h : Blk w b t #[x]) : Sl w w.heap.size 1 (.slice (some ⟨b, 0, none⟩) 1 1) 1 [x] :=
  ⟨rfl, some ⟨b, 0, none⟩, 1, rfl, Nat.le_refl _, by decide, .inr ⟨b, 0, rfl, h.lt, fun j hj => by rw [Nat.zero_add, h.cell j]; simp⟩⟩
theorem args_of {w : World} {b : Nat} {t : TypeId} {cs : Array Value} (hb : Blk w b t cs) (l : List Ex) (sv : Nat → Value)
    (hc : ∀ j (h : j < l.length), cs[j * 3]? = some (.int .u8 (l[j]'h).op) ∧ cs[j * 3 + 1]? = some (.int .i64 (l[j]'h).n) ∧ cs[j * 3 + 2]? = some (sv j)) (hs : ∀ j (h : j < l.length), ArgsAt w w.heap.size (l[j]'h).args (sv j)) (hl : l.length ≤ maxLen) :
    ArgsAt w w.heap.size l (.slice (some ⟨b, 0, none⟩) l.length l.length) := by
  by_cases h0 : l.length = 0
  · have : l = [] := List.length_eq_zero_iff.1 h0
    subst this
    exact .nil _ _ (Nat.zero_le _)
  · exact .cons l b 0 l.length sv (by omega) hb.lt (Nat.le_refl _) hl (fun j h => by rw [Nat.zero_add, hb.cell]; exact (hc j h).1) (fun j h => by rw [Nat.zero_add, hb.cell]; exact (hc j h).2.1) (fun j h => by rw [Nat.zero_add, hb.cell]; exact (hc j h).2.2) hs

/-- Where the job of 'three' lies, the last node's places being in the block bt. -/
structure Three (w : World) (b bm bt ba : Nat) (i : Int) : Prop where
  nodes : Blk w b 49 #[.string { data := #[115] }, .int .u8 1, .slice none 0 0, .int .u8 0, .int .i64 0, .slice none 0 0, .int .i64 0,
    .string { data := #[109] }, .int .u8 2, .slice (some ⟨bm, 0, none⟩) 1 1, .int .u8 7, .int .i64 0, .slice (some ⟨ba, 0, none⟩) 2 2, .int .i64 0,
    .string { data := #[116] }, .int .u8 9, .slice (some ⟨bt, 0, none⟩) 1 1, .int .u8 0, .int .i64 0, .slice none 0 0, .int .i64 0]
  m : Blk w bm 3 #[.int .i64 0]
  t : Blk w bt 3 #[.int .i64 i]
  a : Blk w ba 47 #[.int .u8 3, .int .i64 0, .slice none 0 0, .int .u8 1, .int .i64 1, .slice none 0 0]
def threeK (i : Int) : Jb := ⟨2, [⟨{ data := #[115] }, 1, [], .mk 0 0 [], 0⟩, ⟨{ data := #[109] }, 2, [0], .mk 7 0 [.mk 3 0 [], .mk 1 1 []], 0⟩, ⟨{ data := #[116] }, 9, [i], .mk 0 0 [], 0⟩]⟩

theorem Three.args {w : World} {b bm bt ba : Nat} {i : Int} (h : Three w b bm bt ba i) : ArgsAt w w.heap.size [.mk 3 0 [], .mk 1 1 []] (.slice (some ⟨ba, 0, none⟩) 2 2) := by
  refine args_of h.a [.mk 3 0 [], .mk 1 1 []] (fun _ => .slice none 0 0) (fun j hj => ?_) (fun j hj => ?_) (by decide)
  · match j, hj with
    | 0, _ => exact ⟨rfl, rfl, rfl⟩
    | 1, _ => exact ⟨rfl, rfl, rfl⟩
  · match j, hj with
    | 0, _ => exact .nil _ _ (Nat.zero_le _)
    | 1, _ => exact .nil _ _ (Nat.zero_le _)
theorem Three.at_ {w : World} {b bm bt ba : Nat} {i : Int} (h : Three w b bm bt ba i) : JbAt w w.heap.size (.agg #[.int .i64 2, .slice (some ⟨b, 0, none⟩) 3 3]) (threeK i) := by
  refine ⟨_, rfl, some ⟨b, 0, none⟩, 3, rfl, Nat.le_refl _, by decide, .inr ⟨b, 0, rfl, h.nodes.lt, fun j hj => ?_⟩⟩
  have g := fun j => h.nodes.cell j
  match j, hj with
  | 0, _ => exact ⟨(show (1 : Nat) ≤ maxLen by decide), .slice none 0 0, .slice none 0 0, g 0, g 1, g 2, g 3, g 4, g 5, g 6, Sl.nil _ _ _, .nil _ _ (Nat.zero_le _)⟩
  | 1, _ => exact ⟨(show (1 : Nat) ≤ maxLen by decide), .slice (some ⟨bm, 0, none⟩) 1 1, .slice (some ⟨ba, 0, none⟩) 2 2, g 7, g 8, g 9, g 10, g 11, g 12, g 13, Sl.one h.m, h.args⟩
  | 2, _ => exact ⟨(show (1 : Nat) ≤ maxLen by decide), .slice (some ⟨bt, 0, none⟩) 1 1, .slice none 0 0, g 14, g 15, g 16, g 17, g 18, g 19, g 20, Sl.one h.t, .nil _ _ (Nat.zero_le _)⟩

def heavyGo : List Nd → Int → Bool
  | [], _ => false
  | d :: l, n => decide (40 < (d.ins.length : Int)) || (decide (1000 < (d.uid.size : Int)) || (decide (3000 < n + (d.x.size : Int)) || heavyGo l (n + (d.x.size : Int))))
/-- A job that is not gone through. -/
def Jb.heavyB (j : Jb) : Bool := decide (40 < (j.nodes.length : Int)) || heavyGo j.nodes 0

set_option maxHeartbeats 1000000 in
theorem Heavy_c (jb : Jb) (v : Value) (B : Nat) (w : World) (hv : JbAt w B v jb) (hB : B ≤ w.heap.size) :
    Calls Tryz.prog 9 #[v] w fun e w' => e = .returned (.bool jb.heavyB) ∧ Below w.heap.size w w' := by
  obtain ⟨sv, rfl, hs⟩ := hv
  obtain ⟨a, cap, rfl, hcap, hmx⟩ := hs.slice
  have HS := Lib.hid hs
  have hlm : jb.nodes.length ≤ 9223372036854775807 := by unfold maxLen at hmx; omega
  have HE : Hid (jb.heavyB = (decide (40 < (jb.nodes.length : Int)) || heavyGo jb.nodes 0)) := rfl
  generalize jb.heavyB = hv at *
  generalize jb.nodes = l at *
  generalize jb.par = par at *
  clear hs
  have hW := (Below.refl w.heap.size w).alloc (Nat.le_refl _) (.cells #[.int .i64 par, .slice a l.length cap] 24)
  cases h40 : decide (40 < (l.length : Int))
  · have HE2 : Hid (hv = heavyGo l 0) := by show _ = _; rw [HE.out, h40]; rfl
    have h40' : l.length ≤ 40 := by have := of_decide_eq_false h40; omega
    go_enter Tryz.func9, Tryz.ntmps9
    go_wp2_with fail
    generalize World.alloc w _ = W at *
    go_loopw [3, 13] (fun s q wr => ∃ (k : Nat) (n : Int), q = .int .i64 k ∧ s = .int .i64 n ∧ k ≤ l.length ∧ 0 ≤ n ∧ n ≤ 3000 ∧ Below w.heap.size w wr ∧ heavyGo (l.drop k) n = heavyGo l 0) (fun _ q _ => l.length - (intOf q).toNat)
    case atStart => exact ⟨0, 0, rfl, rfl, Nat.zero_le _, by omega, by omega, hW, rfl⟩
    case round =>
      obtain ⟨k, n, rfl, rfl, hk, hn0, hn1, hBr, hr⟩ := hrel
      by_cases hlt : k < l.length
      · obtain ⟨b, off, cp, e1, hb, hu, iv, sv, c0, c1, c2, c3, c4, c5, c6, hin⟩ := ((HS.out.mono hB).keep hBr).at_ k hlt
        simp only [Value.slice.injEq, true_and] at e1
        obtain ⟨rfl, rfl⟩ := e1
        obtain ⟨a2, cap2, rfl, _, _⟩ := hin.2.slice
        obtain ⟨_, ai, capi, rfl, _, _, _⟩ := id hin.1
        rw [List.drop_eq_getElem_cons hlt] at hr
        simp only [heavyGo] at hr
        have hx : ∀ X, Below wr.heap.size wr X → ExAt X X.heap.size (.agg #[.int .u8 (l[k]'hlt).x.op, .int .i64 (l[k]'hlt).x.n, .slice a2 (l[k]'hlt).x.args.length cap2]) (l[k]'hlt).x := fun X hX => ⟨_, rfl, (hin.2.keep (hX.mono hBr.size)).mono (Nat.le_trans hBr.size hX.size)⟩
        have hsz := Ex.size_le (l[k]'hlt).x
        generalize l[k] = y at *
        have HX := Lib.hid hx
        have HR := Lib.hid hr
        rename_i hx1 hx2 hx3
        clear hr hin hx hx1 hx2 hx3
        have hbw : w.heap.size ≤ wr.heap.size := hBr.size
        have hNn := Blk.new wr #[.string y.uid, .int .u8 y.kind, .slice ai y.ins.length capi, .int .u8 y.x.op, .int .i64 y.x.n, .slice a2 y.x.args.length cap2, .int .i64 y.n] 49
        have hBn := hBr.alloc hbw (.cells #[.string y.uid, .int .u8 y.kind, .slice ai y.ins.length capi, .int .u8 y.x.op, .int .i64 y.x.n, .slice a2 y.x.args.length cap2, .int .i64 y.n] 49)
        have hX2 := Lib.hid (HX.out _ ((Below.refl _ _).alloc (Nat.le_refl _) (.cells #[.string y.uid, .int .u8 y.kind, .slice ai y.ins.length capi, .int .u8 y.x.op, .int .i64 y.x.n, .slice a2 y.x.args.length cap2, .int .i64 y.n] 49)))
        generalize hzz : y.x.size = z at *
        have HZ := Lib.hid hzz
        clear hzz
        have hcs : (decide (40 < (y.ins.length : Int)) = true) ∨ (decide (40 < (y.ins.length : Int)) = false ∧ decide (1000 < (y.uid.size : Int)) = true) ∨ (decide (40 < (y.ins.length : Int)) = false ∧ decide (1000 < (y.uid.size : Int)) = false ∧ decide (3000 < n + (z : Int)) = true) ∨
            (decide (40 < (y.ins.length : Int)) = false ∧ decide (1000 < (y.uid.size : Int)) = false ∧ decide (3000 < n + (z : Int)) = false) := by
          cases decide (40 < (y.ins.length : Int)) <;> cases decide (1000 < (y.uid.size : Int)) <;> cases decide (3000 < n + (z : Int)) <;> simp
        rcases hcs with h1 | ⟨h1, h2⟩ | ⟨h1, h2, h3⟩ | ⟨h1, h2, h3⟩
        all_goals
          go_upto_region 7 with fail
          generalize World.alloc wr _ = W2 at *
          have n3 := hNn.cell 3
          have n4 := hNn.cell 4
          have n5 := hNn.cell 5
          go_wp2_with (go_at_call 19; refine (Size_c y.x _ _ _ hX2.out (Nat.le_refl _)).mono ?_; rintro e w3 ⟨rfl, hb3⟩; rw [HZ.out]; have hN3 := hNn.below hb3 hNn.lt; have m0 := hN3.cell 0; have m2 := hN3.cell 2)
        · go_ret
          exact ⟨ret_bool (by rw [HE2.out, ← HR.out, h1]; rfl), hBn.trans (hb3.mono hBn.size)⟩
        · go_ret
          exact ⟨ret_bool (by rw [HE2.out, ← HR.out, h1, h2]; rfl), hBn.trans (hb3.mono hBn.size)⟩
        · go_ret
          exact ⟨ret_bool (by rw [HE2.out, ← HR.out, h1, h2, h3]; rfl), hBn.trans (hb3.mono hBn.size)⟩
        · have h3' : n + (z : Int) ≤ 3000 := by have := of_decide_eq_false h3; omega
          go_roundw
          case rel => exact ⟨k + 1, n + (z : Int), by go_num, rfl, by omega, by omega, h3', hBn.trans (hb3.mono hBn.size), by rw [← HR.out, h1, h2, h3]; rfl⟩
          case measure => simp [intOf]; omega
      · rw [List.drop_of_length_le (by omega)] at hr
        have HR := Lib.hid hr
        clear hr
        go_wp2
        go_ret
        exact ⟨ret_bool (by rw [HE2.out, ← HR.out]; rfl), hBr⟩
  · have HE2 : Hid (hv = true) := by show _ = _; rw [HE.out, h40]; rfl
    go_enter Tryz.func9, Tryz.ntmps9
    go_wp2
    go_ret
    exact ⟨ret_bool HE2.out.symm, hW⟩

end Go.Proofs.YtjbchkgkapccnaaGreatDoor

namespace Go.Proofs.YtjbchkgkapccnaaGreatDoor
open Go.RowKit
set_option linter.unusedVariables false

theorem threeK_may : (threeK 1).may = (0, 0) := by kernel_rfl
theorem threeK_rds : (threeK 1).rds 0 = [1] := by kernel_rfl
theorem threeK_find : (threeK 1).find { data := #[116] } = 2 := by kernel_rfl
theorem threeK0_may : (threeK 0).may = (1, 122) := by kernel_rfl
theorem threeK0_rds : (threeK 0).rds 0 = [] := by kernel_rfl
theorem threeK0_find : (threeK 0).find { data := #[122, 122] } = -1 := by kernel_rfl

def twoJ : Jb := ⟨1, [⟨{ data := #[115] }, 1, [], .mk 0 0 [], 0⟩, ⟨{ data := #[115] }, 9, [0], .mk 0 0 [], 0⟩]⟩
theorem twoJ_may : twoJ.may = (1, 121) := by kernel_rfl
theorem two_at {w : World} {b bt : Nat} (h : Blk w b 49 #[.string { data := #[115] }, .int .u8 1, .slice none 0 0, .int .u8 0, .int .i64 0, .slice none 0 0, .int .i64 0,
    .string { data := #[115] }, .int .u8 9, .slice (some ⟨bt, 0, none⟩) 1 1, .int .u8 0, .int .i64 0, .slice none 0 0, .int .i64 0]) (ht : Blk w bt 3 #[.int .i64 0]) :
    JbAt w w.heap.size (.agg #[.int .i64 1, .slice (some ⟨b, 0, none⟩) 2 2]) twoJ := by
  refine ⟨_, rfl, some ⟨b, 0, none⟩, 2, rfl, Nat.le_refl _, by decide, .inr ⟨b, 0, rfl, h.lt, fun j hj => ?_⟩⟩
  have g := fun j => h.cell j
  match j, hj with
  | 0, _ => exact ⟨(show (1 : Nat) ≤ maxLen by decide), .slice none 0 0, .slice none 0 0, g 0, g 1, g 2, g 3, g 4, g 5, g 6, Sl.nil _ _ _, .nil _ _ (Nat.zero_le _)⟩
  | 1, _ => exact ⟨(show (1 : Nat) ≤ maxLen by decide), .slice (some ⟨bt, 0, none⟩) 1 1, .slice none 0 0, g 7, g 8, g 9, g 10, g 11, g 12, g 13, Sl.one ht, .nil _ _ (Nat.zero_le _)⟩

theorem Three.keep {w w' : World} {b bm bt ba : Nat} {i : Int} (h : Three w b bm bt ba i) (hb : Below w.heap.size w w') : Three w' b bm bt ba i :=
  ⟨h.nodes.below hb h.nodes.lt, h.m.below hb h.m.lt, h.t.below hb h.t.lt, h.a.below hb h.a.lt⟩
/-- Another row of places for the last node. -/
theorem Three.turn {w : World} {b bm bt ba : Nat} {i : Int} (h : Three w b bm bt ba i) (o : Obj) (j : Int) :
    Three (((w.setCell ⟨b, 16, none⟩ (.slice (some ⟨w.heap.size + 1, 0, none⟩) 1 1)).alloc o).alloc (.cells #[.int .i64 j] 3)) b bm (w.heap.size + 1) ba j := by
  have ne : ∀ {c : Nat} {t : TypeId} {cs : Array Value}, Blk w c t cs → t ≠ 49 → c ≠ b := fun hc ht e => by
    subst e
    have := h.nodes
    unfold Blk at hc this
    rw [hc] at this
    simp only [Option.some.injEq, Obj.cells.injEq] at this
    exact ht this.2.1
  refine ⟨((h.nodes.set 16 _).alloc _).alloc _, ((h.m.other (p := ⟨b, 16, none⟩) (ne h.m (by decide)) _).alloc _).alloc _, Blk.new_at _ _ _ (by simp [World.setCell]), ((h.a.other (p := ⟨b, 16, none⟩) (ne h.a (by decide)) _).alloc _).alloc _⟩

end Go.Proofs.YtjbchkgkapccnaaGreatDoor

namespace Go.Proofs.YtjbchkgkapccnaaGreatDoor
open Go.RowKit
set_option linter.unusedVariables false

theorem st1_err : ∀ (l : List Nd) (k : Nat) (us : List ByteArray) (r : Int × Int), st1 l k us = some r → r.2 ≠ 0
  | d :: l, k, us, r, h => by
    simp only [st1] at h
    cases hn : nodeB d k
    · rw [hn] at h; simp only [cond_false, Option.some.injEq] at h; subst h; simp
    · rw [hn] at h
      cases ht : twiceB (fun x y => decide (x = y)) (us ++ [d.uid])
      · rw [ht] at h
        exact st1_err l (k + 1) _ r h
      · rw [ht] at h; simp only [cond_true, Option.some.injEq] at h; subst h; simp
theorem st2_err (j : Jb) : ∀ (l : List Nd) (k : Nat) (f : Int) (ws : List Int) (r : Int × Int), st2 j l k f ws = some r → r.2 ≠ 0
  | d :: l, k, f, ws, r, h => by
    simp only [st2] at h
    cases hn : badB j d k (flatN d f) (wayN d ws)
    · rw [hn] at h; exact st2_err j l (k + 1) _ _ r h
    · rw [hn] at h; simp only [cond_true, Option.some.injEq] at h; subst h; simp
/-- A job that may be. -/
structure Jb.Good (j : Jb) : Prop where
  p1 : 1 ≤ j.par
  p2 : j.par ≤ 4
  n1 : 2 ≤ j.nodes.length
  n2 : j.nodes.length ≤ 12
  pa : j.parts ≤ 1000
  s1 : st1 j.nodes 0 [] = none
  s2 : st2 j j.nodes 0 0 [] = none
theorem may_good (j : Jb) (h : j.may.2 = 0) : j.Good := by
  rcases argB_cases j with ⟨hr, _⟩ | ⟨hr, h1, h2, h3, h4, h5⟩
  · rw [may_len j h] at hr; cases hr
  · unfold Jb.may at h
    rw [if_neg (by rw [hr]; simp)] at h
    cases e1 : st1 j.nodes 0 [] with
    | some r => rw [e1] at h; exact (st1_err _ _ _ _ e1 h).elim
    | none =>
      rw [e1] at h
      cases e2 : st2 j j.nodes 0 0 [] with
      | some r => simp only [e2] at h; exact (st2_err _ _ _ _ _ _ e2 h).elim
      | none => exact ⟨h1, h2, h3, h4, h5, e1, e2⟩
theorem good_may (j : Jb) (h : j.Good) : j.may = (0, 0) := by
  rcases argB_cases j with ⟨hr, hc⟩ | ⟨hr, _⟩
  · have := h.p1; have := h.p2; have := h.n1; have := h.n2; have := h.pa
    omega
  · unfold Jb.may
    rw [if_neg (by rw [hr]; simp), h.s1]
    simp only [h.s2]
theorem Jb.Good.node {j : Jb} (h : j.Good) (i : Nat) (hi : i < j.nodes.length) : nodeB (j.nodes[i]'hi) (i : Int) = true := by
  have := st1_node j.nodes 0 [] h.s1 i hi
  simpa using this
theorem Jb.rds_good {j : Jb} (h : j.Good) (at_ : Int) : j.rds at_ = j.readers at_ := by
  unfold Jb.rds
  rw [good_may j h]
  rfl

def sumTo (f : Nat → Nat) : Nat → Nat
  | 0 => 0
  | n + 1 => sumTo f n + f n
theorem sumTo_add (f g : Nat → Nat) : ∀ n, sumTo (fun i => f i + g i) n = sumTo f n + sumTo g n
  | 0 => rfl
  | n + 1 => by simp only [sumTo]; rw [sumTo_add f g n]; omega
theorem sumTo_zero : ∀ n, sumTo (fun _ => 0) n = 0
  | 0 => rfl
  | n + 1 => by simp only [sumTo]; rw [sumTo_zero n]
theorem sumTo_congr {f g : Nat → Nat} : ∀ n, (∀ i, i < n → f i = g i) → sumTo f n = sumTo g n
  | 0, _ => rfl
  | n + 1, h => by simp only [sumTo]; rw [sumTo_congr n (fun i hi => h i (by omega)), h n (by omega)]
theorem sumTo_one (z : Nat) : ∀ n, z < n → sumTo (fun i => if i = z then 1 else 0) n = 1
  | n + 1, h => by
    simp only [sumTo]
    by_cases e : z = n
    · subst e
      rw [if_pos rfl, sumTo_congr z (g := fun _ => 0) (fun i hi => if_neg (by omega)), sumTo_zero]
    · rw [sumTo_one z n (by omega), if_neg (fun h => e h.symm)]

def hitN (ins : List Int) (i : Nat) : Nat := if ins.any (fun y => (i : Int) == y) then 1 else 0
theorem hit_snoc (s : List Int) (x : Int) (n : Nat) (hx : 0 ≤ x ∧ x < (n : Int)) (hs : s.any (fun y => x == y) = false) : sumTo (hitN (s ++ [x])) n = sumTo (hitN s) n + 1 := by
  obtain ⟨z, rfl⟩ : ∃ z : Nat, x = z := ⟨x.toNat, by omega⟩
  rw [← sumTo_one z n (by omega), ← sumTo_add]
  refine sumTo_congr n (fun i _ => ?_)
  unfold hitN
  rw [List.any_append]
  by_cases e : i = z
  · subst e
    simp only [hs]
    simp
  · rw [if_neg e]
    have : ((i : Int) == (z : Int)) = false := by simpa using fun h => e (by omega)
    simp [this]
theorem hits_go (n : Nat) : ∀ (l s : List Int), twiceGo (fun x y => x == y) s l = false → (∀ z ∈ l, 0 ≤ z ∧ z < (n : Int)) → sumTo (hitN (s ++ l)) n = sumTo (hitN s) n + l.length
  | [], s, _, _ => by simp
  | x :: l, s, h, hr => by
    simp only [twiceGo, Bool.or_eq_false_iff] at h
    have e := hits_go n l (s ++ [x]) h.2 (fun z hz => hr z (by simp [hz]))
    rw [List.append_assoc, List.singleton_append] at e
    rw [e, hit_snoc s x n (hr x (by simp)) h.1, List.length_cons]
    omega
theorem hits_all (n : Nat) (l : List Int) (h : twiceB (fun x y => x == y) l = false) (hr : ∀ z ∈ l, 0 ≤ z ∧ z < (n : Int)) : sumTo (hitN l) n = l.length := by
  have := hits_go n l [] h hr
  rw [List.nil_append] at this
  rw [this, show sumTo (hitN []) n = 0 from by rw [sumTo_congr (f := hitN []) (g := fun _ => 0) n (fun i _ => rfl), sumTo_zero]]
  omega

theorem readersGo_cons (at_ : Int) (d : Nd) (l : List Nd) (k : Nat) : (readersGo at_ (d :: l) k).length = (if d.ins.any (fun y => at_ == y) then 1 else 0) + (readersGo at_ l (k + 1)).length := by
  simp only [readersGo]
  cases d.ins.any (fun y => at_ == y)
  · simp
  · simp only [cond_true, List.length_cons, if_true]; omega
theorem readersGo_len (at_ : Int) : ∀ (l : List Nd) (k m : Nat), (readersGo at_ l k).length = (readersGo at_ l m).length
  | [], _, _ => rfl
  | d :: l, k, m => by rw [readersGo_cons, readersGo_cons, readersGo_len at_ l (k + 1) (m + 1)]
def sumIns : List Nd → Nat
  | [] => 0
  | d :: l => d.ins.length + sumIns l
theorem both_ways (n : Nat) : ∀ l : List Nd, (∀ d ∈ l, twiceB (fun x y => x == y) d.ins = false ∧ ∀ z ∈ d.ins, 0 ≤ z ∧ z < (n : Int)) → sumTo (fun i => (readersGo (i : Int) l 0).length) n = sumIns l
  | [], _ => (sumTo_congr (f := fun i => (readersGo (i : Int) [] 0).length) (g := fun _ => 0) n (fun i _ => rfl)).trans (sumTo_zero n)
  | d :: l, h => by
    have e : sumTo (fun i => (readersGo (i : Int) (d :: l) 0).length) n = sumTo (fun i => hitN d.ins i + (readersGo (i : Int) l 0).length) n :=
      sumTo_congr n (fun i _ => by rw [readersGo_cons, readersGo_len _ l (0 + 1) 0]; rfl)
    rw [e, sumTo_add, hits_all n d.ins (h d (by simp)).1 (h d (by simp)).2, both_ways n l (fun d' hd => h d' (by simp [hd]))]
    rfl
theorem readers_none (at_ : Int) : ∀ (l : List Nd) (k : Nat), (∀ d ∈ l, ∀ z ∈ d.ins, at_ ≠ z) → readersGo at_ l k = []
  | [], _, _ => rfl
  | d :: l, k, h => by
    have : d.ins.any (fun y => at_ == y) = false := by
      rw [List.any_eq_false]
      intro z hz
      simpa using h d (by simp) z hz
    simp only [readersGo, this]
    exact readers_none at_ l (k + 1) (fun d' hd => h d' (by simp [hd]))

theorem nodeB_tw (d : Nd) (k : Nat) (h : nodeB d k = true) : twiceB (fun x y => x == y) d.ins = false := by
  rcases nodeB_cases d k with ⟨_, hr⟩ | ⟨_, _, hr⟩ | ⟨_, _, _, hr⟩ | ⟨_, _, _, _, hr⟩ | ⟨_, _, _, _, _, hr⟩ | ⟨_, _, _, _, _, _, hr⟩ | ⟨_, _, _, _, _, _, _, hr⟩ | ⟨_, _, _, _, _, _, _, _, hr⟩ | ⟨_, _, _, _, _, _, _, _, _, hr⟩ | ⟨h1, h2, h3, h4, h5, h6, h7, h8⟩ | ⟨h1, h2, h3, h4, h5, h6, h7, h8⟩
  all_goals first
    | (rw [h] at hr; cases hr)
    | exact h6
theorem Jb.Good.ins {j : Jb} (h : j.Good) : ∀ d ∈ j.nodes, twiceB (fun x y => x == y) d.ins = false ∧ ∀ z ∈ d.ins, 0 ≤ z ∧ z < (j.nodes.length : Int) := by
  intro d hd
  obtain ⟨i, hi, rfl⟩ := List.mem_iff_getElem.1 hd
  have hn := h.node i hi
  refine ⟨nodeB_tw _ _ hn, fun z hz => ?_⟩
  have := (nodeB_in _ _ hn).2.2.2 z hz
  omega
theorem Jb.Good.counts {j : Jb} (h : j.Good) : sumTo (fun i => (j.readers (i : Int)).length) j.nodes.length = sumIns j.nodes := both_ways _ _ h.ins
theorem Jb.Good.out1 {j : Jb} (h : j.Good) : j.readers (-1) = [] := readers_none _ _ _ (fun d hd z hz => by have := (h.ins d hd).2 z hz; omega)
theorem Jb.Good.out2 {j : Jb} (h : j.Good) : j.readers (j.nodes.length : Int) = [] := readers_none _ _ _ (fun d hd z hz => by have := (h.ins d hd).2 z hz; omega)
theorem readers_le (j : Jb) (at_ : Int) : (j.readers at_).length ≤ j.nodes.length := by
  unfold Jb.readers
  have : ∀ (l : List Nd) (k : Nat), (readersGo at_ l k).length ≤ l.length := by
    intro l
    induction l with
    | nil => simp [readersGo]
    | cons d l ih =>
      intro k
      rw [readersGo_cons]
      have := ih (k + 1)
      simp only [List.length_cons]
      split <;> omega
  exact this _ _

end Go.Proofs.YtjbchkgkapccnaaGreatDoor
