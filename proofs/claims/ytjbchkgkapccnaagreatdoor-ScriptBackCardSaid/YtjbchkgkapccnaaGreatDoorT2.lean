/-
  The walk of tell.line.
-/
import Derived.Test.YtjbchkgkapccnaaGreatDoorMT
import Derived.Deep.RegionHeld3
namespace Go.Proofs.YtjbchkgkapccnaaGreatDoor
open Go.RowKit
set_option linter.unusedVariables false

/-- A writer in block b: what it has been handed is told by S. -/
structure Wr (B b : Nat) (t : TypeId) (pv : Value) (f : FuncId) (S : World → ByteArray → Prop) : Prop where
  md : ∀ w, (method 334 t pv "changeling/tell.part").run Tryz.prog w = .ok (f, pv) w
  na : ∀ w, (nilAhead 334 t pv "changeling/tell.part").run Tryz.prog w = .ok (some false) w
  eg : ∀ args w, (callFunc f args).run Tryz.prog w = .ok (.enter f args) w
  part : ∀ acc s w, S w acc → B ≤ w.heap.size → acc.size + s.size ≤ 140737488355328 → Calls Tryz.prog f #[pv, .string s] w fun e w' => e = .returned (.tuple #[]) ∧ S w' (acc ++ s) ∧ WF B b w w'
  keep : ∀ w w' acc, S w acc → Below w.heap.size w w' → S w' acc
  lt : ∀ w acc, S w acc → b < w.heap.size
  tab : ∀ w acc, S w acc → Pow10 w

/-- The state within tell.line. -/
structure LnW (B b : Nat) (S : World → ByteArray → Prop) (w W : World) (acc : ByteArray) (o n : Int) (s : Value) : Prop where
  x : Blk W w.heap.size 47 #[.int .u8 o, .int .i64 n, s]
  st : S W acc
  f : WF B b w W
theorem LnW.new {B b : Nat} {t : TypeId} {pv : Value} {f : FuncId} {S : World → ByteArray → Prop} (H : Wr B b t pv f S) {w : World} {acc : ByteArray} (hS : S w acc) (hB : B ≤ w.heap.size) (o n : Int) (s : Value) :
    LnW B b S w (w.alloc (.cells #[.int .u8 o, .int .i64 n, s] 47)) acc o n s :=
  ⟨Blk.new _ _ _, H.keep _ _ _ hS ((Below.refl _ _).alloc (Nat.le_refl _) _), WF.new hB ((Below.refl _ _).alloc (Nat.le_refl _) _)⟩
theorem LnW.below {B b : Nat} {t : TypeId} {pv : Value} {f : FuncId} {S : World → ByteArray → Prop} (H : Wr B b t pv f S) {w W W' : World} {acc : ByteArray} {o n : Int} {s : Value} (hB : B ≤ w.heap.size) (h : LnW B b S w W acc o n s) (hb : Below W.heap.size W W') : LnW B b S w W' acc o n s :=
  ⟨h.x.below hb h.x.lt, H.keep _ _ _ h.st hb, h.f.trans (WF.new (Nat.le_trans hB h.f.size) hb)⟩
theorem LnW.write {B b : Nat} {t : TypeId} {pv : Value} {f : FuncId} {S : World → ByteArray → Prop} (H : Wr B b t pv f S) {w W W' : World} {acc acc' acc0 : ByteArray} {o n : Int} {s : Value} (hS : S w acc0) (h : LnW B b S w W acc o n s) (h1 : S W' acc') (h2 : WF B b W W') : LnW B b S w W' acc' o n s :=
  ⟨h2.blk h.x (by have := H.lt _ _ hS; omega) (by decide), h1, h.f.trans h2⟩

set_option maxRecDepth 100000 in
set_option maxHeartbeats 1000000 in
theorem line_name (B b : Nat) (t : TypeId) (pv : Value) (f : FuncId) (S : World → ByteArray → Prop) (H : Wr B b t pv f S) (x : Ex) (v : Value) (w : World) (acc : ByteArray) (hv : ExAt w B v x) (hB : B ≤ w.heap.size) (hS : S w acc) (hm : acc.size + x.line.size ≤ 140737488355328) (hop : x.op = 2 ∨ x.op = 3 ∨ x.op = 4) :
    Calls Tryz.prog 55 #[.iface t pv, v] w fun e w' => e = .returned (.tuple #[]) ∧ S w' (acc ++ x.line) ∧ WF B b w w' := by
  have hl : x.line = lineOp x.op x.n (x.args.map Ex.line) := Ex.line_eq x
  obtain ⟨sv, rfl, hs⟩ := hv
  obtain ⟨ad, cap, rfl, hcap, hmx⟩ := hs.slice
  have hL := LnW.new H hS hB x.op x.n (.slice ad x.args.length cap)
  have md := H.md
  have eg := H.eg
  rw [hl] at hm ⊢
  clear hl hs
  generalize x.args.map Ex.line = ls at *
  generalize x.op = o at *
  generalize x.n = n at *
  generalize x.args.length = l at *
  clear hcap hmx
  rcases hop with rfl | rfl | rfl
  all_goals
    go_enter Tryz.func55, Tryz.ntmps55
    go_upto_region 1 with fail
    generalize World.alloc w _ = W at *
    have p0 := hL.x.cell 0
    have HP := Lib.hid (H.part acc _ W hL.st (Nat.le_trans hB hL.f.size) hm)
    clear hm
    go_wp2_with fail
    refine HP.out.mono ?_
    rintro e w9 ⟨rfl, h1, h2⟩
    go_wp2_with fail
    (try simp only [Exit.inBlock, Exit.then]); refine bodyPost_ret (results_none rfl _ _ _) rfl ?_
    exact ⟨rfl, h1, hL.f.trans h2⟩

set_option maxRecDepth 100000 in
set_option maxHeartbeats 1000000 in
theorem line_num (B b : Nat) (t : TypeId) (pv : Value) (f : FuncId) (S : World → ByteArray → Prop) (H : Wr B b t pv f S) (x : Ex) (v : Value) (w : World) (acc : ByteArray) (hv : ExAt w B v x) (hB : B ≤ w.heap.size) (hS : S w acc) (hm : acc.size + x.line.size ≤ 140737488355328) (hop : x.op = 1) (hn0 : 0 ≤ x.n) (hn1 : x.n ≤ 9223372036854775807) :
    Calls Tryz.prog 55 #[.iface t pv, v] w fun e w' => e = .returned (.tuple #[]) ∧ S w' (acc ++ x.line) ∧ WF B b w w' := by
  have hl : x.line = decB x.n.toNat := by rw [Ex.line_eq, hop]; rfl
  obtain ⟨sv, rfl, hs⟩ := hv
  obtain ⟨ad, cap, rfl, hcap, hmx⟩ := hs.slice
  have hL := LnW.new H hS hB x.op x.n (.slice ad x.args.length cap)
  have md := H.md
  have eg := H.eg
  have na := H.na
  rw [hl] at hm ⊢
  rw [hop] at hL ⊢
  generalize x.n = n at *
  obtain ⟨m, rfl⟩ : ∃ m : Nat, n = (m : Int) := ⟨n.toNat, (Int.toNat_of_nonneg hn0).symm⟩
  have hmn : m ≤ 9223372036854775807 := by omega
  have h9 : ((m : Int)).toNat = m := Int.toNat_natCast m
  rw [h9] at hm ⊢
  clear hl hs hn0 hn1 hop h9
  generalize x.args.length = l at *
  clear hcap hmx
  go_enter Tryz.func55, Tryz.ntmps55
  go_upto_region 1 with fail
  generalize World.alloc w _ = W at *
  have p0 := hL.x.cell 0
  have HL2 := Lib.hid (hL.below H hB (Below.refl _ _).drew)
  clear hL
  go_upto_region 3 with fail
  refine wp_region_held_drew (S := (fun w' => Blk w' w.heap.size 47 #[.int .u8 1, .int .i64 m, .slice ad l cap])) (by kernel_rfl) ?_ (fun hHeld => ?_)
  · exact HL2.out.x
  refine wpAnyH_take (i := 0) (oi := _) (v := ?_) rfl (by kernel_rfl) (by kernel_rfl) (by kernel_rfl) (fun _ _ _ h => h) (Or.inl ⟨by rfl, ?_⟩) (by assumption) ?_
  rotate_left
  · intro w' hSw
    (try dsimp only at hSw)
    have k1 := hSw.cell 1
    go_simp
    try with_reducible rfl
  try simp only [Act.put, List.getElem_toArray, List.getElem_cons_zero, List.setIfInBounds_toArray, List.set_cons_zero, List.set_cons_succ]
  refine wpAnyH_take (i := 1) (oi := _) (v := ?_) rfl (by kernel_rfl) (by kernel_rfl) (by kernel_rfl) (fun _ _ _ h => h) (Or.inl ⟨by rfl, ?_⟩) (by assumption) ?_
  rotate_left
  · intro w' hSw
    (try dsimp only at hSw)
    have k1 := hSw.cell 1
    go_simp
    try with_reducible rfl
  try simp only [Act.put, List.getElem_toArray, List.getElem_cons_zero, List.getElem_cons_succ, List.setIfInBounds_toArray, List.set_cons_zero, List.set_cons_succ]
  refine wpAnyH_take (i := 2) (oi := _) (v := ?_) rfl (by kernel_rfl) (by kernel_rfl) (by kernel_rfl) (fun _ _ _ h => h) (Or.inl ⟨by rfl, ?_⟩) (by assumption) ?_
  rotate_left
  · intro w' hSw
    (try dsimp only at hSw)
    have k1 := hSw.cell 1
    go_simp
    try with_reducible rfl
  try simp only [Act.put, List.getElem_toArray, List.getElem_cons_zero, List.getElem_cons_succ, List.setIfInBounds_toArray, List.set_cons_zero, List.set_cons_succ]
  refine wpAnyH_take (i := 4) (oi := _) (v := ?_) rfl (by kernel_rfl) (by kernel_rfl) (by kernel_rfl) (fun _ _ _ h => h) (Or.inl ⟨by rfl, ?_⟩) (by assumption) ?_
  rotate_left
  · intro w' hSw
    (try dsimp only at hSw)
    have k1 := hSw.cell 1
    go_simp
    try with_reducible rfl
  try simp only [Act.put, List.getElem_toArray, List.getElem_cons_zero, List.getElem_cons_succ, List.setIfInBounds_toArray, List.set_cons_zero, List.set_cons_succ]
  refine wpAnyH_take (i := 5) (oi := _) (v := ?_) rfl (by kernel_rfl) (by kernel_rfl) (by kernel_rfl) (fun _ _ _ h => h) (Or.inl ⟨by rfl, ?_⟩) (by assumption) ?_
  rotate_left
  · intro w' hSw
    (try dsimp only at hSw)
    have k1 := hSw.cell 1
    go_simp
    try with_reducible rfl
  try simp only [Act.put, List.getElem_toArray, List.getElem_cons_zero, List.getElem_cons_succ, List.setIfInBounds_toArray, List.set_cons_zero, List.set_cons_succ]
  refine wpAnyH_take (i := 6) (oi := _) (v := ?_) rfl (by kernel_rfl) (by kernel_rfl) (by kernel_rfl) (fun _ _ _ h => h) (Or.inl ⟨by rfl, ?_⟩) (by assumption) ?_
  rotate_left
  · intro w' hSw
    (try dsimp only at hSw)
    have k1 := hSw.cell 1
    go_simp
    try with_reducible rfl
  try simp only [Act.put, List.getElem_toArray, List.getElem_cons_zero, List.getElem_cons_succ, List.setIfInBounds_toArray, List.set_cons_zero, List.set_cons_succ]
  refine wpAnyH_ready (rs := [3]) (by kernel_rfl) (by simp) ?_
  refine AllReadyH.cons rfl (fun K hK => ?_) AllReadyH.nil
  go_simp
  go_at_call 95
  refine (fmt_c m hmn _ (H.tab _ _ HL2.out.st)).mono ?_
  rintro e w9 ⟨rfl, hq9⟩
  have HL3 := Lib.hid (HL2.out.below H hB hq9)
  clear hq9
  refine hK.out _ _ ?_ (fun hHeld => ?_)
  · exact HL3.out.x
  clear hK K
  try simp only [Act.put, List.getElem_toArray, List.getElem_cons_zero, List.getElem_cons_succ, List.setIfInBounds_toArray, List.set_cons_zero, List.set_cons_succ]
  refine wpAnyH_ready (rs := [7]) (by kernel_rfl) (by simp) ?_
  refine AllReadyH.cons rfl (fun K hK => ?_) AllReadyH.nil
  go_simp
  refine (H.part _ (decB m) _ HL3.out.st (Nat.le_trans hB HL3.out.f.size) (by as_aux_lemma => exact hm)).mono ?_
  rintro e W9 ⟨rfl, h1, h2⟩
  have HL4 := Lib.hid (HL3.out.write H hS h1 h2)
  clear h1 h2
  refine hK.out _ _ ?_ (fun hHeld => ?_)
  · exact HL4.out.x
  clear hK K
  try simp only [Act.put, List.getElem_toArray, List.getElem_cons_zero, List.getElem_cons_succ, List.setIfInBounds_toArray, List.set_cons_zero, List.set_cons_succ]
  refine wpAnyH_done (by kernel_rfl) ?_ _
  go_wp2_with fail
  (try simp only [Exit.inBlock, Exit.then]); refine bodyPost_ret (results_none rfl _ _ _) rfl ?_
  exact ⟨rfl, HL4.out.st, HL4.out.f⟩

/-- What is known of the parts. -/
def LineIH (B b : Nat) (t : TypeId) (pv : Value) (S : World → ByteArray → Prop) (h : Nat) : Prop := ∀ y : Ex, y.ht < h → ∀ (v : Value) (w : World) (k : Nat) (acc : ByteArray), y.ok → mayB k y = true → ExAt w B v y → B ≤ w.heap.size → S w acc → acc.size + y.line.size ≤ 140737488355328 →
  Calls Tryz.prog 55 #[.iface t pv, v] w fun e w' => e = .returned (.tuple #[]) ∧ S w' (acc ++ y.line) ∧ WF B b w w'

set_option maxRecDepth 100000 in
set_option maxHeartbeats 2000000 in
theorem line_neg (B b : Nat) (t : TypeId) (pv : Value) (f : FuncId) (S : World → ByteArray → Prop) (H : Wr B b t pv f S) (x a : Ex) (IH : Hid (LineIH B b t pv S x.ht)) (v : Value) (w : World) (k : Nat) (acc : ByteArray) (hv : ExAt w B v x) (hB : B ≤ w.heap.size) (hS : S w acc) (hm : acc.size + x.line.size ≤ 140737488355328) (hop : x.op = 5 ∨ x.op = 6) (hargs : x.args = [a]) (hok0 : a.ok) (hmay0 : mayB k a = true) :
    Calls Tryz.prog 55 #[.iface t pv, v] w fun e w' => e = .returned (.tuple #[]) ∧ S w' (acc ++ x.line) ∧ WF B b w w' := by
  have hl : x.line = ((kwOpen ++ sgnB x.op) ++ a.line) ++ kwShut := by
    rw [Ex.line_eq, hargs]
    rcases hop with h | h <;> rw [h] <;> rfl
  obtain ⟨sv, rfl, hs⟩ := hv
  have hlen : x.args.length = 1 := by rw [hargs]; rfl
  obtain ⟨b0, off0, cp0, s0, e0, hb0, c00, c01, c02, hsub0⟩ := hs.at_ 0 (by omega)
  simp only [hargs, List.getElem_cons_zero, Nat.zero_mul, Nat.add_zero] at c00 c01 c02 hsub0
  rw [hlen] at e0
  subst e0
  have hL := LnW.new H hS hB x.op x.n (.slice (some ⟨b0, off0, none⟩) 1 cp0)
  obtain ⟨sa0, sc0, rfl, _, _⟩ := hsub0.slice
  have HX0 : Hid (∀ W, Below B w W → ExAt W B (.agg #[.int .u8 a.op, .int .i64 a.n, .slice sa0 a.args.length sc0]) a) := fun W hb => ⟨_, rfl, hsub0.keep hb⟩
  have hht0 : a.ht < x.ht := Ex.ht_args x a (by simp [hargs])
  have md := H.md
  have eg := H.eg
  have na := H.na
  rw [hl] at hm ⊢
  clear hl
  have hop5 : 5 ≤ x.op ∧ x.op ≤ 17 := by omega
  generalize x.op = o at *
  generalize x.n = n at *
  generalize hx0 : a.op = ao0 at *
  generalize hy0 : a.n = an0 at *
  generalize hk0 : a.args.length = al0 at *
  clear hx0 hy0 hk0 hsub0 hs hlen hargs
  have HZ := Lib.hid hm
  clear hm
  have hL1 : Hid (LnW B b S w _ acc _ _ _) := hL
  have p0 := hL1.out.x.cell 0
  rcases hop with rfl | rfl
  · go_enter Tryz.func55, Tryz.ntmps55
    go_upto_region 1 with fail
    generalize World.alloc w _ = W at *
    go_wp2_with fail
    refine (H.part _ kwOpen _ hL1.out.st (Nat.le_trans hB hL1.out.f.size) (by as_aux_lemma => (have := HZ.out; simp only [ByteArray.size_append] at this ⊢; omega))).mono ?_
    rintro e W9HL2 ⟨rfl, h1, h2⟩
    have HL2 := Lib.hid (hL1.out.write H hS h1 h2)
    clear h1 h2
    have p02 := HL2.out.x.cell 0
    have HL3 := Lib.hid (HL2.out.below H hB (Below.refl _ _).drew)
    go_upto_region 17 with fail
    refine wp_region_held_drew (S := (fun w' => Blk w' w.heap.size 47 #[.int .u8 5, .int .i64 n, .slice (some ⟨b0, off0, none⟩) 1 cp0])) (by kernel_rfl) ?_ (fun hHeld => ?_)
    · exact HL3.out.x
    refine wpAnyH_take (i := 0) (oi := _) (v := ?_) rfl (by kernel_rfl) (by kernel_rfl) (by kernel_rfl) (fun _ _ _ h => h) (Or.inl ⟨by rfl, ?_⟩) (by assumption) ?_
    rotate_left
    · intro w' hSw
      (try dsimp only at hSw)
      have k0 := hSw.cell 0
      go_simp
      try with_reducible rfl
    try simp only [Act.put, List.getElem_toArray, List.getElem_cons_zero, List.setIfInBounds_toArray, List.set_cons_zero, List.set_cons_succ]
    refine wpAnyH_take (i := 1) (oi := _) (v := ?_) rfl (by kernel_rfl) (by kernel_rfl) (by kernel_rfl) (fun _ _ _ h => h) (Or.inl ⟨by rfl, ?_⟩) (by assumption) ?_
    rotate_left
    · intro w' hSw
      (try dsimp only at hSw)
      have k0 := hSw.cell 0
      go_simp
      try with_reducible rfl
    try simp only [Act.put, List.getElem_toArray, List.getElem_cons_zero, List.getElem_cons_succ, List.setIfInBounds_toArray, List.set_cons_zero, List.set_cons_succ]
    refine wpAnyH_take (i := 2) (oi := _) (v := ?_) rfl (by kernel_rfl) (by kernel_rfl) (by kernel_rfl) (fun _ _ _ h => h) (Or.inl ⟨by rfl, ?_⟩) (by assumption) ?_
    rotate_left
    · intro w' hSw
      (try dsimp only at hSw)
      have k0 := hSw.cell 0
      go_simp
      try with_reducible rfl
    try simp only [Act.put, List.getElem_toArray, List.getElem_cons_zero, List.getElem_cons_succ, List.setIfInBounds_toArray, List.set_cons_zero, List.set_cons_succ]
    refine wpAnyH_take (i := 4) (oi := _) (v := ?_) rfl (by kernel_rfl) (by kernel_rfl) (by kernel_rfl) (fun _ _ _ h => h) (Or.inl ⟨by rfl, ?_⟩) (by assumption) ?_
    rotate_left
    · intro w' hSw
      (try dsimp only at hSw)
      have k0 := hSw.cell 0
      go_simp
      try with_reducible rfl
    try simp only [Act.put, List.getElem_toArray, List.getElem_cons_zero, List.getElem_cons_succ, List.setIfInBounds_toArray, List.set_cons_zero, List.set_cons_succ]
    refine wpAnyH_take (i := 5) (oi := _) (v := ?_) rfl (by kernel_rfl) (by kernel_rfl) (by kernel_rfl) (fun _ _ _ h => h) (Or.inl ⟨by rfl, ?_⟩) (by assumption) ?_
    rotate_left
    · intro w' hSw
      (try dsimp only at hSw)
      have k0 := hSw.cell 0
      go_simp
      try with_reducible rfl
    try simp only [Act.put, List.getElem_toArray, List.getElem_cons_zero, List.getElem_cons_succ, List.setIfInBounds_toArray, List.set_cons_zero, List.set_cons_succ]
    refine wpAnyH_take (i := 6) (oi := _) (v := ?_) rfl (by kernel_rfl) (by kernel_rfl) (by kernel_rfl) (fun _ _ _ h => h) (Or.inl ⟨by rfl, ?_⟩) (by assumption) ?_
    rotate_left
    · intro w' hSw
      (try dsimp only at hSw)
      have k0 := hSw.cell 0
      go_simp
      try with_reducible rfl
    try simp only [Act.put, List.getElem_toArray, List.getElem_cons_zero, List.getElem_cons_succ, List.setIfInBounds_toArray, List.set_cons_zero, List.set_cons_succ]
    refine wpAnyH_ready (rs := [3]) (by kernel_rfl) (by simp) ?_
    refine AllReadyH.cons rfl (fun K hK => ?_) AllReadyH.nil
    go_simp
    go_at_call 96
    refine (sign_c 5 hop5 _).mono ?_
    rintro e w9 ⟨rfl, rfl⟩
    refine hK.out _ _ ?_ (fun hHeld => ?_)
    · exact HL3.out.x
    clear hK K
    try simp only [Act.put, List.getElem_toArray, List.getElem_cons_zero, List.getElem_cons_succ, List.setIfInBounds_toArray, List.set_cons_zero, List.set_cons_succ]
    refine wpAnyH_ready (rs := [7]) (by kernel_rfl) (by simp) ?_
    refine AllReadyH.cons rfl (fun K hK => ?_) AllReadyH.nil
    go_simp
    refine (H.part _ (sgnB 5) _ HL3.out.st (Nat.le_trans hB HL3.out.f.size) (by as_aux_lemma => (have := HZ.out; simp only [ByteArray.size_append] at this ⊢; omega))).mono ?_
    rintro e W9HL4 ⟨rfl, h1, h2⟩
    have HL4 := Lib.hid (HL3.out.write H hS h1 h2)
    clear h1 h2
    refine hK.out _ _ ?_ (fun hHeld => ?_)
    · exact HL4.out.x
    clear hK K
    try simp only [Act.put, List.getElem_toArray, List.getElem_cons_zero, List.getElem_cons_succ, List.setIfInBounds_toArray, List.set_cons_zero, List.set_cons_succ]
    refine wpAnyH_done (by kernel_rfl) ?_ _
    have p2HL5 := HL4.out.x.cell 2
    have d0HL5 := (HL4.out.f.below.cell (p := ⟨b0, off0, none⟩) hb0).trans c00
    have d1HL5 := (HL4.out.f.below.cell (p := ⟨b0, off0 + 1, none⟩) hb0).trans c01
    have d2HL5 := (HL4.out.f.below.cell (p := ⟨b0, off0 + 2, none⟩) hb0).trans c02
    go_wp2_with fail
    refine (IH.out a hht0 _ _ k _ hok0 hmay0 (HX0.out _ HL4.out.f.below) (Nat.le_trans hB HL4.out.f.size) HL4.out.st (by as_aux_lemma => (have := HZ.out; simp only [ByteArray.size_append] at this ⊢; omega))).mono ?_
    rintro e W9HL5 ⟨rfl, h1, h2⟩
    have HL5 := Lib.hid (HL4.out.write H hS h1 h2)
    clear h1 h2 p2HL5 d0HL5 d1HL5 d2HL5
    go_wp2_with fail
    refine (H.part _ kwShut _ HL5.out.st (Nat.le_trans hB HL5.out.f.size) (by as_aux_lemma => (have := HZ.out; simp only [ByteArray.size_append] at this ⊢; omega))).mono ?_
    rintro e W9HL6 ⟨rfl, h1, h2⟩
    have HL6 := Lib.hid (HL5.out.write H hS h1 h2)
    clear h1 h2
    go_wp2_with fail
    (try simp only [Exit.inBlock, Exit.then]); refine bodyPost_end (results_none rfl _ _ _) rfl ?_
    refine ⟨rfl, ?_, HL6.out.f⟩
    have hz := HL6.out.st
    simpa only [ByteArray.append_assoc] using hz
  · go_enter Tryz.func55, Tryz.ntmps55
    go_upto_region 1 with fail
    generalize World.alloc w _ = W at *
    go_wp2_with fail
    refine (H.part _ kwOpen _ hL1.out.st (Nat.le_trans hB hL1.out.f.size) (by as_aux_lemma => (have := HZ.out; simp only [ByteArray.size_append] at this ⊢; omega))).mono ?_
    rintro e W9HL2 ⟨rfl, h1, h2⟩
    have HL2 := Lib.hid (hL1.out.write H hS h1 h2)
    clear h1 h2
    have p02 := HL2.out.x.cell 0
    have HL3 := Lib.hid (HL2.out.below H hB (Below.refl _ _).drew)
    go_upto_region 17 with fail
    refine wp_region_held_drew (S := (fun w' => Blk w' w.heap.size 47 #[.int .u8 6, .int .i64 n, .slice (some ⟨b0, off0, none⟩) 1 cp0])) (by kernel_rfl) ?_ (fun hHeld => ?_)
    · exact HL3.out.x
    refine wpAnyH_take (i := 0) (oi := _) (v := ?_) rfl (by kernel_rfl) (by kernel_rfl) (by kernel_rfl) (fun _ _ _ h => h) (Or.inl ⟨by rfl, ?_⟩) (by assumption) ?_
    rotate_left
    · intro w' hSw
      (try dsimp only at hSw)
      have k0 := hSw.cell 0
      go_simp
      try with_reducible rfl
    try simp only [Act.put, List.getElem_toArray, List.getElem_cons_zero, List.setIfInBounds_toArray, List.set_cons_zero, List.set_cons_succ]
    refine wpAnyH_take (i := 1) (oi := _) (v := ?_) rfl (by kernel_rfl) (by kernel_rfl) (by kernel_rfl) (fun _ _ _ h => h) (Or.inl ⟨by rfl, ?_⟩) (by assumption) ?_
    rotate_left
    · intro w' hSw
      (try dsimp only at hSw)
      have k0 := hSw.cell 0
      go_simp
      try with_reducible rfl
    try simp only [Act.put, List.getElem_toArray, List.getElem_cons_zero, List.getElem_cons_succ, List.setIfInBounds_toArray, List.set_cons_zero, List.set_cons_succ]
    refine wpAnyH_take (i := 2) (oi := _) (v := ?_) rfl (by kernel_rfl) (by kernel_rfl) (by kernel_rfl) (fun _ _ _ h => h) (Or.inl ⟨by rfl, ?_⟩) (by assumption) ?_
    rotate_left
    · intro w' hSw
      (try dsimp only at hSw)
      have k0 := hSw.cell 0
      go_simp
      try with_reducible rfl
    try simp only [Act.put, List.getElem_toArray, List.getElem_cons_zero, List.getElem_cons_succ, List.setIfInBounds_toArray, List.set_cons_zero, List.set_cons_succ]
    refine wpAnyH_take (i := 4) (oi := _) (v := ?_) rfl (by kernel_rfl) (by kernel_rfl) (by kernel_rfl) (fun _ _ _ h => h) (Or.inl ⟨by rfl, ?_⟩) (by assumption) ?_
    rotate_left
    · intro w' hSw
      (try dsimp only at hSw)
      have k0 := hSw.cell 0
      go_simp
      try with_reducible rfl
    try simp only [Act.put, List.getElem_toArray, List.getElem_cons_zero, List.getElem_cons_succ, List.setIfInBounds_toArray, List.set_cons_zero, List.set_cons_succ]
    refine wpAnyH_take (i := 5) (oi := _) (v := ?_) rfl (by kernel_rfl) (by kernel_rfl) (by kernel_rfl) (fun _ _ _ h => h) (Or.inl ⟨by rfl, ?_⟩) (by assumption) ?_
    rotate_left
    · intro w' hSw
      (try dsimp only at hSw)
      have k0 := hSw.cell 0
      go_simp
      try with_reducible rfl
    try simp only [Act.put, List.getElem_toArray, List.getElem_cons_zero, List.getElem_cons_succ, List.setIfInBounds_toArray, List.set_cons_zero, List.set_cons_succ]
    refine wpAnyH_take (i := 6) (oi := _) (v := ?_) rfl (by kernel_rfl) (by kernel_rfl) (by kernel_rfl) (fun _ _ _ h => h) (Or.inl ⟨by rfl, ?_⟩) (by assumption) ?_
    rotate_left
    · intro w' hSw
      (try dsimp only at hSw)
      have k0 := hSw.cell 0
      go_simp
      try with_reducible rfl
    try simp only [Act.put, List.getElem_toArray, List.getElem_cons_zero, List.getElem_cons_succ, List.setIfInBounds_toArray, List.set_cons_zero, List.set_cons_succ]
    refine wpAnyH_ready (rs := [3]) (by kernel_rfl) (by simp) ?_
    refine AllReadyH.cons rfl (fun K hK => ?_) AllReadyH.nil
    go_simp
    go_at_call 96
    refine (sign_c 6 hop5 _).mono ?_
    rintro e w9 ⟨rfl, rfl⟩
    refine hK.out _ _ ?_ (fun hHeld => ?_)
    · exact HL3.out.x
    clear hK K
    try simp only [Act.put, List.getElem_toArray, List.getElem_cons_zero, List.getElem_cons_succ, List.setIfInBounds_toArray, List.set_cons_zero, List.set_cons_succ]
    refine wpAnyH_ready (rs := [7]) (by kernel_rfl) (by simp) ?_
    refine AllReadyH.cons rfl (fun K hK => ?_) AllReadyH.nil
    go_simp
    refine (H.part _ (sgnB 6) _ HL3.out.st (Nat.le_trans hB HL3.out.f.size) (by as_aux_lemma => (have := HZ.out; simp only [ByteArray.size_append] at this ⊢; omega))).mono ?_
    rintro e W9HL4 ⟨rfl, h1, h2⟩
    have HL4 := Lib.hid (HL3.out.write H hS h1 h2)
    clear h1 h2
    refine hK.out _ _ ?_ (fun hHeld => ?_)
    · exact HL4.out.x
    clear hK K
    try simp only [Act.put, List.getElem_toArray, List.getElem_cons_zero, List.getElem_cons_succ, List.setIfInBounds_toArray, List.set_cons_zero, List.set_cons_succ]
    refine wpAnyH_done (by kernel_rfl) ?_ _
    have p2HL5 := HL4.out.x.cell 2
    have d0HL5 := (HL4.out.f.below.cell (p := ⟨b0, off0, none⟩) hb0).trans c00
    have d1HL5 := (HL4.out.f.below.cell (p := ⟨b0, off0 + 1, none⟩) hb0).trans c01
    have d2HL5 := (HL4.out.f.below.cell (p := ⟨b0, off0 + 2, none⟩) hb0).trans c02
    go_wp2_with fail
    refine (IH.out a hht0 _ _ k _ hok0 hmay0 (HX0.out _ HL4.out.f.below) (Nat.le_trans hB HL4.out.f.size) HL4.out.st (by as_aux_lemma => (have := HZ.out; simp only [ByteArray.size_append] at this ⊢; omega))).mono ?_
    rintro e W9HL5 ⟨rfl, h1, h2⟩
    have HL5 := Lib.hid (HL4.out.write H hS h1 h2)
    clear h1 h2 p2HL5 d0HL5 d1HL5 d2HL5
    go_wp2_with fail
    refine (H.part _ kwShut _ HL5.out.st (Nat.le_trans hB HL5.out.f.size) (by as_aux_lemma => (have := HZ.out; simp only [ByteArray.size_append] at this ⊢; omega))).mono ?_
    rintro e W9HL6 ⟨rfl, h1, h2⟩
    have HL6 := Lib.hid (HL5.out.write H hS h1 h2)
    clear h1 h2
    go_wp2_with fail
    (try simp only [Exit.inBlock, Exit.then]); refine bodyPost_end (results_none rfl _ _ _) rfl ?_
    refine ⟨rfl, ?_, HL6.out.f⟩
    have hz := HL6.out.st
    simpa only [ByteArray.append_assoc] using hz

set_option maxRecDepth 100000 in
set_option maxHeartbeats 2000000 in
theorem line_two (B b : Nat) (t : TypeId) (pv : Value) (f : FuncId) (S : World → ByteArray → Prop) (H : Wr B b t pv f S) (x a c : Ex) (IH : Hid (LineIH B b t pv S x.ht)) (v : Value) (w : World) (k : Nat) (acc : ByteArray) (hv : ExAt w B v x) (hB : B ≤ w.heap.size) (hS : S w acc) (hm : acc.size + x.line.size ≤ 140737488355328) (hop5 : 5 ≤ x.op ∧ x.op ≤ 17) (hop7 : 7 ≤ x.op) (hargs : x.args = [a, c]) (hok0 : a.ok) (hmay0 : mayB k a = true) (hok1 : c.ok) (hmay1 : mayB k c = true) :
    Calls Tryz.prog 55 #[.iface t pv, v] w fun e w' => e = .returned (.tuple #[]) ∧ S w' (acc ++ x.line) ∧ WF B b w w' := by
  have hl : x.line = (((kwOpen ++ a.line) ++ ((kwBlank ++ sgnB x.op) ++ kwBlank)) ++ c.line) ++ kwShut := by
    rw [Ex.line_eq, hargs]
    unfold lineOp
    rw [if_neg (by omega), if_neg (by omega), if_neg (by omega), if_neg (by omega), if_neg (by omega), if_neg (by omega)]
    rfl
  obtain ⟨sv, rfl, hs⟩ := hv
  have hlen : x.args.length = 2 := by rw [hargs]; rfl
  obtain ⟨b0, off0, cp0, s0, e0, hb0, c00, c01, c02, hsub0⟩ := hs.at_ 0 (by omega)
  simp only [hargs, List.getElem_cons_zero, Nat.zero_mul, Nat.add_zero] at c00 c01 c02 hsub0
  obtain ⟨b1, off1, cp1, s1, e1, hb1, c10, c11, c12, hsub1⟩ := hs.at_ 1 (by omega)
  simp only [hargs, List.getElem_cons_succ, List.getElem_cons_zero, Nat.one_mul] at c10 c11 c12 hsub1
  rw [hlen] at e0 e1
  subst e0
  simp only [Value.slice.injEq, true_and, Option.some.injEq, Addr.mk.injEq, and_true] at e1
  obtain ⟨⟨rfl, rfl⟩, rfl⟩ := e1
  have hL := LnW.new H hS hB x.op x.n (.slice (some ⟨b0, off0, none⟩) 2 cp0)
  obtain ⟨sa0, sc0, rfl, _, _⟩ := hsub0.slice
  have HX0 : Hid (∀ W, Below B w W → ExAt W B (.agg #[.int .u8 a.op, .int .i64 a.n, .slice sa0 a.args.length sc0]) a) := fun W hb => ⟨_, rfl, hsub0.keep hb⟩
  have hht0 : a.ht < x.ht := Ex.ht_args x a (by simp [hargs])
  obtain ⟨sa1, sc1, rfl, _, _⟩ := hsub1.slice
  have HX1 : Hid (∀ W, Below B w W → ExAt W B (.agg #[.int .u8 c.op, .int .i64 c.n, .slice sa1 c.args.length sc1]) c) := fun W hb => ⟨_, rfl, hsub1.keep hb⟩
  have hht1 : c.ht < x.ht := Ex.ht_args x c (by simp [hargs])
  have md := H.md
  have eg := H.eg
  have na := H.na
  rw [hl] at hm ⊢
  clear hl
  have hsz := sgnB_size x.op
  generalize x.op = o at *
  have q1 : (o == 1) = false := by simp; omega
  have q2 : (o == 2) = false := by simp; omega
  have q3 : (o == 3) = false := by simp; omega
  have q4 : (o == 4) = false := by simp; omega
  have q5 : (o == 5) = false := by simp; omega
  have q6 : (o == 6) = false := by simp; omega
  have q18 : (o == 18) = false := by simp; omega
  generalize x.n = n at *
  generalize hx0 : a.op = ao0 at *
  generalize hy0 : a.n = an0 at *
  generalize hk0 : a.args.length = al0 at *
  generalize hx1 : c.op = ao1 at *
  generalize hy1 : c.n = an1 at *
  generalize hk1 : c.args.length = al1 at *
  clear hx0 hy0 hk0 hsub0 hx1 hy1 hk1 hsub1 hs hlen hargs
  have HZ := Lib.hid hm
  clear hm
  have hL1 : Hid (LnW B b S w _ acc _ _ _) := hL
  have p0 := hL1.out.x.cell 0
  go_enter Tryz.func55, Tryz.ntmps55
  go_upto_region 1 with fail
  generalize World.alloc w _ = W at *
  go_wp2_with fail
  refine (H.part _ kwOpen _ hL1.out.st (Nat.le_trans hB hL1.out.f.size) (by as_aux_lemma => (have := HZ.out; simp only [ByteArray.size_append] at this ⊢; omega))).mono ?_
  rintro e W9HL2 ⟨rfl, h1, h2⟩
  have HL2 := Lib.hid (hL1.out.write H hS h1 h2)
  clear h1 h2
  have p02 := HL2.out.x.cell 0
  have p2HL3 := HL2.out.x.cell 2
  have d0HL3 := (HL2.out.f.below.cell (p := ⟨b0, off0, none⟩) hb0).trans c00
  have d1HL3 := (HL2.out.f.below.cell (p := ⟨b0, off0 + 1, none⟩) hb0).trans c01
  have d2HL3 := (HL2.out.f.below.cell (p := ⟨b0, off0 + 2, none⟩) hb0).trans c02
  go_wp2_with fail
  refine (IH.out a hht0 _ _ k _ hok0 hmay0 (HX0.out _ HL2.out.f.below) (Nat.le_trans hB HL2.out.f.size) HL2.out.st (by as_aux_lemma => (have := HZ.out; simp only [ByteArray.size_append] at this ⊢; omega))).mono ?_
  rintro e W9HL3 ⟨rfl, h1, h2⟩
  have HL3 := Lib.hid (HL2.out.write H hS h1 h2)
  clear h1 h2 p2HL3 d0HL3 d1HL3 d2HL3
  have HL4 := Lib.hid (HL3.out.below H hB (Below.refl _ _).drew)
  go_upto_region 13 with fail
  refine wp_region_held_drew (S := (fun w' => Blk w' w.heap.size 47 #[.int .u8 o, .int .i64 n, .slice (some ⟨b0, off0, none⟩) 2 cp0])) (by kernel_rfl) ?_ (fun hHeld => ?_)
  · exact HL4.out.x
  refine wpAnyH_take (i := 0) (oi := _) (v := ?_) rfl (by kernel_rfl) (by kernel_rfl) (by kernel_rfl) (fun _ _ _ h => h) (Or.inl ⟨by rfl, ?_⟩) (by assumption) ?_
  rotate_left
  · intro w' hSw
    (try dsimp only at hSw)
    have k0 := hSw.cell 0
    go_simp
    try with_reducible rfl
  try simp only [Act.put, List.getElem_toArray, List.getElem_cons_zero, List.setIfInBounds_toArray, List.set_cons_zero, List.set_cons_succ]
  refine wpAnyH_take (i := 1) (oi := _) (v := ?_) rfl (by kernel_rfl) (by kernel_rfl) (by kernel_rfl) (fun _ _ _ h => h) (Or.inl ⟨by rfl, ?_⟩) (by assumption) ?_
  rotate_left
  · intro w' hSw
    (try dsimp only at hSw)
    have k0 := hSw.cell 0
    go_simp
    try with_reducible rfl
  try simp only [Act.put, List.getElem_toArray, List.getElem_cons_zero, List.getElem_cons_succ, List.setIfInBounds_toArray, List.set_cons_zero, List.set_cons_succ]
  refine wpAnyH_take (i := 2) (oi := _) (v := ?_) rfl (by kernel_rfl) (by kernel_rfl) (by kernel_rfl) (fun _ _ _ h => h) (Or.inl ⟨by rfl, ?_⟩) (by assumption) ?_
  rotate_left
  · intro w' hSw
    (try dsimp only at hSw)
    have k0 := hSw.cell 0
    go_simp
    try with_reducible rfl
  try simp only [Act.put, List.getElem_toArray, List.getElem_cons_zero, List.getElem_cons_succ, List.setIfInBounds_toArray, List.set_cons_zero, List.set_cons_succ]
  refine wpAnyH_take (i := 6) (oi := _) (v := ?_) rfl (by kernel_rfl) (by kernel_rfl) (by kernel_rfl) (fun _ _ _ h => h) (Or.inl ⟨by rfl, ?_⟩) (by assumption) ?_
  rotate_left
  · intro w' hSw
    (try dsimp only at hSw)
    have k0 := hSw.cell 0
    go_simp
    try with_reducible rfl
  try simp only [Act.put, List.getElem_toArray, List.getElem_cons_zero, List.getElem_cons_succ, List.setIfInBounds_toArray, List.set_cons_zero, List.set_cons_succ]
  refine wpAnyH_take (i := 7) (oi := _) (v := ?_) rfl (by kernel_rfl) (by kernel_rfl) (by kernel_rfl) (fun _ _ _ h => h) (Or.inl ⟨by rfl, ?_⟩) (by assumption) ?_
  rotate_left
  · intro w' hSw
    (try dsimp only at hSw)
    have k0 := hSw.cell 0
    go_simp
    try with_reducible rfl
  try simp only [Act.put, List.getElem_toArray, List.getElem_cons_zero, List.getElem_cons_succ, List.setIfInBounds_toArray, List.set_cons_zero, List.set_cons_succ]
  refine wpAnyH_take (i := 8) (oi := _) (v := ?_) rfl (by kernel_rfl) (by kernel_rfl) (by kernel_rfl) (fun _ _ _ h => h) (Or.inl ⟨by rfl, ?_⟩) (by assumption) ?_
  rotate_left
  · intro w' hSw
    (try dsimp only at hSw)
    have k0 := hSw.cell 0
    go_simp
    try with_reducible rfl
  try simp only [Act.put, List.getElem_toArray, List.getElem_cons_zero, List.getElem_cons_succ, List.setIfInBounds_toArray, List.set_cons_zero, List.set_cons_succ]
  refine wpAnyH_ready (rs := [3]) (by kernel_rfl) (by simp) ?_
  refine AllReadyH.cons rfl (fun K hK => ?_) AllReadyH.nil
  go_simp
  go_at_call 96
  refine (sign_c o hop5 _).mono ?_
  rintro e w9 ⟨rfl, rfl⟩
  refine hK.out _ _ ?_ (fun hHeld => ?_)
  · exact HL4.out.x
  clear hK K
  try simp only [Act.put, List.getElem_toArray, List.getElem_cons_zero, List.getElem_cons_succ, List.setIfInBounds_toArray, List.set_cons_zero, List.set_cons_succ]
  refine wpAnyH_take (i := 4) (oi := _) (v := ?_) rfl (by kernel_rfl) (by kernel_rfl) (by kernel_rfl) (fun _ _ _ h => h) (Or.inl ⟨by rfl, ?_⟩) (by assumption) ?_
  rotate_left
  · intro w' hSw
    (try dsimp only at hSw)
    have k0 := hSw.cell 0
    go_simp
    rw [if_neg (by simp; omega)]
    try with_reducible rfl
  try simp only [Act.put, List.getElem_toArray, List.getElem_cons_zero, List.getElem_cons_succ, List.setIfInBounds_toArray, List.set_cons_zero, List.set_cons_succ]
  refine wpAnyH_take (i := 5) (oi := _) (v := ?_) rfl (by kernel_rfl) (by kernel_rfl) (by kernel_rfl) (fun _ _ _ h => h) (Or.inl ⟨by rfl, ?_⟩) (by assumption) ?_
  rotate_left
  · intro w' hSw
    (try dsimp only at hSw)
    have k0 := hSw.cell 0
    go_simp
    rw [if_neg (by simp; omega)]
    try with_reducible rfl
  try simp only [Act.put, List.getElem_toArray, List.getElem_cons_zero, List.getElem_cons_succ, List.setIfInBounds_toArray, List.set_cons_zero, List.set_cons_succ]
  refine wpAnyH_ready (rs := [9]) (by kernel_rfl) (by simp) ?_
  refine AllReadyH.cons rfl (fun K hK => ?_) AllReadyH.nil
  go_simp
  refine (H.part _ ((kwBlank ++ sgnB o) ++ kwBlank) _ HL4.out.st (Nat.le_trans hB HL4.out.f.size) (by as_aux_lemma => (have := HZ.out; simp only [ByteArray.size_append] at this ⊢; omega))).mono ?_
  rintro e W9HL5 ⟨rfl, h1, h2⟩
  have HL5 := Lib.hid (HL4.out.write H hS h1 h2)
  clear h1 h2
  refine hK.out _ _ ?_ (fun hHeld => ?_)
  · exact HL5.out.x
  clear hK K
  try simp only [Act.put, List.getElem_toArray, List.getElem_cons_zero, List.getElem_cons_succ, List.setIfInBounds_toArray, List.set_cons_zero, List.set_cons_succ]
  refine wpAnyH_done (by kernel_rfl) ?_ _
  have p2HL6 := HL5.out.x.cell 2
  have d0HL6 := (HL5.out.f.below.cell (p := ⟨b0, off0 + 3, none⟩) hb0).trans c10
  have d1HL6 := (HL5.out.f.below.cell (p := ⟨b0, off0 + 3 + 1, none⟩) hb0).trans c11
  have d2HL6 := (HL5.out.f.below.cell (p := ⟨b0, off0 + 3 + 2, none⟩) hb0).trans c12
  have f1HL6 : World.cell? _ ⟨b0, off0 + 4, none⟩ = _ := d1HL6
  have f2HL6 : World.cell? _ ⟨b0, off0 + 5, none⟩ = _ := d2HL6
  go_wp2_with fail
  refine (IH.out c hht1 _ _ k _ hok1 hmay1 (HX1.out _ HL5.out.f.below) (Nat.le_trans hB HL5.out.f.size) HL5.out.st (by as_aux_lemma => (have := HZ.out; simp only [ByteArray.size_append] at this ⊢; omega))).mono ?_
  rintro e W9HL6 ⟨rfl, h1, h2⟩
  have HL6 := Lib.hid (HL5.out.write H hS h1 h2)
  clear h1 h2 p2HL6 d0HL6 d1HL6 d2HL6 f1HL6 f2HL6
  go_wp2_with fail
  refine (H.part _ kwShut _ HL6.out.st (Nat.le_trans hB HL6.out.f.size) (by as_aux_lemma => (have := HZ.out; simp only [ByteArray.size_append] at this ⊢; omega))).mono ?_
  rintro e W9HL7 ⟨rfl, h1, h2⟩
  have HL7 := Lib.hid (HL6.out.write H hS h1 h2)
  clear h1 h2
  go_wp2_with fail
  (try simp only [Exit.inBlock, Exit.then]); refine bodyPost_end (results_none rfl _ _ _) rfl ?_
  refine ⟨rfl, ?_, HL7.out.f⟩
  have hz := HL7.out.st
  simpa only [ByteArray.append_assoc] using hz

theorem index_word0 (w : World) : (Instr.index 144 (.agg #[.string { data := #[105, 102, 32] }, .string { data := #[32, 116, 104, 101, 110, 32] }, .string { data := #[32, 101, 108, 115, 101, 32] }]) (.int .i64 0)).run Tryz.prog w = .ok (.string { data := #[105, 102, 32] }) w := by kernel_rfl
theorem index_word1 (w : World) : (Instr.index 144 (.agg #[.string { data := #[105, 102, 32] }, .string { data := #[32, 116, 104, 101, 110, 32] }, .string { data := #[32, 101, 108, 115, 101, 32] }]) (.int .i64 1)).run Tryz.prog w = .ok (.string { data := #[32, 116, 104, 101, 110, 32] }) w := by kernel_rfl
theorem index_word2 (w : World) : (Instr.index 144 (.agg #[.string { data := #[105, 102, 32] }, .string { data := #[32, 116, 104, 101, 110, 32] }, .string { data := #[32, 101, 108, 115, 101, 32] }]) (.int .i64 2)).run Tryz.prog w = .ok (.string { data := #[32, 101, 108, 115, 101, 32] }) w := by kernel_rfl

set_option maxRecDepth 100000 in
set_option maxHeartbeats 2000000 in
theorem line_if (B b : Nat) (t : TypeId) (pv : Value) (f : FuncId) (S : World → ByteArray → Prop) (H : Wr B b t pv f S) (x a c e : Ex) (IH : Hid (LineIH B b t pv S x.ht)) (v : Value) (w : World) (k : Nat) (acc : ByteArray) (hv : ExAt w B v x) (hB : B ≤ w.heap.size) (hS : S w acc) (hm : acc.size + x.line.size ≤ 140737488355328) (hop : x.op = 18) (hargs : x.args = [a, c, e]) (hok0 : a.ok) (hmay0 : mayB k a = true) (hok1 : c.ok) (hmay1 : mayB k c = true) (hok2 : e.ok) (hmay2 : mayB k e = true) :
    Calls Tryz.prog 55 #[.iface t pv, v] w fun e w' => e = .returned (.tuple #[]) ∧ S w' (acc ++ x.line) ∧ WF B b w w' := by
  have hl : x.line = ((((((kwOpen ++ kwIf) ++ a.line) ++ kwThen) ++ c.line) ++ kwElse) ++ e.line) ++ kwShut := by
    rw [Ex.line_eq, hargs, hop]
    rfl
  obtain ⟨sv, rfl, hs⟩ := hv
  have hlen : x.args.length = 3 := by rw [hargs]; rfl
  obtain ⟨b0, off0, cp0, s0, e0, hb0, c00, c01, c02, hsub0⟩ := hs.at_ 0 (by omega)
  simp only [hargs, List.getElem_cons_zero, Nat.zero_mul, Nat.add_zero] at c00 c01 c02 hsub0
  obtain ⟨b1, off1, cp1, s1, e1, hb1, c10, c11, c12, hsub1⟩ := hs.at_ 1 (by omega)
  simp only [hargs, List.getElem_cons_succ, List.getElem_cons_zero, Nat.one_mul] at c10 c11 c12 hsub1
  obtain ⟨b2, off2, cp2, s2, e2, hb2, c20, c21, c22, hsub2⟩ := hs.at_ 2 (by omega)
  simp only [hargs, List.getElem_cons_succ, List.getElem_cons_zero, Nat.reduceMul] at c20 c21 c22 hsub2
  rw [hlen] at e0 e1 e2
  subst e0
  simp only [Value.slice.injEq, true_and, Option.some.injEq, Addr.mk.injEq, and_true] at e1
  obtain ⟨⟨rfl, rfl⟩, rfl⟩ := e1
  simp only [Value.slice.injEq, true_and, Option.some.injEq, Addr.mk.injEq, and_true] at e2
  obtain ⟨⟨rfl, rfl⟩, rfl⟩ := e2
  have hL := LnW.new H hS hB x.op x.n (.slice (some ⟨b0, off0, none⟩) 3 cp0)
  obtain ⟨sa0, sc0, rfl, _, _⟩ := hsub0.slice
  have HX0 : Hid (∀ W, Below B w W → ExAt W B (.agg #[.int .u8 a.op, .int .i64 a.n, .slice sa0 a.args.length sc0]) a) := fun W hb => ⟨_, rfl, hsub0.keep hb⟩
  have hht0 : a.ht < x.ht := Ex.ht_args x a (by simp [hargs])
  obtain ⟨sa1, sc1, rfl, _, _⟩ := hsub1.slice
  have HX1 : Hid (∀ W, Below B w W → ExAt W B (.agg #[.int .u8 c.op, .int .i64 c.n, .slice sa1 c.args.length sc1]) c) := fun W hb => ⟨_, rfl, hsub1.keep hb⟩
  have hht1 : c.ht < x.ht := Ex.ht_args x c (by simp [hargs])
  obtain ⟨sa2, sc2, rfl, _, _⟩ := hsub2.slice
  have HX2 : Hid (∀ W, Below B w W → ExAt W B (.agg #[.int .u8 e.op, .int .i64 e.n, .slice sa2 e.args.length sc2]) e) := fun W hb => ⟨_, rfl, hsub2.keep hb⟩
  have hht2 : e.ht < x.ht := Ex.ht_args x e (by simp [hargs])
  have md := H.md
  have eg := H.eg
  have ix0 := index_word0
  have ix1 := index_word1
  have ix2 := index_word2
  rw [hl] at hm ⊢
  rw [hop] at hL ⊢
  clear hl hop
  generalize x.n = n at *
  generalize hx0 : a.op = ao0 at *
  generalize hy0 : a.n = an0 at *
  generalize hk0 : a.args.length = al0 at *
  generalize hx1 : c.op = ao1 at *
  generalize hy1 : c.n = an1 at *
  generalize hk1 : c.args.length = al1 at *
  generalize hx2 : e.op = ao2 at *
  generalize hy2 : e.n = an2 at *
  generalize hk2 : e.args.length = al2 at *
  clear hx0 hy0 hk0 hsub0 hx1 hy1 hk1 hsub1 hx2 hy2 hk2 hsub2 hs hlen hargs
  have HZ := Lib.hid hm
  clear hm
  have hL1 : Hid (LnW B b S w _ acc _ _ _) := hL
  have p0 := hL1.out.x.cell 0
  go_enter Tryz.func55, Tryz.ntmps55
  go_upto_region 1 with fail
  generalize World.alloc w _ = W at *
  go_wp2_with fail
  refine (H.part _ kwOpen _ hL1.out.st (Nat.le_trans hB hL1.out.f.size) (by as_aux_lemma => (have := HZ.out; simp only [ByteArray.size_append] at this ⊢; omega))).mono ?_
  rintro e W9HM0 ⟨rfl, h1, h2⟩
  have HM0 := Lib.hid (hL1.out.write H hS h1 h2)
  clear h1 h2
  have p02 := HM0.out.x.cell 0
  go_wp2_with fail
  refine wp_loop_rounds 4 ?_
  rw [rounds_succ]
  go_wp2_with fail
  refine (H.part _ kwIf _ HM0.out.st (Nat.le_trans hB HM0.out.f.size) (by as_aux_lemma => (have := HZ.out; simp only [ByteArray.size_append] at this ⊢; omega))).mono ?_
  rintro e W9HN0 ⟨rfl, h1, h2⟩
  have HN0 := Lib.hid (HM0.out.write H hS h1 h2)
  clear h1 h2
  have p2HM1 := HN0.out.x.cell 2
  have d0HM1 := (HN0.out.f.below.cell (p := ⟨b0, off0, none⟩) hb0).trans c00
  have d1HM1 := (HN0.out.f.below.cell (p := ⟨b0, off0 + 1, none⟩) hb0).trans c01
  have d2HM1 := (HN0.out.f.below.cell (p := ⟨b0, off0 + 2, none⟩) hb0).trans c02
  go_wp2_with fail
  refine (IH.out a hht0 _ _ k _ hok0 hmay0 (HX0.out _ HN0.out.f.below) (Nat.le_trans hB HN0.out.f.size) HN0.out.st (by as_aux_lemma => (have := HZ.out; simp only [ByteArray.size_append] at this ⊢; omega))).mono ?_
  rintro e W9HM1 ⟨rfl, h1, h2⟩
  have HM1 := Lib.hid (HN0.out.write H hS h1 h2)
  clear h1 h2 p2HM1 d0HM1 d1HM1 d2HM1
  go_wp2_with fail
  rw [rounds_succ]
  go_wp2_with fail
  refine (H.part _ kwThen _ HM1.out.st (Nat.le_trans hB HM1.out.f.size) (by as_aux_lemma => (have := HZ.out; simp only [ByteArray.size_append] at this ⊢; omega))).mono ?_
  rintro e W9HN1 ⟨rfl, h1, h2⟩
  have HN1 := Lib.hid (HM1.out.write H hS h1 h2)
  clear h1 h2
  have p2HM2 := HN1.out.x.cell 2
  have d0HM2 := (HN1.out.f.below.cell (p := ⟨b0, off0 + 3, none⟩) hb0).trans c10
  have d1HM2 := (HN1.out.f.below.cell (p := ⟨b0, off0 + 3 + 1, none⟩) hb0).trans c11
  have d2HM2 := (HN1.out.f.below.cell (p := ⟨b0, off0 + 3 + 2, none⟩) hb0).trans c12
  have f1HM2 : World.cell? _ ⟨b0, off0 + 4, none⟩ = _ := d1HM2
  have f2HM2 : World.cell? _ ⟨b0, off0 + 5, none⟩ = _ := d2HM2
  go_wp2_with fail
  refine (IH.out c hht1 _ _ k _ hok1 hmay1 (HX1.out _ HN1.out.f.below) (Nat.le_trans hB HN1.out.f.size) HN1.out.st (by as_aux_lemma => (have := HZ.out; simp only [ByteArray.size_append] at this ⊢; omega))).mono ?_
  rintro e W9HM2 ⟨rfl, h1, h2⟩
  have HM2 := Lib.hid (HN1.out.write H hS h1 h2)
  clear h1 h2 p2HM2 d0HM2 d1HM2 d2HM2 f1HM2 f2HM2
  go_wp2_with fail
  rw [rounds_succ]
  go_wp2_with fail
  refine (H.part _ kwElse _ HM2.out.st (Nat.le_trans hB HM2.out.f.size) (by as_aux_lemma => (have := HZ.out; simp only [ByteArray.size_append] at this ⊢; omega))).mono ?_
  rintro e W9HN2 ⟨rfl, h1, h2⟩
  have HN2 := Lib.hid (HM2.out.write H hS h1 h2)
  clear h1 h2
  have p2HM3 := HN2.out.x.cell 2
  have d0HM3 := (HN2.out.f.below.cell (p := ⟨b0, off0 + 6, none⟩) hb0).trans c20
  have d1HM3 := (HN2.out.f.below.cell (p := ⟨b0, off0 + 6 + 1, none⟩) hb0).trans c21
  have d2HM3 := (HN2.out.f.below.cell (p := ⟨b0, off0 + 6 + 2, none⟩) hb0).trans c22
  have f1HM3 : World.cell? _ ⟨b0, off0 + 7, none⟩ = _ := d1HM3
  have f2HM3 : World.cell? _ ⟨b0, off0 + 8, none⟩ = _ := d2HM3
  go_wp2_with fail
  refine (IH.out e hht2 _ _ k _ hok2 hmay2 (HX2.out _ HN2.out.f.below) (Nat.le_trans hB HN2.out.f.size) HN2.out.st (by as_aux_lemma => (have := HZ.out; simp only [ByteArray.size_append] at this ⊢; omega))).mono ?_
  rintro e W9HM3 ⟨rfl, h1, h2⟩
  have HM3 := Lib.hid (HN2.out.write H hS h1 h2)
  clear h1 h2 p2HM3 d0HM3 d1HM3 d2HM3 f1HM3 f2HM3
  go_wp2_with fail
  rw [rounds_succ]
  go_wp2_with fail
  refine (H.part _ kwShut _ HM3.out.st (Nat.le_trans hB HM3.out.f.size) (by as_aux_lemma => (have := HZ.out; simp only [ByteArray.size_append] at this ⊢; omega))).mono ?_
  rintro e W9HL7 ⟨rfl, h1, h2⟩
  have HL7 := Lib.hid (HM3.out.write H hS h1 h2)
  clear h1 h2
  go_wp2_with fail
  (try simp only [Exit.inBlock, Exit.then]); refine bodyPost_end (results_none rfl _ _ _) rfl ?_
  refine ⟨rfl, ?_, HL7.out.f⟩
  have hz := HL7.out.st
  simpa only [ByteArray.append_assoc] using hz

end Go.Proofs.YtjbchkgkapccnaaGreatDoor
